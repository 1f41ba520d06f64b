/- Proved: lemmas for the law of this folder, part 6. No condition. -/
import Derived.Test.YtokkbgpgaheakaaGreatRows
import Derived.WalkKit
import Derived.WalkSpells
import Derived.WalkLawsBesides
import Derived.Lib.Hide
import Derived.Laws.CopyOwn
import Derived.Deep.QuietTactic
import Derived.BigQuiet
import Derived.Orders
import Derived.Defers
import Derived.Recover
import Derived.Test.YtokkbgpgaheakaaGreatProg
import Derived.KernelRfl
import Derived.ProofKit
import Derived.OpenShut
import Derived.Maps.OwnRows
import Derived.Maps.Views
import Derived.Deep.RegionHeld3
import Derived.Deep.AppendLies
import Derived.Test.YtokkbgpgaheakaaGreatZ0c8ed4c8
set_option linter.unusedSimpArgs false
set_option linter.unusedVariables false
set_option maxRecDepth 100000
namespace Go.Proofs.YtokkbgpgaheakaaGreat
theorem Z3{α:Type}(pre:List α)(a b:α)(r:List α):(pre++a::r).set pre.length b=pre++b::r:=by
 rw[List.set_append_right _ _ (Nat.le_refl _),Nat.sub_self];rfl
theorem Ad0{α:Type}(pre:List α)(a:α)(r:List α):(pre++a::r)[pre.length]? = some a:=by
 rw[List.getElem?_append_right (Nat.le_refl _),Nat.sub_self];rfl
theorem Ac1(n:Nat) : ∀ (m:Nat) (A M B:List Int),M.length<2*m→A.length+M.length+B.length≤1000000 →
  Tw (F3 n m ((A++M++B).map D.int) (A.length:Int) (((A.length+M.length:Nat):Int)-1)) [dI (A++M.reverse++B)]
 | 0,A,M,B,h,_=>absurd h (by omega)
 | m+1,A,M,B,h,hl=>by
  rw[Rg]
  by_cases h2:2≤M.length
  · obtain ⟨x,M',y,rfl⟩ : ∃ x M' y,M=x::(M'++[y]):=by
     match M,h2 with
     | x::R,h2 =>
      rcases List.eq_nil_or_concat R with rfl | ⟨M',y,rfl⟩
      · simp at h2
      · exact ⟨x,M',y,by simp⟩
    simp only[List.length_cons,List.length_append,List.length_nil]at h hl
    have e1:A++x::(M'++[y])++B=A++x::(M'++y::B):=by simp
    have e2:A++x::(M'++[y])++B=(A++x::M')++y::B:=by simp
    have e3:A++y::(M'++y::B)=(A++y::M')++y::B:=by simp
    have l3:A.length+M'.length+1=(A++y::M').length:=by simp;omega
    have h1:(A++x::(M'++[y])++B)[A.length]? = some x:=by rw[e1];exact Ad0 A x _
    have h3:(A++x::(M'++[y])++B)[A.length+M'.length+1]? = some y:=by
     rw[e2,show A.length+M'.length+1=(A++x::M').length by simp;omega];exact Ad0 _ y _
    have hj:((A.length+(x::(M'++[y])).length:Nat):Int)-1=((A.length+M'.length+1:Nat):Int):=by simp;omega
    have hlen:(A++x::(M'++[y])++B).length=A.length+M'.length+2+B.length:=by simp;omega
    have hw:IntKind.wrap .i64 (((A.length+M'.length+1:Nat):Int)-1)=(((A++[y]).length+M'.length:Nat):Int)-1:=by rw[Ap (by omega) (by omega)];simp;omega
    have hw2:((A.length+1:Nat):Int)=((A++[y]).length:Int):=by simp
    simp only[hj,Int.toNat_natCast,Aj h1,Aj h3,Ah,List.length_map,List.length_set,hlen]
    refine Ae (Ae (Ae (Ae (Ae (Ae (Ae (Ae (Ae ?_))))))))
    rw[hw,An (by omega),hw2,← List.map_set,← List.map_set]
    have e4:((A++x::(M'++[y])++B).set A.length y).set (A.length+M'.length+1) x=(A++[y])++M'++(x::B):=by
     rw[e1,Z3,e3,l3,Z3];simp
    rw[e4]
    have:=Ac1 n m (A++[y]) M' (x::B) (by omega) (by simp;omega)
    simpa using this
  · refine Am (by omega) (Ac ?_)
    have:M.reverse=M:=by
     match M,h2 with
     | [],_=>rfl
     | [x],_=>rfl
     | x::y::r,h2=>exact absurd (by simp) h2
    rw[this];rfl
theorem RX(l:List Int)(h:l.length≤1000000):Sp 144 [dI l] [dI l.reverse]:=by
 refine Ag (l.length+1) (U5 _ _) ?_
 simp only[Bx,List.length_map]
 rw[OM (by omega)]
 simpa using Ac1 (l.length+1) (l.length+1) [] l [] (by omega) (by simpa using h)
def Rx(s:List Int)(i:Int):List Int:=if (Ay s).2=0∧0≤i∧i<(Ay s).1 then KP s i else []
theorem AiC(s:List Int)(i:Int):((atD s i).getD 0 D.nil).els=(Rx s i).map D.int:=by
 unfold atD Rx
 split <;> rfl
theorem AiD(s:List Int)(i:Int):(Rx s i).length≤s.length:=by
 unfold Rx
 split
 · rw[Wd];exact Nat.le_refl _
 · simp
theorem AiO(o:Option Int):((PI o).getD 0 D.nil).toInt=o.getD 0:=by cases o <;> rfl
def mvC(a:Arr)(s:List Int)(g:List Int→List Int)(i:Nat):Cell:=a.cells.getD ((Sl a.shape (g (Rx s (i:Int)))).getD 0).toNat (B5 0)
def LD(a:Arr)(s:List Int)(g:List Int→List Int):Arr:= .mk a.s s ((List.range a.cells.length).map (mvC a s g))
theorem V2(F:D)(g:List Int→List Int)(a:Arr)(s:List Int)(ha:Ay a.shape=((a.cells.length:Int),0))(hs:s.length≤1000)
  (hF : ∀ (n m3:Nat) (s1:D) (cells7:List D) (t19:Int) (t20:Int) (a3:D) (t6_0:Int),Cx n (m3+1) s1 F cells7 t19 t20 a3 t6_0 =
   .br (decide (t20<t19)) (.call 175 [] [s1,D.int t20] fun yy1 =>
   .call F.fnId F.fnCts ([D.sl ((yy1.getD 0 D.nil).els)]++F.fnDs) fun yy2 =>
   .call 176 [] [a3.fld 1,D.sl ((yy2.getD 0 D.nil).els)] fun yy3 =>
   .br (decide (0≤(yy3.getD 0 D.nil).toInt)) (.br (decide ((yy3.getD 0 D.nil).toInt<(((a3.fld 2).els).length:Int))) (.br (decide (cells7.length + [((a3.fld 2).els).getD (Int.toNat ((yy3.getD 0 D.nil).toInt)) D.nil].length≤Ar)) (Cx n m3 s1 F (cells7++[((a3.fld 2).els).getD (Int.toNat ((yy3.getD 0 D.nil).toInt)) D.nil]) t19 (IntKind.wrap .i64 (t20+1)) a3 t6_0) .fail) .fail) .fail)
   (.call 96 [] [s1] fun yy4 =>
   .ret [D.agg [D.int ((a3.fld 0).toInt),D.sl ((yy4.getD 0 D.nil).els),D.sl cells7]]))
  (hg : ∀ i:Nat,i<a.cells.length→Ia Tryz.prog md F.fnId F.fnCts (dI (Rx s (i:Int))::F.fnDs) [dI (g (Rx s (i:Int)))]∧(g (Rx s (i:Int))).length≤1000000) :
  Tw (Cx 4096 4096 (dI s) F [] (a.cells.length:Int) 0 (dA a) 0) [dA (LD a s g)]:=by
 have hle:=(Fj a.shape).2
 rw[ha]at hle
 have hK:a.cells.length≤2048:=by simp only at hle;omega
 have key:=C4 (P:=Tryz.prog) (md:=md) a.cells.length (fun m k (_:Unit)=>Cx 4096 m (dI s) F (((List.range k).map (mvC a s g)).map dC) (a.cells.length:Int) (k:Int) (dA a) 0) (fun _ _=>[dA (LD a s g)]) (fun _ _=>True)
  (fun m _ _=>by
    rw[hF]
    refine Am (by omega) (Aa (Gx s (by omega)) (Ac ?_))
    simp only[As]
    rw[LD,Fz];rfl)
  (fun m k _ hk _ ih=>by
    rw[hF]
    refine Ae (Aa (LO s (k:Int)) ?_)
    obtain ⟨h1,h2⟩:=hg k hk
    simp only[AiC,List.singleton_append]
    refine Aa h1 ?_
    simp only[As]
    refine Aa (AA a.shape _ h2) ?_
    have hb:0≤(Sl a.shape (g (Rx s (k:Int)))).getD 0∧(Sl a.shape (g (Rx s (k:Int)))).getD 0<(a.cells.length:Int):=by
     cases hi:Sl a.shape (g (Rx s (k:Int))) with
     | none=>exact ⟨by decide,by show (0:Int)<_;omega⟩
     | some j=>exact AdC ha hi
    have hc:mvC a s g k=a.cells.getD ((Sl a.shape (g (Rx s (k:Int)))).getD 0).toNat (B5 0):=rfl
    simp only[AiO]
    generalize (Sl a.shape (g (Rx s (k:Int)))).getD 0=z at hb hc
    obtain ⟨J,rfl⟩ : ∃ J:Nat,z=(J:Int):=⟨z.toNat,by omega⟩
    have hcj:(a.cells.map dC).getD J D.nil=dC (a.cells.getD J (B5 0)):=by
     rw[Aj (List.getElem?_eq_getElem (by omega)),List.getD_eq_getElem?_getD,List.getElem?_eq_getElem (by omega)];rfl
    simp only[Int.toNat_natCast]at hc ⊢
    rw[hcj,← hc,An (by omega)]
    refine Ae (Ae (At (by simp only[List.length_map,List.length_range,List.length_cons,List.length_nil,Ar];omega) ?_))
    have:=ih () trivial
    rw[List.range_succ,List.map_append,List.map_append]at this
    exact this)
  4096 0 () (by omega) (by omega) trivial
 simpa using key
theorem AaT(a:Arr)(first:Bool)(ha:a.shape.length≤1000):Sp 91 [dA a,.bool first] [.int (if a.shape.length=0∨first then 0 else (a.shape.length:Int)-1),.bool (decide (a.shape.length≠0))]:=by
 refine Ag 0 (SW _ _ _) ?_
 simp only[As]
 refine Ad (fun h=>Ac ?_) (fun h=>Df (fun hf=>Ac ?_) (fun hf=>Ac ?_))
 · rw[if_pos (.inl (by omega))];simp[show a.shape.length=0 by omega]
 · rw[if_pos (.inr hf)];simp[show ¬ a.shape.length=0 by omega]
 · rw[if_neg (by rintro (q | q);exact absurd q (by omega);rw[hf]at q;cases q),Ap (by omega) (by omega)];simp[show ¬ a.shape.length=0 by omega]
def Rs(a:Arr)(first:Bool):Nat:=if first then 0 else a.shape.length-1
theorem Afx{a:Arr}{first:Bool}(h:a.shape.length≠0):Rs a first<a.shape.length:=by unfold Rs;split <;> omega
theorem Adv{a:Arr}{first:Bool}(h:a.shape.length≠0):(if a.shape.length=0∨first then 0 else (a.shape.length:Int)-1)=((Rs a first:Nat):Int):=by
 unfold Rs
 cases first with
 | true=>simp
 | false=>rw[if_neg (by simpa using h)];simp;omega
theorem AK{s:List Int}{i:Nat}{c:Int}(h:Ay s=(c,0))(hi:(i:Int)<c):(Rx s (i:Int)).length=s.length:=by
 unfold Rx
 rw[if_pos ⟨by rw[h],by omega,by rw[h];exact hi⟩,Wd]
def AhJ(x:Nat)(n:Int)(at_:List Int):List Int:=at_.set x (IntKind.wrap .i64 (IntKind.wrap .i64 (n-1)-at_.getD x 0))
def Aff(a:Arr)(first:Bool):Arr:=if a.shape.length=0 then a else LD a a.shape (AhJ (Rs a first) (a.shape.getD (Rs a first) 0))
theorem Yp(a:Arr)(first:Bool)(ha:Ay a.shape=((a.cells.length:Int),0)):Sp 59 [dA a,.bool first] [dA (Aff a first)]:=by
 have hl:=(Fq ha).1
 refine Ag 0 (KL _ _ _) ?_
 simp only[Al]
 refine Aa (AaT a first (by omega)) ?_
 simp only[As]
 unfold Aff
 refine Ad (fun h=> ?_) (fun h=> ?_)
 · rw[if_pos (Classical.not_not.1 h)];exact Ac rfl
 · have h0:=Classical.not_not.1 h
   have hx:=Afx (first:=first) h0
   rw[if_neg h0,Adv h0]
   simp only[Int.toNat_natCast,Gp hx]
   refine Ae (Ae (Aa (?_:Sp _ _ [dA (LD a a.shape (AhJ (Rs a first) (a.shape.getD (Rs a first) 0)))]) (Ac rfl)))
   refine Ag 4096 (Rk _ _ _ _ _) ?_
   have hle:=(Fj a.shape).2
   rw[ha]at hle
   simp only[As]
   refine Ae (Ae (At (by simp only[Ar]at *; omega) ?_))
   refine V2 _ _ a a.shape ha (by omega) (fun n m3 s1 c t19 t20 a3 t6=>Oc n m3 s1 _ _ c t19 t20 a3 t6) (fun i hi=> ?_)
   have hat:=AK ha (i:=i) (by omega)
   refine ⟨?_,by unfold AhJ;rw[List.length_set,hat];omega⟩
   refine Ag 0 (DK _ _ _ _) ?_
   simp only[D.unref,As,hat,Gp (show Rs a first<(Rx a.shape (i:Int)).length by omega)]
   refine Ae (Ae (Ae (Ae (Ac ?_))))
   rw[← List.map_set];rfl
def AhL(x:Nat)(by_ n:Int)(at_:List Int):List Int:=at_.set x (Int.tmod (IntKind.wrap .i64 (at_.getD x 0+by_)) n)
def Ac2(k a:Arr)(first:Bool):Arr×Int:=if (Bc k).2≠0 then (.none,(Bc k).2) else if (Bc k).1.length≠1 then (.none,4) else
 if a.shape.length=0∨a.shape.getD (Rs a first) 0=0 then (D1 a (Bq k),0) else
 (LD (D1 a (Bq k)) a.shape (AhL (Rs a first) (Int.tmod (IntKind.wrap .i64 (Int.tmod ((Bc k).1.getD 0 0) (a.shape.getD (Rs a first) 0)+a.shape.getD (Rs a first) 0)) (a.shape.getD (Rs a first) 0)) (a.shape.getD (Rs a first) 0)),0)
theorem AD(k a:Arr)(first:Bool)(hk:Fits k)(hkl:k.cells.length≤2048)(hkt : ∀ c∈k.cells,c.n.top.length≤32)(ha:Ay a.shape=((a.cells.length:Int),0)):Sp 37 [dA k,dA a,.bool first] [dA (Ac2 k a first).1,.int (Ac2 k a first).2]:=by
 have hl:=(Fq ha).1
 refine Ag 0 (OI _ _ _ _) (Aa (Fr k hkl hkt) ?_)
 unfold Ac2
 simp only[As,Cr]
 refine Ad (fun h=>Ac (by rw[if_pos h])) (fun h=> ?_)
 rw[if_neg h]
 refine Ad (fun h1=>Ac (by rw[if_pos (by omega)])) (fun h1=> ?_)
 have hk1:(Bc k).1.length=1:=by omega
 rw[if_neg (by omega)]
 refine Aa (Cb k hk) ?_
 simp only[As]
 refine Aa (C2 a (Bq k)) (Aa (AaT a first (by omega)) ?_)
 simp only[As]
 refine Ad (fun h0=> ?_) (fun h0=> ?_)
 · rw[if_pos (.inl (Classical.not_not.1 h0))];exact Ac rfl
 · have h0:=Classical.not_not.1 h0
   have hx:=Afx (first:=first) h0
   rw[Adv h0]
   simp only[Int.toNat_natCast,Gp hx]
   refine Ae (Ae ?_)
   refine Ad (fun h2=>Ac (by rw[if_pos (.inr h2)])) (fun h2=> ?_)
   rw[if_neg (by rintro (q | q);exact h0 q;exact h2 q)]
   have hg0:=Gp (l:=(Bc k).1) (i:=0) (by omega)
   simp only[hg0]
   generalize hN:a.shape.getD (Rs a first) 0=N at *
   generalize (Bc k).1.getD 0 0=K at *
   have hb:decide (¬ N=0)=true:=decide_eq_true h2
   refine Ae (Ae (Ae (Ae (Ba hb (Ba hb ?_)))))
   refine Aa (?_:Sp _ _ [dA (LD (D1 a (Bq k)) a.shape (AhL (Rs a first) (Int.tmod (IntKind.wrap .i64 (Int.tmod K N+N)) N) N))]) (Ac rfl)
   refine Ag 4096 (Rr _ _ _ _ _ _) ?_
   have hle:=(Fj a.shape).2
   rw[ha]at hle
   have hrc:(D1 a (Bq k)).cells=a.cells:=by cases a;rfl
   have hrs:(D1 a (Bq k)).shape=a.shape:=by cases a;rfl
   simp only[As]
   rw[hrc]
   refine Ae (Ae (At (by simp only[Ar]at *; omega) ?_))
   rw[← hrc]
   refine V2 _ _ (D1 a (Bq k)) a.shape (by rw[hrs,hrc];exact ha) (by omega) (fun n m3 s1 c t19 t20 a3 t6=>Pk n m3 s1 _ _ _ c t19 t20 a3 t6) (fun i hi=> ?_)
   rw[hrc]at hi
   have hat:=AK ha (i:=i) (by omega)
   refine ⟨?_,by unfold AhL;rw[List.length_set,hat];omega⟩
   refine Ag 0 (HI _ _ _ _ _) ?_
   simp only[D.unref,As,hat,Gp (show Rs a first<(Rx a.shape (i:Int)).length by omega)]
   refine Ae (Ae (Ba hb (Ae (Ae (Ac ?_)))))
   rw[← List.map_set];rfl
def Aic(a:Arr):Arr:=LD a a.shape.reverse List.reverse
theorem KM(a:Arr)(ha:Ay a.shape=((a.cells.length:Int),0)):Sp 60 [dA a] [dA (Aic a)]:=by
 have hl:=(Fq ha).1
 refine Ag 0 (DL _ _) ?_
 simp only[As]
 refine Aa (Gx a.shape (by omega)) ?_
 simp only[As]
 refine Aa (RX a.shape (by omega)) ?_
 simp only[As]
 refine Aa (?_:Sp _ _ [dA (Aic a)]) (Ac rfl)
 refine Ag 4096 (Pl _ _ _) ?_
 have hle:=(Fj a.shape).2
 rw[ha]at hle
 simp only[As]
 refine Ae (Ae (At (by simp only[Ar]at *; omega) ?_))
 refine V2 _ _ a a.shape.reverse ha (by rw[List.length_reverse];omega) (fun n m3 s1 c t19 t20 a3 t6=>No n m3 s1 c t19 t20 a3 t6) (fun i hi=> ?_)
 have hat:=AiD a.shape.reverse (i:Int)
 rw[List.length_reverse]at hat
 refine ⟨?_,by rw[List.length_reverse];omega⟩
 refine Ag 0 (AE _ _) (Aa (?_:Sp _ _ [dI (Rx a.shape.reverse (i:Int)).reverse]) (Ac rfl))
 simp only[Bx]
 exact RX _ (by omega)
def Gc:List Int→Int
 | []=>1
 | x::xs=>x*Gc xs
theorem YW : ∀ {l:List Int},(∀ x∈l,1≤x)→1≤Gc l
 | [],_=>by decide
 | x::xs,h=>by
  have:=Int.mul_le_mul (h x (by simp)) (YW (fun y hy=>h y (List.mem_cons_of_mem _ hy))) (by decide) (by have:=h x (by simp);omega)
  simpa [Gc]using this
theorem BP : ∀ (l:List Int) (p:Int),(∀ x∈l,1≤x)→1≤p→p≤2048→Bg l p=if p*Gc l≤2048 then p*Gc l else 0
 | [],p,_,_,h=>by simp only[Bg,Gc,Int.mul_one];rw[if_pos h]
 | x::xs,p,hx,h1,h2=>by
  have hx1:=hx x (by simp)
  have hz:=YW (fun y hy=>hx y (List.mem_cons_of_mem _ hy))
  have hpx:=Int.mul_le_mul h1 hx1 (by decide) (by omega)
  rw[K2,Gc,← Int.mul_assoc]
  have hm:=Int.mul_le_mul_of_nonneg_left hz (show 0≤p*x by omega)
  split
  · rw[if_neg (by omega)]
  · exact BP xs (p*x) (fun y hy=>hx y (List.mem_cons_of_mem _ hy)) (by omega) (by omega)
theorem Afa{l m:List Int}(h:l.Perm m):Gc l=Gc m:=by
 induction h with
 | nil=>rfl
 | cons x _ ih=>simp only[Gc,ih]
 | swap x y l=>simp only[Gc];rw[Int.mul_left_comm]
 | trans _ _ ih1 ih2=>exact ih1.trans ih2
theorem LS{l m:List Int}(h:l.Perm m)(p:Int→Bool):l.any p=m.any p:=by
 rw[Bool.eq_iff_iff,List.any_eq_true,List.any_eq_true]
 exact ⟨fun ⟨x,hx,hp⟩=>⟨x,h.mem_iff.1 hx,hp⟩,fun ⟨x,hx,hp⟩=>⟨x,h.mem_iff.2 hx,hp⟩⟩
theorem AcO{l m:List Int}(h:l.Perm m):Ay l=Ay m:=by
 unfold Ay
 rw[h.length_eq,LS h,LS h,LS h]
 split;· rfl
 split;· rfl
 split;· rfl
 split;· rfl
 rename_i h1 h2 h3 h4
 have hp:=X5 h2 h3 h4
 rw[BP l 1 (fun x hx=>(hp x (h.mem_iff.1 hx)).1) (by decide) (by decide),BP m 1 (fun x hx=>(hp x hx).1) (by decide) (by decide),Afa h]
def Tk:List Int→List Int→List Int→Option (List Int)
 | k::l,x::sh,s=>if k<1∨(s.length:Int)<k∨0≤s.getD (k-1).toNat 0 then none else Tk l sh (s.set (k-1).toNat x)
 | _,_,s=>some s
theorem Ae9{s:List Int}{j:Nat}{x:Int}(hj:j<s.length)(hs:s.getD j 0<0)(hx:0≤x):((s.set j x).filter (fun y=>decide (0≤y))).Perm (x::s.filter (fun y=>decide (0≤y))):=by
 have e:s=s.take j++s[j]::s.drop (j+1):=by rw[← List.drop_eq_getElem_cons hj,List.take_append_drop]
 have hl:(s.take j).length=j:=by rw[List.length_take];omega
 rw[List.getD_eq_getElem?_getD,List.getElem?_eq_getElem hj,Option.getD_some]at hs
 generalize s[j]=v at e hs
 generalize s.take j=A at e hl
 generalize s.drop (j+1)=B at e
 subst e
 rw[← hl,Z3,List.filter_append,List.filter_append,List.filter_cons,List.filter_cons,if_pos (by simpa using hx),if_neg (by simp;omega)]
 exact List.perm_middle
theorem AbZ : ∀ (l sh s r:List Int),Tk l sh s=some r→l.length=sh.length→(∀ x∈sh,0≤x) →
  (r.filter (fun y=>decide (0≤y))).Perm (s.filter (fun y=>decide (0≤y))++sh)∧r.length=s.length∧∀ k∈l,1≤k∧k≤(s.length:Int)
 | [],[],s,r,h,_,_=>by
  simp only[Tk,Option.some.injEq]at h
  subst h
  exact ⟨by simp,rfl,fun k hk=>by simp at hk⟩
 | k::l,x::sh,s,r,h,hl,hx=>by
  simp only[Tk]at h
  split at h
  · cases h
  · rename_i g
    obtain ⟨i1,i2,i3⟩:=AbZ l sh _ r h (by simpa using hl) (fun y hy=>hx y (List.mem_cons_of_mem _ hy))
    rw[List.length_set]at i2 i3
    refine ⟨?_,i2,?_⟩
    · have:=Ae9 (s:=s) (j:=(k-1).toNat) (x:=x) (by omega) (by omega) (hx x (by simp))
      refine i1.trans ((this.append_right sh).trans ?_)
      exact List.perm_middle.symm
    · intro y hy
      rcases List.mem_cons.1 hy with rfl | hy
      · omega
      · exact i3 y hy
 | [],x::sh,s,r,_,hl,_=>by simp at hl
 | k::l,[],s,r,_,hl,_=>by simp at hl
theorem AeW{l sh r:List Int}(h:Tk l sh (List.replicate l.length (-1))=some r)(hl:l.length=sh.length)(hx : ∀ x∈sh,0≤x):r.Perm sh∧∀ k∈l,1≤k∧k≤(l.length:Int):=by
 obtain ⟨h1,h2,h3⟩:=AbZ l sh _ r h hl hx
 rw[List.length_replicate]at h2 h3
 have e:(List.replicate l.length (-1:Int)).filter (fun y=>decide (0≤y)) = []:=by
  rw[List.filter_eq_nil_iff]
  intro y hy
  rw[List.eq_of_mem_replicate hy];decide
 rw[e,List.nil_append]at h1
 have hfl:r.filter (fun y=>decide (0≤y))=r:=by
  refine List.filter_eq_self.2 (List.length_filter_eq_length_iff.1 ?_)
  rw[h1.length_eq,h2,hl]
 rw[hfl]at h1
 exact ⟨h1,h3⟩
def Pj(l:List Int)(at_:List Int):List Int:=l.map (fun k=>at_.getD (k-1).toNat 0)
theorem Ajm(l at_:List Int)(hl:l.length=at_.length)(hn:l.length≤1000)(hk : ∀ k∈l,1≤k∧k≤(l.length:Int)) :
  Ia Tryz.prog md 95 [.ref 23] [dI at_,.ref (dI l)] [dI (Pj l at_)]:=by
 refine Ag 4096 (DJ _ _ _) ?_
 simp only[Bx,Yq]
 refine Aa (Gx at_ (by omega)) ?_
 have key:=C4 (P:=Tryz.prog) (md:=md) l.length (fun m i (_:Unit)=>J4 4096 m ((Pj (l.take i) at_++at_.drop i).map D.int) (at_.map D.int) (dI l) (l.length:Int) (i:Int)) (fun _ _=>[dI (Pj l at_)]) (fun _ _=>True)
  (fun m _ _=>by
   rw[Oa]
   refine Am (by omega) (Ac ?_)
   rw[List.take_length,List.drop_of_length_le (by omega),List.append_nil];rfl)
  (fun m i _ hi _ ih=>by
   have h1:l[i]? = some l[i]:=List.getElem?_eq_getElem hi
   have hkk:=hk l[i] (List.getElem_mem hi)
   have e1:l.take (i+1)=l.take i++[l[i]]:=L9 h1
   have hlen:(Pj (l.take i) at_++at_.drop i).length=l.length:=by simp[Pj];omega
   have Ea:(Pj (l.take i) at_++at_.drop i).set i (at_.getD (l[i] - 1).toNat 0)=Pj (l.take (i+1)) at_++at_.drop (i+1):=by
    have hpl:(Pj (l.take i) at_).length=i:=by simp[Pj];omega
    rw[List.drop_eq_getElem_cons (show i<at_.length by omega)]
    have:=Z3 (Pj (l.take i) at_) at_[i] (at_.getD (l[i] - 1).toNat 0) (at_.drop (i+1))
    rw[hpl]at this
    rw[this,e1];simp only[Pj,List.map_append,List.map_cons,List.map_nil,List.append_assoc,List.singleton_append]
   generalize l[i]=k at *
   rw[Oa]
   have hw:IntKind.wrap .i64 (k-1)=k-1:=Ap (by omega) (by omega)
   simp only[Bx,List.length_map,Int.toNat_natCast,Aj h1,Ah,hw,hlen,Gp (show (k-1).toNat<at_.length by omega),An (show i<9223372036854775807 by omega)]
   refine Ae (Ae (Ae (Ae (Ae (Ae (Ae ?_))))))
   rw[← List.map_set,Ea]
   exact ih () trivial)
  4096 0 () (by omega) (by omega) trivial
 simpa [Pj]using key
def NG(p a:Arr):Arr×Int:=if (Bc p).2≠0 then (.none,(Bc p).2) else if (Bc p).1.length≠a.shape.length then (.none,4) else
 match Tk (Bc p).1 a.shape (List.replicate (Bc p).1.length (-1)) with
 | none=>(.none,3)
 | some s=>(LD (D1 a (Bq p)) s (Pj (Bc p).1),0)
theorem SV(p a:Arr)(hk:Fits p)(hkl:p.cells.length≤2048)(hkt : ∀ c∈p.cells,c.n.top.length≤32)(ha:Ay a.shape=((a.cells.length:Int),0)):Sp 38 [dA p,dA a] [dA (NG p a).1,.int (NG p a).2]:=by
 have hl6:=(Fq ha).1
 have h0s:=(E8 (l:=a.shape) (by rw[ha])).2
 refine Ag 4096 (KK _ _ _) (Aa (Fr p hkl hkt) ?_)
 have hun:NG p a=NG p a:=rfl
 conv at hun=>rhs;unfold NG
 generalize NG p a=R at *
 generalize hl:(Bc p).1=l at *
 generalize (Bc p).2=e at *
 simp only[As,Cr]
 refine Ad (fun h=>Ac (by rw[hun,if_pos h])) (fun h=> ?_)
 rw[if_neg h]at hun
 refine Ad (fun h1=>Ac (by rw[hun,if_pos (by omega)])) (fun h1=> ?_)
 have hll:l.length=a.shape.length:=by omega
 rw[if_neg (by omega)]at hun
 refine Ae (Ae (At (by simp only[Ar];omega) ?_))
 have second:=A7 (P:=Tryz.prog) (md:=md) l (fun m i (s:List Int)=>K7 4096 m (s.map D.int) (dI l) (l.length:Int) (i:Int) (dA p) (dA a) 0 e (dI l)) (fun _ _=>[dA R.1,.int R.2])
  (fun rest s=>Tk l a.shape (List.replicate l.length (-1))=Tk rest (a.shape.drop (l.length-rest.length)) s∧s.length=l.length)
  (fun m i s hi hI=>by
   rw[Pz]
   refine Am (by omega) (Aa (Cb p hk) ?_)
   simp only[As]
   refine Aa (C2 a (Bq p)) ?_
   have hg:Tk l a.shape (List.replicate l.length (-1))=some s:=by rw[hI.1];rfl
   rw[hg]at hun
   obtain ⟨hp1,hp2⟩:=AeW hg hll (fun x hx=>(h0s x hx).1)
   have hcs:Ay s=((a.cells.length:Int),0):=by rw[AcO hp1,ha]
   have hrc:(D1 a (Bq p)).cells=a.cells:=by cases a;rfl
   have hrs:(D1 a (Bq p)).shape=a.shape:=by cases a;rfl
   have hle:=(Fj a.shape).2
   rw[ha]at hle
   simp only[As]
   refine Aa (?_:Sp _ _ [dA (LD (D1 a (Bq p)) s (Pj l))]) (Ac (by rw[hun];rfl))
   refine Ag 4096 (Rj _ _ _ _) ?_
   simp only[As]
   rw[hrc]
   refine Ae (Ae (At (by simp only[Ar]at *; omega) ?_))
   rw[← hrc]
   refine V2 _ _ (D1 a (Bq p)) s (by rw[hrs,hrc];exact ha) (by omega) (fun n m3 s1 c t19 t20 a3 t6=>Ob n m3 s1 _ c t19 t20 a3 t6) (fun i hi=> ?_)
   rw[hrc]at hi
   have hat:=AK hcs (i:=i) (by omega)
   exact ⟨Ajm l _ (by rw[hat];omega) (by omega) hp2,by unfold Pj;rw[List.length_map];omega⟩)
  (fun m i s k rest hdr hI ih=>by
   obtain ⟨h4,h2,h3⟩:=Az hdr
   have hle:=congrArg List.length hdr
   rw[List.length_drop,List.length_cons]at hle
   obtain ⟨hI,hsl⟩:=hI
   rw[show l.length-(k::rest).length=i by rw[List.length_cons];omega,List.drop_eq_getElem_cons (show i<a.shape.length by omega)]at hI
   rw[show l.length-rest.length=i+1 by omega]at ih
   have hsi:a.shape[i]? = some a.shape[i]:=List.getElem?_eq_getElem (by omega)
   generalize a.shape[i]=x at *
   rw[Pz]
   simp only[As,Aj h2,Aj hsi,hsl]
   simp only[Tk,hsl]at hI
   refine Ae (Ae (Ae (Ad (fun g=>Ac ?_) (fun g=>Ad (fun g2=>Ac ?_) (fun g2=> ?_)))))
   · rw[if_pos (.inl g)]at hI;rw[hI]at hun;rw[hun,Cr]
   · rw[if_pos (.inr (.inl g2))]at hI;rw[hI]at hun;rw[hun,Cr]
   · have hw:IntKind.wrap .i64 (k-1)=k-1:=Ap (by omega) (by omega)
     simp only[hw,Gp (show (k-1).toNat<s.length by omega),Ah]
     refine Ae (Ae (Ad (fun g3=>Ac ?_) (fun g3=>Ae (Ae (Ae (Ae ?_))))))
     · rw[if_pos (.inr (.inr g3))]at hI;rw[hI]at hun;rw[hun,Cr]
     · rw[if_neg (by omega)]at hI
       rw[← List.map_set,An (by omega)]
       exact ih _ ⟨hI,by rw[List.length_set];exact hsl⟩)
  4096 0 (List.replicate l.length (-1)) (by omega) (by omega) ⟨by simp,by simp⟩
 have first:=C4 (P:=Tryz.prog) (md:=md) l.length (fun m i (_:Unit)=>Lz 4096 m ((List.replicate i (-1:Int)++List.replicate (l.length-i) 0).map D.int) (l.length:Int) (i:Int) (dA p) (dA a) 0 e (dI l)) (fun _ _=>[dA R.1,.int R.2]) (fun _ _=>True)
  (fun m _ _=>by
   rw[Ri]
   refine Am (by omega) ?_
   simp only[Nat.sub_self,List.replicate_zero,List.append_nil,Bx,List.length_map]
   exact second)
  (fun m i _ hi _ ih=>by
   rw[Ri]
   simp only[List.length_map,List.length_append,List.length_replicate,Int.toNat_natCast]
   refine Ae (Ae (Ae ?_))
   rw[An (by omega),← List.map_set]
   have e1:(List.replicate i (-1:Int)++List.replicate (l.length-i) 0).set i (-1)=List.replicate (i+1) (-1:Int)++List.replicate (l.length-(i+1)) 0:=by
     rw[show l.length-i=(l.length-(i+1))+1 by omega,List.replicate_succ (a:=(0:Int))]
     have:=Z3 (List.replicate i (-1:Int)) 0 (-1) (List.replicate (l.length-(i+1)) 0)
     rw[List.length_replicate]at this
     rw[this,List.replicate_succ' (n:=i)];simp
   rw[e1]
   exact ih () trivial)
  4096 0 () (by omega) (by omega) trivial
 simpa using first
structure Bk where
 sh:List Int
 cs:List Cell
 al:Bool
def Bk.d (x:Bk):D:=P5 x.sh x.cs x.al
theorem Ur : ∀ (l m:List Int),Gc (l++m)=Gc l*Gc m
 | [],m=>by simp[Gc]
 | x::xs,m=>by simp only[List.cons_append,Gc,Ur xs m,Int.mul_assoc]
theorem AdY : ∀ (l:List Int),Bg l 0=0
 | []=>rfl
 | x::xs=>by rw[K2,Int.zero_mul,if_neg (by decide)];exact AdY xs
theorem AdW : ∀ (l:List Int) (p:Int),0∈l→Bg l p=0
 | x::xs,p,h=>by
  rw[K2]
  split
  · rfl
  · rcases List.mem_cons.1 h with h | h
    · rw[← h,Int.mul_zero];exact AdY xs
    · exact AdW xs _ h
theorem Xf : ∀ (l:List Int) (p:Int),(∀ x∈l,0≤x∧x≤2048)→0≤p→p≤2048→0≤Bg l p∧Bg l p≤2048
 | [],p,_,h1,h2=>⟨h1,h2⟩
 | x::xs,p,h,h1,h2=>by
  rw[K2]
  split
  · omega
  · exact Xf xs _ (fun y hy=>h y (List.mem_cons_of_mem _ hy)) (Int.mul_nonneg h1 (h x (by simp)).1) (by omega)
theorem Xg{l:List Int}(hl : ∀ x∈l,0≤x∧x≤2048)(h:Bg l 1≠0):(∀ x∈l,1≤x)∧Bg l 1=Gc l:=by
 have h1 : ∀ x∈l,1≤x:=fun x hx=>by
  have:=(hl x hx).1
  rcases Int.lt_or_eq_of_le this with g | g
  · omega
  · exact absurd (AdW l 1 (by rw[g];exact hx)) h
 refine ⟨h1,?_⟩
 rw[BP l 1 h1 (by decide) (by decide),Int.one_mul]at h ⊢
 split at h
 · rename_i g;rw[if_pos g]
 · exact absurd rfl h
theorem TW{s:List Int}{c:Int}(h:Ay s=(c,0))(h1 : ∀ x∈s,1≤x):c=Gc s∧Gc s≤2048:=by
 have hle:=(Fj s).2
 rw[h]at hle
 rcases (Fq h).2 with ⟨h0,_⟩ | ⟨h2,h3,h4⟩
 · exact absurd (h1 0 h0) (by decide)
 · have:=(Xg (fun x hx=>⟨by have:=(h2 x hx).1;omega,(h2 x hx).2⟩) (by rw[h3];exact h4)).2
   simp only at hle
   omega
structure BkOk (x:Bk) (axes:Nat):Prop where
 len:x.sh.length=axes
 rng : ∀ v∈x.sh,0≤v∧v≤2048
 cells:x.al=false→(∀ v∈x.sh,1≤v)→(x.cs.length:Int)=Gc x.sh
 alone:x.al=true→1≤x.cs.length
 few:x.cs.length≤2048
def Rn(a:Arr)(other:List Int)(axes axis:Nat):Option Bk :=
 if a.shape.length=axes then some ⟨a.shape,a.cells,false⟩
 else if a.shape.length=0 then some ⟨if other.length=0 then [1] else other.set axis 1,a.cells,true⟩
 else if a.shape.length+1=axes then some ⟨a.shape.take axis++[1]++a.shape.drop axis,a.cells,false⟩
 else none
theorem Ag7{a:Arr}{other:List Int}{axes axis:Nat}{x:Bk}(h:Rn a other axes axis=some x)(ha:Ay a.shape=((a.cells.length:Int),0))(ho : ∀ v∈other,0≤v∧v≤2048)(h1:1≤axes)(h2:axis<axes)(h3:a.shape.length=0→other.length=0→axes=1)(h4:a.shape.length=0→other.length≠0→axes=other.length):BkOk x axes:=by
 have hr:=(E8 (l:=a.shape) (by rw[ha])).2
 have hle:=(Fj a.shape).2
 rw[ha]at hle
 have hcl:a.cells.length≤2048:=by simp only at hle;omega
 unfold Rn at h
 split at h
 · rename_i g
   injection h with h;subst h
   exact ⟨g,hr,fun _ hv=>(TW ha hv).1,(fun h=>by cases h),hcl⟩
 split at h
 · rename_i g0 g
   injection h with h;subst h
   have hc:a.cells.length=1:=by
     have e:a.shape = []:=List.length_eq_zero_iff.1 g
     rw[e,show Ay []=(1,0) by decide]at ha
     injection ha with ha;omega
   refine ⟨?_,?_,(fun h=>by cases h),fun _=>by show 1≤a.cells.length;omega,hcl⟩
   · simp only
     split
     · rename_i g2;rw[h3 g g2];rfl
     · rename_i g2;rw[List.length_set,h4 g g2]
   · simp only
     split
     · intro v hv;rw[List.mem_singleton.1 hv];decide
     · intro v hv
       rcases List.mem_or_eq_of_mem_set hv with q | q
       · exact ho v q
       · rw[q];decide
 split at h
 · rename_i g0 g1 g
   injection h with h;subst h
   refine ⟨?_,?_,fun _ hv=> ?_,(fun h=>by cases h),hcl⟩
   · simp only[List.length_append,List.length_take,List.length_cons,List.length_nil,List.length_drop];omega
   · intro v hv
     simp only[List.mem_append,List.mem_singleton]at hv
     rcases hv with (q | q) | q
     · exact hr v (List.mem_of_mem_take q)
     · rw[q];decide
     · exact hr v (List.mem_of_mem_drop q)
   · have hv2 : ∀ v∈a.shape,1≤v:=fun v hvv=>hv v (by
       rw[← List.take_append_drop axis a.shape,List.mem_append]at hvv
       simp only[List.mem_append,List.mem_singleton]
       rcases hvv with q | q
       · exact .inl (.inl q)
       · exact .inr q)
     simp only[Ur,Gc,Int.mul_one]
     rw[← Ur,List.take_append_drop]
     exact (TW ha hv2).1
 · cases h
theorem CJ(a:Arr)(other:List Int)(axes axis:Nat)(hl:a.shape.length≤1000)(ho:other.length≤1000)(h1:1≤axes)(h2:axis<axes)(h5:axes≤1000)(h4:a.shape.length=0→other.length≠0→axes=other.length) :
   Sp 172 [dA a,dI other,.int (axes:Int),.int (axis:Int)] (match Rn a other axes axis with | some x=>[x.d,.bool true] | none=>[P5 [] [] false,.bool false]):=by
 refine Ag 0 (PO _ _ _ _ _) ?_
 have hw:IntKind.wrap .i64 ((axes:Int)-1)=(axes:Int)-1:=Ap (by omega) (by omega)
 simp only[As,hw,List.replicate_zero,List.nil_append,List.length_nil,← List.map_take,← List.map_drop,List.length_take,List.length_drop,List.length_cons]
 unfold Rn
 refine Ae (Ae (At (by simp only[Ar];omega) (Ad (fun g=> ?_) (fun g=>Ad (fun g1=> ?_) (fun g1=>Ad (fun g2=> ?_) (fun g2=> ?_))))))
 · rw[if_pos (by omega)]
   exact At (by simp only[Ar];omega) (Ac rfl)
 · rw[if_neg (by omega),if_pos (by omega)]
   refine Ad (fun q=> ?_) (fun q=> ?_)
   · exact At (by simp[Ar]) (Ac (by rw[if_pos (by omega)];rfl))
   · have:=h4 (by omega) (by omega)
     rw[if_neg (by omega)]
     refine At (by simp only[Ar];omega) (Ae (Ae (Ac ?_)))
     rw[show (D.int 1)=D.int ((1:Int)) from rfl,← List.map_set];rfl
 · rw[if_neg (by omega),if_neg (by omega),if_pos (by omega)]
   refine Ae (Ae (At (by simp only[Ar];omega) (At (by simp only[Ar];omega) (Ae (Ae (At (by simp only[Ar,List.length_append,List.length_map,List.length_take,List.length_cons,List.length_nil];omega) (Ac ?_)))))))
   simp[Bk.d,P5,dI]
 · rw[if_neg (by omega),if_neg (by omega),if_neg (by omega)]
   exact Ac rfl
def Xn(x:Bk)(i n:Nat):List Cell:=if x.al then List.replicate n (x.cs.getD 0 (B5 0)) else (x.cs.take (i*n+n)).drop (i*n)
theorem Ac3(x:Bk)(i n:Nat):(Xn x i n).length≤n:=by
 unfold Xn
 split
 · simp
 · simp only[List.length_drop,List.length_take];omega
theorem ET(x:Bk)(r:List Cell)(i n:Nat)(h1:x.al=false→i*n+n≤x.cs.length)(h2:x.al=true→1≤x.cs.length)(hc:x.cs.length≤2048)(hn:n≤100000)(hr:r.length≤1000000) :
  Sp 174 [x.d,.sl (r.map dC),.int (i:Int),.int (n:Int)] [.sl ((r++Xn x i n).map dC)]:=by
 obtain ⟨sh,cs,al⟩:=x
 simp only at h1 h2 hc
 cases al with
 | false =>
  have:=AcY sh cs r (i:Int) (n:Int) (by omega) (by omega) (by have:=h1 rfl;omega) hc hr
  rw[show ((i:Int)*(n:Int)+(n:Int)).toNat=i*n+n by omega,show ((i:Int)*(n:Int)).toNat=i*n by omega]at this
  exact this
 | true =>
  have hc1:=h2 rfl
  refine Ag 100001 (Rz _ _ _ _ _) (Cs rfl ?_)
  simp only[Ez,Ah]
  have hg:(cs.map dC).getD 0 D.nil=dC (cs.getD 0 (B5 0)):=by
   rw[Aj (List.getElem?_eq_getElem (by omega)),List.getD_eq_getElem?_getD,List.getElem?_eq_getElem (by omega)];rfl
  have key:=C4 (P:=Tryz.prog) (md:=md) n (fun m k (_:Unit)=>Jz 100001 m ((r++List.replicate k (cs.getD 0 (B5 0))).map dC) (n:Int) (k:Int) (P5 sh cs true)) (fun _ _=>[.sl ((r++Xn ⟨sh,cs,true⟩ i n).map dC)]) (fun _ _=>True)
   (fun m _ _=>by
    rw[N8]
    exact Am (by omega) (Ac rfl))
   (fun m k _ hk _ ih=>by
    rw[N8]
    simp only[P5,Kt,Ez,List.length_map,Int.toNat_zero,hg]
    refine Ae (Ae (Ae (At (by simp only[List.length_append,List.length_replicate,List.length_cons,List.length_nil,Ar];omega) ?_)))
    have:=ih () trivial
    rw[List.replicate_succ',← List.append_assoc,List.map_append]at this
    rw[An (by omega)]
    exact this)
   100001 0 () (by omega) (by omega) trivial
  simpa [Bk.d]using key
def AbE(x y:Bk)(axis:Nat)(s:List Int):List Cell :=
 (List.range (Bg (s.take axis) 1).toNat).flatMap (fun i=>Xn x i ((x.sh.getD axis 0).toNat*(Bg (s.drop (axis+1)) 1).toNat)++Xn y i ((y.sh.getD axis 0).toNat*(Bg (s.drop (axis+1)) 1).toNat))
structure Near (x:Bk) (axis:Nat) (s:List Int):Prop where
 ahead:x.sh.take axis=s.take axis
 behind:x.sh.drop (axis+1)=s.drop (axis+1)
theorem QI{x:Bk}{axes axis:Nat}{s:List Int}(hx:BkOk x axes)(ha:axis<axes)(hn:Near x axis s)(hs : ∀ v∈s,0≤v∧v≤2048)(hal:x.al=false) :
  (Bg (s.take axis) 1).toNat*((x.sh.getD axis 0).toNat*(Bg (s.drop (axis+1)) 1).toNat)≤x.cs.length:=by
 have r1:=Xf (s.take axis) 1 (fun v hv=>hs v (List.mem_of_mem_take hv)) (by decide) (by decide)
 have r2:=Xf (s.drop (axis+1)) 1 (fun v hv=>hs v (List.mem_of_mem_drop hv)) (by decide) (by decide)
 have hk:x.sh.getD axis 0=x.sh[axis]'(by rw[hx.len];exact ha):=by rw[List.getD_eq_getElem?_getD,List.getElem?_eq_getElem (by rw[hx.len];exact ha)];rfl
 have hkr:=hx.rng _ (List.getElem_mem (by rw[hx.len];exact ha):x.sh[axis]'(by rw[hx.len];exact ha)∈x.sh)
 have hsplit:x.sh=s.take axis++x.sh.getD axis 0::s.drop (axis+1):=by
  rw[← hn.ahead,← hn.behind,hk,← List.drop_eq_getElem_cons,List.take_append_drop]
 rw[← hk]at hkr
 generalize x.sh.getD axis 0=k at *
 rcases Decidable.em (Bg (s.take axis) 1=0) with e | e
 · rw[e];simp
 rcases Decidable.em (Bg (s.drop (axis+1)) 1=0) with e2 | e2
 · rw[e2];simp
 rcases Decidable.em (k=0) with e3 | e3
 · rw[e3];simp
 obtain ⟨p1,p2⟩:=Xg (fun v hv=>hs v (List.mem_of_mem_take hv)) e
 obtain ⟨p3,p4⟩:=Xg (fun v hv=>hs v (List.mem_of_mem_drop hv)) e2
 have hc:=hx.cells hal (fun v hv=>by
  rw[hsplit]at hv
  rcases List.mem_append.1 hv with q | q
  · exact p1 v q
  · rcases List.mem_cons.1 q with q | q
    · omega
    · exact p3 v q)
 rw[hsplit,Ur,Gc,← p2,← p4]at hc
 generalize Bg (s.take axis) 1=A at *
 generalize Bg (s.drop (axis+1)) 1=B at *
 obtain ⟨A',rfl⟩ : ∃ n:Nat,A=(n:Int):=⟨A.toNat,by omega⟩
 obtain ⟨B',rfl⟩ : ∃ n:Nat,B=(n:Int):=⟨B.toNat,by omega⟩
 obtain ⟨k',rfl⟩ : ∃ n:Nat,k=(n:Int):=⟨k.toNat,by omega⟩
 simp only[Int.toNat_natCast]
 have:(x.cs.length:Int)=((A'*(k'*B'):Nat):Int):=by rw[hc];simp
 omega
theorem Aaa(x y:Bk)(axes axis:Nat)(s:List Int)(hx:BkOk x axes)(hy:BkOk y axes)(ha:axis<axes)(hnx:Near x axis s)(hny:Near y axis s)(hsl:s.length=axes)(hsx:s.getD axis 0=x.sh.getD axis 0+y.sh.getD axis 0)(hc:(Ay s).2=0) :
  Sp 88 [K1 x.d y.d (axis:Int),dI s] [.sl ((AbE x y axis s).map dC)]:=by
 obtain ⟨hl6,hs⟩:=E8 hc
 have r1:=Xf (s.take axis) 1 (fun v hv=>hs v (List.mem_of_mem_take hv)) (by decide) (by decide)
 have r2:=Xf (s.drop (axis+1)) 1 (fun v hv=>hs v (List.mem_of_mem_drop hv)) (by decide) (by decide)
 have gx:(x.sh.map D.int).getD axis D.nil=D.int (x.sh.getD axis 0):=Gp (by rw[hx.len];exact ha)
 have gy:(y.sh.map D.int).getD axis D.nil=D.int (y.sh.getD axis 0):=Gp (by rw[hy.len];exact ha)
 have memD : ∀ {l:List Int},axis<l.length→l.getD axis 0∈l:=fun h=>by rw[List.getD_eq_getElem?_getD,List.getElem?_eq_getElem h];exact List.getElem_mem h
 have kx:=hx.rng _ (memD (l:=x.sh) (by rw[hx.len];exact ha))
 have ky:=hy.rng _ (memD (l:=y.sh) (by rw[hy.len];exact ha))
 have cx:=fun h=>QI hx ha hnx hs h
 have cy:=fun h=>QI hy ha hny hs h
 have tot:(Bg (s.take axis) 1).toNat*((s.getD axis 0).toNat*(Bg (s.drop (axis+1)) 1).toNat)≤2048:=by
  have ms:=hs _ (memD (l:=s) (by omega))
  have hk:s.getD axis 0=s[axis]:=by rw[List.getD_eq_getElem?_getD,List.getElem?_eq_getElem (by omega)];rfl
  have hsplit:s=s.take axis++s.getD axis 0::s.drop (axis+1):=by rw[hk,← List.drop_eq_getElem_cons,List.take_append_drop]
  rcases Decidable.em (Bg (s.take axis) 1=0) with e | e
  · rw[e];simp
  rcases Decidable.em (Bg (s.drop (axis+1)) 1=0) with e2 | e2
  · rw[e2];simp
  rcases Decidable.em (s.getD axis 0=0) with e3 | e3
  · rw[e3];simp
  obtain ⟨p1,p2⟩:=Xg (fun v hv=>hs v (List.mem_of_mem_take hv)) e
  obtain ⟨p3,p4⟩:=Xg (fun v hv=>hs v (List.mem_of_mem_drop hv)) e2
  have hz:=(TW (s:=s) (c:=(Ay s).1) (by rw[← hc]) (fun v hv=>by
   rw[hsplit]at hv
   rcases List.mem_append.1 hv with q | q
   · exact p1 v q
   · rcases List.mem_cons.1 q with q | q
     · omega
     · exact p3 v q)).2
  rw[hsplit,Ur,Gc,← p2,← p4]at hz
  generalize Bg (s.take axis) 1=A at *
  generalize Bg (s.drop (axis+1)) 1=B at *
  generalize s.getD axis 0=k at *
  obtain ⟨A',rfl⟩ : ∃ n:Nat,A=(n:Int):=⟨A.toNat,by omega⟩
  obtain ⟨B',rfl⟩ : ∃ n:Nat,B=(n:Int):=⟨B.toNat,by omega⟩
  obtain ⟨k',rfl⟩ : ∃ n:Nat,k=(n:Int):=⟨k.toNat,by omega⟩
  simp only[Int.toNat_natCast]
  have:((A'*(k'*B'):Nat):Int)≤2048:=by simpa using hz
  omega
 rw[hsx]at tot
 have ar:=Re s (axis:Int)
 rw[show Sd s (axis:Int) = [.int (Bg (s.take axis) 1),.int (s.getD axis 0),.int (Bg (s.drop (axis+1)) 1),.bool true] by unfold Sd;rw[if_pos ⟨hc,by omega,by omega⟩];rfl]at ar
 refine Ag 4096 (BD _ _ _) ?_
 simp only[K1,Bk.d,P5,Ks,Kt,AW,Ah]
 refine Aa ar ?_
 unfold AbE
 generalize hA:Bg (s.take axis) 1=A at *
 generalize hB:Bg (s.drop (axis+1)) 1=B at *
 generalize hX:x.sh.getD axis 0=X at *
 generalize hY:y.sh.getD axis 0=Y at *
 obtain ⟨A',rfl⟩ : ∃ n:Nat,A=(n:Int):=⟨A.toNat,by omega⟩
 obtain ⟨B',rfl⟩ : ∃ n:Nat,B=(n:Int):=⟨B.toNat,by omega⟩
 obtain ⟨X',rfl⟩ : ∃ n:Nat,X=(n:Int):=⟨X.toNat,by omega⟩
 obtain ⟨Y',rfl⟩ : ∃ n:Nat,Y=(n:Int):=⟨Y.toNat,by omega⟩
 simp only[Int.toNat_natCast]at *
 rw[show ((X':Int)+(Y':Int)).toNat=X'+Y' by omega,Nat.add_mul]at tot
 have b1:X'*B'≤2048*2048:=Nat.mul_le_mul (by omega) (by omega)
 have b2:Y'*B'≤2048*2048:=Nat.mul_le_mul (by omega) (by omega)
 have w1:IntKind.wrap .i64 ((X':Int)*(B':Int))=((X'*B':Nat):Int):=by rw[← Int.natCast_mul];exact Ap (by omega) (by omega)
 have w2:IntKind.wrap .i64 ((Y':Int)*(B':Int))=((Y'*B':Nat):Int):=by rw[← Int.natCast_mul];exact Ap (by omega) (by omega)
 have w3:IntKind.wrap .i64 (((X'*B':Nat):Int)+((Y'*B':Nat):Int))=((X'*B'+Y'*B':Nat):Int):=by rw[Ap (by omega) (by omega)];simp
 have w4:IntKind.wrap .i64 ((A':Int)*((X'*B'+Y'*B':Nat):Int))=((A'*(X'*B'+Y'*B'):Nat):Int):=by rw[← Int.natCast_mul];exact Ap (by omega) (by omega)
 simp only[Af,IU,Ah,Bx,List.length_map,hx.len,hy.len,Int.toNat_natCast,Int.toNat_zero,gx,gy,w1,w2,w3,w4]
 refine Ae (Ae (Ae (Ae (Ae (Ae (At (by simp only[Ar];omega) ?_))))))
 have key:=C4 (P:=Tryz.prog) (md:=md) A' (fun m k (r:List Cell)=>Jb 4096 m ((X'*B':Nat):Int) ((Y'*B':Nat):Int) (r.map dC) (A':Int) (k:Int) (K1 x.d y.d (axis:Int))) (fun _ _=>[.sl (((List.range A').flatMap (fun i=>Xn x i (X'*B')++Xn y i (Y'*B'))).map dC)])
  (fun k r=>r=(List.range k).flatMap (fun i=>Xn x i (X'*B')++Xn y i (Y'*B'))∧r.length≤k*(X'*B'+Y'*B'))
  (fun m r hI=>by
   rw[Nt,hI.1]
   exact Am (by omega) (Ac rfl))
  (fun m k r hk hI ih=>by
   have hkA:(k+1)*(X'*B'+Y'*B')≤A'*(X'*B'+Y'*B'):=Nat.mul_le_mul_right _ (by omega)
   rw[Nat.add_mul,Nat.one_mul]at hkA
   have q : ∀ n:Nat,k*n+n≤A'*n:=fun n=>by
     have:=Nat.mul_le_mul_right n (show k+1≤A' by omega)
     rwa[Nat.add_mul,Nat.one_mul]at this
   have l1:=Ac3 x k (X'*B')
   have l2:=Ac3 y k (Y'*B')
   have s1:=ET x r k (X'*B') (fun h=>by have:=cx h;have:=q (X'*B');omega) hx.alone hx.few (by omega) (by omega)
   have s2:=ET y (r++Xn x k (X'*B')) k (Y'*B') (fun h=>by have:=cy h;have:=q (Y'*B');omega) hy.alone hy.few (by omega) (by rw[List.length_append];omega)
   rw[Nt]
   simp only[K1,Ks,Kt]at *
   refine Ae (Aa s1 (Aa s2 ?_))
   rw[An (by omega)]
   refine ih _ ⟨?_,?_⟩
   · rw[List.range_succ,List.flatMap_append,← hI.1];simp
   · rw[List.length_append,List.length_append,Nat.add_mul,Nat.one_mul];omega)
  4096 0 [] (by omega) (by omega) ⟨rfl,by simp⟩
 exact key
def Wy:List Int→List Int→Nat→Nat→Bool
 | x::xs,y::ys,axis,i=>(decide (i≠axis∧x≠y))||Wy xs ys axis (i+1)
 | _,_,_,_=>false
theorem Ad9 : ∀ {xs ys:List Int} {axis i:Nat},Wy xs ys axis i=false→xs.length=ys.length→∀ j,i+j≠axis→xs[j]? = ys[j]?
 | [],[],_,_,_,_,_,_=>rfl
 | x::xs,y::ys,axis,i,h,hl,j,hj=>by
  simp only[Wy,Bool.or_eq_false_iff,decide_eq_false_iff_not]at h
  match j with
  | 0 =>
   have:=h.1
   have e:x=y:=Decidable.byContradiction (fun q=>this ⟨by simpa using hj,q⟩)
   rw[e];rfl
  | j+1 =>
   have:=Ad9 h.2 (by simpa using hl) j (by omega)
   simpa using this
 | [],y::ys,_,_,_,hl,_,_=>by simp at hl
 | x::xs,[],_,_,_,hl,_,_=>by simp at hl
def Gh(x y:List Int)(axis:Nat):List Int×Int :=
 if Wy x y axis 0 then ([],4) else if (Ay (x.set axis (x.getD axis 0+y.getD axis 0))).2≠0 then ([],(Ay (x.set axis (x.getD axis 0+y.getD axis 0))).2) else (x.set axis (x.getD axis 0+y.getD axis 0),0)
theorem Aab(x y:Bk)(axes axis:Nat)(hx:BkOk x axes)(hy:BkOk y axes)(ha:axis<axes)(h5:axes≤1000) :
  Sp 87 [K1 x.d y.d (axis:Int)] [dI (Gh x.sh y.sh axis).1,.int (Gh x.sh y.sh axis).2]:=by
 refine Ag 4096 (BE _ _) ?_
 have gx:(x.sh.map D.int).getD axis D.nil=D.int (x.sh.getD axis 0):=Gp (by rw[hx.len];exact ha)
 have gy:(y.sh.map D.int).getD axis D.nil=D.int (y.sh.getD axis 0):=Gp (by rw[hy.len];exact ha)
 have memD : ∀ {l:List Int},axis<l.length→l.getD axis 0∈l:=fun h=>by rw[List.getD_eq_getElem?_getD,List.getElem?_eq_getElem h];exact List.getElem_mem h
 have kx:=hx.rng _ (memD (l:=x.sh) (by rw[hx.len];exact ha))
 have ky:=hy.rng _ (memD (l:=y.sh) (by rw[hy.len];exact ha))
 have lx:=hx.len
 have ly:=hy.len
 simp only[K1,Bk.d,P5,Ks,Kt,AW,Bx,List.length_map]
 have key:=A7 (P:=Tryz.prog) (md:=md) x.sh (fun m k (_:Unit)=>Fv 4096 m (dI x.sh) (x.sh.length:Int) (k:Int) (K1 x.d y.d (axis:Int))) (fun _ _=>[dI (Gh x.sh y.sh axis).1,.int (Gh x.sh y.sh axis).2])
  (fun rest _=>Wy x.sh y.sh axis 0=Wy rest (y.sh.drop (x.sh.length-rest.length)) axis (x.sh.length-rest.length))
  (fun m k _ hk hI=>by
   have hd:Wy x.sh y.sh axis 0=false:=by rw[hI];rfl
   rw[Nu]
   simp only[K1,Bk.d,P5,Ks,Kt,AW,Ah,Bx,List.length_map,Int.toNat_natCast,gx,gy,Ap (x:=x.sh.getD axis 0+y.sh.getD axis 0) (by omega) (by omega)]
   have hw:=CX x.sh (axis:Int) (x.sh.getD axis 0+y.sh.getD axis 0) (by omega)
   rw[show TJ x.sh (axis:Int) (x.sh.getD axis 0+y.sh.getD axis 0) = [dI (x.sh.set axis (x.sh.getD axis 0+y.sh.getD axis 0)),.bool true] by unfold TJ;rw[if_pos ⟨by omega,by omega⟩];rfl]at hw
   refine Am (by omega) (Ae (Ae (Ae (Ae (Aa hw ?_)))))
   simp only[Af]
   refine Aa (Gu _) ?_
   unfold Gh
   rw[hd]
   simp only[As,Bool.false_eq_true,if_false]
   refine Ad (fun g=>Ac ?_) (fun g=>Ac ?_)
   · rw[if_pos g];rfl
   · rw[if_neg g])
  (fun m k _ v rest hdr hI ih=>by
   obtain ⟨h4,h2,h3⟩:=Az hdr
   have hle:=congrArg List.length hdr
   rw[List.length_drop,List.length_cons]at hle
   rw[show x.sh.length-(v::rest).length=k by rw[List.length_cons];omega,List.drop_eq_getElem_cons (show k<y.sh.length by omega)]at hI
   rw[show x.sh.length-rest.length=k+1 by omega]at ih
   have hsi:y.sh[k]? = some y.sh[k]:=List.getElem?_eq_getElem (by omega)
   generalize y.sh[k]=u at *
   simp only[Wy]at hI
   have go:Wy x.sh y.sh axis 0=Wy rest (y.sh.drop (k+1)) axis (k+1)→Tw (Fv 4096 m (dI x.sh) (x.sh.length:Int) ((k+1:Nat):Int) (K1 x.d y.d (axis:Int))) [dI (Gh x.sh y.sh axis).1,.int (Gh x.sh y.sh axis).2]:=ih ()
   rw[Nu]
   have e:(K1 x.d y.d (axis:Int)).fld 2=D.int (axis:Int):=rfl
   have e2:(((K1 x.d y.d (axis:Int)).fld 1).fld 0)=dI y.sh:=rfl
   simp only[e,e2,Ah,Bx,List.length_map,Int.toNat_natCast,Aj h2,Aj hsi,Cz,An (show k<9223372036854775807 by omega)]
   refine Ae (Ae (Ae (Ad (fun g=> ?_) (fun g=> ?_))))
   · refine Ae (Ae (Ad (fun g2=>Ac ?_) (fun g2=> ?_)))
     · have:Wy x.sh y.sh axis 0=true:=by rw[hI,decide_eq_true ⟨by omega,g2⟩];rfl
       unfold Gh
       rw[if_pos this];rfl
     · refine go ?_
       rw[hI,decide_eq_false (fun q=>g2 q.2)];rfl
   · refine go ?_
     rw[hI,decide_eq_false (fun q=>q.1 (by omega))];rfl)
  4096 0 () (by omega) (by omega) (by simp)
 exact key
def Es(a b:Arr):Nat:=max (max a.shape.length b.shape.length) 1
def Kn(a b:Arr)(first:Bool):Nat:=if first then 0 else Es a b-1
theorem Wo(a b:Arr)(first:Bool):Kn a b first<Es a b:=by unfold Kn Es;split <;> omega
def AgZ(a b:Arr)(first:Bool):List D:=match Rn a b.shape (Es a b) (Kn a b first),Rn b a.shape (Es a b) (Kn a b first) with
 | some x,some y=>[K1 x.d y.d (Kn a b first:Int),.int 0]
 | _,_=>[K1 (P5 [] [] false) (P5 [] [] false) 0,.int 5]
theorem AcX(a b:Arr)(first:Bool)(ha:a.shape.length≤6)(hb:b.shape.length≤6):Sp 86 [dA a,dA b,.bool first] (AgZ a b first):=by
 refine Ag 0 (ZZ _ _ _ _) ?_
 have e1:(if (if (a.shape.length:Int)<(b.shape.length:Int) then (b.shape.length:Int) else (a.shape.length:Int))<1 then 1 else (if (a.shape.length:Int)<(b.shape.length:Int) then (b.shape.length:Int) else (a.shape.length:Int)))=((Es a b:Nat):Int):=by unfold Es;split <;> (split <;> omega)
 have h1:1≤Es a b:=by unfold Es;omega
 have h6:Es a b≤6:=by unfold Es;omega
 have w1:=CJ a b.shape (Es a b) (Kn a b first) (by omega) (by omega) h1 (Wo a b first) (by omega) (by unfold Es;omega)
 have w2:=CJ b a.shape (Es a b) (Kn a b first) (by omega) (by omega) h1 (Wo a b first) (by omega) (by unfold Es;omega)
 simp only[As,e1]
 unfold AgZ
 have fin:Tw (.call 172 [] [dA a,dI b.shape,.int (Es a b:Int),.int (Kn a b first:Int)] fun yy1 =>
   .br (!((yy1.getD 1 D.nil).toBool)) (.ret [D.agg [D.agg [D.sl [],D.sl [],D.bool false],D.agg [D.sl [],D.sl [],D.bool false],D.int 0],D.int 5])
   (.call 172 [] [dA b,dI a.shape,.int (Es a b:Int),.int (Kn a b first:Int)] fun yy2 =>
   .br (!((yy2.getD 1 D.nil).toBool)) (.ret [D.agg [D.agg [D.sl [],D.sl [],D.bool false],D.agg [D.sl [],D.sl [],D.bool false],D.int 0],D.int 5])
   (.ret [D.agg [yy1.getD 0 D.nil,yy2.getD 0 D.nil,D.int (Kn a b first:Int)],D.int 0]))) (match Rn a b.shape (Es a b) (Kn a b first),Rn b a.shape (Es a b) (Kn a b first) with
    | some x,some y=>[K1 x.d y.d (Kn a b first:Int),.int 0]
    | _,_=>[K1 (P5 [] [] false) (P5 [] [] false) 0,.int 5]):=by
  refine Aa w1 ?_
  cases Rn a b.shape (Es a b) (Kn a b first) with
  | none=>exact Ba rfl (Ac rfl)
  | some x =>
    refine Cs rfl (Aa w2 ?_)
    cases Rn b a.shape (Es a b) (Kn a b first) with
    | none=>exact Ba rfl (Ac rfl)
    | some y=>exact Cs rfl (Ac rfl)
 cases first with
 | true=>exact Ba rfl fin
 | false =>
  have e3:IntKind.wrap .i64 ((Es a b:Int)-1)=(Kn a b false:Int):=by rw[Ap (by omega) (by omega)];unfold Kn;simp;omega
  rw[e3]
  exact Cs rfl fin
def Abc(a b:Arr)(first:Bool):Arr×Int:=match Rn a b.shape (Es a b) (Kn a b first),Rn b a.shape (Es a b) (Kn a b first) with
 | some x,some y=>if (Gh x.sh y.sh (Kn a b first)).2≠0 then (.none,(Gh x.sh y.sh (Kn a b first)).2) else (.mk (a.s|||b.s) (Gh x.sh y.sh (Kn a b first)).1 (AbE x y (Kn a b first) (Gh x.sh y.sh (Kn a b first)).1),0)
 | _,_=>(.none,5)
theorem Ads{x y:Bk}{axes axis:Nat}(hx:BkOk x axes)(hy:BkOk y axes)(ha:axis<axes)(h:(Gh x.sh y.sh axis).2=0) :
   Near x axis (Gh x.sh y.sh axis).1∧Near y axis (Gh x.sh y.sh axis).1∧(Gh x.sh y.sh axis).1.length=axes∧(Gh x.sh y.sh axis).1.getD axis 0=x.sh.getD axis 0+y.sh.getD axis 0∧(Ay (Gh x.sh y.sh axis).1).2=0:=by
 unfold Gh at h ⊢
 split at h
 · cases h
 · rename_i hd
   rw[if_neg hd]
   split at h
   · rename_i g;exact absurd h g
   · rename_i g
     rw[if_neg g]
     have hxy:x.sh.length=y.sh.length:=by rw[hx.len,hy.len]
     have heq:=Ad9 (by simpa using hd) hxy
     refine ⟨⟨?_,?_⟩,⟨?_,?_⟩,by rw[List.length_set,hx.len],?_,Classical.not_not.1 g⟩
     · rw[List.take_set_of_le (Nat.le_refl _)]
     · rw[List.drop_set_of_lt (by omega)]
     · rw[List.take_set_of_le (Nat.le_refl _)]
       refine List.ext_getElem? (fun j=> ?_)
       rw[List.getElem?_take,List.getElem?_take]
       split
       · rw[heq j (by omega)]
       · rfl
     · rw[List.drop_set_of_lt (by omega)]
       refine List.ext_getElem? (fun j=> ?_)
       rw[List.getElem?_drop,List.getElem?_drop,heq _ (by omega)]
     · rw[List.getD_eq_getElem?_getD,List.getElem?_set_self (by rw[hx.len];exact ha)];rfl
theorem W4(a b:Arr)(first:Bool)(ha:Ay a.shape=((a.cells.length:Int),0))(hb:Ay b.shape=((b.cells.length:Int),0)):Sp 36 [dA a,dA b,.bool first] [dA (Abc a b first).1,.int (Abc a b first).2]:=by
 have ha6:=(Fq ha).1
 have hb6:=(Fq hb).1
 have har:=(E8 (l:=a.shape) (by rw[ha])).2
 have hbr:=(E8 (l:=b.shape) (by rw[hb])).2
 have h6:Es a b≤6:=by unfold Es;omega
 have h1:1≤Es a b:=by unfold Es;omega
 refine Ag 0 (ES _ _ _ _) ?_
 have hf:=AcX a b first ha6 hb6
 unfold AgZ at hf
 unfold Abc
 simp only[Al]
 cases hwa:Rn a b.shape (Es a b) (Kn a b first) with
 | none=>rw[hwa]at hf;exact Aa hf (Ba rfl (Ac rfl))
 | some x =>
  rw[hwa]at hf
  cases hwb:Rn b a.shape (Es a b) (Kn a b first) with
  | none=>rw[hwb]at hf;exact Aa hf (Ba rfl (Ac rfl))
  | some y =>
   rw[hwb]at hf
   have hx:=Ag7 hwa ha hbr h1 (Wo a b first) (by unfold Es;omega) (by unfold Es;omega)
   have hy:=Ag7 hwb hb har h1 (Wo a b first) (by unfold Es;omega) (by unfold Es;omega)
   refine Aa hf (Cs rfl (Aa (Aab x y (Es a b) _ hx hy (Wo a b first) (by omega)) ?_))
   simp only[As,Cr]
   refine Ad (fun g=>Ac (by rw[if_pos g])) (fun g=> ?_)
   rw[if_neg g]
   obtain ⟨n1,n2,n3,n4,n5⟩:=Ads hx hy (Wo a b first) (Classical.not_not.1 g)
   refine Aa (Dc a.s b.s) (Aa (Aaa x y (Es a b) _ _ hx hy (Wo a b first) n1 n2 n3 n4 n5) (Ac ?_))
   simp only[As]
   rw[Fz];rfl
def AhV(a:Arr):Arr:= .mk a.s (if 0<a.shape.length then [a.shape.getD 0 0,Bg (a.shape.drop 1) 1] else [1,1]) a.cells
theorem ZY(a:Arr)(ha:Ay a.shape=((a.cells.length:Int),0)):Sp 58 [dA a] [dA (AhV a)]:=by
 have hle:=(Fj a.shape).2
 rw[ha]at hle
 simp only at hle
 refine Ag 0 (PN _ _) ?_
 unfold AhV
 simp only[As]
 refine Ad (fun g=> ?_) (fun g=> ?_)
 · have ar:=Re a.shape 0
   rw[show Sd a.shape 0 = [.int (Bg (a.shape.take 0) 1),.int (a.shape.getD 0 0),.int (Bg (a.shape.drop 1) 1),.bool true] by unfold Sd;rw[if_pos ⟨by rw[ha],by omega,by omega⟩];rfl]at ar
   refine Aa ar (At (by simp only[Ar];omega) (Ac ?_))
   rw[if_pos (by omega),Fz]
   rfl
 · refine At (by simp only[Ar];omega) (Ac ?_)
   rw[if_neg (by omega),Fz]
   rfl
def On:List (Nat×Orc):=[(12,⟨[(1,none),(2,none),(6,none),(39,none),(40,none)],[(1,true),(2,false)],[(.slot 6,1120,67)]⟩)]
noncomputable def Om(n m12:Nat)(cells6:List D)(t39 t40:Int)(nn1:D)(t2_0:Int):Tree :=
 lA (eA On n 65 [1,1,1,1,1,0,1,0,0]) (Ao On 12) m12 ⟨(.undef:: .ptr 1 []:: .ptr 2 []::uA 3++(.row 1120::uA 32++(.i .i64 t39:: .i .i64 t40::uA 14))),[(1,.var 26 (.d 26 nn1) true),(2,.var 26 (.agg 26 [.i .u64 t2_0,.mt,.mt]) true),(1120,.row 67 cells6 true)],[1,2,1120],[],[]⟩
  (Ak 1 (Au (jA On n 65 [1,1,1,1,1,1]) (rA 65 [26] [.cell 2 26,.tmp 3] [26,29])))
theorem Ue(n m12:Nat)(cells6:List D)(t39 t40:Int)(nn1:D)(t2_0:Int):Om n (m12+1) cells6 t39 t40 nn1 t2_0 =
 .br (decide (t40<t39)) (.call 138 [] [D.int (IntKind.wrap .i64 (t40+1))] fun yy2 =>
 .br (decide (0≤t40)) (.br (decide (t40<(cells6.length:Int))) (Om n m12 (cells6.set (Int.toNat t40) (yy2.getD 0 D.nil)) t39 (IntKind.wrap .i64 (t40+1)) nn1 t2_0) .fail) .fail)
 (.call 149 [] [D.sl cells6] fun yy3 =>
 .call 84 [] [nn1] fun yy4 =>
 .call 90 [] [yy3.getD 0 D.nil,D.int ((yy4.getD 0 D.nil).toInt)] fun yy5 =>
 .ret [yy5.getD 0 D.nil,D.int 0]):=by kernel_rfl
theorem UD(n:Nat)(nn0:D):Ai Tryz.prog md On n 65 [] [nn0] =
 .call 80 [] [nn0] fun yy1 =>
 .br (((yy1.getD 1 D.nil).toInt)!=0) (.ret [D.agg [D.int 0,D.sl [],D.sl []],D.int ((yy1.getD 1 D.nil).toInt)])
 (.br ((((yy1.getD 0 D.nil).els).length:Int)!=1) (.ret [D.agg [D.int 0,D.sl [],D.sl []],D.int 4])
 (.br (decide (0≤0)) (.br (decide (0<(((yy1.getD 0 D.nil).els).length:Int))) (.br (decide (((((yy1.getD 0 D.nil).els).getD (Int.toNat 0) D.nil).toInt)<0)) (.ret [D.agg [D.int 0,D.sl [],D.sl []],D.int 3])
 (.br (decide (0≤0)) (.br (decide (0<(((yy1.getD 0 D.nil).els).length:Int))) (.br (decide (2048<((((yy1.getD 0 D.nil).els).getD (Int.toNat 0) D.nil).toInt))) (.ret [D.agg [D.int 0,D.sl [],D.sl []],D.int 7])
 (.br (decide (0≤0)) (.br (decide (0<(((yy1.getD 0 D.nil).els).length:Int))) (.br (decide (0≤(((yy1.getD 0 D.nil).els).getD (Int.toNat 0) D.nil).toInt)) (.br (decide ((((yy1.getD 0 D.nil).els).getD (Int.toNat 0) D.nil).toInt≤(((yy1.getD 0 D.nil).els).getD (Int.toNat 0) D.nil).toInt)) (.br (decide ((((yy1.getD 0 D.nil).els).getD (Int.toNat 0) D.nil).toInt≤Ar)) (Om n n (List.replicate (Int.toNat ((((yy1.getD 0 D.nil).els).getD (Int.toNat 0) D.nil).toInt)) (D.agg [D.int 0,D.int 0,D.agg [D.bool false,D.sl [],D.sl []],D.int 0,D.sl []])) ((List.replicate (Int.toNat ((((yy1.getD 0 D.nil).els).getD (Int.toNat 0) D.nil).toInt)) (D.agg [D.int 0,D.int 0,D.agg [D.bool false,D.sl [],D.sl []],D.int 0,D.sl []])).length:Int) 0 nn0 0) .fail) .fail) .fail) .fail) .fail)) .fail) .fail)) .fail) .fail)):=by kernel_rfl
def Lp:List (Nat×Orc):=[(7,⟨[(1,none),(2,none),(3,none),(4,some 128),(5,none),(19,some 24),(20,none),(21,none)],[(1,true),(2,false),(3,false)],[(.slot 5,1070,67)]⟩)]
noncomputable def J7(n m7:Nat)(place4:D)(cells5:List D)(t19:D)(t20 t21:Int)(a1:D)(r2_0 e3:Int):Tree :=
 lA (eA Lp n 67 [1,1,1,1,1,0,1,0,0]) (Ao Lp 7) m7 ⟨(.undef:: .ptr 1 []:: .ptr 2 []:: .ptr 3 []:: .d 128 place4:: .row 1070::uA 13++(.d 24 t19:: .i .i64 t20:: .i .i64 t21::uA 19)),[(1,.var 26 (.d 26 a1) true),(2,.var 26 (.agg 26 [.i .u64 r2_0,.mt,.mt]) true),(3,.var 29 (.i .i64 e3) true),(1070,.row 67 cells5 true)],[1,2,3,1070],[(151,[.ptr 2 [],.ptr 3 []])],[]⟩
  (Ak 0 (Au (jA Lp n 67 [1,1,1,1,1,1]) (rA 67 [26] [.cell 2 26,.cell 3 29] [26,29])))
theorem Hy(n m7:Nat)(place4_c0 place4_c1:D)(cells5:List D)(t19:D)(t20 t21:Int)(a1:D)(r2_0 e3:Int):J7 n (m7+1) (D.fn 216 [.ref 173,.ref 24] [place4_c0,place4_c1]) cells5 t19 t20 t21 a1 r2_0 e3 =
 .br (decide (t21<t20)) (.br (decide (0≤t21)) (.br (decide (t21<(t19.els.length:Int))) (.call (D.fn 216 [.ref 173,.ref 24] [place4_c0,place4_c1]).fnId (D.fn 216 [.ref 173,.ref 24] [place4_c0,place4_c1]).fnCts ([t19.els.getD (Int.toNat t21) D.nil]++(D.fn 216 [.ref 173,.ref 24] [place4_c0,place4_c1]).fnDs) fun yy2 =>
 .br (((yy2.getD 0 D.nil).toInt)==t21) (.br (decide (cells5.length + [t19.els.getD (Int.toNat t21) D.nil].length≤Ar)) (J7 n m7 (D.fn 216 [.ref 173,.ref 24] [place4_c0,place4_c1]) (cells5++[t19.els.getD (Int.toNat t21) D.nil]) t19 t20 (IntKind.wrap .i64 (t21+1)) a1 r2_0 e3) .fail)
 (J7 n m7 (D.fn 216 [.ref 173,.ref 24] [place4_c0,place4_c1]) cells5 t19 t20 (IntKind.wrap .i64 (t21+1)) a1 r2_0 e3)) .fail) .fail)
 (.call 149 [] [D.sl cells5] fun yy3 =>
 .call 84 [] [a1] fun yy4 =>
 .call 90 [] [yy3.getD 0 D.nil,D.int ((yy4.getD 0 D.nil).toInt)] fun yy5 =>
 .ret [yy5.getD 0 D.nil,D.int 0]):=by kernel_rfl
theorem MM(n:Nat)(a0:D):Ai Tryz.prog md Lp n 67 [] [a0] =
 .br (decide (1<(((a0.fld 1).els).length:Int))) (.ret [D.agg [D.int 0,D.sl [],D.sl []],D.int 5])
 (.call 152 [] [a0.fld 2] fun yy1 =>
 J7 n n (yy1.getD 0 D.nil) [] (a0.fld 2) (((a0.fld 2).els).length:Int) 0 a0 0 0):=by kernel_rfl
def My:List (Nat×Orc):=[(7,⟨[(2,none),(3,none),(4,none),(5,none),(6,some 128),(7,none),(25,some 24),(26,none),(27,none)],[(2,true),(3,true),(4,false),(5,false)],[(.slot 7,1070,67)]⟩)]
noncomputable def I4(n m7:Nat)(place6:D)(cells7:List D)(t25:D)(t26 t27:Int)(a2 b3:D)(r4_0 e5:Int):Tree :=
 lA (eA My n 106 [1,1,1,1,1,0,1,0,0]) (Ao My 7) m7 ⟨(.undef:: .undef:: .ptr 2 []:: .ptr 3 []:: .ptr 4 []:: .ptr 5 []:: .d 128 place6:: .row 1070::uA 17++(.d 24 t25:: .i .i64 t26:: .i .i64 t27::uA 26)),[(2,.var 26 (.d 26 a2) true),(3,.var 26 (.d 26 b3) true),(4,.var 26 (.agg 26 [.i .u64 r4_0,.mt,.mt]) true),(5,.var 29 (.i .i64 e5) true),(1070,.row 67 cells7 true)],[2,3,4,5,1070],[(180,[.ptr 4 [],.ptr 5 []])],[]⟩
  (Ak 0 (Au (jA My n 106 [1,1,1,1,1,1]) (rA 106 [26,26] [.cell 4 26,.cell 5 29] [26,29])))
theorem Ib(n m7:Nat)(place6_c0 place6_c1:D)(cells7:List D)(t25:D)(t26 t27:Int)(a2 b3:D)(r4_0 e5:Int):I4 n (m7+1) (D.fn 216 [.ref 173,.ref 24] [place6_c0,place6_c1]) cells7 t25 t26 t27 a2 b3 r4_0 e5 =
 .br (decide (t27<t26)) (.br (decide (0≤t27)) (.br (decide (t27<(t25.els.length:Int))) (.call (D.fn 216 [.ref 173,.ref 24] [place6_c0,place6_c1]).fnId (D.fn 216 [.ref 173,.ref 24] [place6_c0,place6_c1]).fnCts ([t25.els.getD (Int.toNat t27) D.nil]++(D.fn 216 [.ref 173,.ref 24] [place6_c0,place6_c1]).fnDs) fun yy2 =>
 .br (decide (((yy2.getD 0 D.nil).toInt)<0)) (.call 138 [] [D.int (IntKind.wrap .i64 ((((a2.fld 2).els).length:Int)+1))] fun yy3 =>
 .br (decide (0≤t27)) (.br (decide (t27<(cells7.length:Int))) (I4 n m7 (D.fn 216 [.ref 173,.ref 24] [place6_c0,place6_c1]) (cells7.set (Int.toNat t27) (yy3.getD 0 D.nil)) t25 t26 (IntKind.wrap .i64 (t27+1)) a2 b3 r4_0 e5) .fail) .fail)
 (.call 138 [] [D.int (IntKind.wrap .i64 (((yy2.getD 0 D.nil).toInt)+1))] fun yy4 =>
 .br (decide (0≤t27)) (.br (decide (t27<(cells7.length:Int))) (I4 n m7 (D.fn 216 [.ref 173,.ref 24] [place6_c0,place6_c1]) (cells7.set (Int.toNat t27) (yy4.getD 0 D.nil)) t25 t26 (IntKind.wrap .i64 (t27+1)) a2 b3 r4_0 e5) .fail) .fail)) .fail) .fail)
 (.call 182 [] [a2,b3] fun yy5 =>
 .call 181 [] [D.int ((yy5.getD 0 D.nil).toInt),b3.fld 1,D.sl cells7] fun yy6 =>
 .ret [yy6.getD 0 D.nil,D.int 0]):=by kernel_rfl
theorem PD(n:Nat)(a0 b1:D):Ai Tryz.prog md My n 106 [] [a0,b1] =
 .br ((((a0.fld 1).els).length:Int)!=1) (.ret [D.agg [D.int 0,D.sl [],D.sl []],D.int 5])
 (.call 152 [] [a0.fld 2] fun yy1 =>
 .br (decide (0≤(((b1.fld 2).els).length:Int))) (.br (decide ((((b1.fld 2).els).length:Int)≤(((b1.fld 2).els).length:Int))) (.br (decide ((((b1.fld 2).els).length:Int)≤Ar)) (I4 n n (yy1.getD 0 D.nil) (List.replicate (Int.toNat (((b1.fld 2).els).length:Int)) (D.agg [D.int 0,D.int 0,D.agg [D.bool false,D.sl [],D.sl []],D.int 0,D.sl []])) (b1.fld 2) (((b1.fld 2).els).length:Int) 0 a0 b1 0 0) .fail) .fail) .fail):=by kernel_rfl
def Lo:List (Nat×Orc):=[(5,⟨[(2,none),(3,none),(4,none),(5,some 128),(6,none),(19,some 24),(20,none),(21,none)],[(2,true),(3,true),(4,false)],[(.slot 6,1050,67)]⟩)]
noncomputable def H0(n m5:Nat)(place5:D)(cells6:List D)(t19:D)(t20 t21:Int)(a2 b3:D)(r4_0:Int):Tree :=
 lA (eA Lo n 107 [1,1,1,1,0,1,0,0]) (Ao Lo 5) m5 ⟨(.undef:: .undef:: .ptr 2 []:: .ptr 3 []:: .ptr 4 []:: .d 128 place5:: .row 1050::uA 12++(.d 24 t19:: .i .i64 t20:: .i .i64 t21::uA 21)),[(2,.var 26 (.d 26 a2) true),(3,.var 26 (.d 26 b3) true),(4,.var 26 (.agg 26 [.i .u64 r4_0,.mt,.mt]) true),(1050,.row 67 cells6 true)],[2,3,4,1050],[(183,[.ptr 4 []])],[]⟩
  (Ak 0 (Au (jA Lo n 107 [1,1,1,1,1]) (rA 107 [26,26] [.cell 4 26] [26])))
theorem Hx(n m5:Nat)(place5_c0 place5_c1:D)(cells6:List D)(t19:D)(t20 t21:Int)(a2 b3:D)(r4_0:Int):H0 n (m5+1) (D.fn 216 [.ref 173,.ref 24] [place5_c0,place5_c1]) cells6 t19 t20 t21 a2 b3 r4_0 =
 .br (decide (t21<t20)) (.br (decide (0≤t21)) (.br (decide (t21<(t19.els.length:Int))) (.call (D.fn 216 [.ref 173,.ref 24] [place5_c0,place5_c1]).fnId (D.fn 216 [.ref 173,.ref 24] [place5_c0,place5_c1]).fnCts ([t19.els.getD (Int.toNat t21) D.nil]++(D.fn 216 [.ref 173,.ref 24] [place5_c0,place5_c1]).fnDs) fun yy2 =>
 .br (decide (0≤((yy2.getD 0 D.nil).toInt))) (.call 138 [] [D.int 1] fun yy3 =>
 .br (decide (0≤t21)) (.br (decide (t21<(cells6.length:Int))) (H0 n m5 (D.fn 216 [.ref 173,.ref 24] [place5_c0,place5_c1]) (cells6.set (Int.toNat t21) (yy3.getD 0 D.nil)) t19 t20 (IntKind.wrap .i64 (t21+1)) a2 b3 r4_0) .fail) .fail)
 (.call 138 [] [D.int 0] fun yy4 =>
 .br (decide (0≤t21)) (.br (decide (t21<(cells6.length:Int))) (H0 n m5 (D.fn 216 [.ref 173,.ref 24] [place5_c0,place5_c1]) (cells6.set (Int.toNat t21) (yy4.getD 0 D.nil)) t19 t20 (IntKind.wrap .i64 (t21+1)) a2 b3 r4_0) .fail) .fail)) .fail) .fail)
 (.call 182 [] [a2,b3] fun yy5 =>
 .call 181 [] [D.int ((yy5.getD 0 D.nil).toInt),a2.fld 1,D.sl cells6] fun yy6 =>
 .ret [yy6.getD 0 D.nil]):=by kernel_rfl
theorem ML(n:Nat)(a0 b1:D):Ai Tryz.prog md Lo n 107 [] [a0,b1] =
 .call 152 [] [b1.fld 2] fun yy1 =>
 .br (decide (0≤(((a0.fld 2).els).length:Int))) (.br (decide ((((a0.fld 2).els).length:Int)≤(((a0.fld 2).els).length:Int))) (.br (decide ((((a0.fld 2).els).length:Int)≤Ar)) (H0 n n (yy1.getD 0 D.nil) (List.replicate (Int.toNat (((a0.fld 2).els).length:Int)) (D.agg [D.int 0,D.int 0,D.agg [D.bool false,D.sl [],D.sl []],D.int 0,D.sl []])) (a0.fld 2) (((a0.fld 2).els).length:Int) 0 a0 b1 0) .fail) .fail) .fail:=by kernel_rfl
theorem PF(n:Nat)(a0 b1:D):Ai Tryz.prog md [] n 108 [] [a0,b1] =
 .br (decide (1<(((a0.fld 1).els).length:Int))) (.ret [D.agg [D.int 0,D.sl [],D.sl []],D.int 5])
 (.br (decide (1<(((b1.fld 1).els).length:Int))) (.ret [D.agg [D.int 0,D.sl [],D.sl []],D.int 5])
 (.call 185 [] [b1.fld 2,a0.fld 2,D.bool false] fun yy1 =>
 .br (decide (2048<(IntKind.wrap .i64 ((((a0.fld 2).els).length:Int)+(((yy1.getD 0 D.nil).els).length:Int))))) (.ret [D.agg [D.int 0,D.sl [],D.sl []],D.int 7])
 (.br (decide (0≤0)) (.br (decide (0≤IntKind.wrap .i64 ((((a0.fld 2).els).length:Int)+(((yy1.getD 0 D.nil).els).length:Int)))) (.br (decide (IntKind.wrap .i64 ((((a0.fld 2).els).length:Int)+(((yy1.getD 0 D.nil).els).length:Int))≤Ar)) (.br (decide ((List.replicate (Int.toNat 0) (D.agg [D.int 0,D.int 0,D.agg [D.bool false,D.sl [],D.sl []],D.int 0,D.sl []])).length+((a0.fld 2).els).length≤Ar)) (.br (decide (((List.replicate (Int.toNat 0) (D.agg [D.int 0,D.int 0,D.agg [D.bool false,D.sl [],D.sl []],D.int 0,D.sl []]))++((a0.fld 2).els)).length+((yy1.getD 0 D.nil).els).length≤Ar)) (.call 149 [] [D.sl (((List.replicate (Int.toNat 0) (D.agg [D.int 0,D.int 0,D.agg [D.bool false,D.sl [],D.sl []],D.int 0,D.sl []]))++((a0.fld 2).els))++((yy1.getD 0 D.nil).els))] fun yy2 =>
 .call 182 [] [a0,b1] fun yy3 =>
 .call 90 [] [yy2.getD 0 D.nil,D.int ((yy3.getD 0 D.nil).toInt)] fun yy4 =>
 .ret [yy4.getD 0 D.nil,D.int 0]) .fail) .fail) .fail) .fail) .fail))):=by kernel_rfl
theorem PE(n:Nat)(a0 b1 in2:D):Ai Tryz.prog md [] n 109 [] [a0,b1,in2] =
 .br (decide (1<(((a0.fld 1).els).length:Int))) (.ret [D.agg [D.int 0,D.sl [],D.sl []],D.int 5])
 (.call 185 [] [a0.fld 2,b1.fld 2,D.bool in2.toBool] fun yy1 =>
 .call 149 [] [yy1.getD 0 D.nil] fun yy2 =>
 .call 182 [] [a0,b1] fun yy3 =>
 .call 90 [] [yy2.getD 0 D.nil,D.int ((yy3.getD 0 D.nil).toInt)] fun yy4 =>
 .ret [yy4.getD 0 D.nil,D.int 0]):=by kernel_rfl
theorem MN(n:Nat)(l0 s1 cells2:D):Ai Tryz.prog md [] n 181 [] [l0,s1,cells2] =
 .br (decide (s1.els.length≤Ar)) (.ret [D.agg [D.int l0.toInt,D.sl s1.els,cells2]]) .fail:=by kernel_rfl
theorem UG(n:Nat)(a0 b1:D):Ai Tryz.prog md [] n 182 [] [a0,b1] =
 .call 84 [] [a0] fun yy1 =>
 .call 84 [] [b1] fun yy2 =>
 .call 83 [] [D.int ((yy1.getD 0 D.nil).toInt),D.int ((yy2.getD 0 D.nil).toInt)] fun yy3 =>
 .ret [D.int ((yy3.getD 0 D.nil).toInt)]:=by kernel_rfl
def Mz:List (Nat×Orc):=[(4,⟨[(2,none),(7,some 128),(8,none),(14,some 24),(15,none),(16,none)],[],[(.slot 8,1040,67)]⟩)]
noncomputable def La(n m4:Nat)(in2:Bool)(place7:D)(r8:List D)(t14:D)(t15 t16:Int):Tree :=
 lA (eA Mz n 185 [1,1,1,0,1,0,0]) (Ao Mz 4) m4 ⟨(.undef:: .undef:: .b in2::uA 4++(.d 128 place7:: .row 1040::uA 5++(.d 24 t14:: .i .i64 t15:: .i .i64 t16::uA 15))),[(1040,.row 67 r8 true)],[1040],[],[]⟩
  (Ak 0 (Au (jA Mz n 185 [1,1,1,1]) (rA 185 [24,24,4] [.tmp 6] [24])))
theorem If(n m4:Nat)(in2:Bool)(place7_c0 place7_c1:D)(r8:List D)(t14:D)(t15 t16:Int):La n (m4+1) in2 (D.fn 216 [.ref 173,.ref 24] [place7_c0,place7_c1]) r8 t14 t15 t16 =
 .br (decide (t16<t15)) (.br (decide (0≤t16)) (.br (decide (t16<(t14.els.length:Int))) (.call (D.fn 216 [.ref 173,.ref 24] [place7_c0,place7_c1]).fnId (D.fn 216 [.ref 173,.ref 24] [place7_c0,place7_c1]).fnCts ([t14.els.getD (Int.toNat t16) D.nil]++(D.fn 216 [.ref 173,.ref 24] [place7_c0,place7_c1]).fnDs) fun yy2 =>
 .br ((decide (0≤((yy2.getD 0 D.nil).toInt)))==in2) (.br (decide (r8.length + [t14.els.getD (Int.toNat t16) D.nil].length≤Ar)) (La n m4 in2 (D.fn 216 [.ref 173,.ref 24] [place7_c0,place7_c1]) (r8++[t14.els.getD (Int.toNat t16) D.nil]) t14 t15 (IntKind.wrap .i64 (t16+1))) .fail)
 (La n m4 in2 (D.fn 216 [.ref 173,.ref 24] [place7_c0,place7_c1]) r8 t14 t15 (IntKind.wrap .i64 (t16+1)))) .fail) .fail)
 (.ret [D.sl r8]):=by kernel_rfl
theorem PG(n:Nat)(l0 others1 in2:D):Ai Tryz.prog md Mz n 185 [] [l0,others1,in2] =
 .call 152 [] [others1] fun yy1 =>
 La n n in2.toBool (yy1.getD 0 D.nil) [] l0 (l0.els.length:Int) 0:=by kernel_rfl
def Bh:List (Nat×Orc):=[(5,⟨[(0,none),(3,none),(31,some 62),(32,none),(33,none)],[(3,true)],[]⟩),(10,⟨[(0,none),(3,none),(44,some 62),(45,none),(46,none)],[(3,true)],[]⟩),(15,⟨[(0,none),(56,some 65),(57,none),(58,none)],[],[]⟩),(18,⟨[(0,none),(10,none),(56,some 65),(57,none),(58,none),(63,some 23),(64,none),(65,none)],[(10,true)],[]⟩),(23,⟨[(0,none),(56,some 65),(57,none),(58,none),(75,some 24),(76,none),(77,none)],[],[]⟩)]
def Ic:List Nat:=[22,67]
def Ie:List ResultVar:=[.tmp 4]
noncomputable def Oq(n m15 m23:Nat)(k0:Int)(t56:D)(t57 t58:Int)(t75:D)(t76 t77:Int):Tree :=
 lA (eA Bh n 215 [1,1,1,1,1,0,1,0,0,1,1,0,0,1,1,1,0,0]) (Ao Bh 23) m23 ⟨(.i .u64 k0::uA 55++(.d 65 t56:: .i .i64 t57:: .i .i64 t58::uA 16++(.d 24 t75:: .i .i64 t76:: .i .i64 t77::uA 9))),[],[],[],[]⟩
  (Ak 8 (Ak 5 (Au (jA Bh n 215 [1,1,1,1,1,0,1,0,0,1,1,1]) (J0 Tryz.prog md (Ao Bh 15) (fun s1=>lA (eA Bh n 215 [1,1,1,1,1,0,1,0,0]) (Ao Bh 15) m15 s1 (Ak 4 (Au (jA Bh n 215 [1,1,1,1,1,1]) (rA 215 Ic Ie [22])))) (Ak 4 (Au (jA Bh n 215 [1,1,1,1,1,1]) (rA 215 Ic Ie [22])))))))
noncomputable def Oo(n m15 m18:Nat)(k0:Int)(t56:D)(t57 t58:Int)(t63:D)(t64 t65:Int)(a10:D):Tree :=
 lA (eA Bh n 215 [1,1,1,1,1,0,1,0,0,1,1,0,0,1,0,1,0,0]) (Ao Bh 18) m18 ⟨(.i .u64 k0::uA 9++(.ptr 10 []::uA 45++(.d 65 t56:: .i .i64 t57:: .i .i64 t58::uA 4++(.d 23 t63:: .i .i64 t64:: .i .i64 t65::uA 21)))),[(10,.var 26 (.d 26 a10) true)],[10],[],[]⟩
  (Ak 6 (Au (jA Bh n 215 [1,1,1,1,1,0,1,0,0,1,1,0,0,1,1]) (Ak 5 (Au (jA Bh n 215 [1,1,1,1,1,0,1,0,0,1,1,1]) (J0 Tryz.prog md (Ao Bh 15) (fun s1=>lA (eA Bh n 215 [1,1,1,1,1,0,1,0,0]) (Ao Bh 15) m15 s1 (Ak 4 (Au (jA Bh n 215 [1,1,1,1,1,1]) (rA 215 Ic Ie [22])))) (Ak 4 (Au (jA Bh n 215 [1,1,1,1,1,1]) (rA 215 Ic Ie [22]))))))))
noncomputable def K_(n m15:Nat)(k0:Int)(t56:D)(t57 t58:Int):Tree :=
 lA (eA Bh n 215 [1,1,1,1,1,0,1,0,0]) (Ao Bh 15) m15 ⟨(.i .u64 k0::uA 55++(.d 65 t56:: .i .i64 t57:: .i .i64 t58::uA 28)),[],[],[],[]⟩
  (Ak 4 (Au (jA Bh n 215 [1,1,1,1,1,1]) (rA 215 Ic Ie [22])))
noncomputable def K9(n m10:Nat)(k0:Int)(t44:D)(t45 t46:Int)(c3:D):Tree :=
 lA (eA Bh n 215 [1,1,1,1,0,1,0,0]) (Ao Bh 10) m10 ⟨(.i .u64 k0:: .undef:: .undef:: .ptr 3 []::uA 40++(.d 62 t44:: .i .i64 t45:: .i .i64 t46::uA 40)),[(3,.var 67 (.d 67 c3) true)],[3],[],[]⟩
  (Ak 2 (Au (jA Bh n 215 [1,1,1,1,1]) (rA 215 Ic Ie [22])))
noncomputable def J8(n m5:Nat)(k0:Int)(t31:D)(t32 t33:Int)(c3:D):Tree :=
 lA (eA Bh n 215 [1,1,1,0,1,0,0]) (Ao Bh 5) m5 ⟨(.i .u64 k0:: .undef:: .undef:: .ptr 3 []::uA 27++(.d 62 t31:: .i .i64 t32:: .i .i64 t33::uA 53)),[(3,.var 67 (.d 67 c3) true)],[3],[],[]⟩
  (Ak 0 (Au (jA Bh n 215 [1,1,1,1]) (rA 215 Ic Ie [22])))
theorem Ui(n m15 m23:Nat)(k0:Int)(t56:D)(t57 t58:Int)(t75:D)(t76 t77:Int):Oq n m15 (m23+1) k0 t56 t57 t58 t75 t76 t77 =
 .br (decide (t77<t76)) (.br (decide (0≤t77)) (.br (decide (t77<(t75.els.length:Int))) (.call 215 [] [D.int k0,t75.els.getD (Int.toNat t77) D.nil] fun yy7 =>
 Oq n m15 m23 ((yy7.getD 0 D.nil).toInt) t56 t57 t58 t75 t76 (IntKind.wrap .i64 (t77+1))) .fail) .fail)
 (K_ n m15 k0 t56 t57 (IntKind.wrap .i64 (t58+1))):=by kernel_rfl
theorem Uh(n m15 m18:Nat)(k0:Int)(t56:D)(t57 t58:Int)(t63:D)(t64 t65:Int)(a10:D):Oo n m15 (m18+1) k0 t56 t57 t58 t63 t64 t65 a10 =
 .br (decide (t65<t64)) (.br (decide (0≤t65)) (.br (decide (t65<(t63.els.length:Int))) (.call 249 [] [D.int k0,D.int (IntKind.wrap .u64 ((t63.els.getD (Int.toNat t65) D.nil).toInt))] fun yy6 =>
 Oo n m15 m18 ((yy6.getD 0 D.nil).toInt) t56 t57 t58 t63 t64 (IntKind.wrap .i64 (t65+1)) a10) .fail) .fail)
 (Oq n m15 n k0 t56 t57 t58 (a10.fld 2) (((a10.fld 2).els).length:Int) 0):=by kernel_rfl
theorem Ug(n m15:Nat)(k0:Int)(t56:D)(t57 t58:Int):K_ n (m15+1) k0 t56 t57 t58 =
 .br (decide (t58<t57)) (.br (decide (0≤t58)) (.br (decide (t58<(t56.els.length:Int))) (Oo n m15 n k0 t56 t57 t58 ((t56.els.getD (Int.toNat t58) D.nil).fld 1) ((((t56.els.getD (Int.toNat t58) D.nil).fld 1).els).length:Int) 0 (t56.els.getD (Int.toNat t58) D.nil)) .fail) .fail)
 (.ret [D.int k0]):=by kernel_rfl
theorem Uf(n m10:Nat)(k0:Int)(t44:D)(t45 t46:Int)(c3:D):K9 n (m10+1) k0 t44 t45 t46 c3 =
 .br (decide (t46<t45)) (.br (decide (0≤t46)) (.br (decide (t46<(t44.els.length:Int))) (.call 249 [] [D.int k0,D.int (IntKind.wrap .u64 ((t44.els.getD (Int.toNat t46) D.nil).toInt))] fun yy5 =>
 K9 n m10 ((yy5.getD 0 D.nil).toInt) t44 t45 (IntKind.wrap .i64 (t46+1)) c3) .fail) .fail)
 (K_ n n k0 (c3.fld 4) (((c3.fld 4).els).length:Int) 0):=by kernel_rfl
theorem Vh(n m5:Nat)(k0:Int)(t31:D)(t32 t33:Int)(c3:D):J8 n (m5+1) k0 t31 t32 t33 c3 =
 .br (decide (t33<t32)) (.br (decide (0≤t33)) (.br (decide (t33<(t31.els.length:Int))) (.call 249 [] [D.int k0,D.int (IntKind.wrap .u64 ((t31.els.getD (Int.toNat t33) D.nil).toInt))] fun yy4 =>
 J8 n m5 ((yy4.getD 0 D.nil).toInt) t31 t32 (IntKind.wrap .i64 (t33+1)) c3) .fail) .fail)
 (K9 n n k0 ((c3.fld 2).fld 2) ((((c3.fld 2).fld 2).els).length:Int) 0 c3):=by kernel_rfl
theorem UH(n:Nat)(k0 c1:D):Ai Tryz.prog md Bh n 215 [] [k0,c1] =
 .call 249 [] [D.int k0.toInt,D.int (IntKind.wrap .u64 ((c1.fld 1).toInt))] fun yy1 =>
 .call 249 [] [D.int ((yy1.getD 0 D.nil).toInt),D.int (IntKind.wrap .u64 ((c1.fld 3).toInt))] fun yy2 =>
 .br (((c1.fld 2).fld 0).toBool) (.call 249 [] [D.int ((yy2.getD 0 D.nil).toInt),D.int 1] fun yy3 =>
 J8 n n ((yy3.getD 0 D.nil).toInt) ((c1.fld 2).fld 1) ((((c1.fld 2).fld 1).els).length:Int) 0 c1)
 (J8 n n ((yy2.getD 0 D.nil).toInt) ((c1.fld 2).fld 1) ((((c1.fld 2).fld 1).els).length:Int) 0 c1):=by kernel_rfl
def Jy:List (Nat×Orc):=[(3,⟨[(2,none),(5,none),(13,some 23),(14,none),(15,none)],[(5,true)],[]⟩)]
noncomputable def Kr(n m3:Nat)(t2 t13:D)(t14 t15:Int)(alone5:D):Tree :=
 lA (eA Jy n 216 [1,1,0,1,0,0]) (Ao Jy 3) m3 ⟨(.undef:: .undef:: .at_ 24 t2:: .undef:: .undef:: .ptr 5 []::uA 7++(.d 23 t13:: .i .i64 t14:: .i .i64 t15::uA 12)),[(5,.var 26 (.d 26 alone5) true)],[5],[],[]⟩
  (Ak 0 (Au (jA Jy n 216 [1,1,1]) (rA 216 [67] [.tmp 4] [3])))
theorem Pq(n m3:Nat)(t2 t13:D)(t14 t15:Int)(alone5:D):Kr n (m3+1) t2 t13 t14 t15 alone5 =
 .br (decide (t15<t14)) (.br (decide (0≤t15)) (.br (decide (t15<(t13.els.length:Int))) (.br (decide (0≤(t13.els.getD (Int.toNat t15) D.nil).toInt)) (.br (decide ((t13.els.getD (Int.toNat t15) D.nil).toInt<(t2.els.length:Int))) (.call 178 [] [t2.els.getD (Int.toNat ((t13.els.getD (Int.toNat t15) D.nil).toInt)) D.nil] fun yy3 =>
 .call 179 [] [alone5,yy3.getD 0 D.nil] fun yy4 =>
 .br ((yy4.getD 0 D.nil).toBool) (.ret [D.int ((t13.els.getD (Int.toNat t15) D.nil).toInt)])
 (Kr n m3 t2 t13 t14 (IntKind.wrap .i64 (t15+1)) alone5)) .fail) .fail) .fail) .fail)
 (.ret [D.int (-1)]):=by kernel_rfl
theorem EI(n:Nat)(c0 c1 c2:D):Ai Tryz.prog md Jy n 216 [.ref 173,.ref 24] [c0,c1,c2] =
 .call 178 [] [c0] fun yy1 =>
 .call 215 [] [D.int 0,c0] fun yy2 =>
 Kr n n c2.unref (D.sl ((c1.unref.grpI ((yy2.getD 0 D.nil).toInt)).map D.int)) (((c1.unref.grpI ((yy2.getD 0 D.nil).toInt)).map D.int).length:Int) 0 (yy1.getD 0 D.nil):=by kernel_rfl
theorem ZX(n:Nat)(k0 nn1:D):Ai Tryz.prog md [] n 249 [] [k0,nn1] =
 .br (decide (0≤29)) (.ret [D.int (Bs .xor .u64 (IntKind.wrap .u64 ((Bs .xor .u64 k0.toInt nn1.toInt)*11400714819323198485)) (Int.fdiv (IntKind.wrap .u64 ((Bs .xor .u64 k0.toInt nn1.toInt)*11400714819323198485)) (2 ^ (min (Int.toNat 29) (IntKind.bits .u64)))))]) .fail:=by kernel_rfl
def wU(x:Int):Int:=IntKind.wrap .u64 x
def Md(k n:Int):Int:=Bs .xor .u64 (IntKind.wrap .u64 ((Bs .xor .u64 k n)*11400714819323198485)) (Int.fdiv (IntKind.wrap .u64 ((Bs .xor .u64 k n)*11400714819323198485)) (2 ^ (min (Int.toNat 29) (IntKind.bits .u64))))
theorem Zu(k n:Int):Sp 249 [.int k,.int n] [.int (Md k n)]:=Ag 0 (ZX _ _ _) (At (by decide) (Ac rfl))
def Qg(k:Int)(l:List Av):Int:=l.foldl (fun k x=>Md k (wU (x.toNat:Int))) k
def AeM(k:Int)(l:List Int):Int:=l.foldl (fun k x=>Md k (wU x)) k
mutual
def Ch:Int→CellF Arr→Int
 | k,⟨_,kd,n,c,inn⟩=>FB (Qg (Qg (if n.neg then Md (Md (Md k (wU kd)) (wU c)) 1 else Md (Md k (wU kd)) (wU c)) n.top) n.bot) inn
def FB:Int→List Arr→Int
 | k,[]=>k
 | k,a::as_=>FB (Jd k a) as_
def Jd:Int→Arr→Int
 | k,.mk _ sh cs=>FC (AeM k sh) cs
def FC:Int→List (CellF Arr)→Int
 | k,[]=>k
 | k,c::cs=>FC (Ch k c) cs
end
theorem LA : ∀ (as_:List Arr) (k:Int),FB k as_=as_.foldl Jd k
 | [],k=>by rw[FB];rfl
 | a::as_,k=>by rw[FB,LA as_];rfl
theorem LB : ∀ (cs:List Cell) (k:Int),FC k cs=cs.foldl Ch k
 | [],k=>by rw[FC];rfl
 | c::cs,k=>by rw[FC,LB cs];rfl
theorem BG(k:Int)(a:Arr):Jd k a=a.cells.foldl Ch (AeM k a.shape):=by cases a;rw[Jd,LB];rfl
theorem Sr(k:Int)(c:Cell):Ch k c=c.inn.foldl Jd (Qg (Qg (if c.n.neg then Md (Md (Md k (wU c.kind)) (wU c.c)) 1 else Md (Md k (wU c.kind)) (wU c.c)) c.n.top) c.n.bot):=by cases c;rw[Ch,LA]
theorem X7{α:Type}{f:Int→α→Int}{r:α→α} : ∀ {l:List α} {k:Int},(∀ x∈l,∀ k,f k (r x)=f k x)→(l.map r).foldl f k=l.foldl f k
 | [],_,_=>rfl
 | x::xs,k,h=>by
  simp only[List.map_cons,List.foldl_cons,h x (by simp)]
  exact X7 (fun y hy=>h y (List.mem_cons_of_mem _ hy))
theorem AfP(g:Co→Co)(a:Arr) : ∀ k,Jd k (N1 g a)=Jd k a:=by
 induction a using Arr.ind with
 | h s sh cs IH =>
  intro k
  rw[BG,BG,Sy]
  simp only[Arr.cells_mk,Arr.shape_mk]
  refine X7 (fun c hc k=> ?_)
  rw[Sr,Sr,JD]
  exact X7 (fun x hx k=>IH c hc x hx k)
theorem YI(g:Co→Co)(c:Cell)(k:Int):Ch k (K5 g c)=Ch k c:=by
 rw[Sr,Sr,JD]
 exact X7 (fun x _ k=>AfP g x k)
noncomputable def Rc(x y:Cell):Bool:=KV (K5 (fun _=>0) x) (K5 (fun _=>0) y)
theorem Mj{x y:Cell} : Rc x y=true↔K5 (fun _=>0) x=K5 (fun _=>0) y:=Wg
theorem Afk(x:Cell):Rc x x=true:=AgV _
theorem Afi(x y:Cell):Rc x y=Rc y x:=by
 cases h:Rc y x with
 | true=>exact Mj.2 (Mj.1 h).symm
 | false =>
  cases h2:Rc x y with
  | false=>rfl
  | true=>rw[Mj.2 (Mj.1 h2).symm]at h;cases h
theorem Afj{x y:Cell}(h:Rc x y=true)(k:Int):Ch k x=Ch k y:=by
 rw[← YI (fun _=>0) x,← YI (fun _=>0) y,Mj.1 h]
theorem AiY(x y:Cell):AeO (K0 x) (K0 y)=Rc x y:=by
 cases h:Rc x y with
 | true=>exact Sj.2 (by unfold Ae5 K0;rw[Sy,Sy];simp only[Arr.cells_mk,Arr.s_mk,Arr.shape_mk,List.map_cons,List.map_nil,Mj.1 h])
 | false =>
  cases h2:AeO (K0 x) (K0 y) with
  | false=>rfl
  | true =>
   have:=Sj.1 h2
   unfold Ae5 K0 at this
   rw[Sy,Sy,AaV]at this
   have h3:=this.2.2
   simp only[Arr.cells_mk,List.map_cons,List.map_nil,List.cons.injEq,and_true]at h3
   rw[Mj.2 h3]at h;cases h
noncomputable def El:List Cell→Cell→Nat→Int
 | [],_,_=> -1
 | x::xs,c,k=>if Rc x c then (k:Int) else El xs c (k+1)
theorem FM : ∀ (l:List Cell) (c:Cell) (k:Nat),El l c k = -1∨((k:Int)≤El l c k∧El l c k<(k+l.length:Nat))
 | [],c,k=> .inl rfl
 | x::xs,c,k=>by
  simp only[El]
  split
  · right;simp only[List.length_cons];omega
  · rcases FM xs c (k+1) with h | h
    · exact .inl h
    · right;simp only[List.length_cons];omega
def Hi:List Cell→Int→Nat→List Int
 | [],_,_=>[]
 | x::xs,n,k=>if Ch 0 x=n then (k:Int)::Hi xs n (k+1) else Hi xs n (k+1)
theorem PJ : ∀ (l:List Cell) (n:Int) (k:Nat),(∀ j∈Hi l n k,(k:Int)≤j∧j<(k+l.length:Nat))∧(Hi l n k).length≤l.length
 | [],n,k=>by simp[Hi]
 | x::xs,n,k=>by
  obtain ⟨h1,h2⟩:=PJ xs n (k+1)
  simp only[Hi]
  split
  · refine ⟨fun j hj=> ?_,by simp only[List.length_cons];omega⟩
    simp only[List.length_cons]
    rcases List.mem_cons.1 hj with rfl | hj
    · omega
    · have:=h1 j hj;omega
  · refine ⟨fun j hj=> ?_,by simp only[List.length_cons];omega⟩
    simp only[List.length_cons]
    have:=h1 j hj;omega
noncomputable def Abz(l:List Cell)(c:Cell):List Int→Int
 | []=> -1
 | j::js=>if Rc c (l.getD j.toNat Cell.none) then j else Abz l c js
theorem PH(l:List Cell)(c:Cell) : ∀ (xs:List Cell) (k:Nat),l.drop k=xs→Abz l c (Hi xs (Ch 0 c) k)=El xs c k
 | [],k,_=>rfl
 | x::xs,k,h=>by
  obtain ⟨h1,h2,h3⟩:=Az h
  have ih:=PH l c xs (k+1) h3
  have hg:l.getD k Cell.none=x:=by rw[List.getD_eq_getElem?_getD,h2];rfl
  simp only[Hi,El]
  by_cases hm:Ch 0 x=Ch 0 c
  · rw[if_pos hm]
    simp only[Abz,Int.toNat_natCast,hg]
    rw[Afi c x,ih]
  · rw[if_neg hm,if_neg (fun hs=>hm (Afj hs 0)),ih]
theorem AdK : ∀ (d:Nat) (c:Cell) (k:Int),SmlC d c→Sp 215 [.int k,dC c] [.int (Ch k c)]:=by
 suffices key : ∀ (d:Nat),(∀ e,d=e+1→∀ (c:Cell) (k:Int),SmlC e c→Sp 215 [.int k,dC c] [.int (Ch k c)])→∀ (c:Cell) (k:Int),SmlC d c→Sp 215 [.int k,dC c] [.int (Ch k c)] by
   intro d
   induction d with
   | zero=>exact key 0 (fun e he=>by omega)
   | succ d ih=>exact key (d+1) (fun e he=>by
          have:e=d:=by omega
          subst this;exact ih)
 intro d IH c k hc
 obtain ⟨c1,c2,c3,c4⟩:=hc
 rw[Sr]
 have inn : ∀ k0:Int,Tw (K_ 1048577 1048577 k0 (.sl (c.inn.map dA)) (c.inn.length:Int) 0) [.int (c.inn.foldl Jd k0)]:=by
   intro k0
   have key:=A7 (P:=Tryz.prog) (md:=md) c.inn (fun m k (s:Int)=>K_ 1048577 m s (.sl (c.inn.map dA)) (c.inn.length:Int) (k:Int)) (fun rest s=>[.int (rest.foldl Jd s)]) (fun _ _=>True)
    (fun m k s hk _=>by
     simp only[Ug]
     exact Am (by omega) (Ac rfl))
    (fun m k s x rest hdr _ ih=>by
     obtain ⟨h1,h2,h3⟩:=Az hdr
     have hx:=c4 x (List.mem_of_getElem? h2)
     obtain ⟨e,rfl⟩:=hx.succ
     have hxs:=hx.1
     have hxc:=hx.2.1
     simp only[Ug,As,Aj h2]
     refine Ae (Ae (Ae ?_))
     have key2:=A7 (P:=Tryz.prog) (md:=md) x.shape (fun m' j (s:Int)=>Oo 1048577 m m' s (.sl (c.inn.map dA)) (c.inn.length:Int) (k:Int) (dI x.shape) (x.shape.length:Int) (j:Int) (dA x)) (fun rest' s=>[.int (rest.foldl Jd (x.cells.foldl Ch (AeM s rest')))]) (fun _ _=>True)
      (fun m' j s hj _=>by
       simp only[Uh,As]
       refine Am (by omega) ?_
       have key3:=A7 (P:=Tryz.prog) (md:=md) x.cells (fun m'' i (s:Int)=>Oq 1048577 m m'' s (.sl (c.inn.map dA)) (c.inn.length:Int) (k:Int) (.sl (x.cells.map dC)) (x.cells.length:Int) (i:Int)) (fun rest'' s=>[.int (rest.foldl Jd (rest''.foldl Ch s))]) (fun _ _=>True)
        (fun m'' i s hi _=>by
         simp only[Ui,An (show k<9223372036854775807 by omega)]
         exact Am (by omega) (ih s trivial))
        (fun m'' i s y rest'' hdr'' _ ih''=>by
         obtain ⟨g1,g2,g3⟩:=Az hdr''
         simp only[Ui,As,Aj g2,An (show i<9223372036854775807 by omega)]
         exact Ae (Ae (Ae (Aa (IH e rfl y s (hx.cell y (List.mem_of_getElem? g2))) (ih'' _ trivial)))))
        1048577 0 s (by omega) (by omega) trivial
       exact key3)
      (fun m' j s y rest' hdr' _ ih'=>by
       obtain ⟨g1,g2,g3⟩:=Az hdr'
       simp only[Uh,As,Aj g2,An (show j<9223372036854775807 by omega)]
       exact Ae (Ae (Ae (Aa (Zu s (wU y)) (ih' _ trivial)))))
      1048577 0 s (by omega) (by omega) trivial
     rw[List.foldl_cons,BG]
     exact key2)
    1048577 0 k0 (by omega) (by omega) trivial
   exact key
 have bot : ∀ k0:Int,Tw (K9 1048577 1048577 k0 (dL c.n.bot) (c.n.bot.length:Int) 0 (dC c)) [.int (c.inn.foldl Jd (Qg k0 c.n.bot))]:=by
   intro k0
   have key:=A7 (P:=Tryz.prog) (md:=md) c.n.bot (fun m k (s:Int)=>K9 1048577 m s (dL c.n.bot) (c.n.bot.length:Int) (k:Int) (dC c)) (fun rest s=>[.int (c.inn.foldl Jd (Qg s rest))]) (fun _ _=>True)
    (fun m k s hk _=>by
     simp only[Uf,As]
     exact Am (by omega) (inn s))
    (fun m k s x rest hdr _ ih=>by
     obtain ⟨h1,h2,h3⟩:=Az hdr
     simp only[Uf,Bu,List.length_map,Int.toNat_natCast,Aj h2,Ds,An (show k<9223372036854775807 by omega)]
     exact Ae (Ae (Ae (Aa (Zu s (wU (x.toNat:Int))) (ih _ trivial)))))
    1048577 0 k0 (by omega) (by omega) trivial
   exact key
 have top : ∀ k0:Int,Tw (J8 1048577 1048577 k0 (dL c.n.top) (c.n.top.length:Int) 0 (dC c)) [.int (c.inn.foldl Jd (Qg (Qg k0 c.n.top) c.n.bot))]:=by
   intro k0
   have key:=A7 (P:=Tryz.prog) (md:=md) c.n.top (fun m k (s:Int)=>J8 1048577 m s (dL c.n.top) (c.n.top.length:Int) (k:Int) (dC c)) (fun rest s=>[.int (c.inn.foldl Jd (Qg (Qg s rest) c.n.bot))]) (fun _ _=>True)
    (fun m k s hk _=>by
     simp only[Vh,As]
     exact Am (by omega) (bot s))
    (fun m k s x rest hdr _ ih=>by
     obtain ⟨h1,h2,h3⟩:=Az hdr
     simp only[Vh,Bu,List.length_map,Int.toNat_natCast,Aj h2,Ds,An (show k<9223372036854775807 by omega)]
     exact Ae (Ae (Ae (Aa (Zu s (wU (x.toNat:Int))) (ih _ trivial)))))
    1048577 0 k0 (by omega) (by omega) trivial
   exact key
 refine Ag 1048577 (UH _ _ _) ?_
 simp only[As]
 refine Aa (Zu k (wU c.kind)) ?_
 simp only[Af,Ah]
 refine Aa (Zu (Md k (wU c.kind)) (wU c.c)) ?_
 simp only[Af,Ah]
 refine Df (fun h=> ?_) (fun h=> ?_)
 · have hn:c.n.neg=true:=by simpa using h
   rw[if_pos hn]
   exact Aa (Zu _ 1) (top _)
 · have hn : ¬ c.n.neg=true:=by simpa using h
   rw[if_neg hn]
   exact top _
abbrev fnd(g:List (Int×List Int))(l:List Cell):D:=D.fn 216 [.ref 173,.ref 24] [.ref (.mp g),.ref (.sl (l.map dC))]
theorem Vx{d e:Nat}(g:List (Int×List Int))(l:List Cell)(c:Cell)(hg : ∀ n,Zn g n=Hi l n 0)(hc:SmlC d c)(hl : ∀ x∈l,SmlC e x)(hlen:l.length≤1048576):Ia Tryz.prog md 216 [.ref 173,.ref 24] [dC c,.ref (.mp g),.ref (.sl (l.map dC))] [.int (El l c 0)]:=by
 refine Ag 1048577 (EI _ _ _ _) (Aa (I6 c hc) (Aa (AdK d c 0 hc) ?_))
 have hgm:(D.mp g).grpI (Ch 0 c)=Hi l (Ch 0 c) 0:=hg _
 simp only[Yq,Af,Ah,hgm]
 have hr:=PJ l (Ch 0 c) 0
 have hp:=PH l c l 0 rfl
 generalize Hi l (Ch 0 c) 0=js at *
 have key:=A7 (P:=Tryz.prog) (md:=md) js (fun m k (_:Unit)=>Kr 1048577 m (.sl (l.map dC)) (.sl (js.map D.int)) (((js.map D.int).length:Nat):Int) (k:Int) (dA (K0 c))) (fun rest _=>[.int (Abz l c rest)]) (fun _ _=>True)
  (fun m k s hk _=>by
   simp only[Pq,List.length_map]
   exact Am (by omega) (Ac rfl))
  (fun m k s j rest hdr _ ih=>by
   obtain ⟨h1,h2,h3⟩:=Az hdr
   have hj:=hr.1 j (List.mem_of_getElem? h2)
   obtain ⟨J,rfl⟩ : ∃ J:Nat,j=(J:Int):=⟨j.toNat,by omega⟩
   have hJ:J<l.length:=by omega
   have hcell:(l.map dC).getD J D.nil=dC (l.getD J Cell.none):=by
    rw[Aj (List.getElem?_eq_getElem hJ),List.getD_eq_getElem?_getD,List.getElem?_eq_getElem hJ];rfl
   have hmem:l.getD J Cell.none∈l:=by
    rw[List.getD_eq_getElem?_getD,List.getElem?_eq_getElem hJ];exact List.getElem_mem hJ
   simp only[Pq,As,Aj h2,hcell,An (show k<9223372036854775807 by omega)]
   have hm:=Y_ (d:=d+1) (K0 c) (K0 (l.getD J Cell.none)) (Sml.of (by simp[K0]) (by simp[K0]) (by simp[K0]) (fun x hx=>by simp[K0]at hx;subst hx;exact hc))
   rw[AiY]at hm
   refine Ae (Ae (Ae (Ae (Ae (Aa (I6 _ (hl _ hmem)) (Aa hm ?_))))))
   simp only[Af,Al,Abz,Int.toNat_natCast]
   refine Df (fun h=>Ac (by rw[if_pos h])) (fun h=> ?_)
   rw[if_neg (by rw[h];decide)]
   have:=ih () trivial
   simp only[List.length_map]at this
   exact this)
  1048577 0 () (by omega) (by omega) trivial
 rw[List.drop_zero,hp]at key
 exact key
theorem NX(n:Nat)(f0:D):Ai Tryz.prog md [] n 22 [] [f0] =
 .call 23 [] [D.sl [D.int 43,D.int 45,D.int 124,D.int 8744,D.int 60,D.int 62,D.int 8800],D.int f0.toInt] fun yy1 =>
 .br ((yy1.getD 0 D.nil).toBool) (.ret [D.int 0])
 (.call 23 [] [D.sl [D.int 215,D.int 247,D.int 42,D.int 8743,D.int 8804,D.int 61,D.int 8805,D.int 33],D.int f0.toInt] fun yy2 =>
 .br ((yy2.getD 0 D.nil).toBool) (.ret [D.int 1])
 (.ret [D.int (-1)])):=by kernel_rfl
theorem RO(n:Nat):Ai Tryz.prog md [] n 24 [] [] =
 .ret [D.sl [D.int 43,D.int 45,D.int 215,D.int 247,D.int 8968,D.int 8970,D.int 124,D.int 126,D.int 33,D.int 9076,D.int 44,D.int 9066,D.int 9021,D.int 8854,D.int 9033,D.int 8834,D.int 8835,D.int 8801,D.int 8802,D.int 9075,D.int 8714,D.int 8746,D.int 9080,D.int 9035,D.int 9042,D.int 8866,D.int 8867]]:=by kernel_rfl
theorem RP(n:Nat):Ai Tryz.prog md [] n 25 [] [] =
 .ret [D.sl [D.int 43,D.int 45,D.int 215,D.int 247,D.int 8968,D.int 8970,D.int 124,D.int 42,D.int 60,D.int 8804,D.int 61,D.int 8805,D.int 62,D.int 8800,D.int 8743,D.int 8744,D.int 9076,D.int 44,D.int 9066,D.int 9021,D.int 8854,D.int 9033,D.int 8593,D.int 8595,D.int 8835,D.int 8801,D.int 8802,D.int 9075,D.int 8714,D.int 8746,D.int 8745,D.int 126,D.int 8866,D.int 8867,D.int 47,D.int 9023,D.int 92,D.int 9024]]:=by kernel_rfl
def Pg:Prop:=∀ (e:Nat) (l:List Cell),(∀ x∈l,SmlC e x)→l.length≤2048→∃ g,(∀ n,Zn g n=Hi l n 0)∧Sp 152 [.sl (l.map dC)] [fnd g l]
def P6(a b:Arr):Co:=Bq a|||Bq b
theorem Aga{l:List Cell}{c:Cell}(h:l.length≤2048) : -1≤El l c 0∧El l c 0<(l.length:Int):=by
 have:=FM l c 0
 omega
noncomputable def Vc(l:List Cell)(c:Cell):Cell:=B5 (if El l c 0<0 then (l.length:Int)+1 else El l c 0+1)
noncomputable def PK(a b:Arr):Arr×Int:=if a.shape.length=1 then (.mk (P6 a b) b.shape (b.cells.map (Vc a.cells)),0) else (.none,5)
noncomputable def Y3(l:List Cell)(c:Cell):Cell:=B5 (if 0≤El l c 0 then 1 else 0)
noncomputable def Zt(a b:Arr):Arr:= .mk (P6 a b) a.shape (a.cells.map (Y3 b.cells))
noncomputable def JK(l:List Cell):List Cell→Nat→List Cell
 | [],_=>[]
 | c::cs,k=>if El (l.take k) c 0<0 then c::JK l cs (k+1) else JK l cs (k+1)
def UR(s:Co)(l:List Cell):Arr:= .mk s [(l.length:Int)] l
noncomputable def AaL(a:Arr):Arr×Int:=if 1<a.shape.length then (.none,5) else (UR (Bq a) (JK a.cells a.cells 0),0)
noncomputable def Jn(l others:List Cell)(in_:Bool):List Cell:=l.filter (fun c=>decide (0≤El others c 0)==in_)
noncomputable def HE(a b:Arr)(in_:Bool):Arr×Int:=if 1<a.shape.length then (.none,5) else (UR (P6 a b) (Jn a.cells b.cells in_),0)
noncomputable def SY(a b:Arr):Arr×Int:=if 1<a.shape.length then (.none,5) else if 1<b.shape.length then (.none,5) else if 2048<a.cells.length+(Jn b.cells a.cells false).length then (.none,7) else (UR (P6 a b) (a.cells++Jn b.cells a.cells false),0)
def Vg(k:Nat):List Int:=(List.range k).map (fun (i:Nat)=>(i:Int)+1)
def BC(n:Arr):Arr×Int:=if (Bc n).2=0 then (match (Bc n).1 with
 | [k]=>if k<0 then (.none,3) else if 2048<k then (.none,7) else (Hm (Vg k.toNat) (Bq n),0)
 | _=>(.none,4)) else (.none,(Bc n).2)
theorem BT(l:List Cell)(s:Co):D1 (Tx l) s=UR s l:=by simp[D1,Tx,UR]
theorem GS{α:Type}{f:α→D}{z:D}(pre:List α)(x:α)(k:Nat){i:Nat}(hi:i=pre.length):((pre.map f)++List.replicate (k+1) z).set i (f x)=((pre++[x]).map f)++List.replicate k z:=by
 subst hi;exact Ml pre x k
theorem Qb(a b:Arr)(ha:Fits a)(hb:Fits b):Sp 182 [dA a,dA b] [dB (P6 a b)]:=by
 refine Ag 0 (UG _ _ _) (Aa (Cb a ha) (Aa (Cb b hb) ?_))
 simp only[As]
 exact Aa (Dc _ _) (Ac rfl)
theorem Zf(s:Co)(sh:List Int)(cs:List Cell)(h:sh.length≤1048576):Sp 181 [dB s,dI sh,.sl (cs.map dC)] [dA (.mk s sh cs)]:=by
 refine Ag 0 (MN _ _ _ _) (At (by simp only[Bx,List.length_map,Ar];omega) (Ac ?_))
 rw[Fz];rfl
theorem ZV(hF:Pg){d:Nat}(a b:Arr)(ha:Sml (d+1) a)(hb:Sml (d+1) b)(la:a.cells.length≤2048)(lb:b.cells.length≤2048):Sp 106 [dA a,dA b] [dA (PK a b).1,.int (PK a b).2]:=by
 refine Ag 4096 (PD _ _ _) ?_
 unfold PK
 simp only[As,Cr,Gl]
 refine Ad (fun h=>Ac (by rw[if_neg (by omega)])) (fun h=> ?_)
 rw[if_pos (by omega)]
 obtain ⟨g,hg,hsp⟩:=hF d a.cells ha.cell la
 refine Aa hsp (Ae (Ae (At (by simp only[Ar];omega) ?_)))
 have key:=A7 (P:=Tryz.prog) (md:=md) b.cells (fun m k (cs:List D)=>I4 4096 m (fnd g a.cells) cs (.sl (b.cells.map dC)) (b.cells.length:Int) (k:Int) (dA a) (dA b) 0 0) (fun _ _=>[dA (.mk (P6 a b) b.shape (b.cells.map (Vc a.cells))),.int 0])
  (fun rest cs=>∃ pre:List Cell,b.cells=pre++rest∧cs=(pre.map (Vc a.cells)).map dC++List.replicate rest.length (dC Cell.none))
  (fun m k cs hk hI=>by
   obtain ⟨pre,h1,rfl⟩:=hI
   rw[List.append_nil]at h1
   simp only[Ib,As]
   refine Am (by omega) (Aa (Qb a b ha.fits hb.fits) ?_)
   simp only[As,List.length_nil,List.replicate_zero,List.append_nil]
   exact Aa (Zf (P6 a b) b.shape _ hb.1) (Ac (by rw[h1];rfl)))
  (fun m k cs c rest hdr hI ih=>by
   obtain ⟨h1,h2,h3⟩:=Az hdr
   obtain ⟨pre,hp,rfl⟩:=hI
   have hk:k=(pre.map (Vc a.cells)).length:=by
     have:=congrArg List.length hdr
     rw[hp]at this h1
     simp at this h1 ⊢; omega
   have hcl:((pre.map (Vc a.cells)).map dC++List.replicate (rest.length+1) (dC Cell.none)).length=b.cells.length:=by rw[hp];simp
   have hpl:=Aga (c:=c) la
   have nxt:Tw (I4 4096 m (fnd g a.cells) (((pre.map (Vc a.cells)).map dC++List.replicate (rest.length+1) (dC Cell.none)).set k (dC (Vc a.cells c))) (.sl (b.cells.map dC)) (b.cells.length:Int) ((k+1:Nat):Int) (dA a) (dA b) 0 0) [dA (.mk (P6 a b) b.shape (b.cells.map (Vc a.cells))),.int 0]:=by
     rw[GS (f:=dC) (z:=dC Cell.none) _ _ _ hk]
     exact ih _ ⟨pre++[c],by rw[hp];simp,by simp⟩
   simp only[Ib,As,Aj h2,An (show k<9223372036854775807 by omega),H2,Gm,H1,List.singleton_append,List.length_cons,hcl]
   refine Ae (Ae (Ae (Aa (Vx g a.cells c hg (hb.cell c (List.mem_of_getElem? h2)) ha.cell (by omega)) ?_)))
   simp only[Af,Ah]
   refine Ad (fun hlt=> ?_) (fun hlt=> ?_)
   · have w1:IntKind.wrap .i64 ((a.cells.length:Int)+1)=(a.cells.length:Int)+1:=Ap (by omega) (by omega)
     have e1:Vc a.cells c=B5 ((a.cells.length:Int)+1):=by unfold Vc;rw[if_pos hlt]
     rw[w1]
     rw[e1]at nxt
     refine Aa (Ey _ (Dv (by omega) (by omega))) (Ae (Ae nxt))
   · have w1:IntKind.wrap .i64 (El a.cells c 0+1)=El a.cells c 0+1:=Ap (by omega) (by omega)
     have e1:Vc a.cells c=B5 (El a.cells c 0+1):=by unfold Vc;rw[if_neg hlt]
     rw[w1]
     rw[e1]at nxt
     exact Aa (Ey _ (Dv (by omega) (by omega))) (Ae (Ae nxt)))
  4096 0 (List.replicate b.cells.length (dC Cell.none)) (by omega) (by omega) ⟨[],by simp,by simp⟩
 exact key
theorem UE(hF:Pg){d:Nat}(a b:Arr)(ha:Sml (d+1) a)(hb:Sml (d+1) b)(la:a.cells.length≤2048)(lb:b.cells.length≤2048):Sp 107 [dA a,dA b] [dA (Zt a b)]:=by
 refine Ag 4096 (ML _ _ _) ?_
 simp only[As,Cr,Gl]
 obtain ⟨g,hg,hsp⟩:=hF d b.cells hb.cell lb
 refine Aa hsp (Ae (Ae (At (by simp only[Ar];omega) ?_)))
 have key:=A7 (P:=Tryz.prog) (md:=md) a.cells (fun m k (cs:List D)=>H0 4096 m (fnd g b.cells) cs (.sl (a.cells.map dC)) (a.cells.length:Int) (k:Int) (dA a) (dA b) 0) (fun _ _=>[dA (Zt a b)])
  (fun rest cs=>∃ pre:List Cell,a.cells=pre++rest∧cs=(pre.map (Y3 b.cells)).map dC++List.replicate rest.length (dC Cell.none))
  (fun m k cs hk hI=>by
   obtain ⟨pre,h1,rfl⟩:=hI
   rw[List.append_nil]at h1
   simp only[Hx,As]
   refine Am (by omega) (Aa (Qb a b ha.fits hb.fits) ?_)
   simp only[As,List.length_nil,List.replicate_zero,List.append_nil]
   exact Aa (Zf (P6 a b) a.shape _ ha.1) (Ac (by unfold Zt;rw[h1];rfl)))
  (fun m k cs c rest hdr hI ih=>by
   obtain ⟨h1,h2,h3⟩:=Az hdr
   obtain ⟨pre,hp,rfl⟩:=hI
   have hk:k=(pre.map (Y3 b.cells)).length:=by
     have:=congrArg List.length hdr
     rw[hp]at this h1
     simp at this h1 ⊢; omega
   have hcl:((pre.map (Y3 b.cells)).map dC++List.replicate (rest.length+1) (dC Cell.none)).length=a.cells.length:=by rw[hp];simp
   have nxt:Tw (H0 4096 m (fnd g b.cells) (((pre.map (Y3 b.cells)).map dC++List.replicate (rest.length+1) (dC Cell.none)).set k (dC (Y3 b.cells c))) (.sl (a.cells.map dC)) (a.cells.length:Int) ((k+1:Nat):Int) (dA a) (dA b) 0) [dA (Zt a b)]:=by
     rw[GS (f:=dC) (z:=dC Cell.none) _ _ _ hk]
     exact ih _ ⟨pre++[c],by rw[hp];simp,by simp⟩
   simp only[Hx,As,Aj h2,An (show k<9223372036854775807 by omega),H2,Gm,H1,List.singleton_append,List.length_cons,hcl]
   refine Ae (Ae (Ae (Aa (Vx g b.cells c hg (ha.cell c (List.mem_of_getElem? h2)) hb.cell (by omega)) ?_)))
   simp only[Af,Ah]
   refine Ad (fun hlt=> ?_) (fun hlt=> ?_)
   · have e1:Y3 b.cells c=B5 1:=by unfold Y3;rw[if_pos hlt]
     rw[e1]at nxt
     exact Aa (Ey _ (Dv (by omega) (by omega))) (Ae (Ae nxt))
   · have e1:Y3 b.cells c=B5 0:=by unfold Y3;rw[if_neg hlt]
     rw[e1]at nxt
     exact Aa (Ey _ (Dv (by omega) (by omega))) (Ae (Ae nxt)))
  4096 0 (List.replicate a.cells.length (dC Cell.none)) (by omega) (by omega) ⟨[],by simp,by simp⟩
 exact key
theorem LG : ∀ (l:List Cell) (c:Cell) (k i:Nat),l[i]? = some c→(El l c k=((k+i:Nat):Int)↔El (l.take i) c k<0)
 | [],c,k,i,h=>by simp at h
 | x::xs,c,k,0,h=>by
  simp at h
  subst h
  simp[El,Afk]
 | x::xs,c,k,i+1,h=>by
  simp only[List.take_succ_cons,El]
  have ih:=LG xs c (k+1) i (by simpa using h)
  split
  · constructor <;> intro hh <;> omega
  · rw[← ih,show k+1+i=k+(i+1) by omega]
theorem UF(hF:Pg){d:Nat}(a:Arr)(ha:Sml (d+1) a)(la:a.cells.length≤2048):Sp 67 [dA a] [dA (AaL a).1,.int (AaL a).2]:=by
 refine Ag 4096 (MM _ _) ?_
 unfold AaL
 simp only[As,Cr,Gl]
 refine Ad (fun h=>Ac (by rw[if_pos (by omega)])) (fun h=> ?_)
 rw[if_neg (by omega)]
 obtain ⟨g,hg,hsp⟩:=hF d a.cells ha.cell la
 refine Aa hsp ?_
 have key:=A7 (P:=Tryz.prog) (md:=md) a.cells (fun m k (out:List Cell)=>J7 4096 m (fnd g a.cells) (out.map dC) (.sl (a.cells.map dC)) (a.cells.length:Int) (k:Int) (dA a) 0 0) (fun rest out=>[dA (UR (Bq a) (out++JK a.cells rest (a.cells.length-rest.length))),.int 0])
  (fun rest out=>out.length+rest.length≤2048∧∀ c∈out,SmlC d c)
  (fun m k out hk hI=>by
   simp only[Hy,As]
   refine Am (by omega) (Aa (G5 out hI.2 (by have:=hI.1;omega)) (Aa (Cb a ha.fits) ?_))
   simp only[As]
   refine Aa (C2 (Tx out) (Bq a)) (Ac ?_)
   simp only[JK,List.append_nil,Af]
   rw[BT])
  (fun m k out c rest hdr hI ih=>by
   obtain ⟨h1,h2,h3⟩:=Az hdr
   have hle:=congrArg List.length hdr
   rw[List.length_drop,List.length_cons]at hle
   have hk:a.cells.length-(c::rest).length=k:=by rw[List.length_cons];omega
   have hk':a.cells.length-rest.length=k+1:=by omega
   have hcm:=List.mem_of_getElem? h2
   have hpt:=LG a.cells c 0 k h2
   rw[Nat.zero_add]at hpt
   have hI1:=hI.1
   rw[List.length_cons]at hI1
   simp only[Hy,As,Aj h2,An (show k<9223372036854775807 by omega),H2,Gm,H1,List.singleton_append]
   refine Ae (Ae (Ae (Aa (Vx g a.cells c hg (ha.cell c hcm) ha.cell (by omega)) ?_)))
   simp only[Af,Ah,hk,JK]
   refine Ad (fun he=>At (by simp only[List.length_cons,List.length_nil,Ar];omega) ?_) (fun he=> ?_)
   · have:=ih (out++[c]) ⟨by simp;omega,fun x hx=>by rcases List.mem_append.1 hx with hx | hx;exact hI.2 x hx;simp at hx;subst hx;exact ha.cell _ hcm⟩
     rw[List.map_append,hk']at this
     rw[if_pos (hpt.1 he)]
     refine Tree.wp_mono this (fun ys hy=>hy.trans ?_)
     simp
   · have:=ih out ⟨by omega,hI.2⟩
     rw[hk']at this
     rw[if_neg (fun hh=>he (hpt.2 hh))]
     exact this)
  4096 0 [] (by omega) (by omega) ⟨by simpa using la,by simp⟩
 simpa using key
theorem SQ{l o:List Cell}{i:Bool} : ∀ c∈Jn l o i,c∈l:=fun c h=>(List.mem_filter.1 h).1
theorem SP{l o:List Cell}{i:Bool} : (Jn l o i).length≤l.length:=List.length_filter_le _ _
theorem Afr{l o:List Cell}{c:Cell}{i:Bool}(h:(decide (0≤El o c 0)==i)=true):Jn (c::l) o i=c::Jn l o i:=List.filter_cons_of_pos h
theorem Afq{l o:List Cell}{c:Cell}{i:Bool}(h:(decide (0≤El o c 0)==i)=false):Jn (c::l) o i=Jn l o i:=List.filter_cons_of_neg (by rw[h];decide)
theorem CI(hF:Pg){d e:Nat}(l o:List Cell)(in_:Bool)(hl : ∀ x∈l,SmlC d x)(ho : ∀ x∈o,SmlC e x)(ll:l.length≤2048)(lo:o.length≤2048):Sp 185 [.sl (l.map dC),.sl (o.map dC),.bool in_] [.sl ((Jn l o in_).map dC)]:=by
 refine Ag 4096 (PG _ _ _ _) ?_
 simp only[As]
 obtain ⟨g,hg,hsp⟩:=hF e o ho lo
 refine Aa hsp ?_
 have key:=A7 (P:=Tryz.prog) (md:=md) l (fun m k (out:List Cell)=>La 4096 m in_ (fnd g o) (out.map dC) (.sl (l.map dC)) (l.length:Int) (k:Int)) (fun rest out=>[.sl ((out++Jn rest o in_).map dC)]) (fun rest out=>out.length+rest.length≤2048)
  (fun m k out hk hI=>by
   simp only[If]
   exact Am (by omega) (Ac (by simp[Jn])))
  (fun m k out c rest hdr hI ih=>by
   obtain ⟨h1,h2,h3⟩:=Az hdr
   rw[List.length_cons]at hI
   simp only[If,As,Aj h2,An (show k<9223372036854775807 by omega),H2,Gm,H1,List.singleton_append]
   refine Ae (Ae (Ae (Aa (Vx g o c hg (hl c (List.mem_of_getElem? h2)) ho (by omega)) ?_)))
   simp only[Af,Ah]
   refine Df (fun hb=>At (by simp only[List.length_cons,List.length_nil,Ar];omega) ?_) (fun hb=> ?_)
   · have:=ih (out++[c]) (by simp;omega)
     rw[List.map_append]at this
     refine Tree.wp_mono this (fun ys hy=>hy.trans ?_)
     rw[Afr hb]
     simp
   · have:=ih out (by omega)
     refine Tree.wp_mono this (fun ys hy=>hy.trans ?_)
     rw[Afq hb])
  4096 0 [] (by omega) (by omega) (by simpa using ll)
 simpa using key
theorem CH(hF:Pg){d e:Nat}(a b:Arr)(in_:Bool)(ha:Sml (d+1) a)(hb:Sml (e+1) b)(la:a.cells.length≤2048)(lb:b.cells.length≤2048):Sp 109 [dA a,dA b,.bool in_] [dA (HE a b in_).1,.int (HE a b in_).2]:=by
 refine Ag 0 (PE _ _ _ _) ?_
 unfold HE
 simp only[As,Cr]
 refine Ad (fun h=>Ac (by rw[if_pos (by omega)])) (fun h=> ?_)
 rw[if_neg (by omega)]
 have hs:=SP (l:=a.cells) (o:=b.cells) (i:=in_)
 refine Aa (CI hF a.cells b.cells in_ ha.cell hb.cell la lb) (Aa (G5 _ (fun c hc=>ha.cell c (SQ c hc)) (by omega)) (Aa (Qb a b ha.fits hb.fits) ?_))
 simp only[As]
 refine Aa (C2 _ (P6 a b)) (Ac ?_)
 rw[Af,BT]
theorem ZW(hF:Pg){d:Nat}(a b:Arr)(ha:Sml (d+1) a)(hb:Sml (d+1) b)(la:a.cells.length≤2048)(lb:b.cells.length≤2048):Sp 108 [dA a,dA b] [dA (SY a b).1,.int (SY a b).2]:=by
 refine Ag 0 (PF _ _ _) ?_
 unfold SY
 simp only[As,Cr,Gl,List.replicate_zero,List.nil_append,List.length_nil]
 refine Ad (fun h=>Ac (by rw[if_pos (by omega)])) (fun h=> ?_)
 rw[if_neg (by omega)]
 refine Ad (fun h=>Ac (by rw[if_pos (by omega)])) (fun h=> ?_)
 rw[if_neg (by omega)]
 have hs:=SP (l:=b.cells) (o:=a.cells) (i:=false)
 refine Aa (CI hF b.cells a.cells false hb.cell ha.cell lb la) ?_
 simp only[As]
 have w1:IntKind.wrap .i64 ((a.cells.length:Int)+((Jn b.cells a.cells false).length:Int))=(a.cells.length:Int)+((Jn b.cells a.cells false).length:Int):=Ap (by omega) (by omega)
 simp only[w1]
 refine Ad (fun h=>Ac (by rw[if_pos (by omega)])) (fun h=> ?_)
 rw[if_neg (by omega)]
 refine Ae (Ae (At (by simp only[Ar];omega) (At (by simp only[Ar];omega) (At (by simp only[List.length_map,Ar];omega) ?_))))
 rw[← List.map_append]
 refine Aa (G5 _ (fun c hc=>by
  rcases List.mem_append.1 hc with hc | hc
  · exact ha.cell c hc
  · exact hb.cell c (SQ c hc)) (by rw[List.length_append];omega)) (Aa (Qb a b ha.fits hb.fits) ?_)
 simp only[As]
 refine Aa (C2 _ (P6 a b)) (Ac ?_)
 rw[Af,BT]
theorem Ag5(k:Nat):Vg (k+1)=Vg k++[(k:Int)+1]:=by simp[Vg,List.range_succ]
theorem OJ(k:Nat):(Vg k).length=k:=by simp[Vg]
theorem Aj3{k:Nat}(h:k≤2048) : ∀ x∈Vg k,Cv x:=fun x hx=>by
 simp only[Vg,List.mem_map,List.mem_range]at hx
 obtain ⟨i,hi,rfl⟩:=hx
 exact Dv (by omega) (by omega)
theorem Age(l:List Int)(s:Co):D1 (Tx (l.map B5)) s=Hm l s:=by simp[D1,Tx,Hm]
theorem Ahe{n:Arr}(h : ¬ (Bc n).1.length=1)(h0:(Bc n).2=0):BC n=(.none,4):=by
 unfold BC
 rw[if_pos h0]
 split
 · rename_i k hk;rw[hk]at h;exact absurd rfl h
 · rfl
theorem Abu(n:Arr)(hn:Fits n)(hnl:n.cells.length≤2048)(hnt : ∀ c∈n.cells,c.n.top.length≤32):Sp 65 [dA n] [dA (BC n).1,.int (BC n).2]:=by
 refine Ag 4096 (UD _ _) (Aa (Fr n hnl hnt) ?_)
 simp only[As,Cr,Gl]
 refine Ad (fun h=>Ac (by unfold BC;rw[if_neg h])) (fun h=> ?_)
 have h0:(Bc n).2=0:=Classical.not_not.1 h
 refine Ad (fun h1=>Ac (by rw[Ahe (by omega) h0])) (fun h1=> ?_)
 obtain ⟨k,hk⟩:=Sq (l:=(Bc n).1) (by omega)
 unfold BC
 rw[if_pos h0,hk]
 simp only[List.map_cons,List.map_nil,List.length_cons,List.length_nil,Af,Ah]
 refine Ae (Ae (Ad (fun h2=>Ac (by rw[if_pos h2])) (fun h2=> ?_)))
 rw[if_neg h2]
 refine Ae (Ae (Ad (fun h3=>Ac (by rw[if_pos h3])) (fun h3=> ?_)))
 rw[if_neg h3]
 refine Ae (Ae (Ae (Ae (At (by simp only[Ar];omega) ?_))))
 obtain ⟨K,rfl⟩ : ∃ K:Nat,k=(K:Int):=⟨k.toNat,by omega⟩
 simp only[Int.toNat_natCast,List.length_replicate]
 have key:=C4 (P:=Tryz.prog) (md:=md) K (fun m k (cs:List D)=>Om 4096 m cs (K:Int) (k:Int) (dA n) 0) (fun _ _=>[dA (Hm (Vg K) (Bq n)),.int 0])
  (fun k cs=>cs=((Vg k).map B5).map dC++List.replicate (K-k) (dC Cell.none))
  (fun m cs hI=>by
   simp only[Ue]
   rw[hI,Nat.sub_self,List.replicate_zero,List.append_nil]
   refine Am (by omega) (Aa (G5 (d:=0) _ (fun c hc=>by
    obtain ⟨z,hz,rfl⟩:=List.mem_map.1 hc
    exact Xs (Aj3 (by omega) z hz) 0) (by rw[List.length_map,OJ];omega)) (Aa (Cb n hn) ?_))
   simp only[As]
   refine Aa (C2 _ (Bq n)) (Ac ?_)
   rw[Af,Age])
  (fun m k cs hkK hI ih=>by
   have hcl:cs.length=K:=by rw[hI];simp[OJ];omega
   have w1:=An (show k<9223372036854775807 by omega)
   simp only[Ue,hcl,w1,Int.toNat_natCast]
   refine Ae (Aa (Ey _ (Dv (by omega) (by omega))) (Ae (Ae ?_)))
   refine ih _ ?_
   rw[hI,show K-k=(K-(k+1))+1 by omega,Af,GS (f:=dC) (z:=dC Cell.none) ((Vg k).map B5) (B5 ((k+1:Nat):Int)) (K-(k+1)) (by simp[OJ]),Ag5]
   simp)
  4096 0 (List.replicate K (dC Cell.none)) (by omega) (by omega) (by simp[Vg])
 exact key
open Go.RowKit Go.WideMaps Go.Maps Go.ChangeShapes
theorem YD : ∀ (l:List Cell) (c:Cell) (n:Int) (k:Nat),Hi (l++[c]) n k=Hi l n k++(if Ch 0 c=n then [((k+l.length:Nat):Int)] else [])
 | [],c,n,k=>by simp only[List.nil_append,Hi,List.length_nil,Nat.add_zero]
 | x::xs,c,n,k=>by
  simp only[List.cons_append,Hi,List.length_cons]
  rw[YD xs c n (k+1),show k+1+xs.length=k+(xs.length+1) by omega]
  split <;> simp
theorem EN : ∀ (l:List Cell) (n:Int) (k:Nat),(∀ c∈l,Ch 0 c≠n)→Hi l n k = []
 | [],_,_,_=>rfl
 | x::xs,n,k,h=>by
  simp only[Hi]
  rw[if_neg (h x (by simp)),EN xs n (k+1) (fun c hc=>h c (by simp[hc]))]
def g0(l:List Cell):List (Int×List Int):=l.map (fun c=>(Ch 0 c,Hi l (Ch 0 c) 0))
theorem Ab2(l:List Cell)(n:Int):Zn (g0 l) n=Hi l n 0:=by
 have key : ∀ ms:List Cell,Zn (ms.map (fun c=>(Ch 0 c,Hi l (Ch 0 c) 0))) n=if (∃ c∈ms,Ch 0 c=n) then Hi l n 0 else []:=by
   intro ms
   induction ms with
   | nil=>simp[Zn]
   | cons x xs ih =>
    simp only[List.map_cons,Zn]
    by_cases h:Ch 0 x=n
    · rw[if_pos h,if_pos ⟨x,by simp,h⟩,h]
    · rw[if_neg h,ih]
      by_cases h2 : ∃ c∈xs,Ch 0 c=n
      · obtain ⟨c,hc,h3⟩:=h2
        rw[if_pos ⟨c,hc,h3⟩,if_pos ⟨c,by simp[hc],h3⟩]
      · rw[if_neg h2,if_neg (fun ⟨c,hc,h3⟩=>by
         rcases List.mem_cons.1 hc with rfl | hc
         · exact h h3
         · exact h2 ⟨c,hc,h3⟩)]
 have:=key l
 unfold g0
 rw[this]
 split
 · rfl
 · rename_i h
   exact (EN l n 0 (fun c hc he=>h ⟨c,hc,he⟩)).symm
def AfI:DataW Unit→List (DataW Unit) | .slice es _=>es | _=>[]
theorem MX{q:IntKind}{a b:List Int}(h:(lits q a:List (DataW Unit))=lits q b):a=b:=by
 unfold lits at h
 exact (List.map_inj_right (fun x y hxy=>by simpa using hxy)).1 h
theorem Lk:Tryz.prog.underlying 22=some (.int .u64):=by kernel_rfl
theorem Wm:Tryz.prog.underlying 173=some (.map 22 23):=by kernel_rfl
theorem CC:Tryz.prog.underlying 23=some (.slice 3):=by kernel_rfl
theorem Zo:Keyed Tryz.prog 22:=int_keyed Lk
theorem Yr(w:World):(zeroValue 23).run Tryz.prog w = .ok (.slice none 0 0) w:=by kernel_rfl
theorem UM{n:Int}(h0:0≤n)(h1:n≤18446744073709551615):keyOf Tryz.prog 22 (.int .u64 n)=some (.int .u64 n):=by
 have hb:(Lit.int .u64 n).wf=true:=by
  unfold Lit.wf
  simp only[Bool.and_eq_true,decide_eq_true_eq]
  exact ⟨h0,h1⟩
 unfold keyOf
 rw[Lk]
 simp only[mapKey,Lk]
 simp[hb]
theorem KY{v:Value}{kl:Lit}(h:keyOf Tryz.prog 22 v=some kl) : ∃ n:Int,v = .int .u64 n∧0≤n∧n≤18446744073709551615∧kl = .int .u64 n:=by
 unfold keyOf at h
 rw[Lk]at h
 simp only[mapKey,Lk]at h
 cases v <;> simp only[reduceCtorEq]at h
 rename_i q n
 split at h
 · rename_i hc
   obtain ⟨rfl,hw⟩:=hc
   unfold Lit.wf at hw
   simp only[Bool.and_eq_true,decide_eq_true_eq]at hw
   injection h with h
   exact ⟨n,rfl,hw.1,hw.2,h.symm⟩
 · cases h
theorem Fk{w:World}{o:Obj}{b:Nat}{z:Obj}(h:w.heap[b]? = some z):(w.alloc o).heap[b]? = some z:=(heap_alloc_old w o (Array.getElem?_eq_some_iff.1 h).1).trans h
structure FI (w:World) (l:List Cell) (A:Option Addr) (c k:Nat) (wr:World):Prop where
 groups : ∃ D,wr.ownsGroups (H:=Unit) Tryz.prog 22 (w.heap.size+3) 3 .i64 (w.heap.size+1) k D∧∀ n:Int,0≤n→n<18446744073709551616→AfI (D.atKey (.int .u64 n) .nil)=lits .i64 (Hi (l.take k) n 0)
 below:Below w.heap.size w wr
 lbox:wr.heap[w.heap.size]? = some (.cells #[.slice A l.length c] 24 (0,0))
 mbox:wr.heap[w.heap.size+2]? = some (.cells #[.map (some (w.heap.size+1))] 173 (0,0))
 size:w.heap.size+3≤wr.heap.size
theorem ER{w:World}{base:Nat}{e:TypeId}{v:Value}{zs:List Int}(h:w.ownsInts base e .i64 v zs):AfI (rowDatum .i64 v zs)=lits .i64 zs:=by
 rcases h.datum (H:=Unit) with ⟨h1,h2⟩ | h1
 · rw[h1,h2];rfl
 · rw[h1];rfl
theorem AeC{w w':World}{base b n:Nat}{D:DataW Unit}(h:w.ownsGroups Tryz.prog 22 base 3 .i64 b n D)(hx:Ext w w'):w'.ownsGroups Tryz.prog 22 base 3 .i64 b n D:=by
 obtain ⟨es,clock,hb,F,hs,rfl,hbb,hlen,hap⟩:=h
 have hg:w.grownBy w' none:=⟨hx.os,hx.tape,hx.output,hx.size,fun k hk _=>hx.block k hk⟩
 have hk : ∀ {v:Value} {zs:List Int},w.ownsInts base 3 .i64 v zs→w'.ownsInts base 3 .i64 v zs:=fun ho=>ho.kept hg (by cases hv:Value.ownBlock _ with | none=>exact .inl rfl | some g=>exact .inr (by simp))
 obtain ⟨F2,hmap,_⟩:=F.stay (R':=rowElem w' base 3 .i64) (fun x _ z hz=>by
  obtain ⟨zs,ho,rfl⟩:=rowElem_inv hz
  exact rowElem_mk (hk ho))
 refine ⟨es,clock,(hx.block b (Array.getElem?_eq_some_iff.1 hb).1).trans hb,F2,hs,by rw[hmap],hbb,fun x hx' zs ho=> ?_,hap⟩
 obtain ⟨y,hy⟩:=F.reads x hx'
 obtain ⟨z,hz,_⟩:=Go.WideElems.rd_val hy
 obtain ⟨zs',ho',_⟩:=rowElem_inv hz
 rw[ho.unique (hk ho')]
 exact hlen x hx' zs' ho'
theorem FI.ext {w wr w':World} {l:List Cell} {A:Option Addr} {c k:Nat} (h:FI w l A c k wr) (hx:Ext wr w'):FI w l A c k w':=by
 obtain ⟨⟨D,h1,h2⟩,h3,h4,h5,h6⟩:=h
 have hs:=hx.size
 exact ⟨⟨D,AeC h1 hx,h2⟩,Below.trans h3 (Below.mono hx (by omega)),(hx.block _ (by omega)).trans h4,(hx.block _ (by omega)).trans h5,by omega⟩
theorem FI.look {w wr:World} {l:List Cell} {A:Option Addr} {c k:Nat} (h:FI w l A c k wr) (hk:k<l.length) (hlen:l.length≤2048) (h0:0≤Ch 0 l[k]) (h1:Ch 0 l[k]≤18446744073709551615) :
   ∃ (es:Array MapEntry) (clk:Nat) (v:Value) (zs:List Int),wr.heap[w.heap.size+1]? = some (.map es clk)∧(∀ y:World,y.heap[w.heap.size+1]? = some (.map es clk)→(Instr.lookup 173 (.map (some (w.heap.size+1))) (.int .u64 (Ch 0 l[k])) false).run Tryz.prog y = .ok v y)∧wr.ownsInts (w.heap.size+3) 3 .i64 v zs∧zs.length≤k ∧
     ∀ (wc:World) (v':Value),wr.grownBy wc v.ownBlock→wc.ownsInts (w.heap.size+3) 3 .i64 v' (zs++[(k:Int)])→(v'.ownBlock=v.ownBlock∨∃ g,v'.ownBlock=some g∧wr.heap.size≤g)→∃ w2,(Instr.mapUpdate 173 (.map (some (w.heap.size+1))) (.int .u64 (Ch 0 l[k])) v').run Tryz.prog wc = .ok () w2∧FI w l A c (k+1) w2:=by
 obtain ⟨⟨D,hg,hD⟩,hbel,hbox,mbox,hsz⟩:=h
 have hkey:=UM h0 h1
 obtain ⟨v,zs,hrun,hat,ho,hzl,hback⟩:=hg.at Zo Wm (Yr wr) (by unfold maxLen;omega) hkey
 have hg':=hg
 obtain ⟨es,clk,hb,F,_,hDm,_,_,_⟩:=hg
 have hzs:zs=Hi (l.take k) (Ch 0 l[k]) 0:=by
   have:=hD (Ch 0 l[k]) h0 (by omega)
   rw[hat,ER ho]at this
   exact MX this
 have hks : ∀ x∈es.toList,∃ m,x.key = .int .u64 m:=fun x hx=>by
   obtain ⟨y,hy⟩:=F.reads x hx
   obtain ⟨n,hn,_⟩:=KY (Go.WideElems.rd_key hy)
   exact ⟨n,hn⟩
 have lk : ∀ y:World,y.heap[w.heap.size+1]? = some (.map es clk)→∃ u,(∀ y':World,y'.heap[w.heap.size+1]? = some (.map es clk)→(Instr.lookup 173 (.map (some (w.heap.size+1))) (.int .u64 (Ch 0 l[k])) false).run Tryz.prog y' = .ok u y'):=by
   intro y hy
   rcases Yv (q':= .u64) (n:=Ch 0 l[k]) es.toList 0 hks with ⟨f1,f2⟩ | ⟨j,ex,f1,f2,f3⟩
   · refine ⟨.slice none 0 0,fun y' hy'=> ?_⟩
     unfold Instr.lookup
     have hck:=fun em=>Rb (P:=Tryz.prog) (w:=y') em 9999 (q':= .u64) (i:=Ch 0 l[k]) Lk
     simp[run_underlying Wm,run_underlying Lk,V8 hy',hck,Instr.findKey,f1,Yr y']
   · refine ⟨ex.val,fun y' hy'=> ?_⟩
     unfold Instr.lookup
     have hck:=fun em=>Rb (P:=Tryz.prog) (w:=y') em 9999 (q':= .u64) (i:=Ch 0 l[k]) Lk
     simp[run_underlying Wm,run_underlying Lk,V8 hy',hck,Instr.findKey,f1]
 obtain ⟨u,hu⟩:=lk wr hb
 have huv:u=v:=by
   have:=hu wr hb
   rw[hrun]at this
   injection this with this
   exact this.symm
 subst huv
 refine ⟨es,clk,u,zs,hb,hu,ho,hzl,fun wc v' hgr hown' hloc=> ?_⟩
 obtain ⟨w2,hmu,hown2,hgr2⟩:=hback wc v' (zs++[(k:Int)]) hgr hown' (by simp;omega) hloc
 have hvb : ∀ j,u.ownBlock=some j→w.heap.size+3≤j:=fun j hj=>(ho.1.lt j hj).1
 have far : ∀ b,b<wr.heap.size→b<w.heap.size+3→b≠w.heap.size+1→w2.heap[b]? = wr.heap[b]? := fun b hb1 hb2 hb3=>by
   have hs:=hgr.size
   rw[hgr2.block b (by omega) (by simp;omega),hgr.block b hb1 (fun e=>by have:=hvb b e.symm;omega)]
 refine ⟨w2,hmu,⟨_,hown2,fun n hn0 hn1=> ?_⟩,?_,(far _ (by omega) (by omega) (by omega)).trans hbox,(far _ (by omega) (by omega) (by omega)).trans mbox,by have:=hgr.size;have:=hgr2.size;omega⟩
 · rw[List.take_add_one,List.getElem?_eq_getElem hk]
   show _=lits .i64 (Hi (l.take k++[l[k]]) n 0)
   rw[YD,List.length_take,Nat.min_eq_left (by omega),Nat.zero_add]
   have hmk:WideAt.IsKeyLit (.int .u64 (Ch 0 l[k])):=Zo.key hkey
   by_cases he:Ch 0 l[k]=n
   · subst he
     rw[if_pos rfl,atKey_put_same ⟨_,hDm⟩ hmk,ER hown',hzs]
   · rw[if_neg he,List.append_nil,atKey_put_other (fun e=>he (by injection e with _ e;exact e.symm))]
     exact hD n hn0 hn1
 · exact hbel.groups ho hgr hgr2 (by omega) (by omega) (by omega)
theorem AeN{d:Nat}{x:Cell}{u:Value}{W:World}(hx:SmlC d x)(h:Rd Tryz.prog md W (fun _=>False) (.ty 67) (dC x) u):Calls Tryz.prog 215 #[.int .u64 0,u] W (fun e w'=>e = .returned (.int .u64 (Ch 0 x))∧(0≤Ch 0 x∧Ch 0 x≤18446744073709551615)∧Ext W w'):=by
 have hps:Tryz.f215.params.toList = [22,67]:=by kernel_rfl
 have ht:Tryz.prog.underlying 22=some (.int .u64):=by kernel_rfl
 exact AcD (vs:=[.int .u64 0,u]) (AdK d x 0 hx) Tryz.func215 (by kernel_rfl) (fun b hb=>hb.elim) (by kernel_rfl) (by kernel_rfl) (Wk hps (Wl ht (by kernel_rfl) (by kernel_rfl) (by decide) (by decide)) h) (t:=22) (by kernel_rfl) ht
section
variable {w:World} {M:Nat→Prop} {t:Nat} {x:D} {c:Nat→Option Value}
theorem WJ{k:IntKind}(h:RdC Tryz.prog md w M (.ty t) x c)(ht:Tryz.prog.underlying t=some (.int k)) : ∃ n,c 0=some (.int k n):=by
 cases h with
 | int ht' h1 h2 hc =>
  have:Tryz.prog.underlying t=_:=ht'
  rw[ht]at this
  injection this with this;injection this with this;subst this
  exact ⟨_,hc⟩
 | bool ht'=>have:Tryz.prog.underlying t=_:=ht';rw[ht]at this;cases this
 | str ht'=>have:Tryz.prog.underlying t=_:=ht';rw[ht]at this;cases this
 | sl ht'=>have:Tryz.prog.underlying t=_:=ht';rw[ht]at this;cases this
 | fn ht'=>have:Tryz.prog.underlying t=_:=ht';rw[ht]at this;cases this
 | ref ht'=>have:Tryz.prog.underlying t=_:=ht';rw[ht]at this;cases this
 | mp ht'=>have:Tryz.prog.underlying t=_:=ht';rw[ht]at this;cases this
 | struct hf=>obtain ⟨⟨a,ha,_⟩,_⟩:=Aw hf;rw[ht]at ha;cases ha
theorem AhD(h:RdC Tryz.prog md w M (.ty t) x c)(ht:Tryz.prog.underlying t=some .bool) : ∃ b,c 0=some (.bool b):=by
 cases h with
 | bool ht' hc=>exact ⟨_,hc⟩
 | int ht'=>have:Tryz.prog.underlying t=_:=ht';rw[ht]at this;cases this
 | str ht'=>have:Tryz.prog.underlying t=_:=ht';rw[ht]at this;cases this
 | sl ht'=>have:Tryz.prog.underlying t=_:=ht';rw[ht]at this;cases this
 | fn ht'=>have:Tryz.prog.underlying t=_:=ht';rw[ht]at this;cases this
 | ref ht'=>have:Tryz.prog.underlying t=_:=ht';rw[ht]at this;cases this
 | mp ht'=>have:Tryz.prog.underlying t=_:=ht';rw[ht]at this;cases this
 | struct hf=>obtain ⟨⟨a,ha,_⟩,_⟩:=Aw hf;rw[ht]at ha;cases ha
theorem Ack{e:Nat}(h:RdC Tryz.prog md w M (.ty t) x c)(ht:Tryz.prog.underlying t=some (.slice e)) : ∃ A n m,c 0=some (.slice A n m):=by
 cases h with
 | sl ht' hc=>exact ⟨_,_,_,hc⟩
 | struct hf=>obtain ⟨⟨a,ha,_⟩,_⟩:=Aw hf;rw[ht]at ha;cases ha
 | int ht'=>have:Tryz.prog.underlying t=_:=ht';rw[ht]at this;cases this
 | bool ht'=>have:Tryz.prog.underlying t=_:=ht';rw[ht]at this;cases this
 | str ht'=>have:Tryz.prog.underlying t=_:=ht';rw[ht]at this;cases this
 | fn ht'=>have:Tryz.prog.underlying t=_:=ht';rw[ht]at this;cases this
 | ref ht'=>have:Tryz.prog.underlying t=_:=ht';rw[ht]at this;cases this
 | mp ht'=>have:Tryz.prog.underlying t=_:=ht';rw[ht]at this;cases this
end
theorem Ps{t:Nat}{l:List (Nat×Nat)}(h:(Ci Tryz.prog t).map (fun fs=>fs.map (fun f=>(f.type,f.offset)))=some l){i ft o:Nat}(hi:l[i]? = some (ft,o)){w:World}{M:Nat→Prop}{x:D}{c:Nat→Option Value}(hr:RdC Tryz.prog md w M (.ty t) x c):RdC Tryz.prog md w M (.ty ft) (x.fld i) (fun j=>c (o+j)):=by
 obtain ⟨fs,hf,rfl⟩:=Option.map_eq_some_iff.1 h
 rw[List.getElem?_map,Option.map_eq_some_iff]at hi
 obtain ⟨f,h1,h2⟩:=hi
 injection h2 with h2 h3
 subst h2
 subst h3
 exact FT hr hf h1
theorem Uj:(Ci Tryz.prog 67).map (fun fs=>fs.map (fun f=>(f.type,f.offset)))=some [(22,0),(3,1),(64,2),(3,5),(65,6)]:=by kernel_rfl
theorem MO:(Ci Tryz.prog 64).map (fun fs=>fs.map (fun f=>(f.type,f.offset)))=some [(4,0),(62,1),(62,2)]:=by kernel_rfl
theorem Aev{w:World}{M:Nat→Prop}{x:D}{c:Nat→Option Value}(h:RdC Tryz.prog md w M (.ty 67) x c) : ∃ n0 n1 b A3 k3 m3 A4 k4 m4 n5 A6 k6 m6,c 0=some (.int .u64 n0)∧c 1=some (.int .i64 n1)∧c 2=some (.bool b)∧c 3=some (.slice A3 k3 m3)∧c 4=some (.slice A4 k4 m4)∧c 5=some (.int .i64 n5)∧c 6=some (.slice A6 k6 m6):=by
 obtain ⟨n0,h0⟩:=WJ (Ps Uj (i:=0) rfl h) (k:= .u64) (by kernel_rfl)
 obtain ⟨n1,h1⟩:=WJ (Ps Uj (i:=1) rfl h) (k:= .i64) (by kernel_rfl)
 have hn:=Ps Uj (i:=2) rfl h
 obtain ⟨b,h2⟩:=AhD (Ps MO (i:=0) rfl hn) (by kernel_rfl)
 obtain ⟨A3,k3,m3,h3⟩:=Ack (Ps MO (i:=1) rfl hn) (e:=180) (by kernel_rfl)
 obtain ⟨A4,k4,m4,h4⟩:=Ack (Ps MO (i:=2) rfl hn) (e:=180) (by kernel_rfl)
 obtain ⟨n5,h5⟩:=WJ (Ps Uj (i:=3) rfl h) (k:= .i64) (by kernel_rfl)
 obtain ⟨A6,k6,m6,h6⟩:=Ack (Ps Uj (i:=4) rfl h) (e:=26) (by kernel_rfl)
 exact ⟨n0,n1,b,A3,k3,m3,A4,k4,m4,n5,A6,k6,m6,h0,h1,h2,h3,h4,h5,h6⟩
structure CellAt (wr:World) (bk o:Nat) (x:Cell) (u0 u1 u2 u3 u4 u5 u6:Value):Prop where
 c0:wr.cell? ⟨bk,o,none⟩=some u0
 c1:wr.cell? ⟨bk,o+1,none⟩=some u1
 c2:wr.cell? ⟨bk,o+2,none⟩=some u2
 c3:wr.cell? ⟨bk,o+3,none⟩=some u3
 c4:wr.cell? ⟨bk,o+4,none⟩=some u4
 c5:wr.cell? ⟨bk,o+5,none⟩=some u5
 c6:wr.cell? ⟨bk,o+6,none⟩=some u6
 rd:Rd Tryz.prog md wr (fun _=>False) (.ty 67) (dC x) (.agg #[u0,u1,u2,u3,u4,u5,u6])
theorem AfN{M:Nat→Prop}{l:List Cell}{A:Option Addr}{c:Nat}{w:World}(h:Rd Tryz.prog md w M (.ty 24) (.sl (l.map dC)) (.slice A l.length c)){k:Nat}(hk:k<l.length) : ∃ bk off,A=some ⟨bk,off,none⟩∧bk<w.heap.size∧∀ wr,Below w.heap.size w wr→w.heap.size≤wr.heap.size →
  ∃ n0 n1 b A3 k3 m3 A4 k4 m4 n5 A6 k6 m6,CellAt wr bk (off+k*7) l[k] (.int .u64 n0) (.int .i64 n1) (.bool b) (.slice A3 k3 m3) (.slice A4 k4 m4) (.int .i64 n5) (.slice A6 k6 m6):=by
 have h7:Tryz.prog.cellsOf 67=7:=by kernel_rfl
 obtain ⟨h1,h2,h3⟩:=h
 cases h1 with
 | @sl _ e _ _ A' cap bk off ht hc h4 h5 hA hh =>
  have he:e=67:=by
   have:Tryz.prog.underlying 24=some (.slice e):=ht
   rw[show Tryz.prog.underlying 24=some (.slice 67) by kernel_rfl]at this
   injection this with this;injection this with this;exact this.symm
  subst he
  have hv:Value.slice A l.length c = .slice A' (l.map dC).length cap:=by simpa [Value.cells]using hc
  injection hv with e1 e2 e3
  subst e1
  obtain ⟨a1,a2,a3⟩:=hA (fun e=>by rw[List.map_eq_nil_iff.1 e]at hk;simp at hk)
  refine ⟨bk,off,a1,a3,fun wr hb hsz=> ?_⟩
  have hr:=hh k (dC l[k]) (by rw[List.getElem?_map,List.getElem?_eq_getElem hk];rfl)
  rw[h7]at hr
  have hpos:0<(CT.ty 67).size Tryz.prog:=by show 0<Tryz.prog.cellsOf _;omega
  have hr':RdC Tryz.prog md wr (fun _=>False) (.ty 67) (dC l[k]) (fun j=>wr.cell? ⟨bk,off+k*7+j,none⟩):=by
   have:=hr.mono (w':=wr) (M':=fun _=>False) hsz (fun b _ hlt=>hb.block b hlt) (fun b hf _=>hf.elim)
   refine this.congr (fun j _=> ?_) hpos
   rw[Nat.add_assoc,X0 (hb.block bk a3)]
  obtain ⟨n0,n1,b,A3,k3,m3,A4,k4,m4,n5,A6,k6,m6,c0,c1,c2,c3,c4,c5,c6⟩:=Aev hr'
  refine ⟨n0,n1,b,A3,k3,m3,A4,k4,m4,n5,A6,k6,m6,c0,c1,c2,c3,c4,c5,c6,?_,h7.symm,by kernel_rfl⟩
  refine hr'.congr (fun j hj=> ?_) hpos
  have hj:j<7:=by
   have:j<Tryz.prog.cellsOf 67:=hj
   omega
  match j,hj with
  | 0,_=>exact c0.symm
  | 1,_=>exact c1.symm
  | 2,_=>exact c2.symm
  | 3,_=>exact c3.symm
  | 4,_=>exact c4.symm
  | 5,_=>exact c5.symm
  | 6,_=>exact c6.symm
theorem AiP(bk off n c k:Nat)(hk:k<n)(w:World):(Instr.indexAt 24 (.slice (some ⟨bk,off,none⟩) n c) (.int .i64 k)).run Tryz.prog w = .ok (.pointer (some ⟨bk,off+k*7,none⟩)) w:=by
 have hu:Tryz.prog.underlying 24=some (.slice 67):=by kernel_rfl
 have h7:Tryz.prog.cellsOf 67=7:=by kernel_rfl
 have hcond:0≤(k:Int)∧(k:Int)<((n:Nat):Int):=by omega
 simp[Instr.indexAt,asIntOf,run_underlying hu,hcond,hk,Em (P:=Tryz.prog) (t:=67) (by omega),h7,Addr.add_lit]
def AkA(w:World)(l:List Cell)(A:Option Addr)(c:Nat)(e:Ending)(w':World):Prop:=e = .returned (.func (.func 216) #[] #[.pointer (some ⟨w.heap.size+1+1,0,none⟩),.pointer (some ⟨w.heap.size,0,none⟩)])∧FI w l A c l.length w'
theorem FI.start (w:World) (l:List Cell) (A:Option Addr) (c:Nat):FI w l A c 0 (((w.alloc (.cells #[.slice A l.length c] 24)).alloc (.map #[] 0)).alloc (.cells #[.map (some (w.heap.size+1))] 173)):=by
 have h1:((w.alloc (.cells #[.slice A l.length c] 24)).alloc (.map #[] 0)).heap[w.heap.size+1]? = some (.map #[] 0):=by
  have:=heap_alloc_new (w.alloc (.cells #[.slice A l.length c] 24)) (.map #[] 0)
  simpa using this
 have h0:(w.alloc (.cells #[.slice A l.length c] 24)).heap[w.heap.size]? = some (.cells #[.slice A l.length c] 24 (0,0)):=heap_alloc_new w _
 refine ⟨⟨.map [],⟨#[],0,Fk h1,⟨by simp,Go.MapKept.stamped_empty 0,by simp⟩,Nat.le_refl _,rfl,by omega,by simp,by simp⟩,fun n _ _=>rfl⟩,((Below.refl _ _).alloc (Nat.le_refl _) _ |>.alloc (by simp) _ |>.alloc (by simp;omega) _),Fk (Fk h0),?_,by simp⟩
 have:=heap_alloc_new ((w.alloc (.cells #[.slice A l.length c] 24)).alloc (.map #[] 0)) (.cells #[.map (some (w.heap.size+1))] 173)
 simpa using this
set_option maxHeartbeats 1000000 in
theorem Ae_{M:Nat→Prop}(l:List Cell)(hl : ∀ x∈l,∃ d,SmlC d x)(hlen:l.length≤2048)(A:Option Addr)(c:Nat)(w:World)(hrd:Rd Tryz.prog md w M (.ty 24) (.sl (l.map dC)) (.slice A l.length c)) :
  Calls Tryz.prog 152 #[.slice A l.length c] w (AkA w l A c):=by
 have hmm:= @run_makeMap Tryz.prog
 have HRD:=Lib.hid hrd
 clear hrd
 have HLL:=Lib.hid hl
 clear hl
 go_enter Tryz.func152,Tryz.ntmps152
 go_wp2_with fail
 go_loopw [10] (fun iv wr=>∃ k:Nat,k≤l.length∧iv = .int .i64 k∧FI w l A c k wr) (fun iv _=>l.length-(intOf iv).toNat)
 case atStart=>exact ⟨0,Nat.zero_le _,rfl,FI.start w l A c⟩
 case round =>
  obtain ⟨k,hk,rfl,HF⟩:=hrel
  by_cases hlt:k<l.length
  · obtain ⟨bk,off,rfl,hbk,hcell⟩:=AfN HRD.out hlt
    obtain ⟨n0,n1,b,A3,k3,m3,A4,k4,m4,n5,A6,k6,m6,hca⟩:=hcell wr HF.below (by have:=HF.size;omega)
    clear hcell
    have hc0:=hca.c0
    have hc1:=hca.c1
    have hc2:=hca.c2
    have hc3:=hca.c3
    have hc4:=hca.c4
    have hc5:=hca.c5
    have hc6:=hca.c6
    have HRU:=Lib.hid hca
    clear hca
    obtain ⟨d,hsx⟩:=HLL.out l[k] (List.getElem_mem hlt)
    have HSX:=Lib.hid hsx
    clear hsx
    have HIX:=AiP bk off l.length c k hlt
    have HFH:=Lib.hid HF
    clear HF
    go_wp2_with (first
      | (go_at_call 215;refine (AeN HSX.out ?_).mono ?_;rotate_left;rintro e w1 ⟨rfl,hb1,hx1⟩))
    · have hfi:=HFH.out.ext (Ext.trans ((Ext.refl wr).alloc _) hx1)
      obtain ⟨es,clk,v,zs,hb,hu,ho,hzl,hnext⟩:=hfi.look hlt hlen hb1.1 hb1.2
      have hsz1:=hfi.size
      have hmb0:=hfi.mbox
      have hvb : ∀ j,v.ownBlock=some j→w.heap.size+3≤j:=fun j hj=>(ho.1.lt j hj).1
      have KS : ∀ y:World,y.heap[w.heap.size+2]? = some (.cells #[.map (some (w.heap.size+1))] 173 (0,0))→y.heap[w.heap.size+2]? = some (.cells #[.map (some (w.heap.size+1))] 173 (0,0))∧y.cell? ⟨w.heap.size+1+1,0,none⟩=some (.map (some (w.heap.size+1))):=by
       intro y h2
       refine ⟨h2,?_⟩
       unfold World.cell?
       simp[h2]
      have hlk1:=hu w1 hb
      have hlk2:=hu w1.drew hb
      have hlk3:=hu (w1.alloc (.cells #[.int .i64 k] 3)) (Fk hb)
      have hlk4:=hu (w1.alloc (.cells #[.int .i64 k] 3)).drew (Fk hb)
      have hlk5:=hu (w1.drew.alloc (.cells #[.int .i64 k] 3)) (Fk (w:=w1.drew) hb)
      have hinfo : ∃ i0,Tryz.prog.info? 3=some i0∧i0.zero=some (.int .i64 0)∧i0.size=1∧i0.bytes=8:=info_parts (P:=Tryz.prog) (e:=3) (z:= .int .i64 0) (size:=1) (bytes:=8) (by kernel_rfl)
      obtain ⟨i0,hi0,hz0,hz1,hz2⟩:=hinfo
      obtain ⟨_,hcell1⟩:=KS w1 hmb0
      have GD : ∀ {x y:World} {r:Option Nat},x.drew.grownBy y r→x.grownBy y r:=fun h=>⟨h.os,h.tape,h.output,h.size,h.block⟩
      have WFK:(Lit.int .i64 (k:Int)).wf=true:=WalkArith.wf_i64 (by omega)
      go_region_held3 (fun y=>y.heap[w.heap.size+2]? = some (.cells #[.map (some (w.heap.size+1))] 173 (0,0))∧y.cell? ⟨w.heap.size+1+1,0,none⟩=some (.map (some (w.heap.size+1))))
       ((go_split_ands;first | (refine ⟨?_,?_⟩ <;> assumption) | exact KS _ hfi5.mbox | exact KS _ (by assumption) | exact KS _ (Fk (by assumption)) | exact KS _ ((hgrow.block _ (by simp;omega) (by intro e;have:=hvb _ e.symm;omega)).trans (by first | assumption | exact Fk (by assumption)))))
       ((refine step_append_lies _ (by rfl) _ _ _ (by rfl) (w.heap.size+3) 3 i0 _ 1 8 CC hi0 hz0 hz1 hz2 rfl (by omega) v zs.length (zs.map (Value.int .i64)) (by rfl) ((ho.1.alloc _).drew) ⟨w1.heap.size,0,none⟩ 1 1 [.int .i64 k] (by rfl) (by rfl) (World.news_of_block (cs:= #[.int .i64 k]) (t:=3) (fr:=(0,0)) (heap_alloc_new w1 _)) (by simp[Value.oneCell']) (by omega) (by unfold maxLen;omega) (by omega) (by simp;omega) (w1.heap.size+1) (by simp) ?_;intro gg cap w4 hown4 hgrow hat hlt4;obtain ⟨w5,hmu,hfi5⟩:=hnext w4 _ ((World.grownBy_alloc w1 _ _).trans (GD hgrow)) (ho.appended hown4 WFK) (hat.imp (fun h=>h.symm) (fun h=>⟨gg,rfl,by omega⟩))))
      all_goals
       go_wp2_with fail
       go_roundw
       · exact ⟨k+1,by omega,by go_num,hfi5⟩
       · simp[intOf];omega
    · exact Lj HRU.out.rd ((Ext.refl wr).alloc _) (fun b hb _=>hb)
  · have hkn:k=l.length:=by omega
    subst hkn
    go_wp2_with fail
    go_ret
    exact ⟨rfl,HF⟩
theorem BH(k n:Int):0≤Md k n∧Md k n≤18446744073709551615:=by
 unfold Md Bs
 simp only
 rw[IntKind.wrap_u64]
 omega
def CM(k:Int):Prop:=0≤k∧k≤18446744073709551615
theorem Zh{α:Type}{f:Int→α→Int} : ∀ {l:List α} {k:Int},CM k→(∀ x∈l,∀ k,CM k→CM (f k x))→CM (l.foldl f k)
 | [],_,h,_=>h
 | x::xs,k,h,hf=>by
  rw[List.foldl_cons]
  exact Zh (l:=xs) (hf x (by simp) k h) (fun y hy=>hf y (List.mem_cons_of_mem _ hy))
theorem AdJ{c:Cell}{k:Int}(h : ∀ x∈c.inn,∀ k,CM k→CM (Jd k x)):CM (Ch k c):=by
 rw[Sr]
 refine Zh ?_ h
 have h1 : ∀ (l:List Av) {k:Int},CM k→CM (Qg k l):=fun l k hk=>Zh hk (fun x _ k _=>BH _ _)
 refine h1 _ (h1 _ ?_)
 split <;> exact BH _ _
theorem AiX(a:Arr) : ∀ k,CM k→CM (Jd k a):=by
 induction a using Arr.ind with
 | h s sh cs IH =>
  intro k hk
  rw[BG]
  exact Zh (Zh hk (fun x _ k _=>BH _ _)) (fun c hc k _=>AdJ (IH c hc))
theorem AcZ(c:Cell)(k:Int):CM (Ch k c):=AdJ (fun x _=>AiX x)
theorem FJ{α:Type}{f:α→Lit×DataW Unit} : ∀ {l:List α} {x y:α},(l.map f).Pairwise (fun p q=>p.1≠q.1)→x∈l→y∈l→(f x).1=(f y).1→x=y
 | [],x,y,_,hx,_,_=>by cases hx
 | a::l,x,y,h,hx,hy,he=>by
  rw[List.map_cons,List.pairwise_cons]at h
  rcases List.mem_cons.1 hx with e1 | hx1 <;> rcases List.mem_cons.1 hy with e2 | hy1
  · rw[e1,e2]
  · rw[e1]at he;exact absurd he (h.1 _ (List.mem_map.2 ⟨y,hy1,rfl⟩))
  · rw[e2]at he;exact absurd he.symm (h.1 _ (List.mem_map.2 ⟨x,hx1,rfl⟩))
  · exact FJ h.2 hx1 hy1 he
theorem Ako{w:World}{M:Nat→Prop}{base:Nat}{v:Value}{zs:List Int}(h:w.ownsInts base 3 .i64 v zs)(hM : ∀ b,M b→b<base):RdC Tryz.prog md w M (.ty 23) (.sl (zs.map .int)) (fun j=>v.cells[j]?)∧Dz v=false:=by
 have hc1:Tryz.prog.cellsOf 3=1:=by kernel_rfl
 have hti:Tryz.prog.underlying 3=some (.int .i64):=by kernel_rfl
 obtain ⟨hrow,hwf⟩:=h
 rcases hrow.2 with ⟨rfl,h0⟩ | ⟨g,cap,cur,rfl,hbg,hg,hnc,hcm,hcs,htake⟩
 · have:zs = []:=List.length_eq_zero_iff.1 h0
   subst this
   exact ⟨.sl (t:= .ty _) (e:=3) (A:=none) (cap:=0) (bk:=0) (off:=0) CC rfl (by simp) (by simp) (fun hne=>absurd rfl hne) (fun i x hx=>by simp at hx),rfl⟩
 · have hcell:=hrow.cells (g:=g) rfl
   refine ⟨.sl (t:= .ty _) (e:=3) (A:=some ⟨g,0,none⟩) (cap:=cap) (bk:=g) (off:=0) CC (by simp[Value.cells]) (by simpa using hnc) hcm (fun _=>⟨rfl,fun hm=>by have:=hM g hm;omega,(Array.getElem?_eq_some_iff.1 hg).1⟩) (fun i x hx=> ?_),rfl⟩
   rw[List.getElem?_map,Option.map_eq_some_iff]at hx
   obtain ⟨z,hz,rfl⟩:=hx
   have hw:=hwf z (List.mem_of_getElem? hz)
   unfold Lit.wf at hw
   simp only[Bool.and_eq_true,decide_eq_true_eq]at hw
   have:=hcell i (.int .i64 z) (by rw[List.getElem?_map,hz];rfl)
   have ea:(⟨g,0,none⟩:Addr).add i=⟨g,0+i,none⟩:=by unfold Addr.add;split <;> simp_all
   rw[ea]at this
   exact .int (t:= .ty _) (k:= .i64) hti hw.1 hw.2 (by rw[hc1];simpa using this)
theorem FI.map_rd {w w':World} {M:Nat→Prop} {l:List Cell} {A:Option Addr} {c:Nat} (h:FI w l A c l.length w') (hM : ∀ b,M b→b<w.heap.size):RdC Tryz.prog md w' M (.ty 173) (.mp (g0 l)) (fun j=>w'.cell? ⟨w.heap.size+1+1,0+j,none⟩):=by
 obtain ⟨⟨D,hg,hD⟩,_,_,mbox,hsz⟩:=h
 obtain ⟨es,clk,hb,F,_,rfl,_,_,_⟩:=hg
 have hks : ∀ x∈es.toList,∃ n:Int,x.key = .int .u64 n∧0≤n∧n≤18446744073709551615:=fun x hx=>by
   obtain ⟨y,hy⟩:=F.reads x hx
   obtain ⟨n,hn,h0,h1,_⟩:=KY (Go.WideElems.rd_key hy)
   exact ⟨n,hn,h0,h1⟩
 have rdx : ∀ x∈es.toList,∀ n,x.key = .int .u64 n→RdC Tryz.prog md w' M (.ty 23) (.sl ((Zn (g0 l) n).map .int)) (fun j=>x.val.cells[j]?)∧Dz x.val=false:=by
   intro x hx n hn
   obtain ⟨n',hn',h0,h1⟩:=hks x hx
   rw[hn]at hn'
   injection hn' with _ hn'
   subst hn'
   have hkey:=UM h0 h1
   rcases Maps.fit_look false Zo Wm (Yr w') hb F hkey with ⟨_,hne,_⟩ | ⟨e0,y,hm0,h3,_,hR,hat,_⟩
   · exact absurd hn (hne x hx)
   · have hxe:x=e0:=by
       refine FJ (fit_apart Zo F) hx hm0 ?_
       obtain ⟨y1,hy1⟩:=F.reads x hx
       obtain ⟨y2,hy2⟩:=F.reads e0 hm0
       rw[Go.WideElems.rg_of hy1,Go.WideElems.rg_of hy2]
       have k1:=Go.WideElems.rd_key hy1
       have k2:=Go.WideElems.rd_key hy2
       rw[hn]at k1
       rw[h3]at k2
       rw[k1]at k2
       injection k2
     subst hxe
     obtain ⟨zs,ho,rfl⟩:=rowElem_inv hR
     have hz:=hD n h0 (by omega)
     rw[hat,List.take_length,ER ho]at hz
     rw[Ab2,← MX hz]
     exact Ako ho (fun b hb=>by have:=hM b hb;omega)
 refine .mp (t:= .ty _) (b:=w.heap.size+1) Wm Lk CC ?_ (fun hm=>by have:=hM _ hm;omega) (by omega) hb (fun x hx=> ?_) (fun x hx n hn=>(rdx x hx n hn).1) (fun x hx=> ?_) (fun n hne=> ?_)
 · have:w'.heap[w.heap.size+1+1]? = some (.cells #[.map (some (w.heap.size+1))] 173 (0,0)):=mbox
   unfold World.cell?
   simp[this]
 · obtain ⟨n,hn,_⟩:=hks x hx;exact ⟨n,hn⟩
 · obtain ⟨n,hn,_⟩:=hks x hx;exact (rdx x hx n hn).2
 · rw[Ab2]
   by_cases hr:0≤n∧n≤18446744073709551615
   · have hkey:=UM hr.1 hr.2
     rcases Maps.fit_look false Zo Wm (Yr w') hb F hkey with ⟨_,_,hat⟩ | ⟨e0,y,hm0,h3,_⟩
     · have hz:=hD n hr.1 (by omega)
       rw[hat,List.take_length]at hz
       exact (MX (q:= .i64) (a:=[]) hz).symm
     · exact absurd h3 (hne e0 hm0)
   · exact EN l n 0 (fun c _ he=>hr (he▸AcZ c 0))
theorem Pr:Pg:=by
 intro d l hl hlen
 refine ⟨g0 l,Ab2 l,JH ZM Tryz.func152 (by kernel_rfl) (by kernel_rfl) (by kernel_rfl) (fun w M vs hM _ hlv hrd=> ?_)⟩
 have hps:Tryz.f152.params.toList = [24]:=by kernel_rfl
 have hlen1:vs.length=1:=by rw[hlv];rfl
 match vs,hlen1 with
 | [v],_ =>
  rw[hps]at hrd
  have hr:=hrd 0 _ _ _ rfl rfl rfl
  obtain ⟨A,n,c,hv,hn⟩ : ∃ A n c,v = .slice A n c∧n=l.length:=by
   obtain ⟨h1,h2,h3⟩:=hr
   cases h1 with
   | @sl _ e _ _ A' cap bk off ht hc h4 h5 hA hh =>
     have ha:Dz v=false:=by rw[h3];kernel_rfl
     rw[Hg ha]at hc
     exact ⟨A',_,cap,by simpa using hc,by simp⟩
  subst hv
  subst hn
  refine (Ae_ l (fun x hx=>⟨d,hl x hx⟩) hlen A c w hr).mono ?_
  rintro e w' ⟨rfl,hfi⟩
  have hx:Ext w w':=by
   have:=hfi.below
   exact ⟨this.os,this.tape,this.output,by have:=hfi.size;omega,fun b hb=>this.block b hb⟩
  refine ⟨[_],rfl,rfl,fun i t u ht hu=> ?_,hx⟩
  rw[show Tryz.f152.resultTypes.toList = [128] by kernel_rfl]at ht
  match i with
  | 0 =>
   cases ht;cases hu
   have hsz:=hfi.size
   refine ⟨.fn (fn:=Tryz.f216) (ps:= #[67]) (rs:= #[3]) (va:=false) (by kernel_rfl) Tryz.func216 (by kernel_rfl) (by kernel_rfl) (by kernel_rfl) rfl rfl rfl (fun i ct d' v' hct hd hv=> ?_) (fun i ct v' hct hv=> ?_),by kernel_rfl,by kernel_rfl⟩
   · match i with
     | 0 =>
      cases hct;cases hd;cases hv
      exact .ref (t:= .ref _) (bk:=w.heap.size+1+1) (off:=0) rfl rfl (fun hm=>by have:=hM _ hm;omega) (by omega) (hfi.map_rd hM)
     | 1 =>
      cases hct;cases hd;cases hv
      refine .ref (t:= .ref _) (bk:=w.heap.size) (off:=0) rfl rfl (fun hm=>by have:=hM _ hm;omega) (by omega) ?_
      have h1:=hr.rd.mono (w':=w') (M':=M) hx.size (fun b _ hb=>hx.block b hb) (fun b hb _=>hb)
      refine h1.congr (fun j hj=> ?_) (by have:(CT.ty 24).size Tryz.prog=1:=(by kernel_rfl);omega)
      have hj:j<1:=by have:(CT.ty 24).size Tryz.prog=1:=(by kernel_rfl);omega
      obtain rfl:j=0:=by omega
      unfold World.cell?
      simp[hfi.lbox,Value.cells]
     | i+2=>cases hct
   · match i with
     | 0=>cases hct;cases hv;exact ⟨rfl,rfl⟩
     | 1=>cases hct;cases hv;exact ⟨rfl,rfl⟩
     | i+2=>cases hct
  | i+1=>simp at ht
end Go.Proofs.YtokkbgpgaheakaaGreat
namespace Go.Proofs.YtokkbgpgaheakaaGreat
theorem PL : ∀ {l:List Int},(∀ x∈l,Cv x)→I9 (l.map B5)=some l
 | [],_=>rfl
 | x::xs,h=>by
  simp only[List.map_cons,I9]
  rw[if_pos (show (B5 x).kind=0 from rfl),show (B5 x).n=G4 x from rfl,Afo (h x (by simp)),PL (fun y hy=>h y (by simp[hy]))]
  rfl
theorem Aib(l:List Int)(s:Co):Bq (Hm l s)=s:=by
 rw[Aek]
 unfold Hm
 simp only[Arr.cells_mk,Arr.s_mk]
 induction l with
 | nil=>rfl
 | cons x xs ih =>
  rw[List.map_cons,List.foldl_cons,Ael]
  have e0:s|||(0:Co)=s:=by simp
  rw[show (B5 x).inn = [] from rfl,show (B5 x).l=0 from rfl,e0,List.foldl_nil]
  exact ih
section
variable {o:Co} {a b n m:Arr}
end
theorem inr(z:Int)(h1 : -100000≤z:=by decide)(h2:z≤100000:=by decide):Cv z:=by unfold Cv;omega
theorem Zr{z:Int}{k:Nat}(h:z.natAbs<B ^ k):Cj z≤k:=Ax.2 h
theorem UP(z:Int):z.natAbs<B ^ Cj z:=Ax.1 (Nat.le_refl _)
theorem Ahi(x y:Int):Cj (x+y)≤max (Cj x) (Cj y)+1:=by
 refine Zr ?_
 have h1:x.natAbs<B ^ max (Cj x) (Cj y):=Nat.lt_of_lt_of_le (UP x) (Nat.pow_le_pow_right Cd (Nat.le_max_left _ _))
 have h2:y.natAbs<B ^ max (Cj x) (Cj y):=Nat.lt_of_lt_of_le (UP y) (Nat.pow_le_pow_right Cd (Nat.le_max_right _ _))
 have h3:=Int.natAbs_add_le x y
 rw[Nat.pow_succ]
 generalize B ^ max (Cj x) (Cj y)=q at *
 rw[Be];omega
theorem Ahj(x:Int):Cj (-x)=Cj x:=by unfold Cj;rw[Int.natAbs_neg]
theorem U_(z:Int):(wz z).mag.length=Cj z:=rfl
theorem Aca : ∀ (k n:Nat) (out base:Int),Cj out≤100→Cj (Y4 k n out base).1≤100
 | 0,_,out,base,h=>h
 | k+1,n,out,base,h=>by
  have z0:Cj 0≤100:=by unfold Cj;rw[show Int.natAbs 0=0 from rfl,Ct];simp
  rw[Y4]
  generalize (if n % 2=1 then out*base else out)=o
  split
  · exact h
  split
  · exact z0
  split
  · exact z0
  rename_i h3
  split
  · show Cj o≤100;omega
  · exact Aca k _ o _ (by omega)
theorem AgS(x y:Int)(hy:y≠0):(Nr x y).1*y+(Nr x y).2=x∧(Nr x y).1.natAbs≤x.natAbs+1∧(Nr x y).2.natAbs<y.natAbs∧(0<y→0≤(Nr x y).2)∧(y<0→(Nr x y).2≤0):=by
 have hdm:=Nat.div_add_mod x.natAbs y.natAbs
 have hml:=Nat.mod_lt x.natAbs (show 0<y.natAbs by omega)
 have hdl:=Nat.div_le_self x.natAbs y.natAbs
 unfold Nr
 generalize x.natAbs / y.natAbs=q at *
 generalize x.natAbs % y.natAbs=r at *
 generalize hX:x.natAbs=X at *
 generalize hY:y.natAbs=Y at *
 have hdm':(Y:Int)*(q:Int)+(r:Int)=(X:Int):=by rw[← hdm];simp
 by_cases hx0:x<0 <;> by_cases hy0:y<0
 · obtain rfl:x = -(X:Int):=by omega
   obtain rfl:y = -(Y:Int):=by omega
   simp only[hx0,hy0,if_true]
   refine ⟨by rw[Int.mul_neg,Int.mul_comm];omega,by omega,by omega,fun h=>by first | omega | exact False.elim h,fun h=>by first | omega | exact False.elim h⟩
 · obtain rfl:x = -(X:Int):=by omega
   obtain rfl:y=(Y:Int):=by omega
   simp only[hx0,hy0,if_true]
   rw[if_neg (by simp)]
   split
   · rename_i h0
     subst h0
     refine ⟨by rw[Int.neg_mul,Int.mul_comm];omega,by omega,by omega,fun h=>by first | omega | exact False.elim h,fun h=>by first | omega | exact False.elim h⟩
   · refine ⟨by rw[Int.sub_mul,Int.neg_mul,Int.mul_comm (q:Int)];omega,by omega,by omega,fun h=>by first | omega | exact False.elim h,fun h=>by first | omega | exact False.elim h⟩
 · obtain rfl:x=(X:Int):=by omega
   obtain rfl:y = -(Y:Int):=by omega
   simp only[hx0,hy0,if_false]
   rw[if_neg (by simp)]
   split
   · rename_i h0
     subst h0
     refine ⟨by rw[Int.neg_mul_neg,Int.mul_comm];omega,by omega,by omega,fun h=>by first | omega | exact False.elim h,fun h=>by first | omega | exact False.elim h⟩
   · refine ⟨by rw[Int.sub_mul,Int.neg_mul_neg,Int.mul_comm (q:Int)];omega,by omega,by omega,fun h=>by first | omega | exact False.elim h,fun h=>by first | omega | exact False.elim h⟩
 · obtain rfl:x=(X:Int):=by omega
   obtain rfl:y=(Y:Int):=by omega
   simp only[hx0,hy0,if_false,if_true]
   refine ⟨by rw[Int.mul_comm];omega,by omega,by omega,fun h=>by first | omega | exact False.elim h,fun h=>by first | omega | exact False.elim h⟩
def Zq:ByteArray:=(⟨#[0,1,2,2,3,3,3,3,4,4,4,4,4,4,4,4,5,5,5,5,5,5,5,5,5,5,5,5,5,5,5,5,6,6,6,6,6,6,6,6,6,6,6,6,6,6,6,6,6,6,6,6,6,6,6,6,6,6,6,6,6,6,6,6,7,7,7,7,7,7,7,7,7,7,7,7,7,7,7,7,7,7,7,7,7,7,7,7,7,7,7,7,7,7,7,7,7,7,7,7,7,7,7,7,7,7,7,7,7,7,7,7,7,7,7,7,7,7,7,7,7,7,7,7,7,7,7,7,8,8,8,8,8,8,8,8,8,8,8,8,8,8,8,8,8,8,8,8,8,8,8,8,8,8,8,8,8,8,8,8,8,8,8,8,8,8,8,8,8,8,8,8,8,8,8,8,8,8,8,8,8,8,8,8,8,8,8,8,8,8,8,8,8,8,8,8,8,8,8,8,8,8,8,8,8,8,8,8,8,8,8,8,8,8,8,8,8,8,8,8,8,8,8,8,8,8,8,8,8,8,8,8,8,8,8,8,8,8,8,8,8,8,8,8,8,8,8,8,8,8,8,8,8,8,8,8]⟩:ByteArray)
def L_(i:Nat):Nat:=(Zq.data.toList.getD i 0).toNat
theorem AiV:((List.range 256).all fun i=>decide (i<2 ^ L_ i)&&(i == 0||decide (2 ^ L_ i≤2*i))&&decide (L_ i≤8))=true:=by kernel_rfl
theorem Wi{i:Nat}(h:i<256):i<2 ^ L_ i∧(0<i→2 ^ L_ i≤2*i)∧L_ i≤8:=by
 have:=List.all_eq_true.1 AiV i (List.mem_range.2 h)
 simp only[Bool.and_eq_true,decide_eq_true_eq,Bool.or_eq_true,beq_iff_eq]at this
 exact ⟨this.1.1,fun h0=>by rcases this.1.2 with h | h <;> omega,this.2⟩
theorem Ro{x:Int}(h1:0≤x)(h2:x<256):IntKind.wrap .u8 x=x:=by rw[IntKind.wrap_u8];omega
theorem Air(x y:Nat):Int.fdiv (x:Int) (y:Int)=((x / y:Nat):Int):=by
 rw[Int.fdiv_eq_ediv_of_nonneg _ (Int.natCast_nonneg _)];rfl
theorem ZO(x:Nat)(hx:x<B) : ∃ k:Nat,Sp 341 [.int (x:Int)] [.int (k:Int)]∧k≤32∧x<2 ^ k∧(0<x→2 ^ k≤2*x):=by
 have e16:(2:Int) ^ (min (Int.toNat 16) (IntKind.bits .u32))=((65536:Nat):Int):=by decide
 have e8:(2:Int) ^ (min (Int.toNat 8) (IntKind.bits .u32))=((256:Nat):Int):=by decide
 have hsz:(Zq.size:Int)=256:=by
       have:Zq.size=256:=by kernel_rfl
       omega
 rw[Be]at hx
 have tr:=OT 0 (.int (x:Int))
 rw[show (⟨#[0,1,2,2,3,3,3,3,4,4,4,4,4,4,4,4,5,5,5,5,5,5,5,5,5,5,5,5,5,5,5,5,6,6,6,6,6,6,6,6,6,6,6,6,6,6,6,6,6,6,6,6,6,6,6,6,6,6,6,6,6,6,6,6,7,7,7,7,7,7,7,7,7,7,7,7,7,7,7,7,7,7,7,7,7,7,7,7,7,7,7,7,7,7,7,7,7,7,7,7,7,7,7,7,7,7,7,7,7,7,7,7,7,7,7,7,7,7,7,7,7,7,7,7,7,7,7,7,8,8,8,8,8,8,8,8,8,8,8,8,8,8,8,8,8,8,8,8,8,8,8,8,8,8,8,8,8,8,8,8,8,8,8,8,8,8,8,8,8,8,8,8,8,8,8,8,8,8,8,8,8,8,8,8,8,8,8,8,8,8,8,8,8,8,8,8,8,8,8,8,8,8,8,8,8,8,8,8,8,8,8,8,8,8,8,8,8,8,8,8,8,8,8,8,8,8,8,8,8,8,8,8,8,8,8,8,8,8,8,8,8,8,8,8,8,8,8,8,8,8,8,8,8,8,8,8]⟩:ByteArray)=Zq from rfl]at tr
 simp only[Ah,e16,e8,Air,hsz]at tr
 have fin : ∀ i c:Nat,i<256→c≤24→IntKind.wrap .i64 ((c:Int)+IntKind.wrap .i64 (((Zq.data.toList.getD (Int.toNat (IntKind.wrap .u8 (i:Int))) 0).toNat:Nat):Int))=((c+L_ i:Nat):Int):=by
   intro i c hi hc
   have h8:=(Wi hi).2.2
   rw[Ro (by omega) (by omega),Int.toNat_natCast]
   show IntKind.wrap .i64 ((c:Int)+IntKind.wrap .i64 ((L_ i:Nat):Int))=_
   rw[Ap (x:=((L_ i:Nat):Int)) (by omega) (by omega),Ap (by omega) (by omega)];omega
 have up : ∀ i c:Nat,i<256→0<i→i=x / 2 ^ c→x<2 ^ (c+L_ i)∧2 ^ (c+L_ i)≤2*x:=by
   intro i c hi h0 he
   obtain ⟨h1,h2,_⟩:=Wi hi
   have h3:=h2 h0
   rw[Nat.pow_add]
   have hp:0<2 ^ c:=Nat.pow_pos (by decide)
   constructor
   · have:x / 2 ^ c<2 ^ L_ i:=by omega
     rw[Nat.div_lt_iff_lt_mul hp]at this
     rwa[Nat.mul_comm]
   · have h4:i*2 ^ c≤x:=by rw[he];exact Nat.div_mul_le_self _ _
     calc 2 ^ c*2 ^ L_ i≤2 ^ c*(2*i):=Nat.mul_le_mul_left _ h3
      _=2*(i*2 ^ c):=by rw[Nat.mul_left_comm,Nat.mul_comm (2 ^ c) i]
      _≤2*x:=Nat.mul_le_mul_left _ h4
 by_cases h1:65536≤x
 · by_cases h2:256≤x / 65536
   · have hi:x / 65536 / 256<256:=by omega
     obtain ⟨u1,u2⟩:=up _ 24 hi (by omega) (by rw[Nat.div_div_eq_div_mul])
     have f1:=fin _ 24 hi (by omega)
     refine ⟨24+L_ (x / 65536 / 256),Ag 0 tr ?_,by have:=(Wi hi).2.2;omega,u1,fun _=>u2⟩
     refine Ae (Ba (by decide) (Ae (Ba (by decide) (At (by rw[Ro (by omega) (by omega)];omega) (At (by rw[Ro (by omega) (by omega)];omega) (Ac ?_))))))
     rw[show IntKind.wrap .i64 (16+8)=((24:Nat):Int) by decide,f1]
   · have hi:x / 65536<256:=by omega
     obtain ⟨u1,u2⟩:=up _ 16 hi (by omega) (by rfl)
     have f1:=fin _ 16 hi (by omega)
     refine ⟨16+L_ (x / 65536),Ag 0 tr ?_,by have:=(Wi hi).2.2;omega,u1,fun _=>u2⟩
     refine Ae (Ba (by decide) (Am (by omega) (At (by rw[Ro (by omega) (by omega)];omega) (At (by rw[Ro (by omega) (by omega)];omega) (Ac ?_)))))
     rw[show (16:Int)=((16:Nat):Int) from rfl,f1]
 · by_cases h2:256≤x
   · have hi:x / 256<256:=by omega
     obtain ⟨u1,u2⟩:=up _ 8 hi (by omega) (by rfl)
     have f1:=fin _ 8 hi (by omega)
     refine ⟨8+L_ (x / 256),Ag 0 tr ?_,by have:=(Wi hi).2.2;omega,u1,fun _=>u2⟩
     refine Am (by omega) (Ae (Ba (by decide) (At (by rw[Ro (by omega) (by omega)];omega) (At (by rw[Ro (by omega) (by omega)];omega) (Ac ?_)))))
     rw[show IntKind.wrap .i64 (0+8)=((8:Nat):Int) by decide,f1]
   · have hi:x<256:=by omega
     have f1:=fin _ 0 hi (by omega)
     have h8:=Wi hi
     refine ⟨0+L_ x,Ag 0 tr ?_,by omega,by rw[Nat.zero_add];exact h8.1,fun h0=>by rw[Nat.zero_add];exact h8.2.1 h0⟩
     refine Am (by omega) (Am (by omega) (At (by rw[Ro (by omega) (by omega)];omega) (At (by rw[Ro (by omega) (by omega)];omega) (Ac ?_))))
     rw[show (0:Int)=((0:Nat):Int) from rfl,f1]
theorem Aeu(x:Nat)(hx:x<B)(h0:0<x) : ∃ s:Nat,Sp 335 [.int (x:Int)] [.int (s:Int)]∧s<32∧x*2 ^ s<B∧B≤2*(x*2 ^ s):=by
 obtain ⟨k,h1,h2,h3,h4⟩:=ZO x hx
 have h5:=h4 h0
 have hk:0<k:=by
   rcases Nat.eq_zero_or_pos k with e | e
   · subst e;simp at h3;omega
   · exact e
 have hb:B=2 ^ k*2 ^ (32-k):=by rw[← Nat.pow_add,show k+(32-k)=32 by omega];rfl
 have hp:0<2 ^ (32-k):=Nat.pow_pos (by decide)
 refine ⟨32-k,Ag 0 (Wp _ _) (Aa h1 (Ac ?_)),by omega,?_,?_⟩
 · simp only[Af,Ah]
   rw[Ap (by omega) (by omega)];congr 2;omega
 · rw[hb];exact Nat.mul_lt_mul_of_pos_right h3 hp
 · rw[hb,← Nat.mul_assoc];exact Nat.mul_le_mul_right _ h5
theorem Aka{l m:List Av}(hl:l.length=m.length)(h:nv l=nv m):l=m:=by
 apply List.ext_getElem hl
 intro i g1 g2
 apply BitVec.eq_of_toNat_eq
 rw[D0 l i g1,D0 m i g2,h]
theorem Akb{v k:Nat}(h:v<B ^ k) : ∃ q:List Av,q.length=k∧nv q=v:=by
 have h2:=Ax.2 h
 refine ⟨lb v++List.replicate (k-(lb v).length) 0,by simp;omega,?_⟩
 rw[Fw,BJ,By];simp
theorem Akj{X Y:Nat}(hX:X<18446744073709551616)(hY:Y<18446744073709551616):Bs .or .u64 (X:Int) (Y:Int)=((X|||Y:Nat):Int):=by
 have h:Bs .or .u64 (X:Int) (Y:Int)=bits .or .u64 (X:Int) (Y:Int):=by unfold Bs bits;simp
 rw[h,u64_or_nat X Y hX hY]
theorem Akk{x c s:Nat}(hx:x<B)(hs:s<32)(hc:c<2 ^ s):Bs .or .u64 ((x*2 ^ s:Nat):Int) (c:Int)=((x*2 ^ s+c:Nat):Int)∧x*2 ^ s+c<9223372036854775808:=by
 have h2:2 ^ s≤2 ^ 31:=Nat.pow_le_pow_right (by decide) (by omega)
 have h3:x*2 ^ s≤(B-1)*2 ^ 31:=Nat.mul_le_mul (by omega) h2
 rw[Be]at *
 refine ⟨?_,by omega⟩
 rw[Akj (by omega) (by omega)]
 congr 1
 have:=Nat.shiftLeft_add_eq_or_of_lt (i:=s) (b:=c) hc x
 rw[Nat.shiftLeft_eq]at this
 exact this.symm
theorem Akl{s:Nat}(hs:s<32):(2:Int) ^ (min (Int.toNat (IntKind.wrap .u64 (s:Int))) (IntKind.bits .u64))=((2 ^ s:Nat):Int):=by
 rw[A_ (by omega) (by omega),Int.toNat_natCast,show IntKind.bits .u64=64 from rfl,Nat.min_eq_left (by omega)];simp
theorem YK(l:List Av)(s:Nat)(hs:s<32)(hl:l.length≤1000000) : ∃ q:List Av,q.length=l.length+1∧nv q=nv l*2 ^ s∧Sp 336 [dL l,.int (s:Int)] [dL q]:=by
 have hps:2 ^ s≤2 ^ 31:=Nat.pow_le_pow_right (by decide) (by omega)
 have hs0:0<2 ^ s:=Nat.pow_pos (by decide)
 have hv:nv l*2 ^ s<B ^ (l.length+1):=by
  rw[Nat.pow_succ]
  exact Nat.mul_lt_mul'' (Ck l) (by rw[Be];omega)
 obtain ⟨q,hq1,hq2⟩:=Akb hv
 refine ⟨q,hq1,hq2,Ag (l.length+2) (Adc _ _ _) ?_⟩
 simp only[As]
 rw[Ap (by omega) (by omega)]
 refine Ae (Ae (At (by simp only[Ar];omega) ?_))
 rw[show (l.length:Int)+1=((l.length+1:Nat):Int) by omega,Int.toNat_natCast]
 have key:=C4 (P:=Tryz.prog) (md:=md) l.length (fun m i (t:List Av×Nat)=>Yf (l.length+2) m (dL l) (s:Int) ((t.1++List.replicate (l.length+1-i) 0).map dB) (t.2:Int) (dL l) (l.length:Int) (i:Int)) (fun _ _=>[dL q])
  (fun i t=>t.1.length=i∧t.2<2 ^ s∧nv t.1+B ^ i*t.2=(nv l % B ^ i)*2 ^ s)
  (fun m t ⟨h1,h2,h3⟩=>by
   have hlen:(t.1++List.replicate (l.length+1-l.length) (0:Av)).length=l.length+1:=by simp[h1]
   have hc:t.2<B:=by rw[Be];omega
   rw[Nat.mod_eq_of_lt (Ck l)]at h3
   simp only[Zw,As,hlen]
   rw[Be]at hc
   rw[Fp (x:=(t.2:Int)) (by omega) (by omega)]
   rw[← Be]at hc
   refine Am (by omega) (Ae (Ae (Ac ?_)))
   rw[Dy hc,map_set,List.set_append_right _ _ (by omega),h1,Nat.sub_self,show l.length+1-l.length=1 by omega]
   have:t.1++[BitVec.ofNat 32 t.2]=q:=Aka (by simp[h1,hq1]) (by rw[Kb,h1,ofNat_lt hc,h3,hq2])
   rw[← this];rfl)
  (fun m i t hi ⟨h1,h2,h3⟩ ih=>by
   have gx:=D0 l i hi
   have xl:nv l / B ^ i % B<B:=Nat.mod_lt _ Cd
   have hms:nv l % B ^ (i+1)=nv l % B ^ i+B ^ i*(nv l / B ^ i % B):=Nat.mod_pow_succ
   have hlen:(t.1++List.replicate (l.length+1-i) (0:Av)).length=l.length+1:=by simp[h1];omega
   have gX:(l.map dB).getD i D.nil=D.int ((nv l / B ^ i % B:Nat):Int):=by rw[Aj (List.getElem?_eq_getElem hi),← gx];rfl
   simp only[Zw,As,gX,hlen,Akl hs,An (show i<9223372036854775807 by omega)]
   generalize nv l / B ^ i % B=x at *
   obtain ⟨ho,hT⟩:=Akk xl hs h2
   have hxB:=xl
   rw[Be]at hxB
   rw[A_ (x:=(x:Int)) (by omega) (by omega),← Int.natCast_mul,A_ (x:=((x*2 ^ s:Nat):Int)) (by omega) (by omega),ho]
   generalize hTT:x*2 ^ s+t.2=T at *
   have hTl:=Nat.mod_lt T Cd
   have t4:IntKind.wrap .u32 (T:Int)=((T % B:Nat):Int):=by rw[IntKind.wrap_u32,Be];omega
   have Ea:((t.1++List.replicate (l.length+1-i) 0).map dB).set i (D.int ((T % B:Nat):Int))=((t.1++[BitVec.ofNat 32 (T % B)])++List.replicate (l.length+1-(i+1)) 0).map dB:=by
     rw[Dy hTl,map_set,List.set_append_right _ _ (by omega),h1,Nat.sub_self,show l.length+1-i=(l.length+1-(i+1))+1 by omega,List.replicate_succ,List.set_cons_zero];simp
   rw[t4,Ea,Ze]
   refine Ae (Ae (Ae (At (by rw[A_ (by omega) (by omega)];omega) (Ae (Ae (Ba (by decide) ?_))))))
   refine ih (t.1++[BitVec.ofNat 32 (T % B)],T / 4294967296) ⟨by simp[h1],?_,?_⟩
   · show T / B<2 ^ s
     rw[Nat.div_lt_iff_lt_mul Cd,← hTT]
     have:x*2 ^ s+2 ^ s≤B*2 ^ s:=by rw[← Nat.succ_mul];exact Nat.mul_le_mul_right _ xl
     rw[Nat.mul_comm (2 ^ s) B];omega
   · show nv (t.1++[BitVec.ofNat 32 (T % B)])+B ^ (i+1)*(T / B)=_
     rw[Kb,h1,ofNat_lt hTl,hms,Nat.add_mul,← h3,Nat.pow_succ,Nat.mul_assoc,Nat.mul_assoc (B ^ i) x,Nat.add_assoc,← Nat.mul_add,Nat.mod_add_div,← hTT,Nat.mul_add]
     omega)
  (l.length+2) 0 ([],0) (by omega) (by omega) ⟨rfl,hs0,by simp[Nat.mod_one,nv]⟩
 have e0:(([]:List Av)++List.replicate (l.length+1-0) 0).map dB=List.replicate (l.length+1) (D.int 0):=by simp[List.map_replicate];rfl
 rw[e0]at key
 exact key
theorem Af9(V s k:Nat)(hs:s<32):V / 2 ^ s / B ^ k % B=((V / B ^ (k+1) % B)*B+V / B ^ k % B) / 2 ^ s % B:=by
 have hs0:0<2 ^ s:=Nat.pow_pos (by decide)
 have hB:B=2 ^ s*2 ^ (32-s):=by rw[← Nat.pow_add,show s+(32-s)=32 by omega];rfl
 rw[Nat.div_div_eq_div_mul,Nat.mul_comm (2 ^ s),← Nat.div_div_eq_div_mul,Nat.pow_succ,← Nat.div_div_eq_div_mul]
 generalize V / B ^ k=W
 have h1:W=(W / B % B*B+W % B)+2 ^ s*(B*(2 ^ (32-s)*(W / B / B))):=by
  have e1:=Nat.div_add_mod W B
  have e2:=Nat.div_add_mod (W / B) B
  have e3:2 ^ s*(B*(2 ^ (32-s)*(W / B / B)))=B*(B*(W / B / B)):=by
   rw[Nat.mul_left_comm,← Nat.mul_assoc (2 ^ s),← hB]
  rw[e3,Nat.mul_comm (W / B % B) B]
  have e4:B*(W / B)=B*(B*(W / B / B))+B*(W / B % B):=by rw[← Nat.mul_add,e2]
  omega
 have h2:W / 2 ^ s=(W / B % B*B+W % B) / 2 ^ s+B*(2 ^ (32-s)*(W / B / B)):=by
  have:W / 2 ^ s=((W / B % B*B+W % B)+2 ^ s*(B*(2 ^ (32-s)*(W / B / B)))) / 2 ^ s:=by rw[← h1]
  rw[this,Nat.add_mul_div_left _ _ hs0]
 rw[h2,Nat.add_mul_mod_self_left]
theorem Ada(l:List Av)(s:Nat)(hs:s<32)(hl:l.length≤1000000):Sp 340 [dL l,.int (s:Int)] [dL (lb (nv l / 2 ^ s))]:=by
 refine Ag (l.length+1) (Aaj _ _ _) ?_
 simp only[As]
 refine Ae (Ae (At (by simp only[Ar];omega) ?_))
 have key:=G0 (P:=Tryz.prog) (md:=md) (fun m k (hi:List Av)=>Th (l.length+1) m (dL l) (s:Int) ((List.replicate k 0++hi).map dB) ((nv l / B ^ k % B:Nat):Int) ((k:Int)-1)) (fun _ _=>[dL (lb (nv l / 2 ^ s))])
  (fun k hi=>k≤l.length∧hi.length=l.length-k∧nv hi=nv l / 2 ^ s / B ^ k)
  (fun m hi ⟨h0,h1,h2⟩=>by
   simp only[W6,List.replicate_zero,List.nil_append,As]
   refine Am (by omega) (Aa (C9 hi (by omega)) (Ac ?_))
   rw[h2,Nat.pow_zero,Nat.div_one];rfl)
  (fun m k hi ⟨h0,h1,h2⟩ ih=>by
   have hk:k<l.length:=by omega
   have gx:=D0 l k hk
   have xl:nv l / B ^ k % B<B:=Nat.mod_lt _ Cd
   have yl:nv l / B ^ (k+1) % B<B:=Nat.mod_lt _ Cd
   have hd:=Af9 (nv l) s k hs
   have hlen:(List.replicate (k+1) (0:Av)++hi).length=l.length:=by simp[h1];omega
   have gX:(l.map dB).getD k D.nil=D.int ((nv l / B ^ k % B:Nat):Int):=by rw[Aj (List.getElem?_eq_getElem hk),← gx];rfl
   have b64:(2:Int) ^ (min (Int.toNat 32) (IntKind.bits .u64))=4294967296:=by decide
   have rc:=ih (BitVec.ofNat 32 (((nv l / B ^ (k+1) % B)*B+nv l / B ^ k % B) / 2 ^ s % B)::hi) ⟨by omega,by simp[h1];omega,by
    rw[nv,ofNat_lt (Nat.mod_lt _ Cd),h2,← hd,Nat.pow_succ,← Nat.div_div_eq_div_mul]
    exact Nat.mod_add_div _ _⟩
   simp only[W6,show ((k+1:Nat):Int)-1=(k:Int) by omega,As,gX,hlen,Akl hs,b64]
   generalize nv l / B ^ k % B=x at *
   generalize nv l / B ^ (k+1) % B=y at *
   have hxB:=xl
   have hyB:=yl
   rw[Be]at hxB hyB
   have t1:IntKind.wrap .u64 ((y:Int)*4294967296)=((y*4294967296:Nat):Int):=by rw[A_ (by omega) (by omega)];omega
   rw[t1,A_ (x:=(x:Int)) (by omega) (by omega),BN hyB hxB,Air]
   have t4:IntKind.wrap .u32 (((y*4294967296+x) / 2 ^ s:Nat):Int)=(((y*B+x) / 2 ^ s % B:Nat):Int):=by
    rw[show y*4294967296+x=y*B+x from rfl]
    generalize (y*B+x) / 2 ^ s=T
    rw[IntKind.wrap_u32,Be];omega
   have hTl:=Nat.mod_lt ((y*B+x) / 2 ^ s) Cd
   have Ea:((List.replicate (k+1) 0++hi).map dB).set k (D.int (((y*B+x) / 2 ^ s % B:Nat):Int))=(List.replicate k 0++(BitVec.ofNat 32 ((y*B+x) / 2 ^ s % B)::hi)).map dB:=by
    rw[Dy hTl,map_set,List.replicate_succ',List.append_assoc,List.set_append_right _ _ (by simp)];simp
   rw[t4,Ea,Ap (by omega) (by omega)]
   refine Ae (Ba (by decide) (Ae (Ae (At (by rw[A_ (by omega) (by omega)];omega) (Ae (Ae (Ae (Ae ?_))))))))
   exact rc)
  (l.length+1) l.length [] (by omega) ⟨by omega,by simp,by
   rw[Nat.div_eq_of_lt (Nat.lt_of_le_of_lt (Nat.div_le_self _ _) (Ck l))];rfl⟩
 rw[List.append_nil,Nat.div_eq_of_lt (Ck l),Nat.zero_mod]at key
 have e0:(List.replicate l.length (0:Av)).map dB=List.replicate l.length (D.int 0):=by rw[List.map_replicate];rfl
 rw[e0]at key
 rw[Ap (by omega) (by omega)]
 exact key
theorem AfC{U D D2 U3 p g:Nat}(hD:D<(D2+1)*p)(hU:U3*p≤U)(hg:g*D2≤U3)(hg1:g≤D2+1)(hD0:0<D):g≤U / D+1:=by
 rcases Nat.eq_zero_or_pos g with h0 | h0
 · rw[h0];exact Nat.zero_le _
 obtain ⟨h,rfl⟩ : ∃ h,g=h+1:=⟨g-1,by omega⟩
 refine Nat.succ_le_succ ((Nat.le_div_iff_mul_le hD0).2 ?_)
 have h1:h*D≤h*((D2+1)*p):=Nat.mul_le_mul_left _ (Nat.le_of_lt hD)
 have h2:h*(D2+1)≤(h+1)*D2:=by rw[Nat.mul_add,Nat.add_mul];omega
 calc h*D≤h*((D2+1)*p):=h1
  _=h*(D2+1)*p:=by rw[Nat.mul_assoc]
  _≤(h+1)*D2*p:=Nat.mul_le_mul_right _ h2
  _≤U3*p:=Nat.mul_le_mul_right _ hg
  _≤U:=hU
theorem AfB{U D D2 U3 p g:Nat}(hD:D2*p≤D)(hU:U<(U3+1)*p)(hgt:U3<g*D2)(hD0:0<D):U / D<g:=by
 rw[Nat.div_lt_iff_lt_mul hD0]
 calc U<(U3+1)*p:=hU
  _≤g*D2*p:=Nat.mul_le_mul_right _ hgt
  _=g*(D2*p):=Nat.mul_assoc _ _ _
  _≤g*D:=Nat.mul_le_mul_left _ hD
theorem QH(xs ds:List Av)(n:Nat)(hd:ds.length=n+2)(hx:xs.length=n+3)(hn:n≤1000000)(htop:B ^ (n+2)≤2*nv ds)(hU:nv xs<B*nv ds) :
  ∃ g:Nat,Sp 337 [dL xs,dL ds] [.int (g:Int)]∧nv xs / nv ds≤g∧g≤nv xs / nv ds+1∧g<B:=by
 have xl:=Ck xs
 have dl:=Ck ds
 rw[hx]at xl
 rw[hd]at dl
 have hp:=Bp n
 have a0:=D0 xs n (by omega)
 have a1:=D0 xs (n+1) (by omega)
 have a2:=D0 xs (n+2) (by omega)
 have d0:=D0 ds n (by omega)
 have d1:=D0 ds (n+1) (by omega)
 have gx0:(xs.map dB).getD n D.nil=D.int ((nv xs / B ^ n % B:Nat):Int):=by rw[Aj (List.getElem?_eq_getElem (show n<xs.length by omega)),← a0];rfl
 have gx1:(xs.map dB).getD (n+1) D.nil=D.int ((nv xs / B ^ (n+1) % B:Nat):Int):=by rw[Aj (List.getElem?_eq_getElem (show n+1<xs.length by omega)),← a1];rfl
 have gx2:(xs.map dB).getD (n+2) D.nil=D.int ((nv xs / B ^ (n+2) % B:Nat):Int):=by rw[Aj (List.getElem?_eq_getElem (show n+2<xs.length by omega)),← a2];rfl
 have gd0:(ds.map dB).getD n D.nil=D.int ((nv ds / B ^ n % B:Nat):Int):=by rw[Aj (List.getElem?_eq_getElem (show n<ds.length by omega)),← d0];rfl
 have gd1:(ds.map dB).getD (n+1) D.nil=D.int ((nv ds / B ^ (n+1) % B:Nat):Int):=by rw[Aj (List.getElem?_eq_getElem (show n+1<ds.length by omega)),← d1];rfl
 clear a0 a1 a2 d0 d1
 generalize nv xs=U at *
 generalize nv ds=D at *
 have eB2:B ^ (n+2)=B ^ n*(B*B):=by rw[Nat.pow_add];rfl
 have eB3:B ^ (n+3)=B ^ n*(B*B*B):=by rw[Nat.pow_add];rfl
 have e1U:U / B ^ (n+1)=U / B ^ n / B:=by rw[Nat.pow_succ,Nat.div_div_eq_div_mul]
 have e2U:U / B ^ (n+2)=U / B ^ n / B / B:=by rw[eB2,Nat.div_div_eq_div_mul,Nat.div_div_eq_div_mul]
 have e1D:D / B ^ (n+1)=D / B ^ n / B:=by rw[Nat.pow_succ,Nat.div_div_eq_div_mul]
 rw[e1U]at gx1
 rw[e2U]at gx2
 rw[e1D]at gd1
 have hD1:D / B ^ n*B ^ n≤D:=Nat.div_mul_le_self _ _
 have hD2:D<(D / B ^ n+1)*B ^ n:=by have:=Nat.lt_mul_div_succ D hp;rwa[Nat.mul_comm]at this
 have hU1:U / B ^ n*B ^ n≤U:=Nat.div_mul_le_self _ _
 have hU2:U<(U / B ^ n+1)*B ^ n:=by have:=Nat.lt_mul_div_succ U hp;rwa[Nat.mul_comm]at this
 have hU3:U / B ^ n<B*B*B:=by rw[Nat.div_lt_iff_lt_mul hp,Nat.mul_comm];rwa[eB3]at xl
 have hDs:D / B ^ n<B*B:=by rw[Nat.div_lt_iff_lt_mul hp,Nat.mul_comm];rwa[eB2]at dl
 have hDt:B*B≤2*(D / B ^ n)+1:=by
  have h1:B ^ n*(B*B)<B ^ n*(2*(D / B ^ n)+2):=by
   rw[← eB2,Nat.mul_add]
   have:B ^ n*(2*(D / B ^ n))=2*(D / B ^ n*B ^ n):=by rw[Nat.mul_left_comm,Nat.mul_comm (B ^ n)]
   rw[this]
   have h3:D<D / B ^ n*B ^ n+B ^ n:=by rwa[Nat.add_mul,Nat.one_mul]at hD2
   omega
  have:=Nat.lt_of_mul_lt_mul_left h1
  omega
 have hD0:0<D:=by
  rcases Nat.eq_zero_or_pos D with h | h
  · rw[h]at hU;omega
  · exact h
 have hUD:U / B ^ n<B*(D / B ^ n+1):=by
  rw[Nat.div_lt_iff_lt_mul hp,Nat.mul_assoc]
  exact Nat.lt_trans hU (Nat.mul_lt_mul_of_pos_left hD2 Cd)
 have hqB:U / D<B:=by rw[Nat.div_lt_iff_lt_mul hD0];exact hU
 generalize hU3e:U / B ^ n=U3 at *
 generalize hD2e:D / B ^ n=D2 at *
 have x0l:=Nat.mod_lt U3 Cd
 have x1l:=Nat.mod_lt (U3 / B) Cd
 have x2l:U3 / B / B<B:=by rw[Nat.div_div_eq_div_mul,Nat.div_lt_iff_lt_mul (by decide)];rwa[← Nat.mul_assoc]
 have y0l:=Nat.mod_lt D2 Cd
 have y1l:D2 / B<B:=by rw[Nat.div_lt_iff_lt_mul Cd];exact hDs
 rw[Nat.mod_eq_of_lt x2l]at gx2
 rw[Nat.mod_eq_of_lt y1l]at gd1
 have eU:U3=U3 % B+B*(U3 / B % B+B*(U3 / B / B)):=by
  rw[Nat.mod_add_div,Nat.mod_add_div]
 have eD:D2=D2 % B+B*(D2 / B):=(Nat.mod_add_div _ _).symm
 generalize U3 % B=x0 at *
 generalize U3 / B % B=x1 at *
 generalize U3 / B / B=x2 at *
 generalize D2 % B=y0 at *
 generalize D2 / B=y1 at *
 have y1g:2147483648≤y1:=by rw[Be]at *; omega
 have x2y:x2≤y1:=by rw[Be]at *; omega
 have fin : ∀ g:Nat,g<B→U / D≤g→g*D2≤U3→U / D≤g∧g≤U / D+1∧g<B:=fun g h1 h2 h3 =>
  ⟨h2,AfC hD2 hU1 h3 (by rw[Be]at *; omega) hD0,h1⟩
 have eH:U3=(x2*B+x1)*B+x0:=by rw[eU,Nat.add_mul,Nat.mul_add,Nat.mul_comm B (B*x2),Nat.mul_comm B x2,Nat.mul_comm B x1];omega
 have b64:(2:Int) ^ (min (Int.toNat 32) (IntKind.bits .u64))=4294967296:=by decide
 have wy1:IntKind.wrap .u64 (y1:Int)=(y1:Int):=by rw[Be]at *; exact A_ (by omega) (by omega)
 have wy0:IntKind.wrap .u64 (y0:Int)=(y0:Int):=by rw[Be]at *; exact A_ (by omega) (by omega)
 have wx0:IntKind.wrap .u64 (x0:Int)=(x0:Int):=by rw[Be]at *; exact A_ (by omega) (by omega)
 have wx1:IntKind.wrap .u64 (x1:Int)=(x1:Int):=by rw[Be]at *; exact A_ (by omega) (by omega)
 have wx2:IntKind.wrap .u64 (x2:Int)=(x2:Int):=by rw[Be]at *; exact A_ (by omega) (by omega)
 have i1:IntKind.wrap .i64 (((n+2:Nat):Int)-1)=((n+1:Nat):Int):=by rw[Ap (by omega) (by omega)];omega
 have i2:IntKind.wrap .i64 (((n+2:Nat):Int)-2)=((n:Nat):Int):=by rw[Ap (by omega) (by omega)];omega
 have loop : ∀ (m N g r:Nat),g<m→g*y1+r=x2*B+x1→U / D≤g→r<B →
   ∃ y:Nat,Tw (G_ N m (dL xs) (dL ds) ((n+2:Nat):Int) (g:Int) (r:Int)) [.int (y:Int)]∧U / D≤y∧y≤U / D+1∧y<B:=by
  intro m
  induction m with
  | zero=>intro N g r h;omega
  | succ m ih =>
   intro N g r hm he hq hr
   have gl:g<18446744073709551616:=by
     have:g*1≤g*y1:=Nat.mul_le_mul_left _ (by omega)
     rw[Be]at *; omega
   have e1:IntKind.wrap .u64 ((r:Int)+(y1:Int))=((r+y1:Nat):Int):=by rw[Be]at *; rw[A_ (by omega) (by omega)];omega
   have stp:0<g→U / D≤g-1→∃ y:Nat,Tw (.br (decide (0≤((n+1:Nat):Int))) (.br (decide (((n+1:Nat):Int)<((n+2:Nat):Int))) (.br (decide ((0:Int)≤32)) (.br (decide (¬ (((r+y1) / 4294967296:Nat):Int)=0)) (.ret [.int (IntKind.wrap .u64 ((g:Int)-1))]) (G_ N m (dL xs) (dL ds) ((n+2:Nat):Int) (IntKind.wrap .u64 ((g:Int)-1)) ((r+y1:Nat):Int))) .fail) .fail) .fail) [.int (y:Int)]∧U / D≤y∧y≤U / D+1∧y<B:=by
     intro h0 hq'
     obtain ⟨h,rfl⟩ : ∃ h,g=h+1:=⟨g-1,by omega⟩
     simp only[Nat.add_sub_cancel]at hq'
     have ew:IntKind.wrap .u64 (((h+1:Nat):Int)-1)=(h:Int):=by rw[A_ (by omega) (by omega)];omega
     rw[ew]
     have he':h*y1+(r+y1)=x2*B+x1:=by rw[← he,Nat.add_mul];omega
     by_cases hb:r+y1<B
     · obtain ⟨y,t1,t2⟩:=ih N h (r+y1) (by omega) he' hq' hb
       refine ⟨y,Ae (Ae (Ba (by decide) (Am ?_ t1))),t2⟩
       rw[Be]at hb;omega
     · have hlt:h<B:=by
         have h3:x2*B≤y1*B:=Nat.mul_le_mul_right _ x2y
         have h4:h*y1<B*y1:=by rw[Nat.mul_comm B y1];omega
         exact Nat.lt_of_mul_lt_mul_right h4
       refine ⟨h,Ae (Ae (Ba (by decide) (At ?_ (Ac rfl)))),fin h hlt hq' ?_⟩
       · rw[Be]at hb;omega
       · have h5:h*y0≤B*B:=Nat.mul_le_mul (by omega) (by omega)
         have h6:B*B≤(r+y1)*B:=Nat.mul_le_mul_right _ (by omega)
         rw[eH,← he',eD,Nat.mul_add,Nat.add_mul,Nat.mul_left_comm h B y1,Nat.mul_comm B (h*y1)]
         omega
   simp only[BI,As,hd,hx,i1,i2,gx0,gd0,gd1,wy1,wy0,wx0,e1,Ze]
   by_cases hgB:g<B
   · have c0:((g / 4294967296:Nat):Int)=0:=by rw[Be]at hgB;omega
     have hrB:=hr
     have x0B:=x0l
     rw[Be]at hrB x0B
     have t1:IntKind.wrap .u64 ((r:Int)*4294967296)=((r*4294967296:Nat):Int):=by rw[A_ (by omega) (by omega)];omega
     have gy:g*y0≤(B-1)*(B-1):=Nat.mul_le_mul (by omega) (by omega)
     have t2:IntKind.wrap .u64 ((g:Int)*(y0:Int))=((g*y0:Nat):Int):=by rw[← Int.natCast_mul];rw[Be]at gy;exact A_ (by omega) (by omega)
     rw[b64,t1,BN hrB x0B,t2,c0]
     by_cases ht:r*B+x0<g*y0
     · have hlow:U / D<g:=AfB hD1 hU2 (by
         rw[eH,← he,eD,Nat.mul_add,Nat.add_mul,Nat.mul_left_comm g B y1,Nat.mul_comm B (g*y1)];omega) hD0
       obtain ⟨y,s1,s2⟩:=stp (Nat.lt_of_le_of_lt (Nat.zero_le _) hlow) (Nat.le_sub_one_of_lt hlow)
       refine ⟨y,Ba (by decide) (Am (by omega) (Ae (Ae (Ba (by decide) (Ae (Ae (At ?_ s1))))))),s2⟩
       rw[Be]at ht;omega
     · refine ⟨g,Ba (by decide) (Am (by omega) (Ae (Ae (Ba (by decide) (Ae (Ae (Am ?_ (Ac rfl)))))))),fin g hgB hq ?_⟩
       · rw[Be]at ht;omega
       · rw[eH,← he,eD,Nat.mul_add,Nat.add_mul,Nat.mul_left_comm g B y1,Nat.mul_comm B (g*y1)];omega
   · obtain ⟨y,s1,s2⟩:=stp (by rw[Be]at hgB;omega) (by omega)
     refine ⟨y,Ba (by decide) (At ?_ s1),s2⟩
     rw[Be]at hgB;omega
 have hH:(x2*B+x1) / y1*y1+(x2*B+x1) % y1=x2*B+x1:=by rw[Nat.mul_comm];exact Nat.div_add_mod _ _
 have hr0:(x2*B+x1) % y1<B:=Nat.lt_trans (Nat.mod_lt _ (by omega)) y1l
 have hq0:U / D≤(x2*B+x1) / y1:=by
  rw[Nat.le_div_iff_mul_le (by omega)]
  have h1:U / D*D≤U:=Nat.div_mul_le_self _ _
  have h2:U / D*(D2*B ^ n)<(U3+1)*B ^ n:=Nat.lt_of_le_of_lt (Nat.le_trans (Nat.mul_le_mul_left _ hD1) h1) hU2
  rw[← Nat.mul_assoc]at h2
  have h3:=Nat.lt_of_mul_lt_mul_right h2
  have h4:U / D*(B*y1)≤U / D*D2:=Nat.mul_le_mul_left _ (by omega)
  have h5:U / D*y1*B<(x2*B+x1+1)*B:=by
   have:U / D*(B*y1)=U / D*y1*B:=by rw[Nat.mul_comm B y1,Nat.mul_assoc]
   rw[← this,Nat.add_mul,Nat.one_mul]
   omega
  have:=Nat.lt_of_mul_lt_mul_right h5
  omega
 obtain ⟨g,l1,l2⟩:=loop ((x2*B+x1) / y1+1) ((x2*B+x1) / y1+1) ((x2*B+x1) / y1) ((x2*B+x1) % y1) (by omega) hH hq0 hr0
 refine ⟨g,Ag ((x2*B+x1) / y1+1) (JV _ _ _) ?_,l2⟩
 have x1B:=x1l
 have x2B:=x2l
 rw[Be]at x1B x2B
 have t1:IntKind.wrap .u64 ((x2:Int)*4294967296)=((x2*4294967296:Nat):Int):=by rw[A_ (by omega) (by omega)];omega
 have hne:decide ¬ (y1:Int)=0=true:=by simp;omega
 have eq1:IntKind.wrap .u64 (Int.tdiv ((x2*4294967296+x1:Nat):Int) (y1:Int))=(((x2*B+x1) / y1:Nat):Int):=by
  rw[show Int.tdiv ((x2*4294967296+x1:Nat):Int) (y1:Int)=(((x2*B+x1) / y1:Nat):Int) from rfl]
  have h1:(x2*B+x1) / y1≤x2*B+x1:=Nat.div_le_self _ _
  generalize (x2*B+x1) / y1=Q at h1 ⊢
  rw[Be]at h1
  exact A_ (by omega) (by omega)
 have eq2:Int.tmod ((x2*4294967296+x1:Nat):Int) (y1:Int)=(((x2*B+x1) % y1:Nat):Int):=rfl
 simp only[As,hd,hx,i1,gx1,gx2,gd1,wy1,wx1,wx2,b64,t1,BN x2B x1B,eq1,eq2]
 exact Ae (Ae (Ba (by decide) (Ae (Ae (Ae (Ae (Ae (Ae (Ae (Ae l1))))))))))
open Go.RowKit
def bor(x y c:Int):Int:=if x<y+c then 1 else 0
theorem AhS(x y c:Int)(hx1:0≤x)(hx2:x<4294967296)(hy1:0≤y)(hy2:y<4294967296)(hc1:0≤c)(hc2:c≤1) :
  bits BinOp.or IntKind.u32 (bits BinOp.and IntKind.u32 (bits BinOp.xor IntKind.u32 IntKind.u32.max x) y) (bits BinOp.and IntKind.u32 (bits BinOp.xor IntKind.u32 IntKind.u32.max (bits BinOp.xor IntKind.u32 x y)) ((x-y-c) % 4294967296)) / 2147483648=bor x y c:=by
 obtain ⟨X,rfl⟩:=Int.eq_ofNat_of_zero_le hx1
 obtain ⟨Y,rfl⟩:=Int.eq_ofNat_of_zero_le hy1
 obtain ⟨C,rfl⟩:=Int.eq_ofNat_of_zero_le hc1
 have hD0:0≤((X:Int)-Y-C) % 4294967296:=by omega
 obtain ⟨D,hD⟩:=Int.eq_ofNat_of_zero_le hD0
 have hm:IntKind.u32.max=((4294967295:Nat):Int):=by decide
 have e1:(4294967295^^^X)<2 ^ 32:=Nat.xor_lt_two_pow (by omega) (by omega)
 have e2:(X^^^Y)<2 ^ 32:=Nat.xor_lt_two_pow (by omega) (by omega)
 have e3:(4294967295^^^(X^^^Y))<2 ^ 32:=Nat.xor_lt_two_pow (by omega) e2
 have e4:((4294967295^^^X)&&&Y)<2 ^ 32:=Nat.and_lt_two_pow _ (by omega)
 have e5:((4294967295^^^(X^^^Y))&&&D)<2 ^ 32:=Nat.and_lt_two_pow _ (by omega)
 rw[hD,hm,u32_xor_nat 4294967295 X (by omega) (by omega),u32_xor_nat X Y (by omega) (by omega),u32_xor_nat 4294967295 _ (by omega) (by omega),u32_and_nat _ Y (by omega) (by omega),u32_and_nat _ D (by omega) (by omega),u32_or_nat _ _ (by omega) (by omega)]
 have:=Aeh X Y D C (by omega) (by omega) (by omega) (by rw[← hD])
 rw[this];unfold bor
 by_cases h:X<Y+C
 · rw[if_pos h,if_pos (by omega)]
 · rw[if_neg h,if_neg (by omega)]
set_option maxHeartbeats 400000 in
theorem Afv(x y c:Int)(w:World)(hx:0≤x∧x<4294967296)(hy:0≤y∧y<4294967296)(hc:0≤c∧c≤1) :
  Calls Tryz.prog 333 #[.int .u32 x,.int .u32 y,.int .u32 c] w fun e w'=>e = .returned (.tuple #[.int .u32 ((x+y+c) % 4294967296),.int .u32 ((x+y+c) / 4294967296)])∧w=w':=by
 obtain ⟨hx1,hx2⟩:=hx
 obtain ⟨hy1,hy2⟩:=hy
 obtain ⟨hc1,hc2⟩:=hc
 go_enter Tryz.func333,Tryz.ntmps333
 go_wp2
 go_ret2
 exact ⟨rfl,rfl⟩
set_option maxHeartbeats 400000 in
theorem ZJ(x y c:Int)(w:World)(hx:0≤x∧x<4294967296)(hy:0≤y∧y<4294967296)(hc:0≤c∧c≤1) :
  Calls Tryz.prog 334 #[.int .u32 x,.int .u32 y,.int .u32 c] w fun e w'=>e = .returned (.tuple #[.int .u32 ((x-y-c) % 4294967296),.int .u32 (bor x y c)])∧w=w':=by
 obtain ⟨hx1,hx2⟩:=hx
 obtain ⟨hy1,hy2⟩:=hy
 obtain ⟨hc1,hc2⟩:=hc
 go_enter Tryz.func334,Tryz.ntmps334
 go_wp2
 go_ret2
 exact ⟨by rw[← AhS x y c hx1 hx2 hy1 hy2 hc1 hc2];rfl,rfl⟩
def iB(b:Av):Int:=(b.toNat:Int)
def SlL(w:World)(v:Value)(l:List Av):Prop:=SlI w v .u32 (l.map iB)
def OwL(w0 w:World)(G cap:Nat)(l:List Av):Prop:=Own w0 w 180 1 l.length (.slice (some ⟨G,0,none⟩) l.length cap) ((l.map iB).map (.int .u32))
theorem OwL.cell {w0 w:World} {G cap:Nat} {l:List Av} (h:OwL w0 w G cap l) (i:Nat) (hi:i<l.length):w.cell? ⟨G,i,none⟩=some (.int .u32 ((l[i]).toNat:Int))∧w.frozen? ⟨G,i,none⟩=false∧w0.heap.size≤G∧G<w.heap.size:=by
 obtain ⟨g,cap',hv,h1,h2,h3,h4,h5,h6⟩:=h.at_ (by omega)
 injection hv with hA _ hc
 cases hA
 exact ⟨h4 i _ (by simp[hi,iB]),h5 i,h1,h2⟩
theorem OwL.set {w0 w:World} {G cap:Nat} {l:List Av} (h:OwL w0 w G cap l) (i:Nat) (hi:i<l.length) (x:Av):OwL w0 (w.setCell ⟨G,i,none⟩ (.int .u32 (x.toNat:Int))) G cap (l.set i x):=by
 obtain ⟨g,cap',hv,h1,h2,h3,h4,h5,h6⟩:=h.at_ (by omega)
 injection hv with hA _ hc
 cases hA
 have:=h6 i (.int .u32 (x.toNat:Int))
 unfold OwL
 rw[List.length_set,List.map_set,List.map_set]
 exact this
theorem Qf(w:World)(G:Nat):w.grownBy w (some G):=World.grownBy.refl w _
def Ain(w0 w:World)(lo xs hi ds:List Av)(G cap g:Nat)(e:Ending)(w':World):Prop :=
 ∃ (out:List Av) (b:Nat),b≤1∧e = .returned (.bool (!(b == 0)))∧out.length=xs.length∧nv out+g*nv ds=nv xs+B ^ xs.length*b∧OwL w0 w' G cap (lo++out++hi)∧w.grownBy w' (some G)
theorem JM{lo out xs hi:List Av}{i:Nat}(h:out.length=i)(hi':i<xs.length)(x:Av):(lo++(out++xs.drop i)++hi).set (lo.length+i) x=lo++((out++[x])++xs.drop (i+1))++hi:=by
 rw[List.append_assoc,List.set_append_right _ _ (by omega),Nat.add_sub_cancel_left,List.set_append_left _ _ (by simp;omega),List.set_append_right _ _ (by omega),h,Nat.sub_self,List.drop_eq_getElem_cons hi',List.set_cons_zero]
 simp
theorem JL{lo out xs hi:List Av}{i:Nat}(h:out.length=i)(hi':i<xs.length)(hk:lo.length+i<(lo++(out++xs.drop i)++hi).length):(lo++(out++xs.drop i)++hi)[lo.length+i]=xs[i]:=by
 have:(lo++(out++xs.drop i)++hi)[lo.length+i]? = some xs[i]:=by
  rw[List.append_assoc,List.getElem?_append_right (by omega),Nat.add_sub_cancel_left,List.getElem?_append_left (by simp;omega),List.getElem?_append_right (by omega),h,Nat.sub_self]
  simp[hi']
 rw[List.getElem?_eq_getElem hk]at this
 exact Option.some.inj this
theorem Kc(l:List Av)(i:Nat)(hi:i<l.length):nv (l.take (i+1))=nv (l.take i)+B ^ i*(l[i]).toNat:=by
 rw[List.take_succ_eq_append_getElem hi,Kb,List.length_take,Nat.min_eq_left (by omega)]
theorem Aej{O g D U P c b x t X z b':Nat}(h:O+g*D=U+P*(c+b))(ht:t=g*x+c)(hz:X+B*b'=z+t % B+b):(O+P*z)+g*(D+P*x)=(U+P*X)+P*B*(t / B+b'):=by
 have e1:P*(X+B*b')=P*(z+t % B+b):=by rw[hz]
 have e2:t % B+B*(t / B)=t:=Nat.mod_add_div _ _
 have e3:P*(t % B+B*(t / B))=P*(g*x+c):=by rw[e2,ht]
 have e4:g*(P*x)=P*(g*x):=Nat.mul_left_comm _ _ _
 simp only[Nat.mul_add,Nat.mul_assoc]at *
 omega
theorem Af0{X t b:Nat}(hX:X<B)(hb:b≤1) : ∃ z b':Nat,z<B∧b'≤1∧X+B*b'=z+t % B+b∧(((X:Int)-((t % B:Nat):Int)-(b:Int)) % 4294967296=(z:Int))∧bor (X:Int) ((t % B:Nat):Int) (b:Int)=(b':Int):=by
 have:=Nat.mod_lt t Cd
 generalize t % B=s at *
 rw[Be]at *
 by_cases h:X<s+b
 · exact ⟨X+4294967296-s-b,1,by omega,by omega,by omega,by omega,by unfold bor;rw[if_pos (by omega)];rfl⟩
 · exact ⟨X-s-b,0,by omega,by omega,by omega,by omega,by unfold bor;rw[if_neg (by omega)];rfl⟩
set_option maxHeartbeats 2000000 in
theorem Adq(w0 w:World)(lo xs hi ds:List Av)(G cap c' g:Nat)(v:Value)(hxs:xs.length=ds.length+1)(hlen:(lo++xs++hi).length≤1000000000)(hc':xs.length≤c')(hown:OwL w0 w G cap (lo++xs++hi))(hds : ∀ w',w.grownBy w' (some G)→SlL w' v ds)(hg:g<B) :
  Calls Tryz.prog 338 #[.slice (some ⟨G,lo.length,none⟩) xs.length c',v,.int .u64 g] w (Ain w0 w lo xs hi ds G cap g):=by
 obtain ⟨A,cd,rfl,hcd,_⟩:=(hds w (Qf w G)).form
 have hll:lo.length+xs.length+hi.length≤1000000000:=by have:=hlen;simp at this;omega
 rw[List.length_map]at hds hcd ⊢
 have HO:=Lib.hid hown
 have HD:=Lib.hid hds
 have HG:=Lib.hid hg
 rw[Be]at hg
 clear hown hds hlen
 generalize hn:ds.length=n at *
 rw[hxs]
 go_enter Tryz.func338,Tryz.ntmps338
 go_wp2_with fail
 go_loopw [7,8,15] (fun cv bv iv wr=>∃ (k c b:Nat) (out:List Av),k≤n∧iv = .int .i64 k∧cv = .int .u64 c∧bv = .int .u32 b∧out.length=k∧c<B∧b≤1∧nv out+g*nv (ds.take k)=nv (xs.take k)+B ^ k*(c+b)∧OwL w0 wr G cap (lo++(out++xs.drop k)++hi)∧w.grownBy wr (some G)) (fun _ _ iv _=>n-(intOf iv).toNat)
 case atStart=>exact ⟨0,0,0,[],Nat.zero_le _,rfl,rfl,rfl,rfl,Cd,by omega,by simp[nv],by simpa using HO.out,Qf w G⟩
 case round =>
  obtain ⟨k,c,b,out,hk,rfl,rfl,rfl,ho,hc,hb,heq,hown,hgr⟩:=hrel
  have HQ:=Lib.hid heq
  have HOW:=Lib.hid hown
  have HGR:=Lib.hid hgr
  have HC:=Lib.hid hc
  rw[Be]at hc
  clear heq hown hgr
  by_cases hlt:k<n
  · have hkx:k<xs.length:=by omega
    have hkl:lo.length+k<(lo++(out++xs.drop k)++hi).length:=by simp;omega
    obtain ⟨hcell,hfk,hG1,hG2⟩:=HOW.out.cell (lo.length+k) hkl
    rw[JL ho hkx hkl]at hcell
    obtain ⟨_,_,hvq,_,hclq⟩:=(HD.out wr HGR.out).form
    injection hvq with hvq1 hvq2 hvq3
    subst hvq1
    subst hvq3
    clear hvq2
    obtain ⟨ad,rfl,hb1,hce⟩:=hclq k (by simp;omega)
    have hkd:k<ds.length:=by omega
    have hdk:((ds.map iB)[k]'(by simp;omega))=((ds[k]).toNat:Int):=by simp[iB]
    rw[hdk]at hce
    have xB:=Fa xs[k]
    have dB_:=Fa ds[k]
    have st:=fun (z:Av)=>HOW.out.set (lo.length+k) hkl z
    have ws:=fun (z:Av)=>JM (lo:=lo) (hi:=hi) ho hkx z
    have ht1:=Kc ds k hkd
    have ht2:=Kc xs k hkx
    generalize (xs[k]).toNat=X at *
    generalize (ds[k]).toNat=Y at *
    have hgy:g*Y≤(B-1)*(B-1):=Nat.mul_le_mul (by rw[Be];omega) (by omega)
    obtain ⟨z,b',hz,hb',hzz,hm,hbr⟩:=Af0 (t:=g*Y+c) xB hb
    have HST:=Lib.hid (Aej HQ.out rfl hzz)
    have HS:=Lib.hid (st (BitVec.ofNat 32 z))
    have HW:=Lib.hid (ws (BitVec.ofNat 32 z))
    have HT1:=Lib.hid ht1
    have HT2:=Lib.hid ht2
    have HZ:=Lib.hid hz
    have htB:(g*Y+c) / B<B:=by rw[Nat.div_lt_iff_lt_mul Cd,Be]at *; omega
    have HTB:=Lib.hid htB
    rw[Be]at hgy xB dB_ hz htB
    have hp1:0≤(g:Int)*(Y:Int):=by rw[← Int.natCast_mul];exact Int.natCast_nonneg _
    have hp2:(g:Int)*(Y:Int)≤18446744065119617025:=by rw[← Int.natCast_mul];omega
    have ec:(((g*Y+c) % B:Nat):Int)=((g:Int)*(Y:Int)+(c:Int)) % 4294967296:=by rw[Int.natCast_emod,Int.natCast_add,Int.natCast_mul];rfl
    rw[ec]at hm hbr
    have HM:=Lib.hid hm
    have HB:=Lib.hid hbr
    clear hclq hdk st ws ht1 ht2 hzz htB hgy ec hm hbr
    go_wp2_with (go_at_call 334;refine (ZJ (X:Int) (((g:Int)*(Y:Int)+(c:Int)) % 4294967296) (b:Int) _ ⟨by omega,by omega⟩ ⟨by omega,by omega⟩ ⟨by omega,by omega⟩).mono ?_;rw[HM.out,HB.out];rintro e w' ⟨rfl,rfl⟩)
    go_roundw
    case rel =>
      have hs:=HS.out
      rw[HW.out,ofNat_lt HZ.out]at hs
      refine ⟨k+1,(g*Y+c) / B,b',out++[BitVec.ofNat 32 z],by omega,by go_num,?_,rfl,by simp[ho],HTB.out,hb',?_,hs,Ul HGR.out _ _ _⟩
      · congr 1
      · rw[Kb,ho,ofNat_lt HZ.out,HT1.out,HT2.out,Nat.pow_succ];exact HST.out
    case measure=>(simp[intOf] <;> omega)
  · have hkn:k=n:=by omega
    subst hkn
    have hkx:k<xs.length:=by omega
    have hkl:lo.length+k<(lo++(out++xs.drop k)++hi).length:=by simp;omega
    obtain ⟨hcell,hfk,hG1,hG2⟩:=HOW.out.cell (lo.length+k) hkl
    rw[JL ho hkx hkl]at hcell
    have xB:=Fa xs[k]
    have st:=fun (z:Av)=>HOW.out.set (lo.length+k) hkl z
    have ws:=fun (z:Av)=>JM (lo:=lo) (hi:=hi) ho hkx z
    have ht2:=Kc xs k hkx
    generalize (xs[k]).toNat=X at *
    obtain ⟨z,b',hz,hb',hzz,hm,hbr⟩:=Af0 (t:=c) xB hb
    have HST:=Lib.hid (Aej (x:=0) (t:=c) HQ.out (by simp) hzz)
    have HS:=Lib.hid (st (BitVec.ofNat 32 z))
    have HW:=Lib.hid (ws (BitVec.ofNat 32 z))
    have HT2:=Lib.hid ht2
    have HZ:=Lib.hid hz
    have ec:c % B=c:=Nat.mod_eq_of_lt HC.out
    rw[ec]at hm hbr
    rw[Be]at xB hz
    have HM:=Lib.hid hm
    have HB:=Lib.hid hbr
    clear st ws ht2 hzz ec hm hbr
    go_wp2_with (go_at_call 334;refine (ZJ (X:Int) (c:Int) (b:Int) _ ⟨by omega,by omega⟩ ⟨by omega,by omega⟩ ⟨by omega,by omega⟩).mono ?_;rw[HM.out,HB.out];rintro e w' ⟨rfl,rfl⟩)
    go_ret
    have hs:=HS.out
    rw[HW.out,ofNat_lt HZ.out,List.drop_of_length_le (by omega),List.append_nil]at hs
    refine ⟨out++[BitVec.ofNat 32 z],b',hb',?_,by simp[ho,hxs],?_,hs,Ul HGR.out _ _ _⟩
    · rcases Nat.le_one_iff_eq_zero_or_eq_one.1 hb' with h | h <;> subst h <;> rfl
    · have h1:=HST.out
      rw[Nat.div_eq_of_lt HC.out,Nat.mul_zero,Nat.add_zero,Nat.zero_add,← HT2.out,← Nat.pow_succ,List.take_of_length_le (by omega),List.take_of_length_le (by omega)]at h1
      rw[Kb,ho,ofNat_lt HZ.out,hxs];exact h1
def Aim(w0 w:World)(lo xs hi ds:List Av)(G cap:Nat)(e:Ending)(w':World):Prop :=
 ∃ (out:List Av) (b:Nat) (v:Value),e = .returned v∧out.length=xs.length∧nv out+B ^ xs.length*b=nv xs+nv ds∧OwL w0 w' G cap (lo++out++hi)∧w.grownBy w' (some G)
theorem AdR{O D U P c X Y:Nat}(h:O+P*c=U+D):(O+P*((X+Y+c) % B))+P*B*((X+Y+c) / B)=(U+P*X)+(D+P*Y):=by
 have e2:(X+Y+c) % B+B*((X+Y+c) / B)=X+Y+c:=Nat.mod_add_div _ _
 have e3:P*((X+Y+c) % B+B*((X+Y+c) / B))=P*(X+Y+c):=by rw[e2]
 simp only[Nat.mul_add,Nat.mul_assoc]at *
 omega
set_option maxHeartbeats 2000000 in
theorem Adj(w0 w:World)(lo xs hi ds:List Av)(G cap c':Nat)(v:Value)(hxs:xs.length=ds.length+1)(hlen:(lo++xs++hi).length≤1000000000)(hc':xs.length≤c')(hown:OwL w0 w G cap (lo++xs++hi))(hds : ∀ w',w.grownBy w' (some G)→SlL w' v ds) :
  Calls Tryz.prog 339 #[.slice (some ⟨G,lo.length,none⟩) xs.length c',v] w (Aim w0 w lo xs hi ds G cap):=by
 obtain ⟨A,cd,rfl,hcd,_⟩:=(hds w (Qf w G)).form
 have hll:lo.length+xs.length+hi.length≤1000000000:=by have:=hlen;simp at this;omega
 rw[List.length_map]at hds hcd ⊢
 have HO:=Lib.hid hown
 have HD:=Lib.hid hds
 clear hown hds hlen
 generalize hn:ds.length=n at *
 rw[hxs]
 go_enter Tryz.func339,Tryz.ntmps339
 go_wp2_with fail
 go_loopw [4,9] (fun cv iv wr=>∃ (k c:Nat) (out:List Av),k≤n∧iv = .int .i64 k∧cv = .int .u32 c∧out.length=k∧c≤1∧nv out+B ^ k*c=nv (xs.take k)+nv (ds.take k)∧OwL w0 wr G cap (lo++(out++xs.drop k)++hi)∧w.grownBy wr (some G)) (fun _ iv _=>n-(intOf iv).toNat)
 case atStart=>exact ⟨0,0,[],Nat.zero_le _,rfl,rfl,rfl,by omega,by simp[nv],by simpa using HO.out,Qf w G⟩
 case round =>
  obtain ⟨k,c,out,hk,rfl,rfl,ho,hc,heq,hown,hgr⟩:=hrel
  have HQ:=Lib.hid heq
  have HOW:=Lib.hid hown
  have HGR:=Lib.hid hgr
  clear heq hown hgr
  by_cases hlt:k<n
  · have hkx:k<xs.length:=by omega
    have hkl:lo.length+k<(lo++(out++xs.drop k)++hi).length:=by simp;omega
    obtain ⟨hcell,hfk,hG1,hG2⟩:=HOW.out.cell (lo.length+k) hkl
    rw[JL ho hkx hkl]at hcell
    obtain ⟨_,_,hvq,_,hclq⟩:=(HD.out wr HGR.out).form
    injection hvq with hvq1 hvq2 hvq3
    subst hvq1
    subst hvq3
    clear hvq2
    obtain ⟨ad,rfl,hb1,hce⟩:=hclq k (by simp;omega)
    have hkd:k<ds.length:=by omega
    have hdk:((ds.map iB)[k]'(by simp;omega))=((ds[k]).toNat:Int):=by simp[iB]
    rw[hdk]at hce
    have xB:=Fa xs[k]
    have dB_:=Fa ds[k]
    have st:=fun (z:Av)=>HOW.out.set (lo.length+k) hkl z
    have ws:=fun (z:Av)=>JM (lo:=lo) (hi:=hi) ho hkx z
    have ht1:=Kc ds k hkd
    have ht2:=Kc xs k hkx
    generalize (xs[k]).toNat=X at *
    generalize (ds[k]).toNat=Y at *
    have HZ:=Lib.hid (Nat.mod_lt (X+Y+c) Cd)
    have HST:=Lib.hid (AdR (X:=X) (Y:=Y) HQ.out)
    have HS:=Lib.hid (st (BitVec.ofNat 32 ((X+Y+c) % B)))
    have HW:=Lib.hid (ws (BitVec.ofNat 32 ((X+Y+c) % B)))
    have HT1:=Lib.hid ht1
    have HT2:=Lib.hid ht2
    rw[Be]at xB dB_
    clear hclq hdk st ws ht1 ht2
    go_wp2_with (go_at_call 333;refine (Afv (X:Int) (Y:Int) (c:Int) _ ⟨by omega,by omega⟩ ⟨by omega,by omega⟩ ⟨by omega,by omega⟩).mono ?_;rintro e w' ⟨rfl,rfl⟩)
    go_roundw
    case rel =>
      have hs:=HS.out
      rw[HW.out,ofNat_lt HZ.out]at hs
      refine ⟨k+1,(X+Y+c) / B,out++[BitVec.ofNat 32 ((X+Y+c) % B)],by omega,by go_num,?_,by simp[ho],by rw[Be];omega,?_,?_,Ul HGR.out _ _ _⟩
      · congr 1
      · rw[Kb,ho,ofNat_lt HZ.out,HT1.out,HT2.out,Nat.pow_succ];exact HST.out
      · exact hs
    case measure=>(simp[intOf] <;> omega)
  · have hkn:k=n:=by omega
    subst hkn
    have hkx:k<xs.length:=by omega
    have hkl:lo.length+k<(lo++(out++xs.drop k)++hi).length:=by simp;omega
    obtain ⟨hcell,hfk,hG1,hG2⟩:=HOW.out.cell (lo.length+k) hkl
    rw[JL ho hkx hkl]at hcell
    have xB:=Fa xs[k]
    have st:=fun (z:Av)=>HOW.out.set (lo.length+k) hkl z
    have ws:=fun (z:Av)=>JM (lo:=lo) (hi:=hi) ho hkx z
    have ht2:=Kc xs k hkx
    generalize (xs[k]).toNat=X at *
    have HZ:=Lib.hid (Nat.mod_lt (X+0+c) Cd)
    have HST:=Lib.hid (AdR (X:=X) (Y:=0) HQ.out)
    have HS:=Lib.hid (st (BitVec.ofNat 32 ((X+0+c) % B)))
    have HW:=Lib.hid (ws (BitVec.ofNat 32 ((X+0+c) % B)))
    have HT2:=Lib.hid ht2
    rw[Be]at xB
    clear st ws ht2
    go_wp2
    go_end0
    have hs:=HS.out
    rw[HW.out,ofNat_lt HZ.out,List.drop_of_length_le (by omega),List.append_nil]at hs
    refine ⟨out++[BitVec.ofNat 32 ((X+0+c) % B)],(X+0+c) / B,_,rfl,by simp[ho,hxs],?_,?_,Ul HGR.out _ _ _⟩
    · have h1:=HST.out
      rw[Nat.mul_zero,Nat.add_zero,← HT2.out,← Nat.pow_succ,List.take_of_length_le (by omega),List.take_of_length_le (by omega)]at h1
      rw[Kb,ho,ofNat_lt HZ.out,hxs];exact h1
    · exact hs
end Go.Proofs.YtokkbgpgaheakaaGreat
namespace Go.Proofs.YtokkbgpgaheakaaGreat
open Go.RowKit
theorem Aia{U Y g P o b:Nat}(hY:0<Y)(hYP:Y≤P)(h1:U / Y≤g)(h2:g≤U / Y+1)(ho:o<P)(hb:b≤1)(h:o+g*Y=U+P*b) :
   (b=0→g=U / Y∧o=U % Y)∧(b≠0→g=U / Y+1∧∀ o2 b2,o2<P→o2+P*b2=o+Y→o2=U % Y):=by
 have hdm:=Nat.div_add_mod U Y
 have hm:=Nat.mod_lt U hY
 rw[Nat.mul_comm]at hdm
 generalize U / Y=q at *
 generalize U % Y=r at *
 refine ⟨fun h0=> ?_,fun h0=> ?_⟩
 · subst h0
   rcases Nat.lt_or_ge q g with h3 | h3
   · obtain rfl:g=q+1:=by omega
     rw[Nat.add_mul]at h;omega
   · obtain rfl:g=q:=by omega
     exact ⟨rfl,by omega⟩
 · obtain rfl:b=1:=by omega
   rcases Nat.lt_or_ge q g with h3 | h3
   · obtain rfl:g=q+1:=by omega
     refine ⟨rfl,fun o2 b2 h4 h5=> ?_⟩
     rw[Nat.add_mul]at h
     match b2 with
     | 0=>omega
     | 1=>omega
     | b2+2=>rw[Nat.mul_add]at h5;omega
   · obtain rfl:g=q:=by omega
     omega
theorem Ahl{R:List Av}{n j Y:Nat}(hj:j+(n+1)≤R.length)(hY:Y<B ^ n)(h:nv R<Y*B ^ (j+1)) :
   R=R.take j++(R.drop j).take (n+1)++R.drop (j+(n+1))∧(R.take j).length=j∧((R.drop j).take (n+1)).length=n+1∧nv ((R.drop j).take (n+1))<B*Y ∧
   ∀ out:List Av,out.length=n+1→nv out=nv ((R.drop j).take (n+1)) % Y→(R.take j++out++R.drop (j+(n+1))).length=R.length∧nv (R.take j++out++R.drop (j+(n+1)))<Y*B ^ j ∧
     nv (R.take j++out++R.drop (j+(n+1)))+Y*(B ^ j*(nv ((R.drop j).take (n+1)) / Y))=nv R:=by
 have e1:R=R.take j++(R.drop j).take (n+1)++R.drop (j+(n+1)):=by
   rw[List.append_assoc,← List.drop_drop,List.take_append_drop,List.take_append_drop]
 have l1:(R.take j).length=j:=by rw[List.length_take];omega
 have l2:((R.drop j).take (n+1)).length=n+1:=by rw[List.length_take,List.length_drop];omega
 have hlo:=Ck (R.take j)
 rw[l1]at hlo
 have hv:nv R=nv (R.take j)+B ^ j*nv ((R.drop j).take (n+1))+B ^ (j+(n+1))*nv (R.drop (j+(n+1))):=by
   have:nv R=nv (R.take j++(R.drop j).take (n+1)++R.drop (j+(n+1))):=by rw[← e1]
   rw[this,Fw,Fw,List.length_append,l1,l2]
 have hY0:0<Y:=by
   rcases Nat.eq_zero_or_pos Y with h0 | h0
   · rw[h0]at h;omega
   · exact h0
 have hp:=Bp j
 have hi0:nv (R.drop (j+(n+1)))=0:=by
   rcases Nat.eq_zero_or_pos (nv (R.drop (j+(n+1)))) with h0 | h0
   · exact h0
   · exfalso
     have h3:B ^ (j+(n+1))*1≤B ^ (j+(n+1))*nv (R.drop (j+(n+1))):=Nat.mul_le_mul_left _ h0
     have h4:Y*B ^ (j+1)≤B ^ n*B ^ (j+1):=Nat.mul_le_mul_right _ (Nat.le_of_lt hY)
     rw[← Nat.pow_add,show n+(j+1)=j+(n+1) by omega]at h4
     omega
 generalize R.take j=lo at *
 generalize (R.drop j).take (n+1)=xs at *
 generalize R.drop (j+(n+1))=hi at *
 rw[hi0,Nat.mul_zero,Nat.add_zero]at hv
 refine ⟨e1,l1,l2,?_,fun out ho hn=>⟨?_,?_,?_⟩⟩
 · have h5:B ^ j*nv xs<B ^ j*(B*Y):=by
     have:Y*B ^ (j+1)=B ^ j*(B*Y):=by rw[Nat.pow_succ,Nat.mul_comm Y,Nat.mul_assoc]
     omega
   exact Nat.lt_of_mul_lt_mul_left h5
 · rw[e1];simp[ho,l2]
 · rw[Fw,Fw,hi0,l1,hn,Nat.mul_zero,Nat.add_zero]
   have h6:B ^ j*(nv xs % Y)+B ^ j≤B ^ j*Y:=by
     rw[← Nat.mul_succ];exact Nat.mul_le_mul_left _ (Nat.mod_lt _ hY0)
   rw[Nat.mul_comm Y];omega
 · rw[Fw,Fw,hi0,l1,hn,Nat.mul_zero,Nat.add_zero,hv,Nat.mul_left_comm Y,Nat.add_assoc,← Nat.mul_add,Nat.mod_add_div]
theorem Agj{w:World}{M:Nat→Prop}{v:Value}{l:List Av}(h:Rd Tryz.prog md w M (.ty 62) (dL l) v):SlL w v l:=by
 obtain ⟨h1,h2,h3⟩:=h
 have hc1:Tryz.prog.cellsOf 180=1:=by kernel_rfl
 unfold dL at h1
 cases h1 with
 | @sl _ e _ _ A cap bk off ht hc h4 h5 hA hh =>
  have he:e=180:=by
   have:Tryz.prog.underlying 62=some (.slice e):=ht
   rw[show Tryz.prog.underlying 62=some (.slice 180) by kernel_rfl]at this
   injection this with this;injection this with this;exact this.symm
  subst he
  have hv:v = .slice A (l.map dB).length cap:=by
   have ha:Dz v=false:=by rw[h3];kernel_rfl
   rw[Hg ha]at hc
   simpa using hc
  refine ⟨A,cap,by rw[hv];simp,by simpa using h4,by simp,fun i x hx=> ?_⟩
  rw[List.map_map,List.getElem?_map,Option.map_eq_some_iff]at hx
  obtain ⟨b,hb,rfl⟩:=hx
  have hne:l.map dB≠[]:=fun e=>by rw[List.map_eq_nil_iff.1 e]at hb;simp at hb
  obtain ⟨a1,a2,a3⟩:=hA hne
  have:=hh i (dB b) (by rw[List.getElem?_map,hb];rfl)
  rw[hc1]at this
  refine ⟨_,a1,a3,?_⟩
  unfold dB at this
  cases this with
  | @int _ k _ _ ht' h1' h2' hc' =>
   have hk:k = .u32:=by
    have:Tryz.prog.underlying 180=some (.int k):=ht'
    rw[show Tryz.prog.underlying 180=some (.int .u32) by kernel_rfl]at this
    injection this with this;injection this with this;exact this.symm
   subst hk
   simp only[Nat.mul_one,Nat.add_zero]at hc'
   have ea:(⟨bk,off,none⟩:Addr).add i=⟨bk,off+i,none⟩:=by unfold Addr.add;split <;> simp_all
   rw[ea];exact hc'
theorem TI{w:World}{M:Nat→Prop}{G off n c:Nat}{l:List Av}(h:SlL w (.slice (some ⟨G,off,none⟩) n c) l)(hc:c≤maxLen)(hG : ¬ M G):Rd Tryz.prog md w M (.ty 62) (dL l) (.slice (some ⟨G,off,none⟩) n c):=by
 obtain ⟨h1,h2⟩:=h.len
 have hc1:Tryz.prog.cellsOf 180=1:=by kernel_rfl
 rw[List.length_map]at h1
 refine ⟨.sl (e:=180) (A:=some ⟨G,off,none⟩) (cap:=c) (bk:=G) (off:=off) (by kernel_rfl) (by rw[h1,List.length_map];rfl) (by rw[List.length_map];omega) hc (fun hne=> ?_) (fun i x hx=> ?_),by kernel_rfl,by kernel_rfl⟩
 · have:0<(l.map iB).length:=by
    rw[List.length_map];exact List.length_pos_iff.2 (fun e=>hne (by rw[e];rfl))
   obtain ⟨ad,ha,hb,_⟩:=h.cellAt 0 this
   cases ha
   exact ⟨rfl,hG,hb⟩
 · rw[List.getElem?_map,Option.map_eq_some_iff]at hx
   obtain ⟨b,hb,rfl⟩:=hx
   have hi:i<(l.map iB).length:=by rw[List.length_map];exact (List.getElem?_eq_some_iff.1 hb).1
   obtain ⟨ad,ha,_,hcell⟩:=h.cellAt i hi
   cases ha
   have ea:(⟨G,off,none⟩:Addr).add i=⟨G,off+i,none⟩:=by unfold Addr.add;split <;> simp_all
   rw[ea]at hcell
   have hx:(l.map iB)[i]=(b.toNat:Int):=by simp[iB,(List.getElem?_eq_some_iff.1 hb).2]
   rw[hx]at hcell
   have:=b.isLt
   unfold dB
   exact .int (k:= .u32) (by kernel_rfl) (by show (0:Int)≤_;omega) (by show _≤(4294967295:Int);omega) (by rw[hc1];simpa using hcell)
theorem OwL.win {w0 w:World} {G cap:Nat} {l:List Av} (h:OwL w0 w G cap l) {j n c:Nat} (hj:j+n≤l.length) (hc:n≤c):SlL w (.slice (some ⟨G,j,none⟩) n c) ((l.drop j).take n):=by
 have hl:(((l.drop j).take n).map iB).length=n:=by simp;omega
 refine ⟨some ⟨G,j,none⟩,c,by rw[hl],by rw[hl];exact hc,by simp,fun i x hx=> ?_⟩
 rw[List.getElem?_map,Option.map_eq_some_iff]at hx
 obtain ⟨z,hz,rfl⟩:=hx
 have hi:i<n:=by rw[← hl];exact (List.getElem?_eq_some_iff.1 hz).1
 obtain ⟨h1,h2,h3,h4⟩:=h.cell (j+i) (by omega)
 refine ⟨_,rfl,h4,?_⟩
 have ea:(⟨G,j,none⟩:Addr).add i=⟨G,j+i,none⟩:=by unfold Addr.add;split <;> simp_all
 rw[ea,h1]
 rw[List.getElem?_map,List.getElem?_take,if_pos hi,List.getElem?_drop,List.getElem?_eq_getElem (by omega)]at hz
 simp only[Option.map_some,Option.some.injEq]at hz
 rw[← hz];rfl
end Go.Proofs.YtokkbgpgaheakaaGreat
namespace Go.Proofs.YtokkbgpgaheakaaGreat
open Go.RowKit
theorem AiL:Elt Tryz.prog 62 180 1 4 :=
 ⟨Tryz.underlying62,by
  obtain ⟨i,hi,h1,h2,h3⟩:=info_parts (P:=Tryz.prog) (e:=180) (z:= .int .u32 0) (size:=1) (bytes:=4) (by kernel_rfl)
  exact ⟨i,_,hi,h1,h2,h3,rfl⟩,by decide⟩
theorem Aii{z:Value}(h : ∃ i,Tryz.prog.info? 180=some i∧i.zero=some z):z = .int .u32 0:=by
 obtain ⟨i,hi,hz⟩:=h
 obtain ⟨j,hj,h1,_⟩:=info_parts (P:=Tryz.prog) (e:=180) (z:= .int .u32 0) (size:=1) (bytes:=4) (by kernel_rfl)
 rw[hi]at hj
 cases hj
 rw[hz]at h1
 exact Option.some.inj h1
theorem Ahn{z:Value}(h : ∃ i,Tryz.prog.info? 180=some i∧i.zero=some z)(n:Nat):(madeCells z.cells (n*1)).toList=(List.replicate n (0:Int)).map (.int .u32):=by
 rw[Aii h,Ahm _ rfl];simp
theorem YR{w w':World}{G cap:Nat}{cur:Array Value}{q:List Av}(hG:w.heap.size≤G)(hB:w'.heap[G]? = some (.cells cur 180 (0,0)))(hle:q.length≤cap)(hcap:cap≤maxLen)(hsz:cur.size=cap*Tryz.prog.cellsOf 180)
  (h : ∀ (i:Nat) (x:D),(q.map dB)[i]? = some x→∃ M',RdC Tryz.prog md w' M' (.ty 180) x (fun j=>cur[i*Tryz.prog.cellsOf 180+j]?)) (hx:Ext w w'):OwL w w' G cap q:=by
 have hc1:Tryz.prog.cellsOf 180=1:=by kernel_rfl
 rw[hc1]at hsz h
 refine ⟨⟨by simp,.inr ⟨G,cap,cur,rfl,hG,hB,hle,hcap,hsz,?_⟩⟩,hx⟩
 apply List.ext_getElem
 · simp;omega
 intro i h1 h2
 simp only[List.length_map]at h2
 obtain ⟨M',hr⟩:=h i (dB q[i]) (by simp[h2])
 simp only[Nat.mul_one,Nat.add_zero]at hr
 unfold dB at hr
 cases hr with
 | @int _ k _ _ ht' h1' h2' hc' =>
  have hk:k = .u32:=by
   have:Tryz.prog.underlying 180=some (.int k):=ht'
   rw[show Tryz.prog.underlying 180=some (.int .u32) by kernel_rfl]at this
   injection this with this;injection this with this;exact this.symm
  subst hk
  simp only[Nat.add_zero]at hc'
  have hi:i<cur.size:=by omega
  rw[Array.getElem?_eq_getElem hi]at hc'
  simp only[List.getElem_take,Array.getElem_toList,List.getElem_map,iB]
  exact Option.some.inj hc'
theorem OwL.far {w0 w w':World} {G G' cap:Nat} {l:List Av} (h:OwL w0 w G cap l) (hg:w.grownBy w' (some G')) (hne:G≠G') (hG:w0.heap.size≤G'):OwL w0 w' G cap l :=
 ⟨h.own.kept hg (.inr (by simp only[Value.ownBlock];intro e;injection e with e;exact hne e)),h.ext.grown hg (fun k hk=>by injection hk with hk;omega)⟩
theorem AhZ{w w5:World}{lo xs hi q1:List Av}{G1 G2 c1 c2 n j g c':Nat}(hn:n≤q1.length)(hc1:n≤c1)(l1:lo.length=j)(l2:xs.length=n+1)(hlen:(lo++xs++hi).length≤1000000000)(hc':n+1≤c')(hg2:w.heap.size≤G2)(h12:G1≠G2)
  (ow2:OwL w w5 G2 c2 (lo++xs++hi)) (ow1:OwL w w5 G1 c1 q1) (hg:g<B):Calls Tryz.prog 338 #[.slice (some ⟨G2,j,none⟩) (n+1) c',.slice (some ⟨G1,0,none⟩) n c1,.int .u64 g] w5 (Ain w w5 lo xs hi (q1.take n) G2 c2 g):=by
 have ld:(q1.take n).length=n:=by rw[List.length_take];omega
 have:=Adq w w5 lo xs hi (q1.take n) G2 c2 c' g (.slice (some ⟨G1,0,none⟩) n c1) (by omega) hlen (by omega) ow2 (fun w' hg=>by
  have:=(ow1.far hg h12 hg2).win (j:=0) (n:=n) (c:=c1) (by omega) hc1
  rwa[List.drop_zero]at this) hg
 rwa[l1,l2]at this
theorem Ah_{w w5:World}{lo xs hi q1:List Av}{G1 G2 c1 c2 n j c':Nat}(hn:n≤q1.length)(hc1:n≤c1)(l1:lo.length=j)(l2:xs.length=n+1)(hlen:(lo++xs++hi).length≤1000000000)(hc':n+1≤c')(hg2:w.heap.size≤G2)(h12:G1≠G2)
  (ow2:OwL w w5 G2 c2 (lo++xs++hi)) (ow1:OwL w w5 G1 c1 q1):Calls Tryz.prog 339 #[.slice (some ⟨G2,j,none⟩) (n+1) c',.slice (some ⟨G1,0,none⟩) n c1] w5 (Aim w w5 lo xs hi (q1.take n) G2 c2):=by
 have ld:(q1.take n).length=n:=by rw[List.length_take];omega
 have:=Adj w w5 lo xs hi (q1.take n) G2 c2 c' (.slice (some ⟨G1,0,none⟩) n c1) (by omega) hlen (by omega) ow2 (fun w' hg=>by
  have:=(ow1.far hg h12 hg2).win (j:=0) (n:=n) (c:=c1) (by omega) hc1
  rwa[List.drop_zero]at this)
 rwa[l1,l2]at this
theorem Ajo{qh:List Av}{j:Nat}(x:Av):(List.replicate (j+1) (0:Av)++qh).set j x=List.replicate j 0++(x::qh):=by
 rw[List.replicate_succ',List.append_assoc,List.set_append_right _ _ (by simp),List.length_replicate,Nat.sub_self];rfl
def Ai9(x y:Nat)(w:World)(e:Ending)(w':World):Prop:=∃ u1 u2,e = .returned (.tuple #[u1,u2])∧Rd Tryz.prog md w' (fun b=>b<w.heap.size) (.ty 62) (dL (lb (x / y))) u1∧Rd Tryz.prog md w' (fun b=>b<w.heap.size) (.ty 62) (dL (lb (x % y))) u2∧Ext w w'
theorem AeS{y n s t:Nat}(hn:(lb y).length=n+1)(ht:t=y / B ^ n)(h1:t*2 ^ s<B)(h2:B≤2*(t*2 ^ s))(hs:s<32):y*2 ^ s<B ^ (n+1)∧B ^ (n+1)≤2*(y*2 ^ s):=by
 have hp:=Bp n
 have hs0:0<2 ^ s:=Nat.pow_pos (by decide)
 have hB:B=2 ^ (32-s)*2 ^ s:=by rw[← Nat.pow_add,show 32-s+s=32 by omega];rfl
 have h3:t<2 ^ (32-s):=by rw[hB]at h1;exact Nat.lt_of_mul_lt_mul_right h1
 have h4:(t+1)*2 ^ s≤B:=by rw[hB];exact Nat.mul_le_mul_right _ h3
 have h5:y<(t+1)*B ^ n:=by rw[ht,Nat.mul_comm];exact Nat.lt_mul_div_succ y hp
 have h6:t*B ^ n≤y:=by rw[ht];exact Nat.div_mul_le_self _ _
 rw[Nat.pow_succ]
 constructor
 · calc y*2 ^ s<(t+1)*B ^ n*2 ^ s:=Nat.mul_lt_mul_of_pos_right h5 hs0
  _=B ^ n*((t+1)*2 ^ s):=by rw[Nat.mul_comm (t+1),Nat.mul_assoc]
  _≤B ^ n*B:=Nat.mul_le_mul_left _ h4
 · calc B ^ n*B≤B ^ n*(2*(t*2 ^ s)):=Nat.mul_le_mul_left _ h2
  _=2*(t*B ^ n*2 ^ s):=by rw[Nat.mul_left_comm,Nat.mul_comm t (B ^ n),Nat.mul_assoc]
  _≤2*(y*2 ^ s):=Nat.mul_le_mul_left _ (Nat.mul_le_mul_right _ h6)
theorem LF{q:List Av}{n v:Nat}(h:nv q=v)(hv:v<B ^ n)(hn:n≤q.length):nv (q.take n)=v:=by
 have:=Fw (q.take n) (q.drop n)
 rw[List.take_append_drop,List.length_take,Nat.min_eq_left hn,h]at this
 rcases Nat.eq_zero_or_pos (nv (q.drop n)) with h0 | h0
 · rw[h0]at this;omega
 · have:B ^ n*1≤B ^ n*nv (q.drop n):=Nat.mul_le_mul_left _ h0
   omega
def LInv(X Y m n:Nat)(w wr:World)(G1 c1 G2 c2 G3 c3:Nat)(q1:List Av)(k:Nat)(R qh:List Av):Prop :=
 k≤m-n+1∧R.length=m+1∧qh.length=m-n+1-k∧nv R<Y*B ^ k∧nv R+Y*(B ^ k*nv qh)=X∧OwL w wr G2 c2 R∧OwL w wr G3 c3 (List.replicate k 0++qh)∧OwL w wr G1 c1 q1
theorem LInv.start {X Y m n:Nat} {w wr:World} {G1 c1 G2 c2 G3 c3:Nat} {q1 q2:List Av} (h2:q2.length=m+1) (hv:nv q2=X) (hX:X<Y*B ^ (m-n+1)) (o1:OwL w wr G1 c1 q1) (o2:OwL w wr G2 c2 q2) (o3:OwL w wr G3 c3 (List.replicate (m-n+1) 0)):LInv X Y m n w wr G1 c1 G2 c2 G3 c3 q1 (m-n+1) q2 [] :=
 ⟨Nat.le_refl _,h2,by rw[Nat.sub_self];rfl,by rw[hv];exact hX,by rw[nv,Nat.mul_zero,Nat.mul_zero];exact hv,o2,by rw[List.append_nil];exact o3,o1⟩
set_option maxHeartbeats 4000000 in
theorem Ahk(x y:Nat)(va vb:Value)(w:World)(M:Nat→Prop)(ha:Rd Tryz.prog md w M (.ty 62) (dL (lb x)) va)(hb:Rd Tryz.prog md w M (.ty 62) (dL (lb y)) vb)(hM : ∀ b,M b→b<w.heap.size)
  (h1:1<(lb y).length) (hxy:y≤x) (hl:(lb x).length≤100000):Calls Tryz.prog 332 #[va,vb] w (Ai9 x y w):=by
 have hyx:(lb y).length≤(lb x).length:=Ax.2 (Nat.lt_of_le_of_lt hxy (Ax.1 (Nat.le_refl _)))
 obtain ⟨n,hn⟩ : ∃ n,(lb y).length=n:=⟨_,rfl⟩
 obtain ⟨m,hm⟩ : ∃ m,(lb x).length=m:=⟨_,rfl⟩
 rw[hn,hm]at hyx
 rw[hm]at hl
 rw[hn]at h1
 obtain ⟨A,ca,rfl,hca,_⟩:=(Agj ha).form
 obtain ⟨Ab,cb,rfl,hcb,hcel⟩:=(Agj hb).form
 rw[List.length_map,hm]at ha hca
 rw[List.length_map,hn]at hb hcb
 have HA:=Lib.hid ha
 have HB:=Lib.hid hb
 clear ha hb
 obtain ⟨ad,rfl,hb1,hce⟩:=hcel (n-1) (by simp;omega)
 have hk:((lb y).map iB)[n-1]'(by simp;omega)=(((lb y)[n-1]'(by omega)).toNat:Int):=by simp[iB]
 rw[hk,D0 (lb y) (n-1) (by omega),By]at hce
 have hyl:=(Ax (n:=y) (k:=n)).1 (by omega)
 have hyg:=TU (x:=y) (k:=n-1) (by omega)
 have htB:y / B ^ (n-1)<B:=by rw[Nat.div_lt_iff_lt_mul (Bp _),Nat.mul_comm,← Nat.pow_succ,show (n-1).succ=n by omega];exact hyl
 rw[Nat.mod_eq_of_lt htB]at hce
 have ht0:0<y / B ^ (n-1):=Nat.div_pos hyg (Bp _)
 obtain ⟨s,hLZ,hs32,hs1,hs2⟩:=Aeu _ htB ht0
 obtain ⟨hY1,hY2⟩:=AeS (n:=n-1) (by omega) rfl hs1 hs2 hs32
 rw[show n-1+1=n by omega]at hY1 hY2
 obtain ⟨q1,hq1,hq1v,sp1⟩:=YK (lb y) s hs32 (by omega)
 obtain ⟨q2,hq2,hq2v,sp2⟩:=YK (lb x) s hs32 (by omega)
 rw[By]at hq1v hq2v
 rw[hn]at hq1
 rw[hm]at hq2
 have hdv:=LF hq1v hY1 (by omega)
 have hX1:x*2 ^ s<(y*2 ^ s)*B ^ (m-n+1):=by
  have h2:x<B ^ m:=Ax.1 (by omega)
  have h3:B ^ n*B ^ (m-n+1)≤2*(y*2 ^ s)*B ^ (m-n+1):=Nat.mul_le_mul_right _ hY2
  rw[← Nat.pow_add,show n+(m-n+1)=m+1 by omega]at h3
  have h4:2 ^ s≤2 ^ 31:=Nat.pow_le_pow_right (by decide) (by omega)
  have h5:x*2 ^ s≤x*2 ^ 31:=Nat.mul_le_mul_left _ h4
  rw[Nat.mul_assoc]at h3
  rw[Nat.pow_succ,Be]at h3
  rw[Be]at h2 ⊢
  omega
 generalize y / B ^ (n-1)=top at *
 have HLZ:=Lib.hid hLZ
 have SP1:=Lib.hid sp1
 have SP2:=Lib.hid sp2
 have HM:=Lib.hid hM
 have X1:=Lib.hid hX1
 have Y1:=Lib.hid hY1
 have Y2:=Lib.hid hY2
 clear hcel hk hLZ sp1 sp2 hM hX1 hY1 hY2 hyg hyl
 simp only[List.length_map,hn,hm]
 go_enter Tryz.func332,Tryz.ntmps332
 go_wp2_with (first
  | (go_at_call 335;refine (AcD (t:=3) (vs:=[_]) (M:=fun _=>False) HLZ.out Tryz.func335 (by kernel_rfl) (fun _ h=>h.elim) (by kernel_rfl) rfl (AdZ (by kernel_rfl) (Wl (t:=180) (k:= .u32) (by kernel_rfl) (by kernel_rfl) (by kernel_rfl) (by show (0:Int)≤_;omega) (by show _≤(4294967295:Int);rw[Be]at htB;omega))) (by kernel_rfl) (k:= .i64) (by kernel_rfl)).mono ?_;rintro e w1 ⟨rfl,_,hx1⟩)
  | (go_at_call_of 336 (Value.slice (some ad) n cb);refine (YQ (t:=62) (e:=180) (vs:=[_,_]) (M:=M) SP1.out Tryz.func336 (by kernel_rfl) (fun b h=>Nat.lt_of_lt_of_le (HM.out b h) hx1.size) (by kernel_rfl) rfl (Wk (by kernel_rfl) (Lj (t:= .ty 62) HB.out hx1 (fun _ h _=>h)) (Wl (t:=3) (k:= .i64) (by kernel_rfl) (by kernel_rfl) (by kernel_rfl) (by show (-9223372036854775808:Int)≤_;omega) (by show _≤(9223372036854775807:Int);omega))) (by kernel_rfl) (by kernel_rfl) (by kernel_rfl) (fun e=>by have:=congrArg List.length e;simp[hq1]at this)).mono ?_;rintro e w2 ⟨G1,c1,cur1,rfl,hG1,hG1l,hB1,hle1,hc1,hsz1,hr1,hx2⟩;rw[List.length_map,hq1]at hle1 ⊢)
  | (go_at_call_of 336 (Value.slice A m ca);refine (YQ (t:=62) (e:=180) (vs:=[_,_]) (M:=M) SP2.out Tryz.func336 (by kernel_rfl) (fun b h=>Nat.lt_of_lt_of_le (HM.out b h) (hx1.trans hx2).size) (by kernel_rfl) rfl (Wk (by kernel_rfl) (Lj (t:= .ty 62) HA.out (hx1.trans hx2) (fun _ h _=>h)) (Wl (t:=3) (k:= .i64) (by kernel_rfl) (by kernel_rfl) (by kernel_rfl) (by show (-9223372036854775808:Int)≤_;omega) (by show _≤(9223372036854775807:Int);omega))) (by kernel_rfl) (by kernel_rfl) (by kernel_rfl) (fun e=>by have:=congrArg List.length e;simp[hq2]at this)).mono ?_;rintro e w3 ⟨G2,c2,cur2,rfl,hG2,hG2l,hB2,hle2,hc2,hsz2,hr2,hx3⟩;rw[List.length_map,hq2]at hle2 ⊢)
  | (at_make;refine Adt (w0:=w3) AiL rfl _ _ rfl (Ext.refl w3) (m-n+1) (m-n+1) rfl rfl (by omega) (by omega) (by omega) (by omega) (by unfold maxLen;omega) ?_;intro v4 w4 z hz hown4 hx4;rw[Ahn hz]at hown4;have HO4:=Lib.hid hown4;rcases hown4.own.2 with ⟨_,hh⟩ | ⟨G3,c3,cur3,rfl,hG3,_,hnc3,c3m,_,_⟩;(exact absurd hh (by omega));clear hown4 hz))
 have ow1:OwL w w4 G1 c1 q1:=((YR hG1 hB1 (by omega) hc1 hsz1 hr1 hx2).base hx1).step (hx3.trans hx4)
 have ow2:OwL w w4 G2 c2 q2:=((YR hG2 hB2 (by omega) hc2 hsz2 hr2 hx3).base (hx1.trans hx2)).step hx4
 have ow3:OwL w w4 G3 c3 (List.replicate (m-n+1) 0):=by
  have:=HO4.out.base (hx1.trans (hx2.trans hx3))
  unfold OwL
  rw[List.length_replicate,List.map_replicate,show iB 0=0 from rfl]
  exact this
 have h12:G1≠G2:=by omega
 have h13:G1≠G3:=by have:=hx3.size;omega
 have h23:G2≠G3:=by omega
 have hg1:w.heap.size≤G1:=Nat.le_trans hx1.size hG1
 have hg2:w.heap.size≤G2:=Nat.le_trans (hx1.trans hx2).size hG2
 have hg3:w.heap.size≤G3:=Nat.le_trans (hx1.trans (hx2.trans hx3)).size hG3
 have O1:=Lib.hid ow1
 have O2:=Lib.hid ow2
 have O3:=Lib.hid ow3
 have DV:=Lib.hid hdv
 have Q1:=Lib.hid hq1
 have Q2:=Lib.hid hq2
 have Q2v:=Lib.hid hq2v
 clear ow1 ow2 ow3 HO4 hB1 hB2 hsz1 hsz2 hr1 hr2 hG1l hG2l hdv hq1 hq2 hq1v hq2v hce
 go_loopw [11] (fun jv wr=>∃ (k:Nat) (R qh:List Av),jv = .int .i64 ((k:Int)-1)∧LInv (x*2 ^ s) (y*2 ^ s) m n w wr G1 c1 G2 c2 G3 c3 q1 k R qh) (fun jv _=>(intOf jv+1).toNat)
 case atStart=>exact ⟨m-n+1,q2,[],by congr 1;omega,LInv.start Q2.out Q2v.out X1.out O1.out O2.out O3.out⟩
 case round =>
  obtain ⟨k,R,qh,rfl,hk,hR,hql,hlt,heq,ow2,ow3,ow1⟩:=hrel
  by_cases hk0:k=0
  · subst hk0
    rw[Nat.pow_zero,Nat.mul_one]at hlt
    rw[Nat.pow_zero,Nat.one_mul]at heq
    rw[List.replicate_zero,List.nil_append]at ow3
    have Y0:0<y*2 ^ s:=Nat.lt_of_le_of_lt (Nat.zero_le _) hlt
    have s0:0<2 ^ s:=Nat.pow_pos (by decide)
    have q1e:nv qh=x / y:=by
      have h1:(x*2 ^ s) / (y*2 ^ s)=x / y:=Nat.mul_div_mul_right _ _ s0
      rw[← h1,← heq,Nat.add_mul_div_left _ _ Y0,Nat.div_eq_of_lt hlt,Nat.zero_add]
    have q2e:nv (R.take n) / 2 ^ s=x % y:=by
      rw[LF rfl (Nat.lt_trans hlt Y1.out) (by omega)]
      have h1:(x*2 ^ s) % (y*2 ^ s)=x % y*2 ^ s:=Nat.mul_mod_mul_right _ _ _
      have h2:nv R=x % y*2 ^ s:=by rw[← h1,← heq,Nat.add_mul_mod_self_left,Nat.mod_eq_of_lt hlt]
      rw[h2,Nat.mul_div_cancel _ s0]
    have TR:=C9 qh (by omega)
    have DN:=Ada (R.take n) s hs32 (by rw[List.length_take];omega)
    rw[q1e]at TR
    rw[q2e]at DN
    have hqw:=ow3.win (j:=0) (n:=m-n+1) (c:=c3) (by omega) hnc3
    rw[List.drop_zero,List.take_of_length_le (by omega)]at hqw
    have hrw:=ow2.win (j:=0) (n:=n) (c:=c2) (by omega) (by omega)
    rw[List.drop_zero]at hrw
    have HTR:=Lib.hid TR
    have HDN:=Lib.hid DN
    have QWN:=Lib.hid hqw
    have RWN:=Lib.hid hrw
    have XT:=Lib.hid ow3.ext
    clear TR DN hqw hrw ow1 ow2 ow3 q1e q2e hlt heq
    go_wp2_with fail
    refine Acx 9 [[],[(0,77)],[],[],[(2,79),(3,80)],[],[(4,81),(5,82)],[(1,78)],[(6,83)]] [(0,77),(1,78),(2,79),(3,80),(4,81),(5,82),(6,83),(7,4),(8,5)] (by kernel_rfl) (by kernel_rfl) (by kernel_rfl) (by kernel_rfl) ?_
    apply Grow.step
    · intro w2 hw2
      intro K hK
      go_wp2_with fail
      first | exact hK _ _ (Ext.refl _) EqV.rfl_ | trace "op 0"
    · first | exact AB _ | (intro v w w1 h hx;exact SlI.keep h hx) | (intro v w w1 h hx;exact IntV.keep h hx) | (intro v w w1 h hx;exact SlN.keep h hx) | (intro v w w1 h hx;exact h)
    apply Grow.step
    · intro w2 hw2
      intro n1 h1
      simp only[upd,reduceIte,Nat.reduceEqDiff,Nat.reduceAdd]at h1
      first | (unfold EqV at h1;subst h1) | skip
      intro K hK
      go_wp2_with fail
      (refine (Ai2 (t:=62) (vs:=[_]) (M:=fun b ↦ b<w.heap.size) HTR.out Tryz.func321 (by kernel_rfl) (fun b h ↦ Nat.lt_of_lt_of_le h (XT.out.trans (((Ext.refl _).drew).trans hw2)).size) (by kernel_rfl) rfl (AdZ (t:=62) (by kernel_rfl) (TI (SlI.keep QWN.out (((Ext.refl _).drew).trans hw2)) c3m (by omega))) (by kernel_rfl) (by kernel_rfl)).mono ?_;rintro e w' ⟨u5,rfl,hu5,hx5⟩;(go_wp2_with fail);exact hK _ _ hx5 hu5)
    · (intro v w1 w2 h hx;exact Lj h hx (fun _ h _=>h))
    apply Grow.step
    · intro w2 hw2
      intro K hK
      go_wp2_with fail
      first | exact hK _ _ (Ext.refl _) EqV.rfl_ | trace "op 2"
    · first | exact AB _ | (intro v w w1 h hx;exact SlI.keep h hx) | (intro v w w1 h hx;exact IntV.keep h hx) | (intro v w w1 h hx;exact SlN.keep h hx) | (intro v w w1 h hx;exact h)
    apply Grow.step
    · intro w2 hw2
      intro K hK
      go_wp2_with fail
      first | exact hK _ _ (Ext.refl _) EqV.rfl_ | trace "op 3"
    · first | exact AB _ | (intro v w w1 h hx;exact SlI.keep h hx) | (intro v w w1 h hx;exact IntV.keep h hx) | (intro v w w1 h hx;exact SlN.keep h hx) | (intro v w w1 h hx;exact h)
    apply Grow.step
    · intro w2 hw2
      intro n1 h1
      simp only[upd,reduceIte,Nat.reduceEqDiff,Nat.reduceAdd]at h1
      first | (unfold EqV at h1;subst h1) | skip
      intro n2 h2
      simp only[upd,reduceIte,Nat.reduceEqDiff,Nat.reduceAdd]at h2
      first | (unfold EqV at h2;subst h2) | skip
      intro K hK
      go_wp2_with fail
      first | exact hK _ _ (Ext.refl _) EqV.rfl_ | exact hK _ _ (Ext.refl _) h1 | exact hK _ _ (Ext.refl _) h2 | trace "op 4"
    · first | exact AB _ | (intro v w w1 h hx;exact SlI.keep h hx) | (intro v w w1 h hx;exact IntV.keep h hx) | (intro v w w1 h hx;exact SlN.keep h hx) | (intro v w w1 h hx;exact h)
    apply Grow.step
    · intro w2 hw2
      intro K hK
      go_wp2_with fail
      first | exact hK _ _ (Ext.refl _) EqV.rfl_ | trace "op 5"
    · first | exact AB _ | (intro v w w1 h hx;exact SlI.keep h hx) | (intro v w w1 h hx;exact IntV.keep h hx) | (intro v w w1 h hx;exact SlN.keep h hx) | (intro v w w1 h hx;exact h)
    apply Grow.step
    · intro w2 hw2
      intro n1 h1
      simp only[upd,reduceIte,Nat.reduceEqDiff,Nat.reduceAdd]at h1
      first | (unfold EqV at h1;subst h1) | skip
      intro n2 h2
      simp only[upd,reduceIte,Nat.reduceEqDiff,Nat.reduceAdd]at h2
      first | (unfold EqV at h2;subst h2) | skip
      intro K hK
      go_wp2_with fail
      (refine (Ai2 (t:=62) (vs:=[_,_]) (M:=fun b ↦ b<w.heap.size) HDN.out Tryz.func340 (by kernel_rfl) (fun b h ↦ Nat.lt_of_lt_of_le h (XT.out.trans (((Ext.refl _).drew).trans hw2)).size) (by kernel_rfl) rfl (Wk (t:=62) (by kernel_rfl) (TI (SlI.keep RWN.out (((Ext.refl _).drew).trans hw2)) hc2 (by omega)) (Wl (t:=3) (k:= .i64) (by kernel_rfl) (by kernel_rfl) (by kernel_rfl) (by show (-9223372036854775808:Int)≤_;omega) (by show _≤(9223372036854775807:Int);omega))) (by kernel_rfl) (by kernel_rfl)).mono ?_;rintro e w' ⟨u5,rfl,hu5,hx5⟩;(go_wp2_with fail);exact hK _ _ hx5 hu5)
    · (intro v w1 w2 h hx;exact Lj h hx (fun _ h _=>h))
    apply Grow.step
    · intro w2 hw2
      intro n1 h1
      simp only[upd,reduceIte,Nat.reduceEqDiff,Nat.reduceAdd]at h1
      first | (unfold EqV at h1;subst h1) | skip
      intro K hK
      go_wp2_with fail
      ((first | exact hK _ _ (Ext.refl _) h1 | exact hK _ _ (Ext.refl _) h2))
    · (intro v w1 w2 h hx;exact Lj h hx (fun _ h _=>h))
    apply Grow.step
    · intro w2 hw2
      intro n1 h1
      simp only[upd,reduceIte,Nat.reduceEqDiff,Nat.reduceAdd]at h1
      first | (unfold EqV at h1;subst h1) | skip
      intro K hK
      go_wp2_with fail
      ((first | exact hK _ _ (Ext.refl _) h1 | exact hK _ _ (Ext.refl _) h2))
    · (intro v w1 w2 h hx;exact Lj h hx (fun _ h _=>h))
    refine Grow.last (fun w2 hw2=> ?_)
    intro n77 h77;simp only[upd,reduceIte,Nat.reduceEqDiff,Nat.reduceAdd]at h77;(first | (unfold EqV at h77;subst h77) | skip)
    intro n78 h78;simp only[upd,reduceIte,Nat.reduceEqDiff,Nat.reduceAdd]at h78;(first | (unfold EqV at h78;subst h78) | skip)
    intro n79 h79;simp only[upd,reduceIte,Nat.reduceEqDiff,Nat.reduceAdd]at h79;(first | (unfold EqV at h79;subst h79) | skip)
    intro n80 h80;simp only[upd,reduceIte,Nat.reduceEqDiff,Nat.reduceAdd]at h80;(first | (unfold EqV at h80;subst h80) | skip)
    intro n81 h81;simp only[upd,reduceIte,Nat.reduceEqDiff,Nat.reduceAdd]at h81;(first | (unfold EqV at h81;subst h81) | skip)
    intro n82 h82;simp only[upd,reduceIte,Nat.reduceEqDiff,Nat.reduceAdd]at h82;(first | (unfold EqV at h82;subst h82) | skip)
    intro n83 h83;simp only[upd,reduceIte,Nat.reduceEqDiff,Nat.reduceAdd]at h83;(first | (unfold EqV at h83;subst h83) | skip)
    intro n4 h4;simp only[upd,reduceIte,Nat.reduceEqDiff,Nat.reduceAdd]at h4;(first | (unfold EqV at h4;subst h4) | skip)
    intro n5 h5;simp only[upd,reduceIte,Nat.reduceEqDiff,Nat.reduceAdd]at h5;(first | (unfold EqV at h5;subst h5) | skip)
    refine Need.done ?_
    simp only[List.drop_succ_cons,List.drop_zero]
    go_simp
    go_wp2_with fail
    go_ret2
    exact ⟨_,_,rfl,h4,h5,XT.out.trans (((Ext.refl _).drew).trans hw2)⟩
  · obtain ⟨j,rfl⟩ : ∃ j,k=j+1:=⟨k-1,by omega⟩
    obtain ⟨e1,l1,l2,l3,l4⟩:=Ahl (R:=R) (n:=n) (j:=j) (by omega) Y1.out hlt
    have RW:=Lib.hid ow2
    have QW:=Lib.hid ow3
    have DW:=Lib.hid ow1
    have L4:=Lib.hid l4
    have L3:=Lib.hid l3
    have L2:=Lib.hid l2
    have L1:=Lib.hid l1
    have E1:=Lib.hid e1
    have LT:=Lib.hid hlt
    have EQ:=Lib.hid heq
    clear ow1 ow2 ow3 l1 l2 l3 l4 e1 hlt heq
    have DS:Hid (SlL wr (.slice (some ⟨G1,0,none⟩) n c1) (q1.take n)):=by
      have:=DW.out.win (j:=0) (n:=n) (c:=c1) (by have:=Q1.out;omega) (by omega)
      rwa[List.drop_zero]at this
    have WIN:=Lib.hid (RW.out.win (j:=j) (n:=n+1) (c:=c2-j) (by omega) (by omega))
    obtain ⟨g,spE,hgl,hgu,hgB⟩:=QH ((R.drop j).take (n+1)) (q1.take n) (n-2) (by have:=Q1.out;rw[List.length_take];omega) (by rw[L2.out];omega) (by omega) (by rw[DV.out,show n-2+2=n by omega];exact Y2.out) (by rw[DV.out];exact L3.out)
    rw[DV.out]at hgl hgu
    have SPE:=Lib.hid spE
    have GL:=Lib.hid hgl
    have GU:=Lib.hid hgu
    have GB:=Lib.hid hgB
    clear spE hgl hgu
    rw[Be]at hgB
    have en:j+n+1-j=n+1:=by omega
    go_wp2_with (go_at_call 337;rw[en];refine (AcD (t:=22) (vs:=[_,_]) (M:=fun _=>False) SPE.out Tryz.func337 (by kernel_rfl) (fun _ h=>h.elim) (by kernel_rfl) rfl (Wk (t:=62) (u:=62) (by kernel_rfl) (TI WIN.out (by omega) id) (TI DS.out (by omega) id)) (by kernel_rfl) (k:= .u64) (by kernel_rfl)).mono ?_;rintro e w5 ⟨rfl,_,hx5⟩)
    have LEN:Hid ((R.take j++(R.drop j).take (n+1)++R.drop (j+(n+1))).length≤1000000000):=by show _≤_;rw[← E1.out];omega
    have hq1n:n≤q1.length:=by have:=Q1.out;omega
    have RW5:Hid (OwL w w5 G2 c2 (R.take j++(R.drop j).take (n+1)++R.drop (j+(n+1)))):=by show OwL _ _ _ _ _;rw[← E1.out];exact RW.out.step hx5
    have QW5:Hid (OwL w w5 G3 c3 (List.replicate (j+1) 0++qh)):=QW.out.step hx5
    have DW5:Hid (OwL w w5 G1 c1 q1):=DW.out.step hx5
    refine (AhZ hq1n (by omega) L1.out L2.out LEN.out (by omega) hg2 h12 RW5.out DW5.out GB.out).mono ?_
    rintro e w6 ⟨out,b,hb01,rfl,hol,hov,how,hgr⟩
    rw[L2.out]at hol hov
    rw[DV.out]at hov
    have Y0:Hid (0<y*2 ^ s):=by
      rcases Nat.eq_zero_or_pos (y*2 ^ s) with h0 | h0
      · have:=LT.out;rw[h0]at this;omega
      · exact h0
    have YP:Hid (y*2 ^ s≤B ^ (n+1)):=Nat.le_trans (Nat.le_of_lt Y1.out) (Nat.pow_le_pow_right Cd (by omega))
    have EX:=Lib.hid (Aia Y0.out YP.out GL.out GU.out (by have:=Ck out;rwa[hol]at this) hb01 hov)
    have QW6:Hid (OwL w w6 G3 c3 (List.replicate (j+1) 0++qh)):=QW5.out.far hgr h23.symm hg2
    have DW6:Hid (OwL w w6 G1 c1 q1):=DW5.out.far hgr h12 hg2
    have HOW:=Lib.hid how
    have HOL:=Lib.hid hol
    clear hov how hgr hol
    have fin:Hid (∀ (w7:World) (o2:List Av) (g2:Nat),o2.length=n+1→nv o2=nv ((R.drop j).take (n+1)) % (y*2 ^ s)→g2=nv ((R.drop j).take (n+1)) / (y*2 ^ s)→OwL w w7 G2 c2 (R.take j++o2++R.drop (j+(n+1)))→OwL w w7 G3 c3 (List.replicate (j+1) 0++qh)→OwL w w7 G1 c1 q1→g2<B →
        ∃ (k:Nat) (R' qh':List Av),Value.int IntKind.i64 ((j:Int)-1) = .int .i64 ((k:Int)-1)∧LInv (x*2 ^ s) (y*2 ^ s) m n w (w7.setCell ⟨G3,j,none⟩ (.int .u32 (g2:Int))) G1 c1 G2 c2 G3 c3 q1 k R' qh'):=by
      intro w7 o2 g2 t1 t2 t3 t4 t5 t6 t7
      obtain ⟨u1,u2,u3⟩:=L4.out o2 t1 t2
      have gs:w7.grownBy (w7.setCell ⟨G3,j,none⟩ (.int .u32 (g2:Int))) (some G3):=Ul (Qf _ _) _ _ _
      refine ⟨j,_,BitVec.ofNat 32 g2::qh,rfl,by omega,u1.trans hR,by simp;omega,u2,?_,t4.far gs h23 hg3,?_,t6.far gs h13 hg3⟩
      · rw[← EQ.out,← u3,nv,ofNat_lt t7,← t3,Nat.mul_add,Nat.mul_add,Nat.pow_succ,Nat.mul_assoc (B ^ j)];omega
      · have:=t5.set j (by simp;omega) (BitVec.ofNat 32 g2)
        rw[ofNat_lt t7,Ajo]at this
        exact this
    by_cases hb0:b=0
    · subst hb0
      obtain ⟨cl,fz,gb,gl⟩:=QW6.out.cell j (by simp;omega)
      obtain ⟨e2,e3⟩:=EX.out.1 rfl
      have E2:=Lib.hid e2
      have E3:=Lib.hid e3
      clear e2 e3
      go_wp2
      go_roundw
      case rel=>exact fin.out _ out g HOL.out E3.out E2.out HOW.out QW6.out DW6.out GB.out
      case measure=>(simp[intOf] <;> omega)
    · obtain ⟨e2,e3⟩:=EX.out.2 hb0
      obtain ⟨g',rfl⟩ : ∃ g',g=g'+1:=⟨_,e2⟩
      have E2:Hid (g'=nv ((R.drop j).take (n+1)) / (y*2 ^ s)):=Nat.succ.inj e2
      have E3:=Lib.hid e3
      have hbz:(!(b == 0))=true:=by simp[hb0]
      have HGB':Hid (g'<B):=Nat.lt_of_succ_lt GB.out
      have eg:(((g'+1:Nat):Int)-1)=(g':Int):=by omega
      clear e2 e3
      go_wp2_with fail
      have LEN6:Hid ((R.take j++out++R.drop (j+(n+1))).length≤1000000000):=by
        have h1:=LEN.out
        simp only[List.length_append,L2.out,HOL.out]at h1 ⊢
        exact h1
      refine (Ah_ hq1n (by omega) L1.out HOL.out LEN6.out (by omega) hg2 h12 HOW.out DW6.out).mono ?_
      rintro e w7 ⟨out2,b2,v,rfl,hol2,hov2,how2,hgr2⟩
      rw[HOL.out]at hol2 hov2
      rw[DV.out]at hov2
      have E4:=Lib.hid (E3.out (nv out2) b2 (by have:=Ck out2;rwa[hol2]at this) hov2)
      have QW7:Hid (OwL w w7 G3 c3 (List.replicate (j+1) 0++qh)):=QW6.out.far hgr2 h23.symm hg2
      have DW7:Hid (OwL w w7 G1 c1 q1):=DW6.out.far hgr2 h12 hg2
      have HOW2:=Lib.hid how2
      have HOL2:=Lib.hid hol2
      obtain ⟨cl,fz,gb,gl⟩:=QW7.out.cell j (by simp;omega)
      have hgB':=HGB'.out
      rw[Be]at hgB'
      clear hov2 how2 hgr2 hol2 hgB
      go_wp2
      go_roundw
      case rel=>exact fin.out _ out2 g' HOL2.out E4.out E2.out HOW2.out QW7.out DW7.out HGB'.out
      case measure=>(simp[intOf] <;> omega)
theorem Adb(x y:Nat)(h1:1<(lb y).length)(hxy:y≤x)(hl:(lb x).length≤100000):Sp 332 [dL (lb x),dL (lb y)] [dL (lb (x / y)),dL (lb (x % y))]:=by
 refine JH ZM Tryz.func332 (by kernel_rfl) (by kernel_rfl) (by kernel_rfl) (fun w M vs hM _ hlv hrd=> ?_)
 have hps:Tryz.f332.params.toList = [62,62]:=by kernel_rfl
 have hlen:vs.length=2:=by rw[hlv];rfl
 match vs,hlen with
 | [va,vb],_ =>
  rw[hps]at hrd
  refine (Ahk x y va vb w M (hrd 0 _ _ _ rfl rfl rfl) (hrd 1 _ _ _ rfl rfl rfl) hM h1 hxy hl).mono ?_
  rintro e w' ⟨u1,u2,rfl,r1,r2,hx⟩
  refine ⟨[u1,u2],rfl,rfl,fun i t u ht hu=> ?_,hx⟩
  rw[show Tryz.f332.resultTypes.toList = [62,62] by kernel_rfl]at ht
  match i with
  | 0=>cases ht;cases hu;exact Lj r1 (Ext.refl _) (fun b hb _=>hM b hb)
  | 1=>cases ht;cases hu;exact Lj r2 (Ext.refl _) (fun b hb _=>hM b hb)
  | i+2=>simp at ht
theorem PQ(x y:Nat)(hl:(lb x).length≤100000):AaO x y:=fun h1 h2=>Adb x y h1 h2 hl
end Go.Proofs.YtokkbgpgaheakaaGreat
namespace Go.Proofs.YtokkbgpgaheakaaGreat
def W0(z:Int)(d:Nat):Num:=⟨decide (z<0),lb z.natAbs,lb d⟩
theorem AfT(z:Int)(d:Nat):Cg (W0 z d)=z:=Eh z
theorem AfS(z:Int)(d:Nat):Ca (W0 z d)=(d:Int):=by simp[Ca,W0,By]
theorem Sn:lb 1 = [1]:=by rw[Zp (by decide),show 1 / B=0 from rfl,Ct];rfl
theorem Sk(z:Int):W0 z 1=G4 z:=by unfold W0 G4;rw[Sn]
theorem Ya(p q:Int)(hq:q≠0) : ∃ (z:Int) (d:Nat),d≠0∧Nat.Coprime z.natAbs d∧z*q=p*(d:Int)∧z.natAbs≤p.natAbs∧d≤q.natAbs∧Js p q=if 32<Cj z∨32<(lb d).length then (.zero,7) else (W0 z d,0):=by
 have hg:0<Nat.gcd p.natAbs q.natAbs:=Nat.gcd_pos_of_pos_right _ (by omega)
 obtain ⟨a,ha⟩:=Nat.gcd_dvd_left p.natAbs q.natAbs
 obtain ⟨b,hb⟩:=Nat.gcd_dvd_right p.natAbs q.natAbs
 have hda:p.natAbs / Nat.gcd p.natAbs q.natAbs=a:=by
   conv=>lhs;lhs;rw[ha]
   exact Nat.mul_div_cancel_left _ hg
 have hdb:q.natAbs / Nat.gcd p.natAbs q.natAbs=b:=by
   conv=>lhs;lhs;rw[hb]
   exact Nat.mul_div_cancel_left _ hg
 have hcop:Nat.Coprime a b:=by
   have:=Nat.coprime_div_gcd_div_gcd hg
   rwa[hda,hdb]at this
 have hb0:b≠0:=fun h=>by rw[h,Nat.mul_zero]at hb;omega
 have ha0:a=0↔p=0:=by
   constructor
   · intro h;rw[h,Nat.mul_zero]at ha;omega
   · intro h
     rw[h]at ha
     simp only[Int.natAbs_zero]at ha
     rcases Nat.mul_eq_zero.1 ha.symm with h1 | h1
     · rw[h]at hg;simp only[Int.natAbs_zero]at hg;omega
     · exact h1
 have hal:a≤p.natAbs:=by rw[ha];exact Nat.le_mul_of_pos_left _ hg
 have hbl:b≤q.natAbs:=by rw[hb];exact Nat.le_mul_of_pos_left _ hg
 have hab:a*q.natAbs=p.natAbs*b:=by
   conv=>lhs;rw[hb]
   conv=>rhs;rw[ha]
   rw[Nat.mul_left_comm,Nat.mul_assoc]
 unfold Js
 rw[if_neg hq,hda,hdb]
 generalize Nat.gcd p.natAbs q.natAbs=g at *
 clear hda hdb ha hb hg
 have habz:(a:Int)*(q.natAbs:Int)=(p.natAbs:Int)*(b:Int):=by rw[← Int.natCast_mul,hab,Int.natCast_mul]
 by_cases hs:decide (p<0)=decide (q<0)
 · refine ⟨(a:Int),b,hb0,by simpa using hcop,?_,by simpa using hal,hbl,?_⟩
   · rw[decide_eq_decide]at hs
     by_cases hp:p<0
     · have e1:(p.natAbs:Int) = -p:=by omega
       have e2:(q.natAbs:Int) = -q:=by omega
       rw[e1,e2]at habz
       grind
     · have e1:(p.natAbs:Int)=p:=by omega
       have e2:(q.natAbs:Int)=q:=by omega
       rw[e1,e2]at habz
       exact habz
   · unfold W0 Cj
     rw[hs,beq_self_eq_true,Bool.not_true,Bool.and_false]
     simp only[Int.natAbs_natCast]
     rw[decide_eq_false (p:=((a:Int)<0)) (by omega)]
 · have hp:(decide (p<0)==decide (q<0))=false:=by simpa using hs
   refine ⟨-(a:Int),b,hb0,by simpa using hcop,?_,by simpa using hal,hbl,?_⟩
   · rw[decide_eq_decide]at hs
     by_cases hp:p<0
     · have e1:(p.natAbs:Int) = -p:=by omega
       have e2:(q.natAbs:Int)=q:=by omega
       rw[e1,e2]at habz
       grind
     · have e1:(p.natAbs:Int)=p:=by omega
       have e2:(q.natAbs:Int) = -q:=by omega
       rw[e1,e2]at habz
       grind
   · unfold W0 Cj
     rw[hp,Bool.not_false,Bool.and_true]
     simp only[Int.natAbs_neg,Int.natAbs_natCast]
     have:decide (0<(lb a).length)=decide (-(a:Int)<0):=by
       rw[decide_eq_decide]
       have:=G9 (n:=a)
       omega
     rw[this]
theorem Ae0{z z':Int}{d d':Nat}(h:d≠0)(h':d'≠0)(c:Nat.Coprime z.natAbs d)(c':Nat.Coprime z'.natAbs d')(e:z*(d':Int)=z'*(d:Int)):z=z'∧d=d':=by
 have en:z.natAbs*d'=z'.natAbs*d:=by
  have:=congrArg Int.natAbs e
  simpa [Int.natAbs_mul]using this
 have h1:d∣d':=(Nat.Coprime.dvd_of_dvd_mul_left c.symm (by rw[en];exact Nat.dvd_mul_left _ _))
 have h2:d'∣d:=(Nat.Coprime.dvd_of_dvd_mul_left c'.symm (by rw[← en];exact Nat.dvd_mul_left _ _))
 have hd:=Nat.dvd_antisymm h1 h2
 subst hd
 exact ⟨Int.eq_of_mul_eq_mul_right (by omega) e,rfl⟩
structure RNum (n:Num) (z:Int) (d:Nat):Prop where
 eq:n=W0 z d
 d0:d≠0
 cop:Nat.Coprime z.natAbs d
 lz:Cj z≤32
 ld:(lb d).length≤32
theorem Aht{z:Int}{d:Nat}(h0:d≠0)(hc:Nat.Coprime z.natAbs d)(h1:Cj z≤32)(h2:(lb d).length≤32):Js z (d:Int)=(W0 z d,0):=by
 obtain ⟨z',d',h1',h2',h3',_,_,h4'⟩:=Ya z (d:Int) (by omega)
 obtain ⟨rfl,rfl⟩:=Ae0 h0 h1' hc h2' h3'.symm
 rw[h4',if_neg (by omega)]
theorem RNum.self {n:Num} {z:Int} {d:Nat} (h:RNum n z d):Js z (d:Int)=(n,0):=by rw[Aht h.d0 h.cop h.lz h.ld,h.eq]
theorem RNum.top {n:Num} {z:Int} {d:Nat} (h:RNum n z d):Cg n=z:=by rw[h.eq,AfT]
theorem RNum.bot {n:Num} {z:Int} {d:Nat} (h:RNum n z d):Ca n=(d:Int):=by rw[h.eq,AfS]
theorem JF{n:Num}(h:Ge n=true) : ∃ z d,RNum n z d:=by
 unfold Ge at h
 obtain ⟨h1,h2,h3⟩:=of_decide_eq_true h
 by_cases hq:Ca n=0
 · rw[hq]at h3
   have:=congrArg Prod.snd h3
   simp[Js]at this
 · obtain ⟨z,d,g1,g2,_,_,_,g4⟩:=Ya (Cg n) (Ca n) hq
   rw[h3]at g4
   split at g4
   · cases g4
   · injection g4 with g4
     exact ⟨z,d,g4,g1,g2,by omega,by omega⟩
theorem RNum.len {n:Num} {z:Int} {d:Nat} (h:RNum n z d):n.top.length≤32∧n.bot.length≤32:=by rw[h.eq];exact ⟨h.lz,h.ld⟩
theorem AfQ{p q:Int}(hq:q≠0):((Js p q).2=0→∃ z d,RNum (Js p q).1 z d∧z*q=p*(d:Int)∧z.natAbs≤p.natAbs∧d≤q.natAbs)∧((Js p q).2=0∨(Js p q)=(.zero,7))∧(Cj p≤32→Cj q≤32→(Js p q).2=0):=by
 obtain ⟨z,d,g1,g2,g3,g5,g6,g4⟩:=Ya p q hq
 rw[g4]
 have mono : ∀ {a b k:Nat},a≤b→(lb b).length≤k→(lb a).length≤k:=fun hab hk=>Ax.2 (Nat.lt_of_le_of_lt hab (Ax.1 hk))
 refine ⟨fun h=> ?_,?_,fun h1 h2=> ?_⟩
 · split at h
   · cases h
   · rename_i hh
     rw[if_neg hh]
     exact ⟨z,d,⟨rfl,g1,g2,by omega,by omega⟩,g3,g5,g6⟩
 · split
   · exact .inr rfl
   · exact .inl rfl
 · rw[if_neg]
   have a1:=mono g5 h1
   have a2:=mono g6 h2
   unfold Cj;omega
def Gt(r:Num×Int):List D:=[dN r.1,.int r.2]
theorem Mf(n:Num):Cj (Cg n)≤n.top.length:=Km ⟨n.neg,n.top⟩
theorem Me(n:Num):Cj (Ca n)≤n.bot.length:=Km ⟨false,n.bot⟩
theorem Rq(n:Num):zv ⟨false,n.bot⟩=Ca n:=rfl
theorem Oe(n:Num):zv ⟨n.neg,n.top⟩=Cg n:=rfl
def AgB(a b:Num):Num×Int:=Js (Cg a*Ca b+Cg b*Ca a) (Ca a*Ca b)
def UT(a b:Num):Num×Int:=Js (Cg a*Cg b) (Ca a*Ca b)
def MJ(a b:Num):Num×Int:=Js (Cg a*Ca b) (Ca a*Cg b)
def Sg(a b:Num):Int:=Ee (Cg a*Ca b) (Cg b*Ca a)
def W9(a:Num):Num:=if a.top = [] then G4 0 else ⟨!a.neg,a.top,a.bot⟩
def AhR(a b:Num):Num×Int:=AgB a (W9 b)
def Yw(a:Num):Num:=G4 (Nr (Cg a) (Ca a)).1
def IF(r:Num×Int)(f:Num→Num×Int):Num×Int:=if r.2=0 then f r.1 else (.zero,r.2)
def Ahv(a b:Num):Num×Int:=if a.top = [] then (b,0) else IF (MJ b a) fun q=>IF (UT a (Yw q)) fun p=>AhR b p
def AaI(p q:Int×Int):Num×Int:=if p.2=0 then (if q.2=0 then Js p.1 q.1 else (.zero,q.2)) else (.zero,p.2)
def AeX(a:Num)(n:Int):Num×Int :=
 if n<0 then (if a.top = []∨n < -9223372036854775807 then (.zero,3) else AaI (FN (Ca a) (-n)) (FN (Cg a) (-n))) else AaI (FN (Cg a) n) (FN (Ca a) n)
def MP(a b:Num):Num×Int:=if a.bot = [1]∧b.bot = [1] then (G4 (Nat.gcd (nv a.top) (nv b.top):Nat),0) else (.zero,3)
def Ahg(a b:Num):Num×Int:=IF (MP a b) fun g=>if g.top = [] then (g,0) else IF (MJ a g) fun p=>UT p b
theorem UX{n:Num}{z:Int}{d:Nat}(h:RNum n z d):RNum (W9 n) (-z) d:=by
 have h0:n.top = []↔z=0:=by rw[h.eq];show lb z.natAbs = []↔_;rw[EW];omega
 refine ⟨?_,h.d0,by rw[Int.natAbs_neg];exact h.cop,by rw[Ahj];exact h.lz,h.ld⟩
 unfold W9
 split
 · rename_i h1
   have hz:=h0.1 h1
   have hd:d=1:=by
    have:=h.cop
    rw[hz,Int.natAbs_zero,Nat.coprime_zero_left]at this
    exact this
   rw[hz,hd,Int.neg_zero,Sk]
 · rename_i h1
   have hz:z≠0:=fun hh=>h1 (h0.2 hh)
   rw[h.eq]
   unfold W0
   simp only[Int.natAbs_neg]
   rw[show decide (-z<0) = !decide (z<0) by rw[Fo,decide_eq_decide];omega]
theorem AbK(a b:Nat)(ha:a<18446744073709551616)(hb:b<18446744073709551616):Sp 327 [.int (a:Int),.int (b:Int)] [dL (lb (Nat.gcd a b))]:=by
 have key : ∀ (m N x y:Nat),y<m→x<18446744073709551616→y<18446744073709551616→Tw (Ql N m (x:Int) (y:Int)) [dL (lb (Nat.gcd x y))]:=by
  intro m
  induction m with
  | zero=>intro N x y h;omega
  | succ m ih =>
   intro N x y h hx hy
   simp only[Tw,JW,Cz,Bz,Fo]
   refine Ad (fun h0=> ?_) (fun h0=> ?_)
   · have hm:=Nat.mod_lt x (show 0<y by omega)
     have:=ih N y (x % y) (by omega) hy (by omega)
     rw[Nat.gcd_comm x y,Nat.gcd_rec,Nat.gcd_comm]
     exact Ae this
   · have:y=0:=by omega
     subst this
     rw[Nat.gcd_zero_right,Ze]
     have e1:IntKind.wrap .u32 (x:Int)=((x % 4294967296:Nat):Int):=by rw[IntKind.wrap_u32];omega
     have e2:IntKind.wrap .u32 ((x / 4294967296:Nat):Int)=((x / 4294967296:Nat):Int):=Fp (by omega) (by omega)
     have nm:=Ej [BitVec.ofNat 32 (x % 4294967296),BitVec.ofNat 32 (x / 4294967296)] (by simp)
     rw[U7 hx]at nm
     rw[e1,e2,Dy (t:=x % 4294967296) (by rw[Be];omega),Dy (t:=x / 4294967296) (by rw[Be];omega)]
     exact Ba (by decide) (Aa nm (Ac rfl))
 refine Ag (b+1) (UV _ _ _) ?_
 simp only[Ah]
 exact key (b+1) (b+1) a b (by omega) ha hb
theorem LE(l:List Av)(h:l.length≤2):Sp 328 [dL l] [.int ((nv l:Nat):Int)]:=by
 refine Ag 3 (Aal _ _) ?_
 have one : ∀ (m k x:Nat) (d:Av),k≤1→l[k]? = some d→(k=0→x=0)→x<4294967296→Tw (Li 3 m ((x+d.toNat*4294967296 ^ k:Nat):Int) (dL l) (l.length:Int) ((k+1:Nat):Int)) [.int ((nv l:Nat):Int)]→Tw (Li 3 (m+1) (x:Int) (dL l) (l.length:Int) (k:Int)) [.int ((nv l:Nat):Int)]:=by
  intro m k x d hk hd hx hx2 hw
  have hkl:k<l.length:=(List.getElem?_eq_some_iff.1 hd).1
  have hdl:=Fa d
  rw[Be]at hdl
  simp only[Tw,W8,Bu,List.length_map,Int.toNat_natCast,Aj hd,Ds]
  rw[Ap (x:=32*(k:Int)) (by omega) (by omega),A_ (x:=32*(k:Int)) (by omega) (by omega),A_ (x:=(d.toNat:Int)) (by omega) (by omega),An (by omega)]
  refine Ae (Ae (Ae (Ae ?_)))
  have e:Bs .or .u64 (x:Int) (IntKind.wrap .u64 ((d.toNat:Int)*2 ^ (min (Int.toNat (32*(k:Int))) (IntKind.bits .u64))))=((x+d.toNat*4294967296 ^ k:Nat):Int):=by
   rcases (by omega:k=0∨k=1) with rfl | rfl
   · rw[hx rfl]
     show Bs .or .u64 ((0:Nat):Int) (IntKind.wrap .u64 ((d.toNat:Int)*1))=_
     rw[Int.mul_one,A_ (by omega) (by omega),Akj (by omega) (by omega)]
     simp
   · show Bs .or .u64 (x:Int) (IntKind.wrap .u64 ((d.toNat:Int)*4294967296))=_
     rw[show (d.toNat:Int)*4294967296=((d.toNat*4294967296:Nat):Int) by omega,A_ (by omega) (by omega),VH hx2 hdl]
     try simp
  rw[e]
  exact hw
 simp only[Bu,List.length_map]
 have fin : ∀ (m x:Nat),nv l=x→Tw (Li 3 (m+1) (x:Int) (dL l) (l.length:Int) (l.length:Int)) [.int ((nv l:Nat):Int)]:=by
  intro m x hx
  simp only[Tw,W8]
  exact Am (by omega) (Ac (by rw[hx]))
 match l,h with
 | [],_=>exact fin 2 0 rfl
 | [d],_ =>
  refine one 2 0 0 d (by omega) rfl (fun _=>rfl) (by omega) ?_
  exact fin 1 _ (by simp[nv])
 | [d,e],_ =>
  have hdl:=Fa d
  rw[Be]at hdl
  refine one 2 0 0 d (by omega) rfl (fun _=>rfl) (by omega) ?_
  rw[show 0+d.toNat*4294967296 ^ 0=d.toNat by simp]
  refine one 1 1 d.toNat e (by omega) rfl (fun h=>by omega) (by omega) ?_
  refine fin 0 _ ?_
  simp only[nv]
  rw[Be,Nat.pow_one,Nat.mul_comm e.toNat]
  simp
theorem QF(a b:List Av)(ha:a.length≤1000)(hb:b.length≤1000):Sp 315 [dL a,dL b] [dL (lb (Nat.gcd (nv a) (nv b)))]:=by
 obtain ⟨K,hK⟩ : ∃ K,K=1000:=⟨_,rfl⟩
 have key : ∀ (m N x y:Nat),y<m→(lb x).length≤K→(lb y).length≤K→Tw (Qi N m (dL (lb x)) (dL (lb y))) [dL (lb (Nat.gcd x y))]:=by
  intro m
  induction m with
  | zero=>intro N x y h;omega
  | succ m ih =>
   intro N x y h hx hy
   simp only[Tw,QE,Bu,List.length_map]
   have ly0:=G9 (n:=y)
   refine Ad (fun h0=> ?_) (fun h0=> ?_)
   · have hy0:y≠0:=fun hh=>by rw[ly0.2 hh]at h0;omega
     have hm:=Nat.mod_lt x (show 0<y by omega)
     have hml:(lb (x % y)).length≤K:=Ax.2 (Nat.lt_of_le_of_lt (Nat.le_of_lt hm) (Ax.1 hy))
     have dm:=Ou (lb x) (lb y) (by omega) (by omega) (PQ _ _ (by rw[By];omega))
     rw[By,By,if_neg hy0]at dm
     have nxt:=ih N y (x % y) (by omega) hy hml
     rw[show Nat.gcd y (x % y)=Nat.gcd x y by rw[Nat.gcd_comm x y,Nat.gcd_rec y x,Nat.gcd_comm]]at nxt
     refine Ad (fun h1=>Ad (fun h2=> ?_) (fun h2=>Aa dm nxt)) (fun h1=>Aa dm nxt)
     have w1:=LE (lb x) (by omega)
     have w2:=LE (lb y) (by omega)
     rw[By]at w1 w2
     have b1:x<18446744073709551616:=Ax.1 (show (lb x).length≤2 by omega)
     have b2:y<18446744073709551616:=Ax.1 (show (lb y).length≤2 by omega)
     exact Aa w1 (Aa w2 (Aa (AbK x y b1 b2) (Ac rfl)))
   · have:y=0:=ly0.1 (by omega)
     subst this
     have nm:=Ej (lb x) (by omega)
     rw[By]at nm
     rw[Nat.gcd_zero_right]
     exact Aa nm (Ac rfl)
 have la:(lb (nv a)).length≤a.length:=Ax.2 (Ck a)
 have lb_:(lb (nv b)).length≤b.length:=Ax.2 (Ck b)
 refine Ag (nv b+1) (AbH _ _ _) (Aa (C9 a (by omega)) (Aa (C9 b (by omega)) ?_))
 exact key (nv b+1) (nv b+1) (nv a) (nv b) (by omega) (by omega) (by omega)
theorem Dp(n:Num):Sp 255 [dN n] [dW ⟨false,n.bot⟩]:=Ag 0 (WH _ _) (Ac rfl)
theorem Ag_{w:Wh}(h:nv w.mag≠0):decide (zv w<0)=w.neg:=by
 rw[show w.neg=decide (w.neg=true) by simp,decide_eq_decide];exact ID h
theorem Ox(p q:Wh)(hp:p.mag.length≤1000)(hq:q.mag.length≤1000):Sp 305 [dW p,dW q] (Gt (Js (zv p) (zv q))):=by
 refine Ag 0 (QT _ _ _) (Aa (Ej p.mag (by omega)) (Aa (Ej q.mag (by omega)) ?_))
 have lp:(lb (nv p.mag)).length≤p.mag.length:=Ax.2 (Ck _)
 have lq:(lb (nv q.mag)).length≤q.mag.length:=Ax.2 (Ck _)
 have ap:=Rp p
 have aq:=Rp q
 have sgn : ∀ t:Nat,(0<(lb t).length→nv p.mag≠0)→nv q.mag≠0→(decide (0<(lb t).length)&& !(decide (zv p<0)==decide (zv q<0)))=if 0<(lb t).length then !(p.neg == q.neg) else false:=by
   intro t h1 h2
   split
   · rename_i h3
     rw[decide_eq_true h3,Bool.true_and,Ag_ (h1 h3),Ag_ h2]
   · rename_i h3
     rw[decide_eq_false h3,Bool.false_and]
 simp only[Af,L8,Lm,Bu,List.length_map,Al,Bz]
 have ly0:=G9 (n:=nv q.mag)
 refine Ad (fun h=>Ac ?_) (fun h=> ?_)
 · have:zv q=0:=AG.2 (ly0.1 (by omega))
   unfold Js;rw[if_pos this];rfl
 have hq0:nv q.mag≠0:=fun hh=>h (by rw[hh,Ct];rfl)
 have hqz:zv q≠0:=fun hh=>hq0 (AG.1 hh)
 have fin : ∀ g:Nat,g=Nat.gcd (nv p.mag) (nv q.mag)→∀ (t b:Nat),t=nv p.mag / g→b=nv q.mag / g→Tw (.br (decide (32<((lb t).length:Int))) (.ret [D.agg [D.bool false,D.sl [],D.sl []],D.int 7]) (.br (decide (32<((lb b).length:Int))) (.ret [D.agg [D.bool false,D.sl [],D.sl []],D.int 7]) (.br (decide (0<((lb t).length:Int))) (.ret [D.agg [D.bool (!(p.neg == q.neg)),dL (lb t),dL (lb b)],D.int 0]) (.ret [D.agg [D.bool false,dL (lb t),dL (lb b)],D.int 0])))) (Gt (Js (zv p) (zv q))):=by
   intro g hg t b ht hb
   have sg:=sgn t (fun h3 hh=>by rw[ht,hh,Nat.zero_div,Ct]at h3;simp at h3) hq0
   unfold Js Gt
   rw[if_neg hqz,ap,aq,← hg,← ht,← hb,sg]
   refine Ad (fun h1=>Ac ?_) (fun h1=>Ad (fun h2=>Ac ?_) (fun h2=>Ad (fun h3=>Ac ?_) (fun h3=>Ac ?_)))
   · rw[if_pos (by omega)];rfl
   · rw[if_pos (by omega)];rfl
   · rw[if_neg (by omega),if_pos (by omega)];rfl
   · rw[if_neg (by omega),if_neg (by omega)];rfl
 refine Aa (Fb _) ?_
 simp only[Af,Al,Fo]
 have one : ∀ l:List Av,l = [1]→nv l=1:=fun l h=>by rw[h];simp[nv]
 refine Ad (fun h1=> ?_) (fun h1=> ?_)
 · have gc:=QF (lb (nv p.mag)) (lb (nv q.mag)) (by omega) (by omega)
   rw[By,By]at gc
   refine Aa gc (Aa (Fb _) ?_)
   simp only[Af,Al,Fo]
   have hg0:Nat.gcd (nv p.mag) (nv q.mag)≠0:=fun hh=>hq0 (Nat.gcd_eq_zero_iff.1 hh).2
   have hgl:(lb (Nat.gcd (nv p.mag) (nv q.mag))).length≤q.mag.length:=Ax.2 (Nat.lt_of_le_of_lt (Nat.gcd_le_right _ (by omega)) (Ck _))
   refine Ad (fun h2=> ?_) (fun h2=> ?_)
   · have d1:=Ou (lb (nv p.mag)) (lb (Nat.gcd (nv p.mag) (nv q.mag))) (by omega) (by omega) (PQ _ _ (by rw[By];omega))
     have d2:=Ou (lb (nv q.mag)) (lb (Nat.gcd (nv p.mag) (nv q.mag))) (by omega) (by omega) (PQ _ _ (by rw[By];omega))
     rw[By,By]at d1 d2
     refine Aa d1 (Aa d2 ?_)
     simp only[Af,Bu,List.length_map]
     exact fin _ rfl _ _ rfl rfl
   · have:Nat.gcd (nv p.mag) (nv q.mag)=1:=by have:=one _ (Classical.not_not.1 h2);rwa[By]at this
     exact fin 1 this.symm _ _ (Nat.div_one _).symm (Nat.div_one _).symm
 · have hq1:nv q.mag=1:=by have:=one _ (Classical.not_not.1 h1);rwa[By]at this
   exact fin 1 (by rw[hq1,Nat.gcd_one_right]) _ _ (Nat.div_one _).symm (Nat.div_one _).symm
def Y9(n:Num):Prop:=n.top.length≤200∧n.bot.length≤200
theorem RNum.sm {n:Num} {z:Int} {d:Nat} (h:RNum n z d):Y9 n:=by have:=h.len;unfold Y9;omega
section
variable {a b:Num}
theorem FP(ha:Y9 a)(hb:Y9 b):Sp 277 [dN a,dN b] (Gt (AgB a b)):=by
 obtain ⟨a1,a2⟩:=ha
 obtain ⟨b1,b2⟩:=hb
 have at_:=Mf a;have ab:=Me a;have bt:=Mf b;have bb:=Me b
 have m1:=Ih (Cg a) (Ca b)
 have m2:=Ih (Cg b) (Ca a)
 have m3:=Ih (Ca a) (Ca b)
 have s1:=Ahi (Cg a*Ca b) (Cg b*Ca a)
 have x1:=Ef ⟨a.neg,a.top⟩ ⟨false,b.bot⟩ (by show a.top.length≤_;omega) (by show b.bot.length≤_;omega)
 have x2:=Ef ⟨b.neg,b.top⟩ ⟨false,a.bot⟩ (by show b.top.length≤_;omega) (by show a.bot.length≤_;omega)
 have x3:=Ef ⟨false,a.bot⟩ ⟨false,b.bot⟩ (by show a.bot.length≤_;omega) (by show b.bot.length≤_;omega)
 have x4:=Xw (wz (Cg a*Ca b)) (wz (Cg b*Ca a)) (by rw[U_];omega) (by rw[U_];omega)
 have x5:=Ox (wz (Cg a*Ca b+Cg b*Ca a)) (wz (Ca a*Ca b)) (by rw[U_];omega) (by rw[U_];omega)
 rw[Oe,Rq]at x1 x2
 rw[Rq,Rq]at x3
 rw[Eh,Eh]at x4 x5
 exact Ag 0 (VX _ _ _) (Aa (C0 a) (Aa (Dp b) (Aa x1 (Aa (C0 b) (Aa (Dp a) (Aa x2 (Aa x4 (Aa (Dp a) (Aa (Dp b) (Aa x3 (Aa x5 (Ac rfl))))))))))))
theorem Xh(ha:Y9 a)(hb:Y9 b):Sp 279 [dN a,dN b] (Gt (UT a b)):=by
 obtain ⟨a1,a2⟩:=ha
 obtain ⟨b1,b2⟩:=hb
 have at_:=Mf a;have ab:=Me a;have bt:=Mf b;have bb:=Me b
 have m1:=Ih (Cg a) (Cg b)
 have m3:=Ih (Ca a) (Ca b)
 have x1:=Ef ⟨a.neg,a.top⟩ ⟨b.neg,b.top⟩ (by show a.top.length≤_;omega) (by show b.top.length≤_;omega)
 have x3:=Ef ⟨false,a.bot⟩ ⟨false,b.bot⟩ (by show a.bot.length≤_;omega) (by show b.bot.length≤_;omega)
 have x5:=Ox (wz (Cg a*Cg b)) (wz (Ca a*Ca b)) (by rw[U_];omega) (by rw[U_];omega)
 rw[Oe,Oe]at x1
 rw[Rq,Rq]at x3
 rw[Eh,Eh]at x5
 exact Ag 0 (WD _ _ _) (Aa (C0 a) (Aa (C0 b) (Aa x1 (Aa (Dp a) (Aa (Dp b) (Aa x3 (Aa x5 (Ac rfl))))))))
theorem Qu(ha:Y9 a)(hb:Y9 b):Sp 260 [dN a,dN b] (Gt (MJ a b)):=by
 obtain ⟨a1,a2⟩:=ha
 obtain ⟨b1,b2⟩:=hb
 have at_:=Mf a;have ab:=Me a;have bt:=Mf b;have bb:=Me b
 have m1:=Ih (Cg a) (Ca b)
 have m3:=Ih (Ca a) (Cg b)
 have x1:=Ef ⟨a.neg,a.top⟩ ⟨false,b.bot⟩ (by show a.top.length≤_;omega) (by show b.bot.length≤_;omega)
 have x3:=Ef ⟨false,a.bot⟩ ⟨b.neg,b.top⟩ (by show a.bot.length≤_;omega) (by show b.top.length≤_;omega)
 have x5:=Ox (wz (Cg a*Ca b)) (wz (Ca a*Cg b)) (by rw[U_];omega) (by rw[U_];omega)
 rw[Oe,Rq]at x1
 rw[Rq,Oe]at x3
 rw[Eh,Eh]at x5
 exact Ag 0 (VZ _ _ _) (Aa (C0 a) (Aa (Dp b) (Aa x1 (Aa (Dp a) (Aa (C0 b) (Aa x3 (Aa x5 (Ac rfl))))))))
theorem NC(h:a.bot = [1]):Ca a=1:=by unfold Ca;rw[h];simp[nv]
theorem Qt(ha:Y9 a)(hb:Y9 b):Sp 219 [dN a,dN b] [.int (Sg a b)]:=by
 obtain ⟨a1,a2⟩:=ha
 obtain ⟨b1,b2⟩:=hb
 have at_:=Mf a;have ab:=Me a;have bt:=Mf b;have bb:=Me b
 have m1:=Ih (Cg a) (Ca b)
 have m2:=Ih (Cg b) (Ca a)
 have x1:=Ef ⟨a.neg,a.top⟩ ⟨false,b.bot⟩ (by show a.top.length≤_;omega) (by show b.bot.length≤_;omega)
 have x2:=Ef ⟨b.neg,b.top⟩ ⟨false,a.bot⟩ (by show b.top.length≤_;omega) (by show a.bot.length≤_;omega)
 have x4:=HY (wz (Cg a*Ca b)) (wz (Cg b*Ca a)) (by rw[U_];omega) (by rw[U_];omega)
 have x5:=HY ⟨a.neg,a.top⟩ ⟨b.neg,b.top⟩ (by show a.top.length≤_;omega) (by show b.top.length≤_;omega)
 rw[Oe,Rq]at x1 x2
 rw[Eh,Eh]at x4
 rw[Oe,Oe]at x5
 refine Ag 0 (VY _ _ _) (Aa (Fb a.bot) ?_)
 simp only[Af,Al]
 refine Ad (fun h=>Aa (Fb b.bot) ?_) (fun h=>Aa (C0 a) (Aa (Dp b) (Aa x1 (Aa (C0 b) (Aa (Dp a) (Aa x2 (Aa x4 (Ac rfl))))))))
 simp only[Af,Al]
 refine Ad (fun h'=> ?_) (fun h'=>Aa (C0 a) (Aa (Dp b) (Aa x1 (Aa (C0 b) (Aa (Dp a) (Aa x2 (Aa x4 (Ac rfl))))))))
 refine Aa (C0 a) (Aa (C0 b) (Aa x5 (Ac ?_)))
 unfold Sg
 rw[NC h,NC h',Int.mul_one,Int.mul_one];rfl
theorem Oy(ha:Y9 a):Sp 259 [dN a] [.int (Mm (Cg a))]:=by
 obtain ⟨a1,a2⟩:=ha
 exact Ag 0 (QV _ _) (Aa (C0 a) (Aa (Pf ⟨a.neg,a.top⟩ (by show a.top.length≤_;omega)) (Ac rfl)))
end
section
variable {a b:Num} {z y:Int} {d e:Nat}
def BY(neg:Bool)(n:Num):Num:=⟨neg&&decide (0<n.top.length),n.top,n.bot⟩
theorem Qw(neg:Bool)(h:RNum a z d):Sp 304 [.bool neg,dN a] [dN (BY neg a)]:=by
 obtain ⟨l1,l2⟩:=h.len
 have e1:lb (nv a.top)=a.top:=by rw[h.eq];show lb (nv (lb _))=lb _;rw[By]
 have e2:lb (nv a.bot)=a.bot:=by rw[h.eq];show lb (nv (lb _))=lb _;rw[By]
 have n1:=Ej a.top (by omega)
 have n2:=Ej a.bot (by omega)
 rw[e1]at n1
 rw[e2]at n2
 refine Ag 0 (JX _ _ _) (Aa n1 (Aa n2 ?_))
 simp only[Af,Bu,List.length_map,Al]
 unfold BY
 cases neg with
 | true =>
  refine Ba rfl (Ac ?_)
  rw[Bool.true_and,show decide ((0:Int)<(a.top.length:Int))=decide (0<a.top.length) by rw[decide_eq_decide];omega];rfl
 | false=>exact Cs rfl (Ac rfl)
theorem RNum.top0 (h:RNum a z d):a.top = []↔z=0:=by rw[h.eq];show lb z.natAbs = []↔_;rw[EW];omega
theorem RNum.sgn (h:RNum a z d):a.neg=decide (z<0):=by rw[h.eq];rfl
theorem AhN(h:RNum a z d):BY (!a.neg) a=W9 a:=by
 unfold BY W9
 split
 · rename_i h0
   rw[h0]
   have hz:=h.top0.1 h0
   have hd:d=1:=by
    have:=h.cop
    rw[hz,Int.natAbs_zero,Nat.coprime_zero_left]at this
    exact this
   have hb:a.bot = [1]:=by rw[h.eq,hd];exact Sn
   rw[hb];simp[G4,Ct]
 · rename_i h0
   rw[decide_eq_true (List.length_pos_iff.2 h0),Bool.and_true]
theorem Agv(h:RNum a z d):BY a.neg a=a:=by
 unfold BY
 have:(a.neg&&decide (0<a.top.length))=a.neg:=by
  by_cases h0:a.top = []
  · have:=h.top0.1 h0
    rw[h.sgn,this];simp
  · rw[decide_eq_true (List.length_pos_iff.2 h0),Bool.and_true]
 rw[this]
theorem Qv(h:RNum a z d):Sp 258 [dN a] [dN (W9 a)]:=by
 refine Ag 0 (WE _ _) ?_
 simp only[MD,Al]
 refine Aa (Qw _ h) (Ac ?_)
 rw[AhN h];rfl
theorem Ace(h:RNum a z d):Sp 263 [dN a] [dN ⟨false,a.top,a.bot⟩]:=by
 refine Ag 0 (VW _ _) (Aa (Qw _ h) (Ac ?_))
 simp[BY]
theorem FR(ha:Y9 a)(h:RNum b z d):Sp 278 [dN a,dN b] (Gt (AhR a b)) :=
 Ag 0 (WG _ _ _) (Aa (Qv h) (Aa (FP ha (UX h).sm) (Ac rfl)))
theorem UI(h:RNum a z d):Cj (Nr z (d:Int)).1≤32:=by
 have hd0:=h.d0
 obtain ⟨e1,_,e3,e4,_⟩:=AgS z (d:Int) (by omega)
 have hl:=h.lz
 have hz:=UP z
 have hz2:z.natAbs<B ^ 32:=Nat.lt_of_lt_of_le hz (Nat.pow_le_pow_right Cd hl)
 have e5:=e4 (by omega)
 refine Zr ?_
 generalize (Nr z (d:Int)).1=q at *
 generalize (Nr z (d:Int)).2=r at *
 have hB2:4≤B ^ 32:=by decide
 generalize B ^ 32=P at *
 have hr:r<(d:Int):=by omega
 rcases Nat.lt_or_ge 1 d with h1 | h1
 ·
   rcases Nat.lt_or_ge q.natAbs P with h2 | h2
   · exact h2
   · exfalso
     rcases Int.le_total 0 q with h3 | h3
     · have:q*2≤q*(d:Int):=Int.mul_le_mul_of_nonneg_left (by omega) h3
       omega
     · have:(-q)*2≤(-q)*(d:Int):=Int.mul_le_mul_of_nonneg_left (by omega) (by omega)
       have h4:(-q)*(d:Int) = -(q*(d:Int)):=Int.neg_mul _ _
       have h5:(-q-1)*2≤(-q-1)*(d:Int):=Int.mul_le_mul_of_nonneg_left (by omega) (by omega)
       have h6:(-q-1)*(d:Int) = -(q*(d:Int))-(d:Int):=by rw[Int.sub_mul,Int.neg_mul,Int.one_mul]
       omega
 · obtain rfl:d=1:=by omega
   have:q*((1:Nat):Int)=q:=by simp
   omega
theorem Abw(h:RNum a z d):RNum (Yw a) (Nr z (d:Int)).1 1:=by
 have hf:Yw a=G4 (Nr z (d:Int)).1:=by unfold Yw;rw[h.top,h.bot]
 exact ⟨by rw[hf,Sk],by decide,Nat.coprime_one_right _,UI h,by rw[Sn];decide⟩
theorem AfD(h:RNum a z d):U9 (Nr (Cg a) (Ca a)).1=Yw a:=by
 unfold U9 Yw
 have:=UI h
 rw[h.top,h.bot,if_neg (by unfold Cj at this;omega)]
theorem AiJ(h:RNum a z d):Cj (Nr (Cg a) (Ca a)).1≤32:=by rw[h.top,h.bot];exact UI h
theorem RNum.botnz (h:RNum a z d):Ca a≠0:=by rw[h.bot];have:=h.d0;omega
theorem Sw(h:RNum a z d):Sp 262 [dN a] [dN (Yw a)]:=by
 obtain ⟨l1,l2⟩:=h.len
 have dm:=TF ⟨a.neg,a.top⟩ ⟨false,a.bot⟩ (by show a.top.length≤_;omega) (by show a.bot.length≤_;omega) (PQ _ _ (by have:(lb (nv a.top)).length≤a.top.length:=Ax.2 (Ck _);show (lb (nv a.top)).length≤_;omega))
 rw[Oe,Rq]at dm
 unfold dmD at dm
 rw[if_neg h.botnz]at dm
 have dl:=AiJ h
 have wh:=M9 (wz (Nr (Cg a) (Ca a)).1) (by rw[U_];omega)
 rw[Eh,AfD h]at wh
 exact Ag 0 (NK _ _) (Aa (C0 a) (Aa (Dp a) (Aa dm (Aa wh (Ac rfl)))))
theorem Aat(h:RNum a z d):Sp 261 [dN a] [dN (W9 (Yw (W9 a)))] :=
 Ag 0 (QS _ _) (Aa (Qv h) (Aa (Sw (UX h)) (Aa (Qv (Abw (UX h))) (Ac rfl))))
theorem Ad_(ha:RNum a z d)(hb:RNum b y e)(hy:y≠0)(h:(MJ a b).2=0) : ∃ x c,RNum (MJ a b).1 x c:=by
 have hq:Ca a*Cg b≠0:=Int.mul_ne_zero ha.botnz (by rw[hb.top];exact hy)
 obtain ⟨x,c,h1,_⟩:=(AfQ hq).1 h
 exact ⟨x,c,h1⟩
theorem Aja(ha:RNum a z d)(hb:RNum b y e)(h:(UT a b).2=0) : ∃ x c,RNum (UT a b).1 x c:=by
 have hq:Ca a*Ca b≠0:=Int.mul_ne_zero ha.botnz hb.botnz
 obtain ⟨x,c,h1,_⟩:=(AfQ hq).1 h
 exact ⟨x,c,h1⟩
theorem GT{x:Int} : Mm x=0↔x=0:=by unfold Mm;by_cases h1:x<0 <;> by_cases h2:x=0 <;> simp[h1,h2]
theorem Ach(ha:RNum a z d)(hb:RNum b y e):Sp 280 [dN a,dN b] (Gt (Ahv a b)):=by
 refine Ag 0 (WC _ _ _) (Aa (Oy ha.sm) ?_)
 simp only[Af,Ah,Bz,MD,Al]
 unfold Ahv
 refine Ad (fun h=>Aa (Qw _ hb) (Ac ?_)) (fun h=>Aa (Qu hb.sm ha.sm) ?_)
 · rw[if_pos (ha.top0.2 (by rw[← ha.top];exact GT.1 h)),Agv hb];rfl
 have hz:z≠0:=fun hh=>h (by rw[ha.top,hh];rfl)
 rw[if_neg (fun hh=>hz (ha.top0.1 hh))]
 simp only[Gt,Af,Ce,Ah,Cz,J5]
 unfold IF
 refine Ad (fun h1=>Ac ?_) (fun h1=> ?_)
 · rw[if_neg h1]
 have h1':=Classical.not_not.1 h1
 rw[if_pos h1']
 obtain ⟨x,c,hr⟩:=Ad_ hb ha hz h1'
 refine Aa (Sw hr) (Aa (Xh ha.sm (Abw hr).sm) ?_)
 simp only[Gt,Af,Ce,Ah,Cz]
 refine Ad (fun h2=>Ac ?_) (fun h2=> ?_)
 · rw[if_neg h2]
 have h2':=Classical.not_not.1 h2
 rw[if_pos h2']
 obtain ⟨x2,c2,hr2⟩:=Aja ha (Abw hr) h2'
 exact Aa (FR hb.sm hr2) (Ac rfl)
end
end Go.Proofs.YtokkbgpgaheakaaGreat
