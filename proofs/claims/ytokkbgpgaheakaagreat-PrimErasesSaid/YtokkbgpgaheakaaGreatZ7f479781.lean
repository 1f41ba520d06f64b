/- Proved: lemmas for the law of this folder, part 7. No condition. -/
import Derived.Test.YtokkbgpgaheakaaGreatRows
import Derived.WalkKit
import Derived.WalkSpells
import Derived.WalkLawsBesides
import Derived.Lib.Hide
import Derived.Laws.CopyOwn
import Derived.Deep.QuietTactic
import Derived.BigQuiet
import Derived.Orders
import Derived.Defers
import Derived.Recover
import Derived.Test.YtokkbgpgaheakaaGreatProg
import Derived.KernelRfl
import Derived.ProofKit
import Derived.OpenShut
import Derived.Maps.OwnRows
import Derived.Maps.Views
import Derived.Deep.RegionHeld3
import Derived.Deep.AppendLies
import Derived.Test.YtokkbgpgaheakaaGreatZ2a9ff48a
set_option linter.unusedSimpArgs false
set_option linter.unusedVariables false
set_option maxRecDepth 100000
open Array renaming getElem?_eq_getElem → Ap7, getElem?_eq_some_iff → Aqi, getD_eq_getD_getElem? → Aqo
open BitVec renaming ofNat → Ap5
open Bool renaming and_eq_true → Apt
open Classical renaming not_not → Apw
open Int renaming toNat → Apj, toNat_natCast → Apr, fdiv → Aqd
open Go.IntKind renaming wrap → Api, bits → Apv
open List renaming getElem?_eq_getElem → Apk, replicate → Apl, length_map → Apm, getD_eq_getElem?_getD → Apn, getElem?_eq_some_iff → Apo, length_cons → App, mem_of_getElem? → Apq, length_append → Apu, length_drop → Apy, length_take → Ap0, length_nil → Ap1, getElem?_map → Ap2, mem_cons → Ap4, append_nil → Ap6, append_assoc → Ap8, map_cons → Ap9, getElem?_append_left → Ap_, drop_eq_getElem_cons → Aqa, length_eq_zero_iff → Aqb, take_append_drop → Aqf, take_of_length_le → Aqh, range → Aqj, getElem_mem → Aql, getElem?_append_right → Aqn, length_replicate → Aqp, mem_cons_of_mem → Aqq, mem_append → Aqs, mem_map → Aqw, nil_append → Aqx
open Nat renaming le_refl → Apx, mul_le_mul_right → Ap3, mod_eq_of_lt → Aqc, mod_lt → Aqe, mul_comm → Aqg, lt_of_lt_of_le → Aqk, div_div_eq_div_mul → Aqm, pow_succ → Aqr, div_lt_iff_lt_mul → Aqu, zero_add → Aqv
open Option renaming map_eq_some_iff → Apz, bind_eq_some_iff → Aqt
open Option.some renaming injEq → Aps
namespace Go.Proofs.YtokkbgpgaheakaaGreat
def kk(d:Nat)(cs:List Cell)(dn:Bool)(i j:Nat):Int:=if dn then I1 d (cs.getD j (Bf 0)) (cs.getD i (Bf 0)) else I1 d (cs.getD i (Bf 0)) (cs.getD j (Bf 0))
theorem EJ{d:Nat}{cs:List Cell}(h : ∀ c∈cs,Bo d c=true)(i:Nat):Bo d (cs.getD i (Bf 0))=true:=by
 rw[Apn]
 cases hg:cs[i]? with
 | none=>exact J0 d I6
 | some c=>exact h c (Apq hg)
theorem Tz{d:Nat}{cs:List Cell}{dn:Bool}(h : ∀ c∈cs,Bo d c=true):U2 (kk d cs dn):=by
 have r:=(AaE d).1
 have o:=EJ h
 cases dn with
 | false=>exact ⟨fun x y _ _=>r.val _ _ (o x) (o y),fun x y _ _=>r.flip _ _ (o x) (o y),fun x y z _ _ _=>r.go _ _ _ (o x) (o y) (o z)⟩
 | true=>exact ⟨fun x y _ _=>r.val _ _ (o y) (o x),fun x y _ _=>r.flip _ _ (o y) (o x),fun x y z _ _ _ h1 h2=>r.go _ _ _ (o z) (o y) (o x) h2 h1⟩
abbrev Em(dn:Bool)(a:Arr):D:=D.fn 156 [.ref 4,.ref 26] [.ref (.bool dn),.ref (dA a)]
section
variable {d:Nat} {a:Arr} {dn:Bool} (ha : ∀ c∈a.cells,Bo d c=true)
include ha
theorem W6{i j:Nat}(hi:i<a.cells.length)(hj:j<a.cells.length):Ec Tryz.prog md 156 [.ref 4,.ref 26] [dP i,dP j,.ref (.bool dn),.ref (dA a)] [.int (kk d a.cells dn i j)]:=by
 have cell : ∀ i,i<a.cells.length→(a.cells.map dC).getD i D.nil=dC (a.cells.getD i (Bf 0)):=fun i hi=>by
   rw[Au (Apk hi),Apn,Apk hi];rfl
 have o:=EJ ha
 refine Af 0 (Af_ _ _ _ _ _) ?_
 simp only[DE,Bc,FG,Ee,PQ,Apr,Apm,cell i hi,cell j hj]
 refine Cl (fun h=> ?_) (fun h=> ?_)
 · refine Ad (Ad (Ad (Ad (Aa ((GT d).1 _ _ (o j) (o i)) (Ac ?_)))))
   simp only[Ag,Ao,kk,if_pos h]
 · refine Ad (Ad (Ad (Ad (Aa ((GT d).1 _ _ (o i) (o j)) (Ac ?_)))))
   simp only[Ag,Ao,kk,h]
   rfl
theorem SM(A X B:List Nat)(hX:X.Pairwise (· < ·))(hin : ∀ x∈X,x<a.cells.length)(hlen:A.length+X.length+B.length≤100000):Sp 250 [.sl ((A++X++B).map dP),.int (A.length:Int),.int ((A.length+X.length:Nat):Int),Em dn a] [.sl ((A++Bm (kk d a.cells dn) X++B).map dP)]:=by
 have hk:=Tz (dn:=dn) ha
 generalize hkk:kk d a.cells dn=k at *
 refine Af 200000 (Anb _ _ _ _ _ _) ?_
 simp only[Ee,Ao]
 have outer : ∀ (m t:Nat),t≤X.length→1≤t∨X.length=0→X.length-t<m→Tw (Q9 200000 m ((A++Bm k (X.take t)++X.drop t++B).map dP) (A.length:Int) ((A.length+X.length:Nat):Int) (Em dn a) ((A.length+t:Nat):Int)) [.sl ((A++Bm k X++B).map dP)]:=by
   intro m
   induction m with
   | zero=>intro t _ _ h;omega
   | succ m ih =>
    intro t ht h1 hm
    simp only[Ab6]
    by_cases he:t<X.length
    · refine Ad ?_
      have hd:X.drop t=X[t]::X.drop (t+1):=Aqa he
      have hy:X[t]∈X:=Aql he
      have hyl:=hin _ hy
      have htk:X.take (t+1)=X.take t++[X[t]]:=by rw[List.take_add_one,Apk he];rfl
      have hlt : ∀ z∈X.take t,z<X[t]:=fun z hz=>by
       obtain ⟨j,hj,rfl⟩:=List.mem_iff_getElem.1 hz
       rw[Ap0]at hj
       rw[List.getElem_take]
       exact List.pairwise_iff_getElem.1 hX j t (by omega) he (by omega)
      have hZs:=K2 hk (X.take t)
      have hZm : ∀ z∈Bm k (X.take t),z<X[t]∧z<a.cells.length:=fun z hz=>⟨hlt z (Ir.1 hz),hin z (List.mem_of_mem_take (Ir.1 hz))⟩
      have hZl:(Bm k (X.take t)).length=t:=by rw[D0,Ap0];omega
      have hZp:=K1 k (X.take t)
      have nxt : ∀ Z,Z.Perm (X.take (t+1))→Z.Pairwise (Bz k)→Tw (Q9 200000 m ((A++Z++X.drop (t+1)++B).map dP) (A.length:Int) ((A.length+X.length:Nat):Int) (Em dn a) ((A.length+(t+1):Nat):Int)) [.sl ((A++Bm k X++B).map dP)]:=fun Z h1 h2=>by
       rw[← Ly hk h1 h2]
       exact ih (t+1) (by omega) (by omega) (by omega)
      rw[hd]
      generalize X[t]=y at *
      generalize Bm k (X.take t)=Z at *
      have hw:Api .i64 (((A.length+t:Nat):Int)+1)=((A.length+(t+1):Nat):Int):=by rw[Aw (by omega) (by omega)];omega
      have inner:=Js (P:=Tryz.prog) (md:=md) (fun q j (_:Unit)=>CJ 200000 m q ((A++Z.take j++y::(Z.drop j++X.drop (t+1)++B)).map dP) (A.length:Int) ((A.length+X.length:Nat):Int) (Em dn a) ((A.length+t:Nat):Int) ((A.length+j:Nat):Int)) (fun _ _=>[.sl ((A++Bm k X++B).map dP)]) (fun j _=>j≤t∧∀ z∈Z.drop j,¬ Bz k z y)
       (fun q s hI=>by
        simp only[Ab7,hw]
        refine Ar ?_
        have:=nxt (y::Z) (by rw[htk];exact (hZp.cons y).trans (List.perm_append_singleton y _).symm) (List.pairwise_cons.2 ⟨fun z hz=>N_ hk (hI.2 z (by simpa using hz)),hZs⟩)
        simpa using this)
       (fun q j s hI ih'=>by
        obtain ⟨hj,hd2⟩:=hI
        have hjl:j<Z.length:=by omega
        have hz:Z[j]∈Z:=Aql hjl
        have e1:Z.take (j+1)=Z.take j++[Z[j]]:=by rw[List.take_add_one,Apk hjl];rfl
        have e2:Z.drop j=Z[j]::Z.drop (j+1):=Aqa hjl
        have hzl:=hZm _ hz
        have hsl:=Up hk (z:=y) hZs (Apk hjl)
        rw[e1]
        rw[e2]at ih'
        generalize Z[j]=z at *
        have tl:(Z.take j).length=j:=by rw[Ap0];omega
        have hdl:(Z.drop (j+1)).length=t-(j+1):=by rw[Apy];omega
        have ed:A++(Z.take j++[z])++y::(Z.drop (j+1)++X.drop (t+1)++B)=(A++Z.take j)++z::([]++y::(Z.drop (j+1)++X.drop (t+1)++B)):=by simp
        have w1:Api .i64 (((A.length+(j+1):Nat):Int)-1)=((A.length+j:Nat):Int):=by rw[Aw (by omega) (by omega)];omega
        have al:(A++Z.take j).length=A.length+j:=by rw[Apu,tl]
        have bl:A.length+(t+1)≤A.length+X.length:=by omega
        have dl:(X.drop (t+1)).length=X.length-(t+1):=by rw[Apy]
        rw[ed]
        simp only[Ab7,w1,hw,Apr,H6,H4,H5,List.cons_append,Rv (show A.length+j=(A++Z.take j).length from al.symm),Vi (M:=[]) (show A.length+(j+1)=(A++Z.take j).length+1+([]:List Nat).length by rw[al];simp;omega),Apm,List.length_set]
        have hll:(A++Z.take j++z::([]++y::(Z.drop (j+1)++X.drop (t+1)++B))).length=A.length+X.length+B.length:=by simp only[Apu,App,Ap1,tl,hdl,dl];omega
        simp only[List.cons_append,Aqx]at hll
        simp only[Aqx,hll]
        refine Ad (Ad (Ad (Ad (Ad (Aa (W6 (dn:=dn) ha hyl hzl.2) ?_)))))
        simp only[Ag,Ao,hkk]
        refine Ae (fun h=> ?_) (fun h=> ?_)
        · have hn:=(Mo hk hzl.1).1 h
          refine Ad (Ad (Ad (Ad (Ad (Ad (Ad (Ad ?_)))))))
          have sw:=AbP (A:=A++Z.take j) (M:=[]) (x:=z) (y:=y) (B:=Z.drop (j+1)++X.drop (t+1)++B) (i:=A.length+j) (j:=A.length+(j+1)) al.symm (by rw[al];simp;omega)
          simp only[Aqx]at sw
          have sw2:(((A++Z.take j++z::y::(Z.drop (j+1)++X.drop (t+1)++B)).map dP).set (A.length+(j+1)) (D.int (dP z).toInt)).set (A.length+j) (D.int (dP y).toInt)=_:=sw
          rw[sw2]
          have:=ih' () ⟨by omega,fun x hx=>by
           rcases Ap4.1 hx with rfl | hx
           · exact hn
           · exact hd2 x hx⟩
          simpa using this
        · have hp:Bz k z y:=Apw.1 (fun hh=>h ((Mo hk hzl.1).2 hh))
          have:=nxt (Z.take (j+1)++y::Z.drop (j+1)) (by
            rw[htk]
            refine List.Perm.trans ?_ (hZp.append_right [y])
            refine List.Perm.trans List.perm_middle ?_
            rw[Aqf]
            exact (List.perm_append_singleton y _).symm) (CS (hZs.sublist (List.take_sublist _ _)) (List.pairwise_cons.2 ⟨fun x hx=>N_ hk (hd2 x hx),hZs.sublist (List.drop_sublist _ _)⟩) (fun x hx w hw=>by
            have h1:=hsl hp x hx
            rcases Ap4.1 hw with rfl | hw
            · exact h1
            · exact P2 hk h1 (N_ hk (hd2 w hw))))
          rw[e1]at this
          simpa using this)
       200000 t () (by omega) ⟨Apx _,fun z hz=>by rw[List.drop_of_length_le (by omega)]at hz;cases hz⟩
      rw[Aqh (by omega),List.drop_of_length_le (by omega)]at inner
      simpa using inner
    · refine Ar (Ac ?_)
      rw[Aqh (by omega),List.drop_of_length_le (by omega)]
      simp
 by_cases h0:X.length=0
 · have hX0:=Aqb.1 h0
   subst hX0
   rw[Aw (by omega) (by simp at hlen;omega)]
   simp only[Ab6]
   exact Oz (by simp only[Ap1];omega) (Ac (by simp[Bm]))
 · have:=outer 200000 1 (by omega) (by omega) (by omega)
   rw[Anx (by rw[Ap0];omega)]at this
   rw[show A++X.take 1++X.drop 1++B=A++X++B by rw[Ap8 A,Aqf]]at this
   rw[show Api .i64 ((A.length:Int)+1)=((A.length+1:Nat):Int) by rw[Aw (by omega) (by omega)];rfl]
   exact this
omit ha in
theorem LX(A U M V B:List Nat)(n:Nat)(hu:U.length=n)(hv:V.length=n)(hlen:A.length+n+M.length+n+B.length≤100000):Sp 322 [.sl ((A++U++M++V++B).map dP),.int (A.length:Int),.int ((A.length+n+M.length:Nat):Int),.int (n:Int),Em dn a] [.sl ((A++V++M++U++B).map dP)]:=by
 refine Af 200000 (Anj _ _ _ _ _ _ _) ?_
 simp only[Ee,Ao]
 have key:=Di n (fun m i (_:Unit)=>CO 200000 m ((A++(V.take i++U.drop i)++M++(U.take i++V.drop i)++B).map dP) (A.length:Int) ((A.length+n+M.length:Nat):Int) (n:Int) (i:Int)) (fun _ _=>[.sl ((A++V++M++U++B).map dP)]) (fun _ _=>True)
  (fun m s _=>by
   simp only[Ab8]
   refine Ar (Ac ?_)
   rw[Aqh (by omega),Aqh (by omega),List.drop_of_length_le (by omega),List.drop_of_length_le (by omega)]
   simp)
  (fun m i s hi _ ih=>by
   have ih:=ih () trivial
   have e1:U.take (i+1)=U.take i++[U[i]'(by omega)]:=by rw[List.take_add_one,Apk (by omega)];rfl
   have e2:V.take (i+1)=V.take i++[V[i]'(by omega)]:=by rw[List.take_add_one,Apk (by omega)];rfl
   have e3:U.drop i=U[i]'(by omega)::U.drop (i+1):=Aqa (by omega)
   have e4:V.drop i=V[i]'(by omega)::V.drop (i+1):=Aqa (by omega)
   rw[e1,e2]at ih
   rw[e3,e4]
   generalize U[i]'(by omega)=u at *
   generalize V[i]'(by omega)=v at *
   have t1:(V.take i).length=i:=by rw[Ap0];omega
   have t2:(U.take i).length=i:=by rw[Ap0];omega
   have t3:(U.drop (i+1)).length=n-(i+1):=by rw[Apy];omega
   have t4:(V.drop (i+1)).length=n-(i+1):=by rw[Apy];omega
   have al:(A++V.take i).length=A.length+i:=by rw[Apu,t1]
   have ml:(U.drop (i+1)++M++U.take i).length=n-1+M.length:=by simp only[Apu,t3,t2];omega
   have ed:A++(V.take i++u::U.drop (i+1))++M++(U.take i++v::V.drop (i+1))++B=(A++V.take i)++u::((U.drop (i+1)++M++U.take i)++v::(V.drop (i+1)++B)):=by simp
   have hll:((A++V.take i)++u::((U.drop (i+1)++M++U.take i)++v::(V.drop (i+1)++B))).length=A.length+n+M.length+n+B.length:=by rw[Apu,al,App,Apu,ml,App,Apu,t4];omega
   have w1:Api .i64 (((A.length+n+M.length:Nat):Int)+(i:Int))=((A.length+n+M.length+i:Nat):Int):=by rw[Aw (by omega) (by omega)];omega
   have w2:Api .i64 ((A.length:Int)+(i:Int))=((A.length+i:Nat):Int):=by rw[Aw (by omega) (by omega)];omega
   rw[ed]
   have sw:=AbQ (A:=A++V.take i) (M:=U.drop (i+1)++M++U.take i) (x:=u) (y:=v) (B:=V.drop (i+1)++B) (i:=A.length+i) (j:=A.length+n+M.length+i) al.symm (by rw[al,ml];omega)
   simp only[Ab8,w1,w2,Apr,Rv (show A.length+i=(A++V.take i).length from al.symm),Vi (show A.length+n+M.length+i=(A++V.take i).length+1+(U.drop (i+1)++M++U.take i).length by rw[al,ml];omega),Apm,List.length_set,hll,Bh i]
   have sw2:((((A++V.take i)++u::((U.drop (i+1)++M++U.take i)++v::(V.drop (i+1)++B))).map dP).set (A.length+i) (D.int (dP v).toInt)).set (A.length+n+M.length+i) (D.int (dP u).toInt)=_:=sw
   rw[sw2]
   refine Ad (Ad (Ad (Ad (Ad (Ad (Ad (Ad (Ad ?_))))))))
   simpa using ih)
  200000 0 () (by omega) (by omega) trivial
 simpa using key
omit ha in
theorem AlM(A X Y B:List Nat)(hx:1≤X.length)(hy:1≤Y.length)(hlen:A.length+X.length+Y.length+B.length≤100000):Sp 300 [.sl ((A++X++Y++B).map dP),.int (A.length:Int),.int ((A.length+X.length:Nat):Int),.int ((A.length+X.length+Y.length:Nat):Int),Em dn a] [.sl ((A++Y++X++B).map dP)]:=by
 refine Af 200000 (Ane _ _ _ _ _ _ _) ?_
 simp only[Ee,Ao]
 have key : ∀ (m:Nat) (mm:Nat) (A U V B:List Nat),U.length+V.length<m→1≤U.length→1≤V.length→A.length+U.length=mm→A.length+U.length+V.length+B.length≤100000→Tw (Ub 200000 m ((A++U++V++B).map dP) (mm:Int) (Em dn a) (U.length:Int) (V.length:Int)) [.sl ((A++V++U++B).map dP)]:=by
  intro m
  induction m with
  | zero=>intro mm A U V B h;omega
  | succ m ih =>
   intro mm A U V B hm h1 h2 hmm hl
   simp only[Anc,Do]
   have w1:Api .i64 ((mm:Int)-(U.length:Int))=(A.length:Int):=by rw[Aw (by omega) (by omega)];omega
   rw[w1]
   refine Ae (fun hne=>Ae (fun hlt=> ?_) (fun hlt=> ?_)) (fun he=> ?_)
   ·
     have hsp:=LX (dn:=dn) (a:=a) A (U.take V.length) (U.drop V.length) V B V.length (by rw[Ap0];omega) rfl (by rw[Apy];omega)
     rw[show A++U.take V.length++U.drop V.length++V++B=A++U++V++B by rw[Ap8 A,Aqf]]at hsp
     rw[show A.length+V.length+(U.drop V.length).length=mm by rw[Apy];omega]at hsp
     refine Aa hsp ?_
     have:=ih mm (A++V) (U.drop V.length) (U.take V.length) B (by rw[Apy,Ap0];omega) (by rw[Apy];omega) (by rw[Ap0];omega) (by rw[Apu,Apy];omega) (by rw[Apu,Apy,Ap0];omega)
     rw[show (A++V)++U.take V.length++U.drop V.length++B=A++V++U++B by rw[Ap8 (A++V),Aqf]]at this
     rw[show (U.drop V.length).length=U.length-V.length by rw[Apy],show (U.take V.length).length=V.length by rw[Ap0];omega]at this
     rw[show Api .i64 ((U.length:Int)-(V.length:Int))=((U.length-V.length:Nat):Int) by rw[Aw (by omega) (by omega)];omega]
     exact this
   · have hq:U.length<V.length:=by omega
     have hsp:=LX (dn:=dn) (a:=a) A U (V.take (V.length-U.length)) (V.drop (V.length-U.length)) B U.length rfl (by rw[Apy];omega) (by rw[Ap0];omega)
     rw[show A++U++V.take (V.length-U.length)++V.drop (V.length-U.length)++B=A++U++V++B by rw[Ap8 (A++U),Aqf]]at hsp
     rw[show A.length+U.length+(V.take (V.length-U.length)).length=mm+V.length-U.length by rw[Ap0];omega]at hsp
     rw[show Api .i64 ((Api .i64 ((mm:Int)+(V.length:Int)))-(U.length:Int))=((mm+V.length-U.length:Nat):Int) by rw[Aw (x:=(mm:Int)+(V.length:Int)) (by omega) (by omega),Aw (by omega) (by omega)];omega]
     refine Aa hsp ?_
     have:=ih mm A (V.drop (V.length-U.length)) (V.take (V.length-U.length)) (U++B) (by rw[Apy,Ap0];omega) (by rw[Apy];omega) (by rw[Ap0];omega) (by rw[Apy];omega) (by rw[Apu,Apy,Ap0];omega)
     rw[show A++V.take (V.length-U.length)++V.drop (V.length-U.length)++(U++B)=A++V++U++B by rw[Ap8 A,Aqf];simp]at this
     rw[show A++V.drop (V.length-U.length)++V.take (V.length-U.length)++(U++B)=A++V.drop (V.length-U.length)++V.take (V.length-U.length)++U++B by simp]at this
     rw[show (V.drop (V.length-U.length)).length=U.length by rw[Apy];omega,show (V.take (V.length-U.length)).length=V.length-U.length by rw[Ap0];omega]at this
     rw[show Api .i64 ((V.length:Int)-(U.length:Int))=((V.length-U.length:Nat):Int) by rw[Aw (by omega) (by omega)];omega]
     exact this
   · have he:U.length=V.length:=by omega
     have hsp:=LX (dn:=dn) (a:=a) A U [] V B U.length rfl he.symm (by simp;omega)
     simp only[Ap6,Ap1,Nat.add_zero,hmm]at hsp
     exact Aa hsp (Ac rfl)
 rw[show Api .i64 (((A.length+X.length:Nat):Int)-(A.length:Int))=(X.length:Int) by rw[Aw (by omega) (by omega)];omega,show Api .i64 (((A.length+X.length+Y.length:Nat):Int)-((A.length+X.length:Nat):Int))=(Y.length:Int) by rw[Aw (by omega) (by omega)];omega]
 exact key 200000 _ A X Y B (by omega) hx hy rfl hlen
end
theorem VT{p:Prop}{i:Decidable p}(h:(!(@decide p i))=true) : ¬ p:=by
 cases h' : @decide p i
 · exact of_decide_eq_false h'
 · rw[h']at h;cases h
theorem VS{p:Prop}{i:Decidable p}(h:(!(@decide p i))=false):p:=by
 cases h' : @decide p i
 · rw[h']at h;cases h
 · exact of_decide_eq_true h'
theorem Pv{A Y B:List Nat}{t i:Nat}{y:Nat}(h:Y[t]? = some y)(hi:i=A.length+t):((A++Y++B).map dP).getD i D.nil=dP y:=by
 obtain ⟨ht,rfl⟩:=Apo.1 h
 subst hi
 rw[Apn,Ap2,Ap8,Aqn (by omega),Nat.add_sub_cancel_left,Ap_ ht,Apk ht]
 rfl
theorem AbU{l:List Nat}{t:Nat}(h:t<l.length):l.take (t+1)=l.take t++[l[t]]:=by rw[List.take_add_one,Apk h];rfl
section
variable {d:Nat} {a:Arr} {dn:Bool} (ha : ∀ c∈a.cells,Bo d c=true)
include ha
theorem An4(A:List Nat)(x:Nat)(Y B:List Nat)(hY:Y.Pairwise (Bz (kk d a.cells dn)))(hlt : ∀ y∈Y,x<y)(hx:x<a.cells.length)(hin : ∀ y∈Y,y<a.cells.length)(hlen:A.length+1+Y.length+B.length≤100000) :
  ∀ m u v,v-u<m→u≤v→v≤Y.length→(∀ y∈Y.take u,Bz (kk d a.cells dn) y x)→(∀ y∈Y.drop v,Bz (kk d a.cells dn) x y)→Tw (Ud 200000 m ((A++[x]++Y++B).map dP) (A.length:Int) (Em dn a) ((A.length+1+u:Nat):Int) ((A.length+1+v:Nat):Int)) [.sl ((A++Bm (kk d a.cells dn) ([x]++Y)++B).map dP)]:=by
 have hk:=Tz (dn:=dn) ha
 intro m
 induction m with
 | zero=>intro u v h;omega
 | succ m ih =>
  intro u v hm huv hv h1 h2
  have hll:(A++[x]++Y++B).length=A.length+1+Y.length+B.length:=by simp only[Apu,App,Ap1]
  simp only[Anm]
  rw[Xc (by omega)]
  by_cases he:u<v
  · have hh:(A.length+1+u+(A.length+1+v)) / 2=A.length+1+(u+v) / 2:=by omega
    rw[hh]
    obtain ⟨h,hdef⟩ : ∃ h,h=(u+v) / 2:=⟨_,rfl⟩
    rw[← hdef]
    have b1:u≤h:=by omega
    have b2:h<v:=by omega
    have hy:Y[h]? = some (Y[h]'(by omega)):=Apk (by omega)
    have hmem:Y[h]'(by omega)∈Y:=Aql _
    generalize Y[h]'(by omega)=y at *
    have gy:((A++[x]++Y++B).map dP).getD (A.length+1+h) D.nil=dP y:=Pv (A:=A++[x]) hy (by simp)
    have gx:((A++[x]++Y++B).map dP).getD A.length D.nil=dP x:=by
      have:=Pv (A:=A) (Y:=[x]) (B:=Y++B) (t:=0) (i:=A.length) (y:=x) rfl rfl
      rw[Ap8 (A++[x])]
      exact this
    simp only[Apr,gy,gx,H6,H4,H5,List.cons_append,Aqx,Apm]
    simp only[List.cons_append,Aqx,Ap8]at hll
    simp only[List.cons_append,Aqx,Ap8,hll]
    refine Ad (Ad (Ad (Ad (Ad (Ad (Aa (W6 (dn:=dn) ha (hin y hmem) hx) ?_))))))
    simp only[Ag,Ao]
    have w:Api .i64 (((A.length+1+h:Nat):Int)+1)=((A.length+1+(h+1):Nat):Int):=by rw[Aw (by omega) (by omega)];omega
    rw[w]
    have e1:=ih (h+1) v (by omega) (by omega) hv
    have e2:=ih u h (by omega) b1 (by omega) h1
    simp only[List.cons_append,Aqx,Ap8]at e1 e2
    refine Ae (fun g=> ?_) (fun g=> ?_)
    · have:=N_ hk ((Mo hk (hlt y hmem)).1 g)
      exact e1 (Up hk hY hy this) h2
    · have:Bz (kk d a.cells dn) x y:=Apw.1 (fun hh=>g ((Mo hk (hlt y hmem)).2 hh))
      exact e2 (W5 hk hY hy this)
  · have:u=v:=by omega
    subst this
    refine Ar ?_
    have hs:Bm (kk d a.cells dn) ([x]++Y)=Y.take u++x::Y.drop u:=Ly hk (by
       refine List.Perm.trans List.perm_middle ?_
       rw[Aqf];exact List.Perm.refl _) (CS (hY.sublist (List.take_sublist _ _)) (List.pairwise_cons.2 ⟨h2,hY.sublist (List.drop_sublist _ _)⟩) (fun y hy z hz=>by
       rcases Ap4.1 hz with rfl | hz
       · exact h1 y hy
       · exact P2 hk (h1 y hy) (h2 z hz)))
    rw[hs]
    have key:=Di u (fun q i (_:Unit)=>CQ 200000 q ((A++Y.take i++x::(Y.drop i++B)).map dP) ((A.length+1+u:Nat):Int) ((A.length+i:Nat):Int)) (fun _ _=>[.sl ((A++(Y.take u++x::Y.drop u)++B).map dP)]) (fun _ _=>True)
      (fun q s _=>by
       have w:Api .i64 (((A.length+1+u:Nat):Int)-1)=((A.length+u:Nat):Int):=by rw[Aw (by omega) (by omega)];omega
       simp only[Ab_,w]
       refine Ar (Ac ?_)
       simp)
      (fun q i s hi _ ih'=>by
       have ih':=ih' () trivial
       have hil:i<Y.length:=by omega
       rw[AbU hil]at ih'
       have e4:Y.drop i=Y[i]::Y.drop (i+1):=Aqa hil
       rw[e4]
       generalize Y[i]=y at *
       have t1:(Y.take i).length=i:=by rw[Ap0];omega
       have t4:(Y.drop (i+1)).length=Y.length-(i+1):=by rw[Apy]
       have al:(A++Y.take i).length=A.length+i:=by rw[Apu,t1]
       have w:Api .i64 (((A.length+1+u:Nat):Int)-1)=((A.length+u:Nat):Int):=by rw[Aw (by omega) (by omega)];omega
       have w2:Api .i64 (((A.length+i:Nat):Int)+1)=((A.length+i+1:Nat):Int):=by rw[Aw (by omega) (by omega)];omega
       have hll2:(A++Y.take i++x::(y::Y.drop (i+1)++B)).length=A.length+1+Y.length+B.length:=by rw[Apu,al,App,Apu,App,t4];omega
       have sw:=AbQ (A:=A++Y.take i) (M:=[]) (x:=x) (y:=y) (B:=Y.drop (i+1)++B) (i:=A.length+i) (j:=A.length+i+1) al.symm (by rw[al];rfl)
       have g1:=Rv (A:=A++Y.take i) (x:=x) (B:=y::Y.drop (i+1)++B) (i:=A.length+i) al.symm
       have g2:=Vi (A:=A++Y.take i) (M:=[]) (x:=x) (y:=y) (B:=Y.drop (i+1)++B) (i:=A.length+i+1) (by rw[al];rfl)
       simp only[Aqx]at sw g2
       simp only[List.cons_append]at hll2 g1
       simp only[List.cons_append]
       simp only[Ab_,w,w2,Apr,g1,g2,Apm,List.length_set,hll2]
       have sw2:(((A++Y.take i++x::y::(Y.drop (i+1)++B)).map dP).set (A.length+i) (D.int (dP y).toInt)).set (A.length+i+1) (D.int (dP x).toInt)=_:=sw
       rw[sw2]
       refine Ad (Ad (Ad (Ad (Ad (Ad (Ad (Ad (Ad ?_))))))))
       simpa [Nat.add_assoc]using ih')
      200000 0 () (by omega) (by omega) trivial
    simpa using key
theorem An5(A X:List Nat)(y:Nat)(B:List Nat)(hX:X.Pairwise (Bz (kk d a.cells dn)))(hlt : ∀ x∈X,x<y)(hy:y<a.cells.length)(hin : ∀ x∈X,x<a.cells.length)(hlen:A.length+X.length+1+B.length≤100000) :
  ∀ m u v,v-u<m→u≤v→v≤X.length→(∀ x∈X.take u,Bz (kk d a.cells dn) x y)→(∀ x∈X.drop v,Bz (kk d a.cells dn) y x)→Tw (Uc 200000 m ((A++X++[y]++B).map dP) ((A.length+X.length:Nat):Int) (Em dn a) ((A.length+u:Nat):Int) ((A.length+v:Nat):Int)) [.sl ((A++Bm (kk d a.cells dn) (X++[y])++B).map dP)]:=by
 have hk:=Tz (dn:=dn) ha
 intro m
 induction m with
 | zero=>intro u v h;omega
 | succ m ih =>
  intro u v hm huv hv h1 h2
  have hll:(A++X++[y]++B).length=A.length+X.length+1+B.length:=by simp only[Apu,App,Ap1]
  simp only[Ank]
  rw[Xc (by omega)]
  by_cases he:u<v
  · have hh:(A.length+u+(A.length+v)) / 2=A.length+(u+v) / 2:=by omega
    rw[hh]
    obtain ⟨h,hdef⟩ : ∃ h,h=(u+v) / 2:=⟨_,rfl⟩
    rw[← hdef]
    have b1:u≤h:=by omega
    have b2:h<v:=by omega
    have hx:X[h]? = some (X[h]'(by omega)):=Apk (by omega)
    have hmem:X[h]'(by omega)∈X:=Aql _
    generalize X[h]'(by omega)=x at *
    have gx:((A++X++[y]++B).map dP).getD (A.length+h) D.nil=dP x:=by
      have:=Pv (A:=A) (Y:=X) (B:=[y]++B) (i:=A.length+h) hx rfl
      rw[Ap8 (A++X)]
      exact this
    have gy:((A++X++[y]++B).map dP).getD (A.length+X.length) D.nil=dP y:=Pv (A:=A++X) (Y:=[y]) (t:=0) (y:=y) rfl (by simp)
    simp only[Apr,gy,gx,H6,H4,H5,List.cons_append,Aqx,Apm,hll]
    refine Ad (Ad (Ad (Ad (Ad (Ad (Aa (W6 (dn:=dn) ha hy (hin x hmem)) ?_))))))
    simp only[Ag,Ao,Ft]
    have w:Api .i64 (((A.length+h:Nat):Int)+1)=((A.length+(h+1):Nat):Int):=by rw[Aw (by omega) (by omega)];omega
    rw[w]
    refine Cl (fun g=> ?_) (fun g=> ?_)
    · have g : ¬ kk d a.cells dn y x<0:=VT g
      have:Bz (kk d a.cells dn) x y:=Apw.1 (fun hh=>g ((Mo hk (hlt x hmem)).2 hh))
      exact ih (h+1) v (by omega) (by omega) hv (Up hk hX hx this) h2
    · have:=N_ hk ((Mo hk (hlt x hmem)).1 (VS g))
      exact ih u h (by omega) b1 (by omega) h1 (W5 hk hX hx this)
  · have:u=v:=by omega
    subst this
    refine Ar ?_
    have hs:Bm (kk d a.cells dn) (X++[y])=X.take u++y::X.drop u:=Ly hk (by
       refine List.Perm.trans List.perm_middle ?_
       rw[Aqf];exact (List.perm_append_singleton y _).symm) (CS (hX.sublist (List.take_sublist _ _)) (List.pairwise_cons.2 ⟨h2,hX.sublist (List.drop_sublist _ _)⟩) (fun x hx z hz=>by
       rcases Ap4.1 hz with rfl | hz
       · exact h1 x hx
       · exact P2 hk (h1 x hx) (h2 z hz)))
    rw[hs]
    have key:=Js (P:=Tryz.prog) (md:=md) (fun q j (_:Unit)=>CP 200000 q ((A++X.take (u+j)++y::(X.drop (u+j)++B)).map dP) ((A.length+u:Nat):Int) ((A.length+(u+j):Nat):Int)) (fun _ _=>[.sl ((A++(X.take u++y::X.drop u)++B).map dP)]) (fun j _=>u+j≤X.length)
      (fun q s _=>by
       simp only[Ab9]
       refine Ar (Ac ?_)
       simp)
      (fun q j s hj ih'=>by
       have ih':=ih' () (by omega)
       have hil:u+j<X.length:=by omega
       have e4:X.drop (u+j)=X[u+j]::X.drop (u+(j+1)):=Aqa hil
       rw[e4]at ih'
       have e5:X.take (u+(j+1))=X.take (u+j)++[X[u+j]]:=AbU hil
       rw[e5]
       generalize X[u+j]=x at *
       have t1:(X.take (u+j)).length=u+j:=by rw[Ap0];omega
       have t4:(X.drop (u+(j+1))).length=X.length-(u+(j+1)):=by rw[Apy]
       have al:(A++X.take (u+j)).length=A.length+(u+j):=by rw[Apu,t1]
       have w2:Api .i64 (((A.length+(u+(j+1)):Nat):Int)-1)=((A.length+(u+j):Nat):Int):=by rw[Aw (by omega) (by omega)];omega
       have ed:A++(X.take (u+j)++[x])++y::(X.drop (u+(j+1))++B)=A++X.take (u+j)++x::y::(X.drop (u+(j+1))++B):=by simp
       have hll2:(A++X.take (u+j)++x::y::(X.drop (u+(j+1))++B)).length=A.length+X.length+1+B.length:=by rw[Apu,al,App,App,Apu,t4];omega
       have sw:=AbP (A:=A++X.take (u+j)) (M:=[]) (x:=x) (y:=y) (B:=X.drop (u+(j+1))++B) (i:=A.length+(u+j)) (j:=A.length+(u+(j+1))) al.symm (by rw[al];simp;omega)
       have g1:=Rv (A:=A++X.take (u+j)) (x:=x) (B:=y::(X.drop (u+(j+1))++B)) (i:=A.length+(u+j)) al.symm
       have g2:=Vi (A:=A++X.take (u+j)) (M:=[]) (x:=x) (y:=y) (B:=X.drop (u+(j+1))++B) (i:=A.length+(u+(j+1))) (by rw[al];simp;omega)
       simp only[Aqx]at sw g2
       rw[ed]
       simp only[Ab9,w2,Apr,g1,g2,Apm,List.length_set,hll2]
       have sw2:(((A++X.take (u+j)++x::y::(X.drop (u+(j+1))++B)).map dP).set (A.length+(u+(j+1))) (D.int (dP x).toInt)).set (A.length+(u+j)) (D.int (dP y).toInt)=_:=sw
       rw[sw2]
       refine Ad (Ad (Ad (Ad (Ad (Ad (Ad (Ad (Ad ?_))))))))
       simpa using ih')
      200000 (X.length-u) () (by omega) (by omega)
    rw[show u+(X.length-u)=X.length by omega,Aqh (Apx _),List.drop_of_length_le (Apx _)]at key
    simpa using key
omit ha in
theorem PA{k:Nat→Nat→Int}{l:List Nat}{t:Nat}(h:l.Pairwise (Bz k)) : ∀ x∈l.take t,∀ y∈l.drop t,Bz k x y:=by
 rw[← Aqf t l]at h
 exact (List.pairwise_append.1 h).2.2
theorem AbR : ∀ (N:Nat) (A X Y B:List Nat),X.length+Y.length≤N→1≤X.length→1≤Y.length→A.length+X.length+Y.length+B.length≤100000→(∀ x∈X,x<a.cells.length)→(∀ y∈Y,y<a.cells.length)→X.Pairwise (Bz (kk d a.cells dn))→Y.Pairwise (Bz (kk d a.cells dn))→(∀ x∈X,∀ y∈Y,x<y) →
  Sp 251 [.sl ((A++X++Y++B).map dP),.int (A.length:Int),.int ((A.length+X.length:Nat):Int),.int ((A.length+X.length+Y.length:Nat):Int),Em dn a] [.sl ((A++Bm (kk d a.cells dn) (X++Y)++B).map dP)]:=by
 have hk:=Tz (dn:=dn) ha
 intro N
 induction N with
 | zero=>intro A X Y B h h1;omega
 | succ N IH =>
  intro A X Y B hN hx1 hy1 hlen hXin hYin hX hY hlt
  refine Af 200000 (Ann _ _ _ _ _ _ _) ?_
  simp only[Ee,Ao]
  have w1:Api .i64 (((A.length+X.length:Nat):Int)-(A.length:Int))=(X.length:Int):=by rw[Aw (by omega) (by omega)];omega
  have w2:Api .i64 (((A.length+X.length+Y.length:Nat):Int)-((A.length+X.length:Nat):Int))=(Y.length:Int):=by rw[Aw (by omega) (by omega)];omega
  rw[w1,w2]
  simp only[Cp]
  refine Ae (fun hX1=> ?_) (fun hX1=> ?_)
  · obtain ⟨x,rfl⟩:=Mp (l:=X) (by omega)
    have:=An4 (dn:=dn) ha A x Y B hY (fun y hy=>hlt x (by simp) y hy) (hXin x (by simp)) hYin (by simpa using hlen) 200000 0 Y.length (by omega) (by omega) (by omega) (by simp) (by simp)
    exact this
  refine Ae (fun hY1=> ?_) (fun hY1=> ?_)
  · obtain ⟨y,rfl⟩:=Mp (l:=Y) (by omega)
    have:=An5 (dn:=dn) ha A X y B hX (fun x hx=>hlt x hx y (by simp)) (hYin y (by simp)) hXin (by simpa using hlen) 200000 0 X.length (by omega) (by omega) (by omega) (by simp) (by simp)
    exact this
  have w0:=Xc (i:=A.length) (j:=A.length+X.length+Y.length) (by omega)
  obtain ⟨q,hq⟩ : ∃ q,q=(X.length+Y.length) / 2:=⟨_,rfl⟩
  rw[show (A.length+(A.length+X.length+Y.length)) / 2=A.length+q by omega]at w0
  simp only[w0]
  have w3:Api .i64 (((A.length+q:Nat):Int)+((A.length+X.length:Nat):Int))=((A.length+q+(A.length+X.length):Nat):Int):=by rw[Aw (by omega) (by omega)];omega
  have w4:Api .i64 (((A.length+q+(A.length+X.length):Nat):Int)-1)=((A.length+q+(A.length+X.length)-1:Nat):Int):=by rw[Aw (by omega) (by omega)];omega
  simp only[w3,w4]
  have search : ∀ (t0 t1:Nat),t1≤X.length→t1≤q→q≤t0+Y.length→∀ m s r,r-s<m→t0≤s→s≤r→r≤t1→(∀ x∈X.take s,∀ y∈Y.drop (q-s),Bz (kk d a.cells dn) x y)→(∀ y∈Y.take (q-r),∀ x∈X.drop r,Bz (kk d a.cells dn) y x) →
     Tw (Ra 200000 m ((A++X++Y++B).map dP) (A.length:Int) ((A.length+X.length:Nat):Int) ((A.length+X.length+Y.length:Nat):Int) (Em dn a) ((A.length+q:Nat):Int) ((A.length+q+(A.length+X.length):Nat):Int) ((A.length+s:Nat):Int) ((A.length+r:Nat):Int) ((A.length+q+(A.length+X.length)-1:Nat):Int)) [.sl ((A++Bm (kk d a.cells dn) (X++Y)++B).map dP)]:=by
    intro t0 t1 ht1 ht1' ht0 m
    induction m with
    | zero=>intro s r h;omega
    | succ m ih =>
     intro s r hm hs0 hsr hr1 inv1 inv2
     simp only[Anl]
     rw[Xc (by omega)]
     by_cases he:s<r
     · rw[show (A.length+s+(A.length+r)) / 2=A.length+(s+r) / 2 by omega]
       obtain ⟨h,hdef⟩ : ∃ h,h=(s+r) / 2:=⟨_,rfl⟩
       rw[← hdef]
       have b1:s≤h:=by omega
       have b2:h<r:=by omega
       have hx:X[h]? = some (X[h]'(by omega)):=Apk (by omega)
       have hxm:X[h]'(by omega)∈X:=Aql _
       have hy:Y[q-1-h]? = some (Y[q-1-h]'(by omega)):=Apk (by omega)
       have hym:Y[q-1-h]'(by omega)∈Y:=Aql _
       generalize X[h]'(by omega)=x at *
       generalize Y[q-1-h]'(by omega)=y at *
       have w5:Api .i64 (((A.length+q+(A.length+X.length)-1:Nat):Int)-((A.length+h:Nat):Int))=((A.length+X.length+(q-1-h):Nat):Int):=by rw[Aw (by omega) (by omega)];omega
       have w6:Api .i64 (((A.length+h:Nat):Int)+1)=((A.length+(h+1):Nat):Int):=by rw[Aw (by omega) (by omega)];omega
       have gx:((A++X++Y++B).map dP).getD (A.length+h) D.nil=dP x:=by
         have:=Pv (A:=A) (Y:=X) (B:=Y++B) (i:=A.length+h) hx rfl
         rw[Ap8 (A++X)]
         exact this
       have gy:((A++X++Y++B).map dP).getD (A.length+X.length+(q-1-h)) D.nil=dP y:=Pv (A:=A++X) hy (by simp)
       have hll:(A++X++Y++B).length=A.length+X.length+Y.length+B.length:=by simp only[Apu]
       simp only[w5,w6,Apr,gy,gx,H6,H4,H5,List.cons_append,Aqx,Apm,hll]
       refine Ad (Ad (Ad (Ad (Ad (Ad (Aa (W6 (dn:=dn) ha (hYin y hym) (hXin x hxm)) ?_))))))
       simp only[Ag,Ao,Ft]
       refine Cl (fun g=> ?_) (fun g=> ?_)
       · have g : ¬ kk d a.cells dn y x<0:=VT g
         have:Bz (kk d a.cells dn) x y:=Apw.1 (fun hh=>g ((Mo hk (hlt x hxm y hym)).2 hh))
         refine ih (h+1) r (by omega) (by omega) (by omega) hr1 (fun x' hx'=> ?_) inv2
         rw[show q-(h+1)=q-1-h by omega]
         exact W5 hk hY hy (Up hk hX hx this x' hx')
       · have:=N_ hk ((Mo hk (hlt x hxm y hym)).1 (VS g))
         refine ih s h (by omega) (by omega) (by omega) (by omega) inv1 (fun y' hy'=> ?_)
         rw[show q-h=q-1-h+1 by omega]at hy'
         exact W5 hk hX hx (Up hk hY hy this y' hy')
     · have:s=r:=by omega
       subst this
       refine Ar ?_
       have hXe:X=X.take s++X.drop s:=(Aqf _ _).symm
       have hYe:Y=Y.take (q-s)++Y.drop (q-s):=(Aqf _ _).symm
       have l1:(X.take s).length=s:=by rw[Ap0];omega
       have l2:(X.drop s).length=X.length-s:=by rw[Apy]
       have l3:(Y.take (q-s)).length=q-s:=by rw[Ap0];omega
       have l4:(Y.drop (q-s)).length=Y.length-(q-s):=by rw[Apy]
       have c1:=PA (t:=s) hX
       have c2:=PA (t:=q-s) hY
       have m1 : ∀ x∈X.take s,x∈X:=fun x h=>List.mem_of_mem_take h
       have m2 : ∀ x∈X.drop s,x∈X:=fun x h=>List.mem_of_mem_drop h
       have m3 : ∀ x∈Y.take (q-s),x∈Y:=fun x h=>List.mem_of_mem_take h
       have m4 : ∀ x∈Y.drop (q-s),x∈Y:=fun x h=>List.mem_of_mem_drop h
       have p1:=hX.sublist (List.take_sublist s X)
       have p2:=hX.sublist (List.drop_sublist s X)
       have p3:=hY.sublist (List.take_sublist (q-s) Y)
       have p4:=hY.sublist (List.drop_sublist (q-s) Y)
       have hdata:A++X++Y++B=A++X.take s++X.drop s++Y.take (q-s)++(Y.drop (q-s)++B):=by
         have e:A++(X.take s++X.drop s)++(Y.take (q-s)++Y.drop (q-s))++B=A++X.take s++X.drop s++Y.take (q-s)++(Y.drop (q-s)++B):=by simp only[Ap8]
         rw[Aqf,Aqf]at e
         exact e
       have hxy:(X++Y).Perm ((X.take s++Y.take (q-s))++(X.drop s++Y.drop (q-s))):=by
         have e:X++Y=X.take s++((X.drop s++Y.take (q-s))++Y.drop (q-s)):=by
           rw[Ap8 (X.drop s),Aqf,← Ap8,Aqf]
         rw[e,Ap8 (X.take s),← Ap8 (Y.take (q-s))]
         exact List.Perm.append_left _ (List.Perm.append_right _ List.perm_append_comm)
       generalize X.take s=X1 at *
       generalize X.drop s=X2 at *
       generalize Y.take (q-s)=Y1 at *
       generalize Y.drop (q-s)=Y2 at *
       have hsrt:Bm (kk d a.cells dn) (X++Y)=Bm (kk d a.cells dn) (X1++Y1)++Bm (kk d a.cells dn) (X2++Y2):=by
         refine Ly hk (((K1 _ _).append (K1 _ _)).trans hxy.symm) (CS (K2 hk _) (K2 hk _) (fun x hx y hy=> ?_))
         rcases Aqs.1 (Ir.1 hx) with hx | hx <;> rcases Aqs.1 (Ir.1 hy) with hy | hy
         · exact c1 x hx y hy
         · exact inv1 x hx y hy
         · exact inv2 x hx y hy
         · exact c2 x hx y hy
       have lW:(Bm (kk d a.cells dn) (X1++Y1)).length=q:=by rw[D0,Apu];omega
       have w5:Api .i64 (((A.length+q+(A.length+X.length):Nat):Int)-((A.length+s:Nat):Int))=((A.length+q+X2.length:Nat):Int):=by rw[Aw (by omega) (by omega)];omega
       simp only[w5]
       have hU:Tw (.br (decide (((A.length+q:Nat):Int)<((A.length+q+X2.length:Nat):Int))) (.br (decide (((A.length+q+X2.length:Nat):Int)<((A.length+X.length+Y.length:Nat):Int))) (.call 251 [] [D.sl ((A++Bm (kk d a.cells dn) (X1++Y1)++X2++Y2++B).map dP),.int ((A.length+q:Nat):Int),.int ((A.length+q+X2.length:Nat):Int),.int ((A.length+X.length+Y.length:Nat):Int),Em dn a] fun yy=> .ret [D.sl ((qA yy).els)]) (.ret [D.sl ((A++Bm (kk d a.cells dn) (X1++Y1)++X2++Y2++B).map dP)])) (.ret [D.sl ((A++Bm (kk d a.cells dn) (X1++Y1)++X2++Y2++B).map dP)])) [.sl ((A++Bm (kk d a.cells dn) (X++Y)++B).map dP)]:=by
         rw[hsrt]
         have alone:X2.length=0∨Y2.length=0→Bm (kk d a.cells dn) (X2++Y2)=X2++Y2:=fun h=>by
           rcases h with h | h
           · rw[Aqb.1 h]
             exact Ly hk (List.Perm.refl _) (by simpa using p4)
           · rw[Aqb.1 h]
             exact Ly hk (List.Perm.refl _) (by simpa using p2)
         refine Ae (fun g1=>Ae (fun g2=> ?_) (fun g2=>Ac ?_)) (fun g1=>Ac ?_)
         · have:=IH (A++Bm (kk d a.cells dn) (X1++Y1)) X2 Y2 B (by omega) (by omega) (by omega) (by rw[Apu,lW];omega) (fun x h=>hXin x (m2 x h)) (fun y h=>hYin y (m4 y h)) p2 p4 (fun x h y h'=>hlt x (m2 x h) y (m4 y h'))
           simp only[Apu,lW]at this
           rw[show A.length+q+X2.length+Y2.length=A.length+X.length+Y.length by omega]at this
           refine Aa this (Ac ?_)
           simp
         · rw[alone (by omega)];simp
         · rw[alone (by omega)];simp
       have hT:Tw (.br (decide ((A.length:Int)<((A.length+s:Nat):Int))) (.br (decide (((A.length+s:Nat):Int)<((A.length+q:Nat):Int))) (.call 251 [] [D.sl ((A++X1++Y1++X2++Y2++B).map dP),.int (A.length:Int),.int ((A.length+s:Nat):Int),.int ((A.length+q:Nat):Int),Em dn a] fun yy=>(.br (decide (((A.length+q:Nat):Int)<((A.length+q+X2.length:Nat):Int))) (.br (decide (((A.length+q+X2.length:Nat):Int)<((A.length+X.length+Y.length:Nat):Int))) (.call 251 [] [D.sl ((qA yy).els),.int ((A.length+q:Nat):Int),.int ((A.length+q+X2.length:Nat):Int),.int ((A.length+X.length+Y.length:Nat):Int),Em dn a] fun yy=> .ret [D.sl ((qA yy).els)]) (.ret [D.sl ((qA yy).els)])) (.ret [D.sl ((qA yy).els)])))
           (.br (decide (((A.length+q:Nat):Int)<((A.length+q+X2.length:Nat):Int))) (.br (decide (((A.length+q+X2.length:Nat):Int)<((A.length+X.length+Y.length:Nat):Int))) (.call 251 [] [D.sl ((A++X1++Y1++X2++Y2++B).map dP),.int ((A.length+q:Nat):Int),.int ((A.length+q+X2.length:Nat):Int),.int ((A.length+X.length+Y.length:Nat):Int),Em dn a] fun yy=> .ret [D.sl ((qA yy).els)]) (.ret [D.sl ((A++X1++Y1++X2++Y2++B).map dP)])) (.ret [D.sl ((A++X1++Y1++X2++Y2++B).map dP)])))
           (.br (decide (((A.length+q:Nat):Int)<((A.length+q+X2.length:Nat):Int))) (.br (decide (((A.length+q+X2.length:Nat):Int)<((A.length+X.length+Y.length:Nat):Int))) (.call 251 [] [D.sl ((A++X1++Y1++X2++Y2++B).map dP),.int ((A.length+q:Nat):Int),.int ((A.length+q+X2.length:Nat):Int),.int ((A.length+X.length+Y.length:Nat):Int),Em dn a] fun yy=> .ret [D.sl ((qA yy).els)]) (.ret [D.sl ((A++X1++Y1++X2++Y2++B).map dP)])) (.ret [D.sl ((A++X1++Y1++X2++Y2++B).map dP)]))) [.sl ((A++Bm (kk d a.cells dn) (X++Y)++B).map dP)]:=by
         have alone:X1.length=0∨Y1.length=0→A++Bm (kk d a.cells dn) (X1++Y1)++X2++Y2++B=A++X1++Y1++X2++Y2++B:=fun h=>by
           have:Bm (kk d a.cells dn) (X1++Y1)=X1++Y1:=by
             rcases h with h | h
             · rw[Aqb.1 h]
               exact Ly hk (List.Perm.refl _) (by simpa using p3)
             · rw[Aqb.1 h]
               exact Ly hk (List.Perm.refl _) (by simpa using p1)
           rw[this,← Ap8]
         refine Ae (fun g1=>Ae (fun g2=> ?_) (fun g2=> ?_)) (fun g1=> ?_)
         · have:=IH A X1 Y1 (X2++Y2++B) (by omega) (by omega) (by omega) (by simp only[Apu];omega) (fun x h=>hXin x (m1 x h)) (fun y h=>hYin y (m3 y h)) p1 p3 (fun x h y h'=>hlt x (m1 x h) y (m3 y h'))
           rw[show A.length+X1.length+Y1.length=A.length+q by omega,l1,show A++X1++Y1++(X2++Y2++B)=A++X1++Y1++X2++Y2++B by simp,show A++Bm (kk d a.cells dn) (X1++Y1)++(X2++Y2++B)=A++Bm (kk d a.cells dn) (X1++Y1)++X2++Y2++B by simp]at this
           exact Aa this hU
         · rw[alone (by omega)]at hU;exact hU
         · rw[alone (by omega)]at hU;exact hU
       refine Ae (fun g1=>Ae (fun g2=> ?_) (fun g2=> ?_)) (fun g1=> ?_)
       · have:=AlM (dn:=dn) (a:=a) (A++X1) X2 Y1 (Y2++B) (by omega) (by omega) (by simp only[Apu];omega)
         rw[← hdata,show A++X1++Y1++X2++(Y2++B)=A++X1++Y1++X2++Y2++B by simp,Apu,l1,show A.length+s+X2.length=A.length+X.length by omega,show A.length+X.length+Y1.length=A.length+q+X2.length by omega]at this
         exact Aa this hT
       · have e:A++X++Y++B=A++X1++Y1++X2++Y2++B:=by
           have:Y1 = []:=Aqb.1 (by omega)
           rw[hdata,this];simp
         rw[e];exact hT
       · have e:A++X++Y++B=A++X1++Y1++X2++Y2++B:=by
           have:X2 = []:=Aqb.1 (by omega)
           rw[hdata,this];simp
         rw[e];exact hT
  refine Ad (Ae (fun g=> ?_) (fun g=> ?_))
  · have w7:Api .i64 (((A.length+q+(A.length+X.length):Nat):Int)-((A.length+X.length+Y.length:Nat):Int))=((A.length+(q-Y.length):Nat):Int):=by rw[Aw (by omega) (by omega)];omega
    rw[w7]
    exact search (q-Y.length) q (by omega) (by omega) (by omega) 200000 (q-Y.length) q (by omega) (by omega) (by omega) (by omega) (fun x _ y hy=>by rw[List.drop_of_length_le (by omega)]at hy;cases hy) (fun y hy=>by rw[Nat.sub_self]at hy;cases hy)
  · exact search 0 X.length (by omega) (by omega) (by omega) 200000 0 X.length (by omega) (by omega) (by omega) (by omega) (fun x hx=>by cases hx) (fun y _ x hx=>by rw[List.drop_of_length_le (by omega)]at hx;cases hx)
end
section
variable {d:Nat} {a:Arr} {dn:Bool} (ha : ∀ c∈a.cells,Bo d c=true)
include ha
theorem Any(l:List Nat)(hl:l.Pairwise (· < ·))(hin : ∀ x∈l,x<a.cells.length)(hlen:l.length≤50000):Sp 217 [.sl (l.map dP),.int (l.length:Int),Em dn a] [.sl ((Bm (kk d a.cells dn) l).map dP)]:=by
 have hk:=Tz (dn:=dn) ha
 refine Af 200000 (Ani _ _ _ _ _) ?_
 simp only[Ee,Ao]
 generalize hkk:kk d a.cells dn=k at *
 have join2 : ∀ U V:List Nat,Bm k (Bm k U++Bm k V)=Bm k (U++V):=fun U V=>Ly hk (((K1 k (U++V)).trans ((K1 k U).append (K1 k V)).symm)) (K2 hk _)
 have pairs : ∀ (m7 bs:Nat),1≤bs→bs≤100000→Tw (Q_ 200000 m7 ((SG k (2*bs) l).map dP) (l.length:Int) (Em dn a) ((2*bs:Nat):Int)) [.sl ((Bm k l).map dP)]→∀ (m:Nat) (P rest:List Nat),P++SG k (2*bs) rest=SG k (2*bs) l→l.length=P.length+rest.length→rest.Pairwise (· < ·)→(∀ x∈rest,x<a.cells.length)→rest.length<m →
   Tw (CM 200000 m7 m ((P++SG k bs rest).map dP) (l.length:Int) (Em dn a) (bs:Int) (P.length:Int) ((P.length+2*bs:Nat):Int)) [.sl ((Bm k l).map dP)]:=by
  intro m7 bs hb1 hb2 cont m
  induction m with
  | zero=>intro P rest _ _ _ _ h;omega
  | succ m ih =>
   intro P rest hP hL hR hRin hm
   have w1:Api .i64 ((P.length:Int)+(bs:Int))=((P.length+bs:Nat):Int):=by rw[Aw (by omega) (by omega)];omega
   have w2:Api .i64 (2*(bs:Int))=((2*bs:Nat):Int):=by rw[Aw (by omega) (by omega)];omega
   have w3:Api .i64 (((P.length+2*bs:Nat):Int)+((2*bs:Nat):Int))=((P.length+2*bs+2*bs:Nat):Int):=by rw[Aw (by omega) (by omega)];omega
   have w4:Api .i64 ((bs:Int)*2)=((2*bs:Nat):Int):=by rw[Aw (by omega) (by omega)];omega
   simp only[Anh,w1,w2,w3,w4]
   have hcross : ∀ t,∀ x∈rest.take t,∀ y∈rest.drop t,x<y:=fun t=>by
     rw[← Aqf t rest]at hR
     exact (List.pairwise_append.1 hR).2.2
   refine Ae (fun g=> ?_) (fun g=>Ae (fun g2=> ?_) (fun g2=> ?_))
   · have e1:SG k bs rest=Bm k (rest.take bs)++(Bm k ((rest.drop bs).take bs)++SG k bs (rest.drop (2*bs))):=by
      rw[K_ hb1,if_neg (by omega),K_ hb1 (rest.drop bs),if_neg (by rw[Apy];omega),List.drop_drop,show bs+bs=2*bs by omega]
     have e2:rest.take bs++(rest.drop bs).take bs=rest.take (2*bs):=by rw[show 2*bs=bs+bs by omega,List.take_add]
     have l1:(rest.take bs).length=bs:=by rw[Ap0];omega
     have l2:((rest.drop bs).take bs).length=bs:=by rw[Ap0,Apy];omega
     have l3:(SG k bs (rest.drop (2*bs))).length=rest.length-2*bs:=by rw[MY hb1 _ _ (Apx _),Apy]
     have l4:(rest.take (2*bs)).length=2*bs:=by rw[Ap0];omega
     have sp:=AbR (dn:=dn) ha (2*bs) P (Bm k (rest.take bs)) (Bm k ((rest.drop bs).take bs)) (SG k bs (rest.drop (2*bs))) (by rw[D0,D0];omega) (by rw[D0];omega) (by rw[D0];omega) (by rw[D0,D0,l3];omega) (fun x hx=>hRin x (List.mem_of_mem_take (Ir.1 hx))) (fun y hy=>hRin y (List.mem_of_mem_drop (List.mem_of_mem_take (Ir.1 hy)))) (by rw[hkk];exact K2 hk _) (by rw[hkk];exact K2 hk _) (fun x hx y hy=>hcross bs x (Ir.1 hx) y (List.mem_of_mem_take (Ir.1 hy)))
     rw[hkk,join2,e2,D0,D0,l1,l2]at sp
     rw[show P++Bm k (rest.take bs)++Bm k ((rest.drop bs).take bs)++SG k bs (rest.drop (2*bs))=P++SG k bs rest by rw[e1];simp only[Ap8],show P.length+bs+bs=P.length+2*bs by omega]at sp
     refine Aa sp ?_
     have:=ih (P++Bm k (rest.take (2*bs))) (rest.drop (2*bs)) (by
       rw[← hP,K_ (bs:=2*bs) (by omega) rest,if_neg (by omega)];simp only[Ap8]) (by rw[Apu,D0,l4,Apy];omega) (hR.sublist (List.drop_sublist _ _)) (fun x hx=>hRin x (List.mem_of_mem_drop hx)) (by rw[Apy];omega)
     rw[Apu,D0,l4]at this
     exact this
   · have l1:(rest.take bs).length=bs:=by rw[Ap0];omega
     have e1:SG k bs rest=Bm k (rest.take bs)++Bm k (rest.drop bs):=by
      rw[K_ hb1,if_neg (by omega),O4 hb1 (by rw[Apy];omega)]
     have sp:=AbR (dn:=dn) ha (rest.length) P (Bm k (rest.take bs)) (Bm k (rest.drop bs)) [] (by rw[D0,D0,Apy];omega) (by rw[D0];omega) (by rw[D0,Apy];omega) (by rw[D0,D0,Apy];simp only[Ap1];omega) (fun x hx=>hRin x (List.mem_of_mem_take (Ir.1 hx))) (fun y hy=>hRin y (List.mem_of_mem_drop (Ir.1 hy))) (by rw[hkk];exact K2 hk _) (by rw[hkk];exact K2 hk _) (fun x hx y hy=>hcross bs x (Ir.1 hx) y (Ir.1 hy))
     rw[hkk,join2,Aqf,D0,D0,l1]at sp
     simp only[Ap6]at sp
     rw[show P++Bm k (rest.take bs)++Bm k (rest.drop bs)=P++SG k bs rest by rw[e1];simp only[Ap8],show P.length+bs+(rest.drop bs).length=l.length by rw[Apy];omega]at sp
     refine Aa sp ?_
     rw[O4 (bs:=2*bs) (by omega) (l:=rest) (by omega)]at hP
     simp only[Ag,Ee]
     rw[hP]
     exact cont
   · rw[O4 (bs:=2*bs) (by omega) (l:=rest) (by omega)]at hP
     rw[O4 hb1 (l:=rest) (by omega),hP]
     exact cont
 have rounds : ∀ (m bs:Nat),1≤bs→bs≤100000→l.length-bs<m→Tw (Q_ 200000 m ((SG k bs l).map dP) (l.length:Int) (Em dn a) (bs:Int)) [.sl ((Bm k l).map dP)]:=by
  intro m
  induction m with
  | zero=>intro bs _ _ h;omega
  | succ m ih =>
   intro bs hb1 hb2 hm
   have w2:Api .i64 (2*(bs:Int))=((2*bs:Nat):Int):=by rw[Aw (by omega) (by omega)];omega
   simp only[Ang,w2]
   refine Ae (fun g=> ?_) (fun g=>Ac ?_)
   · have:=pairs m bs hb1 hb2 (ih (2*bs) (by omega) (by omega) (by omega)) 200000 [] l (by simp) (by simp) hl hin (by omega)
     simpa using this
   · rw[O4 hb1 (by omega)]
 have first : ∀ (m:Nat) (P rest:List Nat),P++SG k 20 rest=SG k 20 l→l.length=P.length+rest.length→rest.Pairwise (· < ·)→(∀ x∈rest,x<a.cells.length)→rest.length<m →
   Tw (CL 200000 m ((P++rest).map dP) (l.length:Int) (Em dn a) 20 (P.length:Int) ((P.length+20:Nat):Int)) [.sl ((Bm k l).map dP)]:=by
  intro m
  induction m with
  | zero=>intro P rest _ _ _ _ h;omega
  | succ m ih =>
   intro P rest hP hL hR hRin hm
   have w1:Api .i64 (((P.length+20:Nat):Int)+20)=((P.length+20+20:Nat):Int):=by rw[Aw (by omega) (by omega)];omega
   simp only[Anf,w1]
   refine Ae (fun g=> ?_) (fun g=> ?_)
   · have l1:(rest.take 20).length=20:=by rw[Ap0];omega
     have sp:=SM (dn:=dn) ha P (rest.take 20) (rest.drop 20) (hR.sublist (List.take_sublist _ _)) (fun x hx=>hRin x (List.mem_of_mem_take hx)) (by rw[l1,Apy];omega)
     rw[hkk,Ap8 P,Aqf,l1]at sp
     refine Aa sp ?_
     have:=ih (P++Bm k (rest.take 20)) (rest.drop 20) (by
       rw[← hP,K_ (bs:=20) (by omega) rest,if_neg (by omega)];simp only[Ap8]) (by rw[Apu,D0,l1,Apy];omega) (hR.sublist (List.drop_sublist _ _)) (fun x hx=>hRin x (List.mem_of_mem_drop hx)) (by rw[Apy];omega)
     rw[Apu,D0,l1]at this
     exact this
   · have sp:=SM (dn:=dn) ha P rest [] hR hRin (by simp only[Ap1];omega)
     simp only[Ap6,hkk,← hL]at sp
     refine Aa sp ?_
     rw[O4 (bs:=20) (by omega) (l:=rest) (by omega)]at hP
     simp only[Ag,Ee]
     rw[hP]
     exact rounds 200000 20 (by omega) (by omega) (by omega)
 have:=first 200000 [] l (by simp) (by simp) hl hin (by omega)
 simpa using this
theorem Ans(l:List Nat)(hl:l.Pairwise (· < ·))(hin : ∀ x∈l,x<a.cells.length)(hlen:l.length≤50000):Sp 155 [.sl (l.map dP),Em dn a] [.sl ((Bm (kk d a.cells dn) l).map dP)]:=by
 refine Af 0 (Ana _ _ _ _) ?_
 simp only[Ee,Apm]
 exact Aa (Any ha l hl hin hlen) (Ac rfl)
end
def G0(a:Arr)(dn:Bool):List Nat:=Bm (kk 8 a.cells dn) (Aqj a.cells.length)
def Hh(a:Arr)(dn:Bool):Arr×Int:=if a.shape.length=1 then (C3 ((G0 a dn).map (fun (i:Nat)=>(i:Int)+1)) (Az a),0) else (.none,5)
theorem AjB(n:Nat):(Aqj n).Pairwise (· < ·):=List.pairwise_lt_range
theorem WA(a:Arr)(dn:Bool):(G0 a dn).length=a.cells.length:=by unfold G0;rw[D0,List.length_range]
theorem JJ{a:Arr}{dn:Bool}{i:Nat} : i∈G0 a dn↔i<a.cells.length:=by unfold G0;rw[Ir,List.mem_range]
theorem RQ(a:Arr)(dn:Bool)(ha:Am 8 a=true):Sp 69 [dA a,.bool dn] [dA (Hh a dn).1,.int (Hh a dn).2]:=by
 have la:=(Dm ha).1
 have hc:=(Ck ha).2
 refine Af 4096 (AfA _ _ _) ?_
 unfold Hh
 simp only[Ah,C9,H2,Aqp]
 refine Ae (fun h=>Ac (by rw[if_neg (by omega)])) (fun h=> ?_)
 rw[if_pos (by omega)]
 refine Ad (Ad (Ay (by simp only[Ak];omega) ?_))
 have hol:=WA a dn
 have key:=Di a.cells.length (fun m k (_:Unit)=>W_ 4096 m ((Aqj k).map dP++Apl (a.cells.length-k) (D.int 0)) (a.cells.length:Int) (k:Int) (dA a) dn 0 0) (fun _ _=>[dA (C3 ((G0 a dn).map (fun (i:Nat)=>(i:Int)+1)) (Az a)),.int 0]) (fun _ _=>True)
  (fun m s _=>by
   have sp:=Ans (dn:=dn) hc (Aqj a.cells.length) (AjB _) (fun x hx=>List.mem_range.1 hx) (by rw[List.length_range];omega)
   simp only[RO,C9,H2]
   rw[Nat.sub_self,List.replicate_zero,Ap6]
   refine Ar (Aa sp ?_)
   rw[show Bm (kk 8 a.cells dn) (Aqj a.cells.length)=G0 a dn from rfl]
   simp only[Ag,Ee,Apm,hol,Apr]
   refine Ad (Ad (Ay (by simp only[Ak];omega) ?_))
   have key2:=B3 (G0 a dn) (fun m k (cs:List D)=>W9 4096 m cs ((G0 a dn).map dP) (a.cells.length:Int) (k:Int) (dA a) 0 0) (fun _ _=>[dA (C3 ((G0 a dn).map (fun (i:Nat)=>(i:Int)+1)) (Az a)),.int 0])
    (fun rest cs=>∃ pre:List Nat,G0 a dn=pre++rest∧cs=(pre.map (fun (i:Nat)=>Bf ((i:Int)+1))).map dC++Apl rest.length (dC Cell.none))
    (fun m k cs hk hI=>by
     obtain ⟨pre,h1,rfl⟩:=hI
     rw[Ap6]at h1
     simp only[RN,Ap1,List.replicate_zero,Ap6]
     have hb : ∀ c∈pre.map (fun (i:Nat)=>Bf ((i:Int)+1)),SmlC 0 c:=fun c hcc=>by
      obtain ⟨i,hi,rfl⟩:=Aqw.1 hcc
      have:=JJ.1 (by rw[h1];exact hi:i∈G0 a dn)
      exact K0 (Dn (by omega) (by omega)) 0
     refine Ar (Aa (O6 _ hb (by rw[Apm,← h1,hol];omega)) (Aa (Fi a (Cd ha).fits) ?_))
     simp only[Ag,Ej,Ns]
     refine Aa (Ha _ (Az a)) (Ac ?_)
     simp only[Ag,h1]
     simp[Cw,K6,C3]
     rfl)
    (fun m k cs i rest hdr hI ih=>by
     obtain ⟨h1,h2,h3⟩:=By hdr
     obtain ⟨pre,hp,rfl⟩:=hI
     have hk:k=(pre.map (fun (i:Nat)=>Bf ((i:Int)+1))).length:=by
      have:=congrArg List.length hdr
      rw[hp]at this h1
      simp at this h1 ⊢; omega
     have hcl:((pre.map (fun (i:Nat)=>Bf ((i:Int)+1))).map dC++Apl (rest.length+1) (dC Cell.none)).length=a.cells.length:=by rw[← hol,hp];simp
     have hi:=JJ.1 (Apq h2)
     have w1:Api .i64 ((i:Int)+1)=(i:Int)+1:=Aw (by omega) (by omega)
     simp only[RN,Apm,hol,Apr,Au h2,PQ,w1,Bh k,App]
     simp only[hcl]
     refine Ad (Ad (Ad (Aa (Jj _ (Dn (by omega) (by omega))) (Ad (Ad ?_)))))
     simp only[Ag]
     rw[show (((pre.map (fun (i:Nat)=>Bf ((i:Int)+1))).map dC++Apl (rest.length+1) (dC Cell.none)).set k (dC (Bf ((i:Int)+1))))=(((pre++[i]).map (fun (i:Nat)=>Bf ((i:Int)+1))).map dC++Apl rest.length (dC Cell.none)) by
      rw[hk,Nd (f:=dC) (z:=dC Cell.none)];simp]
     exact ih _ ⟨pre++[i],by rw[hp];simp,rfl⟩)
    4096 0 (Apl a.cells.length (dC Cell.none)) (by omega) (by omega) ⟨[],by simp,by simp[hol]⟩
   exact key2)
  (fun m k s hk _ ih=>by
   have ih:=ih () trivial
   simp only[RO,Apu,Apm,List.length_range,Aqp,Apr,Bh k]
   refine Ad (Ad (Ad ?_))
   have e:=Nd (f:=dP) (z:=D.int 0) (Aqj k) k (a.cells.length-(k+1))
   rw[List.length_range,← List.range_succ,show a.cells.length-(k+1)+1=a.cells.length-k by omega]at e
   rw[show D.int (k:Int)=dP k from rfl,e]
   exact ih)
  4096 0 () (by omega) (by omega) trivial
 simpa using key
def ahead(k:Nat→Nat→Int)(i j:Nat):Bool:=decide (k j i<0∨(k j i=0∧j<i))
def iN(l:List Nat):List Int:=l.map (fun (x:Nat)=>(x:Int))
theorem N6(l:List Nat):(iN l).length=l.length:=by simp[iN]
theorem SA(l:List Nat):(iN l).map D.int=l.map dP:=by unfold iN;rw[List.map_map];rfl
theorem AfF{l:List Int}(h : ∀ x∈l,0≤x) : ∃ m:List Nat,l=iN m:=by
 refine ⟨l.map Apj,?_⟩
 unfold iN
 rw[List.map_map]
 conv=>lhs;rw[← List.map_id l]
 refine List.map_congr_left (fun x hx=> ?_)
 have:=h x hx
 simp only[id,Function.comp]
 omega
def Fp:List Nat→Nat→List Nat
 | [],_=>[]
 | x::xs,n=>n % x::Fp xs (n / x)
def A7:List Nat→Nat
 | []=>1
 | x::xs=>x*A7 xs
theorem PV : ∀ (l:List Nat) (n:Nat),(Fp l n).length=l.length
 | [],_=>rfl
 | x::xs,n=>by simp[Fp,PV xs]
theorem PU : ∀ (u v:List Nat) (n:Nat),Fp (u++v) n=Fp u n++Fp v (n / A7 u)
 | [],v,n=>by simp[Fp,A7]
 | x::xs,v,n=>by simp only[List.cons_append,Fp,A7,PU xs v,Aqm]
theorem FR : ∀ (u:List Nat) (n:Nat),Fp u (n % A7 u)=Fp u n
 | [],n=>rfl
 | x::xs,n=>by
  simp only[Fp,A7]
  rw[Nat.mod_mul_right_mod,Nat.mod_mul_right_div_self,FR xs]
def Ru(s:List Nat)(n:Nat):List Nat:=(Fp s.reverse n).reverse
def Ed(s:List Nat):Nat:=(A8 (iN s)).1.toNat
theorem XP : ∀ (l:List Nat) (p:Nat),A_ (iN l) (p:Int)≠0→A_ (iN l) (p:Int)=((p*A7 l:Nat):Int)
 | [],p,_=>by simp[iN,A_,A7]
 | x::xs,p,h=>by
  simp only[iN,Ap9,A_]at h ⊢
  split at h
  · exact absurd rfl h
  · rename_i h2
    rw[if_neg h2]
    have:=XP xs (p*x) (by simpa [iN]using h)
    simp only[iN,Int.natCast_mul]at this
    rw[this]
    simp only[A7,Int.natCast_mul,Int.mul_assoc]
theorem JQ : ∀ (l m:List Nat),A7 (l++m)=A7 l*A7 m
 | [],m=>by simp[A7]
 | x::xs,m=>by simp only[List.cons_append,A7,JQ xs m,Nat.mul_assoc]
theorem JR : ∀ (l:List Nat),A7 l.reverse=A7 l
 | []=>rfl
 | x::xs=>by rw[List.reverse_cons,JQ,JR xs];simp only[A7];rw[Nat.mul_one,Aqg]
theorem Rz{s:List Nat}(h:(A8 (iN s)).2=0):s.length≤6∧((0∈s∧Ed s=0)∨((∀ x∈s,1≤x∧x≤2048)∧Ed s=A7 s∧1≤Ed s∧Ed s≤2048)):=by
 have hl:=Fz (iN s)
 obtain ⟨h1,h2⟩:=Ke (s:=iN s) (c:=(A8 (iN s)).1) (Prod.ext rfl h)
 rw[N6]at h1
 refine ⟨h1,?_⟩
 rcases h2 with ⟨h2,h3⟩ | ⟨h2,h3,h4⟩
 · refine .inl ⟨?_,by unfold Ed;rw[h3];rfl⟩
   obtain ⟨x,hx,he⟩:=Aqw.1 h2
   have:x=0:=by omega
   rw[← this];exact hx
 · refine .inr ⟨fun x hx=> ?_,?_,?_,?_⟩
   · have:=h2 (x:Int) (Aqw.2 ⟨x,hx,rfl⟩);omega
   · have:=XP s 1 (by rw[show ((1:Nat):Int)=1 from rfl,h3];exact h4)
     rw[show ((1:Nat):Int)=1 from rfl,h3]at this
     unfold Ed
     rw[this];omega
   · unfold Ed;omega
   · unfold Ed;omega
end Go.Proofs.YtokkbgpgaheakaaGreat
namespace Go
open Go.RowKit
theorem AaR(P:Program)(w:World)(dT sT ty elem:TypeId)(g o dLen dCap:Nat)(a:Addr)(sLen sCap sz:Nat)(cur:Array Value)(t:TypeId)(cs:List Value)
  (hu:P.underlying dT=some (.slice elem)) (hs:(P.info? elem).map (·.size)=some sz)
  (hg:w.heap[g]? = some (.cells cur t (0,0))) (hn:cs.length=Nat.min sLen dLen*sz)
  (hsrc : ∀ j v,cs[j]? = some v→w.cell? (a.add j)=some v) (hfit:o+cs.length≤cur.size) (h1 : ∀ v∈cs,v.oneCell'=true) :
  (Builtin.copy_ #[dT,sT] ty #[.slice (some ⟨g,o,none⟩) dLen dCap,.slice (some a) sLen sCap]).run P w =
   .ok (goInt (Nat.min sLen dLen:Nat)) (w.setRow g (cur.toList.take o++cs++cur.toList.drop (o+cs.length)).toArray):=by
 have hl:=run_loadCells_list (P:=P) w a cs hsrc
 have hst:=run_storeCells_at P g o t cs 0 cur w hg (by simpa using hfit) h1
 cases hq:P.info? elem with
 | none=>simp[hq]at hs
 | some i =>
  have hi:i.size=sz:=by simpa [hq]using hs
  rw[hn]at hl
  simp[Builtin.copy_,run_underlying hu,Builtin.lenOf,Builtin.firstCells,sizeOf,typeInfo,hq,hi,hl,hst]
theorem AaQ(P:Program)(w:World)(dT sT ty elem:TypeId)(d a:Option Addr)(dLen dCap sLen sCap sz:Nat)(hu:P.underlying dT=some (.slice elem))(hs:(P.info? elem).map (·.size)=some sz)(hn:Nat.min sLen dLen=0) :
  (Builtin.copy_ #[dT,sT] ty #[.slice d dLen dCap,.slice a sLen sCap]).run P w = .ok (goInt 0) w:=by
 cases hq:P.info? elem with
 | none=>simp[hq]at hs
 | some i =>
  have hl : ∀ (x:Addr),(loadCells x 0).run P w = .ok #[] w:=fun x=>by simpa using run_loadCells_list (P:=P) w x [] (by simp)
  cases d <;> cases a <;> simp[Builtin.copy_,run_underlying hu,Builtin.lenOf,Builtin.firstCells,sizeOf,typeInfo,hq,hn,storeCells,hl]
theorem AoX{P:Program}{w:World}{ops:Array Oper}{rest:List Oper}{o:Oper}{a:Act}{Q:Exit→Act→World→Prop}(hgd:o.guard=none)(d s:Operand)(dT sT:TypeId)
   (ho:o.op = .call { callee:= .builtin .copy,args:= #[d,s],argTypes:= #[dT,sT] }) (elem:TypeId) (sz:Nat) (hz:0<sz) (hu:P.underlying dT=some (.slice elem)) (hsz:(P.info? elem).map (·.size)=some sz)
   (dp sp:Option Addr) (dLen dCap sLen sCap:Nat) (hd:a.eval d = .slice dp dLen dCap) (hs:a.eval s = .slice sp sLen sCap)
   (g off:Nat) (cur:List Value) (t:TypeId) (hg:w.heap[g]? = some (.cells cur.toArray t (0,0))) (cs:List Value) (hn:cs.length=Nat.min sLen dLen*sz)
   (hpos:0<cs.length→dp=some ⟨g,off,none⟩∧∃ ad,sp=some ad∧∀ j v,cs[j]? = some v→w.cell? (ad.add j)=some v)
   (hfit:off+cs.length≤cur.length) (h1 : ∀ v∈cs,v.oneCell'=true) (B:Nat) (w0:World) (hb:Below B w0 w) (hBg:B≤g)
   (h : ∀ w',Hid (w'.heap[g]? = some (.cells (splice cur off cs).toArray t (0,0)))→Below B w0 w'→wpList P ops Q rest (a.put o.dst (goInt (Nat.min sLen dLen:Nat))) w') :
   wpList P ops Q (o::rest) a w:=by
 refine wpList_plain hgd fun K hK=> ?_
 by_cases h0:cs.length=0
 · have hm:Nat.min sLen dLen=0:=by
    rcases Nat.eq_zero_or_pos (Nat.min sLen dLen) with h | h
    · exact h
    · have:=Nat.mul_pos h hz;omega
   obtain rfl:cs = []:=List.eq_nil_of_length_eq_zero h0
   have hrun:=AaQ P w dT sT o.type elem dp sp dLen dCap sLen sCap sz hu hsz hm
   unfold Oper.wp
   simp[execOp,ho,resolve,invoke,builtin,hd,hs,hrun,Result.andThen]
   refine hK _ _ ?_
   have:=h w (show _=_ by simpa [splice]using hg) hb
   rw[hm]at this
   exact this
 · obtain ⟨rfl,ad,rfl,hsrc⟩:=hpos (by omega)
   have hrun:=AaR P w dT sT o.type elem g off dLen dCap ad sLen sCap sz cur.toArray t cs hu hsz hg hn hsrc (by simpa using hfit) h1
   unfold Oper.wp
   simp[execOp,ho,resolve,invoke,builtin,hd,hs,hrun,Result.andThen]
   refine hK _ _ ?_
   exact h _ (show _=_ by simpa [splice]using setRow_heap w g _ _ t _ hg) (below_setRow hb hBg _)
theorem Anz{P:Program}{ops:Array Oper}{o:Oper}{a:Act}{w:World}{K:Act→World→Prop}{Q:Exit→Act→World→Prop}{E:Prop}(hgd:o.guard=none)(d s:Operand)(dT sT:TypeId)
   (ho:o.op = .call { callee:= .builtin .copy,args:= #[d,s],argTypes:= #[dT,sT] }) (elem:TypeId) (sz:Nat) (hz:0<sz) (hu:P.underlying dT=some (.slice elem)) (hsz:(P.info? elem).map (·.size)=some sz)
   (dp sp:Option Addr) (dLen dCap sLen sCap:Nat) (hd:a.eval d = .slice dp dLen dCap) (hs:a.eval s = .slice sp sLen sCap)
   (g off:Nat) (cur:List Value) (t:TypeId) (hg:w.heap[g]? = some (.cells cur.toArray t (0,0))) (cs:List Value) (hn:cs.length=Nat.min sLen dLen*sz)
   (hpos:0<cs.length→dp=some ⟨g,off,none⟩∧∃ ad,sp=some ad∧∀ j v,cs[j]? = some v→w.cell? (ad.add j)=some v)
   (hfit:off+cs.length≤cur.length) (h1 : ∀ v∈cs,v.oneCell'=true) (B:Nat) (w0:World) (hb:RowKit.Below B w0 w) (hBg:B≤g)
   (h : ∀ w',RowKit.Hid (w'.heap[g]? = some (.cells (splice cur off cs).toArray t (0,0)))→RowKit.Below B w0 w'→K (a.put o.dst (goInt (Nat.min sLen dLen:Nat))) w') :
   if Region.wanted o (yielded ops a.tmps)=true then Oper.wp P o a w K Q else E:=by
 have hw:Region.wanted o (yielded ops a.tmps)=true:=by simp[Region.wanted,hgd]
 rw[if_pos hw]
 by_cases h0:cs.length=0
 · have hm:Nat.min sLen dLen=0:=by
    rcases Nat.eq_zero_or_pos (Nat.min sLen dLen) with h | h
    · exact h
    · have:=Nat.mul_pos h hz;omega
   obtain rfl:cs = []:=List.eq_nil_of_length_eq_zero h0
   have hrun:=AaQ P w dT sT o.type elem dp sp dLen dCap sLen sCap sz hu hsz hm
   unfold Oper.wp
   simp[execOp,ho,resolve,invoke,builtin,hd,hs,hrun,Result.andThen]
   have:=h w (show _=_ by simpa [splice]using hg) hb
   rw[hm]at this
   exact this
 · obtain ⟨rfl,ad,rfl,hsrc⟩:=hpos (by omega)
   have hrun:=AaR P w dT sT o.type elem g off dLen dCap ad sLen sCap sz cur.toArray t cs hu hsz hg hn hsrc (by simpa using hfit) h1
   unfold Oper.wp
   simp[execOp,ho,resolve,invoke,builtin,hd,hs,hrun,Result.andThen]
   exact h _ (show _=_ by simpa [splice]using setRow_heap w g _ _ t _ hg) (below_setRow hb hBg _)
end Go
namespace Go.Proofs.YtokkbgpgaheakaaGreat
open Go.RowKit
def C2(k:Nat)(xs:List Value):List Value:=(Apl k xs).flatten
theorem Ls(k:Nat)(xs:List Value):(C2 k xs).length=k*xs.length:=by unfold C2;rw[List.length_flatten];simp
theorem Aar(k m:Nat)(xs:List Value):C2 k xs++C2 m xs=C2 (k+m) xs:=by
 unfold C2;rw[← List.flatten_append,List.replicate_append_replicate]
theorem AlB(xs:List Value):C2 1 xs=xs:=by simp[C2]
theorem Aau(k:Nat)(xs:List Value):C2 (k+1) xs=xs++C2 k xs:=by unfold C2;rw[List.replicate_succ];rfl
theorem Aat{k:Nat}{xs:List Value}{v:Value}(h:v∈C2 k xs):v∈xs:=by
 unfold C2 at h
 obtain ⟨l,hl,hv⟩:=List.mem_flatten.1 h
 rwa[List.eq_of_mem_replicate hl]at hv
theorem Aas{xs:List Value} : ∀ {k i j:Nat},i<k→j<xs.length→(C2 k xs)[i*xs.length+j]? = xs[j]?
 | 0,i,j,h,_=>by omega
 | k+1,0,j,_,hj=>by rw[Aau,Nat.zero_mul,Aqv,Ap_ hj]
 | k+1,i+1,j,h,hj=>by
  rw[Aau,Aqn (by rw[Nat.succ_mul];omega),show (i+1)*xs.length+j-xs.length=i*xs.length+j by rw[Nat.succ_mul];omega]
  exact Aas (by omega) hj
theorem AbJ{xs cur:List Value}{k m:Nat}(h:cur.take (k*xs.length)=C2 k xs)(hk:(k+m)*xs.length≤cur.length):(splice cur (k*xs.length) (C2 m xs)).take ((k+m)*xs.length)=C2 (k+m) xs∧(splice cur (k*xs.length) (C2 m xs)).length=cur.length:=by
 have e:(k+m)*xs.length=k*xs.length+m*xs.length:=Nat.add_mul _ _ _
 refine ⟨?_,length_splice _ _ _ (by rw[Ls];omega)⟩
 unfold splice
 rw[h,← Ap8,Aar,List.take_append_of_le_length (by rw[Ls];omega),Aqh (by rw[Ls];omega)]
def QInv(w2:World)(G n:Nat)(xs:List Value)(iv:Value)(wr:World):Prop:=∃ (k:Nat) (cur:List Value),iv = .int .i64 k∧k≤n∧(0<n→0<k)∧cur.length=n*xs.length∧cur.take (k*xs.length)=C2 k xs∧wr.heap[G]? = some (.cells cur.toArray 67 (0,0))∧Below G w2 wr
theorem QInv.start {w2 w3:World} {G n:Nat} {xs X:List Value} (hX:X.length=n*xs.length) (h:w3.heap[G]? = some (.cells (splice X 0 (C2 (Nat.min 1 n) xs)).toArray 67 (0,0))) (hb:Below G w2 w3):QInv w2 G n xs (.int .i64 ((Nat.min 1 n:Nat):Int)) w3:=by
 have h2:Nat.min 1 n≤n:=Nat.min_le_right 1 n
 have h3:Nat.min 1 n=if 1≤n then 1 else n:=Nat.min_def
 have hm:=Ap3 xs.length h2
 obtain ⟨s1,s2⟩:=AbJ (xs:=xs) (cur:=X) (k:=0) (m:=Nat.min 1 n) (by rw[Nat.zero_mul];rfl) (by rw[Aqv];omega)
 rw[Aqv,Nat.zero_mul]at s1
 rw[Nat.zero_mul]at s2
 exact ⟨Nat.min 1 n,_,rfl,h2,fun h=>by rw[h3];split <;> omega,by omega,s1,h,hb⟩
theorem QInv.next {w2 w4:World} {G n k:Nat} {xs cur:List Value} (hk:k<n) (hp:0<k) (hl:cur.length=n*xs.length) (ht:cur.take (k*xs.length)=C2 k xs) (h:w4.heap[G]? = some (.cells (splice cur (k*xs.length) (C2 (Nat.min k (n-k)) xs)).toArray 67 (0,0))) (hb:Below G w2 w4):QInv w2 G n xs (.int .i64 ((k+Nat.min k (n-k):Nat):Int)) w4∧n-(k+Nat.min k (n-k))<n-k:=by
 have h3:Nat.min k (n-k)=if k≤n-k then k else n-k:=Nat.min_def
 have h4:0<Nat.min k (n-k)∧k+Nat.min k (n-k)≤n:=by rw[h3];split <;> omega
 have hm:=Ap3 xs.length h4.2
 obtain ⟨s1,s2⟩:=AbJ (xs:=xs) (cur:=cur) (k:=k) (m:=Nat.min k (n-k)) ht (by omega)
 exact ⟨⟨_,_,rfl,h4.2,fun _=>by omega,by omega,s1,h,hb⟩,by omega⟩
def AcP(n:Nat)(xs:List Value)(w:World)(e:Ending)(w':World):Prop:=∃ G,e = .returned (.slice (some ⟨G,0,none⟩) n n)∧w.heap.size≤G∧w'.heap[G]? = some (.cells (C2 n xs).toArray 67 (0,0))∧Ext w w'
theorem AeH:Elt Tryz.prog 24 67 7 104 :=
 ⟨Tryz.underlying24,by
  obtain ⟨i,hi,h1,h2,h3⟩:=info_parts (P:=Tryz.prog) (e:=67) (z:= .agg #[.int .u64 0,.int .i64 0,.bool false,.slice none 0 0,.slice none 0 0,.int .i64 0,.slice none 0 0]) (size:=7) (bytes:=104) (by kernel_rfl)
  exact ⟨i,_,hi,h1,h2,h3,rfl⟩,by decide⟩
theorem Ant{w w2:World}{ad:Addr}{xs:List Value}(h : ∀ j v,xs[j]? = some v→w.cell? (ad.add j)=some v)(hx:Ext w w2)(m:Nat)(hm:m≤1):0<(C2 m xs).length→∃ ad',some ad=some ad'∧∀ j v,(C2 m xs)[j]? = some v→w2.cell? (ad'.add j)=some v:=by
 intro hp
 have:m=1:=by
  rcases Nat.lt_or_ge 0 m with h | h
  · omega
  · have:m=0:=by omega
    subst this;simp[C2]at hp
 subst this
 rw[AlB]
 refine ⟨ad,rfl,fun j v hv=> ?_⟩
 have h0:=h j v hv
 have hb:ad.block<w.heap.size:=by
  rcases Nat.lt_or_ge ad.block w.heap.size with g | g
  · exact g
  · have hn:w.heap[ad.block]? = none:=Array.getElem?_eq_none g
    have e:(ad.add j).block=ad.block:=by unfold Addr.add;split <;> rfl
    unfold World.cell? at h0
    rw[e,hn]at h0
    cases h0
 have e:(ad.add j).block=ad.block:=by unfold Addr.add;split <;> rfl
 rw[← h0]
 exact World.cell?_of_block (by rw[e];exact hx.block _ hb)
theorem Anv{w:World}{G k:Nat}{xs cur:List Value}{T:TypeId}(h:w.heap[G]? = some (.cells cur.toArray T (0,0)))(ht:cur.take (k*xs.length)=C2 k xs)(m:Nat)(hm:m≤k) : ∀ j v,(C2 m xs)[j]? = some v→w.cell? ((⟨G,0,none⟩:Addr).add j)=some v:=by
 intro j v hv
 have hj:=(Apo.1 hv).1
 rw[Ls]at hj
 have hmk:=Ap3 xs.length hm
 have e:C2 k xs=C2 m xs++C2 (k-m) xs:=by rw[Aar];congr 1;omega
 have hcj:cur[j]? = some v:=by
  have h1:(cur.take (k*xs.length))[j]? = some v:=by rw[ht,e,Ap_ (by rw[Ls];exact hj)];exact hv
  rw[List.getElem?_take,if_pos (by omega)]at h1
  exact h1
 have ea:(⟨G,0,none⟩:Addr).add j=⟨G,j,none⟩:=by unfold Addr.add;split <;> simp_all
 rw[ea]
 unfold World.cell?
 simp[h,hcj]
set_option maxHeartbeats 2000000 in
theorem Al9(ad:Addr)(c n:Nat)(xs:List Value)(w:World)(hn:n≤1000000)(hx7:xs.length=7)(h1 : ∀ v∈xs,v.oneCell'=true)(hs : ∀ j v,xs[j]? = some v→w.cell? (ad.add j)=some v):Calls Tryz.prog 233 #[.slice (some ad) 1 c,.int .i64 n] w (AcP n xs w):=by
 have HS:=Lib.hid hs
 have HO:=Lib.hid h1
 have H7:=Lib.hid hx7
 clear hs h1 hx7
 have hu:Tryz.prog.underlying 24=some (.slice 67):=by kernel_rfl
 have hz:(Tryz.prog.info? 67).map (·.size)=some 7:=by kernel_rfl
 have HU:=Lib.hid hu
 have HZ:=Lib.hid hz
 clear hu hz
 go_enter Tryz.func233,Tryz.ntmps233
 go_wp2_with (first
  | (go_at_call 231;refine (UR n (by omega) _).mono ?_;rintro e w1 ⟨rfl,hx1⟩)
  | (at_make;refine AcA AeH rfl _ _ rfl n rfl rfl (by omega) (by omega) (by omega) (by unfold maxLen;omega) ?_;intro G w2 X hG HG hX hx2;have HX:=Lib.hid hX;clear hX)
  | (refine AoX rfl (.tmp 31) (.tmp 32) 24 24 rfl 67 7 (by decide) HU.out HZ.out (some ⟨G,0,none⟩) (some ad) n n 1 c (by simp[Act.eval,Act.put]) (by simp[Act.eval,Act.put]) G 0 X 67 HG.out (C2 (Nat.min 1 n) xs) (by rw[Ls,H7.out]) (fun hp=>⟨rfl,Ant HS.out (hx1.trans hx2) _ (Nat.min_le_left _ _) hp⟩) (by have h1:=HX.out;have h2:Nat.min 1 n≤n:=Nat.min_le_right 1 n;rw[Ls,H7.out];omega) (fun v hv=>HO.out v (Aat hv)) G w2 (Below.refl _ _) (Apx _) ?_;intro w3 HG3 hb3))
 go_loopw [8] (QInv w2 G n xs) (fun iv _=>n-(intOf iv).toNat)
 case atStart=>exact QInv.start (by rw[H7.out];exact HX.out) HG3.out hb3
 case round =>
  obtain ⟨k,cur,rfl,hk,hp,hl,ht,hh,hb⟩:=hrel
  rw[H7.out]at hl ht
  have HT:=Lib.hid ht
  have HH:=Lib.hid hh
  have HB:=Lib.hid hb
  have HL:=Lib.hid hl
  clear ht hh hb hl
  by_cases hlt:k<n
  · have hpk:0<k:=hp (by omega)
    clear hp
    have HSR:=Lib.hid (Anv (w:=wr.drew) (xs:=xs) HH.out (by rw[H7.out];exact HT.out) (Nat.min k (n-k)) (Nat.min_le_left _ _))
    have HNE:=Lib.hid (show (if n=k then some (⟨G,0,none⟩:Addr) else some ⟨G,k*7,none⟩)=some ⟨G,k*7,none⟩ from if_neg (by omega))
    go_wp2_with fail
    go_region_law (refine Anz rfl (.tmp 41) (.tmp 44) 24 24 rfl 67 7 (by decide) HU.out HZ.out (if n=k then some ⟨G,0,none⟩ else some ⟨G,k*7,none⟩) (some ⟨G,0,none⟩) (n-k) (n-k) k n (by simp[Act.eval,Act.put]) (by simp[Act.eval,Act.put]) G (k*7) cur 67 HH.out (C2 (Nat.min k (n-k)) xs) (by rw[Ls,H7.out]) (fun _=>⟨HNE.out,_,rfl,HSR.out⟩) (by have h1:=HL.out;have h2:Nat.min k (n-k)≤n-k:=Nat.min_le_right k (n-k);rw[Ls,H7.out];omega) (fun v hv=>HO.out v (Aat hv)) G w2 HB.out.drew (Apx _) ?_;intro w4 HG4 hb4)
    go_wp2
    go_roundw
    case rel =>
     rw[AW hlt (by omega)]
     exact (QInv.next (xs:=xs) (cur:=cur) hlt hpk (by rw[H7.out];exact HL.out) (by rw[H7.out];exact HT.out) (by rw[H7.out];exact HG4.out) hb4).1
    case measure =>
     rw[AW hlt (by omega)]
     exact (QInv.next (xs:=xs) (cur:=cur) hlt hpk (by rw[H7.out];exact HL.out) (by rw[H7.out];exact HT.out) (by rw[H7.out];exact HG4.out) hb4).2
  · have hkn:k=n:=by omega
    subst hkn
    go_wp2_with fail
    go_ret
    have hh:=HH.out
    have hcur:cur=C2 k xs:=by
     have h1:=HT.out
     rw[Aqh (by have:=HL.out;omega)]at h1
     exact h1
    rw[hcur]at hh
    exact ⟨G,rfl,Nat.le_trans hx1.size hG,hh,Below.trans (hx1.trans hx2) (Below.mono HB.out (Nat.le_trans hx1.size hG))⟩
theorem Al_(n:Nat)(x:Cell)(hn:n≤1000000):Sp 233 [.sl [dC x],.int (n:Int)] [.sl (Apl n (dC x))]:=by
 refine CU Nk Tryz.func233 (by kernel_rfl) (by kernel_rfl) (by kernel_rfl) (fun w M vs hM _ hlv hrd=> ?_)
 have hps:Tryz.f233.params.toList = [24,3]:=by kernel_rfl
 have hu:Tryz.prog.underlying 24=some (.slice 67):=by kernel_rfl
 have hc7:Tryz.prog.cellsOf 67=7:=by kernel_rfl
 have hlen:vs.length=2:=by rw[hlv];rfl
 match vs,hlen with
 | [va,vb],_ =>
  rw[hps]at hrd
  have ra:=hrd 0 _ _ _ rfl rfl rfl
  obtain ⟨rfl,_⟩:=YF (hrd 1 _ _ _ rfl rfl rfl)
  have hva : ∃ A c,va = .slice A 1 c:=by
   obtain ⟨h1,h2,h3⟩:=ra
   have ha:Dv va=false:=by rw[h3];kernel_rfl
   cases h1 with
   | @sl _ e _ _ A cap bk off ht hc h4 h5 hA hh =>
    rw[I0 ha]at hc
    exact ⟨A,cap,by simpa using hc⟩
  obtain ⟨A,c,rfl⟩:=hva
  obtain ⟨_,_,_,bk,off,hA,hel⟩:=Abv ra.rd hu
  obtain ⟨rfl,hMb,hbs⟩:=hA (by simp)
  obtain ⟨news,hnl,hsrc,hone,hnr⟩:=FW Nk (by rw[hc7];decide) hel
  have hn7:news.length=7:=by rw[hnl,hc7];rfl
  have hx0:=hnr 0 (dC x) rfl
  refine (Al9 _ c n news w hn hn7 hone hsrc).mono ?_
  rintro e w' ⟨G,rfl,hG,hv,hx⟩
  refine ⟨[_],rfl,rfl,fun i t u ht hu'=> ?_,hx⟩
  rw[show Tryz.f233.resultTypes.toList = [24] by kernel_rfl]at ht
  match i with
  | 0 =>
   cases ht;cases hu'
   have hGs : ¬ M G:=fun hm=>by have:=hM G hm;omega
   have hGl:G<w'.heap.size:=(Aqi.1 hv).1
   refine ⟨.sl (e:=67) (A:=some ⟨G,0,none⟩) (cap:=n) (bk:=G) (off:=0) hu (by simp;rfl) (by simp) (by unfold maxLen;omega) (fun _=>⟨rfl,hGs,hGl⟩) (fun i y hy=> ?_),by kernel_rfl,by kernel_rfl⟩
   have hi:i<n:=by have:=(Apo.1 hy).1;simpa using this
   have hy':y=dC x:=by
    have:=Apq hy
    exact List.eq_of_mem_replicate this
   subst hy'
   have h1:=hx0.mono (w':=w') (M':=M) hx.size (fun b _ hb=>hx.block b hb) (fun b hb _=>hb)
   refine h1.congr (fun j hj=> ?_) (by show 0<Tryz.prog.cellsOf 67;rw[hc7];decide)
   have hj7:j<7:=by
    have:j<Tryz.prog.cellsOf 67:=hj
    rwa[hc7]at this
   show w'.cell? ⟨G,0+(i*Tryz.prog.cellsOf 67+j),none⟩=news[0*Tryz.prog.cellsOf 67+j]?
   rw[hc7,Nat.zero_mul,Aqv,Aqv,← Aas (xs:=news) hi (by omega),hn7]
   unfold World.cell?
   simp[hv]
  | i+1=>simp at ht
end Go.Proofs.YtokkbgpgaheakaaGreat
namespace Go.Proofs.YtokkbgpgaheakaaGreat
def Zd:List (Nat×Orc):=[(10,⟨[(1,none),(2,none),(6,none),(28,some 23),(29,none),(30,none)],[(1,true),(2,false)],[(.slot 6,1100,67)]⟩)]
noncomputable def Tc(n m10:Nat)(cells6:List D)(t28:D)(t29 t30:Int)(a1:D)(t2_0:Int):Tree :=
 lA (eA Zd n 68 [1,1,1,1,1,1,0,1,0,0]) (Al Zd 10) m10 ⟨(.undef:: .ptr 1 []:: .ptr 2 []::uA 3++(.row 1100::uA 21++(.d 23 t28:: .i .i64 t29:: .i .i64 t30::uA 18))),[(1,.var 26 (.d 26 a1) true),(2,.var 26 (.agg 26 [.i .u64 t2_0,.mt,.mt]) true),(1100,.row 67 cells6 true)],[1,2,1100],[],[]⟩
  (Aj 0 (An (jA Zd n 68 [1,1,1,1,1,1,1]) (rA 68 [26] [.cell 2 26,.tmp 3] [26,29])))
theorem WS(n m10:Nat)(cells6:List D)(t28:D)(t29 t30:Int)(a1:D)(t2_0:Int):Tc n (m10+1) cells6 t28 t29 t30 a1 t2_0 =
 bK (t30<t29) (kK (0≤t30) (kK (t30<(t28.els.length:Int)) (.br (((t28.els.getD (Apj t30) D.nil).toInt)==1) (cK 138 [D.int (Api .i64 (t30+1))] fun Y3 =>
 kK (cells6.length + [qA Y3].length≤Ak) (Tc n m10 (cells6++[qA Y3]) t28 t29 (Api .i64 (t30+1)) a1 t2_0))
 (Tc n m10 cells6 t28 t29 (Api .i64 (t30+1)) a1 t2_0))))
 (cK 149 [D.sl cells6] fun Y4 =>
 cK 84 [a1] fun Y5 =>
 cK 90 [qA Y4,D.int ((qA Y5).toInt)] fun Y6 =>
 .ret [qA Y6,D.int 0]):=by kernel_rfl
theorem Aje(n:Nat)(a0:D):fA Zd n 68 [] [a0] =
 cK 80 [a0] fun Y1 =>
 .br (((qB Y1).toInt)!=0) (.ret [D.agg [D.int 0,D.sl [],D.sl []],D.int ((qB Y1).toInt)])
 (.br ((((a0.fld 1).els).length:Int)==0) (.ret [D.agg [D.int 0,D.sl [],D.sl []],D.int 5])
 (cK 153 [qA Y1] fun Y2 =>
 .br (!((qA Y2).toBool)) (.ret [D.agg [D.int 0,D.sl [],D.sl []],D.int 3])
 (Tc n n [] (qA Y1) (((qA Y1).els).length:Int) 0 a0 0))):=by kernel_rfl
def I_:List (Nat×Orc):=[(18,⟨[(3,none),(4,none),(6,none),(7,none),(9,some 23),(10,none),(11,none),(13,none),(64,some 23),(65,none),(66,none)],[(3,true),(4,true),(6,false),(7,false)],[(.slot 13,1180,3)]⟩),(25,⟨[(3,none),(4,none),(6,none),(7,none),(9,some 23),(10,none),(11,none),(13,none),(14,none),(64,some 23),(65,none),(66,none),(79,none),(80,none)],[(3,true),(4,true),(6,false),(7,false)],[(.slot 13,1250,3)]⟩)]
def JL:List ResultVar:=[.cell 6 26,.cell 7 29]
noncomputable def Qk(n m18 m25:Nat)(s9:D)(axis10 long11:Int)(from13:List D)(i14:Int)(t64:D)(t65 t66:Int)(t79 t80:Int)(nn3 a4:D)(r6_0 e7:Int):Tree :=
 lA (eA I_ n 110 [1,1,1,1,1,1,1,1,1,1,1,1,0,1,0,0,1,1,0,0,1,1,1,1,0,0]) (Al I_ 25) m25 ⟨(uA 3++(.ptr 3 []:: .ptr 4 []:: .undef:: .ptr 6 []:: .ptr 7 []:: .undef:: .d 23 s9:: .i .i64 axis10:: .i .i64 long11:: .undef:: .row 1250:: .i .i64 i14::uA 49++(.d 23 t64:: .i .i64 t65:: .i .i64 t66::uA 12++(.i .i64 t79:: .i .i64 t80::uA 15)))),[(3,.var 26 (.d 26 nn3) true),(4,.var 26 (.d 26 a4) true),(6,.var 26 (.agg 26 [.i .u64 r6_0,.mt,.mt]) true),(7,.var 29 (.i .i64 e7) true),(1250,.row 3 from13 true)],[3,4,6,7,1250],[(187,[.ptr 6 [],.ptr 7 []])],[]⟩
  (Aj 2 (Aj 1 (An (jA I_ n 110 [1,1,1,1,1,1,1,1,1,1,1,1,0,1,0,0,1,1,1]) (Fs Tryz.prog md (Al I_ 18) (fun s1=>lA (eA I_ n 110 [1,1,1,1,1,1,1,1,1,1,1,1,0,1,0,0]) (Al I_ 18) m18 s1 (Aj 0 (An (jA I_ n 110 [1,1,1,1,1,1,1,1,1,1,1,1,1]) (rA 110 [26,26,4] JL [26,29])))) (Aj 0 (An (jA I_ n 110 [1,1,1,1,1,1,1,1,1,1,1,1,1]) (rA 110 [26,26,4] JL [26,29])))))))
noncomputable def I9(n m18:Nat)(s9:D)(axis10 long11:Int)(from13:List D)(t64:D)(t65 t66:Int)(nn3 a4:D)(r6_0 e7:Int):Tree :=
 lA (eA I_ n 110 [1,1,1,1,1,1,1,1,1,1,1,1,0,1,0,0]) (Al I_ 18) m18 ⟨(uA 3++(.ptr 3 []:: .ptr 4 []:: .undef:: .ptr 6 []:: .ptr 7 []:: .undef:: .d 23 s9:: .i .i64 axis10:: .i .i64 long11:: .undef:: .row 1180::uA 50++(.d 23 t64:: .i .i64 t65:: .i .i64 t66::uA 29))),[(3,.var 26 (.d 26 nn3) true),(4,.var 26 (.d 26 a4) true),(6,.var 26 (.agg 26 [.i .u64 r6_0,.mt,.mt]) true),(7,.var 29 (.i .i64 e7) true),(1180,.row 3 from13 true)],[3,4,6,7,1180],[(187,[.ptr 6 [],.ptr 7 []])],[]⟩
  (Aj 0 (An (jA I_ n 110 [1,1,1,1,1,1,1,1,1,1,1,1,1]) (rA 110 [26,26,4] JL [26,29])))
theorem WQ(n m18 m25:Nat)(s9:D)(axis10 long11:Int)(from13:List D)(i14:Int)(t64:D)(t65 t66:Int)(t79 t80:Int)(nn3 a4:D)(r6_0 e7:Int):Qk n m18 (m25+1) s9 axis10 long11 from13 i14 t64 t65 t66 t79 t80 nn3 a4 r6_0 e7 =
 bK (t80<t79) (kK (from13.length + [D.int i14].length≤Ak) (Qk n m18 m25 s9 axis10 long11 (from13++[D.int i14]) i14 t64 t65 t66 t79 (Api .i64 (t80+1)) nn3 a4 r6_0 e7))
 (I9 n m18 s9 axis10 long11 from13 t64 t65 (Api .i64 (t66+1)) nn3 a4 r6_0 e7):=by kernel_rfl
theorem WP(n m18:Nat)(s9:D)(axis10 long11:Int)(from13:List D)(t64:D)(t65 t66:Int)(nn3 a4:D)(r6_0 e7:Int):I9 n (m18+1) s9 axis10 long11 from13 t64 t65 t66 nn3 a4 r6_0 e7 =
 bK (t66<t65) (kK (0≤t66) (kK (t66<(t64.els.length:Int)) (bK ((Api .i64 (2048-(from13.length:Int)))<((t64.els.getD (Apj t66) D.nil).toInt)) (.ret [D.agg [D.int 0,D.sl [],D.sl []],D.int 7])
 (.br (long11 == 1) (Qk n m18 n s9 axis10 long11 from13 0 t64 t65 t66 ((t64.els.getD (Apj t66) D.nil).toInt) 0 nn3 a4 r6_0 e7)
 (Qk n m18 n s9 axis10 long11 from13 t66 t64 t65 t66 ((t64.els.getD (Apj t66) D.nil).toInt) 0 nn3 a4 r6_0 e7)))))
 (cK 190 [nn3,a4,s9,D.int axis10,D.sl from13] fun Y5 =>
 .ret [qA Y5,D.int ((qB Y5).toInt)]):=by kernel_rfl
theorem Ajc(n:Nat)(nn0 a1 first2:D):fA I_ n 110 [] [nn0,a1,first2] =
 cK 80 [nn0] fun Y1 =>
 .br (((qB Y1).toInt)!=0) (.ret [D.agg [D.int 0,D.sl [],D.sl []],D.int ((qB Y1).toInt)])
 (cK 167 [qA Y1,D.fn 188 [] []] fun Y2 =>
 .br ((qA Y2).toBool) (.ret [D.agg [D.int 0,D.sl [],D.sl []],D.int 3])
 (cK 189 [a1,D.bool first2.toBool] fun Y3 =>
 kK (0≤(qB Y3).toInt) (kK ((qB Y3).toInt<(((qA Y3).els).length:Int)) (.br (!((((nn0.fld 1).els).length:Int)==0)) (.br (((((qA Y3).els).getD (Apj ((qB Y3).toInt)) D.nil).toInt)!=1) (.br ((((qA Y1).els).length:Int)!=((((qA Y3).els).getD (Apj ((qB Y3).toInt)) D.nil).toInt)) (.ret [D.agg [D.int 0,D.sl [],D.sl []],D.int 4])
 (bK (2048<((((qA Y3).els).getD (Apj ((qB Y3).toInt)) D.nil).toInt)) (.ret [D.agg [D.int 0,D.sl [],D.sl []],D.int 7])
 (.br ((((nn0.fld 1).els).length:Int)==0) (cK 177 [qA Y1,D.int ((((qA Y3).els).getD (Apj ((qB Y3).toInt)) D.nil).toInt)] fun Y4 =>
 I9 n n (qA Y3) ((qB Y3).toInt) ((((qA Y3).els).getD (Apj ((qB Y3).toInt)) D.nil).toInt) [] (qA Y4) (((qA Y4).els).length:Int) 0 nn0 a1 0 ((qB Y1).toInt))
 (I9 n n (qA Y3) ((qB Y3).toInt) ((((qA Y3).els).getD (Apj ((qB Y3).toInt)) D.nil).toInt) [] (qA Y1) (((qA Y1).els).length:Int) 0 nn0 a1 0 ((qB Y1).toInt)))))
 (bK (2048<((((qA Y3).els).getD (Apj ((qB Y3).toInt)) D.nil).toInt)) (.ret [D.agg [D.int 0,D.sl [],D.sl []],D.int 7])
 (.br ((((nn0.fld 1).els).length:Int)==0) (cK 177 [qA Y1,D.int ((((qA Y3).els).getD (Apj ((qB Y3).toInt)) D.nil).toInt)] fun Y6 =>
 I9 n n (qA Y3) ((qB Y3).toInt) ((((qA Y3).els).getD (Apj ((qB Y3).toInt)) D.nil).toInt) [] (qA Y6) (((qA Y6).els).length:Int) 0 nn0 a1 0 ((qB Y1).toInt))
 (I9 n n (qA Y3) ((qB Y3).toInt) ((((qA Y3).els).getD (Apj ((qB Y3).toInt)) D.nil).toInt) [] (qA Y1) (((qA Y1).els).length:Int) 0 nn0 a1 0 ((qB Y1).toInt)))))
 (bK (2048<((((qA Y3).els).getD (Apj ((qB Y3).toInt)) D.nil).toInt)) (.ret [D.agg [D.int 0,D.sl [],D.sl []],D.int 7])
 (.br ((((nn0.fld 1).els).length:Int)==0) (cK 177 [qA Y1,D.int ((((qA Y3).els).getD (Apj ((qB Y3).toInt)) D.nil).toInt)] fun Y7 =>
 I9 n n (qA Y3) ((qB Y3).toInt) ((((qA Y3).els).getD (Apj ((qB Y3).toInt)) D.nil).toInt) [] (qA Y7) (((qA Y7).els).length:Int) 0 nn0 a1 0 ((qB Y1).toInt))
 (I9 n n (qA Y3) ((qB Y3).toInt) ((((qA Y3).els).getD (Apj ((qB Y3).toInt)) D.nil).toInt) [] (qA Y1) (((qA Y1).els).length:Int) 0 nn0 a1 0 ((qB Y1).toInt)))))))):=by kernel_rfl
def Og:List (Nat×Orc):=[(11,⟨[(3,none),(4,none),(6,none),(7,none),(9,some 23),(10,none),(11,none),(12,none),(39,some 23),(40,none),(41,none)],[(3,true),(4,true),(6,false),(7,false)],[(.slot 11,1110,3)]⟩),(20,⟨[(3,none),(4,none),(6,none),(7,none),(9,some 23),(10,none),(11,none),(64,none),(65,none)],[(3,true),(4,true),(6,false),(7,false)],[(.slot 11,1200,3)]⟩)]
def WN:List ResultVar:=[.cell 6 26,.cell 7 29]
noncomputable def Tb(n m20:Nat)(s9:D)(axis10:Int)(from11:List D)(t64 t65:Int)(nn3 a4:D)(r6_0 e7:Int):Tree :=
 lA (eA Og n 111 [1,1,1,1,1,1,1,1,1,0,1,0,1,0,0]) (Al Og 20) m20 ⟨(uA 3++(.ptr 3 []:: .ptr 4 []:: .undef:: .ptr 6 []:: .ptr 7 []:: .undef:: .d 23 s9:: .i .i64 axis10:: .row 1200::uA 52++(.i .i64 t64:: .i .i64 t65::uA 26))),[(3,.var 26 (.d 26 nn3) true),(4,.var 26 (.d 26 a4) true),(6,.var 26 (.agg 26 [.i .u64 r6_0,.mt,.mt]) true),(7,.var 29 (.i .i64 e7) true),(1200,.row 3 from11 true)],[3,4,6,7,1200],[(191,[.ptr 6 [],.ptr 7 []])],[]⟩
  (Aj 2 (An (jA Og n 111 [1,1,1,1,1,1,1,1,1,1]) (rA 111 [26,26,4] WN [26,29])))
noncomputable def Ta(n m11:Nat)(s9:D)(axis10:Int)(from11:List D)(ones12:Int)(t39:D)(t40 t41:Int)(nn3 a4:D)(r6_0 e7:Int):Tree :=
 lA (eA Og n 111 [1,1,1,1,1,1,1,1,0,1,0,0]) (Al Og 11) m11 ⟨(uA 3++(.ptr 3 []:: .ptr 4 []:: .undef:: .ptr 6 []:: .ptr 7 []:: .undef:: .d 23 s9:: .i .i64 axis10:: .row 1110:: .i .i64 ones12::uA 26++(.d 23 t39:: .i .i64 t40:: .i .i64 t41::uA 50))),[(3,.var 26 (.d 26 nn3) true),(4,.var 26 (.d 26 a4) true),(6,.var 26 (.agg 26 [.i .u64 r6_0,.mt,.mt]) true),(7,.var 29 (.i .i64 e7) true),(1110,.row 3 from11 true)],[3,4,6,7,1110],[(191,[.ptr 6 [],.ptr 7 []])],[]⟩
  (Aj 0 (An (jA Og n 111 [1,1,1,1,1,1,1,1,1]) (rA 111 [26,26,4] WN [26,29])))
theorem WM(n m20:Nat)(s9:D)(axis10:Int)(from11:List D)(t64 t65:Int)(nn3 a4:D)(r6_0 e7:Int):Tb n (m20+1) s9 axis10 from11 t64 t65 nn3 a4 r6_0 e7 =
 bK (t65<t64) (kK (0≤t65) (kK (t65<(from11.length:Int)) (kK (0≤t65) (kK (t65<(from11.length:Int)) (Tb n m20 s9 axis10 (from11.set (Apj t65) (D.int (if 0<((from11.getD (Apj t65) D.nil).toInt) then 0 else ((from11.getD (Apj t65) D.nil).toInt)))) t64 (Api .i64 (t65+1)) nn3 a4 r6_0 e7)))))
 (cK 190 [nn3,a4,s9,D.int axis10,D.sl from11] fun Y4 =>
 .ret [qA Y4,D.int ((qB Y4).toInt)]):=by kernel_rfl
theorem WL(n m11:Nat)(s9:D)(axis10:Int)(from11:List D)(ones12:Int)(t39:D)(t40 t41:Int)(nn3 a4:D)(r6_0 e7:Int):Ta n (m11+1) s9 axis10 from11 ones12 t39 t40 t41 nn3 a4 r6_0 e7 =
 bK (t41<t40) (kK (0≤t41) (kK (t41<(t39.els.length:Int)) (kK (0≤t41) (kK (t41<(from11.length:Int)) (.br (((t39.els.getD (Apj t41) D.nil).toInt)==1) (kK (0≤t41) (kK (t41<((from11.set (Apj t41) (D.int (-1))).length:Int)) (Ta n m11 s9 axis10 ((from11.set (Apj t41) (D.int (-1))).set (Apj t41) (D.int ones12)) (Api .i64 (ones12+1)) t39 t40 (Api .i64 (t41+1)) nn3 a4 r6_0 e7)))
 (Ta n m11 s9 axis10 (from11.set (Apj t41) (D.int (-1))) ones12 t39 t40 (Api .i64 (t41+1)) nn3 a4 r6_0 e7))))))
 (kK (0≤axis10) (kK (axis10<(s9.els.length:Int)) (.br (((s9.els.getD (Apj axis10) D.nil).toInt)==1) (Tb n n s9 axis10 from11 (from11.length:Int) 0 nn3 a4 r6_0 e7)
 (kK (0≤axis10) (kK (axis10<(s9.els.length:Int)) (.br (ones12 != ((s9.els.getD (Apj axis10) D.nil).toInt)) (.ret [D.agg [D.int 0,D.sl [],D.sl []],D.int 4])
 (cK 190 [nn3,a4,s9,D.int axis10,D.sl from11] fun Y5 =>
 .ret [qA Y5,D.int ((qB Y5).toInt)]))))))):=by kernel_rfl
theorem Aja(n:Nat)(nn0 a1 first2:D):fA Og n 111 [] [nn0,a1,first2] =
 cK 80 [nn0] fun Y1 =>
 .br (((qB Y1).toInt)!=0) (.ret [D.agg [D.int 0,D.sl [],D.sl []],D.int ((qB Y1).toInt)])
 (cK 153 [qA Y1] fun Y2 =>
 .br (!((qA Y2).toBool)) (.ret [D.agg [D.int 0,D.sl [],D.sl []],D.int 3])
 (cK 189 [a1,D.bool first2.toBool] fun Y3 =>
 kK (0≤(((qA Y1).els).length:Int)) (kK ((((qA Y1).els).length:Int)≤(((qA Y1).els).length:Int)) (kK ((((qA Y1).els).length:Int)≤Ak) (Ta n n (qA Y3) ((qB Y3).toInt) (Apl (Apj (((qA Y1).els).length:Int)) (D.int 0)) 0 (qA Y1) (((qA Y1).els).length:Int) 0 nn0 a1 0 ((qB Y1).toInt)))))):=by kernel_rfl
def Ze:List (Nat×Orc):=[(2,⟨[(5,some 23),(6,none),(7,none)],[],[]⟩)]
noncomputable def Ql(n m2:Nat)(t5:D)(t6 t7:Int):Tree :=
 lA (eA Ze n 153 [1,0,1,0,0]) (Al Ze 2) m2 ⟨(uA 5++(.d 23 t5:: .i .i64 t6:: .i .i64 t7::uA 10)),[],[],[],[]⟩
  (Aj 0 (An (jA Ze n 153 [1,1]) (rA 153 [23] [.tmp 2] [4])))
theorem WU(n m2:Nat)(t5:D)(t6 t7:Int):Ql n (m2+1) t5 t6 t7 =
 bK (t7<t6) (kK (0≤t7) (kK (t7<(t5.els.length:Int)) (.br (((t5.els.getD (Apj t7) D.nil).toInt)!=0) (.br (((t5.els.getD (Apj t7) D.nil).toInt)!=1) (.ret [D.bool false])
 (Ql n m2 t5 t6 (Api .i64 (t7+1))))
 (Ql n m2 t5 t6 (Api .i64 (t7+1))))))
 (.ret [D.bool true]):=by kernel_rfl
theorem Ajg(n:Nat)(l0:D):fA Ze n 153 [] [l0] =
 Ql n n l0 (l0.els.length:Int) 0:=by kernel_rfl
theorem Ajb(n:Nat)(k0:D):fA [] n 188 [] [k0] =
 .ret [D.bool (decide (k0.toInt<0))]:=by kernel_rfl
theorem Ajf(n:Nat)(a0 first1:D):fA [] n 189 [] [a0,first1] =
 .br ((((a0.fld 1).els).length:Int)==0) (.ret [D.sl [D.int 1],D.int 0])
 (.br first1.toBool (cK 96 [a0.fld 1] fun Y1 =>
 .ret [D.sl ((qA Y1).els),D.int 0])
 (cK 96 [a0.fld 1] fun Y2 =>
 .ret [D.sl ((qA Y2).els),D.int (Api .i64 ((((a0.fld 1).els).length:Int)-1))])):=by kernel_rfl
def Ja:List (Nat×Orc):=[(9,⟨[(2,some 23),(3,none),(4,some 23),(5,none),(6,none),(10,none),(12,some 23),(18,none),(20,none),(21,none),(55,none),(56,none)],[(5,true),(6,true),(10,false),(20,true)],[(.slot 21,1090,67)]⟩),(12,⟨[(2,some 23),(3,none),(4,some 23),(5,none),(6,none),(10,none),(12,some 23),(18,none),(20,none),(21,none),(22,none),(55,none),(56,none),(59,some 23),(60,none),(61,none)],[(5,true),(6,true),(10,false),(20,true)],[(.slot 21,1120,67)]⟩)]
def JM:List Nat:=[26,26,23,3,23]
def JN:List ResultVar:=[.cell 10 26,.tmp 11]
noncomputable def Td(n m9 m12:Nat)(s2:D)(axis3:Int)(from4 t12:D)(behind18:Int)(cells21:List D)(i22 t55 t56:Int)(t59:D)(t60 t61:Int)(nn5 a6:D)(t10_0:Int)(fill20:D):Tree :=
 lA (eA Ja n 190 [1,1,1,1,1,1,1,0,1,0,0,1,1,0,0,1,1,0,0]) (Al Ja 12) m12 ⟨(.undef:: .undef:: .d 23 s2:: .i .i64 axis3:: .d 23 from4:: .ptr 5 []:: .ptr 6 []::uA 3++(.ptr 10 []:: .undef:: .d 23 t12::uA 5++(.i .i64 behind18:: .undef:: .ptr 20 []:: .row 1120:: .i .i64 i22::uA 32++(.i .i64 t55:: .i .i64 t56:: .undef:: .undef:: .d 23 t59:: .i .i64 t60:: .i .i64 t61::uA 40)))),[(5,.var 26 (.d 26 nn5) true),(6,.var 26 (.d 26 a6) true),(10,.var 26 (.agg 26 [.i .u64 t10_0,.mt,.mt]) true),(20,.var 67 (.d 67 fill20) true),(1120,.row 67 cells21 true)],[5,6,10,20,1120],[],[]⟩
  (Aj 2 (Aj 1 (An (jA Ja n 190 [1,1,1,1,1,1,1,0,1,0,0,1,1,1]) (Fs Tryz.prog md (Al Ja 9) (fun s1=>lA (eA Ja n 190 [1,1,1,1,1,1,1,0,1,0,0]) (Al Ja 9) m9 s1 (Aj 0 (An (jA Ja n 190 [1,1,1,1,1,1,1,1]) (rA 190 JM JN [26,29])))) (Aj 0 (An (jA Ja n 190 [1,1,1,1,1,1,1,1]) (rA 190 JM JN [26,29])))))))
noncomputable def Zf(n m9:Nat)(s2:D)(axis3:Int)(from4 t12:D)(behind18:Int)(cells21:List D)(t55 t56:Int)(nn5 a6:D)(t10_0:Int)(fill20:D):Tree :=
 lA (eA Ja n 190 [1,1,1,1,1,1,1,0,1,0,0]) (Al Ja 9) m9 ⟨(.undef:: .undef:: .d 23 s2:: .i .i64 axis3:: .d 23 from4:: .ptr 5 []:: .ptr 6 []::uA 3++(.ptr 10 []:: .undef:: .d 23 t12::uA 5++(.i .i64 behind18:: .undef:: .ptr 20 []:: .row 1090::uA 33++(.i .i64 t55:: .i .i64 t56::uA 45)))),[(5,.var 26 (.d 26 nn5) true),(6,.var 26 (.d 26 a6) true),(10,.var 26 (.agg 26 [.i .u64 t10_0,.mt,.mt]) true),(20,.var 67 (.d 67 fill20) true),(1090,.row 67 cells21 true)],[5,6,10,20,1090],[],[]⟩
  (Aj 0 (An (jA Ja n 190 [1,1,1,1,1,1,1,1]) (rA 190 JM JN [26,29])))
theorem WY(n m9 m12:Nat)(s2:D)(axis3:Int)(from4 t12:D)(behind18:Int)(cells21:List D)(i22 t55 t56:Int)(t59:D)(t60 t61:Int)(nn5 a6:D)(t10_0:Int)(fill20:D):Td n m9 (m12+1) s2 axis3 from4 t12 behind18 cells21 i22 t55 t56 t59 t60 t61 nn5 a6 t10_0 fill20 =
 bK (t61<t60) (kK (0≤t61) (kK (t61<(t59.els.length:Int)) (bK (((t59.els.getD (Apj t61) D.nil).toInt)<0) (cK 233 [D.sl [fill20],D.int behind18] fun Y5 =>
 kK (cells21.length+((qA Y5).els).length≤Ak) (Td n m9 m12 s2 axis3 from4 t12 behind18 (cells21++((qA Y5).els)) i22 t55 t56 t59 t60 (Api .i64 (t61+1)) nn5 a6 t10_0 fill20))
 (kK (0≤axis3) (kK (axis3<(s2.els.length:Int)) (kK (0≤Api .i64 ((Api .i64 ((Api .i64 (i22*((s2.els.getD (Apj axis3) D.nil).toInt)))+((t59.els.getD (Apj t61) D.nil).toInt)))*behind18)) (kK (Api .i64 ((Api .i64 ((Api .i64 (i22*((s2.els.getD (Apj axis3) D.nil).toInt)))+((t59.els.getD (Apj t61) D.nil).toInt)))*behind18)≤Api .i64 ((Api .i64 ((Api .i64 ((Api .i64 (i22*((s2.els.getD (Apj axis3) D.nil).toInt)))+((t59.els.getD (Apj t61) D.nil).toInt)))*behind18))+behind18)) (kK (Api .i64 ((Api .i64 ((Api .i64 ((Api .i64 (i22*((s2.els.getD (Apj axis3) D.nil).toInt)))+((t59.els.getD (Apj t61) D.nil).toInt)))*behind18))+behind18)≤(((a6.fld 2).els).length:Int)) (kK (cells21.length+((((a6.fld 2).els).take (Apj (Api .i64 ((Api .i64 ((Api .i64 ((Api .i64 (i22*((s2.els.getD (Apj axis3) D.nil).toInt)))+((t59.els.getD (Apj t61) D.nil).toInt)))*behind18))+behind18)))).drop (Apj (Api .i64 ((Api .i64 ((Api .i64 (i22*((s2.els.getD (Apj axis3) D.nil).toInt)))+((t59.els.getD (Apj t61) D.nil).toInt)))*behind18)))).length≤Ak) (Td n m9 m12 s2 axis3 from4 t12 behind18 (cells21++((((a6.fld 2).els).take (Apj (Api .i64 ((Api .i64 ((Api .i64 ((Api .i64 (i22*((s2.els.getD (Apj axis3) D.nil).toInt)))+((t59.els.getD (Apj t61) D.nil).toInt)))*behind18))+behind18)))).drop (Apj (Api .i64 ((Api .i64 ((Api .i64 (i22*((s2.els.getD (Apj axis3) D.nil).toInt)))+((t59.els.getD (Apj t61) D.nil).toInt)))*behind18))))) i22 t55 t56 t59 t60 (Api .i64 (t61+1)) nn5 a6 t10_0 fill20))))))))))
 (Zf n m9 s2 axis3 from4 t12 behind18 cells21 t55 (Api .i64 (t56+1)) nn5 a6 t10_0 fill20):=by kernel_rfl
theorem WZ(n m9:Nat)(s2:D)(axis3:Int)(from4 t12:D)(behind18:Int)(cells21:List D)(t55 t56:Int)(nn5 a6:D)(t10_0:Int)(fill20:D):Zf n (m9+1) s2 axis3 from4 t12 behind18 cells21 t55 t56 nn5 a6 t10_0 fill20 =
 bK (t56<t55) (Td n m9 n s2 axis3 from4 t12 behind18 cells21 t56 t55 t56 from4 (from4.els.length:Int) 0 nn5 a6 t10_0 fill20)
 (cK 84 [nn5] fun Y6 =>
 cK 83 [D.int ((a6.fld 0).toInt),D.int ((qA Y6).toInt)] fun Y7 =>
 .ret [D.agg [D.int ((qA Y7).toInt),t12,D.sl cells21],D.int 0]):=by kernel_rfl
theorem Ajh(n:Nat)(nn0 a1:D)(s2 axis3 from4:D):fA Ja n 190 [] [nn0,a1,s2,axis3,from4] =
 cK 173 [s2,D.int axis3.toInt,D.int (from4.els.length:Int)] fun Y1 =>
 cK 81 [qA Y1] fun Y2 =>
 .br (((qB Y2).toInt)!=0) (.ret [D.agg [D.int 0,D.sl [],D.sl []],D.int ((qB Y2).toInt)])
 (cK 140 [qA Y1,D.int axis3.toInt] fun Y3 =>
 cK 82 [a1] fun Y4 =>
 kK (0≤0) (kK (0≤(qA Y2).toInt) (kK ((qA Y2).toInt≤Ak) (Zf n n s2 axis3.toInt from4 (qA Y1) ((qC Y3).toInt) (Apl (Apj 0) (D.agg [D.int 0,D.int 0,D.agg [D.bool false,D.sl [],D.sl []],D.int 0,D.sl []])) ((qA Y3).toInt) 0 nn0 a1 0 (qA Y4))))):=by kernel_rfl
def My(a:Arr)(L B:Nat)(fr:List Int)(j:Nat):Cell:=if fr.getD (j / B % fr.length) 0<0 then Cr a else a.cells.getD ((j / B / fr.length*L+(fr.getD (j / B % fr.length) 0).toNat)*B+j % B) Cell.none
def C7(a:Arr)(s:List Nat)(x:Nat)(fr:List Int)(more:At):Arr×Int:=if (A8 (iN (s.set x fr.length))).2≠0 then (.none,(A8 (iN (s.set x fr.length))).2) else (.mk (a.s|||more) (iN (s.set x fr.length)) ((Aqj (Ed (s.set x fr.length))).map (My a (s.getD x 0) (A7 (s.drop (x+1))) fr)),0)
theorem EH(A Bl:List Nat)(F j:Nat):Ru (A++F::Bl) j=(Fp A.reverse (j / A7 Bl / F)).reverse++(j / A7 Bl % F)::(Fp Bl.reverse j).reverse:=by
 unfold Ru
 rw[List.reverse_append,List.reverse_cons,Ap8,PU,JR]
 simp[Fp]
theorem AbK{s:List Nat}{x:Nat}(hx:x<s.length):s=s.take x++s.getD x 0::s.drop (x+1)∧(s.take x).length=x:=by
 refine ⟨?_,by rw[Ap0];omega⟩
 rw[Apn,Apk hx]
 conv=>lhs;rw[← Aqf x s,Aqa hx]
 rfl
theorem Abj{s:List Nat}{x F:Nat}(hx:x<s.length):s.set x F=s.take x++F::s.drop (x+1):=by
 rw[List.set_eq_take_append_cons_drop,if_pos hx]
theorem Zj(A Bl:List Nat)(F:Nat):A7 (A++F::Bl)=A7 A*(F*A7 Bl):=by rw[JQ];rfl
theorem Aji{A Bl:List Nat}{F L j k:Nat}(hj:j<A7 (A++F::Bl))(hk:k<L) :
   (Ru (A++F::Bl) j).getD A.length 0=j / A7 Bl % F∧(Ru (A++F::Bl) j).set A.length k=Ru (A++L::Bl) ((j / A7 Bl / F*L+k)*A7 Bl+j % A7 Bl)∧(j / A7 Bl / F*L+k)*A7 Bl+j % A7 Bl<A7 (A++L::Bl):=by
 rw[Zj]at hj
 have hB:0<A7 Bl:=by
   rcases Nat.eq_zero_or_pos (A7 Bl) with h | h
   · rw[h]at hj;simp at hj
   · exact h
 have hF:0<F:=by
   rcases Nat.eq_zero_or_pos F with h | h
   · rw[h]at hj;simp at hj
   · exact h
 have hb:=Aqe j hB
 have hl:((Fp A.reverse (j / A7 Bl / F)).reverse).length=A.length:=by simp[PV]
 have e1:((j / A7 Bl / F*L+k)*A7 Bl+j % A7 Bl) / A7 Bl=j / A7 Bl / F*L+k:=by
   rw[Aqg,Nat.mul_add_div hB,Nat.div_eq_of_lt hb,Nat.add_zero]
 have e2:((j / A7 Bl / F*L+k)*A7 Bl+j % A7 Bl) % A7 Bl=j % A7 Bl:=by
   rw[Aqg,Nat.mul_add_mod,Nat.mod_mod]
 have e3:(j / A7 Bl / F*L+k) % L=k:=by rw[Aqg,Nat.mul_add_mod,Aqc hk]
 have e4:(j / A7 Bl / F*L+k) / L=j / A7 Bl / F:=by rw[Aqg,Nat.mul_add_div (by omega),Nat.div_eq_of_lt hk,Nat.add_zero]
 have e5:Fp Bl.reverse ((j / A7 Bl / F*L+k)*A7 Bl+j % A7 Bl)=Fp Bl.reverse j:=by
   rw[← FR Bl.reverse ((j / A7 Bl / F*L+k)*A7 Bl+j % A7 Bl),← FR Bl.reverse j,JR,e2]
 refine ⟨?_,?_,?_⟩
 · rw[EH,Apn,Aqn (by omega),hl,Nat.sub_self];rfl
 · rw[EH,EH,e1,e3,e4,e5,List.set_append_right _ _ (by omega),hl,Nat.sub_self];rfl
 · have hq:j / A7 Bl / F<A7 A:=by
    rw[Aqm]
    refine Nat.div_lt_of_lt_mul ?_
    rw[Aqg (A7 Bl) F,Aqg (F*A7 Bl)];exact hj
   rw[Zj]
   generalize j / A7 Bl / F=q at *
   have h1:(q*L+k)*A7 Bl+j % A7 Bl<(q*L+k+1)*A7 Bl:=by rw[Nat.add_mul (q*L+k) 1,Nat.one_mul];omega
   have h2:q*L+k+1≤(q+1)*L:=by rw[Nat.add_mul,Nat.one_mul];omega
   have h3:(q*L+k+1)*A7 Bl≤((q+1)*L)*A7 Bl:=Ap3 _ h2
   have h4:((q+1)*L)*A7 Bl≤(A7 A*L)*A7 Bl:=Ap3 _ (Ap3 _ hq)
   rw[← Nat.mul_assoc]
   omega
def U4(L:Nat)(fr:List Int):Prop:=∀ k∈fr,k<0∨(0≤k∧k<(L:Int))
theorem RM{l:List Int}{i:Nat}(h:i<l.length):l.getD i 0∈l:=by
 rw[Apn,Apk h];exact Aql h
structure Boxed (a:Arr) (s:List Nat):Prop where
 ok:(A8 (iN s)).2=0
 len:a.cells.length=Ed s
theorem OY{s:List Nat}(h:(A8 (iN s)).2=0)(hp : ∀ x∈s,1≤x):Ed s=A7 s:=by
 rcases (Rz h).2 with ⟨h0,_⟩ | h1
 · have:=hp 0 h0;omega
 · exact h1.2.1
theorem Ajj{s:List Nat}(h:(A8 (iN s)).2=0)(hc:0<Ed s):(∀ x∈s,1≤x)∧Ed s=A7 s∧Ed s≤2048:=by
 rcases (Rz h).2 with ⟨_,h0⟩ | h1
 · omega
 · exact ⟨fun x hx=>(h1.1 x hx).1,h1.2.1,h1.2.2.2⟩
theorem JT : ∀ (l:List Nat) (p:Nat),p≤2048→∃ r:Nat,A_ (iN l) (p:Int)=(r:Int)∧r≤2048
 | [],p,h=>⟨p,rfl,h⟩
 | x::xs,p,h=>by
  simp only[iN,Ap9,A_]
  split
  · exact ⟨0,rfl,by omega⟩
  · rename_i h2
    have:=JT xs (p*x) (by
     have:((p*x:Nat):Int)≤2048:=by rw[Int.natCast_mul];omega
     omega)
    simpa [iN]using this
theorem XS : ∀ (l:List Nat),A_ (iN l) 0=0
 | []=>rfl
 | x::xs=>by
  simp only[iN,Ap9,A_,Int.zero_mul]
  rw[if_neg (by omega)];exact XS xs
theorem JU : ∀ (l:List Nat) (p:Int),0∈l→A_ (iN l) p=0
 | x::xs,p,h=>by
  simp only[iN,Ap9,A_]
  split
  · rfl
  · rcases Ap4.1 h with h | h
    · subst h
      rw[show p*((0:Nat):Int)=0 by simp];exact XS xs
    · exact JU xs _ h
theorem Zi : ∀ (l:List Nat),(∀ x∈l,1≤x)→1≤A7 l
 | [],_=>Apx _
 | x::xs,h=>Nat.mul_pos (h x (by simp)) (Zi xs (fun y hy=>h y (by simp[hy])))
theorem JS : ∀ (l:List Nat) (p:Nat),(∀ x∈l,1≤x)→p*A7 l≤2048→A_ (iN l) (p:Int)=((p*A7 l:Nat):Int)
 | [],p,_,_=>by simp[iN,A_,A7]
 | x::xs,p,h,hb=>by
  have hp:=Zi xs (fun y hy=>h y (by simp[hy]))
  simp only[A7,← Nat.mul_assoc]at hb ⊢
  have h1:p*x≤p*x*A7 xs:=Nat.le_mul_of_pos_right _ hp
  have h2:(p:Int)*(x:Int)=((p*x:Nat):Int):=by rw[Int.natCast_mul]
  simp only[iN,Ap9,A_,h2]
  rw[if_neg (by omega)]
  exact JS xs (p*x) (fun y hy=>h y (by simp[hy])) hb
theorem GI{α β:Type}{f g:α→List β} : ∀ {l:List α},(∀ x∈l,f x=g x)→l.flatMap f=l.flatMap g
 | [],_=>rfl
 | x::xs,h=>by rw[List.flatMap_cons,List.flatMap_cons,h x (by simp),GI (fun y hy=>h y (by simp[hy]))]
theorem GJ{α:Type}(g:Nat→Nat→α){m:Nat}(hm:0<m) : ∀ n:Nat,(Aqj n).flatMap (fun i=>(Aqj m).map (g i))=(Aqj (n*m)).map (fun q=>g (q / m) (q % m))
 | 0=>by simp
 | n+1=>by
  rw[List.range_succ,List.flatMap_append,GJ g hm n,Nat.succ_mul,List.range_add,List.map_append,List.map_map]
  congr 1
  simp only[List.flatMap_cons,List.flatMap_nil,Ap6]
  refine List.map_congr_left (fun j hj=> ?_)
  have hj:=List.mem_range.1 hj
  simp only[Function.comp]
  rw[Aqg,Nat.mul_add_div hm,Nat.div_eq_of_lt hj,Nat.mul_add_mod,Aqc hj,Nat.add_zero]
theorem Ady(l:List Int):l=(Aqj l.length).map (fun i=>l.getD i 0):=by
 apply List.ext_getElem
 · simp
 · intro i h1 h2
   simp[Apn,Apk h1]
def Kt(a:Arr)(L bh i:Nat)(k:Int):List Cell:=if k<0 then Apl bh (Cr a) else (a.cells.take ((i*L+k.toNat)*bh+bh)).drop ((i*L+k.toNat)*bh)
def Im(a:Arr)(L bh:Nat)(fr:List Int)(i:Nat):List Cell:=fr.flatMap (Kt a L bh i)
def Rm(a:Arr)(L bh ah:Nat)(fr:List Int):Prop:=∀ i,i<ah→∀ k∈fr,0≤k→(i*L+k.toNat)*bh+bh≤a.cells.length
theorem XC{a:Arr}{L bh i:Nat}{k:Int}(h:0≤k→(i*L+k.toNat)*bh+bh≤a.cells.length):Kt a L bh i k=(Aqj bh).map (fun b=>if k<0 then Cr a else a.cells.getD ((i*L+k.toNat)*bh+b) Cell.none):=by
 unfold Kt
 split
 · apply List.ext_getElem
   · simp
   · intro j h1 h2;simp
 · have h:=h (by omega)
   apply List.ext_getElem
   · simp;omega
   · intro j h1 h2
     simp only[Apm,List.length_range]at h2
     rw[List.getElem_drop,List.getElem_take,List.getElem_map,List.getElem_range,Apn,Apk (by omega)]
     rfl
theorem XB{a:Arr}{L bh i:Nat}{k:Int}(h:0≤k→(i*L+k.toNat)*bh+bh≤a.cells.length):(Kt a L bh i k).length=bh:=by rw[XC h];simp
theorem W1{α β:Type}{f:α→List β}{m:Nat} : ∀ {l:List α},(∀ x∈l,(f x).length=m)→(l.flatMap f).length=l.length*m
 | [],_=>by simp
 | x::xs,h=>by rw[List.flatMap_cons,Apu,h x (by simp),W1 (fun y hy=>h y (by simp[hy])),App,Nat.succ_mul];omega
theorem KY{a:Arr}{L bh ah i:Nat}{fr:List Int}(h:Rm a L bh ah fr)(hi:i<ah):(Im a L bh fr i).length=fr.length*bh:=W1 (fun k hk=>XB (fun h0=>h i hi k hk h0))
theorem AlR{a:Arr}{L bh ah:Nat}{fr:List Int}(h:Rm a L bh ah fr)(hF:0<fr.length)(hB:0<bh):(Aqj ah).flatMap (Im a L bh fr)=(Aqj (ah*(fr.length*bh))).map (My a L bh fr):=by
 have e1 : ∀ i,i<ah→Im a L bh fr i=(Aqj (fr.length*bh)).map (fun q=>if fr.getD (q / bh) 0<0 then Cr a else a.cells.getD ((i*L+(fr.getD (q / bh) 0).toNat)*bh+q % bh) Cell.none):=fun i hi=>by
  rw[← GJ (fun m b=>if fr.getD m 0<0 then Cr a else a.cells.getD ((i*L+(fr.getD m 0).toNat)*bh+b) Cell.none) hB]
  unfold Im
  conv=>lhs;rw[Ady fr]
  rw[List.flatMap_map]
  refine GI (fun m hm=> ?_)
  have hm:=List.mem_range.1 hm
  exact XC (fun h0=>h i hi _ (RM hm) h0)
 have e2:(Aqj ah).flatMap (Im a L bh fr)=(Aqj ah).flatMap (fun i=>(Aqj (fr.length*bh)).map (fun q=>if fr.getD (q / bh) 0<0 then Cr a else a.cells.getD ((i*L+(fr.getD (q / bh) 0).toNat)*bh+q % bh) Cell.none)):=GI (fun i hi=>e1 i (List.mem_range.1 hi))
 rw[e2,GJ (fun i q=>if fr.getD (q / bh) 0<0 then Cr a else a.cells.getD ((i*L+(fr.getD (q / bh) 0).toNat)*bh+q % bh) Cell.none) (Nat.mul_pos hF hB)]
 refine List.map_congr_left (fun j _=> ?_)
 unfold My
 rw[Aqg fr.length bh,Nat.mod_mul_right_mod,Nat.mod_mul_right_div_self,← Aqm]
theorem XA(n a:Arr)(s:List Nat)(x:Nat)(fr:List Int)(hn:Fits n)(hb:Boxed a s)(hx:x<s.length)(hf:U4 (s.getD x 0) fr)(hfl:fr.length≤2048):Sp 190 [dA n,dA a,dI (iN s),.int (x:Int),dI fr] [dA (C7 a s x fr (Az n)).1,.int (C7 a s x fr (Az n)).2]:=by
 have h6:=(Rz hb.ok).1
 have hal:a.cells.length≤2048:=by rw[hb.len];rcases (Rz hb.ok).2 with h | h <;> omega
 have hwith:=Abr (iN s) (x:Int) (fr.length:Int) (by rw[N6];omega)
 unfold Uw at hwith
 rw[if_pos (by rw[N6];omega),Apr,show (iN s).set x ((fr.length:Nat):Int)=iN (s.set x fr.length) by unfold iN;rw[List.map_set]]at hwith
 refine Af 4096 (Ajh _ _ _ _ _ _) ?_
 simp only[Cf,Apm,Ao]
 refine Aa hwith (Aa (Oq _) ?_)
 unfold C7
 simp only[Ag,C5,Ao,Do,C9,H2]
 refine Ae (fun h=>Ac (by rw[if_pos h])) (fun h=> ?_)
 rw[if_neg h]
 have hok:=Apw.1 h
 obtain ⟨sp1,sp2⟩:=AbK hx
 have st:=Abj (F:=fr.length) hx
 have hcl:=Fz (iN (s.set x fr.length))
 have hcn:(A8 (iN (s.set x fr.length))).1=((Ed (s.set x fr.length):Nat):Int):=by unfold Ed;omega
 obtain ⟨ah,ha,hah⟩:=JT ((s.set x fr.length).take x) 1 (by decide)
 obtain ⟨bh,hbh,hbl⟩:=JT ((s.set x fr.length).drop (x+1)) 1 (by decide)
 have tk:(s.set x fr.length).take x=s.take x:=by rw[st,List.take_left' sp2]
 have dr:(s.set x fr.length).drop (x+1)=s.drop (x+1):=by
  rw[st,show s.take x++fr.length::s.drop (x+1)=(s.take x++[fr.length])++s.drop (x+1) by simp,List.drop_left' (by rw[Apu,sp2];rfl)]
 rw[tk]at ha
 rw[dr]at hbh
 have haround:=LJ (iN (s.set x fr.length)) (x:Int)
 unfold Nn at haround
 rw[if_pos ⟨hok,by omega,by rw[N6,List.length_set];omega⟩,Apr,show (iN (s.set x fr.length)).take x=iN (s.take x) by unfold iN;rw[← List.map_take,tk],show (iN (s.set x fr.length)).drop (x+1)=iN (s.drop (x+1)) by unfold iN;rw[← List.map_drop,dr],show (1:Int)=((1:Nat):Int) from rfl,ha,hbh]at haround
 have hL:s.getD x 0≤2048:=by
  have hm:s.getD x 0∈s:=by rw[Apn,Apk hx];exact Aql hx
  have:=(Gr hb.ok).2 ((s.getD x 0:Nat):Int) (Aqw.2 ⟨_,hm,rfl⟩)
  omega
 have facts:Rm a (s.getD x 0) bh ah fr∧ah*(fr.length*bh)=Ed (s.set x fr.length)∧(Aqj ah).flatMap (Im a (s.getD x 0) bh fr)=(Aqj (Ed (s.set x fr.length))).map (My a (s.getD x 0) (A7 (s.drop (x+1))) fr):=by
  rcases (Rz hok).2 with ⟨hz,hc0⟩ | ⟨hpos,hcp,hc1,hc2⟩
  · have prod0:ah=0∨fr.length=0∨bh=0:=by
     rw[st]at hz
     rcases Aqs.1 hz with hz | hz
     · left;have:=JU _ 1 hz;rw[show (1:Int)=((1:Nat):Int) from rfl,ha]at this;omega
     · rcases Ap4.1 hz with hz | hz
       · right;left;exact hz.symm
       · right;right;have:=JU _ 1 hz;rw[show (1:Int)=((1:Nat):Int) from rfl,hbh]at this;omega
    have off:Rm a (s.getD x 0) bh ah fr:=fun i hi k hk h0=>by
     have:0<fr.length:=List.length_pos_of_mem hk
     have hb0:bh=0:=by omega
     rw[hb0];simp
    have prod1:ah*(fr.length*bh)=0:=by
     rcases prod0 with h | h | h <;> rw[h] <;> simp
    refine ⟨off,by omega,?_⟩
    rw[hc0]
    apply List.eq_nil_of_length_eq_zero
    rw[W1 (m:=fr.length*bh) (fun i hi=>KY off (List.mem_range.1 hi)),List.length_range]
    exact prod1
  · have hpA : ∀ y∈s.take x,1≤y:=fun y hy=>(hpos y (by rw[st];simp[hy])).1
    have hpB : ∀ y∈s.drop (x+1),1≤y:=fun y hy=>(hpos y (by rw[st];simp[hy])).1
    have hF:0<fr.length:=(hpos _ (by rw[st];simp)).1
    have hA1:=Zi _ hpA
    have hB1:=Zi _ hpB
    have hcs:Ed (s.set x fr.length)=A7 (s.take x)*(fr.length*A7 (s.drop (x+1))):=by rw[hcp,st,Zj]
    have m1:A7 (s.take x)≤A7 (s.take x)*(fr.length*A7 (s.drop (x+1))):=Nat.le_mul_of_pos_right _ (Nat.mul_pos hF hB1)
    have m2:A7 (s.drop (x+1))≤A7 (s.take x)*(fr.length*A7 (s.drop (x+1))):=by
     rw[← Nat.mul_assoc];exact Nat.le_mul_of_pos_left _ (Nat.mul_pos hA1 hF)
    have eA:=JS (s.take x) 1 hpA (by omega)
    have eB:=JS (s.drop (x+1)) 1 hpB (by omega)
    rw[ha,Nat.one_mul]at eA
    rw[hbh,Nat.one_mul]at eB
    have eA':ah=A7 (s.take x):=by omega
    have eB':bh=A7 (s.drop (x+1)):=by omega
    have off:Rm a (s.getD x 0) bh ah fr:=fun i hi k hk h0=>by
     have hkl:=hf k hk
     have hkL:k.toNat<s.getD x 0:=by omega
     have hsp : ∀ y∈s,1≤y:=fun y hy=>by
       rw[sp1]at hy
       rcases Aqs.1 hy with hy | hy
       · exact hpA y hy
       · rcases Ap4.1 hy with rfl | hy
         · omega
         · exact hpB y hy
     have hsc:=OY hb.ok hsp
     rw[hb.len,hsc]
     conv=>rhs;rw[sp1]
     rw[Zj,← eA',← eB']
     have h1:(i*s.getD x 0+k.toNat)*bh+bh=(i*s.getD x 0+k.toNat+1)*bh:=by rw[Nat.add_mul (i*s.getD x 0+k.toNat) 1,Nat.one_mul]
     have h2:i*s.getD x 0+k.toNat+1≤(i+1)*s.getD x 0:=by rw[Nat.add_mul,Nat.one_mul];omega
     have h3:(i+1)*s.getD x 0≤ah*s.getD x 0:=Ap3 _ hi
     rw[h1,← Nat.mul_assoc]
     exact Ap3 _ (Nat.le_trans h2 h3)
    refine ⟨off,by rw[eA',eB',hcs],?_⟩
    rw[AlR off hF (by omega),eA',eB',hcs]
 obtain ⟨off,hprod,hrows⟩:=facts
 have hcl2:Ed (s.set x fr.length)≤2048:=by omega
 refine Aa haround (Aa (Vb a) ?_)
 simp only[Ag,Ao,hcn]
 refine Ad (Ad (Ay (by simp only[Ak];omega) ?_))
 have lens : ∀ i,i≤ah→((Aqj i).flatMap (Im a (s.getD x 0) bh fr)).length=i*(fr.length*bh):=fun i hi=>by
  rw[W1 (m:=fr.length*bh) (fun j hj=>KY off (by have:=List.mem_range.1 hj;omega)),List.length_range]
 have gL:((iN s).map D.int).getD x D.nil=D.int ((s.getD x 0:Nat):Int):=by
  rw[SA,Au (Apk hx),Apn,Apk hx];rfl
 have key:=Di ah (fun m i (_:Unit)=>Zf 4096 m (dI (iN s)) (x:Int) (dI fr) (dI (iN (s.set x fr.length))) (bh:Int) (((Aqj i).flatMap (Im a (s.getD x 0) bh fr)).map dC) (ah:Int) (i:Int) (dA n) (dA a) 0 (dC (Cr a))) (fun _ _=>[dA (.mk (a.s|||Az n) (iN (s.set x fr.length)) ((Aqj ah).flatMap (Im a (s.getD x 0) bh fr))),.int 0]) (fun _ _=>True)
  (fun m t _=>by
    simp only[WZ,V5]
    refine Ar (Aa (Fi n hn) ?_)
    simp only[Ag,Ej,Ns]
    refine Aa (Hk a.s _) (Ac ?_)
    simp only[Ag,Ej,Ns]
    rw[D4];rfl)
  (fun m i t hi _ ih=>by
    have ih:=ih () trivial
    rw[List.range_succ,List.flatMap_append,List.flatMap_cons,List.flatMap_nil,Ap6]at ih
    simp only[WZ,Cf,Apm]
    refine Ad ?_
    have hli:=lens i (by omega)
    have hli1:=lens (i+1) (by omega)
    have hle1:(i+1)*(fr.length*bh)≤ah*(fr.length*bh):=Ap3 _ hi
    rw[Nat.succ_mul]at hle1
    have key2:=B3 fr (fun q k (cs:List Cell)=>Td 4096 m q (dI (iN s)) (x:Int) (dI fr) (dI (iN (s.set x fr.length))) (bh:Int) (cs.map dC) (i:Int) (ah:Int) (i:Int) (dI fr) (fr.length:Int) (k:Int) (dA n) (dA a) 0 (dC (Cr a))) (fun _ _=>[dA (.mk (a.s|||Az n) (iN (s.set x fr.length)) ((Aqj ah).flatMap (Im a (s.getD x 0) bh fr))),.int 0]) (fun rest cs=>cs++rest.flatMap (Kt a (s.getD x 0) bh i)=(Aqj i).flatMap (Im a (s.getD x 0) bh fr)++Im a (s.getD x 0) bh fr i)
     (fun q k cs hk hI=>by
       rw[List.flatMap_nil,Ap6]at hI
       simp only[WY,Bh i]
       rw[hI]
       exact Ar ih)
     (fun q k cs z rest hd hI ih'=>by
       obtain ⟨h1,h2,h3⟩:=By hd
       have hz:=Apq h2
       rw[List.flatMap_cons,← Ap8]at hI
       have ih':=ih' (cs++Kt a (s.getD x 0) bh i z) hI
       have hpl:=XB (a:=a) (L:=s.getD x 0) (bh:=bh) (i:=i) (k:=z) (fun h0=>off i hi z hz h0)
       have htl:cs.length+bh≤2048:=by
         have:=congrArg List.length hI
         simp only[Apu,hli,KY off hi,hpl]at this
         omega
       rw[List.map_append]at ih'
       simp only[WY,Cf,Apm,Apr,Au h2,Ao,Bh k,gL]
       refine Ad (Ad (Ad (Ae (fun g=> ?_) (fun g=> ?_))))
       · have e:Kt a (s.getD x 0) bh i z=Apl bh (Cr a):=by unfold Kt;rw[if_pos g]
         rw[e,List.map_replicate]at ih'
         refine Aa (Al_ bh (Cr a) (by omega)) (Ay (by simp only[Ag,Ee,Aqp,Ak];omega) ?_)
         exact ih'
       · obtain ⟨Z,rfl⟩ : ∃ Z:Nat,z=(Z:Int):=⟨z.toNat,by omega⟩
         have ho:=off i hi _ hz (by omega)
         have e:Kt a (s.getD x 0) bh i (Z:Int)=(a.cells.take ((i*s.getD x 0+Z)*bh+bh)).drop ((i*s.getD x 0+Z)*bh):=by unfold Kt;rw[if_neg g,Apr]
         rw[e,List.map_drop,List.map_take]at ih'
         rw[Apr]at ho
         have hil:i*s.getD x 0≤2048*2048:=Nat.mul_le_mul (by omega) hL
         have hZ:=hf _ hz
         have w1:Api .i64 ((i:Int)*((s.getD x 0:Nat):Int))=((i*s.getD x 0:Nat):Int):=by rw[← Int.natCast_mul,Aw (by omega) (by omega)]
         have w2:Api .i64 (((i*s.getD x 0:Nat):Int)+(Z:Int))=((i*s.getD x 0+Z:Nat):Int):=by rw[Aw (by omega) (by omega)];rfl
         have w3:Api .i64 (((i*s.getD x 0+Z:Nat):Int)*(bh:Int))=(((i*s.getD x 0+Z)*bh:Nat):Int):=by rw[← Int.natCast_mul,Aw (by omega) (by omega)]
         have w4:Api .i64 ((((i*s.getD x 0+Z)*bh:Nat):Int)+(bh:Int))=(((i*s.getD x 0+Z)*bh+bh:Nat):Int):=by rw[Aw (by omega) (by omega)];rfl
         simp only[w1,w2,w3,w4,Apr,FG,Ee,Apm]
         have hdl:(((a.cells.map dC).take ((i*s.getD x 0+Z)*bh+bh)).drop ((i*s.getD x 0+Z)*bh)).length=bh:=by rw[Apy,Ap0,Apm];omega
         simp only[hdl]
         refine Ad (Ay (by rw[N6];omega) (Ad (Ad (Ad (Ay (by simp only[Ak];omega) ?_)))))
         exact ih')
     4096 0 ((Aqj i).flatMap (Im a (s.getD x 0) bh fr)) (by omega) (by omega) (by rw[List.drop_zero];rfl)
    exact key2)
  4096 0 () (by omega) (by omega) trivial
 rw[hrows]at key
 exact key
def aN(a:Arr):List Nat:=if a.shape = [] then [1] else a.shape.map Apj
def Av(a:Arr)(first:Bool):Nat:=if a.shape = [] then 0 else if first then 0 else a.shape.length-1
theorem SB{a:Arr}(h : ∀ x∈a.shape,0≤x):iN (aN a)=if a.shape = [] then [1] else a.shape:=by
 unfold aN
 by_cases h0:a.shape = []
 · rw[if_pos h0,if_pos h0];rfl
 · rw[if_neg h0,if_neg h0]
   obtain ⟨m,hm⟩:=AfF h
   rw[hm]
   unfold iN
   rw[List.map_map,List.map_map]
   exact List.map_congr_left (fun x _=>by simp)
theorem O9(a:Arr)(first:Bool):Av a first<(aN a).length:=by
 unfold Av aN
 split
 · simp
 · rename_i h
   have:=List.length_pos_iff.2 h
   split <;> simp <;> omega
theorem Ro{d:Nat}{a:Arr}(h:Am d a=true):Boxed a (aN a):=by
 have hc:=(Ck h).1
 have hi:=SB (a:=a) (fun x hx=>((Dm h).2.2 x hx).1)
 by_cases h0:a.shape = []
 · rw[if_pos h0]at hi
   rw[h0]at hc
   have e:A8 ([]:List Int)=(1,0):=by decide
   rw[e]at hc
   have e1:A8 ([1]:List Int)=(1,0):=by decide
   refine ⟨by rw[hi,e1],?_⟩
   unfold Ed
   rw[hi,e1]
   have:=congrArg Prod.fst hc
   simp only at this
   show a.cells.length=1
   omega
 · rw[if_neg h0]at hi
   refine ⟨by rw[hi,hc],?_⟩
   unfold Ed
   rw[hi,hc];simp
theorem NA{d:Nat}{a:Arr}(h:Am d a=true){x:Nat}(hx:x<(aN a).length):(aN a).getD x 0≤2048:=by
 have hm:(aN a).getD x 0∈aN a:=by rw[Apn,Apk hx];exact Aql hx
 have:=(Gr (Ro h).ok).2 (((aN a).getD x 0:Nat):Int) (Aqw.2 ⟨_,hm,rfl⟩)
 omega
theorem OA{s:List Nat}{x:Nat}(hx:x<s.length):((iN s).map D.int).getD x D.nil=D.int ((s.getD x 0:Nat):Int):=by
 rw[SA,Au (Apk hx),Apn,Apk hx];rfl
theorem OV(l:List Int)(h:l.length≤1000):Sp 96 [dI l] [dI l]:=by
 refine Af 0 (Abw _ _) (AcB (fun h=>Ac ?_) (Ay (by simp only[Cf,Apm,Ap1,Ak];omega) (Ac (by simp[dI]))))
 have:l = []:=by simpa using h
 subst this;rfl
theorem WT{d:Nat}(a:Arr)(first:Bool)(h:Am d a=true):Sp 189 [dA a,.bool first] [dI (iN (aN a)),.int ((Av a first:Nat):Int)]:=by
 have hl:=(Dm h).2.1
 have hi:=SB (a:=a) (fun x hx=>((Dm h).2.2 x hx).1)
 refine Af 0 (Ajf _ _ _) ?_
 simp only[V6,Cf,Apm,Bc,Cp]
 rw[hi]
 unfold Av
 refine Ae (fun g=>Ac ?_) (fun g=> ?_)
 · have:a.shape = []:=Aqb.1 (by omega)
   rw[if_pos this,if_pos this];rfl
 · have hne:a.shape≠[]:=fun hh=>g (by rw[hh];rfl)
   rw[if_neg hne,if_neg hne]
   refine Cl (fun e=>Aa (OV a.shape (by omega)) (Ac ?_)) (fun e=>Aa (OV a.shape (by omega)) (Ac ?_))
   · rw[if_pos e];rfl
   · have hpos:=List.length_pos_iff.2 hne
     rw[if_neg (by rw[e];decide),Aw (by omega) (by omega),show ((a.shape.length-1:Nat):Int)=(a.shape.length:Int)-1 by omega];rfl
def F3(one:Bool):List Int→Nat→List Int→Option (List Int)
 | [],_,acc=>some acc
 | k::ks,i,acc=>if 2048-(acc.length:Int)<k then none else F3 one ks (i+1) (acc++Apl k.toNat (if one then 0 else (i:Int)))
theorem RE{one:Bool}{L:Nat} : ∀ {l:List Int} {i:Nat} {acc r:List Int},F3 one l i acc=some r→acc.length≤2048→(∀ k∈acc,0≤k∧k<(L:Int))→(one=true→1≤L)→(one=false→i+l.length≤L)→r.length≤2048∧∀ k∈r,0≤k∧k<(L:Int)
 | [],i,acc,r,h,h1,h2,_,_=>by simp[F3]at h;subst h;exact ⟨h1,h2⟩
 | k::ks,i,acc,r,h,h1,h2,h3,h4=>by
  rw[F3]at h
  split at h
  · cases h
  · rename_i hk
    refine RE h (by rw[Apu,Aqp];omega) (fun z hz=> ?_) h3 (fun ho=>by have:=h4 ho;simp only[App]at this;omega)
    rcases Aqs.1 hz with hz | hz
    · exact h2 z hz
    · have:=List.eq_of_mem_replicate hz
      subst this
      cases one with
      | true=>have:=h3 rfl;simp;omega
      | false=>have:=h4 rfl;simp only[App]at this;simp;omega
def lS(n:Arr)(L:Nat):List Int:=if n.shape = [] then Apl L ((A9 n).1.headD 0) else (A9 n).1
def Hq(n a:Arr)(first:Bool):Arr×Int :=
 if (A9 n).2≠0 then (.none,(A9 n).2)
 else if ∃ k∈(A9 n).1,k<0 then (.none,3)
 else if (aN a).getD (Av a first) 0≠1∧(lS n ((aN a).getD (Av a first) 0)).length≠(aN a).getD (Av a first) 0 then (.none,4)
 else match F3 ((aN a).getD (Av a first) 0 == 1) (lS n ((aN a).getD (Av a first) 0)) 0 []with
  | none=>(.none,7)
  | some fr=>C7 a (aN a) (Av a first) fr (Az n)
theorem HK(a:Arr):(A9 a).1.length≤a.cells.length:=by
 unfold A9
 split
 · simp
 · split
   · rename_i l hl;have:=(So hl).1;simp only;omega
   · simp
theorem AfS(a:Arr) : ∀ x∈(A9 a).1,Bd x:=by
 unfold A9
 split
 · intro x hx;cases hx
 · split
   · rename_i l hl;exact (So hl).2
   · intro x hx;cases hx
theorem AhN(l:List Int)(hl:l.length≤2048):Sp 167 [dI l,D.fn 188 [] []] [.bool (decide (∃ k∈l,k<0))]:=by
 have hn : ∀ k:Int,Sp 188 [.int k] [.bool (decide (k<0))]:=fun k=>Af 0 (Ajb _ _) (Ac rfl)
 have hi:Sp 230 [dI l,D.fn 188 [] []] [.int (Ef (fun x=>decide (x<0)) 0 l)]:=by
  refine Af 4096 (AmU _ _) ?_
  have key:=B3 l (fun m k (_:Unit)=>Je 4096 m (dI l) (D.fn 188 [] []) (l.length:Int) (k:Int)) (fun rest _=>[.int (Ef (fun x=>decide (x<0)) (l.length-rest.length) rest)]) (fun _ _=>True)
   (fun m k t hk _=>by
     simp only[Ab2]
     exact Ar (Ac rfl))
   (fun m k t x rest hd _ ih=>by
     obtain ⟨h1,h2,h3⟩:=By hd
     have hle:=congrArg List.length hd
     rw[Apy,App]at hle
     have ih:=ih () trivial
     rw[show l.length-rest.length=k+1 by omega]at ih
     simp only[Ab2,Cf,Apm,Apr,Au h2,Ao,H6,H4,H5,Ap6,Bh k]
     refine Ad (Ad (Ad (Aa (hn x) ?_)))
     rw[show l.length-(x::rest).length=k by rw[App];omega]
     simp only[Ag,Bc,Ef]
     refine Cl (fun g=>Ac (by rw[if_pos g])) (fun g=> ?_)
     rw[if_neg (by rw[g];decide)]
     exact ih)
   4096 0 () (by omega) (by omega) trivial
  simpa using key
 have hp : ∀ (m:List Int) (k:Nat),(0≤Ef (fun x=>decide (x<0)) k m)↔(∃ z∈m,z<0):=by
  intro m
  induction m with
  | nil=>intro k;simp[Ef]
  | cons z zs ih =>
   intro k
   simp only[Ef]
   by_cases g:z<0
   · rw[if_pos (decide_eq_true g)]
     exact ⟨fun _=>⟨z,by simp,g⟩,fun _=>by omega⟩
   · rw[if_neg (by rw[decide_eq_false g];decide),ih (k+1)]
     simp[g]
 refine Af 0 (AmK _ _) (Aa hi (Ac ?_))
 exact congrArg (fun b=>[D.bool b]) (decide_eq_decide.2 (hp l 0))
theorem Aao{d:Nat}(n a:Arr)(first:Bool)(hn:Fits n)(ha:Am d a=true)(l:List Int)(hl:l.length≤2048)(hpos : ∀ k∈l,0≤k)(hbig : ∀ k∈l,k≤9223372036854775807)(hL:(aN a).getD (Av a first) 0≠1→l.length=(aN a).getD (Av a first) 0) :
  Tw (I9 4096 4096 (dI (iN (aN a))) ((Av a first:Nat):Int) (((aN a).getD (Av a first) 0:Nat):Int) [] (dI l) (l.length:Int) 0 (dA n) (dA a) 0 0) (match F3 ((aN a).getD (Av a first) 0 == 1) l 0 []with
   | none=>[dA .none,.int 7]
   | some fr=>[dA (C7 a (aN a) (Av a first) fr (Az n)).1,.int (C7 a (aN a) (Av a first) fr (Az n)).2]):=by
 have hx:=O9 a first
 have key:=B3 l (fun m k (acc:List Int)=>I9 4096 m (dI (iN (aN a))) ((Av a first:Nat):Int) (((aN a).getD (Av a first) 0:Nat):Int) (acc.map D.int) (dI l) (l.length:Int) (k:Int) (dA n) (dA a) 0 0) (fun rest acc=>match F3 ((aN a).getD (Av a first) 0 == 1) rest (l.length-rest.length) acc with
   | none=>[dA .none,.int 7]
   | some fr=>[dA (C7 a (aN a) (Av a first) fr (Az n)).1,.int (C7 a (aN a) (Av a first) fr (Az n)).2]) (fun rest acc=>acc.length≤2048∧∀ k∈acc,0≤k∧k<(((aN a).getD (Av a first) 0:Nat):Int))
  (fun m k acc hk hI=>by
   simp only[WP]
   refine Ar (Aa (XA n a (aN a) (Av a first) acc hn (Ro ha) hx (fun z hz=> .inr (hI.2 z hz)) hI.1) (Ac ?_))
   rfl)
  (fun m k acc z rest hd hI ih=>by
   obtain ⟨h1,h2,h3⟩:=By hd
   have hle:=congrArg List.length hd
   rw[Apy,App]at hle
   have hz:=hpos z (Apq h2)
   have hzb:=hbig z (Apq h2)
   have ek:l.length-(z::rest).length=k:=by rw[App];omega
   have ek2:l.length-rest.length=k+1:=by omega
   have w1:Api .i64 (2048-(acc.length:Int))=2048-(acc.length:Int):=Aw (by omega) (by omega)
   simp only[WP,Cf,Apm,Apr,Au h2,Ao,w1,ek,F3,C9,Cp]
   refine Ad (Ad (Ad (Ae (fun g=>Ac (by rw[if_pos (by first | (rw[w1]at g;exact g) | exact g)])) (fun g=> ?_))))
   have g : ¬ (2048-(acc.length:Int)<z):=by first | (rw[w1]at g;exact g) | exact g
   simp only[if_neg g]
   obtain ⟨Z,rfl⟩ : ∃ Z:Nat,z=(Z:Int):=⟨z.toNat,by omega⟩
   have inner : ∀ (c:Int),0≤c∧c<(((aN a).getD (Av a first) 0:Nat):Int)→F3 ((aN a).getD (Av a first) 0 == 1) rest (k+1) (acc++Apl Z (if ((aN a).getD (Av a first) 0 == 1)=true then 0 else (k:Int)))=F3 ((aN a).getD (Av a first) 0 == 1) rest (k+1) (acc++Apl Z c)→Tw (Qk 4096 m 4096 (dI (iN (aN a))) ((Av a first:Nat):Int) (((aN a).getD (Av a first) 0:Nat):Int) (acc.map D.int) c (dI l) (l.length:Int) (k:Int) (Z:Int) 0 (dA n) (dA a) 0 0) (match F3 ((aN a).getD (Av a first) 0 == 1) rest (k+1) (acc++Apl (Z:Int).toNat (if ((aN a).getD (Av a first) 0 == 1)=true then 0 else (k:Int))) with
      | none=>[dA .none,.int 7]
      | some fr=>[dA (C7 a (aN a) (Av a first) fr (Az n)).1,.int (C7 a (aN a) (Av a first) fr (Az n)).2]):=by
     intro c hc heq
     rw[Apr,heq]
     have ih:=ih (acc++Apl Z c) ⟨by rw[Apu,Aqp];omega,fun y hy=>by
      rcases Aqs.1 hy with hy | hy
      · exact hI.2 y hy
      · rw[List.eq_of_mem_replicate hy];exact hc⟩
     rw[ek2]at ih
     have key3:=Di Z (fun q j (_:Unit)=>Qk 4096 m q (dI (iN (aN a))) ((Av a first:Nat):Int) (((aN a).getD (Av a first) 0:Nat):Int) ((acc++Apl j c).map D.int) c (dI l) (l.length:Int) (k:Int) (Z:Int) (j:Int) (dA n) (dA a) 0 0) (fun _ _=>(match F3 ((aN a).getD (Av a first) 0 == 1) rest (k+1) (acc++Apl Z c) with
      | none=>[dA .none,.int 7]
      | some fr=>[dA (C7 a (aN a) (Av a first) fr (Az n)).1,.int (C7 a (aN a) (Av a first) fr (Az n)).2])) (fun _ _=>True)
      (fun q t _=>by
       simp only[WQ,Bh k]
       exact Ar ih)
      (fun q j t hj _ ih3=>by
       have ih3:=ih3 () trivial
       rw[List.replicate_succ',← Ap8,List.map_append]at ih3
       simp only[WQ,Apm,Apu,Aqp,App,Ap1,Bh j]
       exact Ad (Ay (by simp only[Ak];omega) ih3))
      4096 0 () (by omega) (by omega) trivial
     simpa using key3
   refine Ae (fun g1=> ?_) (fun g1=> ?_)
   · have e1:(aN a).getD (Av a first) 0=1:=by omega
     exact inner 0 ⟨by omega,by omega⟩ (by rw[e1];rfl)
   · have e1:((aN a).getD (Av a first) 0 == 1)=false:=beq_eq_false_iff_ne.2 (by omega)
     have:=hL (by omega)
     exact inner (k:Int) ⟨by omega,by omega⟩ (by rw[e1];rfl))
  4096 0 [] (by omega) (by omega) ⟨by simp,by simp⟩
 simpa using key
theorem WR(n a:Arr)(first:Bool)(hn:Am 8 n=true)(ha:Am 8 a=true):Sp 110 [dA n,dA a,.bool first] [dA (Hq n a first).1,.int (Hq n a first).2]:=by
 have ln:=(Dm hn).1
 have hx:=O9 a first
 have hLe:=NA ha hx
 have hin:=AfS n
 have hil:=HK n
 refine Af 4096 (Ajc _ _ _ _) (Aa (La n ln (Qz hn)) ?_)
 unfold Hq lS
 have hone:n.shape = []→(A9 n).2=0→∃ k,(A9 n).1 = [k]:=fun hs h0=>by
  have hc:=(Ck hn).1
  rw[hs,show A8 ([]:List Int)=(1,0) by decide]at hc
  have hc1:=congrArg Prod.fst hc
  have:n.cells.length=1:=by simp only at hc1;omega
  unfold A9 at h0 ⊢
  rw[if_neg (by rw[hs];simp)]at h0 ⊢
  split at h0
  · rename_i l hl
    have:=(So hl).1
    exact Mp (by simp only;omega)
  · cases h0
 generalize hp:A9 n=p at *
 obtain ⟨l,e⟩:=p
 simp only[Ag,C5,Ao,Do,C9]at hin hil hone ⊢
 refine Ae (fun h=>Ac (by rw[if_pos h])) (fun h=> ?_)
 rw[if_neg h]
 have h0:e=0:=Apw.1 h
 subst h0
 refine Aa (AhN l (by omega)) ?_
 simp only[Ag,Bc]
 refine Ae (fun h=>Ac (by rw[if_pos h])) (fun h=> ?_)
 rw[if_neg h]
 have hpos : ∀ k∈l,0≤k:=fun k hk=>by
  rcases Int.lt_or_le k 0 with g | g
  · exact absurd ⟨k,hk,g⟩ h
  · exact g
 refine Aa (WT a first ha) ?_
 have sh:(((n.shape.length:Nat):Int)=0)↔n.shape = []:=⟨fun g=>Aqb.1 (by omega),fun g=>by rw[g];rfl⟩
 simp only[Ag,C5,Ao,Cf,Apm,Apr,OA hx,N6,V6,Cp,Ft,sh]
 refine Ad (Ad ?_)
 have fin:(n.shape = []∨(aN a).getD (Av a first) 0=1∨l.length=(aN a).getD (Av a first) 0)→Tw (.br (decide (2048<(((aN a).getD (Av a first) 0:Nat):Int))) (.ret [dA .none,.int 7]) (.br (decide (n.shape = [])) (.call 177 [] [dI l,.int (((aN a).getD (Av a first) 0:Nat):Int)] fun Y4=>I9 4096 4096 (dI (iN (aN a))) ((Av a first:Nat):Int) (((aN a).getD (Av a first) 0:Nat):Int) [] (qA Y4) (((qA Y4).els).length:Int) 0 (dA n) (dA a) 0 0) (I9 4096 4096 (dI (iN (aN a))) ((Av a first:Nat):Int) (((aN a).getD (Av a first) 0:Nat):Int) [] (dI l) (l.length:Int) 0 (dA n) (dA a) 0 0))) [dA (if (aN a).getD (Av a first) 0≠1∧(if n.shape = [] then Apl ((aN a).getD (Av a first) 0) (l.headD 0) else l).length≠(aN a).getD (Av a first) 0 then (Arr.none,(4:Int)) else match F3 ((aN a).getD (Av a first) 0 == 1) (if n.shape = [] then Apl ((aN a).getD (Av a first) 0) (l.headD 0) else l) 0 []with
    | none=>(.none,7)
    | some fr=>C7 a (aN a) (Av a first) fr (Az n)).1,.int (if (aN a).getD (Av a first) 0≠1∧(if n.shape = [] then Apl ((aN a).getD (Av a first) 0) (l.headD 0) else l).length≠(aN a).getD (Av a first) 0 then (Arr.none,(4:Int)) else match F3 ((aN a).getD (Av a first) 0 == 1) (if n.shape = [] then Apl ((aN a).getD (Av a first) 0) (l.headD 0) else l) 0 []with
    | none=>(.none,7)
    | some fr=>C7 a (aN a) (Av a first) fr (Az n)).2]:=by
  intro hc
  refine Ar (Ae (fun hs=> ?_) (fun hs=> ?_))
  · obtain ⟨k,rfl⟩:=hone hs rfl
    have hk:=hpos k (by simp)
    simp only[if_pos hs,List.headD_cons]
    refine Aa (Aam _ k (by omega) (hin k (by simp))) ?_
    simp only[Ag,Cf,Apm]
    rw[if_neg (by simp)]
    have:=Aao n a first (Cd hn).fits ha (Apl ((aN a).getD (Av a first) 0) k) (by rw[Aqp];omega) (fun z hz=>by rw[List.eq_of_mem_replicate hz];exact hk) (fun z hz=>by rw[List.eq_of_mem_replicate hz];exact (hin k (by simp)).2) (fun _=>by rw[Aqp])
    refine Tree.wp_mono this (fun ys hy=>hy.trans ?_)
    cases F3 ((aN a).getD (Av a first) 0 == 1) (Apl ((aN a).getD (Av a first) 0) k) 0 [] <;> rfl
  · simp only[if_neg hs]
    rw[if_neg (by intro hh;rcases hc with g | g | g;exact hs g;exact hh.1 g;exact hh.2 g)]
    have:=Aao n a first (Cd hn).fits ha l (by omega) hpos (fun z hz=>(hin z hz).2) (fun hne=>by rcases hc with g | g | g;exact absurd g hs;exact absurd g hne;exact g)
    refine Tree.wp_mono this (fun ys hy=>hy.trans ?_)
    cases F3 ((aN a).getD (Av a first) 0 == 1) l 0 [] <;> rfl
 refine Ae (fun hs=>Ae (fun h1=>Ae (fun h2=>Ac ?_) (fun h2=>fin (.inr (.inr (by omega))))) (fun h1=>fin (.inr (.inl (by omega))))) (fun hs=>fin (.inl (Apw.1 hs)))
 simp only[if_neg hs]
 rw[if_pos ⟨by omega,by omega⟩]
def Es:List Int→Nat→List Int
 | [],_=>[]
 | k::ks,o=>if k=1 then (o:Int)::Es ks (o+1) else -1::Es ks o
def Fk:List Int→Nat
 | []=>0
 | k::ks=>if k=1 then Fk ks+1 else Fk ks
def Fq(z:Int):Int:=if 0<z then 0 else z
def Jp(L:Nat)(l:List Int):List Int:=if L=1 then (Es l 0).map Fq else Es l 0
def Gb(l:List Int):Prop:=∀ k∈l,k=0∨k=1
theorem Sh : ∀ (l:List Int) (o:Nat),(Es l o).length=l.length
 | [],_=>rfl
 | k::ks,o=>by
  rw[Es]
  split
  · rw[App,Sh ks,App]
  · rw[App,Sh ks,App]
theorem W4 : ∀ (l:List Int) (o:Nat),∀ z∈Es l o,z = -1∨((o:Int)≤z∧z<((o+Fk l:Nat):Int))
 | [],_,z,h=>by simp[Es]at h
 | k::ks,o,z,h=>by
  rw[Es]at h
  rw[Fk]
  split at h
  · rename_i hk
    rw[if_pos hk]
    rcases Ap4.1 h with rfl | h
    · right;omega
    · rcases W4 ks (o+1) z h with h | h
      · exact .inl h
      · right;omega
  · rename_i hk
    rw[if_neg hk]
    rcases Ap4.1 h with rfl | h
    · exact .inl rfl
    · exact W4 ks o z h
theorem GO{L:Nat}{l:List Int}(h:L≠1→Fk l=L):U4 L (Jp L l):=by
 intro z hz
 unfold Jp at hz
 split at hz
 · rename_i h1
   obtain ⟨y,hy,rfl⟩:=Aqw.1 hz
   unfold Fq
   rcases W4 l 0 y hy with h | h
   · subst h;left;decide
   · right;split <;> omega
 · rename_i h1
   have:=h h1
   rcases W4 l 0 z hz with h | h
   · left;omega
   · right;omega
instance (l:List Int):Decidable (Gb l):=by unfold Gb;infer_instance
noncomputable def Hf(n a:Arr)(first:Bool):Arr×Int :=
 if (A9 n).2≠0 then (.none,(A9 n).2)
 else if ¬ Gb (A9 n).1 then (.none,3)
 else if (aN a).getD (Av a first) 0≠1∧Fk (A9 n).1≠(aN a).getD (Av a first) 0 then (.none,4)
 else C7 a (aN a) (Av a first) (Jp ((aN a).getD (Av a first) 0) (A9 n).1) (Az n)
theorem OH(l:List Int)(hl:l.length≤2048):Sp 153 [dI l] [.bool (decide (Gb l))]:=by
 refine Af 4096 (Ajg _ _) ?_
 simp only[Cf,Apm]
 have key:=B3 l (fun m k (_:Unit)=>Ql 4096 m (dI l) (l.length:Int) (k:Int)) (fun rest _=>[.bool (decide (Gb rest))]) (fun _ _=>True)
  (fun m k t hk _=>by
   simp only[WU]
   exact Ar (Ac (by simp[Gb])))
  (fun m k t z rest hd _ ih=>by
   obtain ⟨h1,h2,h3⟩:=By hd
   have ih:=ih () trivial
   have go:z=0∨z=1→Tw (Ql 4096 m (dI l) (l.length:Int) ((k+1:Nat):Int)) [.bool (decide (Gb (z::rest)))]:=fun hz=>by
    rw[show decide (Gb (z::rest))=decide (Gb rest) from decide_eq_decide.2 ⟨fun h y hy=>h y (by simp[hy]),fun h y hy=>by
     rcases Ap4.1 hy with rfl | hy
     · exact hz
     · exact h y hy⟩]
    exact ih
   simp only[WU,Cf,Apm,Apr,Au h2,Ao,Do,Bh k]
   refine Ad (Ad (Ad (Ae (fun g=>Ae (fun g2=>Ac ?_) (fun g2=>go (by omega))) (fun g=>go (by omega)))))
   rw[decide_eq_false (fun h=>by have:=h z (by simp);omega)])
  4096 0 () (by omega) (by omega) trivial
 simpa using key
theorem QK{d:Nat}(n a:Arr)(first:Bool)(hn:Fits n)(ha:Am d a=true)(fr:List Int)(hf:U4 ((aN a).getD (Av a first) 0) fr)(hl:fr.length≤2048):Tw (.call 190 [] [dA n,dA a,dI (iN (aN a)),.int ((Av a first:Nat):Int),D.sl (fr.map D.int)] fun yy=> .ret [qA yy,.int ((qB yy).toInt)]) [dA (C7 a (aN a) (Av a first) fr (Az n)).1,.int (C7 a (aN a) (Av a first) fr (Az n)).2] :=
 Aa (XA n a (aN a) (Av a first) fr hn (Ro ha) (O9 a first) hf hl) (Ac rfl)
theorem WO(n a:Arr)(first:Bool)(hn:Am 8 n=true)(ha:Am 8 a=true):Sp 111 [dA n,dA a,.bool first] [dA (Hf n a first).1,.int (Hf n a first).2]:=by
 have ln:=(Dm hn).1
 have hx:=O9 a first
 have hLe:=NA ha hx
 have hil:=HK n
 refine Af 4096 (Aja _ _ _ _) (Aa (La n ln (Qz hn)) ?_)
 unfold Hf
 generalize hp:A9 n=p at *
 obtain ⟨l,e⟩:=p
 simp only[Ag,C5,Ao,Do,C9]at hil ⊢
 refine Ae (fun h=>Ac (by rw[if_pos h])) (fun h=> ?_)
 rw[if_neg h]
 have h0:e=0:=Apw.1 h
 subst h0
 refine Aa (OH l (by omega)) ?_
 simp only[Ag,Bc]
 refine Cl (fun g=>Ac ?_) (fun g=> ?_)
 · have : ¬ Gb l:=fun hb=>by rw[decide_eq_true hb]at g;cases g
   rw[if_pos this]
 have hb:Gb l:=by
   by_cases hb:Gb l
   · exact hb
   · rw[decide_eq_false hb]at g;cases g
 rw[if_neg (fun hh=>hh hb)]
 refine Aa (WT a first ha) ?_
 simp only[Ag,C5,Ao,Cf,Apm,Apr]
 refine Ad (Ad (Ay (by simp only[Ak];omega) ?_))
 have fits:=(Cd hn).fits
 have fin : ∀ (o:Nat),o=Fk l→Tw (.br (decide (0≤((Av a first:Nat):Int))) (.br (decide (((Av a first:Nat):Int)<((iN (aN a)).length:Int))) (.br (decide ((((iN (aN a)).map D.int).getD (Av a first) D.nil).toInt=1)) (Tb 4096 4096 (dI (iN (aN a))) ((Av a first:Nat):Int) ((Es l 0).map D.int) (((Es l 0).map D.int).length:Int) 0 (dA n) (dA a) 0 0) (.br (decide (0≤((Av a first:Nat):Int))) (.br (decide (((Av a first:Nat):Int)<((iN (aN a)).length:Int))) (.br (decide ((o:Int)≠(((iN (aN a)).map D.int).getD (Av a first) D.nil).toInt)) (.ret [dA .none,.int 4]) (.call 190 [] [dA n,dA a,dI (iN (aN a)),.int ((Av a first:Nat):Int),D.sl ((Es l 0).map D.int)] fun yy=> .ret [qA yy,.int ((qB yy).toInt)])) .fail) .fail)) .fail) .fail) [dA (if (aN a).getD (Av a first) 0≠1∧Fk l≠(aN a).getD (Av a first) 0 then (Arr.none,(4:Int)) else C7 a (aN a) (Av a first) (Jp ((aN a).getD (Av a first) 0) l) (Az n)).1,.int (if (aN a).getD (Av a first) 0≠1∧Fk l≠(aN a).getD (Av a first) 0 then (Arr.none,(4:Int)) else C7 a (aN a) (Av a first) (Jp ((aN a).getD (Av a first) 0) l) (Az n)).2]:=by
   rintro o rfl
   simp only[OA hx,N6,Ao]
   refine Ad (Ad (Ae (fun g1=> ?_) (fun g1=> ?_)))
   · have e1:(aN a).getD (Av a first) 0=1:=by omega
     rw[if_neg (fun hh=>hh.1 e1)]
     have hfr:Jp ((aN a).getD (Av a first) 0) l=(Es l 0).map Fq:=by unfold Jp;rw[if_pos e1]
     have er:=QK n a first fits ha ((Es l 0).map Fq) (by rw[← hfr];exact GO (fun hh=>absurd e1 hh)) (by rw[Apm,Sh];omega)
     rw[hfr]
     have fl:=Sh l 0
     generalize Es l 0=fr at *
     have key:=Di fr.length (fun m i (_:Unit)=>Tb 4096 m (dI (iN (aN a))) ((Av a first:Nat):Int) (((fr.take i).map Fq++fr.drop i).map D.int) (fr.length:Int) (i:Int) (dA n) (dA a) 0 0) (fun _ _=>[dA (C7 a (aN a) (Av a first) (fr.map Fq) (Az n)).1,.int (C7 a (aN a) (Av a first) (fr.map Fq) (Az n)).2]) (fun _ _=>True)
       (fun m t _=>by
        simp only[WM]
        rw[Aqh (Apx _),List.drop_of_length_le (Apx _),Ap6]
        exact Ar er)
       (fun m i t hi _ ih=>by
        have ih:=ih () trivial
        have e4:fr.drop i=fr[i]::fr.drop (i+1):=Aqa hi
        have e5:fr.take (i+1)=fr.take i++[fr[i]]:=by rw[List.take_add_one,Apk hi];rfl
        rw[e5,show (fr.take i++[fr[i]]).map Fq++fr.drop (i+1)=(fr.take i).map Fq++(Fq fr[i]::fr.drop (i+1)) by rw[List.map_append,Ap8];rfl]at ih
        rw[e4]
        generalize fr[i]=z at *
        have t1:((fr.take i).map Fq).length=i:=by rw[Apm,Ap0];omega
        have t2:(fr.drop (i+1)).length=fr.length-(i+1):=by rw[Apy]
        have hg:(((fr.take i).map Fq++z::fr.drop (i+1)).map D.int).getD i D.nil=D.int z:=by
         rw[Apn,Ap2,Aqn (by omega),t1,Nat.sub_self];rfl
        have hst:(((fr.take i).map Fq++z::fr.drop (i+1)).map D.int).set i (D.int (Fq z))=((fr.take i).map Fq++(Fq z::fr.drop (i+1))).map D.int:=by
         rw[← List.map_set,List.set_append_right _ _ (by omega),t1,Nat.sub_self];rfl
        have ll:((fr.take i).map Fq++z::fr.drop (i+1)).length=fr.length:=by rw[Apu,t1,App,t2];omega
        simp only[WM,Apm,ll,Apr,hg,Ao,Bh i]
        refine Ad (Ad (Ad (Ad (Ad ?_))))
        rw[show D.int (if 0<z then 0 else z)=D.int (Fq z) from rfl,hst]
        exact ih)
       4096 0 () (by omega) (by omega) trivial
     simpa using key
   · have e1:(aN a).getD (Av a first) 0≠1:=by omega
     refine Ad (Ad (Ae (fun g2=>Ac ?_) (fun g2=> ?_)))
     · rw[if_pos ⟨e1,by omega⟩]
     · have e2:Fk l=(aN a).getD (Av a first) 0:=by omega
       rw[if_neg (fun hh=>hh.2 e2)]
       have hfr:Jp ((aN a).getD (Av a first) 0) l=Es l 0:=by unfold Jp;rw[if_neg e1]
       rw[hfr]
       exact QK n a first fits ha (Es l 0) (by rw[← hfr];exact GO (fun _=>e2)) (by rw[Sh];omega)
 have key:=B3 l (fun m k (s:List Int×Nat)=>Ta 4096 m (dI (iN (aN a))) ((Av a first:Nat):Int) (s.1.map D.int++Apl (l.length-s.1.length) (D.int 0)) (s.2:Int) (dI l) (l.length:Int) (k:Int) (dA n) (dA a) 0 0) (fun _ _=>[dA (if (aN a).getD (Av a first) 0≠1∧Fk l≠(aN a).getD (Av a first) 0 then (Arr.none,(4:Int)) else C7 a (aN a) (Av a first) (Jp ((aN a).getD (Av a first) 0) l) (Az n)).1,.int (if (aN a).getD (Av a first) 0≠1∧Fk l≠(aN a).getD (Av a first) 0 then (Arr.none,(4:Int)) else C7 a (aN a) (Av a first) (Jp ((aN a).getD (Av a first) 0) l) (Az n)).2]) (fun rest s=>s.1.length+rest.length=l.length∧Es l 0=s.1++Es rest s.2∧Fk l=s.2+Fk rest)
   (fun m k s hk hI=>by
     obtain ⟨i1,i2,i3⟩:=hI
     simp only[Es,Ap6,Ap1,Fk,Nat.add_zero]at i1 i2 i3
     simp only[WL,i1,Nat.sub_self,List.replicate_zero,Ap6,Cf,Apm,Apr,Cp,Do,C9]
     have f:=fin s.2 i3.symm
     rw[i2]at f
     simp only[Apm,i1]at f
     exact Ar f)
   (fun m k s z rest hd hI ih=>by
     obtain ⟨h1,h2,h3⟩:=By hd
     obtain ⟨i1,i2,i3⟩:=hI
     have hle:=congrArg List.length hd
     rw[Apy,App]at hle
     rw[App]at i1
     have hk:k=s.1.length:=by omega
     simp only[Es]at i2
     simp only[Fk]at i3
     have so:s.2≤2048:=by
       have : ∀ q:List Int,Fk q≤q.length:=fun q=>by
        induction q with
        | nil=>exact Apx _
        | cons y ys ihq=>simp only[Fk,App];split <;> omega
       have:=this l
       split at i3 <;> omega
     have en:=fun v:Int=>Nd (f:=D.int) (z:=D.int 0) s.1 v (l.length-(s.1.length+1))
     rw[show l.length-(s.1.length+1)+1=l.length-s.1.length by omega]at en
     have ll:(s.1.map D.int++Apl (l.length-s.1.length) (D.int 0)).length=l.length:=by rw[Apu,Apm,Aqp];omega
     have w1:Api .i64 ((s.2:Int)+1)=((s.2+1:Nat):Int):=by rw[Aw (by omega) (by omega)];rfl
     simp only[WL,Cf,Apm,Apr,Au h2,Ao,Cp,ll,List.length_set,List.set_set,w1,Bh k]
     refine Ad (Ad (Ad (Ad (Ad (Ae (fun g=>Ad (Ad ?_)) (fun g=> ?_))))))
     · rw[if_pos g]at i2 i3
       have ih:=ih (s.1++[(s.2:Int)],s.2+1) ⟨by rw[Apu,App,Ap1];omega,by rw[i2];simp,by omega⟩
       rw[hk,en]
       simp only[Apu,App,Ap1,hk]at ih
       exact ih
     · rw[if_neg g]at i2 i3
       have ih:=ih (s.1++[-1],s.2) ⟨by rw[Apu,App,Ap1];omega,by rw[i2];simp,i3⟩
       rw[hk,en]
       simp only[Apu,App,Ap1,hk]at ih
       exact ih)
   4096 0 ([],0) (by omega) (by omega) ⟨by simp,by simp,by simp⟩
 simpa using key
theorem AfT(a:Arr):(A9 a).1.length≤a.cells.length:=by
 unfold A9
 split
 · simp
 · split
   · rename_i l hl;have:=(So hl).1;simp only;omega
   · simp
theorem AlJ{d:Nat}{c:Cell}(l:At)(h:Bo d c=true):Bo d ⟨l,c.kind,c.n,c.c,c.inn⟩=true:=by cases d <;> exact h
theorem AlI{d:Nat}(a:Arr):Bo d (Cr a)=true:=by
 unfold Cr
 split
 · exact J0 d I6
 · split
   · have : ∀ k r (l:At),C8 k r (⟨l,1,.zero,32,[]⟩:Cell)=true:=fun k r l=>rfl
     cases d <;> exact this _ _ _
   · exact AlJ _ (J0 d I6)
theorem AaK{d:Nat}{a:Arr}{s:List Nat}{x:Nat}{fr:List Int}{more:At}(ha:Am d a=true)(hb:Boxed a s)(hx:x<s.length)(hf:U4 (s.getD x 0) fr)(h0:(C7 a s x fr more).2=0):Am d (C7 a s x fr more).1=true:=by
 unfold C7 at h0 ⊢
 split at h0
 · rename_i h;exact absurd h0 h
 · rename_i h
   rw[if_neg h]
   have hok:=Apw.1 h
   have hcl:=Fz (iN (s.set x fr.length))
   refine G8 ?_ (fun c hc=> ?_)
   · simp only[Arr.shape_mk,Arr.cells_mk,Apm,List.length_range]
     exact Prod.ext (by simp only;unfold Ed;omega) hok
   · simp only[Arr.cells_mk,Aqw,List.mem_range]at hc
     obtain ⟨j,hj,rfl⟩:=hc
     obtain ⟨hpos,hcp,_⟩:=Ajj hok (by omega)
     obtain ⟨sp1,sp2⟩:=AbK hx
     have st:=Abj (F:=fr.length) hx
     have hj2:j<A7 (s.take x++fr.length::s.drop (x+1)):=by rw[← st,← hcp];exact hj
     have hFp:0<fr.length:=by
       have:=hpos fr.length (by rw[st];simp)
       omega
     have hmlt:=Aqe (j / A7 (s.drop (x+1))) hFp
     have hk:=hf _ (RM hmlt)
     unfold My
     split
     · exact AlI a
     · rename_i g
       have hKL:(fr.getD (j / A7 (s.drop (x+1)) % fr.length) 0).toNat<s.getD x 0:=by omega
       obtain ⟨_,_,q3⟩:=Aji hj2 hKL
       rw[← sp1]at q3
       have hsp : ∀ y∈s,1≤y:=fun y hy=>by
        rw[sp1]at hy
        rcases Aqs.1 hy with hy | hy
        · exact hpos y (by rw[st];simp[hy])
        · rcases Ap4.1 hy with rfl | hy
          · omega
          · exact hpos y (by rw[st];simp[hy])
       have hsc:=OY hb.ok hsp
       rw[← hsc,← hb.len]at q3
       rw[Apn,Apk q3]
       exact (Ck ha).2 _ (Aql q3)
theorem AaH{a:Arr}{s:List Nat}{x:Nat}{fr:List Int}{more:At}(h:(C7 a s x fr more).2≠0):(C7 a s x fr more).1 = .none:=by
 unfold C7 at h ⊢
 split
 · rfl
 · rename_i g;rw[if_neg g]at h;exact absurd rfl h
theorem AX{d:Nat}{n a:Arr}{first:Bool}(ha:Am d a=true):((Hq n a first).2=0→Am d (Hq n a first).1=true)∧((Hq n a first).2≠0→(Hq n a first).1 = .none):=by
 have hx:=O9 a first
 unfold Hq
 split
 · rename_i h;exact ⟨fun h0=>absurd h0 h,fun _=>rfl⟩
 split
 · exact ⟨fun h0=>(by cases h0),fun _=>rfl⟩
 split
 · exact ⟨fun h0=>(by cases h0),fun _=>rfl⟩
 rename_i h1 h2 h3
 cases hfr:F3 ((aN a).getD (Av a first) 0 == 1) (lS n ((aN a).getD (Av a first) 0)) 0 []with
 | none=>exact ⟨fun h0=>(by cases h0),fun _=>rfl⟩
 | some fr =>
  have hg:=RE (L:=(aN a).getD (Av a first) 0) hfr (by simp) (by simp) (fun ho=>by have:=beq_iff_eq.1 ho;omega) (fun ho=>by
   have hne:=beq_eq_false_iff_ne.1 ho
   have:(lS n ((aN a).getD (Av a first) 0)).length=(aN a).getD (Av a first) 0:=Apw.1 (fun hh=>h3 ⟨hne,hh⟩)
   omega)
  exact ⟨fun h0=>AaK ha (Ro ha) hx (fun k hk=> .inr (hg.2 k hk)) h0,fun h0=>AaH h0⟩
theorem Wm{d:Nat}{n a:Arr}{first:Bool}(ha:Am d a=true):((Hf n a first).2=0→Am d (Hf n a first).1=true)∧((Hf n a first).2≠0→(Hf n a first).1 = .none):=by
 have hx:=O9 a first
 unfold Hf
 split
 · rename_i h;exact ⟨fun h0=>absurd h0 h,fun _=>rfl⟩
 split
 · exact ⟨fun h0=>(by cases h0),fun _=>rfl⟩
 split
 · exact ⟨fun h0=>(by cases h0),fun _=>rfl⟩
 rename_i h1 h2 h3
 exact ⟨fun h0=>AaK ha (Ro ha) hx (GO (fun hne=>Apw.1 (fun hh=>h3 ⟨hne,hh⟩))) h0,fun h0=>AaH h0⟩
def Ho:List Int→Nat→List Nat
 | [],_=>[]
 | k::ks,i=>if k=1 then i::Ho ks (i+1) else Ho ks (i+1)
theorem Zg : ∀ (l:List Int) (i:Nat),(Ho l i).length≤l.length∧∀ p∈Ho l i,i≤p∧p<i+l.length
 | [],_=>by simp[Ho]
 | k::ks,i=>by
  obtain ⟨h1,h2⟩:=Zg ks (i+1)
  rw[Ho,App]
  split
  · refine ⟨by rw[App];omega,fun p hp=> ?_⟩
    rcases Ap4.1 hp with rfl | hp
    · omega
    · have:=h2 p hp;omega
  · exact ⟨by omega,fun p hp=>by have:=h2 p hp;omega⟩
def Rh(l:List Nat):List Int:=l.map (fun (i:Nat)=>(i:Int)+1)
noncomputable def Iu(n:Arr):Arr×Int:=if (A9 n).2≠0 then (.none,(A9 n).2) else if n.shape = [] then (.none,5) else if ¬ Gb (A9 n).1 then (.none,3) else (C3 (Rh (Ho (A9 n).1 0)) (Az n),0)
theorem Ao_{l:List Int}(hl:l.length≤2048) : ∀ k∈Rh (Ho l 0),1≤k∧k≤(l.length:Int):=fun k hk=>by
 obtain ⟨i,hi,rfl⟩:=Aqw.1 hk
 have:=(Zg l 0).2 i hi
 omega
theorem Ao9{l:List Int}(hl:l.length≤2048) : ∀ k∈Rh (Ho l 0),Bd k:=fun k hk=>by have:=Ao_ hl k hk;exact Dn (by omega) (by omega)
theorem Ajd(n:Arr)(hn:Am 8 n=true):Sp 68 [dA n] [dA (Iu n).1,.int (Iu n).2]:=by
 have ln:=(Dm hn).1
 have hil:=HK n
 have sh:(((n.shape.length:Nat):Int)=0)↔n.shape = []:=⟨fun g=>Aqb.1 (by omega),fun g=>by rw[g];rfl⟩
 refine Af 4096 (Aje _ _) (Aa (La n ln (Qz hn)) ?_)
 unfold Iu
 generalize (A9 n)=p at *
 obtain ⟨l,e⟩:=p
 simp only[Ag,C5,Ao,Do,Cp,C9,V6,Cf,Apm,sh]at hil ⊢
 refine Ae (fun h=>Ac (by rw[if_pos h])) (fun h=> ?_)
 rw[if_neg h]
 refine Ae (fun h=>Ac (by rw[if_pos h])) (fun h=> ?_)
 rw[if_neg h]
 refine Aa (OH l (by omega)) ?_
 simp only[Ag,Bc]
 refine Cl (fun g=>Ac ?_) (fun g=> ?_)
 · have : ¬ Gb l:=fun hb=>by rw[decide_eq_true hb]at g;cases g
   rw[if_pos this]
 have hb:Gb l:=by
   by_cases hb:Gb l
   · exact hb
   · rw[decide_eq_false hb]at g;cases g
 rw[if_neg (fun hh=>hh hb)]
 have hpl:=Zg l 0
 have key:=B3 l (fun m k (acc:List Nat)=>Tc 4096 m ((acc.map (fun (i:Nat)=>Bf ((i:Int)+1))).map dC) (dI l) (l.length:Int) (k:Int) (dA n) 0) (fun _ _=>[dA (C3 (Rh (Ho l 0)) (Az n)),.int 0]) (fun rest acc=>Ho l 0=acc++Ho rest (l.length-rest.length))
   (fun m k acc hk hI=>by
    simp only[Ho,Ap6]at hI
    simp only[WS]
    have hsm : ∀ c∈acc.map (fun (i:Nat)=>Bf ((i:Int)+1)),SmlC 0 c:=fun c hc=>by
      obtain ⟨i,hi,rfl⟩:=Aqw.1 hc
      have:=hpl.2 i (by rw[hI];exact hi)
      exact K0 (Dn (by omega) (by omega)) 0
    refine Ar (Aa (O6 _ hsm (by rw[Apm,← hI];omega)) (Aa (Fi n (Cd hn).fits) ?_))
    simp only[Ag,Ej,Ns]
    refine Aa (Ha _ (Az n)) (Ac ?_)
    rw[hI]
    simp[Cw,K6,C3,Rh]
    rfl)
   (fun m k acc z rest hd hI ih=>by
    obtain ⟨h1,h2,h3⟩:=By hd
    have hle:=congrArg List.length hd
    rw[Apy,App]at hle
    rw[show l.length-(z::rest).length=k by rw[App];omega,Ho]at hI
    rw[show l.length-rest.length=k+1 by omega]at ih
    simp only[WS,Cf,Apm,Apr,Au h2,Ao,Cp,Bh k]
    refine Ad (Ad (Ad (Ae (fun g=> ?_) (fun g=> ?_))))
    · rw[if_pos g]at hI
      have hal:acc.length≤2048:=by have:=congrArg List.length hI;rw[Apu]at this;omega
      have:=ih (acc++[k]) (by rw[hI];simp)
      rw[List.map_append,List.map_append]at this
      refine Aa (Jj _ (Dn (by omega) (by omega))) (Ay (by simp only[App,Ap1,Ak];omega) ?_)
      exact this
    · rw[if_neg g]at hI
      exact ih acc hI)
   4096 0 [] (by omega) (by omega) (by simp)
 exact key
theorem Zh(x n:Int):Bu (Mz x n).1≤100:=by
 unfold Mz
 split
 · show Bu 0≤100;unfold Bu;rw[show Int.natAbs 0=0 from rfl,Da];simp
 · exact XJ _ _ _ _ (Ba.2 (by show 1<B ^ 100;exact Nat.one_lt_pow (by decide) (by decide)))
section
variable {a b:Num} {z y:Int} {d e:Nat}
theorem YB(p q:Int×Int)(hp:Bu p.1≤100)(hq:Bu q.1≤100){xs xt:List D}(h1:Sp 314 xs (Qm p))(h2:Sp 314 xt (Qm q)):Tw (.call 314 [] xs fun Y7=> .br (((qB Y7).toInt)!=0) (.ret [D.agg [D.bool false,D.sl [],D.sl []],D.int ((qB Y7).toInt)]) (.call 314 [] xt fun Y8=> .br (((qB Y8).toInt)!=0) (.ret [D.agg [D.bool false,D.sl [],D.sl []],D.int ((qB Y8).toInt)]) (.call 305 [] [qA Y7,qA Y8] fun Y9=> .ret [qA Y9,D.int ((qB Y9).toInt)]))) (Dy (Oh p q)):=by
 refine Aa h1 ?_
 simp only[Qm,Ag,C5,Ao,Do,Jm]
 unfold Oh
 refine Ae (fun g1=>Ac ?_) (fun g1=>Aa h2 ?_)
 · rw[if_neg g1];rfl
 rw[if_pos (Apw.1 g1)]
 simp only[Qm,Ag,C5,Ao,Do,Jm]
 refine Ae (fun g2=>Ac ?_) (fun g2=> ?_)
 · rw[if_neg g2];rfl
 rw[if_pos (Apw.1 g2)]
 have mk:=Zo (wz p.1) (wz q.1) (by rw[Ga];omega) (by rw[Ga];omega)
 rw[Dg,Dg]at mk
 exact Aa mk (Ac rfl)
theorem AjU(h:RNum a z d)(n:Int)(hn:n≤3000∧(-3000≤n∨n = -9223372036854775808)):Sp 281 [dN a,.int n] (Dy (Qn a n)):=by
 obtain ⟨l1,l2⟩:=h.len
 refine Af 0 (AjV _ _ _) (Aa (F8 a) (Aa (Hp a) ?_))
 simp only[Ag,Ao,Cp]
 unfold Qn
 refine Ae (fun h0=>Aa (DK ⟨a.neg,a.top⟩ (by show a.top.length≤_;omega)) ?_) (fun h0=> ?_)
 · rw[if_pos h0,K7]
   simp only[Ag,Ao,Cp,Jm]
   refine Ae (fun h1=>Ac ?_) (fun h1=>Ae (fun h2=>Ac ?_) (fun h2=> ?_))
   · rw[if_pos (.inl (h.top0.2 (by rw[← h.top];exact LI.1 h1)))];rfl
   · rw[if_pos (.inr (by omega))];rfl
   · have hz : ¬ a.top = []:=fun hh=>h1 (by rw[h.top,h.top0.1 hh];rfl)
     rw[if_neg (by intro hh;rcases hh with hh | hh;exact hz hh;omega),Aw (by omega) (by omega),Int.zero_sub]
     have p1:=DJ ⟨a.neg,a.top⟩ (-n) (by show a.top.length≤_;omega) (by omega)
     have p2:=DJ ⟨false,a.bot⟩ (-n) (by show a.bot.length≤_;omega) (by omega)
     exact YB _ _ (Zh _ _) (Zh _ _) p2 p1
 · rw[if_neg h0]
   have p1:=DJ ⟨a.neg,a.top⟩ n (by show a.top.length≤_;omega) (by omega)
   have p2:=DJ ⟨false,a.bot⟩ n (by show a.bot.length≤_;omega) (by omega)
   exact YB _ _ (Zh _ _) (Zh _ _) p1 p2
theorem RJ(h:RNum a z d)(h':RNum b y e):(lb (Nat.gcd (nv a.top) (nv b.top))).length≤32:=by
 by_cases h0:nv a.top=0
 · rw[h0,Nat.gcd_zero_left]
   exact Nat.le_trans (Ba.2 (Cc _)) h'.len.1
 · exact Nat.le_trans (Ba.2 (Nat.lt_of_le_of_lt (Nat.gcd_le_left _ (by omega)) (Cc _))) h.len.1
theorem Ape(n:Nat):zv ⟨false,lb n⟩=(n:Int):=by rw[Uz];rfl
theorem Af7(h:RNum a z d)(h':RNum b y e):RNum (Cy (Nat.gcd (nv a.top) (nv b.top):Nat)) (Nat.gcd (nv a.top) (nv b.top):Nat) 1 :=
 ⟨(Pt _).symm,by decide,Nat.coprime_one_right _,RJ h h',by rw[N9];decide⟩
theorem XZ(h:RNum a z d)(h':RNum b y e):Sp 283 [dN a,dN b] (Dy (N4 a b)):=by
 refine Af 0 (AjK _ _ _) (Aa (Lr a.bot) ?_)
 simp only[Ag,Bc,Ft,Jm]
 unfold N4
 refine Ae (fun h1=>Ac ?_) (fun h1=>Aa (Lr b.bot) ?_)
 · rw[if_neg (fun hh=>h1 hh.1)];rfl
 simp only[Ag,Bc,Ft]
 refine Ae (fun h2=>Ac ?_) (fun h2=> ?_)
 · rw[if_neg (fun hh=>h2 hh.2)];rfl
 rw[if_pos ⟨Apw.1 h1,Apw.1 h2⟩]
 have gl:=RJ h h'
 have gc:=UV a.top b.top (by have:=h.len;omega) (by have:=h'.len;omega)
 have wh:=Zs ⟨false,lb (Nat.gcd (nv a.top) (nv b.top))⟩ (by show (lb _).length≤_;omega)
 rw[Ape]at wh
 unfold Nl at wh
 rw[if_neg (by rw[Int.natAbs_natCast];omega)]at wh
 exact Aa gc (Aa wh (Ac rfl))
theorem GQ(h:RNum a z d)(h':RNum b y e)(h0:(N4 a b).2=0) : ∃ x,RNum (N4 a b).1 x 1:=by
 unfold N4 at h0 ⊢
 split at h0
 · rename_i hh;rw[if_pos hh];exact ⟨_,Af7 h h'⟩
 · cases h0
theorem AjM(h:RNum a z d)(h':RNum b y e):Sp 282 [dN a,dN b] (Dy (P1 a b)):=by
 refine Af 0 (AjN _ _ _) (Aa (XZ h h') ?_)
 simp only[Dy,Ag,C5,Ao,Do,Jm]
 unfold P1 Lb
 refine Ae (fun h1=>Ac ?_) (fun h1=> ?_)
 · rw[if_neg h1]
 have h1':=Apw.1 h1
 rw[if_pos h1']
 obtain ⟨x,hx⟩:=GQ h h' h1'
 refine Aa (Zq hx.sm) ?_
 simp only[Ag,Ao,Cp]
 refine Ae (fun h2=>Aa (M4 0 (by unfold Bd;omega)) (Ac ?_)) (fun h2=>Aa (Zn h.sm hx.sm) ?_)
 · have hx0:x=0:=by rw[← hx.top];exact LI.1 h2
   rw[if_pos (hx.top0.2 hx0)]
   rw[hx.eq,hx0,Pt];rfl
 · have hx0:x≠0:=fun hh=>h2 (by rw[hx.top,hh];rfl)
   rw[if_neg (fun hh=>hx0 (hx.top0.1 hh))]
   simp only[Dy,Ag,C5,Ao,Do]
   refine Ae (fun h3=>Ac ?_) (fun h3=> ?_)
   · rw[if_neg h3]
   have h3':=Apw.1 h3
   rw[if_pos h3']
   obtain ⟨x2,c2,hr2⟩:=PY h hx hx0 h3'
   exact Aa (KB hr2.sm h'.sm) (Ac rfl)
end
theorem Q5{z:Int}(h:Bu z≤32):RNum (Cy z) z 1:=⟨(Pt z).symm,by decide,Nat.coprime_one_right _,h,by rw[N9];decide⟩
theorem Oa{z:Int}(h1 : -100000≤z:=by decide)(h2:z≤100000:=by decide):Bu z≤32:=Sw (by
 have:100000<B ^ 32:=by decide
 omega)
def BI:List (Nat×Orc):=[(5,⟨[(0,none),(4,none),(6,none),(26,some 24),(27,none),(28,none)],[(4,false),(6,false)],[(.fld 6 [1],1050,3),(.fld 6 [2],1051,67)]⟩)]
noncomputable def BH(n m5:Nat)(f0:Int)(t26:D)(t27 t28:Int)(t4_0 out6_0:Int)(out6_1 out6_2:List D):Tree :=
 lA (eA BI n 70 [1,1,1,0,1,0,0]) (Al BI 5) m5 ⟨(.i .i64 f0::uA 3++(.ptr 4 []:: .undef:: .ptr 6 []::uA 19++(.d 24 t26:: .i .i64 t27:: .i .i64 t28::uA 21))),[(4,.var 26 (.agg 26 [.i .u64 t4_0,.mt,.mt]) true),(6,.var 26 (.agg 26 [.i .u64 out6_0,.row 1050,.row 1051]) true),(1050,.row 3 out6_1 true),(1051,.row 67 out6_2 true)],[4,6,1050,1051],[],[]⟩
  (Aj 0 (An (jA BI n 70 [1,1,1,1]) (rA 70 [3,26] [.cell 4 26,.tmp 5] [26,29])))
theorem AaW(n m5:Nat)(f0:Int)(t26:D)(t27 t28:Int)(t4_0 out6_0:Int)(out6_1 out6_2:List D):BH n (m5+1) f0 t26 t27 t28 t4_0 out6_0 out6_1 out6_2 =
 bK (t28<t27) (kK (0≤t28) (kK (t28<(t26.els.length:Int)) (cK 159 [D.int f0,t26.els.getD (Apj t28) D.nil] fun Y3 =>
 .br (((qB Y3).toInt)!=0) (.ret [D.agg [D.int 0,D.sl [],D.sl []],D.int ((qB Y3).toInt)])
 (kK (0≤t28) (kK (t28<(out6_2.length:Int)) (BH n m5 f0 t26 t27 (Api .i64 (t28+1)) t4_0 out6_0 out6_1 (out6_2.set (Apj t28) (qA Y3))))))))
 (.ret [D.agg [D.int out6_0,D.sl out6_1,D.sl out6_2],D.int 0]):=by kernel_rfl
theorem Aml(n:Nat)(f0 a1:D):fA BI n 70 [] [f0,a1] =
 cK 158 [D.int f0.toInt] fun Y1 =>
 .br (!((qA Y1).toBool)) (.ret [D.agg [D.int 0,D.sl [],D.sl []],D.int 8])
 (cK 96 [a1.fld 1] fun Y2 =>
 kK (0≤(((a1.fld 2).els).length:Int)) (kK ((((a1.fld 2).els).length:Int)≤(((a1.fld 2).els).length:Int)) (kK ((((a1.fld 2).els).length:Int)≤Ak) (BH n n f0.toInt (a1.fld 2) (((a1.fld 2).els).length:Int) 0 0 ((a1.fld 0).toInt) ((qA Y2).els) (Apl (Apj (((a1.fld 2).els).length:Int)) (D.agg [D.int 0,D.int 0,D.agg [D.bool false,D.sl [],D.sl []],D.int 0,D.sl []])))))):=by kernel_rfl
def BJ:List (Nat×Orc):=[(11,⟨[(0,none),(4,none),(5,none),(6,none),(11,none),(48,none),(49,none)],[(4,true),(5,true),(6,false),(11,false)],[(.fld 11 [2],1110,67)]⟩)]
noncomputable def T_(n m11:Nat)(f0 t48 t49:Int)(a4 b5:D)(t6_0 out11_0:Int)(out11_1:D)(out11_2:List D):Tree :=
 lA (eA BJ n 112 [1,1,1,1,1,1,1,0,1,0,0]) (Al BJ 11) m11 ⟨(.i .i64 f0::uA 3++(.ptr 4 []:: .ptr 5 []:: .ptr 6 []::uA 4++(.ptr 11 []::uA 36++(.i .i64 t48:: .i .i64 t49::uA 24)))),[(4,.var 26 (.d 26 a4) true),(5,.var 26 (.d 26 b5) true),(6,.var 26 (.agg 26 [.i .u64 t6_0,.mt,.mt]) true),(11,.var 26 (.agg 26 [.i .u64 out11_0,.d 23 out11_1,.row 1110]) true),(1110,.row 67 out11_2 true)],[4,5,6,11,1110],[],[]⟩
  (Aj 0 (An (jA BJ n 112 [1,1,1,1,1,1,1,1]) (rA 112 [3,26,26] [.cell 6 26,.tmp 7] [26,29])))
theorem AaY(n m11:Nat)(f0 t48 t49:Int)(a4 b5:D)(t6_0 out11_0:Int)(out11_1:D)(out11_2:List D):T_ n (m11+1) f0 t48 t49 a4 b5 t6_0 out11_0 out11_1 out11_2 =
 bK (t49<t48) (cK 195 [a4,D.int t49] fun Y4 =>
 cK 195 [b5,D.int t49] fun Y5 =>
 cK 194 [D.int f0,qA Y4,qA Y5] fun Y6 =>
 .br (((qB Y6).toInt)!=0) (.ret [D.agg [D.int 0,D.sl [],D.sl []],D.int ((qB Y6).toInt)])
 (kK (0≤t49) (kK (t49<(out11_2.length:Int)) (T_ n m11 f0 t48 (Api .i64 (t49+1)) a4 b5 t6_0 out11_0 out11_1 (out11_2.set (Apj t49) (qA Y6))))))
 (.ret [D.agg [D.int out11_0,out11_1,D.sl out11_2],D.int 0]):=by kernel_rfl
theorem Amm(n:Nat)(f0 a1 b2:D):fA BJ n 112 [] [f0,a1,b2] =
 cK 192 [D.int f0.toInt] fun Y1 =>
 .br (!((qA Y1).toBool)) (.ret [D.agg [D.int 0,D.sl [],D.sl []],D.int 8])
 (cK 193 [a1,b2] fun Y2 =>
 .br (((qB Y2).toInt)!=0) (.ret [D.agg [D.int 0,D.sl [],D.sl []],D.int ((qB Y2).toInt)])
 (.br ((((a1.fld 1).els).length:Int)==0) (cK 83 [D.int ((a1.fld 0).toInt),D.int ((b2.fld 0).toInt)] fun Y3 =>
 kK (0≤(((b2.fld 2).els).length:Int)) (kK ((((b2.fld 2).els).length:Int)≤(((b2.fld 2).els).length:Int)) (kK ((((b2.fld 2).els).length:Int)≤Ak) (T_ n n f0.toInt (((b2.fld 2).els).length:Int) 0 a1 b2 0 ((qA Y3).toInt) (qA Y2) (Apl (Apj (((b2.fld 2).els).length:Int)) (D.agg [D.int 0,D.int 0,D.agg [D.bool false,D.sl [],D.sl []],D.int 0,D.sl []]))))))
 (cK 83 [D.int ((a1.fld 0).toInt),D.int ((b2.fld 0).toInt)] fun Y7 =>
 kK (0≤(((a1.fld 2).els).length:Int)) (kK ((((a1.fld 2).els).length:Int)≤(((a1.fld 2).els).length:Int)) (kK ((((a1.fld 2).els).length:Int)≤Ak) (T_ n n f0.toInt (((a1.fld 2).els).length:Int) 0 a1 b2 0 ((qA Y7).toInt) (qA Y2) (Apl (Apj (((a1.fld 2).els).length:Int)) (D.agg [D.int 0,D.int 0,D.agg [D.bool false,D.sl [],D.sl []],D.int 0,D.sl []])))))))):=by kernel_rfl
theorem Amd(n:Nat)(f0:D):fA [] n 158 [] [f0] =
 .br (f0.toInt == 43) (.br (f0.toInt == 43) (.ret [D.bool true])
 (.ret [D.bool false]))
 (.br (f0.toInt == 45) (.br (f0.toInt == 45) (.ret [D.bool true])
 (.ret [D.bool false]))
 (.br (f0.toInt == 215) (.br (f0.toInt == 215) (.ret [D.bool true])
 (.ret [D.bool false]))
 (.br (f0.toInt == 247) (.br (f0.toInt == 247) (.ret [D.bool true])
 (.ret [D.bool false]))
 (.br (f0.toInt == 8968) (.br (f0.toInt == 8968) (.ret [D.bool true])
 (.ret [D.bool false]))
 (.br (f0.toInt == 8970) (.br (f0.toInt == 8970) (.ret [D.bool true])
 (.ret [D.bool false]))
 (.br (f0.toInt == 124) (.br (f0.toInt == 124) (.ret [D.bool true])
 (.ret [D.bool false]))
 (.br (f0.toInt == 126) (.br (f0.toInt == 126) (.ret [D.bool true])
 (.ret [D.bool false]))
 (.br (f0.toInt == 33) (.ret [D.bool true])
 (.ret [D.bool false]))))))))):=by kernel_rfl
theorem Amu(n:Nat)(f0 c1:D):fA [] n 159 [] [f0,c1] =
 .br (((c1.fld 1).toInt)==0) (cK 221 [D.int f0.toInt,c1.fld 2] fun Y1 =>
 .ret [D.agg [D.int ((c1.fld 0).toInt),D.int 0,qA Y1,D.int 0,D.sl []],D.int ((qB Y1).toInt)])
 (.br (((c1.fld 1).toInt)==2) (cK 222 [c1] fun Y2 =>
 cK 70 [D.int f0.toInt,qA Y2] fun Y3 =>
 .ret [D.agg [D.int ((c1.fld 0).toInt),D.int 2,D.agg [D.bool false,D.sl [],D.sl []],D.int 0,D.sl [qA Y3]],D.int ((qB Y3).toInt)])
 (.ret [D.agg [D.int 0,D.int 0,D.agg [D.bool false,D.sl [],D.sl []],D.int 0,D.sl []],D.int 3])):=by kernel_rfl
theorem Amf(n:Nat)(f0:D):fA [] n 192 [] [f0] =
 .br (f0.toInt == 43) (.br (f0.toInt == 43) (.ret [D.bool true])
 (.ret [D.bool false]))
 (.br (f0.toInt == 45) (.br (f0.toInt == 45) (.ret [D.bool true])
 (.ret [D.bool false]))
 (.br (f0.toInt == 215) (.br (f0.toInt == 215) (.ret [D.bool true])
 (.ret [D.bool false]))
 (.br (f0.toInt == 247) (.br (f0.toInt == 247) (.ret [D.bool true])
 (.ret [D.bool false]))
 (.br (f0.toInt == 8968) (.br (f0.toInt == 8968) (.ret [D.bool true])
 (.ret [D.bool false]))
 (.br (f0.toInt == 8970) (.br (f0.toInt == 8970) (.ret [D.bool true])
 (.ret [D.bool false]))
 (.br (f0.toInt == 124) (.br (f0.toInt == 124) (.ret [D.bool true])
 (.ret [D.bool false]))
 (.br (f0.toInt == 42) (.br (f0.toInt == 42) (.ret [D.bool true])
 (.ret [D.bool false]))
 (.br (f0.toInt == 60) (.br (f0.toInt == 60) (.ret [D.bool true])
 (.ret [D.bool false]))
 (.br (f0.toInt == 8804) (.br (f0.toInt == 8804) (.ret [D.bool true])
 (.ret [D.bool false]))
 (.br (f0.toInt == 61) (.br (f0.toInt == 61) (.ret [D.bool true])
 (.ret [D.bool false]))
 (.br (f0.toInt == 8805) (.br (f0.toInt == 8805) (.ret [D.bool true])
 (.ret [D.bool false]))
 (.br (f0.toInt == 62) (.br (f0.toInt == 62) (.ret [D.bool true])
 (.ret [D.bool false]))
 (.br (f0.toInt == 8800) (.br (f0.toInt == 8800) (.ret [D.bool true])
 (.ret [D.bool false]))
 (.br (f0.toInt == 8743) (.br (f0.toInt == 8743) (.ret [D.bool true])
 (.ret [D.bool false]))
 (.br (f0.toInt == 8744) (.ret [D.bool true])
 (.ret [D.bool false])))))))))))))))):=by kernel_rfl
theorem Amb(n:Nat)(a0 b1:D):fA [] n 193 [] [a0,b1] =
 .br ((((a0.fld 1).els).length:Int)==0) (cK 96 [b1.fld 1] fun Y1 =>
 .ret [D.sl ((qA Y1).els),D.int 0])
 (.br ((((b1.fld 1).els).length:Int)==0) (cK 96 [a0.fld 1] fun Y2 =>
 .ret [D.sl ((qA Y2).els),D.int 0])
 (.br ((((a0.fld 1).els).length:Int)!=(((b1.fld 1).els).length:Int)) (.ret [D.sl [],D.int 5])
 (cK 234 [a0.fld 1,b1.fld 1] fun Y3 =>
 .br (!((qA Y3).toBool)) (.ret [D.sl [],D.int 4])
 (cK 96 [a0.fld 1] fun Y4 =>
 .ret [D.sl ((qA Y4).els),D.int 0])))):=by kernel_rfl
theorem Amy(n:Nat)(f0 x1 y2:D):fA [] n 194 [] [f0,x1,y2] =
 cK 83 [D.int ((x1.fld 0).toInt),D.int ((y2.fld 0).toInt)] fun Y1 =>
 .br (((x1.fld 1).toInt)==2) (cK 235 [x1] fun Y2 =>
 cK 235 [y2] fun Y3 =>
 cK 112 [D.int f0.toInt,qA Y2,qA Y3] fun Y4 =>
 .ret [D.agg [D.int ((qA Y1).toInt),D.int 2,D.agg [D.bool false,D.sl [],D.sl []],D.int 0,D.sl [qA Y4]],D.int ((qB Y4).toInt)])
 (.br (((y2.fld 1).toInt)==2) (cK 235 [x1] fun Y5 =>
 cK 235 [y2] fun Y6 =>
 cK 112 [D.int f0.toInt,qA Y5,qA Y6] fun Y7 =>
 .ret [D.agg [D.int ((qA Y1).toInt),D.int 2,D.agg [D.bool false,D.sl [],D.sl []],D.int 0,D.sl [qA Y7]],D.int ((qB Y7).toInt)])
 (.br (((x1.fld 1).toInt)==0) (.br (((y2.fld 1).toInt)==0) (cK 236 [D.int f0.toInt,x1.fld 2,y2.fld 2] fun Y8 =>
 .ret [D.agg [D.int ((qA Y1).toInt),D.int 0,qA Y8,D.int 0,D.sl []],D.int ((qB Y8).toInt)])
 (.br (f0.toInt == 61) (.br (((x1.fld 1).toInt)==((y2.fld 1).toInt)) (cK 237 [D.bool ((((x1.fld 3).toInt)==((y2.fld 3).toInt))==(f0.toInt == 61))] fun Y9 =>
 .ret [D.agg [D.int ((qA Y1).toInt),D.int 0,qA Y9,D.int 0,D.sl []],D.int 0])
 (cK 237 [D.bool (false == (f0.toInt == 61))] fun Y10 =>
 .ret [D.agg [D.int ((qA Y1).toInt),D.int 0,qA Y10,D.int 0,D.sl []],D.int 0]))
 (.br (f0.toInt == 8800) (.br (((x1.fld 1).toInt)==((y2.fld 1).toInt)) (cK 237 [D.bool ((((x1.fld 3).toInt)==((y2.fld 3).toInt))==(f0.toInt == 61))] fun Y11 =>
 .ret [D.agg [D.int ((qA Y1).toInt),D.int 0,qA Y11,D.int 0,D.sl []],D.int 0])
 (cK 237 [D.bool (false == (f0.toInt == 61))] fun Y12 =>
 .ret [D.agg [D.int ((qA Y1).toInt),D.int 0,qA Y12,D.int 0,D.sl []],D.int 0]))
 (.ret [D.agg [D.int ((qA Y1).toInt),D.int 0,D.agg [D.bool false,D.sl [],D.sl []],D.int 0,D.sl []],D.int 3]))))
 (.br (f0.toInt == 61) (.br (((x1.fld 1).toInt)==((y2.fld 1).toInt)) (cK 237 [D.bool ((((x1.fld 3).toInt)==((y2.fld 3).toInt))==(f0.toInt == 61))] fun Y13 =>
 .ret [D.agg [D.int ((qA Y1).toInt),D.int 0,qA Y13,D.int 0,D.sl []],D.int 0])
 (cK 237 [D.bool (false == (f0.toInt == 61))] fun Y14 =>
 .ret [D.agg [D.int ((qA Y1).toInt),D.int 0,qA Y14,D.int 0,D.sl []],D.int 0]))
 (.br (f0.toInt == 8800) (.br (((x1.fld 1).toInt)==((y2.fld 1).toInt)) (cK 237 [D.bool ((((x1.fld 3).toInt)==((y2.fld 3).toInt))==(f0.toInt == 61))] fun Y15 =>
 .ret [D.agg [D.int ((qA Y1).toInt),D.int 0,qA Y15,D.int 0,D.sl []],D.int 0])
 (cK 237 [D.bool (false == (f0.toInt == 61))] fun Y16 =>
 .ret [D.agg [D.int ((qA Y1).toInt),D.int 0,qA Y16,D.int 0,D.sl []],D.int 0]))
 (.ret [D.agg [D.int ((qA Y1).toInt),D.int 0,D.agg [D.bool false,D.sl [],D.sl []],D.int 0,D.sl []],D.int 3]))))):=by kernel_rfl
theorem Amv(n:Nat)(a0 i1:D):fA [] n 195 [] [a0,i1] =
 .br ((((a0.fld 1).els).length:Int)==0) (bK ((0:Int)<0) (.ret [D.agg [D.int 0,D.int 0,D.agg [D.bool false,D.sl [],D.sl []],D.int 0,D.sl []]])
 (bK ((((a0.fld 2).els).length:Int)≤(0:Int)) (.ret [D.agg [D.int 0,D.int 0,D.agg [D.bool false,D.sl [],D.sl []],D.int 0,D.sl []]])
 (kK (0≤0) (kK (0<(((a0.fld 2).els).length:Int)) (.ret [((a0.fld 2).els).getD (Apj 0) D.nil])))))
 (bK (i1.toInt<0) (.ret [D.agg [D.int 0,D.int 0,D.agg [D.bool false,D.sl [],D.sl []],D.int 0,D.sl []]])
 (bK ((((a0.fld 2).els).length:Int)≤i1.toInt) (.ret [D.agg [D.int 0,D.int 0,D.agg [D.bool false,D.sl [],D.sl []],D.int 0,D.sl []]])
 (kK (0≤i1.toInt) (kK (i1.toInt<(((a0.fld 2).els).length:Int)) (.ret [((a0.fld 2).els).getD (Apj i1.toInt) D.nil]))))):=by kernel_rfl
theorem Amh(n:Nat)(f0 nn1:D):fA [] n 221 [] [f0,nn1] =
 .br (f0.toInt == 43) (cK 257 [nn1] fun Y1 =>
 .ret [(qA Y1).fld 2,D.int 0])
 (.br (f0.toInt == 45) (cK 258 [nn1] fun Y2 =>
 .ret [qA Y2,D.int 0])
 (.br (f0.toInt == 215) (cK 259 [nn1] fun Y3 =>
 cK 212 [D.int ((qA Y3).toInt)] fun Y4 =>
 .ret [qA Y4,D.int 0])
 (.br (f0.toInt == 247) (cK 212 [D.int 1] fun Y5 =>
 cK 260 [qA Y5,nn1] fun Y6 =>
 .ret [qA Y6,D.int ((qB Y6).toInt)])
 (.br (f0.toInt == 8968) (cK 261 [nn1] fun Y7 =>
 .ret [qA Y7,D.int 0])
 (.br (f0.toInt == 8970) (cK 262 [nn1] fun Y8 =>
 .ret [qA Y8,D.int 0])
 (.br (f0.toInt == 124) (cK 263 [nn1] fun Y9 =>
 .ret [qA Y9,D.int 0])
 (.br (f0.toInt == 126) (cK 166 [nn1] fun Y10 =>
 .br (!((qB Y10).toBool)) (.ret [D.agg [D.bool false,D.sl [],D.sl []],D.int 3])
 (.br (((qA Y10).toInt)!=0) (.br (((qA Y10).toInt)!=1) (.ret [D.agg [D.bool false,D.sl [],D.sl []],D.int 3])
 (cK 212 [D.int (Api .i64 (1-((qA Y10).toInt)))] fun Y11 =>
 .ret [qA Y11,D.int 0]))
 (cK 212 [D.int (Api .i64 (1-((qA Y10).toInt)))] fun Y12 =>
 .ret [qA Y12,D.int 0])))
 (.br (f0.toInt == 33) (cK 264 [nn1] fun Y13 =>
 .ret [qA Y13,D.int ((qB Y13).toInt)])
 (.ret [D.agg [D.bool false,D.sl [],D.sl []],D.int 8]))))))))):=by kernel_rfl
theorem Ams(n:Nat)(c0:D):fA [] n 222 [] [c0] =
 .br ((((c0.fld 4).els).length:Int)==0) (.ret [D.agg [D.int 0,D.sl [],D.sl []]])
 (kK (0≤0) (kK (0<(((c0.fld 4).els).length:Int)) (.ret [((c0.fld 4).els).getD (Apj 0) D.nil]))):=by kernel_rfl
theorem Amp(n:Nat)(c0:D):fA [] n 235 [] [c0] =
 .br (((c0.fld 1).toInt)==2) (cK 222 [c0] fun Y1 =>
 .ret [qA Y1])
 (cK 178 [D.agg [D.int 0,D.int ((c0.fld 1).toInt),c0.fld 2,D.int ((c0.fld 3).toInt),c0.fld 4]] fun Y2 =>
 .ret [qA Y2]):=by kernel_rfl
theorem Amj(n:Nat)(f0 a1 b2:D):fA [] n 236 [] [f0,a1,b2] =
 .br (f0.toInt == 43) (cK 277 [a1,b2] fun Y1 =>
 .ret [qA Y1,D.int ((qB Y1).toInt)])
 (.br (f0.toInt == 45) (cK 278 [a1,b2] fun Y2 =>
 .ret [qA Y2,D.int ((qB Y2).toInt)])
 (.br (f0.toInt == 215) (cK 279 [a1,b2] fun Y3 =>
 .ret [qA Y3,D.int ((qB Y3).toInt)])
 (.br (f0.toInt == 247) (cK 260 [a1,b2] fun Y4 =>
 .ret [qA Y4,D.int ((qB Y4).toInt)])
 (.br (f0.toInt == 8968) (.br (f0.toInt == 8968) (cK 219 [a1,b2] fun Y5 =>
 .br ((decide (((qA Y5).toInt)<0))==(f0.toInt == 8968)) (cK 257 [b2] fun Y6 =>
 .ret [(qA Y6).fld 2,D.int 0])
 (cK 257 [a1] fun Y7 =>
 .ret [(qA Y7).fld 2,D.int 0]))
 (.br (f0.toInt == 124) (cK 280 [a1,b2] fun Y8 =>
 .ret [qA Y8,D.int ((qB Y8).toInt)])
 (.br (f0.toInt == 42) (cK 166 [b2] fun Y9 =>
 .br (!((qB Y9).toBool)) (.ret [D.agg [D.bool false,D.sl [],D.sl []],D.int 8])
 (cK 281 [a1,D.int ((qA Y9).toInt)] fun Y10 =>
 .ret [qA Y10,D.int ((qB Y10).toInt)]))
 (.br (f0.toInt == 8743) (cK 282 [a1,b2] fun Y11 =>
 .ret [qA Y11,D.int ((qB Y11).toInt)])
 (.br (f0.toInt == 8744) (cK 283 [a1,b2] fun Y12 =>
 .ret [qA Y12,D.int ((qB Y12).toInt)])
 (cK 284 [D.int f0.toInt,a1,b2] fun Y13 =>
 .ret [qA Y13,D.int ((qB Y13).toInt)]))))))
 (.br (f0.toInt == 8970) (cK 219 [a1,b2] fun Y14 =>
 .br ((decide (((qA Y14).toInt)<0))==(f0.toInt == 8968)) (cK 257 [b2] fun Y15 =>
 .ret [(qA Y15).fld 2,D.int 0])
 (cK 257 [a1] fun Y16 =>
 .ret [(qA Y16).fld 2,D.int 0]))
 (.br (f0.toInt == 124) (cK 280 [a1,b2] fun Y17 =>
 .ret [qA Y17,D.int ((qB Y17).toInt)])
 (.br (f0.toInt == 42) (cK 166 [b2] fun Y18 =>
 .br (!((qB Y18).toBool)) (.ret [D.agg [D.bool false,D.sl [],D.sl []],D.int 8])
 (cK 281 [a1,D.int ((qA Y18).toInt)] fun Y19 =>
 .ret [qA Y19,D.int ((qB Y19).toInt)]))
 (.br (f0.toInt == 8743) (cK 282 [a1,b2] fun Y20 =>
 .ret [qA Y20,D.int ((qB Y20).toInt)])
 (.br (f0.toInt == 8744) (cK 283 [a1,b2] fun Y21 =>
 .ret [qA Y21,D.int ((qB Y21).toInt)])
 (cK 284 [D.int f0.toInt,a1,b2] fun Y22 =>
 .ret [qA Y22,D.int ((qB Y22).toInt)])))))))))):=by kernel_rfl
theorem Amw(n:Nat)(holds0:D):fA [] n 237 [] [holds0] =
 .br holds0.toBool (cK 212 [D.int 1] fun Y1 =>
 .ret [qA Y1])
 (cK 212 [D.int 0] fun Y2 =>
 .ret [qA Y2]):=by kernel_rfl
def BL:List (Nat×Orc):=[(9,⟨[(2,none),(6,none),(8,none),(9,none)],[(2,false),(8,true)],[]⟩)]
noncomputable def BK(n m9:Nat)(most6 i9:Int)(t2_0:Bool)(product8:D):Tree :=
 lA (eA BL n 264 [1,1,1,1,1,0,1,0,0]) (Al BL 9) m9 ⟨(.undef:: .undef:: .ptr 2 []::uA 3++(.i .i64 most6:: .undef:: .ptr 8 []:: .i .i64 i9::uA 42)),[(2,.var 64 (.agg 64 [.b t2_0,.mt,.mt]) true),(8,.var 187 (.d 187 product8) true)],[2,8],[],[]⟩
  (Aj 0 (An (jA BL n 264 [1,1,1,1,1,1]) (rA 264 [64] [.cell 2 64,.tmp 3] [64,29])))
theorem Abb(n m9:Nat)(most6 i9:Int)(t2_0:Bool)(product8:D):BK n (m9+1) most6 i9 t2_0 product8 =
 bK (i9≤most6) (cK 246 [D.int i9] fun Y5 =>
 cK 254 [product8,qA Y5] fun Y6 =>
 BK n m9 most6 (Api .i64 (i9+1)) t2_0 (qA Y6))
 (bK (32<(((product8.fld 1).els).length:Int)) (.ret [D.agg [D.bool false,D.sl [],D.sl []],D.int 7])
 (cK 245 [product8] fun Y7 =>
 .ret [qA Y7,D.int 0])):=by kernel_rfl
theorem Amr(n:Nat)(nn0:D):fA BL n 264 [] [nn0] =
 cK 307 [nn0] fun Y1 =>
 .br (!((qB Y1).toBool)) (.ret [D.agg [D.bool false,D.sl [],D.sl []],D.int 3])
 (cK 259 [nn0] fun Y2 =>
 bK (((qA Y2).toInt)<0) (.ret [D.agg [D.bool false,D.sl [],D.sl []],D.int 3])
 (cK 166 [nn0] fun Y3 =>
 .br (!((qB Y3).toBool)) (.ret [D.agg [D.bool false,D.sl [],D.sl []],D.int 7])
 (bK (200<((qA Y3).toInt)) (.ret [D.agg [D.bool false,D.sl [],D.sl []],D.int 7])
 (cK 246 [D.int 1] fun Y4 =>
 BK n n ((qA Y3).toInt) 2 false (qA Y4))))):=by kernel_rfl
theorem Amo(n:Nat)(f0 a1 b2:D):fA [] n 284 [] [f0,a1,b2] =
 cK 219 [a1,b2] fun Y1 =>
 .br (f0.toInt == 60) (cK 237 [D.bool (decide (((qA Y1).toInt)<0))] fun Y2 =>
 .ret [qA Y2,D.int 0])
 (.br (f0.toInt == 8804) (cK 237 [D.bool (decide (((qA Y1).toInt)≤0))] fun Y3 =>
 .ret [qA Y3,D.int 0])
 (.br (f0.toInt == 61) (cK 237 [D.bool (((qA Y1).toInt)==0)] fun Y4 =>
 .ret [qA Y4,D.int 0])
 (.br (f0.toInt == 8805) (cK 237 [D.bool (decide (0≤((qA Y1).toInt)))] fun Y5 =>
 .ret [qA Y5,D.int 0])
 (.br (f0.toInt == 62) (cK 237 [D.bool (decide (0<((qA Y1).toInt)))] fun Y6 =>
 .ret [qA Y6,D.int 0])
 (.br (f0.toInt == 8800) (cK 237 [D.bool (((qA Y1).toInt)!=0)] fun Y7 =>
 .ret [qA Y7,D.int 0])
 (.ret [D.agg [D.bool false,D.sl [],D.sl []],D.int 8])))))):=by kernel_rfl
def S9:List Int:=[43,45,215,247,8968,8970,124,126,33]
def Un:List Int:=[43,45,215,247,8968,8970,124,42,60,8804,61,8805,62,8800,8743,8744]
theorem Amc(f:Int):Sp 158 [.int f] [.bool (decide (f∈S9))]:=by
 refine Af 0 (Amd _ _) ?_
 simp only[Ao,Cp]
 unfold S9
 repeat (refine Ae (fun h=>Ay h (Ac (by simp[h]))) (fun h=> ?_))
 refine Ae (fun h=>Ac (by simp[h])) (fun h=>Ac (by simp[*]))
theorem Ame(f:Int):Sp 192 [.int f] [.bool (decide (f∈Un))]:=by
 refine Af 0 (Amf _ _) ?_
 simp only[Ao,Cp]
 unfold Un
 repeat (refine Ae (fun h=>Ay h (Ac (by simp[h]))) (fun h=> ?_))
 refine Ae (fun h=>Ac (by simp[h])) (fun h=>Ac (by simp[*]))
def G_(b:Bool):Num:=if b then Cy 1 else Cy 0
theorem Kx(b:Bool):Sp 237 [.bool b] [dN (G_ b)]:=by
 refine Af 0 (Amw _ _) ?_
 cases b with
 | true=>exact Bi rfl (Aa (M4 1 (by unfold Bd;omega)) (Ac rfl))
 | false=>exact Eo rfl (Aa (M4 0 (by unfold Bd;omega)) (Ac rfl))
theorem MC(b:Bool) : ∃ z,RNum (G_ b) z 1:=by
 unfold G_
 cases b with
 | true=>exact ⟨_,Q5 Oa⟩
 | false=>exact ⟨_,Q5 Oa⟩
def E5:Nat→Nat
 | 0=>1
 | k+1=>(k+1)*E5 k
def Pn(n:Num):Num×Int:=if n.bot = [1]∧n.neg=false then (match Dz n with | some k=>if k≤200 then Db (E5 k.toNat:Nat) 1 else (.zero,7) | none=>(.zero,7)) else (.zero,3)
def Lq(f:Int)(n:Num):Num×Int :=
 if f=43 then (n,0) else if f=45 then (Ju n,0) else if f=215 then (Cy (E8 (Bt n)),0) else if f=247 then Nw (Cy 1) n
 else if f=8968 then (Ju (Ki (Ju n)),0) else if f=8970 then (Ki n,0) else if f=124 then (⟨false,n.top,n.bot⟩,0)
 else if f=126 then (if Dz n=some 0 then (Cy 1,0) else if Dz n=some 1 then (Cy 0,0) else (.zero,3))
 else if f=33 then Pn n else (.zero,8)
def Ph(f c:Int):Num×Int :=
 if f=60 then (G_ (decide (c<0)),0) else if f=8804 then (G_ (decide (c≤0)),0) else if f=61 then (G_ (decide (c=0)),0)
 else if f=8805 then (G_ (decide (0≤c)),0) else if f=62 then (G_ (decide (0<c)),0) else if f=8800 then (G_ (decide (¬ c=0)),0) else (.zero,8)
def J4(f:Int)(a b:Num):Num×Int :=
 if f=43 then DX a b else if f=45 then LW a b else if f=215 then Qb a b else if f=247 then Nw a b
 else if f=8968 then (if Hz a b<0 then b else a,0) else if f=8970 then (if Hz a b<0 then a else b,0)
 else if f=124 then P_ a b else if f=42 then (match Dz b with | some k=>Qn a k | none=>(.zero,8))
 else if f=8743 then P1 a b else if f=8744 then N4 a b else Ph f (Hz a b)
section
variable {a b:Num} {z y:Int} {d e:Nat}
theorem Anq(h:RNum a z d){k:Int}(hs:Dz a=some k):k=z∧d=1∧Bd z:=by
 unfold Dz Nj at hs
 split at hs
 · rename_i hb
   rw[h.top]at hs
   split at hs
   · rename_i hr
     injection hs with hs
     refine ⟨hs.symm,?_,hr⟩
     have:=h.bot
     rw[IT hb]at this
     omega
   · cases hs
 · cases hs
theorem Ln{p q:Int}(h:(Db p q).2=0) : ∃ x c,RNum (Db p q).1 x c:=by
 by_cases hq:q=0
 · unfold Db at h;rw[if_pos hq]at h;cases h
 · obtain ⟨x,c,h1,_⟩:=(IM hq).1 h
   exact ⟨x,c,h1⟩
theorem AcU(h:RNum a z d):RNum ⟨false,a.top,a.bot⟩ (z.natAbs:Int) d:=by
 refine ⟨?_,h.d0,by simpa using h.cop,by have:=h.lz;unfold Bu at *; simpa using this,h.ld⟩
 rw[h.eq]
 unfold I5
 simp
theorem Am1(h:RNum a z d):RNum (Cy (E8 z)) (E8 z) 1:=Q5 (by unfold E8;split;exact Oa;split <;> exact Oa)
theorem Vk{r:Num×Int}{f:Num→Num×Int}(h:(Lb r f).2=0):r.2=0∧Lb r f=f r.1:=by
 unfold Lb at h ⊢
 split at h
 · rename_i hh;rw[if_pos hh];exact ⟨hh,rfl⟩
 · rename_i hh;exact absurd h hh
theorem Aha(_:RNum a z d)(h':RNum b y e)(h:(P_ a b).2=0) : ∃ x c,RNum (P_ a b).1 x c:=by
 unfold P_ at h ⊢
 split at h
 · rename_i hh;rw[if_pos hh];exact ⟨_,_,h'⟩
 · rename_i hh
   rw[if_neg hh]
   obtain ⟨h1,h2⟩:=Vk h
   rw[h2]at h ⊢
   obtain ⟨h3,h4⟩:=Vk h
   rw[h4]at h ⊢
   exact Ln h
theorem Ajk{n:Int}(h:(Qn a n).2=0) : ∃ x c,RNum (Qn a n).1 x c:=by
 have pd : ∀ p q,(Oh p q).2=0→∃ x c,RNum (Oh p q).1 x c:=fun p q hh=>by
   unfold Oh at hh ⊢
   split at hh
   · rename_i h1
     rw[if_pos h1]
     split at hh
     · rename_i h2;rw[if_pos h2];exact Ln hh
     · rename_i h2;exact absurd hh h2
   · rename_i h1;exact absurd hh h1
 unfold Qn at h ⊢
 split at h
 · rename_i h0
   rw[if_pos h0]
   split at h
   · cases h
   · rename_i h1;rw[if_neg h1];exact pd _ _ h
 · rename_i h0;rw[if_neg h0];exact pd _ _ h
theorem Ag2(h1:RNum a z d)(h2:RNum b y e)(h:(P1 a b).2=0) : ∃ x c,RNum (P1 a b).1 x c:=by
 unfold P1 at h ⊢
 obtain ⟨h3,h4⟩:=Vk h
 rw[h4]at h ⊢
 obtain ⟨x,hx⟩:=GQ h1 h2 h3
 split at h
 · rename_i hh;rw[if_pos hh];exact ⟨_,_,hx⟩
 · rename_i hh
   rw[if_neg hh]
   obtain ⟨h5,h6⟩:=Vk h
   rw[h6]at h ⊢
   exact Ln h
theorem Afa(h:(Pn a).2=0) : ∃ x c,RNum (Pn a).1 x c:=by
 unfold Pn at h ⊢
 split at h
 · rename_i hh
   rw[if_pos hh]
   split at h
   · rename_i k hk
     split at h
     · rename_i hl;simp only[hk,if_pos hl];exact Ln h
     · cases h
   · cases h
 · cases h
theorem Ais(f:Int)(h:RNum a z d)(h0:(Lq f a).2=0) : ∃ x c,RNum (Lq f a).1 x c:=by
 unfold Lq at h0 ⊢
 by_cases h1:f=43
 · simp only[if_pos h1];exact ⟨_,_,h⟩
 simp only[if_neg h1]at h0 ⊢
 by_cases h1:f=45
 · simp only[if_pos h1];exact ⟨_,_,Qf h⟩
 simp only[if_neg h1]at h0 ⊢
 by_cases h1:f=215
 · simp only[if_pos h1];rw[h.top];exact ⟨_,_,Am1 h⟩
 simp only[if_neg h1]at h0 ⊢
 by_cases h1:f=247
 · simp only[if_pos h1]at h0 ⊢; exact Ln h0
 simp only[if_neg h1]at h0 ⊢
 by_cases h1:f=8968
 · simp only[if_pos h1];exact ⟨_,_,Qf (Sf (Qf h))⟩
 simp only[if_neg h1]at h0 ⊢
 by_cases h1:f=8970
 · simp only[if_pos h1];exact ⟨_,_,Sf h⟩
 simp only[if_neg h1]at h0 ⊢
 by_cases h1:f=124
 · simp only[if_pos h1];exact ⟨_,_,AcU h⟩
 simp only[if_neg h1]at h0 ⊢
 by_cases h1:f=126
 · simp only[if_pos h1]at h0 ⊢
   split
   · exact ⟨_,_,Q5 Oa⟩
   · rename_i h2
     rw[if_neg h2]at h0
     split
     · exact ⟨_,_,Q5 Oa⟩
     · rename_i h3;rw[if_neg h3]at h0;cases h0
 simp only[if_neg h1]at h0 ⊢
 by_cases h1:f=33
 · simp only[if_pos h1]at h0 ⊢; exact Afa h0
 simp only[if_neg h1]at h0
 cases h0
theorem AdR{f c:Int}(h:(Ph f c).2=0) : ∃ x e,RNum (Ph f c).1 x e:=by
 unfold Ph at h ⊢
 repeat (split;· exact (MC _).elim fun z hz=>⟨z,1,hz⟩)
 simp_all
theorem Aop(f:Int)(h:RNum a z d)(h':RNum b y e)(h0:(J4 f a b).2=0) : ∃ x c,RNum (J4 f a b).1 x c:=by
 unfold J4 at h0 ⊢
 by_cases h1:f=43
 · simp only[if_pos h1]at h0 ⊢; exact Ln h0
 simp only[if_neg h1]at h0 ⊢
 by_cases h1:f=45
 · simp only[if_pos h1]at h0 ⊢; exact Ln h0
 simp only[if_neg h1]at h0 ⊢
 by_cases h1:f=215
 · simp only[if_pos h1]at h0 ⊢; exact Ln h0
 simp only[if_neg h1]at h0 ⊢
 by_cases h1:f=247
 · simp only[if_pos h1]at h0 ⊢; exact Ln h0
 simp only[if_neg h1]at h0 ⊢
 by_cases h1:f=8968
 · simp only[if_pos h1];split <;> exact ⟨_,_,by assumption⟩
 simp only[if_neg h1]at h0 ⊢
 by_cases h1:f=8970
 · simp only[if_pos h1];split <;> exact ⟨_,_,by assumption⟩
 simp only[if_neg h1]at h0 ⊢
 by_cases h1:f=124
 · simp only[if_pos h1]at h0 ⊢; exact Aha h h' h0
 simp only[if_neg h1]at h0 ⊢
 by_cases h1:f=42
 · simp only[if_pos h1]at h0 ⊢
   split
   · rename_i k hk;simp only[hk]at h0;exact Ajk h0
   · rename_i hk;simp only[hk]at h0;cases h0
 simp only[if_neg h1]at h0 ⊢
 by_cases h1:f=8743
 · simp only[if_pos h1]at h0 ⊢; exact Ag2 h h' h0
 simp only[if_neg h1]at h0 ⊢
 by_cases h1:f=8744
 · simp only[if_pos h1]at h0 ⊢
   obtain ⟨x,hx⟩:=GQ h h' h0
   exact ⟨_,_,hx⟩
 simp only[if_neg h1]at h0 ⊢
 exact AdR h0
theorem TJ(k:Nat)(h:k<B):Bu (E5 k:Nat)≤k+1:=by
 induction k with
 | zero=>show (lb (Int.natAbs (E5 0:Nat))).length≤1;simp[E5,N9]
 | succ k ih =>
  have h1:=ih (by omega)
  rw[E5,Int.natCast_mul]
  have h2:=Jr ((k+1:Nat):Int) (E5 k:Nat)
  have h3:Bu ((k+1:Nat):Int)≤1:=Sw (by rw[Int.natAbs_natCast,Nat.pow_one];exact h)
  omega
end
theorem AgX(p:Int):Db p 1=if 32<Bu p then (.zero,7) else (Cy p,0):=by
 obtain ⟨z,d,h0,_,h2,_,h4,h5⟩:=Xx p 1 (by decide)
 have hd:d=1:=by
  have:Int.natAbs 1=1:=rfl
  omega
 subst hd
 have hz:z=p:=by simpa using h2
 subst hz
 rw[h5,Pt]
 by_cases h:32<Bu z
 · rw[if_pos (.inl h),if_pos h]
 · rw[if_neg (by rw[N9];simp;omega),if_neg h]
section
variable {a b:Num} {z y:Int} {d e:Nat}
theorem AjL(h:RNum a z d) : ∃ w:Wh,Sp 307 [dN a] [dW w,.bool (decide (a.bot = [1]))]:=by
 by_cases hb:a.bot = [1]
 · refine ⟨wz (Bt a),Af 0 (YA _ _) (Aa (Lr a.bot) ?_)⟩
   rw[decide_eq_true hb]
   exact Eo rfl (Aa (F8 a) (Aa (DH ⟨a.neg,a.top⟩ (by have:=h.len;show a.top.length≤_;omega)) (Ac rfl)))
 · refine ⟨⟨false,[]⟩,Af 0 (YA _ _) (Aa (Lr a.bot) ?_)⟩
   rw[decide_eq_false hb]
   exact Bi rfl (Ac rfl)
theorem Abl{x:Int} : E8 x<0↔x<0:=by unfold E8;by_cases h1:x<0 <;> by_cases h2:x=0 <;> simp[h1,h2]
theorem AeZ(k:Nat)(hk:0<k):((E5 (k-1):Nat):Int)*(k:Int)=((E5 k:Nat):Int):=by
 obtain ⟨j,rfl⟩ : ∃ j,k=j+1:=⟨k-1,by omega⟩
 rw[Nat.add_sub_cancel,E5,Int.natCast_mul,Int.mul_comm]
theorem Amq(h:RNum a z d):Sp 264 [dN a] (Dy (Pn a)):=by
 obtain ⟨w,hi⟩:=AjL h
 obtain ⟨l1,l2⟩:=h.len
 refine Af 300 (Amr _ _) (Aa hi ?_)
 simp only[C5,Bc,Ft,Jm]
 unfold Pn
 refine Ae (fun h1=>Ac ?_) (fun h1=>Aa (Zq h.sm) ?_)
 · rw[if_neg (fun hh=>h1 hh.1)];rfl
 have hb:=Apw.1 h1
 simp only[Ag,Ao]
 refine Ae (fun h2=>Ac ?_) (fun h2=>Aa (Zr a (by omega)) ?_)
 · have:a.neg=true:=by rw[h.sgn];exact decide_eq_true (by rw[← h.top];exact Abl.1 h2)
   rw[if_neg (fun hh=>by rw[this]at hh;cases hh.2)];rfl
 have hn:a.neg=false:=by rw[h.sgn];exact decide_eq_false (fun hh=>h2 (Abl.2 (by rw[h.top];exact hh)))
 rw[if_pos ⟨hb,hn⟩]
 cases hs:Dz a with
 | none=>exact Bi rfl (Ac rfl)
 | some k =>
   obtain ⟨rfl,rfl,hr⟩:=Anq h hs
   have hk0:0≤k:=by have:=h.sgn;rw[hn]at this;have:=of_decide_eq_false this.symm;omega
   refine Eo rfl ?_
   simp only[Mw,Ag,Ao]
   refine Ae (fun h3=>Ac ?_) (fun h3=>Aa (Uu 1 (by unfold Bd;omega)) ?_)
   · rw[if_neg (by omega)];rfl
   rw[if_pos (by omega)]
   obtain ⟨K,rfl⟩:=Int.eq_ofNat_of_zero_le hk0
   have hK:K≤200:=by omega
   simp only[Ag,Apr]
   have key:=Di (max (K+1) 2) (fun m k (_:Unit)=>BK 300 m (K:Int) (k:Int) false (dW (wz ((E5 (k-1):Nat):Int)))) (fun _ _=>Dy (Db (E5 K:Nat) 1)) (fun k _=>2≤k)
    (fun m _ _=>by
     have hf:E5 (max (K+1) 2-1)=E5 K:=by
       rcases (by omega:K=0∨1≤K) with h0 | h0
       · subst h0;rfl
       · rw[show max (K+1) 2-1=K by omega]
     have hl:=TJ K (by rw[A0];omega)
     simp only[Abb,hf,Fo,B5,Apm,Jm]
     rw[AgX]
     refine Ar (Ae (fun h4=>Ac ?_) (fun h4=> ?_))
     · rw[if_pos (by have:=Ga ((E5 K:Nat):Int);omega)];rfl
     · have hw:=Ga ((E5 K:Nat):Int)
       have wh:=Zs (wz ((E5 K:Nat):Int)) (by omega)
       rw[Dg]at wh
       have e1:Nl ((E5 K:Nat):Int)=Cy ((E5 K:Nat):Int):=by unfold Nl;rw[if_neg (by show ¬ 32<Bu _;omega)]
       rw[e1]at wh
       rw[if_neg (by omega)]
       exact Aa wh (Ac rfl))
    (fun m k _ hkK hk2 ih=>by
     have hkK':k≤K:=by omega
     simp only[Abb]
     rw[Ey (by omega)]
     have l1:=TJ (k-1) (by rw[A0];omega)
     have l2:Bu (k:Int)≤1:=Sw (by rw[Int.natAbs_natCast,Nat.pow_one,A0];omega)
     have ml:=Ji (wz ((E5 (k-1):Nat):Int)) (wz (k:Int)) (by rw[Ga];omega) (by rw[Ga];omega)
     rw[Dg,Dg,AeZ k (by omega)]at ml
     have:=ih () (by omega)
     rw[Nat.add_sub_cancel]at this
     exact Ad (Aa (Uu (k:Int) (by unfold Bd;omega)) (Aa ml this)))
    300 2 () (by omega) (by omega) (by omega)
   exact key
theorem AfJ(x:Int):Bd (E8 x):=by unfold E8 Bd;split;omega;split <;> omega
theorem Amg(f:Int)(h:RNum a z d):Sp 221 [.int f,dN a] (Dy (Lq f a)):=by
 obtain ⟨l1,l2⟩:=h.len
 have o1:=Q5 (z:=1) Oa
 refine Af 0 (Amh _ _ _) ?_
 simp only[Ao,Cp,Jm]
 unfold Lq
 refine Ae (fun h1=>Aa (Rs a (by omega) (by omega)) (Ac ?_)) (fun h1=> ?_)
 · rw[if_pos h1];simp[Dy]
 rw[if_neg h1]
 refine Ae (fun h1=>Aa (Zp h) (Ac ?_)) (fun h1=> ?_)
 · rw[if_pos h1];rfl
 rw[if_neg h1]
 refine Ae (fun h1=>Aa (Zq h.sm) (Aa (M4 _ (AfJ _)) (Ac ?_))) (fun h1=> ?_)
 · rw[if_pos h1];rfl
 rw[if_neg h1]
 refine Ae (fun h1=>Aa (M4 1 (by unfold Bd;omega)) (Aa (Zn o1.sm h.sm) (Ac ?_))) (fun h1=> ?_)
 · rw[if_pos h1];rfl
 rw[if_neg h1]
 refine Ae (fun h1=>Aa (AjF h) (Ac ?_)) (fun h1=> ?_)
 · rw[if_pos h1];rfl
 rw[if_neg h1]
 refine Ae (fun h1=>Aa (KA h) (Ac ?_)) (fun h1=> ?_)
 · rw[if_pos h1];rfl
 rw[if_neg h1]
 refine Ae (fun h1=>Aa (AjC h) (Ac ?_)) (fun h1=> ?_)
 · rw[if_pos h1];rfl
 rw[if_neg h1]
 refine Ae (fun h1=>Aa (Zr a (by omega)) ?_) (fun h1=> ?_)
 · rw[if_pos h1]
   cases hs:Dz a with
   | none=>exact Bi rfl (Ac rfl)
   | some k =>
    refine Eo rfl ?_
    simp only[Mw,Ag,Ao,Do,Aps]
    refine Ae (fun h2=>Ae (fun h3=>Ac ?_) (fun h3=> ?_)) (fun h2=> ?_)
    · rw[if_neg h2,if_neg h3];rfl
    · obtain rfl:=Apw.1 h3
      exact Aa (M4 _ (by unfold Bd;decide)) (Ac rfl)
    · obtain rfl:=Apw.1 h2
      exact Aa (M4 _ (by unfold Bd;decide)) (Ac rfl)
 rw[if_neg h1]
 refine Ae (fun h1=>Aa (Amq h) (Ac ?_)) (fun h1=>Ac ?_)
 · rw[if_pos h1];rfl
 · rw[if_neg h1];rfl
theorem Amn(f:Int)(h:RNum a z d)(h':RNum b y e):Sp 284 [.int f,dN a,dN b] (Dy (Ph f (Hz a b))):=by
 refine Af 0 (Amo _ _ _ _) (Aa (Zm h.sm h'.sm) ?_)
 simp only[Ag,Ao,Cp,Do,Jm]
 unfold Ph
 refine Ae (fun h1=>Aa (Kx _) (Ac ?_)) (fun h1=> ?_)
 · rw[if_pos h1];rfl
 rw[if_neg h1]
 refine Ae (fun h1=>Aa (Kx _) (Ac ?_)) (fun h1=> ?_)
 · rw[if_pos h1];rfl
 rw[if_neg h1]
 refine Ae (fun h1=>Aa (Kx _) (Ac ?_)) (fun h1=> ?_)
 · rw[if_pos h1];rfl
 rw[if_neg h1]
 refine Ae (fun h1=>Aa (Kx _) (Ac ?_)) (fun h1=> ?_)
 · rw[if_pos h1];rfl
 rw[if_neg h1]
 refine Ae (fun h1=>Aa (Kx _) (Ac ?_)) (fun h1=> ?_)
 · rw[if_pos h1];rfl
 rw[if_neg h1]
 refine Ae (fun h1=>Aa (Kx _) (Ac ?_)) (fun h1=>Ac ?_)
 · rw[if_pos h1];rfl
 · rw[if_neg h1];rfl
def AcO(f:Int)(b:Num):Prop:=f=42→∀ k,Dz b=some k→ -300≤k∧k≤300
theorem Ami(f:Int)(h:RNum a z d)(h':RNum b y e)(hp:AcO f b):Sp 236 [.int f,dN a,dN b] (Dy (J4 f a b)):=by
 obtain ⟨l1,l2⟩:=h.len
 obtain ⟨l3,l4⟩:=h'.len
 refine Af 0 (Amj _ _ _ _) ?_
 simp only[Ao,Cp,Jm]
 unfold J4
 refine Ae (fun h1=>Aa (XY h.sm h'.sm) (Ac ?_)) (fun h1=> ?_)
 · rw[if_pos h1];rfl
 rw[if_neg h1]
 refine Ae (fun h1=>Aa (YC h.sm h') (Ac ?_)) (fun h1=> ?_)
 · rw[if_pos h1];rfl
 rw[if_neg h1]
 refine Ae (fun h1=>Aa (KB h.sm h'.sm) (Ac ?_)) (fun h1=> ?_)
 · rw[if_pos h1];rfl
 rw[if_neg h1]
 refine Ae (fun h1=>Aa (Zn h.sm h'.sm) (Ac ?_)) (fun h1=> ?_)
 · rw[if_pos h1];rfl
 rw[if_neg h1]
 refine Ae (fun h1=>Ay h1 (Aa (Zm h.sm h'.sm) ?_)) (fun h1=> ?_)
 · rw[if_pos h1,decide_eq_true h1]
   simp only[Ag,Ao]
   by_cases hc:Hz a b<0
   · rw[if_pos hc]
     exact Bi (beq_iff_eq.2 (decide_eq_true hc)) (Aa (Rs b (by omega) (by omega)) (Ac (by simp[Dy])))
   · rw[if_neg hc]
     exact Eo (beq_eq_false_iff_ne.2 (fun hh=>hc (of_decide_eq_true hh))) (Aa (Rs a (by omega) (by omega)) (Ac (by simp[Dy])))
 rw[if_neg h1,decide_eq_false h1]
 refine Ae (fun h1=>Aa (Zm h.sm h'.sm) ?_) (fun h1=> ?_)
 · rw[if_pos h1]
   simp only[Ag,Ao]
   by_cases hc:Hz a b<0
   · rw[if_pos hc]
     exact Eo (beq_eq_false_iff_ne.2 (fun hh=>of_decide_eq_false hh hc)) (Aa (Rs a (by omega) (by omega)) (Ac (by simp[Dy])))
   · rw[if_neg hc]
     exact Bi (beq_iff_eq.2 (decide_eq_false hc)) (Aa (Rs b (by omega) (by omega)) (Ac (by simp[Dy])))
 rw[if_neg h1]
 refine Ae (fun h1=>Aa (AjP h h') (Ac ?_)) (fun h1=> ?_)
 · rw[if_pos h1];rfl
 rw[if_neg h1]
 refine Ae (fun h1=>Aa (Zr b (by omega)) ?_) (fun h1=> ?_)
 · rw[if_pos h1]
   cases hs:Dz b with
   | none=>exact Bi rfl (Ac rfl)
   | some k =>
     have:=hp h1 k hs
     exact Eo rfl (Aa (AjU h k (by omega)) (Ac rfl))
 rw[if_neg h1]
 refine Ae (fun h1=>Aa (AjM h h') (Ac ?_)) (fun h1=> ?_)
 · rw[if_pos h1];rfl
 rw[if_neg h1]
 refine Ae (fun h1=>Aa (XZ h h') (Ac ?_)) (fun h1=>Aa (Amn f h h') (Ac ?_))
 · rw[if_pos h1];rfl
 · rw[if_neg h1];rfl
end
theorem Na{d:Nat}{c:Cell}(h:Bo d c=true):(c.kind=0∧c.c=0∧c.inn = []∧Ev c.n=true)∨(c.kind=1∧c.n = .zero∧c.inn = [])∨(c.kind=2∧c.n = .zero∧c.c=0∧∃ x e,d=e+1∧c.inn = [x]∧Cq x=false∧Am e x=true):=by
 have h2:=Q3 h
 have key : ∀ k r,C8 k r c=true→(c.kind=0∧c.c=0∧c.inn = []∧Ev c.n=true)∨(c.kind=1∧c.n = .zero∧c.inn = [])∨(c.kind=2∧c.n = .zero∧c.c=0∧∃ x,x∈c.inn):=by
   intro k r hh
   unfold C8 at hh
   split at hh
   · rename_i hk
     simp only[Apt,decide_eq_true_eq]at hh
     exact .inl ⟨hk,hh.1.1,Aqb.1 hh.1.2,hh.2⟩
   split at hh
   · rename_i hk
     simp only[Apt,decide_eq_true_eq]at hh
     exact .inr (.inl ⟨hk,hh.1.1,Aqb.1 hh.1.2⟩)
   · simp only[Apt,decide_eq_true_eq]at hh
     obtain ⟨h3,h4,h5⟩:=hh
     refine .inr (.inr ⟨h3.1,h3.2.1,h3.2.2,?_⟩)
     unfold Jl at h5
     split at h5
     · rename_i y hy;exact ⟨y,by rw[hy];simp⟩
     · cases h5
 have:(c.kind=0∧c.c=0∧c.inn = []∧Ev c.n=true)∨(c.kind=1∧c.n = .zero∧c.inn = [])∨(c.kind=2∧c.n = .zero∧c.c=0∧∃ x,x∈c.inn):=by
   cases d with
   | zero=>exact key _ _ h
   | succ d=>exact key _ _ h
 rcases this with h3 | h3 | ⟨h3,h4,h5,x,hx⟩
 · exact .inl h3
 · exact .inr (.inl h3)
 · obtain ⟨e,he,hs,hr,hi,_⟩:=h2 x hx
   exact .inr (.inr ⟨h3,h4,h5,x,e,he,hi,hs,hr⟩)
theorem Q4{d:Nat}{l:At}{n:Num}(h:Ev n=true):Bo d ⟨l,0,n,0,[]⟩=true:=by
 have key : ∀ k r,C8 k r ⟨l,0,n,0,[]⟩=true:=fun k r=>by unfold C8;simp[h]
 cases d with
 | zero=>exact key _ _
 | succ d=>exact key _ _
theorem KU{d:Nat}{l:At}{x:Arr}(h1:Cq x=false)(h2:Am d x=true):Bo (d+1) ⟨l,2,.zero,0,[x]⟩=true:=by
 show C8 true (Am d) _=true
 unfold C8 Jl
 simp[h1,h2]
mutual
def Df(f:Int):Arr→Arr×Int
 | .mk s sh cs=>if f∈S9 then (if (Cz f cs).2=0 then (.mk s sh (Cz f cs).1,0) else (.none,(Cz f cs).2)) else (.none,8)
def Cz(f:Int):List (CellF Arr)→List (CellF Arr)×Int
 | []=>([],0)
 | c::cs=>if (E_ f c).2=0 then (if (Cz f cs).2=0 then ((E_ f c).1::(Cz f cs).1,0) else ([],(Cz f cs).2)) else ([],(E_ f c).2)
def E_(f:Int):CellF Arr→CellF Arr×Int
 | ⟨l,k,n,c,inn⟩=>if k=0 then (⟨l,0,(Lq f n).1,0,[]⟩,(Lq f n).2) else if k=2 then (⟨l,2,.zero,0,[(Jg f inn).1]⟩,(Jg f inn).2) else (Cell.none,3)
def Jg(f:Int):List Arr→Arr×Int
 | []=>(.none,0)
 | a::_=>Df f a
end
theorem Rg(f:Int)(a:Arr):Df f a=if f∈S9 then (if (Cz f a.cells).2=0 then (.mk a.s a.shape (Cz f a.cells).1,0) else (.none,(Cz f a.cells).2)) else (.none,8):=by cases a;rw[Df];rfl
theorem Uo(f:Int)(c:Cell):E_ f c=if c.kind=0 then (⟨c.l,0,(Lq f c.n).1,0,[]⟩,(Lq f c.n).2) else if c.kind=2 then (⟨c.l,2,.zero,0,[(Jg f c.inn).1]⟩,(Jg f c.inn).2) else (Cell.none,3):=by cases c;rw[E_]
def Lp(s:At)(sh:List Int)(pre:List Cell)(r:List Cell×Int):List D:=if r.2=0 then [dA (.mk s sh (pre++r.1)),.int 0] else [dA .none,.int r.2]
theorem Aiq{s:At}{sh:List Int}{pre:List Cell}{f:Int}{c:Cell}{cs:List Cell}(h:(E_ f c).2=0):Lp s sh pre (Cz f (c::cs))=Lp s sh (pre++[(E_ f c).1]) (Cz f cs):=by
 rw[Cz,if_pos h]
 unfold Lp
 by_cases h2:(Cz f cs).2=0
 · rw[if_pos h2];simp[h2]
 · rw[if_neg h2];simp[h2]
theorem Air{s:At}{sh:List Int}{pre:List Cell}{f:Int}{c:Cell}{cs:List Cell}(h : ¬ (E_ f c).2=0):Lp s sh pre (Cz f (c::cs)) = [dA .none,.int (E_ f c).2]:=by
 rw[Cz,if_neg h]
 unfold Lp
 rw[if_neg h]
theorem Ao2(f:Int)(a:Arr)(hf:f∈S9) : [dA (Df f a).1,D.int (Df f a).2]=Lp a.s a.shape [] (Cz f a.cells):=by
 rw[Rg,if_pos hf]
 unfold Lp
 split <;> rfl
theorem Abc(c:Cell)(x:Arr)(h:c.inn = [x]):Sp 222 [dC c] [dA x]:=by
 refine Af 0 (Ams _ _) ?_
 simp only[Ah,h,Ap9,List.map_nil,App,Ap1]
 exact Ar (Ad (Ad (Ac rfl)))
theorem Amt(f:Int)(d:Nat)(c:Cell)(h:Bo d c=true)(ih : ∀ e x,d=e+1→Am e x=true→Sp 70 [.int f,dA x] [dA (Df f x).1,.int (Df f x).2]):Sp 159 [.int f,dC c] [dC (E_ f c).1,.int (E_ f c).2]:=by
 refine Af 0 (Amu _ _ _) ?_
 simp only[Ah]
 rw[Uo]
 rcases Na h with ⟨h1,h2,h3,h4⟩ | ⟨h1,h2,h3⟩ | ⟨h1,h2,h3,x,e,h4,h5,h6,h7⟩
 · obtain ⟨z,q,hr⟩:=Lv h4
   refine Ay h1 (Aa (Amg f hr) (Ac ?_))
   rw[if_pos h1,D_];rfl
 · refine Ar (Ar (Ac ?_))
   rw[if_neg (by omega),if_neg (by omega),D_];rfl
 · refine Ar (Ay h1 (Aa (Abc c x h5) (Aa (ih e x h4 h7) (Ac ?_))))
   rw[if_neg (by omega),if_pos h1,h5,Jg,D_];rfl
theorem Amk(f:Int) : ∀ (d:Nat) (a:Arr),Am d a=true→Sp 70 [.int f,dA a] [dA (Df f a).1,.int (Df f a).2]:=by
 suffices key : ∀ (d:Nat) (a:Arr),(∀ e x,d=e+1→Am e x=true→Sp 70 [.int f,dA x] [dA (Df f x).1,.int (Df f x).2])→Am d a=true→Sp 70 [.int f,dA a] [dA (Df f a).1,.int (Df f a).2] by
  intro d
  induction d with
  | zero=>intro a;exact key 0 a (fun e x he=>by omega)
  | succ d ihd=>intro a;exact key (d+1) a (fun e x he=>by
      have:e=d:=by omega
      subst this;exact ihd x)
 intro d a ih hr
 have hs:=Cd hr
 have hl:=hs.2.1
 have hcs:=(Ck hr).2
 refine Af (a.cells.length+1) (Aml _ _ _) (Aa (Amc f) ?_)
 simp only[Ah,C9,H2]
 refine Ae (fun h=>Ac ?_) (fun h=>Aa (Kc a.shape hs.1) ?_)
 · rw[Rg,if_neg h]
 rw[Ao2 f a (Apw.1 h)]
 simp only[Ah]
 refine Ad (Ad (Ay (by simp only[Ak];omega) ?_))
 have key:=B3 a.cells (fun m k (pre:List Cell)=>BH (a.cells.length+1) m f (.sl (a.cells.map dC)) (a.cells.length:Int) (k:Int) 0 (a.s.toNat:Int) (a.shape.map .int) (pre.map dC++Apl (a.cells.length-k) (dC Cell.none))) (fun rest pre=>Lp a.s a.shape pre (Cz f rest)) (fun rest pre=>pre.length+rest.length=a.cells.length)
  (fun m k pre hk hI=>by
   simp only[AaW,Ah]
   refine Ar (Ac ?_)
   rw[hk,Nat.sub_self,List.replicate_zero,Ap6,Cz]
   unfold Lp
   rw[if_pos rfl,D4]
   simp[dI])
  (fun m k pre c rest hdr hI ih'=>by
   obtain ⟨h1,h2,h3⟩:=By hdr
   have hpk:pre.length=k:=by
     have:=congrArg List.length hdr
     simp only[Apy,App]at this hI
     omega
   have hlen:(pre.map dC++Apl (a.cells.length-k) (dC Cell.none)).length=a.cells.length:=by simp;omega
   simp only[AaW,Ah,Au h2,hlen,Bh k]
   refine Ad (Ad (Ad (Aa (Amt f d c (hcs c (Apq h2)) ih) ?_)))
   simp only[Ag,C5,Ao,Do,C9]
   refine Ae (fun he=>Ac ?_) (fun he=>Ad (Ad ?_))
   · rw[Air he]
   · have he':=Apw.1 he
     rw[Aiq he',show a.cells.length-k=(a.cells.length-(k+1))+1 by omega,← hpk,Nd,hpk]
     exact ih' (pre++[(E_ f c).1]) (by simp only[Apu,App,Ap1]at hI ⊢; omega))
  (a.cells.length+1) 0 [] (by omega) (by omega) (by simp)
 simpa using key
theorem MK{f:Int} : ∀ {cs:List Cell},(Cz f cs).2=0→(Cz f cs).1.length=cs.length
 | [],_=>by simp[Cz]
 | c::cs,h=>by
  rw[Cz]at h ⊢
  split at h
  · rename_i h1
    rw[if_pos h1]
    split at h
    · rename_i h2;rw[if_pos h2];simp[MK h2]
    · rename_i h2;exact absurd h h2
  · rename_i h1;exact absurd h h1
theorem ML{f:Int} : ∀ {cs:List Cell},(Cz f cs).2=0→∀ y∈(Cz f cs).1,∃ c∈cs,(E_ f c).2=0∧y=(E_ f c).1
 | [],_,y,hy=>by rw[Cz]at hy;cases hy
 | c::cs,h,y,hy=>by
  rw[Cz]at h hy
  split at h
  · rename_i h1
    rw[if_pos h1]at hy
    split at h
    · rename_i h2
      rw[if_pos h2]at hy
      rcases Ap4.1 hy with rfl | hy
      · exact ⟨c,by simp,h1,rfl⟩
      · obtain ⟨c',g1,g2⟩:=ML h2 y hy
        exact ⟨c',by simp[g1],g2⟩
    · rename_i h2;exact absurd h h2
  · rename_i h1;exact absurd h h1
theorem BV(a:Arr):Cq a=true↔a.shape = []∧∃ c,a.cells = [c]∧¬ c.kind=2:=by
 unfold Cq
 split
 · rename_i c h1 h2
   rw[decide_eq_true_eq]
   exact ⟨fun h=>⟨h1,c,h2,h⟩,fun ⟨_,c',h3,h4⟩=>by rw[h2]at h3;simp at h3;subst h3;exact h4⟩
 · rename_i hne
   exact ⟨fun h=>(by cases h),fun ⟨h1,c,h2,_⟩=>absurd h2 (hne c h1)⟩
theorem Ao3(f:Int) : ∀ (d:Nat) (a:Arr),Am d a=true→(Df f a).2=0→Am d (Df f a).1=true∧(Cq a=false→Cq (Df f a).1=false):=by
 suffices key : ∀ (d:Nat) (a:Arr),(∀ e x,d=e+1→Am e x=true→(Df f x).2=0→Am e (Df f x).1=true∧(Cq x=false→Cq (Df f x).1=false))→Am d a=true→(Df f a).2=0→Am d (Df f a).1=true∧(Cq a=false→Cq (Df f a).1=false) by
   intro d
   induction d with
   | zero=>intro a;exact key 0 a (fun e x he=>by omega)
   | succ d ihd=>intro a;exact key (d+1) a (fun e x he=>by
             have:e=d:=by omega
             subst this;exact ihd x)
 intro d a ih hr h0
 obtain ⟨hc,hcs⟩:=Ck hr
 rw[Rg]at h0 ⊢
 split at h0
 · rename_i h1
   rw[if_pos h1]
   split at h0
   · rename_i h2
     rw[if_pos h2]
     refine ⟨G8 (by simp only[Arr.shape_mk,Arr.cells_mk,MK h2];exact hc) (fun y hy=> ?_),fun hns=> ?_⟩
     · obtain ⟨c,g1,g2,rfl⟩:=ML h2 y hy
       rw[Uo]at g2 ⊢
       rcases Na (hcs c g1) with ⟨k1,k2,k3,k4⟩ | ⟨k1,k2,k3⟩ | ⟨k1,k2,k3,x,e,k4,k5,k6,k7⟩
       · rw[if_pos k1]at g2 ⊢
         obtain ⟨z,q,hrn⟩:=Lv k4
         obtain ⟨z',q',hrn'⟩:=Ais f hrn g2
         exact Q4 hrn'.right
       · rw[if_neg (by omega),if_neg (by omega)]at g2;cases g2
       · rw[if_neg (by omega),if_pos k1,k5,Jg]at g2 ⊢
         obtain ⟨r1,r2⟩:=ih e x k4 k7 g2
         subst k4
         exact KU (r2 k6) r1
     · cases hq:Cq (Arr.mk a.s a.shape (Cz f a.cells).1) with
       | false=>rfl
       | true =>
         exfalso
         obtain ⟨q1,c',q2,q3⟩:=(BV _).1 hq
         simp only[Arr.shape_mk,Arr.cells_mk]at q1 q2
         obtain ⟨c,hcc⟩:=Mp (l:=a.cells) (by rw[← MK h2,q2];rfl)
         obtain ⟨c2,m1,m2,m3⟩:=ML h2 c' (by rw[q2];simp)
         rw[hcc]at m1
         have:c2=c:=by simpa using m1
         subst this
         have hk:c2.kind=2:=by
          rcases Decidable.em (c2.kind=2) with hh | hh
          · exact hh
          · have:=(BV a).2 ⟨q1,c2,hcc,hh⟩
            rw[hns]at this;cases this
         apply q3
         rw[m3,Uo,if_neg (by omega),if_pos hk]
   · rename_i h2;exact absurd h0 h2
 · cases h0
def D9(a b:Arr):List Int×Int:=if a.shape = [] then (b.shape,0) else if b.shape = [] then (a.shape,0) else if a.shape.length≠b.shape.length then ([],5) else if a.shape=b.shape then (a.shape,0) else ([],4)
theorem Ama{d e:Nat}(a b:Arr)(ha:Sml d a)(hb:Sml e b):Sp 193 [dA a,dA b] [dI (D9 a b).1,.int (D9 a b).2]:=by
 obtain ⟨d,rfl⟩:=ha.succ
 obtain ⟨e,rfl⟩:=hb.succ
 have h1:=ha.1
 have h2:=hb.1
 refine Af 0 (Amb _ _ _) ?_
 simp only[Ah]
 unfold D9
 refine Ae (fun h=>Aa (Kc b.shape h2) (Ac ?_)) (fun h=>Ae (fun h'=>Aa (Kc a.shape h1) (Ac ?_)) (fun h'=>Ae (fun h3=>Ac ?_) (fun h3=>Aa (Ab0 a.shape b.shape (by omega)) ?_)))
 · rw[if_pos (Aqb.1 (by omega))];rfl
 · rw[if_neg (fun hh=>h (by rw[hh];rfl)),if_pos (Aqb.1 (by omega))];rfl
 · rw[if_neg (fun hh=>h (by rw[hh];rfl)),if_neg (fun hh=>h' (by rw[hh];rfl)),if_pos (by omega)];rfl
 · rw[if_neg (fun hh=>h (by rw[hh];rfl)),if_neg (fun hh=>h' (by rw[hh];rfl)),if_neg (by omega)]
   simp only[Ag,Bc,Ft]
   refine Ae (fun h4=>Ac ?_) (fun h4=>Aa (Kc a.shape h1) (Ac ?_))
   · rw[if_neg h4];rfl
   · rw[if_pos (Apw.1 h4)];rfl
def Cj(a:Arr)(i:Int):Cell:=if (if a.shape = [] then 0 else i)<0∨(a.cells.length:Int)≤(if a.shape = [] then 0 else i) then Cell.none else a.cells.getD (if a.shape = [] then 0 else i).toNat Cell.none
theorem RL{l:List Cell}{i:Nat}(h:i<l.length):(l.map dC).getD i D.nil=dC (l.getD i Cell.none):=by
 rw[Au (Apk h),Apn,Apk h];rfl
theorem Abd(a:Arr)(i:Int):Sp 195 [dA a,.int i] [dC (Cj a i)]:=by
 refine Af 0 (Amv _ _ _) ?_
 simp only[Ah,H2]
 unfold Cj
 refine Ae (fun h=> ?_) (fun h=> ?_)
 · simp only[if_pos (Aqb.1 (show a.shape.length=0 by omega))]
   refine Ar (Ae (fun h2=>Ac ?_) (fun h2=>Ad (Ad (Ac ?_))))
   · rw[if_pos (.inr h2)]
   · rw[if_neg (by omega),show Apj 0=0 from rfl,RL (by omega)]
 · simp only[if_neg (fun hh:a.shape = []=>h (by rw[hh];rfl))]
   refine Ae (fun h1=>Ac ?_) (fun h1=>Ae (fun h2=>Ac ?_) (fun h2=>Ad (Ad (Ac ?_))))
   · rw[if_pos (.inl h1)]
   · rw[if_pos (.inr h2)]
   · rw[if_neg (by omega),RL (by omega)]
def Fa(c:Cell):Arr:=if c.kind=2 then c.inn.headD .none else .mk 0 [] [⟨0,c.kind,c.n,c.c,c.inn⟩]
def D3(r:Arr→Arr→Arr×Int)(f:Int)(x y:Cell):Cell×Int :=
 if x.kind=2∨y.kind=2 then (⟨x.l|||y.l,2,.zero,0,[(r (Fa x) (Fa y)).1]⟩,(r (Fa x) (Fa y)).2)
 else if x.kind=0∧y.kind=0 then (⟨x.l|||y.l,0,(J4 f x.n y.n).1,0,[]⟩,(J4 f x.n y.n).2)
 else if f=61 then (⟨x.l|||y.l,0,G_ (decide (x.kind=y.kind∧x.c=y.c)),0,[]⟩,0)
 else if f=8800 then (⟨x.l|||y.l,0,G_ (decide (¬ (x.kind=y.kind∧x.c=y.c))),0,[]⟩,0)
 else (⟨x.l|||y.l,0,.zero,0,[]⟩,3)
def Dc(g:Nat→Cell×Int):Nat→Nat→List Cell×Int
 | 0,_=>([],0)
 | m+1,k=>if (g k).2=0 then (if (Dc g m (k+1)).2=0 then ((g k).1::(Dc g m (k+1)).1,0) else ([],(Dc g m (k+1)).2)) else ([],(g k).2)
def C1(a b:Arr):Nat:=if a.shape = [] then b.cells.length else a.cells.length
def En(r:Arr→Arr→Arr×Int)(f:Int)(a b:Arr):Arr×Int :=
 if f∈Un then (if (D9 a b).2=0 then (if (Dc (fun i=>D3 r f (Cj a i) (Cj b i)) (C1 a b) 0).2=0 then (.mk (a.s|||b.s) (D9 a b).1 (Dc (fun i=>D3 r f (Cj a i) (Cj b i)) (C1 a b) 0).1,0) else (.none,(Dc (fun i=>D3 r f (Cj a i) (Cj b i)) (C1 a b) 0).2)) else (.none,(D9 a b).2)) else (.none,8)
def J3:Nat→Int→Arr→Arr→Arr×Int
 | 0,f=>En (fun _ _=>(.none,0)) f
 | d+1,f=>En (J3 d f) f
inductive ExpOk:Arr→Prop where
 | mk {s:At} {sh:List Int} {cs:List Cell} (h : ∀ c∈cs,∀ k,Dz c.n=some k→ -300≤k∧k≤300) (h2 : ∀ c∈cs,∀ x∈c.inn,ExpOk x):ExpOk (.mk s sh cs)
theorem ExpOk.cell {a:Arr} (h:ExpOk a) : ∀ c∈a.cells,(∀ k,Dz c.n=some k→ -300≤k∧k≤300)∧∀ x∈c.inn,ExpOk x:=by cases h with | mk h h2=>exact fun c hc=>⟨h c hc,h2 c hc⟩
def Md(c:Cell):Prop:=(∀ k,Dz c.n=some k→ -300≤k∧k≤300)∧∀ x∈c.inn,ExpOk x
theorem Vs{d:Nat}{c:Cell}(h:Bo (d+1) c=true):Am d (Fa c)=true∧Sml (d+1) (Fa c)∧(c.kind=2→Cq (Fa c)=false)∧(¬ c.kind=2→(Fa c).shape = []):=by
 have key:Am d (Fa c)=true∧(c.kind=2→Cq (Fa c)=false)∧(¬ c.kind=2→(Fa c).shape = []):=by
  unfold Fa
  rcases Na h with ⟨h1,h2,h3,h4⟩ | ⟨h1,h2,h3⟩ | ⟨h1,h2,h3,x,e,h4,h5,h6,h7⟩
  · rw[if_neg (by omega)]
    refine ⟨G8 (by simp;decide) (fun y hy=> ?_),fun hh=>by omega,fun _=>rfl⟩
    have:y=⟨0,c.kind,c.n,c.c,c.inn⟩:=by simpa using hy
    subst this
    rw[h1,h2,h3]
    exact Q4 h4
  · rw[if_neg (by omega)]
    refine ⟨G8 (by simp;decide) (fun y hy=> ?_),fun hh=>by omega,fun _=>rfl⟩
    have:y=⟨0,c.kind,c.n,c.c,c.inn⟩:=by simpa using hy
    subst this
    have k1:C8 true (Am d) c=true:=h
    have key2 : ∀ k r,C8 k r ⟨0,c.kind,c.n,c.c,c.inn⟩=true:=fun k r=>by
     unfold C8 at k1 ⊢
     simp only[h1]at k1 ⊢
     simpa using k1
    cases d with
    | zero=>exact key2 _ _
    | succ d=>exact key2 _ _
  · rw[if_pos h1,h5]
    have:e=d:=by omega
    subst this
    exact ⟨h7,fun _=>h6,fun hh=>absurd h1 hh⟩
 exact ⟨key.1,Cd key.1,key.2⟩
theorem AdY{c:Cell}(h:Md c)(hi:c.kind=2→∃ x,c.inn = [x]):ExpOk (Fa c):=by
 unfold Fa
 split
 · rename_i hk
   obtain ⟨x,hx⟩:=hi hk
   rw[hx];exact h.2 x (by rw[hx];simp)
 · have one : ∀ y∈[(⟨0,c.kind,c.n,c.c,c.inn⟩:Cell)],Md y:=fun y hy=>by
    have:y=⟨0,c.kind,c.n,c.c,c.inn⟩:=by simpa using hy
    subst this
    exact h
   exact .mk (fun y hy=>(one y hy).1) (fun y hy=>(one y hy).2)
theorem KW{d:Nat}{a:Arr}(h:Am d a=true)(hs:a.shape = []) : ∃ c,a.cells = [c]:=by
 have:=(Ck h).1
 rw[hs,show A8 []=(1,0) by decide]at this
 have e:=congrArg Prod.fst this
 simp only at e
 exact Mp (by omega)
theorem WW{d:Nat}{a b:Arr}(ha:Am d a=true)(hb:Am d b=true)(hc:(D9 a b).2=0){i:Nat}(hi:i<C1 a b):Cj a i∈a.cells∧Cj b i∈b.cells:=by
 have mem : ∀ (l:List Cell) (j:Nat),j<l.length→l.getD j Cell.none∈l:=fun l j hj=>by
   rw[Apn,Apk hj];exact Aql hj
 have one : ∀ (x:Arr),Am d x=true→x.shape = []→∀ j:Int,Cj x j∈x.cells:=fun x hx hs j=>by
   obtain ⟨c,hcc⟩:=KW hx hs
   unfold Cj
   rw[if_pos hs,if_neg (by rw[hcc];simp)]
   exact mem _ _ (by rw[hcc];simp)
 have many : ∀ (x:Arr),¬ x.shape = []→∀ j:Nat,j<x.cells.length→Cj x (j:Int)∈x.cells:=fun x hs j hj=>by
   unfold Cj
   rw[if_neg hs,if_neg (by omega),Apr]
   exact mem _ _ hj
 unfold C1 at hi
 by_cases h1:a.shape = []
 · rw[if_pos h1]at hi
   refine ⟨one a ha h1 _,?_⟩
   by_cases h2:b.shape = []
   · exact one b hb h2 _
   · exact many b h2 i hi
 · rw[if_neg h1]at hi
   refine ⟨many a h1 i hi,?_⟩
   by_cases h2:b.shape = []
   · exact one b hb h2 _
   · refine many b h2 i ?_
     unfold D9 at hc
     rw[if_neg h1,if_neg h2]at hc
     split at hc
     · cases hc
     · split at hc
       · rename_i h3
         have e1:=(Ck ha).1
         have e2:=(Ck hb).1
         rw[h3,e2]at e1
         have:=congrArg Prod.fst e1
         simp only at this
         omega
       · cases hc
theorem AdU{d:Nat}{a b:Arr}(ha:Am d a=true)(hb:Am d b=true)(hc:(D9 a b).2=0):A8 (D9 a b).1=(((C1 a b:Nat):Int),0):=by
 unfold D9 C1 at *
 by_cases h1:a.shape = []
 · rw[if_pos h1,if_pos h1];exact (Ck hb).1
 · rw[if_neg h1]at hc ⊢
   rw[if_neg h1]
   by_cases h2:b.shape = []
   · rw[if_pos h2];exact (Ck ha).1
   · rw[if_neg h2]at hc ⊢
     split at hc
     · cases hc
     · rename_i h3
       rw[if_neg h3]
       split at hc
       · rename_i h4;rw[if_pos h4];exact (Ck ha).1
       · cases hc
def L5(s:At)(sh:List Int)(pre:List Cell)(r:List Cell×Int):List D:=if r.2=0 then [dA (.mk s sh (pre++r.1)),.int 0] else [dA .none,.int r.2]
theorem Aoi{s:At}{sh:List Int}{pre:List Cell}{g:Nat→Cell×Int}{m k:Nat}(h:(g k).2=0):L5 s sh pre (Dc g (m+1) k)=L5 s sh (pre++[(g k).1]) (Dc g m (k+1)):=by
 rw[Dc,if_pos h]
 unfold L5
 by_cases h2:(Dc g m (k+1)).2=0
 · rw[if_pos h2];simp[h2]
 · rw[if_neg h2];simp[h2]
theorem Aoj{s:At}{sh:List Int}{pre:List Cell}{g:Nat→Cell×Int}{m k:Nat}(h : ¬ (g k).2=0):L5 s sh pre (Dc g (m+1) k) = [dA .none,.int (g k).2]:=by
 rw[Dc,if_neg h]
 unfold L5
 rw[if_neg h]
theorem Aom(r:Arr→Arr→Arr×Int)(f:Int)(a b:Arr)(hf:f∈Un)(hc:(D9 a b).2=0) : [dA (En r f a b).1,D.int (En r f a b).2]=L5 (a.s|||b.s) (D9 a b).1 [] (Dc (fun i=>D3 r f (Cj a i) (Cj b i)) (C1 a b) 0):=by
 unfold En
 rw[if_pos hf,if_pos hc]
 unfold L5
 split <;> rfl
theorem Aba{d:Nat}(c:Cell)(h:Bo d c=true):Sp 235 [dC c] [dA (Fa c)]:=by
 refine Af 0 (Amp _ _) ?_
 simp only[Ah]
 unfold Fa
 have hs:=Aa7 h
 refine Ae (fun h1=> ?_) (fun h1=> ?_)
 · rcases Na h with ⟨g1,_⟩ | ⟨g1,_⟩ | ⟨g1,g2,g3,x,e,g4,g5,g6,g7⟩
   · omega
   · omega
   · rw[if_pos h1,g5]
     exact Aa (Abc c x g5) (Ac rfl)
 · rw[if_neg h1]
   have e0:D.agg [D.int 0,D.int c.kind,dN c.n,D.int c.c,D.sl (c.inn.map dA)]=dC ⟨0,c.kind,c.n,c.c,c.inn⟩:=by rw[D_];rfl
   rw[e0]
   exact Aa (Rt (d:=d) ⟨0,c.kind,c.n,c.c,c.inn⟩ hs) (Ac rfl)
theorem R5(l:At)(n:Num):D.agg [dB l,D.int 0,dN n,D.int 0,D.sl []]=dC ⟨l,0,n,0,[]⟩:=by rw[D_];rfl
theorem Ae0(l:At):D.agg [dB l,D.int 0,D.agg [D.bool false,D.sl [],D.sl []],D.int 0,D.sl []]=dC ⟨l,0,.zero,0,[]⟩:=by rw[D_];rfl
section
variable {d:Nat} {x y:Cell} {f:Int} {r:Arr→Arr→Arr×Int}
theorem Ys(hx:Bo 0 x=true) : ¬ x.kind=2:=by
 rcases Na hx with ⟨g1,_⟩ | ⟨g1,_⟩ | ⟨_,_,_,_,e,g4,_⟩
 · omega
 · omega
 · omega
theorem Yt(hx:Bo d x=true)(h:x.kind=0):Ev x.n=true:=by
 rcases Na hx with ⟨_,_,_,g4⟩ | ⟨g1,_⟩ | ⟨g1,_⟩
 · exact g4
 · omega
 · omega
theorem AdF(hx:Bo d x=true)(h:x.kind=2) : ∃ X,x.inn = [X]:=by
 rcases Na hx with ⟨g1,_⟩ | ⟨g1,_⟩ | ⟨_,_,_,X,_,_,g5,_⟩
 · omega
 · omega
 · exact ⟨X,g5⟩
theorem Amx(hx:Bo d x=true)(hy:Bo d y=true)(hp:f=42→Md y)
  (ih : ∀ e,d=e+1→∀ X Y,Am e X=true→Am e Y=true→(f=42→ExpOk Y)→Sp 112 [.int f,dA X,dA Y] [dA (r X Y).1,.int (r X Y).2]):Sp 194 [.int f,dC x,dC y] [dC (D3 r f x y).1,.int (D3 r f x y).2]:=by
 refine Af 0 (Amy _ _ _ _) ?_
 simp only[Ah]
 refine Aa (Hk x.l y.l) ?_
 simp only[Ah]
 have box:x.kind=2∨y.kind=2→Tw (.call 235 [] [dC x] fun Y2=> .call 235 [] [dC y] fun Y3=> .call 112 [] [D.int f,qA Y2,qA Y3] fun Y4=> .ret [D.agg [dB (x.l|||y.l),D.int 2,D.agg [D.bool false,D.sl [],D.sl []],D.int 0,D.sl [qA Y4]],D.int ((qB Y4).toInt)]) [dC (D3 r f x y).1,.int (D3 r f x y).2]:=fun hk=>by
  cases d with
  | zero=>rcases hk with hk | hk;exact absurd hk (Ys hx);exact absurd hk (Ys hy)
  | succ e =>
   obtain ⟨c1,_⟩:=Vs hx
   obtain ⟨c2,_⟩:=Vs hy
   refine Aa (Aba x hx) (Aa (Aba y hy) (Aa (ih e rfl _ _ c1 c2 (fun hf=>AdY (hp hf) (AdF hy))) (Ac ?_)))
   unfold D3
   rw[if_pos hk,D_];rfl
 refine Ae (fun h1=>box (.inl h1)) (fun h1=>Ae (fun h2=>box (.inr h2)) (fun h2=> ?_))
 unfold D3
 rw[if_neg (fun hh=>hh.elim h1 h2)]
 have chars : ¬ (x.kind=0∧y.kind=0)→Tw (.br (decide (f=61)) (.br (decide (x.kind=y.kind)) (.call 237 [] [D.bool (decide (x.c=y.c)==decide (f=61))] fun Y13=> .ret [D.agg [dB (x.l|||y.l),D.int 0,qA Y13,D.int 0,D.sl []],D.int 0]) (.call 237 [] [D.bool (false == decide (f=61))] fun Y14=> .ret [D.agg [dB (x.l|||y.l),D.int 0,qA Y14,D.int 0,D.sl []],D.int 0])) (.br (decide (f=8800)) (.br (decide (x.kind=y.kind)) (.call 237 [] [D.bool (decide (x.c=y.c)==decide (f=61))] fun Y15=> .ret [D.agg [dB (x.l|||y.l),D.int 0,qA Y15,D.int 0,D.sl []],D.int 0]) (.call 237 [] [D.bool (false == decide (f=61))] fun Y16=> .ret [D.agg [dB (x.l|||y.l),D.int 0,qA Y16,D.int 0,D.sl []],D.int 0])) (.ret [D.agg [dB (x.l|||y.l),D.int 0,D.agg [D.bool false,D.sl [],D.sl []],D.int 0,D.sl []],D.int 3])))
   [dC (if x.kind=0∧y.kind=0 then ((⟨x.l|||y.l,0,(J4 f x.n y.n).1,0,[]⟩,(J4 f x.n y.n).2):Cell×Int) else if f=61 then (⟨x.l|||y.l,0,G_ (decide (x.kind=y.kind∧x.c=y.c)),0,[]⟩,0) else if f=8800 then (⟨x.l|||y.l,0,G_ (decide (¬ (x.kind=y.kind∧x.c=y.c))),0,[]⟩,0) else (⟨x.l|||y.l,0,.zero,0,[]⟩,3)).1,.int (if x.kind=0∧y.kind=0 then ((⟨x.l|||y.l,0,(J4 f x.n y.n).1,0,[]⟩,(J4 f x.n y.n).2):Cell×Int) else if f=61 then (⟨x.l|||y.l,0,G_ (decide (x.kind=y.kind∧x.c=y.c)),0,[]⟩,0) else if f=8800 then (⟨x.l|||y.l,0,G_ (decide (¬ (x.kind=y.kind∧x.c=y.c))),0,[]⟩,0) else (⟨x.l|||y.l,0,.zero,0,[]⟩,3)).2]:=fun hk=>by
  rw[if_neg hk]
  refine Ae (fun h3=>Ae (fun h4=>Aa (Kx _) (Ac ?_)) (fun h4=>Aa (Kx _) (Ac ?_))) (fun h3=>Ae (fun h3'=>Ae (fun h4=>Aa (Kx _) (Ac ?_)) (fun h4=>Aa (Kx _) (Ac ?_))) (fun h3'=>Ac ?_))
  · rw[if_pos h3,Ag,R5];simp[h3,h4]
  · rw[if_pos h3,Ag,R5];simp[h3,h4]
  · rw[if_neg h3,if_pos h3',Ag,R5];simp[h3,h4]
  · rw[if_neg h3,if_pos h3',Ag,R5];simp[h3,h4]
  · rw[if_neg h3,if_neg h3',Ae0]
 refine Ae (fun h3=>Ae (fun h4=> ?_) (fun h4=>chars (fun hh=>h4 hh.2))) (fun h3=>chars (fun hh=>h3 hh.1))
 rw[if_pos ⟨h3,h4⟩]
 obtain ⟨z,q,rx⟩:=Lv (Yt hx h3)
 obtain ⟨z',q',ry⟩:=Lv (Yt hy h4)
 refine Aa (Ami f rx ry (fun hf=>(hp hf).1)) (Ac ?_)
 simp only[Dy,Ag,C5,Ao,R5]
end
theorem AaX(f:Int)(d:Nat)(a b:Arr)(r:Arr→Arr→Arr×Int)(ih : ∀ e,d=e+1→∀ X Y,Am e X=true→Am e Y=true→(f=42→ExpOk Y)→Sp 112 [.int f,dA X,dA Y] [dA (r X Y).1,.int (r X Y).2])
   (ha:Am d a=true) (hb:Am d b=true) (hp:f=42→ExpOk b):Sp 112 [.int f,dA a,dA b] [dA (En r f a b).1,.int (En r f a b).2]:=by
 have hs:=Cd ha
 have hs':=Cd hb
 have hl:=hs.2.1
 have hl':=hs'.2.1
 have hcnt:C1 a b≤1048576:=by unfold C1;split <;> omega
 refine Af (C1 a b+1) (Amm _ _ _ _) (Aa (Ame f) ?_)
 simp only[Ah,C9,H2]
 refine Ae (fun h=>Ac ?_) (fun h=>Aa (Ama a b hs hs') ?_)
 · unfold En;rw[if_neg h]
 have hf:=Apw.1 h
 simp only[Ah,C9]
 refine Ae (fun h1=>Ac ?_) (fun h1=> ?_)
 · unfold En;rw[if_pos hf,if_neg h1]
 have hc:=Apw.1 h1
 rw[Aom r f a b hf hc]
 have key:=Di (C1 a b) (fun m k (pre:List Cell)=>T_ (C1 a b+1) m f ((C1 a b:Nat):Int) (k:Int) (dA a) (dA b) 0 ((a.s|||b.s).toNat:Int) (dI (D9 a b).1) (pre.map dC++Apl (C1 a b-k) (dC Cell.none)))
   (fun k pre=>L5 (a.s|||b.s) (D9 a b).1 pre (Dc (fun i=>D3 r f (Cj a i) (Cj b i)) (C1 a b-k) k)) (fun k pre=>pre.length=k)
   (fun m pre hI=>by
    simp only[AaY,Ah]
    refine Ar (Ac ?_)
    rw[Nat.sub_self,List.replicate_zero,Ap6,Dc]
    unfold L5
    rw[if_pos rfl,D4]
    simp[dI,dB])
   (fun m k pre hk hI ih'=>by
    have hlen:(pre.map dC++Apl (C1 a b-k) (dC Cell.none)).length=C1 a b:=by simp;omega
    obtain ⟨p1,p2⟩:=WW ha hb hc hk
    have r1:=(Ck ha).2 _ p1
    have r2:=(Ck hb).2 _ p2
    simp only[AaY,Ah,hlen,Bh k]
    refine Ad (Aa (Abd a (k:Int)) (Aa (Abd b (k:Int)) (Aa (Amx (r:=r) r1 r2 (fun hf=>(hp hf).cell _ p2) ih) ?_)))
    simp only[Ag,C5,Ao,Do,C9]
    rw[show C1 a b-k=(C1 a b-(k+1))+1 by omega]
    refine Ae (fun he=>Ac ?_) (fun he=>Ad (Ad ?_))
    · rw[Aoj he]
    · have he':=Apw.1 he
      rw[Aoi he',← hI,Nd,hI]
      exact ih' (pre++[(D3 r f (Cj a k) (Cj b k)).1]) (by simp[hI]))
   (C1 a b+1) 0 [] (by omega) (by omega) rfl
 have e0:([]:List Cell).map dC++Apl (C1 a b-0) (dC Cell.none)=Apl (C1 a b) (dC Cell.none):=by simp
 rw[e0]at key
 refine Ae (fun h2=>Aa (Hk a.s b.s) (Ad (Ad (Ay (by simp only[Ak];omega) ?_)))) (fun h2=>Aa (Hk a.s b.s) (Ad (Ad (Ay (by simp only[Ak];omega) ?_))))
 · have:C1 a b=b.cells.length:=by unfold C1;rw[if_pos (Aqb.1 (by omega))]
   simp only[Ah]
   rw[this]at key
   simpa [this]using key
 · have:C1 a b=a.cells.length:=by unfold C1;rw[if_neg (fun hh=>h2 (by rw[hh];rfl))]
   simp only[Ah]
   rw[this]at key
   simpa [this]using key
theorem AaZ(f:Int) : ∀ (d:Nat) (a b:Arr),Am d a=true→Am d b=true→(f=42→ExpOk b)→Sp 112 [.int f,dA a,dA b] [dA (J3 d f a b).1,.int (J3 d f a b).2]
 | 0,a,b,ha,hb,hp=>AaX f 0 a b _ (fun e he=>by omega) ha hb hp
 | d+1,a,b,ha,hb,hp=>AaX f (d+1) a b _ (fun e he=>by
  have:e=d:=by omega
  subst this
  exact AaZ f e) ha hb hp
theorem Acm{g:Nat→Cell×Int} : ∀ {m k:Nat},(Dc g m k).2=0→(Dc g m k).1.length=m
 | 0,_,_=>by simp[Dc]
 | m+1,k,h=>by
  rw[Dc]at h ⊢
  split at h
  · rename_i h1
    rw[if_pos h1]
    split at h
    · rename_i h2;rw[if_pos h2];simp[Acm h2]
    · rename_i h2;exact absurd h h2
  · rename_i h1;exact absurd h h1
theorem ME{g:Nat→Cell×Int} : ∀ {m k:Nat},(Dc g m k).2=0→∀ y∈(Dc g m k).1,∃ i,k≤i∧i<k+m∧(g i).2=0∧y=(g i).1
 | 0,_,_,y,hy=>by simp[Dc]at hy
 | m+1,k,h,y,hy=>by
  rw[Dc]at h hy
  split at h
  · rename_i h1
    rw[if_pos h1]at hy
    split at h
    · rename_i h2
      rw[if_pos h2]at hy
      rcases Ap4.1 hy with rfl | hy
      · exact ⟨k,by omega,by omega,h1,rfl⟩
      · obtain ⟨i,g1,g2,g3⟩:=ME h2 y hy
        exact ⟨i,by omega,by omega,g3⟩
    · rename_i h2;exact absurd h h2
  · rename_i h1;exact absurd h h1
theorem Aoo{r:Arr→Arr→Arr×Int}{f:Int}{a b:Arr}(h:(En r f a b).2=0):f∈Un∧(D9 a b).2=0∧(Dc (fun i=>D3 r f (Cj a i) (Cj b i)) (C1 a b) 0).2=0∧(En r f a b).1 = .mk (a.s|||b.s) (D9 a b).1 (Dc (fun i=>D3 r f (Cj a i) (Cj b i)) (C1 a b) 0).1:=by
 unfold En at h ⊢
 split at h
 · rename_i h1
   split at h
   · rename_i h2
     split at h
     · rename_i h3
       rw[if_pos h1,if_pos h2,if_pos h3]
       exact ⟨h1,h2,h3,rfl⟩
     · rename_i h3;exact absurd h h3
   · rename_i h2;exact absurd h h2
 · cases h
theorem AdV{a b:Arr}(hc:(D9 a b).2=0)(h:(D9 a b).1 = []):a.shape = []∧b.shape = []:=by
 unfold D9 at hc h
 by_cases h1:a.shape = []
 · rw[if_pos h1]at h;exact ⟨h1,h⟩
 · rw[if_neg h1]at hc h
   by_cases h2:b.shape = []
   · rw[if_pos h2]at h;exact absurd h h1
   · rw[if_neg h2]at hc h
     split at hc
     · cases hc
     · rename_i h3
       rw[if_neg h3]at h
       split at hc
       · rename_i h4;rw[if_pos h4]at h;exact absurd h h1
       · cases hc
theorem Abu{a:Arr}{c:Cell}(hs:a.shape = [])(hc:a.cells = [c])(h:Cq a=false):c.kind=2:=by
 rcases Decidable.em (c.kind=2) with hh | hh
 · exact hh
 · have:=(BV a).2 ⟨hs,c,hc,hh⟩
   rw[h]at this;cases this
theorem WX{a:Arr}{c:Cell}(hs:a.shape = [])(hc:a.cells = [c])(i:Int):Cj a i=c:=by
 unfold Cj
 rw[if_pos hs,if_neg (by rw[hc];simp),hc];rfl
theorem Aco{r:Arr→Arr→Arr×Int}{f:Int}{d:Nat}{a b:Arr}(ih : ∀ e,d=e+1→∀ X Y,Am e X=true→Am e Y=true→(r X Y).2=0→Am e (r X Y).1=true∧(Cq X=false∨Cq Y=false→Cq (r X Y).1=false))
   (ha:Am d a=true) (hb:Am d b=true) (h:(En r f a b).2=0):Am d (En r f a b).1=true∧(Cq a=false∨Cq b=false→Cq (En r f a b).1=false):=by
 obtain ⟨h1,h2,h3,h4⟩:=Aoo h
 rw[h4]
 refine ⟨G8 (by simp only[Arr.shape_mk,Arr.cells_mk,Acm h3];exact AdU ha hb h2) (fun y hy=> ?_),fun hn=> ?_⟩
 · obtain ⟨i,_,hi,g1,rfl⟩:=ME h3 y hy
   obtain ⟨p1,p2⟩:=WW ha hb h2 (i:=i) (by omega)
   have r1:=(Ck ha).2 _ p1
   have r2:=(Ck hb).2 _ p2
   replace g1:(D3 r f (Cj a (i:Int)) (Cj b (i:Int))).2=0:=g1
   show Bo d (D3 r f (Cj a (i:Int)) (Cj b (i:Int))).1=true
   generalize Cj a (i:Int)=x at *
   generalize Cj b (i:Int)=z at *
   unfold D3 at g1 ⊢
   by_cases k1:x.kind=2∨z.kind=2
   · rw[if_pos k1]at g1 ⊢
     cases d with
     | zero=>rcases k1 with k1 | k1;exact absurd k1 (Ys r1);exact absurd k1 (Ys r2)
     | succ e =>
       obtain ⟨c1,_,c2,_⟩:=Vs r1
       obtain ⟨c3,_,c4,_⟩:=Vs r2
       obtain ⟨q1,q2⟩:=ih e rfl _ _ c1 c3 g1
       exact KU (q2 (k1.imp c2 c4)) q1
   · rw[if_neg k1]at g1 ⊢
     by_cases k2:x.kind=0∧z.kind=0
     · rw[if_pos k2]at g1 ⊢
       obtain ⟨_,_,rx⟩:=Lv (Yt r1 k2.1)
       obtain ⟨_,_,ry⟩:=Lv (Yt r2 k2.2)
       obtain ⟨_,_,rr⟩:=Aop f rx ry g1
       exact Q4 rr.right
     · rw[if_neg k2]at g1 ⊢
       by_cases k3:f=61
       · rw[if_pos k3]
         obtain ⟨_,hz⟩:=MC (decide (x.kind=z.kind∧x.c=z.c))
         exact Q4 hz.right
       · rw[if_neg k3]at g1 ⊢
         by_cases k4:f=8800
         · rw[if_pos k4]
           obtain ⟨_,hz⟩:=MC (decide (¬ (x.kind=z.kind∧x.c=z.c)))
           exact Q4 hz.right
         · rw[if_neg k4]at g1;cases g1
 · cases hq:Cq (Arr.mk (a.s|||b.s) (D9 a b).1 (Dc (fun i=>D3 r f (Cj a i) (Cj b i)) (C1 a b) 0).1) with
   | false=>rfl
   | true =>
     exfalso
     obtain ⟨q1,c',q2,q3⟩:=(BV _).1 hq
     simp only[Arr.shape_mk,Arr.cells_mk]at q1 q2
     obtain ⟨s1,s2⟩:=AdV h2 q1
     obtain ⟨cx,hx⟩:=KW ha s1
     obtain ⟨cy,hy⟩:=KW hb s2
     obtain ⟨i,_,_,_,e1⟩:=ME h3 c' (by rw[q2];simp)
     simp only[WX s1 hx,WX s2 hy]at e1
     apply q3
     rw[e1]
     unfold D3
     rw[if_pos (hn.imp (Abu s1 hx) (Abu s2 hy))]
theorem Ack(f:Int) : ∀ (d:Nat) (a b:Arr),Am d a=true→Am d b=true→(J3 d f a b).2=0→Am d (J3 d f a b).1=true∧(Cq a=false∨Cq b=false→Cq (J3 d f a b).1=false)
 | 0,a,b,ha,hb,h=>Aco (fun e he=>by omega) ha hb h
 | d+1,a,b,ha,hb,h=>Aco (fun e he=>by
  have:e=d:=by omega
  subst this
  exact Ack f e) ha hb h
theorem Ajv(n:Nat)(f0 a1 b2:D):fA [(2000000,⟨[],[],[]⟩)] n 10 [] [f0,a1,b2] =
 .br (f0.toInt == 9076) (cK 35 [a1,b2] fun Y1 =>
 .ret [qA Y1,D.int ((qB Y1).toInt)])
 (.br (f0.toInt == 44) (cK 36 [a1,b2,D.bool false] fun Y2 =>
 .ret [qA Y2,D.int ((qB Y2).toInt)])
 (.br (f0.toInt == 9066) (cK 36 [a1,b2,D.bool true] fun Y3 =>
 .ret [qA Y3,D.int ((qB Y3).toInt)])
 (.br (f0.toInt == 9021) (cK 37 [a1,b2,D.bool false] fun Y4 =>
 .ret [qA Y4,D.int ((qB Y4).toInt)])
 (.br (f0.toInt == 8854) (cK 37 [a1,b2,D.bool true] fun Y5 =>
 .ret [qA Y5,D.int ((qB Y5).toInt)])
 (.br (f0.toInt == 9033) (cK 38 [a1,b2] fun Y6 =>
 .ret [qA Y6,D.int ((qB Y6).toInt)])
 (.br (f0.toInt == 8593) (cK 39 [a1,b2] fun Y7 =>
 .ret [qA Y7,D.int ((qB Y7).toInt)])
 (.br (f0.toInt == 8595) (cK 40 [a1,b2] fun Y8 =>
 .ret [qA Y8,D.int ((qB Y8).toInt)])
 (.br (f0.toInt == 8835) (cK 41 [a1,b2] fun Y9 =>
 .ret [qA Y9,D.int ((qB Y9).toInt)])
 (.br (f0.toInt == 8866) (.ret [b2,D.int 0])
 (.br (f0.toInt == 8867) (.ret [a1,D.int 0])
 (cK 42 [D.int f0.toInt,a1,b2] fun Y10 =>
 .ret [qA Y10,D.int ((qB Y10).toInt)]))))))))))):=by kernel_rfl
theorem Ajs(n:Nat)(f0 a1:D):fA [(2000000,⟨[],[],[]⟩)] n 15 [] [f0,a1] =
 .br (f0.toInt == 9076) (cK 56 [a1] fun Y1 =>
 .ret [qA Y1,D.int 0])
 (.br (f0.toInt == 44) (cK 57 [a1] fun Y2 =>
 .ret [qA Y2,D.int 0])
 (.br (f0.toInt == 9066) (cK 58 [a1] fun Y3 =>
 .ret [qA Y3,D.int 0])
 (.br (f0.toInt == 9021) (cK 59 [a1,D.bool false] fun Y4 =>
 .ret [qA Y4,D.int 0])
 (.br (f0.toInt == 8854) (cK 59 [a1,D.bool true] fun Y5 =>
 .ret [qA Y5,D.int 0])
 (.br (f0.toInt == 9033) (cK 60 [a1] fun Y6 =>
 .ret [qA Y6,D.int 0])
 (.br (f0.toInt == 8834) (cK 61 [a1] fun Y7 =>
 .ret [qA Y7,D.int ((qB Y7).toInt)])
 (.br (f0.toInt == 8835) (cK 62 [a1] fun Y8 =>
 .ret [qA Y8,D.int 0])
 (.br (f0.toInt == 8801) (cK 63 [a1] fun Y9 =>
 .ret [qA Y9,D.int 0])
 (.br (f0.toInt == 8802) (cK 64 [a1] fun Y10 =>
 .ret [qA Y10,D.int 0])
 (.br (f0.toInt == 8866) (.ret [a1,D.int 0])
 (.br (f0.toInt == 8867) (.ret [a1,D.int 0])
 (.br (f0.toInt == 9075) (cK 65 [a1] fun Y11 =>
 .ret [qA Y11,D.int ((qB Y11).toInt)])
 (.br (f0.toInt == 8714) (cK 66 [a1] fun Y12 =>
 .ret [qA Y12,D.int ((qB Y12).toInt)])
 (.br (f0.toInt == 8746) (cK 67 [a1] fun Y13 =>
 .ret [qA Y13,D.int ((qB Y13).toInt)])
 (.br (f0.toInt == 9080) (cK 68 [a1] fun Y14 =>
 .ret [qA Y14,D.int ((qB Y14).toInt)])
 (.br (f0.toInt == 9035) (cK 69 [a1,D.bool false] fun Y15 =>
 .ret [qA Y15,D.int ((qB Y15).toInt)])
 (.br (f0.toInt == 9042) (cK 69 [a1,D.bool true] fun Y16 =>
 .ret [qA Y16,D.int ((qB Y16).toInt)])
 (cK 70 [D.int f0.toInt,a1] fun Y17 =>
 .ret [qA Y17,D.int ((qB Y17).toInt)])))))))))))))))))):=by kernel_rfl
theorem Ajr(n:Nat)(f0 two1:D):fA [] n 26 [] [f0,two1] =
 .br two1.toBool (cK 29 [] fun Y1 =>
 cK 74 [qA Y1,D.int f0.toInt] fun Y2 =>
 .ret [D.bool ((qA Y2).toBool)])
 (cK 28 [] fun Y3 =>
 cK 74 [qA Y3,D.int f0.toInt] fun Y4 =>
 .ret [D.bool ((qA Y4).toBool)]):=by kernel_rfl
theorem Aju(n:Nat):fA [] n 28 [] [] =
 .ret [D.sl [D.int 43,D.int 45,D.int 215,D.int 247,D.int 8968,D.int 8970,D.int 124,D.int 126,D.int 33,D.int 9076,D.int 44,D.int 9066,D.int 9021,D.int 8854,D.int 9033,D.int 8834,D.int 8835,D.int 8801,D.int 8802,D.int 9075,D.int 8714,D.int 8746,D.int 9080,D.int 9035,D.int 9042,D.int 8866,D.int 8867]]:=by kernel_rfl
theorem Ajx(n:Nat):fA [] n 29 [] [] =
 .ret [D.sl [D.int 43,D.int 45,D.int 215,D.int 247,D.int 8968,D.int 8970,D.int 124,D.int 42,D.int 60,D.int 8804,D.int 61,D.int 8805,D.int 62,D.int 8800,D.int 8743,D.int 8744,D.int 9076,D.int 44,D.int 9066,D.int 9021,D.int 8854,D.int 9033,D.int 8593,D.int 8595,D.int 8835,D.int 8801,D.int 8802,D.int 9075,D.int 8714,D.int 8746,D.int 8745,D.int 126,D.int 8866,D.int 8867,D.int 47,D.int 9023,D.int 92,D.int 9024]]:=by kernel_rfl
theorem Ajz(n:Nat)(a0 b1:D):fA [(2000000,⟨[],[],[]⟩)] n 41 [] [a0,b1] =
 cK 80 [a0] fun Y1 =>
 .br (((qB Y1).toInt)!=0) (.ret [D.agg [D.int 0,D.sl [],D.sl []],D.int ((qB Y1).toInt)])
 (.br ((((qA Y1).els).length:Int)!=1) (.ret [D.agg [D.int 0,D.sl [],D.sl []],D.int 4])
 (.br ((((b1.fld 1).els).length:Int)!=1) (.ret [D.agg [D.int 0,D.sl [],D.sl []],D.int 5])
 (kK (0≤0) (kK (0<(((qA Y1).els).length:Int)) (bK (((((qA Y1).els).getD (Apj 0) D.nil).toInt)<1) (.ret [D.agg [D.int 0,D.sl [],D.sl []],D.int 6])
 (kK (0≤0) (kK (0<(((qA Y1).els).length:Int)) (bK ((((b1.fld 2).els).length:Int)<((((qA Y1).els).getD (Apj 0) D.nil).toInt)) (.ret [D.agg [D.int 0,D.sl [],D.sl []],D.int 6])
 (kK (0≤0) (kK (0<(((qA Y1).els).length:Int)) (kK (0≤Api .i64 (((((qA Y1).els).getD (Apj 0) D.nil).toInt)-1)) (kK (Api .i64 (((((qA Y1).els).getD (Apj 0) D.nil).toInt)-1)<(((b1.fld 2).els).length:Int)) (cK 104 [((b1.fld 2).els).getD (Apj (Api .i64 (((((qA Y1).els).getD (Apj 0) D.nil).toInt)-1))) D.nil] fun Y2 =>
 cK 84 [a0] fun Y3 =>
 cK 83 [D.int ((b1.fld 0).toInt),D.int ((qA Y3).toInt)] fun Y4 =>
 cK 90 [qA Y2,D.int ((qA Y4).toInt)] fun Y5 =>
 .ret [qA Y5,D.int 0]))))))))))))):=by kernel_rfl
theorem Aj1(n:Nat)(f0 a1 b2:D):fA [(2000000,⟨[],[],[]⟩)] n 42 [] [f0,a1,b2] =
 .br (f0.toInt == 8801) (cK 105 [a1,b2,D.bool true] fun Y1 =>
 .ret [qA Y1,D.int 0])
 (.br (f0.toInt == 8802) (cK 105 [a1,b2,D.bool false] fun Y2 =>
 .ret [qA Y2,D.int 0])
 (.br (f0.toInt == 9075) (cK 106 [a1,b2] fun Y3 =>
 .ret [qA Y3,D.int ((qB Y3).toInt)])
 (.br (f0.toInt == 8714) (cK 107 [a1,b2] fun Y4 =>
 .ret [qA Y4,D.int 0])
 (.br (f0.toInt == 8746) (cK 108 [a1,b2] fun Y5 =>
 .ret [qA Y5,D.int ((qB Y5).toInt)])
 (.br (f0.toInt == 8745) (cK 109 [a1,b2,D.bool true] fun Y6 =>
 .ret [qA Y6,D.int ((qB Y6).toInt)])
 (.br (f0.toInt == 126) (cK 109 [a1,b2,D.bool false] fun Y7 =>
 .ret [qA Y7,D.int ((qB Y7).toInt)])
 (.br (f0.toInt == 47) (cK 110 [a1,b2,D.bool false] fun Y8 =>
 .ret [qA Y8,D.int ((qB Y8).toInt)])
 (.br (f0.toInt == 9023) (cK 110 [a1,b2,D.bool true] fun Y9 =>
 .ret [qA Y9,D.int ((qB Y9).toInt)])
 (.br (f0.toInt == 92) (cK 111 [a1,b2,D.bool false] fun Y10 =>
 .ret [qA Y10,D.int ((qB Y10).toInt)])
 (.br (f0.toInt == 9024) (cK 111 [a1,b2,D.bool true] fun Y11 =>
 .ret [qA Y11,D.int ((qB Y11).toInt)])
 (cK 112 [D.int f0.toInt,a1,b2] fun Y12 =>
 .ret [qA Y12,D.int ((qB Y12).toInt)]))))))))))):=by kernel_rfl
def Gv(n a:Arr):Arr×Int:=if (A9 n).2≠0 then (.none,(A9 n).2) else if (A9 n).1.length≠1 then (.none,4) else if a.shape.length≠1 then (.none,5) else
 if (A9 n).1.getD 0 0<1∨(a.cells.length:Int)<(A9 n).1.getD 0 0 then (.none,6) else
 (Cw (Jh (a.cells.getD ((A9 n).1.getD 0 0-1).toNat (Bf 0))) (a.s|||Az n),0)
theorem Ajy(n a:Arr)(hn:Am 8 n=true)(ha:Am 8 a=true):Sp 41 [dA n,dA a] [dA (Gv n a).1,.int (Gv n a).2]:=by
 have hl:=(Dm ha).1
 refine Af 0 (Ajz _ _ _) (Aa (La n (Dm hn).1 (Qz hn)) ?_)
 unfold Gv
 generalize (A9 n).1=l at *
 generalize (A9 n).2=e at *
 simp only[Ah,C9]
 refine Ae (fun h=>Ac (by rw[if_pos h])) (fun h=> ?_)
 rw[if_neg h]
 refine Ae (fun h1=>Ac (by rw[if_pos (by omega)])) (fun h1=> ?_)
 rw[if_neg (by omega)]
 refine Ae (fun h2=>Ac (by rw[if_pos (by omega)])) (fun h2=> ?_)
 rw[if_neg (by omega)]
 have hg0:=H8 (l:=l) (i:=0) (by omega)
 simp only[hg0,Ao]
 generalize l.getD 0 0=k at *
 refine Ad (Ad (Ae (fun h3=>Ac (by rw[if_pos (.inl h3)])) (fun h3=>Ad (Ad (Ae (fun h4=>Ac (by rw[if_pos (.inr h4)])) (fun h4=> ?_))))))
 rw[if_neg (by omega)]
 obtain ⟨J,hJ⟩ : ∃ J:Nat,k-1=(J:Int):=⟨(k-1).toNat,by omega⟩
 have hw:Api .i64 (J:Int)=(J:Int):=Aw (by omega) (by omega)
 have hcj:(a.cells.map dC).getD J D.nil=dC (a.cells.getD J (Bf 0)):=by
  rw[Au (Apk (by omega)),Apn,Apk (by omega)];rfl
 have hcr:Bo 8 (a.cells.getD J (Bf 0))=true:=by
  rw[Apn,Apk (by omega)]
  exact (Ck ha).2 _ (Aql _)
 simp only[hJ,hw,Apr,hcj]
 refine Ad (Ad (Ad (Ad (Aa (EF _ (Aa7 hcr)) (Aa (Fi n (Cd hn).fits) ?_)))))
 simp only[Ah]
 refine Aa (Hk a.s (Az n)) ?_
 simp only[Ah]
 exact Aa (Ha _ _) (Ac rfl)
theorem sw{c:Prop} [Decidable c] {t e:Tree}{x y:Arr×Int}(h1:c→Tw t [dA x.1,.int x.2])(h2 : ¬ c→Tw e [dA y.1,.int y.2]):Tw (.br (decide c) t e) [dA (if c then x else y).1,.int (if c then x else y).2]:=by
 refine Ae (fun h=> ?_) (fun h=> ?_)
 · rw[if_pos h];exact h1 h
 · rw[if_neg h];exact h2 h
noncomputable def Jw(f:Int)(a:Arr):Arr×Int :=
 if f=9076 then (Nh a,0) else
 if f=44 then (M5 a,0) else
 if f=9066 then (L0 a,0) else
 if f=9021 then (Lu a false,0) else
 if f=8854 then (Lu a true,0) else
 if f=9033 then (Ov a,0) else
 if f=8834 then I2 a else
 if f=8835 then (Mj a,0) else
 if f=8801 then (P7 a,0) else
 if f=8802 then (Ou a,0) else
 if f=8866 then (a,0) else
 if f=8867 then (a,0) else
 if f=9075 then Fd a else
 if f=8714 then Gd a else
 if f=8746 then Hv a else
 if f=9080 then Iu a else
 if f=9035 then Hh a false else
 if f=9042 then Hh a true else Df f a
theorem XN(f:Int)(a:Arr)(ha:Am 8 a=true):Sp 15 [.int f,dA a] [dA (Jw f a).1,.int (Jw f a).2]:=by
 have hs:=Cd ha
 have hc:=(Ck ha).1
 have hl:=(Dm ha).1
 refine Af 0 (Ajs _ _ _) ?_
 simp only[Ao,Cp]
 unfold Jw
 refine sw (fun _=>Aa (Ahp a hs) (Ac rfl)) (fun _=> ?_)
 refine sw (fun _=>Aa (Ahl a hs) (Ac rfl)) (fun _=> ?_)
 refine sw (fun _=>Aa (Agc a hc) (Ac rfl)) (fun _=> ?_)
 refine sw (fun _=>Aa (Aci a false hc) (Ac rfl)) (fun _=> ?_)
 refine sw (fun _=>Aa (Aci a true hc) (Ac rfl)) (fun _=> ?_)
 refine sw (fun _=>Aa (AnX a hc) (Ac rfl)) (fun _=> ?_)
 refine sw (fun _=>Aa (Ahe a hs (by omega)) (Ac rfl)) (fun _=> ?_)
 refine sw (fun _=>Aa (Ahi a hs) (Ac rfl)) (fun _=> ?_)
 refine sw (fun _=>Aa (Ahc a hs (by omega)) (Ac rfl)) (fun _=> ?_)
 refine sw (fun _=>Aa (Ahr a hs) (Ac rfl)) (fun _=> ?_)
 refine sw (fun _=>Ac rfl) (fun _=> ?_)
 refine sw (fun _=>Ac rfl) (fun _=> ?_)
 refine sw (fun _=>Aa (Afj a hs.fits hl (Qz ha)) (Ac rfl)) (fun _=> ?_)
 refine sw (fun _=>Aa (Ahg a hs) (Ac rfl)) (fun _=> ?_)
 refine sw (fun _=>Aa (Afq Ps a hs hl) (Ac rfl)) (fun _=> ?_)
 refine sw (fun _=>Aa (Ajd a ha) (Ac rfl)) (fun _=> ?_)
 refine sw (fun _=>Aa (RQ a false ha) (Ac rfl)) (fun _=> ?_)
 refine sw (fun _=>Aa (RQ a true ha) (Ac rfl)) (fun _=> ?_)
 exact Aa (Amk f 8 a ha) (Ac rfl)
noncomputable def Mt(f:Int)(a b:Arr):Arr×Int :=
 if f=8801 then (Ms a b true,0) else
 if f=8802 then (Ms a b false,0) else
 if f=9075 then Ia a b else
 if f=8714 then (Lm a b,0) else
 if f=8746 then Hu a b else
 if f=8745 then G9 a b true else
 if f=126 then G9 a b false else
 if f=47 then Hq a b false else
 if f=9023 then Hq a b true else
 if f=92 then Hf a b false else
 if f=9024 then Hf a b true else J3 8 f a b
theorem Aj0(f:Int)(a b:Arr)(ha:Am 8 a=true)(hb:Am 8 b=true)(hx:f=42→ExpOk b):Sp 42 [.int f,dA a,dA b] [dA (Mt f a b).1,.int (Mt f a b).2]:=by
 have hs:=Cd ha
 have ht:=Cd hb
 have hl:=(Dm ha).1
 have hm:=(Dm hb).1
 refine Af 0 (Aj1 _ _ _ _) ?_
 simp only[Ao,Cp]
 unfold Mt
 refine sw (fun _=>Aa (UK a b true hs ht) (Ac rfl)) (fun _=> ?_)
 refine sw (fun _=>Aa (UK a b false hs ht) (Ac rfl)) (fun _=> ?_)
 refine sw (fun _=>Aa (Afh Ps a b hs ht hl hm) (Ac rfl)) (fun _=> ?_)
 refine sw (fun _=>Aa (Afl Ps a b hs ht hl hm) (Ac rfl)) (fun _=> ?_)
 refine sw (fun _=>Aa (Afo Ps a b hs ht hl hm) (Ac rfl)) (fun _=> ?_)
 refine sw (fun _=>Aa (QS Ps a b true hs ht hl hm) (Ac rfl)) (fun _=> ?_)
 refine sw (fun _=>Aa (QS Ps a b false hs ht hl hm) (Ac rfl)) (fun _=> ?_)
 refine sw (fun _=>Aa (WR a b false ha hb) (Ac rfl)) (fun _=> ?_)
 refine sw (fun _=>Aa (WR a b true ha hb) (Ac rfl)) (fun _=> ?_)
 refine sw (fun _=>Aa (WO a b false ha hb) (Ac rfl)) (fun _=> ?_)
 refine sw (fun _=>Aa (WO a b true ha hb) (Ac rfl)) (fun _=> ?_)
 exact Aa (AaZ f 8 a b ha hb hx) (Ac rfl)
noncomputable def Ht(f:Int)(a b:Arr):Arr×Int :=
 if f=9076 then Il a b else
 if f=44 then Hc a b false else
 if f=9066 then Hc a b true else
 if f=9021 then Hr a b false else
 if f=8854 then Hr a b true else
 if f=9033 then Gj a b else
 if f=8593 then Is a b else
 if f=8595 then H3 a b else
 if f=8835 then Gv a b else
 if f=8866 then (b,0) else
 if f=8867 then (a,0) else Mt f a b
theorem JP(f:Int)(a b:Arr)(ha:Am 8 a=true)(hb:Am 8 b=true)(hx:f=42→ExpOk b):Sp 10 [.int f,dA a,dA b] [dA (Ht f a b).1,.int (Ht f a b).2]:=by
 have hs:=Cd ha
 have ht:=Cd hb
 have hl:=(Dm ha).1
 have hm:=(Dm hb).1
 have ta:=Qz ha
 have ca:=(Ck ha).1
 have cb:=(Ck hb).1
 refine Af 0 (Ajv _ _ _ _) ?_
 simp only[Ao,Cp]
 unfold Ht
 refine sw (fun _=>Aa (Ahn a b hs.fits hm hl ta) (Ac rfl)) (fun _=> ?_)
 refine sw (fun _=>Aa (SS a b false ca cb) (Ac rfl)) (fun _=> ?_)
 refine sw (fun _=>Aa (SS a b true ca cb) (Ac rfl)) (fun _=> ?_)
 refine sw (fun _=>Aa (Acj a b false hs.fits hl ta cb) (Ac rfl)) (fun _=> ?_)
 refine sw (fun _=>Aa (Acj a b true hs.fits hl ta cb) (Ac rfl)) (fun _=> ?_)
 refine sw (fun _=>Aa (AnQ a b hs.fits hl ta cb) (Ac rfl)) (fun _=> ?_)
 refine sw (fun _=>Aa (Aej a b hs.fits hl ta cb) (Ac rfl)) (fun _=> ?_)
 refine sw (fun _=>Aa (Aeh a b hs.fits hl ta cb) (Ac rfl)) (fun _=> ?_)
 refine sw (fun _=>Aa (Ajy a b ha hb) (Ac rfl)) (fun _=> ?_)
 refine sw (fun _=>Ac rfl) (fun _=> ?_)
 refine sw (fun _=>Ac rfl) (fun _=> ?_)
 exact Aa (Aj0 f a b ha hb hx) (Ac rfl)
theorem Aa6{d:Nat}{c:Cell}(l:At)(h:Bo d c=true):Bo d ⟨l,c.kind,c.n,c.c,c.inn⟩=true:=by cases d <;> exact h
theorem Aa5{d:Nat}(a:Arr):Bo d (Cr a)=true:=by
 unfold Cr
 split
 · exact J0 d I6
 · split
   · have : ∀ k r (l:At),C8 k r (⟨l,1,.zero,32,[]⟩:Cell)=true:=fun k r l=>rfl
     cases d <;> exact this _ _ _
   · exact Aa6 _ (J0 d I6)
theorem Am0{d:Nat}{a:Arr}{s f z:List Int}{i:Nat}(h:Am d a=true):Bo d (Nc a.cells (Cr a) s f z i)=true:=by
 unfold Nc
 split
 · rename_i k hk
   rw[Apn]
   cases hg:a.cells[k.toNat]? with
   | none=>exact Aa5 a
   | some c=>exact (Ck h).2 c (Apq hg)
 · exact Aa5 a
theorem PD{n a:Arr}{s f z:List Int}{d:Nat}(h:Am d a=true)(h0:(Fl n a s f z).2=0):Am d (Fl n a s f z).1=true:=by
 unfold Fl at h0 ⊢
 split at h0
 · rename_i h1
   rw[if_pos h1]
   have h2:=Fz z
   refine G8 ?_ (fun c hc=> ?_)
   · simp only[Arr.shape_mk,Arr.cells_mk,Ip,Apm,List.length_range]
     exact Prod.ext (by simp only;omega) h1
   · simp only[Arr.cells_mk,Ip,Aqw]at hc
     obtain ⟨i,_,rfl⟩:=hc
     exact Am0 h
 · rename_i h1;exact absurd h0 h1
theorem An8{n a:Arr}(h:Am 8 a=true)(h0:(Is n a).2=0):Am 8 (Is n a).1=true:=by
 unfold Is at h0 ⊢
 split at h0
 · rename_i h1;rw[if_pos h1];exact PD h h0
 · rename_i h1;exact absurd h0 h1
theorem Ae_{n a:Arr}(h:Am 8 a=true)(h0:(H3 n a).2=0):Am 8 (H3 n a).1=true:=by
 unfold H3 at h0 ⊢
 split at h0
 · rename_i h1;rw[if_pos h1];exact PD h h0
 · rename_i h1;exact absurd h0 h1
section
variable {o:At} {a b n m:Arr}
end
theorem AfU{k:Int}(h:Bd k)(s:At):A9 (Dd k s)=([k],0):=by
 unfold A9 Dd
 simp only[Arr.shape_mk,Arr.cells_mk]
 have:=SO (l:=[k]) (fun x hx=>by simp at hx;subst hx;exact h)
 simp only[Ap9,List.map_nil]at this
 rw[this];rfl
theorem AnM(k:Int)(s:At):Az (Dd k s)=s:=AnL [k] s
theorem CR{l:List Int}{s:At}(hl:l.length≤100000)(h : ∀ x∈l,Bd x):Sml 1 (C3 l s):=Sml.of (by simp[C3]) (by simp[C3];omega) (fun x hx=>by simp[C3]at hx;subst hx;exact Dn (by omega) (by omega)) (fun c hc=>by
 simp only[C3,Arr.cells_mk,Aqw]at hc
 obtain ⟨x,hx,rfl⟩:=hc
 exact K0 (h x hx) 0)
theorem AbE{α:Type}{s:At}{sh:List Int}{l:List α}{f:α→Int}(h1:sh.length≤1048576)(h3 : ∀ x∈sh,Bd x)(hl:l.length≤2048)(hf : ∀ x∈l,-100000≤f x∧f x≤100000):Sml 1 (.mk s sh (l.map (fun c=>Bf (f c)))):=by
 refine Sml.of h1 (by simp only[Arr.cells_mk,Apm];omega) h3 (fun c hc=> ?_)
 simp only[Arr.cells_mk,Aqw]at hc
 obtain ⟨x,hx,rfl⟩:=hc
 exact K0 (Dn (hf x hx).1 (hf x hx).2) 0
theorem AfP{d:Nat}{a b:Arr}(hb:Sml (d+1) b)(la:a.cells.length≤2048)(lb:b.cells.length≤2048)(h0:(Ia a b).2=0):Sml 1 (Ia a b).1:=by
 unfold Ia at h0 ⊢
 split
 · exact AbE hb.1 hb.2.2.1 lb (fun c _=>by have:=XD (c:=c) la;split <;> omega)
 · rename_i h;rw[if_neg h]at h0;cases h0
theorem AgU{d:Nat}{a b:Arr}(ha:Sml (d+1) a)(la:a.cells.length≤2048):Sml 1 (Lm a b):=AbE ha.1 ha.2.2.1 la (fun c _=>by split <;> omega)
theorem Ao1{d:Nat}{a:Arr}(ha:Sml (d+1) a)(la:a.cells.length≤2048)(h0:(Hv a).2=0):Sml (d+1) (Hv a).1:=by
 unfold Hv at h0 ⊢
 split
 · rename_i h;rw[if_pos h]at h0;cases h0
 · exact LR (fun c hc=>ha.cell c (MJ c hc)) (by have:= @MI a.cells a.cells 0;omega)
theorem AbY{d:Nat}{a b:Arr}{i:Bool}(ha:Sml (d+1) a)(la:a.cells.length≤2048)(h0:(G9 a b i).2=0):Sml (d+1) (G9 a b i).1:=by
 unfold G9 at h0 ⊢
 split
 · rename_i h;rw[if_pos h]at h0;cases h0
 · exact LR (fun c hc=>ha.cell c (CW c hc)) (by have:= @MA a.cells b.cells i;omega)
theorem Aoy{d:Nat}{a b:Arr}(ha:Sml (d+1) a)(hb:Sml (d+1) b)(h0:(Hu a b).2=0):Sml (d+1) (Hu a b).1:=by
 unfold Hu at h0 ⊢
 split
 · rename_i h;rw[if_pos h]at h0;cases h0
 · rename_i h1
   rw[if_neg h1]at h0
   split
   · rename_i h;rw[if_pos h]at h0;cases h0
   · rename_i h2
     rw[if_neg h2]at h0
     split
     · rename_i h;rw[if_pos h]at h0;cases h0
     · rename_i h3
       refine LR (fun c hc=> ?_) (by simp only[Apu];omega)
       rcases Aqs.1 hc with hc | hc
       · exact ha.cell c hc
       · exact hb.cell c (CW c hc)
theorem SP(n:Arr):(Fd n).1 = .none∧(Fd n).2≠0∨∃ k:Nat,k≤2048∧Fd n=(C3 (It k) (Az n),0):=by
 unfold Fd
 split
 · split
   · rename_i k hk
     split
     · exact .inl ⟨rfl,by decide⟩
     · split
       · exact .inl ⟨rfl,by decide⟩
       · exact .inr ⟨k.toNat,by omega,rfl⟩
   · exact .inl ⟨rfl,by decide⟩
 · rename_i h;exact .inl ⟨rfl,h⟩
theorem AfY{n:Arr}(h0:(Fd n).2=0):Sml 1 (Fd n).1:=by
 rcases SP n with ⟨_,h⟩ | ⟨k,hk,e⟩
 · exact absurd h0 h
 · rw[e];exact CR (by rw[DF];omega) (Acv hk)
theorem Ao0{a:Arr}(h:(Hv a).2≠0):(Hv a).1 = .none:=by
 unfold Hv at h ⊢; split
 · rfl
 · rename_i g;rw[if_neg g]at h;exact absurd rfl h
theorem AbX{a b:Arr}{i:Bool}(h:(G9 a b i).2≠0):(G9 a b i).1 = .none:=by
 unfold G9 at h ⊢; split
 · rfl
 · rename_i g;rw[if_neg g]at h;exact absurd rfl h
theorem Aox{a b:Arr}(h:(Hu a b).2≠0):(Hu a b).1 = .none:=by
 unfold Hu at h ⊢
 split
 · rfl
 · split
   · rfl
   · split
     · rfl
     · rename_i g1 g2 g3;rw[if_neg g1,if_neg g2,if_neg g3]at h;exact absurd rfl h
theorem AfW{n:Arr}(h:(Fd n).2≠0):(Fd n).1 = .none:=by
 rcases SP n with ⟨h1,_⟩ | ⟨k,hk,e⟩
 · exact h1
 · rw[e]at h;exact absurd rfl h
section
variable {o:At} {a b n m x y:Arr}
end
def Tells(t:Tree)(Q:Bool→Prop):Prop:=∃ b,Tw t [.bool b]∧Q b
theorem Tells.ret {b:Bool} {Q:Bool→Prop} (h:Q b):Tells (.ret [D.bool b]) Q:=⟨b,Ac rfl,h⟩
theorem Tells.br {c:Bool} {t e:Tree} {Q:Bool→Prop} (h1:c=true→Tells t Q) (h2:c=false→Tells e Q):Tells (.br c t e) Q:=by
 cases h:c with
 | true=>obtain ⟨b,h3,h4⟩:=h1 h;exact ⟨b,Bi rfl h3,h4⟩
 | false=>obtain ⟨b,h3,h4⟩:=h2 h;exact ⟨b,Eo rfl h3,h4⟩
theorem Tells.decs {c:Prop} [Decidable c] {t e:Tree} {Q:Bool→Prop} (h1:c→Tells t Q) (h2 : ¬ c→Tells e Q):Tells (.br (decide c) t e) Q:=Tells.br (fun h=>h1 (of_decide_eq_true h)) (fun h=>h2 (of_decide_eq_false h))
theorem Tells.dec {c:Prop} [Decidable c] {t e:Tree} {Q:Bool→Prop} (h:c) (h1:Tells t Q):Tells (.br (decide c) t e) Q:=Tells.decs (fun _=>h1) (fun h2=>absurd h h2)
theorem Tells.call {f:Nat} {xs ys:List D} {k:List D→Tree} {Q:Bool→Prop} (hs:Sp f xs ys) (hk:Tells (k ys) Q):Tells (.call f [] xs k) Q:=by
 obtain ⟨b,h1,h2⟩:=hk
 exact ⟨b,Aa hs h1,h2⟩
theorem Tells.mono {t:Tree} {Q R:Bool→Prop} (h:Tells t Q) (hq : ∀ b,Q b→R b):Tells t R:=by
 obtain ⟨b,h1,h2⟩:=h
 exact ⟨b,h1,hq b h2⟩
theorem AlL{d:Nat}{c:Cell}(h:Bo d c=true) : ∀ x∈c.inn,∃ e,d=e+1∧Am e x=true:=by
 intro x hx
 rcases Na h with ⟨_,_,g,_⟩ | ⟨_,_,g⟩ | ⟨_,_,_,y,e,g1,g2,_,g3⟩
 · rw[g]at hx;cases hx
 · rw[g]at hx;cases hx
 · rw[g2]at hx
   have:x=y:=by simpa using hx
   subst this
   exact ⟨e,g1,g3⟩
theorem Agv(n:Nat)(f0 a1 b2:D):fA [] n 6 [] [f0,a1,b2] =
 cK 8 [a1] fun Y1 =>
 .br (!((qA Y1).toBool)) (cK 9 [] fun Y2 =>
 .ret [D.bool ((qA Y2).toBool)])
 (cK 8 [b2] fun Y3 =>
 .br (!((qA Y3).toBool)) (cK 9 [] fun Y4 =>
 .ret [D.bool ((qA Y4).toBool)])
 (cK 15 [D.int f0.toInt,a1] fun Y5 =>
 cK 19 [a1] fun Y6 =>
 cK 15 [D.int f0.toInt,qA Y6] fun Y7 =>
 cK 10 [D.int f0.toInt,a1,b2] fun Y8 =>
 cK 19 [a1] fun Y9 =>
 cK 19 [b2] fun Y10 =>
 cK 10 [D.int f0.toInt,qA Y9,qA Y10] fun Y11 =>
 .br (((qB Y5).toInt)==((qB Y7).toInt)) (.br (((qB Y8).toInt)==((qB Y11).toInt)) (cK 20 [qA Y5,qA Y7] fun Y12 =>
 .br ((qA Y12).toBool) (cK 20 [qA Y8,qA Y11] fun Y13 =>
 .br ((qA Y13).toBool) (cK 17 [qA Y7] fun Y14 =>
 .br (((qA Y14).toInt)==0) (cK 17 [qA Y11] fun Y15 =>
 .br (((qA Y15).toInt)==0) (cK 9 [] fun Y16 =>
 .ret [D.bool ((qA Y16).toBool)])
 (.ret [D.bool false]))
 (.ret [D.bool false]))
 (.ret [D.bool false]))
 (.ret [D.bool false]))
 (.ret [D.bool false]))
 (.ret [D.bool false]))):=by kernel_rfl
theorem TD(n:Nat)(a0:D):fA [] n 8 [] [a0] =
 cK 30 [a0] fun Y1 =>
 .br ((qA Y1).toBool) (cK 31 [a0] fun Y2 =>
 .ret [D.bool ((qA Y2).toBool)])
 (.ret [D.bool false]):=by kernel_rfl
theorem Agx(n:Nat):fA [] n 9 [] [] =
 cK 32 [D.int 2,D.int 0] fun Y1 =>
 cK 33 [D.sl [D.int 5,D.int 6,D.int 7],D.int 0] fun Y2 =>
 cK 10 [D.int 8835,qA Y1,qA Y2] fun Y3 =>
 .br (((qB Y3).toInt)==0) (cK 32 [D.int 6,D.int 0] fun Y4 =>
 cK 34 [qA Y3,qA Y4] fun Y5 =>
 .br ((qA Y5).toBool) (cK 26 [D.int 9076,D.bool false] fun Y6 =>
 .br ((qA Y6).toBool) (cK 26 [D.int 42,D.bool false] fun Y7 =>
 .ret [D.bool (!((qA Y7).toBool))])
 (.ret [D.bool false]))
 (.ret [D.bool false]))
 (.ret [D.bool false]):=by kernel_rfl
def I7:List (Nat×Orc):=[(4,⟨[(1,none),(3,none)],[(1,true)],[]⟩),(11,⟨[(1,none),(3,none),(4,none),(7,none)],[(1,true),(4,true)],[]⟩)]
noncomputable def Py(n m4 m11:Nat)(i3 j7:Int)(a1 c4:D):Tree :=
 lA (eA I7 n 31 [1,1,0,1,0,0,1,0,0,1,1,1,1,0,0]) (Al I7 11) m11 ⟨(.undef:: .ptr 1 []:: .undef:: .i .i64 i3:: .ptr 4 []:: .undef:: .undef:: .i .i64 j7::uA 59),[(1,.var 26 (.d 26 a1) true),(4,.var 67 (.d 67 c4) true)],[1,4],[],[]⟩
  (Aj 2 (Aj 1 (An (jA I7 n 31 [1,1,0,1,0,0,1,1]) (Fs Tryz.prog md (Al I7 4) (fun s1=>lA (eA I7 n 31 [1,1,0,1,0,0]) (Al I7 4) m4 s1 (Aj 0 (An (jA I7 n 31 [1,1,1]) (rA 31 [26] [.tmp 2] [4])))) (Aj 0 (An (jA I7 n 31 [1,1,1]) (rA 31 [26] [.tmp 2] [4])))))))
noncomputable def Pz(n m4:Nat)(i3:Int)(a1:D):Tree :=
 lA (eA I7 n 31 [1,1,0,1,0,0]) (Al I7 4) m4 ⟨(.undef:: .ptr 1 []:: .undef:: .i .i64 i3::uA 63),[(1,.var 26 (.d 26 a1) true)],[1],[],[]⟩
  (Aj 0 (An (jA I7 n 31 [1,1,1]) (rA 31 [26] [.tmp 2] [4])))
theorem Ags(n m4 m11:Nat)(i3 j7:Int)(a1 c4:D):Py n m4 (m11+1) i3 j7 a1 c4 =
 bK (j7<(((c4.fld 4).els).length:Int)) (kK (0≤j7) (kK (j7<(((c4.fld 4).els).length:Int)) (cK 31 [((c4.fld 4).els).getD (Apj j7) D.nil] fun Y2 =>
 .br (!((qA Y2).toBool)) (.ret [D.bool false])
 (Py n m4 m11 i3 (Api .i64 (j7+1)) a1 c4))))
 (Pz n m4 (Api .i64 (i3+1)) a1):=by kernel_rfl
theorem Agt(n m4:Nat)(i3:Int)(a1:D):Pz n (m4+1) i3 a1 =
 bK (i3<(((a1.fld 2).els).length:Int)) (kK (0≤i3) (kK (i3<(((a1.fld 2).els).length:Int)) (cK 77 [(((a1.fld 2).els).getD (Apj i3) D.nil).fld 2] fun Y1 =>
 bK (2<(((((((a1.fld 2).els).getD (Apj i3) D.nil).fld 2).fld 1).els).length:Int)) (.ret [D.bool false])
 (bK (2<(((((((a1.fld 2).els).getD (Apj i3) D.nil).fld 2).fld 2).els).length:Int)) (.ret [D.bool false])
 (.br ((qB Y1).toBool) (bK (300<((qA Y1).toInt)) (.ret [D.bool false])
 (bK (((qA Y1).toInt)<(-300)) (.ret [D.bool false])
 (Py n m4 n i3 0 a1 (((a1.fld 2).els).getD (Apj i3) D.nil))))
 (Py n m4 n i3 0 a1 (((a1.fld 2).els).getD (Apj i3) D.nil)))))))
 (.ret [D.bool true]):=by kernel_rfl
theorem Agu(n:Nat)(a0:D):fA I7 n 31 [] [a0] =
 bK (60<(((a0.fld 2).els).length:Int)) (.ret [D.bool false])
 (Pz n n 0 a0):=by kernel_rfl
def JB:List Int:=[43,45,215,247,8968,8970,124,126,33,9076,44,9066,9021,8854,9033,8834,8835,8801,8802,9075,8714,8746,9080,9035,9042,8866,8867]
def MF:List Int:=[43,45,215,247,8968,8970,124,42,60,8804,61,8805,62,8800,8743,8744,9076,44,9066,9021,8854,9033,8593,8595,8835,8801,8802,9075,8714,8746,8745,126,8866,8867,47,9023,92,9024]
theorem NI(l:List Int)(f:Int):l.any (fun x=>decide (x=f))=decide (f∈l):=by
 rw[Bool.eq_iff_iff,List.any_eq_true,decide_eq_true_iff]
 exact ⟨fun ⟨x,hx,hp⟩=>by rw[← of_decide_eq_true hp];exact hx,fun h=>⟨f,h,decide_eq_true rfl⟩⟩
theorem Ajt:Sp 28 [] [dI JB]:=Af 0 (Aju _) (Ac rfl)
theorem Ajw:Sp 29 [] [dI MF]:=Af 0 (Ajx _) (Ac rfl)
theorem XM(f:Int)(two:Bool):Sp 26 [.int f,.bool two] [.bool (decide (f∈if two then MF else JB))]:=by
 refine Af 0 (Ajr _ _ _) ?_
 simp only[Bc,Ao]
 cases two with
 | true=>exact Bi rfl (Aa Ajw (Aa (LN MF f (by decide)) (Ac (by rw[NI];rfl))))
 | false=>exact Eo rfl (Aa Ajt (Aa (LN JB f (by decide)) (Ac (by rw[NI];rfl))))
theorem Agr : ∀ (d:Nat) (a:Arr),Am d a=true→∃ b,(b=true→ExpOk a)∧Sp 31 [dA a] [.bool b]:=by
 suffices key : ∀ (d:Nat) (a:Arr),(∀ e x,d=e+1→Am e x=true→∃ b,(b=true→ExpOk x)∧Sp 31 [dA x] [.bool b])→Am d a=true→∃ b,(b=true→ExpOk a)∧Sp 31 [dA a] [.bool b] by
  intro d
  induction d with
  | zero=>intro a;exact key 0 a (fun e x he=>by omega)
  | succ d ihd=>intro a;exact key (d+1) a (fun e x he=>by
         have:e=d:=by omega
         subst this;exact ihd x)
 intro d a ih hr
 have hs:=Cd hr
 have hl:=hs.2.1
 have hcs:=(Ck hr).2
 suffices hh:Tells (Pz (a.cells.length+3) (a.cells.length+3) 0 (dA a)) (fun b=>b=true→∀ c∈a.cells,Md c) by
  have hh2:Tells (.br (decide (60<(((dA a).fld 2).els.length:Int))) (.ret [D.bool false]) (Pz (a.cells.length+3) (a.cells.length+3) 0 (dA a))) (fun b=>b=true→∀ c∈a.cells,Md c):=Tells.decs (fun _=>Tells.ret (fun h=>by cases h)) (fun _=>hh)
  obtain ⟨b,h1,h2⟩:=hh2
  refine ⟨b,fun hb=> ?_,Af (a.cells.length+3) (Agu _ _) h1⟩
  have h3:=h2 hb
  cases a with
  | mk s sh cs=>exact .mk (fun c hc=>(h3 c hc).1) (fun c hc=>(h3 c hc).2)
 suffices hh : ∀ m k,k≤a.cells.length→a.cells.length<k+m→Tells (Pz (a.cells.length+3) m (k:Int) (dA a)) (fun b=>b=true→∀ c∈a.cells.drop k,Md c) from hh (a.cells.length+3) 0 (by omega) (by omega)
 intro m
 induction m with
 | zero=>intro k _ _;omega
 | succ m ihm =>
  intro k hk hm
  simp only[Agt,Ah]
  refine Tells.decs (fun hlt=>Tells.dec (by omega) (Tells.dec (by omega) ?_)) (fun hge=>Tells.ret (fun _ c hc=> ?_))
  · have hlt':k<a.cells.length:=by omega
    have h2:a.cells[k]? = some a.cells[k]:=Apk hlt'
    have hdr:a.cells.drop k=a.cells[k]::a.cells.drop (k+1):=Aqa hlt'
    generalize a.cells[k]=c at h2 hdr
    have hc:=hcs c (Apq h2)
    have hcl:=Tx hc
    have hin : ∀ r j,j≤c.inn.length→c.inn.length<j+r→Tells (Py (a.cells.length+3) m r (k:Int) (j:Int) (dA a) (dC c)) (fun b=>b=true→(∀ x∈c.inn.drop j,ExpOk x)∧∀ c∈a.cells.drop (k+1),Md c):=by
     intro r
     induction r with
     | zero=>intro j _ _;omega
     | succ r ihr =>
      intro j hj hm'
      simp only[Ags,Ah,FJ]
      refine Tells.decs (fun hlt2=>Tells.dec (by omega) (Tells.dec (by omega) ?_)) (fun hge=> ?_)
      · have hlt3:j<c.inn.length:=by omega
        have h3:c.inn[j]? = some c.inn[j]:=Apk hlt3
        have hdr3:c.inn.drop j=c.inn[j]::c.inn.drop (j+1):=Aqa hlt3
        generalize c.inn[j]=x at h3 hdr3
        obtain ⟨e,g1,g2⟩:=AlL hc x (Apq h3)
        obtain ⟨b,hb1,hb⟩:=ih e x g1 g2
        simp only[Au h3,Bh j]
        refine Tells.call hb ?_
        simp only[Ag,Bc]
        refine Tells.br (fun _=>Tells.ret (fun h=>by cases h)) (fun hnb=>(ihr (j+1) (by omega) (by omega)).mono (fun b' hb' ht=> ?_))
        obtain ⟨q1,q2⟩:=hb' ht
        refine ⟨fun y hy=> ?_,q2⟩
        rw[hdr3]at hy
        rcases Ap4.1 hy with rfl | hy
        · exact hb1 (by simpa using hnb)
        · exact q1 y hy
      · rw[Bh k]
        refine (ihm (k+1) (by omega) (by omega)).mono (fun b' hb' ht=>⟨fun x hx=> ?_,hb' ht⟩)
        rw[List.drop_eq_nil_of_le (by omega)]at hx;cases hx
    have hin':=hin (a.cells.length+3) 0 (by omega) (by omega)
    simp only[Au h2,Ah]
    refine Tells.call (AkW c.n (by omega)) ?_
    rw[show ((0:Nat):Int)=0 from rfl]at hin'
    generalize Py (a.cells.length+3) m (a.cells.length+3) (k:Int) 0 (dA a) (dC c)=T at hin' ⊢
    have fin:(∀ k,Dz c.n=some k→ -300≤k∧k≤300)→Tells T (fun b=>b=true→∀ c∈a.cells.drop k,Md c):=fun hk=>hin'.mono (fun b hb ht=>by
     obtain ⟨q1,q2⟩:=hb ht
     rw[hdr]
     intro y hy
     rcases Ap4.1 hy with rfl | hy
     · exact ⟨hk,q1⟩
     · exact q2 y hy)
    refine Tells.br (fun _=>Tells.ret (fun h=>by cases h)) (fun _=>Tells.br (fun _=>Tells.ret (fun h=>by cases h)) (fun _=> ?_))
    cases hsm:Dz c.n with
    | none =>
     rw[hsm]at fin
     simp only[Mw,Ag,C5,Bc,Ao]
     exact Tells.br (fun h=>by cases h) (fun _=>fin (fun k h=>by cases h))
    | some z =>
     rw[hsm]at fin
     simp only[Mw,Ag,C5,Bc,Ao]
     refine Tells.br (fun _=>Tells.decs (fun _=>Tells.ret (fun h=>by cases h)) (fun g1=>Tells.decs (fun _=>Tells.ret (fun h=>by cases h)) (fun g2=>fin (fun k h=> ?_)))) (fun h=>by cases h)
     injection h with h;subst h;omega
  · rw[List.drop_eq_nil_of_le (by omega)]at hc;cases hc
theorem TC(a:Arr)(ha:Fits a) : ∃ b,(b=true→Am 8 a=true∧ExpOk a)∧Sp 8 [dA a] [.bool b]:=by
 cases hg:W8 a with
 | false =>
  refine ⟨false,(fun h=>by cases h),Af 0 (TD _ _) (Aa (ZO a ha) ?_)⟩
  rw[hg]
  exact Eo rfl (Ac rfl)
 | true =>
  have hr:Am 8 a=true:=by
   unfold W8 at hg
   simp only[Apt]at hg
   exact hg.1.2
  obtain ⟨b,h1,h2⟩:=Agr 8 a hr
  refine ⟨b,fun hb=>⟨hr,h1 hb⟩,Af 0 (TD _ _) (Aa (ZO a ha) ?_)⟩
  rw[hg]
  exact Bi rfl (Aa h2 (Ac rfl))
theorem Lj{z:Int}(h1 : -100000≤z:=by decide)(h2:z≤100000:=by decide):Bd z:=Dn (by omega) (by omega)
theorem NG{k:Int}(h:Bd k):Am 8 (Dd k 0)=true:=G8 (by simp[Dd];decide) (fun c hc=>by simp[Dd]at hc;subst hc;exact J0 8 h)
theorem AoB:Am 8 (C3 [5,6,7] 0)=true:=G8 (by simp[C3];decide) (fun c hc=>by
 simp[C3]at hc
 rcases hc with rfl | rfl | rfl
 · exact J0 8 Lj
 · exact J0 8 Lj
 · exact J0 8 Lj)
theorem Ad1:Ht 8835 (Dd 2 0) (C3 [5,6,7] 0)=(Dd 6 0,0):=by
 have e:Ht 8835 (Dd 2 0) (C3 [5,6,7] 0)=Gv (Dd 2 0) (C3 [5,6,7] 0):=by
  unfold Ht
  rw[if_neg (by decide),if_neg (by decide),if_neg (by decide),if_neg (by decide),if_neg (by decide),if_neg (by decide),if_neg (by decide),if_neg (by decide),if_pos rfl]
 rw[e]
 unfold Gv
 rw[AfU Lj,AnM]
 rw[if_neg (by decide),if_neg (by decide),if_neg (by simp[C3]),if_neg (by simp[C3])]
 rfl
theorem Agw:Sp 9 [] [.bool true]:=by
 refine Af 0 (Agx _) ?_
 have t:=JP 8835 (Dd 2 0) (C3 [5,6,7] 0) (NG Lj) AoB (fun h=>by cases h)
 rw[Ad1]at t
 refine Aa (Aai 2 0 Lj) (Aa (Al3 [5,6,7] 0 (by decide) (fun x hx=>by simp at hx;rcases hx with rfl | rfl | rfl <;> exact Lj)) (Aa t ?_))
 have hsame:=ZW (Dd 6 0) (Cd (NG Lj)).fits (Dd 6 0)
 rw[Mh.2 rfl]at hsame
 refine Bi rfl (Aa (Aai 6 0 Lj) (Aa hsame (Bi rfl ?_)))
 have h1:=XM 9076 false
 rw[decide_eq_true (by decide)]at h1
 have h2:=XM 42 false
 rw[decide_eq_false (by decide)]at h2
 exact Aa h1 (Bi rfl (Aa h2 (Ac rfl)))
theorem EK:Tw (.call 9 [] [] fun y=> .ret [D.bool ((qA y).toBool)]) [.bool true]:=Aa Agw (Ac rfl)
section
variable {o:At} {a b n m:Arr}
theorem AcT(h:a.shape=b.shape):aN a=aN b:=by unfold aN;rw[h]
theorem Ad2(h:a.shape=b.shape)(f:Bool):Av a f=Av b f:=by unfold Av;rw[h]
end
theorem Aon{r:Arr→Arr→Arr×Int}{f:Int}{a b:Arr}(h0 : ¬ (En r f a b).2=0):(En r f a b).1 = .none:=by
 unfold En at h0 ⊢
 split at h0
 · rename_i h1
   rw[if_pos h1]
   split at h0
   · rename_i h2
     rw[if_pos h2]
     split at h0
     · exact absurd rfl h0
     · rename_i h3;rw[if_neg h3]
   · rename_i h2;rw[if_neg h2]
 · rename_i h1;rw[if_neg h1]
section
variable {o:At}
end
end Go.Proofs.YtokkbgpgaheakaaGreat
