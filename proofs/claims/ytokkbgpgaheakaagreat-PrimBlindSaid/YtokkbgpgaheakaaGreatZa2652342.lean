/- Proved: lemmas for the law of this folder, part 7. No condition. -/
import Derived.Test.YtokkbgpgaheakaaGreatRows
import Derived.WalkKit
import Derived.WalkSpells
import Derived.WalkLawsBesides
import Derived.Lib.Hide
import Derived.Laws.CopyOwn
import Derived.Deep.QuietTactic
import Derived.BigQuiet
import Derived.Orders
import Derived.Defers
import Derived.Recover
import Derived.Test.YtokkbgpgaheakaaGreatProg
import Derived.KernelRfl
import Derived.ProofKit
import Derived.OpenShut
import Derived.Maps.OwnRows
import Derived.Maps.Views
import Derived.Deep.RegionHeld3
import Derived.Deep.AppendLies
import Derived.Test.YtokkbgpgaheakaaGreatZ1c605e98
set_option linter.unusedSimpArgs false
set_option linter.unusedVariables false
set_option maxRecDepth 100000
open Array renaming getElem?_eq_getElem → Apy, getElem?_eq_some_iff → Aqa, getD_eq_getD_getElem? → Aqf
open BitVec renaming ofNat → Apw
open Bool renaming and_eq_true → Api
open Classical renaming not_not → Apm
open Int renaming toNat → Apa, toNat_natCast → Apj, fdiv → Ap3
open Go.IntKind renaming wrap → Aom, bits → Apl
open List renaming getElem?_eq_getElem → Apb, replicate → Apc, length_map → Apd, getD_eq_getElem?_getD → Ape, getElem?_eq_some_iff → Apf, length_cons → Apg, mem_of_getElem? → Aph, length_append → Apn, length_drop → App, length_take → Apr, getElem?_map → Aps, mem_cons → Apt, length_nil → Apv, append_nil → Apx, append_assoc → Apz, getElem?_append_left → Ap0, drop_eq_getElem_cons → Ap1, length_eq_zero_iff → Ap2, take_append_drop → Ap5, map_cons → Ap7, range → Ap8, take_of_length_le → Ap_, getElem_mem → Aqc, getElem?_append_right → Aqe, length_replicate → Aqg, mem_append → Aqh, length → Aql, all_eq_true → Aqm, nil_append → Aqp
open Nat renaming le_refl → Apo, mul_le_mul_right → Apu, mod_lt → Ap4, mod_eq_of_lt → Ap6, mul_comm → Ap9, lt_of_lt_of_le → Aqb, div_div_eq_div_mul → Aqd, pow_succ → Aqj, div_lt_iff_lt_mul → Aqk, lt_or_ge → Aqn, zero_add → Aqo
open Option renaming map_eq_some_iff → Apq, bind_eq_some_iff → Aqi
open Option.some renaming injEq → Apk
namespace Go.Proofs.YtokkbgpgaheakaaGreat
def kk(d:Nat)(cs:List Cell)(dn:Bool)(i j:Nat):Int:=if dn then Ja d (cs.getD j (Bf 0)) (cs.getD i (Bf 0)) else Ja d (cs.getD i (Bf 0)) (cs.getD j (Bf 0))
theorem ET{d:Nat}{cs:List Cell}(h : ∀ c∈cs,Bi d c=true)(i:Nat):Bi d (cs.getD i (Bf 0))=true:=by
 rw[Ape]
 cases hg:cs[i]? with
 | none=>exact Jp d Iq
 | some c=>exact h c (Aph hg)
theorem Ty{d:Nat}{cs:List Cell}{dn:Bool}(h : ∀ c∈cs,Bi d c=true):U1 (kk d cs dn):=by
 have r:=(AaH d).1
 have o:=ET h
 cases dn with
 | false=>exact ⟨fun x y _ _=>r.val _ _ (o x) (o y),fun x y _ _=>r.flip _ _ (o x) (o y),fun x y z _ _ _=>r.go _ _ _ (o x) (o y) (o z)⟩
 | true=>exact ⟨fun x y _ _=>r.val _ _ (o y) (o x),fun x y _ _=>r.flip _ _ (o y) (o x),fun x y z _ _ _ h1 h2=>r.go _ _ _ (o z) (o y) (o x) h2 h1⟩
abbrev Em(dn:Bool)(a:Arr):D:=D.fn 156 [.ref 4,.ref 26] [.ref (.bool dn),.ref (dA a)]
section
variable {d:Nat} {a:Arr} {dn:Bool} (ha : ∀ c∈a.cells,Bi d c=true)
include ha
theorem W2{i j:Nat}(hi:i<a.cells.length)(hj:j<a.cells.length):D_ Tryz.prog md 156 [.ref 4,.ref 26] [dP i,dP j,.ref (.bool dn),.ref (dA a)] [.int (kk d a.cells dn i j)]:=by
 have cell : ∀ i,i<a.cells.length→(a.cells.map dC).getD i D.nil=dC (a.cells.getD i (Bf 0)):=fun i hi=>by
   rw[Aw (Apb hi),Ape,Apb hi];rfl
 have o:=ET ha
 refine Af 0 (Af2 _ _ _ _ _) ?_
 simp only[DJ,Ba,FV,Ed,QB,Apj,Apd,cell i hi,cell j hj]
 refine B7 (fun h=> ?_) (fun h=> ?_)
 · refine Ad (Ad (Ad (Ad (Aa ((HK d).1 _ _ (o j) (o i)) (Ac ?_)))))
   simp only[Ah,Ao,kk,if_pos h]
 · refine Ad (Ad (Ad (Ad (Aa ((HK d).1 _ _ (o i) (o j)) (Ac ?_)))))
   simp only[Ah,Ao,kk,h]
   rfl
theorem SY(A X B:List Nat)(hX:X.Pairwise (· < ·))(hin : ∀ x∈X,x<a.cells.length)(hlen:A.length+X.length+B.length≤100000):Sp 250 [.sl ((A++X++B).map dP),.int (A.length:Int),.int ((A.length+X.length:Nat):Int),Em dn a] [.sl ((A++Bm (kk d a.cells dn) X++B).map dP)]:=by
 have hk:=Ty (dn:=dn) ha
 generalize hkk:kk d a.cells dn=k at *
 refine Af 200000 (AmI _ _ _ _ _ _) ?_
 simp only[Ed,Ao]
 have outer : ∀ (m t:Nat),t≤X.length→1≤t∨X.length=0→X.length-t<m→Tw (Q0 200000 m ((A++Bm k (X.take t)++X.drop t++B).map dP) (A.length:Int) ((A.length+X.length:Nat):Int) (Em dn a) ((A.length+t:Nat):Int)) [.sl ((A++Bm k X++B).map dP)]:=by
   intro m
   induction m with
   | zero=>intro t _ _ h;omega
   | succ m ih =>
    intro t ht h1 hm
    simp only[Ab8]
    by_cases he:t<X.length
    · refine Ad ?_
      have hd:X.drop t=X[t]::X.drop (t+1):=Ap1 he
      have hy:X[t]∈X:=Aqc he
      have hyl:=hin _ hy
      have htk:X.take (t+1)=X.take t++[X[t]]:=by rw[List.take_add_one,Apb he];rfl
      have hlt : ∀ z∈X.take t,z<X[t]:=fun z hz=>by
       obtain ⟨j,hj,rfl⟩:=List.mem_iff_getElem.1 hz
       rw[Apr]at hj
       rw[List.getElem_take]
       exact List.pairwise_iff_getElem.1 hX j t (by omega) he (by omega)
      have hZs:=Kw hk (X.take t)
      have hZm : ∀ z∈Bm k (X.take t),z<X[t]∧z<a.cells.length:=fun z hz=>⟨hlt z (H8.1 hz),hin z (List.mem_of_mem_take (H8.1 hz))⟩
      have hZl:(Bm k (X.take t)).length=t:=by rw[Dx,Apr];omega
      have hZp:=Kv k (X.take t)
      have nxt : ∀ Z,Z.Perm (X.take (t+1))→Z.Pairwise (By k)→Tw (Q0 200000 m ((A++Z++X.drop (t+1)++B).map dP) (A.length:Int) ((A.length+X.length:Nat):Int) (Em dn a) ((A.length+(t+1):Nat):Int)) [.sl ((A++Bm k X++B).map dP)]:=fun Z h1 h2=>by
       rw[← Lt hk h1 h2]
       exact ih (t+1) (by omega) (by omega) (by omega)
      rw[hd]
      generalize X[t]=y at *
      generalize Bm k (X.take t)=Z at *
      have hw:Aom .i64 (((A.length+t:Nat):Int)+1)=((A.length+(t+1):Nat):Int):=by rw[Ax (by omega) (by omega)];omega
      have inner:=Ji (P:=Tryz.prog) (md:=md) (fun q j (_:Unit)=>CL 200000 m q ((A++Z.take j++y::(Z.drop j++X.drop (t+1)++B)).map dP) (A.length:Int) ((A.length+X.length:Nat):Int) (Em dn a) ((A.length+t:Nat):Int) ((A.length+j:Nat):Int)) (fun _ _=>[.sl ((A++Bm k X++B).map dP)]) (fun j _=>j≤t∧∀ z∈Z.drop j,¬ By k z y)
       (fun q s hI=>by
        simp only[Ab9,hw]
        refine At ?_
        have:=nxt (y::Z) (by rw[htk];exact (hZp.cons y).trans (List.perm_append_singleton y _).symm) (List.pairwise_cons.2 ⟨fun z hz=>N3 hk (hI.2 z (by simpa using hz)),hZs⟩)
        simpa using this)
       (fun q j s hI ih'=>by
        obtain ⟨hj,hd2⟩:=hI
        have hjl:j<Z.length:=by omega
        have hz:Z[j]∈Z:=Aqc hjl
        have e1:Z.take (j+1)=Z.take j++[Z[j]]:=by rw[List.take_add_one,Apb hjl];rfl
        have e2:Z.drop j=Z[j]::Z.drop (j+1):=Ap1 hjl
        have hzl:=hZm _ hz
        have hsl:=Uo hk (z:=y) hZs (Apb hjl)
        rw[e1]
        rw[e2]at ih'
        generalize Z[j]=z at *
        have tl:(Z.take j).length=j:=by rw[Apr];omega
        have hdl:(Z.drop (j+1)).length=t-(j+1):=by rw[App];omega
        have ed:A++(Z.take j++[z])++y::(Z.drop (j+1)++X.drop (t+1)++B)=(A++Z.take j)++z::([]++y::(Z.drop (j+1)++X.drop (t+1)++B)):=by simp
        have w1:Aom .i64 (((A.length+(j+1):Nat):Int)-1)=((A.length+j:Nat):Int):=by rw[Ax (by omega) (by omega)];omega
        have al:(A++Z.take j).length=A.length+j:=by rw[Apn,tl]
        have bl:A.length+(t+1)≤A.length+X.length:=by omega
        have dl:(X.drop (t+1)).length=X.length-(t+1):=by rw[App]
        rw[ed]
        simp only[Ab9,w1,hw,Apj,Hu,Hs,Ht,List.cons_append,Rn (show A.length+j=(A++Z.take j).length from al.symm),Vi (M:=[]) (show A.length+(j+1)=(A++Z.take j).length+1+([]:List Nat).length by rw[al];simp;omega),Apd,List.length_set]
        have hll:(A++Z.take j++z::([]++y::(Z.drop (j+1)++X.drop (t+1)++B))).length=A.length+X.length+B.length:=by simp only[Apn,Apg,Apv,tl,hdl,dl];omega
        simp only[List.cons_append,Aqp]at hll
        simp only[Aqp,hll]
        refine Ad (Ad (Ad (Ad (Ad (Aa (W2 (dn:=dn) ha hyl hzl.2) ?_)))))
        simp only[Ah,Ao,hkk]
        refine Ae (fun h=> ?_) (fun h=> ?_)
        · have hn:=(Mk hk hzl.1).1 h
          refine Ad (Ad (Ad (Ad (Ad (Ad (Ad (Ad ?_)))))))
          have sw:=AbQ (A:=A++Z.take j) (M:=[]) (x:=z) (y:=y) (B:=Z.drop (j+1)++X.drop (t+1)++B) (i:=A.length+j) (j:=A.length+(j+1)) al.symm (by rw[al];simp;omega)
          simp only[Aqp]at sw
          have sw2:(((A++Z.take j++z::y::(Z.drop (j+1)++X.drop (t+1)++B)).map dP).set (A.length+(j+1)) (D.int (dP z).toInt)).set (A.length+j) (D.int (dP y).toInt)=_:=sw
          rw[sw2]
          have:=ih' () ⟨by omega,fun x hx=>by
           rcases Apt.1 hx with rfl | hx
           · exact hn
           · exact hd2 x hx⟩
          simpa using this
        · have hp:By k z y:=Apm.1 (fun hh=>h ((Mk hk hzl.1).2 hh))
          have:=nxt (Z.take (j+1)++y::Z.drop (j+1)) (by
            rw[htk]
            refine List.Perm.trans ?_ (hZp.append_right [y])
            refine List.Perm.trans List.perm_middle ?_
            rw[Ap5]
            exact (List.perm_append_singleton y _).symm) (CV (hZs.sublist (List.take_sublist _ _)) (List.pairwise_cons.2 ⟨fun x hx=>N3 hk (hd2 x hx),hZs.sublist (List.drop_sublist _ _)⟩) (fun x hx w hw=>by
            have h1:=hsl hp x hx
            rcases Apt.1 hw with rfl | hw
            · exact h1
            · exact P0 hk h1 (N3 hk (hd2 w hw))))
          rw[e1]at this
          simpa using this)
       200000 t () (by omega) ⟨Apo _,fun z hz=>by rw[List.drop_of_length_le (by omega)]at hz;cases hz⟩
      rw[Ap_ (by omega),List.drop_of_length_le (by omega)]at inner
      simpa using inner
    · refine At (Ac ?_)
      rw[Ap_ (by omega),List.drop_of_length_le (by omega)]
      simp
 by_cases h0:X.length=0
 · have hX0:=Ap2.1 h0
   subst hX0
   rw[Ax (by omega) (by simp at hlen;omega)]
   simp only[Ab8]
   exact Ow (by simp only[Apv];omega) (Ac (by simp[Bm]))
 · have:=outer 200000 1 (by omega) (by omega) (by omega)
   rw[Ane (by rw[Apr];omega)]at this
   rw[show A++X.take 1++X.drop 1++B=A++X++B by rw[Apz A,Ap5]]at this
   rw[show Aom .i64 ((A.length:Int)+1)=((A.length+1:Nat):Int) by rw[Ax (by omega) (by omega)];rfl]
   exact this
omit ha in
theorem MI(A U M V B:List Nat)(n:Nat)(hu:U.length=n)(hv:V.length=n)(hlen:A.length+n+M.length+n+B.length≤100000):Sp 322 [.sl ((A++U++M++V++B).map dP),.int (A.length:Int),.int ((A.length+n+M.length:Nat):Int),.int (n:Int),Em dn a] [.sl ((A++V++M++U++B).map dP)]:=by
 refine Af 200000 (AmP _ _ _ _ _ _ _) ?_
 simp only[Ed,Ao]
 have key:=Dl n (fun m i (_:Unit)=>CQ 200000 m ((A++(V.take i++U.drop i)++M++(U.take i++V.drop i)++B).map dP) (A.length:Int) ((A.length+n+M.length:Nat):Int) (n:Int) (i:Int)) (fun _ _=>[.sl ((A++V++M++U++B).map dP)]) (fun _ _=>True)
  (fun m s _=>by
   simp only[Ab_]
   refine At (Ac ?_)
   rw[Ap_ (by omega),Ap_ (by omega),List.drop_of_length_le (by omega),List.drop_of_length_le (by omega)]
   simp)
  (fun m i s hi _ ih=>by
   have ih:=ih () trivial
   have e1:U.take (i+1)=U.take i++[U[i]'(by omega)]:=by rw[List.take_add_one,Apb (by omega)];rfl
   have e2:V.take (i+1)=V.take i++[V[i]'(by omega)]:=by rw[List.take_add_one,Apb (by omega)];rfl
   have e3:U.drop i=U[i]'(by omega)::U.drop (i+1):=Ap1 (by omega)
   have e4:V.drop i=V[i]'(by omega)::V.drop (i+1):=Ap1 (by omega)
   rw[e1,e2]at ih
   rw[e3,e4]
   generalize U[i]'(by omega)=u at *
   generalize V[i]'(by omega)=v at *
   have t1:(V.take i).length=i:=by rw[Apr];omega
   have t2:(U.take i).length=i:=by rw[Apr];omega
   have t3:(U.drop (i+1)).length=n-(i+1):=by rw[App];omega
   have t4:(V.drop (i+1)).length=n-(i+1):=by rw[App];omega
   have al:(A++V.take i).length=A.length+i:=by rw[Apn,t1]
   have ml:(U.drop (i+1)++M++U.take i).length=n-1+M.length:=by simp only[Apn,t3,t2];omega
   have ed:A++(V.take i++u::U.drop (i+1))++M++(U.take i++v::V.drop (i+1))++B=(A++V.take i)++u::((U.drop (i+1)++M++U.take i)++v::(V.drop (i+1)++B)):=by simp
   have hll:((A++V.take i)++u::((U.drop (i+1)++M++U.take i)++v::(V.drop (i+1)++B))).length=A.length+n+M.length+n+B.length:=by rw[Apn,al,Apg,Apn,ml,Apg,Apn,t4];omega
   have w1:Aom .i64 (((A.length+n+M.length:Nat):Int)+(i:Int))=((A.length+n+M.length+i:Nat):Int):=by rw[Ax (by omega) (by omega)];omega
   have w2:Aom .i64 ((A.length:Int)+(i:Int))=((A.length+i:Nat):Int):=by rw[Ax (by omega) (by omega)];omega
   rw[ed]
   have sw:=AbR (A:=A++V.take i) (M:=U.drop (i+1)++M++U.take i) (x:=u) (y:=v) (B:=V.drop (i+1)++B) (i:=A.length+i) (j:=A.length+n+M.length+i) al.symm (by rw[al,ml];omega)
   simp only[Ab_,w1,w2,Apj,Rn (show A.length+i=(A++V.take i).length from al.symm),Vi (show A.length+n+M.length+i=(A++V.take i).length+1+(U.drop (i+1)++M++U.take i).length by rw[al,ml];omega),Apd,List.length_set,hll,Bh i]
   have sw2:((((A++V.take i)++u::((U.drop (i+1)++M++U.take i)++v::(V.drop (i+1)++B))).map dP).set (A.length+i) (D.int (dP v).toInt)).set (A.length+n+M.length+i) (D.int (dP u).toInt)=_:=sw
   rw[sw2]
   refine Ad (Ad (Ad (Ad (Ad (Ad (Ad (Ad (Ad ?_))))))))
   simpa using ih)
  200000 0 () (by omega) (by omega) trivial
 simpa using key
omit ha in
theorem Al4(A X Y B:List Nat)(hx:1≤X.length)(hy:1≤Y.length)(hlen:A.length+X.length+Y.length+B.length≤100000):Sp 300 [.sl ((A++X++Y++B).map dP),.int (A.length:Int),.int ((A.length+X.length:Nat):Int),.int ((A.length+X.length+Y.length:Nat):Int),Em dn a] [.sl ((A++Y++X++B).map dP)]:=by
 refine Af 200000 (AmK _ _ _ _ _ _ _) ?_
 simp only[Ed,Ao]
 have key : ∀ (m:Nat) (mm:Nat) (A U V B:List Nat),U.length+V.length<m→1≤U.length→1≤V.length→A.length+U.length=mm→A.length+U.length+V.length+B.length≤100000→Tw (Ua 200000 m ((A++U++V++B).map dP) (mm:Int) (Em dn a) (U.length:Int) (V.length:Int)) [.sl ((A++V++U++B).map dP)]:=by
  intro m
  induction m with
  | zero=>intro mm A U V B h;omega
  | succ m ih =>
   intro mm A U V B hm h1 h2 hmm hl
   simp only[AmJ,Dg]
   have w1:Aom .i64 ((mm:Int)-(U.length:Int))=(A.length:Int):=by rw[Ax (by omega) (by omega)];omega
   rw[w1]
   refine Ae (fun hne=>Ae (fun hlt=> ?_) (fun hlt=> ?_)) (fun he=> ?_)
   ·
     have hsp:=MI (dn:=dn) (a:=a) A (U.take V.length) (U.drop V.length) V B V.length (by rw[Apr];omega) rfl (by rw[App];omega)
     rw[show A++U.take V.length++U.drop V.length++V++B=A++U++V++B by rw[Apz A,Ap5]]at hsp
     rw[show A.length+V.length+(U.drop V.length).length=mm by rw[App];omega]at hsp
     refine Aa hsp ?_
     have:=ih mm (A++V) (U.drop V.length) (U.take V.length) B (by rw[App,Apr];omega) (by rw[App];omega) (by rw[Apr];omega) (by rw[Apn,App];omega) (by rw[Apn,App,Apr];omega)
     rw[show (A++V)++U.take V.length++U.drop V.length++B=A++V++U++B by rw[Apz (A++V),Ap5]]at this
     rw[show (U.drop V.length).length=U.length-V.length by rw[App],show (U.take V.length).length=V.length by rw[Apr];omega]at this
     rw[show Aom .i64 ((U.length:Int)-(V.length:Int))=((U.length-V.length:Nat):Int) by rw[Ax (by omega) (by omega)];omega]
     exact this
   · have hq:U.length<V.length:=by omega
     have hsp:=MI (dn:=dn) (a:=a) A U (V.take (V.length-U.length)) (V.drop (V.length-U.length)) B U.length rfl (by rw[App];omega) (by rw[Apr];omega)
     rw[show A++U++V.take (V.length-U.length)++V.drop (V.length-U.length)++B=A++U++V++B by rw[Apz (A++U),Ap5]]at hsp
     rw[show A.length+U.length+(V.take (V.length-U.length)).length=mm+V.length-U.length by rw[Apr];omega]at hsp
     rw[show Aom .i64 ((Aom .i64 ((mm:Int)+(V.length:Int)))-(U.length:Int))=((mm+V.length-U.length:Nat):Int) by rw[Ax (x:=(mm:Int)+(V.length:Int)) (by omega) (by omega),Ax (by omega) (by omega)];omega]
     refine Aa hsp ?_
     have:=ih mm A (V.drop (V.length-U.length)) (V.take (V.length-U.length)) (U++B) (by rw[App,Apr];omega) (by rw[App];omega) (by rw[Apr];omega) (by rw[App];omega) (by rw[Apn,App,Apr];omega)
     rw[show A++V.take (V.length-U.length)++V.drop (V.length-U.length)++(U++B)=A++V++U++B by rw[Apz A,Ap5];simp]at this
     rw[show A++V.drop (V.length-U.length)++V.take (V.length-U.length)++(U++B)=A++V.drop (V.length-U.length)++V.take (V.length-U.length)++U++B by simp]at this
     rw[show (V.drop (V.length-U.length)).length=U.length by rw[App];omega,show (V.take (V.length-U.length)).length=V.length-U.length by rw[Apr];omega]at this
     rw[show Aom .i64 ((V.length:Int)-(U.length:Int))=((V.length-U.length:Nat):Int) by rw[Ax (by omega) (by omega)];omega]
     exact this
   · have he:U.length=V.length:=by omega
     have hsp:=MI (dn:=dn) (a:=a) A U [] V B U.length rfl he.symm (by simp;omega)
     simp only[Apx,Apv,Nat.add_zero,hmm]at hsp
     exact Aa hsp (Ac rfl)
 rw[show Aom .i64 (((A.length+X.length:Nat):Int)-(A.length:Int))=(X.length:Int) by rw[Ax (by omega) (by omega)];omega,show Aom .i64 (((A.length+X.length+Y.length:Nat):Int)-((A.length+X.length:Nat):Int))=(Y.length:Int) by rw[Ax (by omega) (by omega)];omega]
 exact key 200000 _ A X Y B (by omega) hx hy rfl hlen
end
theorem WD{p:Prop}{i:Decidable p}(h:(!(@decide p i))=true) : ¬ p:=by
 cases h' : @decide p i
 · exact of_decide_eq_false h'
 · rw[h']at h;cases h
theorem WC{p:Prop}{i:Decidable p}(h:(!(@decide p i))=false):p:=by
 cases h' : @decide p i
 · rw[h']at h;cases h
 · exact of_decide_eq_true h'
theorem Pr{A Y B:List Nat}{t i:Nat}{y:Nat}(h:Y[t]? = some y)(hi:i=A.length+t):((A++Y++B).map dP).getD i D.nil=dP y:=by
 obtain ⟨ht,rfl⟩:=Apf.1 h
 subst hi
 rw[Ape,Aps,Apz,Aqe (by omega),Nat.add_sub_cancel_left,Ap0 ht,Apb ht]
 rfl
theorem AbV{l:List Nat}{t:Nat}(h:t<l.length):l.take (t+1)=l.take t++[l[t]]:=by rw[List.take_add_one,Apb h];rfl
section
variable {d:Nat} {a:Arr} {dn:Bool} (ha : ∀ c∈a.cells,Bi d c=true)
include ha
theorem Anl(A:List Nat)(x:Nat)(Y B:List Nat)(hY:Y.Pairwise (By (kk d a.cells dn)))(hlt : ∀ y∈Y,x<y)(hx:x<a.cells.length)(hin : ∀ y∈Y,y<a.cells.length)(hlen:A.length+1+Y.length+B.length≤100000) :
  ∀ m u v,v-u<m→u≤v→v≤Y.length→(∀ y∈Y.take u,By (kk d a.cells dn) y x)→(∀ y∈Y.drop v,By (kk d a.cells dn) x y)→Tw (Uc 200000 m ((A++[x]++Y++B).map dP) (A.length:Int) (Em dn a) ((A.length+1+u:Nat):Int) ((A.length+1+v:Nat):Int)) [.sl ((A++Bm (kk d a.cells dn) ([x]++Y)++B).map dP)]:=by
 have hk:=Ty (dn:=dn) ha
 intro m
 induction m with
 | zero=>intro u v h;omega
 | succ m ih =>
  intro u v hm huv hv h1 h2
  have hll:(A++[x]++Y++B).length=A.length+1+Y.length+B.length:=by simp only[Apn,Apg,Apv]
  simp only[AmS]
  rw[W_ (by omega)]
  by_cases he:u<v
  · have hh:(A.length+1+u+(A.length+1+v)) / 2=A.length+1+(u+v) / 2:=by omega
    rw[hh]
    obtain ⟨h,hdef⟩ : ∃ h,h=(u+v) / 2:=⟨_,rfl⟩
    rw[← hdef]
    have b1:u≤h:=by omega
    have b2:h<v:=by omega
    have hy:Y[h]? = some (Y[h]'(by omega)):=Apb (by omega)
    have hmem:Y[h]'(by omega)∈Y:=Aqc _
    generalize Y[h]'(by omega)=y at *
    have gy:((A++[x]++Y++B).map dP).getD (A.length+1+h) D.nil=dP y:=Pr (A:=A++[x]) hy (by simp)
    have gx:((A++[x]++Y++B).map dP).getD A.length D.nil=dP x:=by
      have:=Pr (A:=A) (Y:=[x]) (B:=Y++B) (t:=0) (i:=A.length) (y:=x) rfl rfl
      rw[Apz (A++[x])]
      exact this
    simp only[Apj,gy,gx,Hu,Hs,Ht,List.cons_append,Aqp,Apd]
    simp only[List.cons_append,Aqp,Apz]at hll
    simp only[List.cons_append,Aqp,Apz,hll]
    refine Ad (Ad (Ad (Ad (Ad (Ad (Aa (W2 (dn:=dn) ha (hin y hmem) hx) ?_))))))
    simp only[Ah,Ao]
    have w:Aom .i64 (((A.length+1+h:Nat):Int)+1)=((A.length+1+(h+1):Nat):Int):=by rw[Ax (by omega) (by omega)];omega
    rw[w]
    have e1:=ih (h+1) v (by omega) (by omega) hv
    have e2:=ih u h (by omega) b1 (by omega) h1
    simp only[List.cons_append,Aqp,Apz]at e1 e2
    refine Ae (fun g=> ?_) (fun g=> ?_)
    · have:=N3 hk ((Mk hk (hlt y hmem)).1 g)
      exact e1 (Uo hk hY hy this) h2
    · have:By (kk d a.cells dn) x y:=Apm.1 (fun hh=>g ((Mk hk (hlt y hmem)).2 hh))
      exact e2 (W1 hk hY hy this)
  · have:u=v:=by omega
    subst this
    refine At ?_
    have hs:Bm (kk d a.cells dn) ([x]++Y)=Y.take u++x::Y.drop u:=Lt hk (by
       refine List.Perm.trans List.perm_middle ?_
       rw[Ap5];exact List.Perm.refl _) (CV (hY.sublist (List.take_sublist _ _)) (List.pairwise_cons.2 ⟨h2,hY.sublist (List.drop_sublist _ _)⟩) (fun y hy z hz=>by
       rcases Apt.1 hz with rfl | hz
       · exact h1 y hy
       · exact P0 hk (h1 y hy) (h2 z hz)))
    rw[hs]
    have key:=Dl u (fun q i (_:Unit)=>CS 200000 q ((A++Y.take i++x::(Y.drop i++B)).map dP) ((A.length+1+u:Nat):Int) ((A.length+i:Nat):Int)) (fun _ _=>[.sl ((A++(Y.take u++x::Y.drop u)++B).map dP)]) (fun _ _=>True)
      (fun q s _=>by
       have w:Aom .i64 (((A.length+1+u:Nat):Int)-1)=((A.length+u:Nat):Int):=by rw[Ax (by omega) (by omega)];omega
       simp only[AbB,w]
       refine At (Ac ?_)
       simp)
      (fun q i s hi _ ih'=>by
       have ih':=ih' () trivial
       have hil:i<Y.length:=by omega
       rw[AbV hil]at ih'
       have e4:Y.drop i=Y[i]::Y.drop (i+1):=Ap1 hil
       rw[e4]
       generalize Y[i]=y at *
       have t1:(Y.take i).length=i:=by rw[Apr];omega
       have t4:(Y.drop (i+1)).length=Y.length-(i+1):=by rw[App]
       have al:(A++Y.take i).length=A.length+i:=by rw[Apn,t1]
       have w:Aom .i64 (((A.length+1+u:Nat):Int)-1)=((A.length+u:Nat):Int):=by rw[Ax (by omega) (by omega)];omega
       have w2:Aom .i64 (((A.length+i:Nat):Int)+1)=((A.length+i+1:Nat):Int):=by rw[Ax (by omega) (by omega)];omega
       have hll2:(A++Y.take i++x::(y::Y.drop (i+1)++B)).length=A.length+1+Y.length+B.length:=by rw[Apn,al,Apg,Apn,Apg,t4];omega
       have sw:=AbR (A:=A++Y.take i) (M:=[]) (x:=x) (y:=y) (B:=Y.drop (i+1)++B) (i:=A.length+i) (j:=A.length+i+1) al.symm (by rw[al];rfl)
       have g1:=Rn (A:=A++Y.take i) (x:=x) (B:=y::Y.drop (i+1)++B) (i:=A.length+i) al.symm
       have g2:=Vi (A:=A++Y.take i) (M:=[]) (x:=x) (y:=y) (B:=Y.drop (i+1)++B) (i:=A.length+i+1) (by rw[al];rfl)
       simp only[Aqp]at sw g2
       simp only[List.cons_append]at hll2 g1
       simp only[List.cons_append]
       simp only[AbB,w,w2,Apj,g1,g2,Apd,List.length_set,hll2]
       have sw2:(((A++Y.take i++x::y::(Y.drop (i+1)++B)).map dP).set (A.length+i) (D.int (dP y).toInt)).set (A.length+i+1) (D.int (dP x).toInt)=_:=sw
       rw[sw2]
       refine Ad (Ad (Ad (Ad (Ad (Ad (Ad (Ad (Ad ?_))))))))
       simpa [Nat.add_assoc]using ih')
      200000 0 () (by omega) (by omega) trivial
    simpa using key
theorem Anm(A X:List Nat)(y:Nat)(B:List Nat)(hX:X.Pairwise (By (kk d a.cells dn)))(hlt : ∀ x∈X,x<y)(hy:y<a.cells.length)(hin : ∀ x∈X,x<a.cells.length)(hlen:A.length+X.length+1+B.length≤100000) :
  ∀ m u v,v-u<m→u≤v→v≤X.length→(∀ x∈X.take u,By (kk d a.cells dn) x y)→(∀ x∈X.drop v,By (kk d a.cells dn) y x)→Tw (Ub 200000 m ((A++X++[y]++B).map dP) ((A.length+X.length:Nat):Int) (Em dn a) ((A.length+u:Nat):Int) ((A.length+v:Nat):Int)) [.sl ((A++Bm (kk d a.cells dn) (X++[y])++B).map dP)]:=by
 have hk:=Ty (dn:=dn) ha
 intro m
 induction m with
 | zero=>intro u v h;omega
 | succ m ih =>
  intro u v hm huv hv h1 h2
  have hll:(A++X++[y]++B).length=A.length+X.length+1+B.length:=by simp only[Apn,Apg,Apv]
  simp only[AmQ]
  rw[W_ (by omega)]
  by_cases he:u<v
  · have hh:(A.length+u+(A.length+v)) / 2=A.length+(u+v) / 2:=by omega
    rw[hh]
    obtain ⟨h,hdef⟩ : ∃ h,h=(u+v) / 2:=⟨_,rfl⟩
    rw[← hdef]
    have b1:u≤h:=by omega
    have b2:h<v:=by omega
    have hx:X[h]? = some (X[h]'(by omega)):=Apb (by omega)
    have hmem:X[h]'(by omega)∈X:=Aqc _
    generalize X[h]'(by omega)=x at *
    have gx:((A++X++[y]++B).map dP).getD (A.length+h) D.nil=dP x:=by
      have:=Pr (A:=A) (Y:=X) (B:=[y]++B) (i:=A.length+h) hx rfl
      rw[Apz (A++X)]
      exact this
    have gy:((A++X++[y]++B).map dP).getD (A.length+X.length) D.nil=dP y:=Pr (A:=A++X) (Y:=[y]) (t:=0) (y:=y) rfl (by simp)
    simp only[Apj,gy,gx,Hu,Hs,Ht,List.cons_append,Aqp,Apd,hll]
    refine Ad (Ad (Ad (Ad (Ad (Ad (Aa (W2 (dn:=dn) ha hy (hin x hmem)) ?_))))))
    simp only[Ah,Ao,E0]
    have w:Aom .i64 (((A.length+h:Nat):Int)+1)=((A.length+(h+1):Nat):Int):=by rw[Ax (by omega) (by omega)];omega
    rw[w]
    refine B7 (fun g=> ?_) (fun g=> ?_)
    · have g : ¬ kk d a.cells dn y x<0:=WD g
      have:By (kk d a.cells dn) x y:=Apm.1 (fun hh=>g ((Mk hk (hlt x hmem)).2 hh))
      exact ih (h+1) v (by omega) (by omega) hv (Uo hk hX hx this) h2
    · have:=N3 hk ((Mk hk (hlt x hmem)).1 (WC g))
      exact ih u h (by omega) b1 (by omega) h1 (W1 hk hX hx this)
  · have:u=v:=by omega
    subst this
    refine At ?_
    have hs:Bm (kk d a.cells dn) (X++[y])=X.take u++y::X.drop u:=Lt hk (by
       refine List.Perm.trans List.perm_middle ?_
       rw[Ap5];exact (List.perm_append_singleton y _).symm) (CV (hX.sublist (List.take_sublist _ _)) (List.pairwise_cons.2 ⟨h2,hX.sublist (List.drop_sublist _ _)⟩) (fun x hx z hz=>by
       rcases Apt.1 hz with rfl | hz
       · exact h1 x hx
       · exact P0 hk (h1 x hx) (h2 z hz)))
    rw[hs]
    have key:=Ji (P:=Tryz.prog) (md:=md) (fun q j (_:Unit)=>CR 200000 q ((A++X.take (u+j)++y::(X.drop (u+j)++B)).map dP) ((A.length+u:Nat):Int) ((A.length+(u+j):Nat):Int)) (fun _ _=>[.sl ((A++(X.take u++y::X.drop u)++B).map dP)]) (fun j _=>u+j≤X.length)
      (fun q s _=>by
       simp only[AbA]
       refine At (Ac ?_)
       simp)
      (fun q j s hj ih'=>by
       have ih':=ih' () (by omega)
       have hil:u+j<X.length:=by omega
       have e4:X.drop (u+j)=X[u+j]::X.drop (u+(j+1)):=Ap1 hil
       rw[e4]at ih'
       have e5:X.take (u+(j+1))=X.take (u+j)++[X[u+j]]:=AbV hil
       rw[e5]
       generalize X[u+j]=x at *
       have t1:(X.take (u+j)).length=u+j:=by rw[Apr];omega
       have t4:(X.drop (u+(j+1))).length=X.length-(u+(j+1)):=by rw[App]
       have al:(A++X.take (u+j)).length=A.length+(u+j):=by rw[Apn,t1]
       have w2:Aom .i64 (((A.length+(u+(j+1)):Nat):Int)-1)=((A.length+(u+j):Nat):Int):=by rw[Ax (by omega) (by omega)];omega
       have ed:A++(X.take (u+j)++[x])++y::(X.drop (u+(j+1))++B)=A++X.take (u+j)++x::y::(X.drop (u+(j+1))++B):=by simp
       have hll2:(A++X.take (u+j)++x::y::(X.drop (u+(j+1))++B)).length=A.length+X.length+1+B.length:=by rw[Apn,al,Apg,Apg,Apn,t4];omega
       have sw:=AbQ (A:=A++X.take (u+j)) (M:=[]) (x:=x) (y:=y) (B:=X.drop (u+(j+1))++B) (i:=A.length+(u+j)) (j:=A.length+(u+(j+1))) al.symm (by rw[al];simp;omega)
       have g1:=Rn (A:=A++X.take (u+j)) (x:=x) (B:=y::(X.drop (u+(j+1))++B)) (i:=A.length+(u+j)) al.symm
       have g2:=Vi (A:=A++X.take (u+j)) (M:=[]) (x:=x) (y:=y) (B:=X.drop (u+(j+1))++B) (i:=A.length+(u+(j+1))) (by rw[al];simp;omega)
       simp only[Aqp]at sw g2
       rw[ed]
       simp only[AbA,w2,Apj,g1,g2,Apd,List.length_set,hll2]
       have sw2:(((A++X.take (u+j)++x::y::(X.drop (u+(j+1))++B)).map dP).set (A.length+(u+(j+1))) (D.int (dP x).toInt)).set (A.length+(u+j)) (D.int (dP y).toInt)=_:=sw
       rw[sw2]
       refine Ad (Ad (Ad (Ad (Ad (Ad (Ad (Ad (Ad ?_))))))))
       simpa using ih')
      200000 (X.length-u) () (by omega) (by omega)
    rw[show u+(X.length-u)=X.length by omega,Ap_ (Apo _),List.drop_of_length_le (Apo _)]at key
    simpa using key
omit ha in
theorem PM{k:Nat→Nat→Int}{l:List Nat}{t:Nat}(h:l.Pairwise (By k)) : ∀ x∈l.take t,∀ y∈l.drop t,By k x y:=by
 rw[← Ap5 t l]at h
 exact (List.pairwise_append.1 h).2.2
theorem AbS : ∀ (N:Nat) (A X Y B:List Nat),X.length+Y.length≤N→1≤X.length→1≤Y.length→A.length+X.length+Y.length+B.length≤100000→(∀ x∈X,x<a.cells.length)→(∀ y∈Y,y<a.cells.length)→X.Pairwise (By (kk d a.cells dn))→Y.Pairwise (By (kk d a.cells dn))→(∀ x∈X,∀ y∈Y,x<y) →
  Sp 251 [.sl ((A++X++Y++B).map dP),.int (A.length:Int),.int ((A.length+X.length:Nat):Int),.int ((A.length+X.length+Y.length:Nat):Int),Em dn a] [.sl ((A++Bm (kk d a.cells dn) (X++Y)++B).map dP)]:=by
 have hk:=Ty (dn:=dn) ha
 intro N
 induction N with
 | zero=>intro A X Y B h h1;omega
 | succ N IH =>
  intro A X Y B hN hx1 hy1 hlen hXin hYin hX hY hlt
  refine Af 200000 (AmT _ _ _ _ _ _ _) ?_
  simp only[Ed,Ao]
  have w1:Aom .i64 (((A.length+X.length:Nat):Int)-(A.length:Int))=(X.length:Int):=by rw[Ax (by omega) (by omega)];omega
  have w2:Aom .i64 (((A.length+X.length+Y.length:Nat):Int)-((A.length+X.length:Nat):Int))=(Y.length:Int):=by rw[Ax (by omega) (by omega)];omega
  rw[w1,w2]
  simp only[Cn]
  refine Ae (fun hX1=> ?_) (fun hX1=> ?_)
  · obtain ⟨x,rfl⟩:=Is (l:=X) (by omega)
    have:=Anl (dn:=dn) ha A x Y B hY (fun y hy=>hlt x (by simp) y hy) (hXin x (by simp)) hYin (by simpa using hlen) 200000 0 Y.length (by omega) (by omega) (by omega) (by simp) (by simp)
    exact this
  refine Ae (fun hY1=> ?_) (fun hY1=> ?_)
  · obtain ⟨y,rfl⟩:=Is (l:=Y) (by omega)
    have:=Anm (dn:=dn) ha A X y B hX (fun x hx=>hlt x hx y (by simp)) (hYin y (by simp)) hXin (by simpa using hlen) 200000 0 X.length (by omega) (by omega) (by omega) (by simp) (by simp)
    exact this
  have w0:=W_ (i:=A.length) (j:=A.length+X.length+Y.length) (by omega)
  obtain ⟨q,hq⟩ : ∃ q,q=(X.length+Y.length) / 2:=⟨_,rfl⟩
  rw[show (A.length+(A.length+X.length+Y.length)) / 2=A.length+q by omega]at w0
  simp only[w0]
  have w3:Aom .i64 (((A.length+q:Nat):Int)+((A.length+X.length:Nat):Int))=((A.length+q+(A.length+X.length):Nat):Int):=by rw[Ax (by omega) (by omega)];omega
  have w4:Aom .i64 (((A.length+q+(A.length+X.length):Nat):Int)-1)=((A.length+q+(A.length+X.length)-1:Nat):Int):=by rw[Ax (by omega) (by omega)];omega
  simp only[w3,w4]
  have search : ∀ (t0 t1:Nat),t1≤X.length→t1≤q→q≤t0+Y.length→∀ m s r,r-s<m→t0≤s→s≤r→r≤t1→(∀ x∈X.take s,∀ y∈Y.drop (q-s),By (kk d a.cells dn) x y)→(∀ y∈Y.take (q-r),∀ x∈X.drop r,By (kk d a.cells dn) y x) →
     Tw (Q4 200000 m ((A++X++Y++B).map dP) (A.length:Int) ((A.length+X.length:Nat):Int) ((A.length+X.length+Y.length:Nat):Int) (Em dn a) ((A.length+q:Nat):Int) ((A.length+q+(A.length+X.length):Nat):Int) ((A.length+s:Nat):Int) ((A.length+r:Nat):Int) ((A.length+q+(A.length+X.length)-1:Nat):Int)) [.sl ((A++Bm (kk d a.cells dn) (X++Y)++B).map dP)]:=by
    intro t0 t1 ht1 ht1' ht0 m
    induction m with
    | zero=>intro s r h;omega
    | succ m ih =>
     intro s r hm hs0 hsr hr1 inv1 inv2
     simp only[AmR]
     rw[W_ (by omega)]
     by_cases he:s<r
     · rw[show (A.length+s+(A.length+r)) / 2=A.length+(s+r) / 2 by omega]
       obtain ⟨h,hdef⟩ : ∃ h,h=(s+r) / 2:=⟨_,rfl⟩
       rw[← hdef]
       have b1:s≤h:=by omega
       have b2:h<r:=by omega
       have hx:X[h]? = some (X[h]'(by omega)):=Apb (by omega)
       have hxm:X[h]'(by omega)∈X:=Aqc _
       have hy:Y[q-1-h]? = some (Y[q-1-h]'(by omega)):=Apb (by omega)
       have hym:Y[q-1-h]'(by omega)∈Y:=Aqc _
       generalize X[h]'(by omega)=x at *
       generalize Y[q-1-h]'(by omega)=y at *
       have w5:Aom .i64 (((A.length+q+(A.length+X.length)-1:Nat):Int)-((A.length+h:Nat):Int))=((A.length+X.length+(q-1-h):Nat):Int):=by rw[Ax (by omega) (by omega)];omega
       have w6:Aom .i64 (((A.length+h:Nat):Int)+1)=((A.length+(h+1):Nat):Int):=by rw[Ax (by omega) (by omega)];omega
       have gx:((A++X++Y++B).map dP).getD (A.length+h) D.nil=dP x:=by
         have:=Pr (A:=A) (Y:=X) (B:=Y++B) (i:=A.length+h) hx rfl
         rw[Apz (A++X)]
         exact this
       have gy:((A++X++Y++B).map dP).getD (A.length+X.length+(q-1-h)) D.nil=dP y:=Pr (A:=A++X) hy (by simp)
       have hll:(A++X++Y++B).length=A.length+X.length+Y.length+B.length:=by simp only[Apn]
       simp only[w5,w6,Apj,gy,gx,Hu,Hs,Ht,List.cons_append,Aqp,Apd,hll]
       refine Ad (Ad (Ad (Ad (Ad (Ad (Aa (W2 (dn:=dn) ha (hYin y hym) (hXin x hxm)) ?_))))))
       simp only[Ah,Ao,E0]
       refine B7 (fun g=> ?_) (fun g=> ?_)
       · have g : ¬ kk d a.cells dn y x<0:=WD g
         have:By (kk d a.cells dn) x y:=Apm.1 (fun hh=>g ((Mk hk (hlt x hxm y hym)).2 hh))
         refine ih (h+1) r (by omega) (by omega) (by omega) hr1 (fun x' hx'=> ?_) inv2
         rw[show q-(h+1)=q-1-h by omega]
         exact W1 hk hY hy (Uo hk hX hx this x' hx')
       · have:=N3 hk ((Mk hk (hlt x hxm y hym)).1 (WC g))
         refine ih s h (by omega) (by omega) (by omega) (by omega) inv1 (fun y' hy'=> ?_)
         rw[show q-h=q-1-h+1 by omega]at hy'
         exact W1 hk hX hx (Uo hk hY hy this y' hy')
     · have:s=r:=by omega
       subst this
       refine At ?_
       have hXe:X=X.take s++X.drop s:=(Ap5 _ _).symm
       have hYe:Y=Y.take (q-s)++Y.drop (q-s):=(Ap5 _ _).symm
       have l1:(X.take s).length=s:=by rw[Apr];omega
       have l2:(X.drop s).length=X.length-s:=by rw[App]
       have l3:(Y.take (q-s)).length=q-s:=by rw[Apr];omega
       have l4:(Y.drop (q-s)).length=Y.length-(q-s):=by rw[App]
       have c1:=PM (t:=s) hX
       have c2:=PM (t:=q-s) hY
       have m1 : ∀ x∈X.take s,x∈X:=fun x h=>List.mem_of_mem_take h
       have m2 : ∀ x∈X.drop s,x∈X:=fun x h=>List.mem_of_mem_drop h
       have m3 : ∀ x∈Y.take (q-s),x∈Y:=fun x h=>List.mem_of_mem_take h
       have m4 : ∀ x∈Y.drop (q-s),x∈Y:=fun x h=>List.mem_of_mem_drop h
       have p1:=hX.sublist (List.take_sublist s X)
       have p2:=hX.sublist (List.drop_sublist s X)
       have p3:=hY.sublist (List.take_sublist (q-s) Y)
       have p4:=hY.sublist (List.drop_sublist (q-s) Y)
       have hdata:A++X++Y++B=A++X.take s++X.drop s++Y.take (q-s)++(Y.drop (q-s)++B):=by
         have e:A++(X.take s++X.drop s)++(Y.take (q-s)++Y.drop (q-s))++B=A++X.take s++X.drop s++Y.take (q-s)++(Y.drop (q-s)++B):=by simp only[Apz]
         rw[Ap5,Ap5]at e
         exact e
       have hxy:(X++Y).Perm ((X.take s++Y.take (q-s))++(X.drop s++Y.drop (q-s))):=by
         have e:X++Y=X.take s++((X.drop s++Y.take (q-s))++Y.drop (q-s)):=by
           rw[Apz (X.drop s),Ap5,← Apz,Ap5]
         rw[e,Apz (X.take s),← Apz (Y.take (q-s))]
         exact List.Perm.append_left _ (List.Perm.append_right _ List.perm_append_comm)
       generalize X.take s=X1 at *
       generalize X.drop s=X2 at *
       generalize Y.take (q-s)=Y1 at *
       generalize Y.drop (q-s)=Y2 at *
       have hsrt:Bm (kk d a.cells dn) (X++Y)=Bm (kk d a.cells dn) (X1++Y1)++Bm (kk d a.cells dn) (X2++Y2):=by
         refine Lt hk (((Kv _ _).append (Kv _ _)).trans hxy.symm) (CV (Kw hk _) (Kw hk _) (fun x hx y hy=> ?_))
         rcases Aqh.1 (H8.1 hx) with hx | hx <;> rcases Aqh.1 (H8.1 hy) with hy | hy
         · exact c1 x hx y hy
         · exact inv1 x hx y hy
         · exact inv2 x hx y hy
         · exact c2 x hx y hy
       have lW:(Bm (kk d a.cells dn) (X1++Y1)).length=q:=by rw[Dx,Apn];omega
       have w5:Aom .i64 (((A.length+q+(A.length+X.length):Nat):Int)-((A.length+s:Nat):Int))=((A.length+q+X2.length:Nat):Int):=by rw[Ax (by omega) (by omega)];omega
       simp only[w5]
       have hU:Tw (.br (decide (((A.length+q:Nat):Int)<((A.length+q+X2.length:Nat):Int))) (.br (decide (((A.length+q+X2.length:Nat):Int)<((A.length+X.length+Y.length:Nat):Int))) (.call 251 [] [D.sl ((A++Bm (kk d a.cells dn) (X1++Y1)++X2++Y2++B).map dP),.int ((A.length+q:Nat):Int),.int ((A.length+q+X2.length:Nat):Int),.int ((A.length+X.length+Y.length:Nat):Int),Em dn a] fun yy=> .ret [D.sl ((qA yy).els)]) (.ret [D.sl ((A++Bm (kk d a.cells dn) (X1++Y1)++X2++Y2++B).map dP)])) (.ret [D.sl ((A++Bm (kk d a.cells dn) (X1++Y1)++X2++Y2++B).map dP)])) [.sl ((A++Bm (kk d a.cells dn) (X++Y)++B).map dP)]:=by
         rw[hsrt]
         have alone:X2.length=0∨Y2.length=0→Bm (kk d a.cells dn) (X2++Y2)=X2++Y2:=fun h=>by
           rcases h with h | h
           · rw[Ap2.1 h]
             exact Lt hk (List.Perm.refl _) (by simpa using p4)
           · rw[Ap2.1 h]
             exact Lt hk (List.Perm.refl _) (by simpa using p2)
         refine Ae (fun g1=>Ae (fun g2=> ?_) (fun g2=>Ac ?_)) (fun g1=>Ac ?_)
         · have:=IH (A++Bm (kk d a.cells dn) (X1++Y1)) X2 Y2 B (by omega) (by omega) (by omega) (by rw[Apn,lW];omega) (fun x h=>hXin x (m2 x h)) (fun y h=>hYin y (m4 y h)) p2 p4 (fun x h y h'=>hlt x (m2 x h) y (m4 y h'))
           simp only[Apn,lW]at this
           rw[show A.length+q+X2.length+Y2.length=A.length+X.length+Y.length by omega]at this
           refine Aa this (Ac ?_)
           simp
         · rw[alone (by omega)];simp
         · rw[alone (by omega)];simp
       have hT:Tw (.br (decide ((A.length:Int)<((A.length+s:Nat):Int))) (.br (decide (((A.length+s:Nat):Int)<((A.length+q:Nat):Int))) (.call 251 [] [D.sl ((A++X1++Y1++X2++Y2++B).map dP),.int (A.length:Int),.int ((A.length+s:Nat):Int),.int ((A.length+q:Nat):Int),Em dn a] fun yy=>(.br (decide (((A.length+q:Nat):Int)<((A.length+q+X2.length:Nat):Int))) (.br (decide (((A.length+q+X2.length:Nat):Int)<((A.length+X.length+Y.length:Nat):Int))) (.call 251 [] [D.sl ((qA yy).els),.int ((A.length+q:Nat):Int),.int ((A.length+q+X2.length:Nat):Int),.int ((A.length+X.length+Y.length:Nat):Int),Em dn a] fun yy=> .ret [D.sl ((qA yy).els)]) (.ret [D.sl ((qA yy).els)])) (.ret [D.sl ((qA yy).els)])))
           (.br (decide (((A.length+q:Nat):Int)<((A.length+q+X2.length:Nat):Int))) (.br (decide (((A.length+q+X2.length:Nat):Int)<((A.length+X.length+Y.length:Nat):Int))) (.call 251 [] [D.sl ((A++X1++Y1++X2++Y2++B).map dP),.int ((A.length+q:Nat):Int),.int ((A.length+q+X2.length:Nat):Int),.int ((A.length+X.length+Y.length:Nat):Int),Em dn a] fun yy=> .ret [D.sl ((qA yy).els)]) (.ret [D.sl ((A++X1++Y1++X2++Y2++B).map dP)])) (.ret [D.sl ((A++X1++Y1++X2++Y2++B).map dP)])))
           (.br (decide (((A.length+q:Nat):Int)<((A.length+q+X2.length:Nat):Int))) (.br (decide (((A.length+q+X2.length:Nat):Int)<((A.length+X.length+Y.length:Nat):Int))) (.call 251 [] [D.sl ((A++X1++Y1++X2++Y2++B).map dP),.int ((A.length+q:Nat):Int),.int ((A.length+q+X2.length:Nat):Int),.int ((A.length+X.length+Y.length:Nat):Int),Em dn a] fun yy=> .ret [D.sl ((qA yy).els)]) (.ret [D.sl ((A++X1++Y1++X2++Y2++B).map dP)])) (.ret [D.sl ((A++X1++Y1++X2++Y2++B).map dP)]))) [.sl ((A++Bm (kk d a.cells dn) (X++Y)++B).map dP)]:=by
         have alone:X1.length=0∨Y1.length=0→A++Bm (kk d a.cells dn) (X1++Y1)++X2++Y2++B=A++X1++Y1++X2++Y2++B:=fun h=>by
           have:Bm (kk d a.cells dn) (X1++Y1)=X1++Y1:=by
             rcases h with h | h
             · rw[Ap2.1 h]
               exact Lt hk (List.Perm.refl _) (by simpa using p3)
             · rw[Ap2.1 h]
               exact Lt hk (List.Perm.refl _) (by simpa using p1)
           rw[this,← Apz]
         refine Ae (fun g1=>Ae (fun g2=> ?_) (fun g2=> ?_)) (fun g1=> ?_)
         · have:=IH A X1 Y1 (X2++Y2++B) (by omega) (by omega) (by omega) (by simp only[Apn];omega) (fun x h=>hXin x (m1 x h)) (fun y h=>hYin y (m3 y h)) p1 p3 (fun x h y h'=>hlt x (m1 x h) y (m3 y h'))
           rw[show A.length+X1.length+Y1.length=A.length+q by omega,l1,show A++X1++Y1++(X2++Y2++B)=A++X1++Y1++X2++Y2++B by simp,show A++Bm (kk d a.cells dn) (X1++Y1)++(X2++Y2++B)=A++Bm (kk d a.cells dn) (X1++Y1)++X2++Y2++B by simp]at this
           exact Aa this hU
         · rw[alone (by omega)]at hU;exact hU
         · rw[alone (by omega)]at hU;exact hU
       refine Ae (fun g1=>Ae (fun g2=> ?_) (fun g2=> ?_)) (fun g1=> ?_)
       · have:=Al4 (dn:=dn) (a:=a) (A++X1) X2 Y1 (Y2++B) (by omega) (by omega) (by simp only[Apn];omega)
         rw[← hdata,show A++X1++Y1++X2++(Y2++B)=A++X1++Y1++X2++Y2++B by simp,Apn,l1,show A.length+s+X2.length=A.length+X.length by omega,show A.length+X.length+Y1.length=A.length+q+X2.length by omega]at this
         exact Aa this hT
       · have e:A++X++Y++B=A++X1++Y1++X2++Y2++B:=by
           have:Y1 = []:=Ap2.1 (by omega)
           rw[hdata,this];simp
         rw[e];exact hT
       · have e:A++X++Y++B=A++X1++Y1++X2++Y2++B:=by
           have:X2 = []:=Ap2.1 (by omega)
           rw[hdata,this];simp
         rw[e];exact hT
  refine Ad (Ae (fun g=> ?_) (fun g=> ?_))
  · have w7:Aom .i64 (((A.length+q+(A.length+X.length):Nat):Int)-((A.length+X.length+Y.length:Nat):Int))=((A.length+(q-Y.length):Nat):Int):=by rw[Ax (by omega) (by omega)];omega
    rw[w7]
    exact search (q-Y.length) q (by omega) (by omega) (by omega) 200000 (q-Y.length) q (by omega) (by omega) (by omega) (by omega) (fun x _ y hy=>by rw[List.drop_of_length_le (by omega)]at hy;cases hy) (fun y hy=>by rw[Nat.sub_self]at hy;cases hy)
  · exact search 0 X.length (by omega) (by omega) (by omega) 200000 0 X.length (by omega) (by omega) (by omega) (by omega) (fun x hx=>by cases hx) (fun y _ x hx=>by rw[List.drop_of_length_le (by omega)]at hx;cases hx)
end
section
variable {d:Nat} {a:Arr} {dn:Bool} (ha : ∀ c∈a.cells,Bi d c=true)
include ha
theorem Anf(l:List Nat)(hl:l.Pairwise (· < ·))(hin : ∀ x∈l,x<a.cells.length)(hlen:l.length≤50000):Sp 217 [.sl (l.map dP),.int (l.length:Int),Em dn a] [.sl ((Bm (kk d a.cells dn) l).map dP)]:=by
 have hk:=Ty (dn:=dn) ha
 refine Af 200000 (AmO _ _ _ _ _) ?_
 simp only[Ed,Ao]
 generalize hkk:kk d a.cells dn=k at *
 have join2 : ∀ U V:List Nat,Bm k (Bm k U++Bm k V)=Bm k (U++V):=fun U V=>Lt hk (((Kv k (U++V)).trans ((Kv k U).append (Kv k V)).symm)) (Kw hk _)
 have pairs : ∀ (m7 bs:Nat),1≤bs→bs≤100000→Tw (Q3 200000 m7 ((SG k (2*bs) l).map dP) (l.length:Int) (Em dn a) ((2*bs:Nat):Int)) [.sl ((Bm k l).map dP)]→∀ (m:Nat) (P rest:List Nat),P++SG k (2*bs) rest=SG k (2*bs) l→l.length=P.length+rest.length→rest.Pairwise (· < ·)→(∀ x∈rest,x<a.cells.length)→rest.length<m →
   Tw (CO 200000 m7 m ((P++SG k bs rest).map dP) (l.length:Int) (Em dn a) (bs:Int) (P.length:Int) ((P.length+2*bs:Nat):Int)) [.sl ((Bm k l).map dP)]:=by
  intro m7 bs hb1 hb2 cont m
  induction m with
  | zero=>intro P rest _ _ _ _ h;omega
  | succ m ih =>
   intro P rest hP hL hR hRin hm
   have w1:Aom .i64 ((P.length:Int)+(bs:Int))=((P.length+bs:Nat):Int):=by rw[Ax (by omega) (by omega)];omega
   have w2:Aom .i64 (2*(bs:Int))=((2*bs:Nat):Int):=by rw[Ax (by omega) (by omega)];omega
   have w3:Aom .i64 (((P.length+2*bs:Nat):Int)+((2*bs:Nat):Int))=((P.length+2*bs+2*bs:Nat):Int):=by rw[Ax (by omega) (by omega)];omega
   have w4:Aom .i64 ((bs:Int)*2)=((2*bs:Nat):Int):=by rw[Ax (by omega) (by omega)];omega
   simp only[AmN,w1,w2,w3,w4]
   have hcross : ∀ t,∀ x∈rest.take t,∀ y∈rest.drop t,x<y:=fun t=>by
     rw[← Ap5 t rest]at hR
     exact (List.pairwise_append.1 hR).2.2
   refine Ae (fun g=> ?_) (fun g=>Ae (fun g2=> ?_) (fun g2=> ?_))
   · have e1:SG k bs rest=Bm k (rest.take bs)++(Bm k ((rest.drop bs).take bs)++SG k bs (rest.drop (2*bs))):=by
      rw[K6 hb1,if_neg (by omega),K6 hb1 (rest.drop bs),if_neg (by rw[App];omega),List.drop_drop,show bs+bs=2*bs by omega]
     have e2:rest.take bs++(rest.drop bs).take bs=rest.take (2*bs):=by rw[show 2*bs=bs+bs by omega,List.take_add]
     have l1:(rest.take bs).length=bs:=by rw[Apr];omega
     have l2:((rest.drop bs).take bs).length=bs:=by rw[Apr,App];omega
     have l3:(SG k bs (rest.drop (2*bs))).length=rest.length-2*bs:=by rw[NL hb1 _ _ (Apo _),App]
     have l4:(rest.take (2*bs)).length=2*bs:=by rw[Apr];omega
     have sp:=AbS (dn:=dn) ha (2*bs) P (Bm k (rest.take bs)) (Bm k ((rest.drop bs).take bs)) (SG k bs (rest.drop (2*bs))) (by rw[Dx,Dx];omega) (by rw[Dx];omega) (by rw[Dx];omega) (by rw[Dx,Dx,l3];omega) (fun x hx=>hRin x (List.mem_of_mem_take (H8.1 hx))) (fun y hy=>hRin y (List.mem_of_mem_drop (List.mem_of_mem_take (H8.1 hy)))) (by rw[hkk];exact Kw hk _) (by rw[hkk];exact Kw hk _) (fun x hx y hy=>hcross bs x (H8.1 hx) y (List.mem_of_mem_take (H8.1 hy)))
     rw[hkk,join2,e2,Dx,Dx,l1,l2]at sp
     rw[show P++Bm k (rest.take bs)++Bm k ((rest.drop bs).take bs)++SG k bs (rest.drop (2*bs))=P++SG k bs rest by rw[e1];simp only[Apz],show P.length+bs+bs=P.length+2*bs by omega]at sp
     refine Aa sp ?_
     have:=ih (P++Bm k (rest.take (2*bs))) (rest.drop (2*bs)) (by
       rw[← hP,K6 (bs:=2*bs) (by omega) rest,if_neg (by omega)];simp only[Apz]) (by rw[Apn,Dx,l4,App];omega) (hR.sublist (List.drop_sublist _ _)) (fun x hx=>hRin x (List.mem_of_mem_drop hx)) (by rw[App];omega)
     rw[Apn,Dx,l4]at this
     exact this
   · have l1:(rest.take bs).length=bs:=by rw[Apr];omega
     have e1:SG k bs rest=Bm k (rest.take bs)++Bm k (rest.drop bs):=by
      rw[K6 hb1,if_neg (by omega),Oy hb1 (by rw[App];omega)]
     have sp:=AbS (dn:=dn) ha (rest.length) P (Bm k (rest.take bs)) (Bm k (rest.drop bs)) [] (by rw[Dx,Dx,App];omega) (by rw[Dx];omega) (by rw[Dx,App];omega) (by rw[Dx,Dx,App];simp only[Apv];omega) (fun x hx=>hRin x (List.mem_of_mem_take (H8.1 hx))) (fun y hy=>hRin y (List.mem_of_mem_drop (H8.1 hy))) (by rw[hkk];exact Kw hk _) (by rw[hkk];exact Kw hk _) (fun x hx y hy=>hcross bs x (H8.1 hx) y (H8.1 hy))
     rw[hkk,join2,Ap5,Dx,Dx,l1]at sp
     simp only[Apx]at sp
     rw[show P++Bm k (rest.take bs)++Bm k (rest.drop bs)=P++SG k bs rest by rw[e1];simp only[Apz],show P.length+bs+(rest.drop bs).length=l.length by rw[App];omega]at sp
     refine Aa sp ?_
     rw[Oy (bs:=2*bs) (by omega) (l:=rest) (by omega)]at hP
     simp only[Ah,Ed]
     rw[hP]
     exact cont
   · rw[Oy (bs:=2*bs) (by omega) (l:=rest) (by omega)]at hP
     rw[Oy hb1 (l:=rest) (by omega),hP]
     exact cont
 have rounds : ∀ (m bs:Nat),1≤bs→bs≤100000→l.length-bs<m→Tw (Q3 200000 m ((SG k bs l).map dP) (l.length:Int) (Em dn a) (bs:Int)) [.sl ((Bm k l).map dP)]:=by
  intro m
  induction m with
  | zero=>intro bs _ _ h;omega
  | succ m ih =>
   intro bs hb1 hb2 hm
   have w2:Aom .i64 (2*(bs:Int))=((2*bs:Nat):Int):=by rw[Ax (by omega) (by omega)];omega
   simp only[AmM,w2]
   refine Ae (fun g=> ?_) (fun g=>Ac ?_)
   · have:=pairs m bs hb1 hb2 (ih (2*bs) (by omega) (by omega) (by omega)) 200000 [] l (by simp) (by simp) hl hin (by omega)
     simpa using this
   · rw[Oy hb1 (by omega)]
 have first : ∀ (m:Nat) (P rest:List Nat),P++SG k 20 rest=SG k 20 l→l.length=P.length+rest.length→rest.Pairwise (· < ·)→(∀ x∈rest,x<a.cells.length)→rest.length<m →
   Tw (CN 200000 m ((P++rest).map dP) (l.length:Int) (Em dn a) 20 (P.length:Int) ((P.length+20:Nat):Int)) [.sl ((Bm k l).map dP)]:=by
  intro m
  induction m with
  | zero=>intro P rest _ _ _ _ h;omega
  | succ m ih =>
   intro P rest hP hL hR hRin hm
   have w1:Aom .i64 (((P.length+20:Nat):Int)+20)=((P.length+20+20:Nat):Int):=by rw[Ax (by omega) (by omega)];omega
   simp only[AmL,w1]
   refine Ae (fun g=> ?_) (fun g=> ?_)
   · have l1:(rest.take 20).length=20:=by rw[Apr];omega
     have sp:=SY (dn:=dn) ha P (rest.take 20) (rest.drop 20) (hR.sublist (List.take_sublist _ _)) (fun x hx=>hRin x (List.mem_of_mem_take hx)) (by rw[l1,App];omega)
     rw[hkk,Apz P,Ap5,l1]at sp
     refine Aa sp ?_
     have:=ih (P++Bm k (rest.take 20)) (rest.drop 20) (by
       rw[← hP,K6 (bs:=20) (by omega) rest,if_neg (by omega)];simp only[Apz]) (by rw[Apn,Dx,l1,App];omega) (hR.sublist (List.drop_sublist _ _)) (fun x hx=>hRin x (List.mem_of_mem_drop hx)) (by rw[App];omega)
     rw[Apn,Dx,l1]at this
     exact this
   · have sp:=SY (dn:=dn) ha P rest [] hR hRin (by simp only[Apv];omega)
     simp only[Apx,hkk,← hL]at sp
     refine Aa sp ?_
     rw[Oy (bs:=20) (by omega) (l:=rest) (by omega)]at hP
     simp only[Ah,Ed]
     rw[hP]
     exact rounds 200000 20 (by omega) (by omega) (by omega)
 have:=first 200000 [] l (by simp) (by simp) hl hin (by omega)
 simpa using this
theorem AmY(l:List Nat)(hl:l.Pairwise (· < ·))(hin : ∀ x∈l,x<a.cells.length)(hlen:l.length≤50000):Sp 155 [.sl (l.map dP),Em dn a] [.sl ((Bm (kk d a.cells dn) l).map dP)]:=by
 refine Af 0 (AmH _ _ _ _) ?_
 simp only[Ed,Apd]
 exact Aa (Anf ha l hl hin hlen) (Ac rfl)
end
def Iu(a:Arr)(dn:Bool):List Nat:=Bm (kk 8 a.cells dn) (Ap8 a.cells.length)
def Jf(a:Arr)(dn:Bool):Arr×Int:=if a.shape.length=1 then (Db ((Iu a dn).map (fun (i:Nat)=>(i:Int)+1)) (Au a),0) else (.none,5)
theorem Ajw(n:Nat):(Ap8 n).Pairwise (· < ·):=List.pairwise_lt_range
theorem WK(a:Arr)(dn:Bool):(Iu a dn).length=a.cells.length:=by unfold Iu;rw[Dx,List.length_range]
theorem JS{a:Arr}{dn:Bool}{i:Nat} : i∈Iu a dn↔i<a.cells.length:=by unfold Iu;rw[H8,List.mem_range]
theorem SC(a:Arr)(dn:Bool)(ha:Aj 8 a=true):Sp 69 [dA a,.bool dn] [dA (Jf a dn).1,.int (Jf a dn).2]:=by
 have la:=(Dj ha).1
 have hc:=(Ce ha).2
 refine Af 4096 (Af3 _ _ _) ?_
 unfold Jf
 simp only[Ai,C8,Hq,Aqg]
 refine Ae (fun h=>Ac (by rw[if_neg (by omega)])) (fun h=> ?_)
 rw[if_pos (by omega)]
 refine Ad (Ad (A0 (by simp only[Am];omega) ?_))
 have hol:=WK a dn
 have key:=Dl a.cells.length (fun m k (_:Unit)=>W6 4096 m ((Ap8 k).map dP++Apc (a.cells.length-k) (D.int 0)) (a.cells.length:Int) (k:Int) (dA a) dn 0 0) (fun _ _=>[dA (Db ((Iu a dn).map (fun (i:Nat)=>(i:Int)+1)) (Au a)),.int 0]) (fun _ _=>True)
  (fun m s _=>by
   have sp:=AmY (dn:=dn) hc (Ap8 a.cells.length) (Ajw _) (fun x hx=>List.mem_range.1 hx) (by rw[List.length_range];omega)
   simp only[SA,C8,Hq]
   rw[Nat.sub_self,List.replicate_zero,Apx]
   refine At (Aa sp ?_)
   rw[show Bm (kk 8 a.cells dn) (Ap8 a.cells.length)=Iu a dn from rfl]
   simp only[Ah,Ed,Apd,hol,Apj]
   refine Ad (Ad (A0 (by simp only[Am];omega) ?_))
   have key2:=Ca (Iu a dn) (fun m k (cs:List D)=>W5 4096 m cs ((Iu a dn).map dP) (a.cells.length:Int) (k:Int) (dA a) 0 0) (fun _ _=>[dA (Db ((Iu a dn).map (fun (i:Nat)=>(i:Int)+1)) (Au a)),.int 0])
    (fun rest cs=>∃ pre:List Nat,Iu a dn=pre++rest∧cs=(pre.map (fun (i:Nat)=>Bf ((i:Int)+1))).map dC++Apc rest.length (dC Cell.none))
    (fun m k cs hk hI=>by
     obtain ⟨pre,h1,rfl⟩:=hI
     rw[Apx]at h1
     simp only[RZ,Apv,List.replicate_zero,Apx]
     have hb : ∀ c∈pre.map (fun (i:Nat)=>Bf ((i:Int)+1)),SmlC 0 c:=fun c hcc=>by
      obtain ⟨i,hi,rfl⟩:=List.mem_map.1 hcc
      have:=JS.1 (by rw[h1];exact hi:i∈Iu a dn)
      exact Ku (Dk (by omega) (by omega)) 0
     refine At (Aa (O4 _ hb (by rw[Apd,← h1,hol];omega)) (Aa (Fi a (Cf ha).fits) ?_))
     simp only[Ah,En,Me]
     refine Aa (Gz _ (Au a)) (Ac ?_)
     simp only[Ah,h1]
     simp[C2,K2,Db]
     rfl)
    (fun m k cs i rest hdr hI ih=>by
     obtain ⟨h1,h2,h3⟩:=B6 hdr
     obtain ⟨pre,hp,rfl⟩:=hI
     have hk:k=(pre.map (fun (i:Nat)=>Bf ((i:Int)+1))).length:=by
      have:=congrArg Aql hdr
      rw[hp]at this h1
      simp at this h1 ⊢; omega
     have hcl:((pre.map (fun (i:Nat)=>Bf ((i:Int)+1))).map dC++Apc (rest.length+1) (dC Cell.none)).length=a.cells.length:=by rw[← hol,hp];simp
     have hi:=JS.1 (Aph h2)
     have w1:Aom .i64 ((i:Int)+1)=(i:Int)+1:=Ax (by omega) (by omega)
     simp only[RZ,Apd,hol,Apj,Aw h2,QB,w1,Bh k,Apg]
     simp only[hcl]
     refine Ad (Ad (Ad (Aa (I7 _ (Dk (by omega) (by omega))) (Ad (Ad ?_)))))
     simp only[Ah]
     rw[show (((pre.map (fun (i:Nat)=>Bf ((i:Int)+1))).map dC++Apc (rest.length+1) (dC Cell.none)).set k (dC (Bf ((i:Int)+1))))=(((pre++[i]).map (fun (i:Nat)=>Bf ((i:Int)+1))).map dC++Apc rest.length (dC Cell.none)) by
      rw[hk,M6 (f:=dC) (z:=dC Cell.none)];simp]
     exact ih _ ⟨pre++[i],by rw[hp];simp,rfl⟩)
    4096 0 (Apc a.cells.length (dC Cell.none)) (by omega) (by omega) ⟨[],by simp,by simp[hol]⟩
   exact key2)
  (fun m k s hk _ ih=>by
   have ih:=ih () trivial
   simp only[SA,Apn,Apd,List.length_range,Aqg,Apj,Bh k]
   refine Ad (Ad (Ad ?_))
   have e:=M6 (f:=dP) (z:=D.int 0) (Ap8 k) k (a.cells.length-(k+1))
   rw[List.length_range,← List.range_succ,show a.cells.length-(k+1)+1=a.cells.length-k by omega]at e
   rw[show D.int (k:Int)=dP k from rfl,e]
   exact ih)
  4096 0 () (by omega) (by omega) trivial
 simpa using key
def ahead(k:Nat→Nat→Int)(i j:Nat):Bool:=decide (k j i<0∨(k j i=0∧j<i))
def iN(l:List Nat):List Int:=l.map (fun (x:Nat)=>(x:Int))
theorem Ny(l:List Nat):(iN l).length=l.length:=by simp[iN]
theorem SL(l:List Nat):(iN l).map D.int=l.map dP:=by unfold iN;rw[List.map_map];rfl
theorem Af9{l:List Int}(h : ∀ x∈l,0≤x) : ∃ m:List Nat,l=iN m:=by
 refine ⟨l.map Apa,?_⟩
 unfold iN
 rw[List.map_map]
 conv=>lhs;rw[← List.map_id l]
 refine List.map_congr_left (fun x hx=> ?_)
 have:=h x hx
 simp only[id,Function.comp]
 omega
def Fn:List Nat→Nat→List Nat
 | [],_=>[]
 | x::xs,n=>n % x::Fn xs (n / x)
def A8:List Nat→Nat
 | []=>1
 | x::xs=>x*A8 xs
theorem QF : ∀ (l:List Nat) (n:Nat),(Fn l n).length=l.length
 | [],_=>rfl
 | x::xs,n=>by simp[Fn,QF xs]
theorem QE : ∀ (u v:List Nat) (n:Nat),Fn (u++v) n=Fn u n++Fn v (n / A8 u)
 | [],v,n=>by simp[Fn,A8]
 | x::xs,v,n=>by simp only[List.cons_append,Fn,A8,QE xs v,Aqd]
theorem GF : ∀ (u:List Nat) (n:Nat),Fn u (n % A8 u)=Fn u n
 | [],n=>rfl
 | x::xs,n=>by
  simp only[Fn,A8]
  rw[Nat.mod_mul_right_mod,Nat.mod_mul_right_div_self,GF xs]
def Rm(s:List Nat)(n:Nat):List Nat:=(Fn s.reverse n).reverse
def Eb(s:List Nat):Nat:=(A7 (iN s)).1.toNat
theorem YA : ∀ (l:List Nat) (p:Nat),A_ (iN l) (p:Int)≠0→A_ (iN l) (p:Int)=((p*A8 l:Nat):Int)
 | [],p,_=>by simp[iN,A_,A8]
 | x::xs,p,h=>by
  simp only[iN,Ap7,A_]at h ⊢
  split at h
  · exact absurd rfl h
  · rename_i h2
    rw[if_neg h2]
    have:=YA xs (p*x) (by simpa [iN]using h)
    simp only[iN,Int.natCast_mul]at this
    rw[this]
    simp only[A8,Int.natCast_mul,Int.mul_assoc]
theorem JZ : ∀ (l m:List Nat),A8 (l++m)=A8 l*A8 m
 | [],m=>by simp[A8]
 | x::xs,m=>by simp only[List.cons_append,A8,JZ xs m,Nat.mul_assoc]
theorem KA : ∀ (l:List Nat),A8 l.reverse=A8 l
 | []=>rfl
 | x::xs=>by rw[List.reverse_cons,JZ,KA xs];simp only[A8];rw[Nat.mul_one,Ap9]
theorem Rs{s:List Nat}(h:(A7 (iN s)).2=0):s.length≤6∧((0∈s∧Eb s=0)∨((∀ x∈s,1≤x∧x≤2048)∧Eb s=A8 s∧1≤Eb s∧Eb s≤2048)):=by
 have hl:=Fw (iN s)
 obtain ⟨h1,h2⟩:=J6 (s:=iN s) (c:=(A7 (iN s)).1) (Prod.ext rfl h)
 rw[Ny]at h1
 refine ⟨h1,?_⟩
 rcases h2 with ⟨h2,h3⟩ | ⟨h2,h3,h4⟩
 · refine .inl ⟨?_,by unfold Eb;rw[h3];rfl⟩
   obtain ⟨x,hx,he⟩:=List.mem_map.1 h2
   have:x=0:=by omega
   rw[← this];exact hx
 · refine .inr ⟨fun x hx=> ?_,?_,?_,?_⟩
   · have:=h2 (x:Int) (List.mem_map.2 ⟨x,hx,rfl⟩);omega
   · have:=YA s 1 (by rw[show ((1:Nat):Int)=1 from rfl,h3];exact h4)
     rw[show ((1:Nat):Int)=1 from rfl,h3]at this
     unfold Eb
     rw[this];omega
   · unfold Eb;omega
   · unfold Eb;omega
end Go.Proofs.YtokkbgpgaheakaaGreat
namespace Go
open Go.RowKit
theorem AaU(P:Program)(w:World)(dT sT ty elem:TypeId)(g o dLen dCap:Nat)(a:Addr)(sLen sCap sz:Nat)(cur:Array Value)(t:TypeId)(cs:List Value)
  (hu:P.underlying dT=some (.slice elem)) (hs:(P.info? elem).map (·.size)=some sz)
  (hg:w.heap[g]? = some (.cells cur t (0,0))) (hn:cs.length=Nat.min sLen dLen*sz)
  (hsrc : ∀ j v,cs[j]? = some v→w.cell? (a.add j)=some v) (hfit:o+cs.length≤cur.size) (h1 : ∀ v∈cs,v.oneCell'=true) :
  (Builtin.copy_ #[dT,sT] ty #[.slice (some ⟨g,o,none⟩) dLen dCap,.slice (some a) sLen sCap]).run P w =
   .ok (goInt (Nat.min sLen dLen:Nat)) (w.setRow g (cur.toList.take o++cs++cur.toList.drop (o+cs.length)).toArray):=by
 have hl:=run_loadCells_list (P:=P) w a cs hsrc
 have hst:=run_storeCells_at P g o t cs 0 cur w hg (by simpa using hfit) h1
 cases hq:P.info? elem with
 | none=>simp[hq]at hs
 | some i =>
  have hi:i.size=sz:=by simpa [hq]using hs
  rw[hn]at hl
  simp[Builtin.copy_,run_underlying hu,Builtin.lenOf,Builtin.firstCells,sizeOf,typeInfo,hq,hi,hl,hst]
theorem AaT(P:Program)(w:World)(dT sT ty elem:TypeId)(d a:Option Addr)(dLen dCap sLen sCap sz:Nat)(hu:P.underlying dT=some (.slice elem))(hs:(P.info? elem).map (·.size)=some sz)(hn:Nat.min sLen dLen=0) :
  (Builtin.copy_ #[dT,sT] ty #[.slice d dLen dCap,.slice a sLen sCap]).run P w = .ok (goInt 0) w:=by
 cases hq:P.info? elem with
 | none=>simp[hq]at hs
 | some i =>
  have hl : ∀ (x:Addr),(loadCells x 0).run P w = .ok #[] w:=fun x=>by simpa using run_loadCells_list (P:=P) w x [] (by simp)
  cases d <;> cases a <;> simp[Builtin.copy_,run_underlying hu,Builtin.lenOf,Builtin.firstCells,sizeOf,typeInfo,hq,hn,storeCells,hl]
theorem Ao4{P:Program}{w:World}{ops:Array Oper}{rest:List Oper}{o:Oper}{a:Act}{Q:Exit→Act→World→Prop}(hgd:o.guard=none)(d s:Operand)(dT sT:TypeId)
   (ho:o.op = .call { callee:= .builtin .copy,args:= #[d,s],argTypes:= #[dT,sT] }) (elem:TypeId) (sz:Nat) (hz:0<sz) (hu:P.underlying dT=some (.slice elem)) (hsz:(P.info? elem).map (·.size)=some sz)
   (dp sp:Option Addr) (dLen dCap sLen sCap:Nat) (hd:a.eval d = .slice dp dLen dCap) (hs:a.eval s = .slice sp sLen sCap)
   (g off:Nat) (cur:List Value) (t:TypeId) (hg:w.heap[g]? = some (.cells cur.toArray t (0,0))) (cs:List Value) (hn:cs.length=Nat.min sLen dLen*sz)
   (hpos:0<cs.length→dp=some ⟨g,off,none⟩∧∃ ad,sp=some ad∧∀ j v,cs[j]? = some v→w.cell? (ad.add j)=some v)
   (hfit:off+cs.length≤cur.length) (h1 : ∀ v∈cs,v.oneCell'=true) (B:Nat) (w0:World) (hb:Below B w0 w) (hBg:B≤g)
   (h : ∀ w',Hid (w'.heap[g]? = some (.cells (splice cur off cs).toArray t (0,0)))→Below B w0 w'→wpList P ops Q rest (a.put o.dst (goInt (Nat.min sLen dLen:Nat))) w') :
   wpList P ops Q (o::rest) a w:=by
 refine wpList_plain hgd fun K hK=> ?_
 by_cases h0:cs.length=0
 · have hm:Nat.min sLen dLen=0:=by
    rcases Nat.eq_zero_or_pos (Nat.min sLen dLen) with h | h
    · exact h
    · have:=Nat.mul_pos h hz;omega
   obtain rfl:cs = []:=List.eq_nil_of_length_eq_zero h0
   have hrun:=AaT P w dT sT o.type elem dp sp dLen dCap sLen sCap sz hu hsz hm
   unfold Oper.wp
   simp[execOp,ho,resolve,invoke,builtin,hd,hs,hrun,Result.andThen]
   refine hK _ _ ?_
   have:=h w (show _=_ by simpa [splice]using hg) hb
   rw[hm]at this
   exact this
 · obtain ⟨rfl,ad,rfl,hsrc⟩:=hpos (by omega)
   have hrun:=AaU P w dT sT o.type elem g off dLen dCap ad sLen sCap sz cur.toArray t cs hu hsz hg hn hsrc (by simpa using hfit) h1
   unfold Oper.wp
   simp[execOp,ho,resolve,invoke,builtin,hd,hs,hrun,Result.andThen]
   refine hK _ _ ?_
   exact h _ (show _=_ by simpa [splice]using setRow_heap w g _ _ t _ hg) (below_setRow hb hBg _)
theorem Ang{P:Program}{ops:Array Oper}{o:Oper}{a:Act}{w:World}{K:Act→World→Prop}{Q:Exit→Act→World→Prop}{E:Prop}(hgd:o.guard=none)(d s:Operand)(dT sT:TypeId)
   (ho:o.op = .call { callee:= .builtin .copy,args:= #[d,s],argTypes:= #[dT,sT] }) (elem:TypeId) (sz:Nat) (hz:0<sz) (hu:P.underlying dT=some (.slice elem)) (hsz:(P.info? elem).map (·.size)=some sz)
   (dp sp:Option Addr) (dLen dCap sLen sCap:Nat) (hd:a.eval d = .slice dp dLen dCap) (hs:a.eval s = .slice sp sLen sCap)
   (g off:Nat) (cur:List Value) (t:TypeId) (hg:w.heap[g]? = some (.cells cur.toArray t (0,0))) (cs:List Value) (hn:cs.length=Nat.min sLen dLen*sz)
   (hpos:0<cs.length→dp=some ⟨g,off,none⟩∧∃ ad,sp=some ad∧∀ j v,cs[j]? = some v→w.cell? (ad.add j)=some v)
   (hfit:off+cs.length≤cur.length) (h1 : ∀ v∈cs,v.oneCell'=true) (B:Nat) (w0:World) (hb:RowKit.Below B w0 w) (hBg:B≤g)
   (h : ∀ w',RowKit.Hid (w'.heap[g]? = some (.cells (splice cur off cs).toArray t (0,0)))→RowKit.Below B w0 w'→K (a.put o.dst (goInt (Nat.min sLen dLen:Nat))) w') :
   if Region.wanted o (yielded ops a.tmps)=true then Oper.wp P o a w K Q else E:=by
 have hw:Region.wanted o (yielded ops a.tmps)=true:=by simp[Region.wanted,hgd]
 rw[if_pos hw]
 by_cases h0:cs.length=0
 · have hm:Nat.min sLen dLen=0:=by
    rcases Nat.eq_zero_or_pos (Nat.min sLen dLen) with h | h
    · exact h
    · have:=Nat.mul_pos h hz;omega
   obtain rfl:cs = []:=List.eq_nil_of_length_eq_zero h0
   have hrun:=AaT P w dT sT o.type elem dp sp dLen dCap sLen sCap sz hu hsz hm
   unfold Oper.wp
   simp[execOp,ho,resolve,invoke,builtin,hd,hs,hrun,Result.andThen]
   have:=h w (show _=_ by simpa [splice]using hg) hb
   rw[hm]at this
   exact this
 · obtain ⟨rfl,ad,rfl,hsrc⟩:=hpos (by omega)
   have hrun:=AaU P w dT sT o.type elem g off dLen dCap ad sLen sCap sz cur.toArray t cs hu hsz hg hn hsrc (by simpa using hfit) h1
   unfold Oper.wp
   simp[execOp,ho,resolve,invoke,builtin,hd,hs,hrun,Result.andThen]
   exact h _ (show _=_ by simpa [splice]using setRow_heap w g _ _ t _ hg) (below_setRow hb hBg _)
end Go
namespace Go.Proofs.YtokkbgpgaheakaaGreat
open Go.RowKit
def C4(k:Nat)(xs:List Value):List Value:=(Apc k xs).flatten
theorem Lp(k:Nat)(xs:List Value):(C4 k xs).length=k*xs.length:=by unfold C4;rw[List.length_flatten];simp
theorem Aau(k m:Nat)(xs:List Value):C4 k xs++C4 m xs=C4 (k+m) xs:=by
 unfold C4;rw[← List.flatten_append,List.replicate_append_replicate]
theorem Alt(xs:List Value):C4 1 xs=xs:=by simp[C4]
theorem Aax(k:Nat)(xs:List Value):C4 (k+1) xs=xs++C4 k xs:=by unfold C4;rw[List.replicate_succ];rfl
theorem Aaw{k:Nat}{xs:List Value}{v:Value}(h:v∈C4 k xs):v∈xs:=by
 unfold C4 at h
 obtain ⟨l,hl,hv⟩:=List.mem_flatten.1 h
 rwa[List.eq_of_mem_replicate hl]at hv
theorem Aav{xs:List Value} : ∀ {k i j:Nat},i<k→j<xs.length→(C4 k xs)[i*xs.length+j]? = xs[j]?
 | 0,i,j,h,_=>by omega
 | k+1,0,j,_,hj=>by rw[Aax,Nat.zero_mul,Aqo,Ap0 hj]
 | k+1,i+1,j,h,hj=>by
  rw[Aax,Aqe (by rw[Nat.succ_mul];omega),show (i+1)*xs.length+j-xs.length=i*xs.length+j by rw[Nat.succ_mul];omega]
  exact Aav (by omega) hj
theorem AbK{xs cur:List Value}{k m:Nat}(h:cur.take (k*xs.length)=C4 k xs)(hk:(k+m)*xs.length≤cur.length):(splice cur (k*xs.length) (C4 m xs)).take ((k+m)*xs.length)=C4 (k+m) xs∧(splice cur (k*xs.length) (C4 m xs)).length=cur.length:=by
 have e:(k+m)*xs.length=k*xs.length+m*xs.length:=Nat.add_mul _ _ _
 refine ⟨?_,length_splice _ _ _ (by rw[Lp];omega)⟩
 unfold splice
 rw[h,← Apz,Aau,List.take_append_of_le_length (by rw[Lp];omega),Ap_ (by rw[Lp];omega)]
def QInv(w2:World)(G n:Nat)(xs:List Value)(iv:Value)(wr:World):Prop:=∃ (k:Nat) (cur:List Value),iv = .int .i64 k∧k≤n∧(0<n→0<k)∧cur.length=n*xs.length∧cur.take (k*xs.length)=C4 k xs∧wr.heap[G]? = some (.cells cur.toArray 67 (0,0))∧Below G w2 wr
theorem QInv.start {w2 w3:World} {G n:Nat} {xs X:List Value} (hX:X.length=n*xs.length) (h:w3.heap[G]? = some (.cells (splice X 0 (C4 (Nat.min 1 n) xs)).toArray 67 (0,0))) (hb:Below G w2 w3):QInv w2 G n xs (.int .i64 ((Nat.min 1 n:Nat):Int)) w3:=by
 have h2:Nat.min 1 n≤n:=Nat.min_le_right 1 n
 have h3:Nat.min 1 n=if 1≤n then 1 else n:=Nat.min_def
 have hm:=Apu xs.length h2
 obtain ⟨s1,s2⟩:=AbK (xs:=xs) (cur:=X) (k:=0) (m:=Nat.min 1 n) (by rw[Nat.zero_mul];rfl) (by rw[Aqo];omega)
 rw[Aqo,Nat.zero_mul]at s1
 rw[Nat.zero_mul]at s2
 exact ⟨Nat.min 1 n,_,rfl,h2,fun h=>by rw[h3];split <;> omega,by omega,s1,h,hb⟩
theorem QInv.next {w2 w4:World} {G n k:Nat} {xs cur:List Value} (hk:k<n) (hp:0<k) (hl:cur.length=n*xs.length) (ht:cur.take (k*xs.length)=C4 k xs) (h:w4.heap[G]? = some (.cells (splice cur (k*xs.length) (C4 (Nat.min k (n-k)) xs)).toArray 67 (0,0))) (hb:Below G w2 w4):QInv w2 G n xs (.int .i64 ((k+Nat.min k (n-k):Nat):Int)) w4∧n-(k+Nat.min k (n-k))<n-k:=by
 have h3:Nat.min k (n-k)=if k≤n-k then k else n-k:=Nat.min_def
 have h4:0<Nat.min k (n-k)∧k+Nat.min k (n-k)≤n:=by rw[h3];split <;> omega
 have hm:=Apu xs.length h4.2
 obtain ⟨s1,s2⟩:=AbK (xs:=xs) (cur:=cur) (k:=k) (m:=Nat.min k (n-k)) ht (by omega)
 exact ⟨⟨_,_,rfl,h4.2,fun _=>by omega,by omega,s1,h,hb⟩,by omega⟩
def AcO(n:Nat)(xs:List Value)(w:World)(e:Ending)(w':World):Prop:=∃ G,e = .returned (.slice (some ⟨G,0,none⟩) n n)∧w.heap.size≤G∧w'.heap[G]? = some (.cells (C4 n xs).toArray 67 (0,0))∧Ext w w'
theorem AeA:Elt Tryz.prog 24 67 7 104 :=
 ⟨Tryz.underlying24,by
  obtain ⟨i,hi,h1,h2,h3⟩:=info_parts (P:=Tryz.prog) (e:=67) (z:= .agg #[.int .u64 0,.int .i64 0,.bool false,.slice none 0 0,.slice none 0 0,.int .i64 0,.slice none 0 0]) (size:=7) (bytes:=104) (by kernel_rfl)
  exact ⟨i,_,hi,h1,h2,h3,rfl⟩,by decide⟩
theorem AmZ{w w2:World}{ad:Addr}{xs:List Value}(h : ∀ j v,xs[j]? = some v→w.cell? (ad.add j)=some v)(hx:Ext w w2)(m:Nat)(hm:m≤1):0<(C4 m xs).length→∃ ad',some ad=some ad'∧∀ j v,(C4 m xs)[j]? = some v→w2.cell? (ad'.add j)=some v:=by
 intro hp
 have:m=1:=by
  rcases Aqn 0 m with h | h
  · omega
  · have:m=0:=by omega
    subst this;simp[C4]at hp
 subst this
 rw[Alt]
 refine ⟨ad,rfl,fun j v hv=> ?_⟩
 have h0:=h j v hv
 have hb:ad.block<w.heap.size:=by
  rcases Aqn ad.block w.heap.size with g | g
  · exact g
  · have hn:w.heap[ad.block]? = none:=Array.getElem?_eq_none g
    have e:(ad.add j).block=ad.block:=by unfold Addr.add;split <;> rfl
    unfold World.cell? at h0
    rw[e,hn]at h0
    cases h0
 have e:(ad.add j).block=ad.block:=by unfold Addr.add;split <;> rfl
 rw[← h0]
 exact World.cell?_of_block (by rw[e];exact hx.block _ hb)
theorem Anb{w:World}{G k:Nat}{xs cur:List Value}{T:TypeId}(h:w.heap[G]? = some (.cells cur.toArray T (0,0)))(ht:cur.take (k*xs.length)=C4 k xs)(m:Nat)(hm:m≤k) : ∀ j v,(C4 m xs)[j]? = some v→w.cell? ((⟨G,0,none⟩:Addr).add j)=some v:=by
 intro j v hv
 have hj:=(Apf.1 hv).1
 rw[Lp]at hj
 have hmk:=Apu xs.length hm
 have e:C4 k xs=C4 m xs++C4 (k-m) xs:=by rw[Aau];congr 1;omega
 have hcj:cur[j]? = some v:=by
  have h1:(cur.take (k*xs.length))[j]? = some v:=by rw[ht,e,Ap0 (by rw[Lp];exact hj)];exact hv
  rw[List.getElem?_take,if_pos (by omega)]at h1
  exact h1
 have ea:(⟨G,0,none⟩:Addr).add j=⟨G,j,none⟩:=by unfold Addr.add;split <;> simp_all
 rw[ea]
 unfold World.cell?
 simp[h,hcj]
set_option maxHeartbeats 2000000 in
theorem Alq(ad:Addr)(c n:Nat)(xs:List Value)(w:World)(hn:n≤1000000)(hx7:xs.length=7)(h1 : ∀ v∈xs,v.oneCell'=true)(hs : ∀ j v,xs[j]? = some v→w.cell? (ad.add j)=some v):Calls Tryz.prog 233 #[.slice (some ad) 1 c,.int .i64 n] w (AcO n xs w):=by
 have HS:=Lib.hid hs
 have HO:=Lib.hid h1
 have H7:=Lib.hid hx7
 clear hs h1 hx7
 have hu:Tryz.prog.underlying 24=some (.slice 67):=by kernel_rfl
 have hz:(Tryz.prog.info? 67).map (·.size)=some 7:=by kernel_rfl
 have HU:=Lib.hid hu
 have HZ:=Lib.hid hz
 clear hu hz
 go_enter Tryz.func233,Tryz.ntmps233
 go_wp2_with (first
  | (go_at_call 231;refine (VB n (by omega) _).mono ?_;rintro e w1 ⟨rfl,hx1⟩)
  | (at_make;refine Ac_ AeA rfl _ _ rfl n rfl rfl (by omega) (by omega) (by omega) (by unfold maxLen;omega) ?_;intro G w2 X hG HG hX hx2;have HX:=Lib.hid hX;clear hX)
  | (refine Ao4 rfl (.tmp 31) (.tmp 32) 24 24 rfl 67 7 (by decide) HU.out HZ.out (some ⟨G,0,none⟩) (some ad) n n 1 c (by simp[Act.eval,Act.put]) (by simp[Act.eval,Act.put]) G 0 X 67 HG.out (C4 (Nat.min 1 n) xs) (by rw[Lp,H7.out]) (fun hp=>⟨rfl,AmZ HS.out (hx1.trans hx2) _ (Nat.min_le_left _ _) hp⟩) (by have h1:=HX.out;have h2:Nat.min 1 n≤n:=Nat.min_le_right 1 n;rw[Lp,H7.out];omega) (fun v hv=>HO.out v (Aaw hv)) G w2 (Below.refl _ _) (Apo _) ?_;intro w3 HG3 hb3))
 go_loopw [8] (QInv w2 G n xs) (fun iv _=>n-(intOf iv).toNat)
 case atStart=>exact QInv.start (by rw[H7.out];exact HX.out) HG3.out hb3
 case round =>
  obtain ⟨k,cur,rfl,hk,hp,hl,ht,hh,hb⟩:=hrel
  rw[H7.out]at hl ht
  have HT:=Lib.hid ht
  have HH:=Lib.hid hh
  have HB:=Lib.hid hb
  have HL:=Lib.hid hl
  clear ht hh hb hl
  by_cases hlt:k<n
  · have hpk:0<k:=hp (by omega)
    clear hp
    have HSR:=Lib.hid (Anb (w:=wr.drew) (xs:=xs) HH.out (by rw[H7.out];exact HT.out) (Nat.min k (n-k)) (Nat.min_le_left _ _))
    have HNE:=Lib.hid (show (if n=k then some (⟨G,0,none⟩:Addr) else some ⟨G,k*7,none⟩)=some ⟨G,k*7,none⟩ from if_neg (by omega))
    go_wp2_with fail
    go_region_law (refine Ang rfl (.tmp 41) (.tmp 44) 24 24 rfl 67 7 (by decide) HU.out HZ.out (if n=k then some ⟨G,0,none⟩ else some ⟨G,k*7,none⟩) (some ⟨G,0,none⟩) (n-k) (n-k) k n (by simp[Act.eval,Act.put]) (by simp[Act.eval,Act.put]) G (k*7) cur 67 HH.out (C4 (Nat.min k (n-k)) xs) (by rw[Lp,H7.out]) (fun _=>⟨HNE.out,_,rfl,HSR.out⟩) (by have h1:=HL.out;have h2:Nat.min k (n-k)≤n-k:=Nat.min_le_right k (n-k);rw[Lp,H7.out];omega) (fun v hv=>HO.out v (Aaw hv)) G w2 HB.out.drew (Apo _) ?_;intro w4 HG4 hb4)
    go_wp2
    go_roundw
    case rel =>
     rw[AY hlt (by omega)]
     exact (QInv.next (xs:=xs) (cur:=cur) hlt hpk (by rw[H7.out];exact HL.out) (by rw[H7.out];exact HT.out) (by rw[H7.out];exact HG4.out) hb4).1
    case measure =>
     rw[AY hlt (by omega)]
     exact (QInv.next (xs:=xs) (cur:=cur) hlt hpk (by rw[H7.out];exact HL.out) (by rw[H7.out];exact HT.out) (by rw[H7.out];exact HG4.out) hb4).2
  · have hkn:k=n:=by omega
    subst hkn
    go_wp2_with fail
    go_ret
    have hh:=HH.out
    have hcur:cur=C4 k xs:=by
     have h1:=HT.out
     rw[Ap_ (by have:=HL.out;omega)]at h1
     exact h1
    rw[hcur]at hh
    exact ⟨G,rfl,Nat.le_trans hx1.size hG,hh,Below.trans (hx1.trans hx2) (Below.mono HB.out (Nat.le_trans hx1.size hG))⟩
theorem Alr(n:Nat)(x:Cell)(hn:n≤1000000):Sp 233 [.sl [dC x],.int (n:Int)] [.sl (Apc n (dC x))]:=by
 refine CW Lz Tryz.func233 (by kernel_rfl) (by kernel_rfl) (by kernel_rfl) (fun w M vs hM _ hlv hrd=> ?_)
 have hps:Tryz.f233.params.toList = [24,3]:=by kernel_rfl
 have hu:Tryz.prog.underlying 24=some (.slice 67):=by kernel_rfl
 have hc7:Tryz.prog.cellsOf 67=7:=by kernel_rfl
 have hlen:vs.length=2:=by rw[hlv];rfl
 match vs,hlen with
 | [va,vb],_ =>
  rw[hps]at hrd
  have ra:=hrd 0 _ _ _ rfl rfl rfl
  obtain ⟨rfl,_⟩:=YQ (hrd 1 _ _ _ rfl rfl rfl)
  have hva : ∃ A c,va = .slice A 1 c:=by
   obtain ⟨h1,h2,h3⟩:=ra
   have ha:Ds va=false:=by rw[h3];kernel_rfl
   cases h1 with
   | @sl _ e _ _ A cap bk off ht hc h4 h5 hA hh =>
    rw[Ih ha]at hc
    exact ⟨A,cap,by simpa using hc⟩
  obtain ⟨A,c,rfl⟩:=hva
  obtain ⟨_,_,_,bk,off,hA,hel⟩:=Abx ra.rd hu
  obtain ⟨rfl,hMb,hbs⟩:=hA (by simp)
  obtain ⟨news,hnl,hsrc,hone,hnr⟩:=GI Lz (by rw[hc7];decide) hel
  have hn7:news.length=7:=by rw[hnl,hc7];rfl
  have hx0:=hnr 0 (dC x) rfl
  refine (Alq _ c n news w hn hn7 hone hsrc).mono ?_
  rintro e w' ⟨G,rfl,hG,hv,hx⟩
  refine ⟨[_],rfl,rfl,fun i t u ht hu'=> ?_,hx⟩
  rw[show Tryz.f233.resultTypes.toList = [24] by kernel_rfl]at ht
  match i with
  | 0 =>
   cases ht;cases hu'
   have hGs : ¬ M G:=fun hm=>by have:=hM G hm;omega
   have hGl:G<w'.heap.size:=(Aqa.1 hv).1
   refine ⟨.sl (e:=67) (A:=some ⟨G,0,none⟩) (cap:=n) (bk:=G) (off:=0) hu (by simp;rfl) (by simp) (by unfold maxLen;omega) (fun _=>⟨rfl,hGs,hGl⟩) (fun i y hy=> ?_),by kernel_rfl,by kernel_rfl⟩
   have hi:i<n:=by have:=(Apf.1 hy).1;simpa using this
   have hy':y=dC x:=by
    have:=Aph hy
    exact List.eq_of_mem_replicate this
   subst hy'
   have h1:=hx0.mono (w':=w') (M':=M) hx.size (fun b _ hb=>hx.block b hb) (fun b hb _=>hb)
   refine h1.congr (fun j hj=> ?_) (by show 0<Tryz.prog.cellsOf 67;rw[hc7];decide)
   have hj7:j<7:=by
    have:j<Tryz.prog.cellsOf 67:=hj
    rwa[hc7]at this
   show w'.cell? ⟨G,0+(i*Tryz.prog.cellsOf 67+j),none⟩=news[0*Tryz.prog.cellsOf 67+j]?
   rw[hc7,Nat.zero_mul,Aqo,Aqo,← Aav (xs:=news) hi (by omega),hn7]
   unfold World.cell?
   simp[hv]
  | i+1=>simp at ht
end Go.Proofs.YtokkbgpgaheakaaGreat
namespace Go.Proofs.YtokkbgpgaheakaaGreat
def Zf:List (Nat×Orc):=[(10,⟨[(1,none),(2,none),(6,none),(28,some 23),(29,none),(30,none)],[(1,true),(2,false)],[(.slot 6,1100,67)]⟩)]
noncomputable def Ta(n m10:Nat)(cells6:List D)(t28:D)(t29 t30:Int)(a1:D)(t2_0:Int):Tree :=
 lA (eA Zf n 68 [1,1,1,1,1,1,0,1,0,0]) (An Zf 10) m10 ⟨(.undef:: .ptr 1 []:: .ptr 2 []::uA 3++(.row 1100::uA 21++(.d 23 t28:: .i .i64 t29:: .i .i64 t30::uA 18))),[(1,.var 26 (.d 26 a1) true),(2,.var 26 (.agg 26 [.i .u64 t2_0,.mt,.mt]) true),(1100,.row 67 cells6 true)],[1,2,1100],[],[]⟩
  (Ak 0 (Aq (jA Zf n 68 [1,1,1,1,1,1,1]) (rA 68 [26] [.cell 2 26,.tmp 3] [26,29])))
theorem XD(n m10:Nat)(cells6:List D)(t28:D)(t29 t30:Int)(a1:D)(t2_0:Int):Ta n (m10+1) cells6 t28 t29 t30 a1 t2_0 =
 bK (t30<t29) (kK (0≤t30) (kK (t30<(t28.els.length:Int)) (.br (((t28.els.getD (Apa t30) D.nil).toInt)==1) (cK 138 [D.int (Aom .i64 (t30+1))] fun Y3 =>
 kK (cells6.length + [qA Y3].length≤Am) (Ta n m10 (cells6++[qA Y3]) t28 t29 (Aom .i64 (t30+1)) a1 t2_0))
 (Ta n m10 cells6 t28 t29 (Aom .i64 (t30+1)) a1 t2_0))))
 (cK 149 [D.sl cells6] fun Y4 =>
 cK 84 [a1] fun Y5 =>
 cK 90 [qA Y4,D.int ((qA Y5).toInt)] fun Y6 =>
 .ret [qA Y6,D.int 0]):=by kernel_rfl
theorem AiQ(n:Nat)(a0:D):fA Zf n 68 [] [a0] =
 cK 80 [a0] fun Y1 =>
 .br (((qB Y1).toInt)!=0) (.ret [D.agg [D.int 0,D.sl [],D.sl []],D.int ((qB Y1).toInt)])
 (.br ((((a0.fld 1).els).length:Int)==0) (.ret [D.agg [D.int 0,D.sl [],D.sl []],D.int 5])
 (cK 153 [qA Y1] fun Y2 =>
 .br (!((qA Y2).toBool)) (.ret [D.agg [D.int 0,D.sl [],D.sl []],D.int 3])
 (Ta n n [] (qA Y1) (((qA Y1).els).length:Int) 0 a0 0))):=by kernel_rfl
def Iw:List (Nat×Orc):=[(18,⟨[(3,none),(4,none),(6,none),(7,none),(9,some 23),(10,none),(11,none),(13,none),(64,some 23),(65,none),(66,none)],[(3,true),(4,true),(6,false),(7,false)],[(.slot 13,1180,3)]⟩),(25,⟨[(3,none),(4,none),(6,none),(7,none),(9,some 23),(10,none),(11,none),(13,none),(14,none),(64,some 23),(65,none),(66,none),(79,none),(80,none)],[(3,true),(4,true),(6,false),(7,false)],[(.slot 13,1250,3)]⟩)]
def JU:List ResultVar:=[.cell 6 26,.cell 7 29]
noncomputable def Qi(n m18 m25:Nat)(s9:D)(axis10 long11:Int)(from13:List D)(i14:Int)(t64:D)(t65 t66:Int)(t79 t80:Int)(nn3 a4:D)(r6_0 e7:Int):Tree :=
 lA (eA Iw n 110 [1,1,1,1,1,1,1,1,1,1,1,1,0,1,0,0,1,1,0,0,1,1,1,1,0,0]) (An Iw 25) m25 ⟨(uA 3++(.ptr 3 []:: .ptr 4 []:: .undef:: .ptr 6 []:: .ptr 7 []:: .undef:: .d 23 s9:: .i .i64 axis10:: .i .i64 long11:: .undef:: .row 1250:: .i .i64 i14::uA 49++(.d 23 t64:: .i .i64 t65:: .i .i64 t66::uA 12++(.i .i64 t79:: .i .i64 t80::uA 15)))),[(3,.var 26 (.d 26 nn3) true),(4,.var 26 (.d 26 a4) true),(6,.var 26 (.agg 26 [.i .u64 r6_0,.mt,.mt]) true),(7,.var 29 (.i .i64 e7) true),(1250,.row 3 from13 true)],[3,4,6,7,1250],[(187,[.ptr 6 [],.ptr 7 []])],[]⟩
  (Ak 2 (Ak 1 (Aq (jA Iw n 110 [1,1,1,1,1,1,1,1,1,1,1,1,0,1,0,0,1,1,1]) (Gb Tryz.prog md (An Iw 18) (fun s1=>lA (eA Iw n 110 [1,1,1,1,1,1,1,1,1,1,1,1,0,1,0,0]) (An Iw 18) m18 s1 (Ak 0 (Aq (jA Iw n 110 [1,1,1,1,1,1,1,1,1,1,1,1,1]) (rA 110 [26,26,4] JU [26,29])))) (Ak 0 (Aq (jA Iw n 110 [1,1,1,1,1,1,1,1,1,1,1,1,1]) (rA 110 [26,26,4] JU [26,29])))))))
noncomputable def Iv(n m18:Nat)(s9:D)(axis10 long11:Int)(from13:List D)(t64:D)(t65 t66:Int)(nn3 a4:D)(r6_0 e7:Int):Tree :=
 lA (eA Iw n 110 [1,1,1,1,1,1,1,1,1,1,1,1,0,1,0,0]) (An Iw 18) m18 ⟨(uA 3++(.ptr 3 []:: .ptr 4 []:: .undef:: .ptr 6 []:: .ptr 7 []:: .undef:: .d 23 s9:: .i .i64 axis10:: .i .i64 long11:: .undef:: .row 1180::uA 50++(.d 23 t64:: .i .i64 t65:: .i .i64 t66::uA 29))),[(3,.var 26 (.d 26 nn3) true),(4,.var 26 (.d 26 a4) true),(6,.var 26 (.agg 26 [.i .u64 r6_0,.mt,.mt]) true),(7,.var 29 (.i .i64 e7) true),(1180,.row 3 from13 true)],[3,4,6,7,1180],[(187,[.ptr 6 [],.ptr 7 []])],[]⟩
  (Ak 0 (Aq (jA Iw n 110 [1,1,1,1,1,1,1,1,1,1,1,1,1]) (rA 110 [26,26,4] JU [26,29])))
theorem XB(n m18 m25:Nat)(s9:D)(axis10 long11:Int)(from13:List D)(i14:Int)(t64:D)(t65 t66:Int)(t79 t80:Int)(nn3 a4:D)(r6_0 e7:Int):Qi n m18 (m25+1) s9 axis10 long11 from13 i14 t64 t65 t66 t79 t80 nn3 a4 r6_0 e7 =
 bK (t80<t79) (kK (from13.length + [D.int i14].length≤Am) (Qi n m18 m25 s9 axis10 long11 (from13++[D.int i14]) i14 t64 t65 t66 t79 (Aom .i64 (t80+1)) nn3 a4 r6_0 e7))
 (Iv n m18 s9 axis10 long11 from13 t64 t65 (Aom .i64 (t66+1)) nn3 a4 r6_0 e7):=by kernel_rfl
theorem XA(n m18:Nat)(s9:D)(axis10 long11:Int)(from13:List D)(t64:D)(t65 t66:Int)(nn3 a4:D)(r6_0 e7:Int):Iv n (m18+1) s9 axis10 long11 from13 t64 t65 t66 nn3 a4 r6_0 e7 =
 bK (t66<t65) (kK (0≤t66) (kK (t66<(t64.els.length:Int)) (bK ((Aom .i64 (2048-(from13.length:Int)))<((t64.els.getD (Apa t66) D.nil).toInt)) (.ret [D.agg [D.int 0,D.sl [],D.sl []],D.int 7])
 (.br (long11 == 1) (Qi n m18 n s9 axis10 long11 from13 0 t64 t65 t66 ((t64.els.getD (Apa t66) D.nil).toInt) 0 nn3 a4 r6_0 e7)
 (Qi n m18 n s9 axis10 long11 from13 t66 t64 t65 t66 ((t64.els.getD (Apa t66) D.nil).toInt) 0 nn3 a4 r6_0 e7)))))
 (cK 190 [nn3,a4,s9,D.int axis10,D.sl from13] fun Y5 =>
 .ret [qA Y5,D.int ((qB Y5).toInt)]):=by kernel_rfl
theorem AiO(n:Nat)(nn0 a1 first2:D):fA Iw n 110 [] [nn0,a1,first2] =
 cK 80 [nn0] fun Y1 =>
 .br (((qB Y1).toInt)!=0) (.ret [D.agg [D.int 0,D.sl [],D.sl []],D.int ((qB Y1).toInt)])
 (cK 167 [qA Y1,D.fn 188 [] []] fun Y2 =>
 .br ((qA Y2).toBool) (.ret [D.agg [D.int 0,D.sl [],D.sl []],D.int 3])
 (cK 189 [a1,D.bool first2.toBool] fun Y3 =>
 kK (0≤(qB Y3).toInt) (kK ((qB Y3).toInt<(((qA Y3).els).length:Int)) (.br (!((((nn0.fld 1).els).length:Int)==0)) (.br (((((qA Y3).els).getD (Apa ((qB Y3).toInt)) D.nil).toInt)!=1) (.br ((((qA Y1).els).length:Int)!=((((qA Y3).els).getD (Apa ((qB Y3).toInt)) D.nil).toInt)) (.ret [D.agg [D.int 0,D.sl [],D.sl []],D.int 4])
 (bK (2048<((((qA Y3).els).getD (Apa ((qB Y3).toInt)) D.nil).toInt)) (.ret [D.agg [D.int 0,D.sl [],D.sl []],D.int 7])
 (.br ((((nn0.fld 1).els).length:Int)==0) (cK 177 [qA Y1,D.int ((((qA Y3).els).getD (Apa ((qB Y3).toInt)) D.nil).toInt)] fun Y4 =>
 Iv n n (qA Y3) ((qB Y3).toInt) ((((qA Y3).els).getD (Apa ((qB Y3).toInt)) D.nil).toInt) [] (qA Y4) (((qA Y4).els).length:Int) 0 nn0 a1 0 ((qB Y1).toInt))
 (Iv n n (qA Y3) ((qB Y3).toInt) ((((qA Y3).els).getD (Apa ((qB Y3).toInt)) D.nil).toInt) [] (qA Y1) (((qA Y1).els).length:Int) 0 nn0 a1 0 ((qB Y1).toInt)))))
 (bK (2048<((((qA Y3).els).getD (Apa ((qB Y3).toInt)) D.nil).toInt)) (.ret [D.agg [D.int 0,D.sl [],D.sl []],D.int 7])
 (.br ((((nn0.fld 1).els).length:Int)==0) (cK 177 [qA Y1,D.int ((((qA Y3).els).getD (Apa ((qB Y3).toInt)) D.nil).toInt)] fun Y6 =>
 Iv n n (qA Y3) ((qB Y3).toInt) ((((qA Y3).els).getD (Apa ((qB Y3).toInt)) D.nil).toInt) [] (qA Y6) (((qA Y6).els).length:Int) 0 nn0 a1 0 ((qB Y1).toInt))
 (Iv n n (qA Y3) ((qB Y3).toInt) ((((qA Y3).els).getD (Apa ((qB Y3).toInt)) D.nil).toInt) [] (qA Y1) (((qA Y1).els).length:Int) 0 nn0 a1 0 ((qB Y1).toInt)))))
 (bK (2048<((((qA Y3).els).getD (Apa ((qB Y3).toInt)) D.nil).toInt)) (.ret [D.agg [D.int 0,D.sl [],D.sl []],D.int 7])
 (.br ((((nn0.fld 1).els).length:Int)==0) (cK 177 [qA Y1,D.int ((((qA Y3).els).getD (Apa ((qB Y3).toInt)) D.nil).toInt)] fun Y7 =>
 Iv n n (qA Y3) ((qB Y3).toInt) ((((qA Y3).els).getD (Apa ((qB Y3).toInt)) D.nil).toInt) [] (qA Y7) (((qA Y7).els).length:Int) 0 nn0 a1 0 ((qB Y1).toInt))
 (Iv n n (qA Y3) ((qB Y3).toInt) ((((qA Y3).els).getD (Apa ((qB Y3).toInt)) D.nil).toInt) [] (qA Y1) (((qA Y1).els).length:Int) 0 nn0 a1 0 ((qB Y1).toInt)))))))):=by kernel_rfl
def N_:List (Nat×Orc):=[(11,⟨[(3,none),(4,none),(6,none),(7,none),(9,some 23),(10,none),(11,none),(12,none),(39,some 23),(40,none),(41,none)],[(3,true),(4,true),(6,false),(7,false)],[(.slot 11,1110,3)]⟩),(20,⟨[(3,none),(4,none),(6,none),(7,none),(9,some 23),(10,none),(11,none),(64,none),(65,none)],[(3,true),(4,true),(6,false),(7,false)],[(.slot 11,1200,3)]⟩)]
def WY:List ResultVar:=[.cell 6 26,.cell 7 29]
noncomputable def S_(n m20:Nat)(s9:D)(axis10:Int)(from11:List D)(t64 t65:Int)(nn3 a4:D)(r6_0 e7:Int):Tree :=
 lA (eA N_ n 111 [1,1,1,1,1,1,1,1,1,0,1,0,1,0,0]) (An N_ 20) m20 ⟨(uA 3++(.ptr 3 []:: .ptr 4 []:: .undef:: .ptr 6 []:: .ptr 7 []:: .undef:: .d 23 s9:: .i .i64 axis10:: .row 1200::uA 52++(.i .i64 t64:: .i .i64 t65::uA 26))),[(3,.var 26 (.d 26 nn3) true),(4,.var 26 (.d 26 a4) true),(6,.var 26 (.agg 26 [.i .u64 r6_0,.mt,.mt]) true),(7,.var 29 (.i .i64 e7) true),(1200,.row 3 from11 true)],[3,4,6,7,1200],[(191,[.ptr 6 [],.ptr 7 []])],[]⟩
  (Ak 2 (Aq (jA N_ n 111 [1,1,1,1,1,1,1,1,1,1]) (rA 111 [26,26,4] WY [26,29])))
noncomputable def S9(n m11:Nat)(s9:D)(axis10:Int)(from11:List D)(ones12:Int)(t39:D)(t40 t41:Int)(nn3 a4:D)(r6_0 e7:Int):Tree :=
 lA (eA N_ n 111 [1,1,1,1,1,1,1,1,0,1,0,0]) (An N_ 11) m11 ⟨(uA 3++(.ptr 3 []:: .ptr 4 []:: .undef:: .ptr 6 []:: .ptr 7 []:: .undef:: .d 23 s9:: .i .i64 axis10:: .row 1110:: .i .i64 ones12::uA 26++(.d 23 t39:: .i .i64 t40:: .i .i64 t41::uA 50))),[(3,.var 26 (.d 26 nn3) true),(4,.var 26 (.d 26 a4) true),(6,.var 26 (.agg 26 [.i .u64 r6_0,.mt,.mt]) true),(7,.var 29 (.i .i64 e7) true),(1110,.row 3 from11 true)],[3,4,6,7,1110],[(191,[.ptr 6 [],.ptr 7 []])],[]⟩
  (Ak 0 (Aq (jA N_ n 111 [1,1,1,1,1,1,1,1,1]) (rA 111 [26,26,4] WY [26,29])))
theorem WX(n m20:Nat)(s9:D)(axis10:Int)(from11:List D)(t64 t65:Int)(nn3 a4:D)(r6_0 e7:Int):S_ n (m20+1) s9 axis10 from11 t64 t65 nn3 a4 r6_0 e7 =
 bK (t65<t64) (kK (0≤t65) (kK (t65<(from11.length:Int)) (kK (0≤t65) (kK (t65<(from11.length:Int)) (S_ n m20 s9 axis10 (from11.set (Apa t65) (D.int (if 0<((from11.getD (Apa t65) D.nil).toInt) then 0 else ((from11.getD (Apa t65) D.nil).toInt)))) t64 (Aom .i64 (t65+1)) nn3 a4 r6_0 e7)))))
 (cK 190 [nn3,a4,s9,D.int axis10,D.sl from11] fun Y4 =>
 .ret [qA Y4,D.int ((qB Y4).toInt)]):=by kernel_rfl
theorem WW(n m11:Nat)(s9:D)(axis10:Int)(from11:List D)(ones12:Int)(t39:D)(t40 t41:Int)(nn3 a4:D)(r6_0 e7:Int):S9 n (m11+1) s9 axis10 from11 ones12 t39 t40 t41 nn3 a4 r6_0 e7 =
 bK (t41<t40) (kK (0≤t41) (kK (t41<(t39.els.length:Int)) (kK (0≤t41) (kK (t41<(from11.length:Int)) (.br (((t39.els.getD (Apa t41) D.nil).toInt)==1) (kK (0≤t41) (kK (t41<((from11.set (Apa t41) (D.int (-1))).length:Int)) (S9 n m11 s9 axis10 ((from11.set (Apa t41) (D.int (-1))).set (Apa t41) (D.int ones12)) (Aom .i64 (ones12+1)) t39 t40 (Aom .i64 (t41+1)) nn3 a4 r6_0 e7)))
 (S9 n m11 s9 axis10 (from11.set (Apa t41) (D.int (-1))) ones12 t39 t40 (Aom .i64 (t41+1)) nn3 a4 r6_0 e7))))))
 (kK (0≤axis10) (kK (axis10<(s9.els.length:Int)) (.br (((s9.els.getD (Apa axis10) D.nil).toInt)==1) (S_ n n s9 axis10 from11 (from11.length:Int) 0 nn3 a4 r6_0 e7)
 (kK (0≤axis10) (kK (axis10<(s9.els.length:Int)) (.br (ones12 != ((s9.els.getD (Apa axis10) D.nil).toInt)) (.ret [D.agg [D.int 0,D.sl [],D.sl []],D.int 4])
 (cK 190 [nn3,a4,s9,D.int axis10,D.sl from11] fun Y5 =>
 .ret [qA Y5,D.int ((qB Y5).toInt)]))))))):=by kernel_rfl
theorem AiM(n:Nat)(nn0 a1 first2:D):fA N_ n 111 [] [nn0,a1,first2] =
 cK 80 [nn0] fun Y1 =>
 .br (((qB Y1).toInt)!=0) (.ret [D.agg [D.int 0,D.sl [],D.sl []],D.int ((qB Y1).toInt)])
 (cK 153 [qA Y1] fun Y2 =>
 .br (!((qA Y2).toBool)) (.ret [D.agg [D.int 0,D.sl [],D.sl []],D.int 3])
 (cK 189 [a1,D.bool first2.toBool] fun Y3 =>
 kK (0≤(((qA Y1).els).length:Int)) (kK ((((qA Y1).els).length:Int)≤(((qA Y1).els).length:Int)) (kK ((((qA Y1).els).length:Int)≤Am) (S9 n n (qA Y3) ((qB Y3).toInt) (Apc (Apa (((qA Y1).els).length:Int)) (D.int 0)) 0 (qA Y1) (((qA Y1).els).length:Int) 0 nn0 a1 0 ((qB Y1).toInt)))))):=by kernel_rfl
def Zg:List (Nat×Orc):=[(2,⟨[(5,some 23),(6,none),(7,none)],[],[]⟩)]
noncomputable def Qj(n m2:Nat)(t5:D)(t6 t7:Int):Tree :=
 lA (eA Zg n 153 [1,0,1,0,0]) (An Zg 2) m2 ⟨(uA 5++(.d 23 t5:: .i .i64 t6:: .i .i64 t7::uA 10)),[],[],[],[]⟩
  (Ak 0 (Aq (jA Zg n 153 [1,1]) (rA 153 [23] [.tmp 2] [4])))
theorem XG(n m2:Nat)(t5:D)(t6 t7:Int):Qj n (m2+1) t5 t6 t7 =
 bK (t7<t6) (kK (0≤t7) (kK (t7<(t5.els.length:Int)) (.br (((t5.els.getD (Apa t7) D.nil).toInt)!=0) (.br (((t5.els.getD (Apa t7) D.nil).toInt)!=1) (.ret [D.bool false])
 (Qj n m2 t5 t6 (Aom .i64 (t7+1))))
 (Qj n m2 t5 t6 (Aom .i64 (t7+1))))))
 (.ret [D.bool true]):=by kernel_rfl
theorem AiS(n:Nat)(l0:D):fA Zg n 153 [] [l0] =
 Qj n n l0 (l0.els.length:Int) 0:=by kernel_rfl
theorem AiN(n:Nat)(k0:D):fA [] n 188 [] [k0] =
 .ret [D.bool (decide (k0.toInt<0))]:=by kernel_rfl
theorem AiR(n:Nat)(a0 first1:D):fA [] n 189 [] [a0,first1] =
 .br ((((a0.fld 1).els).length:Int)==0) (.ret [D.sl [D.int 1],D.int 0])
 (.br first1.toBool (cK 96 [a0.fld 1] fun Y1 =>
 .ret [D.sl ((qA Y1).els),D.int 0])
 (cK 96 [a0.fld 1] fun Y2 =>
 .ret [D.sl ((qA Y2).els),D.int (Aom .i64 ((((a0.fld 1).els).length:Int)-1))])):=by kernel_rfl
def Ix:List (Nat×Orc):=[(9,⟨[(2,some 23),(3,none),(4,some 23),(5,none),(6,none),(10,none),(12,some 23),(18,none),(20,none),(21,none),(55,none),(56,none)],[(5,true),(6,true),(10,false),(20,true)],[(.slot 21,1090,67)]⟩),(12,⟨[(2,some 23),(3,none),(4,some 23),(5,none),(6,none),(10,none),(12,some 23),(18,none),(20,none),(21,none),(22,none),(55,none),(56,none),(59,some 23),(60,none),(61,none)],[(5,true),(6,true),(10,false),(20,true)],[(.slot 21,1120,67)]⟩)]
def JV:List Nat:=[26,26,23,3,23]
def JW:List ResultVar:=[.cell 10 26,.tmp 11]
noncomputable def Tb(n m9 m12:Nat)(s2:D)(axis3:Int)(from4 t12:D)(behind18:Int)(cells21:List D)(i22 t55 t56:Int)(t59:D)(t60 t61:Int)(nn5 a6:D)(t10_0:Int)(fill20:D):Tree :=
 lA (eA Ix n 190 [1,1,1,1,1,1,1,0,1,0,0,1,1,0,0,1,1,0,0]) (An Ix 12) m12 ⟨(.undef:: .undef:: .d 23 s2:: .i .i64 axis3:: .d 23 from4:: .ptr 5 []:: .ptr 6 []::uA 3++(.ptr 10 []:: .undef:: .d 23 t12::uA 5++(.i .i64 behind18:: .undef:: .ptr 20 []:: .row 1120:: .i .i64 i22::uA 32++(.i .i64 t55:: .i .i64 t56:: .undef:: .undef:: .d 23 t59:: .i .i64 t60:: .i .i64 t61::uA 40)))),[(5,.var 26 (.d 26 nn5) true),(6,.var 26 (.d 26 a6) true),(10,.var 26 (.agg 26 [.i .u64 t10_0,.mt,.mt]) true),(20,.var 67 (.d 67 fill20) true),(1120,.row 67 cells21 true)],[5,6,10,20,1120],[],[]⟩
  (Ak 2 (Ak 1 (Aq (jA Ix n 190 [1,1,1,1,1,1,1,0,1,0,0,1,1,1]) (Gb Tryz.prog md (An Ix 9) (fun s1=>lA (eA Ix n 190 [1,1,1,1,1,1,1,0,1,0,0]) (An Ix 9) m9 s1 (Ak 0 (Aq (jA Ix n 190 [1,1,1,1,1,1,1,1]) (rA 190 JV JW [26,29])))) (Ak 0 (Aq (jA Ix n 190 [1,1,1,1,1,1,1,1]) (rA 190 JV JW [26,29])))))))
noncomputable def Zi(n m9:Nat)(s2:D)(axis3:Int)(from4 t12:D)(behind18:Int)(cells21:List D)(t55 t56:Int)(nn5 a6:D)(t10_0:Int)(fill20:D):Tree :=
 lA (eA Ix n 190 [1,1,1,1,1,1,1,0,1,0,0]) (An Ix 9) m9 ⟨(.undef:: .undef:: .d 23 s2:: .i .i64 axis3:: .d 23 from4:: .ptr 5 []:: .ptr 6 []::uA 3++(.ptr 10 []:: .undef:: .d 23 t12::uA 5++(.i .i64 behind18:: .undef:: .ptr 20 []:: .row 1090::uA 33++(.i .i64 t55:: .i .i64 t56::uA 45)))),[(5,.var 26 (.d 26 nn5) true),(6,.var 26 (.d 26 a6) true),(10,.var 26 (.agg 26 [.i .u64 t10_0,.mt,.mt]) true),(20,.var 67 (.d 67 fill20) true),(1090,.row 67 cells21 true)],[5,6,10,20,1090],[],[]⟩
  (Ak 0 (Aq (jA Ix n 190 [1,1,1,1,1,1,1,1]) (rA 190 JV JW [26,29])))
theorem XI(n m9 m12:Nat)(s2:D)(axis3:Int)(from4 t12:D)(behind18:Int)(cells21:List D)(i22 t55 t56:Int)(t59:D)(t60 t61:Int)(nn5 a6:D)(t10_0:Int)(fill20:D):Tb n m9 (m12+1) s2 axis3 from4 t12 behind18 cells21 i22 t55 t56 t59 t60 t61 nn5 a6 t10_0 fill20 =
 bK (t61<t60) (kK (0≤t61) (kK (t61<(t59.els.length:Int)) (bK (((t59.els.getD (Apa t61) D.nil).toInt)<0) (cK 233 [D.sl [fill20],D.int behind18] fun Y5 =>
 kK (cells21.length+((qA Y5).els).length≤Am) (Tb n m9 m12 s2 axis3 from4 t12 behind18 (cells21++((qA Y5).els)) i22 t55 t56 t59 t60 (Aom .i64 (t61+1)) nn5 a6 t10_0 fill20))
 (kK (0≤axis3) (kK (axis3<(s2.els.length:Int)) (kK (0≤Aom .i64 ((Aom .i64 ((Aom .i64 (i22*((s2.els.getD (Apa axis3) D.nil).toInt)))+((t59.els.getD (Apa t61) D.nil).toInt)))*behind18)) (kK (Aom .i64 ((Aom .i64 ((Aom .i64 (i22*((s2.els.getD (Apa axis3) D.nil).toInt)))+((t59.els.getD (Apa t61) D.nil).toInt)))*behind18)≤Aom .i64 ((Aom .i64 ((Aom .i64 ((Aom .i64 (i22*((s2.els.getD (Apa axis3) D.nil).toInt)))+((t59.els.getD (Apa t61) D.nil).toInt)))*behind18))+behind18)) (kK (Aom .i64 ((Aom .i64 ((Aom .i64 ((Aom .i64 (i22*((s2.els.getD (Apa axis3) D.nil).toInt)))+((t59.els.getD (Apa t61) D.nil).toInt)))*behind18))+behind18)≤(((a6.fld 2).els).length:Int)) (kK (cells21.length+((((a6.fld 2).els).take (Apa (Aom .i64 ((Aom .i64 ((Aom .i64 ((Aom .i64 (i22*((s2.els.getD (Apa axis3) D.nil).toInt)))+((t59.els.getD (Apa t61) D.nil).toInt)))*behind18))+behind18)))).drop (Apa (Aom .i64 ((Aom .i64 ((Aom .i64 (i22*((s2.els.getD (Apa axis3) D.nil).toInt)))+((t59.els.getD (Apa t61) D.nil).toInt)))*behind18)))).length≤Am) (Tb n m9 m12 s2 axis3 from4 t12 behind18 (cells21++((((a6.fld 2).els).take (Apa (Aom .i64 ((Aom .i64 ((Aom .i64 ((Aom .i64 (i22*((s2.els.getD (Apa axis3) D.nil).toInt)))+((t59.els.getD (Apa t61) D.nil).toInt)))*behind18))+behind18)))).drop (Apa (Aom .i64 ((Aom .i64 ((Aom .i64 (i22*((s2.els.getD (Apa axis3) D.nil).toInt)))+((t59.els.getD (Apa t61) D.nil).toInt)))*behind18))))) i22 t55 t56 t59 t60 (Aom .i64 (t61+1)) nn5 a6 t10_0 fill20))))))))))
 (Zi n m9 s2 axis3 from4 t12 behind18 cells21 t55 (Aom .i64 (t56+1)) nn5 a6 t10_0 fill20):=by kernel_rfl
theorem XJ(n m9:Nat)(s2:D)(axis3:Int)(from4 t12:D)(behind18:Int)(cells21:List D)(t55 t56:Int)(nn5 a6:D)(t10_0:Int)(fill20:D):Zi n (m9+1) s2 axis3 from4 t12 behind18 cells21 t55 t56 nn5 a6 t10_0 fill20 =
 bK (t56<t55) (Tb n m9 n s2 axis3 from4 t12 behind18 cells21 t56 t55 t56 from4 (from4.els.length:Int) 0 nn5 a6 t10_0 fill20)
 (cK 84 [nn5] fun Y6 =>
 cK 83 [D.int ((a6.fld 0).toInt),D.int ((qA Y6).toInt)] fun Y7 =>
 .ret [D.agg [D.int ((qA Y7).toInt),t12,D.sl cells21],D.int 0]):=by kernel_rfl
theorem AiT(n:Nat)(nn0 a1:D)(s2 axis3 from4:D):fA Ix n 190 [] [nn0,a1,s2,axis3,from4] =
 cK 173 [s2,D.int axis3.toInt,D.int (from4.els.length:Int)] fun Y1 =>
 cK 81 [qA Y1] fun Y2 =>
 .br (((qB Y2).toInt)!=0) (.ret [D.agg [D.int 0,D.sl [],D.sl []],D.int ((qB Y2).toInt)])
 (cK 140 [qA Y1,D.int axis3.toInt] fun Y3 =>
 cK 82 [a1] fun Y4 =>
 kK (0≤0) (kK (0≤(qA Y2).toInt) (kK ((qA Y2).toInt≤Am) (Zi n n s2 axis3.toInt from4 (qA Y1) ((qC Y3).toInt) (Apc (Apa 0) (D.agg [D.int 0,D.int 0,D.agg [D.bool false,D.sl [],D.sl []],D.int 0,D.sl []])) ((qA Y3).toInt) 0 nn0 a1 0 (qA Y4))))):=by kernel_rfl
def Ms(a:Arr)(L B:Nat)(fr:List Int)(j:Nat):Cell:=if fr.getD (j / B % fr.length) 0<0 then Cl a else a.cells.getD ((j / B / fr.length*L+(fr.getD (j / B % fr.length) 0).toNat)*B+j % B) Cell.none
def Cz(a:Arr)(s:List Nat)(x:Nat)(fr:List Int)(more:Al):Arr×Int:=if (A7 (iN (s.set x fr.length))).2≠0 then (.none,(A7 (iN (s.set x fr.length))).2) else (.mk (a.s|||more) (iN (s.set x fr.length)) ((Ap8 (Eb (s.set x fr.length))).map (Ms a (s.getD x 0) (A8 (s.drop (x+1))) fr)),0)
theorem ER(A Bl:List Nat)(F j:Nat):Rm (A++F::Bl) j=(Fn A.reverse (j / A8 Bl / F)).reverse++(j / A8 Bl % F)::(Fn Bl.reverse j).reverse:=by
 unfold Rm
 rw[List.reverse_append,List.reverse_cons,Apz,QE,KA]
 simp[Fn]
theorem AbL{s:List Nat}{x:Nat}(hx:x<s.length):s=s.take x++s.getD x 0::s.drop (x+1)∧(s.take x).length=x:=by
 refine ⟨?_,by rw[Apr];omega⟩
 rw[Ape,Apb hx]
 conv=>lhs;rw[← Ap5 x s,Ap1 hx]
 rfl
theorem Abl{s:List Nat}{x F:Nat}(hx:x<s.length):s.set x F=s.take x++F::s.drop (x+1):=by
 rw[List.set_eq_take_append_cons_drop,if_pos hx]
theorem Zm(A Bl:List Nat)(F:Nat):A8 (A++F::Bl)=A8 A*(F*A8 Bl):=by rw[JZ];rfl
theorem AiU{A Bl:List Nat}{F L j k:Nat}(hj:j<A8 (A++F::Bl))(hk:k<L) :
   (Rm (A++F::Bl) j).getD A.length 0=j / A8 Bl % F∧(Rm (A++F::Bl) j).set A.length k=Rm (A++L::Bl) ((j / A8 Bl / F*L+k)*A8 Bl+j % A8 Bl)∧(j / A8 Bl / F*L+k)*A8 Bl+j % A8 Bl<A8 (A++L::Bl):=by
 rw[Zm]at hj
 have hB:0<A8 Bl:=by
   rcases Nat.eq_zero_or_pos (A8 Bl) with h | h
   · rw[h]at hj;simp at hj
   · exact h
 have hF:0<F:=by
   rcases Nat.eq_zero_or_pos F with h | h
   · rw[h]at hj;simp at hj
   · exact h
 have hb:=Ap4 j hB
 have hl:((Fn A.reverse (j / A8 Bl / F)).reverse).length=A.length:=by simp[QF]
 have e1:((j / A8 Bl / F*L+k)*A8 Bl+j % A8 Bl) / A8 Bl=j / A8 Bl / F*L+k:=by
   rw[Ap9,Nat.mul_add_div hB,Nat.div_eq_of_lt hb,Nat.add_zero]
 have e2:((j / A8 Bl / F*L+k)*A8 Bl+j % A8 Bl) % A8 Bl=j % A8 Bl:=by
   rw[Ap9,Nat.mul_add_mod,Nat.mod_mod]
 have e3:(j / A8 Bl / F*L+k) % L=k:=by rw[Ap9,Nat.mul_add_mod,Ap6 hk]
 have e4:(j / A8 Bl / F*L+k) / L=j / A8 Bl / F:=by rw[Ap9,Nat.mul_add_div (by omega),Nat.div_eq_of_lt hk,Nat.add_zero]
 have e5:Fn Bl.reverse ((j / A8 Bl / F*L+k)*A8 Bl+j % A8 Bl)=Fn Bl.reverse j:=by
   rw[← GF Bl.reverse ((j / A8 Bl / F*L+k)*A8 Bl+j % A8 Bl),← GF Bl.reverse j,KA,e2]
 refine ⟨?_,?_,?_⟩
 · rw[ER,Ape,Aqe (by omega),hl,Nat.sub_self];rfl
 · rw[ER,ER,e1,e3,e4,e5,List.set_append_right _ _ (by omega),hl,Nat.sub_self];rfl
 · have hq:j / A8 Bl / F<A8 A:=by
    rw[Aqd]
    refine Nat.div_lt_of_lt_mul ?_
    rw[Ap9 (A8 Bl) F,Ap9 (F*A8 Bl)];exact hj
   rw[Zm]
   generalize j / A8 Bl / F=q at *
   have h1:(q*L+k)*A8 Bl+j % A8 Bl<(q*L+k+1)*A8 Bl:=by rw[Nat.add_mul (q*L+k) 1,Nat.one_mul];omega
   have h2:q*L+k+1≤(q+1)*L:=by rw[Nat.add_mul,Nat.one_mul];omega
   have h3:(q*L+k+1)*A8 Bl≤((q+1)*L)*A8 Bl:=Apu _ h2
   have h4:((q+1)*L)*A8 Bl≤(A8 A*L)*A8 Bl:=Apu _ (Apu _ hq)
   rw[← Nat.mul_assoc]
   omega
def U2(L:Nat)(fr:List Int):Prop:=∀ k∈fr,k<0∨(0≤k∧k<(L:Int))
theorem RY{l:List Int}{i:Nat}(h:i<l.length):l.getD i 0∈l:=by
 rw[Ape,Apb h];exact Aqc h
structure Boxed (a:Arr) (s:List Nat):Prop where
 ok:(A7 (iN s)).2=0
 len:a.cells.length=Eb s
theorem PI{s:List Nat}(h:(A7 (iN s)).2=0)(hp : ∀ x∈s,1≤x):Eb s=A8 s:=by
 rcases (Rs h).2 with ⟨h0,_⟩ | h1
 · have:=hp 0 h0;omega
 · exact h1.2.1
theorem AiV{s:List Nat}(h:(A7 (iN s)).2=0)(hc:0<Eb s):(∀ x∈s,1≤x)∧Eb s=A8 s∧Eb s≤2048:=by
 rcases (Rs h).2 with ⟨_,h0⟩ | h1
 · omega
 · exact ⟨fun x hx=>(h1.1 x hx).1,h1.2.1,h1.2.2.2⟩
theorem KC : ∀ (l:List Nat) (p:Nat),p≤2048→∃ r:Nat,A_ (iN l) (p:Int)=(r:Int)∧r≤2048
 | [],p,h=>⟨p,rfl,h⟩
 | x::xs,p,h=>by
  simp only[iN,Ap7,A_]
  split
  · exact ⟨0,rfl,by omega⟩
  · rename_i h2
    have:=KC xs (p*x) (by
     have:((p*x:Nat):Int)≤2048:=by rw[Int.natCast_mul];omega
     omega)
    simpa [iN]using this
theorem YD : ∀ (l:List Nat),A_ (iN l) 0=0
 | []=>rfl
 | x::xs=>by
  simp only[iN,Ap7,A_,Int.zero_mul]
  rw[if_neg (by omega)];exact YD xs
theorem KD : ∀ (l:List Nat) (p:Int),0∈l→A_ (iN l) p=0
 | x::xs,p,h=>by
  simp only[iN,Ap7,A_]
  split
  · rfl
  · rcases Apt.1 h with h | h
    · subst h
      rw[show p*((0:Nat):Int)=0 by simp];exact YD xs
    · exact KD xs _ h
theorem Zl : ∀ (l:List Nat),(∀ x∈l,1≤x)→1≤A8 l
 | [],_=>Apo _
 | x::xs,h=>Nat.mul_pos (h x (by simp)) (Zl xs (fun y hy=>h y (by simp[hy])))
theorem KB : ∀ (l:List Nat) (p:Nat),(∀ x∈l,1≤x)→p*A8 l≤2048→A_ (iN l) (p:Int)=((p*A8 l:Nat):Int)
 | [],p,_,_=>by simp[iN,A_,A8]
 | x::xs,p,h,hb=>by
  have hp:=Zl xs (fun y hy=>h y (by simp[hy]))
  simp only[A8,← Nat.mul_assoc]at hb ⊢
  have h1:p*x≤p*x*A8 xs:=Nat.le_mul_of_pos_right _ hp
  have h2:(p:Int)*(x:Int)=((p*x:Nat):Int):=by rw[Int.natCast_mul]
  simp only[iN,Ap7,A_,h2]
  rw[if_neg (by omega)]
  exact KB xs (p*x) (fun y hy=>h y (by simp[hy])) hb
theorem GR{α β:Type}{f g:α→List β} : ∀ {l:List α},(∀ x∈l,f x=g x)→l.flatMap f=l.flatMap g
 | [],_=>rfl
 | x::xs,h=>by rw[List.flatMap_cons,List.flatMap_cons,h x (by simp),GR (fun y hy=>h y (by simp[hy]))]
theorem GS{α:Type}(g:Nat→Nat→α){m:Nat}(hm:0<m) : ∀ n:Nat,(Ap8 n).flatMap (fun i=>(Ap8 m).map (g i))=(Ap8 (n*m)).map (fun q=>g (q / m) (q % m))
 | 0=>by simp
 | n+1=>by
  rw[List.range_succ,List.flatMap_append,GS g hm n,Nat.succ_mul,List.range_add,List.map_append,List.map_map]
  congr 1
  simp only[List.flatMap_cons,List.flatMap_nil,Apx]
  refine List.map_congr_left (fun j hj=> ?_)
  have hj:=List.mem_range.1 hj
  simp only[Function.comp]
  rw[Ap9,Nat.mul_add_div hm,Nat.div_eq_of_lt hj,Nat.mul_add_mod,Ap6 hj,Nat.add_zero]
theorem Adz(l:List Int):l=(Ap8 l.length).map (fun i=>l.getD i 0):=by
 apply List.ext_getElem
 · simp
 · intro i h1 h2
   simp[Ape,Apb h1]
def Kl(a:Arr)(L bh i:Nat)(k:Int):List Cell:=if k<0 then Apc bh (Cl a) else (a.cells.take ((i*L+k.toNat)*bh+bh)).drop ((i*L+k.toNat)*bh)
def H5(a:Arr)(L bh:Nat)(fr:List Int)(i:Nat):List Cell:=fr.flatMap (Kl a L bh i)
def Re(a:Arr)(L bh ah:Nat)(fr:List Int):Prop:=∀ i,i<ah→∀ k∈fr,0≤k→(i*L+k.toNat)*bh+bh≤a.cells.length
theorem XM{a:Arr}{L bh i:Nat}{k:Int}(h:0≤k→(i*L+k.toNat)*bh+bh≤a.cells.length):Kl a L bh i k=(Ap8 bh).map (fun b=>if k<0 then Cl a else a.cells.getD ((i*L+k.toNat)*bh+b) Cell.none):=by
 unfold Kl
 split
 · apply List.ext_getElem
   · simp
   · intro j h1 h2;simp
 · have h:=h (by omega)
   apply List.ext_getElem
   · simp;omega
   · intro j h1 h2
     simp only[Apd,List.length_range]at h2
     rw[List.getElem_drop,List.getElem_take,List.getElem_map,List.getElem_range,Ape,Apb (by omega)]
     rfl
theorem XL{a:Arr}{L bh i:Nat}{k:Int}(h:0≤k→(i*L+k.toNat)*bh+bh≤a.cells.length):(Kl a L bh i k).length=bh:=by rw[XM h];simp
theorem Ww{α β:Type}{f:α→List β}{m:Nat} : ∀ {l:List α},(∀ x∈l,(f x).length=m)→(l.flatMap f).length=l.length*m
 | [],_=>by simp
 | x::xs,h=>by rw[List.flatMap_cons,Apn,h x (by simp),Ww (fun y hy=>h y (by simp[hy])),Apg,Nat.succ_mul];omega
theorem LJ{a:Arr}{L bh ah i:Nat}{fr:List Int}(h:Re a L bh ah fr)(hi:i<ah):(H5 a L bh fr i).length=fr.length*bh:=Ww (fun k hk=>XL (fun h0=>h i hi k hk h0))
theorem Al9{a:Arr}{L bh ah:Nat}{fr:List Int}(h:Re a L bh ah fr)(hF:0<fr.length)(hB:0<bh):(Ap8 ah).flatMap (H5 a L bh fr)=(Ap8 (ah*(fr.length*bh))).map (Ms a L bh fr):=by
 have e1 : ∀ i,i<ah→H5 a L bh fr i=(Ap8 (fr.length*bh)).map (fun q=>if fr.getD (q / bh) 0<0 then Cl a else a.cells.getD ((i*L+(fr.getD (q / bh) 0).toNat)*bh+q % bh) Cell.none):=fun i hi=>by
  rw[← GS (fun m b=>if fr.getD m 0<0 then Cl a else a.cells.getD ((i*L+(fr.getD m 0).toNat)*bh+b) Cell.none) hB]
  unfold H5
  conv=>lhs;rw[Adz fr]
  rw[List.flatMap_map]
  refine GR (fun m hm=> ?_)
  have hm:=List.mem_range.1 hm
  exact XM (fun h0=>h i hi _ (RY hm) h0)
 have e2:(Ap8 ah).flatMap (H5 a L bh fr)=(Ap8 ah).flatMap (fun i=>(Ap8 (fr.length*bh)).map (fun q=>if fr.getD (q / bh) 0<0 then Cl a else a.cells.getD ((i*L+(fr.getD (q / bh) 0).toNat)*bh+q % bh) Cell.none)):=GR (fun i hi=>e1 i (List.mem_range.1 hi))
 rw[e2,GS (fun i q=>if fr.getD (q / bh) 0<0 then Cl a else a.cells.getD ((i*L+(fr.getD (q / bh) 0).toNat)*bh+q % bh) Cell.none) (Nat.mul_pos hF hB)]
 refine List.map_congr_left (fun j _=> ?_)
 unfold Ms
 rw[Ap9 fr.length bh,Nat.mod_mul_right_mod,Nat.mod_mul_right_div_self,← Aqd]
theorem XK(n a:Arr)(s:List Nat)(x:Nat)(fr:List Int)(hn:Fits n)(hb:Boxed a s)(hx:x<s.length)(hf:U2 (s.getD x 0) fr)(hfl:fr.length≤2048):Sp 190 [dA n,dA a,dI (iN s),.int (x:Int),dI fr] [dA (Cz a s x fr (Au n)).1,.int (Cz a s x fr (Au n)).2]:=by
 have h6:=(Rs hb.ok).1
 have hal:a.cells.length≤2048:=by rw[hb.len];rcases (Rs hb.ok).2 with h | h <;> omega
 have hwith:=Abt (iN s) (x:Int) (fr.length:Int) (by rw[Ny];omega)
 unfold Uv at hwith
 rw[if_pos (by rw[Ny];omega),Apj,show (iN s).set x ((fr.length:Nat):Int)=iN (s.set x fr.length) by unfold iN;rw[List.map_set]]at hwith
 refine Af 4096 (AiT _ _ _ _ _ _) ?_
 simp only[Ch,Apd,Ao]
 refine Aa hwith (Aa (Ol _) ?_)
 unfold Cz
 simp only[Ah,C1,Ao,Dg,C8,Hq]
 refine Ae (fun h=>Ac (by rw[if_pos h])) (fun h=> ?_)
 rw[if_neg h]
 have hok:=Apm.1 h
 obtain ⟨sp1,sp2⟩:=AbL hx
 have st:=Abl (F:=fr.length) hx
 have hcl:=Fw (iN (s.set x fr.length))
 have hcn:(A7 (iN (s.set x fr.length))).1=((Eb (s.set x fr.length):Nat):Int):=by unfold Eb;omega
 obtain ⟨ah,ha,hah⟩:=KC ((s.set x fr.length).take x) 1 (by decide)
 obtain ⟨bh,hbh,hbl⟩:=KC ((s.set x fr.length).drop (x+1)) 1 (by decide)
 have tk:(s.set x fr.length).take x=s.take x:=by rw[st,List.take_left' sp2]
 have dr:(s.set x fr.length).drop (x+1)=s.drop (x+1):=by
  rw[st,show s.take x++fr.length::s.drop (x+1)=(s.take x++[fr.length])++s.drop (x+1) by simp,List.drop_left' (by rw[Apn,sp2];rfl)]
 rw[tk]at ha
 rw[dr]at hbh
 have haround:=LW (iN (s.set x fr.length)) (x:Int)
 unfold Nh at haround
 rw[if_pos ⟨hok,by omega,by rw[Ny,List.length_set];omega⟩,Apj,show (iN (s.set x fr.length)).take x=iN (s.take x) by unfold iN;rw[← List.map_take,tk],show (iN (s.set x fr.length)).drop (x+1)=iN (s.drop (x+1)) by unfold iN;rw[← List.map_drop,dr],show (1:Int)=((1:Nat):Int) from rfl,ha,hbh]at haround
 have hL:s.getD x 0≤2048:=by
  have hm:s.getD x 0∈s:=by rw[Ape,Apb hx];exact Aqc hx
  have:=(Gm hb.ok).2 ((s.getD x 0:Nat):Int) (List.mem_map.2 ⟨_,hm,rfl⟩)
  omega
 have facts:Re a (s.getD x 0) bh ah fr∧ah*(fr.length*bh)=Eb (s.set x fr.length)∧(Ap8 ah).flatMap (H5 a (s.getD x 0) bh fr)=(Ap8 (Eb (s.set x fr.length))).map (Ms a (s.getD x 0) (A8 (s.drop (x+1))) fr):=by
  rcases (Rs hok).2 with ⟨hz,hc0⟩ | ⟨hpos,hcp,hc1,hc2⟩
  · have prod0:ah=0∨fr.length=0∨bh=0:=by
     rw[st]at hz
     rcases Aqh.1 hz with hz | hz
     · left;have:=KD _ 1 hz;rw[show (1:Int)=((1:Nat):Int) from rfl,ha]at this;omega
     · rcases Apt.1 hz with hz | hz
       · right;left;exact hz.symm
       · right;right;have:=KD _ 1 hz;rw[show (1:Int)=((1:Nat):Int) from rfl,hbh]at this;omega
    have off:Re a (s.getD x 0) bh ah fr:=fun i hi k hk h0=>by
     have:0<fr.length:=List.length_pos_of_mem hk
     have hb0:bh=0:=by omega
     rw[hb0];simp
    have prod1:ah*(fr.length*bh)=0:=by
     rcases prod0 with h | h | h <;> rw[h] <;> simp
    refine ⟨off,by omega,?_⟩
    rw[hc0]
    apply List.eq_nil_of_length_eq_zero
    rw[Ww (m:=fr.length*bh) (fun i hi=>LJ off (List.mem_range.1 hi)),List.length_range]
    exact prod1
  · have hpA : ∀ y∈s.take x,1≤y:=fun y hy=>(hpos y (by rw[st];simp[hy])).1
    have hpB : ∀ y∈s.drop (x+1),1≤y:=fun y hy=>(hpos y (by rw[st];simp[hy])).1
    have hF:0<fr.length:=(hpos _ (by rw[st];simp)).1
    have hA1:=Zl _ hpA
    have hB1:=Zl _ hpB
    have hcs:Eb (s.set x fr.length)=A8 (s.take x)*(fr.length*A8 (s.drop (x+1))):=by rw[hcp,st,Zm]
    have m1:A8 (s.take x)≤A8 (s.take x)*(fr.length*A8 (s.drop (x+1))):=Nat.le_mul_of_pos_right _ (Nat.mul_pos hF hB1)
    have m2:A8 (s.drop (x+1))≤A8 (s.take x)*(fr.length*A8 (s.drop (x+1))):=by
     rw[← Nat.mul_assoc];exact Nat.le_mul_of_pos_left _ (Nat.mul_pos hA1 hF)
    have eA:=KB (s.take x) 1 hpA (by omega)
    have eB:=KB (s.drop (x+1)) 1 hpB (by omega)
    rw[ha,Nat.one_mul]at eA
    rw[hbh,Nat.one_mul]at eB
    have eA':ah=A8 (s.take x):=by omega
    have eB':bh=A8 (s.drop (x+1)):=by omega
    have off:Re a (s.getD x 0) bh ah fr:=fun i hi k hk h0=>by
     have hkl:=hf k hk
     have hkL:k.toNat<s.getD x 0:=by omega
     have hsp : ∀ y∈s,1≤y:=fun y hy=>by
       rw[sp1]at hy
       rcases Aqh.1 hy with hy | hy
       · exact hpA y hy
       · rcases Apt.1 hy with rfl | hy
         · omega
         · exact hpB y hy
     have hsc:=PI hb.ok hsp
     rw[hb.len,hsc]
     conv=>rhs;rw[sp1]
     rw[Zm,← eA',← eB']
     have h1:(i*s.getD x 0+k.toNat)*bh+bh=(i*s.getD x 0+k.toNat+1)*bh:=by rw[Nat.add_mul (i*s.getD x 0+k.toNat) 1,Nat.one_mul]
     have h2:i*s.getD x 0+k.toNat+1≤(i+1)*s.getD x 0:=by rw[Nat.add_mul,Nat.one_mul];omega
     have h3:(i+1)*s.getD x 0≤ah*s.getD x 0:=Apu _ hi
     rw[h1,← Nat.mul_assoc]
     exact Apu _ (Nat.le_trans h2 h3)
    refine ⟨off,by rw[eA',eB',hcs],?_⟩
    rw[Al9 off hF (by omega),eA',eB',hcs]
 obtain ⟨off,hprod,hrows⟩:=facts
 have hcl2:Eb (s.set x fr.length)≤2048:=by omega
 refine Aa haround (Aa (Vb a) ?_)
 simp only[Ah,Ao,hcn]
 refine Ad (Ad (A0 (by simp only[Am];omega) ?_))
 have lens : ∀ i,i≤ah→((Ap8 i).flatMap (H5 a (s.getD x 0) bh fr)).length=i*(fr.length*bh):=fun i hi=>by
  rw[Ww (m:=fr.length*bh) (fun j hj=>LJ off (by have:=List.mem_range.1 hj;omega)),List.length_range]
 have gL:((iN s).map D.int).getD x D.nil=D.int ((s.getD x 0:Nat):Int):=by
  rw[SL,Aw (Apb hx),Ape,Apb hx];rfl
 have key:=Dl ah (fun m i (_:Unit)=>Zi 4096 m (dI (iN s)) (x:Int) (dI fr) (dI (iN (s.set x fr.length))) (bh:Int) (((Ap8 i).flatMap (H5 a (s.getD x 0) bh fr)).map dC) (ah:Int) (i:Int) (dA n) (dA a) 0 (dC (Cl a))) (fun _ _=>[dA (.mk (a.s|||Au n) (iN (s.set x fr.length)) ((Ap8 ah).flatMap (H5 a (s.getD x 0) bh fr))),.int 0]) (fun _ _=>True)
  (fun m t _=>by
    simp only[XJ,FU]
    refine At (Aa (Fi n hn) ?_)
    simp only[Ah,En,Me]
    refine Aa (Ha a.s _) (Ac ?_)
    simp only[Ah,En,Me]
    rw[D5];rfl)
  (fun m i t hi _ ih=>by
    have ih:=ih () trivial
    rw[List.range_succ,List.flatMap_append,List.flatMap_cons,List.flatMap_nil,Apx]at ih
    simp only[XJ,Ch,Apd]
    refine Ad ?_
    have hli:=lens i (by omega)
    have hli1:=lens (i+1) (by omega)
    have hle1:(i+1)*(fr.length*bh)≤ah*(fr.length*bh):=Apu _ hi
    rw[Nat.succ_mul]at hle1
    have key2:=Ca fr (fun q k (cs:List Cell)=>Tb 4096 m q (dI (iN s)) (x:Int) (dI fr) (dI (iN (s.set x fr.length))) (bh:Int) (cs.map dC) (i:Int) (ah:Int) (i:Int) (dI fr) (fr.length:Int) (k:Int) (dA n) (dA a) 0 (dC (Cl a))) (fun _ _=>[dA (.mk (a.s|||Au n) (iN (s.set x fr.length)) ((Ap8 ah).flatMap (H5 a (s.getD x 0) bh fr))),.int 0]) (fun rest cs=>cs++rest.flatMap (Kl a (s.getD x 0) bh i)=(Ap8 i).flatMap (H5 a (s.getD x 0) bh fr)++H5 a (s.getD x 0) bh fr i)
     (fun q k cs hk hI=>by
       rw[List.flatMap_nil,Apx]at hI
       simp only[XI,Bh i]
       rw[hI]
       exact At ih)
     (fun q k cs z rest hd hI ih'=>by
       obtain ⟨h1,h2,h3⟩:=B6 hd
       have hz:=Aph h2
       rw[List.flatMap_cons,← Apz]at hI
       have ih':=ih' (cs++Kl a (s.getD x 0) bh i z) hI
       have hpl:=XL (a:=a) (L:=s.getD x 0) (bh:=bh) (i:=i) (k:=z) (fun h0=>off i hi z hz h0)
       have htl:cs.length+bh≤2048:=by
         have:=congrArg Aql hI
         simp only[Apn,hli,LJ off hi,hpl]at this
         omega
       rw[List.map_append]at ih'
       simp only[XI,Ch,Apd,Apj,Aw h2,Ao,Bh k,gL]
       refine Ad (Ad (Ad (Ae (fun g=> ?_) (fun g=> ?_))))
       · have e:Kl a (s.getD x 0) bh i z=Apc bh (Cl a):=by unfold Kl;rw[if_pos g]
         rw[e,List.map_replicate]at ih'
         refine Aa (Alr bh (Cl a) (by omega)) (A0 (by simp only[Ah,Ed,Aqg,Am];omega) ?_)
         exact ih'
       · obtain ⟨Z,rfl⟩ : ∃ Z:Nat,z=(Z:Int):=⟨z.toNat,by omega⟩
         have ho:=off i hi _ hz (by omega)
         have e:Kl a (s.getD x 0) bh i (Z:Int)=(a.cells.take ((i*s.getD x 0+Z)*bh+bh)).drop ((i*s.getD x 0+Z)*bh):=by unfold Kl;rw[if_neg g,Apj]
         rw[e,List.map_drop,List.map_take]at ih'
         rw[Apj]at ho
         have hil:i*s.getD x 0≤2048*2048:=Nat.mul_le_mul (by omega) hL
         have hZ:=hf _ hz
         have w1:Aom .i64 ((i:Int)*((s.getD x 0:Nat):Int))=((i*s.getD x 0:Nat):Int):=by rw[← Int.natCast_mul,Ax (by omega) (by omega)]
         have w2:Aom .i64 (((i*s.getD x 0:Nat):Int)+(Z:Int))=((i*s.getD x 0+Z:Nat):Int):=by rw[Ax (by omega) (by omega)];rfl
         have w3:Aom .i64 (((i*s.getD x 0+Z:Nat):Int)*(bh:Int))=(((i*s.getD x 0+Z)*bh:Nat):Int):=by rw[← Int.natCast_mul,Ax (by omega) (by omega)]
         have w4:Aom .i64 ((((i*s.getD x 0+Z)*bh:Nat):Int)+(bh:Int))=(((i*s.getD x 0+Z)*bh+bh:Nat):Int):=by rw[Ax (by omega) (by omega)];rfl
         simp only[w1,w2,w3,w4,Apj,FV,Ed,Apd]
         have hdl:(((a.cells.map dC).take ((i*s.getD x 0+Z)*bh+bh)).drop ((i*s.getD x 0+Z)*bh)).length=bh:=by rw[App,Apr,Apd];omega
         simp only[hdl]
         refine Ad (A0 (by rw[Ny];omega) (Ad (Ad (Ad (A0 (by simp only[Am];omega) ?_)))))
         exact ih')
     4096 0 ((Ap8 i).flatMap (H5 a (s.getD x 0) bh fr)) (by omega) (by omega) (by rw[List.drop_zero];rfl)
    exact key2)
  4096 0 () (by omega) (by omega) trivial
 rw[hrows]at key
 exact key
def aN(a:Arr):List Nat:=if a.shape = [] then [1] else a.shape.map Apa
def Av(a:Arr)(first:Bool):Nat:=if a.shape = [] then 0 else if first then 0 else a.shape.length-1
theorem SM{a:Arr}(h : ∀ x∈a.shape,0≤x):iN (aN a)=if a.shape = [] then [1] else a.shape:=by
 unfold aN
 by_cases h0:a.shape = []
 · rw[if_pos h0,if_pos h0];rfl
 · rw[if_neg h0,if_neg h0]
   obtain ⟨m,hm⟩:=Af9 h
   rw[hm]
   unfold iN
   rw[List.map_map,List.map_map]
   exact List.map_congr_left (fun x _=>by simp)
theorem O7(a:Arr)(first:Bool):Av a first<(aN a).length:=by
 unfold Av aN
 split
 · simp
 · rename_i h
   have:=List.length_pos_iff.2 h
   split <;> simp <;> omega
theorem Rg{d:Nat}{a:Arr}(h:Aj d a=true):Boxed a (aN a):=by
 have hc:=(Ce h).1
 have hi:=SM (a:=a) (fun x hx=>((Dj h).2.2 x hx).1)
 by_cases h0:a.shape = []
 · rw[if_pos h0]at hi
   rw[h0]at hc
   have e:A7 ([]:List Int)=(1,0):=by decide
   rw[e]at hc
   have e1:A7 ([1]:List Int)=(1,0):=by decide
   refine ⟨by rw[hi,e1],?_⟩
   unfold Eb
   rw[hi,e1]
   have:=congrArg Prod.fst hc
   simp only at this
   show a.cells.length=1
   omega
 · rw[if_neg h0]at hi
   refine ⟨by rw[hi,hc],?_⟩
   unfold Eb
   rw[hi,hc];simp
theorem NM{d:Nat}{a:Arr}(h:Aj d a=true){x:Nat}(hx:x<(aN a).length):(aN a).getD x 0≤2048:=by
 have hm:(aN a).getD x 0∈aN a:=by rw[Ape,Apb hx];exact Aqc hx
 have:=(Gm (Rg h).ok).2 (((aN a).getD x 0:Nat):Int) (List.mem_map.2 ⟨_,hm,rfl⟩)
 omega
theorem OO{s:List Nat}{x:Nat}(hx:x<s.length):((iN s).map D.int).getD x D.nil=D.int ((s.getD x 0:Nat):Int):=by
 rw[SL,Aw (Apb hx),Ape,Apb hx];rfl
theorem PH(l:List Int)(h:l.length≤1000):Sp 96 [dI l] [dI l]:=by
 refine Af 0 (Aby _ _) (AcA (fun h=>Ac ?_) (A0 (by simp only[Ch,Apd,Apv,Am];omega) (Ac (by simp[dI]))))
 have:l = []:=by simpa using h
 subst this;rfl
theorem XF{d:Nat}(a:Arr)(first:Bool)(h:Aj d a=true):Sp 189 [dA a,.bool first] [dI (iN (aN a)),.int ((Av a first:Nat):Int)]:=by
 have hl:=(Dj h).2.1
 have hi:=SM (a:=a) (fun x hx=>((Dj h).2.2 x hx).1)
 refine Af 0 (AiR _ _ _) ?_
 simp only[V4,Ch,Apd,Ba,Cn]
 rw[hi]
 unfold Av
 refine Ae (fun g=>Ac ?_) (fun g=> ?_)
 · have:a.shape = []:=Ap2.1 (by omega)
   rw[if_pos this,if_pos this];rfl
 · have hne:a.shape≠[]:=fun hh=>g (by rw[hh];rfl)
   rw[if_neg hne,if_neg hne]
   refine B7 (fun e=>Aa (PH a.shape (by omega)) (Ac ?_)) (fun e=>Aa (PH a.shape (by omega)) (Ac ?_))
   · rw[if_pos e];rfl
   · have hpos:=List.length_pos_iff.2 hne
     rw[if_neg (by rw[e];decide),Ax (by omega) (by omega),show ((a.shape.length-1:Nat):Int)=(a.shape.length:Int)-1 by omega];rfl
def Fa(one:Bool):List Int→Nat→List Int→Option (List Int)
 | [],_,acc=>some acc
 | k::ks,i,acc=>if 2048-(acc.length:Int)<k then none else Fa one ks (i+1) (acc++Apc k.toNat (if one then 0 else (i:Int)))
theorem RO{one:Bool}{L:Nat} : ∀ {l:List Int} {i:Nat} {acc r:List Int},Fa one l i acc=some r→acc.length≤2048→(∀ k∈acc,0≤k∧k<(L:Int))→(one=true→1≤L)→(one=false→i+l.length≤L)→r.length≤2048∧∀ k∈r,0≤k∧k<(L:Int)
 | [],i,acc,r,h,h1,h2,_,_=>by simp[Fa]at h;subst h;exact ⟨h1,h2⟩
 | k::ks,i,acc,r,h,h1,h2,h3,h4=>by
  rw[Fa]at h
  split at h
  · cases h
  · rename_i hk
    refine RO h (by rw[Apn,Aqg];omega) (fun z hz=> ?_) h3 (fun ho=>by have:=h4 ho;simp only[Apg]at this;omega)
    rcases Aqh.1 hz with hz | hz
    · exact h2 z hz
    · have:=List.eq_of_mem_replicate hz
      subst this
      cases one with
      | true=>have:=h3 rfl;simp;omega
      | false=>have:=h4 rfl;simp only[Apg]at this;simp;omega
def lS(n:Arr)(L:Nat):List Int:=if n.shape = [] then Apc L ((A9 n).1.headD 0) else (A9 n).1
def Fr(n a:Arr)(first:Bool):Arr×Int :=
 if (A9 n).2≠0 then (.none,(A9 n).2)
 else if ∃ k∈(A9 n).1,k<0 then (.none,3)
 else if (aN a).getD (Av a first) 0≠1∧(lS n ((aN a).getD (Av a first) 0)).length≠(aN a).getD (Av a first) 0 then (.none,4)
 else match Fa ((aN a).getD (Av a first) 0 == 1) (lS n ((aN a).getD (Av a first) 0)) 0 []with
  | none=>(.none,7)
  | some fr=>Cz a (aN a) (Av a first) fr (Au n)
theorem ID(a:Arr):(A9 a).1.length≤a.cells.length:=by
 unfold A9
 split
 · simp
 · split
   · rename_i l hl;have:=(Sl hl).1;simp only;omega
   · simp
theorem AfI(a:Arr) : ∀ x∈(A9 a).1,Bd x:=by
 unfold A9
 split
 · intro x hx;cases hx
 · split
   · rename_i l hl;exact (Sl hl).2
   · intro x hx;cases hx
theorem AhB(l:List Int)(hl:l.length≤2048):Sp 167 [dI l,D.fn 188 [] []] [.bool (decide (∃ k∈l,k<0))]:=by
 have hn : ∀ k:Int,Sp 188 [.int k] [.bool (decide (k<0))]:=fun k=>Af 0 (AiN _ _) (Ac rfl)
 have hi:Sp 230 [dI l,D.fn 188 [] []] [.int (Ee (fun x=>decide (x<0)) 0 l)]:=by
  refine Af 4096 (AmB _ _) ?_
  have key:=Ca l (fun m k (_:Unit)=>I1 4096 m (dI l) (D.fn 188 [] []) (l.length:Int) (k:Int)) (fun rest _=>[.int (Ee (fun x=>decide (x<0)) (l.length-rest.length) rest)]) (fun _ _=>True)
   (fun m k t hk _=>by
     simp only[Ab4]
     exact At (Ac rfl))
   (fun m k t x rest hd _ ih=>by
     obtain ⟨h1,h2,h3⟩:=B6 hd
     have hle:=congrArg Aql hd
     rw[App,Apg]at hle
     have ih:=ih () trivial
     rw[show l.length-rest.length=k+1 by omega]at ih
     simp only[Ab4,Ch,Apd,Apj,Aw h2,Ao,Hu,Hs,Ht,Apx,Bh k]
     refine Ad (Ad (Ad (Aa (hn x) ?_)))
     rw[show l.length-(x::rest).length=k by rw[Apg];omega]
     simp only[Ah,Ba,Ee]
     refine B7 (fun g=>Ac (by rw[if_pos g])) (fun g=> ?_)
     rw[if_neg (by rw[g];decide)]
     exact ih)
   4096 0 () (by omega) (by omega) trivial
  simpa using key
 have hp : ∀ (m:List Int) (k:Nat),(0≤Ee (fun x=>decide (x<0)) k m)↔(∃ z∈m,z<0):=by
  intro m
  induction m with
  | nil=>intro k;simp[Ee]
  | cons z zs ih =>
   intro k
   simp only[Ee]
   by_cases g:z<0
   · rw[if_pos (decide_eq_true g)]
     exact ⟨fun _=>⟨z,by simp,g⟩,fun _=>by omega⟩
   · rw[if_neg (by rw[decide_eq_false g];decide),ih (k+1)]
     simp[g]
 refine Af 0 (Am2 _ _) (Aa hi (Ac ?_))
 exact congrArg (fun b=>[D.bool b]) (decide_eq_decide.2 (hp l 0))
theorem Aaq{d:Nat}(n a:Arr)(first:Bool)(hn:Fits n)(ha:Aj d a=true)(l:List Int)(hl:l.length≤2048)(hpos : ∀ k∈l,0≤k)(hbig : ∀ k∈l,k≤9223372036854775807)(hL:(aN a).getD (Av a first) 0≠1→l.length=(aN a).getD (Av a first) 0) :
  Tw (Iv 4096 4096 (dI (iN (aN a))) ((Av a first:Nat):Int) (((aN a).getD (Av a first) 0:Nat):Int) [] (dI l) (l.length:Int) 0 (dA n) (dA a) 0 0) (match Fa ((aN a).getD (Av a first) 0 == 1) l 0 []with
   | none=>[dA .none,.int 7]
   | some fr=>[dA (Cz a (aN a) (Av a first) fr (Au n)).1,.int (Cz a (aN a) (Av a first) fr (Au n)).2]):=by
 have hx:=O7 a first
 have key:=Ca l (fun m k (acc:List Int)=>Iv 4096 m (dI (iN (aN a))) ((Av a first:Nat):Int) (((aN a).getD (Av a first) 0:Nat):Int) (acc.map D.int) (dI l) (l.length:Int) (k:Int) (dA n) (dA a) 0 0) (fun rest acc=>match Fa ((aN a).getD (Av a first) 0 == 1) rest (l.length-rest.length) acc with
   | none=>[dA .none,.int 7]
   | some fr=>[dA (Cz a (aN a) (Av a first) fr (Au n)).1,.int (Cz a (aN a) (Av a first) fr (Au n)).2]) (fun rest acc=>acc.length≤2048∧∀ k∈acc,0≤k∧k<(((aN a).getD (Av a first) 0:Nat):Int))
  (fun m k acc hk hI=>by
   simp only[XA]
   refine At (Aa (XK n a (aN a) (Av a first) acc hn (Rg ha) hx (fun z hz=> .inr (hI.2 z hz)) hI.1) (Ac ?_))
   rfl)
  (fun m k acc z rest hd hI ih=>by
   obtain ⟨h1,h2,h3⟩:=B6 hd
   have hle:=congrArg Aql hd
   rw[App,Apg]at hle
   have hz:=hpos z (Aph h2)
   have hzb:=hbig z (Aph h2)
   have ek:l.length-(z::rest).length=k:=by rw[Apg];omega
   have ek2:l.length-rest.length=k+1:=by omega
   have w1:Aom .i64 (2048-(acc.length:Int))=2048-(acc.length:Int):=Ax (by omega) (by omega)
   simp only[XA,Ch,Apd,Apj,Aw h2,Ao,w1,ek,Fa,C8,Cn]
   refine Ad (Ad (Ad (Ae (fun g=>Ac (by rw[if_pos (by first | (rw[w1]at g;exact g) | exact g)])) (fun g=> ?_))))
   have g : ¬ (2048-(acc.length:Int)<z):=by first | (rw[w1]at g;exact g) | exact g
   simp only[if_neg g]
   obtain ⟨Z,rfl⟩ : ∃ Z:Nat,z=(Z:Int):=⟨z.toNat,by omega⟩
   have inner : ∀ (c:Int),0≤c∧c<(((aN a).getD (Av a first) 0:Nat):Int)→Fa ((aN a).getD (Av a first) 0 == 1) rest (k+1) (acc++Apc Z (if ((aN a).getD (Av a first) 0 == 1)=true then 0 else (k:Int)))=Fa ((aN a).getD (Av a first) 0 == 1) rest (k+1) (acc++Apc Z c)→Tw (Qi 4096 m 4096 (dI (iN (aN a))) ((Av a first:Nat):Int) (((aN a).getD (Av a first) 0:Nat):Int) (acc.map D.int) c (dI l) (l.length:Int) (k:Int) (Z:Int) 0 (dA n) (dA a) 0 0) (match Fa ((aN a).getD (Av a first) 0 == 1) rest (k+1) (acc++Apc (Z:Int).toNat (if ((aN a).getD (Av a first) 0 == 1)=true then 0 else (k:Int))) with
      | none=>[dA .none,.int 7]
      | some fr=>[dA (Cz a (aN a) (Av a first) fr (Au n)).1,.int (Cz a (aN a) (Av a first) fr (Au n)).2]):=by
     intro c hc heq
     rw[Apj,heq]
     have ih:=ih (acc++Apc Z c) ⟨by rw[Apn,Aqg];omega,fun y hy=>by
      rcases Aqh.1 hy with hy | hy
      · exact hI.2 y hy
      · rw[List.eq_of_mem_replicate hy];exact hc⟩
     rw[ek2]at ih
     have key3:=Dl Z (fun q j (_:Unit)=>Qi 4096 m q (dI (iN (aN a))) ((Av a first:Nat):Int) (((aN a).getD (Av a first) 0:Nat):Int) ((acc++Apc j c).map D.int) c (dI l) (l.length:Int) (k:Int) (Z:Int) (j:Int) (dA n) (dA a) 0 0) (fun _ _=>(match Fa ((aN a).getD (Av a first) 0 == 1) rest (k+1) (acc++Apc Z c) with
      | none=>[dA .none,.int 7]
      | some fr=>[dA (Cz a (aN a) (Av a first) fr (Au n)).1,.int (Cz a (aN a) (Av a first) fr (Au n)).2])) (fun _ _=>True)
      (fun q t _=>by
       simp only[XB,Bh k]
       exact At ih)
      (fun q j t hj _ ih3=>by
       have ih3:=ih3 () trivial
       rw[List.replicate_succ',← Apz,List.map_append]at ih3
       simp only[XB,Apd,Apn,Aqg,Apg,Apv,Bh j]
       exact Ad (A0 (by simp only[Am];omega) ih3))
      4096 0 () (by omega) (by omega) trivial
     simpa using key3
   refine Ae (fun g1=> ?_) (fun g1=> ?_)
   · have e1:(aN a).getD (Av a first) 0=1:=by omega
     exact inner 0 ⟨by omega,by omega⟩ (by rw[e1];rfl)
   · have e1:((aN a).getD (Av a first) 0 == 1)=false:=beq_eq_false_iff_ne.2 (by omega)
     have:=hL (by omega)
     exact inner (k:Int) ⟨by omega,by omega⟩ (by rw[e1];rfl))
  4096 0 [] (by omega) (by omega) ⟨by simp,by simp⟩
 simpa using key
theorem XC(n a:Arr)(first:Bool)(hn:Aj 8 n=true)(ha:Aj 8 a=true):Sp 110 [dA n,dA a,.bool first] [dA (Fr n a first).1,.int (Fr n a first).2]:=by
 have ln:=(Dj hn).1
 have hx:=O7 a first
 have hLe:=NM ha hx
 have hin:=AfI n
 have hil:=ID n
 refine Af 4096 (AiO _ _ _ _) (Aa (K9 n ln (Qv hn)) ?_)
 unfold Fr lS
 have hone:n.shape = []→(A9 n).2=0→∃ k,(A9 n).1 = [k]:=fun hs h0=>by
  have hc:=(Ce hn).1
  rw[hs,show A7 ([]:List Int)=(1,0) by decide]at hc
  have hc1:=congrArg Prod.fst hc
  have:n.cells.length=1:=by simp only at hc1;omega
  unfold A9 at h0 ⊢
  rw[if_neg (by rw[hs];simp)]at h0 ⊢
  split at h0
  · rename_i l hl
    have:=(Sl hl).1
    exact Is (by simp only;omega)
  · cases h0
 generalize hp:A9 n=p at *
 obtain ⟨l,e⟩:=p
 simp only[Ah,C1,Ao,Dg,C8]at hin hil hone ⊢
 refine Ae (fun h=>Ac (by rw[if_pos h])) (fun h=> ?_)
 rw[if_neg h]
 have h0:e=0:=Apm.1 h
 subst h0
 refine Aa (AhB l (by omega)) ?_
 simp only[Ah,Ba]
 refine Ae (fun h=>Ac (by rw[if_pos h])) (fun h=> ?_)
 rw[if_neg h]
 have hpos : ∀ k∈l,0≤k:=fun k hk=>by
  rcases Int.lt_or_le k 0 with g | g
  · exact absurd ⟨k,hk,g⟩ h
  · exact g
 refine Aa (XF a first ha) ?_
 have sh:(((n.shape.length:Nat):Int)=0)↔n.shape = []:=⟨fun g=>Ap2.1 (by omega),fun g=>by rw[g];rfl⟩
 simp only[Ah,C1,Ao,Ch,Apd,Apj,OO hx,Ny,V4,Cn,E0,sh]
 refine Ad (Ad ?_)
 have fin:(n.shape = []∨(aN a).getD (Av a first) 0=1∨l.length=(aN a).getD (Av a first) 0)→Tw (.br (decide (2048<(((aN a).getD (Av a first) 0:Nat):Int))) (.ret [dA .none,.int 7]) (.br (decide (n.shape = [])) (.call 177 [] [dI l,.int (((aN a).getD (Av a first) 0:Nat):Int)] fun Y4=>Iv 4096 4096 (dI (iN (aN a))) ((Av a first:Nat):Int) (((aN a).getD (Av a first) 0:Nat):Int) [] (qA Y4) (((qA Y4).els).length:Int) 0 (dA n) (dA a) 0 0) (Iv 4096 4096 (dI (iN (aN a))) ((Av a first:Nat):Int) (((aN a).getD (Av a first) 0:Nat):Int) [] (dI l) (l.length:Int) 0 (dA n) (dA a) 0 0))) [dA (if (aN a).getD (Av a first) 0≠1∧(if n.shape = [] then Apc ((aN a).getD (Av a first) 0) (l.headD 0) else l).length≠(aN a).getD (Av a first) 0 then (Arr.none,(4:Int)) else match Fa ((aN a).getD (Av a first) 0 == 1) (if n.shape = [] then Apc ((aN a).getD (Av a first) 0) (l.headD 0) else l) 0 []with
    | none=>(.none,7)
    | some fr=>Cz a (aN a) (Av a first) fr (Au n)).1,.int (if (aN a).getD (Av a first) 0≠1∧(if n.shape = [] then Apc ((aN a).getD (Av a first) 0) (l.headD 0) else l).length≠(aN a).getD (Av a first) 0 then (Arr.none,(4:Int)) else match Fa ((aN a).getD (Av a first) 0 == 1) (if n.shape = [] then Apc ((aN a).getD (Av a first) 0) (l.headD 0) else l) 0 []with
    | none=>(.none,7)
    | some fr=>Cz a (aN a) (Av a first) fr (Au n)).2]:=by
  intro hc
  refine At (Ae (fun hs=> ?_) (fun hs=> ?_))
  · obtain ⟨k,rfl⟩:=hone hs rfl
    have hk:=hpos k (by simp)
    simp only[if_pos hs,List.headD_cons]
    refine Aa (Aan _ k (by omega) (hin k (by simp))) ?_
    simp only[Ah,Ch,Apd]
    rw[if_neg (by simp)]
    have:=Aaq n a first (Cf hn).fits ha (Apc ((aN a).getD (Av a first) 0) k) (by rw[Aqg];omega) (fun z hz=>by rw[List.eq_of_mem_replicate hz];exact hk) (fun z hz=>by rw[List.eq_of_mem_replicate hz];exact (hin k (by simp)).2) (fun _=>by rw[Aqg])
    refine Tree.wp_mono this (fun ys hy=>hy.trans ?_)
    cases Fa ((aN a).getD (Av a first) 0 == 1) (Apc ((aN a).getD (Av a first) 0) k) 0 [] <;> rfl
  · simp only[if_neg hs]
    rw[if_neg (by intro hh;rcases hc with g | g | g;exact hs g;exact hh.1 g;exact hh.2 g)]
    have:=Aaq n a first (Cf hn).fits ha l (by omega) hpos (fun z hz=>(hin z hz).2) (fun hne=>by rcases hc with g | g | g;exact absurd g hs;exact absurd g hne;exact g)
    refine Tree.wp_mono this (fun ys hy=>hy.trans ?_)
    cases Fa ((aN a).getD (Av a first) 0 == 1) l 0 [] <;> rfl
 refine Ae (fun hs=>Ae (fun h1=>Ae (fun h2=>Ac ?_) (fun h2=>fin (.inr (.inr (by omega))))) (fun h1=>fin (.inr (.inl (by omega))))) (fun hs=>fin (.inl (Apm.1 hs)))
 simp only[if_neg hs]
 rw[if_pos ⟨by omega,by omega⟩]
def Ep:List Int→Nat→List Int
 | [],_=>[]
 | k::ks,o=>if k=1 then (o:Int)::Ep ks (o+1) else -1::Ep ks o
def Fk:List Int→Nat
 | []=>0
 | k::ks=>if k=1 then Fk ks+1 else Fk ks
def Fp(z:Int):Int:=if 0<z then 0 else z
def Je(L:Nat)(l:List Int):List Int:=if L=1 then (Ep l 0).map Fp else Ep l 0
def F7(l:List Int):Prop:=∀ k∈l,k=0∨k=1
theorem Sa : ∀ (l:List Int) (o:Nat),(Ep l o).length=l.length
 | [],_=>rfl
 | k::ks,o=>by
  rw[Ep]
  split
  · rw[Apg,Sa ks,Apg]
  · rw[Apg,Sa ks,Apg]
theorem W0 : ∀ (l:List Int) (o:Nat),∀ z∈Ep l o,z = -1∨((o:Int)≤z∧z<((o+Fk l:Nat):Int))
 | [],_,z,h=>by simp[Ep]at h
 | k::ks,o,z,h=>by
  rw[Ep]at h
  rw[Fk]
  split at h
  · rename_i hk
    rw[if_pos hk]
    rcases Apt.1 h with rfl | h
    · right;omega
    · rcases W0 ks (o+1) z h with h | h
      · exact .inl h
      · right;omega
  · rename_i hk
    rw[if_neg hk]
    rcases Apt.1 h with rfl | h
    · exact .inl rfl
    · exact W0 ks o z h
theorem GY{L:Nat}{l:List Int}(h:L≠1→Fk l=L):U2 L (Je L l):=by
 intro z hz
 unfold Je at hz
 split at hz
 · rename_i h1
   obtain ⟨y,hy,rfl⟩:=List.mem_map.1 hz
   unfold Fp
   rcases W0 l 0 y hy with h | h
   · subst h;left;decide
   · right;split <;> omega
 · rename_i h1
   have:=h h1
   rcases W0 l 0 z hz with h | h
   · left;omega
   · right;omega
instance (l:List Int):Decidable (F7 l):=by unfold F7;infer_instance
noncomputable def Fo(n a:Arr)(first:Bool):Arr×Int :=
 if (A9 n).2≠0 then (.none,(A9 n).2)
 else if ¬ F7 (A9 n).1 then (.none,3)
 else if (aN a).getD (Av a first) 0≠1∧Fk (A9 n).1≠(aN a).getD (Av a first) 0 then (.none,4)
 else Cz a (aN a) (Av a first) (Je ((aN a).getD (Av a first) 0) (A9 n).1) (Au n)
theorem OV(l:List Int)(hl:l.length≤2048):Sp 153 [dI l] [.bool (decide (F7 l))]:=by
 refine Af 4096 (AiS _ _) ?_
 simp only[Ch,Apd]
 have key:=Ca l (fun m k (_:Unit)=>Qj 4096 m (dI l) (l.length:Int) (k:Int)) (fun rest _=>[.bool (decide (F7 rest))]) (fun _ _=>True)
  (fun m k t hk _=>by
   simp only[XG]
   exact At (Ac (by simp[F7])))
  (fun m k t z rest hd _ ih=>by
   obtain ⟨h1,h2,h3⟩:=B6 hd
   have ih:=ih () trivial
   have go:z=0∨z=1→Tw (Qj 4096 m (dI l) (l.length:Int) ((k+1:Nat):Int)) [.bool (decide (F7 (z::rest)))]:=fun hz=>by
    rw[show decide (F7 (z::rest))=decide (F7 rest) from decide_eq_decide.2 ⟨fun h y hy=>h y (by simp[hy]),fun h y hy=>by
     rcases Apt.1 hy with rfl | hy
     · exact hz
     · exact h y hy⟩]
    exact ih
   simp only[XG,Ch,Apd,Apj,Aw h2,Ao,Dg,Bh k]
   refine Ad (Ad (Ad (Ae (fun g=>Ae (fun g2=>Ac ?_) (fun g2=>go (by omega))) (fun g=>go (by omega)))))
   rw[decide_eq_false (fun h=>by have:=h z (by simp);omega)])
  4096 0 () (by omega) (by omega) trivial
 simpa using key
theorem QR{d:Nat}(n a:Arr)(first:Bool)(hn:Fits n)(ha:Aj d a=true)(fr:List Int)(hf:U2 ((aN a).getD (Av a first) 0) fr)(hl:fr.length≤2048):Tw (.call 190 [] [dA n,dA a,dI (iN (aN a)),.int ((Av a first:Nat):Int),D.sl (fr.map D.int)] fun yy=> .ret [qA yy,.int ((qB yy).toInt)]) [dA (Cz a (aN a) (Av a first) fr (Au n)).1,.int (Cz a (aN a) (Av a first) fr (Au n)).2] :=
 Aa (XK n a (aN a) (Av a first) fr hn (Rg ha) (O7 a first) hf hl) (Ac rfl)
theorem WZ(n a:Arr)(first:Bool)(hn:Aj 8 n=true)(ha:Aj 8 a=true):Sp 111 [dA n,dA a,.bool first] [dA (Fo n a first).1,.int (Fo n a first).2]:=by
 have ln:=(Dj hn).1
 have hx:=O7 a first
 have hLe:=NM ha hx
 have hil:=ID n
 refine Af 4096 (AiM _ _ _ _) (Aa (K9 n ln (Qv hn)) ?_)
 unfold Fo
 generalize hp:A9 n=p at *
 obtain ⟨l,e⟩:=p
 simp only[Ah,C1,Ao,Dg,C8]at hil ⊢
 refine Ae (fun h=>Ac (by rw[if_pos h])) (fun h=> ?_)
 rw[if_neg h]
 have h0:e=0:=Apm.1 h
 subst h0
 refine Aa (OV l (by omega)) ?_
 simp only[Ah,Ba]
 refine B7 (fun g=>Ac ?_) (fun g=> ?_)
 · have : ¬ F7 l:=fun hb=>by rw[decide_eq_true hb]at g;cases g
   rw[if_pos this]
 have hb:F7 l:=by
   by_cases hb:F7 l
   · exact hb
   · rw[decide_eq_false hb]at g;cases g
 rw[if_neg (fun hh=>hh hb)]
 refine Aa (XF a first ha) ?_
 simp only[Ah,C1,Ao,Ch,Apd,Apj]
 refine Ad (Ad (A0 (by simp only[Am];omega) ?_))
 have fits:=(Cf hn).fits
 have fin : ∀ (o:Nat),o=Fk l→Tw (.br (decide (0≤((Av a first:Nat):Int))) (.br (decide (((Av a first:Nat):Int)<((iN (aN a)).length:Int))) (.br (decide ((((iN (aN a)).map D.int).getD (Av a first) D.nil).toInt=1)) (S_ 4096 4096 (dI (iN (aN a))) ((Av a first:Nat):Int) ((Ep l 0).map D.int) (((Ep l 0).map D.int).length:Int) 0 (dA n) (dA a) 0 0) (.br (decide (0≤((Av a first:Nat):Int))) (.br (decide (((Av a first:Nat):Int)<((iN (aN a)).length:Int))) (.br (decide ((o:Int)≠(((iN (aN a)).map D.int).getD (Av a first) D.nil).toInt)) (.ret [dA .none,.int 4]) (.call 190 [] [dA n,dA a,dI (iN (aN a)),.int ((Av a first:Nat):Int),D.sl ((Ep l 0).map D.int)] fun yy=> .ret [qA yy,.int ((qB yy).toInt)])) .fail) .fail)) .fail) .fail) [dA (if (aN a).getD (Av a first) 0≠1∧Fk l≠(aN a).getD (Av a first) 0 then (Arr.none,(4:Int)) else Cz a (aN a) (Av a first) (Je ((aN a).getD (Av a first) 0) l) (Au n)).1,.int (if (aN a).getD (Av a first) 0≠1∧Fk l≠(aN a).getD (Av a first) 0 then (Arr.none,(4:Int)) else Cz a (aN a) (Av a first) (Je ((aN a).getD (Av a first) 0) l) (Au n)).2]:=by
   rintro o rfl
   simp only[OO hx,Ny,Ao]
   refine Ad (Ad (Ae (fun g1=> ?_) (fun g1=> ?_)))
   · have e1:(aN a).getD (Av a first) 0=1:=by omega
     rw[if_neg (fun hh=>hh.1 e1)]
     have hfr:Je ((aN a).getD (Av a first) 0) l=(Ep l 0).map Fp:=by unfold Je;rw[if_pos e1]
     have er:=QR n a first fits ha ((Ep l 0).map Fp) (by rw[← hfr];exact GY (fun hh=>absurd e1 hh)) (by rw[Apd,Sa];omega)
     rw[hfr]
     have fl:=Sa l 0
     generalize Ep l 0=fr at *
     have key:=Dl fr.length (fun m i (_:Unit)=>S_ 4096 m (dI (iN (aN a))) ((Av a first:Nat):Int) (((fr.take i).map Fp++fr.drop i).map D.int) (fr.length:Int) (i:Int) (dA n) (dA a) 0 0) (fun _ _=>[dA (Cz a (aN a) (Av a first) (fr.map Fp) (Au n)).1,.int (Cz a (aN a) (Av a first) (fr.map Fp) (Au n)).2]) (fun _ _=>True)
       (fun m t _=>by
        simp only[WX]
        rw[Ap_ (Apo _),List.drop_of_length_le (Apo _),Apx]
        exact At er)
       (fun m i t hi _ ih=>by
        have ih:=ih () trivial
        have e4:fr.drop i=fr[i]::fr.drop (i+1):=Ap1 hi
        have e5:fr.take (i+1)=fr.take i++[fr[i]]:=by rw[List.take_add_one,Apb hi];rfl
        rw[e5,show (fr.take i++[fr[i]]).map Fp++fr.drop (i+1)=(fr.take i).map Fp++(Fp fr[i]::fr.drop (i+1)) by rw[List.map_append,Apz];rfl]at ih
        rw[e4]
        generalize fr[i]=z at *
        have t1:((fr.take i).map Fp).length=i:=by rw[Apd,Apr];omega
        have t2:(fr.drop (i+1)).length=fr.length-(i+1):=by rw[App]
        have hg:(((fr.take i).map Fp++z::fr.drop (i+1)).map D.int).getD i D.nil=D.int z:=by
         rw[Ape,Aps,Aqe (by omega),t1,Nat.sub_self];rfl
        have hst:(((fr.take i).map Fp++z::fr.drop (i+1)).map D.int).set i (D.int (Fp z))=((fr.take i).map Fp++(Fp z::fr.drop (i+1))).map D.int:=by
         rw[← List.map_set,List.set_append_right _ _ (by omega),t1,Nat.sub_self];rfl
        have ll:((fr.take i).map Fp++z::fr.drop (i+1)).length=fr.length:=by rw[Apn,t1,Apg,t2];omega
        simp only[WX,Apd,ll,Apj,hg,Ao,Bh i]
        refine Ad (Ad (Ad (Ad (Ad ?_))))
        rw[show D.int (if 0<z then 0 else z)=D.int (Fp z) from rfl,hst]
        exact ih)
       4096 0 () (by omega) (by omega) trivial
     simpa using key
   · have e1:(aN a).getD (Av a first) 0≠1:=by omega
     refine Ad (Ad (Ae (fun g2=>Ac ?_) (fun g2=> ?_)))
     · rw[if_pos ⟨e1,by omega⟩]
     · have e2:Fk l=(aN a).getD (Av a first) 0:=by omega
       rw[if_neg (fun hh=>hh.2 e2)]
       have hfr:Je ((aN a).getD (Av a first) 0) l=Ep l 0:=by unfold Je;rw[if_neg e1]
       rw[hfr]
       exact QR n a first fits ha (Ep l 0) (by rw[← hfr];exact GY (fun _=>e2)) (by rw[Sa];omega)
 have key:=Ca l (fun m k (s:List Int×Nat)=>S9 4096 m (dI (iN (aN a))) ((Av a first:Nat):Int) (s.1.map D.int++Apc (l.length-s.1.length) (D.int 0)) (s.2:Int) (dI l) (l.length:Int) (k:Int) (dA n) (dA a) 0 0) (fun _ _=>[dA (if (aN a).getD (Av a first) 0≠1∧Fk l≠(aN a).getD (Av a first) 0 then (Arr.none,(4:Int)) else Cz a (aN a) (Av a first) (Je ((aN a).getD (Av a first) 0) l) (Au n)).1,.int (if (aN a).getD (Av a first) 0≠1∧Fk l≠(aN a).getD (Av a first) 0 then (Arr.none,(4:Int)) else Cz a (aN a) (Av a first) (Je ((aN a).getD (Av a first) 0) l) (Au n)).2]) (fun rest s=>s.1.length+rest.length=l.length∧Ep l 0=s.1++Ep rest s.2∧Fk l=s.2+Fk rest)
   (fun m k s hk hI=>by
     obtain ⟨i1,i2,i3⟩:=hI
     simp only[Ep,Apx,Apv,Fk,Nat.add_zero]at i1 i2 i3
     simp only[WW,i1,Nat.sub_self,List.replicate_zero,Apx,Ch,Apd,Apj,Cn,Dg,C8]
     have f:=fin s.2 i3.symm
     rw[i2]at f
     simp only[Apd,i1]at f
     exact At f)
   (fun m k s z rest hd hI ih=>by
     obtain ⟨h1,h2,h3⟩:=B6 hd
     obtain ⟨i1,i2,i3⟩:=hI
     have hle:=congrArg Aql hd
     rw[App,Apg]at hle
     rw[Apg]at i1
     have hk:k=s.1.length:=by omega
     simp only[Ep]at i2
     simp only[Fk]at i3
     have so:s.2≤2048:=by
       have : ∀ q:List Int,Fk q≤q.length:=fun q=>by
        induction q with
        | nil=>exact Apo _
        | cons y ys ihq=>simp only[Fk,Apg];split <;> omega
       have:=this l
       split at i3 <;> omega
     have en:=fun v:Int=>M6 (f:=D.int) (z:=D.int 0) s.1 v (l.length-(s.1.length+1))
     rw[show l.length-(s.1.length+1)+1=l.length-s.1.length by omega]at en
     have ll:(s.1.map D.int++Apc (l.length-s.1.length) (D.int 0)).length=l.length:=by rw[Apn,Apd,Aqg];omega
     have w1:Aom .i64 ((s.2:Int)+1)=((s.2+1:Nat):Int):=by rw[Ax (by omega) (by omega)];rfl
     simp only[WW,Ch,Apd,Apj,Aw h2,Ao,Cn,ll,List.length_set,List.set_set,w1,Bh k]
     refine Ad (Ad (Ad (Ad (Ad (Ae (fun g=>Ad (Ad ?_)) (fun g=> ?_))))))
     · rw[if_pos g]at i2 i3
       have ih:=ih (s.1++[(s.2:Int)],s.2+1) ⟨by rw[Apn,Apg,Apv];omega,by rw[i2];simp,by omega⟩
       rw[hk,en]
       simp only[Apn,Apg,Apv,hk]at ih
       exact ih
     · rw[if_neg g]at i2 i3
       have ih:=ih (s.1++[-1],s.2) ⟨by rw[Apn,Apg,Apv];omega,by rw[i2];simp,i3⟩
       rw[hk,en]
       simp only[Apn,Apg,Apv,hk]at ih
       exact ih)
   4096 0 ([],0) (by omega) (by omega) ⟨by simp,by simp,by simp⟩
 simpa using key
theorem AfJ(a:Arr):(A9 a).1.length≤a.cells.length:=by
 unfold A9
 split
 · simp
 · split
   · rename_i l hl;have:=(Sl hl).1;simp only;omega
   · simp
theorem Al1{d:Nat}{c:Cell}(l:Al)(h:Bi d c=true):Bi d ⟨l,c.kind,c.n,c.c,c.inn⟩=true:=by cases d <;> exact h
theorem Alz{d:Nat}(a:Arr):Bi d (Cl a)=true:=by
 unfold Cl
 split
 · exact Jp d Iq
 · split
   · have : ∀ k r (l:Al),C7 k r (⟨l,1,.zero,32,[]⟩:Cell)=true:=fun k r l=>rfl
     cases d <;> exact this _ _ _
   · exact Al1 _ (Jp d Iq)
theorem AaM{d:Nat}{a:Arr}{s:List Nat}{x:Nat}{fr:List Int}{more:Al}(ha:Aj d a=true)(hb:Boxed a s)(hx:x<s.length)(hf:U2 (s.getD x 0) fr)(h0:(Cz a s x fr more).2=0):Aj d (Cz a s x fr more).1=true:=by
 unfold Cz at h0 ⊢
 split at h0
 · rename_i h;exact absurd h0 h
 · rename_i h
   rw[if_neg h]
   have hok:=Apm.1 h
   have hcl:=Fw (iN (s.set x fr.length))
   refine H4 ?_ (fun c hc=> ?_)
   · simp only[Arr.shape_mk,Arr.cells_mk,Apd,List.length_range]
     exact Prod.ext (by simp only;unfold Eb;omega) hok
   · simp only[Arr.cells_mk,List.mem_map,List.mem_range]at hc
     obtain ⟨j,hj,rfl⟩:=hc
     obtain ⟨hpos,hcp,_⟩:=AiV hok (by omega)
     obtain ⟨sp1,sp2⟩:=AbL hx
     have st:=Abl (F:=fr.length) hx
     have hj2:j<A8 (s.take x++fr.length::s.drop (x+1)):=by rw[← st,← hcp];exact hj
     have hFp:0<fr.length:=by
       have:=hpos fr.length (by rw[st];simp)
       omega
     have hmlt:=Ap4 (j / A8 (s.drop (x+1))) hFp
     have hk:=hf _ (RY hmlt)
     unfold Ms
     split
     · exact Alz a
     · rename_i g
       have hKL:(fr.getD (j / A8 (s.drop (x+1)) % fr.length) 0).toNat<s.getD x 0:=by omega
       obtain ⟨_,_,q3⟩:=AiU hj2 hKL
       rw[← sp1]at q3
       have hsp : ∀ y∈s,1≤y:=fun y hy=>by
        rw[sp1]at hy
        rcases Aqh.1 hy with hy | hy
        · exact hpos y (by rw[st];simp[hy])
        · rcases Apt.1 hy with rfl | hy
          · omega
          · exact hpos y (by rw[st];simp[hy])
       have hsc:=PI hb.ok hsp
       rw[← hsc,← hb.len]at q3
       rw[Ape,Apb q3]
       exact (Ce ha).2 _ (Aqc q3)
theorem AaJ{a:Arr}{s:List Nat}{x:Nat}{fr:List Int}{more:Al}(h:(Cz a s x fr more).2≠0):(Cz a s x fr more).1 = .none:=by
 unfold Cz at h ⊢
 split
 · rfl
 · rename_i g;rw[if_neg g]at h;exact absurd rfl h
theorem Aap{d:Nat}{n a:Arr}{first:Bool}(ha:Aj d a=true):((Fr n a first).2=0→Aj d (Fr n a first).1=true)∧((Fr n a first).2≠0→(Fr n a first).1 = .none):=by
 have hx:=O7 a first
 unfold Fr
 split
 · rename_i h;exact ⟨fun h0=>absurd h0 h,fun _=>rfl⟩
 split
 · exact ⟨fun h0=>(by cases h0),fun _=>rfl⟩
 split
 · exact ⟨fun h0=>(by cases h0),fun _=>rfl⟩
 rename_i h1 h2 h3
 cases hfr:Fa ((aN a).getD (Av a first) 0 == 1) (lS n ((aN a).getD (Av a first) 0)) 0 []with
 | none=>exact ⟨fun h0=>(by cases h0),fun _=>rfl⟩
 | some fr =>
  have hg:=RO (L:=(aN a).getD (Av a first) 0) hfr (by simp) (by simp) (fun ho=>by have:=beq_iff_eq.1 ho;omega) (fun ho=>by
   have hne:=beq_eq_false_iff_ne.1 ho
   have:(lS n ((aN a).getD (Av a first) 0)).length=(aN a).getD (Av a first) 0:=Apm.1 (fun hh=>h3 ⟨hne,hh⟩)
   omega)
  exact ⟨fun h0=>AaM ha (Rg ha) hx (fun k hk=> .inr (hg.2 k hk)) h0,fun h0=>AaJ h0⟩
theorem QQ{d:Nat}{n a:Arr}{first:Bool}(ha:Aj d a=true):((Fo n a first).2=0→Aj d (Fo n a first).1=true)∧((Fo n a first).2≠0→(Fo n a first).1 = .none):=by
 have hx:=O7 a first
 unfold Fo
 split
 · rename_i h;exact ⟨fun h0=>absurd h0 h,fun _=>rfl⟩
 split
 · exact ⟨fun h0=>(by cases h0),fun _=>rfl⟩
 split
 · exact ⟨fun h0=>(by cases h0),fun _=>rfl⟩
 rename_i h1 h2 h3
 exact ⟨fun h0=>AaM ha (Rg ha) hx (GY (fun hne=>Apm.1 (fun hh=>h3 ⟨hne,hh⟩))) h0,fun h0=>AaJ h0⟩
def He:List Int→Nat→List Nat
 | [],_=>[]
 | k::ks,i=>if k=1 then i::He ks (i+1) else He ks (i+1)
theorem Zj : ∀ (l:List Int) (i:Nat),(He l i).length≤l.length∧∀ p∈He l i,i≤p∧p<i+l.length
 | [],_=>by simp[He]
 | k::ks,i=>by
  obtain ⟨h1,h2⟩:=Zj ks (i+1)
  rw[He,Apg]
  split
  · refine ⟨by rw[Apg];omega,fun p hp=> ?_⟩
    rcases Apt.1 hp with rfl | hp
    · omega
    · have:=h2 p hp;omega
  · exact ⟨by omega,fun p hp=>by have:=h2 p hp;omega⟩
def Q9(l:List Nat):List Int:=l.map (fun (i:Nat)=>(i:Int)+1)
noncomputable def Hj(n:Arr):Arr×Int:=if (A9 n).2≠0 then (.none,(A9 n).2) else if n.shape = [] then (.none,5) else if ¬ F7 (A9 n).1 then (.none,3) else (Db (Q9 (He (A9 n).1 0)) (Au n),0)
theorem Aoh{l:List Int}(hl:l.length≤2048) : ∀ k∈Q9 (He l 0),1≤k∧k≤(l.length:Int):=fun k hk=>by
 obtain ⟨i,hi,rfl⟩:=List.mem_map.1 hk
 have:=(Zj l 0).2 i hi
 omega
theorem Aog{l:List Int}(hl:l.length≤2048) : ∀ k∈Q9 (He l 0),Bd k:=fun k hk=>by have:=Aoh hl k hk;exact Dk (by omega) (by omega)
theorem AiP(n:Arr)(hn:Aj 8 n=true):Sp 68 [dA n] [dA (Hj n).1,.int (Hj n).2]:=by
 have ln:=(Dj hn).1
 have hil:=ID n
 have sh:(((n.shape.length:Nat):Int)=0)↔n.shape = []:=⟨fun g=>Ap2.1 (by omega),fun g=>by rw[g];rfl⟩
 refine Af 4096 (AiQ _ _) (Aa (K9 n ln (Qv hn)) ?_)
 unfold Hj
 generalize (A9 n)=p at *
 obtain ⟨l,e⟩:=p
 simp only[Ah,C1,Ao,Dg,Cn,C8,V4,Ch,Apd,sh]at hil ⊢
 refine Ae (fun h=>Ac (by rw[if_pos h])) (fun h=> ?_)
 rw[if_neg h]
 refine Ae (fun h=>Ac (by rw[if_pos h])) (fun h=> ?_)
 rw[if_neg h]
 refine Aa (OV l (by omega)) ?_
 simp only[Ah,Ba]
 refine B7 (fun g=>Ac ?_) (fun g=> ?_)
 · have : ¬ F7 l:=fun hb=>by rw[decide_eq_true hb]at g;cases g
   rw[if_pos this]
 have hb:F7 l:=by
   by_cases hb:F7 l
   · exact hb
   · rw[decide_eq_false hb]at g;cases g
 rw[if_neg (fun hh=>hh hb)]
 have hpl:=Zj l 0
 have key:=Ca l (fun m k (acc:List Nat)=>Ta 4096 m ((acc.map (fun (i:Nat)=>Bf ((i:Int)+1))).map dC) (dI l) (l.length:Int) (k:Int) (dA n) 0) (fun _ _=>[dA (Db (Q9 (He l 0)) (Au n)),.int 0]) (fun rest acc=>He l 0=acc++He rest (l.length-rest.length))
   (fun m k acc hk hI=>by
    simp only[He,Apx]at hI
    simp only[XD]
    have hsm : ∀ c∈acc.map (fun (i:Nat)=>Bf ((i:Int)+1)),SmlC 0 c:=fun c hc=>by
      obtain ⟨i,hi,rfl⟩:=List.mem_map.1 hc
      have:=hpl.2 i (by rw[hI];exact hi)
      exact Ku (Dk (by omega) (by omega)) 0
    refine At (Aa (O4 _ hsm (by rw[Apd,← hI];omega)) (Aa (Fi n (Cf hn).fits) ?_))
    simp only[Ah,En,Me]
    refine Aa (Gz _ (Au n)) (Ac ?_)
    rw[hI]
    simp[C2,K2,Db,Q9]
    rfl)
   (fun m k acc z rest hd hI ih=>by
    obtain ⟨h1,h2,h3⟩:=B6 hd
    have hle:=congrArg Aql hd
    rw[App,Apg]at hle
    rw[show l.length-(z::rest).length=k by rw[Apg];omega,He]at hI
    rw[show l.length-rest.length=k+1 by omega]at ih
    simp only[XD,Ch,Apd,Apj,Aw h2,Ao,Cn,Bh k]
    refine Ad (Ad (Ad (Ae (fun g=> ?_) (fun g=> ?_))))
    · rw[if_pos g]at hI
      have hal:acc.length≤2048:=by have:=congrArg Aql hI;rw[Apn]at this;omega
      have:=ih (acc++[k]) (by rw[hI];simp)
      rw[List.map_append,List.map_append]at this
      refine Aa (I7 _ (Dk (by omega) (by omega))) (A0 (by simp only[Apg,Apv,Am];omega) ?_)
      exact this
    · rw[if_neg g]at hI
      exact ih acc hI)
   4096 0 [] (by omega) (by omega) (by simp)
 exact key
theorem Zk(x n:Int):Bu (Mt x n).1≤100:=by
 unfold Mt
 split
 · show Bu 0≤100;unfold Bu;rw[show Int.natAbs 0=0 from rfl,C9];simp
 · exact XU _ _ _ _ (Bb.2 (by show 1<B ^ 100;exact Nat.one_lt_pow (by decide) (by decide)))
section
variable {a b:Num} {z y:Int} {d e:Nat}
theorem YL(p q:Int×Int)(hp:Bu p.1≤100)(hq:Bu q.1≤100){xs xt:List D}(h1:Sp 314 xs (Qk p))(h2:Sp 314 xt (Qk q)):Tw (.call 314 [] xs fun Y7=> .br (((qB Y7).toInt)!=0) (.ret [D.agg [D.bool false,D.sl [],D.sl []],D.int ((qB Y7).toInt)]) (.call 314 [] xt fun Y8=> .br (((qB Y8).toInt)!=0) (.ret [D.agg [D.bool false,D.sl [],D.sl []],D.int ((qB Y8).toInt)]) (.call 305 [] [qA Y7,qA Y8] fun Y9=> .ret [qA Y9,D.int ((qB Y9).toInt)]))) (Du (Oa p q)):=by
 refine Aa h1 ?_
 simp only[Qk,Ah,C1,Ao,Dg,Jb]
 unfold Oa
 refine Ae (fun g1=>Ac ?_) (fun g1=>Aa h2 ?_)
 · rw[if_neg g1];rfl
 rw[if_pos (Apm.1 g1)]
 simp only[Qk,Ah,C1,Ao,Dg,Jb]
 refine Ae (fun g2=>Ac ?_) (fun g2=> ?_)
 · rw[if_neg g2];rfl
 rw[if_pos (Apm.1 g2)]
 have mk:=Zr (wz p.1) (wz q.1) (by rw[F6];omega) (by rw[F6];omega)
 rw[De,De]at mk
 exact Aa mk (Ac rfl)
theorem AjE(h:RNum a z d)(n:Int)(hn:n≤3000∧(-3000≤n∨n = -9223372036854775808)):Sp 281 [dN a,.int n] (Du (Ql a n)):=by
 obtain ⟨l1,l2⟩:=h.len
 refine Af 0 (AjF _ _ _) (Aa (F4 a) (Aa (Hf a) ?_))
 simp only[Ah,Ao,Cn]
 unfold Ql
 refine Ae (fun h0=>Aa (DQ ⟨a.neg,a.top⟩ (by show a.top.length≤_;omega)) ?_) (fun h0=> ?_)
 · rw[if_pos h0,K3]
   simp only[Ah,Ao,Cn,Jb]
   refine Ae (fun h1=>Ac ?_) (fun h1=>Ae (fun h2=>Ac ?_) (fun h2=> ?_))
   · rw[if_pos (.inl (h.top0.2 (by rw[← h.top];exact LV.1 h1)))];rfl
   · rw[if_pos (.inr (by omega))];rfl
   · have hz : ¬ a.top = []:=fun hh=>h1 (by rw[h.top,h.top0.1 hh];rfl)
     rw[if_neg (by intro hh;rcases hh with hh | hh;exact hz hh;omega),Ax (by omega) (by omega),Int.zero_sub]
     have p1:=DP ⟨a.neg,a.top⟩ (-n) (by show a.top.length≤_;omega) (by omega)
     have p2:=DP ⟨false,a.bot⟩ (-n) (by show a.bot.length≤_;omega) (by omega)
     exact YL _ _ (Zk _ _) (Zk _ _) p2 p1
 · rw[if_neg h0]
   have p1:=DP ⟨a.neg,a.top⟩ n (by show a.top.length≤_;omega) (by omega)
   have p2:=DP ⟨false,a.bot⟩ n (by show a.bot.length≤_;omega) (by omega)
   exact YL _ _ (Zk _ _) (Zk _ _) p1 p2
theorem RU(h:RNum a z d)(h':RNum b y e):(lb (Nat.gcd (nv a.top) (nv b.top))).length≤32:=by
 by_cases h0:nv a.top=0
 · rw[h0,Nat.gcd_zero_left]
   exact Nat.le_trans (Bb.2 (Cd _)) h'.len.1
 · exact Nat.le_trans (Bb.2 (Nat.lt_of_le_of_lt (Nat.gcd_le_left _ (by omega)) (Cd _))) h.len.1
theorem AoA(n:Nat):zv ⟨false,lb n⟩=(n:Int):=by rw[Uy];rfl
theorem Afy(h:RNum a z d)(h':RNum b y e):RNum (Cy (Nat.gcd (nv a.top) (nv b.top):Nat)) (Nat.gcd (nv a.top) (nv b.top):Nat) 1 :=
 ⟨(Pp _).symm,by decide,Nat.coprime_one_right _,RU h h',by rw[N2];decide⟩
theorem YJ(h:RNum a z d)(h':RNum b y e):Sp 283 [dN a,dN b] (Du (Nw a b)):=by
 refine Af 0 (Aj5 _ _ _) (Aa (Lo a.bot) ?_)
 simp only[Ah,Ba,E0,Jb]
 unfold Nw
 refine Ae (fun h1=>Ac ?_) (fun h1=>Aa (Lo b.bot) ?_)
 · rw[if_neg (fun hh=>h1 hh.1)];rfl
 simp only[Ah,Ba,E0]
 refine Ae (fun h2=>Ac ?_) (fun h2=> ?_)
 · rw[if_neg (fun hh=>h2 hh.2)];rfl
 rw[if_pos ⟨Apm.1 h1,Apm.1 h2⟩]
 have gl:=RU h h'
 have gc:=VF a.top b.top (by have:=h.len;omega) (by have:=h'.len;omega)
 have wh:=Zv ⟨false,lb (Nat.gcd (nv a.top) (nv b.top))⟩ (by show (lb _).length≤_;omega)
 rw[AoA]at wh
 unfold Nc at wh
 rw[if_neg (by rw[Int.natAbs_natCast];omega)]at wh
 exact Aa gc (Aa wh (Ac rfl))
theorem HE(h:RNum a z d)(h':RNum b y e)(h0:(Nw a b).2=0) : ∃ x,RNum (Nw a b).1 x 1:=by
 unfold Nw at h0 ⊢
 split at h0
 · rename_i hh;rw[if_pos hh];exact ⟨_,Afy h h'⟩
 · cases h0
theorem Aj7(h:RNum a z d)(h':RNum b y e):Sp 282 [dN a,dN b] (Du (Pz a b)):=by
 refine Af 0 (Aj8 _ _ _) (Aa (YJ h h') ?_)
 simp only[Du,Ah,C1,Ao,Dg,Jb]
 unfold Pz La
 refine Ae (fun h1=>Ac ?_) (fun h1=> ?_)
 · rw[if_neg h1]
 have h1':=Apm.1 h1
 rw[if_pos h1']
 obtain ⟨x,hx⟩:=HE h h' h1'
 refine Aa (Zt hx.sm) ?_
 simp only[Ah,Ao,Cn]
 refine Ae (fun h2=>Aa (Mv 0 (by unfold Bd;omega)) (Ac ?_)) (fun h2=>Aa (Zq h.sm hx.sm) ?_)
 · have hx0:x=0:=by rw[← hx.top];exact LV.1 h2
   rw[if_pos (hx.top0.2 hx0)]
   rw[hx.eq,hx0,Pp];rfl
 · have hx0:x≠0:=fun hh=>h2 (by rw[hx.top,hh];rfl)
   rw[if_neg (fun hh=>hx0 (hx.top0.1 hh))]
   simp only[Du,Ah,C1,Ao,Dg]
   refine Ae (fun h3=>Ac ?_) (fun h3=> ?_)
   · rw[if_neg h3]
   have h3':=Apm.1 h3
   rw[if_pos h3']
   obtain ⟨x2,c2,hr2⟩:=QI h hx hx0 h3'
   exact Aa (KK hr2.sm h'.sm) (Ac rfl)
end
theorem Qw{z:Int}(h:Bu z≤32):RNum (Cy z) z 1:=⟨(Pp z).symm,by decide,Nat.coprime_one_right _,h,by rw[N2];decide⟩
theorem N4{z:Int}(h1 : -100000≤z:=by decide)(h2:z≤100000:=by decide):Bu z≤32:=Ss (by
 have:100000<B ^ 32:=by decide
 omega)
def BK:List (Nat×Orc):=[(5,⟨[(0,none),(4,none),(6,none),(26,some 24),(27,none),(28,none)],[(4,false),(6,false)],[(.fld 6 [1],1050,3),(.fld 6 [2],1051,67)]⟩)]
noncomputable def BJ(n m5:Nat)(f0:Int)(t26:D)(t27 t28:Int)(t4_0 out6_0:Int)(out6_1 out6_2:List D):Tree :=
 lA (eA BK n 70 [1,1,1,0,1,0,0]) (An BK 5) m5 ⟨(.i .i64 f0::uA 3++(.ptr 4 []:: .undef:: .ptr 6 []::uA 19++(.d 24 t26:: .i .i64 t27:: .i .i64 t28::uA 21))),[(4,.var 26 (.agg 26 [.i .u64 t4_0,.mt,.mt]) true),(6,.var 26 (.agg 26 [.i .u64 out6_0,.row 1050,.row 1051]) true),(1050,.row 3 out6_1 true),(1051,.row 67 out6_2 true)],[4,6,1050,1051],[],[]⟩
  (Ak 0 (Aq (jA BK n 70 [1,1,1,1]) (rA 70 [3,26] [.cell 4 26,.tmp 5] [26,29])))
theorem AaY(n m5:Nat)(f0:Int)(t26:D)(t27 t28:Int)(t4_0 out6_0:Int)(out6_1 out6_2:List D):BJ n (m5+1) f0 t26 t27 t28 t4_0 out6_0 out6_1 out6_2 =
 bK (t28<t27) (kK (0≤t28) (kK (t28<(t26.els.length:Int)) (cK 159 [D.int f0,t26.els.getD (Apa t28) D.nil] fun Y3 =>
 .br (((qB Y3).toInt)!=0) (.ret [D.agg [D.int 0,D.sl [],D.sl []],D.int ((qB Y3).toInt)])
 (kK (0≤t28) (kK (t28<(out6_2.length:Int)) (BJ n m5 f0 t26 t27 (Aom .i64 (t28+1)) t4_0 out6_0 out6_1 (out6_2.set (Apa t28) (qA Y3))))))))
 (.ret [D.agg [D.int out6_0,D.sl out6_1,D.sl out6_2],D.int 0]):=by kernel_rfl
theorem AlS(n:Nat)(f0 a1:D):fA BK n 70 [] [f0,a1] =
 cK 158 [D.int f0.toInt] fun Y1 =>
 .br (!((qA Y1).toBool)) (.ret [D.agg [D.int 0,D.sl [],D.sl []],D.int 8])
 (cK 96 [a1.fld 1] fun Y2 =>
 kK (0≤(((a1.fld 2).els).length:Int)) (kK ((((a1.fld 2).els).length:Int)≤(((a1.fld 2).els).length:Int)) (kK ((((a1.fld 2).els).length:Int)≤Am) (BJ n n f0.toInt (a1.fld 2) (((a1.fld 2).els).length:Int) 0 0 ((a1.fld 0).toInt) ((qA Y2).els) (Apc (Apa (((a1.fld 2).els).length:Int)) (D.agg [D.int 0,D.int 0,D.agg [D.bool false,D.sl [],D.sl []],D.int 0,D.sl []])))))):=by kernel_rfl
def BL:List (Nat×Orc):=[(11,⟨[(0,none),(4,none),(5,none),(6,none),(11,none),(48,none),(49,none)],[(4,true),(5,true),(6,false),(11,false)],[(.fld 11 [2],1110,67)]⟩)]
noncomputable def Tz(n m11:Nat)(f0 t48 t49:Int)(a4 b5:D)(t6_0 out11_0:Int)(out11_1:D)(out11_2:List D):Tree :=
 lA (eA BL n 112 [1,1,1,1,1,1,1,0,1,0,0]) (An BL 11) m11 ⟨(.i .i64 f0::uA 3++(.ptr 4 []:: .ptr 5 []:: .ptr 6 []::uA 4++(.ptr 11 []::uA 36++(.i .i64 t48:: .i .i64 t49::uA 24)))),[(4,.var 26 (.d 26 a4) true),(5,.var 26 (.d 26 b5) true),(6,.var 26 (.agg 26 [.i .u64 t6_0,.mt,.mt]) true),(11,.var 26 (.agg 26 [.i .u64 out11_0,.d 23 out11_1,.row 1110]) true),(1110,.row 67 out11_2 true)],[4,5,6,11,1110],[],[]⟩
  (Ak 0 (Aq (jA BL n 112 [1,1,1,1,1,1,1,1]) (rA 112 [3,26,26] [.cell 6 26,.tmp 7] [26,29])))
theorem Aba(n m11:Nat)(f0 t48 t49:Int)(a4 b5:D)(t6_0 out11_0:Int)(out11_1:D)(out11_2:List D):Tz n (m11+1) f0 t48 t49 a4 b5 t6_0 out11_0 out11_1 out11_2 =
 bK (t49<t48) (cK 195 [a4,D.int t49] fun Y4 =>
 cK 195 [b5,D.int t49] fun Y5 =>
 cK 194 [D.int f0,qA Y4,qA Y5] fun Y6 =>
 .br (((qB Y6).toInt)!=0) (.ret [D.agg [D.int 0,D.sl [],D.sl []],D.int ((qB Y6).toInt)])
 (kK (0≤t49) (kK (t49<(out11_2.length:Int)) (Tz n m11 f0 t48 (Aom .i64 (t49+1)) a4 b5 t6_0 out11_0 out11_1 (out11_2.set (Apa t49) (qA Y6))))))
 (.ret [D.agg [D.int out11_0,out11_1,D.sl out11_2],D.int 0]):=by kernel_rfl
theorem AlT(n:Nat)(f0 a1 b2:D):fA BL n 112 [] [f0,a1,b2] =
 cK 192 [D.int f0.toInt] fun Y1 =>
 .br (!((qA Y1).toBool)) (.ret [D.agg [D.int 0,D.sl [],D.sl []],D.int 8])
 (cK 193 [a1,b2] fun Y2 =>
 .br (((qB Y2).toInt)!=0) (.ret [D.agg [D.int 0,D.sl [],D.sl []],D.int ((qB Y2).toInt)])
 (.br ((((a1.fld 1).els).length:Int)==0) (cK 83 [D.int ((a1.fld 0).toInt),D.int ((b2.fld 0).toInt)] fun Y3 =>
 kK (0≤(((b2.fld 2).els).length:Int)) (kK ((((b2.fld 2).els).length:Int)≤(((b2.fld 2).els).length:Int)) (kK ((((b2.fld 2).els).length:Int)≤Am) (Tz n n f0.toInt (((b2.fld 2).els).length:Int) 0 a1 b2 0 ((qA Y3).toInt) (qA Y2) (Apc (Apa (((b2.fld 2).els).length:Int)) (D.agg [D.int 0,D.int 0,D.agg [D.bool false,D.sl [],D.sl []],D.int 0,D.sl []]))))))
 (cK 83 [D.int ((a1.fld 0).toInt),D.int ((b2.fld 0).toInt)] fun Y7 =>
 kK (0≤(((a1.fld 2).els).length:Int)) (kK ((((a1.fld 2).els).length:Int)≤(((a1.fld 2).els).length:Int)) (kK ((((a1.fld 2).els).length:Int)≤Am) (Tz n n f0.toInt (((a1.fld 2).els).length:Int) 0 a1 b2 0 ((qA Y7).toInt) (qA Y2) (Apc (Apa (((a1.fld 2).els).length:Int)) (D.agg [D.int 0,D.int 0,D.agg [D.bool false,D.sl [],D.sl []],D.int 0,D.sl []])))))))):=by kernel_rfl
theorem AlJ(n:Nat)(f0:D):fA [] n 158 [] [f0] =
 .br (f0.toInt == 43) (.br (f0.toInt == 43) (.ret [D.bool true])
 (.ret [D.bool false]))
 (.br (f0.toInt == 45) (.br (f0.toInt == 45) (.ret [D.bool true])
 (.ret [D.bool false]))
 (.br (f0.toInt == 215) (.br (f0.toInt == 215) (.ret [D.bool true])
 (.ret [D.bool false]))
 (.br (f0.toInt == 247) (.br (f0.toInt == 247) (.ret [D.bool true])
 (.ret [D.bool false]))
 (.br (f0.toInt == 8968) (.br (f0.toInt == 8968) (.ret [D.bool true])
 (.ret [D.bool false]))
 (.br (f0.toInt == 8970) (.br (f0.toInt == 8970) (.ret [D.bool true])
 (.ret [D.bool false]))
 (.br (f0.toInt == 124) (.br (f0.toInt == 124) (.ret [D.bool true])
 (.ret [D.bool false]))
 (.br (f0.toInt == 126) (.br (f0.toInt == 126) (.ret [D.bool true])
 (.ret [D.bool false]))
 (.br (f0.toInt == 33) (.ret [D.bool true])
 (.ret [D.bool false]))))))))):=by kernel_rfl
theorem Amb(n:Nat)(f0 c1:D):fA [] n 159 [] [f0,c1] =
 .br (((c1.fld 1).toInt)==0) (cK 221 [D.int f0.toInt,c1.fld 2] fun Y1 =>
 .ret [D.agg [D.int ((c1.fld 0).toInt),D.int 0,qA Y1,D.int 0,D.sl []],D.int ((qB Y1).toInt)])
 (.br (((c1.fld 1).toInt)==2) (cK 222 [c1] fun Y2 =>
 cK 70 [D.int f0.toInt,qA Y2] fun Y3 =>
 .ret [D.agg [D.int ((c1.fld 0).toInt),D.int 2,D.agg [D.bool false,D.sl [],D.sl []],D.int 0,D.sl [qA Y3]],D.int ((qB Y3).toInt)])
 (.ret [D.agg [D.int 0,D.int 0,D.agg [D.bool false,D.sl [],D.sl []],D.int 0,D.sl []],D.int 3])):=by kernel_rfl
theorem AlL(n:Nat)(f0:D):fA [] n 192 [] [f0] =
 .br (f0.toInt == 43) (.br (f0.toInt == 43) (.ret [D.bool true])
 (.ret [D.bool false]))
 (.br (f0.toInt == 45) (.br (f0.toInt == 45) (.ret [D.bool true])
 (.ret [D.bool false]))
 (.br (f0.toInt == 215) (.br (f0.toInt == 215) (.ret [D.bool true])
 (.ret [D.bool false]))
 (.br (f0.toInt == 247) (.br (f0.toInt == 247) (.ret [D.bool true])
 (.ret [D.bool false]))
 (.br (f0.toInt == 8968) (.br (f0.toInt == 8968) (.ret [D.bool true])
 (.ret [D.bool false]))
 (.br (f0.toInt == 8970) (.br (f0.toInt == 8970) (.ret [D.bool true])
 (.ret [D.bool false]))
 (.br (f0.toInt == 124) (.br (f0.toInt == 124) (.ret [D.bool true])
 (.ret [D.bool false]))
 (.br (f0.toInt == 42) (.br (f0.toInt == 42) (.ret [D.bool true])
 (.ret [D.bool false]))
 (.br (f0.toInt == 60) (.br (f0.toInt == 60) (.ret [D.bool true])
 (.ret [D.bool false]))
 (.br (f0.toInt == 8804) (.br (f0.toInt == 8804) (.ret [D.bool true])
 (.ret [D.bool false]))
 (.br (f0.toInt == 61) (.br (f0.toInt == 61) (.ret [D.bool true])
 (.ret [D.bool false]))
 (.br (f0.toInt == 8805) (.br (f0.toInt == 8805) (.ret [D.bool true])
 (.ret [D.bool false]))
 (.br (f0.toInt == 62) (.br (f0.toInt == 62) (.ret [D.bool true])
 (.ret [D.bool false]))
 (.br (f0.toInt == 8800) (.br (f0.toInt == 8800) (.ret [D.bool true])
 (.ret [D.bool false]))
 (.br (f0.toInt == 8743) (.br (f0.toInt == 8743) (.ret [D.bool true])
 (.ret [D.bool false]))
 (.br (f0.toInt == 8744) (.ret [D.bool true])
 (.ret [D.bool false])))))))))))))))):=by kernel_rfl
theorem AlH(n:Nat)(a0 b1:D):fA [] n 193 [] [a0,b1] =
 .br ((((a0.fld 1).els).length:Int)==0) (cK 96 [b1.fld 1] fun Y1 =>
 .ret [D.sl ((qA Y1).els),D.int 0])
 (.br ((((b1.fld 1).els).length:Int)==0) (cK 96 [a0.fld 1] fun Y2 =>
 .ret [D.sl ((qA Y2).els),D.int 0])
 (.br ((((a0.fld 1).els).length:Int)!=(((b1.fld 1).els).length:Int)) (.ret [D.sl [],D.int 5])
 (cK 234 [a0.fld 1,b1.fld 1] fun Y3 =>
 .br (!((qA Y3).toBool)) (.ret [D.sl [],D.int 4])
 (cK 96 [a0.fld 1] fun Y4 =>
 .ret [D.sl ((qA Y4).els),D.int 0])))):=by kernel_rfl
theorem Amf(n:Nat)(f0 x1 y2:D):fA [] n 194 [] [f0,x1,y2] =
 cK 83 [D.int ((x1.fld 0).toInt),D.int ((y2.fld 0).toInt)] fun Y1 =>
 .br (((x1.fld 1).toInt)==2) (cK 235 [x1] fun Y2 =>
 cK 235 [y2] fun Y3 =>
 cK 112 [D.int f0.toInt,qA Y2,qA Y3] fun Y4 =>
 .ret [D.agg [D.int ((qA Y1).toInt),D.int 2,D.agg [D.bool false,D.sl [],D.sl []],D.int 0,D.sl [qA Y4]],D.int ((qB Y4).toInt)])
 (.br (((y2.fld 1).toInt)==2) (cK 235 [x1] fun Y5 =>
 cK 235 [y2] fun Y6 =>
 cK 112 [D.int f0.toInt,qA Y5,qA Y6] fun Y7 =>
 .ret [D.agg [D.int ((qA Y1).toInt),D.int 2,D.agg [D.bool false,D.sl [],D.sl []],D.int 0,D.sl [qA Y7]],D.int ((qB Y7).toInt)])
 (.br (((x1.fld 1).toInt)==0) (.br (((y2.fld 1).toInt)==0) (cK 236 [D.int f0.toInt,x1.fld 2,y2.fld 2] fun Y8 =>
 .ret [D.agg [D.int ((qA Y1).toInt),D.int 0,qA Y8,D.int 0,D.sl []],D.int ((qB Y8).toInt)])
 (.br (f0.toInt == 61) (.br (((x1.fld 1).toInt)==((y2.fld 1).toInt)) (cK 237 [D.bool ((((x1.fld 3).toInt)==((y2.fld 3).toInt))==(f0.toInt == 61))] fun Y9 =>
 .ret [D.agg [D.int ((qA Y1).toInt),D.int 0,qA Y9,D.int 0,D.sl []],D.int 0])
 (cK 237 [D.bool (false == (f0.toInt == 61))] fun Y10 =>
 .ret [D.agg [D.int ((qA Y1).toInt),D.int 0,qA Y10,D.int 0,D.sl []],D.int 0]))
 (.br (f0.toInt == 8800) (.br (((x1.fld 1).toInt)==((y2.fld 1).toInt)) (cK 237 [D.bool ((((x1.fld 3).toInt)==((y2.fld 3).toInt))==(f0.toInt == 61))] fun Y11 =>
 .ret [D.agg [D.int ((qA Y1).toInt),D.int 0,qA Y11,D.int 0,D.sl []],D.int 0])
 (cK 237 [D.bool (false == (f0.toInt == 61))] fun Y12 =>
 .ret [D.agg [D.int ((qA Y1).toInt),D.int 0,qA Y12,D.int 0,D.sl []],D.int 0]))
 (.ret [D.agg [D.int ((qA Y1).toInt),D.int 0,D.agg [D.bool false,D.sl [],D.sl []],D.int 0,D.sl []],D.int 3]))))
 (.br (f0.toInt == 61) (.br (((x1.fld 1).toInt)==((y2.fld 1).toInt)) (cK 237 [D.bool ((((x1.fld 3).toInt)==((y2.fld 3).toInt))==(f0.toInt == 61))] fun Y13 =>
 .ret [D.agg [D.int ((qA Y1).toInt),D.int 0,qA Y13,D.int 0,D.sl []],D.int 0])
 (cK 237 [D.bool (false == (f0.toInt == 61))] fun Y14 =>
 .ret [D.agg [D.int ((qA Y1).toInt),D.int 0,qA Y14,D.int 0,D.sl []],D.int 0]))
 (.br (f0.toInt == 8800) (.br (((x1.fld 1).toInt)==((y2.fld 1).toInt)) (cK 237 [D.bool ((((x1.fld 3).toInt)==((y2.fld 3).toInt))==(f0.toInt == 61))] fun Y15 =>
 .ret [D.agg [D.int ((qA Y1).toInt),D.int 0,qA Y15,D.int 0,D.sl []],D.int 0])
 (cK 237 [D.bool (false == (f0.toInt == 61))] fun Y16 =>
 .ret [D.agg [D.int ((qA Y1).toInt),D.int 0,qA Y16,D.int 0,D.sl []],D.int 0]))
 (.ret [D.agg [D.int ((qA Y1).toInt),D.int 0,D.agg [D.bool false,D.sl [],D.sl []],D.int 0,D.sl []],D.int 3]))))):=by kernel_rfl
theorem Amc(n:Nat)(a0 i1:D):fA [] n 195 [] [a0,i1] =
 .br ((((a0.fld 1).els).length:Int)==0) (bK ((0:Int)<0) (.ret [D.agg [D.int 0,D.int 0,D.agg [D.bool false,D.sl [],D.sl []],D.int 0,D.sl []]])
 (bK ((((a0.fld 2).els).length:Int)≤(0:Int)) (.ret [D.agg [D.int 0,D.int 0,D.agg [D.bool false,D.sl [],D.sl []],D.int 0,D.sl []]])
 (kK (0≤0) (kK (0<(((a0.fld 2).els).length:Int)) (.ret [((a0.fld 2).els).getD (Apa 0) D.nil])))))
 (bK (i1.toInt<0) (.ret [D.agg [D.int 0,D.int 0,D.agg [D.bool false,D.sl [],D.sl []],D.int 0,D.sl []]])
 (bK ((((a0.fld 2).els).length:Int)≤i1.toInt) (.ret [D.agg [D.int 0,D.int 0,D.agg [D.bool false,D.sl [],D.sl []],D.int 0,D.sl []]])
 (kK (0≤i1.toInt) (kK (i1.toInt<(((a0.fld 2).els).length:Int)) (.ret [((a0.fld 2).els).getD (Apa i1.toInt) D.nil]))))):=by kernel_rfl
theorem AlN(n:Nat)(f0 nn1:D):fA [] n 221 [] [f0,nn1] =
 .br (f0.toInt == 43) (cK 257 [nn1] fun Y1 =>
 .ret [(qA Y1).fld 2,D.int 0])
 (.br (f0.toInt == 45) (cK 258 [nn1] fun Y2 =>
 .ret [qA Y2,D.int 0])
 (.br (f0.toInt == 215) (cK 259 [nn1] fun Y3 =>
 cK 212 [D.int ((qA Y3).toInt)] fun Y4 =>
 .ret [qA Y4,D.int 0])
 (.br (f0.toInt == 247) (cK 212 [D.int 1] fun Y5 =>
 cK 260 [qA Y5,nn1] fun Y6 =>
 .ret [qA Y6,D.int ((qB Y6).toInt)])
 (.br (f0.toInt == 8968) (cK 261 [nn1] fun Y7 =>
 .ret [qA Y7,D.int 0])
 (.br (f0.toInt == 8970) (cK 262 [nn1] fun Y8 =>
 .ret [qA Y8,D.int 0])
 (.br (f0.toInt == 124) (cK 263 [nn1] fun Y9 =>
 .ret [qA Y9,D.int 0])
 (.br (f0.toInt == 126) (cK 166 [nn1] fun Y10 =>
 .br (!((qB Y10).toBool)) (.ret [D.agg [D.bool false,D.sl [],D.sl []],D.int 3])
 (.br (((qA Y10).toInt)!=0) (.br (((qA Y10).toInt)!=1) (.ret [D.agg [D.bool false,D.sl [],D.sl []],D.int 3])
 (cK 212 [D.int (Aom .i64 (1-((qA Y10).toInt)))] fun Y11 =>
 .ret [qA Y11,D.int 0]))
 (cK 212 [D.int (Aom .i64 (1-((qA Y10).toInt)))] fun Y12 =>
 .ret [qA Y12,D.int 0])))
 (.br (f0.toInt == 33) (cK 264 [nn1] fun Y13 =>
 .ret [qA Y13,D.int ((qB Y13).toInt)])
 (.ret [D.agg [D.bool false,D.sl [],D.sl []],D.int 8]))))))))):=by kernel_rfl
theorem AlZ(n:Nat)(c0:D):fA [] n 222 [] [c0] =
 .br ((((c0.fld 4).els).length:Int)==0) (.ret [D.agg [D.int 0,D.sl [],D.sl []]])
 (kK (0≤0) (kK (0<(((c0.fld 4).els).length:Int)) (.ret [((c0.fld 4).els).getD (Apa 0) D.nil]))):=by kernel_rfl
theorem AlW(n:Nat)(c0:D):fA [] n 235 [] [c0] =
 .br (((c0.fld 1).toInt)==2) (cK 222 [c0] fun Y1 =>
 .ret [qA Y1])
 (cK 178 [D.agg [D.int 0,D.int ((c0.fld 1).toInt),c0.fld 2,D.int ((c0.fld 3).toInt),c0.fld 4]] fun Y2 =>
 .ret [qA Y2]):=by kernel_rfl
theorem AlQ(n:Nat)(f0 a1 b2:D):fA [] n 236 [] [f0,a1,b2] =
 .br (f0.toInt == 43) (cK 277 [a1,b2] fun Y1 =>
 .ret [qA Y1,D.int ((qB Y1).toInt)])
 (.br (f0.toInt == 45) (cK 278 [a1,b2] fun Y2 =>
 .ret [qA Y2,D.int ((qB Y2).toInt)])
 (.br (f0.toInt == 215) (cK 279 [a1,b2] fun Y3 =>
 .ret [qA Y3,D.int ((qB Y3).toInt)])
 (.br (f0.toInt == 247) (cK 260 [a1,b2] fun Y4 =>
 .ret [qA Y4,D.int ((qB Y4).toInt)])
 (.br (f0.toInt == 8968) (.br (f0.toInt == 8968) (cK 219 [a1,b2] fun Y5 =>
 .br ((decide (((qA Y5).toInt)<0))==(f0.toInt == 8968)) (cK 257 [b2] fun Y6 =>
 .ret [(qA Y6).fld 2,D.int 0])
 (cK 257 [a1] fun Y7 =>
 .ret [(qA Y7).fld 2,D.int 0]))
 (.br (f0.toInt == 124) (cK 280 [a1,b2] fun Y8 =>
 .ret [qA Y8,D.int ((qB Y8).toInt)])
 (.br (f0.toInt == 42) (cK 166 [b2] fun Y9 =>
 .br (!((qB Y9).toBool)) (.ret [D.agg [D.bool false,D.sl [],D.sl []],D.int 8])
 (cK 281 [a1,D.int ((qA Y9).toInt)] fun Y10 =>
 .ret [qA Y10,D.int ((qB Y10).toInt)]))
 (.br (f0.toInt == 8743) (cK 282 [a1,b2] fun Y11 =>
 .ret [qA Y11,D.int ((qB Y11).toInt)])
 (.br (f0.toInt == 8744) (cK 283 [a1,b2] fun Y12 =>
 .ret [qA Y12,D.int ((qB Y12).toInt)])
 (cK 284 [D.int f0.toInt,a1,b2] fun Y13 =>
 .ret [qA Y13,D.int ((qB Y13).toInt)]))))))
 (.br (f0.toInt == 8970) (cK 219 [a1,b2] fun Y14 =>
 .br ((decide (((qA Y14).toInt)<0))==(f0.toInt == 8968)) (cK 257 [b2] fun Y15 =>
 .ret [(qA Y15).fld 2,D.int 0])
 (cK 257 [a1] fun Y16 =>
 .ret [(qA Y16).fld 2,D.int 0]))
 (.br (f0.toInt == 124) (cK 280 [a1,b2] fun Y17 =>
 .ret [qA Y17,D.int ((qB Y17).toInt)])
 (.br (f0.toInt == 42) (cK 166 [b2] fun Y18 =>
 .br (!((qB Y18).toBool)) (.ret [D.agg [D.bool false,D.sl [],D.sl []],D.int 8])
 (cK 281 [a1,D.int ((qA Y18).toInt)] fun Y19 =>
 .ret [qA Y19,D.int ((qB Y19).toInt)]))
 (.br (f0.toInt == 8743) (cK 282 [a1,b2] fun Y20 =>
 .ret [qA Y20,D.int ((qB Y20).toInt)])
 (.br (f0.toInt == 8744) (cK 283 [a1,b2] fun Y21 =>
 .ret [qA Y21,D.int ((qB Y21).toInt)])
 (cK 284 [D.int f0.toInt,a1,b2] fun Y22 =>
 .ret [qA Y22,D.int ((qB Y22).toInt)])))))))))):=by kernel_rfl
theorem Amd(n:Nat)(holds0:D):fA [] n 237 [] [holds0] =
 .br holds0.toBool (cK 212 [D.int 1] fun Y1 =>
 .ret [qA Y1])
 (cK 212 [D.int 0] fun Y2 =>
 .ret [qA Y2]):=by kernel_rfl
def BN:List (Nat×Orc):=[(9,⟨[(2,none),(6,none),(8,none),(9,none)],[(2,false),(8,true)],[]⟩)]
noncomputable def BM(n m9:Nat)(most6 i9:Int)(t2_0:Bool)(product8:D):Tree :=
 lA (eA BN n 264 [1,1,1,1,1,0,1,0,0]) (An BN 9) m9 ⟨(.undef:: .undef:: .ptr 2 []::uA 3++(.i .i64 most6:: .undef:: .ptr 8 []:: .i .i64 i9::uA 42)),[(2,.var 64 (.agg 64 [.b t2_0,.mt,.mt]) true),(8,.var 187 (.d 187 product8) true)],[2,8],[],[]⟩
  (Ak 0 (Aq (jA BN n 264 [1,1,1,1,1,1]) (rA 264 [64] [.cell 2 64,.tmp 3] [64,29])))
theorem Abd(n m9:Nat)(most6 i9:Int)(t2_0:Bool)(product8:D):BM n (m9+1) most6 i9 t2_0 product8 =
 bK (i9≤most6) (cK 246 [D.int i9] fun Y5 =>
 cK 254 [product8,qA Y5] fun Y6 =>
 BM n m9 most6 (Aom .i64 (i9+1)) t2_0 (qA Y6))
 (bK (32<(((product8.fld 1).els).length:Int)) (.ret [D.agg [D.bool false,D.sl [],D.sl []],D.int 7])
 (cK 245 [product8] fun Y7 =>
 .ret [qA Y7,D.int 0])):=by kernel_rfl
theorem AlY(n:Nat)(nn0:D):fA BN n 264 [] [nn0] =
 cK 307 [nn0] fun Y1 =>
 .br (!((qB Y1).toBool)) (.ret [D.agg [D.bool false,D.sl [],D.sl []],D.int 3])
 (cK 259 [nn0] fun Y2 =>
 bK (((qA Y2).toInt)<0) (.ret [D.agg [D.bool false,D.sl [],D.sl []],D.int 3])
 (cK 166 [nn0] fun Y3 =>
 .br (!((qB Y3).toBool)) (.ret [D.agg [D.bool false,D.sl [],D.sl []],D.int 7])
 (bK (200<((qA Y3).toInt)) (.ret [D.agg [D.bool false,D.sl [],D.sl []],D.int 7])
 (cK 246 [D.int 1] fun Y4 =>
 BM n n ((qA Y3).toInt) 2 false (qA Y4))))):=by kernel_rfl
theorem AlV(n:Nat)(f0 a1 b2:D):fA [] n 284 [] [f0,a1,b2] =
 cK 219 [a1,b2] fun Y1 =>
 .br (f0.toInt == 60) (cK 237 [D.bool (decide (((qA Y1).toInt)<0))] fun Y2 =>
 .ret [qA Y2,D.int 0])
 (.br (f0.toInt == 8804) (cK 237 [D.bool (decide (((qA Y1).toInt)≤0))] fun Y3 =>
 .ret [qA Y3,D.int 0])
 (.br (f0.toInt == 61) (cK 237 [D.bool (((qA Y1).toInt)==0)] fun Y4 =>
 .ret [qA Y4,D.int 0])
 (.br (f0.toInt == 8805) (cK 237 [D.bool (decide (0≤((qA Y1).toInt)))] fun Y5 =>
 .ret [qA Y5,D.int 0])
 (.br (f0.toInt == 62) (cK 237 [D.bool (decide (0<((qA Y1).toInt)))] fun Y6 =>
 .ret [qA Y6,D.int 0])
 (.br (f0.toInt == 8800) (cK 237 [D.bool (((qA Y1).toInt)!=0)] fun Y7 =>
 .ret [qA Y7,D.int 0])
 (.ret [D.agg [D.bool false,D.sl [],D.sl []],D.int 8])))))):=by kernel_rfl
def S7:List Int:=[43,45,215,247,8968,8970,124,126,33]
def Um:List Int:=[43,45,215,247,8968,8970,124,42,60,8804,61,8805,62,8800,8743,8744]
theorem AlI(f:Int):Sp 158 [.int f] [.bool (decide (f∈S7))]:=by
 refine Af 0 (AlJ _ _) ?_
 simp only[Ao,Cn]
 unfold S7
 repeat (refine Ae (fun h=>A0 h (Ac (by simp[h]))) (fun h=> ?_))
 refine Ae (fun h=>Ac (by simp[h])) (fun h=>Ac (by simp[*]))
theorem AlK(f:Int):Sp 192 [.int f] [.bool (decide (f∈Um))]:=by
 refine Af 0 (AlL _ _) ?_
 simp only[Ao,Cn]
 unfold Um
 repeat (refine Ae (fun h=>A0 h (Ac (by simp[h]))) (fun h=> ?_))
 refine Ae (fun h=>Ac (by simp[h])) (fun h=>Ac (by simp[*]))
def Gy(b:Bool):Num:=if b then Cy 1 else Cy 0
theorem Kq(b:Bool):Sp 237 [.bool b] [dN (Gy b)]:=by
 refine Af 0 (Amd _ _) ?_
 cases b with
 | true=>exact Bo rfl (Aa (Mv 1 (by unfold Bd;omega)) (Ac rfl))
 | false=>exact Ej rfl (Aa (Mv 0 (by unfold Bd;omega)) (Ac rfl))
theorem MP(b:Bool) : ∃ z,RNum (Gy b) z 1:=by
 unfold Gy
 cases b with
 | true=>exact ⟨_,Qw N4⟩
 | false=>exact ⟨_,Qw N4⟩
def Ey:Nat→Nat
 | 0=>1
 | k+1=>(k+1)*Ey k
def Pi(n:Num):Num×Int:=if n.bot = [1]∧n.neg=false then (match Dw n with | some k=>if k≤200 then C_ (Ey k.toNat:Nat) 1 else (.zero,7) | none=>(.zero,7)) else (.zero,3)
def Ln(f:Int)(n:Num):Num×Int :=
 if f=43 then (n,0) else if f=45 then (Jk n,0) else if f=215 then (Cy (E6 (Bs n)),0) else if f=247 then Np (Cy 1) n
 else if f=8968 then (Jk (J9 (Jk n)),0) else if f=8970 then (J9 n,0) else if f=124 then (⟨false,n.top,n.bot⟩,0)
 else if f=126 then (if Dw n=some 0 then (Cy 1,0) else if Dw n=some 1 then (Cy 0,0) else (.zero,3))
 else if f=33 then Pi n else (.zero,8)
def Pd(f c:Int):Num×Int :=
 if f=60 then (Gy (decide (c<0)),0) else if f=8804 then (Gy (decide (c≤0)),0) else if f=61 then (Gy (decide (c=0)),0)
 else if f=8805 then (Gy (decide (0≤c)),0) else if f=62 then (Gy (decide (0<c)),0) else if f=8800 then (Gy (decide (¬ c=0)),0) else (.zero,8)
def Ju(f:Int)(a b:Num):Num×Int :=
 if f=43 then EF a b else if f=45 then MH a b else if f=215 then P_ a b else if f=247 then Np a b
 else if f=8968 then (if Hn a b<0 then b else a,0) else if f=8970 then (if Hn a b<0 then a else b,0)
 else if f=124 then P8 a b else if f=42 then (match Dw b with | some k=>Ql a k | none=>(.zero,8))
 else if f=8743 then Pz a b else if f=8744 then Nw a b else Pd f (Hn a b)
section
variable {a b:Num} {z y:Int} {d e:Nat}
theorem AmW(h:RNum a z d){k:Int}(hs:Dw a=some k):k=z∧d=1∧Bd z:=by
 unfold Dw Na at hs
 split at hs
 · rename_i hb
   rw[h.top]at hs
   split at hs
   · rename_i hr
     injection hs with hs
     refine ⟨hs.symm,?_,hr⟩
     have:=h.bot
     rw[JC hb]at this
     omega
   · cases hs
 · cases hs
theorem Lj{p q:Int}(h:(C_ p q).2=0) : ∃ x c,RNum (C_ p q).1 x c:=by
 by_cases hq:q=0
 · unfold C_ at h;rw[if_pos hq]at h;cases h
 · obtain ⟨x,c,h1,_⟩:=(IW hq).1 h
   exact ⟨x,c,h1⟩
theorem AcS(h:RNum a z d):RNum ⟨false,a.top,a.bot⟩ (z.natAbs:Int) d:=by
 refine ⟨?_,h.d0,by simpa using h.cop,by have:=h.lz;unfold Bu at *; simpa using this,h.ld⟩
 rw[h.eq]
 unfold Io
 simp
theorem Ami(h:RNum a z d):RNum (Cy (E6 z)) (E6 z) 1:=Qw (by unfold E6;split;exact N4;split <;> exact N4)
theorem Vj{r:Num×Int}{f:Num→Num×Int}(h:(La r f).2=0):r.2=0∧La r f=f r.1:=by
 unfold La at h ⊢
 split at h
 · rename_i hh;rw[if_pos hh];exact ⟨hh,rfl⟩
 · rename_i hh;exact absurd h hh
theorem AgN(_:RNum a z d)(h':RNum b y e)(h:(P8 a b).2=0) : ∃ x c,RNum (P8 a b).1 x c:=by
 unfold P8 at h ⊢
 split at h
 · rename_i hh;rw[if_pos hh];exact ⟨_,_,h'⟩
 · rename_i hh
   rw[if_neg hh]
   obtain ⟨h1,h2⟩:=Vj h
   rw[h2]at h ⊢
   obtain ⟨h3,h4⟩:=Vj h
   rw[h4]at h ⊢
   exact Lj h
theorem AiW{n:Int}(h:(Ql a n).2=0) : ∃ x c,RNum (Ql a n).1 x c:=by
 have pd : ∀ p q,(Oa p q).2=0→∃ x c,RNum (Oa p q).1 x c:=fun p q hh=>by
   unfold Oa at hh ⊢
   split at hh
   · rename_i h1
     rw[if_pos h1]
     split at hh
     · rename_i h2;rw[if_pos h2];exact Lj hh
     · rename_i h2;exact absurd hh h2
   · rename_i h1;exact absurd hh h1
 unfold Ql at h ⊢
 split at h
 · rename_i h0
   rw[if_pos h0]
   split at h
   · cases h
   · rename_i h1;rw[if_neg h1];exact pd _ _ h
 · rename_i h0;rw[if_neg h0];exact pd _ _ h
theorem Ago(h1:RNum a z d)(h2:RNum b y e)(h:(Pz a b).2=0) : ∃ x c,RNum (Pz a b).1 x c:=by
 unfold Pz at h ⊢
 obtain ⟨h3,h4⟩:=Vj h
 rw[h4]at h ⊢
 obtain ⟨x,hx⟩:=HE h1 h2 h3
 split at h
 · rename_i hh;rw[if_pos hh];exact ⟨_,_,hx⟩
 · rename_i hh
   rw[if_neg hh]
   obtain ⟨h5,h6⟩:=Vj h
   rw[h6]at h ⊢
   exact Lj h
theorem AeQ(h:(Pi a).2=0) : ∃ x c,RNum (Pi a).1 x c:=by
 unfold Pi at h ⊢
 split at h
 · rename_i hh
   rw[if_pos hh]
   split at h
   · rename_i k hk
     split at h
     · rename_i hl;simp only[hk,if_pos hl];exact Lj h
     · cases h
   · cases h
 · cases h
theorem Aig(f:Int)(h:RNum a z d)(h0:(Ln f a).2=0) : ∃ x c,RNum (Ln f a).1 x c:=by
 unfold Ln at h0 ⊢
 by_cases h1:f=43
 · simp only[if_pos h1];exact ⟨_,_,h⟩
 simp only[if_neg h1]at h0 ⊢
 by_cases h1:f=45
 · simp only[if_pos h1];exact ⟨_,_,Qc h⟩
 simp only[if_neg h1]at h0 ⊢
 by_cases h1:f=215
 · simp only[if_pos h1];rw[h.top];exact ⟨_,_,Ami h⟩
 simp only[if_neg h1]at h0 ⊢
 by_cases h1:f=247
 · simp only[if_pos h1]at h0 ⊢; exact Lj h0
 simp only[if_neg h1]at h0 ⊢
 by_cases h1:f=8968
 · simp only[if_pos h1];exact ⟨_,_,Qc (R9 (Qc h))⟩
 simp only[if_neg h1]at h0 ⊢
 by_cases h1:f=8970
 · simp only[if_pos h1];exact ⟨_,_,R9 h⟩
 simp only[if_neg h1]at h0 ⊢
 by_cases h1:f=124
 · simp only[if_pos h1];exact ⟨_,_,AcS h⟩
 simp only[if_neg h1]at h0 ⊢
 by_cases h1:f=126
 · simp only[if_pos h1]at h0 ⊢
   split
   · exact ⟨_,_,Qw N4⟩
   · rename_i h2
     rw[if_neg h2]at h0
     split
     · exact ⟨_,_,Qw N4⟩
     · rename_i h3;rw[if_neg h3]at h0;cases h0
 simp only[if_neg h1]at h0 ⊢
 by_cases h1:f=33
 · simp only[if_pos h1]at h0 ⊢; exact AeQ h0
 simp only[if_neg h1]at h0
 cases h0
theorem AdP{f c:Int}(h:(Pd f c).2=0) : ∃ x e,RNum (Pd f c).1 x e:=by
 unfold Pd at h ⊢
 repeat (split;· exact (MP _).elim fun z hz=>⟨z,1,hz⟩)
 simp_all
theorem AnS(f:Int)(h:RNum a z d)(h':RNum b y e)(h0:(Ju f a b).2=0) : ∃ x c,RNum (Ju f a b).1 x c:=by
 unfold Ju at h0 ⊢
 by_cases h1:f=43
 · simp only[if_pos h1]at h0 ⊢; exact Lj h0
 simp only[if_neg h1]at h0 ⊢
 by_cases h1:f=45
 · simp only[if_pos h1]at h0 ⊢; exact Lj h0
 simp only[if_neg h1]at h0 ⊢
 by_cases h1:f=215
 · simp only[if_pos h1]at h0 ⊢; exact Lj h0
 simp only[if_neg h1]at h0 ⊢
 by_cases h1:f=247
 · simp only[if_pos h1]at h0 ⊢; exact Lj h0
 simp only[if_neg h1]at h0 ⊢
 by_cases h1:f=8968
 · simp only[if_pos h1];split <;> exact ⟨_,_,by assumption⟩
 simp only[if_neg h1]at h0 ⊢
 by_cases h1:f=8970
 · simp only[if_pos h1];split <;> exact ⟨_,_,by assumption⟩
 simp only[if_neg h1]at h0 ⊢
 by_cases h1:f=124
 · simp only[if_pos h1]at h0 ⊢; exact AgN h h' h0
 simp only[if_neg h1]at h0 ⊢
 by_cases h1:f=42
 · simp only[if_pos h1]at h0 ⊢
   split
   · rename_i k hk;simp only[hk]at h0;exact AiW h0
   · rename_i hk;simp only[hk]at h0;cases h0
 simp only[if_neg h1]at h0 ⊢
 by_cases h1:f=8743
 · simp only[if_pos h1]at h0 ⊢; exact Ago h h' h0
 simp only[if_neg h1]at h0 ⊢
 by_cases h1:f=8744
 · simp only[if_pos h1]at h0 ⊢
   obtain ⟨x,hx⟩:=HE h h' h0
   exact ⟨_,_,hx⟩
 simp only[if_neg h1]at h0 ⊢
 exact AdP h0
theorem TU(k:Nat)(h:k<B):Bu (Ey k:Nat)≤k+1:=by
 induction k with
 | zero=>show (lb (Int.natAbs (Ey 0:Nat))).length≤1;simp[Ey,N2]
 | succ k ih =>
  have h1:=ih (by omega)
  rw[Ey,Int.natCast_mul]
  have h2:=Jh ((k+1:Nat):Int) (Ey k:Nat)
  have h3:Bu ((k+1:Nat):Int)≤1:=Ss (by rw[Int.natAbs_natCast,Nat.pow_one];exact h)
  omega
end
theorem AgK(p:Int):C_ p 1=if 32<Bu p then (.zero,7) else (Cy p,0):=by
 obtain ⟨z,d,h0,_,h2,_,h4,h5⟩:=Xz p 1 (by decide)
 have hd:d=1:=by
  have:Int.natAbs 1=1:=rfl
  omega
 subst hd
 have hz:z=p:=by simpa using h2
 subst hz
 rw[h5,Pp]
 by_cases h:32<Bu z
 · rw[if_pos (.inl h),if_pos h]
 · rw[if_neg (by rw[N2];simp;omega),if_neg h]
section
variable {a b:Num} {z y:Int} {d e:Nat}
theorem Aj6(h:RNum a z d) : ∃ w:Wh,Sp 307 [dN a] [dW w,.bool (decide (a.bot = [1]))]:=by
 by_cases hb:a.bot = [1]
 · refine ⟨wz (Bs a),Af 0 (YK _ _) (Aa (Lo a.bot) ?_)⟩
   rw[decide_eq_true hb]
   exact Ej rfl (Aa (F4 a) (Aa (DM ⟨a.neg,a.top⟩ (by have:=h.len;show a.top.length≤_;omega)) (Ac rfl)))
 · refine ⟨⟨false,[]⟩,Af 0 (YK _ _) (Aa (Lo a.bot) ?_)⟩
   rw[decide_eq_false hb]
   exact Bo rfl (Ac rfl)
theorem Abn{x:Int} : E6 x<0↔x<0:=by unfold E6;by_cases h1:x<0 <;> by_cases h2:x=0 <;> simp[h1,h2]
theorem AeP(k:Nat)(hk:0<k):((Ey (k-1):Nat):Int)*(k:Int)=((Ey k:Nat):Int):=by
 obtain ⟨j,rfl⟩ : ∃ j,k=j+1:=⟨k-1,by omega⟩
 rw[Nat.add_sub_cancel,Ey,Int.natCast_mul,Int.mul_comm]
theorem AlX(h:RNum a z d):Sp 264 [dN a] (Du (Pi a)):=by
 obtain ⟨w,hi⟩:=Aj6 h
 obtain ⟨l1,l2⟩:=h.len
 refine Af 300 (AlY _ _) (Aa hi ?_)
 simp only[C1,Ba,E0,Jb]
 unfold Pi
 refine Ae (fun h1=>Ac ?_) (fun h1=>Aa (Zt h.sm) ?_)
 · rw[if_neg (fun hh=>h1 hh.1)];rfl
 have hb:=Apm.1 h1
 simp only[Ah,Ao]
 refine Ae (fun h2=>Ac ?_) (fun h2=>Aa (Zu a (by omega)) ?_)
 · have:a.neg=true:=by rw[h.sgn];exact decide_eq_true (by rw[← h.top];exact Abn.1 h2)
   rw[if_neg (fun hh=>by rw[this]at hh;cases hh.2)];rfl
 have hn:a.neg=false:=by rw[h.sgn];exact decide_eq_false (fun hh=>h2 (Abn.2 (by rw[h.top];exact hh)))
 rw[if_pos ⟨hb,hn⟩]
 cases hs:Dw a with
 | none=>exact Bo rfl (Ac rfl)
 | some k =>
   obtain ⟨rfl,rfl,hr⟩:=AmW h hs
   have hk0:0≤k:=by have:=h.sgn;rw[hn]at this;have:=of_decide_eq_false this.symm;omega
   refine Ej rfl ?_
   simp only[Mr,Ah,Ao]
   refine Ae (fun h3=>Ac ?_) (fun h3=>Aa (Ut 1 (by unfold Bd;omega)) ?_)
   · rw[if_neg (by omega)];rfl
   rw[if_pos (by omega)]
   obtain ⟨K,rfl⟩:=Int.eq_ofNat_of_zero_le hk0
   have hK:K≤200:=by omega
   simp only[Ah,Apj]
   have key:=Dl (max (K+1) 2) (fun m k (_:Unit)=>BM 300 m (K:Int) (k:Int) false (dW (wz ((Ey (k-1):Nat):Int)))) (fun _ _=>Du (C_ (Ey K:Nat) 1)) (fun k _=>2≤k)
    (fun m _ _=>by
     have hf:Ey (max (K+1) 2-1)=Ey K:=by
       rcases (by omega:K=0∨1≤K) with h0 | h0
       · subst h0;rfl
       · rw[show max (K+1) 2-1=K by omega]
     have hl:=TU K (by rw[A5];omega)
     simp only[Abd,hf,Fl,B3,Apd,Jb]
     rw[AgK]
     refine At (Ae (fun h4=>Ac ?_) (fun h4=> ?_))
     · rw[if_pos (by have:=F6 ((Ey K:Nat):Int);omega)];rfl
     · have hw:=F6 ((Ey K:Nat):Int)
       have wh:=Zv (wz ((Ey K:Nat):Int)) (by omega)
       rw[De]at wh
       have e1:Nc ((Ey K:Nat):Int)=Cy ((Ey K:Nat):Int):=by unfold Nc;rw[if_neg (by show ¬ 32<Bu _;omega)]
       rw[e1]at wh
       rw[if_neg (by omega)]
       exact Aa wh (Ac rfl))
    (fun m k _ hkK hk2 ih=>by
     have hkK':k≤K:=by omega
     simp only[Abd]
     rw[Fh (by omega)]
     have l1:=TU (k-1) (by rw[A5];omega)
     have l2:Bu (k:Int)≤1:=Ss (by rw[Int.natAbs_natCast,Nat.pow_one,A5];omega)
     have ml:=I5 (wz ((Ey (k-1):Nat):Int)) (wz (k:Int)) (by rw[F6];omega) (by rw[F6];omega)
     rw[De,De,AeP k (by omega)]at ml
     have:=ih () (by omega)
     rw[Nat.add_sub_cancel]at this
     exact Ad (Aa (Ut (k:Int) (by unfold Bd;omega)) (Aa ml this)))
    300 2 () (by omega) (by omega) (by omega)
   exact key
theorem AfC(x:Int):Bd (E6 x):=by unfold E6 Bd;split;omega;split <;> omega
theorem AlM(f:Int)(h:RNum a z d):Sp 221 [.int f,dN a] (Du (Ln f a)):=by
 obtain ⟨l1,l2⟩:=h.len
 have o1:=Qw (z:=1) N4
 refine Af 0 (AlN _ _ _) ?_
 simp only[Ao,Cn,Jb]
 unfold Ln
 refine Ae (fun h1=>Aa (Rk a (by omega) (by omega)) (Ac ?_)) (fun h1=> ?_)
 · rw[if_pos h1];simp[Du]
 rw[if_neg h1]
 refine Ae (fun h1=>Aa (Zs h) (Ac ?_)) (fun h1=> ?_)
 · rw[if_pos h1];rfl
 rw[if_neg h1]
 refine Ae (fun h1=>Aa (Zt h.sm) (Aa (Mv _ (AfC _)) (Ac ?_))) (fun h1=> ?_)
 · rw[if_pos h1];rfl
 rw[if_neg h1]
 refine Ae (fun h1=>Aa (Mv 1 (by unfold Bd;omega)) (Aa (Zq o1.sm h.sm) (Ac ?_))) (fun h1=> ?_)
 · rw[if_pos h1];rfl
 rw[if_neg h1]
 refine Ae (fun h1=>Aa (Aj0 h) (Ac ?_)) (fun h1=> ?_)
 · rw[if_pos h1];rfl
 rw[if_neg h1]
 refine Ae (fun h1=>Aa (KJ h) (Ac ?_)) (fun h1=> ?_)
 · rw[if_pos h1];rfl
 rw[if_neg h1]
 refine Ae (fun h1=>Aa (Ajx h) (Ac ?_)) (fun h1=> ?_)
 · rw[if_pos h1];rfl
 rw[if_neg h1]
 refine Ae (fun h1=>Aa (Zu a (by omega)) ?_) (fun h1=> ?_)
 · rw[if_pos h1]
   cases hs:Dw a with
   | none=>exact Bo rfl (Ac rfl)
   | some k =>
    refine Ej rfl ?_
    simp only[Mr,Ah,Ao,Dg,Apk]
    refine Ae (fun h2=>Ae (fun h3=>Ac ?_) (fun h3=> ?_)) (fun h2=> ?_)
    · rw[if_neg h2,if_neg h3];rfl
    · obtain rfl:=Apm.1 h3
      exact Aa (Mv _ (by unfold Bd;decide)) (Ac rfl)
    · obtain rfl:=Apm.1 h2
      exact Aa (Mv _ (by unfold Bd;decide)) (Ac rfl)
 rw[if_neg h1]
 refine Ae (fun h1=>Aa (AlX h) (Ac ?_)) (fun h1=>Ac ?_)
 · rw[if_pos h1];rfl
 · rw[if_neg h1];rfl
theorem AlU(f:Int)(h:RNum a z d)(h':RNum b y e):Sp 284 [.int f,dN a,dN b] (Du (Pd f (Hn a b))):=by
 refine Af 0 (AlV _ _ _ _) (Aa (Zp h.sm h'.sm) ?_)
 simp only[Ah,Ao,Cn,Dg,Jb]
 unfold Pd
 refine Ae (fun h1=>Aa (Kq _) (Ac ?_)) (fun h1=> ?_)
 · rw[if_pos h1];rfl
 rw[if_neg h1]
 refine Ae (fun h1=>Aa (Kq _) (Ac ?_)) (fun h1=> ?_)
 · rw[if_pos h1];rfl
 rw[if_neg h1]
 refine Ae (fun h1=>Aa (Kq _) (Ac ?_)) (fun h1=> ?_)
 · rw[if_pos h1];rfl
 rw[if_neg h1]
 refine Ae (fun h1=>Aa (Kq _) (Ac ?_)) (fun h1=> ?_)
 · rw[if_pos h1];rfl
 rw[if_neg h1]
 refine Ae (fun h1=>Aa (Kq _) (Ac ?_)) (fun h1=> ?_)
 · rw[if_pos h1];rfl
 rw[if_neg h1]
 refine Ae (fun h1=>Aa (Kq _) (Ac ?_)) (fun h1=>Ac ?_)
 · rw[if_pos h1];rfl
 · rw[if_neg h1];rfl
def AcN(f:Int)(b:Num):Prop:=f=42→∀ k,Dw b=some k→ -300≤k∧k≤300
theorem AlO(f:Int)(h:RNum a z d)(h':RNum b y e)(hp:AcN f b):Sp 236 [.int f,dN a,dN b] (Du (Ju f a b)):=by
 obtain ⟨l1,l2⟩:=h.len
 obtain ⟨l3,l4⟩:=h'.len
 refine Af 0 (AlQ _ _ _ _) ?_
 simp only[Ao,Cn,Jb]
 unfold Ju
 refine Ae (fun h1=>Aa (YI h.sm h'.sm) (Ac ?_)) (fun h1=> ?_)
 · rw[if_pos h1];rfl
 rw[if_neg h1]
 refine Ae (fun h1=>Aa (YM h.sm h') (Ac ?_)) (fun h1=> ?_)
 · rw[if_pos h1];rfl
 rw[if_neg h1]
 refine Ae (fun h1=>Aa (KK h.sm h'.sm) (Ac ?_)) (fun h1=> ?_)
 · rw[if_pos h1];rfl
 rw[if_neg h1]
 refine Ae (fun h1=>Aa (Zq h.sm h'.sm) (Ac ?_)) (fun h1=> ?_)
 · rw[if_pos h1];rfl
 rw[if_neg h1]
 refine Ae (fun h1=>A0 h1 (Aa (Zp h.sm h'.sm) ?_)) (fun h1=> ?_)
 · rw[if_pos h1,decide_eq_true h1]
   simp only[Ah,Ao]
   by_cases hc:Hn a b<0
   · rw[if_pos hc]
     exact Bo (beq_iff_eq.2 (decide_eq_true hc)) (Aa (Rk b (by omega) (by omega)) (Ac (by simp[Du])))
   · rw[if_neg hc]
     exact Ej (beq_eq_false_iff_ne.2 (fun hh=>hc (of_decide_eq_true hh))) (Aa (Rk a (by omega) (by omega)) (Ac (by simp[Du])))
 rw[if_neg h1,decide_eq_false h1]
 refine Ae (fun h1=>Aa (Zp h.sm h'.sm) ?_) (fun h1=> ?_)
 · rw[if_pos h1]
   simp only[Ah,Ao]
   by_cases hc:Hn a b<0
   · rw[if_pos hc]
     exact Ej (beq_eq_false_iff_ne.2 (fun hh=>of_decide_eq_false hh hc)) (Aa (Rk a (by omega) (by omega)) (Ac (by simp[Du])))
   · rw[if_neg hc]
     exact Bo (beq_iff_eq.2 (decide_eq_false hc)) (Aa (Rk b (by omega) (by omega)) (Ac (by simp[Du])))
 rw[if_neg h1]
 refine Ae (fun h1=>Aa (Aj_ h h') (Ac ?_)) (fun h1=> ?_)
 · rw[if_pos h1];rfl
 rw[if_neg h1]
 refine Ae (fun h1=>Aa (Zu b (by omega)) ?_) (fun h1=> ?_)
 · rw[if_pos h1]
   cases hs:Dw b with
   | none=>exact Bo rfl (Ac rfl)
   | some k =>
     have:=hp h1 k hs
     exact Ej rfl (Aa (AjE h k (by omega)) (Ac rfl))
 rw[if_neg h1]
 refine Ae (fun h1=>Aa (Aj7 h h') (Ac ?_)) (fun h1=> ?_)
 · rw[if_pos h1];rfl
 rw[if_neg h1]
 refine Ae (fun h1=>Aa (YJ h h') (Ac ?_)) (fun h1=>Aa (AlU f h h') (Ac ?_))
 · rw[if_pos h1];rfl
 · rw[if_neg h1];rfl
end
theorem Kp{d:Nat}{c:Cell}(h:Bi d c=true):(c.kind=0∧c.c=0∧c.inn = []∧Et c.n=true)∨(c.kind=1∧c.n = .zero∧c.inn = [])∨(c.kind=2∧c.n = .zero∧c.c=0∧∃ x e,d=e+1∧c.inn = [x]∧B9 x=false∧Aj e x=true):=by
 have h2:=Tt h
 have key : ∀ k r,C7 k r c=true→(c.kind=0∧c.c=0∧c.inn = []∧Et c.n=true)∨(c.kind=1∧c.n = .zero∧c.inn = [])∨(c.kind=2∧c.n = .zero∧c.c=0∧∃ x,x∈c.inn):=by
   intro k r hh
   unfold C7 at hh
   split at hh
   · rename_i hk
     simp only[Api,decide_eq_true_eq]at hh
     exact .inl ⟨hk,hh.1.1,Ap2.1 hh.1.2,hh.2⟩
   split at hh
   · rename_i hk
     simp only[Api,decide_eq_true_eq]at hh
     exact .inr (.inl ⟨hk,hh.1.1,Ap2.1 hh.1.2⟩)
   · simp only[Api,decide_eq_true_eq]at hh
     obtain ⟨h3,h4,h5⟩:=hh
     refine .inr (.inr ⟨h3.1,h3.2.1,h3.2.2,?_⟩)
     unfold I_ at h5
     split at h5
     · rename_i y hy;exact ⟨y,by rw[hy];simp⟩
     · cases h5
 have:(c.kind=0∧c.c=0∧c.inn = []∧Et c.n=true)∨(c.kind=1∧c.n = .zero∧c.inn = [])∨(c.kind=2∧c.n = .zero∧c.c=0∧∃ x,x∈c.inn):=by
   cases d with
   | zero=>exact key _ _ h
   | succ d=>exact key _ _ h
 rcases this with h3 | h3 | ⟨h3,h4,h5,x,hx⟩
 · exact .inl h3
 · exact .inr (.inl h3)
 · obtain ⟨e,he,hs,hr,hi,_⟩:=h2 x hx
   exact .inr (.inr ⟨h3,h4,h5,x,e,he,hi,hs,hr⟩)
theorem Tv{d:Nat}{l:Al}{n:Num}(h:Et n=true):Bi d ⟨l,0,n,0,[]⟩=true:=by
 have key : ∀ k r,C7 k r ⟨l,0,n,0,[]⟩=true:=fun k r=>by unfold C7;simp[h]
 cases d with
 | zero=>exact key _ _
 | succ d=>exact key _ _
theorem Aa8{d:Nat}{l:Al}{x:Arr}(h1:B9 x=false)(h2:Aj d x=true):Bi (d+1) ⟨l,2,.zero,0,[x]⟩=true:=by
 show C7 true (Aj d) _=true
 unfold C7 I_
 simp[h1,h2]
mutual
def Cq(f:Int):Arr→Arr×Int
 | .mk s sh cs=>if f∈S7 then (if (Da f cs).2=0 then (.mk s sh (Da f cs).1,0) else (.none,(Da f cs).2)) else (.none,8)
def Da(f:Int):List (CellF Arr)→List (CellF Arr)×Int
 | []=>([],0)
 | c::cs=>if (D9 f c).2=0 then (if (Da f cs).2=0 then ((D9 f c).1::(Da f cs).1,0) else ([],(Da f cs).2)) else ([],(D9 f c).2)
def D9(f:Int):CellF Arr→CellF Arr×Int
 | ⟨l,k,n,c,inn⟩=>if k=0 then (⟨l,0,(Ln f n).1,0,[]⟩,(Ln f n).2) else if k=2 then (⟨l,2,.zero,0,[(Nb f inn).1]⟩,(Nb f inn).2) else (Cell.none,3)
def Nb(f:Int):List Arr→Arr×Int
 | []=>(.none,0)
 | a::_=>Cq f a
end
theorem DH(f:Int)(a:Arr):Cq f a=if f∈S7 then (if (Da f a.cells).2=0 then (.mk a.s a.shape (Da f a.cells).1,0) else (.none,(Da f a.cells).2)) else (.none,8):=by cases a;rw[Cq];rfl
theorem Ou(f:Int)(c:Cell):D9 f c=if c.kind=0 then (⟨c.l,0,(Ln f c.n).1,0,[]⟩,(Ln f c.n).2) else if c.kind=2 then (⟨c.l,2,.zero,0,[(Nb f c.inn).1]⟩,(Nb f c.inn).2) else (Cell.none,3):=by cases c;rw[D9]
def Lm(s:Al)(sh:List Int)(pre:List Cell)(r:List Cell×Int):List D:=if r.2=0 then [dA (.mk s sh (pre++r.1)),.int 0] else [dA .none,.int r.2]
theorem Aie{s:Al}{sh:List Int}{pre:List Cell}{f:Int}{c:Cell}{cs:List Cell}(h:(D9 f c).2=0):Lm s sh pre (Da f (c::cs))=Lm s sh (pre++[(D9 f c).1]) (Da f cs):=by
 rw[Da,if_pos h]
 unfold Lm
 by_cases h2:(Da f cs).2=0
 · rw[if_pos h2];simp[h2]
 · rw[if_neg h2];simp[h2]
theorem Aif{s:Al}{sh:List Int}{pre:List Cell}{f:Int}{c:Cell}{cs:List Cell}(h : ¬ (D9 f c).2=0):Lm s sh pre (Da f (c::cs)) = [dA .none,.int (D9 f c).2]:=by
 rw[Da,if_neg h]
 unfold Lm
 rw[if_neg h]
theorem Aoa(f:Int)(a:Arr)(hf:f∈S7) : [dA (Cq f a).1,D.int (Cq f a).2]=Lm a.s a.shape [] (Da f a.cells):=by
 rw[DH,if_pos hf]
 unfold Lm
 split <;> rfl
theorem Abe(c:Cell)(x:Arr)(h:c.inn = [x]):Sp 222 [dC c] [dA x]:=by
 refine Af 0 (AlZ _ _) ?_
 simp only[Ai,h,Ap7,List.map_nil,Apg,Apv]
 exact At (Ad (Ad (Ac rfl)))
theorem Ama(f:Int)(d:Nat)(c:Cell)(h:Bi d c=true)(ih : ∀ e x,d=e+1→Aj e x=true→Sp 70 [.int f,dA x] [dA (Cq f x).1,.int (Cq f x).2]):Sp 159 [.int f,dC c] [dC (D9 f c).1,.int (D9 f c).2]:=by
 refine Af 0 (Amb _ _ _) ?_
 simp only[Ai]
 rw[Ou]
 rcases Kp h with ⟨h1,h2,h3,h4⟩ | ⟨h1,h2,h3⟩ | ⟨h1,h2,h3,x,e,h4,h5,h6,h7⟩
 · obtain ⟨z,q,hr⟩:=Lr h4
   refine A0 h1 (Aa (AlM f hr) (Ac ?_))
   rw[if_pos h1,Ec];rfl
 · refine At (At (Ac ?_))
   rw[if_neg (by omega),if_neg (by omega),Ec];rfl
 · refine At (A0 h1 (Aa (Abe c x h5) (Aa (ih e x h4 h7) (Ac ?_))))
   rw[if_neg (by omega),if_pos h1,h5,Nb,Ec];rfl
theorem AlR(f:Int) : ∀ (d:Nat) (a:Arr),Aj d a=true→Sp 70 [.int f,dA a] [dA (Cq f a).1,.int (Cq f a).2]:=by
 suffices key : ∀ (d:Nat) (a:Arr),(∀ e x,d=e+1→Aj e x=true→Sp 70 [.int f,dA x] [dA (Cq f x).1,.int (Cq f x).2])→Aj d a=true→Sp 70 [.int f,dA a] [dA (Cq f a).1,.int (Cq f a).2] by
  intro d
  induction d with
  | zero=>intro a;exact key 0 a (fun e x he=>by omega)
  | succ d ihd=>intro a;exact key (d+1) a (fun e x he=>by
      have:e=d:=by omega
      subst this;exact ihd x)
 intro d a ih hr
 have hs:=Cf hr
 have hl:=hs.2.1
 have hcs:=(Ce hr).2
 refine Af (a.cells.length+1) (AlS _ _ _) (Aa (AlI f) ?_)
 simp only[Ai,C8,Hq]
 refine Ae (fun h=>Ac ?_) (fun h=>Aa (J3 a.shape hs.1) ?_)
 · rw[DH,if_neg h]
 rw[Aoa f a (Apm.1 h)]
 simp only[Ai]
 refine Ad (Ad (A0 (by simp only[Am];omega) ?_))
 have key:=Ca a.cells (fun m k (pre:List Cell)=>BJ (a.cells.length+1) m f (.sl (a.cells.map dC)) (a.cells.length:Int) (k:Int) 0 (a.s.toNat:Int) (a.shape.map .int) (pre.map dC++Apc (a.cells.length-k) (dC Cell.none))) (fun rest pre=>Lm a.s a.shape pre (Da f rest)) (fun rest pre=>pre.length+rest.length=a.cells.length)
  (fun m k pre hk hI=>by
   simp only[AaY,Ai]
   refine At (Ac ?_)
   rw[hk,Nat.sub_self,List.replicate_zero,Apx,Da]
   unfold Lm
   rw[if_pos rfl,D5]
   simp[dI])
  (fun m k pre c rest hdr hI ih'=>by
   obtain ⟨h1,h2,h3⟩:=B6 hdr
   have hpk:pre.length=k:=by
     have:=congrArg Aql hdr
     simp only[App,Apg]at this hI
     omega
   have hlen:(pre.map dC++Apc (a.cells.length-k) (dC Cell.none)).length=a.cells.length:=by simp;omega
   simp only[AaY,Ai,Aw h2,hlen,Bh k]
   refine Ad (Ad (Ad (Aa (Ama f d c (hcs c (Aph h2)) ih) ?_)))
   simp only[Ah,C1,Ao,Dg,C8]
   refine Ae (fun he=>Ac ?_) (fun he=>Ad (Ad ?_))
   · rw[Aif he]
   · have he':=Apm.1 he
     rw[Aie he',show a.cells.length-k=(a.cells.length-(k+1))+1 by omega,← hpk,M6,hpk]
     exact ih' (pre++[(D9 f c).1]) (by simp only[Apn,Apg,Apv]at hI ⊢; omega))
  (a.cells.length+1) 0 [] (by omega) (by omega) (by simp)
 simpa using key
theorem MZ{f:Int} : ∀ {cs:List Cell},(Da f cs).2=0→(Da f cs).1.length=cs.length
 | [],_=>by simp[Da]
 | c::cs,h=>by
  rw[Da]at h ⊢
  split at h
  · rename_i h1
    rw[if_pos h1]
    split at h
    · rename_i h2;rw[if_pos h2];simp[MZ h2]
    · rename_i h2;exact absurd h h2
  · rename_i h1;exact absurd h h1
theorem NA{f:Int} : ∀ {cs:List Cell},(Da f cs).2=0→∀ y∈(Da f cs).1,∃ c∈cs,(D9 f c).2=0∧y=(D9 f c).1
 | [],_,y,hy=>by rw[Da]at hy;cases hy
 | c::cs,h,y,hy=>by
  rw[Da]at h hy
  split at h
  · rename_i h1
    rw[if_pos h1]at hy
    split at h
    · rename_i h2
      rw[if_pos h2]at hy
      rcases Apt.1 hy with rfl | hy
      · exact ⟨c,by simp,h1,rfl⟩
      · obtain ⟨c',g1,g2⟩:=NA h2 y hy
        exact ⟨c',by simp[g1],g2⟩
    · rename_i h2;exact absurd h h2
  · rename_i h1;exact absurd h h1
theorem BX(a:Arr):B9 a=true↔a.shape = []∧∃ c,a.cells = [c]∧¬ c.kind=2:=by
 unfold B9
 split
 · rename_i c h1 h2
   rw[decide_eq_true_eq]
   exact ⟨fun h=>⟨h1,c,h2,h⟩,fun ⟨_,c',h3,h4⟩=>by rw[h2]at h3;simp at h3;subst h3;exact h4⟩
 · rename_i hne
   exact ⟨fun h=>(by cases h),fun ⟨h1,c,h2,_⟩=>absurd h2 (hne c h1)⟩
theorem Aoc(f:Int) : ∀ (d:Nat) (a:Arr),Aj d a=true→(Cq f a).2=0→Aj d (Cq f a).1=true∧(B9 a=false→B9 (Cq f a).1=false):=by
 suffices key : ∀ (d:Nat) (a:Arr),(∀ e x,d=e+1→Aj e x=true→(Cq f x).2=0→Aj e (Cq f x).1=true∧(B9 x=false→B9 (Cq f x).1=false))→Aj d a=true→(Cq f a).2=0→Aj d (Cq f a).1=true∧(B9 a=false→B9 (Cq f a).1=false) by
   intro d
   induction d with
   | zero=>intro a;exact key 0 a (fun e x he=>by omega)
   | succ d ihd=>intro a;exact key (d+1) a (fun e x he=>by
             have:e=d:=by omega
             subst this;exact ihd x)
 intro d a ih hr h0
 obtain ⟨hc,hcs⟩:=Ce hr
 rw[DH]at h0 ⊢
 split at h0
 · rename_i h1
   rw[if_pos h1]
   split at h0
   · rename_i h2
     rw[if_pos h2]
     refine ⟨H4 (by simp only[Arr.shape_mk,Arr.cells_mk,MZ h2];exact hc) (fun y hy=> ?_),fun hns=> ?_⟩
     · obtain ⟨c,g1,g2,rfl⟩:=NA h2 y hy
       rw[Ou]at g2 ⊢
       rcases Kp (hcs c g1) with ⟨k1,k2,k3,k4⟩ | ⟨k1,k2,k3⟩ | ⟨k1,k2,k3,x,e,k4,k5,k6,k7⟩
       · rw[if_pos k1]at g2 ⊢
         obtain ⟨z,q,hrn⟩:=Lr k4
         obtain ⟨z',q',hrn'⟩:=Aig f hrn g2
         exact Tv hrn'.right
       · rw[if_neg (by omega),if_neg (by omega)]at g2;cases g2
       · rw[if_neg (by omega),if_pos k1,k5,Nb]at g2 ⊢
         obtain ⟨r1,r2⟩:=ih e x k4 k7 g2
         subst k4
         exact Aa8 (r2 k6) r1
     · cases hq:B9 (Arr.mk a.s a.shape (Da f a.cells).1) with
       | false=>rfl
       | true =>
         exfalso
         obtain ⟨q1,c',q2,q3⟩:=(BX _).1 hq
         simp only[Arr.shape_mk,Arr.cells_mk]at q1 q2
         obtain ⟨c,hcc⟩:=Is (l:=a.cells) (by rw[← MZ h2,q2];rfl)
         obtain ⟨c2,m1,m2,m3⟩:=NA h2 c' (by rw[q2];simp)
         rw[hcc]at m1
         have:c2=c:=by simpa using m1
         subst this
         have hk:c2.kind=2:=by
          rcases Decidable.em (c2.kind=2) with hh | hh
          · exact hh
          · have:=(BX a).2 ⟨q1,c2,hcc,hh⟩
            rw[hns]at this;cases this
         apply q3
         rw[m3,Ou,if_neg (by omega),if_pos hk]
   · rename_i h2;exact absurd h0 h2
 · cases h0
def Dv(a b:Arr):List Int×Int:=if a.shape = [] then (b.shape,0) else if b.shape = [] then (a.shape,0) else if a.shape.length≠b.shape.length then ([],5) else if a.shape=b.shape then (a.shape,0) else ([],4)
theorem AlG{d e:Nat}(a b:Arr)(ha:Sml d a)(hb:Sml e b):Sp 193 [dA a,dA b] [dI (Dv a b).1,.int (Dv a b).2]:=by
 obtain ⟨d,rfl⟩:=ha.succ
 obtain ⟨e,rfl⟩:=hb.succ
 have h1:=ha.1
 have h2:=hb.1
 refine Af 0 (AlH _ _ _) ?_
 simp only[Ai]
 unfold Dv
 refine Ae (fun h=>Aa (J3 b.shape h2) (Ac ?_)) (fun h=>Ae (fun h'=>Aa (J3 a.shape h1) (Ac ?_)) (fun h'=>Ae (fun h3=>Ac ?_) (fun h3=>Aa (Ab2 a.shape b.shape (by omega)) ?_)))
 · rw[if_pos (Ap2.1 (by omega))];rfl
 · rw[if_neg (fun hh=>h (by rw[hh];rfl)),if_pos (Ap2.1 (by omega))];rfl
 · rw[if_neg (fun hh=>h (by rw[hh];rfl)),if_neg (fun hh=>h' (by rw[hh];rfl)),if_pos (by omega)];rfl
 · rw[if_neg (fun hh=>h (by rw[hh];rfl)),if_neg (fun hh=>h' (by rw[hh];rfl)),if_neg (by omega)]
   simp only[Ah,Ba,E0]
   refine Ae (fun h4=>Ac ?_) (fun h4=>Aa (J3 a.shape h1) (Ac ?_))
   · rw[if_neg h4];rfl
   · rw[if_pos (Apm.1 h4)];rfl
def Cw(a:Arr)(i:Int):Cell:=if (if a.shape = [] then 0 else i)<0∨(a.cells.length:Int)≤(if a.shape = [] then 0 else i) then Cell.none else a.cells.getD (if a.shape = [] then 0 else i).toNat Cell.none
theorem RX{l:List Cell}{i:Nat}(h:i<l.length):(l.map dC).getD i D.nil=dC (l.getD i Cell.none):=by
 rw[Aw (Apb h),Ape,Apb h];rfl
theorem Abf(a:Arr)(i:Int):Sp 195 [dA a,.int i] [dC (Cw a i)]:=by
 refine Af 0 (Amc _ _ _) ?_
 simp only[Ai,Hq]
 unfold Cw
 refine Ae (fun h=> ?_) (fun h=> ?_)
 · simp only[if_pos (Ap2.1 (show a.shape.length=0 by omega))]
   refine At (Ae (fun h2=>Ac ?_) (fun h2=>Ad (Ad (Ac ?_))))
   · rw[if_pos (.inr h2)]
   · rw[if_neg (by omega),show Apa 0=0 from rfl,RX (by omega)]
 · simp only[if_neg (fun hh:a.shape = []=>h (by rw[hh];rfl))]
   refine Ae (fun h1=>Ac ?_) (fun h1=>Ae (fun h2=>Ac ?_) (fun h2=>Ad (Ad (Ac ?_))))
   · rw[if_pos (.inl h1)]
   · rw[if_pos (.inr h2)]
   · rw[if_neg (by omega),RX (by omega)]
def E8(c:Cell):Arr:=if c.kind=2 then c.inn.headD .none else .mk 0 [] [⟨0,c.kind,c.n,c.c,c.inn⟩]
def Dz(r:Arr→Arr→Arr×Int)(f:Int)(x y:Cell):Cell×Int :=
 if x.kind=2∨y.kind=2 then (⟨x.l|||y.l,2,.zero,0,[(r (E8 x) (E8 y)).1]⟩,(r (E8 x) (E8 y)).2)
 else if x.kind=0∧y.kind=0 then (⟨x.l|||y.l,0,(Ju f x.n y.n).1,0,[]⟩,(Ju f x.n y.n).2)
 else if f=61 then (⟨x.l|||y.l,0,Gy (decide (x.kind=y.kind∧x.c=y.c)),0,[]⟩,0)
 else if f=8800 then (⟨x.l|||y.l,0,Gy (decide (¬ (x.kind=y.kind∧x.c=y.c))),0,[]⟩,0)
 else (⟨x.l|||y.l,0,.zero,0,[]⟩,3)
def Dd(g:Nat→Cell×Int):Nat→Nat→List Cell×Int
 | 0,_=>([],0)
 | m+1,k=>if (g k).2=0 then (if (Dd g m (k+1)).2=0 then ((g k).1::(Dd g m (k+1)).1,0) else ([],(Dd g m (k+1)).2)) else ([],(g k).2)
def C3(a b:Arr):Nat:=if a.shape = [] then b.cells.length else a.cells.length
def Fg(r:Arr→Arr→Arr×Int)(f:Int)(a b:Arr):Arr×Int :=
 if f∈Um then (if (Dv a b).2=0 then (if (Dd (fun i=>Dz r f (Cw a i) (Cw b i)) (C3 a b) 0).2=0 then (.mk (a.s|||b.s) (Dv a b).1 (Dd (fun i=>Dz r f (Cw a i) (Cw b i)) (C3 a b) 0).1,0) else (.none,(Dd (fun i=>Dz r f (Cw a i) (Cw b i)) (C3 a b) 0).2)) else (.none,(Dv a b).2)) else (.none,8)
def Jt:Nat→Int→Arr→Arr→Arr×Int
 | 0,f=>Fg (fun _ _=>(.none,0)) f
 | d+1,f=>Fg (Jt d f) f
inductive ExpOk:Arr→Prop where
 | mk {s:Al} {sh:List Int} {cs:List Cell} (h : ∀ c∈cs,∀ k,Dw c.n=some k→ -300≤k∧k≤300) (h2 : ∀ c∈cs,∀ x∈c.inn,ExpOk x):ExpOk (.mk s sh cs)
theorem ExpOk.cell {a:Arr} (h:ExpOk a) : ∀ c∈a.cells,(∀ k,Dw c.n=some k→ -300≤k∧k≤300)∧∀ x∈c.inn,ExpOk x:=by cases h with | mk h h2=>exact fun c hc=>⟨h c hc,h2 c hc⟩
def L9(c:Cell):Prop:=(∀ k,Dw c.n=some k→ -300≤k∧k≤300)∧∀ x∈c.inn,ExpOk x
theorem Mb{d:Nat}{c:Cell}(h:Bi (d+1) c=true):Aj d (E8 c)=true∧Sml (d+1) (E8 c)∧(c.kind=2→B9 (E8 c)=false)∧(¬ c.kind=2→(E8 c).shape = []):=by
 have key:Aj d (E8 c)=true∧(c.kind=2→B9 (E8 c)=false)∧(¬ c.kind=2→(E8 c).shape = []):=by
  unfold E8
  rcases Kp h with ⟨h1,h2,h3,h4⟩ | ⟨h1,h2,h3⟩ | ⟨h1,h2,h3,x,e,h4,h5,h6,h7⟩
  · rw[if_neg (by omega)]
    refine ⟨H4 (by simp;decide) (fun y hy=> ?_),fun hh=>by omega,fun _=>rfl⟩
    have:y=⟨0,c.kind,c.n,c.c,c.inn⟩:=by simpa using hy
    subst this
    rw[h1,h2,h3]
    exact Tv h4
  · rw[if_neg (by omega)]
    refine ⟨H4 (by simp;decide) (fun y hy=> ?_),fun hh=>by omega,fun _=>rfl⟩
    have:y=⟨0,c.kind,c.n,c.c,c.inn⟩:=by simpa using hy
    subst this
    have k1:C7 true (Aj d) c=true:=h
    have key2 : ∀ k r,C7 k r ⟨0,c.kind,c.n,c.c,c.inn⟩=true:=fun k r=>by
     unfold C7 at k1 ⊢
     simp only[h1]at k1 ⊢
     simpa using k1
    cases d with
    | zero=>exact key2 _ _
    | succ d=>exact key2 _ _
  · rw[if_pos h1,h5]
    have:e=d:=by omega
    subst this
    exact ⟨h7,fun _=>h6,fun hh=>absurd h1 hh⟩
 exact ⟨key.1,Cf key.1,key.2⟩
theorem AdW{c:Cell}(h:L9 c)(hi:c.kind=2→∃ x,c.inn = [x]):ExpOk (E8 c):=by
 unfold E8
 split
 · rename_i hk
   obtain ⟨x,hx⟩:=hi hk
   rw[hx];exact h.2 x (by rw[hx];simp)
 · have one : ∀ y∈[(⟨0,c.kind,c.n,c.c,c.inn⟩:Cell)],L9 y:=fun y hy=>by
    have:y=⟨0,c.kind,c.n,c.c,c.inn⟩:=by simpa using hy
    subst this
    exact h
   exact .mk (fun y hy=>(one y hy).1) (fun y hy=>(one y hy).2)
theorem LH{d:Nat}{a:Arr}(h:Aj d a=true)(hs:a.shape = []) : ∃ c,a.cells = [c]:=by
 have:=(Ce h).1
 rw[hs,show A7 []=(1,0) by decide]at this
 have e:=congrArg Prod.fst this
 simp only at e
 exact Is (by omega)
theorem Zh{d:Nat}{a b:Arr}(ha:Aj d a=true)(hb:Aj d b=true)(hc:(Dv a b).2=0){i:Nat}(hi:i<C3 a b):Cw a i∈a.cells∧Cw b i∈b.cells:=by
 have mem : ∀ (l:List Cell) (j:Nat),j<l.length→l.getD j Cell.none∈l:=fun l j hj=>by
   rw[Ape,Apb hj];exact Aqc hj
 have one : ∀ (x:Arr),Aj d x=true→x.shape = []→∀ j:Int,Cw x j∈x.cells:=fun x hx hs j=>by
   obtain ⟨c,hcc⟩:=LH hx hs
   unfold Cw
   rw[if_pos hs,if_neg (by rw[hcc];simp)]
   exact mem _ _ (by rw[hcc];simp)
 have many : ∀ (x:Arr),¬ x.shape = []→∀ j:Nat,j<x.cells.length→Cw x (j:Int)∈x.cells:=fun x hs j hj=>by
   unfold Cw
   rw[if_neg hs,if_neg (by omega),Apj]
   exact mem _ _ hj
 unfold C3 at hi
 by_cases h1:a.shape = []
 · rw[if_pos h1]at hi
   refine ⟨one a ha h1 _,?_⟩
   by_cases h2:b.shape = []
   · exact one b hb h2 _
   · exact many b h2 i hi
 · rw[if_neg h1]at hi
   refine ⟨many a h1 i hi,?_⟩
   by_cases h2:b.shape = []
   · exact one b hb h2 _
   · refine many b h2 i ?_
     unfold Dv at hc
     rw[if_neg h1,if_neg h2]at hc
     split at hc
     · cases hc
     · split at hc
       · rename_i h3
         have e1:=(Ce ha).1
         have e2:=(Ce hb).1
         rw[h3,e2]at e1
         have:=congrArg Prod.fst e1
         simp only at this
         omega
       · cases hc
theorem AdS{d:Nat}{a b:Arr}(ha:Aj d a=true)(hb:Aj d b=true)(hc:(Dv a b).2=0):A7 (Dv a b).1=(((C3 a b:Nat):Int),0):=by
 unfold Dv C3 at *
 by_cases h1:a.shape = []
 · rw[if_pos h1,if_pos h1];exact (Ce hb).1
 · rw[if_neg h1]at hc ⊢
   rw[if_neg h1]
   by_cases h2:b.shape = []
   · rw[if_pos h2];exact (Ce ha).1
   · rw[if_neg h2]at hc ⊢
     split at hc
     · cases hc
     · rename_i h3
       rw[if_neg h3]
       split at hc
       · rename_i h4;rw[if_pos h4];exact (Ce ha).1
       · cases hc
def Lx(s:Al)(sh:List Int)(pre:List Cell)(r:List Cell×Int):List D:=if r.2=0 then [dA (.mk s sh (pre++r.1)),.int 0] else [dA .none,.int r.2]
theorem AnO{s:Al}{sh:List Int}{pre:List Cell}{g:Nat→Cell×Int}{m k:Nat}(h:(g k).2=0):Lx s sh pre (Dd g (m+1) k)=Lx s sh (pre++[(g k).1]) (Dd g m (k+1)):=by
 rw[Dd,if_pos h]
 unfold Lx
 by_cases h2:(Dd g m (k+1)).2=0
 · rw[if_pos h2];simp[h2]
 · rw[if_neg h2];simp[h2]
theorem AnP{s:Al}{sh:List Int}{pre:List Cell}{g:Nat→Cell×Int}{m k:Nat}(h : ¬ (g k).2=0):Lx s sh pre (Dd g (m+1) k) = [dA .none,.int (g k).2]:=by
 rw[Dd,if_neg h]
 unfold Lx
 rw[if_neg h]
theorem AnR(r:Arr→Arr→Arr×Int)(f:Int)(a b:Arr)(hf:f∈Um)(hc:(Dv a b).2=0) : [dA (Fg r f a b).1,D.int (Fg r f a b).2]=Lx (a.s|||b.s) (Dv a b).1 [] (Dd (fun i=>Dz r f (Cw a i) (Cw b i)) (C3 a b) 0):=by
 unfold Fg
 rw[if_pos hf,if_pos hc]
 unfold Lx
 split <;> rfl
theorem Abc{d:Nat}(c:Cell)(h:Bi d c=true):Sp 235 [dC c] [dA (E8 c)]:=by
 refine Af 0 (AlW _ _) ?_
 simp only[Ai]
 unfold E8
 have hs:=Aa_ h
 refine Ae (fun h1=> ?_) (fun h1=> ?_)
 · rcases Kp h with ⟨g1,_⟩ | ⟨g1,_⟩ | ⟨g1,g2,g3,x,e,g4,g5,g6,g7⟩
   · omega
   · omega
   · rw[if_pos h1,g5]
     exact Aa (Abe c x g5) (Ac rfl)
 · rw[if_neg h1]
   have e0:D.agg [D.int 0,D.int c.kind,dN c.n,D.int c.c,D.sl (c.inn.map dA)]=dC ⟨0,c.kind,c.n,c.c,c.inn⟩:=by rw[Ec];rfl
   rw[e0]
   exact Aa (Rl (d:=d) ⟨0,c.kind,c.n,c.c,c.inn⟩ hs) (Ac rfl)
theorem Ry(l:Al)(n:Num):D.agg [dB l,D.int 0,dN n,D.int 0,D.sl []]=dC ⟨l,0,n,0,[]⟩:=by rw[Ec];rfl
theorem Aew(l:Al):D.agg [dB l,D.int 0,D.agg [D.bool false,D.sl [],D.sl []],D.int 0,D.sl []]=dC ⟨l,0,.zero,0,[]⟩:=by rw[Ec];rfl
section
variable {d:Nat} {x y:Cell} {f:Int} {r:Arr→Arr→Arr×Int}
theorem Qe(hx:Bi 0 x=true) : ¬ x.kind=2:=by
 rcases Kp hx with ⟨g1,_⟩ | ⟨g1,_⟩ | ⟨_,_,_,_,e,g4,_⟩
 · omega
 · omega
 · omega
theorem Yu(hx:Bi d x=true)(h:x.kind=0):Et x.n=true:=by
 rcases Kp hx with ⟨_,_,_,g4⟩ | ⟨g1,_⟩ | ⟨g1,_⟩
 · exact g4
 · omega
 · omega
theorem FC(hx:Bi d x=true)(h:x.kind=2) : ∃ X,x.inn = [X]:=by
 rcases Kp hx with ⟨g1,_⟩ | ⟨g1,_⟩ | ⟨_,_,_,X,_,_,g5,_⟩
 · omega
 · omega
 · exact ⟨X,g5⟩
theorem Ame(hx:Bi d x=true)(hy:Bi d y=true)(hp:f=42→L9 y)
  (ih : ∀ e,d=e+1→∀ X Y,Aj e X=true→Aj e Y=true→(f=42→ExpOk Y)→Sp 112 [.int f,dA X,dA Y] [dA (r X Y).1,.int (r X Y).2]):Sp 194 [.int f,dC x,dC y] [dC (Dz r f x y).1,.int (Dz r f x y).2]:=by
 refine Af 0 (Amf _ _ _ _) ?_
 simp only[Ai]
 refine Aa (Ha x.l y.l) ?_
 simp only[Ai]
 have box:x.kind=2∨y.kind=2→Tw (.call 235 [] [dC x] fun Y2=> .call 235 [] [dC y] fun Y3=> .call 112 [] [D.int f,qA Y2,qA Y3] fun Y4=> .ret [D.agg [dB (x.l|||y.l),D.int 2,D.agg [D.bool false,D.sl [],D.sl []],D.int 0,D.sl [qA Y4]],D.int ((qB Y4).toInt)]) [dC (Dz r f x y).1,.int (Dz r f x y).2]:=fun hk=>by
  cases d with
  | zero=>rcases hk with hk | hk;exact absurd hk (Qe hx);exact absurd hk (Qe hy)
  | succ e =>
   obtain ⟨c1,_⟩:=Mb hx
   obtain ⟨c2,_⟩:=Mb hy
   refine Aa (Abc x hx) (Aa (Abc y hy) (Aa (ih e rfl _ _ c1 c2 (fun hf=>AdW (hp hf) (FC hy))) (Ac ?_)))
   unfold Dz
   rw[if_pos hk,Ec];rfl
 refine Ae (fun h1=>box (.inl h1)) (fun h1=>Ae (fun h2=>box (.inr h2)) (fun h2=> ?_))
 unfold Dz
 rw[if_neg (fun hh=>hh.elim h1 h2)]
 have chars : ¬ (x.kind=0∧y.kind=0)→Tw (.br (decide (f=61)) (.br (decide (x.kind=y.kind)) (.call 237 [] [D.bool (decide (x.c=y.c)==decide (f=61))] fun Y13=> .ret [D.agg [dB (x.l|||y.l),D.int 0,qA Y13,D.int 0,D.sl []],D.int 0]) (.call 237 [] [D.bool (false == decide (f=61))] fun Y14=> .ret [D.agg [dB (x.l|||y.l),D.int 0,qA Y14,D.int 0,D.sl []],D.int 0])) (.br (decide (f=8800)) (.br (decide (x.kind=y.kind)) (.call 237 [] [D.bool (decide (x.c=y.c)==decide (f=61))] fun Y15=> .ret [D.agg [dB (x.l|||y.l),D.int 0,qA Y15,D.int 0,D.sl []],D.int 0]) (.call 237 [] [D.bool (false == decide (f=61))] fun Y16=> .ret [D.agg [dB (x.l|||y.l),D.int 0,qA Y16,D.int 0,D.sl []],D.int 0])) (.ret [D.agg [dB (x.l|||y.l),D.int 0,D.agg [D.bool false,D.sl [],D.sl []],D.int 0,D.sl []],D.int 3])))
   [dC (if x.kind=0∧y.kind=0 then ((⟨x.l|||y.l,0,(Ju f x.n y.n).1,0,[]⟩,(Ju f x.n y.n).2):Cell×Int) else if f=61 then (⟨x.l|||y.l,0,Gy (decide (x.kind=y.kind∧x.c=y.c)),0,[]⟩,0) else if f=8800 then (⟨x.l|||y.l,0,Gy (decide (¬ (x.kind=y.kind∧x.c=y.c))),0,[]⟩,0) else (⟨x.l|||y.l,0,.zero,0,[]⟩,3)).1,.int (if x.kind=0∧y.kind=0 then ((⟨x.l|||y.l,0,(Ju f x.n y.n).1,0,[]⟩,(Ju f x.n y.n).2):Cell×Int) else if f=61 then (⟨x.l|||y.l,0,Gy (decide (x.kind=y.kind∧x.c=y.c)),0,[]⟩,0) else if f=8800 then (⟨x.l|||y.l,0,Gy (decide (¬ (x.kind=y.kind∧x.c=y.c))),0,[]⟩,0) else (⟨x.l|||y.l,0,.zero,0,[]⟩,3)).2]:=fun hk=>by
  rw[if_neg hk]
  refine Ae (fun h3=>Ae (fun h4=>Aa (Kq _) (Ac ?_)) (fun h4=>Aa (Kq _) (Ac ?_))) (fun h3=>Ae (fun h3'=>Ae (fun h4=>Aa (Kq _) (Ac ?_)) (fun h4=>Aa (Kq _) (Ac ?_))) (fun h3'=>Ac ?_))
  · rw[if_pos h3,Ah,Ry];simp[h3,h4]
  · rw[if_pos h3,Ah,Ry];simp[h3,h4]
  · rw[if_neg h3,if_pos h3',Ah,Ry];simp[h3,h4]
  · rw[if_neg h3,if_pos h3',Ah,Ry];simp[h3,h4]
  · rw[if_neg h3,if_neg h3',Aew]
 refine Ae (fun h3=>Ae (fun h4=> ?_) (fun h4=>chars (fun hh=>h4 hh.2))) (fun h3=>chars (fun hh=>h3 hh.1))
 rw[if_pos ⟨h3,h4⟩]
 obtain ⟨z,q,rx⟩:=Lr (Yu hx h3)
 obtain ⟨z',q',ry⟩:=Lr (Yu hy h4)
 refine Aa (AlO f rx ry (fun hf=>(hp hf).1)) (Ac ?_)
 simp only[Du,Ah,C1,Ao,Ry]
end
theorem AaZ(f:Int)(d:Nat)(a b:Arr)(r:Arr→Arr→Arr×Int)(ih : ∀ e,d=e+1→∀ X Y,Aj e X=true→Aj e Y=true→(f=42→ExpOk Y)→Sp 112 [.int f,dA X,dA Y] [dA (r X Y).1,.int (r X Y).2])
   (ha:Aj d a=true) (hb:Aj d b=true) (hp:f=42→ExpOk b):Sp 112 [.int f,dA a,dA b] [dA (Fg r f a b).1,.int (Fg r f a b).2]:=by
 have hs:=Cf ha
 have hs':=Cf hb
 have hl:=hs.2.1
 have hl':=hs'.2.1
 have hcnt:C3 a b≤1048576:=by unfold C3;split <;> omega
 refine Af (C3 a b+1) (AlT _ _ _ _) (Aa (AlK f) ?_)
 simp only[Ai,C8,Hq]
 refine Ae (fun h=>Ac ?_) (fun h=>Aa (AlG a b hs hs') ?_)
 · unfold Fg;rw[if_neg h]
 have hf:=Apm.1 h
 simp only[Ai,C8]
 refine Ae (fun h1=>Ac ?_) (fun h1=> ?_)
 · unfold Fg;rw[if_pos hf,if_neg h1]
 have hc:=Apm.1 h1
 rw[AnR r f a b hf hc]
 have key:=Dl (C3 a b) (fun m k (pre:List Cell)=>Tz (C3 a b+1) m f ((C3 a b:Nat):Int) (k:Int) (dA a) (dA b) 0 ((a.s|||b.s).toNat:Int) (dI (Dv a b).1) (pre.map dC++Apc (C3 a b-k) (dC Cell.none)))
   (fun k pre=>Lx (a.s|||b.s) (Dv a b).1 pre (Dd (fun i=>Dz r f (Cw a i) (Cw b i)) (C3 a b-k) k)) (fun k pre=>pre.length=k)
   (fun m pre hI=>by
    simp only[Aba,Ai]
    refine At (Ac ?_)
    rw[Nat.sub_self,List.replicate_zero,Apx,Dd]
    unfold Lx
    rw[if_pos rfl,D5]
    simp[dI,dB])
   (fun m k pre hk hI ih'=>by
    have hlen:(pre.map dC++Apc (C3 a b-k) (dC Cell.none)).length=C3 a b:=by simp;omega
    obtain ⟨p1,p2⟩:=Zh ha hb hc hk
    have r1:=(Ce ha).2 _ p1
    have r2:=(Ce hb).2 _ p2
    simp only[Aba,Ai,hlen,Bh k]
    refine Ad (Aa (Abf a (k:Int)) (Aa (Abf b (k:Int)) (Aa (Ame (r:=r) r1 r2 (fun hf=>(hp hf).cell _ p2) ih) ?_)))
    simp only[Ah,C1,Ao,Dg,C8]
    rw[show C3 a b-k=(C3 a b-(k+1))+1 by omega]
    refine Ae (fun he=>Ac ?_) (fun he=>Ad (Ad ?_))
    · rw[AnP he]
    · have he':=Apm.1 he
      rw[AnO he',← hI,M6,hI]
      exact ih' (pre++[(Dz r f (Cw a k) (Cw b k)).1]) (by simp[hI]))
   (C3 a b+1) 0 [] (by omega) (by omega) rfl
 have e0:([]:List Cell).map dC++Apc (C3 a b-0) (dC Cell.none)=Apc (C3 a b) (dC Cell.none):=by simp
 rw[e0]at key
 refine Ae (fun h2=>Aa (Ha a.s b.s) (Ad (Ad (A0 (by simp only[Am];omega) ?_)))) (fun h2=>Aa (Ha a.s b.s) (Ad (Ad (A0 (by simp only[Am];omega) ?_))))
 · have:C3 a b=b.cells.length:=by unfold C3;rw[if_pos (Ap2.1 (by omega))]
   simp only[Ai]
   rw[this]at key
   simpa [this]using key
 · have:C3 a b=a.cells.length:=by unfold C3;rw[if_neg (fun hh=>h2 (by rw[hh];rfl))]
   simp only[Ai]
   rw[this]at key
   simpa [this]using key
theorem Abb(f:Int) : ∀ (d:Nat) (a b:Arr),Aj d a=true→Aj d b=true→(f=42→ExpOk b)→Sp 112 [.int f,dA a,dA b] [dA (Jt d f a b).1,.int (Jt d f a b).2]
 | 0,a,b,ha,hb,hp=>AaZ f 0 a b _ (fun e he=>by omega) ha hb hp
 | d+1,a,b,ha,hb,hp=>AaZ f (d+1) a b _ (fun e he=>by
  have:e=d:=by omega
  subst this
  exact Abb f e) ha hb hp
theorem Ack{g:Nat→Cell×Int} : ∀ {m k:Nat},(Dd g m k).2=0→(Dd g m k).1.length=m
 | 0,_,_=>by simp[Dd]
 | m+1,k,h=>by
  rw[Dd]at h ⊢
  split at h
  · rename_i h1
    rw[if_pos h1]
    split at h
    · rename_i h2;rw[if_pos h2];simp[Ack h2]
    · rename_i h2;exact absurd h h2
  · rename_i h1;exact absurd h h1
theorem MS{g:Nat→Cell×Int} : ∀ {m k:Nat},(Dd g m k).2=0→∀ y∈(Dd g m k).1,∃ i,k≤i∧i<k+m∧(g i).2=0∧y=(g i).1
 | 0,_,_,y,hy=>by simp[Dd]at hy
 | m+1,k,h,y,hy=>by
  rw[Dd]at h hy
  split at h
  · rename_i h1
    rw[if_pos h1]at hy
    split at h
    · rename_i h2
      rw[if_pos h2]at hy
      rcases Apt.1 hy with rfl | hy
      · exact ⟨k,by omega,by omega,h1,rfl⟩
      · obtain ⟨i,g1,g2,g3⟩:=MS h2 y hy
        exact ⟨i,by omega,by omega,g3⟩
    · rename_i h2;exact absurd h h2
  · rename_i h1;exact absurd h h1
theorem MT{r:Arr→Arr→Arr×Int}{f:Int}{a b:Arr}(h:(Fg r f a b).2=0):f∈Um∧(Dv a b).2=0∧(Dd (fun i=>Dz r f (Cw a i) (Cw b i)) (C3 a b) 0).2=0∧(Fg r f a b).1 = .mk (a.s|||b.s) (Dv a b).1 (Dd (fun i=>Dz r f (Cw a i) (Cw b i)) (C3 a b) 0).1:=by
 unfold Fg at h ⊢
 split at h
 · rename_i h1
   split at h
   · rename_i h2
     split at h
     · rename_i h3
       rw[if_pos h1,if_pos h2,if_pos h3]
       exact ⟨h1,h2,h3,rfl⟩
     · rename_i h3;exact absurd h h3
   · rename_i h2;exact absurd h h2
 · cases h
theorem AdT{a b:Arr}(hc:(Dv a b).2=0)(h:(Dv a b).1 = []):a.shape = []∧b.shape = []:=by
 unfold Dv at hc h
 by_cases h1:a.shape = []
 · rw[if_pos h1]at h;exact ⟨h1,h⟩
 · rw[if_neg h1]at hc h
   by_cases h2:b.shape = []
   · rw[if_pos h2]at h;exact absurd h h1
   · rw[if_neg h2]at hc h
     split at hc
     · cases hc
     · rename_i h3
       rw[if_neg h3]at h
       split at hc
       · rename_i h4;rw[if_pos h4]at h;exact absurd h h1
       · cases hc
theorem Abw{a:Arr}{c:Cell}(hs:a.shape = [])(hc:a.cells = [c])(h:B9 a=false):c.kind=2:=by
 rcases Decidable.em (c.kind=2) with hh | hh
 · exact hh
 · have:=(BX a).2 ⟨hs,c,hc,hh⟩
   rw[h]at this;cases this
theorem XH{a:Arr}{c:Cell}(hs:a.shape = [])(hc:a.cells = [c])(i:Int):Cw a i=c:=by
 unfold Cw
 rw[if_pos hs,if_neg (by rw[hc];simp),hc];rfl
theorem Acm{r:Arr→Arr→Arr×Int}{f:Int}{d:Nat}{a b:Arr}(ih : ∀ e,d=e+1→∀ X Y,Aj e X=true→Aj e Y=true→(r X Y).2=0→Aj e (r X Y).1=true∧(B9 X=false∨B9 Y=false→B9 (r X Y).1=false))
   (ha:Aj d a=true) (hb:Aj d b=true) (h:(Fg r f a b).2=0):Aj d (Fg r f a b).1=true∧(B9 a=false∨B9 b=false→B9 (Fg r f a b).1=false):=by
 obtain ⟨h1,h2,h3,h4⟩:=MT h
 rw[h4]
 refine ⟨H4 (by simp only[Arr.shape_mk,Arr.cells_mk,Ack h3];exact AdS ha hb h2) (fun y hy=> ?_),fun hn=> ?_⟩
 · obtain ⟨i,_,hi,g1,rfl⟩:=MS h3 y hy
   obtain ⟨p1,p2⟩:=Zh ha hb h2 (i:=i) (by omega)
   have r1:=(Ce ha).2 _ p1
   have r2:=(Ce hb).2 _ p2
   replace g1:(Dz r f (Cw a (i:Int)) (Cw b (i:Int))).2=0:=g1
   show Bi d (Dz r f (Cw a (i:Int)) (Cw b (i:Int))).1=true
   generalize Cw a (i:Int)=x at *
   generalize Cw b (i:Int)=z at *
   unfold Dz at g1 ⊢
   by_cases k1:x.kind=2∨z.kind=2
   · rw[if_pos k1]at g1 ⊢
     cases d with
     | zero=>rcases k1 with k1 | k1;exact absurd k1 (Qe r1);exact absurd k1 (Qe r2)
     | succ e =>
       obtain ⟨c1,_,c2,_⟩:=Mb r1
       obtain ⟨c3,_,c4,_⟩:=Mb r2
       obtain ⟨q1,q2⟩:=ih e rfl _ _ c1 c3 g1
       exact Aa8 (q2 (k1.imp c2 c4)) q1
   · rw[if_neg k1]at g1 ⊢
     by_cases k2:x.kind=0∧z.kind=0
     · rw[if_pos k2]at g1 ⊢
       obtain ⟨_,_,rx⟩:=Lr (Yu r1 k2.1)
       obtain ⟨_,_,ry⟩:=Lr (Yu r2 k2.2)
       obtain ⟨_,_,rr⟩:=AnS f rx ry g1
       exact Tv rr.right
     · rw[if_neg k2]at g1 ⊢
       by_cases k3:f=61
       · rw[if_pos k3]
         obtain ⟨_,hz⟩:=MP (decide (x.kind=z.kind∧x.c=z.c))
         exact Tv hz.right
       · rw[if_neg k3]at g1 ⊢
         by_cases k4:f=8800
         · rw[if_pos k4]
           obtain ⟨_,hz⟩:=MP (decide (¬ (x.kind=z.kind∧x.c=z.c)))
           exact Tv hz.right
         · rw[if_neg k4]at g1;cases g1
 · cases hq:B9 (Arr.mk (a.s|||b.s) (Dv a b).1 (Dd (fun i=>Dz r f (Cw a i) (Cw b i)) (C3 a b) 0).1) with
   | false=>rfl
   | true =>
     exfalso
     obtain ⟨q1,c',q2,q3⟩:=(BX _).1 hq
     simp only[Arr.shape_mk,Arr.cells_mk]at q1 q2
     obtain ⟨s1,s2⟩:=AdT h2 q1
     obtain ⟨cx,hx⟩:=LH ha s1
     obtain ⟨cy,hy⟩:=LH hb s2
     obtain ⟨i,_,_,_,e1⟩:=MS h3 c' (by rw[q2];simp)
     simp only[XH s1 hx,XH s2 hy]at e1
     apply q3
     rw[e1]
     unfold Dz
     rw[if_pos (hn.imp (Abw s1 hx) (Abw s2 hy))]
theorem Acj(f:Int) : ∀ (d:Nat) (a b:Arr),Aj d a=true→Aj d b=true→(Jt d f a b).2=0→Aj d (Jt d f a b).1=true∧(B9 a=false∨B9 b=false→B9 (Jt d f a b).1=false)
 | 0,a,b,ha,hb,h=>Acm (fun e he=>by omega) ha hb h
 | d+1,a,b,ha,hb,h=>Acm (fun e he=>by
  have:e=d:=by omega
  subst this
  exact Acj f e) ha hb h
theorem Ajh(n:Nat)(f0 a1 b2:D):fA [(2000000,⟨[],[],[]⟩)] n 10 [] [f0,a1,b2] =
 .br (f0.toInt == 9076) (cK 35 [a1,b2] fun Y1 =>
 .ret [qA Y1,D.int ((qB Y1).toInt)])
 (.br (f0.toInt == 44) (cK 36 [a1,b2,D.bool false] fun Y2 =>
 .ret [qA Y2,D.int ((qB Y2).toInt)])
 (.br (f0.toInt == 9066) (cK 36 [a1,b2,D.bool true] fun Y3 =>
 .ret [qA Y3,D.int ((qB Y3).toInt)])
 (.br (f0.toInt == 9021) (cK 37 [a1,b2,D.bool false] fun Y4 =>
 .ret [qA Y4,D.int ((qB Y4).toInt)])
 (.br (f0.toInt == 8854) (cK 37 [a1,b2,D.bool true] fun Y5 =>
 .ret [qA Y5,D.int ((qB Y5).toInt)])
 (.br (f0.toInt == 9033) (cK 38 [a1,b2] fun Y6 =>
 .ret [qA Y6,D.int ((qB Y6).toInt)])
 (.br (f0.toInt == 8593) (cK 39 [a1,b2] fun Y7 =>
 .ret [qA Y7,D.int ((qB Y7).toInt)])
 (.br (f0.toInt == 8595) (cK 40 [a1,b2] fun Y8 =>
 .ret [qA Y8,D.int ((qB Y8).toInt)])
 (.br (f0.toInt == 8835) (cK 41 [a1,b2] fun Y9 =>
 .ret [qA Y9,D.int ((qB Y9).toInt)])
 (.br (f0.toInt == 8866) (.ret [b2,D.int 0])
 (.br (f0.toInt == 8867) (.ret [a1,D.int 0])
 (cK 42 [D.int f0.toInt,a1,b2] fun Y10 =>
 .ret [qA Y10,D.int ((qB Y10).toInt)]))))))))))):=by kernel_rfl
theorem Aje(n:Nat)(f0 a1:D):fA [(2000000,⟨[],[],[]⟩)] n 15 [] [f0,a1] =
 .br (f0.toInt == 9076) (cK 56 [a1] fun Y1 =>
 .ret [qA Y1,D.int 0])
 (.br (f0.toInt == 44) (cK 57 [a1] fun Y2 =>
 .ret [qA Y2,D.int 0])
 (.br (f0.toInt == 9066) (cK 58 [a1] fun Y3 =>
 .ret [qA Y3,D.int 0])
 (.br (f0.toInt == 9021) (cK 59 [a1,D.bool false] fun Y4 =>
 .ret [qA Y4,D.int 0])
 (.br (f0.toInt == 8854) (cK 59 [a1,D.bool true] fun Y5 =>
 .ret [qA Y5,D.int 0])
 (.br (f0.toInt == 9033) (cK 60 [a1] fun Y6 =>
 .ret [qA Y6,D.int 0])
 (.br (f0.toInt == 8834) (cK 61 [a1] fun Y7 =>
 .ret [qA Y7,D.int ((qB Y7).toInt)])
 (.br (f0.toInt == 8835) (cK 62 [a1] fun Y8 =>
 .ret [qA Y8,D.int 0])
 (.br (f0.toInt == 8801) (cK 63 [a1] fun Y9 =>
 .ret [qA Y9,D.int 0])
 (.br (f0.toInt == 8802) (cK 64 [a1] fun Y10 =>
 .ret [qA Y10,D.int 0])
 (.br (f0.toInt == 8866) (.ret [a1,D.int 0])
 (.br (f0.toInt == 8867) (.ret [a1,D.int 0])
 (.br (f0.toInt == 9075) (cK 65 [a1] fun Y11 =>
 .ret [qA Y11,D.int ((qB Y11).toInt)])
 (.br (f0.toInt == 8714) (cK 66 [a1] fun Y12 =>
 .ret [qA Y12,D.int ((qB Y12).toInt)])
 (.br (f0.toInt == 8746) (cK 67 [a1] fun Y13 =>
 .ret [qA Y13,D.int ((qB Y13).toInt)])
 (.br (f0.toInt == 9080) (cK 68 [a1] fun Y14 =>
 .ret [qA Y14,D.int ((qB Y14).toInt)])
 (.br (f0.toInt == 9035) (cK 69 [a1,D.bool false] fun Y15 =>
 .ret [qA Y15,D.int ((qB Y15).toInt)])
 (.br (f0.toInt == 9042) (cK 69 [a1,D.bool true] fun Y16 =>
 .ret [qA Y16,D.int ((qB Y16).toInt)])
 (cK 70 [D.int f0.toInt,a1] fun Y17 =>
 .ret [qA Y17,D.int ((qB Y17).toInt)])))))))))))))))))):=by kernel_rfl
theorem Ajd(n:Nat)(f0 two1:D):fA [] n 26 [] [f0,two1] =
 .br two1.toBool (cK 29 [] fun Y1 =>
 cK 74 [qA Y1,D.int f0.toInt] fun Y2 =>
 .ret [D.bool ((qA Y2).toBool)])
 (cK 28 [] fun Y3 =>
 cK 74 [qA Y3,D.int f0.toInt] fun Y4 =>
 .ret [D.bool ((qA Y4).toBool)]):=by kernel_rfl
theorem Ajg(n:Nat):fA [] n 28 [] [] =
 .ret [D.sl [D.int 43,D.int 45,D.int 215,D.int 247,D.int 8968,D.int 8970,D.int 124,D.int 126,D.int 33,D.int 9076,D.int 44,D.int 9066,D.int 9021,D.int 8854,D.int 9033,D.int 8834,D.int 8835,D.int 8801,D.int 8802,D.int 9075,D.int 8714,D.int 8746,D.int 9080,D.int 9035,D.int 9042,D.int 8866,D.int 8867]]:=by kernel_rfl
theorem Ajj(n:Nat):fA [] n 29 [] [] =
 .ret [D.sl [D.int 43,D.int 45,D.int 215,D.int 247,D.int 8968,D.int 8970,D.int 124,D.int 42,D.int 60,D.int 8804,D.int 61,D.int 8805,D.int 62,D.int 8800,D.int 8743,D.int 8744,D.int 9076,D.int 44,D.int 9066,D.int 9021,D.int 8854,D.int 9033,D.int 8593,D.int 8595,D.int 8835,D.int 8801,D.int 8802,D.int 9075,D.int 8714,D.int 8746,D.int 8745,D.int 126,D.int 8866,D.int 8867,D.int 47,D.int 9023,D.int 92,D.int 9024]]:=by kernel_rfl
theorem Ajl(n:Nat)(a0 b1:D):fA [(2000000,⟨[],[],[]⟩)] n 41 [] [a0,b1] =
 cK 80 [a0] fun Y1 =>
 .br (((qB Y1).toInt)!=0) (.ret [D.agg [D.int 0,D.sl [],D.sl []],D.int ((qB Y1).toInt)])
 (.br ((((qA Y1).els).length:Int)!=1) (.ret [D.agg [D.int 0,D.sl [],D.sl []],D.int 4])
 (.br ((((b1.fld 1).els).length:Int)!=1) (.ret [D.agg [D.int 0,D.sl [],D.sl []],D.int 5])
 (kK (0≤0) (kK (0<(((qA Y1).els).length:Int)) (bK (((((qA Y1).els).getD (Apa 0) D.nil).toInt)<1) (.ret [D.agg [D.int 0,D.sl [],D.sl []],D.int 6])
 (kK (0≤0) (kK (0<(((qA Y1).els).length:Int)) (bK ((((b1.fld 2).els).length:Int)<((((qA Y1).els).getD (Apa 0) D.nil).toInt)) (.ret [D.agg [D.int 0,D.sl [],D.sl []],D.int 6])
 (kK (0≤0) (kK (0<(((qA Y1).els).length:Int)) (kK (0≤Aom .i64 (((((qA Y1).els).getD (Apa 0) D.nil).toInt)-1)) (kK (Aom .i64 (((((qA Y1).els).getD (Apa 0) D.nil).toInt)-1)<(((b1.fld 2).els).length:Int)) (cK 104 [((b1.fld 2).els).getD (Apa (Aom .i64 (((((qA Y1).els).getD (Apa 0) D.nil).toInt)-1))) D.nil] fun Y2 =>
 cK 84 [a0] fun Y3 =>
 cK 83 [D.int ((b1.fld 0).toInt),D.int ((qA Y3).toInt)] fun Y4 =>
 cK 90 [qA Y2,D.int ((qA Y4).toInt)] fun Y5 =>
 .ret [qA Y5,D.int 0]))))))))))))):=by kernel_rfl
theorem Ajn(n:Nat)(f0 a1 b2:D):fA [(2000000,⟨[],[],[]⟩)] n 42 [] [f0,a1,b2] =
 .br (f0.toInt == 8801) (cK 105 [a1,b2,D.bool true] fun Y1 =>
 .ret [qA Y1,D.int 0])
 (.br (f0.toInt == 8802) (cK 105 [a1,b2,D.bool false] fun Y2 =>
 .ret [qA Y2,D.int 0])
 (.br (f0.toInt == 9075) (cK 106 [a1,b2] fun Y3 =>
 .ret [qA Y3,D.int ((qB Y3).toInt)])
 (.br (f0.toInt == 8714) (cK 107 [a1,b2] fun Y4 =>
 .ret [qA Y4,D.int 0])
 (.br (f0.toInt == 8746) (cK 108 [a1,b2] fun Y5 =>
 .ret [qA Y5,D.int ((qB Y5).toInt)])
 (.br (f0.toInt == 8745) (cK 109 [a1,b2,D.bool true] fun Y6 =>
 .ret [qA Y6,D.int ((qB Y6).toInt)])
 (.br (f0.toInt == 126) (cK 109 [a1,b2,D.bool false] fun Y7 =>
 .ret [qA Y7,D.int ((qB Y7).toInt)])
 (.br (f0.toInt == 47) (cK 110 [a1,b2,D.bool false] fun Y8 =>
 .ret [qA Y8,D.int ((qB Y8).toInt)])
 (.br (f0.toInt == 9023) (cK 110 [a1,b2,D.bool true] fun Y9 =>
 .ret [qA Y9,D.int ((qB Y9).toInt)])
 (.br (f0.toInt == 92) (cK 111 [a1,b2,D.bool false] fun Y10 =>
 .ret [qA Y10,D.int ((qB Y10).toInt)])
 (.br (f0.toInt == 9024) (cK 111 [a1,b2,D.bool true] fun Y11 =>
 .ret [qA Y11,D.int ((qB Y11).toInt)])
 (cK 112 [D.int f0.toInt,a1,b2] fun Y12 =>
 .ret [qA Y12,D.int ((qB Y12).toInt)]))))))))))):=by kernel_rfl
def Ga(n a:Arr):Arr×Int:=if (A9 n).2≠0 then (.none,(A9 n).2) else if (A9 n).1.length≠1 then (.none,4) else if a.shape.length≠1 then (.none,5) else
 if (A9 n).1.getD 0 0<1∨(a.cells.length:Int)<(A9 n).1.getD 0 0 then (.none,6) else
 (C2 (Gj (a.cells.getD ((A9 n).1.getD 0 0-1).toNat (Bf 0))) (a.s|||Au n),0)
theorem Ajk(n a:Arr)(hn:Aj 8 n=true)(ha:Aj 8 a=true):Sp 41 [dA n,dA a] [dA (Ga n a).1,.int (Ga n a).2]:=by
 have hl:=(Dj ha).1
 refine Af 0 (Ajl _ _ _) (Aa (K9 n (Dj hn).1 (Qv hn)) ?_)
 unfold Ga
 generalize (A9 n).1=l at *
 generalize (A9 n).2=e at *
 simp only[Ai,C8]
 refine Ae (fun h=>Ac (by rw[if_pos h])) (fun h=> ?_)
 rw[if_neg h]
 refine Ae (fun h1=>Ac (by rw[if_pos (by omega)])) (fun h1=> ?_)
 rw[if_neg (by omega)]
 refine Ae (fun h2=>Ac (by rw[if_pos (by omega)])) (fun h2=> ?_)
 rw[if_neg (by omega)]
 have hg0:=Hv (l:=l) (i:=0) (by omega)
 simp only[hg0,Ao]
 generalize l.getD 0 0=k at *
 refine Ad (Ad (Ae (fun h3=>Ac (by rw[if_pos (.inl h3)])) (fun h3=>Ad (Ad (Ae (fun h4=>Ac (by rw[if_pos (.inr h4)])) (fun h4=> ?_))))))
 rw[if_neg (by omega)]
 obtain ⟨J,hJ⟩ : ∃ J:Nat,k-1=(J:Int):=⟨(k-1).toNat,by omega⟩
 have hw:Aom .i64 (J:Int)=(J:Int):=Ax (by omega) (by omega)
 have hcj:(a.cells.map dC).getD J D.nil=dC (a.cells.getD J (Bf 0)):=by
  rw[Aw (Apb (by omega)),Ape,Apb (by omega)];rfl
 have hcr:Bi 8 (a.cells.getD J (Bf 0))=true:=by
  rw[Ape,Apb (by omega)]
  exact (Ce ha).2 _ (Aqc _)
 simp only[hJ,hw,Apj,hcj]
 refine Ad (Ad (Ad (Ad (Aa (EO _ (Aa_ hcr)) (Aa (Fi n (Cf hn).fits) ?_)))))
 simp only[Ai]
 refine Aa (Ha a.s (Au n)) ?_
 simp only[Ai]
 exact Aa (Gz _ _) (Ac rfl)
theorem sw{c:Prop} [Decidable c] {t e:Tree}{x y:Arr×Int}(h1:c→Tw t [dA x.1,.int x.2])(h2 : ¬ c→Tw e [dA y.1,.int y.2]):Tw (.br (decide c) t e) [dA (if c then x else y).1,.int (if c then x else y).2]:=by
 refine Ae (fun h=> ?_) (fun h=> ?_)
 · rw[if_pos h];exact h1 h
 · rw[if_neg h];exact h2 h
noncomputable def Kj(f:Int)(a:Arr):Arr×Int :=
 if f=9076 then (M9 a,0) else
 if f=44 then (Od a,0) else
 if f=9066 then (Lv a,0) else
 if f=9021 then (Jo a false,0) else
 if f=8854 then (Jo a true,0) else
 if f=9033 then (Oo a,0) else
 if f=8834 then Hr a else
 if f=8835 then (J8 a,0) else
 if f=8801 then (Sy a,0) else
 if f=8802 then (On a,0) else
 if f=8866 then (a,0) else
 if f=8867 then (a,0) else
 if f=9075 then Gn a else
 if f=8714 then Fy a else
 if f=8746 then K1 a else
 if f=9080 then Hj a else
 if f=9035 then Jf a false else
 if f=9042 then Jf a true else Cq f a
theorem XY(f:Int)(a:Arr)(ha:Aj 8 a=true):Sp 15 [.int f,dA a] [dA (Kj f a).1,.int (Kj f a).2]:=by
 have hs:=Cf ha
 have hc:=(Ce ha).1
 have hl:=(Dj ha).1
 refine Af 0 (Aje _ _ _) ?_
 simp only[Ao,Cn]
 unfold Kj
 refine sw (fun _=>Aa (Ahc a hs) (Ac rfl)) (fun _=> ?_)
 refine sw (fun _=>Aa (AgY a hs) (Ac rfl)) (fun _=> ?_)
 refine sw (fun _=>Aa (AfQ a hc) (Ac rfl)) (fun _=> ?_)
 refine sw (fun _=>Aa (Acg a false hc) (Ac rfl)) (fun _=> ?_)
 refine sw (fun _=>Aa (Acg a true hc) (Ac rfl)) (fun _=> ?_)
 refine sw (fun _=>Aa (AnD a hc) (Ac rfl)) (fun _=> ?_)
 refine sw (fun _=>Aa (AgR a hs (by omega)) (Ac rfl)) (fun _=> ?_)
 refine sw (fun _=>Aa (AgV a hs) (Ac rfl)) (fun _=> ?_)
 refine sw (fun _=>Aa (AgP a hs (by omega)) (Ac rfl)) (fun _=> ?_)
 refine sw (fun _=>Aa (Ahe a hs) (Ac rfl)) (fun _=> ?_)
 refine sw (fun _=>Ac rfl) (fun _=> ?_)
 refine sw (fun _=>Ac rfl) (fun _=> ?_)
 refine sw (fun _=>Aa (Afa a hs.fits hl (Qv ha)) (Ac rfl)) (fun _=> ?_)
 refine sw (fun _=>Aa (AgT a hs) (Ac rfl)) (fun _=> ?_)
 refine sw (fun _=>Aa (Afh Pn a hs hl) (Ac rfl)) (fun _=> ?_)
 refine sw (fun _=>Aa (AiP a ha) (Ac rfl)) (fun _=> ?_)
 refine sw (fun _=>Aa (SC a false ha) (Ac rfl)) (fun _=> ?_)
 refine sw (fun _=>Aa (SC a true ha) (Ac rfl)) (fun _=> ?_)
 exact Aa (AlR f 8 a ha) (Ac rfl)
noncomputable def Lk(f:Int)(a b:Arr):Arr×Int :=
 if f=8801 then (Mn a b true,0) else
 if f=8802 then (Mn a b false,0) else
 if f=9075 then Kd a b else
 if f=8714 then (P6 a b,0) else
 if f=8746 then K0 a b else
 if f=8745 then Jr a b true else
 if f=126 then Jr a b false else
 if f=47 then Fr a b false else
 if f=9023 then Fr a b true else
 if f=92 then Fo a b false else
 if f=9024 then Fo a b true else Jt 8 f a b
theorem Ajm(f:Int)(a b:Arr)(ha:Aj 8 a=true)(hb:Aj 8 b=true)(hx:f=42→ExpOk b):Sp 42 [.int f,dA a,dA b] [dA (Lk f a b).1,.int (Lk f a b).2]:=by
 have hs:=Cf ha
 have ht:=Cf hb
 have hl:=(Dj ha).1
 have hm:=(Dj hb).1
 refine Af 0 (Ajn _ _ _ _) ?_
 simp only[Ao,Cn]
 unfold Lk
 refine sw (fun _=>Aa (UU a b true hs ht) (Ac rfl)) (fun _=> ?_)
 refine sw (fun _=>Aa (UU a b false hs ht) (Ac rfl)) (fun _=> ?_)
 refine sw (fun _=>Aa (AeY Pn a b hs ht hl hm) (Ac rfl)) (fun _=> ?_)
 refine sw (fun _=>Aa (Afc Pn a b hs ht hl hm) (Ac rfl)) (fun _=> ?_)
 refine sw (fun _=>Aa (Aff Pn a b hs ht hl hm) (Ac rfl)) (fun _=> ?_)
 refine sw (fun _=>Aa (RB Pn a b true hs ht hl hm) (Ac rfl)) (fun _=> ?_)
 refine sw (fun _=>Aa (RB Pn a b false hs ht hl hm) (Ac rfl)) (fun _=> ?_)
 refine sw (fun _=>Aa (XC a b false ha hb) (Ac rfl)) (fun _=> ?_)
 refine sw (fun _=>Aa (XC a b true ha hb) (Ac rfl)) (fun _=> ?_)
 refine sw (fun _=>Aa (WZ a b false ha hb) (Ac rfl)) (fun _=> ?_)
 refine sw (fun _=>Aa (WZ a b true ha hb) (Ac rfl)) (fun _=> ?_)
 exact Aa (Abb f 8 a b ha hb hx) (Ac rfl)
noncomputable def H9(f:Int)(a b:Arr):Arr×Int :=
 if f=9076 then Hg a b else
 if f=44 then F_ a b false else
 if f=9066 then F_ a b true else
 if f=9021 then Gf a b false else
 if f=8854 then Gf a b true else
 if f=9033 then Fq a b else
 if f=8593 then I3 a b else
 if f=8595 then Ij a b else
 if f=8835 then Ga a b else
 if f=8866 then (b,0) else
 if f=8867 then (a,0) else Lk f a b
theorem JY(f:Int)(a b:Arr)(ha:Aj 8 a=true)(hb:Aj 8 b=true)(hx:f=42→ExpOk b):Sp 10 [.int f,dA a,dA b] [dA (H9 f a b).1,.int (H9 f a b).2]:=by
 have hs:=Cf ha
 have ht:=Cf hb
 have hl:=(Dj ha).1
 have hm:=(Dj hb).1
 have ta:=Qv ha
 have ca:=(Ce ha).1
 have cb:=(Ce hb).1
 refine Af 0 (Ajh _ _ _ _) ?_
 simp only[Ao,Cn]
 unfold H9
 refine sw (fun _=>Aa (Aha a b hs.fits hm hl ta) (Ac rfl)) (fun _=> ?_)
 refine sw (fun _=>Aa (TE a b false ca cb) (Ac rfl)) (fun _=> ?_)
 refine sw (fun _=>Aa (TE a b true ca cb) (Ac rfl)) (fun _=> ?_)
 refine sw (fun _=>Aa (Ach a b false hs.fits hl ta cb) (Ac rfl)) (fun _=> ?_)
 refine sw (fun _=>Aa (Ach a b true hs.fits hl ta cb) (Ac rfl)) (fun _=> ?_)
 refine sw (fun _=>Aa (An7 a b hs.fits hl ta cb) (Ac rfl)) (fun _=> ?_)
 refine sw (fun _=>Aa (Aef a b hs.fits hl ta cb) (Ac rfl)) (fun _=> ?_)
 refine sw (fun _=>Aa (Aed a b hs.fits hl ta cb) (Ac rfl)) (fun _=> ?_)
 refine sw (fun _=>Aa (Ajk a b ha hb) (Ac rfl)) (fun _=> ?_)
 refine sw (fun _=>Ac rfl) (fun _=> ?_)
 refine sw (fun _=>Ac rfl) (fun _=> ?_)
 exact Aa (Ajm f a b ha hb hx) (Ac rfl)
theorem Al0{d:Nat}{c:Cell}(l:Al)(h:Bi d c=true):Bi d ⟨l,c.kind,c.n,c.c,c.inn⟩=true:=by cases d <;> exact h
theorem Aa9{d:Nat}(a:Arr):Bi d (Cl a)=true:=by
 unfold Cl
 split
 · exact Jp d Iq
 · split
   · have : ∀ k r (l:Al),C7 k r (⟨l,1,.zero,32,[]⟩:Cell)=true:=fun k r l=>rfl
     cases d <;> exact this _ _ _
   · exact Al0 _ (Jp d Iq)
theorem Amh{d:Nat}{a:Arr}{s f z:List Int}{i:Nat}(h:Aj d a=true):Bi d (M5 a.cells (Cl a) s f z i)=true:=by
 unfold M5
 split
 · rename_i k hk
   rw[Ape]
   cases hg:a.cells[k.toNat]? with
   | none=>exact Aa9 a
   | some c=>exact (Ce h).2 c (Aph hg)
 · exact Aa9 a
theorem PO{n a:Arr}{s f z:List Int}{d:Nat}(h:Aj d a=true)(h0:(Ev n a s f z).2=0):Aj d (Ev n a s f z).1=true:=by
 unfold Ev at h0 ⊢
 split at h0
 · rename_i h1
   rw[if_pos h1]
   have h2:=Fw z
   refine H4 ?_ (fun c hc=> ?_)
   · simp only[Arr.shape_mk,Arr.cells_mk,Gx,Apd,List.length_range]
     exact Prod.ext (by simp only;omega) h1
   · simp only[Arr.cells_mk,Gx,List.mem_map]at hc
     obtain ⟨i,_,rfl⟩:=hc
     exact Amh h
 · rename_i h1;exact absurd h0 h1
theorem Anp{n a:Arr}(h:Aj 8 a=true)(h0:(I3 n a).2=0):Aj 8 (I3 n a).1=true:=by
 unfold I3 at h0 ⊢
 split at h0
 · rename_i h1;rw[if_pos h1];exact PO h h0
 · rename_i h1;exact absurd h0 h1
theorem Ae5{n a:Arr}(h:Aj 8 a=true)(h0:(Ij n a).2=0):Aj 8 (Ij n a).1=true:=by
 unfold Ij at h0 ⊢
 split at h0
 · rename_i h1;rw[if_pos h1];exact PO h h0
 · rename_i h1;exact absurd h0 h1
section
variable {o:Al} {a b n m:Arr}
theorem QV(h:a.cells.map (Bc o)=b.cells.map (Bc o)):Bc o (Cl a)=Bc o (Cl b):=by
 unfold Cl
 match ha:a.cells,hb:b.cells with
 | [],[]=>rfl
 | [],c::cs=>rw[ha,hb]at h;simp at h
 | c::cs,[]=>rw[ha,hb]at h;simp at h
 | c::cs,d::ds =>
  rw[ha,hb]at h
  simp only[Ap7,List.cons.injEq]at h
  show Bc o (if c.kind=1 then _ else _)=Bc o (if d.kind=1 then _ else _)
  rcases K7 h.1 with ⟨h1,h2⟩ | ⟨_,_,h3,h4,_⟩
  · refine Nf ?_ ?_
    · split <;> exact h1
    · split <;> exact h2
  · rw[h3,h4]
theorem Ag7{α β:Type}{f:α→β}{l m:List α}(h:l.map f=m.map f)(i:Nat){z w:α}(hz:f z=f w):f (l.getD i z)=f (m.getD i w):=by
 have hi:(l.map f)[i]? = (m.map f)[i]? := by rw[h]
 simp only[Aps]at hi
 rw[Ape,Ape]
 cases h1:l[i]? <;> cases h2:m[i]? <;> rw[h1,h2]at hi <;> simp at hi ⊢
 · exact hz
 · exact hi
theorem PN{s f z:List Int}(h:Ag o a=Ag o b)(e1:(Ev n a s f z).2=0)(e2:(Ev n b s f z).2=0):Ag o (Ev n a s f z).1=Ag o (Ev n b s f z).1:=by
 unfold Ev at e1 e2 ⊢
 split at e1
 · rename_i h1
   rw[if_pos h1,if_pos h1]
   rcases Ea h with ⟨h1,h2⟩ | ⟨_,_,h3,_,h5⟩
   · exact C0 (by show Ay (a.s|||_) o=false;rw[Cj,h1];rfl) (by show Ay (b.s|||_) o=false;rw[Cj,h2];rfl)
   · refine F9 (by show a.s|||_=b.s|||_;rw[h3]) rfl ?_
     show (Gx a s f z _).map (Bc o)=(Gx b s f z _).map (Bc o)
     unfold Gx
     rw[List.map_map,List.map_map]
     refine List.map_congr_left (fun i _=> ?_)
     show Bc o (M5 a.cells (Cl a) s f z i)=Bc o (M5 b.cells (Cl b) s f z i)
     unfold M5
     split
     · exact Ag7 h5 _ (QV h5)
     · exact QV h5
 · rename_i h1;exact absurd e1 h1
theorem Vy{s f z:List Int}(h:(Ev n a s f z).2=0):(Ev n a s f z).1.s=a.s|||Au n:=by
 unfold Ev at h ⊢
 split at h
 · rename_i h1;rw[if_pos h1];rfl
 · rename_i h1;exact absurd h h1
theorem OS(h:a.shape=b.shape):Ct n a=Ct n b:=by unfold Ct;rw[h]
theorem DF{x y:Arr}(hx:x.s=a.s|||Au n)(hy:y.s=b.s|||Au m)(h':Ag o n=Ag o m)(h:Ag o a=Ag o b)(hv:n=m→a.shape=b.shape→Ag o x=Ag o y):Ag o x=Ag o y:=by
 rcases Ic h' with rfl | ⟨h3,h4⟩
 · rcases Ea h with ⟨h1,h2⟩ | ⟨_,_,_,h4,_⟩
   · exact C0 (by rw[hx,Cj,h1];rfl) (by rw[hy,Cj,h2];rfl)
   · exact hv rfl h4
 · exact C0 (by rw[hx,Cj,h3,Bool.and_false]) (by rw[hy,Cj,h4,Bool.and_false])
theorem Anr(h':Ag o n=Ag o m)(h:Ag o a=Ag o b)(e1:(I3 n a).2=0)(e2:(I3 m b).2=0):Ag o (I3 n a).1=Ag o (I3 m b).1:=by
 unfold I3 at e1 e2 ⊢
 split at e1
 · rename_i g1
   split at e2
   · rename_i g2
     rw[if_pos g1,if_pos g2]
     refine DF (Vy e1) (Vy e2) h' h (fun e he=> ?_)
     subst e
     rw[OS he]at e1 ⊢
     exact PN h e1 e2
   · rename_i g2;exact absurd e2 g2
 · rename_i g1;exact absurd e1 g1
theorem Ae6(h':Ag o n=Ag o m)(h:Ag o a=Ag o b)(e1:(Ij n a).2=0)(e2:(Ij m b).2=0):Ag o (Ij n a).1=Ag o (Ij m b).1:=by
 unfold Ij at e1 e2 ⊢
 split at e1
 · rename_i g1
   split at e2
   · rename_i g2
     rw[if_pos g1,if_pos g2]
     refine DF (Vy e1) (Vy e2) h' h (fun e he=> ?_)
     subst e
     rw[OS he]at e1 ⊢
     exact PN h e1 e2
   · rename_i g2;exact absurd e2 g2
 · rename_i g1;exact absurd e1 g1
end
theorem AfK{k:Int}(h:Bd k)(s:Al):A9 (Do k s)=([k],0):=by
 unfold A9 Do
 simp only[Arr.shape_mk,Arr.cells_mk]
 have:=SZ (l:=[k]) (fun x hx=>by simp at hx;subst hx;exact h)
 simp only[Ap7,List.map_nil]at this
 rw[this];rfl
theorem An2(k:Int)(s:Al):Au (Do k s)=s:=An1 [k] s
theorem CU{l:List Int}{s:Al}(hl:l.length≤100000)(h : ∀ x∈l,Bd x):Sml 1 (Db l s):=Sml.of (by simp[Db]) (by simp[Db];omega) (fun x hx=>by simp[Db]at hx;subst hx;exact Dk (by omega) (by omega)) (fun c hc=>by
 simp only[Db,Arr.cells_mk,List.mem_map]at hc
 obtain ⟨x,hx,rfl⟩:=hc
 exact Ku (h x hx) 0)
theorem AbG{α:Type}{s:Al}{sh:List Int}{l:List α}{f:α→Int}(h1:sh.length≤1048576)(h3 : ∀ x∈sh,Bd x)(hl:l.length≤2048)(hf : ∀ x∈l,-100000≤f x∧f x≤100000):Sml 1 (.mk s sh (l.map (fun c=>Bf (f c)))):=by
 refine Sml.of h1 (by simp only[Arr.cells_mk,Apd];omega) h3 (fun c hc=> ?_)
 simp only[Arr.cells_mk,List.mem_map]at hc
 obtain ⟨x,hx,rfl⟩:=hc
 exact Ku (Dk (hf x hx).1 (hf x hx).2) 0
theorem AfF{d:Nat}{a b:Arr}(hb:Sml (d+1) b)(la:a.cells.length≤2048)(lb:b.cells.length≤2048)(h0:(Kd a b).2=0):Sml 1 (Kd a b).1:=by
 unfold Kd at h0 ⊢
 split
 · exact AbG hb.1 hb.2.2.1 lb (fun c _=>by have:=XN (c:=c) la;split <;> omega)
 · rename_i h;rw[if_neg h]at h0;cases h0
theorem AgG{d:Nat}{a b:Arr}(ha:Sml (d+1) a)(la:a.cells.length≤2048):Sml 1 (P6 a b):=AbG ha.1 ha.2.2.1 la (fun c _=>by split <;> omega)
theorem AnZ{d:Nat}{a:Arr}(ha:Sml (d+1) a)(la:a.cells.length≤2048)(h0:(K1 a).2=0):Sml (d+1) (K1 a).1:=by
 unfold K1 at h0 ⊢
 split
 · rename_i h;rw[if_pos h]at h0;cases h0
 · exact MD (fun c hc=>ha.cell c (MY c hc)) (by have:= @MX a.cells a.cells 0;omega)
theorem AbW{d:Nat}{a b:Arr}{i:Bool}(ha:Sml (d+1) a)(la:a.cells.length≤2048)(h0:(Jr a b i).2=0):Sml (d+1) (Jr a b i).1:=by
 unfold Jr at h0 ⊢
 split
 · rename_i h;rw[if_pos h]at h0;cases h0
 · exact MD (fun c hc=>ha.cell c (CY c hc)) (by have:= @ML a.cells b.cells i;omega)
theorem AnY{d:Nat}{a b:Arr}(ha:Sml (d+1) a)(hb:Sml (d+1) b)(h0:(K0 a b).2=0):Sml (d+1) (K0 a b).1:=by
 unfold K0 at h0 ⊢
 split
 · rename_i h;rw[if_pos h]at h0;cases h0
 · rename_i h1
   rw[if_neg h1]at h0
   split
   · rename_i h;rw[if_pos h]at h0;cases h0
   · rename_i h2
     rw[if_neg h2]at h0
     split
     · rename_i h;rw[if_pos h]at h0;cases h0
     · rename_i h3
       refine MD (fun c hc=> ?_) (by simp only[Apn];omega)
       rcases Aqh.1 hc with hc | hc
       · exact ha.cell c hc
       · exact hb.cell c (CY c hc)
theorem TA(n:Arr):(Gn n).1 = .none∧(Gn n).2≠0∨∃ k:Nat,k≤2048∧Gn n=(Db (H_ k) (Au n),0):=by
 unfold Gn
 split
 · split
   · rename_i k hk
     split
     · exact .inl ⟨rfl,by decide⟩
     · split
       · exact .inl ⟨rfl,by decide⟩
       · exact .inr ⟨k.toNat,by omega,rfl⟩
   · exact .inl ⟨rfl,by decide⟩
 · rename_i h;exact .inl ⟨rfl,h⟩
theorem AfM{n:Arr}(h0:(Gn n).2=0):Sml 1 (Gn n).1:=by
 rcases TA n with ⟨_,h⟩ | ⟨k,hk,e⟩
 · exact absurd h0 h
 · rw[e];exact CU (by rw[DK];omega) (Acv hk)
section
variable {o:Al} {a b n m x y:Arr}
theorem Rq(hx:x.s=Eu a n)(hy:y.s=Eu b m)(h:Ag o a=Ag o b)(h':Ag o n=Ag o m)(hv:a=b→n=m→x=y):Ag o x=Ag o y:=by
 rcases Ic h with e | ⟨h1,h2⟩
 · rcases Ic h' with e' | ⟨h3,h4⟩
   · rw[hv e e']
   · exact C0 (by rw[hx,Eu,Cj,h3,Bool.and_false]) (by rw[hy,Eu,Cj,h4,Bool.and_false])
 · exact C0 (by rw[hx,Eu,Cj,h1];rfl) (by rw[hy,Eu,Cj,h2];rfl)
theorem Y_(hx:x.s=Au a)(hy:y.s=Au b)(h:Ag o a=Ag o b)(hv:a=b→x=y):Ag o x=Ag o y:=by
 rcases Ic h with e | ⟨h1,h2⟩
 · rw[hv e]
 · exact C0 (by rw[hx,h1]) (by rw[hy,h2])
end
theorem ST{a b:Arr}(h:(Kd a b).2=0):(Kd a b).1.s=Eu a b:=by
 unfold Kd at h ⊢; split
 · rfl
 · rename_i g;rw[if_neg g]at h;cases h
theorem Acp{a:Arr}(h:(K1 a).2=0):(K1 a).1.s=Au a:=by
 unfold K1 at h ⊢; split
 · rename_i g;rw[if_pos g]at h;cases h
 · rfl
theorem CZ{a b:Arr}{i:Bool}(h:(Jr a b i).2=0):(Jr a b i).1.s=Eu a b:=by
 unfold Jr at h ⊢; split
 · rename_i g;rw[if_pos g]at h;cases h
 · rfl
theorem Aco{a b:Arr}(h:(K0 a b).2=0):(K0 a b).1.s=Eu a b:=by
 unfold K0 at h ⊢
 split
 · rename_i g;rw[if_pos g]at h;cases h
 · rename_i g1
   rw[if_neg g1]at h
   split
   · rename_i g;rw[if_pos g]at h;cases h
   · rename_i g2
     rw[if_neg g2]at h
     split
     · rename_i g;rw[if_pos g]at h;cases h
     · rfl
theorem TB{n:Arr}(h:(Gn n).2=0):(Gn n).1.s=Au n:=by
 rcases TA n with ⟨_,h'⟩ | ⟨k,hk,e⟩
 · exact absurd h h'
 · rw[e];rfl
def Tells(t:Tree)(Q:Bool→Prop):Prop:=∃ b,Tw t [.bool b]∧Q b
theorem Tells.ret {b:Bool} {Q:Bool→Prop} (h:Q b):Tells (.ret [D.bool b]) Q:=⟨b,Ac rfl,h⟩
theorem Tells.br {c:Bool} {t e:Tree} {Q:Bool→Prop} (h1:c=true→Tells t Q) (h2:c=false→Tells e Q):Tells (.br c t e) Q:=by
 cases h:c with
 | true=>obtain ⟨b,h3,h4⟩:=h1 h;exact ⟨b,Bo rfl h3,h4⟩
 | false=>obtain ⟨b,h3,h4⟩:=h2 h;exact ⟨b,Ej rfl h3,h4⟩
theorem Tells.decs {c:Prop} [Decidable c] {t e:Tree} {Q:Bool→Prop} (h1:c→Tells t Q) (h2 : ¬ c→Tells e Q):Tells (.br (decide c) t e) Q:=Tells.br (fun h=>h1 (of_decide_eq_true h)) (fun h=>h2 (of_decide_eq_false h))
theorem Tells.dec {c:Prop} [Decidable c] {t e:Tree} {Q:Bool→Prop} (h:c) (h1:Tells t Q):Tells (.br (decide c) t e) Q:=Tells.decs (fun _=>h1) (fun h2=>absurd h h2)
theorem Tells.call {f:Nat} {xs ys:List D} {k:List D→Tree} {Q:Bool→Prop} (hs:Sp f xs ys) (hk:Tells (k ys) Q):Tells (.call f [] xs k) Q:=by
 obtain ⟨b,h1,h2⟩:=hk
 exact ⟨b,Aa hs h1,h2⟩
theorem Tells.mono {t:Tree} {Q R:Bool→Prop} (h:Tells t Q) (hq : ∀ b,Q b→R b):Tells t R:=by
 obtain ⟨b,h1,h2⟩:=h
 exact ⟨b,h1,hq b h2⟩
theorem Al3{d:Nat}{c:Cell}(h:Bi d c=true) : ∀ x∈c.inn,∃ e,d=e+1∧Aj e x=true:=by
 intro x hx
 rcases Kp h with ⟨_,_,g,_⟩ | ⟨_,_,g⟩ | ⟨_,_,_,y,e,g1,g2,_,g3⟩
 · rw[g]at hx;cases hx
 · rw[g]at hx;cases hx
 · rw[g2]at hx
   have:x=y:=by simpa using hx
   subst this
   exact ⟨e,g1,g3⟩
theorem Agh(n:Nat)(f0 a1:D)(b2 c3:D)(d4 o5:D):fA [] n 4 [] [f0,a1,b2,c3,d4,o5] =
 cK 8 [a1] fun Y1 =>
 .br (!((qA Y1).toBool)) (cK 9 [] fun Y2 =>
 .ret [D.bool ((qA Y2).toBool)])
 (cK 8 [b2] fun Y3 =>
 .br (!((qA Y3).toBool)) (cK 9 [] fun Y4 =>
 .ret [D.bool ((qA Y4).toBool)])
 (cK 8 [c3] fun Y5 =>
 .br (!((qA Y5).toBool)) (cK 9 [] fun Y6 =>
 .ret [D.bool ((qA Y6).toBool)])
 (cK 8 [d4] fun Y7 =>
 .br (!((qA Y7).toBool)) (cK 9 [] fun Y8 =>
 .ret [D.bool ((qA Y8).toBool)])
 (cK 14 [a1,b2,D.int o5.toInt] fun Y9 =>
 .br (!((qA Y9).toBool)) (cK 9 [] fun Y10 =>
 .ret [D.bool ((qA Y10).toBool)])
 (cK 14 [c3,d4,D.int o5.toInt] fun Y11 =>
 .br (!((qA Y11).toBool)) (cK 9 [] fun Y12 =>
 .ret [D.bool ((qA Y12).toBool)])
 (cK 15 [D.int f0.toInt,a1] fun Y13 =>
 cK 15 [D.int f0.toInt,b2] fun Y14 =>
 .br (((qB Y13).toInt)==0) (.br (((qB Y14).toInt)==0) (cK 14 [qA Y13,qA Y14,D.int o5.toInt] fun Y15 =>
 .br (!((qA Y15).toBool)) (.ret [D.bool false])
 (cK 10 [D.int f0.toInt,a1,c3] fun Y16 =>
 cK 10 [D.int f0.toInt,b2,d4] fun Y17 =>
 .br (((qB Y16).toInt)!=0) (cK 9 [] fun Y18 =>
 .ret [D.bool ((qA Y18).toBool)])
 (.br (((qB Y17).toInt)!=0) (cK 9 [] fun Y19 =>
 .ret [D.bool ((qA Y19).toBool)])
 (cK 14 [qA Y16,qA Y17,D.int o5.toInt] fun Y20 =>
 .br ((qA Y20).toBool) (cK 9 [] fun Y21 =>
 .ret [D.bool ((qA Y21).toBool)])
 (.ret [D.bool false])))))
 (cK 10 [D.int f0.toInt,a1,c3] fun Y22 =>
 cK 10 [D.int f0.toInt,b2,d4] fun Y23 =>
 .br (((qB Y22).toInt)!=0) (cK 9 [] fun Y24 =>
 .ret [D.bool ((qA Y24).toBool)])
 (.br (((qB Y23).toInt)!=0) (cK 9 [] fun Y25 =>
 .ret [D.bool ((qA Y25).toBool)])
 (cK 14 [qA Y22,qA Y23,D.int o5.toInt] fun Y26 =>
 .br ((qA Y26).toBool) (cK 9 [] fun Y27 =>
 .ret [D.bool ((qA Y27).toBool)])
 (.ret [D.bool false])))))
 (cK 10 [D.int f0.toInt,a1,c3] fun Y28 =>
 cK 10 [D.int f0.toInt,b2,d4] fun Y29 =>
 .br (((qB Y28).toInt)!=0) (cK 9 [] fun Y30 =>
 .ret [D.bool ((qA Y30).toBool)])
 (.br (((qB Y29).toInt)!=0) (cK 9 [] fun Y31 =>
 .ret [D.bool ((qA Y31).toBool)])
 (cK 14 [qA Y28,qA Y29,D.int o5.toInt] fun Y32 =>
 .br ((qA Y32).toBool) (cK 9 [] fun Y33 =>
 .ret [D.bool ((qA Y33).toBool)])
 (.ret [D.bool false])))))))))):=by kernel_rfl
theorem TO(n:Nat)(a0:D):fA [] n 8 [] [a0] =
 cK 30 [a0] fun Y1 =>
 .br ((qA Y1).toBool) (cK 31 [a0] fun Y2 =>
 .ret [D.bool ((qA Y2).toBool)])
 (.ret [D.bool false]):=by kernel_rfl
theorem Agj(n:Nat):fA [] n 9 [] [] =
 cK 32 [D.int 2,D.int 0] fun Y1 =>
 cK 33 [D.sl [D.int 5,D.int 6,D.int 7],D.int 0] fun Y2 =>
 cK 10 [D.int 8835,qA Y1,qA Y2] fun Y3 =>
 .br (((qB Y3).toInt)==0) (cK 32 [D.int 6,D.int 0] fun Y4 =>
 cK 34 [qA Y3,qA Y4] fun Y5 =>
 .br ((qA Y5).toBool) (cK 26 [D.int 9076,D.bool false] fun Y6 =>
 .br ((qA Y6).toBool) (cK 26 [D.int 42,D.bool false] fun Y7 =>
 .ret [D.bool (!((qA Y7).toBool))])
 (.ret [D.bool false]))
 (.ret [D.bool false]))
 (.ret [D.bool false]):=by kernel_rfl
def Ir:List (Nat×Orc):=[(4,⟨[(1,none),(3,none)],[(1,true)],[]⟩),(11,⟨[(1,none),(3,none),(4,none),(7,none)],[(1,true),(4,true)],[]⟩)]
noncomputable def Pw(n m4 m11:Nat)(i3 j7:Int)(a1 c4:D):Tree :=
 lA (eA Ir n 31 [1,1,0,1,0,0,1,0,0,1,1,1,1,0,0]) (An Ir 11) m11 ⟨(.undef:: .ptr 1 []:: .undef:: .i .i64 i3:: .ptr 4 []:: .undef:: .undef:: .i .i64 j7::uA 59),[(1,.var 26 (.d 26 a1) true),(4,.var 67 (.d 67 c4) true)],[1,4],[],[]⟩
  (Ak 2 (Ak 1 (Aq (jA Ir n 31 [1,1,0,1,0,0,1,1]) (Gb Tryz.prog md (An Ir 4) (fun s1=>lA (eA Ir n 31 [1,1,0,1,0,0]) (An Ir 4) m4 s1 (Ak 0 (Aq (jA Ir n 31 [1,1,1]) (rA 31 [26] [.tmp 2] [4])))) (Ak 0 (Aq (jA Ir n 31 [1,1,1]) (rA 31 [26] [.tmp 2] [4])))))))
noncomputable def Px(n m4:Nat)(i3:Int)(a1:D):Tree :=
 lA (eA Ir n 31 [1,1,0,1,0,0]) (An Ir 4) m4 ⟨(.undef:: .ptr 1 []:: .undef:: .i .i64 i3::uA 63),[(1,.var 26 (.d 26 a1) true)],[1],[],[]⟩
  (Ak 0 (Aq (jA Ir n 31 [1,1,1]) (rA 31 [26] [.tmp 2] [4])))
theorem Age(n m4 m11:Nat)(i3 j7:Int)(a1 c4:D):Pw n m4 (m11+1) i3 j7 a1 c4 =
 bK (j7<(((c4.fld 4).els).length:Int)) (kK (0≤j7) (kK (j7<(((c4.fld 4).els).length:Int)) (cK 31 [((c4.fld 4).els).getD (Apa j7) D.nil] fun Y2 =>
 .br (!((qA Y2).toBool)) (.ret [D.bool false])
 (Pw n m4 m11 i3 (Aom .i64 (j7+1)) a1 c4))))
 (Px n m4 (Aom .i64 (i3+1)) a1):=by kernel_rfl
theorem Agf(n m4:Nat)(i3:Int)(a1:D):Px n (m4+1) i3 a1 =
 bK (i3<(((a1.fld 2).els).length:Int)) (kK (0≤i3) (kK (i3<(((a1.fld 2).els).length:Int)) (cK 77 [(((a1.fld 2).els).getD (Apa i3) D.nil).fld 2] fun Y1 =>
 bK (2<(((((((a1.fld 2).els).getD (Apa i3) D.nil).fld 2).fld 1).els).length:Int)) (.ret [D.bool false])
 (bK (2<(((((((a1.fld 2).els).getD (Apa i3) D.nil).fld 2).fld 2).els).length:Int)) (.ret [D.bool false])
 (.br ((qB Y1).toBool) (bK (300<((qA Y1).toInt)) (.ret [D.bool false])
 (bK (((qA Y1).toInt)<(-300)) (.ret [D.bool false])
 (Pw n m4 n i3 0 a1 (((a1.fld 2).els).getD (Apa i3) D.nil))))
 (Pw n m4 n i3 0 a1 (((a1.fld 2).els).getD (Apa i3) D.nil)))))))
 (.ret [D.bool true]):=by kernel_rfl
theorem Agg(n:Nat)(a0:D):fA Ir n 31 [] [a0] =
 bK (60<(((a0.fld 2).els).length:Int)) (.ret [D.bool false])
 (Px n n 0 a0):=by kernel_rfl
end Go.Proofs.YtokkbgpgaheakaaGreat
