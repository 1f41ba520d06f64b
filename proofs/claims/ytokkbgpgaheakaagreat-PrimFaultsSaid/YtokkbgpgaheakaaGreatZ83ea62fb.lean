/- Proved: lemmas for the law of this folder, part 7. No condition. -/
import Derived.Test.YtokkbgpgaheakaaGreatRows
import Derived.WalkKit
import Derived.WalkSpells
import Derived.WalkLawsBesides
import Derived.Lib.Hide
import Derived.Laws.CopyOwn
import Derived.Deep.QuietTactic
import Derived.BigQuiet
import Derived.Orders
import Derived.Defers
import Derived.Recover
import Derived.Test.YtokkbgpgaheakaaGreatProg
import Derived.KernelRfl
import Derived.ProofKit
import Derived.OpenShut
import Derived.Maps.OwnRows
import Derived.Maps.Views
import Derived.Deep.RegionHeld3
import Derived.Deep.AppendLies
import Derived.Test.YtokkbgpgaheakaaGreatZc6b1cbc5
set_option linter.unusedSimpArgs false
set_option linter.unusedVariables false
set_option maxRecDepth 100000
open Array renaming getElem?_eq_getElem → Amy, getElem?_eq_some_iff → Am8, getD_eq_getD_getElem? → Ana
open BitVec renaming ofNat → Amt
open Bool renaming and_eq_true → Ami
open Classical renaming not_not → Amn
open Int renaming toNat → Ama, toNat_natCast → Amj, fdiv → Am3
open Go.IntKind renaming wrap → Al6, bits → Aml
open List renaming getElem?_eq_getElem → Amb, replicate → Amc, length_map → Amd, getElem?_eq_some_iff → Ame, getD_eq_getElem?_getD → Amf, length_cons → Amg, mem_of_getElem? → Amh, length_append → Amm, length_drop → Amp, length_take → Amr, getElem?_map → Ams, length_nil → Amu, mem_cons → Amw, append_nil → Amx, append_assoc → Amz, getElem?_append_left → Am0, length_eq_zero_iff → Am1, drop_eq_getElem_cons → Am2, take_append_drop → Am6, take_of_length_le → Am7, range → Am9, length_replicate → Anf, getElem_mem → Anh, map_cons → Ani, all_eq_true → Ank, nil_append → Anm
open Nat renaming le_refl → Amo, mul_le_mul_right → Amv, mod_eq_of_lt → Am4, mod_lt → Am5, lt_of_lt_of_le → Am_, mul_comm → Anb, pow_succ → Anc, div_div_eq_div_mul → Ane, div_lt_iff_lt_mul → Anj, zero_add → Anl, lt_or_ge → Ann
open Option renaming map_eq_some_iff → Amq, bind_eq_some_iff → Ang
open Option.some renaming injEq → Amk
namespace Go.Proofs.YtokkbgpgaheakaaGreat
def kk(d:Nat)(cs:List Cell)(dn:Bool)(i j:Nat):Int:=if dn then H9 d (cs.getD j (Be 0)) (cs.getD i (Be 0)) else H9 d (cs.getD i (Be 0)) (cs.getD j (Be 0))
theorem LX{d:Nat}{cs:List Cell}(h : ∀ c∈cs,B8 d c=true)(i:Nat):B8 d (cs.getD i (Be 0))=true:=by
 rw[Amf]
 cases hg:cs[i]? with
 | none=>exact R0 d Vk
 | some c=>exact h c (Amh hg)
theorem R3{d:Nat}{cs:List Cell}{dn:Bool}(h : ∀ c∈cs,B8 d c=true):Sy (kk d cs dn):=by
 have r:=(XZ d).1
 have o:=LX h
 cases dn with
 | false=>exact ⟨fun x y _ _=>r.val _ _ (o x) (o y),fun x y _ _=>r.flip _ _ (o x) (o y),fun x y z _ _ _=>r.go _ _ _ (o x) (o y) (o z)⟩
 | true=>exact ⟨fun x y _ _=>r.val _ _ (o y) (o x),fun x y _ _=>r.flip _ _ (o y) (o x),fun x y z _ _ _ h1 h2=>r.go _ _ _ (o z) (o y) (o x) h2 h1⟩
abbrev D4(dn:Bool)(a:Arr):D:=D.fn 156 [.ref 4,.ref 26] [.ref (.bool dn),.ref (dA a)]
section
variable {d:Nat} {a:Arr} {dn:Bool} (ha : ∀ c∈a.cells,B8 d c=true)
include ha
theorem U9{i j:Nat}(hi:i<a.cells.length)(hj:j<a.cells.length):Dq Tryz.prog md 156 [.ref 4,.ref 26] [dP i,dP j,.ref (.bool dn),.ref (dA a)] [.int (kk d a.cells dn i j)]:=by
 have cell : ∀ i,i<a.cells.length→(a.cells.map dC).getD i D.nil=dC (a.cells.getD i (Be 0)):=fun i hi=>by
   rw[As (Amb hi),Amf,Amb hi];rfl
 have o:=LX ha
 refine Af 0 (Ad1 _ _ _ _ _) ?_
 simp only[AX,Az,CZ,Ds,ND,Amj,Amd,cell i hi,cell j hj]
 refine Bu (fun h=> ?_) (fun h=> ?_)
 · refine Ad (Ad (Ad (Ad (Aa ((EI d).1 _ _ (o j) (o i)) (Ac ?_)))))
   simp only[Ag,Al,kk,if_pos h]
 · refine Ad (Ad (Ad (Ad (Aa ((EI d).1 _ _ (o i) (o j)) (Ac ?_)))))
   simp only[Ag,Al,kk,h]
   rfl
theorem PN(A X B:List Nat)(hX:X.Pairwise (· < ·))(hin : ∀ x∈X,x<a.cells.length)(hlen:A.length+X.length+B.length≤100000):Sp 250 [.sl ((A++X++B).map dP),.int (A.length:Int),.int ((A.length+X.length:Nat):Int),D4 dn a] [.sl ((A++Bg (kk d a.cells dn) X++B).map dP)]:=by
 have hk:=R3 (dn:=dn) ha
 generalize hkk:kk d a.cells dn=k at *
 refine Af 200000 (Akt _ _ _ _ _ _) ?_
 simp only[Ds,Al]
 have outer : ∀ (m t:Nat),t≤X.length→1≤t∨X.length=0→X.length-t<m→Tw (O7 200000 m ((A++Bg k (X.take t)++X.drop t++B).map dP) (A.length:Int) ((A.length+X.length:Nat):Int) (D4 dn a) ((A.length+t:Nat):Int)) [.sl ((A++Bg k X++B).map dP)]:=by
   intro m
   induction m with
   | zero=>intro t _ _ h;omega
   | succ m ih =>
    intro t ht h1 hm
    simp only[ZV]
    by_cases he:t<X.length
    · refine Ad ?_
      have hd:X.drop t=X[t]::X.drop (t+1):=Am2 he
      have hy:X[t]∈X:=Anh he
      have hyl:=hin _ hy
      have htk:X.take (t+1)=X.take t++[X[t]]:=by rw[List.take_add_one,Amb he];rfl
      have hlt : ∀ z∈X.take t,z<X[t]:=fun z hz=>by
       obtain ⟨j,hj,rfl⟩:=List.mem_iff_getElem.1 hz
       rw[Amr]at hj
       rw[List.getElem_take]
       exact List.pairwise_iff_getElem.1 hX j t (by omega) he (by omega)
      have hZs:=Jp hk (X.take t)
      have hZm : ∀ z∈Bg k (X.take t),z<X[t]∧z<a.cells.length:=fun z hz=>⟨hlt z (Hc.1 hz),hin z (List.mem_of_mem_take (Hc.1 hz))⟩
      have hZl:(Bg k (X.take t)).length=t:=by rw[Df,Amr];omega
      have hZp:=Jo k (X.take t)
      have nxt : ∀ Z,Z.Perm (X.take (t+1))→Z.Pairwise (Bt k)→Tw (O7 200000 m ((A++Z++X.drop (t+1)++B).map dP) (A.length:Int) ((A.length+X.length:Nat):Int) (D4 dn a) ((A.length+(t+1):Nat):Int)) [.sl ((A++Bg k X++B).map dP)]:=fun Z h1 h2=>by
       rw[← Kf hk h1 h2]
       exact ih (t+1) (by omega) (by omega) (by omega)
      rw[hd]
      generalize X[t]=y at *
      generalize Bg k (X.take t)=Z at *
      have hw:Al6 .i64 (((A.length+t:Nat):Int)+1)=((A.length+(t+1):Nat):Int):=by rw[At (by omega) (by omega)];omega
      have inner:=Ii (P:=Tryz.prog) (md:=md) (fun q j (_:Unit)=>AA 200000 m q ((A++Z.take j++y::(Z.drop j++X.drop (t+1)++B)).map dP) (A.length:Int) ((A.length+X.length:Nat):Int) (D4 dn a) ((A.length+t:Nat):Int) ((A.length+j:Nat):Int)) (fun _ _=>[.sl ((A++Bg k X++B).map dP)]) (fun j _=>j≤t∧∀ z∈Z.drop j,¬ Bt k z y)
       (fun q s hI=>by
        simp only[ZW,hw]
        refine Aq ?_
        have:=nxt (y::Z) (by rw[htk];exact (hZp.cons y).trans (List.perm_append_singleton y _).symm) (List.pairwise_cons.2 ⟨fun z hz=>Mb hk (hI.2 z (by simpa using hz)),hZs⟩)
        simpa using this)
       (fun q j s hI ih'=>by
        obtain ⟨hj,hd2⟩:=hI
        have hjl:j<Z.length:=by omega
        have hz:Z[j]∈Z:=Anh hjl
        have e1:Z.take (j+1)=Z.take j++[Z[j]]:=by rw[List.take_add_one,Amb hjl];rfl
        have e2:Z.drop j=Z[j]::Z.drop (j+1):=Am2 hjl
        have hzl:=hZm _ hz
        have hsl:=Sj hk (z:=y) hZs (Amb hjl)
        rw[e1]
        rw[e2]at ih'
        generalize Z[j]=z at *
        have tl:(Z.take j).length=j:=by rw[Amr];omega
        have hdl:(Z.drop (j+1)).length=t-(j+1):=by rw[Amp];omega
        have ed:A++(Z.take j++[z])++y::(Z.drop (j+1)++X.drop (t+1)++B)=(A++Z.take j)++z::([]++y::(Z.drop (j+1)++X.drop (t+1)++B)):=by simp
        have w1:Al6 .i64 (((A.length+(j+1):Nat):Int)-1)=((A.length+j:Nat):Int):=by rw[At (by omega) (by omega)];omega
        have al:(A++Z.take j).length=A.length+j:=by rw[Amm,tl]
        have bl:A.length+(t+1)≤A.length+X.length:=by omega
        have dl:(X.drop (t+1)).length=X.length-(t+1):=by rw[Amp]
        rw[ed]
        simp only[ZW,w1,hw,Amj,Gx,Gv,Gw,List.cons_append,Pq (show A.length+j=(A++Z.take j).length from al.symm),Td (M:=[]) (show A.length+(j+1)=(A++Z.take j).length+1+([]:List Nat).length by rw[al];simp;omega),Amd,List.length_set]
        have hll:(A++Z.take j++z::([]++y::(Z.drop (j+1)++X.drop (t+1)++B))).length=A.length+X.length+B.length:=by simp only[Amm,Amg,Amu,tl,hdl,dl];omega
        simp only[List.cons_append,Anm]at hll
        simp only[Anm,hll]
        refine Ad (Ad (Ad (Ad (Ad (Aa (U9 (dn:=dn) ha hyl hzl.2) ?_)))))
        simp only[Ag,Al,hkk]
        refine Ae (fun h=> ?_) (fun h=> ?_)
        · have hn:=(K1 hk hzl.1).1 h
          refine Ad (Ad (Ad (Ad (Ad (Ad (Ad (Ad ?_)))))))
          have sw:=Aam (A:=A++Z.take j) (M:=[]) (x:=z) (y:=y) (B:=Z.drop (j+1)++X.drop (t+1)++B) (i:=A.length+j) (j:=A.length+(j+1)) al.symm (by rw[al];simp;omega)
          simp only[Anm]at sw
          have sw2:(((A++Z.take j++z::y::(Z.drop (j+1)++X.drop (t+1)++B)).map dP).set (A.length+(j+1)) (D.int (dP z).toInt)).set (A.length+j) (D.int (dP y).toInt)=_:=sw
          rw[sw2]
          have:=ih' () ⟨by omega,fun x hx=>by
           rcases Amw.1 hx with rfl | hx
           · exact hn
           · exact hd2 x hx⟩
          simpa using this
        · have hp:Bt k z y:=Amn.1 (fun hh=>h ((K1 hk hzl.1).2 hh))
          have:=nxt (Z.take (j+1)++y::Z.drop (j+1)) (by
            rw[htk]
            refine List.Perm.trans ?_ (hZp.append_right [y])
            refine List.Perm.trans List.perm_middle ?_
            rw[Am6]
            exact (List.perm_append_singleton y _).symm) (AI (hZs.sublist (List.take_sublist _ _)) (List.pairwise_cons.2 ⟨fun x hx=>Mb hk (hd2 x hx),hZs.sublist (List.drop_sublist _ _)⟩) (fun x hx w hw=>by
            have h1:=hsl hp x hx
            rcases Amw.1 hw with rfl | hw
            · exact h1
            · exact N5 hk h1 (Mb hk (hd2 w hw))))
          rw[e1]at this
          simpa using this)
       200000 t () (by omega) ⟨Amo _,fun z hz=>by rw[List.drop_of_length_le (by omega)]at hz;cases hz⟩
      rw[Am7 (by omega),List.drop_of_length_le (by omega)]at inner
      simpa using inner
    · refine Aq (Ac ?_)
      rw[Am7 (by omega),List.drop_of_length_le (by omega)]
      simp
 by_cases h0:X.length=0
 · have hX0:=Am1.1 h0
   subst hX0
   rw[At (by omega) (by simp at hlen;omega)]
   simp only[ZV]
   exact M4 (by simp only[Amu];omega) (Ac (by simp[Bg]))
 · have:=outer 200000 1 (by omega) (by omega) (by omega)
   rw[AkD (by rw[Amr];omega)]at this
   rw[show A++X.take 1++X.drop 1++B=A++X++B by rw[Amz A,Am6]]at this
   rw[show Al6 .i64 ((A.length:Int)+1)=((A.length+1:Nat):Int) by rw[At (by omega) (by omega)];rfl]
   exact this
omit ha in
theorem JT(A U M V B:List Nat)(n:Nat)(hu:U.length=n)(hv:V.length=n)(hlen:A.length+n+M.length+n+B.length≤100000):Sp 322 [.sl ((A++U++M++V++B).map dP),.int (A.length:Int),.int ((A.length+n+M.length:Nat):Int),.int (n:Int),D4 dn a] [.sl ((A++V++M++U++B).map dP)]:=by
 refine Af 200000 (Ak0 _ _ _ _ _ _ _) ?_
 simp only[Ds,Al]
 have key:=Cw n (fun m i (_:Unit)=>AF 200000 m ((A++(V.take i++U.drop i)++M++(U.take i++V.drop i)++B).map dP) (A.length:Int) ((A.length+n+M.length:Nat):Int) (n:Int) (i:Int)) (fun _ _=>[.sl ((A++V++M++U++B).map dP)]) (fun _ _=>True)
  (fun m s _=>by
   simp only[ZX]
   refine Aq (Ac ?_)
   rw[Am7 (by omega),Am7 (by omega),List.drop_of_length_le (by omega),List.drop_of_length_le (by omega)]
   simp)
  (fun m i s hi _ ih=>by
   have ih:=ih () trivial
   have e1:U.take (i+1)=U.take i++[U[i]'(by omega)]:=by rw[List.take_add_one,Amb (by omega)];rfl
   have e2:V.take (i+1)=V.take i++[V[i]'(by omega)]:=by rw[List.take_add_one,Amb (by omega)];rfl
   have e3:U.drop i=U[i]'(by omega)::U.drop (i+1):=Am2 (by omega)
   have e4:V.drop i=V[i]'(by omega)::V.drop (i+1):=Am2 (by omega)
   rw[e1,e2]at ih
   rw[e3,e4]
   generalize U[i]'(by omega)=u at *
   generalize V[i]'(by omega)=v at *
   have t1:(V.take i).length=i:=by rw[Amr];omega
   have t2:(U.take i).length=i:=by rw[Amr];omega
   have t3:(U.drop (i+1)).length=n-(i+1):=by rw[Amp];omega
   have t4:(V.drop (i+1)).length=n-(i+1):=by rw[Amp];omega
   have al:(A++V.take i).length=A.length+i:=by rw[Amm,t1]
   have ml:(U.drop (i+1)++M++U.take i).length=n-1+M.length:=by simp only[Amm,t3,t2];omega
   have ed:A++(V.take i++u::U.drop (i+1))++M++(U.take i++v::V.drop (i+1))++B=(A++V.take i)++u::((U.drop (i+1)++M++U.take i)++v::(V.drop (i+1)++B)):=by simp
   have hll:((A++V.take i)++u::((U.drop (i+1)++M++U.take i)++v::(V.drop (i+1)++B))).length=A.length+n+M.length+n+B.length:=by rw[Amm,al,Amg,Amm,ml,Amg,Amm,t4];omega
   have w1:Al6 .i64 (((A.length+n+M.length:Nat):Int)+(i:Int))=((A.length+n+M.length+i:Nat):Int):=by rw[At (by omega) (by omega)];omega
   have w2:Al6 .i64 ((A.length:Int)+(i:Int))=((A.length+i:Nat):Int):=by rw[At (by omega) (by omega)];omega
   rw[ed]
   have sw:=Aan (A:=A++V.take i) (M:=U.drop (i+1)++M++U.take i) (x:=u) (y:=v) (B:=V.drop (i+1)++B) (i:=A.length+i) (j:=A.length+n+M.length+i) al.symm (by rw[al,ml];omega)
   simp only[ZX,w1,w2,Amj,Pq (show A.length+i=(A++V.take i).length from al.symm),Td (show A.length+n+M.length+i=(A++V.take i).length+1+(U.drop (i+1)++M++U.take i).length by rw[al,ml];omega),Amd,List.length_set,hll,Bb i]
   have sw2:((((A++V.take i)++u::((U.drop (i+1)++M++U.take i)++v::(V.drop (i+1)++B))).map dP).set (A.length+i) (D.int (dP v).toInt)).set (A.length+n+M.length+i) (D.int (dP u).toInt)=_:=sw
   rw[sw2]
   refine Ad (Ad (Ad (Ad (Ad (Ad (Ad (Ad (Ad ?_))))))))
   simpa using ih)
  200000 0 () (by omega) (by omega) trivial
 simpa using key
omit ha in
theorem Aji(A X Y B:List Nat)(hx:1≤X.length)(hy:1≤Y.length)(hlen:A.length+X.length+Y.length+B.length≤100000):Sp 300 [.sl ((A++X++Y++B).map dP),.int (A.length:Int),.int ((A.length+X.length:Nat):Int),.int ((A.length+X.length+Y.length:Nat):Int),D4 dn a] [.sl ((A++Y++X++B).map dP)]:=by
 refine Af 200000 (Akv _ _ _ _ _ _ _) ?_
 simp only[Ds,Al]
 have key : ∀ (m:Nat) (mm:Nat) (A U V B:List Nat),U.length+V.length<m→1≤U.length→1≤V.length→A.length+U.length=mm→A.length+U.length+V.length+B.length≤100000→Tw (R6 200000 m ((A++U++V++B).map dP) (mm:Int) (D4 dn a) (U.length:Int) (V.length:Int)) [.sl ((A++V++U++B).map dP)]:=by
  intro m
  induction m with
  | zero=>intro mm A U V B h;omega
  | succ m ih =>
   intro mm A U V B hm h1 h2 hmm hl
   simp only[Aku,C0]
   have w1:Al6 .i64 ((mm:Int)-(U.length:Int))=(A.length:Int):=by rw[At (by omega) (by omega)];omega
   rw[w1]
   refine Ae (fun hne=>Ae (fun hlt=> ?_) (fun hlt=> ?_)) (fun he=> ?_)
   ·
     have hsp:=JT (dn:=dn) (a:=a) A (U.take V.length) (U.drop V.length) V B V.length (by rw[Amr];omega) rfl (by rw[Amp];omega)
     rw[show A++U.take V.length++U.drop V.length++V++B=A++U++V++B by rw[Amz A,Am6]]at hsp
     rw[show A.length+V.length+(U.drop V.length).length=mm by rw[Amp];omega]at hsp
     refine Aa hsp ?_
     have:=ih mm (A++V) (U.drop V.length) (U.take V.length) B (by rw[Amp,Amr];omega) (by rw[Amp];omega) (by rw[Amr];omega) (by rw[Amm,Amp];omega) (by rw[Amm,Amp,Amr];omega)
     rw[show (A++V)++U.take V.length++U.drop V.length++B=A++V++U++B by rw[Amz (A++V),Am6]]at this
     rw[show (U.drop V.length).length=U.length-V.length by rw[Amp],show (U.take V.length).length=V.length by rw[Amr];omega]at this
     rw[show Al6 .i64 ((U.length:Int)-(V.length:Int))=((U.length-V.length:Nat):Int) by rw[At (by omega) (by omega)];omega]
     exact this
   · have hq:U.length<V.length:=by omega
     have hsp:=JT (dn:=dn) (a:=a) A U (V.take (V.length-U.length)) (V.drop (V.length-U.length)) B U.length rfl (by rw[Amp];omega) (by rw[Amr];omega)
     rw[show A++U++V.take (V.length-U.length)++V.drop (V.length-U.length)++B=A++U++V++B by rw[Amz (A++U),Am6]]at hsp
     rw[show A.length+U.length+(V.take (V.length-U.length)).length=mm+V.length-U.length by rw[Amr];omega]at hsp
     rw[show Al6 .i64 ((Al6 .i64 ((mm:Int)+(V.length:Int)))-(U.length:Int))=((mm+V.length-U.length:Nat):Int) by rw[At (x:=(mm:Int)+(V.length:Int)) (by omega) (by omega),At (by omega) (by omega)];omega]
     refine Aa hsp ?_
     have:=ih mm A (V.drop (V.length-U.length)) (V.take (V.length-U.length)) (U++B) (by rw[Amp,Amr];omega) (by rw[Amp];omega) (by rw[Amr];omega) (by rw[Amp];omega) (by rw[Amm,Amp,Amr];omega)
     rw[show A++V.take (V.length-U.length)++V.drop (V.length-U.length)++(U++B)=A++V++U++B by rw[Amz A,Am6];simp]at this
     rw[show A++V.drop (V.length-U.length)++V.take (V.length-U.length)++(U++B)=A++V.drop (V.length-U.length)++V.take (V.length-U.length)++U++B by simp]at this
     rw[show (V.drop (V.length-U.length)).length=U.length by rw[Amp];omega,show (V.take (V.length-U.length)).length=V.length-U.length by rw[Amr];omega]at this
     rw[show Al6 .i64 ((V.length:Int)-(U.length:Int))=((V.length-U.length:Nat):Int) by rw[At (by omega) (by omega)];omega]
     exact this
   · have he:U.length=V.length:=by omega
     have hsp:=JT (dn:=dn) (a:=a) A U [] V B U.length rfl he.symm (by simp;omega)
     simp only[Amx,Amu,Nat.add_zero,hmm]at hsp
     exact Aa hsp (Ac rfl)
 rw[show Al6 .i64 (((A.length+X.length:Nat):Int)-(A.length:Int))=(X.length:Int) by rw[At (by omega) (by omega)];omega,show Al6 .i64 (((A.length+X.length+Y.length:Nat):Int)-((A.length+X.length:Nat):Int))=(Y.length:Int) by rw[At (by omega) (by omega)];omega]
 exact key 200000 _ A X Y B (by omega) hx hy rfl hlen
end
theorem SS{p:Prop}{i:Decidable p}(h:(!(@decide p i))=true) : ¬ p:=by
 cases h' : @decide p i
 · exact of_decide_eq_false h'
 · rw[h']at h;cases h
theorem SR{p:Prop}{i:Decidable p}(h:(!(@decide p i))=false):p:=by
 cases h' : @decide p i
 · rw[h']at h;cases h
 · exact of_decide_eq_true h'
theorem Nv{A Y B:List Nat}{t i:Nat}{y:Nat}(h:Y[t]? = some y)(hi:i=A.length+t):((A++Y++B).map dP).getD i D.nil=dP y:=by
 obtain ⟨ht,rfl⟩:=Ame.1 h
 subst hi
 rw[Amf,Ams,Amz,List.getElem?_append_right (by omega),Nat.add_sub_cancel_left,Am0 ht,Amb ht]
 rfl
theorem Aar{l:List Nat}{t:Nat}(h:t<l.length):l.take (t+1)=l.take t++[l[t]]:=by rw[List.take_add_one,Amb h];rfl
section
variable {d:Nat} {a:Arr} {dn:Bool} (ha : ∀ c∈a.cells,B8 d c=true)
include ha
theorem AkK(A:List Nat)(x:Nat)(Y B:List Nat)(hY:Y.Pairwise (Bt (kk d a.cells dn)))(hlt : ∀ y∈Y,x<y)(hx:x<a.cells.length)(hin : ∀ y∈Y,y<a.cells.length)(hlen:A.length+1+Y.length+B.length≤100000) :
  ∀ m u v,v-u<m→u≤v→v≤Y.length→(∀ y∈Y.take u,Bt (kk d a.cells dn) y x)→(∀ y∈Y.drop v,Bt (kk d a.cells dn) x y)→Tw (R8 200000 m ((A++[x]++Y++B).map dP) (A.length:Int) (D4 dn a) ((A.length+1+u:Nat):Int) ((A.length+1+v:Nat):Int)) [.sl ((A++Bg (kk d a.cells dn) ([x]++Y)++B).map dP)]:=by
 have hk:=R3 (dn:=dn) ha
 intro m
 induction m with
 | zero=>intro u v h;omega
 | succ m ih =>
  intro u v hm huv hv h1 h2
  have hll:(A++[x]++Y++B).length=A.length+1+Y.length+B.length:=by simp only[Amm,Amg,Amu]
  simp only[Ak3]
  rw[Vf (by omega)]
  by_cases he:u<v
  · have hh:(A.length+1+u+(A.length+1+v)) / 2=A.length+1+(u+v) / 2:=by omega
    rw[hh]
    obtain ⟨h,hdef⟩ : ∃ h,h=(u+v) / 2:=⟨_,rfl⟩
    rw[← hdef]
    have b1:u≤h:=by omega
    have b2:h<v:=by omega
    have hy:Y[h]? = some (Y[h]'(by omega)):=Amb (by omega)
    have hmem:Y[h]'(by omega)∈Y:=Anh _
    generalize Y[h]'(by omega)=y at *
    have gy:((A++[x]++Y++B).map dP).getD (A.length+1+h) D.nil=dP y:=Nv (A:=A++[x]) hy (by simp)
    have gx:((A++[x]++Y++B).map dP).getD A.length D.nil=dP x:=by
      have:=Nv (A:=A) (Y:=[x]) (B:=Y++B) (t:=0) (i:=A.length) (y:=x) rfl rfl
      rw[Amz (A++[x])]
      exact this
    simp only[Amj,gy,gx,Gx,Gv,Gw,List.cons_append,Anm,Amd]
    simp only[List.cons_append,Anm,Amz]at hll
    simp only[List.cons_append,Anm,Amz,hll]
    refine Ad (Ad (Ad (Ad (Ad (Ad (Aa (U9 (dn:=dn) ha (hin y hmem) hx) ?_))))))
    simp only[Ag,Al]
    have w:Al6 .i64 (((A.length+1+h:Nat):Int)+1)=((A.length+1+(h+1):Nat):Int):=by rw[At (by omega) (by omega)];omega
    rw[w]
    have e1:=ih (h+1) v (by omega) (by omega) hv
    have e2:=ih u h (by omega) b1 (by omega) h1
    simp only[List.cons_append,Anm,Amz]at e1 e2
    refine Ae (fun g=> ?_) (fun g=> ?_)
    · have:=Mb hk ((K1 hk (hlt y hmem)).1 g)
      exact e1 (Sj hk hY hy this) h2
    · have:Bt (kk d a.cells dn) x y:=Amn.1 (fun hh=>g ((K1 hk (hlt y hmem)).2 hh))
      exact e2 (U8 hk hY hy this)
  · have:u=v:=by omega
    subst this
    refine Aq ?_
    have hs:Bg (kk d a.cells dn) ([x]++Y)=Y.take u++x::Y.drop u:=Kf hk (by
       refine List.Perm.trans List.perm_middle ?_
       rw[Am6];exact List.Perm.refl _) (AI (hY.sublist (List.take_sublist _ _)) (List.pairwise_cons.2 ⟨h2,hY.sublist (List.drop_sublist _ _)⟩) (fun y hy z hz=>by
       rcases Amw.1 hz with rfl | hz
       · exact h1 y hy
       · exact N5 hk (h1 y hy) (h2 z hz)))
    rw[hs]
    have key:=Cw u (fun q i (_:Unit)=>AH 200000 q ((A++Y.take i++x::(Y.drop i++B)).map dP) ((A.length+1+u:Nat):Int) ((A.length+i:Nat):Int)) (fun _ _=>[.sl ((A++(Y.take u++x::Y.drop u)++B).map dP)]) (fun _ _=>True)
      (fun q s _=>by
       have w:Al6 .i64 (((A.length+1+u:Nat):Int)-1)=((A.length+u:Nat):Int):=by rw[At (by omega) (by omega)];omega
       simp only[ZZ,w]
       refine Aq (Ac ?_)
       simp)
      (fun q i s hi _ ih'=>by
       have ih':=ih' () trivial
       have hil:i<Y.length:=by omega
       rw[Aar hil]at ih'
       have e4:Y.drop i=Y[i]::Y.drop (i+1):=Am2 hil
       rw[e4]
       generalize Y[i]=y at *
       have t1:(Y.take i).length=i:=by rw[Amr];omega
       have t4:(Y.drop (i+1)).length=Y.length-(i+1):=by rw[Amp]
       have al:(A++Y.take i).length=A.length+i:=by rw[Amm,t1]
       have w:Al6 .i64 (((A.length+1+u:Nat):Int)-1)=((A.length+u:Nat):Int):=by rw[At (by omega) (by omega)];omega
       have w2:Al6 .i64 (((A.length+i:Nat):Int)+1)=((A.length+i+1:Nat):Int):=by rw[At (by omega) (by omega)];omega
       have hll2:(A++Y.take i++x::(y::Y.drop (i+1)++B)).length=A.length+1+Y.length+B.length:=by rw[Amm,al,Amg,Amm,Amg,t4];omega
       have sw:=Aan (A:=A++Y.take i) (M:=[]) (x:=x) (y:=y) (B:=Y.drop (i+1)++B) (i:=A.length+i) (j:=A.length+i+1) al.symm (by rw[al];rfl)
       have g1:=Pq (A:=A++Y.take i) (x:=x) (B:=y::Y.drop (i+1)++B) (i:=A.length+i) al.symm
       have g2:=Td (A:=A++Y.take i) (M:=[]) (x:=x) (y:=y) (B:=Y.drop (i+1)++B) (i:=A.length+i+1) (by rw[al];rfl)
       simp only[Anm]at sw g2
       simp only[List.cons_append]at hll2 g1
       simp only[List.cons_append]
       simp only[ZZ,w,w2,Amj,g1,g2,Amd,List.length_set,hll2]
       have sw2:(((A++Y.take i++x::y::(Y.drop (i+1)++B)).map dP).set (A.length+i) (D.int (dP y).toInt)).set (A.length+i+1) (D.int (dP x).toInt)=_:=sw
       rw[sw2]
       refine Ad (Ad (Ad (Ad (Ad (Ad (Ad (Ad (Ad ?_))))))))
       simpa [Nat.add_assoc]using ih')
      200000 0 () (by omega) (by omega) trivial
    simpa using key
theorem AkL(A X:List Nat)(y:Nat)(B:List Nat)(hX:X.Pairwise (Bt (kk d a.cells dn)))(hlt : ∀ x∈X,x<y)(hy:y<a.cells.length)(hin : ∀ x∈X,x<a.cells.length)(hlen:A.length+X.length+1+B.length≤100000) :
  ∀ m u v,v-u<m→u≤v→v≤X.length→(∀ x∈X.take u,Bt (kk d a.cells dn) x y)→(∀ x∈X.drop v,Bt (kk d a.cells dn) y x)→Tw (R7 200000 m ((A++X++[y]++B).map dP) ((A.length+X.length:Nat):Int) (D4 dn a) ((A.length+u:Nat):Int) ((A.length+v:Nat):Int)) [.sl ((A++Bg (kk d a.cells dn) (X++[y])++B).map dP)]:=by
 have hk:=R3 (dn:=dn) ha
 intro m
 induction m with
 | zero=>intro u v h;omega
 | succ m ih =>
  intro u v hm huv hv h1 h2
  have hll:(A++X++[y]++B).length=A.length+X.length+1+B.length:=by simp only[Amm,Amg,Amu]
  simp only[Ak1]
  rw[Vf (by omega)]
  by_cases he:u<v
  · have hh:(A.length+u+(A.length+v)) / 2=A.length+(u+v) / 2:=by omega
    rw[hh]
    obtain ⟨h,hdef⟩ : ∃ h,h=(u+v) / 2:=⟨_,rfl⟩
    rw[← hdef]
    have b1:u≤h:=by omega
    have b2:h<v:=by omega
    have hx:X[h]? = some (X[h]'(by omega)):=Amb (by omega)
    have hmem:X[h]'(by omega)∈X:=Anh _
    generalize X[h]'(by omega)=x at *
    have gx:((A++X++[y]++B).map dP).getD (A.length+h) D.nil=dP x:=by
      have:=Nv (A:=A) (Y:=X) (B:=[y]++B) (i:=A.length+h) hx rfl
      rw[Amz (A++X)]
      exact this
    have gy:((A++X++[y]++B).map dP).getD (A.length+X.length) D.nil=dP y:=Nv (A:=A++X) (Y:=[y]) (t:=0) (y:=y) rfl (by simp)
    simp only[Amj,gy,gx,Gx,Gv,Gw,List.cons_append,Anm,Amd,hll]
    refine Ad (Ad (Ad (Ad (Ad (Ad (Aa (U9 (dn:=dn) ha hy (hin x hmem)) ?_))))))
    simp only[Ag,Al,Ed]
    have w:Al6 .i64 (((A.length+h:Nat):Int)+1)=((A.length+(h+1):Nat):Int):=by rw[At (by omega) (by omega)];omega
    rw[w]
    refine Bu (fun g=> ?_) (fun g=> ?_)
    · have g : ¬ kk d a.cells dn y x<0:=SS g
      have:Bt (kk d a.cells dn) x y:=Amn.1 (fun hh=>g ((K1 hk (hlt x hmem)).2 hh))
      exact ih (h+1) v (by omega) (by omega) hv (Sj hk hX hx this) h2
    · have:=Mb hk ((K1 hk (hlt x hmem)).1 (SR g))
      exact ih u h (by omega) b1 (by omega) h1 (U8 hk hX hx this)
  · have:u=v:=by omega
    subst this
    refine Aq ?_
    have hs:Bg (kk d a.cells dn) (X++[y])=X.take u++y::X.drop u:=Kf hk (by
       refine List.Perm.trans List.perm_middle ?_
       rw[Am6];exact (List.perm_append_singleton y _).symm) (AI (hX.sublist (List.take_sublist _ _)) (List.pairwise_cons.2 ⟨h2,hX.sublist (List.drop_sublist _ _)⟩) (fun x hx z hz=>by
       rcases Amw.1 hz with rfl | hz
       · exact h1 x hx
       · exact N5 hk (h1 x hx) (h2 z hz)))
    rw[hs]
    have key:=Ii (P:=Tryz.prog) (md:=md) (fun q j (_:Unit)=>AG 200000 q ((A++X.take (u+j)++y::(X.drop (u+j)++B)).map dP) ((A.length+u:Nat):Int) ((A.length+(u+j):Nat):Int)) (fun _ _=>[.sl ((A++(X.take u++y::X.drop u)++B).map dP)]) (fun j _=>u+j≤X.length)
      (fun q s _=>by
       simp only[ZY]
       refine Aq (Ac ?_)
       simp)
      (fun q j s hj ih'=>by
       have ih':=ih' () (by omega)
       have hil:u+j<X.length:=by omega
       have e4:X.drop (u+j)=X[u+j]::X.drop (u+(j+1)):=Am2 hil
       rw[e4]at ih'
       have e5:X.take (u+(j+1))=X.take (u+j)++[X[u+j]]:=Aar hil
       rw[e5]
       generalize X[u+j]=x at *
       have t1:(X.take (u+j)).length=u+j:=by rw[Amr];omega
       have t4:(X.drop (u+(j+1))).length=X.length-(u+(j+1)):=by rw[Amp]
       have al:(A++X.take (u+j)).length=A.length+(u+j):=by rw[Amm,t1]
       have w2:Al6 .i64 (((A.length+(u+(j+1)):Nat):Int)-1)=((A.length+(u+j):Nat):Int):=by rw[At (by omega) (by omega)];omega
       have ed:A++(X.take (u+j)++[x])++y::(X.drop (u+(j+1))++B)=A++X.take (u+j)++x::y::(X.drop (u+(j+1))++B):=by simp
       have hll2:(A++X.take (u+j)++x::y::(X.drop (u+(j+1))++B)).length=A.length+X.length+1+B.length:=by rw[Amm,al,Amg,Amg,Amm,t4];omega
       have sw:=Aam (A:=A++X.take (u+j)) (M:=[]) (x:=x) (y:=y) (B:=X.drop (u+(j+1))++B) (i:=A.length+(u+j)) (j:=A.length+(u+(j+1))) al.symm (by rw[al];simp;omega)
       have g1:=Pq (A:=A++X.take (u+j)) (x:=x) (B:=y::(X.drop (u+(j+1))++B)) (i:=A.length+(u+j)) al.symm
       have g2:=Td (A:=A++X.take (u+j)) (M:=[]) (x:=x) (y:=y) (B:=X.drop (u+(j+1))++B) (i:=A.length+(u+(j+1))) (by rw[al];simp;omega)
       simp only[Anm]at sw g2
       rw[ed]
       simp only[ZY,w2,Amj,g1,g2,Amd,List.length_set,hll2]
       have sw2:(((A++X.take (u+j)++x::y::(X.drop (u+(j+1))++B)).map dP).set (A.length+(u+(j+1))) (D.int (dP x).toInt)).set (A.length+(u+j)) (D.int (dP y).toInt)=_:=sw
       rw[sw2]
       refine Ad (Ad (Ad (Ad (Ad (Ad (Ad (Ad (Ad ?_))))))))
       simpa using ih')
      200000 (X.length-u) () (by omega) (by omega)
    rw[show u+(X.length-u)=X.length by omega,Am7 (Amo _),List.drop_of_length_le (Amo _)]at key
    simpa using key
omit ha in
theorem MQ{k:Nat→Nat→Int}{l:List Nat}{t:Nat}(h:l.Pairwise (Bt k)) : ∀ x∈l.take t,∀ y∈l.drop t,Bt k x y:=by
 rw[← Am6 t l]at h
 exact (List.pairwise_append.1 h).2.2
theorem Aao : ∀ (N:Nat) (A X Y B:List Nat),X.length+Y.length≤N→1≤X.length→1≤Y.length→A.length+X.length+Y.length+B.length≤100000→(∀ x∈X,x<a.cells.length)→(∀ y∈Y,y<a.cells.length)→X.Pairwise (Bt (kk d a.cells dn))→Y.Pairwise (Bt (kk d a.cells dn))→(∀ x∈X,∀ y∈Y,x<y) →
  Sp 251 [.sl ((A++X++Y++B).map dP),.int (A.length:Int),.int ((A.length+X.length:Nat):Int),.int ((A.length+X.length+Y.length:Nat):Int),D4 dn a] [.sl ((A++Bg (kk d a.cells dn) (X++Y)++B).map dP)]:=by
 have hk:=R3 (dn:=dn) ha
 intro N
 induction N with
 | zero=>intro A X Y B h h1;omega
 | succ N IH =>
  intro A X Y B hN hx1 hy1 hlen hXin hYin hX hY hlt
  refine Af 200000 (Ak4 _ _ _ _ _ _ _) ?_
  simp only[Ds,Al]
  have w1:Al6 .i64 (((A.length+X.length:Nat):Int)-(A.length:Int))=(X.length:Int):=by rw[At (by omega) (by omega)];omega
  have w2:Al6 .i64 (((A.length+X.length+Y.length:Nat):Int)-((A.length+X.length:Nat):Int))=(Y.length:Int):=by rw[At (by omega) (by omega)];omega
  rw[w1,w2]
  simp only[Cd]
  refine Ae (fun hX1=> ?_) (fun hX1=> ?_)
  · obtain ⟨x,rfl⟩:=Md (l:=X) (by omega)
    have:=AkK (dn:=dn) ha A x Y B hY (fun y hy=>hlt x (by simp) y hy) (hXin x (by simp)) hYin (by simpa using hlen) 200000 0 Y.length (by omega) (by omega) (by omega) (by simp) (by simp)
    exact this
  refine Ae (fun hY1=> ?_) (fun hY1=> ?_)
  · obtain ⟨y,rfl⟩:=Md (l:=Y) (by omega)
    have:=AkL (dn:=dn) ha A X y B hX (fun x hx=>hlt x hx y (by simp)) (hYin y (by simp)) hXin (by simpa using hlen) 200000 0 X.length (by omega) (by omega) (by omega) (by simp) (by simp)
    exact this
  have w0:=Vf (i:=A.length) (j:=A.length+X.length+Y.length) (by omega)
  obtain ⟨q,hq⟩ : ∃ q,q=(X.length+Y.length) / 2:=⟨_,rfl⟩
  rw[show (A.length+(A.length+X.length+Y.length)) / 2=A.length+q by omega]at w0
  simp only[w0]
  have w3:Al6 .i64 (((A.length+q:Nat):Int)+((A.length+X.length:Nat):Int))=((A.length+q+(A.length+X.length):Nat):Int):=by rw[At (by omega) (by omega)];omega
  have w4:Al6 .i64 (((A.length+q+(A.length+X.length):Nat):Int)-1)=((A.length+q+(A.length+X.length)-1:Nat):Int):=by rw[At (by omega) (by omega)];omega
  simp only[w3,w4]
  have search : ∀ (t0 t1:Nat),t1≤X.length→t1≤q→q≤t0+Y.length→∀ m s r,r-s<m→t0≤s→s≤r→r≤t1→(∀ x∈X.take s,∀ y∈Y.drop (q-s),Bt (kk d a.cells dn) x y)→(∀ y∈Y.take (q-r),∀ x∈X.drop r,Bt (kk d a.cells dn) y x) →
     Tw (O9 200000 m ((A++X++Y++B).map dP) (A.length:Int) ((A.length+X.length:Nat):Int) ((A.length+X.length+Y.length:Nat):Int) (D4 dn a) ((A.length+q:Nat):Int) ((A.length+q+(A.length+X.length):Nat):Int) ((A.length+s:Nat):Int) ((A.length+r:Nat):Int) ((A.length+q+(A.length+X.length)-1:Nat):Int)) [.sl ((A++Bg (kk d a.cells dn) (X++Y)++B).map dP)]:=by
    intro t0 t1 ht1 ht1' ht0 m
    induction m with
    | zero=>intro s r h;omega
    | succ m ih =>
     intro s r hm hs0 hsr hr1 inv1 inv2
     simp only[Ak2]
     rw[Vf (by omega)]
     by_cases he:s<r
     · rw[show (A.length+s+(A.length+r)) / 2=A.length+(s+r) / 2 by omega]
       obtain ⟨h,hdef⟩ : ∃ h,h=(s+r) / 2:=⟨_,rfl⟩
       rw[← hdef]
       have b1:s≤h:=by omega
       have b2:h<r:=by omega
       have hx:X[h]? = some (X[h]'(by omega)):=Amb (by omega)
       have hxm:X[h]'(by omega)∈X:=Anh _
       have hy:Y[q-1-h]? = some (Y[q-1-h]'(by omega)):=Amb (by omega)
       have hym:Y[q-1-h]'(by omega)∈Y:=Anh _
       generalize X[h]'(by omega)=x at *
       generalize Y[q-1-h]'(by omega)=y at *
       have w5:Al6 .i64 (((A.length+q+(A.length+X.length)-1:Nat):Int)-((A.length+h:Nat):Int))=((A.length+X.length+(q-1-h):Nat):Int):=by rw[At (by omega) (by omega)];omega
       have w6:Al6 .i64 (((A.length+h:Nat):Int)+1)=((A.length+(h+1):Nat):Int):=by rw[At (by omega) (by omega)];omega
       have gx:((A++X++Y++B).map dP).getD (A.length+h) D.nil=dP x:=by
         have:=Nv (A:=A) (Y:=X) (B:=Y++B) (i:=A.length+h) hx rfl
         rw[Amz (A++X)]
         exact this
       have gy:((A++X++Y++B).map dP).getD (A.length+X.length+(q-1-h)) D.nil=dP y:=Nv (A:=A++X) hy (by simp)
       have hll:(A++X++Y++B).length=A.length+X.length+Y.length+B.length:=by simp only[Amm]
       simp only[w5,w6,Amj,gy,gx,Gx,Gv,Gw,List.cons_append,Anm,Amd,hll]
       refine Ad (Ad (Ad (Ad (Ad (Ad (Aa (U9 (dn:=dn) ha (hYin y hym) (hXin x hxm)) ?_))))))
       simp only[Ag,Al,Ed]
       refine Bu (fun g=> ?_) (fun g=> ?_)
       · have g : ¬ kk d a.cells dn y x<0:=SS g
         have:Bt (kk d a.cells dn) x y:=Amn.1 (fun hh=>g ((K1 hk (hlt x hxm y hym)).2 hh))
         refine ih (h+1) r (by omega) (by omega) (by omega) hr1 (fun x' hx'=> ?_) inv2
         rw[show q-(h+1)=q-1-h by omega]
         exact U8 hk hY hy (Sj hk hX hx this x' hx')
       · have:=Mb hk ((K1 hk (hlt x hxm y hym)).1 (SR g))
         refine ih s h (by omega) (by omega) (by omega) (by omega) inv1 (fun y' hy'=> ?_)
         rw[show q-h=q-1-h+1 by omega]at hy'
         exact U8 hk hX hx (Sj hk hY hy this y' hy')
     · have:s=r:=by omega
       subst this
       refine Aq ?_
       have hXe:X=X.take s++X.drop s:=(Am6 _ _).symm
       have hYe:Y=Y.take (q-s)++Y.drop (q-s):=(Am6 _ _).symm
       have l1:(X.take s).length=s:=by rw[Amr];omega
       have l2:(X.drop s).length=X.length-s:=by rw[Amp]
       have l3:(Y.take (q-s)).length=q-s:=by rw[Amr];omega
       have l4:(Y.drop (q-s)).length=Y.length-(q-s):=by rw[Amp]
       have c1:=MQ (t:=s) hX
       have c2:=MQ (t:=q-s) hY
       have m1 : ∀ x∈X.take s,x∈X:=fun x h=>List.mem_of_mem_take h
       have m2 : ∀ x∈X.drop s,x∈X:=fun x h=>List.mem_of_mem_drop h
       have m3 : ∀ x∈Y.take (q-s),x∈Y:=fun x h=>List.mem_of_mem_take h
       have m4 : ∀ x∈Y.drop (q-s),x∈Y:=fun x h=>List.mem_of_mem_drop h
       have p1:=hX.sublist (List.take_sublist s X)
       have p2:=hX.sublist (List.drop_sublist s X)
       have p3:=hY.sublist (List.take_sublist (q-s) Y)
       have p4:=hY.sublist (List.drop_sublist (q-s) Y)
       have hdata:A++X++Y++B=A++X.take s++X.drop s++Y.take (q-s)++(Y.drop (q-s)++B):=by
         have e:A++(X.take s++X.drop s)++(Y.take (q-s)++Y.drop (q-s))++B=A++X.take s++X.drop s++Y.take (q-s)++(Y.drop (q-s)++B):=by simp only[Amz]
         rw[Am6,Am6]at e
         exact e
       have hxy:(X++Y).Perm ((X.take s++Y.take (q-s))++(X.drop s++Y.drop (q-s))):=by
         have e:X++Y=X.take s++((X.drop s++Y.take (q-s))++Y.drop (q-s)):=by
           rw[Amz (X.drop s),Am6,← Amz,Am6]
         rw[e,Amz (X.take s),← Amz (Y.take (q-s))]
         exact List.Perm.append_left _ (List.Perm.append_right _ List.perm_append_comm)
       generalize X.take s=X1 at *
       generalize X.drop s=X2 at *
       generalize Y.take (q-s)=Y1 at *
       generalize Y.drop (q-s)=Y2 at *
       have hsrt:Bg (kk d a.cells dn) (X++Y)=Bg (kk d a.cells dn) (X1++Y1)++Bg (kk d a.cells dn) (X2++Y2):=by
         refine Kf hk (((Jo _ _).append (Jo _ _)).trans hxy.symm) (AI (Jp hk _) (Jp hk _) (fun x hx y hy=> ?_))
         rcases List.mem_append.1 (Hc.1 hx) with hx | hx <;> rcases List.mem_append.1 (Hc.1 hy) with hy | hy
         · exact c1 x hx y hy
         · exact inv1 x hx y hy
         · exact inv2 x hx y hy
         · exact c2 x hx y hy
       have lW:(Bg (kk d a.cells dn) (X1++Y1)).length=q:=by rw[Df,Amm];omega
       have w5:Al6 .i64 (((A.length+q+(A.length+X.length):Nat):Int)-((A.length+s:Nat):Int))=((A.length+q+X2.length:Nat):Int):=by rw[At (by omega) (by omega)];omega
       simp only[w5]
       have hU:Tw (.br (decide (((A.length+q:Nat):Int)<((A.length+q+X2.length:Nat):Int))) (.br (decide (((A.length+q+X2.length:Nat):Int)<((A.length+X.length+Y.length:Nat):Int))) (.call 251 [] [D.sl ((A++Bg (kk d a.cells dn) (X1++Y1)++X2++Y2++B).map dP),.int ((A.length+q:Nat):Int),.int ((A.length+q+X2.length:Nat):Int),.int ((A.length+X.length+Y.length:Nat):Int),D4 dn a] fun yy=> .ret [D.sl ((qA yy).els)]) (.ret [D.sl ((A++Bg (kk d a.cells dn) (X1++Y1)++X2++Y2++B).map dP)])) (.ret [D.sl ((A++Bg (kk d a.cells dn) (X1++Y1)++X2++Y2++B).map dP)])) [.sl ((A++Bg (kk d a.cells dn) (X++Y)++B).map dP)]:=by
         rw[hsrt]
         have alone:X2.length=0∨Y2.length=0→Bg (kk d a.cells dn) (X2++Y2)=X2++Y2:=fun h=>by
           rcases h with h | h
           · rw[Am1.1 h]
             exact Kf hk (List.Perm.refl _) (by simpa using p4)
           · rw[Am1.1 h]
             exact Kf hk (List.Perm.refl _) (by simpa using p2)
         refine Ae (fun g1=>Ae (fun g2=> ?_) (fun g2=>Ac ?_)) (fun g1=>Ac ?_)
         · have:=IH (A++Bg (kk d a.cells dn) (X1++Y1)) X2 Y2 B (by omega) (by omega) (by omega) (by rw[Amm,lW];omega) (fun x h=>hXin x (m2 x h)) (fun y h=>hYin y (m4 y h)) p2 p4 (fun x h y h'=>hlt x (m2 x h) y (m4 y h'))
           simp only[Amm,lW]at this
           rw[show A.length+q+X2.length+Y2.length=A.length+X.length+Y.length by omega]at this
           refine Aa this (Ac ?_)
           simp
         · rw[alone (by omega)];simp
         · rw[alone (by omega)];simp
       have hT:Tw (.br (decide ((A.length:Int)<((A.length+s:Nat):Int))) (.br (decide (((A.length+s:Nat):Int)<((A.length+q:Nat):Int))) (.call 251 [] [D.sl ((A++X1++Y1++X2++Y2++B).map dP),.int (A.length:Int),.int ((A.length+s:Nat):Int),.int ((A.length+q:Nat):Int),D4 dn a] fun yy=>(.br (decide (((A.length+q:Nat):Int)<((A.length+q+X2.length:Nat):Int))) (.br (decide (((A.length+q+X2.length:Nat):Int)<((A.length+X.length+Y.length:Nat):Int))) (.call 251 [] [D.sl ((qA yy).els),.int ((A.length+q:Nat):Int),.int ((A.length+q+X2.length:Nat):Int),.int ((A.length+X.length+Y.length:Nat):Int),D4 dn a] fun yy=> .ret [D.sl ((qA yy).els)]) (.ret [D.sl ((qA yy).els)])) (.ret [D.sl ((qA yy).els)])))
           (.br (decide (((A.length+q:Nat):Int)<((A.length+q+X2.length:Nat):Int))) (.br (decide (((A.length+q+X2.length:Nat):Int)<((A.length+X.length+Y.length:Nat):Int))) (.call 251 [] [D.sl ((A++X1++Y1++X2++Y2++B).map dP),.int ((A.length+q:Nat):Int),.int ((A.length+q+X2.length:Nat):Int),.int ((A.length+X.length+Y.length:Nat):Int),D4 dn a] fun yy=> .ret [D.sl ((qA yy).els)]) (.ret [D.sl ((A++X1++Y1++X2++Y2++B).map dP)])) (.ret [D.sl ((A++X1++Y1++X2++Y2++B).map dP)])))
           (.br (decide (((A.length+q:Nat):Int)<((A.length+q+X2.length:Nat):Int))) (.br (decide (((A.length+q+X2.length:Nat):Int)<((A.length+X.length+Y.length:Nat):Int))) (.call 251 [] [D.sl ((A++X1++Y1++X2++Y2++B).map dP),.int ((A.length+q:Nat):Int),.int ((A.length+q+X2.length:Nat):Int),.int ((A.length+X.length+Y.length:Nat):Int),D4 dn a] fun yy=> .ret [D.sl ((qA yy).els)]) (.ret [D.sl ((A++X1++Y1++X2++Y2++B).map dP)])) (.ret [D.sl ((A++X1++Y1++X2++Y2++B).map dP)]))) [.sl ((A++Bg (kk d a.cells dn) (X++Y)++B).map dP)]:=by
         have alone:X1.length=0∨Y1.length=0→A++Bg (kk d a.cells dn) (X1++Y1)++X2++Y2++B=A++X1++Y1++X2++Y2++B:=fun h=>by
           have:Bg (kk d a.cells dn) (X1++Y1)=X1++Y1:=by
             rcases h with h | h
             · rw[Am1.1 h]
               exact Kf hk (List.Perm.refl _) (by simpa using p3)
             · rw[Am1.1 h]
               exact Kf hk (List.Perm.refl _) (by simpa using p1)
           rw[this,← Amz]
         refine Ae (fun g1=>Ae (fun g2=> ?_) (fun g2=> ?_)) (fun g1=> ?_)
         · have:=IH A X1 Y1 (X2++Y2++B) (by omega) (by omega) (by omega) (by simp only[Amm];omega) (fun x h=>hXin x (m1 x h)) (fun y h=>hYin y (m3 y h)) p1 p3 (fun x h y h'=>hlt x (m1 x h) y (m3 y h'))
           rw[show A.length+X1.length+Y1.length=A.length+q by omega,l1,show A++X1++Y1++(X2++Y2++B)=A++X1++Y1++X2++Y2++B by simp,show A++Bg (kk d a.cells dn) (X1++Y1)++(X2++Y2++B)=A++Bg (kk d a.cells dn) (X1++Y1)++X2++Y2++B by simp]at this
           exact Aa this hU
         · rw[alone (by omega)]at hU;exact hU
         · rw[alone (by omega)]at hU;exact hU
       refine Ae (fun g1=>Ae (fun g2=> ?_) (fun g2=> ?_)) (fun g1=> ?_)
       · have:=Aji (dn:=dn) (a:=a) (A++X1) X2 Y1 (Y2++B) (by omega) (by omega) (by simp only[Amm];omega)
         rw[← hdata,show A++X1++Y1++X2++(Y2++B)=A++X1++Y1++X2++Y2++B by simp,Amm,l1,show A.length+s+X2.length=A.length+X.length by omega,show A.length+X.length+Y1.length=A.length+q+X2.length by omega]at this
         exact Aa this hT
       · have e:A++X++Y++B=A++X1++Y1++X2++Y2++B:=by
           have:Y1 = []:=Am1.1 (by omega)
           rw[hdata,this];simp
         rw[e];exact hT
       · have e:A++X++Y++B=A++X1++Y1++X2++Y2++B:=by
           have:X2 = []:=Am1.1 (by omega)
           rw[hdata,this];simp
         rw[e];exact hT
  refine Ad (Ae (fun g=> ?_) (fun g=> ?_))
  · have w7:Al6 .i64 (((A.length+q+(A.length+X.length):Nat):Int)-((A.length+X.length+Y.length:Nat):Int))=((A.length+(q-Y.length):Nat):Int):=by rw[At (by omega) (by omega)];omega
    rw[w7]
    exact search (q-Y.length) q (by omega) (by omega) (by omega) 200000 (q-Y.length) q (by omega) (by omega) (by omega) (by omega) (fun x _ y hy=>by rw[List.drop_of_length_le (by omega)]at hy;cases hy) (fun y hy=>by rw[Nat.sub_self]at hy;cases hy)
  · exact search 0 X.length (by omega) (by omega) (by omega) 200000 0 X.length (by omega) (by omega) (by omega) (by omega) (fun x hx=>by cases hx) (fun y _ x hx=>by rw[List.drop_of_length_le (by omega)]at hx;cases hx)
end
section
variable {d:Nat} {a:Arr} {dn:Bool} (ha : ∀ c∈a.cells,B8 d c=true)
include ha
theorem AkE(l:List Nat)(hl:l.Pairwise (· < ·))(hin : ∀ x∈l,x<a.cells.length)(hlen:l.length≤50000):Sp 217 [.sl (l.map dP),.int (l.length:Int),D4 dn a] [.sl ((Bg (kk d a.cells dn) l).map dP)]:=by
 have hk:=R3 (dn:=dn) ha
 refine Af 200000 (Akz _ _ _ _ _) ?_
 simp only[Ds,Al]
 generalize hkk:kk d a.cells dn=k at *
 have join2 : ∀ U V:List Nat,Bg k (Bg k U++Bg k V)=Bg k (U++V):=fun U V=>Kf hk (((Jo k (U++V)).trans ((Jo k U).append (Jo k V)).symm)) (Jp hk _)
 have pairs : ∀ (m7 bs:Nat),1≤bs→bs≤100000→Tw (O8 200000 m7 ((SG k (2*bs) l).map dP) (l.length:Int) (D4 dn a) ((2*bs:Nat):Int)) [.sl ((Bg k l).map dP)]→∀ (m:Nat) (P rest:List Nat),P++SG k (2*bs) rest=SG k (2*bs) l→l.length=P.length+rest.length→rest.Pairwise (· < ·)→(∀ x∈rest,x<a.cells.length)→rest.length<m →
   Tw (AD 200000 m7 m ((P++SG k bs rest).map dP) (l.length:Int) (D4 dn a) (bs:Int) (P.length:Int) ((P.length+2*bs:Nat):Int)) [.sl ((Bg k l).map dP)]:=by
  intro m7 bs hb1 hb2 cont m
  induction m with
  | zero=>intro P rest _ _ _ _ h;omega
  | succ m ih =>
   intro P rest hP hL hR hRin hm
   have w1:Al6 .i64 ((P.length:Int)+(bs:Int))=((P.length+bs:Nat):Int):=by rw[At (by omega) (by omega)];omega
   have w2:Al6 .i64 (2*(bs:Int))=((2*bs:Nat):Int):=by rw[At (by omega) (by omega)];omega
   have w3:Al6 .i64 (((P.length+2*bs:Nat):Int)+((2*bs:Nat):Int))=((P.length+2*bs+2*bs:Nat):Int):=by rw[At (by omega) (by omega)];omega
   have w4:Al6 .i64 ((bs:Int)*2)=((2*bs:Nat):Int):=by rw[At (by omega) (by omega)];omega
   simp only[Aky,w1,w2,w3,w4]
   have hcross : ∀ t,∀ x∈rest.take t,∀ y∈rest.drop t,x<y:=fun t=>by
     rw[← Am6 t rest]at hR
     exact (List.pairwise_append.1 hR).2.2
   refine Ae (fun g=> ?_) (fun g=>Ae (fun g2=> ?_) (fun g2=> ?_))
   · have e1:SG k bs rest=Bg k (rest.take bs)++(Bg k ((rest.drop bs).take bs)++SG k bs (rest.drop (2*bs))):=by
      rw[Jy hb1,if_neg (by omega),Jy hb1 (rest.drop bs),if_neg (by rw[Amp];omega),List.drop_drop,show bs+bs=2*bs by omega]
     have e2:rest.take bs++(rest.drop bs).take bs=rest.take (2*bs):=by rw[show 2*bs=bs+bs by omega,List.take_add]
     have l1:(rest.take bs).length=bs:=by rw[Amr];omega
     have l2:((rest.drop bs).take bs).length=bs:=by rw[Amr,Amp];omega
     have l3:(SG k bs (rest.drop (2*bs))).length=rest.length-2*bs:=by rw[KQ hb1 _ _ (Amo _),Amp]
     have l4:(rest.take (2*bs)).length=2*bs:=by rw[Amr];omega
     have sp:=Aao (dn:=dn) ha (2*bs) P (Bg k (rest.take bs)) (Bg k ((rest.drop bs).take bs)) (SG k bs (rest.drop (2*bs))) (by rw[Df,Df];omega) (by rw[Df];omega) (by rw[Df];omega) (by rw[Df,Df,l3];omega) (fun x hx=>hRin x (List.mem_of_mem_take (Hc.1 hx))) (fun y hy=>hRin y (List.mem_of_mem_drop (List.mem_of_mem_take (Hc.1 hy)))) (by rw[hkk];exact Jp hk _) (by rw[hkk];exact Jp hk _) (fun x hx y hy=>hcross bs x (Hc.1 hx) y (List.mem_of_mem_take (Hc.1 hy)))
     rw[hkk,join2,e2,Df,Df,l1,l2]at sp
     rw[show P++Bg k (rest.take bs)++Bg k ((rest.drop bs).take bs)++SG k bs (rest.drop (2*bs))=P++SG k bs rest by rw[e1];simp only[Amz],show P.length+bs+bs=P.length+2*bs by omega]at sp
     refine Aa sp ?_
     have:=ih (P++Bg k (rest.take (2*bs))) (rest.drop (2*bs)) (by
       rw[← hP,Jy (bs:=2*bs) (by omega) rest,if_neg (by omega)];simp only[Amz]) (by rw[Amm,Df,l4,Amp];omega) (hR.sublist (List.drop_sublist _ _)) (fun x hx=>hRin x (List.mem_of_mem_drop hx)) (by rw[Amp];omega)
     rw[Amm,Df,l4]at this
     exact this
   · have l1:(rest.take bs).length=bs:=by rw[Amr];omega
     have e1:SG k bs rest=Bg k (rest.take bs)++Bg k (rest.drop bs):=by
      rw[Jy hb1,if_neg (by omega),M6 hb1 (by rw[Amp];omega)]
     have sp:=Aao (dn:=dn) ha (rest.length) P (Bg k (rest.take bs)) (Bg k (rest.drop bs)) [] (by rw[Df,Df,Amp];omega) (by rw[Df];omega) (by rw[Df,Amp];omega) (by rw[Df,Df,Amp];simp only[Amu];omega) (fun x hx=>hRin x (List.mem_of_mem_take (Hc.1 hx))) (fun y hy=>hRin y (List.mem_of_mem_drop (Hc.1 hy))) (by rw[hkk];exact Jp hk _) (by rw[hkk];exact Jp hk _) (fun x hx y hy=>hcross bs x (Hc.1 hx) y (Hc.1 hy))
     rw[hkk,join2,Am6,Df,Df,l1]at sp
     simp only[Amx]at sp
     rw[show P++Bg k (rest.take bs)++Bg k (rest.drop bs)=P++SG k bs rest by rw[e1];simp only[Amz],show P.length+bs+(rest.drop bs).length=l.length by rw[Amp];omega]at sp
     refine Aa sp ?_
     rw[M6 (bs:=2*bs) (by omega) (l:=rest) (by omega)]at hP
     simp only[Ag,Ds]
     rw[hP]
     exact cont
   · rw[M6 (bs:=2*bs) (by omega) (l:=rest) (by omega)]at hP
     rw[M6 hb1 (l:=rest) (by omega),hP]
     exact cont
 have rounds : ∀ (m bs:Nat),1≤bs→bs≤100000→l.length-bs<m→Tw (O8 200000 m ((SG k bs l).map dP) (l.length:Int) (D4 dn a) (bs:Int)) [.sl ((Bg k l).map dP)]:=by
  intro m
  induction m with
  | zero=>intro bs _ _ h;omega
  | succ m ih =>
   intro bs hb1 hb2 hm
   have w2:Al6 .i64 (2*(bs:Int))=((2*bs:Nat):Int):=by rw[At (by omega) (by omega)];omega
   simp only[Akx,w2]
   refine Ae (fun g=> ?_) (fun g=>Ac ?_)
   · have:=pairs m bs hb1 hb2 (ih (2*bs) (by omega) (by omega) (by omega)) 200000 [] l (by simp) (by simp) hl hin (by omega)
     simpa using this
   · rw[M6 hb1 (by omega)]
 have first : ∀ (m:Nat) (P rest:List Nat),P++SG k 20 rest=SG k 20 l→l.length=P.length+rest.length→rest.Pairwise (· < ·)→(∀ x∈rest,x<a.cells.length)→rest.length<m →
   Tw (AC 200000 m ((P++rest).map dP) (l.length:Int) (D4 dn a) 20 (P.length:Int) ((P.length+20:Nat):Int)) [.sl ((Bg k l).map dP)]:=by
  intro m
  induction m with
  | zero=>intro P rest _ _ _ _ h;omega
  | succ m ih =>
   intro P rest hP hL hR hRin hm
   have w1:Al6 .i64 (((P.length+20:Nat):Int)+20)=((P.length+20+20:Nat):Int):=by rw[At (by omega) (by omega)];omega
   simp only[Akw,w1]
   refine Ae (fun g=> ?_) (fun g=> ?_)
   · have l1:(rest.take 20).length=20:=by rw[Amr];omega
     have sp:=PN (dn:=dn) ha P (rest.take 20) (rest.drop 20) (hR.sublist (List.take_sublist _ _)) (fun x hx=>hRin x (List.mem_of_mem_take hx)) (by rw[l1,Amp];omega)
     rw[hkk,Amz P,Am6,l1]at sp
     refine Aa sp ?_
     have:=ih (P++Bg k (rest.take 20)) (rest.drop 20) (by
       rw[← hP,Jy (bs:=20) (by omega) rest,if_neg (by omega)];simp only[Amz]) (by rw[Amm,Df,l1,Amp];omega) (hR.sublist (List.drop_sublist _ _)) (fun x hx=>hRin x (List.mem_of_mem_drop hx)) (by rw[Amp];omega)
     rw[Amm,Df,l1]at this
     exact this
   · have sp:=PN (dn:=dn) ha P rest [] hR hRin (by simp only[Amu];omega)
     simp only[Amx,hkk,← hL]at sp
     refine Aa sp ?_
     rw[M6 (bs:=20) (by omega) (l:=rest) (by omega)]at hP
     simp only[Ag,Ds]
     rw[hP]
     exact rounds 200000 20 (by omega) (by omega) (by omega)
 have:=first 200000 [] l (by simp) (by simp) hl hin (by omega)
 simpa using this
theorem Ak8(l:List Nat)(hl:l.Pairwise (· < ·))(hin : ∀ x∈l,x<a.cells.length)(hlen:l.length≤50000):Sp 155 [.sl (l.map dP),D4 dn a] [.sl ((Bg (kk d a.cells dn) l).map dP)]:=by
 refine Af 0 (Aks _ _ _ _) ?_
 simp only[Ds,Amd]
 exact Aa (AkE ha l hl hin hlen) (Ac rfl)
end
def Hr(a:Arr)(dn:Bool):List Nat:=Bg (kk 8 a.cells dn) (Am9 a.cells.length)
def Qh(a:Arr)(dn:Bool):Arr×Int:=if a.shape.length=1 then (Dk ((Hr a dn).map (fun (i:Nat)=>(i:Int)+1)) (Av a),0) else (.none,5)
theorem Ahc(n:Nat):(Am9 n).Pairwise (· < ·):=List.pairwise_lt_range
theorem Agz(a:Arr)(dn:Bool):(Hr a dn).length=a.cells.length:=by unfold Hr;rw[Df,List.length_range]
theorem SZ{a:Arr}{dn:Bool}{i:Nat} : i∈Hr a dn↔i<a.cells.length:=by unfold Hr;rw[Hc,List.mem_range]
theorem OV(a:Arr)(dn:Bool)(ha:Ba 8 a=true):Sp 69 [dA a,.bool dn] [dA (Qh a dn).1,.int (Qh a dn).2]:=by
 have la:=(E0 ha).1
 have hc:=(Dy ha).2
 refine Af 4096 (Ad2 _ _ _) ?_
 unfold Qh
 simp only[Ah,Cr,Gu,Anf]
 refine Ae (fun h=>Ac (by rw[if_neg (by omega)])) (fun h=> ?_)
 rw[if_pos (by omega)]
 refine Ad (Ad (Ax (by simp only[Aj];omega) ?_))
 have hol:=Agz a dn
 have key:=Cw a.cells.length (fun m k (_:Unit)=>Vc 4096 m ((Am9 k).map dP++Amc (a.cells.length-k) (D.int 0)) (a.cells.length:Int) (k:Int) (dA a) dn 0 0) (fun _ _=>[dA (Dk ((Hr a dn).map (fun (i:Nat)=>(i:Int)+1)) (Av a)),.int 0]) (fun _ _=>True)
  (fun m s _=>by
   have sp:=Ak8 (dn:=dn) hc (Am9 a.cells.length) (Ahc _) (fun x hx=>List.mem_range.1 hx) (by rw[List.length_range];omega)
   simp only[OT,Cr,Gu]
   rw[Nat.sub_self,List.replicate_zero,Amx]
   refine Aq (Aa sp ?_)
   rw[show Bg (kk 8 a.cells dn) (Am9 a.cells.length)=Hr a dn from rfl]
   simp only[Ag,Ds,Amd,hol,Amj]
   refine Ad (Ad (Ax (by simp only[Aj];omega) ?_))
   have key2:=B3 (Hr a dn) (fun m k (cs:List D)=>Vb 4096 m cs ((Hr a dn).map dP) (a.cells.length:Int) (k:Int) (dA a) 0 0) (fun _ _=>[dA (Dk ((Hr a dn).map (fun (i:Nat)=>(i:Int)+1)) (Av a)),.int 0])
    (fun rest cs=>∃ pre:List Nat,Hr a dn=pre++rest∧cs=(pre.map (fun (i:Nat)=>Be ((i:Int)+1))).map dC++Amc rest.length (dC Cell.none))
    (fun m k cs hk hI=>by
     obtain ⟨pre,h1,rfl⟩:=hI
     rw[Amx]at h1
     simp only[OS,Amu,List.replicate_zero,Amx]
     have hb : ∀ c∈pre.map (fun (i:Nat)=>Be ((i:Int)+1)),SmlC 0 c:=fun c hcc=>by
      obtain ⟨i,hi,rfl⟩:=List.mem_map.1 hcc
      have:=SZ.1 (by rw[h1];exact hi:i∈Hr a dn)
      exact R_ (Ez (by omega) (by omega)) 0
     refine Aq (Aa (M8 _ hb (by rw[Amd,← h1,hol];omega)) (Aa (Es a (D5 ha).fits) ?_))
     simp only[Ag,Dc,H_]
     refine Aa (F1 _ (Av a)) (Ac ?_)
     simp only[Ag,h1]
     simp[Da,Ju,Dk]
     rfl)
    (fun m k cs i rest hdr hI ih=>by
     obtain ⟨h1,h2,h3⟩:=Bx hdr
     obtain ⟨pre,hp,rfl⟩:=hI
     have hk:k=(pre.map (fun (i:Nat)=>Be ((i:Int)+1))).length:=by
      have:=congrArg List.length hdr
      rw[hp]at this h1
      simp at this h1 ⊢; omega
     have hcl:((pre.map (fun (i:Nat)=>Be ((i:Int)+1))).map dC++Amc (rest.length+1) (dC Cell.none)).length=a.cells.length:=by rw[← hol,hp];simp
     have hi:=SZ.1 (Amh h2)
     have w1:Al6 .i64 ((i:Int)+1)=(i:Int)+1:=At (by omega) (by omega)
     simp only[OS,Amd,hol,Amj,As h2,ND,w1,Bb k,Amg]
     simp only[hcl]
     refine Ad (Ad (Ad (Aa (H6 _ (Ez (by omega) (by omega))) (Ad (Ad ?_)))))
     simp only[Ag]
     rw[show (((pre.map (fun (i:Nat)=>Be ((i:Int)+1))).map dC++Amc (rest.length+1) (dC Cell.none)).set k (dC (Be ((i:Int)+1))))=(((pre++[i]).map (fun (i:Nat)=>Be ((i:Int)+1))).map dC++Amc rest.length (dC Cell.none)) by
      rw[hk,Ld (f:=dC) (z:=dC Cell.none)];simp]
     exact ih _ ⟨pre++[i],by rw[hp];simp,rfl⟩)
    4096 0 (Amc a.cells.length (dC Cell.none)) (by omega) (by omega) ⟨[],by simp,by simp[hol]⟩
   exact key2)
  (fun m k s hk _ ih=>by
   have ih:=ih () trivial
   simp only[OT,Amm,Amd,List.length_range,Anf,Amj,Bb k]
   refine Ad (Ad (Ad ?_))
   have e:=Ld (f:=dP) (z:=D.int 0) (Am9 k) k (a.cells.length-(k+1))
   rw[List.length_range,← List.range_succ,show a.cells.length-(k+1)+1=a.cells.length-k by omega]at e
   rw[show D.int (k:Int)=dP k from rfl,e]
   exact ih)
  4096 0 () (by omega) (by omega) trivial
 simpa using key
def ahead(k:Nat→Nat→Int)(i j:Nat):Bool:=decide (k j i<0∨(k j i=0∧j<i))
def iN(l:List Nat):List Int:=l.map (fun (x:Nat)=>(x:Int))
theorem L7(l:List Nat):(iN l).length=l.length:=by simp[iN]
theorem PC(l:List Nat):(iN l).map D.int=l.map dP:=by unfold iN;rw[List.map_map];rfl
theorem Ad8{l:List Int}(h : ∀ x∈l,0≤x) : ∃ m:List Nat,l=iN m:=by
 refine ⟨l.map Ama,?_⟩
 unfold iN
 rw[List.map_map]
 conv=>lhs;rw[← List.map_id l]
 refine List.map_congr_left (fun x hx=> ?_)
 have:=h x hx
 simp only[id,Function.comp]
 omega
def Cs:List Nat→Nat
 | []=>1
 | x::xs=>x*Cs xs
def Eh(s:List Nat):Nat:=(A5 (iN s)).1.toNat
theorem UN : ∀ (l:List Nat) (p:Nat),Bd (iN l) (p:Int)≠0→Bd (iN l) (p:Int)=((p*Cs l:Nat):Int)
 | [],p,_=>by simp[iN,Bd,Cs]
 | x::xs,p,h=>by
  simp only[iN,Ani,Bd]at h ⊢
  split at h
  · exact absurd rfl h
  · rename_i h2
    rw[if_neg h2]
    have:=UN xs (p*x) (by simpa [iN]using h)
    simp only[iN,Int.natCast_mul]at this
    rw[this]
    simp only[Cs,Int.natCast_mul,Int.mul_assoc]
theorem UK : ∀ (l m:List Nat),Cs (l++m)=Cs l*Cs m
 | [],m=>by simp[Cs]
 | x::xs,m=>by simp only[List.cons_append,Cs,UK xs m,Nat.mul_assoc]
theorem Tm{s:List Nat}(h:(A5 (iN s)).2=0):s.length≤6∧((0∈s∧Eh s=0)∨((∀ x∈s,1≤x∧x≤2048)∧Eh s=Cs s∧1≤Eh s∧Eh s≤2048)):=by
 have hl:=F5 (iN s)
 obtain ⟨h1,h2⟩:=I3 (s:=iN s) (c:=(A5 (iN s)).1) (Prod.ext rfl h)
 rw[L7]at h1
 refine ⟨h1,?_⟩
 rcases h2 with ⟨h2,h3⟩ | ⟨h2,h3,h4⟩
 · refine .inl ⟨?_,by unfold Eh;rw[h3];rfl⟩
   obtain ⟨x,hx,he⟩:=List.mem_map.1 h2
   have:x=0:=by omega
   rw[← this];exact hx
 · refine .inr ⟨fun x hx=> ?_,?_,?_,?_⟩
   · have:=h2 (x:Int) (List.mem_map.2 ⟨x,hx,rfl⟩);omega
   · have:=UN s 1 (by rw[show ((1:Nat):Int)=1 from rfl,h3];exact h4)
     rw[show ((1:Nat):Int)=1 from rfl,h3]at this
     unfold Eh
     rw[this];omega
   · unfold Eh;omega
   · unfold Eh;omega
end Go.Proofs.YtokkbgpgaheakaaGreat
namespace Go
open Go.RowKit
theorem YI(P:Program)(w:World)(dT sT ty elem:TypeId)(g o dLen dCap:Nat)(a:Addr)(sLen sCap sz:Nat)(cur:Array Value)(t:TypeId)(cs:List Value)
  (hu:P.underlying dT=some (.slice elem)) (hs:(P.info? elem).map (·.size)=some sz)
  (hg:w.heap[g]? = some (.cells cur t (0,0))) (hn:cs.length=Nat.min sLen dLen*sz)
  (hsrc : ∀ j v,cs[j]? = some v→w.cell? (a.add j)=some v) (hfit:o+cs.length≤cur.size) (h1 : ∀ v∈cs,v.oneCell'=true) :
  (Builtin.copy_ #[dT,sT] ty #[.slice (some ⟨g,o,none⟩) dLen dCap,.slice (some a) sLen sCap]).run P w =
   .ok (goInt (Nat.min sLen dLen:Nat)) (w.setRow g (cur.toList.take o++cs++cur.toList.drop (o+cs.length)).toArray):=by
 have hl:=run_loadCells_list (P:=P) w a cs hsrc
 have hst:=run_storeCells_at P g o t cs 0 cur w hg (by simpa using hfit) h1
 cases hq:P.info? elem with
 | none=>simp[hq]at hs
 | some i =>
  have hi:i.size=sz:=by simpa [hq]using hs
  rw[hn]at hl
  simp[Builtin.copy_,run_underlying hu,Builtin.lenOf,Builtin.firstCells,sizeOf,typeInfo,hq,hi,hl,hst]
theorem YH(P:Program)(w:World)(dT sT ty elem:TypeId)(d a:Option Addr)(dLen dCap sLen sCap sz:Nat)(hu:P.underlying dT=some (.slice elem))(hs:(P.info? elem).map (·.size)=some sz)(hn:Nat.min sLen dLen=0) :
  (Builtin.copy_ #[dT,sT] ty #[.slice d dLen dCap,.slice a sLen sCap]).run P w = .ok (goInt 0) w:=by
 cases hq:P.info? elem with
 | none=>simp[hq]at hs
 | some i =>
  have hl : ∀ (x:Addr),(loadCells x 0).run P w = .ok #[] w:=fun x=>by simpa using run_loadCells_list (P:=P) w x [] (by simp)
  cases d <;> cases a <;> simp[Builtin.copy_,run_underlying hu,Builtin.lenOf,Builtin.firstCells,sizeOf,typeInfo,hq,hn,storeCells,hl]
theorem AlM{P:Program}{w:World}{ops:Array Oper}{rest:List Oper}{o:Oper}{a:Act}{Q:Exit→Act→World→Prop}(hgd:o.guard=none)(d s:Operand)(dT sT:TypeId)
   (ho:o.op = .call { callee:= .builtin .copy,args:= #[d,s],argTypes:= #[dT,sT] }) (elem:TypeId) (sz:Nat) (hz:0<sz) (hu:P.underlying dT=some (.slice elem)) (hsz:(P.info? elem).map (·.size)=some sz)
   (dp sp:Option Addr) (dLen dCap sLen sCap:Nat) (hd:a.eval d = .slice dp dLen dCap) (hs:a.eval s = .slice sp sLen sCap)
   (g off:Nat) (cur:List Value) (t:TypeId) (hg:w.heap[g]? = some (.cells cur.toArray t (0,0))) (cs:List Value) (hn:cs.length=Nat.min sLen dLen*sz)
   (hpos:0<cs.length→dp=some ⟨g,off,none⟩∧∃ ad,sp=some ad∧∀ j v,cs[j]? = some v→w.cell? (ad.add j)=some v)
   (hfit:off+cs.length≤cur.length) (h1 : ∀ v∈cs,v.oneCell'=true) (B:Nat) (w0:World) (hb:Below B w0 w) (hBg:B≤g)
   (h : ∀ w',Hid (w'.heap[g]? = some (.cells (splice cur off cs).toArray t (0,0)))→Below B w0 w'→wpList P ops Q rest (a.put o.dst (goInt (Nat.min sLen dLen:Nat))) w') :
   wpList P ops Q (o::rest) a w:=by
 refine wpList_plain hgd fun K hK=> ?_
 by_cases h0:cs.length=0
 · have hm:Nat.min sLen dLen=0:=by
    rcases Nat.eq_zero_or_pos (Nat.min sLen dLen) with h | h
    · exact h
    · have:=Nat.mul_pos h hz;omega
   obtain rfl:cs = []:=List.eq_nil_of_length_eq_zero h0
   have hrun:=YH P w dT sT o.type elem dp sp dLen dCap sLen sCap sz hu hsz hm
   unfold Oper.wp
   simp[execOp,ho,resolve,invoke,builtin,hd,hs,hrun,Result.andThen]
   refine hK _ _ ?_
   have:=h w (show _=_ by simpa [splice]using hg) hb
   rw[hm]at this
   exact this
 · obtain ⟨rfl,ad,rfl,hsrc⟩:=hpos (by omega)
   have hrun:=YI P w dT sT o.type elem g off dLen dCap ad sLen sCap sz cur.toArray t cs hu hsz hg hn hsrc (by simpa using hfit) h1
   unfold Oper.wp
   simp[execOp,ho,resolve,invoke,builtin,hd,hs,hrun,Result.andThen]
   refine hK _ _ ?_
   exact h _ (show _=_ by simpa [splice]using setRow_heap w g _ _ t _ hg) (below_setRow hb hBg _)
theorem AkF{P:Program}{ops:Array Oper}{o:Oper}{a:Act}{w:World}{K:Act→World→Prop}{Q:Exit→Act→World→Prop}{E:Prop}(hgd:o.guard=none)(d s:Operand)(dT sT:TypeId)
   (ho:o.op = .call { callee:= .builtin .copy,args:= #[d,s],argTypes:= #[dT,sT] }) (elem:TypeId) (sz:Nat) (hz:0<sz) (hu:P.underlying dT=some (.slice elem)) (hsz:(P.info? elem).map (·.size)=some sz)
   (dp sp:Option Addr) (dLen dCap sLen sCap:Nat) (hd:a.eval d = .slice dp dLen dCap) (hs:a.eval s = .slice sp sLen sCap)
   (g off:Nat) (cur:List Value) (t:TypeId) (hg:w.heap[g]? = some (.cells cur.toArray t (0,0))) (cs:List Value) (hn:cs.length=Nat.min sLen dLen*sz)
   (hpos:0<cs.length→dp=some ⟨g,off,none⟩∧∃ ad,sp=some ad∧∀ j v,cs[j]? = some v→w.cell? (ad.add j)=some v)
   (hfit:off+cs.length≤cur.length) (h1 : ∀ v∈cs,v.oneCell'=true) (B:Nat) (w0:World) (hb:RowKit.Below B w0 w) (hBg:B≤g)
   (h : ∀ w',RowKit.Hid (w'.heap[g]? = some (.cells (splice cur off cs).toArray t (0,0)))→RowKit.Below B w0 w'→K (a.put o.dst (goInt (Nat.min sLen dLen:Nat))) w') :
   if Region.wanted o (yielded ops a.tmps)=true then Oper.wp P o a w K Q else E:=by
 have hw:Region.wanted o (yielded ops a.tmps)=true:=by simp[Region.wanted,hgd]
 rw[if_pos hw]
 by_cases h0:cs.length=0
 · have hm:Nat.min sLen dLen=0:=by
    rcases Nat.eq_zero_or_pos (Nat.min sLen dLen) with h | h
    · exact h
    · have:=Nat.mul_pos h hz;omega
   obtain rfl:cs = []:=List.eq_nil_of_length_eq_zero h0
   have hrun:=YH P w dT sT o.type elem dp sp dLen dCap sLen sCap sz hu hsz hm
   unfold Oper.wp
   simp[execOp,ho,resolve,invoke,builtin,hd,hs,hrun,Result.andThen]
   have:=h w (show _=_ by simpa [splice]using hg) hb
   rw[hm]at this
   exact this
 · obtain ⟨rfl,ad,rfl,hsrc⟩:=hpos (by omega)
   have hrun:=YI P w dT sT o.type elem g off dLen dCap ad sLen sCap sz cur.toArray t cs hu hsz hg hn hsrc (by simpa using hfit) h1
   unfold Oper.wp
   simp[execOp,ho,resolve,invoke,builtin,hd,hs,hrun,Result.andThen]
   exact h _ (show _=_ by simpa [splice]using setRow_heap w g _ _ t _ hg) (below_setRow hb hBg _)
end Go
namespace Go.Proofs.YtokkbgpgaheakaaGreat
open Go.RowKit
def Co(k:Nat)(xs:List Value):List Value:=(Amc k xs).flatten
theorem Kc(k:Nat)(xs:List Value):(Co k xs).length=k*xs.length:=by unfold Co;rw[List.length_flatten];simp
theorem XK(k m:Nat)(xs:List Value):Co k xs++Co m xs=Co (k+m) xs:=by
 unfold Co;rw[← List.flatten_append,List.replicate_append_replicate]
theorem Ajb(xs:List Value):Co 1 xs=xs:=by simp[Co]
theorem XN(k:Nat)(xs:List Value):Co (k+1) xs=xs++Co k xs:=by unfold Co;rw[List.replicate_succ];rfl
theorem XM{k:Nat}{xs:List Value}{v:Value}(h:v∈Co k xs):v∈xs:=by
 unfold Co at h
 obtain ⟨l,hl,hv⟩:=List.mem_flatten.1 h
 rwa[List.eq_of_mem_replicate hl]at hv
theorem XL{xs:List Value} : ∀ {k i j:Nat},i<k→j<xs.length→(Co k xs)[i*xs.length+j]? = xs[j]?
 | 0,i,j,h,_=>by omega
 | k+1,0,j,_,hj=>by rw[XN,Nat.zero_mul,Anl,Am0 hj]
 | k+1,i+1,j,h,hj=>by
  rw[XN,List.getElem?_append_right (by rw[Nat.succ_mul];omega),show (i+1)*xs.length+j-xs.length=i*xs.length+j by rw[Nat.succ_mul];omega]
  exact XL (by omega) hj
theorem Aah{xs cur:List Value}{k m:Nat}(h:cur.take (k*xs.length)=Co k xs)(hk:(k+m)*xs.length≤cur.length):(splice cur (k*xs.length) (Co m xs)).take ((k+m)*xs.length)=Co (k+m) xs∧(splice cur (k*xs.length) (Co m xs)).length=cur.length:=by
 have e:(k+m)*xs.length=k*xs.length+m*xs.length:=Nat.add_mul _ _ _
 refine ⟨?_,length_splice _ _ _ (by rw[Kc];omega)⟩
 unfold splice
 rw[h,← Amz,XK,List.take_append_of_le_length (by rw[Kc];omega),Am7 (by rw[Kc];omega)]
def QInv(w2:World)(G n:Nat)(xs:List Value)(iv:Value)(wr:World):Prop:=∃ (k:Nat) (cur:List Value),iv = .int .i64 k∧k≤n∧(0<n→0<k)∧cur.length=n*xs.length∧cur.take (k*xs.length)=Co k xs∧wr.heap[G]? = some (.cells cur.toArray 67 (0,0))∧Below G w2 wr
theorem QInv.start {w2 w3:World} {G n:Nat} {xs X:List Value} (hX:X.length=n*xs.length) (h:w3.heap[G]? = some (.cells (splice X 0 (Co (Nat.min 1 n) xs)).toArray 67 (0,0))) (hb:Below G w2 w3):QInv w2 G n xs (.int .i64 ((Nat.min 1 n:Nat):Int)) w3:=by
 have h2:Nat.min 1 n≤n:=Nat.min_le_right 1 n
 have h3:Nat.min 1 n=if 1≤n then 1 else n:=Nat.min_def
 have hm:=Amv xs.length h2
 obtain ⟨s1,s2⟩:=Aah (xs:=xs) (cur:=X) (k:=0) (m:=Nat.min 1 n) (by rw[Nat.zero_mul];rfl) (by rw[Anl];omega)
 rw[Anl,Nat.zero_mul]at s1
 rw[Nat.zero_mul]at s2
 exact ⟨Nat.min 1 n,_,rfl,h2,fun h=>by rw[h3];split <;> omega,by omega,s1,h,hb⟩
theorem QInv.next {w2 w4:World} {G n k:Nat} {xs cur:List Value} (hk:k<n) (hp:0<k) (hl:cur.length=n*xs.length) (ht:cur.take (k*xs.length)=Co k xs) (h:w4.heap[G]? = some (.cells (splice cur (k*xs.length) (Co (Nat.min k (n-k)) xs)).toArray 67 (0,0))) (hb:Below G w2 w4):QInv w2 G n xs (.int .i64 ((k+Nat.min k (n-k):Nat):Int)) w4∧n-(k+Nat.min k (n-k))<n-k:=by
 have h3:Nat.min k (n-k)=if k≤n-k then k else n-k:=Nat.min_def
 have h4:0<Nat.min k (n-k)∧k+Nat.min k (n-k)≤n:=by rw[h3];split <;> omega
 have hm:=Amv xs.length h4.2
 obtain ⟨s1,s2⟩:=Aah (xs:=xs) (cur:=cur) (k:=k) (m:=Nat.min k (n-k)) ht (by omega)
 exact ⟨⟨_,_,rfl,h4.2,fun _=>by omega,by omega,s1,h,hb⟩,by omega⟩
def AaY(n:Nat)(xs:List Value)(w:World)(e:Ending)(w':World):Prop:=∃ G,e = .returned (.slice (some ⟨G,0,none⟩) n n)∧w.heap.size≤G∧w'.heap[G]? = some (.cells (Co n xs).toArray 67 (0,0))∧Ext w w'
theorem AcH:Elt Tryz.prog 24 67 7 104 :=
 ⟨Tryz.underlying24,by
  obtain ⟨i,hi,h1,h2,h3⟩:=info_parts (P:=Tryz.prog) (e:=67) (z:= .agg #[.int .u64 0,.int .i64 0,.bool false,.slice none 0 0,.slice none 0 0,.int .i64 0,.slice none 0 0]) (size:=7) (bytes:=104) (by kernel_rfl)
  exact ⟨i,_,hi,h1,h2,h3,rfl⟩,by decide⟩
theorem Ak_{w w2:World}{ad:Addr}{xs:List Value}(h : ∀ j v,xs[j]? = some v→w.cell? (ad.add j)=some v)(hx:Ext w w2)(m:Nat)(hm:m≤1):0<(Co m xs).length→∃ ad',some ad=some ad'∧∀ j v,(Co m xs)[j]? = some v→w2.cell? (ad'.add j)=some v:=by
 intro hp
 have:m=1:=by
  rcases Ann 0 m with h | h
  · omega
  · have:m=0:=by omega
    subst this;simp[Co]at hp
 subst this
 rw[Ajb]
 refine ⟨ad,rfl,fun j v hv=> ?_⟩
 have h0:=h j v hv
 have hb:ad.block<w.heap.size:=by
  rcases Ann ad.block w.heap.size with g | g
  · exact g
  · have hn:w.heap[ad.block]? = none:=Array.getElem?_eq_none g
    have e:(ad.add j).block=ad.block:=by unfold Addr.add;split <;> rfl
    unfold World.cell? at h0
    rw[e,hn]at h0
    cases h0
 have e:(ad.add j).block=ad.block:=by unfold Addr.add;split <;> rfl
 rw[← h0]
 exact World.cell?_of_block (by rw[e];exact hx.block _ hb)
theorem AkB{w:World}{G k:Nat}{xs cur:List Value}{T:TypeId}(h:w.heap[G]? = some (.cells cur.toArray T (0,0)))(ht:cur.take (k*xs.length)=Co k xs)(m:Nat)(hm:m≤k) : ∀ j v,(Co m xs)[j]? = some v→w.cell? ((⟨G,0,none⟩:Addr).add j)=some v:=by
 intro j v hv
 have hj:=(Ame.1 hv).1
 rw[Kc]at hj
 have hmk:=Amv xs.length hm
 have e:Co k xs=Co m xs++Co (k-m) xs:=by rw[XK];congr 1;omega
 have hcj:cur[j]? = some v:=by
  have h1:(cur.take (k*xs.length))[j]? = some v:=by rw[ht,e,Am0 (by rw[Kc];exact hj)];exact hv
  rw[List.getElem?_take,if_pos (by omega)]at h1
  exact h1
 have ea:(⟨G,0,none⟩:Addr).add j=⟨G,j,none⟩:=by unfold Addr.add;split <;> simp_all
 rw[ea]
 unfold World.cell?
 simp[h,hcj]
set_option maxHeartbeats 2000000 in
theorem AiY(ad:Addr)(c n:Nat)(xs:List Value)(w:World)(hn:n≤1000000)(hx7:xs.length=7)(h1 : ∀ v∈xs,v.oneCell'=true)(hs : ∀ j v,xs[j]? = some v→w.cell? (ad.add j)=some v):Calls Tryz.prog 233 #[.slice (some ad) 1 c,.int .i64 n] w (AaY n xs w):=by
 have HS:=Lib.hid hs
 have HO:=Lib.hid h1
 have H7:=Lib.hid hx7
 clear hs h1 hx7
 have hu:Tryz.prog.underlying 24=some (.slice 67):=by kernel_rfl
 have hz:(Tryz.prog.info? 67).map (·.size)=some 7:=by kernel_rfl
 have HU:=Lib.hid hu
 have HZ:=Lib.hid hz
 clear hu hz
 go_enter Tryz.func233,Tryz.ntmps233
 go_wp2_with (first
  | (go_at_call 231;refine (RN n (by omega) _).mono ?_;rintro e w1 ⟨rfl,hx1⟩)
  | (at_make;refine AaJ AcH rfl _ _ rfl n rfl rfl (by omega) (by omega) (by omega) (by unfold maxLen;omega) ?_;intro G w2 X hG HG hX hx2;have HX:=Lib.hid hX;clear hX)
  | (refine AlM rfl (.tmp 31) (.tmp 32) 24 24 rfl 67 7 (by decide) HU.out HZ.out (some ⟨G,0,none⟩) (some ad) n n 1 c (by simp[Act.eval,Act.put]) (by simp[Act.eval,Act.put]) G 0 X 67 HG.out (Co (Nat.min 1 n) xs) (by rw[Kc,H7.out]) (fun hp=>⟨rfl,Ak_ HS.out (hx1.trans hx2) _ (Nat.min_le_left _ _) hp⟩) (by have h1:=HX.out;have h2:Nat.min 1 n≤n:=Nat.min_le_right 1 n;rw[Kc,H7.out];omega) (fun v hv=>HO.out v (XM hv)) G w2 (Below.refl _ _) (Amo _) ?_;intro w3 HG3 hb3))
 go_loopw [8] (QInv w2 G n xs) (fun iv _=>n-(intOf iv).toNat)
 case atStart=>exact QInv.start (by rw[H7.out];exact HX.out) HG3.out hb3
 case round =>
  obtain ⟨k,cur,rfl,hk,hp,hl,ht,hh,hb⟩:=hrel
  rw[H7.out]at hl ht
  have HT:=Lib.hid ht
  have HH:=Lib.hid hh
  have HB:=Lib.hid hb
  have HL:=Lib.hid hl
  clear ht hh hb hl
  by_cases hlt:k<n
  · have hpk:0<k:=hp (by omega)
    clear hp
    have HSR:=Lib.hid (AkB (w:=wr.drew) (xs:=xs) HH.out (by rw[H7.out];exact HT.out) (Nat.min k (n-k)) (Nat.min_le_left _ _))
    have HNE:=Lib.hid (show (if n=k then some (⟨G,0,none⟩:Addr) else some ⟨G,k*7,none⟩)=some ⟨G,k*7,none⟩ from if_neg (by omega))
    go_wp2_with fail
    go_region_law (refine AkF rfl (.tmp 41) (.tmp 44) 24 24 rfl 67 7 (by decide) HU.out HZ.out (if n=k then some ⟨G,0,none⟩ else some ⟨G,k*7,none⟩) (some ⟨G,0,none⟩) (n-k) (n-k) k n (by simp[Act.eval,Act.put]) (by simp[Act.eval,Act.put]) G (k*7) cur 67 HH.out (Co (Nat.min k (n-k)) xs) (by rw[Kc,H7.out]) (fun _=>⟨HNE.out,_,rfl,HSR.out⟩) (by have h1:=HL.out;have h2:Nat.min k (n-k)≤n-k:=Nat.min_le_right k (n-k);rw[Kc,H7.out];omega) (fun v hv=>HO.out v (XM hv)) G w2 HB.out.drew (Amo _) ?_;intro w4 HG4 hb4)
    go_wp2
    go_roundw
    case rel =>
     rw[Yz hlt (by omega)]
     exact (QInv.next (xs:=xs) (cur:=cur) hlt hpk (by rw[H7.out];exact HL.out) (by rw[H7.out];exact HT.out) (by rw[H7.out];exact HG4.out) hb4).1
    case measure =>
     rw[Yz hlt (by omega)]
     exact (QInv.next (xs:=xs) (cur:=cur) hlt hpk (by rw[H7.out];exact HL.out) (by rw[H7.out];exact HT.out) (by rw[H7.out];exact HG4.out) hb4).2
  · have hkn:k=n:=by omega
    subst hkn
    go_wp2_with fail
    go_ret
    have hh:=HH.out
    have hcur:cur=Co k xs:=by
     have h1:=HT.out
     rw[Am7 (by have:=HL.out;omega)]at h1
     exact h1
    rw[hcur]at hh
    exact ⟨G,rfl,Nat.le_trans hx1.size hG,hh,Below.trans (hx1.trans hx2) (Below.mono HB.out (Nat.le_trans hx1.size hG))⟩
theorem AiZ(n:Nat)(x:Cell)(hn:n≤1000000):Sp 233 [.sl [dC x],.int (n:Int)] [.sl (Amc n (dC x))]:=by
 refine AJ Kk Tryz.func233 (by kernel_rfl) (by kernel_rfl) (by kernel_rfl) (fun w M vs hM _ hlv hrd=> ?_)
 have hps:Tryz.f233.params.toList = [24,3]:=by kernel_rfl
 have hu:Tryz.prog.underlying 24=some (.slice 67):=by kernel_rfl
 have hc7:Tryz.prog.cellsOf 67=7:=by kernel_rfl
 have hlen:vs.length=2:=by rw[hlv];rfl
 match vs,hlen with
 | [va,vb],_ =>
  rw[hps]at hrd
  have ra:=hrd 0 _ _ _ rfl rfl rfl
  obtain ⟨rfl,_⟩:=VD (hrd 1 _ _ _ rfl rfl rfl)
  have hva : ∃ A c,va = .slice A 1 c:=by
   obtain ⟨h1,h2,h3⟩:=ra
   have ha:C9 va=false:=by rw[h3];kernel_rfl
   cases h1 with
   | @sl _ e _ _ A cap bk off ht hc h4 h5 hA hh =>
    rw[Hj ha]at hc
    exact ⟨A,cap,by simpa using hc⟩
  obtain ⟨A,c,rfl⟩:=hva
  obtain ⟨_,_,_,bk,off,hA,hel⟩:=ZK ra.rd hu
  obtain ⟨rfl,hMb,hbs⟩:=hA (by simp)
  obtain ⟨news,hnl,hsrc,hone,hnr⟩:=DK Kk (by rw[hc7];decide) hel
  have hn7:news.length=7:=by rw[hnl,hc7];rfl
  have hx0:=hnr 0 (dC x) rfl
  refine (AiY _ c n news w hn hn7 hone hsrc).mono ?_
  rintro e w' ⟨G,rfl,hG,hv,hx⟩
  refine ⟨[_],rfl,rfl,fun i t u ht hu'=> ?_,hx⟩
  rw[show Tryz.f233.resultTypes.toList = [24] by kernel_rfl]at ht
  match i with
  | 0 =>
   cases ht;cases hu'
   have hGs : ¬ M G:=fun hm=>by have:=hM G hm;omega
   have hGl:G<w'.heap.size:=(Am8.1 hv).1
   refine ⟨.sl (e:=67) (A:=some ⟨G,0,none⟩) (cap:=n) (bk:=G) (off:=0) hu (by simp;rfl) (by simp) (by unfold maxLen;omega) (fun _=>⟨rfl,hGs,hGl⟩) (fun i y hy=> ?_),by kernel_rfl,by kernel_rfl⟩
   have hi:i<n:=by have:=(Ame.1 hy).1;simpa using this
   have hy':y=dC x:=by
    have:=Amh hy
    exact List.eq_of_mem_replicate this
   subst hy'
   have h1:=hx0.mono (w':=w') (M':=M) hx.size (fun b _ hb=>hx.block b hb) (fun b hb _=>hb)
   refine h1.congr (fun j hj=> ?_) (by show 0<Tryz.prog.cellsOf 67;rw[hc7];decide)
   have hj7:j<7:=by
    have:j<Tryz.prog.cellsOf 67:=hj
    rwa[hc7]at this
   show w'.cell? ⟨G,0+(i*Tryz.prog.cellsOf 67+j),none⟩=news[0*Tryz.prog.cellsOf 67+j]?
   rw[hc7,Nat.zero_mul,Anl,Anl,← XL (xs:=news) hi (by omega),hn7]
   unfold World.cell?
   simp[hv]
  | i+1=>simp at ht
end Go.Proofs.YtokkbgpgaheakaaGreat
namespace Go.Proofs.YtokkbgpgaheakaaGreat
def Xc:List (Nat×Orc):=[(10,⟨[(1,none),(2,none),(6,none),(28,some 23),(29,none),(30,none)],[(1,true),(2,false)],[(.slot 6,1100,67)]⟩)]
noncomputable def Re(n m10:Nat)(cells6:List D)(t28:D)(t29 t30:Int)(a1:D)(t2_0:Int):Tree :=
 lA (eA Xc n 68 [1,1,1,1,1,1,0,1,0,0]) (Ak Xc 10) m10 ⟨(.undef:: .ptr 1 []:: .ptr 2 []::uA 3++(.row 1100::uA 21++(.d 23 t28:: .i .i64 t29:: .i .i64 t30::uA 18))),[(1,.var 26 (.d 26 a1) true),(2,.var 26 (.agg 26 [.i .u64 t2_0,.mt,.mt]) true),(1100,.row 67 cells6 true)],[1,2,1100],[],[]⟩
  (Ai 0 (Am (jA Xc n 68 [1,1,1,1,1,1,1]) (rA 68 [26] [.cell 2 26,.tmp 3] [26,29])))
theorem TQ(n m10:Nat)(cells6:List D)(t28:D)(t29 t30:Int)(a1:D)(t2_0:Int):Re n (m10+1) cells6 t28 t29 t30 a1 t2_0 =
 bK (t30<t29) (kK (0≤t30) (kK (t30<(t28.els.length:Int)) (.br (((t28.els.getD (Ama t30) D.nil).toInt)==1) (cK 138 [D.int (Al6 .i64 (t30+1))] fun Y3 =>
 kK (cells6.length + [qA Y3].length≤Aj) (Re n m10 (cells6++[qA Y3]) t28 t29 (Al6 .i64 (t30+1)) a1 t2_0))
 (Re n m10 cells6 t28 t29 (Al6 .i64 (t30+1)) a1 t2_0))))
 (cK 149 [D.sl cells6] fun Y4 =>
 cK 84 [a1] fun Y5 =>
 cK 90 [qA Y4,D.int ((qA Y5).toInt)] fun Y6 =>
 .ret [qA Y6,D.int 0]):=by kernel_rfl
theorem Ag9(n:Nat)(a0:D):fA Xc n 68 [] [a0] =
 cK 80 [a0] fun Y1 =>
 .br (((qB Y1).toInt)!=0) (.ret [D.agg [D.int 0,D.sl [],D.sl []],D.int ((qB Y1).toInt)])
 (.br ((((a0.fld 1).els).length:Int)==0) (.ret [D.agg [D.int 0,D.sl [],D.sl []],D.int 5])
 (cK 153 [qA Y1] fun Y2 =>
 .br (!((qA Y2).toBool)) (.ret [D.agg [D.int 0,D.sl [],D.sl []],D.int 3])
 (Re n n [] (qA Y1) (((qA Y1).els).length:Int) 0 a0 0))):=by kernel_rfl
def Ht:List (Nat×Orc):=[(18,⟨[(3,none),(4,none),(6,none),(7,none),(9,some 23),(10,none),(11,none),(13,none),(64,some 23),(65,none),(66,none)],[(3,true),(4,true),(6,false),(7,false)],[(.slot 13,1180,3)]⟩),(25,⟨[(3,none),(4,none),(6,none),(7,none),(9,some 23),(10,none),(11,none),(13,none),(14,none),(64,some 23),(65,none),(66,none),(79,none),(80,none)],[(3,true),(4,true),(6,false),(7,false)],[(.slot 13,1250,3)]⟩)]
def GQ:List ResultVar:=[.cell 6 26,.cell 7 29]
noncomputable def Ol(n m18 m25:Nat)(s9:D)(axis10 long11:Int)(from13:List D)(i14:Int)(t64:D)(t65 t66:Int)(t79 t80:Int)(nn3 a4:D)(r6_0 e7:Int):Tree :=
 lA (eA Ht n 110 [1,1,1,1,1,1,1,1,1,1,1,1,0,1,0,0,1,1,0,0,1,1,1,1,0,0]) (Ak Ht 25) m25 ⟨(uA 3++(.ptr 3 []:: .ptr 4 []:: .undef:: .ptr 6 []:: .ptr 7 []:: .undef:: .d 23 s9:: .i .i64 axis10:: .i .i64 long11:: .undef:: .row 1250:: .i .i64 i14::uA 49++(.d 23 t64:: .i .i64 t65:: .i .i64 t66::uA 12++(.i .i64 t79:: .i .i64 t80::uA 15)))),[(3,.var 26 (.d 26 nn3) true),(4,.var 26 (.d 26 a4) true),(6,.var 26 (.agg 26 [.i .u64 r6_0,.mt,.mt]) true),(7,.var 29 (.i .i64 e7) true),(1250,.row 3 from13 true)],[3,4,6,7,1250],[(187,[.ptr 6 [],.ptr 7 []])],[]⟩
  (Ai 2 (Ai 1 (Am (jA Ht n 110 [1,1,1,1,1,1,1,1,1,1,1,1,0,1,0,0,1,1,1]) (Fa Tryz.prog md (Ak Ht 18) (fun s1=>lA (eA Ht n 110 [1,1,1,1,1,1,1,1,1,1,1,1,0,1,0,0]) (Ak Ht 18) m18 s1 (Ai 0 (Am (jA Ht n 110 [1,1,1,1,1,1,1,1,1,1,1,1,1]) (rA 110 [26,26,4] GQ [26,29])))) (Ai 0 (Am (jA Ht n 110 [1,1,1,1,1,1,1,1,1,1,1,1,1]) (rA 110 [26,26,4] GQ [26,29])))))))
noncomputable def Hs(n m18:Nat)(s9:D)(axis10 long11:Int)(from13:List D)(t64:D)(t65 t66:Int)(nn3 a4:D)(r6_0 e7:Int):Tree :=
 lA (eA Ht n 110 [1,1,1,1,1,1,1,1,1,1,1,1,0,1,0,0]) (Ak Ht 18) m18 ⟨(uA 3++(.ptr 3 []:: .ptr 4 []:: .undef:: .ptr 6 []:: .ptr 7 []:: .undef:: .d 23 s9:: .i .i64 axis10:: .i .i64 long11:: .undef:: .row 1180::uA 50++(.d 23 t64:: .i .i64 t65:: .i .i64 t66::uA 29))),[(3,.var 26 (.d 26 nn3) true),(4,.var 26 (.d 26 a4) true),(6,.var 26 (.agg 26 [.i .u64 r6_0,.mt,.mt]) true),(7,.var 29 (.i .i64 e7) true),(1180,.row 3 from13 true)],[3,4,6,7,1180],[(187,[.ptr 6 [],.ptr 7 []])],[]⟩
  (Ai 0 (Am (jA Ht n 110 [1,1,1,1,1,1,1,1,1,1,1,1,1]) (rA 110 [26,26,4] GQ [26,29])))
theorem TO(n m18 m25:Nat)(s9:D)(axis10 long11:Int)(from13:List D)(i14:Int)(t64:D)(t65 t66:Int)(t79 t80:Int)(nn3 a4:D)(r6_0 e7:Int):Ol n m18 (m25+1) s9 axis10 long11 from13 i14 t64 t65 t66 t79 t80 nn3 a4 r6_0 e7 =
 bK (t80<t79) (kK (from13.length + [D.int i14].length≤Aj) (Ol n m18 m25 s9 axis10 long11 (from13++[D.int i14]) i14 t64 t65 t66 t79 (Al6 .i64 (t80+1)) nn3 a4 r6_0 e7))
 (Hs n m18 s9 axis10 long11 from13 t64 t65 (Al6 .i64 (t66+1)) nn3 a4 r6_0 e7):=by kernel_rfl
theorem TN(n m18:Nat)(s9:D)(axis10 long11:Int)(from13:List D)(t64:D)(t65 t66:Int)(nn3 a4:D)(r6_0 e7:Int):Hs n (m18+1) s9 axis10 long11 from13 t64 t65 t66 nn3 a4 r6_0 e7 =
 bK (t66<t65) (kK (0≤t66) (kK (t66<(t64.els.length:Int)) (bK ((Al6 .i64 (2048-(from13.length:Int)))<((t64.els.getD (Ama t66) D.nil).toInt)) (.ret [D.agg [D.int 0,D.sl [],D.sl []],D.int 7])
 (.br (long11 == 1) (Ol n m18 n s9 axis10 long11 from13 0 t64 t65 t66 ((t64.els.getD (Ama t66) D.nil).toInt) 0 nn3 a4 r6_0 e7)
 (Ol n m18 n s9 axis10 long11 from13 t66 t64 t65 t66 ((t64.els.getD (Ama t66) D.nil).toInt) 0 nn3 a4 r6_0 e7)))))
 (cK 190 [nn3,a4,s9,D.int axis10,D.sl from13] fun Y5 =>
 .ret [qA Y5,D.int ((qB Y5).toInt)]):=by kernel_rfl
theorem Ag7(n:Nat)(nn0 a1 first2:D):fA Ht n 110 [] [nn0,a1,first2] =
 cK 80 [nn0] fun Y1 =>
 .br (((qB Y1).toInt)!=0) (.ret [D.agg [D.int 0,D.sl [],D.sl []],D.int ((qB Y1).toInt)])
 (cK 167 [qA Y1,D.fn 188 [] []] fun Y2 =>
 .br ((qA Y2).toBool) (.ret [D.agg [D.int 0,D.sl [],D.sl []],D.int 3])
 (cK 189 [a1,D.bool first2.toBool] fun Y3 =>
 kK (0≤(qB Y3).toInt) (kK ((qB Y3).toInt<(((qA Y3).els).length:Int)) (.br (!((((nn0.fld 1).els).length:Int)==0)) (.br (((((qA Y3).els).getD (Ama ((qB Y3).toInt)) D.nil).toInt)!=1) (.br ((((qA Y1).els).length:Int)!=((((qA Y3).els).getD (Ama ((qB Y3).toInt)) D.nil).toInt)) (.ret [D.agg [D.int 0,D.sl [],D.sl []],D.int 4])
 (bK (2048<((((qA Y3).els).getD (Ama ((qB Y3).toInt)) D.nil).toInt)) (.ret [D.agg [D.int 0,D.sl [],D.sl []],D.int 7])
 (.br ((((nn0.fld 1).els).length:Int)==0) (cK 177 [qA Y1,D.int ((((qA Y3).els).getD (Ama ((qB Y3).toInt)) D.nil).toInt)] fun Y4 =>
 Hs n n (qA Y3) ((qB Y3).toInt) ((((qA Y3).els).getD (Ama ((qB Y3).toInt)) D.nil).toInt) [] (qA Y4) (((qA Y4).els).length:Int) 0 nn0 a1 0 ((qB Y1).toInt))
 (Hs n n (qA Y3) ((qB Y3).toInt) ((((qA Y3).els).getD (Ama ((qB Y3).toInt)) D.nil).toInt) [] (qA Y1) (((qA Y1).els).length:Int) 0 nn0 a1 0 ((qB Y1).toInt)))))
 (bK (2048<((((qA Y3).els).getD (Ama ((qB Y3).toInt)) D.nil).toInt)) (.ret [D.agg [D.int 0,D.sl [],D.sl []],D.int 7])
 (.br ((((nn0.fld 1).els).length:Int)==0) (cK 177 [qA Y1,D.int ((((qA Y3).els).getD (Ama ((qB Y3).toInt)) D.nil).toInt)] fun Y6 =>
 Hs n n (qA Y3) ((qB Y3).toInt) ((((qA Y3).els).getD (Ama ((qB Y3).toInt)) D.nil).toInt) [] (qA Y6) (((qA Y6).els).length:Int) 0 nn0 a1 0 ((qB Y1).toInt))
 (Hs n n (qA Y3) ((qB Y3).toInt) ((((qA Y3).els).getD (Ama ((qB Y3).toInt)) D.nil).toInt) [] (qA Y1) (((qA Y1).els).length:Int) 0 nn0 a1 0 ((qB Y1).toInt)))))
 (bK (2048<((((qA Y3).els).getD (Ama ((qB Y3).toInt)) D.nil).toInt)) (.ret [D.agg [D.int 0,D.sl [],D.sl []],D.int 7])
 (.br ((((nn0.fld 1).els).length:Int)==0) (cK 177 [qA Y1,D.int ((((qA Y3).els).getD (Ama ((qB Y3).toInt)) D.nil).toInt)] fun Y7 =>
 Hs n n (qA Y3) ((qB Y3).toInt) ((((qA Y3).els).getD (Ama ((qB Y3).toInt)) D.nil).toInt) [] (qA Y7) (((qA Y7).els).length:Int) 0 nn0 a1 0 ((qB Y1).toInt))
 (Hs n n (qA Y3) ((qB Y3).toInt) ((((qA Y3).els).getD (Ama ((qB Y3).toInt)) D.nil).toInt) [] (qA Y1) (((qA Y1).els).length:Int) 0 nn0 a1 0 ((qB Y1).toInt)))))))):=by kernel_rfl
def Ml:List (Nat×Orc):=[(11,⟨[(3,none),(4,none),(6,none),(7,none),(9,some 23),(10,none),(11,none),(12,none),(39,some 23),(40,none),(41,none)],[(3,true),(4,true),(6,false),(7,false)],[(.slot 11,1110,3)]⟩),(20,⟨[(3,none),(4,none),(6,none),(7,none),(9,some 23),(10,none),(11,none),(64,none),(65,none)],[(3,true),(4,true),(6,false),(7,false)],[(.slot 11,1200,3)]⟩)]
def TL:List ResultVar:=[.cell 6 26,.cell 7 29]
noncomputable def Rc(n m20:Nat)(s9:D)(axis10:Int)(from11:List D)(t64 t65:Int)(nn3 a4:D)(r6_0 e7:Int):Tree :=
 lA (eA Ml n 111 [1,1,1,1,1,1,1,1,1,0,1,0,1,0,0]) (Ak Ml 20) m20 ⟨(uA 3++(.ptr 3 []:: .ptr 4 []:: .undef:: .ptr 6 []:: .ptr 7 []:: .undef:: .d 23 s9:: .i .i64 axis10:: .row 1200::uA 52++(.i .i64 t64:: .i .i64 t65::uA 26))),[(3,.var 26 (.d 26 nn3) true),(4,.var 26 (.d 26 a4) true),(6,.var 26 (.agg 26 [.i .u64 r6_0,.mt,.mt]) true),(7,.var 29 (.i .i64 e7) true),(1200,.row 3 from11 true)],[3,4,6,7,1200],[(191,[.ptr 6 [],.ptr 7 []])],[]⟩
  (Ai 2 (Am (jA Ml n 111 [1,1,1,1,1,1,1,1,1,1]) (rA 111 [26,26,4] TL [26,29])))
noncomputable def Rb(n m11:Nat)(s9:D)(axis10:Int)(from11:List D)(ones12:Int)(t39:D)(t40 t41:Int)(nn3 a4:D)(r6_0 e7:Int):Tree :=
 lA (eA Ml n 111 [1,1,1,1,1,1,1,1,0,1,0,0]) (Ak Ml 11) m11 ⟨(uA 3++(.ptr 3 []:: .ptr 4 []:: .undef:: .ptr 6 []:: .ptr 7 []:: .undef:: .d 23 s9:: .i .i64 axis10:: .row 1110:: .i .i64 ones12::uA 26++(.d 23 t39:: .i .i64 t40:: .i .i64 t41::uA 50))),[(3,.var 26 (.d 26 nn3) true),(4,.var 26 (.d 26 a4) true),(6,.var 26 (.agg 26 [.i .u64 r6_0,.mt,.mt]) true),(7,.var 29 (.i .i64 e7) true),(1110,.row 3 from11 true)],[3,4,6,7,1110],[(191,[.ptr 6 [],.ptr 7 []])],[]⟩
  (Ai 0 (Am (jA Ml n 111 [1,1,1,1,1,1,1,1,1]) (rA 111 [26,26,4] TL [26,29])))
theorem TK(n m20:Nat)(s9:D)(axis10:Int)(from11:List D)(t64 t65:Int)(nn3 a4:D)(r6_0 e7:Int):Rc n (m20+1) s9 axis10 from11 t64 t65 nn3 a4 r6_0 e7 =
 bK (t65<t64) (kK (0≤t65) (kK (t65<(from11.length:Int)) (kK (0≤t65) (kK (t65<(from11.length:Int)) (Rc n m20 s9 axis10 (from11.set (Ama t65) (D.int (if 0<((from11.getD (Ama t65) D.nil).toInt) then 0 else ((from11.getD (Ama t65) D.nil).toInt)))) t64 (Al6 .i64 (t65+1)) nn3 a4 r6_0 e7)))))
 (cK 190 [nn3,a4,s9,D.int axis10,D.sl from11] fun Y4 =>
 .ret [qA Y4,D.int ((qB Y4).toInt)]):=by kernel_rfl
theorem TJ(n m11:Nat)(s9:D)(axis10:Int)(from11:List D)(ones12:Int)(t39:D)(t40 t41:Int)(nn3 a4:D)(r6_0 e7:Int):Rb n (m11+1) s9 axis10 from11 ones12 t39 t40 t41 nn3 a4 r6_0 e7 =
 bK (t41<t40) (kK (0≤t41) (kK (t41<(t39.els.length:Int)) (kK (0≤t41) (kK (t41<(from11.length:Int)) (.br (((t39.els.getD (Ama t41) D.nil).toInt)==1) (kK (0≤t41) (kK (t41<((from11.set (Ama t41) (D.int (-1))).length:Int)) (Rb n m11 s9 axis10 ((from11.set (Ama t41) (D.int (-1))).set (Ama t41) (D.int ones12)) (Al6 .i64 (ones12+1)) t39 t40 (Al6 .i64 (t41+1)) nn3 a4 r6_0 e7)))
 (Rb n m11 s9 axis10 (from11.set (Ama t41) (D.int (-1))) ones12 t39 t40 (Al6 .i64 (t41+1)) nn3 a4 r6_0 e7))))))
 (kK (0≤axis10) (kK (axis10<(s9.els.length:Int)) (.br (((s9.els.getD (Ama axis10) D.nil).toInt)==1) (Rc n n s9 axis10 from11 (from11.length:Int) 0 nn3 a4 r6_0 e7)
 (kK (0≤axis10) (kK (axis10<(s9.els.length:Int)) (.br (ones12 != ((s9.els.getD (Ama axis10) D.nil).toInt)) (.ret [D.agg [D.int 0,D.sl [],D.sl []],D.int 4])
 (cK 190 [nn3,a4,s9,D.int axis10,D.sl from11] fun Y5 =>
 .ret [qA Y5,D.int ((qB Y5).toInt)]))))))):=by kernel_rfl
theorem Ag5(n:Nat)(nn0 a1 first2:D):fA Ml n 111 [] [nn0,a1,first2] =
 cK 80 [nn0] fun Y1 =>
 .br (((qB Y1).toInt)!=0) (.ret [D.agg [D.int 0,D.sl [],D.sl []],D.int ((qB Y1).toInt)])
 (cK 153 [qA Y1] fun Y2 =>
 .br (!((qA Y2).toBool)) (.ret [D.agg [D.int 0,D.sl [],D.sl []],D.int 3])
 (cK 189 [a1,D.bool first2.toBool] fun Y3 =>
 kK (0≤(((qA Y1).els).length:Int)) (kK ((((qA Y1).els).length:Int)≤(((qA Y1).els).length:Int)) (kK ((((qA Y1).els).length:Int)≤Aj) (Rb n n (qA Y3) ((qB Y3).toInt) (Amc (Ama (((qA Y1).els).length:Int)) (D.int 0)) 0 (qA Y1) (((qA Y1).els).length:Int) 0 nn0 a1 0 ((qB Y1).toInt)))))):=by kernel_rfl
def Xd:List (Nat×Orc):=[(2,⟨[(5,some 23),(6,none),(7,none)],[],[]⟩)]
noncomputable def Om(n m2:Nat)(t5:D)(t6 t7:Int):Tree :=
 lA (eA Xd n 153 [1,0,1,0,0]) (Ak Xd 2) m2 ⟨(uA 5++(.d 23 t5:: .i .i64 t6:: .i .i64 t7::uA 10)),[],[],[],[]⟩
  (Ai 0 (Am (jA Xd n 153 [1,1]) (rA 153 [23] [.tmp 2] [4])))
theorem TT(n m2:Nat)(t5:D)(t6 t7:Int):Om n (m2+1) t5 t6 t7 =
 bK (t7<t6) (kK (0≤t7) (kK (t7<(t5.els.length:Int)) (.br (((t5.els.getD (Ama t7) D.nil).toInt)!=0) (.br (((t5.els.getD (Ama t7) D.nil).toInt)!=1) (.ret [D.bool false])
 (Om n m2 t5 t6 (Al6 .i64 (t7+1))))
 (Om n m2 t5 t6 (Al6 .i64 (t7+1))))))
 (.ret [D.bool true]):=by kernel_rfl
theorem AgA(n:Nat)(l0:D):fA Xd n 153 [] [l0] =
 Om n n l0 (l0.els.length:Int) 0:=by kernel_rfl
theorem Ag6(n:Nat)(k0:D):fA [] n 188 [] [k0] =
 .ret [D.bool (decide (k0.toInt<0))]:=by kernel_rfl
theorem Ag_(n:Nat)(a0 first1:D):fA [] n 189 [] [a0,first1] =
 .br ((((a0.fld 1).els).length:Int)==0) (.ret [D.sl [D.int 1],D.int 0])
 (.br first1.toBool (cK 96 [a0.fld 1] fun Y1 =>
 .ret [D.sl ((qA Y1).els),D.int 0])
 (cK 96 [a0.fld 1] fun Y2 =>
 .ret [D.sl ((qA Y2).els),D.int (Al6 .i64 ((((a0.fld 1).els).length:Int)-1))])):=by kernel_rfl
def Hu:List (Nat×Orc):=[(9,⟨[(2,some 23),(3,none),(4,some 23),(5,none),(6,none),(10,none),(12,some 23),(18,none),(20,none),(21,none),(55,none),(56,none)],[(5,true),(6,true),(10,false),(20,true)],[(.slot 21,1090,67)]⟩),(12,⟨[(2,some 23),(3,none),(4,some 23),(5,none),(6,none),(10,none),(12,some 23),(18,none),(20,none),(21,none),(22,none),(55,none),(56,none),(59,some 23),(60,none),(61,none)],[(5,true),(6,true),(10,false),(20,true)],[(.slot 21,1120,67)]⟩)]
def GR:List Nat:=[26,26,23,3,23]
def GS:List ResultVar:=[.cell 10 26,.tmp 11]
noncomputable def Rf(n m9 m12:Nat)(s2:D)(axis3:Int)(from4 t12:D)(behind18:Int)(cells21:List D)(i22 t55 t56:Int)(t59:D)(t60 t61:Int)(nn5 a6:D)(t10_0:Int)(fill20:D):Tree :=
 lA (eA Hu n 190 [1,1,1,1,1,1,1,0,1,0,0,1,1,0,0,1,1,0,0]) (Ak Hu 12) m12 ⟨(.undef:: .undef:: .d 23 s2:: .i .i64 axis3:: .d 23 from4:: .ptr 5 []:: .ptr 6 []::uA 3++(.ptr 10 []:: .undef:: .d 23 t12::uA 5++(.i .i64 behind18:: .undef:: .ptr 20 []:: .row 1120:: .i .i64 i22::uA 32++(.i .i64 t55:: .i .i64 t56:: .undef:: .undef:: .d 23 t59:: .i .i64 t60:: .i .i64 t61::uA 40)))),[(5,.var 26 (.d 26 nn5) true),(6,.var 26 (.d 26 a6) true),(10,.var 26 (.agg 26 [.i .u64 t10_0,.mt,.mt]) true),(20,.var 67 (.d 67 fill20) true),(1120,.row 67 cells21 true)],[5,6,10,20,1120],[],[]⟩
  (Ai 2 (Ai 1 (Am (jA Hu n 190 [1,1,1,1,1,1,1,0,1,0,0,1,1,1]) (Fa Tryz.prog md (Ak Hu 9) (fun s1=>lA (eA Hu n 190 [1,1,1,1,1,1,1,0,1,0,0]) (Ak Hu 9) m9 s1 (Ai 0 (Am (jA Hu n 190 [1,1,1,1,1,1,1,1]) (rA 190 GR GS [26,29])))) (Ai 0 (Am (jA Hu n 190 [1,1,1,1,1,1,1,1]) (rA 190 GR GS [26,29])))))))
noncomputable def Xe(n m9:Nat)(s2:D)(axis3:Int)(from4 t12:D)(behind18:Int)(cells21:List D)(t55 t56:Int)(nn5 a6:D)(t10_0:Int)(fill20:D):Tree :=
 lA (eA Hu n 190 [1,1,1,1,1,1,1,0,1,0,0]) (Ak Hu 9) m9 ⟨(.undef:: .undef:: .d 23 s2:: .i .i64 axis3:: .d 23 from4:: .ptr 5 []:: .ptr 6 []::uA 3++(.ptr 10 []:: .undef:: .d 23 t12::uA 5++(.i .i64 behind18:: .undef:: .ptr 20 []:: .row 1090::uA 33++(.i .i64 t55:: .i .i64 t56::uA 45)))),[(5,.var 26 (.d 26 nn5) true),(6,.var 26 (.d 26 a6) true),(10,.var 26 (.agg 26 [.i .u64 t10_0,.mt,.mt]) true),(20,.var 67 (.d 67 fill20) true),(1090,.row 67 cells21 true)],[5,6,10,20,1090],[],[]⟩
  (Ai 0 (Am (jA Hu n 190 [1,1,1,1,1,1,1,1]) (rA 190 GR GS [26,29])))
theorem TU(n m9 m12:Nat)(s2:D)(axis3:Int)(from4 t12:D)(behind18:Int)(cells21:List D)(i22 t55 t56:Int)(t59:D)(t60 t61:Int)(nn5 a6:D)(t10_0:Int)(fill20:D):Rf n m9 (m12+1) s2 axis3 from4 t12 behind18 cells21 i22 t55 t56 t59 t60 t61 nn5 a6 t10_0 fill20 =
 bK (t61<t60) (kK (0≤t61) (kK (t61<(t59.els.length:Int)) (bK (((t59.els.getD (Ama t61) D.nil).toInt)<0) (cK 233 [D.sl [fill20],D.int behind18] fun Y5 =>
 kK (cells21.length+((qA Y5).els).length≤Aj) (Rf n m9 m12 s2 axis3 from4 t12 behind18 (cells21++((qA Y5).els)) i22 t55 t56 t59 t60 (Al6 .i64 (t61+1)) nn5 a6 t10_0 fill20))
 (kK (0≤axis3) (kK (axis3<(s2.els.length:Int)) (kK (0≤Al6 .i64 ((Al6 .i64 ((Al6 .i64 (i22*((s2.els.getD (Ama axis3) D.nil).toInt)))+((t59.els.getD (Ama t61) D.nil).toInt)))*behind18)) (kK (Al6 .i64 ((Al6 .i64 ((Al6 .i64 (i22*((s2.els.getD (Ama axis3) D.nil).toInt)))+((t59.els.getD (Ama t61) D.nil).toInt)))*behind18)≤Al6 .i64 ((Al6 .i64 ((Al6 .i64 ((Al6 .i64 (i22*((s2.els.getD (Ama axis3) D.nil).toInt)))+((t59.els.getD (Ama t61) D.nil).toInt)))*behind18))+behind18)) (kK (Al6 .i64 ((Al6 .i64 ((Al6 .i64 ((Al6 .i64 (i22*((s2.els.getD (Ama axis3) D.nil).toInt)))+((t59.els.getD (Ama t61) D.nil).toInt)))*behind18))+behind18)≤(((a6.fld 2).els).length:Int)) (kK (cells21.length+((((a6.fld 2).els).take (Ama (Al6 .i64 ((Al6 .i64 ((Al6 .i64 ((Al6 .i64 (i22*((s2.els.getD (Ama axis3) D.nil).toInt)))+((t59.els.getD (Ama t61) D.nil).toInt)))*behind18))+behind18)))).drop (Ama (Al6 .i64 ((Al6 .i64 ((Al6 .i64 (i22*((s2.els.getD (Ama axis3) D.nil).toInt)))+((t59.els.getD (Ama t61) D.nil).toInt)))*behind18)))).length≤Aj) (Rf n m9 m12 s2 axis3 from4 t12 behind18 (cells21++((((a6.fld 2).els).take (Ama (Al6 .i64 ((Al6 .i64 ((Al6 .i64 ((Al6 .i64 (i22*((s2.els.getD (Ama axis3) D.nil).toInt)))+((t59.els.getD (Ama t61) D.nil).toInt)))*behind18))+behind18)))).drop (Ama (Al6 .i64 ((Al6 .i64 ((Al6 .i64 (i22*((s2.els.getD (Ama axis3) D.nil).toInt)))+((t59.els.getD (Ama t61) D.nil).toInt)))*behind18))))) i22 t55 t56 t59 t60 (Al6 .i64 (t61+1)) nn5 a6 t10_0 fill20))))))))))
 (Xe n m9 s2 axis3 from4 t12 behind18 cells21 t55 (Al6 .i64 (t56+1)) nn5 a6 t10_0 fill20):=by kernel_rfl
theorem TV(n m9:Nat)(s2:D)(axis3:Int)(from4 t12:D)(behind18:Int)(cells21:List D)(t55 t56:Int)(nn5 a6:D)(t10_0:Int)(fill20:D):Xe n (m9+1) s2 axis3 from4 t12 behind18 cells21 t55 t56 nn5 a6 t10_0 fill20 =
 bK (t56<t55) (Rf n m9 n s2 axis3 from4 t12 behind18 cells21 t56 t55 t56 from4 (from4.els.length:Int) 0 nn5 a6 t10_0 fill20)
 (cK 84 [nn5] fun Y6 =>
 cK 83 [D.int ((a6.fld 0).toInt),D.int ((qA Y6).toInt)] fun Y7 =>
 .ret [D.agg [D.int ((qA Y7).toInt),t12,D.sl cells21],D.int 0]):=by kernel_rfl
theorem AgC(n:Nat)(nn0 a1:D)(s2 axis3 from4:D):fA Hu n 190 [] [nn0,a1,s2,axis3,from4] =
 cK 173 [s2,D.int axis3.toInt,D.int (from4.els.length:Int)] fun Y1 =>
 cK 81 [qA Y1] fun Y2 =>
 .br (((qB Y2).toInt)!=0) (.ret [D.agg [D.int 0,D.sl [],D.sl []],D.int ((qB Y2).toInt)])
 (cK 140 [qA Y1,D.int axis3.toInt] fun Y3 =>
 cK 82 [a1] fun Y4 =>
 kK (0≤0) (kK (0≤(qA Y2).toInt) (kK ((qA Y2).toInt≤Aj) (Xe n n s2 axis3.toInt from4 (qA Y1) ((qC Y3).toInt) (Amc (Ama 0) (D.agg [D.int 0,D.int 0,D.agg [D.bool false,D.sl [],D.sl []],D.int 0,D.sl []])) ((qA Y3).toInt) 0 nn0 a1 0 (qA Y4))))):=by kernel_rfl
def Xb(a:Arr)(L B:Nat)(fr:List Int)(j:Nat):Cell:=if fr.getD (j / B % fr.length) 0<0 then Cu a else a.cells.getD ((j / B / fr.length*L+(fr.getD (j / B % fr.length) 0).toNat)*B+j % B) Cell.none
def Dz(a:Arr)(s:List Nat)(x:Nat)(fr:List Int)(more:Ap):Arr×Int:=if (A5 (iN (s.set x fr.length))).2≠0 then (.none,(A5 (iN (s.set x fr.length))).2) else (.mk (a.s|||more) (iN (s.set x fr.length)) ((Am9 (Eh (s.set x fr.length))).map (Xb a (s.getD x 0) (Cs (s.drop (x+1))) fr)),0)
theorem Ak9{s:List Nat}{x:Nat}(hx:x<s.length):s=s.take x++s.getD x 0::s.drop (x+1)∧(s.take x).length=x:=by
 refine ⟨?_,by rw[Amr];omega⟩
 rw[Amf,Amb hx]
 conv=>lhs;rw[← Am6 x s,Am2 hx]
 rfl
theorem AjK{s:List Nat}{x F:Nat}(hx:x<s.length):s.set x F=s.take x++F::s.drop (x+1):=by
 rw[List.set_eq_take_append_cons_drop,if_pos hx]
theorem UL(A Bl:List Nat)(F:Nat):Cs (A++F::Bl)=Cs A*(F*Cs Bl):=by rw[UK];rfl
def BJ(L:Nat)(fr:List Int):Prop:=∀ k∈fr,k<0∨(0≤k∧k<(L:Int))
theorem Adz{l:List Int}{i:Nat}(h:i<l.length):l.getD i 0∈l:=by
 rw[Amf,Amb h];exact Anh h
structure Boxed (a:Arr) (s:List Nat):Prop where
 ok:(A5 (iN s)).2=0
 len:a.cells.length=Eh s
theorem Ace{s:List Nat}(h:(A5 (iN s)).2=0)(hp : ∀ x∈s,1≤x):Eh s=Cs s:=by
 rcases (Tm h).2 with ⟨h0,_⟩ | h1
 · have:=hp 0 h0;omega
 · exact h1.2.1
theorem GY : ∀ (l:List Nat) (p:Nat),p≤2048→∃ r:Nat,Bd (iN l) (p:Int)=(r:Int)∧r≤2048
 | [],p,h=>⟨p,rfl,h⟩
 | x::xs,p,h=>by
  simp only[iN,Ani,Bd]
  split
  · exact ⟨0,rfl,by omega⟩
  · rename_i h2
    have:=GY xs (p*x) (by
     have:((p*x:Nat):Int)≤2048:=by rw[Int.natCast_mul];omega
     omega)
    simpa [iN]using this
theorem UQ : ∀ (l:List Nat),Bd (iN l) 0=0
 | []=>rfl
 | x::xs=>by
  simp only[iN,Ani,Bd,Int.zero_mul]
  rw[if_neg (by omega)];exact UQ xs
theorem GZ : ∀ (l:List Nat) (p:Int),0∈l→Bd (iN l) p=0
 | x::xs,p,h=>by
  simp only[iN,Ani,Bd]
  split
  · rfl
  · rcases Amw.1 h with h | h
    · subst h
      rw[show p*((0:Nat):Int)=0 by simp];exact UQ xs
    · exact GZ xs _ h
theorem Xh : ∀ (l:List Nat),(∀ x∈l,1≤x)→1≤Cs l
 | [],_=>Amo _
 | x::xs,h=>Nat.mul_pos (h x (by simp)) (Xh xs (fun y hy=>h y (by simp[hy])))
theorem GX : ∀ (l:List Nat) (p:Nat),(∀ x∈l,1≤x)→p*Cs l≤2048→Bd (iN l) (p:Int)=((p*Cs l:Nat):Int)
 | [],p,_,_=>by simp[iN,Bd,Cs]
 | x::xs,p,h,hb=>by
  have hp:=Xh xs (fun y hy=>h y (by simp[hy]))
  simp only[Cs,← Nat.mul_assoc]at hb ⊢
  have h1:p*x≤p*x*Cs xs:=Nat.le_mul_of_pos_right _ hp
  have h2:(p:Int)*(x:Int)=((p*x:Nat):Int):=by rw[Int.natCast_mul]
  simp only[iN,Ani,Bd,h2]
  rw[if_neg (by omega)]
  exact GX xs (p*x) (fun y hy=>h y (by simp[hy])) hb
theorem DX{α β:Type}{f g:α→List β} : ∀ {l:List α},(∀ x∈l,f x=g x)→l.flatMap f=l.flatMap g
 | [],_=>rfl
 | x::xs,h=>by rw[List.flatMap_cons,List.flatMap_cons,h x (by simp),DX (fun y hy=>h y (by simp[hy]))]
theorem DY{α:Type}(g:Nat→Nat→α){m:Nat}(hm:0<m) : ∀ n:Nat,(Am9 n).flatMap (fun i=>(Am9 m).map (g i))=(Am9 (n*m)).map (fun q=>g (q / m) (q % m))
 | 0=>by simp
 | n+1=>by
  rw[List.range_succ,List.flatMap_append,DY g hm n,Nat.succ_mul,List.range_add,List.map_append,List.map_map]
  congr 1
  simp only[List.flatMap_cons,List.flatMap_nil,Amx]
  refine List.map_congr_left (fun j hj=> ?_)
  have hj:=List.mem_range.1 hj
  simp only[Function.comp]
  rw[Anb,Nat.mul_add_div hm,Nat.div_eq_of_lt hj,Nat.mul_add_mod,Am4 hj,Nat.add_zero]
theorem AbB(l:List Int):l=(Am9 l.length).map (fun i=>l.getD i 0):=by
 apply List.ext_getElem
 · simp
 · intro i h1 h2
   simp[Amf,Amb h1]
def Jf(a:Arr)(L bh i:Nat)(k:Int):List Cell:=if k<0 then Amc bh (Cu a) else (a.cells.take ((i*L+k.toNat)*bh+bh)).drop ((i*L+k.toNat)*bh)
def Ha(a:Arr)(L bh:Nat)(fr:List Int)(i:Nat):List Cell:=fr.flatMap (Jf a L bh i)
def Pi(a:Arr)(L bh ah:Nat)(fr:List Int):Prop:=∀ i,i<ah→∀ k∈fr,0≤k→(i*L+k.toNat)*bh+bh≤a.cells.length
theorem TY{a:Arr}{L bh i:Nat}{k:Int}(h:0≤k→(i*L+k.toNat)*bh+bh≤a.cells.length):Jf a L bh i k=(Am9 bh).map (fun b=>if k<0 then Cu a else a.cells.getD ((i*L+k.toNat)*bh+b) Cell.none):=by
 unfold Jf
 split
 · apply List.ext_getElem
   · simp
   · intro j h1 h2;simp
 · have h:=h (by omega)
   apply List.ext_getElem
   · simp;omega
   · intro j h1 h2
     simp only[Amd,List.length_range]at h2
     rw[List.getElem_drop,List.getElem_take,List.getElem_map,List.getElem_range,Amf,Amb (by omega)]
     rfl
theorem TX{a:Arr}{L bh i:Nat}{k:Int}(h:0≤k→(i*L+k.toNat)*bh+bh≤a.cells.length):(Jf a L bh i k).length=bh:=by rw[TY h];simp
theorem U2{α β:Type}{f:α→List β}{m:Nat} : ∀ {l:List α},(∀ x∈l,(f x).length=m)→(l.flatMap f).length=l.length*m
 | [],_=>by simp
 | x::xs,h=>by rw[List.flatMap_cons,Amm,h x (by simp),U2 (fun y hy=>h y (by simp[hy])),Amg,Nat.succ_mul];omega
theorem IW{a:Arr}{L bh ah i:Nat}{fr:List Int}(h:Pi a L bh ah fr)(hi:i<ah):(Ha a L bh fr i).length=fr.length*bh:=U2 (fun k hk=>TX (fun h0=>h i hi k hk h0))
theorem Ajn{a:Arr}{L bh ah:Nat}{fr:List Int}(h:Pi a L bh ah fr)(hF:0<fr.length)(hB:0<bh):(Am9 ah).flatMap (Ha a L bh fr)=(Am9 (ah*(fr.length*bh))).map (Xb a L bh fr):=by
 have e1 : ∀ i,i<ah→Ha a L bh fr i=(Am9 (fr.length*bh)).map (fun q=>if fr.getD (q / bh) 0<0 then Cu a else a.cells.getD ((i*L+(fr.getD (q / bh) 0).toNat)*bh+q % bh) Cell.none):=fun i hi=>by
  rw[← DY (fun m b=>if fr.getD m 0<0 then Cu a else a.cells.getD ((i*L+(fr.getD m 0).toNat)*bh+b) Cell.none) hB]
  unfold Ha
  conv=>lhs;rw[AbB fr]
  rw[List.flatMap_map]
  refine DX (fun m hm=> ?_)
  have hm:=List.mem_range.1 hm
  exact TY (fun h0=>h i hi _ (Adz hm) h0)
 have e2:(Am9 ah).flatMap (Ha a L bh fr)=(Am9 ah).flatMap (fun i=>(Am9 (fr.length*bh)).map (fun q=>if fr.getD (q / bh) 0<0 then Cu a else a.cells.getD ((i*L+(fr.getD (q / bh) 0).toNat)*bh+q % bh) Cell.none)):=DX (fun i hi=>e1 i (List.mem_range.1 hi))
 rw[e2,DY (fun i q=>if fr.getD (q / bh) 0<0 then Cu a else a.cells.getD ((i*L+(fr.getD (q / bh) 0).toNat)*bh+q % bh) Cell.none) (Nat.mul_pos hF hB)]
 refine List.map_congr_left (fun j _=> ?_)
 unfold Xb
 rw[Anb fr.length bh,Nat.mod_mul_right_mod,Nat.mod_mul_right_div_self,← Ane]
theorem TW(n a:Arr)(s:List Nat)(x:Nat)(fr:List Int)(hn:Fits n)(hb:Boxed a s)(hx:x<s.length)(hf:BJ (s.getD x 0) fr)(hfl:fr.length≤2048):Sp 190 [dA n,dA a,dI (iN s),.int (x:Int),dI fr] [dA (Dz a s x fr (Av n)).1,.int (Dz a s x fr (Av n)).2]:=by
 have h6:=(Tm hb.ok).1
 have hal:a.cells.length≤2048:=by rw[hb.len];rcases (Tm hb.ok).2 with h | h <;> omega
 have hwith:=ZH (iN s) (x:Int) (fr.length:Int) (by rw[L7];omega)
 unfold Sr at hwith
 rw[if_pos (by rw[L7];omega),Amj,show (iN s).set x ((fr.length:Nat):Int)=iN (s.set x fr.length) by unfold iN;rw[List.map_set]]at hwith
 refine Af 4096 (AgC _ _ _ _ _ _) ?_
 simp only[B_,Amd,Al]
 refine Aa hwith (Aa (Mv _) ?_)
 unfold Dz
 simp only[Ag,Cm,Al,C0,Cr,Gu]
 refine Ae (fun h=>Ac (by rw[if_pos h])) (fun h=> ?_)
 rw[if_neg h]
 have hok:=Amn.1 h
 obtain ⟨sp1,sp2⟩:=Ak9 hx
 have st:=AjK (F:=fr.length) hx
 have hcl:=F5 (iN (s.set x fr.length))
 have hcn:(A5 (iN (s.set x fr.length))).1=((Eh (s.set x fr.length):Nat):Int):=by unfold Eh;omega
 obtain ⟨ah,ha,hah⟩:=GY ((s.set x fr.length).take x) 1 (by decide)
 obtain ⟨bh,hbh,hbl⟩:=GY ((s.set x fr.length).drop (x+1)) 1 (by decide)
 have tk:(s.set x fr.length).take x=s.take x:=by rw[st,List.take_left' sp2]
 have dr:(s.set x fr.length).drop (x+1)=s.drop (x+1):=by
  rw[st,show s.take x++fr.length::s.drop (x+1)=(s.take x++[fr.length])++s.drop (x+1) by simp,List.drop_left' (by rw[Amm,sp2];rfl)]
 rw[tk]at ha
 rw[dr]at hbh
 have haround:=JJ (iN (s.set x fr.length)) (x:Int)
 unfold Ll at haround
 rw[if_pos ⟨hok,by omega,by rw[L7,List.length_set];omega⟩,Amj,show (iN (s.set x fr.length)).take x=iN (s.take x) by unfold iN;rw[← List.map_take,tk],show (iN (s.set x fr.length)).drop (x+1)=iN (s.drop (x+1)) by unfold iN;rw[← List.map_drop,dr],show (1:Int)=((1:Nat):Int) from rfl,ha,hbh]at haround
 have hL:s.getD x 0≤2048:=by
  have hm:s.getD x 0∈s:=by rw[Amf,Amb hx];exact Anh hx
  have:=(Gr hb.ok).2 ((s.getD x 0:Nat):Int) (List.mem_map.2 ⟨_,hm,rfl⟩)
  omega
 have facts:Pi a (s.getD x 0) bh ah fr∧ah*(fr.length*bh)=Eh (s.set x fr.length)∧(Am9 ah).flatMap (Ha a (s.getD x 0) bh fr)=(Am9 (Eh (s.set x fr.length))).map (Xb a (s.getD x 0) (Cs (s.drop (x+1))) fr):=by
  rcases (Tm hok).2 with ⟨hz,hc0⟩ | ⟨hpos,hcp,hc1,hc2⟩
  · have prod0:ah=0∨fr.length=0∨bh=0:=by
     rw[st]at hz
     rcases List.mem_append.1 hz with hz | hz
     · left;have:=GZ _ 1 hz;rw[show (1:Int)=((1:Nat):Int) from rfl,ha]at this;omega
     · rcases Amw.1 hz with hz | hz
       · right;left;exact hz.symm
       · right;right;have:=GZ _ 1 hz;rw[show (1:Int)=((1:Nat):Int) from rfl,hbh]at this;omega
    have off:Pi a (s.getD x 0) bh ah fr:=fun i hi k hk h0=>by
     have:0<fr.length:=List.length_pos_of_mem hk
     have hb0:bh=0:=by omega
     rw[hb0];simp
    have prod1:ah*(fr.length*bh)=0:=by
     rcases prod0 with h | h | h <;> rw[h] <;> simp
    refine ⟨off,by omega,?_⟩
    rw[hc0]
    apply List.eq_nil_of_length_eq_zero
    rw[U2 (m:=fr.length*bh) (fun i hi=>IW off (List.mem_range.1 hi)),List.length_range]
    exact prod1
  · have hpA : ∀ y∈s.take x,1≤y:=fun y hy=>(hpos y (by rw[st];simp[hy])).1
    have hpB : ∀ y∈s.drop (x+1),1≤y:=fun y hy=>(hpos y (by rw[st];simp[hy])).1
    have hF:0<fr.length:=(hpos _ (by rw[st];simp)).1
    have hA1:=Xh _ hpA
    have hB1:=Xh _ hpB
    have hcs:Eh (s.set x fr.length)=Cs (s.take x)*(fr.length*Cs (s.drop (x+1))):=by rw[hcp,st,UL]
    have m1:Cs (s.take x)≤Cs (s.take x)*(fr.length*Cs (s.drop (x+1))):=Nat.le_mul_of_pos_right _ (Nat.mul_pos hF hB1)
    have m2:Cs (s.drop (x+1))≤Cs (s.take x)*(fr.length*Cs (s.drop (x+1))):=by
     rw[← Nat.mul_assoc];exact Nat.le_mul_of_pos_left _ (Nat.mul_pos hA1 hF)
    have eA:=GX (s.take x) 1 hpA (by omega)
    have eB:=GX (s.drop (x+1)) 1 hpB (by omega)
    rw[ha,Nat.one_mul]at eA
    rw[hbh,Nat.one_mul]at eB
    have eA':ah=Cs (s.take x):=by omega
    have eB':bh=Cs (s.drop (x+1)):=by omega
    have off:Pi a (s.getD x 0) bh ah fr:=fun i hi k hk h0=>by
     have hkl:=hf k hk
     have hkL:k.toNat<s.getD x 0:=by omega
     have hsp : ∀ y∈s,1≤y:=fun y hy=>by
       rw[sp1]at hy
       rcases List.mem_append.1 hy with hy | hy
       · exact hpA y hy
       · rcases Amw.1 hy with rfl | hy
         · omega
         · exact hpB y hy
     have hsc:=Ace hb.ok hsp
     rw[hb.len,hsc]
     conv=>rhs;rw[sp1]
     rw[UL,← eA',← eB']
     have h1:(i*s.getD x 0+k.toNat)*bh+bh=(i*s.getD x 0+k.toNat+1)*bh:=by rw[Nat.add_mul (i*s.getD x 0+k.toNat) 1,Nat.one_mul]
     have h2:i*s.getD x 0+k.toNat+1≤(i+1)*s.getD x 0:=by rw[Nat.add_mul,Nat.one_mul];omega
     have h3:(i+1)*s.getD x 0≤ah*s.getD x 0:=Amv _ hi
     rw[h1,← Nat.mul_assoc]
     exact Amv _ (Nat.le_trans h2 h3)
    refine ⟨off,by rw[eA',eB',hcs],?_⟩
    rw[Ajn off hF (by omega),eA',eB',hcs]
 obtain ⟨off,hprod,hrows⟩:=facts
 have hcl2:Eh (s.set x fr.length)≤2048:=by omega
 refine Aa haround (Aa (S7 a) ?_)
 simp only[Ag,Al,hcn]
 refine Ad (Ad (Ax (by simp only[Aj];omega) ?_))
 have lens : ∀ i,i≤ah→((Am9 i).flatMap (Ha a (s.getD x 0) bh fr)).length=i*(fr.length*bh):=fun i hi=>by
  rw[U2 (m:=fr.length*bh) (fun j hj=>IW off (by have:=List.mem_range.1 hj;omega)),List.length_range]
 have gL:((iN s).map D.int).getD x D.nil=D.int ((s.getD x 0:Nat):Int):=by
  rw[PC,As (Amb hx),Amf,Amb hx];rfl
 have key:=Cw ah (fun m i (_:Unit)=>Xe 4096 m (dI (iN s)) (x:Int) (dI fr) (dI (iN (s.set x fr.length))) (bh:Int) (((Am9 i).flatMap (Ha a (s.getD x 0) bh fr)).map dC) (ah:Int) (i:Int) (dA n) (dA a) 0 (dC (Cu a))) (fun _ _=>[dA (.mk (a.s|||Av n) (iN (s.set x fr.length)) ((Am9 ah).flatMap (Ha a (s.getD x 0) bh fr))),.int 0]) (fun _ _=>True)
  (fun m t _=>by
    simp only[TV,Tz]
    refine Aq (Aa (Es n hn) ?_)
    simp only[Ag,Dc,H_]
    refine Aa (Gb a.s _) (Ac ?_)
    simp only[Ag,Dc,H_]
    rw[Dn];rfl)
  (fun m i t hi _ ih=>by
    have ih:=ih () trivial
    rw[List.range_succ,List.flatMap_append,List.flatMap_cons,List.flatMap_nil,Amx]at ih
    simp only[TV,B_,Amd]
    refine Ad ?_
    have hli:=lens i (by omega)
    have hli1:=lens (i+1) (by omega)
    have hle1:(i+1)*(fr.length*bh)≤ah*(fr.length*bh):=Amv _ hi
    rw[Nat.succ_mul]at hle1
    have key2:=B3 fr (fun q k (cs:List Cell)=>Rf 4096 m q (dI (iN s)) (x:Int) (dI fr) (dI (iN (s.set x fr.length))) (bh:Int) (cs.map dC) (i:Int) (ah:Int) (i:Int) (dI fr) (fr.length:Int) (k:Int) (dA n) (dA a) 0 (dC (Cu a))) (fun _ _=>[dA (.mk (a.s|||Av n) (iN (s.set x fr.length)) ((Am9 ah).flatMap (Ha a (s.getD x 0) bh fr))),.int 0]) (fun rest cs=>cs++rest.flatMap (Jf a (s.getD x 0) bh i)=(Am9 i).flatMap (Ha a (s.getD x 0) bh fr)++Ha a (s.getD x 0) bh fr i)
     (fun q k cs hk hI=>by
       rw[List.flatMap_nil,Amx]at hI
       simp only[TU,Bb i]
       rw[hI]
       exact Aq ih)
     (fun q k cs z rest hd hI ih'=>by
       obtain ⟨h1,h2,h3⟩:=Bx hd
       have hz:=Amh h2
       rw[List.flatMap_cons,← Amz]at hI
       have ih':=ih' (cs++Jf a (s.getD x 0) bh i z) hI
       have hpl:=TX (a:=a) (L:=s.getD x 0) (bh:=bh) (i:=i) (k:=z) (fun h0=>off i hi z hz h0)
       have htl:cs.length+bh≤2048:=by
         have:=congrArg List.length hI
         simp only[Amm,hli,IW off hi,hpl]at this
         omega
       rw[List.map_append]at ih'
       simp only[TU,B_,Amd,Amj,As h2,Al,Bb k,gL]
       refine Ad (Ad (Ad (Ae (fun g=> ?_) (fun g=> ?_))))
       · have e:Jf a (s.getD x 0) bh i z=Amc bh (Cu a):=by unfold Jf;rw[if_pos g]
         rw[e,List.map_replicate]at ih'
         refine Aa (AiZ bh (Cu a) (by omega)) (Ax (by simp only[Ag,Ds,Anf,Aj];omega) ?_)
         exact ih'
       · obtain ⟨Z,rfl⟩ : ∃ Z:Nat,z=(Z:Int):=⟨z.toNat,by omega⟩
         have ho:=off i hi _ hz (by omega)
         have e:Jf a (s.getD x 0) bh i (Z:Int)=(a.cells.take ((i*s.getD x 0+Z)*bh+bh)).drop ((i*s.getD x 0+Z)*bh):=by unfold Jf;rw[if_neg g,Amj]
         rw[e,List.map_drop,List.map_take]at ih'
         rw[Amj]at ho
         have hil:i*s.getD x 0≤2048*2048:=Nat.mul_le_mul (by omega) hL
         have hZ:=hf _ hz
         have w1:Al6 .i64 ((i:Int)*((s.getD x 0:Nat):Int))=((i*s.getD x 0:Nat):Int):=by rw[← Int.natCast_mul,At (by omega) (by omega)]
         have w2:Al6 .i64 (((i*s.getD x 0:Nat):Int)+(Z:Int))=((i*s.getD x 0+Z:Nat):Int):=by rw[At (by omega) (by omega)];rfl
         have w3:Al6 .i64 (((i*s.getD x 0+Z:Nat):Int)*(bh:Int))=(((i*s.getD x 0+Z)*bh:Nat):Int):=by rw[← Int.natCast_mul,At (by omega) (by omega)]
         have w4:Al6 .i64 ((((i*s.getD x 0+Z)*bh:Nat):Int)+(bh:Int))=(((i*s.getD x 0+Z)*bh+bh:Nat):Int):=by rw[At (by omega) (by omega)];rfl
         simp only[w1,w2,w3,w4,Amj,CZ,Ds,Amd]
         have hdl:(((a.cells.map dC).take ((i*s.getD x 0+Z)*bh+bh)).drop ((i*s.getD x 0+Z)*bh)).length=bh:=by rw[Amp,Amr,Amd];omega
         simp only[hdl]
         refine Ad (Ax (by rw[L7];omega) (Ad (Ad (Ad (Ax (by simp only[Aj];omega) ?_)))))
         exact ih')
     4096 0 ((Am9 i).flatMap (Ha a (s.getD x 0) bh fr)) (by omega) (by omega) (by rw[List.drop_zero];rfl)
    exact key2)
  4096 0 () (by omega) (by omega) trivial
 rw[hrows]at key
 exact key
def aN(a:Arr):List Nat:=if a.shape = [] then [1] else a.shape.map Ama
def Au(a:Arr)(first:Bool):Nat:=if a.shape = [] then 0 else if first then 0 else a.shape.length-1
theorem PD{a:Arr}(h : ∀ x∈a.shape,0≤x):iN (aN a)=if a.shape = [] then [1] else a.shape:=by
 unfold aN
 by_cases h0:a.shape = []
 · rw[if_pos h0,if_pos h0];rfl
 · rw[if_neg h0,if_neg h0]
   obtain ⟨m,hm⟩:=Ad8 h
   rw[hm]
   unfold iN
   rw[List.map_map,List.map_map]
   exact List.map_congr_left (fun x _=>by simp)
theorem Te(a:Arr)(first:Bool):Au a first<(aN a).length:=by
 unfold Au aN
 split
 · simp
 · rename_i h
   have:=List.length_pos_iff.2 h
   split <;> simp <;> omega
theorem BL{d:Nat}{a:Arr}(h:Ba d a=true):Boxed a (aN a):=by
 have hc:=(Dy h).1
 have hi:=PD (a:=a) (fun x hx=>((E0 h).2.2 x hx).1)
 by_cases h0:a.shape = []
 · rw[if_pos h0]at hi
   rw[h0]at hc
   have e:A5 ([]:List Int)=(1,0):=by decide
   rw[e]at hc
   have e1:A5 ([1]:List Int)=(1,0):=by decide
   refine ⟨by rw[hi,e1],?_⟩
   unfold Eh
   rw[hi,e1]
   have:=congrArg Prod.fst hc
   simp only at this
   show a.cells.length=1
   omega
 · rw[if_neg h0]at hi
   refine ⟨by rw[hi,hc],?_⟩
   unfold Eh
   rw[hi,hc];simp
theorem KR{d:Nat}{a:Arr}(h:Ba d a=true){x:Nat}(hx:x<(aN a).length):(aN a).getD x 0≤2048:=by
 have hm:(aN a).getD x 0∈aN a:=by rw[Amf,Amb hx];exact Anh hx
 have:=(Gr (BL h).ok).2 (((aN a).getD x 0:Nat):Int) (List.mem_map.2 ⟨_,hm,rfl⟩)
 omega
theorem LW{s:List Nat}{x:Nat}(hx:x<s.length):((iN s).map D.int).getD x D.nil=D.int ((s.getD x 0:Nat):Int):=by
 rw[PC,As (Amb hx),Amf,Amb hx];rfl
theorem MN(l:List Int)(h:l.length≤1000):Sp 96 [dI l] [dI l]:=by
 refine Af 0 (ZL _ _) (AaK (fun h=>Ac ?_) (Ax (by simp only[B_,Amd,Amu,Aj];omega) (Ac (by simp[dI]))))
 have:l = []:=by simpa using h
 subst this;rfl
theorem TS{d:Nat}(a:Arr)(first:Bool)(h:Ba d a=true):Sp 189 [dA a,.bool first] [dI (iN (aN a)),.int ((Au a first:Nat):Int)]:=by
 have hl:=(E0 h).2.1
 have hi:=PD (a:=a) (fun x hx=>((E0 h).2.2 x hx).1)
 refine Af 0 (Ag_ _ _ _) ?_
 simp only[T_,B_,Amd,Az,Cd]
 rw[hi]
 unfold Au
 refine Ae (fun g=>Ac ?_) (fun g=> ?_)
 · have:a.shape = []:=Am1.1 (by omega)
   rw[if_pos this,if_pos this];rfl
 · have hne:a.shape≠[]:=fun hh=>g (by rw[hh];rfl)
   rw[if_neg hne,if_neg hne]
   refine Bu (fun e=>Aa (MN a.shape (by omega)) (Ac ?_)) (fun e=>Aa (MN a.shape (by omega)) (Ac ?_))
   · rw[if_pos e];rfl
   · have hpos:=List.length_pos_iff.2 hne
     rw[if_neg (by rw[e];decide),At (by omega) (by omega),show ((a.shape.length-1:Nat):Int)=(a.shape.length:Int)-1 by omega];rfl
def Gy(one:Bool):List Int→Nat→List Int→Option (List Int)
 | [],_,acc=>some acc
 | k::ks,i,acc=>if 2048-(acc.length:Int)<k then none else Gy one ks (i+1) (acc++Amc k.toNat (if one then 0 else (i:Int)))
def lS(n:Arr)(L:Nat):List Int:=if n.shape = [] then Amc L ((A8 n).1.headD 0) else (A8 n).1
def Rx(n a:Arr)(first:Bool):Arr×Int :=
 if (A8 n).2≠0 then (.none,(A8 n).2)
 else if ∃ k∈(A8 n).1,k<0 then (.none,3)
 else if (aN a).getD (Au a first) 0≠1∧(lS n ((aN a).getD (Au a first) 0)).length≠(aN a).getD (Au a first) 0 then (.none,4)
 else match Gy ((aN a).getD (Au a first) 0 == 1) (lS n ((aN a).getD (Au a first) 0)) 0 []with
  | none=>(.none,7)
  | some fr=>Dz a (aN a) (Au a first) fr (Av n)
theorem ES(a:Arr):(A8 a).1.length≤a.cells.length:=by
 unfold A8
 split
 · simp
 · split
   · rename_i l hl;have:=(Vn hl).1;simp only;omega
   · simp
theorem AdE(a:Arr) : ∀ x∈(A8 a).1,Bc x:=by
 unfold A8
 split
 · intro x hx;cases hx
 · split
   · rename_i l hl;exact (Vn hl).2
   · intro x hx;cases hx
theorem Afx(l:List Int)(hl:l.length≤2048):Sp 167 [dI l,D.fn 188 [] []] [.bool (decide (∃ k∈l,k<0))]:=by
 have hn : ∀ k:Int,Sp 188 [.int k] [.bool (decide (k<0))]:=fun k=>Af 0 (Ag6 _ _) (Ac rfl)
 have hi:Sp 230 [dI l,D.fn 188 [] []] [.int (Dt (fun x=>decide (x<0)) 0 l)]:=by
  refine Af 4096 (Akm _ _) ?_
  have key:=B3 l (fun m k (_:Unit)=>Hz 4096 m (dI l) (D.fn 188 [] []) (l.length:Int) (k:Int)) (fun rest _=>[.int (Dt (fun x=>decide (x<0)) (l.length-rest.length) rest)]) (fun _ _=>True)
   (fun m k t hk _=>by
     simp only[ZR]
     exact Aq (Ac rfl))
   (fun m k t x rest hd _ ih=>by
     obtain ⟨h1,h2,h3⟩:=Bx hd
     have hle:=congrArg List.length hd
     rw[Amp,Amg]at hle
     have ih:=ih () trivial
     rw[show l.length-rest.length=k+1 by omega]at ih
     simp only[ZR,B_,Amd,Amj,As h2,Al,Gx,Gv,Gw,Amx,Bb k]
     refine Ad (Ad (Ad (Aa (hn x) ?_)))
     rw[show l.length-(x::rest).length=k by rw[Amg];omega]
     simp only[Ag,Az,Dt]
     refine Bu (fun g=>Ac (by rw[if_pos g])) (fun g=> ?_)
     rw[if_neg (by rw[g];decide)]
     exact ih)
   4096 0 () (by omega) (by omega) trivial
  simpa using key
 have hp : ∀ (m:List Int) (k:Nat),(0≤Dt (fun x=>decide (x<0)) k m)↔(∃ z∈m,z<0):=by
  intro m
  induction m with
  | nil=>intro k;simp[Dt]
  | cons z zs ih =>
   intro k
   simp only[Dt]
   by_cases g:z<0
   · rw[if_pos (decide_eq_true g)]
     exact ⟨fun _=>⟨z,by simp,g⟩,fun _=>by omega⟩
   · rw[if_neg (by rw[decide_eq_false g];decide),ih (k+1)]
     simp[g]
 refine Af 0 (Akc _ _) (Aa hi (Ac ?_))
 exact congrArg (fun b=>[D.bool b]) (decide_eq_decide.2 (hp l 0))
theorem XH{d:Nat}(n a:Arr)(first:Bool)(hn:Fits n)(ha:Ba d a=true)(l:List Int)(hl:l.length≤2048)(hpos : ∀ k∈l,0≤k)(hbig : ∀ k∈l,k≤9223372036854775807)(hL:(aN a).getD (Au a first) 0≠1→l.length=(aN a).getD (Au a first) 0) :
  Tw (Hs 4096 4096 (dI (iN (aN a))) ((Au a first:Nat):Int) (((aN a).getD (Au a first) 0:Nat):Int) [] (dI l) (l.length:Int) 0 (dA n) (dA a) 0 0) (match Gy ((aN a).getD (Au a first) 0 == 1) l 0 []with
   | none=>[dA .none,.int 7]
   | some fr=>[dA (Dz a (aN a) (Au a first) fr (Av n)).1,.int (Dz a (aN a) (Au a first) fr (Av n)).2]):=by
 have hx:=Te a first
 have key:=B3 l (fun m k (acc:List Int)=>Hs 4096 m (dI (iN (aN a))) ((Au a first:Nat):Int) (((aN a).getD (Au a first) 0:Nat):Int) (acc.map D.int) (dI l) (l.length:Int) (k:Int) (dA n) (dA a) 0 0) (fun rest acc=>match Gy ((aN a).getD (Au a first) 0 == 1) rest (l.length-rest.length) acc with
   | none=>[dA .none,.int 7]
   | some fr=>[dA (Dz a (aN a) (Au a first) fr (Av n)).1,.int (Dz a (aN a) (Au a first) fr (Av n)).2]) (fun rest acc=>acc.length≤2048∧∀ k∈acc,0≤k∧k<(((aN a).getD (Au a first) 0:Nat):Int))
  (fun m k acc hk hI=>by
   simp only[TN]
   refine Aq (Aa (TW n a (aN a) (Au a first) acc hn (BL ha) hx (fun z hz=> .inr (hI.2 z hz)) hI.1) (Ac ?_))
   rfl)
  (fun m k acc z rest hd hI ih=>by
   obtain ⟨h1,h2,h3⟩:=Bx hd
   have hle:=congrArg List.length hd
   rw[Amp,Amg]at hle
   have hz:=hpos z (Amh h2)
   have hzb:=hbig z (Amh h2)
   have ek:l.length-(z::rest).length=k:=by rw[Amg];omega
   have ek2:l.length-rest.length=k+1:=by omega
   have w1:Al6 .i64 (2048-(acc.length:Int))=2048-(acc.length:Int):=At (by omega) (by omega)
   simp only[TN,B_,Amd,Amj,As h2,Al,w1,ek,Gy,Cr,Cd]
   refine Ad (Ad (Ad (Ae (fun g=>Ac (by rw[if_pos (by first | (rw[w1]at g;exact g) | exact g)])) (fun g=> ?_))))
   have g : ¬ (2048-(acc.length:Int)<z):=by first | (rw[w1]at g;exact g) | exact g
   simp only[if_neg g]
   obtain ⟨Z,rfl⟩ : ∃ Z:Nat,z=(Z:Int):=⟨z.toNat,by omega⟩
   have inner : ∀ (c:Int),0≤c∧c<(((aN a).getD (Au a first) 0:Nat):Int)→Gy ((aN a).getD (Au a first) 0 == 1) rest (k+1) (acc++Amc Z (if ((aN a).getD (Au a first) 0 == 1)=true then 0 else (k:Int)))=Gy ((aN a).getD (Au a first) 0 == 1) rest (k+1) (acc++Amc Z c)→Tw (Ol 4096 m 4096 (dI (iN (aN a))) ((Au a first:Nat):Int) (((aN a).getD (Au a first) 0:Nat):Int) (acc.map D.int) c (dI l) (l.length:Int) (k:Int) (Z:Int) 0 (dA n) (dA a) 0 0) (match Gy ((aN a).getD (Au a first) 0 == 1) rest (k+1) (acc++Amc (Z:Int).toNat (if ((aN a).getD (Au a first) 0 == 1)=true then 0 else (k:Int))) with
      | none=>[dA .none,.int 7]
      | some fr=>[dA (Dz a (aN a) (Au a first) fr (Av n)).1,.int (Dz a (aN a) (Au a first) fr (Av n)).2]):=by
     intro c hc heq
     rw[Amj,heq]
     have ih:=ih (acc++Amc Z c) ⟨by rw[Amm,Anf];omega,fun y hy=>by
      rcases List.mem_append.1 hy with hy | hy
      · exact hI.2 y hy
      · rw[List.eq_of_mem_replicate hy];exact hc⟩
     rw[ek2]at ih
     have key3:=Cw Z (fun q j (_:Unit)=>Ol 4096 m q (dI (iN (aN a))) ((Au a first:Nat):Int) (((aN a).getD (Au a first) 0:Nat):Int) ((acc++Amc j c).map D.int) c (dI l) (l.length:Int) (k:Int) (Z:Int) (j:Int) (dA n) (dA a) 0 0) (fun _ _=>(match Gy ((aN a).getD (Au a first) 0 == 1) rest (k+1) (acc++Amc Z c) with
      | none=>[dA .none,.int 7]
      | some fr=>[dA (Dz a (aN a) (Au a first) fr (Av n)).1,.int (Dz a (aN a) (Au a first) fr (Av n)).2])) (fun _ _=>True)
      (fun q t _=>by
       simp only[TO,Bb k]
       exact Aq ih)
      (fun q j t hj _ ih3=>by
       have ih3:=ih3 () trivial
       rw[List.replicate_succ',← Amz,List.map_append]at ih3
       simp only[TO,Amd,Amm,Anf,Amg,Amu,Bb j]
       exact Ad (Ax (by simp only[Aj];omega) ih3))
      4096 0 () (by omega) (by omega) trivial
     simpa using key3
   refine Ae (fun g1=> ?_) (fun g1=> ?_)
   · have e1:(aN a).getD (Au a first) 0=1:=by omega
     exact inner 0 ⟨by omega,by omega⟩ (by rw[e1];rfl)
   · have e1:((aN a).getD (Au a first) 0 == 1)=false:=beq_eq_false_iff_ne.2 (by omega)
     have:=hL (by omega)
     exact inner (k:Int) ⟨by omega,by omega⟩ (by rw[e1];rfl))
  4096 0 [] (by omega) (by omega) ⟨by simp,by simp⟩
 simpa using key
theorem TP(n a:Arr)(first:Bool)(hn:Ba 8 n=true)(ha:Ba 8 a=true):Sp 110 [dA n,dA a,.bool first] [dA (Rx n a first).1,.int (Rx n a first).2]:=by
 have ln:=(E0 hn).1
 have hx:=Te a first
 have hLe:=KR ha hx
 have hin:=AdE n
 have hil:=ES n
 refine Af 4096 (Ag7 _ _ _ _) (Aa (J0 n ln (Oz hn)) ?_)
 unfold Rx lS
 have hone:n.shape = []→(A8 n).2=0→∃ k,(A8 n).1 = [k]:=fun hs h0=>by
  have hc:=(Dy hn).1
  rw[hs,show A5 ([]:List Int)=(1,0) by decide]at hc
  have hc1:=congrArg Prod.fst hc
  have:n.cells.length=1:=by simp only at hc1;omega
  unfold A8 at h0 ⊢
  rw[if_neg (by rw[hs];simp)]at h0 ⊢
  split at h0
  · rename_i l hl
    have:=(Vn hl).1
    exact Md (by simp only;omega)
  · cases h0
 generalize hp:A8 n=p at *
 obtain ⟨l,e⟩:=p
 simp only[Ag,Cm,Al,C0,Cr]at hin hil hone ⊢
 refine Ae (fun h=>Ac (by rw[if_pos h])) (fun h=> ?_)
 rw[if_neg h]
 have h0:e=0:=Amn.1 h
 subst h0
 refine Aa (Afx l (by omega)) ?_
 simp only[Ag,Az]
 refine Ae (fun h=>Ac (by rw[if_pos h])) (fun h=> ?_)
 rw[if_neg h]
 have hpos : ∀ k∈l,0≤k:=fun k hk=>by
  rcases Int.lt_or_le k 0 with g | g
  · exact absurd ⟨k,hk,g⟩ h
  · exact g
 refine Aa (TS a first ha) ?_
 have sh:(((n.shape.length:Nat):Int)=0)↔n.shape = []:=⟨fun g=>Am1.1 (by omega),fun g=>by rw[g];rfl⟩
 simp only[Ag,Cm,Al,B_,Amd,Amj,LW hx,L7,T_,Cd,Ed,sh]
 refine Ad (Ad ?_)
 have fin:(n.shape = []∨(aN a).getD (Au a first) 0=1∨l.length=(aN a).getD (Au a first) 0)→Tw (.br (decide (2048<(((aN a).getD (Au a first) 0:Nat):Int))) (.ret [dA .none,.int 7]) (.br (decide (n.shape = [])) (.call 177 [] [dI l,.int (((aN a).getD (Au a first) 0:Nat):Int)] fun Y4=>Hs 4096 4096 (dI (iN (aN a))) ((Au a first:Nat):Int) (((aN a).getD (Au a first) 0:Nat):Int) [] (qA Y4) (((qA Y4).els).length:Int) 0 (dA n) (dA a) 0 0) (Hs 4096 4096 (dI (iN (aN a))) ((Au a first:Nat):Int) (((aN a).getD (Au a first) 0:Nat):Int) [] (dI l) (l.length:Int) 0 (dA n) (dA a) 0 0))) [dA (if (aN a).getD (Au a first) 0≠1∧(if n.shape = [] then Amc ((aN a).getD (Au a first) 0) (l.headD 0) else l).length≠(aN a).getD (Au a first) 0 then (Arr.none,(4:Int)) else match Gy ((aN a).getD (Au a first) 0 == 1) (if n.shape = [] then Amc ((aN a).getD (Au a first) 0) (l.headD 0) else l) 0 []with
    | none=>(.none,7)
    | some fr=>Dz a (aN a) (Au a first) fr (Av n)).1,.int (if (aN a).getD (Au a first) 0≠1∧(if n.shape = [] then Amc ((aN a).getD (Au a first) 0) (l.headD 0) else l).length≠(aN a).getD (Au a first) 0 then (Arr.none,(4:Int)) else match Gy ((aN a).getD (Au a first) 0 == 1) (if n.shape = [] then Amc ((aN a).getD (Au a first) 0) (l.headD 0) else l) 0 []with
    | none=>(.none,7)
    | some fr=>Dz a (aN a) (Au a first) fr (Av n)).2]:=by
  intro hc
  refine Aq (Ae (fun hs=> ?_) (fun hs=> ?_))
  · obtain ⟨k,rfl⟩:=hone hs rfl
    have hk:=hpos k (by simp)
    simp only[if_pos hs,List.headD_cons]
    refine Aa (XG _ k (by omega) (hin k (by simp))) ?_
    simp only[Ag,B_,Amd]
    rw[if_neg (by simp)]
    have:=XH n a first (D5 hn).fits ha (Amc ((aN a).getD (Au a first) 0) k) (by rw[Anf];omega) (fun z hz=>by rw[List.eq_of_mem_replicate hz];exact hk) (fun z hz=>by rw[List.eq_of_mem_replicate hz];exact (hin k (by simp)).2) (fun _=>by rw[Anf])
    refine Tree.wp_mono this (fun ys hy=>hy.trans ?_)
    cases Gy ((aN a).getD (Au a first) 0 == 1) (Amc ((aN a).getD (Au a first) 0) k) 0 [] <;> rfl
  · simp only[if_neg hs]
    rw[if_neg (by intro hh;rcases hc with g | g | g;exact hs g;exact hh.1 g;exact hh.2 g)]
    have:=XH n a first (D5 hn).fits ha l (by omega) hpos (fun z hz=>(hin z hz).2) (fun hne=>by rcases hc with g | g | g;exact absurd g hs;exact absurd g hne;exact g)
    refine Tree.wp_mono this (fun ys hy=>hy.trans ?_)
    cases Gy ((aN a).getD (Au a first) 0 == 1) l 0 [] <;> rfl
 refine Ae (fun hs=>Ae (fun h1=>Ae (fun h2=>Ac ?_) (fun h2=>fin (.inr (.inr (by omega))))) (fun h1=>fin (.inr (.inl (by omega))))) (fun hs=>fin (.inl (Amn.1 hs)))
 simp only[if_neg hs]
 rw[if_pos ⟨by omega,by omega⟩]
def D8:List Int→Nat→List Int
 | [],_=>[]
 | k::ks,o=>if k=1 then (o:Int)::D8 ks (o+1) else -1::D8 ks o
def Eu:List Int→Nat
 | []=>0
 | k::ks=>if k=1 then Eu ks+1 else Eu ks
def Ey(z:Int):Int:=if 0<z then 0 else z
def Ie(L:Nat)(l:List Int):List Int:=if L=1 then (D8 l 0).map Ey else D8 l 0
def Fi(l:List Int):Prop:=∀ k∈l,k=0∨k=1
theorem Qd : ∀ (l:List Int) (o:Nat),(D8 l o).length=l.length
 | [],_=>rfl
 | k::ks,o=>by
  rw[D8]
  split
  · rw[Amg,Qd ks,Amg]
  · rw[Amg,Qd ks,Amg]
theorem U7 : ∀ (l:List Int) (o:Nat),∀ z∈D8 l o,z = -1∨((o:Int)≤z∧z<((o+Eu l:Nat):Int))
 | [],_,z,h=>by simp[D8]at h
 | k::ks,o,z,h=>by
  rw[D8]at h
  rw[Eu]
  split at h
  · rename_i hk
    rw[if_pos hk]
    rcases Amw.1 h with rfl | h
    · right;omega
    · rcases U7 ks (o+1) z h with h | h
      · exact .inl h
      · right;omega
  · rename_i hk
    rw[if_neg hk]
    rcases Amw.1 h with rfl | h
    · exact .inl rfl
    · exact U7 ks o z h
theorem OK{L:Nat}{l:List Int}(h:L≠1→Eu l=L):BJ L (Ie L l):=by
 intro z hz
 unfold Ie at hz
 split at hz
 · rename_i h1
   obtain ⟨y,hy,rfl⟩:=List.mem_map.1 hz
   unfold Ey
   rcases U7 l 0 y hy with h | h
   · subst h;left;decide
   · right;split <;> omega
 · rename_i h1
   have:=h h1
   rcases U7 l 0 z hz with h | h
   · left;omega
   · right;omega
instance (l:List Int):Decidable (Fi l):=by unfold Fi;infer_instance
noncomputable def P6(n a:Arr)(first:Bool):Arr×Int :=
 if (A8 n).2≠0 then (.none,(A8 n).2)
 else if ¬ Fi (A8 n).1 then (.none,3)
 else if (aN a).getD (Au a first) 0≠1∧Eu (A8 n).1≠(aN a).getD (Au a first) 0 then (.none,4)
 else Dz a (aN a) (Au a first) (Ie ((aN a).getD (Au a first) 0) (A8 n).1) (Av n)
theorem MC(l:List Int)(hl:l.length≤2048):Sp 153 [dI l] [.bool (decide (Fi l))]:=by
 refine Af 4096 (AgA _ _) ?_
 simp only[B_,Amd]
 have key:=B3 l (fun m k (_:Unit)=>Om 4096 m (dI l) (l.length:Int) (k:Int)) (fun rest _=>[.bool (decide (Fi rest))]) (fun _ _=>True)
  (fun m k t hk _=>by
   simp only[TT]
   exact Aq (Ac (by simp[Fi])))
  (fun m k t z rest hd _ ih=>by
   obtain ⟨h1,h2,h3⟩:=Bx hd
   have ih:=ih () trivial
   have go:z=0∨z=1→Tw (Om 4096 m (dI l) (l.length:Int) ((k+1:Nat):Int)) [.bool (decide (Fi (z::rest)))]:=fun hz=>by
    rw[show decide (Fi (z::rest))=decide (Fi rest) from decide_eq_decide.2 ⟨fun h y hy=>h y (by simp[hy]),fun h y hy=>by
     rcases Amw.1 hy with rfl | hy
     · exact hz
     · exact h y hy⟩]
    exact ih
   simp only[TT,B_,Amd,Amj,As h2,Al,C0,Bb k]
   refine Ad (Ad (Ad (Ae (fun g=>Ae (fun g2=>Ac ?_) (fun g2=>go (by omega))) (fun g=>go (by omega)))))
   rw[decide_eq_false (fun h=>by have:=h z (by simp);omega)])
  4096 0 () (by omega) (by omega) trivial
 simpa using key
theorem NP{d:Nat}(n a:Arr)(first:Bool)(hn:Fits n)(ha:Ba d a=true)(fr:List Int)(hf:BJ ((aN a).getD (Au a first) 0) fr)(hl:fr.length≤2048):Tw (.call 190 [] [dA n,dA a,dI (iN (aN a)),.int ((Au a first:Nat):Int),D.sl (fr.map D.int)] fun yy=> .ret [qA yy,.int ((qB yy).toInt)]) [dA (Dz a (aN a) (Au a first) fr (Av n)).1,.int (Dz a (aN a) (Au a first) fr (Av n)).2] :=
 Aa (TW n a (aN a) (Au a first) fr hn (BL ha) (Te a first) hf hl) (Ac rfl)
theorem TM(n a:Arr)(first:Bool)(hn:Ba 8 n=true)(ha:Ba 8 a=true):Sp 111 [dA n,dA a,.bool first] [dA (P6 n a first).1,.int (P6 n a first).2]:=by
 have ln:=(E0 hn).1
 have hx:=Te a first
 have hLe:=KR ha hx
 have hil:=ES n
 refine Af 4096 (Ag5 _ _ _ _) (Aa (J0 n ln (Oz hn)) ?_)
 unfold P6
 generalize hp:A8 n=p at *
 obtain ⟨l,e⟩:=p
 simp only[Ag,Cm,Al,C0,Cr]at hil ⊢
 refine Ae (fun h=>Ac (by rw[if_pos h])) (fun h=> ?_)
 rw[if_neg h]
 have h0:e=0:=Amn.1 h
 subst h0
 refine Aa (MC l (by omega)) ?_
 simp only[Ag,Az]
 refine Bu (fun g=>Ac ?_) (fun g=> ?_)
 · have : ¬ Fi l:=fun hb=>by rw[decide_eq_true hb]at g;cases g
   rw[if_pos this]
 have hb:Fi l:=by
   by_cases hb:Fi l
   · exact hb
   · rw[decide_eq_false hb]at g;cases g
 rw[if_neg (fun hh=>hh hb)]
 refine Aa (TS a first ha) ?_
 simp only[Ag,Cm,Al,B_,Amd,Amj]
 refine Ad (Ad (Ax (by simp only[Aj];omega) ?_))
 have fits:=(D5 hn).fits
 have fin : ∀ (o:Nat),o=Eu l→Tw (.br (decide (0≤((Au a first:Nat):Int))) (.br (decide (((Au a first:Nat):Int)<((iN (aN a)).length:Int))) (.br (decide ((((iN (aN a)).map D.int).getD (Au a first) D.nil).toInt=1)) (Rc 4096 4096 (dI (iN (aN a))) ((Au a first:Nat):Int) ((D8 l 0).map D.int) (((D8 l 0).map D.int).length:Int) 0 (dA n) (dA a) 0 0) (.br (decide (0≤((Au a first:Nat):Int))) (.br (decide (((Au a first:Nat):Int)<((iN (aN a)).length:Int))) (.br (decide ((o:Int)≠(((iN (aN a)).map D.int).getD (Au a first) D.nil).toInt)) (.ret [dA .none,.int 4]) (.call 190 [] [dA n,dA a,dI (iN (aN a)),.int ((Au a first:Nat):Int),D.sl ((D8 l 0).map D.int)] fun yy=> .ret [qA yy,.int ((qB yy).toInt)])) .fail) .fail)) .fail) .fail) [dA (if (aN a).getD (Au a first) 0≠1∧Eu l≠(aN a).getD (Au a first) 0 then (Arr.none,(4:Int)) else Dz a (aN a) (Au a first) (Ie ((aN a).getD (Au a first) 0) l) (Av n)).1,.int (if (aN a).getD (Au a first) 0≠1∧Eu l≠(aN a).getD (Au a first) 0 then (Arr.none,(4:Int)) else Dz a (aN a) (Au a first) (Ie ((aN a).getD (Au a first) 0) l) (Av n)).2]:=by
   rintro o rfl
   simp only[LW hx,L7,Al]
   refine Ad (Ad (Ae (fun g1=> ?_) (fun g1=> ?_)))
   · have e1:(aN a).getD (Au a first) 0=1:=by omega
     rw[if_neg (fun hh=>hh.1 e1)]
     have hfr:Ie ((aN a).getD (Au a first) 0) l=(D8 l 0).map Ey:=by unfold Ie;rw[if_pos e1]
     have er:=NP n a first fits ha ((D8 l 0).map Ey) (by rw[← hfr];exact OK (fun hh=>absurd e1 hh)) (by rw[Amd,Qd];omega)
     rw[hfr]
     have fl:=Qd l 0
     generalize D8 l 0=fr at *
     have key:=Cw fr.length (fun m i (_:Unit)=>Rc 4096 m (dI (iN (aN a))) ((Au a first:Nat):Int) (((fr.take i).map Ey++fr.drop i).map D.int) (fr.length:Int) (i:Int) (dA n) (dA a) 0 0) (fun _ _=>[dA (Dz a (aN a) (Au a first) (fr.map Ey) (Av n)).1,.int (Dz a (aN a) (Au a first) (fr.map Ey) (Av n)).2]) (fun _ _=>True)
       (fun m t _=>by
        simp only[TK]
        rw[Am7 (Amo _),List.drop_of_length_le (Amo _),Amx]
        exact Aq er)
       (fun m i t hi _ ih=>by
        have ih:=ih () trivial
        have e4:fr.drop i=fr[i]::fr.drop (i+1):=Am2 hi
        have e5:fr.take (i+1)=fr.take i++[fr[i]]:=by rw[List.take_add_one,Amb hi];rfl
        rw[e5,show (fr.take i++[fr[i]]).map Ey++fr.drop (i+1)=(fr.take i).map Ey++(Ey fr[i]::fr.drop (i+1)) by rw[List.map_append,Amz];rfl]at ih
        rw[e4]
        generalize fr[i]=z at *
        have t1:((fr.take i).map Ey).length=i:=by rw[Amd,Amr];omega
        have t2:(fr.drop (i+1)).length=fr.length-(i+1):=by rw[Amp]
        have hg:(((fr.take i).map Ey++z::fr.drop (i+1)).map D.int).getD i D.nil=D.int z:=by
         rw[Amf,Ams,List.getElem?_append_right (by omega),t1,Nat.sub_self];rfl
        have hst:(((fr.take i).map Ey++z::fr.drop (i+1)).map D.int).set i (D.int (Ey z))=((fr.take i).map Ey++(Ey z::fr.drop (i+1))).map D.int:=by
         rw[← List.map_set,List.set_append_right _ _ (by omega),t1,Nat.sub_self];rfl
        have ll:((fr.take i).map Ey++z::fr.drop (i+1)).length=fr.length:=by rw[Amm,t1,Amg,t2];omega
        simp only[TK,Amd,ll,Amj,hg,Al,Bb i]
        refine Ad (Ad (Ad (Ad (Ad ?_))))
        rw[show D.int (if 0<z then 0 else z)=D.int (Ey z) from rfl,hst]
        exact ih)
       4096 0 () (by omega) (by omega) trivial
     simpa using key
   · have e1:(aN a).getD (Au a first) 0≠1:=by omega
     refine Ad (Ad (Ae (fun g2=>Ac ?_) (fun g2=> ?_)))
     · rw[if_pos ⟨e1,by omega⟩]
     · have e2:Eu l=(aN a).getD (Au a first) 0:=by omega
       rw[if_neg (fun hh=>hh.2 e2)]
       have hfr:Ie ((aN a).getD (Au a first) 0) l=D8 l 0:=by unfold Ie;rw[if_neg e1]
       rw[hfr]
       exact NP n a first fits ha (D8 l 0) (by rw[← hfr];exact OK (fun _=>e2)) (by rw[Qd];omega)
 have key:=B3 l (fun m k (s:List Int×Nat)=>Rb 4096 m (dI (iN (aN a))) ((Au a first:Nat):Int) (s.1.map D.int++Amc (l.length-s.1.length) (D.int 0)) (s.2:Int) (dI l) (l.length:Int) (k:Int) (dA n) (dA a) 0 0) (fun _ _=>[dA (if (aN a).getD (Au a first) 0≠1∧Eu l≠(aN a).getD (Au a first) 0 then (Arr.none,(4:Int)) else Dz a (aN a) (Au a first) (Ie ((aN a).getD (Au a first) 0) l) (Av n)).1,.int (if (aN a).getD (Au a first) 0≠1∧Eu l≠(aN a).getD (Au a first) 0 then (Arr.none,(4:Int)) else Dz a (aN a) (Au a first) (Ie ((aN a).getD (Au a first) 0) l) (Av n)).2]) (fun rest s=>s.1.length+rest.length=l.length∧D8 l 0=s.1++D8 rest s.2∧Eu l=s.2+Eu rest)
   (fun m k s hk hI=>by
     obtain ⟨i1,i2,i3⟩:=hI
     simp only[D8,Amx,Amu,Eu,Nat.add_zero]at i1 i2 i3
     simp only[TJ,i1,Nat.sub_self,List.replicate_zero,Amx,B_,Amd,Amj,Cd,C0,Cr]
     have f:=fin s.2 i3.symm
     rw[i2]at f
     simp only[Amd,i1]at f
     exact Aq f)
   (fun m k s z rest hd hI ih=>by
     obtain ⟨h1,h2,h3⟩:=Bx hd
     obtain ⟨i1,i2,i3⟩:=hI
     have hle:=congrArg List.length hd
     rw[Amp,Amg]at hle
     rw[Amg]at i1
     have hk:k=s.1.length:=by omega
     simp only[D8]at i2
     simp only[Eu]at i3
     have so:s.2≤2048:=by
       have : ∀ q:List Int,Eu q≤q.length:=fun q=>by
        induction q with
        | nil=>exact Amo _
        | cons y ys ihq=>simp only[Eu,Amg];split <;> omega
       have:=this l
       split at i3 <;> omega
     have en:=fun v:Int=>Ld (f:=D.int) (z:=D.int 0) s.1 v (l.length-(s.1.length+1))
     rw[show l.length-(s.1.length+1)+1=l.length-s.1.length by omega]at en
     have ll:(s.1.map D.int++Amc (l.length-s.1.length) (D.int 0)).length=l.length:=by rw[Amm,Amd,Anf];omega
     have w1:Al6 .i64 ((s.2:Int)+1)=((s.2+1:Nat):Int):=by rw[At (by omega) (by omega)];rfl
     simp only[TJ,B_,Amd,Amj,As h2,Al,Cd,ll,List.length_set,List.set_set,w1,Bb k]
     refine Ad (Ad (Ad (Ad (Ad (Ae (fun g=>Ad (Ad ?_)) (fun g=> ?_))))))
     · rw[if_pos g]at i2 i3
       have ih:=ih (s.1++[(s.2:Int)],s.2+1) ⟨by rw[Amm,Amg,Amu];omega,by rw[i2];simp,by omega⟩
       rw[hk,en]
       simp only[Amm,Amg,Amu,hk]at ih
       exact ih
     · rw[if_neg g]at i2 i3
       have ih:=ih (s.1++[-1],s.2) ⟨by rw[Amm,Amg,Amu];omega,by rw[i2];simp,i3⟩
       rw[hk,en]
       simp only[Amm,Amg,Amu,hk]at ih
       exact ih)
   4096 0 ([],0) (by omega) (by omega) ⟨by simp,by simp,by simp⟩
 simpa using key
def Hv:List Int→Nat→List Nat
 | [],_=>[]
 | k::ks,i=>if k=1 then i::Hv ks (i+1) else Hv ks (i+1)
theorem UD : ∀ (l:List Int) (i:Nat),(Hv l i).length≤l.length∧∀ p∈Hv l i,i≤p∧p<i+l.length
 | [],_=>by simp[Hv]
 | k::ks,i=>by
  obtain ⟨h1,h2⟩:=UD ks (i+1)
  rw[Hv,Amg]
  split
  · refine ⟨by rw[Amg];omega,fun p hp=> ?_⟩
    rcases Amw.1 hp with rfl | hp
    · omega
    · have:=h2 p hp;omega
  · exact ⟨by omega,fun p hp=>by have:=h2 p hp;omega⟩
def KF(l:List Nat):List Int:=l.map (fun (i:Nat)=>(i:Int)+1)
noncomputable def AZ(n:Arr):Arr×Int:=if (A8 n).2≠0 then (.none,(A8 n).2) else if n.shape = [] then (.none,5) else if ¬ Fi (A8 n).1 then (.none,3) else (Dk (KF (Hv (A8 n).1 0)) (Av n),0)
theorem Ag8(n:Arr)(hn:Ba 8 n=true):Sp 68 [dA n] [dA (AZ n).1,.int (AZ n).2]:=by
 have ln:=(E0 hn).1
 have hil:=ES n
 have sh:(((n.shape.length:Nat):Int)=0)↔n.shape = []:=⟨fun g=>Am1.1 (by omega),fun g=>by rw[g];rfl⟩
 refine Af 4096 (Ag9 _ _) (Aa (J0 n ln (Oz hn)) ?_)
 unfold AZ
 generalize (A8 n)=p at *
 obtain ⟨l,e⟩:=p
 simp only[Ag,Cm,Al,C0,Cd,Cr,T_,B_,Amd,sh]at hil ⊢
 refine Ae (fun h=>Ac (by rw[if_pos h])) (fun h=> ?_)
 rw[if_neg h]
 refine Ae (fun h=>Ac (by rw[if_pos h])) (fun h=> ?_)
 rw[if_neg h]
 refine Aa (MC l (by omega)) ?_
 simp only[Ag,Az]
 refine Bu (fun g=>Ac ?_) (fun g=> ?_)
 · have : ¬ Fi l:=fun hb=>by rw[decide_eq_true hb]at g;cases g
   rw[if_pos this]
 have hb:Fi l:=by
   by_cases hb:Fi l
   · exact hb
   · rw[decide_eq_false hb]at g;cases g
 rw[if_neg (fun hh=>hh hb)]
 have hpl:=UD l 0
 have key:=B3 l (fun m k (acc:List Nat)=>Re 4096 m ((acc.map (fun (i:Nat)=>Be ((i:Int)+1))).map dC) (dI l) (l.length:Int) (k:Int) (dA n) 0) (fun _ _=>[dA (Dk (KF (Hv l 0)) (Av n)),.int 0]) (fun rest acc=>Hv l 0=acc++Hv rest (l.length-rest.length))
   (fun m k acc hk hI=>by
    simp only[Hv,Amx]at hI
    simp only[TQ]
    have hsm : ∀ c∈acc.map (fun (i:Nat)=>Be ((i:Int)+1)),SmlC 0 c:=fun c hc=>by
      obtain ⟨i,hi,rfl⟩:=List.mem_map.1 hc
      have:=hpl.2 i (by rw[hI];exact hi)
      exact R_ (Ez (by omega) (by omega)) 0
    refine Aq (Aa (M8 _ hsm (by rw[Amd,← hI];omega)) (Aa (Es n (D5 hn).fits) ?_))
    simp only[Ag,Dc,H_]
    refine Aa (F1 _ (Av n)) (Ac ?_)
    rw[hI]
    simp[Da,Ju,Dk,KF]
    rfl)
   (fun m k acc z rest hd hI ih=>by
    obtain ⟨h1,h2,h3⟩:=Bx hd
    have hle:=congrArg List.length hd
    rw[Amp,Amg]at hle
    rw[show l.length-(z::rest).length=k by rw[Amg];omega,Hv]at hI
    rw[show l.length-rest.length=k+1 by omega]at ih
    simp only[TQ,B_,Amd,Amj,As h2,Al,Cd,Bb k]
    refine Ad (Ad (Ad (Ae (fun g=> ?_) (fun g=> ?_))))
    · rw[if_pos g]at hI
      have hal:acc.length≤2048:=by have:=congrArg List.length hI;rw[Amm]at this;omega
      have:=ih (acc++[k]) (by rw[hI];simp)
      rw[List.map_append,List.map_append]at this
      refine Aa (H6 _ (Ez (by omega) (by omega))) (Ax (by simp only[Amg,Amu,Aj];omega) ?_)
      exact this
    · rw[if_neg g]at hI
      exact ih acc hI)
   4096 0 [] (by omega) (by omega) (by simp)
 exact key
theorem Xg(x n:Int):Bs (K7 x n).1≤100:=by
 unfold K7
 split
 · show Bs 0≤100;unfold Bs;rw[show Int.natAbs 0=0 from rfl,Ct];simp
 · exact UF _ _ _ _ (A0.2 (by show 1<B ^ 100;exact Nat.one_lt_pow (by decide) (by decide)))
section
variable {a b:Num} {z y:Int} {d e:Nat}
theorem UY(p q:Int×Int)(hp:Bs p.1≤100)(hq:Bs q.1≤100){xs xt:List D}(h1:Sp 314 xs (On p))(h2:Sp 314 xt (On q)):Tw (.call 314 [] xs fun Y7=> .br (((qB Y7).toInt)!=0) (.ret [D.agg [D.bool false,D.sl [],D.sl []],D.int ((qB Y7).toInt)]) (.call 314 [] xt fun Y8=> .br (((qB Y8).toInt)!=0) (.ret [D.agg [D.bool false,D.sl [],D.sl []],D.int ((qB Y8).toInt)]) (.call 305 [] [qA Y7,qA Y8] fun Y9=> .ret [qA Y9,D.int ((qB Y9).toInt)]))) (Db (Xf p q)):=by
 refine Aa h1 ?_
 simp only[On,Ag,Cm,Al,C0,Ia]
 unfold Xf
 refine Ae (fun g1=>Ac ?_) (fun g1=>Aa h2 ?_)
 · rw[if_neg g1];rfl
 rw[if_pos (Amn.1 g1)]
 simp only[On,Ag,Cm,Al,C0,Ia]
 refine Ae (fun g2=>Ac ?_) (fun g2=> ?_)
 · rw[if_neg g2];rfl
 rw[if_pos (Amn.1 g2)]
 have mk:=Xl (wz p.1) (wz q.1) (by rw[Fh];omega) (by rw[Fh];omega)
 rw[Cy,Cy]at mk
 exact Aa mk (Ac rfl)
theorem Ahv(h:RNum a z d)(n:Int)(hn:n≤3000∧(-3000≤n∨n = -9223372036854775808)):Sp 281 [dN a,.int n] (Db (GV a n)):=by
 obtain ⟨l1,l2⟩:=h.len
 refine Af 0 (Ahw _ _ _) (Aa (Fe a) (Aa (Gf a) ?_))
 simp only[Ag,Al,Cd]
 unfold GV
 refine Ae (fun h0=>Aa (BD ⟨a.neg,a.top⟩ (by show a.top.length≤_;omega)) ?_) (fun h0=> ?_)
 · rw[if_pos h0,Jv]
   simp only[Ag,Al,Cd,Ia]
   refine Ae (fun h1=>Ac ?_) (fun h1=>Ae (fun h2=>Ac ?_) (fun h2=> ?_))
   · rw[if_pos (.inl (h.top0.2 (by rw[← h.top];exact JI.1 h1)))];rfl
   · rw[if_pos (.inr (by omega))];rfl
   · have hz : ¬ a.top = []:=fun hh=>h1 (by rw[h.top,h.top0.1 hh];rfl)
     rw[if_neg (by intro hh;rcases hh with hh | hh;exact hz hh;omega),At (by omega) (by omega),Int.zero_sub]
     have p1:=BC ⟨a.neg,a.top⟩ (-n) (by show a.top.length≤_;omega) (by omega)
     have p2:=BC ⟨false,a.bot⟩ (-n) (by show a.bot.length≤_;omega) (by omega)
     exact UY _ _ (Xg _ _) (Xg _ _) p2 p1
 · rw[if_neg h0]
   have p1:=BC ⟨a.neg,a.top⟩ n (by show a.top.length≤_;omega) (by omega)
   have p2:=BC ⟨false,a.bot⟩ n (by show a.bot.length≤_;omega) (by omega)
   exact UY _ _ (Xg _ _) (Xg _ _) p1 p2
theorem OP(h:RNum a z d)(h':RNum b y e):(lb (Nat.gcd (nv a.top) (nv b.top))).length≤32:=by
 by_cases h0:nv a.top=0
 · rw[h0,Nat.gcd_zero_left]
   exact Nat.le_trans (A0.2 (B7 _)) h'.len.1
 · exact Nat.le_trans (A0.2 (Nat.lt_of_le_of_lt (Nat.gcd_le_left _ (by omega)) (B7 _))) h.len.1
theorem AlT(n:Nat):zv ⟨false,lb n⟩=(n:Int):=by rw[Sv];rfl
theorem Adx(h:RNum a z d)(h':RNum b y e):RNum (Cn (Nat.gcd (nv a.top) (nv b.top):Nat)) (Nat.gcd (nv a.top) (nv b.top):Nat) 1 :=
 ⟨(Nt _).symm,by decide,Nat.coprime_one_right _,OP h h',by rw[Ma];decide⟩
theorem UW(h:RNum a z d)(h':RNum b y e):Sp 283 [dN a,dN b] (Db (L5 a b)):=by
 refine Af 0 (Ahl _ _ _) (Aa (Kb a.bot) ?_)
 simp only[Ag,Az,Ed,Ia]
 unfold L5
 refine Ae (fun h1=>Ac ?_) (fun h1=>Aa (Kb b.bot) ?_)
 · rw[if_neg (fun hh=>h1 hh.1)];rfl
 simp only[Ag,Az,Ed]
 refine Ae (fun h2=>Ac ?_) (fun h2=> ?_)
 · rw[if_neg (fun hh=>h2 hh.2)];rfl
 rw[if_pos ⟨Amn.1 h1,Amn.1 h2⟩]
 have gl:=OP h h'
 have gc:=RR a.top b.top (by have:=h.len;omega) (by have:=h'.len;omega)
 have wh:=Xp ⟨false,lb (Nat.gcd (nv a.top) (nv b.top))⟩ (by show (lb _).length≤_;omega)
 rw[AlT]at wh
 unfold Lj at wh
 rw[if_neg (by rw[Int.natAbs_natCast];omega)]at wh
 exact Aa gc (Aa wh (Ac rfl))
theorem Adw(h:RNum a z d)(h':RNum b y e)(h0:(L5 a b).2=0) : ∃ x,RNum (L5 a b).1 x 1:=by
 unfold L5 at h0 ⊢
 split at h0
 · rename_i hh;rw[if_pos hh];exact ⟨_,Adx h h'⟩
 · cases h0
theorem Ahn(h:RNum a z d)(h':RNum b y e):Sp 282 [dN a,dN b] (Db (FB a b)):=by
 refine Af 0 (Aho _ _ _) (Aa (UW h h') ?_)
 simp only[Db,Ag,Cm,Al,C0,Ia]
 unfold FB Na
 refine Ae (fun h1=>Ac ?_) (fun h1=> ?_)
 · rw[if_neg h1]
 have h1':=Amn.1 h1
 rw[if_pos h1']
 obtain ⟨x,hx⟩:=Adw h h' h1'
 refine Aa (Xn hx.sm) ?_
 simp only[Ag,Al,Cd]
 refine Ae (fun h2=>Aa (K8 0 (by unfold Bc;omega)) (Ac ?_)) (fun h2=>Aa (Xk h.sm hx.sm) ?_)
 · have hx0:x=0:=by rw[← hx.top];exact JI.1 h2
   rw[if_pos (hx.top0.2 hx0)]
   rw[hx.eq,hx0,Nt];rfl
 · have hx0:x≠0:=fun hh=>h2 (by rw[hx.top,hh];rfl)
   rw[if_neg (fun hh=>hx0 (hx.top0.1 hh))]
   simp only[Db,Ag,Cm,Al,C0]
   refine Ae (fun h3=>Ac ?_) (fun h3=> ?_)
   · rw[if_neg h3]
   have h3':=Amn.1 h3
   rw[if_pos h3']
   obtain ⟨x2,c2,hr2⟩:=NI h hx hx0 h3'
   exact Aa (HR hr2.sm h'.sm) (Ac rfl)
end
theorem Ajh{z:Int}(h:Bs z≤32):RNum (Cn z) z 1:=⟨(Nt z).symm,by decide,Nat.coprime_one_right _,h,by rw[Ma];decide⟩
theorem Aeo{z:Int}(h1 : -100000≤z:=by decide)(h2:z≤100000:=by decide):Bs z≤32:=Qu (by
 have:100000<B ^ 32:=by decide
 omega)
def Zl:List (Nat×Orc):=[(5,⟨[(0,none),(4,none),(6,none),(26,some 24),(27,none),(28,none)],[(4,false),(6,false)],[(.fld 6 [1],1050,3),(.fld 6 [2],1051,67)]⟩)]
noncomputable def Zk(n m5:Nat)(f0:Int)(t26:D)(t27 t28:Int)(t4_0 out6_0:Int)(out6_1 out6_2:List D):Tree :=
 lA (eA Zl n 70 [1,1,1,0,1,0,0]) (Ak Zl 5) m5 ⟨(.i .i64 f0::uA 3++(.ptr 4 []:: .undef:: .ptr 6 []::uA 19++(.d 24 t26:: .i .i64 t27:: .i .i64 t28::uA 21))),[(4,.var 26 (.agg 26 [.i .u64 t4_0,.mt,.mt]) true),(6,.var 26 (.agg 26 [.i .u64 out6_0,.row 1050,.row 1051]) true),(1050,.row 3 out6_1 true),(1051,.row 67 out6_2 true)],[4,6,1050,1051],[],[]⟩
  (Ai 0 (Am (jA Zl n 70 [1,1,1,1]) (rA 70 [3,26] [.cell 4 26,.tmp 5] [26,29])))
theorem YM(n m5:Nat)(f0:Int)(t26:D)(t27 t28:Int)(t4_0 out6_0:Int)(out6_1 out6_2:List D):Zk n (m5+1) f0 t26 t27 t28 t4_0 out6_0 out6_1 out6_2 =
 bK (t28<t27) (kK (0≤t28) (kK (t28<(t26.els.length:Int)) (cK 159 [D.int f0,t26.els.getD (Ama t28) D.nil] fun Y3 =>
 .br (((qB Y3).toInt)!=0) (.ret [D.agg [D.int 0,D.sl [],D.sl []],D.int ((qB Y3).toInt)])
 (kK (0≤t28) (kK (t28<(out6_2.length:Int)) (Zk n m5 f0 t26 t27 (Al6 .i64 (t28+1)) t4_0 out6_0 out6_1 (out6_2.set (Ama t28) (qA Y3))))))))
 (.ret [D.agg [D.int out6_0,D.sl out6_1,D.sl out6_2],D.int 0]):=by kernel_rfl
theorem Aj6(n:Nat)(f0 a1:D):fA Zl n 70 [] [f0,a1] =
 cK 158 [D.int f0.toInt] fun Y1 =>
 .br (!((qA Y1).toBool)) (.ret [D.agg [D.int 0,D.sl [],D.sl []],D.int 8])
 (cK 96 [a1.fld 1] fun Y2 =>
 kK (0≤(((a1.fld 2).els).length:Int)) (kK ((((a1.fld 2).els).length:Int)≤(((a1.fld 2).els).length:Int)) (kK ((((a1.fld 2).els).length:Int)≤Aj) (Zk n n f0.toInt (a1.fld 2) (((a1.fld 2).els).length:Int) 0 0 ((a1.fld 0).toInt) ((qA Y2).els) (Amc (Ama (((a1.fld 2).els).length:Int)) (D.agg [D.int 0,D.int 0,D.agg [D.bool false,D.sl [],D.sl []],D.int 0,D.sl []])))))):=by kernel_rfl
def Zm:List (Nat×Orc):=[(11,⟨[(0,none),(4,none),(5,none),(6,none),(11,none),(48,none),(49,none)],[(4,true),(5,true),(6,false),(11,false)],[(.fld 11 [2],1110,67)]⟩)]
noncomputable def R4(n m11:Nat)(f0 t48 t49:Int)(a4 b5:D)(t6_0 out11_0:Int)(out11_1:D)(out11_2:List D):Tree :=
 lA (eA Zm n 112 [1,1,1,1,1,1,1,0,1,0,0]) (Ak Zm 11) m11 ⟨(.i .i64 f0::uA 3++(.ptr 4 []:: .ptr 5 []:: .ptr 6 []::uA 4++(.ptr 11 []::uA 36++(.i .i64 t48:: .i .i64 t49::uA 24)))),[(4,.var 26 (.d 26 a4) true),(5,.var 26 (.d 26 b5) true),(6,.var 26 (.agg 26 [.i .u64 t6_0,.mt,.mt]) true),(11,.var 26 (.agg 26 [.i .u64 out11_0,.d 23 out11_1,.row 1110]) true),(1110,.row 67 out11_2 true)],[4,5,6,11,1110],[],[]⟩
  (Ai 0 (Am (jA Zm n 112 [1,1,1,1,1,1,1,1]) (rA 112 [3,26,26] [.cell 6 26,.tmp 7] [26,29])))
theorem YO(n m11:Nat)(f0 t48 t49:Int)(a4 b5:D)(t6_0 out11_0:Int)(out11_1:D)(out11_2:List D):R4 n (m11+1) f0 t48 t49 a4 b5 t6_0 out11_0 out11_1 out11_2 =
 bK (t49<t48) (cK 195 [a4,D.int t49] fun Y4 =>
 cK 195 [b5,D.int t49] fun Y5 =>
 cK 194 [D.int f0,qA Y4,qA Y5] fun Y6 =>
 .br (((qB Y6).toInt)!=0) (.ret [D.agg [D.int 0,D.sl [],D.sl []],D.int ((qB Y6).toInt)])
 (kK (0≤t49) (kK (t49<(out11_2.length:Int)) (R4 n m11 f0 t48 (Al6 .i64 (t49+1)) a4 b5 t6_0 out11_0 out11_1 (out11_2.set (Ama t49) (qA Y6))))))
 (.ret [D.agg [D.int out11_0,out11_1,D.sl out11_2],D.int 0]):=by kernel_rfl
theorem Aj7(n:Nat)(f0 a1 b2:D):fA Zm n 112 [] [f0,a1,b2] =
 cK 192 [D.int f0.toInt] fun Y1 =>
 .br (!((qA Y1).toBool)) (.ret [D.agg [D.int 0,D.sl [],D.sl []],D.int 8])
 (cK 193 [a1,b2] fun Y2 =>
 .br (((qB Y2).toInt)!=0) (.ret [D.agg [D.int 0,D.sl [],D.sl []],D.int ((qB Y2).toInt)])
 (.br ((((a1.fld 1).els).length:Int)==0) (cK 83 [D.int ((a1.fld 0).toInt),D.int ((b2.fld 0).toInt)] fun Y3 =>
 kK (0≤(((b2.fld 2).els).length:Int)) (kK ((((b2.fld 2).els).length:Int)≤(((b2.fld 2).els).length:Int)) (kK ((((b2.fld 2).els).length:Int)≤Aj) (R4 n n f0.toInt (((b2.fld 2).els).length:Int) 0 a1 b2 0 ((qA Y3).toInt) (qA Y2) (Amc (Ama (((b2.fld 2).els).length:Int)) (D.agg [D.int 0,D.int 0,D.agg [D.bool false,D.sl [],D.sl []],D.int 0,D.sl []]))))))
 (cK 83 [D.int ((a1.fld 0).toInt),D.int ((b2.fld 0).toInt)] fun Y7 =>
 kK (0≤(((a1.fld 2).els).length:Int)) (kK ((((a1.fld 2).els).length:Int)≤(((a1.fld 2).els).length:Int)) (kK ((((a1.fld 2).els).length:Int)≤Aj) (R4 n n f0.toInt (((a1.fld 2).els).length:Int) 0 a1 b2 0 ((qA Y7).toInt) (qA Y2) (Amc (Ama (((a1.fld 2).els).length:Int)) (D.agg [D.int 0,D.int 0,D.agg [D.bool false,D.sl [],D.sl []],D.int 0,D.sl []])))))))):=by kernel_rfl
theorem Ajy(n:Nat)(f0:D):fA [] n 158 [] [f0] =
 .br (f0.toInt == 43) (.br (f0.toInt == 43) (.ret [D.bool true])
 (.ret [D.bool false]))
 (.br (f0.toInt == 45) (.br (f0.toInt == 45) (.ret [D.bool true])
 (.ret [D.bool false]))
 (.br (f0.toInt == 215) (.br (f0.toInt == 215) (.ret [D.bool true])
 (.ret [D.bool false]))
 (.br (f0.toInt == 247) (.br (f0.toInt == 247) (.ret [D.bool true])
 (.ret [D.bool false]))
 (.br (f0.toInt == 8968) (.br (f0.toInt == 8968) (.ret [D.bool true])
 (.ret [D.bool false]))
 (.br (f0.toInt == 8970) (.br (f0.toInt == 8970) (.ret [D.bool true])
 (.ret [D.bool false]))
 (.br (f0.toInt == 124) (.br (f0.toInt == 124) (.ret [D.bool true])
 (.ret [D.bool false]))
 (.br (f0.toInt == 126) (.br (f0.toInt == 126) (.ret [D.bool true])
 (.ret [D.bool false]))
 (.br (f0.toInt == 33) (.ret [D.bool true])
 (.ret [D.bool false]))))))))):=by kernel_rfl
theorem AjE(n:Nat)(f0 c1:D):fA [] n 159 [] [f0,c1] =
 .br (((c1.fld 1).toInt)==0) (cK 221 [D.int f0.toInt,c1.fld 2] fun Y1 =>
 .ret [D.agg [D.int ((c1.fld 0).toInt),D.int 0,qA Y1,D.int 0,D.sl []],D.int ((qB Y1).toInt)])
 (.br (((c1.fld 1).toInt)==2) (cK 222 [c1] fun Y2 =>
 cK 70 [D.int f0.toInt,qA Y2] fun Y3 =>
 .ret [D.agg [D.int ((c1.fld 0).toInt),D.int 2,D.agg [D.bool false,D.sl [],D.sl []],D.int 0,D.sl [qA Y3]],D.int ((qB Y3).toInt)])
 (.ret [D.agg [D.int 0,D.int 0,D.agg [D.bool false,D.sl [],D.sl []],D.int 0,D.sl []],D.int 3])):=by kernel_rfl
theorem Aj0(n:Nat)(f0:D):fA [] n 192 [] [f0] =
 .br (f0.toInt == 43) (.br (f0.toInt == 43) (.ret [D.bool true])
 (.ret [D.bool false]))
 (.br (f0.toInt == 45) (.br (f0.toInt == 45) (.ret [D.bool true])
 (.ret [D.bool false]))
 (.br (f0.toInt == 215) (.br (f0.toInt == 215) (.ret [D.bool true])
 (.ret [D.bool false]))
 (.br (f0.toInt == 247) (.br (f0.toInt == 247) (.ret [D.bool true])
 (.ret [D.bool false]))
 (.br (f0.toInt == 8968) (.br (f0.toInt == 8968) (.ret [D.bool true])
 (.ret [D.bool false]))
 (.br (f0.toInt == 8970) (.br (f0.toInt == 8970) (.ret [D.bool true])
 (.ret [D.bool false]))
 (.br (f0.toInt == 124) (.br (f0.toInt == 124) (.ret [D.bool true])
 (.ret [D.bool false]))
 (.br (f0.toInt == 42) (.br (f0.toInt == 42) (.ret [D.bool true])
 (.ret [D.bool false]))
 (.br (f0.toInt == 60) (.br (f0.toInt == 60) (.ret [D.bool true])
 (.ret [D.bool false]))
 (.br (f0.toInt == 8804) (.br (f0.toInt == 8804) (.ret [D.bool true])
 (.ret [D.bool false]))
 (.br (f0.toInt == 61) (.br (f0.toInt == 61) (.ret [D.bool true])
 (.ret [D.bool false]))
 (.br (f0.toInt == 8805) (.br (f0.toInt == 8805) (.ret [D.bool true])
 (.ret [D.bool false]))
 (.br (f0.toInt == 62) (.br (f0.toInt == 62) (.ret [D.bool true])
 (.ret [D.bool false]))
 (.br (f0.toInt == 8800) (.br (f0.toInt == 8800) (.ret [D.bool true])
 (.ret [D.bool false]))
 (.br (f0.toInt == 8743) (.br (f0.toInt == 8743) (.ret [D.bool true])
 (.ret [D.bool false]))
 (.br (f0.toInt == 8744) (.ret [D.bool true])
 (.ret [D.bool false])))))))))))))))):=by kernel_rfl
theorem Ajw(n:Nat)(a0 b1:D):fA [] n 193 [] [a0,b1] =
 .br ((((a0.fld 1).els).length:Int)==0) (cK 96 [b1.fld 1] fun Y1 =>
 .ret [D.sl ((qA Y1).els),D.int 0])
 (.br ((((b1.fld 1).els).length:Int)==0) (cK 96 [a0.fld 1] fun Y2 =>
 .ret [D.sl ((qA Y2).els),D.int 0])
 (.br ((((a0.fld 1).els).length:Int)!=(((b1.fld 1).els).length:Int)) (.ret [D.sl [],D.int 5])
 (cK 234 [a0.fld 1,b1.fld 1] fun Y3 =>
 .br (!((qA Y3).toBool)) (.ret [D.sl [],D.int 4])
 (cK 96 [a0.fld 1] fun Y4 =>
 .ret [D.sl ((qA Y4).els),D.int 0])))):=by kernel_rfl
theorem AjI(n:Nat)(f0 x1 y2:D):fA [] n 194 [] [f0,x1,y2] =
 cK 83 [D.int ((x1.fld 0).toInt),D.int ((y2.fld 0).toInt)] fun Y1 =>
 .br (((x1.fld 1).toInt)==2) (cK 235 [x1] fun Y2 =>
 cK 235 [y2] fun Y3 =>
 cK 112 [D.int f0.toInt,qA Y2,qA Y3] fun Y4 =>
 .ret [D.agg [D.int ((qA Y1).toInt),D.int 2,D.agg [D.bool false,D.sl [],D.sl []],D.int 0,D.sl [qA Y4]],D.int ((qB Y4).toInt)])
 (.br (((y2.fld 1).toInt)==2) (cK 235 [x1] fun Y5 =>
 cK 235 [y2] fun Y6 =>
 cK 112 [D.int f0.toInt,qA Y5,qA Y6] fun Y7 =>
 .ret [D.agg [D.int ((qA Y1).toInt),D.int 2,D.agg [D.bool false,D.sl [],D.sl []],D.int 0,D.sl [qA Y7]],D.int ((qB Y7).toInt)])
 (.br (((x1.fld 1).toInt)==0) (.br (((y2.fld 1).toInt)==0) (cK 236 [D.int f0.toInt,x1.fld 2,y2.fld 2] fun Y8 =>
 .ret [D.agg [D.int ((qA Y1).toInt),D.int 0,qA Y8,D.int 0,D.sl []],D.int ((qB Y8).toInt)])
 (.br (f0.toInt == 61) (.br (((x1.fld 1).toInt)==((y2.fld 1).toInt)) (cK 237 [D.bool ((((x1.fld 3).toInt)==((y2.fld 3).toInt))==(f0.toInt == 61))] fun Y9 =>
 .ret [D.agg [D.int ((qA Y1).toInt),D.int 0,qA Y9,D.int 0,D.sl []],D.int 0])
 (cK 237 [D.bool (false == (f0.toInt == 61))] fun Y10 =>
 .ret [D.agg [D.int ((qA Y1).toInt),D.int 0,qA Y10,D.int 0,D.sl []],D.int 0]))
 (.br (f0.toInt == 8800) (.br (((x1.fld 1).toInt)==((y2.fld 1).toInt)) (cK 237 [D.bool ((((x1.fld 3).toInt)==((y2.fld 3).toInt))==(f0.toInt == 61))] fun Y11 =>
 .ret [D.agg [D.int ((qA Y1).toInt),D.int 0,qA Y11,D.int 0,D.sl []],D.int 0])
 (cK 237 [D.bool (false == (f0.toInt == 61))] fun Y12 =>
 .ret [D.agg [D.int ((qA Y1).toInt),D.int 0,qA Y12,D.int 0,D.sl []],D.int 0]))
 (.ret [D.agg [D.int ((qA Y1).toInt),D.int 0,D.agg [D.bool false,D.sl [],D.sl []],D.int 0,D.sl []],D.int 3]))))
 (.br (f0.toInt == 61) (.br (((x1.fld 1).toInt)==((y2.fld 1).toInt)) (cK 237 [D.bool ((((x1.fld 3).toInt)==((y2.fld 3).toInt))==(f0.toInt == 61))] fun Y13 =>
 .ret [D.agg [D.int ((qA Y1).toInt),D.int 0,qA Y13,D.int 0,D.sl []],D.int 0])
 (cK 237 [D.bool (false == (f0.toInt == 61))] fun Y14 =>
 .ret [D.agg [D.int ((qA Y1).toInt),D.int 0,qA Y14,D.int 0,D.sl []],D.int 0]))
 (.br (f0.toInt == 8800) (.br (((x1.fld 1).toInt)==((y2.fld 1).toInt)) (cK 237 [D.bool ((((x1.fld 3).toInt)==((y2.fld 3).toInt))==(f0.toInt == 61))] fun Y15 =>
 .ret [D.agg [D.int ((qA Y1).toInt),D.int 0,qA Y15,D.int 0,D.sl []],D.int 0])
 (cK 237 [D.bool (false == (f0.toInt == 61))] fun Y16 =>
 .ret [D.agg [D.int ((qA Y1).toInt),D.int 0,qA Y16,D.int 0,D.sl []],D.int 0]))
 (.ret [D.agg [D.int ((qA Y1).toInt),D.int 0,D.agg [D.bool false,D.sl [],D.sl []],D.int 0,D.sl []],D.int 3]))))):=by kernel_rfl
theorem AjF(n:Nat)(a0 i1:D):fA [] n 195 [] [a0,i1] =
 .br ((((a0.fld 1).els).length:Int)==0) (bK ((0:Int)<0) (.ret [D.agg [D.int 0,D.int 0,D.agg [D.bool false,D.sl [],D.sl []],D.int 0,D.sl []]])
 (bK ((((a0.fld 2).els).length:Int)≤(0:Int)) (.ret [D.agg [D.int 0,D.int 0,D.agg [D.bool false,D.sl [],D.sl []],D.int 0,D.sl []]])
 (kK (0≤0) (kK (0<(((a0.fld 2).els).length:Int)) (.ret [((a0.fld 2).els).getD (Ama 0) D.nil])))))
 (bK (i1.toInt<0) (.ret [D.agg [D.int 0,D.int 0,D.agg [D.bool false,D.sl [],D.sl []],D.int 0,D.sl []]])
 (bK ((((a0.fld 2).els).length:Int)≤i1.toInt) (.ret [D.agg [D.int 0,D.int 0,D.agg [D.bool false,D.sl [],D.sl []],D.int 0,D.sl []]])
 (kK (0≤i1.toInt) (kK (i1.toInt<(((a0.fld 2).els).length:Int)) (.ret [((a0.fld 2).els).getD (Ama i1.toInt) D.nil]))))):=by kernel_rfl
theorem Aj2(n:Nat)(f0 nn1:D):fA [] n 221 [] [f0,nn1] =
 .br (f0.toInt == 43) (cK 257 [nn1] fun Y1 =>
 .ret [(qA Y1).fld 2,D.int 0])
 (.br (f0.toInt == 45) (cK 258 [nn1] fun Y2 =>
 .ret [qA Y2,D.int 0])
 (.br (f0.toInt == 215) (cK 259 [nn1] fun Y3 =>
 cK 212 [D.int ((qA Y3).toInt)] fun Y4 =>
 .ret [qA Y4,D.int 0])
 (.br (f0.toInt == 247) (cK 212 [D.int 1] fun Y5 =>
 cK 260 [qA Y5,nn1] fun Y6 =>
 .ret [qA Y6,D.int ((qB Y6).toInt)])
 (.br (f0.toInt == 8968) (cK 261 [nn1] fun Y7 =>
 .ret [qA Y7,D.int 0])
 (.br (f0.toInt == 8970) (cK 262 [nn1] fun Y8 =>
 .ret [qA Y8,D.int 0])
 (.br (f0.toInt == 124) (cK 263 [nn1] fun Y9 =>
 .ret [qA Y9,D.int 0])
 (.br (f0.toInt == 126) (cK 166 [nn1] fun Y10 =>
 .br (!((qB Y10).toBool)) (.ret [D.agg [D.bool false,D.sl [],D.sl []],D.int 3])
 (.br (((qA Y10).toInt)!=0) (.br (((qA Y10).toInt)!=1) (.ret [D.agg [D.bool false,D.sl [],D.sl []],D.int 3])
 (cK 212 [D.int (Al6 .i64 (1-((qA Y10).toInt)))] fun Y11 =>
 .ret [qA Y11,D.int 0]))
 (cK 212 [D.int (Al6 .i64 (1-((qA Y10).toInt)))] fun Y12 =>
 .ret [qA Y12,D.int 0])))
 (.br (f0.toInt == 33) (cK 264 [nn1] fun Y13 =>
 .ret [qA Y13,D.int ((qB Y13).toInt)])
 (.ret [D.agg [D.bool false,D.sl [],D.sl []],D.int 8]))))))))):=by kernel_rfl
theorem AjC(n:Nat)(c0:D):fA [] n 222 [] [c0] =
 .br ((((c0.fld 4).els).length:Int)==0) (.ret [D.agg [D.int 0,D.sl [],D.sl []]])
 (kK (0≤0) (kK (0<(((c0.fld 4).els).length:Int)) (.ret [((c0.fld 4).els).getD (Ama 0) D.nil]))):=by kernel_rfl
theorem Aj_(n:Nat)(c0:D):fA [] n 235 [] [c0] =
 .br (((c0.fld 1).toInt)==2) (cK 222 [c0] fun Y1 =>
 .ret [qA Y1])
 (cK 178 [D.agg [D.int 0,D.int ((c0.fld 1).toInt),c0.fld 2,D.int ((c0.fld 3).toInt),c0.fld 4]] fun Y2 =>
 .ret [qA Y2]):=by kernel_rfl
theorem Aj4(n:Nat)(f0 a1 b2:D):fA [] n 236 [] [f0,a1,b2] =
 .br (f0.toInt == 43) (cK 277 [a1,b2] fun Y1 =>
 .ret [qA Y1,D.int ((qB Y1).toInt)])
 (.br (f0.toInt == 45) (cK 278 [a1,b2] fun Y2 =>
 .ret [qA Y2,D.int ((qB Y2).toInt)])
 (.br (f0.toInt == 215) (cK 279 [a1,b2] fun Y3 =>
 .ret [qA Y3,D.int ((qB Y3).toInt)])
 (.br (f0.toInt == 247) (cK 260 [a1,b2] fun Y4 =>
 .ret [qA Y4,D.int ((qB Y4).toInt)])
 (.br (f0.toInt == 8968) (.br (f0.toInt == 8968) (cK 219 [a1,b2] fun Y5 =>
 .br ((decide (((qA Y5).toInt)<0))==(f0.toInt == 8968)) (cK 257 [b2] fun Y6 =>
 .ret [(qA Y6).fld 2,D.int 0])
 (cK 257 [a1] fun Y7 =>
 .ret [(qA Y7).fld 2,D.int 0]))
 (.br (f0.toInt == 124) (cK 280 [a1,b2] fun Y8 =>
 .ret [qA Y8,D.int ((qB Y8).toInt)])
 (.br (f0.toInt == 42) (cK 166 [b2] fun Y9 =>
 .br (!((qB Y9).toBool)) (.ret [D.agg [D.bool false,D.sl [],D.sl []],D.int 8])
 (cK 281 [a1,D.int ((qA Y9).toInt)] fun Y10 =>
 .ret [qA Y10,D.int ((qB Y10).toInt)]))
 (.br (f0.toInt == 8743) (cK 282 [a1,b2] fun Y11 =>
 .ret [qA Y11,D.int ((qB Y11).toInt)])
 (.br (f0.toInt == 8744) (cK 283 [a1,b2] fun Y12 =>
 .ret [qA Y12,D.int ((qB Y12).toInt)])
 (cK 284 [D.int f0.toInt,a1,b2] fun Y13 =>
 .ret [qA Y13,D.int ((qB Y13).toInt)]))))))
 (.br (f0.toInt == 8970) (cK 219 [a1,b2] fun Y14 =>
 .br ((decide (((qA Y14).toInt)<0))==(f0.toInt == 8968)) (cK 257 [b2] fun Y15 =>
 .ret [(qA Y15).fld 2,D.int 0])
 (cK 257 [a1] fun Y16 =>
 .ret [(qA Y16).fld 2,D.int 0]))
 (.br (f0.toInt == 124) (cK 280 [a1,b2] fun Y17 =>
 .ret [qA Y17,D.int ((qB Y17).toInt)])
 (.br (f0.toInt == 42) (cK 166 [b2] fun Y18 =>
 .br (!((qB Y18).toBool)) (.ret [D.agg [D.bool false,D.sl [],D.sl []],D.int 8])
 (cK 281 [a1,D.int ((qA Y18).toInt)] fun Y19 =>
 .ret [qA Y19,D.int ((qB Y19).toInt)]))
 (.br (f0.toInt == 8743) (cK 282 [a1,b2] fun Y20 =>
 .ret [qA Y20,D.int ((qB Y20).toInt)])
 (.br (f0.toInt == 8744) (cK 283 [a1,b2] fun Y21 =>
 .ret [qA Y21,D.int ((qB Y21).toInt)])
 (cK 284 [D.int f0.toInt,a1,b2] fun Y22 =>
 .ret [qA Y22,D.int ((qB Y22).toInt)])))))))))):=by kernel_rfl
theorem AjG(n:Nat)(holds0:D):fA [] n 237 [] [holds0] =
 .br holds0.toBool (cK 212 [D.int 1] fun Y1 =>
 .ret [qA Y1])
 (cK 212 [D.int 0] fun Y2 =>
 .ret [qA Y2]):=by kernel_rfl
def Zo:List (Nat×Orc):=[(9,⟨[(2,none),(6,none),(8,none),(9,none)],[(2,false),(8,true)],[]⟩)]
noncomputable def Zn(n m9:Nat)(most6 i9:Int)(t2_0:Bool)(product8:D):Tree :=
 lA (eA Zo n 264 [1,1,1,1,1,0,1,0,0]) (Ak Zo 9) m9 ⟨(.undef:: .undef:: .ptr 2 []::uA 3++(.i .i64 most6:: .undef:: .ptr 8 []:: .i .i64 i9::uA 42)),[(2,.var 64 (.agg 64 [.b t2_0,.mt,.mt]) true),(8,.var 187 (.d 187 product8) true)],[2,8],[],[]⟩
  (Ai 0 (Am (jA Zo n 264 [1,1,1,1,1,1]) (rA 264 [64] [.cell 2 64,.tmp 3] [64,29])))
theorem YS(n m9:Nat)(most6 i9:Int)(t2_0:Bool)(product8:D):Zn n (m9+1) most6 i9 t2_0 product8 =
 bK (i9≤most6) (cK 246 [D.int i9] fun Y5 =>
 cK 254 [product8,qA Y5] fun Y6 =>
 Zn n m9 most6 (Al6 .i64 (i9+1)) t2_0 (qA Y6))
 (bK (32<(((product8.fld 1).els).length:Int)) (.ret [D.agg [D.bool false,D.sl [],D.sl []],D.int 7])
 (cK 245 [product8] fun Y7 =>
 .ret [qA Y7,D.int 0])):=by kernel_rfl
theorem AjB(n:Nat)(nn0:D):fA Zo n 264 [] [nn0] =
 cK 307 [nn0] fun Y1 =>
 .br (!((qB Y1).toBool)) (.ret [D.agg [D.bool false,D.sl [],D.sl []],D.int 3])
 (cK 259 [nn0] fun Y2 =>
 bK (((qA Y2).toInt)<0) (.ret [D.agg [D.bool false,D.sl [],D.sl []],D.int 3])
 (cK 166 [nn0] fun Y3 =>
 .br (!((qB Y3).toBool)) (.ret [D.agg [D.bool false,D.sl [],D.sl []],D.int 7])
 (bK (200<((qA Y3).toInt)) (.ret [D.agg [D.bool false,D.sl [],D.sl []],D.int 7])
 (cK 246 [D.int 1] fun Y4 =>
 Zn n n ((qA Y3).toInt) 2 false (qA Y4))))):=by kernel_rfl
theorem Aj9(n:Nat)(f0 a1 b2:D):fA [] n 284 [] [f0,a1,b2] =
 cK 219 [a1,b2] fun Y1 =>
 .br (f0.toInt == 60) (cK 237 [D.bool (decide (((qA Y1).toInt)<0))] fun Y2 =>
 .ret [qA Y2,D.int 0])
 (.br (f0.toInt == 8804) (cK 237 [D.bool (decide (((qA Y1).toInt)≤0))] fun Y3 =>
 .ret [qA Y3,D.int 0])
 (.br (f0.toInt == 61) (cK 237 [D.bool (((qA Y1).toInt)==0)] fun Y4 =>
 .ret [qA Y4,D.int 0])
 (.br (f0.toInt == 8805) (cK 237 [D.bool (decide (0≤((qA Y1).toInt)))] fun Y5 =>
 .ret [qA Y5,D.int 0])
 (.br (f0.toInt == 62) (cK 237 [D.bool (decide (0<((qA Y1).toInt)))] fun Y6 =>
 .ret [qA Y6,D.int 0])
 (.br (f0.toInt == 8800) (cK 237 [D.bool (((qA Y1).toInt)!=0)] fun Y7 =>
 .ret [qA Y7,D.int 0])
 (.ret [D.agg [D.bool false,D.sl [],D.sl []],D.int 8])))))):=by kernel_rfl
def Q_:List Int:=[43,45,215,247,8968,8970,124,126,33]
def AT:List Int:=[43,45,215,247,8968,8970,124,42,60,8804,61,8805,62,8800,8743,8744]
theorem Ajx(f:Int):Sp 158 [.int f] [.bool (decide (f∈Q_))]:=by
 refine Af 0 (Ajy _ _) ?_
 simp only[Al,Cd]
 unfold Q_
 repeat (refine Ae (fun h=>Ax h (Ac (by simp[h]))) (fun h=> ?_))
 refine Ae (fun h=>Ac (by simp[h])) (fun h=>Ac (by simp[*]))
theorem Ajz(f:Int):Sp 192 [.int f] [.bool (decide (f∈AT))]:=by
 refine Af 0 (Aj0 _ _) ?_
 simp only[Al,Cd]
 unfold AT
 repeat (refine Ae (fun h=>Ax h (Ac (by simp[h]))) (fun h=> ?_))
 refine Ae (fun h=>Ac (by simp[h])) (fun h=>Ac (by simp[*]))
def Hd(b:Bool):Num:=if b then Cn 1 else Cn 0
theorem Jj(b:Bool):Sp 237 [.bool b] [dN (Hd b)]:=by
 refine Af 0 (AjG _ _) ?_
 cases b with
 | true=>exact Bi rfl (Aa (K8 1 (by unfold Bc;omega)) (Ac rfl))
 | false=>exact D6 rfl (Aa (K8 0 (by unfold Bc;omega)) (Ac rfl))
def Eb:Nat→Nat
 | 0=>1
 | k+1=>(k+1)*Eb k
def DP(n:Num):Num×Int:=if n.bot = [1]∧n.neg=false then (match De n with | some k=>if k≤200 then C4 (Eb k.toNat:Nat) 1 else (.zero,7) | none=>(.zero,7)) else (.zero,3)
def Oj(f:Int)(n:Num):Num×Int :=
 if f=43 then (n,0) else if f=45 then (Ik n,0) else if f=215 then (Cn (Ff (Bo n)),0) else if f=247 then Lu (Cn 1) n
 else if f=8968 then (Ik (I6 (Ik n)),0) else if f=8970 then (I6 n,0) else if f=124 then (⟨false,n.top,n.bot⟩,0)
 else if f=126 then (if De n=some 0 then (Cn 1,0) else if De n=some 1 then (Cn 0,0) else (.zero,3))
 else if f=33 then DP n else (.zero,8)
def CP(f c:Int):Num×Int :=
 if f=60 then (Hd (decide (c<0)),0) else if f=8804 then (Hd (decide (c≤0)),0) else if f=61 then (Hd (decide (c=0)),0)
 else if f=8805 then (Hd (decide (0≤c)),0) else if f=62 then (Hd (decide (0<c)),0) else if f=8800 then (Hd (decide (¬ c=0)),0) else (.zero,8)
def Lh(f:Int)(a b:Num):Num×Int :=
 if f=43 then BN a b else if f=45 then JS a b else if f=215 then Od a b else if f=247 then Lu a b
 else if f=8968 then (if Gp a b<0 then b else a,0) else if f=8970 then (if Gp a b<0 then a else b,0)
 else if f=124 then FO a b else if f=42 then (match De b with | some k=>GV a k | none=>(.zero,8))
 else if f=8743 then FB a b else if f=8744 then L5 a b else CP f (Gp a b)
section
variable {a b:Num} {z y:Int} {d e:Nat}
theorem Ak7(h:RNum a z d){k:Int}(hs:De a=some k):k=z∧d=1∧Bc z:=by
 unfold De Lg at hs
 split at hs
 · rename_i hb
   rw[h.top]at hs
   split at hs
   · rename_i hr
     injection hs with hs
     refine ⟨hs.symm,?_,hr⟩
     have:=h.bot
     rw[FW hb]at this
     omega
   · cases hs
 · cases hs
theorem QG(k:Nat)(h:k<B):Bs (Eb k:Nat)≤k+1:=by
 induction k with
 | zero=>show (lb (Int.natAbs (Eb 0:Nat))).length≤1;simp[Eb,Ma]
 | succ k ih =>
  have h1:=ih (by omega)
  rw[Eb,Int.natCast_mul]
  have h2:=Ih ((k+1:Nat):Int) (Eb k:Nat)
  have h3:Bs ((k+1:Nat):Int)≤1:=Qu (by rw[Int.natAbs_natCast,Nat.pow_one];exact h)
  omega
end
theorem Ae9(p:Int):C4 p 1=if 32<Bs p then (.zero,7) else (Cn p,0):=by
 obtain ⟨z,d,h0,_,h2,_,h4,h5⟩:=V8 p 1 (by decide)
 have hd:d=1:=by
  have:Int.natAbs 1=1:=rfl
  omega
 subst hd
 have hz:z=p:=by simpa using h2
 subst hz
 rw[h5,Nt]
 by_cases h:32<Bs z
 · rw[if_pos (.inl h),if_pos h]
 · rw[if_neg (by rw[Ma];simp;omega),if_neg h]
section
variable {a b:Num} {z y:Int} {d e:Nat}
theorem Ahm(h:RNum a z d) : ∃ w:Wh,Sp 307 [dN a] [dW w,.bool (decide (a.bot = [1]))]:=by
 by_cases hb:a.bot = [1]
 · refine ⟨wz (Bo a),Af 0 (UX _ _) (Aa (Kb a.bot) ?_)⟩
   rw[decide_eq_true hb]
   exact D6 rfl (Aa (Fe a) (Aa (BA ⟨a.neg,a.top⟩ (by have:=h.len;show a.top.length≤_;omega)) (Ac rfl)))
 · refine ⟨⟨false,[]⟩,Af 0 (UX _ _) (Aa (Kb a.bot) ?_)⟩
   rw[decide_eq_false hb]
   exact Bi rfl (Ac rfl)
theorem ZB{x:Int} : Ff x<0↔x<0:=by unfold Ff;by_cases h1:x<0 <;> by_cases h2:x=0 <;> simp[h1,h2]
theorem AcR(k:Nat)(hk:0<k):((Eb (k-1):Nat):Int)*(k:Int)=((Eb k:Nat):Int):=by
 obtain ⟨j,rfl⟩ : ∃ j,k=j+1:=⟨k-1,by omega⟩
 rw[Nat.add_sub_cancel,Eb,Int.natCast_mul,Int.mul_comm]
theorem AjA(h:RNum a z d):Sp 264 [dN a] (Db (DP a)):=by
 obtain ⟨w,hi⟩:=Ahm h
 obtain ⟨l1,l2⟩:=h.len
 refine Af 300 (AjB _ _) (Aa hi ?_)
 simp only[Cm,Az,Ed,Ia]
 unfold DP
 refine Ae (fun h1=>Ac ?_) (fun h1=>Aa (Xn h.sm) ?_)
 · rw[if_neg (fun hh=>h1 hh.1)];rfl
 have hb:=Amn.1 h1
 simp only[Ag,Al]
 refine Ae (fun h2=>Ac ?_) (fun h2=>Aa (Xo a (by omega)) ?_)
 · have:a.neg=true:=by rw[h.sgn];exact decide_eq_true (by rw[← h.top];exact ZB.1 h2)
   rw[if_neg (fun hh=>by rw[this]at hh;cases hh.2)];rfl
 have hn:a.neg=false:=by rw[h.sgn];exact decide_eq_false (fun hh=>h2 (ZB.2 (by rw[h.top];exact hh)))
 rw[if_pos ⟨hb,hn⟩]
 cases hs:De a with
 | none=>exact Bi rfl (Ac rfl)
 | some k =>
   obtain ⟨rfl,rfl,hr⟩:=Ak7 h hs
   have hk0:0≤k:=by have:=h.sgn;rw[hn]at this;have:=of_decide_eq_false this.symm;omega
   refine D6 rfl ?_
   simp only[K6,Ag,Al]
   refine Ae (fun h3=>Ac ?_) (fun h3=>Aa (So 1 (by unfold Bc;omega)) ?_)
   · rw[if_neg (by omega)];rfl
   rw[if_pos (by omega)]
   obtain ⟨K,rfl⟩:=Int.eq_ofNat_of_zero_le hk0
   have hK:K≤200:=by omega
   simp only[Ag,Amj]
   have key:=Cw (max (K+1) 2) (fun m k (_:Unit)=>Zn 300 m (K:Int) (k:Int) false (dW (wz ((Eb (k-1):Nat):Int)))) (fun _ _=>Db (C4 (Eb K:Nat) 1)) (fun k _=>2≤k)
    (fun m _ _=>by
     have hf:Eb (max (K+1) 2-1)=Eb K:=by
       rcases (by omega:K=0∨1≤K) with h0 | h0
       · subst h0;rfl
       · rw[show max (K+1) 2-1=K by omega]
     have hl:=QG K (by rw[Ay];omega)
     simp only[YS,hf,Ev,Bz,Amd,Ia]
     rw[Ae9]
     refine Aq (Ae (fun h4=>Ac ?_) (fun h4=> ?_))
     · rw[if_pos (by have:=Fh ((Eb K:Nat):Int);omega)];rfl
     · have hw:=Fh ((Eb K:Nat):Int)
       have wh:=Xp (wz ((Eb K:Nat):Int)) (by omega)
       rw[Cy]at wh
       have e1:Lj ((Eb K:Nat):Int)=Cn ((Eb K:Nat):Int):=by unfold Lj;rw[if_neg (by show ¬ 32<Bs _;omega)]
       rw[e1]at wh
       rw[if_neg (by omega)]
       exact Aa wh (Ac rfl))
    (fun m k _ hkK hk2 ih=>by
     have hkK':k≤K:=by omega
     simp only[YS]
     rw[D0 (by omega)]
     have l1:=QG (k-1) (by rw[Ay];omega)
     have l2:Bs (k:Int)≤1:=Qu (by rw[Int.natAbs_natCast,Nat.pow_one,Ay];omega)
     have ml:=H4 (wz ((Eb (k-1):Nat):Int)) (wz (k:Int)) (by rw[Fh];omega) (by rw[Fh];omega)
     rw[Cy,Cy,AcR k (by omega)]at ml
     have:=ih () (by omega)
     rw[Nat.add_sub_cancel]at this
     exact Ad (Aa (So (k:Int) (by unfold Bc;omega)) (Aa ml this)))
    300 2 () (by omega) (by omega) (by omega)
   exact key
theorem AdB(x:Int):Bc (Ff x):=by unfold Ff Bc;split;omega;split <;> omega
theorem Aj1(f:Int)(h:RNum a z d):Sp 221 [.int f,dN a] (Db (Oj f a)):=by
 obtain ⟨l1,l2⟩:=h.len
 have o1:=Ajh (z:=1) Aeo
 refine Af 0 (Aj2 _ _ _) ?_
 simp only[Al,Cd,Ia]
 unfold Oj
 refine Ae (fun h1=>Aa (Po a (by omega) (by omega)) (Ac ?_)) (fun h1=> ?_)
 · rw[if_pos h1];simp[Db]
 rw[if_neg h1]
 refine Ae (fun h1=>Aa (Xm h) (Ac ?_)) (fun h1=> ?_)
 · rw[if_pos h1];rfl
 rw[if_neg h1]
 refine Ae (fun h1=>Aa (Xn h.sm) (Aa (K8 _ (AdB _)) (Ac ?_))) (fun h1=> ?_)
 · rw[if_pos h1];rfl
 rw[if_neg h1]
 refine Ae (fun h1=>Aa (K8 1 (by unfold Bc;omega)) (Aa (Xk o1.sm h.sm) (Ac ?_))) (fun h1=> ?_)
 · rw[if_pos h1];rfl
 rw[if_neg h1]
 refine Ae (fun h1=>Aa (Ahg h) (Ac ?_)) (fun h1=> ?_)
 · rw[if_pos h1];rfl
 rw[if_neg h1]
 refine Ae (fun h1=>Aa (HP h) (Ac ?_)) (fun h1=> ?_)
 · rw[if_pos h1];rfl
 rw[if_neg h1]
 refine Ae (fun h1=>Aa (Ahd h) (Ac ?_)) (fun h1=> ?_)
 · rw[if_pos h1];rfl
 rw[if_neg h1]
 refine Ae (fun h1=>Aa (Xo a (by omega)) ?_) (fun h1=> ?_)
 · rw[if_pos h1]
   cases hs:De a with
   | none=>exact Bi rfl (Ac rfl)
   | some k =>
    refine D6 rfl ?_
    simp only[K6,Ag,Al,C0,Amk]
    refine Ae (fun h2=>Ae (fun h3=>Ac ?_) (fun h3=> ?_)) (fun h2=> ?_)
    · rw[if_neg h2,if_neg h3];rfl
    · obtain rfl:=Amn.1 h3
      exact Aa (K8 _ (by unfold Bc;decide)) (Ac rfl)
    · obtain rfl:=Amn.1 h2
      exact Aa (K8 _ (by unfold Bc;decide)) (Ac rfl)
 rw[if_neg h1]
 refine Ae (fun h1=>Aa (AjA h) (Ac ?_)) (fun h1=>Ac ?_)
 · rw[if_pos h1];rfl
 · rw[if_neg h1];rfl
theorem Aj8(f:Int)(h:RNum a z d)(h':RNum b y e):Sp 284 [.int f,dN a,dN b] (Db (CP f (Gp a b))):=by
 refine Af 0 (Aj9 _ _ _ _) (Aa (Xj h.sm h'.sm) ?_)
 simp only[Ag,Al,Cd,C0,Ia]
 unfold CP
 refine Ae (fun h1=>Aa (Jj _) (Ac ?_)) (fun h1=> ?_)
 · rw[if_pos h1];rfl
 rw[if_neg h1]
 refine Ae (fun h1=>Aa (Jj _) (Ac ?_)) (fun h1=> ?_)
 · rw[if_pos h1];rfl
 rw[if_neg h1]
 refine Ae (fun h1=>Aa (Jj _) (Ac ?_)) (fun h1=> ?_)
 · rw[if_pos h1];rfl
 rw[if_neg h1]
 refine Ae (fun h1=>Aa (Jj _) (Ac ?_)) (fun h1=> ?_)
 · rw[if_pos h1];rfl
 rw[if_neg h1]
 refine Ae (fun h1=>Aa (Jj _) (Ac ?_)) (fun h1=> ?_)
 · rw[if_pos h1];rfl
 rw[if_neg h1]
 refine Ae (fun h1=>Aa (Jj _) (Ac ?_)) (fun h1=>Ac ?_)
 · rw[if_pos h1];rfl
 · rw[if_neg h1];rfl
def AaX(f:Int)(b:Num):Prop:=f=42→∀ k,De b=some k→ -300≤k∧k≤300
theorem Aj3(f:Int)(h:RNum a z d)(h':RNum b y e)(hp:AaX f b):Sp 236 [.int f,dN a,dN b] (Db (Lh f a b)):=by
 obtain ⟨l1,l2⟩:=h.len
 obtain ⟨l3,l4⟩:=h'.len
 refine Af 0 (Aj4 _ _ _ _) ?_
 simp only[Al,Cd,Ia]
 unfold Lh
 refine Ae (fun h1=>Aa (UV h.sm h'.sm) (Ac ?_)) (fun h1=> ?_)
 · rw[if_pos h1];rfl
 rw[if_neg h1]
 refine Ae (fun h1=>Aa (UZ h.sm h') (Ac ?_)) (fun h1=> ?_)
 · rw[if_pos h1];rfl
 rw[if_neg h1]
 refine Ae (fun h1=>Aa (HR h.sm h'.sm) (Ac ?_)) (fun h1=> ?_)
 · rw[if_pos h1];rfl
 rw[if_neg h1]
 refine Ae (fun h1=>Aa (Xk h.sm h'.sm) (Ac ?_)) (fun h1=> ?_)
 · rw[if_pos h1];rfl
 rw[if_neg h1]
 refine Ae (fun h1=>Ax h1 (Aa (Xj h.sm h'.sm) ?_)) (fun h1=> ?_)
 · rw[if_pos h1,decide_eq_true h1]
   simp only[Ag,Al]
   by_cases hc:Gp a b<0
   · rw[if_pos hc]
     exact Bi (beq_iff_eq.2 (decide_eq_true hc)) (Aa (Po b (by omega) (by omega)) (Ac (by simp[Db])))
   · rw[if_neg hc]
     exact D6 (beq_eq_false_iff_ne.2 (fun hh=>hc (of_decide_eq_true hh))) (Aa (Po a (by omega) (by omega)) (Ac (by simp[Db])))
 rw[if_neg h1,decide_eq_false h1]
 refine Ae (fun h1=>Aa (Xj h.sm h'.sm) ?_) (fun h1=> ?_)
 · rw[if_pos h1]
   simp only[Ag,Al]
   by_cases hc:Gp a b<0
   · rw[if_pos hc]
     exact D6 (beq_eq_false_iff_ne.2 (fun hh=>of_decide_eq_false hh hc)) (Aa (Po a (by omega) (by omega)) (Ac (by simp[Db])))
   · rw[if_neg hc]
     exact Bi (beq_iff_eq.2 (decide_eq_false hc)) (Aa (Po b (by omega) (by omega)) (Ac (by simp[Db])))
 rw[if_neg h1]
 refine Ae (fun h1=>Aa (Ahq h h') (Ac ?_)) (fun h1=> ?_)
 · rw[if_pos h1];rfl
 rw[if_neg h1]
 refine Ae (fun h1=>Aa (Xo b (by omega)) ?_) (fun h1=> ?_)
 · rw[if_pos h1]
   cases hs:De b with
   | none=>exact Bi rfl (Ac rfl)
   | some k =>
     have:=hp h1 k hs
     exact D6 rfl (Aa (Ahv h k (by omega)) (Ac rfl))
 rw[if_neg h1]
 refine Ae (fun h1=>Aa (Ahn h h') (Ac ?_)) (fun h1=> ?_)
 · rw[if_pos h1];rfl
 rw[if_neg h1]
 refine Ae (fun h1=>Aa (UW h h') (Ac ?_)) (fun h1=>Aa (Aj8 f h h') (Ac ?_))
 · rw[if_pos h1];rfl
 · rw[if_neg h1];rfl
end
theorem Mt{d:Nat}{c:Cell}(h:B8 d c=true):(c.kind=0∧c.c=0∧c.inn = []∧Eo c.n=true)∨(c.kind=1∧c.n = .zero∧c.inn = [])∨(c.kind=2∧c.n = .zero∧c.c=0∧∃ x e,d=e+1∧c.inn = [x]∧Gi x=false∧Ba e x=true):=by
 have h2:=Rz h
 have key : ∀ k r,D7 k r c=true→(c.kind=0∧c.c=0∧c.inn = []∧Eo c.n=true)∨(c.kind=1∧c.n = .zero∧c.inn = [])∨(c.kind=2∧c.n = .zero∧c.c=0∧∃ x,x∈c.inn):=by
   intro k r hh
   unfold D7 at hh
   split at hh
   · rename_i hk
     simp only[Ami,decide_eq_true_eq]at hh
     exact .inl ⟨hk,hh.1.1,Am1.1 hh.1.2,hh.2⟩
   split at hh
   · rename_i hk
     simp only[Ami,decide_eq_true_eq]at hh
     exact .inr (.inl ⟨hk,hh.1.1,Am1.1 hh.1.2⟩)
   · simp only[Ami,decide_eq_true_eq]at hh
     obtain ⟨h3,h4,h5⟩:=hh
     refine .inr (.inr ⟨h3.1,h3.2.1,h3.2.2,?_⟩)
     unfold Ku at h5
     split at h5
     · rename_i y hy;exact ⟨y,by rw[hy];simp⟩
     · cases h5
 have:(c.kind=0∧c.c=0∧c.inn = []∧Eo c.n=true)∨(c.kind=1∧c.n = .zero∧c.inn = [])∨(c.kind=2∧c.n = .zero∧c.c=0∧∃ x,x∈c.inn):=by
   cases d with
   | zero=>exact key _ _ h
   | succ d=>exact key _ _ h
 rcases this with h3 | h3 | ⟨h3,h4,h5,x,hx⟩
 · exact .inl h3
 · exact .inr (.inl h3)
 · obtain ⟨e,he,hs,hr,hi,_⟩:=h2 x hx
   exact .inr (.inr ⟨h3,h4,h5,x,e,he,hi,hs,hr⟩)
theorem Ajd{d:Nat}{l:Ap}{n:Num}(h:Eo n=true):B8 d ⟨l,0,n,0,[]⟩=true:=by
 have key : ∀ k r,D7 k r ⟨l,0,n,0,[]⟩=true:=fun k r=>by unfold D7;simp[h]
 cases d with
 | zero=>exact key _ _
 | succ d=>exact key _ _
mutual
def Gk(f:Int):Arr→Arr×Int
 | .mk s sh cs=>if f∈Q_ then (if (E5 f cs).2=0 then (.mk s sh (E5 f cs).1,0) else (.none,(E5 f cs).2)) else (.none,8)
def E5(f:Int):List (CellF Arr)→List (CellF Arr)×Int
 | []=>([],0)
 | c::cs=>if (H2 f c).2=0 then (if (E5 f cs).2=0 then ((H2 f c).1::(E5 f cs).1,0) else ([],(E5 f cs).2)) else ([],(H2 f c).2)
def H2(f:Int):CellF Arr→CellF Arr×Int
 | ⟨l,k,n,c,inn⟩=>if k=0 then (⟨l,0,(Oj f n).1,0,[]⟩,(Oj f n).2) else if k=2 then (⟨l,2,.zero,0,[(Si f inn).1]⟩,(Si f inn).2) else (Cell.none,3)
def Si(f:Int):List Arr→Arr×Int
 | []=>(.none,0)
 | a::_=>Gk f a
end
theorem Aa5(f:Int)(a:Arr):Gk f a=if f∈Q_ then (if (E5 f a.cells).2=0 then (.mk a.s a.shape (E5 f a.cells).1,0) else (.none,(E5 f a.cells).2)) else (.none,8):=by cases a;rw[Gk];rfl
theorem Alx(f:Int)(c:Cell):H2 f c=if c.kind=0 then (⟨c.l,0,(Oj f c.n).1,0,[]⟩,(Oj f c.n).2) else if c.kind=2 then (⟨c.l,2,.zero,0,[(Si f c.inn).1]⟩,(Si f c.inn).2) else (Cell.none,3):=by cases c;rw[H2]
def Ka(s:Ap)(sh:List Int)(pre:List Cell)(r:List Cell×Int):List D:=if r.2=0 then [dA (.mk s sh (pre++r.1)),.int 0] else [dA .none,.int r.2]
theorem AfP{s:Ap}{sh:List Int}{pre:List Cell}{f:Int}{c:Cell}{cs:List Cell}(h:(H2 f c).2=0):Ka s sh pre (E5 f (c::cs))=Ka s sh (pre++[(H2 f c).1]) (E5 f cs):=by
 rw[E5,if_pos h]
 unfold Ka
 by_cases h2:(E5 f cs).2=0
 · rw[if_pos h2];simp[h2]
 · rw[if_neg h2];simp[h2]
theorem AfQ{s:Ap}{sh:List Int}{pre:List Cell}{f:Int}{c:Cell}{cs:List Cell}(h : ¬ (H2 f c).2=0):Ka s sh pre (E5 f (c::cs)) = [dA .none,.int (H2 f c).2]:=by
 rw[E5,if_neg h]
 unfold Ka
 rw[if_neg h]
theorem Alw(f:Int)(a:Arr)(hf:f∈Q_) : [dA (Gk f a).1,D.int (Gk f a).2]=Ka a.s a.shape [] (E5 f a.cells):=by
 rw[Aa5,if_pos hf]
 unfold Ka
 split <;> rfl
theorem YT(c:Cell)(x:Arr)(h:c.inn = [x]):Sp 222 [dC c] [dA x]:=by
 refine Af 0 (AjC _ _) ?_
 simp only[Ah,h,Ani,List.map_nil,Amg,Amu]
 exact Aq (Ad (Ad (Ac rfl)))
theorem AjD(f:Int)(d:Nat)(c:Cell)(h:B8 d c=true)(ih : ∀ e x,d=e+1→Ba e x=true→Sp 70 [.int f,dA x] [dA (Gk f x).1,.int (Gk f x).2]):Sp 159 [.int f,dC c] [dC (H2 f c).1,.int (H2 f c).2]:=by
 refine Af 0 (AjE _ _ _) ?_
 simp only[Ah]
 rw[Alx]
 rcases Mt h with ⟨h1,h2,h3,h4⟩ | ⟨h1,h2,h3⟩ | ⟨h1,h2,h3,x,e,h4,h5,h6,h7⟩
 · obtain ⟨z,q,hr⟩:=O0 h4
   refine Ax h1 (Aa (Aj1 f hr) (Ac ?_))
   rw[if_pos h1,Dr];rfl
 · refine Aq (Aq (Ac ?_))
   rw[if_neg (by omega),if_neg (by omega),Dr];rfl
 · refine Aq (Ax h1 (Aa (YT c x h5) (Aa (ih e x h4 h7) (Ac ?_))))
   rw[if_neg (by omega),if_pos h1,h5,Si,Dr];rfl
theorem Aj5(f:Int) : ∀ (d:Nat) (a:Arr),Ba d a=true→Sp 70 [.int f,dA a] [dA (Gk f a).1,.int (Gk f a).2]:=by
 suffices key : ∀ (d:Nat) (a:Arr),(∀ e x,d=e+1→Ba e x=true→Sp 70 [.int f,dA x] [dA (Gk f x).1,.int (Gk f x).2])→Ba d a=true→Sp 70 [.int f,dA a] [dA (Gk f a).1,.int (Gk f a).2] by
  intro d
  induction d with
  | zero=>intro a;exact key 0 a (fun e x he=>by omega)
  | succ d ihd=>intro a;exact key (d+1) a (fun e x he=>by
      have:e=d:=by omega
      subst this;exact ihd x)
 intro d a ih hr
 have hs:=D5 hr
 have hl:=hs.2.1
 have hcs:=(Dy hr).2
 refine Af (a.cells.length+1) (Aj6 _ _ _) (Aa (Ajx f) ?_)
 simp only[Ah,Cr,Gu]
 refine Ae (fun h=>Ac ?_) (fun h=>Aa (I0 a.shape hs.1) ?_)
 · rw[Aa5,if_neg h]
 rw[Alw f a (Amn.1 h)]
 simp only[Ah]
 refine Ad (Ad (Ax (by simp only[Aj];omega) ?_))
 have key:=B3 a.cells (fun m k (pre:List Cell)=>Zk (a.cells.length+1) m f (.sl (a.cells.map dC)) (a.cells.length:Int) (k:Int) 0 (a.s.toNat:Int) (a.shape.map .int) (pre.map dC++Amc (a.cells.length-k) (dC Cell.none))) (fun rest pre=>Ka a.s a.shape pre (E5 f rest)) (fun rest pre=>pre.length+rest.length=a.cells.length)
  (fun m k pre hk hI=>by
   simp only[YM,Ah]
   refine Aq (Ac ?_)
   rw[hk,Nat.sub_self,List.replicate_zero,Amx,E5]
   unfold Ka
   rw[if_pos rfl,Dn]
   simp[dI])
  (fun m k pre c rest hdr hI ih'=>by
   obtain ⟨h1,h2,h3⟩:=Bx hdr
   have hpk:pre.length=k:=by
     have:=congrArg List.length hdr
     simp only[Amp,Amg]at this hI
     omega
   have hlen:(pre.map dC++Amc (a.cells.length-k) (dC Cell.none)).length=a.cells.length:=by simp;omega
   simp only[YM,Ah,As h2,hlen,Bb k]
   refine Ad (Ad (Ad (Aa (AjD f d c (hcs c (Amh h2)) ih) ?_)))
   simp only[Ag,Cm,Al,C0,Cr]
   refine Ae (fun he=>Ac ?_) (fun he=>Ad (Ad ?_))
   · rw[AfQ he]
   · have he':=Amn.1 he
     rw[AfP he',show a.cells.length-k=(a.cells.length-(k+1))+1 by omega,← hpk,Ld,hpk]
     exact ih' (pre++[(H2 f c).1]) (by simp only[Amm,Amg,Amu]at hI ⊢; omega))
  (a.cells.length+1) 0 [] (by omega) (by omega) (by simp)
 simpa using key
def Hk(a b:Arr):List Int×Int:=if a.shape = [] then (b.shape,0) else if b.shape = [] then (a.shape,0) else if a.shape.length≠b.shape.length then ([],5) else if a.shape=b.shape then (a.shape,0) else ([],4)
theorem Ajv{d e:Nat}(a b:Arr)(ha:Sml d a)(hb:Sml e b):Sp 193 [dA a,dA b] [dI (Hk a b).1,.int (Hk a b).2]:=by
 obtain ⟨d,rfl⟩:=ha.succ
 obtain ⟨e,rfl⟩:=hb.succ
 have h1:=ha.1
 have h2:=hb.1
 refine Af 0 (Ajw _ _ _) ?_
 simp only[Ah]
 unfold Hk
 refine Ae (fun h=>Aa (I0 b.shape h2) (Ac ?_)) (fun h=>Ae (fun h'=>Aa (I0 a.shape h1) (Ac ?_)) (fun h'=>Ae (fun h3=>Ac ?_) (fun h3=>Aa (ZP a.shape b.shape (by omega)) ?_)))
 · rw[if_pos (Am1.1 (by omega))];rfl
 · rw[if_neg (fun hh=>h (by rw[hh];rfl)),if_pos (Am1.1 (by omega))];rfl
 · rw[if_neg (fun hh=>h (by rw[hh];rfl)),if_neg (fun hh=>h' (by rw[hh];rfl)),if_pos (by omega)];rfl
 · rw[if_neg (fun hh=>h (by rw[hh];rfl)),if_neg (fun hh=>h' (by rw[hh];rfl)),if_neg (by omega)]
   simp only[Ag,Az,Ed]
   refine Ae (fun h4=>Ac ?_) (fun h4=>Aa (I0 a.shape h1) (Ac ?_))
   · rw[if_neg h4];rfl
   · rw[if_pos (Amn.1 h4)];rfl
def Ee(a:Arr)(i:Int):Cell:=if (if a.shape = [] then 0 else i)<0∨(a.cells.length:Int)≤(if a.shape = [] then 0 else i) then Cell.none else a.cells.getD (if a.shape = [] then 0 else i).toNat Cell.none
theorem OR{l:List Cell}{i:Nat}(h:i<l.length):(l.map dC).getD i D.nil=dC (l.getD i Cell.none):=by
 rw[As (Amb h),Amf,Amb h];rfl
theorem YU(a:Arr)(i:Int):Sp 195 [dA a,.int i] [dC (Ee a i)]:=by
 refine Af 0 (AjF _ _ _) ?_
 simp only[Ah,Gu]
 unfold Ee
 refine Ae (fun h=> ?_) (fun h=> ?_)
 · simp only[if_pos (Am1.1 (show a.shape.length=0 by omega))]
   refine Aq (Ae (fun h2=>Ac ?_) (fun h2=>Ad (Ad (Ac ?_))))
   · rw[if_pos (.inr h2)]
   · rw[if_neg (by omega),show Ama 0=0 from rfl,OR (by omega)]
 · simp only[if_neg (fun hh:a.shape = []=>h (by rw[hh];rfl))]
   refine Ae (fun h1=>Ac ?_) (fun h1=>Ae (fun h2=>Ac ?_) (fun h2=>Ad (Ad (Ac ?_))))
   · rw[if_pos (.inl h1)]
   · rw[if_pos (.inr h2)]
   · rw[if_neg (by omega),OR (by omega)]
def Fk(c:Cell):Arr:=if c.kind=2 then c.inn.headD .none else .mk 0 [] [⟨0,c.kind,c.n,c.c,c.inn⟩]
def H1(r:Arr→Arr→Arr×Int)(f:Int)(x y:Cell):Cell×Int :=
 if x.kind=2∨y.kind=2 then (⟨x.l|||y.l,2,.zero,0,[(r (Fk x) (Fk y)).1]⟩,(r (Fk x) (Fk y)).2)
 else if x.kind=0∧y.kind=0 then (⟨x.l|||y.l,0,(Lh f x.n y.n).1,0,[]⟩,(Lh f x.n y.n).2)
 else if f=61 then (⟨x.l|||y.l,0,Hd (decide (x.kind=y.kind∧x.c=y.c)),0,[]⟩,0)
 else if f=8800 then (⟨x.l|||y.l,0,Hd (decide (¬ (x.kind=y.kind∧x.c=y.c))),0,[]⟩,0)
 else (⟨x.l|||y.l,0,.zero,0,[]⟩,3)
def F0(g:Nat→Cell×Int):Nat→Nat→List Cell×Int
 | 0,_=>([],0)
 | m+1,k=>if (g k).2=0 then (if (F0 g m (k+1)).2=0 then ((g k).1::(F0 g m (k+1)).1,0) else ([],(F0 g m (k+1)).2)) else ([],(g k).2)
def Dh(a b:Arr):Nat:=if a.shape = [] then b.cells.length else a.cells.length
def Ki(r:Arr→Arr→Arr×Int)(f:Int)(a b:Arr):Arr×Int :=
 if f∈AT then (if (Hk a b).2=0 then (if (F0 (fun i=>H1 r f (Ee a i) (Ee b i)) (Dh a b) 0).2=0 then (.mk (a.s|||b.s) (Hk a b).1 (F0 (fun i=>H1 r f (Ee a i) (Ee b i)) (Dh a b) 0).1,0) else (.none,(F0 (fun i=>H1 r f (Ee a i) (Ee b i)) (Dh a b) 0).2)) else (.none,(Hk a b).2)) else (.none,8)
def AS:Nat→Int→Arr→Arr→Arr×Int
 | 0,f=>Ki (fun _ _=>(.none,0)) f
 | d+1,f=>Ki (AS d f) f
inductive ExpOk:Arr→Prop where
 | mk {s:Ap} {sh:List Int} {cs:List Cell} (h : ∀ c∈cs,∀ k,De c.n=some k→ -300≤k∧k≤300) (h2 : ∀ c∈cs,∀ x∈c.inn,ExpOk x):ExpOk (.mk s sh cs)
theorem ExpOk.cell {a:Arr} (h:ExpOk a) : ∀ c∈a.cells,(∀ k,De c.n=some k→ -300≤k∧k≤300)∧∀ x∈c.inn,ExpOk x:=by cases h with | mk h h2=>exact fun c hc=>⟨h c hc,h2 c hc⟩
def Kq(c:Cell):Prop:=(∀ k,De c.n=some k→ -300≤k∧k≤300)∧∀ x∈c.inn,ExpOk x
theorem MO{d:Nat}{c:Cell}(h:B8 (d+1) c=true):Ba d (Fk c)=true∧Sml (d+1) (Fk c)∧(c.kind=2→Gi (Fk c)=false)∧(¬ c.kind=2→(Fk c).shape = []):=by
 have key:Ba d (Fk c)=true∧(c.kind=2→Gi (Fk c)=false)∧(¬ c.kind=2→(Fk c).shape = []):=by
  unfold Fk
  rcases Mt h with ⟨h1,h2,h3,h4⟩ | ⟨h1,h2,h3⟩ | ⟨h1,h2,h3,x,e,h4,h5,h6,h7⟩
  · rw[if_neg (by omega)]
    refine ⟨Zd (by simp;decide) (fun y hy=> ?_),fun hh=>by omega,fun _=>rfl⟩
    have:y=⟨0,c.kind,c.n,c.c,c.inn⟩:=by simpa using hy
    subst this
    rw[h1,h2,h3]
    exact Ajd h4
  · rw[if_neg (by omega)]
    refine ⟨Zd (by simp;decide) (fun y hy=> ?_),fun hh=>by omega,fun _=>rfl⟩
    have:y=⟨0,c.kind,c.n,c.c,c.inn⟩:=by simpa using hy
    subst this
    have k1:D7 true (Ba d) c=true:=h
    have key2 : ∀ k r,D7 k r ⟨0,c.kind,c.n,c.c,c.inn⟩=true:=fun k r=>by
     unfold D7 at k1 ⊢
     simp only[h1]at k1 ⊢
     simpa using k1
    cases d with
    | zero=>exact key2 _ _
    | succ d=>exact key2 _ _
  · rw[if_pos h1,h5]
    have:e=d:=by omega
    subst this
    exact ⟨h7,fun _=>h6,fun hh=>absurd h1 hh⟩
 exact ⟨key.1,D5 key.1,key.2⟩
theorem Ach{c:Cell}(h:Kq c)(hi:c.kind=2→∃ x,c.inn = [x]):ExpOk (Fk c):=by
 unfold Fk
 split
 · rename_i hk
   obtain ⟨x,hx⟩:=hi hk
   rw[hx];exact h.2 x (by rw[hx];simp)
 · have one : ∀ y∈[(⟨0,c.kind,c.n,c.c,c.inn⟩:Cell)],Kq y:=fun y hy=>by
    have:y=⟨0,c.kind,c.n,c.c,c.inn⟩:=by simpa using hy
    subst this
    exact h
   exact .mk (fun y hy=>(one y hy).1) (fun y hy=>(one y hy).2)
theorem Ajg{d:Nat}{a:Arr}(h:Ba d a=true)(hs:a.shape = []) : ∃ c,a.cells = [c]:=by
 have:=(Dy h).1
 rw[hs,show A5 []=(1,0) by decide]at this
 have e:=congrArg Prod.fst this
 simp only at e
 exact Md (by omega)
theorem AgB{d:Nat}{a b:Arr}(ha:Ba d a=true)(hb:Ba d b=true)(hc:(Hk a b).2=0){i:Nat}(hi:i<Dh a b):Ee a i∈a.cells∧Ee b i∈b.cells:=by
 have mem : ∀ (l:List Cell) (j:Nat),j<l.length→l.getD j Cell.none∈l:=fun l j hj=>by
   rw[Amf,Amb hj];exact Anh hj
 have one : ∀ (x:Arr),Ba d x=true→x.shape = []→∀ j:Int,Ee x j∈x.cells:=fun x hx hs j=>by
   obtain ⟨c,hcc⟩:=Ajg hx hs
   unfold Ee
   rw[if_pos hs,if_neg (by rw[hcc];simp)]
   exact mem _ _ (by rw[hcc];simp)
 have many : ∀ (x:Arr),¬ x.shape = []→∀ j:Nat,j<x.cells.length→Ee x (j:Int)∈x.cells:=fun x hs j hj=>by
   unfold Ee
   rw[if_neg hs,if_neg (by omega),Amj]
   exact mem _ _ hj
 unfold Dh at hi
 by_cases h1:a.shape = []
 · rw[if_pos h1]at hi
   refine ⟨one a ha h1 _,?_⟩
   by_cases h2:b.shape = []
   · exact one b hb h2 _
   · exact many b h2 i hi
 · rw[if_neg h1]at hi
   refine ⟨many a h1 i hi,?_⟩
   by_cases h2:b.shape = []
   · exact one b hb h2 _
   · refine many b h2 i ?_
     unfold Hk at hc
     rw[if_neg h1,if_neg h2]at hc
     split at hc
     · cases hc
     · split at hc
       · rename_i h3
         have e1:=(Dy ha).1
         have e2:=(Dy hb).1
         rw[h3,e2]at e1
         have:=congrArg Prod.fst e1
         simp only at this
         omega
       · cases hc
def Kh(s:Ap)(sh:List Int)(pre:List Cell)(r:List Cell×Int):List D:=if r.2=0 then [dA (.mk s sh (pre++r.1)),.int 0] else [dA .none,.int r.2]
theorem Alq{s:Ap}{sh:List Int}{pre:List Cell}{g:Nat→Cell×Int}{m k:Nat}(h:(g k).2=0):Kh s sh pre (F0 g (m+1) k)=Kh s sh (pre++[(g k).1]) (F0 g m (k+1)):=by
 rw[F0,if_pos h]
 unfold Kh
 by_cases h2:(F0 g m (k+1)).2=0
 · rw[if_pos h2];simp[h2]
 · rw[if_neg h2];simp[h2]
theorem Alr{s:Ap}{sh:List Int}{pre:List Cell}{g:Nat→Cell×Int}{m k:Nat}(h : ¬ (g k).2=0):Kh s sh pre (F0 g (m+1) k) = [dA .none,.int (g k).2]:=by
 rw[F0,if_neg h]
 unfold Kh
 rw[if_neg h]
theorem Als(r:Arr→Arr→Arr×Int)(f:Int)(a b:Arr)(hf:f∈AT)(hc:(Hk a b).2=0) : [dA (Ki r f a b).1,D.int (Ki r f a b).2]=Kh (a.s|||b.s) (Hk a b).1 [] (F0 (fun i=>H1 r f (Ee a i) (Ee b i)) (Dh a b) 0):=by
 unfold Ki
 rw[if_pos hf,if_pos hc]
 unfold Kh
 split <;> rfl
theorem YR{d:Nat}(c:Cell)(h:B8 d c=true):Sp 235 [dC c] [dA (Fk c)]:=by
 refine Af 0 (Aj_ _ _) ?_
 simp only[Ah]
 unfold Fk
 have hs:=XV h
 refine Ae (fun h1=> ?_) (fun h1=> ?_)
 · rcases Mt h with ⟨g1,_⟩ | ⟨g1,_⟩ | ⟨g1,g2,g3,x,e,g4,g5,g6,g7⟩
   · omega
   · omega
   · rw[if_pos h1,g5]
     exact Aa (YT c x g5) (Ac rfl)
 · rw[if_neg h1]
   have e0:D.agg [D.int 0,D.int c.kind,dN c.n,D.int c.c,D.sl (c.inn.map dA)]=dC ⟨0,c.kind,c.n,c.c,c.inn⟩:=by rw[Dr];rfl
   rw[e0]
   exact Aa (Pp (d:=d) ⟨0,c.kind,c.n,c.c,c.inn⟩ hs) (Ac rfl)
theorem P1(l:Ap)(n:Num):D.agg [dB l,D.int 0,dN n,D.int 0,D.sl []]=dC ⟨l,0,n,0,[]⟩:=by rw[Dr];rfl
theorem Ac6(l:Ap):D.agg [dB l,D.int 0,D.agg [D.bool false,D.sl [],D.sl []],D.int 0,D.sl []]=dC ⟨l,0,.zero,0,[]⟩:=by rw[Dr];rfl
section
variable {d:Nat} {x y:Cell} {f:Int} {r:Arr→Arr→Arr×Int}
theorem SL(hx:B8 0 x=true) : ¬ x.kind=2:=by
 rcases Mt hx with ⟨g1,_⟩ | ⟨g1,_⟩ | ⟨_,_,_,_,e,g4,_⟩
 · omega
 · omega
 · omega
theorem SN(hx:B8 d x=true)(h:x.kind=0):Eo x.n=true:=by
 rcases Mt hx with ⟨_,_,_,g4⟩ | ⟨g1,_⟩ | ⟨g1,_⟩
 · exact g4
 · omega
 · omega
theorem AbR(hx:B8 d x=true)(h:x.kind=2) : ∃ X,x.inn = [X]:=by
 rcases Mt hx with ⟨g1,_⟩ | ⟨g1,_⟩ | ⟨_,_,_,X,_,_,g5,_⟩
 · omega
 · omega
 · exact ⟨X,g5⟩
theorem AjH(hx:B8 d x=true)(hy:B8 d y=true)(hp:f=42→Kq y)
  (ih : ∀ e,d=e+1→∀ X Y,Ba e X=true→Ba e Y=true→(f=42→ExpOk Y)→Sp 112 [.int f,dA X,dA Y] [dA (r X Y).1,.int (r X Y).2]):Sp 194 [.int f,dC x,dC y] [dC (H1 r f x y).1,.int (H1 r f x y).2]:=by
 refine Af 0 (AjI _ _ _ _) ?_
 simp only[Ah]
 refine Aa (Gb x.l y.l) ?_
 simp only[Ah]
 have box:x.kind=2∨y.kind=2→Tw (.call 235 [] [dC x] fun Y2=> .call 235 [] [dC y] fun Y3=> .call 112 [] [D.int f,qA Y2,qA Y3] fun Y4=> .ret [D.agg [dB (x.l|||y.l),D.int 2,D.agg [D.bool false,D.sl [],D.sl []],D.int 0,D.sl [qA Y4]],D.int ((qB Y4).toInt)]) [dC (H1 r f x y).1,.int (H1 r f x y).2]:=fun hk=>by
  cases d with
  | zero=>rcases hk with hk | hk;exact absurd hk (SL hx);exact absurd hk (SL hy)
  | succ e =>
   obtain ⟨c1,_⟩:=MO hx
   obtain ⟨c2,_⟩:=MO hy
   refine Aa (YR x hx) (Aa (YR y hy) (Aa (ih e rfl _ _ c1 c2 (fun hf=>Ach (hp hf) (AbR hy))) (Ac ?_)))
   unfold H1
   rw[if_pos hk,Dr];rfl
 refine Ae (fun h1=>box (.inl h1)) (fun h1=>Ae (fun h2=>box (.inr h2)) (fun h2=> ?_))
 unfold H1
 rw[if_neg (fun hh=>hh.elim h1 h2)]
 have chars : ¬ (x.kind=0∧y.kind=0)→Tw (.br (decide (f=61)) (.br (decide (x.kind=y.kind)) (.call 237 [] [D.bool (decide (x.c=y.c)==decide (f=61))] fun Y13=> .ret [D.agg [dB (x.l|||y.l),D.int 0,qA Y13,D.int 0,D.sl []],D.int 0]) (.call 237 [] [D.bool (false == decide (f=61))] fun Y14=> .ret [D.agg [dB (x.l|||y.l),D.int 0,qA Y14,D.int 0,D.sl []],D.int 0])) (.br (decide (f=8800)) (.br (decide (x.kind=y.kind)) (.call 237 [] [D.bool (decide (x.c=y.c)==decide (f=61))] fun Y15=> .ret [D.agg [dB (x.l|||y.l),D.int 0,qA Y15,D.int 0,D.sl []],D.int 0]) (.call 237 [] [D.bool (false == decide (f=61))] fun Y16=> .ret [D.agg [dB (x.l|||y.l),D.int 0,qA Y16,D.int 0,D.sl []],D.int 0])) (.ret [D.agg [dB (x.l|||y.l),D.int 0,D.agg [D.bool false,D.sl [],D.sl []],D.int 0,D.sl []],D.int 3])))
   [dC (if x.kind=0∧y.kind=0 then ((⟨x.l|||y.l,0,(Lh f x.n y.n).1,0,[]⟩,(Lh f x.n y.n).2):Cell×Int) else if f=61 then (⟨x.l|||y.l,0,Hd (decide (x.kind=y.kind∧x.c=y.c)),0,[]⟩,0) else if f=8800 then (⟨x.l|||y.l,0,Hd (decide (¬ (x.kind=y.kind∧x.c=y.c))),0,[]⟩,0) else (⟨x.l|||y.l,0,.zero,0,[]⟩,3)).1,.int (if x.kind=0∧y.kind=0 then ((⟨x.l|||y.l,0,(Lh f x.n y.n).1,0,[]⟩,(Lh f x.n y.n).2):Cell×Int) else if f=61 then (⟨x.l|||y.l,0,Hd (decide (x.kind=y.kind∧x.c=y.c)),0,[]⟩,0) else if f=8800 then (⟨x.l|||y.l,0,Hd (decide (¬ (x.kind=y.kind∧x.c=y.c))),0,[]⟩,0) else (⟨x.l|||y.l,0,.zero,0,[]⟩,3)).2]:=fun hk=>by
  rw[if_neg hk]
  refine Ae (fun h3=>Ae (fun h4=>Aa (Jj _) (Ac ?_)) (fun h4=>Aa (Jj _) (Ac ?_))) (fun h3=>Ae (fun h3'=>Ae (fun h4=>Aa (Jj _) (Ac ?_)) (fun h4=>Aa (Jj _) (Ac ?_))) (fun h3'=>Ac ?_))
  · rw[if_pos h3,Ag,P1];simp[h3,h4]
  · rw[if_pos h3,Ag,P1];simp[h3,h4]
  · rw[if_neg h3,if_pos h3',Ag,P1];simp[h3,h4]
  · rw[if_neg h3,if_pos h3',Ag,P1];simp[h3,h4]
  · rw[if_neg h3,if_neg h3',Ac6]
 refine Ae (fun h3=>Ae (fun h4=> ?_) (fun h4=>chars (fun hh=>h4 hh.2))) (fun h3=>chars (fun hh=>h3 hh.1))
 rw[if_pos ⟨h3,h4⟩]
 obtain ⟨z,q,rx⟩:=O0 (SN hx h3)
 obtain ⟨z',q',ry⟩:=O0 (SN hy h4)
 refine Aa (Aj3 f rx ry (fun hf=>(hp hf).1)) (Ac ?_)
 simp only[Db,Ag,Cm,Al,P1]
end
theorem YN(f:Int)(d:Nat)(a b:Arr)(r:Arr→Arr→Arr×Int)(ih : ∀ e,d=e+1→∀ X Y,Ba e X=true→Ba e Y=true→(f=42→ExpOk Y)→Sp 112 [.int f,dA X,dA Y] [dA (r X Y).1,.int (r X Y).2])
   (ha:Ba d a=true) (hb:Ba d b=true) (hp:f=42→ExpOk b):Sp 112 [.int f,dA a,dA b] [dA (Ki r f a b).1,.int (Ki r f a b).2]:=by
 have hs:=D5 ha
 have hs':=D5 hb
 have hl:=hs.2.1
 have hl':=hs'.2.1
 have hcnt:Dh a b≤1048576:=by unfold Dh;split <;> omega
 refine Af (Dh a b+1) (Aj7 _ _ _ _) (Aa (Ajz f) ?_)
 simp only[Ah,Cr,Gu]
 refine Ae (fun h=>Ac ?_) (fun h=>Aa (Ajv a b hs hs') ?_)
 · unfold Ki;rw[if_neg h]
 have hf:=Amn.1 h
 simp only[Ah,Cr]
 refine Ae (fun h1=>Ac ?_) (fun h1=> ?_)
 · unfold Ki;rw[if_pos hf,if_neg h1]
 have hc:=Amn.1 h1
 rw[Als r f a b hf hc]
 have key:=Cw (Dh a b) (fun m k (pre:List Cell)=>R4 (Dh a b+1) m f ((Dh a b:Nat):Int) (k:Int) (dA a) (dA b) 0 ((a.s|||b.s).toNat:Int) (dI (Hk a b).1) (pre.map dC++Amc (Dh a b-k) (dC Cell.none)))
   (fun k pre=>Kh (a.s|||b.s) (Hk a b).1 pre (F0 (fun i=>H1 r f (Ee a i) (Ee b i)) (Dh a b-k) k)) (fun k pre=>pre.length=k)
   (fun m pre hI=>by
    simp only[YO,Ah]
    refine Aq (Ac ?_)
    rw[Nat.sub_self,List.replicate_zero,Amx,F0]
    unfold Kh
    rw[if_pos rfl,Dn]
    simp[dI,dB])
   (fun m k pre hk hI ih'=>by
    have hlen:(pre.map dC++Amc (Dh a b-k) (dC Cell.none)).length=Dh a b:=by simp;omega
    obtain ⟨p1,p2⟩:=AgB ha hb hc hk
    have r1:=(Dy ha).2 _ p1
    have r2:=(Dy hb).2 _ p2
    simp only[YO,Ah,hlen,Bb k]
    refine Ad (Aa (YU a (k:Int)) (Aa (YU b (k:Int)) (Aa (AjH (r:=r) r1 r2 (fun hf=>(hp hf).cell _ p2) ih) ?_)))
    simp only[Ag,Cm,Al,C0,Cr]
    rw[show Dh a b-k=(Dh a b-(k+1))+1 by omega]
    refine Ae (fun he=>Ac ?_) (fun he=>Ad (Ad ?_))
    · rw[Alr he]
    · have he':=Amn.1 he
      rw[Alq he',← hI,Ld,hI]
      exact ih' (pre++[(H1 r f (Ee a k) (Ee b k)).1]) (by simp[hI]))
   (Dh a b+1) 0 [] (by omega) (by omega) rfl
 have e0:([]:List Cell).map dC++Amc (Dh a b-0) (dC Cell.none)=Amc (Dh a b) (dC Cell.none):=by simp
 rw[e0]at key
 refine Ae (fun h2=>Aa (Gb a.s b.s) (Ad (Ad (Ax (by simp only[Aj];omega) ?_)))) (fun h2=>Aa (Gb a.s b.s) (Ad (Ad (Ax (by simp only[Aj];omega) ?_))))
 · have:Dh a b=b.cells.length:=by unfold Dh;rw[if_pos (Am1.1 (by omega))]
   simp only[Ah]
   rw[this]at key
   simpa [this]using key
 · have:Dh a b=a.cells.length:=by unfold Dh;rw[if_neg (fun hh=>h2 (by rw[hh];rfl))]
   simp only[Ah]
   rw[this]at key
   simpa [this]using key
theorem YQ(f:Int) : ∀ (d:Nat) (a b:Arr),Ba d a=true→Ba d b=true→(f=42→ExpOk b)→Sp 112 [.int f,dA a,dA b] [dA (AS d f a b).1,.int (AS d f a b).2]
 | 0,a,b,ha,hb,hp=>YN f 0 a b _ (fun e he=>by omega) ha hb hp
 | d+1,a,b,ha,hb,hp=>YN f (d+1) a b _ (fun e he=>by
  have:e=d:=by omega
  subst this
  exact YQ f e) ha hb hp
theorem AgO(n:Nat)(f0 a1 b2:D):fA [(2000000,⟨[],[],[]⟩)] n 10 [] [f0,a1,b2] =
 .br (f0.toInt == 9076) (cK 35 [a1,b2] fun Y1 =>
 .ret [qA Y1,D.int ((qB Y1).toInt)])
 (.br (f0.toInt == 44) (cK 36 [a1,b2,D.bool false] fun Y2 =>
 .ret [qA Y2,D.int ((qB Y2).toInt)])
 (.br (f0.toInt == 9066) (cK 36 [a1,b2,D.bool true] fun Y3 =>
 .ret [qA Y3,D.int ((qB Y3).toInt)])
 (.br (f0.toInt == 9021) (cK 37 [a1,b2,D.bool false] fun Y4 =>
 .ret [qA Y4,D.int ((qB Y4).toInt)])
 (.br (f0.toInt == 8854) (cK 37 [a1,b2,D.bool true] fun Y5 =>
 .ret [qA Y5,D.int ((qB Y5).toInt)])
 (.br (f0.toInt == 9033) (cK 38 [a1,b2] fun Y6 =>
 .ret [qA Y6,D.int ((qB Y6).toInt)])
 (.br (f0.toInt == 8593) (cK 39 [a1,b2] fun Y7 =>
 .ret [qA Y7,D.int ((qB Y7).toInt)])
 (.br (f0.toInt == 8595) (cK 40 [a1,b2] fun Y8 =>
 .ret [qA Y8,D.int ((qB Y8).toInt)])
 (.br (f0.toInt == 8835) (cK 41 [a1,b2] fun Y9 =>
 .ret [qA Y9,D.int ((qB Y9).toInt)])
 (.br (f0.toInt == 8866) (.ret [b2,D.int 0])
 (.br (f0.toInt == 8867) (.ret [a1,D.int 0])
 (cK 42 [D.int f0.toInt,a1,b2] fun Y10 =>
 .ret [qA Y10,D.int ((qB Y10).toInt)]))))))))))):=by kernel_rfl
theorem AgL(n:Nat)(f0 a1:D):fA [(2000000,⟨[],[],[]⟩)] n 15 [] [f0,a1] =
 .br (f0.toInt == 9076) (cK 56 [a1] fun Y1 =>
 .ret [qA Y1,D.int 0])
 (.br (f0.toInt == 44) (cK 57 [a1] fun Y2 =>
 .ret [qA Y2,D.int 0])
 (.br (f0.toInt == 9066) (cK 58 [a1] fun Y3 =>
 .ret [qA Y3,D.int 0])
 (.br (f0.toInt == 9021) (cK 59 [a1,D.bool false] fun Y4 =>
 .ret [qA Y4,D.int 0])
 (.br (f0.toInt == 8854) (cK 59 [a1,D.bool true] fun Y5 =>
 .ret [qA Y5,D.int 0])
 (.br (f0.toInt == 9033) (cK 60 [a1] fun Y6 =>
 .ret [qA Y6,D.int 0])
 (.br (f0.toInt == 8834) (cK 61 [a1] fun Y7 =>
 .ret [qA Y7,D.int ((qB Y7).toInt)])
 (.br (f0.toInt == 8835) (cK 62 [a1] fun Y8 =>
 .ret [qA Y8,D.int 0])
 (.br (f0.toInt == 8801) (cK 63 [a1] fun Y9 =>
 .ret [qA Y9,D.int 0])
 (.br (f0.toInt == 8802) (cK 64 [a1] fun Y10 =>
 .ret [qA Y10,D.int 0])
 (.br (f0.toInt == 8866) (.ret [a1,D.int 0])
 (.br (f0.toInt == 8867) (.ret [a1,D.int 0])
 (.br (f0.toInt == 9075) (cK 65 [a1] fun Y11 =>
 .ret [qA Y11,D.int ((qB Y11).toInt)])
 (.br (f0.toInt == 8714) (cK 66 [a1] fun Y12 =>
 .ret [qA Y12,D.int ((qB Y12).toInt)])
 (.br (f0.toInt == 8746) (cK 67 [a1] fun Y13 =>
 .ret [qA Y13,D.int ((qB Y13).toInt)])
 (.br (f0.toInt == 9080) (cK 68 [a1] fun Y14 =>
 .ret [qA Y14,D.int ((qB Y14).toInt)])
 (.br (f0.toInt == 9035) (cK 69 [a1,D.bool false] fun Y15 =>
 .ret [qA Y15,D.int ((qB Y15).toInt)])
 (.br (f0.toInt == 9042) (cK 69 [a1,D.bool true] fun Y16 =>
 .ret [qA Y16,D.int ((qB Y16).toInt)])
 (cK 70 [D.int f0.toInt,a1] fun Y17 =>
 .ret [qA Y17,D.int ((qB Y17).toInt)])))))))))))))))))):=by kernel_rfl
theorem AgK(n:Nat)(f0 two1:D):fA [] n 26 [] [f0,two1] =
 .br two1.toBool (cK 29 [] fun Y1 =>
 cK 74 [qA Y1,D.int f0.toInt] fun Y2 =>
 .ret [D.bool ((qA Y2).toBool)])
 (cK 28 [] fun Y3 =>
 cK 74 [qA Y3,D.int f0.toInt] fun Y4 =>
 .ret [D.bool ((qA Y4).toBool)]):=by kernel_rfl
theorem AgN(n:Nat):fA [] n 28 [] [] =
 .ret [D.sl [D.int 43,D.int 45,D.int 215,D.int 247,D.int 8968,D.int 8970,D.int 124,D.int 126,D.int 33,D.int 9076,D.int 44,D.int 9066,D.int 9021,D.int 8854,D.int 9033,D.int 8834,D.int 8835,D.int 8801,D.int 8802,D.int 9075,D.int 8714,D.int 8746,D.int 9080,D.int 9035,D.int 9042,D.int 8866,D.int 8867]]:=by kernel_rfl
theorem AgQ(n:Nat):fA [] n 29 [] [] =
 .ret [D.sl [D.int 43,D.int 45,D.int 215,D.int 247,D.int 8968,D.int 8970,D.int 124,D.int 42,D.int 60,D.int 8804,D.int 61,D.int 8805,D.int 62,D.int 8800,D.int 8743,D.int 8744,D.int 9076,D.int 44,D.int 9066,D.int 9021,D.int 8854,D.int 9033,D.int 8593,D.int 8595,D.int 8835,D.int 8801,D.int 8802,D.int 9075,D.int 8714,D.int 8746,D.int 8745,D.int 126,D.int 8866,D.int 8867,D.int 47,D.int 9023,D.int 92,D.int 9024]]:=by kernel_rfl
theorem AgS(n:Nat)(a0 b1:D):fA [(2000000,⟨[],[],[]⟩)] n 41 [] [a0,b1] =
 cK 80 [a0] fun Y1 =>
 .br (((qB Y1).toInt)!=0) (.ret [D.agg [D.int 0,D.sl [],D.sl []],D.int ((qB Y1).toInt)])
 (.br ((((qA Y1).els).length:Int)!=1) (.ret [D.agg [D.int 0,D.sl [],D.sl []],D.int 4])
 (.br ((((b1.fld 1).els).length:Int)!=1) (.ret [D.agg [D.int 0,D.sl [],D.sl []],D.int 5])
 (kK (0≤0) (kK (0<(((qA Y1).els).length:Int)) (bK (((((qA Y1).els).getD (Ama 0) D.nil).toInt)<1) (.ret [D.agg [D.int 0,D.sl [],D.sl []],D.int 6])
 (kK (0≤0) (kK (0<(((qA Y1).els).length:Int)) (bK ((((b1.fld 2).els).length:Int)<((((qA Y1).els).getD (Ama 0) D.nil).toInt)) (.ret [D.agg [D.int 0,D.sl [],D.sl []],D.int 6])
 (kK (0≤0) (kK (0<(((qA Y1).els).length:Int)) (kK (0≤Al6 .i64 (((((qA Y1).els).getD (Ama 0) D.nil).toInt)-1)) (kK (Al6 .i64 (((((qA Y1).els).getD (Ama 0) D.nil).toInt)-1)<(((b1.fld 2).els).length:Int)) (cK 104 [((b1.fld 2).els).getD (Ama (Al6 .i64 (((((qA Y1).els).getD (Ama 0) D.nil).toInt)-1))) D.nil] fun Y2 =>
 cK 84 [a0] fun Y3 =>
 cK 83 [D.int ((b1.fld 0).toInt),D.int ((qA Y3).toInt)] fun Y4 =>
 cK 90 [qA Y2,D.int ((qA Y4).toInt)] fun Y5 =>
 .ret [qA Y5,D.int 0]))))))))))))):=by kernel_rfl
theorem AgU(n:Nat)(f0 a1 b2:D):fA [(2000000,⟨[],[],[]⟩)] n 42 [] [f0,a1,b2] =
 .br (f0.toInt == 8801) (cK 105 [a1,b2,D.bool true] fun Y1 =>
 .ret [qA Y1,D.int 0])
 (.br (f0.toInt == 8802) (cK 105 [a1,b2,D.bool false] fun Y2 =>
 .ret [qA Y2,D.int 0])
 (.br (f0.toInt == 9075) (cK 106 [a1,b2] fun Y3 =>
 .ret [qA Y3,D.int ((qB Y3).toInt)])
 (.br (f0.toInt == 8714) (cK 107 [a1,b2] fun Y4 =>
 .ret [qA Y4,D.int 0])
 (.br (f0.toInt == 8746) (cK 108 [a1,b2] fun Y5 =>
 .ret [qA Y5,D.int ((qB Y5).toInt)])
 (.br (f0.toInt == 8745) (cK 109 [a1,b2,D.bool true] fun Y6 =>
 .ret [qA Y6,D.int ((qB Y6).toInt)])
 (.br (f0.toInt == 126) (cK 109 [a1,b2,D.bool false] fun Y7 =>
 .ret [qA Y7,D.int ((qB Y7).toInt)])
 (.br (f0.toInt == 47) (cK 110 [a1,b2,D.bool false] fun Y8 =>
 .ret [qA Y8,D.int ((qB Y8).toInt)])
 (.br (f0.toInt == 9023) (cK 110 [a1,b2,D.bool true] fun Y9 =>
 .ret [qA Y9,D.int ((qB Y9).toInt)])
 (.br (f0.toInt == 92) (cK 111 [a1,b2,D.bool false] fun Y10 =>
 .ret [qA Y10,D.int ((qB Y10).toInt)])
 (.br (f0.toInt == 9024) (cK 111 [a1,b2,D.bool true] fun Y11 =>
 .ret [qA Y11,D.int ((qB Y11).toInt)])
 (cK 112 [D.int f0.toInt,a1,b2] fun Y12 =>
 .ret [qA Y12,D.int ((qB Y12).toInt)]))))))))))):=by kernel_rfl
def Ny(n a:Arr):Arr×Int:=if (A8 n).2≠0 then (.none,(A8 n).2) else if (A8 n).1.length≠1 then (.none,4) else if a.shape.length≠1 then (.none,5) else
 if (A8 n).1.getD 0 0<1∨(a.cells.length:Int)<(A8 n).1.getD 0 0 then (.none,6) else
 (Da (Li (a.cells.getD ((A8 n).1.getD 0 0-1).toNat (Be 0))) (a.s|||Av n),0)
theorem AgR(n a:Arr)(hn:Ba 8 n=true)(ha:Ba 8 a=true):Sp 41 [dA n,dA a] [dA (Ny n a).1,.int (Ny n a).2]:=by
 have hl:=(E0 ha).1
 refine Af 0 (AgS _ _ _) (Aa (J0 n (E0 hn).1 (Oz hn)) ?_)
 unfold Ny
 generalize (A8 n).1=l at *
 generalize (A8 n).2=e at *
 simp only[Ah,Cr]
 refine Ae (fun h=>Ac (by rw[if_pos h])) (fun h=> ?_)
 rw[if_neg h]
 refine Ae (fun h1=>Ac (by rw[if_pos (by omega)])) (fun h1=> ?_)
 rw[if_neg (by omega)]
 refine Ae (fun h2=>Ac (by rw[if_pos (by omega)])) (fun h2=> ?_)
 rw[if_neg (by omega)]
 have hg0:=Gz (l:=l) (i:=0) (by omega)
 simp only[hg0,Al]
 generalize l.getD 0 0=k at *
 refine Ad (Ad (Ae (fun h3=>Ac (by rw[if_pos (.inl h3)])) (fun h3=>Ad (Ad (Ae (fun h4=>Ac (by rw[if_pos (.inr h4)])) (fun h4=> ?_))))))
 rw[if_neg (by omega)]
 obtain ⟨J,hJ⟩ : ∃ J:Nat,k-1=(J:Int):=⟨(k-1).toNat,by omega⟩
 have hw:Al6 .i64 (J:Int)=(J:Int):=At (by omega) (by omega)
 have hcj:(a.cells.map dC).getD J D.nil=dC (a.cells.getD J (Be 0)):=by
  rw[As (Amb (by omega)),Amf,Amb (by omega)];rfl
 have hcr:B8 8 (a.cells.getD J (Be 0))=true:=by
  rw[Amf,Amb (by omega)]
  exact (Dy ha).2 _ (Anh _)
 simp only[hJ,hw,Amj,hcj]
 refine Ad (Ad (Ad (Ad (Aa (BX _ (XV hcr)) (Aa (Es n (D5 hn).fits) ?_)))))
 simp only[Ah]
 refine Aa (Gb a.s (Av n)) ?_
 simp only[Ah]
 exact Aa (F1 _ _) (Ac rfl)
theorem sw{c:Prop} [Decidable c] {t e:Tree}{x y:Arr×Int}(h1:c→Tw t [dA x.1,.int x.2])(h2 : ¬ c→Tw e [dA y.1,.int y.2]):Tw (.br (decide c) t e) [dA (if c then x else y).1,.int (if c then x else y).2]:=by
 refine Ae (fun h=> ?_) (fun h=> ?_)
 · rw[if_pos h];exact h1 h
 · rw[if_neg h];exact h2 h
noncomputable def Mg(f:Int)(a:Arr):Arr×Int :=
 if f=9076 then (Zr a,0) else
 if f=44 then (VA a,0) else
 if f=9066 then (JV a,0) else
 if f=9021 then (Zc a false,0) else
 if f=8854 then (Zc a true,0) else
 if f=9033 then (JY a,0) else
 if f=8834 then Uj a else
 if f=8835 then (DR a,0) else
 if f=8801 then (RA a,0) else
 if f=8802 then (JW a,0) else
 if f=8866 then (a,0) else
 if f=8867 then (a,0) else
 if f=9075 then L9 a else
 if f=8714 then Uk a else
 if f=8746 then AW a else
 if f=9080 then AZ a else
 if f=9035 then Qh a false else
 if f=9042 then Qh a true else Gk f a
theorem UJ(f:Int)(a:Arr)(ha:Ba 8 a=true):Sp 15 [.int f,dA a] [dA (Mg f a).1,.int (Mg f a).2]:=by
 have hs:=D5 ha
 have hc:=(Dy ha).1
 have hl:=(E0 ha).1
 refine Af 0 (AgL _ _ _) ?_
 simp only[Al,Cd]
 unfold Mg
 refine sw (fun _=>Aa (AeP a hs) (Ac rfl)) (fun _=> ?_)
 refine sw (fun _=>Aa (AeL a hs) (Ac rfl)) (fun _=> ?_)
 refine sw (fun _=>Aa (AdK a hc) (Ac rfl)) (fun _=> ?_)
 refine sw (fun _=>Aa (Aa3 a false hc) (Ac rfl)) (fun _=> ?_)
 refine sw (fun _=>Aa (Aa3 a true hc) (Ac rfl)) (fun _=> ?_)
 refine sw (fun _=>Aa (Alf a hc) (Ac rfl)) (fun _=> ?_)
 refine sw (fun _=>Aa (AeE a hs (by omega)) (Ac rfl)) (fun _=> ?_)
 refine sw (fun _=>Aa (AeI a hs) (Ac rfl)) (fun _=> ?_)
 refine sw (fun _=>Aa (AeC a hs (by omega)) (Ac rfl)) (fun _=> ?_)
 refine sw (fun _=>Aa (AeR a hs) (Ac rfl)) (fun _=> ?_)
 refine sw (fun _=>Ac rfl) (fun _=> ?_)
 refine sw (fun _=>Ac rfl) (fun _=> ?_)
 refine sw (fun _=>Aa (Ada a hs.fits hl (Oz ha)) (Ac rfl)) (fun _=> ?_)
 refine sw (fun _=>Aa (AeG a hs) (Ac rfl)) (fun _=> ?_)
 refine sw (fun _=>Aa (Adh Nq a hs hl) (Ac rfl)) (fun _=> ?_)
 refine sw (fun _=>Aa (Ag8 a ha) (Ac rfl)) (fun _=> ?_)
 refine sw (fun _=>Aa (OV a false ha) (Ac rfl)) (fun _=> ?_)
 refine sw (fun _=>Aa (OV a true ha) (Ac rfl)) (fun _=> ?_)
 exact Aa (Aj5 f 8 a ha) (Ac rfl)
noncomputable def We(f:Int)(a b:Arr):Arr×Int :=
 if f=8801 then (V_ a b true,0) else
 if f=8802 then (V_ a b false,0) else
 if f=9075 then Vl a b else
 if f=8714 then (Qz a b,0) else
 if f=8746 then AV a b else
 if f=8745 then Se a b true else
 if f=126 then Se a b false else
 if f=47 then Rx a b false else
 if f=9023 then Rx a b true else
 if f=92 then P6 a b false else
 if f=9024 then P6 a b true else AS 8 f a b
theorem AgT(f:Int)(a b:Arr)(ha:Ba 8 a=true)(hb:Ba 8 b=true)(hx:f=42→ExpOk b):Sp 42 [.int f,dA a,dA b] [dA (We f a b).1,.int (We f a b).2]:=by
 have hs:=D5 ha
 have ht:=D5 hb
 have hl:=(E0 ha).1
 have hm:=(E0 hb).1
 refine Af 0 (AgU _ _ _ _) ?_
 simp only[Al,Cd]
 unfold We
 refine sw (fun _=>Aa (RG a b true hs ht) (Ac rfl)) (fun _=> ?_)
 refine sw (fun _=>Aa (RG a b false hs ht) (Ac rfl)) (fun _=> ?_)
 refine sw (fun _=>Aa (AcY Nq a b hs ht hl hm) (Ac rfl)) (fun _=> ?_)
 refine sw (fun _=>Aa (Adc Nq a b hs ht hl hm) (Ac rfl)) (fun _=> ?_)
 refine sw (fun _=>Aa (Adf Nq a b hs ht hl hm) (Ac rfl)) (fun _=> ?_)
 refine sw (fun _=>Aa (NW Nq a b true hs ht hl hm) (Ac rfl)) (fun _=> ?_)
 refine sw (fun _=>Aa (NW Nq a b false hs ht hl hm) (Ac rfl)) (fun _=> ?_)
 refine sw (fun _=>Aa (TP a b false ha hb) (Ac rfl)) (fun _=> ?_)
 refine sw (fun _=>Aa (TP a b true ha hb) (Ac rfl)) (fun _=> ?_)
 refine sw (fun _=>Aa (TM a b false ha hb) (Ac rfl)) (fun _=> ?_)
 refine sw (fun _=>Aa (TM a b true ha hb) (Ac rfl)) (fun _=> ?_)
 exact Aa (YQ f 8 a b ha hb hx) (Ac rfl)
noncomputable def Js(f:Int)(a b:Arr):Arr×Int :=
 if f=9076 then Za a b else
 if f=44 then Pv a b false else
 if f=9066 then Pv a b true else
 if f=9021 then R2 a b false else
 if f=8854 then R2 a b true else
 if f=9033 then Mk a b else
 if f=8593 then AL a b else
 if f=8595 then Ue a b else
 if f=8835 then Ny a b else
 if f=8866 then (b,0) else
 if f=8867 then (a,0) else We f a b
theorem GW(f:Int)(a b:Arr)(ha:Ba 8 a=true)(hb:Ba 8 b=true)(hx:f=42→ExpOk b):Sp 10 [.int f,dA a,dA b] [dA (Js f a b).1,.int (Js f a b).2]:=by
 have hs:=D5 ha
 have ht:=D5 hb
 have hl:=(E0 ha).1
 have hm:=(E0 hb).1
 have ta:=Oz ha
 have ca:=(Dy ha).1
 have cb:=(Dy hb).1
 refine Af 0 (AgO _ _ _ _) ?_
 simp only[Al,Cd]
 unfold Js
 refine sw (fun _=>Aa (AeN a b hs.fits hm hl ta) (Ac rfl)) (fun _=> ?_)
 refine sw (fun _=>Aa (PR a b false ca cb) (Ac rfl)) (fun _=> ?_)
 refine sw (fun _=>Aa (PR a b true ca cb) (Ac rfl)) (fun _=> ?_)
 refine sw (fun _=>Aa (Aa4 a b false hs.fits hl ta cb) (Ac rfl)) (fun _=> ?_)
 refine sw (fun _=>Aa (Aa4 a b true hs.fits hl ta cb) (Ac rfl)) (fun _=> ?_)
 refine sw (fun _=>Aa (AkY a b hs.fits hl ta cb) (Ac rfl)) (fun _=> ?_)
 refine sw (fun _=>Aa (Acp a b hs.fits hl ta cb) (Ac rfl)) (fun _=> ?_)
 refine sw (fun _=>Aa (Acn a b hs.fits hl ta cb) (Ac rfl)) (fun _=> ?_)
 refine sw (fun _=>Aa (AgR a b ha hb) (Ac rfl)) (fun _=> ?_)
 refine sw (fun _=>Ac rfl) (fun _=> ?_)
 refine sw (fun _=>Ac rfl) (fun _=> ?_)
 exact Aa (AgT f a b ha hb hx) (Ac rfl)
section
variable {o:Ap} {a b n m:Arr}
end
theorem AdF{k:Int}(h:Bc k)(s:Ap):A8 (D1 k s)=([k],0):=by
 unfold A8 D1
 simp only[Arr.shape_mk,Arr.cells_mk]
 have:=PO (l:=[k]) (fun x hx=>by simp at hx;subst hx;exact h)
 simp only[Ani,List.map_nil]at this
 rw[this];rfl
theorem AkV(k:Int)(s:Ap):Av (D1 k s)=s:=AkU [k] s
section
variable {o:Ap} {a b n m x y:Arr}
end
def Tells(t:Tree)(Q:Bool→Prop):Prop:=∃ b,Tw t [.bool b]∧Q b
theorem Tells.ret {b:Bool} {Q:Bool→Prop} (h:Q b):Tells (.ret [D.bool b]) Q:=⟨b,Ac rfl,h⟩
theorem Tells.br {c:Bool} {t e:Tree} {Q:Bool→Prop} (h1:c=true→Tells t Q) (h2:c=false→Tells e Q):Tells (.br c t e) Q:=by
 cases h:c with
 | true=>obtain ⟨b,h3,h4⟩:=h1 h;exact ⟨b,Bi rfl h3,h4⟩
 | false=>obtain ⟨b,h3,h4⟩:=h2 h;exact ⟨b,D6 rfl h3,h4⟩
theorem Tells.decs {c:Prop} [Decidable c] {t e:Tree} {Q:Bool→Prop} (h1:c→Tells t Q) (h2 : ¬ c→Tells e Q):Tells (.br (decide c) t e) Q:=Tells.br (fun h=>h1 (of_decide_eq_true h)) (fun h=>h2 (of_decide_eq_false h))
theorem Tells.dec {c:Prop} [Decidable c] {t e:Tree} {Q:Bool→Prop} (h:c) (h1:Tells t Q):Tells (.br (decide c) t e) Q:=Tells.decs (fun _=>h1) (fun h2=>absurd h h2)
theorem Tells.call {f:Nat} {xs ys:List D} {k:List D→Tree} {Q:Bool→Prop} (hs:Sp f xs ys) (hk:Tells (k ys) Q):Tells (.call f [] xs k) Q:=by
 obtain ⟨b,h1,h2⟩:=hk
 exact ⟨b,Aa hs h1,h2⟩
theorem Tells.mono {t:Tree} {Q R:Bool→Prop} (h:Tells t Q) (hq : ∀ b,Q b→R b):Tells t R:=by
 obtain ⟨b,h1,h2⟩:=h
 exact ⟨b,h1,hq b h2⟩
theorem Ajf{d:Nat}{c:Cell}(h:B8 d c=true) : ∀ x∈c.inn,∃ e,d=e+1∧Ba e x=true:=by
 intro x hx
 rcases Mt h with ⟨_,_,g,_⟩ | ⟨_,_,g⟩ | ⟨_,_,_,y,e,g1,g2,_,g3⟩
 · rw[g]at hx;cases hx
 · rw[g]at hx;cases hx
 · rw[g2]at hx
   have:x=y:=by simpa using hx
   subst this
   exact ⟨e,g1,g3⟩
theorem Aeb(n:Nat)(f0 a1:D)(b2 c3:D)(d4 o5:D):fA [] n 5 [] [f0,a1,b2,c3,d4,o5] =
 cK 8 [a1] fun Y1 =>
 .br (!((qA Y1).toBool)) (cK 9 [] fun Y2 =>
 .ret [D.bool ((qA Y2).toBool)])
 (cK 8 [b2] fun Y3 =>
 .br (!((qA Y3).toBool)) (cK 9 [] fun Y4 =>
 .ret [D.bool ((qA Y4).toBool)])
 (cK 8 [c3] fun Y5 =>
 .br (!((qA Y5).toBool)) (cK 9 [] fun Y6 =>
 .ret [D.bool ((qA Y6).toBool)])
 (cK 8 [d4] fun Y7 =>
 .br (!((qA Y7).toBool)) (cK 9 [] fun Y8 =>
 .ret [D.bool ((qA Y8).toBool)])
 (cK 14 [a1,b2,D.int o5.toInt] fun Y9 =>
 .br (!((qA Y9).toBool)) (cK 9 [] fun Y10 =>
 .ret [D.bool ((qA Y10).toBool)])
 (cK 14 [c3,d4,D.int o5.toInt] fun Y11 =>
 .br (!((qA Y11).toBool)) (cK 9 [] fun Y12 =>
 .ret [D.bool ((qA Y12).toBool)])
 (cK 15 [D.int f0.toInt,a1] fun Y13 =>
 cK 15 [D.int f0.toInt,b2] fun Y14 =>
 .br (((qB Y13).toInt)!=((qB Y14).toInt)) (cK 17 [a1] fun Y15 =>
 cK 16 [D.int ((qA Y15).toInt),D.int o5.toInt] fun Y16 =>
 .br ((qA Y16).toBool) (.ret [D.bool false])
 (cK 10 [D.int f0.toInt,a1,c3] fun Y17 =>
 cK 10 [D.int f0.toInt,b2,d4] fun Y18 =>
 .br (((qB Y17).toInt)==((qB Y18).toInt)) (cK 9 [] fun Y19 =>
 .ret [D.bool ((qA Y19).toBool)])
 (cK 17 [a1] fun Y20 =>
 cK 17 [c3] fun Y21 =>
 cK 18 [D.int ((qA Y20).toInt),D.int ((qA Y21).toInt)] fun Y22 =>
 cK 16 [D.int ((qA Y22).toInt),D.int o5.toInt] fun Y23 =>
 .br (!((qA Y23).toBool)) (cK 9 [] fun Y24 =>
 .ret [D.bool ((qA Y24).toBool)])
 (.ret [D.bool false]))))
 (cK 10 [D.int f0.toInt,a1,c3] fun Y25 =>
 cK 10 [D.int f0.toInt,b2,d4] fun Y26 =>
 .br (((qB Y25).toInt)==((qB Y26).toInt)) (cK 9 [] fun Y27 =>
 .ret [D.bool ((qA Y27).toBool)])
 (cK 17 [a1] fun Y28 =>
 cK 17 [c3] fun Y29 =>
 cK 18 [D.int ((qA Y28).toInt),D.int ((qA Y29).toInt)] fun Y30 =>
 cK 16 [D.int ((qA Y30).toInt),D.int o5.toInt] fun Y31 =>
 .br (!((qA Y31).toBool)) (cK 9 [] fun Y32 =>
 .ret [D.bool ((qA Y32).toBool)])
 (.ret [D.bool false]))))))))):=by kernel_rfl
theorem QB(n:Nat)(a0:D):fA [] n 8 [] [a0] =
 cK 30 [a0] fun Y1 =>
 .br ((qA Y1).toBool) (cK 31 [a0] fun Y2 =>
 .ret [D.bool ((qA Y2).toBool)])
 (.ret [D.bool false]):=by kernel_rfl
theorem Aed(n:Nat):fA [] n 9 [] [] =
 cK 32 [D.int 2,D.int 0] fun Y1 =>
 cK 33 [D.sl [D.int 5,D.int 6,D.int 7],D.int 0] fun Y2 =>
 cK 10 [D.int 8835,qA Y1,qA Y2] fun Y3 =>
 .br (((qB Y3).toInt)==0) (cK 32 [D.int 6,D.int 0] fun Y4 =>
 cK 34 [qA Y3,qA Y4] fun Y5 =>
 .br ((qA Y5).toBool) (cK 26 [D.int 9076,D.bool false] fun Y6 =>
 .br ((qA Y6).toBool) (cK 26 [D.int 42,D.bool false] fun Y7 =>
 .ret [D.bool (!((qA Y7).toBool))])
 (.ret [D.bool false]))
 (.ret [D.bool false]))
 (.ret [D.bool false]):=by kernel_rfl
def Hp:List (Nat×Orc):=[(4,⟨[(1,none),(3,none)],[(1,true)],[]⟩),(11,⟨[(1,none),(3,none),(4,none),(7,none)],[(1,true),(4,true)],[]⟩)]
noncomputable def N2(n m4 m11:Nat)(i3 j7:Int)(a1 c4:D):Tree :=
 lA (eA Hp n 31 [1,1,0,1,0,0,1,0,0,1,1,1,1,0,0]) (Ak Hp 11) m11 ⟨(.undef:: .ptr 1 []:: .undef:: .i .i64 i3:: .ptr 4 []:: .undef:: .undef:: .i .i64 j7::uA 59),[(1,.var 26 (.d 26 a1) true),(4,.var 67 (.d 67 c4) true)],[1,4],[],[]⟩
  (Ai 2 (Ai 1 (Am (jA Hp n 31 [1,1,0,1,0,0,1,1]) (Fa Tryz.prog md (Ak Hp 4) (fun s1=>lA (eA Hp n 31 [1,1,0,1,0,0]) (Ak Hp 4) m4 s1 (Ai 0 (Am (jA Hp n 31 [1,1,1]) (rA 31 [26] [.tmp 2] [4])))) (Ai 0 (Am (jA Hp n 31 [1,1,1]) (rA 31 [26] [.tmp 2] [4])))))))
noncomputable def N3(n m4:Nat)(i3:Int)(a1:D):Tree :=
 lA (eA Hp n 31 [1,1,0,1,0,0]) (Ak Hp 4) m4 ⟨(.undef:: .ptr 1 []:: .undef:: .i .i64 i3::uA 63),[(1,.var 26 (.d 26 a1) true)],[1],[],[]⟩
  (Ai 0 (Am (jA Hp n 31 [1,1,1]) (rA 31 [26] [.tmp 2] [4])))
theorem AdY(n m4 m11:Nat)(i3 j7:Int)(a1 c4:D):N2 n m4 (m11+1) i3 j7 a1 c4 =
 bK (j7<(((c4.fld 4).els).length:Int)) (kK (0≤j7) (kK (j7<(((c4.fld 4).els).length:Int)) (cK 31 [((c4.fld 4).els).getD (Ama j7) D.nil] fun Y2 =>
 .br (!((qA Y2).toBool)) (.ret [D.bool false])
 (N2 n m4 m11 i3 (Al6 .i64 (j7+1)) a1 c4))))
 (N3 n m4 (Al6 .i64 (i3+1)) a1):=by kernel_rfl
theorem AdZ(n m4:Nat)(i3:Int)(a1:D):N3 n (m4+1) i3 a1 =
 bK (i3<(((a1.fld 2).els).length:Int)) (kK (0≤i3) (kK (i3<(((a1.fld 2).els).length:Int)) (cK 77 [(((a1.fld 2).els).getD (Ama i3) D.nil).fld 2] fun Y1 =>
 bK (2<(((((((a1.fld 2).els).getD (Ama i3) D.nil).fld 2).fld 1).els).length:Int)) (.ret [D.bool false])
 (bK (2<(((((((a1.fld 2).els).getD (Ama i3) D.nil).fld 2).fld 2).els).length:Int)) (.ret [D.bool false])
 (.br ((qB Y1).toBool) (bK (300<((qA Y1).toInt)) (.ret [D.bool false])
 (bK (((qA Y1).toInt)<(-300)) (.ret [D.bool false])
 (N2 n m4 n i3 0 a1 (((a1.fld 2).els).getD (Ama i3) D.nil))))
 (N2 n m4 n i3 0 a1 (((a1.fld 2).els).getD (Ama i3) D.nil)))))))
 (.ret [D.bool true]):=by kernel_rfl
theorem Aea(n:Nat)(a0:D):fA Hp n 31 [] [a0] =
 bK (60<(((a0.fld 2).els).length:Int)) (.ret [D.bool false])
 (N3 n n 0 a0):=by kernel_rfl
def GG:List Int:=[43,45,215,247,8968,8970,124,126,33,9076,44,9066,9021,8854,9033,8834,8835,8801,8802,9075,8714,8746,9080,9035,9042,8866,8867]
def KB:List Int:=[43,45,215,247,8968,8970,124,42,60,8804,61,8805,62,8800,8743,8744,9076,44,9066,9021,8854,9033,8593,8595,8835,8801,8802,9075,8714,8746,8745,126,8866,8867,47,9023,92,9024]
theorem LF(l:List Int)(f:Int):l.any (fun x=>decide (x=f))=decide (f∈l):=by
 rw[Bool.eq_iff_iff,List.any_eq_true,decide_eq_true_iff]
 exact ⟨fun ⟨x,hx,hp⟩=>by rw[← of_decide_eq_true hp];exact hx,fun h=>⟨f,h,decide_eq_true rfl⟩⟩
theorem AgM:Sp 28 [] [dI GG]:=Af 0 (AgN _) (Ac rfl)
theorem AgP:Sp 29 [] [dI KB]:=Af 0 (AgQ _) (Ac rfl)
theorem UI(f:Int)(two:Bool):Sp 26 [.int f,.bool two] [.bool (decide (f∈if two then KB else GG))]:=by
 refine Af 0 (AgK _ _ _) ?_
 simp only[Az,Al]
 cases two with
 | true=>exact Bi rfl (Aa AgP (Aa (JM KB f (by decide)) (Ac (by rw[LF];rfl))))
 | false=>exact D6 rfl (Aa AgM (Aa (JM GG f (by decide)) (Ac (by rw[LF];rfl))))
theorem AdX : ∀ (d:Nat) (a:Arr),Ba d a=true→∃ b,(b=true→ExpOk a)∧Sp 31 [dA a] [.bool b]:=by
 suffices key : ∀ (d:Nat) (a:Arr),(∀ e x,d=e+1→Ba e x=true→∃ b,(b=true→ExpOk x)∧Sp 31 [dA x] [.bool b])→Ba d a=true→∃ b,(b=true→ExpOk a)∧Sp 31 [dA a] [.bool b] by
  intro d
  induction d with
  | zero=>intro a;exact key 0 a (fun e x he=>by omega)
  | succ d ihd=>intro a;exact key (d+1) a (fun e x he=>by
         have:e=d:=by omega
         subst this;exact ihd x)
 intro d a ih hr
 have hs:=D5 hr
 have hl:=hs.2.1
 have hcs:=(Dy hr).2
 suffices hh:Tells (N3 (a.cells.length+3) (a.cells.length+3) 0 (dA a)) (fun b=>b=true→∀ c∈a.cells,Kq c) by
  have hh2:Tells (.br (decide (60<(((dA a).fld 2).els.length:Int))) (.ret [D.bool false]) (N3 (a.cells.length+3) (a.cells.length+3) 0 (dA a))) (fun b=>b=true→∀ c∈a.cells,Kq c):=Tells.decs (fun _=>Tells.ret (fun h=>by cases h)) (fun _=>hh)
  obtain ⟨b,h1,h2⟩:=hh2
  refine ⟨b,fun hb=> ?_,Af (a.cells.length+3) (Aea _ _) h1⟩
  have h3:=h2 hb
  cases a with
  | mk s sh cs=>exact .mk (fun c hc=>(h3 c hc).1) (fun c hc=>(h3 c hc).2)
 suffices hh : ∀ m k,k≤a.cells.length→a.cells.length<k+m→Tells (N3 (a.cells.length+3) m (k:Int) (dA a)) (fun b=>b=true→∀ c∈a.cells.drop k,Kq c) from hh (a.cells.length+3) 0 (by omega) (by omega)
 intro m
 induction m with
 | zero=>intro k _ _;omega
 | succ m ihm =>
  intro k hk hm
  simp only[AdZ,Ah]
  refine Tells.decs (fun hlt=>Tells.dec (by omega) (Tells.dec (by omega) ?_)) (fun hge=>Tells.ret (fun _ c hc=> ?_))
  · have hlt':k<a.cells.length:=by omega
    have h2:a.cells[k]? = some a.cells[k]:=Amb hlt'
    have hdr:a.cells.drop k=a.cells[k]::a.cells.drop (k+1):=Am2 hlt'
    generalize a.cells[k]=c at h2 hdr
    have hc:=hcs c (Amh h2)
    have hcl:=R1 hc
    have hin : ∀ r j,j≤c.inn.length→c.inn.length<j+r→Tells (N2 (a.cells.length+3) m r (k:Int) (j:Int) (dA a) (dC c)) (fun b=>b=true→(∀ x∈c.inn.drop j,ExpOk x)∧∀ c∈a.cells.drop (k+1),Kq c):=by
     intro r
     induction r with
     | zero=>intro j _ _;omega
     | succ r ihr =>
      intro j hj hm'
      simp only[AdY,Ah,DB]
      refine Tells.decs (fun hlt2=>Tells.dec (by omega) (Tells.dec (by omega) ?_)) (fun hge=> ?_)
      · have hlt3:j<c.inn.length:=by omega
        have h3:c.inn[j]? = some c.inn[j]:=Amb hlt3
        have hdr3:c.inn.drop j=c.inn[j]::c.inn.drop (j+1):=Am2 hlt3
        generalize c.inn[j]=x at h3 hdr3
        obtain ⟨e,g1,g2⟩:=Ajf hc x (Amh h3)
        obtain ⟨b,hb1,hb⟩:=ih e x g1 g2
        simp only[As h3,Bb j]
        refine Tells.call hb ?_
        simp only[Ag,Az]
        refine Tells.br (fun _=>Tells.ret (fun h=>by cases h)) (fun hnb=>(ihr (j+1) (by omega) (by omega)).mono (fun b' hb' ht=> ?_))
        obtain ⟨q1,q2⟩:=hb' ht
        refine ⟨fun y hy=> ?_,q2⟩
        rw[hdr3]at hy
        rcases Amw.1 hy with rfl | hy
        · exact hb1 (by simpa using hnb)
        · exact q1 y hy
      · rw[Bb k]
        refine (ihm (k+1) (by omega) (by omega)).mono (fun b' hb' ht=>⟨fun x hx=> ?_,hb' ht⟩)
        rw[List.drop_eq_nil_of_le (by omega)]at hx;cases hx
    have hin':=hin (a.cells.length+3) 0 (by omega) (by omega)
    simp only[As h2,Ah]
    refine Tells.call (Aiw c.n (by omega)) ?_
    rw[show ((0:Nat):Int)=0 from rfl]at hin'
    generalize N2 (a.cells.length+3) m (a.cells.length+3) (k:Int) 0 (dA a) (dC c)=T at hin' ⊢
    have fin:(∀ k,De c.n=some k→ -300≤k∧k≤300)→Tells T (fun b=>b=true→∀ c∈a.cells.drop k,Kq c):=fun hk=>hin'.mono (fun b hb ht=>by
     obtain ⟨q1,q2⟩:=hb ht
     rw[hdr]
     intro y hy
     rcases Amw.1 hy with rfl | hy
     · exact ⟨hk,q1⟩
     · exact q2 y hy)
    refine Tells.br (fun _=>Tells.ret (fun h=>by cases h)) (fun _=>Tells.br (fun _=>Tells.ret (fun h=>by cases h)) (fun _=> ?_))
    cases hsm:De c.n with
    | none =>
     rw[hsm]at fin
     simp only[K6,Ag,Cm,Az,Al]
     exact Tells.br (fun h=>by cases h) (fun _=>fin (fun k h=>by cases h))
    | some z =>
     rw[hsm]at fin
     simp only[K6,Ag,Cm,Az,Al]
     refine Tells.br (fun _=>Tells.decs (fun _=>Tells.ret (fun h=>by cases h)) (fun g1=>Tells.decs (fun _=>Tells.ret (fun h=>by cases h)) (fun g2=>fin (fun k h=> ?_)))) (fun h=>by cases h)
     injection h with h;subst h;omega
  · rw[List.drop_eq_nil_of_le (by omega)]at hc;cases hc
theorem Vy(a:Arr)(ha:Fits a) : ∃ b,(b=true→Ba 8 a=true∧ExpOk a)∧Sp 8 [dA a] [.bool b]:=by
 cases hg:Va a with
 | false =>
  refine ⟨false,(fun h=>by cases h),Af 0 (QB _ _) (Aa (WJ a ha) ?_)⟩
  rw[hg]
  exact D6 rfl (Ac rfl)
 | true =>
  have hr:Ba 8 a=true:=by
   unfold Va at hg
   simp only[Ami]at hg
   exact hg.1.2
  obtain ⟨b,h1,h2⟩:=AdX 8 a hr
  refine ⟨b,fun hb=>⟨hr,h1 hb⟩,Af 0 (QB _ _) (Aa (WJ a ha) ?_)⟩
  rw[hg]
  exact Bi rfl (Aa h2 (Ac rfl))
theorem J8{z:Int}(h1 : -100000≤z:=by decide)(h2:z≤100000:=by decide):Bc z:=Ez (by omega) (by omega)
theorem LD{k:Int}(h:Bc k):Ba 8 (D1 k 0)=true:=Zd (by simp[D1];decide) (fun c hc=>by simp[D1]at hc;subst hc;exact R0 8 h)
theorem Al3:Ba 8 (Dk [5,6,7] 0)=true:=Zd (by simp[Dk];decide) (fun c hc=>by
 simp[Dk]at hc
 rcases hc with rfl | rfl | rfl
 · exact R0 8 J8
 · exact R0 8 J8
 · exact R0 8 J8)
theorem AbE:Js 8835 (D1 2 0) (Dk [5,6,7] 0)=(D1 6 0,0):=by
 have e:Js 8835 (D1 2 0) (Dk [5,6,7] 0)=Ny (D1 2 0) (Dk [5,6,7] 0):=by
  unfold Js
  rw[if_neg (by decide),if_neg (by decide),if_neg (by decide),if_neg (by decide),if_neg (by decide),if_neg (by decide),if_neg (by decide),if_neg (by decide),if_pos rfl]
 rw[e]
 unfold Ny
 rw[AdF J8,AkV]
 rw[if_neg (by decide),if_neg (by decide),if_neg (by simp[Dk]),if_neg (by simp[Dk])]
 rfl
theorem Aec:Sp 9 [] [.bool true]:=by
 refine Af 0 (Aed _) ?_
 have t:=GW 8835 (D1 2 0) (Dk [5,6,7] 0) (LD J8) Al3 (fun h=>by cases h)
 rw[AbE]at t
 refine Aa (XC 2 0 J8) (Aa (AiS [5,6,7] 0 (by decide) (fun x hx=>by simp at hx;rcases hx with rfl | rfl | rfl <;> exact J8)) (Aa t ?_))
 have hsame:=AiG (D1 6 0) (D5 (LD J8)).fits (D1 6 0)
 rw[Kw.2 rfl]at hsame
 refine Bi rfl (Aa (XC 6 0 J8) (Aa hsame (Bi rfl ?_)))
 have h1:=UI 9076 false
 rw[decide_eq_true (by decide)]at h1
 have h2:=UI 42 false
 rw[decide_eq_false (by decide)]at h2
 exact Aa h1 (Bi rfl (Aa h2 (Ac rfl)))
theorem Ks:Tw (.call 9 [] [] fun y=> .ret [D.bool ((qA y).toBool)]) [.bool true]:=Aa Aec (Ac rfl)
theorem OJ{a b o:Ap}(h:A7 (a|||b) o=true):A7 a o=true∧A7 b o=true:=by
 rw[EB,Ami]at h;exact h
theorem AgJ(f:Int)(a b c d:Arr)(o:Ap)(_hf : -9223372036854775808≤f∧f≤9223372036854775807)(ha:Fits a)(hb:Fits b)(hc:Fits c)(hd:Fits d):Sp 5 [.int f,dA a,dA b,dA c,dA d,dB o] [.bool true]:=by
 obtain ⟨b1,h1,s1⟩:=Vy a ha
 obtain ⟨b2,h2,s2⟩:=Vy b hb
 obtain ⟨b3,h3,s3⟩:=Vy c hc
 obtain ⟨b4,h4,s4⟩:=Vy d hd
 refine Af 0 (Aeb _ _ _ _ _ _ _) (Aa s1 (Bu (fun _=>Ks) (fun e1=>Aa s2 (Bu (fun _=>Ks) (fun e2=>Aa s3 (Bu (fun _=>Ks) (fun e3=>Aa s4 (Bu (fun _=>Ks) (fun e4=> ?_)))))))))
 obtain ⟨g1,x1⟩:=h1 (by simpa using e1)
 obtain ⟨g2,x2⟩:=h2 (by simpa using e2)
 obtain ⟨g3,x3⟩:=h3 (by simpa using e3)
 obtain ⟨g4,x4⟩:=h4 (by simpa using e4)
 simp only[Al,Dc,H_]
 refine Aa (IM o 9 a b (D5 g1)) (Bu (fun _=>Ks) (fun e5=>Aa (IM o 9 c d (D5 g3)) (Bu (fun _=>Ks) (fun e6=> ?_))))
 have l1:Ci o a=Ci o b:=Pm.1 (by simpa using e5)
 have l2:Ci o c=Ci o d:=Pm.1 (by simpa using e6)
 have k1:A7 (Av a) o=true→a=b:=fun h=>KZ l1 h
 have k2:A7 (Av c) o=true→c=d:=fun h=>KZ l2 h
 have r1:=UJ f a g1
 have r2:=UJ f b g2
 have r3:=GW f a c g1 g3 (fun _=>x3)
 have r4:=GW f b d g2 g4 (fun _=>x4)
 have m1:A7 (Av a) o=true→(Mg f a).2=(Mg f b).2:=fun h=>by rw[k1 h]
 have m2:A7 (Av a|||Av c) o=true→(Js f a c).2=(Js f b d).2:=fun h=>by rw[k1 (OJ h).1,k2 (OJ h).2]
 generalize Mg f a=u1 at *
 generalize Mg f b=u2 at *
 generalize Js f a c=u3 at *
 generalize Js f b d=u4 at *
 have tot:=fun (x:Arr) (g:Ba 8 x=true)=>AiK x (D5 g).fits
 have tail:Tw (.call 10 [] [D.int f,dA a,dA c] fun Y25 =>
  .call 10 [] [D.int f,dA b,dA d] fun Y26 =>
  .br (((qB Y25).toInt)==((qB Y26).toInt)) (.call 9 [] [] fun Y27 =>
  .ret [D.bool ((qA Y27).toBool)])
  (.call 17 [] [dA a] fun Y28 =>
  .call 17 [] [dA c] fun Y29 =>
  .call 18 [] [D.int ((qA Y28).toInt),D.int ((qA Y29).toInt)] fun Y30 =>
  .call 16 [] [D.int ((qA Y30).toInt),dB o] fun Y31 =>
  .br (!((qA Y31).toBool)) (.call 9 [] [] fun Y32 =>
  .ret [D.bool ((qA Y32).toBool)])
  (.ret [D.bool false]))) [.bool true]:=by
   refine Aa r3 (Aa r4 ?_)
   simp only[Ag,Cm,Al,Cd]
   refine Ae (fun _=>Ks) (fun hne=>Aa (tot a g1) (Aa (tot c g3) ?_))
   simp only[Ag,Dc,H_]
   refine Aa (IE _ _) ?_
   simp only[Ag,Dc,H_]
   refine Aa (Gg _ _) ?_
   simp only[Ag,Az]
   refine Bu (fun _=>Ks) (fun h=> ?_)
   exact absurd (m2 (by simpa using h)) hne
 refine Aa r1 (Aa r2 ?_)
 simp only[Cm,Al,C0]
 refine Ae (fun hne=>Aa (tot a g1) ?_) (fun _=>tail)
 simp only[Ag,Dc,H_]
 refine Aa (Gg _ _) ?_
 simp only[Ag,Az]
 exact Bu (fun h=>absurd (m1 h) hne) (fun _=>tail)
end Go.Proofs.YtokkbgpgaheakaaGreat
