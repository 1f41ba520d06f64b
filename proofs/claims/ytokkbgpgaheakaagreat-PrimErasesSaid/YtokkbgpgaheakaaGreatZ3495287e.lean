/- Proved: lemmas for the law of this folder, part 3. No condition. -/
import Derived.Test.YtokkbgpgaheakaaGreatRows
import Derived.WalkKit
import Derived.WalkSpells
import Derived.WalkLawsBesides
import Derived.Lib.Hide
import Derived.Laws.CopyOwn
import Derived.Deep.QuietTactic
import Derived.BigQuiet
import Derived.Orders
import Derived.Defers
import Derived.Recover
import Derived.Test.YtokkbgpgaheakaaGreatProg
import Derived.KernelRfl
import Derived.ProofKit
import Derived.OpenShut
import Derived.Maps.OwnRows
import Derived.Maps.Views
import Derived.Deep.RegionHeld3
import Derived.Deep.AppendLies
import Derived.Test.YtokkbgpgaheakaaGreatZ99bd4a82
set_option linter.unusedSimpArgs false
set_option linter.unusedVariables false
set_option maxRecDepth 100000
open Array renaming getElem?_eq_getElem → Ap7, getElem?_eq_some_iff → Aqi, getD_eq_getD_getElem? → Aqo
open BitVec renaming ofNat → Ap5
open Bool renaming and_eq_true → Apt
open Classical renaming not_not → Apw
open Int renaming toNat → Apj, toNat_natCast → Apr, fdiv → Aqd
open Go.IntKind renaming wrap → Api, bits → Apv
open List renaming getElem?_eq_getElem → Apk, replicate → Apl, length_map → Apm, getD_eq_getElem?_getD → Apn, getElem?_eq_some_iff → Apo, length_cons → App, mem_of_getElem? → Apq, length_append → Apu, length_drop → Apy, length_take → Ap0, length_nil → Ap1, getElem?_map → Ap2, mem_cons → Ap4, append_nil → Ap6, append_assoc → Ap8, map_cons → Ap9, getElem?_append_left → Ap_, drop_eq_getElem_cons → Aqa, length_eq_zero_iff → Aqb, take_append_drop → Aqf, take_of_length_le → Aqh, range → Aqj, getElem_mem → Aql, getElem?_append_right → Aqn, length_replicate → Aqp, mem_cons_of_mem → Aqq, mem_append → Aqs, mem_map → Aqw, nil_append → Aqx
open Nat renaming le_refl → Apx, mul_le_mul_right → Ap3, mod_eq_of_lt → Aqc, mod_lt → Aqe, mul_comm → Aqg, lt_of_lt_of_le → Aqk, div_div_eq_div_mul → Aqm, pow_succ → Aqr, div_lt_iff_lt_mul → Aqu, zero_add → Aqv
open Option renaming map_eq_some_iff → Apz, bind_eq_some_iff → Aqt
open Option.some renaming injEq → Aps
namespace Go.Proofs.YtokkbgpgaheakaaGreat
open Go.RowKit
section
variable {P:Program} {md:Nat→FMode} {w0 w w':World} {N0 M0 M:Nat→Prop} {pv:Nat→Value} {β:Nat→Value} {a:Act} {n:Nat}
theorem Aay(hP:WfP P){fm:FMode}{fn:Func}{s:St}{vs:List Value}{ys:List D}{d bid:Nat}{x:Ex}(hx : ∀ id,x≠ .exit id)(hbid : ∀ k,k<fm.own.length→bid≠d+100000*k)(h:RS P md w0 (Dw fm vs) M (fun t=>vs.getD t undef) s β a w)(hk:(KP P md fm fn.params.toList fn.results.toList fn.resultTypes.toList x s).wp P md (fun zs=>zs=ys)) :
   (∀ d∈a.defers,∃ f vs,d = { target:= .fn (.func f) vs,args:= #[] } ∧ (md f).noop=true)∧∃ v,(results fn a.tmps).run P w = .ok v w∧∃ us β',PostA P md fm w0 M fn.params.toList fn.resultTypes.toList vs ys d bid (.returned v) w us β':=by
 have hk':(match M_ P md s fn.results.toList fn.resultTypes.toList,EL s (Gw P fn.params.toList fm) (if fm.back then fm.arg else none) with
   | some ys,some bs=>bif (fm.arg.isSome|| !fm.back)&&Qj P fn.resultTypes.toList fm.own&&AZ s fn.results.toList (if fm.back then fm.arg else none) fm.own then Tree.ret (ys++bs) else .fail
   | _,_=> .fail).wp P md (fun zs=>zs=ys):=by
   cases x with
   | exit id=>exact absurd rfl (hx id)
   | normal=>exact hk
   | ret=>exact hk
 clear hk
 split at hk'
 · rename_i ys' bs hys hbs
   cases hcond:((fm.arg.isSome|| !fm.back)&&Qj P fn.resultTypes.toList fm.own&&AZ s fn.results.toList (if fm.back then fm.arg else none) fm.own) with
   | false=>rw[hcond]at hk';exact hk'.elim
   | true =>
    rw[hcond]at hk'
    obtain rfl:ys'++bs=ys:=hk'
    simp only[Apt]at hcond
    obtain ⟨⟨hab,hoo⟩,hro⟩:=hcond
    obtain ⟨us,g1,g2,g3,g4,g5⟩:=Aax hP h hys
    have hdefs : ∀ d∈a.defers,∃ f vs,d = { target:= .fn (.func f) vs,args:= #[] } ∧ (md f).noop=true:=by
      intro d hd
      obtain ⟨i,hi⟩:=List.getElem?_of_mem hd
      have h1:=h.defs.1
      have hlt:=(Apo.1 hi).1
      rw[h1]at hlt
      obtain ⟨vs,e1,_,e2⟩:=h.defs.2 i _ d (Apk hlt) hi
      exact ⟨_,vs,e1,e2⟩
    refine ⟨hdefs,Lt us,AlF g1,us,?_⟩
    simp only[AZ,Apt,List.all_eq_true]at hro
    obtain ⟨⟨hnd,hbk⟩,hown⟩:=hro
    generalize hls0:Qy s fn.results.toList=ls0 at *
    have hrow : ∀ (k:Nat) (o:Nat×List Nat),fm.own[k]? = some o→(o.2 = []∨∃ j,o.2 = [j])∧∃ t ut y u l0 lo vo,fn.resultTypes.toList[o.1]? = some t∧ys'[o.1]? = some y∧us[o.1]? = some u∧ls0[o.1]? = some l0∧F9 l0 o.2=some lo∧Cb P t o.2=some ut∧conv P md s.look lo ut=some (y.path o.2)∧u.cells[Bj P t o.2]? = some vo ∧
        ((lo = .mt∧∃ A,vo = .slice A 0 0)∨∃ r e es,lo = .row r∧s.look r=some (.row e es true)∧(Du s.look ls0).count r=1∧vo=β r):=by
      intro k o ho
      have h2:=hown o (Apq ho)
      obtain ⟨l0,lo,hl0,hlo⟩ : ∃ l0 lo,ls0[o.1]? = some l0∧F9 l0 o.2=some lo:=by
        split at h2
        · rename_i hh;obtain ⟨l0,q1,q2⟩:=Aqt.1 hh;exact ⟨l0,_,q1,q2⟩
        · rename_i hh;obtain ⟨l0,q1,q2⟩:=Aqt.1 hh;exact ⟨l0,_,q1,q2⟩
        · cases h2
      have hp:o.2 = []∨∃ j,o.2 = [j]:=by
        match l0,h3:o.2,hlo with
        | _,[],_=>exact .inl rfl
        | .agg _ _,[j],_=>exact .inr ⟨j,rfl⟩
      have hlt:=(Apo.1 hl0).1
      have hl:ls0.length=fn.resultTypes.toList.length:=by rw[← hls0,Qy,Apm];exact g4
      have ht:=Apk (l:=fn.resultTypes.toList) (i:=o.1) (by omega)
      have hy:=Apk (l:=ys') (i:=o.1) (by omega)
      have hu:=Apk (l:=us) (i:=o.1) (by omega)
      obtain ⟨l,k1,k2,k3,k4⟩:=g5 o.1 _ _ _ ht hy hu
      rw[hl0]at k1
      injection k1 with k1
      subst k1
      obtain ⟨n1,n2,n3⟩:=Vt k3
      obtain ⟨hlc,_⟩:=Dr k4 n1 n2 n3
      obtain ⟨ut,u1,u2,u3⟩:=An1 hlo hlc k3
      rw[hl0,Option.bind_some,hlo]at h2
      split at h2
      · rename_i hh
        injection hh with hh
        subst hh
        cases u3 with
        | mt hc=>exact ⟨hp,_,ut,_,_,_,_,_,ht,hy,hu,hl0,hlo,u1,u2,by simpa using hc,.inl ⟨rfl,_,rfl⟩⟩
      · rename_i r hh
        injection hh with hh
        subst hh
        split at h2
        · rename_i e es hr
          cases u3 with
          | row _ hc=>exact ⟨hp,_,ut,_,_,_,_,_,ht,hy,hu,hl0,hlo,u1,u2,by simpa using hc e es true hr,.inr ⟨r,e,es,rfl,hr,by simpa using h2,rfl⟩⟩
        · cases h2
      · cases h2
    have hback:fm.back=true→∃ p es v,fm.arg=some p∧s.look p=some (.row (Gw P fn.params.toList fm) es true)∧bs = [.sl es]∧β p=vs.getD p undef∧p∉Du s.look ls0∧v=vs.getD p undef:=by
      intro hb
      rw[hb]at hbs hbk
      simp only[if_true]at hbs hbk
      cases ha:fm.arg with
      | none=>rw[ha,hb]at hab;simp at hab
      | some p =>
        rw[ha]at hbs hbk
        simp only[EL]at hbs
        split at hbs
        · rename_i q e' es hq hp
          cases hcc:(e' == Gw P fn.params.toList fm&&q == p&&s.pins.contains p) with
          | false=>rw[hcc]at hbs;cases hbs
          | true =>
            rw[hcc]at hbs
            simp only[Apt,beq_iff_eq]at hcc
            obtain ⟨⟨rfl,rfl⟩,hpin⟩:=hcc
            simp only[cond_true,Aps]at hbs
            have hv:=h.slots q
            rw[hq]at hv
            have h1:=J7 hv hp
            have h2:=h.pin q (by simpa [St.dp]using hpin)
            refine ⟨q,es,_,rfl,hp,hbs.symm,?_,by simpa using hbk,rfl⟩
            rw[← h1,h2]
        · cases hbs
    obtain ⟨β2,hβo,hβb⟩ : ∃ β2:Nat→Value,(∀ (k:Nat) (o:Nat×List Nat),fm.own[k]? = some o→β2 (d+100000*k)=(us.getD o.1 undef).cells.getD (Bj P (fn.resultTypes.toList.getD o.1 0) o.2) undef)∧β2 bid=vs.getD (fm.arg.getD 0) undef:=by
      refine ⟨fun q=>if q=bid then vs.getD (fm.arg.getD 0) undef else (us.getD ((fm.own.getD ((q-d) / 100000) (0,[])).1) undef).cells.getD (Bj P (fn.resultTypes.toList.getD ((fm.own.getD ((q-d) / 100000) (0,[])).1) 0) (fm.own.getD ((q-d) / 100000) (0,[])).2) undef,fun k o ho=> ?_,by simp⟩
      have hk:=(Apo.1 ho).1
      have hne : ¬ d+100000*k=bid:=fun e=>hbid k hk e.symm
      simp only[hne,if_false]
      rw[show (d+100000*k-d) / 100000=k by omega,show fm.own.getD k (0,[])=o by rw[Apn,ho];rfl]
    have hβv : ∀ (k:Nat) (o:Nat×List Nat) (t:Nat) (u vo:Value),fm.own[k]? = some o→fn.resultTypes.toList[o.1]? = some t→us[o.1]? = some u→u.cells[Bj P t o.2]? = some vo→β2 (d+100000*k)=vo:=by
      intro k o t u vo ho h1 h2 h3
      rw[hβo k o ho,show us.getD o.1 undef=u by rw[Apn,h2];rfl,show fn.resultTypes.toList.getD o.1 0=t by rw[Apn,h1];rfl,Aqo,h3];rfl
    refine ⟨β2,?_⟩
    have src : ∀ q b B,Ei P fm fn.params.toList fn.resultTypes.toList (ys'++bs) d bid q=some b→Bg (β2 q)=some B→∃ r kb,s.look r=some kb∧kb.live=true∧Bg (β r)=some B∧((∃ (k:Nat) (o:Nat×List Nat) (l0:L),fm.own[k]? = some o∧q=d+100000*k∧ls0[o.1]? = some l0∧F9 l0 o.2=some (.row r)∧(Du s.look ls0).count r=1)∨(q=bid∧fm.back=true∧fm.arg=some r∧r∉Du s.look ls0)):=by
      intro q b B hq hB
      rcases XI hq with ⟨k,o,ho,rfl,e,he,rfl⟩ | ⟨rfl,hb,rfl⟩
      · obtain ⟨_,t,ut,y,u,l0,lo,vo,h1,h2,h3,h4,h5,h6,h7,h8,h9⟩:=hrow k o ho
        rw[hβv k o t u vo ho h1 h3 h8]at hB
        rcases h9 with ⟨_,A,rfl⟩ | ⟨r,e',es,rfl,m2,m3,rfl⟩
        · cases A <;> simp[Bg]at hB
        · exact ⟨r,_,m2,rfl,hB,.inl ⟨k,o,l0,ho,rfl,h4,h5,m3⟩⟩
      · obtain ⟨p,es,v,h1,h2,h3,h4,h5,h6⟩:=hback hb
        rw[hβb,h1,Option.getD_some,← h4]at hB
        exact ⟨p,_,h2,rfl,hB,.inr ⟨rfl,hb,h1,h5⟩⟩
    have hM2 : ∀ b,As M (Ei P fm fn.params.toList fn.resultTypes.toList (ys'++bs) d bid) β2 b→As M s.look β b:=by
      rintro b (hb | ⟨q,k,hq,_,hB⟩)
      · exact .inl hb
      · obtain ⟨r,kb,h1,h2,h3,_⟩:=src q k b hq hB
        exact .inr ⟨r,kb,h1,h2,h3⟩
    have hysl : ∀ i,i<ys'.length→(ys'++bs).getD i .nil=ys'.getD i .nil:=by
      intro i hi
      rw[Apn,Ap_ hi,Apn]
    refine ⟨rfl,g2,h.stp,fun ls hls i l u hl hu=> ?_,fun r b hr=> ?_,fun r b B hr hB=> ?_,fun r q b c B hr hq hB hB'=> ?_,fun hb p v hp hv=> ?_⟩
    · have hi:i<fn.resultTypes.toList.length:=by rw[← g2];exact (Apo.1 hu).1
      have ht:=Apk hi
      obtain ⟨yi,hy⟩ : ∃ yi,ys'[i]? = some yi:=⟨_,Apk (by omega)⟩
      obtain ⟨l1,k1,k2,k3,k4⟩:=g5 i _ _ _ ht hy hu
      obtain ⟨n1,n2,n3⟩:=Vt k3
      obtain ⟨hlc,hs'⟩:=Dr k4 n1 n2 n3
      have hl0:(Eu P fn.resultTypes.toList (ys'++bs) 0)[i]? = some (B0 P fn.resultTypes.toList[i] yi):=by
        rw[Oo ht,Aqv,hysl i (by omega),Apn,hy,Option.getD_some]
      rcases LD (fun o ho=>by obtain ⟨k,hk⟩:=List.getElem?_of_mem ho;exact (hrow k o hk).1) hls i _ _ l ht hl0 hl with ⟨k,ho,rfl⟩ | ⟨hno,rfl⟩ | ⟨fs,ls1,zs,⟨j0,hj0⟩,hfs,hpo,rfl,hzl,hz⟩
      · obtain ⟨_,t,ut,y,u',l0,lo,vo,h1,h2,h3,h4,h5,h6,h7,h8,h9⟩:=hrow k _ ho
        simp only[F9,Aps]at h5
        subst h5
        rw[h4]at k1;injection k1 with k1;subst k1
        rw[hu]at h3;injection h3 with h3;subst h3
        have hag:l0.isAgg P=false:=by
          rcases h9 with ⟨rfl,_⟩ | ⟨r,e',es,rfl,_⟩ <;> rfl
        have hcs:=Gi hs' hag
        have hvo:vo=u:=by rw[hcs]at h8;simp[Bj]at h8;exact h8.symm
        subst hvo
        have hsl : ∃ A len cap,vo = .slice A len cap:=by
          rcases h9 with ⟨_,A,hA⟩ | ⟨r,e',es,m1,m2,m3,hA⟩
          · exact ⟨A,0,0,hA⟩
          · obtain ⟨A,cap,hv,_⟩:=(show RowV P md w _ e' es (β r) from h.blks r _ m2)
            exact ⟨A,_,cap,hA.trans hv⟩
        obtain ⟨A,len,cap,rfl⟩:=hsl
        exact D7 (by simp) (.row ⟨_,rfl,rfl⟩ (fun _ _ _ _=>by rw[hβv k _ t _ _ ho h1 hu h8];rfl)) ⟨rfl,rfl,Fh rfl⟩
      · have hrd:=Vu (fun _ _ h=>h) hM2 h.blks h.blt hlc k3 (fun r hr b B hb hB hm=>by
          rcases hm with hm | ⟨q,kq,hq,_,hqB⟩
          · exact h.M0own hb hB hm
          · obtain ⟨r',kb,s1,s2,s3,s4⟩:=src q kq B hq hqB
            have:=h.sep r r' b kb B hb s1 hB s3
            subst this
            rcases s4 with ⟨k,o,l0,ho,_,m1,m2,m3⟩ | ⟨_,_,_,m1⟩
            · have:=Vz (look:=s.look) k1 m1 (fun e=>hno o (Apq ho) e.symm) hr (Nb _ (Q6 m2 _ (by simp[L.rows])))
              omega
            · exact m1 (P8 (Apq k1) hr))
        have hsz:=FB hP k3 hlc hs' (Tk hrd)
        exact (M6 hP ⟨hrd,hsz.1,hsz.2⟩).1
      · obtain ⟨k0,hk0⟩:=List.getElem?_of_mem hj0
        obtain ⟨_,t,ut,y,u',l0,lo,vo,h1,h2,h3,h4,h5,h6,h7,h8,h9⟩:=hrow k0 _ hk0
        rw[h4]at k1;injection k1 with k1;subst k1
        match l0,h5 with
        | .agg t' ps,h5 =>
        have k3':Cm P s.look (.agg t' ps) fn.resultTypes.toList[i]=some yi:=k3
        simp only[Cm,hfs]at k3'
        split at k3'
        · rename_i hte
          have hte:t'=fn.resultTypes.toList[i]:=by simpa using hte
          simp only[Apz]at k3'
          obtain ⟨xs,hxs,hxe⟩:=k3'
          obtain ⟨c1,c2,c3⟩:=Vv hxs
          have hls1:ls1=Mi P fs yi 0:=by
            obtain ⟨⟨a',ha',_⟩,_⟩:=Cx hfs
            have hof:B0 P fn.resultTypes.toList[i] yi = .d fn.resultTypes.toList[i] yi:=by simp only[B0,ha']
            rw[hof]at hpo
            simp only[Hn,beq_self_eq_true,if_true,Aps]at hpo
            exact hpo.symm
          subst hls1
          rw[R_]at hzl
          cases hlc with
          | @agg _ fs' _ _ ht' hlen hh hzz =>
            rw[hte]at ht'
            rw[hfs]at ht'
            injection ht' with ht'
            subst ht'
            have hok:=(Cx hfs).2
            refine D7 (by simp) (.agg hfs hzl (fun j f z hf hzj=> ?_) (fun j f z hf hzj=> ?_)) ⟨?_,?_,hs'.ones⟩
            · rcases hz j z hzj with ⟨k,ho,rfl⟩ | ⟨hno,hex⟩
              · obtain ⟨_,t2,ut2,y2,u2,l2,lo2,vo2,a1,a2,a3,a4,a5,a6,a7,a8,a9⟩:=hrow k _ ho
                simp only at a1 a3
                have hu2:u2=u:=by rw[hu]at a3;injection a3 with a3;exact a3.symm
                subst hu2
                have hoff:Bj P t2 [j]=f.offset:=by
                  rw[ht]at a1;injection a1 with a1;subst a1
                  simp only[Bj,hfs,hf,Nat.add_zero]
                have hsl : ∃ A len cap,vo2 = .slice A len cap:=by
                  rcases a9 with ⟨_,A,hA⟩ | ⟨r,e',es,m1,m2,m3,hA⟩
                  · exact ⟨A,0,0,hA⟩
                  · obtain ⟨A,cap,hv,_⟩:=(show RowV P md w _ e' es (β r) from h.blks r _ m2)
                    exact ⟨A,_,cap,hA.trans hv⟩
                obtain ⟨A,len,cap,rfl⟩:=hsl
                have a8':u2.cells[f.offset+0]? = some (.slice A len cap):=by rw[← hoff];exact a8
                exact .row ⟨_,a8',rfl⟩ (fun _ _ _ _=>by rw[hβv k _ t2 _ _ ho a1 hu a8];exact a8')
              · rw[Pm hf,Aqv]at hex
                injection hex with hex
                subst hex
                have hj:j<fs.length:=(Apo.1 hf).1
                have hpj:=Apk (l:=ps) (i:=j) (by omega)
                have hdj:=Apk (l:=xs) (i:=j) (by rw[c2,Apm];exact hj)
                have hcj:=c3 j _ f.type _ hpj (by rw[Ap2,hf];rfl) hdj
                have hfld:yi.fld j=xs[j]'(by rw[c2,Apm];exact hj):=by rw[← hxe];simp[D.fld,D.fs,Apn,hdj]
                rw[hfld]
                refine Yx (t:= .ty f.type) (R1 (fun _ _ h=>h) hM2 (fun r e es lv hr=>h.blks r _ hr) (hh j f _ hf hpj) hcj (fun r hr b B hb hB hm=> ?_))
                rcases hm with hm | ⟨q,kq,hq,_,hqB⟩
                · exact h.M0own hb hB hm
                · obtain ⟨r',kb,s1,s2,s3,s4⟩:=src q kq B hq hqB
                  have:=h.sep r r' b kb B hb s1 hB s3
                  subst this
                  rcases s4 with ⟨k,o,l0,ho,_,m1,m2,m3⟩ | ⟨_,_,_,m1⟩
                  · by_cases e:o.1=i
                    · subst e
                      rw[h4]at m1;injection m1 with m1;subst m1
                      obtain ⟨o1,o2⟩:=o
                      match o2,m2 with
                      | [j'],m2 =>
                       simp only[F9]at m2
                       have hne:j≠j':=fun e'=>hno _ (Apq ho) (by rw[e'])
                       have:=FE (r:=r) hpj m2 hne hr (by simp[L.rows])
                       have h2:=FD (r:=r) (look:=s.look) h4
                       simp only[Dt,L.rows]at h2
                       omega
                    · have:=Vz (look:=s.look) h4 m1 (fun e'=>e e'.symm) (Nb _ (by simp only[L.rows];exact Ob hpj r hr)) (Nb _ (Q6 m2 _ (by simp[L.rows])))
                      omega
                  · exact m1 (P8 (Apq h4) (Nb _ (by simp only[L.rows];exact Ob hpj r hr)))
            · have hpos:=(Gh hok hf).1
              rcases hz j z hzj with ⟨k,ho,rfl⟩ | ⟨hno,hex⟩
              · exact ⟨by simp[L.size],by simp[L.size];exact hpos⟩
              · rw[Pm hf]at hex
                injection hex with hex
                subst hex
                have:=VQ (P:=P) (t:= .ty f.type) (x:=yi.fld (0+j))
                simp only[CT.size,Dj]at this
                omega
            · have:=hs'.size
              simp only[L.size]at this ⊢
              rw[this,hte]
            · exact hs'.agg
        · cases k3'
    · rcases XI hr with ⟨k,o,ho,rfl,e,he,rfl⟩ | ⟨rfl,hb,rfl⟩
      · obtain ⟨hp0,t,ut,y,u,l0,lo,vo,h1,h2,h3,h4,h5,h6,h7,h8,h9⟩:=hrow k o ho
        show RowV P md w _ e _ (β2 (d+100000*k))
        rw[hβv k o t u vo ho h1 h3 h8,hysl _ (Apo.1 h2).1,Apn,h2,Option.getD_some]
        have hte:B_ P ut=some e:=by
          unfold Ii at he
          rw[h1]at he
          simp only[h6]at he
          split at he
          · exact he
          · cases he
        rcases h9 with ⟨rfl,A,rfl⟩ | ⟨r,e',es,rfl,m2,m3,rfl⟩
        · simp only[conv,Cm,hte,Option.isSome_some,if_true,Aps]at h7
          rw[← h7]
          exact ⟨A,0,rfl,.inl ⟨rfl,rfl⟩⟩
        · simp only[conv,Cm,m2,hte]at h7
          split at h7
          · rename_i hee
            have:e=e':=by simpa using hee
            subst this
            injection h7 with h7
            rw[← h7]
            exact RowV.mono (h.blks r _ m2) (Apx _) (fun _ _ _=>rfl) (fun b hb _=>hM2 b hb) (fun _ _=>rfl)
          · cases h7
      · obtain ⟨p,es,v,h1,h2,h3,h4,h5,h6⟩:=hback hb
        show RowV P md w _ _ _ (β2 r)
        rw[hβb,h1,Option.getD_some,← h4]
        have:((ys'++bs).getD fn.resultTypes.toList.length .nil).els=es:=by
          rw[Apn,Aqn (by omega),h3,show fn.resultTypes.toList.length-ys'.length=0 by omega]
          rfl
        rw[this]
        exact RowV.mono (h.blks p _ h2) (Apx _) (fun _ _ _=>rfl) (fun b hb _=>hM2 b hb) (fun _ _=>rfl)
    · obtain ⟨r',kb,s1,s2,s3,_⟩:=src r b B hr hB
      exact h.own r' kb B s1 s3
    · obtain ⟨r1,k1,s1,s2,s3,s4⟩:=src r b B hr hB
      obtain ⟨r2,k2,t1,t2,t3,t4⟩:=src q c B hq hB'
      have:=h.sep r1 r2 k1 k2 B s1 t1 s3 t3
      subst this
      rcases s4 with ⟨k,o,l0,ho,rfl,m1,m2,m3⟩ | ⟨rfl,_,_,m1⟩ <;> rcases t4 with ⟨k',o',l0',ho',rfl,m1',m2',m3'⟩ | ⟨rfl,_,_,m1'⟩
      · by_cases e:o.1=o'.1
        · rw[e]at m1
          rw[m1']at m1;injection m1 with m1;subst m1
          have heq:o=o':=by
            obtain ⟨i1,p1⟩:=o
            obtain ⟨i2,p2⟩:=o'
            simp only at e m2 m2' m1'
            subst e
            have q1:=(hrow k _ ho).1
            have q2:=(hrow k' _ ho').1
            simp only at q1 q2
            rcases q1 with rfl | ⟨j,rfl⟩ <;> rcases q2 with rfl | ⟨j',rfl⟩
            · rfl
            · simp only[F9,Aps]at m2
              subst m2
              simp[F9]at m2'
            · simp only[F9,Aps]at m2'
              subst m2'
              simp[F9]at m2
            · match l0',m2,m2',m1' with
              | .agg _ ps,m2,m2',m1' =>
              simp only[F9]at m2 m2'
              by_cases ej:j=j'
              · rw[ej]
              · exfalso
                have:=FE (r:=r1) m2 m2' ej (by simp[L.rows]) (by simp[L.rows])
                have h2:=FD (r:=r1) (look:=s.look) m1'
                simp only[Dt,L.rows]at h2
                omega
          subst heq
          rw[VK hnd ho ho']
        · have:=Vz (r:=r1) (look:=s.look) m1 m1' e (Nb _ (Q6 m2 _ (by simp[L.rows]))) (Nb _ (Q6 m2' _ (by simp[L.rows])))
          omega
      · exact absurd (P8 (Apq m1) (Nb _ (Q6 m2 _ (by simp[L.rows])))) m1'
      · exact absurd (P8 (Apq m1') (Nb _ (Q6 m2' _ (by simp[L.rows])))) m1
      · rfl
    · rw[hβb,hp,Option.getD_some,Apn,hv];rfl
 · exact hk'.elim
def U5 (P : Program) (md : Nat → FMode) : Prop := ∀ f, (md f).noop = true → (∃ fn, P.funcs[f]? = some fn ∧ fn.body.isSome = true ∧ (fn.name == "runtime.NumGoroutine") = false) ∧ ∀ (vs : Array Value) (w : World), CallsD P f vs .returning w (fun e u' w' => (∃ v, e = .returned v) ∧ u' = .returning ∧ w' = w)
theorem IB(hN:U5 P md){fn:Func}{tmps:Array Value}{R:Ending→World→Prop}{v:Value}(hr:(results fn tmps).run P w = .ok v w)(hR:R (.returned v) w) : ∀ ds:List Deferred,(∀ d∈ds,∃ f vs,d = { target:= .fn (.func f) vs,args:= #[] } ∧ (md f).noop=true)→Leaves P fn tmps R ds .returning w
 | [],_=>⟨v,hr,hR⟩
 | d::ds,h=>by
  obtain ⟨f,vs,rfl,hno⟩:=h d (by simp)
  obtain ⟨⟨fn',f1,f2,f3⟩,hc⟩:=hN f hno
  refine leaves_cons (by simp) (f:=f) (args:=vs) (by simpa [invoke]using AaP (w:=w) (vs:=vs) f1 f2 f3) ((hc vs w).mono fun e u' w' hh=> ?_)
  obtain ⟨⟨v',rfl⟩,hu,hw⟩:=hh
  rw[hu,hw]
  exact IB hN hr hR ds (fun d hd=>h d (by simp[hd]))
theorem Af6(hP:WfP P)(hmix:P.follows .mixedOrders=true)(hN:U5 P md){orc:List (Nat×Orc)}{f:Nat}{cts:List CT}{xs ys:List D}(h:(Wk P md orc n f cts xs).wp P md (fun zs=>zs=ys)):Ec P md f cts xs ys:=by
 unfold Wk at h
 split at h
 · exact h.elim
 · rename_i fn hfn
   split at h
   · rename_i c s hb hs
     cases hc : (xs.length == fn.params.size + cts.length && fn.nfree == cts.length && fn.results.size == fn.resultTypes.size && fn.name != "runtime.NumGoroutine") with
     | false=>rw[hc]at h;exact h.elim
     | true =>
      rw[hc]at h
      simp only[Apt,bne_iff_ne,ne_eq]at hc
      refine ⟨fn,hfn,by rw[hb];rfl,by simpa using hc.2,fun w M vs d bid hbid hpre=>calls_of_wp_defers hfn hb ?_⟩
      obtain ⟨β,hR⟩:=AfQ hP hs hpre
      have hvl:vs.toArray.size=xs.length:=by rw[List.size_toArray,hpre.lenv,hpre.lenx]
      rw[hvl]
      refine AeX hP hmix c hR h (fun x s' β' a' w' hk h'=> ?_)
      cases x with
      | exit id=>exact (show False from hk).elim
      | normal =>
       obtain ⟨h1,v,h2,h3⟩:=Aay hP (fun id=>by simp) hbid h' hk
       exact IB hN h2 h3 _ h1
      | ret =>
       obtain ⟨h1,v,h2,h3⟩:=Aay hP (fun id=>by simp) hbid h' hk
       exact IB hN h2 h3 _ h1
   · exact h.elim
end
end Go.Proofs.YtokkbgpgaheakaaGreat
namespace Go.Proofs.YtokkbgpgaheakaaGreat
section
variable {P:Program} {md:Nat→FMode} {Φ Ψ:List D→Prop}
theorem Ay{c:Prop} [Decidable c] {t e:Tree}(h:c)(ht:t.wp P md Φ):(Tree.br (decide c) t e).wp P md Φ:=⟨fun _=>ht,fun hf=>absurd h (of_decide_eq_false hf)⟩
theorem Oz{c:Prop} [Decidable c] {t e:Tree}(h : ¬ c)(ht:e.wp P md Φ):(Tree.br (decide c) t e).wp P md Φ:=⟨fun hf=>absurd (of_decide_eq_true hf) h,fun _=>ht⟩
theorem Bi{b:Bool}{t e:Tree}(h:b=true)(ht:t.wp P md Φ):(Tree.br b t e).wp P md Φ:=⟨fun _=>ht,fun hf=>by rw[h]at hf;cases hf⟩
theorem Eo{b:Bool}{t e:Tree}(h:b=false)(ht:e.wp P md Φ):(Tree.br b t e).wp P md Φ:=⟨fun hf=>(by rw[h]at hf;cases hf),fun _=>ht⟩
theorem Cl{b:Bool}{t e:Tree}(h1:b=true→t.wp P md Φ)(h2:b=false→e.wp P md Φ):(Tree.br b t e).wp P md Φ:=⟨h1,h2⟩
theorem Ae{c:Prop} [Decidable c] {t e:Tree}(h1:c→t.wp P md Φ)(h2 : ¬ c→e.wp P md Φ):(Tree.br (decide c) t e).wp P md Φ:=⟨fun h=>h1 (of_decide_eq_true h),fun h=>h2 (of_decide_eq_false h)⟩
theorem Aa{f:Nat}{cts:List CT}{xs ys:List D}{k:List D→Tree}(hs:Ec P md f cts xs ys)(hk:(k ys).wp P md Φ):(Tree.call f cts xs k).wp P md Φ:=⟨ys,hs,hk⟩
theorem AcB{e:Bool}{t f:Tree}(h1:e=true→t.wp P md Φ)(h2:f.wp P md Φ):(Tree.amb e t f).wp P md Φ:=⟨h1,h2⟩
theorem Ac{ys:List D}(h:Φ ys):(Tree.ret ys).wp P md Φ:=h
theorem Tree.wp_mono : ∀ {t:Tree},t.wp P md Φ→(∀ ys,Φ ys→Ψ ys)→t.wp P md Ψ
 | .ret ys,h,hm=>hm ys h
 | .fail,h,_=>h.elim
 | .br b t e,h,hm=>⟨fun hb=>wp_mono (h.1 hb) hm,fun hb=>wp_mono (h.2 hb) hm⟩
 | .call f cts xs k,⟨ys,h1,h2⟩,hm=>⟨ys,h1,wp_mono h2 hm⟩
 | .amb e t f,h,hm=>⟨fun hb=>wp_mono (h.1 hb) hm,wp_mono h.2 hm⟩
end
def wfB(P:Program):Bool:=(Aqj P.types.size).all fun t=>Be P t||(P.underlying t).isNone||P.cellsOf t == 1
def Ac_(i:TypeInfo):Prop:=(∀ n u,i.desc≠ .named n u)∧((∃ fs,i.desc = .struct fs)∨(∃ n e,i.desc = .array n e)∨i.size=1)
theorem Akr{info:TypeId→Option TypeInfo}{d:TypeDesc}{i:TypeInfo}(h:Made.reckon info d=some i):Ac_ i:=by
 unfold Made.reckon at h
 cases d <;> simp only at h
 case pointer e =>
  simp only[Option.bind_eq_bind,Aqt]at h
  obtain ⟨i0,h0,h⟩:=h
  split at h
  · cases h
  · split at h
    · cases h
    · simp only[Aqt,Option.pure_def,Aps]at h
      obtain ⟨s,_,rfl⟩:=h
      exact ⟨by simp[Made.word],.inr (.inr rfl)⟩
  · simp only[Aqt,Option.pure_def,Aps]at h
    obtain ⟨s,_,rfl⟩:=h
    exact ⟨by simp[Made.word],.inr (.inr rfl)⟩
 case slice e =>
  simp only[Option.bind_eq_bind,Aqt,Option.pure_def,Aps]at h
  obtain ⟨i0,h0,s,_,rfl⟩:=h
  exact ⟨by simp[Made.word],.inr (.inr rfl)⟩
 case map k e =>
  simp only[Option.bind_eq_bind,Aqt,Option.pure_def,Aps]at h
  obtain ⟨i0,h0,s,_,i1,_,s1,_,rfl⟩:=h
  exact ⟨by simp[Made.word],.inr (.inr rfl)⟩
 case chan dir e =>
  simp only[Option.bind_eq_bind,Aqt,Option.pure_def,Aps]at h
  obtain ⟨i0,h0,s,_,rfl⟩:=h
  exact ⟨by simp[Made.word],.inr (.inr rfl)⟩
 case func ps rs v =>
  simp only[Option.bind_eq_bind,Aqt,Option.pure_def,Aps]at h
  obtain ⟨s,_,rfl⟩:=h
  exact ⟨by simp[Made.word],.inr (.inr rfl)⟩
 case array n e =>
  simp only[Option.bind_eq_bind,Aqt,Option.pure_def,Aps]at h
  obtain ⟨i0,h0,s,_,rfl⟩:=h
  exact ⟨by simp,.inr (.inl ⟨n,e,rfl⟩)⟩
 case struct fs =>
  unfold Made.reckonStruct at h
  simp only[Option.bind_eq_bind,Aqt]at h
  obtain ⟨r,_,h⟩:=h
  split at h <;> (simp only[Option.pure_def,Aps]at h;subst h;exact ⟨by simp,.inl ⟨_,rfl⟩⟩)
 all_goals cases h
theorem AoF{P:Program}(h:wfB P=true):WfP P:=by
 refine ⟨fun t ha hu=> ?_⟩
 rcases Nat.lt_or_ge t P.types.size with hlt | hge
 · have:=List.all_eq_true.1 h t (List.mem_range.2 hlt)
   simp only[Bool.or_eq_true,beq_iff_eq]at this
   rcases this with (h1 | h1) | h1
   · rw[ha]at h1;cases h1
   · rw[Option.isNone_iff_eq_none.1 h1]at hu;cases hu
   · exact h1
 · cases hi:P.info? t with
   | none=>simp[Program.underlying,hi]at hu
   | some i =>
    have hw:Ac_ i:=by
     have hi':Tables.info? _ t=some i:=hi
     unfold Tables.info? at hi'
     rw[if_neg (by show ¬ t<P.types.size;omega)]at hi'
     change (if t<P.types.size then P.types[t]? else (Made.decode (t-P.types.size)).bind (Made.reckon (Made.infoAt _ 99)))=some i at hi'
     rw[if_neg (by omega)]at hi'
     obtain ⟨d,_,hd⟩:=Aqt.1 hi'
     exact Akr hd
    have hun:P.underlying t=some i.desc:=by
     unfold Program.underlying
     rw[hi]
     split
     · rename_i heq;injection heq with heq;subst heq;exact absurd rfl (hw.1 _ _)
     · rename_i heq;injection heq with heq;subst heq;rfl
     · rename_i heq;cases heq
    rcases hw.2 with ⟨fs,hf⟩ | ⟨n,e,hf⟩ | hs
    · simp[Be,hun,hf]at ha
    · simp[Be,hun,hf]at ha
    · simp[Program.cellsOf,hi,hs]
abbrev qA(l:List D):D:=l.getD 0 D.nil
abbrev qB(l:List D):D:=l.getD 1 D.nil
abbrev qC(l:List D):D:=l.getD 2 D.nil
def S0:List (Nat×FMode)→Nat→FMode
 | [],_=> {}
 | (i,m)::r,f=>bif i == f then m else S0 r f
def Fx (P : Program) (f : Nat) : Prop := (∃ fn, P.funcs[f]? = some fn ∧ fn.body.isSome = true ∧ (fn.name == "runtime.NumGoroutine") = false) ∧ ∀ (vs : Array Value) (w : World), CallsD P f vs .returning w (fun e u' w' => (∃ v, e = .returned v) ∧ u' = .returning ∧ w' = w)
theorem UD : ∀ {l:List (Nat×FMode)} {f:Nat},(S0 l f).noop=true→∃ m,(f,m)∈l∧m.noop=true
 | [],f,h=>by cases h
 | (i,m)::r,f,h=>by
  simp only[S0]at h
  cases hi:(i == f) with
  | true =>
   rw[hi]at h
   have:i=f:=by simpa using hi
   subst this
   exact ⟨m,by simp,h⟩
  | false =>
   rw[hi]at h
   obtain ⟨m',h1,h2⟩:=UD h
   exact ⟨m',by simp[h1],h2⟩
theorem Aie{P:Program}{l:List (Nat×FMode)}(h : ∀ p∈l,p.2.noop=true→Fx P p.1):U5 P (S0 l):=fun f hf=>by
 obtain ⟨m,h1,h2⟩:=UD hf
 exact h _ h1 h2
def VM(P:Program)(f:Nat):Bool:=match P.funcs[f]? with
 | some fn=>(match fn.body with
  | some (.seq (.region _ ops false) (.cond (.tmp c) _ .skip))=>(match ops.toList with
   | [o0,o1]=>(match o0.op,o1.op,o0.dst,o1.dst,o0.guard,o1.guard with
    | .call cl,.binOp .neq ti (.tmp d') (.const .nilIface) _,some d,some c',none,none=>(match cl.callee,P.underlying ti with | .builtin .recover,some (.interface _)=>cl.args.isEmpty&&d == d'&&c == c'&&decide (d<fn.ntmps)&&decide (c<fn.ntmps)&& !(d == c) | _,_=>false)
    | _,_,_,_,_,_=>false)
   | _=>false)
  | _ => false) && fn.results.isEmpty && !(fn.name == "runtime.NumGoroutine")
 | none=>false
theorem Gz{P:Program}{f:Nat}(h:VM P f=true):Fx P f:=by
 unfold VM at h
 split at h
 · rename_i fn hfn
   simp only[Apt,Bool.not_eq_true']at h
   obtain ⟨⟨h,hres⟩,hname⟩:=h
   split at h
   · rename_i id ops c X hbody
     split at h
     · rename_i o0 o1 hops
       split at h
       · rename_i cl ti d' tj d c' e1 e2 e3 e4 e5 e6
         split at h
         · rename_i ms hcl hti
           simp only[Apt,beq_iff_eq,decide_eq_true_eq,Bool.not_eq_true',beq_eq_false_iff_ne]at h
           obtain ⟨⟨⟨⟨⟨hargs,rfl⟩,rfl⟩,hd⟩,hc⟩,hdc⟩:=h
           refine ⟨⟨fn,hfn,by rw[hbody];rfl,hname⟩,fun vs w=> ?_⟩
           obtain ⟨ops⟩:=ops
           obtain rfl:ops = [o0,o1]:=hops
           obtain ⟨d0,p0,t0,s0,a0,g0⟩:=o0
           obtain ⟨d1,p1,t1,s1,a1,g1⟩:=o1
           simp only at e1 e2 e3 e4 e5 e6
           subst e1 e2 e3 e4 e5 e6
           obtain ⟨ce,as_,ats⟩:=cl
           simp only at hcl hargs
           subst hcl
           have hargs':as_ = #[]:=by simpa using hargs
           subst hargs'
           refine callsD_of_wpS hfn hbody fun c₀ cs hu=> ?_
           apply wpS_seq
           apply wpS_region
           have hres':fn.results = #[]:=by simpa using hres
           have hle:fn.ntmps≤vs.size+(fn.ntmps-vs.size):=by omega
           have hd1:d<vs.size+(fn.ntmps-vs.size):=Aqk hd hle
           have hc1:c<vs.size+(fn.ntmps-vs.size):=Aqk hc hle
           have heq:(binOp BinOp.neq ti Value.nilIface Value.nilIface).run P w = .ok (.bool false) w:=by
            have h2:(Op.equal ti Value.nilIface Value.nilIface).run P w = .ok true w:=by
             unfold Op.equal
             obtain ⟨m,hm⟩ : ∃ m,Op.maxDepth=m+1:=⟨Op.maxDepth-1,by decide⟩
             rw[hm]
             simp only[Op.equalIn,Sem.run_bind,run_underlying hti,Result.andThen_ok]
             rfl
            show (do let b ← Op.equal ti Value.nilIface Value.nilIface;pure (Value.bool (!b)):Sem Value).run P w=_
            simp only[Sem.run_bind,h2,Result.andThen_ok,Sem.run_pure,Bool.not_true]
           simp[wpOpsS,go_sem,recoverD,hu,Exit.thenS,hd1,heq]
           refine wpS_cond (t:=false) (by simp[Act.eval,hc1]) ?_
           simp only[Bool.false_eq_true,if_false]
           refine wpS_of_wp (wp_skip ?_)
           cases c₀
           simp_all [bodyPostS,results]
         · cases h
       · cases h
     · cases h
   · cases h
 · cases h
open Go.ChangeShapes Go.WideShapes Go.ChangeAt Go.RowKit
def XG(P:Program)(Ts:List Nat)(t:Nat):Bool:=match P.underlying t with
 | some (.int _)=>true | some .bool=>true | some .string=>true
 | some (.slice e)=>Ts.contains e&&decide (0<P.cellsOf e)&&decide (0<P.bytesOf e)
 | some (.struct _)=>(match Dh P t with | some fs=>fs.all (fun f=>Ts.contains f.type) | none=>false)
 | _=>false
def JO(P:Program)(Ts:List Nat):Bool:=Ts.all (XG P Ts)
mutual
def D.wok:D→Prop
 | .sl es=>es.length≤140737488351232∧D.wokL es
 | .agg fs=>D.wokL fs
 | .str s=>s.size≤140737488351232
 | _=>True
def D.wokL:List D→Prop
 | []=>True
 | x::xs=>x.wok∧D.wokL xs
end
theorem Ac9 : ∀ {l:List D},D.wokL l↔∀ x∈l,x.wok
 | []=>by simp[D.wokL]
 | x::xs=>by simp[D.wokL,Ac9 (l:=xs)]
theorem Ac8{l:List D}(h : ∀ (i:Nat) (x:D),l[i]? = some x→x.wok):D.wokL l:=Ac9.2 fun x hx=>by
 obtain ⟨i,hi⟩:=List.getElem?_of_mem hx
 exact h i x hi
theorem UH{H:Type}{P:Program}{e:Nat} : ∀ {l:List (DataW H)} {d:DataW H} {z:Nat},d∈l→z∈d.weights P e→z∈DataW.weightsAll P e l
 | c::l,d,z,h,hz=>by
  simp only[DataW.weightsAll,Aqs]
  rcases Ap4.1 h with rfl | h
  · exact .inl hz
  · exact .inr (UH h hz)
section
variable {H:Type} {enc:TypeId×Value→H} {P:Program} {md:Nat→FMode} {W:World} {sp:Nat→Bool} {held:Bool}
theorem OP{w:World}{a:Addr}{k:Nat}{cs:List Value}(h:w.cells? 0 a k=some cs)(hk:0<k):a.spot=none∧a.block<w.heap.size∧cs.length=k∧∀ j,j<k→w.cell? ⟨a.block,a.off+j,none⟩=cs[j]? := by
 unfold World.cells? at h
 rw[if_pos (Nat.zero_le _)]at h
 have hl:=mapM_some_length h
 have hg:=fun j (hj:j<k)=>mapM_some_get h j j (by simp[hj])
 have h0:=hg 0 hk
 have hsp:a.spot=none:=by
   have hc:cs[0]? = some (cs[0]'(by simp at hl;omega)):=Apk _
   rw[hc]at h0
   simp only[Addr.add,if_true]at h0
   unfold World.cell? at h0
   split at h0
   · split at h0
     · cases h0
     · rename_i hn;simpa using hn
   · cases h0
 refine ⟨hsp,?_,by simpa using hl,fun j hj=> ?_⟩
 · have hc:cs[0]? = some (cs[0]'(by simp at hl;omega)):=Apk _
   rw[hc]at h0
   exact World.block_lt_of_cell? w _ h0
 · rw[← hg j hj]
   congr 1
   cases a
   simp only at hsp
   subst hsp
   unfold Addr.add
   split
   · rename_i hj0;subst hj0;rfl
   · rfl
theorem Ac1{k:IntKind}{n:Int}(h:(Lit.int k n).wf=true):k.min≤n∧n≤k.max:=by
 simpa [Lit.wf]using h
theorem IF{α:Type}{p:Nat→α→Prop} : ∀ (k:Nat),(∀ i,i<k→∃ y,p i y)→∃ ys:List α,ys.length=k∧∀ (i:Nat) (y:α),ys[i]? = some y→p i y
 | 0,_=>⟨[],rfl,fun i y h=>by simp at h⟩
 | k+1,h=>by
  obtain ⟨ys,h1,h2⟩:=IF k (fun i hi=>h i (by omega))
  obtain ⟨y,hy⟩:=h k (by omega)
  refine ⟨ys++[y],by simp[h1],fun i z hz=> ?_⟩
  rw[List.getElem?_append]at hz
  split at hz
  · exact h2 i z hz
  · rename_i hi
    have:i=k:=by
     have:=(Apo.1 hz).1
     simp at this
     omega
    subst this
    simp[h1]at hz
    subst hz
    exact hy
theorem MB{Ts:List Nat}(hT:JO P Ts=true) : ∀ (fuel t:Nat) (cs:List Value) (x:DataW H×List MemPlace),t∈Ts→DataW.trod enc P W 0 sp held fuel t cs=some x→∃ y,RdC P md W (fun _=>False) (.ty t) y (fun j=>cs[j]?)∧((∀ z∈x.1.weights P t,z≤reachBytes)→y.wok)
 | 0,t,cs,x,_,h=>by simp[DataW.trod]at h
 | fuel+1,t,cs,x,ht,h=>by
  have hp:=List.all_eq_true.1 hT t ht
  unfold XG at hp
  unfold DataW.trod at h
  split at h
  · rename_i b hu;exact ⟨.bool b,.bool hu rfl,fun _=>trivial⟩
  · rename_i k k' m hu
    split at h
    · rename_i hc
      obtain ⟨rfl,hw⟩:=hc
      exact ⟨.int m,.int hu (Ac1 hw).1 (Ac1 hw).2 rfl,fun _=>trivial⟩
    · cases h
  · rename_i hu;rw[hu]at hp;cases hp
  · rename_i s hu
    split at h
    · rename_i hl
      injection h with h
      subst h
      refine ⟨.str s,.str hu hl rfl,fun hw=> ?_⟩
      have:=hw s.data.toList.length (by simp[DataW.weights])
      exact this
    · cases h
  · rename_i hu;rw[hu]at hp;cases hp
  · rename_i hu;rw[hu]at hp;cases hp
  · rename_i e hu
    exact ⟨.sl [],.sl (A:=none) (cap:=0) (bk:=0) (off:=0) hu rfl (Apx _) (Nat.zero_le _) (fun hne=>absurd rfl hne) (fun i x hx=>by simp at hx),fun _=>⟨by simp,trivial⟩⟩
  · rename_i e a len cap hu
    rw[hu]at hp
    simp only[Apt,List.contains_iff_mem,decide_eq_true_eq]at hp
    obtain ⟨⟨he,hpos⟩,hby⟩:=hp
    simp only at h
    split at h
    · rename_i hc
      obtain ⟨_,h1,h2⟩:=hc
      obtain ⟨els,hel,hrest⟩:=Aqt.1 h
      obtain ⟨rst,_,hx1⟩:=Apz.1 hrest
      have hlen:els.length=len:=by simpa using mapM_some_length hel
      have hat : ∀ i,i<len→∃ ci xi,W.cells? 0 (a.add (i*P.cellsOf e)) (P.cellsOf e)=some ci∧DataW.trod enc P W 0 sp held fuel e ci=some xi∧xi∈els:=by
        intro i hi
        have:=mapM_some_get hel i i (by simp[hi])
        rw[Apk (by omega)]at this
        obtain ⟨ci,hci,hxi⟩:=Aqt.1 this
        exact ⟨ci,_,hci,hxi,Aql _⟩
      obtain ⟨ys,y1,y2⟩:=IF (p:=fun i y=>∃ ci,W.cells? 0 (a.add (i*P.cellsOf e)) (P.cellsOf e)=some ci∧RdC P md W (fun _=>False) (.ty e) y (fun j=>ci[j]?)∧((∀ z∈x.1.weights P t,z≤reachBytes)→y.wok)) len (fun i hi=>by
        obtain ⟨ci,xi,hci,hxi,hmem⟩:=hat i hi
        obtain ⟨y,hy,hyw⟩:=MB hT fuel e ci xi he hxi
        refine ⟨y,ci,hci,hy,fun hw=>hyw (fun z hz=>hw z ?_)⟩
        rw[← hx1]
        simp only[DataW.weights,hu,Ap4,Aqs]
        exact .inr (.inl (UH (Aqw.2 ⟨xi,hmem,rfl⟩) hz)))
      have hspot:0<len→a.spot=none∧a.block<W.heap.size:=by
        intro hl
        obtain ⟨ci,_,hci,_,_⟩:=hat 0 hl
        have:=OP hci hpos
        rw[Nat.zero_mul]at this
        simp only[Addr.add,if_true]at this
        exact ⟨this.1,this.2.1⟩
      have hadd : ∀ i,0<len→a.add i=⟨a.block,a.off+i,none⟩:=by
        intro i hl
        obtain ⟨hs,_⟩:=hspot hl
        cases a
        simp only at hs
        subst hs
        unfold Addr.add
        split
        · rename_i h0;subst h0;rfl
        · rfl
      refine ⟨.sl ys,.sl (A:=some a) (cap:=cap) (bk:=a.block) (off:=a.off) hu (by simp[y1]) (by omega) h2 (fun hne=> ?_) (fun i x hx=> ?_),fun hw=>⟨?_,Ac8 (fun i y hy=>(y2 i y hy).elim fun _ hh=>hh.2.2 hw)⟩⟩
      · have hl:0<len:=by rw[← y1];exact List.length_pos_iff.2 hne
        have:=hadd 0 hl
        simp only[Addr.add,if_true,Nat.add_zero]at this
        exact ⟨by rw[← this],fun h=>h,(hspot hl).2⟩
      · have hi:i<len:=by rw[← y1];exact (Apo.1 hx).1
        obtain ⟨ci,hci,hrd,_⟩:=y2 i x hx
        rw[hadd _ (by omega)]at hci
        obtain ⟨_,_,c3,c4⟩:=OP hci hpos
        refine hrd.congr (fun j hj=> ?_) hpos
        rw[← c4 j hj]
        simp only[Nat.add_assoc]
      · have:=hw ((els.length+rst.length)*P.bytesOf e) (by rw[← hx1];simp[DataW.weights,hu])
        have h3:ys.length*1≤(els.length+rst.length)*P.bytesOf e:=Nat.mul_le_mul (by omega) hby
        have h4:reachBytes=140737488351232:=rfl
        omega
    · cases h
  · rename_i cs _ csq fs hu
    rw[hu]at hp
    simp only at hp
    split at hp
    · rename_i fs' hfs
      split at h
      · rename_i hl
        obtain ⟨xs,hxs,hx1⟩:=Apz.1 h
        obtain ⟨⟨b,hb,hbl⟩,hok⟩:=Cx hfs
        rw[hu]at hb
        injection hb with hb
        injection hb with hb
        subst hb
        have hlen:xs.length=fs'.length:=by rw[mapM_some_length hxs,hbl]
        obtain ⟨ys,y1,y2⟩:=IF (p:=fun i y=>(∀ f,fs'[i]? = some f→RdC P md W (fun _=>False) (.ty f.type) y (fun j=>cs[f.offset+j]?))∧((∀ z∈x.1.weights P t,z≤reachBytes)→y.wok)) fs'.length (fun i hi=>by
         have hf:=Apk hi
         have hg:=mapM_some_get hxs i fs'[i] (by rw[hbl];exact hf)
         rw[Apk (by omega)]at hg
         have hft:(fs'[i]).type∈Ts:=by
           have:=List.all_eq_true.1 hp _ (Aql hi)
           simpa using this
         obtain ⟨y,hy,hyw⟩:=MB hT fuel _ _ _ hft hg
         refine ⟨y,fun f hf'=> ?_,fun hw=>hyw (fun z hz=>hw z ?_)⟩
         rotate_left
         · rw[← hx1]
           simp only[DataW.weights,hu]
           refine DataW.weights_mem_each (j:=i) (t:=fs'[i].type) (by rw[hbl,Ap2,hf];rfl) (d:=xs[i].1) (by rw[Ap2,Apk (by omega)];rfl) z hz
         rw[hf]at hf'
         injection hf' with hf'
         subst hf'
         obtain ⟨p1,p2⟩:=Gh hok hf
         refine hy.congr (fun j hj=> ?_) p1
         rw[List.getElem?_take,if_pos (show j<P.cellsOf _ from hj),List.getElem?_drop])
        exact ⟨.agg ys,.struct hfs y1 (fun i f d hf hd=>(y2 i d hd).1 f hf),fun hw=>Ac8 (fun i y hy=>(y2 i y hy).2 hw)⟩
      · cases h
    · cases hp
  all_goals first | (cases h;done) | (rename_i hu;rw[hu]at hp;cases hp)
theorem NM(hP:WfP P){Ts:List Nat}(hT:JO P Ts=true){r:Reach}{b0 t:Nat}{v:Value}{d:DataW H}{ps:List MemPlace}(ht:t∈Ts)(hval:Value.okWide P W r b0 t v)(h:DataW.Trod enc P W 0 sp held t v d ps) : ∃ y,Rd P md W (fun _=>False) (.ty t) y v∧((∀ z∈d.weights P t,z≤reachBytes)→y.wok):=by
 obtain ⟨fuel,hf⟩:=h
 obtain ⟨y,hy,hyw⟩:=MB (md:=md) hT fuel t _ _ ht hf
 have hy':RdC P md W (fun _=>False) (.ty t) y (fun j=>v.cells[j]?):=by simpa using hy
 have hu:=Tk hy'
 cases ha:Be P t with
 | true =>
  have : ∃ cs,v = .agg cs∧cs.size=P.cellsOf t:=by
   unfold Be at ha
   unfold Value.okWide at hval
   split at ha
   · rename_i hh;rw[hh]at hval;obtain ⟨cs,h1,h2,_⟩:=hval;exact ⟨cs,h1,h2⟩
   · rename_i hh;rw[hh]at hval;obtain ⟨cs,h1,h2,_⟩:=hval;exact ⟨cs,h1,h2⟩
   · cases ha
  obtain ⟨cs,rfl,hs⟩:=this
  exact ⟨y,⟨hy',hs,by simp[Dv,CT.isAgg,ha]⟩,hyw⟩
 | false =>
  have hv:Dv v=false:=by
   cases v <;> first | rfl | skip
   rename_i cs
   exfalso
   unfold Value.okWide at hval
   split at hval
   · rename_i hh;simp[Be,hh]at ha
   · rename_i hh;simp[Be,hh]at ha
   · cases hd:P.underlying t with
     | none=>rw[hd]at hu;cases hu
     | some de=>cases de <;> simp[Cell.okWide,Cell.ok,hd]at hval
  exact ⟨y,⟨hy',by rw[I0 hv];exact (hP.one t ha hu).symm,by simp[hv,CT.isAgg,ha]⟩,hyw⟩
end
end Go.Proofs.YtokkbgpgaheakaaGreat
namespace Go.Proofs.YtokkbgpgaheakaaGreat
open Go.ChangeShapes Go.WideShapes Go.ChangeAt Go.RowKit
theorem Agn:ownKnob Tryz.prog.godebug=none:=by kernel_rfl
theorem Agq:laidOutB Tryz.prog=true:=by kernel_rfl
section
variable {H:Type} {enc:TypeId×Value→H} {P:Program}
theorem Acc(hl:laidOutB P=true){W W':World}(hx:Ext W W')(sp:Nat→Bool) : ∀ (ts:List TypeId) (vs:List Value) (ds:List (DataW H)) (ps:List MemPlace),DataW.TrodAll enc P W 0 (fun _=>true) true ts vs ds ps →
  (∀ t∈ts,P.readableRec t=true∧t<P.types.size)→(∀ x∈ps,x.block<W.heap.size)→(∀ x∈ps,sp x.block=true)→DataW.TrodAll enc P W' 0 sp true ts vs ds ps
 | [],vs,ds,ps,h,_,_,_=>by
  obtain ⟨rfl,rfl,rfl⟩:=trodAll_nil h
  exact trodAll_mk0
 | t::ts,vs,ds,ps,h,hr,hlt,hsp=>by
  obtain ⟨v,vs',d,ds',p,q,rfl,rfl,rfl,h1,h2⟩:=trodAll_cons h
  have:=hr t (by simp)
  refine trodAll_cons_mk (WideElems.Trod_stays hl this.1 this.2 h1 (fun x hm=>Below.same hx (hlt x (by simp[hm]))) (fun x hm=>hsp x (by simp[hm]))) ?_
  exact Acc hl hx sp ts vs' ds' q h2 (fun t' ht=>hr t' (by simp[ht])) (fun x hm=>hlt x (by simp[hm])) (fun x hm=>hsp x (by simp[hm]))
theorem Ag0{f:Func}{s:ChangeSpec}(hl:laidOutB P=true){W W':World}{args:Array Value}{ds gs:List (DataW H)}{before:List MemPlace}{tb:TypeId}
   (hW:DataW.Whole enc P f.params.toList s.vars false W args.toList ds gs before) (hv:s.vars = []) (hrt:f.resultTypes = #[tb]) (htb:P.underlying tb=some .bool)
   (hfn:s.fn H ds = { results:=[.lit (.bool true)],args:=ds }) (hr:f.params.toList.all (fun t=>P.readableRec t&&decide (t<P.types.size))=true) (hx:Ext W W') :
   s.post enc P f false true false false W args (.bool true) W':=by
 have hW':=hW
 obtain ⟨p,q,hA,hV,rfl,hfz,hnd⟩:=hW
 rw[hv]at hV
 obtain ⟨rfl,rfl⟩:=trodVars_none hV
 have hlt : ∀ x∈p,x.block<W.heap.size:=fun x hm=>hW'.lt x (by simpa using hm)
 have hrr : ∀ t∈f.params.toList,P.readableRec t=true∧t<P.types.size:=fun t ht=>by
   have:=List.all_eq_true.1 hr t ht
   simpa using this
 have hold : ∀ x∈p++[],(fun b=>decide (b<W.heap.size)) x.block=true:=fun x hm=>by simpa using hlt x (by simpa using hm)
 have hres : ∀ (b:Nat) (sp:Nat→Bool) (hd:Bool),DataW.TrodAll enc P W' b sp hd f.resultTypes.toList ((Value.bool true).resultList f.resultTypes.size) (s.fn H (ds++[])).results []:=by
   intro b sp hd
   rw[hrt,Ap6,hfn]
   exact trodAll_mk1 (shut_bool htb _)
 have hargs : ∀ sp:Nat→Bool,(∀ x∈p++[],sp x.block=true)→DataW.TrodAll enc P W' 0 sp true f.params.toList args.toList (s.fn H (ds++[])).args p:=by
   intro sp hsp
   rw[Ap6,hfn]
   exact Acc hl hx sp _ _ _ _ hA hrr hlt (fun x hm=>hsp x (by simpa using hm))
 have hvars : ∀ sp:Nat→Bool,DataW.TrodVars enc P W' sp s.vars (s.fn H (ds++[])).vars []:=by
   intro sp
   rw[hv,Ap6,hfn];rfl
 refine ⟨ds,[],p++[],[],p,[],hW',hres _ _ _,hargs _ hold,hvars _,World.keptBut_mono (fun x hm=>⟨hm,?_⟩) (Below.frame hx (· ∈ p++[])),fun _=> ?_⟩
 · exact Or.inr (by simpa using hm)
 · refine ⟨ok_one hrt rfl (okWide_bool_mk htb _),_,_,([]++p)++[],⟨[]++p,[],trodAll_append (hargs (fun _=>true) (fun _ _=>rfl)) (hres _ _ _),hvars _,rfl,?_,?_⟩,?_⟩
   · intro b off hm
     have hin:MemPlace.cell b off∈p++[]:=by simpa using hm
     rw[hx.frozen (p:=⟨b,off,none⟩) (show b<W.heap.size from hlt (.cell b off) (by simpa using hin))]
     exact hfz b off hin
   · intro ha;cases ha
   · intro x hm _
     simpa using hm
end
end Go.Proofs.YtokkbgpgaheakaaGreat
