/- Proved: lemmas for the law of this folder, part 2. No condition. -/
import Derived.Test.YtokkbgpgaheakaaGreatRows
import Derived.WalkKit
import Derived.WalkSpells
import Derived.WalkLawsBesides
import Derived.Lib.Hide
import Derived.Laws.CopyOwn
import Derived.Deep.QuietTactic
import Derived.BigQuiet
import Derived.Orders
import Derived.Defers
import Derived.Recover
import Derived.Test.YtokkbgpgaheakaaGreatProg
import Derived.KernelRfl
import Derived.ProofKit
import Derived.OpenShut
import Derived.Maps.OwnRows
import Derived.Maps.Views
import Derived.Deep.RegionHeld3
import Derived.Deep.AppendLies
import Derived.Test.YtokkbgpgaheakaaGreatZ101c7c39
set_option linter.unusedSimpArgs false
set_option linter.unusedVariables false
set_option maxRecDepth 100000
open Array renaming getElem?_eq_getElem → Al3, getElem?_eq_some_iff → Amc, getD_eq_getD_getElem? → Amf
open BitVec renaming ofNat → Al0
open Bool renaming and_eq_true → Alp
open Classical renaming not_not → Alt
open Int renaming toNat → Alf, toNat_natCast → Aln, fdiv → Al8
open Go.IntKind renaming wrap → Ale, bits → Alq
open List renaming getElem?_eq_getElem → Alg, replicate → Alh, length_map → Ali, getElem?_eq_some_iff → Alj, getD_eq_getElem?_getD → Alk, length_cons → All, mem_of_getElem? → Alm, length_append → Alr, length_drop → Alu, length_take → Alw, mem_cons → Alx, getElem?_map → Aly, length_nil → Alz, append_nil → Al2, append_assoc → Al4, getElem?_append_left → Al5, drop_eq_getElem_cons → Al6, length_eq_zero_iff → Al7, take_append_drop → Ama, take_of_length_le → Amb, range → Amd, length_replicate → Amg, getElem_mem → Amj, map_cons → Aml, nil_append → Amo
open Nat renaming le_refl → Als, mul_le_mul_right → Al1, mod_lt → Al9, mod_eq_of_lt → Al_, lt_of_lt_of_le → Ame, mul_comm → Ami, pow_succ → Amk, div_lt_iff_lt_mul → Amm, zero_add → Amn
open Option renaming map_eq_some_iff → Alv, bind_eq_some_iff → Amh
open Option.some renaming injEq → Alo
namespace Go.Proofs.YtokkbgpgaheakaaGreat
open Go.RowKit
section
variable {P:Program} {md:Nat→FMode} {w0 w w':World} {N0 M0 M:Nat→Prop} {slot:Nat→L} {look lookR:Nat→Option Blk} {used:Nat→Prop} {ds:Dfs} {β:Nat→Value} {a:Act} {n:Nat}
theorem XJ{t e:Nat}{es:List D}{A:Option Addr}{k cap:Nat}(h:RdC P md w M (.ty t) (.sl es) (fun j=>(Value.slice A k cap).cells[j]?))(ht:P.underlying t=some (.slice e)):k=es.length∧k≤cap∧cap≤maxLen ∧
  ∃ bk off,(es≠[]→A=some ⟨bk,off,none⟩∧¬ M bk∧bk<w.heap.size)∧∀ (i:Nat) (x:D),es[i]? = some x→RdC P md w M (.ty e) x (fun j=>w.cell? ⟨bk,off+(i*P.cellsOf e+j),none⟩):=by
 cases h with
 | @sl _ e' _ _ A' cap' bk off ht' hc' g1 g2 hA hel =>
  have ht2:P.underlying t=some (.slice e'):=ht'
  rw[ht]at ht2
  injection ht2 with ht2
  injection ht2 with ht2
  subst ht2
  have hcc:Value.slice A k cap = .slice A' es.length cap':=by simpa [Value.cells]using hc'
  injection hcc with c1 c2 c3
  subst c1
  subst c3
  exact ⟨c2,by omega,g2,bk,off,hA,hel⟩
theorem CE(hP:WfP P){e:Nat}{es:List D}{bk off:Nat}(hp:0<P.cellsOf e)(hel : ∀ (i:Nat) (x:D),es[i]? = some x→RdC P md w M (.ty e) x (fun j=>w.cell? ⟨bk,off+(i*P.cellsOf e+j),none⟩)) :
   ∃ (news:List Value),news.length=es.length*P.cellsOf e∧(∀ (j:Nat) (v:Value),news[j]? = some v→w.cell? ((⟨bk,off,none⟩:Addr).add j)=some v)∧(∀ u∈news,u.oneCell'=true) ∧
     ∀ (i:Nat) (x:D),es[i]? = some x→RdC P md w M (.ty e) x (fun j=>news[i*P.cellsOf e+j]?):=by
 have hall : ∀ j,j<es.length*P.cellsOf e→∃ u,w.cell? ⟨bk,off+j,none⟩=some u∧u.oneCell'=true:=by
   intro j hj
   have hi:j / P.cellsOf e<es.length:=(Amm hp).2 hj
   obtain ⟨u,hu,h1⟩:=(hel (j / P.cellsOf e) es[j / P.cellsOf e] (Alg hi)).cells hP (j % P.cellsOf e) (Al9 _ hp)
   refine ⟨u,?_,h1⟩
   have:j / P.cellsOf e*P.cellsOf e+j % P.cellsOf e=j:=by rw[Ami];exact Nat.div_add_mod _ _
   rwa[this]at hu
 refine ⟨(Amd (es.length*P.cellsOf e)).map fun j=>(w.cell? ⟨bk,off+j,none⟩).getD undef,by simp,fun j v hv=> ?_,fun u hu=> ?_,fun i x hx=> ?_⟩
 · rw[Aly]at hv
   by_cases hj:j<es.length*P.cellsOf e
   · rw[List.getElem?_range hj]at hv
     obtain ⟨u,hu,_⟩:=hall j hj
     simp only[Option.map_some,hu,Option.getD_some,Alo]at hv
     rw[Addr.add_lit,hu,hv]
   · rw[List.getElem?_eq_none (by simpa using hj)]at hv;cases hv
 · obtain ⟨j,hj,rfl⟩:=List.mem_map.1 hu
   obtain ⟨u,hu,h1⟩:=hall j (List.mem_range.1 hj)
   rw[hu];exact h1
 · have hi:i<es.length:=(Alj.1 hx).1
   refine (hel i x hx).congr (fun j hj=> ?_) (by show 0<P.cellsOf e;exact hp)
   have hj':j<P.cellsOf e:=hj
   have hlt:i*P.cellsOf e+j<es.length*P.cellsOf e:=by
     have:(i+1)*P.cellsOf e≤es.length*P.cellsOf e:=Al1 _ hi
     rw[Nat.succ_mul]at this
     omega
   obtain ⟨u,hu,_⟩:=hall _ hlt
   rw[Aly,List.getElem?_range hlt]
   simp[hu]
theorem Aio{e:Nat}{es:List D}{A:Option Addr}{k c:Nat}(h:RowV P md w M e es (.slice A k c))(hne:es≠[]) : ∃ B cur,A=some ⟨B,0,none⟩∧0<c∧w.heap[B]? = some (.cells cur e (0,0))∧es.length≤c∧c≤maxLen∧cur.size=c*P.cellsOf e∧k=es.length ∧
   ∀ (i:Nat) (x:D),es[i]? = some x→RdC P md w M (.ty e) x (fun j=>w.cell? ⟨B,0+(i*P.cellsOf e+j),none⟩):=by
 obtain ⟨A',cap,hv,hh⟩:=h
 injection hv with e1 e2 e3
 subst e1
 subst e3
 rcases hh with ⟨rfl,_⟩ | ⟨B,cur,rfl,h0,h1,h2,h3,h4,h5,h6⟩
 · exact absurd rfl hne
 · refine ⟨B,cur,rfl,h0,h1,h2,h3,h4,e2,fun i x hx=> ?_⟩
   have:=h6 i x hx
   rwa[show (fun j=>cur[i*P.cellsOf e+j]?)=(fun j=>w.cell? ⟨B,0+(i*P.cellsOf e+j),none⟩) from funext fun j=>by rw[cell_of_row w B _ cur e (0,0) h1,Amn]]at this
theorem YI(hP:WfP P)(h:R P md w0 N0 M0 slot look used ds n β a w)(hsub : ∀ r b,lookR r=some b→look r=some b){t e:Nat}(ht:B3 P t=some e)(hp:0<P.cellsOf e){y:Operand}{xs:List D}(hxs:Ec P lookR t (Am slot y)=some xs)(hne:xs≠[]) :
  ∃ (bk off c2:Nat) (news:List Value),a.eval y = .slice (some ⟨bk,off,none⟩) xs.length c2∧xs.length≤c2∧news.length=xs.length*P.cellsOf e∧(∀ (j:Nat) (v:Value),news[j]? = some v→w.cell? ((⟨bk,off,none⟩:Addr).add j)=some v)∧(∀ u∈news,u.oneCell'=true) ∧
    (∀ (i:Nat) (x:D),xs[i]? = some x→RdC P md w (Ap M0 look β) (.ty e) x (fun j=>news[i*P.cellsOf e+j]?))∧(¬ Ap M0 look β bk∨∃ r,Am slot y = .row r∧A_ (β r)=some bk):=by
 have hu:=Dd ht
 obtain ⟨e',A2,c2,hu2,hv2,l1,l2⟩:=Nd h hsub hxs
 cases hy:Am slot y with
 | d t' z =>
  have hrd:=LV h hsub (M':=Ap M0 look β) (fun b hb=>hb) (by rw[hy];intro r hr;simp[L.rows]at hr) hxs
  rw[hv2]at hrd
  obtain ⟨_,_,_,bk,off,hA,hel⟩:=XJ hrd hu
  obtain ⟨rfl,hM,hb⟩:=hA hne
  obtain ⟨news,g1,g2,g3,g4⟩:=CE hP hp hel
  exact ⟨bk,off,c2,news,hv2,l1,g1,g2,g3,g4,.inl hM⟩
 | row r =>
  have hx:=By h y
  rw[hy]at hx hxs
  simp only[Ec]at hxs
  split at hxs
  · rename_i e2 es2 lv hr
    split at hxs
    · rename_i hc
      injection hxs with hxs
      subst hxs
      have hee:e2=e:=by
       have h3:B3 P t=some e2:=by simpa using hc
       rw[ht]at h3
       injection h3 with h3
       exact h3.symm
      subst hee
      have hlk:=hsub _ _ hr
      have vx:=Im hx hlk
      have hrow:RowV P md w (Ap M0 look β) e2 es2 (β r):=h.blks r _ hlk
      rw[← vx,hv2]at hrow
      obtain ⟨B,cur,rfl,q0,q1,q2,q3,q4,q5,hel⟩:=Aio hrow hne
      obtain ⟨news,g1,g2,g3,g4⟩:=CE hP hp hel
      refine ⟨B,0,c2,news,hv2,l1,g1,g2,g3,g4,.inr ⟨r,rfl,?_⟩⟩
      rw[← vx,hv2]
      simp[A_]
      omega
    · cases hxs
  · cases hxs
 | mt =>
  rw[hy]at hxs
  simp[Ec]at hxs
  exact absurd hxs.2 hne
 | _=>rw[hy]at hxs;simp[Ec]at hxs
theorem Aiu{t e:Nat}(ht:P.underlying t=some (.slice e))(hp:0<P.cellsOf e)(ty:TypeId){A A2:Option Addr}{k c c2:Nat}(hk:k≤c):(Builtin.append_ #[t,t] ty #[.slice A k c,.slice A2 0 c2]).run P w = .ok (.slice A k c) w:=by
 obtain ⟨i,hi,hs⟩:=NN hp
 cases A <;> cases A2 <;> simp[Builtin.append_,run_underlying ht,sizeOf,typeInfo,hi,Builtin.lenOf,Builtin.firstCells,loadCells,loadCellsFrom,hk,storeCells]
theorem LU(w:World)(o:Obj):Ext w (w.drew.alloc o):=((Ext.refl w).drew).alloc o
theorem Ait{t e:Nat}(ht:P.underlying t=some (.slice e))(hp:0<P.cellsOf e)(hby:P.bytesOf e≤65536)(hz:(Fp P e).isSome=true)(ty:TypeId){A:Option Addr}{bk off m c:Nat}{news:List Value}(hl:news.length=m*P.cellsOf e)(hnews : ∀ (j:Nat) (v:Value),news[j]? = some v→w.cell? ((⟨bk,off,none⟩:Addr).add j)=some v)(hm:0<m)(hmb:m≤Aj) :
  ∃ cur cap,(Builtin.append_ #[t,t] ty #[.slice A 0 0,.slice (some ⟨bk,off,none⟩) m c]).run P w = .ok (.slice (some ⟨w.heap.size,0,none⟩) m cap) (w.drew.alloc (.cells cur e))∧m≤cap∧cap≤maxLen∧cur.size=cap*P.cellsOf e∧∀ j,j<news.length→cur[j]? = news[j]? := by
 obtain ⟨z,hz⟩:=Option.isSome_iff_exists.1 hz
 obtain ⟨i,v,hi,hv,c1,c2,c3,c4,c5⟩:=O_ hz
 have hsz:i.size=P.cellsOf e:=by simp[Program.cellsOf,hi]
 have hb:i.bytes≤65536:=by simpa [Program.bytesOf,hi]using hby
 unfold Aj at hmb
 have hprod:m*i.bytes≤1073741824*65536:=Nat.mul_le_mul hmb hb
 have hge:=grownCap_ge w m 0 e
 have hle:=grownCap_le_maxLen w m 0 e (by unfold maxLen;omega)
 have hcur:(news.toArray++Builtin.zeroCells v.cells (grownCap w m 0 e-m)).size=grownCap w m 0 e*P.cellsOf e:=by
  simp only[Array.size_append,List.size_toArray,size_zeroCells,c1,hl,← Nat.add_mul]
  congr 1
  omega
 have hat : ∀ j,j<news.length→(news.toArray++Builtin.zeroCells v.cells (grownCap w m 0 e-m))[j]? = news[j]? := by
  intro j hj
  rw[Array.getElem?_append_left (by simpa using hj)]
  simp
 cases A with
 | none =>
  have hr:=run_append_nil (P:=P) w t ty e i v ht hi hv ⟨bk,off,none⟩ m c news (by rw[hsz];exact hl) hnews (by omega) (by omega) (by omega)
  exact ⟨_,_,hr,hge,hle,hcur,hat⟩
 | some b =>
  have hr:=run_append_grow (P:=P) w t ty e i v ht hi hv b 0 0 [] (by simp) (by simp) ⟨bk,off,none⟩ m c news (by rw[hsz];exact hl) hnews (by omega) (by omega) (by rw[Amn,nextslicecap_zero (by omega)];omega)
  have e0:([]:List Value).toArray = #[]:=rfl
  rw[e0]at hr
  simp only[Amn,Array.empty_append]at hr
  exact ⟨_,_,hr,hge,hle,hcur,hat⟩
theorem Aaw(h:R P md w0 N0 M0 slot look used ds n β a w){r d e:Nat}{es0 es':List D}(hr:look r=some (.row e es0 true))(hd : ¬ used d){v':Value}(hst:Stp (fun x=>A_ (β r)=some x) w w')
   (hv : ∀ B,A_ v'=some B→(A_ (β r)=some B∨w.heap.size≤B)∧B<w'.heap.size) (hrow:RowN P md w w' (Ap M0 look β) e es' v') :
   B8 P md w0 N0 M0 slot look used ds n a (.row d) [(r,none),(d,some (.row e es' true))] v' w':=by
 have hsz:=h.stp.size
 have hdr:d≠r:=fun e=>hd (e▸(h.usedB r _ hr).1)
 have hne : ∀ q,used q→q≠d:=fun q hq e=>hd (e▸hq)
 have hM : ∀ b,Ap M0 (Au (Au look r none) d (some (.row e es' true))) (Au β d v') b→b<w.heap.size→Ap M0 look β b:=by
   intro b hb hlt
   rcases hb with hb | ⟨q,k,hq,hk,hB⟩
   · exact .inl hb
   · by_cases e:q=d
     · subst e
       rw[Bz]at hB
       rcases (hv b hB).1 with h1 | h1
       · exact .inr ⟨r,_,hr,rfl,h1⟩
       · omega
     · rw[Bo _ _ e]at hq hB
       by_cases e2:q=r
       · subst e2;rw[Bz]at hq;cases hq
       · rw[Bo _ _ e2]at hq;exact .inr ⟨q,k,hq,hk,hB⟩
 have hlive : ∀ b,¬ Ap M0 look β b→b<w.heap.size→w'.heap[b]? = w.heap[b]? := fun b hn hlt=>hst.block b hlt (fun hb=>hn (.inr ⟨r,_,hr,rfl,hb⟩))
 have hR:R P md w0 N0 M0 slot (Au (Au look r none) d (some (.row e es' true))) (fun q=>used q∨q=d) ds n (Au β d v') a w':=by
   refine h.step _ hst (fun x hx=>⟨r,_,hr,rfl,hx⟩) (fun q hq k hk=> ?_) (fun q k hq=> ?_) hM (fun q1 q2 k1 k2 B h1 h2 h3 h4=> ?_) (fun _ hu=> .inl hu)
   · rw[Bo _ _ (hne q hq)]at hk ⊢
     by_cases e2:q=r
     · subst e2;rw[Bz]at hk;cases hk
     · rw[Bo _ _ e2]at hk;exact ⟨k,hk,likeB.refl _,rfl⟩
   · by_cases e:q=d
     · subst e
       rw[Bz]at hq
       injection hq with hq
       subst hq
       refine .inr ⟨?_,by intro x hx;simp[Blk.ids]at hx,.inr rfl,fun B hB=> ?_⟩
       · show RowV P md w' _ _ es' (Au β q v' q)
         rw[Bz]
         exact hrow.row hst.size hlive hM
       · rw[Bz]at hB
         obtain ⟨g1,g2⟩:=hv B hB
         refine ⟨?_,g2⟩
         rcases g1 with g1 | g1
         · exact (h.own r _ B hr g1).1
         · exact .inl (by omega)
     · rw[Bo _ _ e]at hq
       by_cases e2:q=r
       · subst e2;rw[Bz]at hq;cases hq
       · rw[Bo _ _ e2]at hq
         exact .inl ⟨hq,Bo _ _ e,fun B hB hB'=>e2 (h.sep q r k _ B hq hr hB hB')⟩
   · have g : ∀ q k,Au (Au look r none) d (some (.row e es' true)) q=some k→q≠d→look q=some k∧q≠r:=fun q k hq hqd=>by
       rw[Bo _ _ hqd]at hq
       by_cases e2:q=r
       · subst e2;rw[Bz]at hq;cases hq
       · rw[Bo _ _ e2]at hq;exact ⟨hq,e2⟩
     have gd : ∀ q k,look q=some k→q≠r→q≠d→∀ B,A_ v'=some B→A_ (β q)=some B→False:=by
       intro q k hq hqr hqd B hB hB2
       rcases (hv B hB).1 with g1 | g1
       · exact hqr (h.sep q r k _ B hq hr hB2 g1)
       · have:=(h.own q k B hq hB2).2;omega
     by_cases e1:q1=d <;> by_cases e2:q2=d
     · rw[e1,e2]
     · subst e1
       rw[Bz]at h3
       rw[Bo _ _ e2]at h4
       obtain ⟨g1,g2⟩:=g q2 k2 h2 e2
       exact (gd q2 k2 g1 g2 e2 B h3 h4).elim
     · subst e2
       rw[Bz]at h4
       rw[Bo _ _ e1]at h3
       obtain ⟨g1,g2⟩:=g q1 k1 h1 e1
       exact (gd q1 k1 g1 g2 e1 B h4 h3).elim
     · rw[Bo _ _ e1]at h3
       rw[Bo _ _ e2]at h4
       exact h.sep q1 q2 k1 k2 B (g q1 k1 h1 e1).1 (g q2 k2 h2 e2).1 h3 h4
 refine ⟨Au β d v',hR.weak (fun q hq=> ?_),WC (es:=es') (e:=e) (Bz _ _ _) ?_,fun q hq=> ?_⟩
 · rcases hq with hq | rfl
   · exact .inl hq
   · exact .inr ⟨.row e es' true,by simp⟩
 · obtain ⟨A,cap,rfl,_⟩:=hrow;exact ⟨_,_,_,rfl⟩
 · simp only[L.ids,List.mem_singleton]at hq
   subst hq
   exact .inr ⟨.row e es' true,by simp⟩
theorem VX{es xs:List D}{m sz:Nat}{cur:Array Value}{cells:List Value}(h : ∀ j,j<cells.length→cur[j]? = cells[j]?)(hl:cells.length=m*sz){i j:Nat}(hi:i<m)(hj:j<sz):cur[i*sz+j]? = cells[i*sz+j]? := by
 refine h _ ?_
 rw[hl]
 have:(i+1)*sz≤m*sz:=Al1 _ hi
 rw[Nat.succ_mul]at this
 omega
theorem JL(hP:WfP P)(h:R P md w0 N0 M0 slot look used ds n β a w)(hsub : ∀ r b,lookR r=some b→look r=some b){t e:Nat}(ht:B3 P t=some e)(hok:Ga P e=true)(hz:(Fp P e).isSome=true)(ty:TypeId){y:Operand}{xs:List D}(hxs:Ec P lookR t (Am slot y)=some xs){A:Option Addr}{es:List D}{c:Nat}
   (hrow:RowV P md w (Ap M0 look β) e es (.slice A es.length c)) (hlen:es.length+xs.length≤Aj) :
   ∃ v' w',(Builtin.append_ #[t,t] ty #[.slice A es.length c,a.eval y]).run P w = .ok v' w'∧Stp (fun x=>A_ (.slice A es.length c)=some x) w w'∧(∀ B,A_ v'=some B→(A_ (.slice A es.length c)=some B∨w.heap.size≤B)∧B<w'.heap.size)∧RowN P md w w' (Ap M0 look β) e (es++xs) v':=by
 have hu:=Dd ht
 have hok':=hok
 simp only[Ga,Alp,decide_eq_true_eq]at hok
 obtain ⟨hby,hp⟩:=hok
 obtain ⟨e',A2,c2,hu2,hv2,l1,l2⟩:=Nd h hsub hxs
 have hlc:es.length≤c:=by
   obtain ⟨A',cap,hv,hh⟩:=hrow
   injection hv with e1 e2 e3
   subst e3
   rcases hh with ⟨rfl,rfl⟩ | ⟨B,cur,_,_,_,g,_⟩
   · exact Als _
   · exact g
 by_cases hx0:xs = []
 · subst hx0
   simp only[Alz]at hv2
   refine ⟨_,w,by rw[hv2];exact Aiu hu hp ty hlc,Stp.refl _ _,fun B hB=>⟨.inl hB,?_⟩,?_⟩
   · obtain ⟨A',cap,hv,hh⟩:=hrow
     injection hv with e1 e2 e3
     subst e1
     subst e3
     rcases hh with ⟨_,rfl⟩ | ⟨B',cur,rfl,g0,g1,_⟩
     · simp only[A_]at hB;cases A <;> simp at hB
     · simp only[A_]at hB
       split at hB
       · cases hB
       · injection hB with hB;subst hB;exact (Amc.1 g1).1
   · rw[Al2]
     obtain ⟨A',cap,hv,hh⟩:=hrow
     exact ⟨A',cap,hv,hh⟩
 · obtain ⟨bk,off,c2',news,s1,s2,s3,s4,s5,s6,s7⟩:=YI hP h hsub ht hp hxs hx0
   have hm:0<xs.length:=List.length_pos_iff.2 hx0
   by_cases hc0:c=0
   ·
     have he0:es = []:=List.eq_nil_of_length_eq_zero (by omega)
     subst he0
     subst hc0
     obtain ⟨cur,cap,r1,r2,r3,r4,r5⟩:=Ait (w:=w) (A:=A) (c:=c2') hu hp hby hz ty s3 s4 hm (by simpa using hlen)
     refine ⟨_,_,by rw[s1];exact r1,Stp.of_ext (LU w _),fun B hB=> ?_,⟨_,cap,by simp,.inr ⟨w.heap.size,cur,rfl,by omega,heap_alloc_new w.drew _,by simpa using r2,r3,r4,hp,fun i x hx=> ?_⟩⟩⟩
     · simp only[A_]at hB
       split at hB
       · cases hB
       · injection hB with hB;subst hB;exact ⟨.inr (Als _),by simp⟩
     · simp only[Amo]at hx
       refine (s6 i x hx).congr (fun j hj=> ?_) (by show 0<P.cellsOf e;exact hp)
       exact VX (es:=[]) (xs:=[]) r5 s3 (Alj.1 hx).1 hj
   · obtain ⟨A',cap,hv,hh⟩:=hrow
     injection hv with e1 e2 e3
     subst e1
     subst e3
     rcases hh with ⟨_,h0⟩ | ⟨g,cur,rfl,g0,g1,g2,g3,g4,g5,g6⟩
     · exact absurd h0 hc0
     · obtain ⟨z,hz'⟩:=Option.isSome_iff_exists.1 hz
       obtain ⟨i,zv,hi,hzv,c1,_⟩:=O_ hz'
       have hsz:i.size=P.cellsOf e:=by simp[Program.cellsOf,hi]
       have hb:i.bytes≤65536:=by simpa [Program.bytesOf,hi]using hby
       have hcur:es.length*P.cellsOf e≤cur.size:=by rw[g4];exact Al1 _ g2
       unfold Aj at hlen
       have hprod:(es.length+xs.length)*i.bytes≤1073741824*65536:=Nat.mul_le_mul hlen hb
       have hoB:A_ (.slice (some ⟨g,0,none⟩) es.length c)=some g:=by simp[A_];omega
       have htl:(cur.toList.take (es.length*P.cellsOf e)).length=es.length*P.cellsOf e:=by simp;omega
       have hfin : ∀ (cur':Array Value),(∀ j,j<(cur.toList.take (es.length*P.cellsOf e)++news).length→cur'[j]? = (cur.toList.take (es.length*P.cellsOf e)++news)[j]?)→∀ (q:Nat) (x:D),(es++xs)[q]? = some x→RdC P md w (Ap M0 look β) (.ty e) x (fun j=>cur'[q*P.cellsOf e+j]?):=by
         intro cur' hcells q x hx
         have hl2:(cur.toList.take (es.length*P.cellsOf e)++news).length=(es.length+xs.length)*P.cellsOf e:=by rw[Alr,htl,s3,Nat.add_mul]
         have hqlt:q<es.length+xs.length:=by have:=(Alj.1 hx).1;simpa using this
         have hat : ∀ j,j<P.cellsOf e→cur'[q*P.cellsOf e+j]? = (cur.toList.take (es.length*P.cellsOf e)++news)[q*P.cellsOf e+j]? := fun j hj=>VX (es:=[]) (xs:=[]) hcells hl2 hqlt hj
         by_cases hq:q<es.length
         · rw[Al5 hq]at hx
           refine (g6 q x hx).congr (fun j hj=> ?_) (by show 0<P.cellsOf e;exact hp)
           have hj':j<P.cellsOf e:=hj
           have hlt:q*P.cellsOf e+j<es.length*P.cellsOf e:=by
             have:(q+1)*P.cellsOf e≤es.length*P.cellsOf e:=Al1 _ hq
             rw[Nat.succ_mul]at this
             omega
           rw[hat j hj',Al5 (by omega),List.getElem?_take_of_lt hlt]
           simp
         · rw[List.getElem?_append_right (by omega)]at hx
           refine (s6 (q-es.length) x hx).congr (fun j hj=> ?_) (by show 0<P.cellsOf e;exact hp)
           have hj':j<P.cellsOf e:=hj
           have hmul:es.length*P.cellsOf e≤q*P.cellsOf e:=Al1 _ (by omega)
           rw[hat j hj',List.getElem?_append_right (by omega),htl,Nat.sub_mul]
           congr 1
           omega
       by_cases hroom:es.length+xs.length≤c
       · have hfit:es.length*i.size+news.length≤cur.size:=by rw[hsz,s3,g4,← Nat.add_mul];exact Al1 _ hroom
         have hr:=run_append_room (P:=P) w t ty e i hu hi g es.length c cur g1 ⟨bk,off,none⟩ xs.length c2' news (by rw[hsz];exact s3) s4 s5 hroom hfit
         rw[hsz]at hr hfit
         refine ⟨_,_,by rw[s1];exact hr,by rw[hoB];exact Zu w g _,fun B hB=> ?_,⟨_,c,by simp,.inr ⟨g,_,rfl,g0,setRow_heap w g cur _ e _ g1,by simpa using hroom,g3,?_,hp,hfin _ ?_⟩⟩⟩
         · simp only[A_]at hB
           split at hB
           · cases hB
           · injection hB with hB
             subst hB
             exact ⟨.inl hoB,by simpa using (Amc.1 g1).1⟩
         · simp;omega
         · intro j hj
           simp only[List.getElem?_toArray]
           rw[Al5 hj]
       · have hr:=run_append_grow (P:=P) w t ty e i zv hu hi hzv ⟨g,0,none⟩ es.length c (cur.toList.take (es.length*P.cellsOf e)) (by rw[htl,hsz]) (fun j v hv=>by
           rw[Addr.add_lit,cell_of_row w g _ cur e (0,0) g1]
           rw[List.getElem?_take]at hv
           split at hv
           · simpa using hv
           · cases hv) ⟨bk,off,none⟩ xs.length c2' news (by rw[hsz];exact s3) s4 (by omega) (by omega) ?_
         · have hge:=grownCap_ge w (es.length+xs.length) c e
           have hle:=grownCap_le_maxLen w (es.length+xs.length) c e (by unfold maxLen;omega)
           refine ⟨_,_,by rw[s1];exact hr,Stp.of_ext (LU w _),fun B hB=> ?_,⟨_,_,by simp,.inr ⟨w.heap.size,_,rfl,by omega,heap_alloc_new w.drew _,by simpa using hge,hle,?_,hp,hfin _ ?_⟩⟩⟩
           · simp only[A_]at hB
             split at hB
             · cases hB
             · injection hB with hB;subst hB;exact ⟨.inr (Als _),by simp⟩
           · simp only[Array.size_append,List.size_toArray,size_zeroCells,c1,s3,htl,← Nat.add_mul]
             congr 1
             omega
           · intro j hj
             rw[Array.getElem?_append_left (by simpa using hj)]
             simp
         · have hn:Builtin.nextslicecap (es.length+xs.length) c≤2*(es.length+xs.length):=nextslicecap_le (by omega)
           have:Builtin.nextslicecap (es.length+xs.length) c*i.bytes≤(2*1073741824)*65536:=Nat.mul_le_mul (by omega) hb
           omega
theorem JK{o:Oper}{c:Call}{x y:Operand}(ho:o.op = .call c)(hc:c.callee = .builtin .append)(hargs:c.args.toList = [x,y])(h2:c.argTypes.size=2)(h3:c.argTypes.getD 1 0=c.argTypes.getD 0 0){v:Value}(hr:(Builtin.append_ #[c.argTypes.getD 0 0,c.argTypes.getD 0 0] o.type #[a.eval x,a.eval y]).run P w = .ok v w') :
  (execOp a.eval o).run P w = .ok (.value v) w':=by
 have ha:c.args = #[x,y]:=by rw[← Array.toList_inj];exact hargs
 have hat:c.argTypes = #[c.argTypes.getD 0 0,c.argTypes.getD 0 0]:=by
  apply Array.ext (by simpa using h2)
  intro i h1 h4
  rcases i with _ | _ | i
  · simp[Array.getD,h2]
  · have:=h3;simp only[Array.getD,h2]at this ⊢; simpa using this
  · exact absurd h4 (by simp)
 generalize c.argTypes.getD 0 0=T at *
 simp[execOp,ho,resolve,hc,ha,invoke,builtin,hat,hr]
theorem AeZ(hP:WfP P)(h:R P md w0 N0 M0 slot look used ds n β a w)(hsub : ∀ r b,lookR r=some b→look r=some b){o:Oper}{c:Call}{x y:Operand}(ho:o.op = .call c)(hc:c.callee = .builtin .append)(hargs:c.args.toList = [x,y])(h2:c.argTypes.size=2)(h3:c.argTypes.getD 1 0=c.argTypes.getD 0 0){d e:Nat}(hd : ¬ used d)(ht:B3 P (c.argTypes.getD 0 0)=some e)(hok:Ga P e=true)(hz:(Fp P e).isSome=true){xs:List D}(hxs:Ec P lookR (c.argTypes.getD 0 0) (Am slot y)=some xs)(hx':Am slot x = .mt)(hlen:xs.length≤Aj) :
  Ca P o a w (B8 P md w0 N0 M0 slot look used ds n a (.row d) [(d,some (.row e xs true))]):=by
 have hx:=By h x
 rw[hx']at hx
 obtain ⟨A,vx⟩:=Sb hx
 obtain ⟨v',w',r1,r2,r3,r4⟩:=JL hP h hsub ht hok hz o.type hxs (A:=A) (es:=[]) (c:=0) ⟨A,0,rfl,.inl ⟨rfl,rfl⟩⟩ (by simpa using hlen)
 have hno : ∀ B,A_ (.slice A 0 0)=some B→False:=by intro B hB;cases A <;> simp[A_]at hB
 refine Ce (JK ho hc hargs h2 h3 (by rw[vx];exact r1)) (Wi h ⟨r2.os,r2.tape,r2.output,r2.size,fun b hb=>r2.block b hb (fun e0=>hno b e0)⟩ hd (fun B hB=> ?_) (by simpa using r4))
 have:=r3 B hB
 exact ⟨this.1.resolve_left (fun e0=>hno B e0),this.2⟩
theorem Afa(hP:WfP P)(h:R P md w0 N0 M0 slot look used ds n β a w)(hsub : ∀ r b,lookR r=some b→look r=some b){o:Oper}{c:Call}{x y:Operand}(ho:o.op = .call c)(hc:c.callee = .builtin .append)(hargs:c.args.toList = [x,y])(h2:c.argTypes.size=2)(h3:c.argTypes.getD 1 0=c.argTypes.getD 0 0){d e r:Nat}(hd : ¬ used d)(ht:B3 P (c.argTypes.getD 0 0)=some e)(hok:Ga P e=true)(hz:(Fp P e).isSome=true){es xs:List D}(hxs:Ec P lookR (c.argTypes.getD 0 0) (Am slot y)=some xs)(hx':Am slot x = .row r)(hr:look r=some (.row e es true))(hlen:es.length+xs.length≤Aj) :
  Ca P o a w (B8 P md w0 N0 M0 slot look used ds n a (.row d) [(r,none),(d,some (.row e (es++xs) true))]):=by
 have hx:=By h x
 rw[hx']at hx
 have vx:=Im hx hr
 have hrow:RowV P md w (Ap M0 look β) e es (β r):=h.blks r _ hr
 obtain ⟨A,cp,hv,_⟩:=id hrow
 rw[hv]at hrow
 obtain ⟨v',w',r1,r2,r3,r4⟩:=JL hP h hsub ht hok hz o.type hxs hrow hlen
 rw[← hv]at r1 r2 r3
 rw[← vx]at r1
 exact Ce (JK ho hc hargs h2 h3 r1) (Aaw h hr hd r2 r3 r4)
theorem Aiw{t t2 e:Nat}(ht:P.underlying t=some (.slice e))(hp:0<P.cellsOf e)(ty:TypeId){g k c bk off m c2:Nat}{cur:Array Value}{T:TypeId}(hg:w.heap[g]? = some (.cells cur T (0,0))){news:List Value}(hl:news.length=min m k*P.cellsOf e)(hnews : ∀ (j:Nat) (v:Value),news[j]? = some v→w.cell? ((⟨bk,off,none⟩:Addr).add j)=some v)(h1 : ∀ u∈news,u.oneCell'=true)(hfit:news.length≤cur.size) :
  (Builtin.copy_ #[t,t2] ty #[.slice (some ⟨g,0,none⟩) k c,.slice (some ⟨bk,off,none⟩) m c2]).run P w = .ok (goInt (min m k:Nat)) (w.setRow g (cur.toList.take 0++news++cur.toList.drop (0+news.length)).toArray):=by
 have hf:=run_loadCells_list (P:=P) w ⟨bk,off,none⟩ news hnews
 rw[hl]at hf
 have hst:=run_storeCells_at P g 0 T news 0 cur w hg (by simpa using hfit) h1
 simp only[Nat.add_zero]at hst
 simp[Builtin.copy_,run_underlying ht,Gd hp,Builtin.lenOf,Builtin.firstCells,hf,hst]
theorem Afj(hP:WfP P)(h:R P md w0 N0 M0 slot look used ds n β a w)(hsub : ∀ r b,lookR r=some b→look r=some b){o:Oper}{c:Call}{x y:Operand}(ho:o.op = .call c)(hc:c.callee = .builtin .copy)(hargs:c.args.toList = [x,y])(h2:c.argTypes.size=2){e r:Nat}(ht:B3 P (c.argTypes.getD 0 0)=some e)(ht2:B3 P (c.argTypes.getD 1 0)=some e)(hok:Ga P e=true){es xs:List D}(hxs:Ec P lookR (c.argTypes.getD 1 0) (Am slot y)=some xs)(hx':Am slot x = .row r)(hr:look r=some (.row e es true))(hfree:r∉(Am slot y).ids) :
   Ca P o a w (B8 P md w0 N0 M0 slot look used ds n a (.i .i64 (min xs.length es.length:Nat)) [(r,some (.row e (xs.take es.length++es.drop xs.length) true))]):=by
 have hx:=By h x
 rw[hx']at hx
 have vx:=Im hx hr
 have hrow:RowV P md w (Ap M0 look β) e es (β r):=h.blks r _ hr
 simp only[Ga,Alp,decide_eq_true_eq]at hok
 obtain ⟨hby,hp⟩:=hok
 obtain ⟨e',A2,c2,hu2,hv2,l1,l2⟩:=Nd h hsub hxs
 have ha:c.args = #[x,y]:=by rw[← Array.toList_inj];exact hargs
 have hat:c.argTypes = #[c.argTypes.getD 0 0,c.argTypes.getD 1 0]:=by
   apply Array.ext (by simpa using h2)
   intro i h1 h4
   rcases i with _ | _ | i
   · simp[Array.getD,h2]
   · simp[Array.getD,h2]
   · exact absurd h4 (by simp)
 have hcall : ∀ v w',(Builtin.copy_ #[c.argTypes.getD 0 0,c.argTypes.getD 1 0] o.type #[β r,a.eval y]).run P w = .ok v w'→(execOp a.eval o).run P w = .ok (.value v) w':=by
   intro v w' hr'
   rw[← vx]at hr'
   generalize c.argTypes.getD 0 0=T at *
   generalize c.argTypes.getD 1 0=T' at *
   simp[execOp,ho,resolve,hc,ha,invoke,builtin,hat,hr']
 have hlens:(xs.take es.length++es.drop xs.length).length=es.length:=by simp;omega
 have hint:(min xs.length es.length:Nat)≤maxLen:=by omega
 have hrng:=DQ hint
 by_cases h0:min xs.length es.length=0
 ·
   have hes:xs.take es.length++es.drop xs.length=es:=by
     rcases Nat.min_eq_zero_iff.1 h0 with h0 | h0
     · rw[List.eq_nil_of_length_eq_zero h0];simp
     · rw[List.eq_nil_of_length_eq_zero h0];simp
   obtain ⟨A,cp,hv,hh⟩:=id hrow
   refine Ce (v:=goInt (min xs.length es.length:Nat)) (w':=w) (hcall _ _ ?_) ?_
   · rw[hv,hv2]
     have hu:=Dd ht
     generalize c.argTypes.getD 0 0=T at *
     generalize c.argTypes.getD 1 0=T' at *
     cases A <;> cases A2 <;> simp[Builtin.copy_,run_underlying hu,Gd hp,Builtin.lenOf,Builtin.firstCells,h0,loadCells,loadCellsFrom,storeCells]
   · rw[hes]
     have hl:Au look r (some (.row e es true))=look:=by
       funext q
       by_cases e0:q=r
       · subst e0;rw[Bz,hr]
       · rw[Bo _ _ e0]
     refine ⟨β,?_,?_,fun q hq=>by simp[L.ids]at hq⟩
     · show R P md w0 N0 M0 slot (Au look r _) _ ds n β a w
       rw[hl];exact h.weak (fun q hq=> .inl hq)
     · exact Fr hrng.1 hrng.2
 · have hm:0<min xs.length es.length:=by omega
   have hxne:xs≠[]:=fun e0=>by rw[e0]at hm;simp at hm
   have hene:es≠[]:=fun e0=>by rw[e0]at hm;simp at hm
   obtain ⟨bk,off,c2',news,s1,s2,s3,s4,s5,s6,s7⟩:=YI hP h hsub ht2 hp hxs hxne
   obtain ⟨A,cp,hv,hh⟩:=id hrow
   rcases hh with ⟨h0',_⟩ | ⟨g,cur,rfl,g0,g1,g2,g3,g4,g5,g6⟩
   · exact absurd h0' hene
   · have hoB:A_ (β r)=some g:=by rw[hv];simp[A_];omega
     have hcur:es.length*P.cellsOf e≤cur.size:=by rw[g4];exact Al1 _ g2
     have hmin:min xs.length es.length*P.cellsOf e≤es.length*P.cellsOf e:=Al1 _ (Nat.min_le_right _ _)
     have hmin2:min xs.length es.length*P.cellsOf e≤xs.length*P.cellsOf e:=Al1 _ (Nat.min_le_left _ _)
     have hnl:(news.take (min xs.length es.length*P.cellsOf e)).length=min xs.length es.length*P.cellsOf e:=by rw[Alw,s3];omega
     have hrun:=Aiw (P:=P) (w:=w) (t2:=c.argTypes.getD 1 0) (Dd ht) hp o.type (k:=es.length) (c:=cp) (m:=xs.length) (c2:=c2') (bk:=bk) (off:=off) g1 (news:=news.take (min xs.length es.length*P.cellsOf e)) hnl (fun j v hjv=>s4 j v (by
       rw[List.getElem?_take]at hjv
       split at hjv
       · exact hjv
       · cases hjv)) (fun u hu=>s5 u (List.mem_of_mem_take hu)) (by omega)
     have hcell:=fun j=>Rz (cs:=cur) (vs:=news.take (min xs.length es.length*P.cellsOf e)) (off:=0) (by omega) j
     generalize hcs':(cur.toList.take 0++news.take (min xs.length es.length*P.cellsOf e)++cur.toList.drop (0+(news.take (min xs.length es.length*P.cellsOf e)).length)).toArray=cur' at *
     simp only[Nat.not_lt_zero,if_false,Amn,Nat.sub_zero,hnl]at hcell
     have hsz':cur'.size=cur.size:=by rw[← hcs'];simp;omega
     have hst:Stp (fun q=>A_ (β r)=some q) w (w.setRow g cur'):=by rw[hoB];exact Zu w g cur'
     have hlike:likeB (.row e es true) (.row e (xs.take es.length++es.drop xs.length) true):=⟨rfl,hlens.symm⟩
     have hlive : ∀ b,¬ Ap M0 look β b→b<w.heap.size→(w.setRow g cur').heap[b]? = w.heap[b]? := fun b hn hlt=>hst.block b hlt (fun hb=>hn (.inr ⟨r,_,hr,rfl,hb⟩))
     have hMM : ∀ b,Ap M0 (Au look r (some (.row e (xs.take es.length++es.drop xs.length) true))) β b→b<w.heap.size→Ap M0 look β b:=by
       intro b hb _
       rcases hb with hb | ⟨q,k,hq,hk,hqB⟩
       · exact .inl hb
       · by_cases e0:q=r
         · subst e0;exact .inr ⟨q,_,hr,rfl,hqB⟩
         · rw[Bo _ _ e0]at hq;exact .inr ⟨q,k,hq,hk,hqB⟩
     have hR:=h.upd (b':= .row e (xs.take es.length++es.drop xs.length) true) hr rfl rfl hlike hst (by intro q hq;simp[Blk.ids]at hq) (by
       refine ⟨some ⟨g,0,none⟩,cp,by rw[hlens];exact hv,.inr ⟨g,cur',rfl,g0,setRow_heap w g cur cur' e _ g1,by rw[hlens];exact g2,g3,by rw[hsz'];exact g4,g5,fun q u hu=> ?_⟩⟩
       refine RdC.mono (w:=w) (M:=Ap M0 look β) ?_ hst.size hlive hMM
       by_cases hq:q<min xs.length es.length
       · have hlt:q<(xs.take es.length).length:=by rw[Alw];omega
         rw[Al5 hlt,List.getElem?_take_of_lt (by omega)]at hu
         refine (s6 q u hu).congr (fun j hj=> ?_) (by show 0<P.cellsOf e;exact hp)
         have hj':j<P.cellsOf e:=hj
         have hb1:q*P.cellsOf e+j<min xs.length es.length*P.cellsOf e:=by
          have:(q+1)*P.cellsOf e≤min xs.length es.length*P.cellsOf e:=Al1 _ hq
          rw[Nat.succ_mul]at this
          omega
         rw[hcell,if_pos hb1,List.getElem?_take_of_lt hb1]
       · have hqe:q<es.length:=by have:=(Alj.1 hu).1;rw[hlens]at this;exact this
         have hxl:xs.length≤q:=by omega
         have htk:(xs.take es.length).length=xs.length:=by rw[Alw];omega
         rw[List.getElem?_append_right (by omega),htk,List.getElem?_drop,show xs.length+(q-xs.length)=q by omega]at hu
         refine (g6 q u hu).congr (fun j hj=> ?_) (by show 0<P.cellsOf e;exact hp)
         have hb1:min xs.length es.length*P.cellsOf e≤q*P.cellsOf e:=Al1 _ (by omega)
         rw[hcell,if_neg (by omega)])
     refine Ce (v:=goInt (min xs.length es.length:Nat)) (w':=w.setRow g cur') (hcall _ _ (by rw[hv,s1];exact hrun)) ⟨β,hR.weak (fun q hq=> .inl hq),Fr hrng.1 hrng.2,fun q hq=>by simp[L.ids]at hq⟩
end
section
variable {P:Program} {md:Nat→FMode} {w0 w w':World} {N0 M0 M:Nat→Prop} {slot:Nat→L} {look:Nat→Option Blk} {used:Nat→Prop} {ds:Dfs} {β:Nat→Value} {a:Act} {n:Nat}
theorem CJ{q q':IntKind}{n:Int} : ∀ (es:List MapEntry) (i:Nat),(∀ x∈es,∃ m,x.key = .int q m)→(Instr.findNow (.int q') (.int q n) es i=some none∧∀ x∈es,x.key≠ .int q n)∨∃ j x,Instr.findNow (.int q') (.int q n) es i=some (some (j,x.val))∧x∈es∧x.key = .int q n
 | [],i,_=> .inl ⟨rfl,by simp⟩
 | x::es,i,h=>by
  obtain ⟨m,hm⟩:=h x (by simp)
  simp only[Instr.findNow,hm,Instr.sameNow,if_true]
  by_cases e:n=m
  · subst e
    rw[beq_self_eq_true]
    exact .inr ⟨i,x,rfl,by simp,hm⟩
  · rw[show (n == m)=false by simpa using e]
    rcases CJ es (i+1) (fun y hy=>h y (by simp[hy])) with ⟨h1,h2⟩ | ⟨j,y,h1,h2,h3⟩
    · refine .inl ⟨h1,fun y hy=> ?_⟩
      rcases Alx.1 hy with rfl | hy
      · rw[hm];intro hh;injection hh with _ hh;exact e hh.symm
      · exact h2 y hy
    · exact .inr ⟨j,y,h1,by simp[h2],h3⟩
theorem AcL{t:Nat}(h:U9 (Fp P t)=true) : ∃ i,P.info? t=some i∧i.zero=some (.slice none 0 0):=by
 unfold U9 at h
 split at h
 · rename_i hz
   obtain ⟨i,v,hi,hv,h1,h2,h3,h4,h5⟩:=O_ hz
   refine ⟨i,hi,?_⟩
   rw[hv]
   unfold Kg at h5
   split at h5
   · split at h5 <;> first | (split at h5 <;> cases h5) | cases h5
   · split at h5 <;> cases h5
   · split at h5 <;> first | (split at h5 <;> cases h5) | cases h5
   · rename_i hu
     split at h5
     · rename_i hc
       have ha:C6 v=false:=by rw[h3];simp[A9,hu]
       rw[He ha]at hc
       simpa using hc
     · cases h5
   · split at h5
     · simp at h5
     · cases h5
   · cases h5
 · cases h
theorem Yi{r:Nat}{es:Array MapEntry}{clock:Nat}(h:w.heap[r]? = some (.map es clock)):(getObj r).run P w = .ok (.map es clock) w:=by simp[getObj,Sem.run,h]
theorem Yh(em:Bool)(m:Nat){k:TypeId}{q q':IntKind}{i:Int}(hk:P.underlying k=some (.int q)):(Instr.checkKey em (m+1) k (.int q' i)).run P w = .ok () w:=by
 simp[Instr.checkKey,run_underlying hk]
theorem Afu(hP:WfP P)(h:R P md w0 N0 M0 slot look used ds n β a w){o:Oper}{t k E:TypeId}{x y:Operand}(ho:o.op = .lookup t x y false){q:IntKind}{i:Int}{z:D}(ht:P.underlying t=some (.map k E))(hk:Ka P k=some q)(hE:(B3 P E).isSome=true)(hz:U9 (Fp P E)=true)(hx':Am slot x = .d t z)(hy':Am slot y = .i q i) :
  Ca P o a w (B8 P md w0 N0 M0 slot look used ds n a (.d E (.sl ((z.grpI i).map .int))) []):=by
 have hx:=By h x
 have hy:=By h y
 rw[hx']at hx
 rw[hy']at hy
 obtain ⟨vy,_⟩:=Fn hy
 obtain ⟨hl,hs⟩:=C2 hx (by simp) (by simp) (by simp)
 obtain ⟨e,he⟩:=Option.isSome_iff_exists.1 hE
 have hE':=Dd he
 have hone:P.cellsOf E=1:=hP.one E (by simp[A9,hE']) (by rw[hE'];rfl)
 obtain ⟨inf,hinf,hzero⟩:=AcL hz
 cases hl with
 | d hrd =>
  have hagg:C6 (a.eval x)=false:=by rw[hs.agg];simp[L.isAgg,A9,ht]
  have hcs:=He hagg
  cases hrd with
  | @mp _ k' E' e' q' g _ b es clock ht' hk' hE2 hc hM hb hes hkey hh hsz h0 =>
   have ht2:P.underlying t=some (.map k' E'):=ht'
   rw[ht]at ht2
   injection ht2 with ht2
   injection ht2 with e1 e2
   subst e1
   subst e2
   have hkk:=O0 hk
   rw[hk']at hkk
   injection hkk with hkk
   injection hkk with hkk
   subst hkk
   have vx:a.eval x = .map (some b):=by rw[hcs]at hc;simpa using hc
   have fin : ∀ v:Value,(Instr.lookup t (.map (some b)) (.int q' i) false).run P w = .ok v w→RdC P md w (Ap M0 look β) (.ty E) (.sl ((Gv g i).map .int)) (fun j=>v.cells[j]?)→C6 v=false→Ca P o a w (B8 P md w0 N0 M0 slot look used ds n a (.d E (.sl ((Gv g i).map .int))) []):=by
     intro v hrun hrd hag
     refine Ce (v:=v) (w':=w) ?_ (Cp h (Di (by simp) (.d hrd) ⟨by rw[He hag];simp[L.size,hone],by rw[hag];simp[L.isAgg,A9,hE'],fun j u hu=> ?_⟩) (by simp[L.ids]))
     · simp[execOp,ho,vx,vy,hrun]
     · have hj:j<P.cellsOf E:=by
        have:=(Amc.1 hu).1
        rw[He hag]at this
        rw[hone];simpa using this
       obtain ⟨u',hu',h1⟩:=hrd.cells hP j hj
       have:some u=some u':=hu.symm.trans hu'
       injection this with this
       rw[this];exact h1
   have hrk:=run_underlying (w:=w) hk'
   have hrt:=run_underlying (w:=w) ht
   rcases CJ (q':=q') (n:=i) es.toList 0 hkey with ⟨f1,f2⟩ | ⟨j,ex,f1,f2,f3⟩
   · refine fin (.slice none 0 0) ?_ ?_ rfl
     · unfold Instr.lookup
       have hck:=fun em=>Yh (P:=P) (w:=w) em 9999 (q':=q') (i:=i) hk'
       simp[hrt,hrk,Yi hes,hck,Instr.findKey,f1,zeroValue,typeInfo,hinf,hzero]
     · rw[h0 i f2]
       exact .sl (t:= .ty E) (bk:=0) (off:=0) (A:=none) (cap:=0) hE' rfl (by simp) (by simp) (fun hne=>absurd rfl hne) (fun i x hx=>by simp at hx)
   · refine fin ex.val ?_ (hh ex f2 i f3) (hsz ex f2)
     unfold Instr.lookup
     have hck:=fun em=>Yh (P:=P) (w:=w) em 9999 (q':=q') (i:=i) hk'
     simp[hrt,hrk,Yi hes,hck,Instr.findKey,f1]
  | int ht'=>rw[show P.underlying t=_ from ht']at ht;cases ht
  | bool ht'=>rw[show P.underlying t=_ from ht']at ht;cases ht
  | str ht'=>rw[show P.underlying t=_ from ht']at ht;cases ht
  | sl ht'=>rw[show P.underlying t=_ from ht']at ht;cases ht
  | struct hf=>obtain ⟨⟨a',ha',_⟩,_⟩:=Ck hf;rw[ha']at ht;cases ht
  | fn ht'=>rw[show P.underlying t=_ from ht']at ht;cases ht
  | ref ht'=>rw[show P.underlying t=_ from ht']at ht;cases ht
end
end Go.Proofs.YtokkbgpgaheakaaGreat
namespace Go.Proofs.YtokkbgpgaheakaaGreat
open Go.RowKit
def J8:List Value→Value
 | [v]=>v
 | vs=> .tuple vs.toArray
def C7(fm:FMode)(vs:List Value)(b:Nat):Prop:=∃ p v,fm.arg=some p∧vs[p]? = some v∧A_ v=some b
structure PreA (P:Program) (md:Nat→FMode) (fm:FMode) (w:World) (M:Nat→Prop) (cts:List CT) (xs:List D) (vs:List Value):Prop where
 lenx:xs.length=cts.length
 lenv:vs.length=cts.length
 m : ∀ b,M b→b<w.heap.size∧¬ C7 fm vs b
 rd : ∀ (i:Nat) (ct:CT) (x:D) (v:Value),cts[i]? = some ct→xs[i]? = some x→vs[i]? = some v→fm.arg≠some i→Rd P md w (fun b=>M b∨C7 fm vs b) ct x v
 lent : ∀ p,fm.arg=some p→∃ t e es v,cts[p]? = some (.ty t)∧B3 P t=some e∧one P t=true∧xs[p]? = some (.sl es)∧vs[p]? = some v∧RowV P md w (fun b=>M b∨C7 fm vs b) e es v
def Kk(P:Program)(fm:FMode)(ps rts:List Nat)(ys:List D)(bid:Nat):List (Nat×Option Blk):=if fm.back then [(bid,some (.row (Fq P ps fm) (ys.getD rts.length .nil).els true))] else []
def Dt(P:Program)(fm:FMode)(ps rts:List Nat)(ys:List D)(d bid:Nat):Nat→Option Blk:=Bh (fun _=>none) (Kk P fm ps rts ys bid++Cv P rts ys fm.own d)
structure PostA (P:Program) (md:Nat→FMode) (fm:FMode) (w:World) (M:Nat→Prop) (ps rts:List Nat) (vs:List Value) (ys:List D) (d bid:Nat) (e:Ending) (w':World) (us:List Value) (β':Nat→Value):Prop where
 ending:e = .returned (J8 us)
 len:us.length=rts.length
 stp:Stp (C7 fm vs) w w'
 vl : ∀ ls,Fk P rts fm.own d (D4 P rts ys 0)=some ls→∀ (i:Nat) (l:L) (u:Value),ls[i]? = some l→us[i]? = some u→VL P md w' (Ap M (Dt P fm ps rts ys d bid) β') (Dt P fm ps rts ys d bid) β' l u
 blks : ∀ r b,Dt P fm ps rts ys d bid r=some b→BR P md w' (Ap M (Dt P fm ps rts ys d bid) β') (Dt P fm ps rts ys d bid) β' r b
 own : ∀ r b B,Dt P fm ps rts ys d bid r=some b→A_ (β' r)=some B→(w.heap.size≤B∨C7 fm vs B)∧B<w'.heap.size
 sep : ∀ r q b c B,Dt P fm ps rts ys d bid r=some b→Dt P fm ps rts ys d bid q=some c→A_ (β' r)=some B→A_ (β' q)=some B→r=q
 back:fm.back=true→∀ p v,fm.arg=some p→vs[p]? = some v→β' bid=v
def Dn(P:Program)(md:Nat→FMode)(f:Nat)(cts:List CT)(xs ys:List D):Prop :=
 ∃ fn, P.funcs[f]? = some fn ∧ fn.body.isSome = true ∧ (fn.name == "runtime.NumGoroutine") = false ∧ ∀ w M vs d bid, (∀ k, k < (md f).own.length → bid ≠ d + 100000 * k) → PreA P md (md f) w M (fn.params.toList.map .ty ++ cts) xs vs →
  Calls P f vs.toArray w (fun e w'=>∃ us β',PostA P md (md f) w M fn.params.toList fn.resultTypes.toList vs ys d bid e w' us β')
section
variable {P:Program} {md:Nat→FMode} {w0 w w':World} {N0 M0 M:Nat→Prop} {slot:Nat→L} {look lookR:Nat→Option Blk} {used:Nat→Prop} {ds:Dfs} {β:Nat→Value} {a:Act} {n:Nat}
theorem Ad9(mx:Bool){k:IntKind}(x y:Int):((if mx then Builtin.max2 else Builtin.min2) (.int k x) (.int k y)).run P w = .ok (.int k (bif mx then (if x<y then y else x) else (if y<x then y else x))) w:=by
 cases mx <;> simp[Builtin.max2,Builtin.min2]
theorem PC(mx:Bool) : ∀ zs:List L,zs.foldl (N3 mx) none=none:=by
 intro zs
 induction zs with
 | nil=>rfl
 | cons z zs ih=>simpa [N3]using ih
theorem QZ(h:R P md w0 N0 M0 slot look used ds n β a w){o:Oper}{c:Call}{mx:Bool}(ho:o.op = .call c)(hc:c.callee = .builtin (if mx then .max else .min)){l:L}(hl:Qm mx (c.args.toList.map (Am slot))=some l) :
  Ca P o a w (B8 P md w0 N0 M0 slot look used ds n a l []):=by
 have key : ∀ (xs:List Operand) (k:IntKind) (x:Int) (l:L),k.min≤x→x≤k.max→(xs.map (Am slot)).foldl (N3 mx) (some (.i k x))=some l →
   ∃ y,((xs.map a.eval).foldlM (if mx then Builtin.max2 else Builtin.min2) (.int k x)).run P w = .ok (.int k y) w∧l = .i k y∧k.min≤y∧y≤k.max:=by
  intro xs
  induction xs with
  | nil=>intro k x l b1 b2 hf;simp at hf;subst hf;exact ⟨x,by simp,rfl,b1,b2⟩
  | cons y ys ih =>
   intro k x l b1 b2 hf
   simp only[Aml,List.foldl_cons]at hf
   cases hy:Am slot y with
   | i k' z =>
     rw[hy]at hf
     simp only[N3]at hf
     by_cases hk:k=k'
     · subst hk
       simp only[if_true]at hf
       have hvy:=By h y
       rw[hy]at hvy
       obtain ⟨vy,c1,c2⟩:=Fn hvy
       have hb:k.min≤(bif mx then (if x<z then z else x) else (if z<x then z else x))∧(bif mx then (if x<z then z else x) else (if z<x then z else x))≤k.max:=by
        cases mx <;> simp <;> split <;> omega
       obtain ⟨u,hu,hli,h3⟩:=ih k _ l hb.1 hb.2 hf
       refine ⟨u,?_,hli,h3⟩
       simp only[Aml,List.foldlM_cons,Sem.run_bind,vy,Ad9,Result.andThen_ok]
       exact hu
     · rw[if_neg hk,PC]at hf;cases hf
   | _=>rw[hy]at hf;simp only[N3]at hf;rw[PC]at hf;cases hf
 cases hargs:c.args.toList with
 | nil=>rw[hargs]at hl;simp[Qm]at hl
 | cons x xs =>
  rw[hargs]at hl
  simp only[Aml]at hl
  cases hx:Am slot x with
  | i k z =>
   rw[hx]at hl
   have hvx:=By h x
   rw[hx]at hvx
   obtain ⟨vx,c1,c2⟩:=Fn hvx
   obtain ⟨y,hu,rfl,d1,d2⟩:=key xs k z l c1 c2 hl
   refine Ce (v:= .int k y) (w':=w) ?_ (Cp h (Fr d1 d2) (by simp[L.ids]))
   cases mx
   · simp only[Bool.false_eq_true,if_false]at hc hu
     simp[execOp,ho,resolve,hc,invoke,builtin,Builtin.min_,hargs,vx,hu]
   · simp only[if_true]at hc hu
     simp[execOp,ho,resolve,hc,invoke,builtin,Builtin.max_,hargs,vx,hu]
  | _=>rw[hx]at hl;simp[Qm]at hl
end
end Go.Proofs.YtokkbgpgaheakaaGreat
namespace Go.Proofs.YtokkbgpgaheakaaGreat
open Go.RowKit
section
variable {P:Program} {md:Nat→FMode} {w0 w w':World} {N0 M0 M:Nat→Prop} {slot:Nat→L} {look lookR:Nat→Option Blk} {used:Nat→Prop} {ds:Dfs} {β:Nat→Value} {a:Act} {n:Nat}
theorem CD{o:Oper}{f:Nat}{vs:Array Value}{K:Value→World→Prop}(h:(execOp a.eval o).run P w = .ok (.enter f vs) w)(hc:Calls P f vs w (fun e w'=>∃ v,e = .returned v∧K v w')):Ca P o a w K:=by
 intro next Q hn
 unfold Oper.wp
 rw[h]
 show Calls P f vs w _
 refine hc.mono ?_
 rintro e w' ⟨v,rfl,hk⟩
 exact hn v w' hk
theorem WF {f : Nat} {fn : Func} {vs : Array Value} (hf : P.funcs[f]? = some fn) (hb : fn.body.isSome = true) (hn : (fn.name == "runtime.NumGoroutine") = false) : (callFunc f vs).run P w = .ok (.enter f vs) w := by
 have hb':fn.body≠none:=by intro e;rw[e]at hb;cases hb
 have hn' : fn.name ≠ "runtime.NumGoroutine" := by simpa using hn
 simp[callFunc,hf,hn',hb']
theorem R.Mlt (h:R P md w0 N0 M0 slot look used ds n β a w) {b:Nat} (hb:Ap M0 look β b):b<w.heap.size:=by
 rcases hb with hb | ⟨r,k,hr,_,hB⟩
 · exact Ame (h.m0 b hb).1 h.stp.size
 · exact (h.own r k b hr hB).2
theorem R.M0own (h:R P md w0 N0 M0 slot look used ds n β a w) {r b:Nat} {k:Blk} (hr:look r=some k) (hB:A_ (β r)=some b) : ¬ M0 b:=by
 intro hm
 have:=h.m0 b hm
 rcases (h.own r k b hr hB).1 with h1 | h1
 · omega
 · exact this.2 h1
structure ArgsOk (P:Program) (md:Nat→FMode) (w:World) (Mc:Nat→Prop) (fm:FMode) (cts:List CT) (xs:List D) (vs:List Value):Prop where
 lenx:xs.length=cts.length
 lenv:vs.length=cts.length
 rd : ∀ (i:Nat) (ct:CT) (x:D) (v:Value),cts[i]? = some ct→xs[i]? = some x→vs[i]? = some v→fm.arg≠some i→Rd P md w Mc ct x v
theorem Ac5{α:Type}{xs ys:List α}{i:Nat}{z:α}(h:(xs++ys)[i]? = some z):(i<xs.length∧xs[i]? = some z)∨(xs.length≤i∧ys[i-xs.length]? = some z):=by
 by_cases hi:i<xs.length
 · rw[Al5 hi]at h;exact .inl ⟨hi,h⟩
 · rw[List.getElem?_append_right (by omega)]at h;exact .inr ⟨by omega,h⟩
theorem PH{α:Type} : ∀ {xs:List α} {i p:Nat} {x:α},xs[i]? = some x→i≠p→x∈xs.eraseIdx p
 | y::ys,0,p,x,h,hp=>by
  cases p with
  | zero=>exact absurd rfl hp
  | succ p=>simp at h;subst h;simp[List.eraseIdx]
 | y::ys,i+1,p,x,h,hp=>by
  simp only[List.getElem?_cons_succ]at h
  cases p with
  | zero=>simp[List.eraseIdx];exact Alm h
  | succ p=>simp only[List.eraseIdx,Alx];exact .inr (PH h (by omega))
 | [],i,p,x,h,hp=>by simp at h
theorem JO(hP:WfP P)(h:R P md w0 N0 M0 slot look used ds n β a w)(hsub : ∀ r b,lookR r=some b→look r=some b){fm:FMode}{args:List Operand}{ps:List Nat}{xs dd:List D}{cts:List CT}{cvs:List Value}{rs:List Nat}
   (hxs:Iv P md lookR (args.map (Am slot)) ps=some xs) (haw : ∀ (i:Nat) (x:Operand),args[i]? = some x→fm.arg≠some i→∀ r∈C4 lookR (Am slot x),r∈rs)
   (hcap:cts.length=dd.length∧cvs.length=dd.length∧∀ (i:Nat) (ct:CT) (x:D) (v:Value),cts[i]? = some ct→dd[i]? = some x→cvs[i]? = some v→Rd P md w (Ap M0 (Bh look (Cb lookR rs)) β) ct x v) (hlt : ∀ p,fm.arg=some p→p<ps.length) :
   ArgsOk P md w (Ap M0 (Bh look (Cb lookR rs)) β) fm (ps.map .ty++cts) (xs++dd) (args.map a.eval++cvs):=by
 obtain ⟨e1,e2,e3⟩:=Td hxs
 rw[Ali]at e1
 refine ⟨by simp;omega,by simp;omega,fun i ct x v h1 h2 h3 h4=> ?_⟩
 rcases Ac5 h1 with ⟨l1,g1⟩ | ⟨l1,g1⟩
 · rw[Ali]at l1
   rw[Al5 (by omega)]at h2
   rw[Al5 (by simp;omega)]at h3
   rw[Aly]at g1 h3
   have hi:i<args.length:=by omega
   rw[Alg hi]at h3
   rw[Alg l1]at g1
   simp only[Option.map_some,Alo]at g1 h3
   subst g1
   subst h3
   have hc:=e3 i (Am slot args[i]) ps[i] x (by rw[Aly,Alg hi];rfl) (Alg l1) h2
   exact (EV hP h hsub (Np h hsub rs) hc (fun r hr=>P9 h hsub rs r (haw i args[i] (Alg hi) h4 r hr))).1
 · rw[Ali]at l1 g1
   rw[List.getElem?_append_right (by omega)]at h2
   rw[List.getElem?_append_right (by simp;omega)]at h3
   rw[e2]at h2
   rw[Ali,e1]at h3
   exact hcap.2.2 _ ct x v g1 h2 h3
theorem AiO{t:Nat}{x:D}{v:Value}{w1 w2:World}{M1 M2:Nat→Prop}{lk1 lk2:Nat→Option Blk}{b1 b2:Nat→Value}(hs:G7 P t=true)(h:VL P md w1 M1 lk1 b1 (Bt P t x) v):VL P md w2 M2 lk2 b2 (Bt P t x) v:=by
 unfold G7 at hs
 split at hs
 · rename_i k hk;simp only[Bt,hk]at h ⊢; obtain ⟨rfl,a1,a2⟩:=Fn h;exact Fr a1 a2
 · rename_i hk;simp only[Bt,hk]at h ⊢; have:=Kd h;subst this;exact Kt
 · rename_i hk;simp only[Bt,hk]at h ⊢; obtain ⟨rfl,a1⟩:=O8 h;exact EB a1
 · cases hs
theorem Mk : ∀ {ts:List Nat} {ys:List D} {k i t:Nat},ts[i]? = some t→(D4 P ts ys k)[i]? = some (Bt P t (ys.getD (k+i) .nil))
 | t::ts,ys,k,0,t',h=>by simp at h;subst h;simp[D4]
 | t::ts,ys,k,i+1,t',h=>by
  simp only[List.getElem?_cons_succ]at h
  simp only[D4,List.getElem?_cons_succ]
  rw[Mk h]
  congr 3
  omega
 | [],ys,k,i,t',h=>by simp at h
theorem On(ts:List Nat)(ys:List D)(k:Nat):(D4 P ts ys k).length=ts.length:=by
 induction ts generalizing k with
 | nil=>rfl
 | cons t ts ih=>simp[D4,ih]
theorem QS(t:Nat)(x:D) : ∀ ls,Bt P t x≠ .tup ls:=by
 intro ls
 unfold Bt
 split <;> simp
theorem ZB{lk:Nat→Option Blk}{b:Nat→Value}{Mx:Nat→Prop}{ls:List L}{us:List Value}(hl:us.length=ls.length)(hn : ∀ l∈ls,∀ ks,l≠ .tup ks)(h : ∀ (i:Nat) (l:L) (u:Value),ls[i]? = some l→us[i]? = some u→VL P md w Mx lk b l u):VL P md w Mx lk b (Ii ls) (J8 us):=by
 match ls,us,hl with
 | [],[],_=>exact ⟨#[],rfl,rfl,fun i l v hl=>by simp at hl⟩
 | [l],[u],_=>exact h 0 l u rfl rfl
 | l1::l2::ls,u1::u2::us,hl =>
  refine ⟨(u1::u2::us).toArray,rfl,by simpa using hl,fun i l v hl hv=>AkA (hn l (Alm hl)) (h i l v hl (by simpa using hv))⟩
theorem Afh(h:R P md w0 N0 M0 slot look used ds n β a w)(hsub : ∀ r b,lookR r=some b→look r=some b){o:Oper}{f:Nat}{cts:List CT}{xs ys:List D}{vs:List Value}{ps rts:List Nat}(hrun:(execOp a.eval o).run P w = .ok (.enter f vs.toArray) w)(hs:Dn P md f cts xs ys)(hps : ∀ fn,P.funcs[f]? = some fn→fn.params.toList=ps∧fn.resultTypes.toList=rts)(harg:(md f).arg=none)(hown:(md f).own = []){rs:List Nat}
   (hargs:ArgsOk P md w (Ap M0 (Bh look (Cb lookR rs)) β) (md f) (ps.map .ty++cts) xs vs) (hsc:rts.all (G7 P)=true) :
   Ca P o a w (B8 P md w0 N0 M0 slot look used ds n a (Ii (D4 P rts ys 0)) []):=by
 obtain ⟨fn,hfn,_,_,hcalls⟩:=hs
 obtain ⟨rfl,rfl⟩:=hps fn hfn
 have hno : ∀ b,¬ C7 (md f) vs b:=by rintro b ⟨p,v,hp,_⟩;rw[harg]at hp;cases hp
 refine CD hrun ((hcalls w (Ap M0 (Bh look (Cb lookR rs)) β) vs 0 0 (by rw[hown];intro k hk;simp at hk) ⟨hargs.lenx,hargs.lenv,fun b hb=>⟨(h.fz hsub rs).Mlt hb,hno b⟩,fun i ct x v h1 h2 h3 h4=> ?_,fun p hp=>by rw[harg]at hp;cases hp⟩).mono ?_)
 · have hrd:=hargs.rd i ct x v h1 h2 h3 h4
   exact ⟨hrd.rd.mono (Als _) (fun _ _ _=>rfl) (fun b hb _=>hb.resolve_right (hno b)),hrd.size,hrd.agg⟩
 · rintro e w' ⟨us,β',hp⟩
   refine ⟨J8 us,hp.ending,?_⟩
   have hx:Ext w w':=⟨hp.stp.os,hp.stp.tape,hp.stp.output,hp.stp.size,fun b hb=>hp.stp.block b hb (hno b)⟩
   refine Cp (h.grow hx) (ZB (by rw[hp.len,On]) (fun l hl ks=> ?_) (fun i l u hl hu=> ?_)) (fun r hr=> ?_)
   · obtain ⟨i,hi⟩:=List.getElem?_of_mem hl
     have hlt:i<fn.resultTypes.toList.length:=by rw[← On (P:=P) _ ys 0];exact (Alj.1 hi).1
     rw[Mk (Alg hlt)]at hi
     injection hi with hi
     subst hi
     exact QS _ _ ks
   · have hlt:i<fn.resultTypes.toList.length:=by rw[← On (P:=P) _ ys 0];exact (Alj.1 hl).1
     have hvl:=hp.vl _ (by rw[hown];rfl) i l u hl hu
     rw[Mk (Alg hlt)]at hl
     injection hl with hl
     subst hl
     exact AiO (List.all_eq_true.1 hsc _ (Amj hlt)) hvl
   · exfalso
     have : ∀ (ts:List Nat) (k:Nat),L.idsL (D4 P ts ys k) = []:=by
      intro ts
      induction ts with
      | nil=>intro k;rfl
      | cons t ts ih=>intro k;simp[D4,L.idsL,Wl,ih]
     have hi:(Ii (D4 P fn.resultTypes.toList ys 0)).ids = []:=by
      have h1:=this fn.resultTypes.toList 0
      cases hres:D4 P fn.resultTypes.toList ys 0 with
      | nil=>rfl
      | cons l ls =>
       rw[hres]at h1
       cases ls with
       | nil=>simp[L.idsL]at h1;simpa [Ii]using h1
       | cons l2 ls=>simpa [Ii,L.ids]using h1
     rw[hi]at hr
     cases hr
theorem AgJ{w1 w2:World}{M1 M2:Nat→Prop}{e:Nat}{x:D}{c:Nat→Option Value}(hs:G7 P e=true)(h:RdC P md w1 M1 (.ty e) x c):RdC P md w2 M2 (.ty e) x c:=by
 unfold G7 at hs
 cases h with
 | int ht h1 h2 hc=>exact .int ht h1 h2 hc
 | bool ht hc=>exact .bool ht hc
 | str ht hl hc=>exact .str ht hl hc
 | sl ht=>rw[show P.underlying e=_ from ht]at hs;cases hs
 | struct ht=>obtain ⟨⟨b,hb,_⟩,_⟩:=Ck ht;rw[hb]at hs;cases hs
 | fn ht=>rw[show P.underlying e=_ from ht]at hs;cases hs
 | ref ht=>rw[show P.underlying e=_ from ht]at hs;cases hs
 | mp ht=>rw[show P.underlying e=_ from ht]at hs;cases hs
theorem Afg(h:R P md w0 N0 M0 slot look used ds n β a w)(hsub : ∀ r b,lookR r=some b→look r=some b){o:Oper}{f:Nat}{cts:List CT}{xs ys:List D}{vs:List Value}{ps rts:List Nat}(hrun:(execOp a.eval o).run P w = .ok (.enter f vs.toArray) w)(hs:Dn P md f cts xs ys)(hps : ∀ fn,P.funcs[f]? = some fn→fn.params.toList=ps∧fn.resultTypes.toList=rts)(harg:(md f).arg=none)(hback:(md f).back=false)(hown:(md f).own = [(0,[])]){t e:Nat}(hrt:rts = [t])(hte:B3 P t=some e)(h1t:one P t=true)(hse:G7 P e=true){rs:List Nat}
   (hargs:ArgsOk P md w (Ap M0 (Bh look (Cb lookR rs)) β) (md f) (ps.map .ty++cts) xs vs) {d:Nat} (hd : ¬ used d) :
   Ca P o a w (B8 P md w0 N0 M0 slot look used ds n a (.row d) [(d,some (.row e (ys.getD 0 .nil).els true))]):=by
 obtain ⟨fn,hfn,_,_,hcalls⟩:=hs
 obtain ⟨rfl,rfl⟩:=hps fn hfn
 have hno : ∀ b,¬ C7 (md f) vs b:=by rintro b ⟨p,v,hp,_⟩;rw[harg]at hp;cases hp
 have hot:G4 P fn.resultTypes.toList (0,[])=some e:=by rw[hrt];simp[G4,B5,h1t,hte]
 have hlook:Dt P (md f) fn.params.toList fn.resultTypes.toList ys d (d+50000) d=some (.row e (ys.getD 0 .nil).els true):=by
   simp[Dt,Kk,hback,hown,Cv,Bh,Au,hot,D.path]
 refine CD hrun ((hcalls w (Ap M0 (Bh look (Cb lookR rs)) β) vs d (d+50000) (by rw[hown];intro k hk;simp at hk;omega) ⟨hargs.lenx,hargs.lenv,fun b hb=>⟨(h.fz hsub rs).Mlt hb,hno b⟩,fun i ct x v h1 h2 h3 h4=> ?_,fun p hp=>by rw[harg]at hp;cases hp⟩).mono ?_)
 · have hrd:=hargs.rd i ct x v h1 h2 h3 h4
   exact ⟨hrd.rd.mono (Als _) (fun _ _ _=>rfl) (fun b hb _=>hb.resolve_right (hno b)),hrd.size,hrd.agg⟩
 · rintro en w' ⟨us,β',hp⟩
   have hx:Ext w w':=⟨hp.stp.os,hp.stp.tape,hp.stp.output,hp.stp.size,fun b hb=>hp.stp.block b hb (hno b)⟩
   have hl:=hp.len
   rw[hrt]at hl
   obtain ⟨u,rfl⟩ : ∃ u,us = [u]:=by
    match us,hl with
    | [u],_=>exact ⟨u,rfl⟩
   have hv:=hp.vl [.row d] (by rw[hown,hrt];simp[D4,Fk,D_]) 0 (.row d) u rfl rfl
   have hu:=Im hv hlook
   have hb:RowV P md w' _ e (ys.getD 0 .nil).els (β' d):=hp.blks d _ hlook
   refine ⟨u,hp.ending,?_⟩
   rw[hu]
   refine Wi h hx hd (fun B hB=>⟨(hp.own d _ B hlook hB).1.resolve_right (hno B),(hp.own d _ B hlook hB).2⟩) ?_
   obtain ⟨A,cap,hA,hh⟩:=hb
   refine ⟨A,cap,hA,hh.imp id ?_⟩
   rintro ⟨B,cur,g1,g2,g3,g4,g5,g6,g7,g8⟩
   exact ⟨B,cur,g1,g2,g3,g4,g5,g6,g7,fun i x hx'=>AgJ hse (g8 i x hx')⟩
theorem Tq : ∀ {xs:List (Nat×Option Blk)} {lk:Nat→Option Blk} {q:Nat},(∀ b,(q,b)∉xs)→Bh lk xs q=lk q
 | [],_,_,_=>rfl
 | (r,b)::xs,lk,q,h=>by
  simp only[Bh]
  rw[Tq (fun b hb=>h b (List.mem_cons_of_mem _ hb)),Bo _ _ (fun e=>h b (by rw[e];simp))]
def Dl(d:Nat)(k:Nat)(q:Nat):Prop:=∃ i,i<k∧q=d+100000*i
theorem L_{rts:List Nat}{ys:List D} : ∀ {os:List (Nat×List Nat)} {d:Nat} {lk:Nat→Option Blk} {i:Nat} {o:Nat×List Nat},os[i]? = some o→Bh lk (Cv P rts ys os d) (d+100000*i)=(G4 P rts o).map fun e=> .row e ((ys.getD o.1 .nil).path o.2).els true
 | o'::os,d,lk,0,o,h=>by
  simp at h
  subst h
  simp only[Cv,Bh,Nat.mul_zero,Nat.add_zero]
  rw[Tq,Bz]
  intro b hb
  have : ∀ (os:List (Nat×List Nat)) (d':Nat),(d,b)∈Cv P rts ys os d'→d'≤d:=by
   intro os
   induction os with
   | nil=>intro d' hb;simp[Cv]at hb
   | cons o os ih =>
    intro d' hb
    simp only[Cv,Alx,Prod.mk.injEq]at hb
    rcases hb with ⟨h1,_⟩ | hb
    · omega
    · have:=ih _ hb;omega
  have:=this os _ hb
  omega
 | o'::os,d,lk,i+1,o,h=>by
  simp only[List.getElem?_cons_succ]at h
  simp only[Cv,Bh]
  rw[show d+100000*(i+1)=d+100000+100000*i by omega]
  exact L_ h
 | [],d,lk,i,o,h=>by simp at h
theorem RE{rts:List Nat}{ys:List D} : ∀ {os:List (Nat×List Nat)} {d q:Nat} {b:Option Blk},(q,b)∈Cv P rts ys os d→Dl d os.length q
 | o::os,d,q,b,h=>by
  simp only[Cv,Alx,Prod.mk.injEq]at h
  rcases h with ⟨rfl,_⟩ | h
  · exact ⟨0,by simp,by simp⟩
  · obtain ⟨i,hi,rfl⟩:=RE h
    exact ⟨i+1,by simpa using hi,by omega⟩
 | [],d,q,b,h=>by simp[Cv]at h
theorem RD{rts:List Nat}{ys:List D}{os:List (Nat×List Nat)}{d q:Nat}(h:Dl d os.length q)(lk lk':Nat→Option Blk):Bh lk (Cv P rts ys os d) q=Bh lk' (Cv P rts ys os d) q:=by
 obtain ⟨i,hi,rfl⟩:=h
 rw[L_ (Alg hi),L_ (Alg hi)]
theorem Qy{rts:List Nat}{ys:List D}{os:List (Nat×List Nat)}{d q:Nat}(h : ¬ Dl d os.length q)(lk:Nat→Option Blk):Bh lk (Cv P rts ys os d) q=lk q :=
 Tq (fun _ hb=>h (RE hb))
theorem RF{rts:List Nat}{ys:List D}{os:List (Nat×List Nat)}{d q:Nat}{lk:Nat→Option Blk}{b:Blk}(h:Dl d os.length q)(hb:Bh lk (Cv P rts ys os d) q=some b) : ∃ e es,b = .row e es true:=by
 obtain ⟨i,hi,rfl⟩:=h
 rw[L_ (Alg hi)]at hb
 obtain ⟨e,_,rfl⟩:=Alv.1 hb
 exact ⟨_,_,rfl⟩
theorem WV : ∀ {p:List Nat} {t:Nat} {l l':L} {d:Nat},D_ P t p l (.row d)=some l'→(∀ r∈l'.ids,r∈l.ids∨r=d)∧(∀ ks,l'≠ .tup ks)
 | [],t,l,l',d,h=>by
  simp only[D_,Alo]at h
  subst h
  exact ⟨fun r hr=> .inr (by simpa [L.ids]using hr),by simp⟩
 | i::p,t,l,l',d,h=>by
  simp only[D_]at h
  split at h
  · cases h
  · rename_i fs hfs
    split at h
    · cases h
    · rename_i ls hls
      split at h
      · rename_i f k hf hk
        simp only[Alv]at h
        obtain ⟨z,hz,rfl⟩:=h
        refine ⟨fun r hr=> ?_,by simp⟩
        have ih:=WV hz
        have hin : ∀ (q:Nat) (m:L),ls[q]? = some m→∀ r∈m.ids,r∈l.ids:=by
          unfold Gb at hls
          split at hls
          · split at hls
            · injection hls with hls;subst hls
              intro q m hm r hr
              simp only[L.ids];exact Ks hm r hr
            · cases hls
          · split at hls
            · injection hls with hls;subst hls
              intro q m hm r hr
              have hi:q<fs.length:=by rw[← P0 (P:=P) fs _ 0];exact (Alj.1 hm).1
              rw[Nh (Alg hi)]at hm
              injection hm with hm
              subst hm
              rw[Wl]at hr
              cases hr
            · cases hls
          · cases hls
        simp only[L.ids]at hr
        have Cf : ∀ (xs:List L) (j:Nat) (u:L),r∈L.idsL (xs.set j u)→(∃ (q:Nat) (m:L),xs[q]? = some m∧r∈m.ids)∨r∈u.ids:=by
          intro xs
          induction xs with
          | nil=>intro j u hu;simp[L.idsL]at hu
          | cons x xs ihx =>
            intro j u hu
            cases j with
            | zero =>
              simp only[List.set_cons_zero,L.idsL,List.mem_append]at hu
              rcases hu with hu | hu
              · exact .inr hu
              · have : ∀ ys:List L,r∈L.idsL ys→∃ (q:Nat) (m:L),ys[q]? = some m∧r∈m.ids:=by
                 intro ys
                 induction ys with
                 | nil=>intro h;simp[L.idsL]at h
                 | cons y ys ihy =>
                  intro h
                  simp only[L.idsL,List.mem_append]at h
                  rcases h with h | h
                  · exact ⟨0,y,rfl,h⟩
                  · obtain ⟨q,m,h1,h2⟩:=ihy h;exact ⟨q+1,m,by simpa using h1,h2⟩
                obtain ⟨q,m,h1,h2⟩:=this xs hu
                exact .inl ⟨q+1,m,by simpa using h1,h2⟩
            | succ j =>
              simp only[List.set_cons_succ,L.idsL,List.mem_append]at hu
              rcases hu with hu | hu
              · exact .inl ⟨0,x,rfl,hu⟩
              · rcases ihx j u hu with ⟨q,m,h1,h2⟩ | h
                · exact .inl ⟨q+1,m,by simpa using h1,h2⟩
                · exact .inr h
        rcases Cf _ _ _ hr with ⟨q,m,h1,h2⟩ | h1
        · exact .inl (hin q m h1 r h2)
        · rcases ih.1 r h1 with h1 | h1
          · exact .inl (hin i k hk r h1)
          · exact .inr h1
      · cases h
theorem WW{rts:List Nat} : ∀ {os:List (Nat×List Nat)} {d:Nat} {ls ls':List L},Fk P rts os d ls=some ls'→ls'.length=ls.length∧((∀ l∈ls,∀ ks,l≠ .tup ks)→∀ l∈ls',∀ ks,l≠ .tup ks)∧∀ l∈ls',∀ r∈l.ids,(∃ k∈ls,r∈k.ids)∨Dl d os.length r
 | [],d,ls,ls',h=>by
  simp only[Fk,Alo]at h
  subst h
  exact ⟨rfl,fun h=>h,fun l hl r hr=> .inl ⟨l,hl,hr⟩⟩
 | o::os,d,ls,ls',h=>by
  simp only[Fk]at h
  split at h
  · rename_i t l ht hl
    split at h
    · rename_i l' hl'
      obtain ⟨h1,h2,h3⟩:=WW h
      obtain ⟨g1,g2⟩:=WV hl'
      refine ⟨by simpa using h1,fun hn=>h2 (fun k hk=> ?_),fun k hk r hr=> ?_⟩
      · rcases List.mem_or_eq_of_mem_set hk with hk | rfl
        · exact hn k hk
        · exact g2
      · rcases h3 k hk r hr with ⟨m,hm,hr'⟩ | ⟨i,hi,rfl⟩
        · rcases List.mem_or_eq_of_mem_set hm with hm | rfl
          · exact .inl ⟨m,hm,hr'⟩
          · rcases g1 r hr' with hr' | rfl
            · exact .inl ⟨l,Alm hl,hr'⟩
            · exact .inr ⟨0,by simp,by simp⟩
        · exact .inr ⟨i+1,by simpa using hi,by omega⟩
    · cases h
  · cases h
theorem VN{rts:List Nat}{ys:List D}{k:Nat} : ∀ l∈D4 P rts ys k,l.ids = []∧∀ ks,l≠ .tup ks:=by
 intro l hl
 obtain ⟨i,hi⟩:=List.getElem?_of_mem hl
 have hlt:i<rts.length:=by rw[← On (P:=P) rts ys k];exact (Alj.1 hi).1
 rw[Mk (Alg hlt)]at hi
 injection hi with hi
 subst hi
 exact ⟨Wl _ _,QS _ _⟩
theorem ES(h:R P md w0 N0 M0 slot look used ds n β a w)(hsub : ∀ r b,lookR r=some b→look r=some b){o:Oper}{f:Nat}{cts:List CT}{xs ys:List D}{vs:List Value}{ps rts rs:List Nat}{d:Nat}{ls:List L}{lentEff:List (Nat×Option Blk)}(hrun:(execOp a.eval o).run P w = .ok (.enter f vs.toArray) w)(hs:Dn P md f cts xs ys)(hps : ∀ fn,P.funcs[f]? = some fn→fn.params.toList=ps∧fn.resultTypes.toList=rts)
   (hargs:ArgsOk P md w (Ap M0 (Bh look (Cb lookR rs)) β) (md f) (ps.map .ty++cts) xs vs) (hfresh : ∀ q,Dl d (md f).own.length q→¬ used q) (hls:Fk P rts (md f).own d (D4 P rts ys 0)=some ls) (hoo:Oe P rts (md f).own=true)
   (hL:(lentEff = []∧(∀ b,¬ C7 (md f) vs b)∧(md f).back=false)∨(∃ r es p,Bh look (Cb lookR rs) r=some (.row (Fq P ps (md f)) es true)∧(md f).arg=some p∧vs[p]? = some (β r)∧lentEff=if (md f).back then [(r,some (.row (Fq P ps (md f)) (ys.getD rts.length .nil).els true))] else [(r,none)]))
   (hpl : ∀ p,(md f).arg=some p→∃ t e es v,(ps.map CT.ty++cts)[p]? = some (.ty t)∧B3 P t=some e∧one P t=true∧xs[p]? = some (.sl es)∧vs[p]? = some v∧RowV P md w (Ap M0 (Bh look (Cb lookR rs)) β) e es v) :
   Ca P o a w (B8 P md w0 N0 M0 slot look used ds n a (Ii ls) (Cb lookR rs++lentEff++Cv P rts ys (md f).own d)):=by
 obtain ⟨fn,hfn,_,_,hcalls⟩:=hs
 obtain ⟨rfl,rfl⟩:=hps fn hfn
 have h1:=h.fz hsub rs
 generalize hlk1:Bh look (Cb lookR rs)=look1 at *
 obtain ⟨lr,hlr1,hlr2,hlr3⟩ : ∃ lr:Option Nat,(∀ b,C7 (md f) vs b↔∃ r,lr=some r∧A_ (β r)=some b)∧(∀ r,lr=some r→∃ es p,look1 r=some (.row (Fq P fn.params.toList (md f)) es true)∧(md f).arg=some p∧vs[p]? = some (β r)∧lentEff=if (md f).back then [(r,some (.row (Fq P fn.params.toList (md f)) (ys.getD fn.resultTypes.toList.length .nil).els true))] else [(r,none)])∧(lr=none→lentEff = []∧(md f).back=false):=by
   rcases hL with ⟨e1,e2,e3⟩ | ⟨r,es,p,g1,g2,g3,g4⟩
   · exact ⟨none,fun b=>⟨fun hb=>(e2 b hb).elim,fun ⟨r,hr,_⟩=>by cases hr⟩,(fun r hr=>by cases hr),fun _=>⟨e1,e3⟩⟩
   · refine ⟨some r,fun b=>⟨fun ⟨p',v,hp',hv,hB⟩=> ?_,fun ⟨q,hq,hB⟩=> ?_⟩,fun q hq=> ?_,fun hn=>by cases hn⟩
     · rw[g2]at hp'
       injection hp' with hp'
       subst hp'
       rw[g3]at hv
       injection hv with hv
       subst hv
       exact ⟨r,rfl,hB⟩
     · injection hq with hq
       subst hq
       exact ⟨p,_,g2,g3,hB⟩
     · injection hq with hq
       subst hq
       exact ⟨es,p,g1,g2,g3,g4⟩
 clear hL
 have hMc : ∀ b,(Ap M0 look1 β b∧¬ C7 (md f) vs b)∨C7 (md f) vs b↔Ap M0 look1 β b:=by
   intro b
   constructor
   · rintro (hb | hb)
     · exact hb.1
     · obtain ⟨r,hr,hB⟩:=(hlr1 b).1 hb
       obtain ⟨es,p,g1,_⟩:=hlr2 r hr
       exact .inr ⟨r,_,g1,rfl,hB⟩
   · intro hb
     by_cases hl:C7 (md f) vs b
     · exact .inr hl
     · exact .inl ⟨hb,hl⟩
 have hMce:(fun b=>(Ap M0 look1 β b∧¬ C7 (md f) vs b)∨C7 (md f) vs b)=Ap M0 look1 β:=funext fun b=>propext (hMc b)
 have hlrused : ∀ r,lr=some r→used r:=fun r hr=>by
   obtain ⟨es,p,g1,_⟩:=hlr2 r hr
   exact (h1.usedB r _ g1).1
 refine CD hrun ((hcalls w (fun b=>Ap M0 look1 β b∧¬ C7 (md f) vs b) vs d (lr.getD (d+50000)) (fun k hk e=> ?_) ⟨hargs.lenx,hargs.lenv,fun b hb=>⟨h1.Mlt hb.1,hb.2⟩,fun i ct x v q1 q2 q3 q4=>by rw[hMce];exact hargs.rd i ct x v q1 q2 q3 q4,fun p hp=>by rw[hMce];exact hpl p hp⟩).mono ?_)
 · cases hl:lr with
   | none=>rw[hl]at e;simp at e;omega
   | some r=>rw[hl]at e;simp at e;exact hfresh r ⟨k,hk,e⟩ (hlrused r hl)
 rintro e w' ⟨us,β',hp⟩
 obtain ⟨hpE,hpLen,hpStp,hpVl0,hpBlks,hpOwn,hpSep,hpBack⟩:=hp
 have hpVl:=hpVl0 ls hls
 clear hpVl0
 refine ⟨J8 us,hpE,?_⟩
 generalize hlk:Dt P (md f) fn.params.toList fn.resultTypes.toList ys d (lr.getD (d+50000))=lk at *
 have hOI : ∀ q,Dl d (md f).own.length q→lk q=Bh look1 (Cv P fn.resultTypes.toList ys (md f).own d) q:=by
   intro q hq
   rw[← hlk,Dt,Ix]
   exact RD hq _ _
 have hlkNot : ∀ q b,lk q=some b→Dl d (md f).own.length q∨(∃ r,lr=some r∧q=r∧(md f).back=true∧b = .row (Fq P fn.params.toList (md f)) (ys.getD fn.resultTypes.toList.length .nil).els true):=by
   intro q b hq
   by_cases ho:Dl d (md f).own.length q
   · exact .inl ho
   · rw[← hlk,Dt,Ix,Qy ho]at hq
     cases hb:(md f).back with
     | false=>rw[Kk,hb]at hq;simp[Bh]at hq
     | true =>
       rw[Kk,hb]at hq
       simp only[if_true,Bh]at hq
       by_cases hqb:q=lr.getD (d+50000)
       · subst hqb
         rw[Bz]at hq
         injection hq with hq
         cases hl:lr with
         | none=>have:=(hlr3 hl).2;rw[hb]at this;cases this
         | some r=>exact .inr ⟨r,rfl,rfl,rfl,hq.symm⟩
       · rw[Bo _ _ hqb]at hq;cases hq
 have hlkBack : ∀ r,lr=some r→(md f).back=true→lk r=some (.row (Fq P fn.params.toList (md f)) (ys.getD fn.resultTypes.toList.length .nil).els true)∧β' r=β r:=by
   intro r hr hb
   obtain ⟨es,p,g1,g2,g3,_⟩:=hlr2 r hr
   have hno : ¬ Dl d (md f).own.length r:=fun ho=>hfresh r ho (hlrused r hr)
   refine ⟨?_,?_⟩
   · rw[← hlk,Dt,Ix,Qy hno,Kk,hb,hr]
     simp[Bh,Au]
   · have:=hpBack hb p (β r) g2 g3
     rw[hr]at this
     exact this
 have hlook2:Bh look (Cb lookR rs++lentEff++Cv P fn.resultTypes.toList ys (md f).own d)=Bh (Bh look1 lentEff) (Cv P fn.resultTypes.toList ys (md f).own d):=by rw[Ix,Ix,hlk1]
 unfold B8
 rw[hlook2]
 generalize hl2:Bh (Bh look1 lentEff) (Cv P fn.resultTypes.toList ys (md f).own d)=look2 at *
 have hl2O : ∀ q,Dl d (md f).own.length q→look2 q=lk q:=fun q hq=>by rw[← hl2,hOI q hq];exact RD hq _ _
 have hl2N : ∀ q,¬ Dl d (md f).own.length q→lr≠some q→look2 q=look1 q:=fun q hq hr=>by
   rw[← hl2,Qy hq]
   cases hl:lr with
   | none=>rw[(hlr3 hl).1];rfl
   | some r =>
     obtain ⟨es,p,_,_,_,g4⟩:=hlr2 r hl
     rw[g4]
     have hne:q≠r:=fun e=>hr (by rw[hl,e])
     split <;> simp[Bh,Bo _ _ hne]
 have hl2L : ∀ r,lr=some r→look2 r=(if (md f).back then lk r else none):=fun r hr=>by
   have hno : ¬ Dl d (md f).own.length r:=fun ho=>hfresh r ho (hlrused r hr)
   obtain ⟨es,p,_,_,_,g4⟩:=hlr2 r hr
   rw[← hl2,Qy hno,g4]
   split
   · rename_i hb;rw[(hlkBack r hr hb).1];simp[Bh,Au]
   · simp[Bh,Au]
 obtain ⟨β2,hβO,hβN⟩ : ∃ β2:Nat→Value,(∀ q,Dl d (md f).own.length q→β2 q=β' q)∧(∀ q,¬ Dl d (md f).own.length q→β2 q=β q):=by
   classical
   exact ⟨fun q=>if Dl d (md f).own.length q then β' q else β q,fun q hq=>by simp[hq],fun q hq=>by simp[hq]⟩
 have hM2 : ∀ b,Ap M0 look2 β2 b→b<w'.heap.size→Ap (fun b=>Ap M0 look1 β b∧¬ C7 (md f) vs b) lk β' b:=by
   intro b hb _
   rcases hb with hb | ⟨q,k,hq,hk,hB⟩
   · refine .inl ⟨.inl hb,fun hl=> ?_⟩
     obtain ⟨r,hr,hB⟩:=(hlr1 b).1 hl
     obtain ⟨es,p,g1,_⟩:=hlr2 r hr
     exact h1.M0own g1 hB hb
   · by_cases ho:Dl d (md f).own.length q
     · rw[hl2O q ho]at hq
       rw[hβO q ho]at hB
       exact .inr ⟨q,k,hq,hk,hB⟩
     · rw[hβN q ho]at hB
       by_cases hr:lr=some q
       · rw[hl2L q hr]at hq
         split at hq
         · rename_i hbk
           obtain ⟨b1,b2⟩:=hlkBack q hr hbk
           exact .inr ⟨q,k,hq,hk,by rw[b2];exact hB⟩
         · cases hq
       · rw[hl2N q ho hr]at hq
         refine .inl ⟨.inr ⟨q,k,hq,hk,hB⟩,fun hl=> ?_⟩
         obtain ⟨r,hr',hB'⟩:=(hlr1 b).1 hl
         obtain ⟨es,p,g1,_⟩:=hlr2 r hr'
         exact hr (by rw[hr',h1.sep q r k _ b hq g1 hB hB'])
 have hM1 : ∀ b,Ap M0 look2 β2 b→b<w.heap.size→Ap M0 look1 β b:=by
   intro b hb hlt
   rcases hM2 b hb (Ame hlt hpStp.size) with hb | ⟨q,k,hq,hk,hB⟩
   · exact hb.1
   · rcases (hpOwn q k b hq hB).1 with h2 | h2
     · omega
     · exact (hMc b).1 (.inr h2)
 have hbrT : ∀ q b,look2 q=some b→lk q=some b→β2 q=β' q→BR P md w' (Ap M0 look2 β2) look2 β2 q b:=by
   intro q b hq hlq hβq
   have hids:b.ids = []:=by
     rcases hlkNot q b hlq with ho | ⟨_,_,_,_,rfl⟩
     · rw[hOI q ho]at hlq
       obtain ⟨_,_,rfl⟩:=RF ho hlq
       rfl
     · rfl
   exact (hpBlks q b hlq).mono (Als _) (fun _ _ _=>rfl) hM2 (fun _ _=>rfl) (by rw[hids];intro r hr;cases hr) hβq
 have hou : ∀ q b,Dl d (md f).own.length q→look2 q=some b→Il used (Cb lookR rs++lentEff++Cv P fn.resultTypes.toList ys (md f).own d) q:=by
   intro q b hq hb
   obtain ⟨i,hi,rfl⟩:=hq
   have hat:=L_ (P:=P) (rts:=fn.resultTypes.toList) (ys:=ys) (d:=d) (lk:=look1) (Alg hi)
   rw[hl2O _ ⟨i,hi,rfl⟩,hOI _ ⟨i,hi,rfl⟩,hat]at hb
   have hmem : ∀ (os:List (Nat×List Nat)) (d:Nat) (i:Nat) (hi:i<os.length),(d+100000*i,(G4 P fn.resultTypes.toList os[i]).map fun e=>Blk.row e ((ys.getD (os[i]).1 .nil).path (os[i]).2).els true)∈Cv P fn.resultTypes.toList ys os d:=by
     intro os
     induction os with
     | nil=>intro d i hi;simp at hi
     | cons o os ih =>
       intro d i hi
       cases i with
       | zero=>simp[Cv]
       | succ i =>
         simp only[Cv,Alx]
         refine .inr ?_
         have:=ih (d+100000) i (by simpa using hi)
         rwa[show d+100000+100000*i=d+100000*(i+1) by omega]at this
   have:=hmem (md f).own d i hi
   rw[hb]at this
   exact .inr ⟨b,List.mem_append_right _ this⟩
 have hR:R P md w0 N0 M0 slot look2 (Il used (Cb lookR rs++lentEff++Cv P fn.resultTypes.toList ys (md f).own d)) ds n β2 a w':=by
   refine h1.step (C7 (md f) vs) hpStp (fun b hb=> ?_) (fun q hq k hk=> ?_) (fun q k hq=> ?_) hM1 (fun q1 q2 k1 k2 B g1 g2 g3 g4=> ?_) (fun _ hu=> .inl hu)
   · obtain ⟨r,hr,hB⟩:=(hlr1 b).1 hb
     obtain ⟨es,p,g1,_⟩:=hlr2 r hr
     exact ⟨r,_,g1,rfl,hB⟩
   · have ho : ¬ Dl d (md f).own.length q:=fun ho=>hfresh q ho hq
     rw[hβN q ho]
     by_cases hr:lr=some q
     · rw[hl2L q hr]at hk
       split at hk
       · rename_i hbk
         obtain ⟨es,p,g1,_⟩:=hlr2 q hr
         obtain ⟨b1,b2⟩:=hlkBack q hr hbk
         refine ⟨_,g1,?_,rfl⟩
         have hrow1:RowV P md w (Ap M0 look1 β) _ es (β q):=h1.blks q _ g1
         have hbr:=hpBlks q k hk
         rw[b1]at hk
         injection hk with hk
         subst hk
         have hrow2:RowV P md w' _ _ (ys.getD fn.resultTypes.toList.length .nil).els (β' q):=hbr
         rw[b2]at hrow2
         obtain ⟨A1,c1,v1,_⟩:=hrow1
         obtain ⟨A2,c2,v2,_⟩:=hrow2
         rw[v1]at v2
         injection v2 with _ v2 _
         exact ⟨rfl,v2⟩
       · cases hk
     · rw[hl2N q ho hr]at hk
       exact ⟨k,hk,likeB.refl _,rfl⟩
   · by_cases ho:Dl d (md f).own.length q
     · have hlq:lk q=some k:=by rw[← hl2O q ho];exact hq
       refine .inr ⟨hbrT q k hq hlq (hβO q ho),?_,hou q k ho hq,fun B hB=> ?_⟩
       · rw[hOI q ho]at hlq
         obtain ⟨_,_,rfl⟩:=RF ho hlq
         intro r hr;simp[Blk.ids]at hr
       · rw[hβO q ho]at hB
         obtain ⟨o1,o2⟩:=hpOwn q k B hlq hB
         refine ⟨?_,o2⟩
         rcases o1 with o1 | o1
         · exact .inl (Nat.le_trans h1.stp.size o1)
         · obtain ⟨r,hr,hB'⟩:=(hlr1 B).1 o1
           obtain ⟨es,p,g1,_⟩:=hlr2 r hr
           exact (h1.own r _ B g1 hB').1
     · by_cases hr:lr=some q
       · have hq':=hq
         rw[hl2L q hr]at hq'
         split at hq'
         · rename_i hbk
           obtain ⟨b1,b2⟩:=hlkBack q hr hbk
           refine .inr ⟨hbrT q k hq hq' (by rw[hβN q ho,b2]),?_,.inl (hlrused q hr),fun B hB=> ?_⟩
           · rw[b1]at hq'
             injection hq' with hq'
             subst hq'
             intro r hr;simp[Blk.ids]at hr
           · rw[hβN q ho]at hB
             obtain ⟨es,p,g1,_⟩:=hlr2 q hr
             exact ⟨(h1.own q _ B g1 hB).1,Ame (h1.own q _ B g1 hB).2 hpStp.size⟩
         · cases hq'
       · rw[hl2N q ho hr]at hq
         refine .inl ⟨hq,hβN q ho,fun B hB hl=> ?_⟩
         obtain ⟨r,hr',hB'⟩:=(hlr1 B).1 hl
         obtain ⟨es,p,g1,_⟩:=hlr2 r hr'
         exact hr (by rw[hr',h1.sep q r k _ B hq g1 hB hB'])
   ·
     have cls : ∀ q k,look2 q=some k→∀ B,A_ (β2 q)=some B→(lk q=some k∧A_ (β' q)=some B)∨(look1 q=some k∧A_ (β q)=some B∧lr≠some q):=by
       intro q k hq B hB
       by_cases ho:Dl d (md f).own.length q
       · exact .inl ⟨by rw[← hl2O q ho];exact hq,by rw[← hβO q ho];exact hB⟩
       · rw[hβN q ho]at hB
         by_cases hr:lr=some q
         · rw[hl2L q hr]at hq
           split at hq
           · rename_i hbk
             obtain ⟨b1,b2⟩:=hlkBack q hr hbk
             exact .inl ⟨hq,by rw[b2];exact hB⟩
           · cases hq
         · rw[hl2N q ho hr]at hq
           exact .inr ⟨hq,hB,hr⟩
     have mix : ∀ q q' k k',lk q=some k→A_ (β' q)=some B→look1 q'=some k'→A_ (β q')=some B→lr≠some q'→False:=by
       intro q q' k k' x1 x2 x3 x4 x5
       rcases (hpOwn q k B x1 x2).1 with o1 | o1
       · have:=(h1.own q' k' B x3 x4).2;omega
       · obtain ⟨r,hr,hB'⟩:=(hlr1 B).1 o1
         obtain ⟨es,p,y1,_⟩:=hlr2 r hr
         exact x5 (by rw[hr,h1.sep q' r k' _ B x3 y1 x4 hB'])
     rcases cls q1 k1 g1 B g3 with ⟨a1,a2⟩ | ⟨a1,a2,a3⟩ <;> rcases cls q2 k2 g2 B g4 with ⟨b1,b2⟩ | ⟨b1,b2,b3⟩
     · exact hpSep q1 q2 k1 k2 B a1 b1 a2 b2
     · exact (mix q1 q2 k1 k2 a1 a2 b1 b2 b3).elim
     · exact (mix q2 q1 k2 k1 b1 b2 a1 a2 a3).elim
     · exact h1.sep q1 q2 k1 k2 B a1 b1 a2 b2
 obtain ⟨so1,so2,so3⟩:=WW hls
 have hlids : ∀ l∈ls,∀ r∈l.ids,Dl d (md f).own.length r:=fun l hl r hr=>by
   rcases so3 l hl r hr with ⟨k,hk,hr'⟩ | ho
   · rw[(VN k hk).1]at hr';cases hr'
   · exact ho
 refine ⟨β2,hR,ZB (by rw[hpLen,so1,On]) (so2 fun l hl=>(VN l hl).2) (fun i l u hl hu=> ?_),fun r hr=> ?_⟩
 · refine (hpVl i l u hl hu).mono (Als _) (fun _ _ _=>rfl) hM2 (fun r hr k hk=> ?_)
   have ho:=hlids l (Alm hl) r hr
   rw[hl2O r ho]at hk
   exact ⟨k,hk,likeB.refl _,hβO r ho⟩
 · have hmem:r∈L.idsL ls:=by
     match ls,hr with
     | [],hr=>simp[Ii,L.ids,L.idsL]at hr
     | [l],hr=>simpa [Ii,L.idsL]using hr
     | l1::l2::ls,hr=>simpa [Ii,L.ids]using hr
   have hex : ∃ l∈ls,r∈l.ids:=by
     have : ∀ ys:List L,r∈L.idsL ys→∃ l∈ys,r∈l.ids:=by
       intro ys
       induction ys with
       | nil=>intro h;simp[L.idsL]at h
       | cons y ys ihy =>
         intro h
         simp only[L.idsL,List.mem_append]at h
         rcases h with h | h
         · exact ⟨y,by simp,h⟩
         · obtain ⟨l,h1,h2⟩:=ihy h;exact ⟨l,by simp[h1],h2⟩
     exact this _ hmem
   obtain ⟨l,hl,hr'⟩:=hex
   have ho:=hlids l hl r hr'
   obtain ⟨b,hb⟩ : ∃ b,look2 r=some b:=by
     obtain ⟨i,hi,rfl⟩:=ho
     rw[hl2O _ ⟨i,hi,rfl⟩,hOI _ ⟨i,hi,rfl⟩,L_ (Alg hi)]
     have:=List.all_eq_true.1 hoo _ (Amj hi)
     obtain ⟨e,he⟩:=Option.isSome_iff_exists.1 this
     rw[he]
     exact ⟨_,rfl⟩
   exact hou r b ho hb
end
end Go.Proofs.YtokkbgpgaheakaaGreat
namespace Go.Proofs.YtokkbgpgaheakaaGreat
open Go.RowKit
def So(P:Program)(md:Nat→FMode)(w0:World)(N0 M0:Nat→Prop)(slot:Nat→L)(look lookR:Nat→Option Blk)(used:Nat→Prop)(ds:Dfs)(n:Nat)(a:Act)(w:World)(o:Oper)(r:OpR):Prop :=
 (∀ b∈r.conds,b=true)→match r.out with
 | .val l eff=>(∀ q∈Gx o,¬ used q)→Ca P o a w (B8 P md w0 N0 M0 slot look used ds n a l eff)
 | .call fm f cts xs rts fz lent=>∀ ys d l,o.dst=some d→(∀ q∈If d fm.own.length,¬ used q)→Dn P md f cts xs ys→M9 P fm rts d ys=some l→Ca P o a w (B8 P md w0 N0 M0 slot look used ds n a l (Lf P fm lookR rts fz lent d ys))
section
variable {P:Program} {md:Nat→FMode} {w0 w w':World} {N0 M0 M:Nat→Prop} {slot:Nat→L} {look lookR:Nat→Option Blk} {used:Nat→Prop} {ds:Dfs} {β:Nat→Value} {a:Act} {n:Nat}
theorem F4(h:R P md w0 N0 M0 slot look used ds n β a w){x:Operand}{i:Int}(hx:Dr (Am slot x)=some i) : ∃ k,Am slot x = .i k i∧a.eval x = .int k i:=by
 have hv:=By h x
 unfold Dr at hx
 split at hx
 · rename_i k m e;injection hx with hx;subst hx;rw[e]at hv;exact ⟨k,e,(Fn hv).1⟩
 · cases hx
theorem Ir{k:IntKind}{i:Int}{y:Nat}{code:BoundsCode}(h0:0≤i)(h1:i≤y):(Instr.sliceBound (.int k i) y code).run P w = .ok i.toNat w:=by
 simp[Instr.sliceBound,asIntOf,h0,h1]
theorem C0{p:Prop} [Decidable p] {bs:List Bool}(h : ∀ b∈bs,b=true)(hm:decide p∈bs):p:=of_decide_eq_true (h _ hm)
theorem Afy(hP:WfP P)(h:R P md w0 N0 M0 slot look used ds n β a w)(hsub : ∀ r b,lookR r=some b→look r=some b){o:Oper}{t:TypeId}{x:Operand}{lo hi mx:Option Operand}(ho:o.op = .slice t x lo hi mx){r:OpR}(he:Co P md o (Am slot) lookR=some r):So P md w0 N0 M0 slot look lookR used ds n a w o r:=by
 simp only[Co,ho]at he
 split at he
 · rename_i s ex
   split at he
   · rename_i e1 e2
     obtain rfl:lo=none:=by cases lo <;> first | rfl | cases e1
     obtain rfl:hi=none:=by cases hi <;> first | rfl | cases e2
     split at he
     · rename_i ht
       injection he with he;subst he
       intro hc _
       have:=Wp h ho ex ht (l:=0) (k:=s.size) (Nat.zero_le _) (Als _) (by simp[Instr.sliceBounds])
       rwa[show s.extract 0 s.size=s by simp]at this
     · cases he
   · rename_i l e1 e2
     obtain ⟨y,rfl,hy⟩ : ∃ y,lo=some y∧Dr (Am slot y)=some l:=by cases lo with | none=>cases e1 | some y=>exact ⟨y,rfl,by simpa using e1⟩
     obtain rfl:hi=none:=by cases hi <;> first | rfl | cases e2
     obtain ⟨k,_,hv⟩:=F4 h hy
     split at he
     · rename_i ht
       injection he with he;subst he
       intro hc _
       have c1:=C0 hc (p:=0≤l) (by simp)
       have c2:=C0 hc (p:=l≤s.size) (by simp)
       refine Wp h ho ex ht (by omega) (Als _) ?_
       simp[Instr.sliceBounds,hv,Ir (P:=P) (w:=w) c1 c2]
     · cases he
   · rename_i u e1 e2
     obtain ⟨y,rfl,hy⟩ : ∃ y,hi=some y∧Dr (Am slot y)=some u:=by cases hi with | none=>cases e2 | some y=>exact ⟨y,rfl,by simpa using e2⟩
     obtain rfl:lo=none:=by cases lo <;> first | rfl | cases e1
     obtain ⟨k,_,hv⟩:=F4 h hy
     split at he
     · rename_i ht
       injection he with he;subst he
       intro hc _
       have c1:=C0 hc (p:=0≤u) (by simp)
       have c2:=C0 hc (p:=u≤s.size) (by simp)
       refine Wp h ho ex ht (Nat.zero_le _) (by omega) ?_
       simp[Instr.sliceBounds,hv,Ir (P:=P) (w:=w) c1 c2]
     · cases he
   · rename_i l u e1 e2
     obtain ⟨y,rfl,hy⟩ : ∃ y,lo=some y∧Dr (Am slot y)=some l:=by cases lo with | none=>cases e1 | some y=>exact ⟨y,rfl,by simpa using e1⟩
     obtain ⟨z,rfl,hz⟩ : ∃ y,hi=some y∧Dr (Am slot y)=some u:=by cases hi with | none=>cases e2 | some y=>exact ⟨y,rfl,by simpa using e2⟩
     obtain ⟨k,_,hv⟩:=F4 h hy
     obtain ⟨k',_,hv'⟩:=F4 h hz
     split at he
     · rename_i ht
       injection he with he;subst he
       intro hc _
       have c1:=C0 hc (p:=0≤l) (by simp)
       have c2:=C0 hc (p:=l≤u) (by simp)
       have c3:=C0 hc (p:=u≤s.size) (by simp)
       refine Wp h ho ex ht (by omega) (by omega) ?_
       simp[Instr.sliceBounds,hv,hv',Ir (P:=P) (w:=w) (show 0≤u by omega) c3,Ir (P:=P) (w:=w) (y:=u.toNat) c1 (by omega)]
     · cases he
   · cases he
 · split at he
   · cases he
   · rename_i es hes
     split at he
     · cases he
     · rename_i hpos
       have hp : ∀ e,B3 P t=some e→0<P.cellsOf e:=by
         intro e hte
         simp[SH,hte]at hpos
         omega
       split at he
       · rename_i hz
         injection he with he;subst he
         intro _ _
         simp only[Alp]at hz
         obtain ⟨⟨z1,z2⟩,z3⟩:=hz
         obtain rfl:lo=none:=by simpa using z1
         have zz : ∀ q:Option Operand,U_ q=true→∃ k,q=some (.const (.int k 0)):=by
           intro q hq
           unfold U_ at hq
           split at hq
           · rename_i k m
             have:m=0:=by simpa using hq
             subst this
             exact ⟨k,rfl⟩
           · cases hq
         obtain ⟨k1,rfl⟩:=zz hi z2
         obtain ⟨k2,rfl⟩:=zz mx z3
         exact Afz h hsub ho hes hp rfl rfl
       · split at he
         · rename_i u m e1 e2 e3
           obtain rfl:lo=none:=by cases lo <;> first | rfl | cases e1
           obtain ⟨z,rfl,hz⟩ : ∃ y,hi=some y∧Dr (Am slot y)=some u:=by cases hi with | none=>cases e2 | some y=>exact ⟨y,rfl,by simpa using e2⟩
           obtain ⟨y,rfl,hy⟩ : ∃ y,mx=some y∧Dr (Am slot y)=some m:=by cases mx with | none=>cases e3 | some y=>exact ⟨y,rfl,by simpa using e3⟩
           obtain ⟨k,_,hv⟩:=F4 h hy
           obtain ⟨k',_,hv'⟩:=F4 h hz
           injection he with he;subst he
           intro hc _
           have c1:=C0 hc (p:=0≤u) (by simp)
           have c2:=C0 hc (p:=u≤m) (by simp)
           have c3:=C0 hc (p:=m≤es.length) (by simp)
           refine Wo hP h hsub ho hes hp (l:=0) (k:=u.toNat) (m:=u.toNat) (Nat.zero_le _) (by omega) (Als _) (fun cap hcap=>⟨m.toNat,by omega,by omega,?_⟩)
           simp[Instr.sliceBounds,hv,hv',Ir (P:=P) (w:=w) (show 0≤m by omega) (show m≤cap by omega),Ir (P:=P) (w:=w) (y:=m.toNat) c1 (by omega)]
         · rename_i u e1 e2 e3
           obtain rfl:lo=none:=by cases lo <;> first | rfl | cases e1
           obtain ⟨z,rfl,hz⟩ : ∃ y,hi=some y∧Dr (Am slot y)=some u:=by cases hi with | none=>cases e2 | some y=>exact ⟨y,rfl,by simpa using e2⟩
           obtain rfl:mx=none:=by cases mx <;> first | rfl | cases e3
           obtain ⟨k',_,hv'⟩:=F4 h hz
           injection he with he;subst he
           intro hc _
           have c1:=C0 hc (p:=0≤u) (by simp)
           have c2:=C0 hc (p:=u≤es.length) (by simp)
           refine Wo hP h hsub ho hes hp (l:=0) (k:=u.toNat) (m:=u.toNat) (Nat.zero_le _) (by omega) (Als _) (fun cap hcap=>⟨cap,by omega,by omega,?_⟩)
           simp[Instr.sliceBounds,hv',Ir (P:=P) (w:=w) c1 (show u≤cap by omega)]
         · rename_i l e1 e2 e3
           obtain ⟨z,rfl,hz⟩ : ∃ y,lo=some y∧Dr (Am slot y)=some l:=by cases lo with | none=>cases e1 | some y=>exact ⟨y,rfl,by simpa using e1⟩
           obtain rfl:hi=none:=by cases hi <;> first | rfl | cases e2
           obtain rfl:mx=none:=by cases mx <;> first | rfl | cases e3
           obtain ⟨k',_,hv'⟩:=F4 h hz
           injection he with he;subst he
           intro hc _
           have c1:=C0 hc (p:=0≤l) (by simp)
           have c2:=C0 hc (p:=l≤es.length) (by simp)
           have:=Wo hP h hsub ho hes hp (l:=l.toNat) (k:=es.length) (m:=es.length) (by omega) (Als _) (Als _) (fun cap hcap=>⟨cap,hcap,Als _,by simp[Instr.sliceBounds,hv',Ir (P:=P) (w:=w) c1 c2]⟩)
           rwa[List.take_length]at this
         · rename_i l u e1 e2 e3
           obtain ⟨y,rfl,hy⟩ : ∃ y,lo=some y∧Dr (Am slot y)=some l:=by cases lo with | none=>cases e1 | some y=>exact ⟨y,rfl,by simpa using e1⟩
           obtain ⟨z,rfl,hz⟩ : ∃ y,hi=some y∧Dr (Am slot y)=some u:=by cases hi with | none=>cases e2 | some y=>exact ⟨y,rfl,by simpa using e2⟩
           obtain rfl:mx=none:=by cases mx <;> first | rfl | cases e3
           obtain ⟨k,_,hv⟩:=F4 h hy
           obtain ⟨k',_,hv'⟩:=F4 h hz
           injection he with he;subst he
           intro hc _
           have c1:=C0 hc (p:=0≤l) (by simp)
           have c2:=C0 hc (p:=l≤u) (by simp)
           have c3:=C0 hc (p:=u≤es.length) (by simp)
           refine Wo hP h hsub ho hes hp (l:=l.toNat) (k:=u.toNat) (m:=u.toNat) (by omega) (by omega) (Als _) (fun cap hcap=>⟨cap,by omega,by omega,?_⟩)
           simp[Instr.sliceBounds,hv,hv',Ir (P:=P) (w:=w) (show 0≤u by omega) (show u≤cap by omega),Ir (P:=P) (w:=w) (y:=u.toNat) c1 (by omega)]
         · cases he
theorem Vo{d q:Nat} : ∀ {k:Nat},Dl d k q→q∈If d k
 | 0,⟨i,hi,_⟩=>by omega
 | k+1,⟨i,hi,hq⟩=>by
  simp only[If,Alx]
  by_cases e:i=k
  · subst e;exact .inl hq
  · exact .inr (Vo ⟨i,by omega,hq⟩)
theorem Af5{fm:FMode}{rs:List Nat}(h:Wr P fm rs=true) : ∃ t e,rs = [t]∧fm.own = [(0,[])]∧B3 P t=some e∧G7 P e=true∧one P t=true:=by
 unfold Wr at h
 split at h
 · rename_i t ho
   split at h
   · rename_i e he
     rw[Alp]at h
     exact ⟨t,e,rfl,ho,he,h.1,h.2⟩
   · cases h
 · cases h
theorem Af6{rs:List Nat}{os:List (Nat×List Nat)}(h1:Oe P rs os=true)(h2:rs.all (G7 P)=true):os = []:=by
 cases os with
 | nil=>rfl
 | cons o os =>
  exfalso
  have h:=List.all_eq_true.1 h1 o (by simp)
  unfold G4 at h
  split at h
  · rename_i t ht
    have hs:=List.all_eq_true.1 h2 t (Alm ht)
    split at h
    · rename_i u hu
      split at h
      · cases ho:o.2 with
        | nil =>
         rw[ho]at hu
         simp only[B5,Alo]at hu
         subst hu
         unfold B3 at h
         unfold G7 at hs
         split at h
         · rename_i e he;rw[he]at hs;cases hs
         · cases h
        | cons i p =>
         rw[ho]at hu
         simp only[B5]at hu
         split at hu
         · cases hu
         · rename_i fs hfs
           obtain ⟨⟨b,hb,_⟩,_⟩:=Ck hfs
           unfold G7 at hs
           rw[hb]at hs
           cases hs
      · cases h
    · cases h
  · cases h
def IX(P:Program)(md:Nat→FMode)(w:World)(M0:Nat→Prop)(look lookR:Nat→Option Blk)(β:Nat→Value)(fz0:List Nat)(cts:List CT)(dd:List D)(cvs:List Value):Prop :=
 ∀ rs:List Nat,(∀ r∈fz0,r∈rs)→cts.length=dd.length∧cvs.length=dd.length∧∀ (i:Nat) (ct:CT) (x:D) (v:Value),cts[i]? = some ct→dd[i]? = some x→cvs[i]? = some v→Rd P md w (Ap M0 (Bh look (Cb lookR rs)) β) ct x v
theorem N4{ls:List L}{l:L}(h:l∈ls){r:Nat}(hr:r∈C4 lookR l):r∈C5 lookR ls:=by
 simp only[C5,List.mem_flatMap];exact ⟨l,h,hr⟩
theorem KL(hP:WfP P)(h:R P md w0 N0 M0 slot look used ds n β a w)(hsub : ∀ r b,lookR r=some b→look r=some b){o:Oper}{f:Nat}{ps rs:List Nat}{cts:List CT}{dd:List D}{args:List Operand}{fz0 tys:List Nat}{r:OpR}{cvs:List Value}
   (he:S5 P md (md f) f ps rs cts dd lookR (args.map (Am slot)) fz0 tys=some r) (hps : ∀ fn,P.funcs[f]? = some fn→fn.params.toList=ps∧fn.resultTypes.toList=rs)
   (hrun : ∀ fn, P.funcs[f]? = some fn → fn.body.isSome = true → (fn.name == "runtime.NumGoroutine") = false → (execOp a.eval o).run P w = .ok (.enter f (args.map a.eval ++ cvs).toArray) w) (hcap : IX P md w M0 look lookR β fz0 cts dd cvs) :
   So P md w0 N0 M0 slot look lookR used ds n a w o r:=by
 unfold S5 at he
 split at he
 · cases he
 · rename_i xs hxs
   split at he
   · rename_i hcond
     simp only[Alp,beq_iff_eq]at hcond
     obtain ⟨⟨⟨⟨_,hoo⟩,_⟩,_⟩,_⟩:=hcond
     have hrun' : ∀ ys,Dn P md f cts (xs++dd) ys→(execOp a.eval o).run P w = .ok (.enter f (args.map a.eval++cvs).toArray) w:=by
       rintro ys ⟨fn,h1,h2,h3,_⟩
       exact hrun fn h1 h2 h3
     obtain ⟨e1,e2,e3⟩:=Td hxs
     rw[Ali]at e1
     split at he
     · rename_i harg
       split at he
       · cases he
       · rename_i hback
         have hb:(md f).back=false:=by simpa using hback
         have hno : ∀ b,¬ C7 (md f) (args.map a.eval++cvs) b:=by rintro b ⟨p,v,hp,_⟩;rw[harg]at hp;cases hp
         injection he with he
         subst he
         intro _ ys d l hd hfr hspec hl
         have hA:=JO (fm:=md f) (rs:=fz0++C5 lookR (args.map (Am slot))) hP h hsub hxs (fun i x hx _ r hr=>List.mem_append_right _ (N4 (List.mem_map.2 ⟨x,Alm hx,rfl⟩) hr)) (hcap _ (fun r hr=>List.mem_append_left _ hr)) (fun p hp=>by rw[harg]at hp;cases hp)
         simp only[M9,Alv]at hl
         obtain ⟨ls,hls,rfl⟩:=hl
         by_cases hsc:rs.all (G7 P)=true
         · have hown:=Af6 hoo hsc
           rw[hown]at hls
           simp only[Fk,Alo]at hls
           subst hls
           simp only[Lf,hsc,Bool.true_or,if_true,Cb,hown,Cv,Al2]
           exact Afh h hsub (hrun' ys hspec) hspec hps harg hown hA hsc
         by_cases hos:Wr P (md f) rs=true
         · obtain ⟨t,e,rfl,hown,hte,hse,h1t⟩:=Af5 hos
           have hot:G4 P [t] (0,[])=some e:=by simp[G4,B5,h1t,hte]
           rw[hown]at hls
           simp only[Fk,D4,List.getElem?_cons_zero,D_,List.set_cons_zero,Alo]at hls
           subst hls
           simp only[Lf,hos,Bool.or_true,if_true,Cb,hown,Cv,hot,Option.map_some,D.path,Al2,Amo,Ii]
           exact Afg h hsub (hrun' ys hspec) hspec hps harg hb hown rfl hte h1t hse hA (hfr d (by rw[hown];simp[If]))
         · simp only[Lf,hsc,hos,Bool.or_self,Bool.false_eq_true,if_false]
           exact ES h hsub (hrun' ys hspec) hspec hps hA (fun q hq=>hfr q (Vo hq)) hls hoo (.inl ⟨rfl,hno,hb⟩) (fun p hp=>by rw[harg]at hp;cases hp)
     · rename_i p harg
       split at he
       · rename_i lr hlr
         split at he
         · rename_i hfree
           injection he with he
           subst he
           intro _ ys d l hd hfr hspec hl
           simp only[M9,Alv]at hl
           obtain ⟨ls,hls,rfl⟩:=hl
           have hplt : ∀ q,(md f).arg=some q→q<ps.length:=by
             intro q hq
             rw[harg]at hq
             injection hq with hq
             subst hq
             unfold DR at hlr
             split at hlr
             · rename_i h1;exact (Alj.1 h1).1
             · rename_i h1;exact (Alj.1 h1).1
             · cases hlr
           have hA:=JO (fm:=md f) (rs:=fz0++C5 lookR ((args.map (Am slot)).eraseIdx p)) hP h hsub hxs (fun i x hx hne r hr=>List.mem_append_right _ (N4 (PH (i:=i) (by rw[Aly,hx];rfl) (fun e=>hne (by rw[harg,e]))) hr)) (hcap _ (fun r hr=>List.mem_append_left _ hr)) hplt
           generalize hrs:fz0++C5 lookR ((args.map (Am slot)).eraseIdx p)=rs' at *
           unfold DR at hlr
           split at hlr
           · rename_i q t hq ht
             split at hlr
             · rename_i e es hrow
               split at hlr
               · rename_i hc
                 simp only[Alp,beq_iff_eq]at hc
                 obtain ⟨⟨hte,hone⟩,_⟩:=hc
                 injection hlr with hlr
                 subst hlr
                 have hqf:q∉rs':=by simpa using hfree
                 have hE:Fq P ps (md f)=e:=by simp[Fq,harg,ht,hte]
                 rw[Aly,Alv]at hq
                 obtain ⟨x,hx,hxq⟩:=hq
                 have hpl':p<args.length:=(Alj.1 hx).1
                 have hvx:(args.map a.eval++cvs)[p]? = some (β q):=by
                   rw[Al5 (by simpa using hpl'),Aly,hx]
                   have:=By h x
                   rw[hxq]at this
                   simp[Im this (hsub _ _ hrow)]
                 have hlq:Bh look (Cb lookR rs') q=some (.row e es true):=by rw[P_ _ _ _ hqf];exact hsub _ _ hrow
                 have hD:=ES h hsub (rs:=rs') (d:=d) (ls:=ls) (lentEff:=if (md f).back then [(q,some (.row (Fq P ps (md f)) (ys.getD rs.length .nil).els true))] else [(q,none)]) (hrun' ys hspec) hspec hps hA (fun q hq=>hfr q (Vo hq)) hls hoo (.inr ⟨q,es,p,by rw[hE];exact hlq,harg,hvx,rfl⟩) (fun p' hp'=>by
                   rw[harg]at hp'
                   injection hp' with hp'
                   subst hp'
                   refine ⟨t,e,es,β q,?_,hte,hone,?_,hvx,(h.fz hsub rs').blks q _ hlq⟩
                   · rw[Al5 (by rw[Ali];exact (Alj.1 ht).1),Aly,ht];rfl
                   · have hpx:p<xs.length:=by rw[e2];exact (Alj.1 ht).1
                     have:=e3 p (.row q) t xs[p] (by rw[Aly,hx];simp[hxq]) ht (Alg hpx)
                     simp only[conv,Cd,hrow,hte,beq_self_eq_true,if_true,Alo]at this
                     rw[Al5 hpx,Alg hpx,← this])
                 rw[hE]at hD
                 exact hD
               · cases hlr
             · cases hlr
           · rename_i t hq ht
             split at hlr
             · cases hlr
             · rename_i hback
               have hb:(md f).back=false:=by simpa using hback
               split at hlr
               · rename_i e hte
                 split at hlr
                 · rename_i hone
                   injection hlr with hlr
                   subst hlr
                   rw[Aly,Alv]at hq
                   obtain ⟨x,hx,hxq⟩:=hq
                   have hpl':p<args.length:=(Alj.1 hx).1
                   obtain ⟨A,hvx⟩ : ∃ A,(args.map a.eval++cvs)[p]? = some (.slice A 0 0):=by
                     have:=By h x
                     rw[hxq]at this
                     obtain ⟨A,hA'⟩:=Sb this
                     exact ⟨A,by rw[Al5 (by simpa using hpl'),Aly,hx];simp[hA']⟩
                   have hno : ∀ b,¬ C7 (md f) (args.map a.eval++cvs) b:=by
                     rintro b ⟨p',v,hp',hv,hB⟩
                     rw[harg]at hp'
                     injection hp' with hp'
                     subst hp'
                     rw[hvx]at hv
                     injection hv with hv
                     subst hv
                     cases A <;> simp[A_]at hB
                   exact ES h hsub (rs:=rs') (d:=d) (ls:=ls) (lentEff:=[]) (hrun' ys hspec) hspec hps hA (fun q hq=>hfr q (Vo hq)) hls hoo (.inl ⟨rfl,hno,hb⟩) (fun p' hp'=>by
                     rw[harg]at hp'
                     injection hp' with hp'
                     subst hp'
                     refine ⟨t,e,[],.slice A 0 0,?_,hte,hone,?_,hvx,⟨A,0,rfl,.inl ⟨rfl,rfl⟩⟩⟩
                     · rw[Al5 (by rw[Ali];exact (Alj.1 ht).1),Aly,ht];rfl
                     · have hpx:p<xs.length:=by rw[e2];exact (Alj.1 ht).1
                       have:=e3 p .mt t xs[p] (by rw[Aly,hx];simp[hxq]) ht (Alg hpx)
                       simp only[conv,Cd,hte,Option.isSome_some,if_true,Alo]at this
                       rw[Al5 hpx,Alg hpx,← this])
                 · cases hlr
               · cases hlr
           · cases hlr
         · cases he
       · cases he
   · cases he
theorem AaY(h:R P md w0 N0 M0 slot look used ds n β a w)(hsub : ∀ r b,lookR r=some b→look r=some b){caps:List L}{vs:Array Value}{cts:List CT}{dd:List D}(hsz:vs.size=caps.length)(hv : ∀ (i:Nat) (l:L) (u:Value),caps[i]? = some l→vs[i]? = some u→LC P md w (Ap M0 look β) look β l (fun j=>u.cells[j]?)∧szOk P l u)
  (h1:Lg lookR caps=some cts) (h2:Lh P lookR caps=some dd):IX P md w M0 look lookR β (caps.flatMap (M_ lookR)) cts dd vs.toList:=by
 intro rs hrs
 obtain ⟨c1,c2⟩:=BC h1
 obtain ⟨d1,d2⟩:=BE h2
 refine ⟨by rw[c1,d1],by simp[hsz,d1],fun i ct x v hct hx hvi=> ?_⟩
 have hi:i<caps.length:=by rw[← c1];exact (Alj.1 hct).1
 have hli:=Alg hi
 rw[Array.getElem?_toList]at hvi
 obtain ⟨g1,g2⟩:=hv i _ v hli hvi
 have:=BD hsub (Np h hsub rs) h.blks h.blt g1 g2 (c2 i _ ct hli hct) (d2 i _ x hli hx) (fun r hr=>P9 h hsub rs r (hrs r (List.mem_flatMap.2 ⟨_,Amj hi,hr⟩)))
 exact ⟨this.1,this.2.1,this.2.2⟩
theorem WE {o : Oper} {c : Call} {g : Operand} {f : Nat} {vs : Array Value} (ho : o.op = .call c) (hc : c.callee = .value g) (hg : a.eval g = .func (.func f) #[] vs) {fn : Func} (h1 : P.funcs[f]? = some fn) (h2 : fn.body.isSome = true) (h3 : (fn.name == "runtime.NumGoroutine") = false) :
  (execOp a.eval o).run P w = .ok (.enter f (c.args.toList.map a.eval++vs.toList).toArray) w:=by
 have:=WF (w:=w) (vs:=c.args.map a.eval++vs) h1 h2 h3
 have e:(c.args.toList.map a.eval++vs.toList).toArray=c.args.map a.eval++vs:=by rw[← Array.toList_inj];simp
 rw[e]
 simp[execOp,ho,resolve,hc,hg,Deferred.ofValue,invoke,this]
theorem Aff(hP:WfP P)(h:R P md w0 N0 M0 slot look used ds n β a w)(hsub : ∀ r b,lookR r=some b→look r=some b){o:Oper}{c:Call}(ho:o.op = .call c){r:OpR}(he:Co P md o (Am slot) lookR=some r):So P md w0 N0 M0 slot look lookR used ds n a w o r:=by
 simp only[Co,ho]at he
 have args1 : ∀ v,c.args.toList.map (Am slot) = [v]→∃ x,c.args.toList = [x]∧Am slot x=v:=by
   intro v hv
   match hargs:c.args.toList,hv with
   | [x],hv=>exact ⟨x,rfl,by simpa using hv⟩
   | [],hv=>simp at hv
   | _::_::_,hv=>simp at hv
 have args2 : ∀ v u,c.args.toList.map (Am slot) = [v,u]→∃ x y,c.args.toList = [x,y]∧Am slot x=v∧Am slot y=u:=by
   intro v u hv
   match hargs:c.args.toList,hv with
   | [x,y],hv=>simp at hv;exact ⟨x,y,rfl,hv.1,hv.2⟩
   | [],hv=>simp at hv
   | [_],hv=>simp at hv
   | _::_::_::_,hv=>simp at hv
 split at he
 · rename_i v hc hargs
   obtain ⟨x,hx,rfl⟩:=args1 v hargs
   split at he
   · cases he
   · rename_i hne
     have hne':c.argTypes.size≠0:=by simpa using hne
     split at he
     · rename_i s hs
       split at he
       · rename_i ht
         injection he with he;subst he
         intro _ _
         exact Afq h ho hc hx hne' hs ht
       · cases he
     · rename_i es hes _
       injection he with he;subst he
       intro _ _
       exact Afp h hsub ho hc hx hne' hes
     · cases he
 · rename_i v u hc hargs
   obtain ⟨x,y,hx,rfl,rfl⟩:=args2 v u hargs
   split at he
   · rename_i d e xs hd hte hxs
     split at he
     · rename_i hcond
       simp only[Alp,beq_iff_eq]at hcond
       obtain ⟨⟨⟨k1,k2⟩,k3⟩,k4⟩:=hcond
       rw[k2]at hxs
       have hmade:Gx o = [d]:=by simp[Gx,ho,hc,hd]
       split at he
       · rename_i hmt
         injection he with he;subst he
         intro hcs hm
         exact AeZ hP h hsub ho hc hx k1 k2 (hm d (by simp[hmade])) hte k3 k4 hxs hmt (C0 hcs (by simp))
       · rename_i q hq
         split at he
         · rename_i e' es hrow
           split at he
           · rename_i hcc
             simp only[Alp,beq_iff_eq]at hcc
             obtain ⟨rfl,_⟩:=hcc
             injection he with he;subst he
             intro hcs hm
             exact Afa hP h hsub ho hc hx k1 k2 (hm d (by simp[hmade])) hte k3 k4 hxs hq (hsub _ _ hrow) (C0 hcs (by simp))
           · cases he
         · cases he
       · cases he
     · cases he
   · cases he
 · rename_i q u hc hargs
   obtain ⟨x,y,hx,hq,rfl⟩:=args2 _ u hargs
   split at he
   · rename_i e es xs hrow hxs
     split at he
     · rename_i hcond
       simp only[Alp,beq_iff_eq]at hcond
       obtain ⟨⟨⟨⟨k1,k2⟩,k3⟩,k4⟩,k5⟩:=hcond
       injection he with he;subst he
       intro hcs hm
       exact Afj hP h hsub ho hc hx k1 k2 k3 k5 hxs hq (hsub _ _ hrow) (by simpa using k4)
     · cases he
   · cases he
 · rename_i hc
   simp only[Alv]at he
   obtain ⟨l,hl,rfl⟩:=he
   intro _ _
   exact QZ (mx:=true) h ho (by simpa using hc) hl
 · rename_i hc
   simp only[Alv]at he
   obtain ⟨l,hl,rfl⟩:=he
   intro _ _
   exact QZ (mx:=false) h ho (by simpa using hc) hl
 · rename_i g hc
   split at he
   · rename_i f caps hg
     split at he
     · rename_i fn cts dd hfn hcts hds
       have hv:=By h g
       rw[hg]at hv
       obtain ⟨vs,v1,v2,v3⟩:=ZN hv
       refine KL (cvs:=vs.toList) hP h hsub he (fun fn' hfn'=> ?_) (fun fn' h1 h2 h3=>WE ho hc v1 h1 h2 h3) (AaY h hsub v2 v3 hcts hds)
       rw[hfn]at hfn'
       injection hfn' with hfn'
       subst hfn'
       exact ⟨rfl,rfl⟩
     · cases he
   · rename_i t x hg
     split at he
     · rename_i ps rs va hu
       have hv:=By h g
       rw[hg]at hv
       obtain ⟨hl,hsz⟩:=C2 hv (by simp) (by simp) (by simp)
       have hcc:=Fi hsz (by simp[L.isAgg,A9,hu])
       cases hl with
       | d hrd =>
         cases hrd with
         | int ht _ _ _=>rw[show P.underlying t=_ from ht]at hu;cases hu
         | bool ht _=>rw[show P.underlying t=_ from ht]at hu;cases hu
         | str ht _ _=>rw[show P.underlying t=_ from ht]at hu;cases hu
         | sl ht _ _ _ _ _=>rw[show P.underlying t=_ from ht]at hu;cases hu
         | struct ht _ _=>obtain ⟨⟨b,hb,_⟩,_⟩:=Ck ht;rw[hb]at hu;cases hu
         | ref ht _ _ _ _=>rw[show P.underlying t=_ from ht]at hu;cases hu
         | mp ht _ _ _ _ _ _ _ _ _ _=>rw[show P.underlying t=_ from ht]at hu;cases hu
         | @fn _ ps' rs' va' f fn cts dd vs c ht hf hp hr hm hc' hl hl2 hel hs =>
           have ht':P.underlying t=some (.func ps' rs' va'):=ht
           rw[hu]at ht'
           injection ht' with ht'
           injection ht' with q1 q2 q3
           subst q1;subst q2
           have hfv:a.eval g = .func (.func f) #[] vs:=by
             have hc'':(a.eval g).cells[0]? = some (.func (.func f) #[] vs):=hc'
             rw[hcc]at hc''
             simpa using hc''
           simp only[D.fnId,D.fnCts,D.fnDs]at he
           rw[← hm]at he
           refine KL (cvs:=vs.toList) hP h hsub he (fun fn' hfn'=> ?_) (fun fn' h1 h2 h3=>WE ho hc hfv h1 h2 h3) (fun rs _=>⟨hl,by simpa using hl2,fun i ct x v h1 h2 h3=> ?_⟩)
           · rw[hf]at hfn'
             injection hfn' with hfn'
             subst hfn'
             rw[hp,hr]
             exact ⟨rfl,rfl⟩
           · rw[Array.getElem?_toList]at h3
             have:=hs i ct v h1 h3
             exact ⟨(hel i ct x v h1 h2 h3).mono (Als _) (fun _ _ _=>rfl) (fun b hb _=>Np h hsub rs b hb),this.1,this.2⟩
     · cases he
   · cases he
 · cases he
theorem AeX(hP:WfP P)(h:R P md w0 N0 M0 slot look used ds n β a w)(hsub : ∀ r b,lookR r=some b→look r=some b){o:Oper}{r:OpR}(he:Co P md o (Am slot) lookR=some r):So P md w0 N0 M0 slot look lookR used ds n a w o r:=by
 cases ho:o.op with
 | slice t x lo hi mx=>exact Afy hP h hsub ho he
 | call c=>exact Aff hP h hsub ho he
 | move x =>
  simp only[Co,ho,Alo]at he;subst he
  intro _ _;exact RA h (.inl ho)
 | assign x =>
  simp only[Co,ho,Alo]at he;subst he
  intro _ _;exact RA h (.inr ho)
 | pick c x y =>
  simp only[Co,ho]at he
  split at he
  · rename_i hc
    injection he with he;subst he
    intro _ _;exact EU h ho (b:=true) (by rw[hc];rfl) (By h x) (Ie h x)
  · rename_i hc
    injection he with he;subst he
    intro _ _;exact EU h ho (b:=false) (by rw[hc];rfl) (By h y) (Ie h y)
  · rename_i b hc
    split at he
    · rename_i p q hp hq
      injection he with he;subst he
      intro _ _
      refine EU h ho (b:=b) (by rw[hc];rfl) ?_ (by simp[L.ids])
      cases b
      · simp only[Bool.false_eq_true,if_false,cond_false];rw[Sc (By h y) hq];exact Kt
      · simp only[if_true,cond_true];rw[Sc (By h x) hp];exact Kt
    · cases he
  · cases he
 | alloc t =>
  simp only[Co,ho]at he
  split at he
  · rename_i d z hd hz
    injection he with he;subst he
    intro _ hm;exact AeY h ho (hm d (by simp[Gx,ho,hd])) hz
  · cases he
 | box t x =>
  simp only[Co,ho]at he
  split at he
  · rename_i d hd
    split at he
    · rename_i hc
      simp only[Alp,decide_eq_true_eq]at hc
      injection he with he;subst he
      intro _ hm;exact Afc h ho (hm d (by simp[Gx,ho,hd])) hc.1 hc.2
    · cases he
  · cases he
 | build t ps =>
  simp only[Co,ho]at he
  split at he
  · rename_i fs t' zs hfs hz
    split at he
    · rename_i hc
      simp only[Alp,beq_iff_eq]at hc
      obtain ⟨rfl,_⟩:=hc
      simp only[Alv]at he
      obtain ⟨ls,hls,rfl⟩:=he
      intro _ _;exact Afd hP h ho hfs hz hls
    · cases he
  · cases he
 | buildSlice t m ps =>
  simp only[Co,ho]at he
  split at he
  · rename_i d e hd hte
    split at he
    · rename_i hc
      simp only[Alp,beq_iff_eq,decide_eq_true_eq]at hc
      obtain ⟨⟨⟨k1,k2⟩,k3⟩,k4⟩:=hc
      split at he
      · rename_i es hes
        injection he with he;subst he
        intro _ hm;exact Afe hP h hsub ho (hm d (by simp[Gx,ho,hd])) hte k1 k2 k3 k4 hes
      · cases he
    · cases he
  · cases he
 | load t x =>
  simp only[Co,ho]at he
  split at he
  · rename_i r p hx
    split at he
    · rename_i t0 l lv hr
      split at he
      · rename_i t' l' hs
        split at he
        · rename_i hc
          simp only[Alp,beq_iff_eq]at hc
          obtain ⟨rfl,hok⟩:=hc
          injection he with he;subst he
          intro _ _;exact Afs hP h ho hx (hsub _ _ hr) hs hok
        · cases he
      · cases he
    · cases he
  · rename_i r j p hx
    split at he
    · rename_i e es lv hr
      split at he
      · rename_i hc
        injection he with he;subst he
        intro _ _;exact Aft hP h ho hx (hsub _ _ hr) (by simpa using hc)
      · cases he
    · cases he
  · rename_i t' y hx
    split at he
    · rename_i hc
      simp only[Alp,beq_iff_eq,decide_eq_true_eq]at hc
      obtain ⟨rfl,hp⟩:=hc
      injection he with he;subst he
      intro _ _;exact Afr hP h ho hx hp
    · cases he
  · cases he
 | store t x v =>
  simp only[Co,ho]at he
  split at he
  · rename_i r p hx
    split at he
    · rename_i t0 l hr
      split at he
      · rename_i hc
        simp only[Alp,beq_iff_eq]at hc
        simp only[Alv]at he
        obtain ⟨l',hl',rfl⟩:=he
        intro _ _;exact Af0 h ho hx (hsub _ _ hr) hc.1 hc.2 hl'
      · cases he
    · cases he
  · rename_i r j p hx
    split at he
    · rename_i e es z hr hz
      split at he
      · rename_i hc
        simp only[Alp,beq_iff_eq]at hc
        injection he with he;subst he
        intro _ _;exact Af1 hP h hsub ho hx (hsub _ _ hr) hz hc.1 (by simpa using hc.2)
      · cases he
    · cases he
  · cases he
 | binOp op t x y t' =>
  simp only[Co,ho]at he
  split at he
  · rename_i l hb
    injection he with he;subst he
    intro _ _;exact Afx h ho hb
  · simp only[Alv]at he
    obtain ⟨⟨cs,l⟩,hb,rfl⟩:=he
    intro hc _;exact Afb h ho hb hc
 | unOp op t x =>
  simp only[Co,ho,Alv]at he
  obtain ⟨l,hb,rfl⟩:=he
  intro _ _;exact Af2 h ho hb
 | convert s t x =>
  simp only[Co,ho]at he
  split at he
  · rename_i k' m k d hx ht hs
    injection he with he;subst he
    intro _ _;exact Afi h ho hx ht hs
  · cases he
 | makeFunc tg first caps =>
  cases tg with
  | func f =>
    simp only[Co,ho]at he
    split at he
    · rename_i hc
      simp only[Alp]at hc
      injection he with he;subst he
      intro _ _;exact Afw h ho hc.1 hc.2
    · cases he
  | _=>simp[Co,ho]at he
 | makeSlice t l c =>
  simp only[Co,ho]at he
  split at he
  · rename_i d e i m hd hte hi hm'
    split at he
    · rename_i hok
      split at he
      · rename_i z hz
        split at he
        · rename_i u hu
          injection he with he;subst he
          obtain ⟨k1,g1,_⟩:=F4 h hi
          obtain ⟨k2,g2,_⟩:=F4 h hm'
          intro hc hm
          exact Afv h hsub ho (hm d (by simp[Gx,ho,hd])) g1 g2 hte hok hz hu (C0 hc (by simp)) (C0 hc (by simp)) (C0 hc (by simp))
        · cases he
      · cases he
    · cases he
  · cases he
 | fieldAddr t x i =>
  simp only[Co,ho]at he
  split at he
  · cases he
  · rename_i fs hfs
    split at he
    · rename_i f r p hf hx
      split at he
      · rename_i t0 l lv hr
        split at he
        · rename_i hc
          injection he with he;subst he
          intro _ _;exact ET h ho hfs hf (.inl ⟨r,p,t0,l,lv,hx,hsub _ _ hr,by simpa using hc,rfl⟩)
        · cases he
      · cases he
    · rename_i f r j p hf hx
      split at he
      · rename_i e es lv hr
        split at he
        · rename_i hc
          injection he with he;subst he
          intro _ _;exact ET h ho hfs hf (.inr (.inl ⟨r,j,p,e,es,lv,hx,hsub _ _ hr,by simpa using hc,rfl⟩))
        · cases he
      · cases he
    · rename_i f t' y hf hx
      split at he
      · rename_i hc
        have:t'=t:=by simpa using hc
        subst this
        injection he with he;subst he
        intro _ _;exact ET h ho hfs hf (.inr (.inr ⟨y,hx,rfl⟩))
      · cases he
    · cases he
 | field t x i =>
  simp only[Co,ho]at he
  split at he
  · rename_i t' l hs
    split at he
    · rename_i hok
      injection he with he;subst he
      intro _ _;exact Afl hP h ho hs hok
    · cases he
  · cases he
 | indexAddr t x y =>
  simp only[Co,ho]at he
  split at he
  · rename_i i e hi hte
    obtain ⟨k,g,_⟩:=F4 h hi
    split at he
    · rename_i hp
      simp only[decide_eq_true_eq]at hp
      split at he
      · rename_i t' z hx
        split at he
        · rename_i hc
          have:t'=t:=by simpa using hc
          subst this
          injection he with he;subst he
          intro hc _;exact Afn h ho hte hp g hx (C0 hc (by simp)) (C0 hc (by simp))
        · cases he
      · rename_i r hx
        split at he
        · rename_i e' es lv hr
          split at he
          · rename_i hc
            have:e'=e:=by simpa using hc
            subst this
            injection he with he;subst he
            intro hc _;exact Afo h ho hte hp g hx (hsub _ _ hr) (C0 hc (by simp)) (C0 hc (by simp))
          · cases he
        · cases he
      · cases he
    · cases he
  · cases he
 | index t x y =>
  simp only[Co,ho]at he
  split at he
  · rename_i s i hx hi
    obtain ⟨k,g,_⟩:=F4 h hi
    split at he
    · rename_i ht
      injection he with he;subst he
      intro hc _;exact Afm h ho ht g hx (C0 hc (by simp)) (C0 hc (by simp))
    · cases he
  · cases he
 | lookup t x y ok =>
  simp only[Co,ho]at he
  split at he
  · rename_i t' z k i kt E hok hx hy hu
    split at he
    · rename_i hc
      simp only[Alp,beq_iff_eq]at hc
      obtain ⟨⟨⟨rfl,hk⟩,hE⟩,hz⟩:=hc
      injection he with he;subst he
      intro _ _;exact Afu hP h ho hu hk hE hz hx hy
    · cases he
  · cases he
 | extract x i =>
  simp only[Co,ho]at he
  split at he
  · rename_i ls hx
    split at he
    · rename_i l hl
      injection he with he;subst he
      intro _ _;exact Afk h ho hx hl
    · cases he
  · cases he
 | _=>simp[Co,ho]at he
end
end Go.Proofs.YtokkbgpgaheakaaGreat
namespace Go.Proofs.YtokkbgpgaheakaaGreat
open Go.RowKit
def VP:Type:=Value→World→Prop
def Pd(φ:VP):Prop:=∀ v w w',φ v w→Ext w w'→φ v w'
def EqV(x:Value):VP:=fun u _=>u=x
theorem EqV.rfl_ {x:Value} {w:World} : EqV x x w:=rfl
theorem R0(x:Value):Pd (EqV x):=fun _ _ _ h _=>h
def upd(f:Nat→VP)(i:Nat)(φ:VP):Nat→VP:=fun k=>if k=i then φ else f k
def Need(f:Nat→VP)(w:World)(K:Act→Prop):List (Nat×Tmp)→Act→Prop
 | [],a=>K a
 | (j,d)::r,a=>∀ v,f j v w→Need f w K r (a.put (some d) v)
def Sq(P:Program)(ops:Array Oper)(o:Oper)(φ:VP)(w:World)(a:Act):Prop :=
 ∀ K:Act→World→Prop,(∀ v w',Ext w w'→φ v w'→K (a.put o.dst v) w') →
  wpList P ops (Exit.then K (fun _ _ _=>False)) [o] a w
def Grow(P:Program)(ops:Array Oper)(a0:Act)(w0:World)(fin:(Nat→VP)→Prop):Nat→List Oper→List (List (Nat×Tmp))→(Nat→VP)→Prop
 | _,[],_,f=>fin f
 | i,o::os,ns,f=>∃ φ:VP,Pd φ∧(∀ w,Ext w0 w→Need f w (Sq P ops o φ w) (ns.headD []) a0)∧Grow P ops a0 w0 fin (i+1) os ns.tail (upd f i φ)
theorem Grow.step {P:Program} {ops:Array Oper} {a0:Act} {w0:World} {fin:(Nat→VP)→Prop} {i:Nat} {o:Oper} {os:List Oper} {n:List (Nat×Tmp)} {ns:List (List (Nat×Tmp))} {f:Nat→VP} {φ:VP}
  (h : ∀ w,Ext w0 w→Need f w (Sq P ops o φ w) n a0) (hs:Pd φ) (hr:Grow P ops a0 w0 fin (i+1) os ns (upd f i φ)):Grow P ops a0 w0 fin i (o::os) (n::ns) f :=
 ⟨φ,hs,h,hr⟩
def Fe(ops:Array Oper):Nat→List Nat
 | 0=>[]
 | n+1=>Fe ops n++[((ops[n]?).map fun o=>o.after.toList.foldl (fun s e=>if Region.binds .any e then s|||2 ^ e.on|||(Fe ops n).getD e.on 0 else s) 0).getD 0]
theorem AL(ops:Array Oper)(n:Nat):(Fe ops n).length=n:=by
 induction n with
 | zero=>rfl
 | succ n ih=>simp[Fe,ih]
theorem Pf(ops:Array Oper)(k n:Nat)(h:k<n):(Fe ops n).getD k 0=((ops[k]?).map fun o=>o.after.toList.foldl (fun s e=>if Region.binds .any e then s|||2 ^ e.on|||(Fe ops k).getD e.on 0 else s) 0).getD 0:=by
 induction n with
 | zero=>omega
 | succ n ih =>
  simp only[Fe]
  by_cases hk:k<n
  · rw[← ih hk,Alk,Alk,Al5 (by rw[AL];exact hk)]
  · obtain rfl:k=n:=by omega
    rw[Alk,List.getElem?_append_right (by rw[AL];exact Als _),AL]
    simp
theorem Sr{ops:Array Oper}{l:Array Bool}(down : ∀ (j:Nat) (o:Oper),l.getD j false=true→ops[j]? = some o→∀ e∈o.after,Region.binds .any e=true→l.getD e.on false=true) :
  ∀ (k:Nat) (o:Oper),ops[k]? = some o→(∀ e∈o.after,Region.binds .any e=true→l.getD e.on false=true)→(∀ e∈o.after,Region.binds .any e=true→e.on<k) →
   (∀ j o,j<k→ops[j]? = some o→∀ e∈o.after,Region.binds .any e=true→e.on<j)→∀ j,((Fe ops (k+1)).getD k 0).testBit j=true→l.getD j false=true:=by
 intro k
 induction k using Nat.strongRecOn with
 | _ k ih =>
  intro o ho hl hlt hall j hj
  rw[Pf ops k (k+1) (by omega),ho,Option.map_some,Option.getD_some]at hj
  have key : ∀ (es:List Edge) (s:Nat),(∀ e∈es,e∈o.after)→(s.testBit j=true→l.getD j false=true) →
    (es.foldl (fun s e=>if Region.binds .any e then s|||2 ^ e.on|||(Fe ops k).getD e.on 0 else s) s).testBit j=true→l.getD j false=true:=by
   intro es
   induction es with
   | nil=>intro s _ hs h;exact hs h
   | cons e es ihe =>
    intro s hes hs h
    rw[List.foldl_cons]at h
    refine ihe _ (fun e' he'=>hes e' (by simp[he'])) (fun hb=> ?_) h
    split at hb
    · rename_i hbind
      rw[Nat.testBit_or,Nat.testBit_or,Bool.or_eq_true,Bool.or_eq_true]at hb
      have hon:=hlt e (hes e (by simp)) hbind
      have hle:=hl e (hes e (by simp)) hbind
      rcases hb with (hb | hb) | hb
      · exact hs hb
      · rw[Nat.testBit_two_pow]at hb
        have:e.on=j:=by simpa using hb
        rw[← this];exact hle
      · have hon':e.on<ops.size:=by
         have:k<ops.size:=(Amc.1 ho).1
         omega
        refine ih e.on hon (ops[e.on]'hon') (Al3 hon') (fun e' he' hb'=>down e.on _ hle (Al3 hon') e' he' hb') (fun e' he' hb'=>hall e.on _ hon (Al3 hon') e' he' hb') (fun j' o' hj'=>hall j' o' (by omega)) j ?_
        rw[Pf ops e.on (e.on+1) (by omega)]
        rw[Pf ops e.on k hon]at hb
        exact hb
    · exact hs hb
  exact key _ 0 (fun e he=>by simpa using he) (fun h=>by simp at h) hj
def BF(ops:Array Oper)(m:Nat)(i:Nat)(o:Oper)(n:List (Nat×Tmp)):Bool :=
 (n.all fun (j,d)=>decide (j<i)&&((ops[j]?).bind (·.dst))==some d&&o.after.any fun e=>e.on == j&&Region.binds .any e) &&
 ((o.looksAt ops).all fun t=>(Amd m).all fun j=>j == i||((ops[j]?).bind (·.dst))!=some t||n.contains (j,t)||((ops[j]?).map fun o'=>o'.after.any fun e=>e.on == i&&Region.binds .any e).getD false)
def Na(ops:Array Oper)(m:Nat)(ns:List (List (Nat×Tmp))):Bool :=
 decide (ns.length≤m)&&decide (m≤ops.size)&&Region.noSelect ops&&((Amd ops.size).all fun i=>((ops[i]?).map fun o=>o.after.all fun e=> !Region.binds .any e||decide (e.on<i)).getD true) &&
 ((Amd m).all fun i=>((ops[i]?).map fun o=>BF ops m i o (ns.getD i [])).getD true) &&
 ((Amd m).all fun i=>(Amd m).all fun j=>i == j||((ops[i]?).bind (·.dst))==none||((ops[i]?).bind (·.dst))!=((ops[j]?).bind (·.dst))) &&
 ((Amd ops.size).all fun k=>decide (k<m)||(Amd k).all fun j=>((Fe ops (k+1)).getD k 0).testBit j)
def Io(ops:Array Oper)(m:Nat):List (Nat×Tmp):=(ops.toList.take m).zipIdx.filterMap fun (o,i)=>o.dst.map fun d=>(i,d)
section
variable {P:Program} {ops:Array Oper} {a0:Act} {w0:World}
theorem FO(a:Act)(d:Option Tmp)(v:Value):(a.put d v).tmps.size=a.tmps.size:=by cases d <;> simp[Act.put]
theorem Oi(a:Act)(d:Tmp)(v:Value)(t:Tmp):(a.put (some d) v).tmps[t]? = if d=t∧d<a.tmps.size then some v else a.tmps[t]? := by
 simp only[Act.put,Array.getElem?_setIfInBounds]
 by_cases h:d=t
 · subst h
   by_cases h2:d<a.tmps.size
   · simp[h2]
   · simp[h2]
 · simp[h]
structure Stands (ops:Array Oper) (a0:Act) (w0:World) (f:Nat→VP) (l:Array Bool) (a:Act) (w:World):Prop where
 ext:Ext w0 w
 size:a.tmps.size=a0.tmps.size
 defers:a.defers=a0.defers
 old : ∀ t,(∀ j,l.getD j false=true→((ops[j]?).bind (·.dst))≠some t)→a.tmps[t]? = a0.tmps[t]?
 down : ∀ (j:Nat) (o:Oper),l.getD j false=true→ops[j]? = some o→∀ e∈o.after,Region.binds .any e=true→l.getD e.on false=true
 got : ∀ j d,l.getD j false=true→((ops[j]?).bind (·.dst))=some d→d<a0.tmps.size→∃ v,a.tmps[d]? = some v∧f j v w
theorem Aiv{o:Oper}{a b:Act}{w:World}(hs : ∀ cs x,o.op≠ .select cs x)(hag : ∀ t,t∈o.looksAt ops→a.tmps[t]? = b.tmps[t]?) :
   execOp a.eval o=execOp b.eval o∧Region.wanted o (yielded ops a.tmps)=Region.wanted o (yielded ops b.tmps):=by
 constructor
 · refine execOp_congr o hs fun x hx=> ?_
   cases x with
   | tmp t =>
    have:=hag t (List.mem_append_left _ (List.mem_filterMap.2 ⟨.tmp t,by simpa using hx,rfl⟩))
    simp[Act.eval,this]
   | _=>rfl
 · unfold Region.wanted
   cases hg:o.guard with
   | none=>rfl
   | some gw =>
    obtain ⟨g,want⟩:=gw
    have hy:yielded ops a.tmps g=yielded ops b.tmps g:=by
     unfold yielded
     cases ht:(ops[g]?).bind (·.dst) with
     | none=>rfl
     | some t =>
      have:=hag t (by simp[Oper.looksAt,hg,ht])
      simp[this]
    simp only[hy]
def G5(n:List (Nat×Tmp))(vs:Tmp→Value)(b:Act):Act:=n.foldl (fun a p=>a.put (some p.2) (vs p.2)) b
theorem EG{f:Nat→VP}{w:World}{K:Act→Prop} : ∀ (n:List (Nat×Tmp)) (b:Act),Need f w K n b →
  (vs:Tmp→Value)→(∀ j d,(j,d)∈n→f j (vs d) w)→K (G5 n vs b)
 | [],_,h,_,_=>h
 | (j,d)::r,b,h,vs,hv=>by
  show K (G5 r vs (b.put (some d) (vs d)))
  exact EG r _ (h _ (hv j d (by simp))) vs (fun j' d' hm=>hv j' d' (List.mem_cons_of_mem _ hm))
open Classical in
theorem SW(n:List (Nat×Tmp))(vs:Tmp→Value)(t:Tmp) : ∀ b:Act,(G5 n vs b).tmps[t]? = if (∃ j,(j,t)∈n)∧t<b.tmps.size then some (vs t) else b.tmps[t]? := by
 induction n with
 | nil=>intro b;simp[G5]
 | cons p r ih =>
  intro b
  obtain ⟨j,d⟩:=p
  show (G5 r vs (b.put (some d) (vs d))).tmps[t]? = _
  rw[ih,FO,Oi]
  by_cases hd:d=t
  · subst hd
    by_cases hlt:d<b.tmps.size
    · simp[hlt]
    · simp[hlt]
  · by_cases h2:(∃ j,(j,t)∈r)∧t<b.tmps.size
    · rw[if_pos h2,if_pos ⟨by obtain ⟨⟨j',hj'⟩,_⟩:=h2;exact ⟨j',List.mem_cons_of_mem _ hj'⟩,h2.2⟩]
    · rw[if_neg h2,if_neg (by simp[hd]),if_neg]
      rintro ⟨⟨j',hj'⟩,hlt⟩
      rcases Alx.1 hj' with h | h
      · injection h with _ h;exact hd h.symm
      · exact h2 ⟨⟨j',h⟩,hlt⟩
theorem SX(n:List (Nat×Tmp))(vs:Tmp→Value) : ∀ b:Act,(G5 n vs b).tmps.size=b.tmps.size∧(G5 n vs b).defers=b.defers:=by
 induction n with
 | nil=>intro b;exact ⟨rfl,rfl⟩
 | cons p r ih=>intro b;have:=ih (b.put (some p.2) (vs p.2));exact ⟨this.1.trans (FO _ _ _),this.2⟩
theorem Ak8{o:Oper}{a b:Act}{K K':Act→World→Prop}{Q:Exit→Act→World→Prop}{r:Result Next}(h:o.upon P b (wpList P ops (Exit.then K (fun _ _ _=>False)) []) (Exit.then K (fun _ _ _=>False)) r)
  (hv : ∀ v w',K (b.put o.dst v) w'→K' (a.put o.dst v) w') (hdf : ∀ d w',¬ K (({ b with defers:=d::b.defers } : Act).put o.dst undef) w'):o.upon P a K' Q r:=by
 cases r with
 | ok n w' =>
  cases n <;> simp only[Oper.upon]at h ⊢
  case value v=>exact hv _ _ h
  case skip=>exact hv _ _ h
  case defer d=>exact absurd h (hdf d w')
  case enter f args =>
   refine Calls.mono h fun e w'' he=> ?_
   cases e with
   | returned u=>exact hv _ _ he
   | panicked c=>exact (show False from he).elim
   | outgrown=>obtain ⟨_,_,hf⟩:=he;exact (show False from hf).elim
  case row row args=>exact Rows.mono h fun u w'' he=>hv _ _ he
 | halt x w'=>cases x <;> simp only[Oper.upon]at h ⊢ <;> exact (show False from h).elim
theorem QJ{f g:Nat→VP}{w:World}{K:Act→Prop} : ∀ (n:List (Nat×Tmp)) (b:Act),(∀ j d,(j,d)∈n→f j=g j)→Need f w K n b→Need g w K n b
 | [],_,_,h=>h
 | (j,d)::r,b,he,h=>fun v hv=>QJ r _ (fun j' d' hm=>he j' d' (List.mem_cons_of_mem _ hm)) (h v (by rw[he j d (by simp)];exact hv))
theorem NE{fin:(Nat→VP)→Prop} : ∀ (os:List Oper) (i:Nat) (ns:List (List (Nat×Tmp))) (f:Nat→VP),(∀ k n,ns[k]? = some n→∀ j d,(j,d)∈n→j<i+k)→Grow P ops a0 w0 fin i os ns f →
  ∃ g:Nat→VP,(∀ k,k<i→g k=f k)∧(∀ k o,os[k]? = some o→Pd (g (i+k))∧∀ w,Ext w0 w→Need g w (Sq P ops o (g (i+k)) w) (ns.getD k []) a0)∧fin g
 | [],_,_,f,_,h=>⟨f,fun _ _=>rfl,fun k o ho=>by simp at ho,h⟩
 | o::os,i,ns,f,hns,⟨φ,hs,hrun,hr⟩=>by
  obtain ⟨g,h1,h2,h3⟩:=NE os (i+1) ns.tail (upd f i φ) (fun k n hn j d hm=>by
   have:=hns (k+1) n (by simpa using hn) j d hm
   omega) hr
  have hgi:g i=φ:=by rw[h1 i (by omega)];simp[upd]
  refine ⟨g,fun k hk=>by rw[h1 k (by omega)];simp[upd,Nat.ne_of_lt hk],fun k o' ho=> ?_,h3⟩
  cases k with
  | zero =>
   simp only[List.getElem?_cons_zero,Alo]at ho
   subst ho
   rw[Nat.add_zero,hgi]
   refine ⟨hs,fun w hw=> ?_⟩
   have:=hrun w hw
   rw[show ns.getD 0 []=ns.headD [] by cases ns <;> rfl]
   refine QJ _ _ (fun j d hm=> ?_) this
   have hj:j<i:=by
    cases ns with
    | nil=>simp at hm
    | cons n ns=>have:=hns 0 n (by simp) j d (by simpa using hm);omega
   rw[h1 j (by omega)];simp[upd,Nat.ne_of_lt hj]
  | succ k =>
   have:=h2 k o' (by simpa using ho)
   rw[show i+(k+1)=i+1+k by omega]
   rw[show ns.getD (k+1) []=ns.tail.getD k [] by cases ns <;> rfl]
   exact this
theorem BL(p q:Nat→Bool)(h : ∀ x,q x=true→p x=true)(i:Nat)(hp:p i=true)(hq:q i=false) : ∀ L:List Nat,i∈L→L.countP q<L.countP p
 | x::L,hm=>by
  have hle : ∀ M:List Nat,M.countP q≤M.countP p:=fun M=>List.countP_mono_left fun x _ hx=>h x hx
  rcases Alx.1 hm with rfl | hm
  · rw[List.countP_cons,List.countP_cons,if_pos hp,if_neg (by simp[hq])]
    have:=hle L;omega
  · have:=BL p q h i hp hq L hm
    rw[List.countP_cons,List.countP_cons]
    by_cases hx:q x=true
    · rw[if_pos hx,if_pos (h x hx)];omega
    · rw[if_neg hx];split <;> omega
def I6(n:Nat)(l:Array Bool):Nat:=(Amd n).countP fun j=> !l.getD j true
theorem YR{Q:Exit→Act→World→Prop}{m:Nat}(hed : ∀ (i:Nat) (o:Oper),ops[i]? = some o→∀ e∈o.after,Region.binds .any e=true→e.on<i)
  (htl : ∀ k,m≤k→k<ops.size→∀ j,j<k→((Fe ops (k+1)).getD k 0).testBit j=true) :
  ∀ (r k fuel:Nat) (l:Array Bool) (a:Act) (w:World),r=ops.size-k→m≤k→k≤ops.size→l.size=ops.size→r≤fuel→(∀ j,j<ops.size→(l.getD j false=true↔j<k)) →
    wpList P ops Q (ops.toList.drop k) a w→wpAny P .any ops Q fuel l a w:=by
 intro r
 induction r with
 | zero =>
  intro k fuel l a w hr hmk hk hl hf hlk h
  have hks:k=ops.size:=by omega
  have hrd:Region.ready .any ops l = []:=by
    cases hh:Region.ready .any ops l with
    | nil=>rfl
    | cons i r =>
      obtain ⟨hun,o,ho,_⟩:=mem_ready.1 (show i∈Region.ready .any ops l by rw[hh];simp)
      have his:i<ops.size:=(Amc.1 ho).1
      have:=(hlk i his).2 (by omega)
      rw[Amf,Al3 (by omega)]at this hun
      simp at this hun
      rw[this]at hun;cases hun
  rw[List.drop_of_length_le (by simp;omega)]at h
  exact wpAny_done hrd h fuel
 | succ r ih =>
  intro k fuel l a w hr hmk hk hl hf hlk h
  have hks:k<ops.size:=by omega
  obtain ⟨fuel,rfl⟩ : ∃ f,fuel=f+1:=⟨fuel-1,by omega⟩
  have down : ∀ (j:Nat) (o:Oper),l.getD j false=true→ops[j]? = some o→∀ e∈o.after,Region.binds .any e=true→l.getD e.on false=true:=by
    intro j o hj ho e he hb
    have hjs:j<ops.size:=(Amc.1 ho).1
    have h1:=hed j o ho e he hb
    have h2:=(hlk j hjs).1 hj
    exact (hlk e.on (by omega)).2 (by omega)
  have unl : ∀ j,j<ops.size→l.getD j true=false→k≤j:=by
    intro j hj hun
    rcases Nat.lt_or_ge j k with hh | hh
    · have:=(hlk j hj).2 hh
      rw[Amf,Al3 (by omega)]at this hun
      simp at this hun
      rw[this]at hun;cases hun
    · exact hh
  have only : ∀ i,i∈Region.ready .any ops l→i=k:=by
    intro i hi
    obtain ⟨hun,o,ho,haft⟩:=mem_ready.1 hi
    have his:i<ops.size:=(Amc.1 ho).1
    have hge:=unl i his hun
    rcases Nat.lt_or_ge k i with hh | hh
    · have:=Sr down i o ho haft (hed i o ho) (fun j o' _ ho'=>hed j o' ho') k (htl i (by omega) his k hh)
      have:=(hlk k hks).1 this
      omega
    · omega
  have hkr:k∈Region.ready .any ops l:=by
    refine mem_ready.2 ⟨?_,ops[k],Al3 hks,fun e he hb=> ?_⟩
    · have : ¬ l.getD k false=true:=fun hh=>by have:=(hlk k hks).1 hh;omega
      rw[Amf,Al3 (by omega)]at this ⊢
      simp at this ⊢
      exact this
    · have:=hed k _ (Al3 hks) e he hb
      exact (hlk e.on (by omega)).2 this
  refine ⟨fun hr0=>(by rw[hr0]at hkr;cases hkr),fun i hi=> ?_⟩
  obtain rfl:=only i hi
  rw[Al6 (by simpa using hks)]at h
  have nxt : ∀ a w,wpList P ops Q (ops.toList.drop (i+1)) a w→wpAny P .any ops Q fuel (l.setIfInBounds i true) a w:=fun a w hh =>
    ih (i+1) fuel _ a w (by omega) (by omega) (by omega) (by simpa using hl) (by omega) (fun j hj=>by
      by_cases hij:i=j
      · subst hij;simp[hl,hj]
      · rw[getD_set_ne false hij,hlk j hj];omega) hh
  unfold wpOp
  simp only[Al3 hks]
  unfold wpList at h
  simp only[Array.getElem_toList]at h
  split
  · rename_i hw
    rw[if_pos hw]at h
    exact h.imp (Oper.wp_mono nxt) id
  · rename_i hw
    rw[if_neg hw]at h
    exact nxt _ _ h
theorem AcA{Q:Exit→Act→World→Prop}{m:Nat}{ns:List (List (Nat×Tmp))}(hc:Na ops m ns=true)(g:Nat→VP)
  (hg : ∀ (i:Nat) (o:Oper),i<m→ops[i]? = some o→Pd (g i)∧∀ w,Ext w0 w→Need g w (Sq P ops o (g i) w) (ns.getD i []) a0)
  (hd : ∀ (i:Nat) (o:Oper) (d:Tmp),i<m→ops[i]? = some o→o.dst=some d→d<a0.tmps.size)
  (hQ : ∀ a w,(∀ l:Array Bool,(∀ j,j<m→l.getD j false=true)→(∀ j,l.getD j false=true→j<m)→Stands ops a0 w0 g l a w→wpList P ops Q (ops.toList.drop m) a w)) :
  ∀ (fuel:Nat) (l:Array Bool) (a:Act) (w:World),l.size=ops.size→I6 ops.size l≤fuel→(∀ j,l.getD j false=true→j<m)→Stands ops a0 w0 g l a w→wpAny P .any ops Q fuel l a w:=by
 simp only[Na,Alp,List.all_eq_true,List.mem_range,decide_eq_true_eq]at hc
 obtain ⟨⟨⟨⟨⟨⟨_,hms⟩,hsel⟩,hedge⟩,hone⟩,hdst⟩,htail⟩:=hc
 have hsel':=Region.noSelect_spec hsel
 have hed : ∀ (i:Nat) (o:Oper),ops[i]? = some o→∀ e∈o.after,Region.binds .any e=true→e.on<i:=by
  intro i o ho e he hb
  have h:=hedge i (Amc.1 ho).1
  rw[ho,Option.map_some,Option.getD_some]at h
  have:=Array.all_eq_true_iff_forall_mem.1 h e he
  simpa [hb]using this
 have htl : ∀ k,m≤k→k<ops.size→∀ j,j<k→((Fe ops (k+1)).getD k 0).testBit j=true:=by
  intro k hmk hk j hj
  have h:=htail k hk
  simp only[Bool.or_eq_true,decide_eq_true_eq,List.all_eq_true,List.mem_range]at h
  rcases h with h | h
  · omega
  · exact h j hj
 have one : ∀ (i:Nat) (o:Oper),i<m→ops[i]? = some o→(∀ j d,(j,d)∈ns.getD i []→j<i∧((ops[j]?).bind (·.dst))=some d∧∃ e∈o.after,e.on=j∧Region.binds .any e=true) ∧
    (∀ t,t∈o.looksAt ops→∀ j,j<m→j=i∨((ops[j]?).bind (·.dst))≠some t∨(j,t)∈ns.getD i []∨∃ o',ops[j]? = some o'∧∃ e∈o'.after,e.on=i∧Region.binds .any e=true):=by
  intro i o him ho
  have h:=hone i him
  rw[ho]at h
  simp only[Option.map_some,Option.getD_some,BF,Alp,List.all_eq_true,List.mem_range,Bool.or_eq_true,beq_iff_eq,bne_iff_ne,decide_eq_true_eq,List.contains_iff_mem]at h
  obtain ⟨h2,h3⟩:=h
  refine ⟨fun j d hm=> ?_,fun t ht j hj=> ?_⟩
  · obtain ⟨⟨ha,hb⟩,hc⟩:=h2 (j,d) hm
    obtain ⟨e,he,hb'⟩:=Array.any_eq_true'.1 hc
    simp only[Alp,beq_iff_eq]at hb'
    exact ⟨ha,hb,e,he,hb'.1,hb'.2⟩
  · rcases h3 t ht j hj with ((h | h) | h) | h
    · exact .inl h
    · exact .inr (.inl h)
    · exact .inr (.inr (.inl h))
    · refine .inr (.inr (.inr ?_))
      cases ho':ops[j]? with
      | none=>rw[ho']at h;simp at h
      | some o' =>
        rw[ho',Option.map_some,Option.getD_some]at h
        obtain ⟨e,he,hb'⟩:=Array.any_eq_true'.1 h
        simp only[Alp,beq_iff_eq]at hb'
        exact ⟨o',rfl,e,he,hb'.1,hb'.2⟩
 have lone_ : ∀ (i j:Nat) (d:Tmp),i<m→j<m→((ops[i]?).bind Oper.dst)=some d→((ops[j]?).bind Oper.dst)=some d→i=j:=by
  intro i j d hi hj h1 h2
  have h:=hdst i hi j hj
  simp only[Bool.or_eq_true,beq_iff_eq,bne_iff_ne]at h
  rcases h with (h | h) | h
  · exact h
  · rw[h1]at h;cases h
  · exact absurd (h1.trans h2.symm) h
 have getD_tf : ∀ (l:Array Bool) (i:Nat),l.size=ops.size→i<ops.size→(l.getD i true=l.getD i false):=by
  intro l i hl hi
  rw[Amf,Amf,Al3 (by omega)];rfl
 intro fuel
 induction fuel with
 | zero =>
  intro l a w hl hleft hlm hst
  have hall : ∀ j,j<ops.size→l.getD j false=true:=by
    intro j hj
    cases hx:l.getD j false with
    | true=>rfl
    | false =>
      have hp:=List.countP_pos_iff (p:=fun j=> !l.getD j true) (l:=Amd ops.size) |>.2 ⟨j,List.mem_range.2 hj,by rw[getD_tf l j hl hj,hx];rfl⟩
      unfold I6 at hleft
      omega
  exact YR hed htl _ m 0 l a w rfl (Als _) hms hl (by
    rcases Nat.lt_or_ge m ops.size with hh | hh
    · have:=hlm m (hall m hh);omega
    · omega) (fun j hj=>⟨fun h=>hlm j h,fun _=>hall j hj⟩) (hQ a w l (fun j hj=>hall j (by omega)) hlm hst)
 | succ fuel ih =>
  intro l a w hl hleft hlm hst
  by_cases hfront : ∀ j,j<m→l.getD j false=true
  · have hle:ops.size-m≤fuel+1:=by
      have:ops.size-m≤I6 ops.size l:=by
        unfold I6
        have h1:(Amd ops.size)=Amd m++(List.range' m (ops.size-m)):=by
          have h:= @List.range'_append_1 0 m (ops.size-m)
          rw[Amn]at h
          rw[List.range_eq_range',List.range_eq_range',h]
          congr 1
          omega
        rw[h1,List.countP_append]
        have h2:(List.range' m (ops.size-m)).countP (fun j=> !l.getD j true)=(List.range' m (ops.size-m)).length:=by
          rw[List.countP_eq_length]
          intro j hj
          rw[List.mem_range'_1]at hj
          rw[getD_tf l j hl (by omega)]
          cases hx:l.getD j false with
          | false=>rfl
          | true=>have:=hlm j hx;omega
        rw[h2,List.length_range']
        omega
      omega
    exact YR hed htl _ m (fuel+1) l a w rfl (Als _) hms hl hle (fun j hj=>⟨fun h=>hlm j h,fun h=>hfront j h⟩) (hQ a w l hfront hlm hst)
  refine ⟨fun hr=> ?_,fun i hi=> ?_⟩
  · exfalso
    apply hfront
    have hall : ∀ n,n≤m→∀ i,i<n→l.getD i false=true:=by
      intro n
      induction n with
      | zero=>intro _ i hi;omega
      | succ n ihn =>
        intro hn i hi
        rcases Nat.lt_or_ge i n with h | h
        · exact ihn (by omega) i h
        · obtain rfl:i=n:=by omega
          cases hx:l.getD i false with
          | true=>rfl
          | false =>
           have:i∈Region.ready .any ops l:=mem_ready.2 ⟨by rw[getD_tf l i hl (by omega)];exact hx,ops[i]'(by omega),Al3 (by omega),fun e he hb=>ihn (by omega) e.on (hed i _ (Al3 (by omega)) e he hb)⟩
           rw[hr]at this;cases this
    exact fun j hj=>hall m (Als _) j hj
  obtain ⟨hun,o,ho,haft⟩:=mem_ready.1 hi
  have his:i<ops.size:=(Amc.1 ho).1
  have him:i<m:=by
    rcases Nat.lt_or_ge i m with hh | hh
    · exact hh
    · exact absurd (fun j hj=>Sr hst.down i o ho haft (hed i o ho) (fun j o' _ ho'=>hed j o' ho') j (htl i hh his j (by omega))) hfront
  obtain ⟨one2,one3⟩:=one i o him ho
  have hli:l.getD i false=false:=by rw[← getD_tf l i hl his];exact hun
  have next : ∀ v w',Ext w w'→g i v w'→wpAny P .any ops Q fuel (l.setIfInBounds i true) (a.put o.dst v) w':=by
    intro v w' hx hv
    have hsame : ∀ j,(l.setIfInBounds i true).getD j false=true→j≠i→l.getD j false=true:=fun j hj hne=>by
      rw[getD_set_ne false (Ne.symm hne)]at hj;exact hj
    refine ih _ _ _ (by simpa using hl) ?_ (fun j hj=> ?_) ?_
    · have:I6 ops.size (l.setIfInBounds i true)<I6 ops.size l:=by
        refine BL _ _ (fun x hx=> ?_) i (by simp only[hun];rfl) ?_ _ (List.mem_range.2 his)
        · by_cases hxi:i=x
          · subst hxi;simp only[hun];rfl
          · rw[getD_set_ne true hxi]at hx;exact hx
        · simp[hl,his]
      omega
    · by_cases hji:j=i
      · omega
      · exact hlm j (hsame j hj hji)
    · refine ⟨hst.ext.trans hx,(FO _ _ _).trans hst.size,by cases o.dst <;> exact hst.defers,fun t ht=> ?_,fun j o' hj ho' e he hb=> ?_,fun j d hj hd' hlt=> ?_⟩
      · have hti:o.dst≠some t:=by
          have:=ht i (by simp[hl,his])
          rw[ho]at this;exact this
        have hput:(a.put o.dst v).tmps[t]? = a.tmps[t]? := by
          cases hd':o.dst with
          | none=>rfl
          | some d=>rw[Oi,if_neg (by rintro ⟨rfl,_⟩;exact hti hd')]
        rw[hput]
        refine hst.old t fun j hj=> ?_
        exact ht j (getD_set_true hj)
      · refine getD_set_true ?_
        by_cases hji:j=i
        · subst hji
          rw[ho]at ho'
          injection ho' with ho'
          subst ho'
          exact haft e he hb
        · exact hst.down j o' (hsame j hj hji) ho' e he hb
      · by_cases hji:j=i
        · subst hji
          rw[ho]at hd'
          have hd'':o.dst=some d:=hd'
          rw[hd'',Oi,if_pos ⟨rfl,by rw[hst.size];exact hlt⟩]
          exact ⟨v,rfl,hv⟩
        · have hjl:=hsame j hj hji
          obtain ⟨u,hu,hf⟩:=hst.got j d hjl hd' hlt
          refine ⟨u,?_,(by
           obtain ⟨oj,hoj,_⟩:=Amh.1 hd'
           exact (hg j oj (hlm j hjl) hoj).1 _ _ _ hf hx)⟩
          cases hdo:o.dst with
          | none=>exact hu
          | some e =>
           rw[Oi,if_neg]
           · exact hu
           · rintro ⟨rfl,_⟩
             exact hji (lone_ j i _ (hlm j hjl) him hd' (by rw[ho];exact hdo))
  have hn:=EG (ns.getD i []) a0 ((hg i o him ho).2 w hst.ext) (fun d=>(a.tmps[d]?).getD undef) (fun j d hm=>by
    obtain ⟨hji,hjd,e,he,hej,heb⟩:=one2 j d hm
    have hlj:l.getD j false=true:=by have:=haft e he heb;rw[hej]at this;exact this
    obtain ⟨oj,hoj,hdj⟩:=Amh.1 hjd
    obtain ⟨v,hv,hf⟩:=hst.got j d hlj hjd (hd j oj d (by omega) hoj hdj)
    rw[hv];exact hf)
  have hag : ∀ t,t∈o.looksAt ops→a.tmps[t]? = (G5 (ns.getD i []) (fun d=>(a.tmps[d]?).getD undef) a0).tmps[t]? := by
    intro t ht
    rw[SW]
    split
    · rename_i h
      obtain ⟨⟨j,hm⟩,hlt⟩:=h
      rw[Al3 (by rw[hst.size];exact hlt)]
      rfl
    · rename_i h
      refine hst.old t fun j hj hjt=> ?_
      have hjm:=hlm j hj
      rcases one3 t ht j hjm with e | e | e | ⟨o',ho',e',he',hee,heb⟩
      · subst e;rw[hli]at hj;cases hj
      · exact e hjt
      · obtain ⟨oj,hoj,hdj⟩:=Amh.1 hjt
        exact h ⟨⟨j,e⟩,hd j oj t hjm hoj hdj⟩
      · have:=hst.down j o' hj ho' e' he' heb
        rw[hee,hli]at this;cases this
  obtain ⟨hex,hwa⟩:=Aiv (ops:=ops) (w:=w) (fun cs b=>hsel' i o cs b ho) hag
  unfold wpOp
  simp only[ho]
  generalize hbb:G5 (ns.getD i []) (fun d=>(a.tmps[d]?).getD undef) a0=b at *
  have hbs:b.tmps.size=a0.tmps.size∧b.defers=a0.defers:=by rw[← hbb];exact SX _ _ _
  have hK:=hn (fun b' w'=>(∃ v,b'=b.put o.dst v)∧∀ u,b'=b.put o.dst u→wpAny P .any ops Q fuel (l.setIfInBounds i true) (a.put o.dst u) w') (fun v w' hx hv=>⟨⟨v,rfl⟩,fun u hu=>by
    have:a.put o.dst u=a.put o.dst v:=by
      cases hdo:o.dst with
      | none=>rfl
      | some d =>
        rw[hdo]at hu
        have h1:=Oi b d v d
        have h2:=Oi b d u d
        rw[hu]at h1
        have hlt:d<b.tmps.size:=by rw[hbs.1];exact hd i o d him ho hdo
        rw[h1]at h2
        simp only[hlt,and_self,if_true,Alo]at h2
        rw[h2]
    rw[this];exact next v w' hx hv⟩)
  split
  · rename_i hw
    rw[hwa]at hw
    unfold wpList at hK
    rw[if_pos hw]at hK
    refine .inl ?_
    replace hK:=hK.resolve_right (by rintro ⟨_,_,_,hf⟩;exact hf)
    unfold Oper.wp at hK ⊢
    rw[hex]
    refine Ak8 hK (fun v w' h=>h.2 v rfl) (fun d w' h=> ?_)
    obtain ⟨⟨v,hv⟩,_⟩:=h
    have:=congrArg Act.defers hv
    have pd : ∀ (x:Act) (y:Option Tmp) (z:Value),(x.put y z).defers=x.defers:=fun x y z=>by cases y <;> rfl
    rw[pd,pd]at this
    have h2:=congrArg List.length this
    simp at h2
  · rename_i hw
    rw[hwa]at hw
    unfold wpList at hK
    rw[if_neg hw]at hK
    exact (show _∧_ from hK).2 undef rfl
theorem Aba{m:Nat}{ns:List (List (Nat×Tmp))}(hc:Na ops m ns=true) : ∀ k n,ns[k]? = some n→∀ j d,(j,d)∈n→j<0+k:=by
 simp only[Na,Alp,List.all_eq_true,List.mem_range,decide_eq_true_eq]at hc
 obtain ⟨⟨⟨⟨⟨⟨hl,hms⟩,_⟩,_⟩,hone⟩,_⟩,_⟩:=hc
 intro k n hn j d hm
 have hk:k<ns.length:=(Alj.1 hn).1
 have h:=hone k (by omega)
 rw[Al3 (by omega)]at h
 simp only[Option.map_some,Option.getD_some,BF,Alp,List.all_eq_true,Alk,hn]at h
 have:=(h.1 (j,d) hm).1.1
 simp only[decide_eq_true_eq]at this
 omega
theorem PG{m i:Nat}{d:Tmp} : (i,d)∈Io ops m↔i<m∧((ops[i]?).bind Oper.dst)=some d:=by
 unfold Io
 rw[List.mem_filterMap]
 constructor
 · rintro ⟨⟨o,k⟩,hm,he⟩
   rw[List.mem_zipIdx_iff_getElem?]at hm
   simp only[Alv,Prod.mk.injEq]at he
   obtain ⟨d',hd,rfl,rfl⟩:=he
   rw[List.getElem?_take]at hm
   split at hm
   · rename_i hk
     simp only[Array.getElem?_toList]at hm
     exact ⟨hk,by rw[hm];exact hd⟩
   · cases hm
 · rintro ⟨hi,h⟩
   obtain ⟨o,ho,hd⟩:=Amh.1 h
   refine ⟨(o,i),?_,by simp[hd]⟩
   rw[List.mem_zipIdx_iff_getElem?,List.getElem?_take,if_pos hi]
   simpa using ho
theorem Aia{id m:Nat}{Q:Exit→Act→World→Prop}{w:World}(ns:List (List (Nat×Tmp)))(hm:P.follows .mixedOrders=true)(hc:Na ops m ns=true)
   (hd:(ops.all fun o=>o.dst.all fun d=>decide (d<a0.tmps.size))=true)
   (h:Grow P ops a0 w.drew (fun f=>∀ w',Ext w.drew w'→Need f w' (fun a=>wpList P ops Q (ops.toList.drop m) a w') (Io ops m) a0) 0 (ops.toList.take m) ns (fun _ _ _=>False)):(Code.region id ops true).wp P Q a0 w:=by
 refine wp_region_any hm ?_
 obtain ⟨g,_,hg,hfin⟩:=NE (ops.toList.take m) 0 ns _ (Aba hc) h
 have hd' : ∀ (i:Nat) (o:Oper) (d:Tmp),i<m→ops[i]? = some o→o.dst=some d→d<a0.tmps.size:=fun i o d _ ho hdo=>by
   have:=Array.all_eq_true_iff_forall_mem.1 hd o (Array.mem_of_getElem? ho)
   rw[hdo]at this
   simpa using this
 refine AcA (w0:=w.drew) (a0:=a0) hc g (fun i o him ho=>by have:=hg i o (by rw[List.getElem?_take,if_pos him];simpa using ho);simpa using this) hd' (fun a w' l hfr hlm hst=> ?_) ops.size _ a0 _ (by simp) ?_ (fun j hj=> ?_) ⟨Ext.refl _,rfl,rfl,fun _ _=>rfl,fun j o hj=> ?_,fun j d hj=> ?_⟩
 · have hk:=EG (Io ops m) a0 (hfin w' hst.ext) (fun d=>(a.tmps[d]?).getD undef) (fun j d hm=>by
    obtain ⟨hjm,hjd⟩:=PG.1 hm
    obtain ⟨oj,hoj,hdj⟩:=Amh.1 hjd
    obtain ⟨v,hv,hf⟩:=hst.got j d (hfr j hjm) hjd (hd' j oj d hjm hoj hdj)
    rw[hv];exact hf)
   have he:G5 (Io ops m) (fun d=>(a.tmps[d]?).getD undef) a0=a:=by
    have h1:=SX (Io ops m) (fun d=>(a.tmps[d]?).getD undef) a0
    have h2:(G5 (Io ops m) (fun d=>(a.tmps[d]?).getD undef) a0).tmps=a.tmps:=by
     apply Array.ext_getElem?
     intro t
     rw[SW]
     split
     · rename_i h
       rw[Al3 (by rw[hst.size];exact h.2)]
       rfl
     · rename_i h
       refine (hst.old t fun j hj hjt=>h ⟨⟨j,PG.2 ⟨hlm j hj,hjt⟩⟩,?_⟩).symm
       obtain ⟨oj,hoj,hdj⟩:=Amh.1 hjt
       exact hd' j oj t (hlm j hj) hoj hdj
    have h3:(G5 (Io ops m) (fun d=>(a.tmps[d]?).getD undef) a0).defers=a.defers:=h1.2.trans hst.defers.symm
    cases ha:G5 (Io ops m) (fun d=>(a.tmps[d]?).getD undef) a0
    rw[ha]at h2 h3
    cases a
    simp_all
   rw[he]at hk
   exact hk
 · exact Nat.le_trans List.countP_le_length (by simp)
 all_goals
   have hjs : ¬ ((Array.replicate ops.size false).getD j false=true):=by
    rw[Amf,Array.getElem?_replicate];split <;> simp
   exact absurd hj hjs
end
theorem Aib{P:Program}{os:List Oper}{a0:Act}{id:Nat}{Q:Exit→Act→World→Prop}{w:World}(m:Nat)(ns:List (List (Nat×Tmp)))(ds:List (Nat×Tmp))(hm:P.follows .mixedOrders=true)(hc:Na os.toArray m ns=true)
  (hds:Io os.toArray m=ds) (hd:(os.toArray.all fun o=>o.dst.all fun d=>decide (d<a0.tmps.size))=true)
  (h:Grow P os.toArray a0 w.drew (fun f=>∀ w',Ext w.drew w'→Need f w' (fun a=>wpList P os.toArray Q (os.drop m) a w') ds a0) 0 (os.take m) ns (fun _ _ _=>False)):(Code.region id os.toArray true).wp P Q a0 w:=by
 subst hds
 exact Aia ns hm hc hd h
theorem Grow.last {P:Program} {ops:Array Oper} {a0:Act} {w0:World} {fin:(Nat→VP)→Prop} {i:Nat} {ns:List (List (Nat×Tmp))} {f:Nat→VP} (h:fin f):Grow P ops a0 w0 fin i [] ns f:=h
theorem Need.done {f:Nat→VP} {w:World} {K:Act→Prop} {a:Act} (h:K a):Need f w K [] a:=h
theorem Ext.cells {a b:World} (h:Ext a b) : ∀ p:Addr,p.block<a.heap.size→b.cell? p=a.cell? p:=fun _ hp=>h.cell hp
end Go.Proofs.YtokkbgpgaheakaaGreat
namespace Go.Proofs.YtokkbgpgaheakaaGreat
open Go.RowKit
def Tree.wp (P:Program) (md:Nat→FMode):Tree→(List D→Prop)→Prop
 | .ret ys,Φ=>Φ ys
 | .fail,_=>False
 | .br b t e,Φ=>(b=true→t.wp P md Φ)∧(b=false→e.wp P md Φ)
 | .call f cts xs k,Φ=>∃ ys,Dn P md f cts xs ys∧(k ys).wp P md Φ
 | .amb e t f,Φ=>(e=true→t.wp P md Φ)∧f.wp P md Φ
structure E where
 dst:Option Nat
 l:L
 eff:List (Nat×Option Blk)
 made:List Nat
 tr:Tr
def D3(n:Nat)(d:Option Nat)(l:L)(slot:Nat→L):Nat→L:=fun t=>if d=some t∧t<n then l else slot t
section
variable (P:Program) (md:Nat→FMode)
inductive One (ops:Array Oper) (o:Oper) (s:St):E→St→Prop where
 | skip (hp : ∀ d,o.dst=some d→d∉s.pins) (hw:Sd ops s.slot o=some false):One ops o s ⟨o.dst,.skip,[],[],⟨o.looksAt ops,o.dst.toList,[],[]⟩⟩ (s.put o.dst .skip)
 | does {r:OpR} {l l':L} {eff:List (Nat×Option Blk)} {mk:List Nat} {s1:St} (hp : ∀ d,o.dst=some d→d∉s.pins) (hw:Sd ops s.slot o=some true) (he:Co P md o (Am s.slot) (K2 (I3 s.look (Am s.slot) o.op) s.look)=some r) (hc : ∀ b∈r.conds,b=true) (hmk : ∀ q∈mk,q∉s.used)
  (hout:match r.out with
   | .val l0 eff0=>l0=l∧eff0=eff∧mk=Gx o
   | .call fm f cts xs rts fz lent=>∃ ys d,o.dst=some d∧Dn P md f cts xs ys∧M9 P fm rts d ys=some l∧eff=Lf P fm (K2 (I3 s.look (Am s.slot) o.op) s.look) rts fz lent d ys∧mk=If d fm.own.length)
  (hl:l'=l∨∃ x,l = .b x∧l' = .lit x) (heff:s.eff eff=some s1) :
  One ops o s ⟨o.dst,l',eff,mk,⟨o.looksAt ops,o.dst.toList,I3 s.look (Am s.slot) o.op,mk++eff.map (·.1)⟩⟩ (s1.put o.dst l')
inductive Many (ops:Array Oper):List Oper→St→List E→St→Prop where
 | nil {s:St} : Many ops [] s [] s
 | cons {o:Oper} {os:List Oper} {s s1 s2:St} {e:E} {es:List E} (h:One P md ops o s e s1) (hr:Many ops os s1 es s2):Many ops (o::os) s (e::es) s2
end
section
variable {P:Program} {md:Nat→FMode}
theorem ZY{Φ:List D→Prop} : ∀ {bs:List Bool} {t:Tree},(Tree.conds bs t).wp P md Φ→(∀ b∈bs,b=true)∧t.wp P md Φ
 | [],t,h=>⟨by simp,h⟩
 | b::bs,t,h=>by
  simp only[Tree.conds,Tree.wp]at h
  cases b with
  | false=>exact (h.2 rfl).elim
  | true =>
   obtain ⟨h1,h2⟩:=ZY (h.1 rfl)
   exact ⟨fun x hx=>by rcases Alx.1 hx with hx | hx <;> first | exact hx | exact h1 x hx,h2⟩
theorem CH{ops:Array Oper}{Φ:List D→Prop}{k:St→List Tr→Tree} : ∀ {os:List Oper} {i:Nat} {s:St} {tr:List Tr},(Hh P md ops os i s tr k).wp P md Φ→∃ es s',Many P md ops os s es s'∧(k s' (tr.reverse++es.map (·.tr))).wp P md Φ
 | [],i,s,tr,h=>⟨[],s,.nil,by simpa [Hh]using h⟩
 | o::os,i,s,tr,h=>by
  simp only[Hh]at h
  have done : ∀ (e:E) (s1:St),One P md ops o s e s1→(Hh P md ops os (i+1) s1 (e.tr::tr) k).wp P md Φ→∃ es s',Many P md ops (o::os) s es s'∧(k s' (tr.reverse++es.map (·.tr))).wp P md Φ:=by
    intro e s1 h1 h2
    obtain ⟨es,s',g1,g2⟩:=CH h2
    exact ⟨e::es,s',.cons h1 g1,by simpa using g2⟩
  cases hpp:o.dst.any s.pins.contains with
  | true=>rw[hpp]at h;exact h.elim
  | false =>
  rw[hpp]at h
  simp only[cond_false]at h
  have hp : ∀ d,o.dst=some d→d∉s.pins:=by
    intro d hd
    rw[hd]at hpp
    simpa using hpp
  split at h
  · exact h.elim
  · rename_i hw
    exact done _ _ (.skip hp hw) h
  · rename_i hw
    split at h
    · exact h.elim
    · rename_i r he
      obtain ⟨hc,h⟩:=ZY h
      have fin : ∀ (l:L) (eff:List (Nat×Option Blk)) (mk:List Nat),(∀ q∈mk,q∉s.used)→(match r.out with
           | .val l0 eff0=>l0=l∧eff0=eff∧mk=Gx o
           | .call fm f cts xs rts fz lent=>∃ ys d,o.dst=some d∧Dn P md f cts xs ys∧M9 P fm rts d ys=some l∧eff=Lf P fm (K2 (I3 s.look (Am s.slot) o.op) s.look) rts fz lent d ys∧mk=If d fm.own.length) →
         (CY (DG ops i) l (fun l'=>Tt s eff (fun s1=>Hh P md ops os (i+1) (s1.put o.dst l') (⟨o.looksAt ops,o.dst.toList,I3 s.look (Am s.slot) o.op,mk++eff.map (fun x=>x.1)⟩::tr) k))).wp P md Φ →
         ∃ es s',Many P md ops (o::os) s es s'∧(k s' (tr.reverse++es.map (·.tr))).wp P md Φ:=by
        intro l eff mk hmk hout h
        have fin1 : ∀ l',(l'=l∨∃ x,l = .b x∧l' = .lit x)→(Tt s eff (fun s1=>Hh P md ops os (i+1) (s1.put o.dst l') (⟨o.looksAt ops,o.dst.toList,I3 s.look (Am s.slot) o.op,mk++eff.map (fun x=>x.1)⟩::tr) k)).wp P md Φ→∃ es s',Many P md ops (o::os) s es s'∧(k s' (tr.reverse++es.map (·.tr))).wp P md Φ:=by
         intro l' hl' h'
         unfold Tt at h'
         split at h'
         · exact h'.elim
         · rename_i s1 hs
           exact done _ _ (.does hp hw he hc hmk hout hl' hs) h'
        unfold CY at h
        cases hg:DG ops i with
        | false=>rw[hg]at h;exact fin1 l (.inl rfl) h
        | true =>
         rw[hg]at h
         simp only[cond_true]at h
         split at h
         · rename_i x
           cases x with
           | true=>exact fin1 (.lit true) (.inr ⟨true,rfl,rfl⟩) (h.1 rfl)
           | false=>exact fin1 (.lit false) (.inr ⟨false,rfl,rfl⟩) (h.2 rfl)
         · exact fin1 _ (.inl rfl) h
      split at h
      · rename_i l eff hro
        cases hall:(Gx o).all (fun q=> !s.used.contains q) with
        | false=>rw[hall]at h;exact h.elim
        | true =>
         rw[hall]at h
         refine fin l eff (Gx o) (fun q hq=> ?_) (by rw[hro];exact ⟨rfl,rfl,rfl⟩) h
         have:=List.all_eq_true.1 hall q hq
         simpa using this
      · rename_i fm f cts xs rts fz lent hro
        cases hall:(If (o.dst.getD 0) fm.own.length).all (fun q=> !s.used.contains q) with
        | false=>rw[hall]at h;exact h.elim
        | true =>
         rw[hall]at h
         obtain ⟨ys,hspec,h⟩:=h
         simp only[]at h
         split at h
         · rename_i d l hd hl
           rw[hd]at hall hl
           refine fin l _ (If d fm.own.length) (fun q hq=> ?_) (by rw[hro];exact ⟨ys,d,hd,hspec,hl,rfl,rfl⟩) h
           have:=List.all_eq_true.1 hall q hq
           simpa using this
         · exact h.elim
end
end Go.Proofs.YtokkbgpgaheakaaGreat
namespace Go.Proofs.YtokkbgpgaheakaaGreat
open Go.RowKit
section
variable {P:Program} {md:Nat→FMode} {w0 w w':World} {N0 M0 M:Nat→Prop} {slot:Nat→L} {look lookR:Nat→Option Blk} {used:Nat→Prop} {ds:Dfs} {β:Nat→Value} {a:Act} {n:Nat}
theorem AbU{o:Oper}{ρ ρ':Operand→L}(h : ∀ x∈o.op.operands,ρ x=ρ' x):Co P md o ρ look=Co P md o ρ' look:=by
 have hl : ∀ (q:Option Operand),(∀ x,q=some x→ρ x=ρ' x)→q.map (fun l=>Dr (ρ l))=q.map (fun l=>Dr (ρ' l)):=by
  intro q hq
  cases q with
  | none=>rfl
  | some x=>simp[hq x rfl]
 cases ho:o.op <;> simp only[ho,Op.operands]at h <;> simp only[Co,ho]
 case move x=>rw[h x (by simp)]
 case assign x=>rw[h x (by simp)]
 case pick c x y=>rw[h c (by simp),h x (by simp),h y (by simp)]
 case box t x=>rw[h x (by simp)]
 case build t ps =>
  have:ps.toList.map (fun p=>(p.1,ρ p.2))=ps.toList.map (fun p=>(p.1,ρ' p.2)):=List.map_congr_left fun p hp=>by rw[h p.2 (by simp;exact ⟨p.1,by simpa using hp⟩)]
  rw[this]
 case buildSlice t m ps =>
  have:ps.toList.map (fun p=>ρ p.2)=ps.toList.map (fun p=>ρ' p.2):=List.map_congr_left fun p hp=>by rw[h p.2 (by simp;exact ⟨p.1,by simpa using hp⟩)]
  rw[this]
 case load t x=>rw[h x (by simp)]
 case store t x v=>rw[h x (by simp),h v (by simp)]
 case binOp op t x y t'=>rw[h x (by simp),h y (by simp)]
 case unOp op t x=>rw[h x (by simp)]
 case convert s t x=>rw[h x (by simp)]
 case makeFunc tg first caps =>
  have:caps.toList.map ρ=caps.toList.map ρ':=List.map_congr_left fun p hp=>h p (by simp;exact .inr (by simpa using hp))
  cases tg <;> simp only[this]
 case makeSlice t l c=>rw[h l (by simp),h c (by simp)]
 case slice t x lo hi mx =>
  rw[h x (by simp),hl lo (fun y hy=>h y (by simp[hy])),hl hi (fun y hy=>h y (by simp[hy])),hl mx (fun y hy=>h y (by simp[hy]))]
 case fieldAddr t x f=>rw[h x (by simp)]
 case field t x f=>rw[h x (by simp)]
 case indexAddr t x y=>rw[h x (by simp),h y (by simp)]
 case index t x y=>rw[h x (by simp),h y (by simp)]
 case lookup t x y ok=>rw[h x (by simp),h y (by simp)]
 case extract x i=>rw[h x (by simp)]
 case call c =>
  have hm:c.args.toList.map ρ=c.args.toList.map ρ':=List.map_congr_left fun p hp=>h p (by simp[Call.operands];exact .inr (by simpa using hp))
  rw[hm]
  have hg : ∀ g,c.callee = .value g→ρ g=ρ' g:=fun g hg=>h g (by simp[Call.operands,hg])
  cases hc:c.callee with
  | value g =>
   simp only[]
   rw[hg g hc]
  | builtin b =>
   generalize List.map ρ' c.args.toList=vs
   rcases vs with _ | ⟨v,_ | ⟨u,_ | ⟨z,vs⟩⟩⟩ <;> cases b <;> first | rfl | (cases v <;> rfl)
  | invoke r nm =>
   generalize List.map ρ' c.args.toList=vs
   rcases vs with _ | ⟨v,_ | ⟨u,_ | ⟨z,vs⟩⟩⟩ <;> rfl
theorem DA{c:Blk} : ∀ {h:List (Nat×Blk)} {j:Nat},(∃ b,B9 h j=some b)→∀ q,B9 (Cf h j c) q=if q=j then some c else B9 h q
 | [],j,⟨b,hb⟩,q=>by simp[B9]at hb
 | (i,b)::h,j,hx,q=>by
  by_cases e:i=j
  · subst e
    simp only[Cf,beq_self_eq_true,cond_true,B9]
    by_cases e2:i=q
    · subst e2;simp
    · have h1:(i == q)=false:=by simp[e2]
      have h2 : ¬ q=i:=fun h=>e2 h.symm
      simp[h1,h2]
  · have h1:(i == j)=false:=by simp[e]
    simp only[Cf,h1,cond_false,B9]
    have hx' : ∃ b,B9 h j=some b:=by simpa [B9,h1]using hx
    by_cases e2:i=q
    · subst e2
      have h2 : ¬ i=j:=e
      simp[h2]
    · have h3:(i == q)=false:=by simp[e2]
      simp only[h3,cond_false]
      exact DA hx' q
theorem U1 : ∀ {h:List (Nat×Blk)} {j q:Nat},B9 (H8 h j) q=if q=j then none else B9 h q
 | [],j,q=>by simp[H8,B9]
 | (i,b)::h,j,q=>by
  by_cases e:i=j
  · subst e
    simp only[H8,beq_self_eq_true,cond_true,B9]
    rw[U1]
    by_cases e2:q=i
    · simp[e2]
    · have h1:(i == q)=false:=by simp;exact fun h=>e2 h.symm
      simp[e2,h1]
  · have h1:(i == j)=false:=by simp[e]
    simp only[H8,h1,cond_false,B9]
    rw[U1]
    by_cases e2:i=q
    · subst e2;simp[e]
    · have h3:(i == q)=false:=by simp[e2]
      simp[h3]
theorem Tu : ∀ {eff:List (Nat×Option Blk)} {s s1:St},s.eff eff=some s1→s1.look=Bh s.look eff∧s1.tmps=s.tmps∧s1.dp=s.dp∧(∀ r∈s.used,r∈s1.used) ∧
  ((∀ r b,s.look r=some b→r∈s.used)→(∀ r b,s1.look r=some b→r∈s1.used)∧∀ r b,(r,some b)∈eff→r∈s1.used)
 | [],s,s1,h=>by
  simp only[St.eff,Alo]at h
  subst h
  exact ⟨rfl,rfl,rfl,fun _ h=>h,fun h=>⟨h,by simp⟩⟩
 | (q,none)::eff,s,s1,h=>by
  simp only[St.eff]at h
  obtain ⟨h1,h2,h3,h4,h5⟩:=Tu h
  have hlk:St.look { s with heap:=H8 s.heap q } = Au s.look q none:=by
    funext r
    show B9 (H8 s.heap q) r=_
    rw[U1];rfl
  refine ⟨by rw[h1,hlk];rfl,h2,h3,h4,fun hu=> ?_⟩
  obtain ⟨g1,g2⟩:=h5 (fun r b hr=>by
    rw[hlk]at hr
    by_cases e:r=q
    · subst e;rw[Bz]at hr;cases hr
    · rw[Bo _ _ e]at hr;exact hu r b hr)
  exact ⟨g1,fun r b hr=>by
         rcases Alx.1 hr with hr | hr;· cases hr
         · exact g2 r b hr⟩
 | (q,some k)::eff,s,s1,h=>by
  simp only[St.eff]at h
  split at h
  · rename_i b0 hb0
    obtain ⟨h1,h2,h3,h4,h5⟩:=Tu h
    have hlk:St.look { s with heap:=Cf s.heap q k } = Au s.look q (some k):=by
     funext r
     show B9 (Cf s.heap q k) r=_
     rw[DA ⟨b0,hb0⟩];rfl
    refine ⟨by rw[h1,hlk];rfl,h2,h3,h4,fun hu=> ?_⟩
    have hq:q∈s.used:=hu q b0 hb0
    obtain ⟨g1,g2⟩:=h5 (fun r b hr=>by
     rw[hlk]at hr
     by_cases e:r=q
     · subst e;exact hq
     · rw[Bo _ _ e]at hr;exact hu r b hr)
    exact ⟨g1,fun r b hr=>by
     rcases Alx.1 hr with hr | hr
     · injection hr with hr _;subst hr;exact h4 _ hq
     · exact g2 r b hr⟩
  · rename_i hn
    cases hc:s.used.contains q with
    | true=>rw[hc]at h;cases h
    | false =>
     rw[hc]at h
     simp only[cond_false]at h
     obtain ⟨h1,h2,h3,h4,h5⟩:=Tu h
     have hlk:St.look { s with heap:=(q,k)::s.heap,used:=q::s.used } = Au s.look q (some k):=by
      funext r
      show B9 ((q,k)::s.heap) r=_
      simp only[B9]
      by_cases e:r=q
      · subst e;simp[Au]
      · have:(q == r)=false:=by simp;exact fun h=>e h.symm
        simp[this,Au,e];rfl
     refine ⟨by rw[h1,hlk];rfl,h2,h3,fun r hr=>h4 r (by simp[hr]),fun hu=> ?_⟩
     obtain ⟨g1,g2⟩:=h5 (fun r b hr=>by
      rw[hlk]at hr
      by_cases e:r=q
      · subst e;simp
      · rw[Bo _ _ e]at hr;simp[hu r b hr])
     exact ⟨g1,fun r b hr=>by
      rcases Alx.1 hr with hr | hr
      · injection hr with hr _;subst hr;exact h4 _ (by simp)
      · exact g2 r b hr⟩
theorem FP(s:St)(d:Option Nat)(l:L):(s.put d l).slot=D3 s.tmps.length d l s.slot∧(s.put d l).look=s.look∧(s.put d l).tmps.length=s.tmps.length∧(s.put d l).dp=s.dp∧(s.put d l).used=s.used:=by
 cases d with
 | none=>exact ⟨by funext t;simp[St.put,D3],rfl,rfl,rfl,rfl⟩
 | some t =>
  refine ⟨?_,rfl,by simp[St.put],rfl,rfl⟩
  funext q
  simp only[St.put,St.slot,D3,Alk,List.getElem?_set,Alo]
  by_cases e:t=q
  · subst e
    by_cases hl:t<s.tmps.length
    · simp[hl]
    · simp[hl]
  · simp[e]
theorem L9{ops:Array Oper}{o:Oper}{s s1:St}{e:E}(h:One P md ops o s e s1):s1.slot=D3 s.tmps.length e.dst e.l s.slot∧s1.look=Bh s.look e.eff∧s1.tmps.length=s.tmps.length∧s1.dp=s.dp∧(∀ r∈s.used,r∈s1.used) ∧
  ((∀ r b,s.look r=some b→r∈s.used)→(∀ r b,s1.look r=some b→r∈s1.used)∧∀ r b,(r,some b)∈e.eff→r∈s1.used)∧e.tr.sr=o.looksAt ops∧e.tr.sw=e.dst.toList∧e.tr.hw=e.made++e.eff.map (·.1)∧e.dst=o.dst∧(∀ q∈e.made,q∉s.used):=by
 cases h with
 | skip _ hw =>
  obtain ⟨p1,p2,p3,p4,p5⟩:=FP s o.dst .skip
  refine ⟨p1,p2,p3,p4,fun r hr=>by rw[p5];exact hr,fun hu=>⟨fun r b hr=>by rw[p2]at hr;rw[p5];exact hu r b hr,by simp⟩,rfl,rfl,rfl,rfl,by simp⟩
 | @does r l l' eff mk s2 _ hw he hc hmk hout hl heff =>
  obtain ⟨e1,e2,e3,e4,e5⟩:=Tu heff
  obtain ⟨p1,p2,p3,p4,p5⟩:=FP s2 o.dst l'
  refine ⟨?_,p2.trans e1,by rw[p3,e2],p4.trans e3,fun r hr=>by rw[p5];exact e4 r hr,fun hu=>⟨fun r b hr=> ?_,fun r b hr=> ?_⟩,rfl,rfl,rfl,rfl,hmk⟩
  · rw[p1,e2]
    congr 1
    funext t
    simp[St.slot,e2]
  · rw[p2]at hr;rw[p5];exact (e5 hu).1 r b hr
  · rw[p5];exact (e5 hu).2 r b hr
theorem R.putSlot (h:R P md w0 N0 M0 slot look used ds n β a w) (d:Option Nat) (hp : ∀ t,d=some t→t∉ds.dp.2) (l:L) (v:Value) (hv:VL P md w (Ap M0 look β) look β l v) (hids : ∀ r∈l.ids,used r):R P md w0 N0 M0 (D3 n d l slot) look used ds n β (a.put d v) w:=by
 cases d with
 | none =>
  have:D3 n none l slot=slot:=by funext t;simp[D3]
  rw[this];exact h
 | some t =>
  by_cases ht:t<n
  · have:=h.put (some t) (fun q hq=>by injection hq with hq;subst hq;exact ht) hp l v hv hids
    have e:D3 n (some t) l slot=Au slot t l:=by
     funext q
     simp only[D3,Au,Alo]
     by_cases e:q=t
     · subst e;simp[ht]
     · have : ¬ t=q:=fun h=>e h.symm
       simp[e,this]
    rw[e];exact this
  · have e:D3 n (some t) l slot=slot:=by
     funext q
     simp only[D3,Alo]
     split
     · rename_i hh;omega
     · rfl
    have e2:a.put (some t) v=a:=by
     have:=h.size
     cases a
     simp only[Act.put]at *
     congr 1
     exact Array.setIfInBounds_eq_of_size_le (by omega)
    rw[e,e2];exact h
theorem ER(hP:WfP P){ops:Array Oper}{o:Oper}{s s1:St}{e:E}(ho:One P md ops o s e s1)(h:R P md w0 N0 M0 slot look used ds n β a w)(hs : ∀ t∈e.tr.sr,slot t=s.slot t)(hl : ∀ q∈e.tr.hr,look q=s.look q)(hm : ∀ q∈e.made,¬ used q)(hds:ds.dp.2=s.pins)
  {K:Act→World→Prop} {Q:Exit→Act→World→Prop} (hK : ∀ v w' β',R P md w0 N0 M0 (D3 n e.dst e.l slot) (Bh look e.eff) (Il used e.eff) ds n β' (a.put o.dst v) w'→K (a.put o.dst v) w') :
  if Region.wanted o (yielded ops a.tmps) then o.wp P a w K Q∨(o.asks P a w∧LetsOut Q) else K (a.put o.dst undef) w:=by
 have hopd : ∀ x∈o.op.operands,(∀ t∈o.looksAt ops,slot t=s.slot t)→Am slot x=Am s.slot x:=by
  intro x hx hs
  cases x with
  | tmp t=>exact hs t (List.mem_append_left _ (List.mem_filterMap.2 ⟨.tmp t,by simpa using hx,rfl⟩))
  | _=>rfl
 have hwant : ∀ b,(∀ t∈o.looksAt ops,slot t=s.slot t)→Sd ops s.slot o=some b→Region.wanted o (yielded ops a.tmps)=b:=by
  intro b hs hw
  unfold Sd at hw
  unfold Region.wanted
  cases hg:o.guard with
  | none=>rw[hg]at hw;simp at hw;rw[hw]
  | some gw =>
    obtain ⟨g,want⟩:=gw
    rw[hg]at hw
    simp only at hw ⊢
    split at hw
    · rename_i d hd
      have hsd:slot d=s.slot d:=hs d (by simp[Oper.looksAt,hg,hd])
      have hv:=h.slots d
      rw[hsd]at hv
      unfold yielded
      rw[hd]
      split at hw
      · rename_i c hc
        rw[hc]at hv
        have hv':=Sa hv
        have:a.tmps[d]? = some (.bool c):=by
         rw[Amf]at hv'
         cases hx:a.tmps[d]? with
         | none=>rw[hx]at hv';simp[undef]at hv'
         | some u=>rw[hx]at hv';simp at hv';rw[hv']
        simp only[Option.bind_some,this]
        simpa using hw
      · rename_i hc
        rw[hc]at hv
        injection hw with hw
        subst hw
        have hu:a.tmps.getD d undef=undef:=by
         rcases hv with hv | hv | ⟨hv,_⟩
         · cases hv
         · exact hv.2
         · cases hv
        have : ∀ c,a.tmps[d]? ≠ some (.bool c):=by
         intro c hc'
         rw[Amf,hc']at hu
         simp[undef]at hu
        simp only[Option.bind_some]
        cases hx:a.tmps[d]? with
        | none=>rfl
        | some u=>cases u <;> first | rfl | exact absurd hx (this _)
      · cases hw
    · cases hw
 cases ho with
 | skip hp hw =>
  rw[if_neg (by rw[hwant false hs hw];simp)]
  refine hK undef w β ?_
  have:Il used []=used:=ZK used
  simp only[Bh,this]
  exact h.putSlot o.dst (by rw[hds];exact hp) .skip undef (.inr (.inl ⟨rfl,rfl⟩)) (by simp[L.ids])
 | @does r l l' eff mk s2 hp hw he hc hmk hout hll heff =>
  rw[if_pos (by rw[hwant true hs hw])]
  refine .inl ?_
  have hsub : ∀ q b,K2 (I3 s.look (Am s.slot) o.op) s.look q=some b→look q=some b:=by
    intro q b hq
    unfold K2 at hq
    cases hcq:(I3 s.look (Am s.slot) o.op).contains q with
    | false=>rw[hcq]at hq;cases hq
    | true=>rw[hcq]at hq;rw[hl q (by simpa using hcq)];exact hq
  have he':Co P md o (Am slot) (K2 (I3 s.look (Am s.slot) o.op) s.look)=some r:=by
    rw[AbU (fun x hx=>hopd x hx hs)];exact he
  have hok:=AeX hP h hsub he' hc
  have hD:Ca P o a w (B8 P md w0 N0 M0 slot look used ds n a l eff):=by
    cases hro:r.out with
    | val l0 eff0 =>
      rw[hro]at hok hout
      obtain ⟨rfl,rfl,rfl⟩:=hout
      exact hok hm
    | call fm f cts xs rts fz lent =>
      rw[hro]at hok hout
      obtain ⟨ys,d,hd,hspec,hcl,rfl,rfl⟩:=hout
      exact hok ys d l hd hm hspec hcl
  refine hD K Q (fun v w' hv=> ?_)
  obtain ⟨β',g1,g2,g3⟩:=hv
  refine hK v w' β' ?_
  rcases hll with rfl | ⟨x,rfl,rfl⟩
  · exact g1.putSlot o.dst (by rw[hds];exact hp) _ v g2 g3
  · refine g1.putSlot o.dst (by rw[hds];exact hp) _ v ?_ (by simp[L.ids])
    rw[Kd g2]
    exact Vq
end
end Go.Proofs.YtokkbgpgaheakaaGreat
namespace Go.Proofs.YtokkbgpgaheakaaGreat
open Go.RowKit
structure FSt where
 slot:Nat→L
 look:Nat→Option Blk
 used:Nat→Prop
def FSt.app (n:Nat) (f:FSt) (e:E):FSt:=⟨D3 n e.dst e.l f.slot,Bh f.look e.eff,Il f.used e.eff⟩
def Bw(n:Nat)(S:Nat→Bool):Nat→List E→FSt→FSt
 | _,[],f=>f
 | i,e::es,f=>Bw n S (i+1) es (bif S i then f.app n e else f)
def St.fs (s:St):FSt:=⟨s.slot,s.look,fun r=>r∈s.used⟩
theorem Q8{n:Nat}{d:Option Nat}{l:L}{slot:Nat→L}{t:Nat}(h:t∉d.toList):D3 n d l slot t=slot t:=by
 unfold D3
 rw[if_neg]
 rintro ⟨rfl,_⟩
 simp at h
theorem FN{n:Nat}{d:Option Nat}{l:L}{slot slot':Nat→L}{t:Nat}(h:slot t=slot' t):D3 n d l slot t=D3 n d l slot' t:=by
 unfold D3;split <;> first | rfl | exact h
theorem Tp : ∀ {eff:List (Nat×Option Blk)} {lk lk':Nat→Option Blk} {q:Nat},lk q=lk' q→Bh lk eff q=Bh lk' eff q
 | [],_,_,_,h=>h
 | (r,b)::eff,lk,lk',q,h=>by
  simp only[Bh]
  refine Tp ?_
  unfold Au;split <;> first | rfl | exact h
theorem Pw{eff:List (Nat×Option Blk)}{lk:Nat→Option Blk}{q:Nat}(h:q∉eff.map (·.1)):Bh lk eff q=lk q :=
 Tq (fun b hb=>h (List.mem_map.2 ⟨_,hb,rfl⟩))
structure Apart (e e':E):Prop where
 slot : ∀ t,t∈e.dst.toList→t∉e'.dst.toList
 blk : ∀ q,q∈e.eff.map (·.1)→q∉e'.eff.map (·.1)
theorem Aav{n:Nat}{f:FSt}{e e':E}(h:Apart e e'):(f.app n e).app n e'=(f.app n e').app n e:=by
 unfold FSt.app
 congr 1
 · funext t
   by_cases h1:t∈e.dst.toList
   · have h2:=h.slot t h1
     rw[Q8 h2]
     exact FN (Q8 h2).symm
   · rw[Q8 (d:=e.dst) h1]
     exact FN (Q8 h1)
 · funext q
   by_cases h1:q∈e.eff.map (·.1)
   · have h2:=h.blk q h1
     rw[Pw h2]
     exact Tp (Pw h2).symm
   · rw[Pw (eff:=e.eff) h1]
     exact Tp (Pw h1)
 · funext r
   apply propext
   simp only[Il]
   constructor
   · rintro ((h | h) | h)
     · exact .inl (.inl h)
     · exact .inr h
     · exact .inl (.inr h)
   · rintro ((h | h) | h)
     · exact .inl (.inl h)
     · exact .inr h
     · exact .inl (.inr h)
section
variable {n:Nat}
theorem Ya{S S':Nat→Bool} : ∀ {es:List E} {k:Nat} {f:FSt},(∀ j,j<es.length→S (k+j)=S' (k+j))→Bw n S k es f=Bw n S' k es f
 | [],_,_,_=>rfl
 | e::es,k,f,h=>by
  simp only[Bw]
  rw[show S k=S' k by have:=h 0 (by simp);simpa using this]
  exact Ya (fun j hj=>by have:=h (j+1) (by simpa using hj);rwa[show k+(j+1)=k+1+j by omega]at this)
theorem GI{S:Nat→Bool} : ∀ {es:List E} {k:Nat} {f:FSt},Bw n S (k+1) es f=Bw n (fun j=>S (j+1)) k es f
 | [],_,_=>rfl
 | e::es,k,f=>by simp only[Bw];exact GI
theorem GH{S:Nat→Bool} : ∀ {es:List E} {k:Nat} {f:FSt},(∀ j,k≤j→S j=false)→Bw n S k es f=f
 | [],_,_,_=>rfl
 | e::es,k,f,h=>by
  simp only[Bw,h k (Als _),cond_false]
  exact GH (fun j hj=>h j (by omega))
theorem YB{S S':Nat→Bool}{t:Nat} : ∀ {es:List E} {k:Nat} {f f':FSt},f.slot t=f'.slot t→(∀ (j:Nat) (e:E),es[j]? = some e→S (k+j)=S' (k+j)∨t∉e.dst.toList)→(Bw n S k es f).slot t=(Bw n S' k es f').slot t
 | [],_,_,_,h,_=>h
 | e::es,k,f,f',h,hs=>by
  simp only[Bw]
  refine YB ?_ (fun j e' he'=>by have:=hs (j+1) e' (by simpa using he');rwa[show k+(j+1)=k+1+j by omega]at this)
  have h0:=hs 0 e rfl
  simp only[Nat.add_zero]at h0
  rcases h0 with h0 | h0
  · rw[h0]
    cases S' k with
    | false=>exact h
    | true=>exact FN h
  · have hp : ∀ g:FSt,(g.app n e).slot t=g.slot t:=fun g=>Q8 h0
    cases S k <;> cases S' k <;> simp only[cond_true,cond_false,hp,h]
theorem OT{S S':Nat→Bool}{q:Nat} : ∀ {es:List E} {k:Nat} {f f':FSt},f.look q=f'.look q→(∀ (j:Nat) (e:E),es[j]? = some e→S (k+j)=S' (k+j)∨q∉e.eff.map (·.1))→(Bw n S k es f).look q=(Bw n S' k es f').look q
 | [],_,_,_,h,_=>h
 | e::es,k,f,f',h,hs=>by
  simp only[Bw]
  refine OT ?_ (fun j e' he'=>by have:=hs (j+1) e' (by simpa using he');rwa[show k+(j+1)=k+1+j by omega]at this)
  have h0:=hs 0 e rfl
  simp only[Nat.add_zero]at h0
  rcases h0 with h0 | h0
  · rw[h0]
    cases S' k with
    | false=>exact h
    | true=>exact Tp h
  · have hp : ∀ g:FSt,(g.app n e).look q=g.look q:=fun g=>Pw h0
    cases S k <;> cases S' k <;> simp only[cond_true,cond_false,hp,h]
theorem ZJ{S:Nat→Bool}{q:Nat} : ∀ {es:List E} {k:Nat} {f:FSt},(Bw n S k es f).used q→f.used q∨∃ (j:Nat) (e:E),es[j]? = some e∧S (k+j)=true∧∃ b,(q,some b)∈e.eff
 | [],_,_,h=> .inl h
 | e::es,k,f,h=>by
  simp only[Bw]at h
  rcases ZJ h with h1 | ⟨j,e',h1,h2,h3⟩
  · cases hs:S k with
    | false=>rw[hs]at h1;exact .inl h1
    | true =>
     rw[hs]at h1
     rcases h1 with h1 | h1
     · exact .inl h1
     · exact .inr ⟨0,e,rfl,by simpa using hs,h1⟩
  · exact .inr ⟨j+1,e',by simpa using h1,by rwa[show k+(j+1)=k+1+j by omega],h3⟩
theorem IR{S:Nat→Bool}{q:Nat} : ∀ {es:List E} {k:Nat} {f:FSt},f.used q→(Bw n S k es f).used q
 | [],_,_,h=>h
 | e::es,k,f,h=>by
  simp only[Bw]
  refine IR ?_
  cases S k with
  | false=>exact h
  | true=>exact .inl h
theorem ZL{S:Nat→Bool}{q:Nat} : ∀ {es:List E} {k:Nat} {f:FSt} {j:Nat} {e:E} {b:Blk},es[j]? = some e→S (k+j)=true→(q,some b)∈e.eff→(Bw n S k es f).used q
 | e::es,k,f,0,e',b,h1,h2,h3=>by
  simp at h1;subst h1
  simp only[Nat.add_zero]at h2
  simp only[Bw,h2,cond_true]
  exact IR (.inr ⟨b,h3⟩)
 | e::es,k,f,j+1,e',b,h1,h2,h3=>by
  simp only[Bw]
  exact ZL (by simpa using h1) (by rwa[show k+(j+1)=k+1+j by omega]at h2) h3
 | [],k,f,j,e',b,h1,_,_=>by simp at h1
theorem VG{S:Nat→Bool}{e:E} : ∀ {es:List E} {k:Nat} {f:FSt},(∀ (j:Nat) (e':E),es[j]? = some e'→S (k+j)=true→Apart e e')→Bw n S k es (f.app n e)=(Bw n S k es f).app n e
 | [],_,_,_=>rfl
 | e'::es,k,f,h=>by
  simp only[Bw]
  have hr : ∀ f,Bw n S (k+1) es (f.app n e)=(Bw n S (k+1) es f).app n e:=fun f=>VG (fun j e'' h1 h2=>h (j+1) e'' (by simpa using h1) (by rwa[show k+(j+1)=k+1+j by omega]))
  cases hs:S k with
  | false=>exact hr f
  | true =>
   simp only[cond_true]
   rw[Aav (h 0 e' rfl (by simpa using hs))]
   exact hr _
theorem VH{S:Nat→Bool}{e:E} : ∀ {es:List E} {k i:Nat} {f:FSt},es[i]? = some e→S (k+i)=false→(∀ (j:Nat) (e':E),i<j→es[j]? = some e'→S (k+j)=true→Apart e e')→Bw n (Au S (k+i) true) k es f=(Bw n S k es f).app n e
 | e'::es,k,0,f,h1,h2,h3=>by
  simp at h1;subst h1
  simp only[Nat.add_zero]at h2 ⊢
  simp only[Bw,Bz,h2,cond_true,cond_false]
  rw[Ya (S':=S) (fun j _=>Bo _ _ (by omega))]
  exact VG (fun j e'' g1 g2=>h3 (j+1) e'' (by omega) (by simpa using g1) (by rwa[show k+(j+1)=k+1+j by omega]))
 | e'::es,k,i+1,f,h1,h2,h3=>by
  simp only[Bw]
  rw[Bo _ _ (by omega)]
  rw[show k+(i+1)=k+1+i by omega]at h2 ⊢
  exact VH (by simpa using h1) h2 (fun j e'' hj g1 g2=>h3 (j+1) e'' (by omega) (by simpa using g1) (by rwa[show k+(j+1)=k+1+j by omega]))
 | [],k,i,f,h1,_,_=>by simp at h1
end
section
variable {P:Program} {md:Nat→FMode} {w0 w w':World} {N0 M0 M:Nat→Prop} {pv:Nat→Value} {ds:Dfs} {β:Nat→Value} {a:Act} {n:Nat} {ops:Array Oper}
theorem OW : ∀ {os:List Oper} {s s':St} {es:List E},Many P md ops os s es s'→es.length=os.length
 | [],_,_,_,.nil=>rfl
 | _::_,_,_,_,.cons _ hr=>by simp[OW hr]
theorem OV{os:List Oper}{s s':St}{es:List E}(h:Many P md ops os s es s'):(∀ r b,s.look r=some b→r∈s.used)→∀ {f:FSt},f.slot=s.slot→f.look=s.look→(∀ r,f.used r→r∈s.used)→∀ {i:Nat} {o:Oper} {e:E},os[i]? = some o→es[i]? = some e →
  ∃ si s1,One P md ops o si e s1∧(Bw s.tmps.length (fun j=>decide (j<i)) 0 es f).slot=si.slot∧(Bw s.tmps.length (fun j=>decide (j<i)) 0 es f).look=si.look∧(∀ r,(Bw s.tmps.length (fun j=>decide (j<i)) 0 es f).used r→r∈si.used)∧si.dp=s.dp:=by
 induction h with
 | nil=>intro _ f _ _ _ i o e ho;simp at ho
 | @cons o0 os s s1 s2 e0 es h hr ih =>
  intro hu f f1 f2 f3 i o e ho he
  cases i with
  | zero =>
   simp at ho he
   subst ho;subst he
   have hn:Bw s.tmps.length (fun j=>decide (j<0)) 0 (e0::es) f=f:=GH (fun j _=>by simp)
   rw[hn]
   exact ⟨s,s1,h,f1,f2,f3,rfl⟩
  | succ i =>
   obtain ⟨g1,g2,g3,g4,g5,g6,_⟩:=L9 h
   obtain ⟨u1,u2⟩:=g6 hu
   obtain ⟨si,s1',k1,k2,k3,k4,k5⟩:=ih u1 (f:=f.app s.tmps.length e0) (by rw[g1];simp only[FSt.app,f1]) (by rw[g2];simp only[FSt.app,f2]) (fun r hr'=>by
    rcases hr' with hr' | ⟨b,hb⟩
    · exact g5 r (f3 r hr')
    · exact u2 r b hb) (i:=i) (o:=o) (e:=e) (by simpa using ho) (by simpa using he)
   have hrep:Bw s.tmps.length (fun j=>decide (j<i+1)) 0 (e0::es) f=Bw s1.tmps.length (fun j=>decide (j<i)) 0 es (f.app s.tmps.length e0):=by
    simp only[Bw,show decide (0<i+1)=true by simp,cond_true]
    rw[GI,g3]
    exact Ya (fun j _=>by simp)
   rw[hrep]
   exact ⟨si,s1',k1,k2,k3,k4,k5.trans g4⟩
theorem Ad2{os:List Oper}{s s':St}{es:List E}(h:Many P md ops os s es s'):(∀ r b,s.look r=some b→r∈s.used)→∀ {f:FSt},f.slot=s.slot→f.look=s.look→(∀ r,f.used r→r∈s.used) →
  s'.tmps.length=s.tmps.length∧s'.dp=s.dp∧(Bw s.tmps.length (fun _=>true) 0 es f).slot=s'.slot∧(Bw s.tmps.length (fun _=>true) 0 es f).look=s'.look∧∀ r,(Bw s.tmps.length (fun _=>true) 0 es f).used r→r∈s'.used:=by
 induction h with
 | nil=>intro hu f f1 f2 f3;exact ⟨rfl,rfl,f1,f2,f3⟩
 | @cons o0 os s s1 s2 e0 es h hr ih =>
  intro hu f f1 f2 f3
  obtain ⟨g1,g2,g3,g4,g5,g6,_⟩:=L9 h
  obtain ⟨u1,u2⟩:=g6 hu
  obtain ⟨k1,k2,k3,k4,k5⟩:=ih u1 (f:=f.app s.tmps.length e0) (by rw[g1];simp only[FSt.app,f1]) (by rw[g2];simp only[FSt.app,f2]) (fun r hr'=>by
   rcases hr' with hr' | ⟨b,hb⟩
   · exact g5 r (f3 r hr')
   · exact u2 r b hb)
  have hrep:Bw s.tmps.length (fun _=>true) 0 (e0::es) f=Bw s1.tmps.length (fun _=>true) 0 es (f.app s.tmps.length e0):=by
   simp only[Bw,cond_true]
   rw[GI,g3]
  rw[hrep]
  exact ⟨k1.trans g3,k2.trans g4,k3,k4,k5⟩
abbrev RS(P:Program)(md:Nat→FMode)(w0:World)(N0 M0:Nat→Prop)(pv:Nat→Value)(s:St)(β:Nat→Value)(a:Act)(w:World):Prop:=R P md w0 N0 M0 s.slot s.look (fun r=>r∈s.used) ⟨s.dp,pv⟩ s.tmps.length β a w
theorem RS.hu {s:St} (h:RS P md w0 N0 M0 pv s β a w) : ∀ r b,s.look r=some b→r∈s.used:=fun r b hr=>(h.usedB r b hr).1
theorem WD{o:Oper}{s s1:St}{e:E}(ho:One P md ops o s e s1)(hu : ∀ r b,s.look r=some b→r∈s.used)(h:R P md w0 N0 M0 (D3 s.tmps.length e.dst e.l s.slot) (Bh s.look e.eff) (Il (fun r=>r∈s.used) e.eff) ⟨s.dp,pv⟩ s.tmps.length β a w):RS P md w0 N0 M0 pv s1 β a w:=by
 obtain ⟨g1,g2,g3,g4,g5,g6,_⟩:=L9 ho
 show R P md w0 N0 M0 s1.slot s1.look (fun r=>r∈s1.used) ⟨s1.dp,pv⟩ s1.tmps.length β a w
 rw[g1,g2,g3,g4]
 refine h.weak (fun r hr=> ?_)
 rcases hr with hr | ⟨b,hb⟩
 · exact g5 r hr
 · exact (g6 hu).2 r b hb
theorem Ad3(hP:WfP P){Q:Exit→Act→World→Prop}{os:List Oper}{s s':St}{es:List E}(hm:Many P md ops os s es s') : ∀ {k:Nat} {β:Nat→Value} {a:Act} {w:World},os=ops.toList.drop k→RS P md w0 N0 M0 pv s β a w→(∀ β a w,RS P md w0 N0 M0 pv s' β a w→Q .normal a w)→wpOps P ops Q (List.range' k (ops.size-k)) a w:=by
 induction hm with
 | nil =>
  intro k β a w hos h hQ
  have:ops.size≤k:=by have:=congrArg List.length hos;simp at this;omega
  rw[show ops.size-k=0 by omega]
  exact hQ _ _ _ h
 | @cons o os s s1 s2 e es ho hr ih =>
  intro k β a w hos h hQ
  have hk:k<ops.size:=by have:=congrArg List.length hos;simp at this;omega
  have hok:ops[k]? = some o:=by
   have:=congrArg (fun l=>l[0]?) hos
   simp[List.getElem?_drop]at this
   exact this.symm
  rw[show ops.size-k=(ops.size-(k+1))+1 by omega,List.range'_succ]
  unfold wpOps
  rw[hok]
  refine ER hP ho h (fun _ _=>rfl) (fun _ _=>rfl) (fun q hq=> ?_) rfl (fun v w' β' h'=> ?_)
  · exact (L9 ho).2.2.2.2.2.2.2.2.2.2 q hq
  · exact ih (by have:=congrArg List.tail hos;simpa [List.tail_drop]using this) (WD ho h.hu h') hQ
end
end Go.Proofs.YtokkbgpgaheakaaGreat
namespace Go.Proofs.YtokkbgpgaheakaaGreat
open Go.RowKit
theorem Aat(ops:Array Oper):JE ops.toList=Fe ops ops.size:=by
 have key : ∀ k,k≤ops.size→(ops.toList.take k).foldl (fun acc o=>acc++[o.after.toList.foldl (fun s e=>bif Region.binds .any e then s|||2 ^ e.on|||acc.getD e.on 0 else s) 0]) []=Fe ops k:=by
  intro k
  induction k with
  | zero=>intro _;rfl
  | succ k ih =>
   intro hk
   have hk':k<ops.toList.length:=by rw[Array.length_toList];omega
   rw[List.take_add_one,Alg hk',Option.toList_some,List.foldl_append,ih (by omega)]
   simp only[List.foldl_cons,List.foldl_nil,Fe]
   rw[Al3 (by omega),Option.map_some,Option.getD_some,Array.getElem_toList]
   congr 2
   congr 1
   funext s e
   cases Region.binds .any e <;> rfl
 have:=key ops.size (Als _)
 rw[Amb (by simp)]at this
 exact this
theorem KP{bs:List Nat}{a:Tr}{i:Nat} : ∀ {trs:List Tr} {j:Nat},Nb.go bs i a j trs=true→∀ (q:Nat) (b:Tr),trs[q]? = some b→a.clash b=true→(bs.getD (j+q) 0).testBit i=true
 | [],_,_,q,b,hb,_=>by simp at hb
 | b0::trs,j,h,q,b,hb,hc=>by
  simp only[Nb.go,Alp,Bool.or_eq_true,Bool.not_eq_true']at h
  cases q with
  | zero =>
   simp at hb;subst hb
   rcases h.1 with h1 | h1
   · rw[hc]at h1;cases h1
   · simpa using h1
  | succ q =>
   have:=KP h.2 q b (by simpa using hb) hc
   rwa[show j+1+q=j+(q+1) by omega]at this
theorem KQ{bs:List Nat} : ∀ {trs:List Tr} {k:Nat},Nb bs k trs=true→∀ (i j:Nat) (a b:Tr),i<j→trs[i]? = some a→trs[j]? = some b→a.clash b=true→(bs.getD (k+j) 0).testBit (k+i)=true
 | [],_,_,i,j,a,b,_,ha,_,_=>by simp at ha
 | t::trs,k,h,i,j,a,b,hij,ha,hb,hc=>by
  simp only[Nb,Alp]at h
  cases j with
  | zero=>omega
  | succ j =>
   cases i with
   | zero =>
    simp at ha;subst ha
    have:=KP h.2 j b (by simpa using hb) hc
    rwa[show k+1+j=k+(j+1) by omega]at this
   | succ i =>
    have:=KQ h.1 i j a b (by omega) (by simpa using ha) (by simpa using hb) hc
    rwa[show k+1+j=k+(j+1) by omega,show k+1+i=k+(i+1) by omega]at this
theorem KR{a b:Tr}{x:Nat}(h1:x∈a.sw)(h2:x∈b.sr∨x∈b.sw):a.clash b=true:=by
 simp only[Tr.clash,Bool.or_eq_true,List.any_eq_true,List.contains_iff_mem]
 exact .inl (.inl (.inl ⟨x,h1,h2⟩))
theorem Abd{a b:Tr}{x:Nat}(h1:x∈a.sr)(h2:x∈b.sw):a.clash b=true:=by
 simp only[Tr.clash,Bool.or_eq_true,List.any_eq_true,List.contains_iff_mem]
 exact .inl (.inl (.inr ⟨x,h1,h2⟩))
theorem BG{a b:Tr}{x:Nat}(h1:x∈a.hw)(h2:x∈b.hr∨x∈b.hw):a.clash b=true:=by
 simp only[Tr.clash,Bool.or_eq_true,List.any_eq_true,List.contains_iff_mem]
 exact .inl (.inr ⟨x,h1,h2⟩)
theorem Abc{a b:Tr}{x:Nat}(h1:x∈a.hr)(h2:x∈b.hw):a.clash b=true:=by
 simp only[Tr.clash,Bool.or_eq_true,List.any_eq_true,List.contains_iff_mem]
 exact .inr ⟨x,h1,h2⟩
section
variable {P:Program} {md:Nat→FMode} {w0 w w':World} {N0 M0 M:Nat→Prop} {pv:Nat→Value} {ds:Dfs} {β:Nat→Value} {a:Act} {n:Nat} {ops:Array Oper}
theorem Ad1(hP:WfP P){Q:Exit→Act→World→Prop}{s s':St}{es:List E}(hm:Many P md ops ops.toList s es s')(hc:S7 ops (es.map (·.tr))=true)(hu : ∀ r b,s.look r=some b→r∈s.used)(hQ : ∀ β a w,RS P md w0 N0 M0 pv s' β a w→Q .normal a w) :
  ∀ (fuel:Nat) (l:Array Bool) (β:Nat→Value) (a:Act) (w:World),l.size=ops.size→I6 ops.size l≤fuel→(∀ (j:Nat) (o:Oper),l.getD j false=true→ops[j]? = some o→∀ e∈o.after,Region.binds .any e=true→l.getD e.on false=true) →
    R P md w0 N0 M0 (Bw s.tmps.length (fun j=>l.getD j false) 0 es s.fs).slot (Bw s.tmps.length (fun j=>l.getD j false) 0 es s.fs).look (Bw s.tmps.length (fun j=>l.getD j false) 0 es s.fs).used ⟨s.dp,pv⟩ s.tmps.length β a w→wpAny P .any ops Q fuel l a w:=by
 simp only[S7,KO,Alp,List.all_eq_true,List.mem_range]at hc
 obtain ⟨⟨_,hedge⟩,htr⟩:=hc
 have hlen:es.length=ops.size:=by rw[OW hm];simp
 have hed : ∀ (i:Nat) (o:Oper),ops[i]? = some o→∀ e∈o.after,Region.binds .any e=true→e.on<i:=by
  intro i o ho e he hb
  have h:=hedge i (Amc.1 ho).1
  rw[ho,Option.map_some,Option.getD_some]at h
  have:=Array.all_eq_true_iff_forall_mem.1 h e he
  simpa [hb]using this
 rw[Aat]at htr
 have ord : ∀ (i j:Nat) (a b:E),i<j→es[i]? = some a→es[j]? = some b→a.tr.clash b.tr=true→((Fe ops (j+1)).getD j 0).testBit i=true:=by
  intro i j a b hij ha hb hcl
  have:=KQ htr i j a.tr b.tr hij (by rw[Aly,ha];rfl) (by rw[Aly,hb];rfl) hcl
  have hj:j<ops.size:=by rw[← hlen];exact (Alj.1 hb).1
  simp only[Amn]at this
  rw[Pf ops j ops.size hj]at this
  rw[Pf ops j (j+1) (by omega)]
  exact this
 have getD_tf : ∀ (l:Array Bool) (i:Nat),l.size=ops.size→i<ops.size→(l.getD i true=l.getD i false):=by
  intro l i hl hi
  rw[Amf,Amf,Al3 (by omega)];rfl
 have allDone : ∀ (l:Array Bool) (β:Nat→Value) (a:Act) (w:World),(∀ j,j<ops.size→l.getD j false=true)→R P md w0 N0 M0 (Bw s.tmps.length (fun j=>l.getD j false) 0 es s.fs).slot (Bw s.tmps.length (fun j=>l.getD j false) 0 es s.fs).look (Bw s.tmps.length (fun j=>l.getD j false) 0 es s.fs).used ⟨s.dp,pv⟩ s.tmps.length β a w→Q .normal a w:=by
  intro l β a w hall h
  have he:Bw s.tmps.length (fun j=>l.getD j false) 0 es s.fs=Bw s.tmps.length (fun _=>true) 0 es s.fs:=Ya (fun j hj=>by simp only[Amn];exact hall j (by omega))
  rw[he]at h
  obtain ⟨g1,g2,g3,g4,g5⟩:=Ad2 hm hu (f:=s.fs) rfl rfl (fun r hr=>hr)
  refine hQ β a w ?_
  show R P md w0 N0 M0 s'.slot s'.look (fun r=>r∈s'.used) ⟨s'.dp,pv⟩ s'.tmps.length β a w
  rw[g1,g2,← g3,← g4]
  exact h.weak g5
 intro fuel
 induction fuel with
 | zero =>
  intro l β a w hl hleft hdown h
  have hall : ∀ j,j<ops.size→l.getD j false=true:=by
    intro j hj
    cases hx:l.getD j false with
    | true=>rfl
    | false =>
      have hp:=List.countP_pos_iff (p:=fun j=> !l.getD j true) (l:=Amd ops.size) |>.2 ⟨j,List.mem_range.2 hj,by rw[getD_tf l j hl hj,hx];rfl⟩
      unfold I6 at hleft
      omega
  refine ⟨?_,allDone l β a w hall h⟩
  cases hr:Region.ready .any ops l with
  | nil=>rfl
  | cons x xs =>
    obtain ⟨hun,o,ho,_⟩:=mem_ready.1 (show x∈Region.ready .any ops l by rw[hr];simp)
    have hx:=(Amc.1 ho).1
    rw[getD_tf l x hl hx,hall x hx]at hun
    cases hun
 | succ fuel ih =>
  intro l β a w hl hleft hdown h
  refine ⟨fun hr=> ?_,fun i hi=> ?_⟩
  · refine allDone l β a w ?_ h
    have hall : ∀ n,n≤ops.size→∀ i,i<n→l.getD i false=true:=by
      intro n
      induction n with
      | zero=>intro _ i hi;omega
      | succ n ihn =>
        intro hn i hi
        rcases Nat.lt_or_ge i n with h | h
        · exact ihn (by omega) i h
        · obtain rfl:i=n:=by omega
          cases hx:l.getD i false with
          | true=>rfl
          | false =>
            have:i∈Region.ready .any ops l:=mem_ready.2 ⟨by rw[getD_tf l i hl (by omega)];exact hx,ops[i]'(by omega),Al3 (by omega),fun e he hb=>ihn (by omega) e.on (hed i _ (Al3 (by omega)) e he hb)⟩
            rw[hr]at this;cases this
    exact fun j hj=>hall ops.size (Als _) j hj
  · obtain ⟨hun,o,ho,haft⟩:=mem_ready.1 hi
    have his:i<ops.size:=(Amc.1 ho).1
    have hli:l.getD i false=false:=by rw[← getD_tf l i hl his];exact hun
    have hei:es[i]? = some (es[i]'(by omega)):=Alg (by omega)
    generalize es[i]'(by omega)=e at hei
    obtain ⟨si,s1,hone,k1,k2,k3,k4⟩:=OV hm hu (f:=s.fs) rfl rfl (fun r hr=>hr) (show ops.toList[i]? = some o by simpa using ho) hei
    obtain ⟨_,_,_,_,_,_,t1,t2,t3,t4,t5⟩:=L9 hone
    have trs : ∀ (j:Nat) (ej:E),es[j]? = some ej→ej.tr.sw=ej.dst.toList∧ej.tr.hw=ej.made++ej.eff.map (·.1):=by
      intro j ej hej
      have hj:j<ops.size:=by rw[← hlen];exact (Alj.1 hej).1
      obtain ⟨sj,s1j,honej,_⟩:=OV hm hu (f:=s.fs) rfl rfl (fun r hr=>hr) (show ops.toList[j]? = some (ops[j]'hj) by simp[hj]) hej
      obtain ⟨_,_,_,_,_,_,_,q2,q3,_⟩:=L9 honej
      exact ⟨q2,q3⟩
    have before : ∀ (j:Nat) (ej:E),j<i→es[j]? = some ej→ej.tr.clash e.tr=true→l.getD j false=true:=fun j ej hj hej hcl =>
      Sr hdown i o ho haft (hed i o ho) (fun j o' _ ho'=>hed j o' ho') j (ord j i ej e hj hej hei hcl)
    have behind : ∀ (j:Nat) (ej:E),i<j→es[j]? = some ej→e.tr.clash ej.tr=true→l.getD j false=false:=fun j ej hj hej hcl=>by
      cases hx:l.getD j false with
      | false=>rfl
      | true =>
        have hjs:j<ops.size:=by rw[← hlen];exact (Alj.1 hej).1
        have:=Sr hdown j (ops[j]'hjs) (Al3 hjs) (hdown j _ hx (Al3 hjs)) (hed j _ (Al3 hjs)) (fun j o' _ ho'=>hed j o' ho') i (ord i j e ej hj hei hej hcl)
        rw[hli]at this;cases this
    have agree : ∀ (X:E→Prop),(∀ (j:Nat) (ej:E),es[j]? = some ej→X ej→(j<i→ej.tr.clash e.tr=true)∧(i<j→e.tr.clash ej.tr=true))→∀ (j:Nat) (ej:E),es[j]? = some ej→(l.getD (0+j) false=decide (0+j<i))∨¬ X ej:=by
      intro X hX j ej hej
      simp only[Amn]
      by_cases hx:X ej
      · obtain ⟨x1,x2⟩:=hX j ej hej hx
        refine .inl ?_
        rcases Nat.lt_trichotomy j i with hji | hji | hji
        · rw[before j ej hji hej (x1 hji)];simp[hji]
        · subst hji;rw[hli];simp
        · rw[behind j ej hji hej (x2 hji)]
          have : ¬ j<i:=by omega
          simp[this]
      · exact .inr hx
    unfold wpOp
    simp only[ho]
    refine ER hP hone h (fun t ht=> ?_) (fun q hq=> ?_) (fun q hq hus=> ?_) (congrArg Prod.snd k4).symm (fun v w' β' h'=> ?_)
    · rw[← k1]
      refine YB rfl (agree (fun ej=>t∈ej.dst.toList) (fun j ej hej hx=>⟨fun _=>KR (by rw[(trs j ej hej).1];exact hx) (.inl ht),fun _=>Abd ht (by rw[(trs j ej hej).1];exact hx)⟩))
    · rw[← k2]
      refine OT rfl (agree (fun ej=>q∈ej.eff.map (·.1)) (fun j ej hej hx=>⟨fun _=>BG (by rw[(trs j ej hej).2];exact List.mem_append_right _ hx) (.inl hq),fun _=>Abc hq (by rw[(trs j ej hej).2];exact List.mem_append_right _ hx)⟩))
    · refine t5 q hq ?_
      rcases ZJ hus with h1 | ⟨j,ej,h1,h2,b,h3⟩
      · exact k3 q (IR h1)
      · simp only[Amn]at h2
        rcases Nat.lt_trichotomy j i with hji | hji | hji
        · exact k3 q (ZL h1 (by simpa using hji) h3)
        · subst hji;rw[hli]at h2;cases h2
        · have:=behind j ej hji h1 (BG (x:=q) (by rw[t3];exact List.mem_append_left _ hq) (.inr (by rw[(trs j ej h1).2];exact List.mem_append_right _ (List.mem_map.2 ⟨_,h3,rfl⟩))))
          rw[h2]at this;cases this
    · have hS:(fun j=>(l.setIfInBounds i true).getD j false)=Au (fun j=>l.getD j false) (0+i) true:=by
        funext j
        simp only[Au,Amn]
        by_cases hji:j=i
        · subst hji;simp[hl,his]
        · rw[if_neg hji,getD_set_ne false (Ne.symm hji)]
      have hrep:=VH (n:=s.tmps.length) (S:=fun j=>l.getD j false) (f:=s.fs) (k:=0) hei (by simpa using hli) (fun j ej hij hej hSj=>⟨fun t ht ht'=> ?_,fun q hq hq'=> ?_⟩)
      · refine ih _ β' _ _ (by simpa using hl) ?_ (fun j o' hj ho' e' he' hb'=> ?_) ?_
        · have:I6 ops.size (l.setIfInBounds i true)<I6 ops.size l:=by
            refine BL _ _ (fun x hx=> ?_) i (by simp only[hun];rfl) ?_ _ (List.mem_range.2 his)
            · by_cases hxi:i=x
              · subst hxi;simp only[hun];rfl
              · rw[getD_set_ne true hxi]at hx;exact hx
            · simp[hl,his]
          omega
        · refine getD_set_true ?_
          by_cases hji:j=i
          · subst hji
            rw[ho]at ho'
            injection ho' with ho'
            subst ho'
            exact haft e' he' hb'
          · rw[getD_set_ne false (Ne.symm hji)]at hj
            exact hdown j o' hj ho' e' he' hb'
        · rw[hS,hrep]
          exact h'
      · have:=behind j ej hij hej (KR (x:=t) (by rw[t2];exact ht) (.inr (by rw[(trs j ej hej).1];exact ht')))
        simp only[Amn]at hSj
        rw[hSj]at this;cases this
      · have:=behind j ej hij hej (BG (x:=q) (by rw[t3];exact List.mem_append_right _ hq) (.inr (by rw[(trs j ej hej).2];exact List.mem_append_right _ hq')))
        simp only[Amn]at hSj
        rw[hSj]at this;cases this
theorem Aic(hP:WfP P)(hmix:P.follows .mixedOrders=true){Q:Exit→Act→World→Prop}{id:Nat}{draw:Bool}{s:St}{Φ:List D→Prop}{K:Ex→St→Tree}(h:RS P md w0 N0 M0 pv s β a w)(ht:(Hh P md ops ops.toList 0 s [] (GG ops draw K)).wp P md Φ)
  (hQ : ∀ s' β a w,(K .normal s').wp P md Φ→RS P md w0 N0 M0 pv s' β a w→Q .normal a w):(Code.region id ops draw).wp P Q a w:=by
 obtain ⟨es,s',hm,hk⟩:=CH ht
 simp only[List.reverse_nil,Amo,GG]at hk
 cases draw with
 | false =>
  have:=Ad3 (k:=0) hP hm (by simp) h (fun β a w h'=>hQ s' β a w hk h')
  rw[Nat.sub_zero,← List.range_eq_range']at this
  exact wp_region this
 | true =>
  simp only[cond_true]at hk
  cases hcd:S7 ops (es.map (·.tr)) with
  | false=>rw[hcd]at hk;exact hk.elim
  | true =>
   rw[hcd]at hk
   refine wp_region_any hmix (Ad1 hP hm hcd h.hu (fun β a w h'=>hQ s' β a w hk h') ops.size _ β a _ (by simp) ?_ (fun j o hj=> ?_) ?_)
   · exact Nat.le_trans List.countP_le_length (by simp)
   · have hjs : ¬ ((Array.replicate ops.size false).getD j false=true):=by
      rw[Amf,Array.getElem?_replicate];split <;> simp
     exact absurd hj hjs
   · rw[GH (fun j _=>by rw[Amf,Array.getElem?_replicate];split <;> rfl)]
     exact h.grow ⟨rfl,rfl,rfl,Als _,fun _ _=>rfl⟩
theorem AbD{draw:Bool}{o0 o1:Oper}{g:Operand}(h:Tm ops draw=some (o0,o1,g)):ops = #[o0,o1]∧draw=false∧BX o1.op=some g∧o1.guard=none∧o1.dst=none:=by
 unfold Tm at h
 split at h
 · rename_i p q hops
   split at h
   · rename_i g' hg
     split at h
     · rename_i hgu hds
       simp only[Alo,Prod.mk.injEq]at h
       obtain ⟨rfl,rfl,rfl⟩:=h
       exact ⟨by rw[← Array.toList_inj];exact hops,rfl,hg,hgu,hds⟩
     · cases h
   · cases h
 · cases h
theorem AhZ(hP:WfP P){Q:Exit→Act→World→Prop}{id:Nat}{draw:Bool}{o0 o1:Oper}{g:Operand}{s:St}{Φ:List D→Prop}{K:Ex→St→Tree}(hd:Tm ops draw=some (o0,o1,g))(h:RS P md w0 N0 M0 pv s β a w)(ht:(Hh P md ops [o0] 0 s [] (BW md g K)).wp P md Φ)
  (hQ : ∀ s' β a w,(K .normal s').wp P md Φ→RS P md w0 N0 M0 pv s' β a w→Q .normal a w):(Code.region id ops draw).wp P Q a w:=by
 obtain ⟨rfl,rfl,hg,hgu,hds⟩:=AbD hd
 obtain ⟨es,s',hm,hk⟩:=CH ht
 cases hm with
 | @cons _ _ _ s1 _ e _ ho hr =>
  cases hr
  refine wp_region ?_
  show wpOps P #[o0,o1] Q [0,1] a w
  unfold wpOps
  refine ER hP ho h (fun _ _=>rfl) (fun _ _=>rfl) (fun q hq=>(L9 ho).2.2.2.2.2.2.2.2.2.2 q hq) rfl (fun v w' β' h'=> ?_)
  have h1:RS P md w0 N0 M0 pv s' β' (a.put o0.dst v) w':=WD ho h.hu h'
  generalize a.put o0.dst v=a1 at h1
  simp only[BW]at hk
  split at hk
  · rename_i f caps hf
    cases hno:(md f).noop with
    | false=>rw[hno]at hk;exact hk.elim
    | true =>
     rw[hno]at hk
     have hv:=By h1 g
     rw[hf]at hv
     obtain ⟨vs,hvs,hlen,_⟩:=ZN hv
     unfold wpOps
     change (if Region.wanted o1 (yielded #[o0,o1] a1.tmps) then o1.wp P a1 w' (wpOps P #[o0,o1] Q []) Q∨(o1.asks P a1 w'∧LetsOut Q) else _)
     rw[if_pos (by unfold Region.wanted;rw[hgu])]
     refine .inl ?_
     have hrun:(execOp a1.eval o1).run P w' = .ok (.defer { target:= .fn (.func f) vs,args:= #[] }) w':=by
      unfold BX at hg
      split at hg
      · rename_i c hc
        split at hg
        · rename_i g' hcal
          split at hg
          · rename_i hemp
            injection hg with hg
            subst hg
            have hargs:c.args = #[]:=by simpa using hemp
            simp[execOp,hc,resolve,hcal,hvs,hargs,Deferred.ofValue]
          · cases hg
        · cases hg
      · cases hg
     unfold Oper.wp
     rw[hrun,Oper.upon_defer,hds]
     refine hQ _ β' _ w' hk ?_
     show R P md w0 N0 M0 s'.slot s'.look (fun r=>r∈s'.used) ⟨((f,caps)::s'.defs,s'.pins),pv⟩ s'.tmps.length β' { a1 with defers:= { target:= .fn (.func f) vs,args:= #[] } :: a1.defers } w'
     have h2:R P md w0 N0 M0 s'.slot s'.look (fun r=>r∈s'.used) ⟨(s'.defs,s'.pins),pv⟩ s'.tmps.length β' a1 w':=h1
     refine ⟨h2.stp,h2.m0,h2.size,h2.slots,h2.blks,h2.own,h2.sep,h2.usedS,h2.usedB,⟨by simp[h2.defs.1],fun i d x hi hx=> ?_⟩,h2.pin⟩
     cases i with
     | zero =>
      simp at hi hx
      subst hi;subst hx
      exact ⟨vs,rfl,hlen,hno⟩
     | succ i=>exact h2.defs.2 i d x (by simpa using hi) (by simpa using hx)
  · exact hk.elim
end
end Go.Proofs.YtokkbgpgaheakaaGreat
namespace Go.Proofs.YtokkbgpgaheakaaGreat
open Go.RowKit
section
variable {P:Program} {md:Nat→FMode} {w0 w w':World} {N0 M0 M:Nat→Prop} {pv:Nat→Value} {slot slot':Nat→L} {look look' lookR:Nat→Option Blk} {used used':Nat→Prop} {ds:Dfs} {β:Nat→Value} {a:Act} {n:Nat}
theorem Pk : ∀ {ls:List L} {i:Nat} {l:L},(L.blurL ls)[i]? = some l→∃ k,ls[i]? = some k∧l=k.blur
 | k::ls,0,l,h=>by simp only[L.blurL,List.getElem?_cons_zero,Alo]at h;exact ⟨k,rfl,h.symm⟩
 | k::ls,i+1,l,h=>by simp only[L.blurL,List.getElem?_cons_succ]at h;simpa using Pk h
 | [],i,l,h=>by simp[L.blurL]at h
theorem AX : ∀ (ls:List L),(L.blurL ls).length=ls.length
 | []=>rfl
 | l::ls=>by simp[L.blurL,AX ls]
theorem AY(l:L):l.blur.size P=l.size P:=by cases l <;> simp[L.blur,L.size]
theorem KI(l:L):l.blur.isAgg P=l.isAgg P:=by cases l <;> simp[L.blur,L.isAgg]
theorem LC.blur {l:L} {c:Nat→Option Value} (h:LC P md w M look β l c):LC P md w M look β l.blur c:=by
 induction h with
 | undef=>exact .undef
 | i h1 h2 hc=>exact .i h1 h2 hc
 | b hc=>exact .b hc
 | lit hc=>exact .b hc
 | ub x hx hc=>exact .ub x hx hc
 | s hl hc=>exact .s hl hc
 | d h=>exact .d h
 | mt hc=>exact .mt hc
 | row hu hc=>exact .row hu hc
 | rptr hu hc=>exact .rptr hu hc
 | ptr hu hc=>exact .ptr hu hc
 | at_ hc hMb hbb h=>exact .at_ hc hMb hbb h
 | agg ht hl h hz ih =>
  refine .agg ht (by rw[AX];exact hl) (fun i f l hf hli=> ?_) (fun i f l hf hli=> ?_)
  · obtain ⟨k,hk,rfl⟩:=Pk hli;exact ih i f k hf hk
  · obtain ⟨k,hk,rfl⟩:=Pk hli;rw[AY];exact hz i f k hf hk
 | fn hc hl h hs' ih =>
  refine .fn hc (by rw[AX];exact hl) (fun i l v hli hv=> ?_) (fun i l v hli hv=> ?_)
  · obtain ⟨k,hk,rfl⟩:=Pk hli;exact ih i k v hk hv
  · obtain ⟨k,hk,rfl⟩:=Pk hli
    have:=hs' i k v hk hv
    exact ⟨by rw[AY];exact this.size,by rw[KI];exact this.agg,this.ones⟩
theorem V1.blur {l:L} {v:Value} (h:V1 P md w M look β l v):V1 P md w M look β l.blur v:=by
 rcases h with rfl | ⟨rfl,h⟩ | ⟨h,h2⟩
 · exact .inl rfl
 · exact .inr (.inl ⟨rfl,h⟩)
 · exact .inr (.inr ⟨h.blur,by rw[AY];exact h2.size,by rw[KI];exact h2.agg,h2.ones⟩)
theorem VL.blur {l:L} {v:Value} (h:VL P md w M look β l v):VL P md w M look β l.blur v:=by
 cases l with
 | tup ls=>exact h
 | lit x=>exact V1.blur h
 | agg t ls=>exact V1.blur h
 | fn f ls=>exact V1.blur h
 | _=>exact h
def Pb(P:Program)(md:Nat→FMode)(look:Nat→Option Blk)(kept:List Nat)(b b':Blk):Prop :=
 (∃ e es lv,b = .row e es lv∧b'=b)∨∃ t l lv l',b = .var t l lv∧b' = .var t l' lv∧(l'=l∨l'=l.blur∨K6 P md look kept t l=some l')
theorem WZ{kept:List Nat}{t:Nat}{l l':L}(h:K6 P md look kept t l=some l') : ∃ x,conv P md look l t=some x∧l'=Bt P t x∧∀ r∈C4 look l,r∉kept:=by
 unfold K6 at h
 cases hc:(C4 look l).all (fun r=> !kept.contains r) with
 | false=>rw[hc]at h;cases h
 | true =>
  rw[hc]at h
  simp only[cond_true,Alv]at h
  obtain ⟨x,hx,rfl⟩:=h
  exact ⟨x,hx,rfl,fun r hr=>by have:=List.all_eq_true.1 hc r hr;simpa using this⟩
theorem R.keep (hP:WfP P) (h:R P md w0 N0 M0 slot look used ds n β a w) {kept:List Nat} (hkept : ∀ r b',look' r=some b'→r∈kept) (hlook : ∀ r b',look' r=some b'→∃ b,look r=some b∧Pb P md look kept b b')
   (hslot : ∀ t,slot' t = .undef∨slot' t=slot t∨slot' t=(slot t).blur∨∃ ty,K6 P md look kept ty (slot t)=some (slot' t))
   (hus : ∀ t,∀ r∈(slot' t).ids,used' r) (hub : ∀ q b,look' q=some b→used' q∧∀ r∈b.ids,used' r):R P md w0 N0 M0 slot' look' used' ds n β a w:=by
 have hlike : ∀ r b',look' r=some b'→∃ b,look r=some b∧likeB b b'∧b.live=b'.live:=by
   intro r b' hr
   obtain ⟨b,hb,hk⟩:=hlook r b' hr
   refine ⟨b,hb,?_⟩
   rcases hk with ⟨e,es,lv,rfl,rfl⟩ | ⟨t,l,lv,l',rfl,rfl,_⟩
   · exact ⟨⟨rfl,rfl⟩,rfl⟩
   · exact ⟨rfl,rfl⟩
 have hM : ∀ b,Ap M0 look' β b→Ap M0 look β b:=by
   rintro b (hb | ⟨r,k,hr,hk,hB⟩)
   · exact .inl hb
   · obtain ⟨k',hk',_,hlv⟩:=hlike r k hr
     exact .inr ⟨r,k',hk',hlv.trans hk,hB⟩
 have hKept : ∀ r,Js look look' β β r:=fun r b' hb'=>by
   obtain ⟨b,h1,h2,_⟩:=hlike r b' hb';exact ⟨b,h1,h2,rfl⟩
 have away : ∀ rs:List Nat,(∀ r∈rs,r∉kept)→Away (Ap M0 look' β) look β rs:=by
   rintro rs hrs r hr b B hb hB (hm | ⟨q,k,hq,hk,hqB⟩)
   · exact h.M0own hb hB hm
   · obtain ⟨k',hk',_⟩:=hlike q k hq
     have:=h.sep r q b k' B hb hk' hB hqB
     subst this
     exact hrs r hr (hkept r k hq)
 have hmono : ∀ {l:L} {c:Nat→Option Value},LC P md w (Ap M0 look β) look β l c→LC P md w (Ap M0 look' β) look' β l c:=fun hl=>hl.mono (Als _) (fun _ _ _=>rfl) (fun b hb _=>hM b hb) (fun r _=>hKept r)
 refine ⟨h.stp,h.m0,h.size,fun t=> ?_,fun r b' hr=> ?_,fun r b' B hr hB=> ?_,fun r q b c B h1 h2 h3 h4=> ?_,hus,hub,h.defs,h.pin⟩
 · have hv:=h.slots t
   have hv':VL P md w (Ap M0 look' β) look' β (slot t) (a.tmps.getD t undef):=hv.mono (Als _) (fun _ _ _=>rfl) (fun b hb _=>hM b hb) (fun r _=>hKept r)
   rcases hslot t with e | e | e | ⟨ty,e⟩
   · rw[e];exact .inl rfl
   · rw[e];exact hv'
   · rw[e];exact hv'.blur
   · obtain ⟨x,hx,e2,hr⟩:=WZ e
     rw[e2]
     obtain ⟨n1,n2,n3⟩:=Ta hx
     obtain ⟨hl,hs⟩:=C2 hv n1 n2 n3
     have hrd:=Tb (fun _ _ h=>h) hM h.blks h.blt hl hx (away _ hr)
     have hsz:=BK hP hx hl hs (Ra hrd)
     exact (K0 hP ⟨hrd,hsz.1,hsz.2⟩).1
 · obtain ⟨b,hb,hk⟩:=hlook r b' hr
   have hbr:=h.blks r b hb
   rcases hk with ⟨e,es,lv,rfl,rfl⟩ | ⟨t,l,lv,l',rfl,rfl,hl'⟩
   · exact RowV.mono hbr (Als _) (fun _ _ _=>rfl) (fun b hb _=>hM b hb) (fun _ _=>rfl)
   · obtain ⟨B,cs,T,b1,b2,b3,b4,b5,b6⟩:=hbr
     refine ⟨B,cs,T,b1,b2,b3,b4,?_,b6⟩
     rcases hl' with rfl | rfl | hl'
     · exact hmono b5
     · exact (hmono b5).blur
     · obtain ⟨x,hx,rfl,hfr⟩:=WZ hl'
       exact Wm (t:= .ty t) (Tb (fun _ _ h=>h) hM h.blks h.blt b5 hx (away _ hfr))
 · obtain ⟨b,hb,_⟩:=hlike r b' hr
   exact h.own r b B hb hB
 · obtain ⟨b1,g1,_⟩:=hlike r b h1
   obtain ⟨b2,g2,_⟩:=hlike q c h2
   exact h.sep r q b1 b2 B g1 g2 h3 h4
theorem R.rename (h:R P md w0 N0 M0 slot look used ds n β a w) {r new e:Nat} {es:List D} {lv:Bool} (hr:look r=some (.row e es lv)) (hn : ¬ used new) :
   R P md w0 N0 M0 slot (Au (Au look r none) new (some (.row e es lv))) (fun q=>used q∨q=new) ds n (Au β new (β r)) a w:=by
 have hrn:r≠new:=fun e=>hn (e▸(h.usedB r _ hr).1)
 have hcase : ∀ q k,Au (Au look r none) new (some (.row e es lv)) q=some k→(q=new∧k = .row e es lv∧Au β new (β r) q=β r)∨(q≠new∧q≠r∧look q=some k∧Au β new (β r) q=β q):=by
   intro q k hq
   by_cases e1:q=new
   · subst e1
     rw[Bz]at hq
     injection hq with hq
     exact .inl ⟨rfl,hq.symm,Bz _ _ _⟩
   · rw[Bo _ _ e1]at hq
     by_cases e2:q=r
     · subst e2;rw[Bz]at hq;cases hq
     · rw[Bo _ _ e2]at hq
       exact .inr ⟨e1,e2,hq,Bo _ _ e1⟩
 have hM : ∀ b,Ap M0 (Au (Au look r none) new (some (.row e es lv))) (Au β new (β r)) b→b<w.heap.size→Ap M0 look β b:=by
   rintro b (hb | ⟨q,k,hq,hk,hB⟩) _
   · exact .inl hb
   · rcases hcase q k hq with ⟨rfl,rfl,h3⟩ | ⟨_,_,h3,h4⟩
     · rw[h3]at hB;exact .inr ⟨r,_,hr,hk,hB⟩
     · rw[h4]at hB;exact .inr ⟨q,k,h3,hk,hB⟩
 refine h.step (fun _=>False) (Stp.refl _ _) (fun _ hf=>hf.elim) (fun q hq k hk=> ?_) (fun q k hq=> ?_) hM (fun q1 q2 k1 k2 B h1 h2 h3 h4=> ?_) (fun _ hu=> .inl hu)
 · rcases hcase q k hk with ⟨rfl,_⟩ | ⟨_,_,h3,h4⟩
   · exact absurd hq hn
   · exact ⟨k,h3,likeB.refl _,h4⟩
 · rcases hcase q k hq with ⟨rfl,rfl,h3⟩ | ⟨_,_,h3,h4⟩
   · refine .inr ⟨?_,(fun x hx=>by simp[Blk.ids]at hx),.inr rfl,fun B hB=> ?_⟩
     · show RowV P md w _ e es _
       rw[h3]
       exact RowV.mono (h.blks r _ hr) (Als _) (fun _ _ _=>rfl) hM (fun _ _=>rfl)
     · rw[h3]at hB;exact h.own r _ B hr hB
   · exact .inl ⟨h3,h4,fun _ _ hf=>hf⟩
 · rcases hcase q1 k1 h1 with ⟨rfl,_,g1⟩ | ⟨n1,r1,l1,g1⟩ <;> rcases hcase q2 k2 h2 with ⟨rfl,_,g2⟩ | ⟨n2,r2,l2,g2⟩
   · rfl
   · rw[g1]at h3;rw[g2]at h4;exact absurd (h.sep q2 r k2 _ B l2 hr h4 h3) r2
   · rw[g1]at h3;rw[g2]at h4;exact absurd (h.sep q1 r k1 _ B l1 hr h3 h4) r1
   · rw[g1]at h3;rw[g2]at h4;exact h.sep q1 q2 k1 k2 B l1 l2 h3 h4
theorem R.reslot (h:R P md w0 N0 M0 slot look used ds n β a w) (t:Nat) (l:L) (hv:VL P md w (Ap M0 look β) look β l (a.tmps.getD t undef)) (hids : ∀ r∈l.ids,used r):R P md w0 N0 M0 (Au slot t l) look used ds n β a w:=by
 refine ⟨h.stp,h.m0,h.size,fun q=> ?_,h.blks,h.own,h.sep,fun q r hr=> ?_,h.usedB,h.defs,h.pin⟩
 · by_cases e:q=t
   · subst e;rw[Bz];exact hv
   · rw[Bo _ _ e];exact h.slots q
 · by_cases e:q=t
   · subst e;rw[Bz]at hr;exact hids r hr
   · rw[Bo _ _ e]at hr;exact h.usedS q r hr
theorem R.reblk (h:R P md w0 N0 M0 slot look used ds n β a w) {r t:Nat} {l l':L} {lv:Bool} (hr:look r=some (.var t l lv)) (hl : ∀ B cs T,β r = .pointer (some ⟨B,0,none⟩)→w.heap[B]? = some (.cells cs T (0,0))→LC P md w (Ap M0 look β) look β l (fun j=>cs[j]?)→LC P md w (Ap M0 look β) look β l' (fun j=>cs[j]?)) (hids : ∀ q∈l'.ids,used q) :
   R P md w0 N0 M0 slot (Au look r (some (.var t l' lv))) used ds n β a w:=by
 have hcase : ∀ q k,Au look r (some (.var t l' lv)) q=some k→(q=r∧k = .var t l' lv)∨(q≠r∧look q=some k):=by
   intro q k hq
   by_cases e:q=r
   · subst e;rw[Bz]at hq;injection hq with hq;exact .inl ⟨rfl,hq.symm⟩
   · rw[Bo _ _ e]at hq;exact .inr ⟨e,hq⟩
 have hM : ∀ b,Ap M0 (Au look r (some (.var t l' lv))) β b→b<w.heap.size→Ap M0 look β b:=by
   rintro b (hb | ⟨q,k,hq,hk,hB⟩) _
   · exact .inl hb
   · rcases hcase q k hq with ⟨rfl,rfl⟩ | ⟨_,h3⟩
     · exact .inr ⟨q,_,hr,hk,hB⟩
     · exact .inr ⟨q,k,h3,hk,hB⟩
 have hkept : ∀ q,Js look (Au look r (some (.var t l' lv))) β β q:=fun q k hk=>by
   rcases hcase q k hk with ⟨rfl,rfl⟩ | ⟨_,h3⟩
   · exact ⟨_,hr,rfl,rfl⟩
   · exact ⟨k,h3,likeB.refl _,rfl⟩
 refine h.step (fun _=>False) (Stp.refl _ _) (fun _ hf=>hf.elim) (fun q _=>hkept q) (fun q k hq=> ?_) hM (fun q1 q2 k1 k2 B h1 h2 h3 h4=> ?_) (fun _ hu=>hu)
 · rcases hcase q k hq with ⟨rfl,rfl⟩ | ⟨_,h3⟩
   · obtain ⟨B,cs,T,b1,b2,b3,b4,b5,b6⟩:=h.blks q _ hr
     exact .inr ⟨⟨B,cs,T,b1,b2,b3,b4,(hl B cs T b1 b2 b5).mono (Als _) (fun _ _ _=>rfl) hM (fun x _=>hkept x),b6⟩,hids,(h.usedB q _ hr).1,fun B hB=>h.own q _ B hr hB⟩
   · exact .inl ⟨h3,rfl,fun _ _ hf=>hf⟩
 · have g : ∀ q k,Au look r (some (.var t l' lv)) q=some k→∃ k',look q=some k':=fun q k hq=>by
     rcases hcase q k hq with ⟨rfl,rfl⟩ | ⟨_,h3⟩
     · exact ⟨_,hr⟩
     · exact ⟨k,h3⟩
   obtain ⟨k1',g1⟩:=g q1 k1 h1
   obtain ⟨k2',g2⟩:=g q2 k2 h2
   exact h.sep q1 q2 k1' k2' B g1 g2 h3 h4
theorem OC{kept:List Nat}{ks:List (Nat×Option Nat)} : ∀ {ls ls':List L} {i:Nat},Qe P md look kept ks i ls=some ls'→ls'.length=ls.length∧∀ t,ls'.getD t .undef = .undef∨ls'.getD t .undef=(ls.getD t .undef).blur∨∃ ty,K6 P md look kept ty (ls.getD t .undef)=some (ls'.getD t .undef)
 | [],ls',i,h=>by simp only[Qe,Alo]at h;subst h;exact ⟨rfl,fun t=> .inl rfl⟩
 | l::ls,ls',i,h=>by
  simp only[Qe]at h
  split at h
  · rename_i x xs hx hxs
    injection h with h
    subst h
    obtain ⟨h1,h2⟩:=OC hxs
    refine ⟨by simp[h1],fun t=> ?_⟩
    cases t with
    | zero =>
     simp only[List.getD_cons_zero]
     split at hx
     · injection hx with hx;exact .inl hx.symm
     · injection hx with hx;exact .inr (.inl hx.symm)
     · exact .inr (.inr ⟨_,hx⟩)
    | succ t=>simpa only[List.getD_cons_succ]using h2 t
  · cases h
theorem DI{h:List (Nat×Blk)}{kept:List Nat} : ∀ {bs:List (Nat×Bool)} {h':List (Nat×Blk)},Nt P md h kept bs=some h'→∀ r b',B9 h' r=some b'→r∈bs.map (·.1)∧∃ b,B9 h r=some b∧Pb P md (B9 h) kept b b'
 | [],h',hk,r,b',hr=>by simp only[Nt,Alo]at hk;subst hk;simp[B9]at hr
 | (q,st)::bs,h',hk,r,b',hr=>by
  simp only[Nt]at hk
  split at hk
  · rename_i k rest hq hrest
    have ih:=DI hrest
    have fin : ∀ k':Blk,Pb P md (B9 h) kept k k'→h'=(q,k')::rest→r∈((q,st)::bs).map (·.1)∧∃ b,B9 h r=some b∧Pb P md (B9 h) kept b b':=by
      intro k' hkk he
      subst he
      simp only[B9]at hr
      by_cases e:q=r
      · subst e
        simp only[beq_self_eq_true,cond_true,Alo]at hr
        subst hr
        exact ⟨by simp,k,hq,hkk⟩
      · have:(q == r)=false:=by simp[e]
        simp only[this,cond_false]at hr
        obtain ⟨g1,g2⟩:=ih r b' hr
        exact ⟨by simp only[Aml,Alx];exact .inr g1,g2⟩
    split at hk
    · rename_i t l lv
      cases st with
      | true =>
        simp only[cond_true,Alv]at hk
        obtain ⟨l',hl',he⟩:=hk
        exact fin _ (.inr ⟨t,l,lv,l',rfl,rfl,.inr (.inr hl')⟩) he.symm
      | false =>
        simp only[cond_false,Alo]at hk
        exact fin _ (.inr ⟨t,l,lv,_,rfl,rfl,.inr (.inl rfl)⟩) hk.symm
    · rename_i hnv
      injection hk with hk
      refine fin k ?_ hk.symm
      cases k with
      | var t l lv=>exact absurd rfl (hnv t l lv)
      | row e es lv=>exact .inl ⟨e,es,lv,rfl,rfl⟩
  · cases hk
theorem DB : ∀ {h:List (Nat×Blk)} {r:Nat} {b:Blk},B9 h r=some b→(r,b)∈h
 | (i,k)::h,r,b,hr=>by
  simp only[B9]at hr
  by_cases e:i=r
  · subst e;simp only[beq_self_eq_true,cond_true,Alo]at hr;subst hr;simp
  · have:(i == r)=false:=by simp[e]
    simp only[this,cond_false]at hr
    exact List.mem_cons_of_mem _ (DB hr)
 | [],r,b,hr=>by simp[B9]at hr
theorem Abg{s:St}{ids:List Nat}(h:s.closed ids=true):(∀ t,∀ r∈(s.slot t).ids,r∈ids)∧∀ q b,s.look q=some b→∀ r∈b.ids,r∈ids:=by
 simp only[St.closed,Alp,List.all_eq_true,List.contains_iff_mem]at h
 obtain ⟨⟨h1,h2⟩,_⟩:=h
 refine ⟨fun t r hr=> ?_,fun q b hq r hr=>h2 _ (DB hq) r hr⟩
 cases ht:s.tmps[t]? with
 | none=>rw[St.slot,Alk,ht]at hr;simp[L.ids]at hr
 | some l =>
  rw[St.slot,Alk,ht]at hr
  exact h1 r (Ks ht r (by simpa using hr))
theorem RS.forget (hP:WfP P) {s s':St} {kept:List Nat} (h:RS P md w0 N0 M0 pv s β a w) (hl:s'.tmps.length=s.tmps.length) (hd:s'.dp=s.dp) (hslot : ∀ t,s'.slot t = .undef∨s'.slot t=s.slot t∨s'.slot t=(s.slot t).blur∨∃ ty,K6 P md s.look kept ty (s.slot t)=some (s'.slot t))
  (hb : ∀ r b',s'.look r=some b'→r∈kept∧∃ b,s.look r=some b∧Pb P md s.look kept b b') (hu:s'.used=s'.heap.map (·.1)) (hc:s'.closed s'.used=true):RS P md w0 N0 M0 pv s' β a w:=by
 obtain ⟨c1,c2⟩:=Abg hc
 show R P md w0 N0 M0 s'.slot s'.look (fun r=>r∈s'.used) ⟨s'.dp,pv⟩ s'.tmps.length β a w
 rw[hl,hd]
 exact h.keep hP (fun r b' hr=>(hb r b' hr).1) (fun r b' hr=>(hb r b' hr).2) hslot c1 (fun q b hq=>⟨by rw[hu];exact List.mem_map.2 ⟨_,DB hq,rfl⟩,c2 q b hq⟩)
theorem RS.setLoc {s s':St} {loc:Loc} {l l0:L} {lookX:Nat→Option Blk} {usedX:Nat→Prop} {heapX:List (Nat×Blk)} {usedL:List Nat} (h:R P md w0 N0 M0 s.slot lookX usedX ⟨s.dp,pv⟩ s.tmps.length β a w) (hh:B9 heapX=lookX) (hu : ∀ r,usedX r→r∈usedL) (h0:s.loc P loc=some l0) (h0u:l0≠ .undef)
  (hkeep : ∀ b t k lv,lookX b=some (.var t k lv)→s.look b=some (.var t k lv))
  (hV : ∀ t,loc = .slot t→s.slot t=l0→VL P md w (Ap M0 lookX β) lookX β l (a.tmps.getD t undef)) (hC : ∀ b p t k lv B cs T t',loc = .fld b p→lookX b=some (.var t k lv)→β b = .pointer (some ⟨B,0,none⟩)→w.heap[B]? = some (.cells cs T (0,0))→sub P t p k=some (t',l0)→LC P md w (Ap M0 lookX β) lookX β l (fun j=>cs[Bf P t p+j]?)) (hids : ∀ r∈l.ids,usedX r)
  (hs:St.setLoc P { s with heap:=heapX,used:=usedL } l loc=some s'):RS P md w0 N0 M0 pv s' β a w:=by
 cases loc with
 | slot t =>
  simp only[St.setLoc,Alo]at hs
  subst hs
  simp only[St.loc,Alo]at h0
  have ht:t<s.tmps.length:=by
    rcases Nat.lt_or_ge t s.tmps.length with h1 | h1
    · exact h1
    · rw[St.slot,Alk,List.getElem?_eq_none h1]at h0
      exact absurd h0.symm h0u
  have h1:=h.reslot t l (hV t rfl h0) hids
  show R P md w0 N0 M0 (St.slot _) (St.look _) (fun r=>r∈usedL) ⟨s.dp,pv⟩ (s.tmps.set t l).length β a w
  have e1:St.slot { tmps:=s.tmps.set t l,heap:=heapX,used:=usedL,defs:=s.defs,pins:=s.pins } = Au s.slot t l:=by
    have:=(FP s (some t) l).1
    funext q
    have h2:=congrFun this q
    simp only[St.put]at h2
    show (s.tmps.set t l).getD q .undef=_
    have h3:(s.tmps.set t l).getD q .undef=D3 s.tmps.length (some t) l s.slot q:=h2
    rw[h3]
    simp only[D3,Au,Alo]
    by_cases e:q=t
    · subst e;simp[ht]
    · have : ¬ t=q:=fun h=>e h.symm
      simp[e,this]
  rw[e1,List.length_set]
  have e2:St.look { tmps:=s.tmps.set t l,heap:=heapX,used:=usedL,defs:=s.defs,pins:=s.pins } = lookX:=hh
  rw[e2]
  exact h1.weak hu
 | fld b p =>
  simp only[St.setLoc]at hs
  split at hs
  · rename_i t k lv hb
    have hb':lookX b=some (.var t k lv):=by rw[← hh];exact hb
    cases hty:((B5 P t p).map fun t'=>Cz P t' l).getD false with
    | false=>rw[hty]at hs;cases hs
    | true =>
      rw[hty]at hs
      simp only[cond_true,Alv]at hs
      obtain ⟨k',hk',rfl⟩:=hs
      have hsb:s.look b=some (.var t k lv):=hkeep b t k lv hb'
      simp only[St.loc,hsb,Alv]at h0
      obtain ⟨⟨t',l1⟩,hsub,rfl⟩:=h0
      obtain ⟨B,cs,T,b1,b2,b3,b4,b5,b6⟩:=h.blks b _ hb'
      have hk : ∀ B cs T,β b = .pointer (some ⟨B,0,none⟩)→w.heap[B]? = some (.cells cs T (0,0))→LC P md w (Ap M0 lookX β) lookX β k (fun j=>cs[j]?)→LC P md w (Ap M0 lookX β) lookX β k' (fun j=>cs[j]?)∧(∀ r∈k'.ids,r∈k.ids∨r∈l.ids):=by
       intro B cs T q1 q2 hc
       obtain ⟨s1,s2,_⟩:=R1 hc hsub
       rw[s1]at hty
       exact Yq hc hk' s1 b4 (by simpa using hty) (hC b p t k lv B cs T t' rfl hb' q1 q2 hsub) (fun _ _ _=>rfl)
      have h1:=h.reblk hb' (fun B cs T q1 q2 hc=>(hk B cs T q1 q2 hc).1) (fun q hq=>by
       rcases (hk B cs T b1 b2 b5).2 q hq with h2 | h2
       · exact (h.usedB b _ hb').2 q h2
       · exact hids q h2)
      show R P md w0 N0 M0 s.slot (St.look _) (fun r=>r∈usedL) ⟨s.dp,pv⟩ s.tmps.length β a w
      have e2:St.look { tmps:=s.tmps,heap:=Cf heapX b (.var t k' lv),used:=usedL,defs:=s.defs,pins:=s.pins } = Au lookX b (some (.var t k' lv)):=by
       funext q
       show B9 (Cf heapX b (.var t k' lv)) q=_
       rw[DA ⟨_,hb⟩,← hh];rfl
      rw[e2]
      exact h1.weak hu
  · cases hs
theorem AgK{s s':St}{loc:Loc}{new e:Nat}(h:RS P md w0 N0 M0 pv s β a w)(hr:FY P s loc new e=some s') : ∃ β',RS P md w0 N0 M0 pv s' β' a w:=by
 unfold FY at hr
 split at hr
 · rename_i hloc
   cases hc:s.used.contains new with
   | true=>rw[hc]at hr;cases hr
   | false =>
    rw[hc]at hr
    simp only[cond_false]at hr
    have hn : ¬ new∈s.used:=by simpa using hc
    obtain ⟨A,hA1,hA2⟩ : ∃ A,(∀ t,loc = .slot t→s.slot t = .mt→a.tmps.getD t undef = .slice A 0 0)∧(∀ b p t k lv B cs T t',loc = .fld b p→s.look b=some (.var t k lv)→β b = .pointer (some ⟨B,0,none⟩)→w.heap[B]? = some (.cells cs T (0,0))→sub P t p k=some (t',.mt)→cs[Bf P t p+0]? = some (.slice A 0 0)):=by
      cases loc with
      | slot t =>
        simp only[St.loc,Alo]at hloc
        have hv:=h.slots t
        rw[hloc]at hv
        obtain ⟨A,hA⟩:=Sb hv
        exact ⟨A,fun t' ht' _=>by injection ht' with ht';subst ht';exact hA,fun b p t k lv B cs T t' he=>by cases he⟩
      | fld b p =>
        simp only[St.loc]at hloc
        split at hloc
        · rename_i t k lv hb
          simp only[Alv]at hloc
          obtain ⟨⟨t',l1⟩,hsub,hl1⟩:=hloc
          simp only at hl1
          subst hl1
          obtain ⟨B,cs,T,b1,b2,b3,b4,b5,b6⟩:=h.blks b _ hb
          obtain ⟨_,s2,_⟩:=R1 b5 hsub
          cases s2 with
          | @mt c A hcc =>
            refine ⟨A,(fun t ht=>by cases ht),fun b' p' t2 k2 lv2 B2 cs2 T2 t3 he hb2 hB2 hc2 hs2=> ?_⟩
            injection he with e1 e2
            subst e1;subst e2
            rw[hb]at hb2
            injection hb2 with hb2
            injection hb2 with q1 q2 q3
            subst q1
            rw[b1]at hB2
            injection hB2 with hB2
            injection hB2 with hB2
            injection hB2 with hB2 _ _
            subst hB2
            rw[b2]at hc2
            injection hc2 with hc2
            injection hc2 with hc2 _ _
            subst hc2
            exact hcc
        · cases hloc
    have hnb : ∀ B,A_ (.slice A 0 0)=some B→False:=by intro B hB;cases A <;> simp[A_]at hB
    have h1:=h.new (Ext.refl w) hn (.row e [] true) (.slice A 0 0) (by intro q hq;simp[Blk.ids]at hq) (fun B hB=>(hnb B hB).elim) (by
      show RowV P md w _ e [] _
      rw[Bz]
      exact ⟨A,0,rfl,.inl ⟨rfl,rfl⟩⟩)
    have hcaseV : ∀ b t k lv,Au s.look new (some (.row e [] true)) b=some (.var t k lv)→b≠new∧s.look b=some (.var t k lv):=by
      intro b t k lv hb
      by_cases eb:b=new
      · subst eb;rw[Bz]at hb;cases hb
      · rw[Bo _ _ eb]at hb;exact ⟨eb,hb⟩
    refine ⟨Au β new (.slice A 0 0),RS.setLoc (l0:= .mt) (lookX:=Au s.look new (some (.row e [] true))) h1 ?_ (fun r hr=> ?_) hloc (by simp) (fun b t k lv hb=>(hcaseV b t k lv hb).2) (fun t ht hs=> ?_) (fun b p t k lv B cs T t' he hb hB hc' hs=> ?_) (fun r hr=> ?_) hr⟩
    · funext q
      show B9 ((new,_)::s.heap) q=_
      simp only[B9,Au]
      by_cases eq:q=new
      · subst eq;simp
      · have:(new == q)=false:=by simp;exact fun h=>eq h.symm
        simp[this,eq];rfl
    · rcases hr with hr | hr
      · simp[hr]
      · simp[hr]
    · rw[hA1 t ht hs]
      exact Di (by simp) (.row ⟨_,rfl,rfl⟩ (fun _ _ _ _=>by rw[Bz];rfl)) ⟨rfl,rfl,Eg rfl⟩
    · obtain ⟨n1,hb'⟩:=hcaseV b t k lv hb
      rw[Bo _ _ n1]at hB
      have:=hA2 b p t k lv B cs T t' he hb' hB hc' hs
      exact .row ⟨_,this,rfl⟩ (fun _ _ _ _=>by rw[Bz];exact this)
    · simp only[L.ids,List.mem_singleton]at hr
      exact .inr hr
 · rename_i r hloc
   cases hrn:(r == new) with
   | true=>rw[hrn]at hr;simp only[cond_true,Alo]at hr;subst hr;exact ⟨β,h⟩
   | false =>
    rw[hrn]at hr
    simp only[cond_false]at hr
    cases hc:s.used.contains new with
    | true=>rw[hc]at hr;cases hr
    | false =>
      rw[hc]at hr
      simp only[cond_false]at hr
      have hn : ¬ new∈s.used:=by simpa using hc
      split at hr
      · rename_i e' es lv hrow
        cases hee:(e' == e) with
        | false=>rw[hee]at hr;cases hr
        | true =>
          rw[hee]at hr
          simp only[cond_true]at hr
          have:e'=e:=by simpa using hee
          subst this
          have h1:=h.rename hrow hn
          have hcaseV : ∀ b t k lv',Au (Au s.look r none) new (some (.row e' es lv)) b=some (.var t k lv')→b≠new∧s.look b=some (.var t k lv'):=by
            intro b t k lv' hb
            by_cases eb:b=new
            · subst eb;rw[Bz]at hb;cases hb
            · rw[Bo _ _ eb]at hb
              by_cases er:b=r
              · subst er;rw[Bz]at hb;cases hb
              · rw[Bo _ _ er]at hb;exact ⟨eb,hb⟩
          refine ⟨Au β new (β r),RS.setLoc (l0:= .row r) (lookX:=Au (Au s.look r none) new (some (.row e' es lv))) h1 ?_ (fun q hq=> ?_) hloc (by simp) (fun b t k lv' hb=>(hcaseV b t k lv' hb).2) (fun t ht hs=> ?_) (fun b p t k lv' B cs T t' he hb hB hc' hs=> ?_) (fun q hq=> ?_) hr⟩
          · funext q
            show B9 ((new,_)::H8 s.heap r) q=_
            simp only[B9,Au]
            by_cases eq:q=new
            · subst eq;simp
            · have:(new == q)=false:=by simp;exact fun h=>eq h.symm
              simp only[this,cond_false,eq,if_false]
              rw[U1];rfl
          · rcases hq with hq | hq
            · simp[hq]
            · simp[hq]
          · have hv:=h.slots t
            rw[hs]at hv
            have hvr:=Im hv hrow
            obtain ⟨hl,hsz⟩:=C2 hv (by simp) (by simp) (by simp)
            rw[hvr]at hl hsz ⊢
            refine Di (by simp) ?_ ⟨hsz.size,hsz.agg,hsz.ones⟩
            cases hl with
            | row hu hcc=>exact .row hu (fun _ _ _ _=>by rw[Bz];exact hcc _ _ _ hrow)
          · obtain ⟨n1,hb'⟩:=hcaseV b t k lv' hb
            rw[Bo _ _ n1]at hB
            obtain ⟨B2,cs2,T2,b1,b2,b3,b4,b5,b6⟩:=h.blks b _ hb'
            rw[b1]at hB
            injection hB with hB
            injection hB with hB
            injection hB with hB _ _
            subst hB
            rw[b2]at hc'
            injection hc' with hc'
            injection hc' with hc' _ _
            subst hc'
            obtain ⟨_,s2,_⟩:=R1 b5 hs
            cases s2 with
            | row hu hcc=>exact .row hu (fun _ _ _ _=>by rw[Bz];exact hcc _ _ _ hrow)
          · simp only[L.ids,List.mem_singleton]at hq
            exact .inr hq
      · cases hr
 · cases hr
theorem TO : ∀ {rs:List (Loc×Nat×Nat)} {s s':St} {β:Nat→Value},RS P md w0 N0 M0 pv s β a w→Rb P s rs=some s'→∃ β',RS P md w0 N0 M0 pv s' β' a w
 | [],s,s',β,h,hr=>by simp only[Rb,Alo]at hr;subst hr;exact ⟨β,h⟩
 | (l,nw,e)::rs,s,s',β,h,hr=>by
  simp only[Rb]at hr
  split at hr
  · rename_i s1 h1
    obtain ⟨β1,g1⟩:=AgK h h1
    exact TO g1 hr
  · cases hr
theorem BB(hP:WfP P){o:Orc}{s s':St}(h:RS P md w0 N0 M0 pv s β a w)(hc:Pn P md o s=some s') : ∃ β',RS P md w0 N0 M0 pv s' β' a w:=by
 unfold Pn at hc
 simp only at hc
 split at hc
 · rename_i tm hp htm hhp
   obtain ⟨k1,k2⟩:=OC htm
   have k3:=DI hhp
   cases hcl:St.closed ⟨tm,hp,hp.map (·.1),s.defs,s.pins⟩ (hp.map (·.1)) with
   | false=>rw[hcl]at hc;cases hc
   | true =>
    rw[hcl]at hc
    simp only[cond_true]at hc
    have h1:RS P md w0 N0 M0 pv ⟨tm,hp,hp.map (·.1),s.defs,s.pins⟩ β a w:=RS.forget hP h k1 rfl (fun t=>(k2 t).imp_right .inr) (fun r b' hr=>k3 r b' hr) rfl hcl
    split at hc
    · rename_i s2 hs2
      obtain ⟨β2,h2⟩:=TO h1 hs2
      split at hc
      · rename_i h2' hh2
        cases hcl2:St.closed ⟨s2.tmps,h2',h2'.map (·.1),s2.defs,s2.pins⟩ (h2'.map (·.1)) with
        | false=>rw[hcl2]at hc;cases hc
        | true =>
         rw[hcl2]at hc
         simp only[cond_true,Alo]at hc
         subst hc
         have k4:=DI hh2
         refine ⟨β2,RS.forget (kept:=(o.blks.map (fun b=>(b.1,false))++o.rows.map (fun r=>(r.2.1,false))).map (·.1)) hP h2 rfl rfl (fun t=> .inr (.inl rfl)) (fun r b' hr=>k4 r b' hr) rfl hcl2⟩
      · cases hc
    · cases hc
 · cases hc
end
end Go.Proofs.YtokkbgpgaheakaaGreat
namespace Go.Proofs.YtokkbgpgaheakaaGreat
open Go.RowKit
def Ex.exit_:Ex→Exit | .normal=> .normal | .exit id=> .exit id | .ret=> .ret
section
variable {P:Program} {md:Nat→FMode} {w0 w w':World} {N0 M0 M:Nat→Prop} {pv:Nat→Value} {β:Nat→Value} {a:Act} {n:Nat}
theorem OK{p:Nat→Prop}(h : ∃ m,p m) : ∃ m,p m∧∀ k,p k→m≤k:=by
 obtain ⟨m,hm⟩:=h
 induction m using Nat.strongRecOn with
 | _ m ih =>
  by_cases hk : ∃ k,k<m∧p k
  · obtain ⟨k,hk,hp⟩:=hk;exact ih k hk hp
  · exact ⟨m,hm,fun k hp=>by
   rcases Nat.lt_or_ge k m with h | h
   · exact absurd ⟨k,h,hp⟩ hk
   · exact h⟩
theorem AkV{c:Code}{Q:Exit→Act→World→Prop}{J:Nat→Act→World→Prop}{m:Nat}(h0:J m a w)(zero : ∀ a w,¬ J 0 a w)(round : ∀ m a w,J (m+1) a w→c.wp P (Exit.then (J m) Q) a w):(Code.loop c).wp P Q a w:=by
 classical
 obtain ⟨μ,hμ⟩ : ∃ μ:Act→World→Nat,∀ a w,(∃ m,J m a w)→J (μ a w) a w∧∀ k,J k a w→μ a w≤k :=
  ⟨fun a w=>if h : ∃ m,J m a w then Classical.choose (OK h) else 0,fun a w h=>by simp only[dif_pos h];exact Classical.choose_spec (OK h)⟩
 refine wp_loop (fun a w=>∃ m,J m a w) μ ⟨m,h0⟩ (fun a w hI=> ?_)
 obtain ⟨hf,_⟩:=hμ a w hI
 cases hm:μ a w with
 | zero=>rw[hm]at hf;exact absurd hf (zero a w)
 | succ k =>
  rw[hm]at hf
  refine wp_mono (round k a w hf) (fun e a' w' hq=> ?_)
  cases e with
  | normal =>
   have hJ:J k a' w':=hq
   refine ⟨⟨k,hJ⟩,?_⟩
   have:=(hμ a' w' ⟨k,hJ⟩).2 k hJ
   omega
  | _=>exact hq
theorem WU{c:Operand}{b x:Bool}{s:St}(h:RS P md w0 N0 M0 pv s β a w)(hc:Am s.slot c = .b b)(hb:b=x):RS P md w0 N0 M0 pv (Yp c x s) β a w:=by
 subst hb
 cases c with
 | tmp t =>
  have hc:s.tmps.getD t .undef = .b b:=hc
  have hlt:t<s.tmps.length:=by
    rcases Nat.lt_or_ge t s.tmps.length with h1 | h1
    · exact h1
    · rw[Alk,List.getElem?_eq_none h1]at hc;cases hc
  have hsl : ∀ j,(Yp (.tmp t) b s).slot j=if j=t then .lit b else s.slot j:=by
    intro j
    show (s.tmps.set t (.lit b)).getD j .undef=_
    rw[Alk,List.getElem?_set]
    by_cases hj:t=j
    · subst hj;simp[hlt]
    · rw[if_neg hj,if_neg (fun e=>hj e.symm)];rw[← Alk];rfl
  refine ⟨h.stp,h.m0,?_,fun j=> ?_,h.blks,h.own,h.sep,fun j r hr=> ?_,h.usedB,h.defs,h.pin⟩
  · show _=(s.tmps.set t (.lit b)).length
    rw[List.length_set];exact h.size
  · rw[hsl j]
    have hv:=h.slots j
    split
    · rename_i hj
      subst hj
      have hv':VL P md w (Ap M0 s.look β) s.look β (.b b) (a.tmps.getD j undef):=by rw[← hc];exact hv
      rw[Kd hv'];exact Vq
    · exact hv
  · rw[hsl j]at hr
    split at hr
    · cases hr
    · exact h.usedS j r hr
 | _=>exact h
theorem AbV(hP:WfP P)(hmix:P.follows .mixedOrders=true){orc:List (Nat×Orc)}{Φ:List D→Prop} : ∀ (c:Code) {Q:Exit→Act→World→Prop} {K:Ex→St→Tree} {s:St} {β:Nat→Value} {a:Act} {w:World},RS P md w0 N0 M0 pv s β a w→(ev P md n orc c s K).wp P md Φ →
  (∀ x s' β' a' w',(K x s').wp P md Φ→RS P md w0 N0 M0 pv s' β' a' w'→Q x.exit_ a' w')→c.wp P Q a w:=by
 intro c
 induction c with
 | skip=>intro Q K s β a w h ht hQ;exact wp_skip (hQ .normal s β a w ht h)
 | region id ops draw =>
  intro Q K s β a w h ht hQ
  simp only[ev]at ht
  split at ht
  · rename_i o0 o1 g hd;exact AhZ hP hd h ht (fun s' β' a' w' hk h'=>hQ .normal s' β' a' w' hk h')
  · exact Aic hP hmix h ht (fun s' β' a' w' hk h'=>hQ .normal s' β' a' w' hk h')
 | seq x y ihx ihy =>
  intro Q K s β a w h ht hQ
  refine wp_seq (ihx h ht (fun e s' β' a' w' hk h'=> ?_))
  cases e with
  | normal =>
    have hk':(Vb P md (Va orc y) (ev P md n orc y) s' K).wp P md Φ:=hk
    cases hj:Va orc y with
    | none=>rw[hj]at hk';exact ihy h' hk' hQ
    | some o =>
      rw[hj]at hk'
      simp only[Vb]at hk'
      split at hk'
      · exact hk'.elim
      · rename_i s1 hs1
        obtain ⟨β1,h1⟩:=BB hP h' hs1
        exact ihy h1 hk' hQ
  | exit id=>exact hQ (.exit id) s' β' a' w' hk h'
  | ret=>exact hQ .ret s' β' a' w' hk h'
 | cond c x y ihx ihy =>
  intro Q K s β a w h ht hQ
  simp only[ev]at ht
  have hv:=By h c
  split at ht
  · rename_i hc;rw[hc]at hv;exact wp_cond_true (Sa hv) (ihx h ht hQ)
  · rename_i hc;rw[hc]at hv;exact wp_cond_false (Sa hv) (ihy h ht hQ)
  · rename_i b hc
    rw[hc]at hv
    cases hk:OE orc with
    | true =>
      rw[hk]at ht
      exact wp_cond_split (Kd hv) (fun hb=>ihx (WU h hc hb) (ht.1 hb) hQ) (fun hb=>ihy (WU h hc hb) (ht.2 hb) hQ)
    | false =>
      rw[hk]at ht
      exact wp_cond_split (Kd hv) (fun hb=>ihx h (ht.1 hb) hQ) (fun hb=>ihy h (ht.2 hb) hQ)
  · rename_i b hc
    rw[hc]at hv
    obtain ⟨x,hv,hx⟩:=AkB hv
    exact wp_cond_split hv (fun hb=>ihx h (ht.1 (hx hb)) hQ) (fun hb=>ihy h ht.2 hQ)
  · exact ht.elim
 | block id x ih =>
  intro Q K s β a w h ht hQ
  refine wp_block (ih h ht (fun e s' β' a' w' hk h'=> ?_))
  cases e with
  | normal=>exact hQ .normal s' β' a' w' hk h'
  | exit id' =>
    simp only[Ai]at hk
    simp only[Ex.exit_,Exit.inBlock]
    by_cases hid:id'=id
    · subst hid
      simp only[beq_self_eq_true,cond_true]at hk
      rw[if_pos rfl]
      exact hQ .normal s' β' a' w' hk h'
    · have:(id' == id)=false:=by simp[hid]
      rw[this]at hk
      rw[if_neg hid]
      exact hQ (.exit id') s' β' a' w' hk h'
  | ret=>exact hQ .ret s' β' a' w' hk h'
 | loop x ih =>
  intro Q K s β a w h ht hQ
  simp only[ev]at ht
  split at ht
  · exact ht.elim
  · rename_i s1 hs1
    obtain ⟨β1,h1⟩:=BB hP h hs1
    refine AkV (J:=fun m a w=>∃ s β,RS P md w0 N0 M0 pv s β a w∧(Ua P md (ev P md n orc x) (Al orc (Ls x)) m s K).wp P md Φ) ⟨s1,β1,h1,ht⟩ (fun a w hj=> ?_) (fun m a w hj=> ?_)
    · obtain ⟨_,_,_,hf⟩:=hj
      exact hf.elim
    · obtain ⟨s2,β2,h2,ht2⟩:=hj
      refine ih h2 ht2 (fun e s' β' a' w' hk h'=> ?_)
      cases e with
      | normal =>
        simp only[Fg]at hk
        split at hk
        · exact hk.elim
        · rename_i s3 hs3
          obtain ⟨β3,h3⟩:=BB hP h' hs3
          exact ⟨s3,β3,h3,hk⟩
      | exit id=>exact hQ (.exit id) s' β' a' w' hk h'
      | ret=>exact hQ .ret s' β' a' w' hk h'
 | exit id=>intro Q K s β a w h ht hQ;exact wp_exit (hQ (.exit id) s β a w ht h)
 | ret=>intro Q K s β a w h ht hQ;exact wp_ret (hQ .ret s β a w ht h)
 | _=>intros;rename_i ht hQ;exact (show False from ht).elim
end
end Go.Proofs.YtokkbgpgaheakaaGreat
namespace Go.Proofs.YtokkbgpgaheakaaGreat
open Go.RowKit
section
variable {P:Program} {md:Nat→FMode} {w0 w w':World} {N0 M0 M:Nat→Prop} {pv:Nat→Value} {β:Nat→Value} {a:Act} {n:Nat}
theorem NP : ∀ {cts:List CT} {xs:List D},xs.length=cts.length→(D8 P cts xs).length=xs.length
 | [],[],_=>rfl
 | c::cs,x::xs,h=>by simp[D8,NP (cts:=cs) (xs:=xs) (by simpa using h)]
 | [],_::_,h=>by simp at h
 | _::_,[],h=>by simp at h
theorem NO : ∀ {cts:List CT} {xs:List D} {i:Nat} {l:L},(D8 P cts xs)[i]? = some l→∃ ct x,cts[i]? = some ct∧xs[i]? = some x∧l=Cy P ct x
 | c::cs,x::xs,0,l,h=>by simp[D8]at h;exact ⟨c,x,rfl,rfl,h.symm⟩
 | c::cs,x::xs,i+1,l,h=>by simp only[D8,List.getElem?_cons_succ]at h;simpa using NO h
 | [],xs,i,l,h=>by simp[D8]at h
 | _::_,[],i,l,h=>by simp[D8]at h
def Pe(vs:List Value)(k:Nat):Act:= { tmps:=vs.toArray++Array.replicate k undef,defers:=[] }
theorem AH(vs:List Value)(k t:Nat):(Pe vs k).tmps.getD t undef=vs.getD t undef:=by
 simp only[Pe,Amf,Alk,Array.getElem?_append]
 split
 · simp
 · rename_i h
   rw[Array.getElem?_replicate,List.getElem?_eq_none (by simpa using h)]
   split <;> rfl
theorem AcG(hP:WfP P){fm:FMode}{fn:Func}{cts:List CT}{xs:List D}{s:St}{vs:List Value}(hi:DD P fm fn cts xs=some s)(hx:PreA P md fm w M (fn.params.toList.map CT.ty++cts) xs vs) :
   ∃ β,RS P md w (C7 fm vs) M (fun t=>vs.getD t undef) s β (Pe vs (fn.ntmps-xs.length)) w:=by
 have hlen:=NP (P:=P) hx.lenx
 have hvl:vs.length=xs.length:=by rw[hx.lenv,hx.lenx]
 have slots0 : ∀ (Mx:Nat→Prop) (look:Nat→Option Blk) (β:Nat→Value),(∀ b,Mx b→M b∨C7 fm vs b)→∀ t,fm.arg≠some t→VL P md w Mx look β ((D8 P (fn.params.toList.map CT.ty++cts) xs++Alh (fn.ntmps-xs.length) L.undef).getD t L.undef) (vs.getD t undef)∧((D8 P (fn.params.toList.map CT.ty++cts) xs++Alh (fn.ntmps-xs.length) L.undef).getD t L.undef).ids = []:=by
   intro Mx look β hMx t ht
   rw[Alk,List.getElem?_append]
   split
   · rename_i hlt
     rw[Alg hlt]
     obtain ⟨ct,x,h1,h2,h3⟩:=NO (Alg hlt)
     have hv:vs[t]? = some (vs[t]'(by omega)):=Alg (by omega)
     have hrd:=hx.rd t ct x _ h1 h2 hv ht
     rw[Option.getD_some,h3,Alk,hv,Option.getD_some]
     exact TN hP ⟨hrd.rd.mono (Als _) (fun _ _ _=>rfl) (fun b hb _=>hMx b hb),hrd.size,hrd.agg⟩
   · rw[List.getElem?_replicate]
     split <;> exact ⟨.inl rfl,rfl⟩
 have hM0 : ∀ b,M b→b<w.heap.size∧¬ C7 fm vs b:=hx.m
 have hsz:(Pe vs (fn.ntmps-xs.length)).tmps.size=(D8 P (fn.params.toList.map CT.ty++cts) xs++Alh (fn.ntmps-xs.length) L.undef).length:=by
   simp[Pe,hlen,hvl]
 unfold DD at hi
 simp only at hi
 split at hi
 · rename_i harg
   injection hi with hi
   subst hi
   refine ⟨fun _=>undef,⟨Stp.refl _ _,hM0,hsz,fun t=> ?_,(fun r b hr=>by cases hr),(fun r b B hr=>by cases hr),(fun r q b c B hr=>by cases hr),fun t r hr=> ?_,(fun q b hq=>by cases hq),⟨rfl,(fun i d x hd=>by cases hd)⟩,(fun t ht=>by cases ht)⟩⟩
   · rw[AH]
     refine (slots0 _ _ _ (fun b hb=> ?_) t (by rw[harg];simp)).1
     rcases hb with hb | ⟨_,_,hr,_⟩
     · exact .inl hb
     · cases hr
   · have h:=(slots0 (fun _=>False) (fun _=>none) (fun _=>undef) (fun b hb=>hb.elim) t (by rw[harg];simp)).2
     have hr':r∈((D8 P (fn.params.toList.map CT.ty++cts) xs++Alh (fn.ntmps-xs.length) L.undef).getD t L.undef).ids:=hr
     rw[h]at hr'
     cases hr'
 · rename_i p harg
   split at hi
   · rename_i e he
     injection hi with hi
     subst hi
     obtain ⟨t,e',es,v,l1,l2,l3,l4,l5,l6⟩:=hx.lent p harg
     have hpv:p<vs.length:=(Alj.1 l5).1
     have hpl:p<fn.params.toList.length:=by
       cases hpp:fn.params.toList[p]? with
       | none=>rw[hpp]at he;simp at he
       | some u=>exact (Alj.1 hpp).1
     obtain rfl:e'=e:=by
       rw[Al5 (by rw[Ali];exact hpl),Aly]at l1
       rw[Alg hpl]at l1 he
       simp at l1 he
       rw[l1,l2]at he
       injection he
     have hes:(xs.getD p .nil).els=es:=by rw[Alk,l4];rfl
     rw[hes]
     have hlk : ∀ r b,St.look ⟨(D8 P (fn.params.toList.map CT.ty++cts) xs++Alh (fn.ntmps-xs.length) L.undef).set p (.row p),[(p,.row e' es true)],[p],[],if fm.back=true then [p] else []⟩ r=some b→r=p∧b = .row e' es true:=by
       intro r b hr
       have hr':(bif p == r then some (Blk.row e' es true) else none)=some b:=hr
       by_cases e:p=r
       · subst e;simp at hr';exact ⟨rfl,hr'.symm⟩
       · have:(p == r)=false:=by simp[e]
         rw[this]at hr';cases hr'
     have hlkp:St.look ⟨(D8 P (fn.params.toList.map CT.ty++cts) xs++Alh (fn.ntmps-xs.length) L.undef).set p (.row p),[(p,.row e' es true)],[p],[],if fm.back=true then [p] else []⟩ p=some (.row e' es true):=by
       show (bif p == p then _ else _)=_
       simp
     have hMx : ∀ b,Ap M (St.look ⟨(D8 P (fn.params.toList.map CT.ty++cts) xs++Alh (fn.ntmps-xs.length) L.undef).set p (.row p),[(p,.row e' es true)],[p],[],if fm.back=true then [p] else []⟩) (fun _=>v) b→M b∨C7 fm vs b:=by
       rintro b (hb | ⟨r,k,hr,_,hB⟩)
       · exact .inl hb
       · exact .inr ⟨p,v,harg,l5,hB⟩
     have hvget:vs.getD p undef=v:=by rw[Alk,l5];rfl
     have hslot : ∀ t,((D8 P (fn.params.toList.map CT.ty++cts) xs++Alh (fn.ntmps-xs.length) L.undef).set p (.row p)).getD t .undef=if t=p then .row p else (D8 P (fn.params.toList.map CT.ty++cts) xs++Alh (fn.ntmps-xs.length) L.undef).getD t .undef:=by
       intro t
       rw[Alk,List.getElem?_set,Alk]
       by_cases e:t=p
       · subst e
         have:t<(D8 P (fn.params.toList.map CT.ty++cts) xs++Alh (fn.ntmps-xs.length) L.undef).length:=by rw[Alr,hlen];omega
         rw[if_pos rfl,if_pos this,if_pos rfl];rfl
       · have : ¬ p=t:=fun h=>e h.symm
         simp[e,this]
     refine ⟨fun _=>v,⟨Stp.refl _ _,hM0,by rw[hsz,List.length_set],fun t=> ?_,fun r b hr=> ?_,fun r b B hr hB=> ?_,fun r q b c B hr hq _ _=> ?_,fun t r hr=> ?_,fun q b hq=> ?_,⟨rfl,(fun i d x hd=>by cases hd)⟩,fun t _=>AH _ _ t⟩⟩
     · rw[AH]
       show VL P md w _ _ _ (List.getD _ t .undef) _
       rw[hslot]
       by_cases et:t=p
       · subst et
         rw[if_pos rfl,hvget]
         obtain ⟨A,cap,rfl,_⟩:=l6
         exact Di (by simp) (.row ⟨_,rfl,rfl⟩ (fun _ _ _ _=>rfl)) ⟨rfl,rfl,Eg rfl⟩
       · rw[if_neg et]
         exact (slots0 _ _ _ hMx t (fun h=>et (by rw[harg]at h;injection h with h;exact h.symm))).1
     · obtain ⟨rfl,rfl⟩:=hlk r b hr
       exact RowV.mono l6 (Als _) (fun _ _ _=>rfl) (fun b hb _=>hMx b hb) (fun _ _=>rfl)
     · refine ⟨.inr ⟨p,v,harg,l5,hB⟩,?_⟩
       obtain ⟨A,cap,rfl,hh⟩:=l6
       rcases hh with ⟨_,hcap⟩ | ⟨B',cur,rfl,h0,h1,_⟩
       · subst hcap;cases A <;> simp[A_]at hB
       · have:B'=B:=by simp[A_]at hB;exact hB.2
         subst this
         exact (Amc.1 h1).1
     · rw[(hlk r b hr).1,(hlk q c hq).1]
     · have hr':r∈(((D8 P (fn.params.toList.map CT.ty++cts) xs++Alh (fn.ntmps-xs.length) L.undef).set p (.row p)).getD t L.undef).ids:=hr
       rw[hslot]at hr'
       by_cases et:t=p
       · rw[if_pos et]at hr';simpa [L.ids]using hr'
       · rw[if_neg et,(slots0 (fun _=>False) (fun _=>none) (fun _=>undef) (fun b hb=>hb.elim) t (fun h=>et (by rw[harg]at h;injection h with h;exact h.symm))).2]at hr'
         cases hr'
     · obtain ⟨rfl,rfl⟩:=hlk q b hq
       exact ⟨by simp,by intro r hr;simp[Blk.ids]at hr⟩
   · cases hi
def Om(tmps:Array Value):ResultVar→Sem Value
 | .tmp t=>pure (tmps.getD t undef)
 | .cell x t=>do loadVar t (← asAddr (tmps.getD x undef))
def IY(P:Program)(md:Nat→FMode)(M0:Nat→Prop)(s:St)(β:Nat→Value)(a:Act)(w:World)(rs:List ResultVar)(ts:List Nat)(ys:List D):Prop :=
 ∃ us:List Value,(rs.mapM (Om a.tmps)).run P w = .ok us w∧us.length=ts.length∧ys.length=ts.length∧rs.length=ts.length ∧
  ∀ (i:Nat) (t:Nat) (y:D) (u:Value),ts[i]? = some t→ys[i]? = some y→us[i]? = some u→∃ l,(Oo s rs)[i]? = some l∧Cz P t l=true∧conv P md s.look l t=some y∧VL P md w (Ap M0 s.look β) s.look β l u
theorem VQ(hP:WfP P){s:St}(h:RS P md w0 N0 M0 pv s β a w) : ∀ {rs:List ResultVar} {ts:List Nat} {ys:List D},K3 P md s rs ts=some ys→IY P md M0 s β a w rs ts ys
 | [],[],ys,hr=>by
  simp only[K3,Alo]at hr
  subst hr
  exact ⟨[],by simp,rfl,rfl,rfl,fun i t y u ht=>by simp at ht⟩
 | r::rs,t::ts,ys,hr=>by
  simp only[K3]at hr
  split at hr
  · rename_i x xs hx hxs
    injection hr with hr
    subst hr
    obtain ⟨us,g1,g2,g3,g4,g5⟩:=VQ hP h hxs
    have fin : ∀ (l:L) (u:Value),(Om a.tmps r).run P w = .ok u w→GK s r=some l→Cz P t l=true→conv P md s.look l t=some x→VL P md w (Ap M0 s.look β) s.look β l u→IY P md M0 s β a w (r::rs) (t::ts) (x::xs):=by
     intro l u q1 q2 q3 q4 q5
     refine ⟨u::us,?_,by simp[g2],by simp[g3],by simp[g4],fun i t' y u' ht hy hu=> ?_⟩
     · rw[List.mapM_cons]
       simp only[Sem.run_bind]
       rw[q1]
       simp only[Result.andThen_ok]
       rw[g1]
       simp
     · cases i with
       | zero =>
         simp at ht hy hu
         subst ht;subst hy;subst hu
         exact ⟨l,by simp[Oo,q2],q3,q4,q5⟩
       | succ i =>
         obtain ⟨l',k1,k2⟩:=g5 i t' y u' (by simpa using ht) (by simpa using hy) (by simpa using hu)
         exact ⟨l',by simpa [Oo]using k1,k2⟩
    cases r with
    | tmp q =>
     simp only at hx
     split at hx
     · rename_i hok
       exact fin (s.slot q) (a.tmps.getD q undef) (by simp[Om]) rfl hok hx (h.slots q)
     · cases hx
    | cell q t' =>
     simp only at hx
     split at hx
     · rename_i htt
       have:t'=t:=by simpa using htt
       subst this
       split at hx
       · rename_i b hq
         split at hx
         · rename_i t0 l lv hb
           split at hx
           · rename_i hc
             simp only[Alp,beq_iff_eq]at hc
             obtain ⟨rfl,hok⟩:=hc
             have hv:=h.slots q
             rw[hq]at hv
             obtain ⟨_,vx⟩:=Z4 hv hb
             obtain ⟨B,cs,T,b1,b2,b3,b4,b5,b6⟩:=h.blks b _ hb
             obtain ⟨u,hu,hvl⟩:=OR (l:=l) (t:=t0) (B:=B) (off:=0) hP b2 (by simpa using b5) hok b4 (by omega) b6
             refine fin l u ?_ (by simp[GK,hq,hb]) hok hx hvl
             simp only[Om,vx,b1,Hd,A_,Option.getD_some,Bf]
             simpa [asAddr]using hu
           · cases hx
         · cases hx
       · cases hx
     · cases hx
  · cases hr
 | [],_::_,ys,hr=>by simp[K3]at hr
 | _::_,[],ys,hr=>by simp[K3]at hr
theorem Aih{fn:Func}{tmps:Array Value}{us:List Value}(h:(fn.results.toList.mapM (Om tmps)).run P w = .ok us w):(results fn tmps).run P w = .ok (J8 us) w:=by
 have e:results fn tmps=(do let vs ← fn.results.mapM (Om tmps);pure (if h:vs.size=1 then vs[0] else .tuple vs)):=by
  unfold results
  congr 1
 rw[e,Array.mapM_eq_mapM_toList]
 simp only[Sem.run_bind,map_eq_pure_bind,h,Result.andThen_ok,Sem.run_pure]
 congr 1
 match us with
 | []=>rfl
 | [u]=>rfl
 | u1::u2::us=>simp[J8]
theorem Tf{r:Nat}{look:Nat→Option Blk} : ∀ {ls:List L} {i j:Nat} {l k:L},ls[i]? = some l→ls[j]? = some k→i≠j→r∈C4 look l→r∈C4 look k→2≤(C5 look ls).count r
 | x::ls,0,0,l,k,_,_,hne,_,_=>absurd rfl hne
 | x::ls,0,j+1,l,k,hi,hj,_,h1,h2=>by
  simp at hi;subst hi
  simp only[C5,List.flatMap_cons,List.count_append]
  have a1:0<(C4 look x).count r:=List.count_pos_iff.2 h1
  have a2:0<(ls.flatMap (C4 look)).count r:=List.count_pos_iff.2 (List.mem_flatMap.2 ⟨k,Alm (by simpa using hj),h2⟩)
  omega
 | x::ls,i+1,0,l,k,hi,hj,_,h1,h2=>by
  simp at hj;subst hj
  simp only[C5,List.flatMap_cons,List.count_append]
  have a1:0<(C4 look x).count r:=List.count_pos_iff.2 h2
  have a2:0<(ls.flatMap (C4 look)).count r:=List.count_pos_iff.2 (List.mem_flatMap.2 ⟨l,Alm (by simpa using hi),h1⟩)
  omega
 | x::ls,i+1,j+1,l,k,hi,hj,hne,h1,h2=>by
  have:=Tf (ls:=ls) (by simpa using hi) (by simpa using hj) (fun e=>hne (by rw[e])) h1 h2
  simp only[C5,List.flatMap_cons,List.count_append]at this ⊢
  omega
 | [],i,j,l,k,hi,_,_,_,_=>by simp at hi
theorem QL : ∀ {os:List (Nat×List Nat)} {i j:Nat} {o:Nat×List Nat},N_ os=true→os[i]? = some o→os[j]? = some o→i=j
 | x::os,0,0,_,_,_,_=>rfl
 | x::os,0,j+1,o,h,hi,hj=>by
  simp at hi;subst hi
  simp only[N_,Alp,Bool.not_eq_true']at h
  have:x∈os:=Alm (by simpa using hj)
  have h1:=h.1
  rw[List.contains_iff_mem.2 this]at h1
  cases h1
 | x::os,i+1,0,o,h,hi,hj=>by
  simp at hj;subst hj
  simp only[N_,Alp,Bool.not_eq_true']at h
  have:x∈os:=Alm (by simpa using hi)
  have h1:=h.1
  rw[List.contains_iff_mem.2 this]at h1
  cases h1
 | x::os,i+1,j+1,o,h,hi,hj=>by
  simp only[N_,Alp]at h
  have:=QL (os:=os) (i:=i) (j:=j) (o:=o) h.2 (by simpa using hi) (by simpa using hj)
  omega
 | [],i,j,o,_,hi,_=>by simp at hi
theorem BO{r:Nat} : ∀ {ls:List L} {i j:Nat} {l k:L},ls[i]? = some l→ls[j]? = some k→i≠j→r∈l.rows→r∈k.rows→2≤(L.rowsL ls).count r
 | x::ls,0,0,l,k,_,_,hne,_,_=>absurd rfl hne
 | x::ls,0,j+1,l,k,hi,hj,_,h1,h2=>by
  simp at hi;subst hi
  simp only[L.rowsL,List.count_append]
  have a1:0<x.rows.count r:=List.count_pos_iff.2 h1
  have a2:0<(L.rowsL ls).count r:=List.count_pos_iff.2 (L7 (i:=j) (by simpa using hj) r h2)
  omega
 | x::ls,i+1,0,l,k,hi,hj,_,h1,h2=>by
  simp at hj;subst hj
  simp only[L.rowsL,List.count_append]
  have a1:0<x.rows.count r:=List.count_pos_iff.2 h2
  have a2:0<(L.rowsL ls).count r:=List.count_pos_iff.2 (L7 (i:=i) (by simpa using hi) r h1)
  omega
 | x::ls,i+1,j+1,l,k,hi,hj,hne,h1,h2=>by
  have:=BO (ls:=ls) (i:=i) (j:=j) (by simpa using hi) (by simpa using hj) (fun e=>hne (by rw[e])) h1 h2
  simp only[L.rowsL,List.count_append]
  omega
 | [],i,j,l,k,hi,_,_,_,_=>by simp at hi
theorem BN{r:Nat}{look:Nat→Option Blk} : ∀ {ls:List L} {i:Nat} {l:L},ls[i]? = some l→(C4 look l).count r≤(C5 look ls).count r
 | x::ls,0,l,hi=>by simp at hi;subst hi;simp only[C5,List.flatMap_cons,List.count_append];omega
 | x::ls,i+1,l,hi=>by
  have:=BN (r:=r) (look:=look) (ls:=ls) (i:=i) (l:=l) (by simpa using hi)
  simp only[C5,List.flatMap_cons,List.count_append]at this ⊢
  omega
 | [],i,l,hi=>by simp at hi
theorem Ou{l lo:L}{p:List Nat}(h:Fb l p=some lo) : ∀ r∈lo.rows,r∈l.rows:=by
 intro r hr
 match l,p,h with
 | l,[],h=>simp only[Fb,Alo]at h;subst h;exact hr
 | .agg t ls,[j],h=>simp only[Fb]at h;simp only[L.rows];exact L7 h r hr
theorem K4{l:L}{look:Nat→Option Blk} : ∀ r∈l.rows,r∈C4 look l:=by
 intro r hr
 cases l <;> first | exact hr | simp[L.rows]at hr
theorem AjM{look lookR:Nat→Option Blk}{l lo:L}{p:List Nat}{t:Nat}{x:D}{u:Value}(hs:Fb l p=some lo)(hl:LC P md w M look β l (fun j=>u.cells[j]?))(hx:conv P md lookR l t=some x) :
  ∃ ut,B5 P t p=some ut∧conv P md lookR lo ut=some (x.path p)∧LC P md w M look β lo (fun j=>u.cells[Bf P t p+j]?):=by
 match l,p,hs with
 | l,[],hs =>
  simp only[Fb,Alo]at hs
  subst hs
  exact ⟨t,rfl,hx,by simpa [Bf]using hl⟩
 | .agg t' ls,[j],hs =>
  simp only[Fb]at hs
  have hx':Cd P lookR (.agg t' ls) t=some x:=hx
  simp only[Cd]at hx'
  split at hx'
  · rename_i hte
    obtain rfl:t'=t:=by simpa using hte
    cases hl with
    | @agg _ fs _ _ ht hlen h hz =>
     rw[ht]at hx'
     simp only[Alv]at hx'
     obtain ⟨xs,hxs,rfl⟩:=hx'
     obtain ⟨h1,h2,h3⟩:=Tc hxs
     have hj:j<ls.length:=(Alj.1 hs).1
     have hf:=Alg (l:=fs) (i:=j) (by omega)
     have hd:=Alg (l:=xs) (i:=j) (by rw[h2,Ali];omega)
     have hc:=h3 j lo _ _ hs (by rw[Aly,hf];rfl) hd
     refine ⟨(fs[j]).type,by simp[B5,ht,hf],?_,?_⟩
     · have hnf : ∀ f caps,lo≠ .fn f caps:=by intro f caps e;subst e;simp[Cd]at hc
       rw[BJ hnf,hc]
       simp[D.path,D.fld,D.fs,Alk,hd]
     · have:=h j _ lo hf hs
       simpa [Bf,ht,hf]using this
  · cases hx'
theorem GV{rts:List Nat} : ∀ {os:List (Nat×List Nat)} {d:Nat} {ls0 ls:List L},(∀ o∈os,o.2 = []∨∃ j,o.2 = [j])→Fk P rts os d ls0=some ls→∀ (i t:Nat) (l0 l:L),rts[i]? = some t→ls0[i]? = some l0→ls[i]? = some l →
  (∃ k:Nat,os[k]? = some (i,[])∧l = .row (d+100000*k))∨((∀ o∈os,o.1≠i)∧l=l0) ∨
  (∃ fs ls1 zs,(∃ j,(i,[j])∈os)∧Cx P t=some fs∧Gb P t fs l0=some ls1∧l = .agg t zs∧zs.length=ls1.length∧∀ (j:Nat) (z:L),zs[j]? = some z→(∃ k:Nat,os[k]? = some (i,[j])∧z = .row (d+100000*k))∨((∀ o∈os,o≠(i,[j]))∧ls1[j]? = some z))
 | [],d,ls0,ls,_,h,i,t,l0,l,_,hl0,hl=>by
  simp only[Fk,Alo]at h
  subst h
  rw[hl0]at hl
  injection hl with hl
  exact .inr (.inl ⟨by simp,hl.symm⟩)
 | o::os,d,ls0,ls,ho,h,i,t,l0,l,ht,hl0,hl=>by
  simp only[Fk]at h
  split at h
  · rename_i t1 l1 ht1 hl1
    split at h
    · rename_i l' hl'
      have hlt:o.1<ls0.length:=(Alj.1 hl1).1
      by_cases e:o.1=i
      · subst e
        rw[ht]at ht1;injection ht1 with ht1;subst ht1
        rw[hl0]at hl1;injection hl1 with hl1;subst hl1
        have rec_:=GV (fun q hq=>ho q (by simp[hq])) h o.1 t l' l ht (List.getElem?_set_self hlt) hl
        rcases ho o (by simp) with hp | ⟨j,hp⟩
        · rw[hp]at hl'
          simp only[D_,Alo]at hl'
          subst hl'
          rcases rec_ with ⟨k,h1,h2⟩ | ⟨h1,h2⟩ | ⟨fs,ls1,zs,_,h2,h3,_⟩
          · exact .inl ⟨k+1,by simpa using h1,by rw[h2];congr 1;omega⟩
          · exact .inl ⟨0,by rw[← hp];rfl,by rw[h2];rfl⟩
          · simp[Gb]at h3
        · rw[hp]at hl'
          simp only[D_]at hl'
          split at hl'
          · cases hl'
          · rename_i fs hfs
            split at hl'
            · cases hl'
            · rename_i ls1 hls1
              split at hl'
              · rename_i f l'' hf hl''
                simp only[Option.map_some,Alo]at hl'
                subst hl'
                have hj:j<ls1.length:=(Alj.1 hl'').1
                have hfl:ls1.length=fs.length:=by
                  cases l0 <;> simp only[Gb]at hls1 <;> first | cases hls1 | skip
                  · split at hls1
                    · injection hls1 with hls1;rw[← hls1,P0]
                    · cases hls1
                  · split at hls1
                    · rename_i hh;injection hls1 with hls1;subst hls1;simp only[Alp,beq_iff_eq]at hh;exact hh.2
                    · cases hls1
                have hpo:Gb P t fs (.agg t (ls1.set j (.row d)))=some (ls1.set j (.row d)):=by simp[Gb,hfl]
                have Cf : ∀ (q:Nat) (z:L),(ls1.set j (.row d))[q]? = some z→(q=j∧z = .row d)∨(q≠j∧ls1[q]? = some z):=by
                  intro q z hz
                  by_cases e:j=q
                  · subst e;rw[List.getElem?_set_self hj]at hz;injection hz with hz;exact .inl ⟨rfl,hz.symm⟩
                  · rw[List.getElem?_set_ne e]at hz;exact .inr ⟨fun e'=>e e'.symm,hz⟩
                rcases rec_ with ⟨k,h1,h2⟩ | ⟨h1,h2⟩ | ⟨fs',ls1',zs,⟨j',h1⟩,h2,h3,h4,h5,h6⟩
                · exact .inl ⟨k+1,by simpa using h1,by rw[h2];congr 1;omega⟩
                · refine .inr (.inr ⟨fs,ls1,_,⟨j,by rw[← hp];simp⟩,hfs,hls1,h2,by simp,fun q z hz=> ?_⟩)
                  rcases Cf q z hz with ⟨rfl,rfl⟩ | ⟨hq,hz⟩
                  · exact .inl ⟨0,by rw[← hp];rfl,rfl⟩
                  · refine .inr ⟨fun o' ho' e'=> ?_,hz⟩
                    rcases Alx.1 ho' with rfl | ho'
                    · rw[e']at hp;simp at hp;exact hq hp
                    · exact h1 o' ho' (by rw[e'])
                · rw[hfs]at h2;injection h2 with h2;subst h2
                  rw[hpo]at h3;injection h3 with h3;subst h3
                  refine .inr (.inr ⟨fs,ls1,zs,⟨j,by rw[← hp];simp⟩,hfs,hls1,h4,by rw[h5,List.length_set],fun q z hz=> ?_⟩)
                  rcases h6 q z hz with ⟨k,k1,k2⟩ | ⟨k1,k2⟩
                  · exact .inl ⟨k+1,by simpa using k1,by rw[k2];congr 1;omega⟩
                  · rcases Cf q z k2 with ⟨rfl,rfl⟩ | ⟨hq,hz'⟩
                    · exact .inl ⟨0,by rw[← hp];rfl,rfl⟩
                    · refine .inr ⟨fun o' ho' e'=> ?_,hz'⟩
                      rcases Alx.1 ho' with rfl | ho'
                      · rw[e']at hp;simp at hp;exact hq hp
                      · exact k1 o' ho' e'
              · cases hl'
      · have rec_:=GV (fun q hq=>ho q (by simp[hq])) h i t l0 l ht (by rw[List.getElem?_set_ne e];exact hl0) hl
        rcases rec_ with ⟨k,h1,h2⟩ | ⟨h1,h2⟩ | ⟨fs',ls1',zs,⟨j',h1⟩,h2,h3,h4,h5,h6⟩
        · exact .inl ⟨k+1,by simpa using h1,by rw[h2];congr 1;omega⟩
        · exact .inr (.inl ⟨fun q hq=>by
                       rcases Alx.1 hq with rfl | hq;· exact e
                       · exact h1 q hq,h2⟩)
        · refine .inr (.inr ⟨fs',ls1',zs,⟨j',by simp[h1]⟩,h2,h3,h4,h5,fun q z hz=> ?_⟩)
          rcases h6 q z hz with ⟨k,k1,k2⟩ | ⟨k1,k2⟩
          · exact .inl ⟨k+1,by simpa using k1,by rw[k2];congr 1;omega⟩
          · refine .inr ⟨fun o' ho' e'=> ?_,k2⟩
            rcases Alx.1 ho' with rfl | ho'
            · rw[e']at e;exact e rfl
            · exact k1 o' ho' e'
    · cases h
  · cases h
theorem SJ{fm:FMode}{ps rts:List Nat}{ys:List D}{d bid q:Nat}{b:Blk}(h:Dt P fm ps rts ys d bid q=some b):(∃ (k:Nat) (o:Nat×List Nat),fm.own[k]? = some o∧q=d+100000*k∧∃ e,G4 P rts o=some e∧b = .row e ((ys.getD o.1 .nil).path o.2).els true)∨(q=bid∧fm.back=true∧b = .row (Fq P ps fm) (ys.getD rts.length .nil).els true):=by
 by_cases ho:Dl d fm.own.length q
 · obtain ⟨k,hk,rfl⟩:=ho
   rw[Dt,Ix,L_ (Alg hk)]at h
   obtain ⟨e,he,hb⟩:=Alv.1 h
   exact .inl ⟨k,fm.own[k],Alg hk,rfl,e,he,hb.symm⟩
 · rw[Dt,Ix,Qy ho]at h
   cases hb:fm.back with
   | false=>rw[Kk,hb]at h;simp[Bh]at h
   | true =>
    rw[Kk,hb]at h
    simp only[if_true,Bh]at h
    by_cases e:q=bid
    · subst e;rw[Bz]at h;injection h with h;exact .inr ⟨rfl,rfl,h.symm⟩
    · rw[Bo _ _ e]at h;cases h
end
end Go.Proofs.YtokkbgpgaheakaaGreat
