/- Proved: lemmas for the law of this folder, part 5. No condition. -/
import Derived.Test.YtokkbgpgaheakaaGreatRows
import Derived.WalkKit
import Derived.WalkSpells
import Derived.WalkLawsBesides
import Derived.Lib.Hide
import Derived.Laws.CopyOwn
import Derived.Deep.QuietTactic
import Derived.BigQuiet
import Derived.Orders
import Derived.Defers
import Derived.Recover
import Derived.Test.YtokkbgpgaheakaaGreatProg
import Derived.KernelRfl
import Derived.ProofKit
import Derived.OpenShut
import Derived.Maps.OwnRows
import Derived.Maps.Views
import Derived.Deep.RegionHeld3
import Derived.Deep.AppendLies
import Derived.Test.YtokkbgpgaheakaaGreatZ693f4ade
set_option linter.unusedSimpArgs false
set_option linter.unusedVariables false
set_option maxRecDepth 100000
open Array renaming getElem?_eq_getElem → Apy, getElem?_eq_some_iff → Aqa, getD_eq_getD_getElem? → Aqf
open BitVec renaming ofNat → Apw
open Bool renaming and_eq_true → Api
open Classical renaming not_not → Apm
open Int renaming toNat → Apa, toNat_natCast → Apj, fdiv → Ap3
open Go.IntKind renaming wrap → Aom, bits → Apl
open List renaming getElem?_eq_getElem → Apb, replicate → Apc, length_map → Apd, getD_eq_getElem?_getD → Ape, getElem?_eq_some_iff → Apf, length_cons → Apg, mem_of_getElem? → Aph, length_append → Apn, length_drop → App, length_take → Apr, getElem?_map → Aps, mem_cons → Apt, length_nil → Apv, append_nil → Apx, append_assoc → Apz, getElem?_append_left → Ap0, drop_eq_getElem_cons → Ap1, length_eq_zero_iff → Ap2, take_append_drop → Ap5, map_cons → Ap7, range → Ap8, take_of_length_le → Ap_, getElem_mem → Aqc, getElem?_append_right → Aqe, length_replicate → Aqg, mem_append → Aqh, length → Aql, all_eq_true → Aqm, nil_append → Aqp
open Nat renaming le_refl → Apo, mul_le_mul_right → Apu, mod_lt → Ap4, mod_eq_of_lt → Ap6, mul_comm → Ap9, lt_of_lt_of_le → Aqb, div_div_eq_div_mul → Aqd, pow_succ → Aqj, div_lt_iff_lt_mul → Aqk, lt_or_ge → Aqn, zero_add → Aqo
open Option renaming map_eq_some_iff → Apq, bind_eq_some_iff → Aqi
open Option.some renaming injEq → Apk
namespace Go.Proofs.YtokkbgpgaheakaaGreat
theorem Fi(a:Arr):Fits a→Sp 84 [dA a] [dB (Au a)]:=by
 induction a using Arr.ind with
 | h s sh cs IH =>
  intro ha
  have hl:=ha.len
  have IH' : ∀ c∈(Arr.mk s sh cs).cells,∀ x∈c.inn,Fits x→Sp 84 [dA x] [dB (Au x)]:=IH
  generalize Arr.mk s sh cs=a at *
  obtain ⟨N,hN⟩:=EV
  refine Af N (Adq _ _) ?_
  rw[MM]
  have key:=Ca a.cells (fun m k (l:Al)=>Ve N m (l.toNat:Int) (.sl (a.cells.map dC)) (a.cells.length:Int) (k:Int)) (fun rest l=>[dB (rest.foldl Lw l)]) (fun _ _=>True)
   (fun m k l hk _=>by
    simp only[OI,Ai]
    exact At (Ac rfl))
   (fun m k l c rest hdr _ ih=>by
    obtain ⟨h1,h2,h3⟩:=B6 hdr
    have hc:=ha.cell c (Aph h2)
    have hlc:=hc.2.2.1
    simp only[OI,Ai,Aw h2]
    repeat (refine Ad ?_)
    refine Aa (Ha l c.l) ?_
    simp only[Ah,En,List.foldl_cons]
    rw[MN]
    have key:=Ca c.inn (fun m' j (l:Al)=>Vf N m m' (l.toNat:Int) (.sl (a.cells.map dC)) (a.cells.length:Int) (k:Int) (.sl (c.inn.map dA)) (c.inn.length:Int) (j:Int)) (fun rest' l=>[dB (rest.foldl Lw (rest'.foldl (fun l x=>l|||Au x) l))]) (fun _ _=>True)
     (fun m' j l hj _=>by
      simp only[OJ,Ai,Aw h2,Bh k]
      exact At (ih _ trivial))
     (fun m' j l x rest' hdr' _ ih'=>by
      obtain ⟨g1,g2,g3⟩:=B6 hdr'
      simp only[OJ,Ai,Aw h2,Aw g2,Bh j]
      repeat (refine Ad ?_)
      refine Aa (IH' c (Aph h2) x (Aph g2) (hc.2.2.2 x (Aph g2))) (Aa (Ha l (Au x)) ?_)
      exact ih' (l|||Au x) trivial)
     N 0 (l|||c.l) (by omega) (by omega) trivial
    exact key)
   N 0 a.s (by omega) (by omega) trivial
  simp only[Ai]
  exact key
theorem K9(a:Arr)(hl:a.cells.length≤2048)(hn : ∀ c∈a.cells,c.n.top.length≤32):Sp 80 [dA a] [dI (A9 a).1,.int (A9 a).2]:=by
 refine Af (a.cells.length+1) (Adk _ _) ?_
 simp only[Ai,List.replicate_zero]
 refine Ae (fun h=>Ac ?_) (fun h=> ?_)
 · unfold A9;rw[if_pos (by omega)];rfl
 · rw[← AfH (by omega)]
   refine Ad (Ad (A0 (by simp only[Am];omega) ?_))
   have key:=Ca a.cells (fun m k (out:List Int)=>Vc (a.cells.length+1) m (out.map .int) (.sl (a.cells.map dC)) (a.cells.length:Int) (k:Int)) (fun rest out=>Xe out (G9 rest)) (fun rest out=>out.length+rest.length≤2048)
    (fun m k out hk _=>by
     simp only[OF,Ai]
     exact At (Ac (by simp[G9,Xe,dI])))
    (fun m k out c rest hdr hI ih=>by
     obtain ⟨h1,h2,h3⟩:=B6 hdr
     have hm:=Aph h2
     simp only[OF,Ai,Aw h2,Bh k]
     repeat (refine Ad ?_)
     simp only[G9]
     refine Aa (Zu c.n (by have:=hn c hm;omega)) ?_
     refine Ae (fun hk=>Ac ?_) (fun hk=> ?_)
     · rw[if_neg hk];rfl
     rw[if_pos (Apm.1 hk)]
     cases hs:Dw c.n with
     | none=>exact Bo rfl (Ac rfl)
     | some z =>
      refine Ej rfl (A0 ?_ ?_)
      · simp only[Apg,Apv,Am,Apd]at hI ⊢; omega
      · have:=ih (out++[z]) (by simp only[Apn,Apg,Apv]at hI ⊢; omega)
        simp only[Mr,Ah,Ao]
        rw[List.map_append]at this
        refine Tree.wp_mono this (fun ys hy=>hy.trans ?_)
        cases G9 rest with
        | none=>rfl
        | some l=>simp[Xe])
    (a.cells.length+1) 0 [] (by omega) (by omega) (by simpa using hl)
   exact key
theorem I7(z:Int)(hz:Bd z):Sp 138 [.int z] [dC (Bf z)]:=by
 refine Af 0 (Adj _ _) (Aa (Mv z hz) (Ac ?_))
 rw[Ec];rfl
def AdI(c:Int):Cell:=⟨0,1,.zero,c,[]⟩
theorem Adf(z:Int):Sp 171 [.int z] [dC (AdI z)]:=by
 refine Af 0 (Adg _ _) (Ac ?_)
 rw[Ec];rfl
theorem Iq:Bd 0:=by unfold Bd;decide
theorem Vb(a:Arr):Sp 82 [dA a] [dC (Cl a)]:=by
 refine Af 0 (Adi _ _) ?_
 simp only[Ai]
 unfold Cl
 match hc:a.cells with
 | []=>exact A0 (by simp) (Aa (I7 0 Iq) (Ac rfl))
 | c::cs =>
  refine Ow (by simp;omega) (Aa (I7 0 Iq) (Ad (A0 (by simp) ?_)))
  simp only[Ap7,Ah,Ai]
  refine Ae (fun h=>Aa (Adf 32) (Ad (A0 (by simp) (Ac ?_)))) (fun h=>Ad (A0 (by simp) (Ac ?_)))
  · rw[if_pos h,Ec]
    simp only[Ai];rfl
  · rw[if_neg h,Ec]
    simp only[Ai];rfl
theorem Agn:lb 1 = [1]:=by rw[Py (by decide),show 1 / B=0 by decide,C9];rfl
theorem VY(z:Int):Bs (Cy z)=z:=De z
theorem AhV(z:Int):Bq (Cy z)=1:=by simp[Bq,Cy,nv]
theorem TQ{z:Int}(h:Bd z):(lb z.natAbs).length≤2:=Bb.2 (by unfold Bd at h;show z.natAbs<18446744073709551616;omega)
theorem Al2{z:Int}(h:Bd z):Et (Cy z)=true:=by
 have hl:=TQ h
 unfold Et
 rw[VY,AhV]
 refine decide_eq_true ⟨by simp only[Cy];omega,by simp[Cy],?_⟩
 unfold C_
 simp only[Int.natAbs_one,Nat.gcd_one_right,Nat.div_one,Agn]
 rw[if_neg (by decide),if_neg (by simp only[Apg,Apv];omega)]
 unfold Cy
 congr 2
 by_cases hz:z<0
 · have:0<(lb z.natAbs).length:=by
    rcases Nat.eq_zero_or_pos (lb z.natAbs).length with h0 | h0
    · have:=Hb.1 h0;omega
    · exact h0
   simp[hz,this]
 · simp[hz]
theorem AmV{z:Int}(h:Bd z):Dw (Cy z)=some z:=by
 unfold Dw Na
 rw[if_pos (show (Cy z).bot = [1] from rfl),VY,if_pos h]
theorem BC{n:Num}(h:Et n=true):n.top.length≤32∧n.bot.length≤32:=by
 have:=of_decide_eq_true h
 exact ⟨this.1,this.2.1⟩
theorem Tu{d:Nat}{c:Cell}(h:Bi d c=true):c.n.top.length≤32∧c.n.bot.length≤32∧c.inn.length≤1:=by
 suffices key : ∀ k r,C7 k r c=true→c.n.top.length≤32∧c.n.bot.length≤32∧c.inn.length≤1 by
   cases d with
   | zero=>exact key _ _ h
   | succ d=>exact key _ _ h
 intro k r h
 unfold C7 at h
 split at h
 · simp only[Api,decide_eq_true_eq]at h
   exact ⟨(BC h.2).1,(BC h.2).2,by omega⟩
 split at h
 · simp only[Api,decide_eq_true_eq]at h
   rw[h.1.1];exact ⟨by decide,by decide,by omega⟩
 · simp only[Api,decide_eq_true_eq]at h
   rw[h.1.2.1]
   refine ⟨by decide,by decide,?_⟩
   have hb:=h.2.2
   unfold I_ at hb
   split at hb
   · rename_i hi;rw[hi];simp
   · cases hb
theorem Ce{d:Nat}{a:Arr}(h:Aj d a=true):A7 a.shape=((a.cells.length:Int),0)∧∀ c∈a.cells,Bi d c=true:=by
 rw[BB]at h
 simp only[Api,decide_eq_true_eq,Aqm]at h
 exact h
theorem H4{d:Nat}{a:Arr}(h1:A7 a.shape=((a.cells.length:Int),0))(h2 : ∀ c∈a.cells,Bi d c=true):Aj d a=true:=by
 rw[BB]
 simp only[Api,decide_eq_true_eq,Aqm]
 exact ⟨h1,h2⟩
theorem Dj{d:Nat}{a:Arr}(h:Aj d a=true):a.cells.length≤2048∧a.shape.length≤6∧∀ x∈a.shape,0≤x∧x≤2048:=by
 have h1:=(Ce h).1
 have h2:=Fw a.shape
 have h3:=Gm (l:=a.shape) (by rw[h1])
 rw[h1]at h2
 exact ⟨by simp only at h2;omega,h3⟩
theorem Qv{d:Nat}{a:Arr}(h:Aj d a=true) : ∀ c∈a.cells,c.n.top.length≤32:=fun c hc=>(Tu ((Ce h).2 c hc)).1
theorem Jp{z:Int}(d:Nat)(h:Bd z):Bi d (Bf z)=true:=by
 have : ∀ k r,C7 k r (Bf z)=true:=by
  intro k r
  unfold C7
  rw[if_pos (show (Bf z).kind=0 from rfl)]
  have:=Al2 h
  simp only[Bf,this];rfl
 cases d <;> exact this _ _
theorem Dk{z:Int}(h1 : -100000≤z)(h2:z≤100000):Bd z:=by unfold Bd;omega
def Sml:Nat→Arr→Prop
 | 0,_=>False
 | d+1,a=>a.shape.length≤1048576∧a.cells.length≤1048576∧(∀ x∈a.shape,Bd x)∧∀ c∈a.cells,c.n.top.length≤1048576∧c.n.bot.length≤1048576∧c.inn.length≤1048576∧∀ x∈c.inn,Sml d x
def SmlC(d:Nat)(c:Cell):Prop:=c.n.top.length≤1048576∧c.n.bot.length≤1048576∧c.inn.length≤1048576∧∀ x∈c.inn,Sml d x
theorem Sml.succ {d:Nat} {a:Arr} (h:Sml d a) : ∃ e,d=e+1:=by
 cases d with
 | zero=>exact h.elim
 | succ e=>exact ⟨e,rfl⟩
theorem Sml.cell {d:Nat} {a:Arr} (h:Sml (d+1) a) : ∀ c∈a.cells,SmlC d c:=h.2.2.2
theorem Sml.of {d:Nat} {a:Arr} (h1:a.shape.length≤1048576) (h2:a.cells.length≤1048576) (h3 : ∀ x∈a.shape,Bd x) (h4 : ∀ c∈a.cells,SmlC d c):Sml (d+1) a:=⟨h1,h2,h3,h4⟩
theorem Sml.fits : ∀ {d:Nat} {a:Arr},Sml d a→Fits a
 | 0,_,h=>h.elim
 | d+1,.mk s sh cs,⟨h1,h2,h3,h4⟩=>by
  have h1':sh.length≤1048576:=h1
  have h2':cs.length≤1048576:=h2
  refine Fits.of (by omega) (by omega) h3 (fun c hc=> ?_)
  obtain ⟨g1,g2,g3,g4⟩:=h4 c hc
  exact ⟨by omega,by omega,by omega,fun x hx=>(g4 x hx).fits⟩
theorem SmlC.fits {d:Nat} {c:Cell} (h:SmlC d c):K4 c:=⟨by have:=h.1;omega,by have:=h.2.1;omega,by have:=h.2.2.1;omega,fun x hx=>(h.2.2.2 x hx).fits⟩
theorem Sml.mono : ∀ {d e:Nat} {a:Arr},Sml d a→d≤e→Sml e a
 | 0,_,_,h,_=>h.elim
 | d+1,0,_,_,hle=>by omega
 | d+1,e+1,a,⟨h1,h2,h3,h4⟩,hle=>⟨h1,h2,h3,fun c hc=>⟨(h4 c hc).1,(h4 c hc).2.1,(h4 c hc).2.2.1,fun x hx=>((h4 c hc).2.2.2 x hx).mono (by omega)⟩⟩
theorem SmlC.mono {d e:Nat} {c:Cell} (h:SmlC d c) (hle:d≤e):SmlC e c:=⟨h.1,h.2.1,h.2.2.1,fun x hx=>(h.2.2.2 x hx).mono hle⟩
theorem Tt{d:Nat}{c:Cell}(h:Bi d c=true) : ∀ x∈c.inn,∃ e,d=e+1∧B9 x=false∧Aj e x=true∧c.inn = [x]∧c.kind=2:=by
 have key : ∀ k r,C7 k r c=true→∀ x∈c.inn,k=true∧B9 x=false∧r x=true∧c.inn = [x]∧c.kind=2:=by
  intro k r h x hx
  unfold C7 at h
  split at h
  · simp only[Api,decide_eq_true_eq]at h
    rw[Ap2.1 h.1.2]at hx;cases hx
  split at h
  · simp only[Api,decide_eq_true_eq]at h
    rw[Ap2.1 h.1.2]at hx;cases hx
  · simp only[Api,decide_eq_true_eq]at h
    obtain ⟨h1,h2,h3⟩:=h
    unfold I_ at h3
    split at h3
    · rename_i y hy
      rw[hy]at hx ⊢
      have:x=y:=by simpa using hx
      subst this
      simp only[Api,Bool.not_eq_true']at h3
      exact ⟨h2,h3.1,h3.2,rfl,h1.1⟩
    · cases h3
 cases d with
 | zero=>intro x hx;exact absurd (key _ _ h x hx).1 (by simp)
 | succ e=>intro x hx;exact ⟨e,rfl,(key _ _ h x hx).2⟩
theorem Cf : ∀ {d:Nat} {a:Arr},Aj d a=true→Sml (d+1) a
 | 0,a,h=>by
  have hl:=Dj h
  refine ⟨by omega,by omega,fun x hx=>Dk (by have:=hl.2.2 x hx;omega) (by have:=hl.2.2 x hx;omega),fun c hc=> ?_⟩
  have hc':=(Ce h).2 c hc
  have:=Tu hc'
  exact ⟨by omega,by omega,by omega,fun x hx=>by obtain ⟨e,he,_⟩:=Tt hc' x hx;omega⟩
 | d+1,a,h=>by
  have hl:=Dj h
  refine ⟨by omega,by omega,fun x hx=>Dk (by have:=hl.2.2 x hx;omega) (by have:=hl.2.2 x hx;omega),fun c hc=> ?_⟩
  have hc':=(Ce h).2 c hc
  have:=Tu hc'
  refine ⟨by omega,by omega,by omega,fun x hx=> ?_⟩
  obtain ⟨e,he,_,hr,_⟩:=Tt hc' x hx
  have:e=d:=by omega
  subst this
  exact Cf hr
theorem Aa_{d:Nat}{c:Cell}(h:Bi d c=true):SmlC d c:=by
 have:=Tu h
 refine ⟨by omega,by omega,by omega,fun x hx=> ?_⟩
 obtain ⟨e,rfl,_,hr,_⟩:=Tt h x hx
 exact Cf hr
theorem Vp(es:List D)(h:es.length≤1048576):Tw (.amb es.isEmpty (.ret [D.sl []]) (.br (decide (([]:List D).length+es.length≤Am)) (.ret [D.sl ([]++es)]) .fail)) [D.sl es]:=by
 refine AcA (fun h=>Ac ?_) (A0 ?_ (Ac ?_))
 · rw[List.isEmpty_iff.1 h]
 · simp only[Apv,Am];omega
 · rw[Aqp]
theorem PG(l:List Ar)(h:l.length≤1048576):Sp 247 [dL l] [dL l]:=Af 0 (Amz _ _) (by simp only[B3];exact Vp _ (by simpa using h))
theorem J3(l:List Int)(h:l.length≤1048576):Sp 96 [dI l] [dI l]:=Af 0 (Aby _ _) (by simp only[Ch];exact Vp _ (by simpa using h))
theorem AdM(l:List Cell)(h:l.length≤1048576):Sp 139 [.sl (l.map dC)] [.sl (l.map dC)]:=Af 0 (Amy _ _) (by simp only[Ed];exact Vp _ (by simpa using h))
theorem AdL(l:List Arr)(h:l.length≤1048576):Sp 248 [.sl (l.map dA)] [.sl (l.map dA)]:=Af 0 (Amx _ _) (by simp only[Ed];exact Vp _ (by simpa using h))
theorem EP{d:Nat}(c:Cell)(h:SmlC d c):Sp 214 [dC c] [dC c]:=by
 refine Af 0 (Ady _ _) ?_
 simp only[Ai]
 refine Aa (PG _ h.1) (Aa (PG _ h.2.1) (Aa (AdL _ h.2.2.1) (Ac ?_)))
 simp only[Ah,B3,Ed,Ae_]
 rw[Ec];rfl
def Fd(c:Cell):Arr:= .mk 0 [] [c]
def K2(l:List Cell):Arr:= .mk 0 [(l.length:Int)] l
def C2(a:Arr)(l:Al):Arr:= .mk (a.s|||l) a.shape a.cells
theorem Rl{d:Nat}(c:Cell)(h:SmlC d c):Sp 178 [dC c] [dA (Fd c)]:=by
 refine Af 0 (Ado _ _) (Aa (EP c h) (Ac ?_))
 rw[D5];rfl
theorem Rk(n:Num)(h1:n.top.length≤1048576)(h2:n.bot.length≤1048576):Sp 257 [dN n] [dC ⟨0,0,n,0,[]⟩]:=by
 refine Af 0 (Adm _ _) (Aa (ys:=[dC ⟨0,0,n,0,[]⟩]) ?_ (Ac rfl))
 have:=EP (d:=0) ⟨0,0,n,0,[]⟩ ⟨h1,h2,by simp,by simp⟩
 rw[Ec]at this ⊢
 exact this
theorem M6{α:Type}{f:α→D}{z:D}(pre:List α)(x:α)(k:Nat):((pre.map f)++Apc (k+1) z).set pre.length (f x)=((pre++[x]).map f)++Apc k z:=by
 rw[List.set_append_right _ _ (by simp),Apd,Nat.sub_self,List.replicate_succ,List.set_cons_zero]
 simp
theorem C8:D.agg [D.int 0,D.sl [],D.sl []]=dA .none:=by rw[D5];rfl
theorem Hq:D.agg [D.int 0,D.int 0,D.agg [D.bool false,D.sl [],D.sl []],D.int 0,D.sl []]=dC Cell.none:=by rw[Ec];rfl
theorem O4{d:Nat}(l:List Cell)(h : ∀ c∈l,SmlC d c)(hl:l.length≤1048576):Sp 149 [.sl (l.map dC)] [dA (K2 l)]:=by
 refine Af (l.length+1) (Ads _ _) ?_
 simp only[Ai,Hq]
 refine Ad (Ad (A0 (by simp only[Am];omega) ?_))
 have key:=Ca l (fun m k (cs:List D)=>Vg (l.length+1) m (.sl (l.map dC)) cs (.sl (l.map dC)) (l.length:Int) (k:Int) 0) (fun _ _=>[dA (K2 l)])
  (fun rest cs=>∃ pre,l=pre++rest∧cs=pre.map dC++Apc rest.length (dC Cell.none))
  (fun m k cs hk hI=>by
   obtain ⟨pre,h1,rfl⟩:=hI
   simp only[OK,Ai]
   refine At (Ac ?_)
   rw[Apx]at h1
   rw[D5,K2];subst h1;simp[dI];rfl)
  (fun m k cs c rest hdr hI ih=>by
   obtain ⟨h1,h2,h3⟩:=B6 hdr
   obtain ⟨pre,hp,rfl⟩:=hI
   have hk:k=pre.length:=by
    have:=congrArg Aql hdr
    rw[hp]at this h1
    simp at this h1;omega
   simp only[OK,Ai,Aw h2,Bh k]
   repeat (refine Ad ?_)
   refine Aa (EP c (h c (Aph h2))) ?_
   have hlen:(pre.map dC++Apc (rest.length+1) (dC Cell.none)).length=l.length:=by rw[hp];simp
   rw[Apg,hlen]
   refine Ad (Ad ?_)
   rw[Ah,hk,M6,← hk]
   exact ih _ ⟨pre++[c],by rw[hp];simp,rfl⟩)
  (l.length+1) 0 (Apc l.length (dC Cell.none)) (by omega) (by omega) ⟨[],by simp,by simp⟩
 exact key
theorem Gz(a:Arr)(l:Al):Sp 90 [dA a,dB l] [dA (C2 a l)]:=by
 refine Af 0 (Adn _ _ _) ?_
 simp only[Ai]
 refine Aa (Ha a.s l) (Ac ?_)
 rw[D5];rfl
def Gj(c:Cell):Arr:=match c.inn with
 | [x]=>if c.kind=2 then C2 x c.l else .mk c.l [] [c]
 | _=> .mk c.l [] [c]
theorem Aju(c:Cell):C2 (Fd c) c.l = .mk c.l [] [c]:=by simp[C2,Fd]
theorem Un{c:Cell}(h : ¬ (c.kind=2∧c.inn.length=1)):Gj c = .mk c.l [] [c]:=by
 unfold Gj
 split
 · rename_i x hx
   rw[if_neg (fun hk=>h ⟨hk,by rw[hx];rfl⟩)]
 · rfl
theorem DI{c:Cell}{x:Arr}(h:c.kind=2)(hx:c.inn = [x]):Gj c=C2 x c.l:=by unfold Gj;rw[hx];simp[h]
theorem Is{α:Type}{l:List α}(h:l.length=1) : ∃ x,l = [x]:=by
 match l,h with
 | [x],_=>exact ⟨x,rfl⟩
theorem EO{d:Nat}(c:Cell)(h:SmlC d c):Sp 104 [dC c] [dA (Gj c)]:=by
 refine Af 0 (Adr _ _) ?_
 simp only[Ai]
 have other : ¬ (c.kind=2∧c.inn.length=1)→Tw (.call 178 [] [dC c] fun Y2=> .call 90 [] [qA Y2,dB c.l] fun Y3=> .ret [qA Y3]) [dA (Gj c)]:=fun hn=>by
  refine Aa (Rl c h) (Aa (Gz (Fd c) c.l) (Ac ?_))
  rw[Ah,Aju,Un hn]
 refine Ae (fun h1=>Ae (fun h2=> ?_) (fun h2=>other (by omega))) (fun h1=>other (by omega))
 obtain ⟨x,hx⟩:=Is (show c.inn.length=1 by omega)
 rw[DI h1 hx]
 simp only[hx,Ap7,List.map_nil,Apg,Apv,Ah]
 exact Ad (Ad (Aa (Gz x c.l) (Ac rfl)))
theorem Adt(a:Arr):Sp 213 [dA a] [.bool (decide (a.shape.length=0∧a.cells.length=1))]:=by
 refine Af 0 (Adu _ _) ?_
 simp only[Ai]
 refine Ae (fun h=>Ac ?_) (fun h=>Ac ?_)
 · congr 2;rw[decide_eq_decide];omega
 · rw[decide_eq_false (fun hh=>h (by omega))]
theorem OH(a:Arr):Sp 146 [dA a] [.bool (B9 a)]:=by
 refine Af 0 (Adp _ _) (Aa (Adt a) ?_)
 simp only[Ai]
 unfold B9
 refine Ae (fun h=> ?_) (fun h=>Ac ?_)
 · obtain ⟨c,hc⟩:=Is h.2
   have hs:=Ap2.1 h.1
   simp only[hc,hs,Ap7,List.map_nil,Apg,Apv,Ah,PZ,Ao]
   exact Ad (Ad (Ac rfl))
 · match hs:a.shape,hc:a.cells with
   | [],[c]=>rw[hs,hc]at h;simp at h
   | x::xs,_=>rfl
   | [],[]=>rfl
   | [],x::y::xs=>rfl
theorem Aev(l:Al)(a:Arr):D.agg [dB l,D.int 2,D.agg [D.bool false,D.sl [],D.sl []],D.int 0,D.sl [dA a]]=dC ⟨l,2,.zero,0,[a]⟩:=by rw[Ec];rfl
mutual
def Ge(g:Al→Al):Arr→Arr
 | .mk s sh cs=> .mk (g s) sh (Tp g cs)
def Tp(g:Al→Al):List (CellF Arr)→List (CellF Arr)
 | []=>[]
 | c::cs=>Ff g c::Tp g cs
def Ff(g:Al→Al):CellF Arr→CellF Arr
 | ⟨l,k,n,c,inn⟩=>⟨g l,k,n,c,To g inn⟩
def To(g:Al→Al):List Arr→List Arr
 | []=>[]
 | a::as_=>Ge g a::To g as_
end
theorem Aam(g:Al→Al) : ∀ cs,Tp g cs=cs.map (Ff g)
 | []=>by simp[Tp]
 | c::cs=>by simp[Tp,Aam g cs]
theorem Aal(g:Al→Al) : ∀ as_,To g as_=as_.map (Ge g)
 | []=>by simp[To]
 | a::as_=>by simp[To,Aal g as_]
theorem Oi(g:Al→Al)(a:Arr):Ge g a = .mk (g a.s) a.shape (a.cells.map (Ff g)):=by cases a;simp[Ge,Aam]
theorem AX(g:Al→Al)(c:Cell):Ff g c=⟨g c.l,c.kind,c.n,c.c,c.inn.map (Ge g)⟩:=by cases c;simp[Ff,Aal]
def We(a:Arr):Arr:=Ge (fun _=>0) a
noncomputable def Xw(a b:Arr):Bool:=Ik (We a) (We b)
theorem BI{α β:Type}{P:Program}{md:Nat→FMode}(φ:α→β)(a b:List α)(e:α→α→Bool)(he : ∀ x∈a,∀ y,e x y=true↔φ x=φ y)(hlen:a.length=b.length)(r:Bool)(hr:r=true↔a.map φ=b.map φ)(L:Nat→Nat→Tree)
  (hend : ∀ m,∀ Q:List D→Prop,Q [.bool true]→(L (m+1) a.length).wp P md Q)
  (hstep : ∀ m k x y,∀ Q:List D→Prop,a[k]? = some x→b[k]? = some y→(e x y=false→Q [.bool false])→(e x y=true→(L m (k+1)).wp P md Q)→(L (m+1) k).wp P md Q) (N:Nat) (hN:a.length<N):(L N 0).wp P md (fun zs=>zs = [.bool r]):=by
 have key:=Xs (P:=P) (md:=md) a.length (fun m k (_:Unit)=>L m k) (fun _ _=>[.bool r]) (fun k _=>(a.take k).map φ=(b.take k).map φ)
  (fun m s h=>by
   refine hend m _ ?_
   rw[Ap_ (Apo _),Ap_ (by omega)]at h
   rw[hr.2 h])
  (fun m k s hk h ih=>by
   have ha:a[k]? = some a[k]:=Apb _
   have hb:b[k]? = some (b[k]'(by omega)):=Apb _
   refine hstep m k _ _ _ ha hb (fun hf=> ?_) (fun ht=>ih () ?_)
   · have:r=false:=by
      cases hrr:r with
      | false=>rfl
      | true =>
       have h2:=hr.1 hrr
       have h3:(a.map φ)[k]? = (b.map φ)[k]? := by rw[h2]
       rw[Aps,Aps,ha,hb]at h3
       have h4:φ a[k]=φ b[k]:=by simpa using h3
       rw[(he a[k] (Aqc _) _).2 h4]at hf;cases hf
     rw[this]
   · have:φ a[k]=φ b[k]:=(he a[k] (Aqc _) _).1 ht
     rw[List.take_succ_eq_append_getElem hk,List.take_succ_eq_append_getElem (by omega),List.map_append,List.map_append,h]
     simp[this])
  N 0 () (by omega) (by omega) (by simp)
 exact key
def gl(lb:Bool)(l:Al):Al:=if lb then l else 0
noncomputable def Nr(lb:Bool)(a b:Arr):Bool:=Ik (Ge (gl lb) a) (Ge (gl lb) b)
noncomputable def Pg(lb:Bool)(a b:Cell):Bool:=Jd (Ff (gl lb) a) (Ff (gl lb) b)
noncomputable def pd(p:Prop):Bool:= @decide p (Classical.propDecidable _)
theorem Ze{p:Prop} : pd p=true↔p:= @decide_eq_true_iff _ (Classical.propDecidable _)
theorem WS{p:Prop}(h : ¬ p):pd p=false:= @decide_eq_false _ (Classical.propDecidable _) h
theorem AfO{o x:Nat}{z:Int}(h:z=(x:Int)):(if (o:Int)<z then z else (o:Int))=((max o x:Nat):Int):=by subst h;split <;> omega
theorem QO{lb:Bool}{a b:Arr} : Nr lb a b=true↔Ge (gl lb) a=Ge (gl lb) b:=Mf
theorem QN{lb:Bool}{a b:Cell} : Pg lb a b=true↔Ff (gl lb) a=Ff (gl lb) b:=Nq
theorem R2{lb:Bool}{a b:Cell} : Pg lb a b=true↔(gl lb a.l=gl lb b.l∧a.kind=b.kind∧a.c=b.c∧a.n=b.n∧a.inn.map (Ge (gl lb))=b.inn.map (Ge (gl lb))):=by rw[QN,AX,AX,FJ]
theorem GK{lb:Bool}{a b:Arr} : Nr lb a b=true↔(gl lb a.s=gl lb b.s∧a.shape=b.shape∧a.cells.map (Ff (gl lb))=b.cells.map (Ff (gl lb))):=by rw[QO,Oi,Oi,U9];simp
theorem G4{b:Bool}(h : ¬ b=true):b=false:=by cases b with | false=>rfl | true=>exact absurd rfl h
theorem OL(lb:Bool) : ∀ (d:Nat) (a b:Arr),Sml d a→Sp 232 [dA a,dA b,.bool lb] [.bool (Nr lb a b)]
 | 0,_,_,h=>h.elim
 | d+1,a,b,h=>by
  have hcell : ∀ (x y:Cell),SmlC d x→D_ Tryz.prog md 273 [.ref 4] [dC x,dC y,D.ref (.bool lb)] [.bool (Pg lb x y)]:=fun x y hx=>by
    have hlx:=hx.2.2.1
    have hinn:Sp 275 [.sl (x.inn.map dA),.sl (y.inn.map dA),D.fn 276 [.ref 4] [D.ref (.bool lb)]] [.bool (pd (x.inn.map (Ge (gl lb))=y.inn.map (Ge (gl lb))))]:=by
      refine Af (x.inn.length+1) (Am6 _ _ _ _) ?_
      simp only[Ai]
      refine Ae (fun h=>Ac ?_) (fun h=> ?_)
      · rw[WS]
        intro hh;have:=congrArg Aql hh;simp at this;omega
      · refine BI (P:=Tryz.prog) (md:=md) (Ge (gl lb)) x.inn y.inn (Nr lb) (fun p _ q=>QO) (by omega) _ Ze (fun m k=>CA (x.inn.length+1) m (.sl (y.inn.map dA)) (D.fn 276 [.ref 4] [D.ref (.bool lb)]) (.sl (x.inn.map dA)) (x.inn.length:Int) (k:Int)) ?_ ?_ (x.inn.length+1) (by omega)
        · intro m Q hQ
          simp only[Ab0,Ai]
          exact At (Ac hQ)
        · intro m k p q Q hp hq hF hT
          have hk:k<x.inn.length:=(Apf.1 hp).1
          have hk':k<y.inn.length:=(Apf.1 hq).1
          simp only[Ab0,Ai,Aw hp,Aw hq,Bh k,Hu,Hs,Ht,List.cons_append,Aqp]
          repeat (refine Ad ?_)
          refine Aa (ys:=[.bool (Nr lb p q)]) (Af 0 (Adv _ _ _ _) (Aa (OL lb d p q (hx.2.2.2 p (Aph hp))) (Ac rfl))) ?_
          simp only[Ah,Ba]
          exact B7 (fun h=>Ac (hF (by simpa using h))) (fun h=>hT (by simpa using h))
    have fin : ∀ (hl:gl lb x.l=gl lb y.l),Tw (.br (decide (¬ x.kind=y.kind)) (.ret [D.bool false]) (.br (decide (¬ x.c=y.c)) (.ret [D.bool false]) (.call 274 [] [dN x.n,dN y.n] fun Y1=> .br (!((qA Y1).toBool)) (.ret [D.bool false]) (.call 275 [] [.sl (x.inn.map dA),.sl (y.inn.map dA),D.fn 276 [.ref 4] [D.ref (.bool lb)]] fun Y2=> .ret [D.bool ((qA Y2).toBool)])))) [.bool (Pg lb x y)]:=fun hl=>by
      refine Ae (fun h=>Ac ?_) (fun h2=>Ae (fun h=>Ac ?_) (fun h3=>Aa (AjG x.n y.n hx.fits.1 hx.fits.2.1) ?_))
      · rw[G4 (fun hh=>h (R2.1 hh).2.1)]
      · rw[G4 (fun hh=>h (R2.1 hh).2.2.1)]
      simp only[Ah,Ba,E0]
      refine Ae (fun h=>Ac ?_) (fun h4=>Aa hinn (Ac ?_))
      · rw[G4 (fun hh=>h (R2.1 hh).2.2.2.1)]
      · simp only[Ah,Ba]
        congr 2
        rw[Bool.eq_iff_iff,R2,Ze]
        exact ⟨fun hh=>⟨hl,Apm.1 h2,Apm.1 h3,Apm.1 h4,hh⟩,fun hh=>hh.2.2.2.2⟩
    refine Af 0 (Adw _ _ _ _) ?_
    simp only[Ai,DJ]
    refine B7 (fun hb=>Ae (fun h=>Ac ?_) (fun h1=>fin ?_)) (fun hb=>fin ?_)
    · have hf:Pg lb x y=false:=G4 (fun hh=>h (by
        have:=(R2.1 hh).1
        simp only[gl,hb,if_true]at this
        rw[this]))
      rw[hf]
    · simp only[gl,hb,if_true];exact BitVec.eq_of_toNat_eq (by omega)
    · simp[gl,hb]
  have hcells:Sp 272 [.sl (a.cells.map dC),.sl (b.cells.map dC),D.fn 273 [.ref 4] [D.ref (.bool lb)]] [.bool (pd (a.cells.map (Ff (gl lb))=b.cells.map (Ff (gl lb))))]:=by
    have hla:=h.2.1
    refine Af (a.cells.length+1) (Am7 _ _ _ _) ?_
    simp only[Ai]
    refine Ae (fun h=>Ac ?_) (fun h'=> ?_)
    · rw[WS]
      intro hh;have:=congrArg Aql hh;simp at this;omega
    · refine BI (P:=Tryz.prog) (md:=md) (Ff (gl lb)) a.cells b.cells (Pg lb) (fun p _ q=>QN) (by omega) _ Ze (fun m k=>CC (a.cells.length+1) m (.sl (b.cells.map dC)) (D.fn 273 [.ref 4] [D.ref (.bool lb)]) (.sl (a.cells.map dC)) (a.cells.length:Int) (k:Int)) ?_ ?_ (a.cells.length+1) (by omega)
      · intro m Q hQ
        simp only[Ab1,Ai]
        exact At (Ac hQ)
      · intro m k p q Q hp hq hF hT
        have hk:k<a.cells.length:=(Apf.1 hp).1
        have hk':k<b.cells.length:=(Apf.1 hq).1
        simp only[Ab1,Ai,Aw hp,Aw hq,Bh k,Hu,Hs,Ht,List.cons_append,Aqp]
        repeat (refine Ad ?_)
        refine Aa (hcell p q (h.cell p (Aph hp))) ?_
        simp only[Ah,Ba]
        exact B7 (fun h=>Ac (hF (by simpa using h))) (fun h=>hT (by simpa using h))
  have fin : ∀ (hl:gl lb a.s=gl lb b.s),Tw (.call 234 [] [dI a.shape,dI b.shape] fun Y1=> .br (!((qA Y1).toBool)) (.ret [D.bool false]) (.call 272 [] [.sl (a.cells.map dC),.sl (b.cells.map dC),D.fn 273 [.ref 4] [D.ref (.bool lb)]] fun Y2=> .ret [D.bool ((qA Y2).toBool)])) [.bool (Nr lb a b)]:=fun hl=>by
    refine Aa (Ab2 a.shape b.shape (by have:=h.1;omega)) ?_
    simp only[Ah,Ba,E0]
    refine Ae (fun h=>Ac ?_) (fun h1=>Aa hcells (Ac ?_))
    · rw[G4 (fun hh=>h (GK.1 hh).2.1)]
    · simp only[Ah,Ba]
      congr 2
      rw[Bool.eq_iff_iff,GK,Ze]
      exact ⟨fun hh=>⟨hl,Apm.1 h1,hh⟩,fun hh=>hh.2.2⟩
  refine Af 0 (Adx _ _ _ _) ?_
  simp only[Ai]
  refine B7 (fun hb=>Ae (fun h=>Ac ?_) (fun h1=>fin ?_)) (fun hb=>fin ?_)
  · have hf:Nr lb a b=false:=G4 (fun hh=>h (by
      have:=(GK.1 hh).1
      simp only[gl,hb,if_true]at this
      rw[this]))
    rw[hf]
  · simp only[gl,hb,if_true];exact BitVec.eq_of_toNat_eq (by omega)
  · simp[gl,hb]
theorem OG{d:Nat}(a b:Arr)(h:Sml d a):Sp 179 [dA a,dA b] [.bool (Xw a b)]:=Af 0 (Adl _ _ _) (Aa (OL false d a b h) (Ac rfl))
mutual
def G5:Arr→Nat
 | .mk s sh cs=>if B9 (.mk s sh cs) then 0 else Fm cs+1
def Fm:List (CellF Arr)→Nat
 | []=>0
 | c::cs=>max (V9 c) (Fm cs)
def V9:CellF Arr→Nat
 | ⟨_,_,_,_,inn⟩=>Ii inn
def Ii:List Arr→Nat
 | []=>0
 | a::as_=>max (G5 a) (Ii as_)
end
theorem QC(a:Arr):G5 a=if B9 a then 0 else Fm a.cells+1:=by cases a;rw[G5];rfl
theorem GC(c:Cell):V9 c=Ii c.inn:=by cases c;rw[V9]
theorem GE{k:Nat} : ∀ {cs:List Cell},(∀ c∈cs,V9 c≤k)→Fm cs≤k
 | [],_=>by rw[Fm];omega
 | c::cs,h=>by
  have h1:=h c (by simp)
  have h2:=GE (fun x hx=>h x (List.mem_cons_of_mem _ hx))
  rw[Fm];omega
theorem GA{k:Nat} : ∀ {as_:List Arr},(∀ a∈as_,G5 a≤k)→Ii as_≤k
 | [],_=>by rw[Ii];omega
 | a::as_,h=>by
  have h1:=h a (by simp)
  have h2:=GA (fun x hx=>h x (List.mem_cons_of_mem _ hx))
  rw[Ii];omega
theorem V8 : ∀ {d:Nat} {a:Arr},Sml d a→G5 a≤d
 | 0,_,h=>h.elim
 | d+1,a,h=>by
  rw[QC]
  have:Fm a.cells≤d:=GE (fun c hc=>by rw[GC];exact GA (fun x hx=>V8 ((h.cell c hc).2.2.2 x hx)))
  split <;> omega
theorem EN : ∀ (d:Nat) (a:Arr),d≤10000000→Sml d a→Sp 147 [dA a] [.int (G5 a:Int)]
 | 0,_,_,h=>h.elim
 | d+1,a,hd,h=>by
  have hl:=h.2.1
  refine Af 1048577 (Adh _ _) (Aa (OH a) ?_)
  rw[QC]
  simp only[Ai]
  refine B7 (fun hs=>Ac (by rw[if_pos hs];rfl)) (fun hs=> ?_)
  rw[if_neg (by simp[hs])]
  have hb:Fm a.cells≤d:=GE (fun c hc=>by rw[GC];exact GA (fun x hx=>V8 ((h.cell c hc).2.2.2 x hx)))
  have key:=Ca a.cells (fun m k (o:Nat)=>U_ 1048577 m (o:Int) (.sl (a.cells.map dC)) (a.cells.length:Int) (k:Int)) (fun rest o=>[.int ((max o (Fm rest)+1:Nat):Int)]) (fun rest o=>max o (Fm rest)≤d)
   (fun m k o hk hI=>by
    simp only[OD,Ai]
    refine At (Ac ?_)
    rw[Fm]at hI ⊢
    rw[Ax (by omega) (by omega),show max o 0=o by omega];rfl)
   (fun m k o c rest hdr hI ih=>by
    obtain ⟨h1,h2,h3⟩:=B6 hdr
    have hc:=h.cell c (Aph h2)
    have hlc:=hc.2.2.1
    simp only[OD,Ai,Aw h2]
    repeat (refine Ad ?_)
    rw[Fm,GC]at hI ⊢
    have key:=Ca c.inn (fun m' j (o:Nat)=>Va 1048577 m m' (o:Int) (.sl (a.cells.map dC)) (a.cells.length:Int) (k:Int) (.sl (c.inn.map dA)) (c.inn.length:Int) (j:Int)) (fun rest' o=>[.int ((max o (max (Ii rest') (Fm rest))+1:Nat):Int)]) (fun rest' o=>max o (max (Ii rest') (Fm rest))≤d)
     (fun m' j o hj hI'=>by
      simp only[OE,Ai,Bh k]
      rw[Ii]at hI' ⊢
      refine At ?_
      have:=ih o (by omega)
      rw[show max o (max 0 (Fm rest))=max o (Fm rest) by omega]
      exact this)
     (fun m' j o x rest' hdr' hI' ih'=>by
      obtain ⟨g1,g2,g3⟩:=B6 hdr'
      simp only[OE,Ai,Aw g2,Bh j]
      repeat (refine Ad ?_)
      refine Aa (EN d x (by omega) (hc.2.2.2 x (Aph g2))) ?_
      rw[Ii]at hI' ⊢
      have:=ih' (max o (G5 x)) (by omega)
      rw[show max o (max (max (G5 x) (Ii rest')) (Fm rest))=max (max o (G5 x)) (max (Ii rest') (Fm rest)) by omega]
      rw[AfO (x:=G5 x) (z:=(qA [D.int (G5 x:Int)]).toInt) rfl]
      exact this)
     1048577 0 o (by omega) (by omega) hI
    exact key)
   1048577 0 0 (by omega) (by omega) (by simpa using hb)
  refine Tree.wp_mono key (fun ys hy=>hy.trans ?_)
  simp
theorem Alj(n:Nat)(nn0 s1:D):fA [] n 32 [] [nn0,s1] =
 cK 78 [D.int nn0.toInt] fun Y1 =>
 .ret [D.agg [D.int s1.toInt,D.sl [],D.sl [qA Y1]]]:=by kernel_rfl
def AW:List (Nat×Orc):=[(3,⟨[(0,some 23),(4,none),(5,none),(6,none)],[(4,false),(5,false)],[(.fld 5 [1],1030,3),(.fld 5 [2],1031,67)]⟩)]
noncomputable def AV(n m3:Nat)(l0:D)(i6 t4_0 out5_0:Int)(out5_1 out5_2:List D):Tree :=
 lA (eA AW n 33 [1,1,0,1,0,0]) (An AW 3) m3 ⟨(.d 23 l0::uA 3++(.ptr 4 []:: .ptr 5 []:: .i .i64 i6::uA 22)),[(4,.var 26 (.agg 26 [.i .u64 t4_0,.mt,.mt]) true),(5,.var 26 (.agg 26 [.i .u64 out5_0,.row 1030,.row 1031]) true),(1030,.row 3 out5_1 true),(1031,.row 67 out5_2 true)],[4,5,1030,1031],[],[]⟩
  (Ak 0 (Aq (jA AW n 33 [1,1,1]) (rA 33 [23,22] [.cell 4 26] [26])))
theorem Aak(n m3:Nat)(l0:D)(i6 t4_0 out5_0:Int)(out5_1 out5_2:List D):AV n (m3+1) l0 i6 t4_0 out5_0 out5_1 out5_2 =
 bK (i6<(l0.els.length:Int)) (kK (0≤i6) (kK (i6<(l0.els.length:Int)) (cK 78 [D.int ((l0.els.getD (Apa i6) D.nil).toInt)] fun Y1 =>
 kK (out5_2.length + [qA Y1].length≤Am) (AV n m3 l0 (Aom .i64 (i6+1)) t4_0 out5_0 out5_1 (out5_2++[qA Y1])))))
 (.ret [D.agg [D.int out5_0,D.sl out5_1,D.sl out5_2]]):=by kernel_rfl
theorem All(n:Nat)(l0 s1:D):fA AW n 33 [] [l0,s1] =
 AV n n l0 0 0 s1.toInt [D.int (l0.els.length:Int)] []:=by kernel_rfl
def X3:List (Nat×Orc):=[(12,⟨[(2,none),(3,none),(4,none),(6,some 23),(9,some 24),(10,none),(41,none),(42,none)],[(2,true),(3,true),(4,false)],[(.slot 10,1120,67)]⟩)]
noncomputable def P9(n m12:Nat)(of6 from9:D)(cells10:List D)(t41 t42:Int)(nn2 a3:D)(t4_0:Int):Tree :=
 lA (eA X3 n 35 [1,1,1,1,1,1,1,1,0,1,0,0]) (An X3 12) m12 ⟨(.undef:: .undef:: .ptr 2 []:: .ptr 3 []:: .ptr 4 []:: .undef:: .d 23 of6:: .undef:: .undef:: .d 24 from9:: .row 1120::uA 30++(.i .i64 t41:: .i .i64 t42::uA 21)),[(2,.var 26 (.d 26 nn2) true),(3,.var 26 (.d 26 a3) true),(4,.var 26 (.agg 26 [.i .u64 t4_0,.mt,.mt]) true),(1120,.row 67 cells10 true)],[2,3,4,1120],[],[]⟩
  (Ak 0 (Aq (jA X3 n 35 [1,1,1,1,1,1,1,1,1]) (rA 35 [26,26] [.cell 4 26,.tmp 5] [26,29])))
theorem UV(n m12:Nat)(of6 from9:D)(cells10:List D)(t41 t42:Int)(nn2 a3:D)(t4_0:Int):P9 n (m12+1) of6 from9 cells10 t41 t42 nn2 a3 t4_0 =
 bK (t42<t41) (.br (!((from9.els.length:Int)==(0:Int))) (kK (0≤Int.tmod t42 (from9.els.length:Int)) (kK (Int.tmod t42 (from9.els.length:Int)<(from9.els.length:Int)) (kK (0≤t42) (kK (t42<(cells10.length:Int)) (P9 n m12 of6 from9 (cells10.set (Apa t42) (from9.els.getD (Apa (Int.tmod t42 (from9.els.length:Int))) D.nil)) t41 (Aom .i64 (t42+1)) nn2 a3 t4_0))))) .fail)
 (cK 84 [nn2] fun Y4 =>
 cK 83 [D.int ((a3.fld 0).toInt),D.int ((qA Y4).toInt)] fun Y5 =>
 .ret [D.agg [D.int ((qA Y5).toInt),of6,D.sl cells10],D.int 0]):=by kernel_rfl
theorem Ahb(n:Nat)(nn0 a1:D):fA X3 n 35 [] [nn0,a1] =
 cK 80 [nn0] fun Y1 =>
 .br (((qB Y1).toInt)!=0) (.ret [D.agg [D.int 0,D.sl [],D.sl []],D.int ((qB Y1).toInt)])
 (cK 81 [qA Y1] fun Y2 =>
 .br (((qB Y2).toInt)!=0) (.ret [D.agg [D.int 0,D.sl [],D.sl []],D.int ((qB Y2).toInt)])
 (.br ((((a1.fld 2).els).length:Int)==0) (cK 82 [a1] fun Y3 =>
 kK (0≤(qA Y2).toInt) (kK ((qA Y2).toInt≤(qA Y2).toInt) (kK ((qA Y2).toInt≤Am) (P9 n n (qA Y1) (D.sl [qA Y3]) (Apc (Apa ((qA Y2).toInt)) (D.agg [D.int 0,D.int 0,D.agg [D.bool false,D.sl [],D.sl []],D.int 0,D.sl []])) ((Apc (Apa ((qA Y2).toInt)) (D.agg [D.int 0,D.int 0,D.agg [D.bool false,D.sl [],D.sl []],D.int 0,D.sl []])).length:Int) 0 nn0 a1 0))))
 (kK (0≤(qA Y2).toInt) (kK ((qA Y2).toInt≤(qA Y2).toInt) (kK ((qA Y2).toInt≤Am) (P9 n n (qA Y1) (a1.fld 2) (Apc (Apa ((qA Y2).toInt)) (D.agg [D.int 0,D.int 0,D.agg [D.bool false,D.sl [],D.sl []],D.int 0,D.sl []])) ((Apc (Apa ((qA Y2).toInt)) (D.agg [D.int 0,D.int 0,D.agg [D.bool false,D.sl [],D.sl []],D.int 0,D.sl []])).length:Int) 0 nn0 a1 0)))))):=by kernel_rfl
def X5:List (Nat×Orc):=[(3,⟨[(1,none),(2,none),(3,none),(11,some 23),(12,none),(13,none)],[(1,true),(2,false)],[(.slot 3,1030,67)]⟩)]
noncomputable def X4(n m3:Nat)(cells3:List D)(t11:D)(t12 t13:Int)(a1:D)(t2_0:Int):Tree :=
 lA (eA X5 n 56 [1,1,0,1,0,0]) (An X5 3) m3 ⟨(.undef:: .ptr 1 []:: .ptr 2 []:: .row 1030::uA 7++(.d 23 t11:: .i .i64 t12:: .i .i64 t13::uA 17)),[(1,.var 26 (.d 26 a1) true),(2,.var 26 (.agg 26 [.i .u64 t2_0,.mt,.mt]) true),(1030,.row 67 cells3 true)],[1,2,1030],[],[]⟩
  (Ak 0 (Aq (jA X5 n 56 [1,1,1]) (rA 56 [26] [.cell 2 26] [26])))
theorem UX(n m3:Nat)(cells3:List D)(t11:D)(t12 t13:Int)(a1:D)(t2_0:Int):X4 n (m3+1) cells3 t11 t12 t13 a1 t2_0 =
 bK (t13<t12) (kK (0≤t13) (kK (t13<(t11.els.length:Int)) (cK 138 [D.int ((t11.els.getD (Apa t13) D.nil).toInt)] fun Y1 =>
 kK (0≤t13) (kK (t13<(cells3.length:Int)) (X4 n m3 (cells3.set (Apa t13) (qA Y1)) t11 t12 (Aom .i64 (t13+1)) a1 t2_0)))))
 (.ret [D.agg [D.int ((a1.fld 0).toInt),D.sl [D.int (cells3.length:Int)],D.sl cells3]]):=by kernel_rfl
theorem Ahd(n:Nat)(a0:D):fA X5 n 56 [] [a0] =
 kK (0≤(((a0.fld 1).els).length:Int)) (kK ((((a0.fld 1).els).length:Int)≤(((a0.fld 1).els).length:Int)) (kK ((((a0.fld 1).els).length:Int)≤Am) (X4 n n (Apc (Apa (((a0.fld 1).els).length:Int)) (D.agg [D.int 0,D.int 0,D.agg [D.bool false,D.sl [],D.sl []],D.int 0,D.sl []])) (a0.fld 1) (((a0.fld 1).els).length:Int) 0 a0 0))):=by kernel_rfl
theorem AgZ(n:Nat)(a0:D):fA [] n 57 [] [a0] =
 cK 139 [a0.fld 2] fun Y1 =>
 .ret [D.agg [D.int ((a0.fld 0).toInt),D.sl [D.int (((a0.fld 2).els).length:Int)],D.sl ((qA Y1).els)]]:=by kernel_rfl
theorem AgS(n:Nat)(a0:D):fA [] n 61 [] [a0] =
 cK 146 [a0] fun Y1 =>
 .br ((qA Y1).toBool) (.ret [a0,D.int 0])
 (cK 147 [a0] fun Y2 =>
 bK (8<((qA Y2).toInt)) (.ret [D.agg [D.int 0,D.sl [],D.sl []],D.int 7])
 (.br ((((a0.fld 1).els).length:Int)==0) (bK (0<(((a0.fld 2).els).length:Int)) (kK (0≤0) (kK (0<(((a0.fld 2).els).length:Int)) (.ret [D.agg [D.int ((a0.fld 0).toInt),D.sl [],D.sl [D.agg [D.int (((((a0.fld 2).els).getD (Apa 0) D.nil).fld 0).toInt),D.int 2,D.agg [D.bool false,D.sl [],D.sl []],D.int 0,D.sl [a0]]]],D.int 0])))
 (.ret [D.agg [D.int ((a0.fld 0).toInt),D.sl [],D.sl [D.agg [D.int 0,D.int 2,D.agg [D.bool false,D.sl [],D.sl []],D.int 0,D.sl [a0]]]],D.int 0]))
 (.ret [D.agg [D.int ((a0.fld 0).toInt),D.sl [],D.sl [D.agg [D.int 0,D.int 2,D.agg [D.bool false,D.sl [],D.sl []],D.int 0,D.sl [a0]]]],D.int 0]))):=by kernel_rfl
theorem AgW(n:Nat)(a0:D):fA [] n 62 [] [a0] =
 cK 82 [a0] fun Y1 =>
 bK (0<(((a0.fld 2).els).length:Int)) (kK (0≤0) (kK (0<(((a0.fld 2).els).length:Int)) (cK 104 [((a0.fld 2).els).getD (Apa 0) D.nil] fun Y2 =>
 cK 90 [qA Y2,D.int ((a0.fld 0).toInt)] fun Y3 =>
 .ret [qA Y3])))
 (cK 104 [qA Y1] fun Y4 =>
 cK 90 [qA Y4,D.int ((a0.fld 0).toInt)] fun Y5 =>
 .ret [qA Y5]):=by kernel_rfl
theorem AgQ(n:Nat)(a0:D):fA [] n 63 [] [a0] =
 cK 147 [a0] fun Y1 =>
 cK 84 [a0] fun Y2 =>
 cK 148 [D.int ((qA Y1).toInt),D.int ((qA Y2).toInt)] fun Y3 =>
 .ret [qA Y3]:=by kernel_rfl
theorem Ahf(n:Nat)(a0:D):fA [] n 64 [] [a0] =
 .br ((((a0.fld 1).els).length:Int)==0) (cK 148 [D.int 1,D.int ((a0.fld 0).toInt)] fun Y1 =>
 .ret [qA Y1])
 (kK (0≤0) (kK (0<(((a0.fld 1).els).length:Int)) (cK 148 [D.int ((((a0.fld 1).els).getD (Apa 0) D.nil).toInt),D.int ((a0.fld 0).toInt)] fun Y2 =>
 .ret [qA Y2]))):=by kernel_rfl
theorem AgU(n:Nat)(a0:D):fA [] n 66 [] [a0] =
 cK 150 [D.sl [],a0] fun Y1 =>
 .br (!((qB Y1).toBool)) (.ret [D.agg [D.int 0,D.sl [],D.sl []],D.int 7])
 (cK 84 [a0] fun Y2 =>
 .ret [D.agg [D.int ((qA Y2).toInt),D.sl [D.int (((qA Y1).els).length:Int)],D.sl ((qA Y1).els)],D.int 0]):=by kernel_rfl
theorem AgX(n:Nat)(a0 b1 same2:D):fA [] n 105 [] [a0,b1,same2] =
 cK 179 [a0,b1] fun Y1 =>
 .br (((qA Y1).toBool)==same2.toBool) (cK 84 [a0] fun Y2 =>
 cK 84 [b1] fun Y3 =>
 cK 83 [D.int ((qA Y2).toInt),D.int ((qA Y3).toInt)] fun Y4 =>
 cK 148 [D.int 1,D.int ((qA Y4).toInt)] fun Y5 =>
 .ret [qA Y5])
 (cK 84 [a0] fun Y6 =>
 cK 84 [b1] fun Y7 =>
 cK 83 [D.int ((qA Y6).toInt),D.int ((qA Y7).toInt)] fun Y8 =>
 cK 148 [D.int 0,D.int ((qA Y8).toInt)] fun Y9 =>
 .ret [qA Y9]):=by kernel_rfl
theorem Ahh(n:Nat)(nn0 s1:D):fA [] n 148 [] [nn0,s1] =
 cK 138 [D.int nn0.toInt] fun Y1 =>
 cK 178 [qA Y1] fun Y2 =>
 cK 90 [qA Y2,D.int s1.toInt] fun Y3 =>
 .ret [qA Y3]:=by kernel_rfl
def It:List (Nat×Orc):=[(2,⟨[(0,none),(12,some 24),(13,none),(14,none)],[],[(.slot 0,1020,67)]⟩),(9,⟨[(0,none),(12,some 24),(13,none),(14,none),(29,some 65),(30,none),(31,none)],[],[(.slot 0,1090,67)]⟩)]
def IY:List ResultVar:=[.tmp 4,.tmp 5]
noncomputable def X6(n m2 m9:Nat)(cells0:List D)(t12:D)(t13 t14:Int)(t29:D)(t30 t31:Int):Tree :=
 lA (eA It n 150 [1,0,1,0,0,1,1,0,0,1,1,1,0,0]) (An It 9) m9 ⟨(.row 1090::uA 11++(.d 24 t12:: .i .i64 t13:: .i .i64 t14::uA 14++(.d 65 t29:: .i .i64 t30:: .i .i64 t31::uA 14))),[(1090,.row 67 cells0 true)],[1090],[],[]⟩
  (Ak 2 (Ak 1 (Aq (jA It n 150 [1,0,1,0,0,1,1,1]) (Gb Tryz.prog md (An It 2) (fun s1=>lA (eA It n 150 [1,0,1,0,0]) (An It 2) m2 s1 (Ak 0 (Aq (jA It n 150 [1,1]) (rA 150 [24,26] IY [24,4])))) (Ak 0 (Aq (jA It n 150 [1,1]) (rA 150 [24,26] IY [24,4])))))))
noncomputable def Sz(n m2:Nat)(cells0:List D)(t12:D)(t13 t14:Int):Tree :=
 lA (eA It n 150 [1,0,1,0,0]) (An It 2) m2 ⟨(.row 1020::uA 11++(.d 24 t12:: .i .i64 t13:: .i .i64 t14::uA 31)),[(1020,.row 67 cells0 true)],[1020],[],[]⟩
  (Ak 0 (Aq (jA It n 150 [1,1]) (rA 150 [24,26] IY [24,4])))
theorem UZ(n m2 m9:Nat)(cells0:List D)(t12:D)(t13 t14:Int)(t29:D)(t30 t31:Int):X6 n m2 (m9+1) cells0 t12 t13 t14 t29 t30 t31 =
 bK (t31<t30) (kK (0≤t31) (kK (t31<(t29.els.length:Int)) (cK 150 [D.sl cells0,t29.els.getD (Apa t31) D.nil] fun Y1 =>
 .br (!((qB Y1).toBool)) (.ret [D.sl [],D.bool false])
 (X6 n m2 m9 ((qA Y1).els) t12 t13 t14 t29 t30 (Aom .i64 (t31+1))))))
 (Sz n m2 cells0 t12 t13 (Aom .i64 (t14+1))):=by kernel_rfl
theorem UY(n m2:Nat)(cells0:List D)(t12:D)(t13 t14:Int):Sz n (m2+1) cells0 t12 t13 t14 =
 bK (t14<t13) (kK (0≤t14) (kK (t14<(t12.els.length:Int)) (.br ((((t12.els.getD (Apa t14) D.nil).fld 1).toInt)!=2) (.br ((cells0.length:Int)==2048) (.ret [D.sl [],D.bool false])
 (kK (cells0.length + [t12.els.getD (Apa t14) D.nil].length≤Am) (Sz n m2 (cells0++[t12.els.getD (Apa t14) D.nil]) t12 t13 (Aom .i64 (t14+1)))))
 (X6 n m2 n cells0 t12 t13 t14 ((t12.els.getD (Apa t14) D.nil).fld 4) ((((t12.els.getD (Apa t14) D.nil).fld 4).els).length:Int) 0))))
 (.ret [D.sl cells0,D.bool true]):=by kernel_rfl
theorem Ahg(n:Nat)(cells0 a1:D):fA It n 150 [] [cells0,a1] =
 Sz n n cells0.els (a1.fld 2) (((a1.fld 2).els).length:Int) 0:=by kernel_rfl
def Db(l:List Int)(s:Al):Arr:= .mk s [(l.length:Int)] (l.map Bf)
def Do(n:Int)(s:Al):Arr:= .mk s [] [Bf n]
theorem Alk(l:List Int)(s:Al)(hl:l.length≤100000)(hr : ∀ x∈l,Bd x):Sp 33 [dI l,dB s] [dA (Db l s)]:=by
 refine Af (l.length+1) (All _ _ _) ?_
 simp only[Ai]
 have key:=Ca l (fun m k (out:List Cell)=>AV (l.length+1) m (dI l) (k:Int) 0 (s.toNat:Int) [D.int (l.length:Int)] (out.map dC)) (fun rest out=>[dA (.mk s [(l.length:Int)] (out++rest.map Bf))]) (fun rest out=>out.length+rest.length≤100000)
  (fun m k out hk _=>by
   simp only[Aak,Ai]
   refine At (Ac ?_)
   rw[D5];simp;rfl)
  (fun m k out x rest hdr hI ih=>by
   obtain ⟨h1,h2,h3⟩:=B6 hdr
   have hm:=Aph h2
   simp only[Aak,Ai,Aw h2,Bh k]
   repeat (refine Ad ?_)
   refine Aa (ZT x (hr x hm)) (A0 ?_ ?_)
   · simp only[Apg,Apv,Am,Apd]at hI ⊢; omega
   · have:=ih (out++[Bf x]) (by simp only[Apn,Apg,Apv]at hI ⊢; omega)
     rw[List.map_append]at this
     refine Tree.wp_mono this (fun ys hy=>hy.trans ?_)
     simp)
  (l.length+1) 0 [] (by omega) (by omega) (by simpa using hl)
 exact key
theorem Aaj(n:Int)(s:Al)(hr:Bd n):Sp 32 [.int n,dB s] [dA (Do n s)]:=by
 refine Af 0 (Alj _ _ _) (Aa (ZT n hr) (Ac ?_))
 rw[D5];rfl
def E9(fr:List Cell)(k:Nat):List Cell:=(Ap8 k).map (fun i=>fr.getD (i % fr.length) (Bf 0))
def Hg(n a:Arr):Arr×Int :=
 if (A9 n).2=0 then (if (A7 (A9 n).1).2=0 then (.mk (a.s|||Au n) (A9 n).1 (E9 a.cells (A7 (A9 n).1).1.toNat),0) else (.none,(A7 (A9 n).1).2)) else (.none,(A9 n).2)
theorem Aeq(fr:List Cell)(k:Nat):E9 fr (k+1)=E9 fr k++[fr.getD (k % fr.length) (Bf 0)]:=by simp[E9,List.range_succ]
theorem V3(fr:List Cell)(k:Nat):(E9 fr k).length=k:=by simp[E9]
theorem Aeo{fr:List Cell}{k:Nat}{c:Cell}(h:c∈E9 fr k):c∈fr∨c=Bf 0:=by
 simp only[E9,List.mem_map]at h
 obtain ⟨i,_,rfl⟩:=h
 rw[Ape]
 cases hg:fr[i % fr.length]? with
 | none=>right;rfl
 | some x=>left;exact Aph hg
theorem Af0{fr:List Cell}{i:Nat}(h:i<fr.length):(fr.map dC).getD i D.nil=dC (fr.getD i (Bf 0)):=by
 rw[Aw (Apb h),Ape,Apb h];rfl
theorem UW(n a:Arr)(hn:Fits n)(sh:List Int)(fr:List Cell)(hfr:0<fr.length)(K:Nat)(hK:K≤2048)(hf:fr.length≤2048):Tw (P9 2049 2049 (dI sh) (.sl (fr.map dC)) (Apc K (dC Cell.none)) (K:Int) 0 (dA n) (dA a) 0) [dA (.mk (a.s|||Au n) sh (E9 fr K)),.int 0]:=by
 have key:=Dl K (fun m k (cs:List D)=>P9 2049 m (dI sh) (.sl (fr.map dC)) cs (K:Int) (k:Int) (dA n) (dA a) 0) (fun _ _=>[dA (.mk (a.s|||Au n) sh (E9 fr K)),.int 0])
  (fun k cs=>cs=(E9 fr k).map dC++Apc (K-k) (dC Cell.none))
  (fun m cs hI=>by
   simp only[UV]
   refine At (Aa (Fi n hn) ?_)
   simp only[Ah,En,FU,Me]
   refine Aa (Ha a.s (Au n)) (Ac ?_)
   rw[hI,D5,Nat.sub_self,List.replicate_zero,Apx];rfl)
  (fun m k cs hkK hI ih=>by
   have hm:=Ap4 k hfr
   have hcl:cs.length=K:=by rw[hI];simp[V3];omega
   have et:Int.tmod (k:Int) (fr.length:Int)=((k % fr.length:Nat):Int):=rfl
   simp only[UV,Ai,et,hcl,Af0 hm,Bh k]
   repeat (refine Ad ?_)
   refine ih _ ?_
   rw[hI,Aeq,List.set_append_right _ _ (by simp[V3]),Apd,V3,Nat.sub_self,show K-k=(K-(k+1))+1 by omega,List.replicate_succ,List.set_cons_zero]
   simp)
  2049 0 (Apc K (dC Cell.none)) (by omega) (by omega) (by simp[E9])
 exact key
theorem Aex:D.agg [D.int 0,D.int 0,D.agg [D.bool false,D.sl [],D.sl []],D.int 0,D.sl []]=dC Cell.none:=by rw[Ec];rfl
theorem Aep(K:Nat):E9 [Bf 0] K=E9 [] K:=by
 unfold E9
 refine List.map_congr_left (fun i _=> ?_)
 simp[Nat.mod_one]
theorem Aha(n a:Arr)(hn:Fits n)(ha:a.cells.length≤2048)(hnl:n.cells.length≤2048)(hnt : ∀ c∈n.cells,c.n.top.length≤32):Sp 35 [dA n,dA a] [dA (Hg n a).1,.int (Hg n a).2]:=by
 refine Af 2049 (Ahb _ _ _) (Aa (K9 n hnl hnt) ?_)
 simp only[Ah,C1,Ao,Dg,C8,Aex]
 unfold Hg
 refine Ae (fun h=>Ac ?_) (fun h=>Aa (Ol (A9 n).1) ?_)
 · rw[if_neg h]
 rw[if_pos (Apm.1 h)]
 simp only[Ah,C1,Ao]
 refine Ae (fun h=>Ac ?_) (fun h=> ?_)
 · rw[if_neg h]
 rw[if_pos (Apm.1 h)]
 have hk:=Fw (A9 n).1
 generalize (A7 (A9 n).1).1=kz at *
 obtain ⟨K,rfl⟩ : ∃ K:Nat,kz=(K:Int):=⟨kz.toNat,by omega⟩
 simp only[Ai,Aqg]
 refine Ae (fun he=>Aa (Vb a) ?_) (fun he=> ?_)
 · refine Ad (Ad (A0 (by simp only[Am];omega) ?_))
   have hc:=Ap2.1 (show a.cells.length=0 by omega)
   have hfl:Cl a=Bf 0:=by unfold Cl;rw[hc]
   have:=UW n a hn (A9 n).1 [Bf 0] (by decide) K (by omega) (by decide)
   rw[Aep]at this
   rw[hc,hfl]
   exact this
 · refine Ad (Ad (A0 (by simp only[Am];omega) ?_))
   exact UW n a hn (A9 n).1 a.cells (by omega) K (by omega) ha
theorem AhX(n:Int)(s:Al):C2 (Fd (Bf n)) s=Do n s:=by simp[C2,Fd,Do]
theorem Ku{z:Int}(h:Bd z)(d:Nat):SmlC d (Bf z):=by
 have:=TQ h
 refine ⟨?_,?_,?_,?_⟩
 · simp only[Bf,Cy];omega
 · simp[Bf,Cy]
 · simp[Bf]
 · simp[Bf]
theorem S0(n:Int)(s:Al)(h:Bd n):Sp 148 [.int n,dB s] [dA (Do n s)]:=by
 refine Af 0 (Ahh _ _ _) (Aa (I7 n h) (Aa (Rl (d:=0) (Bf n) (Ku h 0)) (Aa (Gz _ s) (Ac ?_))))
 rw[Ah,AhX]
def M9(a:Arr):Arr:=Db a.shape a.s
theorem Ahc{d:Nat}(a:Arr)(h:Sml d a):Sp 56 [dA a] [dA (M9 a)]:=by
 obtain ⟨e,rfl⟩:=h.succ
 have hl:=h.1
 refine Af (a.shape.length+1) (Ahd _ _) ?_
 simp only[Ai,Hq]
 refine Ad (Ad (A0 (by simp only[Am];omega) ?_))
 have key:=Ca a.shape (fun m k (cs:List D)=>X4 (a.shape.length+1) m cs (dI a.shape) (a.shape.length:Int) (k:Int) (dA a) 0) (fun _ _=>[dA (M9 a)])
  (fun rest cs=>∃ pre:List Int,a.shape=pre++rest∧cs=(pre.map Bf).map dC++Apc rest.length (dC Cell.none))
  (fun m k cs hk hI=>by
   obtain ⟨pre,h1,rfl⟩:=hI
   simp only[UX,Ai]
   refine At (Ac ?_)
   rw[Apx]at h1
   rw[D5,M9,Db,← h1];simp[dI])
  (fun m k cs c rest hdr hI ih=>by
   obtain ⟨h1,h2,h3⟩:=B6 hdr
   obtain ⟨pre,hp,rfl⟩:=hI
   have hk:k=pre.length:=by
    have:=congrArg Aql hdr
    rw[hp]at this h1
    simp at this h1;omega
   simp only[UX,Ai,Aw h2,Bh k]
   repeat (refine Ad ?_)
   refine Aa (I7 c (h.2.2.1 c (Aph h2))) ?_
   have hlen:((pre.map Bf).map dC++Apc (rest.length+1) (dC Cell.none)).length=a.shape.length:=by rw[hp];simp
   rw[Apg,hlen]
   refine Ad (Ad ?_)
   have e:=M6 (f:=dC) (z:=dC Cell.none) (pre.map Bf) (Bf c) rest.length
   rw[Apd,← hk]at e
   rw[Ah,e]
   exact ih _ ⟨pre++[c],by rw[hp];simp,by simp⟩)
  (a.shape.length+1) 0 (Apc a.shape.length (dC Cell.none)) (by omega) (by omega) ⟨[],by simp,by simp⟩
 exact key
def Od(a:Arr):Arr:= .mk a.s [(a.cells.length:Int)] a.cells
theorem AgY{d:Nat}(a:Arr)(h:Sml d a):Sp 57 [dA a] [dA (Od a)]:=by
 obtain ⟨e,rfl⟩:=h.succ
 refine Af 0 (AgZ _ _) ?_
 simp only[Ai]
 refine Aa (AdM a.cells h.2.1) (Ac ?_)
 rw[D5];rfl
def On(a:Arr):Arr:=Do (a.shape.headD 1) a.s
theorem Ahe{d:Nat}(a:Arr)(h:Sml d a):Sp 64 [dA a] [dA (On a)]:=by
 obtain ⟨e,rfl⟩:=h.succ
 refine Af 0 (Ahf _ _) ?_
 simp only[Ai]
 unfold On
 match hs:a.shape with
 | []=>exact A0 (by simp) (Aa (S0 1 a.s (Dk (by omega) (by omega))) (Ac rfl))
 | x::xs =>
  refine Ow (by simp;omega) (Ad (A0 (by simp) ?_))
  exact Aa (S0 x a.s (h.2.2.1 x (by rw[hs];simp))) (Ac rfl)
def Sy(a:Arr):Arr:=Do (G5 a:Int) (Au a)
theorem AgP{d:Nat}(a:Arr)(h:Sml d a)(hd:d≤100000):Sp 63 [dA a] [dA (Sy a)]:=by
 have:=V8 h
 exact Af 0 (AgQ _ _) (Aa (EN d a (by omega) h) (Aa (Fi a h.fits) (Aa (S0 (G5 a:Int) (Au a) (Dk (by omega) (by omega))) (Ac rfl))))
noncomputable def Mn(a b:Arr)(same:Bool):Arr:=Do (if Xw a b=same then 1 else 0) (Au a|||Au b)
theorem UU{d e:Nat}(a b:Arr)(same:Bool)(h:Sml d a)(hb:Sml e b):Sp 105 [dA a,dA b,.bool same] [dA (Mn a b same)]:=by
 refine Af 0 (AgX _ _ _ _) (Aa (OG a b h) ?_)
 unfold Mn
 simp only[Ah,Ba,Rp]
 refine Ae (fun hh=> ?_) (fun hh=> ?_)
 · rw[if_pos hh]
   exact Aa (Fi a h.fits) (Aa (Fi b hb.fits) (Aa (Ha (Au a) (Au b)) (Aa (S0 1 _ (Dk (by omega) (by omega))) (Ac rfl))))
 · rw[if_neg hh]
   exact Aa (Fi a h.fits) (Aa (Fi b hb.fits) (Aa (Ha (Au a) (Au b)) (Aa (S0 0 _ (Dk (by omega) (by omega))) (Ac rfl))))
def Hl(a:Arr):Al:=match a.shape,a.cells with
 | [],c::_=>c.l
 | _,_=>0
def I9(a:Arr):Arr:= .mk a.s [] [⟨Hl a,2,.zero,0,[a]⟩]
def Hr(a:Arr):Arr×Int:=if B9 a then (a,0) else if 8<G5 a then (.none,7) else (I9 a,0)
theorem FW(a:Arr)(l:Al)(h:l=Hl a):D.agg [dB a.s,D.sl [],D.sl [D.agg [dB l,D.int 2,D.agg [D.bool false,D.sl [],D.sl []],D.int 0,D.sl [dA a]]]]=dA (I9 a):=by subst h;rw[Aev,D5];rfl
theorem AgR{d:Nat}(a:Arr)(h:Sml d a)(hd:d≤100000):Sp 61 [dA a] [dA (Hr a).1,.int (Hr a).2]:=by
 refine Af 0 (AgS _ _) (Aa (OH a) ?_)
 unfold Hr
 simp only[Ai,C8]
 refine B7 (fun hs=>Ac (by rw[if_pos hs])) (fun hs=>Aa (EN d a (by omega) h) ?_)
 rw[if_neg (by simp[hs])]
 simp only[Ah,Ao]
 refine Ae (fun h8=>Ac (by rw[if_pos (by omega)])) (fun h8=> ?_)
 rw[if_neg (by omega)]
 refine Ae (fun h1=>Ae (fun h2=>Ad (Ad (Ac ?_))) (fun h2=>Ac ?_)) (fun h1=>Ac ?_)
 · match hsh:a.shape,hc:a.cells with
   | [],c::cs =>
    simp only[Ap7,Ah,Ai]
    rw[FW a c.l (by unfold Hl;rw[hsh,hc])]
   | x::xs,_=>rw[hsh]at h1;simp at h1;omega
   | [],[]=>rw[hc]at h2;simp at h2
 · refine congrArg (fun x=>[x,D.int 0]) (FW a 0 ?_)
   unfold Hl
   match hsh:a.shape,hc:a.cells with
   | [],c::cs=>rw[hc]at h2;simp at h2
   | x::xs,_=>rfl
   | [],[]=>rfl
 · refine congrArg (fun x=>[x,D.int 0]) (FW a 0 ?_)
   unfold Hl
   match hsh:a.shape,hc:a.cells with
   | [],c::cs=>rw[hsh]at h1;simp at h1
   | x::xs,_=>rfl
   | [],[]=>rfl
def J8(a:Arr):Arr:=match a.cells with
 | []=>Do 0 a.s
 | c::_=>C2 (Gj c) a.s
theorem AgV{d:Nat}(a:Arr)(h:Sml (d+1) a):Sp 62 [dA a] [dA (J8 a)]:=by
 refine Af 0 (AgW _ _) (Aa (Vb a) ?_)
 unfold J8
 simp only[Ai]
 match hc:a.cells with
 | [] =>
  have e:Cl a=Bf 0:=by unfold Cl;rw[hc]
  refine Ow (by simp) ?_
  rw[e]
  refine Aa (EO (Bf 0) (Ku Iq 0)) (Aa (Gz _ a.s) (Ac ?_))
  rw[Ah,Un (by simp[Bf])]
  simp[C2,Do,Bf]
 | c::cs =>
  refine A0 (by simp) (Ad (A0 (by simp) ?_))
  exact Aa (EO c (h.cell c (by rw[hc];simp))) (Aa (Gz _ a.s) (Ac rfl))
mutual
def Im:Arr→List (CellF Arr)
 | .mk _ _ cs=>In cs
def In:List (CellF Arr)→List (CellF Arr)
 | []=>[]
 | c::cs=>Wv c++In cs
def Wv:CellF Arr→List (CellF Arr)
 | ⟨l,k,n,c,inn⟩=>if k=2 then Le inn else [⟨l,k,n,c,inn⟩]
def Le:List Arr→List (CellF Arr)
 | []=>[]
 | a::as_=>Im a++Le as_
end
theorem GP(a:Arr):Im a=In a.cells:=by cases a;rw[Im];rfl
theorem GQ(c:Cell):Wv c=if c.kind=2 then Le c.inn else [c]:=by cases c;rw[Wv]
def Ld(out fl:List Cell):List D:=if out.length+fl.length≤2048 then [.sl ((out++fl).map dC),.bool true] else [.sl [],.bool false]
theorem VA : ∀ (d:Nat) (a:Arr) (out:List Cell),Sml d a→out.length≤2048→Sp 150 [.sl (out.map dC),dA a] (Ld out (Im a))
 | 0,_,_,h,_=>h.elim
 | d+1,a,out,h,ho=>by
  have hl:=h.2.1
  refine Af 1048577 (Ahg _ _ _) ?_
  simp only[Ai]
  rw[GP]
  have key:=Ca a.cells (fun m k (out:List Cell)=>Sz 1048577 m (out.map dC) (.sl (a.cells.map dC)) (a.cells.length:Int) (k:Int)) (fun rest out=>Ld out (In rest)) (fun _ out=>out.length≤2048)
   (fun m k out hk hI=>by
    simp only[UY,Ai]
    refine At (Ac ?_)
    rw[In,Ld,if_pos (by simpa using hI),Apx])
   (fun m k out c rest hdr hI ih=>by
    obtain ⟨h1,h2,h3⟩:=B6 hdr
    have hc:=h.cell c (Aph h2)
    have hlc:=hc.2.2.1
    simp only[UY,Ai,Aw h2,Bh k]
    rw[In,GQ]
    refine Ad (Ad (Ad (Ae (fun hk=> ?_) (fun hk=> ?_))))
    · rw[if_neg hk]
      refine Ae (fun he=>Ac ?_) (fun he=>A0 (by simp only[Apg,Apv,Am];omega) ?_)
      · rw[Ld,if_neg (by simp;omega)]
      · have:=ih (out++[c]) (by simp;omega)
        rw[List.map_append]at this
        refine Tree.wp_mono this (fun ys hy=>hy.trans ?_)
        unfold Ld
        simp only[Apn,Apg,Apv,Apz]
        rw[show out.length+(0+1)+(In rest).length=out.length+(0+1+(In rest).length) by omega]
    · rw[if_pos (Apm.1 hk)]
      have key:=Ca c.inn (fun m' j (out:List Cell)=>X6 1048577 m m' (out.map dC) (.sl (a.cells.map dC)) (a.cells.length:Int) (k:Int) (.sl (c.inn.map dA)) (c.inn.length:Int) (j:Int)) (fun rest' out=>Ld out (Le rest'++In rest)) (fun _ out=>out.length≤2048)
        (fun m' j out hj hI'=>by
         simp only[UZ,Ai,Bh k]
         rw[Le,Aqp]
         exact At (ih _ hI'))
        (fun m' j out x rest' hdr' hI' ih'=>by
         obtain ⟨g1,g2,g3⟩:=B6 hdr'
         simp only[UZ,Ai,Aw g2,Bh j]
         repeat (refine Ad ?_)
         refine Aa (VA d x out (hc.2.2.2 x (Aph g2)) hI') ?_
         rw[Le]
         unfold Ld
         by_cases hle:out.length+(Im x).length≤2048
         · rw[if_pos hle]
           refine Ej rfl ?_
           have:=ih' (out++Im x) (by simpa using hle)
           simp only[Ah,Ed]
           refine Tree.wp_mono this (fun ys hy=>hy.trans ?_)
           unfold Ld
           simp only[Apn,Apz,Nat.add_assoc]
         · rw[if_neg hle]
           refine Bo rfl (Ac ?_)
           rw[if_neg (by simp only[Apn];omega)])
        1048577 0 out (by omega) (by omega) hI
      exact key)
   1048577 0 out (by omega) (by omega) ho
  exact key
def Fy(a:Arr):Arr×Int:=if (Im a).length≤2048 then (.mk (Au a) [((Im a).length:Int)] (Im a),0) else (.none,7)
theorem AgT{d:Nat}(a:Arr)(h:Sml d a):Sp 66 [dA a] [dA (Fy a).1,.int (Fy a).2]:=by
 refine Af 0 (AgU _ _) (Aa (VA d a [] h (by simp)) ?_)
 unfold Ld Fy
 simp only[Apv,Aqo,Aqp,C8]
 by_cases hle:(Im a).length≤2048
 · rw[if_pos hle,if_pos hle]
   refine Ej rfl (Aa (Fi a h.fits) (Ac ?_))
   simp only[Ah,Ed,En,Apd,Me]
   rw[D5];rfl
 · rw[if_neg hle,if_neg hle]
   exact Bo rfl (Ac rfl)
open Go.RowKit
section
variable {P:Program} {md:Nat→FMode}
def ResV(P:Program)(md:Nat→FMode)(w:World)(M:Nat→Prop)(t:Nat)(y:D)(u:Value):Prop:=∃ look β,VL P md w (As M look β) look β (Bz P t y) u
theorem ResV.int {w:World} {M:Nat→Prop} {t:Nat} {k:IntKind} {n:Int} {u:Value} (h:ResV P md w M t (.int n) u) (ht:P.underlying t=some (.int k)):u = .int k n∧k.min≤n∧n≤k.max:=by
 obtain ⟨look,β,h⟩:=h
 unfold Bz at h
 rw[ht]at h
 exact Gk h
theorem ResV.bool {w:World} {M:Nat→Prop} {t:Nat} {b:Bool} {u:Value} (h:ResV P md w M t (.bool b) u) (ht:P.underlying t=some .bool):u = .bool b:=by
 obtain ⟨look,β,h⟩:=h
 unfold Bz at h
 rw[ht]at h
 exact Ly h
theorem ResV.rd {w:World} {M:Nat→Prop} {t:Nat} {y:D} {u:Value} (h:ResV P md w M t y u) (ht:Bz P t y = .d t y):Rd P md w M (.ty t) y u:=by
 obtain ⟨look,β,h⟩:=h
 rw[ht]at h
 obtain ⟨h1,h2⟩:=Dn h (by simp) (by simp) (by simp)
 cases h1 with
 | d h1=>exact ⟨h1.mono (Apo _) (fun _ _ _=>rfl) (fun b hb _=> .inl hb),h2.size,h2.agg⟩
theorem Kn{w w':World}{M M':Nat→Prop}{t:CT}{x:D}{v:Value}(h:Rd P md w M t x v)(hx:Ext w w')(hM : ∀ b,M' b→b<w.heap.size→M b):Rd P md w' M' t x v :=
 ⟨h.rd.mono hx.size (fun b _ hb=>hx.block b hb) hM,h.size,h.agg⟩
theorem MF{F:Nat}{fn:Func}{xs ys:List D}{vs:List Value}{W:World}{M:Nat→Prop}(hs:D_ P md F [] xs ys)(hfn:P.funcs[F]? = some fn)(hm:md F = {})(hM : ∀ b,M b→b<W.heap.size)
   (hlx:xs.length=fn.params.size) (hlv:vs.length=fn.params.size) (hrd : ∀ (i t:Nat) (x:D) (v:Value),fn.params.toList[i]? = some t→xs[i]? = some x→vs[i]? = some v→Rd P md W M (.ty t) x v) :
   Calls P F vs.toArray W (fun e w'=>∃ us,e = .returned (Lq us)∧us.length=fn.resultTypes.size∧(∀ (i t:Nat) (u:Value),fn.resultTypes.toList[i]? = some t→us[i]? = some u→ResV P md w' M t (ys.getD i .nil) u)∧Ext W w'):=by
 obtain ⟨fn',h1,_,_,h⟩:=hs
 rw[hfn]at h1
 injection h1 with h1
 subst h1
 have nol : ∀ b,¬ Dt (md F) vs b:=fun b ⟨p,v,h1,_⟩=>by rw[hm]at h1;cases h1
 refine (h W M vs 0 1 (fun k hk=>by rw[hm]at hk;cases hk) ⟨by simp[hlx],by simp[hlv],fun b hb=>⟨hM b hb,nol b⟩,?_,fun p hp=>by rw[hm]at hp;cases hp⟩).mono ?_
 · intro i ct x v hc hx hv _
   simp only[Apx,Aps,Apq]at hc
   obtain ⟨t,ht,rfl⟩:=hc
   have:=hrd i t x v ht hx hv
   exact ⟨this.rd.mono (Apo _) (fun _ _ _=>rfl) (fun b hb _=>hb.elim id (fun h=>(nol b h).elim)),this.size,this.agg⟩
 · rintro e w' ⟨us,β',hp⟩
   refine ⟨us,hp.ending,by simpa using hp.len,fun i t u ht hu=> ?_,?_⟩
   · have:=hp.vl (Es P fn.resultTypes.toList ys 0) (by rw[hm];rfl) i _ u (Oj ht) hu
     rw[Aqo]at this
     exact ⟨_,_,this⟩
   · exact Stp.ext (hp.stp.weak fun b hb=>(nol b hb).elim)
theorem JI{us:List Value}{n:Nat}(h:us.length=n)(hn:n=1) : ∃ u,us = [u]:=by
 subst hn
 match us,h with
 | [u],_=>exact ⟨u,rfl⟩
theorem MG{F:Nat}{fn:Func}{xs:List D}{n:Int}{vs:List Value}{W:World}{M:Nat→Prop}{t:Nat}{k:IntKind}(hs:D_ P md F [] xs [.int n])(hfn:P.funcs[F]? = some fn)(hm:md F = {})(hM : ∀ b,M b→b<W.heap.size)
  (hlx:xs.length=fn.params.size) (hlv:vs.length=fn.params.size) (hrd : ∀ (i t:Nat) (x:D) (v:Value),fn.params.toList[i]? = some t→xs[i]? = some x→vs[i]? = some v→Rd P md W M (.ty t) x v)
  (hrt:fn.resultTypes = #[t]) (ht:P.underlying t=some (.int k)):Calls P F vs.toArray W (fun e w'=>e = .returned (.int k n)∧(k.min≤n∧n≤k.max)∧Ext W w'):=by
 refine (MF hs hfn hm hM hlx hlv hrd).mono ?_
 rintro e w' ⟨us,rfl,hl,hh,hx⟩
 obtain ⟨u,rfl⟩:=JI hl (by rw[hrt];rfl)
 obtain ⟨rfl,h2⟩:=(hh 0 t u (by rw[hrt];rfl) rfl).int ht
 exact ⟨rfl,h2,hx⟩
theorem AbI{F:Nat}{fn:Func}{xs:List D}{y:D}{vs:List Value}{W:World}{M:Nat→Prop}{t:Nat}(hs:D_ P md F [] xs [y])(hfn:P.funcs[F]? = some fn)(hm:md F = {})(hM : ∀ b,M b→b<W.heap.size)
  (hlx:xs.length=fn.params.size) (hlv:vs.length=fn.params.size) (hrd : ∀ (i t:Nat) (x:D) (v:Value),fn.params.toList[i]? = some t→xs[i]? = some x→vs[i]? = some v→Rd P md W M (.ty t) x v)
  (hrt:fn.resultTypes = #[t]) (ht:Bz P t y = .d t y):Calls P F vs.toArray W (fun e w'=>∃ u,e = .returned u∧Rd P md w' M (.ty t) y u∧Ext W w'):=by
 refine (MF hs hfn hm hM hlx hlv hrd).mono ?_
 rintro e w' ⟨us,rfl,hl,hh,hx⟩
 obtain ⟨u,rfl⟩:=JI hl (by rw[hrt];rfl)
 exact ⟨u,rfl,(hh 0 t u (by rw[hrt];rfl) rfl).rd ht,hx⟩
theorem WO{F:Nat}{fn:Func}{xs es:List D}{vs:List Value}{W:World}{M:Nat→Prop}{t e:Nat}(hs:D_ P md F [] xs [.sl es])(hfn:P.funcs[F]? = some fn)(hm:md F = { own:=[(0,[])] })(hM : ∀ b,M b→b<W.heap.size)
   (hlx:xs.length=fn.params.size) (hlv:vs.length=fn.params.size) (hrd : ∀ (i t:Nat) (x:D) (v:Value),fn.params.toList[i]? = some t→xs[i]? = some x→vs[i]? = some v→Rd P md W M (.ty t) x v)
   (hrt:fn.resultTypes = #[t]) (ht:B_ P t=some e) (h1:one P t=true) (hne:es≠[]) :
   Calls P F vs.toArray W (fun en w'=>∃ G cap cur,en = .returned (.slice (some ⟨G,0,none⟩) es.length cap)∧W.heap.size≤G∧G<w'.heap.size∧w'.heap[G]? = some (.cells cur e (0,0))∧es.length≤cap∧cap≤maxLen∧cur.size=cap*P.cellsOf e ∧
     (∀ (i:Nat) (x:D),es[i]? = some x→∃ M',RdC P md w' M' (.ty e) x (fun j=>cur[i*P.cellsOf e+j]?))∧Ext W w'):=by
 obtain ⟨fn',g1,_,_,h⟩:=hs
 rw[hfn]at g1
 injection g1 with g1
 subst g1
 have nol : ∀ b,¬ Dt (md F) vs b:=fun b ⟨p,v,h1,_⟩=>by rw[hm]at h1;cases h1
 refine (h W M vs 0 1 (fun k hk=>by rw[hm]at hk;simp at hk;omega) ⟨by simp[hlx],by simp[hlv],fun b hb=>⟨hM b hb,nol b⟩,?_,fun p hp=>by rw[hm]at hp;cases hp⟩).mono ?_
 · intro i ct x v hc hx hv _
   simp only[Apx,Aps,Apq]at hc
   obtain ⟨t,ht,rfl⟩:=hc
   have:=hrd i t x v ht hx hv
   exact ⟨this.rd.mono (Apo _) (fun _ _ _=>rfl) (fun b hb _=>hb.elim id (fun h=>(nol b h).elim)),this.size,this.agg⟩
 · rintro en w' ⟨us,β',hp⟩
   have hl:=hp.len
   rw[hrt]at hl
   obtain ⟨u,rfl⟩:=JI hl rfl
   have hot:H2 P [t] (0,[])=some e:=by simp[H2,Cc,h1,ht]
   have hlook:Eh P (md F) fn.params.toList fn.resultTypes.toList [.sl es] 0 1 0=some (.row e es true):=by
     rw[hm,hrt]
     simp[Eh,Ma,Dc,Bn,Az,hot,D.path,D.els,List.getD]
   have hv:=hp.vl [.row 0] (by rw[hm,hrt];simp[Es,Gg,E5]) 0 (.row 0) u rfl rfl
   have hu:=Jx hv hlook
   have hb:=hp.blks 0 _ hlook
   have ho:=fun B=>hp.own 0 _ B hlook
   obtain ⟨A,cap,hA,hb⟩:=hb
   rcases hb with ⟨hn,_⟩ | ⟨B,cur,rfl,hc0,hB,hlen,hcap,hsz,hpos,hrd'⟩
   · exact absurd hn hne
   · have hob:=ho B (by rw[hA];simp[Bg];omega)
     have hG:=hob.1.resolve_right (nol B)
     refine ⟨B,cap,cur,?_,hG,hob.2,hB,hlen,hcap,hsz,fun i x hx=>⟨_,hrd' i x hx⟩,Stp.ext (hp.stp.weak fun b hb=>(nol b hb).elim)⟩
     rw[hp.ending,hu,hA];rfl
theorem YN{w:World}{M:Nat→Prop}{ps:List Nat}{t:Nat}{x:D}{v:Value}(hp:ps = [t])(h:Rd P md w M (.ty t) x v) : ∀ (i t':Nat) (x':D) (v':Value),ps[i]? = some t'→[x][i]? = some x'→[v][i]? = some v'→Rd P md w M (.ty t') x' v':=by
 intro i t' x' v' h1 h2 h3
 subst hp
 match i with
 | 0=>cases h1;cases h2;cases h3;exact h
 | i+1=>simp at h1
theorem Qp{w:World}{M:Nat→Prop}{ps:List Nat}{t u:Nat}{x y:D}{v z:Value}(hp:ps = [t,u])(h:Rd P md w M (.ty t) x v)(h':Rd P md w M (.ty u) y z) : ∀ (i t':Nat) (x':D) (v':Value),ps[i]? = some t'→[x,y][i]? = some x'→[v,z][i]? = some v'→Rd P md w M (.ty t') x' v':=by
 intro i t' x' v' h1 h2 h3
 subst hp
 match i with
 | 0=>cases h1;cases h2;cases h3;exact h
 | 1=>cases h1;cases h2;cases h3;exact h'
 | i+2=>simp at h1
theorem Qr{w:World}{M:Nat→Prop}{t:Nat}{k:IntKind}{n:Int}(ht:P.underlying t=some (.int k))(hs:P.cellsOf t=1)(ha:Be P t=false)(h1:k.min≤n)(h2:n≤k.max):Rd P md w M (.ty t) (.int n) (.int k n) :=
 ⟨.int ht h1 h2 rfl,hs.symm,ha.symm⟩
theorem CW (hP : WfP P) {F : Nat} {fn : Func} {cts : List CT} {xs ys : List D} (hfn : P.funcs[F]? = some fn) (hb : fn.body.isSome = true) (hn : (fn.name == "runtime.NumGoroutine") = false) (hm : md F = {})
   (h : ∀ (w:World) (M:Nat→Prop) (vs:List Value),(∀ b,M b→b<w.heap.size)→xs.length=fn.params.size+cts.length→vs.length=fn.params.size+cts.length→(∀ (i:Nat) (t:CT) (x:D) (v:Value),(fn.params.toList.map CT.ty++cts)[i]? = some t→xs[i]? = some x→vs[i]? = some v→Rd P md w M t x v) →
     Calls P F vs.toArray w (fun e w'=>∃ us,e = .returned (Lq us)∧us.length=fn.resultTypes.size∧(∀ (i t:Nat) (u:Value),fn.resultTypes.toList[i]? = some t→us[i]? = some u→Rd P md w' M (.ty t) (ys.getD i .nil) u)∧Ext w w')):D_ P md F cts xs ys:=by
 refine ⟨fn,hfn,hb,hn,fun w M vs d bid _ hp=> ?_⟩
 have nol : ∀ b,¬ Dt (md F) vs b:=fun b ⟨p,v,h1,_⟩=>by rw[hm]at h1;cases h1
 have hlook:Eh P (md F) fn.params.toList fn.resultTypes.toList ys d bid=fun _=>none:=by rw[hm];rfl
 refine (h w M vs (fun b hb=>(hp.m b hb).1) (by simpa using hp.lenx) (by simpa using hp.lenv) (fun i t x v h1 h2 h3=> ?_)).mono ?_
 · have:=hp.rd i t x v h1 h2 h3 (by rw[hm];simp)
   exact ⟨this.rd.mono (Apo _) (fun _ _ _=>rfl) (fun b hb _=> .inl hb),this.size,this.agg⟩
 · rintro e w' ⟨us,rfl,hl,hh,hx⟩
   refine ⟨us,fun _=>undef,rfl,by simpa using hl,(Stp.of_ext hx).weak (fun _ h=>h),?_,?_,?_,?_,?_⟩
   · intro ls hls i l u hi hu
     rw[hm]at hls
     simp only[Gg,Apk]at hls
     subst hls
     obtain ⟨t,ht⟩ : ∃ t,fn.resultTypes.toList[i]? = some t:=by
      have:=(Apf.1 hi).1
      rw[Qt]at this
      exact ⟨_,Apb this⟩
     have hr:=hh i t u ht hu
     rw[Oj ht,Aqo]at hi
     injection hi with hi
     subst hi
     have hr':Rd P md w' (As M (Eh P (md F) fn.params.toList fn.resultTypes.toList ys d bid) (fun _=>undef)) (.ty t) (ys.getD i .nil) u:=by
      refine Kn hr (Ext.refl _) (fun b hb _=> ?_)
      rcases hb with hb | ⟨r,k,hk,_⟩
      · exact hb
      · rw[hlook]at hk;cases hk
     exact (Mw hP hr').1
   · intro r b hb;rw[hlook]at hb;cases hb
   · intro r b B hb;rw[hlook]at hb;cases hb
   · intro r q b c B hb;rw[hlook]at hb;cases hb
   · intro hb;rw[hm]at hb;cases hb
end
end Go.Proofs.YtokkbgpgaheakaaGreat
namespace Go.Proofs.YtokkbgpgaheakaaGreat
theorem FD{x k:Nat}(h:(lb x).length=k+1):B ^ k≤x:=by
 rcases Aqn x (B ^ k) with h1 | h1
 · have:=Bb.2 h1;omega
 · exact h1
theorem IL{r:List Ar}(h : ∀ k,r.length=k+1→B ^ k≤nv r):lb (nv r)=r:=by
 refine TP (fun hne hz=> ?_)
 have hd:=List.dropLast_concat_getLast hne
 have hl:0<r.length:=List.length_pos_iff.2 hne
 have h1:=h (r.length-1) (by omega)
 have e:nv r=nv r.dropLast:=by
  have e2:=Jl r.dropLast (r.getLast hne)
  rw[hd,hz,show (0:Ar).toNat=0 from rfl,Nat.mul_zero,Nat.add_zero]at e2
  exact e2
 have h2:=Cd r.dropLast
 rw[List.length_dropLast]at h2
 omega
theorem XV{α:Type}{pre l:List α}{k:Nat}(hp:pre.length=k)(hk:k<l.length):(pre++l.drop k)[k]? = some l[k]:=by
 rw[Aqe (by omega),hp,Nat.sub_self,List.getElem?_drop,Nat.add_zero,Apb hk]
theorem XW{α:Type}{pre l:List α}{k:Nat}(v:α)(hp:pre.length=k)(hk:k<l.length):(pre++l.drop k).set k v=(pre++[v])++l.drop (k+1):=by
 rw[List.set_append_right _ _ (by omega),hp,Nat.sub_self,Ap1 hk,List.set_cons_zero];simp
theorem map_set{α:Type}{f:α→D}{l:List α}{k:Nat}{v:α} : (l.map f).set k (f v)=(l.set k v).map f:=by rw[List.map_set]
theorem Aia(l:List Ar)(i:Nat)(hi:i<l.length)(v:Ar):nv (l.set i v)+B ^ i*(l[i]).toNat=nv l+B ^ i*v.toNat:=by
 induction l generalizing i with
 | nil=>simp at hi
 | cons y l ih =>
  cases i with
  | zero=>simp[nv];omega
  | succ i =>
   have hi':i<l.length:=by simpa using hi
   have:=ih i hi'
   simp only[List.set_cons_succ,nv,List.getElem_cons_succ,Aqj]
   have h2:=congrArg (fun n=>B*n) this
   simp only[Nat.mul_add]at h2
   rw[show B ^ i*B*(l[i]).toNat=B*(B ^ i*(l[i]).toNat) by rw[Ap9 (B ^ i) B,Nat.mul_assoc],show B ^ i*B*v.toNat=B*(B ^ i*v.toNat) by rw[Ap9 (B ^ i) B,Nat.mul_assoc]]
   omega
theorem O8{X Y:Nat}(hX:X<4294967296)(hY:Y<4294967296):Br .xor .u32 (X:Int) (Y:Int)=((X^^^Y:Nat):Int)∧Br .and .u32 (X:Int) (Y:Int)=((X&&&Y:Nat):Int)∧Br .or .u32 (X:Int) (Y:Int)=((X|||Y:Nat):Int):=by
 have b:Apl .u32=32:=rfl
 have e1:(X^^^Y)<2 ^ 32:=Nat.xor_lt_two_pow (by omega) (by omega)
 have e2:(X&&&Y)<2 ^ 32:=Nat.and_lt_two_pow _ (by omega)
 have e3:(X|||Y)<2 ^ 32:=Nat.or_lt_two_pow (by omega) (by omega)
 simp only[Br,b,BitVec.ofInt_natCast,BitVec.toNat_xor,BitVec.toNat_and,BitVec.toNat_or,BitVec.toNat_ofNat,Ap6 (show X<2 ^ 32 by omega),Ap6 (show Y<2 ^ 32 by omega)]
 exact ⟨Ft (by omega) (by omega),Ft (by omega) (by omega),Ft (by omega) (by omega)⟩
theorem DA(n:Nat)(h:n<4294967296):n.testBit 31=decide (2147483648≤n):=by
 rw[Nat.testBit_eq_decide_div_mod_eq]
 have:n / 2 ^ 31 % 2=1↔2147483648≤n:=by omega
 simp only[this]
theorem AbP(X Y D c:Nat)(hX:X<4294967296)(hY:Y<4294967296)(hc:c≤1)(hD:(D:Int)=((X:Int)-Y-c) % 4294967296) :
  ((((4294967295^^^X)&&&Y)|||((4294967295^^^(X^^^Y))&&&D):Nat):Int) / 2147483648=if X<Y+c then 1 else 0:=by
 have hDl:D<4294967296:=by omega
 have hN:(((4294967295^^^X)&&&Y)|||((4294967295^^^(X^^^Y))&&&D))<2 ^ 32 :=
  Nat.or_lt_two_pow (Nat.and_lt_two_pow _ (by omega)) (Nat.and_lt_two_pow _ (by omega))
 have ht:=DA _ (show _<4294967296 from hN)
 rw[Nat.testBit_or,Nat.testBit_and,Nat.testBit_and,Nat.testBit_xor,Nat.testBit_xor,Nat.testBit_xor,DA X hX,DA Y hY,DA D hDl,show Nat.testBit 4294967295 31=true by decide]at ht
 generalize (((4294967295^^^X)&&&Y)|||((4294967295^^^(X^^^Y))&&&D))=N at *
 by_cases h1:2147483648≤X <;> by_cases h2:2147483648≤Y <;> by_cases h3:2147483648≤D <;> simp[h1,h2,h3]at ht <;> split <;> omega
theorem OT(x y c:Nat)(hx:x<B)(hy:y<B)(hc:c≤1):Sp 333 [.int (x:Int),.int (y:Int),.int (c:Int)] [.int (((x+y+c) % B:Nat):Int),.int (((x+y+c) / B:Nat):Int)]:=by
 rw[A5]at *
 refine Af 0 (Ad7 _ _ _ _) (Bo (by decide) (Ac ?_))
 simp only[Ao]
 have t1:Aom .u64 (Aom .u64 (Aom .u64 (x:Int)+Aom .u64 (y:Int))+Aom .u64 (c:Int))=((x+y+c:Nat):Int):=by
  rw[Bt (x:=(x:Int)) (by omega) (by omega),Bt (x:=(y:Int)) (by omega) (by omega),Bt (x:=(c:Int)) (by omega) (by omega),Bt (x:=(x:Int)+y) (by omega) (by omega),Bt (by omega) (by omega)];omega
 rw[t1,Pj,Ft (x:=(((x+y+c) / 4294967296:Nat):Int)) (by omega) (by omega)]
 have t2:Aom .u32 ((x+y+c:Nat):Int)=(((x+y+c) % 4294967296:Nat):Int):=by rw[IntKind.wrap_u32];omega
 rw[t2]
theorem OU(x y c:Nat)(hx:x<B)(hy:y<B)(hc:c≤1)(z c':Nat)(hz:z<B)(hc':c'≤1)(e:x+B*c'=z+y+c):Sp 334 [.int (x:Int),.int (y:Int),.int (c:Int)] [.int (z:Int),.int (c':Int)]:=by
 rw[A5]at *
 refine Af 0 (AdD _ _ _ _) (Bo (by decide) (Ac ?_))
 simp only[Ao]
 have t1:Aom .u32 (Aom .u32 ((x:Int)-(y:Int))-(c:Int))=(z:Int):=by rw[IntKind.wrap_u32,IntKind.wrap_u32];omega
 have hm:IntKind.max .u32=((4294967295:Nat):Int):=by decide
 have e1:(4294967295^^^x)<2 ^ 32:=Nat.xor_lt_two_pow (by omega) (by omega)
 have e2:(x^^^y)<2 ^ 32:=Nat.xor_lt_two_pow (by omega) (by omega)
 have e3:(4294967295^^^(x^^^y))<2 ^ 32:=Nat.xor_lt_two_pow (by omega) e2
 have e4:((4294967295^^^x)&&&y)<2 ^ 32:=Nat.and_lt_two_pow _ (by omega)
 have e5:((4294967295^^^(x^^^y))&&&z)<2 ^ 32:=Nat.and_lt_two_pow _ (by omega)
 have hs:=AbP x y z c (by omega) (by omega) hc (by omega)
 rw[t1,hm,(O8 (X:=4294967295) (Y:=x) (by omega) (by omega)).1,(O8 (X:=x) (Y:=y) (by omega) (by omega)).1,(O8 (X:=4294967295) (Y:=x^^^y) (by omega) (by omega)).1,(O8 (X:=4294967295^^^x) (Y:=y) (by omega) (by omega)).2.1,(O8 (X:=4294967295^^^(x^^^y)) (Y:=z) (by omega) (by omega)).2.1,(O8 (by omega) (by omega)).2.2]
 have t3 : ∀ q:Nat,Ap3 (q:Int) (2 ^ (min (Apa 31) (Apl .u32)))=(q:Int) / 2147483648:=fun q=>by
  rw[show (2:Int) ^ (min (Apa 31) (Apl .u32))=2147483648 by decide,Int.fdiv_eq_ediv_of_nonneg _ (by omega)]
 rw[t3,hs]
 congr 2
 split <;> congr 1 <;> omega
theorem S1(a b:List Ar)(ha:a.length≤1000000)(hb:b.length≤1000000):Sp 302 [dL a,dL b] [.int (D4 (nv a) (nv b))]:=by
 refine Af (a.length+1) (Ahq _ _ _) (Aa (F3 a (by omega)) (Aa (F3 b (by omega)) ?_))
 have la:(lb (nv a)).length≤a.length:=Bb.2 (Cd a)
 have lb_:(lb (nv b)).length≤b.length:=Bb.2 (Cd b)
 simp only[Ah,B3,Apd]
 refine Ae (fun h=>Ac ?_) (fun h=>Ae (fun h'=>Ac ?_) (fun h'=> ?_))
 · have h1:nv a<nv b:=by
    have e1:nv a<B ^ (lb (nv a)).length:=Bb.1 (Apo _)
    rcases Aqn (nv b) (B ^ (lb (nv a)).length) with h2 | h2
    · have:=Bb.2 h2;omega
    · omega
   rw[D4,if_pos h1]
 · have h1:nv b<nv a:=by
    have e1:nv b<B ^ (lb (nv b)).length:=Bb.1 (Apo _)
    rcases Aqn (nv a) (B ^ (lb (nv b)).length) with h2 | h2
    · have:=Bb.2 h2;omega
    · omega
   rw[D4,if_neg (by omega),if_neg (by omega)]
 · have hl:(lb (nv b)).length=(lb (nv a)).length:=by omega
   have key:=Ji (P:=Tryz.prog) (md:=md) (fun m k (_:Unit)=>Ya (a.length+1) m (dL (lb (nv a))) (dL (lb (nv b))) ((k:Int)-1)) (fun _ _=>[.int (D4 (nv a) (nv b))]) (fun k _=>k≤(lb (nv a)).length∧nv a / B ^ k=nv b / B ^ k)
    (fun m s ⟨_,h⟩=>by
     simp only[VE]
     refine At (Ac ?_)
     simp at h
     simp[D4,h])
    (fun m k s ⟨h0,h⟩ ih=>by
     have g1:=Eg (lb (nv a)) k (by omega)
     have g2:=Eg (lb (nv b)) k (by omega)
     rw[Bv]at g1 g2
     have ga:((lb (nv a)).map dB).getD k D.nil=D.int ((nv a / B ^ k % B:Nat):Int):=by rw[Aw (Apb (show k<(lb (nv a)).length by omega)),← g1];rfl
     have gb:((lb (nv b)).map dB).getD k D.nil=D.int ((nv b / B ^ k % B:Nat):Int):=by rw[Aw (Apb (show k<(lb (nv b)).length by omega)),← g2];rfl
     simp only[VE,show ((k+1:Nat):Int)-1=(k:Int) by omega,Ai,ga,gb]
     have ea:=Nat.div_add_mod (nv a / B ^ k) B
     have eb:=Nat.div_add_mod (nv b / B ^ k) B
     rw[Aqd,← Aqj]at ea eb
     rw[h]at ea
     generalize B*(nv b / B ^ (k+1))=q at ea eb
     refine Ad (Ad (Ad (Ad (Ad (Ae (fun h'=>Ac ?_) (fun h'=>Ad (Ad (Ad (Ad (Ae (fun h2=>Ac ?_) (fun h2=> ?_)))))))))))
     · have hlt:=Xt (show nv a / B ^ k<nv b / B ^ k by omega)
       simp only[D4];rw[if_pos hlt]
     · have hlt:=Xt (show nv b / B ^ k<nv a / B ^ k by omega)
       simp only[D4];rw[if_neg (by omega),if_neg (by omega)]
     · rw[Ax (by omega) (by omega)]
       exact ih () ⟨by omega,by omega⟩)
    (a.length+1) (lb (nv a)).length () (by omega) ⟨by omega,by
     rw[Nat.div_eq_of_lt (Bb.1 (Apo _)),Nat.div_eq_of_lt (Bb.1 (by omega))]⟩
   rw[Ax (by omega) (by omega)]
   exact key
theorem VD(x y N:Nat)(hA:(lb x).length≤100000)(hb:(lb y).length≤(lb x).length)(hN:(lb x).length<N):Tw (N6 N N (dL (lb y)) ((lb x).map dB) 0 ((lb x).length:Int) 0) [dL (lb (x+y))]:=by
 have hx:x<B ^ (lb x).length:=Bb.1 (Apo _)
 have hy:y<B ^ (lb x).length:=Bb.1 hb
 have key:=Dl (lb x).length (fun m k (s:List Ar×Nat)=>N6 N m (dL (lb y)) ((s.1++(lb x).drop k).map dB) (s.2:Int) ((lb x).length:Int) (k:Int)) (fun _ _=>[dL (lb (x+y))])
  (fun k s=>s.1.length=k∧nv s.1=(x+y) % B ^ k∧s.2=(x % B ^ k+y % B ^ k) / B ^ k)
  (fun m s ⟨h1,h2,h3⟩=>by
   simp only[VC,List.drop_length,Apx,Ai]
   rw[Ap6 hx,Ap6 hy]at h3
   have hs:x+y=nv s.1+B ^ (lb x).length*s.2:=by rw[h2,h3];exact (Nat.mod_add_div _ _).symm
   have hc:s.2≤1:=by
     have:s.2<2:=by rw[h3,Aqk (Bp _)];omega
     omega
   refine At (Ae (fun h0=>A0 (by simp only[Apg,Apv,Am];omega) (Ac ?_)) (fun h0=>Ac ?_))
   · have e1:s.2=1:=by omega
     rw[hs,e1]
     have e2:nv (s.1++[1])=nv s.1+B ^ (lb x).length*1:=by rw[Jl,h1];rfl
     rw[← e2,IL (r:=s.1++[1]) (fun k hk=>by
       rw[e2]
       have:k=(lb x).length:=by simp at hk;omega
       rw[this];omega)]
     simp[dL,dB]
   · have e1:s.2=0:=by omega
     rw[e1,Nat.mul_zero,Nat.add_zero]at hs
     rw[hs,IL (r:=s.1) (fun k hk=>by rw[← hs];have:=FD (x:=x) (k:=k) (by omega);omega)];rfl)
  (fun m k s hk ⟨h1,h2,h3⟩ ih=>by
   have hd:=EH x y k
   have hc:=EG x y k
   have la:=Ap4 (x / B ^ k) B0
   have lb':=Ap4 (y / B ^ k) B0
   have lc:s.2≤1:=by
     rw[h3]
     have r1:=Ap4 x (Bp k)
     have r2:=Ap4 y (Bp k)
     have:(x % B ^ k+y % B ^ k) / B ^ k<2:=by rw[Aqk (Bp k)];omega
     omega
   have hlen:(s.1++(lb x).drop k).length=(lb x).length:=by simp[h1];omega
   have gx:=Eg (lb x) k hk
   rw[Bv]at gx
   have Ci:((s.1++(lb x).drop k).map dB).getD k D.nil=D.int ((x / B ^ k % B:Nat):Int):=by rw[Aw (XV h1 hk),← gx];rfl
   have hm:=Ap4 (x / B ^ k % B+y / B ^ k % B+s.2) B0
   have Cu:((s.1++(lb x).drop k).map dB).set k (D.int (((x / B ^ k % B+y / B ^ k % B+s.2) % B:Nat):Int))=((s.1++[Apw 32 ((x / B ^ k % B+y / B ^ k % B+s.2) % B)])++(lb x).drop (k+1)).map dB:=by
     rw[Ew hm,map_set,XW _ h1 hk]
   have go:=ih (s.1++[Apw 32 ((x / B ^ k % B+y / B ^ k % B+s.2) % B)],(x / B ^ k % B+y / B ^ k % B+s.2) / B) ⟨by simp[h1],S4 h1 h2 (by rw[ofNat_lt hm,hd,h3]),by rw[hc,h3]⟩
   simp only[VC,Ai,Ci,hlen,Bh k]
   refine Ad (Ae (fun hb'=> ?_) (fun hb'=> ?_))
   · have gy:=Eg (lb y) k (by omega)
     rw[Bv]at gy
     rw[Aw (Apb (show k<(lb y).length by omega)),En,gy]
     refine Ad (Ad (Ad (Ad (Aa (OT _ _ s.2 la lb' lc) (Ad (Ad ?_))))))
     simp only[Ah,C1,Ao,Cu]
     exact go
   · have gy:=JE (lb y) k (by omega)
     rw[Bv]at gy
     refine Ae (fun h0=>At (Ac ?_)) (fun h0=> ?_)
     · have e0:s.2=0:=by omega
       rw[e0]at h3
       have hyk:y<B ^ k:=Bb.1 (by omega)
       rw[Ap6 hyk]at h3
       have hsum:x % B ^ k+y<B ^ k:=by
        rcases Aqn (x % B ^ k+y) (B ^ k) with h | h
        · exact h
        · have:=Nat.div_pos h (Bp k);omega
       have e1:nv s.1=x % B ^ k+y:=by rw[h2,Nat.add_mod,Ap6 hyk,Ap6 hsum]
       have hs:nv (s.1++(lb x).drop k)=x+y:=by
        rw[H1,h1,Yv,Bv,e1]
        have:=Nat.mod_add_div x (B ^ k)
        omega
       rw[← hs,IL (fun j hj=>by rw[hs];have:=FD (x:=x) (k:=j) (by omega);omega)];rfl
     · rw[gy]at Cu go lb'
       refine Ad (Ad (Aa (OT _ 0 s.2 la B0 lc) (Ad (Ad ?_))))
       simp only[Ah,C1,Ao,Cu]
       exact go)
  N 0 ([],0) (by omega) (by omega) ⟨rfl,by simp[Nat.mod_one],by simp[Nat.mod_one]⟩
 exact key
theorem PK(l:List D):l.take (Apc l.length (D.int 0)).length++(Apc l.length (D.int 0)).drop l.length=l:=by simp
theorem Aho(a b:List Ar)(ha:a.length≤100000)(hb:b.length≤100000):Sp 325 [dL a,dL b] [dL (lb (nv a+nv b))]:=by
 refine Af 100001 (Ahp _ _ _) (Aa (F3 a (by omega)) (Aa (F3 b (by omega)) ?_))
 have la:(lb (nv a)).length≤a.length:=Bb.2 (Cd a)
 have lb_:(lb (nv b)).length≤b.length:=Bb.2 (Cd b)
 have c1:=PK ((lb (nv a)).map dB)
 have c2:=PK ((lb (nv b)).map dB)
 simp only[Apd]at c1 c2
 simp only[Ah,B3,Apd,Apj,c1,c2]
 refine Ae (fun h=> ?_) (fun h=> ?_)
 · rw[Ax (by omega) (by omega)]
   refine Ad (Ad (A0 (by simp only[Am];omega) ?_))
   rw[Nat.add_comm (nv a)]
   exact VD (nv b) (nv a) 100001 (by omega) (by omega) (by omega)
 · rw[Ax (by omega) (by omega)]
   refine Ad (Ad (A0 (by simp only[Am];omega) ?_))
   exact VD (nv a) (nv b) 100001 (by omega) (by omega) (by omega)
theorem VJ(a b:List Ar)(ha:a.length≤100000)(hb:b.length≤100000):Sp 326 [dL a,dL b] [dL (lb (nv a-nv b)),.bool (decide (nv b≤nv a))]:=by
 refine Af 100001 (Ahx _ _ _) (Aa (S1 a b (by omega) (by omega)) ?_)
 simp only[Ah,Ao]
 refine Ae (fun h=>Ac ?_) (fun h=>Aa (H0 a (by omega)) (Aa (F3 b (by omega)) ?_))
 · have hlt:nv a<nv b:=by
    unfold D4 at h
    rcases Aqn (nv a) (nv b) with h1 | h1
    · exact h1
    · rw[if_neg (by omega)]at h;split at h <;> omega
   rw[Nat.sub_eq_zero_of_le (by omega),C9,decide_eq_false (by omega)];rfl
 have hge:nv b≤nv a:=by
   unfold D4 at h
   rcases Aqn (nv a) (nv b) with h1 | h1
   · rw[if_pos h1]at h;omega
   · exact h1
 rw[decide_eq_true hge]
 have la:(lb (nv a)).length≤a.length:=Bb.2 (Cd a)
 have lb_:(lb (nv b)).length≤(lb (nv a)).length:=Bb.2 (by have:=Bb.1 (Apo (lb (nv a)).length);omega)
 simp only[Ah,B3,Apd]
 generalize nv a=x at *
 generalize nv b=y at *
 have hx:x<B ^ (lb x).length:=Bb.1 (Apo _)
 have fin : ∀ l:List Ar,l.length≤100000→nv l=x-y→Tw (.call 321 [] [D.sl (l.map dB)] fun Y5=> .ret [qA Y5,D.bool true]) [dL (lb (x-y)),.bool true]:=fun l hl he=>Aa (F3 l (by omega)) (Ac (by rw[he];rfl))
 have key:=Dl (lb x).length (fun m k (s:List Ar×Nat)=>S3 100001 m (dL (lb y)) ((s.1++(lb x).drop k).map dB) (s.2:Int) ((lb x).length:Int) (k:Int)) (fun _ _=>[dL (lb (x-y)),.bool true])
   (fun k s=>s.1.length=k∧nv s.1=(x-y) % B ^ k∧s.2=((x-y) % B ^ k+y % B ^ k) / B ^ k)
   (fun m s ⟨h1,h2,h3⟩=>by
    simp only[VI,List.drop_length,Apx,Ai]
    refine At (fin s.1 (by omega) ?_)
    rw[h2,Ap6 (by omega)])
   (fun m k s hk ⟨h1,h2,h3⟩ ih=>by
    obtain ⟨zi,c,c',e1,e2,e3,e4,e5⟩:=AbO hge k
    have la:=Ap4 (x / B ^ k) B0
    have lb':=Ap4 (y / B ^ k) B0
    have lz:=Ap4 ((x-y) / B ^ k) B0
    rw[← e1]at lz
    rw[← e2]at h3
    have lc:c≤1:=by
      rw[e2]
      have r1:=Ap4 (x-y) (Bp k)
      have r2:=Ap4 y (Bp k)
      have:((x-y) % B ^ k+y % B ^ k) / B ^ k<2:=by rw[Aqk (Bp k)];omega
      omega
    have hlen:(s.1++(lb x).drop k).length=(lb x).length:=by simp[h1];omega
    have gx:=Eg (lb x) k hk
    rw[Bv]at gx
    have Ci:((s.1++(lb x).drop k).map dB).getD k D.nil=D.int ((x / B ^ k % B:Nat):Int):=by rw[Aw (XV h1 hk),← gx];rfl
    have Cu:((s.1++(lb x).drop k).map dB).set k (D.int (zi:Int))=((s.1++[Apw 32 zi])++(lb x).drop (k+1)).map dB:=by
      rw[Ew lz,map_set,XW _ h1 hk]
    have go:=ih (s.1++[Apw 32 zi],c') ⟨by simp[h1],S4 h1 h2 (by rw[ofNat_lt lz,e1]),e3⟩
    simp only[VI,Ai,Ci,hlen,Bh k,h3]
    refine Ad (Ae (fun hb'=> ?_) (fun hb'=> ?_))
    · have gy:=Eg (lb y) k (by omega)
      rw[Bv]at gy
      rw[Aw (Apb (show k<(lb y).length by omega)),En,gy]
      refine Ad (Ad (Ad (Ad (Aa (OU _ _ c la lb' lc zi c' lz e4 e5) (Ad (Ad ?_))))))
      simp only[Ah,C1,Ao,Cu]
      exact go
    · have gy:=JE (lb y) k (by omega)
      rw[Bv]at gy
      refine Ae (fun h0=> ?_) (fun h0=> ?_)
      · have e0:c=0:=by omega
        rw[e0]at e2
        have hyk:y<B ^ k:=Bb.1 (by omega)
        rw[Ap6 hyk]at e2
        have hsum:(x-y) % B ^ k+y<B ^ k:=by
         rcases Aqn ((x-y) % B ^ k+y) (B ^ k) with h | h
         · exact h
         · have:=Nat.div_pos h (Bp k);omega
        have q1:=Nat.mod_add_div (x-y) (B ^ k)
        have q2:x=((x-y) % B ^ k+y)+B ^ k*((x-y) / B ^ k):=by omega
        have q3:x / B ^ k=(x-y) / B ^ k:=by
         have:x / B ^ k=(((x-y) % B ^ k+y)+B ^ k*((x-y) / B ^ k)) / B ^ k:=by rw[← q2]
         rw[this,Nat.add_mul_div_left _ _ (Bp k),Nat.div_eq_of_lt hsum,Aqo]
        refine fin _ (by rw[hlen];omega) ?_
        rw[H1,h1,Yv,Bv,h2,q3];exact q1
      · rw[gy]at e5
        refine Ad (Ad (Aa (OU _ 0 c la B0 lc zi c' lz e4 e5) (Ad (Ad ?_))))
        simp only[Ah,C1,Ao,Cu]
        exact go)
   100001 0 ([],0) (by omega) (by omega) ⟨rfl,by simp[Nat.mod_one],by simp[Nat.mod_one]⟩
 exact key
theorem Ahm{x y o c:Nat}(hx:x<B)(hy:y<B)(ho:o<B)(hc:c<B):x*y+o+c<18446744073709551616∧x*y<18446744073709551616∧x*y+o<18446744073709551616:=by
 have h1:x*y≤(B-1)*(B-1):=Nat.mul_le_mul (by omega) (by omega)
 rw[A5]at *
 omega
theorem Ahu(a b:List Ar)(ha:a.length≤100000)(hb:b.length≤100000):Sp 303 [dL a,dL b] [dL (lb (nv a*nv b))]:=by
 refine Af 100001 (Ahv _ _ _) (Aa (F3 a (by omega)) (Aa (F3 b (by omega)) ?_))
 have la:(lb (nv a)).length≤a.length:=Bb.2 (Cd a)
 have lb_:(lb (nv b)).length≤b.length:=Bb.2 (Cd b)
 simp only[Ah,B3,Apd,Cn]
 generalize nv a=x at *
 generalize nv b=y at *
 refine Ae (fun h=>Ac ?_) (fun h=>Ae (fun h'=>Ac ?_) (fun h'=> ?_))
 · have:x=0:=Hb.1 (by omega)
   rw[this,Nat.zero_mul,C9];rfl
 · have:y=0:=Hb.1 (by omega)
   rw[this,Nat.mul_zero,C9];rfl
 have hm:(lb y).length=(lb y).length:=rfl
 generalize hmm:(lb y).length=mm at *
 rw[Ax (by omega) (by omega)]
 refine Ad (Ad (A0 (by simp only[Am];omega) ?_))
 have hyB:y<B ^ mm:=Bb.1 (by omega)
 have hxB:x<B ^ (lb x).length:=Bb.1 (Apo _)
 rw[show ((lb x).length:Int)+(mm:Int)=(((lb x).length+mm:Nat):Int) by omega,Apj]
 have key:=Dl (lb x).length (fun m i (lo:List Ar)=>Yf 100001 m (dL (lb y)) ((lo++Apc ((lb x).length-i) 0).map dB) (dL (lb x)) ((lb x).length:Int) (i:Int)) (fun _ _=>[dL (lb (x*y))])
   (fun i lo=>lo.length=i+mm∧nv lo=(x % B ^ i)*y)
   (fun m lo ⟨h1,h2⟩=>by
    simp only[VH,Nat.sub_self,List.replicate_zero,Apx,Ai]
    refine At (Aa (F3 lo (by omega)) (Ac ?_))
    rw[h2,Ap6 hxB];rfl)
   (fun m i lo hi ⟨h1,h2⟩ ih=>by
    have gx:=Eg (lb x) i hi
    rw[Bv]at gx
    have xl:x / B ^ i % B<B:=Ap4 _ B0
    have gX:((lb x).map dB).getD i D.nil=D.int ((x / B ^ i % B:Nat):Int):=by rw[Aw (Apb hi),← gx];rfl
    simp only[VH,Ai,gX,hmm]
    refine Ad (Ad (Ad ?_))
    have hxs:x % B ^ (i+1)=x % B ^ i+B ^ i*(x / B ^ i % B):=Nat.mod_pow_succ
    generalize x / B ^ i % B=xi at *
    have key:=Dl mm (fun m' j (s:List Ar×Nat)=>Ye 100001 m m' (dL (lb y)) ((s.1++Apc ((lb x).length-i) 0).map dB) (i:Int) (xi:Int) (s.2:Int) (dL (lb x)) ((lb x).length:Int) (i:Int) (dL (lb y)) (mm:Int) (j:Int)) (fun _ _=>[dL (lb (x*y))])
     (fun j s=>s.1.length=i+mm∧s.2<B∧nv s.1+B ^ (i+j)*s.2=nv lo+B ^ i*(xi*(y % B ^ j)))
     (fun m' s ⟨g1,g2,g3⟩=>by
      have ew:Aom .i64 ((i:Int)+(mm:Int))=((i+mm:Nat):Int):=by rw[Ax (by omega) (by omega)];omega
      have hB:=A5
      have ec:Aom .u32 (s.2:Int)=(s.2:Int):=Ft (by omega) (by omega)
      have hlen:(s.1++Apc ((lb x).length-i) (0:Ar)).length=(lb x).length+mm:=by simp[g1];omega
      simp only[VG,Ai,hmm,ew,ec,hlen,Bh i]
      refine At (Ad (Ad ?_))
      have Cu:((s.1++Apc ((lb x).length-i) 0).map dB).set (i+mm) (D.int (s.2:Int))=((s.1++[Apw 32 s.2])++Apc ((lb x).length-(i+1)) 0).map dB:=by
       rw[Ew g2,map_set,List.set_append_right _ _ (by omega),g1,Nat.sub_self,show (lb x).length-i=((lb x).length-(i+1))+1 by omega,List.replicate_succ,List.set_cons_zero];simp
      rw[Cu]
      refine ih _ ⟨by simp[g1];omega,?_⟩
      rw[Jl,g1,ofNat_lt g2,g3,h2,Ap6 hyB,hxs,Nat.add_mul,Nat.mul_assoc])
     (fun m' j s hj ⟨g1,g2,g3⟩ ih'=>by
      have gy:=Eg (lb y) j (by omega)
      rw[Bv]at gy
      have yl:y / B ^ j % B<B:=Ap4 _ B0
      have gY:((lb y).map dB).getD j D.nil=D.int ((y / B ^ j % B:Nat):Int):=by rw[Aw (Apb (by omega)),← gy];rfl
      have hys:y % B ^ (j+1)=y % B ^ j+B ^ j*(y / B ^ j % B):=Nat.mod_pow_succ
      have hij:i+j<s.1.length:=by omega
      have ew:Aom .i64 ((i:Int)+(j:Int))=((i+j:Nat):Int):=by rw[Ax (by omega) (by omega)];omega
      have hlen:(s.1++Apc ((lb x).length-i) (0:Ar)).length=(lb x).length+mm:=by simp[g1];omega
      have gO:((s.1++Apc ((lb x).length-i) 0).map dB).getD (i+j) D.nil=D.int ((s.1[i+j]).toNat:Int):=by rw[Aw (x:=s.1[i+j]) (by rw[Ap0 hij,Apb hij])];rfl
      simp only[VG,Ai,ew,gO,gY,hlen,Bh j]
      generalize y / B ^ j % B=yj at *
      have ol:=Fb (s.1[i+j])
      have hns:=Aia s.1 (i+j) hij (Apw 32 ((xi*yj+(s.1[i+j]).toNat+s.2) % B))
      have hmd:=Ap4 (xi*yj+(s.1[i+j]).toNat+s.2) B0
      rw[ofNat_lt hmd]at hns
      generalize hoo:(s.1[i+j]).toNat=o at *
      have hbd:=Ahm xl yl ol g2
      have hB:=A5
      have t0:Aom .u64 (xi:Int)=(xi:Int):=Bt (by omega) (by omega)
      have t0':Aom .u64 (yj:Int)=(yj:Int):=Bt (by omega) (by omega)
      have t0'':Aom .u64 (o:Int)=(o:Int):=Bt (by omega) (by omega)
      have t1:Aom .u64 ((xi:Int)*(yj:Int))=((xi*yj:Nat):Int):=by rw[← Int.natCast_mul];exact Bt (by omega) (by omega)
      have t2:Aom .u64 (((xi*yj:Nat):Int)+(o:Int))=((xi*yj+o:Nat):Int):=by rw[Bt (by omega) (by omega)];omega
      have t3:Aom .u64 (((xi*yj+o:Nat):Int)+(s.2:Int))=((xi*yj+o+s.2:Nat):Int):=by rw[Bt (by omega) (by omega)];omega
      simp only[t0,t0',t0'',t1,t2,t3,Pj]
      have t4:Aom .u32 ((xi*yj+o+s.2:Nat):Int)=(((xi*yj+o+s.2) % B:Nat):Int):=by rw[IntKind.wrap_u32,A5];omega
      have Cu:((s.1++Apc ((lb x).length-i) 0).map dB).set (i+j) (D.int (((xi*yj+o+s.2) % B:Nat):Int))=((s.1.set (i+j) (Apw 32 ((xi*yj+o+s.2) % B)))++Apc ((lb x).length-i) 0).map dB:=by
       rw[Ew hmd,map_set,List.set_append_left _ _ hij]
      rw[t4,Cu]
      refine Ad (Ad (Ad (Ad (Ad (Ad (Ad (Bo (by decide) ?_)))))))
      have hcl:(xi*yj+o+s.2) / 4294967296<B:=by rw[A5];omega
      refine ih' (s.1.set (i+j) (Apw 32 ((xi*yj+o+s.2) % B)),(xi*yj+o+s.2) / 4294967296) ⟨by simp[g1],hcl,?_⟩
      show nv (s.1.set (i+j) _)+B ^ (i+(j+1))*((xi*yj+o+s.2) / B)=_
      have q1:B ^ (i+(j+1))*((xi*yj+o+s.2) / B)=B ^ (i+j)*(B*((xi*yj+o+s.2) / B)):=by rw[← Nat.add_assoc,Aqj,Nat.mul_assoc]
      have q2:B ^ (i+j)*((xi*yj+o+s.2) % B)+B ^ (i+j)*(B*((xi*yj+o+s.2) / B))=B ^ (i+j)*(xi*yj+o+s.2):=by rw[← Nat.mul_add,Nat.mod_add_div]
      have q3:B ^ (i+j)*(xi*yj+o+s.2)=B ^ (i+j)*(xi*yj)+B ^ (i+j)*o+B ^ (i+j)*s.2:=by rw[Nat.mul_add,Nat.mul_add]
      have q4:B ^ i*(xi*(y % B ^ (j+1)))=B ^ i*(xi*(y % B ^ j))+B ^ (i+j)*(xi*yj):=by
       rw[hys,Nat.mul_add,Nat.mul_add,Nat.pow_add,Nat.mul_left_comm xi,Nat.mul_assoc]
      rw[q1,q4]
      omega)
     100001 0 (lo,0) (by omega) (by omega) ⟨h1,B0,by simp[Nat.mod_one]⟩
    exact key)
   100001 0 (Apc mm 0) (by omega) (by omega) ⟨by simp,by rw[Yw];simp[Nat.mod_one]⟩
 have e0:(Apc mm (0:Ar)++Apc ((lb x).length-0) 0).map dB=Apc ((lb x).length+mm) (D.int 0):=by
   rw[List.replicate_append_replicate,List.map_replicate,show mm+((lb x).length-0)=(lb x).length+mm by omega];rfl
 rw[e0]at key
 exact key
theorem Zc{r d:Nat}(hr:r<4294967296)(hd:d<4294967296):Br .or .u64 ((r*4294967296:Nat):Int) (d:Int)=((r*4294967296+d:Nat):Int):=by
 have h:=JQ hd hr
 have hc:Br .or .u64 ((r*4294967296:Nat):Int) (d:Int)=Br .or .u64 (d:Int) ((r*4294967296:Nat):Int):=by unfold Br;simp only;rw[BitVec.or_comm]
 rw[hc,h,Nat.add_comm]
theorem Ah4(l:List Ar)(y:Nat)(hy:0<y)(hyB:y<B)(hl:l.length≤1000000) : ∃ q:List Ar,q.length=l.length∧nv q=nv l / y∧Sp 331 [.sl (l.map dB),.int (y:Int)] [.int ((nv l % y:Nat):Int),.sl (q.map dB)]:=by
 have hq : ∃ q:List Ar,q.length=l.length∧nv q=nv l / y:=by
  have h1:nv l / y<B ^ l.length:=Nat.lt_of_le_of_lt (Nat.div_le_self _ _) (Cd l)
  have h2:=Bb.2 h1
  refine ⟨lb (nv l / y)++Apc (l.length-(lb (nv l / y)).length) 0,by simp;omega,?_⟩
  rw[H1,Yw,Bv];simp
 obtain ⟨q0,hq1,hq2⟩:=hq
 refine ⟨q0,hq1,hq2,Af (l.length+1) (Ah5 _ _ _) ?_⟩
 simp only[Ed,Ao,Apd]
 have uniq : ∀ q:List Ar,q.length=l.length→nv q=nv l / y→q=q0:=by
  intro q h1 h2
  apply List.ext_getElem (by omega)
  intro i g1 g2
  apply BitVec.eq_of_toNat_eq
  rw[Eg q i g1,Eg q0 i g2,h2,hq2]
 have key:=Ji (P:=Tryz.prog) (md:=md) (fun m k (s:List Ar×Nat)=>Yk (l.length+1) m ((l.take k++s.1).map dB) (y:Int) (s.2:Int) ((k:Int)-1)) (fun _ _=>[.int ((nv l % y:Nat):Int),.sl (q0.map dB)])
  (fun k s=>k≤l.length∧s.1.length=l.length-k∧nv s.1=nv l / B ^ k / y∧s.2=nv l / B ^ k % y)
  (fun m s ⟨h0,h1,h2,h3⟩=>by
   simp only[VM,List.take_zero,Aqp]
   refine At (Ac ?_)
   simp at h2 h3
   rw[uniq s.1 (by omega) h2,h3]
   have:=Ap4 (nv l) hy
   rw[A5]at hyB
   rw[Ft (by omega) (by omega)])
  (fun m k s ⟨h0,h1,h2,h3⟩ ih=>by
   have hk:k<l.length:=by omega
   have hlen:((l.take (k+1)++s.1).map dB).length=l.length:=by simp;omega
   have gd:=Eg l k hk
   have Ci:((l.take (k+1)++s.1).map dB).getD k D.nil=D.int ((l[k]).toNat:Int):=by rw[Aw (x:=l[k]) (by rw[Ap0 (by simp;omega),List.getElem?_take,if_pos (by omega),Apb hk])];rfl
   have hs2:s.2<y:=by rw[h3];exact Ap4 _ hy
   have dl:=Fb l[k]
   have hQ:nv l / B ^ k=B*(nv l / B ^ (k+1))+(l[k]).toNat:=by
    rw[gd,Aqj,← Aqd];exact (Nat.div_add_mod _ _).symm
   generalize hdd:(l[k]).toNat=d at *
   have e1:=Nat.div_add_mod (nv l / B ^ (k+1)) y
   rw[← h2,← h3]at e1
   have hQ2:nv l / B ^ k=y*(B*nv s.1)+(s.2*B+d):=by
    rw[hQ,← e1,Nat.mul_add,Nat.mul_left_comm,Ap9 B s.2];omega
   have hd1:nv l / B ^ k / y=B*nv s.1+(s.2*B+d) / y:=by rw[hQ2,Nat.mul_add_div hy]
   have hd2:nv l / B ^ k % y=(s.2*B+d) % y:=by rw[hQ2,Nat.mul_add_mod]
   have hlt:(s.2*B+d) / y<B:=by
    rw[Aqk hy]
    have:(s.2+1)*B≤y*B:=Apu _ hs2
    rw[Nat.add_mul,Nat.one_mul]at this
    rw[Ap9 B y];omega
   rw[A5]at hyB dl hlt
   have b64:(2:Int) ^ (min (Apa 32) (Apl .u64))=4294967296:=by decide
   have t1:Aom .u64 ((s.2:Int)*4294967296)=((s.2*4294967296:Nat):Int):=by rw[Bt (by omega) (by omega)];omega
   have t2:Aom .u64 (d:Int)=(d:Int):=Bt (by omega) (by omega)
   have t3:Aom .u64 (y:Int)=(y:Int):=Bt (by omega) (by omega)
   have t4:Aom .u64 (Int.tdiv ((s.2*4294967296+d:Nat):Int) (y:Int))=(((s.2*4294967296+d) / y:Nat):Int):=by
    rw[show Int.tdiv ((s.2*4294967296+d:Nat):Int) (y:Int)=(((s.2*4294967296+d) / y:Nat):Int) from rfl]
    generalize (s.2*4294967296+d) / y=qq at hlt ⊢
    exact Bt (by omega) (by omega)
   have t5:Int.tmod ((s.2*4294967296+d:Nat):Int) (y:Int)=(((s.2*4294967296+d) % y:Nat):Int):=rfl
   have t6:Aom .u32 (((s.2*4294967296+d) / y:Nat):Int)=(((s.2*4294967296+d) / y:Nat):Int):=by
    generalize (s.2*4294967296+d) / y=qq at hlt ⊢
    exact Ft (by omega) (by omega)
   simp only[VM,show ((k+1:Nat):Int)-1=(k:Int) by omega,Apj,Ci,hlen,Ao,b64,t1,t2,t3,Zc (show s.2<4294967296 by omega) dl,t4,t5,t6]
   have Cu:((l.take (k+1)++s.1).map dB).set k (D.int (((s.2*4294967296+d) / y:Nat):Int))=(l.take k++(Apw 32 ((s.2*4294967296+d) / y)::s.1)).map dB:=by
    rw[Ew hlt,map_set,List.take_succ_eq_append_getElem hk,Apz,List.set_append_right _ _ (by rw[Apr];omega),Apr,Nat.min_eq_left (by omega),Nat.sub_self];rfl
   rw[Cu,Ax (by omega) (by omega)]
   have hne:(!((y:Int)==0))=true:=by simp;omega
   refine Ad (Bo (by decide) (Ad (Ad (Bo hne (Ad (Ad (Bo hne ?_)))))))
   refine ih (Apw 32 ((s.2*4294967296+d) / y)::s.1,(s.2*4294967296+d) % y) ⟨by omega,by simp;omega,?_,hd2.symm⟩
   rw[nv,ofNat_lt hlt]
   show (s.2*B+d) / y+B*nv s.1=_
   rw[hd1,Nat.add_comm])
  (l.length+1) l.length ([],0) (by omega) ⟨by omega,by simp,by rw[Nat.div_eq_of_lt (Cd l)];simp,by rw[Nat.div_eq_of_lt (Cd l)];simp⟩
 rw[List.take_length,Apx]at key
 rw[Ax (by omega) (by omega)]
 exact key
def EC(x y:Nat):Prop:=1<(lb y).length→y≤x→Sp 332 [dL (lb x),dL (lb y)] [dL (lb (x / y)),dL (lb (x % y))]
theorem Yc(a b:List Ar)(ha:a.length≤100000)(hb:b.length≤100000)(hL:EC (nv a) (nv b)):Sp 323 [dL a,dL b] [dL (lb (nv a / nv b)),dL (lb (if nv b=0 then 0 else nv a % nv b)),.bool (decide (nv b≠0))]:=by
 refine Af 0 (Ahr _ _ _) (Aa (F3 a (by omega)) (Aa (F3 b (by omega)) ?_))
 have la:(lb (nv a)).length≤a.length:=Bb.2 (Cd a)
 have lb_:(lb (nv b)).length≤b.length:=Bb.2 (Cd b)
 simp only[Ah,B3,Apd,Cn]
 refine Ae (fun h=>Ac ?_) (fun h=> ?_)
 · have h0:nv b=0:=Hb.1 (by omega)
   rw[h0,Nat.div_zero,if_pos rfl,C9];rfl
 have h0:nv b≠0:=fun hh=>h (by rw[hh,C9];rfl)
 rw[if_neg h0,decide_eq_true h0]
 have cm:=S1 (lb (nv a)) (lb (nv b)) (by omega) (by omega)
 rw[Bv,Bv]at cm
 refine Aa cm ?_
 simp only[Ah,Ao]
 refine Ae (fun h1=> ?_) (fun h1=> ?_)
 · have hlt:nv a<nv b:=by
    unfold D4 at h1
    rcases Aqn (nv a) (nv b) with h2 | h2
    · exact h2
    · rw[if_neg (by omega)]at h1;split at h1 <;> omega
   have nm:=H0 (lb (nv a)) (by omega)
   rw[Bv]at nm
   refine Aa nm (Ac ?_)
   rw[Nat.div_eq_of_lt hlt,Ap6 hlt,C9];rfl
 have hge:nv b≤nv a:=by
   unfold D4 at h1
   rcases Aqn (nv a) (nv b) with h2 | h2
   · rw[if_pos h2]at h1;omega
   · exact h2
 refine Ae (fun h2=> ?_) (fun h2=> ?_)
 · obtain ⟨d,hd⟩ : ∃ d,lb (nv b) = [d]:=by
    match hh:lb (nv b) with
    | [d]=>exact ⟨d,rfl⟩
    | []=>rw[hh]at h2;simp at h2
    | _::_::_=>rw[hh]at h2;simp at h2;omega
   have hbv:nv b=d.toNat:=by rw[← Bv (nv b),hd];simp[nv]
   have nm:=H0 (lb (nv a)) (by omega)
   rw[Bv]at nm
   refine Aa nm ?_
   simp only[hd,Ap7,List.map_nil,Apg,Apv,Int.toNat_zero,Ah,B3,En]
   rw[← hbv]
   have hdB:nv b<B:=by rw[hbv];exact Fb d
   obtain ⟨q,q1,q2,q3⟩:=Ah4 (lb (nv a)) (nv b) (by omega) hdB (by omega)
   rw[Bv]at q2 q3
   refine Ad (Ad (Aa q3 ?_))
   have hr:nv a % nv b<B:=Aqb (Ap4 _ (by omega)) (by omega)
   simp only[Ah,C1,Ed,Ao]
   refine Aa (F3 q (by omega)) ?_
   rw[Ew hr]
   refine Aa (H0 [Apw 32 (nv a % nv b)] (by simp)) (Ac ?_)
   have e:nv [Apw 32 (nv a % nv b)]=nv a % nv b:=by simp only[nv];rw[ofNat_lt hr];omega
   rw[e,q2];rfl
 · exact Aa (hL (by omega) hge) (Ac rfl)
theorem M8(z:Int):(E6 z = -1∧z<0)∨(E6 z=0∧z=0)∨(E6 z=1∧0<z):=by
 unfold E6
 by_cases h1:z<0
 · exact .inl ⟨if_pos h1,h1⟩
 · by_cases h2:z=0
   · exact .inr (.inl ⟨by rw[if_neg h1,if_pos h2],h2⟩)
   · exact .inr (.inr ⟨by rw[if_neg h1,if_neg h2],by omega⟩)
theorem DQ(a:Wh)(h:a.mag.length≤1000000):Sp 301 [dW a] [.int (E6 (zv a))]:=by
 refine Af 0 (Aoy _ _) ?_
 have cm:=S1 a.mag [] h (by simp)
 simp only[Fx,Fl,Ba]
 refine Aa cm ?_
 simp only[Ah,Ao,Cn,JF]
 unfold E6 zv D4
 refine Ae (fun h0=>Ac ?_) (fun h0=>B7 (fun h1=>Ac ?_) (fun h1=>Ac ?_))
 · have:nv a.mag=0:=by
    rw[if_neg (by omega)]at h0
    split at h0
    · assumption
    · omega
   rw[this];cases a.neg <;> simp
 · have:nv a.mag≠0:=fun hh=>h0 (by rw[hh];simp)
   rw[if_pos (by rw[if_pos h1];omega)]
 · have:nv a.mag≠0:=fun hh=>h0 (by rw[hh];simp)
   rw[if_neg (by rw[if_neg (by simp[h1])];omega),if_neg (by rw[if_neg (by simp[h1])];omega)]
theorem Ac3(a b:Wh)(ha:a.mag.length≤1000000)(hb:b.mag.length≤1000000):Sp 253 [dW a,dW b] [.int (Cv (zv a) (zv b))]:=by
 refine Af 0 (Aor _ _ _) (Aa (DQ a ha) (Aa (DQ b hb) ?_))
 simp only[Ah,Ao,Fl]
 have za:=L7 a
 have zb:=L7 b
 refine Ae (fun h=>Ac ?_) (fun h=>Ae (fun h'=>Ac ?_) (fun h'=>Ae (fun h2=>Aa (S1 b.mag a.mag hb ha) (Ac ?_)) (fun h2=>Aa (S1 a.mag b.mag ha hb) (Ac ?_))))
 · have:zv a<zv b:=by rcases M8 (zv a) with h1 | h1 | h1 <;> rcases M8 (zv b) with h2 | h2 | h2 <;> omega
   rw[Cv,if_pos this]
 · have:zv b<zv a:=by rcases M8 (zv a) with h1 | h1 | h1 <;> rcases M8 (zv b) with h2 | h2 | h2 <;> omega
   rw[Cv,if_neg (by omega),if_neg (by omega)]
 · have h3:zv a<0∧zv b<0:=by rcases M8 (zv a) with h1 | h1 | h1 <;> rcases M8 (zv b) with h2 | h2 | h2 <;> omega
   simp only[Ah,Ao]
   have:D4 (nv b.mag) (nv a.mag)=Cv (zv a) (zv b):=by
    unfold D4 Cv
    by_cases g1:nv b.mag<nv a.mag
    · rw[if_pos g1,if_pos (show zv a<zv b by omega)]
    · rw[if_neg g1,if_neg (show ¬ zv a<zv b by omega)]
      by_cases g2:nv b.mag=nv a.mag
      · rw[if_pos g2,if_pos (show zv a=zv b by omega)]
      · rw[if_neg g2,if_neg (show ¬ zv a=zv b by omega)]
   rw[this]
 · have h3:0≤zv a∧0≤zv b:=by rcases M8 (zv a) with h1 | h1 | h1 <;> rcases M8 (zv b) with h2 | h2 | h2 <;> omega
   simp only[Ah,Ao]
   have:D4 (nv a.mag) (nv b.mag)=Cv (zv a) (zv b):=by
    unfold D4 Cv
    by_cases g1:nv a.mag<nv b.mag
    · rw[if_pos g1,if_pos (show zv a<zv b by omega)]
    · rw[if_neg g1,if_neg (show ¬ zv a<zv b by omega)]
      by_cases g2:nv a.mag=nv b.mag
      · rw[if_pos g2,if_pos (show zv a=zv b by omega)]
      · rw[if_neg g2,if_neg (show ¬ zv a=zv b by omega)]
   rw[this]
theorem ND(a b:Wh)(ha:a.mag.length≤100000)(hb:b.mag.length≤100000):Sp 313 [dW a,dW b] [dW (wz (zv a+zv b))]:=by
 refine Af 0 (Aoq _ _ _) ?_
 simp only[Fx,Fl,Ba,Rp]
 refine Ae (fun h=>Aa (Aho a.mag b.mag ha hb) (Aa (L0 a.neg _) (Ac ?_))) (fun h=>Aa (VJ a.mag b.mag ha hb) ?_)
 · have:(if a.neg=true then -((nv a.mag+nv b.mag:Nat):Int) else ((nv a.mag+nv b.mag:Nat):Int))=zv a+zv b:=by
    unfold zv;rw[← h];cases a.neg <;> simp <;> omega
   rw[Ah,this]
 simp only[Ah,C1,Ba]
 refine Ae (fun h1=>Aa (L0 a.neg _) (Ac ?_)) (fun h1=>Aa (VJ b.mag a.mag hb ha) (Aa (L0 b.neg _) (Ac ?_)))
 · have:(if a.neg=true then -((nv a.mag-nv b.mag:Nat):Int) else ((nv a.mag-nv b.mag:Nat):Int))=zv a+zv b:=by
    unfold zv;cases ea:a.neg <;> cases eb:b.neg <;> simp[ea,eb]at h ⊢ <;> omega
   rw[Ah,this]
 · have:(if b.neg=true then -((nv b.mag-nv a.mag:Nat):Int) else ((nv b.mag-nv a.mag:Nat):Int))=zv a+zv b:=by
    unfold zv;cases ea:a.neg <;> cases eb:b.neg <;> simp[ea,eb]at h ⊢ <;> omega
   rw[Ah,this]
theorem Ao9(b:Wh):zv ⟨!b.neg,b.mag⟩ = -zv b:=by unfold zv;cases b.neg <;> simp
theorem Ao1(a b:Wh)(ha:a.mag.length≤100000)(hb:b.mag.length≤100000):Sp 324 [dW a,dW b] [dW (wz (zv a-zv b))]:=by
 refine Af 0 (Ao2 _ _ _) ?_
 simp only[Fx,Fl,Ba,Aey]
 refine Aa (ND a ⟨!b.neg,b.mag⟩ ha hb) (Ac ?_)
 rw[Ao9,← Int.sub_eq_add_neg];rfl
theorem Ao_(a b:Wh):(if (!(a.neg == b.neg))=true then -((nv a.mag*nv b.mag:Nat):Int) else ((nv a.mag*nv b.mag:Nat):Int))=zv a*zv b:=by
 unfold zv;cases a.neg <;> cases b.neg <;> simp[Int.neg_mul,Int.mul_neg,Int.natCast_mul]
theorem I5(a b:Wh)(ha:a.mag.length≤100000)(hb:b.mag.length≤100000):Sp 254 [dW a,dW b] [dW (wz (zv a*zv b))]:=by
 refine Af 0 (Aou _ _ _) ?_
 simp only[Fx,Fl,Ba]
 refine Aa (Ahu a.mag b.mag ha hb) (Aa (L0 (!(a.neg == b.neg)) _) (Ac ?_))
 rw[Ao_];rfl
def El(x y:Int):Int×Int :=
 if (x<0)=(y<0) then (((x.natAbs / y.natAbs:Nat):Int),if x<0 then -((x.natAbs % y.natAbs:Nat):Int) else ((x.natAbs % y.natAbs:Nat):Int))
 else if x.natAbs % y.natAbs=0 then (-((x.natAbs / y.natAbs:Nat):Int),0)
 else (-((x.natAbs / y.natAbs:Nat):Int)-1,(if x<0 then -((x.natAbs % y.natAbs:Nat):Int) else ((x.natAbs % y.natAbs:Nat):Int))+y)
def GG(x y:Int):List D:=if y=0 then [dW (wz 0),dW (wz 0),.bool false] else [dW (wz (El x y).1),dW (wz (El x y).2),.bool true]
theorem Uz{w:Wh}(h:nv w.mag≠0):(zv w<0)↔w.neg=true:=by unfold zv;cases w.neg <;> simp <;> omega
theorem U0{w:Wh} : zv w=0↔nv w.mag=0:=by unfold zv;cases w.neg <;> simp
theorem Ae2{a b:Wh}(hb:nv b.mag≠0)(hr:nv a.mag % nv b.mag≠0)(hs:a.neg≠b.neg):El (zv a) (zv b)=((if (!(a.neg == b.neg))=true then -((nv a.mag / nv b.mag:Nat):Int) else ((nv a.mag / nv b.mag:Nat):Int))-1,(if a.neg=true then -((nv a.mag % nv b.mag:Nat):Int) else ((nv a.mag % nv b.mag:Nat):Int))+zv b):=by
 have ha:nv a.mag≠0:=fun h=>hr (by rw[h];simp)
 have h1:=Uz ha
 have h2:=Uz hb
 unfold El
 rw[L7,L7,if_neg (by rw[eq_iff_iff,h1,h2];cases ea:a.neg <;> cases eb:b.neg <;> simp[ea,eb]at hs ⊢),if_neg hr]
 have e1:(!(a.neg == b.neg))=true:=by cases ea:a.neg <;> cases eb:b.neg <;> simp[ea,eb]at hs ⊢
 rw[if_pos e1]
 by_cases h:a.neg=true
 · rw[if_pos (h1.2 h),if_pos h]
 · rw[if_neg (fun hh=>h (h1.1 hh)),if_neg h]
theorem QJ{a b:Wh}(hb:nv b.mag≠0)(hr:a.neg=b.neg∨nv a.mag % nv b.mag=0):El (zv a) (zv b)=(if (!(a.neg == b.neg))=true then -((nv a.mag / nv b.mag:Nat):Int) else ((nv a.mag / nv b.mag:Nat):Int),if a.neg=true then -((nv a.mag % nv b.mag:Nat):Int) else ((nv a.mag % nv b.mag:Nat):Int)):=by
 have h2:=Uz hb
 unfold El
 rw[L7,L7]
 by_cases ha:nv a.mag=0
 · have h0:zv a=0:=U0.2 ha
   rw[h0,ha]
   simp
 · have h1:=Uz ha
   by_cases hs:a.neg=b.neg
   · rw[if_pos (by rw[eq_iff_iff,h1,h2,hs])]
     have e1:(!(a.neg == b.neg))=false:=by rw[hs];simp
     rw[e1]
     by_cases h:a.neg=true
     · rw[if_pos (h1.2 h),if_pos h];simp
     · rw[if_neg (fun hh=>h (h1.1 hh)),if_neg h];simp
   · have h3:=hr.resolve_left hs
     rw[if_neg (by rw[eq_iff_iff,h1,h2];cases ea:a.neg <;> cases eb:b.neg <;> simp[ea,eb]at hs ⊢),if_pos h3,h3]
     have e1:(!(a.neg == b.neg))=true:=by cases ea:a.neg <;> cases eb:b.neg <;> simp[ea,eb]at hs ⊢
     rw[if_pos e1]
     cases a.neg <;> simp
theorem NF{n:Nat}{z:Int}(h:z.natAbs<B ^ n):(wz z).mag.length≤n:=Bb.2 h
theorem Aos(a b:Wh)(ha:a.mag.length≤10000)(hb:b.mag.length≤10000)(hL:EC (nv a.mag) (nv b.mag)):Sp 306 [dW a,dW b] (GG (zv a) (zv b)):=by
 refine Af 0 (Aot _ _ _) ?_
 simp only[Fx,Fl,Ba]
 refine Aa (Yc a.mag b.mag (by omega) (by omega) hL) ?_
 simp only[Ah,C1,W3,Ba,V6,B3,Apd]
 unfold GG
 refine B7 (fun h=>Ac ?_) (fun h=> ?_)
 · have h0:nv b.mag=0:=by simpa using h
   rw[if_pos (U0.2 h0)]
 have h0:nv b.mag≠0:=by simpa using h
 rw[if_neg (fun hh=>h0 (U0.1 hh)),if_neg h0]
 have hq:nv a.mag / nv b.mag<B ^ a.mag.length:=Nat.lt_of_le_of_lt (Nat.div_le_self _ _) (Cd _)
 have hr:nv a.mag % nv b.mag<B ^ b.mag.length:=Aqb (Ap4 _ (by omega)) (Nat.le_of_lt (Cd _))
 refine Aa (L0 _ (nv a.mag / nv b.mag)) (Aa (L0 a.neg (nv a.mag % nv b.mag)) ?_)
 simp only[Ah]
 refine B7 (fun h1=>Ae (fun h2=> ?_) (fun h2=>Ac ?_)) (fun h1=>Ac ?_)
 · have hr0:nv a.mag % nv b.mag≠0:=fun hh=>by rw[hh,C9]at h2;simp at h2
   have hs:a.neg≠b.neg:=by simpa using h1
   refine Aa (Ut 1 (by unfold Bd;decide)) ?_
   refine Aa (Ao1 _ _ (Nat.le_trans (NF (n:=a.mag.length) (by split <;> simp <;> exact hq)) (by omega)) (Nat.le_trans (NF (n:=1) (by simp[A5])) (by omega))) ?_
   refine Aa (ND _ b (Nat.le_trans (NF (n:=b.mag.length) (by split <;> simp <;> exact hr)) (by omega)) (by omega)) (Ac ?_)
   rw[Ae2 h0 hr0 hs,De,De,De];rfl
 · have hr0:nv a.mag % nv b.mag=0:=Hb.1 (by omega)
   rw[QJ h0 (.inr hr0)]
 · rw[QJ h0 (.inl (by simpa using h1))]
def Bu(z:Int):Nat:=(lb z.natAbs).length
def Km:Nat→Nat→Int→Int→Int×Int
 | 0,_,out,_=>(out,0)
 | k+1,n,out,base=>if n=0 then (out,0) else if 32<Bu base then (0,7) else
  if 32<Bu (if n % 2=1 then out*base else out) then (0,7) else
  if n / 2=0 then (if n % 2=1 then out*base else out,0) else Km k (n / 2) (if n % 2=1 then out*base else out) (base*base)
def Qk(r:Int×Int):List D:=[dW (wz r.1),.int r.2]
theorem Jh(x y:Int):Bu (x*y)≤Bu x+Bu y:=by
 unfold Bu
 refine Bb.2 ?_
 rw[Int.natAbs_mul,Nat.pow_add]
 exact Nat.mul_lt_mul'' (Bb.1 (Apo _)) (Bb.1 (Apo _))
theorem Ada(n:Nat)(h:n≤9223372036854775807):Br .and .i64 (n:Int) 1=((n % 2:Nat):Int):=by
 have b:Apl .i64=64:=rfl
 have h1:n % 2<2:=Ap4 _ (by decide)
 have e:(BitVec.ofInt 64 (n:Int)&&&BitVec.ofInt 64 1).toNat=n % 2:=by
  rw[BitVec.ofInt_natCast,show BitVec.ofInt 64 1=Apw 64 1 from rfl,BitVec.toNat_and,BitVec.toNat_ofNat,BitVec.toNat_ofNat,Ap6 (show n<2 ^ 64 by omega)]
  exact Nat.and_one_is_mod n
 show Aom .i64 ((BitVec.ofInt 64 (n:Int)&&&BitVec.ofInt 64 1).toNat:Int)=_
 rw[e]
 exact Ax (x:=((n % 2:Nat):Int)) (by omega) (by omega)
theorem AeS(n:Nat):Ap3 (n:Int) (2 ^ (min (Apa 1) (Apl .i64)))=((n / 2:Nat):Int):=by
 rw[show (2:Int) ^ (min (Apa 1) (Apl .i64))=2 by decide,Int.fdiv_eq_ediv_of_nonneg _ (by omega)];omega
def Mt(x n:Int):Int×Int:=if n<0 then (0,3) else Km 20 n.toNat 1 x
theorem Uu(N:Nat) : ∀ (k m n:Nat) (out base:Int),n<2 ^ k→k<m→n≤1000000→Bu out≤100→Bu base≤100→Tw (Ov N m (n:Int) false (dW (wz out)) (dW (wz base))) (Qk (Km k n out base))
 | k,0,n,out,base,hk,hm,_,_,_=>by omega
 | 0,m+1,n,out,base,hk,hm,hn,ho,hb=>by
  have:n=0:=by simp at hk;omega
  subst this
  simp only[Ac4]
  exact At (Ac rfl)
 | k+1,m+1,n,out,base,hk,hm,hn,ho,hb=>by
  have hk':n / 2<2 ^ k:=by rw[Aqj]at hk;omega
  simp only[Ac4,Fl,B3,Apd,Ada n (by omega),AeS,Cn,V6]
  rw[Km]
  refine Ae (fun h0=> ?_) (fun h0=>Ac ?_)
  · rw[if_neg (by omega)]
    have lo:(wz out).mag.length=Bu out:=rfl
    have lb_:(wz base).mag.length=Bu base:=rfl
    rw[lb_,lo]
    refine Ae (fun h1=>Ac ?_) (fun h1=> ?_)
    · rw[if_pos (by omega)];rfl
    rw[if_neg (by omega)]
    have m1:=I5 (wz out) (wz base) (by omega) (by omega)
    have m2:=I5 (wz base) (wz base) (by omega) (by omega)
    rw[De,De]at m1
    rw[De]at m2
    have l2:=Jh base base
    refine Ae (fun h2=>Aa m1 ?_) (fun h2=> ?_)
    · rw[if_pos (show n % 2=1 by omega)]
      simp only[Ah,Fl,B3,Apd]
      have lo':(wz (out*base)).mag.length=Bu (out*base):=rfl
      rw[lo']
      refine Ae (fun h3=>Ac (by rw[if_pos (by omega)];rfl)) (fun h3=>Bo (by decide) ?_)
      rw[if_neg (by omega)]
      refine Ae (fun h4=>Aa m2 ?_) (fun h4=> ?_)
      · rw[if_neg (by omega)]
        exact Uu N k m (n / 2) _ _ hk' (by omega) (by omega) (by omega) (by omega)
      · rw[if_pos (by omega)]
        have e0:n / 2=0:=by omega
        rw[e0]
        have:=Uu N k m 0 (out*base) base (Nat.pow_pos (by decide)) (by omega) (by omega) (by omega) hb
        have e1:Km k 0 (out*base) base=(out*base,0):=by cases k <;> simp[Km]
        rw[e1]at this;exact this
    · rw[if_neg (show ¬ n % 2=1 by omega)]
      refine Ae (fun h3=>Ac (by rw[if_pos (by omega)];rfl)) (fun h3=>Bo (by decide) ?_)
      rw[if_neg (by omega)]
      refine Ae (fun h4=>Aa m2 ?_) (fun h4=> ?_)
      · rw[if_neg (by omega)]
        exact Uu N k m (n / 2) _ _ hk' (by omega) (by omega) (by omega) (by omega)
      · rw[if_pos (by omega)]
        have e0:n / 2=0:=by omega
        rw[e0]
        have:=Uu N k m 0 out base (Nat.pow_pos (by decide)) (by omega) (by omega) (by omega) hb
        have e1:Km k 0 out base=(out,0):=by cases k <;> simp[Km]
        rw[e1]at this;exact this
  · rw[if_pos (by omega)];rfl
theorem DP(a:Wh)(n:Int)(ha:a.mag.length≤100)(hn:n≤1000000):Sp 314 [dW a,.int n] (Qk (Mt (zv a) n)):=by
 refine Af 21 (Aox _ _ _) ?_
 simp only[Ao,V6]
 unfold Mt
 refine Ae (fun h=>Ac (by rw[if_pos h];rfl)) (fun h=>Aa (Ut 1 (by unfold Bd;decide)) (Aa (DM a (by omega)) ?_))
 rw[if_neg h]
 obtain ⟨k,rfl⟩ : ∃ k:Nat,n=(k:Int):=⟨n.toNat,by omega⟩
 rw[Apj]
 have l1:Bu 1≤1:=Bb.2 (by decide)
 have l2:Bu (zv a)≤100:=Nat.le_trans (Ia a) ha
 exact Uu 21 20 21 k 1 (zv a) (by omega) (by omega) (by omega) (by omega) l2
open Go.RowKit
theorem EK(n:Nat)(h:n<4294967296):Br .and .u64 (n:Int) 4294967295=(n:Int):=by
 have e:(BitVec.ofInt 64 (n:Int)&&&BitVec.ofInt 64 4294967295).toNat=n:=by
  rw[BitVec.ofInt_natCast,show BitVec.ofInt 64 4294967295=Apw 64 4294967295 from rfl,BitVec.toNat_and,BitVec.toNat_ofNat,BitVec.toNat_ofNat,Ap6 (show n<2 ^ 64 by omega)]
  show n&&&(2 ^ 32-1)=n
  rw[Nat.and_two_pow_sub_one_eq_mod];exact Ap6 h
 show Aom .u64 ((BitVec.ofInt 64 (n:Int)&&&BitVec.ofInt 64 4294967295).toNat:Int)=_
 rw[e]
 exact Bt (by omega) (by omega)
theorem Ahk(y:Nat)(h:y<4294967296):Sp 271 [.int 1,.int (y:Int)] [.int 0,.int (y:Int)]:=by
 refine Af 0 (AdB _ _ _) ?_
 have p:(2:Int) ^ (min (Apa 32) (Apl .u64))=4294967296:=by decide
 have a1:Br .and .u64 1 4294967295=1:=EK 1 (by decide)
 have a2:=EK y h
 have a3:Br .and .u64 0 4294967295=0:=EK 0 (by decide)
 have d0:Ap3 0 4294967296=0:=by decide
 have d1:Ap3 1 4294967296=0:=by decide
 have d2:Ap3 (y:Int) 4294967296=0:=by rw[Int.fdiv_eq_ediv_of_nonneg _ (by decide)];omega
 have w0:Aom .u64 0=0:=by decide
 have w1:Aom .u64 (y:Int)=(y:Int):=Bt (by omega) (by omega)
 simp only[Ao,p,a1,a2,a3,d0,d1,d2,w0,w1,Int.zero_mul,Int.mul_zero,Int.one_mul,Int.zero_add,Int.add_zero]
 repeat (refine Ad ?_)
 exact Ac rfl
theorem Ahn(y:Nat)(h:y<4294967296):Sp 231 [.int 1,.int (y:Int)] [.int 0,.int (y:Int)]:=by
 refine Af 0 (AdC _ _ _) ?_
 simp only[Ao]
 refine Aa (Ahk y h) (Ac ?_)
 simp only[Ah,C1,Ao]
theorem VB(y:Nat)(h:y<4294967296)(w:World):Calls Tryz.prog 231 #[.int .u64 1,.int .u64 y] w fun e w'=>e = .returned (.tuple #[.int .u64 0,.int .u64 y])∧Ext w w':=by
 have hps:Tryz.f231.params.toList = [190,190]:=by kernel_rfl
 have hrs:Tryz.f231.resultTypes.toList = [190,190]:=by kernel_rfl
 have ht:Tryz.prog.underlying 190=some (.int .u64):=by kernel_rfl
 have n1 : ∀ k:Nat,k<4294967296→Rd Tryz.prog md w (fun _=>False) (.ty 190) (.int (k:Int)) (.int .u64 (k:Int)):=fun k hk=>Qr ht (by kernel_rfl) (by kernel_rfl) (by show (0:Int)≤_;omega) (by show _≤(18446744073709551615:Int);omega)
 refine (MF (vs:=[.int .u64 1,.int .u64 y]) (M:=fun _=>False) (Ahn y h) Tryz.func231 (by kernel_rfl) (fun b hb=>hb.elim) (by kernel_rfl) (by kernel_rfl) (Qp hps (n1 1 (by decide)) (n1 y h))).mono ?_
 rintro e w' ⟨us,rfl,hl,hh,hx⟩
 have hl2:us.length=2:=by rw[hl];rfl
 match us,hl2 with
 | [u1,u2],_ =>
  obtain ⟨rfl,_⟩:=(hh 0 190 u1 (by rw[hrs];rfl) rfl).int ht
  obtain ⟨rfl,_⟩:=(hh 1 190 u2 (by rw[hrs];rfl) rfl).int ht
  exact ⟨rfl,hx⟩
theorem Ac_{P:Program}{w:World}{ops:Array Oper}{rest:List Oper}{o:Oper}{a:Act}{Q:Exit→Act→World→Prop}{t e:TypeId}{size bytes:Nat}(hE:Elt P t e size bytes)
  (hg:o.guard=none) (l c:Operand) (hop:o.op=Op.makeSlice t l c) {kl kc:IntKind} (n:Nat) {L C:Int} (hl:a.eval l = .int kl L) (hc:a.eval c = .int kc C) (hL:L=(n:Int)) (hC:C=(n:Int)) (hb:bytes*n≤281474976710656) (hm:n≤maxLen)
  (h : ∀ (G:Nat) (w':World) (X:List Value),w.heap.size≤G→Hid (w'.heap[G]? = some (.cells X.toArray e (0,0)))→X.length=n*size→Ext w w'→wpList P ops Q rest (a.put o.dst (.slice (some ⟨G,0,none⟩) n n)) w'):wpList P ops Q (o::rest) a w:=by
 subst hL
 subst hC
 obtain ⟨i,z,hi,hz,hsz,hby,hzc⟩:=hE.info
 have hbb:(i.bytes:Int)*(n:Int)≤281474976710656:=by
  have h:((i.bytes*n:Nat):Int)≤281474976710656:=by rw[hby];omega
  rwa[Int.natCast_mul]at h
 have h63:n≤9223372036854775807:=by unfold maxLen at hm;omega
 have hr:=run_make (P:=P) w t e i z hE.under hi hz kl kc n n (by omega) (by omega) hbb (by omega)
 simp only[Apj]at hr
 refine wpList_plain hg fun K hK'=> ?_
 unfold Oper.wp
 simp[execOp,hop,hl,hc,hr,Result.andThen]
 have hx:Ext w (w.alloc (.cells (madeCells z.cells (n*i.size)) e)):=(Ext.refl w).alloc _
 refine hK' _ _ (h w.heap.size _ (madeCells z.cells (n*i.size)).toList (Apo _) ?_ (by simp[size_madeCells,hsz]) hx)
 show _=_
 rw[Array.toArray_toList]
 exact heap_alloc_new w _
theorem AbJ{x:Value}{cur:List Value}{k m:Nat}(h:cur.take k=Apc k x)(hk:k+m≤cur.length):(splice cur k (Apc m x)).take (k+m)=Apc (k+m) x∧(splice cur k (Apc m x)).length=cur.length:=by
 refine ⟨?_,length_splice _ _ _ (by simpa using hk)⟩
 unfold splice
 rw[h,← Apz,List.replicate_append_replicate,List.take_append_of_le_length (by simp),Ap_ (by simp)]
theorem Ana{w w2:World}{A:Option Addr}{c:Nat}{z:Int}(h:SlI w (.slice A 1 c) .i64 [z])(hx:Ext w w2)(m:Nat)(hm:m≤1):0<(Apc m (Value.int .i64 z)).length→∃ ad,A=some ad∧∀ j v,(Apc m (Value.int .i64 z))[j]? = some v→w2.cell? (ad.add j)=some v:=by
 intro _
 obtain ⟨ad,rfl,hb,hc⟩:=(h.keep hx).cellAt 0 (by simp)
 refine ⟨ad,rfl,fun j v hv=> ?_⟩
 have hj:=(Apf.1 hv).1
 simp only[Aqg]at hj
 have:j=0:=by omega
 subst this
 rw[List.getElem?_replicate,if_pos (by omega)]at hv
 cases hv
 exact hc
theorem Anc{w:World}{G k:Nat}{z:Int}{cur:List Value}{T:TypeId}(h:w.heap[G]? = some (.cells cur.toArray T (0,0)))(ht:cur.take k=Apc k (.int .i64 z))(m:Nat)(hm:m≤k)(hk:k≤cur.length) : ∀ j v,(Apc m (Value.int .i64 z))[j]? = some v→w.cell? ((⟨G,0,none⟩:Addr).add j)=some v:=by
 intro j v hv
 have hj:=(Apf.1 hv).1
 simp only[Aqg]at hj
 rw[List.getElem?_replicate,if_pos hj]at hv
 cases hv
 have hcj:cur[j]? = some (.int .i64 z):=by
  have:=congrArg (fun l=>l[j]?) ht
  simp only[List.getElem?_take,List.getElem?_replicate]at this
  rw[if_pos (by omega),if_pos (by omega)]at this
  exact this
 have ea:(⟨G,0,none⟩:Addr).add j=⟨G,j,none⟩:=by unfold Addr.add;split <;> simp_all
 rw[ea]
 unfold World.cell?
 simp[h,hcj]
theorem AeB:Elt Tryz.prog 23 3 1 8 :=
 ⟨Tryz.underlying23,by
  obtain ⟨i,hi,h1,h2,h3⟩:=info_parts (P:=Tryz.prog) (e:=3) (z:= .int .i64 0) (size:=1) (bytes:=8) (by kernel_rfl)
  exact ⟨i,_,hi,h1,h2,h3,rfl⟩,by decide⟩
def RInv(w2:World)(G n:Nat)(z:Int)(iv:Value)(wr:World):Prop:=∃ (k:Nat) (cur:List Value),iv = .int .i64 k∧k≤n∧(0<n→0<k)∧cur.length=n∧cur.take k=Apc k (.int .i64 z)∧wr.heap[G]? = some (.cells cur.toArray 3 (0,0))∧Below G w2 wr
theorem RInv.start {w2 w3:World} {G n:Nat} {z:Int} {X:List Value} (hX:X.length=n*1) (h:w3.heap[G]? = some (.cells (splice X 0 (Apc (Nat.min 1 n) (.int .i64 z))).toArray 3 (0,0))) (hb:Below G w2 w3):RInv w2 G n z (.int .i64 ((Nat.min 1 n:Nat):Int)) w3:=by
 have h2:Nat.min 1 n≤n:=Nat.min_le_right 1 n
 have h3:Nat.min 1 n=if 1≤n then 1 else n:=Nat.min_def
 obtain ⟨s1,s2⟩:=AbJ (x:= .int .i64 z) (cur:=X) (k:=0) (m:=Nat.min 1 n) rfl (by omega)
 rw[Aqo]at s1
 exact ⟨Nat.min 1 n,_,rfl,h2,fun h=>by rw[h3];split <;> omega,by omega,s1,h,hb⟩
theorem RInv.next {w2 w4:World} {G n k:Nat} {z:Int} {cur:List Value} (hk:k<n) (hp:0<k) (hl:cur.length=n) (ht:cur.take k=Apc k (.int .i64 z)) (h:w4.heap[G]? = some (.cells (splice cur k (Apc (Nat.min k (n-k)) (.int .i64 z))).toArray 3 (0,0))) (hb:Below G w2 w4):RInv w2 G n z (.int .i64 ((k+Nat.min k (n-k):Nat):Int)) w4∧n-(k+Nat.min k (n-k))<n-k:=by
 have h3:Nat.min k (n-k)=if k≤n-k then k else n-k:=Nat.min_def
 have h4:0<Nat.min k (n-k)∧k+Nat.min k (n-k)≤n:=by rw[h3];split <;> omega
 obtain ⟨s1,s2⟩:=AbJ (x:= .int .i64 z) (cur:=cur) (k:=k) (m:=Nat.min k (n-k)) ht (by omega)
 exact ⟨⟨_,_,rfl,h4.2,fun _=>by omega,by omega,s1,h,hb⟩,by omega⟩
def AcR(n:Nat)(z:Int)(w:World)(e:Ending)(w':World):Prop:=∃ G,e = .returned (.slice (some ⟨G,0,none⟩) n n)∧w.heap.size≤G∧SlI w' (.slice (some ⟨G,0,none⟩) n n) .i64 (Apc n z)∧Ext w w'
theorem AjW{w:World}{M:Nat→Prop}{v:Value}{l:List Int}(h:Rd Tryz.prog md w M (.ty 23) (dI l) v):SlI w v .i64 l:=by
 obtain ⟨h1,h2,h3⟩:=h
 have hc1:Tryz.prog.cellsOf 3=1:=by kernel_rfl
 unfold dI at h1
 cases h1 with
 | @sl _ e _ _ A cap bk off ht hc h4 h5 hA hh =>
  have he:e=3:=by
   have:Tryz.prog.underlying 23=some (.slice e):=ht
   rw[show Tryz.prog.underlying 23=some (.slice 3) by kernel_rfl]at this
   injection this with this;injection this with this;exact this.symm
  subst he
  have hv:v = .slice A (l.map D.int).length cap:=by
   have ha:Ds v=false:=by rw[h3];kernel_rfl
   rw[Ih ha]at hc
   simpa using hc
  refine ⟨A,cap,by rw[hv];simp,by simpa using h4,by simp,fun i x hx=> ?_⟩
  rw[Aps,Apq]at hx
  obtain ⟨b,hb,rfl⟩:=hx
  have hne:l.map D.int≠[]:=fun e=>by rw[List.map_eq_nil_iff.1 e]at hb;simp at hb
  obtain ⟨a1,a2,a3⟩:=hA hne
  have:=hh i (D.int b) (by rw[Aps,hb];rfl)
  rw[hc1]at this
  refine ⟨_,a1,a3,?_⟩
  cases this with
  | @int _ k _ _ ht' h1' h2' hc' =>
   have hk:k = .i64:=by
    have:Tryz.prog.underlying 3=some (.int k):=ht'
    rw[show Tryz.prog.underlying 3=some (.int .i64) by kernel_rfl]at this
    injection this with this;injection this with this;exact this.symm
   subst hk
   simp only[Nat.mul_one,Nat.add_zero]at hc'
   have ea:(⟨bk,off,none⟩:Addr).add i=⟨bk,off+i,none⟩:=by unfold Addr.add;split <;> simp_all
   rw[ea];exact hc'
theorem Al7{w:World}{M:Nat→Prop}{G n c:Nat}{l:List Int}(h:SlI w (.slice (some ⟨G,0,none⟩) n c) .i64 l)(hc:c≤maxLen)(hG : ¬ M G)(hr : ∀ x∈l,Bd x):Rd Tryz.prog md w M (.ty 23) (dI l) (.slice (some ⟨G,0,none⟩) n c):=by
 obtain ⟨h1,h2⟩:=h.len
 have hc1:Tryz.prog.cellsOf 3=1:=by kernel_rfl
 refine ⟨.sl (e:=3) (A:=some ⟨G,0,none⟩) (cap:=c) (bk:=G) (off:=0) (by kernel_rfl) (by rw[h1,Apd];rfl) (by rw[Apd];omega) hc (fun hne=> ?_) (fun i x hx=> ?_),by kernel_rfl,by kernel_rfl⟩
 · have:0<l.length:=List.length_pos_iff.2 (fun e=>hne (by rw[e];rfl))
   obtain ⟨ad,ha,hb,_⟩:=h.cellAt 0 this
   cases ha
   exact ⟨rfl,hG,hb⟩
 · rw[Aps,Apq]at hx
   obtain ⟨b,hb,rfl⟩:=hx
   have hi:i<l.length:=(Apf.1 hb).1
   obtain ⟨ad,ha,_,hcell⟩:=h.cellAt i hi
   cases ha
   have ea:(⟨G,0,none⟩:Addr).add i=⟨G,0+i,none⟩:=by unfold Addr.add;split <;> simp_all
   rw[ea]at hcell
   have hx:l[i]=b:=(Apf.1 hb).2
   rw[hx]at hcell
   have:=hr b (Aph hb)
   exact .int (k:= .i64) (by kernel_rfl) this.1 this.2 (by rw[hc1];simpa using hcell)
theorem YQ{w:World}{M:Nat→Prop}{v:Value}{n:Int}(h:Rd Tryz.prog md w M (.ty 3) (.int n) v):v = .int .i64 n∧Bd n:=by
 obtain ⟨h1,h2,h3⟩:=h
 have ha:Ds v=false:=by rw[h3];kernel_rfl
 cases h1 with
 | @int _ k _ _ ht h1' h2' hc' =>
  have hk:k = .i64:=by
   have:Tryz.prog.underlying 3=some (.int k):=ht
   rw[show Tryz.prog.underlying 3=some (.int .i64) by kernel_rfl]at this
   injection this with this;injection this with this;exact this.symm
  subst hk
  rw[Ih ha]at hc'
  exact ⟨by simpa using hc',h1',h2'⟩
theorem AY{k n:Nat}(hk:k<n)(hn:n≤1000000):Aom .i64 ((k:Int)+((Nat.min k (n-k):Nat):Int))=((k+Nat.min k (n-k):Nat):Int):=by
 have h2:Nat.min k (n-k)≤n-k:=Nat.min_le_right k (n-k)
 rw[Ax (by omega) (by omega)];omega
set_option maxHeartbeats 2000000 in
theorem Als(A:Option Addr)(c n:Nat)(z:Int)(w:World)(hn:n≤1000000)(hs:SlI w (.slice A 1 c) .i64 [z]):Calls Tryz.prog 177 #[.slice A 1 c,.int .i64 n] w (AcR n z w):=by
 have HS:=Lib.hid hs
 have hc1:=hs.len.2
 clear hs
 have hu:Tryz.prog.underlying 23=some (.slice 3):=by kernel_rfl
 have hz:(Tryz.prog.info? 3).map (·.size)=some 1:=by kernel_rfl
 have HU:=Lib.hid hu
 have HZ:=Lib.hid hz
 clear hu hz
 go_enter Tryz.func177,Tryz.ntmps177
 go_wp2_with (first
  | (go_at_call 231;refine (VB n (by omega) _).mono ?_;rintro e w1 ⟨rfl,hx1⟩)
  | (at_make;refine Ac_ AeB rfl _ _ rfl n rfl rfl (by omega) (by omega) (by omega) (by unfold maxLen;omega) ?_;intro G w2 X hG HG hX hx2;have HX:=Lib.hid hX;clear hX)
  | (refine wpList_copy_splice rfl (.tmp 31) (.tmp 32) 23 23 rfl 3 HU.out HZ.out (some ⟨G,0,none⟩) A n n 1 c (by simp[Act.eval,Act.put]) (by simp[Act.eval,Act.put]) G 0 X 3 HG.out (Apc (Nat.min 1 n) (.int .i64 z)) (by simp) (fun hp=>⟨rfl,Ana HS.out (hx1.trans hx2) _ (Nat.min_le_left _ _) hp⟩) (by have h1:=HX.out;have h2:Nat.min 1 n≤n:=Nat.min_le_right 1 n;simp only[Aqg];omega) (by intro v hv;rw[List.eq_of_mem_replicate hv];rfl) G w2 (Below.refl _ _) (Apo _) ?_;intro w3 HG3 hb3))
 go_loopw [8] (RInv w2 G n z) (fun iv _=>n-(intOf iv).toNat)
 case atStart=>exact RInv.start HX.out HG3.out hb3
 case round =>
  obtain ⟨k,cur,rfl,hk,hp,hl,ht,hh,hb⟩:=hrel
  have HT:=Lib.hid ht
  have HH:=Lib.hid hh
  have HB:=Lib.hid hb
  have HL:=Lib.hid hl
  clear ht hh hb hl
  by_cases hlt:k<n
  · have hpk:0<k:=hp (by omega)
    clear hp
    have HNE:=Lib.hid (show (if n=k then some (⟨G,0,none⟩:Addr) else some ⟨G,k,none⟩)=some ⟨G,k,none⟩ from if_neg (by omega))
    have HSR:=Lib.hid (Anc (w:=wr.drew) HH.out HT.out (Nat.min k (n-k)) (Nat.min_le_left _ _) (by have:=HL.out;omega))
    go_wp2_with fail
    go_region_law (refine step_copy_splice rfl (.tmp 41) (.tmp 44) 23 23 rfl 3 HU.out HZ.out (if n=k then some ⟨G,0,none⟩ else some ⟨G,k,none⟩) (some ⟨G,0,none⟩) (n-k) (n-k) k n (by simp[Act.eval,Act.put]) (by simp[Act.eval,Act.put]) G k cur 3 HH.out (Apc (Nat.min k (n-k)) (.int .i64 z)) (by simp) (fun _=>⟨HNE.out,_,rfl,HSR.out⟩) (by have h1:=HL.out;have h2:Nat.min k (n-k)≤n-k:=Nat.min_le_right k (n-k);simp only[Aqg];omega) (by intro v hv;rw[List.eq_of_mem_replicate hv];rfl) G w2 HB.out.drew (Apo _) ?_;intro w4 HG4 hb4)
    go_wp2
    go_roundw
    case rel =>
     rw[AY hlt (by omega)]
     exact (RInv.next hlt hpk HL.out HT.out HG4.out hb4).1
    case measure =>
     rw[AY hlt (by omega)]
     exact (RInv.next hlt hpk HL.out HT.out HG4.out hb4).2
  · have hkn:k=n:=by omega
    subst hkn
    go_wp2_with fail
    go_ret
    have hh:=HH.out
    have hcur:cur=(Apc k z).map (.int .i64):=by
     have h1:=HT.out
     rw[Ap_ (by have:=HL.out;omega)]at h1
     rw[h1];simp
    rw[hcur]at hh
    exact ⟨G,rfl,Nat.le_trans hx1.size hG,SlI.made hh (by simp) (Apo _),Below.trans (hx1.trans hx2) (Below.mono HB.out (Nat.le_trans hx1.size hG))⟩
theorem Aan(n:Nat)(z:Int)(hn:n≤1000000)(hz:Bd z):Sp 177 [dI [z],.int (n:Int)] [dI (Apc n z)]:=by
 refine CW Lz Tryz.func177 (by kernel_rfl) (by kernel_rfl) (by kernel_rfl) (fun w M vs hM _ hlv hrd=> ?_)
 have hps:Tryz.f177.params.toList = [23,3]:=by kernel_rfl
 have hlen:vs.length=2:=by rw[hlv];rfl
 match vs,hlen with
 | [va,vb],_ =>
  rw[hps]at hrd
  have hs:=AjW (hrd 0 _ _ _ rfl rfl rfl)
  obtain ⟨rfl,_⟩:=YQ (hrd 1 _ _ _ rfl rfl rfl)
  obtain ⟨A,c,rfl,_,_⟩:=hs.form
  refine (Als A c n z w hn hs).mono ?_
  rintro e w' ⟨G,rfl,hG,hv,hx⟩
  refine ⟨[_],rfl,rfl,fun i t u ht hu=> ?_,hx⟩
  rw[show Tryz.f177.resultTypes.toList = [23] by kernel_rfl]at ht
  match i with
  | 0=>cases ht;cases hu;exact Al7 hv (by unfold maxLen;omega) (fun hm=>by have:=hM G hm;omega) (fun x hx=>by rw[List.eq_of_mem_replicate hx];exact hz)
  | i+1=>simp at ht
end Go.Proofs.YtokkbgpgaheakaaGreat
namespace Go.Proofs.YtokkbgpgaheakaaGreat
def V0:List (Nat×Orc):=[(7,⟨[(2,none),(3,none),(4,none),(5,none),(7,some 23),(8,none),(26,some 23),(27,none),(28,none)],[(2,true),(3,true),(4,false),(5,false),(8,false)],[(.fld 8 [0],1070,3),(.fld 8 [1],1071,3)]⟩)]
noncomputable def Rw(n m7:Nat)(s7 t26:D)(t27 t28:Int)(nn2 a3:D)(r4_0 e5:Int)(w8_0 w8_1:List D):Tree :=
 lA (eA V0 n 39 [1,1,1,1,1,0,1,0,0]) (An V0 7) m7 ⟨(.undef:: .undef:: .ptr 2 []:: .ptr 3 []:: .ptr 4 []:: .ptr 5 []:: .undef:: .d 23 s7:: .ptr 8 []::uA 17++(.d 23 t26:: .i .i64 t27:: .i .i64 t28::uA 47)),[(2,.var 26 (.d 26 nn2) true),(3,.var 26 (.d 26 a3) true),(4,.var 26 (.agg 26 [.i .u64 r4_0,.mt,.mt]) true),(5,.var 29 (.i .i64 e5) true),(8,.var 99 (.agg 99 [.row 1070,.row 1071]) true),(1070,.row 3 w8_0 true),(1071,.row 3 w8_1 true)],[2,3,4,5,8,1070,1071],[(97,[.ptr 4 [],.ptr 5 []])],[]⟩
  (Ak 0 (Aq (jA V0 n 39 [1,1,1,1,1,1]) (rA 39 [26,26] [.cell 4 26,.cell 5 29] [26,29])))
theorem PQ(n m7:Nat)(s7 t26:D)(t27 t28:Int)(nn2 a3:D)(r4_0 e5:Int)(w8_0 w8_1:List D):Rw n (m7+1) s7 t26 t27 t28 nn2 a3 r4_0 e5 w8_0 w8_1 =
 bK (t28<t27) (kK (0≤t28) (kK (t28<(t26.els.length:Int)) (cK 100 [D.int ((t26.els.getD (Apa t28) D.nil).toInt)] fun Y3 =>
 kK (0≤t28) (kK (t28<(w8_1.length:Int)) (bK (((t26.els.getD (Apa t28) D.nil).toInt)<0) (kK (0≤t28) (kK (t28<(s7.els.length:Int)) (kK (0≤t28) (kK (t28<((w8_1.set (Apa t28) (D.int ((qA Y3).toInt))).length:Int)) (kK (0≤t28) (kK (t28<(w8_0.length:Int)) (Rw n m7 s7 t26 t27 (Aom .i64 (t28+1)) nn2 a3 r4_0 e5 (w8_0.set (Apa t28) (D.int (Aom .i64 (((s7.els.getD (Apa t28) D.nil).toInt)-(((w8_1.set (Apa t28) (D.int ((qA Y3).toInt))).getD (Apa t28) D.nil).toInt))))) (w8_1.set (Apa t28) (D.int ((qA Y3).toInt))))))))))
 (Rw n m7 s7 t26 t27 (Aom .i64 (t28+1)) nn2 a3 r4_0 e5 w8_0 (w8_1.set (Apa t28) (D.int ((qA Y3).toInt)))))))))
 (cK 81 [D.sl w8_1] fun Y4 =>
 .br (((qB Y4).toInt)!=0) (.ret [D.agg [D.int 0,D.sl [],D.sl []],D.int ((qB Y4).toInt)])
 (cK 102 [D.agg [D.sl w8_0,D.sl w8_1],a3,s7,D.int ((qA Y4).toInt)] fun Y5 =>
 cK 101 [nn2,a3,D.sl w8_1,qA Y5] fun Y6 =>
 .ret [qA Y6,D.int 0])):=by kernel_rfl
theorem Aeg(n:Nat)(nn0 a1:D):fA V0 n 39 [] [nn0,a1] =
 cK 98 [nn0,a1] fun Y1 =>
 .br (((qC Y1).toInt)!=0) (.ret [D.agg [D.int 0,D.sl [],D.sl []],D.int ((qC Y1).toInt)])
 (cK 99 [qB Y1] fun Y2 =>
 Rw n n (qB Y1) (qA Y1) (((qA Y1).els).length:Int) 0 nn0 a1 0 ((qC Y1).toInt) (((qA Y2).fld 0).els) (((qA Y2).fld 1).els)):=by kernel_rfl
def Vz:List (Nat×Orc):=[(7,⟨[(2,none),(3,none),(4,none),(5,none),(7,some 23),(8,none),(27,some 23),(28,none),(29,none)],[(2,true),(3,true),(4,false),(5,false),(8,false)],[(.fld 8 [0],1070,3),(.fld 8 [1],1071,3)]⟩)]
noncomputable def Rv(n m7:Nat)(s7 t27:D)(t28 t29:Int)(nn2 a3:D)(r4_0 e5:Int)(w8_0 w8_1:List D):Tree :=
 lA (eA Vz n 40 [1,1,1,1,1,0,1,0,0]) (An Vz 7) m7 ⟨(.undef:: .undef:: .ptr 2 []:: .ptr 3 []:: .ptr 4 []:: .ptr 5 []:: .undef:: .d 23 s7:: .ptr 8 []::uA 18++(.d 23 t27:: .i .i64 t28:: .i .i64 t29::uA 49)),[(2,.var 26 (.d 26 nn2) true),(3,.var 26 (.d 26 a3) true),(4,.var 26 (.agg 26 [.i .u64 r4_0,.mt,.mt]) true),(5,.var 29 (.i .i64 e5) true),(8,.var 99 (.agg 99 [.row 1070,.row 1071]) true),(1070,.row 3 w8_0 true),(1071,.row 3 w8_1 true)],[2,3,4,5,8,1070,1071],[(103,[.ptr 4 [],.ptr 5 []])],[]⟩
  (Ak 0 (Aq (jA Vz n 40 [1,1,1,1,1,1]) (rA 40 [26,26] [.cell 4 26,.cell 5 29] [26,29])))
theorem PP(n m7:Nat)(s7 t27:D)(t28 t29:Int)(nn2 a3:D)(r4_0 e5:Int)(w8_0 w8_1:List D):Rv n (m7+1) s7 t27 t28 t29 nn2 a3 r4_0 e5 w8_0 w8_1 =
 bK (t29<t28) (kK (0≤t29) (kK (t29<(t27.els.length:Int)) (cK 100 [D.int ((t27.els.getD (Apa t29) D.nil).toInt)] fun Y3 =>
 kK (0≤t29) (kK (t29<(s7.els.length:Int)) (kK (0≤t29) (kK (t29<(s7.els.length:Int)) (kK (0≤t29) (kK (t29<(w8_1.length:Int)) (bK (0<((t27.els.getD (Apa t29) D.nil).toInt)) (kK (0≤t29) (kK (t29<(w8_0.length:Int)) (Rv n m7 s7 t27 t28 (Aom .i64 (t29+1)) nn2 a3 r4_0 e5 (w8_0.set (Apa t29) (D.int (if ((s7.els.getD (Apa t29) D.nil).toInt)<((qA Y3).toInt) then ((s7.els.getD (Apa t29) D.nil).toInt) else ((qA Y3).toInt)))) (w8_1.set (Apa t29) (D.int (Aom .i64 (((s7.els.getD (Apa t29) D.nil).toInt)-(if ((s7.els.getD (Apa t29) D.nil).toInt)<((qA Y3).toInt) then ((s7.els.getD (Apa t29) D.nil).toInt) else ((qA Y3).toInt)))))))))
 (Rv n m7 s7 t27 t28 (Aom .i64 (t29+1)) nn2 a3 r4_0 e5 w8_0 (w8_1.set (Apa t29) (D.int (Aom .i64 (((s7.els.getD (Apa t29) D.nil).toInt)-(if ((s7.els.getD (Apa t29) D.nil).toInt)<((qA Y3).toInt) then ((s7.els.getD (Apa t29) D.nil).toInt) else ((qA Y3).toInt))))))))))))))))
 (cK 81 [D.sl w8_1] fun Y4 =>
 .br (((qB Y4).toInt)!=0) (.ret [D.agg [D.int 0,D.sl [],D.sl []],D.int ((qB Y4).toInt)])
 (cK 102 [D.agg [D.sl w8_0,D.sl w8_1],a3,s7,D.int ((qA Y4).toInt)] fun Y5 =>
 cK 101 [nn2,a3,D.sl w8_1,qA Y5] fun Y6 =>
 .ret [qA Y6,D.int 0])):=by kernel_rfl
theorem Aee(n:Nat)(nn0 a1:D):fA Vz n 40 [] [nn0,a1] =
 cK 98 [nn0,a1] fun Y1 =>
 .br (((qC Y1).toInt)!=0) (.ret [D.agg [D.int 0,D.sl [],D.sl []],D.int ((qC Y1).toInt)])
 (cK 99 [qB Y1] fun Y2 =>
 Rv n n (qB Y1) (qA Y1) (((qA Y1).els).length:Int) 0 nn0 a1 0 ((qC Y1).toInt) (((qA Y2).fld 0).els) (((qA Y2).fld 1).els)):=by kernel_rfl
theorem Aeh(n:Nat)(nn0 a1:D):fA [] n 98 [] [nn0,a1] =
 cK 80 [nn0] fun Y1 =>
 .br (((qB Y1).toInt)!=0) (.ret [D.sl [],D.sl [],D.int ((qB Y1).toInt)])
 (bK (0<(((a1.fld 1).els).length:Int)) (bK ((((a1.fld 1).els).length:Int)<(((qA Y1).els).length:Int)) (.ret [D.sl [],D.sl [],D.int 4])
 (cK 96 [a1.fld 1] fun Y2 =>
 .ret [qA Y1,D.sl ((qA Y2).els),D.int 0]))
 (bK (6<(((qA Y1).els).length:Int)) (.ret [D.sl [],D.sl [],D.int 7])
 (cK 177 [D.sl [D.int 1],D.int (((qA Y1).els).length:Int)] fun Y3 =>
 .ret [qA Y1,qA Y3,D.int 0]))):=by kernel_rfl
theorem Aej(n:Nat)(s0:D):fA [] n 99 [] [s0] =
 kK (0≤(s0.els.length:Int)) (kK ((s0.els.length:Int)≤(s0.els.length:Int)) (kK ((s0.els.length:Int)≤Am) (cK 96 [s0] fun Y1 =>
 .ret [D.agg [D.sl (Apc (Apa (s0.els.length:Int)) (D.int 0)),D.sl ((qA Y1).els)]]))):=by kernel_rfl
theorem Aei(n:Nat)(k0:D):fA [] n 100 [] [k0] =
 bK (2049<k0.toInt) (.ret [D.int 2049])
 (bK (k0.toInt<(-2049)) (.ret [D.int 2049])
 (.ret [D.int (if k0.toInt<(Aom .i64 (0-k0.toInt)) then (Aom .i64 (0-k0.toInt)) else k0.toInt)])):=by kernel_rfl
theorem Aem(n:Nat)(nn0 a1:D)(s2 cells3:D):fA [] n 101 [] [nn0,a1,s2,cells3] =
 cK 84 [nn0] fun Y1 =>
 cK 83 [D.int ((a1.fld 0).toInt),D.int ((qA Y1).toInt)] fun Y2 =>
 .ret [D.agg [D.int ((qA Y2).toInt),s2,cells3]]:=by kernel_rfl
def Hp:List (Nat×Orc):=[(4,⟨[(2,some 23),(4,none),(5,none),(9,none),(10,none),(21,none),(22,none)],[(4,true),(5,true),(9,true)],[(.slot 10,1040,67)]⟩),(8,⟨[(2,some 23),(4,none),(5,none),(9,none),(10,none),(12,none),(21,none),(22,none),(33,none),(34,none)],[(4,true),(5,true),(9,true)],[(.slot 10,1080,67),(.slot 12,1081,3)]⟩)]
def FT:List Nat:=[99,26,23,3]
noncomputable def V2(n m4 m8:Nat)(s2:D)(r10 at12:List D)(t21 t22:Int)(t33 t34:Int)(w4 a5 fill9:D):Tree :=
 lA (eA Hp n 102 [1,1,1,0,1,0,0,1,1,0,0,1,1,0,1,0,0]) (An Hp 8) m8 ⟨(.undef:: .undef:: .d 23 s2:: .undef:: .ptr 4 []:: .ptr 5 []::uA 3++(.ptr 9 []:: .row 1080:: .undef:: .row 1081::uA 8++(.i .i64 t21:: .i .i64 t22::uA 10++(.i .i64 t33:: .i .i64 t34::uA 35)))),[(4,.var 99 (.d 99 w4) true),(5,.var 26 (.d 26 a5) true),(9,.var 67 (.d 67 fill9) true),(1080,.row 67 r10 true),(1081,.row 3 at12 true)],[4,5,9,1080,1081],[],[]⟩
  (Ak 2 (Aq (jA Hp n 102 [1,1,1,0,1,0,0,1,1,0,0,1,1,1]) (Ak 1 (Aq (jA Hp n 102 [1,1,1,0,1,0,0,1,1,1]) (Gb Tryz.prog md (An Hp 4) (fun s1=>lA (eA Hp n 102 [1,1,1,0,1,0,0]) (An Hp 4) m4 s1 (Ak 0 (Aq (jA Hp n 102 [1,1,1,1]) (rA 102 FT [.tmp 8] [24])))) (Ak 0 (Aq (jA Hp n 102 [1,1,1,1]) (rA 102 FT [.tmp 8] [24]))))))))
noncomputable def Md(n m4:Nat)(s2:D)(r10:List D)(t21 t22:Int)(w4 a5 fill9:D):Tree :=
 lA (eA Hp n 102 [1,1,1,0,1,0,0]) (An Hp 4) m4 ⟨(.undef:: .undef:: .d 23 s2:: .undef:: .ptr 4 []:: .ptr 5 []::uA 3++(.ptr 9 []:: .row 1040::uA 10++(.i .i64 t21:: .i .i64 t22::uA 47))),[(4,.var 99 (.d 99 w4) true),(5,.var 26 (.d 26 a5) true),(9,.var 67 (.d 67 fill9) true),(1040,.row 67 r10 true)],[4,5,9,1040],[],[]⟩
  (Ak 0 (Aq (jA Hp n 102 [1,1,1,1]) (rA 102 FT [.tmp 8] [24])))
theorem PW(n m4 m8:Nat)(s2:D)(r10 at12:List D)(t21 t22:Int)(t33 t34:Int)(w4 a5 fill9:D):V2 n m4 (m8+1) s2 r10 at12 t21 t22 t33 t34 w4 a5 fill9 =
 bK (t34<t33) (kK (0≤t34) (kK (t34<(at12.length:Int)) (kK (0≤t34) (kK (t34<(((w4.fld 0).els).length:Int)) (kK (0≤t34) (kK (t34<(at12.length:Int)) (V2 n m4 m8 s2 r10 (at12.set (Apa t34) (D.int (Aom .i64 (((at12.getD (Apa t34) D.nil).toInt)+((((w4.fld 0).els).getD (Apa t34) D.nil).toInt))))) t21 t22 t33 (Aom .i64 (t34+1)) w4 a5 fill9)))))))
 (cK 176 [s2,D.sl at12] fun Y3 =>
 .br ((qB Y3).toBool) (kK (0≤(qA Y3).toInt) (kK ((qA Y3).toInt<(((a5.fld 2).els).length:Int)) (kK (r10.length + [((a5.fld 2).els).getD (Apa ((qA Y3).toInt)) D.nil].length≤Am) (Md n m4 s2 (r10++[((a5.fld 2).els).getD (Apa ((qA Y3).toInt)) D.nil]) t21 (Aom .i64 (t22+1)) w4 a5 fill9))))
 (kK (r10.length + [fill9].length≤Am) (Md n m4 s2 (r10++[fill9]) t21 (Aom .i64 (t22+1)) w4 a5 fill9))):=by kernel_rfl
theorem PV(n m4:Nat)(s2:D)(r10:List D)(t21 t22:Int)(w4 a5 fill9:D):Md n (m4+1) s2 r10 t21 t22 w4 a5 fill9 =
 bK (t22<t21) (cK 175 [w4.fld 1,D.int t22] fun Y2 =>
 V2 n m4 n s2 r10 ((qA Y2).els) t21 t22 (((qA Y2).els).length:Int) 0 w4 a5 fill9)
 (.ret [D.sl r10]):=by kernel_rfl
theorem Aen(n:Nat)(w0 a1:D)(s2 count3:D):fA Hp n 102 [] [w0,a1,s2,count3] =
 cK 82 [a1] fun Y1 =>
 kK (0≤0) (kK (0≤count3.toInt) (kK (count3.toInt≤Am) (Md n n s2 (Apc (Apa 0) (D.agg [D.int 0,D.int 0,D.agg [D.bool false,D.sl [],D.sl []],D.int 0,D.sl []])) count3.toInt 0 w0 a1 (qA Y1)))):=by kernel_rfl
def No:List Int→Int→List Int
 | [],_=>[]
 | x::xs,n=>Int.tmod n x::No xs (Int.tdiv n x)
def J0(s:List Int)(n:Int):List Int:=(No s.reverse n).reverse
theorem QG : ∀ (l:List Int) (n:Int),(No l n).length=l.length
 | [],_=>rfl
 | x::xs,n=>by simp[No,QG xs]
theorem O6(s:List Int)(n:Int):(J0 s n).length=s.length:=by simp[J0,QG]
def Kc:List Int→List Int→Int→Option Int
 | [],_,o=>some o
 | _::_,[],_=>none
 | x::xs,a::as_,o=>if a<0∨x≤a then none else Kc xs as_ (Aom .i64 (Aom .i64 (o*x)+a))
def Hx(s at_:List Int):Option Int:=if (A7 s).2=0∧at_.length=s.length then Kc s at_ 0 else none
theorem SR : ∀ {s at_:List Int} {o:Int},(0:Int)∈s→Kc s at_ o=none
 | x::xs,[],o,_=>rfl
 | x::xs,a::as_,o,h=>by
  simp only[Kc]
  split
  · rfl
  · rename_i hc
    rcases Apt.1 h with h | h
    · subst h;omega
    · exact SR h
theorem Ajo{x:Int}{xs:List Int}{p:Int}(h:A_ (x::xs) p≠0):p*x≤2048∧A_ xs (p*x)≠0:=by
 rw[Ob]at h
 split at h
 · exact absurd rfl h
 · exact ⟨by omega,h⟩
theorem SQ : ∀ {s at_:List Int} {o p k:Int},(∀ x∈s,1≤x∧x≤2048)→0≤o→o<p→p≤2048→A_ s p≠0→Kc s at_ o=some k→0≤k∧k<A_ s p
 | [],at_,o,p,k,_,h0,h1,_,_,h=>by
  simp only[Kc,Apk]at h
  subst h
  exact ⟨h0,h1⟩
 | x::xs,[],o,p,k,_,_,_,_,_,h=>by simp[Kc]at h
 | x::xs,a::as_,o,p,k,hx,h0,h1,h2,hp,h=>by
  simp only[Kc]at h
  split at h
  · cases h
  · rename_i hc
    have hxx:=hx x (by simp)
    obtain ⟨q1,q2⟩:=Ajo hp
    have m1:(o+1)*x≤p*x:=Int.mul_le_mul_of_nonneg_right (by omega) (by omega)
    have m2:0≤o*x:=Int.mul_nonneg h0 (by omega)
    rw[Int.add_mul,Int.one_mul]at m1
    rw[Ax (x:=o*x) (by omega) (by omega),Ax (by omega) (by omega)]at h
    have:=SQ (s:=xs) (p:=p*x) (fun y hy=>hx y (by simp[hy])) (by omega) (by omega) q1 q2 h
    rw[Ob,if_neg (by omega)]
    exact this
theorem J6{s:List Int}{c:Int}(h:A7 s=(c,0)):s.length≤6∧(((0:Int)∈s∧c=0)∨((∀ x∈s,1≤x∧x≤2048)∧A_ s 1=c∧c≠0)):=by
 unfold A7 at h
 split at h
 · cases h
 split at h
 · cases h
 split at h
 · cases h
 · rename_i h1 h2 h3
   refine ⟨by omega,?_⟩
   split at h
   · rename_i h4
     obtain ⟨x,hx,h5⟩:=List.any_eq_true.1 h4
     have:x=0:=by simpa using h5
     subst this
     exact .inl ⟨hx,by injection h with h;exact h.symm⟩
   · rename_i h4
     split at h
     · cases h
     · rename_i h5
       injection h with h
       exact .inr ⟨Vw h2 h3 h4,h,by omega⟩
theorem SP{s at_:List Int}{c k:Int}(hc:A7 s=(c,0))(h:Hx s at_=some k):0≤k∧k<c:=by
 unfold Hx at h
 split at h
 · rcases (J6 hc).2 with ⟨h0,_⟩ | ⟨h1,h2,h3⟩
   · rw[SR h0]at h;cases h
   · rw[← h2]
     exact SQ h1 (by omega) (by omega) (by omega) (by rw[h2];exact h3) h
 · cases h
theorem NE{k:Nat}(h:k≤9223372036854775807):Aom .i64 ((k:Int)-1)=(k:Int)-1:=Ax (by omega) (by omega)
theorem HI{l:List Int}{k:Nat}{x:Int}(h:l[k]? = some x):l.take (k+1)=l.take k++[x]:=by
 rw[List.take_add_one,h];rfl
theorem Hv{l:List Int}{i:Nat}(h:i<l.length):(l.map D.int).getD i D.nil=D.int (l.getD i 0):=by
 rw[Aw (Apb h),Ape,Apb h];rfl
def O5(s:List Int)(n:Int):List D:=if (A7 s).2=0∧0≤n∧n<(A7 s).1 then [dI (J0 s n),.bool true] else [.sl [],.bool false]
theorem Ae8(out:List Int)(k:Nat)(v:Int)(h:k<out.length):(out.set k v).drop k=v::out.drop (k+1):=by
 rw[Ap1 (by simpa using h)]
 simp[List.drop_set]
theorem Abq(s:List Int)(n:Int):Sp 175 [dI s,.int n] (O5 s n):=by
 refine Af (s.length+1) (Amk _ _ _) (Aa (Ol s) ?_)
 unfold O5
 simp only[Ai]
 refine Ae (fun h=>Ac (by rw[if_neg (fun hh=>h hh.1)])) (fun h=>Ae (fun h1=>Ac (by rw[if_neg (by omega)])) (fun h1=>Ae (fun h2=>Ac (by rw[if_neg (by omega)])) (fun h2=> ?_)))
 have hc0:(A7 s).2=0:=Apm.1 h
 rw[if_pos ⟨hc0,by omega,by omega⟩]
 obtain ⟨c1,c2⟩:=J6 (s:=s) (c:=(A7 s).1) (by rw[← hc0])
 have hpos : ∀ x∈s,1≤x∧x≤2048:=by
  rcases c2 with ⟨_,c2⟩ | ⟨c2,_⟩
  · omega
  · exact c2
 have hle:=(Fw s).2
 refine Ad (Ad (A0 (by simp only[Am];omega) ?_))
 have key:=Ji (P:=Tryz.prog) (md:=md) (fun m k (st:Int×List Int)=>BQ (s.length+1) m (dI s) st.1 (st.2.map D.int) ((k:Int)-1)) (fun k st=>[dI ((No (s.take k).reverse st.1).reverse++st.2.drop k),.bool true]) (fun k st=>k≤s.length∧st.2.length=s.length∧0≤st.1∧st.1≤2048)
  (fun m st hI=>by
   simp only[Abp]
   refine At (Ac ?_)
   simp[No,dI])
  (fun m k st hI ih=>by
   obtain ⟨i1,i2,i3,i4⟩:=hI
   have hg:s[k]? = some s[k]:=Apb (by omega)
   have hx:=hpos _ (Aph hg)
   generalize s[k]=x at hg hx
   have e:((k+1:Nat):Int)-1=(k:Int):=by omega
   have m1:0≤Int.tdiv st.1 x:=Int.tdiv_nonneg i3 (by omega)
   have m2:Int.tdiv st.1 x≤st.1:=by rw[Int.tdiv_eq_ediv_of_nonneg i3];exact Int.ediv_le_self _ i3
   simp only[Abp,Ai,e,Aw hg]
   have hb:(!decide (x=0))=true:=by simp;omega
   rw[NE (by omega),Ax (x:=Int.tdiv st.1 x) (by omega) (by omega)]
   refine Ad (Ad (Ad (Ad (Ad (Ad (Ad (Ad (Ad ?_))))))))
   have:=ih (Int.tdiv st.1 x,st.2.set k (Int.tmod st.1 x)) ⟨by omega,by simpa using i2,m1,by omega⟩
   rw[List.map_set]at this
   refine Tree.wp_mono this (fun ys hy=>hy.trans ?_)
   simp only
   rw[Ae8 _ _ _ (by omega),HI hg,List.reverse_append,List.reverse_cons,List.reverse_nil,Aqp,List.singleton_append,No,List.reverse_cons]
   simp)
  (s.length+1) s.length (n,Apc s.length 0) (by omega) ⟨by omega,by simp,by omega,by omega⟩
 rw[NE (by omega)]
 have e2:Apc s.length (D.int 0)=(Apc s.length (0:Int)).map D.int:=by simp
 rw[e2]
 refine Tree.wp_mono key (fun ys hy=>hy.trans ?_)
 simp[J0]
def Sk(o:Option Int):List D:=match o with | some k=>[.int k,.bool true] | none=>[.int 0,.bool false]
theorem Abs(s at_:List Int)(hl:at_.length≤1000000):Sp 176 [dI s,dI at_] (Sk (Hx s at_)):=by
 refine Af (s.length+1) (Amo _ _ _) (Aa (Ol s) ?_)
 unfold Hx
 simp only[Ai]
 refine Ae (fun h=>Ac (by rw[if_neg (fun hh=>h hh.1)];rfl)) (fun h=>Ae (fun h1=>Ac (by rw[if_neg (by omega)];rfl)) (fun h1=> ?_))
 rw[if_pos ⟨Apm.1 h,by omega⟩]
 have key:=Ca s (fun m k (o:Int)=>BT (s.length+1) m (dI at_) o (dI s) (s.length:Int) (k:Int)) (fun rest o=>Sk (Kc rest (at_.drop (s.length-rest.length)) o)) (fun _ _=>True)
  (fun m k o hk _=>by
   simp only[Abr]
   exact At (Ac rfl))
  (fun m k o x rest hdr _ ih=>by
   obtain ⟨h4,h2,h3⟩:=B6 hdr
   have hle:=congrArg Aql hdr
   rw[App,Apg]at hle
   have hg:at_[k]? = some at_[k]:=Apb (by omega)
   have hd:at_.drop k=at_[k]::at_.drop (k+1):=Ap1 (by omega)
   generalize at_[k]=a at hg hd
   rw[show s.length-(x::rest).length=k by rw[Apg];omega,hd]
   have ih':=fun o'=>ih o' trivial
   rw[show s.length-rest.length=k+1 by omega]at ih'
   simp only[Abr,Ai,Aw h2,Aw hg,Bh k,Kc]
   refine Ad (Ad (Ad (Ad (Ad (Ae (fun g=>Ac (by rw[if_pos (.inl g)];rfl)) (fun g=>Ad (Ad (Ae (fun g2=>Ac (by rw[if_pos (.inr g2)];rfl)) (fun g2=>Ad (Ad ?_))))))))))
   rw[if_neg (by omega)]
   exact ih' _)
  (s.length+1) 0 0 (by omega) (by omega) trivial
 simpa using key
def G8(k:Int):Int:=if 2049<k then 2049 else if k < -2049 then 2049 else if k<0-k then 0-k else k
theorem SF(k:Int):0≤G8 k∧G8 k≤2049:=by
 unfold G8;split;· omega
 split;· omega
 split <;> omega
def Ct(n a:Arr):List Int×List Int×Int :=
 if (A9 n).2=0 then (if 0<a.shape.length then (if a.shape.length<(A9 n).1.length then ([],[],4) else ((A9 n).1,a.shape,0)) else if 6<(A9 n).1.length then ([],[],7) else ((A9 n).1,Apc (A9 n).1.length 1,0)) else ([],[],(A9 n).2)
def Ka:List Int→List Int→List Int
 | k::l,x::s=>(if k<0 then x-G8 k else 0)::Ka l s
 | _,s=>Apc s.length 0
def Kt:List Int→List Int→List Int
 | k::l,_::s=>G8 k::Kt l s
 | _,s=>s
def Ll(k x:Int):Int:=if x<G8 k then x else G8 k
def J_:List Int→List Int→List Int
 | k::l,x::s=>(if 0<k then Ll k x else 0)::J_ l s
 | _,s=>Apc s.length 0
def Ks:List Int→List Int→List Int
 | k::l,x::s=>(x-Ll k x)::Ks l s
 | _,s=>s
theorem RQ : ∀ l s,(Ka l s).length=s.length
 | k::l,x::s=>by simp[Ka,RQ l s]
 | [],s=>by simp[Ka]
 | k::l,[]=>by simp[Ka]
theorem LY : ∀ l s,(Kt l s).length=s.length
 | k::l,x::s=>by simp[Kt,LY l s]
 | [],s=>by simp[Kt]
 | k::l,[]=>by simp[Kt]
theorem RP : ∀ l s,(J_ l s).length=s.length
 | k::l,x::s=>by simp[J_,RP l s]
 | [],s=>by simp[J_]
 | k::l,[]=>by simp[J_]
theorem LX : ∀ l s,(Ks l s).length=s.length
 | k::l,x::s=>by simp[Ks,LX l s]
 | [],s=>by simp[Ks]
 | k::l,[]=>by simp[Ks]
def Ib:List Int→List Int→List Int
 | a::as_,f::fs=>Aom .i64 (a+f)::Ib as_ fs
 | _,_=>[]
theorem NO : ∀ a f,a.length≤f.length→(Ib a f).length=a.length
 | a::as_,f::fs,h=>by simp[Ib,NO as_ fs (by simpa using h)]
 | [],f,h=>by simp[Ib]
 | a::as_,[],h=>by simp at h
def M5(cs:List Cell)(fill:Cell)(s from_ size:List Int)(i:Nat):Cell:=match Hx s (Ib (J0 size (i:Int)) from_) with
 | some k=>cs.getD k.toNat fill
 | none=>fill
def Gx(a:Arr)(s from_ size:List Int)(K:Nat):List Cell:=(Ap8 K).map (M5 a.cells (Cl a) s from_ size)
def Ev(n a:Arr)(s from_ size:List Int):Arr×Int:=if (A7 size).2=0 then (.mk (a.s|||Au n) size (Gx a s from_ size (A7 size).1.toNat),0) else (.none,(A7 size).2)
def I3(n a:Arr):Arr×Int:=if (Ct n a).2.2=0 then Ev n a (Ct n a).2.1 (Ka (Ct n a).1 (Ct n a).2.1) (Kt (Ct n a).1 (Ct n a).2.1) else (.none,(Ct n a).2.2)
def Ij(n a:Arr):Arr×Int:=if (Ct n a).2.2=0 then Ev n a (Ct n a).2.1 (J_ (Ct n a).1 (Ct n a).2.1) (Ks (Ct n a).1 (Ct n a).2.1) else (.none,(Ct n a).2.2)
theorem OR{n a:Arr}(h:(Ct n a).2.2=0)(ha:a.shape.length≤6):(Ct n a).1.length≤(Ct n a).2.1.length∧(Ct n a).2.1.length≤6:=by
 unfold Ct at h ⊢
 split at h
 · rename_i h1
   rw[if_pos h1]
   split at h
   · rename_i h2
     rw[if_pos h2]
     split at h
     · cases h
     · rename_i h3;rw[if_neg h3];simp only;omega
   · rename_i h2
     rw[if_neg h2]
     split at h
     · cases h
     · rename_i h3;rw[if_neg h3];simp only[Aqg];omega
 · rename_i h1;exact absurd h h1
theorem Aea : ∀ k:Nat,k≤6→A7 (Apc k 1)=(1,0):=by decide
theorem OQ{n a:Arr}(h:(Ct n a).2.2=0)(ha:A7 a.shape=((a.cells.length:Int),0)):A7 (Ct n a).2.1=((a.cells.length:Int),0):=by
 unfold Ct at h ⊢
 split at h
 · rename_i h1
   rw[if_pos h1]
   split at h
   · rename_i h2
     rw[if_pos h2]
     split at h
     · cases h
     · rename_i h3;rw[if_neg h3];exact ha
   · rename_i h2
     rw[if_neg h2]
     split at h
     · cases h
     · rename_i h3
       rw[if_neg h3]
       simp only
       rw[Aea _ (by omega)]
       have:a.shape = []:=Ap2.1 (by omega)
       rw[this]at ha
       have e:A7 []=(1,0):=by decide
       rw[e]at ha
       exact ha
 · rename_i h1;exact absurd h h1
theorem PT(k:Int):Sp 100 [.int k] [.int (G8 k)]:=by
 refine Af 0 (Aei _ _) ?_
 unfold G8
 simp only[Ai]
 refine Ae (fun h=>Ac (by rw[if_pos h])) (fun h=>Ae (fun h1=>Ac (by rw[if_neg h,if_pos h1])) (fun h1=>Ac ?_))
 rw[if_neg h,if_neg h1]
 have e:Aom .i64 (0-k)=0-k:=Ax (by omega) (by omega)
 simp only[Ao,e]
theorem PR(n a:Arr)(hn:Fits n)(hnl:n.cells.length≤2048)(hnt : ∀ c∈n.cells,c.n.top.length≤32)(ha:a.shape.length≤1048576):Sp 98 [dA n,dA a] [dI (Ct n a).1,dI (Ct n a).2.1,.int (Ct n a).2.2]:=by
 refine Af 0 (Aeh _ _ _) (Aa (K9 n hnl hnt) ?_)
 unfold Ct
 simp only[Ai]
 refine Ae (fun h=>Ac (by rw[if_neg h];rfl)) (fun h=> ?_)
 rw[if_pos (Apm.1 h)]
 refine Ae (fun h1=> ?_) (fun h1=> ?_)
 · rw[if_pos (by omega)]
   refine Ae (fun h2=>Ac (by rw[if_pos (by omega)];rfl)) (fun h2=> ?_)
   rw[if_neg (by omega)]
   exact Aa (J3 a.shape ha) (Ac rfl)
 · rw[if_neg (by omega)]
   refine Ae (fun h2=>Ac (by rw[if_pos (by omega)];rfl)) (fun h2=> ?_)
   rw[if_neg (by omega)]
   exact Aa (Aan (A9 n).1.length 1 (by omega) (Dk (by decide) (by decide))) (Ac rfl)
theorem PU(s:List Int)(h:s.length≤1048576):Sp 99 [dI s] [.agg [dI (Apc s.length 0),dI s]]:=by
 refine Af 0 (Aej _ _) ?_
 simp only[Ai]
 refine Ad (Ad (A0 (by simp only[Am];omega) (Aa (J3 s h) (Ac ?_))))
 simp[dI]
theorem Ael(n a:Arr)(s:List Int)(cs:List Cell)(hn:Fits n):Sp 101 [dA n,dA a,dI s,.sl (cs.map dC)] [dA (.mk (a.s|||Au n) s cs)]:=by
 refine Af 0 (Aem _ _ _ _ _) (Aa (Fi n hn) ?_)
 simp only[Ai]
 refine Aa (Ha a.s (Au n)) (Ac ?_)
 simp only[Ai]
 rw[D5];rfl
theorem AcU(pre:List Int)(x f:Int)(rest frest:List Int):pre++Ib (x::rest) (f::frest)=(pre++[Aom .i64 (x+f)])++Ib rest frest:=by simp[Ib]
theorem Aek(a:Arr)(s from_ size:List Int)(ha:A7 s=((a.cells.length:Int),0))(hl:from_.length=size.length)(hs:size.length≤1000)(hc:(A7 size).2=0):Sp 102 [.agg [dI from_,dI size],dA a,dI s,.int (A7 size).1] [.sl ((Gx a s from_ size (A7 size).1.toNat).map dC)]:=by
 have hk:=Fw size
 generalize hK:(A7 size).1=kz at *
 obtain ⟨K,rfl⟩ : ∃ K:Nat,kz=(K:Int):=⟨kz.toNat,by omega⟩
 refine Af 2049 (Aen _ _ _ _ _) (Aa (Vb a) ?_)
 simp only[Ai]
 refine Ad (Ad (A0 (by simp only[Am];omega) ?_))
 have key:=Dl K (fun m k (out:List Cell)=>Md 2049 m (dI s) (out.map dC) (K:Int) (k:Int) (.agg [dI from_,dI size]) (dA a) (dC (Cl a))) (fun _ _=>[.sl ((Gx a s from_ size K).map dC)]) (fun k out=>out=Gx a s from_ size k)
  (fun m out hI=>by
   simp only[PV]
   exact At (Ac (by rw[hI])))
  (fun m k out hkK hI ih=>by
   have hol:out.length=k:=by rw[hI];simp[Gx]
   have hat:O5 size (k:Int) = [dI (J0 size (k:Int)),.bool true]:=by unfold O5;rw[if_pos ⟨hc,by omega,by rw[hK];omega⟩]
   have hsp:=Abq size (k:Int)
   rw[hat]at hsp
   simp only[PV,Lf,Lg]
   refine Ad (Aa hsp ?_)
   simp only[Ai,O6]
   have fin : ∀ at2:List Int,at2=Ib (J0 size (k:Int)) from_→Tw (.call 176 [] [dI s,dI at2] fun Y3 =>
     .br ((qB Y3).toBool) (.br (decide (0≤(qA Y3).toInt)) (.br (decide ((qA Y3).toInt<((((dA a).fld 2).els).length:Int))) (.br (decide ((out.map dC).length + [(((dA a).fld 2).els).getD (Apa ((qA Y3).toInt)) D.nil].length≤Am)) (Md 2049 m (dI s) ((out.map dC)++[(((dA a).fld 2).els).getD (Apa ((qA Y3).toInt)) D.nil]) (K:Int) (Aom .i64 ((k:Int)+1)) (.agg [dI from_,dI size]) (dA a) (dC (Cl a))) .fail) .fail) .fail)
       (.br (decide ((out.map dC).length + [dC (Cl a)].length≤Am)) (Md 2049 m (dI s) ((out.map dC)++[dC (Cl a)]) (K:Int) (Aom .i64 ((k:Int)+1)) (.agg [dI from_,dI size]) (dA a) (dC (Cl a))) .fail)) [.sl ((Gx a s from_ size K).map dC)]:=by
    intro at2 hat2
    have hlen2:at2.length≤1000000:=by rw[hat2,NO _ _ (by rw[O6];omega),O6];omega
    refine Aa (Abs s at2 hlen2) ?_
    have nxt : ∀ c:Cell,c=M5 a.cells (Cl a) s from_ size k→Tw (Md 2049 m (dI s) ((out.map dC)++[dC c]) (K:Int) ((k+1:Nat):Int) (.agg [dI from_,dI size]) (dA a) (dC (Cl a))) [.sl ((Gx a s from_ size K).map dC)]:=by
     intro c hcc
     have:=ih (out++[c]) (by rw[hI,hcc];simp[Gx,List.range_succ])
     rw[List.map_append]at this
     exact this
    rw[Bh k]
    have hsc:M5 a.cells (Cl a) s from_ size k=match Hx s at2 with | some k=>a.cells.getD k.toNat (Cl a) | none=>Cl a:=by rw[hat2];rfl
    cases hi:Hx s at2 with
    | none =>
     rw[hi]at hsc
     simp only[Sk,Ai]
     exact Ej rfl (A0 (by simp only[Apg,Apv,Am];omega) (nxt _ hsc.symm))
    | some j =>
     have hj:=SP ha hi
     obtain ⟨J,rfl⟩ : ∃ J:Nat,j=(J:Int):=⟨j.toNat,by omega⟩
     rw[hi]at hsc
     simp only[Sk,Ai]
     have hcj:(a.cells.map dC).getD J D.nil=dC (a.cells.getD J (Cl a)):=by
       rw[Aw (Apb (by omega)),Ape,Apb (by omega)];rfl
     rw[hcj]
     exact Bo rfl (Ad (Ad (A0 (by simp only[Apg,Apv,Am];omega) (nxt _ (by rw[hsc];rfl)))))
   have inner:=Dl size.length (fun m' j (at2:List Int)=>V2 2049 m m' (dI s) (out.map dC) (at2.map D.int) (K:Int) (k:Int) (size.length:Int) (j:Int) (.agg [dI from_,dI size]) (dA a) (dC (Cl a))) (fun _ _=>[.sl ((Gx a s from_ size K).map dC)])
    (fun j at2=>at2.length=size.length∧at2.take j++Ib (at2.drop j) (from_.drop j)=Ib (J0 size (k:Int)) from_)
    (fun m' at2 hI'=>by
     simp only[PW]
     refine At (fin at2 ?_)
     rw[← hI'.2,Ap_ (by omega),List.drop_of_length_le (by omega)]
     simp[Ib])
    (fun m' j at2 hj hI' ih'=>by
     have h1:at2[j]? = some at2[j]:=Apb (by omega)
     have h2:from_[j]? = some from_[j]:=Apb (by omega)
     simp only[PW,Ai,Lf,Aw h1,Aw h2,Bh j]
     refine Ad (Ad (Ad (Ad (Ad (Ad (Ad ?_))))))
     have:=ih' (at2.set j (Aom .i64 (at2[j]+from_[j]))) ⟨by simpa using hI'.1,?_⟩
     · rw[List.map_set]at this
       exact this
     · have e1:at2.drop j=at2[j]::at2.drop (j+1):=Ap1 (by omega)
       have e2:from_.drop j=from_[j]::from_.drop (j+1):=Ap1 (by omega)
       have h3:=hI'.2
       rw[e1,e2,AcU]at h3
       rw[← h3,List.drop_set_of_lt (by omega),List.take_set,HI h1]
       congr 1
       rw[List.set_append_right _ _ (by simp;omega)]
       simp[Nat.min_eq_left (show j≤at2.length by omega)])
    2049 0 (J0 size (k:Int)) (by omega) (by omega) ⟨O6 _ _,by simp⟩
   exact inner)
  2049 0 [] (by omega) (by omega) (by simp[Gx])
 exact key
theorem LR{α:Type}(pre:List α)(a b:α)(r:List α):(pre++a::r).set pre.length b=pre++b::r:=by
 rw[List.set_append_right _ _ (Apo _),Nat.sub_self];rfl
theorem HJ{α:Type}(pre:List α)(a:α)(r:List α):(pre++a::r)[pre.length]? = some a:=by
 rw[Aqe (Apo _),Nat.sub_self];rfl
theorem PS(n a:Arr)(s from_ size:List Int)(hn:Fits n)(ha:A7 s=((a.cells.length:Int),0))(hl:from_.length=size.length)(hs:size.length≤1000) :
  Tw (.call 81 [] [D.sl (size.map D.int)] fun Y4 =>
   .br (((qB Y4).toInt)!=0) (.ret [D.agg [D.int 0,D.sl [],D.sl []],D.int ((qB Y4).toInt)])
   (.call 102 [] [D.agg [D.sl (from_.map D.int),D.sl (size.map D.int)],dA a,dI s,D.int ((qA Y4).toInt)] fun Y5 =>
   .call 101 [] [dA n,dA a,D.sl (size.map D.int),qA Y5] fun Y6 =>
   .ret [qA Y6,D.int 0])) [dA (Ev n a s from_ size).1,.int (Ev n a s from_ size).2]:=by
 refine Aa (Ol size) ?_
 unfold Ev
 simp only[Ai,C8]
 refine Ae (fun h=>Ac (by rw[if_neg h])) (fun h=> ?_)
 have h0:(A7 size).2=0:=Apm.1 h
 rw[if_pos h0]
 refine Aa (Aek a s from_ size ha hl hs h0) ?_
 exact Aa (Ael n a size _ hn) (Ac rfl)
structure WinI (F G:List Int→List Int→List Int) (l s:List Int) (rest w0 w1:List Int):Prop where
 h : ∃ spre pre0 pre1 srest,s=spre++srest∧spre.length=pre0.length∧pre1.length=pre0.length∧pre0.length+rest.length=l.length∧rest.length≤srest.length∧w0=pre0++Apc srest.length 0∧w1=pre1++srest∧F l s=pre0++F rest srest∧G l s=pre1++G rest srest
theorem WinI.start {F G:List Int→List Int→List Int} {l s:List Int} (h:l.length≤s.length):WinI F G l s l (Apc s.length 0) s :=
 ⟨[],[],[],s,rfl,rfl,rfl,by simp,h,rfl,rfl,rfl,rfl⟩
theorem WinI.stop {F G:List Int→List Int→List Int} {l s w0 w1:List Int} (h:WinI F G l s [] w0 w1) (hF : ∀ x,F [] x=Apc x.length 0) (hG : ∀ x,G [] x=x):w0=F l s∧w1=G l s:=by
 obtain ⟨spre,pre0,pre1,srest,h1,h2,h3,h4,h5,h6,h7,h8,h9⟩:=h.h
 rw[h8,h9,hF,hG,h6,h7];exact ⟨rfl,rfl⟩
theorem WinI.next {F G:List Int→List Int→List Int} {l s w0 w1 rest:List Int} {x:Int} {k:Nat} (h:WinI F G l s (x::rest) w0 w1) (hk:l.drop k=x::rest) {f g:Int→Int→Int} (hF : ∀ x l y s,F (x::l) (y::s)=f x y::F l s) (hG : ∀ x l y s,G (x::l) (y::s)=g x y::G l s) :
  ∃ y,s[k]? = some y∧w1[k]? = some y∧w0[k]? = some 0∧w0.length=w1.length∧k<w1.length∧w1.length=s.length∧WinI F G l s rest (w0.set k (f x y)) (w1.set k (g x y))∧(f x y=0→w0.set k (f x y)=w0):=by
 obtain ⟨spre,pre0,pre1,srest,h1,h2,h3,h4,h5,h6,h7,h8,h9⟩:=h.h
 match srest,h5 with
 | y::srest,h5 =>
  have hle:=congrArg Aql hk
  rw[App,Apg]at hle
  rw[Apg]at h4
  have e0:k=pre0.length:=by omega
  have e1:k=pre1.length:=by omega
  have e2:k=spre.length:=by omega
  have hz:w0=pre0++0::Apc srest.length 0:=by rw[h6,Apg,List.replicate_succ]
  refine ⟨y,by rw[h1,e2];exact HJ _ _ _,by rw[h7,e1];exact HJ _ _ _,by rw[hz,e0];exact HJ _ _ _,by rw[h6,h7];simp;omega,by rw[h7];simp;omega,by rw[h1,h7];simp;omega,⟨spre++[y],pre0++[f x y],pre1++[g x y],srest,by rw[h1];simp,by simp[h2],by simp[h3],by simp;omega,by simpa using h5,?_,?_,by rw[h8,hF];simp,by rw[h9,hG];simp⟩,fun h0=>by rw[h0,hz,e0,LR]⟩
  · rw[hz,e0,LR];simp
  · rw[h7,e1,LR];simp
theorem Aef(n a:Arr)(hn:Fits n)(hnl:n.cells.length≤2048)(hnt : ∀ c∈n.cells,c.n.top.length≤32)(ha:A7 a.shape=((a.cells.length:Int),0)):Sp 39 [dA n,dA a] [dA (I3 n a).1,.int (I3 n a).2]:=by
 have hsh:=Gm (l:=a.shape) (by rw[ha])
 have hax:=OR (n:=n) (a:=a)
 have hac:=OQ (n:=n) (a:=a)
 refine Af 4096 (Aeg _ _ _) (Aa (PR n a hn hnl hnt (by omega)) ?_)
 have hll:(Ct n a).2.2=0→(Ct n a).1.length≤(Ct n a).2.1.length∧(Ct n a).2.1.length≤6:=fun h=>hax h hsh.1
 unfold I3
 generalize Ct n a=ax at *
 obtain ⟨l,s,e⟩:=ax
 simp only[Ai,W3,C8]
 refine Ae (fun h=>Ac (by rw[if_neg h])) (fun h=> ?_)
 have he:e=0:=Apm.1 h
 subst he
 rw[if_pos rfl]
 obtain ⟨l1,l2⟩:=hll rfl
 have hcs:=hac rfl ha
 simp only at l1 l2 hcs
 have hsl:=Gm (l:=s) (by rw[hcs])
 refine Aa (PU s (by omega)) ?_
 simp only[Ai,Lf,Lg]
 have key:=Ca l (fun m k (w:List Int×List Int)=>Rw 4096 m (dI s) (dI l) (l.length:Int) (k:Int) (dA n) (dA a) 0 0 (w.1.map D.int) (w.2.map D.int)) (fun _ _=>[dA (Ev n a s (Ka l s) (Kt l s)).1,.int (Ev n a s (Ka l s) (Kt l s)).2]) (fun rest w=>WinI Ka Kt l s rest w.1 w.2)
  (fun m k w hk hI=>by
   obtain ⟨e1,e2⟩:=hI.stop (fun x=>by simp[Ka]) (fun x=>by simp[Kt])
   simp only[PQ]
   rw[e1,e2]
   exact At (PS n a s _ _ hn hcs (by rw[RQ,LY]) (by rw[LY];omega)))
  (fun m k w x rest hdr hI ih=>by
   obtain ⟨h1,h2,h3⟩:=B6 hdr
   obtain ⟨y,g1,g2,g3,g4,g5,g6,g7,g8⟩:=hI.next hdr (f:=fun x y=>if x<0 then y-G8 x else 0) (g:=fun x _=>G8 x) (fun _ _ _ _=>rfl) (fun _ _ _ _=>rfl)
   have hy:=hsl.2 y (Aph g1)
   have hg:=SF x
   have hih:=ih (_,_) g7
   simp only[List.map_set]at hih
   have hgs:((w.2.map D.int).set k (D.int (G8 x))).getD k D.nil=D.int (G8 x):=by
     rw[Ape,List.getElem?_set_self (by simpa using g5)];rfl
   simp only[PQ,Ai,Aw h2,Aw g1,Bh k,List.length_set]
   refine Ad (Ad (Ad (Aa (PT x) ?_)))
   simp only[Ai]
   rw[hgs]
   simp only[Ao]
   refine Ad (Ad (Ae (fun hx=> ?_) (fun hx=> ?_)))
   · refine Ad (Ad (Ad (Ad (Ad (Ad ?_)))))
     rw[Ax (x:=y-G8 x) (by omega) (by omega)]
     rw[if_pos hx]at hih
     exact hih
   · rw[if_neg hx]at hih g8
     have e0:(w.1.map D.int).set k (D.int 0)=w.1.map D.int:=by rw[← List.map_set,g8 rfl]
     rw[e0]at hih
     exact hih)
  4096 0 (Apc s.length 0,s) (by omega) (by omega) (WinI.start l1)
 exact key
theorem Aed(n a:Arr)(hn:Fits n)(hnl:n.cells.length≤2048)(hnt : ∀ c∈n.cells,c.n.top.length≤32)(ha:A7 a.shape=((a.cells.length:Int),0)):Sp 40 [dA n,dA a] [dA (Ij n a).1,.int (Ij n a).2]:=by
 have hsh:=Gm (l:=a.shape) (by rw[ha])
 have hax:=OR (n:=n) (a:=a)
 have hac:=OQ (n:=n) (a:=a)
 refine Af 4096 (Aee _ _ _) (Aa (PR n a hn hnl hnt (by omega)) ?_)
 have hll:(Ct n a).2.2=0→(Ct n a).1.length≤(Ct n a).2.1.length∧(Ct n a).2.1.length≤6:=fun h=>hax h hsh.1
 unfold Ij
 generalize Ct n a=ax at *
 obtain ⟨l,s,e⟩:=ax
 simp only[Ai,W3,C8]
 refine Ae (fun h=>Ac (by rw[if_neg h])) (fun h=> ?_)
 have he:e=0:=Apm.1 h
 subst he
 rw[if_pos rfl]
 obtain ⟨l1,l2⟩:=hll rfl
 have hcs:=hac rfl ha
 simp only at l1 l2 hcs
 have hsl:=Gm (l:=s) (by rw[hcs])
 refine Aa (PU s (by omega)) ?_
 simp only[Ai,Lf,Lg]
 have key:=Ca l (fun m k (w:List Int×List Int)=>Rv 4096 m (dI s) (dI l) (l.length:Int) (k:Int) (dA n) (dA a) 0 0 (w.1.map D.int) (w.2.map D.int)) (fun _ _=>[dA (Ev n a s (J_ l s) (Ks l s)).1,.int (Ev n a s (J_ l s) (Ks l s)).2]) (fun rest w=>WinI J_ Ks l s rest w.1 w.2)
  (fun m k w hk hI=>by
   obtain ⟨e1,e2⟩:=hI.stop (fun x=>by simp[J_]) (fun x=>by simp[Ks])
   simp only[PP]
   rw[e1,e2]
   exact At (PS n a s _ _ hn hcs (by rw[RP,LX]) (by rw[LX];omega)))
  (fun m k w x rest hdr hI ih=>by
   obtain ⟨h1,h2,h3⟩:=B6 hdr
   obtain ⟨y,g1,g2,g3,g4,g5,g6,g7,g8⟩:=hI.next hdr (f:=fun x y=>if 0<x then Ll x y else 0) (g:=fun x y=>y-Ll x y) (fun _ _ _ _=>rfl) (fun _ _ _ _=>rfl)
   have hy:=hsl.2 y (Aph g1)
   have hg:=SF x
   have ho:0≤Ll x y∧Ll x y≤2048:=by unfold Ll;split <;> omega
   have hih:=ih (_,_) g7
   simp only[List.map_set]at hih
   simp only[PP,Ai,Aw h2,Aw g1,Bh k,List.length_set]
   refine Ad (Ad (Ad (Aa (PT x) ?_)))
   have ew:Aom .i64 (y-Ll x y)=y-Ll x y:=Ax (by omega) (by omega)
   simp only[Ai]
   refine Ad (Ad (Ad (Ad (Ad (Ad (Ae (fun hx=> ?_) (fun hx=> ?_)))))))
   · refine Ad (Ad ?_)
     rw[if_pos hx,← ew]at hih
     exact hih
   · rw[if_neg hx]at hih g8
     have e0:(w.1.map D.int).set k (D.int 0)=w.1.map D.int:=by rw[← List.map_set,g8 rfl]
     rw[e0,← ew]at hih
     exact hih)
  4096 0 (Apc s.length 0,s) (by omega) (by omega) (WinI.start l1)
 exact key
theorem AfP(n:Nat)(a0 b1 first2:D):fA [] n 36 [] [a0,b1,first2] =
 cK 86 [a0,b1,D.bool first2.toBool] fun Y1 =>
 .br (((qB Y1).toInt)!=0) (.ret [D.agg [D.int 0,D.sl [],D.sl []],D.int ((qB Y1).toInt)])
 (cK 87 [qA Y1] fun Y2 =>
 .br (((qB Y2).toInt)!=0) (.ret [D.agg [D.int 0,D.sl [],D.sl []],D.int ((qB Y2).toInt)])
 (cK 83 [D.int ((a0.fld 0).toInt),D.int ((b1.fld 0).toInt)] fun Y3 =>
 cK 88 [qA Y1,qA Y2] fun Y4 =>
 .ret [D.agg [D.int ((qA Y3).toInt),qA Y2,qA Y4],D.int 0])):=by kernel_rfl
theorem AfR(n:Nat)(a0:D):fA [] n 58 [] [a0] =
 bK (0<(((a0.fld 1).els).length:Int)) (cK 140 [a0.fld 1,D.int 0] fun Y1 =>
 kK (((a0.fld 2).els).length≤Am) (.ret [D.agg [D.int ((a0.fld 0).toInt),D.sl [D.int ((qB Y1).toInt),D.int ((qC Y1).toInt)],D.sl ((a0.fld 2).els)]]))
 (kK (((a0.fld 2).els).length≤Am) (.ret [D.agg [D.int ((a0.fld 0).toInt),D.sl [D.int 1,D.int 1],D.sl ((a0.fld 2).els)]])):=by kernel_rfl
theorem AfT(n:Nat)(a0 b1 first2:D):fA [] n 86 [] [a0,b1,first2] =
 .br first2.toBool (cK 172 [a0,b1.fld 1,D.int (if (if (((a0.fld 1).els).length:Int)<(((b1.fld 1).els).length:Int) then (((b1.fld 1).els).length:Int) else (((a0.fld 1).els).length:Int))<1 then 1 else (if (((a0.fld 1).els).length:Int)<(((b1.fld 1).els).length:Int) then (((b1.fld 1).els).length:Int) else (((a0.fld 1).els).length:Int))),D.int 0] fun Y1 =>
 .br (!((qB Y1).toBool)) (.ret [D.agg [D.agg [D.sl [],D.sl [],D.bool false],D.agg [D.sl [],D.sl [],D.bool false],D.int 0],D.int 5])
 (cK 172 [b1,a0.fld 1,D.int (if (if (((a0.fld 1).els).length:Int)<(((b1.fld 1).els).length:Int) then (((b1.fld 1).els).length:Int) else (((a0.fld 1).els).length:Int))<1 then 1 else (if (((a0.fld 1).els).length:Int)<(((b1.fld 1).els).length:Int) then (((b1.fld 1).els).length:Int) else (((a0.fld 1).els).length:Int))),D.int 0] fun Y2 =>
 .br (!((qB Y2).toBool)) (.ret [D.agg [D.agg [D.sl [],D.sl [],D.bool false],D.agg [D.sl [],D.sl [],D.bool false],D.int 0],D.int 5])
 (.ret [D.agg [qA Y1,qA Y2,D.int 0],D.int 0])))
 (cK 172 [a0,b1.fld 1,D.int (if (if (((a0.fld 1).els).length:Int)<(((b1.fld 1).els).length:Int) then (((b1.fld 1).els).length:Int) else (((a0.fld 1).els).length:Int))<1 then 1 else (if (((a0.fld 1).els).length:Int)<(((b1.fld 1).els).length:Int) then (((b1.fld 1).els).length:Int) else (((a0.fld 1).els).length:Int))),D.int (Aom .i64 ((if (if (((a0.fld 1).els).length:Int)<(((b1.fld 1).els).length:Int) then (((b1.fld 1).els).length:Int) else (((a0.fld 1).els).length:Int))<1 then 1 else (if (((a0.fld 1).els).length:Int)<(((b1.fld 1).els).length:Int) then (((b1.fld 1).els).length:Int) else (((a0.fld 1).els).length:Int)))-1))] fun Y3 =>
 .br (!((qB Y3).toBool)) (.ret [D.agg [D.agg [D.sl [],D.sl [],D.bool false],D.agg [D.sl [],D.sl [],D.bool false],D.int 0],D.int 5])
 (cK 172 [b1,a0.fld 1,D.int (if (if (((a0.fld 1).els).length:Int)<(((b1.fld 1).els).length:Int) then (((b1.fld 1).els).length:Int) else (((a0.fld 1).els).length:Int))<1 then 1 else (if (((a0.fld 1).els).length:Int)<(((b1.fld 1).els).length:Int) then (((b1.fld 1).els).length:Int) else (((a0.fld 1).els).length:Int))),D.int (Aom .i64 ((if (if (((a0.fld 1).els).length:Int)<(((b1.fld 1).els).length:Int) then (((b1.fld 1).els).length:Int) else (((a0.fld 1).els).length:Int))<1 then 1 else (if (((a0.fld 1).els).length:Int)<(((b1.fld 1).els).length:Int) then (((b1.fld 1).els).length:Int) else (((a0.fld 1).els).length:Int)))-1))] fun Y4 =>
 .br (!((qB Y4).toBool)) (.ret [D.agg [D.agg [D.sl [],D.sl [],D.bool false],D.agg [D.sl [],D.sl [],D.bool false],D.int 0],D.int 5])
 (.ret [D.agg [qA Y3,qA Y4,D.int (Aom .i64 ((if (if (((a0.fld 1).els).length:Int)<(((b1.fld 1).els).length:Int) then (((b1.fld 1).els).length:Int) else (((a0.fld 1).els).length:Int))<1 then 1 else (if (((a0.fld 1).els).length:Int)<(((b1.fld 1).els).length:Int) then (((b1.fld 1).els).length:Int) else (((a0.fld 1).els).length:Int)))-1))],D.int 0]))):=by kernel_rfl
def Xo:List (Nat×Orc):=[(2,⟨[(1,none),(12,some 23),(13,none),(14,none)],[(1,true)],[]⟩)]
noncomputable def Pu(n m2:Nat)(t12:D)(t13 t14:Int)(p1:D):Tree :=
 lA (eA Xo n 87 [1,0,1,0,0]) (An Xo 2) m2 ⟨(.undef:: .ptr 1 []::uA 10++(.d 23 t12:: .i .i64 t13:: .i .i64 t14::uA 52)),[(1,.var 86 (.d 86 p1) true)],[1],[],[]⟩
  (Ak 0 (Aq (jA Xo n 87 [1,1]) (rA 87 [86] [.tmp 2,.tmp 3] [23,29])))
theorem TI(n m2:Nat)(t12:D)(t13 t14:Int)(p1:D):Pu n (m2+1) t12 t13 t14 p1 =
 bK (t14<t13) (kK (0≤t14) (kK (t14<(t12.els.length:Int)) (.br (t14 != ((p1.fld 2).toInt)) (kK (0≤t14) (kK (t14<((((p1.fld 1).fld 0).els).length:Int)) (.br (((t12.els.getD (Apa t14) D.nil).toInt)!=(((((p1.fld 1).fld 0).els).getD (Apa t14) D.nil).toInt)) (.ret [D.sl [],D.int 4])
 (Pu n m2 t12 t13 (Aom .i64 (t14+1)) p1))))
 (Pu n m2 t12 t13 (Aom .i64 (t14+1)) p1))))
 (kK (0≤(p1.fld 2).toInt) (kK ((p1.fld 2).toInt<((((p1.fld 0).fld 0).els).length:Int)) (kK (0≤(p1.fld 2).toInt) (kK ((p1.fld 2).toInt<((((p1.fld 1).fld 0).els).length:Int)) (cK 173 [(p1.fld 0).fld 0,D.int ((p1.fld 2).toInt),D.int (Aom .i64 ((((((p1.fld 0).fld 0).els).getD (Apa ((p1.fld 2).toInt)) D.nil).toInt)+(((((p1.fld 1).fld 0).els).getD (Apa ((p1.fld 2).toInt)) D.nil).toInt)))] fun Y1 =>
 cK 81 [qA Y1] fun Y2 =>
 .br (((qB Y2).toInt)!=0) (.ret [D.sl [],D.int ((qB Y2).toInt)])
 (.ret [qA Y1,D.int 0])))))):=by kernel_rfl
theorem AfW(n:Nat)(p0:D):fA Xo n 87 [] [p0] =
 Pu n n ((p0.fld 0).fld 0) ((((p0.fld 0).fld 0).els).length:Int) 0 p0:=by kernel_rfl
def Xn:List (Nat×Orc):=[(5,⟨[(2,none),(9,none),(10,none),(11,none),(46,none),(47,none)],[(2,true)],[(.slot 11,1050,67)]⟩)]
noncomputable def Xm(n m5:Nat)(one9 other10:Int)(r11:List D)(t46 t47:Int)(p2:D):Tree :=
 lA (eA Xn n 88 [1,1,1,1,0,1,0,0]) (An Xn 5) m5 ⟨(.undef:: .undef:: .ptr 2 []::uA 6++(.i .i64 one9:: .i .i64 other10:: .row 1050::uA 34++(.i .i64 t46:: .i .i64 t47::uA 16))),[(2,.var 86 (.d 86 p2) true),(1050,.row 67 r11 true)],[2,1050],[],[]⟩
  (Ak 0 (Aq (jA Xn n 88 [1,1,1,1,1]) (rA 88 [86,23] [.tmp 4] [24])))
theorem TH(n m5:Nat)(one9 other10:Int)(r11:List D)(t46 t47:Int)(p2:D):Xm n (m5+1) one9 other10 r11 t46 t47 p2 =
 bK (t47<t46) (cK 174 [p2.fld 0,D.sl r11,D.int t47,D.int one9] fun Y2 =>
 cK 174 [p2.fld 1,D.sl ((qA Y2).els),D.int t47,D.int other10] fun Y3 =>
 Xm n m5 one9 other10 ((qA Y3).els) t46 (Aom .i64 (t47+1)) p2)
 (.ret [D.sl r11]):=by kernel_rfl
theorem AfV(n:Nat)(p0 s1:D):fA Xn n 88 [] [p0,s1] =
 cK 140 [s1,D.int ((p0.fld 2).toInt)] fun Y1 =>
 kK (0≤(p0.fld 2).toInt) (kK ((p0.fld 2).toInt<((((p0.fld 0).fld 0).els).length:Int)) (kK (0≤(p0.fld 2).toInt) (kK ((p0.fld 2).toInt<((((p0.fld 1).fld 0).els).length:Int)) (kK (0≤0) (kK (0≤Aom .i64 (((qA Y1).toInt)*(Aom .i64 ((Aom .i64 ((((((p0.fld 0).fld 0).els).getD (Apa ((p0.fld 2).toInt)) D.nil).toInt)*((qC Y1).toInt)))+(Aom .i64 ((((((p0.fld 1).fld 0).els).getD (Apa ((p0.fld 2).toInt)) D.nil).toInt)*((qC Y1).toInt))))))) (kK (Aom .i64 (((qA Y1).toInt)*(Aom .i64 ((Aom .i64 ((((((p0.fld 0).fld 0).els).getD (Apa ((p0.fld 2).toInt)) D.nil).toInt)*((qC Y1).toInt)))+(Aom .i64 ((((((p0.fld 1).fld 0).els).getD (Apa ((p0.fld 2).toInt)) D.nil).toInt)*((qC Y1).toInt))))))≤Am) (Xm n n (Aom .i64 ((((((p0.fld 0).fld 0).els).getD (Apa ((p0.fld 2).toInt)) D.nil).toInt)*((qC Y1).toInt))) (Aom .i64 ((((((p0.fld 1).fld 0).els).getD (Apa ((p0.fld 2).toInt)) D.nil).toInt)*((qC Y1).toInt))) (Apc (Apa 0) (D.agg [D.int 0,D.int 0,D.agg [D.bool false,D.sl [],D.sl []],D.int 0,D.sl []])) ((qA Y1).toInt) 0 p0))))))):=by kernel_rfl
theorem AfZ(n:Nat)(a0 other1:D)(axes2 axis3:D):fA [] n 172 [] [a0,other1,axes2,axis3] =
 kK (0≤0) (kK (0≤axes2.toInt) (kK (axes2.toInt≤Am) (.br ((((a0.fld 1).els).length:Int)==axes2.toInt) (kK ((Apc (Apa 0) (D.int 0)).length+((a0.fld 1).els).length≤Am) (.ret [D.agg [D.sl ((Apc (Apa 0) (D.int 0))++((a0.fld 1).els)),a0.fld 2,D.bool false],D.bool true]))
 (.br ((((a0.fld 1).els).length:Int)==0) (.br ((other1.els.length:Int)==0) (kK ((Apc (Apa 0) (D.int 0)).length + [D.int 1].length≤Am) (.ret [D.agg [D.sl ((Apc (Apa 0) (D.int 0))++[D.int 1]),a0.fld 2,D.bool true],D.bool true]))
 (kK ((Apc (Apa 0) (D.int 0)).length+other1.els.length≤Am) (kK (0≤axis3.toInt) (kK (axis3.toInt<(((Apc (Apa 0) (D.int 0))++other1.els).length:Int)) (.ret [D.agg [D.sl (((Apc (Apa 0) (D.int 0))++other1.els).set (Apa axis3.toInt) (D.int 1)),a0.fld 2,D.bool true],D.bool true])))))
 (.br ((((a0.fld 1).els).length:Int)==(Aom .i64 (axes2.toInt-1))) (kK (0≤axis3.toInt) (kK (axis3.toInt≤(((a0.fld 1).els).length:Int)) (kK ((Apc (Apa 0) (D.int 0)).length+(((a0.fld 1).els).take (Apa axis3.toInt)).length≤Am) (kK (((Apc (Apa 0) (D.int 0))++(((a0.fld 1).els).take (Apa axis3.toInt))).length + [D.int 1].length≤Am) (kK (0≤axis3.toInt) (kK (axis3.toInt≤(((a0.fld 1).els).length:Int)) (kK ((((Apc (Apa 0) (D.int 0))++(((a0.fld 1).els).take (Apa axis3.toInt)))++[D.int 1]).length+(((a0.fld 1).els).drop (Apa axis3.toInt)).length≤Am) (.ret [D.agg [D.sl ((((Apc (Apa 0) (D.int 0))++(((a0.fld 1).els).take (Apa axis3.toInt)))++[D.int 1])++(((a0.fld 1).els).drop (Apa axis3.toInt))),a0.fld 2,D.bool false],D.bool true]))))))))
 (.ret [D.agg [D.sl [],D.sl [],D.bool false],D.bool false])))))):=by kernel_rfl
def Xl:List (Nat×Orc):=[(4,⟨[(1,none),(4,none),(25,none),(26,none)],[(4,true)],[(.slot 1,1040,67)]⟩)]
noncomputable def Xk(n m4:Nat)(r1:List D)(t25 t26:Int)(b4:D):Tree :=
 lA (eA Xl n 174 [1,1,0,1,0,0]) (An Xl 4) m4 ⟨(.undef:: .row 1040:: .undef:: .undef:: .ptr 4 []::uA 20++(.i .i64 t25:: .i .i64 t26::uA 10)),[(4,.var 84 (.d 84 b4) true),(1040,.row 67 r1 true)],[4,1040],[],[]⟩
  (Ak 0 (Aq (jA Xl n 174 [1,1,1]) (rA 174 [84,24,3,3] [.tmp 8] [24])))
theorem TF(n m4:Nat)(r1:List D)(t25 t26:Int)(b4:D):Xk n (m4+1) r1 t25 t26 b4 =
 bK (t26<t25) (kK (0≤0) (kK (0<(((b4.fld 1).els).length:Int)) (kK (r1.length + [((b4.fld 1).els).getD (Apa 0) D.nil].length≤Am) (Xk n m4 (r1++[((b4.fld 1).els).getD (Apa 0) D.nil]) t25 (Aom .i64 (t26+1)) b4))))
 (.ret [D.sl r1]):=by kernel_rfl
theorem TG(n:Nat)(b0 r1:D)(i2 nn3:D):fA Xl n 174 [] [b0,r1,i2,nn3] =
 .br (!((b0.fld 2).toBool)) (kK (0≤Aom .i64 (i2.toInt*nn3.toInt)) (kK (Aom .i64 (i2.toInt*nn3.toInt)≤Aom .i64 ((Aom .i64 (i2.toInt*nn3.toInt))+nn3.toInt)) (kK (Aom .i64 ((Aom .i64 (i2.toInt*nn3.toInt))+nn3.toInt)≤(((b0.fld 1).els).length:Int)) (kK (r1.els.length+((((b0.fld 1).els).take (Apa (Aom .i64 ((Aom .i64 (i2.toInt*nn3.toInt))+nn3.toInt)))).drop (Apa (Aom .i64 (i2.toInt*nn3.toInt)))).length≤Am) (.ret [D.sl (r1.els++((((b0.fld 1).els).take (Apa (Aom .i64 ((Aom .i64 (i2.toInt*nn3.toInt))+nn3.toInt)))).drop (Apa (Aom .i64 (i2.toInt*nn3.toInt)))))])))))
 (Xk n n r1.els nn3.toInt 0 b0):=by kernel_rfl
theorem Abu(l:List Int)(hb:l.length≤6)(hx : ∀ x∈l,0≤x∧x≤2048):Sp 170 [dI l] [.int (A_ l 1)]:=by
 refine Af (l.length+1) (Abv _ _) ?_
 have key:=Ca l (fun m k (p:Int)=>T_ (l.length+1) m p (dI l) (l.length:Int) (k:Int)) (fun rest p=>[.int (A_ rest p)]) (fun _ p=>0≤p∧p≤2048)
  (fun m k p hk hI=>by
   simp only[BV]
   exact At (Ac rfl))
  (fun m k p x rest hd hI ih=>by
   obtain ⟨h1,h2,h3⟩:=B6 hd
   have hxx:=hx x (Aph h2)
   have hp:0≤p*x∧p*x≤4194304:=⟨Int.mul_nonneg hI.1 hxx.1,by have:=Int.mul_le_mul hI.2 hxx.2 hxx.1 (by omega);omega⟩
   simp only[BV,Ch,Apd,Apj,Aw h2,Ao,Bh k,Ax (x:=p*x) (by omega) (by omega)]
   repeat (refine Ad ?_)
   simp only[A_]
   refine Ae (fun h=>Ac ?_) (fun h=> ?_)
   · rw[if_pos h]
   · rw[if_neg h];exact ih _ ⟨hp.1,by omega⟩)
  (l.length+1) 0 1 (by omega) (by omega) (by decide)
 simpa using key
def Nh(s:List Int)(x:Int):List D:=if (A7 s).2=0∧0≤x∧x<s.length then [.int (A_ (s.take x.toNat) 1),.int (s.getD x.toNat 0),.int (A_ (s.drop (x.toNat+1)) 1),.bool true] else [.int 0,.int 0,.int 0,.bool false]
theorem LW(s:List Int)(x:Int):Sp 140 [dI s,.int x] (Nh s x):=by
 refine Af 0 (Amj _ _ _) (Aa (Ol s) ?_)
 unfold Nh
 simp only[Ai]
 refine Ae (fun h=>Ac (by rw[if_neg (fun hh=>h hh.1)])) (fun h=>Ae (fun h1=>Ac (by rw[if_neg (by omega)])) (fun h1=>Ae (fun h2=>Ac (by rw[if_neg (by omega)])) (fun h2=> ?_)))
 have h0:(A7 s).2=0:=Apm.1 h
 rw[if_pos ⟨h0,by omega,by omega⟩]
 obtain ⟨c1,c2⟩:=Gm h0
 obtain ⟨X,rfl⟩ : ∃ X:Nat,x=(X:Int):=⟨x.toNat,by omega⟩
 simp only[Bh X,Apj,← List.map_take,← List.map_drop,Ae9]
 refine Ad (Ad (Aa (Abu (s.take X) (by rw[Apr];omega) (fun y hy=>c2 y (List.mem_of_mem_take hy))) (Ad (Ad (Ad (Ad (Aa (Abu (s.drop (X+1)) (by rw[App];omega) (fun y hy=>c2 y (List.mem_of_mem_drop hy))) (Ac ?_))))))))
 rw[Hv (show X<s.length by omega)]
 simp only[Ai]
def Uv(s:List Int)(x n:Int):List D:=if 0≤x∧x<s.length then [dI (s.set x.toNat n),.bool true] else [.sl [],.bool false]
theorem Abt(s:List Int)(x n:Int)(hs:s.length≤1048576):Sp 173 [dI s,.int x,.int n] (Uv s x n):=by
 refine Af 0 (Amp _ _ _ _) ?_
 unfold Uv
 simp only[Ai]
 refine Ae (fun h1=>Ac (by rw[if_neg (by omega)])) (fun h1=>Ae (fun h2=>Ac (by rw[if_neg (by omega)])) (fun h2=>Aa (J3 s hs) ?_))
 rw[if_pos ⟨by omega,by omega⟩]
 simp only[Ai]
 refine Ad (Ad (Ac ?_))
 rw[← List.map_set];rfl
def G0(s:List Int)(cs:List Cell)(al:Bool):D:= .agg [dI s,.sl (cs.map dC),.bool al]
def Gt(x y:D)(k:Int):D:= .agg [x,y,.int k]
theorem AfX(s:List Int)(cs r:List Cell)(i n:Int)(h0:0≤i)(h1:0≤n)(h2:i*n+n≤cs.length)(hc:cs.length≤2048)(hr:r.length≤1000000):Sp 174 [G0 s cs false,.sl (r.map dC),.int i,.int n] [.sl ((r++(cs.take (i*n+n).toNat).drop (i*n).toNat).map dC)]:=by
 refine Af 0 (TG _ _ _ _ _) ?_
 have h3:0≤i*n:=Int.mul_nonneg h0 h1
 simp only[G0,Lf,Lg,Wx,Ai,Ax (x:=i*n) (by omega) (by omega),Ax (x:=i*n+n) (by omega) (by omega),← List.map_take,← List.map_drop]
 refine Bo rfl (Ad (Ad (Ad (A0 ?_ (Ac ?_)))))
 · simp only[App,Apr,Am];omega
 · rw[← List.map_append]
theorem AnB(n:Nat)(k0 a1 first2:D):fA [] n 37 [] [k0,a1,first2] =
 cK 80 [k0] fun Y1 =>
 .br (((qB Y1).toInt)!=0) (.ret [D.agg [D.int 0,D.sl [],D.sl []],D.int ((qB Y1).toInt)])
 (.br ((((qA Y1).els).length:Int)!=1) (.ret [D.agg [D.int 0,D.sl [],D.sl []],D.int 4])
 (cK 84 [k0] fun Y2 =>
 cK 90 [a1,D.int ((qA Y2).toInt)] fun Y3 =>
 cK 91 [a1,D.bool first2.toBool] fun Y4 =>
 .br (!((qB Y4).toBool)) (.ret [qA Y3,D.int 0])
 (kK (0≤(qA Y4).toInt) (kK ((qA Y4).toInt<(((a1.fld 1).els).length:Int)) (.br (((((a1.fld 1).els).getD (Apa ((qA Y4).toInt)) D.nil).toInt)==0) (.ret [qA Y3,D.int 0])
 (kK (0≤(qA Y4).toInt) (kK ((qA Y4).toInt<(((a1.fld 1).els).length:Int)) (kK (0≤0) (kK (0<(((qA Y1).els).length:Int)) (.br (!(((((a1.fld 1).els).getD (Apa ((qA Y4).toInt)) D.nil).toInt)==(0:Int))) (.br (!(((((a1.fld 1).els).getD (Apa ((qA Y4).toInt)) D.nil).toInt)==(0:Int))) (cK 92 [qA Y3,a1.fld 1,D.fn 93 [.ref 3,.ref 3,.ref 3] [D.ref (D.int ((qA Y4).toInt)),D.ref (D.int (Int.tmod (Aom .i64 ((Int.tmod ((((qA Y1).els).getD (Apa 0) D.nil).toInt) ((((a1.fld 1).els).getD (Apa ((qA Y4).toInt)) D.nil).toInt))+((((a1.fld 1).els).getD (Apa ((qA Y4).toInt)) D.nil).toInt))) ((((a1.fld 1).els).getD (Apa ((qA Y4).toInt)) D.nil).toInt))),D.ref (D.int ((((a1.fld 1).els).getD (Apa ((qA Y4).toInt)) D.nil).toInt))]] fun Y5 =>
 .ret [qA Y5,D.int 0]) .fail) .fail)))))))))):=by kernel_rfl
def Oq:List (Nat×Orc):=[(9,⟨[(2,none),(3,none),(4,none),(5,none),(6,none),(7,none),(32,none),(33,none)],[(2,true),(3,true),(4,false),(5,false),(6,true)],[(.slot 7,1090,3)]⟩),(14,⟨[(2,none),(3,none),(4,none),(5,none),(6,none),(7,none),(40,some 23),(41,none),(42,none)],[(2,true),(3,true),(4,false),(5,false),(6,true)],[(.slot 7,1140,3)]⟩)]
def Acf:List ResultVar:=[.cell 4 26,.cell 5 29]
noncomputable def DC(n m14:Nat)(s7:List D)(t40:D)(t41 t42:Int)(p2 a3:D)(r4_0 e5:Int)(l6:D):Tree :=
 lA (eA Oq n 38 [1,1,1,1,1,1,1,0,1,0,0]) (An Oq 14) m14 ⟨(.undef:: .undef:: .ptr 2 []:: .ptr 3 []:: .ptr 4 []:: .ptr 5 []:: .ptr 6 []:: .row 1140::uA 32++(.d 23 t40:: .i .i64 t41:: .i .i64 t42::uA 38)),[(2,.var 26 (.d 26 p2) true),(3,.var 26 (.d 26 a3) true),(4,.var 26 (.agg 26 [.i .u64 r4_0,.mt,.mt]) true),(5,.var 29 (.i .i64 e5) true),(6,.var 23 (.d 23 l6) true),(1140,.row 3 s7 true)],[2,3,4,5,6,1140],[(94,[.ptr 4 [],.ptr 5 []])],[]⟩
  (Ak 2 (Aq (jA Oq n 38 [1,1,1,1,1,1,1,1]) (rA 38 [26,26] Acf [26,29])))
noncomputable def DD(n m9:Nat)(s7:List D)(t32 t33:Int)(p2 a3:D)(r4_0 e5:Int)(l6:D):Tree :=
 lA (eA Oq n 38 [1,1,1,1,1,1,0,1,0,0]) (An Oq 9) m9 ⟨(.undef:: .undef:: .ptr 2 []:: .ptr 3 []:: .ptr 4 []:: .ptr 5 []:: .ptr 6 []:: .row 1090::uA 24++(.i .i64 t32:: .i .i64 t33::uA 47)),[(2,.var 26 (.d 26 p2) true),(3,.var 26 (.d 26 a3) true),(4,.var 26 (.agg 26 [.i .u64 r4_0,.mt,.mt]) true),(5,.var 29 (.i .i64 e5) true),(6,.var 23 (.d 23 l6) true),(1090,.row 3 s7 true)],[2,3,4,5,6,1090],[(94,[.ptr 4 [],.ptr 5 []])],[]⟩
  (Ak 0 (Aq (jA Oq n 38 [1,1,1,1,1,1,1]) (rA 38 [26,26] Acf [26,29])))
theorem Acd(n m14:Nat)(s7:List D)(t40:D)(t41 t42:Int)(p2 a3:D)(r4_0 e5:Int)(l6:D):DC n (m14+1) s7 t40 t41 t42 p2 a3 r4_0 e5 l6 =
 bK (t42<t41) (kK (0≤t42) (kK (t42<(t40.els.length:Int)) (bK (((t40.els.getD (Apa t42) D.nil).toInt)<1) (.ret [D.agg [D.int 0,D.sl [],D.sl []],D.int 3])
 (bK ((l6.els.length:Int)<((t40.els.getD (Apa t42) D.nil).toInt)) (.ret [D.agg [D.int 0,D.sl [],D.sl []],D.int 3])
 (kK (0≤Aom .i64 (((t40.els.getD (Apa t42) D.nil).toInt)-1)) (kK (Aom .i64 (((t40.els.getD (Apa t42) D.nil).toInt)-1)<(s7.length:Int)) (bK (0≤((s7.getD (Apa (Aom .i64 (((t40.els.getD (Apa t42) D.nil).toInt)-1))) D.nil).toInt)) (.ret [D.agg [D.int 0,D.sl [],D.sl []],D.int 3])
 (kK (0≤t42) (kK (t42<(((a3.fld 1).els).length:Int)) (kK (0≤Aom .i64 (((t40.els.getD (Apa t42) D.nil).toInt)-1)) (kK (Aom .i64 (((t40.els.getD (Apa t42) D.nil).toInt)-1)<(s7.length:Int)) (DC n m14 (s7.set (Apa (Aom .i64 (((t40.els.getD (Apa t42) D.nil).toInt)-1))) (D.int ((((a3.fld 1).els).getD (Apa t42) D.nil).toInt))) t40 t41 (Aom .i64 (t42+1)) p2 a3 r4_0 e5 l6))))))))))))
 (cK 84 [p2] fun Y2 =>
 cK 90 [a3,D.int ((qA Y2).toInt)] fun Y3 =>
 cK 92 [qA Y3,D.sl s7,D.fn 95 [.ref 23] [D.ref l6]] fun Y4 =>
 .ret [qA Y4,D.int 0]):=by kernel_rfl
theorem Ace(n m9:Nat)(s7:List D)(t32 t33:Int)(p2 a3:D)(r4_0 e5:Int)(l6:D):DD n (m9+1) s7 t32 t33 p2 a3 r4_0 e5 l6 =
 bK (t33<t32) (kK (0≤t33) (kK (t33<(s7.length:Int)) (DD n m9 (s7.set (Apa t33) (D.int (-1))) t32 (Aom .i64 (t33+1)) p2 a3 r4_0 e5 l6)))
 (DC n n s7 l6 (l6.els.length:Int) 0 p2 a3 r4_0 e5 l6):=by kernel_rfl
theorem An8(n:Nat)(p0 a1:D):fA Oq n 38 [] [p0,a1] =
 cK 80 [p0] fun Y1 =>
 .br (((qB Y1).toInt)!=0) (.ret [D.agg [D.int 0,D.sl [],D.sl []],D.int ((qB Y1).toInt)])
 (.br ((((qA Y1).els).length:Int)!=(((a1.fld 1).els).length:Int)) (.ret [D.agg [D.int 0,D.sl [],D.sl []],D.int 4])
 (kK (0≤(((qA Y1).els).length:Int)) (kK ((((qA Y1).els).length:Int)≤(((qA Y1).els).length:Int)) (kK ((((qA Y1).els).length:Int)≤Am) (DD n n (Apc (Apa (((qA Y1).els).length:Int)) (D.int 0)) ((Apc (Apa (((qA Y1).els).length:Int)) (D.int 0)).length:Int) 0 p0 a1 0 ((qB Y1).toInt) (qA Y1)))))):=by kernel_rfl
theorem An_(n:Nat)(a0 first1:D):fA [] n 59 [] [a0,first1] =
 cK 91 [a0,D.bool first1.toBool] fun Y1 =>
 .br (!((qB Y1).toBool)) (.ret [a0])
 (kK (0≤(qA Y1).toInt) (kK ((qA Y1).toInt<(((a0.fld 1).els).length:Int)) (cK 92 [a0,a0.fld 1,D.fn 142 [.ref 3,.ref 3] [D.ref (D.int ((((a0.fld 1).els).getD (Apa ((qA Y1).toInt)) D.nil).toInt)),D.ref (D.int ((qA Y1).toInt))]] fun Y2 =>
 .ret [qA Y2]))):=by kernel_rfl
theorem AnE(n:Nat)(a0:D):fA [] n 60 [] [a0] =
 cK 96 [a0.fld 1] fun Y1 =>
 cK 144 [D.sl ((qA Y1).els)] fun Y2 =>
 cK 92 [a0,D.sl ((qA Y2).els),D.fn 145 [] []] fun Y3 =>
 .ret [qA Y3]:=by kernel_rfl
theorem AnF(n:Nat)(a0 first1:D):fA [] n 91 [] [a0,first1] =
 .br ((((a0.fld 1).els).length:Int)==0) (.ret [D.int 0,D.bool false])
 (.br first1.toBool (.ret [D.int 0,D.bool true])
 (.ret [D.int (Aom .i64 ((((a0.fld 1).els).length:Int)-1)),D.bool true])):=by kernel_rfl
def Ot:List (Nat×Orc):=[(3,⟨[(1,some 23),(2,some 94),(3,none),(6,none),(7,none),(19,none),(20,none)],[(3,true),(6,false)],[(.slot 7,1030,67)]⟩)]
noncomputable def Gi(n m3:Nat)(s1 from2:D)(cells7:List D)(t19 t20:Int)(a3:D)(t6_0:Int):Tree :=
 lA (eA Ot n 92 [1,1,0,1,0,0]) (An Ot 3) m3 ⟨(.undef:: .d 23 s1:: .d 94 from2:: .ptr 3 []:: .undef:: .undef:: .ptr 6 []:: .row 1030::uA 11++(.i .i64 t19:: .i .i64 t20::uA 33)),[(3,.var 26 (.d 26 a3) true),(6,.var 26 (.agg 26 [.i .u64 t6_0,.mt,.mt]) true),(1030,.row 67 cells7 true)],[3,6,1030],[],[]⟩
  (Ak 0 (Aq (jA Ot n 92 [1,1,1]) (rA 92 [26,23,94] [.cell 6 26] [26])))
theorem AnI(n m3:Nat)(s1 from2_c0:D)(from2_c1 from2_c2:D)(cells7:List D)(t19 t20:Int)(a3:D)(t6_0:Int):Gi n (m3+1) s1 (D.fn 93 [.ref 3,.ref 3,.ref 3] [from2_c0,from2_c1,from2_c2]) cells7 t19 t20 a3 t6_0 =
 bK (t20<t19) (cK 175 [s1,D.int t20] fun Y1 =>
 .call (D.fn 93 [.ref 3,.ref 3,.ref 3] [from2_c0,from2_c1,from2_c2]).fnId (D.fn 93 [.ref 3,.ref 3,.ref 3] [from2_c0,from2_c1,from2_c2]).fnCts ([D.sl ((qA Y1).els)]++(D.fn 93 [.ref 3,.ref 3,.ref 3] [from2_c0,from2_c1,from2_c2]).fnDs) fun Y2 =>
 cK 176 [a3.fld 1,D.sl ((qA Y2).els)] fun Y3 =>
 kK (0≤(qA Y3).toInt) (kK ((qA Y3).toInt<(((a3.fld 2).els).length:Int)) (kK (cells7.length + [((a3.fld 2).els).getD (Apa ((qA Y3).toInt)) D.nil].length≤Am) (Gi n m3 s1 (D.fn 93 [.ref 3,.ref 3,.ref 3] [from2_c0,from2_c1,from2_c2]) (cells7++[((a3.fld 2).els).getD (Apa ((qA Y3).toInt)) D.nil]) t19 (Aom .i64 (t20+1)) a3 t6_0))))
 (cK 96 [s1] fun Y4 =>
 .ret [D.agg [D.int ((a3.fld 0).toInt),D.sl ((qA Y4).els),D.sl cells7]]):=by kernel_rfl
theorem AnG(n m3:Nat)(s1 from2_c0:D)(cells7:List D)(t19 t20:Int)(a3:D)(t6_0:Int):Gi n (m3+1) s1 (D.fn 95 [.ref 23] [from2_c0]) cells7 t19 t20 a3 t6_0 =
 bK (t20<t19) (cK 175 [s1,D.int t20] fun Y1 =>
 .call (D.fn 95 [.ref 23] [from2_c0]).fnId (D.fn 95 [.ref 23] [from2_c0]).fnCts ([D.sl ((qA Y1).els)]++(D.fn 95 [.ref 23] [from2_c0]).fnDs) fun Y2 =>
 cK 176 [a3.fld 1,D.sl ((qA Y2).els)] fun Y3 =>
 kK (0≤(qA Y3).toInt) (kK ((qA Y3).toInt<(((a3.fld 2).els).length:Int)) (kK (cells7.length + [((a3.fld 2).els).getD (Apa ((qA Y3).toInt)) D.nil].length≤Am) (Gi n m3 s1 (D.fn 95 [.ref 23] [from2_c0]) (cells7++[((a3.fld 2).els).getD (Apa ((qA Y3).toInt)) D.nil]) t19 (Aom .i64 (t20+1)) a3 t6_0))))
 (cK 96 [s1] fun Y4 =>
 .ret [D.agg [D.int ((a3.fld 0).toInt),D.sl ((qA Y4).els),D.sl cells7]]):=by kernel_rfl
theorem AnH(n m3:Nat)(s1 from2_c0 from2_c1:D)(cells7:List D)(t19 t20:Int)(a3:D)(t6_0:Int):Gi n (m3+1) s1 (D.fn 142 [.ref 3,.ref 3] [from2_c0,from2_c1]) cells7 t19 t20 a3 t6_0 =
 bK (t20<t19) (cK 175 [s1,D.int t20] fun Y1 =>
 .call (D.fn 142 [.ref 3,.ref 3] [from2_c0,from2_c1]).fnId (D.fn 142 [.ref 3,.ref 3] [from2_c0,from2_c1]).fnCts ([D.sl ((qA Y1).els)]++(D.fn 142 [.ref 3,.ref 3] [from2_c0,from2_c1]).fnDs) fun Y2 =>
 cK 176 [a3.fld 1,D.sl ((qA Y2).els)] fun Y3 =>
 kK (0≤(qA Y3).toInt) (kK ((qA Y3).toInt<(((a3.fld 2).els).length:Int)) (kK (cells7.length + [((a3.fld 2).els).getD (Apa ((qA Y3).toInt)) D.nil].length≤Am) (Gi n m3 s1 (D.fn 142 [.ref 3,.ref 3] [from2_c0,from2_c1]) (cells7++[((a3.fld 2).els).getD (Apa ((qA Y3).toInt)) D.nil]) t19 (Aom .i64 (t20+1)) a3 t6_0))))
 (cK 96 [s1] fun Y4 =>
 .ret [D.agg [D.int ((a3.fld 0).toInt),D.sl ((qA Y4).els),D.sl cells7]]):=by kernel_rfl
theorem AnJ(n m3:Nat)(s1:D)(cells7:List D)(t19 t20:Int)(a3:D)(t6_0:Int):Gi n (m3+1) s1 (D.fn 145 [] []) cells7 t19 t20 a3 t6_0 =
 bK (t20<t19) (cK 175 [s1,D.int t20] fun Y1 =>
 .call (D.fn 145 [] []).fnId (D.fn 145 [] []).fnCts ([D.sl ((qA Y1).els)]++(D.fn 145 [] []).fnDs) fun Y2 =>
 cK 176 [a3.fld 1,D.sl ((qA Y2).els)] fun Y3 =>
 kK (0≤(qA Y3).toInt) (kK ((qA Y3).toInt<(((a3.fld 2).els).length:Int)) (kK (cells7.length + [((a3.fld 2).els).getD (Apa ((qA Y3).toInt)) D.nil].length≤Am) (Gi n m3 s1 (D.fn 145 [] []) (cells7++[((a3.fld 2).els).getD (Apa ((qA Y3).toInt)) D.nil]) t19 (Aom .i64 (t20+1)) a3 t6_0))))
 (cK 96 [s1] fun Y4 =>
 .ret [D.agg [D.int ((a3.fld 0).toInt),D.sl ((qA Y4).els),D.sl cells7]]):=by kernel_rfl
theorem AnM(n:Nat)(a0 s1:D)(from2_c0 from2_c1 from2_c2:D):fA Ot n 92 [] [a0,s1,(D.fn 93 [.ref 3,.ref 3,.ref 3] [from2_c0,from2_c1,from2_c2])] =
 kK (0≤0) (kK (0≤(((a0.fld 2).els).length:Int)) (kK ((((a0.fld 2).els).length:Int)≤Am) (Gi n n s1 (D.fn 93 [.ref 3,.ref 3,.ref 3] [from2_c0,from2_c1,from2_c2]) (Apc (Apa 0) (D.agg [D.int 0,D.int 0,D.agg [D.bool false,D.sl [],D.sl []],D.int 0,D.sl []])) (((a0.fld 2).els).length:Int) 0 a0 0))):=by kernel_rfl
theorem AnK(n:Nat)(a0 s1 from2_c0:D):fA Ot n 92 [] [a0,s1,(D.fn 95 [.ref 23] [from2_c0])] =
 kK (0≤0) (kK (0≤(((a0.fld 2).els).length:Int)) (kK ((((a0.fld 2).els).length:Int)≤Am) (Gi n n s1 (D.fn 95 [.ref 23] [from2_c0]) (Apc (Apa 0) (D.agg [D.int 0,D.int 0,D.agg [D.bool false,D.sl [],D.sl []],D.int 0,D.sl []])) (((a0.fld 2).els).length:Int) 0 a0 0))):=by kernel_rfl
theorem AnL(n:Nat)(a0 s1:D)(from2_c0 from2_c1:D):fA Ot n 92 [] [a0,s1,(D.fn 142 [.ref 3,.ref 3] [from2_c0,from2_c1])] =
 kK (0≤0) (kK (0≤(((a0.fld 2).els).length:Int)) (kK ((((a0.fld 2).els).length:Int)≤Am) (Gi n n s1 (D.fn 142 [.ref 3,.ref 3] [from2_c0,from2_c1]) (Apc (Apa 0) (D.agg [D.int 0,D.int 0,D.agg [D.bool false,D.sl [],D.sl []],D.int 0,D.sl []])) (((a0.fld 2).els).length:Int) 0 a0 0))):=by kernel_rfl
theorem AnN(n:Nat)(a0 s1:D):fA Ot n 92 [] [a0,s1,(D.fn 145 [] [])] =
 kK (0≤0) (kK (0≤(((a0.fld 2).els).length:Int)) (kK ((((a0.fld 2).els).length:Int)≤Am) (Gi n n s1 (D.fn 145 [] []) (Apc (Apa 0) (D.agg [D.int 0,D.int 0,D.agg [D.bool false,D.sl [],D.sl []],D.int 0,D.sl []])) (((a0.fld 2).els).length:Int) 0 a0 0))):=by kernel_rfl
theorem AnA(n:Nat)(at0 c1:D)(c2 c3:D):fA [] n 93 [.ref 3,.ref 3,.ref 3] [at0,c1,c2,c3] =
 kK (0≤c1.unref.toInt) (kK (c1.unref.toInt<(at0.els.length:Int)) (.br (!(c3.unref.toInt == (0:Int))) (kK (0≤c1.unref.toInt) (kK (c1.unref.toInt<(at0.els.length:Int)) (.ret [D.sl (at0.els.set (Apa c1.unref.toInt) (D.int (Int.tmod (Aom .i64 (((at0.els.getD (Apa c1.unref.toInt) D.nil).toInt)+c2.unref.toInt)) c3.unref.toInt)))]))) .fail)):=by kernel_rfl
def MQ:List (Nat×Orc):=[(2,⟨[(0,none),(3,none),(8,some 23),(9,none),(10,none)],[],[(.slot 0,0,3),(.slot 3,1021,3)]⟩)]
noncomputable def DB(n m2:Nat)(at0 old3:List D)(t8:D)(t9 t10:Int):Tree :=
 lA (eA MQ n 95 [1,1,0,0]) (An MQ 2) m2 ⟨(.row 0:: .undef:: .undef:: .row 1021::uA 4++(.d 23 t8:: .i .i64 t9:: .i .i64 t10::uA 13)),[(0,.row 3 at0 true),(1021,.row 3 old3 true)],[0,1021],[],[0]⟩
  (Ak 0 (rA 95 [23] [] []))
theorem Acc(n m2:Nat)(at0 old3:List D)(t8:D)(t9 t10:Int):DB n (m2+1) at0 old3 t8 t9 t10 =
 bK (t10<t9) (kK (0≤t10) (kK (t10<(t8.els.length:Int)) (kK (0≤Aom .i64 (((t8.els.getD (Apa t10) D.nil).toInt)-1)) (kK (Aom .i64 (((t8.els.getD (Apa t10) D.nil).toInt)-1)<(old3.length:Int)) (kK (0≤t10) (kK (t10<(at0.length:Int)) (DB n m2 (at0.set (Apa t10) (D.int ((old3.getD (Apa (Aom .i64 (((t8.els.getD (Apa t10) D.nil).toInt)-1))) D.nil).toInt))) old3 t8 t9 (Aom .i64 (t10+1)))))))))
 (.ret [D.sl at0]):=by kernel_rfl
theorem An6(n:Nat)(at0 c1:D):fA MQ n 95 [.ref 23] [at0,c1] =
 cK 96 [D.sl at0.els] fun Y1 =>
 DB n n at0.els ((qA Y1).els) c1.unref (c1.unref.els.length:Int) 0:=by kernel_rfl
theorem An9(n:Nat)(at0 c1 c2:D):fA [] n 142 [.ref 3,.ref 3] [at0,c1,c2] =
 kK (0≤c2.unref.toInt) (kK (c2.unref.toInt<(at0.els.length:Int)) (kK (0≤c2.unref.toInt) (kK (c2.unref.toInt<(at0.els.length:Int)) (.ret [D.sl (at0.els.set (Apa c2.unref.toInt) (D.int (Aom .i64 ((Aom .i64 (c1.unref.toInt-1))-((at0.els.getD (Apa c2.unref.toInt) D.nil).toInt)))))])))):=by kernel_rfl
theorem AnC(n:Nat)(at0:D):fA [] n 145 [] [at0] =
 cK 144 [D.sl at0.els] fun Y1 =>
 .ret [D.sl ((qA Y1).els)]:=by kernel_rfl
theorem Td{α:Type}(pre:List α)(a b:α)(r:List α):(pre++a::r).set pre.length b=pre++b::r:=by
 rw[List.set_append_right _ _ (Apo _),Nat.sub_self];rfl
theorem ON{α:Type}(pre:List α)(a:α)(r:List α):(pre++a::r)[pre.length]? = some a:=by
 rw[Aqe (Apo _),Nat.sub_self];rfl
theorem Aa3(n:Nat) : ∀ (m:Nat) (A M B:List Int),M.length<2*m→A.length+M.length+B.length≤1000000 →
  Tw (CK n m ((A++M++B).map D.int) (A.length:Int) (((A.length+M.length:Nat):Int)-1)) [dI (A++M.reverse++B)]
 | 0,A,M,B,h,_=>absurd h (by omega)
 | m+1,A,M,B,h,hl=>by
  rw[AmF]
  by_cases h2:2≤M.length
  · obtain ⟨x,M',y,rfl⟩ : ∃ x M' y,M=x::(M'++[y]):=by
     match M,h2 with
     | x::R,h2 =>
      rcases List.eq_nil_or_concat R with rfl | ⟨M',y,rfl⟩
      · simp at h2
      · exact ⟨x,M',y,by simp⟩
    simp only[Apg,Apn,Apv]at h hl
    have e1:A++x::(M'++[y])++B=A++x::(M'++y::B):=by simp
    have e2:A++x::(M'++[y])++B=(A++x::M')++y::B:=by simp
    have e3:A++y::(M'++y::B)=(A++y::M')++y::B:=by simp
    have l3:A.length+M'.length+1=(A++y::M').length:=by simp;omega
    have h1:(A++x::(M'++[y])++B)[A.length]? = some x:=by rw[e1];exact ON A x _
    have h3:(A++x::(M'++[y])++B)[A.length+M'.length+1]? = some y:=by
     rw[e2,show A.length+M'.length+1=(A++x::M').length by simp;omega];exact ON _ y _
    have hj:((A.length+(x::(M'++[y])).length:Nat):Int)-1=((A.length+M'.length+1:Nat):Int):=by simp;omega
    have hlen:(A++x::(M'++[y])++B).length=A.length+M'.length+2+B.length:=by simp;omega
    have hw:Aom .i64 (((A.length+M'.length+1:Nat):Int)-1)=(((A++[y]).length+M'.length:Nat):Int)-1:=by rw[Ax (by omega) (by omega)];simp;omega
    have hw2:((A.length+1:Nat):Int)=((A++[y]).length:Int):=by simp
    simp only[hj,Apj,Aw h1,Aw h3,Ao,Apd,List.length_set,hlen]
    refine Ad (Ad (Ad (Ad (Ad (Ad (Ad (Ad (Ad ?_))))))))
    rw[hw,Fh (by omega),hw2,← List.map_set,← List.map_set]
    have e4:((A++x::(M'++[y])++B).set A.length y).set (A.length+M'.length+1) x=(A++[y])++M'++(x::B):=by
     rw[e1,Td,e3,l3,Td];simp
    rw[e4]
    have:=Aa3 n m (A++[y]) M' (x::B) (by omega) (by simp;omega)
    simpa using this
  · refine At (Ac ?_)
    have:M.reverse=M:=by
     match M,h2 with
     | [],_=>rfl
     | [x],_=>rfl
     | x::y::r,h2=>exact absurd (by simp) h2
    rw[this];rfl
theorem Aa6(l:List Int)(h:l.length≤1000000):Sp 144 [dI l] [dI l.reverse]:=by
 refine Af (l.length+1) (AmG _ _) ?_
 simp only[Ch,Apd]
 rw[NE (by omega)]
 simpa using Aa3 (l.length+1) (l.length+1) [] l [] (by omega) (by simpa using h)
def Fj(s:List Int)(i:Int):List Int:=if (A7 s).2=0∧0≤i∧i<(A7 s).1 then J0 s i else []
theorem Ad0(s:List Int)(i:Int):(qA (O5 s i)).els=(Fj s i).map D.int:=by
 unfold O5 Fj
 split <;> rfl
theorem Ad1(s:List Int)(i:Int):(Fj s i).length≤s.length:=by
 unfold Fj
 split
 · rw[O6];exact Apo _
 · simp
theorem Af_(o:Option Int):(qA (Sk o)).toInt=o.getD 0:=by cases o <;> rfl
def Mo(a:Arr)(s:List Int)(g:List Int→List Int)(i:Nat):Cell:=a.cells.getD ((Hx a.shape (g (Fj s (i:Int)))).getD 0).toNat (Bf 0)
def Gr(a:Arr)(s:List Int)(g:List Int→List Int):Arr:= .mk a.s s ((Ap8 a.cells.length).map (Mo a s g))
theorem X7(F:D)(g:List Int→List Int)(a:Arr)(s:List Int)(ha:A7 a.shape=((a.cells.length:Int),0))(hs:s.length≤1000)
  (hF : ∀ (n m3:Nat) (s1:D) (cells7:List D) (t19:Int) (t20:Int) (a3:D) (t6_0:Int),Gi n (m3+1) s1 F cells7 t19 t20 a3 t6_0 =
   .br (decide (t20<t19)) (.call 175 [] [s1,D.int t20] fun Y1 =>
   .call F.fnId F.fnCts ([D.sl ((qA Y1).els)]++F.fnDs) fun Y2 =>
   .call 176 [] [a3.fld 1,D.sl ((qA Y2).els)] fun Y3 =>
   .br (decide (0≤(qA Y3).toInt)) (.br (decide ((qA Y3).toInt<(((a3.fld 2).els).length:Int))) (.br (decide (cells7.length + [((a3.fld 2).els).getD (Apa ((qA Y3).toInt)) D.nil].length≤Am)) (Gi n m3 s1 F (cells7++[((a3.fld 2).els).getD (Apa ((qA Y3).toInt)) D.nil]) t19 (Aom .i64 (t20+1)) a3 t6_0) .fail) .fail) .fail)
   (.call 96 [] [s1] fun Y4 =>
   .ret [D.agg [D.int ((a3.fld 0).toInt),D.sl ((qA Y4).els),D.sl cells7]]))
  (hg : ∀ i:Nat,i<a.cells.length→D_ Tryz.prog md F.fnId F.fnCts (dI (Fj s (i:Int))::F.fnDs) [dI (g (Fj s (i:Int)))]∧(g (Fj s (i:Int))).length≤1000000) :
  Tw (Gi 4096 4096 (dI s) F [] (a.cells.length:Int) 0 (dA a) 0) [dA (Gr a s g)]:=by
 have hle:=(Fw a.shape).2
 rw[ha]at hle
 have hK:a.cells.length≤2048:=by simp only at hle;omega
 have key:=Dl a.cells.length (fun m k (_:Unit)=>Gi 4096 m (dI s) F (((Ap8 k).map (Mo a s g)).map dC) (a.cells.length:Int) (k:Int) (dA a) 0) (fun _ _=>[dA (Gr a s g)]) (fun _ _=>True)
  (fun m _ _=>by
    rw[hF]
    refine At (Aa (J3 s (by omega)) (Ac ?_))
    simp only[Ai]
    rw[Gr,D5];rfl)
  (fun m k _ hk _ ih=>by
    rw[hF]
    refine Ad (Aa (Abq s (k:Int)) ?_)
    obtain ⟨h1,h2⟩:=hg k hk
    simp only[Ad0,List.singleton_append]
    refine Aa h1 ?_
    simp only[Ai]
    refine Aa (Abs a.shape _ h2) ?_
    have hb:0≤(Hx a.shape (g (Fj s (k:Int)))).getD 0∧(Hx a.shape (g (Fj s (k:Int)))).getD 0<(a.cells.length:Int):=by
     cases hi:Hx a.shape (g (Fj s (k:Int))) with
     | none=>exact ⟨by decide,by show (0:Int)<_;omega⟩
     | some j=>exact SP ha hi
    have hc:Mo a s g k=a.cells.getD ((Hx a.shape (g (Fj s (k:Int)))).getD 0).toNat (Bf 0):=rfl
    simp only[Af_]
    generalize (Hx a.shape (g (Fj s (k:Int)))).getD 0=z at hb hc
    obtain ⟨J,rfl⟩ : ∃ J:Nat,z=(J:Int):=⟨z.toNat,by omega⟩
    have hcj:(a.cells.map dC).getD J D.nil=dC (a.cells.getD J (Bf 0)):=by
     rw[Aw (Apb (by omega)),Ape,Apb (by omega)];rfl
    simp only[Apj]at hc ⊢
    rw[hcj,← hc,Fh (by omega)]
    refine Ad (Ad (A0 (by simp only[Apd,List.length_range,Apg,Apv,Am];omega) ?_))
    have:=ih () trivial
    rw[List.range_succ,List.map_append,List.map_append]at this
    exact this)
  4096 0 () (by omega) (by omega) trivial
 simpa using key
theorem NX(a:Arr)(first:Bool)(ha:a.shape.length≤1000):Sp 91 [dA a,.bool first] [.int (if a.shape.length=0∨first then 0 else (a.shape.length:Int)-1),.bool (decide (a.shape.length≠0))]:=by
 refine Af 0 (AnF _ _ _) ?_
 simp only[Ai]
 refine Ae (fun h=>Ac ?_) (fun h=>B7 (fun hf=>Ac ?_) (fun hf=>Ac ?_))
 · rw[if_pos (.inl (by omega))];simp[show a.shape.length=0 by omega]
 · rw[if_pos (.inr hf)];simp[show ¬ a.shape.length=0 by omega]
 · rw[if_neg (by rintro (q | q);exact absurd q (by omega);rw[hf]at q;cases q),Ax (by omega) (by omega)];simp[show ¬ a.shape.length=0 by omega]
def Ek(a:Arr)(first:Bool):Nat:=if first then 0 else a.shape.length-1
theorem NR{a:Arr}{first:Bool}(h:a.shape.length≠0):Ek a first<a.shape.length:=by unfold Ek;split <;> omega
theorem NQ{a:Arr}{first:Bool}(h:a.shape.length≠0):(if a.shape.length=0∨first then 0 else (a.shape.length:Int)-1)=((Ek a first:Nat):Int):=by
 unfold Ek
 cases first with
 | true=>simp
 | false=>rw[if_neg (by simpa using h)];simp;omega
theorem ES{s:List Int}{i:Nat}{c:Int}(h:A7 s=(c,0))(hi:(i:Int)<c):(Fj s (i:Int)).length=s.length:=by
 unfold Fj
 rw[if_pos ⟨by rw[h],by omega,by rw[h];exact hi⟩,O6]
def LE(x:Nat)(n:Int)(at_:List Int):List Int:=at_.set x (Aom .i64 (Aom .i64 (n-1)-at_.getD x 0))
def Jo(a:Arr)(first:Bool):Arr:=if a.shape.length=0 then a else Gr a a.shape (LE (Ek a first) (a.shape.getD (Ek a first) 0))
theorem Acg(a:Arr)(first:Bool)(ha:A7 a.shape=((a.cells.length:Int),0)):Sp 59 [dA a,.bool first] [dA (Jo a first)]:=by
 have hl:=(J6 ha).1
 refine Af 0 (An_ _ _ _) ?_
 simp only[Ba]
 refine Aa (NX a first (by omega)) ?_
 simp only[Ai]
 unfold Jo
 refine Ae (fun h=> ?_) (fun h=> ?_)
 · rw[if_pos (Apm.1 h)];exact Ac rfl
 · have h0:=Apm.1 h
   have hx:=NR (first:=first) h0
   rw[if_neg h0,NQ h0]
   simp only[Apj,Hv hx]
   refine Ad (Ad (Aa (?_:Sp _ _ [dA (Gr a a.shape (LE (Ek a first) (a.shape.getD (Ek a first) 0)))]) (Ac rfl)))
   refine Af 4096 (AnL _ _ _ _ _) ?_
   have hle:=(Fw a.shape).2
   rw[ha]at hle
   simp only[Ai]
   refine Ad (Ad (A0 (by simp only[Am]at *; omega) ?_))
   refine X7 _ _ a a.shape ha (by omega) (fun n m3 s1 c t19 t20 a3 t6=>AnH n m3 s1 _ _ c t19 t20 a3 t6) (fun i hi=> ?_)
   have hat:=ES ha (i:=i) (by omega)
   refine ⟨?_,by unfold LE;rw[List.length_set,hat];omega⟩
   refine Af 0 (An9 _ _ _ _) ?_
   simp only[D.unref,Ai,hat,Hv (show Ek a first<(Fj a.shape (i:Int)).length by omega)]
   refine Ad (Ad (Ad (Ad (Ac ?_))))
   rw[← List.map_set];rfl
def LI(x:Nat)(by_ n:Int)(at_:List Int):List Int:=at_.set x (Int.tmod (Aom .i64 (at_.getD x 0+by_)) n)
def Gf(k a:Arr)(first:Bool):Arr×Int:=if (A9 k).2≠0 then (.none,(A9 k).2) else if (A9 k).1.length≠1 then (.none,4) else
 if a.shape.length=0∨a.shape.getD (Ek a first) 0=0 then (C2 a (Au k),0) else
 (Gr (C2 a (Au k)) a.shape (LI (Ek a first) (Int.tmod (Aom .i64 (Int.tmod ((A9 k).1.getD 0 0) (a.shape.getD (Ek a first) 0)+a.shape.getD (Ek a first) 0)) (a.shape.getD (Ek a first) 0)) (a.shape.getD (Ek a first) 0)),0)
theorem Ach(k a:Arr)(first:Bool)(hk:Fits k)(hkl:k.cells.length≤2048)(hkt : ∀ c∈k.cells,c.n.top.length≤32)(ha:A7 a.shape=((a.cells.length:Int),0)):Sp 37 [dA k,dA a,.bool first] [dA (Gf k a first).1,.int (Gf k a first).2]:=by
 have hl:=(J6 ha).1
 refine Af 0 (AnB _ _ _ _) (Aa (K9 k hkl hkt) ?_)
 unfold Gf
 simp only[Ai,C8]
 refine Ae (fun h=>Ac (by rw[if_pos h])) (fun h=> ?_)
 rw[if_neg h]
 refine Ae (fun h1=>Ac (by rw[if_pos (by omega)])) (fun h1=> ?_)
 have hk1:(A9 k).1.length=1:=by omega
 rw[if_neg (by omega)]
 refine Aa (Fi k hk) ?_
 simp only[Ai]
 refine Aa (Gz a (Au k)) (Aa (NX a first (by omega)) ?_)
 simp only[Ai]
 refine Ae (fun h0=> ?_) (fun h0=> ?_)
 · rw[if_pos (.inl (Apm.1 h0))];exact Ac rfl
 · have h0:=Apm.1 h0
   have hx:=NR (first:=first) h0
   rw[NQ h0]
   simp only[Apj,Hv hx]
   refine Ad (Ad ?_)
   refine Ae (fun h2=>Ac (by rw[if_pos (.inr h2)])) (fun h2=> ?_)
   rw[if_neg (by rintro (q | q);exact h0 q;exact h2 q)]
   have hg0:=Hv (l:=(A9 k).1) (i:=0) (by omega)
   simp only[hg0]
   generalize hN:a.shape.getD (Ek a first) 0=N at *
   generalize (A9 k).1.getD 0 0=K at *
   have hb:decide (¬ N=0)=true:=decide_eq_true h2
   refine Ad (Ad (Ad (Ad (Bo hb (Bo hb ?_)))))
   refine Aa (?_:Sp _ _ [dA (Gr (C2 a (Au k)) a.shape (LI (Ek a first) (Int.tmod (Aom .i64 (Int.tmod K N+N)) N) N))]) (Ac rfl)
   refine Af 4096 (AnM _ _ _ _ _ _) ?_
   have hle:=(Fw a.shape).2
   rw[ha]at hle
   have hrc:(C2 a (Au k)).cells=a.cells:=by cases a;rfl
   have hrs:(C2 a (Au k)).shape=a.shape:=by cases a;rfl
   simp only[Ai]
   rw[hrc]
   refine Ad (Ad (A0 (by simp only[Am]at *; omega) ?_))
   rw[← hrc]
   refine X7 _ _ (C2 a (Au k)) a.shape (by rw[hrs,hrc];exact ha) (by omega) (fun n m3 s1 c t19 t20 a3 t6=>AnI n m3 s1 _ _ _ c t19 t20 a3 t6) (fun i hi=> ?_)
   rw[hrc]at hi
   have hat:=ES ha (i:=i) (by omega)
   refine ⟨?_,by unfold LI;rw[List.length_set,hat];omega⟩
   refine Af 0 (AnA _ _ _ _ _) ?_
   simp only[D.unref,Ai,hat,Hv (show Ek a first<(Fj a.shape (i:Int)).length by omega)]
   refine Ad (Ad (Bo hb (Ad (Ad (Ac ?_)))))
   rw[← List.map_set];rfl
def Oo(a:Arr):Arr:=Gr a a.shape.reverse List.reverse
theorem AnD(a:Arr)(ha:A7 a.shape=((a.cells.length:Int),0)):Sp 60 [dA a] [dA (Oo a)]:=by
 have hl:=(J6 ha).1
 refine Af 0 (AnE _ _) ?_
 simp only[Ai]
 refine Aa (J3 a.shape (by omega)) ?_
 simp only[Ai]
 refine Aa (Aa6 a.shape (by omega)) ?_
 simp only[Ai]
 refine Aa (?_:Sp _ _ [dA (Oo a)]) (Ac rfl)
 refine Af 4096 (AnN _ _ _) ?_
 have hle:=(Fw a.shape).2
 rw[ha]at hle
 simp only[Ai]
 refine Ad (Ad (A0 (by simp only[Am]at *; omega) ?_))
 refine X7 _ _ a a.shape.reverse ha (by rw[List.length_reverse];omega) (fun n m3 s1 c t19 t20 a3 t6=>AnJ n m3 s1 c t19 t20 a3 t6) (fun i hi=> ?_)
 have hat:=Ad1 a.shape.reverse (i:Int)
 rw[List.length_reverse]at hat
 refine ⟨?_,by rw[List.length_reverse];omega⟩
 refine Af 0 (AnC _ _) (Aa (?_:Sp _ _ [dI (Fj a.shape.reverse (i:Int)).reverse]) (Ac rfl))
 simp only[Ch]
 exact Aa6 _ (by omega)
def D8:List Int→Int
 | []=>1
 | x::xs=>x*D8 xs
theorem YE : ∀ {l:List Int},(∀ x∈l,1≤x)→1≤D8 l
 | [],_=>by decide
 | x::xs,h=>by
  have:=Int.mul_le_mul (h x (by simp)) (YE (fun y hy=>h y (List.mem_cons_of_mem _ hy))) (by decide) (by have:=h x (by simp);omega)
  simpa [D8]using this
theorem Zn : ∀ (l:List Int) (p:Int),(∀ x∈l,1≤x)→1≤p→p≤2048→A_ l p=if p*D8 l≤2048 then p*D8 l else 0
 | [],p,_,_,h=>by simp only[A_,D8,Int.mul_one];rw[if_pos h]
 | x::xs,p,hx,h1,h2=>by
  have hx1:=hx x (by simp)
  have hz:=YE (fun y hy=>hx y (List.mem_cons_of_mem _ hy))
  have hpx:=Int.mul_le_mul h1 hx1 (by decide) (by omega)
  rw[Ob,D8,← Int.mul_assoc]
  have hm:=Int.mul_le_mul_of_nonneg_left hz (show 0≤p*x by omega)
  split
  · rw[if_neg (by omega)]
  · exact Zn xs (p*x) (fun y hy=>hx y (List.mem_cons_of_mem _ hy)) (by omega) (by omega)
theorem Ajq{l m:List Int}(h:l.Perm m):D8 l=D8 m:=by
 induction h with
 | nil=>rfl
 | cons x _ ih=>simp only[D8,ih]
 | swap x y l=>simp only[D8];rw[Int.mul_left_comm]
 | trans _ _ ih1 ih2=>exact ih1.trans ih2
theorem EL{l m:List Int}(h:l.Perm m)(p:Int→Bool):l.any p=m.any p:=by
 rw[Bool.eq_iff_iff,List.any_eq_true,List.any_eq_true]
 exact ⟨fun ⟨x,hx,hp⟩=>⟨x,h.mem_iff.1 hx,hp⟩,fun ⟨x,hx,hp⟩=>⟨x,h.mem_iff.2 hx,hp⟩⟩
theorem Aeb{l m:List Int}(h:l.Perm m):A7 l=A7 m:=by
 unfold A7
 rw[h.length_eq,EL h,EL h,EL h]
 split;· rfl
 split;· rfl
 split;· rfl
 split;· rfl
 rename_i h1 h2 h3 h4
 have hp:=Vw h2 h3 h4
 rw[Zn l 1 (fun x hx=>(hp x (h.mem_iff.1 hx)).1) (by decide) (by decide),Zn m 1 (fun x hx=>(hp x hx).1) (by decide) (by decide),Ajq h]
def Kk:List Int→List Int→List Int→Option (List Int)
 | k::l,x::sh,s=>if k<1∨(s.length:Int)<k∨0≤s.getD (k-1).toNat 0 then none else Kk l sh (s.set (k-1).toNat x)
 | _,_,s=>some s
theorem AeX{s:List Int}{j:Nat}{x:Int}(hj:j<s.length)(hs:s.getD j 0<0)(hx:0≤x):((s.set j x).filter (fun y=>decide (0≤y))).Perm (x::s.filter (fun y=>decide (0≤y))):=by
 have e:s=s.take j++s[j]::s.drop (j+1):=by rw[← Ap1 hj,Ap5]
 have hl:(s.take j).length=j:=by rw[Apr];omega
 rw[Ape,Apb hj,Option.getD_some]at hs
 generalize s[j]=v at e hs
 generalize s.take j=A at e hl
 generalize s.drop (j+1)=B at e
 subst e
 rw[← hl,Td,List.filter_append,List.filter_append,List.filter_cons,List.filter_cons,if_pos (by simpa using hx),if_neg (by simp;omega)]
 exact List.perm_middle
theorem WT : ∀ (l sh s r:List Int),Kk l sh s=some r→l.length=sh.length→(∀ x∈sh,0≤x) →
  (r.filter (fun y=>decide (0≤y))).Perm (s.filter (fun y=>decide (0≤y))++sh)∧r.length=s.length∧∀ k∈l,1≤k∧k≤(s.length:Int)
 | [],[],s,r,h,_,_=>by
  simp only[Kk,Apk]at h
  subst h
  exact ⟨by simp,rfl,fun k hk=>by simp at hk⟩
 | k::l,x::sh,s,r,h,hl,hx=>by
  simp only[Kk]at h
  split at h
  · cases h
  · rename_i g
    obtain ⟨i1,i2,i3⟩:=WT l sh _ r h (by simpa using hl) (fun y hy=>hx y (List.mem_cons_of_mem _ hy))
    rw[List.length_set]at i2 i3
    refine ⟨?_,i2,?_⟩
    · have:=AeX (s:=s) (j:=(k-1).toNat) (x:=x) (by omega) (by omega) (hx x (by simp))
      refine i1.trans ((this.append_right sh).trans ?_)
      exact List.perm_middle.symm
    · intro y hy
      rcases Apt.1 hy with rfl | hy
      · omega
      · exact i3 y hy
 | [],x::sh,s,r,_,hl,_=>by simp at hl
 | k::l,[],s,r,_,hl,_=>by simp at hl
theorem WU{l sh r:List Int}(h:Kk l sh (Apc l.length (-1))=some r)(hl:l.length=sh.length)(hx : ∀ x∈sh,0≤x):r.Perm sh∧∀ k∈l,1≤k∧k≤(l.length:Int):=by
 obtain ⟨h1,h2,h3⟩:=WT l sh _ r h hl hx
 rw[Aqg]at h2 h3
 have e:(Apc l.length (-1:Int)).filter (fun y=>decide (0≤y)) = []:=by
  rw[List.filter_eq_nil_iff]
  intro y hy
  rw[List.eq_of_mem_replicate hy];decide
 rw[e,Aqp]at h1
 have hfl:r.filter (fun y=>decide (0≤y))=r:=by
  refine List.filter_eq_self.2 (List.length_filter_eq_length_iff.1 ?_)
  rw[h1.length_eq,h2,hl]
 rw[hfl]at h1
 exact ⟨h1,h3⟩
def Gu(l:List Int)(at_:List Int):List Int:=l.map (fun k=>at_.getD (k-1).toNat 0)
theorem AiJ(l at_:List Int)(hl:l.length=at_.length)(hn:l.length≤1000)(hk : ∀ k∈l,1≤k∧k≤(l.length:Int)) :
  D_ Tryz.prog md 95 [.ref 23] [dI at_,.ref (dI l)] [dI (Gu l at_)]:=by
 refine Af 4096 (An6 _ _ _) ?_
 simp only[Ch,DJ]
 refine Aa (J3 at_ (by omega)) ?_
 have key:=Dl l.length (fun m i (_:Unit)=>DB 4096 m ((Gu (l.take i) at_++at_.drop i).map D.int) (at_.map D.int) (dI l) (l.length:Int) (i:Int)) (fun _ _=>[dI (Gu l at_)]) (fun _ _=>True)
  (fun m _ _=>by
   rw[Acc]
   refine At (Ac ?_)
   rw[List.take_length,List.drop_of_length_le (by omega),Apx];rfl)
  (fun m i _ hi _ ih=>by
   have h1:l[i]? = some l[i]:=Apb hi
   have hkk:=hk l[i] (Aqc hi)
   have e1:l.take (i+1)=l.take i++[l[i]]:=HI h1
   have hlen:(Gu (l.take i) at_++at_.drop i).length=l.length:=by simp[Gu];omega
   have Cu:(Gu (l.take i) at_++at_.drop i).set i (at_.getD (l[i] - 1).toNat 0)=Gu (l.take (i+1)) at_++at_.drop (i+1):=by
    have hpl:(Gu (l.take i) at_).length=i:=by simp[Gu];omega
    rw[Ap1 (show i<at_.length by omega)]
    have:=Td (Gu (l.take i) at_) at_[i] (at_.getD (l[i] - 1).toNat 0) (at_.drop (i+1))
    rw[hpl]at this
    rw[this,e1];simp only[Gu,List.map_append,Ap7,List.map_nil,Apz,List.singleton_append]
   generalize l[i]=k at *
   rw[Acc]
   have hw:Aom .i64 (k-1)=k-1:=Ax (by omega) (by omega)
   simp only[Ch,Apd,Apj,Aw h1,Ao,hw,hlen,Hv (show (k-1).toNat<at_.length by omega),Bh i]
   refine Ad (Ad (Ad (Ad (Ad (Ad (Ad ?_))))))
   rw[← List.map_set,Cu]
   exact ih () trivial)
  4096 0 () (by omega) (by omega) trivial
 simpa [Gu]using key
def Fq(p a:Arr):Arr×Int:=if (A9 p).2≠0 then (.none,(A9 p).2) else if (A9 p).1.length≠a.shape.length then (.none,4) else
 match Kk (A9 p).1 a.shape (Apc (A9 p).1.length (-1)) with
 | none=>(.none,3)
 | some s=>(Gr (C2 a (Au p)) s (Gu (A9 p).1),0)
theorem An7(p a:Arr)(hk:Fits p)(hkl:p.cells.length≤2048)(hkt : ∀ c∈p.cells,c.n.top.length≤32)(ha:A7 a.shape=((a.cells.length:Int),0)):Sp 38 [dA p,dA a] [dA (Fq p a).1,.int (Fq p a).2]:=by
 have hl6:=(J6 ha).1
 have h0s:=(Gm (l:=a.shape) (by rw[ha])).2
 refine Af 4096 (An8 _ _ _) (Aa (K9 p hkl hkt) ?_)
 have hun:Fq p a=Fq p a:=rfl
 conv at hun=>rhs;unfold Fq
 generalize Fq p a=R at *
 generalize hl:(A9 p).1=l at *
 generalize (A9 p).2=e at *
 simp only[Ai,C8]
 refine Ae (fun h=>Ac (by rw[hun,if_pos h])) (fun h=> ?_)
 rw[if_neg h]at hun
 refine Ae (fun h1=>Ac (by rw[hun,if_pos (by omega)])) (fun h1=> ?_)
 have hll:l.length=a.shape.length:=by omega
 rw[if_neg (by omega)]at hun
 refine Ad (Ad (A0 (by simp only[Am];omega) ?_))
 have second:=Ca l (fun m i (s:List Int)=>DC 4096 m (s.map D.int) (dI l) (l.length:Int) (i:Int) (dA p) (dA a) 0 e (dI l)) (fun _ _=>[dA R.1,.int R.2])
  (fun rest s=>Kk l a.shape (Apc l.length (-1))=Kk rest (a.shape.drop (l.length-rest.length)) s∧s.length=l.length)
  (fun m i s hi hI=>by
   rw[Acd]
   refine At (Aa (Fi p hk) ?_)
   simp only[Ai]
   refine Aa (Gz a (Au p)) ?_
   have hg:Kk l a.shape (Apc l.length (-1))=some s:=by rw[hI.1];rfl
   rw[hg]at hun
   obtain ⟨hp1,hp2⟩:=WU hg hll (fun x hx=>(h0s x hx).1)
   have hcs:A7 s=((a.cells.length:Int),0):=by rw[Aeb hp1,ha]
   have hrc:(C2 a (Au p)).cells=a.cells:=by cases a;rfl
   have hrs:(C2 a (Au p)).shape=a.shape:=by cases a;rfl
   have hle:=(Fw a.shape).2
   rw[ha]at hle
   simp only[Ai]
   refine Aa (?_:Sp _ _ [dA (Gr (C2 a (Au p)) s (Gu l))]) (Ac (by rw[hun];rfl))
   refine Af 4096 (AnK _ _ _ _) ?_
   simp only[Ai]
   rw[hrc]
   refine Ad (Ad (A0 (by simp only[Am]at *; omega) ?_))
   rw[← hrc]
   refine X7 _ _ (C2 a (Au p)) s (by rw[hrs,hrc];exact ha) (by omega) (fun n m3 s1 c t19 t20 a3 t6=>AnG n m3 s1 _ c t19 t20 a3 t6) (fun i hi=> ?_)
   rw[hrc]at hi
   have hat:=ES hcs (i:=i) (by omega)
   exact ⟨AiJ l _ (by rw[hat];omega) (by omega) hp2,by unfold Gu;rw[Apd];omega⟩)
  (fun m i s k rest hdr hI ih=>by
   obtain ⟨h4,h2,h3⟩:=B6 hdr
   have hle:=congrArg Aql hdr
   rw[App,Apg]at hle
   obtain ⟨hI,hsl⟩:=hI
   rw[show l.length-(k::rest).length=i by rw[Apg];omega,Ap1 (show i<a.shape.length by omega)]at hI
   rw[show l.length-rest.length=i+1 by omega]at ih
   have hsi:a.shape[i]? = some a.shape[i]:=Apb (by omega)
   generalize a.shape[i]=x at *
   rw[Acd]
   simp only[Ai,Aw h2,Aw hsi,hsl]
   simp only[Kk,hsl]at hI
   refine Ad (Ad (Ad (Ae (fun g=>Ac ?_) (fun g=>Ae (fun g2=>Ac ?_) (fun g2=> ?_)))))
   · rw[if_pos (.inl g)]at hI;rw[hI]at hun;rw[hun,C8]
   · rw[if_pos (.inr (.inl g2))]at hI;rw[hI]at hun;rw[hun,C8]
   · have hw:Aom .i64 (k-1)=k-1:=Ax (by omega) (by omega)
     simp only[hw,Hv (show (k-1).toNat<s.length by omega),Ao]
     refine Ad (Ad (Ae (fun g3=>Ac ?_) (fun g3=>Ad (Ad (Ad (Ad ?_))))))
     · rw[if_pos (.inr (.inr g3))]at hI;rw[hI]at hun;rw[hun,C8]
     · rw[if_neg (by omega)]at hI
       rw[← List.map_set,Fh (by omega)]
       exact ih _ ⟨hI,by rw[List.length_set];exact hsl⟩)
  4096 0 (Apc l.length (-1)) (by omega) (by omega) ⟨by simp,by simp⟩
 have first:=Dl l.length (fun m i (_:Unit)=>DD 4096 m ((Apc i (-1:Int)++Apc (l.length-i) 0).map D.int) (l.length:Int) (i:Int) (dA p) (dA a) 0 e (dI l)) (fun _ _=>[dA R.1,.int R.2]) (fun _ _=>True)
  (fun m _ _=>by
   rw[Ace]
   refine At ?_
   simp only[Nat.sub_self,List.replicate_zero,Apx,Ch,Apd]
   exact second)
  (fun m i _ hi _ ih=>by
   rw[Ace]
   simp only[Apd,Apn,Aqg,Apj]
   refine Ad (Ad (Ad ?_))
   rw[Fh (by omega),← List.map_set]
   have e1:(Apc i (-1:Int)++Apc (l.length-i) 0).set i (-1)=Apc (i+1) (-1:Int)++Apc (l.length-(i+1)) 0:=by
     rw[show l.length-i=(l.length-(i+1))+1 by omega,List.replicate_succ (a:=(0:Int))]
     have:=Td (Apc i (-1:Int)) 0 (-1) (Apc (l.length-(i+1)) 0)
     rw[Aqg]at this
     rw[this,List.replicate_succ' (n:=i)];simp
   rw[e1]
   exact ih () trivial)
  4096 0 () (by omega) (by omega) trivial
 simpa using first
structure Bk where
 sh:List Int
 cs:List Cell
 al:Bool
def Bk.d (x:Bk):D:=G0 x.sh x.cs x.al
theorem Qm : ∀ (l m:List Int),D8 (l++m)=D8 l*D8 m
 | [],m=>by simp[D8]
 | x::xs,m=>by simp only[List.cons_append,D8,Qm xs m,Int.mul_assoc]
theorem YC : ∀ (l:List Int),A_ l 0=0
 | []=>rfl
 | x::xs=>by rw[Ob,Int.zero_mul,if_neg (by decide)];exact YC xs
theorem XZ : ∀ (l:List Int) (p:Int),0∈l→A_ l p=0
 | x::xs,p,h=>by
  rw[Ob]
  split
  · rfl
  · rcases Apt.1 h with h | h
    · rw[← h,Int.mul_zero];exact YC xs
    · exact XZ xs _ h
theorem Mu : ∀ (l:List Int) (p:Int),(∀ x∈l,0≤x∧x≤2048)→0≤p→p≤2048→0≤A_ l p∧A_ l p≤2048
 | [],p,_,h1,h2=>⟨h1,h2⟩
 | x::xs,p,h,h1,h2=>by
  rw[Ob]
  split
  · omega
  · exact Mu xs _ (fun y hy=>h y (List.mem_cons_of_mem _ hy)) (Int.mul_nonneg h1 (h x (by simp)).1) (by omega)
theorem Oc{l:List Int}(hl : ∀ x∈l,0≤x∧x≤2048)(h:A_ l 1≠0):(∀ x∈l,1≤x)∧A_ l 1=D8 l:=by
 have h1 : ∀ x∈l,1≤x:=fun x hx=>by
  have:=(hl x hx).1
  rcases Int.lt_or_eq_of_le this with g | g
  · omega
  · exact absurd (XZ l 1 (by rw[g];exact hx)) h
 refine ⟨h1,?_⟩
 rw[Zn l 1 h1 (by decide) (by decide),Int.one_mul]at h ⊢
 split at h
 · rename_i g;rw[if_pos g]
 · exact absurd rfl h
theorem Vv{s:List Int}{c:Int}(h:A7 s=(c,0))(h1 : ∀ x∈s,1≤x):c=D8 s∧D8 s≤2048:=by
 have hle:=(Fw s).2
 rw[h]at hle
 rcases (J6 h).2 with ⟨h0,_⟩ | ⟨h2,h3,h4⟩
 · exact absurd (h1 0 h0) (by decide)
 · have:=(Oc (fun x hx=>⟨by have:=(h2 x hx).1;omega,(h2 x hx).2⟩) (by rw[h3];exact h4)).2
   simp only at hle
   omega
structure BkOk (x:Bk) (axes:Nat):Prop where
 len:x.sh.length=axes
 rng : ∀ v∈x.sh,0≤v∧v≤2048
 cells:x.al=false→(∀ v∈x.sh,1≤v)→(x.cs.length:Int)=D8 x.sh
 alone:x.al=true→1≤x.cs.length
 few:x.cs.length≤2048
def Ei(a:Arr)(other:List Int)(axes axis:Nat):Option Bk :=
 if a.shape.length=axes then some ⟨a.shape,a.cells,false⟩
 else if a.shape.length=0 then some ⟨if other.length=0 then [1] else other.set axis 1,a.cells,true⟩
 else if a.shape.length+1=axes then some ⟨a.shape.take axis++[1]++a.shape.drop axis,a.cells,false⟩
 else none
theorem DU{a:Arr}{other:List Int}{axes axis:Nat}{x:Bk}(h:Ei a other axes axis=some x)(ha:A7 a.shape=((a.cells.length:Int),0))(ho : ∀ v∈other,0≤v∧v≤2048)(h1:1≤axes)(h2:axis<axes)(h3:a.shape.length=0→other.length=0→axes=1)(h4:a.shape.length=0→other.length≠0→axes=other.length):BkOk x axes:=by
 have hr:=(Gm (l:=a.shape) (by rw[ha])).2
 have hle:=(Fw a.shape).2
 rw[ha]at hle
 have hcl:a.cells.length≤2048:=by simp only at hle;omega
 unfold Ei at h
 split at h
 · rename_i g
   injection h with h;subst h
   exact ⟨g,hr,fun _ hv=>(Vv ha hv).1,(fun h=>by cases h),hcl⟩
 split at h
 · rename_i g0 g
   injection h with h;subst h
   have hc:a.cells.length=1:=by
     have e:a.shape = []:=Ap2.1 g
     rw[e,show A7 []=(1,0) by decide]at ha
     injection ha with ha;omega
   refine ⟨?_,?_,(fun h=>by cases h),fun _=>by show 1≤a.cells.length;omega,hcl⟩
   · simp only
     split
     · rename_i g2;rw[h3 g g2];rfl
     · rename_i g2;rw[List.length_set,h4 g g2]
   · simp only
     split
     · intro v hv;rw[List.mem_singleton.1 hv];decide
     · intro v hv
       rcases List.mem_or_eq_of_mem_set hv with q | q
       · exact ho v q
       · rw[q];decide
 split at h
 · rename_i g0 g1 g
   injection h with h;subst h
   refine ⟨?_,?_,fun _ hv=> ?_,(fun h=>by cases h),hcl⟩
   · simp only[Apn,Apr,Apg,Apv,App];omega
   · intro v hv
     simp only[Aqh,List.mem_singleton]at hv
     rcases hv with (q | q) | q
     · exact hr v (List.mem_of_mem_take q)
     · rw[q];decide
     · exact hr v (List.mem_of_mem_drop q)
   · have hv2 : ∀ v∈a.shape,1≤v:=fun v hvv=>hv v (by
       rw[← Ap5 axis a.shape,Aqh]at hvv
       simp only[Aqh,List.mem_singleton]
       rcases hvv with q | q
       · exact .inl (.inl q)
       · exact .inr q)
     simp only[Qm,D8,Int.mul_one]
     rw[← Qm,Ap5]
     exact (Vv ha hv2).1
 · cases h
theorem TK(a:Arr)(other:List Int)(axes axis:Nat)(hl:a.shape.length≤1000)(ho:other.length≤1000)(h1:1≤axes)(h2:axis<axes)(h5:axes≤1000)(h4:a.shape.length=0→other.length≠0→axes=other.length) :
   Sp 172 [dA a,dI other,.int (axes:Int),.int (axis:Int)] (match Ei a other axes axis with | some x=>[x.d,.bool true] | none=>[G0 [] [] false,.bool false]):=by
 refine Af 0 (AfZ _ _ _ _ _) ?_
 have hw:Aom .i64 ((axes:Int)-1)=(axes:Int)-1:=Ax (by omega) (by omega)
 simp only[Ai,hw,List.replicate_zero,Aqp,Apv,← List.map_take,← List.map_drop,Apr,App,Apg]
 unfold Ei
 refine Ad (Ad (A0 (by simp only[Am];omega) (Ae (fun g=> ?_) (fun g=>Ae (fun g1=> ?_) (fun g1=>Ae (fun g2=> ?_) (fun g2=> ?_))))))
 · rw[if_pos (by omega)]
   exact A0 (by simp only[Am];omega) (Ac rfl)
 · rw[if_neg (by omega),if_pos (by omega)]
   refine Ae (fun q=> ?_) (fun q=> ?_)
   · exact A0 (by simp[Am]) (Ac (by rw[if_pos (by omega)];rfl))
   · have:=h4 (by omega) (by omega)
     rw[if_neg (by omega)]
     refine A0 (by simp only[Am];omega) (Ad (Ad (Ac ?_)))
     rw[show (D.int 1)=D.int ((1:Int)) from rfl,← List.map_set];rfl
 · rw[if_neg (by omega),if_neg (by omega),if_pos (by omega)]
   refine Ad (Ad (A0 (by simp only[Am];omega) (A0 (by simp only[Am];omega) (Ad (Ad (A0 (by simp only[Am,Apn,Apd,Apr,Apg,Apv];omega) (Ac ?_)))))))
   simp[Bk.d,G0,dI]
 · rw[if_neg (by omega),if_neg (by omega),if_neg (by omega)]
   exact Ac rfl
def Fs(x:Bk)(i n:Nat):List Cell:=if x.al then Apc n (x.cs.getD 0 (Bf 0)) else (x.cs.take (i*n+n)).drop (i*n)
theorem BD(x:Bk)(i n:Nat):(Fs x i n).length≤n:=by
 unfold Fs
 split
 · simp
 · simp only[App,Apr];omega
theorem TJ(x:Bk)(r:List Cell)(i n:Nat)(h1:x.al=false→i*n+n≤x.cs.length)(h2:x.al=true→1≤x.cs.length)(hc:x.cs.length≤2048)(hn:n≤100000)(hr:r.length≤1000000) :
  Sp 174 [x.d,.sl (r.map dC),.int (i:Int),.int (n:Int)] [.sl ((r++Fs x i n).map dC)]:=by
 obtain ⟨sh,cs,al⟩:=x
 simp only at h1 h2 hc
 cases al with
 | false =>
  have:=AfX sh cs r (i:Int) (n:Int) (by omega) (by omega) (by have:=h1 rfl;omega) hc hr
  rw[show ((i:Int)*(n:Int)+(n:Int)).toNat=i*n+n by omega,show ((i:Int)*(n:Int)).toNat=i*n by omega]at this
  exact this
 | true =>
  have hc1:=h2 rfl
  refine Af 100001 (TG _ _ _ _ _) (Ej rfl ?_)
  simp only[Ed,Ao]
  have hg:(cs.map dC).getD 0 D.nil=dC (cs.getD 0 (Bf 0)):=by
   rw[Aw (Apb (by omega)),Ape,Apb (by omega)];rfl
  have key:=Dl n (fun m k (_:Unit)=>Xk 100001 m ((r++Apc k (cs.getD 0 (Bf 0))).map dC) (n:Int) (k:Int) (G0 sh cs true)) (fun _ _=>[.sl ((r++Fs ⟨sh,cs,true⟩ i n).map dC)]) (fun _ _=>True)
   (fun m _ _=>by
    rw[TF]
    exact At (Ac rfl))
   (fun m k _ hk _ ih=>by
    rw[TF]
    simp only[G0,Lg,Ed,Apd,Int.toNat_zero,hg]
    refine Ad (Ad (Ad (A0 (by simp only[Apn,Aqg,Apg,Apv,Am];omega) ?_)))
    have:=ih () trivial
    rw[List.replicate_succ',← Apz,List.map_append]at this
    rw[Fh (by omega)]
    exact this)
   100001 0 () (by omega) (by omega) trivial
  simpa [Bk.d]using key
def Ki(x y:Bk)(axis:Nat)(s:List Int):List Cell :=
 (Ap8 (A_ (s.take axis) 1).toNat).flatMap (fun i=>Fs x i ((x.sh.getD axis 0).toNat*(A_ (s.drop (axis+1)) 1).toNat)++Fs y i ((y.sh.getD axis 0).toNat*(A_ (s.drop (axis+1)) 1).toNat))
structure Near (x:Bk) (axis:Nat) (s:List Int):Prop where
 ahead:x.sh.take axis=s.take axis
 behind:x.sh.drop (axis+1)=s.drop (axis+1)
theorem VT{x:Bk}{axes axis:Nat}{s:List Int}(hx:BkOk x axes)(ha:axis<axes)(hn:Near x axis s)(hs : ∀ v∈s,0≤v∧v≤2048)(hal:x.al=false) :
  (A_ (s.take axis) 1).toNat*((x.sh.getD axis 0).toNat*(A_ (s.drop (axis+1)) 1).toNat)≤x.cs.length:=by
 have r1:=Mu (s.take axis) 1 (fun v hv=>hs v (List.mem_of_mem_take hv)) (by decide) (by decide)
 have r2:=Mu (s.drop (axis+1)) 1 (fun v hv=>hs v (List.mem_of_mem_drop hv)) (by decide) (by decide)
 have hk:x.sh.getD axis 0=x.sh[axis]'(by rw[hx.len];exact ha):=by rw[Ape,Apb (by rw[hx.len];exact ha)];rfl
 have hkr:=hx.rng _ (Aqc (by rw[hx.len];exact ha):x.sh[axis]'(by rw[hx.len];exact ha)∈x.sh)
 have hsplit:x.sh=s.take axis++x.sh.getD axis 0::s.drop (axis+1):=by
  rw[← hn.ahead,← hn.behind,hk,← Ap1,Ap5]
 rw[← hk]at hkr
 generalize x.sh.getD axis 0=k at *
 rcases Decidable.em (A_ (s.take axis) 1=0) with e | e
 · rw[e];simp
 rcases Decidable.em (A_ (s.drop (axis+1)) 1=0) with e2 | e2
 · rw[e2];simp
 rcases Decidable.em (k=0) with e3 | e3
 · rw[e3];simp
 obtain ⟨p1,p2⟩:=Oc (fun v hv=>hs v (List.mem_of_mem_take hv)) e
 obtain ⟨p3,p4⟩:=Oc (fun v hv=>hs v (List.mem_of_mem_drop hv)) e2
 have hc:=hx.cells hal (fun v hv=>by
  rw[hsplit]at hv
  rcases Aqh.1 hv with q | q
  · exact p1 v q
  · rcases Apt.1 q with q | q
    · omega
    · exact p3 v q)
 rw[hsplit,Qm,D8,← p2,← p4]at hc
 generalize A_ (s.take axis) 1=A at *
 generalize A_ (s.drop (axis+1)) 1=B at *
 obtain ⟨A',rfl⟩ : ∃ n:Nat,A=(n:Int):=⟨A.toNat,by omega⟩
 obtain ⟨B',rfl⟩ : ∃ n:Nat,B=(n:Int):=⟨B.toNat,by omega⟩
 obtain ⟨k',rfl⟩ : ∃ n:Nat,k=(n:Int):=⟨k.toNat,by omega⟩
 simp only[Apj]
 have:(x.cs.length:Int)=((A'*(k'*B'):Nat):Int):=by rw[hc];simp
 omega
theorem AfU(x y:Bk)(axes axis:Nat)(s:List Int)(hx:BkOk x axes)(hy:BkOk y axes)(ha:axis<axes)(hnx:Near x axis s)(hny:Near y axis s)(hsl:s.length=axes)(hsx:s.getD axis 0=x.sh.getD axis 0+y.sh.getD axis 0)(hc:(A7 s).2=0) :
  Sp 88 [Gt x.d y.d (axis:Int),dI s] [.sl ((Ki x y axis s).map dC)]:=by
 obtain ⟨hl6,hs⟩:=Gm hc
 have r1:=Mu (s.take axis) 1 (fun v hv=>hs v (List.mem_of_mem_take hv)) (by decide) (by decide)
 have r2:=Mu (s.drop (axis+1)) 1 (fun v hv=>hs v (List.mem_of_mem_drop hv)) (by decide) (by decide)
 have gx:(x.sh.map D.int).getD axis D.nil=D.int (x.sh.getD axis 0):=Hv (by rw[hx.len];exact ha)
 have gy:(y.sh.map D.int).getD axis D.nil=D.int (y.sh.getD axis 0):=Hv (by rw[hy.len];exact ha)
 have memD : ∀ {l:List Int},axis<l.length→l.getD axis 0∈l:=fun h=>by rw[Ape,Apb h];exact Aqc h
 have kx:=hx.rng _ (memD (l:=x.sh) (by rw[hx.len];exact ha))
 have ky:=hy.rng _ (memD (l:=y.sh) (by rw[hy.len];exact ha))
 have cx:=fun h=>VT hx ha hnx hs h
 have cy:=fun h=>VT hy ha hny hs h
 have tot:(A_ (s.take axis) 1).toNat*((s.getD axis 0).toNat*(A_ (s.drop (axis+1)) 1).toNat)≤2048:=by
  have ms:=hs _ (memD (l:=s) (by omega))
  have hk:s.getD axis 0=s[axis]:=by rw[Ape,Apb (by omega)];rfl
  have hsplit:s=s.take axis++s.getD axis 0::s.drop (axis+1):=by rw[hk,← Ap1,Ap5]
  rcases Decidable.em (A_ (s.take axis) 1=0) with e | e
  · rw[e];simp
  rcases Decidable.em (A_ (s.drop (axis+1)) 1=0) with e2 | e2
  · rw[e2];simp
  rcases Decidable.em (s.getD axis 0=0) with e3 | e3
  · rw[e3];simp
  obtain ⟨p1,p2⟩:=Oc (fun v hv=>hs v (List.mem_of_mem_take hv)) e
  obtain ⟨p3,p4⟩:=Oc (fun v hv=>hs v (List.mem_of_mem_drop hv)) e2
  have hz:=(Vv (s:=s) (c:=(A7 s).1) (by rw[← hc]) (fun v hv=>by
   rw[hsplit]at hv
   rcases Aqh.1 hv with q | q
   · exact p1 v q
   · rcases Apt.1 q with q | q
     · omega
     · exact p3 v q)).2
  rw[hsplit,Qm,D8,← p2,← p4]at hz
  generalize A_ (s.take axis) 1=A at *
  generalize A_ (s.drop (axis+1)) 1=B at *
  generalize s.getD axis 0=k at *
  obtain ⟨A',rfl⟩ : ∃ n:Nat,A=(n:Int):=⟨A.toNat,by omega⟩
  obtain ⟨B',rfl⟩ : ∃ n:Nat,B=(n:Int):=⟨B.toNat,by omega⟩
  obtain ⟨k',rfl⟩ : ∃ n:Nat,k=(n:Int):=⟨k.toNat,by omega⟩
  simp only[Apj]
  have:((A'*(k'*B'):Nat):Int)≤2048:=by simpa using hz
  omega
 rw[hsx]at tot
 have ar:=LW s (axis:Int)
 rw[show Nh s (axis:Int) = [.int (A_ (s.take axis) 1),.int (s.getD axis 0),.int (A_ (s.drop (axis+1)) 1),.bool true] by unfold Nh;rw[if_pos ⟨hc,by omega,by omega⟩];rfl]at ar
 refine Af 4096 (AfV _ _ _) ?_
 simp only[Gt,Bk.d,G0,Lf,Lg,Wx,Ao]
 refine Aa ar ?_
 unfold Ki
 generalize hA:A_ (s.take axis) 1=A at *
 generalize hB:A_ (s.drop (axis+1)) 1=B at *
 generalize hX:x.sh.getD axis 0=X at *
 generalize hY:y.sh.getD axis 0=Y at *
 obtain ⟨A',rfl⟩ : ∃ n:Nat,A=(n:Int):=⟨A.toNat,by omega⟩
 obtain ⟨B',rfl⟩ : ∃ n:Nat,B=(n:Int):=⟨B.toNat,by omega⟩
 obtain ⟨X',rfl⟩ : ∃ n:Nat,X=(n:Int):=⟨X.toNat,by omega⟩
 obtain ⟨Y',rfl⟩ : ∃ n:Nat,Y=(n:Int):=⟨Y.toNat,by omega⟩
 simp only[Apj]at *
 rw[show ((X':Int)+(Y':Int)).toNat=X'+Y' by omega,Nat.add_mul]at tot
 have b1:X'*B'≤2048*2048:=Nat.mul_le_mul (by omega) (by omega)
 have b2:Y'*B'≤2048*2048:=Nat.mul_le_mul (by omega) (by omega)
 have w1:Aom .i64 ((X':Int)*(B':Int))=((X'*B':Nat):Int):=by rw[← Int.natCast_mul];exact Ax (by omega) (by omega)
 have w2:Aom .i64 ((Y':Int)*(B':Int))=((Y'*B':Nat):Int):=by rw[← Int.natCast_mul];exact Ax (by omega) (by omega)
 have w3:Aom .i64 (((X'*B':Nat):Int)+((Y'*B':Nat):Int))=((X'*B'+Y'*B':Nat):Int):=by rw[Ax (by omega) (by omega)];simp
 have w4:Aom .i64 ((A':Int)*((X'*B'+Y'*B':Nat):Int))=((A'*(X'*B'+Y'*B'):Nat):Int):=by rw[← Int.natCast_mul];exact Ax (by omega) (by omega)
 simp only[Ah,W3,Ao,Ch,Apd,hx.len,hy.len,Apj,Int.toNat_zero,gx,gy,w1,w2,w3,w4]
 refine Ad (Ad (Ad (Ad (Ad (Ad (A0 (by simp only[Am];omega) ?_))))))
 have key:=Dl A' (fun m k (r:List Cell)=>Xm 4096 m ((X'*B':Nat):Int) ((Y'*B':Nat):Int) (r.map dC) (A':Int) (k:Int) (Gt x.d y.d (axis:Int))) (fun _ _=>[.sl (((Ap8 A').flatMap (fun i=>Fs x i (X'*B')++Fs y i (Y'*B'))).map dC)])
  (fun k r=>r=(Ap8 k).flatMap (fun i=>Fs x i (X'*B')++Fs y i (Y'*B'))∧r.length≤k*(X'*B'+Y'*B'))
  (fun m r hI=>by
   rw[TH,hI.1]
   exact At (Ac rfl))
  (fun m k r hk hI ih=>by
   have hkA:(k+1)*(X'*B'+Y'*B')≤A'*(X'*B'+Y'*B'):=Apu _ (by omega)
   rw[Nat.add_mul,Nat.one_mul]at hkA
   have q : ∀ n:Nat,k*n+n≤A'*n:=fun n=>by
     have:=Apu n (show k+1≤A' by omega)
     rwa[Nat.add_mul,Nat.one_mul]at this
   have l1:=BD x k (X'*B')
   have l2:=BD y k (Y'*B')
   have s1:=TJ x r k (X'*B') (fun h=>by have:=cx h;have:=q (X'*B');omega) hx.alone hx.few (by omega) (by omega)
   have s2:=TJ y (r++Fs x k (X'*B')) k (Y'*B') (fun h=>by have:=cy h;have:=q (Y'*B');omega) hy.alone hy.few (by omega) (by rw[Apn];omega)
   rw[TH]
   simp only[Gt,Lf,Lg]at *
   refine Ad (Aa s1 (Aa s2 ?_))
   rw[Fh (by omega)]
   refine ih _ ⟨?_,?_⟩
   · rw[List.range_succ,List.flatMap_append,← hI.1];simp
   · rw[Apn,Apn,Nat.add_mul,Nat.one_mul];omega)
  4096 0 [] (by omega) (by omega) ⟨rfl,by simp⟩
 exact key
def Jc:List Int→List Int→Nat→Nat→Bool
 | x::xs,y::ys,axis,i=>(decide (i≠axis∧x≠y))||Jc xs ys axis (i+1)
 | _,_,_,_=>false
theorem QD : ∀ {xs ys:List Int} {axis i:Nat},Jc xs ys axis i=false→xs.length=ys.length→∀ j,i+j≠axis→xs[j]? = ys[j]?
 | [],[],_,_,_,_,_,_=>rfl
 | x::xs,y::ys,axis,i,h,hl,j,hj=>by
  simp only[Jc,Bool.or_eq_false_iff,decide_eq_false_iff_not]at h
  match j with
  | 0 =>
   have:=h.1
   have e:x=y:=Decidable.byContradiction (fun q=>this ⟨by simpa using hj,q⟩)
   rw[e];rfl
  | j+1 =>
   have:=QD h.2 (by simpa using hl) j (by omega)
   simpa using this
 | [],y::ys,_,_,_,hl,_,_=>by simp at hl
 | x::xs,[],_,_,_,hl,_,_=>by simp at hl
def Eo(x y:List Int)(axis:Nat):List Int×Int :=
 if Jc x y axis 0 then ([],4) else if (A7 (x.set axis (x.getD axis 0+y.getD axis 0))).2≠0 then ([],(A7 (x.set axis (x.getD axis 0+y.getD axis 0))).2) else (x.set axis (x.getD axis 0+y.getD axis 0),0)
theorem AfY(x y:Bk)(axes axis:Nat)(hx:BkOk x axes)(hy:BkOk y axes)(ha:axis<axes)(h5:axes≤1000) :
  Sp 87 [Gt x.d y.d (axis:Int)] [dI (Eo x.sh y.sh axis).1,.int (Eo x.sh y.sh axis).2]:=by
 refine Af 4096 (AfW _ _) ?_
 have gx:(x.sh.map D.int).getD axis D.nil=D.int (x.sh.getD axis 0):=Hv (by rw[hx.len];exact ha)
 have gy:(y.sh.map D.int).getD axis D.nil=D.int (y.sh.getD axis 0):=Hv (by rw[hy.len];exact ha)
 have memD : ∀ {l:List Int},axis<l.length→l.getD axis 0∈l:=fun h=>by rw[Ape,Apb h];exact Aqc h
 have kx:=hx.rng _ (memD (l:=x.sh) (by rw[hx.len];exact ha))
 have ky:=hy.rng _ (memD (l:=y.sh) (by rw[hy.len];exact ha))
 have lx:=hx.len
 have ly:=hy.len
 simp only[Gt,Bk.d,G0,Lf,Lg,Wx,Ch,Apd]
 have key:=Ca x.sh (fun m k (_:Unit)=>Pu 4096 m (dI x.sh) (x.sh.length:Int) (k:Int) (Gt x.d y.d (axis:Int))) (fun _ _=>[dI (Eo x.sh y.sh axis).1,.int (Eo x.sh y.sh axis).2])
  (fun rest _=>Jc x.sh y.sh axis 0=Jc rest (y.sh.drop (x.sh.length-rest.length)) axis (x.sh.length-rest.length))
  (fun m k _ hk hI=>by
   have hd:Jc x.sh y.sh axis 0=false:=by rw[hI];rfl
   rw[TI]
   simp only[Gt,Bk.d,G0,Lf,Lg,Wx,Ao,Ch,Apd,Apj,gx,gy,Ax (x:=x.sh.getD axis 0+y.sh.getD axis 0) (by omega) (by omega)]
   have hw:=Abt x.sh (axis:Int) (x.sh.getD axis 0+y.sh.getD axis 0) (by omega)
   rw[show Uv x.sh (axis:Int) (x.sh.getD axis 0+y.sh.getD axis 0) = [dI (x.sh.set axis (x.sh.getD axis 0+y.sh.getD axis 0)),.bool true] by unfold Uv;rw[if_pos ⟨by omega,by omega⟩];rfl]at hw
   refine At (Ad (Ad (Ad (Ad (Aa hw ?_)))))
   simp only[Ah]
   refine Aa (Ol _) ?_
   unfold Eo
   rw[hd]
   simp only[Ai,Bool.false_eq_true,if_false]
   refine Ae (fun g=>Ac ?_) (fun g=>Ac ?_)
   · rw[if_pos g];rfl
   · rw[if_neg g])
  (fun m k _ v rest hdr hI ih=>by
   obtain ⟨h4,h2,h3⟩:=B6 hdr
   have hle:=congrArg Aql hdr
   rw[App,Apg]at hle
   rw[show x.sh.length-(v::rest).length=k by rw[Apg];omega,Ap1 (show k<y.sh.length by omega)]at hI
   rw[show x.sh.length-rest.length=k+1 by omega]at ih
   have hsi:y.sh[k]? = some y.sh[k]:=Apb (by omega)
   generalize y.sh[k]=u at *
   simp only[Jc]at hI
   have go:Jc x.sh y.sh axis 0=Jc rest (y.sh.drop (k+1)) axis (k+1)→Tw (Pu 4096 m (dI x.sh) (x.sh.length:Int) ((k+1:Nat):Int) (Gt x.d y.d (axis:Int))) [dI (Eo x.sh y.sh axis).1,.int (Eo x.sh y.sh axis).2]:=ih ()
   rw[TI]
   have e:(Gt x.d y.d (axis:Int)).fld 2=D.int (axis:Int):=rfl
   have e2:(((Gt x.d y.d (axis:Int)).fld 1).fld 0)=dI y.sh:=rfl
   simp only[e,e2,Ao,Ch,Apd,Apj,Aw h2,Aw hsi,Dg,Bh k]
   refine Ad (Ad (Ad (Ae (fun g=> ?_) (fun g=> ?_))))
   · refine Ad (Ad (Ae (fun g2=>Ac ?_) (fun g2=> ?_)))
     · have:Jc x.sh y.sh axis 0=true:=by rw[hI,decide_eq_true ⟨by omega,g2⟩];rfl
       unfold Eo
       rw[if_pos this];rfl
     · refine go ?_
       rw[hI,decide_eq_false (fun q=>g2 q.2)];rfl
   · refine go ?_
     rw[hI,decide_eq_false (fun q=>q.1 (by omega))];rfl)
  4096 0 () (by omega) (by omega) (by simp)
 exact key
def B8(a b:Arr):Nat:=max (max a.shape.length b.shape.length) 1
def Bx(a b:Arr)(first:Bool):Nat:=if first then 0 else B8 a b-1
theorem I8(a b:Arr)(first:Bool):Bx a b first<B8 a b:=by unfold Bx B8;split <;> omega
def GO(a b:Arr)(first:Bool):List D:=match Ei a b.shape (B8 a b) (Bx a b first),Ei b a.shape (B8 a b) (Bx a b first) with
 | some x,some y=>[Gt x.d y.d (Bx a b first:Int),.int 0]
 | _,_=>[Gt (G0 [] [] false) (G0 [] [] false) 0,.int 5]
theorem AfS(a b:Arr)(first:Bool)(ha:a.shape.length≤6)(hb:b.shape.length≤6):Sp 86 [dA a,dA b,.bool first] (GO a b first):=by
 refine Af 0 (AfT _ _ _ _) ?_
 have e1:(if (if (a.shape.length:Int)<(b.shape.length:Int) then (b.shape.length:Int) else (a.shape.length:Int))<1 then 1 else (if (a.shape.length:Int)<(b.shape.length:Int) then (b.shape.length:Int) else (a.shape.length:Int)))=((B8 a b:Nat):Int):=by unfold B8;split <;> (split <;> omega)
 have h1:1≤B8 a b:=by unfold B8;omega
 have h6:B8 a b≤6:=by unfold B8;omega
 have w1:=TK a b.shape (B8 a b) (Bx a b first) (by omega) (by omega) h1 (I8 a b first) (by omega) (by unfold B8;omega)
 have w2:=TK b a.shape (B8 a b) (Bx a b first) (by omega) (by omega) h1 (I8 a b first) (by omega) (by unfold B8;omega)
 simp only[Ai,e1]
 unfold GO
 have fin:Tw (.call 172 [] [dA a,dI b.shape,.int (B8 a b:Int),.int (Bx a b first:Int)] fun Y1 =>
   .br (!((qB Y1).toBool)) (.ret [D.agg [D.agg [D.sl [],D.sl [],D.bool false],D.agg [D.sl [],D.sl [],D.bool false],D.int 0],D.int 5])
   (.call 172 [] [dA b,dI a.shape,.int (B8 a b:Int),.int (Bx a b first:Int)] fun Y2 =>
   .br (!((qB Y2).toBool)) (.ret [D.agg [D.agg [D.sl [],D.sl [],D.bool false],D.agg [D.sl [],D.sl [],D.bool false],D.int 0],D.int 5])
   (.ret [D.agg [qA Y1,qA Y2,D.int (Bx a b first:Int)],D.int 0]))) (match Ei a b.shape (B8 a b) (Bx a b first),Ei b a.shape (B8 a b) (Bx a b first) with
    | some x,some y=>[Gt x.d y.d (Bx a b first:Int),.int 0]
    | _,_=>[Gt (G0 [] [] false) (G0 [] [] false) 0,.int 5]):=by
  refine Aa w1 ?_
  cases Ei a b.shape (B8 a b) (Bx a b first) with
  | none=>exact Bo rfl (Ac rfl)
  | some x =>
    refine Ej rfl (Aa w2 ?_)
    cases Ei b a.shape (B8 a b) (Bx a b first) with
    | none=>exact Bo rfl (Ac rfl)
    | some y=>exact Ej rfl (Ac rfl)
 cases first with
 | true=>exact Bo rfl fin
 | false =>
  have e3:Aom .i64 ((B8 a b:Int)-1)=(Bx a b false:Int):=by rw[Ax (by omega) (by omega)];unfold Bx;simp;omega
  rw[e3]
  exact Ej rfl fin
def F_(a b:Arr)(first:Bool):Arr×Int:=match Ei a b.shape (B8 a b) (Bx a b first),Ei b a.shape (B8 a b) (Bx a b first) with
 | some x,some y=>if (Eo x.sh y.sh (Bx a b first)).2≠0 then (.none,(Eo x.sh y.sh (Bx a b first)).2) else (.mk (a.s|||b.s) (Eo x.sh y.sh (Bx a b first)).1 (Ki x y (Bx a b first) (Eo x.sh y.sh (Bx a b first)).1),0)
 | _,_=>(.none,5)
theorem Ac2{x y:Bk}{axes axis:Nat}(hx:BkOk x axes)(hy:BkOk y axes)(ha:axis<axes)(h:(Eo x.sh y.sh axis).2=0) :
   Near x axis (Eo x.sh y.sh axis).1∧Near y axis (Eo x.sh y.sh axis).1∧(Eo x.sh y.sh axis).1.length=axes∧(Eo x.sh y.sh axis).1.getD axis 0=x.sh.getD axis 0+y.sh.getD axis 0∧(A7 (Eo x.sh y.sh axis).1).2=0:=by
 unfold Eo at h ⊢
 split at h
 · cases h
 · rename_i hd
   rw[if_neg hd]
   split at h
   · rename_i g;exact absurd h g
   · rename_i g
     rw[if_neg g]
     have hxy:x.sh.length=y.sh.length:=by rw[hx.len,hy.len]
     have heq:=QD (by simpa using hd) hxy
     refine ⟨⟨?_,?_⟩,⟨?_,?_⟩,by rw[List.length_set,hx.len],?_,Apm.1 g⟩
     · rw[List.take_set_of_le (Apo _)]
     · rw[List.drop_set_of_lt (by omega)]
     · rw[List.take_set_of_le (Apo _)]
       refine List.ext_getElem? (fun j=> ?_)
       rw[List.getElem?_take,List.getElem?_take]
       split
       · rw[heq j (by omega)]
       · rfl
     · rw[List.drop_set_of_lt (by omega)]
       refine List.ext_getElem? (fun j=> ?_)
       rw[List.getElem?_drop,List.getElem?_drop,heq _ (by omega)]
     · rw[Ape,List.getElem?_set_self (by rw[hx.len];exact ha)];rfl
theorem TE(a b:Arr)(first:Bool)(ha:A7 a.shape=((a.cells.length:Int),0))(hb:A7 b.shape=((b.cells.length:Int),0)):Sp 36 [dA a,dA b,.bool first] [dA (F_ a b first).1,.int (F_ a b first).2]:=by
 have ha6:=(J6 ha).1
 have hb6:=(J6 hb).1
 have har:=(Gm (l:=a.shape) (by rw[ha])).2
 have hbr:=(Gm (l:=b.shape) (by rw[hb])).2
 have h6:B8 a b≤6:=by unfold B8;omega
 have h1:1≤B8 a b:=by unfold B8;omega
 refine Af 0 (AfP _ _ _ _) ?_
 have hf:=AfS a b first ha6 hb6
 unfold GO at hf
 unfold F_
 simp only[Ba]
 cases hwa:Ei a b.shape (B8 a b) (Bx a b first) with
 | none=>rw[hwa]at hf;exact Aa hf (Bo rfl (Ac rfl))
 | some x =>
  rw[hwa]at hf
  cases hwb:Ei b a.shape (B8 a b) (Bx a b first) with
  | none=>rw[hwb]at hf;exact Aa hf (Bo rfl (Ac rfl))
  | some y =>
   rw[hwb]at hf
   have hx:=DU hwa ha hbr h1 (I8 a b first) (by unfold B8;omega) (by unfold B8;omega)
   have hy:=DU hwb hb har h1 (I8 a b first) (by unfold B8;omega) (by unfold B8;omega)
   refine Aa hf (Ej rfl (Aa (AfY x y (B8 a b) _ hx hy (I8 a b first) (by omega)) ?_))
   simp only[Ai,C8]
   refine Ae (fun g=>Ac (by rw[if_pos g])) (fun g=> ?_)
   rw[if_neg g]
   obtain ⟨n1,n2,n3,n4,n5⟩:=Ac2 hx hy (I8 a b first) (Apm.1 g)
   refine Aa (Ha a.s b.s) (Aa (AfU x y (B8 a b) _ _ hx hy (I8 a b first) n1 n2 n3 n4 n5) (Ac ?_))
   simp only[Ai]
   rw[D5];rfl
def Lv(a:Arr):Arr:= .mk a.s (if 0<a.shape.length then [a.shape.getD 0 0,A_ (a.shape.drop 1) 1] else [1,1]) a.cells
theorem AfQ(a:Arr)(ha:A7 a.shape=((a.cells.length:Int),0)):Sp 58 [dA a] [dA (Lv a)]:=by
 have hle:=(Fw a.shape).2
 rw[ha]at hle
 simp only at hle
 refine Af 0 (AfR _ _) ?_
 unfold Lv
 simp only[Ai]
 refine Ae (fun g=> ?_) (fun g=> ?_)
 · have ar:=LW a.shape 0
   rw[show Nh a.shape 0 = [.int (A_ (a.shape.take 0) 1),.int (a.shape.getD 0 0),.int (A_ (a.shape.drop 1) 1),.bool true] by unfold Nh;rw[if_pos ⟨by rw[ha],by omega,by omega⟩];rfl]at ar
   refine Aa ar (A0 (by simp only[Am];omega) (Ac ?_))
   rw[if_pos (by omega),D5]
   rfl
 · refine A0 (by simp only[Am];omega) (Ac ?_)
   rw[if_neg (by omega),D5]
   rfl
end Go.Proofs.YtokkbgpgaheakaaGreat
