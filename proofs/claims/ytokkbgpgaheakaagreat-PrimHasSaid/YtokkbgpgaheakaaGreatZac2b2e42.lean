/- Proved: lemmas for the law of this folder, part 5. No condition. -/
import Derived.Test.YtokkbgpgaheakaaGreatRows
import Derived.WalkKit
import Derived.WalkSpells
import Derived.WalkLawsBesides
import Derived.Lib.Hide
import Derived.Laws.CopyOwn
import Derived.Deep.QuietTactic
import Derived.BigQuiet
import Derived.Orders
import Derived.Defers
import Derived.Recover
import Derived.Test.YtokkbgpgaheakaaGreatProg
import Derived.KernelRfl
import Derived.ProofKit
import Derived.OpenShut
import Derived.Maps.OwnRows
import Derived.Maps.Views
import Derived.Deep.RegionHeld3
import Derived.Deep.AppendLies
import Derived.Test.YtokkbgpgaheakaaGreatZ0ddbc6e3
set_option linter.unusedSimpArgs false
set_option linter.unusedVariables false
set_option maxRecDepth 100000
open Array renaming getElem?_eq_getElem → Al3, getElem?_eq_some_iff → Amc, getD_eq_getD_getElem? → Amf
open BitVec renaming ofNat → Al0
open Bool renaming and_eq_true → Alp
open Classical renaming not_not → Alt
open Int renaming toNat → Alf, toNat_natCast → Aln, fdiv → Al8
open Go.IntKind renaming wrap → Ale, bits → Alq
open List renaming getElem?_eq_getElem → Alg, replicate → Alh, length_map → Ali, getElem?_eq_some_iff → Alj, getD_eq_getElem?_getD → Alk, length_cons → All, mem_of_getElem? → Alm, length_append → Alr, length_drop → Alu, length_take → Alw, mem_cons → Alx, getElem?_map → Aly, length_nil → Alz, append_nil → Al2, append_assoc → Al4, getElem?_append_left → Al5, drop_eq_getElem_cons → Al6, length_eq_zero_iff → Al7, take_append_drop → Ama, take_of_length_le → Amb, range → Amd, length_replicate → Amg, getElem_mem → Amj, map_cons → Aml, nil_append → Amo
open Nat renaming le_refl → Als, mul_le_mul_right → Al1, mod_lt → Al9, mod_eq_of_lt → Al_, lt_of_lt_of_le → Ame, mul_comm → Ami, pow_succ → Amk, div_lt_iff_lt_mul → Amm, zero_add → Amn
open Option renaming map_eq_some_iff → Alv, bind_eq_some_iff → Amh
open Option.some renaming injEq → Alo
namespace Go.Proofs.YtokkbgpgaheakaaGreat
theorem Em(a:Arr):Fits a→Sp 84 [dA a] [dB (A5 a)]:=by
 induction a using Arr.ind with
 | h s sh cs IH =>
  intro ha
  have hl:=ha.len
  have IH' : ∀ c∈(Arr.mk s sh cs).cells,∀ x∈c.inn,Fits x→Sp 84 [dA x] [dB (A5 x)]:=IH
  generalize Arr.mk s sh cs=a at *
  obtain ⟨N,hN⟩:=AU
  refine Af N (Aa9 _ _) ?_
  rw[YW]
  have key:=B1 a.cells (fun m k (l:A8)=>Sy N m (l.toNat:Int) (.sl (a.cells.map dC)) (a.cells.length:Int) (k:Int)) (fun rest l=>[dB (rest.foldl Mp l)]) (fun _ _=>True)
   (fun m k l hk _=>by
    simp only[JV,Ah]
    exact Aq (Ac rfl))
   (fun m k l c rest hdr _ ih=>by
    obtain ⟨h1,h2,h3⟩:=Bv hdr
    have hc:=ha.cell c (Alm h2)
    have hlc:=hc.2.2.1
    simp only[JV,Ah,Ar h2]
    repeat (refine Ad ?_)
    refine Aa (F9 l c.l) ?_
    simp only[Ag,D5,List.foldl_cons]
    rw[YY]
    have key:=B1 c.inn (fun m' j (l:A8)=>Sz N m m' (l.toNat:Int) (.sl (a.cells.map dC)) (a.cells.length:Int) (k:Int) (.sl (c.inn.map dA)) (c.inn.length:Int) (j:Int)) (fun rest' l=>[dB (rest.foldl Mp (rest'.foldl (fun l x=>l|||A5 x) l))]) (fun _ _=>True)
     (fun m' j l hj _=>by
      simp only[JW,Ah,Ar h2,Bb k]
      exact Aq (ih _ trivial))
     (fun m' j l x rest' hdr' _ ih'=>by
      obtain ⟨g1,g2,g3⟩:=Bv hdr'
      simp only[JW,Ah,Ar h2,Ar g2,Bb j]
      repeat (refine Ad ?_)
      refine Aa (IH' c (Alm h2) x (Alm g2) (hc.2.2.2 x (Alm g2))) (Aa (F9 l (A5 x)) ?_)
      exact ih' (l|||A5 x) trivial)
     N 0 (l|||c.l) (by omega) (by omega) trivial
    exact key)
   N 0 a.s (by omega) (by omega) trivial
  simp only[Ah]
  exact key
theorem Ju(a:Arr)(hl:a.cells.length≤2048)(hn : ∀ c∈a.cells,c.n.top.length≤32):Sp 80 [dA a] [dI (A7 a).1,.int (A7 a).2]:=by
 refine Af (a.cells.length+1) (Aa3 _ _) ?_
 simp only[Ah,List.replicate_zero]
 refine Ae (fun h=>Ac ?_) (fun h=> ?_)
 · unfold A7;rw[if_pos (by omega)];rfl
 · rw[← AcH (by omega)]
   refine Ad (Ad (Av (by simp only[Aj];omega) ?_))
   have key:=B1 a.cells (fun m k (out:List Int)=>Sw (a.cells.length+1) m (out.map .int) (.sl (a.cells.map dC)) (a.cells.length:Int) (k:Int)) (fun rest out=>U6 out (F7 rest)) (fun rest out=>out.length+rest.length≤2048)
    (fun m k out hk _=>by
     simp only[JS,Ah]
     exact Aq (Ac (by simp[F7,U6,dI])))
    (fun m k out c rest hdr hI ih=>by
     obtain ⟨h1,h2,h3⟩:=Bv hdr
     have hm:=Alm h2
     simp only[JS,Ah,Ar h2,Bb k]
     repeat (refine Ad ?_)
     simp only[F7]
     refine Aa (W7 c.n (by have:=hn c hm;omega)) ?_
     refine Ae (fun hk=>Ac ?_) (fun hk=> ?_)
     · rw[if_neg hk];rfl
     rw[if_pos (Alt.1 hk)]
     cases hs:Db c.n with
     | none=>exact Ax rfl (Ac rfl)
     | some z =>
      refine B_ rfl (Av ?_ ?_)
      · simp only[All,Alz,Aj,Ali]at hI ⊢; omega
      · have:=ih (out++[z]) (by simp only[Alr,All,Alz]at hI ⊢; omega)
        simp only[Kx,Ag,Ak]
        rw[List.map_append]at this
        refine Tree.wp_mono this (fun ys hy=>hy.trans ?_)
        cases F7 rest with
        | none=>rfl
        | some l=>simp[U6])
    (a.cells.length+1) 0 [] (by omega) (by omega) (by simpa using hl)
   exact key
theorem Hz(z:Int)(hz:Bc z):Sp 138 [.int z] [dC (Be z)]:=by
 refine Af 0 (Aa2 _ _) (Aa (Kz z hz) (Ac ?_))
 rw[Do];rfl
def Abb(c:Int):Cell:=⟨0,1,.zero,c,[]⟩
theorem Aay(z:Int):Sp 171 [.int z] [dC (Abb z)]:=by
 refine Af 0 (Aaz _ _) (Ac ?_)
 rw[Do];rfl
theorem U4:Bc 0:=by unfold Bc;decide
theorem Sv(a:Arr):Sp 82 [dA a] [dC (Ct a)]:=by
 refine Af 0 (Aa1 _ _) ?_
 simp only[Ah]
 unfold Ct
 match hc:a.cells with
 | []=>exact Av (by simp) (Aa (Hz 0 U4) (Ac rfl))
 | c::cs =>
  refine Mu (by simp;omega) (Aa (Hz 0 U4) (Ad (Av (by simp) ?_)))
  simp only[Aml,Ag,Ah]
  refine Ae (fun h=>Aa (Aay 32) (Ad (Av (by simp) (Ac ?_)))) (fun h=>Ad (Av (by simp) (Ac ?_)))
  · rw[if_pos h,Do]
    simp only[Ah];rfl
  · rw[if_neg h,Do]
    simp only[Ah];rfl
theorem Adl:lb 1 = [1]:=by rw[Nw (by decide),show 1 / B=0 by decide,Cs];rfl
theorem QO(z:Int):Bm (Cm z)=z:=Cw z
theorem AeK(z:Int):Bi (Cm z)=1:=by simp[Bi,Cm,nv]
theorem OJ{z:Int}(h:Bc z):(lb z.natAbs).length≤2:=Ay.2 (by unfold Bc at h;show z.natAbs<18446744073709551616;omega)
theorem Aij{z:Int}(h:Bc z):Ej (Cm z)=true:=by
 have hl:=OJ h
 unfold Ej
 rw[QO,AeK]
 refine decide_eq_true ⟨by simp only[Cm];omega,by simp[Cm],?_⟩
 unfold C1
 simp only[Int.natAbs_one,Nat.gcd_one_right,Nat.div_one,Adl]
 rw[if_neg (by decide),if_neg (by simp only[All,Alz];omega)]
 unfold Cm
 congr 2
 by_cases hz:z<0
 · have:0<(lb z.natAbs).length:=by
    rcases Nat.eq_zero_or_pos (lb z.natAbs).length with h0 | h0
    · have:=F_.1 h0;omega
    · exact h0
   simp[hz,this]
 · simp[hz]
theorem AjA{z:Int}(h:Bc z):Db (Cm z)=some z:=by
 unfold Db K8
 rw[if_pos (show (Cm z).bot = [1] from rfl),QO,if_pos h]
theorem Yf{n:Num}(h:Ej n=true):n.top.length≤32∧n.bot.length≤32:=by
 have:=of_decide_eq_true h
 exact ⟨this.1,this.2.1⟩
theorem Rp{d:Nat}{c:Cell}(h:B7 d c=true):c.n.top.length≤32∧c.n.bot.length≤32∧c.inn.length≤1:=by
 suffices key : ∀ k r,D0 k r c=true→c.n.top.length≤32∧c.n.bot.length≤32∧c.inn.length≤1 by
   cases d with
   | zero=>exact key _ _ h
   | succ d=>exact key _ _ h
 intro k r h
 unfold D0 at h
 split at h
 · simp only[Alp,decide_eq_true_eq]at h
   exact ⟨(Yf h.2).1,(Yf h.2).2,by omega⟩
 split at h
 · simp only[Alp,decide_eq_true_eq]at h
   rw[h.1.1];exact ⟨by decide,by decide,by omega⟩
 · simp only[Alp,decide_eq_true_eq]at h
   rw[h.1.2.1]
   refine ⟨by decide,by decide,?_⟩
   have hb:=h.2.2
   unfold Kl at hb
   split at hb
   · rename_i hi;rw[hi];simp
   · cases hb
theorem Dv{d:Nat}{a:Arr}(h:Ba d a=true):A0 a.shape=((a.cells.length:Int),0)∧∀ c∈a.cells,B7 d c=true:=by
 rw[GN]at h
 simp only[Alp,decide_eq_true_eq,List.all_eq_true]at h
 exact h
theorem Ye{d:Nat}{a:Arr}(h1:A0 a.shape=((a.cells.length:Int),0))(h2 : ∀ c∈a.cells,B7 d c=true):Ba d a=true:=by
 rw[GN]
 simp only[Alp,decide_eq_true_eq,List.all_eq_true]
 exact ⟨h1,h2⟩
theorem Ev{d:Nat}{a:Arr}(h:Ba d a=true):a.cells.length≤2048∧a.shape.length≤6∧∀ x∈a.shape,0≤x∧x≤2048:=by
 have h1:=(Dv h).1
 have h2:=F1 a.shape
 have h3:=Gl (l:=a.shape) (by rw[h1])
 rw[h1]at h2
 exact ⟨by simp only at h2;omega,h3⟩
theorem Oq{d:Nat}{a:Arr}(h:Ba d a=true) : ∀ c∈a.cells,c.n.top.length≤32:=fun c hc=>(Rp ((Dv h).2 c hc)).1
theorem Ro{z:Int}(d:Nat)(h:Bc z):B7 d (Be z)=true:=by
 have : ∀ k r,D0 k r (Be z)=true:=by
  intro k r
  unfold D0
  rw[if_pos (show (Be z).kind=0 from rfl)]
  have:=Aij h
  simp only[Be,this];rfl
 cases d <;> exact this _ _
theorem Et{z:Int}(h1 : -100000≤z)(h2:z≤100000):Bc z:=by unfold Bc;omega
def Sml:Nat→Arr→Prop
 | 0,_=>False
 | d+1,a=>a.shape.length≤1048576∧a.cells.length≤1048576∧(∀ x∈a.shape,Bc x)∧∀ c∈a.cells,c.n.top.length≤1048576∧c.n.bot.length≤1048576∧c.inn.length≤1048576∧∀ x∈c.inn,Sml d x
def SmlC(d:Nat)(c:Cell):Prop:=c.n.top.length≤1048576∧c.n.bot.length≤1048576∧c.inn.length≤1048576∧∀ x∈c.inn,Sml d x
theorem Sml.succ {d:Nat} {a:Arr} (h:Sml d a) : ∃ e,d=e+1:=by
 cases d with
 | zero=>exact h.elim
 | succ e=>exact ⟨e,rfl⟩
theorem Sml.cell {d:Nat} {a:Arr} (h:Sml (d+1) a) : ∀ c∈a.cells,SmlC d c:=h.2.2.2
theorem Sml.of {d:Nat} {a:Arr} (h1:a.shape.length≤1048576) (h2:a.cells.length≤1048576) (h3 : ∀ x∈a.shape,Bc x) (h4 : ∀ c∈a.cells,SmlC d c):Sml (d+1) a:=⟨h1,h2,h3,h4⟩
theorem Sml.fits : ∀ {d:Nat} {a:Arr},Sml d a→Fits a
 | 0,_,h=>h.elim
 | d+1,.mk s sh cs,⟨h1,h2,h3,h4⟩=>by
  have h1':sh.length≤1048576:=h1
  have h2':cs.length≤1048576:=h2
  refine Fits.of (by omega) (by omega) h3 (fun c hc=> ?_)
  obtain ⟨g1,g2,g3,g4⟩:=h4 c hc
  exact ⟨by omega,by omega,by omega,fun x hx=>(g4 x hx).fits⟩
theorem SmlC.fits {d:Nat} {c:Cell} (h:SmlC d c):Jr c:=⟨by have:=h.1;omega,by have:=h.2.1;omega,by have:=h.2.2.1;omega,fun x hx=>(h.2.2.2 x hx).fits⟩
theorem Sml.mono : ∀ {d e:Nat} {a:Arr},Sml d a→d≤e→Sml e a
 | 0,_,_,h,_=>h.elim
 | d+1,0,_,_,hle=>by omega
 | d+1,e+1,a,⟨h1,h2,h3,h4⟩,hle=>⟨h1,h2,h3,fun c hc=>⟨(h4 c hc).1,(h4 c hc).2.1,(h4 c hc).2.2.1,fun x hx=>((h4 c hc).2.2.2 x hx).mono (by omega)⟩⟩
theorem SmlC.mono {d e:Nat} {c:Cell} (h:SmlC d c) (hle:d≤e):SmlC e c:=⟨h.1,h.2.1,h.2.2.1,fun x hx=>(h.2.2.2 x hx).mono hle⟩
theorem Rn{d:Nat}{c:Cell}(h:B7 d c=true) : ∀ x∈c.inn,∃ e,d=e+1∧Ge x=false∧Ba e x=true∧c.inn = [x]∧c.kind=2:=by
 have key : ∀ k r,D0 k r c=true→∀ x∈c.inn,k=true∧Ge x=false∧r x=true∧c.inn = [x]∧c.kind=2:=by
  intro k r h x hx
  unfold D0 at h
  split at h
  · simp only[Alp,decide_eq_true_eq]at h
    rw[Al7.1 h.1.2]at hx;cases hx
  split at h
  · simp only[Alp,decide_eq_true_eq]at h
    rw[Al7.1 h.1.2]at hx;cases hx
  · simp only[Alp,decide_eq_true_eq]at h
    obtain ⟨h1,h2,h3⟩:=h
    unfold Kl at h3
    split at h3
    · rename_i y hy
      rw[hy]at hx ⊢
      have:x=y:=by simpa using hx
      subst this
      simp only[Alp,Bool.not_eq_true']at h3
      exact ⟨h2,h3.1,h3.2,rfl,h1.1⟩
    · cases h3
 cases d with
 | zero=>intro x hx;exact absurd (key _ _ h x hx).1 (by simp)
 | succ e=>intro x hx;exact ⟨e,rfl,(key _ _ h x hx).2⟩
theorem Ei : ∀ {d:Nat} {a:Arr},Ba d a=true→Sml (d+1) a
 | 0,a,h=>by
  have hl:=Ev h
  refine ⟨by omega,by omega,fun x hx=>Et (by have:=hl.2.2 x hx;omega) (by have:=hl.2.2 x hx;omega),fun c hc=> ?_⟩
  have hc':=(Dv h).2 c hc
  have:=Rp hc'
  exact ⟨by omega,by omega,by omega,fun x hx=>by obtain ⟨e,he,_⟩:=Rn hc' x hx;omega⟩
 | d+1,a,h=>by
  have hl:=Ev h
  refine ⟨by omega,by omega,fun x hx=>Et (by have:=hl.2.2 x hx;omega) (by have:=hl.2.2 x hx;omega),fun c hc=> ?_⟩
  have hc':=(Dv h).2 c hc
  have:=Rp hc'
  refine ⟨by omega,by omega,by omega,fun x hx=> ?_⟩
  obtain ⟨e,he,_,hr,_⟩:=Rn hc' x hx
  have:e=d:=by omega
  subst this
  exact Ei hr
theorem VU{d:Nat}{c:Cell}(h:B7 d c=true):SmlC d c:=by
 have:=Rp h
 refine ⟨by omega,by omega,by omega,fun x hx=> ?_⟩
 obtain ⟨e,rfl,_,hr,_⟩:=Rn h x hx
 exact Ei hr
theorem S8(es:List D)(h:es.length≤1048576):Tw (.amb es.isEmpty (.ret [D.sl []]) (.br (decide (([]:List D).length+es.length≤Aj)) (.ret [D.sl ([]++es)]) .fail)) [D.sl es]:=by
 refine ZX (fun h=>Ac ?_) (Av ?_ (Ac ?_))
 · rw[List.isEmpty_iff.1 h]
 · simp only[Alz,Aj];omega
 · rw[Amo]
theorem KT(l:List Ao)(h:l.length≤1048576):Sp 247 [dL l] [dL l]:=Af 0 (Aje _ _) (by simp only[Bx];exact S8 _ (by simpa using h))
theorem It(l:List Int)(h:l.length≤1048576):Sp 96 [dI l] [dI l]:=Af 0 (XK _ _) (by simp only[B0];exact S8 _ (by simpa using h))
theorem Abf(l:List Cell)(h:l.length≤1048576):Sp 139 [.sl (l.map dC)] [.sl (l.map dC)]:=Af 0 (Ajd _ _) (by simp only[Dp];exact S8 _ (by simpa using h))
theorem Abe(l:List Arr)(h:l.length≤1048576):Sp 248 [.sl (l.map dA)] [.sl (l.map dA)]:=Af 0 (Ajc _ _) (by simp only[Dp];exact S8 _ (by simpa using h))
theorem AR{d:Nat}(c:Cell)(h:SmlC d c):Sp 214 [dC c] [dC c]:=by
 refine Af 0 (AaG _ _) ?_
 simp only[Ah]
 refine Aa (KT _ h.1) (Aa (KT _ h.2.1) (Aa (Abe _ h.2.2.1) (Ac ?_)))
 simp only[Ag,Bx,Dp,AbL]
 rw[Do];rfl
def Ef(c:Cell):Arr:= .mk 0 [] [c]
def Jp(l:List Cell):Arr:= .mk 0 [(l.length:Int)] l
def C8(a:Arr)(l:A8):Arr:= .mk (a.s|||l) a.shape a.cells
theorem Pi{d:Nat}(c:Cell)(h:SmlC d c):Sp 178 [dC c] [dA (Ef c)]:=by
 refine Af 0 (Aa7 _ _) (Aa (AR c h) (Ac ?_))
 rw[Dk];rfl
theorem Ph(n:Num)(h1:n.top.length≤1048576)(h2:n.bot.length≤1048576):Sp 257 [dN n] [dC ⟨0,0,n,0,[]⟩]:=by
 refine Af 0 (Aa5 _ _) (Aa (ys:=[dC ⟨0,0,n,0,[]⟩]) ?_ (Ac rfl))
 have:=AR (d:=0) ⟨0,0,n,0,[]⟩ ⟨h1,h2,by simp,by simp⟩
 rw[Do]at this ⊢
 exact this
theorem K5{α:Type}{f:α→D}{z:D}(pre:List α)(x:α)(k:Nat):((pre.map f)++Alh (k+1) z).set pre.length (f x)=((pre++[x]).map f)++Alh k z:=by
 rw[List.set_append_right _ _ (by simp),Ali,Nat.sub_self,List.replicate_succ,List.set_cons_zero]
 simp
theorem Cq:D.agg [D.int 0,D.sl [],D.sl []]=dA .none:=by rw[Dk];rfl
theorem Gp:D.agg [D.int 0,D.int 0,D.agg [D.bool false,D.sl [],D.sl []],D.int 0,D.sl []]=dC Cell.none:=by rw[Do];rfl
theorem Mz{d:Nat}(l:List Cell)(h : ∀ c∈l,SmlC d c)(hl:l.length≤1048576):Sp 149 [.sl (l.map dC)] [dA (Jp l)]:=by
 refine Af (l.length+1) (AaA _ _) ?_
 simp only[Ah,Gp]
 refine Ad (Ad (Av (by simp only[Aj];omega) ?_))
 have key:=B1 l (fun m k (cs:List D)=>S0 (l.length+1) m (.sl (l.map dC)) cs (.sl (l.map dC)) (l.length:Int) (k:Int) 0) (fun _ _=>[dA (Jp l)])
  (fun rest cs=>∃ pre,l=pre++rest∧cs=pre.map dC++Alh rest.length (dC Cell.none))
  (fun m k cs hk hI=>by
   obtain ⟨pre,h1,rfl⟩:=hI
   simp only[JX,Ah]
   refine Aq (Ac ?_)
   rw[Al2]at h1
   rw[Dk,Jp];subst h1;simp[dI];rfl)
  (fun m k cs c rest hdr hI ih=>by
   obtain ⟨h1,h2,h3⟩:=Bv hdr
   obtain ⟨pre,hp,rfl⟩:=hI
   have hk:k=pre.length:=by
    have:=congrArg List.length hdr
    rw[hp]at this h1
    simp at this h1;omega
   simp only[JX,Ah,Ar h2,Bb k]
   repeat (refine Ad ?_)
   refine Aa (AR c (h c (Alm h2))) ?_
   have hlen:(pre.map dC++Alh (rest.length+1) (dC Cell.none)).length=l.length:=by rw[hp];simp
   rw[All,hlen]
   refine Ad (Ad ?_)
   rw[Ag,hk,K5,← hk]
   exact ih _ ⟨pre++[c],by rw[hp];simp,rfl⟩)
  (l.length+1) 0 (Alh l.length (dC Cell.none)) (by omega) (by omega) ⟨[],by simp,by simp⟩
 exact key
theorem Fz(a:Arr)(l:A8):Sp 90 [dA a,dB l] [dA (C8 a l)]:=by
 refine Af 0 (Aa6 _ _ _) ?_
 simp only[Ah]
 refine Aa (F9 a.s l) (Ac ?_)
 rw[Dk];rfl
def K_(c:Cell):Arr:=match c.inn with
 | [x]=>if c.kind=2 then C8 x c.l else .mk c.l [] [c]
 | _=> .mk c.l [] [c]
theorem Agg(c:Cell):C8 (Ef c) c.l = .mk c.l [] [c]:=by simp[C8,Ef]
theorem ZI{c:Cell}(h : ¬ (c.kind=2∧c.inn.length=1)):K_ c = .mk c.l [] [c]:=by
 unfold K_
 split
 · rename_i x hx
   rw[if_neg (fun hk=>h ⟨hk,by rw[hx];rfl⟩)]
 · rfl
theorem Ak5{c:Cell}{x:Arr}(h:c.kind=2)(hx:c.inn = [x]):K_ c=C8 x c.l:=by unfold K_;rw[hx];simp[h]
theorem L6{α:Type}{l:List α}(h:l.length=1) : ∃ x,l = [x]:=by
 match l,h with
 | [x],_=>exact ⟨x,rfl⟩
theorem AQ{d:Nat}(c:Cell)(h:SmlC d c):Sp 104 [dC c] [dA (K_ c)]:=by
 refine Af 0 (Aa_ _ _) ?_
 simp only[Ah]
 have other : ¬ (c.kind=2∧c.inn.length=1)→Tw (.call 178 [] [dC c] fun Y2=> .call 90 [] [qA Y2,dB c.l] fun Y3=> .ret [qA Y3]) [dA (K_ c)]:=fun hn=>by
  refine Aa (Pi c h) (Aa (Fz (Ef c) c.l) (Ac ?_))
  rw[Ag,Agg,ZI hn]
 refine Ae (fun h1=>Ae (fun h2=> ?_) (fun h2=>other (by omega))) (fun h1=>other (by omega))
 obtain ⟨x,hx⟩:=L6 (show c.inn.length=1 by omega)
 rw[Ak5 h1 hx]
 simp only[hx,Aml,List.map_nil,All,Alz,Ag]
 exact Ad (Ad (Aa (Fz x c.l) (Ac rfl)))
theorem AaB(a:Arr):Sp 213 [dA a] [.bool (decide (a.shape.length=0∧a.cells.length=1))]:=by
 refine Af 0 (AaC _ _) ?_
 simp only[Ah]
 refine Ae (fun h=>Ac ?_) (fun h=>Ac ?_)
 · congr 2;rw[decide_eq_decide];omega
 · rw[decide_eq_false (fun hh=>h (by omega))]
theorem JU(a:Arr):Sp 146 [dA a] [.bool (Ge a)]:=by
 refine Af 0 (Aa8 _ _) (Aa (AaB a) ?_)
 simp only[Ah]
 unfold Ge
 refine Ae (fun h=> ?_) (fun h=>Ac ?_)
 · obtain ⟨c,hc⟩:=L6 h.2
   have hs:=Al7.1 h.1
   simp only[hc,hs,Aml,List.map_nil,All,Alz,Ag,LJ,Ak]
   exact Ad (Ad (Ac rfl))
 · match hs:a.shape,hc:a.cells with
   | [],[c]=>rw[hs,hc]at h;simp at h
   | x::xs,_=>rfl
   | [],[]=>rfl
   | [],x::y::xs=>rfl
theorem Ab_(l:A8)(a:Arr):D.agg [dB l,D.int 2,D.agg [D.bool false,D.sl [],D.sl []],D.int 0,D.sl [dA a]]=dC ⟨l,2,.zero,0,[a]⟩:=by rw[Do];rfl
mutual
def Fj(g:A8→A8):Arr→Arr
 | .mk s sh cs=> .mk (g s) sh (Rk g cs)
def Rk(g:A8→A8):List (CellF Arr)→List (CellF Arr)
 | []=>[]
 | c::cs=>Eh g c::Rk g cs
def Eh(g:A8→A8):CellF Arr→CellF Arr
 | ⟨l,k,n,c,inn⟩=>⟨g l,k,n,c,Rj g inn⟩
def Rj(g:A8→A8):List Arr→List Arr
 | []=>[]
 | a::as_=>Fj g a::Rj g as_
end
theorem VD(g:A8→A8) : ∀ cs,Rk g cs=cs.map (Eh g)
 | []=>by simp[Rk]
 | c::cs=>by simp[Rk,VD g cs]
theorem VC(g:A8→A8) : ∀ as_,Rj g as_=as_.map (Fj g)
 | []=>by simp[Rj]
 | a::as_=>by simp[Rj,VC g as_]
theorem Mj(g:A8→A8)(a:Arr):Fj g a = .mk (g a.s) a.shape (a.cells.map (Eh g)):=by cases a;simp[Fj,VD]
theorem X9(g:A8→A8)(c:Cell):Eh g c=⟨g c.l,c.kind,c.n,c.c,c.inn.map (Fj g)⟩:=by cases c;simp[Eh,VC]
def Tz(a:Arr):Arr:=Fj (fun _=>0) a
noncomputable def Vm(a b:Arr):Bool:=H4 (Tz a) (Tz b)
theorem WL{α β:Type}{P:Program}{md:Nat→FMode}(φ:α→β)(a b:List α)(e:α→α→Bool)(he : ∀ x∈a,∀ y,e x y=true↔φ x=φ y)(hlen:a.length=b.length)(r:Bool)(hr:r=true↔a.map φ=b.map φ)(L:Nat→Nat→Tree)
  (hend : ∀ m,∀ Q:List D→Prop,Q [.bool true]→(L (m+1) a.length).wp P md Q)
  (hstep : ∀ m k x y,∀ Q:List D→Prop,a[k]? = some x→b[k]? = some y→(e x y=false→Q [.bool false])→(e x y=true→(L m (k+1)).wp P md Q)→(L (m+1) k).wp P md Q) (N:Nat) (hN:a.length<N):(L N 0).wp P md (fun zs=>zs = [.bool r]):=by
 have key:=Vj (P:=P) (md:=md) a.length (fun m k (_:Unit)=>L m k) (fun _ _=>[.bool r]) (fun k _=>(a.take k).map φ=(b.take k).map φ)
  (fun m s h=>by
   refine hend m _ ?_
   rw[Amb (Als _),Amb (by omega)]at h
   rw[hr.2 h])
  (fun m k s hk h ih=>by
   have ha:a[k]? = some a[k]:=Alg _
   have hb:b[k]? = some (b[k]'(by omega)):=Alg _
   refine hstep m k _ _ _ ha hb (fun hf=> ?_) (fun ht=>ih () ?_)
   · have:r=false:=by
      cases hrr:r with
      | false=>rfl
      | true =>
       have h2:=hr.1 hrr
       have h3:(a.map φ)[k]? = (b.map φ)[k]? := by rw[h2]
       rw[Aly,Aly,ha,hb]at h3
       have h4:φ a[k]=φ b[k]:=by simpa using h3
       rw[(he a[k] (Amj _) _).2 h4]at hf;cases hf
     rw[this]
   · have:φ a[k]=φ b[k]:=(he a[k] (Amj _) _).1 ht
     rw[List.take_succ_eq_append_getElem hk,List.take_succ_eq_append_getElem (by omega),List.map_append,List.map_append,h]
     simp[this])
  N 0 () (by omega) (by omega) (by simp)
 exact key
def gl(lb:Bool)(l:A8):A8:=if lb then l else 0
noncomputable def Lp(lb:Bool)(a b:Arr):Bool:=H4 (Fj (gl lb) a) (Fj (gl lb) b)
noncomputable def Ng(lb:Bool)(a b:Cell):Bool:=Iy (Eh (gl lb) a) (Eh (gl lb) b)
noncomputable def pd(p:Prop):Bool:= @decide p (Classical.propDecidable _)
theorem Ws{p:Prop} : pd p=true↔p:= @decide_eq_true_iff _ (Classical.propDecidable _)
theorem RK{p:Prop}(h : ¬ p):pd p=false:= @decide_eq_false _ (Classical.propDecidable _) h
theorem AcM{o x:Nat}{z:Int}(h:z=(x:Int)):(if (o:Int)<z then z else (o:Int))=((max o x:Nat):Int):=by subst h;split <;> omega
theorem LX{lb:Bool}{a b:Arr} : Lp lb a b=true↔Fj (gl lb) a=Fj (gl lb) b:=Lo
theorem LW{lb:Bool}{a b:Cell} : Ng lb a b=true↔Eh (gl lb) a=Eh (gl lb) b:=Nf
theorem Py{lb:Bool}{a b:Cell} : Ng lb a b=true↔(gl lb a.l=gl lb b.l∧a.kind=b.kind∧a.c=b.c∧a.n=b.n∧a.inn.map (Fj (gl lb))=b.inn.map (Fj (gl lb))):=by rw[LW,X9,X9,KM]
theorem CG{lb:Bool}{a b:Arr} : Lp lb a b=true↔(gl lb a.s=gl lb b.s∧a.shape=b.shape∧a.cells.map (Eh (gl lb))=b.cells.map (Eh (gl lb))):=by rw[LX,Mj,Mj,AO];simp
theorem M7{b:Bool}(h : ¬ b=true):b=false:=by cases b with | false=>rfl | true=>exact absurd rfl h
theorem JY(lb:Bool) : ∀ (d:Nat) (a b:Arr),Sml d a→Sp 232 [dA a,dA b,.bool lb] [.bool (Lp lb a b)]
 | 0,_,_,h=>h.elim
 | d+1,a,b,h=>by
  have hcell : ∀ (x y:Cell),SmlC d x→Dn Tryz.prog md 273 [.ref 4] [dC x,dC y,D.ref (.bool lb)] [.bool (Ng lb x y)]:=fun x y hx=>by
    have hlx:=hx.2.2.1
    have hinn:Sp 275 [.sl (x.inn.map dA),.sl (y.inn.map dA),D.fn 276 [.ref 4] [D.ref (.bool lb)]] [.bool (pd (x.inn.map (Fj (gl lb))=y.inn.map (Fj (gl lb))))]:=by
      refine Af (x.inn.length+1) (Ajl _ _ _ _) ?_
      simp only[Ah]
      refine Ae (fun h=>Ac ?_) (fun h=> ?_)
      · rw[RK]
        intro hh;have:=congrArg List.length hh;simp at this;omega
      · refine WL (P:=Tryz.prog) (md:=md) (Fj (gl lb)) x.inn y.inn (Lp lb) (fun p _ q=>LX) (by omega) _ Ws (fun m k=>Y_ (x.inn.length+1) m (.sl (y.inn.map dA)) (D.fn 276 [.ref 4] [D.ref (.bool lb)]) (.sl (x.inn.map dA)) (x.inn.length:Int) (k:Int)) ?_ ?_ (x.inn.length+1) (by omega)
        · intro m Q hQ
          simp only[XM,Ah]
          exact Aq (Ac hQ)
        · intro m k p q Q hp hq hF hT
          have hk:k<x.inn.length:=(Alj.1 hp).1
          have hk':k<y.inn.length:=(Alj.1 hq).1
          simp only[XM,Ah,Ar hp,Ar hq,Bb k,Gs,Gq,Gr,List.cons_append,Amo]
          repeat (refine Ad ?_)
          refine Aa (ys:=[.bool (Lp lb p q)]) (Af 0 (AaD _ _ _ _) (Aa (JY lb d p q (hx.2.2.2 p (Alm hp))) (Ac rfl))) ?_
          simp only[Ag,Az]
          exact Ch (fun h=>Ac (hF (by simpa using h))) (fun h=>hT (by simpa using h))
    have fin : ∀ (hl:gl lb x.l=gl lb y.l),Tw (.br (decide (¬ x.kind=y.kind)) (.ret [D.bool false]) (.br (decide (¬ x.c=y.c)) (.ret [D.bool false]) (.call 274 [] [dN x.n,dN y.n] fun Y1=> .br (!((qA Y1).toBool)) (.ret [D.bool false]) (.call 275 [] [.sl (x.inn.map dA),.sl (y.inn.map dA),D.fn 276 [.ref 4] [D.ref (.bool lb)]] fun Y2=> .ret [D.bool ((qA Y2).toBool)])))) [.bool (Ng lb x y)]:=fun hl=>by
      refine Ae (fun h=>Ac ?_) (fun h2=>Ae (fun h=>Ac ?_) (fun h3=>Aa (Ag3 x.n y.n hx.fits.1 hx.fits.2.1) ?_))
      · rw[M7 (fun hh=>h (Py.1 hh).2.1)]
      · rw[M7 (fun hh=>h (Py.1 hh).2.2.1)]
      simp only[Ag,Az,Eu]
      refine Ae (fun h=>Ac ?_) (fun h4=>Aa hinn (Ac ?_))
      · rw[M7 (fun hh=>h (Py.1 hh).2.2.2.1)]
      · simp only[Ag,Az]
        congr 2
        rw[Bool.eq_iff_iff,Py,Ws]
        exact ⟨fun hh=>⟨hl,Alt.1 h2,Alt.1 h3,Alt.1 h4,hh⟩,fun hh=>hh.2.2.2.2⟩
    refine Af 0 (AaE _ _ _ _) ?_
    simp only[Ah,Z3]
    refine Ch (fun hb=>Ae (fun h=>Ac ?_) (fun h1=>fin ?_)) (fun hb=>fin ?_)
    · have hf:Ng lb x y=false:=M7 (fun hh=>h (by
        have:=(Py.1 hh).1
        simp only[gl,hb,if_true]at this
        rw[this]))
      rw[hf]
    · simp only[gl,hb,if_true];exact BitVec.eq_of_toNat_eq (by omega)
    · simp[gl,hb]
  have hcells:Sp 272 [.sl (a.cells.map dC),.sl (b.cells.map dC),D.fn 273 [.ref 4] [D.ref (.bool lb)]] [.bool (pd (a.cells.map (Eh (gl lb))=b.cells.map (Eh (gl lb))))]:=by
    have hla:=h.2.1
    refine Af (a.cells.length+1) (Ajm _ _ _ _) ?_
    simp only[Ah]
    refine Ae (fun h=>Ac ?_) (fun h'=> ?_)
    · rw[RK]
      intro hh;have:=congrArg List.length hh;simp at this;omega
    · refine WL (P:=Tryz.prog) (md:=md) (Eh (gl lb)) a.cells b.cells (Ng lb) (fun p _ q=>LW) (by omega) _ Ws (fun m k=>Zb (a.cells.length+1) m (.sl (b.cells.map dC)) (D.fn 273 [.ref 4] [D.ref (.bool lb)]) (.sl (a.cells.map dC)) (a.cells.length:Int) (k:Int)) ?_ ?_ (a.cells.length+1) (by omega)
      · intro m Q hQ
        simp only[XN,Ah]
        exact Aq (Ac hQ)
      · intro m k p q Q hp hq hF hT
        have hk:k<a.cells.length:=(Alj.1 hp).1
        have hk':k<b.cells.length:=(Alj.1 hq).1
        simp only[XN,Ah,Ar hp,Ar hq,Bb k,Gs,Gq,Gr,List.cons_append,Amo]
        repeat (refine Ad ?_)
        refine Aa (hcell p q (h.cell p (Alm hp))) ?_
        simp only[Ag,Az]
        exact Ch (fun h=>Ac (hF (by simpa using h))) (fun h=>hT (by simpa using h))
  have fin : ∀ (hl:gl lb a.s=gl lb b.s),Tw (.call 234 [] [dI a.shape,dI b.shape] fun Y1=> .br (!((qA Y1).toBool)) (.ret [D.bool false]) (.call 272 [] [.sl (a.cells.map dC),.sl (b.cells.map dC),D.fn 273 [.ref 4] [D.ref (.bool lb)]] fun Y2=> .ret [D.bool ((qA Y2).toBool)])) [.bool (Lp lb a b)]:=fun hl=>by
    refine Aa (XO a.shape b.shape (by have:=h.1;omega)) ?_
    simp only[Ag,Az,Eu]
    refine Ae (fun h=>Ac ?_) (fun h1=>Aa hcells (Ac ?_))
    · rw[M7 (fun hh=>h (CG.1 hh).2.1)]
    · simp only[Ag,Az]
      congr 2
      rw[Bool.eq_iff_iff,CG,Ws]
      exact ⟨fun hh=>⟨hl,Alt.1 h1,hh⟩,fun hh=>hh.2.2⟩
  refine Af 0 (AaF _ _ _ _) ?_
  simp only[Ah]
  refine Ch (fun hb=>Ae (fun h=>Ac ?_) (fun h1=>fin ?_)) (fun hb=>fin ?_)
  · have hf:Lp lb a b=false:=M7 (fun hh=>h (by
      have:=(CG.1 hh).1
      simp only[gl,hb,if_true]at this
      rw[this]))
    rw[hf]
  · simp only[gl,hb,if_true];exact BitVec.eq_of_toNat_eq (by omega)
  · simp[gl,hb]
theorem JT{d:Nat}(a b:Arr)(h:Sml d a):Sp 179 [dA a,dA b] [.bool (Vm a b)]:=Af 0 (Aa4 _ _ _) (Aa (JY false d a b h) (Ac rfl))
mutual
def F3:Arr→Nat
 | .mk s sh cs=>if Ge (.mk s sh cs) then 0 else Er cs+1
def Er:List (CellF Arr)→Nat
 | []=>0
 | c::cs=>max (Tn c) (Er cs)
def Tn:CellF Arr→Nat
 | ⟨_,_,_,_,inn⟩=>Hg inn
def Hg:List Arr→Nat
 | []=>0
 | a::as_=>max (F3 a) (Hg as_)
end
theorem LM(a:Arr):F3 a=if Ge a then 0 else Er a.cells+1:=by cases a;rw[F3];rfl
theorem CA(c:Cell):Tn c=Hg c.inn:=by cases c;rw[Tn]
theorem CB{k:Nat} : ∀ {cs:List Cell},(∀ c∈cs,Tn c≤k)→Er cs≤k
 | [],_=>by rw[Er];omega
 | c::cs,h=>by
  have h1:=h c (by simp)
  have h2:=CB (fun x hx=>h x (List.mem_cons_of_mem _ hx))
  rw[Er];omega
theorem BZ{k:Nat} : ∀ {as_:List Arr},(∀ a∈as_,F3 a≤k)→Hg as_≤k
 | [],_=>by rw[Hg];omega
 | a::as_,h=>by
  have h1:=h a (by simp)
  have h2:=BZ (fun x hx=>h x (List.mem_cons_of_mem _ hx))
  rw[Hg];omega
theorem BY : ∀ {d:Nat} {a:Arr},Sml d a→F3 a≤d
 | 0,_,h=>h.elim
 | d+1,a,h=>by
  rw[LM]
  have:Er a.cells≤d:=CB (fun c hc=>by rw[CA];exact BZ (fun x hx=>BY ((h.cell c hc).2.2.2 x hx)))
  split <;> omega
theorem AP : ∀ (d:Nat) (a:Arr),d≤10000000→Sml d a→Sp 147 [dA a] [.int (F3 a:Int)]
 | 0,_,_,h=>h.elim
 | d+1,a,hd,h=>by
  have hl:=h.2.1
  refine Af 1048577 (Aa0 _ _) (Aa (JU a) ?_)
  rw[LM]
  simp only[Ah]
  refine Ch (fun hs=>Ac (by rw[if_pos hs];rfl)) (fun hs=> ?_)
  rw[if_neg (by simp[hs])]
  have hb:Er a.cells≤d:=CB (fun c hc=>by rw[CA];exact BZ (fun x hx=>BY ((h.cell c hc).2.2.2 x hx)))
  have key:=B1 a.cells (fun m k (o:Nat)=>Ss 1048577 m (o:Int) (.sl (a.cells.map dC)) (a.cells.length:Int) (k:Int)) (fun rest o=>[.int ((max o (Er rest)+1:Nat):Int)]) (fun rest o=>max o (Er rest)≤d)
   (fun m k o hk hI=>by
    simp only[JQ,Ah]
    refine Aq (Ac ?_)
    rw[Er]at hI ⊢
    rw[As (by omega) (by omega),show max o 0=o by omega];rfl)
   (fun m k o c rest hdr hI ih=>by
    obtain ⟨h1,h2,h3⟩:=Bv hdr
    have hc:=h.cell c (Alm h2)
    have hlc:=hc.2.2.1
    simp only[JQ,Ah,Ar h2]
    repeat (refine Ad ?_)
    rw[Er,CA]at hI ⊢
    have key:=B1 c.inn (fun m' j (o:Nat)=>Su 1048577 m m' (o:Int) (.sl (a.cells.map dC)) (a.cells.length:Int) (k:Int) (.sl (c.inn.map dA)) (c.inn.length:Int) (j:Int)) (fun rest' o=>[.int ((max o (max (Hg rest') (Er rest))+1:Nat):Int)]) (fun rest' o=>max o (max (Hg rest') (Er rest))≤d)
     (fun m' j o hj hI'=>by
      simp only[JR,Ah,Bb k]
      rw[Hg]at hI' ⊢
      refine Aq ?_
      have:=ih o (by omega)
      rw[show max o (max 0 (Er rest))=max o (Er rest) by omega]
      exact this)
     (fun m' j o x rest' hdr' hI' ih'=>by
      obtain ⟨g1,g2,g3⟩:=Bv hdr'
      simp only[JR,Ah,Ar g2,Bb j]
      repeat (refine Ad ?_)
      refine Aa (AP d x (by omega) (hc.2.2.2 x (Alm g2))) ?_
      rw[Hg]at hI' ⊢
      have:=ih' (max o (F3 x)) (by omega)
      rw[show max o (max (max (F3 x) (Hg rest')) (Er rest))=max (max o (F3 x)) (max (Hg rest') (Er rest)) by omega]
      rw[AcM (x:=F3 x) (z:=(qA [D.int (F3 x:Int)]).toInt) rfl]
      exact this)
     1048577 0 o (by omega) (by omega) hI
    exact key)
   1048577 0 0 (by omega) (by omega) (by simpa using hb)
  refine Tree.wp_mono key (fun ys hy=>hy.trans ?_)
  simp
theorem AhS(n:Nat)(nn0 s1:D):fA [] n 32 [] [nn0,s1] =
 cK 78 [D.int nn0.toInt] fun Y1 =>
 .ret [D.agg [D.int s1.toInt,D.sl [],D.sl [qA Y1]]]:=by kernel_rfl
def X8:List (Nat×Orc):=[(3,⟨[(0,some 23),(4,none),(5,none),(6,none)],[(4,false),(5,false)],[(.fld 5 [1],1030,3),(.fld 5 [2],1031,67)]⟩)]
noncomputable def X7(n m3:Nat)(l0:D)(i6 t4_0 out5_0:Int)(out5_1 out5_2:List D):Tree :=
 lA (eA X8 n 33 [1,1,0,1,0,0]) (Al X8 3) m3 ⟨(.d 23 l0::uA 3++(.ptr 4 []:: .ptr 5 []:: .i .i64 i6::uA 22)),[(4,.var 26 (.agg 26 [.i .u64 t4_0,.mt,.mt]) true),(5,.var 26 (.agg 26 [.i .u64 out5_0,.row 1030,.row 1031]) true),(1030,.row 3 out5_1 true),(1031,.row 67 out5_2 true)],[4,5,1030,1031],[],[]⟩
  (Ai 0 (An (jA X8 n 33 [1,1,1]) (rA 33 [23,22] [.cell 4 26] [26])))
theorem VB(n m3:Nat)(l0:D)(i6 t4_0 out5_0:Int)(out5_1 out5_2:List D):X7 n (m3+1) l0 i6 t4_0 out5_0 out5_1 out5_2 =
 bK (i6<(l0.els.length:Int)) (kK (0≤i6) (kK (i6<(l0.els.length:Int)) (cK 78 [D.int ((l0.els.getD (Alf i6) D.nil).toInt)] fun Y1 =>
 kK (out5_2.length + [qA Y1].length≤Aj) (X7 n m3 l0 (Ale .i64 (i6+1)) t4_0 out5_0 out5_1 (out5_2++[qA Y1])))))
 (.ret [D.agg [D.int out5_0,D.sl out5_1,D.sl out5_2]]):=by kernel_rfl
theorem AhU(n:Nat)(l0 s1:D):fA X8 n 33 [] [l0,s1] =
 X7 n n l0 0 0 s1.toInt [D.int (l0.els.length:Int)] []:=by kernel_rfl
def Vs:List (Nat×Orc):=[(12,⟨[(2,none),(3,none),(4,none),(6,some 23),(9,some 24),(10,none),(41,none),(42,none)],[(2,true),(3,true),(4,false)],[(.slot 10,1120,67)]⟩)]
noncomputable def N6(n m12:Nat)(of6 from9:D)(cells10:List D)(t41 t42:Int)(nn2 a3:D)(t4_0:Int):Tree :=
 lA (eA Vs n 35 [1,1,1,1,1,1,1,1,0,1,0,0]) (Al Vs 12) m12 ⟨(.undef:: .undef:: .ptr 2 []:: .ptr 3 []:: .ptr 4 []:: .undef:: .d 23 of6:: .undef:: .undef:: .d 24 from9:: .row 1120::uA 30++(.i .i64 t41:: .i .i64 t42::uA 21)),[(2,.var 26 (.d 26 nn2) true),(3,.var 26 (.d 26 a3) true),(4,.var 26 (.agg 26 [.i .u64 t4_0,.mt,.mt]) true),(1120,.row 67 cells10 true)],[2,3,4,1120],[],[]⟩
  (Ai 0 (An (jA Vs n 35 [1,1,1,1,1,1,1,1,1]) (rA 35 [26,26] [.cell 4 26,.tmp 5] [26,29])))
theorem PM(n m12:Nat)(of6 from9:D)(cells10:List D)(t41 t42:Int)(nn2 a3:D)(t4_0:Int):N6 n (m12+1) of6 from9 cells10 t41 t42 nn2 a3 t4_0 =
 bK (t42<t41) (.br (!((from9.els.length:Int)==(0:Int))) (kK (0≤Int.tmod t42 (from9.els.length:Int)) (kK (Int.tmod t42 (from9.els.length:Int)<(from9.els.length:Int)) (kK (0≤t42) (kK (t42<(cells10.length:Int)) (N6 n m12 of6 from9 (cells10.set (Alf t42) (from9.els.getD (Alf (Int.tmod t42 (from9.els.length:Int))) D.nil)) t41 (Ale .i64 (t42+1)) nn2 a3 t4_0))))) .fail)
 (cK 84 [nn2] fun Y4 =>
 cK 83 [D.int ((a3.fld 0).toInt),D.int ((qA Y4).toInt)] fun Y5 =>
 .ret [D.agg [D.int ((qA Y5).toInt),of6,D.sl cells10],D.int 0]):=by kernel_rfl
theorem AdS(n:Nat)(nn0 a1:D):fA Vs n 35 [] [nn0,a1] =
 cK 80 [nn0] fun Y1 =>
 .br (((qB Y1).toInt)!=0) (.ret [D.agg [D.int 0,D.sl [],D.sl []],D.int ((qB Y1).toInt)])
 (cK 81 [qA Y1] fun Y2 =>
 .br (((qB Y2).toInt)!=0) (.ret [D.agg [D.int 0,D.sl [],D.sl []],D.int ((qB Y2).toInt)])
 (.br ((((a1.fld 2).els).length:Int)==0) (cK 82 [a1] fun Y3 =>
 kK (0≤(qA Y2).toInt) (kK ((qA Y2).toInt≤(qA Y2).toInt) (kK ((qA Y2).toInt≤Aj) (N6 n n (qA Y1) (D.sl [qA Y3]) (Alh (Alf ((qA Y2).toInt)) (D.agg [D.int 0,D.int 0,D.agg [D.bool false,D.sl [],D.sl []],D.int 0,D.sl []])) ((Alh (Alf ((qA Y2).toInt)) (D.agg [D.int 0,D.int 0,D.agg [D.bool false,D.sl [],D.sl []],D.int 0,D.sl []])).length:Int) 0 nn0 a1 0))))
 (kK (0≤(qA Y2).toInt) (kK ((qA Y2).toInt≤(qA Y2).toInt) (kK ((qA Y2).toInt≤Aj) (N6 n n (qA Y1) (a1.fld 2) (Alh (Alf ((qA Y2).toInt)) (D.agg [D.int 0,D.int 0,D.agg [D.bool false,D.sl [],D.sl []],D.int 0,D.sl []])) ((Alh (Alf ((qA Y2).toInt)) (D.agg [D.int 0,D.int 0,D.agg [D.bool false,D.sl [],D.sl []],D.int 0,D.sl []])).length:Int) 0 nn0 a1 0)))))):=by kernel_rfl
def Vu:List (Nat×Orc):=[(3,⟨[(1,none),(2,none),(3,none),(11,some 23),(12,none),(13,none)],[(1,true),(2,false)],[(.slot 3,1030,67)]⟩)]
noncomputable def Vt(n m3:Nat)(cells3:List D)(t11:D)(t12 t13:Int)(a1:D)(t2_0:Int):Tree :=
 lA (eA Vu n 56 [1,1,0,1,0,0]) (Al Vu 3) m3 ⟨(.undef:: .ptr 1 []:: .ptr 2 []:: .row 1030::uA 7++(.d 23 t11:: .i .i64 t12:: .i .i64 t13::uA 17)),[(1,.var 26 (.d 26 a1) true),(2,.var 26 (.agg 26 [.i .u64 t2_0,.mt,.mt]) true),(1030,.row 67 cells3 true)],[1,2,1030],[],[]⟩
  (Ai 0 (An (jA Vu n 56 [1,1,1]) (rA 56 [26] [.cell 2 26] [26])))
theorem PO(n m3:Nat)(cells3:List D)(t11:D)(t12 t13:Int)(a1:D)(t2_0:Int):Vt n (m3+1) cells3 t11 t12 t13 a1 t2_0 =
 bK (t13<t12) (kK (0≤t13) (kK (t13<(t11.els.length:Int)) (cK 138 [D.int ((t11.els.getD (Alf t13) D.nil).toInt)] fun Y1 =>
 kK (0≤t13) (kK (t13<(cells3.length:Int)) (Vt n m3 (cells3.set (Alf t13) (qA Y1)) t11 t12 (Ale .i64 (t13+1)) a1 t2_0)))))
 (.ret [D.agg [D.int ((a1.fld 0).toInt),D.sl [D.int (cells3.length:Int)],D.sl cells3]]):=by kernel_rfl
theorem AdU(n:Nat)(a0:D):fA Vu n 56 [] [a0] =
 kK (0≤(((a0.fld 1).els).length:Int)) (kK ((((a0.fld 1).els).length:Int)≤(((a0.fld 1).els).length:Int)) (kK ((((a0.fld 1).els).length:Int)≤Aj) (Vt n n (Alh (Alf (((a0.fld 1).els).length:Int)) (D.agg [D.int 0,D.int 0,D.agg [D.bool false,D.sl [],D.sl []],D.int 0,D.sl []])) (a0.fld 1) (((a0.fld 1).els).length:Int) 0 a0 0))):=by kernel_rfl
theorem AdQ(n:Nat)(a0:D):fA [] n 57 [] [a0] =
 cK 139 [a0.fld 2] fun Y1 =>
 .ret [D.agg [D.int ((a0.fld 0).toInt),D.sl [D.int (((a0.fld 2).els).length:Int)],D.sl ((qA Y1).els)]]:=by kernel_rfl
theorem AdJ(n:Nat)(a0:D):fA [] n 61 [] [a0] =
 cK 146 [a0] fun Y1 =>
 .br ((qA Y1).toBool) (.ret [a0,D.int 0])
 (cK 147 [a0] fun Y2 =>
 bK (8<((qA Y2).toInt)) (.ret [D.agg [D.int 0,D.sl [],D.sl []],D.int 7])
 (.br ((((a0.fld 1).els).length:Int)==0) (bK (0<(((a0.fld 2).els).length:Int)) (kK (0≤0) (kK (0<(((a0.fld 2).els).length:Int)) (.ret [D.agg [D.int ((a0.fld 0).toInt),D.sl [],D.sl [D.agg [D.int (((((a0.fld 2).els).getD (Alf 0) D.nil).fld 0).toInt),D.int 2,D.agg [D.bool false,D.sl [],D.sl []],D.int 0,D.sl [a0]]]],D.int 0])))
 (.ret [D.agg [D.int ((a0.fld 0).toInt),D.sl [],D.sl [D.agg [D.int 0,D.int 2,D.agg [D.bool false,D.sl [],D.sl []],D.int 0,D.sl [a0]]]],D.int 0]))
 (.ret [D.agg [D.int ((a0.fld 0).toInt),D.sl [],D.sl [D.agg [D.int 0,D.int 2,D.agg [D.bool false,D.sl [],D.sl []],D.int 0,D.sl [a0]]]],D.int 0]))):=by kernel_rfl
theorem AdN(n:Nat)(a0:D):fA [] n 62 [] [a0] =
 cK 82 [a0] fun Y1 =>
 bK (0<(((a0.fld 2).els).length:Int)) (kK (0≤0) (kK (0<(((a0.fld 2).els).length:Int)) (cK 104 [((a0.fld 2).els).getD (Alf 0) D.nil] fun Y2 =>
 cK 90 [qA Y2,D.int ((a0.fld 0).toInt)] fun Y3 =>
 .ret [qA Y3])))
 (cK 104 [qA Y1] fun Y4 =>
 cK 90 [qA Y4,D.int ((a0.fld 0).toInt)] fun Y5 =>
 .ret [qA Y5]):=by kernel_rfl
theorem AdH(n:Nat)(a0:D):fA [] n 63 [] [a0] =
 cK 147 [a0] fun Y1 =>
 cK 84 [a0] fun Y2 =>
 cK 148 [D.int ((qA Y1).toInt),D.int ((qA Y2).toInt)] fun Y3 =>
 .ret [qA Y3]:=by kernel_rfl
theorem AdW(n:Nat)(a0:D):fA [] n 64 [] [a0] =
 .br ((((a0.fld 1).els).length:Int)==0) (cK 148 [D.int 1,D.int ((a0.fld 0).toInt)] fun Y1 =>
 .ret [qA Y1])
 (kK (0≤0) (kK (0<(((a0.fld 1).els).length:Int)) (cK 148 [D.int ((((a0.fld 1).els).getD (Alf 0) D.nil).toInt),D.int ((a0.fld 0).toInt)] fun Y2 =>
 .ret [qA Y2]))):=by kernel_rfl
theorem AdL(n:Nat)(a0:D):fA [] n 66 [] [a0] =
 cK 150 [D.sl [],a0] fun Y1 =>
 .br (!((qB Y1).toBool)) (.ret [D.agg [D.int 0,D.sl [],D.sl []],D.int 7])
 (cK 84 [a0] fun Y2 =>
 .ret [D.agg [D.int ((qA Y2).toInt),D.sl [D.int (((qA Y1).els).length:Int)],D.sl ((qA Y1).els)],D.int 0]):=by kernel_rfl
theorem AdO(n:Nat)(a0 b1 same2:D):fA [] n 105 [] [a0,b1,same2] =
 cK 179 [a0,b1] fun Y1 =>
 .br (((qA Y1).toBool)==same2.toBool) (cK 84 [a0] fun Y2 =>
 cK 84 [b1] fun Y3 =>
 cK 83 [D.int ((qA Y2).toInt),D.int ((qA Y3).toInt)] fun Y4 =>
 cK 148 [D.int 1,D.int ((qA Y4).toInt)] fun Y5 =>
 .ret [qA Y5])
 (cK 84 [a0] fun Y6 =>
 cK 84 [b1] fun Y7 =>
 cK 83 [D.int ((qA Y6).toInt),D.int ((qA Y7).toInt)] fun Y8 =>
 cK 148 [D.int 0,D.int ((qA Y8).toInt)] fun Y9 =>
 .ret [qA Y9]):=by kernel_rfl
theorem AdY(n:Nat)(nn0 s1:D):fA [] n 148 [] [nn0,s1] =
 cK 138 [D.int nn0.toInt] fun Y1 =>
 cK 178 [qA Y1] fun Y2 =>
 cK 90 [qA Y2,D.int s1.toInt] fun Y3 =>
 .ret [qA Y3]:=by kernel_rfl
def Hk:List (Nat×Orc):=[(2,⟨[(0,none),(12,some 24),(13,none),(14,none)],[],[(.slot 0,1020,67)]⟩),(9,⟨[(0,none),(12,some 24),(13,none),(14,none),(29,some 65),(30,none),(31,none)],[],[(.slot 0,1090,67)]⟩)]
def ED:List ResultVar:=[.tmp 4,.tmp 5]
noncomputable def Vv(n m2 m9:Nat)(cells0:List D)(t12:D)(t13 t14:Int)(t29:D)(t30 t31:Int):Tree :=
 lA (eA Hk n 150 [1,0,1,0,0,1,1,0,0,1,1,1,0,0]) (Al Hk 9) m9 ⟨(.row 1090::uA 11++(.d 24 t12:: .i .i64 t13:: .i .i64 t14::uA 14++(.d 65 t29:: .i .i64 t30:: .i .i64 t31::uA 14))),[(1090,.row 67 cells0 true)],[1090],[],[]⟩
  (Ai 2 (Ai 1 (An (jA Hk n 150 [1,0,1,0,0,1,1,1]) (Fg Tryz.prog md (Al Hk 2) (fun s1=>lA (eA Hk n 150 [1,0,1,0,0]) (Al Hk 2) m2 s1 (Ai 0 (An (jA Hk n 150 [1,1]) (rA 150 [24,26] ED [24,4])))) (Ai 0 (An (jA Hk n 150 [1,1]) (rA 150 [24,26] ED [24,4])))))))
noncomputable def Qp(n m2:Nat)(cells0:List D)(t12:D)(t13 t14:Int):Tree :=
 lA (eA Hk n 150 [1,0,1,0,0]) (Al Hk 2) m2 ⟨(.row 1020::uA 11++(.d 24 t12:: .i .i64 t13:: .i .i64 t14::uA 31)),[(1020,.row 67 cells0 true)],[1020],[],[]⟩
  (Ai 0 (An (jA Hk n 150 [1,1]) (rA 150 [24,26] ED [24,4])))
theorem PQ(n m2 m9:Nat)(cells0:List D)(t12:D)(t13 t14:Int)(t29:D)(t30 t31:Int):Vv n m2 (m9+1) cells0 t12 t13 t14 t29 t30 t31 =
 bK (t31<t30) (kK (0≤t31) (kK (t31<(t29.els.length:Int)) (cK 150 [D.sl cells0,t29.els.getD (Alf t31) D.nil] fun Y1 =>
 .br (!((qB Y1).toBool)) (.ret [D.sl [],D.bool false])
 (Vv n m2 m9 ((qA Y1).els) t12 t13 t14 t29 t30 (Ale .i64 (t31+1))))))
 (Qp n m2 cells0 t12 t13 (Ale .i64 (t14+1))):=by kernel_rfl
theorem PP(n m2:Nat)(cells0:List D)(t12:D)(t13 t14:Int):Qp n (m2+1) cells0 t12 t13 t14 =
 bK (t14<t13) (kK (0≤t14) (kK (t14<(t12.els.length:Int)) (.br ((((t12.els.getD (Alf t14) D.nil).fld 1).toInt)!=2) (.br ((cells0.length:Int)==2048) (.ret [D.sl [],D.bool false])
 (kK (cells0.length + [t12.els.getD (Alf t14) D.nil].length≤Aj) (Qp n m2 (cells0++[t12.els.getD (Alf t14) D.nil]) t12 t13 (Ale .i64 (t14+1)))))
 (Vv n m2 n cells0 t12 t13 t14 ((t12.els.getD (Alf t14) D.nil).fld 4) ((((t12.els.getD (Alf t14) D.nil).fld 4).els).length:Int) 0))))
 (.ret [D.sl cells0,D.bool true]):=by kernel_rfl
theorem AdX(n:Nat)(cells0 a1:D):fA Hk n 150 [] [cells0,a1] =
 Qp n n cells0.els (a1.fld 2) (((a1.fld 2).els).length:Int) 0:=by kernel_rfl
def Dh(l:List Int)(s:A8):Arr:= .mk s [(l.length:Int)] (l.map Be)
def Dx(n:Int)(s:A8):Arr:= .mk s [] [Be n]
theorem AhT(l:List Int)(s:A8)(hl:l.length≤100000)(hr : ∀ x∈l,Bc x):Sp 33 [dI l,dB s] [dA (Dh l s)]:=by
 refine Af (l.length+1) (AhU _ _ _) ?_
 simp only[Ah]
 have key:=B1 l (fun m k (out:List Cell)=>X7 (l.length+1) m (dI l) (k:Int) 0 (s.toNat:Int) [D.int (l.length:Int)] (out.map dC)) (fun rest out=>[dA (.mk s [(l.length:Int)] (out++rest.map Be))]) (fun rest out=>out.length+rest.length≤100000)
  (fun m k out hk _=>by
   simp only[VB,Ah]
   refine Aq (Ac ?_)
   rw[Dk];simp;rfl)
  (fun m k out x rest hdr hI ih=>by
   obtain ⟨h1,h2,h3⟩:=Bv hdr
   have hm:=Alm h2
   simp only[VB,Ah,Ar h2,Bb k]
   repeat (refine Ad ?_)
   refine Aa (UM x (hr x hm)) (Av ?_ ?_)
   · simp only[All,Alz,Aj,Ali]at hI ⊢; omega
   · have:=ih (out++[Be x]) (by simp only[Alr,All,Alz]at hI ⊢; omega)
     rw[List.map_append]at this
     refine Tree.wp_mono this (fun ys hy=>hy.trans ?_)
     simp)
  (l.length+1) 0 [] (by omega) (by omega) (by simpa using hl)
 exact key
theorem VA(n:Int)(s:A8)(hr:Bc n):Sp 32 [.int n,dB s] [dA (Dx n s)]:=by
 refine Af 0 (AhS _ _ _) (Aa (UM n hr) (Ac ?_))
 rw[Dk];rfl
def Gn(fr:List Cell)(k:Nat):List Cell:=(Amd k).map (fun i=>fr.getD (i % fr.length) (Be 0))
def Yb(n a:Arr):Arr×Int :=
 if (A7 n).2=0 then (if (A0 (A7 n).1).2=0 then (.mk (a.s|||A5 n) (A7 n).1 (Gn a.cells (A0 (A7 n).1).1.toNat),0) else (.none,(A0 (A7 n).1).2)) else (.none,(A7 n).2)
theorem Ab5(fr:List Cell)(k:Nat):Gn fr (k+1)=Gn fr k++[fr.getD (k % fr.length) (Be 0)]:=by simp[Gn,List.range_succ]
theorem BQ(fr:List Cell)(k:Nat):(Gn fr k).length=k:=by simp[Gn]
theorem Ac3{fr:List Cell}{i:Nat}(h:i<fr.length):(fr.map dC).getD i D.nil=dC (fr.getD i (Be 0)):=by
 rw[Ar (Alg h),Alk,Alg h];rfl
theorem PN(n a:Arr)(hn:Fits n)(sh:List Int)(fr:List Cell)(hfr:0<fr.length)(K:Nat)(hK:K≤2048)(hf:fr.length≤2048):Tw (N6 2049 2049 (dI sh) (.sl (fr.map dC)) (Alh K (dC Cell.none)) (K:Int) 0 (dA n) (dA a) 0) [dA (.mk (a.s|||A5 n) sh (Gn fr K)),.int 0]:=by
 have key:=Da K (fun m k (cs:List D)=>N6 2049 m (dI sh) (.sl (fr.map dC)) cs (K:Int) (k:Int) (dA n) (dA a) 0) (fun _ _=>[dA (.mk (a.s|||A5 n) sh (Gn fr K)),.int 0])
  (fun k cs=>cs=(Gn fr k).map dC++Alh (K-k) (dC Cell.none))
  (fun m cs hI=>by
   simp only[PM]
   refine Aq (Aa (Em n hn) ?_)
   simp only[Ag,D5,BS,Lj]
   refine Aa (F9 a.s (A5 n)) (Ac ?_)
   rw[hI,Dk,Nat.sub_self,List.replicate_zero,Al2];rfl)
  (fun m k cs hkK hI ih=>by
   have hm:=Al9 k hfr
   have hcl:cs.length=K:=by rw[hI];simp[BQ];omega
   have et:Int.tmod (k:Int) (fr.length:Int)=((k % fr.length:Nat):Int):=rfl
   simp only[PM,Ah,et,hcl,Ac3 hm,Bb k]
   repeat (refine Ad ?_)
   refine ih _ ?_
   rw[hI,Ab5,List.set_append_right _ _ (by simp[BQ]),Ali,BQ,Nat.sub_self,show K-k=(K-(k+1))+1 by omega,List.replicate_succ,List.set_cons_zero]
   simp)
  2049 0 (Alh K (dC Cell.none)) (by omega) (by omega) (by simp[Gn])
 exact key
theorem AbB:D.agg [D.int 0,D.int 0,D.agg [D.bool false,D.sl [],D.sl []],D.int 0,D.sl []]=dC Cell.none:=by rw[Do];rfl
theorem Ab4(K:Nat):Gn [Be 0] K=Gn [] K:=by
 unfold Gn
 refine List.map_congr_left (fun i _=> ?_)
 simp[Nat.mod_one]
theorem AdR(n a:Arr)(hn:Fits n)(ha:a.cells.length≤2048)(hnl:n.cells.length≤2048)(hnt : ∀ c∈n.cells,c.n.top.length≤32):Sp 35 [dA n,dA a] [dA (Yb n a).1,.int (Yb n a).2]:=by
 refine Af 2049 (AdS _ _ _) (Aa (Ju n hnl hnt) ?_)
 simp only[Ag,Cl,Ak,Cu,Cq,AbB]
 unfold Yb
 refine Ae (fun h=>Ac ?_) (fun h=>Aa (Mn (A7 n).1) ?_)
 · rw[if_neg h]
 rw[if_pos (Alt.1 h)]
 simp only[Ag,Cl,Ak]
 refine Ae (fun h=>Ac ?_) (fun h=> ?_)
 · rw[if_neg h]
 rw[if_pos (Alt.1 h)]
 have hk:=F1 (A7 n).1
 generalize (A0 (A7 n).1).1=kz at *
 obtain ⟨K,rfl⟩ : ∃ K:Nat,kz=(K:Int):=⟨kz.toNat,by omega⟩
 simp only[Ah,Amg]
 refine Ae (fun he=>Aa (Sv a) ?_) (fun he=> ?_)
 · refine Ad (Ad (Av (by simp only[Aj];omega) ?_))
   have hc:=Al7.1 (show a.cells.length=0 by omega)
   have hfl:Ct a=Be 0:=by unfold Ct;rw[hc]
   have:=PN n a hn (A7 n).1 [Be 0] (by decide) K (by omega) (by decide)
   rw[Ab4]at this
   rw[hc,hfl]
   exact this
 · refine Ad (Ad (Av (by simp only[Aj];omega) ?_))
   exact PN n a hn (A7 n).1 a.cells (by omega) K (by omega) ha
theorem AeM(n:Int)(s:A8):C8 (Ef (Be n)) s=Dx n s:=by simp[C8,Ef,Dx]
theorem Ry{z:Int}(h:Bc z)(d:Nat):SmlC d (Be z):=by
 have:=OJ h
 refine ⟨?_,?_,?_,?_⟩
 · simp only[Be,Cm];omega
 · simp[Be,Cm]
 · simp[Be]
 · simp[Be]
theorem Qq(n:Int)(s:A8)(h:Bc n):Sp 148 [.int n,dB s] [dA (Dx n s)]:=by
 refine Af 0 (AdY _ _ _) (Aa (Hz n h) (Aa (Pi (d:=0) (Be n) (Ry h 0)) (Aa (Fz _ s) (Ac ?_))))
 rw[Ag,AeM]
def Yr(a:Arr):Arr:=Dh a.shape a.s
theorem AdT{d:Nat}(a:Arr)(h:Sml d a):Sp 56 [dA a] [dA (Yr a)]:=by
 obtain ⟨e,rfl⟩:=h.succ
 have hl:=h.1
 refine Af (a.shape.length+1) (AdU _ _) ?_
 simp only[Ah,Gp]
 refine Ad (Ad (Av (by simp only[Aj];omega) ?_))
 have key:=B1 a.shape (fun m k (cs:List D)=>Vt (a.shape.length+1) m cs (dI a.shape) (a.shape.length:Int) (k:Int) (dA a) 0) (fun _ _=>[dA (Yr a)])
  (fun rest cs=>∃ pre:List Int,a.shape=pre++rest∧cs=(pre.map Be).map dC++Alh rest.length (dC Cell.none))
  (fun m k cs hk hI=>by
   obtain ⟨pre,h1,rfl⟩:=hI
   simp only[PO,Ah]
   refine Aq (Ac ?_)
   rw[Al2]at h1
   rw[Dk,Yr,Dh,← h1];simp[dI])
  (fun m k cs c rest hdr hI ih=>by
   obtain ⟨h1,h2,h3⟩:=Bv hdr
   obtain ⟨pre,hp,rfl⟩:=hI
   have hk:k=pre.length:=by
    have:=congrArg List.length hdr
    rw[hp]at this h1
    simp at this h1;omega
   simp only[PO,Ah,Ar h2,Bb k]
   repeat (refine Ad ?_)
   refine Aa (Hz c (h.2.2.1 c (Alm h2))) ?_
   have hlen:((pre.map Be).map dC++Alh (rest.length+1) (dC Cell.none)).length=a.shape.length:=by rw[hp];simp
   rw[All,hlen]
   refine Ad (Ad ?_)
   have e:=K5 (f:=dC) (z:=dC Cell.none) (pre.map Be) (Be c) rest.length
   rw[Ali,← hk]at e
   rw[Ag,e]
   exact ih _ ⟨pre++[c],by rw[hp];simp,by simp⟩)
  (a.shape.length+1) 0 (Alh a.shape.length (dC Cell.none)) (by omega) (by omega) ⟨[],by simp,by simp⟩
 exact key
def TE(a:Arr):Arr:= .mk a.s [(a.cells.length:Int)] a.cells
theorem AdP{d:Nat}(a:Arr)(h:Sml d a):Sp 57 [dA a] [dA (TE a)]:=by
 obtain ⟨e,rfl⟩:=h.succ
 refine Af 0 (AdQ _ _) ?_
 simp only[Ah]
 refine Aa (Abf a.cells h.2.1) (Ac ?_)
 rw[Dk];rfl
def IF(a:Arr):Arr:=Dx (a.shape.headD 1) a.s
theorem AdV{d:Nat}(a:Arr)(h:Sml d a):Sp 64 [dA a] [dA (IF a)]:=by
 obtain ⟨e,rfl⟩:=h.succ
 refine Af 0 (AdW _ _) ?_
 simp only[Ah]
 unfold IF
 match hs:a.shape with
 | []=>exact Av (by simp) (Aa (Qq 1 a.s (Et (by omega) (by omega))) (Ac rfl))
 | x::xs =>
  refine Mu (by simp;omega) (Ad (Av (by simp) ?_))
  exact Aa (Qq x a.s (h.2.2.1 x (by rw[hs];simp))) (Ac rfl)
def PF(a:Arr):Arr:=Dx (F3 a:Int) (A5 a)
theorem AdG{d:Nat}(a:Arr)(h:Sml d a)(hd:d≤100000):Sp 63 [dA a] [dA (PF a)]:=by
 have:=BY h
 exact Af 0 (AdH _ _) (Aa (AP d a (by omega) h) (Aa (Em a h.fits) (Aa (Qq (F3 a:Int) (A5 a) (Et (by omega) (by omega))) (Ac rfl))))
noncomputable def Vr(a b:Arr)(same:Bool):Arr:=Dx (if Vm a b=same then 1 else 0) (A5 a|||A5 b)
theorem PL{d e:Nat}(a b:Arr)(same:Bool)(h:Sml d a)(hb:Sml e b):Sp 105 [dA a,dA b,.bool same] [dA (Vr a b same)]:=by
 refine Af 0 (AdO _ _ _ _) (Aa (JT a b h) ?_)
 unfold Vr
 simp only[Ag,Az,Pl]
 refine Ae (fun hh=> ?_) (fun hh=> ?_)
 · rw[if_pos hh]
   exact Aa (Em a h.fits) (Aa (Em b hb.fits) (Aa (F9 (A5 a) (A5 b)) (Aa (Qq 1 _ (Et (by omega) (by omega))) (Ac rfl))))
 · rw[if_neg hh]
   exact Aa (Em a h.fits) (Aa (Em b hb.fits) (Aa (F9 (A5 a) (A5 b)) (Aa (Qq 0 _ (Et (by omega) (by omega))) (Ac rfl))))
def Pm(a:Arr):A8:=match a.shape,a.cells with
 | [],c::_=>c.l
 | _,_=>0
def KK(a:Arr):Arr:= .mk a.s [] [⟨Pm a,2,.zero,0,[a]⟩]
def Tv(a:Arr):Arr×Int:=if Ge a then (a,0) else if 8<F3 a then (.none,7) else (KK a,0)
theorem BU(a:Arr)(l:A8)(h:l=Pm a):D.agg [dB a.s,D.sl [],D.sl [D.agg [dB l,D.int 2,D.agg [D.bool false,D.sl [],D.sl []],D.int 0,D.sl [dA a]]]]=dA (KK a):=by subst h;rw[Ab_,Dk];rfl
theorem AdI{d:Nat}(a:Arr)(h:Sml d a)(hd:d≤100000):Sp 61 [dA a] [dA (Tv a).1,.int (Tv a).2]:=by
 refine Af 0 (AdJ _ _) (Aa (JU a) ?_)
 unfold Tv
 simp only[Ah,Cq]
 refine Ch (fun hs=>Ac (by rw[if_pos hs])) (fun hs=>Aa (AP d a (by omega) h) ?_)
 rw[if_neg (by simp[hs])]
 simp only[Ag,Ak]
 refine Ae (fun h8=>Ac (by rw[if_pos (by omega)])) (fun h8=> ?_)
 rw[if_neg (by omega)]
 refine Ae (fun h1=>Ae (fun h2=>Ad (Ad (Ac ?_))) (fun h2=>Ac ?_)) (fun h1=>Ac ?_)
 · match hsh:a.shape,hc:a.cells with
   | [],c::cs =>
    simp only[Aml,Ag,Ah]
    rw[BU a c.l (by unfold Pm;rw[hsh,hc])]
   | x::xs,_=>rw[hsh]at h1;simp at h1;omega
   | [],[]=>rw[hc]at h2;simp at h2
 · refine congrArg (fun x=>[x,D.int 0]) (BU a 0 ?_)
   unfold Pm
   match hsh:a.shape,hc:a.cells with
   | [],c::cs=>rw[hc]at h2;simp at h2
   | x::xs,_=>rfl
   | [],[]=>rfl
 · refine congrArg (fun x=>[x,D.int 0]) (BU a 0 ?_)
   unfold Pm
   match hsh:a.shape,hc:a.cells with
   | [],c::cs=>rw[hsh]at h1;simp at h1
   | x::xs,_=>rfl
   | [],[]=>rfl
def CK(a:Arr):Arr:=match a.cells with
 | []=>Dx 0 a.s
 | c::_=>C8 (K_ c) a.s
theorem AdM{d:Nat}(a:Arr)(h:Sml (d+1) a):Sp 62 [dA a] [dA (CK a)]:=by
 refine Af 0 (AdN _ _) (Aa (Sv a) ?_)
 unfold CK
 simp only[Ah]
 match hc:a.cells with
 | [] =>
  have e:Ct a=Be 0:=by unfold Ct;rw[hc]
  refine Mu (by simp) ?_
  rw[e]
  refine Aa (AQ (Be 0) (Ry U4 0)) (Aa (Fz _ a.s) (Ac ?_))
  rw[Ag,ZI (by simp[Be])]
  simp[C8,Dx,Be]
 | c::cs =>
  refine Av (by simp) (Ad (Av (by simp) ?_))
  exact Aa (AQ c (h.cell c (by rw[hc];simp))) (Aa (Fz _ a.s) (Ac rfl))
mutual
def Iz:Arr→List (CellF Arr)
 | .mk _ _ cs=>Jz cs
def Jz:List (CellF Arr)→List (CellF Arr)
 | []=>[]
 | c::cs=>CM c++Jz cs
def CM:CellF Arr→List (CellF Arr)
 | ⟨l,k,n,c,inn⟩=>if k=2 then Nn inn else [⟨l,k,n,c,inn⟩]
def Nn:List Arr→List (CellF Arr)
 | []=>[]
 | a::as_=>Iz a++Nn as_
end
theorem Acw(a:Arr):Iz a=Jz a.cells:=by cases a;rw[Iz];rfl
theorem Acx(c:Cell):CM c=if c.kind=2 then Nn c.inn else [c]:=by cases c;rw[CM]
def Jy(out fl:List Cell):List D:=if out.length+fl.length≤2048 then [.sl ((out++fl).map dC),.bool true] else [.sl [],.bool false]
theorem PR : ∀ (d:Nat) (a:Arr) (out:List Cell),Sml d a→out.length≤2048→Sp 150 [.sl (out.map dC),dA a] (Jy out (Iz a))
 | 0,_,_,h,_=>h.elim
 | d+1,a,out,h,ho=>by
  have hl:=h.2.1
  refine Af 1048577 (AdX _ _ _) ?_
  simp only[Ah]
  rw[Acw]
  have key:=B1 a.cells (fun m k (out:List Cell)=>Qp 1048577 m (out.map dC) (.sl (a.cells.map dC)) (a.cells.length:Int) (k:Int)) (fun rest out=>Jy out (Jz rest)) (fun _ out=>out.length≤2048)
   (fun m k out hk hI=>by
    simp only[PP,Ah]
    refine Aq (Ac ?_)
    rw[Jz,Jy,if_pos (by simpa using hI),Al2])
   (fun m k out c rest hdr hI ih=>by
    obtain ⟨h1,h2,h3⟩:=Bv hdr
    have hc:=h.cell c (Alm h2)
    have hlc:=hc.2.2.1
    simp only[PP,Ah,Ar h2,Bb k]
    rw[Jz,Acx]
    refine Ad (Ad (Ad (Ae (fun hk=> ?_) (fun hk=> ?_))))
    · rw[if_neg hk]
      refine Ae (fun he=>Ac ?_) (fun he=>Av (by simp only[All,Alz,Aj];omega) ?_)
      · rw[Jy,if_neg (by simp;omega)]
      · have:=ih (out++[c]) (by simp;omega)
        rw[List.map_append]at this
        refine Tree.wp_mono this (fun ys hy=>hy.trans ?_)
        unfold Jy
        simp only[Alr,All,Alz,Al4]
        rw[show out.length+(0+1)+(Jz rest).length=out.length+(0+1+(Jz rest).length) by omega]
    · rw[if_pos (Alt.1 hk)]
      have key:=B1 c.inn (fun m' j (out:List Cell)=>Vv 1048577 m m' (out.map dC) (.sl (a.cells.map dC)) (a.cells.length:Int) (k:Int) (.sl (c.inn.map dA)) (c.inn.length:Int) (j:Int)) (fun rest' out=>Jy out (Nn rest'++Jz rest)) (fun _ out=>out.length≤2048)
        (fun m' j out hj hI'=>by
         simp only[PQ,Ah,Bb k]
         rw[Nn,Amo]
         exact Aq (ih _ hI'))
        (fun m' j out x rest' hdr' hI' ih'=>by
         obtain ⟨g1,g2,g3⟩:=Bv hdr'
         simp only[PQ,Ah,Ar g2,Bb j]
         repeat (refine Ad ?_)
         refine Aa (PR d x out (hc.2.2.2 x (Alm g2)) hI') ?_
         rw[Nn]
         unfold Jy
         by_cases hle:out.length+(Iz x).length≤2048
         · rw[if_pos hle]
           refine B_ rfl ?_
           have:=ih' (out++Iz x) (by simpa using hle)
           simp only[Ag,Dp]
           refine Tree.wp_mono this (fun ys hy=>hy.trans ?_)
           unfold Jy
           simp only[Alr,Al4,Nat.add_assoc]
         · rw[if_neg hle]
           refine Ax rfl (Ac ?_)
           rw[if_neg (by simp only[Alr];omega)])
        1048577 0 out (by omega) (by omega) hI
      exact key)
   1048577 0 out (by omega) (by omega) ho
  exact key
def Tx(a:Arr):Arr×Int:=if (Iz a).length≤2048 then (.mk (A5 a) [((Iz a).length:Int)] (Iz a),0) else (.none,7)
theorem AdK{d:Nat}(a:Arr)(h:Sml d a):Sp 66 [dA a] [dA (Tx a).1,.int (Tx a).2]:=by
 refine Af 0 (AdL _ _) (Aa (PR d a [] h (by simp)) ?_)
 unfold Jy Tx
 simp only[Alz,Amn,Amo,Cq]
 by_cases hle:(Iz a).length≤2048
 · rw[if_pos hle,if_pos hle]
   refine B_ rfl (Aa (Em a h.fits) (Ac ?_))
   simp only[Ag,Dp,D5,Ali,Lj]
   rw[Dk];rfl
 · rw[if_neg hle,if_neg hle]
   exact Ax rfl (Ac rfl)
open Go.RowKit
section
variable {P:Program} {md:Nat→FMode}
def ResV(P:Program)(md:Nat→FMode)(w:World)(M:Nat→Prop)(t:Nat)(y:D)(u:Value):Prop:=∃ look β,VL P md w (Ap M look β) look β (Bt P t y) u
theorem ResV.int {w:World} {M:Nat→Prop} {t:Nat} {k:IntKind} {n:Int} {u:Value} (h:ResV P md w M t (.int n) u) (ht:P.underlying t=some (.int k)):u = .int k n∧k.min≤n∧n≤k.max:=by
 obtain ⟨look,β,h⟩:=h
 unfold Bt at h
 rw[ht]at h
 exact Fn h
theorem ResV.bool {w:World} {M:Nat→Prop} {t:Nat} {b:Bool} {u:Value} (h:ResV P md w M t (.bool b) u) (ht:P.underlying t=some .bool):u = .bool b:=by
 obtain ⟨look,β,h⟩:=h
 unfold Bt at h
 rw[ht]at h
 exact Kd h
theorem ResV.rd {w:World} {M:Nat→Prop} {t:Nat} {y:D} {u:Value} (h:ResV P md w M t y u) (ht:Bt P t y = .d t y):Rd P md w M (.ty t) y u:=by
 obtain ⟨look,β,h⟩:=h
 rw[ht]at h
 obtain ⟨h1,h2⟩:=C2 h (by simp) (by simp) (by simp)
 cases h1 with
 | d h1=>exact ⟨h1.mono (Als _) (fun _ _ _=>rfl) (fun b hb _=> .inl hb),h2.size,h2.agg⟩
theorem Jc{w w':World}{M M':Nat→Prop}{t:CT}{x:D}{v:Value}(h:Rd P md w M t x v)(hx:Ext w w')(hM : ∀ b,M' b→b<w.heap.size→M b):Rd P md w' M' t x v :=
 ⟨h.rd.mono hx.size (fun b _ hb=>hx.block b hb) hM,h.size,h.agg⟩
theorem HY{F:Nat}{fn:Func}{xs ys:List D}{vs:List Value}{W:World}{M:Nat→Prop}(hs:Dn P md F [] xs ys)(hfn:P.funcs[F]? = some fn)(hm:md F = {})(hM : ∀ b,M b→b<W.heap.size)
   (hlx:xs.length=fn.params.size) (hlv:vs.length=fn.params.size) (hrd : ∀ (i t:Nat) (x:D) (v:Value),fn.params.toList[i]? = some t→xs[i]? = some x→vs[i]? = some v→Rd P md W M (.ty t) x v) :
   Calls P F vs.toArray W (fun e w'=>∃ us,e = .returned (J8 us)∧us.length=fn.resultTypes.size∧(∀ (i t:Nat) (u:Value),fn.resultTypes.toList[i]? = some t→us[i]? = some u→ResV P md w' M t (ys.getD i .nil) u)∧Ext W w'):=by
 obtain ⟨fn',h1,_,_,h⟩:=hs
 rw[hfn]at h1
 injection h1 with h1
 subst h1
 have nol : ∀ b,¬ C7 (md F) vs b:=fun b ⟨p,v,h1,_⟩=>by rw[hm]at h1;cases h1
 refine (h W M vs 0 1 (fun k hk=>by rw[hm]at hk;cases hk) ⟨by simp[hlx],by simp[hlv],fun b hb=>⟨hM b hb,nol b⟩,?_,fun p hp=>by rw[hm]at hp;cases hp⟩).mono ?_
 · intro i ct x v hc hx hv _
   simp only[Al2,Aly,Alv]at hc
   obtain ⟨t,ht,rfl⟩:=hc
   have:=hrd i t x v ht hx hv
   exact ⟨this.rd.mono (Als _) (fun _ _ _=>rfl) (fun b hb _=>hb.elim id (fun h=>(nol b h).elim)),this.size,this.agg⟩
 · rintro e w' ⟨us,β',hp⟩
   refine ⟨us,hp.ending,by simpa using hp.len,fun i t u ht hu=> ?_,?_⟩
   · have:=hp.vl (D4 P fn.resultTypes.toList ys 0) (by rw[hm];rfl) i _ u (Mk ht) hu
     rw[Amn]at this
     exact ⟨_,_,this⟩
   · exact Stp.ext (hp.stp.weak fun b hb=>(nol b hb).elim)
theorem EP{us:List Value}{n:Nat}(h:us.length=n)(hn:n=1) : ∃ u,us = [u]:=by
 subst hn
 match us,h with
 | [u],_=>exact ⟨u,rfl⟩
theorem IA{F:Nat}{fn:Func}{xs:List D}{n:Int}{vs:List Value}{W:World}{M:Nat→Prop}{t:Nat}{k:IntKind}(hs:Dn P md F [] xs [.int n])(hfn:P.funcs[F]? = some fn)(hm:md F = {})(hM : ∀ b,M b→b<W.heap.size)
  (hlx:xs.length=fn.params.size) (hlv:vs.length=fn.params.size) (hrd : ∀ (i t:Nat) (x:D) (v:Value),fn.params.toList[i]? = some t→xs[i]? = some x→vs[i]? = some v→Rd P md W M (.ty t) x v)
  (hrt:fn.resultTypes = #[t]) (ht:P.underlying t=some (.int k)):Calls P F vs.toArray W (fun e w'=>e = .returned (.int k n)∧(k.min≤n∧n≤k.max)∧Ext W w'):=by
 refine (HY hs hfn hm hM hlx hlv hrd).mono ?_
 rintro e w' ⟨us,rfl,hl,hh,hx⟩
 obtain ⟨u,rfl⟩:=EP hl (by rw[hrt];rfl)
 obtain ⟨rfl,h2⟩:=(hh 0 t u (by rw[hrt];rfl) rfl).int ht
 exact ⟨rfl,h2,hx⟩
theorem YF{F:Nat}{fn:Func}{xs:List D}{y:D}{vs:List Value}{W:World}{M:Nat→Prop}{t:Nat}(hs:Dn P md F [] xs [y])(hfn:P.funcs[F]? = some fn)(hm:md F = {})(hM : ∀ b,M b→b<W.heap.size)
  (hlx:xs.length=fn.params.size) (hlv:vs.length=fn.params.size) (hrd : ∀ (i t:Nat) (x:D) (v:Value),fn.params.toList[i]? = some t→xs[i]? = some x→vs[i]? = some v→Rd P md W M (.ty t) x v)
  (hrt:fn.resultTypes = #[t]) (ht:Bt P t y = .d t y):Calls P F vs.toArray W (fun e w'=>∃ u,e = .returned u∧Rd P md w' M (.ty t) y u∧Ext W w'):=by
 refine (HY hs hfn hm hM hlx hlv hrd).mono ?_
 rintro e w' ⟨us,rfl,hl,hh,hx⟩
 obtain ⟨u,rfl⟩:=EP hl (by rw[hrt];rfl)
 exact ⟨u,rfl,(hh 0 t u (by rw[hrt];rfl) rfl).rd ht,hx⟩
theorem RG{F:Nat}{fn:Func}{xs es:List D}{vs:List Value}{W:World}{M:Nat→Prop}{t e:Nat}(hs:Dn P md F [] xs [.sl es])(hfn:P.funcs[F]? = some fn)(hm:md F = { own:=[(0,[])] })(hM : ∀ b,M b→b<W.heap.size)
   (hlx:xs.length=fn.params.size) (hlv:vs.length=fn.params.size) (hrd : ∀ (i t:Nat) (x:D) (v:Value),fn.params.toList[i]? = some t→xs[i]? = some x→vs[i]? = some v→Rd P md W M (.ty t) x v)
   (hrt:fn.resultTypes = #[t]) (ht:B3 P t=some e) (h1:one P t=true) (hne:es≠[]) :
   Calls P F vs.toArray W (fun en w'=>∃ G cap cur,en = .returned (.slice (some ⟨G,0,none⟩) es.length cap)∧W.heap.size≤G∧G<w'.heap.size∧w'.heap[G]? = some (.cells cur e (0,0))∧es.length≤cap∧cap≤maxLen∧cur.size=cap*P.cellsOf e ∧
     (∀ (i:Nat) (x:D),es[i]? = some x→∃ M',RdC P md w' M' (.ty e) x (fun j=>cur[i*P.cellsOf e+j]?))∧Ext W w'):=by
 obtain ⟨fn',g1,_,_,h⟩:=hs
 rw[hfn]at g1
 injection g1 with g1
 subst g1
 have nol : ∀ b,¬ C7 (md F) vs b:=fun b ⟨p,v,h1,_⟩=>by rw[hm]at h1;cases h1
 refine (h W M vs 0 1 (fun k hk=>by rw[hm]at hk;simp at hk;omega) ⟨by simp[hlx],by simp[hlv],fun b hb=>⟨hM b hb,nol b⟩,?_,fun p hp=>by rw[hm]at hp;cases hp⟩).mono ?_
 · intro i ct x v hc hx hv _
   simp only[Al2,Aly,Alv]at hc
   obtain ⟨t,ht,rfl⟩:=hc
   have:=hrd i t x v ht hx hv
   exact ⟨this.rd.mono (Als _) (fun _ _ _=>rfl) (fun b hb _=>hb.elim id (fun h=>(nol b h).elim)),this.size,this.agg⟩
 · rintro en w' ⟨us,β',hp⟩
   have hl:=hp.len
   rw[hrt]at hl
   obtain ⟨u,rfl⟩:=EP hl rfl
   have hot:G4 P [t] (0,[])=some e:=by simp[G4,B5,h1,ht]
   have hlook:Dt P (md F) fn.params.toList fn.resultTypes.toList [.sl es] 0 1 0=some (.row e es true):=by
     rw[hm,hrt]
     simp[Dt,Kk,Cv,Bh,Au,hot,D.path,D.els,List.getD]
   have hv:=hp.vl [.row 0] (by rw[hm,hrt];simp[D4,Fk,D_]) 0 (.row 0) u rfl rfl
   have hu:=Im hv hlook
   have hb:=hp.blks 0 _ hlook
   have ho:=fun B=>hp.own 0 _ B hlook
   obtain ⟨A,cap,hA,hb⟩:=hb
   rcases hb with ⟨hn,_⟩ | ⟨B,cur,rfl,hc0,hB,hlen,hcap,hsz,hpos,hrd'⟩
   · exact absurd hn hne
   · have hob:=ho B (by rw[hA];simp[A_];omega)
     have hG:=hob.1.resolve_right (nol B)
     refine ⟨B,cap,cur,?_,hG,hob.2,hB,hlen,hcap,hsz,fun i x hx=>⟨_,hrd' i x hx⟩,Stp.ext (hp.stp.weak fun b hb=>(nol b hb).elim)⟩
     rw[hp.ending,hu,hA];rfl
theorem TF{w:World}{M:Nat→Prop}{ps:List Nat}{t:Nat}{x:D}{v:Value}(hp:ps = [t])(h:Rd P md w M (.ty t) x v) : ∀ (i t':Nat) (x':D) (v':Value),ps[i]? = some t'→[x][i]? = some x'→[v][i]? = some v'→Rd P md w M (.ty t') x' v':=by
 intro i t' x' v' h1 h2 h3
 subst hp
 match i with
 | 0=>cases h1;cases h2;cases h3;exact h
 | i+1=>simp at h1
theorem Oj{w:World}{M:Nat→Prop}{ps:List Nat}{t u:Nat}{x y:D}{v z:Value}(hp:ps = [t,u])(h:Rd P md w M (.ty t) x v)(h':Rd P md w M (.ty u) y z) : ∀ (i t':Nat) (x':D) (v':Value),ps[i]? = some t'→[x,y][i]? = some x'→[v,z][i]? = some v'→Rd P md w M (.ty t') x' v':=by
 intro i t' x' v' h1 h2 h3
 subst hp
 match i with
 | 0=>cases h1;cases h2;cases h3;exact h
 | 1=>cases h1;cases h2;cases h3;exact h'
 | i+2=>simp at h1
theorem Ol{w:World}{M:Nat→Prop}{t:Nat}{k:IntKind}{n:Int}(ht:P.underlying t=some (.int k))(hs:P.cellsOf t=1)(ha:A9 P t=false)(h1:k.min≤n)(h2:n≤k.max):Rd P md w M (.ty t) (.int n) (.int k n) :=
 ⟨.int ht h1 h2 rfl,hs.symm,ha.symm⟩
theorem Zt (hP : WfP P) {F : Nat} {fn : Func} {cts : List CT} {xs ys : List D} (hfn : P.funcs[F]? = some fn) (hb : fn.body.isSome = true) (hn : (fn.name == "runtime.NumGoroutine") = false) (hm : md F = {})
   (h : ∀ (w:World) (M:Nat→Prop) (vs:List Value),(∀ b,M b→b<w.heap.size)→xs.length=fn.params.size+cts.length→vs.length=fn.params.size+cts.length→(∀ (i:Nat) (t:CT) (x:D) (v:Value),(fn.params.toList.map CT.ty++cts)[i]? = some t→xs[i]? = some x→vs[i]? = some v→Rd P md w M t x v) →
     Calls P F vs.toArray w (fun e w'=>∃ us,e = .returned (J8 us)∧us.length=fn.resultTypes.size∧(∀ (i t:Nat) (u:Value),fn.resultTypes.toList[i]? = some t→us[i]? = some u→Rd P md w' M (.ty t) (ys.getD i .nil) u)∧Ext w w')):Dn P md F cts xs ys:=by
 refine ⟨fn,hfn,hb,hn,fun w M vs d bid _ hp=> ?_⟩
 have nol : ∀ b,¬ C7 (md F) vs b:=fun b ⟨p,v,h1,_⟩=>by rw[hm]at h1;cases h1
 have hlook:Dt P (md F) fn.params.toList fn.resultTypes.toList ys d bid=fun _=>none:=by rw[hm];rfl
 refine (h w M vs (fun b hb=>(hp.m b hb).1) (by simpa using hp.lenx) (by simpa using hp.lenv) (fun i t x v h1 h2 h3=> ?_)).mono ?_
 · have:=hp.rd i t x v h1 h2 h3 (by rw[hm];simp)
   exact ⟨this.rd.mono (Als _) (fun _ _ _=>rfl) (fun b hb _=> .inl hb),this.size,this.agg⟩
 · rintro e w' ⟨us,rfl,hl,hh,hx⟩
   refine ⟨us,fun _=>undef,rfl,by simpa using hl,(Stp.of_ext hx).weak (fun _ h=>h),?_,?_,?_,?_,?_⟩
   · intro ls hls i l u hi hu
     rw[hm]at hls
     simp only[Fk,Alo]at hls
     subst hls
     obtain ⟨t,ht⟩ : ∃ t,fn.resultTypes.toList[i]? = some t:=by
      have:=(Alj.1 hi).1
      rw[On]at this
      exact ⟨_,Alg this⟩
     have hr:=hh i t u ht hu
     rw[Mk ht,Amn]at hi
     injection hi with hi
     subst hi
     have hr':Rd P md w' (Ap M (Dt P (md F) fn.params.toList fn.resultTypes.toList ys d bid) (fun _=>undef)) (.ty t) (ys.getD i .nil) u:=by
      refine Jc hr (Ext.refl _) (fun b hb _=> ?_)
      rcases hb with hb | ⟨r,k,hk,_⟩
      · exact hb
      · rw[hlook]at hk;cases hk
     exact (K0 hP hr').1
   · intro r b hb;rw[hlook]at hb;cases hb
   · intro r b B hb;rw[hlook]at hb;cases hb
   · intro r q b c B hb;rw[hlook]at hb;cases hb
   · intro hb;rw[hm]at hb;cases hb
end
end Go.Proofs.YtokkbgpgaheakaaGreat
namespace Go.Proofs.YtokkbgpgaheakaaGreat
theorem BA{x k:Nat}(h:(lb x).length=k+1):B ^ k≤x:=by
 rcases Nat.lt_or_ge x (B ^ k) with h1 | h1
 · have:=Ay.2 h1;omega
 · exact h1
theorem DL{r:List Ao}(h : ∀ k,r.length=k+1→B ^ k≤nv r):lb (nv r)=r:=by
 refine OI (fun hne hz=> ?_)
 have hd:=List.dropLast_concat_getLast hne
 have hl:0<r.length:=List.length_pos_iff.2 hne
 have h1:=h (r.length-1) (by omega)
 have e:nv r=nv r.dropLast:=by
  have e2:=Ic r.dropLast (r.getLast hne)
  rw[hd,hz,show (0:Ao).toNat=0 from rfl,Nat.mul_zero,Nat.add_zero]at e2
  exact e2
 have h2:=B6 r.dropLast
 rw[List.length_dropLast]at h2
 omega
theorem SL{α:Type}{pre l:List α}{k:Nat}(hp:pre.length=k)(hk:k<l.length):(pre++l.drop k)[k]? = some l[k]:=by
 rw[List.getElem?_append_right (by omega),hp,Nat.sub_self,List.getElem?_drop,Nat.add_zero,Alg hk]
theorem SM{α:Type}{pre l:List α}{k:Nat}(v:α)(hp:pre.length=k)(hk:k<l.length):(pre++l.drop k).set k v=(pre++[v])++l.drop (k+1):=by
 rw[List.set_append_right _ _ (by omega),hp,Nat.sub_self,Al6 hk,List.set_cons_zero];simp
theorem map_set{α:Type}{f:α→D}{l:List α}{k:Nat}{v:α} : (l.map f).set k (f v)=(l.set k v).map f:=by rw[List.map_set]
theorem AeP(l:List Ao)(i:Nat)(hi:i<l.length)(v:Ao):nv (l.set i v)+B ^ i*(l[i]).toNat=nv l+B ^ i*v.toNat:=by
 induction l generalizing i with
 | nil=>simp at hi
 | cons y l ih =>
  cases i with
  | zero=>simp[nv];omega
  | succ i =>
   have hi':i<l.length:=by simpa using hi
   have:=ih i hi'
   simp only[List.set_cons_succ,nv,List.getElem_cons_succ,Amk]
   have h2:=congrArg (fun n=>B*n) this
   simp only[Nat.mul_add]at h2
   rw[show B ^ i*B*(l[i]).toNat=B*(B ^ i*(l[i]).toNat) by rw[Ami (B ^ i) B,Nat.mul_assoc],show B ^ i*B*v.toNat=B*(B ^ i*v.toNat) by rw[Ami (B ^ i) B,Nat.mul_assoc]]
   omega
theorem M6{X Y:Nat}(hX:X<4294967296)(hY:Y<4294967296):Bj .xor .u32 (X:Int) (Y:Int)=((X^^^Y:Nat):Int)∧Bj .and .u32 (X:Int) (Y:Int)=((X&&&Y:Nat):Int)∧Bj .or .u32 (X:Int) (Y:Int)=((X|||Y:Nat):Int):=by
 have b:Alq .u32=32:=rfl
 have e1:(X^^^Y)<2 ^ 32:=Nat.xor_lt_two_pow (by omega) (by omega)
 have e2:(X&&&Y)<2 ^ 32:=Nat.and_lt_two_pow _ (by omega)
 have e3:(X|||Y)<2 ^ 32:=Nat.or_lt_two_pow (by omega) (by omega)
 simp only[Bj,b,BitVec.ofInt_natCast,BitVec.toNat_xor,BitVec.toNat_and,BitVec.toNat_or,BitVec.toNat_ofNat,Al_ (show X<2 ^ 32 by omega),Al_ (show Y<2 ^ 32 by omega)]
 exact ⟨Ey (by omega) (by omega),Ey (by omega) (by omega),Ey (by omega) (by omega)⟩
theorem Zw(n:Nat)(h:n<4294967296):n.testBit 31=decide (2147483648≤n):=by
 rw[Nat.testBit_eq_decide_div_mod_eq]
 have:n / 2 ^ 31 % 2=1↔2147483648≤n:=by omega
 simp only[this]
theorem YL(X Y D c:Nat)(hX:X<4294967296)(hY:Y<4294967296)(hc:c≤1)(hD:(D:Int)=((X:Int)-Y-c) % 4294967296) :
  ((((4294967295^^^X)&&&Y)|||((4294967295^^^(X^^^Y))&&&D):Nat):Int) / 2147483648=if X<Y+c then 1 else 0:=by
 have hDl:D<4294967296:=by omega
 have hN:(((4294967295^^^X)&&&Y)|||((4294967295^^^(X^^^Y))&&&D))<2 ^ 32 :=
  Nat.or_lt_two_pow (Nat.and_lt_two_pow _ (by omega)) (Nat.and_lt_two_pow _ (by omega))
 have ht:=Zw _ (show _<4294967296 from hN)
 rw[Nat.testBit_or,Nat.testBit_and,Nat.testBit_and,Nat.testBit_xor,Nat.testBit_xor,Nat.testBit_xor,Zw X hX,Zw Y hY,Zw D hDl,show Nat.testBit 4294967295 31=true by decide]at ht
 generalize (((4294967295^^^X)&&&Y)|||((4294967295^^^(X^^^Y))&&&D))=N at *
 by_cases h1:2147483648≤X <;> by_cases h2:2147483648≤Y <;> by_cases h3:2147483648≤D <;> simp[h1,h2,h3]at ht <;> split <;> omega
theorem KF(x y c:Nat)(hx:x<B)(hy:y<B)(hc:c≤1):Sp 333 [.int (x:Int),.int (y:Int),.int (c:Int)] [.int (((x+y+c) % B:Nat):Int),.int (((x+y+c) / B:Nat):Int)]:=by
 rw[Aw]at *
 refine Af 0 (AaP _ _ _ _) (Ax (by decide) (Ac ?_))
 simp only[Ak]
 have t1:Ale .u64 (Ale .u64 (Ale .u64 (x:Int)+Ale .u64 (y:Int))+Ale .u64 (c:Int))=((x+y+c:Nat):Int):=by
  rw[Bq (x:=(x:Int)) (by omega) (by omega),Bq (x:=(y:Int)) (by omega) (by omega),Bq (x:=(c:Int)) (by omega) (by omega),Bq (x:=(x:Int)+y) (by omega) (by omega),Bq (by omega) (by omega)];omega
 rw[t1,Ni,Ey (x:=(((x+y+c) / 4294967296:Nat):Int)) (by omega) (by omega)]
 have t2:Ale .u32 ((x+y+c:Nat):Int)=(((x+y+c) % 4294967296:Nat):Int):=by rw[IntKind.wrap_u32];omega
 rw[t2]
theorem KG(x y c:Nat)(hx:x<B)(hy:y<B)(hc:c≤1)(z c':Nat)(hz:z<B)(hc':c'≤1)(e:x+B*c'=z+y+c):Sp 334 [.int (x:Int),.int (y:Int),.int (c:Int)] [.int (z:Int),.int (c':Int)]:=by
 rw[Aw]at *
 refine Af 0 (AaW _ _ _ _) (Ax (by decide) (Ac ?_))
 simp only[Ak]
 have t1:Ale .u32 (Ale .u32 ((x:Int)-(y:Int))-(c:Int))=(z:Int):=by rw[IntKind.wrap_u32,IntKind.wrap_u32];omega
 have hm:IntKind.max .u32=((4294967295:Nat):Int):=by decide
 have e1:(4294967295^^^x)<2 ^ 32:=Nat.xor_lt_two_pow (by omega) (by omega)
 have e2:(x^^^y)<2 ^ 32:=Nat.xor_lt_two_pow (by omega) (by omega)
 have e3:(4294967295^^^(x^^^y))<2 ^ 32:=Nat.xor_lt_two_pow (by omega) e2
 have e4:((4294967295^^^x)&&&y)<2 ^ 32:=Nat.and_lt_two_pow _ (by omega)
 have e5:((4294967295^^^(x^^^y))&&&z)<2 ^ 32:=Nat.and_lt_two_pow _ (by omega)
 have hs:=YL x y z c (by omega) (by omega) hc (by omega)
 rw[t1,hm,(M6 (X:=4294967295) (Y:=x) (by omega) (by omega)).1,(M6 (X:=x) (Y:=y) (by omega) (by omega)).1,(M6 (X:=4294967295) (Y:=x^^^y) (by omega) (by omega)).1,(M6 (X:=4294967295^^^x) (Y:=y) (by omega) (by omega)).2.1,(M6 (X:=4294967295^^^(x^^^y)) (Y:=z) (by omega) (by omega)).2.1,(M6 (by omega) (by omega)).2.2]
 have t3 : ∀ q:Nat,Al8 (q:Int) (2 ^ (min (Alf 31) (Alq .u32)))=(q:Int) / 2147483648:=fun q=>by
  rw[show (2:Int) ^ (min (Alf 31) (Alq .u32))=2147483648 by decide,Int.fdiv_eq_ediv_of_nonneg _ (by omega)]
 rw[t3,hs]
 congr 2
 split <;> congr 1 <;> omega
theorem Qs(a b:List Ao)(ha:a.length≤1000000)(hb:b.length≤1000000):Sp 302 [dL a,dL b] [.int (Dj (nv a) (nv b))]:=by
 refine Af (a.length+1) (Aef _ _ _) (Aa (E9 a (by omega)) (Aa (E9 b (by omega)) ?_))
 have la:(lb (nv a)).length≤a.length:=Ay.2 (B6 a)
 have lb_:(lb (nv b)).length≤b.length:=Ay.2 (B6 b)
 simp only[Ag,Bx,Ali]
 refine Ae (fun h=>Ac ?_) (fun h=>Ae (fun h'=>Ac ?_) (fun h'=> ?_))
 · have h1:nv a<nv b:=by
    have e1:nv a<B ^ (lb (nv a)).length:=Ay.1 (Als _)
    rcases Nat.lt_or_ge (nv b) (B ^ (lb (nv a)).length) with h2 | h2
    · have:=Ay.2 h2;omega
    · omega
   rw[Dj,if_pos h1]
 · have h1:nv b<nv a:=by
    have e1:nv b<B ^ (lb (nv b)).length:=Ay.1 (Als _)
    rcases Nat.lt_or_ge (nv a) (B ^ (lb (nv b)).length) with h2 | h2
    · have:=Ay.2 h2;omega
    · omega
   rw[Dj,if_neg (by omega),if_neg (by omega)]
 · have hl:(lb (nv b)).length=(lb (nv a)).length:=by omega
   have key:=H_ (P:=Tryz.prog) (md:=md) (fun m k (_:Unit)=>Vy (a.length+1) m (dL (lb (nv a))) (dL (lb (nv b))) ((k:Int)-1)) (fun _ _=>[.int (Dj (nv a) (nv b))]) (fun k _=>k≤(lb (nv a)).length∧nv a / B ^ k=nv b / B ^ k)
    (fun m s ⟨_,h⟩=>by
     simp only[PV]
     refine Aq (Ac ?_)
     simp at h
     simp[Dj,h])
    (fun m k s ⟨h0,h⟩ ih=>by
     have g1:=Ds (lb (nv a)) k (by omega)
     have g2:=Ds (lb (nv b)) k (by omega)
     rw[Bn]at g1 g2
     have ga:((lb (nv a)).map dB).getD k D.nil=D.int ((nv a / B ^ k % B:Nat):Int):=by rw[Ar (Alg (show k<(lb (nv a)).length by omega)),← g1];rfl
     have gb:((lb (nv b)).map dB).getD k D.nil=D.int ((nv b / B ^ k % B:Nat):Int):=by rw[Ar (Alg (show k<(lb (nv b)).length by omega)),← g2];rfl
     simp only[PV,show ((k+1:Nat):Int)-1=(k:Int) by omega,Ah,ga,gb]
     have ea:=Nat.div_add_mod (nv a / B ^ k) B
     have eb:=Nat.div_add_mod (nv b / B ^ k) B
     rw[Nat.div_div_eq_div_mul,← Amk]at ea eb
     rw[h]at ea
     generalize B*(nv b / B ^ (k+1))=q at ea eb
     refine Ad (Ad (Ad (Ad (Ad (Ae (fun h'=>Ac ?_) (fun h'=>Ad (Ad (Ad (Ad (Ae (fun h2=>Ac ?_) (fun h2=> ?_)))))))))))
     · have hlt:=Vk (show nv a / B ^ k<nv b / B ^ k by omega)
       simp only[Dj];rw[if_pos hlt]
     · have hlt:=Vk (show nv b / B ^ k<nv a / B ^ k by omega)
       simp only[Dj];rw[if_neg (by omega),if_neg (by omega)]
     · rw[As (by omega) (by omega)]
       exact ih () ⟨by omega,by omega⟩)
    (a.length+1) (lb (nv a)).length () (by omega) ⟨by omega,by
     rw[Nat.div_eq_of_lt (Ay.1 (Als _)),Nat.div_eq_of_lt (Ay.1 (by omega))]⟩
   rw[As (by omega) (by omega)]
   exact key
theorem PU(x y N:Nat)(hA:(lb x).length≤100000)(hb:(lb y).length≤(lb x).length)(hN:(lb x).length<N):Tw (L8 N N (dL (lb y)) ((lb x).map dB) 0 ((lb x).length:Int) 0) [dL (lb (x+y))]:=by
 have hx:x<B ^ (lb x).length:=Ay.1 (Als _)
 have hy:y<B ^ (lb x).length:=Ay.1 hb
 have key:=Da (lb x).length (fun m k (s:List Ao×Nat)=>L8 N m (dL (lb y)) ((s.1++(lb x).drop k).map dB) (s.2:Int) ((lb x).length:Int) (k:Int)) (fun _ _=>[dL (lb (x+y))])
  (fun k s=>s.1.length=k∧nv s.1=(x+y) % B ^ k∧s.2=(x % B ^ k+y % B ^ k) / B ^ k)
  (fun m s ⟨h1,h2,h3⟩=>by
   simp only[PT,List.drop_length,Al2,Ah]
   rw[Al_ hx,Al_ hy]at h3
   have hs:x+y=nv s.1+B ^ (lb x).length*s.2:=by rw[h2,h3];exact (Nat.mod_add_div _ _).symm
   have hc:s.2≤1:=by
     have:s.2<2:=by rw[h3,Amm (Bp _)];omega
     omega
   refine Aq (Ae (fun h0=>Av (by simp only[All,Alz,Aj];omega) (Ac ?_)) (fun h0=>Ac ?_))
   · have e1:s.2=1:=by omega
     rw[hs,e1]
     have e2:nv (s.1++[1])=nv s.1+B ^ (lb x).length*1:=by rw[Ic,h1];rfl
     rw[← e2,DL (r:=s.1++[1]) (fun k hk=>by
       rw[e2]
       have:k=(lb x).length:=by simp at hk;omega
       rw[this];omega)]
     simp[dL,dB]
   · have e1:s.2=0:=by omega
     rw[e1,Nat.mul_zero,Nat.add_zero]at hs
     rw[hs,DL (r:=s.1) (fun k hk=>by rw[← hs];have:=BA (x:=x) (k:=k) (by omega);omega)];rfl)
  (fun m k s hk ⟨h1,h2,h3⟩ ih=>by
   have hd:=AK x y k
   have hc:=AJ x y k
   have la:=Al9 (x / B ^ k) Bu
   have lb':=Al9 (y / B ^ k) Bu
   have lc:s.2≤1:=by
     rw[h3]
     have r1:=Al9 x (Bp k)
     have r2:=Al9 y (Bp k)
     have:(x % B ^ k+y % B ^ k) / B ^ k<2:=by rw[Amm (Bp k)];omega
     omega
   have hlen:(s.1++(lb x).drop k).length=(lb x).length:=by simp[h1];omega
   have gx:=Ds (lb x) k hk
   rw[Bn]at gx
   have B9:((s.1++(lb x).drop k).map dB).getD k D.nil=D.int ((x / B ^ k % B:Nat):Int):=by rw[Ar (SL h1 hk),← gx];rfl
   have hm:=Al9 (x / B ^ k % B+y / B ^ k % B+s.2) Bu
   have Cf:((s.1++(lb x).drop k).map dB).set k (D.int (((x / B ^ k % B+y / B ^ k % B+s.2) % B:Nat):Int))=((s.1++[Al0 32 ((x / B ^ k % B+y / B ^ k % B+s.2) % B)])++(lb x).drop (k+1)).map dB:=by
     rw[D6 hm,map_set,SM _ h1 hk]
   have go:=ih (s.1++[Al0 32 ((x / B ^ k % B+y / B ^ k % B+s.2) % B)],(x / B ^ k % B+y / B ^ k % B+s.2) / B) ⟨by simp[h1],Qv h1 h2 (by rw[ofNat_lt hm,hd,h3]),by rw[hc,h3]⟩
   simp only[PT,Ah,B9,hlen,Bb k]
   refine Ad (Ae (fun hb'=> ?_) (fun hb'=> ?_))
   · have gy:=Ds (lb y) k (by omega)
     rw[Bn]at gy
     rw[Ar (Alg (show k<(lb y).length by omega)),D5,gy]
     refine Ad (Ad (Ad (Ad (Aa (KF _ _ s.2 la lb' lc) (Ad (Ad ?_))))))
     simp only[Ag,Cl,Ak,Cf]
     exact go
   · have gy:=EL (lb y) k (by omega)
     rw[Bn]at gy
     refine Ae (fun h0=>Aq (Ac ?_)) (fun h0=> ?_)
     · have e0:s.2=0:=by omega
       rw[e0]at h3
       have hyk:y<B ^ k:=Ay.1 (by omega)
       rw[Al_ hyk]at h3
       have hsum:x % B ^ k+y<B ^ k:=by
        rcases Nat.lt_or_ge (x % B ^ k+y) (B ^ k) with h | h
        · exact h
        · have:=Nat.div_pos h (Bp k);omega
       have e1:nv s.1=x % B ^ k+y:=by rw[h2,Nat.add_mod,Al_ hyk,Al_ hsum]
       have hs:nv (s.1++(lb x).drop k)=x+y:=by
        rw[G0,h1,Wj,Bn,e1]
        have:=Nat.mod_add_div x (B ^ k)
        omega
       rw[← hs,DL (fun j hj=>by rw[hs];have:=BA (x:=x) (k:=j) (by omega);omega)];rfl
     · rw[gy]at Cf go lb'
       refine Ad (Ad (Aa (KF _ 0 s.2 la Bu lc) (Ad (Ad ?_))))
       simp only[Ag,Cl,Ak,Cf]
       exact go)
  N 0 ([],0) (by omega) (by omega) ⟨rfl,by simp[Nat.mod_one],by simp[Nat.mod_one]⟩
 exact key
theorem KW(l:List D):l.take (Alh l.length (D.int 0)).length++(Alh l.length (D.int 0)).drop l.length=l:=by simp
theorem Aed(a b:List Ao)(ha:a.length≤100000)(hb:b.length≤100000):Sp 325 [dL a,dL b] [dL (lb (nv a+nv b))]:=by
 refine Af 100001 (Aee _ _ _) (Aa (E9 a (by omega)) (Aa (E9 b (by omega)) ?_))
 have la:(lb (nv a)).length≤a.length:=Ay.2 (B6 a)
 have lb_:(lb (nv b)).length≤b.length:=Ay.2 (B6 b)
 have c1:=KW ((lb (nv a)).map dB)
 have c2:=KW ((lb (nv b)).map dB)
 simp only[Ali]at c1 c2
 simp only[Ag,Bx,Ali,Aln,c1,c2]
 refine Ae (fun h=> ?_) (fun h=> ?_)
 · rw[As (by omega) (by omega)]
   refine Ad (Ad (Av (by simp only[Aj];omega) ?_))
   rw[Nat.add_comm (nv a)]
   exact PU (nv b) (nv a) 100001 (by omega) (by omega) (by omega)
 · rw[As (by omega) (by omega)]
   refine Ad (Ad (Av (by simp only[Aj];omega) ?_))
   exact PU (nv a) (nv b) 100001 (by omega) (by omega) (by omega)
theorem QA(a b:List Ao)(ha:a.length≤100000)(hb:b.length≤100000):Sp 326 [dL a,dL b] [dL (lb (nv a-nv b)),.bool (decide (nv b≤nv a))]:=by
 refine Af 100001 (Aem _ _ _) (Aa (Qs a b (by omega) (by omega)) ?_)
 simp only[Ag,Ak]
 refine Ae (fun h=>Ac ?_) (fun h=>Aa (Gz a (by omega)) (Aa (E9 b (by omega)) ?_))
 · have hlt:nv a<nv b:=by
    unfold Dj at h
    rcases Nat.lt_or_ge (nv a) (nv b) with h1 | h1
    · exact h1
    · rw[if_neg (by omega)]at h;split at h <;> omega
   rw[Nat.sub_eq_zero_of_le (by omega),Cs,decide_eq_false (by omega)];rfl
 have hge:nv b≤nv a:=by
   unfold Dj at h
   rcases Nat.lt_or_ge (nv a) (nv b) with h1 | h1
   · rw[if_pos h1]at h;omega
   · exact h1
 rw[decide_eq_true hge]
 have la:(lb (nv a)).length≤a.length:=Ay.2 (B6 a)
 have lb_:(lb (nv b)).length≤(lb (nv a)).length:=Ay.2 (by have:=Ay.1 (Als (lb (nv a)).length);omega)
 simp only[Ag,Bx,Ali]
 generalize nv a=x at *
 generalize nv b=y at *
 have hx:x<B ^ (lb x).length:=Ay.1 (Als _)
 have fin : ∀ l:List Ao,l.length≤100000→nv l=x-y→Tw (.call 321 [] [D.sl (l.map dB)] fun Y5=> .ret [qA Y5,D.bool true]) [dL (lb (x-y)),.bool true]:=fun l hl he=>Aa (E9 l (by omega)) (Ac (by rw[he];rfl))
 have key:=Da (lb x).length (fun m k (s:List Ao×Nat)=>Qu 100001 m (dL (lb y)) ((s.1++(lb x).drop k).map dB) (s.2:Int) ((lb x).length:Int) (k:Int)) (fun _ _=>[dL (lb (x-y)),.bool true])
   (fun k s=>s.1.length=k∧nv s.1=(x-y) % B ^ k∧s.2=((x-y) % B ^ k+y % B ^ k) / B ^ k)
   (fun m s ⟨h1,h2,h3⟩=>by
    simp only[PZ,List.drop_length,Al2,Ah]
    refine Aq (fin s.1 (by omega) ?_)
    rw[h2,Al_ (by omega)])
   (fun m k s hk ⟨h1,h2,h3⟩ ih=>by
    obtain ⟨zi,c,c',e1,e2,e3,e4,e5⟩:=YK hge k
    have la:=Al9 (x / B ^ k) Bu
    have lb':=Al9 (y / B ^ k) Bu
    have lz:=Al9 ((x-y) / B ^ k) Bu
    rw[← e1]at lz
    rw[← e2]at h3
    have lc:c≤1:=by
      rw[e2]
      have r1:=Al9 (x-y) (Bp k)
      have r2:=Al9 y (Bp k)
      have:((x-y) % B ^ k+y % B ^ k) / B ^ k<2:=by rw[Amm (Bp k)];omega
      omega
    have hlen:(s.1++(lb x).drop k).length=(lb x).length:=by simp[h1];omega
    have gx:=Ds (lb x) k hk
    rw[Bn]at gx
    have B9:((s.1++(lb x).drop k).map dB).getD k D.nil=D.int ((x / B ^ k % B:Nat):Int):=by rw[Ar (SL h1 hk),← gx];rfl
    have Cf:((s.1++(lb x).drop k).map dB).set k (D.int (zi:Int))=((s.1++[Al0 32 zi])++(lb x).drop (k+1)).map dB:=by
      rw[D6 lz,map_set,SM _ h1 hk]
    have go:=ih (s.1++[Al0 32 zi],c') ⟨by simp[h1],Qv h1 h2 (by rw[ofNat_lt lz,e1]),e3⟩
    simp only[PZ,Ah,B9,hlen,Bb k,h3]
    refine Ad (Ae (fun hb'=> ?_) (fun hb'=> ?_))
    · have gy:=Ds (lb y) k (by omega)
      rw[Bn]at gy
      rw[Ar (Alg (show k<(lb y).length by omega)),D5,gy]
      refine Ad (Ad (Ad (Ad (Aa (KG _ _ c la lb' lc zi c' lz e4 e5) (Ad (Ad ?_))))))
      simp only[Ag,Cl,Ak,Cf]
      exact go
    · have gy:=EL (lb y) k (by omega)
      rw[Bn]at gy
      refine Ae (fun h0=> ?_) (fun h0=> ?_)
      · have e0:c=0:=by omega
        rw[e0]at e2
        have hyk:y<B ^ k:=Ay.1 (by omega)
        rw[Al_ hyk]at e2
        have hsum:(x-y) % B ^ k+y<B ^ k:=by
         rcases Nat.lt_or_ge ((x-y) % B ^ k+y) (B ^ k) with h | h
         · exact h
         · have:=Nat.div_pos h (Bp k);omega
        have q1:=Nat.mod_add_div (x-y) (B ^ k)
        have q2:x=((x-y) % B ^ k+y)+B ^ k*((x-y) / B ^ k):=by omega
        have q3:x / B ^ k=(x-y) / B ^ k:=by
         have:x / B ^ k=(((x-y) % B ^ k+y)+B ^ k*((x-y) / B ^ k)) / B ^ k:=by rw[← q2]
         rw[this,Nat.add_mul_div_left _ _ (Bp k),Nat.div_eq_of_lt hsum,Amn]
        refine fin _ (by rw[hlen];omega) ?_
        rw[G0,h1,Wj,Bn,h2,q3];exact q1
      · rw[gy]at e5
        refine Ad (Ad (Aa (KG _ 0 c la Bu lc zi c' lz e4 e5) (Ad (Ad ?_))))
        simp only[Ag,Cl,Ak,Cf]
        exact go)
   100001 0 ([],0) (by omega) (by omega) ⟨rfl,by simp[Nat.mod_one],by simp[Nat.mod_one]⟩
 exact key
theorem Aeb{x y o c:Nat}(hx:x<B)(hy:y<B)(ho:o<B)(hc:c<B):x*y+o+c<18446744073709551616∧x*y<18446744073709551616∧x*y+o<18446744073709551616:=by
 have h1:x*y≤(B-1)*(B-1):=Nat.mul_le_mul (by omega) (by omega)
 rw[Aw]at *
 omega
theorem Aej(a b:List Ao)(ha:a.length≤100000)(hb:b.length≤100000):Sp 303 [dL a,dL b] [dL (lb (nv a*nv b))]:=by
 refine Af 100001 (Aek _ _ _) (Aa (E9 a (by omega)) (Aa (E9 b (by omega)) ?_))
 have la:(lb (nv a)).length≤a.length:=Ay.2 (B6 a)
 have lb_:(lb (nv b)).length≤b.length:=Ay.2 (B6 b)
 simp only[Ag,Bx,Ali,Cc]
 generalize nv a=x at *
 generalize nv b=y at *
 refine Ae (fun h=>Ac ?_) (fun h=>Ae (fun h'=>Ac ?_) (fun h'=> ?_))
 · have:x=0:=F_.1 (by omega)
   rw[this,Nat.zero_mul,Cs];rfl
 · have:y=0:=F_.1 (by omega)
   rw[this,Nat.mul_zero,Cs];rfl
 have hm:(lb y).length=(lb y).length:=rfl
 generalize hmm:(lb y).length=mm at *
 rw[As (by omega) (by omega)]
 refine Ad (Ad (Av (by simp only[Aj];omega) ?_))
 have hyB:y<B ^ mm:=Ay.1 (by omega)
 have hxB:x<B ^ (lb x).length:=Ay.1 (Als _)
 rw[show ((lb x).length:Int)+(mm:Int)=(((lb x).length+mm:Nat):Int) by omega,Aln]
 have key:=Da (lb x).length (fun m i (lo:List Ao)=>V4 100001 m (dL (lb y)) ((lo++Alh ((lb x).length-i) 0).map dB) (dL (lb x)) ((lb x).length:Int) (i:Int)) (fun _ _=>[dL (lb (x*y))])
   (fun i lo=>lo.length=i+mm∧nv lo=(x % B ^ i)*y)
   (fun m lo ⟨h1,h2⟩=>by
    simp only[PY,Nat.sub_self,List.replicate_zero,Al2,Ah]
    refine Aq (Aa (E9 lo (by omega)) (Ac ?_))
    rw[h2,Al_ hxB];rfl)
   (fun m i lo hi ⟨h1,h2⟩ ih=>by
    have gx:=Ds (lb x) i hi
    rw[Bn]at gx
    have xl:x / B ^ i % B<B:=Al9 _ Bu
    have gX:((lb x).map dB).getD i D.nil=D.int ((x / B ^ i % B:Nat):Int):=by rw[Ar (Alg hi),← gx];rfl
    simp only[PY,Ah,gX,hmm]
    refine Ad (Ad (Ad ?_))
    have hxs:x % B ^ (i+1)=x % B ^ i+B ^ i*(x / B ^ i % B):=Nat.mod_pow_succ
    generalize x / B ^ i % B=xi at *
    have key:=Da mm (fun m' j (s:List Ao×Nat)=>V3 100001 m m' (dL (lb y)) ((s.1++Alh ((lb x).length-i) 0).map dB) (i:Int) (xi:Int) (s.2:Int) (dL (lb x)) ((lb x).length:Int) (i:Int) (dL (lb y)) (mm:Int) (j:Int)) (fun _ _=>[dL (lb (x*y))])
     (fun j s=>s.1.length=i+mm∧s.2<B∧nv s.1+B ^ (i+j)*s.2=nv lo+B ^ i*(xi*(y % B ^ j)))
     (fun m' s ⟨g1,g2,g3⟩=>by
      have ew:Ale .i64 ((i:Int)+(mm:Int))=((i+mm:Nat):Int):=by rw[As (by omega) (by omega)];omega
      have hB:=Aw
      have ec:Ale .u32 (s.2:Int)=(s.2:Int):=Ey (by omega) (by omega)
      have hlen:(s.1++Alh ((lb x).length-i) (0:Ao)).length=(lb x).length+mm:=by simp[g1];omega
      simp only[PX,Ah,hmm,ew,ec,hlen,Bb i]
      refine Aq (Ad (Ad ?_))
      have Cf:((s.1++Alh ((lb x).length-i) 0).map dB).set (i+mm) (D.int (s.2:Int))=((s.1++[Al0 32 s.2])++Alh ((lb x).length-(i+1)) 0).map dB:=by
       rw[D6 g2,map_set,List.set_append_right _ _ (by omega),g1,Nat.sub_self,show (lb x).length-i=((lb x).length-(i+1))+1 by omega,List.replicate_succ,List.set_cons_zero];simp
      rw[Cf]
      refine ih _ ⟨by simp[g1];omega,?_⟩
      rw[Ic,g1,ofNat_lt g2,g3,h2,Al_ hyB,hxs,Nat.add_mul,Nat.mul_assoc])
     (fun m' j s hj ⟨g1,g2,g3⟩ ih'=>by
      have gy:=Ds (lb y) j (by omega)
      rw[Bn]at gy
      have yl:y / B ^ j % B<B:=Al9 _ Bu
      have gY:((lb y).map dB).getD j D.nil=D.int ((y / B ^ j % B:Nat):Int):=by rw[Ar (Alg (by omega)),← gy];rfl
      have hys:y % B ^ (j+1)=y % B ^ j+B ^ j*(y / B ^ j % B):=Nat.mod_pow_succ
      have hij:i+j<s.1.length:=by omega
      have ew:Ale .i64 ((i:Int)+(j:Int))=((i+j:Nat):Int):=by rw[As (by omega) (by omega)];omega
      have hlen:(s.1++Alh ((lb x).length-i) (0:Ao)).length=(lb x).length+mm:=by simp[g1];omega
      have gO:((s.1++Alh ((lb x).length-i) 0).map dB).getD (i+j) D.nil=D.int ((s.1[i+j]).toNat:Int):=by rw[Ar (x:=s.1[i+j]) (by rw[Al5 hij,Alg hij])];rfl
      simp only[PX,Ah,ew,gO,gY,hlen,Bb j]
      generalize y / B ^ j % B=yj at *
      have ol:=Ed (s.1[i+j])
      have hns:=AeP s.1 (i+j) hij (Al0 32 ((xi*yj+(s.1[i+j]).toNat+s.2) % B))
      have hmd:=Al9 (xi*yj+(s.1[i+j]).toNat+s.2) Bu
      rw[ofNat_lt hmd]at hns
      generalize hoo:(s.1[i+j]).toNat=o at *
      have hbd:=Aeb xl yl ol g2
      have hB:=Aw
      have t0:Ale .u64 (xi:Int)=(xi:Int):=Bq (by omega) (by omega)
      have t0':Ale .u64 (yj:Int)=(yj:Int):=Bq (by omega) (by omega)
      have t0'':Ale .u64 (o:Int)=(o:Int):=Bq (by omega) (by omega)
      have t1:Ale .u64 ((xi:Int)*(yj:Int))=((xi*yj:Nat):Int):=by rw[← Int.natCast_mul];exact Bq (by omega) (by omega)
      have t2:Ale .u64 (((xi*yj:Nat):Int)+(o:Int))=((xi*yj+o:Nat):Int):=by rw[Bq (by omega) (by omega)];omega
      have t3:Ale .u64 (((xi*yj+o:Nat):Int)+(s.2:Int))=((xi*yj+o+s.2:Nat):Int):=by rw[Bq (by omega) (by omega)];omega
      simp only[t0,t0',t0'',t1,t2,t3,Ni]
      have t4:Ale .u32 ((xi*yj+o+s.2:Nat):Int)=(((xi*yj+o+s.2) % B:Nat):Int):=by rw[IntKind.wrap_u32,Aw];omega
      have Cf:((s.1++Alh ((lb x).length-i) 0).map dB).set (i+j) (D.int (((xi*yj+o+s.2) % B:Nat):Int))=((s.1.set (i+j) (Al0 32 ((xi*yj+o+s.2) % B)))++Alh ((lb x).length-i) 0).map dB:=by
       rw[D6 hmd,map_set,List.set_append_left _ _ hij]
      rw[t4,Cf]
      refine Ad (Ad (Ad (Ad (Ad (Ad (Ad (Ax (by decide) ?_)))))))
      have hcl:(xi*yj+o+s.2) / 4294967296<B:=by rw[Aw];omega
      refine ih' (s.1.set (i+j) (Al0 32 ((xi*yj+o+s.2) % B)),(xi*yj+o+s.2) / 4294967296) ⟨by simp[g1],hcl,?_⟩
      show nv (s.1.set (i+j) _)+B ^ (i+(j+1))*((xi*yj+o+s.2) / B)=_
      have q1:B ^ (i+(j+1))*((xi*yj+o+s.2) / B)=B ^ (i+j)*(B*((xi*yj+o+s.2) / B)):=by rw[← Nat.add_assoc,Amk,Nat.mul_assoc]
      have q2:B ^ (i+j)*((xi*yj+o+s.2) % B)+B ^ (i+j)*(B*((xi*yj+o+s.2) / B))=B ^ (i+j)*(xi*yj+o+s.2):=by rw[← Nat.mul_add,Nat.mod_add_div]
      have q3:B ^ (i+j)*(xi*yj+o+s.2)=B ^ (i+j)*(xi*yj)+B ^ (i+j)*o+B ^ (i+j)*s.2:=by rw[Nat.mul_add,Nat.mul_add]
      have q4:B ^ i*(xi*(y % B ^ (j+1)))=B ^ i*(xi*(y % B ^ j))+B ^ (i+j)*(xi*yj):=by
       rw[hys,Nat.mul_add,Nat.mul_add,Nat.pow_add,Nat.mul_left_comm xi,Nat.mul_assoc]
      rw[q1,q4]
      omega)
     100001 0 (lo,0) (by omega) (by omega) ⟨h1,Bu,by simp[Nat.mod_one]⟩
    exact key)
   100001 0 (Alh mm 0) (by omega) (by omega) ⟨by simp,by rw[Wk];simp[Nat.mod_one]⟩
 have e0:(Alh mm (0:Ao)++Alh ((lb x).length-0) 0).map dB=Alh ((lb x).length+mm) (D.int 0):=by
   rw[List.replicate_append_replicate,List.map_replicate,show mm+((lb x).length-0)=(lb x).length+mm by omega];rfl
 rw[e0]at key
 exact key
theorem Wq{r d:Nat}(hr:r<4294967296)(hd:d<4294967296):Bj .or .u64 ((r*4294967296:Nat):Int) (d:Int)=((r*4294967296+d:Nat):Int):=by
 have h:=EY hd hr
 have hc:Bj .or .u64 ((r*4294967296:Nat):Int) (d:Int)=Bj .or .u64 (d:Int) ((r*4294967296:Nat):Int):=by unfold Bj;simp only;rw[BitVec.or_comm]
 rw[hc,h,Nat.add_comm]
theorem Aet(l:List Ao)(y:Nat)(hy:0<y)(hyB:y<B)(hl:l.length≤1000000) : ∃ q:List Ao,q.length=l.length∧nv q=nv l / y∧Sp 331 [.sl (l.map dB),.int (y:Int)] [.int ((nv l % y:Nat):Int),.sl (q.map dB)]:=by
 have hq : ∃ q:List Ao,q.length=l.length∧nv q=nv l / y:=by
  have h1:nv l / y<B ^ l.length:=Nat.lt_of_le_of_lt (Nat.div_le_self _ _) (B6 l)
  have h2:=Ay.2 h1
  refine ⟨lb (nv l / y)++Alh (l.length-(lb (nv l / y)).length) 0,by simp;omega,?_⟩
  rw[G0,Wk,Bn];simp
 obtain ⟨q0,hq1,hq2⟩:=hq
 refine ⟨q0,hq1,hq2,Af (l.length+1) (Aeu _ _ _) ?_⟩
 simp only[Dp,Ak,Ali]
 have uniq : ∀ q:List Ao,q.length=l.length→nv q=nv l / y→q=q0:=by
  intro q h1 h2
  apply List.ext_getElem (by omega)
  intro i g1 g2
  apply BitVec.eq_of_toNat_eq
  rw[Ds q i g1,Ds q0 i g2,h2,hq2]
 have key:=H_ (P:=Tryz.prog) (md:=md) (fun m k (s:List Ao×Nat)=>V9 (l.length+1) m ((l.take k++s.1).map dB) (y:Int) (s.2:Int) ((k:Int)-1)) (fun _ _=>[.int ((nv l % y:Nat):Int),.sl (q0.map dB)])
  (fun k s=>k≤l.length∧s.1.length=l.length-k∧nv s.1=nv l / B ^ k / y∧s.2=nv l / B ^ k % y)
  (fun m s ⟨h0,h1,h2,h3⟩=>by
   simp only[QC,List.take_zero,Amo]
   refine Aq (Ac ?_)
   simp at h2 h3
   rw[uniq s.1 (by omega) h2,h3]
   have:=Al9 (nv l) hy
   rw[Aw]at hyB
   rw[Ey (by omega) (by omega)])
  (fun m k s ⟨h0,h1,h2,h3⟩ ih=>by
   have hk:k<l.length:=by omega
   have hlen:((l.take (k+1)++s.1).map dB).length=l.length:=by simp;omega
   have gd:=Ds l k hk
   have B9:((l.take (k+1)++s.1).map dB).getD k D.nil=D.int ((l[k]).toNat:Int):=by rw[Ar (x:=l[k]) (by rw[Al5 (by simp;omega),List.getElem?_take,if_pos (by omega),Alg hk])];rfl
   have hs2:s.2<y:=by rw[h3];exact Al9 _ hy
   have dl:=Ed l[k]
   have hQ:nv l / B ^ k=B*(nv l / B ^ (k+1))+(l[k]).toNat:=by
    rw[gd,Amk,← Nat.div_div_eq_div_mul];exact (Nat.div_add_mod _ _).symm
   generalize hdd:(l[k]).toNat=d at *
   have e1:=Nat.div_add_mod (nv l / B ^ (k+1)) y
   rw[← h2,← h3]at e1
   have hQ2:nv l / B ^ k=y*(B*nv s.1)+(s.2*B+d):=by
    rw[hQ,← e1,Nat.mul_add,Nat.mul_left_comm,Ami B s.2];omega
   have hd1:nv l / B ^ k / y=B*nv s.1+(s.2*B+d) / y:=by rw[hQ2,Nat.mul_add_div hy]
   have hd2:nv l / B ^ k % y=(s.2*B+d) % y:=by rw[hQ2,Nat.mul_add_mod]
   have hlt:(s.2*B+d) / y<B:=by
    rw[Amm hy]
    have:(s.2+1)*B≤y*B:=Al1 _ hs2
    rw[Nat.add_mul,Nat.one_mul]at this
    rw[Ami B y];omega
   rw[Aw]at hyB dl hlt
   have b64:(2:Int) ^ (min (Alf 32) (Alq .u64))=4294967296:=by decide
   have t1:Ale .u64 ((s.2:Int)*4294967296)=((s.2*4294967296:Nat):Int):=by rw[Bq (by omega) (by omega)];omega
   have t2:Ale .u64 (d:Int)=(d:Int):=Bq (by omega) (by omega)
   have t3:Ale .u64 (y:Int)=(y:Int):=Bq (by omega) (by omega)
   have t4:Ale .u64 (Int.tdiv ((s.2*4294967296+d:Nat):Int) (y:Int))=(((s.2*4294967296+d) / y:Nat):Int):=by
    rw[show Int.tdiv ((s.2*4294967296+d:Nat):Int) (y:Int)=(((s.2*4294967296+d) / y:Nat):Int) from rfl]
    generalize (s.2*4294967296+d) / y=qq at hlt ⊢
    exact Bq (by omega) (by omega)
   have t5:Int.tmod ((s.2*4294967296+d:Nat):Int) (y:Int)=(((s.2*4294967296+d) % y:Nat):Int):=rfl
   have t6:Ale .u32 (((s.2*4294967296+d) / y:Nat):Int)=(((s.2*4294967296+d) / y:Nat):Int):=by
    generalize (s.2*4294967296+d) / y=qq at hlt ⊢
    exact Ey (by omega) (by omega)
   simp only[QC,show ((k+1:Nat):Int)-1=(k:Int) by omega,Aln,B9,hlen,Ak,b64,t1,t2,t3,Wq (show s.2<4294967296 by omega) dl,t4,t5,t6]
   have Cf:((l.take (k+1)++s.1).map dB).set k (D.int (((s.2*4294967296+d) / y:Nat):Int))=(l.take k++(Al0 32 ((s.2*4294967296+d) / y)::s.1)).map dB:=by
    rw[D6 hlt,map_set,List.take_succ_eq_append_getElem hk,Al4,List.set_append_right _ _ (by rw[Alw];omega),Alw,Nat.min_eq_left (by omega),Nat.sub_self];rfl
   rw[Cf,As (by omega) (by omega)]
   have hne:(!((y:Int)==0))=true:=by simp;omega
   refine Ad (Ax (by decide) (Ad (Ad (Ax hne (Ad (Ad (Ax hne ?_)))))))
   refine ih (Al0 32 ((s.2*4294967296+d) / y)::s.1,(s.2*4294967296+d) % y) ⟨by omega,by simp;omega,?_,hd2.symm⟩
   rw[nv,ofNat_lt hlt]
   show (s.2*B+d) / y+B*nv s.1=_
   rw[hd1,Nat.add_comm])
  (l.length+1) l.length ([],0) (by omega) ⟨by omega,by simp,by rw[Nat.div_eq_of_lt (B6 l)];simp,by rw[Nat.div_eq_of_lt (B6 l)];simp⟩
 rw[List.take_length,Al2]at key
 rw[As (by omega) (by omega)]
 exact key
def AF(x y:Nat):Prop:=1<(lb y).length→y≤x→Sp 332 [dL (lb x),dL (lb y)] [dL (lb (x / y)),dL (lb (x % y))]
theorem V0(a b:List Ao)(ha:a.length≤100000)(hb:b.length≤100000)(hL:AF (nv a) (nv b)):Sp 323 [dL a,dL b] [dL (lb (nv a / nv b)),dL (lb (if nv b=0 then 0 else nv a % nv b)),.bool (decide (nv b≠0))]:=by
 refine Af 0 (Aeg _ _ _) (Aa (E9 a (by omega)) (Aa (E9 b (by omega)) ?_))
 have la:(lb (nv a)).length≤a.length:=Ay.2 (B6 a)
 have lb_:(lb (nv b)).length≤b.length:=Ay.2 (B6 b)
 simp only[Ag,Bx,Ali,Cc]
 refine Ae (fun h=>Ac ?_) (fun h=> ?_)
 · have h0:nv b=0:=F_.1 (by omega)
   rw[h0,Nat.div_zero,if_pos rfl,Cs];rfl
 have h0:nv b≠0:=fun hh=>h (by rw[hh,Cs];rfl)
 rw[if_neg h0,decide_eq_true h0]
 have cm:=Qs (lb (nv a)) (lb (nv b)) (by omega) (by omega)
 rw[Bn,Bn]at cm
 refine Aa cm ?_
 simp only[Ag,Ak]
 refine Ae (fun h1=> ?_) (fun h1=> ?_)
 · have hlt:nv a<nv b:=by
    unfold Dj at h1
    rcases Nat.lt_or_ge (nv a) (nv b) with h2 | h2
    · exact h2
    · rw[if_neg (by omega)]at h1;split at h1 <;> omega
   have nm:=Gz (lb (nv a)) (by omega)
   rw[Bn]at nm
   refine Aa nm (Ac ?_)
   rw[Nat.div_eq_of_lt hlt,Al_ hlt,Cs];rfl
 have hge:nv b≤nv a:=by
   unfold Dj at h1
   rcases Nat.lt_or_ge (nv a) (nv b) with h2 | h2
   · rw[if_pos h2]at h1;omega
   · exact h2
 refine Ae (fun h2=> ?_) (fun h2=> ?_)
 · obtain ⟨d,hd⟩ : ∃ d,lb (nv b) = [d]:=by
    match hh:lb (nv b) with
    | [d]=>exact ⟨d,rfl⟩
    | []=>rw[hh]at h2;simp at h2
    | _::_::_=>rw[hh]at h2;simp at h2;omega
   have hbv:nv b=d.toNat:=by rw[← Bn (nv b),hd];simp[nv]
   have nm:=Gz (lb (nv a)) (by omega)
   rw[Bn]at nm
   refine Aa nm ?_
   simp only[hd,Aml,List.map_nil,All,Alz,Int.toNat_zero,Ag,Bx,D5]
   rw[← hbv]
   have hdB:nv b<B:=by rw[hbv];exact Ed d
   obtain ⟨q,q1,q2,q3⟩:=Aet (lb (nv a)) (nv b) (by omega) hdB (by omega)
   rw[Bn]at q2 q3
   refine Ad (Ad (Aa q3 ?_))
   have hr:nv a % nv b<B:=Ame (Al9 _ (by omega)) (by omega)
   simp only[Ag,Cl,Dp,Ak]
   refine Aa (E9 q (by omega)) ?_
   rw[D6 hr]
   refine Aa (Gz [Al0 32 (nv a % nv b)] (by simp)) (Ac ?_)
   have e:nv [Al0 32 (nv a % nv b)]=nv a % nv b:=by simp only[nv];rw[ofNat_lt hr];omega
   rw[e,q2];rfl
 · exact Aa (hL (by omega) hge) (Ac rfl)
theorem K7(z:Int):(Fa z = -1∧z<0)∨(Fa z=0∧z=0)∨(Fa z=1∧0<z):=by
 unfold Fa
 by_cases h1:z<0
 · exact .inl ⟨if_pos h1,h1⟩
 · by_cases h2:z=0
   · exact .inr (.inl ⟨by rw[if_neg h1,if_pos h2],h2⟩)
   · exact .inr (.inr ⟨by rw[if_neg h1,if_neg h2],by omega⟩)
theorem Z9(a:Wh)(h:a.mag.length≤1000000):Sp 301 [dW a] [.int (Fa (zv a))]:=by
 refine Af 0 (AkN _ _) ?_
 have cm:=Qs a.mag [] h (by simp)
 simp only[E5,Ep,Az]
 refine Aa cm ?_
 simp only[Ag,Ak,Cc,EM]
 unfold Fa zv Dj
 refine Ae (fun h0=>Ac ?_) (fun h0=>Ch (fun h1=>Ac ?_) (fun h1=>Ac ?_))
 · have:nv a.mag=0:=by
    rw[if_neg (by omega)]at h0
    split at h0
    · assumption
    · omega
   rw[this];cases a.neg <;> simp
 · have:nv a.mag≠0:=fun hh=>h0 (by rw[hh];simp)
   rw[if_pos (by rw[if_pos h1];omega)]
 · have:nv a.mag≠0:=fun hh=>h0 (by rw[hh];simp)
   rw[if_neg (by rw[if_neg (by simp[h1])];omega),if_neg (by rw[if_neg (by simp[h1])];omega)]
theorem ZP(a b:Wh)(ha:a.mag.length≤1000000)(hb:b.mag.length≤1000000):Sp 253 [dW a,dW b] [.int (Cg (zv a) (zv b))]:=by
 refine Af 0 (AkG _ _ _) (Aa (Z9 a ha) (Aa (Z9 b hb) ?_))
 simp only[Ag,Ak,Ep]
 have za:=Kh a
 have zb:=Kh b
 refine Ae (fun h=>Ac ?_) (fun h=>Ae (fun h'=>Ac ?_) (fun h'=>Ae (fun h2=>Aa (Qs b.mag a.mag hb ha) (Ac ?_)) (fun h2=>Aa (Qs a.mag b.mag ha hb) (Ac ?_))))
 · have:zv a<zv b:=by rcases K7 (zv a) with h1 | h1 | h1 <;> rcases K7 (zv b) with h2 | h2 | h2 <;> omega
   rw[Cg,if_pos this]
 · have:zv b<zv a:=by rcases K7 (zv a) with h1 | h1 | h1 <;> rcases K7 (zv b) with h2 | h2 | h2 <;> omega
   rw[Cg,if_neg (by omega),if_neg (by omega)]
 · have h3:zv a<0∧zv b<0:=by rcases K7 (zv a) with h1 | h1 | h1 <;> rcases K7 (zv b) with h2 | h2 | h2 <;> omega
   simp only[Ag,Ak]
   have:Dj (nv b.mag) (nv a.mag)=Cg (zv a) (zv b):=by
    unfold Dj Cg
    by_cases g1:nv b.mag<nv a.mag
    · rw[if_pos g1,if_pos (show zv a<zv b by omega)]
    · rw[if_neg g1,if_neg (show ¬ zv a<zv b by omega)]
      by_cases g2:nv b.mag=nv a.mag
      · rw[if_pos g2,if_pos (show zv a=zv b by omega)]
      · rw[if_neg g2,if_neg (show ¬ zv a=zv b by omega)]
   rw[this]
 · have h3:0≤zv a∧0≤zv b:=by rcases K7 (zv a) with h1 | h1 | h1 <;> rcases K7 (zv b) with h2 | h2 | h2 <;> omega
   simp only[Ag,Ak]
   have:Dj (nv a.mag) (nv b.mag)=Cg (zv a) (zv b):=by
    unfold Dj Cg
    by_cases g1:nv a.mag<nv b.mag
    · rw[if_pos g1,if_pos (show zv a<zv b by omega)]
    · rw[if_neg g1,if_neg (show ¬ zv a<zv b by omega)]
      by_cases g2:nv a.mag=nv b.mag
      · rw[if_pos g2,if_pos (show zv a=zv b by omega)]
      · rw[if_neg g2,if_neg (show ¬ zv a=zv b by omega)]
   rw[this]
theorem IT(a b:Wh)(ha:a.mag.length≤100000)(hb:b.mag.length≤100000):Sp 313 [dW a,dW b] [dW (wz (zv a+zv b))]:=by
 refine Af 0 (AkF _ _ _) ?_
 simp only[E5,Ep,Az,Pl]
 refine Ae (fun h=>Aa (Aed a.mag b.mag ha hb) (Aa (Ke a.neg _) (Ac ?_))) (fun h=>Aa (QA a.mag b.mag ha hb) ?_)
 · have:(if a.neg=true then -((nv a.mag+nv b.mag:Nat):Int) else ((nv a.mag+nv b.mag:Nat):Int))=zv a+zv b:=by
    unfold zv;rw[← h];cases a.neg <;> simp <;> omega
   rw[Ag,this]
 simp only[Ag,Cl,Az]
 refine Ae (fun h1=>Aa (Ke a.neg _) (Ac ?_)) (fun h1=>Aa (QA b.mag a.mag hb ha) (Aa (Ke b.neg _) (Ac ?_)))
 · have:(if a.neg=true then -((nv a.mag-nv b.mag:Nat):Int) else ((nv a.mag-nv b.mag:Nat):Int))=zv a+zv b:=by
    unfold zv;cases ea:a.neg <;> cases eb:b.neg <;> simp[ea,eb]at h ⊢ <;> omega
   rw[Ag,this]
 · have:(if b.neg=true then -((nv b.mag-nv a.mag:Nat):Int) else ((nv b.mag-nv a.mag:Nat):Int))=zv a+zv b:=by
    unfold zv;cases ea:a.neg <;> cases eb:b.neg <;> simp[ea,eb]at h ⊢ <;> omega
   rw[Ag,this]
theorem AkY(b:Wh):zv ⟨!b.neg,b.mag⟩ = -zv b:=by unfold zv;cases b.neg <;> simp
theorem AkQ(a b:Wh)(ha:a.mag.length≤100000)(hb:b.mag.length≤100000):Sp 324 [dW a,dW b] [dW (wz (zv a-zv b))]:=by
 refine Af 0 (AkR _ _ _) ?_
 simp only[E5,Ep,Az,AbC]
 refine Aa (IT a ⟨!b.neg,b.mag⟩ ha hb) (Ac ?_)
 rw[AkY,← Int.sub_eq_add_neg];rfl
theorem AkZ(a b:Wh):(if (!(a.neg == b.neg))=true then -((nv a.mag*nv b.mag:Nat):Int) else ((nv a.mag*nv b.mag:Nat):Int))=zv a*zv b:=by
 unfold zv;cases a.neg <;> cases b.neg <;> simp[Int.neg_mul,Int.mul_neg,Int.natCast_mul]
theorem Hy(a b:Wh)(ha:a.mag.length≤100000)(hb:b.mag.length≤100000):Sp 254 [dW a,dW b] [dW (wz (zv a*zv b))]:=by
 refine Af 0 (AkJ _ _ _) ?_
 simp only[E5,Ep,Az]
 refine Aa (Aej a.mag b.mag ha hb) (Aa (Ke (!(a.neg == b.neg)) _) (Ac ?_))
 rw[AkZ];rfl
def Dy(x y:Int):Int×Int :=
 if (x<0)=(y<0) then (((x.natAbs / y.natAbs:Nat):Int),if x<0 then -((x.natAbs % y.natAbs:Nat):Int) else ((x.natAbs % y.natAbs:Nat):Int))
 else if x.natAbs % y.natAbs=0 then (-((x.natAbs / y.natAbs:Nat):Int),0)
 else (-((x.natAbs / y.natAbs:Nat):Int)-1,(if x<0 then -((x.natAbs % y.natAbs:Nat):Int) else ((x.natAbs % y.natAbs:Nat):Int))+y)
def CC(x y:Int):List D:=if y=0 then [dW (wz 0),dW (wz 0),.bool false] else [dW (wz (Dy x y).1),dW (wz (Dy x y).2),.bool true]
theorem Sk{w:Wh}(h:nv w.mag≠0):(zv w<0)↔w.neg=true:=by unfold zv;cases w.neg <;> simp <;> omega
theorem Sl{w:Wh} : zv w=0↔nv w.mag=0:=by unfold zv;cases w.neg <;> simp
theorem AbF{a b:Wh}(hb:nv b.mag≠0)(hr:nv a.mag % nv b.mag≠0)(hs:a.neg≠b.neg):Dy (zv a) (zv b)=((if (!(a.neg == b.neg))=true then -((nv a.mag / nv b.mag:Nat):Int) else ((nv a.mag / nv b.mag:Nat):Int))-1,(if a.neg=true then -((nv a.mag % nv b.mag:Nat):Int) else ((nv a.mag % nv b.mag:Nat):Int))+zv b):=by
 have ha:nv a.mag≠0:=fun h=>hr (by rw[h];simp)
 have h1:=Sk ha
 have h2:=Sk hb
 unfold Dy
 rw[Kh,Kh,if_neg (by rw[eq_iff_iff,h1,h2];cases ea:a.neg <;> cases eb:b.neg <;> simp[ea,eb]at hs ⊢),if_neg hr]
 have e1:(!(a.neg == b.neg))=true:=by cases ea:a.neg <;> cases eb:b.neg <;> simp[ea,eb]at hs ⊢
 rw[if_pos e1]
 by_cases h:a.neg=true
 · rw[if_pos (h1.2 h),if_pos h]
 · rw[if_neg (fun hh=>h (h1.1 hh)),if_neg h]
theorem LR{a b:Wh}(hb:nv b.mag≠0)(hr:a.neg=b.neg∨nv a.mag % nv b.mag=0):Dy (zv a) (zv b)=(if (!(a.neg == b.neg))=true then -((nv a.mag / nv b.mag:Nat):Int) else ((nv a.mag / nv b.mag:Nat):Int),if a.neg=true then -((nv a.mag % nv b.mag:Nat):Int) else ((nv a.mag % nv b.mag:Nat):Int)):=by
 have h2:=Sk hb
 unfold Dy
 rw[Kh,Kh]
 by_cases ha:nv a.mag=0
 · have h0:zv a=0:=Sl.2 ha
   rw[h0,ha]
   simp
 · have h1:=Sk ha
   by_cases hs:a.neg=b.neg
   · rw[if_pos (by rw[eq_iff_iff,h1,h2,hs])]
     have e1:(!(a.neg == b.neg))=false:=by rw[hs];simp
     rw[e1]
     by_cases h:a.neg=true
     · rw[if_pos (h1.2 h),if_pos h];simp
     · rw[if_neg (fun hh=>h (h1.1 hh)),if_neg h];simp
   · have h3:=hr.resolve_left hs
     rw[if_neg (by rw[eq_iff_iff,h1,h2];cases ea:a.neg <;> cases eb:b.neg <;> simp[ea,eb]at hs ⊢),if_pos h3,h3]
     have e1:(!(a.neg == b.neg))=true:=by cases ea:a.neg <;> cases eb:b.neg <;> simp[ea,eb]at hs ⊢
     rw[if_pos e1]
     cases a.neg <;> simp
theorem IV{n:Nat}{z:Int}(h:z.natAbs<B ^ n):(wz z).mag.length≤n:=Ay.2 h
theorem AkH(a b:Wh)(ha:a.mag.length≤10000)(hb:b.mag.length≤10000)(hL:AF (nv a.mag) (nv b.mag)):Sp 306 [dW a,dW b] (CC (zv a) (zv b)):=by
 refine Af 0 (AkI _ _ _) ?_
 simp only[E5,Ep,Az]
 refine Aa (V0 a.mag b.mag (by omega) (by omega) hL) ?_
 simp only[Ag,Cl,Uu,Az,Tl,Bx,Ali]
 unfold CC
 refine Ch (fun h=>Ac ?_) (fun h=> ?_)
 · have h0:nv b.mag=0:=by simpa using h
   rw[if_pos (Sl.2 h0)]
 have h0:nv b.mag≠0:=by simpa using h
 rw[if_neg (fun hh=>h0 (Sl.1 hh)),if_neg h0]
 have hq:nv a.mag / nv b.mag<B ^ a.mag.length:=Nat.lt_of_le_of_lt (Nat.div_le_self _ _) (B6 _)
 have hr:nv a.mag % nv b.mag<B ^ b.mag.length:=Ame (Al9 _ (by omega)) (Nat.le_of_lt (B6 _))
 refine Aa (Ke _ (nv a.mag / nv b.mag)) (Aa (Ke a.neg (nv a.mag % nv b.mag)) ?_)
 simp only[Ag]
 refine Ch (fun h1=>Ae (fun h2=> ?_) (fun h2=>Ac ?_)) (fun h1=>Ac ?_)
 · have hr0:nv a.mag % nv b.mag≠0:=fun hh=>by rw[hh,Cs]at h2;simp at h2
   have hs:a.neg≠b.neg:=by simpa using h1
   refine Aa (Se 1 (by unfold Bc;decide)) ?_
   refine Aa (AkQ _ _ (Nat.le_trans (IV (n:=a.mag.length) (by split <;> simp <;> exact hq)) (by omega)) (Nat.le_trans (IV (n:=1) (by simp[Aw])) (by omega))) ?_
   refine Aa (IT _ b (Nat.le_trans (IV (n:=b.mag.length) (by split <;> simp <;> exact hr)) (by omega)) (by omega)) (Ac ?_)
   rw[AbF h0 hr0 hs,Cw,Cw,Cw];rfl
 · have hr0:nv a.mag % nv b.mag=0:=F_.1 (by omega)
   rw[LR h0 (.inr hr0)]
 · rw[LR h0 (.inl (by simpa using h1))]
def Br(z:Int):Nat:=(lb z.natAbs).length
def Jb:Nat→Nat→Int→Int→Int×Int
 | 0,_,out,_=>(out,0)
 | k+1,n,out,base=>if n=0 then (out,0) else if 32<Br base then (0,7) else
  if 32<Br (if n % 2=1 then out*base else out) then (0,7) else
  if n / 2=0 then (if n % 2=1 then out*base else out,0) else Jb k (n / 2) (if n % 2=1 then out*base else out) (base*base)
def Oh(r:Int×Int):List D:=[dW (wz r.1),.int r.2]
theorem H9(x y:Int):Br (x*y)≤Br x+Br y:=by
 unfold Br
 refine Ay.2 ?_
 rw[Int.natAbs_mul,Nat.pow_add]
 exact Nat.mul_lt_mul'' (Ay.1 (Als _)) (Ay.1 (Als _))
theorem Aau(n:Nat)(h:n≤9223372036854775807):Bj .and .i64 (n:Int) 1=((n % 2:Nat):Int):=by
 have b:Alq .i64=64:=rfl
 have h1:n % 2<2:=Al9 _ (by decide)
 have e:(BitVec.ofInt 64 (n:Int)&&&BitVec.ofInt 64 1).toNat=n % 2:=by
  rw[BitVec.ofInt_natCast,show BitVec.ofInt 64 1=Al0 64 1 from rfl,BitVec.toNat_and,BitVec.toNat_ofNat,BitVec.toNat_ofNat,Al_ (show n<2 ^ 64 by omega)]
  exact Nat.and_one_is_mod n
 show Ale .i64 ((BitVec.ofInt 64 (n:Int)&&&BitVec.ofInt 64 1).toNat:Int)=_
 rw[e]
 exact As (x:=((n % 2:Nat):Int)) (by omega) (by omega)
theorem AbY(n:Nat):Al8 (n:Int) (2 ^ (min (Alf 1) (Alq .i64)))=((n / 2:Nat):Int):=by
 rw[show (2:Int) ^ (min (Alf 1) (Alq .i64))=2 by decide,Int.fdiv_eq_ediv_of_nonneg _ (by omega)];omega
def Ky(x n:Int):Int×Int:=if n<0 then (0,3) else Jb 20 n.toNat 1 x
theorem Sf(N:Nat) : ∀ (k m n:Nat) (out base:Int),n<2 ^ k→k<m→n≤1000000→Br out≤100→Br base≤100→Tw (Mt N m (n:Int) false (dW (wz out)) (dW (wz base))) (Oh (Jb k n out base))
 | k,0,n,out,base,hk,hm,_,_,_=>by omega
 | 0,m+1,n,out,base,hk,hm,hn,ho,hb=>by
  have:n=0:=by simp at hk;omega
  subst this
  simp only[ZQ]
  exact Aq (Ac rfl)
 | k+1,m+1,n,out,base,hk,hm,hn,ho,hb=>by
  have hk':n / 2<2 ^ k:=by rw[Amk]at hk;omega
  simp only[ZQ,Ep,Bx,Ali,Aau n (by omega),AbY,Cc,Tl]
  rw[Jb]
  refine Ae (fun h0=> ?_) (fun h0=>Ac ?_)
  · rw[if_neg (by omega)]
    have lo:(wz out).mag.length=Br out:=rfl
    have lb_:(wz base).mag.length=Br base:=rfl
    rw[lb_,lo]
    refine Ae (fun h1=>Ac ?_) (fun h1=> ?_)
    · rw[if_pos (by omega)];rfl
    rw[if_neg (by omega)]
    have m1:=Hy (wz out) (wz base) (by omega) (by omega)
    have m2:=Hy (wz base) (wz base) (by omega) (by omega)
    rw[Cw,Cw]at m1
    rw[Cw]at m2
    have l2:=H9 base base
    refine Ae (fun h2=>Aa m1 ?_) (fun h2=> ?_)
    · rw[if_pos (show n % 2=1 by omega)]
      simp only[Ag,Ep,Bx,Ali]
      have lo':(wz (out*base)).mag.length=Br (out*base):=rfl
      rw[lo']
      refine Ae (fun h3=>Ac (by rw[if_pos (by omega)];rfl)) (fun h3=>Ax (by decide) ?_)
      rw[if_neg (by omega)]
      refine Ae (fun h4=>Aa m2 ?_) (fun h4=> ?_)
      · rw[if_neg (by omega)]
        exact Sf N k m (n / 2) _ _ hk' (by omega) (by omega) (by omega) (by omega)
      · rw[if_pos (by omega)]
        have e0:n / 2=0:=by omega
        rw[e0]
        have:=Sf N k m 0 (out*base) base (Nat.pow_pos (by decide)) (by omega) (by omega) (by omega) hb
        have e1:Jb k 0 (out*base) base=(out*base,0):=by cases k <;> simp[Jb]
        rw[e1]at this;exact this
    · rw[if_neg (show ¬ n % 2=1 by omega)]
      refine Ae (fun h3=>Ac (by rw[if_pos (by omega)];rfl)) (fun h3=>Ax (by decide) ?_)
      rw[if_neg (by omega)]
      refine Ae (fun h4=>Aa m2 ?_) (fun h4=> ?_)
      · rw[if_neg (by omega)]
        exact Sf N k m (n / 2) _ _ hk' (by omega) (by omega) (by omega) (by omega)
      · rw[if_pos (by omega)]
        have e0:n / 2=0:=by omega
        rw[e0]
        have:=Sf N k m 0 out base (Nat.pow_pos (by decide)) (by omega) (by omega) (by omega) hb
        have e1:Jb k 0 out base=(out,0):=by cases k <;> simp[Jb]
        rw[e1]at this;exact this
  · rw[if_pos (by omega)];rfl
theorem Z8(a:Wh)(n:Int)(ha:a.mag.length≤100)(hn:n≤1000000):Sp 314 [dW a,.int n] (Oh (Ky (zv a) n)):=by
 refine Af 21 (AkM _ _ _) ?_
 simp only[Ak,Tl]
 unfold Ky
 refine Ae (fun h=>Ac (by rw[if_pos h];rfl)) (fun h=>Aa (Se 1 (by unfold Bc;decide)) (Aa (Z6 a (by omega)) ?_))
 rw[if_neg h]
 obtain ⟨k,rfl⟩ : ∃ k:Nat,n=(k:Int):=⟨n.toNat,by omega⟩
 rw[Aln]
 have l1:Br 1≤1:=Ay.2 (by decide)
 have l2:Br (zv a)≤100:=Nat.le_trans (G_ a) ha
 exact Sf 21 20 21 k 1 (zv a) (by omega) (by omega) (by omega) (by omega) l2
open Go.RowKit
theorem AM(n:Nat)(h:n<4294967296):Bj .and .u64 (n:Int) 4294967295=(n:Int):=by
 have e:(BitVec.ofInt 64 (n:Int)&&&BitVec.ofInt 64 4294967295).toNat=n:=by
  rw[BitVec.ofInt_natCast,show BitVec.ofInt 64 4294967295=Al0 64 4294967295 from rfl,BitVec.toNat_and,BitVec.toNat_ofNat,BitVec.toNat_ofNat,Al_ (show n<2 ^ 64 by omega)]
  show n&&&(2 ^ 32-1)=n
  rw[Nat.and_two_pow_sub_one_eq_mod];exact Al_ h
 show Ale .u64 ((BitVec.ofInt 64 (n:Int)&&&BitVec.ofInt 64 4294967295).toNat:Int)=_
 rw[e]
 exact Bq (by omega) (by omega)
theorem AdZ(y:Nat)(h:y<4294967296):Sp 271 [.int 1,.int (y:Int)] [.int 0,.int (y:Int)]:=by
 refine Af 0 (AaU _ _ _) ?_
 have p:(2:Int) ^ (min (Alf 32) (Alq .u64))=4294967296:=by decide
 have a1:Bj .and .u64 1 4294967295=1:=AM 1 (by decide)
 have a2:=AM y h
 have a3:Bj .and .u64 0 4294967295=0:=AM 0 (by decide)
 have d0:Al8 0 4294967296=0:=by decide
 have d1:Al8 1 4294967296=0:=by decide
 have d2:Al8 (y:Int) 4294967296=0:=by rw[Int.fdiv_eq_ediv_of_nonneg _ (by decide)];omega
 have w0:Ale .u64 0=0:=by decide
 have w1:Ale .u64 (y:Int)=(y:Int):=Bq (by omega) (by omega)
 simp only[Ak,p,a1,a2,a3,d0,d1,d2,w0,w1,Int.zero_mul,Int.mul_zero,Int.one_mul,Int.zero_add,Int.add_zero]
 repeat (refine Ad ?_)
 exact Ac rfl
theorem Aec(y:Nat)(h:y<4294967296):Sp 231 [.int 1,.int (y:Int)] [.int 0,.int (y:Int)]:=by
 refine Af 0 (AaV _ _ _) ?_
 simp only[Ak]
 refine Aa (AdZ y h) (Ac ?_)
 simp only[Ag,Cl,Ak]
theorem PS(y:Nat)(h:y<4294967296)(w:World):Calls Tryz.prog 231 #[.int .u64 1,.int .u64 y] w fun e w'=>e = .returned (.tuple #[.int .u64 0,.int .u64 y])∧Ext w w':=by
 have hps:Tryz.f231.params.toList = [190,190]:=by kernel_rfl
 have hrs:Tryz.f231.resultTypes.toList = [190,190]:=by kernel_rfl
 have ht:Tryz.prog.underlying 190=some (.int .u64):=by kernel_rfl
 have n1 : ∀ k:Nat,k<4294967296→Rd Tryz.prog md w (fun _=>False) (.ty 190) (.int (k:Int)) (.int .u64 (k:Int)):=fun k hk=>Ol ht (by kernel_rfl) (by kernel_rfl) (by show (0:Int)≤_;omega) (by show _≤(18446744073709551615:Int);omega)
 refine (HY (vs:=[.int .u64 1,.int .u64 y]) (M:=fun _=>False) (Aec y h) Tryz.func231 (by kernel_rfl) (fun b hb=>hb.elim) (by kernel_rfl) (by kernel_rfl) (Oj hps (n1 1 (by decide)) (n1 y h))).mono ?_
 rintro e w' ⟨us,rfl,hl,hh,hx⟩
 have hl2:us.length=2:=by rw[hl];rfl
 match us,hl2 with
 | [u1,u2],_ =>
  obtain ⟨rfl,_⟩:=(hh 0 190 u1 (by rw[hrs];rfl) rfl).int ht
  obtain ⟨rfl,_⟩:=(hh 1 190 u2 (by rw[hrs];rfl) rfl).int ht
  exact ⟨rfl,hx⟩
theorem ZW{P:Program}{w:World}{ops:Array Oper}{rest:List Oper}{o:Oper}{a:Act}{Q:Exit→Act→World→Prop}{t e:TypeId}{size bytes:Nat}(hE:Elt P t e size bytes)
  (hg:o.guard=none) (l c:Operand) (hop:o.op=Op.makeSlice t l c) {kl kc:IntKind} (n:Nat) {L C:Int} (hl:a.eval l = .int kl L) (hc:a.eval c = .int kc C) (hL:L=(n:Int)) (hC:C=(n:Int)) (hb:bytes*n≤281474976710656) (hm:n≤maxLen)
  (h : ∀ (G:Nat) (w':World) (X:List Value),w.heap.size≤G→Hid (w'.heap[G]? = some (.cells X.toArray e (0,0)))→X.length=n*size→Ext w w'→wpList P ops Q rest (a.put o.dst (.slice (some ⟨G,0,none⟩) n n)) w'):wpList P ops Q (o::rest) a w:=by
 subst hL
 subst hC
 obtain ⟨i,z,hi,hz,hsz,hby,hzc⟩:=hE.info
 have hbb:(i.bytes:Int)*(n:Int)≤281474976710656:=by
  have h:((i.bytes*n:Nat):Int)≤281474976710656:=by rw[hby];omega
  rwa[Int.natCast_mul]at h
 have h63:n≤9223372036854775807:=by unfold maxLen at hm;omega
 have hr:=run_make (P:=P) w t e i z hE.under hi hz kl kc n n (by omega) (by omega) hbb (by omega)
 simp only[Aln]at hr
 refine wpList_plain hg fun K hK'=> ?_
 unfold Oper.wp
 simp[execOp,hop,hl,hc,hr,Result.andThen]
 have hx:Ext w (w.alloc (.cells (madeCells z.cells (n*i.size)) e)):=(Ext.refl w).alloc _
 refine hK' _ _ (h w.heap.size _ (madeCells z.cells (n*i.size)).toList (Als _) ?_ (by simp[size_madeCells,hsz]) hx)
 show _=_
 rw[Array.toArray_toList]
 exact heap_alloc_new w _
theorem YG{x:Value}{cur:List Value}{k m:Nat}(h:cur.take k=Alh k x)(hk:k+m≤cur.length):(splice cur k (Alh m x)).take (k+m)=Alh (k+m) x∧(splice cur k (Alh m x)).length=cur.length:=by
 refine ⟨?_,length_splice _ _ _ (by simpa using hk)⟩
 unfold splice
 rw[h,← Al4,List.replicate_append_replicate,List.take_append_of_le_length (by simp),Amb (by simp)]
theorem AjF{w w2:World}{A:Option Addr}{c:Nat}{z:Int}(h:SlI w (.slice A 1 c) .i64 [z])(hx:Ext w w2)(m:Nat)(hm:m≤1):0<(Alh m (Value.int .i64 z)).length→∃ ad,A=some ad∧∀ j v,(Alh m (Value.int .i64 z))[j]? = some v→w2.cell? (ad.add j)=some v:=by
 intro _
 obtain ⟨ad,rfl,hb,hc⟩:=(h.keep hx).cellAt 0 (by simp)
 refine ⟨ad,rfl,fun j v hv=> ?_⟩
 have hj:=(Alj.1 hv).1
 simp only[Amg]at hj
 have:j=0:=by omega
 subst this
 rw[List.getElem?_replicate,if_pos (by omega)]at hv
 cases hv
 exact hc
theorem AjH{w:World}{G k:Nat}{z:Int}{cur:List Value}{T:TypeId}(h:w.heap[G]? = some (.cells cur.toArray T (0,0)))(ht:cur.take k=Alh k (.int .i64 z))(m:Nat)(hm:m≤k)(hk:k≤cur.length) : ∀ j v,(Alh m (Value.int .i64 z))[j]? = some v→w.cell? ((⟨G,0,none⟩:Addr).add j)=some v:=by
 intro j v hv
 have hj:=(Alj.1 hv).1
 simp only[Amg]at hj
 rw[List.getElem?_replicate,if_pos hj]at hv
 cases hv
 have hcj:cur[j]? = some (.int .i64 z):=by
  have:=congrArg (fun l=>l[j]?) ht
  simp only[List.getElem?_take,List.getElem?_replicate]at this
  rw[if_pos (by omega),if_pos (by omega)]at this
  exact this
 have ea:(⟨G,0,none⟩:Addr).add j=⟨G,j,none⟩:=by unfold Addr.add;split <;> simp_all
 rw[ea]
 unfold World.cell?
 simp[h,hcj]
theorem AbN:Elt Tryz.prog 23 3 1 8 :=
 ⟨Tryz.underlying23,by
  obtain ⟨i,hi,h1,h2,h3⟩:=info_parts (P:=Tryz.prog) (e:=3) (z:= .int .i64 0) (size:=1) (bytes:=8) (by kernel_rfl)
  exact ⟨i,_,hi,h1,h2,h3,rfl⟩,by decide⟩
def RInv(w2:World)(G n:Nat)(z:Int)(iv:Value)(wr:World):Prop:=∃ (k:Nat) (cur:List Value),iv = .int .i64 k∧k≤n∧(0<n→0<k)∧cur.length=n∧cur.take k=Alh k (.int .i64 z)∧wr.heap[G]? = some (.cells cur.toArray 3 (0,0))∧Below G w2 wr
theorem RInv.start {w2 w3:World} {G n:Nat} {z:Int} {X:List Value} (hX:X.length=n*1) (h:w3.heap[G]? = some (.cells (splice X 0 (Alh (Nat.min 1 n) (.int .i64 z))).toArray 3 (0,0))) (hb:Below G w2 w3):RInv w2 G n z (.int .i64 ((Nat.min 1 n:Nat):Int)) w3:=by
 have h2:Nat.min 1 n≤n:=Nat.min_le_right 1 n
 have h3:Nat.min 1 n=if 1≤n then 1 else n:=Nat.min_def
 obtain ⟨s1,s2⟩:=YG (x:= .int .i64 z) (cur:=X) (k:=0) (m:=Nat.min 1 n) rfl (by omega)
 rw[Amn]at s1
 exact ⟨Nat.min 1 n,_,rfl,h2,fun h=>by rw[h3];split <;> omega,by omega,s1,h,hb⟩
theorem RInv.next {w2 w4:World} {G n k:Nat} {z:Int} {cur:List Value} (hk:k<n) (hp:0<k) (hl:cur.length=n) (ht:cur.take k=Alh k (.int .i64 z)) (h:w4.heap[G]? = some (.cells (splice cur k (Alh (Nat.min k (n-k)) (.int .i64 z))).toArray 3 (0,0))) (hb:Below G w2 w4):RInv w2 G n z (.int .i64 ((k+Nat.min k (n-k):Nat):Int)) w4∧n-(k+Nat.min k (n-k))<n-k:=by
 have h3:Nat.min k (n-k)=if k≤n-k then k else n-k:=Nat.min_def
 have h4:0<Nat.min k (n-k)∧k+Nat.min k (n-k)≤n:=by rw[h3];split <;> omega
 obtain ⟨s1,s2⟩:=YG (x:= .int .i64 z) (cur:=cur) (k:=k) (m:=Nat.min k (n-k)) ht (by omega)
 exact ⟨⟨_,_,rfl,h4.2,fun _=>by omega,by omega,s1,h,hb⟩,by omega⟩
def Aao(n:Nat)(z:Int)(w:World)(e:Ending)(w':World):Prop:=∃ G,e = .returned (.slice (some ⟨G,0,none⟩) n n)∧w.heap.size≤G∧SlI w' (.slice (some ⟨G,0,none⟩) n n) .i64 (Alh n z)∧Ext w w'
theorem AgG{w:World}{M:Nat→Prop}{v:Value}{l:List Int}(h:Rd Tryz.prog md w M (.ty 23) (dI l) v):SlI w v .i64 l:=by
 obtain ⟨h1,h2,h3⟩:=h
 have hc1:Tryz.prog.cellsOf 3=1:=by kernel_rfl
 unfold dI at h1
 cases h1 with
 | @sl _ e _ _ A cap bk off ht hc h4 h5 hA hh =>
  have he:e=3:=by
   have:Tryz.prog.underlying 23=some (.slice e):=ht
   rw[show Tryz.prog.underlying 23=some (.slice 3) by kernel_rfl]at this
   injection this with this;injection this with this;exact this.symm
  subst he
  have hv:v = .slice A (l.map D.int).length cap:=by
   have ha:C6 v=false:=by rw[h3];kernel_rfl
   rw[He ha]at hc
   simpa using hc
  refine ⟨A,cap,by rw[hv];simp,by simpa using h4,by simp,fun i x hx=> ?_⟩
  rw[Aly,Alv]at hx
  obtain ⟨b,hb,rfl⟩:=hx
  have hne:l.map D.int≠[]:=fun e=>by rw[List.map_eq_nil_iff.1 e]at hb;simp at hb
  obtain ⟨a1,a2,a3⟩:=hA hne
  have:=hh i (D.int b) (by rw[Aly,hb];rfl)
  rw[hc1]at this
  refine ⟨_,a1,a3,?_⟩
  cases this with
  | @int _ k _ _ ht' h1' h2' hc' =>
   have hk:k = .i64:=by
    have:Tryz.prog.underlying 3=some (.int k):=ht'
    rw[show Tryz.prog.underlying 3=some (.int .i64) by kernel_rfl]at this
    injection this with this;injection this with this;exact this.symm
   subst hk
   simp only[Nat.mul_one,Nat.add_zero]at hc'
   have ea:(⟨bk,off,none⟩:Addr).add i=⟨bk,off+i,none⟩:=by unfold Addr.add;split <;> simp_all
   rw[ea];exact hc'
theorem Aiq{w:World}{M:Nat→Prop}{G n c:Nat}{l:List Int}(h:SlI w (.slice (some ⟨G,0,none⟩) n c) .i64 l)(hc:c≤maxLen)(hG : ¬ M G)(hr : ∀ x∈l,Bc x):Rd Tryz.prog md w M (.ty 23) (dI l) (.slice (some ⟨G,0,none⟩) n c):=by
 obtain ⟨h1,h2⟩:=h.len
 have hc1:Tryz.prog.cellsOf 3=1:=by kernel_rfl
 refine ⟨.sl (e:=3) (A:=some ⟨G,0,none⟩) (cap:=c) (bk:=G) (off:=0) (by kernel_rfl) (by rw[h1,Ali];rfl) (by rw[Ali];omega) hc (fun hne=> ?_) (fun i x hx=> ?_),by kernel_rfl,by kernel_rfl⟩
 · have:0<l.length:=List.length_pos_iff.2 (fun e=>hne (by rw[e];rfl))
   obtain ⟨ad,ha,hb,_⟩:=h.cellAt 0 this
   cases ha
   exact ⟨rfl,hG,hb⟩
 · rw[Aly,Alv]at hx
   obtain ⟨b,hb,rfl⟩:=hx
   have hi:i<l.length:=(Alj.1 hb).1
   obtain ⟨ad,ha,_,hcell⟩:=h.cellAt i hi
   cases ha
   have ea:(⟨G,0,none⟩:Addr).add i=⟨G,0+i,none⟩:=by unfold Addr.add;split <;> simp_all
   rw[ea]at hcell
   have hx:l[i]=b:=(Alj.1 hb).2
   rw[hx]at hcell
   have:=hr b (Alm hb)
   exact .int (k:= .i64) (by kernel_rfl) this.1 this.2 (by rw[hc1];simpa using hcell)
theorem TH{w:World}{M:Nat→Prop}{v:Value}{n:Int}(h:Rd Tryz.prog md w M (.ty 3) (.int n) v):v = .int .i64 n∧Bc n:=by
 obtain ⟨h1,h2,h3⟩:=h
 have ha:C6 v=false:=by rw[h3];kernel_rfl
 cases h1 with
 | @int _ k _ _ ht h1' h2' hc' =>
  have hk:k = .i64:=by
   have:Tryz.prog.underlying 3=some (.int k):=ht
   rw[show Tryz.prog.underlying 3=some (.int .i64) by kernel_rfl]at this
   injection this with this;injection this with this;exact this.symm
  subst hk
  rw[He ha]at hc'
  exact ⟨by simpa using hc',h1',h2'⟩
theorem X_{k n:Nat}(hk:k<n)(hn:n≤1000000):Ale .i64 ((k:Int)+((Nat.min k (n-k):Nat):Int))=((k+Nat.min k (n-k):Nat):Int):=by
 have h2:Nat.min k (n-k)≤n-k:=Nat.min_le_right k (n-k)
 rw[As (by omega) (by omega)];omega
set_option maxHeartbeats 2000000 in
theorem Aif(A:Option Addr)(c n:Nat)(z:Int)(w:World)(hn:n≤1000000)(hs:SlI w (.slice A 1 c) .i64 [z]):Calls Tryz.prog 177 #[.slice A 1 c,.int .i64 n] w (Aao n z w):=by
 have HS:=Lib.hid hs
 have hc1:=hs.len.2
 clear hs
 have hu:Tryz.prog.underlying 23=some (.slice 3):=by kernel_rfl
 have hz:(Tryz.prog.info? 3).map (·.size)=some 1:=by kernel_rfl
 have HU:=Lib.hid hu
 have HZ:=Lib.hid hz
 clear hu hz
 go_enter Tryz.func177,Tryz.ntmps177
 go_wp2_with (first
  | (go_at_call 231;refine (PS n (by omega) _).mono ?_;rintro e w1 ⟨rfl,hx1⟩)
  | (at_make;refine ZW AbN rfl _ _ rfl n rfl rfl (by omega) (by omega) (by omega) (by unfold maxLen;omega) ?_;intro G w2 X hG HG hX hx2;have HX:=Lib.hid hX;clear hX)
  | (refine wpList_copy_splice rfl (.tmp 31) (.tmp 32) 23 23 rfl 3 HU.out HZ.out (some ⟨G,0,none⟩) A n n 1 c (by simp[Act.eval,Act.put]) (by simp[Act.eval,Act.put]) G 0 X 3 HG.out (Alh (Nat.min 1 n) (.int .i64 z)) (by simp) (fun hp=>⟨rfl,AjF HS.out (hx1.trans hx2) _ (Nat.min_le_left _ _) hp⟩) (by have h1:=HX.out;have h2:Nat.min 1 n≤n:=Nat.min_le_right 1 n;simp only[Amg];omega) (by intro v hv;rw[List.eq_of_mem_replicate hv];rfl) G w2 (Below.refl _ _) (Als _) ?_;intro w3 HG3 hb3))
 go_loopw [8] (RInv w2 G n z) (fun iv _=>n-(intOf iv).toNat)
 case atStart=>exact RInv.start HX.out HG3.out hb3
 case round =>
  obtain ⟨k,cur,rfl,hk,hp,hl,ht,hh,hb⟩:=hrel
  have HT:=Lib.hid ht
  have HH:=Lib.hid hh
  have HB:=Lib.hid hb
  have HL:=Lib.hid hl
  clear ht hh hb hl
  by_cases hlt:k<n
  · have hpk:0<k:=hp (by omega)
    clear hp
    have HNE:=Lib.hid (show (if n=k then some (⟨G,0,none⟩:Addr) else some ⟨G,k,none⟩)=some ⟨G,k,none⟩ from if_neg (by omega))
    have HSR:=Lib.hid (AjH (w:=wr.drew) HH.out HT.out (Nat.min k (n-k)) (Nat.min_le_left _ _) (by have:=HL.out;omega))
    go_wp2_with fail
    go_region_law (refine step_copy_splice rfl (.tmp 41) (.tmp 44) 23 23 rfl 3 HU.out HZ.out (if n=k then some ⟨G,0,none⟩ else some ⟨G,k,none⟩) (some ⟨G,0,none⟩) (n-k) (n-k) k n (by simp[Act.eval,Act.put]) (by simp[Act.eval,Act.put]) G k cur 3 HH.out (Alh (Nat.min k (n-k)) (.int .i64 z)) (by simp) (fun _=>⟨HNE.out,_,rfl,HSR.out⟩) (by have h1:=HL.out;have h2:Nat.min k (n-k)≤n-k:=Nat.min_le_right k (n-k);simp only[Amg];omega) (by intro v hv;rw[List.eq_of_mem_replicate hv];rfl) G w2 HB.out.drew (Als _) ?_;intro w4 HG4 hb4)
    go_wp2
    go_roundw
    case rel =>
     rw[X_ hlt (by omega)]
     exact (RInv.next hlt hpk HL.out HT.out HG4.out hb4).1
    case measure =>
     rw[X_ hlt (by omega)]
     exact (RInv.next hlt hpk HL.out HT.out HG4.out hb4).2
  · have hkn:k=n:=by omega
    subst hkn
    go_wp2_with fail
    go_ret
    have hh:=HH.out
    have hcur:cur=(Alh k z).map (.int .i64):=by
     have h1:=HT.out
     rw[Amb (by have:=HL.out;omega)]at h1
     rw[h1];simp
    rw[hcur]at hh
    exact ⟨G,rfl,Nat.le_trans hx1.size hG,SlI.made hh (by simp) (Als _),Below.trans (hx1.trans hx2) (Below.mono HB.out (Nat.le_trans hx1.size hG))⟩
theorem VE(n:Nat)(z:Int)(hn:n≤1000000)(hz:Bc z):Sp 177 [dI [z],.int (n:Int)] [dI (Alh n z)]:=by
 refine Zt La Tryz.func177 (by kernel_rfl) (by kernel_rfl) (by kernel_rfl) (fun w M vs hM _ hlv hrd=> ?_)
 have hps:Tryz.f177.params.toList = [23,3]:=by kernel_rfl
 have hlen:vs.length=2:=by rw[hlv];rfl
 match vs,hlen with
 | [va,vb],_ =>
  rw[hps]at hrd
  have hs:=AgG (hrd 0 _ _ _ rfl rfl rfl)
  obtain ⟨rfl,_⟩:=TH (hrd 1 _ _ _ rfl rfl rfl)
  obtain ⟨A,c,rfl,_,_⟩:=hs.form
  refine (Aif A c n z w hn hs).mono ?_
  rintro e w' ⟨G,rfl,hG,hv,hx⟩
  refine ⟨[_],rfl,rfl,fun i t u ht hu=> ?_,hx⟩
  rw[show Tryz.f177.resultTypes.toList = [23] by kernel_rfl]at ht
  match i with
  | 0=>cases ht;cases hu;exact Aiq hv (by unfold maxLen;omega) (fun hm=>by have:=hM G hm;omega) (fun x hx=>by rw[List.eq_of_mem_replicate hx];exact hz)
  | i+1=>simp at ht
end Go.Proofs.YtokkbgpgaheakaaGreat
namespace Go.Proofs.YtokkbgpgaheakaaGreat
def Th:List (Nat×Orc):=[(7,⟨[(2,none),(3,none),(4,none),(5,none),(7,some 23),(8,none),(26,some 23),(27,none),(28,none)],[(2,true),(3,true),(4,false),(5,false),(8,false)],[(.fld 8 [0],1070,3),(.fld 8 [1],1071,3)]⟩)]
noncomputable def Ps(n m7:Nat)(s7 t26:D)(t27 t28:Int)(nn2 a3:D)(r4_0 e5:Int)(w8_0 w8_1:List D):Tree :=
 lA (eA Th n 39 [1,1,1,1,1,0,1,0,0]) (Al Th 7) m7 ⟨(.undef:: .undef:: .ptr 2 []:: .ptr 3 []:: .ptr 4 []:: .ptr 5 []:: .undef:: .d 23 s7:: .ptr 8 []::uA 17++(.d 23 t26:: .i .i64 t27:: .i .i64 t28::uA 47)),[(2,.var 26 (.d 26 nn2) true),(3,.var 26 (.d 26 a3) true),(4,.var 26 (.agg 26 [.i .u64 r4_0,.mt,.mt]) true),(5,.var 29 (.i .i64 e5) true),(8,.var 99 (.agg 99 [.row 1070,.row 1071]) true),(1070,.row 3 w8_0 true),(1071,.row 3 w8_1 true)],[2,3,4,5,8,1070,1071],[(97,[.ptr 4 [],.ptr 5 []])],[]⟩
  (Ai 0 (An (jA Th n 39 [1,1,1,1,1,1]) (rA 39 [26,26] [.cell 4 26,.cell 5 29] [26,29])))
theorem KZ(n m7:Nat)(s7 t26:D)(t27 t28:Int)(nn2 a3:D)(r4_0 e5:Int)(w8_0 w8_1:List D):Ps n (m7+1) s7 t26 t27 t28 nn2 a3 r4_0 e5 w8_0 w8_1 =
 bK (t28<t27) (kK (0≤t28) (kK (t28<(t26.els.length:Int)) (cK 100 [D.int ((t26.els.getD (Alf t28) D.nil).toInt)] fun Y3 =>
 kK (0≤t28) (kK (t28<(w8_1.length:Int)) (bK (((t26.els.getD (Alf t28) D.nil).toInt)<0) (kK (0≤t28) (kK (t28<(s7.els.length:Int)) (kK (0≤t28) (kK (t28<((w8_1.set (Alf t28) (D.int ((qA Y3).toInt))).length:Int)) (kK (0≤t28) (kK (t28<(w8_0.length:Int)) (Ps n m7 s7 t26 t27 (Ale .i64 (t28+1)) nn2 a3 r4_0 e5 (w8_0.set (Alf t28) (D.int (Ale .i64 (((s7.els.getD (Alf t28) D.nil).toInt)-(((w8_1.set (Alf t28) (D.int ((qA Y3).toInt))).getD (Alf t28) D.nil).toInt))))) (w8_1.set (Alf t28) (D.int ((qA Y3).toInt))))))))))
 (Ps n m7 s7 t26 t27 (Ale .i64 (t28+1)) nn2 a3 r4_0 e5 w8_0 (w8_1.set (Alf t28) (D.int ((qA Y3).toInt)))))))))
 (cK 81 [D.sl w8_1] fun Y4 =>
 .br (((qB Y4).toInt)!=0) (.ret [D.agg [D.int 0,D.sl [],D.sl []],D.int ((qB Y4).toInt)])
 (cK 102 [D.agg [D.sl w8_0,D.sl w8_1],a3,s7,D.int ((qA Y4).toInt)] fun Y5 =>
 cK 101 [nn2,a3,D.sl w8_1,qA Y5] fun Y6 =>
 .ret [qA Y6,D.int 0])):=by kernel_rfl
theorem Abw(n:Nat)(nn0 a1:D):fA Th n 39 [] [nn0,a1] =
 cK 98 [nn0,a1] fun Y1 =>
 .br (((qC Y1).toInt)!=0) (.ret [D.agg [D.int 0,D.sl [],D.sl []],D.int ((qC Y1).toInt)])
 (cK 99 [qB Y1] fun Y2 =>
 Ps n n (qB Y1) (qA Y1) (((qA Y1).els).length:Int) 0 nn0 a1 0 ((qC Y1).toInt) (((qA Y2).fld 0).els) (((qA Y2).fld 1).els)):=by kernel_rfl
def Tg:List (Nat×Orc):=[(7,⟨[(2,none),(3,none),(4,none),(5,none),(7,some 23),(8,none),(27,some 23),(28,none),(29,none)],[(2,true),(3,true),(4,false),(5,false),(8,false)],[(.fld 8 [0],1070,3),(.fld 8 [1],1071,3)]⟩)]
noncomputable def Pr(n m7:Nat)(s7 t27:D)(t28 t29:Int)(nn2 a3:D)(r4_0 e5:Int)(w8_0 w8_1:List D):Tree :=
 lA (eA Tg n 40 [1,1,1,1,1,0,1,0,0]) (Al Tg 7) m7 ⟨(.undef:: .undef:: .ptr 2 []:: .ptr 3 []:: .ptr 4 []:: .ptr 5 []:: .undef:: .d 23 s7:: .ptr 8 []::uA 18++(.d 23 t27:: .i .i64 t28:: .i .i64 t29::uA 49)),[(2,.var 26 (.d 26 nn2) true),(3,.var 26 (.d 26 a3) true),(4,.var 26 (.agg 26 [.i .u64 r4_0,.mt,.mt]) true),(5,.var 29 (.i .i64 e5) true),(8,.var 99 (.agg 99 [.row 1070,.row 1071]) true),(1070,.row 3 w8_0 true),(1071,.row 3 w8_1 true)],[2,3,4,5,8,1070,1071],[(103,[.ptr 4 [],.ptr 5 []])],[]⟩
  (Ai 0 (An (jA Tg n 40 [1,1,1,1,1,1]) (rA 40 [26,26] [.cell 4 26,.cell 5 29] [26,29])))
theorem KY(n m7:Nat)(s7 t27:D)(t28 t29:Int)(nn2 a3:D)(r4_0 e5:Int)(w8_0 w8_1:List D):Pr n (m7+1) s7 t27 t28 t29 nn2 a3 r4_0 e5 w8_0 w8_1 =
 bK (t29<t28) (kK (0≤t29) (kK (t29<(t27.els.length:Int)) (cK 100 [D.int ((t27.els.getD (Alf t29) D.nil).toInt)] fun Y3 =>
 kK (0≤t29) (kK (t29<(s7.els.length:Int)) (kK (0≤t29) (kK (t29<(s7.els.length:Int)) (kK (0≤t29) (kK (t29<(w8_1.length:Int)) (bK (0<((t27.els.getD (Alf t29) D.nil).toInt)) (kK (0≤t29) (kK (t29<(w8_0.length:Int)) (Pr n m7 s7 t27 t28 (Ale .i64 (t29+1)) nn2 a3 r4_0 e5 (w8_0.set (Alf t29) (D.int (if ((s7.els.getD (Alf t29) D.nil).toInt)<((qA Y3).toInt) then ((s7.els.getD (Alf t29) D.nil).toInt) else ((qA Y3).toInt)))) (w8_1.set (Alf t29) (D.int (Ale .i64 (((s7.els.getD (Alf t29) D.nil).toInt)-(if ((s7.els.getD (Alf t29) D.nil).toInt)<((qA Y3).toInt) then ((s7.els.getD (Alf t29) D.nil).toInt) else ((qA Y3).toInt)))))))))
 (Pr n m7 s7 t27 t28 (Ale .i64 (t29+1)) nn2 a3 r4_0 e5 w8_0 (w8_1.set (Alf t29) (D.int (Ale .i64 (((s7.els.getD (Alf t29) D.nil).toInt)-(if ((s7.els.getD (Alf t29) D.nil).toInt)<((qA Y3).toInt) then ((s7.els.getD (Alf t29) D.nil).toInt) else ((qA Y3).toInt))))))))))))))))
 (cK 81 [D.sl w8_1] fun Y4 =>
 .br (((qB Y4).toInt)!=0) (.ret [D.agg [D.int 0,D.sl [],D.sl []],D.int ((qB Y4).toInt)])
 (cK 102 [D.agg [D.sl w8_0,D.sl w8_1],a3,s7,D.int ((qA Y4).toInt)] fun Y5 =>
 cK 101 [nn2,a3,D.sl w8_1,qA Y5] fun Y6 =>
 .ret [qA Y6,D.int 0])):=by kernel_rfl
theorem Abu(n:Nat)(nn0 a1:D):fA Tg n 40 [] [nn0,a1] =
 cK 98 [nn0,a1] fun Y1 =>
 .br (((qC Y1).toInt)!=0) (.ret [D.agg [D.int 0,D.sl [],D.sl []],D.int ((qC Y1).toInt)])
 (cK 99 [qB Y1] fun Y2 =>
 Pr n n (qB Y1) (qA Y1) (((qA Y1).els).length:Int) 0 nn0 a1 0 ((qC Y1).toInt) (((qA Y2).fld 0).els) (((qA Y2).fld 1).els)):=by kernel_rfl
theorem Abx(n:Nat)(nn0 a1:D):fA [] n 98 [] [nn0,a1] =
 cK 80 [nn0] fun Y1 =>
 .br (((qB Y1).toInt)!=0) (.ret [D.sl [],D.sl [],D.int ((qB Y1).toInt)])
 (bK (0<(((a1.fld 1).els).length:Int)) (bK ((((a1.fld 1).els).length:Int)<(((qA Y1).els).length:Int)) (.ret [D.sl [],D.sl [],D.int 4])
 (cK 96 [a1.fld 1] fun Y2 =>
 .ret [qA Y1,D.sl ((qA Y2).els),D.int 0]))
 (bK (6<(((qA Y1).els).length:Int)) (.ret [D.sl [],D.sl [],D.int 7])
 (cK 177 [D.sl [D.int 1],D.int (((qA Y1).els).length:Int)] fun Y3 =>
 .ret [qA Y1,qA Y3,D.int 0]))):=by kernel_rfl
theorem Abz(n:Nat)(s0:D):fA [] n 99 [] [s0] =
 kK (0≤(s0.els.length:Int)) (kK ((s0.els.length:Int)≤(s0.els.length:Int)) (kK ((s0.els.length:Int)≤Aj) (cK 96 [s0] fun Y1 =>
 .ret [D.agg [D.sl (Alh (Alf (s0.els.length:Int)) (D.int 0)),D.sl ((qA Y1).els)]]))):=by kernel_rfl
theorem Aby(n:Nat)(k0:D):fA [] n 100 [] [k0] =
 bK (2049<k0.toInt) (.ret [D.int 2049])
 (bK (k0.toInt<(-2049)) (.ret [D.int 2049])
 (.ret [D.int (if k0.toInt<(Ale .i64 (0-k0.toInt)) then (Ale .i64 (0-k0.toInt)) else k0.toInt)])):=by kernel_rfl
theorem Ab2(n:Nat)(nn0 a1:D)(s2 cells3:D):fA [] n 101 [] [nn0,a1,s2,cells3] =
 cK 84 [nn0] fun Y1 =>
 cK 83 [D.int ((a1.fld 0).toInt),D.int ((qA Y1).toInt)] fun Y2 =>
 .ret [D.agg [D.int ((qA Y2).toInt),s2,cells3]]:=by kernel_rfl
def Gm:List (Nat×Orc):=[(4,⟨[(2,some 23),(4,none),(5,none),(9,none),(10,none),(21,none),(22,none)],[(4,true),(5,true),(9,true)],[(.slot 10,1040,67)]⟩),(8,⟨[(2,some 23),(4,none),(5,none),(9,none),(10,none),(12,none),(21,none),(22,none),(33,none),(34,none)],[(4,true),(5,true),(9,true)],[(.slot 10,1080,67),(.slot 12,1081,3)]⟩)]
def BP:List Nat:=[99,26,23,3]
noncomputable def Ti(n m4 m8:Nat)(s2:D)(r10 at12:List D)(t21 t22:Int)(t33 t34:Int)(w4 a5 fill9:D):Tree :=
 lA (eA Gm n 102 [1,1,1,0,1,0,0,1,1,0,0,1,1,0,1,0,0]) (Al Gm 8) m8 ⟨(.undef:: .undef:: .d 23 s2:: .undef:: .ptr 4 []:: .ptr 5 []::uA 3++(.ptr 9 []:: .row 1080:: .undef:: .row 1081::uA 8++(.i .i64 t21:: .i .i64 t22::uA 10++(.i .i64 t33:: .i .i64 t34::uA 35)))),[(4,.var 99 (.d 99 w4) true),(5,.var 26 (.d 26 a5) true),(9,.var 67 (.d 67 fill9) true),(1080,.row 67 r10 true),(1081,.row 3 at12 true)],[4,5,9,1080,1081],[],[]⟩
  (Ai 2 (An (jA Gm n 102 [1,1,1,0,1,0,0,1,1,0,0,1,1,1]) (Ai 1 (An (jA Gm n 102 [1,1,1,0,1,0,0,1,1,1]) (Fg Tryz.prog md (Al Gm 4) (fun s1=>lA (eA Gm n 102 [1,1,1,0,1,0,0]) (Al Gm 4) m4 s1 (Ai 0 (An (jA Gm n 102 [1,1,1,1]) (rA 102 BP [.tmp 8] [24])))) (Ai 0 (An (jA Gm n 102 [1,1,1,1]) (rA 102 BP [.tmp 8] [24]))))))))
noncomputable def Km(n m4:Nat)(s2:D)(r10:List D)(t21 t22:Int)(w4 a5 fill9:D):Tree :=
 lA (eA Gm n 102 [1,1,1,0,1,0,0]) (Al Gm 4) m4 ⟨(.undef:: .undef:: .d 23 s2:: .undef:: .ptr 4 []:: .ptr 5 []::uA 3++(.ptr 9 []:: .row 1040::uA 10++(.i .i64 t21:: .i .i64 t22::uA 47))),[(4,.var 99 (.d 99 w4) true),(5,.var 26 (.d 26 a5) true),(9,.var 67 (.d 67 fill9) true),(1040,.row 67 r10 true)],[4,5,9,1040],[],[]⟩
  (Ai 0 (An (jA Gm n 102 [1,1,1,1]) (rA 102 BP [.tmp 8] [24])))
theorem LG(n m4 m8:Nat)(s2:D)(r10 at12:List D)(t21 t22:Int)(t33 t34:Int)(w4 a5 fill9:D):Ti n m4 (m8+1) s2 r10 at12 t21 t22 t33 t34 w4 a5 fill9 =
 bK (t34<t33) (kK (0≤t34) (kK (t34<(at12.length:Int)) (kK (0≤t34) (kK (t34<(((w4.fld 0).els).length:Int)) (kK (0≤t34) (kK (t34<(at12.length:Int)) (Ti n m4 m8 s2 r10 (at12.set (Alf t34) (D.int (Ale .i64 (((at12.getD (Alf t34) D.nil).toInt)+((((w4.fld 0).els).getD (Alf t34) D.nil).toInt))))) t21 t22 t33 (Ale .i64 (t34+1)) w4 a5 fill9)))))))
 (cK 176 [s2,D.sl at12] fun Y3 =>
 .br ((qB Y3).toBool) (kK (0≤(qA Y3).toInt) (kK ((qA Y3).toInt<(((a5.fld 2).els).length:Int)) (kK (r10.length + [((a5.fld 2).els).getD (Alf ((qA Y3).toInt)) D.nil].length≤Aj) (Km n m4 s2 (r10++[((a5.fld 2).els).getD (Alf ((qA Y3).toInt)) D.nil]) t21 (Ale .i64 (t22+1)) w4 a5 fill9))))
 (kK (r10.length + [fill9].length≤Aj) (Km n m4 s2 (r10++[fill9]) t21 (Ale .i64 (t22+1)) w4 a5 fill9))):=by kernel_rfl
theorem LF(n m4:Nat)(s2:D)(r10:List D)(t21 t22:Int)(w4 a5 fill9:D):Km n (m4+1) s2 r10 t21 t22 w4 a5 fill9 =
 bK (t22<t21) (cK 175 [w4.fld 1,D.int t22] fun Y2 =>
 Ti n m4 n s2 r10 ((qA Y2).els) t21 t22 (((qA Y2).els).length:Int) 0 w4 a5 fill9)
 (.ret [D.sl r10]):=by kernel_rfl
theorem Ab3(n:Nat)(w0 a1:D)(s2 count3:D):fA Gm n 102 [] [w0,a1,s2,count3] =
 cK 82 [a1] fun Y1 =>
 kK (0≤0) (kK (0≤count3.toInt) (kK (count3.toInt≤Aj) (Km n n s2 (Alh (Alf 0) (D.agg [D.int 0,D.int 0,D.agg [D.bool false,D.sl [],D.sl []],D.int 0,D.sl []])) count3.toInt 0 w0 a1 (qA Y1)))):=by kernel_rfl
def Lm:List Int→Int→List Int
 | [],_=>[]
 | x::xs,n=>Int.tmod n x::Lm xs (Int.tdiv n x)
def Ip(s:List Int)(n:Int):List Int:=(Lm s.reverse n).reverse
theorem LO : ∀ (l:List Int) (n:Int),(Lm l n).length=l.length
 | [],_=>rfl
 | x::xs,n=>by simp[Lm,LO xs]
theorem M4(s:List Int)(n:Int):(Ip s n).length=s.length:=by simp[Ip,LO]
def I4:List Int→List Int→Int→Option Int
 | [],_,o=>some o
 | _::_,[],_=>none
 | x::xs,a::as_,o=>if a<0∨x≤a then none else I4 xs as_ (Ale .i64 (Ale .i64 (o*x)+a))
def Gw(s at_:List Int):Option Int:=if (A0 s).2=0∧at_.length=s.length then I4 s at_ 0 else none
theorem NM : ∀ {s at_:List Int} {o:Int},(0:Int)∈s→I4 s at_ o=none
 | x::xs,[],o,_=>rfl
 | x::xs,a::as_,o,h=>by
  simp only[I4]
  split
  · rfl
  · rename_i hc
    rcases Alx.1 h with h | h
    · subst h;omega
    · exact NM h
theorem Agb{x:Int}{xs:List Int}{p:Int}(h:Bd (x::xs) p≠0):p*x≤2048∧Bd xs (p*x)≠0:=by
 rw[Me]at h
 split at h
 · exact absurd rfl h
 · exact ⟨by omega,h⟩
theorem NL : ∀ {s at_:List Int} {o p k:Int},(∀ x∈s,1≤x∧x≤2048)→0≤o→o<p→p≤2048→Bd s p≠0→I4 s at_ o=some k→0≤k∧k<Bd s p
 | [],at_,o,p,k,_,h0,h1,_,_,h=>by
  simp only[I4,Alo]at h
  subst h
  exact ⟨h0,h1⟩
 | x::xs,[],o,p,k,_,_,_,_,_,h=>by simp[I4]at h
 | x::xs,a::as_,o,p,k,hx,h0,h1,h2,hp,h=>by
  simp only[I4]at h
  split at h
  · cases h
  · rename_i hc
    have hxx:=hx x (by simp)
    obtain ⟨q1,q2⟩:=Agb hp
    have m1:(o+1)*x≤p*x:=Int.mul_le_mul_of_nonneg_right (by omega) (by omega)
    have m2:0≤o*x:=Int.mul_nonneg h0 (by omega)
    rw[Int.add_mul,Int.one_mul]at m1
    rw[As (x:=o*x) (by omega) (by omega),As (by omega) (by omega)]at h
    have:=NL (s:=xs) (p:=p*x) (fun y hy=>hx y (by simp[hy])) (by omega) (by omega) q1 q2 h
    rw[Me,if_neg (by omega)]
    exact this
theorem Iw{s:List Int}{c:Int}(h:A0 s=(c,0)):s.length≤6∧(((0:Int)∈s∧c=0)∨((∀ x∈s,1≤x∧x≤2048)∧Bd s 1=c∧c≠0)):=by
 unfold A0 at h
 split at h
 · cases h
 split at h
 · cases h
 split at h
 · cases h
 · rename_i h1 h2 h3
   refine ⟨by omega,?_⟩
   split at h
   · rename_i h4
     obtain ⟨x,hx,h5⟩:=List.any_eq_true.1 h4
     have:x=0:=by simpa using h5
     subst this
     exact .inl ⟨hx,by injection h with h;exact h.symm⟩
   · rename_i h4
     split at h
     · cases h
     · rename_i h5
       injection h with h
       exact .inr ⟨Te h2 h3 h4,h,by omega⟩
theorem NK{s at_:List Int}{c k:Int}(hc:A0 s=(c,0))(h:Gw s at_=some k):0≤k∧k<c:=by
 unfold Gw at h
 split at h
 · rcases (Iw hc).2 with ⟨h0,_⟩ | ⟨h1,h2,h3⟩
   · rw[NM h0]at h;cases h
   · rw[← h2]
     exact NL h1 (by omega) (by omega) (by omega) (by rw[h2];exact h3) h
 · cases h
theorem IU{k:Nat}(h:k≤9223372036854775807):Ale .i64 ((k:Int)-1)=(k:Int)-1:=As (by omega) (by omega)
theorem CU{l:List Int}{k:Nat}{x:Int}(h:l[k]? = some x):l.take (k+1)=l.take k++[x]:=by
 rw[List.take_add_one,h];rfl
theorem Gu{l:List Int}{i:Nat}(h:i<l.length):(l.map D.int).getD i D.nil=D.int (l.getD i 0):=by
 rw[Ar (Alg h),Alk,Alg h];rfl
def M3(s:List Int)(n:Int):List D:=if (A0 s).2=0∧0≤n∧n<(A0 s).1 then [dI (Ip s n),.bool true] else [.sl [],.bool false]
theorem AbJ(out:List Int)(k:Nat)(v:Int)(h:k<out.length):(out.set k v).drop k=v::out.drop (k+1):=by
 rw[Al6 (by simpa using h)]
 simp[List.drop_set]
theorem XD(s:List Int)(n:Int):Sp 175 [dI s,.int n] (M3 s n):=by
 refine Af (s.length+1) (AiR _ _ _) (Aa (Mn s) ?_)
 unfold M3
 simp only[Ah]
 refine Ae (fun h=>Ac (by rw[if_neg (fun hh=>h hh.1)])) (fun h=>Ae (fun h1=>Ac (by rw[if_neg (by omega)])) (fun h1=>Ae (fun h2=>Ac (by rw[if_neg (by omega)])) (fun h2=> ?_)))
 have hc0:(A0 s).2=0:=Alt.1 h
 rw[if_pos ⟨hc0,by omega,by omega⟩]
 obtain ⟨c1,c2⟩:=Iw (s:=s) (c:=(A0 s).1) (by rw[← hc0])
 have hpos : ∀ x∈s,1≤x∧x≤2048:=by
  rcases c2 with ⟨_,c2⟩ | ⟨c2,_⟩
  · omega
  · exact c2
 have hle:=(F1 s).2
 refine Ad (Ad (Av (by simp only[Aj];omega) ?_))
 have key:=H_ (P:=Tryz.prog) (md:=md) (fun m k (st:Int×List Int)=>Ys (s.length+1) m (dI s) st.1 (st.2.map D.int) ((k:Int)-1)) (fun k st=>[dI ((Lm (s.take k).reverse st.1).reverse++st.2.drop k),.bool true]) (fun k st=>k≤s.length∧st.2.length=s.length∧0≤st.1∧st.1≤2048)
  (fun m st hI=>by
   simp only[XC]
   refine Aq (Ac ?_)
   simp[Lm,dI])
  (fun m k st hI ih=>by
   obtain ⟨i1,i2,i3,i4⟩:=hI
   have hg:s[k]? = some s[k]:=Alg (by omega)
   have hx:=hpos _ (Alm hg)
   generalize s[k]=x at hg hx
   have e:((k+1:Nat):Int)-1=(k:Int):=by omega
   have m1:0≤Int.tdiv st.1 x:=Int.tdiv_nonneg i3 (by omega)
   have m2:Int.tdiv st.1 x≤st.1:=by rw[Int.tdiv_eq_ediv_of_nonneg i3];exact Int.ediv_le_self _ i3
   simp only[XC,Ah,e,Ar hg]
   have hb:(!decide (x=0))=true:=by simp;omega
   rw[IU (by omega),As (x:=Int.tdiv st.1 x) (by omega) (by omega)]
   refine Ad (Ad (Ad (Ad (Ad (Ad (Ad (Ad (Ad ?_))))))))
   have:=ih (Int.tdiv st.1 x,st.2.set k (Int.tmod st.1 x)) ⟨by omega,by simpa using i2,m1,by omega⟩
   rw[List.map_set]at this
   refine Tree.wp_mono this (fun ys hy=>hy.trans ?_)
   simp only
   rw[AbJ _ _ _ (by omega),CU hg,List.reverse_append,List.reverse_cons,List.reverse_nil,Amo,List.singleton_append,Lm,List.reverse_cons]
   simp)
  (s.length+1) s.length (n,Alh s.length 0) (by omega) ⟨by omega,by simp,by omega,by omega⟩
 rw[IU (by omega)]
 have e2:Alh s.length (D.int 0)=(Alh s.length (0:Int)).map D.int:=by simp
 rw[e2]
 refine Tree.wp_mono key (fun ys hy=>hy.trans ?_)
 simp[Ip]
def Qd(o:Option Int):List D:=match o with | some k=>[.int k,.bool true] | none=>[.int 0,.bool false]
theorem XF(s at_:List Int)(hl:at_.length≤1000000):Sp 176 [dI s,dI at_] (Qd (Gw s at_)):=by
 refine Af (s.length+1) (AiV _ _ _) (Aa (Mn s) ?_)
 unfold Gw
 simp only[Ah]
 refine Ae (fun h=>Ac (by rw[if_neg (fun hh=>h hh.1)];rfl)) (fun h=>Ae (fun h1=>Ac (by rw[if_neg (by omega)];rfl)) (fun h1=> ?_))
 rw[if_pos ⟨Alt.1 h,by omega⟩]
 have key:=B1 s (fun m k (o:Int)=>Yu (s.length+1) m (dI at_) o (dI s) (s.length:Int) (k:Int)) (fun rest o=>Qd (I4 rest (at_.drop (s.length-rest.length)) o)) (fun _ _=>True)
  (fun m k o hk _=>by
   simp only[XE]
   exact Aq (Ac rfl))
  (fun m k o x rest hdr _ ih=>by
   obtain ⟨h4,h2,h3⟩:=Bv hdr
   have hle:=congrArg List.length hdr
   rw[Alu,All]at hle
   have hg:at_[k]? = some at_[k]:=Alg (by omega)
   have hd:at_.drop k=at_[k]::at_.drop (k+1):=Al6 (by omega)
   generalize at_[k]=a at hg hd
   rw[show s.length-(x::rest).length=k by rw[All];omega,hd]
   have ih':=fun o'=>ih o' trivial
   rw[show s.length-rest.length=k+1 by omega]at ih'
   simp only[XE,Ah,Ar h2,Ar hg,Bb k,I4]
   refine Ad (Ad (Ad (Ad (Ad (Ae (fun g=>Ac (by rw[if_pos (.inl g)];rfl)) (fun g=>Ad (Ad (Ae (fun g2=>Ac (by rw[if_pos (.inr g2)];rfl)) (fun g2=>Ad (Ad ?_))))))))))
   rw[if_neg (by omega)]
   exact ih' _)
  (s.length+1) 0 0 (by omega) (by omega) trivial
 simpa using key
def F6(k:Int):Int:=if 2049<k then 2049 else if k < -2049 then 2049 else if k<0-k then 0-k else k
theorem ND(k:Int):0≤F6 k∧F6 k≤2049:=by
 unfold F6;split;· omega
 split;· omega
 split <;> omega
def Ci(n a:Arr):List Int×List Int×Int :=
 if (A7 n).2=0 then (if 0<a.shape.length then (if a.shape.length<(A7 n).1.length then ([],[],4) else ((A7 n).1,a.shape,0)) else if 6<(A7 n).1.length then ([],[],7) else ((A7 n).1,Alh (A7 n).1.length 1,0)) else ([],[],(A7 n).2)
def I2:List Int→List Int→List Int
 | k::l,x::s=>(if k<0 then x-F6 k else 0)::I2 l s
 | _,s=>Alh s.length 0
def Ji:List Int→List Int→List Int
 | k::l,_::s=>F6 k::Ji l s
 | _,s=>s
def J4(k x:Int):Int:=if x<F6 k then x else F6 k
def I1:List Int→List Int→List Int
 | k::l,x::s=>(if 0<k then J4 k x else 0)::I1 l s
 | _,s=>Alh s.length 0
def Jh:List Int→List Int→List Int
 | k::l,x::s=>(x-J4 k x)::Jh l s
 | _,s=>s
theorem MS : ∀ l s,(I2 l s).length=s.length
 | k::l,x::s=>by simp[I2,MS l s]
 | [],s=>by simp[I2]
 | k::l,[]=>by simp[I2]
theorem HK : ∀ l s,(Ji l s).length=s.length
 | k::l,x::s=>by simp[Ji,HK l s]
 | [],s=>by simp[Ji]
 | k::l,[]=>by simp[Ji]
theorem MR : ∀ l s,(I1 l s).length=s.length
 | k::l,x::s=>by simp[I1,MR l s]
 | [],s=>by simp[I1]
 | k::l,[]=>by simp[I1]
theorem HJ : ∀ l s,(Jh l s).length=s.length
 | k::l,x::s=>by simp[Jh,HJ l s]
 | [],s=>by simp[Jh]
 | k::l,[]=>by simp[Jh]
def Ha:List Int→List Int→List Int
 | a::as_,f::fs=>Ale .i64 (a+f)::Ha as_ fs
 | _,_=>[]
theorem JD : ∀ a f,a.length≤f.length→(Ha a f).length=a.length
 | a::as_,f::fs,h=>by simp[Ha,JD as_ fs (by simpa using h)]
 | [],f,h=>by simp[Ha]
 | a::as_,[],h=>by simp at h
def GT(cs:List Cell)(fill:Cell)(s from_ size:List Int)(i:Nat):Cell:=match Gw s (Ha (Ip size (i:Int)) from_) with
 | some k=>cs.getD k.toNat fill
 | none=>fill
def Jf(a:Arr)(s from_ size:List Int)(K:Nat):List Cell:=(Amd K).map (GT a.cells (Ct a) s from_ size)
def Jx(n a:Arr)(s from_ size:List Int):Arr×Int:=if (A0 size).2=0 then (.mk (a.s|||A5 n) size (Jf a s from_ size (A0 size).1.toNat),0) else (.none,(A0 size).2)
def Zv(n a:Arr):Arr×Int:=if (Ci n a).2.2=0 then Jx n a (Ci n a).2.1 (I2 (Ci n a).1 (Ci n a).2.1) (Ji (Ci n a).1 (Ci n a).2.1) else (.none,(Ci n a).2.2)
def To(n a:Arr):Arr×Int:=if (Ci n a).2.2=0 then Jx n a (Ci n a).2.1 (I1 (Ci n a).1 (Ci n a).2.1) (Jh (Ci n a).1 (Ci n a).2.1) else (.none,(Ci n a).2.2)
theorem KE{n a:Arr}(h:(Ci n a).2.2=0)(ha:a.shape.length≤6):(Ci n a).1.length≤(Ci n a).2.1.length∧(Ci n a).2.1.length≤6:=by
 unfold Ci at h ⊢
 split at h
 · rename_i h1
   rw[if_pos h1]
   split at h
   · rename_i h2
     rw[if_pos h2]
     split at h
     · cases h
     · rename_i h3;rw[if_neg h3];simp only;omega
   · rename_i h2
     rw[if_neg h2]
     split at h
     · cases h
     · rename_i h3;rw[if_neg h3];simp only[Amg];omega
 · rename_i h1;exact absurd h h1
theorem Abq : ∀ k:Nat,k≤6→A0 (Alh k 1)=(1,0):=by decide
theorem KD{n a:Arr}(h:(Ci n a).2.2=0)(ha:A0 a.shape=((a.cells.length:Int),0)):A0 (Ci n a).2.1=((a.cells.length:Int),0):=by
 unfold Ci at h ⊢
 split at h
 · rename_i h1
   rw[if_pos h1]
   split at h
   · rename_i h2
     rw[if_pos h2]
     split at h
     · cases h
     · rename_i h3;rw[if_neg h3];exact ha
   · rename_i h2
     rw[if_neg h2]
     split at h
     · cases h
     · rename_i h3
       rw[if_neg h3]
       simp only
       rw[Abq _ (by omega)]
       have:a.shape = []:=Al7.1 (by omega)
       rw[this]at ha
       have e:A0 []=(1,0):=by decide
       rw[e]at ha
       exact ha
 · rename_i h1;exact absurd h h1
theorem LD(k:Int):Sp 100 [.int k] [.int (F6 k)]:=by
 refine Af 0 (Aby _ _) ?_
 unfold F6
 simp only[Ah]
 refine Ae (fun h=>Ac (by rw[if_pos h])) (fun h=>Ae (fun h1=>Ac (by rw[if_neg h,if_pos h1])) (fun h1=>Ac ?_))
 rw[if_neg h,if_neg h1]
 have e:Ale .i64 (0-k)=0-k:=As (by omega) (by omega)
 simp only[Ak,e]
theorem LA(n a:Arr)(hn:Fits n)(hnl:n.cells.length≤2048)(hnt : ∀ c∈n.cells,c.n.top.length≤32)(ha:a.shape.length≤1048576):Sp 98 [dA n,dA a] [dI (Ci n a).1,dI (Ci n a).2.1,.int (Ci n a).2.2]:=by
 refine Af 0 (Abx _ _ _) (Aa (Ju n hnl hnt) ?_)
 unfold Ci
 simp only[Ah]
 refine Ae (fun h=>Ac (by rw[if_neg h];rfl)) (fun h=> ?_)
 rw[if_pos (Alt.1 h)]
 refine Ae (fun h1=> ?_) (fun h1=> ?_)
 · rw[if_pos (by omega)]
   refine Ae (fun h2=>Ac (by rw[if_pos (by omega)];rfl)) (fun h2=> ?_)
   rw[if_neg (by omega)]
   exact Aa (It a.shape ha) (Ac rfl)
 · rw[if_neg (by omega)]
   refine Ae (fun h2=>Ac (by rw[if_pos (by omega)];rfl)) (fun h2=> ?_)
   rw[if_neg (by omega)]
   exact Aa (VE (A7 n).1.length 1 (by omega) (Et (by decide) (by decide))) (Ac rfl)
theorem LE(s:List Int)(h:s.length≤1048576):Sp 99 [dI s] [.agg [dI (Alh s.length 0),dI s]]:=by
 refine Af 0 (Abz _ _) ?_
 simp only[Ah]
 refine Ad (Ad (Av (by simp only[Aj];omega) (Aa (It s h) (Ac ?_))))
 simp[dI]
theorem Ab1(n a:Arr)(s:List Int)(cs:List Cell)(hn:Fits n):Sp 101 [dA n,dA a,dI s,.sl (cs.map dC)] [dA (.mk (a.s|||A5 n) s cs)]:=by
 refine Af 0 (Ab2 _ _ _ _ _) (Aa (Em n hn) ?_)
 simp only[Ah]
 refine Aa (F9 a.s (A5 n)) (Ac ?_)
 simp only[Ah]
 rw[Dk];rfl
theorem Aaq(pre:List Int)(x f:Int)(rest frest:List Int):pre++Ha (x::rest) (f::frest)=(pre++[Ale .i64 (x+f)])++Ha rest frest:=by simp[Ha]
theorem Ab0(a:Arr)(s from_ size:List Int)(ha:A0 s=((a.cells.length:Int),0))(hl:from_.length=size.length)(hs:size.length≤1000)(hc:(A0 size).2=0):Sp 102 [.agg [dI from_,dI size],dA a,dI s,.int (A0 size).1] [.sl ((Jf a s from_ size (A0 size).1.toNat).map dC)]:=by
 have hk:=F1 size
 generalize hK:(A0 size).1=kz at *
 obtain ⟨K,rfl⟩ : ∃ K:Nat,kz=(K:Int):=⟨kz.toNat,by omega⟩
 refine Af 2049 (Ab3 _ _ _ _ _) (Aa (Sv a) ?_)
 simp only[Ah]
 refine Ad (Ad (Av (by simp only[Aj];omega) ?_))
 have key:=Da K (fun m k (out:List Cell)=>Km 2049 m (dI s) (out.map dC) (K:Int) (k:Int) (.agg [dI from_,dI size]) (dA a) (dC (Ct a))) (fun _ _=>[.sl ((Jf a s from_ size K).map dC)]) (fun k out=>out=Jf a s from_ size k)
  (fun m out hI=>by
   simp only[LF]
   exact Aq (Ac (by rw[hI])))
  (fun m k out hkK hI ih=>by
   have hol:out.length=k:=by rw[hI];simp[Jf]
   have hat:M3 size (k:Int) = [dI (Ip size (k:Int)),.bool true]:=by unfold M3;rw[if_pos ⟨hc,by omega,by rw[hK];omega⟩]
   have hsp:=XD size (k:Int)
   rw[hat]at hsp
   simp only[LF,J0,J1]
   refine Ad (Aa hsp ?_)
   simp only[Ah,M4]
   have fin : ∀ at2:List Int,at2=Ha (Ip size (k:Int)) from_→Tw (.call 176 [] [dI s,dI at2] fun Y3 =>
     .br ((qB Y3).toBool) (.br (decide (0≤(qA Y3).toInt)) (.br (decide ((qA Y3).toInt<((((dA a).fld 2).els).length:Int))) (.br (decide ((out.map dC).length + [(((dA a).fld 2).els).getD (Alf ((qA Y3).toInt)) D.nil].length≤Aj)) (Km 2049 m (dI s) ((out.map dC)++[(((dA a).fld 2).els).getD (Alf ((qA Y3).toInt)) D.nil]) (K:Int) (Ale .i64 ((k:Int)+1)) (.agg [dI from_,dI size]) (dA a) (dC (Ct a))) .fail) .fail) .fail)
       (.br (decide ((out.map dC).length + [dC (Ct a)].length≤Aj)) (Km 2049 m (dI s) ((out.map dC)++[dC (Ct a)]) (K:Int) (Ale .i64 ((k:Int)+1)) (.agg [dI from_,dI size]) (dA a) (dC (Ct a))) .fail)) [.sl ((Jf a s from_ size K).map dC)]:=by
    intro at2 hat2
    have hlen2:at2.length≤1000000:=by rw[hat2,JD _ _ (by rw[M4];omega),M4];omega
    refine Aa (XF s at2 hlen2) ?_
    have nxt : ∀ c:Cell,c=GT a.cells (Ct a) s from_ size k→Tw (Km 2049 m (dI s) ((out.map dC)++[dC c]) (K:Int) ((k+1:Nat):Int) (.agg [dI from_,dI size]) (dA a) (dC (Ct a))) [.sl ((Jf a s from_ size K).map dC)]:=by
     intro c hcc
     have:=ih (out++[c]) (by rw[hI,hcc];simp[Jf,List.range_succ])
     rw[List.map_append]at this
     exact this
    rw[Bb k]
    have hsc:GT a.cells (Ct a) s from_ size k=match Gw s at2 with | some k=>a.cells.getD k.toNat (Ct a) | none=>Ct a:=by rw[hat2];rfl
    cases hi:Gw s at2 with
    | none =>
     rw[hi]at hsc
     simp only[Qd,Ah]
     exact B_ rfl (Av (by simp only[All,Alz,Aj];omega) (nxt _ hsc.symm))
    | some j =>
     have hj:=NK ha hi
     obtain ⟨J,rfl⟩ : ∃ J:Nat,j=(J:Int):=⟨j.toNat,by omega⟩
     rw[hi]at hsc
     simp only[Qd,Ah]
     have hcj:(a.cells.map dC).getD J D.nil=dC (a.cells.getD J (Ct a)):=by
       rw[Ar (Alg (by omega)),Alk,Alg (by omega)];rfl
     rw[hcj]
     exact Ax rfl (Ad (Ad (Av (by simp only[All,Alz,Aj];omega) (nxt _ (by rw[hsc];rfl)))))
   have inner:=Da size.length (fun m' j (at2:List Int)=>Ti 2049 m m' (dI s) (out.map dC) (at2.map D.int) (K:Int) (k:Int) (size.length:Int) (j:Int) (.agg [dI from_,dI size]) (dA a) (dC (Ct a))) (fun _ _=>[.sl ((Jf a s from_ size K).map dC)])
    (fun j at2=>at2.length=size.length∧at2.take j++Ha (at2.drop j) (from_.drop j)=Ha (Ip size (k:Int)) from_)
    (fun m' at2 hI'=>by
     simp only[LG]
     refine Aq (fin at2 ?_)
     rw[← hI'.2,Amb (by omega),List.drop_of_length_le (by omega)]
     simp[Ha])
    (fun m' j at2 hj hI' ih'=>by
     have h1:at2[j]? = some at2[j]:=Alg (by omega)
     have h2:from_[j]? = some from_[j]:=Alg (by omega)
     simp only[LG,Ah,J0,Ar h1,Ar h2,Bb j]
     refine Ad (Ad (Ad (Ad (Ad (Ad (Ad ?_))))))
     have:=ih' (at2.set j (Ale .i64 (at2[j]+from_[j]))) ⟨by simpa using hI'.1,?_⟩
     · rw[List.map_set]at this
       exact this
     · have e1:at2.drop j=at2[j]::at2.drop (j+1):=Al6 (by omega)
       have e2:from_.drop j=from_[j]::from_.drop (j+1):=Al6 (by omega)
       have h3:=hI'.2
       rw[e1,e2,Aaq]at h3
       rw[← h3,List.drop_set_of_lt (by omega),List.take_set,CU h1]
       congr 1
       rw[List.set_append_right _ _ (by simp;omega)]
       simp[Nat.min_eq_left (show j≤at2.length by omega)])
    2049 0 (Ip size (k:Int)) (by omega) (by omega) ⟨M4 _ _,by simp⟩
   exact inner)
  2049 0 [] (by omega) (by omega) (by simp[Jf])
 exact key
theorem GX{α:Type}(pre:List α)(a b:α)(r:List α):(pre++a::r).set pre.length b=pre++b::r:=by
 rw[List.set_append_right _ _ (Als _),Nat.sub_self];rfl
theorem CV{α:Type}(pre:List α)(a:α)(r:List α):(pre++a::r)[pre.length]? = some a:=by
 rw[List.getElem?_append_right (Als _),Nat.sub_self];rfl
theorem LB(n a:Arr)(s from_ size:List Int)(hn:Fits n)(ha:A0 s=((a.cells.length:Int),0))(hl:from_.length=size.length)(hs:size.length≤1000) :
  Tw (.call 81 [] [D.sl (size.map D.int)] fun Y4 =>
   .br (((qB Y4).toInt)!=0) (.ret [D.agg [D.int 0,D.sl [],D.sl []],D.int ((qB Y4).toInt)])
   (.call 102 [] [D.agg [D.sl (from_.map D.int),D.sl (size.map D.int)],dA a,dI s,D.int ((qA Y4).toInt)] fun Y5 =>
   .call 101 [] [dA n,dA a,D.sl (size.map D.int),qA Y5] fun Y6 =>
   .ret [qA Y6,D.int 0])) [dA (Jx n a s from_ size).1,.int (Jx n a s from_ size).2]:=by
 refine Aa (Mn size) ?_
 unfold Jx
 simp only[Ah,Cq]
 refine Ae (fun h=>Ac (by rw[if_neg h])) (fun h=> ?_)
 have h0:(A0 size).2=0:=Alt.1 h
 rw[if_pos h0]
 refine Aa (Ab0 a s from_ size ha hl hs h0) ?_
 exact Aa (Ab1 n a size _ hn) (Ac rfl)
structure WinI (F G:List Int→List Int→List Int) (l s:List Int) (rest w0 w1:List Int):Prop where
 h : ∃ spre pre0 pre1 srest,s=spre++srest∧spre.length=pre0.length∧pre1.length=pre0.length∧pre0.length+rest.length=l.length∧rest.length≤srest.length∧w0=pre0++Alh srest.length 0∧w1=pre1++srest∧F l s=pre0++F rest srest∧G l s=pre1++G rest srest
theorem WinI.start {F G:List Int→List Int→List Int} {l s:List Int} (h:l.length≤s.length):WinI F G l s l (Alh s.length 0) s :=
 ⟨[],[],[],s,rfl,rfl,rfl,by simp,h,rfl,rfl,rfl,rfl⟩
theorem WinI.stop {F G:List Int→List Int→List Int} {l s w0 w1:List Int} (h:WinI F G l s [] w0 w1) (hF : ∀ x,F [] x=Alh x.length 0) (hG : ∀ x,G [] x=x):w0=F l s∧w1=G l s:=by
 obtain ⟨spre,pre0,pre1,srest,h1,h2,h3,h4,h5,h6,h7,h8,h9⟩:=h.h
 rw[h8,h9,hF,hG,h6,h7];exact ⟨rfl,rfl⟩
theorem WinI.next {F G:List Int→List Int→List Int} {l s w0 w1 rest:List Int} {x:Int} {k:Nat} (h:WinI F G l s (x::rest) w0 w1) (hk:l.drop k=x::rest) {f g:Int→Int→Int} (hF : ∀ x l y s,F (x::l) (y::s)=f x y::F l s) (hG : ∀ x l y s,G (x::l) (y::s)=g x y::G l s) :
  ∃ y,s[k]? = some y∧w1[k]? = some y∧w0[k]? = some 0∧w0.length=w1.length∧k<w1.length∧w1.length=s.length∧WinI F G l s rest (w0.set k (f x y)) (w1.set k (g x y))∧(f x y=0→w0.set k (f x y)=w0):=by
 obtain ⟨spre,pre0,pre1,srest,h1,h2,h3,h4,h5,h6,h7,h8,h9⟩:=h.h
 match srest,h5 with
 | y::srest,h5 =>
  have hle:=congrArg List.length hk
  rw[Alu,All]at hle
  rw[All]at h4
  have e0:k=pre0.length:=by omega
  have e1:k=pre1.length:=by omega
  have e2:k=spre.length:=by omega
  have hz:w0=pre0++0::Alh srest.length 0:=by rw[h6,All,List.replicate_succ]
  refine ⟨y,by rw[h1,e2];exact CV _ _ _,by rw[h7,e1];exact CV _ _ _,by rw[hz,e0];exact CV _ _ _,by rw[h6,h7];simp;omega,by rw[h7];simp;omega,by rw[h1,h7];simp;omega,⟨spre++[y],pre0++[f x y],pre1++[g x y],srest,by rw[h1];simp,by simp[h2],by simp[h3],by simp;omega,by simpa using h5,?_,?_,by rw[h8,hF];simp,by rw[h9,hG];simp⟩,fun h0=>by rw[h0,hz,e0,GX]⟩
  · rw[hz,e0,GX];simp
  · rw[h7,e1,GX];simp
theorem Abv(n a:Arr)(hn:Fits n)(hnl:n.cells.length≤2048)(hnt : ∀ c∈n.cells,c.n.top.length≤32)(ha:A0 a.shape=((a.cells.length:Int),0)):Sp 39 [dA n,dA a] [dA (Zv n a).1,.int (Zv n a).2]:=by
 have hsh:=Gl (l:=a.shape) (by rw[ha])
 have hax:=KE (n:=n) (a:=a)
 have hac:=KD (n:=n) (a:=a)
 refine Af 4096 (Abw _ _ _) (Aa (LA n a hn hnl hnt (by omega)) ?_)
 have hll:(Ci n a).2.2=0→(Ci n a).1.length≤(Ci n a).2.1.length∧(Ci n a).2.1.length≤6:=fun h=>hax h hsh.1
 unfold Zv
 generalize Ci n a=ax at *
 obtain ⟨l,s,e⟩:=ax
 simp only[Ah,Uu,Cq]
 refine Ae (fun h=>Ac (by rw[if_neg h])) (fun h=> ?_)
 have he:e=0:=Alt.1 h
 subst he
 rw[if_pos rfl]
 obtain ⟨l1,l2⟩:=hll rfl
 have hcs:=hac rfl ha
 simp only at l1 l2 hcs
 have hsl:=Gl (l:=s) (by rw[hcs])
 refine Aa (LE s (by omega)) ?_
 simp only[Ah,J0,J1]
 have key:=B1 l (fun m k (w:List Int×List Int)=>Ps 4096 m (dI s) (dI l) (l.length:Int) (k:Int) (dA n) (dA a) 0 0 (w.1.map D.int) (w.2.map D.int)) (fun _ _=>[dA (Jx n a s (I2 l s) (Ji l s)).1,.int (Jx n a s (I2 l s) (Ji l s)).2]) (fun rest w=>WinI I2 Ji l s rest w.1 w.2)
  (fun m k w hk hI=>by
   obtain ⟨e1,e2⟩:=hI.stop (fun x=>by simp[I2]) (fun x=>by simp[Ji])
   simp only[KZ]
   rw[e1,e2]
   exact Aq (LB n a s _ _ hn hcs (by rw[MS,HK]) (by rw[HK];omega)))
  (fun m k w x rest hdr hI ih=>by
   obtain ⟨h1,h2,h3⟩:=Bv hdr
   obtain ⟨y,g1,g2,g3,g4,g5,g6,g7,g8⟩:=hI.next hdr (f:=fun x y=>if x<0 then y-F6 x else 0) (g:=fun x _=>F6 x) (fun _ _ _ _=>rfl) (fun _ _ _ _=>rfl)
   have hy:=hsl.2 y (Alm g1)
   have hg:=ND x
   have hih:=ih (_,_) g7
   simp only[List.map_set]at hih
   have hgs:((w.2.map D.int).set k (D.int (F6 x))).getD k D.nil=D.int (F6 x):=by
     rw[Alk,List.getElem?_set_self (by simpa using g5)];rfl
   simp only[KZ,Ah,Ar h2,Ar g1,Bb k,List.length_set]
   refine Ad (Ad (Ad (Aa (LD x) ?_)))
   simp only[Ah]
   rw[hgs]
   simp only[Ak]
   refine Ad (Ad (Ae (fun hx=> ?_) (fun hx=> ?_)))
   · refine Ad (Ad (Ad (Ad (Ad (Ad ?_)))))
     rw[As (x:=y-F6 x) (by omega) (by omega)]
     rw[if_pos hx]at hih
     exact hih
   · rw[if_neg hx]at hih g8
     have e0:(w.1.map D.int).set k (D.int 0)=w.1.map D.int:=by rw[← List.map_set,g8 rfl]
     rw[e0]at hih
     exact hih)
  4096 0 (Alh s.length 0,s) (by omega) (by omega) (WinI.start l1)
 exact key
theorem Abt(n a:Arr)(hn:Fits n)(hnl:n.cells.length≤2048)(hnt : ∀ c∈n.cells,c.n.top.length≤32)(ha:A0 a.shape=((a.cells.length:Int),0)):Sp 40 [dA n,dA a] [dA (To n a).1,.int (To n a).2]:=by
 have hsh:=Gl (l:=a.shape) (by rw[ha])
 have hax:=KE (n:=n) (a:=a)
 have hac:=KD (n:=n) (a:=a)
 refine Af 4096 (Abu _ _ _) (Aa (LA n a hn hnl hnt (by omega)) ?_)
 have hll:(Ci n a).2.2=0→(Ci n a).1.length≤(Ci n a).2.1.length∧(Ci n a).2.1.length≤6:=fun h=>hax h hsh.1
 unfold To
 generalize Ci n a=ax at *
 obtain ⟨l,s,e⟩:=ax
 simp only[Ah,Uu,Cq]
 refine Ae (fun h=>Ac (by rw[if_neg h])) (fun h=> ?_)
 have he:e=0:=Alt.1 h
 subst he
 rw[if_pos rfl]
 obtain ⟨l1,l2⟩:=hll rfl
 have hcs:=hac rfl ha
 simp only at l1 l2 hcs
 have hsl:=Gl (l:=s) (by rw[hcs])
 refine Aa (LE s (by omega)) ?_
 simp only[Ah,J0,J1]
 have key:=B1 l (fun m k (w:List Int×List Int)=>Pr 4096 m (dI s) (dI l) (l.length:Int) (k:Int) (dA n) (dA a) 0 0 (w.1.map D.int) (w.2.map D.int)) (fun _ _=>[dA (Jx n a s (I1 l s) (Jh l s)).1,.int (Jx n a s (I1 l s) (Jh l s)).2]) (fun rest w=>WinI I1 Jh l s rest w.1 w.2)
  (fun m k w hk hI=>by
   obtain ⟨e1,e2⟩:=hI.stop (fun x=>by simp[I1]) (fun x=>by simp[Jh])
   simp only[KY]
   rw[e1,e2]
   exact Aq (LB n a s _ _ hn hcs (by rw[MR,HJ]) (by rw[HJ];omega)))
  (fun m k w x rest hdr hI ih=>by
   obtain ⟨h1,h2,h3⟩:=Bv hdr
   obtain ⟨y,g1,g2,g3,g4,g5,g6,g7,g8⟩:=hI.next hdr (f:=fun x y=>if 0<x then J4 x y else 0) (g:=fun x y=>y-J4 x y) (fun _ _ _ _=>rfl) (fun _ _ _ _=>rfl)
   have hy:=hsl.2 y (Alm g1)
   have hg:=ND x
   have ho:0≤J4 x y∧J4 x y≤2048:=by unfold J4;split <;> omega
   have hih:=ih (_,_) g7
   simp only[List.map_set]at hih
   simp only[KY,Ah,Ar h2,Ar g1,Bb k,List.length_set]
   refine Ad (Ad (Ad (Aa (LD x) ?_)))
   have ew:Ale .i64 (y-J4 x y)=y-J4 x y:=As (by omega) (by omega)
   simp only[Ah]
   refine Ad (Ad (Ad (Ad (Ad (Ad (Ae (fun hx=> ?_) (fun hx=> ?_)))))))
   · refine Ad (Ad ?_)
     rw[if_pos hx,← ew]at hih
     exact hih
   · rw[if_neg hx]at hih g8
     have e0:(w.1.map D.int).set k (D.int 0)=w.1.map D.int:=by rw[← List.map_set,g8 rfl]
     rw[e0,← ew]at hih
     exact hih)
  4096 0 (Alh s.length 0,s) (by omega) (by omega) (WinI.start l1)
 exact key
theorem AcN(n:Nat)(a0 b1 first2:D):fA [] n 36 [] [a0,b1,first2] =
 cK 86 [a0,b1,D.bool first2.toBool] fun Y1 =>
 .br (((qB Y1).toInt)!=0) (.ret [D.agg [D.int 0,D.sl [],D.sl []],D.int ((qB Y1).toInt)])
 (cK 87 [qA Y1] fun Y2 =>
 .br (((qB Y2).toInt)!=0) (.ret [D.agg [D.int 0,D.sl [],D.sl []],D.int ((qB Y2).toInt)])
 (cK 83 [D.int ((a0.fld 0).toInt),D.int ((b1.fld 0).toInt)] fun Y3 =>
 cK 88 [qA Y1,qA Y2] fun Y4 =>
 .ret [D.agg [D.int ((qA Y3).toInt),qA Y2,qA Y4],D.int 0])):=by kernel_rfl
theorem AcP(n:Nat)(a0:D):fA [] n 58 [] [a0] =
 bK (0<(((a0.fld 1).els).length:Int)) (cK 140 [a0.fld 1,D.int 0] fun Y1 =>
 kK (((a0.fld 2).els).length≤Aj) (.ret [D.agg [D.int ((a0.fld 0).toInt),D.sl [D.int ((qB Y1).toInt),D.int ((qC Y1).toInt)],D.sl ((a0.fld 2).els)]]))
 (kK (((a0.fld 2).els).length≤Aj) (.ret [D.agg [D.int ((a0.fld 0).toInt),D.sl [D.int 1,D.int 1],D.sl ((a0.fld 2).els)]])):=by kernel_rfl
theorem AcR(n:Nat)(a0 b1 first2:D):fA [] n 86 [] [a0,b1,first2] =
 .br first2.toBool (cK 172 [a0,b1.fld 1,D.int (if (if (((a0.fld 1).els).length:Int)<(((b1.fld 1).els).length:Int) then (((b1.fld 1).els).length:Int) else (((a0.fld 1).els).length:Int))<1 then 1 else (if (((a0.fld 1).els).length:Int)<(((b1.fld 1).els).length:Int) then (((b1.fld 1).els).length:Int) else (((a0.fld 1).els).length:Int))),D.int 0] fun Y1 =>
 .br (!((qB Y1).toBool)) (.ret [D.agg [D.agg [D.sl [],D.sl [],D.bool false],D.agg [D.sl [],D.sl [],D.bool false],D.int 0],D.int 5])
 (cK 172 [b1,a0.fld 1,D.int (if (if (((a0.fld 1).els).length:Int)<(((b1.fld 1).els).length:Int) then (((b1.fld 1).els).length:Int) else (((a0.fld 1).els).length:Int))<1 then 1 else (if (((a0.fld 1).els).length:Int)<(((b1.fld 1).els).length:Int) then (((b1.fld 1).els).length:Int) else (((a0.fld 1).els).length:Int))),D.int 0] fun Y2 =>
 .br (!((qB Y2).toBool)) (.ret [D.agg [D.agg [D.sl [],D.sl [],D.bool false],D.agg [D.sl [],D.sl [],D.bool false],D.int 0],D.int 5])
 (.ret [D.agg [qA Y1,qA Y2,D.int 0],D.int 0])))
 (cK 172 [a0,b1.fld 1,D.int (if (if (((a0.fld 1).els).length:Int)<(((b1.fld 1).els).length:Int) then (((b1.fld 1).els).length:Int) else (((a0.fld 1).els).length:Int))<1 then 1 else (if (((a0.fld 1).els).length:Int)<(((b1.fld 1).els).length:Int) then (((b1.fld 1).els).length:Int) else (((a0.fld 1).els).length:Int))),D.int (Ale .i64 ((if (if (((a0.fld 1).els).length:Int)<(((b1.fld 1).els).length:Int) then (((b1.fld 1).els).length:Int) else (((a0.fld 1).els).length:Int))<1 then 1 else (if (((a0.fld 1).els).length:Int)<(((b1.fld 1).els).length:Int) then (((b1.fld 1).els).length:Int) else (((a0.fld 1).els).length:Int)))-1))] fun Y3 =>
 .br (!((qB Y3).toBool)) (.ret [D.agg [D.agg [D.sl [],D.sl [],D.bool false],D.agg [D.sl [],D.sl [],D.bool false],D.int 0],D.int 5])
 (cK 172 [b1,a0.fld 1,D.int (if (if (((a0.fld 1).els).length:Int)<(((b1.fld 1).els).length:Int) then (((b1.fld 1).els).length:Int) else (((a0.fld 1).els).length:Int))<1 then 1 else (if (((a0.fld 1).els).length:Int)<(((b1.fld 1).els).length:Int) then (((b1.fld 1).els).length:Int) else (((a0.fld 1).els).length:Int))),D.int (Ale .i64 ((if (if (((a0.fld 1).els).length:Int)<(((b1.fld 1).els).length:Int) then (((b1.fld 1).els).length:Int) else (((a0.fld 1).els).length:Int))<1 then 1 else (if (((a0.fld 1).els).length:Int)<(((b1.fld 1).els).length:Int) then (((b1.fld 1).els).length:Int) else (((a0.fld 1).els).length:Int)))-1))] fun Y4 =>
 .br (!((qB Y4).toBool)) (.ret [D.agg [D.agg [D.sl [],D.sl [],D.bool false],D.agg [D.sl [],D.sl [],D.bool false],D.int 0],D.int 5])
 (.ret [D.agg [qA Y3,qA Y4,D.int (Ale .i64 ((if (if (((a0.fld 1).els).length:Int)<(((b1.fld 1).els).length:Int) then (((b1.fld 1).els).length:Int) else (((a0.fld 1).els).length:Int))<1 then 1 else (if (((a0.fld 1).els).length:Int)<(((b1.fld 1).els).length:Int) then (((b1.fld 1).els).length:Int) else (((a0.fld 1).els).length:Int)))-1))],D.int 0]))):=by kernel_rfl
def Vg:List (Nat×Orc):=[(2,⟨[(1,none),(12,some 23),(13,none),(14,none)],[(1,true)],[]⟩)]
noncomputable def Ns(n m2:Nat)(t12:D)(t13 t14:Int)(p1:D):Tree :=
 lA (eA Vg n 87 [1,0,1,0,0]) (Al Vg 2) m2 ⟨(.undef:: .ptr 1 []::uA 10++(.d 23 t12:: .i .i64 t13:: .i .i64 t14::uA 52)),[(1,.var 86 (.d 86 p1) true)],[1],[],[]⟩
  (Ai 0 (An (jA Vg n 87 [1,1]) (rA 87 [86] [.tmp 2,.tmp 3] [23,29])))
theorem NZ(n m2:Nat)(t12:D)(t13 t14:Int)(p1:D):Ns n (m2+1) t12 t13 t14 p1 =
 bK (t14<t13) (kK (0≤t14) (kK (t14<(t12.els.length:Int)) (.br (t14 != ((p1.fld 2).toInt)) (kK (0≤t14) (kK (t14<((((p1.fld 1).fld 0).els).length:Int)) (.br (((t12.els.getD (Alf t14) D.nil).toInt)!=(((((p1.fld 1).fld 0).els).getD (Alf t14) D.nil).toInt)) (.ret [D.sl [],D.int 4])
 (Ns n m2 t12 t13 (Ale .i64 (t14+1)) p1))))
 (Ns n m2 t12 t13 (Ale .i64 (t14+1)) p1))))
 (kK (0≤(p1.fld 2).toInt) (kK ((p1.fld 2).toInt<((((p1.fld 0).fld 0).els).length:Int)) (kK (0≤(p1.fld 2).toInt) (kK ((p1.fld 2).toInt<((((p1.fld 1).fld 0).els).length:Int)) (cK 173 [(p1.fld 0).fld 0,D.int ((p1.fld 2).toInt),D.int (Ale .i64 ((((((p1.fld 0).fld 0).els).getD (Alf ((p1.fld 2).toInt)) D.nil).toInt)+(((((p1.fld 1).fld 0).els).getD (Alf ((p1.fld 2).toInt)) D.nil).toInt)))] fun Y1 =>
 cK 81 [qA Y1] fun Y2 =>
 .br (((qB Y2).toInt)!=0) (.ret [D.sl [],D.int ((qB Y2).toInt)])
 (.ret [qA Y1,D.int 0])))))):=by kernel_rfl
theorem AcU(n:Nat)(p0:D):fA Vg n 87 [] [p0] =
 Ns n n ((p0.fld 0).fld 0) ((((p0.fld 0).fld 0).els).length:Int) 0 p0:=by kernel_rfl
def Vf:List (Nat×Orc):=[(5,⟨[(2,none),(9,none),(10,none),(11,none),(46,none),(47,none)],[(2,true)],[(.slot 11,1050,67)]⟩)]
noncomputable def Ve(n m5:Nat)(one9 other10:Int)(r11:List D)(t46 t47:Int)(p2:D):Tree :=
 lA (eA Vf n 88 [1,1,1,1,0,1,0,0]) (Al Vf 5) m5 ⟨(.undef:: .undef:: .ptr 2 []::uA 6++(.i .i64 one9:: .i .i64 other10:: .row 1050::uA 34++(.i .i64 t46:: .i .i64 t47::uA 16))),[(2,.var 86 (.d 86 p2) true),(1050,.row 67 r11 true)],[2,1050],[],[]⟩
  (Ai 0 (An (jA Vf n 88 [1,1,1,1,1]) (rA 88 [86,23] [.tmp 4] [24])))
theorem NY(n m5:Nat)(one9 other10:Int)(r11:List D)(t46 t47:Int)(p2:D):Ve n (m5+1) one9 other10 r11 t46 t47 p2 =
 bK (t47<t46) (cK 174 [p2.fld 0,D.sl r11,D.int t47,D.int one9] fun Y2 =>
 cK 174 [p2.fld 1,D.sl ((qA Y2).els),D.int t47,D.int other10] fun Y3 =>
 Ve n m5 one9 other10 ((qA Y3).els) t46 (Ale .i64 (t47+1)) p2)
 (.ret [D.sl r11]):=by kernel_rfl
theorem AcT(n:Nat)(p0 s1:D):fA Vf n 88 [] [p0,s1] =
 cK 140 [s1,D.int ((p0.fld 2).toInt)] fun Y1 =>
 kK (0≤(p0.fld 2).toInt) (kK ((p0.fld 2).toInt<((((p0.fld 0).fld 0).els).length:Int)) (kK (0≤(p0.fld 2).toInt) (kK ((p0.fld 2).toInt<((((p0.fld 1).fld 0).els).length:Int)) (kK (0≤0) (kK (0≤Ale .i64 (((qA Y1).toInt)*(Ale .i64 ((Ale .i64 ((((((p0.fld 0).fld 0).els).getD (Alf ((p0.fld 2).toInt)) D.nil).toInt)*((qC Y1).toInt)))+(Ale .i64 ((((((p0.fld 1).fld 0).els).getD (Alf ((p0.fld 2).toInt)) D.nil).toInt)*((qC Y1).toInt))))))) (kK (Ale .i64 (((qA Y1).toInt)*(Ale .i64 ((Ale .i64 ((((((p0.fld 0).fld 0).els).getD (Alf ((p0.fld 2).toInt)) D.nil).toInt)*((qC Y1).toInt)))+(Ale .i64 ((((((p0.fld 1).fld 0).els).getD (Alf ((p0.fld 2).toInt)) D.nil).toInt)*((qC Y1).toInt))))))≤Aj) (Ve n n (Ale .i64 ((((((p0.fld 0).fld 0).els).getD (Alf ((p0.fld 2).toInt)) D.nil).toInt)*((qC Y1).toInt))) (Ale .i64 ((((((p0.fld 1).fld 0).els).getD (Alf ((p0.fld 2).toInt)) D.nil).toInt)*((qC Y1).toInt))) (Alh (Alf 0) (D.agg [D.int 0,D.int 0,D.agg [D.bool false,D.sl [],D.sl []],D.int 0,D.sl []])) ((qA Y1).toInt) 0 p0))))))):=by kernel_rfl
theorem AcX(n:Nat)(a0 other1:D)(axes2 axis3:D):fA [] n 172 [] [a0,other1,axes2,axis3] =
 kK (0≤0) (kK (0≤axes2.toInt) (kK (axes2.toInt≤Aj) (.br ((((a0.fld 1).els).length:Int)==axes2.toInt) (kK ((Alh (Alf 0) (D.int 0)).length+((a0.fld 1).els).length≤Aj) (.ret [D.agg [D.sl ((Alh (Alf 0) (D.int 0))++((a0.fld 1).els)),a0.fld 2,D.bool false],D.bool true]))
 (.br ((((a0.fld 1).els).length:Int)==0) (.br ((other1.els.length:Int)==0) (kK ((Alh (Alf 0) (D.int 0)).length + [D.int 1].length≤Aj) (.ret [D.agg [D.sl ((Alh (Alf 0) (D.int 0))++[D.int 1]),a0.fld 2,D.bool true],D.bool true]))
 (kK ((Alh (Alf 0) (D.int 0)).length+other1.els.length≤Aj) (kK (0≤axis3.toInt) (kK (axis3.toInt<(((Alh (Alf 0) (D.int 0))++other1.els).length:Int)) (.ret [D.agg [D.sl (((Alh (Alf 0) (D.int 0))++other1.els).set (Alf axis3.toInt) (D.int 1)),a0.fld 2,D.bool true],D.bool true])))))
 (.br ((((a0.fld 1).els).length:Int)==(Ale .i64 (axes2.toInt-1))) (kK (0≤axis3.toInt) (kK (axis3.toInt≤(((a0.fld 1).els).length:Int)) (kK ((Alh (Alf 0) (D.int 0)).length+(((a0.fld 1).els).take (Alf axis3.toInt)).length≤Aj) (kK (((Alh (Alf 0) (D.int 0))++(((a0.fld 1).els).take (Alf axis3.toInt))).length + [D.int 1].length≤Aj) (kK (0≤axis3.toInt) (kK (axis3.toInt≤(((a0.fld 1).els).length:Int)) (kK ((((Alh (Alf 0) (D.int 0))++(((a0.fld 1).els).take (Alf axis3.toInt)))++[D.int 1]).length+(((a0.fld 1).els).drop (Alf axis3.toInt)).length≤Aj) (.ret [D.agg [D.sl ((((Alh (Alf 0) (D.int 0))++(((a0.fld 1).els).take (Alf axis3.toInt)))++[D.int 1])++(((a0.fld 1).els).drop (Alf axis3.toInt))),a0.fld 2,D.bool false],D.bool true]))))))))
 (.ret [D.agg [D.sl [],D.sl [],D.bool false],D.bool false])))))):=by kernel_rfl
def Vd:List (Nat×Orc):=[(4,⟨[(1,none),(4,none),(25,none),(26,none)],[(4,true)],[(.slot 1,1040,67)]⟩)]
noncomputable def Vc(n m4:Nat)(r1:List D)(t25 t26:Int)(b4:D):Tree :=
 lA (eA Vd n 174 [1,1,0,1,0,0]) (Al Vd 4) m4 ⟨(.undef:: .row 1040:: .undef:: .undef:: .ptr 4 []::uA 20++(.i .i64 t25:: .i .i64 t26::uA 10)),[(4,.var 84 (.d 84 b4) true),(1040,.row 67 r1 true)],[4,1040],[],[]⟩
  (Ai 0 (An (jA Vd n 174 [1,1,1]) (rA 174 [84,24,3,3] [.tmp 8] [24])))
theorem NW(n m4:Nat)(r1:List D)(t25 t26:Int)(b4:D):Vc n (m4+1) r1 t25 t26 b4 =
 bK (t26<t25) (kK (0≤0) (kK (0<(((b4.fld 1).els).length:Int)) (kK (r1.length + [((b4.fld 1).els).getD (Alf 0) D.nil].length≤Aj) (Vc n m4 (r1++[((b4.fld 1).els).getD (Alf 0) D.nil]) t25 (Ale .i64 (t26+1)) b4))))
 (.ret [D.sl r1]):=by kernel_rfl
theorem NX(n:Nat)(b0 r1:D)(i2 nn3:D):fA Vd n 174 [] [b0,r1,i2,nn3] =
 .br (!((b0.fld 2).toBool)) (kK (0≤Ale .i64 (i2.toInt*nn3.toInt)) (kK (Ale .i64 (i2.toInt*nn3.toInt)≤Ale .i64 ((Ale .i64 (i2.toInt*nn3.toInt))+nn3.toInt)) (kK (Ale .i64 ((Ale .i64 (i2.toInt*nn3.toInt))+nn3.toInt)≤(((b0.fld 1).els).length:Int)) (kK (r1.els.length+((((b0.fld 1).els).take (Alf (Ale .i64 ((Ale .i64 (i2.toInt*nn3.toInt))+nn3.toInt)))).drop (Alf (Ale .i64 (i2.toInt*nn3.toInt)))).length≤Aj) (.ret [D.sl (r1.els++((((b0.fld 1).els).take (Alf (Ale .i64 ((Ale .i64 (i2.toInt*nn3.toInt))+nn3.toInt)))).drop (Alf (Ale .i64 (i2.toInt*nn3.toInt)))))])))))
 (Vc n n r1.els nn3.toInt 0 b0):=by kernel_rfl
theorem XH(l:List Int)(hb:l.length≤6)(hx : ∀ x∈l,0≤x∧x≤2048):Sp 170 [dI l] [.int (Bd l 1)]:=by
 refine Af (l.length+1) (XI _ _) ?_
 have key:=B1 l (fun m k (p:Int)=>Rt (l.length+1) m p (dI l) (l.length:Int) (k:Int)) (fun rest p=>[.int (Bd rest p)]) (fun _ p=>0≤p∧p≤2048)
  (fun m k p hk hI=>by
   simp only[Yw]
   exact Aq (Ac rfl))
  (fun m k p x rest hd hI ih=>by
   obtain ⟨h1,h2,h3⟩:=Bv hd
   have hxx:=hx x (Alm h2)
   have hp:0≤p*x∧p*x≤4194304:=⟨Int.mul_nonneg hI.1 hxx.1,by have:=Int.mul_le_mul hI.2 hxx.2 hxx.1 (by omega);omega⟩
   simp only[Yw,B0,Ali,Aln,Ar h2,Ak,Bb k,As (x:=p*x) (by omega) (by omega)]
   repeat (refine Ad ?_)
   simp only[Bd]
   refine Ae (fun h=>Ac ?_) (fun h=> ?_)
   · rw[if_pos h]
   · rw[if_neg h];exact ih _ ⟨hp.1,by omega⟩)
  (l.length+1) 0 1 (by omega) (by omega) (by decide)
 simpa using key
def Ld(s:List Int)(x:Int):List D:=if (A0 s).2=0∧0≤x∧x<s.length then [.int (Bd (s.take x.toNat) 1),.int (s.getD x.toNat 0),.int (Bd (s.drop (x.toNat+1)) 1),.bool true] else [.int 0,.int 0,.int 0,.bool false]
theorem HI(s:List Int)(x:Int):Sp 140 [dI s,.int x] (Ld s x):=by
 refine Af 0 (AiQ _ _ _) (Aa (Mn s) ?_)
 unfold Ld
 simp only[Ah]
 refine Ae (fun h=>Ac (by rw[if_neg (fun hh=>h hh.1)])) (fun h=>Ae (fun h1=>Ac (by rw[if_neg (by omega)])) (fun h1=>Ae (fun h2=>Ac (by rw[if_neg (by omega)])) (fun h2=> ?_)))
 have h0:(A0 s).2=0:=Alt.1 h
 rw[if_pos ⟨h0,by omega,by omega⟩]
 obtain ⟨c1,c2⟩:=Gl h0
 obtain ⟨X,rfl⟩ : ∃ X:Nat,x=(X:Int):=⟨x.toNat,by omega⟩
 simp only[Bb X,Aln,← List.map_take,← List.map_drop,AbK]
 refine Ad (Ad (Aa (XH (s.take X) (by rw[Alw];omega) (fun y hy=>c2 y (List.mem_of_mem_take hy))) (Ad (Ad (Ad (Ad (Aa (XH (s.drop (X+1)) (by rw[Alu];omega) (fun y hy=>c2 y (List.mem_of_mem_drop hy))) (Ac ?_))))))))
 rw[Gu (show X<s.length by omega)]
 simp only[Ah]
def Sg(s:List Int)(x n:Int):List D:=if 0≤x∧x<s.length then [dI (s.set x.toNat n),.bool true] else [.sl [],.bool false]
theorem XG(s:List Int)(x n:Int)(hs:s.length≤1048576):Sp 173 [dI s,.int x,.int n] (Sg s x n):=by
 refine Af 0 (AiW _ _ _ _) ?_
 unfold Sg
 simp only[Ah]
 refine Ae (fun h1=>Ac (by rw[if_neg (by omega)])) (fun h1=>Ae (fun h2=>Ac (by rw[if_neg (by omega)])) (fun h2=>Aa (It s hs) ?_))
 rw[if_pos ⟨by omega,by omega⟩]
 simp only[Ah]
 refine Ad (Ad (Ac ?_))
 rw[← List.map_set];rfl
def F0(s:List Int)(cs:List Cell)(al:Bool):D:= .agg [dI s,.sl (cs.map dC),.bool al]
def Ft(x y:D)(k:Int):D:= .agg [x,y,.int k]
theorem AcV(s:List Int)(cs r:List Cell)(i n:Int)(h0:0≤i)(h1:0≤n)(h2:i*n+n≤cs.length)(hc:cs.length≤2048)(hr:r.length≤1000000):Sp 174 [F0 s cs false,.sl (r.map dC),.int i,.int n] [.sl ((r++(cs.take (i*n+n).toNat).drop (i*n).toNat).map dC)]:=by
 refine Af 0 (NX _ _ _ _ _) ?_
 have h3:0≤i*n:=Int.mul_nonneg h0 h1
 simp only[F0,J0,J1,Up,Ah,As (x:=i*n) (by omega) (by omega),As (x:=i*n+n) (by omega) (by omega),← List.map_take,← List.map_drop]
 refine Ax rfl (Ad (Ad (Ad (Av ?_ (Ac ?_)))))
 · simp only[Alu,Alw,Aj];omega
 · rw[← List.map_append]
theorem Akh(n:Nat)(k0 a1 first2:D):fA [] n 37 [] [k0,a1,first2] =
 cK 80 [k0] fun Y1 =>
 .br (((qB Y1).toInt)!=0) (.ret [D.agg [D.int 0,D.sl [],D.sl []],D.int ((qB Y1).toInt)])
 (.br ((((qA Y1).els).length:Int)!=1) (.ret [D.agg [D.int 0,D.sl [],D.sl []],D.int 4])
 (cK 84 [k0] fun Y2 =>
 cK 90 [a1,D.int ((qA Y2).toInt)] fun Y3 =>
 cK 91 [a1,D.bool first2.toBool] fun Y4 =>
 .br (!((qB Y4).toBool)) (.ret [qA Y3,D.int 0])
 (kK (0≤(qA Y4).toInt) (kK ((qA Y4).toInt<(((a1.fld 1).els).length:Int)) (.br (((((a1.fld 1).els).getD (Alf ((qA Y4).toInt)) D.nil).toInt)==0) (.ret [qA Y3,D.int 0])
 (kK (0≤(qA Y4).toInt) (kK ((qA Y4).toInt<(((a1.fld 1).els).length:Int)) (kK (0≤0) (kK (0<(((qA Y1).els).length:Int)) (.br (!(((((a1.fld 1).els).getD (Alf ((qA Y4).toInt)) D.nil).toInt)==(0:Int))) (.br (!(((((a1.fld 1).els).getD (Alf ((qA Y4).toInt)) D.nil).toInt)==(0:Int))) (cK 92 [qA Y3,a1.fld 1,D.fn 93 [.ref 3,.ref 3,.ref 3] [D.ref (D.int ((qA Y4).toInt)),D.ref (D.int (Int.tmod (Ale .i64 ((Int.tmod ((((qA Y1).els).getD (Alf 0) D.nil).toInt) ((((a1.fld 1).els).getD (Alf ((qA Y4).toInt)) D.nil).toInt))+((((a1.fld 1).els).getD (Alf ((qA Y4).toInt)) D.nil).toInt))) ((((a1.fld 1).els).getD (Alf ((qA Y4).toInt)) D.nil).toInt))),D.ref (D.int ((((a1.fld 1).els).getD (Alf ((qA Y4).toInt)) D.nil).toInt))]] fun Y5 =>
 .ret [qA Y5,D.int 0]) .fail) .fail)))))))))):=by kernel_rfl
def Mq:List (Nat×Orc):=[(9,⟨[(2,none),(3,none),(4,none),(5,none),(6,none),(7,none),(32,none),(33,none)],[(2,true),(3,true),(4,false),(5,false),(6,true)],[(.slot 7,1090,3)]⟩),(14,⟨[(2,none),(3,none),(4,none),(5,none),(6,none),(7,none),(40,some 23),(41,none),(42,none)],[(2,true),(3,true),(4,false),(5,false),(6,true)],[(.slot 7,1140,3)]⟩)]
def ZF:List ResultVar:=[.cell 4 26,.cell 5 29]
noncomputable def Zy(n m14:Nat)(s7:List D)(t40:D)(t41 t42:Int)(p2 a3:D)(r4_0 e5:Int)(l6:D):Tree :=
 lA (eA Mq n 38 [1,1,1,1,1,1,1,0,1,0,0]) (Al Mq 14) m14 ⟨(.undef:: .undef:: .ptr 2 []:: .ptr 3 []:: .ptr 4 []:: .ptr 5 []:: .ptr 6 []:: .row 1140::uA 32++(.d 23 t40:: .i .i64 t41:: .i .i64 t42::uA 38)),[(2,.var 26 (.d 26 p2) true),(3,.var 26 (.d 26 a3) true),(4,.var 26 (.agg 26 [.i .u64 r4_0,.mt,.mt]) true),(5,.var 29 (.i .i64 e5) true),(6,.var 23 (.d 23 l6) true),(1140,.row 3 s7 true)],[2,3,4,5,6,1140],[(94,[.ptr 4 [],.ptr 5 []])],[]⟩
  (Ai 2 (An (jA Mq n 38 [1,1,1,1,1,1,1,1]) (rA 38 [26,26] ZF [26,29])))
noncomputable def Zz(n m9:Nat)(s7:List D)(t32 t33:Int)(p2 a3:D)(r4_0 e5:Int)(l6:D):Tree :=
 lA (eA Mq n 38 [1,1,1,1,1,1,0,1,0,0]) (Al Mq 9) m9 ⟨(.undef:: .undef:: .ptr 2 []:: .ptr 3 []:: .ptr 4 []:: .ptr 5 []:: .ptr 6 []:: .row 1090::uA 24++(.i .i64 t32:: .i .i64 t33::uA 47)),[(2,.var 26 (.d 26 p2) true),(3,.var 26 (.d 26 a3) true),(4,.var 26 (.agg 26 [.i .u64 r4_0,.mt,.mt]) true),(5,.var 29 (.i .i64 e5) true),(6,.var 23 (.d 23 l6) true),(1090,.row 3 s7 true)],[2,3,4,5,6,1090],[(94,[.ptr 4 [],.ptr 5 []])],[]⟩
  (Ai 0 (An (jA Mq n 38 [1,1,1,1,1,1,1]) (rA 38 [26,26] ZF [26,29])))
theorem ZD(n m14:Nat)(s7:List D)(t40:D)(t41 t42:Int)(p2 a3:D)(r4_0 e5:Int)(l6:D):Zy n (m14+1) s7 t40 t41 t42 p2 a3 r4_0 e5 l6 =
 bK (t42<t41) (kK (0≤t42) (kK (t42<(t40.els.length:Int)) (bK (((t40.els.getD (Alf t42) D.nil).toInt)<1) (.ret [D.agg [D.int 0,D.sl [],D.sl []],D.int 3])
 (bK ((l6.els.length:Int)<((t40.els.getD (Alf t42) D.nil).toInt)) (.ret [D.agg [D.int 0,D.sl [],D.sl []],D.int 3])
 (kK (0≤Ale .i64 (((t40.els.getD (Alf t42) D.nil).toInt)-1)) (kK (Ale .i64 (((t40.els.getD (Alf t42) D.nil).toInt)-1)<(s7.length:Int)) (bK (0≤((s7.getD (Alf (Ale .i64 (((t40.els.getD (Alf t42) D.nil).toInt)-1))) D.nil).toInt)) (.ret [D.agg [D.int 0,D.sl [],D.sl []],D.int 3])
 (kK (0≤t42) (kK (t42<(((a3.fld 1).els).length:Int)) (kK (0≤Ale .i64 (((t40.els.getD (Alf t42) D.nil).toInt)-1)) (kK (Ale .i64 (((t40.els.getD (Alf t42) D.nil).toInt)-1)<(s7.length:Int)) (Zy n m14 (s7.set (Alf (Ale .i64 (((t40.els.getD (Alf t42) D.nil).toInt)-1))) (D.int ((((a3.fld 1).els).getD (Alf t42) D.nil).toInt))) t40 t41 (Ale .i64 (t42+1)) p2 a3 r4_0 e5 l6))))))))))))
 (cK 84 [p2] fun Y2 =>
 cK 90 [a3,D.int ((qA Y2).toInt)] fun Y3 =>
 cK 92 [qA Y3,D.sl s7,D.fn 95 [.ref 23] [D.ref l6]] fun Y4 =>
 .ret [qA Y4,D.int 0]):=by kernel_rfl
theorem ZE(n m9:Nat)(s7:List D)(t32 t33:Int)(p2 a3:D)(r4_0 e5:Int)(l6:D):Zz n (m9+1) s7 t32 t33 p2 a3 r4_0 e5 l6 =
 bK (t33<t32) (kK (0≤t33) (kK (t33<(s7.length:Int)) (Zz n m9 (s7.set (Alf t33) (D.int (-1))) t32 (Ale .i64 (t33+1)) p2 a3 r4_0 e5 l6)))
 (Zy n n s7 l6 (l6.els.length:Int) 0 p2 a3 r4_0 e5 l6):=by kernel_rfl
theorem Akd(n:Nat)(p0 a1:D):fA Mq n 38 [] [p0,a1] =
 cK 80 [p0] fun Y1 =>
 .br (((qB Y1).toInt)!=0) (.ret [D.agg [D.int 0,D.sl [],D.sl []],D.int ((qB Y1).toInt)])
 (.br ((((qA Y1).els).length:Int)!=(((a1.fld 1).els).length:Int)) (.ret [D.agg [D.int 0,D.sl [],D.sl []],D.int 4])
 (kK (0≤(((qA Y1).els).length:Int)) (kK ((((qA Y1).els).length:Int)≤(((qA Y1).els).length:Int)) (kK ((((qA Y1).els).length:Int)≤Aj) (Zz n n (Alh (Alf (((qA Y1).els).length:Int)) (D.int 0)) ((Alh (Alf (((qA Y1).els).length:Int)) (D.int 0)).length:Int) 0 p0 a1 0 ((qB Y1).toInt) (qA Y1)))))):=by kernel_rfl
theorem Akf(n:Nat)(a0 first1:D):fA [] n 59 [] [a0,first1] =
 cK 91 [a0,D.bool first1.toBool] fun Y1 =>
 .br (!((qB Y1).toBool)) (.ret [a0])
 (kK (0≤(qA Y1).toInt) (kK ((qA Y1).toInt<(((a0.fld 1).els).length:Int)) (cK 92 [a0,a0.fld 1,D.fn 142 [.ref 3,.ref 3] [D.ref (D.int ((((a0.fld 1).els).getD (Alf ((qA Y1).toInt)) D.nil).toInt)),D.ref (D.int ((qA Y1).toInt))]] fun Y2 =>
 .ret [qA Y2]))):=by kernel_rfl
theorem Akk(n:Nat)(a0:D):fA [] n 60 [] [a0] =
 cK 96 [a0.fld 1] fun Y1 =>
 cK 144 [D.sl ((qA Y1).els)] fun Y2 =>
 cK 92 [a0,D.sl ((qA Y2).els),D.fn 145 [] []] fun Y3 =>
 .ret [qA Y3]:=by kernel_rfl
theorem Akl(n:Nat)(a0 first1:D):fA [] n 91 [] [a0,first1] =
 .br ((((a0.fld 1).els).length:Int)==0) (.ret [D.int 0,D.bool false])
 (.br first1.toBool (.ret [D.int 0,D.bool true])
 (.ret [D.int (Ale .i64 ((((a0.fld 1).els).length:Int)-1)),D.bool true])):=by kernel_rfl
def Mr:List (Nat×Orc):=[(3,⟨[(1,some 23),(2,some 94),(3,none),(6,none),(7,none),(19,none),(20,none)],[(3,true),(6,false)],[(.slot 7,1030,67)]⟩)]
noncomputable def Fm(n m3:Nat)(s1 from2:D)(cells7:List D)(t19 t20:Int)(a3:D)(t6_0:Int):Tree :=
 lA (eA Mr n 92 [1,1,0,1,0,0]) (Al Mr 3) m3 ⟨(.undef:: .d 23 s1:: .d 94 from2:: .ptr 3 []:: .undef:: .undef:: .ptr 6 []:: .row 1030::uA 11++(.i .i64 t19:: .i .i64 t20::uA 33)),[(3,.var 26 (.d 26 a3) true),(6,.var 26 (.agg 26 [.i .u64 t6_0,.mt,.mt]) true),(1030,.row 67 cells7 true)],[3,6,1030],[],[]⟩
  (Ai 0 (An (jA Mr n 92 [1,1,1]) (rA 92 [26,23,94] [.cell 6 26] [26])))
theorem Ako(n m3:Nat)(s1 from2_c0:D)(from2_c1 from2_c2:D)(cells7:List D)(t19 t20:Int)(a3:D)(t6_0:Int):Fm n (m3+1) s1 (D.fn 93 [.ref 3,.ref 3,.ref 3] [from2_c0,from2_c1,from2_c2]) cells7 t19 t20 a3 t6_0 =
 bK (t20<t19) (cK 175 [s1,D.int t20] fun Y1 =>
 .call (D.fn 93 [.ref 3,.ref 3,.ref 3] [from2_c0,from2_c1,from2_c2]).fnId (D.fn 93 [.ref 3,.ref 3,.ref 3] [from2_c0,from2_c1,from2_c2]).fnCts ([D.sl ((qA Y1).els)]++(D.fn 93 [.ref 3,.ref 3,.ref 3] [from2_c0,from2_c1,from2_c2]).fnDs) fun Y2 =>
 cK 176 [a3.fld 1,D.sl ((qA Y2).els)] fun Y3 =>
 kK (0≤(qA Y3).toInt) (kK ((qA Y3).toInt<(((a3.fld 2).els).length:Int)) (kK (cells7.length + [((a3.fld 2).els).getD (Alf ((qA Y3).toInt)) D.nil].length≤Aj) (Fm n m3 s1 (D.fn 93 [.ref 3,.ref 3,.ref 3] [from2_c0,from2_c1,from2_c2]) (cells7++[((a3.fld 2).els).getD (Alf ((qA Y3).toInt)) D.nil]) t19 (Ale .i64 (t20+1)) a3 t6_0))))
 (cK 96 [s1] fun Y4 =>
 .ret [D.agg [D.int ((a3.fld 0).toInt),D.sl ((qA Y4).els),D.sl cells7]]):=by kernel_rfl
theorem Akm(n m3:Nat)(s1 from2_c0:D)(cells7:List D)(t19 t20:Int)(a3:D)(t6_0:Int):Fm n (m3+1) s1 (D.fn 95 [.ref 23] [from2_c0]) cells7 t19 t20 a3 t6_0 =
 bK (t20<t19) (cK 175 [s1,D.int t20] fun Y1 =>
 .call (D.fn 95 [.ref 23] [from2_c0]).fnId (D.fn 95 [.ref 23] [from2_c0]).fnCts ([D.sl ((qA Y1).els)]++(D.fn 95 [.ref 23] [from2_c0]).fnDs) fun Y2 =>
 cK 176 [a3.fld 1,D.sl ((qA Y2).els)] fun Y3 =>
 kK (0≤(qA Y3).toInt) (kK ((qA Y3).toInt<(((a3.fld 2).els).length:Int)) (kK (cells7.length + [((a3.fld 2).els).getD (Alf ((qA Y3).toInt)) D.nil].length≤Aj) (Fm n m3 s1 (D.fn 95 [.ref 23] [from2_c0]) (cells7++[((a3.fld 2).els).getD (Alf ((qA Y3).toInt)) D.nil]) t19 (Ale .i64 (t20+1)) a3 t6_0))))
 (cK 96 [s1] fun Y4 =>
 .ret [D.agg [D.int ((a3.fld 0).toInt),D.sl ((qA Y4).els),D.sl cells7]]):=by kernel_rfl
theorem Akn(n m3:Nat)(s1 from2_c0 from2_c1:D)(cells7:List D)(t19 t20:Int)(a3:D)(t6_0:Int):Fm n (m3+1) s1 (D.fn 142 [.ref 3,.ref 3] [from2_c0,from2_c1]) cells7 t19 t20 a3 t6_0 =
 bK (t20<t19) (cK 175 [s1,D.int t20] fun Y1 =>
 .call (D.fn 142 [.ref 3,.ref 3] [from2_c0,from2_c1]).fnId (D.fn 142 [.ref 3,.ref 3] [from2_c0,from2_c1]).fnCts ([D.sl ((qA Y1).els)]++(D.fn 142 [.ref 3,.ref 3] [from2_c0,from2_c1]).fnDs) fun Y2 =>
 cK 176 [a3.fld 1,D.sl ((qA Y2).els)] fun Y3 =>
 kK (0≤(qA Y3).toInt) (kK ((qA Y3).toInt<(((a3.fld 2).els).length:Int)) (kK (cells7.length + [((a3.fld 2).els).getD (Alf ((qA Y3).toInt)) D.nil].length≤Aj) (Fm n m3 s1 (D.fn 142 [.ref 3,.ref 3] [from2_c0,from2_c1]) (cells7++[((a3.fld 2).els).getD (Alf ((qA Y3).toInt)) D.nil]) t19 (Ale .i64 (t20+1)) a3 t6_0))))
 (cK 96 [s1] fun Y4 =>
 .ret [D.agg [D.int ((a3.fld 0).toInt),D.sl ((qA Y4).els),D.sl cells7]]):=by kernel_rfl
theorem Akp(n m3:Nat)(s1:D)(cells7:List D)(t19 t20:Int)(a3:D)(t6_0:Int):Fm n (m3+1) s1 (D.fn 145 [] []) cells7 t19 t20 a3 t6_0 =
 bK (t20<t19) (cK 175 [s1,D.int t20] fun Y1 =>
 .call (D.fn 145 [] []).fnId (D.fn 145 [] []).fnCts ([D.sl ((qA Y1).els)]++(D.fn 145 [] []).fnDs) fun Y2 =>
 cK 176 [a3.fld 1,D.sl ((qA Y2).els)] fun Y3 =>
 kK (0≤(qA Y3).toInt) (kK ((qA Y3).toInt<(((a3.fld 2).els).length:Int)) (kK (cells7.length + [((a3.fld 2).els).getD (Alf ((qA Y3).toInt)) D.nil].length≤Aj) (Fm n m3 s1 (D.fn 145 [] []) (cells7++[((a3.fld 2).els).getD (Alf ((qA Y3).toInt)) D.nil]) t19 (Ale .i64 (t20+1)) a3 t6_0))))
 (cK 96 [s1] fun Y4 =>
 .ret [D.agg [D.int ((a3.fld 0).toInt),D.sl ((qA Y4).els),D.sl cells7]]):=by kernel_rfl
theorem Aks(n:Nat)(a0 s1:D)(from2_c0 from2_c1 from2_c2:D):fA Mr n 92 [] [a0,s1,(D.fn 93 [.ref 3,.ref 3,.ref 3] [from2_c0,from2_c1,from2_c2])] =
 kK (0≤0) (kK (0≤(((a0.fld 2).els).length:Int)) (kK ((((a0.fld 2).els).length:Int)≤Aj) (Fm n n s1 (D.fn 93 [.ref 3,.ref 3,.ref 3] [from2_c0,from2_c1,from2_c2]) (Alh (Alf 0) (D.agg [D.int 0,D.int 0,D.agg [D.bool false,D.sl [],D.sl []],D.int 0,D.sl []])) (((a0.fld 2).els).length:Int) 0 a0 0))):=by kernel_rfl
theorem Akq(n:Nat)(a0 s1 from2_c0:D):fA Mr n 92 [] [a0,s1,(D.fn 95 [.ref 23] [from2_c0])] =
 kK (0≤0) (kK (0≤(((a0.fld 2).els).length:Int)) (kK ((((a0.fld 2).els).length:Int)≤Aj) (Fm n n s1 (D.fn 95 [.ref 23] [from2_c0]) (Alh (Alf 0) (D.agg [D.int 0,D.int 0,D.agg [D.bool false,D.sl [],D.sl []],D.int 0,D.sl []])) (((a0.fld 2).els).length:Int) 0 a0 0))):=by kernel_rfl
theorem Akr(n:Nat)(a0 s1:D)(from2_c0 from2_c1:D):fA Mr n 92 [] [a0,s1,(D.fn 142 [.ref 3,.ref 3] [from2_c0,from2_c1])] =
 kK (0≤0) (kK (0≤(((a0.fld 2).els).length:Int)) (kK ((((a0.fld 2).els).length:Int)≤Aj) (Fm n n s1 (D.fn 142 [.ref 3,.ref 3] [from2_c0,from2_c1]) (Alh (Alf 0) (D.agg [D.int 0,D.int 0,D.agg [D.bool false,D.sl [],D.sl []],D.int 0,D.sl []])) (((a0.fld 2).els).length:Int) 0 a0 0))):=by kernel_rfl
theorem Akt(n:Nat)(a0 s1:D):fA Mr n 92 [] [a0,s1,(D.fn 145 [] [])] =
 kK (0≤0) (kK (0≤(((a0.fld 2).els).length:Int)) (kK ((((a0.fld 2).els).length:Int)≤Aj) (Fm n n s1 (D.fn 145 [] []) (Alh (Alf 0) (D.agg [D.int 0,D.int 0,D.agg [D.bool false,D.sl [],D.sl []],D.int 0,D.sl []])) (((a0.fld 2).els).length:Int) 0 a0 0))):=by kernel_rfl
theorem Akg(n:Nat)(at0 c1:D)(c2 c3:D):fA [] n 93 [.ref 3,.ref 3,.ref 3] [at0,c1,c2,c3] =
 kK (0≤c1.unref.toInt) (kK (c1.unref.toInt<(at0.els.length:Int)) (.br (!(c3.unref.toInt == (0:Int))) (kK (0≤c1.unref.toInt) (kK (c1.unref.toInt<(at0.els.length:Int)) (.ret [D.sl (at0.els.set (Alf c1.unref.toInt) (D.int (Int.tmod (Ale .i64 (((at0.els.getD (Alf c1.unref.toInt) D.nil).toInt)+c2.unref.toInt)) c3.unref.toInt)))]))) .fail)):=by kernel_rfl
def IK:List (Nat×Orc):=[(2,⟨[(0,none),(3,none),(8,some 23),(9,none),(10,none)],[],[(.slot 0,0,3),(.slot 3,1021,3)]⟩)]
noncomputable def Zx(n m2:Nat)(at0 old3:List D)(t8:D)(t9 t10:Int):Tree :=
 lA (eA IK n 95 [1,1,0,0]) (Al IK 2) m2 ⟨(.row 0:: .undef:: .undef:: .row 1021::uA 4++(.d 23 t8:: .i .i64 t9:: .i .i64 t10::uA 13)),[(0,.row 3 at0 true),(1021,.row 3 old3 true)],[0,1021],[],[0]⟩
  (Ai 0 (rA 95 [23] [] []))
theorem ZC(n m2:Nat)(at0 old3:List D)(t8:D)(t9 t10:Int):Zx n (m2+1) at0 old3 t8 t9 t10 =
 bK (t10<t9) (kK (0≤t10) (kK (t10<(t8.els.length:Int)) (kK (0≤Ale .i64 (((t8.els.getD (Alf t10) D.nil).toInt)-1)) (kK (Ale .i64 (((t8.els.getD (Alf t10) D.nil).toInt)-1)<(old3.length:Int)) (kK (0≤t10) (kK (t10<(at0.length:Int)) (Zx n m2 (at0.set (Alf t10) (D.int ((old3.getD (Alf (Ale .i64 (((t8.els.getD (Alf t10) D.nil).toInt)-1))) D.nil).toInt))) old3 t8 t9 (Ale .i64 (t10+1)))))))))
 (.ret [D.sl at0]):=by kernel_rfl
theorem Akb(n:Nat)(at0 c1:D):fA IK n 95 [.ref 23] [at0,c1] =
 cK 96 [D.sl at0.els] fun Y1 =>
 Zx n n at0.els ((qA Y1).els) c1.unref (c1.unref.els.length:Int) 0:=by kernel_rfl
theorem Ake(n:Nat)(at0 c1 c2:D):fA [] n 142 [.ref 3,.ref 3] [at0,c1,c2] =
 kK (0≤c2.unref.toInt) (kK (c2.unref.toInt<(at0.els.length:Int)) (kK (0≤c2.unref.toInt) (kK (c2.unref.toInt<(at0.els.length:Int)) (.ret [D.sl (at0.els.set (Alf c2.unref.toInt) (D.int (Ale .i64 ((Ale .i64 (c1.unref.toInt-1))-((at0.els.getD (Alf c2.unref.toInt) D.nil).toInt)))))])))):=by kernel_rfl
theorem Aki(n:Nat)(at0:D):fA [] n 145 [] [at0] =
 cK 144 [D.sl at0.els] fun Y1 =>
 .ret [D.sl ((qA Y1).els)]:=by kernel_rfl
theorem Q9{α:Type}(pre:List α)(a b:α)(r:List α):(pre++a::r).set pre.length b=pre++b::r:=by
 rw[List.set_append_right _ _ (Als _),Nat.sub_self];rfl
theorem KA{α:Type}(pre:List α)(a:α)(r:List α):(pre++a::r)[pre.length]? = some a:=by
 rw[List.getElem?_append_right (Als _),Nat.sub_self];rfl
theorem VS(n:Nat) : ∀ (m:Nat) (A M B:List Int),M.length<2*m→A.length+M.length+B.length≤1000000 →
  Tw (Zj n m ((A++M++B).map D.int) (A.length:Int) (((A.length+M.length:Nat):Int)-1)) [dI (A++M.reverse++B)]
 | 0,A,M,B,h,_=>absurd h (by omega)
 | m+1,A,M,B,h,hl=>by
  rw[Ajv]
  by_cases h2:2≤M.length
  · obtain ⟨x,M',y,rfl⟩ : ∃ x M' y,M=x::(M'++[y]):=by
     match M,h2 with
     | x::R,h2 =>
      rcases List.eq_nil_or_concat R with rfl | ⟨M',y,rfl⟩
      · simp at h2
      · exact ⟨x,M',y,by simp⟩
    simp only[All,Alr,Alz]at h hl
    have e1:A++x::(M'++[y])++B=A++x::(M'++y::B):=by simp
    have e2:A++x::(M'++[y])++B=(A++x::M')++y::B:=by simp
    have e3:A++y::(M'++y::B)=(A++y::M')++y::B:=by simp
    have l3:A.length+M'.length+1=(A++y::M').length:=by simp;omega
    have h1:(A++x::(M'++[y])++B)[A.length]? = some x:=by rw[e1];exact KA A x _
    have h3:(A++x::(M'++[y])++B)[A.length+M'.length+1]? = some y:=by
     rw[e2,show A.length+M'.length+1=(A++x::M').length by simp;omega];exact KA _ y _
    have hj:((A.length+(x::(M'++[y])).length:Nat):Int)-1=((A.length+M'.length+1:Nat):Int):=by simp;omega
    have hlen:(A++x::(M'++[y])++B).length=A.length+M'.length+2+B.length:=by simp;omega
    have hw:Ale .i64 (((A.length+M'.length+1:Nat):Int)-1)=(((A++[y]).length+M'.length:Nat):Int)-1:=by rw[As (by omega) (by omega)];simp;omega
    have hw2:((A.length+1:Nat):Int)=((A++[y]).length:Int):=by simp
    simp only[hj,Aln,Ar h1,Ar h3,Ak,Ali,List.length_set,hlen]
    refine Ad (Ad (Ad (Ad (Ad (Ad (Ad (Ad (Ad ?_))))))))
    rw[hw,Fo (by omega),hw2,← List.map_set,← List.map_set]
    have e4:((A++x::(M'++[y])++B).set A.length y).set (A.length+M'.length+1) x=(A++[y])++M'++(x::B):=by
     rw[e1,Q9,e3,l3,Q9];simp
    rw[e4]
    have:=VS n m (A++[y]) M' (x::B) (by omega) (by simp;omega)
    simpa using this
  · refine Aq (Ac ?_)
    have:M.reverse=M:=by
     match M,h2 with
     | [],_=>rfl
     | [x],_=>rfl
     | x::y::r,h2=>exact absurd (by simp) h2
    rw[this];rfl
theorem VT(l:List Int)(h:l.length≤1000000):Sp 144 [dI l] [dI l.reverse]:=by
 refine Af (l.length+1) (Ajw _ _) ?_
 simp only[B0,Ali]
 rw[IU (by omega)]
 simpa using VS (l.length+1) (l.length+1) [] l [] (by omega) (by simpa using h)
def En(s:List Int)(i:Int):List Int:=if (A0 s).2=0∧0≤i∧i<(A0 s).1 then Ip s i else []
theorem AaI(s:List Int)(i:Int):(qA (M3 s i)).els=(En s i).map D.int:=by
 unfold M3 En
 split <;> rfl
theorem AaJ(s:List Int)(i:Int):(En s i).length≤s.length:=by
 unfold En
 split
 · rw[M4];exact Als _
 · simp
theorem AcC(o:Option Int):(qA (Qd o)).toInt=o.getD 0:=by cases o <;> rfl
def EE(a:Arr)(s:List Int)(g:List Int→List Int)(i:Nat):Cell:=a.cells.getD ((Gw a.shape (g (En s (i:Int)))).getD 0).toNat (Be 0)
def I8(a:Arr)(s:List Int)(g:List Int→List Int):Arr:= .mk a.s s ((Amd a.cells.length).map (EE a s g))
theorem Vw(F:D)(g:List Int→List Int)(a:Arr)(s:List Int)(ha:A0 a.shape=((a.cells.length:Int),0))(hs:s.length≤1000)
  (hF : ∀ (n m3:Nat) (s1:D) (cells7:List D) (t19:Int) (t20:Int) (a3:D) (t6_0:Int),Fm n (m3+1) s1 F cells7 t19 t20 a3 t6_0 =
   .br (decide (t20<t19)) (.call 175 [] [s1,D.int t20] fun Y1 =>
   .call F.fnId F.fnCts ([D.sl ((qA Y1).els)]++F.fnDs) fun Y2 =>
   .call 176 [] [a3.fld 1,D.sl ((qA Y2).els)] fun Y3 =>
   .br (decide (0≤(qA Y3).toInt)) (.br (decide ((qA Y3).toInt<(((a3.fld 2).els).length:Int))) (.br (decide (cells7.length + [((a3.fld 2).els).getD (Alf ((qA Y3).toInt)) D.nil].length≤Aj)) (Fm n m3 s1 F (cells7++[((a3.fld 2).els).getD (Alf ((qA Y3).toInt)) D.nil]) t19 (Ale .i64 (t20+1)) a3 t6_0) .fail) .fail) .fail)
   (.call 96 [] [s1] fun Y4 =>
   .ret [D.agg [D.int ((a3.fld 0).toInt),D.sl ((qA Y4).els),D.sl cells7]]))
  (hg : ∀ i:Nat,i<a.cells.length→Dn Tryz.prog md F.fnId F.fnCts (dI (En s (i:Int))::F.fnDs) [dI (g (En s (i:Int)))]∧(g (En s (i:Int))).length≤1000000) :
  Tw (Fm 4096 4096 (dI s) F [] (a.cells.length:Int) 0 (dA a) 0) [dA (I8 a s g)]:=by
 have hle:=(F1 a.shape).2
 rw[ha]at hle
 have hK:a.cells.length≤2048:=by simp only at hle;omega
 have key:=Da a.cells.length (fun m k (_:Unit)=>Fm 4096 m (dI s) F (((Amd k).map (EE a s g)).map dC) (a.cells.length:Int) (k:Int) (dA a) 0) (fun _ _=>[dA (I8 a s g)]) (fun _ _=>True)
  (fun m _ _=>by
    rw[hF]
    refine Aq (Aa (It s (by omega)) (Ac ?_))
    simp only[Ah]
    rw[I8,Dk];rfl)
  (fun m k _ hk _ ih=>by
    rw[hF]
    refine Ad (Aa (XD s (k:Int)) ?_)
    obtain ⟨h1,h2⟩:=hg k hk
    simp only[AaI,List.singleton_append]
    refine Aa h1 ?_
    simp only[Ah]
    refine Aa (XF a.shape _ h2) ?_
    have hb:0≤(Gw a.shape (g (En s (k:Int)))).getD 0∧(Gw a.shape (g (En s (k:Int)))).getD 0<(a.cells.length:Int):=by
     cases hi:Gw a.shape (g (En s (k:Int))) with
     | none=>exact ⟨by decide,by show (0:Int)<_;omega⟩
     | some j=>exact NK ha hi
    have hc:EE a s g k=a.cells.getD ((Gw a.shape (g (En s (k:Int)))).getD 0).toNat (Be 0):=rfl
    simp only[AcC]
    generalize (Gw a.shape (g (En s (k:Int)))).getD 0=z at hb hc
    obtain ⟨J,rfl⟩ : ∃ J:Nat,z=(J:Int):=⟨z.toNat,by omega⟩
    have hcj:(a.cells.map dC).getD J D.nil=dC (a.cells.getD J (Be 0)):=by
     rw[Ar (Alg (by omega)),Alk,Alg (by omega)];rfl
    simp only[Aln]at hc ⊢
    rw[hcj,← hc,Fo (by omega)]
    refine Ad (Ad (Av (by simp only[Ali,List.length_range,All,Alz,Aj];omega) ?_))
    have:=ih () trivial
    rw[List.range_succ,List.map_append,List.map_append]at this
    exact this)
  4096 0 () (by omega) (by omega) trivial
 simpa using key
theorem JI(a:Arr)(first:Bool)(ha:a.shape.length≤1000):Sp 91 [dA a,.bool first] [.int (if a.shape.length=0∨first then 0 else (a.shape.length:Int)-1),.bool (decide (a.shape.length≠0))]:=by
 refine Af 0 (Akl _ _ _) ?_
 simp only[Ah]
 refine Ae (fun h=>Ac ?_) (fun h=>Ch (fun hf=>Ac ?_) (fun hf=>Ac ?_))
 · rw[if_pos (.inl (by omega))];simp[show a.shape.length=0 by omega]
 · rw[if_pos (.inr hf)];simp[show ¬ a.shape.length=0 by omega]
 · rw[if_neg (by rintro (q | q);exact absurd q (by omega);rw[hf]at q;cases q),As (by omega) (by omega)];simp[show ¬ a.shape.length=0 by omega]
def El(a:Arr)(first:Bool):Nat:=if first then 0 else a.shape.length-1
theorem JG{a:Arr}{first:Bool}(h:a.shape.length≠0):El a first<a.shape.length:=by unfold El;split <;> omega
theorem JF{a:Arr}{first:Bool}(h:a.shape.length≠0):(if a.shape.length=0∨first then 0 else (a.shape.length:Int)-1)=((El a first:Nat):Int):=by
 unfold El
 cases first with
 | true=>simp
 | false=>rw[if_neg (by simpa using h)];simp;omega
theorem AS{s:List Int}{i:Nat}{c:Int}(h:A0 s=(c,0))(hi:(i:Int)<c):(En s (i:Int)).length=s.length:=by
 unfold En
 rw[if_pos ⟨by rw[h],by omega,by rw[h];exact hi⟩,M4]
def GM(x:Nat)(n:Int)(at_:List Int):List Int:=at_.set x (Ale .i64 (Ale .i64 (n-1)-at_.getD x 0))
def Yd(a:Arr)(first:Bool):Arr:=if a.shape.length=0 then a else I8 a a.shape (GM (El a first) (a.shape.getD (El a first) 0))
theorem ZG(a:Arr)(first:Bool)(ha:A0 a.shape=((a.cells.length:Int),0)):Sp 59 [dA a,.bool first] [dA (Yd a first)]:=by
 have hl:=(Iw ha).1
 refine Af 0 (Akf _ _ _) ?_
 simp only[Az]
 refine Aa (JI a first (by omega)) ?_
 simp only[Ah]
 unfold Yd
 refine Ae (fun h=> ?_) (fun h=> ?_)
 · rw[if_pos (Alt.1 h)];exact Ac rfl
 · have h0:=Alt.1 h
   have hx:=JG (first:=first) h0
   rw[if_neg h0,JF h0]
   simp only[Aln,Gu hx]
   refine Ad (Ad (Aa (?_:Sp _ _ [dA (I8 a a.shape (GM (El a first) (a.shape.getD (El a first) 0)))]) (Ac rfl)))
   refine Af 4096 (Akr _ _ _ _ _) ?_
   have hle:=(F1 a.shape).2
   rw[ha]at hle
   simp only[Ah]
   refine Ad (Ad (Av (by simp only[Aj]at *; omega) ?_))
   refine Vw _ _ a a.shape ha (by omega) (fun n m3 s1 c t19 t20 a3 t6=>Akn n m3 s1 _ _ c t19 t20 a3 t6) (fun i hi=> ?_)
   have hat:=AS ha (i:=i) (by omega)
   refine ⟨?_,by unfold GM;rw[List.length_set,hat];omega⟩
   refine Af 0 (Ake _ _ _ _) ?_
   simp only[D.unref,Ah,hat,Gu (show El a first<(En a.shape (i:Int)).length by omega)]
   refine Ad (Ad (Ad (Ad (Ac ?_))))
   rw[← List.map_set];rfl
def GO(x:Nat)(by_ n:Int)(at_:List Int):List Int:=at_.set x (Int.tmod (Ale .i64 (at_.getD x 0+by_)) n)
def Rq(k a:Arr)(first:Bool):Arr×Int:=if (A7 k).2≠0 then (.none,(A7 k).2) else if (A7 k).1.length≠1 then (.none,4) else
 if a.shape.length=0∨a.shape.getD (El a first) 0=0 then (C8 a (A5 k),0) else
 (I8 (C8 a (A5 k)) a.shape (GO (El a first) (Int.tmod (Ale .i64 (Int.tmod ((A7 k).1.getD 0 0) (a.shape.getD (El a first) 0)+a.shape.getD (El a first) 0)) (a.shape.getD (El a first) 0)) (a.shape.getD (El a first) 0)),0)
theorem ZH(k a:Arr)(first:Bool)(hk:Fits k)(hkl:k.cells.length≤2048)(hkt : ∀ c∈k.cells,c.n.top.length≤32)(ha:A0 a.shape=((a.cells.length:Int),0)):Sp 37 [dA k,dA a,.bool first] [dA (Rq k a first).1,.int (Rq k a first).2]:=by
 have hl:=(Iw ha).1
 refine Af 0 (Akh _ _ _ _) (Aa (Ju k hkl hkt) ?_)
 unfold Rq
 simp only[Ah,Cq]
 refine Ae (fun h=>Ac (by rw[if_pos h])) (fun h=> ?_)
 rw[if_neg h]
 refine Ae (fun h1=>Ac (by rw[if_pos (by omega)])) (fun h1=> ?_)
 have hk1:(A7 k).1.length=1:=by omega
 rw[if_neg (by omega)]
 refine Aa (Em k hk) ?_
 simp only[Ah]
 refine Aa (Fz a (A5 k)) (Aa (JI a first (by omega)) ?_)
 simp only[Ah]
 refine Ae (fun h0=> ?_) (fun h0=> ?_)
 · rw[if_pos (.inl (Alt.1 h0))];exact Ac rfl
 · have h0:=Alt.1 h0
   have hx:=JG (first:=first) h0
   rw[JF h0]
   simp only[Aln,Gu hx]
   refine Ad (Ad ?_)
   refine Ae (fun h2=>Ac (by rw[if_pos (.inr h2)])) (fun h2=> ?_)
   rw[if_neg (by rintro (q | q);exact h0 q;exact h2 q)]
   have hg0:=Gu (l:=(A7 k).1) (i:=0) (by omega)
   simp only[hg0]
   generalize hN:a.shape.getD (El a first) 0=N at *
   generalize (A7 k).1.getD 0 0=K at *
   have hb:decide (¬ N=0)=true:=decide_eq_true h2
   refine Ad (Ad (Ad (Ad (Ax hb (Ax hb ?_)))))
   refine Aa (?_:Sp _ _ [dA (I8 (C8 a (A5 k)) a.shape (GO (El a first) (Int.tmod (Ale .i64 (Int.tmod K N+N)) N) N))]) (Ac rfl)
   refine Af 4096 (Aks _ _ _ _ _ _) ?_
   have hle:=(F1 a.shape).2
   rw[ha]at hle
   have hrc:(C8 a (A5 k)).cells=a.cells:=by cases a;rfl
   have hrs:(C8 a (A5 k)).shape=a.shape:=by cases a;rfl
   simp only[Ah]
   rw[hrc]
   refine Ad (Ad (Av (by simp only[Aj]at *; omega) ?_))
   rw[← hrc]
   refine Vw _ _ (C8 a (A5 k)) a.shape (by rw[hrs,hrc];exact ha) (by omega) (fun n m3 s1 c t19 t20 a3 t6=>Ako n m3 s1 _ _ _ c t19 t20 a3 t6) (fun i hi=> ?_)
   rw[hrc]at hi
   have hat:=AS ha (i:=i) (by omega)
   refine ⟨?_,by unfold GO;rw[List.length_set,hat];omega⟩
   refine Af 0 (Akg _ _ _ _ _) ?_
   simp only[D.unref,Ah,hat,Gu (show El a first<(En a.shape (i:Int)).length by omega)]
   refine Ad (Ad (Ax hb (Ad (Ad (Ac ?_)))))
   rw[← List.map_set];rfl
def II(a:Arr):Arr:=I8 a a.shape.reverse List.reverse
theorem Akj(a:Arr)(ha:A0 a.shape=((a.cells.length:Int),0)):Sp 60 [dA a] [dA (II a)]:=by
 have hl:=(Iw ha).1
 refine Af 0 (Akk _ _) ?_
 simp only[Ah]
 refine Aa (It a.shape (by omega)) ?_
 simp only[Ah]
 refine Aa (VT a.shape (by omega)) ?_
 simp only[Ah]
 refine Aa (?_:Sp _ _ [dA (II a)]) (Ac rfl)
 refine Af 4096 (Akt _ _ _) ?_
 have hle:=(F1 a.shape).2
 rw[ha]at hle
 simp only[Ah]
 refine Ad (Ad (Av (by simp only[Aj]at *; omega) ?_))
 refine Vw _ _ a a.shape.reverse ha (by rw[List.length_reverse];omega) (fun n m3 s1 c t19 t20 a3 t6=>Akp n m3 s1 c t19 t20 a3 t6) (fun i hi=> ?_)
 have hat:=AaJ a.shape.reverse (i:Int)
 rw[List.length_reverse]at hat
 refine ⟨?_,by rw[List.length_reverse];omega⟩
 refine Af 0 (Aki _ _) (Aa (?_:Sp _ _ [dI (En a.shape.reverse (i:Int)).reverse]) (Ac rfl))
 simp only[B0]
 exact VT _ (by omega)
def Du:List Int→Int
 | []=>1
 | x::xs=>x*Du xs
theorem SV : ∀ {l:List Int},(∀ x∈l,1≤x)→1≤Du l
 | [],_=>by decide
 | x::xs,h=>by
  have:=Int.mul_le_mul (h x (by simp)) (SV (fun y hy=>h y (List.mem_cons_of_mem _ hy))) (by decide) (by have:=h x (by simp);omega)
  simpa [Du]using this
theorem W1 : ∀ (l:List Int) (p:Int),(∀ x∈l,1≤x)→1≤p→p≤2048→Bd l p=if p*Du l≤2048 then p*Du l else 0
 | [],p,_,_,h=>by simp only[Bd,Du,Int.mul_one];rw[if_pos h]
 | x::xs,p,hx,h1,h2=>by
  have hx1:=hx x (by simp)
  have hz:=SV (fun y hy=>hx y (List.mem_cons_of_mem _ hy))
  have hpx:=Int.mul_le_mul h1 hx1 (by decide) (by omega)
  rw[Me,Du,← Int.mul_assoc]
  have hm:=Int.mul_le_mul_of_nonneg_left hz (show 0≤p*x by omega)
  split
  · rw[if_neg (by omega)]
  · exact W1 xs (p*x) (fun y hy=>hx y (List.mem_cons_of_mem _ hy)) (by omega) (by omega)
theorem Agc{l m:List Int}(h:l.Perm m):Du l=Du m:=by
 induction h with
 | nil=>rfl
 | cons x _ ih=>simp only[Du,ih]
 | swap x y l=>simp only[Du];rw[Int.mul_left_comm]
 | trans _ _ ih1 ih2=>exact ih1.trans ih2
theorem AN{l m:List Int}(h:l.Perm m)(p:Int→Bool):l.any p=m.any p:=by
 rw[Bool.eq_iff_iff,List.any_eq_true,List.any_eq_true]
 exact ⟨fun ⟨x,hx,hp⟩=>⟨x,h.mem_iff.1 hx,hp⟩,fun ⟨x,hx,hp⟩=>⟨x,h.mem_iff.2 hx,hp⟩⟩
theorem Abr{l m:List Int}(h:l.Perm m):A0 l=A0 m:=by
 unfold A0
 rw[h.length_eq,AN h,AN h,AN h]
 split;· rfl
 split;· rfl
 split;· rfl
 split;· rfl
 rename_i h1 h2 h3 h4
 have hp:=Te h2 h3 h4
 rw[W1 l 1 (fun x hx=>(hp x (h.mem_iff.1 hx)).1) (by decide) (by decide),W1 m 1 (fun x hx=>(hp x hx).1) (by decide) (by decide),Agc h]
def I_:List Int→List Int→List Int→Option (List Int)
 | k::l,x::sh,s=>if k<1∨(s.length:Int)<k∨0≤s.getD (k-1).toNat 0 then none else I_ l sh (s.set (k-1).toNat x)
 | _,_,s=>some s
theorem Acc{s:List Int}{j:Nat}{x:Int}(hj:j<s.length)(hs:s.getD j 0<0)(hx:0≤x):((s.set j x).filter (fun y=>decide (0≤y))).Perm (x::s.filter (fun y=>decide (0≤y))):=by
 have e:s=s.take j++s[j]::s.drop (j+1):=by rw[← Al6 hj,Ama]
 have hl:(s.take j).length=j:=by rw[Alw];omega
 rw[Alk,Alg hj,Option.getD_some]at hs
 generalize s[j]=v at e hs
 generalize s.take j=A at e hl
 generalize s.drop (j+1)=B at e
 subst e
 rw[← hl,Q9,List.filter_append,List.filter_append,List.filter_cons,List.filter_cons,if_pos (by simpa using hx),if_neg (by simp;omega)]
 exact List.perm_middle
theorem RL : ∀ (l sh s r:List Int),I_ l sh s=some r→l.length=sh.length→(∀ x∈sh,0≤x) →
  (r.filter (fun y=>decide (0≤y))).Perm (s.filter (fun y=>decide (0≤y))++sh)∧r.length=s.length∧∀ k∈l,1≤k∧k≤(s.length:Int)
 | [],[],s,r,h,_,_=>by
  simp only[I_,Alo]at h
  subst h
  exact ⟨by simp,rfl,fun k hk=>by simp at hk⟩
 | k::l,x::sh,s,r,h,hl,hx=>by
  simp only[I_]at h
  split at h
  · cases h
  · rename_i g
    obtain ⟨i1,i2,i3⟩:=RL l sh _ r h (by simpa using hl) (fun y hy=>hx y (List.mem_cons_of_mem _ hy))
    rw[List.length_set]at i2 i3
    refine ⟨?_,i2,?_⟩
    · have:=Acc (s:=s) (j:=(k-1).toNat) (x:=x) (by omega) (by omega) (hx x (by simp))
      refine i1.trans ((this.append_right sh).trans ?_)
      exact List.perm_middle.symm
    · intro y hy
      rcases Alx.1 hy with rfl | hy
      · omega
      · exact i3 y hy
 | [],x::sh,s,r,_,hl,_=>by simp at hl
 | k::l,[],s,r,_,hl,_=>by simp at hl
theorem Af9{l sh r:List Int}(h:I_ l sh (Alh l.length (-1))=some r)(hl:l.length=sh.length)(hx : ∀ x∈sh,0≤x):r.Perm sh∧∀ k∈l,1≤k∧k≤(l.length:Int):=by
 obtain ⟨h1,h2,h3⟩:=RL l sh _ r h hl hx
 rw[Amg]at h2 h3
 have e:(Alh l.length (-1:Int)).filter (fun y=>decide (0≤y)) = []:=by
  rw[List.filter_eq_nil_iff]
  intro y hy
  rw[List.eq_of_mem_replicate hy];decide
 rw[e,Amo]at h1
 have hfl:r.filter (fun y=>decide (0≤y))=r:=by
  refine List.filter_eq_self.2 (List.length_filter_eq_length_iff.1 ?_)
  rw[h1.length_eq,h2,hl]
 rw[hfl]at h1
 exact ⟨h1,h3⟩
def Fu(l:List Int)(at_:List Int):List Int:=l.map (fun k=>at_.getD (k-1).toNat 0)
theorem Af8(l at_:List Int)(hl:l.length=at_.length)(hn:l.length≤1000)(hk : ∀ k∈l,1≤k∧k≤(l.length:Int)) :
  Dn Tryz.prog md 95 [.ref 23] [dI at_,.ref (dI l)] [dI (Fu l at_)]:=by
 refine Af 4096 (Akb _ _ _) ?_
 simp only[B0,Z3]
 refine Aa (It at_ (by omega)) ?_
 have key:=Da l.length (fun m i (_:Unit)=>Zx 4096 m ((Fu (l.take i) at_++at_.drop i).map D.int) (at_.map D.int) (dI l) (l.length:Int) (i:Int)) (fun _ _=>[dI (Fu l at_)]) (fun _ _=>True)
  (fun m _ _=>by
   rw[ZC]
   refine Aq (Ac ?_)
   rw[List.take_length,List.drop_of_length_le (by omega),Al2];rfl)
  (fun m i _ hi _ ih=>by
   have h1:l[i]? = some l[i]:=Alg hi
   have hkk:=hk l[i] (Amj hi)
   have e1:l.take (i+1)=l.take i++[l[i]]:=CU h1
   have hlen:(Fu (l.take i) at_++at_.drop i).length=l.length:=by simp[Fu];omega
   have Cf:(Fu (l.take i) at_++at_.drop i).set i (at_.getD (l[i] - 1).toNat 0)=Fu (l.take (i+1)) at_++at_.drop (i+1):=by
    have hpl:(Fu (l.take i) at_).length=i:=by simp[Fu];omega
    rw[Al6 (show i<at_.length by omega)]
    have:=Q9 (Fu (l.take i) at_) at_[i] (at_.getD (l[i] - 1).toNat 0) (at_.drop (i+1))
    rw[hpl]at this
    rw[this,e1];simp only[Fu,List.map_append,Aml,List.map_nil,Al4,List.singleton_append]
   generalize l[i]=k at *
   rw[ZC]
   have hw:Ale .i64 (k-1)=k-1:=As (by omega) (by omega)
   simp only[B0,Ali,Aln,Ar h1,Ak,hw,hlen,Gu (show (k-1).toNat<at_.length by omega),Bb i]
   refine Ad (Ad (Ad (Ad (Ad (Ad (Ad ?_))))))
   rw[← List.map_set,Cf]
   exact ih () trivial)
  4096 0 () (by omega) (by omega) trivial
 simpa [Fu]using key
def Mb(p a:Arr):Arr×Int:=if (A7 p).2≠0 then (.none,(A7 p).2) else if (A7 p).1.length≠a.shape.length then (.none,4) else
 match I_ (A7 p).1 a.shape (Alh (A7 p).1.length (-1)) with
 | none=>(.none,3)
 | some s=>(I8 (C8 a (A5 p)) s (Fu (A7 p).1),0)
theorem Akc(p a:Arr)(hk:Fits p)(hkl:p.cells.length≤2048)(hkt : ∀ c∈p.cells,c.n.top.length≤32)(ha:A0 a.shape=((a.cells.length:Int),0)):Sp 38 [dA p,dA a] [dA (Mb p a).1,.int (Mb p a).2]:=by
 have hl6:=(Iw ha).1
 have h0s:=(Gl (l:=a.shape) (by rw[ha])).2
 refine Af 4096 (Akd _ _ _) (Aa (Ju p hkl hkt) ?_)
 have hun:Mb p a=Mb p a:=rfl
 conv at hun=>rhs;unfold Mb
 generalize Mb p a=R at *
 generalize hl:(A7 p).1=l at *
 generalize (A7 p).2=e at *
 simp only[Ah,Cq]
 refine Ae (fun h=>Ac (by rw[hun,if_pos h])) (fun h=> ?_)
 rw[if_neg h]at hun
 refine Ae (fun h1=>Ac (by rw[hun,if_pos (by omega)])) (fun h1=> ?_)
 have hll:l.length=a.shape.length:=by omega
 rw[if_neg (by omega)]at hun
 refine Ad (Ad (Av (by simp only[Aj];omega) ?_))
 have second:=B1 l (fun m i (s:List Int)=>Zy 4096 m (s.map D.int) (dI l) (l.length:Int) (i:Int) (dA p) (dA a) 0 e (dI l)) (fun _ _=>[dA R.1,.int R.2])
  (fun rest s=>I_ l a.shape (Alh l.length (-1))=I_ rest (a.shape.drop (l.length-rest.length)) s∧s.length=l.length)
  (fun m i s hi hI=>by
   rw[ZD]
   refine Aq (Aa (Em p hk) ?_)
   simp only[Ah]
   refine Aa (Fz a (A5 p)) ?_
   have hg:I_ l a.shape (Alh l.length (-1))=some s:=by rw[hI.1];rfl
   rw[hg]at hun
   obtain ⟨hp1,hp2⟩:=Af9 hg hll (fun x hx=>(h0s x hx).1)
   have hcs:A0 s=((a.cells.length:Int),0):=by rw[Abr hp1,ha]
   have hrc:(C8 a (A5 p)).cells=a.cells:=by cases a;rfl
   have hrs:(C8 a (A5 p)).shape=a.shape:=by cases a;rfl
   have hle:=(F1 a.shape).2
   rw[ha]at hle
   simp only[Ah]
   refine Aa (?_:Sp _ _ [dA (I8 (C8 a (A5 p)) s (Fu l))]) (Ac (by rw[hun];rfl))
   refine Af 4096 (Akq _ _ _ _) ?_
   simp only[Ah]
   rw[hrc]
   refine Ad (Ad (Av (by simp only[Aj]at *; omega) ?_))
   rw[← hrc]
   refine Vw _ _ (C8 a (A5 p)) s (by rw[hrs,hrc];exact ha) (by omega) (fun n m3 s1 c t19 t20 a3 t6=>Akm n m3 s1 _ c t19 t20 a3 t6) (fun i hi=> ?_)
   rw[hrc]at hi
   have hat:=AS hcs (i:=i) (by omega)
   exact ⟨Af8 l _ (by rw[hat];omega) (by omega) hp2,by unfold Fu;rw[Ali];omega⟩)
  (fun m i s k rest hdr hI ih=>by
   obtain ⟨h4,h2,h3⟩:=Bv hdr
   have hle:=congrArg List.length hdr
   rw[Alu,All]at hle
   obtain ⟨hI,hsl⟩:=hI
   rw[show l.length-(k::rest).length=i by rw[All];omega,Al6 (show i<a.shape.length by omega)]at hI
   rw[show l.length-rest.length=i+1 by omega]at ih
   have hsi:a.shape[i]? = some a.shape[i]:=Alg (by omega)
   generalize a.shape[i]=x at *
   rw[ZD]
   simp only[Ah,Ar h2,Ar hsi,hsl]
   simp only[I_,hsl]at hI
   refine Ad (Ad (Ad (Ae (fun g=>Ac ?_) (fun g=>Ae (fun g2=>Ac ?_) (fun g2=> ?_)))))
   · rw[if_pos (.inl g)]at hI;rw[hI]at hun;rw[hun,Cq]
   · rw[if_pos (.inr (.inl g2))]at hI;rw[hI]at hun;rw[hun,Cq]
   · have hw:Ale .i64 (k-1)=k-1:=As (by omega) (by omega)
     simp only[hw,Gu (show (k-1).toNat<s.length by omega),Ak]
     refine Ad (Ad (Ae (fun g3=>Ac ?_) (fun g3=>Ad (Ad (Ad (Ad ?_))))))
     · rw[if_pos (.inr (.inr g3))]at hI;rw[hI]at hun;rw[hun,Cq]
     · rw[if_neg (by omega)]at hI
       rw[← List.map_set,Fo (by omega)]
       exact ih _ ⟨hI,by rw[List.length_set];exact hsl⟩)
  4096 0 (Alh l.length (-1)) (by omega) (by omega) ⟨by simp,by simp⟩
 have first:=Da l.length (fun m i (_:Unit)=>Zz 4096 m ((Alh i (-1:Int)++Alh (l.length-i) 0).map D.int) (l.length:Int) (i:Int) (dA p) (dA a) 0 e (dI l)) (fun _ _=>[dA R.1,.int R.2]) (fun _ _=>True)
  (fun m _ _=>by
   rw[ZE]
   refine Aq ?_
   simp only[Nat.sub_self,List.replicate_zero,Al2,B0,Ali]
   exact second)
  (fun m i _ hi _ ih=>by
   rw[ZE]
   simp only[Ali,Alr,Amg,Aln]
   refine Ad (Ad (Ad ?_))
   rw[Fo (by omega),← List.map_set]
   have e1:(Alh i (-1:Int)++Alh (l.length-i) 0).set i (-1)=Alh (i+1) (-1:Int)++Alh (l.length-(i+1)) 0:=by
     rw[show l.length-i=(l.length-(i+1))+1 by omega,List.replicate_succ (a:=(0:Int))]
     have:=Q9 (Alh i (-1:Int)) 0 (-1) (Alh (l.length-(i+1)) 0)
     rw[Amg]at this
     rw[this,List.replicate_succ' (n:=i)];simp
   rw[e1]
   exact ih () trivial)
  4096 0 () (by omega) (by omega) trivial
 simpa using first
structure Bk where
 sh:List Int
 cs:List Cell
 al:Bool
def Bk.d (x:Bk):D:=F0 x.sh x.cs x.al
theorem Q7 : ∀ (l m:List Int),Du (l++m)=Du l*Du m
 | [],m=>by simp[Du]
 | x::xs,m=>by simp only[List.cons_append,Du,Q7 xs m,Int.mul_assoc]
theorem ST : ∀ (l:List Int),Bd l 0=0
 | []=>rfl
 | x::xs=>by rw[Me,Int.zero_mul,if_neg (by decide)];exact ST xs
theorem SQ : ∀ (l:List Int) (p:Int),0∈l→Bd l p=0
 | x::xs,p,h=>by
  rw[Me]
  split
  · rfl
  · rcases Alx.1 h with h | h
    · rw[← h,Int.mul_zero];exact ST xs
    · exact SQ xs _ h
theorem Q5 : ∀ (l:List Int) (p:Int),(∀ x∈l,0≤x∧x≤2048)→0≤p→p≤2048→0≤Bd l p∧Bd l p≤2048
 | [],p,_,h1,h2=>⟨h1,h2⟩
 | x::xs,p,h,h1,h2=>by
  rw[Me]
  split
  · omega
  · exact Q5 xs _ (fun y hy=>h y (List.mem_cons_of_mem _ hy)) (Int.mul_nonneg h1 (h x (by simp)).1) (by omega)
theorem Q6{l:List Int}(hl : ∀ x∈l,0≤x∧x≤2048)(h:Bd l 1≠0):(∀ x∈l,1≤x)∧Bd l 1=Du l:=by
 have h1 : ∀ x∈l,1≤x:=fun x hx=>by
  have:=(hl x hx).1
  rcases Int.lt_or_eq_of_le this with g | g
  · omega
  · exact absurd (SQ l 1 (by rw[g];exact hx)) h
 refine ⟨h1,?_⟩
 rw[W1 l 1 h1 (by decide) (by decide),Int.one_mul]at h ⊢
 split at h
 · rename_i g;rw[if_pos g]
 · exact absurd rfl h
theorem BM{s:List Int}{c:Int}(h:A0 s=(c,0))(h1 : ∀ x∈s,1≤x):c=Du s∧Du s≤2048:=by
 have hle:=(F1 s).2
 rw[h]at hle
 rcases (Iw h).2 with ⟨h0,_⟩ | ⟨h2,h3,h4⟩
 · exact absurd (h1 0 h0) (by decide)
 · have:=(Q6 (fun x hx=>⟨by have:=(h2 x hx).1;omega,(h2 x hx).2⟩) (by rw[h3];exact h4)).2
   simp only at hle
   omega
structure BkOk (x:Bk) (axes:Nat):Prop where
 len:x.sh.length=axes
 rng : ∀ v∈x.sh,0≤v∧v≤2048
 cells:x.al=false→(∀ v∈x.sh,1≤v)→(x.cs.length:Int)=Du x.sh
 alone:x.al=true→1≤x.cs.length
 few:x.cs.length≤2048
def Gg(a:Arr)(other:List Int)(axes axis:Nat):Option Bk :=
 if a.shape.length=axes then some ⟨a.shape,a.cells,false⟩
 else if a.shape.length=0 then some ⟨if other.length=0 then [1] else other.set axis 1,a.cells,true⟩
 else if a.shape.length+1=axes then some ⟨a.shape.take axis++[1]++a.shape.drop axis,a.cells,false⟩
 else none
theorem ZS{a:Arr}{other:List Int}{axes axis:Nat}{x:Bk}(h:Gg a other axes axis=some x)(ha:A0 a.shape=((a.cells.length:Int),0))(ho : ∀ v∈other,0≤v∧v≤2048)(h1:1≤axes)(h2:axis<axes)(h3:a.shape.length=0→other.length=0→axes=1)(h4:a.shape.length=0→other.length≠0→axes=other.length):BkOk x axes:=by
 have hr:=(Gl (l:=a.shape) (by rw[ha])).2
 have hle:=(F1 a.shape).2
 rw[ha]at hle
 have hcl:a.cells.length≤2048:=by simp only at hle;omega
 unfold Gg at h
 split at h
 · rename_i g
   injection h with h;subst h
   exact ⟨g,hr,fun _ hv=>(BM ha hv).1,(fun h=>by cases h),hcl⟩
 split at h
 · rename_i g0 g
   injection h with h;subst h
   have hc:a.cells.length=1:=by
     have e:a.shape = []:=Al7.1 g
     rw[e,show A0 []=(1,0) by decide]at ha
     injection ha with ha;omega
   refine ⟨?_,?_,(fun h=>by cases h),fun _=>by show 1≤a.cells.length;omega,hcl⟩
   · simp only
     split
     · rename_i g2;rw[h3 g g2];rfl
     · rename_i g2;rw[List.length_set,h4 g g2]
   · simp only
     split
     · intro v hv;rw[List.mem_singleton.1 hv];decide
     · intro v hv
       rcases List.mem_or_eq_of_mem_set hv with q | q
       · exact ho v q
       · rw[q];decide
 split at h
 · rename_i g0 g1 g
   injection h with h;subst h
   refine ⟨?_,?_,fun _ hv=> ?_,(fun h=>by cases h),hcl⟩
   · simp only[Alr,Alw,All,Alz,Alu];omega
   · intro v hv
     simp only[List.mem_append,List.mem_singleton]at hv
     rcases hv with (q | q) | q
     · exact hr v (List.mem_of_mem_take q)
     · rw[q];decide
     · exact hr v (List.mem_of_mem_drop q)
   · have hv2 : ∀ v∈a.shape,1≤v:=fun v hvv=>hv v (by
       rw[← Ama axis a.shape,List.mem_append]at hvv
       simp only[List.mem_append,List.mem_singleton]
       rcases hvv with q | q
       · exact .inl (.inl q)
       · exact .inr q)
     simp only[Q7,Du,Int.mul_one]
     rw[← Q7,Ama]
     exact (BM ha hv2).1
 · cases h
theorem OB(a:Arr)(other:List Int)(axes axis:Nat)(hl:a.shape.length≤1000)(ho:other.length≤1000)(h1:1≤axes)(h2:axis<axes)(h5:axes≤1000)(h4:a.shape.length=0→other.length≠0→axes=other.length) :
   Sp 172 [dA a,dI other,.int (axes:Int),.int (axis:Int)] (match Gg a other axes axis with | some x=>[x.d,.bool true] | none=>[F0 [] [] false,.bool false]):=by
 refine Af 0 (AcX _ _ _ _ _) ?_
 have hw:Ale .i64 ((axes:Int)-1)=(axes:Int)-1:=As (by omega) (by omega)
 simp only[Ah,hw,List.replicate_zero,Amo,Alz,← List.map_take,← List.map_drop,Alw,Alu,All]
 unfold Gg
 refine Ad (Ad (Av (by simp only[Aj];omega) (Ae (fun g=> ?_) (fun g=>Ae (fun g1=> ?_) (fun g1=>Ae (fun g2=> ?_) (fun g2=> ?_))))))
 · rw[if_pos (by omega)]
   exact Av (by simp only[Aj];omega) (Ac rfl)
 · rw[if_neg (by omega),if_pos (by omega)]
   refine Ae (fun q=> ?_) (fun q=> ?_)
   · exact Av (by simp[Aj]) (Ac (by rw[if_pos (by omega)];rfl))
   · have:=h4 (by omega) (by omega)
     rw[if_neg (by omega)]
     refine Av (by simp only[Aj];omega) (Ad (Ad (Ac ?_)))
     rw[show (D.int 1)=D.int ((1:Int)) from rfl,← List.map_set];rfl
 · rw[if_neg (by omega),if_neg (by omega),if_pos (by omega)]
   refine Ad (Ad (Av (by simp only[Aj];omega) (Av (by simp only[Aj];omega) (Ad (Ad (Av (by simp only[Aj,Alr,Ali,Alw,All,Alz];omega) (Ac ?_)))))))
   simp[Bk.d,F0,dI]
 · rw[if_neg (by omega),if_neg (by omega),if_neg (by omega)]
   exact Ac rfl
def Ig(x:Bk)(i n:Nat):List Cell:=if x.al then Alh n (x.cs.getD 0 (Be 0)) else (x.cs.take (i*n+n)).drop (i*n)
theorem VW(x:Bk)(i n:Nat):(Ig x i n).length≤n:=by
 unfold Ig
 split
 · simp
 · simp only[Alu,Alw];omega
theorem OA(x:Bk)(r:List Cell)(i n:Nat)(h1:x.al=false→i*n+n≤x.cs.length)(h2:x.al=true→1≤x.cs.length)(hc:x.cs.length≤2048)(hn:n≤100000)(hr:r.length≤1000000) :
  Sp 174 [x.d,.sl (r.map dC),.int (i:Int),.int (n:Int)] [.sl ((r++Ig x i n).map dC)]:=by
 obtain ⟨sh,cs,al⟩:=x
 simp only at h1 h2 hc
 cases al with
 | false =>
  have:=AcV sh cs r (i:Int) (n:Int) (by omega) (by omega) (by have:=h1 rfl;omega) hc hr
  rw[show ((i:Int)*(n:Int)+(n:Int)).toNat=i*n+n by omega,show ((i:Int)*(n:Int)).toNat=i*n by omega]at this
  exact this
 | true =>
  have hc1:=h2 rfl
  refine Af 100001 (NX _ _ _ _ _) (B_ rfl ?_)
  simp only[Dp,Ak]
  have hg:(cs.map dC).getD 0 D.nil=dC (cs.getD 0 (Be 0)):=by
   rw[Ar (Alg (by omega)),Alk,Alg (by omega)];rfl
  have key:=Da n (fun m k (_:Unit)=>Vc 100001 m ((r++Alh k (cs.getD 0 (Be 0))).map dC) (n:Int) (k:Int) (F0 sh cs true)) (fun _ _=>[.sl ((r++Ig ⟨sh,cs,true⟩ i n).map dC)]) (fun _ _=>True)
   (fun m _ _=>by
    rw[NW]
    exact Aq (Ac rfl))
   (fun m k _ hk _ ih=>by
    rw[NW]
    simp only[F0,J1,Dp,Ali,Int.toNat_zero,hg]
    refine Ad (Ad (Ad (Av (by simp only[Alr,Amg,All,Alz,Aj];omega) ?_)))
    have:=ih () trivial
    rw[List.replicate_succ',← Al4,List.map_append]at this
    rw[Fo (by omega)]
    exact this)
   100001 0 () (by omega) (by omega) trivial
  simpa [Bk.d]using key
def DZ(x y:Bk)(axis:Nat)(s:List Int):List Cell :=
 (Amd (Bd (s.take axis) 1).toNat).flatMap (fun i=>Ig x i ((x.sh.getD axis 0).toNat*(Bd (s.drop (axis+1)) 1).toNat)++Ig y i ((y.sh.getD axis 0).toNat*(Bd (s.drop (axis+1)) 1).toNat))
structure Near (x:Bk) (axis:Nat) (s:List Int):Prop where
 ahead:x.sh.take axis=s.take axis
 behind:x.sh.drop (axis+1)=s.drop (axis+1)
theorem QI{x:Bk}{axes axis:Nat}{s:List Int}(hx:BkOk x axes)(ha:axis<axes)(hn:Near x axis s)(hs : ∀ v∈s,0≤v∧v≤2048)(hal:x.al=false) :
  (Bd (s.take axis) 1).toNat*((x.sh.getD axis 0).toNat*(Bd (s.drop (axis+1)) 1).toNat)≤x.cs.length:=by
 have r1:=Q5 (s.take axis) 1 (fun v hv=>hs v (List.mem_of_mem_take hv)) (by decide) (by decide)
 have r2:=Q5 (s.drop (axis+1)) 1 (fun v hv=>hs v (List.mem_of_mem_drop hv)) (by decide) (by decide)
 have hk:x.sh.getD axis 0=x.sh[axis]'(by rw[hx.len];exact ha):=by rw[Alk,Alg (by rw[hx.len];exact ha)];rfl
 have hkr:=hx.rng _ (Amj (by rw[hx.len];exact ha):x.sh[axis]'(by rw[hx.len];exact ha)∈x.sh)
 have hsplit:x.sh=s.take axis++x.sh.getD axis 0::s.drop (axis+1):=by
  rw[← hn.ahead,← hn.behind,hk,← Al6,Ama]
 rw[← hk]at hkr
 generalize x.sh.getD axis 0=k at *
 rcases Decidable.em (Bd (s.take axis) 1=0) with e | e
 · rw[e];simp
 rcases Decidable.em (Bd (s.drop (axis+1)) 1=0) with e2 | e2
 · rw[e2];simp
 rcases Decidable.em (k=0) with e3 | e3
 · rw[e3];simp
 obtain ⟨p1,p2⟩:=Q6 (fun v hv=>hs v (List.mem_of_mem_take hv)) e
 obtain ⟨p3,p4⟩:=Q6 (fun v hv=>hs v (List.mem_of_mem_drop hv)) e2
 have hc:=hx.cells hal (fun v hv=>by
  rw[hsplit]at hv
  rcases List.mem_append.1 hv with q | q
  · exact p1 v q
  · rcases Alx.1 q with q | q
    · omega
    · exact p3 v q)
 rw[hsplit,Q7,Du,← p2,← p4]at hc
 generalize Bd (s.take axis) 1=A at *
 generalize Bd (s.drop (axis+1)) 1=B at *
 obtain ⟨A',rfl⟩ : ∃ n:Nat,A=(n:Int):=⟨A.toNat,by omega⟩
 obtain ⟨B',rfl⟩ : ∃ n:Nat,B=(n:Int):=⟨B.toNat,by omega⟩
 obtain ⟨k',rfl⟩ : ∃ n:Nat,k=(n:Int):=⟨k.toNat,by omega⟩
 simp only[Aln]
 have:(x.cs.length:Int)=((A'*(k'*B'):Nat):Int):=by rw[hc];simp
 omega
theorem AcS(x y:Bk)(axes axis:Nat)(s:List Int)(hx:BkOk x axes)(hy:BkOk y axes)(ha:axis<axes)(hnx:Near x axis s)(hny:Near y axis s)(hsl:s.length=axes)(hsx:s.getD axis 0=x.sh.getD axis 0+y.sh.getD axis 0)(hc:(A0 s).2=0) :
  Sp 88 [Ft x.d y.d (axis:Int),dI s] [.sl ((DZ x y axis s).map dC)]:=by
 obtain ⟨hl6,hs⟩:=Gl hc
 have r1:=Q5 (s.take axis) 1 (fun v hv=>hs v (List.mem_of_mem_take hv)) (by decide) (by decide)
 have r2:=Q5 (s.drop (axis+1)) 1 (fun v hv=>hs v (List.mem_of_mem_drop hv)) (by decide) (by decide)
 have gx:(x.sh.map D.int).getD axis D.nil=D.int (x.sh.getD axis 0):=Gu (by rw[hx.len];exact ha)
 have gy:(y.sh.map D.int).getD axis D.nil=D.int (y.sh.getD axis 0):=Gu (by rw[hy.len];exact ha)
 have memD : ∀ {l:List Int},axis<l.length→l.getD axis 0∈l:=fun h=>by rw[Alk,Alg h];exact Amj h
 have kx:=hx.rng _ (memD (l:=x.sh) (by rw[hx.len];exact ha))
 have ky:=hy.rng _ (memD (l:=y.sh) (by rw[hy.len];exact ha))
 have cx:=fun h=>QI hx ha hnx hs h
 have cy:=fun h=>QI hy ha hny hs h
 have tot:(Bd (s.take axis) 1).toNat*((s.getD axis 0).toNat*(Bd (s.drop (axis+1)) 1).toNat)≤2048:=by
  have ms:=hs _ (memD (l:=s) (by omega))
  have hk:s.getD axis 0=s[axis]:=by rw[Alk,Alg (by omega)];rfl
  have hsplit:s=s.take axis++s.getD axis 0::s.drop (axis+1):=by rw[hk,← Al6,Ama]
  rcases Decidable.em (Bd (s.take axis) 1=0) with e | e
  · rw[e];simp
  rcases Decidable.em (Bd (s.drop (axis+1)) 1=0) with e2 | e2
  · rw[e2];simp
  rcases Decidable.em (s.getD axis 0=0) with e3 | e3
  · rw[e3];simp
  obtain ⟨p1,p2⟩:=Q6 (fun v hv=>hs v (List.mem_of_mem_take hv)) e
  obtain ⟨p3,p4⟩:=Q6 (fun v hv=>hs v (List.mem_of_mem_drop hv)) e2
  have hz:=(BM (s:=s) (c:=(A0 s).1) (by rw[← hc]) (fun v hv=>by
   rw[hsplit]at hv
   rcases List.mem_append.1 hv with q | q
   · exact p1 v q
   · rcases Alx.1 q with q | q
     · omega
     · exact p3 v q)).2
  rw[hsplit,Q7,Du,← p2,← p4]at hz
  generalize Bd (s.take axis) 1=A at *
  generalize Bd (s.drop (axis+1)) 1=B at *
  generalize s.getD axis 0=k at *
  obtain ⟨A',rfl⟩ : ∃ n:Nat,A=(n:Int):=⟨A.toNat,by omega⟩
  obtain ⟨B',rfl⟩ : ∃ n:Nat,B=(n:Int):=⟨B.toNat,by omega⟩
  obtain ⟨k',rfl⟩ : ∃ n:Nat,k=(n:Int):=⟨k.toNat,by omega⟩
  simp only[Aln]
  have:((A'*(k'*B'):Nat):Int)≤2048:=by simpa using hz
  omega
 rw[hsx]at tot
 have ar:=HI s (axis:Int)
 rw[show Ld s (axis:Int) = [.int (Bd (s.take axis) 1),.int (s.getD axis 0),.int (Bd (s.drop (axis+1)) 1),.bool true] by unfold Ld;rw[if_pos ⟨hc,by omega,by omega⟩];rfl]at ar
 refine Af 4096 (AcT _ _ _) ?_
 simp only[Ft,Bk.d,F0,J0,J1,Up,Ak]
 refine Aa ar ?_
 unfold DZ
 generalize hA:Bd (s.take axis) 1=A at *
 generalize hB:Bd (s.drop (axis+1)) 1=B at *
 generalize hX:x.sh.getD axis 0=X at *
 generalize hY:y.sh.getD axis 0=Y at *
 obtain ⟨A',rfl⟩ : ∃ n:Nat,A=(n:Int):=⟨A.toNat,by omega⟩
 obtain ⟨B',rfl⟩ : ∃ n:Nat,B=(n:Int):=⟨B.toNat,by omega⟩
 obtain ⟨X',rfl⟩ : ∃ n:Nat,X=(n:Int):=⟨X.toNat,by omega⟩
 obtain ⟨Y',rfl⟩ : ∃ n:Nat,Y=(n:Int):=⟨Y.toNat,by omega⟩
 simp only[Aln]at *
 rw[show ((X':Int)+(Y':Int)).toNat=X'+Y' by omega,Nat.add_mul]at tot
 have b1:X'*B'≤2048*2048:=Nat.mul_le_mul (by omega) (by omega)
 have b2:Y'*B'≤2048*2048:=Nat.mul_le_mul (by omega) (by omega)
 have w1:Ale .i64 ((X':Int)*(B':Int))=((X'*B':Nat):Int):=by rw[← Int.natCast_mul];exact As (by omega) (by omega)
 have w2:Ale .i64 ((Y':Int)*(B':Int))=((Y'*B':Nat):Int):=by rw[← Int.natCast_mul];exact As (by omega) (by omega)
 have w3:Ale .i64 (((X'*B':Nat):Int)+((Y'*B':Nat):Int))=((X'*B'+Y'*B':Nat):Int):=by rw[As (by omega) (by omega)];simp
 have w4:Ale .i64 ((A':Int)*((X'*B'+Y'*B':Nat):Int))=((A'*(X'*B'+Y'*B'):Nat):Int):=by rw[← Int.natCast_mul];exact As (by omega) (by omega)
 simp only[Ag,Uu,Ak,B0,Ali,hx.len,hy.len,Aln,Int.toNat_zero,gx,gy,w1,w2,w3,w4]
 refine Ad (Ad (Ad (Ad (Ad (Ad (Av (by simp only[Aj];omega) ?_))))))
 have key:=Da A' (fun m k (r:List Cell)=>Ve 4096 m ((X'*B':Nat):Int) ((Y'*B':Nat):Int) (r.map dC) (A':Int) (k:Int) (Ft x.d y.d (axis:Int))) (fun _ _=>[.sl (((Amd A').flatMap (fun i=>Ig x i (X'*B')++Ig y i (Y'*B'))).map dC)])
  (fun k r=>r=(Amd k).flatMap (fun i=>Ig x i (X'*B')++Ig y i (Y'*B'))∧r.length≤k*(X'*B'+Y'*B'))
  (fun m r hI=>by
   rw[NY,hI.1]
   exact Aq (Ac rfl))
  (fun m k r hk hI ih=>by
   have hkA:(k+1)*(X'*B'+Y'*B')≤A'*(X'*B'+Y'*B'):=Al1 _ (by omega)
   rw[Nat.add_mul,Nat.one_mul]at hkA
   have q : ∀ n:Nat,k*n+n≤A'*n:=fun n=>by
     have:=Al1 n (show k+1≤A' by omega)
     rwa[Nat.add_mul,Nat.one_mul]at this
   have l1:=VW x k (X'*B')
   have l2:=VW y k (Y'*B')
   have s1:=OA x r k (X'*B') (fun h=>by have:=cx h;have:=q (X'*B');omega) hx.alone hx.few (by omega) (by omega)
   have s2:=OA y (r++Ig x k (X'*B')) k (Y'*B') (fun h=>by have:=cy h;have:=q (Y'*B');omega) hy.alone hy.few (by omega) (by rw[Alr];omega)
   rw[NY]
   simp only[Ft,J0,J1]at *
   refine Ad (Aa s1 (Aa s2 ?_))
   rw[Fo (by omega)]
   refine ih _ ⟨?_,?_⟩
   · rw[List.range_succ,List.flatMap_append,← hI.1];simp
   · rw[Alr,Alr,Nat.add_mul,Nat.one_mul];omega)
  4096 0 [] (by omega) (by omega) ⟨rfl,by simp⟩
 exact key
def H3:List Int→List Int→Nat→Nat→Bool
 | x::xs,y::ys,axis,i=>(decide (i≠axis∧x≠y))||H3 xs ys axis (i+1)
 | _,_,_,_=>false
theorem LN : ∀ {xs ys:List Int} {axis i:Nat},H3 xs ys axis i=false→xs.length=ys.length→∀ j,i+j≠axis→xs[j]? = ys[j]?
 | [],[],_,_,_,_,_,_=>rfl
 | x::xs,y::ys,axis,i,h,hl,j,hj=>by
  simp only[H3,Bool.or_eq_false_iff,decide_eq_false_iff_not]at h
  match j with
  | 0 =>
   have:=h.1
   have e:x=y:=Decidable.byContradiction (fun q=>this ⟨by simpa using hj,q⟩)
   rw[e];rfl
  | j+1 =>
   have:=LN h.2 (by simpa using hl) j (by omega)
   simpa using this
 | [],y::ys,_,_,_,hl,_,_=>by simp at hl
 | x::xs,[],_,_,_,hl,_,_=>by simp at hl
def Ek(x y:List Int)(axis:Nat):List Int×Int :=
 if H3 x y axis 0 then ([],4) else if (A0 (x.set axis (x.getD axis 0+y.getD axis 0))).2≠0 then ([],(A0 (x.set axis (x.getD axis 0+y.getD axis 0))).2) else (x.set axis (x.getD axis 0+y.getD axis 0),0)
theorem AcW(x y:Bk)(axes axis:Nat)(hx:BkOk x axes)(hy:BkOk y axes)(ha:axis<axes)(h5:axes≤1000) :
  Sp 87 [Ft x.d y.d (axis:Int)] [dI (Ek x.sh y.sh axis).1,.int (Ek x.sh y.sh axis).2]:=by
 refine Af 4096 (AcU _ _) ?_
 have gx:(x.sh.map D.int).getD axis D.nil=D.int (x.sh.getD axis 0):=Gu (by rw[hx.len];exact ha)
 have gy:(y.sh.map D.int).getD axis D.nil=D.int (y.sh.getD axis 0):=Gu (by rw[hy.len];exact ha)
 have memD : ∀ {l:List Int},axis<l.length→l.getD axis 0∈l:=fun h=>by rw[Alk,Alg h];exact Amj h
 have kx:=hx.rng _ (memD (l:=x.sh) (by rw[hx.len];exact ha))
 have ky:=hy.rng _ (memD (l:=y.sh) (by rw[hy.len];exact ha))
 have lx:=hx.len
 have ly:=hy.len
 simp only[Ft,Bk.d,F0,J0,J1,Up,B0,Ali]
 have key:=B1 x.sh (fun m k (_:Unit)=>Ns 4096 m (dI x.sh) (x.sh.length:Int) (k:Int) (Ft x.d y.d (axis:Int))) (fun _ _=>[dI (Ek x.sh y.sh axis).1,.int (Ek x.sh y.sh axis).2])
  (fun rest _=>H3 x.sh y.sh axis 0=H3 rest (y.sh.drop (x.sh.length-rest.length)) axis (x.sh.length-rest.length))
  (fun m k _ hk hI=>by
   have hd:H3 x.sh y.sh axis 0=false:=by rw[hI];rfl
   rw[NZ]
   simp only[Ft,Bk.d,F0,J0,J1,Up,Ak,B0,Ali,Aln,gx,gy,As (x:=x.sh.getD axis 0+y.sh.getD axis 0) (by omega) (by omega)]
   have hw:=XG x.sh (axis:Int) (x.sh.getD axis 0+y.sh.getD axis 0) (by omega)
   rw[show Sg x.sh (axis:Int) (x.sh.getD axis 0+y.sh.getD axis 0) = [dI (x.sh.set axis (x.sh.getD axis 0+y.sh.getD axis 0)),.bool true] by unfold Sg;rw[if_pos ⟨by omega,by omega⟩];rfl]at hw
   refine Aq (Ad (Ad (Ad (Ad (Aa hw ?_)))))
   simp only[Ag]
   refine Aa (Mn _) ?_
   unfold Ek
   rw[hd]
   simp only[Ah,Bool.false_eq_true,if_false]
   refine Ae (fun g=>Ac ?_) (fun g=>Ac ?_)
   · rw[if_pos g];rfl
   · rw[if_neg g])
  (fun m k _ v rest hdr hI ih=>by
   obtain ⟨h4,h2,h3⟩:=Bv hdr
   have hle:=congrArg List.length hdr
   rw[Alu,All]at hle
   rw[show x.sh.length-(v::rest).length=k by rw[All];omega,Al6 (show k<y.sh.length by omega)]at hI
   rw[show x.sh.length-rest.length=k+1 by omega]at ih
   have hsi:y.sh[k]? = some y.sh[k]:=Alg (by omega)
   generalize y.sh[k]=u at *
   simp only[H3]at hI
   have go:H3 x.sh y.sh axis 0=H3 rest (y.sh.drop (k+1)) axis (k+1)→Tw (Ns 4096 m (dI x.sh) (x.sh.length:Int) ((k+1:Nat):Int) (Ft x.d y.d (axis:Int))) [dI (Ek x.sh y.sh axis).1,.int (Ek x.sh y.sh axis).2]:=ih ()
   rw[NZ]
   have e:(Ft x.d y.d (axis:Int)).fld 2=D.int (axis:Int):=rfl
   have e2:(((Ft x.d y.d (axis:Int)).fld 1).fld 0)=dI y.sh:=rfl
   simp only[e,e2,Ak,B0,Ali,Aln,Ar h2,Ar hsi,Cu,Bb k]
   refine Ad (Ad (Ad (Ae (fun g=> ?_) (fun g=> ?_))))
   · refine Ad (Ad (Ae (fun g2=>Ac ?_) (fun g2=> ?_)))
     · have:H3 x.sh y.sh axis 0=true:=by rw[hI,decide_eq_true ⟨by omega,g2⟩];rfl
       unfold Ek
       rw[if_pos this];rfl
     · refine go ?_
       rw[hI,decide_eq_false (fun q=>g2 q.2)];rfl
   · refine go ?_
     rw[hI,decide_eq_false (fun q=>q.1 (by omega))];rfl)
  4096 0 () (by omega) (by omega) (by simp)
 exact key
def Cj(a b:Arr):Nat:=max (max a.shape.length b.shape.length) 1
def C_(a b:Arr)(first:Bool):Nat:=if first then 0 else Cj a b-1
theorem Le(a b:Arr)(first:Bool):C_ a b first<Cj a b:=by unfold C_ Cj;split <;> omega
def CL(a b:Arr)(first:Bool):List D:=match Gg a b.shape (Cj a b) (C_ a b first),Gg b a.shape (Cj a b) (C_ a b first) with
 | some x,some y=>[Ft x.d y.d (C_ a b first:Int),.int 0]
 | _,_=>[Ft (F0 [] [] false) (F0 [] [] false) 0,.int 5]
theorem AcQ(a b:Arr)(first:Bool)(ha:a.shape.length≤6)(hb:b.shape.length≤6):Sp 86 [dA a,dA b,.bool first] (CL a b first):=by
 refine Af 0 (AcR _ _ _ _) ?_
 have e1:(if (if (a.shape.length:Int)<(b.shape.length:Int) then (b.shape.length:Int) else (a.shape.length:Int))<1 then 1 else (if (a.shape.length:Int)<(b.shape.length:Int) then (b.shape.length:Int) else (a.shape.length:Int)))=((Cj a b:Nat):Int):=by unfold Cj;split <;> (split <;> omega)
 have h1:1≤Cj a b:=by unfold Cj;omega
 have h6:Cj a b≤6:=by unfold Cj;omega
 have w1:=OB a b.shape (Cj a b) (C_ a b first) (by omega) (by omega) h1 (Le a b first) (by omega) (by unfold Cj;omega)
 have w2:=OB b a.shape (Cj a b) (C_ a b first) (by omega) (by omega) h1 (Le a b first) (by omega) (by unfold Cj;omega)
 simp only[Ah,e1]
 unfold CL
 have fin:Tw (.call 172 [] [dA a,dI b.shape,.int (Cj a b:Int),.int (C_ a b first:Int)] fun Y1 =>
   .br (!((qB Y1).toBool)) (.ret [D.agg [D.agg [D.sl [],D.sl [],D.bool false],D.agg [D.sl [],D.sl [],D.bool false],D.int 0],D.int 5])
   (.call 172 [] [dA b,dI a.shape,.int (Cj a b:Int),.int (C_ a b first:Int)] fun Y2 =>
   .br (!((qB Y2).toBool)) (.ret [D.agg [D.agg [D.sl [],D.sl [],D.bool false],D.agg [D.sl [],D.sl [],D.bool false],D.int 0],D.int 5])
   (.ret [D.agg [qA Y1,qA Y2,D.int (C_ a b first:Int)],D.int 0]))) (match Gg a b.shape (Cj a b) (C_ a b first),Gg b a.shape (Cj a b) (C_ a b first) with
    | some x,some y=>[Ft x.d y.d (C_ a b first:Int),.int 0]
    | _,_=>[Ft (F0 [] [] false) (F0 [] [] false) 0,.int 5]):=by
  refine Aa w1 ?_
  cases Gg a b.shape (Cj a b) (C_ a b first) with
  | none=>exact Ax rfl (Ac rfl)
  | some x =>
    refine B_ rfl (Aa w2 ?_)
    cases Gg b a.shape (Cj a b) (C_ a b first) with
    | none=>exact Ax rfl (Ac rfl)
    | some y=>exact B_ rfl (Ac rfl)
 cases first with
 | true=>exact Ax rfl fin
 | false =>
  have e3:Ale .i64 ((Cj a b:Int)-1)=(C_ a b false:Int):=by rw[As (by omega) (by omega)];unfold C_;simp;omega
  rw[e3]
  exact B_ rfl fin
def Po(a b:Arr)(first:Bool):Arr×Int:=match Gg a b.shape (Cj a b) (C_ a b first),Gg b a.shape (Cj a b) (C_ a b first) with
 | some x,some y=>if (Ek x.sh y.sh (C_ a b first)).2≠0 then (.none,(Ek x.sh y.sh (C_ a b first)).2) else (.mk (a.s|||b.s) (Ek x.sh y.sh (C_ a b first)).1 (DZ x y (C_ a b first) (Ek x.sh y.sh (C_ a b first)).1),0)
 | _,_=>(.none,5)
theorem AkE{x y:Bk}{axes axis:Nat}(hx:BkOk x axes)(hy:BkOk y axes)(ha:axis<axes)(h:(Ek x.sh y.sh axis).2=0) :
   Near x axis (Ek x.sh y.sh axis).1∧Near y axis (Ek x.sh y.sh axis).1∧(Ek x.sh y.sh axis).1.length=axes∧(Ek x.sh y.sh axis).1.getD axis 0=x.sh.getD axis 0+y.sh.getD axis 0∧(A0 (Ek x.sh y.sh axis).1).2=0:=by
 unfold Ek at h ⊢
 split at h
 · cases h
 · rename_i hd
   rw[if_neg hd]
   split at h
   · rename_i g;exact absurd h g
   · rename_i g
     rw[if_neg g]
     have hxy:x.sh.length=y.sh.length:=by rw[hx.len,hy.len]
     have heq:=LN (by simpa using hd) hxy
     refine ⟨⟨?_,?_⟩,⟨?_,?_⟩,by rw[List.length_set,hx.len],?_,Alt.1 g⟩
     · rw[List.take_set_of_le (Als _)]
     · rw[List.drop_set_of_lt (by omega)]
     · rw[List.take_set_of_le (Als _)]
       refine List.ext_getElem? (fun j=> ?_)
       rw[List.getElem?_take,List.getElem?_take]
       split
       · rw[heq j (by omega)]
       · rfl
     · rw[List.drop_set_of_lt (by omega)]
       refine List.ext_getElem? (fun j=> ?_)
       rw[List.getElem?_drop,List.getElem?_drop,heq _ (by omega)]
     · rw[Alk,List.getElem?_set_self (by rw[hx.len];exact ha)];rfl
theorem NV(a b:Arr)(first:Bool)(ha:A0 a.shape=((a.cells.length:Int),0))(hb:A0 b.shape=((b.cells.length:Int),0)):Sp 36 [dA a,dA b,.bool first] [dA (Po a b first).1,.int (Po a b first).2]:=by
 have ha6:=(Iw ha).1
 have hb6:=(Iw hb).1
 have har:=(Gl (l:=a.shape) (by rw[ha])).2
 have hbr:=(Gl (l:=b.shape) (by rw[hb])).2
 have h6:Cj a b≤6:=by unfold Cj;omega
 have h1:1≤Cj a b:=by unfold Cj;omega
 refine Af 0 (AcN _ _ _ _) ?_
 have hf:=AcQ a b first ha6 hb6
 unfold CL at hf
 unfold Po
 simp only[Az]
 cases hwa:Gg a b.shape (Cj a b) (C_ a b first) with
 | none=>rw[hwa]at hf;exact Aa hf (Ax rfl (Ac rfl))
 | some x =>
  rw[hwa]at hf
  cases hwb:Gg b a.shape (Cj a b) (C_ a b first) with
  | none=>rw[hwb]at hf;exact Aa hf (Ax rfl (Ac rfl))
  | some y =>
   rw[hwb]at hf
   have hx:=ZS hwa ha hbr h1 (Le a b first) (by unfold Cj;omega) (by unfold Cj;omega)
   have hy:=ZS hwb hb har h1 (Le a b first) (by unfold Cj;omega) (by unfold Cj;omega)
   refine Aa hf (B_ rfl (Aa (AcW x y (Cj a b) _ hx hy (Le a b first) (by omega)) ?_))
   simp only[Ah,Cq]
   refine Ae (fun g=>Ac (by rw[if_pos g])) (fun g=> ?_)
   rw[if_neg g]
   obtain ⟨n1,n2,n3,n4,n5⟩:=AkE hx hy (Le a b first) (Alt.1 g)
   refine Aa (F9 a.s b.s) (Aa (AcS x y (Cj a b) _ _ hx hy (Le a b first) n1 n2 n3 n4 n5) (Ac ?_))
   simp only[Ah]
   rw[Dk];rfl
def IE(a:Arr):Arr:= .mk a.s (if 0<a.shape.length then [a.shape.getD 0 0,Bd (a.shape.drop 1) 1] else [1,1]) a.cells
theorem AcO(a:Arr)(ha:A0 a.shape=((a.cells.length:Int),0)):Sp 58 [dA a] [dA (IE a)]:=by
 have hle:=(F1 a.shape).2
 rw[ha]at hle
 simp only at hle
 refine Af 0 (AcP _ _) ?_
 unfold IE
 simp only[Ah]
 refine Ae (fun g=> ?_) (fun g=> ?_)
 · have ar:=HI a.shape 0
   rw[show Ld a.shape 0 = [.int (Bd (a.shape.take 0) 1),.int (a.shape.getD 0 0),.int (Bd (a.shape.drop 1) 1),.bool true] by unfold Ld;rw[if_pos ⟨by rw[ha],by omega,by omega⟩];rfl]at ar
   refine Aa ar (Av (by simp only[Aj];omega) (Ac ?_))
   rw[if_pos (by omega),Dk]
   rfl
 · refine Av (by simp only[Aj];omega) (Ac ?_)
   rw[if_neg (by omega),Dk]
   rfl
end Go.Proofs.YtokkbgpgaheakaaGreat
