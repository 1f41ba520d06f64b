/- Proved: lemmas for the law of this folder, part 5. No condition. -/
import Derived.Test.YtokkbgpgaheakaaGreatRows
import Derived.WalkKit
import Derived.WalkSpells
import Derived.WalkLawsBesides
import Derived.Lib.Hide
import Derived.Laws.CopyOwn
import Derived.Deep.QuietTactic
import Derived.BigQuiet
import Derived.Orders
import Derived.Defers
import Derived.Recover
import Derived.Test.YtokkbgpgaheakaaGreatProg
import Derived.KernelRfl
import Derived.ProofKit
import Derived.OpenShut
import Derived.Maps.OwnRows
import Derived.Maps.Views
import Derived.Deep.RegionHeld3
import Derived.Deep.AppendLies
import Derived.Test.YtokkbgpgaheakaaGreatZ466b91e4
set_option linter.unusedSimpArgs false
set_option linter.unusedVariables false
set_option maxRecDepth 100000
open Array renaming getElem?_eq_getElem → Amy, getElem?_eq_some_iff → Am8, getD_eq_getD_getElem? → Ana
open BitVec renaming ofNat → Amt
open Bool renaming and_eq_true → Ami
open Classical renaming not_not → Amn
open Int renaming toNat → Ama, toNat_natCast → Amj, fdiv → Am3
open Go.IntKind renaming wrap → Al6, bits → Aml
open List renaming getElem?_eq_getElem → Amb, replicate → Amc, length_map → Amd, getElem?_eq_some_iff → Ame, getD_eq_getElem?_getD → Amf, length_cons → Amg, mem_of_getElem? → Amh, length_append → Amm, length_drop → Amp, length_take → Amr, getElem?_map → Ams, length_nil → Amu, mem_cons → Amw, append_nil → Amx, append_assoc → Amz, getElem?_append_left → Am0, length_eq_zero_iff → Am1, drop_eq_getElem_cons → Am2, take_append_drop → Am6, take_of_length_le → Am7, range → Am9, length_replicate → Anf, getElem_mem → Anh, map_cons → Ani, all_eq_true → Ank, nil_append → Anm
open Nat renaming le_refl → Amo, mul_le_mul_right → Amv, mod_eq_of_lt → Am4, mod_lt → Am5, lt_of_lt_of_le → Am_, mul_comm → Anb, pow_succ → Anc, div_div_eq_div_mul → Ane, div_lt_iff_lt_mul → Anj, zero_add → Anl, lt_or_ge → Ann
open Option renaming map_eq_some_iff → Amq, bind_eq_some_iff → Ang
open Option.some renaming injEq → Amk
namespace Go.Proofs.YtokkbgpgaheakaaGreat
theorem Fits.len {a:Arr} (h:Fits a):a.cells.length≤9223372036854775807:=by cases h;assumption
theorem Fits.sh {a:Arr} (h:Fits a):a.shape.length≤9223372036854775807:=by cases h;assumption
def Jw(c:Cell):Prop:=c.n.top.length≤9223372036854775807∧c.n.bot.length≤9223372036854775807∧c.inn.length≤9223372036854775807∧∀ x∈c.inn,Fits x
theorem Fits.cell {a:Arr} (h:Fits a) : ∀ c∈a.cells,Jw c:=by
 cases h with
 | mk h1 h2 h3 h5 h4=>exact fun c hc=>⟨(h3 c hc).1,(h3 c hc).2.1,(h3 c hc).2.2,h4 c hc⟩
theorem Fits.of {s:Ap} {sh:List Int} {cs:List Cell} (h1:sh.length≤9223372036854775807) (h2:cs.length≤9223372036854775807) (h3 : ∀ x∈sh,Bc x) (h4 : ∀ c∈cs,Jw c):Fits (.mk s sh cs) :=
 .mk h1 h2 (fun c hc=>⟨(h4 c hc).1,(h4 c hc).2.1,(h4 c hc).2.2.1⟩) h3 (fun c hc=>(h4 c hc).2.2.2)
mutual
def Av:Arr→Ap
 | .mk s _ cs=>Sg s cs
def Sg:Ap→List (CellF Arr)→Ap
 | l,[]=>l
 | l,c::cs=>Sg (Iq l c) cs
def Iq:Ap→CellF Arr→Ap
 | l,⟨cl,_,_,_,inn⟩=>Sf (l|||cl) inn
def Sf:Ap→List Arr→Ap
 | l,[]=>l
 | l,a::as_=>Sf (l|||Av a) as_
end
theorem Aav : ∀ (as_:List Arr) (l:Ap),Sf l as_=as_.foldl (fun l x=>l|||Av x) l
 | [],l=>by simp[Sf]
 | a::as_,l=>by simp[Sf,Aav as_]
theorem AO(l:Ap)(c:Cell):Iq l c=c.inn.foldl (fun l x=>l|||Av x) (l|||c.l):=by cases c;rw[Iq,Aav]
theorem Aaw : ∀ (cs:List Cell) (l:Ap),Sg l cs=cs.foldl Iq l
 | [],l=>by simp[Sg]
 | c::cs,l=>by simp[Sg,Aaw cs]
theorem AN(a:Arr):Av a=a.cells.foldl Iq a.s:=by cases a;rw[Av,Aaw];rfl
def Gi(a:Arr):Bool:=match a.shape,a.cells with
 | [],[c]=>decide (¬ c.kind=2)
 | _,_=>false
def Ku(c:Cell)(r:Arr→Bool):Bool:=match c.inn with
 | [x]=> !Gi x&&r x
 | _=>false
def D7(k:Bool)(r:Arr→Bool)(c:Cell):Bool :=
 if c.kind=0 then decide (c.c=0∧c.inn.length=0)&&Eo c.n
 else if c.kind=1 then decide (c.n = .zero∧c.inn.length=0)&&V6 c.c
 else decide (c.kind=2∧c.n = .zero∧c.c=0)&&(k&&Ku c r)
def Ba:Nat→Arr→Bool
 | 0,a=>decide (A5 a.shape=((a.cells.length:Int),0))&&a.cells.all (D7 false (fun _=>false))
 | d+1,a=>decide (A5 a.shape=((a.cells.length:Int),0))&&a.cells.all (D7 true (Ba d))
def B8:Nat→Cell→Bool
 | 0=>D7 false (fun _=>false)
 | d+1=>D7 true (Ba d)
theorem IU(d:Nat)(a:Arr):Ba d a=(decide (A5 a.shape=((a.cells.length:Int),0))&&a.cells.all (B8 d)):=by cases d <;> rfl
theorem AjV{Q:List D→Prop}(a:Arr)(hq:Q [.bool (Gi a)]):(Tree.br (decide ((a.shape.length:Int)=0)) (.br (decide ((a.cells.length:Int)=1)) (.br (decide (0≤(0:Int))) (.br (decide (0<(a.cells.length:Int))) (.ret [D.bool (decide (¬ (((((a.cells.map dC).getD (Ama 0) D.nil).fld 1).toInt)=2)))]) .fail) .fail) (.ret [D.bool false])) (.ret [D.bool false])).wp Tryz.prog md Q:=by
 unfold Gi at hq
 refine Ae (fun h1=>Ae (fun h2=> ?_) (fun h2=>Ac ?_)) (fun h1=>Ac ?_)
 · match hs:a.shape,hc:a.cells with
   | [],[c] =>
    rw[hs,hc]at hq
    exact Ad (Ax (by simp) (Ac (by simpa [Ama]using hq)))
   | x::xs,_=>rw[hs]at h1;simp at h1;omega
   | _,[]=>rw[hc]at h2;simp at h2
   | _,x::y::xs=>rw[hc]at h2;simp at h2;omega
 · match hs:a.shape,hc:a.cells with
   | [],[c]=>rw[hc]at h2;simp at h2
   | x::xs,_=>rw[hs]at hq;exact hq
   | [],[]=>rw[hs,hc]at hq;exact hq
   | [],x::y::xs=>rw[hs,hc]at hq;exact hq
 · match hs:a.shape,hc:a.cells with
   | [],_=>rw[hs]at h1;simp at h1
   | x::xs,_=>rw[hs]at hq;exact hq
theorem AiI(a:Arr):Sp 136 [dA a] [.bool (Gi a)]:=by
 refine Af 0 (AiJ _ _) ?_
 simp only[Ah]
 exact AjV a rfl
theorem WZ(n:Num):Sp 134 [dN n] [.bool (decide (n = .zero))]:=by
 refine Af 0 (AiO _ _) ?_
 simp only[Lr,Ni,Ls,Bz,Amd,Az,Cd]
 have e:(n=Num.zero)↔(n.neg=false∧n.top.length=0∧n.bot.length=0):=by
  rw[FX,Am1,Am1];rfl
 refine Bu (fun h1=>Ae (fun h2=>Ac ?_) (fun h2=>Ac ?_)) (fun h1=>Ac ?_)
 · congr 2;rw[decide_eq_decide,e];exact ⟨fun h=>⟨by simpa using h1,by omega,by omega⟩,fun h=>by omega⟩
 · rw[decide_eq_false];rw[e];omega
 · rw[decide_eq_false];rw[e];simp at h1;simp[h1]
theorem WI(d:Nat)(c:Cell)(hc:Jw c)(hd:d≤100)(ih : ∀ e,e+1=d→∀ a,Fits a→Sp 13 [dA a,.int (e:Int)] [.bool (Ba e a)]):Sp 53 [dC c,.int (d:Int)] [.bool (B8 d c)]:=by
 suffices key : ∀ (k:Bool) (r:Arr→Bool),(k=true↔0<d)→(∀ a,k=true→Fits a→Sp 13 [dA a,.int ((d:Int)-1)] [.bool (r a)])→Sp 53 [dC c,.int (d:Int)] [.bool (D7 k r c)] by
   cases d with
   | zero=>exact key false (fun _=>false) (by simp) (by simp)
   | succ e=>exact key true (Ba e) (by simp) (fun a _ ha=>by have:=ih e rfl a ha;simpa using this)
 intro k r hk hr
 refine Af 0 (Ai8 _ _ _) ?_
 simp only[Ah]
 unfold D7
 refine Ae (fun h0=> ?_) (fun h0=> ?_)
 · rw[if_pos h0]
   refine Ae (fun h1=>Ae (fun h2=>Aa (Ait c.n) (Ac ?_)) (fun h2=>Ac ?_)) (fun h1=>Ac ?_)
   · rw[decide_eq_true ⟨h1,by omega⟩];rfl
   · rw[decide_eq_false (by omega)];rfl
   · rw[decide_eq_false (by omega)];rfl
 rw[if_neg h0]
 refine Ae (fun h0=>Aa (WZ c.n) ?_) (fun h0=> ?_)
 · rw[if_pos h0]
   simp only[Ag,Az]
   refine Ae (fun h1=>Ae (fun h2=>Aa (Ai1 c.c) (Ac ?_)) (fun h2=>Ac ?_)) (fun h1=>Ac ?_)
   · rw[decide_eq_true ⟨h1,by omega⟩];rfl
   · rw[decide_eq_false (fun hh=>h2 (by omega))];rfl
   · rw[decide_eq_false (fun hh=>h1 hh.1)];rfl
 rw[if_neg h0]
 refine Ae (fun h0=>Aa (WZ c.n) ?_) (fun h0=>Ac (by rw[decide_eq_false (fun hh=>h0 hh.1)];rfl))
 simp only[Ag,Az]
 refine Ae (fun h1=>Ae (fun h2=>Ae (fun h3=>Ae (fun h4=> ?_) (fun h4=>Ac ?_)) (fun h3=>Ac ?_)) (fun h2=>Ac ?_)) (fun h1=>Ac ?_)
 · have hkt:=hk.2 (by omega)
   rw[show decide (c.kind=2∧c.n = .zero∧c.c=0)=true from decide_eq_true ⟨h0,h1,h2⟩,hkt,Bool.true_and,Bool.true_and]
   unfold Ku
   match hi:c.inn with
   | []=>rw[hi]at h3;simp at h3
   | x::y::xs=>rw[hi]at h3;simp at h3;omega
   | [x] =>
    simp only[Ani,List.map_nil,Int.toNat_zero,Ag,Amg,Amu]
    refine Ad (Ad (Aa (AiI x) ?_))
    simp only[Ag,Az]
    refine Bu (fun h5=>Ad (Ad ?_)) (fun h5=>Ac (by rw[h5];rfl))
    rw[At (by omega) (by omega)]
    refine Aa (hr x hkt (hc.2.2.2 x (by rw[hi];simp))) (Ac ?_)
    rw[h5];rfl
 · have:k=false:=by cases k with
    | false=>rfl
    | true=>exact absurd (hk.1 rfl) (by omega)
   rw[this,Bool.false_and,Bool.and_false]
 · have:Ku c r=false:=by
    unfold Ku
    match hi:c.inn with
    | []=>rfl
    | x::y::xs=>rfl
    | [x]=>rw[hi]at h3;simp at h3
   rw[this,Bool.and_false,Bool.and_false]
 · rw[decide_eq_false (fun hh=>h2 hh.2.2)];rfl
 · rw[decide_eq_false (fun hh=>h1 hh.2.1)];rfl
theorem WN(d:Nat)(a:Arr)(ha:Fits a)(ih : ∀ c,Jw c→Sp 53 [dC c,.int (d:Int)] [.bool (B8 d c)]):Sp 13 [dA a,.int (d:Int)] [.bool (Ba d a)]:=by
 have hl:=ha.len
 refine Af (a.cells.length+1) (AiD _ _ _) ?_
 simp only[Ah]
 refine Aa (Ai4 a.shape) ?_
 rw[IU]
 simp only[Ag,Cm,Al]
 refine Ae (fun h=>Ac ?_) (fun h=>Ae (fun h'=>Ac ?_) (fun h'=> ?_))
 · rw[decide_eq_false];rfl
   intro hh;rw[hh]at h;exact h rfl
 · rw[decide_eq_false];rfl
   intro hh;rw[hh]at h';exact h' rfl
 · have hc:A5 a.shape=((a.cells.length:Int),0):=Prod.ext (by simpa using h') (by simpa using h)
   rw[hc,decide_eq_true rfl,Bool.true_and]
   have key:=B3 a.cells (fun m k (_:Unit)=>Yi (a.cells.length+1) m (d:Int) (a.cells.length:Int) (k:Int) (dA a)) (fun rest _=>[.bool (rest.all (B8 d))]) (fun _ _=>True)
    (fun m k s hk _=>by
     simp only[WM]
     exact Aq (Ac rfl))
    (fun m k s x rest hd _ ih'=>by
     obtain ⟨h1,h2,h3⟩:=Bx hd
     simp only[WM,Ah,As h2,Bb k]
     repeat (refine Ad ?_)
     refine Aa (ih x (ha.cell x (Amh h2))) ?_
     simp only[Ag,Az,List.all_cons]
     refine Bu (fun h4=>Ac ?_) (fun h4=> ?_)
     · simp at h4;rw[h4];rfl
     · simp at h4;rw[h4,Bool.true_and];exact ih' () trivial)
    (a.cells.length+1) 0 () (by omega) (by omega) trivial
   exact key
theorem WL : ∀ d:Nat,d≤100→(∀ c,Jw c→Sp 53 [dC c,.int (d:Int)] [.bool (B8 d c)])∧∀ a,Fits a→Sp 13 [dA a,.int (d:Int)] [.bool (Ba d a)]
 | 0,hd=>by
  have hc : ∀ c,Jw c→Sp 53 [dC c,.int ((0:Nat):Int)] [.bool (B8 0 c)]:=fun c hc=>WI 0 c hc hd (fun e he=>by omega)
  exact ⟨hc,fun a ha=>WN 0 a ha hc⟩
 | d+1,hd=>by
  have ih:=WL d (by omega)
  have hc : ∀ c,Jw c→Sp 53 [dC c,.int ((d+1:Nat):Int)] [.bool (B8 (d+1) c)]:=fun c hc=>WI (d+1) c hc hd (fun e he=>by
   have:e=d:=by omega
   subst this;exact ih.2)
  exact ⟨hc,fun a ha=>WN (d+1) a ha hc⟩
theorem AiC(a:Arr)(ha:Fits a):Sp 13 [dA a,.int 8] [.bool (Ba 8 a)]:=(WL 8 (by decide)).2 a ha
def Iv(x:Int):Int:=Al6 .i64 x
def Qr(r:Arr→Int→Int):List Arr→Int→Int
 | [],n=>n
 | a::as_,n=>if 0≤n then Qr r as_ (r a n) else n
def Qs(r:Arr→Int→Int):List Cell→Int→Int
 | [],n=>n
 | c::cs,n=>if 0≤n then Qs r cs (Qr r c.inn (Iv (Iv (Iv (n-1)-(c.n.top.length:Int))-(c.n.bot.length:Int)))) else n
def N6:Nat→Arr→Int→Int
 | 0,_,_=> -1
 | d+1,a,n=>Qs (N6 d) a.cells (Iv (Iv (n-1)-(a.shape.length:Int)))
def NR(a:Arr):Bool:=decide (0≤N6 12 a 4000)
theorem WU : ∀ (d:Nat),d≤100→∀ (a:Arr),Fits a→∀ n:Int,Sp 161 [dA a,.int (d:Int),.int n] [.int (N6 d a n)]
 | 0,_,a,ha,n=>Af 0 (WV _ _ _ _) (Bi rfl (Ac rfl))
 | d+1,hd,a,ha,n=>by
  obtain ⟨N,hN⟩:=Tf
  have hl:=ha.len
  refine Af N (WV _ _ _ _) ?_
  simp only[Ah]
  refine Aq ?_
  have key:=B3 a.cells (fun m k (n:Int)=>Rt N m ((d+1:Nat):Int) n (k:Int) (dA a)) (fun rest n=>[.int (Qs (N6 d) rest n)]) (fun _ _=>True)
   (fun m k n hk _=>by
    simp only[WS,Ah]
    exact Aq (Ac rfl))
   (fun m k n c rest hdr _ ih=>by
    obtain ⟨h1,h2,h3⟩:=Bx hdr
    have hc:=ha.cell c (Amh h2)
    have hlc:=hc.2.2.1
    simp only[WS,Ah,As h2,Qs]
    refine Ad (Ae (fun hn=> ?_) (fun hn=>Ac (by rw[if_neg hn])))
    rw[if_pos hn]
    repeat (refine Ad ?_)
    have key:=B3 c.inn (fun m' j (n:Int)=>Yq N m m' ((d+1:Nat):Int) n (k:Int) (j:Int) (dA a)) (fun rest' n=>[.int (Qs (N6 d) rest (Qr (N6 d) rest' n))]) (fun _ _=>True)
     (fun m' j n hj _=>by
      simp only[WT,Ah,As h2,Bb k,Qr]
      repeat (refine Ad ?_)
      exact Aq (ih _ trivial))
     (fun m' j n x rest' hdr' _ ih'=>by
      obtain ⟨g1,g2,g3⟩:=Bx hdr'
      simp only[WT,Ah,As h2,As g2,Bb k,Bb j,Qr]
      refine Ad (Ad (Ad (Ae (fun hn=> ?_) (fun hn=>by rw[if_neg hn];exact ih _ trivial))))
      rw[if_pos hn]
      repeat (refine Ad ?_)
      rw[At (by omega) (by omega),show ((d+1:Nat):Int)-1=(d:Int) by omega]
      exact Aa (WU d (by omega) x (hc.2.2.2 x (Amh g2)) n) (ih' _ trivial))
     N 0 (Iv (Iv (Iv (n-1)-(c.n.top.length:Int))-(c.n.bot.length:Int))) (by omega) (by omega) trivial
    exact key)
   N 0 (Iv (Iv (n-1)-(a.shape.length:Int))) (by omega) (by omega) trivial
  exact key
theorem Ai9(a:Arr)(ha:Fits a):Sp 75 [dA a] [.bool (NR a)]:=Af 0 (Ai_ _ _) (Aa (WU 12 (by decide) a ha 4000) (Ac rfl))
def Sd:List Int→Int→Int
 | [],n=>n
 | x::xs,n=>if n≤100000 then Sd xs (if 0<x then Iv (n*x) else n) else n
def Q9(n:Int):Bool:=decide (¬ 100000<n)
mutual
def Pa:Arr→Bool
 | .mk _ sh cs=>Q9 (Sd sh 1)&&Jr cs
def Jr:List (CellF Arr)→Bool
 | []=>true
 | c::cs=>JX c&&Jr cs
def JX:CellF Arr→Bool
 | ⟨_,_,_,_,inn⟩=>Pb inn
def Pb:List Arr→Bool
 | []=>true
 | a::as_=>Pa a&&Pb as_
end
theorem AkN(a:Arr):Pa a=(Q9 (Sd a.shape 1)&&Jr a.cells):=by cases a;rw[Pa];rfl
theorem AkO(c:Cell):JX c=Pb c.inn:=by cases c;rw[JX]
theorem AiM(a:Arr):Fits a→Sp 76 [dA a] [.bool (Pa a)]:=by
 induction a using Arr.ind with
 | h s sh cs IH =>
  intro ha
  have hl:=ha.len
  have hs:=ha.sh
  have IH' : ∀ c∈(Arr.mk s sh cs).cells,∀ x∈c.inn,Fits x→Sp 76 [dA x] [.bool (Pa x)]:=IH
  generalize Arr.mk s sh cs=a at *
  obtain ⟨N,hN⟩:=Tf
  refine Af N (AiN _ _) ?_
  rw[AkN]
  have inner:Tw (Mq N N 0 (dA a)) [.bool (Jr a.cells)]:=by
   have key:=B3 a.cells (fun m k (_:Unit)=>Mq N m (k:Int) (dA a)) (fun rest _=>[.bool (Jr rest)]) (fun _ _=>True)
    (fun m k n hk _=>by
     simp only[WW,Ah]
     exact Aq (Ac (by rw[Jr])))
    (fun m k n c rest hdr _ ih=>by
     obtain ⟨h1,h2,h3⟩:=Bx hdr
     have hc:=ha.cell c (Amh h2)
     have hlc:=hc.2.2.1
     simp only[WW,Ah,As h2]
     repeat (refine Ad ?_)
     rw[Jr,AkO]
     have key:=B3 c.inn (fun m' j (_:Unit)=>Yr N m m' (k:Int) (j:Int) (dA a)) (fun rest' _=>[.bool (Pb rest'&&Jr rest)]) (fun _ _=>True)
      (fun m' j n hj _=>by
       simp only[WX,Ah,As h2,Bb k]
       repeat (refine Ad ?_)
       rw[Pb,Bool.true_and]
       exact Aq (ih () trivial))
      (fun m' j n x rest' hdr' _ ih'=>by
       obtain ⟨g1,g2,g3⟩:=Bx hdr'
       simp only[WX,Ah,As h2,As g2,Bb j]
       repeat (refine Ad ?_)
       refine Aa (IH' c (Amh h2) x (Amh g2) (hc.2.2.2 x (Amh g2))) ?_
       simp only[Ag,Az]
       rw[Pb]
       refine Bu (fun e=>Ac ?_) (fun e=> ?_)
       · simp at e;rw[e];rfl
       · simp at e;rw[e,Bool.true_and];exact ih' () trivial)
      N 0 () (by omega) (by omega) trivial
     exact key)
    N 0 () (by omega) (by omega) trivial
   exact key
  have fin : ∀ n:Int,Tw (.br (decide (100000<n)) (.ret [D.bool false]) (Mq N N 0 (dA a))) [.bool (Q9 n&&Jr a.cells)]:=fun n=>by
   unfold Q9
   refine Ae (fun h=>Ac ?_) (fun h=> ?_)
   · rw[decide_eq_false (fun hh=>hh h)];rfl
   · rw[decide_eq_true h,Bool.true_and];exact inner
  have key:=B3 a.shape (fun m k (n:Int)=>Ru N m n (k:Int) (dA a)) (fun rest n=>[.bool (Q9 (Sd rest n)&&Jr a.cells)]) (fun _ _=>True)
   (fun m k n hk _=>by
    simp only[WY,Ah]
    exact Aq (fin n))
   (fun m k n x rest hdr _ ih=>by
    obtain ⟨h1,h2,h3⟩:=Bx hdr
    simp only[WY,Ah,As h2,Bb k,Sd]
    refine Ad (Ae (fun hn=>Ad (Ad (Ae (fun hx=>Ad (Ad ?_)) (fun hx=> ?_)))) (fun hn=> ?_))
    · rw[if_pos hn,if_pos hx];exact ih _ trivial
    · rw[if_pos hn,if_neg hx];exact ih _ trivial
    · rw[if_neg hn];exact fin n)
   N 0 1 (by omega) (by omega) trivial
  exact key
def Va(a:Arr):Bool:=NR a&&Ba 8 a&&Pa a
theorem WJ(a:Arr)(ha:Fits a):Sp 30 [dA a] [.bool (Va a)]:=by
 refine Af 0 (AiA _ _) (Aa (Ai9 a ha) ?_)
 unfold Va
 simp only[Ag,Az]
 refine Bu (fun e1=>Aa (AiC a ha) ?_) (fun e1=>Ac (by rw[e1];rfl))
 simp only[Ag,Az]
 refine Bu (fun e2=>Aa (AiM a ha) (Ac ?_)) (fun e2=>Ac (by rw[e2,Bool.and_false];rfl))
 rw[e1,e2];rfl
theorem AiK(a:Arr):Fits a→Sp 17 [dA a] [dB (Av a)]:=by
 induction a using Arr.ind with
 | h s sh cs IH =>
  intro ha
  have hl:=ha.len
  have IH' : ∀ c∈(Arr.mk s sh cs).cells,∀ x∈c.inn,Fits x→Sp 17 [dA x] [dB (Av x)]:=IH
  generalize Arr.mk s sh cs=a at *
  obtain ⟨N,hN⟩:=Tf
  refine Af N (AiL _ _) ?_
  rw[AN]
  have key:=B3 a.cells (fun m k (l:Ap)=>Yo N m (l.toNat:Int) (k:Int) (dA a)) (fun rest l=>[dB (rest.foldl Iq l)]) (fun _ _=>True)
   (fun m k l hk _=>by
    simp only[WQ,Ah]
    exact Aq (Ac rfl))
   (fun m k l c rest hdr _ ih=>by
    obtain ⟨h1,h2,h3⟩:=Bx hdr
    have hc:=ha.cell c (Amh h2)
    have hlc:=hc.2.2.1
    simp only[WQ,Ah,As h2]
    repeat (refine Ad ?_)
    refine Aa (IE l c.l) ?_
    simp only[Ag,Dc,List.foldl_cons]
    rw[AO]
    have key:=B3 c.inn (fun m' j (l:Ap)=>Yp N m m' (l.toNat:Int) (k:Int) (j:Int) (dA a)) (fun rest' l=>[dB (rest.foldl Iq (rest'.foldl (fun l x=>l|||Av x) l))]) (fun _ _=>True)
     (fun m' j l hj _=>by
      simp only[WR,Ah,As h2,Bb k]
      repeat (refine Ad ?_)
      exact Aq (ih _ trivial))
     (fun m' j l x rest' hdr' _ ih'=>by
      obtain ⟨g1,g2,g3⟩:=Bx hdr'
      simp only[WR,Ah,As h2,As g2,Bb j]
      repeat (refine Ad ?_)
      refine Aa (IH' c (Amh h2) x (Amh g2) (hc.2.2.2 x (Amh g2))) (Aa (IE l (Av x)) ?_)
      exact ih' (l|||Av x) trivial)
     N 0 (l|||c.l) (by omega) (by omega) trivial
    exact key)
   N 0 a.s (by omega) (by omega) trivial
  simp only[Tz,Dc]
  exact key
noncomputable def Hm(a b:Arr):Bool:= @decide (a=b) (Classical.propDecidable _)
noncomputable def Ic(a b:Cell):Bool:= @decide (a=b) (Classical.propDecidable _)
theorem Kw{a b:Arr} : Hm a b=true↔a=b:=by unfold Hm;exact @decide_eq_true_iff _ (Classical.propDecidable _)
theorem DL{a b:Arr}(h:a≠b):Hm a b=false:=by cases e:Hm a b with
 | false=>rfl
 | true=>exact absurd (Kw.1 e) h
theorem Lv{a b:Cell} : Ic a b=true↔a=b:=by unfold Ic;exact @decide_eq_true_iff _ (Classical.propDecidable _)
theorem P4{a b:Cell}(h:a≠b):Ic a b=false:=by cases e:Ic a b with
 | false=>rfl
 | true=>exact absurd (Lv.1 e) h
theorem AcK(a:Cell):Ic a a=true:=Lv.2 rfl
theorem CL(a b:Cell):(a=b)↔(a.l=b.l∧a.kind=b.kind∧a.c=b.c∧a.n=b.n∧a.inn=b.inn):=by
 cases a;cases b
 constructor
 · rintro ⟨⟩;exact ⟨rfl,rfl,rfl,rfl,rfl⟩
 · rintro ⟨h1,h2,h3,h4,h5⟩;dsimp only at h1 h2 h3 h4 h5;subst h1;subst h2;subst h3;subst h4;subst h5;rfl
theorem S4(a b:Arr):(a=b)↔(a.s=b.s∧a.shape=b.shape∧a.cells=b.cells):=by
 cases a;cases b;simp
theorem YL{α:Type}{P:Program}{md:Nat→FMode}(a b:List α)(e:α→α→Bool)(he : ∀ x∈a,∀ y,e x y=true↔x=y)(hlen:a.length=b.length)(r:Bool)(hr:r=true↔a=b)(L:Nat→Nat→Tree)
  (hend : ∀ m,∀ Q:List D→Prop,Q [.bool true]→(L (m+1) a.length).wp P md Q)
  (hstep : ∀ m k x y,∀ Q:List D→Prop,a[k]? = some x→b[k]? = some y→(e x y=false→Q [.bool false])→(e x y=true→(L m (k+1)).wp P md Q)→(L (m+1) k).wp P md Q) (N:Nat) (hN:a.length<N):(L N 0).wp P md (fun zs=>zs = [.bool r]):=by
 have key:=V2 (P:=P) (md:=md) a.length (fun m k (_:Unit)=>L m k) (fun _ _=>[.bool r]) (fun k _=>a.take k=b.take k)
  (fun m s h=>by
   refine hend m _ ?_
   rw[Am7 (Amo _),Am7 (by omega)]at h
   rw[hr.2 h])
  (fun m k s hk h ih=>by
   have ha:a[k]? = some a[k]:=Amb _
   have hb:b[k]? = some (b[k]'(by omega)):=Amb _
   refine hstep m k _ _ _ ha hb (fun hf=> ?_) (fun ht=>ih () ?_)
   · have:r=false:=by
      cases hrr:r with
      | false=>rfl
      | true =>
       have:=hr.1 hrr
       subst this
       rw[(he a[k] (Anh _) a[k]).2 rfl]at hf;cases hf
     rw[this]
   · have:a[k]=b[k]:=(he a[k] (Anh _) _).1 ht
     rw[List.take_succ_eq_append_getElem hk,List.take_succ_eq_append_getElem (by omega),h,this])
  N 0 () (by omega) (by omega) (by simp)
 exact key
theorem AiE(a:Cell)(hf:Jw a)(ih : ∀ x∈a.inn,Fits x→∀ y,Sp 34 [dA x,dA y] [.bool (Hm x y)])(b:Cell):Sp 79 [dC a,dC b] [.bool (Ic a b)]:=by
 refine Af (a.inn.length+1) (AiF _ _ _) ?_
 have hl:=hf.2.2.1
 simp only[Ah]
 refine Ae (fun h=>Ac ?_) (fun h1=>Ae (fun h=>Ac ?_) (fun h2=>Ae (fun h=>Ac ?_) (fun h3=>Aa (IL a.n b.n hf.1 hf.2.1) ?_)))
 · rw[P4];rintro rfl;exact h rfl
 · rw[P4];rintro rfl;exact h rfl
 · rw[P4];rintro rfl;exact h rfl
 simp only[Ag,Az,Ed]
 refine Ae (fun h=>Ac ?_) (fun h4=>Ae (fun h=>Ac ?_) (fun h5=> ?_))
 · rw[P4];rintro rfl;exact h rfl
 · rw[P4];rintro rfl;exact h rfl
 have e1:a.l=b.l:=BitVec.eq_of_toNat_eq (by omega)
 refine YL (P:=Tryz.prog) (md:=md) a.inn b.inn Hm (fun x _ y=>Kw) (by omega) (Ic a b) ?_ (fun m k=>Yk (a.inn.length+1) m (k:Int) (dC a) (dC b)) ?_ ?_ (a.inn.length+1) (by omega)
 · rw[Lv,CL]
   have h2':=Amn.1 h2
   have h3':=Amn.1 h3
   have h4':=Amn.1 h4
   simp[e1,h2',h3',h4']
 · intro m Q hQ
   simp only[WO,Ah]
   exact Aq (Ac hQ)
 · intro m k x y Q hx hy hF hT
   have hk:k<a.inn.length:=(Ame.1 hx).1
   simp only[WO,Ah,As hx,As hy,Bb k]
   repeat (refine Ad ?_)
   refine Aa (ih x (Amh hx) (hf.2.2.2 x (Amh hx)) y) ?_
   simp only[Ag,Az]
   refine Bu (fun h=>Ac (hF (by simpa using h))) (fun h=>hT (by simpa using h))
theorem AiG(a:Arr):Fits a→∀ b,Sp 34 [dA a,dA b] [.bool (Hm a b)]:=by
 induction a using Arr.ind with
 | h s sh cs IH =>
  intro ha b
  have hl:=ha.len
  have IH' : ∀ c∈(Arr.mk s sh cs).cells,∀ x∈c.inn,Fits x→∀ y,Sp 34 [dA x,dA y] [.bool (Hm x y)]:=IH
  generalize Arr.mk s sh cs=a at *
  refine Af (a.cells.length+1) (AiH _ _ _) ?_
  simp only[Ah]
  refine Ae (fun h=>Ac ?_) (fun h1=>Aa (WH a.shape b.shape ha.sh) ?_)
  · rw[DL];rintro rfl;exact h rfl
  simp only[Ag,Az,Ed]
  refine Ae (fun h=>Ac ?_) (fun h4=>Ae (fun h=>Ac ?_) (fun h5=> ?_))
  · rw[DL];rintro rfl;exact h rfl
  · rw[DL];rintro rfl;exact h rfl
  have e1:a.s=b.s:=BitVec.eq_of_toNat_eq (by omega)
  refine YL (P:=Tryz.prog) (md:=md) a.cells b.cells Ic (fun x _ y=>Lv) (by omega) (Hm a b) ?_ (fun m k=>Ym (a.cells.length+1) m (k:Int) (dA a) (dA b)) ?_ ?_ (a.cells.length+1) (by omega)
  · rw[Kw,S4]
    have h4':=Amn.1 h4
    simp[e1,h4']
  · intro m Q hQ
    simp only[WP,Ah]
    exact Aq (Ac hQ)
  · intro m k x y Q hx hy hF hT
    have hk:k<a.cells.length:=(Ame.1 hx).1
    simp only[WP,Ah,As hx,As hy,Bb k]
    repeat (refine Ad ?_)
    refine Aa (AiE x (ha.cell x (Amh hx)) (IH' x (Amh hx)) y) ?_
    simp only[Ag,Az]
    refine Bu (fun h=>Ac (hF (by simpa using h))) (fun h=>hT (by simpa using h))
def F_:List Cell→Option (List Int)
 | []=>some []
 | c::cs=>if c.kind=0 then (De c.n).bind (fun z=>(F_ cs).map (z:: ·)) else none
def A8(a:Arr):List Int×Int:=if 1<a.shape.length then ([],5) else match F_ a.cells with
 | some l=>(l,0)
 | none=>([],3)
def Be(z:Int):Cell:=⟨0,0,Cn z,0,[]⟩
def Cu(a:Arr):Cell:=match a.cells with
 | []=>Be 0
 | c::_=>if c.kind=1 then ⟨c.l,1,.zero,32,[]⟩ else ⟨c.l,0,Cn 0,0,[]⟩
theorem Ak5{n:Num}{z:Int}(h:De n=some z):Bc z:=by
 unfold De Lg at h
 split at h
 · split at h
   · injection h with h;subst h;assumption
   · cases h
 · cases h
theorem Vn : ∀ {cs:List Cell} {l:List Int},F_ cs=some l→l.length=cs.length∧∀ x∈l,Bc x
 | [],l,h=>by simp[F_]at h;subst h;simp
 | c::cs,l,h=>by
  simp only[F_]at h
  split at h
  · cases hn:De c.n with
    | none=>rw[hn]at h;cases h
    | some z =>
     rw[hn]at h
     cases hc:F_ cs with
     | none=>rw[hc]at h;cases h
     | some l' =>
      rw[hc]at h
      injection h with h;subst h
      have:=Vn hc
      exact ⟨by simp[this.1],fun x hx=>by rcases Amw.1 hx with rfl | hx;exact Ak5 hn;exact this.2 x hx⟩
  · cases h
def Vm(out:List Int):Option (List Int)→List D
 | some l=>[dI (out++l),.int 0]
 | none=>[.sl [],.int 3]
theorem AdD{a:Arr}(h : ¬ 1<a.shape.length):Vm [] (F_ a.cells) = [dI (A8 a).1,.int (A8 a).2]:=by
 unfold A8;rw[if_neg h];cases F_ a.cells <;> rfl
theorem WK(z:Int)(hz:Bc z):Sp 78 [.int z] [dC (Be z)]:=by
 refine Af 0 (AiB _ _) (Aa (Air z hz) (Ac ?_))
 rw[Dr];rfl
theorem Es(a:Arr):Fits a→Sp 84 [dA a] [dB (Av a)]:=by
 induction a using Arr.ind with
 | h s sh cs IH =>
  intro ha
  have hl:=ha.len
  have IH' : ∀ c∈(Arr.mk s sh cs).cells,∀ x∈c.inn,Fits x→Sp 84 [dA x] [dB (Av x)]:=IH
  generalize Arr.mk s sh cs=a at *
  obtain ⟨N,hN⟩:=Tf
  refine Af N (Ab3 _ _) ?_
  rw[AN]
  have key:=B3 a.cells (fun m k (l:Ap)=>S_ N m (l.toNat:Int) (.sl (a.cells.map dC)) (a.cells.length:Int) (k:Int)) (fun rest l=>[dB (rest.foldl Iq l)]) (fun _ _=>True)
   (fun m k l hk _=>by
    simp only[LP,Ah]
    exact Aq (Ac rfl))
   (fun m k l c rest hdr _ ih=>by
    obtain ⟨h1,h2,h3⟩:=Bx hdr
    have hc:=ha.cell c (Amh h2)
    have hlc:=hc.2.2.1
    simp only[LP,Ah,As h2]
    repeat (refine Ad ?_)
    refine Aa (Gb l c.l) ?_
    simp only[Ag,Dc,List.foldl_cons]
    rw[AO]
    have key:=B3 c.inn (fun m' j (l:Ap)=>Ta N m m' (l.toNat:Int) (.sl (a.cells.map dC)) (a.cells.length:Int) (k:Int) (.sl (c.inn.map dA)) (c.inn.length:Int) (j:Int)) (fun rest' l=>[dB (rest.foldl Iq (rest'.foldl (fun l x=>l|||Av x) l))]) (fun _ _=>True)
     (fun m' j l hj _=>by
      simp only[LQ,Ah,As h2,Bb k]
      exact Aq (ih _ trivial))
     (fun m' j l x rest' hdr' _ ih'=>by
      obtain ⟨g1,g2,g3⟩:=Bx hdr'
      simp only[LQ,Ah,As h2,As g2,Bb j]
      repeat (refine Ad ?_)
      refine Aa (IH' c (Amh h2) x (Amh g2) (hc.2.2.2 x (Amh g2))) (Aa (Gb l (Av x)) ?_)
      exact ih' (l|||Av x) trivial)
     N 0 (l|||c.l) (by omega) (by omega) trivial
    exact key)
   N 0 a.s (by omega) (by omega) trivial
  simp only[Ah]
  exact key
theorem J0(a:Arr)(hl:a.cells.length≤2048)(hn : ∀ c∈a.cells,c.n.top.length≤32):Sp 80 [dA a] [dI (A8 a).1,.int (A8 a).2]:=by
 refine Af (a.cells.length+1) (Abx _ _) ?_
 simp only[Ah,List.replicate_zero]
 refine Ae (fun h=>Ac ?_) (fun h=> ?_)
 · unfold A8;rw[if_pos (by omega)];rfl
 · rw[← AdD (by omega)]
   refine Ad (Ad (Ax (by simp only[Aj];omega) ?_))
   have key:=B3 a.cells (fun m k (out:List Int)=>S8 (a.cells.length+1) m (out.map .int) (.sl (a.cells.map dC)) (a.cells.length:Int) (k:Int)) (fun rest out=>Vm out (F_ rest)) (fun rest out=>out.length+rest.length≤2048)
    (fun m k out hk _=>by
     simp only[LM,Ah]
     exact Aq (Ac (by simp[F_,Vm,dI])))
    (fun m k out c rest hdr hI ih=>by
     obtain ⟨h1,h2,h3⟩:=Bx hdr
     have hm:=Amh h2
     simp only[LM,Ah,As h2,Bb k]
     repeat (refine Ad ?_)
     simp only[F_]
     refine Aa (Xo c.n (by have:=hn c hm;omega)) ?_
     refine Ae (fun hk=>Ac ?_) (fun hk=> ?_)
     · rw[if_neg hk];rfl
     rw[if_pos (Amn.1 hk)]
     cases hs:De c.n with
     | none=>exact Bi rfl (Ac rfl)
     | some z =>
      refine D6 rfl (Ax ?_ ?_)
      · simp only[Amg,Amu,Aj,Amd]at hI ⊢; omega
      · have:=ih (out++[z]) (by simp only[Amm,Amg,Amu]at hI ⊢; omega)
        simp only[K6,Ag,Al]
        rw[List.map_append]at this
        refine Tree.wp_mono this (fun ys hy=>hy.trans ?_)
        cases F_ rest with
        | none=>rfl
        | some l=>simp[Vm])
    (a.cells.length+1) 0 [] (by omega) (by omega) (by simpa using hl)
   exact key
theorem H6(z:Int)(hz:Bc z):Sp 138 [.int z] [dC (Be z)]:=by
 refine Af 0 (Abw _ _) (Aa (K8 z hz) (Ac ?_))
 rw[Dr];rfl
def AbV(c:Int):Cell:=⟨0,1,.zero,c,[]⟩
theorem Abs(z:Int):Sp 171 [.int z] [dC (AbV z)]:=by
 refine Af 0 (Abt _ _) (Ac ?_)
 rw[Dr];rfl
theorem Vk:Bc 0:=by unfold Bc;decide
theorem S7(a:Arr):Sp 82 [dA a] [dC (Cu a)]:=by
 refine Af 0 (Abv _ _) ?_
 simp only[Ah]
 unfold Cu
 match hc:a.cells with
 | []=>exact Ax (by simp) (Aa (H6 0 Vk) (Ac rfl))
 | c::cs =>
  refine M4 (by simp;omega) (Aa (H6 0 Vk) (Ad (Ax (by simp) ?_)))
  simp only[Ani,Ag,Ah]
  refine Ae (fun h=>Aa (Abs 32) (Ad (Ax (by simp) (Ac ?_)))) (fun h=>Ad (Ax (by simp) (Ac ?_)))
  · rw[if_pos h,Dr]
    simp only[Ah];rfl
  · rw[if_neg h,Dr]
    simp only[Ah];rfl
theorem Aeh:lb 1 = [1]:=by rw[N4 (by decide),show 1 / B=0 by decide,Ct];rfl
theorem SM(z:Int):Bo (Cn z)=z:=Cy z
theorem AfG(z:Int):Bj (Cn z)=1:=by simp[Bj,Cn,nv]
theorem QD{z:Int}(h:Bc z):(lb z.natAbs).length≤2:=A0.2 (by unfold Bc at h;show z.natAbs<18446744073709551616;omega)
theorem Aje{z:Int}(h:Bc z):Eo (Cn z)=true:=by
 have hl:=QD h
 unfold Eo
 rw[SM,AfG]
 refine decide_eq_true ⟨by simp only[Cn];omega,by simp[Cn],?_⟩
 unfold C4
 simp only[Int.natAbs_one,Nat.gcd_one_right,Nat.div_one,Aeh]
 rw[if_neg (by decide),if_neg (by simp only[Amg,Amu];omega)]
 unfold Cn
 congr 2
 by_cases hz:z<0
 · have:0<(lb z.natAbs).length:=by
    rcases Nat.eq_zero_or_pos (lb z.natAbs).length with h0 | h0
    · have:=Gc.1 h0;omega
    · exact h0
   simp[hz,this]
 · simp[hz]
theorem Ak6{z:Int}(h:Bc z):De (Cn z)=some z:=by
 unfold De Lg
 rw[if_pos (show (Cn z).bot = [1] from rfl),SM,if_pos h]
theorem Ze{n:Num}(h:Eo n=true):n.top.length≤32∧n.bot.length≤32:=by
 have:=of_decide_eq_true h
 exact ⟨this.1,this.2.1⟩
theorem R1{d:Nat}{c:Cell}(h:B8 d c=true):c.n.top.length≤32∧c.n.bot.length≤32∧c.inn.length≤1:=by
 suffices key : ∀ k r,D7 k r c=true→c.n.top.length≤32∧c.n.bot.length≤32∧c.inn.length≤1 by
   cases d with
   | zero=>exact key _ _ h
   | succ d=>exact key _ _ h
 intro k r h
 unfold D7 at h
 split at h
 · simp only[Ami,decide_eq_true_eq]at h
   exact ⟨(Ze h.2).1,(Ze h.2).2,by omega⟩
 split at h
 · simp only[Ami,decide_eq_true_eq]at h
   rw[h.1.1];exact ⟨by decide,by decide,by omega⟩
 · simp only[Ami,decide_eq_true_eq]at h
   rw[h.1.2.1]
   refine ⟨by decide,by decide,?_⟩
   have hb:=h.2.2
   unfold Ku at hb
   split at hb
   · rename_i hi;rw[hi];simp
   · cases hb
theorem Dy{d:Nat}{a:Arr}(h:Ba d a=true):A5 a.shape=((a.cells.length:Int),0)∧∀ c∈a.cells,B8 d c=true:=by
 rw[IU]at h
 simp only[Ami,decide_eq_true_eq,Ank]at h
 exact h
theorem Zd{d:Nat}{a:Arr}(h1:A5 a.shape=((a.cells.length:Int),0))(h2 : ∀ c∈a.cells,B8 d c=true):Ba d a=true:=by
 rw[IU]
 simp only[Ami,decide_eq_true_eq,Ank]
 exact ⟨h1,h2⟩
theorem E0{d:Nat}{a:Arr}(h:Ba d a=true):a.cells.length≤2048∧a.shape.length≤6∧∀ x∈a.shape,0≤x∧x≤2048:=by
 have h1:=(Dy h).1
 have h2:=F5 a.shape
 have h3:=Gr (l:=a.shape) (by rw[h1])
 rw[h1]at h2
 exact ⟨by simp only at h2;omega,h3⟩
theorem Oz{d:Nat}{a:Arr}(h:Ba d a=true) : ∀ c∈a.cells,c.n.top.length≤32:=fun c hc=>(R1 ((Dy h).2 c hc)).1
theorem R0{z:Int}(d:Nat)(h:Bc z):B8 d (Be z)=true:=by
 have : ∀ k r,D7 k r (Be z)=true:=by
  intro k r
  unfold D7
  rw[if_pos (show (Be z).kind=0 from rfl)]
  have:=Aje h
  simp only[Be,this];rfl
 cases d <;> exact this _ _
theorem Ez{z:Int}(h1 : -100000≤z)(h2:z≤100000):Bc z:=by unfold Bc;omega
def Sml:Nat→Arr→Prop
 | 0,_=>False
 | d+1,a=>a.shape.length≤1048576∧a.cells.length≤1048576∧(∀ x∈a.shape,Bc x)∧∀ c∈a.cells,c.n.top.length≤1048576∧c.n.bot.length≤1048576∧c.inn.length≤1048576∧∀ x∈c.inn,Sml d x
def SmlC(d:Nat)(c:Cell):Prop:=c.n.top.length≤1048576∧c.n.bot.length≤1048576∧c.inn.length≤1048576∧∀ x∈c.inn,Sml d x
theorem Sml.succ {d:Nat} {a:Arr} (h:Sml d a) : ∃ e,d=e+1:=by
 cases d with
 | zero=>exact h.elim
 | succ e=>exact ⟨e,rfl⟩
theorem Sml.cell {d:Nat} {a:Arr} (h:Sml (d+1) a) : ∀ c∈a.cells,SmlC d c:=h.2.2.2
theorem Sml.of {d:Nat} {a:Arr} (h1:a.shape.length≤1048576) (h2:a.cells.length≤1048576) (h3 : ∀ x∈a.shape,Bc x) (h4 : ∀ c∈a.cells,SmlC d c):Sml (d+1) a:=⟨h1,h2,h3,h4⟩
theorem Sml.fits : ∀ {d:Nat} {a:Arr},Sml d a→Fits a
 | 0,_,h=>h.elim
 | d+1,.mk s sh cs,⟨h1,h2,h3,h4⟩=>by
  have h1':sh.length≤1048576:=h1
  have h2':cs.length≤1048576:=h2
  refine Fits.of (by omega) (by omega) h3 (fun c hc=> ?_)
  obtain ⟨g1,g2,g3,g4⟩:=h4 c hc
  exact ⟨by omega,by omega,by omega,fun x hx=>(g4 x hx).fits⟩
theorem SmlC.fits {d:Nat} {c:Cell} (h:SmlC d c):Jw c:=⟨by have:=h.1;omega,by have:=h.2.1;omega,by have:=h.2.2.1;omega,fun x hx=>(h.2.2.2 x hx).fits⟩
theorem Sml.mono : ∀ {d e:Nat} {a:Arr},Sml d a→d≤e→Sml e a
 | 0,_,_,h,_=>h.elim
 | d+1,0,_,_,hle=>by omega
 | d+1,e+1,a,⟨h1,h2,h3,h4⟩,hle=>⟨h1,h2,h3,fun c hc=>⟨(h4 c hc).1,(h4 c hc).2.1,(h4 c hc).2.2.1,fun x hx=>((h4 c hc).2.2.2 x hx).mono (by omega)⟩⟩
theorem SmlC.mono {d e:Nat} {c:Cell} (h:SmlC d c) (hle:d≤e):SmlC e c:=⟨h.1,h.2.1,h.2.2.1,fun x hx=>(h.2.2.2 x hx).mono hle⟩
theorem Rz{d:Nat}{c:Cell}(h:B8 d c=true) : ∀ x∈c.inn,∃ e,d=e+1∧Gi x=false∧Ba e x=true∧c.inn = [x]∧c.kind=2:=by
 have key : ∀ k r,D7 k r c=true→∀ x∈c.inn,k=true∧Gi x=false∧r x=true∧c.inn = [x]∧c.kind=2:=by
  intro k r h x hx
  unfold D7 at h
  split at h
  · simp only[Ami,decide_eq_true_eq]at h
    rw[Am1.1 h.1.2]at hx;cases hx
  split at h
  · simp only[Ami,decide_eq_true_eq]at h
    rw[Am1.1 h.1.2]at hx;cases hx
  · simp only[Ami,decide_eq_true_eq]at h
    obtain ⟨h1,h2,h3⟩:=h
    unfold Ku at h3
    split at h3
    · rename_i y hy
      rw[hy]at hx ⊢
      have:x=y:=by simpa using hx
      subst this
      simp only[Ami,Bool.not_eq_true']at h3
      exact ⟨h2,h3.1,h3.2,rfl,h1.1⟩
    · cases h3
 cases d with
 | zero=>intro x hx;exact absurd (key _ _ h x hx).1 (by simp)
 | succ e=>intro x hx;exact ⟨e,rfl,(key _ _ h x hx).2⟩
theorem D5 : ∀ {d:Nat} {a:Arr},Ba d a=true→Sml (d+1) a
 | 0,a,h=>by
  have hl:=E0 h
  refine ⟨by omega,by omega,fun x hx=>Ez (by have:=hl.2.2 x hx;omega) (by have:=hl.2.2 x hx;omega),fun c hc=> ?_⟩
  have hc':=(Dy h).2 c hc
  have:=R1 hc'
  exact ⟨by omega,by omega,by omega,fun x hx=>by obtain ⟨e,he,_⟩:=Rz hc' x hx;omega⟩
 | d+1,a,h=>by
  have hl:=E0 h
  refine ⟨by omega,by omega,fun x hx=>Ez (by have:=hl.2.2 x hx;omega) (by have:=hl.2.2 x hx;omega),fun c hc=> ?_⟩
  have hc':=(Dy h).2 c hc
  have:=R1 hc'
  refine ⟨by omega,by omega,by omega,fun x hx=> ?_⟩
  obtain ⟨e,he,_,hr,_⟩:=Rz hc' x hx
  have:e=d:=by omega
  subst this
  exact D5 hr
theorem XV{d:Nat}{c:Cell}(h:B8 d c=true):SmlC d c:=by
 have:=R1 h
 refine ⟨by omega,by omega,by omega,fun x hx=> ?_⟩
 obtain ⟨e,rfl,_,hr,_⟩:=Rz h x hx
 exact D5 hr
theorem Tk(es:List D)(h:es.length≤1048576):Tw (.amb es.isEmpty (.ret [D.sl []]) (.br (decide (([]:List D).length+es.length≤Aj)) (.ret [D.sl ([]++es)]) .fail)) [D.sl es]:=by
 refine AaK (fun h=>Ac ?_) (Ax ?_ (Ac ?_))
 · rw[List.isEmpty_iff.1 h]
 · simp only[Amu,Aj];omega
 · rw[Anm]
theorem MM(l:List Ao)(h:l.length≤1048576):Sp 247 [dL l] [dL l]:=Af 0 (AjZ _ _) (by simp only[Bz];exact Tk _ (by simpa using h))
theorem I0(l:List Int)(h:l.length≤1048576):Sp 96 [dI l] [dI l]:=Af 0 (ZL _ _) (by simp only[B_];exact Tk _ (by simpa using h))
theorem AbZ(l:List Cell)(h:l.length≤1048576):Sp 139 [.sl (l.map dC)] [.sl (l.map dC)]:=Af 0 (AjY _ _) (by simp only[Ds];exact Tk _ (by simpa using h))
theorem AbY(l:List Arr)(h:l.length≤1048576):Sp 248 [.sl (l.map dA)] [.sl (l.map dA)]:=Af 0 (AjX _ _) (by simp only[Ds];exact Tk _ (by simpa using h))
theorem BY{d:Nat}(c:Cell)(h:SmlC d c):Sp 214 [dC c] [dC c]:=by
 refine Af 0 (AbA _ _) ?_
 simp only[Ah]
 refine Aa (MM _ h.1) (Aa (MM _ h.2.1) (Aa (AbY _ h.2.2.1) (Ac ?_)))
 simp only[Ag,Bz,Ds,AcG]
 rw[Dr];rfl
def El(c:Cell):Arr:= .mk 0 [] [c]
def Ju(l:List Cell):Arr:= .mk 0 [(l.length:Int)] l
def Da(a:Arr)(l:Ap):Arr:= .mk (a.s|||l) a.shape a.cells
theorem Pp{d:Nat}(c:Cell)(h:SmlC d c):Sp 178 [dC c] [dA (El c)]:=by
 refine Af 0 (Ab1 _ _) (Aa (BY c h) (Ac ?_))
 rw[Dn];rfl
theorem Po(n:Num)(h1:n.top.length≤1048576)(h2:n.bot.length≤1048576):Sp 257 [dN n] [dC ⟨0,0,n,0,[]⟩]:=by
 refine Af 0 (Abz _ _) (Aa (ys:=[dC ⟨0,0,n,0,[]⟩]) ?_ (Ac rfl))
 have:=BY (d:=0) ⟨0,0,n,0,[]⟩ ⟨h1,h2,by simp,by simp⟩
 rw[Dr]at this ⊢
 exact this
theorem Ld{α:Type}{f:α→D}{z:D}(pre:List α)(x:α)(k:Nat):((pre.map f)++Amc (k+1) z).set pre.length (f x)=((pre++[x]).map f)++Amc k z:=by
 rw[List.set_append_right _ _ (by simp),Amd,Nat.sub_self,List.replicate_succ,List.set_cons_zero]
 simp
theorem Cr:D.agg [D.int 0,D.sl [],D.sl []]=dA .none:=by rw[Dn];rfl
theorem Gu:D.agg [D.int 0,D.int 0,D.agg [D.bool false,D.sl [],D.sl []],D.int 0,D.sl []]=dC Cell.none:=by rw[Dr];rfl
theorem M8{d:Nat}(l:List Cell)(h : ∀ c∈l,SmlC d c)(hl:l.length≤1048576):Sp 149 [.sl (l.map dC)] [dA (Ju l)]:=by
 refine Af (l.length+1) (Ab5 _ _) ?_
 simp only[Ah,Gu]
 refine Ad (Ad (Ax (by simp only[Aj];omega) ?_))
 have key:=B3 l (fun m k (cs:List D)=>Tb (l.length+1) m (.sl (l.map dC)) cs (.sl (l.map dC)) (l.length:Int) (k:Int) 0) (fun _ _=>[dA (Ju l)])
  (fun rest cs=>∃ pre,l=pre++rest∧cs=pre.map dC++Amc rest.length (dC Cell.none))
  (fun m k cs hk hI=>by
   obtain ⟨pre,h1,rfl⟩:=hI
   simp only[LR,Ah]
   refine Aq (Ac ?_)
   rw[Amx]at h1
   rw[Dn,Ju];subst h1;simp[dI];rfl)
  (fun m k cs c rest hdr hI ih=>by
   obtain ⟨h1,h2,h3⟩:=Bx hdr
   obtain ⟨pre,hp,rfl⟩:=hI
   have hk:k=pre.length:=by
    have:=congrArg List.length hdr
    rw[hp]at this h1
    simp at this h1;omega
   simp only[LR,Ah,As h2,Bb k]
   repeat (refine Ad ?_)
   refine Aa (BY c (h c (Amh h2))) ?_
   have hlen:(pre.map dC++Amc (rest.length+1) (dC Cell.none)).length=l.length:=by rw[hp];simp
   rw[Amg,hlen]
   refine Ad (Ad ?_)
   rw[Ag,hk,Ld,← hk]
   exact ih _ ⟨pre++[c],by rw[hp];simp,rfl⟩)
  (l.length+1) 0 (Amc l.length (dC Cell.none)) (by omega) (by omega) ⟨[],by simp,by simp⟩
 exact key
theorem F1(a:Arr)(l:Ap):Sp 90 [dA a,dB l] [dA (Da a l)]:=by
 refine Af 0 (Ab0 _ _ _) ?_
 simp only[Ah]
 refine Aa (Gb a.s l) (Ac ?_)
 rw[Dn];rfl
def Li(c:Cell):Arr:=match c.inn with
 | [x]=>if c.kind=2 then Da x c.l else .mk c.l [] [c]
 | _=> .mk c.l [] [c]
theorem Aha(c:Cell):Da (El c) c.l = .mk c.l [] [c]:=by simp[Da,El]
theorem Aa6{c:Cell}(h : ¬ (c.kind=2∧c.inn.length=1)):Li c = .mk c.l [] [c]:=by
 unfold Li
 split
 · rename_i x hx
   rw[if_neg (fun hk=>h ⟨hk,by rw[hx];rfl⟩)]
 · rfl
theorem Aly{c:Cell}{x:Arr}(h:c.kind=2)(hx:c.inn = [x]):Li c=Da x c.l:=by unfold Li;rw[hx];simp[h]
theorem Md{α:Type}{l:List α}(h:l.length=1) : ∃ x,l = [x]:=by
 match l,h with
 | [x],_=>exact ⟨x,rfl⟩
theorem BX{d:Nat}(c:Cell)(h:SmlC d c):Sp 104 [dC c] [dA (Li c)]:=by
 refine Af 0 (Ab4 _ _) ?_
 simp only[Ah]
 have other : ¬ (c.kind=2∧c.inn.length=1)→Tw (.call 178 [] [dC c] fun Y2=> .call 90 [] [qA Y2,dB c.l] fun Y3=> .ret [qA Y3]) [dA (Li c)]:=fun hn=>by
  refine Aa (Pp c h) (Aa (F1 (El c) c.l) (Ac ?_))
  rw[Ag,Aha,Aa6 hn]
 refine Ae (fun h1=>Ae (fun h2=> ?_) (fun h2=>other (by omega))) (fun h1=>other (by omega))
 obtain ⟨x,hx⟩:=Md (show c.inn.length=1 by omega)
 rw[Aly h1 hx]
 simp only[hx,Ani,List.map_nil,Amg,Amu,Ag]
 exact Ad (Ad (Aa (F1 x c.l) (Ac rfl)))
theorem Ab6(a:Arr):Sp 213 [dA a] [.bool (decide (a.shape.length=0∧a.cells.length=1))]:=by
 refine Af 0 (Ab7 _ _) ?_
 simp only[Ah]
 refine Ae (fun h=>Ac ?_) (fun h=>Ac ?_)
 · congr 2;rw[decide_eq_decide];omega
 · rw[decide_eq_false (fun hh=>h (by omega))]
theorem LO(a:Arr):Sp 146 [dA a] [.bool (Gi a)]:=by
 refine Af 0 (Ab2 _ _) (Aa (Ab6 a) ?_)
 simp only[Ah]
 unfold Gi
 refine Ae (fun h=> ?_) (fun h=>Ac ?_)
 · obtain ⟨c,hc⟩:=Md h.2
   have hs:=Am1.1 h.1
   simp only[hc,hs,Ani,List.map_nil,Amg,Amu,Ag,NB,Al]
   exact Ad (Ad (Ac rfl))
 · match hs:a.shape,hc:a.cells with
   | [],[c]=>rw[hs,hc]at h;simp at h
   | x::xs,_=>rfl
   | [],[]=>rfl
   | [],x::y::xs=>rfl
theorem Ac5(l:Ap)(a:Arr):D.agg [dB l,D.int 2,D.agg [D.bool false,D.sl [],D.sl []],D.int 0,D.sl [dA a]]=dC ⟨l,2,.zero,0,[a]⟩:=by rw[Dr];rfl
mutual
def Fn(g:Ap→Ap):Arr→Arr
 | .mk s sh cs=> .mk (g s) sh (Rw g cs)
def Rw(g:Ap→Ap):List (CellF Arr)→List (CellF Arr)
 | []=>[]
 | c::cs=>En g c::Rw g cs
def En(g:Ap→Ap):CellF Arr→CellF Arr
 | ⟨l,k,n,c,inn⟩=>⟨g l,k,n,c,Rv g inn⟩
def Rv(g:Ap→Ap):List Arr→List Arr
 | []=>[]
 | a::as_=>Fn g a::Rv g as_
end
theorem XF(g:Ap→Ap) : ∀ cs,Rw g cs=cs.map (En g)
 | []=>by simp[Rw]
 | c::cs=>by simp[Rw,XF g cs]
theorem XE(g:Ap→Ap) : ∀ as_,Rv g as_=as_.map (Fn g)
 | []=>by simp[Rv]
 | a::as_=>by simp[Rv,XE g as_]
theorem Mr(g:Ap→Ap)(a:Arr):Fn g a = .mk (g a.s) a.shape (a.cells.map (En g)):=by cases a;simp[Fn,XF]
theorem Yy(g:Ap→Ap)(c:Cell):En g c=⟨g c.l,c.kind,c.n,c.c,c.inn.map (Fn g)⟩:=by cases c;simp[En,XE]
def Um(a:Arr):Arr:=Fn (fun _=>0) a
noncomputable def V5(a b:Arr):Bool:=Hm (Um a) (Um b)
theorem Zj{α β:Type}{P:Program}{md:Nat→FMode}(φ:α→β)(a b:List α)(e:α→α→Bool)(he : ∀ x∈a,∀ y,e x y=true↔φ x=φ y)(hlen:a.length=b.length)(r:Bool)(hr:r=true↔a.map φ=b.map φ)(L:Nat→Nat→Tree)
  (hend : ∀ m,∀ Q:List D→Prop,Q [.bool true]→(L (m+1) a.length).wp P md Q)
  (hstep : ∀ m k x y,∀ Q:List D→Prop,a[k]? = some x→b[k]? = some y→(e x y=false→Q [.bool false])→(e x y=true→(L m (k+1)).wp P md Q)→(L (m+1) k).wp P md Q) (N:Nat) (hN:a.length<N):(L N 0).wp P md (fun zs=>zs = [.bool r]):=by
 have key:=V2 (P:=P) (md:=md) a.length (fun m k (_:Unit)=>L m k) (fun _ _=>[.bool r]) (fun k _=>(a.take k).map φ=(b.take k).map φ)
  (fun m s h=>by
   refine hend m _ ?_
   rw[Am7 (Amo _),Am7 (by omega)]at h
   rw[hr.2 h])
  (fun m k s hk h ih=>by
   have ha:a[k]? = some a[k]:=Amb _
   have hb:b[k]? = some (b[k]'(by omega)):=Amb _
   refine hstep m k _ _ _ ha hb (fun hf=> ?_) (fun ht=>ih () ?_)
   · have:r=false:=by
      cases hrr:r with
      | false=>rfl
      | true =>
       have h2:=hr.1 hrr
       have h3:(a.map φ)[k]? = (b.map φ)[k]? := by rw[h2]
       rw[Ams,Ams,ha,hb]at h3
       have h4:φ a[k]=φ b[k]:=by simpa using h3
       rw[(he a[k] (Anh _) _).2 h4]at hf;cases hf
     rw[this]
   · have:φ a[k]=φ b[k]:=(he a[k] (Anh _) _).1 ht
     rw[List.take_succ_eq_append_getElem hk,List.take_succ_eq_append_getElem (by omega),List.map_append,List.map_append,h]
     simp[this])
  N 0 () (by omega) (by omega) (by simp)
 exact key
def gl(lb:Bool)(l:Ap):Ap:=if lb then l else 0
noncomputable def Lw(lb:Bool)(a b:Arr):Bool:=Hm (Fn (gl lb) a) (Fn (gl lb) b)
noncomputable def Nk(lb:Bool)(a b:Cell):Bool:=Ic (En (gl lb) a) (En (gl lb) b)
noncomputable def pd(p:Prop):Bool:= @decide p (Classical.propDecidable _)
theorem Xa{p:Prop} : pd p=true↔p:= @decide_eq_true_iff _ (Classical.propDecidable _)
theorem TH{p:Prop}(h : ¬ p):pd p=false:= @decide_eq_false _ (Classical.propDecidable _) h
theorem AdI{o x:Nat}{z:Int}(h:z=(x:Int)):(if (o:Int)<z then z else (o:Int))=((max o x:Nat):Int):=by subst h;split <;> omega
theorem NO{lb:Bool}{a b:Arr} : Lw lb a b=true↔Fn (gl lb) a=Fn (gl lb) b:=Kw
theorem NN{lb:Bool}{a b:Cell} : Nk lb a b=true↔En (gl lb) a=En (gl lb) b:=Lv
theorem P5{lb:Bool}{a b:Cell} : Nk lb a b=true↔(gl lb a.l=gl lb b.l∧a.kind=b.kind∧a.c=b.c∧a.n=b.n∧a.inn.map (Fn (gl lb))=b.inn.map (Fn (gl lb))):=by rw[NN,Yy,Yy,CL]
theorem DM{lb:Bool}{a b:Arr} : Lw lb a b=true↔(gl lb a.s=gl lb b.s∧a.shape=b.shape∧a.cells.map (En (gl lb))=b.cells.map (En (gl lb))):=by rw[NO,Mr,Mr,S4];simp
theorem F4{b:Bool}(h : ¬ b=true):b=false:=by cases b with | false=>rfl | true=>exact absurd rfl h
theorem LS(lb:Bool) : ∀ (d:Nat) (a b:Arr),Sml d a→Sp 232 [dA a,dA b,.bool lb] [.bool (Lw lb a b)]
 | 0,_,_,h=>h.elim
 | d+1,a,b,h=>by
  have hcell : ∀ (x y:Cell),SmlC d x→Dq Tryz.prog md 273 [.ref 4] [dC x,dC y,D.ref (.bool lb)] [.bool (Nk lb x y)]:=fun x y hx=>by
    have hlx:=hx.2.2.1
    have hinn:Sp 275 [.sl (x.inn.map dA),.sl (y.inn.map dA),D.fn 276 [.ref 4] [D.ref (.bool lb)]] [.bool (pd (x.inn.map (Fn (gl lb))=y.inn.map (Fn (gl lb))))]:=by
      refine Af (x.inn.length+1) (Akg _ _ _ _) ?_
      simp only[Ah]
      refine Ae (fun h=>Ac ?_) (fun h=> ?_)
      · rw[TH]
        intro hh;have:=congrArg List.length hh;simp at this;omega
      · refine Zj (P:=Tryz.prog) (md:=md) (Fn (gl lb)) x.inn y.inn (Lw lb) (fun p _ q=>NO) (by omega) _ Xa (fun m k=>Z0 (x.inn.length+1) m (.sl (y.inn.map dA)) (D.fn 276 [.ref 4] [D.ref (.bool lb)]) (.sl (x.inn.map dA)) (x.inn.length:Int) (k:Int)) ?_ ?_ (x.inn.length+1) (by omega)
        · intro m Q hQ
          simp only[ZN,Ah]
          exact Aq (Ac hQ)
        · intro m k p q Q hp hq hF hT
          have hk:k<x.inn.length:=(Ame.1 hp).1
          have hk':k<y.inn.length:=(Ame.1 hq).1
          simp only[ZN,Ah,As hp,As hq,Bb k,Gx,Gv,Gw,List.cons_append,Anm]
          repeat (refine Ad ?_)
          refine Aa (ys:=[.bool (Lw lb p q)]) (Af 0 (Ab8 _ _ _ _) (Aa (LS lb d p q (hx.2.2.2 p (Amh hp))) (Ac rfl))) ?_
          simp only[Ag,Az]
          exact Bu (fun h=>Ac (hF (by simpa using h))) (fun h=>hT (by simpa using h))
    have fin : ∀ (hl:gl lb x.l=gl lb y.l),Tw (.br (decide (¬ x.kind=y.kind)) (.ret [D.bool false]) (.br (decide (¬ x.c=y.c)) (.ret [D.bool false]) (.call 274 [] [dN x.n,dN y.n] fun Y1=> .br (!((qA Y1).toBool)) (.ret [D.bool false]) (.call 275 [] [.sl (x.inn.map dA),.sl (y.inn.map dA),D.fn 276 [.ref 4] [D.ref (.bool lb)]] fun Y2=> .ret [D.bool ((qA Y2).toBool)])))) [.bool (Nk lb x y)]:=fun hl=>by
      refine Ae (fun h=>Ac ?_) (fun h2=>Ae (fun h=>Ac ?_) (fun h3=>Aa (Ahx x.n y.n hx.fits.1 hx.fits.2.1) ?_))
      · rw[F4 (fun hh=>h (P5.1 hh).2.1)]
      · rw[F4 (fun hh=>h (P5.1 hh).2.2.1)]
      simp only[Ag,Az,Ed]
      refine Ae (fun h=>Ac ?_) (fun h4=>Aa hinn (Ac ?_))
      · rw[F4 (fun hh=>h (P5.1 hh).2.2.2.1)]
      · simp only[Ag,Az]
        congr 2
        rw[Bool.eq_iff_iff,P5,Xa]
        exact ⟨fun hh=>⟨hl,Amn.1 h2,Amn.1 h3,Amn.1 h4,hh⟩,fun hh=>hh.2.2.2.2⟩
    refine Af 0 (Ab9 _ _ _ _) ?_
    simp only[Ah,AX]
    refine Bu (fun hb=>Ae (fun h=>Ac ?_) (fun h1=>fin ?_)) (fun hb=>fin ?_)
    · have hf:Nk lb x y=false:=F4 (fun hh=>h (by
        have:=(P5.1 hh).1
        simp only[gl,hb,if_true]at this
        rw[this]))
      rw[hf]
    · simp only[gl,hb,if_true];exact BitVec.eq_of_toNat_eq (by omega)
    · simp[gl,hb]
  have hcells:Sp 272 [.sl (a.cells.map dC),.sl (b.cells.map dC),D.fn 273 [.ref 4] [D.ref (.bool lb)]] [.bool (pd (a.cells.map (En (gl lb))=b.cells.map (En (gl lb))))]:=by
    have hla:=h.2.1
    refine Af (a.cells.length+1) (Akh _ _ _ _) ?_
    simp only[Ah]
    refine Ae (fun h=>Ac ?_) (fun h'=> ?_)
    · rw[TH]
      intro hh;have:=congrArg List.length hh;simp at this;omega
    · refine Zj (P:=Tryz.prog) (md:=md) (En (gl lb)) a.cells b.cells (Nk lb) (fun p _ q=>NN) (by omega) _ Xa (fun m k=>Z2 (a.cells.length+1) m (.sl (b.cells.map dC)) (D.fn 273 [.ref 4] [D.ref (.bool lb)]) (.sl (a.cells.map dC)) (a.cells.length:Int) (k:Int)) ?_ ?_ (a.cells.length+1) (by omega)
      · intro m Q hQ
        simp only[ZO,Ah]
        exact Aq (Ac hQ)
      · intro m k p q Q hp hq hF hT
        have hk:k<a.cells.length:=(Ame.1 hp).1
        have hk':k<b.cells.length:=(Ame.1 hq).1
        simp only[ZO,Ah,As hp,As hq,Bb k,Gx,Gv,Gw,List.cons_append,Anm]
        repeat (refine Ad ?_)
        refine Aa (hcell p q (h.cell p (Amh hp))) ?_
        simp only[Ag,Az]
        exact Bu (fun h=>Ac (hF (by simpa using h))) (fun h=>hT (by simpa using h))
  have fin : ∀ (hl:gl lb a.s=gl lb b.s),Tw (.call 234 [] [dI a.shape,dI b.shape] fun Y1=> .br (!((qA Y1).toBool)) (.ret [D.bool false]) (.call 272 [] [.sl (a.cells.map dC),.sl (b.cells.map dC),D.fn 273 [.ref 4] [D.ref (.bool lb)]] fun Y2=> .ret [D.bool ((qA Y2).toBool)])) [.bool (Lw lb a b)]:=fun hl=>by
    refine Aa (ZP a.shape b.shape (by have:=h.1;omega)) ?_
    simp only[Ag,Az,Ed]
    refine Ae (fun h=>Ac ?_) (fun h1=>Aa hcells (Ac ?_))
    · rw[F4 (fun hh=>h (DM.1 hh).2.1)]
    · simp only[Ag,Az]
      congr 2
      rw[Bool.eq_iff_iff,DM,Xa]
      exact ⟨fun hh=>⟨hl,Amn.1 h1,hh⟩,fun hh=>hh.2.2⟩
  refine Af 0 (Ab_ _ _ _ _) ?_
  simp only[Ah]
  refine Bu (fun hb=>Ae (fun h=>Ac ?_) (fun h1=>fin ?_)) (fun hb=>fin ?_)
  · have hf:Lw lb a b=false:=F4 (fun hh=>h (by
      have:=(DM.1 hh).1
      simp only[gl,hb,if_true]at this
      rw[this]))
    rw[hf]
  · simp only[gl,hb,if_true];exact BitVec.eq_of_toNat_eq (by omega)
  · simp[gl,hb]
theorem LN{d:Nat}(a b:Arr)(h:Sml d a):Sp 179 [dA a,dA b] [.bool (V5 a b)]:=Af 0 (Aby _ _ _) (Aa (LS false d a b h) (Ac rfl))
mutual
def F6:Arr→Nat
 | .mk s sh cs=>if Gi (.mk s sh cs) then 0 else Ew cs+1
def Ew:List (CellF Arr)→Nat
 | []=>0
 | c::cs=>max (Ud c) (Ew cs)
def Ud:CellF Arr→Nat
 | ⟨_,_,_,_,inn⟩=>Hl inn
def Hl:List Arr→Nat
 | []=>0
 | a::as_=>max (F6 a) (Hl as_)
end
theorem NE(a:Arr):F6 a=if Gi a then 0 else Ew a.cells+1:=by cases a;rw[F6];rfl
theorem DG(c:Cell):Ud c=Hl c.inn:=by cases c;rw[Ud]
theorem DH{k:Nat} : ∀ {cs:List Cell},(∀ c∈cs,Ud c≤k)→Ew cs≤k
 | [],_=>by rw[Ew];omega
 | c::cs,h=>by
  have h1:=h c (by simp)
  have h2:=DH (fun x hx=>h x (List.mem_cons_of_mem _ hx))
  rw[Ew];omega
theorem DF{k:Nat} : ∀ {as_:List Arr},(∀ a∈as_,F6 a≤k)→Hl as_≤k
 | [],_=>by rw[Hl];omega
 | a::as_,h=>by
  have h1:=h a (by simp)
  have h2:=DF (fun x hx=>h x (List.mem_cons_of_mem _ hx))
  rw[Hl];omega
theorem DE : ∀ {d:Nat} {a:Arr},Sml d a→F6 a≤d
 | 0,_,h=>h.elim
 | d+1,a,h=>by
  rw[NE]
  have:Ew a.cells≤d:=DH (fun c hc=>by rw[DG];exact DF (fun x hx=>DE ((h.cell c hc).2.2.2 x hx)))
  split <;> omega
theorem BW : ∀ (d:Nat) (a:Arr),d≤10000000→Sml d a→Sp 147 [dA a] [.int (F6 a:Int)]
 | 0,_,_,h=>h.elim
 | d+1,a,hd,h=>by
  have hl:=h.2.1
  refine Af 1048577 (Abu _ _) (Aa (LO a) ?_)
  rw[NE]
  simp only[Ah]
  refine Bu (fun hs=>Ac (by rw[if_pos hs];rfl)) (fun hs=> ?_)
  rw[if_neg (by simp[hs])]
  have hb:Ew a.cells≤d:=DH (fun c hc=>by rw[DG];exact DF (fun x hx=>DE ((h.cell c hc).2.2.2 x hx)))
  have key:=B3 a.cells (fun m k (o:Nat)=>S5 1048577 m (o:Int) (.sl (a.cells.map dC)) (a.cells.length:Int) (k:Int)) (fun rest o=>[.int ((max o (Ew rest)+1:Nat):Int)]) (fun rest o=>max o (Ew rest)≤d)
   (fun m k o hk hI=>by
    simp only[LK,Ah]
    refine Aq (Ac ?_)
    rw[Ew]at hI ⊢
    rw[At (by omega) (by omega),show max o 0=o by omega];rfl)
   (fun m k o c rest hdr hI ih=>by
    obtain ⟨h1,h2,h3⟩:=Bx hdr
    have hc:=h.cell c (Amh h2)
    have hlc:=hc.2.2.1
    simp only[LK,Ah,As h2]
    repeat (refine Ad ?_)
    rw[Ew,DG]at hI ⊢
    have key:=B3 c.inn (fun m' j (o:Nat)=>S6 1048577 m m' (o:Int) (.sl (a.cells.map dC)) (a.cells.length:Int) (k:Int) (.sl (c.inn.map dA)) (c.inn.length:Int) (j:Int)) (fun rest' o=>[.int ((max o (max (Hl rest') (Ew rest))+1:Nat):Int)]) (fun rest' o=>max o (max (Hl rest') (Ew rest))≤d)
     (fun m' j o hj hI'=>by
      simp only[LL,Ah,Bb k]
      rw[Hl]at hI' ⊢
      refine Aq ?_
      have:=ih o (by omega)
      rw[show max o (max 0 (Ew rest))=max o (Ew rest) by omega]
      exact this)
     (fun m' j o x rest' hdr' hI' ih'=>by
      obtain ⟨g1,g2,g3⟩:=Bx hdr'
      simp only[LL,Ah,As g2,Bb j]
      repeat (refine Ad ?_)
      refine Aa (BW d x (by omega) (hc.2.2.2 x (Amh g2))) ?_
      rw[Hl]at hI' ⊢
      have:=ih' (max o (F6 x)) (by omega)
      rw[show max o (max (max (F6 x) (Hl rest')) (Ew rest))=max (max o (F6 x)) (max (Hl rest') (Ew rest)) by omega]
      rw[AdI (x:=F6 x) (z:=(qA [D.int (F6 x:Int)]).toInt) rfl]
      exact this)
     1048577 0 o (by omega) (by omega) hI
    exact key)
   1048577 0 0 (by omega) (by omega) (by simpa using hb)
  refine Tree.wp_mono key (fun ys hy=>hy.trans ?_)
  simp
theorem AiR(n:Nat)(nn0 s1:D):fA [] n 32 [] [nn0,s1] =
 cK 78 [D.int nn0.toInt] fun Y1 =>
 .ret [D.agg [D.int s1.toInt,D.sl [],D.sl [qA Y1]]]:=by kernel_rfl
def Yx:List (Nat×Orc):=[(3,⟨[(0,some 23),(4,none),(5,none),(6,none)],[(4,false),(5,false)],[(.fld 5 [1],1030,3),(.fld 5 [2],1031,67)]⟩)]
noncomputable def Yw(n m3:Nat)(l0:D)(i6 t4_0 out5_0:Int)(out5_1 out5_2:List D):Tree :=
 lA (eA Yx n 33 [1,1,0,1,0,0]) (Ak Yx 3) m3 ⟨(.d 23 l0::uA 3++(.ptr 4 []:: .ptr 5 []:: .i .i64 i6::uA 22)),[(4,.var 26 (.agg 26 [.i .u64 t4_0,.mt,.mt]) true),(5,.var 26 (.agg 26 [.i .u64 out5_0,.row 1030,.row 1031]) true),(1030,.row 3 out5_1 true),(1031,.row 67 out5_2 true)],[4,5,1030,1031],[],[]⟩
  (Ai 0 (Am (jA Yx n 33 [1,1,1]) (rA 33 [23,22] [.cell 4 26] [26])))
theorem XD(n m3:Nat)(l0:D)(i6 t4_0 out5_0:Int)(out5_1 out5_2:List D):Yw n (m3+1) l0 i6 t4_0 out5_0 out5_1 out5_2 =
 bK (i6<(l0.els.length:Int)) (kK (0≤i6) (kK (i6<(l0.els.length:Int)) (cK 78 [D.int ((l0.els.getD (Ama i6) D.nil).toInt)] fun Y1 =>
 kK (out5_2.length + [qA Y1].length≤Aj) (Yw n m3 l0 (Al6 .i64 (i6+1)) t4_0 out5_0 out5_1 (out5_2++[qA Y1])))))
 (.ret [D.agg [D.int out5_0,D.sl out5_1,D.sl out5_2]]):=by kernel_rfl
theorem AiT(n:Nat)(l0 s1:D):fA Yx n 33 [] [l0,s1] =
 Yw n n l0 0 0 s1.toInt [D.int (l0.els.length:Int)] []:=by kernel_rfl
def Wa:List (Nat×Orc):=[(12,⟨[(2,none),(3,none),(4,none),(6,some 23),(9,some 24),(10,none),(41,none),(42,none)],[(2,true),(3,true),(4,false)],[(.slot 10,1120,67)]⟩)]
noncomputable def Oc(n m12:Nat)(of6 from9:D)(cells10:List D)(t41 t42:Int)(nn2 a3:D)(t4_0:Int):Tree :=
 lA (eA Wa n 35 [1,1,1,1,1,1,1,1,0,1,0,0]) (Ak Wa 12) m12 ⟨(.undef:: .undef:: .ptr 2 []:: .ptr 3 []:: .ptr 4 []:: .undef:: .d 23 of6:: .undef:: .undef:: .d 24 from9:: .row 1120::uA 30++(.i .i64 t41:: .i .i64 t42::uA 21)),[(2,.var 26 (.d 26 nn2) true),(3,.var 26 (.d 26 a3) true),(4,.var 26 (.agg 26 [.i .u64 t4_0,.mt,.mt]) true),(1120,.row 67 cells10 true)],[2,3,4,1120],[],[]⟩
  (Ai 0 (Am (jA Wa n 35 [1,1,1,1,1,1,1,1,1]) (rA 35 [26,26] [.cell 4 26,.tmp 5] [26,29])))
theorem RH(n m12:Nat)(of6 from9:D)(cells10:List D)(t41 t42:Int)(nn2 a3:D)(t4_0:Int):Oc n (m12+1) of6 from9 cells10 t41 t42 nn2 a3 t4_0 =
 bK (t42<t41) (.br (!((from9.els.length:Int)==(0:Int))) (kK (0≤Int.tmod t42 (from9.els.length:Int)) (kK (Int.tmod t42 (from9.els.length:Int)<(from9.els.length:Int)) (kK (0≤t42) (kK (t42<(cells10.length:Int)) (Oc n m12 of6 from9 (cells10.set (Ama t42) (from9.els.getD (Ama (Int.tmod t42 (from9.els.length:Int))) D.nil)) t41 (Al6 .i64 (t42+1)) nn2 a3 t4_0))))) .fail)
 (cK 84 [nn2] fun Y4 =>
 cK 83 [D.int ((a3.fld 0).toInt),D.int ((qA Y4).toInt)] fun Y5 =>
 .ret [D.agg [D.int ((qA Y5).toInt),of6,D.sl cells10],D.int 0]):=by kernel_rfl
theorem AeO(n:Nat)(nn0 a1:D):fA Wa n 35 [] [nn0,a1] =
 cK 80 [nn0] fun Y1 =>
 .br (((qB Y1).toInt)!=0) (.ret [D.agg [D.int 0,D.sl [],D.sl []],D.int ((qB Y1).toInt)])
 (cK 81 [qA Y1] fun Y2 =>
 .br (((qB Y2).toInt)!=0) (.ret [D.agg [D.int 0,D.sl [],D.sl []],D.int ((qB Y2).toInt)])
 (.br ((((a1.fld 2).els).length:Int)==0) (cK 82 [a1] fun Y3 =>
 kK (0≤(qA Y2).toInt) (kK ((qA Y2).toInt≤(qA Y2).toInt) (kK ((qA Y2).toInt≤Aj) (Oc n n (qA Y1) (D.sl [qA Y3]) (Amc (Ama ((qA Y2).toInt)) (D.agg [D.int 0,D.int 0,D.agg [D.bool false,D.sl [],D.sl []],D.int 0,D.sl []])) ((Amc (Ama ((qA Y2).toInt)) (D.agg [D.int 0,D.int 0,D.agg [D.bool false,D.sl [],D.sl []],D.int 0,D.sl []])).length:Int) 0 nn0 a1 0))))
 (kK (0≤(qA Y2).toInt) (kK ((qA Y2).toInt≤(qA Y2).toInt) (kK ((qA Y2).toInt≤Aj) (Oc n n (qA Y1) (a1.fld 2) (Amc (Ama ((qA Y2).toInt)) (D.agg [D.int 0,D.int 0,D.agg [D.bool false,D.sl [],D.sl []],D.int 0,D.sl []])) ((Amc (Ama ((qA Y2).toInt)) (D.agg [D.int 0,D.int 0,D.agg [D.bool false,D.sl [],D.sl []],D.int 0,D.sl []])).length:Int) 0 nn0 a1 0)))))):=by kernel_rfl
def Wc:List (Nat×Orc):=[(3,⟨[(1,none),(2,none),(3,none),(11,some 23),(12,none),(13,none)],[(1,true),(2,false)],[(.slot 3,1030,67)]⟩)]
noncomputable def Wb(n m3:Nat)(cells3:List D)(t11:D)(t12 t13:Int)(a1:D)(t2_0:Int):Tree :=
 lA (eA Wc n 56 [1,1,0,1,0,0]) (Ak Wc 3) m3 ⟨(.undef:: .ptr 1 []:: .ptr 2 []:: .row 1030::uA 7++(.d 23 t11:: .i .i64 t12:: .i .i64 t13::uA 17)),[(1,.var 26 (.d 26 a1) true),(2,.var 26 (.agg 26 [.i .u64 t2_0,.mt,.mt]) true),(1030,.row 67 cells3 true)],[1,2,1030],[],[]⟩
  (Ai 0 (Am (jA Wc n 56 [1,1,1]) (rA 56 [26] [.cell 2 26] [26])))
theorem RJ(n m3:Nat)(cells3:List D)(t11:D)(t12 t13:Int)(a1:D)(t2_0:Int):Wb n (m3+1) cells3 t11 t12 t13 a1 t2_0 =
 bK (t13<t12) (kK (0≤t13) (kK (t13<(t11.els.length:Int)) (cK 138 [D.int ((t11.els.getD (Ama t13) D.nil).toInt)] fun Y1 =>
 kK (0≤t13) (kK (t13<(cells3.length:Int)) (Wb n m3 (cells3.set (Ama t13) (qA Y1)) t11 t12 (Al6 .i64 (t13+1)) a1 t2_0)))))
 (.ret [D.agg [D.int ((a1.fld 0).toInt),D.sl [D.int (cells3.length:Int)],D.sl cells3]]):=by kernel_rfl
theorem AeQ(n:Nat)(a0:D):fA Wc n 56 [] [a0] =
 kK (0≤(((a0.fld 1).els).length:Int)) (kK ((((a0.fld 1).els).length:Int)≤(((a0.fld 1).els).length:Int)) (kK ((((a0.fld 1).els).length:Int)≤Aj) (Wb n n (Amc (Ama (((a0.fld 1).els).length:Int)) (D.agg [D.int 0,D.int 0,D.agg [D.bool false,D.sl [],D.sl []],D.int 0,D.sl []])) (a0.fld 1) (((a0.fld 1).els).length:Int) 0 a0 0))):=by kernel_rfl
theorem AeM(n:Nat)(a0:D):fA [] n 57 [] [a0] =
 cK 139 [a0.fld 2] fun Y1 =>
 .ret [D.agg [D.int ((a0.fld 0).toInt),D.sl [D.int (((a0.fld 2).els).length:Int)],D.sl ((qA Y1).els)]]:=by kernel_rfl
theorem AeF(n:Nat)(a0:D):fA [] n 61 [] [a0] =
 cK 146 [a0] fun Y1 =>
 .br ((qA Y1).toBool) (.ret [a0,D.int 0])
 (cK 147 [a0] fun Y2 =>
 bK (8<((qA Y2).toInt)) (.ret [D.agg [D.int 0,D.sl [],D.sl []],D.int 7])
 (.br ((((a0.fld 1).els).length:Int)==0) (bK (0<(((a0.fld 2).els).length:Int)) (kK (0≤0) (kK (0<(((a0.fld 2).els).length:Int)) (.ret [D.agg [D.int ((a0.fld 0).toInt),D.sl [],D.sl [D.agg [D.int (((((a0.fld 2).els).getD (Ama 0) D.nil).fld 0).toInt),D.int 2,D.agg [D.bool false,D.sl [],D.sl []],D.int 0,D.sl [a0]]]],D.int 0])))
 (.ret [D.agg [D.int ((a0.fld 0).toInt),D.sl [],D.sl [D.agg [D.int 0,D.int 2,D.agg [D.bool false,D.sl [],D.sl []],D.int 0,D.sl [a0]]]],D.int 0]))
 (.ret [D.agg [D.int ((a0.fld 0).toInt),D.sl [],D.sl [D.agg [D.int 0,D.int 2,D.agg [D.bool false,D.sl [],D.sl []],D.int 0,D.sl [a0]]]],D.int 0]))):=by kernel_rfl
theorem AeJ(n:Nat)(a0:D):fA [] n 62 [] [a0] =
 cK 82 [a0] fun Y1 =>
 bK (0<(((a0.fld 2).els).length:Int)) (kK (0≤0) (kK (0<(((a0.fld 2).els).length:Int)) (cK 104 [((a0.fld 2).els).getD (Ama 0) D.nil] fun Y2 =>
 cK 90 [qA Y2,D.int ((a0.fld 0).toInt)] fun Y3 =>
 .ret [qA Y3])))
 (cK 104 [qA Y1] fun Y4 =>
 cK 90 [qA Y4,D.int ((a0.fld 0).toInt)] fun Y5 =>
 .ret [qA Y5]):=by kernel_rfl
theorem AeD(n:Nat)(a0:D):fA [] n 63 [] [a0] =
 cK 147 [a0] fun Y1 =>
 cK 84 [a0] fun Y2 =>
 cK 148 [D.int ((qA Y1).toInt),D.int ((qA Y2).toInt)] fun Y3 =>
 .ret [qA Y3]:=by kernel_rfl
theorem AeS(n:Nat)(a0:D):fA [] n 64 [] [a0] =
 .br ((((a0.fld 1).els).length:Int)==0) (cK 148 [D.int 1,D.int ((a0.fld 0).toInt)] fun Y1 =>
 .ret [qA Y1])
 (kK (0≤0) (kK (0<(((a0.fld 1).els).length:Int)) (cK 148 [D.int ((((a0.fld 1).els).getD (Ama 0) D.nil).toInt),D.int ((a0.fld 0).toInt)] fun Y2 =>
 .ret [qA Y2]))):=by kernel_rfl
theorem AeH(n:Nat)(a0:D):fA [] n 66 [] [a0] =
 cK 150 [D.sl [],a0] fun Y1 =>
 .br (!((qB Y1).toBool)) (.ret [D.agg [D.int 0,D.sl [],D.sl []],D.int 7])
 (cK 84 [a0] fun Y2 =>
 .ret [D.agg [D.int ((qA Y2).toInt),D.sl [D.int (((qA Y1).els).length:Int)],D.sl ((qA Y1).els)],D.int 0]):=by kernel_rfl
theorem AeK(n:Nat)(a0 b1 same2:D):fA [] n 105 [] [a0,b1,same2] =
 cK 179 [a0,b1] fun Y1 =>
 .br (((qA Y1).toBool)==same2.toBool) (cK 84 [a0] fun Y2 =>
 cK 84 [b1] fun Y3 =>
 cK 83 [D.int ((qA Y2).toInt),D.int ((qA Y3).toInt)] fun Y4 =>
 cK 148 [D.int 1,D.int ((qA Y4).toInt)] fun Y5 =>
 .ret [qA Y5])
 (cK 84 [a0] fun Y6 =>
 cK 84 [b1] fun Y7 =>
 cK 83 [D.int ((qA Y6).toInt),D.int ((qA Y7).toInt)] fun Y8 =>
 cK 148 [D.int 0,D.int ((qA Y8).toInt)] fun Y9 =>
 .ret [qA Y9]):=by kernel_rfl
theorem AeU(n:Nat)(nn0 s1:D):fA [] n 148 [] [nn0,s1] =
 cK 138 [D.int nn0.toInt] fun Y1 =>
 cK 178 [qA Y1] fun Y2 =>
 cK 90 [qA Y2,D.int s1.toInt] fun Y3 =>
 .ret [qA Y3]:=by kernel_rfl
def Hq:List (Nat×Orc):=[(2,⟨[(0,none),(12,some 24),(13,none),(14,none)],[],[(.slot 0,1020,67)]⟩),(9,⟨[(0,none),(12,some 24),(13,none),(14,none),(29,some 65),(30,none),(31,none)],[],[(.slot 0,1090,67)]⟩)]
def FP:List ResultVar:=[.tmp 4,.tmp 5]
noncomputable def Wd(n m2 m9:Nat)(cells0:List D)(t12:D)(t13 t14:Int)(t29:D)(t30 t31:Int):Tree :=
 lA (eA Hq n 150 [1,0,1,0,0,1,1,0,0,1,1,1,0,0]) (Ak Hq 9) m9 ⟨(.row 1090::uA 11++(.d 24 t12:: .i .i64 t13:: .i .i64 t14::uA 14++(.d 65 t29:: .i .i64 t30:: .i .i64 t31::uA 14))),[(1090,.row 67 cells0 true)],[1090],[],[]⟩
  (Ai 2 (Ai 1 (Am (jA Hq n 150 [1,0,1,0,0,1,1,1]) (Fa Tryz.prog md (Ak Hq 2) (fun s1=>lA (eA Hq n 150 [1,0,1,0,0]) (Ak Hq 2) m2 s1 (Ai 0 (Am (jA Hq n 150 [1,1]) (rA 150 [24,26] FP [24,4])))) (Ai 0 (Am (jA Hq n 150 [1,1]) (rA 150 [24,26] FP [24,4])))))))
noncomputable def Q0(n m2:Nat)(cells0:List D)(t12:D)(t13 t14:Int):Tree :=
 lA (eA Hq n 150 [1,0,1,0,0]) (Ak Hq 2) m2 ⟨(.row 1020::uA 11++(.d 24 t12:: .i .i64 t13:: .i .i64 t14::uA 31)),[(1020,.row 67 cells0 true)],[1020],[],[]⟩
  (Ai 0 (Am (jA Hq n 150 [1,1]) (rA 150 [24,26] FP [24,4])))
theorem RL(n m2 m9:Nat)(cells0:List D)(t12:D)(t13 t14:Int)(t29:D)(t30 t31:Int):Wd n m2 (m9+1) cells0 t12 t13 t14 t29 t30 t31 =
 bK (t31<t30) (kK (0≤t31) (kK (t31<(t29.els.length:Int)) (cK 150 [D.sl cells0,t29.els.getD (Ama t31) D.nil] fun Y1 =>
 .br (!((qB Y1).toBool)) (.ret [D.sl [],D.bool false])
 (Wd n m2 m9 ((qA Y1).els) t12 t13 t14 t29 t30 (Al6 .i64 (t31+1))))))
 (Q0 n m2 cells0 t12 t13 (Al6 .i64 (t14+1))):=by kernel_rfl
theorem RK(n m2:Nat)(cells0:List D)(t12:D)(t13 t14:Int):Q0 n (m2+1) cells0 t12 t13 t14 =
 bK (t14<t13) (kK (0≤t14) (kK (t14<(t12.els.length:Int)) (.br ((((t12.els.getD (Ama t14) D.nil).fld 1).toInt)!=2) (.br ((cells0.length:Int)==2048) (.ret [D.sl [],D.bool false])
 (kK (cells0.length + [t12.els.getD (Ama t14) D.nil].length≤Aj) (Q0 n m2 (cells0++[t12.els.getD (Ama t14) D.nil]) t12 t13 (Al6 .i64 (t14+1)))))
 (Wd n m2 n cells0 t12 t13 t14 ((t12.els.getD (Ama t14) D.nil).fld 4) ((((t12.els.getD (Ama t14) D.nil).fld 4).els).length:Int) 0))))
 (.ret [D.sl cells0,D.bool true]):=by kernel_rfl
theorem AeT(n:Nat)(cells0 a1:D):fA Hq n 150 [] [cells0,a1] =
 Q0 n n cells0.els (a1.fld 2) (((a1.fld 2).els).length:Int) 0:=by kernel_rfl
def Dk(l:List Int)(s:Ap):Arr:= .mk s [(l.length:Int)] (l.map Be)
def D1(n:Int)(s:Ap):Arr:= .mk s [] [Be n]
theorem AiS(l:List Int)(s:Ap)(hl:l.length≤100000)(hr : ∀ x∈l,Bc x):Sp 33 [dI l,dB s] [dA (Dk l s)]:=by
 refine Af (l.length+1) (AiT _ _ _) ?_
 simp only[Ah]
 have key:=B3 l (fun m k (out:List Cell)=>Yw (l.length+1) m (dI l) (k:Int) 0 (s.toNat:Int) [D.int (l.length:Int)] (out.map dC)) (fun rest out=>[dA (.mk s [(l.length:Int)] (out++rest.map Be))]) (fun rest out=>out.length+rest.length≤100000)
  (fun m k out hk _=>by
   simp only[XD,Ah]
   refine Aq (Ac ?_)
   rw[Dn];simp;rfl)
  (fun m k out x rest hdr hI ih=>by
   obtain ⟨h1,h2,h3⟩:=Bx hdr
   have hm:=Amh h2
   simp only[XD,Ah,As h2,Bb k]
   repeat (refine Ad ?_)
   refine Aa (WK x (hr x hm)) (Ax ?_ ?_)
   · simp only[Amg,Amu,Aj,Amd]at hI ⊢; omega
   · have:=ih (out++[Be x]) (by simp only[Amm,Amg,Amu]at hI ⊢; omega)
     rw[List.map_append]at this
     refine Tree.wp_mono this (fun ys hy=>hy.trans ?_)
     simp)
  (l.length+1) 0 [] (by omega) (by omega) (by simpa using hl)
 exact key
theorem XC(n:Int)(s:Ap)(hr:Bc n):Sp 32 [.int n,dB s] [dA (D1 n s)]:=by
 refine Af 0 (AiR _ _ _) (Aa (WK n hr) (Ac ?_))
 rw[Dn];rfl
def Gt(fr:List Cell)(k:Nat):List Cell:=(Am9 k).map (fun i=>fr.getD (i % fr.length) (Be 0))
def Za(n a:Arr):Arr×Int :=
 if (A8 n).2=0 then (if (A5 (A8 n).1).2=0 then (.mk (a.s|||Av n) (A8 n).1 (Gt a.cells (A5 (A8 n).1).1.toNat),0) else (.none,(A5 (A8 n).1).2)) else (.none,(A8 n).2)
theorem Ac0(fr:List Cell)(k:Nat):Gt fr (k+1)=Gt fr k++[fr.getD (k % fr.length) (Be 0)]:=by simp[Gt,List.range_succ]
theorem CY(fr:List Cell)(k:Nat):(Gt fr k).length=k:=by simp[Gt]
theorem Ady{fr:List Cell}{i:Nat}(h:i<fr.length):(fr.map dC).getD i D.nil=dC (fr.getD i (Be 0)):=by
 rw[As (Amb h),Amf,Amb h];rfl
theorem RI(n a:Arr)(hn:Fits n)(sh:List Int)(fr:List Cell)(hfr:0<fr.length)(K:Nat)(hK:K≤2048)(hf:fr.length≤2048):Tw (Oc 2049 2049 (dI sh) (.sl (fr.map dC)) (Amc K (dC Cell.none)) (K:Int) 0 (dA n) (dA a) 0) [dA (.mk (a.s|||Av n) sh (Gt fr K)),.int 0]:=by
 have key:=Cw K (fun m k (cs:List D)=>Oc 2049 m (dI sh) (.sl (fr.map dC)) cs (K:Int) (k:Int) (dA n) (dA a) 0) (fun _ _=>[dA (.mk (a.s|||Av n) sh (Gt fr K)),.int 0])
  (fun k cs=>cs=(Gt fr k).map dC++Amc (K-k) (dC Cell.none))
  (fun m cs hI=>by
   simp only[RH]
   refine Aq (Aa (Es n hn) ?_)
   simp only[Ag,Dc,Tz,H_]
   refine Aa (Gb a.s (Av n)) (Ac ?_)
   rw[hI,Dn,Nat.sub_self,List.replicate_zero,Amx];rfl)
  (fun m k cs hkK hI ih=>by
   have hm:=Am5 k hfr
   have hcl:cs.length=K:=by rw[hI];simp[CY];omega
   have et:Int.tmod (k:Int) (fr.length:Int)=((k % fr.length:Nat):Int):=rfl
   simp only[RH,Ah,et,hcl,Ady hm,Bb k]
   repeat (refine Ad ?_)
   refine ih _ ?_
   rw[hI,Ac0,List.set_append_right _ _ (by simp[CY]),Amd,CY,Nat.sub_self,show K-k=(K-(k+1))+1 by omega,List.replicate_succ,List.set_cons_zero]
   simp)
  2049 0 (Amc K (dC Cell.none)) (by omega) (by omega) (by simp[Gt])
 exact key
theorem Ac7:D.agg [D.int 0,D.int 0,D.agg [D.bool false,D.sl [],D.sl []],D.int 0,D.sl []]=dC Cell.none:=by rw[Dr];rfl
theorem Acz(K:Nat):Gt [Be 0] K=Gt [] K:=by
 unfold Gt
 refine List.map_congr_left (fun i _=> ?_)
 simp[Nat.mod_one]
theorem AeN(n a:Arr)(hn:Fits n)(ha:a.cells.length≤2048)(hnl:n.cells.length≤2048)(hnt : ∀ c∈n.cells,c.n.top.length≤32):Sp 35 [dA n,dA a] [dA (Za n a).1,.int (Za n a).2]:=by
 refine Af 2049 (AeO _ _ _) (Aa (J0 n hnl hnt) ?_)
 simp only[Ag,Cm,Al,C0,Cr,Ac7]
 unfold Za
 refine Ae (fun h=>Ac ?_) (fun h=>Aa (Mv (A8 n).1) ?_)
 · rw[if_neg h]
 rw[if_pos (Amn.1 h)]
 simp only[Ag,Cm,Al]
 refine Ae (fun h=>Ac ?_) (fun h=> ?_)
 · rw[if_neg h]
 rw[if_pos (Amn.1 h)]
 have hk:=F5 (A8 n).1
 generalize (A5 (A8 n).1).1=kz at *
 obtain ⟨K,rfl⟩ : ∃ K:Nat,kz=(K:Int):=⟨kz.toNat,by omega⟩
 simp only[Ah,Anf]
 refine Ae (fun he=>Aa (S7 a) ?_) (fun he=> ?_)
 · refine Ad (Ad (Ax (by simp only[Aj];omega) ?_))
   have hc:=Am1.1 (show a.cells.length=0 by omega)
   have hfl:Cu a=Be 0:=by unfold Cu;rw[hc]
   have:=RI n a hn (A8 n).1 [Be 0] (by decide) K (by omega) (by decide)
   rw[Acz]at this
   rw[hc,hfl]
   exact this
 · refine Ad (Ad (Ax (by simp only[Aj];omega) ?_))
   exact RI n a hn (A8 n).1 a.cells (by omega) K (by omega) ha
theorem AfI(n:Int)(s:Ap):Da (El (Be n)) s=D1 n s:=by simp[Da,El,D1]
theorem R_{z:Int}(h:Bc z)(d:Nat):SmlC d (Be z):=by
 have:=QD h
 refine ⟨?_,?_,?_,?_⟩
 · simp only[Be,Cn];omega
 · simp[Be,Cn]
 · simp[Be]
 · simp[Be]
theorem Q3(n:Int)(s:Ap)(h:Bc n):Sp 148 [.int n,dB s] [dA (D1 n s)]:=by
 refine Af 0 (AeU _ _ _) (Aa (H6 n h) (Aa (Pp (d:=0) (Be n) (R_ h 0)) (Aa (F1 _ s) (Ac ?_))))
 rw[Ag,AfI]
def Zr(a:Arr):Arr:=Dk a.shape a.s
theorem AeP{d:Nat}(a:Arr)(h:Sml d a):Sp 56 [dA a] [dA (Zr a)]:=by
 obtain ⟨e,rfl⟩:=h.succ
 have hl:=h.1
 refine Af (a.shape.length+1) (AeQ _ _) ?_
 simp only[Ah,Gu]
 refine Ad (Ad (Ax (by simp only[Aj];omega) ?_))
 have key:=B3 a.shape (fun m k (cs:List D)=>Wb (a.shape.length+1) m cs (dI a.shape) (a.shape.length:Int) (k:Int) (dA a) 0) (fun _ _=>[dA (Zr a)])
  (fun rest cs=>∃ pre:List Int,a.shape=pre++rest∧cs=(pre.map Be).map dC++Amc rest.length (dC Cell.none))
  (fun m k cs hk hI=>by
   obtain ⟨pre,h1,rfl⟩:=hI
   simp only[RJ,Ah]
   refine Aq (Ac ?_)
   rw[Amx]at h1
   rw[Dn,Zr,Dk,← h1];simp[dI])
  (fun m k cs c rest hdr hI ih=>by
   obtain ⟨h1,h2,h3⟩:=Bx hdr
   obtain ⟨pre,hp,rfl⟩:=hI
   have hk:k=pre.length:=by
    have:=congrArg List.length hdr
    rw[hp]at this h1
    simp at this h1;omega
   simp only[RJ,Ah,As h2,Bb k]
   repeat (refine Ad ?_)
   refine Aa (H6 c (h.2.2.1 c (Amh h2))) ?_
   have hlen:((pre.map Be).map dC++Amc (rest.length+1) (dC Cell.none)).length=a.shape.length:=by rw[hp];simp
   rw[Amg,hlen]
   refine Ad (Ad ?_)
   have e:=Ld (f:=dC) (z:=dC Cell.none) (pre.map Be) (Be c) rest.length
   rw[Amd,← hk]at e
   rw[Ag,e]
   exact ih _ ⟨pre++[c],by rw[hp];simp,by simp⟩)
  (a.shape.length+1) 0 (Amc a.shape.length (dC Cell.none)) (by omega) (by omega) ⟨[],by simp,by simp⟩
 exact key
def VA(a:Arr):Arr:= .mk a.s [(a.cells.length:Int)] a.cells
theorem AeL{d:Nat}(a:Arr)(h:Sml d a):Sp 57 [dA a] [dA (VA a)]:=by
 obtain ⟨e,rfl⟩:=h.succ
 refine Af 0 (AeM _ _) ?_
 simp only[Ah]
 refine Aa (AbZ a.cells h.2.1) (Ac ?_)
 rw[Dn];rfl
def JW(a:Arr):Arr:=D1 (a.shape.headD 1) a.s
theorem AeR{d:Nat}(a:Arr)(h:Sml d a):Sp 64 [dA a] [dA (JW a)]:=by
 obtain ⟨e,rfl⟩:=h.succ
 refine Af 0 (AeS _ _) ?_
 simp only[Ah]
 unfold JW
 match hs:a.shape with
 | []=>exact Ax (by simp) (Aa (Q3 1 a.s (Ez (by omega) (by omega))) (Ac rfl))
 | x::xs =>
  refine M4 (by simp;omega) (Ad (Ax (by simp) ?_))
  exact Aa (Q3 x a.s (h.2.2.1 x (by rw[hs];simp))) (Ac rfl)
def RA(a:Arr):Arr:=D1 (F6 a:Int) (Av a)
theorem AeC{d:Nat}(a:Arr)(h:Sml d a)(hd:d≤100000):Sp 63 [dA a] [dA (RA a)]:=by
 have:=DE h
 exact Af 0 (AeD _ _) (Aa (BW d a (by omega) h) (Aa (Es a h.fits) (Aa (Q3 (F6 a:Int) (Av a) (Ez (by omega) (by omega))) (Ac rfl))))
noncomputable def V_(a b:Arr)(same:Bool):Arr:=D1 (if V5 a b=same then 1 else 0) (Av a|||Av b)
theorem RG{d e:Nat}(a b:Arr)(same:Bool)(h:Sml d a)(hb:Sml e b):Sp 105 [dA a,dA b,.bool same] [dA (V_ a b same)]:=by
 refine Af 0 (AeK _ _ _ _) (Aa (LN a b h) ?_)
 unfold V_
 simp only[Ag,Az,Ps]
 refine Ae (fun hh=> ?_) (fun hh=> ?_)
 · rw[if_pos hh]
   exact Aa (Es a h.fits) (Aa (Es b hb.fits) (Aa (Gb (Av a) (Av b)) (Aa (Q3 1 _ (Ez (by omega) (by omega))) (Ac rfl))))
 · rw[if_neg hh]
   exact Aa (Es a h.fits) (Aa (Es b hb.fits) (Aa (Gb (Av a) (Av b)) (Aa (Q3 0 _ (Ez (by omega) (by omega))) (Ac rfl))))
def Pt(a:Arr):Ap:=match a.shape,a.cells with
 | [],c::_=>c.l
 | _,_=>0
def MF(a:Arr):Arr:= .mk a.s [] [⟨Pt a,2,.zero,0,[a]⟩]
def Uj(a:Arr):Arr×Int:=if Gi a then (a,0) else if 8<F6 a then (.none,7) else (MF a,0)
theorem DA(a:Arr)(l:Ap)(h:l=Pt a):D.agg [dB a.s,D.sl [],D.sl [D.agg [dB l,D.int 2,D.agg [D.bool false,D.sl [],D.sl []],D.int 0,D.sl [dA a]]]]=dA (MF a):=by subst h;rw[Ac5,Dn];rfl
theorem AeE{d:Nat}(a:Arr)(h:Sml d a)(hd:d≤100000):Sp 61 [dA a] [dA (Uj a).1,.int (Uj a).2]:=by
 refine Af 0 (AeF _ _) (Aa (LO a) ?_)
 unfold Uj
 simp only[Ah,Cr]
 refine Bu (fun hs=>Ac (by rw[if_pos hs])) (fun hs=>Aa (BW d a (by omega) h) ?_)
 rw[if_neg (by simp[hs])]
 simp only[Ag,Al]
 refine Ae (fun h8=>Ac (by rw[if_pos (by omega)])) (fun h8=> ?_)
 rw[if_neg (by omega)]
 refine Ae (fun h1=>Ae (fun h2=>Ad (Ad (Ac ?_))) (fun h2=>Ac ?_)) (fun h1=>Ac ?_)
 · match hsh:a.shape,hc:a.cells with
   | [],c::cs =>
    simp only[Ani,Ag,Ah]
    rw[DA a c.l (by unfold Pt;rw[hsh,hc])]
   | x::xs,_=>rw[hsh]at h1;simp at h1;omega
   | [],[]=>rw[hc]at h2;simp at h2
 · refine congrArg (fun x=>[x,D.int 0]) (DA a 0 ?_)
   unfold Pt
   match hsh:a.shape,hc:a.cells with
   | [],c::cs=>rw[hc]at h2;simp at h2
   | x::xs,_=>rfl
   | [],[]=>rfl
 · refine congrArg (fun x=>[x,D.int 0]) (DA a 0 ?_)
   unfold Pt
   match hsh:a.shape,hc:a.cells with
   | [],c::cs=>rw[hsh]at h1;simp at h1
   | x::xs,_=>rfl
   | [],[]=>rfl
def DR(a:Arr):Arr:=match a.cells with
 | []=>D1 0 a.s
 | c::_=>Da (Li c) a.s
theorem AeI{d:Nat}(a:Arr)(h:Sml (d+1) a):Sp 62 [dA a] [dA (DR a)]:=by
 refine Af 0 (AeJ _ _) (Aa (S7 a) ?_)
 unfold DR
 simp only[Ah]
 match hc:a.cells with
 | [] =>
  have e:Cu a=Be 0:=by unfold Cu;rw[hc]
  refine M4 (by simp) ?_
  rw[e]
  refine Aa (BX (Be 0) (R_ Vk 0)) (Aa (F1 _ a.s) (Ac ?_))
  rw[Ag,Aa6 (by simp[Be])]
  simp[Da,D1,Be]
 | c::cs =>
  refine Ax (by simp) (Ad (Ax (by simp) ?_))
  exact Aa (BX c (h.cell c (by rw[hc];simp))) (Aa (F1 _ a.s) (Ac rfl))
mutual
def I5:Arr→List (CellF Arr)
 | .mk _ _ cs=>J5 cs
def J5:List (CellF Arr)→List (CellF Arr)
 | []=>[]
 | c::cs=>DU c++J5 cs
def DU:CellF Arr→List (CellF Arr)
 | ⟨l,k,n,c,inn⟩=>if k=2 then Nr inn else [⟨l,k,n,c,inn⟩]
def Nr:List Arr→List (CellF Arr)
 | []=>[]
 | a::as_=>I5 a++Nr as_
end
theorem Adq(a:Arr):I5 a=J5 a.cells:=by cases a;rw[I5];rfl
theorem Adr(c:Cell):DU c=if c.kind=2 then Nr c.inn else [c]:=by cases c;rw[DU]
def J4(out fl:List Cell):List D:=if out.length+fl.length≤2048 then [.sl ((out++fl).map dC),.bool true] else [.sl [],.bool false]
theorem RM : ∀ (d:Nat) (a:Arr) (out:List Cell),Sml d a→out.length≤2048→Sp 150 [.sl (out.map dC),dA a] (J4 out (I5 a))
 | 0,_,_,h,_=>h.elim
 | d+1,a,out,h,ho=>by
  have hl:=h.2.1
  refine Af 1048577 (AeT _ _ _) ?_
  simp only[Ah]
  rw[Adq]
  have key:=B3 a.cells (fun m k (out:List Cell)=>Q0 1048577 m (out.map dC) (.sl (a.cells.map dC)) (a.cells.length:Int) (k:Int)) (fun rest out=>J4 out (J5 rest)) (fun _ out=>out.length≤2048)
   (fun m k out hk hI=>by
    simp only[RK,Ah]
    refine Aq (Ac ?_)
    rw[J5,J4,if_pos (by simpa using hI),Amx])
   (fun m k out c rest hdr hI ih=>by
    obtain ⟨h1,h2,h3⟩:=Bx hdr
    have hc:=h.cell c (Amh h2)
    have hlc:=hc.2.2.1
    simp only[RK,Ah,As h2,Bb k]
    rw[J5,Adr]
    refine Ad (Ad (Ad (Ae (fun hk=> ?_) (fun hk=> ?_))))
    · rw[if_neg hk]
      refine Ae (fun he=>Ac ?_) (fun he=>Ax (by simp only[Amg,Amu,Aj];omega) ?_)
      · rw[J4,if_neg (by simp;omega)]
      · have:=ih (out++[c]) (by simp;omega)
        rw[List.map_append]at this
        refine Tree.wp_mono this (fun ys hy=>hy.trans ?_)
        unfold J4
        simp only[Amm,Amg,Amu,Amz]
        rw[show out.length+(0+1)+(J5 rest).length=out.length+(0+1+(J5 rest).length) by omega]
    · rw[if_pos (Amn.1 hk)]
      have key:=B3 c.inn (fun m' j (out:List Cell)=>Wd 1048577 m m' (out.map dC) (.sl (a.cells.map dC)) (a.cells.length:Int) (k:Int) (.sl (c.inn.map dA)) (c.inn.length:Int) (j:Int)) (fun rest' out=>J4 out (Nr rest'++J5 rest)) (fun _ out=>out.length≤2048)
        (fun m' j out hj hI'=>by
         simp only[RL,Ah,Bb k]
         rw[Nr,Anm]
         exact Aq (ih _ hI'))
        (fun m' j out x rest' hdr' hI' ih'=>by
         obtain ⟨g1,g2,g3⟩:=Bx hdr'
         simp only[RL,Ah,As g2,Bb j]
         repeat (refine Ad ?_)
         refine Aa (RM d x out (hc.2.2.2 x (Amh g2)) hI') ?_
         rw[Nr]
         unfold J4
         by_cases hle:out.length+(I5 x).length≤2048
         · rw[if_pos hle]
           refine D6 rfl ?_
           have:=ih' (out++I5 x) (by simpa using hle)
           simp only[Ag,Ds]
           refine Tree.wp_mono this (fun ys hy=>hy.trans ?_)
           unfold J4
           simp only[Amm,Amz,Nat.add_assoc]
         · rw[if_neg hle]
           refine Bi rfl (Ac ?_)
           rw[if_neg (by simp only[Amm];omega)])
        1048577 0 out (by omega) (by omega) hI
      exact key)
   1048577 0 out (by omega) (by omega) ho
  exact key
def Uk(a:Arr):Arr×Int:=if (I5 a).length≤2048 then (.mk (Av a) [((I5 a).length:Int)] (I5 a),0) else (.none,7)
theorem AeG{d:Nat}(a:Arr)(h:Sml d a):Sp 66 [dA a] [dA (Uk a).1,.int (Uk a).2]:=by
 refine Af 0 (AeH _ _) (Aa (RM d a [] h (by simp)) ?_)
 unfold J4 Uk
 simp only[Amu,Anl,Anm,Cr]
 by_cases hle:(I5 a).length≤2048
 · rw[if_pos hle,if_pos hle]
   refine D6 rfl (Aa (Es a h.fits) (Ac ?_))
   simp only[Ag,Ds,Dc,Amd,H_]
   rw[Dn];rfl
 · rw[if_neg hle,if_neg hle]
   exact Bi rfl (Ac rfl)
open Go.RowKit
section
variable {P:Program} {md:Nat→FMode}
def ResV(P:Program)(md:Nat→FMode)(w:World)(M:Nat→Prop)(t:Nat)(y:D)(u:Value):Prop:=∃ look β,VL P md w (Ar M look β) look β (Bv P t y) u
theorem ResV.int {w:World} {M:Nat→Prop} {t:Nat} {k:IntKind} {n:Int} {u:Value} (h:ResV P md w M t (.int n) u) (ht:P.underlying t=some (.int k)):u = .int k n∧k.min≤n∧n≤k.max:=by
 obtain ⟨look,β,h⟩:=h
 unfold Bv at h
 rw[ht]at h
 exact Fr h
theorem ResV.bool {w:World} {M:Nat→Prop} {t:Nat} {b:Bool} {u:Value} (h:ResV P md w M t (.bool b) u) (ht:P.underlying t=some .bool):u = .bool b:=by
 obtain ⟨look,β,h⟩:=h
 unfold Bv at h
 rw[ht]at h
 exact Kj h
theorem ResV.rd {w:World} {M:Nat→Prop} {t:Nat} {y:D} {u:Value} (h:ResV P md w M t y u) (ht:Bv P t y = .d t y):Rd P md w M (.ty t) y u:=by
 obtain ⟨look,β,h⟩:=h
 rw[ht]at h
 obtain ⟨h1,h2⟩:=C5 h (by simp) (by simp) (by simp)
 cases h1 with
 | d h1=>exact ⟨h1.mono (Amo _) (fun _ _ _=>rfl) (fun b hb _=> .inl hb),h2.size,h2.agg⟩
theorem Jh{w w':World}{M M':Nat→Prop}{t:CT}{x:D}{v:Value}(h:Rd P md w M t x v)(hx:Ext w w')(hM : ∀ b,M' b→b<w.heap.size→M b):Rd P md w' M' t x v :=
 ⟨h.rd.mono hx.size (fun b _ hb=>hx.block b hb) hM,h.size,h.agg⟩
theorem JQ{F:Nat}{fn:Func}{xs ys:List D}{vs:List Value}{W:World}{M:Nat→Prop}(hs:Dq P md F [] xs ys)(hfn:P.funcs[F]? = some fn)(hm:md F = {})(hM : ∀ b,M b→b<W.heap.size)
   (hlx:xs.length=fn.params.size) (hlv:vs.length=fn.params.size) (hrd : ∀ (i t:Nat) (x:D) (v:Value),fn.params.toList[i]? = some t→xs[i]? = some x→vs[i]? = some v→Rd P md W M (.ty t) x v) :
   Calls P F vs.toArray W (fun e w'=>∃ us,e = .returned (Kd us)∧us.length=fn.resultTypes.size∧(∀ (i t:Nat) (u:Value),fn.resultTypes.toList[i]? = some t→us[i]? = some u→ResV P md w' M t (ys.getD i .nil) u)∧Ext W w'):=by
 obtain ⟨fn',h1,_,_,h⟩:=hs
 rw[hfn]at h1
 injection h1 with h1
 subst h1
 have nol : ∀ b,¬ C_ (md F) vs b:=fun b ⟨p,v,h1,_⟩=>by rw[hm]at h1;cases h1
 refine (h W M vs 0 1 (fun k hk=>by rw[hm]at hk;cases hk) ⟨by simp[hlx],by simp[hlv],fun b hb=>⟨hM b hb,nol b⟩,?_,fun p hp=>by rw[hm]at hp;cases hp⟩).mono ?_
 · intro i ct x v hc hx hv _
   simp only[Amx,Ams,Amq]at hc
   obtain ⟨t,ht,rfl⟩:=hc
   have:=hrd i t x v ht hx hv
   exact ⟨this.rd.mono (Amo _) (fun _ _ _=>rfl) (fun b hb _=>hb.elim id (fun h=>(nol b h).elim)),this.size,this.agg⟩
 · rintro e w' ⟨us,β',hp⟩
   refine ⟨us,hp.ending,by simpa using hp.len,fun i t u ht hu=> ?_,?_⟩
   · have:=hp.vl (D_ P fn.resultTypes.toList ys 0) (by rw[hm];rfl) i _ u (Ms ht) hu
     rw[Anl]at this
     exact ⟨_,_,this⟩
   · exact Stp.ext (hp.stp.weak fun b hb=>(nol b hb).elim)
theorem GE{us:List Value}{n:Nat}(h:us.length=n)(hn:n=1) : ∃ u,us = [u]:=by
 subst hn
 match us,h with
 | [u],_=>exact ⟨u,rfl⟩
theorem JR{F:Nat}{fn:Func}{xs:List D}{n:Int}{vs:List Value}{W:World}{M:Nat→Prop}{t:Nat}{k:IntKind}(hs:Dq P md F [] xs [.int n])(hfn:P.funcs[F]? = some fn)(hm:md F = {})(hM : ∀ b,M b→b<W.heap.size)
  (hlx:xs.length=fn.params.size) (hlv:vs.length=fn.params.size) (hrd : ∀ (i t:Nat) (x:D) (v:Value),fn.params.toList[i]? = some t→xs[i]? = some x→vs[i]? = some v→Rd P md W M (.ty t) x v)
  (hrt:fn.resultTypes = #[t]) (ht:P.underlying t=some (.int k)):Calls P F vs.toArray W (fun e w'=>e = .returned (.int k n)∧(k.min≤n∧n≤k.max)∧Ext W w'):=by
 refine (JQ hs hfn hm hM hlx hlv hrd).mono ?_
 rintro e w' ⟨us,rfl,hl,hh,hx⟩
 obtain ⟨u,rfl⟩:=GE hl (by rw[hrt];rfl)
 obtain ⟨rfl,h2⟩:=(hh 0 t u (by rw[hrt];rfl) rfl).int ht
 exact ⟨rfl,h2,hx⟩
theorem Aaf{F:Nat}{fn:Func}{xs:List D}{y:D}{vs:List Value}{W:World}{M:Nat→Prop}{t:Nat}(hs:Dq P md F [] xs [y])(hfn:P.funcs[F]? = some fn)(hm:md F = {})(hM : ∀ b,M b→b<W.heap.size)
  (hlx:xs.length=fn.params.size) (hlv:vs.length=fn.params.size) (hrd : ∀ (i t:Nat) (x:D) (v:Value),fn.params.toList[i]? = some t→xs[i]? = some x→vs[i]? = some v→Rd P md W M (.ty t) x v)
  (hrt:fn.resultTypes = #[t]) (ht:Bv P t y = .d t y):Calls P F vs.toArray W (fun e w'=>∃ u,e = .returned u∧Rd P md w' M (.ty t) y u∧Ext W w'):=by
 refine (JQ hs hfn hm hM hlx hlv hrd).mono ?_
 rintro e w' ⟨us,rfl,hl,hh,hx⟩
 obtain ⟨u,rfl⟩:=GE hl (by rw[hrt];rfl)
 exact ⟨u,rfl,(hh 0 t u (by rw[hrt];rfl) rfl).rd ht,hx⟩
theorem TD{F:Nat}{fn:Func}{xs es:List D}{vs:List Value}{W:World}{M:Nat→Prop}{t e:Nat}(hs:Dq P md F [] xs [.sl es])(hfn:P.funcs[F]? = some fn)(hm:md F = { own:=[(0,[])] })(hM : ∀ b,M b→b<W.heap.size)
   (hlx:xs.length=fn.params.size) (hlv:vs.length=fn.params.size) (hrd : ∀ (i t:Nat) (x:D) (v:Value),fn.params.toList[i]? = some t→xs[i]? = some x→vs[i]? = some v→Rd P md W M (.ty t) x v)
   (hrt:fn.resultTypes = #[t]) (ht:B4 P t=some e) (h1:one P t=true) (hne:es≠[]) :
   Calls P F vs.toArray W (fun en w'=>∃ G cap cur,en = .returned (.slice (some ⟨G,0,none⟩) es.length cap)∧W.heap.size≤G∧G<w'.heap.size∧w'.heap[G]? = some (.cells cur e (0,0))∧es.length≤cap∧cap≤maxLen∧cur.size=cap*P.cellsOf e ∧
     (∀ (i:Nat) (x:D),es[i]? = some x→∃ M',RdC P md w' M' (.ty e) x (fun j=>cur[i*P.cellsOf e+j]?))∧Ext W w'):=by
 obtain ⟨fn',g1,_,_,h⟩:=hs
 rw[hfn]at g1
 injection g1 with g1
 subst g1
 have nol : ∀ b,¬ C_ (md F) vs b:=fun b ⟨p,v,h1,_⟩=>by rw[hm]at h1;cases h1
 refine (h W M vs 0 1 (fun k hk=>by rw[hm]at hk;simp at hk;omega) ⟨by simp[hlx],by simp[hlv],fun b hb=>⟨hM b hb,nol b⟩,?_,fun p hp=>by rw[hm]at hp;cases hp⟩).mono ?_
 · intro i ct x v hc hx hv _
   simp only[Amx,Ams,Amq]at hc
   obtain ⟨t,ht,rfl⟩:=hc
   have:=hrd i t x v ht hx hv
   exact ⟨this.rd.mono (Amo _) (fun _ _ _=>rfl) (fun b hb _=>hb.elim id (fun h=>(nol b h).elim)),this.size,this.agg⟩
 · rintro en w' ⟨us,β',hp⟩
   have hl:=hp.len
   rw[hrt]at hl
   obtain ⟨u,rfl⟩:=GE hl rfl
   have hot:G9 P [t] (0,[])=some e:=by simp[G9,B6,h1,ht]
   have hlook:Dw P (md F) fn.params.toList fn.resultTypes.toList [.sl es] 0 1 0=some (.row e es true):=by
     rw[hm,hrt]
     simp[Dw,Kt,Cx,Bh,Aw,hot,D.path,D.els,List.getD]
   have hv:=hp.vl [.row 0] (by rw[hm,hrt];simp[D_,Fo,Ef]) 0 (.row 0) u rfl rfl
   have hu:=Iu hv hlook
   have hb:=hp.blks 0 _ hlook
   have ho:=fun B=>hp.own 0 _ B hlook
   obtain ⟨A,cap,hA,hb⟩:=hb
   rcases hb with ⟨hn,_⟩ | ⟨B,cur,rfl,hc0,hB,hlen,hcap,hsz,hpos,hrd'⟩
   · exact absurd hn hne
   · have hob:=ho B (by rw[hA];simp[A_];omega)
     have hG:=hob.1.resolve_right (nol B)
     refine ⟨B,cap,cur,?_,hG,hob.2,hB,hlen,hcap,hsz,fun i x hx=>⟨_,hrd' i x hx⟩,Stp.ext (hp.stp.weak fun b hb=>(nol b hb).elim)⟩
     rw[hp.ending,hu,hA];rfl
theorem VB{w:World}{M:Nat→Prop}{ps:List Nat}{t:Nat}{x:D}{v:Value}(hp:ps = [t])(h:Rd P md w M (.ty t) x v) : ∀ (i t':Nat) (x':D) (v':Value),ps[i]? = some t'→[x][i]? = some x'→[v][i]? = some v'→Rd P md w M (.ty t') x' v':=by
 intro i t' x' v' h1 h2 h3
 subst hp
 match i with
 | 0=>cases h1;cases h2;cases h3;exact h
 | i+1=>simp at h1
theorem Oq{w:World}{M:Nat→Prop}{ps:List Nat}{t u:Nat}{x y:D}{v z:Value}(hp:ps = [t,u])(h:Rd P md w M (.ty t) x v)(h':Rd P md w M (.ty u) y z) : ∀ (i t':Nat) (x':D) (v':Value),ps[i]? = some t'→[x,y][i]? = some x'→[v,z][i]? = some v'→Rd P md w M (.ty t') x' v':=by
 intro i t' x' v' h1 h2 h3
 subst hp
 match i with
 | 0=>cases h1;cases h2;cases h3;exact h
 | 1=>cases h1;cases h2;cases h3;exact h'
 | i+2=>simp at h1
theorem Ou{w:World}{M:Nat→Prop}{t:Nat}{k:IntKind}{n:Int}(ht:P.underlying t=some (.int k))(hs:P.cellsOf t=1)(ha:A9 P t=false)(h1:k.min≤n)(h2:n≤k.max):Rd P md w M (.ty t) (.int n) (.int k n) :=
 ⟨.int ht h1 h2 rfl,hs.symm,ha.symm⟩
theorem AJ (hP : WfP P) {F : Nat} {fn : Func} {cts : List CT} {xs ys : List D} (hfn : P.funcs[F]? = some fn) (hb : fn.body.isSome = true) (hn : (fn.name == "runtime.NumGoroutine") = false) (hm : md F = {})
   (h : ∀ (w:World) (M:Nat→Prop) (vs:List Value),(∀ b,M b→b<w.heap.size)→xs.length=fn.params.size+cts.length→vs.length=fn.params.size+cts.length→(∀ (i:Nat) (t:CT) (x:D) (v:Value),(fn.params.toList.map CT.ty++cts)[i]? = some t→xs[i]? = some x→vs[i]? = some v→Rd P md w M t x v) →
     Calls P F vs.toArray w (fun e w'=>∃ us,e = .returned (Kd us)∧us.length=fn.resultTypes.size∧(∀ (i t:Nat) (u:Value),fn.resultTypes.toList[i]? = some t→us[i]? = some u→Rd P md w' M (.ty t) (ys.getD i .nil) u)∧Ext w w')):Dq P md F cts xs ys:=by
 refine ⟨fn,hfn,hb,hn,fun w M vs d bid _ hp=> ?_⟩
 have nol : ∀ b,¬ C_ (md F) vs b:=fun b ⟨p,v,h1,_⟩=>by rw[hm]at h1;cases h1
 have hlook:Dw P (md F) fn.params.toList fn.resultTypes.toList ys d bid=fun _=>none:=by rw[hm];rfl
 refine (h w M vs (fun b hb=>(hp.m b hb).1) (by simpa using hp.lenx) (by simpa using hp.lenv) (fun i t x v h1 h2 h3=> ?_)).mono ?_
 · have:=hp.rd i t x v h1 h2 h3 (by rw[hm];simp)
   exact ⟨this.rd.mono (Amo _) (fun _ _ _=>rfl) (fun b hb _=> .inl hb),this.size,this.agg⟩
 · rintro e w' ⟨us,rfl,hl,hh,hx⟩
   refine ⟨us,fun _=>undef,rfl,by simpa using hl,(Stp.of_ext hx).weak (fun _ h=>h),?_,?_,?_,?_,?_⟩
   · intro ls hls i l u hi hu
     rw[hm]at hls
     simp only[Fo,Amk]at hls
     subst hls
     obtain ⟨t,ht⟩ : ∃ t,fn.resultTypes.toList[i]? = some t:=by
      have:=(Ame.1 hi).1
      rw[Ox]at this
      exact ⟨_,Amb this⟩
     have hr:=hh i t u ht hu
     rw[Ms ht,Anl]at hi
     injection hi with hi
     subst hi
     have hr':Rd P md w' (Ar M (Dw P (md F) fn.params.toList fn.resultTypes.toList ys d bid) (fun _=>undef)) (.ty t) (ys.getD i .nil) u:=by
      refine Jh hr (Ext.refl _) (fun b hb _=> ?_)
      rcases hb with hb | ⟨r,k,hk,_⟩
      · exact hb
      · rw[hlook]at hk;cases hk
     exact (K9 hP hr').1
   · intro r b hb;rw[hlook]at hb;cases hb
   · intro r b B hb;rw[hlook]at hb;cases hb
   · intro r q b c B hb;rw[hlook]at hb;cases hb
   · intro hb;rw[hm]at hb;cases hb
end
end Go.Proofs.YtokkbgpgaheakaaGreat
namespace Go.Proofs.YtokkbgpgaheakaaGreat
theorem CG{x k:Nat}(h:(lb x).length=k+1):B ^ k≤x:=by
 rcases Ann x (B ^ k) with h1 | h1
 · have:=A0.2 h1;omega
 · exact h1
theorem FA{r:List Ao}(h : ∀ k,r.length=k+1→B ^ k≤nv r):lb (nv r)=r:=by
 refine QC (fun hne hz=> ?_)
 have hd:=List.dropLast_concat_getLast hne
 have hl:0<r.length:=List.length_pos_iff.2 hne
 have h1:=h (r.length-1) (by omega)
 have e:nv r=nv r.dropLast:=by
  have e2:=Il r.dropLast (r.getLast hne)
  rw[hd,hz,show (0:Ao).toNat=0 from rfl,Nat.mul_zero,Nat.add_zero]at e2
  exact e2
 have h2:=B7 r.dropLast
 rw[List.length_dropLast]at h2
 omega
theorem UG{α:Type}{pre l:List α}{k:Nat}(hp:pre.length=k)(hk:k<l.length):(pre++l.drop k)[k]? = some l[k]:=by
 rw[List.getElem?_append_right (by omega),hp,Nat.sub_self,List.getElem?_drop,Nat.add_zero,Amb hk]
theorem UH{α:Type}{pre l:List α}{k:Nat}(v:α)(hp:pre.length=k)(hk:k<l.length):(pre++l.drop k).set k v=(pre++[v])++l.drop (k+1):=by
 rw[List.set_append_right _ _ (by omega),hp,Nat.sub_self,Am2 hk,List.set_cons_zero];simp
theorem map_set{α:Type}{f:α→D}{l:List α}{k:Nat}{v:α} : (l.map f).set k (f v)=(l.set k v).map f:=by rw[List.map_set]
theorem AfL(l:List Ao)(i:Nat)(hi:i<l.length)(v:Ao):nv (l.set i v)+B ^ i*(l[i]).toNat=nv l+B ^ i*v.toNat:=by
 induction l generalizing i with
 | nil=>simp at hi
 | cons y l ih =>
  cases i with
  | zero=>simp[nv];omega
  | succ i =>
   have hi':i<l.length:=by simpa using hi
   have:=ih i hi'
   simp only[List.set_cons_succ,nv,List.getElem_cons_succ,Anc]
   have h2:=congrArg (fun n=>B*n) this
   simp only[Nat.mul_add]at h2
   rw[show B ^ i*B*(l[i]).toNat=B*(B ^ i*(l[i]).toNat) by rw[Anb (B ^ i) B,Nat.mul_assoc],show B ^ i*B*v.toNat=B*(B ^ i*v.toNat) by rw[Anb (B ^ i) B,Nat.mul_assoc]]
   omega
theorem Nb{X Y:Nat}(hX:X<4294967296)(hY:Y<4294967296):Bm .xor .u32 (X:Int) (Y:Int)=((X^^^Y:Nat):Int)∧Bm .and .u32 (X:Int) (Y:Int)=((X&&&Y:Nat):Int)∧Bm .or .u32 (X:Int) (Y:Int)=((X|||Y:Nat):Int):=by
 have b:Aml .u32=32:=rfl
 have e1:(X^^^Y)<2 ^ 32:=Nat.xor_lt_two_pow (by omega) (by omega)
 have e2:(X&&&Y)<2 ^ 32:=Nat.and_lt_two_pow _ (by omega)
 have e3:(X|||Y)<2 ^ 32:=Nat.or_lt_two_pow (by omega) (by omega)
 simp only[Bm,b,BitVec.ofInt_natCast,BitVec.toNat_xor,BitVec.toNat_and,BitVec.toNat_or,BitVec.toNat_ofNat,Am4 (show X<2 ^ 32 by omega),Am4 (show Y<2 ^ 32 by omega)]
 exact ⟨E6 (by omega) (by omega),E6 (by omega) (by omega),E6 (by omega) (by omega)⟩
theorem AM(n:Nat)(h:n<4294967296):n.testBit 31=decide (2147483648≤n):=by
 rw[Nat.testBit_eq_decide_div_mod_eq]
 have:n / 2 ^ 31 % 2=1↔2147483648≤n:=by omega
 simp only[this]
theorem Aal(X Y D c:Nat)(hX:X<4294967296)(hY:Y<4294967296)(hc:c≤1)(hD:(D:Int)=((X:Int)-Y-c) % 4294967296) :
  ((((4294967295^^^X)&&&Y)|||((4294967295^^^(X^^^Y))&&&D):Nat):Int) / 2147483648=if X<Y+c then 1 else 0:=by
 have hDl:D<4294967296:=by omega
 have hN:(((4294967295^^^X)&&&Y)|||((4294967295^^^(X^^^Y))&&&D))<2 ^ 32 :=
  Nat.or_lt_two_pow (Nat.and_lt_two_pow _ (by omega)) (Nat.and_lt_two_pow _ (by omega))
 have ht:=AM _ (show _<4294967296 from hN)
 rw[Nat.testBit_or,Nat.testBit_and,Nat.testBit_and,Nat.testBit_xor,Nat.testBit_xor,Nat.testBit_xor,AM X hX,AM Y hY,AM D hDl,show Nat.testBit 4294967295 31=true by decide]at ht
 generalize (((4294967295^^^X)&&&Y)|||((4294967295^^^(X^^^Y))&&&D))=N at *
 by_cases h1:2147483648≤X <;> by_cases h2:2147483648≤Y <;> by_cases h3:2147483648≤D <;> simp[h1,h2,h3]at ht <;> split <;> omega
theorem MA(x y c:Nat)(hx:x<B)(hy:y<B)(hc:c≤1):Sp 333 [.int (x:Int),.int (y:Int),.int (c:Int)] [.int (((x+y+c) % B:Nat):Int),.int (((x+y+c) / B:Nat):Int)]:=by
 rw[Ay]at *
 refine Af 0 (AbJ _ _ _ _) (Bi (by decide) (Ac ?_))
 simp only[Al]
 have t1:Al6 .u64 (Al6 .u64 (Al6 .u64 (x:Int)+Al6 .u64 (y:Int))+Al6 .u64 (c:Int))=((x+y+c:Nat):Int):=by
  rw[Bn (x:=(x:Int)) (by omega) (by omega),Bn (x:=(y:Int)) (by omega) (by omega),Bn (x:=(c:Int)) (by omega) (by omega),Bn (x:=(x:Int)+y) (by omega) (by omega),Bn (by omega) (by omega)];omega
 rw[t1,Nm,E6 (x:=(((x+y+c) / 4294967296:Nat):Int)) (by omega) (by omega)]
 have t2:Al6 .u32 ((x+y+c:Nat):Int)=(((x+y+c) % 4294967296:Nat):Int):=by rw[IntKind.wrap_u32];omega
 rw[t2]
theorem MB(x y c:Nat)(hx:x<B)(hy:y<B)(hc:c≤1)(z c':Nat)(hz:z<B)(hc':c'≤1)(e:x+B*c'=z+y+c):Sp 334 [.int (x:Int),.int (y:Int),.int (c:Int)] [.int (z:Int),.int (c':Int)]:=by
 rw[Ay]at *
 refine Af 0 (AbQ _ _ _ _) (Bi (by decide) (Ac ?_))
 simp only[Al]
 have t1:Al6 .u32 (Al6 .u32 ((x:Int)-(y:Int))-(c:Int))=(z:Int):=by rw[IntKind.wrap_u32,IntKind.wrap_u32];omega
 have hm:IntKind.max .u32=((4294967295:Nat):Int):=by decide
 have e1:(4294967295^^^x)<2 ^ 32:=Nat.xor_lt_two_pow (by omega) (by omega)
 have e2:(x^^^y)<2 ^ 32:=Nat.xor_lt_two_pow (by omega) (by omega)
 have e3:(4294967295^^^(x^^^y))<2 ^ 32:=Nat.xor_lt_two_pow (by omega) e2
 have e4:((4294967295^^^x)&&&y)<2 ^ 32:=Nat.and_lt_two_pow _ (by omega)
 have e5:((4294967295^^^(x^^^y))&&&z)<2 ^ 32:=Nat.and_lt_two_pow _ (by omega)
 have hs:=Aal x y z c (by omega) (by omega) hc (by omega)
 rw[t1,hm,(Nb (X:=4294967295) (Y:=x) (by omega) (by omega)).1,(Nb (X:=x) (Y:=y) (by omega) (by omega)).1,(Nb (X:=4294967295) (Y:=x^^^y) (by omega) (by omega)).1,(Nb (X:=4294967295^^^x) (Y:=y) (by omega) (by omega)).2.1,(Nb (X:=4294967295^^^(x^^^y)) (Y:=z) (by omega) (by omega)).2.1,(Nb (by omega) (by omega)).2.2]
 have t3 : ∀ q:Nat,Am3 (q:Int) (2 ^ (min (Ama 31) (Aml .u32)))=(q:Int) / 2147483648:=fun q=>by
  rw[show (2:Int) ^ (min (Ama 31) (Aml .u32))=2147483648 by decide,Int.fdiv_eq_ediv_of_nonneg _ (by omega)]
 rw[t3,hs]
 congr 2
 split <;> congr 1 <;> omega
theorem Q4(a b:List Ao)(ha:a.length≤1000000)(hb:b.length≤1000000):Sp 302 [dL a,dL b] [.int (Dm (nv a) (nv b))]:=by
 refine Af (a.length+1) (Afb _ _ _) (Aa (Fd a (by omega)) (Aa (Fd b (by omega)) ?_))
 have la:(lb (nv a)).length≤a.length:=A0.2 (B7 a)
 have lb_:(lb (nv b)).length≤b.length:=A0.2 (B7 b)
 simp only[Ag,Bz,Amd]
 refine Ae (fun h=>Ac ?_) (fun h=>Ae (fun h'=>Ac ?_) (fun h'=> ?_))
 · have h1:nv a<nv b:=by
    have e1:nv a<B ^ (lb (nv a)).length:=A0.1 (Amo _)
    rcases Ann (nv b) (B ^ (lb (nv a)).length) with h2 | h2
    · have:=A0.2 h2;omega
    · omega
   rw[Dm,if_pos h1]
 · have h1:nv b<nv a:=by
    have e1:nv b<B ^ (lb (nv b)).length:=A0.1 (Amo _)
    rcases Ann (nv a) (B ^ (lb (nv b)).length) with h2 | h2
    · have:=A0.2 h2;omega
    · omega
   rw[Dm,if_neg (by omega),if_neg (by omega)]
 · have hl:(lb (nv b)).length=(lb (nv a)).length:=by omega
   have key:=Ii (P:=Tryz.prog) (md:=md) (fun m k (_:Unit)=>Wi (a.length+1) m (dL (lb (nv a))) (dL (lb (nv b))) ((k:Int)-1)) (fun _ _=>[.int (Dm (nv a) (nv b))]) (fun k _=>k≤(lb (nv a)).length∧nv a / B ^ k=nv b / B ^ k)
    (fun m s ⟨_,h⟩=>by
     simp only[RQ]
     refine Aq (Ac ?_)
     simp at h
     simp[Dm,h])
    (fun m k s ⟨h0,h⟩ ih=>by
     have g1:=Dv (lb (nv a)) k (by omega)
     have g2:=Dv (lb (nv b)) k (by omega)
     rw[Bq]at g1 g2
     have ga:((lb (nv a)).map dB).getD k D.nil=D.int ((nv a / B ^ k % B:Nat):Int):=by rw[As (Amb (show k<(lb (nv a)).length by omega)),← g1];rfl
     have gb:((lb (nv b)).map dB).getD k D.nil=D.int ((nv b / B ^ k % B:Nat):Int):=by rw[As (Amb (show k<(lb (nv b)).length by omega)),← g2];rfl
     simp only[RQ,show ((k+1:Nat):Int)-1=(k:Int) by omega,Ah,ga,gb]
     have ea:=Nat.div_add_mod (nv a / B ^ k) B
     have eb:=Nat.div_add_mod (nv b / B ^ k) B
     rw[Ane,← Anc]at ea eb
     rw[h]at ea
     generalize B*(nv b / B ^ (k+1))=q at ea eb
     refine Ad (Ad (Ad (Ad (Ad (Ae (fun h'=>Ac ?_) (fun h'=>Ad (Ad (Ad (Ad (Ae (fun h2=>Ac ?_) (fun h2=> ?_)))))))))))
     · have hlt:=V3 (show nv a / B ^ k<nv b / B ^ k by omega)
       simp only[Dm];rw[if_pos hlt]
     · have hlt:=V3 (show nv b / B ^ k<nv a / B ^ k by omega)
       simp only[Dm];rw[if_neg (by omega),if_neg (by omega)]
     · rw[At (by omega) (by omega)]
       exact ih () ⟨by omega,by omega⟩)
    (a.length+1) (lb (nv a)).length () (by omega) ⟨by omega,by
     rw[Nat.div_eq_of_lt (A0.1 (Amo _)),Nat.div_eq_of_lt (A0.1 (by omega))]⟩
   rw[At (by omega) (by omega)]
   exact key
theorem RP(x y N:Nat)(hA:(lb x).length≤100000)(hb:(lb y).length≤(lb x).length)(hN:(lb x).length<N):Tw (Mf N N (dL (lb y)) ((lb x).map dB) 0 ((lb x).length:Int) 0) [dL (lb (x+y))]:=by
 have hx:x<B ^ (lb x).length:=A0.1 (Amo _)
 have hy:y<B ^ (lb x).length:=A0.1 hb
 have key:=Cw (lb x).length (fun m k (s:List Ao×Nat)=>Mf N m (dL (lb y)) ((s.1++(lb x).drop k).map dB) (s.2:Int) ((lb x).length:Int) (k:Int)) (fun _ _=>[dL (lb (x+y))])
  (fun k s=>s.1.length=k∧nv s.1=(x+y) % B ^ k∧s.2=(x % B ^ k+y % B ^ k) / B ^ k)
  (fun m s ⟨h1,h2,h3⟩=>by
   simp only[RO,List.drop_length,Amx,Ah]
   rw[Am4 hx,Am4 hy]at h3
   have hs:x+y=nv s.1+B ^ (lb x).length*s.2:=by rw[h2,h3];exact (Nat.mod_add_div _ _).symm
   have hc:s.2≤1:=by
     have:s.2<2:=by rw[h3,Anj (Bp _)];omega
     omega
   refine Aq (Ae (fun h0=>Ax (by simp only[Amg,Amu,Aj];omega) (Ac ?_)) (fun h0=>Ac ?_))
   · have e1:s.2=1:=by omega
     rw[hs,e1]
     have e2:nv (s.1++[1])=nv s.1+B ^ (lb x).length*1:=by rw[Il,h1];rfl
     rw[← e2,FA (r:=s.1++[1]) (fun k hk=>by
       rw[e2]
       have:k=(lb x).length:=by simp at hk;omega
       rw[this];omega)]
     simp[dL,dB]
   · have e1:s.2=0:=by omega
     rw[e1,Nat.mul_zero,Nat.add_zero]at hs
     rw[hs,FA (r:=s.1) (fun k hk=>by rw[← hs];have:=CG (x:=x) (k:=k) (by omega);omega)];rfl)
  (fun m k s hk ⟨h1,h2,h3⟩ ih=>by
   have hd:=BP x y k
   have hc:=BO x y k
   have la:=Am5 (x / B ^ k) Bw
   have lb':=Am5 (y / B ^ k) Bw
   have lc:s.2≤1:=by
     rw[h3]
     have r1:=Am5 x (Bp k)
     have r2:=Am5 y (Bp k)
     have:(x % B ^ k+y % B ^ k) / B ^ k<2:=by rw[Anj (Bp k)];omega
     omega
   have hlen:(s.1++(lb x).drop k).length=(lb x).length:=by simp[h1];omega
   have gx:=Dv (lb x) k hk
   rw[Bq]at gx
   have Ca:((s.1++(lb x).drop k).map dB).getD k D.nil=D.int ((x / B ^ k % B:Nat):Int):=by rw[As (UG h1 hk),← gx];rfl
   have hm:=Am5 (x / B ^ k % B+y / B ^ k % B+s.2) Bw
   have Cg:((s.1++(lb x).drop k).map dB).set k (D.int (((x / B ^ k % B+y / B ^ k % B+s.2) % B:Nat):Int))=((s.1++[Amt 32 ((x / B ^ k % B+y / B ^ k % B+s.2) % B)])++(lb x).drop (k+1)).map dB:=by
     rw[Ea hm,map_set,UH _ h1 hk]
   have go:=ih (s.1++[Amt 32 ((x / B ^ k % B+y / B ^ k % B+s.2) % B)],(x / B ^ k % B+y / B ^ k % B+s.2) / B) ⟨by simp[h1],Q7 h1 h2 (by rw[ofNat_lt hm,hd,h3]),by rw[hc,h3]⟩
   simp only[RO,Ah,Ca,hlen,Bb k]
   refine Ad (Ae (fun hb'=> ?_) (fun hb'=> ?_))
   · have gy:=Dv (lb y) k (by omega)
     rw[Bq]at gy
     rw[As (Amb (show k<(lb y).length by omega)),Dc,gy]
     refine Ad (Ad (Ad (Ad (Aa (MA _ _ s.2 la lb' lc) (Ad (Ad ?_))))))
     simp only[Ag,Cm,Al,Cg]
     exact go
   · have gy:=FY (lb y) k (by omega)
     rw[Bq]at gy
     refine Ae (fun h0=>Aq (Ac ?_)) (fun h0=> ?_)
     · have e0:s.2=0:=by omega
       rw[e0]at h3
       have hyk:y<B ^ k:=A0.1 (by omega)
       rw[Am4 hyk]at h3
       have hsum:x % B ^ k+y<B ^ k:=by
        rcases Ann (x % B ^ k+y) (B ^ k) with h | h
        · exact h
        · have:=Nat.div_pos h (Bp k);omega
       have e1:nv s.1=x % B ^ k+y:=by rw[h2,Nat.add_mod,Am4 hyk,Am4 hsum]
       have hs:nv (s.1++(lb x).drop k)=x+y:=by
        rw[G8,h1,W2,Bq,e1]
        have:=Nat.mod_add_div x (B ^ k)
        omega
       rw[← hs,FA (fun j hj=>by rw[hs];have:=CG (x:=x) (k:=j) (by omega);omega)];rfl
     · rw[gy]at Cg go lb'
       refine Ad (Ad (Aa (MA _ 0 s.2 la Bw lc) (Ad (Ad ?_))))
       simp only[Ag,Cm,Al,Cg]
       exact go)
  N 0 ([],0) (by omega) (by omega) ⟨rfl,by simp[Nat.mod_one],by simp[Nat.mod_one]⟩
 exact key
theorem MP(l:List D):l.take (Amc l.length (D.int 0)).length++(Amc l.length (D.int 0)).drop l.length=l:=by simp
theorem AeZ(a b:List Ao)(ha:a.length≤100000)(hb:b.length≤100000):Sp 325 [dL a,dL b] [dL (lb (nv a+nv b))]:=by
 refine Af 100001 (Afa _ _ _) (Aa (Fd a (by omega)) (Aa (Fd b (by omega)) ?_))
 have la:(lb (nv a)).length≤a.length:=A0.2 (B7 a)
 have lb_:(lb (nv b)).length≤b.length:=A0.2 (B7 b)
 have c1:=MP ((lb (nv a)).map dB)
 have c2:=MP ((lb (nv b)).map dB)
 simp only[Amd]at c1 c2
 simp only[Ag,Bz,Amd,Amj,c1,c2]
 refine Ae (fun h=> ?_) (fun h=> ?_)
 · rw[At (by omega) (by omega)]
   refine Ad (Ad (Ax (by simp only[Aj];omega) ?_))
   rw[Nat.add_comm (nv a)]
   exact RP (nv b) (nv a) 100001 (by omega) (by omega) (by omega)
 · rw[At (by omega) (by omega)]
   refine Ad (Ad (Ax (by simp only[Aj];omega) ?_))
   exact RP (nv a) (nv b) 100001 (by omega) (by omega) (by omega)
theorem RX(a b:List Ao)(ha:a.length≤100000)(hb:b.length≤100000):Sp 326 [dL a,dL b] [dL (lb (nv a-nv b)),.bool (decide (nv b≤nv a))]:=by
 refine Af 100001 (Afi _ _ _) (Aa (Q4 a b (by omega) (by omega)) ?_)
 simp only[Ag,Al]
 refine Ae (fun h=>Ac ?_) (fun h=>Aa (G7 a (by omega)) (Aa (Fd b (by omega)) ?_))
 · have hlt:nv a<nv b:=by
    unfold Dm at h
    rcases Ann (nv a) (nv b) with h1 | h1
    · exact h1
    · rw[if_neg (by omega)]at h;split at h <;> omega
   rw[Nat.sub_eq_zero_of_le (by omega),Ct,decide_eq_false (by omega)];rfl
 have hge:nv b≤nv a:=by
   unfold Dm at h
   rcases Ann (nv a) (nv b) with h1 | h1
   · rw[if_pos h1]at h;omega
   · exact h1
 rw[decide_eq_true hge]
 have la:(lb (nv a)).length≤a.length:=A0.2 (B7 a)
 have lb_:(lb (nv b)).length≤(lb (nv a)).length:=A0.2 (by have:=A0.1 (Amo (lb (nv a)).length);omega)
 simp only[Ag,Bz,Amd]
 generalize nv a=x at *
 generalize nv b=y at *
 have hx:x<B ^ (lb x).length:=A0.1 (Amo _)
 have fin : ∀ l:List Ao,l.length≤100000→nv l=x-y→Tw (.call 321 [] [D.sl (l.map dB)] fun Y5=> .ret [qA Y5,D.bool true]) [dL (lb (x-y)),.bool true]:=fun l hl he=>Aa (Fd l (by omega)) (Ac (by rw[he];rfl))
 have key:=Cw (lb x).length (fun m k (s:List Ao×Nat)=>Q6 100001 m (dL (lb y)) ((s.1++(lb x).drop k).map dB) (s.2:Int) ((lb x).length:Int) (k:Int)) (fun _ _=>[dL (lb (x-y)),.bool true])
   (fun k s=>s.1.length=k∧nv s.1=(x-y) % B ^ k∧s.2=((x-y) % B ^ k+y % B ^ k) / B ^ k)
   (fun m s ⟨h1,h2,h3⟩=>by
    simp only[RV,List.drop_length,Amx,Ah]
    refine Aq (fin s.1 (by omega) ?_)
    rw[h2,Am4 (by omega)])
   (fun m k s hk ⟨h1,h2,h3⟩ ih=>by
    obtain ⟨zi,c,c',e1,e2,e3,e4,e5⟩:=Aak hge k
    have la:=Am5 (x / B ^ k) Bw
    have lb':=Am5 (y / B ^ k) Bw
    have lz:=Am5 ((x-y) / B ^ k) Bw
    rw[← e1]at lz
    rw[← e2]at h3
    have lc:c≤1:=by
      rw[e2]
      have r1:=Am5 (x-y) (Bp k)
      have r2:=Am5 y (Bp k)
      have:((x-y) % B ^ k+y % B ^ k) / B ^ k<2:=by rw[Anj (Bp k)];omega
      omega
    have hlen:(s.1++(lb x).drop k).length=(lb x).length:=by simp[h1];omega
    have gx:=Dv (lb x) k hk
    rw[Bq]at gx
    have Ca:((s.1++(lb x).drop k).map dB).getD k D.nil=D.int ((x / B ^ k % B:Nat):Int):=by rw[As (UG h1 hk),← gx];rfl
    have Cg:((s.1++(lb x).drop k).map dB).set k (D.int (zi:Int))=((s.1++[Amt 32 zi])++(lb x).drop (k+1)).map dB:=by
      rw[Ea lz,map_set,UH _ h1 hk]
    have go:=ih (s.1++[Amt 32 zi],c') ⟨by simp[h1],Q7 h1 h2 (by rw[ofNat_lt lz,e1]),e3⟩
    simp only[RV,Ah,Ca,hlen,Bb k,h3]
    refine Ad (Ae (fun hb'=> ?_) (fun hb'=> ?_))
    · have gy:=Dv (lb y) k (by omega)
      rw[Bq]at gy
      rw[As (Amb (show k<(lb y).length by omega)),Dc,gy]
      refine Ad (Ad (Ad (Ad (Aa (MB _ _ c la lb' lc zi c' lz e4 e5) (Ad (Ad ?_))))))
      simp only[Ag,Cm,Al,Cg]
      exact go
    · have gy:=FY (lb y) k (by omega)
      rw[Bq]at gy
      refine Ae (fun h0=> ?_) (fun h0=> ?_)
      · have e0:c=0:=by omega
        rw[e0]at e2
        have hyk:y<B ^ k:=A0.1 (by omega)
        rw[Am4 hyk]at e2
        have hsum:(x-y) % B ^ k+y<B ^ k:=by
         rcases Ann ((x-y) % B ^ k+y) (B ^ k) with h | h
         · exact h
         · have:=Nat.div_pos h (Bp k);omega
        have q1:=Nat.mod_add_div (x-y) (B ^ k)
        have q2:x=((x-y) % B ^ k+y)+B ^ k*((x-y) / B ^ k):=by omega
        have q3:x / B ^ k=(x-y) / B ^ k:=by
         have:x / B ^ k=(((x-y) % B ^ k+y)+B ^ k*((x-y) / B ^ k)) / B ^ k:=by rw[← q2]
         rw[this,Nat.add_mul_div_left _ _ (Bp k),Nat.div_eq_of_lt hsum,Anl]
        refine fin _ (by rw[hlen];omega) ?_
        rw[G8,h1,W2,Bq,h2,q3];exact q1
      · rw[gy]at e5
        refine Ad (Ad (Aa (MB _ 0 c la Bw lc zi c' lz e4 e5) (Ad (Ad ?_))))
        simp only[Ag,Cm,Al,Cg]
        exact go)
   100001 0 ([],0) (by omega) (by omega) ⟨rfl,by simp[Nat.mod_one],by simp[Nat.mod_one]⟩
 exact key
theorem AeX{x y o c:Nat}(hx:x<B)(hy:y<B)(ho:o<B)(hc:c<B):x*y+o+c<18446744073709551616∧x*y<18446744073709551616∧x*y+o<18446744073709551616:=by
 have h1:x*y≤(B-1)*(B-1):=Nat.mul_le_mul (by omega) (by omega)
 rw[Ay]at *
 omega
theorem Aff(a b:List Ao)(ha:a.length≤100000)(hb:b.length≤100000):Sp 303 [dL a,dL b] [dL (lb (nv a*nv b))]:=by
 refine Af 100001 (Afg _ _ _) (Aa (Fd a (by omega)) (Aa (Fd b (by omega)) ?_))
 have la:(lb (nv a)).length≤a.length:=A0.2 (B7 a)
 have lb_:(lb (nv b)).length≤b.length:=A0.2 (B7 b)
 simp only[Ag,Bz,Amd,Cd]
 generalize nv a=x at *
 generalize nv b=y at *
 refine Ae (fun h=>Ac ?_) (fun h=>Ae (fun h'=>Ac ?_) (fun h'=> ?_))
 · have:x=0:=Gc.1 (by omega)
   rw[this,Nat.zero_mul,Ct];rfl
 · have:y=0:=Gc.1 (by omega)
   rw[this,Nat.mul_zero,Ct];rfl
 have hm:(lb y).length=(lb y).length:=rfl
 generalize hmm:(lb y).length=mm at *
 rw[At (by omega) (by omega)]
 refine Ad (Ad (Ax (by simp only[Aj];omega) ?_))
 have hyB:y<B ^ mm:=A0.1 (by omega)
 have hxB:x<B ^ (lb x).length:=A0.1 (Amo _)
 rw[show ((lb x).length:Int)+(mm:Int)=(((lb x).length+mm:Nat):Int) by omega,Amj]
 have key:=Cw (lb x).length (fun m i (lo:List Ao)=>Wn 100001 m (dL (lb y)) ((lo++Amc ((lb x).length-i) 0).map dB) (dL (lb x)) ((lb x).length:Int) (i:Int)) (fun _ _=>[dL (lb (x*y))])
   (fun i lo=>lo.length=i+mm∧nv lo=(x % B ^ i)*y)
   (fun m lo ⟨h1,h2⟩=>by
    simp only[RU,Nat.sub_self,List.replicate_zero,Amx,Ah]
    refine Aq (Aa (Fd lo (by omega)) (Ac ?_))
    rw[h2,Am4 hxB];rfl)
   (fun m i lo hi ⟨h1,h2⟩ ih=>by
    have gx:=Dv (lb x) i hi
    rw[Bq]at gx
    have xl:x / B ^ i % B<B:=Am5 _ Bw
    have gX:((lb x).map dB).getD i D.nil=D.int ((x / B ^ i % B:Nat):Int):=by rw[As (Amb hi),← gx];rfl
    simp only[RU,Ah,gX,hmm]
    refine Ad (Ad (Ad ?_))
    have hxs:x % B ^ (i+1)=x % B ^ i+B ^ i*(x / B ^ i % B):=Nat.mod_pow_succ
    generalize x / B ^ i % B=xi at *
    have key:=Cw mm (fun m' j (s:List Ao×Nat)=>Wm 100001 m m' (dL (lb y)) ((s.1++Amc ((lb x).length-i) 0).map dB) (i:Int) (xi:Int) (s.2:Int) (dL (lb x)) ((lb x).length:Int) (i:Int) (dL (lb y)) (mm:Int) (j:Int)) (fun _ _=>[dL (lb (x*y))])
     (fun j s=>s.1.length=i+mm∧s.2<B∧nv s.1+B ^ (i+j)*s.2=nv lo+B ^ i*(xi*(y % B ^ j)))
     (fun m' s ⟨g1,g2,g3⟩=>by
      have ew:Al6 .i64 ((i:Int)+(mm:Int))=((i+mm:Nat):Int):=by rw[At (by omega) (by omega)];omega
      have hB:=Ay
      have ec:Al6 .u32 (s.2:Int)=(s.2:Int):=E6 (by omega) (by omega)
      have hlen:(s.1++Amc ((lb x).length-i) (0:Ao)).length=(lb x).length+mm:=by simp[g1];omega
      simp only[RT,Ah,hmm,ew,ec,hlen,Bb i]
      refine Aq (Ad (Ad ?_))
      have Cg:((s.1++Amc ((lb x).length-i) 0).map dB).set (i+mm) (D.int (s.2:Int))=((s.1++[Amt 32 s.2])++Amc ((lb x).length-(i+1)) 0).map dB:=by
       rw[Ea g2,map_set,List.set_append_right _ _ (by omega),g1,Nat.sub_self,show (lb x).length-i=((lb x).length-(i+1))+1 by omega,List.replicate_succ,List.set_cons_zero];simp
      rw[Cg]
      refine ih _ ⟨by simp[g1];omega,?_⟩
      rw[Il,g1,ofNat_lt g2,g3,h2,Am4 hyB,hxs,Nat.add_mul,Nat.mul_assoc])
     (fun m' j s hj ⟨g1,g2,g3⟩ ih'=>by
      have gy:=Dv (lb y) j (by omega)
      rw[Bq]at gy
      have yl:y / B ^ j % B<B:=Am5 _ Bw
      have gY:((lb y).map dB).getD j D.nil=D.int ((y / B ^ j % B:Nat):Int):=by rw[As (Amb (by omega)),← gy];rfl
      have hys:y % B ^ (j+1)=y % B ^ j+B ^ j*(y / B ^ j % B):=Nat.mod_pow_succ
      have hij:i+j<s.1.length:=by omega
      have ew:Al6 .i64 ((i:Int)+(j:Int))=((i+j:Nat):Int):=by rw[At (by omega) (by omega)];omega
      have hlen:(s.1++Amc ((lb x).length-i) (0:Ao)).length=(lb x).length+mm:=by simp[g1];omega
      have gO:((s.1++Amc ((lb x).length-i) 0).map dB).getD (i+j) D.nil=D.int ((s.1[i+j]).toNat:Int):=by rw[As (x:=s.1[i+j]) (by rw[Am0 hij,Amb hij])];rfl
      simp only[RT,Ah,ew,gO,gY,hlen,Bb j]
      generalize y / B ^ j % B=yj at *
      have ol:=Ej (s.1[i+j])
      have hns:=AfL s.1 (i+j) hij (Amt 32 ((xi*yj+(s.1[i+j]).toNat+s.2) % B))
      have hmd:=Am5 (xi*yj+(s.1[i+j]).toNat+s.2) Bw
      rw[ofNat_lt hmd]at hns
      generalize hoo:(s.1[i+j]).toNat=o at *
      have hbd:=AeX xl yl ol g2
      have hB:=Ay
      have t0:Al6 .u64 (xi:Int)=(xi:Int):=Bn (by omega) (by omega)
      have t0':Al6 .u64 (yj:Int)=(yj:Int):=Bn (by omega) (by omega)
      have t0'':Al6 .u64 (o:Int)=(o:Int):=Bn (by omega) (by omega)
      have t1:Al6 .u64 ((xi:Int)*(yj:Int))=((xi*yj:Nat):Int):=by rw[← Int.natCast_mul];exact Bn (by omega) (by omega)
      have t2:Al6 .u64 (((xi*yj:Nat):Int)+(o:Int))=((xi*yj+o:Nat):Int):=by rw[Bn (by omega) (by omega)];omega
      have t3:Al6 .u64 (((xi*yj+o:Nat):Int)+(s.2:Int))=((xi*yj+o+s.2:Nat):Int):=by rw[Bn (by omega) (by omega)];omega
      simp only[t0,t0',t0'',t1,t2,t3,Nm]
      have t4:Al6 .u32 ((xi*yj+o+s.2:Nat):Int)=(((xi*yj+o+s.2) % B:Nat):Int):=by rw[IntKind.wrap_u32,Ay];omega
      have Cg:((s.1++Amc ((lb x).length-i) 0).map dB).set (i+j) (D.int (((xi*yj+o+s.2) % B:Nat):Int))=((s.1.set (i+j) (Amt 32 ((xi*yj+o+s.2) % B)))++Amc ((lb x).length-i) 0).map dB:=by
       rw[Ea hmd,map_set,List.set_append_left _ _ hij]
      rw[t4,Cg]
      refine Ad (Ad (Ad (Ad (Ad (Ad (Ad (Bi (by decide) ?_)))))))
      have hcl:(xi*yj+o+s.2) / 4294967296<B:=by rw[Ay];omega
      refine ih' (s.1.set (i+j) (Amt 32 ((xi*yj+o+s.2) % B)),(xi*yj+o+s.2) / 4294967296) ⟨by simp[g1],hcl,?_⟩
      show nv (s.1.set (i+j) _)+B ^ (i+(j+1))*((xi*yj+o+s.2) / B)=_
      have q1:B ^ (i+(j+1))*((xi*yj+o+s.2) / B)=B ^ (i+j)*(B*((xi*yj+o+s.2) / B)):=by rw[← Nat.add_assoc,Anc,Nat.mul_assoc]
      have q2:B ^ (i+j)*((xi*yj+o+s.2) % B)+B ^ (i+j)*(B*((xi*yj+o+s.2) / B))=B ^ (i+j)*(xi*yj+o+s.2):=by rw[← Nat.mul_add,Nat.mod_add_div]
      have q3:B ^ (i+j)*(xi*yj+o+s.2)=B ^ (i+j)*(xi*yj)+B ^ (i+j)*o+B ^ (i+j)*s.2:=by rw[Nat.mul_add,Nat.mul_add]
      have q4:B ^ i*(xi*(y % B ^ (j+1)))=B ^ i*(xi*(y % B ^ j))+B ^ (i+j)*(xi*yj):=by
       rw[hys,Nat.mul_add,Nat.mul_add,Nat.pow_add,Nat.mul_left_comm xi,Nat.mul_assoc]
      rw[q1,q4]
      omega)
     100001 0 (lo,0) (by omega) (by omega) ⟨h1,Bw,by simp[Nat.mod_one]⟩
    exact key)
   100001 0 (Amc mm 0) (by omega) (by omega) ⟨by simp,by rw[W3];simp[Nat.mod_one]⟩
 have e0:(Amc mm (0:Ao)++Amc ((lb x).length-0) 0).map dB=Amc ((lb x).length+mm) (D.int 0):=by
   rw[List.replicate_append_replicate,List.map_replicate,show mm+((lb x).length-0)=(lb x).length+mm by omega];rfl
 rw[e0]at key
 exact key
theorem W9{r d:Nat}(hr:r<4294967296)(hd:d<4294967296):Bm .or .u64 ((r*4294967296:Nat):Int) (d:Int)=((r*4294967296+d:Nat):Int):=by
 have h:=GN hd hr
 have hc:Bm .or .u64 ((r*4294967296:Nat):Int) (d:Int)=Bm .or .u64 (d:Int) ((r*4294967296:Nat):Int):=by unfold Bm;simp only;rw[BitVec.or_comm]
 rw[hc,h,Nat.add_comm]
theorem Afp(l:List Ao)(y:Nat)(hy:0<y)(hyB:y<B)(hl:l.length≤1000000) : ∃ q:List Ao,q.length=l.length∧nv q=nv l / y∧Sp 331 [.sl (l.map dB),.int (y:Int)] [.int ((nv l % y:Nat):Int),.sl (q.map dB)]:=by
 have hq : ∃ q:List Ao,q.length=l.length∧nv q=nv l / y:=by
  have h1:nv l / y<B ^ l.length:=Nat.lt_of_le_of_lt (Nat.div_le_self _ _) (B7 l)
  have h2:=A0.2 h1
  refine ⟨lb (nv l / y)++Amc (l.length-(lb (nv l / y)).length) 0,by simp;omega,?_⟩
  rw[G8,W3,Bq];simp
 obtain ⟨q0,hq1,hq2⟩:=hq
 refine ⟨q0,hq1,hq2,Af (l.length+1) (Afq _ _ _) ?_⟩
 simp only[Ds,Al,Amd]
 have uniq : ∀ q:List Ao,q.length=l.length→nv q=nv l / y→q=q0:=by
  intro q h1 h2
  apply List.ext_getElem (by omega)
  intro i g1 g2
  apply BitVec.eq_of_toNat_eq
  rw[Dv q i g1,Dv q0 i g2,h2,hq2]
 have key:=Ii (P:=Tryz.prog) (md:=md) (fun m k (s:List Ao×Nat)=>Ws (l.length+1) m ((l.take k++s.1).map dB) (y:Int) (s.2:Int) ((k:Int)-1)) (fun _ _=>[.int ((nv l % y:Nat):Int),.sl (q0.map dB)])
  (fun k s=>k≤l.length∧s.1.length=l.length-k∧nv s.1=nv l / B ^ k / y∧s.2=nv l / B ^ k % y)
  (fun m s ⟨h0,h1,h2,h3⟩=>by
   simp only[RZ,List.take_zero,Anm]
   refine Aq (Ac ?_)
   simp at h2 h3
   rw[uniq s.1 (by omega) h2,h3]
   have:=Am5 (nv l) hy
   rw[Ay]at hyB
   rw[E6 (by omega) (by omega)])
  (fun m k s ⟨h0,h1,h2,h3⟩ ih=>by
   have hk:k<l.length:=by omega
   have hlen:((l.take (k+1)++s.1).map dB).length=l.length:=by simp;omega
   have gd:=Dv l k hk
   have Ca:((l.take (k+1)++s.1).map dB).getD k D.nil=D.int ((l[k]).toNat:Int):=by rw[As (x:=l[k]) (by rw[Am0 (by simp;omega),List.getElem?_take,if_pos (by omega),Amb hk])];rfl
   have hs2:s.2<y:=by rw[h3];exact Am5 _ hy
   have dl:=Ej l[k]
   have hQ:nv l / B ^ k=B*(nv l / B ^ (k+1))+(l[k]).toNat:=by
    rw[gd,Anc,← Ane];exact (Nat.div_add_mod _ _).symm
   generalize hdd:(l[k]).toNat=d at *
   have e1:=Nat.div_add_mod (nv l / B ^ (k+1)) y
   rw[← h2,← h3]at e1
   have hQ2:nv l / B ^ k=y*(B*nv s.1)+(s.2*B+d):=by
    rw[hQ,← e1,Nat.mul_add,Nat.mul_left_comm,Anb B s.2];omega
   have hd1:nv l / B ^ k / y=B*nv s.1+(s.2*B+d) / y:=by rw[hQ2,Nat.mul_add_div hy]
   have hd2:nv l / B ^ k % y=(s.2*B+d) % y:=by rw[hQ2,Nat.mul_add_mod]
   have hlt:(s.2*B+d) / y<B:=by
    rw[Anj hy]
    have:(s.2+1)*B≤y*B:=Amv _ hs2
    rw[Nat.add_mul,Nat.one_mul]at this
    rw[Anb B y];omega
   rw[Ay]at hyB dl hlt
   have b64:(2:Int) ^ (min (Ama 32) (Aml .u64))=4294967296:=by decide
   have t1:Al6 .u64 ((s.2:Int)*4294967296)=((s.2*4294967296:Nat):Int):=by rw[Bn (by omega) (by omega)];omega
   have t2:Al6 .u64 (d:Int)=(d:Int):=Bn (by omega) (by omega)
   have t3:Al6 .u64 (y:Int)=(y:Int):=Bn (by omega) (by omega)
   have t4:Al6 .u64 (Int.tdiv ((s.2*4294967296+d:Nat):Int) (y:Int))=(((s.2*4294967296+d) / y:Nat):Int):=by
    rw[show Int.tdiv ((s.2*4294967296+d:Nat):Int) (y:Int)=(((s.2*4294967296+d) / y:Nat):Int) from rfl]
    generalize (s.2*4294967296+d) / y=qq at hlt ⊢
    exact Bn (by omega) (by omega)
   have t5:Int.tmod ((s.2*4294967296+d:Nat):Int) (y:Int)=(((s.2*4294967296+d) % y:Nat):Int):=rfl
   have t6:Al6 .u32 (((s.2*4294967296+d) / y:Nat):Int)=(((s.2*4294967296+d) / y:Nat):Int):=by
    generalize (s.2*4294967296+d) / y=qq at hlt ⊢
    exact E6 (by omega) (by omega)
   simp only[RZ,show ((k+1:Nat):Int)-1=(k:Int) by omega,Amj,Ca,hlen,Al,b64,t1,t2,t3,W9 (show s.2<4294967296 by omega) dl,t4,t5,t6]
   have Cg:((l.take (k+1)++s.1).map dB).set k (D.int (((s.2*4294967296+d) / y:Nat):Int))=(l.take k++(Amt 32 ((s.2*4294967296+d) / y)::s.1)).map dB:=by
    rw[Ea hlt,map_set,List.take_succ_eq_append_getElem hk,Amz,List.set_append_right _ _ (by rw[Amr];omega),Amr,Nat.min_eq_left (by omega),Nat.sub_self];rfl
   rw[Cg,At (by omega) (by omega)]
   have hne:(!((y:Int)==0))=true:=by simp;omega
   refine Ad (Bi (by decide) (Ad (Ad (Bi hne (Ad (Ad (Bi hne ?_)))))))
   refine ih (Amt 32 ((s.2*4294967296+d) / y)::s.1,(s.2*4294967296+d) % y) ⟨by omega,by simp;omega,?_,hd2.symm⟩
   rw[nv,ofNat_lt hlt]
   show (s.2*B+d) / y+B*nv s.1=_
   rw[hd1,Nat.add_comm])
  (l.length+1) l.length ([],0) (by omega) ⟨by omega,by simp,by rw[Nat.div_eq_of_lt (B7 l)];simp,by rw[Nat.div_eq_of_lt (B7 l)];simp⟩
 rw[List.take_length,Amx]at key
 rw[At (by omega) (by omega)]
 exact key
def BK(x y:Nat):Prop:=1<(lb y).length→y≤x→Sp 332 [dL (lb x),dL (lb y)] [dL (lb (x / y)),dL (lb (x % y))]
theorem Wk(a b:List Ao)(ha:a.length≤100000)(hb:b.length≤100000)(hL:BK (nv a) (nv b)):Sp 323 [dL a,dL b] [dL (lb (nv a / nv b)),dL (lb (if nv b=0 then 0 else nv a % nv b)),.bool (decide (nv b≠0))]:=by
 refine Af 0 (Afc _ _ _) (Aa (Fd a (by omega)) (Aa (Fd b (by omega)) ?_))
 have la:(lb (nv a)).length≤a.length:=A0.2 (B7 a)
 have lb_:(lb (nv b)).length≤b.length:=A0.2 (B7 b)
 simp only[Ag,Bz,Amd,Cd]
 refine Ae (fun h=>Ac ?_) (fun h=> ?_)
 · have h0:nv b=0:=Gc.1 (by omega)
   rw[h0,Nat.div_zero,if_pos rfl,Ct];rfl
 have h0:nv b≠0:=fun hh=>h (by rw[hh,Ct];rfl)
 rw[if_neg h0,decide_eq_true h0]
 have cm:=Q4 (lb (nv a)) (lb (nv b)) (by omega) (by omega)
 rw[Bq,Bq]at cm
 refine Aa cm ?_
 simp only[Ag,Al]
 refine Ae (fun h1=> ?_) (fun h1=> ?_)
 · have hlt:nv a<nv b:=by
    unfold Dm at h1
    rcases Ann (nv a) (nv b) with h2 | h2
    · exact h2
    · rw[if_neg (by omega)]at h1;split at h1 <;> omega
   have nm:=G7 (lb (nv a)) (by omega)
   rw[Bq]at nm
   refine Aa nm (Ac ?_)
   rw[Nat.div_eq_of_lt hlt,Am4 hlt,Ct];rfl
 have hge:nv b≤nv a:=by
   unfold Dm at h1
   rcases Ann (nv a) (nv b) with h2 | h2
   · rw[if_pos h2]at h1;omega
   · exact h2
 refine Ae (fun h2=> ?_) (fun h2=> ?_)
 · obtain ⟨d,hd⟩ : ∃ d,lb (nv b) = [d]:=by
    match hh:lb (nv b) with
    | [d]=>exact ⟨d,rfl⟩
    | []=>rw[hh]at h2;simp at h2
    | _::_::_=>rw[hh]at h2;simp at h2;omega
   have hbv:nv b=d.toNat:=by rw[← Bq (nv b),hd];simp[nv]
   have nm:=G7 (lb (nv a)) (by omega)
   rw[Bq]at nm
   refine Aa nm ?_
   simp only[hd,Ani,List.map_nil,Amg,Amu,Int.toNat_zero,Ag,Bz,Dc]
   rw[← hbv]
   have hdB:nv b<B:=by rw[hbv];exact Ej d
   obtain ⟨q,q1,q2,q3⟩:=Afp (lb (nv a)) (nv b) (by omega) hdB (by omega)
   rw[Bq]at q2 q3
   refine Ad (Ad (Aa q3 ?_))
   have hr:nv a % nv b<B:=Am_ (Am5 _ (by omega)) (by omega)
   simp only[Ag,Cm,Ds,Al]
   refine Aa (Fd q (by omega)) ?_
   rw[Ea hr]
   refine Aa (G7 [Amt 32 (nv a % nv b)] (by simp)) (Ac ?_)
   have e:nv [Amt 32 (nv a % nv b)]=nv a % nv b:=by simp only[nv];rw[ofNat_lt hr];omega
   rw[e,q2];rfl
 · exact Aa (hL (by omega) hge) (Ac rfl)
theorem Lf(z:Int):(Ff z = -1∧z<0)∨(Ff z=0∧z=0)∨(Ff z=1∧0<z):=by
 unfold Ff
 by_cases h1:z<0
 · exact .inl ⟨if_pos h1,h1⟩
 · by_cases h2:z=0
   · exact .inr (.inl ⟨by rw[if_neg h1,if_pos h2],h2⟩)
   · exact .inr (.inr ⟨by rw[if_neg h1,if_neg h2],by omega⟩)
theorem BD(a:Wh)(h:a.mag.length≤1000000):Sp 301 [dW a] [.int (Ff (zv a))]:=by
 refine Af 0 (AlG _ _) ?_
 have cm:=Q4 a.mag [] h (by simp)
 simp only[E9,Ev,Az]
 refine Aa cm ?_
 simp only[Ag,Al,Cd,FZ]
 unfold Ff zv Dm
 refine Ae (fun h0=>Ac ?_) (fun h0=>Bu (fun h1=>Ac ?_) (fun h1=>Ac ?_))
 · have:nv a.mag=0:=by
    rw[if_neg (by omega)]at h0
    split at h0
    · assumption
    · omega
   rw[this];cases a.neg <;> simp
 · have:nv a.mag≠0:=fun hh=>h0 (by rw[hh];simp)
   rw[if_pos (by rw[if_pos h1];omega)]
 · have:nv a.mag≠0:=fun hh=>h0 (by rw[hh];simp)
   rw[if_neg (by rw[if_neg (by simp[h1])];omega),if_neg (by rw[if_neg (by simp[h1])];omega)]
theorem AaC(a b:Wh)(ha:a.mag.length≤1000000)(hb:b.mag.length≤1000000):Sp 253 [dW a,dW b] [.int (Ch (zv a) (zv b))]:=by
 refine Af 0 (Al_ _ _ _) (Aa (BD a ha) (Aa (BD b hb) ?_))
 simp only[Ag,Al,Ev]
 have za:=Ko a
 have zb:=Ko b
 refine Ae (fun h=>Ac ?_) (fun h=>Ae (fun h'=>Ac ?_) (fun h'=>Ae (fun h2=>Aa (Q4 b.mag a.mag hb ha) (Ac ?_)) (fun h2=>Aa (Q4 a.mag b.mag ha hb) (Ac ?_))))
 · have:zv a<zv b:=by rcases Lf (zv a) with h1 | h1 | h1 <;> rcases Lf (zv b) with h2 | h2 | h2 <;> omega
   rw[Ch,if_pos this]
 · have:zv b<zv a:=by rcases Lf (zv a) with h1 | h1 | h1 <;> rcases Lf (zv b) with h2 | h2 | h2 <;> omega
   rw[Ch,if_neg (by omega),if_neg (by omega)]
 · have h3:zv a<0∧zv b<0:=by rcases Lf (zv a) with h1 | h1 | h1 <;> rcases Lf (zv b) with h2 | h2 | h2 <;> omega
   simp only[Ag,Al]
   have:Dm (nv b.mag) (nv a.mag)=Ch (zv a) (zv b):=by
    unfold Dm Ch
    by_cases g1:nv b.mag<nv a.mag
    · rw[if_pos g1,if_pos (show zv a<zv b by omega)]
    · rw[if_neg g1,if_neg (show ¬ zv a<zv b by omega)]
      by_cases g2:nv b.mag=nv a.mag
      · rw[if_pos g2,if_pos (show zv a=zv b by omega)]
      · rw[if_neg g2,if_neg (show ¬ zv a=zv b by omega)]
   rw[this]
 · have h3:0≤zv a∧0≤zv b:=by rcases Lf (zv a) with h1 | h1 | h1 <;> rcases Lf (zv b) with h2 | h2 | h2 <;> omega
   simp only[Ag,Al]
   have:Dm (nv a.mag) (nv b.mag)=Ch (zv a) (zv b):=by
    unfold Dm Ch
    by_cases g1:nv a.mag<nv b.mag
    · rw[if_pos g1,if_pos (show zv a<zv b by omega)]
    · rw[if_neg g1,if_neg (show ¬ zv a<zv b by omega)]
      by_cases g2:nv a.mag=nv b.mag
      · rw[if_pos g2,if_pos (show zv a=zv b by omega)]
      · rw[if_neg g2,if_neg (show ¬ zv a=zv b by omega)]
   rw[this]
theorem KI(a b:Wh)(ha:a.mag.length≤100000)(hb:b.mag.length≤100000):Sp 313 [dW a,dW b] [dW (wz (zv a+zv b))]:=by
 refine Af 0 (Al9 _ _ _) ?_
 simp only[E9,Ev,Az,Ps]
 refine Ae (fun h=>Aa (AeZ a.mag b.mag ha hb) (Aa (Kl a.neg _) (Ac ?_))) (fun h=>Aa (RX a.mag b.mag ha hb) ?_)
 · have:(if a.neg=true then -((nv a.mag+nv b.mag:Nat):Int) else ((nv a.mag+nv b.mag:Nat):Int))=zv a+zv b:=by
    unfold zv;rw[← h];cases a.neg <;> simp <;> omega
   rw[Ag,this]
 simp only[Ag,Cm,Az]
 refine Ae (fun h1=>Aa (Kl a.neg _) (Ac ?_)) (fun h1=>Aa (RX b.mag a.mag hb ha) (Aa (Kl b.neg _) (Ac ?_)))
 · have:(if a.neg=true then -((nv a.mag-nv b.mag:Nat):Int) else ((nv a.mag-nv b.mag:Nat):Int))=zv a+zv b:=by
    unfold zv;cases ea:a.neg <;> cases eb:b.neg <;> simp[ea,eb]at h ⊢ <;> omega
   rw[Ag,this]
 · have:(if b.neg=true then -((nv b.mag-nv a.mag:Nat):Int) else ((nv b.mag-nv a.mag:Nat):Int))=zv a+zv b:=by
    unfold zv;cases ea:a.neg <;> cases eb:b.neg <;> simp[ea,eb]at h ⊢ <;> omega
   rw[Ag,this]
theorem AlR(b:Wh):zv ⟨!b.neg,b.mag⟩ = -zv b:=by unfold zv;cases b.neg <;> simp
theorem AlJ(a b:Wh)(ha:a.mag.length≤100000)(hb:b.mag.length≤100000):Sp 324 [dW a,dW b] [dW (wz (zv a-zv b))]:=by
 refine Af 0 (AlK _ _ _) ?_
 simp only[E9,Ev,Az,Ac8]
 refine Aa (KI a ⟨!b.neg,b.mag⟩ ha hb) (Ac ?_)
 rw[AlR,← Int.sub_eq_add_neg];rfl
theorem AlS(a b:Wh):(if (!(a.neg == b.neg))=true then -((nv a.mag*nv b.mag:Nat):Int) else ((nv a.mag*nv b.mag:Nat):Int))=zv a*zv b:=by
 unfold zv;cases a.neg <;> cases b.neg <;> simp[Int.neg_mul,Int.mul_neg,Int.natCast_mul]
theorem H4(a b:Wh)(ha:a.mag.length≤100000)(hb:b.mag.length≤100000):Sp 254 [dW a,dW b] [dW (wz (zv a*zv b))]:=by
 refine Af 0 (AlC _ _ _) ?_
 simp only[E9,Ev,Az]
 refine Aa (Aff a.mag b.mag ha hb) (Aa (Kl (!(a.neg == b.neg)) _) (Ac ?_))
 rw[AlS];rfl
def D3(x y:Int):Int×Int :=
 if (x<0)=(y<0) then (((x.natAbs / y.natAbs:Nat):Int),if x<0 then -((x.natAbs % y.natAbs:Nat):Int) else ((x.natAbs % y.natAbs:Nat):Int))
 else if x.natAbs % y.natAbs=0 then (-((x.natAbs / y.natAbs:Nat):Int),0)
 else (-((x.natAbs / y.natAbs:Nat):Int)-1,(if x<0 then -((x.natAbs % y.natAbs:Nat):Int) else ((x.natAbs % y.natAbs:Nat):Int))+y)
def DI(x y:Int):List D:=if y=0 then [dW (wz 0),dW (wz 0),.bool false] else [dW (wz (D3 x y).1),dW (wz (D3 x y).2),.bool true]
theorem Sw{w:Wh}(h:nv w.mag≠0):(zv w<0)↔w.neg=true:=by unfold zv;cases w.neg <;> simp <;> omega
theorem Sx{w:Wh} : zv w=0↔nv w.mag=0:=by unfold zv;cases w.neg <;> simp
theorem AcA{a b:Wh}(hb:nv b.mag≠0)(hr:nv a.mag % nv b.mag≠0)(hs:a.neg≠b.neg):D3 (zv a) (zv b)=((if (!(a.neg == b.neg))=true then -((nv a.mag / nv b.mag:Nat):Int) else ((nv a.mag / nv b.mag:Nat):Int))-1,(if a.neg=true then -((nv a.mag % nv b.mag:Nat):Int) else ((nv a.mag % nv b.mag:Nat):Int))+zv b):=by
 have ha:nv a.mag≠0:=fun h=>hr (by rw[h];simp)
 have h1:=Sw ha
 have h2:=Sw hb
 unfold D3
 rw[Ko,Ko,if_neg (by rw[eq_iff_iff,h1,h2];cases ea:a.neg <;> cases eb:b.neg <;> simp[ea,eb]at hs ⊢),if_neg hr]
 have e1:(!(a.neg == b.neg))=true:=by cases ea:a.neg <;> cases eb:b.neg <;> simp[ea,eb]at hs ⊢
 rw[if_pos e1]
 by_cases h:a.neg=true
 · rw[if_pos (h1.2 h),if_pos h]
 · rw[if_neg (fun hh=>h (h1.1 hh)),if_neg h]
theorem NJ{a b:Wh}(hb:nv b.mag≠0)(hr:a.neg=b.neg∨nv a.mag % nv b.mag=0):D3 (zv a) (zv b)=(if (!(a.neg == b.neg))=true then -((nv a.mag / nv b.mag:Nat):Int) else ((nv a.mag / nv b.mag:Nat):Int),if a.neg=true then -((nv a.mag % nv b.mag:Nat):Int) else ((nv a.mag % nv b.mag:Nat):Int)):=by
 have h2:=Sw hb
 unfold D3
 rw[Ko,Ko]
 by_cases ha:nv a.mag=0
 · have h0:zv a=0:=Sx.2 ha
   rw[h0,ha]
   simp
 · have h1:=Sw ha
   by_cases hs:a.neg=b.neg
   · rw[if_pos (by rw[eq_iff_iff,h1,h2,hs])]
     have e1:(!(a.neg == b.neg))=false:=by rw[hs];simp
     rw[e1]
     by_cases h:a.neg=true
     · rw[if_pos (h1.2 h),if_pos h];simp
     · rw[if_neg (fun hh=>h (h1.1 hh)),if_neg h];simp
   · have h3:=hr.resolve_left hs
     rw[if_neg (by rw[eq_iff_iff,h1,h2];cases ea:a.neg <;> cases eb:b.neg <;> simp[ea,eb]at hs ⊢),if_pos h3,h3]
     have e1:(!(a.neg == b.neg))=true:=by cases ea:a.neg <;> cases eb:b.neg <;> simp[ea,eb]at hs ⊢
     rw[if_pos e1]
     cases a.neg <;> simp
theorem KK{n:Nat}{z:Int}(h:z.natAbs<B ^ n):(wz z).mag.length≤n:=A0.2 h
theorem AlA(a b:Wh)(ha:a.mag.length≤10000)(hb:b.mag.length≤10000)(hL:BK (nv a.mag) (nv b.mag)):Sp 306 [dW a,dW b] (DI (zv a) (zv b)):=by
 refine Af 0 (AlB _ _ _) ?_
 simp only[E9,Ev,Az]
 refine Aa (Wk a.mag b.mag (by omega) (by omega) hL) ?_
 simp only[Ag,Cm,U_,Az,Ub,Bz,Amd]
 unfold DI
 refine Bu (fun h=>Ac ?_) (fun h=> ?_)
 · have h0:nv b.mag=0:=by simpa using h
   rw[if_pos (Sx.2 h0)]
 have h0:nv b.mag≠0:=by simpa using h
 rw[if_neg (fun hh=>h0 (Sx.1 hh)),if_neg h0]
 have hq:nv a.mag / nv b.mag<B ^ a.mag.length:=Nat.lt_of_le_of_lt (Nat.div_le_self _ _) (B7 _)
 have hr:nv a.mag % nv b.mag<B ^ b.mag.length:=Am_ (Am5 _ (by omega)) (Nat.le_of_lt (B7 _))
 refine Aa (Kl _ (nv a.mag / nv b.mag)) (Aa (Kl a.neg (nv a.mag % nv b.mag)) ?_)
 simp only[Ag]
 refine Bu (fun h1=>Ae (fun h2=> ?_) (fun h2=>Ac ?_)) (fun h1=>Ac ?_)
 · have hr0:nv a.mag % nv b.mag≠0:=fun hh=>by rw[hh,Ct]at h2;simp at h2
   have hs:a.neg≠b.neg:=by simpa using h1
   refine Aa (So 1 (by unfold Bc;decide)) ?_
   refine Aa (AlJ _ _ (Nat.le_trans (KK (n:=a.mag.length) (by split <;> simp <;> exact hq)) (by omega)) (Nat.le_trans (KK (n:=1) (by simp[Ay])) (by omega))) ?_
   refine Aa (KI _ b (Nat.le_trans (KK (n:=b.mag.length) (by split <;> simp <;> exact hr)) (by omega)) (by omega)) (Ac ?_)
   rw[AcA h0 hr0 hs,Cy,Cy,Cy];rfl
 · have hr0:nv a.mag % nv b.mag=0:=Gc.1 (by omega)
   rw[NJ h0 (.inr hr0)]
 · rw[NJ h0 (.inl (by simpa using h1))]
def Bs(z:Int):Nat:=(lb z.natAbs).length
def Jg:Nat→Nat→Int→Int→Int×Int
 | 0,_,out,_=>(out,0)
 | k+1,n,out,base=>if n=0 then (out,0) else if 32<Bs base then (0,7) else
  if 32<Bs (if n % 2=1 then out*base else out) then (0,7) else
  if n / 2=0 then (if n % 2=1 then out*base else out,0) else Jg k (n / 2) (if n % 2=1 then out*base else out) (base*base)
def On(r:Int×Int):List D:=[dW (wz r.1),.int r.2]
theorem Ih(x y:Int):Bs (x*y)≤Bs x+Bs y:=by
 unfold Bs
 refine A0.2 ?_
 rw[Int.natAbs_mul,Nat.pow_add]
 exact Nat.mul_lt_mul'' (A0.1 (Amo _)) (A0.1 (Amo _))
theorem Abn(n:Nat)(h:n≤9223372036854775807):Bm .and .i64 (n:Int) 1=((n % 2:Nat):Int):=by
 have b:Aml .i64=64:=rfl
 have h1:n % 2<2:=Am5 _ (by decide)
 have e:(BitVec.ofInt 64 (n:Int)&&&BitVec.ofInt 64 1).toNat=n % 2:=by
  rw[BitVec.ofInt_natCast,show BitVec.ofInt 64 1=Amt 64 1 from rfl,BitVec.toNat_and,BitVec.toNat_ofNat,BitVec.toNat_ofNat,Am4 (show n<2 ^ 64 by omega)]
  exact Nat.and_one_is_mod n
 show Al6 .i64 ((BitVec.ofInt 64 (n:Int)&&&BitVec.ofInt 64 1).toNat:Int)=_
 rw[e]
 exact At (x:=((n % 2:Nat):Int)) (by omega) (by omega)
theorem AcT(n:Nat):Am3 (n:Int) (2 ^ (min (Ama 1) (Aml .i64)))=((n / 2:Nat):Int):=by
 rw[show (2:Int) ^ (min (Ama 1) (Aml .i64))=2 by decide,Int.fdiv_eq_ediv_of_nonneg _ (by omega)];omega
def K7(x n:Int):Int×Int:=if n<0 then (0,3) else Jg 20 n.toNat 1 x
theorem Sq(N:Nat) : ∀ (k m n:Nat) (out base:Int),n<2 ^ k→k<m→n≤1000000→Bs out≤100→Bs base≤100→Tw (M3 N m (n:Int) false (dW (wz out)) (dW (wz base))) (On (Jg k n out base))
 | k,0,n,out,base,hk,hm,_,_,_=>by omega
 | 0,m+1,n,out,base,hk,hm,hn,ho,hb=>by
  have:n=0:=by simp at hk;omega
  subst this
  simp only[AaD]
  exact Aq (Ac rfl)
 | k+1,m+1,n,out,base,hk,hm,hn,ho,hb=>by
  have hk':n / 2<2 ^ k:=by rw[Anc]at hk;omega
  simp only[AaD,Ev,Bz,Amd,Abn n (by omega),AcT,Cd,Ub]
  rw[Jg]
  refine Ae (fun h0=> ?_) (fun h0=>Ac ?_)
  · rw[if_neg (by omega)]
    have lo:(wz out).mag.length=Bs out:=rfl
    have lb_:(wz base).mag.length=Bs base:=rfl
    rw[lb_,lo]
    refine Ae (fun h1=>Ac ?_) (fun h1=> ?_)
    · rw[if_pos (by omega)];rfl
    rw[if_neg (by omega)]
    have m1:=H4 (wz out) (wz base) (by omega) (by omega)
    have m2:=H4 (wz base) (wz base) (by omega) (by omega)
    rw[Cy,Cy]at m1
    rw[Cy]at m2
    have l2:=Ih base base
    refine Ae (fun h2=>Aa m1 ?_) (fun h2=> ?_)
    · rw[if_pos (show n % 2=1 by omega)]
      simp only[Ag,Ev,Bz,Amd]
      have lo':(wz (out*base)).mag.length=Bs (out*base):=rfl
      rw[lo']
      refine Ae (fun h3=>Ac (by rw[if_pos (by omega)];rfl)) (fun h3=>Bi (by decide) ?_)
      rw[if_neg (by omega)]
      refine Ae (fun h4=>Aa m2 ?_) (fun h4=> ?_)
      · rw[if_neg (by omega)]
        exact Sq N k m (n / 2) _ _ hk' (by omega) (by omega) (by omega) (by omega)
      · rw[if_pos (by omega)]
        have e0:n / 2=0:=by omega
        rw[e0]
        have:=Sq N k m 0 (out*base) base (Nat.pow_pos (by decide)) (by omega) (by omega) (by omega) hb
        have e1:Jg k 0 (out*base) base=(out*base,0):=by cases k <;> simp[Jg]
        rw[e1]at this;exact this
    · rw[if_neg (show ¬ n % 2=1 by omega)]
      refine Ae (fun h3=>Ac (by rw[if_pos (by omega)];rfl)) (fun h3=>Bi (by decide) ?_)
      rw[if_neg (by omega)]
      refine Ae (fun h4=>Aa m2 ?_) (fun h4=> ?_)
      · rw[if_neg (by omega)]
        exact Sq N k m (n / 2) _ _ hk' (by omega) (by omega) (by omega) (by omega)
      · rw[if_pos (by omega)]
        have e0:n / 2=0:=by omega
        rw[e0]
        have:=Sq N k m 0 out base (Nat.pow_pos (by decide)) (by omega) (by omega) (by omega) hb
        have e1:Jg k 0 out base=(out,0):=by cases k <;> simp[Jg]
        rw[e1]at this;exact this
  · rw[if_pos (by omega)];rfl
theorem BC(a:Wh)(n:Int)(ha:a.mag.length≤100)(hn:n≤1000000):Sp 314 [dW a,.int n] (On (K7 (zv a) n)):=by
 refine Af 21 (AlF _ _ _) ?_
 simp only[Al,Ub]
 unfold K7
 refine Ae (fun h=>Ac (by rw[if_pos h];rfl)) (fun h=>Aa (So 1 (by unfold Bc;decide)) (Aa (BA a (by omega)) ?_))
 rw[if_neg h]
 obtain ⟨k,rfl⟩ : ∃ k:Nat,n=(k:Int):=⟨n.toNat,by omega⟩
 rw[Amj]
 have l1:Bs 1≤1:=A0.2 (by decide)
 have l2:Bs (zv a)≤100:=Nat.le_trans (He a) ha
 exact Sq 21 20 21 k 1 (zv a) (by omega) (by omega) (by omega) (by omega) l2
open Go.RowKit
theorem BT(n:Nat)(h:n<4294967296):Bm .and .u64 (n:Int) 4294967295=(n:Int):=by
 have e:(BitVec.ofInt 64 (n:Int)&&&BitVec.ofInt 64 4294967295).toNat=n:=by
  rw[BitVec.ofInt_natCast,show BitVec.ofInt 64 4294967295=Amt 64 4294967295 from rfl,BitVec.toNat_and,BitVec.toNat_ofNat,BitVec.toNat_ofNat,Am4 (show n<2 ^ 64 by omega)]
  show n&&&(2 ^ 32-1)=n
  rw[Nat.and_two_pow_sub_one_eq_mod];exact Am4 h
 show Al6 .u64 ((BitVec.ofInt 64 (n:Int)&&&BitVec.ofInt 64 4294967295).toNat:Int)=_
 rw[e]
 exact Bn (by omega) (by omega)
theorem AeV(y:Nat)(h:y<4294967296):Sp 271 [.int 1,.int (y:Int)] [.int 0,.int (y:Int)]:=by
 refine Af 0 (AbO _ _ _) ?_
 have p:(2:Int) ^ (min (Ama 32) (Aml .u64))=4294967296:=by decide
 have a1:Bm .and .u64 1 4294967295=1:=BT 1 (by decide)
 have a2:=BT y h
 have a3:Bm .and .u64 0 4294967295=0:=BT 0 (by decide)
 have d0:Am3 0 4294967296=0:=by decide
 have d1:Am3 1 4294967296=0:=by decide
 have d2:Am3 (y:Int) 4294967296=0:=by rw[Int.fdiv_eq_ediv_of_nonneg _ (by decide)];omega
 have w0:Al6 .u64 0=0:=by decide
 have w1:Al6 .u64 (y:Int)=(y:Int):=Bn (by omega) (by omega)
 simp only[Al,p,a1,a2,a3,d0,d1,d2,w0,w1,Int.zero_mul,Int.mul_zero,Int.one_mul,Int.zero_add,Int.add_zero]
 repeat (refine Ad ?_)
 exact Ac rfl
theorem AeY(y:Nat)(h:y<4294967296):Sp 231 [.int 1,.int (y:Int)] [.int 0,.int (y:Int)]:=by
 refine Af 0 (AbP _ _ _) ?_
 simp only[Al]
 refine Aa (AeV y h) (Ac ?_)
 simp only[Ag,Cm,Al]
theorem RN(y:Nat)(h:y<4294967296)(w:World):Calls Tryz.prog 231 #[.int .u64 1,.int .u64 y] w fun e w'=>e = .returned (.tuple #[.int .u64 0,.int .u64 y])∧Ext w w':=by
 have hps:Tryz.f231.params.toList = [190,190]:=by kernel_rfl
 have hrs:Tryz.f231.resultTypes.toList = [190,190]:=by kernel_rfl
 have ht:Tryz.prog.underlying 190=some (.int .u64):=by kernel_rfl
 have n1 : ∀ k:Nat,k<4294967296→Rd Tryz.prog md w (fun _=>False) (.ty 190) (.int (k:Int)) (.int .u64 (k:Int)):=fun k hk=>Ou ht (by kernel_rfl) (by kernel_rfl) (by show (0:Int)≤_;omega) (by show _≤(18446744073709551615:Int);omega)
 refine (JQ (vs:=[.int .u64 1,.int .u64 y]) (M:=fun _=>False) (AeY y h) Tryz.func231 (by kernel_rfl) (fun b hb=>hb.elim) (by kernel_rfl) (by kernel_rfl) (Oq hps (n1 1 (by decide)) (n1 y h))).mono ?_
 rintro e w' ⟨us,rfl,hl,hh,hx⟩
 have hl2:us.length=2:=by rw[hl];rfl
 match us,hl2 with
 | [u1,u2],_ =>
  obtain ⟨rfl,_⟩:=(hh 0 190 u1 (by rw[hrs];rfl) rfl).int ht
  obtain ⟨rfl,_⟩:=(hh 1 190 u2 (by rw[hrs];rfl) rfl).int ht
  exact ⟨rfl,hx⟩
theorem AaJ{P:Program}{w:World}{ops:Array Oper}{rest:List Oper}{o:Oper}{a:Act}{Q:Exit→Act→World→Prop}{t e:TypeId}{size bytes:Nat}(hE:Elt P t e size bytes)
  (hg:o.guard=none) (l c:Operand) (hop:o.op=Op.makeSlice t l c) {kl kc:IntKind} (n:Nat) {L C:Int} (hl:a.eval l = .int kl L) (hc:a.eval c = .int kc C) (hL:L=(n:Int)) (hC:C=(n:Int)) (hb:bytes*n≤281474976710656) (hm:n≤maxLen)
  (h : ∀ (G:Nat) (w':World) (X:List Value),w.heap.size≤G→Hid (w'.heap[G]? = some (.cells X.toArray e (0,0)))→X.length=n*size→Ext w w'→wpList P ops Q rest (a.put o.dst (.slice (some ⟨G,0,none⟩) n n)) w'):wpList P ops Q (o::rest) a w:=by
 subst hL
 subst hC
 obtain ⟨i,z,hi,hz,hsz,hby,hzc⟩:=hE.info
 have hbb:(i.bytes:Int)*(n:Int)≤281474976710656:=by
  have h:((i.bytes*n:Nat):Int)≤281474976710656:=by rw[hby];omega
  rwa[Int.natCast_mul]at h
 have h63:n≤9223372036854775807:=by unfold maxLen at hm;omega
 have hr:=run_make (P:=P) w t e i z hE.under hi hz kl kc n n (by omega) (by omega) hbb (by omega)
 simp only[Amj]at hr
 refine wpList_plain hg fun K hK'=> ?_
 unfold Oper.wp
 simp[execOp,hop,hl,hc,hr,Result.andThen]
 have hx:Ext w (w.alloc (.cells (madeCells z.cells (n*i.size)) e)):=(Ext.refl w).alloc _
 refine hK' _ _ (h w.heap.size _ (madeCells z.cells (n*i.size)).toList (Amo _) ?_ (by simp[size_madeCells,hsz]) hx)
 show _=_
 rw[Array.toArray_toList]
 exact heap_alloc_new w _
theorem Aag{x:Value}{cur:List Value}{k m:Nat}(h:cur.take k=Amc k x)(hk:k+m≤cur.length):(splice cur k (Amc m x)).take (k+m)=Amc (k+m) x∧(splice cur k (Amc m x)).length=cur.length:=by
 refine ⟨?_,length_splice _ _ _ (by simpa using hk)⟩
 unfold splice
 rw[h,← Amz,List.replicate_append_replicate,List.take_append_of_le_length (by simp),Am7 (by simp)]
theorem AkA{w w2:World}{A:Option Addr}{c:Nat}{z:Int}(h:SlI w (.slice A 1 c) .i64 [z])(hx:Ext w w2)(m:Nat)(hm:m≤1):0<(Amc m (Value.int .i64 z)).length→∃ ad,A=some ad∧∀ j v,(Amc m (Value.int .i64 z))[j]? = some v→w2.cell? (ad.add j)=some v:=by
 intro _
 obtain ⟨ad,rfl,hb,hc⟩:=(h.keep hx).cellAt 0 (by simp)
 refine ⟨ad,rfl,fun j v hv=> ?_⟩
 have hj:=(Ame.1 hv).1
 simp only[Anf]at hj
 have:j=0:=by omega
 subst this
 rw[List.getElem?_replicate,if_pos (by omega)]at hv
 cases hv
 exact hc
theorem AkC{w:World}{G k:Nat}{z:Int}{cur:List Value}{T:TypeId}(h:w.heap[G]? = some (.cells cur.toArray T (0,0)))(ht:cur.take k=Amc k (.int .i64 z))(m:Nat)(hm:m≤k)(hk:k≤cur.length) : ∀ j v,(Amc m (Value.int .i64 z))[j]? = some v→w.cell? ((⟨G,0,none⟩:Addr).add j)=some v:=by
 intro j v hv
 have hj:=(Ame.1 hv).1
 simp only[Anf]at hj
 rw[List.getElem?_replicate,if_pos hj]at hv
 cases hv
 have hcj:cur[j]? = some (.int .i64 z):=by
  have:=congrArg (fun l=>l[j]?) ht
  simp only[List.getElem?_take,List.getElem?_replicate]at this
  rw[if_pos (by omega),if_pos (by omega)]at this
  exact this
 have ea:(⟨G,0,none⟩:Addr).add j=⟨G,j,none⟩:=by unfold Addr.add;split <;> simp_all
 rw[ea]
 unfold World.cell?
 simp[h,hcj]
theorem AcI:Elt Tryz.prog 23 3 1 8 :=
 ⟨Tryz.underlying23,by
  obtain ⟨i,hi,h1,h2,h3⟩:=info_parts (P:=Tryz.prog) (e:=3) (z:= .int .i64 0) (size:=1) (bytes:=8) (by kernel_rfl)
  exact ⟨i,_,hi,h1,h2,h3,rfl⟩,by decide⟩
def RInv(w2:World)(G n:Nat)(z:Int)(iv:Value)(wr:World):Prop:=∃ (k:Nat) (cur:List Value),iv = .int .i64 k∧k≤n∧(0<n→0<k)∧cur.length=n∧cur.take k=Amc k (.int .i64 z)∧wr.heap[G]? = some (.cells cur.toArray 3 (0,0))∧Below G w2 wr
theorem RInv.start {w2 w3:World} {G n:Nat} {z:Int} {X:List Value} (hX:X.length=n*1) (h:w3.heap[G]? = some (.cells (splice X 0 (Amc (Nat.min 1 n) (.int .i64 z))).toArray 3 (0,0))) (hb:Below G w2 w3):RInv w2 G n z (.int .i64 ((Nat.min 1 n:Nat):Int)) w3:=by
 have h2:Nat.min 1 n≤n:=Nat.min_le_right 1 n
 have h3:Nat.min 1 n=if 1≤n then 1 else n:=Nat.min_def
 obtain ⟨s1,s2⟩:=Aag (x:= .int .i64 z) (cur:=X) (k:=0) (m:=Nat.min 1 n) rfl (by omega)
 rw[Anl]at s1
 exact ⟨Nat.min 1 n,_,rfl,h2,fun h=>by rw[h3];split <;> omega,by omega,s1,h,hb⟩
theorem RInv.next {w2 w4:World} {G n k:Nat} {z:Int} {cur:List Value} (hk:k<n) (hp:0<k) (hl:cur.length=n) (ht:cur.take k=Amc k (.int .i64 z)) (h:w4.heap[G]? = some (.cells (splice cur k (Amc (Nat.min k (n-k)) (.int .i64 z))).toArray 3 (0,0))) (hb:Below G w2 w4):RInv w2 G n z (.int .i64 ((k+Nat.min k (n-k):Nat):Int)) w4∧n-(k+Nat.min k (n-k))<n-k:=by
 have h3:Nat.min k (n-k)=if k≤n-k then k else n-k:=Nat.min_def
 have h4:0<Nat.min k (n-k)∧k+Nat.min k (n-k)≤n:=by rw[h3];split <;> omega
 obtain ⟨s1,s2⟩:=Aag (x:= .int .i64 z) (cur:=cur) (k:=k) (m:=Nat.min k (n-k)) ht (by omega)
 exact ⟨⟨_,_,rfl,h4.2,fun _=>by omega,by omega,s1,h,hb⟩,by omega⟩
def Abb(n:Nat)(z:Int)(w:World)(e:Ending)(w':World):Prop:=∃ G,e = .returned (.slice (some ⟨G,0,none⟩) n n)∧w.heap.size≤G∧SlI w' (.slice (some ⟨G,0,none⟩) n n) .i64 (Amc n z)∧Ext w w'
theorem AhA{w:World}{M:Nat→Prop}{v:Value}{l:List Int}(h:Rd Tryz.prog md w M (.ty 23) (dI l) v):SlI w v .i64 l:=by
 obtain ⟨h1,h2,h3⟩:=h
 have hc1:Tryz.prog.cellsOf 3=1:=by kernel_rfl
 unfold dI at h1
 cases h1 with
 | @sl _ e _ _ A cap bk off ht hc h4 h5 hA hh =>
  have he:e=3:=by
   have:Tryz.prog.underlying 23=some (.slice e):=ht
   rw[show Tryz.prog.underlying 23=some (.slice 3) by kernel_rfl]at this
   injection this with this;injection this with this;exact this.symm
  subst he
  have hv:v = .slice A (l.map D.int).length cap:=by
   have ha:C9 v=false:=by rw[h3];kernel_rfl
   rw[Hj ha]at hc
   simpa using hc
  refine ⟨A,cap,by rw[hv];simp,by simpa using h4,by simp,fun i x hx=> ?_⟩
  rw[Ams,Amq]at hx
  obtain ⟨b,hb,rfl⟩:=hx
  have hne:l.map D.int≠[]:=fun e=>by rw[List.map_eq_nil_iff.1 e]at hb;simp at hb
  obtain ⟨a1,a2,a3⟩:=hA hne
  have:=hh i (D.int b) (by rw[Ams,hb];rfl)
  rw[hc1]at this
  refine ⟨_,a1,a3,?_⟩
  cases this with
  | @int _ k _ _ ht' h1' h2' hc' =>
   have hk:k = .i64:=by
    have:Tryz.prog.underlying 3=some (.int k):=ht'
    rw[show Tryz.prog.underlying 3=some (.int .i64) by kernel_rfl]at this
    injection this with this;injection this with this;exact this.symm
   subst hk
   simp only[Nat.mul_one,Nat.add_zero]at hc'
   have ea:(⟨bk,off,none⟩:Addr).add i=⟨bk,off+i,none⟩:=by unfold Addr.add;split <;> simp_all
   rw[ea];exact hc'
theorem Ajl{w:World}{M:Nat→Prop}{G n c:Nat}{l:List Int}(h:SlI w (.slice (some ⟨G,0,none⟩) n c) .i64 l)(hc:c≤maxLen)(hG : ¬ M G)(hr : ∀ x∈l,Bc x):Rd Tryz.prog md w M (.ty 23) (dI l) (.slice (some ⟨G,0,none⟩) n c):=by
 obtain ⟨h1,h2⟩:=h.len
 have hc1:Tryz.prog.cellsOf 3=1:=by kernel_rfl
 refine ⟨.sl (e:=3) (A:=some ⟨G,0,none⟩) (cap:=c) (bk:=G) (off:=0) (by kernel_rfl) (by rw[h1,Amd];rfl) (by rw[Amd];omega) hc (fun hne=> ?_) (fun i x hx=> ?_),by kernel_rfl,by kernel_rfl⟩
 · have:0<l.length:=List.length_pos_iff.2 (fun e=>hne (by rw[e];rfl))
   obtain ⟨ad,ha,hb,_⟩:=h.cellAt 0 this
   cases ha
   exact ⟨rfl,hG,hb⟩
 · rw[Ams,Amq]at hx
   obtain ⟨b,hb,rfl⟩:=hx
   have hi:i<l.length:=(Ame.1 hb).1
   obtain ⟨ad,ha,_,hcell⟩:=h.cellAt i hi
   cases ha
   have ea:(⟨G,0,none⟩:Addr).add i=⟨G,0+i,none⟩:=by unfold Addr.add;split <;> simp_all
   rw[ea]at hcell
   have hx:l[i]=b:=(Ame.1 hb).2
   rw[hx]at hcell
   have:=hr b (Amh hb)
   exact .int (k:= .i64) (by kernel_rfl) this.1 this.2 (by rw[hc1];simpa using hcell)
theorem VD{w:World}{M:Nat→Prop}{v:Value}{n:Int}(h:Rd Tryz.prog md w M (.ty 3) (.int n) v):v = .int .i64 n∧Bc n:=by
 obtain ⟨h1,h2,h3⟩:=h
 have ha:C9 v=false:=by rw[h3];kernel_rfl
 cases h1 with
 | @int _ k _ _ ht h1' h2' hc' =>
  have hk:k = .i64:=by
   have:Tryz.prog.underlying 3=some (.int k):=ht
   rw[show Tryz.prog.underlying 3=some (.int .i64) by kernel_rfl]at this
   injection this with this;injection this with this;exact this.symm
  subst hk
  rw[Hj ha]at hc'
  exact ⟨by simpa using hc',h1',h2'⟩
theorem Yz{k n:Nat}(hk:k<n)(hn:n≤1000000):Al6 .i64 ((k:Int)+((Nat.min k (n-k):Nat):Int))=((k+Nat.min k (n-k):Nat):Int):=by
 have h2:Nat.min k (n-k)≤n-k:=Nat.min_le_right k (n-k)
 rw[At (by omega) (by omega)];omega
set_option maxHeartbeats 2000000 in
theorem Aja(A:Option Addr)(c n:Nat)(z:Int)(w:World)(hn:n≤1000000)(hs:SlI w (.slice A 1 c) .i64 [z]):Calls Tryz.prog 177 #[.slice A 1 c,.int .i64 n] w (Abb n z w):=by
 have HS:=Lib.hid hs
 have hc1:=hs.len.2
 clear hs
 have hu:Tryz.prog.underlying 23=some (.slice 3):=by kernel_rfl
 have hz:(Tryz.prog.info? 3).map (·.size)=some 1:=by kernel_rfl
 have HU:=Lib.hid hu
 have HZ:=Lib.hid hz
 clear hu hz
 go_enter Tryz.func177,Tryz.ntmps177
 go_wp2_with (first
  | (go_at_call 231;refine (RN n (by omega) _).mono ?_;rintro e w1 ⟨rfl,hx1⟩)
  | (at_make;refine AaJ AcI rfl _ _ rfl n rfl rfl (by omega) (by omega) (by omega) (by unfold maxLen;omega) ?_;intro G w2 X hG HG hX hx2;have HX:=Lib.hid hX;clear hX)
  | (refine wpList_copy_splice rfl (.tmp 31) (.tmp 32) 23 23 rfl 3 HU.out HZ.out (some ⟨G,0,none⟩) A n n 1 c (by simp[Act.eval,Act.put]) (by simp[Act.eval,Act.put]) G 0 X 3 HG.out (Amc (Nat.min 1 n) (.int .i64 z)) (by simp) (fun hp=>⟨rfl,AkA HS.out (hx1.trans hx2) _ (Nat.min_le_left _ _) hp⟩) (by have h1:=HX.out;have h2:Nat.min 1 n≤n:=Nat.min_le_right 1 n;simp only[Anf];omega) (by intro v hv;rw[List.eq_of_mem_replicate hv];rfl) G w2 (Below.refl _ _) (Amo _) ?_;intro w3 HG3 hb3))
 go_loopw [8] (RInv w2 G n z) (fun iv _=>n-(intOf iv).toNat)
 case atStart=>exact RInv.start HX.out HG3.out hb3
 case round =>
  obtain ⟨k,cur,rfl,hk,hp,hl,ht,hh,hb⟩:=hrel
  have HT:=Lib.hid ht
  have HH:=Lib.hid hh
  have HB:=Lib.hid hb
  have HL:=Lib.hid hl
  clear ht hh hb hl
  by_cases hlt:k<n
  · have hpk:0<k:=hp (by omega)
    clear hp
    have HNE:=Lib.hid (show (if n=k then some (⟨G,0,none⟩:Addr) else some ⟨G,k,none⟩)=some ⟨G,k,none⟩ from if_neg (by omega))
    have HSR:=Lib.hid (AkC (w:=wr.drew) HH.out HT.out (Nat.min k (n-k)) (Nat.min_le_left _ _) (by have:=HL.out;omega))
    go_wp2_with fail
    go_region_law (refine step_copy_splice rfl (.tmp 41) (.tmp 44) 23 23 rfl 3 HU.out HZ.out (if n=k then some ⟨G,0,none⟩ else some ⟨G,k,none⟩) (some ⟨G,0,none⟩) (n-k) (n-k) k n (by simp[Act.eval,Act.put]) (by simp[Act.eval,Act.put]) G k cur 3 HH.out (Amc (Nat.min k (n-k)) (.int .i64 z)) (by simp) (fun _=>⟨HNE.out,_,rfl,HSR.out⟩) (by have h1:=HL.out;have h2:Nat.min k (n-k)≤n-k:=Nat.min_le_right k (n-k);simp only[Anf];omega) (by intro v hv;rw[List.eq_of_mem_replicate hv];rfl) G w2 HB.out.drew (Amo _) ?_;intro w4 HG4 hb4)
    go_wp2
    go_roundw
    case rel =>
     rw[Yz hlt (by omega)]
     exact (RInv.next hlt hpk HL.out HT.out HG4.out hb4).1
    case measure =>
     rw[Yz hlt (by omega)]
     exact (RInv.next hlt hpk HL.out HT.out HG4.out hb4).2
  · have hkn:k=n:=by omega
    subst hkn
    go_wp2_with fail
    go_ret
    have hh:=HH.out
    have hcur:cur=(Amc k z).map (.int .i64):=by
     have h1:=HT.out
     rw[Am7 (by have:=HL.out;omega)]at h1
     rw[h1];simp
    rw[hcur]at hh
    exact ⟨G,rfl,Nat.le_trans hx1.size hG,SlI.made hh (by simp) (Amo _),Below.trans (hx1.trans hx2) (Below.mono HB.out (Nat.le_trans hx1.size hG))⟩
theorem XG(n:Nat)(z:Int)(hn:n≤1000000)(hz:Bc z):Sp 177 [dI [z],.int (n:Int)] [dI (Amc n z)]:=by
 refine AJ Kk Tryz.func177 (by kernel_rfl) (by kernel_rfl) (by kernel_rfl) (fun w M vs hM _ hlv hrd=> ?_)
 have hps:Tryz.f177.params.toList = [23,3]:=by kernel_rfl
 have hlen:vs.length=2:=by rw[hlv];rfl
 match vs,hlen with
 | [va,vb],_ =>
  rw[hps]at hrd
  have hs:=AhA (hrd 0 _ _ _ rfl rfl rfl)
  obtain ⟨rfl,_⟩:=VD (hrd 1 _ _ _ rfl rfl rfl)
  obtain ⟨A,c,rfl,_,_⟩:=hs.form
  refine (Aja A c n z w hn hs).mono ?_
  rintro e w' ⟨G,rfl,hG,hv,hx⟩
  refine ⟨[_],rfl,rfl,fun i t u ht hu=> ?_,hx⟩
  rw[show Tryz.f177.resultTypes.toList = [23] by kernel_rfl]at ht
  match i with
  | 0=>cases ht;cases hu;exact Ajl hv (by unfold maxLen;omega) (fun hm=>by have:=hM G hm;omega) (fun x hx=>by rw[List.eq_of_mem_replicate hx];exact hz)
  | i+1=>simp at ht
end Go.Proofs.YtokkbgpgaheakaaGreat
namespace Go.Proofs.YtokkbgpgaheakaaGreat
def Tx:List (Nat×Orc):=[(7,⟨[(2,none),(3,none),(4,none),(5,none),(7,some 23),(8,none),(26,some 23),(27,none),(28,none)],[(2,true),(3,true),(4,false),(5,false),(8,false)],[(.fld 8 [0],1070,3),(.fld 8 [1],1071,3)]⟩)]
noncomputable def Pz(n m7:Nat)(s7 t26:D)(t27 t28:Int)(nn2 a3:D)(r4_0 e5:Int)(w8_0 w8_1:List D):Tree :=
 lA (eA Tx n 39 [1,1,1,1,1,0,1,0,0]) (Ak Tx 7) m7 ⟨(.undef:: .undef:: .ptr 2 []:: .ptr 3 []:: .ptr 4 []:: .ptr 5 []:: .undef:: .d 23 s7:: .ptr 8 []::uA 17++(.d 23 t26:: .i .i64 t27:: .i .i64 t28::uA 47)),[(2,.var 26 (.d 26 nn2) true),(3,.var 26 (.d 26 a3) true),(4,.var 26 (.agg 26 [.i .u64 r4_0,.mt,.mt]) true),(5,.var 29 (.i .i64 e5) true),(8,.var 99 (.agg 99 [.row 1070,.row 1071]) true),(1070,.row 3 w8_0 true),(1071,.row 3 w8_1 true)],[2,3,4,5,8,1070,1071],[(97,[.ptr 4 [],.ptr 5 []])],[]⟩
  (Ai 0 (Am (jA Tx n 39 [1,1,1,1,1,1]) (rA 39 [26,26] [.cell 4 26,.cell 5 29] [26,29])))
theorem MS(n m7:Nat)(s7 t26:D)(t27 t28:Int)(nn2 a3:D)(r4_0 e5:Int)(w8_0 w8_1:List D):Pz n (m7+1) s7 t26 t27 t28 nn2 a3 r4_0 e5 w8_0 w8_1 =
 bK (t28<t27) (kK (0≤t28) (kK (t28<(t26.els.length:Int)) (cK 100 [D.int ((t26.els.getD (Ama t28) D.nil).toInt)] fun Y3 =>
 kK (0≤t28) (kK (t28<(w8_1.length:Int)) (bK (((t26.els.getD (Ama t28) D.nil).toInt)<0) (kK (0≤t28) (kK (t28<(s7.els.length:Int)) (kK (0≤t28) (kK (t28<((w8_1.set (Ama t28) (D.int ((qA Y3).toInt))).length:Int)) (kK (0≤t28) (kK (t28<(w8_0.length:Int)) (Pz n m7 s7 t26 t27 (Al6 .i64 (t28+1)) nn2 a3 r4_0 e5 (w8_0.set (Ama t28) (D.int (Al6 .i64 (((s7.els.getD (Ama t28) D.nil).toInt)-(((w8_1.set (Ama t28) (D.int ((qA Y3).toInt))).getD (Ama t28) D.nil).toInt))))) (w8_1.set (Ama t28) (D.int ((qA Y3).toInt))))))))))
 (Pz n m7 s7 t26 t27 (Al6 .i64 (t28+1)) nn2 a3 r4_0 e5 w8_0 (w8_1.set (Ama t28) (D.int ((qA Y3).toInt)))))))))
 (cK 81 [D.sl w8_1] fun Y4 =>
 .br (((qB Y4).toInt)!=0) (.ret [D.agg [D.int 0,D.sl [],D.sl []],D.int ((qB Y4).toInt)])
 (cK 102 [D.agg [D.sl w8_0,D.sl w8_1],a3,s7,D.int ((qA Y4).toInt)] fun Y5 =>
 cK 101 [nn2,a3,D.sl w8_1,qA Y5] fun Y6 =>
 .ret [qA Y6,D.int 0])):=by kernel_rfl
theorem Acq(n:Nat)(nn0 a1:D):fA Tx n 39 [] [nn0,a1] =
 cK 98 [nn0,a1] fun Y1 =>
 .br (((qC Y1).toInt)!=0) (.ret [D.agg [D.int 0,D.sl [],D.sl []],D.int ((qC Y1).toInt)])
 (cK 99 [qB Y1] fun Y2 =>
 Pz n n (qB Y1) (qA Y1) (((qA Y1).els).length:Int) 0 nn0 a1 0 ((qC Y1).toInt) (((qA Y2).fld 0).els) (((qA Y2).fld 1).els)):=by kernel_rfl
def Tv:List (Nat×Orc):=[(7,⟨[(2,none),(3,none),(4,none),(5,none),(7,some 23),(8,none),(27,some 23),(28,none),(29,none)],[(2,true),(3,true),(4,false),(5,false),(8,false)],[(.fld 8 [0],1070,3),(.fld 8 [1],1071,3)]⟩)]
noncomputable def Py(n m7:Nat)(s7 t27:D)(t28 t29:Int)(nn2 a3:D)(r4_0 e5:Int)(w8_0 w8_1:List D):Tree :=
 lA (eA Tv n 40 [1,1,1,1,1,0,1,0,0]) (Ak Tv 7) m7 ⟨(.undef:: .undef:: .ptr 2 []:: .ptr 3 []:: .ptr 4 []:: .ptr 5 []:: .undef:: .d 23 s7:: .ptr 8 []::uA 18++(.d 23 t27:: .i .i64 t28:: .i .i64 t29::uA 49)),[(2,.var 26 (.d 26 nn2) true),(3,.var 26 (.d 26 a3) true),(4,.var 26 (.agg 26 [.i .u64 r4_0,.mt,.mt]) true),(5,.var 29 (.i .i64 e5) true),(8,.var 99 (.agg 99 [.row 1070,.row 1071]) true),(1070,.row 3 w8_0 true),(1071,.row 3 w8_1 true)],[2,3,4,5,8,1070,1071],[(103,[.ptr 4 [],.ptr 5 []])],[]⟩
  (Ai 0 (Am (jA Tv n 40 [1,1,1,1,1,1]) (rA 40 [26,26] [.cell 4 26,.cell 5 29] [26,29])))
theorem MR(n m7:Nat)(s7 t27:D)(t28 t29:Int)(nn2 a3:D)(r4_0 e5:Int)(w8_0 w8_1:List D):Py n (m7+1) s7 t27 t28 t29 nn2 a3 r4_0 e5 w8_0 w8_1 =
 bK (t29<t28) (kK (0≤t29) (kK (t29<(t27.els.length:Int)) (cK 100 [D.int ((t27.els.getD (Ama t29) D.nil).toInt)] fun Y3 =>
 kK (0≤t29) (kK (t29<(s7.els.length:Int)) (kK (0≤t29) (kK (t29<(s7.els.length:Int)) (kK (0≤t29) (kK (t29<(w8_1.length:Int)) (bK (0<((t27.els.getD (Ama t29) D.nil).toInt)) (kK (0≤t29) (kK (t29<(w8_0.length:Int)) (Py n m7 s7 t27 t28 (Al6 .i64 (t29+1)) nn2 a3 r4_0 e5 (w8_0.set (Ama t29) (D.int (if ((s7.els.getD (Ama t29) D.nil).toInt)<((qA Y3).toInt) then ((s7.els.getD (Ama t29) D.nil).toInt) else ((qA Y3).toInt)))) (w8_1.set (Ama t29) (D.int (Al6 .i64 (((s7.els.getD (Ama t29) D.nil).toInt)-(if ((s7.els.getD (Ama t29) D.nil).toInt)<((qA Y3).toInt) then ((s7.els.getD (Ama t29) D.nil).toInt) else ((qA Y3).toInt)))))))))
 (Py n m7 s7 t27 t28 (Al6 .i64 (t29+1)) nn2 a3 r4_0 e5 w8_0 (w8_1.set (Ama t29) (D.int (Al6 .i64 (((s7.els.getD (Ama t29) D.nil).toInt)-(if ((s7.els.getD (Ama t29) D.nil).toInt)<((qA Y3).toInt) then ((s7.els.getD (Ama t29) D.nil).toInt) else ((qA Y3).toInt))))))))))))))))
 (cK 81 [D.sl w8_1] fun Y4 =>
 .br (((qB Y4).toInt)!=0) (.ret [D.agg [D.int 0,D.sl [],D.sl []],D.int ((qB Y4).toInt)])
 (cK 102 [D.agg [D.sl w8_0,D.sl w8_1],a3,s7,D.int ((qA Y4).toInt)] fun Y5 =>
 cK 101 [nn2,a3,D.sl w8_1,qA Y5] fun Y6 =>
 .ret [qA Y6,D.int 0])):=by kernel_rfl
theorem Aco(n:Nat)(nn0 a1:D):fA Tv n 40 [] [nn0,a1] =
 cK 98 [nn0,a1] fun Y1 =>
 .br (((qC Y1).toInt)!=0) (.ret [D.agg [D.int 0,D.sl [],D.sl []],D.int ((qC Y1).toInt)])
 (cK 99 [qB Y1] fun Y2 =>
 Py n n (qB Y1) (qA Y1) (((qA Y1).els).length:Int) 0 nn0 a1 0 ((qC Y1).toInt) (((qA Y2).fld 0).els) (((qA Y2).fld 1).els)):=by kernel_rfl
theorem Acr(n:Nat)(nn0 a1:D):fA [] n 98 [] [nn0,a1] =
 cK 80 [nn0] fun Y1 =>
 .br (((qB Y1).toInt)!=0) (.ret [D.sl [],D.sl [],D.int ((qB Y1).toInt)])
 (bK (0<(((a1.fld 1).els).length:Int)) (bK ((((a1.fld 1).els).length:Int)<(((qA Y1).els).length:Int)) (.ret [D.sl [],D.sl [],D.int 4])
 (cK 96 [a1.fld 1] fun Y2 =>
 .ret [qA Y1,D.sl ((qA Y2).els),D.int 0]))
 (bK (6<(((qA Y1).els).length:Int)) (.ret [D.sl [],D.sl [],D.int 7])
 (cK 177 [D.sl [D.int 1],D.int (((qA Y1).els).length:Int)] fun Y3 =>
 .ret [qA Y1,qA Y3,D.int 0]))):=by kernel_rfl
theorem Acu(n:Nat)(s0:D):fA [] n 99 [] [s0] =
 kK (0≤(s0.els.length:Int)) (kK ((s0.els.length:Int)≤(s0.els.length:Int)) (kK ((s0.els.length:Int)≤Aj) (cK 96 [s0] fun Y1 =>
 .ret [D.agg [D.sl (Amc (Ama (s0.els.length:Int)) (D.int 0)),D.sl ((qA Y1).els)]]))):=by kernel_rfl
theorem Acs(n:Nat)(k0:D):fA [] n 100 [] [k0] =
 bK (2049<k0.toInt) (.ret [D.int 2049])
 (bK (k0.toInt<(-2049)) (.ret [D.int 2049])
 (.ret [D.int (if k0.toInt<(Al6 .i64 (0-k0.toInt)) then (Al6 .i64 (0-k0.toInt)) else k0.toInt)])):=by kernel_rfl
theorem Acx(n:Nat)(nn0 a1:D)(s2 cells3:D):fA [] n 101 [] [nn0,a1,s2,cells3] =
 cK 84 [nn0] fun Y1 =>
 cK 83 [D.int ((a1.fld 0).toInt),D.int ((qA Y1).toInt)] fun Y2 =>
 .ret [D.agg [D.int ((qA Y2).toInt),s2,cells3]]:=by kernel_rfl
def Gs:List (Nat×Orc):=[(4,⟨[(2,some 23),(4,none),(5,none),(9,none),(10,none),(21,none),(22,none)],[(4,true),(5,true),(9,true)],[(.slot 10,1040,67)]⟩),(8,⟨[(2,some 23),(4,none),(5,none),(9,none),(10,none),(12,none),(21,none),(22,none),(33,none),(34,none)],[(4,true),(5,true),(9,true)],[(.slot 10,1080,67),(.slot 12,1081,3)]⟩)]
def CX:List Nat:=[99,26,23,3]
noncomputable def Ty(n m4 m8:Nat)(s2:D)(r10 at12:List D)(t21 t22:Int)(t33 t34:Int)(w4 a5 fill9:D):Tree :=
 lA (eA Gs n 102 [1,1,1,0,1,0,0,1,1,0,0,1,1,0,1,0,0]) (Ak Gs 8) m8 ⟨(.undef:: .undef:: .d 23 s2:: .undef:: .ptr 4 []:: .ptr 5 []::uA 3++(.ptr 9 []:: .row 1080:: .undef:: .row 1081::uA 8++(.i .i64 t21:: .i .i64 t22::uA 10++(.i .i64 t33:: .i .i64 t34::uA 35)))),[(4,.var 99 (.d 99 w4) true),(5,.var 26 (.d 26 a5) true),(9,.var 67 (.d 67 fill9) true),(1080,.row 67 r10 true),(1081,.row 3 at12 true)],[4,5,9,1080,1081],[],[]⟩
  (Ai 2 (Am (jA Gs n 102 [1,1,1,0,1,0,0,1,1,0,0,1,1,1]) (Ai 1 (Am (jA Gs n 102 [1,1,1,0,1,0,0,1,1,1]) (Fa Tryz.prog md (Ak Gs 4) (fun s1=>lA (eA Gs n 102 [1,1,1,0,1,0,0]) (Ak Gs 4) m4 s1 (Ai 0 (Am (jA Gs n 102 [1,1,1,1]) (rA 102 CX [.tmp 8] [24])))) (Ai 0 (Am (jA Gs n 102 [1,1,1,1]) (rA 102 CX [.tmp 8] [24]))))))))
noncomputable def Kv(n m4:Nat)(s2:D)(r10:List D)(t21 t22:Int)(w4 a5 fill9:D):Tree :=
 lA (eA Gs n 102 [1,1,1,0,1,0,0]) (Ak Gs 4) m4 ⟨(.undef:: .undef:: .d 23 s2:: .undef:: .ptr 4 []:: .ptr 5 []::uA 3++(.ptr 9 []:: .row 1040::uA 10++(.i .i64 t21:: .i .i64 t22::uA 47))),[(4,.var 99 (.d 99 w4) true),(5,.var 26 (.d 26 a5) true),(9,.var 67 (.d 67 fill9) true),(1040,.row 67 r10 true)],[4,5,9,1040],[],[]⟩
  (Ai 0 (Am (jA Gs n 102 [1,1,1,1]) (rA 102 CX [.tmp 8] [24])))
theorem MY(n m4 m8:Nat)(s2:D)(r10 at12:List D)(t21 t22:Int)(t33 t34:Int)(w4 a5 fill9:D):Ty n m4 (m8+1) s2 r10 at12 t21 t22 t33 t34 w4 a5 fill9 =
 bK (t34<t33) (kK (0≤t34) (kK (t34<(at12.length:Int)) (kK (0≤t34) (kK (t34<(((w4.fld 0).els).length:Int)) (kK (0≤t34) (kK (t34<(at12.length:Int)) (Ty n m4 m8 s2 r10 (at12.set (Ama t34) (D.int (Al6 .i64 (((at12.getD (Ama t34) D.nil).toInt)+((((w4.fld 0).els).getD (Ama t34) D.nil).toInt))))) t21 t22 t33 (Al6 .i64 (t34+1)) w4 a5 fill9)))))))
 (cK 176 [s2,D.sl at12] fun Y3 =>
 .br ((qB Y3).toBool) (kK (0≤(qA Y3).toInt) (kK ((qA Y3).toInt<(((a5.fld 2).els).length:Int)) (kK (r10.length + [((a5.fld 2).els).getD (Ama ((qA Y3).toInt)) D.nil].length≤Aj) (Kv n m4 s2 (r10++[((a5.fld 2).els).getD (Ama ((qA Y3).toInt)) D.nil]) t21 (Al6 .i64 (t22+1)) w4 a5 fill9))))
 (kK (r10.length + [fill9].length≤Aj) (Kv n m4 s2 (r10++[fill9]) t21 (Al6 .i64 (t22+1)) w4 a5 fill9))):=by kernel_rfl
theorem MX(n m4:Nat)(s2:D)(r10:List D)(t21 t22:Int)(w4 a5 fill9:D):Kv n (m4+1) s2 r10 t21 t22 w4 a5 fill9 =
 bK (t22<t21) (cK 175 [w4.fld 1,D.int t22] fun Y2 =>
 Ty n m4 n s2 r10 ((qA Y2).els) t21 t22 (((qA Y2).els).length:Int) 0 w4 a5 fill9)
 (.ret [D.sl r10]):=by kernel_rfl
theorem Acy(n:Nat)(w0 a1:D)(s2 count3:D):fA Gs n 102 [] [w0,a1,s2,count3] =
 cK 82 [a1] fun Y1 =>
 kK (0≤0) (kK (0≤count3.toInt) (kK (count3.toInt≤Aj) (Kv n n s2 (Amc (Ama 0) (D.agg [D.int 0,D.int 0,D.agg [D.bool false,D.sl [],D.sl []],D.int 0,D.sl []])) count3.toInt 0 w0 a1 (qA Y1)))):=by kernel_rfl
def Lt:List Int→Int→List Int
 | [],_=>[]
 | x::xs,n=>Int.tmod n x::Lt xs (Int.tdiv n x)
def Ix(s:List Int)(n:Int):List Int:=(Lt s.reverse n).reverse
theorem NG : ∀ (l:List Int) (n:Int),(Lt l n).length=l.length
 | [],_=>rfl
 | x::xs,n=>by simp[Lt,NG xs]
theorem M_(s:List Int)(n:Int):(Ix s n).length=s.length:=by simp[Ix,NG]
def I_:List Int→List Int→Int→Option Int
 | [],_,o=>some o
 | _::_,[],_=>none
 | x::xs,a::as_,o=>if a<0∨x≤a then none else I_ xs as_ (Al6 .i64 (Al6 .i64 (o*x)+a))
def G4(s at_:List Int):Option Int:=if (A5 s).2=0∧at_.length=s.length then I_ s at_ 0 else none
theorem PI : ∀ {s at_:List Int} {o:Int},(0:Int)∈s→I_ s at_ o=none
 | x::xs,[],o,_=>rfl
 | x::xs,a::as_,o,h=>by
  simp only[I_]
  split
  · rfl
  · rename_i hc
    rcases Amw.1 h with h | h
    · subst h;omega
    · exact PI h
theorem AgV{x:Int}{xs:List Int}{p:Int}(h:Bd (x::xs) p≠0):p*x≤2048∧Bd xs (p*x)≠0:=by
 rw[Mm]at h
 split at h
 · exact absurd rfl h
 · exact ⟨by omega,h⟩
theorem PH : ∀ {s at_:List Int} {o p k:Int},(∀ x∈s,1≤x∧x≤2048)→0≤o→o<p→p≤2048→Bd s p≠0→I_ s at_ o=some k→0≤k∧k<Bd s p
 | [],at_,o,p,k,_,h0,h1,_,_,h=>by
  simp only[I_,Amk]at h
  subst h
  exact ⟨h0,h1⟩
 | x::xs,[],o,p,k,_,_,_,_,_,h=>by simp[I_]at h
 | x::xs,a::as_,o,p,k,hx,h0,h1,h2,hp,h=>by
  simp only[I_]at h
  split at h
  · cases h
  · rename_i hc
    have hxx:=hx x (by simp)
    obtain ⟨q1,q2⟩:=AgV hp
    have m1:(o+1)*x≤p*x:=Int.mul_le_mul_of_nonneg_right (by omega) (by omega)
    have m2:0≤o*x:=Int.mul_nonneg h0 (by omega)
    rw[Int.add_mul,Int.one_mul]at m1
    rw[At (x:=o*x) (by omega) (by omega),At (by omega) (by omega)]at h
    have:=PH (s:=xs) (p:=p*x) (fun y hy=>hx y (by simp[hy])) (by omega) (by omega) q1 q2 h
    rw[Mm,if_neg (by omega)]
    exact this
theorem I3{s:List Int}{c:Int}(h:A5 s=(c,0)):s.length≤6∧(((0:Int)∈s∧c=0)∨((∀ x∈s,1≤x∧x≤2048)∧Bd s 1=c∧c≠0)):=by
 unfold A5 at h
 split at h
 · cases h
 split at h
 · cases h
 split at h
 · cases h
 · rename_i h1 h2 h3
   refine ⟨by omega,?_⟩
   split at h
   · rename_i h4
     obtain ⟨x,hx,h5⟩:=List.any_eq_true.1 h4
     have:x=0:=by simpa using h5
     subst this
     exact .inl ⟨hx,by injection h with h;exact h.symm⟩
   · rename_i h4
     split at h
     · cases h
     · rename_i h5
       injection h with h
       exact .inr ⟨Tt h2 h3 h4,h,by omega⟩
theorem PG{s at_:List Int}{c k:Int}(hc:A5 s=(c,0))(h:G4 s at_=some k):0≤k∧k<c:=by
 unfold G4 at h
 split at h
 · rcases (I3 hc).2 with ⟨h0,_⟩ | ⟨h1,h2,h3⟩
   · rw[PI h0]at h;cases h
   · rw[← h2]
     exact PH h1 (by omega) (by omega) (by omega) (by rw[h2];exact h3) h
 · cases h
theorem KJ{k:Nat}(h:k≤9223372036854775807):Al6 .i64 ((k:Int)-1)=(k:Int)-1:=At (by omega) (by omega)
theorem EG{l:List Int}{k:Nat}{x:Int}(h:l[k]? = some x):l.take (k+1)=l.take k++[x]:=by
 rw[List.take_add_one,h];rfl
theorem Gz{l:List Int}{i:Nat}(h:i<l.length):(l.map D.int).getD i D.nil=D.int (l.getD i 0):=by
 rw[As (Amb h),Amf,Amb h];rfl
def M9(s:List Int)(n:Int):List D:=if (A5 s).2=0∧0≤n∧n<(A5 s).1 then [dI (Ix s n),.bool true] else [.sl [],.bool false]
theorem AcE(out:List Int)(k:Nat)(v:Int)(h:k<out.length):(out.set k v).drop k=v::out.drop (k+1):=by
 rw[Am2 (by simpa using h)]
 simp[List.drop_set]
theorem ZE(s:List Int)(n:Int):Sp 175 [dI s,.int n] (M9 s n):=by
 refine Af (s.length+1) (AjM _ _ _) (Aa (Mv s) ?_)
 unfold M9
 simp only[Ah]
 refine Ae (fun h=>Ac (by rw[if_neg (fun hh=>h hh.1)])) (fun h=>Ae (fun h1=>Ac (by rw[if_neg (by omega)])) (fun h1=>Ae (fun h2=>Ac (by rw[if_neg (by omega)])) (fun h2=> ?_)))
 have hc0:(A5 s).2=0:=Amn.1 h
 rw[if_pos ⟨hc0,by omega,by omega⟩]
 obtain ⟨c1,c2⟩:=I3 (s:=s) (c:=(A5 s).1) (by rw[← hc0])
 have hpos : ∀ x∈s,1≤x∧x≤2048:=by
  rcases c2 with ⟨_,c2⟩ | ⟨c2,_⟩
  · omega
  · exact c2
 have hle:=(F5 s).2
 refine Ad (Ad (Ax (by simp only[Aj];omega) ?_))
 have key:=Ii (P:=Tryz.prog) (md:=md) (fun m k (st:Int×List Int)=>Zs (s.length+1) m (dI s) st.1 (st.2.map D.int) ((k:Int)-1)) (fun k st=>[dI ((Lt (s.take k).reverse st.1).reverse++st.2.drop k),.bool true]) (fun k st=>k≤s.length∧st.2.length=s.length∧0≤st.1∧st.1≤2048)
  (fun m st hI=>by
   simp only[ZD]
   refine Aq (Ac ?_)
   simp[Lt,dI])
  (fun m k st hI ih=>by
   obtain ⟨i1,i2,i3,i4⟩:=hI
   have hg:s[k]? = some s[k]:=Amb (by omega)
   have hx:=hpos _ (Amh hg)
   generalize s[k]=x at hg hx
   have e:((k+1:Nat):Int)-1=(k:Int):=by omega
   have m1:0≤Int.tdiv st.1 x:=Int.tdiv_nonneg i3 (by omega)
   have m2:Int.tdiv st.1 x≤st.1:=by rw[Int.tdiv_eq_ediv_of_nonneg i3];exact Int.ediv_le_self _ i3
   simp only[ZD,Ah,e,As hg]
   have hb:(!decide (x=0))=true:=by simp;omega
   rw[KJ (by omega),At (x:=Int.tdiv st.1 x) (by omega) (by omega)]
   refine Ad (Ad (Ad (Ad (Ad (Ad (Ad (Ad (Ad ?_))))))))
   have:=ih (Int.tdiv st.1 x,st.2.set k (Int.tmod st.1 x)) ⟨by omega,by simpa using i2,m1,by omega⟩
   rw[List.map_set]at this
   refine Tree.wp_mono this (fun ys hy=>hy.trans ?_)
   simp only
   rw[AcE _ _ _ (by omega),EG hg,List.reverse_append,List.reverse_cons,List.reverse_nil,Anm,List.singleton_append,Lt,List.reverse_cons]
   simp)
  (s.length+1) s.length (n,Amc s.length 0) (by omega) ⟨by omega,by simp,by omega,by omega⟩
 rw[KJ (by omega)]
 have e2:Amc s.length (D.int 0)=(Amc s.length (0:Int)).map D.int:=by simp
 rw[e2]
 refine Tree.wp_mono key (fun ys hy=>hy.trans ?_)
 simp[Ix]
def Qo(o:Option Int):List D:=match o with | some k=>[.int k,.bool true] | none=>[.int 0,.bool false]
theorem ZG(s at_:List Int)(hl:at_.length≤1000000):Sp 176 [dI s,dI at_] (Qo (G4 s at_)):=by
 refine Af (s.length+1) (AjQ _ _ _) (Aa (Mv s) ?_)
 unfold G4
 simp only[Ah]
 refine Ae (fun h=>Ac (by rw[if_neg (fun hh=>h hh.1)];rfl)) (fun h=>Ae (fun h1=>Ac (by rw[if_neg (by omega)];rfl)) (fun h1=> ?_))
 rw[if_pos ⟨Amn.1 h,by omega⟩]
 have key:=B3 s (fun m k (o:Int)=>Zu (s.length+1) m (dI at_) o (dI s) (s.length:Int) (k:Int)) (fun rest o=>Qo (I_ rest (at_.drop (s.length-rest.length)) o)) (fun _ _=>True)
  (fun m k o hk _=>by
   simp only[ZF]
   exact Aq (Ac rfl))
  (fun m k o x rest hdr _ ih=>by
   obtain ⟨h4,h2,h3⟩:=Bx hdr
   have hle:=congrArg List.length hdr
   rw[Amp,Amg]at hle
   have hg:at_[k]? = some at_[k]:=Amb (by omega)
   have hd:at_.drop k=at_[k]::at_.drop (k+1):=Am2 (by omega)
   generalize at_[k]=a at hg hd
   rw[show s.length-(x::rest).length=k by rw[Amg];omega,hd]
   have ih':=fun o'=>ih o' trivial
   rw[show s.length-rest.length=k+1 by omega]at ih'
   simp only[ZF,Ah,As h2,As hg,Bb k,I_]
   refine Ad (Ad (Ad (Ad (Ad (Ae (fun g=>Ac (by rw[if_pos (.inl g)];rfl)) (fun g=>Ad (Ad (Ae (fun g2=>Ac (by rw[if_pos (.inr g2)];rfl)) (fun g2=>Ad (Ad ?_))))))))))
   rw[if_neg (by omega)]
   exact ih' _)
  (s.length+1) 0 0 (by omega) (by omega) trivial
 simpa using key
def F9(k:Int):Int:=if 2049<k then 2049 else if k < -2049 then 2049 else if k<0-k then 0-k else k
theorem OX(k:Int):0≤F9 k∧F9 k≤2049:=by
 unfold F9;split;· omega
 split;· omega
 split <;> omega
def Cj(n a:Arr):List Int×List Int×Int :=
 if (A8 n).2=0 then (if 0<a.shape.length then (if a.shape.length<(A8 n).1.length then ([],[],4) else ((A8 n).1,a.shape,0)) else if 6<(A8 n).1.length then ([],[],7) else ((A8 n).1,Amc (A8 n).1.length 1,0)) else ([],[],(A8 n).2)
def I8:List Int→List Int→List Int
 | k::l,x::s=>(if k<0 then x-F9 k else 0)::I8 l s
 | _,s=>Amc s.length 0
def Jn:List Int→List Int→List Int
 | k::l,_::s=>F9 k::Jn l s
 | _,s=>s
def J_(k x:Int):Int:=if x<F9 k then x else F9 k
def I7:List Int→List Int→List Int
 | k::l,x::s=>(if 0<k then J_ k x else 0)::I7 l s
 | _,s=>Amc s.length 0
def Jm:List Int→List Int→List Int
 | k::l,x::s=>(x-J_ k x)::Jm l s
 | _,s=>s
theorem OM : ∀ l s,(I8 l s).length=s.length
 | k::l,x::s=>by simp[I8,OM l s]
 | [],s=>by simp[I8]
 | k::l,[]=>by simp[I8]
theorem JL : ∀ l s,(Jn l s).length=s.length
 | k::l,x::s=>by simp[Jn,JL l s]
 | [],s=>by simp[Jn]
 | k::l,[]=>by simp[Jn]
theorem OL : ∀ l s,(I7 l s).length=s.length
 | k::l,x::s=>by simp[I7,OL l s]
 | [],s=>by simp[I7]
 | k::l,[]=>by simp[I7]
theorem JK : ∀ l s,(Jm l s).length=s.length
 | k::l,x::s=>by simp[Jm,JK l s]
 | [],s=>by simp[Jm]
 | k::l,[]=>by simp[Jm]
def Hf:List Int→List Int→List Int
 | a::as_,f::fs=>Al6 .i64 (a+f)::Hf as_ fs
 | _,_=>[]
theorem KT : ∀ a f,a.length≤f.length→(Hf a f).length=a.length
 | a::as_,f::fs,h=>by simp[Hf,KT as_ fs (by simpa using h)]
 | [],f,h=>by simp[Hf]
 | a::as_,[],h=>by simp at h
def JC(cs:List Cell)(fill:Cell)(s from_ size:List Int)(i:Nat):Cell:=match G4 s (Hf (Ix size (i:Int)) from_) with
 | some k=>cs.getD k.toNat fill
 | none=>fill
def Jk(a:Arr)(s from_ size:List Int)(K:Nat):List Cell:=(Am9 K).map (JC a.cells (Cu a) s from_ size)
def J3(n a:Arr)(s from_ size:List Int):Arr×Int:=if (A5 size).2=0 then (.mk (a.s|||Av n) size (Jk a s from_ size (A5 size).1.toNat),0) else (.none,(A5 size).2)
def AL(n a:Arr):Arr×Int:=if (Cj n a).2.2=0 then J3 n a (Cj n a).2.1 (I8 (Cj n a).1 (Cj n a).2.1) (Jn (Cj n a).1 (Cj n a).2.1) else (.none,(Cj n a).2.2)
def Ue(n a:Arr):Arr×Int:=if (Cj n a).2.2=0 then J3 n a (Cj n a).2.1 (I7 (Cj n a).1 (Cj n a).2.1) (Jm (Cj n a).1 (Cj n a).2.1) else (.none,(Cj n a).2.2)
theorem LZ{n a:Arr}(h:(Cj n a).2.2=0)(ha:a.shape.length≤6):(Cj n a).1.length≤(Cj n a).2.1.length∧(Cj n a).2.1.length≤6:=by
 unfold Cj at h ⊢
 split at h
 · rename_i h1
   rw[if_pos h1]
   split at h
   · rename_i h2
     rw[if_pos h2]
     split at h
     · cases h
     · rename_i h3;rw[if_neg h3];simp only;omega
   · rename_i h2
     rw[if_neg h2]
     split at h
     · cases h
     · rename_i h3;rw[if_neg h3];simp only[Anf];omega
 · rename_i h1;exact absurd h h1
theorem Ack : ∀ k:Nat,k≤6→A5 (Amc k 1)=(1,0):=by decide
theorem LY{n a:Arr}(h:(Cj n a).2.2=0)(ha:A5 a.shape=((a.cells.length:Int),0)):A5 (Cj n a).2.1=((a.cells.length:Int),0):=by
 unfold Cj at h ⊢
 split at h
 · rename_i h1
   rw[if_pos h1]
   split at h
   · rename_i h2
     rw[if_pos h2]
     split at h
     · cases h
     · rename_i h3;rw[if_neg h3];exact ha
   · rename_i h2
     rw[if_neg h2]
     split at h
     · cases h
     · rename_i h3
       rw[if_neg h3]
       simp only
       rw[Ack _ (by omega)]
       have:a.shape = []:=Am1.1 (by omega)
       rw[this]at ha
       have e:A5 []=(1,0):=by decide
       rw[e]at ha
       exact ha
 · rename_i h1;exact absurd h h1
theorem MV(k:Int):Sp 100 [.int k] [.int (F9 k)]:=by
 refine Af 0 (Acs _ _) ?_
 unfold F9
 simp only[Ah]
 refine Ae (fun h=>Ac (by rw[if_pos h])) (fun h=>Ae (fun h1=>Ac (by rw[if_neg h,if_pos h1])) (fun h1=>Ac ?_))
 rw[if_neg h,if_neg h1]
 have e:Al6 .i64 (0-k)=0-k:=At (by omega) (by omega)
 simp only[Al,e]
theorem MT(n a:Arr)(hn:Fits n)(hnl:n.cells.length≤2048)(hnt : ∀ c∈n.cells,c.n.top.length≤32)(ha:a.shape.length≤1048576):Sp 98 [dA n,dA a] [dI (Cj n a).1,dI (Cj n a).2.1,.int (Cj n a).2.2]:=by
 refine Af 0 (Acr _ _ _) (Aa (J0 n hnl hnt) ?_)
 unfold Cj
 simp only[Ah]
 refine Ae (fun h=>Ac (by rw[if_neg h];rfl)) (fun h=> ?_)
 rw[if_pos (Amn.1 h)]
 refine Ae (fun h1=> ?_) (fun h1=> ?_)
 · rw[if_pos (by omega)]
   refine Ae (fun h2=>Ac (by rw[if_pos (by omega)];rfl)) (fun h2=> ?_)
   rw[if_neg (by omega)]
   exact Aa (I0 a.shape ha) (Ac rfl)
 · rw[if_neg (by omega)]
   refine Ae (fun h2=>Ac (by rw[if_pos (by omega)];rfl)) (fun h2=> ?_)
   rw[if_neg (by omega)]
   exact Aa (XG (A8 n).1.length 1 (by omega) (Ez (by decide) (by decide))) (Ac rfl)
theorem MW(s:List Int)(h:s.length≤1048576):Sp 99 [dI s] [.agg [dI (Amc s.length 0),dI s]]:=by
 refine Af 0 (Acu _ _) ?_
 simp only[Ah]
 refine Ad (Ad (Ax (by simp only[Aj];omega) (Aa (I0 s h) (Ac ?_))))
 simp[dI]
theorem Acw(n a:Arr)(s:List Int)(cs:List Cell)(hn:Fits n):Sp 101 [dA n,dA a,dI s,.sl (cs.map dC)] [dA (.mk (a.s|||Av n) s cs)]:=by
 refine Af 0 (Acx _ _ _ _ _) (Aa (Es n hn) ?_)
 simp only[Ah]
 refine Aa (Gb a.s (Av n)) (Ac ?_)
 simp only[Ah]
 rw[Dn];rfl
theorem Abd(pre:List Int)(x f:Int)(rest frest:List Int):pre++Hf (x::rest) (f::frest)=(pre++[Al6 .i64 (x+f)])++Hf rest frest:=by simp[Hf]
theorem Acv(a:Arr)(s from_ size:List Int)(ha:A5 s=((a.cells.length:Int),0))(hl:from_.length=size.length)(hs:size.length≤1000)(hc:(A5 size).2=0):Sp 102 [.agg [dI from_,dI size],dA a,dI s,.int (A5 size).1] [.sl ((Jk a s from_ size (A5 size).1.toNat).map dC)]:=by
 have hk:=F5 size
 generalize hK:(A5 size).1=kz at *
 obtain ⟨K,rfl⟩ : ∃ K:Nat,kz=(K:Int):=⟨kz.toNat,by omega⟩
 refine Af 2049 (Acy _ _ _ _ _) (Aa (S7 a) ?_)
 simp only[Ah]
 refine Ad (Ad (Ax (by simp only[Aj];omega) ?_))
 have key:=Cw K (fun m k (out:List Cell)=>Kv 2049 m (dI s) (out.map dC) (K:Int) (k:Int) (.agg [dI from_,dI size]) (dA a) (dC (Cu a))) (fun _ _=>[.sl ((Jk a s from_ size K).map dC)]) (fun k out=>out=Jk a s from_ size k)
  (fun m out hI=>by
   simp only[MX]
   exact Aq (Ac (by rw[hI])))
  (fun m k out hkK hI ih=>by
   have hol:out.length=k:=by rw[hI];simp[Jk]
   have hat:M9 size (k:Int) = [dI (Ix size (k:Int)),.bool true]:=by unfold M9;rw[if_pos ⟨hc,by omega,by rw[hK];omega⟩]
   have hsp:=ZE size (k:Int)
   rw[hat]at hsp
   simp only[MX,J6,J7]
   refine Ad (Aa hsp ?_)
   simp only[Ah,M_]
   have fin : ∀ at2:List Int,at2=Hf (Ix size (k:Int)) from_→Tw (.call 176 [] [dI s,dI at2] fun Y3 =>
     .br ((qB Y3).toBool) (.br (decide (0≤(qA Y3).toInt)) (.br (decide ((qA Y3).toInt<((((dA a).fld 2).els).length:Int))) (.br (decide ((out.map dC).length + [(((dA a).fld 2).els).getD (Ama ((qA Y3).toInt)) D.nil].length≤Aj)) (Kv 2049 m (dI s) ((out.map dC)++[(((dA a).fld 2).els).getD (Ama ((qA Y3).toInt)) D.nil]) (K:Int) (Al6 .i64 ((k:Int)+1)) (.agg [dI from_,dI size]) (dA a) (dC (Cu a))) .fail) .fail) .fail)
       (.br (decide ((out.map dC).length + [dC (Cu a)].length≤Aj)) (Kv 2049 m (dI s) ((out.map dC)++[dC (Cu a)]) (K:Int) (Al6 .i64 ((k:Int)+1)) (.agg [dI from_,dI size]) (dA a) (dC (Cu a))) .fail)) [.sl ((Jk a s from_ size K).map dC)]:=by
    intro at2 hat2
    have hlen2:at2.length≤1000000:=by rw[hat2,KT _ _ (by rw[M_];omega),M_];omega
    refine Aa (ZG s at2 hlen2) ?_
    have nxt : ∀ c:Cell,c=JC a.cells (Cu a) s from_ size k→Tw (Kv 2049 m (dI s) ((out.map dC)++[dC c]) (K:Int) ((k+1:Nat):Int) (.agg [dI from_,dI size]) (dA a) (dC (Cu a))) [.sl ((Jk a s from_ size K).map dC)]:=by
     intro c hcc
     have:=ih (out++[c]) (by rw[hI,hcc];simp[Jk,List.range_succ])
     rw[List.map_append]at this
     exact this
    rw[Bb k]
    have hsc:JC a.cells (Cu a) s from_ size k=match G4 s at2 with | some k=>a.cells.getD k.toNat (Cu a) | none=>Cu a:=by rw[hat2];rfl
    cases hi:G4 s at2 with
    | none =>
     rw[hi]at hsc
     simp only[Qo,Ah]
     exact D6 rfl (Ax (by simp only[Amg,Amu,Aj];omega) (nxt _ hsc.symm))
    | some j =>
     have hj:=PG ha hi
     obtain ⟨J,rfl⟩ : ∃ J:Nat,j=(J:Int):=⟨j.toNat,by omega⟩
     rw[hi]at hsc
     simp only[Qo,Ah]
     have hcj:(a.cells.map dC).getD J D.nil=dC (a.cells.getD J (Cu a)):=by
       rw[As (Amb (by omega)),Amf,Amb (by omega)];rfl
     rw[hcj]
     exact Bi rfl (Ad (Ad (Ax (by simp only[Amg,Amu,Aj];omega) (nxt _ (by rw[hsc];rfl)))))
   have inner:=Cw size.length (fun m' j (at2:List Int)=>Ty 2049 m m' (dI s) (out.map dC) (at2.map D.int) (K:Int) (k:Int) (size.length:Int) (j:Int) (.agg [dI from_,dI size]) (dA a) (dC (Cu a))) (fun _ _=>[.sl ((Jk a s from_ size K).map dC)])
    (fun j at2=>at2.length=size.length∧at2.take j++Hf (at2.drop j) (from_.drop j)=Hf (Ix size (k:Int)) from_)
    (fun m' at2 hI'=>by
     simp only[MY]
     refine Aq (fin at2 ?_)
     rw[← hI'.2,Am7 (by omega),List.drop_of_length_le (by omega)]
     simp[Hf])
    (fun m' j at2 hj hI' ih'=>by
     have h1:at2[j]? = some at2[j]:=Amb (by omega)
     have h2:from_[j]? = some from_[j]:=Amb (by omega)
     simp only[MY,Ah,J6,As h1,As h2,Bb j]
     refine Ad (Ad (Ad (Ad (Ad (Ad (Ad ?_))))))
     have:=ih' (at2.set j (Al6 .i64 (at2[j]+from_[j]))) ⟨by simpa using hI'.1,?_⟩
     · rw[List.map_set]at this
       exact this
     · have e1:at2.drop j=at2[j]::at2.drop (j+1):=Am2 (by omega)
       have e2:from_.drop j=from_[j]::from_.drop (j+1):=Am2 (by omega)
       have h3:=hI'.2
       rw[e1,e2,Abd]at h3
       rw[← h3,List.drop_set_of_lt (by omega),List.take_set,EG h1]
       congr 1
       rw[List.set_append_right _ _ (by simp;omega)]
       simp[Nat.min_eq_left (show j≤at2.length by omega)])
    2049 0 (Ix size (k:Int)) (by omega) (by omega) ⟨M_ _ _,by simp⟩
   exact inner)
  2049 0 [] (by omega) (by omega) (by simp[Jk])
 exact key
theorem JF{α:Type}(pre:List α)(a b:α)(r:List α):(pre++a::r).set pre.length b=pre++b::r:=by
 rw[List.set_append_right _ _ (Amo _),Nat.sub_self];rfl
theorem EH{α:Type}(pre:List α)(a:α)(r:List α):(pre++a::r)[pre.length]? = some a:=by
 rw[List.getElem?_append_right (Amo _),Nat.sub_self];rfl
theorem MU(n a:Arr)(s from_ size:List Int)(hn:Fits n)(ha:A5 s=((a.cells.length:Int),0))(hl:from_.length=size.length)(hs:size.length≤1000) :
  Tw (.call 81 [] [D.sl (size.map D.int)] fun Y4 =>
   .br (((qB Y4).toInt)!=0) (.ret [D.agg [D.int 0,D.sl [],D.sl []],D.int ((qB Y4).toInt)])
   (.call 102 [] [D.agg [D.sl (from_.map D.int),D.sl (size.map D.int)],dA a,dI s,D.int ((qA Y4).toInt)] fun Y5 =>
   .call 101 [] [dA n,dA a,D.sl (size.map D.int),qA Y5] fun Y6 =>
   .ret [qA Y6,D.int 0])) [dA (J3 n a s from_ size).1,.int (J3 n a s from_ size).2]:=by
 refine Aa (Mv size) ?_
 unfold J3
 simp only[Ah,Cr]
 refine Ae (fun h=>Ac (by rw[if_neg h])) (fun h=> ?_)
 have h0:(A5 size).2=0:=Amn.1 h
 rw[if_pos h0]
 refine Aa (Acv a s from_ size ha hl hs h0) ?_
 exact Aa (Acw n a size _ hn) (Ac rfl)
structure WinI (F G:List Int→List Int→List Int) (l s:List Int) (rest w0 w1:List Int):Prop where
 h : ∃ spre pre0 pre1 srest,s=spre++srest∧spre.length=pre0.length∧pre1.length=pre0.length∧pre0.length+rest.length=l.length∧rest.length≤srest.length∧w0=pre0++Amc srest.length 0∧w1=pre1++srest∧F l s=pre0++F rest srest∧G l s=pre1++G rest srest
theorem WinI.start {F G:List Int→List Int→List Int} {l s:List Int} (h:l.length≤s.length):WinI F G l s l (Amc s.length 0) s :=
 ⟨[],[],[],s,rfl,rfl,rfl,by simp,h,rfl,rfl,rfl,rfl⟩
theorem WinI.stop {F G:List Int→List Int→List Int} {l s w0 w1:List Int} (h:WinI F G l s [] w0 w1) (hF : ∀ x,F [] x=Amc x.length 0) (hG : ∀ x,G [] x=x):w0=F l s∧w1=G l s:=by
 obtain ⟨spre,pre0,pre1,srest,h1,h2,h3,h4,h5,h6,h7,h8,h9⟩:=h.h
 rw[h8,h9,hF,hG,h6,h7];exact ⟨rfl,rfl⟩
theorem WinI.next {F G:List Int→List Int→List Int} {l s w0 w1 rest:List Int} {x:Int} {k:Nat} (h:WinI F G l s (x::rest) w0 w1) (hk:l.drop k=x::rest) {f g:Int→Int→Int} (hF : ∀ x l y s,F (x::l) (y::s)=f x y::F l s) (hG : ∀ x l y s,G (x::l) (y::s)=g x y::G l s) :
  ∃ y,s[k]? = some y∧w1[k]? = some y∧w0[k]? = some 0∧w0.length=w1.length∧k<w1.length∧w1.length=s.length∧WinI F G l s rest (w0.set k (f x y)) (w1.set k (g x y))∧(f x y=0→w0.set k (f x y)=w0):=by
 obtain ⟨spre,pre0,pre1,srest,h1,h2,h3,h4,h5,h6,h7,h8,h9⟩:=h.h
 match srest,h5 with
 | y::srest,h5 =>
  have hle:=congrArg List.length hk
  rw[Amp,Amg]at hle
  rw[Amg]at h4
  have e0:k=pre0.length:=by omega
  have e1:k=pre1.length:=by omega
  have e2:k=spre.length:=by omega
  have hz:w0=pre0++0::Amc srest.length 0:=by rw[h6,Amg,List.replicate_succ]
  refine ⟨y,by rw[h1,e2];exact EH _ _ _,by rw[h7,e1];exact EH _ _ _,by rw[hz,e0];exact EH _ _ _,by rw[h6,h7];simp;omega,by rw[h7];simp;omega,by rw[h1,h7];simp;omega,⟨spre++[y],pre0++[f x y],pre1++[g x y],srest,by rw[h1];simp,by simp[h2],by simp[h3],by simp;omega,by simpa using h5,?_,?_,by rw[h8,hF];simp,by rw[h9,hG];simp⟩,fun h0=>by rw[h0,hz,e0,JF]⟩
  · rw[hz,e0,JF];simp
  · rw[h7,e1,JF];simp
theorem Acp(n a:Arr)(hn:Fits n)(hnl:n.cells.length≤2048)(hnt : ∀ c∈n.cells,c.n.top.length≤32)(ha:A5 a.shape=((a.cells.length:Int),0)):Sp 39 [dA n,dA a] [dA (AL n a).1,.int (AL n a).2]:=by
 have hsh:=Gr (l:=a.shape) (by rw[ha])
 have hax:=LZ (n:=n) (a:=a)
 have hac:=LY (n:=n) (a:=a)
 refine Af 4096 (Acq _ _ _) (Aa (MT n a hn hnl hnt (by omega)) ?_)
 have hll:(Cj n a).2.2=0→(Cj n a).1.length≤(Cj n a).2.1.length∧(Cj n a).2.1.length≤6:=fun h=>hax h hsh.1
 unfold AL
 generalize Cj n a=ax at *
 obtain ⟨l,s,e⟩:=ax
 simp only[Ah,U_,Cr]
 refine Ae (fun h=>Ac (by rw[if_neg h])) (fun h=> ?_)
 have he:e=0:=Amn.1 h
 subst he
 rw[if_pos rfl]
 obtain ⟨l1,l2⟩:=hll rfl
 have hcs:=hac rfl ha
 simp only at l1 l2 hcs
 have hsl:=Gr (l:=s) (by rw[hcs])
 refine Aa (MW s (by omega)) ?_
 simp only[Ah,J6,J7]
 have key:=B3 l (fun m k (w:List Int×List Int)=>Pz 4096 m (dI s) (dI l) (l.length:Int) (k:Int) (dA n) (dA a) 0 0 (w.1.map D.int) (w.2.map D.int)) (fun _ _=>[dA (J3 n a s (I8 l s) (Jn l s)).1,.int (J3 n a s (I8 l s) (Jn l s)).2]) (fun rest w=>WinI I8 Jn l s rest w.1 w.2)
  (fun m k w hk hI=>by
   obtain ⟨e1,e2⟩:=hI.stop (fun x=>by simp[I8]) (fun x=>by simp[Jn])
   simp only[MS]
   rw[e1,e2]
   exact Aq (MU n a s _ _ hn hcs (by rw[OM,JL]) (by rw[JL];omega)))
  (fun m k w x rest hdr hI ih=>by
   obtain ⟨h1,h2,h3⟩:=Bx hdr
   obtain ⟨y,g1,g2,g3,g4,g5,g6,g7,g8⟩:=hI.next hdr (f:=fun x y=>if x<0 then y-F9 x else 0) (g:=fun x _=>F9 x) (fun _ _ _ _=>rfl) (fun _ _ _ _=>rfl)
   have hy:=hsl.2 y (Amh g1)
   have hg:=OX x
   have hih:=ih (_,_) g7
   simp only[List.map_set]at hih
   have hgs:((w.2.map D.int).set k (D.int (F9 x))).getD k D.nil=D.int (F9 x):=by
     rw[Amf,List.getElem?_set_self (by simpa using g5)];rfl
   simp only[MS,Ah,As h2,As g1,Bb k,List.length_set]
   refine Ad (Ad (Ad (Aa (MV x) ?_)))
   simp only[Ah]
   rw[hgs]
   simp only[Al]
   refine Ad (Ad (Ae (fun hx=> ?_) (fun hx=> ?_)))
   · refine Ad (Ad (Ad (Ad (Ad (Ad ?_)))))
     rw[At (x:=y-F9 x) (by omega) (by omega)]
     rw[if_pos hx]at hih
     exact hih
   · rw[if_neg hx]at hih g8
     have e0:(w.1.map D.int).set k (D.int 0)=w.1.map D.int:=by rw[← List.map_set,g8 rfl]
     rw[e0]at hih
     exact hih)
  4096 0 (Amc s.length 0,s) (by omega) (by omega) (WinI.start l1)
 exact key
theorem Acn(n a:Arr)(hn:Fits n)(hnl:n.cells.length≤2048)(hnt : ∀ c∈n.cells,c.n.top.length≤32)(ha:A5 a.shape=((a.cells.length:Int),0)):Sp 40 [dA n,dA a] [dA (Ue n a).1,.int (Ue n a).2]:=by
 have hsh:=Gr (l:=a.shape) (by rw[ha])
 have hax:=LZ (n:=n) (a:=a)
 have hac:=LY (n:=n) (a:=a)
 refine Af 4096 (Aco _ _ _) (Aa (MT n a hn hnl hnt (by omega)) ?_)
 have hll:(Cj n a).2.2=0→(Cj n a).1.length≤(Cj n a).2.1.length∧(Cj n a).2.1.length≤6:=fun h=>hax h hsh.1
 unfold Ue
 generalize Cj n a=ax at *
 obtain ⟨l,s,e⟩:=ax
 simp only[Ah,U_,Cr]
 refine Ae (fun h=>Ac (by rw[if_neg h])) (fun h=> ?_)
 have he:e=0:=Amn.1 h
 subst he
 rw[if_pos rfl]
 obtain ⟨l1,l2⟩:=hll rfl
 have hcs:=hac rfl ha
 simp only at l1 l2 hcs
 have hsl:=Gr (l:=s) (by rw[hcs])
 refine Aa (MW s (by omega)) ?_
 simp only[Ah,J6,J7]
 have key:=B3 l (fun m k (w:List Int×List Int)=>Py 4096 m (dI s) (dI l) (l.length:Int) (k:Int) (dA n) (dA a) 0 0 (w.1.map D.int) (w.2.map D.int)) (fun _ _=>[dA (J3 n a s (I7 l s) (Jm l s)).1,.int (J3 n a s (I7 l s) (Jm l s)).2]) (fun rest w=>WinI I7 Jm l s rest w.1 w.2)
  (fun m k w hk hI=>by
   obtain ⟨e1,e2⟩:=hI.stop (fun x=>by simp[I7]) (fun x=>by simp[Jm])
   simp only[MR]
   rw[e1,e2]
   exact Aq (MU n a s _ _ hn hcs (by rw[OL,JK]) (by rw[JK];omega)))
  (fun m k w x rest hdr hI ih=>by
   obtain ⟨h1,h2,h3⟩:=Bx hdr
   obtain ⟨y,g1,g2,g3,g4,g5,g6,g7,g8⟩:=hI.next hdr (f:=fun x y=>if 0<x then J_ x y else 0) (g:=fun x y=>y-J_ x y) (fun _ _ _ _=>rfl) (fun _ _ _ _=>rfl)
   have hy:=hsl.2 y (Amh g1)
   have hg:=OX x
   have ho:0≤J_ x y∧J_ x y≤2048:=by unfold J_;split <;> omega
   have hih:=ih (_,_) g7
   simp only[List.map_set]at hih
   simp only[MR,Ah,As h2,As g1,Bb k,List.length_set]
   refine Ad (Ad (Ad (Aa (MV x) ?_)))
   have ew:Al6 .i64 (y-J_ x y)=y-J_ x y:=At (by omega) (by omega)
   simp only[Ah]
   refine Ad (Ad (Ad (Ad (Ad (Ad (Ae (fun hx=> ?_) (fun hx=> ?_)))))))
   · refine Ad (Ad ?_)
     rw[if_pos hx,← ew]at hih
     exact hih
   · rw[if_neg hx]at hih g8
     have e0:(w.1.map D.int).set k (D.int 0)=w.1.map D.int:=by rw[← List.map_set,g8 rfl]
     rw[e0,← ew]at hih
     exact hih)
  4096 0 (Amc s.length 0,s) (by omega) (by omega) (WinI.start l1)
 exact key
theorem AdJ(n:Nat)(a0 b1 first2:D):fA [] n 36 [] [a0,b1,first2] =
 cK 86 [a0,b1,D.bool first2.toBool] fun Y1 =>
 .br (((qB Y1).toInt)!=0) (.ret [D.agg [D.int 0,D.sl [],D.sl []],D.int ((qB Y1).toInt)])
 (cK 87 [qA Y1] fun Y2 =>
 .br (((qB Y2).toInt)!=0) (.ret [D.agg [D.int 0,D.sl [],D.sl []],D.int ((qB Y2).toInt)])
 (cK 83 [D.int ((a0.fld 0).toInt),D.int ((b1.fld 0).toInt)] fun Y3 =>
 cK 88 [qA Y1,qA Y2] fun Y4 =>
 .ret [D.agg [D.int ((qA Y3).toInt),qA Y2,qA Y4],D.int 0])):=by kernel_rfl
theorem AdL(n:Nat)(a0:D):fA [] n 58 [] [a0] =
 bK (0<(((a0.fld 1).els).length:Int)) (cK 140 [a0.fld 1,D.int 0] fun Y1 =>
 kK (((a0.fld 2).els).length≤Aj) (.ret [D.agg [D.int ((a0.fld 0).toInt),D.sl [D.int ((qB Y1).toInt),D.int ((qC Y1).toInt)],D.sl ((a0.fld 2).els)]]))
 (kK (((a0.fld 2).els).length≤Aj) (.ret [D.agg [D.int ((a0.fld 0).toInt),D.sl [D.int 1,D.int 1],D.sl ((a0.fld 2).els)]])):=by kernel_rfl
theorem AdN(n:Nat)(a0 b1 first2:D):fA [] n 86 [] [a0,b1,first2] =
 .br first2.toBool (cK 172 [a0,b1.fld 1,D.int (if (if (((a0.fld 1).els).length:Int)<(((b1.fld 1).els).length:Int) then (((b1.fld 1).els).length:Int) else (((a0.fld 1).els).length:Int))<1 then 1 else (if (((a0.fld 1).els).length:Int)<(((b1.fld 1).els).length:Int) then (((b1.fld 1).els).length:Int) else (((a0.fld 1).els).length:Int))),D.int 0] fun Y1 =>
 .br (!((qB Y1).toBool)) (.ret [D.agg [D.agg [D.sl [],D.sl [],D.bool false],D.agg [D.sl [],D.sl [],D.bool false],D.int 0],D.int 5])
 (cK 172 [b1,a0.fld 1,D.int (if (if (((a0.fld 1).els).length:Int)<(((b1.fld 1).els).length:Int) then (((b1.fld 1).els).length:Int) else (((a0.fld 1).els).length:Int))<1 then 1 else (if (((a0.fld 1).els).length:Int)<(((b1.fld 1).els).length:Int) then (((b1.fld 1).els).length:Int) else (((a0.fld 1).els).length:Int))),D.int 0] fun Y2 =>
 .br (!((qB Y2).toBool)) (.ret [D.agg [D.agg [D.sl [],D.sl [],D.bool false],D.agg [D.sl [],D.sl [],D.bool false],D.int 0],D.int 5])
 (.ret [D.agg [qA Y1,qA Y2,D.int 0],D.int 0])))
 (cK 172 [a0,b1.fld 1,D.int (if (if (((a0.fld 1).els).length:Int)<(((b1.fld 1).els).length:Int) then (((b1.fld 1).els).length:Int) else (((a0.fld 1).els).length:Int))<1 then 1 else (if (((a0.fld 1).els).length:Int)<(((b1.fld 1).els).length:Int) then (((b1.fld 1).els).length:Int) else (((a0.fld 1).els).length:Int))),D.int (Al6 .i64 ((if (if (((a0.fld 1).els).length:Int)<(((b1.fld 1).els).length:Int) then (((b1.fld 1).els).length:Int) else (((a0.fld 1).els).length:Int))<1 then 1 else (if (((a0.fld 1).els).length:Int)<(((b1.fld 1).els).length:Int) then (((b1.fld 1).els).length:Int) else (((a0.fld 1).els).length:Int)))-1))] fun Y3 =>
 .br (!((qB Y3).toBool)) (.ret [D.agg [D.agg [D.sl [],D.sl [],D.bool false],D.agg [D.sl [],D.sl [],D.bool false],D.int 0],D.int 5])
 (cK 172 [b1,a0.fld 1,D.int (if (if (((a0.fld 1).els).length:Int)<(((b1.fld 1).els).length:Int) then (((b1.fld 1).els).length:Int) else (((a0.fld 1).els).length:Int))<1 then 1 else (if (((a0.fld 1).els).length:Int)<(((b1.fld 1).els).length:Int) then (((b1.fld 1).els).length:Int) else (((a0.fld 1).els).length:Int))),D.int (Al6 .i64 ((if (if (((a0.fld 1).els).length:Int)<(((b1.fld 1).els).length:Int) then (((b1.fld 1).els).length:Int) else (((a0.fld 1).els).length:Int))<1 then 1 else (if (((a0.fld 1).els).length:Int)<(((b1.fld 1).els).length:Int) then (((b1.fld 1).els).length:Int) else (((a0.fld 1).els).length:Int)))-1))] fun Y4 =>
 .br (!((qB Y4).toBool)) (.ret [D.agg [D.agg [D.sl [],D.sl [],D.bool false],D.agg [D.sl [],D.sl [],D.bool false],D.int 0],D.int 5])
 (.ret [D.agg [qA Y3,qA Y4,D.int (Al6 .i64 ((if (if (((a0.fld 1).els).length:Int)<(((b1.fld 1).els).length:Int) then (((b1.fld 1).els).length:Int) else (((a0.fld 1).els).length:Int))<1 then 1 else (if (((a0.fld 1).els).length:Int)<(((b1.fld 1).els).length:Int) then (((b1.fld 1).els).length:Int) else (((a0.fld 1).els).length:Int)))-1))],D.int 0]))):=by kernel_rfl
def Vx:List (Nat×Orc):=[(2,⟨[(1,none),(12,some 23),(13,none),(14,none)],[(1,true)],[]⟩)]
noncomputable def Nz(n m2:Nat)(t12:D)(t13 t14:Int)(p1:D):Tree :=
 lA (eA Vx n 87 [1,0,1,0,0]) (Ak Vx 2) m2 ⟨(.undef:: .ptr 1 []::uA 10++(.d 23 t12:: .i .i64 t13:: .i .i64 t14::uA 52)),[(1,.var 86 (.d 86 p1) true)],[1],[],[]⟩
  (Ai 0 (Am (jA Vx n 87 [1,1]) (rA 87 [86] [.tmp 2,.tmp 3] [23,29])))
theorem PV(n m2:Nat)(t12:D)(t13 t14:Int)(p1:D):Nz n (m2+1) t12 t13 t14 p1 =
 bK (t14<t13) (kK (0≤t14) (kK (t14<(t12.els.length:Int)) (.br (t14 != ((p1.fld 2).toInt)) (kK (0≤t14) (kK (t14<((((p1.fld 1).fld 0).els).length:Int)) (.br (((t12.els.getD (Ama t14) D.nil).toInt)!=(((((p1.fld 1).fld 0).els).getD (Ama t14) D.nil).toInt)) (.ret [D.sl [],D.int 4])
 (Nz n m2 t12 t13 (Al6 .i64 (t14+1)) p1))))
 (Nz n m2 t12 t13 (Al6 .i64 (t14+1)) p1))))
 (kK (0≤(p1.fld 2).toInt) (kK ((p1.fld 2).toInt<((((p1.fld 0).fld 0).els).length:Int)) (kK (0≤(p1.fld 2).toInt) (kK ((p1.fld 2).toInt<((((p1.fld 1).fld 0).els).length:Int)) (cK 173 [(p1.fld 0).fld 0,D.int ((p1.fld 2).toInt),D.int (Al6 .i64 ((((((p1.fld 0).fld 0).els).getD (Ama ((p1.fld 2).toInt)) D.nil).toInt)+(((((p1.fld 1).fld 0).els).getD (Ama ((p1.fld 2).toInt)) D.nil).toInt)))] fun Y1 =>
 cK 81 [qA Y1] fun Y2 =>
 .br (((qB Y2).toInt)!=0) (.ret [D.sl [],D.int ((qB Y2).toInt)])
 (.ret [qA Y1,D.int 0])))))):=by kernel_rfl
theorem AdQ(n:Nat)(p0:D):fA Vx n 87 [] [p0] =
 Nz n n ((p0.fld 0).fld 0) ((((p0.fld 0).fld 0).els).length:Int) 0 p0:=by kernel_rfl
def Vw:List (Nat×Orc):=[(5,⟨[(2,none),(9,none),(10,none),(11,none),(46,none),(47,none)],[(2,true)],[(.slot 11,1050,67)]⟩)]
noncomputable def Vv(n m5:Nat)(one9 other10:Int)(r11:List D)(t46 t47:Int)(p2:D):Tree :=
 lA (eA Vw n 88 [1,1,1,1,0,1,0,0]) (Ak Vw 5) m5 ⟨(.undef:: .undef:: .ptr 2 []::uA 6++(.i .i64 one9:: .i .i64 other10:: .row 1050::uA 34++(.i .i64 t46:: .i .i64 t47::uA 16))),[(2,.var 86 (.d 86 p2) true),(1050,.row 67 r11 true)],[2,1050],[],[]⟩
  (Ai 0 (Am (jA Vw n 88 [1,1,1,1,1]) (rA 88 [86,23] [.tmp 4] [24])))
theorem PU(n m5:Nat)(one9 other10:Int)(r11:List D)(t46 t47:Int)(p2:D):Vv n (m5+1) one9 other10 r11 t46 t47 p2 =
 bK (t47<t46) (cK 174 [p2.fld 0,D.sl r11,D.int t47,D.int one9] fun Y2 =>
 cK 174 [p2.fld 1,D.sl ((qA Y2).els),D.int t47,D.int other10] fun Y3 =>
 Vv n m5 one9 other10 ((qA Y3).els) t46 (Al6 .i64 (t47+1)) p2)
 (.ret [D.sl r11]):=by kernel_rfl
theorem AdP(n:Nat)(p0 s1:D):fA Vw n 88 [] [p0,s1] =
 cK 140 [s1,D.int ((p0.fld 2).toInt)] fun Y1 =>
 kK (0≤(p0.fld 2).toInt) (kK ((p0.fld 2).toInt<((((p0.fld 0).fld 0).els).length:Int)) (kK (0≤(p0.fld 2).toInt) (kK ((p0.fld 2).toInt<((((p0.fld 1).fld 0).els).length:Int)) (kK (0≤0) (kK (0≤Al6 .i64 (((qA Y1).toInt)*(Al6 .i64 ((Al6 .i64 ((((((p0.fld 0).fld 0).els).getD (Ama ((p0.fld 2).toInt)) D.nil).toInt)*((qC Y1).toInt)))+(Al6 .i64 ((((((p0.fld 1).fld 0).els).getD (Ama ((p0.fld 2).toInt)) D.nil).toInt)*((qC Y1).toInt))))))) (kK (Al6 .i64 (((qA Y1).toInt)*(Al6 .i64 ((Al6 .i64 ((((((p0.fld 0).fld 0).els).getD (Ama ((p0.fld 2).toInt)) D.nil).toInt)*((qC Y1).toInt)))+(Al6 .i64 ((((((p0.fld 1).fld 0).els).getD (Ama ((p0.fld 2).toInt)) D.nil).toInt)*((qC Y1).toInt))))))≤Aj) (Vv n n (Al6 .i64 ((((((p0.fld 0).fld 0).els).getD (Ama ((p0.fld 2).toInt)) D.nil).toInt)*((qC Y1).toInt))) (Al6 .i64 ((((((p0.fld 1).fld 0).els).getD (Ama ((p0.fld 2).toInt)) D.nil).toInt)*((qC Y1).toInt))) (Amc (Ama 0) (D.agg [D.int 0,D.int 0,D.agg [D.bool false,D.sl [],D.sl []],D.int 0,D.sl []])) ((qA Y1).toInt) 0 p0))))))):=by kernel_rfl
theorem AdT(n:Nat)(a0 other1:D)(axes2 axis3:D):fA [] n 172 [] [a0,other1,axes2,axis3] =
 kK (0≤0) (kK (0≤axes2.toInt) (kK (axes2.toInt≤Aj) (.br ((((a0.fld 1).els).length:Int)==axes2.toInt) (kK ((Amc (Ama 0) (D.int 0)).length+((a0.fld 1).els).length≤Aj) (.ret [D.agg [D.sl ((Amc (Ama 0) (D.int 0))++((a0.fld 1).els)),a0.fld 2,D.bool false],D.bool true]))
 (.br ((((a0.fld 1).els).length:Int)==0) (.br ((other1.els.length:Int)==0) (kK ((Amc (Ama 0) (D.int 0)).length + [D.int 1].length≤Aj) (.ret [D.agg [D.sl ((Amc (Ama 0) (D.int 0))++[D.int 1]),a0.fld 2,D.bool true],D.bool true]))
 (kK ((Amc (Ama 0) (D.int 0)).length+other1.els.length≤Aj) (kK (0≤axis3.toInt) (kK (axis3.toInt<(((Amc (Ama 0) (D.int 0))++other1.els).length:Int)) (.ret [D.agg [D.sl (((Amc (Ama 0) (D.int 0))++other1.els).set (Ama axis3.toInt) (D.int 1)),a0.fld 2,D.bool true],D.bool true])))))
 (.br ((((a0.fld 1).els).length:Int)==(Al6 .i64 (axes2.toInt-1))) (kK (0≤axis3.toInt) (kK (axis3.toInt≤(((a0.fld 1).els).length:Int)) (kK ((Amc (Ama 0) (D.int 0)).length+(((a0.fld 1).els).take (Ama axis3.toInt)).length≤Aj) (kK (((Amc (Ama 0) (D.int 0))++(((a0.fld 1).els).take (Ama axis3.toInt))).length + [D.int 1].length≤Aj) (kK (0≤axis3.toInt) (kK (axis3.toInt≤(((a0.fld 1).els).length:Int)) (kK ((((Amc (Ama 0) (D.int 0))++(((a0.fld 1).els).take (Ama axis3.toInt)))++[D.int 1]).length+(((a0.fld 1).els).drop (Ama axis3.toInt)).length≤Aj) (.ret [D.agg [D.sl ((((Amc (Ama 0) (D.int 0))++(((a0.fld 1).els).take (Ama axis3.toInt)))++[D.int 1])++(((a0.fld 1).els).drop (Ama axis3.toInt))),a0.fld 2,D.bool false],D.bool true]))))))))
 (.ret [D.agg [D.sl [],D.sl [],D.bool false],D.bool false])))))):=by kernel_rfl
def Vu:List (Nat×Orc):=[(4,⟨[(1,none),(4,none),(25,none),(26,none)],[(4,true)],[(.slot 1,1040,67)]⟩)]
noncomputable def Vt(n m4:Nat)(r1:List D)(t25 t26:Int)(b4:D):Tree :=
 lA (eA Vu n 174 [1,1,0,1,0,0]) (Ak Vu 4) m4 ⟨(.undef:: .row 1040:: .undef:: .undef:: .ptr 4 []::uA 20++(.i .i64 t25:: .i .i64 t26::uA 10)),[(4,.var 84 (.d 84 b4) true),(1040,.row 67 r1 true)],[4,1040],[],[]⟩
  (Ai 0 (Am (jA Vu n 174 [1,1,1]) (rA 174 [84,24,3,3] [.tmp 8] [24])))
theorem PS(n m4:Nat)(r1:List D)(t25 t26:Int)(b4:D):Vt n (m4+1) r1 t25 t26 b4 =
 bK (t26<t25) (kK (0≤0) (kK (0<(((b4.fld 1).els).length:Int)) (kK (r1.length + [((b4.fld 1).els).getD (Ama 0) D.nil].length≤Aj) (Vt n m4 (r1++[((b4.fld 1).els).getD (Ama 0) D.nil]) t25 (Al6 .i64 (t26+1)) b4))))
 (.ret [D.sl r1]):=by kernel_rfl
theorem PT(n:Nat)(b0 r1:D)(i2 nn3:D):fA Vu n 174 [] [b0,r1,i2,nn3] =
 .br (!((b0.fld 2).toBool)) (kK (0≤Al6 .i64 (i2.toInt*nn3.toInt)) (kK (Al6 .i64 (i2.toInt*nn3.toInt)≤Al6 .i64 ((Al6 .i64 (i2.toInt*nn3.toInt))+nn3.toInt)) (kK (Al6 .i64 ((Al6 .i64 (i2.toInt*nn3.toInt))+nn3.toInt)≤(((b0.fld 1).els).length:Int)) (kK (r1.els.length+((((b0.fld 1).els).take (Ama (Al6 .i64 ((Al6 .i64 (i2.toInt*nn3.toInt))+nn3.toInt)))).drop (Ama (Al6 .i64 (i2.toInt*nn3.toInt)))).length≤Aj) (.ret [D.sl (r1.els++((((b0.fld 1).els).take (Ama (Al6 .i64 ((Al6 .i64 (i2.toInt*nn3.toInt))+nn3.toInt)))).drop (Ama (Al6 .i64 (i2.toInt*nn3.toInt)))))])))))
 (Vt n n r1.els nn3.toInt 0 b0):=by kernel_rfl
theorem ZI(l:List Int)(hb:l.length≤6)(hx : ∀ x∈l,0≤x∧x≤2048):Sp 170 [dI l] [.int (Bd l 1)]:=by
 refine Af (l.length+1) (ZJ _ _) ?_
 have key:=B3 l (fun m k (p:Int)=>R5 (l.length+1) m p (dI l) (l.length:Int) (k:Int)) (fun rest p=>[.int (Bd rest p)]) (fun _ p=>0≤p∧p≤2048)
  (fun m k p hk hI=>by
   simp only[Zw]
   exact Aq (Ac rfl))
  (fun m k p x rest hd hI ih=>by
   obtain ⟨h1,h2,h3⟩:=Bx hd
   have hxx:=hx x (Amh h2)
   have hp:0≤p*x∧p*x≤4194304:=⟨Int.mul_nonneg hI.1 hxx.1,by have:=Int.mul_le_mul hI.2 hxx.2 hxx.1 (by omega);omega⟩
   simp only[Zw,B_,Amd,Amj,As h2,Al,Bb k,At (x:=p*x) (by omega) (by omega)]
   repeat (refine Ad ?_)
   simp only[Bd]
   refine Ae (fun h=>Ac ?_) (fun h=> ?_)
   · rw[if_pos h]
   · rw[if_neg h];exact ih _ ⟨hp.1,by omega⟩)
  (l.length+1) 0 1 (by omega) (by omega) (by decide)
 simpa using key
def Ll(s:List Int)(x:Int):List D:=if (A5 s).2=0∧0≤x∧x<s.length then [.int (Bd (s.take x.toNat) 1),.int (s.getD x.toNat 0),.int (Bd (s.drop (x.toNat+1)) 1),.bool true] else [.int 0,.int 0,.int 0,.bool false]
theorem JJ(s:List Int)(x:Int):Sp 140 [dI s,.int x] (Ll s x):=by
 refine Af 0 (AjL _ _ _) (Aa (Mv s) ?_)
 unfold Ll
 simp only[Ah]
 refine Ae (fun h=>Ac (by rw[if_neg (fun hh=>h hh.1)])) (fun h=>Ae (fun h1=>Ac (by rw[if_neg (by omega)])) (fun h1=>Ae (fun h2=>Ac (by rw[if_neg (by omega)])) (fun h2=> ?_)))
 have h0:(A5 s).2=0:=Amn.1 h
 rw[if_pos ⟨h0,by omega,by omega⟩]
 obtain ⟨c1,c2⟩:=Gr h0
 obtain ⟨X,rfl⟩ : ∃ X:Nat,x=(X:Int):=⟨x.toNat,by omega⟩
 simp only[Bb X,Amj,← List.map_take,← List.map_drop,AcF]
 refine Ad (Ad (Aa (ZI (s.take X) (by rw[Amr];omega) (fun y hy=>c2 y (List.mem_of_mem_take hy))) (Ad (Ad (Ad (Ad (Aa (ZI (s.drop (X+1)) (by rw[Amp];omega) (fun y hy=>c2 y (List.mem_of_mem_drop hy))) (Ac ?_))))))))
 rw[Gz (show X<s.length by omega)]
 simp only[Ah]
def Sr(s:List Int)(x n:Int):List D:=if 0≤x∧x<s.length then [dI (s.set x.toNat n),.bool true] else [.sl [],.bool false]
theorem ZH(s:List Int)(x n:Int)(hs:s.length≤1048576):Sp 173 [dI s,.int x,.int n] (Sr s x n):=by
 refine Af 0 (AjR _ _ _ _) ?_
 unfold Sr
 simp only[Ah]
 refine Ae (fun h1=>Ac (by rw[if_neg (by omega)])) (fun h1=>Ae (fun h2=>Ac (by rw[if_neg (by omega)])) (fun h2=>Aa (I0 s hs) ?_))
 rw[if_pos ⟨by omega,by omega⟩]
 simp only[Ah]
 refine Ad (Ad (Ac ?_))
 rw[← List.map_set];rfl
def F3(s:List Int)(cs:List Cell)(al:Bool):D:= .agg [dI s,.sl (cs.map dC),.bool al]
def Fw(x y:D)(k:Int):D:= .agg [x,y,.int k]
theorem AdR(s:List Int)(cs r:List Cell)(i n:Int)(h0:0≤i)(h1:0≤n)(h2:i*n+n≤cs.length)(hc:cs.length≤2048)(hr:r.length≤1000000):Sp 174 [F3 s cs false,.sl (r.map dC),.int i,.int n] [.sl ((r++(cs.take (i*n+n).toNat).drop (i*n).toNat).map dC)]:=by
 refine Af 0 (PT _ _ _ _ _) ?_
 have h3:0≤i*n:=Int.mul_nonneg h0 h1
 simp only[F3,J6,J7,U4,Ah,At (x:=i*n) (by omega) (by omega),At (x:=i*n+n) (by omega) (by omega),← List.map_take,← List.map_drop]
 refine Bi rfl (Ad (Ad (Ad (Ax ?_ (Ac ?_)))))
 · simp only[Amp,Amr,Aj];omega
 · rw[← List.map_append]
theorem Ald(n:Nat)(k0 a1 first2:D):fA [] n 37 [] [k0,a1,first2] =
 cK 80 [k0] fun Y1 =>
 .br (((qB Y1).toInt)!=0) (.ret [D.agg [D.int 0,D.sl [],D.sl []],D.int ((qB Y1).toInt)])
 (.br ((((qA Y1).els).length:Int)!=1) (.ret [D.agg [D.int 0,D.sl [],D.sl []],D.int 4])
 (cK 84 [k0] fun Y2 =>
 cK 90 [a1,D.int ((qA Y2).toInt)] fun Y3 =>
 cK 91 [a1,D.bool first2.toBool] fun Y4 =>
 .br (!((qB Y4).toBool)) (.ret [qA Y3,D.int 0])
 (kK (0≤(qA Y4).toInt) (kK ((qA Y4).toInt<(((a1.fld 1).els).length:Int)) (.br (((((a1.fld 1).els).getD (Ama ((qA Y4).toInt)) D.nil).toInt)==0) (.ret [qA Y3,D.int 0])
 (kK (0≤(qA Y4).toInt) (kK ((qA Y4).toInt<(((a1.fld 1).els).length:Int)) (kK (0≤0) (kK (0<(((qA Y1).els).length:Int)) (.br (!(((((a1.fld 1).els).getD (Ama ((qA Y4).toInt)) D.nil).toInt)==(0:Int))) (.br (!(((((a1.fld 1).els).getD (Ama ((qA Y4).toInt)) D.nil).toInt)==(0:Int))) (cK 92 [qA Y3,a1.fld 1,D.fn 93 [.ref 3,.ref 3,.ref 3] [D.ref (D.int ((qA Y4).toInt)),D.ref (D.int (Int.tmod (Al6 .i64 ((Int.tmod ((((qA Y1).els).getD (Ama 0) D.nil).toInt) ((((a1.fld 1).els).getD (Ama ((qA Y4).toInt)) D.nil).toInt))+((((a1.fld 1).els).getD (Ama ((qA Y4).toInt)) D.nil).toInt))) ((((a1.fld 1).els).getD (Ama ((qA Y4).toInt)) D.nil).toInt))),D.ref (D.int ((((a1.fld 1).els).getD (Ama ((qA Y4).toInt)) D.nil).toInt))]] fun Y5 =>
 .ret [qA Y5,D.int 0]) .fail) .fail)))))))))):=by kernel_rfl
def My:List (Nat×Orc):=[(9,⟨[(2,none),(3,none),(4,none),(5,none),(6,none),(7,none),(32,none),(33,none)],[(2,true),(3,true),(4,false),(5,false),(6,true)],[(.slot 7,1090,3)]⟩),(14,⟨[(2,none),(3,none),(4,none),(5,none),(6,none),(7,none),(40,some 23),(41,none),(42,none)],[(2,true),(3,true),(4,false),(5,false),(6,true)],[(.slot 7,1140,3)]⟩)]
def Aa2:List ResultVar:=[.cell 4 26,.cell 5 29]
noncomputable def AQ(n m14:Nat)(s7:List D)(t40:D)(t41 t42:Int)(p2 a3:D)(r4_0 e5:Int)(l6:D):Tree :=
 lA (eA My n 38 [1,1,1,1,1,1,1,0,1,0,0]) (Ak My 14) m14 ⟨(.undef:: .undef:: .ptr 2 []:: .ptr 3 []:: .ptr 4 []:: .ptr 5 []:: .ptr 6 []:: .row 1140::uA 32++(.d 23 t40:: .i .i64 t41:: .i .i64 t42::uA 38)),[(2,.var 26 (.d 26 p2) true),(3,.var 26 (.d 26 a3) true),(4,.var 26 (.agg 26 [.i .u64 r4_0,.mt,.mt]) true),(5,.var 29 (.i .i64 e5) true),(6,.var 23 (.d 23 l6) true),(1140,.row 3 s7 true)],[2,3,4,5,6,1140],[(94,[.ptr 4 [],.ptr 5 []])],[]⟩
  (Ai 2 (Am (jA My n 38 [1,1,1,1,1,1,1,1]) (rA 38 [26,26] Aa2 [26,29])))
noncomputable def AR(n m9:Nat)(s7:List D)(t32 t33:Int)(p2 a3:D)(r4_0 e5:Int)(l6:D):Tree :=
 lA (eA My n 38 [1,1,1,1,1,1,0,1,0,0]) (Ak My 9) m9 ⟨(.undef:: .undef:: .ptr 2 []:: .ptr 3 []:: .ptr 4 []:: .ptr 5 []:: .ptr 6 []:: .row 1090::uA 24++(.i .i64 t32:: .i .i64 t33::uA 47)),[(2,.var 26 (.d 26 p2) true),(3,.var 26 (.d 26 a3) true),(4,.var 26 (.agg 26 [.i .u64 r4_0,.mt,.mt]) true),(5,.var 29 (.i .i64 e5) true),(6,.var 23 (.d 23 l6) true),(1090,.row 3 s7 true)],[2,3,4,5,6,1090],[(94,[.ptr 4 [],.ptr 5 []])],[]⟩
  (Ai 0 (Am (jA My n 38 [1,1,1,1,1,1,1]) (rA 38 [26,26] Aa2 [26,29])))
theorem Aa0(n m14:Nat)(s7:List D)(t40:D)(t41 t42:Int)(p2 a3:D)(r4_0 e5:Int)(l6:D):AQ n (m14+1) s7 t40 t41 t42 p2 a3 r4_0 e5 l6 =
 bK (t42<t41) (kK (0≤t42) (kK (t42<(t40.els.length:Int)) (bK (((t40.els.getD (Ama t42) D.nil).toInt)<1) (.ret [D.agg [D.int 0,D.sl [],D.sl []],D.int 3])
 (bK ((l6.els.length:Int)<((t40.els.getD (Ama t42) D.nil).toInt)) (.ret [D.agg [D.int 0,D.sl [],D.sl []],D.int 3])
 (kK (0≤Al6 .i64 (((t40.els.getD (Ama t42) D.nil).toInt)-1)) (kK (Al6 .i64 (((t40.els.getD (Ama t42) D.nil).toInt)-1)<(s7.length:Int)) (bK (0≤((s7.getD (Ama (Al6 .i64 (((t40.els.getD (Ama t42) D.nil).toInt)-1))) D.nil).toInt)) (.ret [D.agg [D.int 0,D.sl [],D.sl []],D.int 3])
 (kK (0≤t42) (kK (t42<(((a3.fld 1).els).length:Int)) (kK (0≤Al6 .i64 (((t40.els.getD (Ama t42) D.nil).toInt)-1)) (kK (Al6 .i64 (((t40.els.getD (Ama t42) D.nil).toInt)-1)<(s7.length:Int)) (AQ n m14 (s7.set (Ama (Al6 .i64 (((t40.els.getD (Ama t42) D.nil).toInt)-1))) (D.int ((((a3.fld 1).els).getD (Ama t42) D.nil).toInt))) t40 t41 (Al6 .i64 (t42+1)) p2 a3 r4_0 e5 l6))))))))))))
 (cK 84 [p2] fun Y2 =>
 cK 90 [a3,D.int ((qA Y2).toInt)] fun Y3 =>
 cK 92 [qA Y3,D.sl s7,D.fn 95 [.ref 23] [D.ref l6]] fun Y4 =>
 .ret [qA Y4,D.int 0]):=by kernel_rfl
theorem Aa1(n m9:Nat)(s7:List D)(t32 t33:Int)(p2 a3:D)(r4_0 e5:Int)(l6:D):AR n (m9+1) s7 t32 t33 p2 a3 r4_0 e5 l6 =
 bK (t33<t32) (kK (0≤t33) (kK (t33<(s7.length:Int)) (AR n m9 (s7.set (Ama t33) (D.int (-1))) t32 (Al6 .i64 (t33+1)) p2 a3 r4_0 e5 l6)))
 (AQ n n s7 l6 (l6.els.length:Int) 0 p2 a3 r4_0 e5 l6):=by kernel_rfl
theorem AkZ(n:Nat)(p0 a1:D):fA My n 38 [] [p0,a1] =
 cK 80 [p0] fun Y1 =>
 .br (((qB Y1).toInt)!=0) (.ret [D.agg [D.int 0,D.sl [],D.sl []],D.int ((qB Y1).toInt)])
 (.br ((((qA Y1).els).length:Int)!=(((a1.fld 1).els).length:Int)) (.ret [D.agg [D.int 0,D.sl [],D.sl []],D.int 4])
 (kK (0≤(((qA Y1).els).length:Int)) (kK ((((qA Y1).els).length:Int)≤(((qA Y1).els).length:Int)) (kK ((((qA Y1).els).length:Int)≤Aj) (AR n n (Amc (Ama (((qA Y1).els).length:Int)) (D.int 0)) ((Amc (Ama (((qA Y1).els).length:Int)) (D.int 0)).length:Int) 0 p0 a1 0 ((qB Y1).toInt) (qA Y1)))))):=by kernel_rfl
theorem Alb(n:Nat)(a0 first1:D):fA [] n 59 [] [a0,first1] =
 cK 91 [a0,D.bool first1.toBool] fun Y1 =>
 .br (!((qB Y1).toBool)) (.ret [a0])
 (kK (0≤(qA Y1).toInt) (kK ((qA Y1).toInt<(((a0.fld 1).els).length:Int)) (cK 92 [a0,a0.fld 1,D.fn 142 [.ref 3,.ref 3] [D.ref (D.int ((((a0.fld 1).els).getD (Ama ((qA Y1).toInt)) D.nil).toInt)),D.ref (D.int ((qA Y1).toInt))]] fun Y2 =>
 .ret [qA Y2]))):=by kernel_rfl
theorem Alg(n:Nat)(a0:D):fA [] n 60 [] [a0] =
 cK 96 [a0.fld 1] fun Y1 =>
 cK 144 [D.sl ((qA Y1).els)] fun Y2 =>
 cK 92 [a0,D.sl ((qA Y2).els),D.fn 145 [] []] fun Y3 =>
 .ret [qA Y3]:=by kernel_rfl
theorem Alh(n:Nat)(a0 first1:D):fA [] n 91 [] [a0,first1] =
 .br ((((a0.fld 1).els).length:Int)==0) (.ret [D.int 0,D.bool false])
 (.br first1.toBool (.ret [D.int 0,D.bool true])
 (.ret [D.int (Al6 .i64 ((((a0.fld 1).els).length:Int)-1)),D.bool true])):=by kernel_rfl
def Mz:List (Nat×Orc):=[(3,⟨[(1,some 23),(2,some 94),(3,none),(6,none),(7,none),(19,none),(20,none)],[(3,true),(6,false)],[(.slot 7,1030,67)]⟩)]
noncomputable def Fq(n m3:Nat)(s1 from2:D)(cells7:List D)(t19 t20:Int)(a3:D)(t6_0:Int):Tree :=
 lA (eA Mz n 92 [1,1,0,1,0,0]) (Ak Mz 3) m3 ⟨(.undef:: .d 23 s1:: .d 94 from2:: .ptr 3 []:: .undef:: .undef:: .ptr 6 []:: .row 1030::uA 11++(.i .i64 t19:: .i .i64 t20::uA 33)),[(3,.var 26 (.d 26 a3) true),(6,.var 26 (.agg 26 [.i .u64 t6_0,.mt,.mt]) true),(1030,.row 67 cells7 true)],[3,6,1030],[],[]⟩
  (Ai 0 (Am (jA Mz n 92 [1,1,1]) (rA 92 [26,23,94] [.cell 6 26] [26])))
theorem Alk(n m3:Nat)(s1 from2_c0:D)(from2_c1 from2_c2:D)(cells7:List D)(t19 t20:Int)(a3:D)(t6_0:Int):Fq n (m3+1) s1 (D.fn 93 [.ref 3,.ref 3,.ref 3] [from2_c0,from2_c1,from2_c2]) cells7 t19 t20 a3 t6_0 =
 bK (t20<t19) (cK 175 [s1,D.int t20] fun Y1 =>
 .call (D.fn 93 [.ref 3,.ref 3,.ref 3] [from2_c0,from2_c1,from2_c2]).fnId (D.fn 93 [.ref 3,.ref 3,.ref 3] [from2_c0,from2_c1,from2_c2]).fnCts ([D.sl ((qA Y1).els)]++(D.fn 93 [.ref 3,.ref 3,.ref 3] [from2_c0,from2_c1,from2_c2]).fnDs) fun Y2 =>
 cK 176 [a3.fld 1,D.sl ((qA Y2).els)] fun Y3 =>
 kK (0≤(qA Y3).toInt) (kK ((qA Y3).toInt<(((a3.fld 2).els).length:Int)) (kK (cells7.length + [((a3.fld 2).els).getD (Ama ((qA Y3).toInt)) D.nil].length≤Aj) (Fq n m3 s1 (D.fn 93 [.ref 3,.ref 3,.ref 3] [from2_c0,from2_c1,from2_c2]) (cells7++[((a3.fld 2).els).getD (Ama ((qA Y3).toInt)) D.nil]) t19 (Al6 .i64 (t20+1)) a3 t6_0))))
 (cK 96 [s1] fun Y4 =>
 .ret [D.agg [D.int ((a3.fld 0).toInt),D.sl ((qA Y4).els),D.sl cells7]]):=by kernel_rfl
theorem Ali(n m3:Nat)(s1 from2_c0:D)(cells7:List D)(t19 t20:Int)(a3:D)(t6_0:Int):Fq n (m3+1) s1 (D.fn 95 [.ref 23] [from2_c0]) cells7 t19 t20 a3 t6_0 =
 bK (t20<t19) (cK 175 [s1,D.int t20] fun Y1 =>
 .call (D.fn 95 [.ref 23] [from2_c0]).fnId (D.fn 95 [.ref 23] [from2_c0]).fnCts ([D.sl ((qA Y1).els)]++(D.fn 95 [.ref 23] [from2_c0]).fnDs) fun Y2 =>
 cK 176 [a3.fld 1,D.sl ((qA Y2).els)] fun Y3 =>
 kK (0≤(qA Y3).toInt) (kK ((qA Y3).toInt<(((a3.fld 2).els).length:Int)) (kK (cells7.length + [((a3.fld 2).els).getD (Ama ((qA Y3).toInt)) D.nil].length≤Aj) (Fq n m3 s1 (D.fn 95 [.ref 23] [from2_c0]) (cells7++[((a3.fld 2).els).getD (Ama ((qA Y3).toInt)) D.nil]) t19 (Al6 .i64 (t20+1)) a3 t6_0))))
 (cK 96 [s1] fun Y4 =>
 .ret [D.agg [D.int ((a3.fld 0).toInt),D.sl ((qA Y4).els),D.sl cells7]]):=by kernel_rfl
theorem Alj(n m3:Nat)(s1 from2_c0 from2_c1:D)(cells7:List D)(t19 t20:Int)(a3:D)(t6_0:Int):Fq n (m3+1) s1 (D.fn 142 [.ref 3,.ref 3] [from2_c0,from2_c1]) cells7 t19 t20 a3 t6_0 =
 bK (t20<t19) (cK 175 [s1,D.int t20] fun Y1 =>
 .call (D.fn 142 [.ref 3,.ref 3] [from2_c0,from2_c1]).fnId (D.fn 142 [.ref 3,.ref 3] [from2_c0,from2_c1]).fnCts ([D.sl ((qA Y1).els)]++(D.fn 142 [.ref 3,.ref 3] [from2_c0,from2_c1]).fnDs) fun Y2 =>
 cK 176 [a3.fld 1,D.sl ((qA Y2).els)] fun Y3 =>
 kK (0≤(qA Y3).toInt) (kK ((qA Y3).toInt<(((a3.fld 2).els).length:Int)) (kK (cells7.length + [((a3.fld 2).els).getD (Ama ((qA Y3).toInt)) D.nil].length≤Aj) (Fq n m3 s1 (D.fn 142 [.ref 3,.ref 3] [from2_c0,from2_c1]) (cells7++[((a3.fld 2).els).getD (Ama ((qA Y3).toInt)) D.nil]) t19 (Al6 .i64 (t20+1)) a3 t6_0))))
 (cK 96 [s1] fun Y4 =>
 .ret [D.agg [D.int ((a3.fld 0).toInt),D.sl ((qA Y4).els),D.sl cells7]]):=by kernel_rfl
theorem All(n m3:Nat)(s1:D)(cells7:List D)(t19 t20:Int)(a3:D)(t6_0:Int):Fq n (m3+1) s1 (D.fn 145 [] []) cells7 t19 t20 a3 t6_0 =
 bK (t20<t19) (cK 175 [s1,D.int t20] fun Y1 =>
 .call (D.fn 145 [] []).fnId (D.fn 145 [] []).fnCts ([D.sl ((qA Y1).els)]++(D.fn 145 [] []).fnDs) fun Y2 =>
 cK 176 [a3.fld 1,D.sl ((qA Y2).els)] fun Y3 =>
 kK (0≤(qA Y3).toInt) (kK ((qA Y3).toInt<(((a3.fld 2).els).length:Int)) (kK (cells7.length + [((a3.fld 2).els).getD (Ama ((qA Y3).toInt)) D.nil].length≤Aj) (Fq n m3 s1 (D.fn 145 [] []) (cells7++[((a3.fld 2).els).getD (Ama ((qA Y3).toInt)) D.nil]) t19 (Al6 .i64 (t20+1)) a3 t6_0))))
 (cK 96 [s1] fun Y4 =>
 .ret [D.agg [D.int ((a3.fld 0).toInt),D.sl ((qA Y4).els),D.sl cells7]]):=by kernel_rfl
theorem Alo(n:Nat)(a0 s1:D)(from2_c0 from2_c1 from2_c2:D):fA Mz n 92 [] [a0,s1,(D.fn 93 [.ref 3,.ref 3,.ref 3] [from2_c0,from2_c1,from2_c2])] =
 kK (0≤0) (kK (0≤(((a0.fld 2).els).length:Int)) (kK ((((a0.fld 2).els).length:Int)≤Aj) (Fq n n s1 (D.fn 93 [.ref 3,.ref 3,.ref 3] [from2_c0,from2_c1,from2_c2]) (Amc (Ama 0) (D.agg [D.int 0,D.int 0,D.agg [D.bool false,D.sl [],D.sl []],D.int 0,D.sl []])) (((a0.fld 2).els).length:Int) 0 a0 0))):=by kernel_rfl
theorem Alm(n:Nat)(a0 s1 from2_c0:D):fA Mz n 92 [] [a0,s1,(D.fn 95 [.ref 23] [from2_c0])] =
 kK (0≤0) (kK (0≤(((a0.fld 2).els).length:Int)) (kK ((((a0.fld 2).els).length:Int)≤Aj) (Fq n n s1 (D.fn 95 [.ref 23] [from2_c0]) (Amc (Ama 0) (D.agg [D.int 0,D.int 0,D.agg [D.bool false,D.sl [],D.sl []],D.int 0,D.sl []])) (((a0.fld 2).els).length:Int) 0 a0 0))):=by kernel_rfl
theorem Aln(n:Nat)(a0 s1:D)(from2_c0 from2_c1:D):fA Mz n 92 [] [a0,s1,(D.fn 142 [.ref 3,.ref 3] [from2_c0,from2_c1])] =
 kK (0≤0) (kK (0≤(((a0.fld 2).els).length:Int)) (kK ((((a0.fld 2).els).length:Int)≤Aj) (Fq n n s1 (D.fn 142 [.ref 3,.ref 3] [from2_c0,from2_c1]) (Amc (Ama 0) (D.agg [D.int 0,D.int 0,D.agg [D.bool false,D.sl [],D.sl []],D.int 0,D.sl []])) (((a0.fld 2).els).length:Int) 0 a0 0))):=by kernel_rfl
theorem Alp(n:Nat)(a0 s1:D):fA Mz n 92 [] [a0,s1,(D.fn 145 [] [])] =
 kK (0≤0) (kK (0≤(((a0.fld 2).els).length:Int)) (kK ((((a0.fld 2).els).length:Int)≤Aj) (Fq n n s1 (D.fn 145 [] []) (Amc (Ama 0) (D.agg [D.int 0,D.int 0,D.agg [D.bool false,D.sl [],D.sl []],D.int 0,D.sl []])) (((a0.fld 2).els).length:Int) 0 a0 0))):=by kernel_rfl
theorem Alc(n:Nat)(at0 c1:D)(c2 c3:D):fA [] n 93 [.ref 3,.ref 3,.ref 3] [at0,c1,c2,c3] =
 kK (0≤c1.unref.toInt) (kK (c1.unref.toInt<(at0.els.length:Int)) (.br (!(c3.unref.toInt == (0:Int))) (kK (0≤c1.unref.toInt) (kK (c1.unref.toInt<(at0.els.length:Int)) (.ret [D.sl (at0.els.set (Ama c1.unref.toInt) (D.int (Int.tmod (Al6 .i64 (((at0.els.getD (Ama c1.unref.toInt) D.nil).toInt)+c2.unref.toInt)) c3.unref.toInt)))]))) .fail)):=by kernel_rfl
def KA:List (Nat×Orc):=[(2,⟨[(0,none),(3,none),(8,some 23),(9,none),(10,none)],[],[(.slot 0,0,3),(.slot 3,1021,3)]⟩)]
noncomputable def AP(n m2:Nat)(at0 old3:List D)(t8:D)(t9 t10:Int):Tree :=
 lA (eA KA n 95 [1,1,0,0]) (Ak KA 2) m2 ⟨(.row 0:: .undef:: .undef:: .row 1021::uA 4++(.d 23 t8:: .i .i64 t9:: .i .i64 t10::uA 13)),[(0,.row 3 at0 true),(1021,.row 3 old3 true)],[0,1021],[],[0]⟩
  (Ai 0 (rA 95 [23] [] []))
theorem Aaz(n m2:Nat)(at0 old3:List D)(t8:D)(t9 t10:Int):AP n (m2+1) at0 old3 t8 t9 t10 =
 bK (t10<t9) (kK (0≤t10) (kK (t10<(t8.els.length:Int)) (kK (0≤Al6 .i64 (((t8.els.getD (Ama t10) D.nil).toInt)-1)) (kK (Al6 .i64 (((t8.els.getD (Ama t10) D.nil).toInt)-1)<(old3.length:Int)) (kK (0≤t10) (kK (t10<(at0.length:Int)) (AP n m2 (at0.set (Ama t10) (D.int ((old3.getD (Ama (Al6 .i64 (((t8.els.getD (Ama t10) D.nil).toInt)-1))) D.nil).toInt))) old3 t8 t9 (Al6 .i64 (t10+1)))))))))
 (.ret [D.sl at0]):=by kernel_rfl
theorem AkX(n:Nat)(at0 c1:D):fA KA n 95 [.ref 23] [at0,c1] =
 cK 96 [D.sl at0.els] fun Y1 =>
 AP n n at0.els ((qA Y1).els) c1.unref (c1.unref.els.length:Int) 0:=by kernel_rfl
theorem Ala(n:Nat)(at0 c1 c2:D):fA [] n 142 [.ref 3,.ref 3] [at0,c1,c2] =
 kK (0≤c2.unref.toInt) (kK (c2.unref.toInt<(at0.els.length:Int)) (kK (0≤c2.unref.toInt) (kK (c2.unref.toInt<(at0.els.length:Int)) (.ret [D.sl (at0.els.set (Ama c2.unref.toInt) (D.int (Al6 .i64 ((Al6 .i64 (c1.unref.toInt-1))-((at0.els.getD (Ama c2.unref.toInt) D.nil).toInt)))))])))):=by kernel_rfl
theorem Ale(n:Nat)(at0:D):fA [] n 145 [] [at0] =
 cK 144 [D.sl at0.els] fun Y1 =>
 .ret [D.sl ((qA Y1).els)]:=by kernel_rfl
theorem Rk{α:Type}(pre:List α)(a b:α)(r:List α):(pre++a::r).set pre.length b=pre++b::r:=by
 rw[List.set_append_right _ _ (Amo _),Nat.sub_self];rfl
theorem LV{α:Type}(pre:List α)(a:α)(r:List α):(pre++a::r)[pre.length]? = some a:=by
 rw[List.getElem?_append_right (Amo _),Nat.sub_self];rfl
theorem XS(n:Nat) : ∀ (m:Nat) (A M B:List Int),M.length<2*m→A.length+M.length+B.length≤1000000 →
  Tw (Z_ n m ((A++M++B).map D.int) (A.length:Int) (((A.length+M.length:Nat):Int)-1)) [dI (A++M.reverse++B)]
 | 0,A,M,B,h,_=>absurd h (by omega)
 | m+1,A,M,B,h,hl=>by
  rw[Akq]
  by_cases h2:2≤M.length
  · obtain ⟨x,M',y,rfl⟩ : ∃ x M' y,M=x::(M'++[y]):=by
     match M,h2 with
     | x::R,h2 =>
      rcases List.eq_nil_or_concat R with rfl | ⟨M',y,rfl⟩
      · simp at h2
      · exact ⟨x,M',y,by simp⟩
    simp only[Amg,Amm,Amu]at h hl
    have e1:A++x::(M'++[y])++B=A++x::(M'++y::B):=by simp
    have e2:A++x::(M'++[y])++B=(A++x::M')++y::B:=by simp
    have e3:A++y::(M'++y::B)=(A++y::M')++y::B:=by simp
    have l3:A.length+M'.length+1=(A++y::M').length:=by simp;omega
    have h1:(A++x::(M'++[y])++B)[A.length]? = some x:=by rw[e1];exact LV A x _
    have h3:(A++x::(M'++[y])++B)[A.length+M'.length+1]? = some y:=by
     rw[e2,show A.length+M'.length+1=(A++x::M').length by simp;omega];exact LV _ y _
    have hj:((A.length+(x::(M'++[y])).length:Nat):Int)-1=((A.length+M'.length+1:Nat):Int):=by simp;omega
    have hlen:(A++x::(M'++[y])++B).length=A.length+M'.length+2+B.length:=by simp;omega
    have hw:Al6 .i64 (((A.length+M'.length+1:Nat):Int)-1)=(((A++[y]).length+M'.length:Nat):Int)-1:=by rw[At (by omega) (by omega)];simp;omega
    have hw2:((A.length+1:Nat):Int)=((A++[y]).length:Int):=by simp
    simp only[hj,Amj,As h1,As h3,Al,Amd,List.length_set,hlen]
    refine Ad (Ad (Ad (Ad (Ad (Ad (Ad (Ad (Ad ?_))))))))
    rw[hw,D0 (by omega),hw2,← List.map_set,← List.map_set]
    have e4:((A++x::(M'++[y])++B).set A.length y).set (A.length+M'.length+1) x=(A++[y])++M'++(x::B):=by
     rw[e1,Rk,e3,l3,Rk];simp
    rw[e4]
    have:=XS n m (A++[y]) M' (x::B) (by omega) (by simp;omega)
    simpa using this
  · refine Aq (Ac ?_)
    have:M.reverse=M:=by
     match M,h2 with
     | [],_=>rfl
     | [x],_=>rfl
     | x::y::r,h2=>exact absurd (by simp) h2
    rw[this];rfl
theorem XU(l:List Int)(h:l.length≤1000000):Sp 144 [dI l] [dI l.reverse]:=by
 refine Af (l.length+1) (Akr _ _) ?_
 simp only[B_,Amd]
 rw[KJ (by omega)]
 simpa using XS (l.length+1) (l.length+1) [] l [] (by omega) (by simpa using h)
def Et(s:List Int)(i:Int):List Int:=if (A5 s).2=0∧0≤i∧i<(A5 s).1 then Ix s i else []
theorem AbC(s:List Int)(i:Int):(qA (M9 s i)).els=(Et s i).map D.int:=by
 unfold M9 Et
 split <;> rfl
theorem AbD(s:List Int)(i:Int):(Et s i).length≤s.length:=by
 unfold Et
 split
 · rw[M_];exact Amo _
 · simp
theorem Ad9(o:Option Int):(qA (Qo o)).toInt=o.getD 0:=by cases o <;> rfl
def FQ(a:Arr)(s:List Int)(g:List Int→List Int)(i:Nat):Cell:=a.cells.getD ((G4 a.shape (g (Et s (i:Int)))).getD 0).toNat (Be 0)
def Jd(a:Arr)(s:List Int)(g:List Int→List Int):Arr:= .mk a.s s ((Am9 a.cells.length).map (FQ a s g))
theorem Wf(F:D)(g:List Int→List Int)(a:Arr)(s:List Int)(ha:A5 a.shape=((a.cells.length:Int),0))(hs:s.length≤1000)
  (hF : ∀ (n m3:Nat) (s1:D) (cells7:List D) (t19:Int) (t20:Int) (a3:D) (t6_0:Int),Fq n (m3+1) s1 F cells7 t19 t20 a3 t6_0 =
   .br (decide (t20<t19)) (.call 175 [] [s1,D.int t20] fun Y1 =>
   .call F.fnId F.fnCts ([D.sl ((qA Y1).els)]++F.fnDs) fun Y2 =>
   .call 176 [] [a3.fld 1,D.sl ((qA Y2).els)] fun Y3 =>
   .br (decide (0≤(qA Y3).toInt)) (.br (decide ((qA Y3).toInt<(((a3.fld 2).els).length:Int))) (.br (decide (cells7.length + [((a3.fld 2).els).getD (Ama ((qA Y3).toInt)) D.nil].length≤Aj)) (Fq n m3 s1 F (cells7++[((a3.fld 2).els).getD (Ama ((qA Y3).toInt)) D.nil]) t19 (Al6 .i64 (t20+1)) a3 t6_0) .fail) .fail) .fail)
   (.call 96 [] [s1] fun Y4 =>
   .ret [D.agg [D.int ((a3.fld 0).toInt),D.sl ((qA Y4).els),D.sl cells7]]))
  (hg : ∀ i:Nat,i<a.cells.length→Dq Tryz.prog md F.fnId F.fnCts (dI (Et s (i:Int))::F.fnDs) [dI (g (Et s (i:Int)))]∧(g (Et s (i:Int))).length≤1000000) :
  Tw (Fq 4096 4096 (dI s) F [] (a.cells.length:Int) 0 (dA a) 0) [dA (Jd a s g)]:=by
 have hle:=(F5 a.shape).2
 rw[ha]at hle
 have hK:a.cells.length≤2048:=by simp only at hle;omega
 have key:=Cw a.cells.length (fun m k (_:Unit)=>Fq 4096 m (dI s) F (((Am9 k).map (FQ a s g)).map dC) (a.cells.length:Int) (k:Int) (dA a) 0) (fun _ _=>[dA (Jd a s g)]) (fun _ _=>True)
  (fun m _ _=>by
    rw[hF]
    refine Aq (Aa (I0 s (by omega)) (Ac ?_))
    simp only[Ah]
    rw[Jd,Dn];rfl)
  (fun m k _ hk _ ih=>by
    rw[hF]
    refine Ad (Aa (ZE s (k:Int)) ?_)
    obtain ⟨h1,h2⟩:=hg k hk
    simp only[AbC,List.singleton_append]
    refine Aa h1 ?_
    simp only[Ah]
    refine Aa (ZG a.shape _ h2) ?_
    have hb:0≤(G4 a.shape (g (Et s (k:Int)))).getD 0∧(G4 a.shape (g (Et s (k:Int)))).getD 0<(a.cells.length:Int):=by
     cases hi:G4 a.shape (g (Et s (k:Int))) with
     | none=>exact ⟨by decide,by show (0:Int)<_;omega⟩
     | some j=>exact PG ha hi
    have hc:FQ a s g k=a.cells.getD ((G4 a.shape (g (Et s (k:Int)))).getD 0).toNat (Be 0):=rfl
    simp only[Ad9]
    generalize (G4 a.shape (g (Et s (k:Int)))).getD 0=z at hb hc
    obtain ⟨J,rfl⟩ : ∃ J:Nat,z=(J:Int):=⟨z.toNat,by omega⟩
    have hcj:(a.cells.map dC).getD J D.nil=dC (a.cells.getD J (Be 0)):=by
     rw[As (Amb (by omega)),Amf,Amb (by omega)];rfl
    simp only[Amj]at hc ⊢
    rw[hcj,← hc,D0 (by omega)]
    refine Ad (Ad (Ax (by simp only[Amd,List.length_range,Amg,Amu,Aj];omega) ?_))
    have:=ih () trivial
    rw[List.range_succ,List.map_append,List.map_append]at this
    exact this)
  4096 0 () (by omega) (by omega) trivial
 simpa using key
theorem LE(a:Arr)(first:Bool)(ha:a.shape.length≤1000):Sp 91 [dA a,.bool first] [.int (if a.shape.length=0∨first then 0 else (a.shape.length:Int)-1),.bool (decide (a.shape.length≠0))]:=by
 refine Af 0 (Alh _ _ _) ?_
 simp only[Ah]
 refine Ae (fun h=>Ac ?_) (fun h=>Bu (fun hf=>Ac ?_) (fun hf=>Ac ?_))
 · rw[if_pos (.inl (by omega))];simp[show a.shape.length=0 by omega]
 · rw[if_pos (.inr hf)];simp[show ¬ a.shape.length=0 by omega]
 · rw[if_neg (by rintro (q | q);exact absurd q (by omega);rw[hf]at q;cases q),At (by omega) (by omega)];simp[show ¬ a.shape.length=0 by omega]
def Er(a:Arr)(first:Bool):Nat:=if first then 0 else a.shape.length-1
theorem KW{a:Arr}{first:Bool}(h:a.shape.length≠0):Er a first<a.shape.length:=by unfold Er;split <;> omega
theorem KV{a:Arr}{first:Bool}(h:a.shape.length≠0):(if a.shape.length=0∨first then 0 else (a.shape.length:Int)-1)=((Er a first:Nat):Int):=by
 unfold Er
 cases first with
 | true=>simp
 | false=>rw[if_neg (by simpa using h)];simp;omega
theorem BZ{s:List Int}{i:Nat}{c:Int}(h:A5 s=(c,0))(hi:(i:Int)<c):(Et s (i:Int)).length=s.length:=by
 unfold Et
 rw[if_pos ⟨by rw[h],by omega,by rw[h];exact hi⟩,M_]
def IT(x:Nat)(n:Int)(at_:List Int):List Int:=at_.set x (Al6 .i64 (Al6 .i64 (n-1)-at_.getD x 0))
def Zc(a:Arr)(first:Bool):Arr:=if a.shape.length=0 then a else Jd a a.shape (IT (Er a first) (a.shape.getD (Er a first) 0))
theorem Aa3(a:Arr)(first:Bool)(ha:A5 a.shape=((a.cells.length:Int),0)):Sp 59 [dA a,.bool first] [dA (Zc a first)]:=by
 have hl:=(I3 ha).1
 refine Af 0 (Alb _ _ _) ?_
 simp only[Az]
 refine Aa (LE a first (by omega)) ?_
 simp only[Ah]
 unfold Zc
 refine Ae (fun h=> ?_) (fun h=> ?_)
 · rw[if_pos (Amn.1 h)];exact Ac rfl
 · have h0:=Amn.1 h
   have hx:=KW (first:=first) h0
   rw[if_neg h0,KV h0]
   simp only[Amj,Gz hx]
   refine Ad (Ad (Aa (?_:Sp _ _ [dA (Jd a a.shape (IT (Er a first) (a.shape.getD (Er a first) 0)))]) (Ac rfl)))
   refine Af 4096 (Aln _ _ _ _ _) ?_
   have hle:=(F5 a.shape).2
   rw[ha]at hle
   simp only[Ah]
   refine Ad (Ad (Ax (by simp only[Aj]at *; omega) ?_))
   refine Wf _ _ a a.shape ha (by omega) (fun n m3 s1 c t19 t20 a3 t6=>Alj n m3 s1 _ _ c t19 t20 a3 t6) (fun i hi=> ?_)
   have hat:=BZ ha (i:=i) (by omega)
   refine ⟨?_,by unfold IT;rw[List.length_set,hat];omega⟩
   refine Af 0 (Ala _ _ _ _) ?_
   simp only[D.unref,Ah,hat,Gz (show Er a first<(Et a.shape (i:Int)).length by omega)]
   refine Ad (Ad (Ad (Ad (Ac ?_))))
   rw[← List.map_set];rfl
def IV(x:Nat)(by_ n:Int)(at_:List Int):List Int:=at_.set x (Int.tmod (Al6 .i64 (at_.getD x 0+by_)) n)
def R2(k a:Arr)(first:Bool):Arr×Int:=if (A8 k).2≠0 then (.none,(A8 k).2) else if (A8 k).1.length≠1 then (.none,4) else
 if a.shape.length=0∨a.shape.getD (Er a first) 0=0 then (Da a (Av k),0) else
 (Jd (Da a (Av k)) a.shape (IV (Er a first) (Int.tmod (Al6 .i64 (Int.tmod ((A8 k).1.getD 0 0) (a.shape.getD (Er a first) 0)+a.shape.getD (Er a first) 0)) (a.shape.getD (Er a first) 0)) (a.shape.getD (Er a first) 0)),0)
theorem Aa4(k a:Arr)(first:Bool)(hk:Fits k)(hkl:k.cells.length≤2048)(hkt : ∀ c∈k.cells,c.n.top.length≤32)(ha:A5 a.shape=((a.cells.length:Int),0)):Sp 37 [dA k,dA a,.bool first] [dA (R2 k a first).1,.int (R2 k a first).2]:=by
 have hl:=(I3 ha).1
 refine Af 0 (Ald _ _ _ _) (Aa (J0 k hkl hkt) ?_)
 unfold R2
 simp only[Ah,Cr]
 refine Ae (fun h=>Ac (by rw[if_pos h])) (fun h=> ?_)
 rw[if_neg h]
 refine Ae (fun h1=>Ac (by rw[if_pos (by omega)])) (fun h1=> ?_)
 have hk1:(A8 k).1.length=1:=by omega
 rw[if_neg (by omega)]
 refine Aa (Es k hk) ?_
 simp only[Ah]
 refine Aa (F1 a (Av k)) (Aa (LE a first (by omega)) ?_)
 simp only[Ah]
 refine Ae (fun h0=> ?_) (fun h0=> ?_)
 · rw[if_pos (.inl (Amn.1 h0))];exact Ac rfl
 · have h0:=Amn.1 h0
   have hx:=KW (first:=first) h0
   rw[KV h0]
   simp only[Amj,Gz hx]
   refine Ad (Ad ?_)
   refine Ae (fun h2=>Ac (by rw[if_pos (.inr h2)])) (fun h2=> ?_)
   rw[if_neg (by rintro (q | q);exact h0 q;exact h2 q)]
   have hg0:=Gz (l:=(A8 k).1) (i:=0) (by omega)
   simp only[hg0]
   generalize hN:a.shape.getD (Er a first) 0=N at *
   generalize (A8 k).1.getD 0 0=K at *
   have hb:decide (¬ N=0)=true:=decide_eq_true h2
   refine Ad (Ad (Ad (Ad (Bi hb (Bi hb ?_)))))
   refine Aa (?_:Sp _ _ [dA (Jd (Da a (Av k)) a.shape (IV (Er a first) (Int.tmod (Al6 .i64 (Int.tmod K N+N)) N) N))]) (Ac rfl)
   refine Af 4096 (Alo _ _ _ _ _ _) ?_
   have hle:=(F5 a.shape).2
   rw[ha]at hle
   have hrc:(Da a (Av k)).cells=a.cells:=by cases a;rfl
   have hrs:(Da a (Av k)).shape=a.shape:=by cases a;rfl
   simp only[Ah]
   rw[hrc]
   refine Ad (Ad (Ax (by simp only[Aj]at *; omega) ?_))
   rw[← hrc]
   refine Wf _ _ (Da a (Av k)) a.shape (by rw[hrs,hrc];exact ha) (by omega) (fun n m3 s1 c t19 t20 a3 t6=>Alk n m3 s1 _ _ _ c t19 t20 a3 t6) (fun i hi=> ?_)
   rw[hrc]at hi
   have hat:=BZ ha (i:=i) (by omega)
   refine ⟨?_,by unfold IV;rw[List.length_set,hat];omega⟩
   refine Af 0 (Alc _ _ _ _ _) ?_
   simp only[D.unref,Ah,hat,Gz (show Er a first<(Et a.shape (i:Int)).length by omega)]
   refine Ad (Ad (Bi hb (Ad (Ad (Ac ?_)))))
   rw[← List.map_set];rfl
def JY(a:Arr):Arr:=Jd a a.shape.reverse List.reverse
theorem Alf(a:Arr)(ha:A5 a.shape=((a.cells.length:Int),0)):Sp 60 [dA a] [dA (JY a)]:=by
 have hl:=(I3 ha).1
 refine Af 0 (Alg _ _) ?_
 simp only[Ah]
 refine Aa (I0 a.shape (by omega)) ?_
 simp only[Ah]
 refine Aa (XU a.shape (by omega)) ?_
 simp only[Ah]
 refine Aa (?_:Sp _ _ [dA (JY a)]) (Ac rfl)
 refine Af 4096 (Alp _ _ _) ?_
 have hle:=(F5 a.shape).2
 rw[ha]at hle
 simp only[Ah]
 refine Ad (Ad (Ax (by simp only[Aj]at *; omega) ?_))
 refine Wf _ _ a a.shape.reverse ha (by rw[List.length_reverse];omega) (fun n m3 s1 c t19 t20 a3 t6=>All n m3 s1 c t19 t20 a3 t6) (fun i hi=> ?_)
 have hat:=AbD a.shape.reverse (i:Int)
 rw[List.length_reverse]at hat
 refine ⟨?_,by rw[List.length_reverse];omega⟩
 refine Af 0 (Ale _ _) (Aa (?_:Sp _ _ [dI (Et a.shape.reverse (i:Int)).reverse]) (Ac rfl))
 simp only[B_]
 exact XU _ (by omega)
def Dx:List Int→Int
 | []=>1
 | x::xs=>x*Dx xs
theorem UR : ∀ {l:List Int},(∀ x∈l,1≤x)→1≤Dx l
 | [],_=>by decide
 | x::xs,h=>by
  have:=Int.mul_le_mul (h x (by simp)) (UR (fun y hy=>h y (List.mem_cons_of_mem _ hy))) (by decide) (by have:=h x (by simp);omega)
  simpa [Dx]using this
theorem Xi : ∀ (l:List Int) (p:Int),(∀ x∈l,1≤x)→1≤p→p≤2048→Bd l p=if p*Dx l≤2048 then p*Dx l else 0
 | [],p,_,_,h=>by simp only[Bd,Dx,Int.mul_one];rw[if_pos h]
 | x::xs,p,hx,h1,h2=>by
  have hx1:=hx x (by simp)
  have hz:=UR (fun y hy=>hx y (List.mem_cons_of_mem _ hy))
  have hpx:=Int.mul_le_mul h1 hx1 (by decide) (by omega)
  rw[Mm,Dx,← Int.mul_assoc]
  have hm:=Int.mul_le_mul_of_nonneg_left hz (show 0≤p*x by omega)
  split
  · rw[if_neg (by omega)]
  · exact Xi xs (p*x) (fun y hy=>hx y (List.mem_cons_of_mem _ hy)) (by omega) (by omega)
theorem AgW{l m:List Int}(h:l.Perm m):Dx l=Dx m:=by
 induction h with
 | nil=>rfl
 | cons x _ ih=>simp only[Dx,ih]
 | swap x y l=>simp only[Dx];rw[Int.mul_left_comm]
 | trans _ _ ih1 ih2=>exact ih1.trans ih2
theorem BU{l m:List Int}(h:l.Perm m)(p:Int→Bool):l.any p=m.any p:=by
 rw[Bool.eq_iff_iff,List.any_eq_true,List.any_eq_true]
 exact ⟨fun ⟨x,hx,hp⟩=>⟨x,h.mem_iff.1 hx,hp⟩,fun ⟨x,hx,hp⟩=>⟨x,h.mem_iff.2 hx,hp⟩⟩
theorem Acl{l m:List Int}(h:l.Perm m):A5 l=A5 m:=by
 unfold A5
 rw[h.length_eq,BU h,BU h,BU h]
 split;· rfl
 split;· rfl
 split;· rfl
 split;· rfl
 rename_i h1 h2 h3 h4
 have hp:=Tt h2 h3 h4
 rw[Xi l 1 (fun x hx=>(hp x (h.mem_iff.1 hx)).1) (by decide) (by decide),Xi m 1 (fun x hx=>(hp x hx).1) (by decide) (by decide),AgW h]
def Je:List Int→List Int→List Int→Option (List Int)
 | k::l,x::sh,s=>if k<1∨(s.length:Int)<k∨0≤s.getD (k-1).toNat 0 then none else Je l sh (s.set (k-1).toNat x)
 | _,_,s=>some s
theorem AcX{s:List Int}{j:Nat}{x:Int}(hj:j<s.length)(hs:s.getD j 0<0)(hx:0≤x):((s.set j x).filter (fun y=>decide (0≤y))).Perm (x::s.filter (fun y=>decide (0≤y))):=by
 have e:s=s.take j++s[j]::s.drop (j+1):=by rw[← Am2 hj,Am6]
 have hl:(s.take j).length=j:=by rw[Amr];omega
 rw[Amf,Amb hj,Option.getD_some]at hs
 generalize s[j]=v at e hs
 generalize s.take j=A at e hl
 generalize s.drop (j+1)=B at e
 subst e
 rw[← hl,Rk,List.filter_append,List.filter_append,List.filter_cons,List.filter_cons,if_pos (by simpa using hx),if_neg (by simp;omega)]
 exact List.perm_middle
theorem TI : ∀ (l sh s r:List Int),Je l sh s=some r→l.length=sh.length→(∀ x∈sh,0≤x) →
  (r.filter (fun y=>decide (0≤y))).Perm (s.filter (fun y=>decide (0≤y))++sh)∧r.length=s.length∧∀ k∈l,1≤k∧k≤(s.length:Int)
 | [],[],s,r,h,_,_=>by
  simp only[Je,Amk]at h
  subst h
  exact ⟨by simp,rfl,fun k hk=>by simp at hk⟩
 | k::l,x::sh,s,r,h,hl,hx=>by
  simp only[Je]at h
  split at h
  · cases h
  · rename_i g
    obtain ⟨i1,i2,i3⟩:=TI l sh _ r h (by simpa using hl) (fun y hy=>hx y (List.mem_cons_of_mem _ hy))
    rw[List.length_set]at i2 i3
    refine ⟨?_,i2,?_⟩
    · have:=AcX (s:=s) (j:=(k-1).toNat) (x:=x) (by omega) (by omega) (hx x (by simp))
      refine i1.trans ((this.append_right sh).trans ?_)
      exact List.perm_middle.symm
    · intro y hy
      rcases Amw.1 hy with rfl | hy
      · omega
      · exact i3 y hy
 | [],x::sh,s,r,_,hl,_=>by simp at hl
 | k::l,[],s,r,_,hl,_=>by simp at hl
theorem Ag4{l sh r:List Int}(h:Je l sh (Amc l.length (-1))=some r)(hl:l.length=sh.length)(hx : ∀ x∈sh,0≤x):r.Perm sh∧∀ k∈l,1≤k∧k≤(l.length:Int):=by
 obtain ⟨h1,h2,h3⟩:=TI l sh _ r h hl hx
 rw[Anf]at h2 h3
 have e:(Amc l.length (-1:Int)).filter (fun y=>decide (0≤y)) = []:=by
  rw[List.filter_eq_nil_iff]
  intro y hy
  rw[List.eq_of_mem_replicate hy];decide
 rw[e,Anm]at h1
 have hfl:r.filter (fun y=>decide (0≤y))=r:=by
  refine List.filter_eq_self.2 (List.length_filter_eq_length_iff.1 ?_)
  rw[h1.length_eq,h2,hl]
 rw[hfl]at h1
 exact ⟨h1,h3⟩
def Fx(l:List Int)(at_:List Int):List Int:=l.map (fun k=>at_.getD (k-1).toNat 0)
theorem Ag3(l at_:List Int)(hl:l.length=at_.length)(hn:l.length≤1000)(hk : ∀ k∈l,1≤k∧k≤(l.length:Int)) :
  Dq Tryz.prog md 95 [.ref 23] [dI at_,.ref (dI l)] [dI (Fx l at_)]:=by
 refine Af 4096 (AkX _ _ _) ?_
 simp only[B_,AX]
 refine Aa (I0 at_ (by omega)) ?_
 have key:=Cw l.length (fun m i (_:Unit)=>AP 4096 m ((Fx (l.take i) at_++at_.drop i).map D.int) (at_.map D.int) (dI l) (l.length:Int) (i:Int)) (fun _ _=>[dI (Fx l at_)]) (fun _ _=>True)
  (fun m _ _=>by
   rw[Aaz]
   refine Aq (Ac ?_)
   rw[List.take_length,List.drop_of_length_le (by omega),Amx];rfl)
  (fun m i _ hi _ ih=>by
   have h1:l[i]? = some l[i]:=Amb hi
   have hkk:=hk l[i] (Anh hi)
   have e1:l.take (i+1)=l.take i++[l[i]]:=EG h1
   have hlen:(Fx (l.take i) at_++at_.drop i).length=l.length:=by simp[Fx];omega
   have Cg:(Fx (l.take i) at_++at_.drop i).set i (at_.getD (l[i] - 1).toNat 0)=Fx (l.take (i+1)) at_++at_.drop (i+1):=by
    have hpl:(Fx (l.take i) at_).length=i:=by simp[Fx];omega
    rw[Am2 (show i<at_.length by omega)]
    have:=Rk (Fx (l.take i) at_) at_[i] (at_.getD (l[i] - 1).toNat 0) (at_.drop (i+1))
    rw[hpl]at this
    rw[this,e1];simp only[Fx,List.map_append,Ani,List.map_nil,Amz,List.singleton_append]
   generalize l[i]=k at *
   rw[Aaz]
   have hw:Al6 .i64 (k-1)=k-1:=At (by omega) (by omega)
   simp only[B_,Amd,Amj,As h1,Al,hw,hlen,Gz (show (k-1).toNat<at_.length by omega),Bb i]
   refine Ad (Ad (Ad (Ad (Ad (Ad (Ad ?_))))))
   rw[← List.map_set,Cg]
   exact ih () trivial)
  4096 0 () (by omega) (by omega) trivial
 simpa [Fx]using key
def Mk(p a:Arr):Arr×Int:=if (A8 p).2≠0 then (.none,(A8 p).2) else if (A8 p).1.length≠a.shape.length then (.none,4) else
 match Je (A8 p).1 a.shape (Amc (A8 p).1.length (-1)) with
 | none=>(.none,3)
 | some s=>(Jd (Da a (Av p)) s (Fx (A8 p).1),0)
theorem AkY(p a:Arr)(hk:Fits p)(hkl:p.cells.length≤2048)(hkt : ∀ c∈p.cells,c.n.top.length≤32)(ha:A5 a.shape=((a.cells.length:Int),0)):Sp 38 [dA p,dA a] [dA (Mk p a).1,.int (Mk p a).2]:=by
 have hl6:=(I3 ha).1
 have h0s:=(Gr (l:=a.shape) (by rw[ha])).2
 refine Af 4096 (AkZ _ _ _) (Aa (J0 p hkl hkt) ?_)
 have hun:Mk p a=Mk p a:=rfl
 conv at hun=>rhs;unfold Mk
 generalize Mk p a=R at *
 generalize hl:(A8 p).1=l at *
 generalize (A8 p).2=e at *
 simp only[Ah,Cr]
 refine Ae (fun h=>Ac (by rw[hun,if_pos h])) (fun h=> ?_)
 rw[if_neg h]at hun
 refine Ae (fun h1=>Ac (by rw[hun,if_pos (by omega)])) (fun h1=> ?_)
 have hll:l.length=a.shape.length:=by omega
 rw[if_neg (by omega)]at hun
 refine Ad (Ad (Ax (by simp only[Aj];omega) ?_))
 have second:=B3 l (fun m i (s:List Int)=>AQ 4096 m (s.map D.int) (dI l) (l.length:Int) (i:Int) (dA p) (dA a) 0 e (dI l)) (fun _ _=>[dA R.1,.int R.2])
  (fun rest s=>Je l a.shape (Amc l.length (-1))=Je rest (a.shape.drop (l.length-rest.length)) s∧s.length=l.length)
  (fun m i s hi hI=>by
   rw[Aa0]
   refine Aq (Aa (Es p hk) ?_)
   simp only[Ah]
   refine Aa (F1 a (Av p)) ?_
   have hg:Je l a.shape (Amc l.length (-1))=some s:=by rw[hI.1];rfl
   rw[hg]at hun
   obtain ⟨hp1,hp2⟩:=Ag4 hg hll (fun x hx=>(h0s x hx).1)
   have hcs:A5 s=((a.cells.length:Int),0):=by rw[Acl hp1,ha]
   have hrc:(Da a (Av p)).cells=a.cells:=by cases a;rfl
   have hrs:(Da a (Av p)).shape=a.shape:=by cases a;rfl
   have hle:=(F5 a.shape).2
   rw[ha]at hle
   simp only[Ah]
   refine Aa (?_:Sp _ _ [dA (Jd (Da a (Av p)) s (Fx l))]) (Ac (by rw[hun];rfl))
   refine Af 4096 (Alm _ _ _ _) ?_
   simp only[Ah]
   rw[hrc]
   refine Ad (Ad (Ax (by simp only[Aj]at *; omega) ?_))
   rw[← hrc]
   refine Wf _ _ (Da a (Av p)) s (by rw[hrs,hrc];exact ha) (by omega) (fun n m3 s1 c t19 t20 a3 t6=>Ali n m3 s1 _ c t19 t20 a3 t6) (fun i hi=> ?_)
   rw[hrc]at hi
   have hat:=BZ hcs (i:=i) (by omega)
   exact ⟨Ag3 l _ (by rw[hat];omega) (by omega) hp2,by unfold Fx;rw[Amd];omega⟩)
  (fun m i s k rest hdr hI ih=>by
   obtain ⟨h4,h2,h3⟩:=Bx hdr
   have hle:=congrArg List.length hdr
   rw[Amp,Amg]at hle
   obtain ⟨hI,hsl⟩:=hI
   rw[show l.length-(k::rest).length=i by rw[Amg];omega,Am2 (show i<a.shape.length by omega)]at hI
   rw[show l.length-rest.length=i+1 by omega]at ih
   have hsi:a.shape[i]? = some a.shape[i]:=Amb (by omega)
   generalize a.shape[i]=x at *
   rw[Aa0]
   simp only[Ah,As h2,As hsi,hsl]
   simp only[Je,hsl]at hI
   refine Ad (Ad (Ad (Ae (fun g=>Ac ?_) (fun g=>Ae (fun g2=>Ac ?_) (fun g2=> ?_)))))
   · rw[if_pos (.inl g)]at hI;rw[hI]at hun;rw[hun,Cr]
   · rw[if_pos (.inr (.inl g2))]at hI;rw[hI]at hun;rw[hun,Cr]
   · have hw:Al6 .i64 (k-1)=k-1:=At (by omega) (by omega)
     simp only[hw,Gz (show (k-1).toNat<s.length by omega),Al]
     refine Ad (Ad (Ae (fun g3=>Ac ?_) (fun g3=>Ad (Ad (Ad (Ad ?_))))))
     · rw[if_pos (.inr (.inr g3))]at hI;rw[hI]at hun;rw[hun,Cr]
     · rw[if_neg (by omega)]at hI
       rw[← List.map_set,D0 (by omega)]
       exact ih _ ⟨hI,by rw[List.length_set];exact hsl⟩)
  4096 0 (Amc l.length (-1)) (by omega) (by omega) ⟨by simp,by simp⟩
 have first:=Cw l.length (fun m i (_:Unit)=>AR 4096 m ((Amc i (-1:Int)++Amc (l.length-i) 0).map D.int) (l.length:Int) (i:Int) (dA p) (dA a) 0 e (dI l)) (fun _ _=>[dA R.1,.int R.2]) (fun _ _=>True)
  (fun m _ _=>by
   rw[Aa1]
   refine Aq ?_
   simp only[Nat.sub_self,List.replicate_zero,Amx,B_,Amd]
   exact second)
  (fun m i _ hi _ ih=>by
   rw[Aa1]
   simp only[Amd,Amm,Anf,Amj]
   refine Ad (Ad (Ad ?_))
   rw[D0 (by omega),← List.map_set]
   have e1:(Amc i (-1:Int)++Amc (l.length-i) 0).set i (-1)=Amc (i+1) (-1:Int)++Amc (l.length-(i+1)) 0:=by
     rw[show l.length-i=(l.length-(i+1))+1 by omega,List.replicate_succ (a:=(0:Int))]
     have:=Rk (Amc i (-1:Int)) 0 (-1) (Amc (l.length-(i+1)) 0)
     rw[Anf]at this
     rw[this,List.replicate_succ' (n:=i)];simp
   rw[e1]
   exact ih () trivial)
  4096 0 () (by omega) (by omega) trivial
 simpa using first
structure Bk where
 sh:List Int
 cs:List Cell
 al:Bool
def Bk.d (x:Bk):D:=F3 x.sh x.cs x.al
theorem Ri : ∀ (l m:List Int),Dx (l++m)=Dx l*Dx m
 | [],m=>by simp[Dx]
 | x::xs,m=>by simp only[List.cons_append,Dx,Ri xs m,Int.mul_assoc]
theorem UP : ∀ (l:List Int),Bd l 0=0
 | []=>rfl
 | x::xs=>by rw[Mm,Int.zero_mul,if_neg (by decide)];exact UP xs
theorem UM : ∀ (l:List Int) (p:Int),0∈l→Bd l p=0
 | x::xs,p,h=>by
  rw[Mm]
  split
  · rfl
  · rcases Amw.1 h with h | h
    · rw[← h,Int.mul_zero];exact UP xs
    · exact UM xs _ h
theorem Rg : ∀ (l:List Int) (p:Int),(∀ x∈l,0≤x∧x≤2048)→0≤p→p≤2048→0≤Bd l p∧Bd l p≤2048
 | [],p,_,h1,h2=>⟨h1,h2⟩
 | x::xs,p,h,h1,h2=>by
  rw[Mm]
  split
  · omega
  · exact Rg xs _ (fun y hy=>h y (List.mem_cons_of_mem _ hy)) (Int.mul_nonneg h1 (h x (by simp)).1) (by omega)
theorem Rh{l:List Int}(hl : ∀ x∈l,0≤x∧x≤2048)(h:Bd l 1≠0):(∀ x∈l,1≤x)∧Bd l 1=Dx l:=by
 have h1 : ∀ x∈l,1≤x:=fun x hx=>by
  have:=(hl x hx).1
  rcases Int.lt_or_eq_of_le this with g | g
  · omega
  · exact absurd (UM l 1 (by rw[g];exact hx)) h
 refine ⟨h1,?_⟩
 rw[Xi l 1 h1 (by decide) (by decide),Int.one_mul]at h ⊢
 split at h
 · rename_i g;rw[if_pos g]
 · exact absurd rfl h
theorem CU{s:List Int}{c:Int}(h:A5 s=(c,0))(h1 : ∀ x∈s,1≤x):c=Dx s∧Dx s≤2048:=by
 have hle:=(F5 s).2
 rw[h]at hle
 rcases (I3 h).2 with ⟨h0,_⟩ | ⟨h2,h3,h4⟩
 · exact absurd (h1 0 h0) (by decide)
 · have:=(Rh (fun x hx=>⟨by have:=(h2 x hx).1;omega,(h2 x hx).2⟩) (by rw[h3];exact h4)).2
   simp only at hle
   omega
structure BkOk (x:Bk) (axes:Nat):Prop where
 len:x.sh.length=axes
 rng : ∀ v∈x.sh,0≤v∧v≤2048
 cells:x.al=false→(∀ v∈x.sh,1≤v)→(x.cs.length:Int)=Dx x.sh
 alone:x.al=true→1≤x.cs.length
 few:x.cs.length≤2048
def Gl(a:Arr)(other:List Int)(axes axis:Nat):Option Bk :=
 if a.shape.length=axes then some ⟨a.shape,a.cells,false⟩
 else if a.shape.length=0 then some ⟨if other.length=0 then [1] else other.set axis 1,a.cells,true⟩
 else if a.shape.length+1=axes then some ⟨a.shape.take axis++[1]++a.shape.drop axis,a.cells,false⟩
 else none
theorem AaF{a:Arr}{other:List Int}{axes axis:Nat}{x:Bk}(h:Gl a other axes axis=some x)(ha:A5 a.shape=((a.cells.length:Int),0))(ho : ∀ v∈other,0≤v∧v≤2048)(h1:1≤axes)(h2:axis<axes)(h3:a.shape.length=0→other.length=0→axes=1)(h4:a.shape.length=0→other.length≠0→axes=other.length):BkOk x axes:=by
 have hr:=(Gr (l:=a.shape) (by rw[ha])).2
 have hle:=(F5 a.shape).2
 rw[ha]at hle
 have hcl:a.cells.length≤2048:=by simp only at hle;omega
 unfold Gl at h
 split at h
 · rename_i g
   injection h with h;subst h
   exact ⟨g,hr,fun _ hv=>(CU ha hv).1,(fun h=>by cases h),hcl⟩
 split at h
 · rename_i g0 g
   injection h with h;subst h
   have hc:a.cells.length=1:=by
     have e:a.shape = []:=Am1.1 g
     rw[e,show A5 []=(1,0) by decide]at ha
     injection ha with ha;omega
   refine ⟨?_,?_,(fun h=>by cases h),fun _=>by show 1≤a.cells.length;omega,hcl⟩
   · simp only
     split
     · rename_i g2;rw[h3 g g2];rfl
     · rename_i g2;rw[List.length_set,h4 g g2]
   · simp only
     split
     · intro v hv;rw[List.mem_singleton.1 hv];decide
     · intro v hv
       rcases List.mem_or_eq_of_mem_set hv with q | q
       · exact ho v q
       · rw[q];decide
 split at h
 · rename_i g0 g1 g
   injection h with h;subst h
   refine ⟨?_,?_,fun _ hv=> ?_,(fun h=>by cases h),hcl⟩
   · simp only[Amm,Amr,Amg,Amu,Amp];omega
   · intro v hv
     simp only[List.mem_append,List.mem_singleton]at hv
     rcases hv with (q | q) | q
     · exact hr v (List.mem_of_mem_take q)
     · rw[q];decide
     · exact hr v (List.mem_of_mem_drop q)
   · have hv2 : ∀ v∈a.shape,1≤v:=fun v hvv=>hv v (by
       rw[← Am6 axis a.shape,List.mem_append]at hvv
       simp only[List.mem_append,List.mem_singleton]
       rcases hvv with q | q
       · exact .inl (.inl q)
       · exact .inr q)
     simp only[Ri,Dx,Int.mul_one]
     rw[← Ri,Am6]
     exact (CU ha hv2).1
 · cases h
theorem PX(a:Arr)(other:List Int)(axes axis:Nat)(hl:a.shape.length≤1000)(ho:other.length≤1000)(h1:1≤axes)(h2:axis<axes)(h5:axes≤1000)(h4:a.shape.length=0→other.length≠0→axes=other.length) :
   Sp 172 [dA a,dI other,.int (axes:Int),.int (axis:Int)] (match Gl a other axes axis with | some x=>[x.d,.bool true] | none=>[F3 [] [] false,.bool false]):=by
 refine Af 0 (AdT _ _ _ _ _) ?_
 have hw:Al6 .i64 ((axes:Int)-1)=(axes:Int)-1:=At (by omega) (by omega)
 simp only[Ah,hw,List.replicate_zero,Anm,Amu,← List.map_take,← List.map_drop,Amr,Amp,Amg]
 unfold Gl
 refine Ad (Ad (Ax (by simp only[Aj];omega) (Ae (fun g=> ?_) (fun g=>Ae (fun g1=> ?_) (fun g1=>Ae (fun g2=> ?_) (fun g2=> ?_))))))
 · rw[if_pos (by omega)]
   exact Ax (by simp only[Aj];omega) (Ac rfl)
 · rw[if_neg (by omega),if_pos (by omega)]
   refine Ae (fun q=> ?_) (fun q=> ?_)
   · exact Ax (by simp[Aj]) (Ac (by rw[if_pos (by omega)];rfl))
   · have:=h4 (by omega) (by omega)
     rw[if_neg (by omega)]
     refine Ax (by simp only[Aj];omega) (Ad (Ad (Ac ?_)))
     rw[show (D.int 1)=D.int ((1:Int)) from rfl,← List.map_set];rfl
 · rw[if_neg (by omega),if_neg (by omega),if_pos (by omega)]
   refine Ad (Ad (Ax (by simp only[Aj];omega) (Ax (by simp only[Aj];omega) (Ad (Ad (Ax (by simp only[Aj,Amm,Amd,Amr,Amg,Amu];omega) (Ac ?_)))))))
   simp[Bk.d,F3,dI]
 · rw[if_neg (by omega),if_neg (by omega),if_neg (by omega)]
   exact Ac rfl
def Io(x:Bk)(i n:Nat):List Cell:=if x.al then Amc n (x.cs.getD 0 (Be 0)) else (x.cs.take (i*n+n)).drop (i*n)
theorem XX(x:Bk)(i n:Nat):(Io x i n).length≤n:=by
 unfold Io
 split
 · simp
 · simp only[Amp,Amr];omega
theorem PW(x:Bk)(r:List Cell)(i n:Nat)(h1:x.al=false→i*n+n≤x.cs.length)(h2:x.al=true→1≤x.cs.length)(hc:x.cs.length≤2048)(hn:n≤100000)(hr:r.length≤1000000) :
  Sp 174 [x.d,.sl (r.map dC),.int (i:Int),.int (n:Int)] [.sl ((r++Io x i n).map dC)]:=by
 obtain ⟨sh,cs,al⟩:=x
 simp only at h1 h2 hc
 cases al with
 | false =>
  have:=AdR sh cs r (i:Int) (n:Int) (by omega) (by omega) (by have:=h1 rfl;omega) hc hr
  rw[show ((i:Int)*(n:Int)+(n:Int)).toNat=i*n+n by omega,show ((i:Int)*(n:Int)).toNat=i*n by omega]at this
  exact this
 | true =>
  have hc1:=h2 rfl
  refine Af 100001 (PT _ _ _ _ _) (D6 rfl ?_)
  simp only[Ds,Al]
  have hg:(cs.map dC).getD 0 D.nil=dC (cs.getD 0 (Be 0)):=by
   rw[As (Amb (by omega)),Amf,Amb (by omega)];rfl
  have key:=Cw n (fun m k (_:Unit)=>Vt 100001 m ((r++Amc k (cs.getD 0 (Be 0))).map dC) (n:Int) (k:Int) (F3 sh cs true)) (fun _ _=>[.sl ((r++Io ⟨sh,cs,true⟩ i n).map dC)]) (fun _ _=>True)
   (fun m _ _=>by
    rw[PS]
    exact Aq (Ac rfl))
   (fun m k _ hk _ ih=>by
    rw[PS]
    simp only[F3,J7,Ds,Amd,Int.toNat_zero,hg]
    refine Ad (Ad (Ad (Ax (by simp only[Amm,Anf,Amg,Amu,Aj];omega) ?_)))
    have:=ih () trivial
    rw[List.replicate_succ',← Amz,List.map_append]at this
    rw[D0 (by omega)]
    exact this)
   100001 0 () (by omega) (by omega) trivial
  simpa [Bk.d]using key
def FL(x y:Bk)(axis:Nat)(s:List Int):List Cell :=
 (Am9 (Bd (s.take axis) 1).toNat).flatMap (fun i=>Io x i ((x.sh.getD axis 0).toNat*(Bd (s.drop (axis+1)) 1).toNat)++Io y i ((y.sh.getD axis 0).toNat*(Bd (s.drop (axis+1)) 1).toNat))
structure Near (x:Bk) (axis:Nat) (s:List Int):Prop where
 ahead:x.sh.take axis=s.take axis
 behind:x.sh.drop (axis+1)=s.drop (axis+1)
theorem SF{x:Bk}{axes axis:Nat}{s:List Int}(hx:BkOk x axes)(ha:axis<axes)(hn:Near x axis s)(hs : ∀ v∈s,0≤v∧v≤2048)(hal:x.al=false) :
  (Bd (s.take axis) 1).toNat*((x.sh.getD axis 0).toNat*(Bd (s.drop (axis+1)) 1).toNat)≤x.cs.length:=by
 have r1:=Rg (s.take axis) 1 (fun v hv=>hs v (List.mem_of_mem_take hv)) (by decide) (by decide)
 have r2:=Rg (s.drop (axis+1)) 1 (fun v hv=>hs v (List.mem_of_mem_drop hv)) (by decide) (by decide)
 have hk:x.sh.getD axis 0=x.sh[axis]'(by rw[hx.len];exact ha):=by rw[Amf,Amb (by rw[hx.len];exact ha)];rfl
 have hkr:=hx.rng _ (Anh (by rw[hx.len];exact ha):x.sh[axis]'(by rw[hx.len];exact ha)∈x.sh)
 have hsplit:x.sh=s.take axis++x.sh.getD axis 0::s.drop (axis+1):=by
  rw[← hn.ahead,← hn.behind,hk,← Am2,Am6]
 rw[← hk]at hkr
 generalize x.sh.getD axis 0=k at *
 rcases Decidable.em (Bd (s.take axis) 1=0) with e | e
 · rw[e];simp
 rcases Decidable.em (Bd (s.drop (axis+1)) 1=0) with e2 | e2
 · rw[e2];simp
 rcases Decidable.em (k=0) with e3 | e3
 · rw[e3];simp
 obtain ⟨p1,p2⟩:=Rh (fun v hv=>hs v (List.mem_of_mem_take hv)) e
 obtain ⟨p3,p4⟩:=Rh (fun v hv=>hs v (List.mem_of_mem_drop hv)) e2
 have hc:=hx.cells hal (fun v hv=>by
  rw[hsplit]at hv
  rcases List.mem_append.1 hv with q | q
  · exact p1 v q
  · rcases Amw.1 q with q | q
    · omega
    · exact p3 v q)
 rw[hsplit,Ri,Dx,← p2,← p4]at hc
 generalize Bd (s.take axis) 1=A at *
 generalize Bd (s.drop (axis+1)) 1=B at *
 obtain ⟨A',rfl⟩ : ∃ n:Nat,A=(n:Int):=⟨A.toNat,by omega⟩
 obtain ⟨B',rfl⟩ : ∃ n:Nat,B=(n:Int):=⟨B.toNat,by omega⟩
 obtain ⟨k',rfl⟩ : ∃ n:Nat,k=(n:Int):=⟨k.toNat,by omega⟩
 simp only[Amj]
 have:(x.cs.length:Int)=((A'*(k'*B'):Nat):Int):=by rw[hc];simp
 omega
theorem AdO(x y:Bk)(axes axis:Nat)(s:List Int)(hx:BkOk x axes)(hy:BkOk y axes)(ha:axis<axes)(hnx:Near x axis s)(hny:Near y axis s)(hsl:s.length=axes)(hsx:s.getD axis 0=x.sh.getD axis 0+y.sh.getD axis 0)(hc:(A5 s).2=0) :
  Sp 88 [Fw x.d y.d (axis:Int),dI s] [.sl ((FL x y axis s).map dC)]:=by
 obtain ⟨hl6,hs⟩:=Gr hc
 have r1:=Rg (s.take axis) 1 (fun v hv=>hs v (List.mem_of_mem_take hv)) (by decide) (by decide)
 have r2:=Rg (s.drop (axis+1)) 1 (fun v hv=>hs v (List.mem_of_mem_drop hv)) (by decide) (by decide)
 have gx:(x.sh.map D.int).getD axis D.nil=D.int (x.sh.getD axis 0):=Gz (by rw[hx.len];exact ha)
 have gy:(y.sh.map D.int).getD axis D.nil=D.int (y.sh.getD axis 0):=Gz (by rw[hy.len];exact ha)
 have memD : ∀ {l:List Int},axis<l.length→l.getD axis 0∈l:=fun h=>by rw[Amf,Amb h];exact Anh h
 have kx:=hx.rng _ (memD (l:=x.sh) (by rw[hx.len];exact ha))
 have ky:=hy.rng _ (memD (l:=y.sh) (by rw[hy.len];exact ha))
 have cx:=fun h=>SF hx ha hnx hs h
 have cy:=fun h=>SF hy ha hny hs h
 have tot:(Bd (s.take axis) 1).toNat*((s.getD axis 0).toNat*(Bd (s.drop (axis+1)) 1).toNat)≤2048:=by
  have ms:=hs _ (memD (l:=s) (by omega))
  have hk:s.getD axis 0=s[axis]:=by rw[Amf,Amb (by omega)];rfl
  have hsplit:s=s.take axis++s.getD axis 0::s.drop (axis+1):=by rw[hk,← Am2,Am6]
  rcases Decidable.em (Bd (s.take axis) 1=0) with e | e
  · rw[e];simp
  rcases Decidable.em (Bd (s.drop (axis+1)) 1=0) with e2 | e2
  · rw[e2];simp
  rcases Decidable.em (s.getD axis 0=0) with e3 | e3
  · rw[e3];simp
  obtain ⟨p1,p2⟩:=Rh (fun v hv=>hs v (List.mem_of_mem_take hv)) e
  obtain ⟨p3,p4⟩:=Rh (fun v hv=>hs v (List.mem_of_mem_drop hv)) e2
  have hz:=(CU (s:=s) (c:=(A5 s).1) (by rw[← hc]) (fun v hv=>by
   rw[hsplit]at hv
   rcases List.mem_append.1 hv with q | q
   · exact p1 v q
   · rcases Amw.1 q with q | q
     · omega
     · exact p3 v q)).2
  rw[hsplit,Ri,Dx,← p2,← p4]at hz
  generalize Bd (s.take axis) 1=A at *
  generalize Bd (s.drop (axis+1)) 1=B at *
  generalize s.getD axis 0=k at *
  obtain ⟨A',rfl⟩ : ∃ n:Nat,A=(n:Int):=⟨A.toNat,by omega⟩
  obtain ⟨B',rfl⟩ : ∃ n:Nat,B=(n:Int):=⟨B.toNat,by omega⟩
  obtain ⟨k',rfl⟩ : ∃ n:Nat,k=(n:Int):=⟨k.toNat,by omega⟩
  simp only[Amj]
  have:((A'*(k'*B'):Nat):Int)≤2048:=by simpa using hz
  omega
 rw[hsx]at tot
 have ar:=JJ s (axis:Int)
 rw[show Ll s (axis:Int) = [.int (Bd (s.take axis) 1),.int (s.getD axis 0),.int (Bd (s.drop (axis+1)) 1),.bool true] by unfold Ll;rw[if_pos ⟨hc,by omega,by omega⟩];rfl]at ar
 refine Af 4096 (AdP _ _ _) ?_
 simp only[Fw,Bk.d,F3,J6,J7,U4,Al]
 refine Aa ar ?_
 unfold FL
 generalize hA:Bd (s.take axis) 1=A at *
 generalize hB:Bd (s.drop (axis+1)) 1=B at *
 generalize hX:x.sh.getD axis 0=X at *
 generalize hY:y.sh.getD axis 0=Y at *
 obtain ⟨A',rfl⟩ : ∃ n:Nat,A=(n:Int):=⟨A.toNat,by omega⟩
 obtain ⟨B',rfl⟩ : ∃ n:Nat,B=(n:Int):=⟨B.toNat,by omega⟩
 obtain ⟨X',rfl⟩ : ∃ n:Nat,X=(n:Int):=⟨X.toNat,by omega⟩
 obtain ⟨Y',rfl⟩ : ∃ n:Nat,Y=(n:Int):=⟨Y.toNat,by omega⟩
 simp only[Amj]at *
 rw[show ((X':Int)+(Y':Int)).toNat=X'+Y' by omega,Nat.add_mul]at tot
 have b1:X'*B'≤2048*2048:=Nat.mul_le_mul (by omega) (by omega)
 have b2:Y'*B'≤2048*2048:=Nat.mul_le_mul (by omega) (by omega)
 have w1:Al6 .i64 ((X':Int)*(B':Int))=((X'*B':Nat):Int):=by rw[← Int.natCast_mul];exact At (by omega) (by omega)
 have w2:Al6 .i64 ((Y':Int)*(B':Int))=((Y'*B':Nat):Int):=by rw[← Int.natCast_mul];exact At (by omega) (by omega)
 have w3:Al6 .i64 (((X'*B':Nat):Int)+((Y'*B':Nat):Int))=((X'*B'+Y'*B':Nat):Int):=by rw[At (by omega) (by omega)];simp
 have w4:Al6 .i64 ((A':Int)*((X'*B'+Y'*B':Nat):Int))=((A'*(X'*B'+Y'*B'):Nat):Int):=by rw[← Int.natCast_mul];exact At (by omega) (by omega)
 simp only[Ag,U_,Al,B_,Amd,hx.len,hy.len,Amj,Int.toNat_zero,gx,gy,w1,w2,w3,w4]
 refine Ad (Ad (Ad (Ad (Ad (Ad (Ax (by simp only[Aj];omega) ?_))))))
 have key:=Cw A' (fun m k (r:List Cell)=>Vv 4096 m ((X'*B':Nat):Int) ((Y'*B':Nat):Int) (r.map dC) (A':Int) (k:Int) (Fw x.d y.d (axis:Int))) (fun _ _=>[.sl (((Am9 A').flatMap (fun i=>Io x i (X'*B')++Io y i (Y'*B'))).map dC)])
  (fun k r=>r=(Am9 k).flatMap (fun i=>Io x i (X'*B')++Io y i (Y'*B'))∧r.length≤k*(X'*B'+Y'*B'))
  (fun m r hI=>by
   rw[PU,hI.1]
   exact Aq (Ac rfl))
  (fun m k r hk hI ih=>by
   have hkA:(k+1)*(X'*B'+Y'*B')≤A'*(X'*B'+Y'*B'):=Amv _ (by omega)
   rw[Nat.add_mul,Nat.one_mul]at hkA
   have q : ∀ n:Nat,k*n+n≤A'*n:=fun n=>by
     have:=Amv n (show k+1≤A' by omega)
     rwa[Nat.add_mul,Nat.one_mul]at this
   have l1:=XX x k (X'*B')
   have l2:=XX y k (Y'*B')
   have s1:=PW x r k (X'*B') (fun h=>by have:=cx h;have:=q (X'*B');omega) hx.alone hx.few (by omega) (by omega)
   have s2:=PW y (r++Io x k (X'*B')) k (Y'*B') (fun h=>by have:=cy h;have:=q (Y'*B');omega) hy.alone hy.few (by omega) (by rw[Amm];omega)
   rw[PU]
   simp only[Fw,J6,J7]at *
   refine Ad (Aa s1 (Aa s2 ?_))
   rw[D0 (by omega)]
   refine ih _ ⟨?_,?_⟩
   · rw[List.range_succ,List.flatMap_append,← hI.1];simp
   · rw[Amm,Amm,Nat.add_mul,Nat.one_mul];omega)
  4096 0 [] (by omega) (by omega) ⟨rfl,by simp⟩
 exact key
end Go.Proofs.YtokkbgpgaheakaaGreat
