/- Proved: lemmas for the law of this folder, part 5. No condition. -/
import Derived.Test.YtokkbgpgaheakaaGreatRows
import Derived.WalkKit
import Derived.WalkSpells
import Derived.WalkLawsBesides
import Derived.Lib.Hide
import Derived.Laws.CopyOwn
import Derived.Deep.QuietTactic
import Derived.BigQuiet
import Derived.Orders
import Derived.Defers
import Derived.Recover
import Derived.Test.YtokkbgpgaheakaaGreatProg
import Derived.KernelRfl
import Derived.ProofKit
import Derived.OpenShut
import Derived.Maps.OwnRows
import Derived.Maps.Views
import Derived.Deep.RegionHeld3
import Derived.Deep.AppendLies
import Derived.Test.YtokkbgpgaheakaaGreatZ345340a9
set_option linter.unusedSimpArgs false
set_option linter.unusedVariables false
set_option maxRecDepth 100000
open Array renaming getElem?_eq_getElem → Ap7, getElem?_eq_some_iff → Aqi, getD_eq_getD_getElem? → Aqo
open BitVec renaming ofNat → Ap5
open Bool renaming and_eq_true → Apt
open Classical renaming not_not → Apw
open Int renaming toNat → Apj, toNat_natCast → Apr, fdiv → Aqd
open Go.IntKind renaming wrap → Api, bits → Apv
open List renaming getElem?_eq_getElem → Apk, replicate → Apl, length_map → Apm, getD_eq_getElem?_getD → Apn, getElem?_eq_some_iff → Apo, length_cons → App, mem_of_getElem? → Apq, length_append → Apu, length_drop → Apy, length_take → Ap0, length_nil → Ap1, getElem?_map → Ap2, mem_cons → Ap4, append_nil → Ap6, append_assoc → Ap8, map_cons → Ap9, getElem?_append_left → Ap_, drop_eq_getElem_cons → Aqa, length_eq_zero_iff → Aqb, take_append_drop → Aqf, take_of_length_le → Aqh, range → Aqj, getElem_mem → Aql, getElem?_append_right → Aqn, length_replicate → Aqp, mem_cons_of_mem → Aqq, mem_append → Aqs, mem_map → Aqw, nil_append → Aqx
open Nat renaming le_refl → Apx, mul_le_mul_right → Ap3, mod_eq_of_lt → Aqc, mod_lt → Aqe, mul_comm → Aqg, lt_of_lt_of_le → Aqk, div_div_eq_div_mul → Aqm, pow_succ → Aqr, div_lt_iff_lt_mul → Aqu, zero_add → Aqv
open Option renaming map_eq_some_iff → Apz, bind_eq_some_iff → Aqt
open Option.some renaming injEq → Aps
namespace Go.Proofs.YtokkbgpgaheakaaGreat
theorem Fits.len {a:Arr} (h:Fits a):a.cells.length≤9223372036854775807:=by cases h;assumption
theorem Fits.sh {a:Arr} (h:Fits a):a.shape.length≤9223372036854775807:=by cases h;assumption
def K8(c:Cell):Prop:=c.n.top.length≤9223372036854775807∧c.n.bot.length≤9223372036854775807∧c.inn.length≤9223372036854775807∧∀ x∈c.inn,Fits x
theorem Fits.cell {a:Arr} (h:Fits a) : ∀ c∈a.cells,K8 c:=by
 cases h with
 | mk h1 h2 h3 h5 h4=>exact fun c hc=>⟨(h3 c hc).1,(h3 c hc).2.1,(h3 c hc).2.2,h4 c hc⟩
theorem Fits.of {s:At} {sh:List Int} {cs:List Cell} (h1:sh.length≤9223372036854775807) (h2:cs.length≤9223372036854775807) (h3 : ∀ x∈sh,Bd x) (h4 : ∀ c∈cs,K8 c):Fits (.mk s sh cs) :=
 .mk h1 h2 (fun c hc=>⟨(h4 c hc).1,(h4 c hc).2.1,(h4 c hc).2.2.1⟩) h3 (fun c hc=>(h4 c hc).2.2.2)
mutual
def Az:Arr→At
 | .mk s _ cs=>Ul s cs
def Ul:At→List (CellF Arr)→At
 | l,[]=>l
 | l,c::cs=>Ul (J1 l c) cs
def J1:At→CellF Arr→At
 | l,⟨cl,_,_,_,inn⟩=>Uk (l|||cl) inn
def Uk:At→List Arr→At
 | l,[]=>l
 | l,a::as_=>Uk (l|||Az a) as_
end
theorem Aca : ∀ (as_:List Arr) (l:At),Uk l as_=as_.foldl (fun l x=>l|||Az x) l
 | [],l=>by simp[Uk]
 | a::as_,l=>by simp[Uk,Aca as_]
theorem CZ(l:At)(c:Cell):J1 l c=c.inn.foldl (fun l x=>l|||Az x) (l|||c.l):=by cases c;rw[J1,Aca]
theorem Acb : ∀ (cs:List Cell) (l:At),Ul l cs=cs.foldl J1 l
 | [],l=>by simp[Ul]
 | c::cs,l=>by simp[Ul,Acb cs]
theorem CY(a:Arr):Az a=a.cells.foldl J1 a.s:=by cases a;rw[Az,Acb];rfl
def Cq(a:Arr):Bool:=match a.shape,a.cells with
 | [],[c]=>decide (¬ c.kind=2)
 | _,_=>false
def Jl(c:Cell)(r:Arr→Bool):Bool:=match c.inn with
 | [x]=> !Cq x&&r x
 | _=>false
def C8(k:Bool)(r:Arr→Bool)(c:Cell):Bool :=
 if c.kind=0 then decide (c.c=0∧c.inn.length=0)&&Ev c.n
 else if c.kind=1 then decide (c.n = .zero∧c.inn.length=0)&&Xv c.c
 else decide (c.kind=2∧c.n = .zero∧c.c=0)&&(k&&Jl c r)
def Am:Nat→Arr→Bool
 | 0,a=>decide (A8 a.shape=((a.cells.length:Int),0))&&a.cells.all (C8 false (fun _=>false))
 | d+1,a=>decide (A8 a.shape=((a.cells.length:Int),0))&&a.cells.all (C8 true (Am d))
def Bo:Nat→Cell→Bool
 | 0=>C8 false (fun _=>false)
 | d+1=>C8 true (Am d)
theorem BA(d:Nat)(a:Arr):Am d a=(decide (A8 a.shape=((a.cells.length:Int),0))&&a.cells.all (Bo d)):=by cases d <;> rfl
theorem AmD{Q:List D→Prop}(a:Arr)(hq:Q [.bool (Cq a)]):(Tree.br (decide ((a.shape.length:Int)=0)) (.br (decide ((a.cells.length:Int)=1)) (.br (decide (0≤(0:Int))) (.br (decide (0<(a.cells.length:Int))) (.ret [D.bool (decide (¬ (((((a.cells.map dC).getD (Apj 0) D.nil).fld 1).toInt)=2)))]) .fail) .fail) (.ret [D.bool false])) (.ret [D.bool false])).wp Tryz.prog md Q:=by
 unfold Cq at hq
 refine Ae (fun h1=>Ae (fun h2=> ?_) (fun h2=>Ac ?_)) (fun h1=>Ac ?_)
 · match hs:a.shape,hc:a.cells with
   | [],[c] =>
    rw[hs,hc]at hq
    exact Ad (Ay (by simp) (Ac (by simpa [Apj]using hq)))
   | x::xs,_=>rw[hs]at h1;simp at h1;omega
   | _,[]=>rw[hc]at h2;simp at h2
   | _,x::y::xs=>rw[hc]at h2;simp at h2;omega
 · match hs:a.shape,hc:a.cells with
   | [],[c]=>rw[hc]at h2;simp at h2
   | x::xs,_=>rw[hs]at hq;exact hq
   | [],[]=>rw[hs,hc]at hq;exact hq
   | [],x::y::xs=>rw[hs,hc]at hq;exact hq
 · match hs:a.shape,hc:a.cells with
   | [],_=>rw[hs]at h1;simp at h1
   | x::xs,_=>rw[hs]at hq;exact hq
theorem Alw(a:Arr):Sp 136 [dA a] [.bool (Cq a)]:=by
 refine Af 0 (Alx _ _) ?_
 simp only[Ah]
 exact AmD a rfl
theorem Aah(n:Num):Sp 134 [dN n] [.bool (decide (n = .zero))]:=by
 refine Af 0 (Al1 _ _) ?_
 simp only[Nt,Pi,Nu,B5,Apm,Bc,Cp]
 have e:(n=Num.zero)↔(n.neg=false∧n.top.length=0∧n.bot.length=0):=by
  rw[IU,Aqb,Aqb];rfl
 refine Cl (fun h1=>Ae (fun h2=>Ac ?_) (fun h2=>Ac ?_)) (fun h1=>Ac ?_)
 · congr 2;rw[decide_eq_decide,e];exact ⟨fun h=>⟨by simpa using h1,by omega,by omega⟩,fun h=>by omega⟩
 · rw[decide_eq_false];rw[e];omega
 · rw[decide_eq_false];rw[e];simp at h1;simp[h1]
theorem ZK(d:Nat)(c:Cell)(hc:K8 c)(hd:d≤100)(ih : ∀ e,e+1=d→∀ a,Fits a→Sp 13 [dA a,.int (e:Int)] [.bool (Am e a)]):Sp 53 [dC c,.int (d:Int)] [.bool (Bo d c)]:=by
 suffices key : ∀ (k:Bool) (r:Arr→Bool),(k=true↔0<d)→(∀ a,k=true→Fits a→Sp 13 [dA a,.int ((d:Int)-1)] [.bool (r a)])→Sp 53 [dC c,.int (d:Int)] [.bool (C8 k r c)] by
   cases d with
   | zero=>exact key false (fun _=>false) (by simp) (by simp)
   | succ e=>exact key true (Am e) (by simp) (fun a _ ha=>by have:=ih e rfl a ha;simpa using this)
 intro k r hk hr
 refine Af 0 (Alj _ _ _) ?_
 simp only[Ah]
 unfold C8
 refine Ae (fun h0=> ?_) (fun h0=> ?_)
 · rw[if_pos h0]
   refine Ae (fun h1=>Ae (fun h2=>Aa (AkT c.n) (Ac ?_)) (fun h2=>Ac ?_)) (fun h1=>Ac ?_)
   · rw[decide_eq_true ⟨h1,by omega⟩];rfl
   · rw[decide_eq_false (by omega)];rfl
   · rw[decide_eq_false (by omega)];rfl
 rw[if_neg h0]
 refine Ae (fun h0=>Aa (Aah c.n) ?_) (fun h0=> ?_)
 · rw[if_pos h0]
   simp only[Ag,Bc]
   refine Ae (fun h1=>Ae (fun h2=>Aa (Alb c.c) (Ac ?_)) (fun h2=>Ac ?_)) (fun h1=>Ac ?_)
   · rw[decide_eq_true ⟨h1,by omega⟩];rfl
   · rw[decide_eq_false (fun hh=>h2 (by omega))];rfl
   · rw[decide_eq_false (fun hh=>h1 hh.1)];rfl
 rw[if_neg h0]
 refine Ae (fun h0=>Aa (Aah c.n) ?_) (fun h0=>Ac (by rw[decide_eq_false (fun hh=>h0 hh.1)];rfl))
 simp only[Ag,Bc]
 refine Ae (fun h1=>Ae (fun h2=>Ae (fun h3=>Ae (fun h4=> ?_) (fun h4=>Ac ?_)) (fun h3=>Ac ?_)) (fun h2=>Ac ?_)) (fun h1=>Ac ?_)
 · have hkt:=hk.2 (by omega)
   rw[show decide (c.kind=2∧c.n = .zero∧c.c=0)=true from decide_eq_true ⟨h0,h1,h2⟩,hkt,Bool.true_and,Bool.true_and]
   unfold Jl
   match hi:c.inn with
   | []=>rw[hi]at h3;simp at h3
   | x::y::xs=>rw[hi]at h3;simp at h3;omega
   | [x] =>
    simp only[Ap9,List.map_nil,Int.toNat_zero,Ag,App,Ap1]
    refine Ad (Ad (Aa (Alw x) ?_))
    simp only[Ag,Bc]
    refine Cl (fun h5=>Ad (Ad ?_)) (fun h5=>Ac (by rw[h5];rfl))
    rw[Aw (by omega) (by omega)]
    refine Aa (hr x hkt (hc.2.2.2 x (by rw[hi];simp))) (Ac ?_)
    rw[h5];rfl
 · have:k=false:=by cases k with
    | false=>rfl
    | true=>exact absurd (hk.1 rfl) (by omega)
   rw[this,Bool.false_and,Bool.and_false]
 · have:Jl c r=false:=by
    unfold Jl
    match hi:c.inn with
    | []=>rfl
    | x::y::xs=>rfl
    | [x]=>rw[hi]at h3;simp at h3
   rw[this,Bool.and_false,Bool.and_false]
 · rw[decide_eq_false (fun hh=>h2 hh.2.2)];rfl
 · rw[decide_eq_false (fun hh=>h1 hh.2.1)];rfl
theorem ZT(d:Nat)(a:Arr)(ha:Fits a)(ih : ∀ c,K8 c→Sp 53 [dC c,.int (d:Int)] [.bool (Bo d c)]):Sp 13 [dA a,.int (d:Int)] [.bool (Am d a)]:=by
 have hl:=ha.len
 refine Af (a.cells.length+1) (Als _ _ _) ?_
 simp only[Ah]
 refine Aa (Ale a.shape) ?_
 rw[BA]
 simp only[Ag,C5,Ao]
 refine Ae (fun h=>Ac ?_) (fun h=>Ae (fun h'=>Ac ?_) (fun h'=> ?_))
 · rw[decide_eq_false];rfl
   intro hh;rw[hh]at h;exact h rfl
 · rw[decide_eq_false];rfl
   intro hh;rw[hh]at h';exact h' rfl
 · have hc:A8 a.shape=((a.cells.length:Int),0):=Prod.ext (by simpa using h') (by simpa using h)
   rw[hc,decide_eq_true rfl,Bool.true_and]
   have key:=B3 a.cells (fun m k (_:Unit)=>AJ (a.cells.length+1) m (d:Int) (a.cells.length:Int) (k:Int) (dA a)) (fun rest _=>[.bool (rest.all (Bo d))]) (fun _ _=>True)
    (fun m k s hk _=>by
     simp only[ZS]
     exact Ar (Ac rfl))
    (fun m k s x rest hd _ ih'=>by
     obtain ⟨h1,h2,h3⟩:=By hd
     simp only[ZS,Ah,Au h2,Bh k]
     repeat (refine Ad ?_)
     refine Aa (ih x (ha.cell x (Apq h2))) ?_
     simp only[Ag,Bc,List.all_cons]
     refine Cl (fun h4=>Ac ?_) (fun h4=> ?_)
     · simp at h4;rw[h4];rfl
     · simp at h4;rw[h4,Bool.true_and];exact ih' () trivial)
    (a.cells.length+1) 0 () (by omega) (by omega) trivial
   exact key
theorem ZR : ∀ d:Nat,d≤100→(∀ c,K8 c→Sp 53 [dC c,.int (d:Int)] [.bool (Bo d c)])∧∀ a,Fits a→Sp 13 [dA a,.int (d:Int)] [.bool (Am d a)]
 | 0,hd=>by
  have hc : ∀ c,K8 c→Sp 53 [dC c,.int ((0:Nat):Int)] [.bool (Bo 0 c)]:=fun c hc=>ZK 0 c hc hd (fun e he=>by omega)
  exact ⟨hc,fun a ha=>ZT 0 a ha hc⟩
 | d+1,hd=>by
  have ih:=ZR d (by omega)
  have hc : ∀ c,K8 c→Sp 53 [dC c,.int ((d+1:Nat):Int)] [.bool (Bo (d+1) c)]:=fun c hc=>ZK (d+1) c hc hd (fun e he=>by
   have:e=d:=by omega
   subst this;exact ih.2)
  exact ⟨hc,fun a ha=>ZT (d+1) a ha hc⟩
theorem Alr(a:Arr)(ha:Fits a):Sp 13 [dA a,.int 8] [.bool (Am 8 a)]:=(ZR 8 (by decide)).2 a ha
def J8(x:Int):Int:=Api .i64 x
def Ss(r:Arr→Int→Int):List Arr→Int→Int
 | [],n=>n
 | a::as_,n=>if 0≤n then Ss r as_ (r a n) else n
def Su(r:Arr→Int→Int):List Cell→Int→Int
 | [],n=>n
 | c::cs,n=>if 0≤n then Su r cs (Ss r c.inn (J8 (J8 (J8 (n-1)-(c.n.top.length:Int))-(c.n.bot.length:Int)))) else n
def P3:Nat→Arr→Int→Int
 | 0,_,_=> -1
 | d+1,a,n=>Su (P3 d) a.cells (J8 (J8 (n-1)-(a.shape.length:Int)))
def QM(a:Arr):Bool:=decide (0≤P3 12 a 4000)
theorem Aac : ∀ (d:Nat),d≤100→∀ (a:Arr),Fits a→∀ n:Int,Sp 161 [dA a,.int (d:Int),.int n] [.int (P3 d a n)]
 | 0,_,a,ha,n=>Af 0 (Aad _ _ _ _) (Bi rfl (Ac rfl))
 | d+1,hd,a,ha,n=>by
  obtain ⟨N,hN⟩:=Vj
  have hl:=ha.len
  refine Af N (Aad _ _ _ _) ?_
  simp only[Ah]
  refine Ar ?_
  have key:=B3 a.cells (fun m k (n:Int)=>Tq N m ((d+1:Nat):Int) n (k:Int) (dA a)) (fun rest n=>[.int (Su (P3 d) rest n)]) (fun _ _=>True)
   (fun m k n hk _=>by
    simp only[Aaa,Ah]
    exact Ar (Ac rfl))
   (fun m k n c rest hdr _ ih=>by
    obtain ⟨h1,h2,h3⟩:=By hdr
    have hc:=ha.cell c (Apq h2)
    have hlc:=hc.2.2.1
    simp only[Aaa,Ah,Au h2,Su]
    refine Ad (Ae (fun hn=> ?_) (fun hn=>Ac (by rw[if_neg hn])))
    rw[if_pos hn]
    repeat (refine Ad ?_)
    have key:=B3 c.inn (fun m' j (n:Int)=>AR N m m' ((d+1:Nat):Int) n (k:Int) (j:Int) (dA a)) (fun rest' n=>[.int (Su (P3 d) rest (Ss (P3 d) rest' n))]) (fun _ _=>True)
     (fun m' j n hj _=>by
      simp only[Aab,Ah,Au h2,Bh k,Ss]
      repeat (refine Ad ?_)
      exact Ar (ih _ trivial))
     (fun m' j n x rest' hdr' _ ih'=>by
      obtain ⟨g1,g2,g3⟩:=By hdr'
      simp only[Aab,Ah,Au h2,Au g2,Bh k,Bh j,Ss]
      refine Ad (Ad (Ad (Ae (fun hn=> ?_) (fun hn=>by rw[if_neg hn];exact ih _ trivial))))
      rw[if_pos hn]
      repeat (refine Ad ?_)
      rw[Aw (by omega) (by omega),show ((d+1:Nat):Int)-1=(d:Int) by omega]
      exact Aa (Aac d (by omega) x (hc.2.2.2 x (Apq g2)) n) (ih' _ trivial))
     N 0 (J8 (J8 (J8 (n-1)-(c.n.top.length:Int))-(c.n.bot.length:Int))) (by omega) (by omega) trivial
    exact key)
   N 0 (J8 (J8 (n-1)-(a.shape.length:Int))) (by omega) (by omega) trivial
  exact key
theorem Alm(a:Arr)(ha:Fits a):Sp 75 [dA a] [.bool (QM a)]:=Af 0 (Aln _ _) (Aa (Aac 12 (by decide) a ha 4000) (Ac rfl))
def Uj:List Int→Int→Int
 | [],n=>n
 | x::xs,n=>if n≤100000 then Uj xs (if 0<x then J8 (n*x) else n) else n
def S8(n:Int):Bool:=decide (¬ 100000<n)
mutual
def Rc:Arr→Bool
 | .mk _ sh cs=>S8 (Uj sh 1)&&K4 cs
def K4:List (CellF Arr)→Bool
 | []=>true
 | c::cs=>LZ c&&K4 cs
def LZ:CellF Arr→Bool
 | ⟨_,_,_,_,inn⟩=>Re inn
def Re:List Arr→Bool
 | []=>true
 | a::as_=>Rc a&&Re as_
end
theorem AnD(a:Arr):Rc a=(S8 (Uj a.shape 1)&&K4 a.cells):=by cases a;rw[Rc];rfl
theorem AnE(c:Cell):LZ c=Re c.inn:=by cases c;rw[LZ]
theorem Alz(a:Arr):Fits a→Sp 76 [dA a] [.bool (Rc a)]:=by
 induction a using Arr.ind with
 | h s sh cs IH =>
  intro ha
  have hl:=ha.len
  have hs:=ha.sh
  have IH' : ∀ c∈(Arr.mk s sh cs).cells,∀ x∈c.inn,Fits x→Sp 76 [dA x] [.bool (Rc x)]:=IH
  generalize Arr.mk s sh cs=a at *
  obtain ⟨N,hN⟩:=Vj
  refine Af N (Al0 _ _) ?_
  rw[AnD]
  have inner:Tw (On N N 0 (dA a)) [.bool (K4 a.cells)]:=by
   have key:=B3 a.cells (fun m k (_:Unit)=>On N m (k:Int) (dA a)) (fun rest _=>[.bool (K4 rest)]) (fun _ _=>True)
    (fun m k n hk _=>by
     simp only[Aae,Ah]
     exact Ar (Ac (by rw[K4])))
    (fun m k n c rest hdr _ ih=>by
     obtain ⟨h1,h2,h3⟩:=By hdr
     have hc:=ha.cell c (Apq h2)
     have hlc:=hc.2.2.1
     simp only[Aae,Ah,Au h2]
     repeat (refine Ad ?_)
     rw[K4,AnE]
     have key:=B3 c.inn (fun m' j (_:Unit)=>AS N m m' (k:Int) (j:Int) (dA a)) (fun rest' _=>[.bool (Re rest'&&K4 rest)]) (fun _ _=>True)
      (fun m' j n hj _=>by
       simp only[Aaf,Ah,Au h2,Bh k]
       repeat (refine Ad ?_)
       rw[Re,Bool.true_and]
       exact Ar (ih () trivial))
      (fun m' j n x rest' hdr' _ ih'=>by
       obtain ⟨g1,g2,g3⟩:=By hdr'
       simp only[Aaf,Ah,Au h2,Au g2,Bh j]
       repeat (refine Ad ?_)
       refine Aa (IH' c (Apq h2) x (Apq g2) (hc.2.2.2 x (Apq g2))) ?_
       simp only[Ag,Bc]
       rw[Re]
       refine Cl (fun e=>Ac ?_) (fun e=> ?_)
       · simp at e;rw[e];rfl
       · simp at e;rw[e,Bool.true_and];exact ih' () trivial)
      N 0 () (by omega) (by omega) trivial
     exact key)
    N 0 () (by omega) (by omega) trivial
   exact key
  have fin : ∀ n:Int,Tw (.br (decide (100000<n)) (.ret [D.bool false]) (On N N 0 (dA a))) [.bool (S8 n&&K4 a.cells)]:=fun n=>by
   unfold S8
   refine Ae (fun h=>Ac ?_) (fun h=> ?_)
   · rw[decide_eq_false (fun hh=>hh h)];rfl
   · rw[decide_eq_true h,Bool.true_and];exact inner
  have key:=B3 a.shape (fun m k (n:Int)=>Tt N m n (k:Int) (dA a)) (fun rest n=>[.bool (S8 (Uj rest n)&&K4 a.cells)]) (fun _ _=>True)
   (fun m k n hk _=>by
    simp only[Aag,Ah]
    exact Ar (fin n))
   (fun m k n x rest hdr _ ih=>by
    obtain ⟨h1,h2,h3⟩:=By hdr
    simp only[Aag,Ah,Au h2,Bh k,Uj]
    refine Ad (Ae (fun hn=>Ad (Ad (Ae (fun hx=>Ad (Ad ?_)) (fun hx=> ?_)))) (fun hn=> ?_))
    · rw[if_pos hn,if_pos hx];exact ih _ trivial
    · rw[if_pos hn,if_neg hx];exact ih _ trivial
    · rw[if_neg hn];exact fin n)
   N 0 1 (by omega) (by omega) trivial
  exact key
def W8(a:Arr):Bool:=QM a&&Am 8 a&&Rc a
theorem ZO(a:Arr)(ha:Fits a):Sp 30 [dA a] [.bool (W8 a)]:=by
 refine Af 0 (Alo _ _) (Aa (Alm a ha) ?_)
 unfold W8
 simp only[Ag,Bc]
 refine Cl (fun e1=>Aa (Alr a ha) ?_) (fun e1=>Ac (by rw[e1];rfl))
 simp only[Ag,Bc]
 refine Cl (fun e2=>Aa (Alz a ha) (Ac ?_)) (fun e2=>Ac (by rw[e2,Bool.and_false];rfl))
 rw[e1,e2];rfl
theorem ZZ(a:Arr):Fits a→Sp 17 [dA a] [dB (Az a)]:=by
 induction a using Arr.ind with
 | h s sh cs IH =>
  intro ha
  have hl:=ha.len
  have IH' : ∀ c∈(Arr.mk s sh cs).cells,∀ x∈c.inn,Fits x→Sp 17 [dA x] [dB (Az x)]:=IH
  generalize Arr.mk s sh cs=a at *
  obtain ⟨N,hN⟩:=Vj
  refine Af N (Aly _ _) ?_
  rw[CY]
  have key:=B3 a.cells (fun m k (l:At)=>AP N m (l.toNat:Int) (k:Int) (dA a)) (fun rest l=>[dB (rest.foldl J1 l)]) (fun _ _=>True)
   (fun m k l hk _=>by
    simp only[ZX,Ah]
    exact Ar (Ac rfl))
   (fun m k l c rest hdr _ ih=>by
    obtain ⟨h1,h2,h3⟩:=By hdr
    have hc:=ha.cell c (Apq h2)
    have hlc:=hc.2.2.1
    simp only[ZX,Ah,Au h2]
    repeat (refine Ad ?_)
    refine Aa (Zz l c.l) ?_
    simp only[Ag,Ej,List.foldl_cons]
    rw[CZ]
    have key:=B3 c.inn (fun m' j (l:At)=>AQ N m m' (l.toNat:Int) (k:Int) (j:Int) (dA a)) (fun rest' l=>[dB (rest.foldl J1 (rest'.foldl (fun l x=>l|||Az x) l))]) (fun _ _=>True)
     (fun m' j l hj _=>by
      simp only[ZY,Ah,Au h2,Bh k]
      repeat (refine Ad ?_)
      exact Ar (ih _ trivial))
     (fun m' j l x rest' hdr' _ ih'=>by
      obtain ⟨g1,g2,g3⟩:=By hdr'
      simp only[ZY,Ah,Au h2,Au g2,Bh j]
      repeat (refine Ad ?_)
      refine Aa (IH' c (Apq h2) x (Apq g2) (hc.2.2.2 x (Apq g2))) (Aa (Zz l (Az x)) ?_)
      exact ih' (l|||Az x) trivial)
     N 0 (l|||c.l) (by omega) (by omega) trivial
    exact key)
   N 0 a.s (by omega) (by omega) trivial
  simp only[V5,Ej]
  exact key
noncomputable def Jo(a b:Arr):Bool:= @decide (a=b) (Classical.propDecidable _)
noncomputable def Kg(a b:Cell):Bool:= @decide (a=b) (Classical.propDecidable _)
theorem Mh{a b:Arr} : Jo a b=true↔a=b:=by unfold Jo;exact @decide_eq_true_iff _ (Classical.propDecidable _)
theorem FX{a b:Arr}(h:a≠b):Jo a b=false:=by cases e:Jo a b with
 | false=>rfl
 | true=>exact absurd (Mh.1 e) h
theorem Pk{a b:Cell} : Kg a b=true↔a=b:=by unfold Kg;exact @decide_eq_true_iff _ (Classical.propDecidable _)
theorem R8{a b:Cell}(h:a≠b):Kg a b=false:=by cases e:Kg a b with
 | false=>rfl
 | true=>exact absurd (Pk.1 e) h
theorem AeR(a:Cell):Kg a a=true:=Pk.2 rfl
theorem OO(a b:Cell):(a=b)↔(a.l=b.l∧a.kind=b.kind∧a.c=b.c∧a.n=b.n∧a.inn=b.inn):=by
 cases a;cases b
 constructor
 · rintro ⟨⟩;exact ⟨rfl,rfl,rfl,rfl,rfl⟩
 · rintro ⟨h1,h2,h3,h4,h5⟩;dsimp only at h1 h2 h3 h4 h5;subst h1;subst h2;subst h3;subst h4;subst h5;rfl
theorem ED(a b:Arr):(a=b)↔(a.s=b.s∧a.shape=b.shape∧a.cells=b.cells):=by
 cases a;cases b;simp
theorem AaU{α:Type}{P:Program}{md:Nat→FMode}(a b:List α)(e:α→α→Bool)(he : ∀ x∈a,∀ y,e x y=true↔x=y)(hlen:a.length=b.length)(r:Bool)(hr:r=true↔a=b)(L:Nat→Nat→Tree)
  (hend : ∀ m,∀ Q:List D→Prop,Q [.bool true]→(L (m+1) a.length).wp P md Q)
  (hstep : ∀ m k x y,∀ Q:List D→Prop,a[k]? = some x→b[k]? = some y→(e x y=false→Q [.bool false])→(e x y=true→(L m (k+1)).wp P md Q)→(L (m+1) k).wp P md Q) (N:Nat) (hN:a.length<N):(L N 0).wp P md (fun zs=>zs = [.bool r]):=by
 have key:=Xs (P:=P) (md:=md) a.length (fun m k (_:Unit)=>L m k) (fun _ _=>[.bool r]) (fun k _=>a.take k=b.take k)
  (fun m s h=>by
   refine hend m _ ?_
   rw[Aqh (Apx _),Aqh (by omega)]at h
   rw[hr.2 h])
  (fun m k s hk h ih=>by
   have ha:a[k]? = some a[k]:=Apk _
   have hb:b[k]? = some (b[k]'(by omega)):=Apk _
   refine hstep m k _ _ _ ha hb (fun hf=> ?_) (fun ht=>ih () ?_)
   · have:r=false:=by
      cases hrr:r with
      | false=>rfl
      | true =>
       have:=hr.1 hrr
       subst this
       rw[(he a[k] (Aql _) a[k]).2 rfl]at hf;cases hf
     rw[this]
   · have:a[k]=b[k]:=(he a[k] (Aql _) _).1 ht
     rw[List.take_succ_eq_append_getElem hk,List.take_succ_eq_append_getElem (by omega),h,this])
  N 0 () (by omega) (by omega) (by simp)
 exact key
theorem Alt(a:Cell)(hf:K8 a)(ih : ∀ x∈a.inn,Fits x→∀ y,Sp 34 [dA x,dA y] [.bool (Jo x y)])(b:Cell):Sp 79 [dC a,dC b] [.bool (Kg a b)]:=by
 refine Af (a.inn.length+1) (Alu _ _ _) ?_
 have hl:=hf.2.2.1
 simp only[Ah]
 refine Ae (fun h=>Ac ?_) (fun h1=>Ae (fun h=>Ac ?_) (fun h2=>Ae (fun h=>Ac ?_) (fun h3=>Aa (ZG a.n b.n hf.1 hf.2.1) ?_)))
 · rw[R8];rintro rfl;exact h rfl
 · rw[R8];rintro rfl;exact h rfl
 · rw[R8];rintro rfl;exact h rfl
 simp only[Ag,Bc,Ft]
 refine Ae (fun h=>Ac ?_) (fun h4=>Ae (fun h=>Ac ?_) (fun h5=> ?_))
 · rw[R8];rintro rfl;exact h rfl
 · rw[R8];rintro rfl;exact h rfl
 have e1:a.l=b.l:=BitVec.eq_of_toNat_eq (by omega)
 refine AaU (P:=Tryz.prog) (md:=md) a.inn b.inn Jo (fun x _ y=>Mh) (by omega) (Kg a b) ?_ (fun m k=>AL (a.inn.length+1) m (k:Int) (dC a) (dC b)) ?_ ?_ (a.inn.length+1) (by omega)
 · rw[Pk,OO]
   have h2':=Apw.1 h2
   have h3':=Apw.1 h3
   have h4':=Apw.1 h4
   simp[e1,h2',h3',h4']
 · intro m Q hQ
   simp only[ZU,Ah]
   exact Ar (Ac hQ)
 · intro m k x y Q hx hy hF hT
   have hk:k<a.inn.length:=(Apo.1 hx).1
   simp only[ZU,Ah,Au hx,Au hy,Bh k]
   repeat (refine Ad ?_)
   refine Aa (ih x (Apq hx) (hf.2.2.2 x (Apq hx)) y) ?_
   simp only[Ag,Bc]
   refine Cl (fun h=>Ac (hF (by simpa using h))) (fun h=>hT (by simpa using h))
theorem ZW(a:Arr):Fits a→∀ b,Sp 34 [dA a,dA b] [.bool (Jo a b)]:=by
 induction a using Arr.ind with
 | h s sh cs IH =>
  intro ha b
  have hl:=ha.len
  have IH' : ∀ c∈(Arr.mk s sh cs).cells,∀ x∈c.inn,Fits x→∀ y,Sp 34 [dA x,dA y] [.bool (Jo x y)]:=IH
  generalize Arr.mk s sh cs=a at *
  refine Af (a.cells.length+1) (Alv _ _ _) ?_
  simp only[Ah]
  refine Ae (fun h=>Ac ?_) (fun h1=>Aa (Alh a.shape b.shape ha.sh) ?_)
  · rw[FX];rintro rfl;exact h rfl
  simp only[Ag,Bc,Ft]
  refine Ae (fun h=>Ac ?_) (fun h4=>Ae (fun h=>Ac ?_) (fun h5=> ?_))
  · rw[FX];rintro rfl;exact h rfl
  · rw[FX];rintro rfl;exact h rfl
  have e1:a.s=b.s:=BitVec.eq_of_toNat_eq (by omega)
  refine AaU (P:=Tryz.prog) (md:=md) a.cells b.cells Kg (fun x _ y=>Pk) (by omega) (Jo a b) ?_ (fun m k=>AN (a.cells.length+1) m (k:Int) (dA a) (dA b)) ?_ ?_ (a.cells.length+1) (by omega)
  · rw[Mh,ED]
    have h4':=Apw.1 h4
    simp[e1,h4']
  · intro m Q hQ
    simp only[ZV,Ah]
    exact Ar (Ac hQ)
  · intro m k x y Q hx hy hF hT
    have hk:k<a.cells.length:=(Apo.1 hx).1
    simp only[ZV,Ah,Au hx,Au hy,Bh k]
    repeat (refine Ad ?_)
    refine Aa (Alt x (ha.cell x (Apq hx)) (IH' x (Apq hx)) y) ?_
    simp only[Ag,Bc]
    refine Cl (fun h=>Ac (hF (by simpa using h))) (fun h=>hT (by simpa using h))
def Fr:List Cell→Option (List Int)
 | []=>some []
 | c::cs=>if c.kind=0 then (Dz c.n).bind (fun z=>(Fr cs).map (z:: ·)) else none
def A9(a:Arr):List Int×Int:=if 1<a.shape.length then ([],5) else match Fr a.cells with
 | some l=>(l,0)
 | none=>([],3)
def Bf(z:Int):Cell:=⟨0,0,Cy z,0,[]⟩
def Cr(a:Arr):Cell:=match a.cells with
 | []=>Bf 0
 | c::_=>if c.kind=1 then ⟨c.l,1,.zero,32,[]⟩ else ⟨c.l,0,Cy 0,0,[]⟩
theorem Ano{n:Num}{z:Int}(h:Dz n=some z):Bd z:=by
 unfold Dz Nj at h
 split at h
 · split at h
   · injection h with h;subst h;assumption
   · cases h
 · cases h
theorem So : ∀ {cs:List Cell} {l:List Int},Fr cs=some l→l.length=cs.length∧∀ x∈l,Bd x
 | [],l,h=>by simp[Fr]at h;subst h;simp
 | c::cs,l,h=>by
  simp only[Fr]at h
  split at h
  · cases hn:Dz c.n with
    | none=>rw[hn]at h;cases h
    | some z =>
     rw[hn]at h
     cases hc:Fr cs with
     | none=>rw[hc]at h;cases h
     | some l' =>
      rw[hc]at h
      injection h with h;subst h
      have:=So hc
      exact ⟨by simp[this.1],fun x hx=>by rcases Ap4.1 hx with rfl | hx;exact Ano hn;exact this.2 x hx⟩
  · cases h
def Xf(out:List Int):Option (List Int)→List D
 | some l=>[dI (out++l),.int 0]
 | none=>[.sl [],.int 3]
theorem AfR{a:Arr}(h : ¬ 1<a.shape.length):Xf [] (Fr a.cells) = [dI (A9 a).1,.int (A9 a).2]:=by
 unfold A9;rw[if_neg h];cases Fr a.cells <;> rfl
theorem ZP(z:Int)(hz:Bd z):Sp 78 [.int z] [dC (Bf z)]:=by
 refine Af 0 (Alp _ _) (Aa (AkR z hz) (Ac ?_))
 rw[D_];rfl
theorem Fi(a:Arr):Fits a→Sp 84 [dA a] [dB (Az a)]:=by
 induction a using Arr.ind with
 | h s sh cs IH =>
  intro ha
  have hl:=ha.len
  have IH' : ∀ c∈(Arr.mk s sh cs).cells,∀ x∈c.inn,Fits x→Sp 84 [dA x] [dB (Az x)]:=IH
  generalize Arr.mk s sh cs=a at *
  obtain ⟨N,hN⟩:=Vj
  refine Af N (Adp _ _) ?_
  rw[CY]
  have key:=B3 a.cells (fun m k (l:At)=>Ve N m (l.toNat:Int) (.sl (a.cells.map dC)) (a.cells.length:Int) (k:Int)) (fun rest l=>[dB (rest.foldl J1 l)]) (fun _ _=>True)
   (fun m k l hk _=>by
    simp only[NU,Ah]
    exact Ar (Ac rfl))
   (fun m k l c rest hdr _ ih=>by
    obtain ⟨h1,h2,h3⟩:=By hdr
    have hc:=ha.cell c (Apq h2)
    have hlc:=hc.2.2.1
    simp only[NU,Ah,Au h2]
    repeat (refine Ad ?_)
    refine Aa (Hk l c.l) ?_
    simp only[Ag,Ej,List.foldl_cons]
    rw[CZ]
    have key:=B3 c.inn (fun m' j (l:At)=>Vf N m m' (l.toNat:Int) (.sl (a.cells.map dC)) (a.cells.length:Int) (k:Int) (.sl (c.inn.map dA)) (c.inn.length:Int) (j:Int)) (fun rest' l=>[dB (rest.foldl J1 (rest'.foldl (fun l x=>l|||Az x) l))]) (fun _ _=>True)
     (fun m' j l hj _=>by
      simp only[NV,Ah,Au h2,Bh k]
      exact Ar (ih _ trivial))
     (fun m' j l x rest' hdr' _ ih'=>by
      obtain ⟨g1,g2,g3⟩:=By hdr'
      simp only[NV,Ah,Au h2,Au g2,Bh j]
      repeat (refine Ad ?_)
      refine Aa (IH' c (Apq h2) x (Apq g2) (hc.2.2.2 x (Apq g2))) (Aa (Hk l (Az x)) ?_)
      exact ih' (l|||Az x) trivial)
     N 0 (l|||c.l) (by omega) (by omega) trivial
    exact key)
   N 0 a.s (by omega) (by omega) trivial
  simp only[Ah]
  exact key
theorem La(a:Arr)(hl:a.cells.length≤2048)(hn : ∀ c∈a.cells,c.n.top.length≤32):Sp 80 [dA a] [dI (A9 a).1,.int (A9 a).2]:=by
 refine Af (a.cells.length+1) (Adj _ _) ?_
 simp only[Ah,List.replicate_zero]
 refine Ae (fun h=>Ac ?_) (fun h=> ?_)
 · unfold A9;rw[if_pos (by omega)];rfl
 · rw[← AfR (by omega)]
   refine Ad (Ad (Ay (by simp only[Ak];omega) ?_))
   have key:=B3 a.cells (fun m k (out:List Int)=>Vc (a.cells.length+1) m (out.map .int) (.sl (a.cells.map dC)) (a.cells.length:Int) (k:Int)) (fun rest out=>Xf out (Fr rest)) (fun rest out=>out.length+rest.length≤2048)
    (fun m k out hk _=>by
     simp only[NR,Ah]
     exact Ar (Ac (by simp[Fr,Xf,dI])))
    (fun m k out c rest hdr hI ih=>by
     obtain ⟨h1,h2,h3⟩:=By hdr
     have hm:=Apq h2
     simp only[NR,Ah,Au h2,Bh k]
     repeat (refine Ad ?_)
     simp only[Fr]
     refine Aa (Zr c.n (by have:=hn c hm;omega)) ?_
     refine Ae (fun hk=>Ac ?_) (fun hk=> ?_)
     · rw[if_neg hk];rfl
     rw[if_pos (Apw.1 hk)]
     cases hs:Dz c.n with
     | none=>exact Bi rfl (Ac rfl)
     | some z =>
      refine Eo rfl (Ay ?_ ?_)
      · simp only[App,Ap1,Ak,Apm]at hI ⊢; omega
      · have:=ih (out++[z]) (by simp only[Apu,App,Ap1]at hI ⊢; omega)
        simp only[Mw,Ag,Ao]
        rw[List.map_append]at this
        refine Tree.wp_mono this (fun ys hy=>hy.trans ?_)
        cases Fr rest with
        | none=>rfl
        | some l=>simp[Xf])
    (a.cells.length+1) 0 [] (by omega) (by omega) (by simpa using hl)
   exact key
theorem Jj(z:Int)(hz:Bd z):Sp 138 [.int z] [dC (Bf z)]:=by
 refine Af 0 (Adi _ _) (Aa (M4 z hz) (Ac ?_))
 rw[D_];rfl
def AdK(c:Int):Cell:=⟨0,1,.zero,c,[]⟩
theorem Ade(z:Int):Sp 171 [.int z] [dC (AdK z)]:=by
 refine Af 0 (Adf _ _) (Ac ?_)
 rw[D_];rfl
theorem I6:Bd 0:=by unfold Bd;decide
theorem Vb(a:Arr):Sp 82 [dA a] [dC (Cr a)]:=by
 refine Af 0 (Adh _ _) ?_
 simp only[Ah]
 unfold Cr
 match hc:a.cells with
 | []=>exact Ay (by simp) (Aa (Jj 0 I6) (Ac rfl))
 | c::cs =>
  refine Oz (by simp;omega) (Aa (Jj 0 I6) (Ad (Ay (by simp) ?_)))
  simp only[Ap9,Ag,Ah]
  refine Ae (fun h=>Aa (Ade 32) (Ad (Ay (by simp) (Ac ?_)))) (fun h=>Ad (Ay (by simp) (Ac ?_)))
  · rw[if_pos h,D_]
    simp only[Ah];rfl
  · rw[if_neg h,D_]
    simp only[Ah];rfl
theorem Ag1:lb 1 = [1]:=by rw[P0 (by decide),show 1 / B=0 by decide,Da];rfl
theorem VN(z:Int):Bt (Cy z)=z:=Dg z
theorem Aih(z:Int):Bq (Cy z)=1:=by simp[Bq,Cy,nv]
theorem TG{z:Int}(h:Bd z):(lb z.natAbs).length≤2:=Ba.2 (by unfold Bd at h;show z.natAbs<18446744073709551616;omega)
theorem AlK{z:Int}(h:Bd z):Ev (Cy z)=true:=by
 have hl:=TG h
 unfold Ev
 rw[VN,Aih]
 refine decide_eq_true ⟨by simp only[Cy];omega,by simp[Cy],?_⟩
 unfold Db
 simp only[Int.natAbs_one,Nat.gcd_one_right,Nat.div_one,Ag1]
 rw[if_neg (by decide),if_neg (by simp only[App,Ap1];omega)]
 unfold Cy
 congr 2
 by_cases hz:z<0
 · have:0<(lb z.natAbs).length:=by
    rcases Nat.eq_zero_or_pos (lb z.natAbs).length with h0 | h0
    · have:=Hl.1 h0;omega
    · exact h0
   simp[hz,this]
 · simp[hz]
theorem Anp{z:Int}(h:Bd z):Dz (Cy z)=some z:=by
 unfold Dz Nj
 rw[if_pos (show (Cy z).bot = [1] from rfl),VN,if_pos h]
theorem BB{n:Num}(h:Ev n=true):n.top.length≤32∧n.bot.length≤32:=by
 have:=of_decide_eq_true h
 exact ⟨this.1,this.2.1⟩
theorem Tx{d:Nat}{c:Cell}(h:Bo d c=true):c.n.top.length≤32∧c.n.bot.length≤32∧c.inn.length≤1:=by
 suffices key : ∀ k r,C8 k r c=true→c.n.top.length≤32∧c.n.bot.length≤32∧c.inn.length≤1 by
   cases d with
   | zero=>exact key _ _ h
   | succ d=>exact key _ _ h
 intro k r h
 unfold C8 at h
 split at h
 · simp only[Apt,decide_eq_true_eq]at h
   exact ⟨(BB h.2).1,(BB h.2).2,by omega⟩
 split at h
 · simp only[Apt,decide_eq_true_eq]at h
   rw[h.1.1];exact ⟨by decide,by decide,by omega⟩
 · simp only[Apt,decide_eq_true_eq]at h
   rw[h.1.2.1]
   refine ⟨by decide,by decide,?_⟩
   have hb:=h.2.2
   unfold Jl at hb
   split at hb
   · rename_i hi;rw[hi];simp
   · cases hb
theorem Ck{d:Nat}{a:Arr}(h:Am d a=true):A8 a.shape=((a.cells.length:Int),0)∧∀ c∈a.cells,Bo d c=true:=by
 rw[BA]at h
 simp only[Apt,decide_eq_true_eq,List.all_eq_true]at h
 exact h
theorem G8{d:Nat}{a:Arr}(h1:A8 a.shape=((a.cells.length:Int),0))(h2 : ∀ c∈a.cells,Bo d c=true):Am d a=true:=by
 rw[BA]
 simp only[Apt,decide_eq_true_eq,List.all_eq_true]
 exact ⟨h1,h2⟩
theorem Dm{d:Nat}{a:Arr}(h:Am d a=true):a.cells.length≤2048∧a.shape.length≤6∧∀ x∈a.shape,0≤x∧x≤2048:=by
 have h1:=(Ck h).1
 have h2:=Fz a.shape
 have h3:=Gr (l:=a.shape) (by rw[h1])
 rw[h1]at h2
 exact ⟨by simp only at h2;omega,h3⟩
theorem Qz{d:Nat}{a:Arr}(h:Am d a=true) : ∀ c∈a.cells,c.n.top.length≤32:=fun c hc=>(Tx ((Ck h).2 c hc)).1
theorem J0{z:Int}(d:Nat)(h:Bd z):Bo d (Bf z)=true:=by
 have : ∀ k r,C8 k r (Bf z)=true:=by
  intro k r
  unfold C8
  rw[if_pos (show (Bf z).kind=0 from rfl)]
  have:=AlK h
  simp only[Bf,this];rfl
 cases d <;> exact this _ _
theorem Dn{z:Int}(h1 : -100000≤z)(h2:z≤100000):Bd z:=by unfold Bd;omega
def Sml:Nat→Arr→Prop
 | 0,_=>False
 | d+1,a=>a.shape.length≤1048576∧a.cells.length≤1048576∧(∀ x∈a.shape,Bd x)∧∀ c∈a.cells,c.n.top.length≤1048576∧c.n.bot.length≤1048576∧c.inn.length≤1048576∧∀ x∈c.inn,Sml d x
def SmlC(d:Nat)(c:Cell):Prop:=c.n.top.length≤1048576∧c.n.bot.length≤1048576∧c.inn.length≤1048576∧∀ x∈c.inn,Sml d x
theorem Sml.succ {d:Nat} {a:Arr} (h:Sml d a) : ∃ e,d=e+1:=by
 cases d with
 | zero=>exact h.elim
 | succ e=>exact ⟨e,rfl⟩
theorem Sml.cell {d:Nat} {a:Arr} (h:Sml (d+1) a) : ∀ c∈a.cells,SmlC d c:=h.2.2.2
theorem Sml.of {d:Nat} {a:Arr} (h1:a.shape.length≤1048576) (h2:a.cells.length≤1048576) (h3 : ∀ x∈a.shape,Bd x) (h4 : ∀ c∈a.cells,SmlC d c):Sml (d+1) a:=⟨h1,h2,h3,h4⟩
theorem Sml.fits : ∀ {d:Nat} {a:Arr},Sml d a→Fits a
 | 0,_,h=>h.elim
 | d+1,.mk s sh cs,⟨h1,h2,h3,h4⟩=>by
  have h1':sh.length≤1048576:=h1
  have h2':cs.length≤1048576:=h2
  refine Fits.of (by omega) (by omega) h3 (fun c hc=> ?_)
  obtain ⟨g1,g2,g3,g4⟩:=h4 c hc
  exact ⟨by omega,by omega,by omega,fun x hx=>(g4 x hx).fits⟩
theorem SmlC.fits {d:Nat} {c:Cell} (h:SmlC d c):K8 c:=⟨by have:=h.1;omega,by have:=h.2.1;omega,by have:=h.2.2.1;omega,fun x hx=>(h.2.2.2 x hx).fits⟩
theorem Sml.mono : ∀ {d e:Nat} {a:Arr},Sml d a→d≤e→Sml e a
 | 0,_,_,h,_=>h.elim
 | d+1,0,_,_,hle=>by omega
 | d+1,e+1,a,⟨h1,h2,h3,h4⟩,hle=>⟨h1,h2,h3,fun c hc=>⟨(h4 c hc).1,(h4 c hc).2.1,(h4 c hc).2.2.1,fun x hx=>((h4 c hc).2.2.2 x hx).mono (by omega)⟩⟩
theorem SmlC.mono {d e:Nat} {c:Cell} (h:SmlC d c) (hle:d≤e):SmlC e c:=⟨h.1,h.2.1,h.2.2.1,fun x hx=>(h.2.2.2 x hx).mono hle⟩
theorem Q3{d:Nat}{c:Cell}(h:Bo d c=true) : ∀ x∈c.inn,∃ e,d=e+1∧Cq x=false∧Am e x=true∧c.inn = [x]∧c.kind=2:=by
 have key : ∀ k r,C8 k r c=true→∀ x∈c.inn,k=true∧Cq x=false∧r x=true∧c.inn = [x]∧c.kind=2:=by
  intro k r h x hx
  unfold C8 at h
  split at h
  · simp only[Apt,decide_eq_true_eq]at h
    rw[Aqb.1 h.1.2]at hx;cases hx
  split at h
  · simp only[Apt,decide_eq_true_eq]at h
    rw[Aqb.1 h.1.2]at hx;cases hx
  · simp only[Apt,decide_eq_true_eq]at h
    obtain ⟨h1,h2,h3⟩:=h
    unfold Jl at h3
    split at h3
    · rename_i y hy
      rw[hy]at hx ⊢
      have:x=y:=by simpa using hx
      subst this
      simp only[Apt,Bool.not_eq_true']at h3
      exact ⟨h2,h3.1,h3.2,rfl,h1.1⟩
    · cases h3
 cases d with
 | zero=>intro x hx;exact absurd (key _ _ h x hx).1 (by simp)
 | succ e=>intro x hx;exact ⟨e,rfl,(key _ _ h x hx).2⟩
theorem Cd : ∀ {d:Nat} {a:Arr},Am d a=true→Sml (d+1) a
 | 0,a,h=>by
  have hl:=Dm h
  refine ⟨by omega,by omega,fun x hx=>Dn (by have:=hl.2.2 x hx;omega) (by have:=hl.2.2 x hx;omega),fun c hc=> ?_⟩
  have hc':=(Ck h).2 c hc
  have:=Tx hc'
  exact ⟨by omega,by omega,by omega,fun x hx=>by obtain ⟨e,he,_⟩:=Q3 hc' x hx;omega⟩
 | d+1,a,h=>by
  have hl:=Dm h
  refine ⟨by omega,by omega,fun x hx=>Dn (by have:=hl.2.2 x hx;omega) (by have:=hl.2.2 x hx;omega),fun c hc=> ?_⟩
  have hc':=(Ck h).2 c hc
  have:=Tx hc'
  refine ⟨by omega,by omega,by omega,fun x hx=> ?_⟩
  obtain ⟨e,he,_,hr,_⟩:=Q3 hc' x hx
  have:e=d:=by omega
  subst this
  exact Cd hr
theorem Aa7{d:Nat}{c:Cell}(h:Bo d c=true):SmlC d c:=by
 have:=Tx h
 refine ⟨by omega,by omega,by omega,fun x hx=> ?_⟩
 obtain ⟨e,rfl,_,hr,_⟩:=Q3 h x hx
 exact Cd hr
theorem Vq(es:List D)(h:es.length≤1048576):Tw (.amb es.isEmpty (.ret [D.sl []]) (.br (decide (([]:List D).length+es.length≤Ak)) (.ret [D.sl ([]++es)]) .fail)) [D.sl es]:=by
 refine AcB (fun h=>Ac ?_) (Ay ?_ (Ac ?_))
 · rw[List.isEmpty_iff.1 h]
 · simp only[Ap1,Ak];omega
 · rw[Aqx]
theorem OU(l:List Aq)(h:l.length≤1048576):Sp 247 [dL l] [dL l]:=Af 0 (AmH _ _) (by simp only[B5];exact Vq _ (by simpa using h))
theorem Kc(l:List Int)(h:l.length≤1048576):Sp 96 [dI l] [dI l]:=Af 0 (Abw _ _) (by simp only[Cf];exact Vq _ (by simpa using h))
theorem AdO(l:List Cell)(h:l.length≤1048576):Sp 139 [.sl (l.map dC)] [.sl (l.map dC)]:=Af 0 (AmG _ _) (by simp only[Ee];exact Vq _ (by simpa using h))
theorem AdN(l:List Arr)(h:l.length≤1048576):Sp 248 [.sl (l.map dA)] [.sl (l.map dA)]:=Af 0 (AmF _ _) (by simp only[Ee];exact Vq _ (by simpa using h))
theorem EG{d:Nat}(c:Cell)(h:SmlC d c):Sp 214 [dC c] [dC c]:=by
 refine Af 0 (Adx _ _) ?_
 simp only[Ah]
 refine Aa (OU _ h.1) (Aa (OU _ h.2.1) (Aa (AdN _ h.2.2.1) (Ac ?_)))
 simp only[Ag,B5,Ee,AeF]
 rw[D_];rfl
def Fg(c:Cell):Arr:= .mk 0 [] [c]
def K6(l:List Cell):Arr:= .mk 0 [(l.length:Int)] l
def Cw(a:Arr)(l:At):Arr:= .mk (a.s|||l) a.shape a.cells
theorem Rt{d:Nat}(c:Cell)(h:SmlC d c):Sp 178 [dC c] [dA (Fg c)]:=by
 refine Af 0 (Adn _ _) (Aa (EG c h) (Ac ?_))
 rw[D4];rfl
theorem Rs(n:Num)(h1:n.top.length≤1048576)(h2:n.bot.length≤1048576):Sp 257 [dN n] [dC ⟨0,0,n,0,[]⟩]:=by
 refine Af 0 (Adl _ _) (Aa (ys:=[dC ⟨0,0,n,0,[]⟩]) ?_ (Ac rfl))
 have:=EG (d:=0) ⟨0,0,n,0,[]⟩ ⟨h1,h2,by simp,by simp⟩
 rw[D_]at this ⊢
 exact this
theorem Nd{α:Type}{f:α→D}{z:D}(pre:List α)(x:α)(k:Nat):((pre.map f)++Apl (k+1) z).set pre.length (f x)=((pre++[x]).map f)++Apl k z:=by
 rw[List.set_append_right _ _ (by simp),Apm,Nat.sub_self,List.replicate_succ,List.set_cons_zero]
 simp
theorem C9:D.agg [D.int 0,D.sl [],D.sl []]=dA .none:=by rw[D4];rfl
theorem H2:D.agg [D.int 0,D.int 0,D.agg [D.bool false,D.sl [],D.sl []],D.int 0,D.sl []]=dC Cell.none:=by rw[D_];rfl
theorem O6{d:Nat}(l:List Cell)(h : ∀ c∈l,SmlC d c)(hl:l.length≤1048576):Sp 149 [.sl (l.map dC)] [dA (K6 l)]:=by
 refine Af (l.length+1) (Adr _ _) ?_
 simp only[Ah,H2]
 refine Ad (Ad (Ay (by simp only[Ak];omega) ?_))
 have key:=B3 l (fun m k (cs:List D)=>Vg (l.length+1) m (.sl (l.map dC)) cs (.sl (l.map dC)) (l.length:Int) (k:Int) 0) (fun _ _=>[dA (K6 l)])
  (fun rest cs=>∃ pre,l=pre++rest∧cs=pre.map dC++Apl rest.length (dC Cell.none))
  (fun m k cs hk hI=>by
   obtain ⟨pre,h1,rfl⟩:=hI
   simp only[NW,Ah]
   refine Ar (Ac ?_)
   rw[Ap6]at h1
   rw[D4,K6];subst h1;simp[dI];rfl)
  (fun m k cs c rest hdr hI ih=>by
   obtain ⟨h1,h2,h3⟩:=By hdr
   obtain ⟨pre,hp,rfl⟩:=hI
   have hk:k=pre.length:=by
    have:=congrArg List.length hdr
    rw[hp]at this h1
    simp at this h1;omega
   simp only[NW,Ah,Au h2,Bh k]
   repeat (refine Ad ?_)
   refine Aa (EG c (h c (Apq h2))) ?_
   have hlen:(pre.map dC++Apl (rest.length+1) (dC Cell.none)).length=l.length:=by rw[hp];simp
   rw[App,hlen]
   refine Ad (Ad ?_)
   rw[Ag,hk,Nd,← hk]
   exact ih _ ⟨pre++[c],by rw[hp];simp,rfl⟩)
  (l.length+1) 0 (Apl l.length (dC Cell.none)) (by omega) (by omega) ⟨[],by simp,by simp⟩
 exact key
theorem Ha(a:Arr)(l:At):Sp 90 [dA a,dB l] [dA (Cw a l)]:=by
 refine Af 0 (Adm _ _ _) ?_
 simp only[Ah]
 refine Aa (Hk a.s l) (Ac ?_)
 rw[D4];rfl
def Jh(c:Cell):Arr:=match c.inn with
 | [x]=>if c.kind=2 then Cw x c.l else .mk c.l [] [c]
 | _=> .mk c.l [] [c]
theorem Aj9(c:Cell):Cw (Fg c) c.l = .mk c.l [] [c]:=by simp[Cw,Fg]
theorem MM{c:Cell}(h : ¬ (c.kind=2∧c.inn.length=1)):Jh c = .mk c.l [] [c]:=by
 unfold Jh
 split
 · rename_i x hx
   rw[if_neg (fun hk=>h ⟨hk,by rw[hx];rfl⟩)]
 · rfl
theorem Acr{c:Cell}{x:Arr}(h:c.kind=2)(hx:c.inn = [x]):Jh c=Cw x c.l:=by unfold Jh;rw[hx];simp[h]
theorem Mp{α:Type}{l:List α}(h:l.length=1) : ∃ x,l = [x]:=by
 match l,h with
 | [x],_=>exact ⟨x,rfl⟩
theorem EF{d:Nat}(c:Cell)(h:SmlC d c):Sp 104 [dC c] [dA (Jh c)]:=by
 refine Af 0 (Adq _ _) ?_
 simp only[Ah]
 have other : ¬ (c.kind=2∧c.inn.length=1)→Tw (.call 178 [] [dC c] fun Y2=> .call 90 [] [qA Y2,dB c.l] fun Y3=> .ret [qA Y3]) [dA (Jh c)]:=fun hn=>by
  refine Aa (Rt c h) (Aa (Ha (Fg c) c.l) (Ac ?_))
  rw[Ag,Aj9,MM hn]
 refine Ae (fun h1=>Ae (fun h2=> ?_) (fun h2=>other (by omega))) (fun h1=>other (by omega))
 obtain ⟨x,hx⟩:=Mp (show c.inn.length=1 by omega)
 rw[Acr h1 hx]
 simp only[hx,Ap9,List.map_nil,App,Ap1,Ag]
 exact Ad (Ad (Aa (Ha x c.l) (Ac rfl)))
theorem Ads(a:Arr):Sp 213 [dA a] [.bool (decide (a.shape.length=0∧a.cells.length=1))]:=by
 refine Af 0 (Adt _ _) ?_
 simp only[Ah]
 refine Ae (fun h=>Ac ?_) (fun h=>Ac ?_)
 · congr 2;rw[decide_eq_decide];omega
 · rw[decide_eq_false (fun hh=>h (by omega))]
theorem NT(a:Arr):Sp 146 [dA a] [.bool (Cq a)]:=by
 refine Af 0 (Ado _ _) (Aa (Ads a) ?_)
 simp only[Ah]
 unfold Cq
 refine Ae (fun h=> ?_) (fun h=>Ac ?_)
 · obtain ⟨c,hc⟩:=Mp h.2
   have hs:=Aqb.1 h.1
   simp only[hc,hs,Ap9,List.map_nil,App,Ap1,Ag,PO,Ao]
   exact Ad (Ad (Ac rfl))
 · match hs:a.shape,hc:a.cells with
   | [],[c]=>rw[hs,hc]at h;simp at h
   | x::xs,_=>rfl
   | [],[]=>rfl
   | [],x::y::xs=>rfl
theorem Aez(l:At)(a:Arr):D.agg [dB l,D.int 2,D.agg [D.bool false,D.sl [],D.sl []],D.int 0,D.sl [dA a]]=dC ⟨l,2,.zero,0,[a]⟩:=by rw[D_];rfl
mutual
def D6(g:At→At):Arr→Arr
 | .mk s sh cs=> .mk (g s) sh (Tv g cs)
def Tv(g:At→At):List (CellF Arr)→List (CellF Arr)
 | []=>[]
 | c::cs=>Dx g c::Tv g cs
def Dx(g:At→At):CellF Arr→CellF Arr
 | ⟨l,k,n,c,inn⟩=>⟨g l,k,n,c,Tu g inn⟩
def Tu(g:At→At):List Arr→List Arr
 | []=>[]
 | a::as_=>D6 g a::Tu g as_
end
theorem Aal(g:At→At) : ∀ cs,Tv g cs=cs.map (Dx g)
 | []=>by simp[Tv]
 | c::cs=>by simp[Tv,Aal g cs]
theorem Aak(g:At→At) : ∀ as_,Tu g as_=as_.map (D6 g)
 | []=>by simp[Tu]
 | a::as_=>by simp[Tu,Aak g as_]
theorem Jz(g:At→At)(a:Arr):D6 g a = .mk (g a.s) a.shape (a.cells.map (Dx g)):=by cases a;simp[D6,Aal]
theorem M8(g:At→At)(c:Cell):Dx g c=⟨g c.l,c.kind,c.n,c.c,c.inn.map (D6 g)⟩:=by cases c;simp[Dx,Aak]
theorem AV{g:At→At} : ∀ {d:Nat} {a:Arr},Sml d a→Sml d (D6 g a)
 | 0,_,h=>h.elim
 | d+1,a,⟨h1,h2,h3,h4⟩=>by
  rw[Jz]
  refine ⟨h1,by simpa using h2,h3,fun c hc=> ?_⟩
  obtain ⟨c',hc',rfl⟩:=Aqw.1 hc
  obtain ⟨g1,g2,g3,g4⟩:=h4 c' hc'
  rw[M8]
  refine ⟨g1,g2,by simpa using g3,fun x hx=> ?_⟩
  obtain ⟨y,hy,rfl⟩:=Aqw.1 hx
  exact AV (g4 y hy)
def Fm(l:At)(er:Bool)(x:At):At:=if er then l else x|||l
def Ai(a:Arr):Arr:=D6 (fun _=>0) a
theorem ZN(l:At)(er:Bool) : ∀ (d:Nat) (a:Arr),Sml d a→Sp 73 [dA a,dB l,.bool er] [dA (D6 (Fm l er) a)]
 | 0,_,h=>h.elim
 | d+1,a,h=>by
  have hl:=h.2.1
  have rest : ∀ s':At,Tw (Qv 1048577 1048577 (l.toNat:Int) er 0 (dA a) 0 (s'.toNat:Int) (dI a.shape) []) [dA (.mk s' a.shape (a.cells.map (Dx (Fm l er))))]:=fun s'=>by
    have key:=B3 a.cells (fun m k (out:List Cell)=>Qv 1048577 m (l.toNat:Int) er (k:Int) (dA a) 0 (s'.toNat:Int) (dI a.shape) (out.map dC)) (fun rest out=>[dA (.mk s' a.shape (out++rest.map (Dx (Fm l er))))]) (fun rest out=>out.length+rest.length≤1048576)
     (fun m k out hk _=>by
      simp only[ZM,Ah]
      refine Ar (Ac ?_)
      rw[D4];simp)
     (fun m k out c rest hdr hI ih=>by
      obtain ⟨h1,h2,h3⟩:=By hdr
      have hc:=h.cell c (Apq h2)
      have hlc:=hc.2.2.1
      simp only[ZM,Ah,Au h2]
      have inner : ∀ l':At,l'=Fm l er c.l→Tw (Qu 1048577 m 1048577 (l.toNat:Int) er (k:Int) [] 0 (dA a) 0 (s'.toNat:Int) (dI a.shape) (out.map dC) (l'.toNat:Int) c.kind (dN c.n) c.c (.sl (c.inn.map dA))) [dA (.mk s' a.shape (out++(c::rest).map (Dx (Fm l er))))]:=fun l' hl'=>by
        have key:=B3 c.inn (fun m' j (inn:List Arr)=>Qu 1048577 m m' (l.toNat:Int) er (k:Int) (inn.map dA) (j:Int) (dA a) 0 (s'.toNat:Int) (dI a.shape) (out.map dC) (l'.toNat:Int) c.kind (dN c.n) c.c (.sl (c.inn.map dA))) (fun _ _=>[dA (.mk s' a.shape (out++(c::rest).map (Dx (Fm l er))))]) (fun rest' inn=>inn.length+rest'.length≤1048576∧inn++rest'.map (D6 (Fm l er))=c.inn.map (D6 (Fm l er)))
         (fun m' j inn hj hI'=>by
          simp only[ZL,Ah,Bh k]
          refine Ar (Ay (by simp only[App,Ap1,Ak]at hI ⊢; omega) ?_)
          have e1:inn=c.inn.map (D6 (Fm l er)):=by simpa using hI'.2
          have e2:D.agg [dB l',D.int c.kind,dN c.n,D.int c.c,D.sl (inn.map dA)]=dC (Dx (Fm l er) c):=by rw[M8,D_,hl',e1]
          rw[e2]
          have:=ih (out++[Dx (Fm l er) c]) (by simp only[Apu,App,Ap1]at hI ⊢; omega)
          rw[List.map_append]at this
          refine Tree.wp_mono this (fun ys hy=>hy.trans ?_)
          simp)
         (fun m' j inn x rest' hdr' hI' ih'=>by
          obtain ⟨g1,g2,g3⟩:=By hdr'
          simp only[ZL,Ah,Au g2,Bh j]
          repeat (refine Ad ?_)
          refine Aa (ZN l er d x (hc.2.2.2 x (Apq g2))) (Ay (by have:=hI'.1;simp only[App,Ap1,Ak,Apm]at this ⊢; omega) ?_)
          have:=ih' (inn++[D6 (Fm l er) x]) ⟨by have:=hI'.1;simp only[Apu,App,Ap1]at this ⊢; omega,by rw[← hI'.2];simp⟩
          rw[List.map_append]at this
          exact this)
         1048577 0 [] (by omega) (by omega) ⟨by simpa using hlc,by simp⟩
        exact key
      refine Ad (Ad (Ad (Cl (fun he=> ?_) (fun he=> ?_))))
      · exact inner l (by simp[Fm,he])
      · refine Aa (Zz c.l l) ?_
        exact inner (c.l|||l) (by simp[Fm,he]))
     1048577 0 [] (by omega) (by omega) (by simpa using hl)
    exact key
  refine Af 1048577 (Alk _ _ _ _) ?_
  simp only[Ah]
  rw[Jz]
  refine Cl (fun he=>Aa (Zz a.s l) ?_) (fun he=> ?_)
  · have:Fm l er a.s=a.s|||l:=by simp at he;simp[Fm,he]
    rw[this];exact rest _
  · have:Fm l er a.s=l:=by simp at he;simp[Fm,he]
    rw[this];exact rest _
theorem AI{d:Nat}(a:Arr)(h:Sml d a):Sp 19 [dA a] [dA (Ai a)]:=Af 0 (All _ _) (Aa (ZN 0 true d a h) (Ac rfl))
noncomputable def Kq(a b:Arr):Bool:=Jo (Ai a) (Ai b)
theorem ZQ{d e:Nat}(a b:Arr)(ha:Sml d a)(hb:Sml e b):Sp 20 [dA a,dA b] [.bool (Kq a b)] :=
 Af 0 (Alq _ _ _) (Aa (AI a ha) (Aa (AI b hb) (Aa (ZW _ (AV ha).fits _) (Ac rfl))))
theorem AaV{α β:Type}{P:Program}{md:Nat→FMode}(φ:α→β)(a b:List α)(e:α→α→Bool)(he : ∀ x∈a,∀ y,e x y=true↔φ x=φ y)(hlen:a.length=b.length)(r:Bool)(hr:r=true↔a.map φ=b.map φ)(L:Nat→Nat→Tree)
  (hend : ∀ m,∀ Q:List D→Prop,Q [.bool true]→(L (m+1) a.length).wp P md Q)
  (hstep : ∀ m k x y,∀ Q:List D→Prop,a[k]? = some x→b[k]? = some y→(e x y=false→Q [.bool false])→(e x y=true→(L m (k+1)).wp P md Q)→(L (m+1) k).wp P md Q) (N:Nat) (hN:a.length<N):(L N 0).wp P md (fun zs=>zs = [.bool r]):=by
 have key:=Xs (P:=P) (md:=md) a.length (fun m k (_:Unit)=>L m k) (fun _ _=>[.bool r]) (fun k _=>(a.take k).map φ=(b.take k).map φ)
  (fun m s h=>by
   refine hend m _ ?_
   rw[Aqh (Apx _),Aqh (by omega)]at h
   rw[hr.2 h])
  (fun m k s hk h ih=>by
   have ha:a[k]? = some a[k]:=Apk _
   have hb:b[k]? = some (b[k]'(by omega)):=Apk _
   refine hstep m k _ _ _ ha hb (fun hf=> ?_) (fun ht=>ih () ?_)
   · have:r=false:=by
      cases hrr:r with
      | false=>rfl
      | true =>
       have h2:=hr.1 hrr
       have h3:(a.map φ)[k]? = (b.map φ)[k]? := by rw[h2]
       rw[Ap2,Ap2,ha,hb]at h3
       have h4:φ a[k]=φ b[k]:=by simpa using h3
       rw[(he a[k] (Aql _) _).2 h4]at hf;cases hf
     rw[this]
   · have:φ a[k]=φ b[k]:=(he a[k] (Aql _) _).1 ht
     rw[List.take_succ_eq_append_getElem hk,List.take_succ_eq_append_getElem (by omega),List.map_append,List.map_append,h]
     simp[this])
  N 0 () (by omega) (by omega) (by simp)
 exact key
def gl(lb:Bool)(l:At):At:=if lb then l else 0
noncomputable def Nx(lb:Bool)(a b:Arr):Bool:=Jo (D6 (gl lb) a) (D6 (gl lb) b)
noncomputable def Pl(lb:Bool)(a b:Cell):Bool:=Kg (Dx (gl lb) a) (Dx (gl lb) b)
noncomputable def pd(p:Prop):Bool:= @decide p (Classical.propDecidable _)
theorem Zc{p:Prop} : pd p=true↔p:= @decide_eq_true_iff _ (Classical.propDecidable _)
theorem WI{p:Prop}(h : ¬ p):pd p=false:= @decide_eq_false _ (Classical.propDecidable _) h
theorem Aga{o x:Nat}{z:Int}(h:z=(x:Int)):(if (o:Int)<z then z else (o:Int))=((max o x:Nat):Int):=by subst h;split <;> omega
theorem QH{lb:Bool}{a b:Arr} : Nx lb a b=true↔D6 (gl lb) a=D6 (gl lb) b:=Mh
theorem QG{lb:Bool}{a b:Cell} : Pl lb a b=true↔Dx (gl lb) a=Dx (gl lb) b:=Pk
theorem R9{lb:Bool}{a b:Cell} : Pl lb a b=true↔(gl lb a.l=gl lb b.l∧a.kind=b.kind∧a.c=b.c∧a.n=b.n∧a.inn.map (D6 (gl lb))=b.inn.map (D6 (gl lb))):=by rw[QG,M8,M8,OO]
theorem FY{lb:Bool}{a b:Arr} : Nx lb a b=true↔(gl lb a.s=gl lb b.s∧a.shape=b.shape∧a.cells.map (Dx (gl lb))=b.cells.map (Dx (gl lb))):=by rw[QH,Jz,Jz,ED];simp
theorem Pa{b:Bool}(h : ¬ b=true):b=false:=by cases b with | false=>rfl | true=>exact absurd rfl h
theorem NX(lb:Bool) : ∀ (d:Nat) (a b:Arr),Sml d a→Sp 232 [dA a,dA b,.bool lb] [.bool (Nx lb a b)]
 | 0,_,_,h=>h.elim
 | d+1,a,b,h=>by
  have hcell : ∀ (x y:Cell),SmlC d x→Ec Tryz.prog md 273 [.ref 4] [dC x,dC y,D.ref (.bool lb)] [.bool (Pl lb x y)]:=fun x y hx=>by
    have hlx:=hx.2.2.1
    have hinn:Sp 275 [.sl (x.inn.map dA),.sl (y.inn.map dA),D.fn 276 [.ref 4] [D.ref (.bool lb)]] [.bool (pd (x.inn.map (D6 (gl lb))=y.inn.map (D6 (gl lb))))]:=by
      refine Af (x.inn.length+1) (AmO _ _ _ _) ?_
      simp only[Ah]
      refine Ae (fun h=>Ac ?_) (fun h=> ?_)
      · rw[WI]
        intro hh;have:=congrArg List.length hh;simp at this;omega
      · refine AaV (P:=Tryz.prog) (md:=md) (D6 (gl lb)) x.inn y.inn (Nx lb) (fun p _ q=>QH) (by omega) _ Zc (fun m k=>BY (x.inn.length+1) m (.sl (y.inn.map dA)) (D.fn 276 [.ref 4] [D.ref (.bool lb)]) (.sl (x.inn.map dA)) (x.inn.length:Int) (k:Int)) ?_ ?_ (x.inn.length+1) (by omega)
        · intro m Q hQ
          simp only[Aby,Ah]
          exact Ar (Ac hQ)
        · intro m k p q Q hp hq hF hT
          have hk:k<x.inn.length:=(Apo.1 hp).1
          have hk':k<y.inn.length:=(Apo.1 hq).1
          simp only[Aby,Ah,Au hp,Au hq,Bh k,H6,H4,H5,List.cons_append,Aqx]
          repeat (refine Ad ?_)
          refine Aa (ys:=[.bool (Nx lb p q)]) (Af 0 (Adu _ _ _ _) (Aa (NX lb d p q (hx.2.2.2 p (Apq hp))) (Ac rfl))) ?_
          simp only[Ag,Bc]
          exact Cl (fun h=>Ac (hF (by simpa using h))) (fun h=>hT (by simpa using h))
    have fin : ∀ (hl:gl lb x.l=gl lb y.l),Tw (.br (decide (¬ x.kind=y.kind)) (.ret [D.bool false]) (.br (decide (¬ x.c=y.c)) (.ret [D.bool false]) (.call 274 [] [dN x.n,dN y.n] fun Y1=> .br (!((qA Y1).toBool)) (.ret [D.bool false]) (.call 275 [] [.sl (x.inn.map dA),.sl (y.inn.map dA),D.fn 276 [.ref 4] [D.ref (.bool lb)]] fun Y2=> .ret [D.bool ((qA Y2).toBool)])))) [.bool (Pl lb x y)]:=fun hl=>by
      refine Ae (fun h=>Ac ?_) (fun h2=>Ae (fun h=>Ac ?_) (fun h3=>Aa (AjW x.n y.n hx.fits.1 hx.fits.2.1) ?_))
      · rw[Pa (fun hh=>h (R9.1 hh).2.1)]
      · rw[Pa (fun hh=>h (R9.1 hh).2.2.1)]
      simp only[Ag,Bc,Ft]
      refine Ae (fun h=>Ac ?_) (fun h4=>Aa hinn (Ac ?_))
      · rw[Pa (fun hh=>h (R9.1 hh).2.2.2.1)]
      · simp only[Ag,Bc]
        congr 2
        rw[Bool.eq_iff_iff,R9,Zc]
        exact ⟨fun hh=>⟨hl,Apw.1 h2,Apw.1 h3,Apw.1 h4,hh⟩,fun hh=>hh.2.2.2.2⟩
    refine Af 0 (Adv _ _ _ _) ?_
    simp only[Ah,DE]
    refine Cl (fun hb=>Ae (fun h=>Ac ?_) (fun h1=>fin ?_)) (fun hb=>fin ?_)
    · have hf:Pl lb x y=false:=Pa (fun hh=>h (by
        have:=(R9.1 hh).1
        simp only[gl,hb,if_true]at this
        rw[this]))
      rw[hf]
    · simp only[gl,hb,if_true];exact BitVec.eq_of_toNat_eq (by omega)
    · simp[gl,hb]
  have hcells:Sp 272 [.sl (a.cells.map dC),.sl (b.cells.map dC),D.fn 273 [.ref 4] [D.ref (.bool lb)]] [.bool (pd (a.cells.map (Dx (gl lb))=b.cells.map (Dx (gl lb))))]:=by
    have hla:=h.2.1
    refine Af (a.cells.length+1) (AmP _ _ _ _) ?_
    simp only[Ah]
    refine Ae (fun h=>Ac ?_) (fun h'=> ?_)
    · rw[WI]
      intro hh;have:=congrArg List.length hh;simp at this;omega
    · refine AaV (P:=Tryz.prog) (md:=md) (Dx (gl lb)) a.cells b.cells (Pl lb) (fun p _ q=>QG) (by omega) _ Zc (fun m k=>CA (a.cells.length+1) m (.sl (b.cells.map dC)) (D.fn 273 [.ref 4] [D.ref (.bool lb)]) (.sl (a.cells.map dC)) (a.cells.length:Int) (k:Int)) ?_ ?_ (a.cells.length+1) (by omega)
      · intro m Q hQ
        simp only[Abz,Ah]
        exact Ar (Ac hQ)
      · intro m k p q Q hp hq hF hT
        have hk:k<a.cells.length:=(Apo.1 hp).1
        have hk':k<b.cells.length:=(Apo.1 hq).1
        simp only[Abz,Ah,Au hp,Au hq,Bh k,H6,H4,H5,List.cons_append,Aqx]
        repeat (refine Ad ?_)
        refine Aa (hcell p q (h.cell p (Apq hp))) ?_
        simp only[Ag,Bc]
        exact Cl (fun h=>Ac (hF (by simpa using h))) (fun h=>hT (by simpa using h))
  have fin : ∀ (hl:gl lb a.s=gl lb b.s),Tw (.call 234 [] [dI a.shape,dI b.shape] fun Y1=> .br (!((qA Y1).toBool)) (.ret [D.bool false]) (.call 272 [] [.sl (a.cells.map dC),.sl (b.cells.map dC),D.fn 273 [.ref 4] [D.ref (.bool lb)]] fun Y2=> .ret [D.bool ((qA Y2).toBool)])) [.bool (Nx lb a b)]:=fun hl=>by
    refine Aa (Ab0 a.shape b.shape (by have:=h.1;omega)) ?_
    simp only[Ag,Bc,Ft]
    refine Ae (fun h=>Ac ?_) (fun h1=>Aa hcells (Ac ?_))
    · rw[Pa (fun hh=>h (FY.1 hh).2.1)]
    · simp only[Ag,Bc]
      congr 2
      rw[Bool.eq_iff_iff,FY,Zc]
      exact ⟨fun hh=>⟨hl,Apw.1 h1,hh⟩,fun hh=>hh.2.2⟩
  refine Af 0 (Adw _ _ _ _) ?_
  simp only[Ah]
  refine Cl (fun hb=>Ae (fun h=>Ac ?_) (fun h1=>fin ?_)) (fun hb=>fin ?_)
  · have hf:Nx lb a b=false:=Pa (fun hh=>h (by
      have:=(FY.1 hh).1
      simp only[gl,hb,if_true]at this
      rw[this]))
    rw[hf]
  · simp only[gl,hb,if_true];exact BitVec.eq_of_toNat_eq (by omega)
  · simp[gl,hb]
theorem NS{d:Nat}(a b:Arr)(h:Sml d a):Sp 179 [dA a,dA b] [.bool (Kq a b)]:=Af 0 (Adk _ _ _) (Aa (NX false d a b h) (Ac rfl))
mutual
def Fb:Arr→Nat
 | .mk s sh cs=>if Cq (.mk s sh cs) then 0 else Er cs+1
def Er:List (CellF Arr)→Nat
 | []=>0
 | c::cs=>max (Lf c) (Er cs)
def Lf:CellF Arr→Nat
 | ⟨_,_,_,_,inn⟩=>Gs inn
def Gs:List Arr→Nat
 | []=>0
 | a::as_=>max (Fb a) (Gs as_)
end
theorem PR(a:Arr):Fb a=if Cq a then 0 else Er a.cells+1:=by cases a;rw[Fb];rfl
theorem FO(c:Cell):Lf c=Gs c.inn:=by cases c;rw[Lf]
theorem FP{k:Nat} : ∀ {cs:List Cell},(∀ c∈cs,Lf c≤k)→Er cs≤k
 | [],_=>by rw[Er];omega
 | c::cs,h=>by
  have h1:=h c (by simp)
  have h2:=FP (fun x hx=>h x (Aqq _ hx))
  rw[Er];omega
theorem FM{k:Nat} : ∀ {as_:List Arr},(∀ a∈as_,Fb a≤k)→Gs as_≤k
 | [],_=>by rw[Gs];omega
 | a::as_,h=>by
  have h1:=h a (by simp)
  have h2:=FM (fun x hx=>h x (Aqq _ hx))
  rw[Gs];omega
theorem V_ : ∀ {d:Nat} {a:Arr},Sml d a→Fb a≤d
 | 0,_,h=>h.elim
 | d+1,a,h=>by
  rw[PR]
  have:Er a.cells≤d:=FP (fun c hc=>by rw[FO];exact FM (fun x hx=>V_ ((h.cell c hc).2.2.2 x hx)))
  split <;> omega
theorem EE : ∀ (d:Nat) (a:Arr),d≤10000000→Sml d a→Sp 147 [dA a] [.int (Fb a:Int)]
 | 0,_,_,h=>h.elim
 | d+1,a,hd,h=>by
  have hl:=h.2.1
  refine Af 1048577 (Adg _ _) (Aa (NT a) ?_)
  rw[PR]
  simp only[Ah]
  refine Cl (fun hs=>Ac (by rw[if_pos hs];rfl)) (fun hs=> ?_)
  rw[if_neg (by simp[hs])]
  have hb:Er a.cells≤d:=FP (fun c hc=>by rw[FO];exact FM (fun x hx=>V_ ((h.cell c hc).2.2.2 x hx)))
  have key:=B3 a.cells (fun m k (o:Nat)=>U_ 1048577 m (o:Int) (.sl (a.cells.map dC)) (a.cells.length:Int) (k:Int)) (fun rest o=>[.int ((max o (Er rest)+1:Nat):Int)]) (fun rest o=>max o (Er rest)≤d)
   (fun m k o hk hI=>by
    simp only[NP,Ah]
    refine Ar (Ac ?_)
    rw[Er]at hI ⊢
    rw[Aw (by omega) (by omega),show max o 0=o by omega];rfl)
   (fun m k o c rest hdr hI ih=>by
    obtain ⟨h1,h2,h3⟩:=By hdr
    have hc:=h.cell c (Apq h2)
    have hlc:=hc.2.2.1
    simp only[NP,Ah,Au h2]
    repeat (refine Ad ?_)
    rw[Er,FO]at hI ⊢
    have key:=B3 c.inn (fun m' j (o:Nat)=>Va 1048577 m m' (o:Int) (.sl (a.cells.map dC)) (a.cells.length:Int) (k:Int) (.sl (c.inn.map dA)) (c.inn.length:Int) (j:Int)) (fun rest' o=>[.int ((max o (max (Gs rest') (Er rest))+1:Nat):Int)]) (fun rest' o=>max o (max (Gs rest') (Er rest))≤d)
     (fun m' j o hj hI'=>by
      simp only[NQ,Ah,Bh k]
      rw[Gs]at hI' ⊢
      refine Ar ?_
      have:=ih o (by omega)
      rw[show max o (max 0 (Er rest))=max o (Er rest) by omega]
      exact this)
     (fun m' j o x rest' hdr' hI' ih'=>by
      obtain ⟨g1,g2,g3⟩:=By hdr'
      simp only[NQ,Ah,Au g2,Bh j]
      repeat (refine Ad ?_)
      refine Aa (EE d x (by omega) (hc.2.2.2 x (Apq g2))) ?_
      rw[Gs]at hI' ⊢
      have:=ih' (max o (Fb x)) (by omega)
      rw[show max o (max (max (Fb x) (Gs rest')) (Er rest))=max (max o (Fb x)) (max (Gs rest') (Er rest)) by omega]
      rw[Aga (x:=Fb x) (z:=(qA [D.int (Fb x:Int)]).toInt) rfl]
      exact this)
     1048577 0 o (by omega) (by omega) hI
    exact key)
   1048577 0 0 (by omega) (by omega) (by simpa using hb)
  refine Tree.wp_mono key (fun ys hy=>hy.trans ?_)
  simp
theorem Al2(n:Nat)(nn0 s1:D):fA [] n 32 [] [nn0,s1] =
 cK 78 [D.int nn0.toInt] fun Y1 =>
 .ret [D.agg [D.int s1.toInt,D.sl [],D.sl [qA Y1]]]:=by kernel_rfl
def AU:List (Nat×Orc):=[(3,⟨[(0,some 23),(4,none),(5,none),(6,none)],[(4,false),(5,false)],[(.fld 5 [1],1030,3),(.fld 5 [2],1031,67)]⟩)]
noncomputable def AT(n m3:Nat)(l0:D)(i6 t4_0 out5_0:Int)(out5_1 out5_2:List D):Tree :=
 lA (eA AU n 33 [1,1,0,1,0,0]) (Al AU 3) m3 ⟨(.d 23 l0::uA 3++(.ptr 4 []:: .ptr 5 []:: .i .i64 i6::uA 22)),[(4,.var 26 (.agg 26 [.i .u64 t4_0,.mt,.mt]) true),(5,.var 26 (.agg 26 [.i .u64 out5_0,.row 1030,.row 1031]) true),(1030,.row 3 out5_1 true),(1031,.row 67 out5_2 true)],[4,5,1030,1031],[],[]⟩
  (Aj 0 (An (jA AU n 33 [1,1,1]) (rA 33 [23,22] [.cell 4 26] [26])))
theorem Aaj(n m3:Nat)(l0:D)(i6 t4_0 out5_0:Int)(out5_1 out5_2:List D):AT n (m3+1) l0 i6 t4_0 out5_0 out5_1 out5_2 =
 bK (i6<(l0.els.length:Int)) (kK (0≤i6) (kK (i6<(l0.els.length:Int)) (cK 78 [D.int ((l0.els.getD (Apj i6) D.nil).toInt)] fun Y1 =>
 kK (out5_2.length + [qA Y1].length≤Ak) (AT n m3 l0 (Api .i64 (i6+1)) t4_0 out5_0 out5_1 (out5_2++[qA Y1])))))
 (.ret [D.agg [D.int out5_0,D.sl out5_1,D.sl out5_2]]):=by kernel_rfl
theorem Al4(n:Nat)(l0 s1:D):fA AU n 33 [] [l0,s1] =
 AT n n l0 0 0 s1.toInt [D.int (l0.els.length:Int)] []:=by kernel_rfl
def Xz:List (Nat×Orc):=[(12,⟨[(2,none),(3,none),(4,none),(6,some 23),(9,some 24),(10,none),(41,none),(42,none)],[(2,true),(3,true),(4,false)],[(.slot 10,1120,67)]⟩)]
noncomputable def Qa(n m12:Nat)(of6 from9:D)(cells10:List D)(t41 t42:Int)(nn2 a3:D)(t4_0:Int):Tree :=
 lA (eA Xz n 35 [1,1,1,1,1,1,1,1,0,1,0,0]) (Al Xz 12) m12 ⟨(.undef:: .undef:: .ptr 2 []:: .ptr 3 []:: .ptr 4 []:: .undef:: .d 23 of6:: .undef:: .undef:: .d 24 from9:: .row 1120::uA 30++(.i .i64 t41:: .i .i64 t42::uA 21)),[(2,.var 26 (.d 26 nn2) true),(3,.var 26 (.d 26 a3) true),(4,.var 26 (.agg 26 [.i .u64 t4_0,.mt,.mt]) true),(1120,.row 67 cells10 true)],[2,3,4,1120],[],[]⟩
  (Aj 0 (An (jA Xz n 35 [1,1,1,1,1,1,1,1,1]) (rA 35 [26,26] [.cell 4 26,.tmp 5] [26,29])))
theorem UL(n m12:Nat)(of6 from9:D)(cells10:List D)(t41 t42:Int)(nn2 a3:D)(t4_0:Int):Qa n (m12+1) of6 from9 cells10 t41 t42 nn2 a3 t4_0 =
 bK (t42<t41) (.br (!((from9.els.length:Int)==(0:Int))) (kK (0≤Int.tmod t42 (from9.els.length:Int)) (kK (Int.tmod t42 (from9.els.length:Int)<(from9.els.length:Int)) (kK (0≤t42) (kK (t42<(cells10.length:Int)) (Qa n m12 of6 from9 (cells10.set (Apj t42) (from9.els.getD (Apj (Int.tmod t42 (from9.els.length:Int))) D.nil)) t41 (Api .i64 (t42+1)) nn2 a3 t4_0))))) .fail)
 (cK 84 [nn2] fun Y4 =>
 cK 83 [D.int ((a3.fld 0).toInt),D.int ((qA Y4).toInt)] fun Y5 =>
 .ret [D.agg [D.int ((qA Y5).toInt),of6,D.sl cells10],D.int 0]):=by kernel_rfl
theorem Aho(n:Nat)(nn0 a1:D):fA Xz n 35 [] [nn0,a1] =
 cK 80 [nn0] fun Y1 =>
 .br (((qB Y1).toInt)!=0) (.ret [D.agg [D.int 0,D.sl [],D.sl []],D.int ((qB Y1).toInt)])
 (cK 81 [qA Y1] fun Y2 =>
 .br (((qB Y2).toInt)!=0) (.ret [D.agg [D.int 0,D.sl [],D.sl []],D.int ((qB Y2).toInt)])
 (.br ((((a1.fld 2).els).length:Int)==0) (cK 82 [a1] fun Y3 =>
 kK (0≤(qA Y2).toInt) (kK ((qA Y2).toInt≤(qA Y2).toInt) (kK ((qA Y2).toInt≤Ak) (Qa n n (qA Y1) (D.sl [qA Y3]) (Apl (Apj ((qA Y2).toInt)) (D.agg [D.int 0,D.int 0,D.agg [D.bool false,D.sl [],D.sl []],D.int 0,D.sl []])) ((Apl (Apj ((qA Y2).toInt)) (D.agg [D.int 0,D.int 0,D.agg [D.bool false,D.sl [],D.sl []],D.int 0,D.sl []])).length:Int) 0 nn0 a1 0))))
 (kK (0≤(qA Y2).toInt) (kK ((qA Y2).toInt≤(qA Y2).toInt) (kK ((qA Y2).toInt≤Ak) (Qa n n (qA Y1) (a1.fld 2) (Apl (Apj ((qA Y2).toInt)) (D.agg [D.int 0,D.int 0,D.agg [D.bool false,D.sl [],D.sl []],D.int 0,D.sl []])) ((Apl (Apj ((qA Y2).toInt)) (D.agg [D.int 0,D.int 0,D.agg [D.bool false,D.sl [],D.sl []],D.int 0,D.sl []])).length:Int) 0 nn0 a1 0)))))):=by kernel_rfl
def X3:List (Nat×Orc):=[(3,⟨[(1,none),(2,none),(3,none),(11,some 23),(12,none),(13,none)],[(1,true),(2,false)],[(.slot 3,1030,67)]⟩)]
noncomputable def X0(n m3:Nat)(cells3:List D)(t11:D)(t12 t13:Int)(a1:D)(t2_0:Int):Tree :=
 lA (eA X3 n 56 [1,1,0,1,0,0]) (Al X3 3) m3 ⟨(.undef:: .ptr 1 []:: .ptr 2 []:: .row 1030::uA 7++(.d 23 t11:: .i .i64 t12:: .i .i64 t13::uA 17)),[(1,.var 26 (.d 26 a1) true),(2,.var 26 (.agg 26 [.i .u64 t2_0,.mt,.mt]) true),(1030,.row 67 cells3 true)],[1,2,1030],[],[]⟩
  (Aj 0 (An (jA X3 n 56 [1,1,1]) (rA 56 [26] [.cell 2 26] [26])))
theorem UN(n m3:Nat)(cells3:List D)(t11:D)(t12 t13:Int)(a1:D)(t2_0:Int):X0 n (m3+1) cells3 t11 t12 t13 a1 t2_0 =
 bK (t13<t12) (kK (0≤t13) (kK (t13<(t11.els.length:Int)) (cK 138 [D.int ((t11.els.getD (Apj t13) D.nil).toInt)] fun Y1 =>
 kK (0≤t13) (kK (t13<(cells3.length:Int)) (X0 n m3 (cells3.set (Apj t13) (qA Y1)) t11 t12 (Api .i64 (t13+1)) a1 t2_0)))))
 (.ret [D.agg [D.int ((a1.fld 0).toInt),D.sl [D.int (cells3.length:Int)],D.sl cells3]]):=by kernel_rfl
theorem Ahq(n:Nat)(a0:D):fA X3 n 56 [] [a0] =
 kK (0≤(((a0.fld 1).els).length:Int)) (kK ((((a0.fld 1).els).length:Int)≤(((a0.fld 1).els).length:Int)) (kK ((((a0.fld 1).els).length:Int)≤Ak) (X0 n n (Apl (Apj (((a0.fld 1).els).length:Int)) (D.agg [D.int 0,D.int 0,D.agg [D.bool false,D.sl [],D.sl []],D.int 0,D.sl []])) (a0.fld 1) (((a0.fld 1).els).length:Int) 0 a0 0))):=by kernel_rfl
theorem Ahm(n:Nat)(a0:D):fA [] n 57 [] [a0] =
 cK 139 [a0.fld 2] fun Y1 =>
 .ret [D.agg [D.int ((a0.fld 0).toInt),D.sl [D.int (((a0.fld 2).els).length:Int)],D.sl ((qA Y1).els)]]:=by kernel_rfl
theorem Ahf(n:Nat)(a0:D):fA [] n 61 [] [a0] =
 cK 146 [a0] fun Y1 =>
 .br ((qA Y1).toBool) (.ret [a0,D.int 0])
 (cK 147 [a0] fun Y2 =>
 bK (8<((qA Y2).toInt)) (.ret [D.agg [D.int 0,D.sl [],D.sl []],D.int 7])
 (.br ((((a0.fld 1).els).length:Int)==0) (bK (0<(((a0.fld 2).els).length:Int)) (kK (0≤0) (kK (0<(((a0.fld 2).els).length:Int)) (.ret [D.agg [D.int ((a0.fld 0).toInt),D.sl [],D.sl [D.agg [D.int (((((a0.fld 2).els).getD (Apj 0) D.nil).fld 0).toInt),D.int 2,D.agg [D.bool false,D.sl [],D.sl []],D.int 0,D.sl [a0]]]],D.int 0])))
 (.ret [D.agg [D.int ((a0.fld 0).toInt),D.sl [],D.sl [D.agg [D.int 0,D.int 2,D.agg [D.bool false,D.sl [],D.sl []],D.int 0,D.sl [a0]]]],D.int 0]))
 (.ret [D.agg [D.int ((a0.fld 0).toInt),D.sl [],D.sl [D.agg [D.int 0,D.int 2,D.agg [D.bool false,D.sl [],D.sl []],D.int 0,D.sl [a0]]]],D.int 0]))):=by kernel_rfl
theorem Ahj(n:Nat)(a0:D):fA [] n 62 [] [a0] =
 cK 82 [a0] fun Y1 =>
 bK (0<(((a0.fld 2).els).length:Int)) (kK (0≤0) (kK (0<(((a0.fld 2).els).length:Int)) (cK 104 [((a0.fld 2).els).getD (Apj 0) D.nil] fun Y2 =>
 cK 90 [qA Y2,D.int ((a0.fld 0).toInt)] fun Y3 =>
 .ret [qA Y3])))
 (cK 104 [qA Y1] fun Y4 =>
 cK 90 [qA Y4,D.int ((a0.fld 0).toInt)] fun Y5 =>
 .ret [qA Y5]):=by kernel_rfl
theorem Ahd(n:Nat)(a0:D):fA [] n 63 [] [a0] =
 cK 147 [a0] fun Y1 =>
 cK 84 [a0] fun Y2 =>
 cK 148 [D.int ((qA Y1).toInt),D.int ((qA Y2).toInt)] fun Y3 =>
 .ret [qA Y3]:=by kernel_rfl
theorem Ahs(n:Nat)(a0:D):fA [] n 64 [] [a0] =
 .br ((((a0.fld 1).els).length:Int)==0) (cK 148 [D.int 1,D.int ((a0.fld 0).toInt)] fun Y1 =>
 .ret [qA Y1])
 (kK (0≤0) (kK (0<(((a0.fld 1).els).length:Int)) (cK 148 [D.int ((((a0.fld 1).els).getD (Apj 0) D.nil).toInt),D.int ((a0.fld 0).toInt)] fun Y2 =>
 .ret [qA Y2]))):=by kernel_rfl
theorem Ahh(n:Nat)(a0:D):fA [] n 66 [] [a0] =
 cK 150 [D.sl [],a0] fun Y1 =>
 .br (!((qB Y1).toBool)) (.ret [D.agg [D.int 0,D.sl [],D.sl []],D.int 7])
 (cK 84 [a0] fun Y2 =>
 .ret [D.agg [D.int ((qA Y2).toInt),D.sl [D.int (((qA Y1).els).length:Int)],D.sl ((qA Y1).els)],D.int 0]):=by kernel_rfl
theorem Ahk(n:Nat)(a0 b1 same2:D):fA [] n 105 [] [a0,b1,same2] =
 cK 179 [a0,b1] fun Y1 =>
 .br (((qA Y1).toBool)==same2.toBool) (cK 84 [a0] fun Y2 =>
 cK 84 [b1] fun Y3 =>
 cK 83 [D.int ((qA Y2).toInt),D.int ((qA Y3).toInt)] fun Y4 =>
 cK 148 [D.int 1,D.int ((qA Y4).toInt)] fun Y5 =>
 .ret [qA Y5])
 (cK 84 [a0] fun Y6 =>
 cK 84 [b1] fun Y7 =>
 cK 83 [D.int ((qA Y6).toInt),D.int ((qA Y7).toInt)] fun Y8 =>
 cK 148 [D.int 0,D.int ((qA Y8).toInt)] fun Y9 =>
 .ret [qA Y9]):=by kernel_rfl
theorem Ahu(n:Nat)(nn0 s1:D):fA [] n 148 [] [nn0,s1] =
 cK 138 [D.int nn0.toInt] fun Y1 =>
 cK 178 [qA Y1] fun Y2 =>
 cK 90 [qA Y2,D.int s1.toInt] fun Y3 =>
 .ret [qA Y3]:=by kernel_rfl
def I8:List (Nat×Orc):=[(2,⟨[(0,none),(12,some 24),(13,none),(14,none)],[],[(.slot 0,1020,67)]⟩),(9,⟨[(0,none),(12,some 24),(13,none),(14,none),(29,some 65),(30,none),(31,none)],[],[(.slot 0,1090,67)]⟩)]
def IP:List ResultVar:=[.tmp 4,.tmp 5]
noncomputable def X4(n m2 m9:Nat)(cells0:List D)(t12:D)(t13 t14:Int)(t29:D)(t30 t31:Int):Tree :=
 lA (eA I8 n 150 [1,0,1,0,0,1,1,0,0,1,1,1,0,0]) (Al I8 9) m9 ⟨(.row 1090::uA 11++(.d 24 t12:: .i .i64 t13:: .i .i64 t14::uA 14++(.d 65 t29:: .i .i64 t30:: .i .i64 t31::uA 14))),[(1090,.row 67 cells0 true)],[1090],[],[]⟩
  (Aj 2 (Aj 1 (An (jA I8 n 150 [1,0,1,0,0,1,1,1]) (Fs Tryz.prog md (Al I8 2) (fun s1=>lA (eA I8 n 150 [1,0,1,0,0]) (Al I8 2) m2 s1 (Aj 0 (An (jA I8 n 150 [1,1]) (rA 150 [24,26] IP [24,4])))) (Aj 0 (An (jA I8 n 150 [1,1]) (rA 150 [24,26] IP [24,4])))))))
noncomputable def S1(n m2:Nat)(cells0:List D)(t12:D)(t13 t14:Int):Tree :=
 lA (eA I8 n 150 [1,0,1,0,0]) (Al I8 2) m2 ⟨(.row 1020::uA 11++(.d 24 t12:: .i .i64 t13:: .i .i64 t14::uA 31)),[(1020,.row 67 cells0 true)],[1020],[],[]⟩
  (Aj 0 (An (jA I8 n 150 [1,1]) (rA 150 [24,26] IP [24,4])))
theorem UP(n m2 m9:Nat)(cells0:List D)(t12:D)(t13 t14:Int)(t29:D)(t30 t31:Int):X4 n m2 (m9+1) cells0 t12 t13 t14 t29 t30 t31 =
 bK (t31<t30) (kK (0≤t31) (kK (t31<(t29.els.length:Int)) (cK 150 [D.sl cells0,t29.els.getD (Apj t31) D.nil] fun Y1 =>
 .br (!((qB Y1).toBool)) (.ret [D.sl [],D.bool false])
 (X4 n m2 m9 ((qA Y1).els) t12 t13 t14 t29 t30 (Api .i64 (t31+1))))))
 (S1 n m2 cells0 t12 t13 (Api .i64 (t14+1))):=by kernel_rfl
theorem UO(n m2:Nat)(cells0:List D)(t12:D)(t13 t14:Int):S1 n (m2+1) cells0 t12 t13 t14 =
 bK (t14<t13) (kK (0≤t14) (kK (t14<(t12.els.length:Int)) (.br ((((t12.els.getD (Apj t14) D.nil).fld 1).toInt)!=2) (.br ((cells0.length:Int)==2048) (.ret [D.sl [],D.bool false])
 (kK (cells0.length + [t12.els.getD (Apj t14) D.nil].length≤Ak) (S1 n m2 (cells0++[t12.els.getD (Apj t14) D.nil]) t12 t13 (Api .i64 (t14+1)))))
 (X4 n m2 n cells0 t12 t13 t14 ((t12.els.getD (Apj t14) D.nil).fld 4) ((((t12.els.getD (Apj t14) D.nil).fld 4).els).length:Int) 0))))
 (.ret [D.sl cells0,D.bool true]):=by kernel_rfl
theorem Aht(n:Nat)(cells0 a1:D):fA I8 n 150 [] [cells0,a1] =
 S1 n n cells0.els (a1.fld 2) (((a1.fld 2).els).length:Int) 0:=by kernel_rfl
def C3(l:List Int)(s:At):Arr:= .mk s [(l.length:Int)] (l.map Bf)
def Dd(n:Int)(s:At):Arr:= .mk s [] [Bf n]
theorem Al3(l:List Int)(s:At)(hl:l.length≤100000)(hr : ∀ x∈l,Bd x):Sp 33 [dI l,dB s] [dA (C3 l s)]:=by
 refine Af (l.length+1) (Al4 _ _ _) ?_
 simp only[Ah]
 have key:=B3 l (fun m k (out:List Cell)=>AT (l.length+1) m (dI l) (k:Int) 0 (s.toNat:Int) [D.int (l.length:Int)] (out.map dC)) (fun rest out=>[dA (.mk s [(l.length:Int)] (out++rest.map Bf))]) (fun rest out=>out.length+rest.length≤100000)
  (fun m k out hk _=>by
   simp only[Aaj,Ah]
   refine Ar (Ac ?_)
   rw[D4];simp;rfl)
  (fun m k out x rest hdr hI ih=>by
   obtain ⟨h1,h2,h3⟩:=By hdr
   have hm:=Apq h2
   simp only[Aaj,Ah,Au h2,Bh k]
   repeat (refine Ad ?_)
   refine Aa (ZP x (hr x hm)) (Ay ?_ ?_)
   · simp only[App,Ap1,Ak,Apm]at hI ⊢; omega
   · have:=ih (out++[Bf x]) (by simp only[Apu,App,Ap1]at hI ⊢; omega)
     rw[List.map_append]at this
     refine Tree.wp_mono this (fun ys hy=>hy.trans ?_)
     simp)
  (l.length+1) 0 [] (by omega) (by omega) (by simpa using hl)
 exact key
theorem Aai(n:Int)(s:At)(hr:Bd n):Sp 32 [.int n,dB s] [dA (Dd n s)]:=by
 refine Af 0 (Al2 _ _ _) (Aa (ZP n hr) (Ac ?_))
 rw[D4];rfl
def Fn(fr:List Cell)(k:Nat):List Cell:=(Aqj k).map (fun i=>fr.getD (i % fr.length) (Bf 0))
def Il(n a:Arr):Arr×Int :=
 if (A9 n).2=0 then (if (A8 (A9 n).1).2=0 then (.mk (a.s|||Az n) (A9 n).1 (Fn a.cells (A8 (A9 n).1).1.toNat),0) else (.none,(A8 (A9 n).1).2)) else (.none,(A9 n).2)
theorem Aeu(fr:List Cell)(k:Nat):Fn fr (k+1)=Fn fr k++[fr.getD (k % fr.length) (Bf 0)]:=by simp[Fn,List.range_succ]
theorem V4(fr:List Cell)(k:Nat):(Fn fr k).length=k:=by simp[Fn]
theorem Aes{fr:List Cell}{k:Nat}{c:Cell}(h:c∈Fn fr k):c∈fr∨c=Bf 0:=by
 simp only[Fn,Aqw]at h
 obtain ⟨i,_,rfl⟩:=h
 rw[Apn]
 cases hg:fr[i % fr.length]? with
 | none=>right;rfl
 | some x=>left;exact Apq hg
theorem Af8{fr:List Cell}{i:Nat}(h:i<fr.length):(fr.map dC).getD i D.nil=dC (fr.getD i (Bf 0)):=by
 rw[Au (Apk h),Apn,Apk h];rfl
theorem UM(n a:Arr)(hn:Fits n)(sh:List Int)(fr:List Cell)(hfr:0<fr.length)(K:Nat)(hK:K≤2048)(hf:fr.length≤2048):Tw (Qa 2049 2049 (dI sh) (.sl (fr.map dC)) (Apl K (dC Cell.none)) (K:Int) 0 (dA n) (dA a) 0) [dA (.mk (a.s|||Az n) sh (Fn fr K)),.int 0]:=by
 have key:=Di K (fun m k (cs:List D)=>Qa 2049 m (dI sh) (.sl (fr.map dC)) cs (K:Int) (k:Int) (dA n) (dA a) 0) (fun _ _=>[dA (.mk (a.s|||Az n) sh (Fn fr K)),.int 0])
  (fun k cs=>cs=(Fn fr k).map dC++Apl (K-k) (dC Cell.none))
  (fun m cs hI=>by
   simp only[UL]
   refine Ar (Aa (Fi n hn) ?_)
   simp only[Ag,Ej,V5,Ns]
   refine Aa (Hk a.s (Az n)) (Ac ?_)
   rw[hI,D4,Nat.sub_self,List.replicate_zero,Ap6];rfl)
  (fun m k cs hkK hI ih=>by
   have hm:=Aqe k hfr
   have hcl:cs.length=K:=by rw[hI];simp[V4];omega
   have et:Int.tmod (k:Int) (fr.length:Int)=((k % fr.length:Nat):Int):=rfl
   simp only[UL,Ah,et,hcl,Af8 hm,Bh k]
   repeat (refine Ad ?_)
   refine ih _ ?_
   rw[hI,Aeu,List.set_append_right _ _ (by simp[V4]),Apm,V4,Nat.sub_self,show K-k=(K-(k+1))+1 by omega,List.replicate_succ,List.set_cons_zero]
   simp)
  2049 0 (Apl K (dC Cell.none)) (by omega) (by omega) (by simp[Fn])
 exact key
theorem Ae1:D.agg [D.int 0,D.int 0,D.agg [D.bool false,D.sl [],D.sl []],D.int 0,D.sl []]=dC Cell.none:=by rw[D_];rfl
theorem Aet(K:Nat):Fn [Bf 0] K=Fn [] K:=by
 unfold Fn
 refine List.map_congr_left (fun i _=> ?_)
 simp[Nat.mod_one]
theorem Ahn(n a:Arr)(hn:Fits n)(ha:a.cells.length≤2048)(hnl:n.cells.length≤2048)(hnt : ∀ c∈n.cells,c.n.top.length≤32):Sp 35 [dA n,dA a] [dA (Il n a).1,.int (Il n a).2]:=by
 refine Af 2049 (Aho _ _ _) (Aa (La n hnl hnt) ?_)
 simp only[Ag,C5,Ao,Do,C9,Ae1]
 unfold Il
 refine Ae (fun h=>Ac ?_) (fun h=>Aa (Oq (A9 n).1) ?_)
 · rw[if_neg h]
 rw[if_pos (Apw.1 h)]
 simp only[Ag,C5,Ao]
 refine Ae (fun h=>Ac ?_) (fun h=> ?_)
 · rw[if_neg h]
 rw[if_pos (Apw.1 h)]
 have hk:=Fz (A9 n).1
 generalize (A8 (A9 n).1).1=kz at *
 obtain ⟨K,rfl⟩ : ∃ K:Nat,kz=(K:Int):=⟨kz.toNat,by omega⟩
 simp only[Ah,Aqp]
 refine Ae (fun he=>Aa (Vb a) ?_) (fun he=> ?_)
 · refine Ad (Ad (Ay (by simp only[Ak];omega) ?_))
   have hc:=Aqb.1 (show a.cells.length=0 by omega)
   have hfl:Cr a=Bf 0:=by unfold Cr;rw[hc]
   have:=UM n a hn (A9 n).1 [Bf 0] (by decide) K (by omega) (by decide)
   rw[Aet]at this
   rw[hc,hfl]
   exact this
 · refine Ad (Ad (Ay (by simp only[Ak];omega) ?_))
   exact UM n a hn (A9 n).1 a.cells (by omega) K (by omega) ha
theorem Aij(n:Int)(s:At):Cw (Fg (Bf n)) s=Dd n s:=by simp[Cw,Fg,Dd]
theorem K0{z:Int}(h:Bd z)(d:Nat):SmlC d (Bf z):=by
 have:=TG h
 refine ⟨?_,?_,?_,?_⟩
 · simp only[Bf,Cy];omega
 · simp[Bf,Cy]
 · simp[Bf]
 · simp[Bf]
theorem S2(n:Int)(s:At)(h:Bd n):Sp 148 [.int n,dB s] [dA (Dd n s)]:=by
 refine Af 0 (Ahu _ _ _) (Aa (Jj n h) (Aa (Rt (d:=0) (Bf n) (K0 h 0)) (Aa (Ha _ s) (Ac ?_))))
 rw[Ag,Aij]
def Nh(a:Arr):Arr:=C3 a.shape a.s
theorem Ahp{d:Nat}(a:Arr)(h:Sml d a):Sp 56 [dA a] [dA (Nh a)]:=by
 obtain ⟨e,rfl⟩:=h.succ
 have hl:=h.1
 refine Af (a.shape.length+1) (Ahq _ _) ?_
 simp only[Ah,H2]
 refine Ad (Ad (Ay (by simp only[Ak];omega) ?_))
 have key:=B3 a.shape (fun m k (cs:List D)=>X0 (a.shape.length+1) m cs (dI a.shape) (a.shape.length:Int) (k:Int) (dA a) 0) (fun _ _=>[dA (Nh a)])
  (fun rest cs=>∃ pre:List Int,a.shape=pre++rest∧cs=(pre.map Bf).map dC++Apl rest.length (dC Cell.none))
  (fun m k cs hk hI=>by
   obtain ⟨pre,h1,rfl⟩:=hI
   simp only[UN,Ah]
   refine Ar (Ac ?_)
   rw[Ap6]at h1
   rw[D4,Nh,C3,← h1];simp[dI])
  (fun m k cs c rest hdr hI ih=>by
   obtain ⟨h1,h2,h3⟩:=By hdr
   obtain ⟨pre,hp,rfl⟩:=hI
   have hk:k=pre.length:=by
    have:=congrArg List.length hdr
    rw[hp]at this h1
    simp at this h1;omega
   simp only[UN,Ah,Au h2,Bh k]
   repeat (refine Ad ?_)
   refine Aa (Jj c (h.2.2.1 c (Apq h2))) ?_
   have hlen:((pre.map Bf).map dC++Apl (rest.length+1) (dC Cell.none)).length=a.shape.length:=by rw[hp];simp
   rw[App,hlen]
   refine Ad (Ad ?_)
   have e:=Nd (f:=dC) (z:=dC Cell.none) (pre.map Bf) (Bf c) rest.length
   rw[Apm,← hk]at e
   rw[Ag,e]
   exact ih _ ⟨pre++[c],by rw[hp];simp,by simp⟩)
  (a.shape.length+1) 0 (Apl a.shape.length (dC Cell.none)) (by omega) (by omega) ⟨[],by simp,by simp⟩
 exact key
def M5(a:Arr):Arr:= .mk a.s [(a.cells.length:Int)] a.cells
theorem Ahl{d:Nat}(a:Arr)(h:Sml d a):Sp 57 [dA a] [dA (M5 a)]:=by
 obtain ⟨e,rfl⟩:=h.succ
 refine Af 0 (Ahm _ _) ?_
 simp only[Ah]
 refine Aa (AdO a.cells h.2.1) (Ac ?_)
 rw[D4];rfl
def Ou(a:Arr):Arr:=Dd (a.shape.headD 1) a.s
theorem Ahr{d:Nat}(a:Arr)(h:Sml d a):Sp 64 [dA a] [dA (Ou a)]:=by
 obtain ⟨e,rfl⟩:=h.succ
 refine Af 0 (Ahs _ _) ?_
 simp only[Ah]
 unfold Ou
 match hs:a.shape with
 | []=>exact Ay (by simp) (Aa (S2 1 a.s (Dn (by omega) (by omega))) (Ac rfl))
 | x::xs =>
  refine Oz (by simp;omega) (Ad (Ay (by simp) ?_))
  exact Aa (S2 x a.s (h.2.2.1 x (by rw[hs];simp))) (Ac rfl)
def P7(a:Arr):Arr:=Dd (Fb a:Int) (Az a)
theorem Ahc{d:Nat}(a:Arr)(h:Sml d a)(hd:d≤100000):Sp 63 [dA a] [dA (P7 a)]:=by
 have:=V_ h
 exact Af 0 (Ahd _ _) (Aa (EE d a (by omega) h) (Aa (Fi a h.fits) (Aa (S2 (Fb a:Int) (Az a) (Dn (by omega) (by omega))) (Ac rfl))))
noncomputable def Ms(a b:Arr)(same:Bool):Arr:=Dd (if Kq a b=same then 1 else 0) (Az a|||Az b)
theorem UK{d e:Nat}(a b:Arr)(same:Bool)(h:Sml d a)(hb:Sml e b):Sp 105 [dA a,dA b,.bool same] [dA (Ms a b same)]:=by
 refine Af 0 (Ahk _ _ _ _) (Aa (NS a b h) ?_)
 unfold Ms
 simp only[Ag,Bc,Rx]
 refine Ae (fun hh=> ?_) (fun hh=> ?_)
 · rw[if_pos hh]
   exact Aa (Fi a h.fits) (Aa (Fi b hb.fits) (Aa (Hk (Az a) (Az b)) (Aa (S2 1 _ (Dn (by omega) (by omega))) (Ac rfl))))
 · rw[if_neg hh]
   exact Aa (Fi a h.fits) (Aa (Fi b hb.fits) (Aa (Hk (Az a) (Az b)) (Aa (S2 0 _ (Dn (by omega) (by omega))) (Ac rfl))))
def Mf(a:Arr):At:=match a.shape,a.cells with
 | [],c::_=>c.l
 | _,_=>0
def Lc(a:Arr):Arr:= .mk a.s [] [⟨Mf a,2,.zero,0,[a]⟩]
def I2(a:Arr):Arr×Int:=if Cq a then (a,0) else if 8<Fb a then (.none,7) else (Lc a,0)
theorem FH(a:Arr)(l:At)(h:l=Mf a):D.agg [dB a.s,D.sl [],D.sl [D.agg [dB l,D.int 2,D.agg [D.bool false,D.sl [],D.sl []],D.int 0,D.sl [dA a]]]]=dA (Lc a):=by subst h;rw[Aez,D4];rfl
theorem Ahe{d:Nat}(a:Arr)(h:Sml d a)(hd:d≤100000):Sp 61 [dA a] [dA (I2 a).1,.int (I2 a).2]:=by
 refine Af 0 (Ahf _ _) (Aa (NT a) ?_)
 unfold I2
 simp only[Ah,C9]
 refine Cl (fun hs=>Ac (by rw[if_pos hs])) (fun hs=>Aa (EE d a (by omega) h) ?_)
 rw[if_neg (by simp[hs])]
 simp only[Ag,Ao]
 refine Ae (fun h8=>Ac (by rw[if_pos (by omega)])) (fun h8=> ?_)
 rw[if_neg (by omega)]
 refine Ae (fun h1=>Ae (fun h2=>Ad (Ad (Ac ?_))) (fun h2=>Ac ?_)) (fun h1=>Ac ?_)
 · match hsh:a.shape,hc:a.cells with
   | [],c::cs =>
    simp only[Ap9,Ag,Ah]
    rw[FH a c.l (by unfold Mf;rw[hsh,hc])]
   | x::xs,_=>rw[hsh]at h1;simp at h1;omega
   | [],[]=>rw[hc]at h2;simp at h2
 · refine congrArg (fun x=>[x,D.int 0]) (FH a 0 ?_)
   unfold Mf
   match hsh:a.shape,hc:a.cells with
   | [],c::cs=>rw[hc]at h2;simp at h2
   | x::xs,_=>rfl
   | [],[]=>rfl
 · refine congrArg (fun x=>[x,D.int 0]) (FH a 0 ?_)
   unfold Mf
   match hsh:a.shape,hc:a.cells with
   | [],c::cs=>rw[hsh]at h1;simp at h1
   | x::xs,_=>rfl
   | [],[]=>rfl
def Mj(a:Arr):Arr:=match a.cells with
 | []=>Dd 0 a.s
 | c::_=>Cw (Jh c) a.s
theorem Ahi{d:Nat}(a:Arr)(h:Sml (d+1) a):Sp 62 [dA a] [dA (Mj a)]:=by
 refine Af 0 (Ahj _ _) (Aa (Vb a) ?_)
 unfold Mj
 simp only[Ah]
 match hc:a.cells with
 | [] =>
  have e:Cr a=Bf 0:=by unfold Cr;rw[hc]
  refine Oz (by simp) ?_
  rw[e]
  refine Aa (EF (Bf 0) (K0 I6 0)) (Aa (Ha _ a.s) (Ac ?_))
  rw[Ag,MM (by simp[Bf])]
  simp[Cw,Dd,Bf]
 | c::cs =>
  refine Ay (by simp) (Ad (Ay (by simp) ?_))
  exact Aa (EF c (h.cell c (by rw[hc];simp))) (Aa (Ha _ a.s) (Ac rfl))
mutual
def F1:Arr→List (CellF Arr)
 | .mk _ _ cs=>Gt cs
def Gt:List (CellF Arr)→List (CellF Arr)
 | []=>[]
 | c::cs=>N2 c++Gt cs
def N2:CellF Arr→List (CellF Arr)
 | ⟨l,k,n,c,inn⟩=>if k=2 then I4 inn else [⟨l,k,n,c,inn⟩]
def I4:List Arr→List (CellF Arr)
 | []=>[]
 | a::as_=>F1 a++I4 as_
end
theorem GE(a:Arr):F1 a=Gt a.cells:=by cases a;rw[F1];rfl
theorem GG(c:Cell):N2 c=if c.kind=2 then I4 c.inn else [c]:=by cases c;rw[N2]
def Lg(out fl:List Cell):List D:=if out.length+fl.length≤2048 then [.sl ((out++fl).map dC),.bool true] else [.sl [],.bool false]
theorem UQ : ∀ (d:Nat) (a:Arr) (out:List Cell),Sml d a→out.length≤2048→Sp 150 [.sl (out.map dC),dA a] (Lg out (F1 a))
 | 0,_,_,h,_=>h.elim
 | d+1,a,out,h,ho=>by
  have hl:=h.2.1
  refine Af 1048577 (Aht _ _ _) ?_
  simp only[Ah]
  rw[GE]
  have key:=B3 a.cells (fun m k (out:List Cell)=>S1 1048577 m (out.map dC) (.sl (a.cells.map dC)) (a.cells.length:Int) (k:Int)) (fun rest out=>Lg out (Gt rest)) (fun _ out=>out.length≤2048)
   (fun m k out hk hI=>by
    simp only[UO,Ah]
    refine Ar (Ac ?_)
    rw[Gt,Lg,if_pos (by simpa using hI),Ap6])
   (fun m k out c rest hdr hI ih=>by
    obtain ⟨h1,h2,h3⟩:=By hdr
    have hc:=h.cell c (Apq h2)
    have hlc:=hc.2.2.1
    simp only[UO,Ah,Au h2,Bh k]
    rw[Gt,GG]
    refine Ad (Ad (Ad (Ae (fun hk=> ?_) (fun hk=> ?_))))
    · rw[if_neg hk]
      refine Ae (fun he=>Ac ?_) (fun he=>Ay (by simp only[App,Ap1,Ak];omega) ?_)
      · rw[Lg,if_neg (by simp;omega)]
      · have:=ih (out++[c]) (by simp;omega)
        rw[List.map_append]at this
        refine Tree.wp_mono this (fun ys hy=>hy.trans ?_)
        unfold Lg
        simp only[Apu,App,Ap1,Ap8]
        rw[show out.length+(0+1)+(Gt rest).length=out.length+(0+1+(Gt rest).length) by omega]
    · rw[if_pos (Apw.1 hk)]
      have key:=B3 c.inn (fun m' j (out:List Cell)=>X4 1048577 m m' (out.map dC) (.sl (a.cells.map dC)) (a.cells.length:Int) (k:Int) (.sl (c.inn.map dA)) (c.inn.length:Int) (j:Int)) (fun rest' out=>Lg out (I4 rest'++Gt rest)) (fun _ out=>out.length≤2048)
        (fun m' j out hj hI'=>by
         simp only[UP,Ah,Bh k]
         rw[I4,Aqx]
         exact Ar (ih _ hI'))
        (fun m' j out x rest' hdr' hI' ih'=>by
         obtain ⟨g1,g2,g3⟩:=By hdr'
         simp only[UP,Ah,Au g2,Bh j]
         repeat (refine Ad ?_)
         refine Aa (UQ d x out (hc.2.2.2 x (Apq g2)) hI') ?_
         rw[I4]
         unfold Lg
         by_cases hle:out.length+(F1 x).length≤2048
         · rw[if_pos hle]
           refine Eo rfl ?_
           have:=ih' (out++F1 x) (by simpa using hle)
           simp only[Ag,Ee]
           refine Tree.wp_mono this (fun ys hy=>hy.trans ?_)
           unfold Lg
           simp only[Apu,Ap8,Nat.add_assoc]
         · rw[if_neg hle]
           refine Bi rfl (Ac ?_)
           rw[if_neg (by simp only[Apu];omega)])
        1048577 0 out (by omega) (by omega) hI
      exact key)
   1048577 0 out (by omega) (by omega) ho
  exact key
def Gd(a:Arr):Arr×Int:=if (F1 a).length≤2048 then (.mk (Az a) [((F1 a).length:Int)] (F1 a),0) else (.none,7)
theorem Ahg{d:Nat}(a:Arr)(h:Sml d a):Sp 66 [dA a] [dA (Gd a).1,.int (Gd a).2]:=by
 refine Af 0 (Ahh _ _) (Aa (UQ d a [] h (by simp)) ?_)
 unfold Lg Gd
 simp only[Ap1,Aqv,Aqx,C9]
 by_cases hle:(F1 a).length≤2048
 · rw[if_pos hle,if_pos hle]
   refine Eo rfl (Aa (Fi a h.fits) (Ac ?_))
   simp only[Ag,Ee,Ej,Apm,Ns]
   rw[D4];rfl
 · rw[if_neg hle,if_neg hle]
   exact Bi rfl (Ac rfl)
open Go.RowKit
section
variable {P:Program} {md:Nat→FMode}
def ResV(P:Program)(md:Nat→FMode)(w:World)(M:Nat→Prop)(t:Nat)(y:D)(u:Value):Prop:=∃ look β,VL P md w (As M look β) look β (B0 P t y) u
theorem ResV.int {w:World} {M:Nat→Prop} {t:Nat} {k:IntKind} {n:Int} {u:Value} (h:ResV P md w M t (.int n) u) (ht:P.underlying t=some (.int k)):u = .int k n∧k.min≤n∧n≤k.max:=by
 obtain ⟨look,β,h⟩:=h
 unfold B0 at h
 rw[ht]at h
 exact Gp h
theorem ResV.bool {w:World} {M:Nat→Prop} {t:Nat} {b:Bool} {u:Value} (h:ResV P md w M t (.bool b) u) (ht:P.underlying t=some .bool):u = .bool b:=by
 obtain ⟨look,β,h⟩:=h
 unfold B0 at h
 rw[ht]at h
 exact L6 h
theorem ResV.rd {w:World} {M:Nat→Prop} {t:Nat} {y:D} {u:Value} (h:ResV P md w M t y u) (ht:B0 P t y = .d t y):Rd P md w M (.ty t) y u:=by
 obtain ⟨look,β,h⟩:=h
 rw[ht]at h
 obtain ⟨h1,h2⟩:=Dr h (by simp) (by simp) (by simp)
 cases h1 with
 | d h1=>exact ⟨h1.mono (Apx _) (fun _ _ _=>rfl) (fun b hb _=> .inl hb),h2.size,h2.agg⟩
theorem Kv{w w':World}{M M':Nat→Prop}{t:CT}{x:D}{v:Value}(h:Rd P md w M t x v)(hx:Ext w w')(hM : ∀ b,M' b→b<w.heap.size→M b):Rd P md w' M' t x v :=
 ⟨h.rd.mono hx.size (fun b _ hb=>hx.block b hb) hM,h.size,h.agg⟩
theorem LU{F:Nat}{fn:Func}{xs ys:List D}{vs:List Value}{W:World}{M:Nat→Prop}(hs:Ec P md F [] xs ys)(hfn:P.funcs[F]? = some fn)(hm:md F = {})(hM : ∀ b,M b→b<W.heap.size)
   (hlx:xs.length=fn.params.size) (hlv:vs.length=fn.params.size) (hrd : ∀ (i t:Nat) (x:D) (v:Value),fn.params.toList[i]? = some t→xs[i]? = some x→vs[i]? = some v→Rd P md W M (.ty t) x v) :
   Calls P F vs.toArray W (fun e w'=>∃ us,e = .returned (Lt us)∧us.length=fn.resultTypes.size∧(∀ (i t:Nat) (u:Value),fn.resultTypes.toList[i]? = some t→us[i]? = some u→ResV P md w' M t (ys.getD i .nil) u)∧Ext W w'):=by
 obtain ⟨fn',h1,_,_,h⟩:=hs
 rw[hfn]at h1
 injection h1 with h1
 subst h1
 have nol : ∀ b,¬ Dw (md F) vs b:=fun b ⟨p,v,h1,_⟩=>by rw[hm]at h1;cases h1
 refine (h W M vs 0 1 (fun k hk=>by rw[hm]at hk;cases hk) ⟨by simp[hlx],by simp[hlv],fun b hb=>⟨hM b hb,nol b⟩,?_,fun p hp=>by rw[hm]at hp;cases hp⟩).mono ?_
 · intro i ct x v hc hx hv _
   simp only[Ap6,Ap2,Apz]at hc
   obtain ⟨t,ht,rfl⟩:=hc
   have:=hrd i t x v ht hx hv
   exact ⟨this.rd.mono (Apx _) (fun _ _ _=>rfl) (fun b hb _=>hb.elim id (fun h=>(nol b h).elim)),this.size,this.agg⟩
 · rintro e w' ⟨us,β',hp⟩
   refine ⟨us,hp.ending,by simpa using hp.len,fun i t u ht hu=> ?_,?_⟩
   · have:=hp.vl (Eu P fn.resultTypes.toList ys 0) (by rw[hm];rfl) i _ u (Oo ht) hu
     rw[Aqv]at this
     exact ⟨_,_,this⟩
   · exact Stp.ext (hp.stp.weak fun b hb=>(nol b hb).elim)
theorem IZ{us:List Value}{n:Nat}(h:us.length=n)(hn:n=1) : ∃ u,us = [u]:=by
 subst hn
 match us,h with
 | [u],_=>exact ⟨u,rfl⟩
theorem LV{F:Nat}{fn:Func}{xs:List D}{n:Int}{vs:List Value}{W:World}{M:Nat→Prop}{t:Nat}{k:IntKind}(hs:Ec P md F [] xs [.int n])(hfn:P.funcs[F]? = some fn)(hm:md F = {})(hM : ∀ b,M b→b<W.heap.size)
  (hlx:xs.length=fn.params.size) (hlv:vs.length=fn.params.size) (hrd : ∀ (i t:Nat) (x:D) (v:Value),fn.params.toList[i]? = some t→xs[i]? = some x→vs[i]? = some v→Rd P md W M (.ty t) x v)
  (hrt:fn.resultTypes = #[t]) (ht:P.underlying t=some (.int k)):Calls P F vs.toArray W (fun e w'=>e = .returned (.int k n)∧(k.min≤n∧n≤k.max)∧Ext W w'):=by
 refine (LU hs hfn hm hM hlx hlv hrd).mono ?_
 rintro e w' ⟨us,rfl,hl,hh,hx⟩
 obtain ⟨u,rfl⟩:=IZ hl (by rw[hrt];rfl)
 obtain ⟨rfl,h2⟩:=(hh 0 t u (by rw[hrt];rfl) rfl).int ht
 exact ⟨rfl,h2,hx⟩
theorem AbH{F:Nat}{fn:Func}{xs:List D}{y:D}{vs:List Value}{W:World}{M:Nat→Prop}{t:Nat}(hs:Ec P md F [] xs [y])(hfn:P.funcs[F]? = some fn)(hm:md F = {})(hM : ∀ b,M b→b<W.heap.size)
  (hlx:xs.length=fn.params.size) (hlv:vs.length=fn.params.size) (hrd : ∀ (i t:Nat) (x:D) (v:Value),fn.params.toList[i]? = some t→xs[i]? = some x→vs[i]? = some v→Rd P md W M (.ty t) x v)
  (hrt:fn.resultTypes = #[t]) (ht:B0 P t y = .d t y):Calls P F vs.toArray W (fun e w'=>∃ u,e = .returned u∧Rd P md w' M (.ty t) y u∧Ext W w'):=by
 refine (LU hs hfn hm hM hlx hlv hrd).mono ?_
 rintro e w' ⟨us,rfl,hl,hh,hx⟩
 obtain ⟨u,rfl⟩:=IZ hl (by rw[hrt];rfl)
 exact ⟨u,rfl,(hh 0 t u (by rw[hrt];rfl) rfl).rd ht,hx⟩
theorem WE{F:Nat}{fn:Func}{xs es:List D}{vs:List Value}{W:World}{M:Nat→Prop}{t e:Nat}(hs:Ec P md F [] xs [.sl es])(hfn:P.funcs[F]? = some fn)(hm:md F = { own:=[(0,[])] })(hM : ∀ b,M b→b<W.heap.size)
   (hlx:xs.length=fn.params.size) (hlv:vs.length=fn.params.size) (hrd : ∀ (i t:Nat) (x:D) (v:Value),fn.params.toList[i]? = some t→xs[i]? = some x→vs[i]? = some v→Rd P md W M (.ty t) x v)
   (hrt:fn.resultTypes = #[t]) (ht:B_ P t=some e) (h1:one P t=true) (hne:es≠[]) :
   Calls P F vs.toArray W (fun en w'=>∃ G cap cur,en = .returned (.slice (some ⟨G,0,none⟩) es.length cap)∧W.heap.size≤G∧G<w'.heap.size∧w'.heap[G]? = some (.cells cur e (0,0))∧es.length≤cap∧cap≤maxLen∧cur.size=cap*P.cellsOf e ∧
     (∀ (i:Nat) (x:D),es[i]? = some x→∃ M',RdC P md w' M' (.ty e) x (fun j=>cur[i*P.cellsOf e+j]?))∧Ext W w'):=by
 obtain ⟨fn',g1,_,_,h⟩:=hs
 rw[hfn]at g1
 injection g1 with g1
 subst g1
 have nol : ∀ b,¬ Dw (md F) vs b:=fun b ⟨p,v,h1,_⟩=>by rw[hm]at h1;cases h1
 refine (h W M vs 0 1 (fun k hk=>by rw[hm]at hk;simp at hk;omega) ⟨by simp[hlx],by simp[hlv],fun b hb=>⟨hM b hb,nol b⟩,?_,fun p hp=>by rw[hm]at hp;cases hp⟩).mono ?_
 · intro i ct x v hc hx hv _
   simp only[Ap6,Ap2,Apz]at hc
   obtain ⟨t,ht,rfl⟩:=hc
   have:=hrd i t x v ht hx hv
   exact ⟨this.rd.mono (Apx _) (fun _ _ _=>rfl) (fun b hb _=>hb.elim id (fun h=>(nol b h).elim)),this.size,this.agg⟩
 · rintro en w' ⟨us,β',hp⟩
   have hl:=hp.len
   rw[hrt]at hl
   obtain ⟨u,rfl⟩:=IZ hl rfl
   have hot:Ii P [t] (0,[])=some e:=by simp[Ii,Cb,h1,ht]
   have hlook:Ei P (md F) fn.params.toList fn.resultTypes.toList [.sl es] 0 1 0=some (.row e es true):=by
     rw[hm,hrt]
     simp[Ei,Me,De,Bn,Ax,hot,D.path,D.els,List.getD]
   have hv:=hp.vl [.row 0] (by rw[hm,hrt];simp[Eu,Gk,E7]) 0 (.row 0) u rfl rfl
   have hu:=J7 hv hlook
   have hb:=hp.blks 0 _ hlook
   have ho:=fun B=>hp.own 0 _ B hlook
   obtain ⟨A,cap,hA,hb⟩:=hb
   rcases hb with ⟨hn,_⟩ | ⟨B,cur,rfl,hc0,hB,hlen,hcap,hsz,hpos,hrd'⟩
   · exact absurd hn hne
   · have hob:=ho B (by rw[hA];simp[Bg];omega)
     have hG:=hob.1.resolve_right (nol B)
     refine ⟨B,cap,cur,?_,hG,hob.2,hB,hlen,hcap,hsz,fun i x hx=>⟨_,hrd' i x hx⟩,Stp.ext (hp.stp.weak fun b hb=>(nol b hb).elim)⟩
     rw[hp.ending,hu,hA];rfl
theorem YD{w:World}{M:Nat→Prop}{ps:List Nat}{t:Nat}{x:D}{v:Value}(hp:ps = [t])(h:Rd P md w M (.ty t) x v) : ∀ (i t':Nat) (x':D) (v':Value),ps[i]? = some t'→[x][i]? = some x'→[v][i]? = some v'→Rd P md w M (.ty t') x' v':=by
 intro i t' x' v' h1 h2 h3
 subst hp
 match i with
 | 0=>cases h1;cases h2;cases h3;exact h
 | i+1=>simp at h1
theorem Qq{w:World}{M:Nat→Prop}{ps:List Nat}{t u:Nat}{x y:D}{v z:Value}(hp:ps = [t,u])(h:Rd P md w M (.ty t) x v)(h':Rd P md w M (.ty u) y z) : ∀ (i t':Nat) (x':D) (v':Value),ps[i]? = some t'→[x,y][i]? = some x'→[v,z][i]? = some v'→Rd P md w M (.ty t') x' v':=by
 intro i t' x' v' h1 h2 h3
 subst hp
 match i with
 | 0=>cases h1;cases h2;cases h3;exact h
 | 1=>cases h1;cases h2;cases h3;exact h'
 | i+2=>simp at h1
theorem Qs{w:World}{M:Nat→Prop}{t:Nat}{k:IntKind}{n:Int}(ht:P.underlying t=some (.int k))(hs:P.cellsOf t=1)(ha:Be P t=false)(h1:k.min≤n)(h2:n≤k.max):Rd P md w M (.ty t) (.int n) (.int k n) :=
 ⟨.int ht h1 h2 rfl,hs.symm,ha.symm⟩
theorem CU (hP : WfP P) {F : Nat} {fn : Func} {cts : List CT} {xs ys : List D} (hfn : P.funcs[F]? = some fn) (hb : fn.body.isSome = true) (hn : (fn.name == "runtime.NumGoroutine") = false) (hm : md F = {})
   (h : ∀ (w:World) (M:Nat→Prop) (vs:List Value),(∀ b,M b→b<w.heap.size)→xs.length=fn.params.size+cts.length→vs.length=fn.params.size+cts.length→(∀ (i:Nat) (t:CT) (x:D) (v:Value),(fn.params.toList.map CT.ty++cts)[i]? = some t→xs[i]? = some x→vs[i]? = some v→Rd P md w M t x v) →
     Calls P F vs.toArray w (fun e w'=>∃ us,e = .returned (Lt us)∧us.length=fn.resultTypes.size∧(∀ (i t:Nat) (u:Value),fn.resultTypes.toList[i]? = some t→us[i]? = some u→Rd P md w' M (.ty t) (ys.getD i .nil) u)∧Ext w w')):Ec P md F cts xs ys:=by
 refine ⟨fn,hfn,hb,hn,fun w M vs d bid _ hp=> ?_⟩
 have nol : ∀ b,¬ Dw (md F) vs b:=fun b ⟨p,v,h1,_⟩=>by rw[hm]at h1;cases h1
 have hlook:Ei P (md F) fn.params.toList fn.resultTypes.toList ys d bid=fun _=>none:=by rw[hm];rfl
 refine (h w M vs (fun b hb=>(hp.m b hb).1) (by simpa using hp.lenx) (by simpa using hp.lenv) (fun i t x v h1 h2 h3=> ?_)).mono ?_
 · have:=hp.rd i t x v h1 h2 h3 (by rw[hm];simp)
   exact ⟨this.rd.mono (Apx _) (fun _ _ _=>rfl) (fun b hb _=> .inl hb),this.size,this.agg⟩
 · rintro e w' ⟨us,rfl,hl,hh,hx⟩
   refine ⟨us,fun _=>undef,rfl,by simpa using hl,(Stp.of_ext hx).weak (fun _ h=>h),?_,?_,?_,?_,?_⟩
   · intro ls hls i l u hi hu
     rw[hm]at hls
     simp only[Gk,Aps]at hls
     subst hls
     obtain ⟨t,ht⟩ : ∃ t,fn.resultTypes.toList[i]? = some t:=by
      have:=(Apo.1 hi).1
      rw[Qx]at this
      exact ⟨_,Apk this⟩
     have hr:=hh i t u ht hu
     rw[Oo ht,Aqv]at hi
     injection hi with hi
     subst hi
     have hr':Rd P md w' (As M (Ei P (md F) fn.params.toList fn.resultTypes.toList ys d bid) (fun _=>undef)) (.ty t) (ys.getD i .nil) u:=by
      refine Kv hr (Ext.refl _) (fun b hb _=> ?_)
      rcases hb with hb | ⟨r,k,hk,_⟩
      · exact hb
      · rw[hlook]at hk;cases hk
     exact (M6 hP hr').1
   · intro r b hb;rw[hlook]at hb;cases hb
   · intro r b B hb;rw[hlook]at hb;cases hb
   · intro r q b c B hb;rw[hlook]at hb;cases hb
   · intro hb;rw[hm]at hb;cases hb
end
end Go.Proofs.YtokkbgpgaheakaaGreat
namespace Go.Proofs.YtokkbgpgaheakaaGreat
theorem ES{x k:Nat}(h:(lb x).length=k+1):B ^ k≤x:=by
 rcases Nat.lt_or_ge x (B ^ k) with h1 | h1
 · have:=Ba.2 h1;omega
 · exact h1
theorem IA{r:List Aq}(h : ∀ k,r.length=k+1→B ^ k≤nv r):lb (nv r)=r:=by
 refine TF (fun hne hz=> ?_)
 have hd:=List.dropLast_concat_getLast hne
 have hl:0<r.length:=List.length_pos_iff.2 hne
 have h1:=h (r.length-1) (by omega)
 have e:nv r=nv r.dropLast:=by
  have e2:=Jv r.dropLast (r.getLast hne)
  rw[hd,hz,show (0:Aq).toNat=0 from rfl,Nat.mul_zero,Nat.add_zero]at e2
  exact e2
 have h2:=Cc r.dropLast
 rw[List.length_dropLast]at h2
 omega
theorem XK{α:Type}{pre l:List α}{k:Nat}(hp:pre.length=k)(hk:k<l.length):(pre++l.drop k)[k]? = some l[k]:=by
 rw[Aqn (by omega),hp,Nat.sub_self,List.getElem?_drop,Nat.add_zero,Apk hk]
theorem XL{α:Type}{pre l:List α}{k:Nat}(v:α)(hp:pre.length=k)(hk:k<l.length):(pre++l.drop k).set k v=(pre++[v])++l.drop (k+1):=by
 rw[List.set_append_right _ _ (by omega),hp,Nat.sub_self,Aqa hk,List.set_cons_zero];simp
theorem map_set{α:Type}{f:α→D}{l:List α}{k:Nat}{v:α} : (l.map f).set k (f v)=(l.set k v).map f:=by rw[List.map_set]
theorem Aim(l:List Aq)(i:Nat)(hi:i<l.length)(v:Aq):nv (l.set i v)+B ^ i*(l[i]).toNat=nv l+B ^ i*v.toNat:=by
 induction l generalizing i with
 | nil=>simp at hi
 | cons y l ih =>
  cases i with
  | zero=>simp[nv];omega
  | succ i =>
   have hi':i<l.length:=by simpa using hi
   have:=ih i hi'
   simp only[List.set_cons_succ,nv,List.getElem_cons_succ,Aqr]
   have h2:=congrArg (fun n=>B*n) this
   simp only[Nat.mul_add]at h2
   rw[show B ^ i*B*(l[i]).toNat=B*(B ^ i*(l[i]).toNat) by rw[Aqg (B ^ i) B,Nat.mul_assoc],show B ^ i*B*v.toNat=B*(B ^ i*v.toNat) by rw[Aqg (B ^ i) B,Nat.mul_assoc]]
   omega
theorem O_{X Y:Nat}(hX:X<4294967296)(hY:Y<4294967296):Br .xor .u32 (X:Int) (Y:Int)=((X^^^Y:Nat):Int)∧Br .and .u32 (X:Int) (Y:Int)=((X&&&Y:Nat):Int)∧Br .or .u32 (X:Int) (Y:Int)=((X|||Y:Nat):Int):=by
 have b:Apv .u32=32:=rfl
 have e1:(X^^^Y)<2 ^ 32:=Nat.xor_lt_two_pow (by omega) (by omega)
 have e2:(X&&&Y)<2 ^ 32:=Nat.and_lt_two_pow _ (by omega)
 have e3:(X|||Y)<2 ^ 32:=Nat.or_lt_two_pow (by omega) (by omega)
 simp only[Br,b,BitVec.ofInt_natCast,BitVec.toNat_xor,BitVec.toNat_and,BitVec.toNat_or,BitVec.toNat_ofNat,Aqc (show X<2 ^ 32 by omega),Aqc (show Y<2 ^ 32 by omega)]
 exact ⟨Fw (by omega) (by omega),Fw (by omega) (by omega),Fw (by omega) (by omega)⟩
theorem CX(n:Nat)(h:n<4294967296):n.testBit 31=decide (2147483648≤n):=by
 rw[Nat.testBit_eq_decide_div_mod_eq]
 have:n / 2 ^ 31 % 2=1↔2147483648≤n:=by omega
 simp only[this]
theorem AbO(X Y D c:Nat)(hX:X<4294967296)(hY:Y<4294967296)(hc:c≤1)(hD:(D:Int)=((X:Int)-Y-c) % 4294967296) :
  ((((4294967295^^^X)&&&Y)|||((4294967295^^^(X^^^Y))&&&D):Nat):Int) / 2147483648=if X<Y+c then 1 else 0:=by
 have hDl:D<4294967296:=by omega
 have hN:(((4294967295^^^X)&&&Y)|||((4294967295^^^(X^^^Y))&&&D))<2 ^ 32 :=
  Nat.or_lt_two_pow (Nat.and_lt_two_pow _ (by omega)) (Nat.and_lt_two_pow _ (by omega))
 have ht:=CX _ (show _<4294967296 from hN)
 rw[Nat.testBit_or,Nat.testBit_and,Nat.testBit_and,Nat.testBit_xor,Nat.testBit_xor,Nat.testBit_xor,CX X hX,CX Y hY,CX D hDl,show Nat.testBit 4294967295 31=true by decide]at ht
 generalize (((4294967295^^^X)&&&Y)|||((4294967295^^^(X^^^Y))&&&D))=N at *
 by_cases h1:2147483648≤X <;> by_cases h2:2147483648≤Y <;> by_cases h3:2147483648≤D <;> simp[h1,h2,h3]at ht <;> split <;> omega
theorem OF(x y c:Nat)(hx:x<B)(hy:y<B)(hc:c≤1):Sp 333 [.int (x:Int),.int (y:Int),.int (c:Int)] [.int (((x+y+c) % B:Nat):Int),.int (((x+y+c) / B:Nat):Int)]:=by
 rw[A0]at *
 refine Af 0 (Ad7 _ _ _ _) (Bi (by decide) (Ac ?_))
 simp only[Ao]
 have t1:Api .u64 (Api .u64 (Api .u64 (x:Int)+Api .u64 (y:Int))+Api .u64 (c:Int))=((x+y+c:Nat):Int):=by
  rw[Bs (x:=(x:Int)) (by omega) (by omega),Bs (x:=(y:Int)) (by omega) (by omega),Bs (x:=(c:Int)) (by omega) (by omega),Bs (x:=(x:Int)+y) (by omega) (by omega),Bs (by omega) (by omega)];omega
 rw[t1,Po,Fw (x:=(((x+y+c) / 4294967296:Nat):Int)) (by omega) (by omega)]
 have t2:Api .u32 ((x+y+c:Nat):Int)=(((x+y+c) % 4294967296:Nat):Int):=by rw[IntKind.wrap_u32];omega
 rw[t2]
theorem OG(x y c:Nat)(hx:x<B)(hy:y<B)(hc:c≤1)(z c':Nat)(hz:z<B)(hc':c'≤1)(e:x+B*c'=z+y+c):Sp 334 [.int (x:Int),.int (y:Int),.int (c:Int)] [.int (z:Int),.int (c':Int)]:=by
 rw[A0]at *
 refine Af 0 (AdD _ _ _ _) (Bi (by decide) (Ac ?_))
 simp only[Ao]
 have t1:Api .u32 (Api .u32 ((x:Int)-(y:Int))-(c:Int))=(z:Int):=by rw[IntKind.wrap_u32,IntKind.wrap_u32];omega
 have hm:IntKind.max .u32=((4294967295:Nat):Int):=by decide
 have e1:(4294967295^^^x)<2 ^ 32:=Nat.xor_lt_two_pow (by omega) (by omega)
 have e2:(x^^^y)<2 ^ 32:=Nat.xor_lt_two_pow (by omega) (by omega)
 have e3:(4294967295^^^(x^^^y))<2 ^ 32:=Nat.xor_lt_two_pow (by omega) e2
 have e4:((4294967295^^^x)&&&y)<2 ^ 32:=Nat.and_lt_two_pow _ (by omega)
 have e5:((4294967295^^^(x^^^y))&&&z)<2 ^ 32:=Nat.and_lt_two_pow _ (by omega)
 have hs:=AbO x y z c (by omega) (by omega) hc (by omega)
 rw[t1,hm,(O_ (X:=4294967295) (Y:=x) (by omega) (by omega)).1,(O_ (X:=x) (Y:=y) (by omega) (by omega)).1,(O_ (X:=4294967295) (Y:=x^^^y) (by omega) (by omega)).1,(O_ (X:=4294967295^^^x) (Y:=y) (by omega) (by omega)).2.1,(O_ (X:=4294967295^^^(x^^^y)) (Y:=z) (by omega) (by omega)).2.1,(O_ (by omega) (by omega)).2.2]
 have t3 : ∀ q:Nat,Aqd (q:Int) (2 ^ (min (Apj 31) (Apv .u32)))=(q:Int) / 2147483648:=fun q=>by
  rw[show (2:Int) ^ (min (Apj 31) (Apv .u32))=2147483648 by decide,Int.fdiv_eq_ediv_of_nonneg _ (by omega)]
 rw[t3,hs]
 congr 2
 split <;> congr 1 <;> omega
theorem S3(a b:List Aq)(ha:a.length≤1000000)(hb:b.length≤1000000):Sp 302 [dL a,dL b] [.int (D8 (nv a) (nv b))]:=by
 refine Af (a.length+1) (Ah2 _ _ _) (Aa (F7 a (by omega)) (Aa (F7 b (by omega)) ?_))
 have la:(lb (nv a)).length≤a.length:=Ba.2 (Cc a)
 have lb_:(lb (nv b)).length≤b.length:=Ba.2 (Cc b)
 simp only[Ag,B5,Apm]
 refine Ae (fun h=>Ac ?_) (fun h=>Ae (fun h'=>Ac ?_) (fun h'=> ?_))
 · have h1:nv a<nv b:=by
    have e1:nv a<B ^ (lb (nv a)).length:=Ba.1 (Apx _)
    rcases Nat.lt_or_ge (nv b) (B ^ (lb (nv a)).length) with h2 | h2
    · have:=Ba.2 h2;omega
    · omega
   rw[D8,if_pos h1]
 · have h1:nv b<nv a:=by
    have e1:nv b<B ^ (lb (nv b)).length:=Ba.1 (Apx _)
    rcases Nat.lt_or_ge (nv a) (B ^ (lb (nv b)).length) with h2 | h2
    · have:=Ba.2 h2;omega
    · omega
   rw[D8,if_neg (by omega),if_neg (by omega)]
 · have hl:(lb (nv b)).length=(lb (nv a)).length:=by omega
   have key:=Js (P:=Tryz.prog) (md:=md) (fun m k (_:Unit)=>X9 (a.length+1) m (dL (lb (nv a))) (dL (lb (nv b))) ((k:Int)-1)) (fun _ _=>[.int (D8 (nv a) (nv b))]) (fun k _=>k≤(lb (nv a)).length∧nv a / B ^ k=nv b / B ^ k)
    (fun m s ⟨_,h⟩=>by
     simp only[UU]
     refine Ar (Ac ?_)
     simp at h
     simp[D8,h])
    (fun m k s ⟨h0,h⟩ ih=>by
     have g1:=Eh (lb (nv a)) k (by omega)
     have g2:=Eh (lb (nv b)) k (by omega)
     rw[Bv]at g1 g2
     have ga:((lb (nv a)).map dB).getD k D.nil=D.int ((nv a / B ^ k % B:Nat):Int):=by rw[Au (Apk (show k<(lb (nv a)).length by omega)),← g1];rfl
     have gb:((lb (nv b)).map dB).getD k D.nil=D.int ((nv b / B ^ k % B:Nat):Int):=by rw[Au (Apk (show k<(lb (nv b)).length by omega)),← g2];rfl
     simp only[UU,show ((k+1:Nat):Int)-1=(k:Int) by omega,Ah,ga,gb]
     have ea:=Nat.div_add_mod (nv a / B ^ k) B
     have eb:=Nat.div_add_mod (nv b / B ^ k) B
     rw[Aqm,← Aqr]at ea eb
     rw[h]at ea
     generalize B*(nv b / B ^ (k+1))=q at ea eb
     refine Ad (Ad (Ad (Ad (Ad (Ae (fun h'=>Ac ?_) (fun h'=>Ad (Ad (Ad (Ad (Ae (fun h2=>Ac ?_) (fun h2=> ?_)))))))))))
     · have hlt:=Xt (show nv a / B ^ k<nv b / B ^ k by omega)
       simp only[D8];rw[if_pos hlt]
     · have hlt:=Xt (show nv b / B ^ k<nv a / B ^ k by omega)
       simp only[D8];rw[if_neg (by omega),if_neg (by omega)]
     · rw[Aw (by omega) (by omega)]
       exact ih () ⟨by omega,by omega⟩)
    (a.length+1) (lb (nv a)).length () (by omega) ⟨by omega,by
     rw[Nat.div_eq_of_lt (Ba.1 (Apx _)),Nat.div_eq_of_lt (Ba.1 (by omega))]⟩
   rw[Aw (by omega) (by omega)]
   exact key
theorem UT(x y N:Nat)(hA:(lb x).length≤100000)(hb:(lb y).length≤(lb x).length)(hN:(lb x).length<N):Tw (Oc N N (dL (lb y)) ((lb x).map dB) 0 ((lb x).length:Int) 0) [dL (lb (x+y))]:=by
 have hx:x<B ^ (lb x).length:=Ba.1 (Apx _)
 have hy:y<B ^ (lb x).length:=Ba.1 hb
 have key:=Di (lb x).length (fun m k (s:List Aq×Nat)=>Oc N m (dL (lb y)) ((s.1++(lb x).drop k).map dB) (s.2:Int) ((lb x).length:Int) (k:Int)) (fun _ _=>[dL (lb (x+y))])
  (fun k s=>s.1.length=k∧nv s.1=(x+y) % B ^ k∧s.2=(x % B ^ k+y % B ^ k) / B ^ k)
  (fun m s ⟨h1,h2,h3⟩=>by
   simp only[US,List.drop_length,Ap6,Ah]
   rw[Aqc hx,Aqc hy]at h3
   have hs:x+y=nv s.1+B ^ (lb x).length*s.2:=by rw[h2,h3];exact (Nat.mod_add_div _ _).symm
   have hc:s.2≤1:=by
     have:s.2<2:=by rw[h3,Aqu (Bp _)];omega
     omega
   refine Ar (Ae (fun h0=>Ay (by simp only[App,Ap1,Ak];omega) (Ac ?_)) (fun h0=>Ac ?_))
   · have e1:s.2=1:=by omega
     rw[hs,e1]
     have e2:nv (s.1++[1])=nv s.1+B ^ (lb x).length*1:=by rw[Jv,h1];rfl
     rw[← e2,IA (r:=s.1++[1]) (fun k hk=>by
       rw[e2]
       have:k=(lb x).length:=by simp at hk;omega
       rw[this];omega)]
     simp[dL,dB]
   · have e1:s.2=0:=by omega
     rw[e1,Nat.mul_zero,Nat.add_zero]at hs
     rw[hs,IA (r:=s.1) (fun k hk=>by rw[← hs];have:=ES (x:=x) (k:=k) (by omega);omega)];rfl)
  (fun m k s hk ⟨h1,h2,h3⟩ ih=>by
   have hd:=DZ x y k
   have hc:=DY x y k
   have la:=Aqe (x / B ^ k) B1
   have lb':=Aqe (y / B ^ k) B1
   have lc:s.2≤1:=by
     rw[h3]
     have r1:=Aqe x (Bp k)
     have r2:=Aqe y (Bp k)
     have:(x % B ^ k+y % B ^ k) / B ^ k<2:=by rw[Aqu (Bp k)];omega
     omega
   have hlen:(s.1++(lb x).drop k).length=(lb x).length:=by simp[h1];omega
   have gx:=Eh (lb x) k hk
   rw[Bv]at gx
   have Cg:((s.1++(lb x).drop k).map dB).getD k D.nil=D.int ((x / B ^ k % B:Nat):Int):=by rw[Au (XK h1 hk),← gx];rfl
   have hm:=Aqe (x / B ^ k % B+y / B ^ k % B+s.2) B1
   have Cu:((s.1++(lb x).drop k).map dB).set k (D.int (((x / B ^ k % B+y / B ^ k % B+s.2) % B:Nat):Int))=((s.1++[Ap5 32 ((x / B ^ k % B+y / B ^ k % B+s.2) % B)])++(lb x).drop (k+1)).map dB:=by
     rw[E0 hm,map_set,XL _ h1 hk]
   have go:=ih (s.1++[Ap5 32 ((x / B ^ k % B+y / B ^ k % B+s.2) % B)],(x / B ^ k % B+y / B ^ k % B+s.2) / B) ⟨by simp[h1],S6 h1 h2 (by rw[ofNat_lt hm,hd,h3]),by rw[hc,h3]⟩
   simp only[US,Ah,Cg,hlen,Bh k]
   refine Ad (Ae (fun hb'=> ?_) (fun hb'=> ?_))
   · have gy:=Eh (lb y) k (by omega)
     rw[Bv]at gy
     rw[Au (Apk (show k<(lb y).length by omega)),Ej,gy]
     refine Ad (Ad (Ad (Ad (Aa (OF _ _ s.2 la lb' lc) (Ad (Ad ?_))))))
     simp only[Ag,C5,Ao,Cu]
     exact go
   · have gy:=IV (lb y) k (by omega)
     rw[Bv]at gy
     refine Ae (fun h0=>Ar (Ac ?_)) (fun h0=> ?_)
     · have e0:s.2=0:=by omega
       rw[e0]at h3
       have hyk:y<B ^ k:=Ba.1 (by omega)
       rw[Aqc hyk]at h3
       have hsum:x % B ^ k+y<B ^ k:=by
        rcases Nat.lt_or_ge (x % B ^ k+y) (B ^ k) with h | h
        · exact h
        · have:=Nat.div_pos h (Bp k);omega
       have e1:nv s.1=x % B ^ k+y:=by rw[h2,Nat.add_mod,Aqc hyk,Aqc hsum]
       have hs:nv (s.1++(lb x).drop k)=x+y:=by
        rw[Ih,h1,Yu,Bv,e1]
        have:=Nat.mod_add_div x (B ^ k)
        omega
       rw[← hs,IA (fun j hj=>by rw[hs];have:=ES (x:=x) (k:=j) (by omega);omega)];rfl
     · rw[gy]at Cu go lb'
       refine Ad (Ad (Aa (OF _ 0 s.2 la B1 lc) (Ad (Ad ?_))))
       simp only[Ag,C5,Ao,Cu]
       exact go)
  N 0 ([],0) (by omega) (by omega) ⟨rfl,by simp[Nat.mod_one],by simp[Nat.mod_one]⟩
 exact key
theorem OZ(l:List D):l.take (Apl l.length (D.int 0)).length++(Apl l.length (D.int 0)).drop l.length=l:=by simp
theorem Ah0(a b:List Aq)(ha:a.length≤100000)(hb:b.length≤100000):Sp 325 [dL a,dL b] [dL (lb (nv a+nv b))]:=by
 refine Af 100001 (Ah1 _ _ _) (Aa (F7 a (by omega)) (Aa (F7 b (by omega)) ?_))
 have la:(lb (nv a)).length≤a.length:=Ba.2 (Cc a)
 have lb_:(lb (nv b)).length≤b.length:=Ba.2 (Cc b)
 have c1:=OZ ((lb (nv a)).map dB)
 have c2:=OZ ((lb (nv b)).map dB)
 simp only[Apm]at c1 c2
 simp only[Ag,B5,Apm,Apr,c1,c2]
 refine Ae (fun h=> ?_) (fun h=> ?_)
 · rw[Aw (by omega) (by omega)]
   refine Ad (Ad (Ay (by simp only[Ak];omega) ?_))
   rw[Nat.add_comm (nv a)]
   exact UT (nv b) (nv a) 100001 (by omega) (by omega) (by omega)
 · rw[Aw (by omega) (by omega)]
   refine Ad (Ad (Ay (by simp only[Ak];omega) ?_))
   exact UT (nv a) (nv b) 100001 (by omega) (by omega) (by omega)
theorem UZ(a b:List Aq)(ha:a.length≤100000)(hb:b.length≤100000):Sp 326 [dL a,dL b] [dL (lb (nv a-nv b)),.bool (decide (nv b≤nv a))]:=by
 refine Af 100001 (Ah9 _ _ _) (Aa (S3 a b (by omega) (by omega)) ?_)
 simp only[Ag,Ao]
 refine Ae (fun h=>Ac ?_) (fun h=>Aa (Ig a (by omega)) (Aa (F7 b (by omega)) ?_))
 · have hlt:nv a<nv b:=by
    unfold D8 at h
    rcases Nat.lt_or_ge (nv a) (nv b) with h1 | h1
    · exact h1
    · rw[if_neg (by omega)]at h;split at h <;> omega
   rw[Nat.sub_eq_zero_of_le (by omega),Da,decide_eq_false (by omega)];rfl
 have hge:nv b≤nv a:=by
   unfold D8 at h
   rcases Nat.lt_or_ge (nv a) (nv b) with h1 | h1
   · rw[if_pos h1]at h;omega
   · exact h1
 rw[decide_eq_true hge]
 have la:(lb (nv a)).length≤a.length:=Ba.2 (Cc a)
 have lb_:(lb (nv b)).length≤(lb (nv a)).length:=Ba.2 (by have:=Ba.1 (Apx (lb (nv a)).length);omega)
 simp only[Ag,B5,Apm]
 generalize nv a=x at *
 generalize nv b=y at *
 have hx:x<B ^ (lb x).length:=Ba.1 (Apx _)
 have fin : ∀ l:List Aq,l.length≤100000→nv l=x-y→Tw (.call 321 [] [D.sl (l.map dB)] fun Y5=> .ret [qA Y5,D.bool true]) [dL (lb (x-y)),.bool true]:=fun l hl he=>Aa (F7 l (by omega)) (Ac (by rw[he];rfl))
 have key:=Di (lb x).length (fun m k (s:List Aq×Nat)=>S5 100001 m (dL (lb y)) ((s.1++(lb x).drop k).map dB) (s.2:Int) ((lb x).length:Int) (k:Int)) (fun _ _=>[dL (lb (x-y)),.bool true])
   (fun k s=>s.1.length=k∧nv s.1=(x-y) % B ^ k∧s.2=((x-y) % B ^ k+y % B ^ k) / B ^ k)
   (fun m s ⟨h1,h2,h3⟩=>by
    simp only[UY,List.drop_length,Ap6,Ah]
    refine Ar (fin s.1 (by omega) ?_)
    rw[h2,Aqc (by omega)])
   (fun m k s hk ⟨h1,h2,h3⟩ ih=>by
    obtain ⟨zi,c,c',e1,e2,e3,e4,e5⟩:=AbN hge k
    have la:=Aqe (x / B ^ k) B1
    have lb':=Aqe (y / B ^ k) B1
    have lz:=Aqe ((x-y) / B ^ k) B1
    rw[← e1]at lz
    rw[← e2]at h3
    have lc:c≤1:=by
      rw[e2]
      have r1:=Aqe (x-y) (Bp k)
      have r2:=Aqe y (Bp k)
      have:((x-y) % B ^ k+y % B ^ k) / B ^ k<2:=by rw[Aqu (Bp k)];omega
      omega
    have hlen:(s.1++(lb x).drop k).length=(lb x).length:=by simp[h1];omega
    have gx:=Eh (lb x) k hk
    rw[Bv]at gx
    have Cg:((s.1++(lb x).drop k).map dB).getD k D.nil=D.int ((x / B ^ k % B:Nat):Int):=by rw[Au (XK h1 hk),← gx];rfl
    have Cu:((s.1++(lb x).drop k).map dB).set k (D.int (zi:Int))=((s.1++[Ap5 32 zi])++(lb x).drop (k+1)).map dB:=by
      rw[E0 lz,map_set,XL _ h1 hk]
    have go:=ih (s.1++[Ap5 32 zi],c') ⟨by simp[h1],S6 h1 h2 (by rw[ofNat_lt lz,e1]),e3⟩
    simp only[UY,Ah,Cg,hlen,Bh k,h3]
    refine Ad (Ae (fun hb'=> ?_) (fun hb'=> ?_))
    · have gy:=Eh (lb y) k (by omega)
      rw[Bv]at gy
      rw[Au (Apk (show k<(lb y).length by omega)),Ej,gy]
      refine Ad (Ad (Ad (Ad (Aa (OG _ _ c la lb' lc zi c' lz e4 e5) (Ad (Ad ?_))))))
      simp only[Ag,C5,Ao,Cu]
      exact go
    · have gy:=IV (lb y) k (by omega)
      rw[Bv]at gy
      refine Ae (fun h0=> ?_) (fun h0=> ?_)
      · have e0:c=0:=by omega
        rw[e0]at e2
        have hyk:y<B ^ k:=Ba.1 (by omega)
        rw[Aqc hyk]at e2
        have hsum:(x-y) % B ^ k+y<B ^ k:=by
         rcases Nat.lt_or_ge ((x-y) % B ^ k+y) (B ^ k) with h | h
         · exact h
         · have:=Nat.div_pos h (Bp k);omega
        have q1:=Nat.mod_add_div (x-y) (B ^ k)
        have q2:x=((x-y) % B ^ k+y)+B ^ k*((x-y) / B ^ k):=by omega
        have q3:x / B ^ k=(x-y) / B ^ k:=by
         have:x / B ^ k=(((x-y) % B ^ k+y)+B ^ k*((x-y) / B ^ k)) / B ^ k:=by rw[← q2]
         rw[this,Nat.add_mul_div_left _ _ (Bp k),Nat.div_eq_of_lt hsum,Aqv]
        refine fin _ (by rw[hlen];omega) ?_
        rw[Ih,h1,Yu,Bv,h2,q3];exact q1
      · rw[gy]at e5
        refine Ad (Ad (Aa (OG _ 0 c la B1 lc zi c' lz e4 e5) (Ad (Ad ?_))))
        simp only[Ag,C5,Ao,Cu]
        exact go)
   100001 0 ([],0) (by omega) (by omega) ⟨rfl,by simp[Nat.mod_one],by simp[Nat.mod_one]⟩
 exact key
theorem Ahy{x y o c:Nat}(hx:x<B)(hy:y<B)(ho:o<B)(hc:c<B):x*y+o+c<18446744073709551616∧x*y<18446744073709551616∧x*y+o<18446744073709551616:=by
 have h1:x*y≤(B-1)*(B-1):=Nat.mul_le_mul (by omega) (by omega)
 rw[A0]at *
 omega
theorem Ah6(a b:List Aq)(ha:a.length≤100000)(hb:b.length≤100000):Sp 303 [dL a,dL b] [dL (lb (nv a*nv b))]:=by
 refine Af 100001 (Ah7 _ _ _) (Aa (F7 a (by omega)) (Aa (F7 b (by omega)) ?_))
 have la:(lb (nv a)).length≤a.length:=Ba.2 (Cc a)
 have lb_:(lb (nv b)).length≤b.length:=Ba.2 (Cc b)
 simp only[Ag,B5,Apm,Cp]
 generalize nv a=x at *
 generalize nv b=y at *
 refine Ae (fun h=>Ac ?_) (fun h=>Ae (fun h'=>Ac ?_) (fun h'=> ?_))
 · have:x=0:=Hl.1 (by omega)
   rw[this,Nat.zero_mul,Da];rfl
 · have:y=0:=Hl.1 (by omega)
   rw[this,Nat.mul_zero,Da];rfl
 have hm:(lb y).length=(lb y).length:=rfl
 generalize hmm:(lb y).length=mm at *
 rw[Aw (by omega) (by omega)]
 refine Ad (Ad (Ay (by simp only[Ak];omega) ?_))
 have hyB:y<B ^ mm:=Ba.1 (by omega)
 have hxB:x<B ^ (lb x).length:=Ba.1 (Apx _)
 rw[show ((lb x).length:Int)+(mm:Int)=(((lb x).length+mm:Nat):Int) by omega,Apr]
 have key:=Di (lb x).length (fun m i (lo:List Aq)=>Yd 100001 m (dL (lb y)) ((lo++Apl ((lb x).length-i) 0).map dB) (dL (lb x)) ((lb x).length:Int) (i:Int)) (fun _ _=>[dL (lb (x*y))])
   (fun i lo=>lo.length=i+mm∧nv lo=(x % B ^ i)*y)
   (fun m lo ⟨h1,h2⟩=>by
    simp only[UX,Nat.sub_self,List.replicate_zero,Ap6,Ah]
    refine Ar (Aa (F7 lo (by omega)) (Ac ?_))
    rw[h2,Aqc hxB];rfl)
   (fun m i lo hi ⟨h1,h2⟩ ih=>by
    have gx:=Eh (lb x) i hi
    rw[Bv]at gx
    have xl:x / B ^ i % B<B:=Aqe _ B1
    have gX:((lb x).map dB).getD i D.nil=D.int ((x / B ^ i % B:Nat):Int):=by rw[Au (Apk hi),← gx];rfl
    simp only[UX,Ah,gX,hmm]
    refine Ad (Ad (Ad ?_))
    have hxs:x % B ^ (i+1)=x % B ^ i+B ^ i*(x / B ^ i % B):=Nat.mod_pow_succ
    generalize x / B ^ i % B=xi at *
    have key:=Di mm (fun m' j (s:List Aq×Nat)=>Yc 100001 m m' (dL (lb y)) ((s.1++Apl ((lb x).length-i) 0).map dB) (i:Int) (xi:Int) (s.2:Int) (dL (lb x)) ((lb x).length:Int) (i:Int) (dL (lb y)) (mm:Int) (j:Int)) (fun _ _=>[dL (lb (x*y))])
     (fun j s=>s.1.length=i+mm∧s.2<B∧nv s.1+B ^ (i+j)*s.2=nv lo+B ^ i*(xi*(y % B ^ j)))
     (fun m' s ⟨g1,g2,g3⟩=>by
      have ew:Api .i64 ((i:Int)+(mm:Int))=((i+mm:Nat):Int):=by rw[Aw (by omega) (by omega)];omega
      have hB:=A0
      have ec:Api .u32 (s.2:Int)=(s.2:Int):=Fw (by omega) (by omega)
      have hlen:(s.1++Apl ((lb x).length-i) (0:Aq)).length=(lb x).length+mm:=by simp[g1];omega
      simp only[UW,Ah,hmm,ew,ec,hlen,Bh i]
      refine Ar (Ad (Ad ?_))
      have Cu:((s.1++Apl ((lb x).length-i) 0).map dB).set (i+mm) (D.int (s.2:Int))=((s.1++[Ap5 32 s.2])++Apl ((lb x).length-(i+1)) 0).map dB:=by
       rw[E0 g2,map_set,List.set_append_right _ _ (by omega),g1,Nat.sub_self,show (lb x).length-i=((lb x).length-(i+1))+1 by omega,List.replicate_succ,List.set_cons_zero];simp
      rw[Cu]
      refine ih _ ⟨by simp[g1];omega,?_⟩
      rw[Jv,g1,ofNat_lt g2,g3,h2,Aqc hyB,hxs,Nat.add_mul,Nat.mul_assoc])
     (fun m' j s hj ⟨g1,g2,g3⟩ ih'=>by
      have gy:=Eh (lb y) j (by omega)
      rw[Bv]at gy
      have yl:y / B ^ j % B<B:=Aqe _ B1
      have gY:((lb y).map dB).getD j D.nil=D.int ((y / B ^ j % B:Nat):Int):=by rw[Au (Apk (by omega)),← gy];rfl
      have hys:y % B ^ (j+1)=y % B ^ j+B ^ j*(y / B ^ j % B):=Nat.mod_pow_succ
      have hij:i+j<s.1.length:=by omega
      have ew:Api .i64 ((i:Int)+(j:Int))=((i+j:Nat):Int):=by rw[Aw (by omega) (by omega)];omega
      have hlen:(s.1++Apl ((lb x).length-i) (0:Aq)).length=(lb x).length+mm:=by simp[g1];omega
      have gO:((s.1++Apl ((lb x).length-i) 0).map dB).getD (i+j) D.nil=D.int ((s.1[i+j]).toNat:Int):=by rw[Au (x:=s.1[i+j]) (by rw[Ap_ hij,Apk hij])];rfl
      simp only[UW,Ah,ew,gO,gY,hlen,Bh j]
      generalize y / B ^ j % B=yj at *
      have ol:=Fe (s.1[i+j])
      have hns:=Aim s.1 (i+j) hij (Ap5 32 ((xi*yj+(s.1[i+j]).toNat+s.2) % B))
      have hmd:=Aqe (xi*yj+(s.1[i+j]).toNat+s.2) B1
      rw[ofNat_lt hmd]at hns
      generalize hoo:(s.1[i+j]).toNat=o at *
      have hbd:=Ahy xl yl ol g2
      have hB:=A0
      have t0:Api .u64 (xi:Int)=(xi:Int):=Bs (by omega) (by omega)
      have t0':Api .u64 (yj:Int)=(yj:Int):=Bs (by omega) (by omega)
      have t0'':Api .u64 (o:Int)=(o:Int):=Bs (by omega) (by omega)
      have t1:Api .u64 ((xi:Int)*(yj:Int))=((xi*yj:Nat):Int):=by rw[← Int.natCast_mul];exact Bs (by omega) (by omega)
      have t2:Api .u64 (((xi*yj:Nat):Int)+(o:Int))=((xi*yj+o:Nat):Int):=by rw[Bs (by omega) (by omega)];omega
      have t3:Api .u64 (((xi*yj+o:Nat):Int)+(s.2:Int))=((xi*yj+o+s.2:Nat):Int):=by rw[Bs (by omega) (by omega)];omega
      simp only[t0,t0',t0'',t1,t2,t3,Po]
      have t4:Api .u32 ((xi*yj+o+s.2:Nat):Int)=(((xi*yj+o+s.2) % B:Nat):Int):=by rw[IntKind.wrap_u32,A0];omega
      have Cu:((s.1++Apl ((lb x).length-i) 0).map dB).set (i+j) (D.int (((xi*yj+o+s.2) % B:Nat):Int))=((s.1.set (i+j) (Ap5 32 ((xi*yj+o+s.2) % B)))++Apl ((lb x).length-i) 0).map dB:=by
       rw[E0 hmd,map_set,List.set_append_left _ _ hij]
      rw[t4,Cu]
      refine Ad (Ad (Ad (Ad (Ad (Ad (Ad (Bi (by decide) ?_)))))))
      have hcl:(xi*yj+o+s.2) / 4294967296<B:=by rw[A0];omega
      refine ih' (s.1.set (i+j) (Ap5 32 ((xi*yj+o+s.2) % B)),(xi*yj+o+s.2) / 4294967296) ⟨by simp[g1],hcl,?_⟩
      show nv (s.1.set (i+j) _)+B ^ (i+(j+1))*((xi*yj+o+s.2) / B)=_
      have q1:B ^ (i+(j+1))*((xi*yj+o+s.2) / B)=B ^ (i+j)*(B*((xi*yj+o+s.2) / B)):=by rw[← Nat.add_assoc,Aqr,Nat.mul_assoc]
      have q2:B ^ (i+j)*((xi*yj+o+s.2) % B)+B ^ (i+j)*(B*((xi*yj+o+s.2) / B))=B ^ (i+j)*(xi*yj+o+s.2):=by rw[← Nat.mul_add,Nat.mod_add_div]
      have q3:B ^ (i+j)*(xi*yj+o+s.2)=B ^ (i+j)*(xi*yj)+B ^ (i+j)*o+B ^ (i+j)*s.2:=by rw[Nat.mul_add,Nat.mul_add]
      have q4:B ^ i*(xi*(y % B ^ (j+1)))=B ^ i*(xi*(y % B ^ j))+B ^ (i+j)*(xi*yj):=by
       rw[hys,Nat.mul_add,Nat.mul_add,Nat.pow_add,Nat.mul_left_comm xi,Nat.mul_assoc]
      rw[q1,q4]
      omega)
     100001 0 (lo,0) (by omega) (by omega) ⟨h1,B1,by simp[Nat.mod_one]⟩
    exact key)
   100001 0 (Apl mm 0) (by omega) (by omega) ⟨by simp,by rw[Yv];simp[Nat.mod_one]⟩
 have e0:(Apl mm (0:Aq)++Apl ((lb x).length-0) 0).map dB=Apl ((lb x).length+mm) (D.int 0):=by
   rw[List.replicate_append_replicate,List.map_replicate,show mm+((lb x).length-0)=(lb x).length+mm by omega];rfl
 rw[e0]at key
 exact key
theorem Za{r d:Nat}(hr:r<4294967296)(hd:d<4294967296):Br .or .u64 ((r*4294967296:Nat):Int) (d:Int)=((r*4294967296+d:Nat):Int):=by
 have h:=JH hd hr
 have hc:Br .or .u64 ((r*4294967296:Nat):Int) (d:Int)=Br .or .u64 (d:Int) ((r*4294967296:Nat):Int):=by unfold Br;simp only;rw[BitVec.or_comm]
 rw[hc,h,Nat.add_comm]
theorem AhF(l:List Aq)(y:Nat)(hy:0<y)(hyB:y<B)(hl:l.length≤1000000) : ∃ q:List Aq,q.length=l.length∧nv q=nv l / y∧Sp 331 [.sl (l.map dB),.int (y:Int)] [.int ((nv l % y:Nat):Int),.sl (q.map dB)]:=by
 have hq : ∃ q:List Aq,q.length=l.length∧nv q=nv l / y:=by
  have h1:nv l / y<B ^ l.length:=Nat.lt_of_le_of_lt (Nat.div_le_self _ _) (Cc l)
  have h2:=Ba.2 h1
  refine ⟨lb (nv l / y)++Apl (l.length-(lb (nv l / y)).length) 0,by simp;omega,?_⟩
  rw[Ih,Yv,Bv];simp
 obtain ⟨q0,hq1,hq2⟩:=hq
 refine ⟨q0,hq1,hq2,Af (l.length+1) (AhG _ _ _) ?_⟩
 simp only[Ee,Ao,Apm]
 have uniq : ∀ q:List Aq,q.length=l.length→nv q=nv l / y→q=q0:=by
  intro q h1 h2
  apply List.ext_getElem (by omega)
  intro i g1 g2
  apply BitVec.eq_of_toNat_eq
  rw[Eh q i g1,Eh q0 i g2,h2,hq2]
 have key:=Js (P:=Tryz.prog) (md:=md) (fun m k (s:List Aq×Nat)=>Yi (l.length+1) m ((l.take k++s.1).map dB) (y:Int) (s.2:Int) ((k:Int)-1)) (fun _ _=>[.int ((nv l % y:Nat):Int),.sl (q0.map dB)])
  (fun k s=>k≤l.length∧s.1.length=l.length-k∧nv s.1=nv l / B ^ k / y∧s.2=nv l / B ^ k % y)
  (fun m s ⟨h0,h1,h2,h3⟩=>by
   simp only[VB,List.take_zero,Aqx]
   refine Ar (Ac ?_)
   simp at h2 h3
   rw[uniq s.1 (by omega) h2,h3]
   have:=Aqe (nv l) hy
   rw[A0]at hyB
   rw[Fw (by omega) (by omega)])
  (fun m k s ⟨h0,h1,h2,h3⟩ ih=>by
   have hk:k<l.length:=by omega
   have hlen:((l.take (k+1)++s.1).map dB).length=l.length:=by simp;omega
   have gd:=Eh l k hk
   have Cg:((l.take (k+1)++s.1).map dB).getD k D.nil=D.int ((l[k]).toNat:Int):=by rw[Au (x:=l[k]) (by rw[Ap_ (by simp;omega),List.getElem?_take,if_pos (by omega),Apk hk])];rfl
   have hs2:s.2<y:=by rw[h3];exact Aqe _ hy
   have dl:=Fe l[k]
   have hQ:nv l / B ^ k=B*(nv l / B ^ (k+1))+(l[k]).toNat:=by
    rw[gd,Aqr,← Aqm];exact (Nat.div_add_mod _ _).symm
   generalize hdd:(l[k]).toNat=d at *
   have e1:=Nat.div_add_mod (nv l / B ^ (k+1)) y
   rw[← h2,← h3]at e1
   have hQ2:nv l / B ^ k=y*(B*nv s.1)+(s.2*B+d):=by
    rw[hQ,← e1,Nat.mul_add,Nat.mul_left_comm,Aqg B s.2];omega
   have hd1:nv l / B ^ k / y=B*nv s.1+(s.2*B+d) / y:=by rw[hQ2,Nat.mul_add_div hy]
   have hd2:nv l / B ^ k % y=(s.2*B+d) % y:=by rw[hQ2,Nat.mul_add_mod]
   have hlt:(s.2*B+d) / y<B:=by
    rw[Aqu hy]
    have:(s.2+1)*B≤y*B:=Ap3 _ hs2
    rw[Nat.add_mul,Nat.one_mul]at this
    rw[Aqg B y];omega
   rw[A0]at hyB dl hlt
   have b64:(2:Int) ^ (min (Apj 32) (Apv .u64))=4294967296:=by decide
   have t1:Api .u64 ((s.2:Int)*4294967296)=((s.2*4294967296:Nat):Int):=by rw[Bs (by omega) (by omega)];omega
   have t2:Api .u64 (d:Int)=(d:Int):=Bs (by omega) (by omega)
   have t3:Api .u64 (y:Int)=(y:Int):=Bs (by omega) (by omega)
   have t4:Api .u64 (Int.tdiv ((s.2*4294967296+d:Nat):Int) (y:Int))=(((s.2*4294967296+d) / y:Nat):Int):=by
    rw[show Int.tdiv ((s.2*4294967296+d:Nat):Int) (y:Int)=(((s.2*4294967296+d) / y:Nat):Int) from rfl]
    generalize (s.2*4294967296+d) / y=qq at hlt ⊢
    exact Bs (by omega) (by omega)
   have t5:Int.tmod ((s.2*4294967296+d:Nat):Int) (y:Int)=(((s.2*4294967296+d) % y:Nat):Int):=rfl
   have t6:Api .u32 (((s.2*4294967296+d) / y:Nat):Int)=(((s.2*4294967296+d) / y:Nat):Int):=by
    generalize (s.2*4294967296+d) / y=qq at hlt ⊢
    exact Fw (by omega) (by omega)
   simp only[VB,show ((k+1:Nat):Int)-1=(k:Int) by omega,Apr,Cg,hlen,Ao,b64,t1,t2,t3,Za (show s.2<4294967296 by omega) dl,t4,t5,t6]
   have Cu:((l.take (k+1)++s.1).map dB).set k (D.int (((s.2*4294967296+d) / y:Nat):Int))=(l.take k++(Ap5 32 ((s.2*4294967296+d) / y)::s.1)).map dB:=by
    rw[E0 hlt,map_set,List.take_succ_eq_append_getElem hk,Ap8,List.set_append_right _ _ (by rw[Ap0];omega),Ap0,Nat.min_eq_left (by omega),Nat.sub_self];rfl
   rw[Cu,Aw (by omega) (by omega)]
   have hne:(!((y:Int)==0))=true:=by simp;omega
   refine Ad (Bi (by decide) (Ad (Ad (Bi hne (Ad (Ad (Bi hne ?_)))))))
   refine ih (Ap5 32 ((s.2*4294967296+d) / y)::s.1,(s.2*4294967296+d) % y) ⟨by omega,by simp;omega,?_,hd2.symm⟩
   rw[nv,ofNat_lt hlt]
   show (s.2*B+d) / y+B*nv s.1=_
   rw[hd1,Nat.add_comm])
  (l.length+1) l.length ([],0) (by omega) ⟨by omega,by simp,by rw[Nat.div_eq_of_lt (Cc l)];simp,by rw[Nat.div_eq_of_lt (Cc l)];simp⟩
 rw[List.take_length,Ap6]at key
 rw[Aw (by omega) (by omega)]
 exact key
def DT(x y:Nat):Prop:=1<(lb y).length→y≤x→Sp 332 [dL (lb x),dL (lb y)] [dL (lb (x / y)),dL (lb (x % y))]
theorem Ya(a b:List Aq)(ha:a.length≤100000)(hb:b.length≤100000)(hL:DT (nv a) (nv b)):Sp 323 [dL a,dL b] [dL (lb (nv a / nv b)),dL (lb (if nv b=0 then 0 else nv a % nv b)),.bool (decide (nv b≠0))]:=by
 refine Af 0 (Ah3 _ _ _) (Aa (F7 a (by omega)) (Aa (F7 b (by omega)) ?_))
 have la:(lb (nv a)).length≤a.length:=Ba.2 (Cc a)
 have lb_:(lb (nv b)).length≤b.length:=Ba.2 (Cc b)
 simp only[Ag,B5,Apm,Cp]
 refine Ae (fun h=>Ac ?_) (fun h=> ?_)
 · have h0:nv b=0:=Hl.1 (by omega)
   rw[h0,Nat.div_zero,if_pos rfl,Da];rfl
 have h0:nv b≠0:=fun hh=>h (by rw[hh,Da];rfl)
 rw[if_neg h0,decide_eq_true h0]
 have cm:=S3 (lb (nv a)) (lb (nv b)) (by omega) (by omega)
 rw[Bv,Bv]at cm
 refine Aa cm ?_
 simp only[Ag,Ao]
 refine Ae (fun h1=> ?_) (fun h1=> ?_)
 · have hlt:nv a<nv b:=by
    unfold D8 at h1
    rcases Nat.lt_or_ge (nv a) (nv b) with h2 | h2
    · exact h2
    · rw[if_neg (by omega)]at h1;split at h1 <;> omega
   have nm:=Ig (lb (nv a)) (by omega)
   rw[Bv]at nm
   refine Aa nm (Ac ?_)
   rw[Nat.div_eq_of_lt hlt,Aqc hlt,Da];rfl
 have hge:nv b≤nv a:=by
   unfold D8 at h1
   rcases Nat.lt_or_ge (nv a) (nv b) with h2 | h2
   · rw[if_pos h2]at h1;omega
   · exact h2
 refine Ae (fun h2=> ?_) (fun h2=> ?_)
 · obtain ⟨d,hd⟩ : ∃ d,lb (nv b) = [d]:=by
    match hh:lb (nv b) with
    | [d]=>exact ⟨d,rfl⟩
    | []=>rw[hh]at h2;simp at h2
    | _::_::_=>rw[hh]at h2;simp at h2;omega
   have hbv:nv b=d.toNat:=by rw[← Bv (nv b),hd];simp[nv]
   have nm:=Ig (lb (nv a)) (by omega)
   rw[Bv]at nm
   refine Aa nm ?_
   simp only[hd,Ap9,List.map_nil,App,Ap1,Int.toNat_zero,Ag,B5,Ej]
   rw[← hbv]
   have hdB:nv b<B:=by rw[hbv];exact Fe d
   obtain ⟨q,q1,q2,q3⟩:=AhF (lb (nv a)) (nv b) (by omega) hdB (by omega)
   rw[Bv]at q2 q3
   refine Ad (Ad (Aa q3 ?_))
   have hr:nv a % nv b<B:=Aqk (Aqe _ (by omega)) (by omega)
   simp only[Ag,C5,Ee,Ao]
   refine Aa (F7 q (by omega)) ?_
   rw[E0 hr]
   refine Aa (Ig [Ap5 32 (nv a % nv b)] (by simp)) (Ac ?_)
   have e:nv [Ap5 32 (nv a % nv b)]=nv a % nv b:=by simp only[nv];rw[ofNat_lt hr];omega
   rw[e,q2];rfl
 · exact Aa (hL (by omega) hge) (Ac rfl)
theorem Ng(z:Int):(E8 z = -1∧z<0)∨(E8 z=0∧z=0)∨(E8 z=1∧0<z):=by
 unfold E8
 by_cases h1:z<0
 · exact .inl ⟨if_pos h1,h1⟩
 · by_cases h2:z=0
   · exact .inr (.inl ⟨by rw[if_neg h1,if_pos h2],h2⟩)
   · exact .inr (.inr ⟨by rw[if_neg h1,if_neg h2],by omega⟩)
theorem DK(a:Wh)(h:a.mag.length≤1000000):Sp 301 [dW a] [.int (E8 (zv a))]:=by
 refine Af 0 (AoR _ _) ?_
 have cm:=S3 a.mag [] h (by simp)
 simp only[F0,Fo,Bc]
 refine Aa cm ?_
 simp only[Ag,Ao,Cp,IW]
 unfold E8 zv D8
 refine Ae (fun h0=>Ac ?_) (fun h0=>Cl (fun h1=>Ac ?_) (fun h1=>Ac ?_))
 · have:nv a.mag=0:=by
    rw[if_neg (by omega)]at h0
    split at h0
    · assumption
    · omega
   rw[this];cases a.neg <;> simp
 · have:nv a.mag≠0:=fun hh=>h0 (by rw[hh];simp)
   rw[if_pos (by rw[if_pos h1];omega)]
 · have:nv a.mag≠0:=fun hh=>h0 (by rw[hh];simp)
   rw[if_neg (by rw[if_neg (by simp[h1])];omega),if_neg (by rw[if_neg (by simp[h1])];omega)]
theorem Ac3(a b:Wh)(ha:a.mag.length≤1000000)(hb:b.mag.length≤1000000):Sp 253 [dW a,dW b] [.int (Cv (zv a) (zv b))]:=by
 refine Af 0 (AoK _ _ _) (Aa (DK a ha) (Aa (DK b hb) ?_))
 simp only[Ag,Ao,Fo]
 have za:=Ma a
 have zb:=Ma b
 refine Ae (fun h=>Ac ?_) (fun h=>Ae (fun h'=>Ac ?_) (fun h'=>Ae (fun h2=>Aa (S3 b.mag a.mag hb ha) (Ac ?_)) (fun h2=>Aa (S3 a.mag b.mag ha hb) (Ac ?_))))
 · have:zv a<zv b:=by rcases Ng (zv a) with h1 | h1 | h1 <;> rcases Ng (zv b) with h2 | h2 | h2 <;> omega
   rw[Cv,if_pos this]
 · have:zv b<zv a:=by rcases Ng (zv a) with h1 | h1 | h1 <;> rcases Ng (zv b) with h2 | h2 | h2 <;> omega
   rw[Cv,if_neg (by omega),if_neg (by omega)]
 · have h3:zv a<0∧zv b<0:=by rcases Ng (zv a) with h1 | h1 | h1 <;> rcases Ng (zv b) with h2 | h2 | h2 <;> omega
   simp only[Ag,Ao]
   have:D8 (nv b.mag) (nv a.mag)=Cv (zv a) (zv b):=by
    unfold D8 Cv
    by_cases g1:nv b.mag<nv a.mag
    · rw[if_pos g1,if_pos (show zv a<zv b by omega)]
    · rw[if_neg g1,if_neg (show ¬ zv a<zv b by omega)]
      by_cases g2:nv b.mag=nv a.mag
      · rw[if_pos g2,if_pos (show zv a=zv b by omega)]
      · rw[if_neg g2,if_neg (show ¬ zv a=zv b by omega)]
   rw[this]
 · have h3:0≤zv a∧0≤zv b:=by rcases Ng (zv a) with h1 | h1 | h1 <;> rcases Ng (zv b) with h2 | h2 | h2 <;> omega
   simp only[Ag,Ao]
   have:D8 (nv a.mag) (nv b.mag)=Cv (zv a) (zv b):=by
    unfold D8 Cv
    by_cases g1:nv a.mag<nv b.mag
    · rw[if_pos g1,if_pos (show zv a<zv b by omega)]
    · rw[if_neg g1,if_neg (show ¬ zv a<zv b by omega)]
      by_cases g2:nv a.mag=nv b.mag
      · rw[if_pos g2,if_pos (show zv a=zv b by omega)]
      · rw[if_neg g2,if_neg (show ¬ zv a=zv b by omega)]
   rw[this]
theorem MP(a b:Wh)(ha:a.mag.length≤100000)(hb:b.mag.length≤100000):Sp 313 [dW a,dW b] [dW (wz (zv a+zv b))]:=by
 refine Af 0 (AoJ _ _ _) ?_
 simp only[F0,Fo,Bc,Rx]
 refine Ae (fun h=>Aa (Ah0 a.mag b.mag ha hb) (Aa (L7 a.neg _) (Ac ?_))) (fun h=>Aa (UZ a.mag b.mag ha hb) ?_)
 · have:(if a.neg=true then -((nv a.mag+nv b.mag:Nat):Int) else ((nv a.mag+nv b.mag:Nat):Int))=zv a+zv b:=by
    unfold zv;rw[← h];cases a.neg <;> simp <;> omega
   rw[Ag,this]
 simp only[Ag,C5,Bc]
 refine Ae (fun h1=>Aa (L7 a.neg _) (Ac ?_)) (fun h1=>Aa (UZ b.mag a.mag hb ha) (Aa (L7 b.neg _) (Ac ?_)))
 · have:(if a.neg=true then -((nv a.mag-nv b.mag:Nat):Int) else ((nv a.mag-nv b.mag:Nat):Int))=zv a+zv b:=by
    unfold zv;cases ea:a.neg <;> cases eb:b.neg <;> simp[ea,eb]at h ⊢ <;> omega
   rw[Ag,this]
 · have:(if b.neg=true then -((nv b.mag-nv a.mag:Nat):Int) else ((nv b.mag-nv a.mag:Nat):Int))=zv a+zv b:=by
    unfold zv;cases ea:a.neg <;> cases eb:b.neg <;> simp[ea,eb]at h ⊢ <;> omega
   rw[Ag,this]
theorem Apc(b:Wh):zv ⟨!b.neg,b.mag⟩ = -zv b:=by unfold zv;cases b.neg <;> simp
theorem AoU(a b:Wh)(ha:a.mag.length≤100000)(hb:b.mag.length≤100000):Sp 324 [dW a,dW b] [dW (wz (zv a-zv b))]:=by
 refine Af 0 (AoV _ _ _) ?_
 simp only[F0,Fo,Bc,Ae2]
 refine Aa (MP a ⟨!b.neg,b.mag⟩ ha hb) (Ac ?_)
 rw[Apc,← Int.sub_eq_add_neg];rfl
theorem Apd(a b:Wh):(if (!(a.neg == b.neg))=true then -((nv a.mag*nv b.mag:Nat):Int) else ((nv a.mag*nv b.mag:Nat):Int))=zv a*zv b:=by
 unfold zv;cases a.neg <;> cases b.neg <;> simp[Int.neg_mul,Int.mul_neg,Int.natCast_mul]
theorem Ji(a b:Wh)(ha:a.mag.length≤100000)(hb:b.mag.length≤100000):Sp 254 [dW a,dW b] [dW (wz (zv a*zv b))]:=by
 refine Af 0 (AoN _ _ _) ?_
 simp only[F0,Fo,Bc]
 refine Aa (Ah6 a.mag b.mag ha hb) (Aa (L7 (!(a.neg == b.neg)) _) (Ac ?_))
 rw[Apd];rfl
def El(x y:Int):Int×Int :=
 if (x<0)=(y<0) then (((x.natAbs / y.natAbs:Nat):Int),if x<0 then -((x.natAbs % y.natAbs:Nat):Int) else ((x.natAbs % y.natAbs:Nat):Int))
 else if x.natAbs % y.natAbs=0 then (-((x.natAbs / y.natAbs:Nat):Int),0)
 else (-((x.natAbs / y.natAbs:Nat):Int)-1,(if x<0 then -((x.natAbs % y.natAbs:Nat):Int) else ((x.natAbs % y.natAbs:Nat):Int))+y)
def FT(x y:Int):List D:=if y=0 then [dW (wz 0),dW (wz 0),.bool false] else [dW (wz (El x y).1),dW (wz (El x y).2),.bool true]
theorem U0{w:Wh}(h:nv w.mag≠0):(zv w<0)↔w.neg=true:=by unfold zv;cases w.neg <;> simp <;> omega
theorem U1{w:Wh} : zv w=0↔nv w.mag=0:=by unfold zv;cases w.neg <;> simp
theorem Ae7{a b:Wh}(hb:nv b.mag≠0)(hr:nv a.mag % nv b.mag≠0)(hs:a.neg≠b.neg):El (zv a) (zv b)=((if (!(a.neg == b.neg))=true then -((nv a.mag / nv b.mag:Nat):Int) else ((nv a.mag / nv b.mag:Nat):Int))-1,(if a.neg=true then -((nv a.mag % nv b.mag:Nat):Int) else ((nv a.mag % nv b.mag:Nat):Int))+zv b):=by
 have ha:nv a.mag≠0:=fun h=>hr (by rw[h];simp)
 have h1:=U0 ha
 have h2:=U0 hb
 unfold El
 rw[Ma,Ma,if_neg (by rw[eq_iff_iff,h1,h2];cases ea:a.neg <;> cases eb:b.neg <;> simp[ea,eb]at hs ⊢),if_neg hr]
 have e1:(!(a.neg == b.neg))=true:=by cases ea:a.neg <;> cases eb:b.neg <;> simp[ea,eb]at hs ⊢
 rw[if_pos e1]
 by_cases h:a.neg=true
 · rw[if_pos (h1.2 h),if_pos h]
 · rw[if_neg (fun hh=>h (h1.1 hh)),if_neg h]
theorem PZ{a b:Wh}(hb:nv b.mag≠0)(hr:a.neg=b.neg∨nv a.mag % nv b.mag=0):El (zv a) (zv b)=(if (!(a.neg == b.neg))=true then -((nv a.mag / nv b.mag:Nat):Int) else ((nv a.mag / nv b.mag:Nat):Int),if a.neg=true then -((nv a.mag % nv b.mag:Nat):Int) else ((nv a.mag % nv b.mag:Nat):Int)):=by
 have h2:=U0 hb
 unfold El
 rw[Ma,Ma]
 by_cases ha:nv a.mag=0
 · have h0:zv a=0:=U1.2 ha
   rw[h0,ha]
   simp
 · have h1:=U0 ha
   by_cases hs:a.neg=b.neg
   · rw[if_pos (by rw[eq_iff_iff,h1,h2,hs])]
     have e1:(!(a.neg == b.neg))=false:=by rw[hs];simp
     rw[e1]
     by_cases h:a.neg=true
     · rw[if_pos (h1.2 h),if_pos h];simp
     · rw[if_neg (fun hh=>h (h1.1 hh)),if_neg h];simp
   · have h3:=hr.resolve_left hs
     rw[if_neg (by rw[eq_iff_iff,h1,h2];cases ea:a.neg <;> cases eb:b.neg <;> simp[ea,eb]at hs ⊢),if_pos h3,h3]
     have e1:(!(a.neg == b.neg))=true:=by cases ea:a.neg <;> cases eb:b.neg <;> simp[ea,eb]at hs ⊢
     rw[if_pos e1]
     cases a.neg <;> simp
theorem MR{n:Nat}{z:Int}(h:z.natAbs<B ^ n):(wz z).mag.length≤n:=Ba.2 h
theorem AoL(a b:Wh)(ha:a.mag.length≤10000)(hb:b.mag.length≤10000)(hL:DT (nv a.mag) (nv b.mag)):Sp 306 [dW a,dW b] (FT (zv a) (zv b)):=by
 refine Af 0 (AoM _ _ _) ?_
 simp only[F0,Fo,Bc]
 refine Aa (Ya a.mag b.mag (by omega) (by omega) hL) ?_
 simp only[Ag,C5,W7,Bc,V8,B5,Apm]
 unfold FT
 refine Cl (fun h=>Ac ?_) (fun h=> ?_)
 · have h0:nv b.mag=0:=by simpa using h
   rw[if_pos (U1.2 h0)]
 have h0:nv b.mag≠0:=by simpa using h
 rw[if_neg (fun hh=>h0 (U1.1 hh)),if_neg h0]
 have hq:nv a.mag / nv b.mag<B ^ a.mag.length:=Nat.lt_of_le_of_lt (Nat.div_le_self _ _) (Cc _)
 have hr:nv a.mag % nv b.mag<B ^ b.mag.length:=Aqk (Aqe _ (by omega)) (Nat.le_of_lt (Cc _))
 refine Aa (L7 _ (nv a.mag / nv b.mag)) (Aa (L7 a.neg (nv a.mag % nv b.mag)) ?_)
 simp only[Ag]
 refine Cl (fun h1=>Ae (fun h2=> ?_) (fun h2=>Ac ?_)) (fun h1=>Ac ?_)
 · have hr0:nv a.mag % nv b.mag≠0:=fun hh=>by rw[hh,Da]at h2;simp at h2
   have hs:a.neg≠b.neg:=by simpa using h1
   refine Aa (Uu 1 (by unfold Bd;decide)) ?_
   refine Aa (AoU _ _ (Nat.le_trans (MR (n:=a.mag.length) (by split <;> simp <;> exact hq)) (by omega)) (Nat.le_trans (MR (n:=1) (by simp[A0])) (by omega))) ?_
   refine Aa (MP _ b (Nat.le_trans (MR (n:=b.mag.length) (by split <;> simp <;> exact hr)) (by omega)) (by omega)) (Ac ?_)
   rw[Ae7 h0 hr0 hs,Dg,Dg,Dg];rfl
 · have hr0:nv a.mag % nv b.mag=0:=Hl.1 (by omega)
   rw[PZ h0 (.inr hr0)]
 · rw[PZ h0 (.inl (by simpa using h1))]
def Bu(z:Int):Nat:=(lb z.natAbs).length
def Ku:Nat→Nat→Int→Int→Int×Int
 | 0,_,out,_=>(out,0)
 | k+1,n,out,base=>if n=0 then (out,0) else if 32<Bu base then (0,7) else
  if 32<Bu (if n % 2=1 then out*base else out) then (0,7) else
  if n / 2=0 then (if n % 2=1 then out*base else out,0) else Ku k (n / 2) (if n % 2=1 then out*base else out) (base*base)
def Qm(r:Int×Int):List D:=[dW (wz r.1),.int r.2]
theorem Jr(x y:Int):Bu (x*y)≤Bu x+Bu y:=by
 unfold Bu
 refine Ba.2 ?_
 rw[Int.natAbs_mul,Nat.pow_add]
 exact Nat.mul_lt_mul'' (Ba.1 (Apx _)) (Ba.1 (Apx _))
theorem Ada(n:Nat)(h:n≤9223372036854775807):Br .and .i64 (n:Int) 1=((n % 2:Nat):Int):=by
 have b:Apv .i64=64:=rfl
 have h1:n % 2<2:=Aqe _ (by decide)
 have e:(BitVec.ofInt 64 (n:Int)&&&BitVec.ofInt 64 1).toNat=n % 2:=by
  rw[BitVec.ofInt_natCast,show BitVec.ofInt 64 1=Ap5 64 1 from rfl,BitVec.toNat_and,BitVec.toNat_ofNat,BitVec.toNat_ofNat,Aqc (show n<2 ^ 64 by omega)]
  exact Nat.and_one_is_mod n
 show Api .i64 ((BitVec.ofInt 64 (n:Int)&&&BitVec.ofInt 64 1).toNat:Int)=_
 rw[e]
 exact Aw (x:=((n % 2:Nat):Int)) (by omega) (by omega)
theorem Afc(n:Nat):Aqd (n:Int) (2 ^ (min (Apj 1) (Apv .i64)))=((n / 2:Nat):Int):=by
 rw[show (2:Int) ^ (min (Apj 1) (Apv .i64))=2 by decide,Int.fdiv_eq_ediv_of_nonneg _ (by omega)];omega
def Mz(x n:Int):Int×Int:=if n<0 then (0,3) else Ku 20 n.toNat 1 x
theorem Uv(N:Nat) : ∀ (k m n:Nat) (out base:Int),n<2 ^ k→k<m→n≤1000000→Bu out≤100→Bu base≤100→Tw (Oy N m (n:Int) false (dW (wz out)) (dW (wz base))) (Qm (Ku k n out base))
 | k,0,n,out,base,hk,hm,_,_,_=>by omega
 | 0,m+1,n,out,base,hk,hm,hn,ho,hb=>by
  have:n=0:=by simp at hk;omega
  subst this
  simp only[Ac4]
  exact Ar (Ac rfl)
 | k+1,m+1,n,out,base,hk,hm,hn,ho,hb=>by
  have hk':n / 2<2 ^ k:=by rw[Aqr]at hk;omega
  simp only[Ac4,Fo,B5,Apm,Ada n (by omega),Afc,Cp,V8]
  rw[Ku]
  refine Ae (fun h0=> ?_) (fun h0=>Ac ?_)
  · rw[if_neg (by omega)]
    have lo:(wz out).mag.length=Bu out:=rfl
    have lb_:(wz base).mag.length=Bu base:=rfl
    rw[lb_,lo]
    refine Ae (fun h1=>Ac ?_) (fun h1=> ?_)
    · rw[if_pos (by omega)];rfl
    rw[if_neg (by omega)]
    have m1:=Ji (wz out) (wz base) (by omega) (by omega)
    have m2:=Ji (wz base) (wz base) (by omega) (by omega)
    rw[Dg,Dg]at m1
    rw[Dg]at m2
    have l2:=Jr base base
    refine Ae (fun h2=>Aa m1 ?_) (fun h2=> ?_)
    · rw[if_pos (show n % 2=1 by omega)]
      simp only[Ag,Fo,B5,Apm]
      have lo':(wz (out*base)).mag.length=Bu (out*base):=rfl
      rw[lo']
      refine Ae (fun h3=>Ac (by rw[if_pos (by omega)];rfl)) (fun h3=>Bi (by decide) ?_)
      rw[if_neg (by omega)]
      refine Ae (fun h4=>Aa m2 ?_) (fun h4=> ?_)
      · rw[if_neg (by omega)]
        exact Uv N k m (n / 2) _ _ hk' (by omega) (by omega) (by omega) (by omega)
      · rw[if_pos (by omega)]
        have e0:n / 2=0:=by omega
        rw[e0]
        have:=Uv N k m 0 (out*base) base (Nat.pow_pos (by decide)) (by omega) (by omega) (by omega) hb
        have e1:Ku k 0 (out*base) base=(out*base,0):=by cases k <;> simp[Ku]
        rw[e1]at this;exact this
    · rw[if_neg (show ¬ n % 2=1 by omega)]
      refine Ae (fun h3=>Ac (by rw[if_pos (by omega)];rfl)) (fun h3=>Bi (by decide) ?_)
      rw[if_neg (by omega)]
      refine Ae (fun h4=>Aa m2 ?_) (fun h4=> ?_)
      · rw[if_neg (by omega)]
        exact Uv N k m (n / 2) _ _ hk' (by omega) (by omega) (by omega) (by omega)
      · rw[if_pos (by omega)]
        have e0:n / 2=0:=by omega
        rw[e0]
        have:=Uv N k m 0 out base (Nat.pow_pos (by decide)) (by omega) (by omega) (by omega) hb
        have e1:Ku k 0 out base=(out,0):=by cases k <;> simp[Ku]
        rw[e1]at this;exact this
  · rw[if_pos (by omega)];rfl
theorem DJ(a:Wh)(n:Int)(ha:a.mag.length≤100)(hn:n≤1000000):Sp 314 [dW a,.int n] (Qm (Mz (zv a) n)):=by
 refine Af 21 (AoQ _ _ _) ?_
 simp only[Ao,V8]
 unfold Mz
 refine Ae (fun h=>Ac (by rw[if_pos h];rfl)) (fun h=>Aa (Uu 1 (by unfold Bd;decide)) (Aa (DH a (by omega)) ?_))
 rw[if_neg h]
 obtain ⟨k,rfl⟩ : ∃ k:Nat,n=(k:Int):=⟨n.toNat,by omega⟩
 rw[Apr]
 have l1:Bu 1≤1:=Ba.2 (by decide)
 have l2:Bu (zv a)≤100:=Nat.le_trans (Iv a) ha
 exact Uv 21 20 21 k 1 (zv a) (by omega) (by omega) (by omega) (by omega) l2
open Go.RowKit
theorem EB(n:Nat)(h:n<4294967296):Br .and .u64 (n:Int) 4294967295=(n:Int):=by
 have e:(BitVec.ofInt 64 (n:Int)&&&BitVec.ofInt 64 4294967295).toNat=n:=by
  rw[BitVec.ofInt_natCast,show BitVec.ofInt 64 4294967295=Ap5 64 4294967295 from rfl,BitVec.toNat_and,BitVec.toNat_ofNat,BitVec.toNat_ofNat,Aqc (show n<2 ^ 64 by omega)]
  show n&&&(2 ^ 32-1)=n
  rw[Nat.and_two_pow_sub_one_eq_mod];exact Aqc h
 show Api .u64 ((BitVec.ofInt 64 (n:Int)&&&BitVec.ofInt 64 4294967295).toNat:Int)=_
 rw[e]
 exact Bs (by omega) (by omega)
theorem Ahw(y:Nat)(h:y<4294967296):Sp 271 [.int 1,.int (y:Int)] [.int 0,.int (y:Int)]:=by
 refine Af 0 (AdB _ _ _) ?_
 have p:(2:Int) ^ (min (Apj 32) (Apv .u64))=4294967296:=by decide
 have a1:Br .and .u64 1 4294967295=1:=EB 1 (by decide)
 have a2:=EB y h
 have a3:Br .and .u64 0 4294967295=0:=EB 0 (by decide)
 have d0:Aqd 0 4294967296=0:=by decide
 have d1:Aqd 1 4294967296=0:=by decide
 have d2:Aqd (y:Int) 4294967296=0:=by rw[Int.fdiv_eq_ediv_of_nonneg _ (by decide)];omega
 have w0:Api .u64 0=0:=by decide
 have w1:Api .u64 (y:Int)=(y:Int):=Bs (by omega) (by omega)
 simp only[Ao,p,a1,a2,a3,d0,d1,d2,w0,w1,Int.zero_mul,Int.mul_zero,Int.one_mul,Int.zero_add,Int.add_zero]
 repeat (refine Ad ?_)
 exact Ac rfl
theorem Ahz(y:Nat)(h:y<4294967296):Sp 231 [.int 1,.int (y:Int)] [.int 0,.int (y:Int)]:=by
 refine Af 0 (AdC _ _ _) ?_
 simp only[Ao]
 refine Aa (Ahw y h) (Ac ?_)
 simp only[Ag,C5,Ao]
theorem UR(y:Nat)(h:y<4294967296)(w:World):Calls Tryz.prog 231 #[.int .u64 1,.int .u64 y] w fun e w'=>e = .returned (.tuple #[.int .u64 0,.int .u64 y])∧Ext w w':=by
 have hps:Tryz.f231.params.toList = [190,190]:=by kernel_rfl
 have hrs:Tryz.f231.resultTypes.toList = [190,190]:=by kernel_rfl
 have ht:Tryz.prog.underlying 190=some (.int .u64):=by kernel_rfl
 have n1 : ∀ k:Nat,k<4294967296→Rd Tryz.prog md w (fun _=>False) (.ty 190) (.int (k:Int)) (.int .u64 (k:Int)):=fun k hk=>Qs ht (by kernel_rfl) (by kernel_rfl) (by show (0:Int)≤_;omega) (by show _≤(18446744073709551615:Int);omega)
 refine (LU (vs:=[.int .u64 1,.int .u64 y]) (M:=fun _=>False) (Ahz y h) Tryz.func231 (by kernel_rfl) (fun b hb=>hb.elim) (by kernel_rfl) (by kernel_rfl) (Qq hps (n1 1 (by decide)) (n1 y h))).mono ?_
 rintro e w' ⟨us,rfl,hl,hh,hx⟩
 have hl2:us.length=2:=by rw[hl];rfl
 match us,hl2 with
 | [u1,u2],_ =>
  obtain ⟨rfl,_⟩:=(hh 0 190 u1 (by rw[hrs];rfl) rfl).int ht
  obtain ⟨rfl,_⟩:=(hh 1 190 u2 (by rw[hrs];rfl) rfl).int ht
  exact ⟨rfl,hx⟩
theorem AcA{P:Program}{w:World}{ops:Array Oper}{rest:List Oper}{o:Oper}{a:Act}{Q:Exit→Act→World→Prop}{t e:TypeId}{size bytes:Nat}(hE:Elt P t e size bytes)
  (hg:o.guard=none) (l c:Operand) (hop:o.op=Op.makeSlice t l c) {kl kc:IntKind} (n:Nat) {L C:Int} (hl:a.eval l = .int kl L) (hc:a.eval c = .int kc C) (hL:L=(n:Int)) (hC:C=(n:Int)) (hb:bytes*n≤281474976710656) (hm:n≤maxLen)
  (h : ∀ (G:Nat) (w':World) (X:List Value),w.heap.size≤G→Hid (w'.heap[G]? = some (.cells X.toArray e (0,0)))→X.length=n*size→Ext w w'→wpList P ops Q rest (a.put o.dst (.slice (some ⟨G,0,none⟩) n n)) w'):wpList P ops Q (o::rest) a w:=by
 subst hL
 subst hC
 obtain ⟨i,z,hi,hz,hsz,hby,hzc⟩:=hE.info
 have hbb:(i.bytes:Int)*(n:Int)≤281474976710656:=by
  have h:((i.bytes*n:Nat):Int)≤281474976710656:=by rw[hby];omega
  rwa[Int.natCast_mul]at h
 have h63:n≤9223372036854775807:=by unfold maxLen at hm;omega
 have hr:=run_make (P:=P) w t e i z hE.under hi hz kl kc n n (by omega) (by omega) hbb (by omega)
 simp only[Apr]at hr
 refine wpList_plain hg fun K hK'=> ?_
 unfold Oper.wp
 simp[execOp,hop,hl,hc,hr,Result.andThen]
 have hx:Ext w (w.alloc (.cells (madeCells z.cells (n*i.size)) e)):=(Ext.refl w).alloc _
 refine hK' _ _ (h w.heap.size _ (madeCells z.cells (n*i.size)).toList (Apx _) ?_ (by simp[size_madeCells,hsz]) hx)
 show _=_
 rw[Array.toArray_toList]
 exact heap_alloc_new w _
theorem AbI{x:Value}{cur:List Value}{k m:Nat}(h:cur.take k=Apl k x)(hk:k+m≤cur.length):(splice cur k (Apl m x)).take (k+m)=Apl (k+m) x∧(splice cur k (Apl m x)).length=cur.length:=by
 refine ⟨?_,length_splice _ _ _ (by simpa using hk)⟩
 unfold splice
 rw[h,← Ap8,List.replicate_append_replicate,List.take_append_of_le_length (by simp),Aqh (by simp)]
theorem Anu{w w2:World}{A:Option Addr}{c:Nat}{z:Int}(h:SlI w (.slice A 1 c) .i64 [z])(hx:Ext w w2)(m:Nat)(hm:m≤1):0<(Apl m (Value.int .i64 z)).length→∃ ad,A=some ad∧∀ j v,(Apl m (Value.int .i64 z))[j]? = some v→w2.cell? (ad.add j)=some v:=by
 intro _
 obtain ⟨ad,rfl,hb,hc⟩:=(h.keep hx).cellAt 0 (by simp)
 refine ⟨ad,rfl,fun j v hv=> ?_⟩
 have hj:=(Apo.1 hv).1
 simp only[Aqp]at hj
 have:j=0:=by omega
 subst this
 rw[List.getElem?_replicate,if_pos (by omega)]at hv
 cases hv
 exact hc
theorem Anw{w:World}{G k:Nat}{z:Int}{cur:List Value}{T:TypeId}(h:w.heap[G]? = some (.cells cur.toArray T (0,0)))(ht:cur.take k=Apl k (.int .i64 z))(m:Nat)(hm:m≤k)(hk:k≤cur.length) : ∀ j v,(Apl m (Value.int .i64 z))[j]? = some v→w.cell? ((⟨G,0,none⟩:Addr).add j)=some v:=by
 intro j v hv
 have hj:=(Apo.1 hv).1
 simp only[Aqp]at hj
 rw[List.getElem?_replicate,if_pos hj]at hv
 cases hv
 have hcj:cur[j]? = some (.int .i64 z):=by
  have:=congrArg (fun l=>l[j]?) ht
  simp only[List.getElem?_take,List.getElem?_replicate]at this
  rw[if_pos (by omega),if_pos (by omega)]at this
  exact this
 have ea:(⟨G,0,none⟩:Addr).add j=⟨G,j,none⟩:=by unfold Addr.add;split <;> simp_all
 rw[ea]
 unfold World.cell?
 simp[h,hcj]
theorem AeI:Elt Tryz.prog 23 3 1 8 :=
 ⟨Tryz.underlying23,by
  obtain ⟨i,hi,h1,h2,h3⟩:=info_parts (P:=Tryz.prog) (e:=3) (z:= .int .i64 0) (size:=1) (bytes:=8) (by kernel_rfl)
  exact ⟨i,_,hi,h1,h2,h3,rfl⟩,by decide⟩
def RInv(w2:World)(G n:Nat)(z:Int)(iv:Value)(wr:World):Prop:=∃ (k:Nat) (cur:List Value),iv = .int .i64 k∧k≤n∧(0<n→0<k)∧cur.length=n∧cur.take k=Apl k (.int .i64 z)∧wr.heap[G]? = some (.cells cur.toArray 3 (0,0))∧Below G w2 wr
theorem RInv.start {w2 w3:World} {G n:Nat} {z:Int} {X:List Value} (hX:X.length=n*1) (h:w3.heap[G]? = some (.cells (splice X 0 (Apl (Nat.min 1 n) (.int .i64 z))).toArray 3 (0,0))) (hb:Below G w2 w3):RInv w2 G n z (.int .i64 ((Nat.min 1 n:Nat):Int)) w3:=by
 have h2:Nat.min 1 n≤n:=Nat.min_le_right 1 n
 have h3:Nat.min 1 n=if 1≤n then 1 else n:=Nat.min_def
 obtain ⟨s1,s2⟩:=AbI (x:= .int .i64 z) (cur:=X) (k:=0) (m:=Nat.min 1 n) rfl (by omega)
 rw[Aqv]at s1
 exact ⟨Nat.min 1 n,_,rfl,h2,fun h=>by rw[h3];split <;> omega,by omega,s1,h,hb⟩
theorem RInv.next {w2 w4:World} {G n k:Nat} {z:Int} {cur:List Value} (hk:k<n) (hp:0<k) (hl:cur.length=n) (ht:cur.take k=Apl k (.int .i64 z)) (h:w4.heap[G]? = some (.cells (splice cur k (Apl (Nat.min k (n-k)) (.int .i64 z))).toArray 3 (0,0))) (hb:Below G w2 w4):RInv w2 G n z (.int .i64 ((k+Nat.min k (n-k):Nat):Int)) w4∧n-(k+Nat.min k (n-k))<n-k:=by
 have h3:Nat.min k (n-k)=if k≤n-k then k else n-k:=Nat.min_def
 have h4:0<Nat.min k (n-k)∧k+Nat.min k (n-k)≤n:=by rw[h3];split <;> omega
 obtain ⟨s1,s2⟩:=AbI (x:= .int .i64 z) (cur:=cur) (k:=k) (m:=Nat.min k (n-k)) ht (by omega)
 exact ⟨⟨_,_,rfl,h4.2,fun _=>by omega,by omega,s1,h,hb⟩,by omega⟩
def AcS(n:Nat)(z:Int)(w:World)(e:Ending)(w':World):Prop:=∃ G,e = .returned (.slice (some ⟨G,0,none⟩) n n)∧w.heap.size≤G∧SlI w' (.slice (some ⟨G,0,none⟩) n n) .i64 (Apl n z)∧Ext w w'
theorem Akm{w:World}{M:Nat→Prop}{v:Value}{l:List Int}(h:Rd Tryz.prog md w M (.ty 23) (dI l) v):SlI w v .i64 l:=by
 obtain ⟨h1,h2,h3⟩:=h
 have hc1:Tryz.prog.cellsOf 3=1:=by kernel_rfl
 unfold dI at h1
 cases h1 with
 | @sl _ e _ _ A cap bk off ht hc h4 h5 hA hh =>
  have he:e=3:=by
   have:Tryz.prog.underlying 23=some (.slice e):=ht
   rw[show Tryz.prog.underlying 23=some (.slice 3) by kernel_rfl]at this
   injection this with this;injection this with this;exact this.symm
  subst he
  have hv:v = .slice A (l.map D.int).length cap:=by
   have ha:Dv v=false:=by rw[h3];kernel_rfl
   rw[I0 ha]at hc
   simpa using hc
  refine ⟨A,cap,by rw[hv];simp,by simpa using h4,by simp,fun i x hx=> ?_⟩
  rw[Ap2,Apz]at hx
  obtain ⟨b,hb,rfl⟩:=hx
  have hne:l.map D.int≠[]:=fun e=>by rw[List.map_eq_nil_iff.1 e]at hb;simp at hb
  obtain ⟨a1,a2,a3⟩:=hA hne
  have:=hh i (D.int b) (by rw[Ap2,hb];rfl)
  rw[hc1]at this
  refine ⟨_,a1,a3,?_⟩
  cases this with
  | @int _ k _ _ ht' h1' h2' hc' =>
   have hk:k = .i64:=by
    have:Tryz.prog.underlying 3=some (.int k):=ht'
    rw[show Tryz.prog.underlying 3=some (.int .i64) by kernel_rfl]at this
    injection this with this;injection this with this;exact this.symm
   subst hk
   simp only[Nat.mul_one,Nat.add_zero]at hc'
   have ea:(⟨bk,off,none⟩:Addr).add i=⟨bk,off+i,none⟩:=by unfold Addr.add;split <;> simp_all
   rw[ea];exact hc'
theorem AlP{w:World}{M:Nat→Prop}{G n c:Nat}{l:List Int}(h:SlI w (.slice (some ⟨G,0,none⟩) n c) .i64 l)(hc:c≤maxLen)(hG : ¬ M G)(hr : ∀ x∈l,Bd x):Rd Tryz.prog md w M (.ty 23) (dI l) (.slice (some ⟨G,0,none⟩) n c):=by
 obtain ⟨h1,h2⟩:=h.len
 have hc1:Tryz.prog.cellsOf 3=1:=by kernel_rfl
 refine ⟨.sl (e:=3) (A:=some ⟨G,0,none⟩) (cap:=c) (bk:=G) (off:=0) (by kernel_rfl) (by rw[h1,Apm];rfl) (by rw[Apm];omega) hc (fun hne=> ?_) (fun i x hx=> ?_),by kernel_rfl,by kernel_rfl⟩
 · have:0<l.length:=List.length_pos_iff.2 (fun e=>hne (by rw[e];rfl))
   obtain ⟨ad,ha,hb,_⟩:=h.cellAt 0 this
   cases ha
   exact ⟨rfl,hG,hb⟩
 · rw[Ap2,Apz]at hx
   obtain ⟨b,hb,rfl⟩:=hx
   have hi:i<l.length:=(Apo.1 hb).1
   obtain ⟨ad,ha,_,hcell⟩:=h.cellAt i hi
   cases ha
   have ea:(⟨G,0,none⟩:Addr).add i=⟨G,0+i,none⟩:=by unfold Addr.add;split <;> simp_all
   rw[ea]at hcell
   have hx:l[i]=b:=(Apo.1 hb).2
   rw[hx]at hcell
   have:=hr b (Apq hb)
   exact .int (k:= .i64) (by kernel_rfl) this.1 this.2 (by rw[hc1];simpa using hcell)
theorem YF{w:World}{M:Nat→Prop}{v:Value}{n:Int}(h:Rd Tryz.prog md w M (.ty 3) (.int n) v):v = .int .i64 n∧Bd n:=by
 obtain ⟨h1,h2,h3⟩:=h
 have ha:Dv v=false:=by rw[h3];kernel_rfl
 cases h1 with
 | @int _ k _ _ ht h1' h2' hc' =>
  have hk:k = .i64:=by
   have:Tryz.prog.underlying 3=some (.int k):=ht
   rw[show Tryz.prog.underlying 3=some (.int .i64) by kernel_rfl]at this
   injection this with this;injection this with this;exact this.symm
  subst hk
  rw[I0 ha]at hc'
  exact ⟨by simpa using hc',h1',h2'⟩
theorem AW{k n:Nat}(hk:k<n)(hn:n≤1000000):Api .i64 ((k:Int)+((Nat.min k (n-k):Nat):Int))=((k+Nat.min k (n-k):Nat):Int):=by
 have h2:Nat.min k (n-k)≤n-k:=Nat.min_le_right k (n-k)
 rw[Aw (by omega) (by omega)];omega
set_option maxHeartbeats 2000000 in
theorem AlA(A:Option Addr)(c n:Nat)(z:Int)(w:World)(hn:n≤1000000)(hs:SlI w (.slice A 1 c) .i64 [z]):Calls Tryz.prog 177 #[.slice A 1 c,.int .i64 n] w (AcS n z w):=by
 have HS:=Lib.hid hs
 have hc1:=hs.len.2
 clear hs
 have hu:Tryz.prog.underlying 23=some (.slice 3):=by kernel_rfl
 have hz:(Tryz.prog.info? 3).map (·.size)=some 1:=by kernel_rfl
 have HU:=Lib.hid hu
 have HZ:=Lib.hid hz
 clear hu hz
 go_enter Tryz.func177,Tryz.ntmps177
 go_wp2_with (first
  | (go_at_call 231;refine (UR n (by omega) _).mono ?_;rintro e w1 ⟨rfl,hx1⟩)
  | (at_make;refine AcA AeI rfl _ _ rfl n rfl rfl (by omega) (by omega) (by omega) (by unfold maxLen;omega) ?_;intro G w2 X hG HG hX hx2;have HX:=Lib.hid hX;clear hX)
  | (refine wpList_copy_splice rfl (.tmp 31) (.tmp 32) 23 23 rfl 3 HU.out HZ.out (some ⟨G,0,none⟩) A n n 1 c (by simp[Act.eval,Act.put]) (by simp[Act.eval,Act.put]) G 0 X 3 HG.out (Apl (Nat.min 1 n) (.int .i64 z)) (by simp) (fun hp=>⟨rfl,Anu HS.out (hx1.trans hx2) _ (Nat.min_le_left _ _) hp⟩) (by have h1:=HX.out;have h2:Nat.min 1 n≤n:=Nat.min_le_right 1 n;simp only[Aqp];omega) (by intro v hv;rw[List.eq_of_mem_replicate hv];rfl) G w2 (Below.refl _ _) (Apx _) ?_;intro w3 HG3 hb3))
 go_loopw [8] (RInv w2 G n z) (fun iv _=>n-(intOf iv).toNat)
 case atStart=>exact RInv.start HX.out HG3.out hb3
 case round =>
  obtain ⟨k,cur,rfl,hk,hp,hl,ht,hh,hb⟩:=hrel
  have HT:=Lib.hid ht
  have HH:=Lib.hid hh
  have HB:=Lib.hid hb
  have HL:=Lib.hid hl
  clear ht hh hb hl
  by_cases hlt:k<n
  · have hpk:0<k:=hp (by omega)
    clear hp
    have HNE:=Lib.hid (show (if n=k then some (⟨G,0,none⟩:Addr) else some ⟨G,k,none⟩)=some ⟨G,k,none⟩ from if_neg (by omega))
    have HSR:=Lib.hid (Anw (w:=wr.drew) HH.out HT.out (Nat.min k (n-k)) (Nat.min_le_left _ _) (by have:=HL.out;omega))
    go_wp2_with fail
    go_region_law (refine step_copy_splice rfl (.tmp 41) (.tmp 44) 23 23 rfl 3 HU.out HZ.out (if n=k then some ⟨G,0,none⟩ else some ⟨G,k,none⟩) (some ⟨G,0,none⟩) (n-k) (n-k) k n (by simp[Act.eval,Act.put]) (by simp[Act.eval,Act.put]) G k cur 3 HH.out (Apl (Nat.min k (n-k)) (.int .i64 z)) (by simp) (fun _=>⟨HNE.out,_,rfl,HSR.out⟩) (by have h1:=HL.out;have h2:Nat.min k (n-k)≤n-k:=Nat.min_le_right k (n-k);simp only[Aqp];omega) (by intro v hv;rw[List.eq_of_mem_replicate hv];rfl) G w2 HB.out.drew (Apx _) ?_;intro w4 HG4 hb4)
    go_wp2
    go_roundw
    case rel =>
     rw[AW hlt (by omega)]
     exact (RInv.next hlt hpk HL.out HT.out HG4.out hb4).1
    case measure =>
     rw[AW hlt (by omega)]
     exact (RInv.next hlt hpk HL.out HT.out HG4.out hb4).2
  · have hkn:k=n:=by omega
    subst hkn
    go_wp2_with fail
    go_ret
    have hh:=HH.out
    have hcur:cur=(Apl k z).map (.int .i64):=by
     have h1:=HT.out
     rw[Aqh (by have:=HL.out;omega)]at h1
     rw[h1];simp
    rw[hcur]at hh
    exact ⟨G,rfl,Nat.le_trans hx1.size hG,SlI.made hh (by simp) (Apx _),Below.trans (hx1.trans hx2) (Below.mono HB.out (Nat.le_trans hx1.size hG))⟩
theorem Aam(n:Nat)(z:Int)(hn:n≤1000000)(hz:Bd z):Sp 177 [dI [z],.int (n:Int)] [dI (Apl n z)]:=by
 refine CU Nk Tryz.func177 (by kernel_rfl) (by kernel_rfl) (by kernel_rfl) (fun w M vs hM _ hlv hrd=> ?_)
 have hps:Tryz.f177.params.toList = [23,3]:=by kernel_rfl
 have hlen:vs.length=2:=by rw[hlv];rfl
 match vs,hlen with
 | [va,vb],_ =>
  rw[hps]at hrd
  have hs:=Akm (hrd 0 _ _ _ rfl rfl rfl)
  obtain ⟨rfl,_⟩:=YF (hrd 1 _ _ _ rfl rfl rfl)
  obtain ⟨A,c,rfl,_,_⟩:=hs.form
  refine (AlA A c n z w hn hs).mono ?_
  rintro e w' ⟨G,rfl,hG,hv,hx⟩
  refine ⟨[_],rfl,rfl,fun i t u ht hu=> ?_,hx⟩
  rw[show Tryz.f177.resultTypes.toList = [23] by kernel_rfl]at ht
  match i with
  | 0=>cases ht;cases hu;exact AlP hv (by unfold maxLen;omega) (fun hm=>by have:=hM G hm;omega) (fun x hx=>by rw[List.eq_of_mem_replicate hx];exact hz)
  | i+1=>simp at ht
end Go.Proofs.YtokkbgpgaheakaaGreat
namespace Go.Proofs.YtokkbgpgaheakaaGreat
def V2:List (Nat×Orc):=[(7,⟨[(2,none),(3,none),(4,none),(5,none),(7,some 23),(8,none),(26,some 23),(27,none),(28,none)],[(2,true),(3,true),(4,false),(5,false),(8,false)],[(.fld 8 [0],1070,3),(.fld 8 [1],1071,3)]⟩)]
noncomputable def R3(n m7:Nat)(s7 t26:D)(t27 t28:Int)(nn2 a3:D)(r4_0 e5:Int)(w8_0 w8_1:List D):Tree :=
 lA (eA V2 n 39 [1,1,1,1,1,0,1,0,0]) (Al V2 7) m7 ⟨(.undef:: .undef:: .ptr 2 []:: .ptr 3 []:: .ptr 4 []:: .ptr 5 []:: .undef:: .d 23 s7:: .ptr 8 []::uA 17++(.d 23 t26:: .i .i64 t27:: .i .i64 t28::uA 47)),[(2,.var 26 (.d 26 nn2) true),(3,.var 26 (.d 26 a3) true),(4,.var 26 (.agg 26 [.i .u64 r4_0,.mt,.mt]) true),(5,.var 29 (.i .i64 e5) true),(8,.var 99 (.agg 99 [.row 1070,.row 1071]) true),(1070,.row 3 w8_0 true),(1071,.row 3 w8_1 true)],[2,3,4,5,8,1070,1071],[(97,[.ptr 4 [],.ptr 5 []])],[]⟩
  (Aj 0 (An (jA V2 n 39 [1,1,1,1,1,1]) (rA 39 [26,26] [.cell 4 26,.cell 5 29] [26,29])))
theorem PF(n m7:Nat)(s7 t26:D)(t27 t28:Int)(nn2 a3:D)(r4_0 e5:Int)(w8_0 w8_1:List D):R3 n (m7+1) s7 t26 t27 t28 nn2 a3 r4_0 e5 w8_0 w8_1 =
 bK (t28<t27) (kK (0≤t28) (kK (t28<(t26.els.length:Int)) (cK 100 [D.int ((t26.els.getD (Apj t28) D.nil).toInt)] fun Y3 =>
 kK (0≤t28) (kK (t28<(w8_1.length:Int)) (bK (((t26.els.getD (Apj t28) D.nil).toInt)<0) (kK (0≤t28) (kK (t28<(s7.els.length:Int)) (kK (0≤t28) (kK (t28<((w8_1.set (Apj t28) (D.int ((qA Y3).toInt))).length:Int)) (kK (0≤t28) (kK (t28<(w8_0.length:Int)) (R3 n m7 s7 t26 t27 (Api .i64 (t28+1)) nn2 a3 r4_0 e5 (w8_0.set (Apj t28) (D.int (Api .i64 (((s7.els.getD (Apj t28) D.nil).toInt)-(((w8_1.set (Apj t28) (D.int ((qA Y3).toInt))).getD (Apj t28) D.nil).toInt))))) (w8_1.set (Apj t28) (D.int ((qA Y3).toInt))))))))))
 (R3 n m7 s7 t26 t27 (Api .i64 (t28+1)) nn2 a3 r4_0 e5 w8_0 (w8_1.set (Apj t28) (D.int ((qA Y3).toInt)))))))))
 (cK 81 [D.sl w8_1] fun Y4 =>
 .br (((qB Y4).toInt)!=0) (.ret [D.agg [D.int 0,D.sl [],D.sl []],D.int ((qB Y4).toInt)])
 (cK 102 [D.agg [D.sl w8_0,D.sl w8_1],a3,s7,D.int ((qA Y4).toInt)] fun Y5 =>
 cK 101 [nn2,a3,D.sl w8_1,qA Y5] fun Y6 =>
 .ret [qA Y6,D.int 0])):=by kernel_rfl
theorem Aek(n:Nat)(nn0 a1:D):fA V2 n 39 [] [nn0,a1] =
 cK 98 [nn0,a1] fun Y1 =>
 .br (((qC Y1).toInt)!=0) (.ret [D.agg [D.int 0,D.sl [],D.sl []],D.int ((qC Y1).toInt)])
 (cK 99 [qB Y1] fun Y2 =>
 R3 n n (qB Y1) (qA Y1) (((qA Y1).els).length:Int) 0 nn0 a1 0 ((qC Y1).toInt) (((qA Y2).fld 0).els) (((qA Y2).fld 1).els)):=by kernel_rfl
def V0:List (Nat×Orc):=[(7,⟨[(2,none),(3,none),(4,none),(5,none),(7,some 23),(8,none),(27,some 23),(28,none),(29,none)],[(2,true),(3,true),(4,false),(5,false),(8,false)],[(.fld 8 [0],1070,3),(.fld 8 [1],1071,3)]⟩)]
noncomputable def R2(n m7:Nat)(s7 t27:D)(t28 t29:Int)(nn2 a3:D)(r4_0 e5:Int)(w8_0 w8_1:List D):Tree :=
 lA (eA V0 n 40 [1,1,1,1,1,0,1,0,0]) (Al V0 7) m7 ⟨(.undef:: .undef:: .ptr 2 []:: .ptr 3 []:: .ptr 4 []:: .ptr 5 []:: .undef:: .d 23 s7:: .ptr 8 []::uA 18++(.d 23 t27:: .i .i64 t28:: .i .i64 t29::uA 49)),[(2,.var 26 (.d 26 nn2) true),(3,.var 26 (.d 26 a3) true),(4,.var 26 (.agg 26 [.i .u64 r4_0,.mt,.mt]) true),(5,.var 29 (.i .i64 e5) true),(8,.var 99 (.agg 99 [.row 1070,.row 1071]) true),(1070,.row 3 w8_0 true),(1071,.row 3 w8_1 true)],[2,3,4,5,8,1070,1071],[(103,[.ptr 4 [],.ptr 5 []])],[]⟩
  (Aj 0 (An (jA V0 n 40 [1,1,1,1,1,1]) (rA 40 [26,26] [.cell 4 26,.cell 5 29] [26,29])))
theorem PE(n m7:Nat)(s7 t27:D)(t28 t29:Int)(nn2 a3:D)(r4_0 e5:Int)(w8_0 w8_1:List D):R2 n (m7+1) s7 t27 t28 t29 nn2 a3 r4_0 e5 w8_0 w8_1 =
 bK (t29<t28) (kK (0≤t29) (kK (t29<(t27.els.length:Int)) (cK 100 [D.int ((t27.els.getD (Apj t29) D.nil).toInt)] fun Y3 =>
 kK (0≤t29) (kK (t29<(s7.els.length:Int)) (kK (0≤t29) (kK (t29<(s7.els.length:Int)) (kK (0≤t29) (kK (t29<(w8_1.length:Int)) (bK (0<((t27.els.getD (Apj t29) D.nil).toInt)) (kK (0≤t29) (kK (t29<(w8_0.length:Int)) (R2 n m7 s7 t27 t28 (Api .i64 (t29+1)) nn2 a3 r4_0 e5 (w8_0.set (Apj t29) (D.int (if ((s7.els.getD (Apj t29) D.nil).toInt)<((qA Y3).toInt) then ((s7.els.getD (Apj t29) D.nil).toInt) else ((qA Y3).toInt)))) (w8_1.set (Apj t29) (D.int (Api .i64 (((s7.els.getD (Apj t29) D.nil).toInt)-(if ((s7.els.getD (Apj t29) D.nil).toInt)<((qA Y3).toInt) then ((s7.els.getD (Apj t29) D.nil).toInt) else ((qA Y3).toInt)))))))))
 (R2 n m7 s7 t27 t28 (Api .i64 (t29+1)) nn2 a3 r4_0 e5 w8_0 (w8_1.set (Apj t29) (D.int (Api .i64 (((s7.els.getD (Apj t29) D.nil).toInt)-(if ((s7.els.getD (Apj t29) D.nil).toInt)<((qA Y3).toInt) then ((s7.els.getD (Apj t29) D.nil).toInt) else ((qA Y3).toInt))))))))))))))))
 (cK 81 [D.sl w8_1] fun Y4 =>
 .br (((qB Y4).toInt)!=0) (.ret [D.agg [D.int 0,D.sl [],D.sl []],D.int ((qB Y4).toInt)])
 (cK 102 [D.agg [D.sl w8_0,D.sl w8_1],a3,s7,D.int ((qA Y4).toInt)] fun Y5 =>
 cK 101 [nn2,a3,D.sl w8_1,qA Y5] fun Y6 =>
 .ret [qA Y6,D.int 0])):=by kernel_rfl
theorem Aei(n:Nat)(nn0 a1:D):fA V0 n 40 [] [nn0,a1] =
 cK 98 [nn0,a1] fun Y1 =>
 .br (((qC Y1).toInt)!=0) (.ret [D.agg [D.int 0,D.sl [],D.sl []],D.int ((qC Y1).toInt)])
 (cK 99 [qB Y1] fun Y2 =>
 R2 n n (qB Y1) (qA Y1) (((qA Y1).els).length:Int) 0 nn0 a1 0 ((qC Y1).toInt) (((qA Y2).fld 0).els) (((qA Y2).fld 1).els)):=by kernel_rfl
theorem Ael(n:Nat)(nn0 a1:D):fA [] n 98 [] [nn0,a1] =
 cK 80 [nn0] fun Y1 =>
 .br (((qB Y1).toInt)!=0) (.ret [D.sl [],D.sl [],D.int ((qB Y1).toInt)])
 (bK (0<(((a1.fld 1).els).length:Int)) (bK ((((a1.fld 1).els).length:Int)<(((qA Y1).els).length:Int)) (.ret [D.sl [],D.sl [],D.int 4])
 (cK 96 [a1.fld 1] fun Y2 =>
 .ret [qA Y1,D.sl ((qA Y2).els),D.int 0]))
 (bK (6<(((qA Y1).els).length:Int)) (.ret [D.sl [],D.sl [],D.int 7])
 (cK 177 [D.sl [D.int 1],D.int (((qA Y1).els).length:Int)] fun Y3 =>
 .ret [qA Y1,qA Y3,D.int 0]))):=by kernel_rfl
theorem Aen(n:Nat)(s0:D):fA [] n 99 [] [s0] =
 kK (0≤(s0.els.length:Int)) (kK ((s0.els.length:Int)≤(s0.els.length:Int)) (kK ((s0.els.length:Int)≤Ak) (cK 96 [s0] fun Y1 =>
 .ret [D.agg [D.sl (Apl (Apj (s0.els.length:Int)) (D.int 0)),D.sl ((qA Y1).els)]]))):=by kernel_rfl
theorem Aem(n:Nat)(k0:D):fA [] n 100 [] [k0] =
 bK (2049<k0.toInt) (.ret [D.int 2049])
 (bK (k0.toInt<(-2049)) (.ret [D.int 2049])
 (.ret [D.int (if k0.toInt<(Api .i64 (0-k0.toInt)) then (Api .i64 (0-k0.toInt)) else k0.toInt)])):=by kernel_rfl
theorem Aeq(n:Nat)(nn0 a1:D)(s2 cells3:D):fA [] n 101 [] [nn0,a1,s2,cells3] =
 cK 84 [nn0] fun Y1 =>
 cK 83 [D.int ((a1.fld 0).toInt),D.int ((qA Y1).toInt)] fun Y2 =>
 .ret [D.agg [D.int ((qA Y2).toInt),s2,cells3]]:=by kernel_rfl
def H1:List (Nat×Orc):=[(4,⟨[(2,some 23),(4,none),(5,none),(9,none),(10,none),(21,none),(22,none)],[(4,true),(5,true),(9,true)],[(.slot 10,1040,67)]⟩),(8,⟨[(2,some 23),(4,none),(5,none),(9,none),(10,none),(12,none),(21,none),(22,none),(33,none),(34,none)],[(4,true),(5,true),(9,true)],[(.slot 10,1080,67),(.slot 12,1081,3)]⟩)]
def FF:List Nat:=[99,26,23,3]
noncomputable def V3(n m4 m8:Nat)(s2:D)(r10 at12:List D)(t21 t22:Int)(t33 t34:Int)(w4 a5 fill9:D):Tree :=
 lA (eA H1 n 102 [1,1,1,0,1,0,0,1,1,0,0,1,1,0,1,0,0]) (Al H1 8) m8 ⟨(.undef:: .undef:: .d 23 s2:: .undef:: .ptr 4 []:: .ptr 5 []::uA 3++(.ptr 9 []:: .row 1080:: .undef:: .row 1081::uA 8++(.i .i64 t21:: .i .i64 t22::uA 10++(.i .i64 t33:: .i .i64 t34::uA 35)))),[(4,.var 99 (.d 99 w4) true),(5,.var 26 (.d 26 a5) true),(9,.var 67 (.d 67 fill9) true),(1080,.row 67 r10 true),(1081,.row 3 at12 true)],[4,5,9,1080,1081],[],[]⟩
  (Aj 2 (An (jA H1 n 102 [1,1,1,0,1,0,0,1,1,0,0,1,1,1]) (Aj 1 (An (jA H1 n 102 [1,1,1,0,1,0,0,1,1,1]) (Fs Tryz.prog md (Al H1 4) (fun s1=>lA (eA H1 n 102 [1,1,1,0,1,0,0]) (Al H1 4) m4 s1 (Aj 0 (An (jA H1 n 102 [1,1,1,1]) (rA 102 FF [.tmp 8] [24])))) (Aj 0 (An (jA H1 n 102 [1,1,1,1]) (rA 102 FF [.tmp 8] [24]))))))))
noncomputable def Mg(n m4:Nat)(s2:D)(r10:List D)(t21 t22:Int)(w4 a5 fill9:D):Tree :=
 lA (eA H1 n 102 [1,1,1,0,1,0,0]) (Al H1 4) m4 ⟨(.undef:: .undef:: .d 23 s2:: .undef:: .ptr 4 []:: .ptr 5 []::uA 3++(.ptr 9 []:: .row 1040::uA 10++(.i .i64 t21:: .i .i64 t22::uA 47))),[(4,.var 99 (.d 99 w4) true),(5,.var 26 (.d 26 a5) true),(9,.var 67 (.d 67 fill9) true),(1040,.row 67 r10 true)],[4,5,9,1040],[],[]⟩
  (Aj 0 (An (jA H1 n 102 [1,1,1,1]) (rA 102 FF [.tmp 8] [24])))
theorem PL(n m4 m8:Nat)(s2:D)(r10 at12:List D)(t21 t22:Int)(t33 t34:Int)(w4 a5 fill9:D):V3 n m4 (m8+1) s2 r10 at12 t21 t22 t33 t34 w4 a5 fill9 =
 bK (t34<t33) (kK (0≤t34) (kK (t34<(at12.length:Int)) (kK (0≤t34) (kK (t34<(((w4.fld 0).els).length:Int)) (kK (0≤t34) (kK (t34<(at12.length:Int)) (V3 n m4 m8 s2 r10 (at12.set (Apj t34) (D.int (Api .i64 (((at12.getD (Apj t34) D.nil).toInt)+((((w4.fld 0).els).getD (Apj t34) D.nil).toInt))))) t21 t22 t33 (Api .i64 (t34+1)) w4 a5 fill9)))))))
 (cK 176 [s2,D.sl at12] fun Y3 =>
 .br ((qB Y3).toBool) (kK (0≤(qA Y3).toInt) (kK ((qA Y3).toInt<(((a5.fld 2).els).length:Int)) (kK (r10.length + [((a5.fld 2).els).getD (Apj ((qA Y3).toInt)) D.nil].length≤Ak) (Mg n m4 s2 (r10++[((a5.fld 2).els).getD (Apj ((qA Y3).toInt)) D.nil]) t21 (Api .i64 (t22+1)) w4 a5 fill9))))
 (kK (r10.length + [fill9].length≤Ak) (Mg n m4 s2 (r10++[fill9]) t21 (Api .i64 (t22+1)) w4 a5 fill9))):=by kernel_rfl
theorem PK(n m4:Nat)(s2:D)(r10:List D)(t21 t22:Int)(w4 a5 fill9:D):Mg n (m4+1) s2 r10 t21 t22 w4 a5 fill9 =
 bK (t22<t21) (cK 175 [w4.fld 1,D.int t22] fun Y2 =>
 V3 n m4 n s2 r10 ((qA Y2).els) t21 t22 (((qA Y2).els).length:Int) 0 w4 a5 fill9)
 (.ret [D.sl r10]):=by kernel_rfl
theorem Aer(n:Nat)(w0 a1:D)(s2 count3:D):fA H1 n 102 [] [w0,a1,s2,count3] =
 cK 82 [a1] fun Y1 =>
 kK (0≤0) (kK (0≤count3.toInt) (kK (count3.toInt≤Ak) (Mg n n s2 (Apl (Apj 0) (D.agg [D.int 0,D.int 0,D.agg [D.bool false,D.sl [],D.sl []],D.int 0,D.sl []])) count3.toInt 0 w0 a1 (qA Y1)))):=by kernel_rfl
def Nv:List Int→Int→List Int
 | [],_=>[]
 | x::xs,n=>Int.tmod n x::Nv xs (Int.tdiv n x)
def J_(s:List Int)(n:Int):List Int:=(Nv s.reverse n).reverse
theorem PW : ∀ (l:List Int) (n:Int),(Nv l n).length=l.length
 | [],_=>rfl
 | x::xs,n=>by simp[Nv,PW xs]
theorem O8(s:List Int)(n:Int):(J_ s n).length=s.length:=by simp[J_,PW]
def Km:List Int→List Int→Int→Option Int
 | [],_,o=>some o
 | _::_,[],_=>none
 | x::xs,a::as_,o=>if a<0∨x≤a then none else Km xs as_ (Api .i64 (Api .i64 (o*x)+a))
def H_(s at_:List Int):Option Int:=if (A8 s).2=0∧at_.length=s.length then Km s at_ 0 else none
theorem SH : ∀ {s at_:List Int} {o:Int},(0:Int)∈s→Km s at_ o=none
 | x::xs,[],o,_=>rfl
 | x::xs,a::as_,o,h=>by
  simp only[Km]
  split
  · rfl
  · rename_i hc
    rcases Ap4.1 h with h | h
    · subst h;omega
    · exact SH h
theorem Aj2{x:Int}{xs:List Int}{p:Int}(h:A_ (x::xs) p≠0):p*x≤2048∧A_ xs (p*x)≠0:=by
 rw[Oi]at h
 split at h
 · exact absurd rfl h
 · exact ⟨by omega,h⟩
theorem SF : ∀ {s at_:List Int} {o p k:Int},(∀ x∈s,1≤x∧x≤2048)→0≤o→o<p→p≤2048→A_ s p≠0→Km s at_ o=some k→0≤k∧k<A_ s p
 | [],at_,o,p,k,_,h0,h1,_,_,h=>by
  simp only[Km,Aps]at h
  subst h
  exact ⟨h0,h1⟩
 | x::xs,[],o,p,k,_,_,_,_,_,h=>by simp[Km]at h
 | x::xs,a::as_,o,p,k,hx,h0,h1,h2,hp,h=>by
  simp only[Km]at h
  split at h
  · cases h
  · rename_i hc
    have hxx:=hx x (by simp)
    obtain ⟨q1,q2⟩:=Aj2 hp
    have m1:(o+1)*x≤p*x:=Int.mul_le_mul_of_nonneg_right (by omega) (by omega)
    have m2:0≤o*x:=Int.mul_nonneg h0 (by omega)
    rw[Int.add_mul,Int.one_mul]at m1
    rw[Aw (x:=o*x) (by omega) (by omega),Aw (by omega) (by omega)]at h
    have:=SF (s:=xs) (p:=p*x) (fun y hy=>hx y (by simp[hy])) (by omega) (by omega) q1 q2 h
    rw[Oi,if_neg (by omega)]
    exact this
theorem Ke{s:List Int}{c:Int}(h:A8 s=(c,0)):s.length≤6∧(((0:Int)∈s∧c=0)∨((∀ x∈s,1≤x∧x≤2048)∧A_ s 1=c∧c≠0)):=by
 unfold A8 at h
 split at h
 · cases h
 split at h
 · cases h
 split at h
 · cases h
 · rename_i h1 h2 h3
   refine ⟨by omega,?_⟩
   split at h
   · rename_i h4
     obtain ⟨x,hx,h5⟩:=List.any_eq_true.1 h4
     have:x=0:=by simpa using h5
     subst this
     exact .inl ⟨hx,by injection h with h;exact h.symm⟩
   · rename_i h4
     split at h
     · cases h
     · rename_i h5
       injection h with h
       exact .inr ⟨Vy h2 h3 h4,h,by omega⟩
theorem SE{s at_:List Int}{c k:Int}(hc:A8 s=(c,0))(h:H_ s at_=some k):0≤k∧k<c:=by
 unfold H_ at h
 split at h
 · rcases (Ke hc).2 with ⟨h0,_⟩ | ⟨h1,h2,h3⟩
   · rw[SH h0]at h;cases h
   · rw[← h2]
     exact SF h1 (by omega) (by omega) (by omega) (by rw[h2];exact h3) h
 · cases h
theorem MQ{k:Nat}(h:k≤9223372036854775807):Api .i64 ((k:Int)-1)=(k:Int)-1:=Aw (by omega) (by omega)
theorem GR{l:List Int}{k:Nat}{x:Int}(h:l[k]? = some x):l.take (k+1)=l.take k++[x]:=by
 rw[List.take_add_one,h];rfl
theorem H8{l:List Int}{i:Nat}(h:i<l.length):(l.map D.int).getD i D.nil=D.int (l.getD i 0):=by
 rw[Au (Apk h),Apn,Apk h];rfl
def O7(s:List Int)(n:Int):List D:=if (A8 s).2=0∧0≤n∧n<(A8 s).1 then [dI (J_ s n),.bool true] else [.sl [],.bool false]
theorem AeD(out:List Int)(k:Nat)(v:Int)(h:k<out.length):(out.set k v).drop k=v::out.drop (k+1):=by
 rw[Aqa (by simpa using h)]
 simp[List.drop_set]
theorem Abo(s:List Int)(n:Int):Sp 175 [dI s,.int n] (O7 s n):=by
 refine Af (s.length+1) (Am3 _ _ _) (Aa (Oq s) ?_)
 unfold O7
 simp only[Ah]
 refine Ae (fun h=>Ac (by rw[if_neg (fun hh=>h hh.1)])) (fun h=>Ae (fun h1=>Ac (by rw[if_neg (by omega)])) (fun h1=>Ae (fun h2=>Ac (by rw[if_neg (by omega)])) (fun h2=> ?_)))
 have hc0:(A8 s).2=0:=Apw.1 h
 rw[if_pos ⟨hc0,by omega,by omega⟩]
 obtain ⟨c1,c2⟩:=Ke (s:=s) (c:=(A8 s).1) (by rw[← hc0])
 have hpos : ∀ x∈s,1≤x∧x≤2048:=by
  rcases c2 with ⟨_,c2⟩ | ⟨c2,_⟩
  · omega
  · exact c2
 have hle:=(Fz s).2
 refine Ad (Ad (Ay (by simp only[Ak];omega) ?_))
 have key:=Js (P:=Tryz.prog) (md:=md) (fun m k (st:Int×List Int)=>BO (s.length+1) m (dI s) st.1 (st.2.map D.int) ((k:Int)-1)) (fun k st=>[dI ((Nv (s.take k).reverse st.1).reverse++st.2.drop k),.bool true]) (fun k st=>k≤s.length∧st.2.length=s.length∧0≤st.1∧st.1≤2048)
  (fun m st hI=>by
   simp only[Abn]
   refine Ar (Ac ?_)
   simp[Nv,dI])
  (fun m k st hI ih=>by
   obtain ⟨i1,i2,i3,i4⟩:=hI
   have hg:s[k]? = some s[k]:=Apk (by omega)
   have hx:=hpos _ (Apq hg)
   generalize s[k]=x at hg hx
   have e:((k+1:Nat):Int)-1=(k:Int):=by omega
   have m1:0≤Int.tdiv st.1 x:=Int.tdiv_nonneg i3 (by omega)
   have m2:Int.tdiv st.1 x≤st.1:=by rw[Int.tdiv_eq_ediv_of_nonneg i3];exact Int.ediv_le_self _ i3
   simp only[Abn,Ah,e,Au hg]
   have hb:(!decide (x=0))=true:=by simp;omega
   rw[MQ (by omega),Aw (x:=Int.tdiv st.1 x) (by omega) (by omega)]
   refine Ad (Ad (Ad (Ad (Ad (Ad (Ad (Ad (Ad ?_))))))))
   have:=ih (Int.tdiv st.1 x,st.2.set k (Int.tmod st.1 x)) ⟨by omega,by simpa using i2,m1,by omega⟩
   rw[List.map_set]at this
   refine Tree.wp_mono this (fun ys hy=>hy.trans ?_)
   simp only
   rw[AeD _ _ _ (by omega),GR hg,List.reverse_append,List.reverse_cons,List.reverse_nil,Aqx,List.singleton_append,Nv,List.reverse_cons]
   simp)
  (s.length+1) s.length (n,Apl s.length 0) (by omega) ⟨by omega,by simp,by omega,by omega⟩
 rw[MQ (by omega)]
 have e2:Apl s.length (D.int 0)=(Apl s.length (0:Int)).map D.int:=by simp
 rw[e2]
 refine Tree.wp_mono key (fun ys hy=>hy.trans ?_)
 simp[J_]
def Sn(o:Option Int):List D:=match o with | some k=>[.int k,.bool true] | none=>[.int 0,.bool false]
theorem Abq(s at_:List Int)(hl:at_.length≤1000000):Sp 176 [dI s,dI at_] (Sn (H_ s at_)):=by
 refine Af (s.length+1) (Am7 _ _ _) (Aa (Oq s) ?_)
 unfold H_
 simp only[Ah]
 refine Ae (fun h=>Ac (by rw[if_neg (fun hh=>h hh.1)];rfl)) (fun h=>Ae (fun h1=>Ac (by rw[if_neg (by omega)];rfl)) (fun h1=> ?_))
 rw[if_pos ⟨Apw.1 h,by omega⟩]
 have key:=B3 s (fun m k (o:Int)=>BQ (s.length+1) m (dI at_) o (dI s) (s.length:Int) (k:Int)) (fun rest o=>Sn (Km rest (at_.drop (s.length-rest.length)) o)) (fun _ _=>True)
  (fun m k o hk _=>by
   simp only[Abp]
   exact Ar (Ac rfl))
  (fun m k o x rest hdr _ ih=>by
   obtain ⟨h4,h2,h3⟩:=By hdr
   have hle:=congrArg List.length hdr
   rw[Apy,App]at hle
   have hg:at_[k]? = some at_[k]:=Apk (by omega)
   have hd:at_.drop k=at_[k]::at_.drop (k+1):=Aqa (by omega)
   generalize at_[k]=a at hg hd
   rw[show s.length-(x::rest).length=k by rw[App];omega,hd]
   have ih':=fun o'=>ih o' trivial
   rw[show s.length-rest.length=k+1 by omega]at ih'
   simp only[Abp,Ah,Au h2,Au hg,Bh k,Km]
   refine Ad (Ad (Ad (Ad (Ad (Ae (fun g=>Ac (by rw[if_pos (.inl g)];rfl)) (fun g=>Ad (Ad (Ae (fun g2=>Ac (by rw[if_pos (.inr g2)];rfl)) (fun g2=>Ad (Ad ?_))))))))))
   rw[if_neg (by omega)]
   exact ih' _)
  (s.length+1) 0 0 (by omega) (by omega) trivial
 simpa using key
def Hi(k:Int):Int:=if 2049<k then 2049 else if k < -2049 then 2049 else if k<0-k then 0-k else k
theorem RX(k:Int):0≤Hi k∧Hi k≤2049:=by
 unfold Hi;split;· omega
 split;· omega
 split <;> omega
def Ct(n a:Arr):List Int×List Int×Int :=
 if (A9 n).2=0 then (if 0<a.shape.length then (if a.shape.length<(A9 n).1.length then ([],[],4) else ((A9 n).1,a.shape,0)) else if 6<(A9 n).1.length then ([],[],7) else ((A9 n).1,Apl (A9 n).1.length 1,0)) else ([],[],(A9 n).2)
def Kk:List Int→List Int→List Int
 | k::l,x::s=>(if k<0 then x-Hi k else 0)::Kk l s
 | _,s=>Apl s.length 0
def Kz:List Int→List Int→List Int
 | k::l,_::s=>Hi k::Kz l s
 | _,s=>s
def Lo(k x:Int):Int:=if x<Hi k then x else Hi k
def Kj:List Int→List Int→List Int
 | k::l,x::s=>(if 0<k then Lo k x else 0)::Kj l s
 | _,s=>Apl s.length 0
def Ky:List Int→List Int→List Int
 | k::l,x::s=>(x-Lo k x)::Ky l s
 | _,s=>s
theorem RG : ∀ l s,(Kk l s).length=s.length
 | k::l,x::s=>by simp[Kk,RG l s]
 | [],s=>by simp[Kk]
 | k::l,[]=>by simp[Kk]
theorem LM : ∀ l s,(Kz l s).length=s.length
 | k::l,x::s=>by simp[Kz,LM l s]
 | [],s=>by simp[Kz]
 | k::l,[]=>by simp[Kz]
theorem RF : ∀ l s,(Kj l s).length=s.length
 | k::l,x::s=>by simp[Kj,RF l s]
 | [],s=>by simp[Kj]
 | k::l,[]=>by simp[Kj]
theorem LL : ∀ l s,(Ky l s).length=s.length
 | k::l,x::s=>by simp[Ky,LL l s]
 | [],s=>by simp[Ky]
 | k::l,[]=>by simp[Ky]
def Iw:List Int→List Int→List Int
 | a::as_,f::fs=>Api .i64 (a+f)::Iw as_ fs
 | _,_=>[]
theorem NB : ∀ a f,a.length≤f.length→(Iw a f).length=a.length
 | a::as_,f::fs,h=>by simp[Iw,NB as_ fs (by simpa using h)]
 | [],f,h=>by simp[Iw]
 | a::as_,[],h=>by simp at h
def Nc(cs:List Cell)(fill:Cell)(s from_ size:List Int)(i:Nat):Cell:=match H_ s (Iw (J_ size (i:Int)) from_) with
 | some k=>cs.getD k.toNat fill
 | none=>fill
def Ip(a:Arr)(s from_ size:List Int)(K:Nat):List Cell:=(Aqj K).map (Nc a.cells (Cr a) s from_ size)
def Fl(n a:Arr)(s from_ size:List Int):Arr×Int:=if (A8 size).2=0 then (.mk (a.s|||Az n) size (Ip a s from_ size (A8 size).1.toNat),0) else (.none,(A8 size).2)
def Is(n a:Arr):Arr×Int:=if (Ct n a).2.2=0 then Fl n a (Ct n a).2.1 (Kk (Ct n a).1 (Ct n a).2.1) (Kz (Ct n a).1 (Ct n a).2.1) else (.none,(Ct n a).2.2)
def H3(n a:Arr):Arr×Int:=if (Ct n a).2.2=0 then Fl n a (Ct n a).2.1 (Kj (Ct n a).1 (Ct n a).2.1) (Ky (Ct n a).1 (Ct n a).2.1) else (.none,(Ct n a).2.2)
theorem OD{n a:Arr}(h:(Ct n a).2.2=0)(ha:a.shape.length≤6):(Ct n a).1.length≤(Ct n a).2.1.length∧(Ct n a).2.1.length≤6:=by
 unfold Ct at h ⊢
 split at h
 · rename_i h1
   rw[if_pos h1]
   split at h
   · rename_i h2
     rw[if_pos h2]
     split at h
     · cases h
     · rename_i h3;rw[if_neg h3];simp only;omega
   · rename_i h2
     rw[if_neg h2]
     split at h
     · cases h
     · rename_i h3;rw[if_neg h3];simp only[Aqp];omega
 · rename_i h1;exact absurd h h1
theorem Aee : ∀ k:Nat,k≤6→A8 (Apl k 1)=(1,0):=by decide
theorem OC{n a:Arr}(h:(Ct n a).2.2=0)(ha:A8 a.shape=((a.cells.length:Int),0)):A8 (Ct n a).2.1=((a.cells.length:Int),0):=by
 unfold Ct at h ⊢
 split at h
 · rename_i h1
   rw[if_pos h1]
   split at h
   · rename_i h2
     rw[if_pos h2]
     split at h
     · cases h
     · rename_i h3;rw[if_neg h3];exact ha
   · rename_i h2
     rw[if_neg h2]
     split at h
     · cases h
     · rename_i h3
       rw[if_neg h3]
       simp only
       rw[Aee _ (by omega)]
       have:a.shape = []:=Aqb.1 (by omega)
       rw[this]at ha
       have e:A8 []=(1,0):=by decide
       rw[e]at ha
       exact ha
 · rename_i h1;exact absurd h h1
theorem PI(k:Int):Sp 100 [.int k] [.int (Hi k)]:=by
 refine Af 0 (Aem _ _) ?_
 unfold Hi
 simp only[Ah]
 refine Ae (fun h=>Ac (by rw[if_pos h])) (fun h=>Ae (fun h1=>Ac (by rw[if_neg h,if_pos h1])) (fun h1=>Ac ?_))
 rw[if_neg h,if_neg h1]
 have e:Api .i64 (0-k)=0-k:=Aw (by omega) (by omega)
 simp only[Ao,e]
theorem PG(n a:Arr)(hn:Fits n)(hnl:n.cells.length≤2048)(hnt : ∀ c∈n.cells,c.n.top.length≤32)(ha:a.shape.length≤1048576):Sp 98 [dA n,dA a] [dI (Ct n a).1,dI (Ct n a).2.1,.int (Ct n a).2.2]:=by
 refine Af 0 (Ael _ _ _) (Aa (La n hnl hnt) ?_)
 unfold Ct
 simp only[Ah]
 refine Ae (fun h=>Ac (by rw[if_neg h];rfl)) (fun h=> ?_)
 rw[if_pos (Apw.1 h)]
 refine Ae (fun h1=> ?_) (fun h1=> ?_)
 · rw[if_pos (by omega)]
   refine Ae (fun h2=>Ac (by rw[if_pos (by omega)];rfl)) (fun h2=> ?_)
   rw[if_neg (by omega)]
   exact Aa (Kc a.shape ha) (Ac rfl)
 · rw[if_neg (by omega)]
   refine Ae (fun h2=>Ac (by rw[if_pos (by omega)];rfl)) (fun h2=> ?_)
   rw[if_neg (by omega)]
   exact Aa (Aam (A9 n).1.length 1 (by omega) (Dn (by decide) (by decide))) (Ac rfl)
theorem PJ(s:List Int)(h:s.length≤1048576):Sp 99 [dI s] [.agg [dI (Apl s.length 0),dI s]]:=by
 refine Af 0 (Aen _ _) ?_
 simp only[Ah]
 refine Ad (Ad (Ay (by simp only[Ak];omega) (Aa (Kc s h) (Ac ?_))))
 simp[dI]
theorem Aep(n a:Arr)(s:List Int)(cs:List Cell)(hn:Fits n):Sp 101 [dA n,dA a,dI s,.sl (cs.map dC)] [dA (.mk (a.s|||Az n) s cs)]:=by
 refine Af 0 (Aeq _ _ _ _ _) (Aa (Fi n hn) ?_)
 simp only[Ah]
 refine Aa (Hk a.s (Az n)) (Ac ?_)
 simp only[Ah]
 rw[D4];rfl
theorem AcW(pre:List Int)(x f:Int)(rest frest:List Int):pre++Iw (x::rest) (f::frest)=(pre++[Api .i64 (x+f)])++Iw rest frest:=by simp[Iw]
theorem Aeo(a:Arr)(s from_ size:List Int)(ha:A8 s=((a.cells.length:Int),0))(hl:from_.length=size.length)(hs:size.length≤1000)(hc:(A8 size).2=0):Sp 102 [.agg [dI from_,dI size],dA a,dI s,.int (A8 size).1] [.sl ((Ip a s from_ size (A8 size).1.toNat).map dC)]:=by
 have hk:=Fz size
 generalize hK:(A8 size).1=kz at *
 obtain ⟨K,rfl⟩ : ∃ K:Nat,kz=(K:Int):=⟨kz.toNat,by omega⟩
 refine Af 2049 (Aer _ _ _ _ _) (Aa (Vb a) ?_)
 simp only[Ah]
 refine Ad (Ad (Ay (by simp only[Ak];omega) ?_))
 have key:=Di K (fun m k (out:List Cell)=>Mg 2049 m (dI s) (out.map dC) (K:Int) (k:Int) (.agg [dI from_,dI size]) (dA a) (dC (Cr a))) (fun _ _=>[.sl ((Ip a s from_ size K).map dC)]) (fun k out=>out=Ip a s from_ size k)
  (fun m out hI=>by
   simp only[PK]
   exact Ar (Ac (by rw[hI])))
  (fun m k out hkK hI ih=>by
   have hol:out.length=k:=by rw[hI];simp[Ip]
   have hat:O7 size (k:Int) = [dI (J_ size (k:Int)),.bool true]:=by unfold O7;rw[if_pos ⟨hc,by omega,by rw[hK];omega⟩]
   have hsp:=Abo size (k:Int)
   rw[hat]at hsp
   simp only[PK,Lh,Li]
   refine Ad (Aa hsp ?_)
   simp only[Ah,O8]
   have fin : ∀ at2:List Int,at2=Iw (J_ size (k:Int)) from_→Tw (.call 176 [] [dI s,dI at2] fun Y3 =>
     .br ((qB Y3).toBool) (.br (decide (0≤(qA Y3).toInt)) (.br (decide ((qA Y3).toInt<((((dA a).fld 2).els).length:Int))) (.br (decide ((out.map dC).length + [(((dA a).fld 2).els).getD (Apj ((qA Y3).toInt)) D.nil].length≤Ak)) (Mg 2049 m (dI s) ((out.map dC)++[(((dA a).fld 2).els).getD (Apj ((qA Y3).toInt)) D.nil]) (K:Int) (Api .i64 ((k:Int)+1)) (.agg [dI from_,dI size]) (dA a) (dC (Cr a))) .fail) .fail) .fail)
       (.br (decide ((out.map dC).length + [dC (Cr a)].length≤Ak)) (Mg 2049 m (dI s) ((out.map dC)++[dC (Cr a)]) (K:Int) (Api .i64 ((k:Int)+1)) (.agg [dI from_,dI size]) (dA a) (dC (Cr a))) .fail)) [.sl ((Ip a s from_ size K).map dC)]:=by
    intro at2 hat2
    have hlen2:at2.length≤1000000:=by rw[hat2,NB _ _ (by rw[O8];omega),O8];omega
    refine Aa (Abq s at2 hlen2) ?_
    have nxt : ∀ c:Cell,c=Nc a.cells (Cr a) s from_ size k→Tw (Mg 2049 m (dI s) ((out.map dC)++[dC c]) (K:Int) ((k+1:Nat):Int) (.agg [dI from_,dI size]) (dA a) (dC (Cr a))) [.sl ((Ip a s from_ size K).map dC)]:=by
     intro c hcc
     have:=ih (out++[c]) (by rw[hI,hcc];simp[Ip,List.range_succ])
     rw[List.map_append]at this
     exact this
    rw[Bh k]
    have hsc:Nc a.cells (Cr a) s from_ size k=match H_ s at2 with | some k=>a.cells.getD k.toNat (Cr a) | none=>Cr a:=by rw[hat2];rfl
    cases hi:H_ s at2 with
    | none =>
     rw[hi]at hsc
     simp only[Sn,Ah]
     exact Eo rfl (Ay (by simp only[App,Ap1,Ak];omega) (nxt _ hsc.symm))
    | some j =>
     have hj:=SE ha hi
     obtain ⟨J,rfl⟩ : ∃ J:Nat,j=(J:Int):=⟨j.toNat,by omega⟩
     rw[hi]at hsc
     simp only[Sn,Ah]
     have hcj:(a.cells.map dC).getD J D.nil=dC (a.cells.getD J (Cr a)):=by
       rw[Au (Apk (by omega)),Apn,Apk (by omega)];rfl
     rw[hcj]
     exact Bi rfl (Ad (Ad (Ay (by simp only[App,Ap1,Ak];omega) (nxt _ (by rw[hsc];rfl)))))
   have inner:=Di size.length (fun m' j (at2:List Int)=>V3 2049 m m' (dI s) (out.map dC) (at2.map D.int) (K:Int) (k:Int) (size.length:Int) (j:Int) (.agg [dI from_,dI size]) (dA a) (dC (Cr a))) (fun _ _=>[.sl ((Ip a s from_ size K).map dC)])
    (fun j at2=>at2.length=size.length∧at2.take j++Iw (at2.drop j) (from_.drop j)=Iw (J_ size (k:Int)) from_)
    (fun m' at2 hI'=>by
     simp only[PL]
     refine Ar (fin at2 ?_)
     rw[← hI'.2,Aqh (by omega),List.drop_of_length_le (by omega)]
     simp[Iw])
    (fun m' j at2 hj hI' ih'=>by
     have h1:at2[j]? = some at2[j]:=Apk (by omega)
     have h2:from_[j]? = some from_[j]:=Apk (by omega)
     simp only[PL,Ah,Lh,Au h1,Au h2,Bh j]
     refine Ad (Ad (Ad (Ad (Ad (Ad (Ad ?_))))))
     have:=ih' (at2.set j (Api .i64 (at2[j]+from_[j]))) ⟨by simpa using hI'.1,?_⟩
     · rw[List.map_set]at this
       exact this
     · have e1:at2.drop j=at2[j]::at2.drop (j+1):=Aqa (by omega)
       have e2:from_.drop j=from_[j]::from_.drop (j+1):=Aqa (by omega)
       have h3:=hI'.2
       rw[e1,e2,AcW]at h3
       rw[← h3,List.drop_set_of_lt (by omega),List.take_set,GR h1]
       congr 1
       rw[List.set_append_right _ _ (by simp;omega)]
       simp[Nat.min_eq_left (show j≤at2.length by omega)])
    2049 0 (J_ size (k:Int)) (by omega) (by omega) ⟨O8 _ _,by simp⟩
   exact inner)
  2049 0 [] (by omega) (by omega) (by simp[Ip])
 exact key
theorem LF{α:Type}(pre:List α)(a b:α)(r:List α):(pre++a::r).set pre.length b=pre++b::r:=by
 rw[List.set_append_right _ _ (Apx _),Nat.sub_self];rfl
theorem GS{α:Type}(pre:List α)(a:α)(r:List α):(pre++a::r)[pre.length]? = some a:=by
 rw[Aqn (Apx _),Nat.sub_self];rfl
theorem PH(n a:Arr)(s from_ size:List Int)(hn:Fits n)(ha:A8 s=((a.cells.length:Int),0))(hl:from_.length=size.length)(hs:size.length≤1000) :
  Tw (.call 81 [] [D.sl (size.map D.int)] fun Y4 =>
   .br (((qB Y4).toInt)!=0) (.ret [D.agg [D.int 0,D.sl [],D.sl []],D.int ((qB Y4).toInt)])
   (.call 102 [] [D.agg [D.sl (from_.map D.int),D.sl (size.map D.int)],dA a,dI s,D.int ((qA Y4).toInt)] fun Y5 =>
   .call 101 [] [dA n,dA a,D.sl (size.map D.int),qA Y5] fun Y6 =>
   .ret [qA Y6,D.int 0])) [dA (Fl n a s from_ size).1,.int (Fl n a s from_ size).2]:=by
 refine Aa (Oq size) ?_
 unfold Fl
 simp only[Ah,C9]
 refine Ae (fun h=>Ac (by rw[if_neg h])) (fun h=> ?_)
 have h0:(A8 size).2=0:=Apw.1 h
 rw[if_pos h0]
 refine Aa (Aeo a s from_ size ha hl hs h0) ?_
 exact Aa (Aep n a size _ hn) (Ac rfl)
structure WinI (F G:List Int→List Int→List Int) (l s:List Int) (rest w0 w1:List Int):Prop where
 h : ∃ spre pre0 pre1 srest,s=spre++srest∧spre.length=pre0.length∧pre1.length=pre0.length∧pre0.length+rest.length=l.length∧rest.length≤srest.length∧w0=pre0++Apl srest.length 0∧w1=pre1++srest∧F l s=pre0++F rest srest∧G l s=pre1++G rest srest
theorem WinI.start {F G:List Int→List Int→List Int} {l s:List Int} (h:l.length≤s.length):WinI F G l s l (Apl s.length 0) s :=
 ⟨[],[],[],s,rfl,rfl,rfl,by simp,h,rfl,rfl,rfl,rfl⟩
theorem WinI.stop {F G:List Int→List Int→List Int} {l s w0 w1:List Int} (h:WinI F G l s [] w0 w1) (hF : ∀ x,F [] x=Apl x.length 0) (hG : ∀ x,G [] x=x):w0=F l s∧w1=G l s:=by
 obtain ⟨spre,pre0,pre1,srest,h1,h2,h3,h4,h5,h6,h7,h8,h9⟩:=h.h
 rw[h8,h9,hF,hG,h6,h7];exact ⟨rfl,rfl⟩
theorem WinI.next {F G:List Int→List Int→List Int} {l s w0 w1 rest:List Int} {x:Int} {k:Nat} (h:WinI F G l s (x::rest) w0 w1) (hk:l.drop k=x::rest) {f g:Int→Int→Int} (hF : ∀ x l y s,F (x::l) (y::s)=f x y::F l s) (hG : ∀ x l y s,G (x::l) (y::s)=g x y::G l s) :
  ∃ y,s[k]? = some y∧w1[k]? = some y∧w0[k]? = some 0∧w0.length=w1.length∧k<w1.length∧w1.length=s.length∧WinI F G l s rest (w0.set k (f x y)) (w1.set k (g x y))∧(f x y=0→w0.set k (f x y)=w0):=by
 obtain ⟨spre,pre0,pre1,srest,h1,h2,h3,h4,h5,h6,h7,h8,h9⟩:=h.h
 match srest,h5 with
 | y::srest,h5 =>
  have hle:=congrArg List.length hk
  rw[Apy,App]at hle
  rw[App]at h4
  have e0:k=pre0.length:=by omega
  have e1:k=pre1.length:=by omega
  have e2:k=spre.length:=by omega
  have hz:w0=pre0++0::Apl srest.length 0:=by rw[h6,App,List.replicate_succ]
  refine ⟨y,by rw[h1,e2];exact GS _ _ _,by rw[h7,e1];exact GS _ _ _,by rw[hz,e0];exact GS _ _ _,by rw[h6,h7];simp;omega,by rw[h7];simp;omega,by rw[h1,h7];simp;omega,⟨spre++[y],pre0++[f x y],pre1++[g x y],srest,by rw[h1];simp,by simp[h2],by simp[h3],by simp;omega,by simpa using h5,?_,?_,by rw[h8,hF];simp,by rw[h9,hG];simp⟩,fun h0=>by rw[h0,hz,e0,LF]⟩
  · rw[hz,e0,LF];simp
  · rw[h7,e1,LF];simp
theorem Aej(n a:Arr)(hn:Fits n)(hnl:n.cells.length≤2048)(hnt : ∀ c∈n.cells,c.n.top.length≤32)(ha:A8 a.shape=((a.cells.length:Int),0)):Sp 39 [dA n,dA a] [dA (Is n a).1,.int (Is n a).2]:=by
 have hsh:=Gr (l:=a.shape) (by rw[ha])
 have hax:=OD (n:=n) (a:=a)
 have hac:=OC (n:=n) (a:=a)
 refine Af 4096 (Aek _ _ _) (Aa (PG n a hn hnl hnt (by omega)) ?_)
 have hll:(Ct n a).2.2=0→(Ct n a).1.length≤(Ct n a).2.1.length∧(Ct n a).2.1.length≤6:=fun h=>hax h hsh.1
 unfold Is
 generalize Ct n a=ax at *
 obtain ⟨l,s,e⟩:=ax
 simp only[Ah,W7,C9]
 refine Ae (fun h=>Ac (by rw[if_neg h])) (fun h=> ?_)
 have he:e=0:=Apw.1 h
 subst he
 rw[if_pos rfl]
 obtain ⟨l1,l2⟩:=hll rfl
 have hcs:=hac rfl ha
 simp only at l1 l2 hcs
 have hsl:=Gr (l:=s) (by rw[hcs])
 refine Aa (PJ s (by omega)) ?_
 simp only[Ah,Lh,Li]
 have key:=B3 l (fun m k (w:List Int×List Int)=>R3 4096 m (dI s) (dI l) (l.length:Int) (k:Int) (dA n) (dA a) 0 0 (w.1.map D.int) (w.2.map D.int)) (fun _ _=>[dA (Fl n a s (Kk l s) (Kz l s)).1,.int (Fl n a s (Kk l s) (Kz l s)).2]) (fun rest w=>WinI Kk Kz l s rest w.1 w.2)
  (fun m k w hk hI=>by
   obtain ⟨e1,e2⟩:=hI.stop (fun x=>by simp[Kk]) (fun x=>by simp[Kz])
   simp only[PF]
   rw[e1,e2]
   exact Ar (PH n a s _ _ hn hcs (by rw[RG,LM]) (by rw[LM];omega)))
  (fun m k w x rest hdr hI ih=>by
   obtain ⟨h1,h2,h3⟩:=By hdr
   obtain ⟨y,g1,g2,g3,g4,g5,g6,g7,g8⟩:=hI.next hdr (f:=fun x y=>if x<0 then y-Hi x else 0) (g:=fun x _=>Hi x) (fun _ _ _ _=>rfl) (fun _ _ _ _=>rfl)
   have hy:=hsl.2 y (Apq g1)
   have hg:=RX x
   have hih:=ih (_,_) g7
   simp only[List.map_set]at hih
   have hgs:((w.2.map D.int).set k (D.int (Hi x))).getD k D.nil=D.int (Hi x):=by
     rw[Apn,List.getElem?_set_self (by simpa using g5)];rfl
   simp only[PF,Ah,Au h2,Au g1,Bh k,List.length_set]
   refine Ad (Ad (Ad (Aa (PI x) ?_)))
   simp only[Ah]
   rw[hgs]
   simp only[Ao]
   refine Ad (Ad (Ae (fun hx=> ?_) (fun hx=> ?_)))
   · refine Ad (Ad (Ad (Ad (Ad (Ad ?_)))))
     rw[Aw (x:=y-Hi x) (by omega) (by omega)]
     rw[if_pos hx]at hih
     exact hih
   · rw[if_neg hx]at hih g8
     have e0:(w.1.map D.int).set k (D.int 0)=w.1.map D.int:=by rw[← List.map_set,g8 rfl]
     rw[e0]at hih
     exact hih)
  4096 0 (Apl s.length 0,s) (by omega) (by omega) (WinI.start l1)
 exact key
theorem Aeh(n a:Arr)(hn:Fits n)(hnl:n.cells.length≤2048)(hnt : ∀ c∈n.cells,c.n.top.length≤32)(ha:A8 a.shape=((a.cells.length:Int),0)):Sp 40 [dA n,dA a] [dA (H3 n a).1,.int (H3 n a).2]:=by
 have hsh:=Gr (l:=a.shape) (by rw[ha])
 have hax:=OD (n:=n) (a:=a)
 have hac:=OC (n:=n) (a:=a)
 refine Af 4096 (Aei _ _ _) (Aa (PG n a hn hnl hnt (by omega)) ?_)
 have hll:(Ct n a).2.2=0→(Ct n a).1.length≤(Ct n a).2.1.length∧(Ct n a).2.1.length≤6:=fun h=>hax h hsh.1
 unfold H3
 generalize Ct n a=ax at *
 obtain ⟨l,s,e⟩:=ax
 simp only[Ah,W7,C9]
 refine Ae (fun h=>Ac (by rw[if_neg h])) (fun h=> ?_)
 have he:e=0:=Apw.1 h
 subst he
 rw[if_pos rfl]
 obtain ⟨l1,l2⟩:=hll rfl
 have hcs:=hac rfl ha
 simp only at l1 l2 hcs
 have hsl:=Gr (l:=s) (by rw[hcs])
 refine Aa (PJ s (by omega)) ?_
 simp only[Ah,Lh,Li]
 have key:=B3 l (fun m k (w:List Int×List Int)=>R2 4096 m (dI s) (dI l) (l.length:Int) (k:Int) (dA n) (dA a) 0 0 (w.1.map D.int) (w.2.map D.int)) (fun _ _=>[dA (Fl n a s (Kj l s) (Ky l s)).1,.int (Fl n a s (Kj l s) (Ky l s)).2]) (fun rest w=>WinI Kj Ky l s rest w.1 w.2)
  (fun m k w hk hI=>by
   obtain ⟨e1,e2⟩:=hI.stop (fun x=>by simp[Kj]) (fun x=>by simp[Ky])
   simp only[PE]
   rw[e1,e2]
   exact Ar (PH n a s _ _ hn hcs (by rw[RF,LL]) (by rw[LL];omega)))
  (fun m k w x rest hdr hI ih=>by
   obtain ⟨h1,h2,h3⟩:=By hdr
   obtain ⟨y,g1,g2,g3,g4,g5,g6,g7,g8⟩:=hI.next hdr (f:=fun x y=>if 0<x then Lo x y else 0) (g:=fun x y=>y-Lo x y) (fun _ _ _ _=>rfl) (fun _ _ _ _=>rfl)
   have hy:=hsl.2 y (Apq g1)
   have hg:=RX x
   have ho:0≤Lo x y∧Lo x y≤2048:=by unfold Lo;split <;> omega
   have hih:=ih (_,_) g7
   simp only[List.map_set]at hih
   simp only[PE,Ah,Au h2,Au g1,Bh k,List.length_set]
   refine Ad (Ad (Ad (Aa (PI x) ?_)))
   have ew:Api .i64 (y-Lo x y)=y-Lo x y:=Aw (by omega) (by omega)
   simp only[Ah]
   refine Ad (Ad (Ad (Ad (Ad (Ad (Ae (fun hx=> ?_) (fun hx=> ?_)))))))
   · refine Ad (Ad ?_)
     rw[if_pos hx,← ew]at hih
     exact hih
   · rw[if_neg hx]at hih g8
     have e0:(w.1.map D.int).set k (D.int 0)=w.1.map D.int:=by rw[← List.map_set,g8 rfl]
     rw[e0,← ew]at hih
     exact hih)
  4096 0 (Apl s.length 0,s) (by omega) (by omega) (WinI.start l1)
 exact key
theorem Agb(n:Nat)(a0 b1 first2:D):fA [] n 36 [] [a0,b1,first2] =
 cK 86 [a0,b1,D.bool first2.toBool] fun Y1 =>
 .br (((qB Y1).toInt)!=0) (.ret [D.agg [D.int 0,D.sl [],D.sl []],D.int ((qB Y1).toInt)])
 (cK 87 [qA Y1] fun Y2 =>
 .br (((qB Y2).toInt)!=0) (.ret [D.agg [D.int 0,D.sl [],D.sl []],D.int ((qB Y2).toInt)])
 (cK 83 [D.int ((a0.fld 0).toInt),D.int ((b1.fld 0).toInt)] fun Y3 =>
 cK 88 [qA Y1,qA Y2] fun Y4 =>
 .ret [D.agg [D.int ((qA Y3).toInt),qA Y2,qA Y4],D.int 0])):=by kernel_rfl
theorem Agd(n:Nat)(a0:D):fA [] n 58 [] [a0] =
 bK (0<(((a0.fld 1).els).length:Int)) (cK 140 [a0.fld 1,D.int 0] fun Y1 =>
 kK (((a0.fld 2).els).length≤Ak) (.ret [D.agg [D.int ((a0.fld 0).toInt),D.sl [D.int ((qB Y1).toInt),D.int ((qC Y1).toInt)],D.sl ((a0.fld 2).els)]]))
 (kK (((a0.fld 2).els).length≤Ak) (.ret [D.agg [D.int ((a0.fld 0).toInt),D.sl [D.int 1,D.int 1],D.sl ((a0.fld 2).els)]])):=by kernel_rfl
theorem Agf(n:Nat)(a0 b1 first2:D):fA [] n 86 [] [a0,b1,first2] =
 .br first2.toBool (cK 172 [a0,b1.fld 1,D.int (if (if (((a0.fld 1).els).length:Int)<(((b1.fld 1).els).length:Int) then (((b1.fld 1).els).length:Int) else (((a0.fld 1).els).length:Int))<1 then 1 else (if (((a0.fld 1).els).length:Int)<(((b1.fld 1).els).length:Int) then (((b1.fld 1).els).length:Int) else (((a0.fld 1).els).length:Int))),D.int 0] fun Y1 =>
 .br (!((qB Y1).toBool)) (.ret [D.agg [D.agg [D.sl [],D.sl [],D.bool false],D.agg [D.sl [],D.sl [],D.bool false],D.int 0],D.int 5])
 (cK 172 [b1,a0.fld 1,D.int (if (if (((a0.fld 1).els).length:Int)<(((b1.fld 1).els).length:Int) then (((b1.fld 1).els).length:Int) else (((a0.fld 1).els).length:Int))<1 then 1 else (if (((a0.fld 1).els).length:Int)<(((b1.fld 1).els).length:Int) then (((b1.fld 1).els).length:Int) else (((a0.fld 1).els).length:Int))),D.int 0] fun Y2 =>
 .br (!((qB Y2).toBool)) (.ret [D.agg [D.agg [D.sl [],D.sl [],D.bool false],D.agg [D.sl [],D.sl [],D.bool false],D.int 0],D.int 5])
 (.ret [D.agg [qA Y1,qA Y2,D.int 0],D.int 0])))
 (cK 172 [a0,b1.fld 1,D.int (if (if (((a0.fld 1).els).length:Int)<(((b1.fld 1).els).length:Int) then (((b1.fld 1).els).length:Int) else (((a0.fld 1).els).length:Int))<1 then 1 else (if (((a0.fld 1).els).length:Int)<(((b1.fld 1).els).length:Int) then (((b1.fld 1).els).length:Int) else (((a0.fld 1).els).length:Int))),D.int (Api .i64 ((if (if (((a0.fld 1).els).length:Int)<(((b1.fld 1).els).length:Int) then (((b1.fld 1).els).length:Int) else (((a0.fld 1).els).length:Int))<1 then 1 else (if (((a0.fld 1).els).length:Int)<(((b1.fld 1).els).length:Int) then (((b1.fld 1).els).length:Int) else (((a0.fld 1).els).length:Int)))-1))] fun Y3 =>
 .br (!((qB Y3).toBool)) (.ret [D.agg [D.agg [D.sl [],D.sl [],D.bool false],D.agg [D.sl [],D.sl [],D.bool false],D.int 0],D.int 5])
 (cK 172 [b1,a0.fld 1,D.int (if (if (((a0.fld 1).els).length:Int)<(((b1.fld 1).els).length:Int) then (((b1.fld 1).els).length:Int) else (((a0.fld 1).els).length:Int))<1 then 1 else (if (((a0.fld 1).els).length:Int)<(((b1.fld 1).els).length:Int) then (((b1.fld 1).els).length:Int) else (((a0.fld 1).els).length:Int))),D.int (Api .i64 ((if (if (((a0.fld 1).els).length:Int)<(((b1.fld 1).els).length:Int) then (((b1.fld 1).els).length:Int) else (((a0.fld 1).els).length:Int))<1 then 1 else (if (((a0.fld 1).els).length:Int)<(((b1.fld 1).els).length:Int) then (((b1.fld 1).els).length:Int) else (((a0.fld 1).els).length:Int)))-1))] fun Y4 =>
 .br (!((qB Y4).toBool)) (.ret [D.agg [D.agg [D.sl [],D.sl [],D.bool false],D.agg [D.sl [],D.sl [],D.bool false],D.int 0],D.int 5])
 (.ret [D.agg [qA Y3,qA Y4,D.int (Api .i64 ((if (if (((a0.fld 1).els).length:Int)<(((b1.fld 1).els).length:Int) then (((b1.fld 1).els).length:Int) else (((a0.fld 1).els).length:Int))<1 then 1 else (if (((a0.fld 1).els).length:Int)<(((b1.fld 1).els).length:Int) then (((b1.fld 1).els).length:Int) else (((a0.fld 1).els).length:Int)))-1))],D.int 0]))):=by kernel_rfl
def Xp:List (Nat×Orc):=[(2,⟨[(1,none),(12,some 23),(13,none),(14,none)],[(1,true)],[]⟩)]
noncomputable def Pw(n m2:Nat)(t12:D)(t13 t14:Int)(p1:D):Tree :=
 lA (eA Xp n 87 [1,0,1,0,0]) (Al Xp 2) m2 ⟨(.undef:: .ptr 1 []::uA 10++(.d 23 t12:: .i .i64 t13:: .i .i64 t14::uA 52)),[(1,.var 86 (.d 86 p1) true)],[1],[],[]⟩
  (Aj 0 (An (jA Xp n 87 [1,1]) (rA 87 [86] [.tmp 2,.tmp 3] [23,29])))
theorem SW(n m2:Nat)(t12:D)(t13 t14:Int)(p1:D):Pw n (m2+1) t12 t13 t14 p1 =
 bK (t14<t13) (kK (0≤t14) (kK (t14<(t12.els.length:Int)) (.br (t14 != ((p1.fld 2).toInt)) (kK (0≤t14) (kK (t14<((((p1.fld 1).fld 0).els).length:Int)) (.br (((t12.els.getD (Apj t14) D.nil).toInt)!=(((((p1.fld 1).fld 0).els).getD (Apj t14) D.nil).toInt)) (.ret [D.sl [],D.int 4])
 (Pw n m2 t12 t13 (Api .i64 (t14+1)) p1))))
 (Pw n m2 t12 t13 (Api .i64 (t14+1)) p1))))
 (kK (0≤(p1.fld 2).toInt) (kK ((p1.fld 2).toInt<((((p1.fld 0).fld 0).els).length:Int)) (kK (0≤(p1.fld 2).toInt) (kK ((p1.fld 2).toInt<((((p1.fld 1).fld 0).els).length:Int)) (cK 173 [(p1.fld 0).fld 0,D.int ((p1.fld 2).toInt),D.int (Api .i64 ((((((p1.fld 0).fld 0).els).getD (Apj ((p1.fld 2).toInt)) D.nil).toInt)+(((((p1.fld 1).fld 0).els).getD (Apj ((p1.fld 2).toInt)) D.nil).toInt)))] fun Y1 =>
 cK 81 [qA Y1] fun Y2 =>
 .br (((qB Y2).toInt)!=0) (.ret [D.sl [],D.int ((qB Y2).toInt)])
 (.ret [qA Y1,D.int 0])))))):=by kernel_rfl
theorem Agi(n:Nat)(p0:D):fA Xp n 87 [] [p0] =
 Pw n n ((p0.fld 0).fld 0) ((((p0.fld 0).fld 0).els).length:Int) 0 p0:=by kernel_rfl
def Xo:List (Nat×Orc):=[(5,⟨[(2,none),(9,none),(10,none),(11,none),(46,none),(47,none)],[(2,true)],[(.slot 11,1050,67)]⟩)]
noncomputable def Xn(n m5:Nat)(one9 other10:Int)(r11:List D)(t46 t47:Int)(p2:D):Tree :=
 lA (eA Xo n 88 [1,1,1,1,0,1,0,0]) (Al Xo 5) m5 ⟨(.undef:: .undef:: .ptr 2 []::uA 6++(.i .i64 one9:: .i .i64 other10:: .row 1050::uA 34++(.i .i64 t46:: .i .i64 t47::uA 16))),[(2,.var 86 (.d 86 p2) true),(1050,.row 67 r11 true)],[2,1050],[],[]⟩
  (Aj 0 (An (jA Xo n 88 [1,1,1,1,1]) (rA 88 [86,23] [.tmp 4] [24])))
theorem SV(n m5:Nat)(one9 other10:Int)(r11:List D)(t46 t47:Int)(p2:D):Xn n (m5+1) one9 other10 r11 t46 t47 p2 =
 bK (t47<t46) (cK 174 [p2.fld 0,D.sl r11,D.int t47,D.int one9] fun Y2 =>
 cK 174 [p2.fld 1,D.sl ((qA Y2).els),D.int t47,D.int other10] fun Y3 =>
 Xn n m5 one9 other10 ((qA Y3).els) t46 (Api .i64 (t47+1)) p2)
 (.ret [D.sl r11]):=by kernel_rfl
theorem Agh(n:Nat)(p0 s1:D):fA Xo n 88 [] [p0,s1] =
 cK 140 [s1,D.int ((p0.fld 2).toInt)] fun Y1 =>
 kK (0≤(p0.fld 2).toInt) (kK ((p0.fld 2).toInt<((((p0.fld 0).fld 0).els).length:Int)) (kK (0≤(p0.fld 2).toInt) (kK ((p0.fld 2).toInt<((((p0.fld 1).fld 0).els).length:Int)) (kK (0≤0) (kK (0≤Api .i64 (((qA Y1).toInt)*(Api .i64 ((Api .i64 ((((((p0.fld 0).fld 0).els).getD (Apj ((p0.fld 2).toInt)) D.nil).toInt)*((qC Y1).toInt)))+(Api .i64 ((((((p0.fld 1).fld 0).els).getD (Apj ((p0.fld 2).toInt)) D.nil).toInt)*((qC Y1).toInt))))))) (kK (Api .i64 (((qA Y1).toInt)*(Api .i64 ((Api .i64 ((((((p0.fld 0).fld 0).els).getD (Apj ((p0.fld 2).toInt)) D.nil).toInt)*((qC Y1).toInt)))+(Api .i64 ((((((p0.fld 1).fld 0).els).getD (Apj ((p0.fld 2).toInt)) D.nil).toInt)*((qC Y1).toInt))))))≤Ak) (Xn n n (Api .i64 ((((((p0.fld 0).fld 0).els).getD (Apj ((p0.fld 2).toInt)) D.nil).toInt)*((qC Y1).toInt))) (Api .i64 ((((((p0.fld 1).fld 0).els).getD (Apj ((p0.fld 2).toInt)) D.nil).toInt)*((qC Y1).toInt))) (Apl (Apj 0) (D.agg [D.int 0,D.int 0,D.agg [D.bool false,D.sl [],D.sl []],D.int 0,D.sl []])) ((qA Y1).toInt) 0 p0))))))):=by kernel_rfl
theorem Agl(n:Nat)(a0 other1:D)(axes2 axis3:D):fA [] n 172 [] [a0,other1,axes2,axis3] =
 kK (0≤0) (kK (0≤axes2.toInt) (kK (axes2.toInt≤Ak) (.br ((((a0.fld 1).els).length:Int)==axes2.toInt) (kK ((Apl (Apj 0) (D.int 0)).length+((a0.fld 1).els).length≤Ak) (.ret [D.agg [D.sl ((Apl (Apj 0) (D.int 0))++((a0.fld 1).els)),a0.fld 2,D.bool false],D.bool true]))
 (.br ((((a0.fld 1).els).length:Int)==0) (.br ((other1.els.length:Int)==0) (kK ((Apl (Apj 0) (D.int 0)).length + [D.int 1].length≤Ak) (.ret [D.agg [D.sl ((Apl (Apj 0) (D.int 0))++[D.int 1]),a0.fld 2,D.bool true],D.bool true]))
 (kK ((Apl (Apj 0) (D.int 0)).length+other1.els.length≤Ak) (kK (0≤axis3.toInt) (kK (axis3.toInt<(((Apl (Apj 0) (D.int 0))++other1.els).length:Int)) (.ret [D.agg [D.sl (((Apl (Apj 0) (D.int 0))++other1.els).set (Apj axis3.toInt) (D.int 1)),a0.fld 2,D.bool true],D.bool true])))))
 (.br ((((a0.fld 1).els).length:Int)==(Api .i64 (axes2.toInt-1))) (kK (0≤axis3.toInt) (kK (axis3.toInt≤(((a0.fld 1).els).length:Int)) (kK ((Apl (Apj 0) (D.int 0)).length+(((a0.fld 1).els).take (Apj axis3.toInt)).length≤Ak) (kK (((Apl (Apj 0) (D.int 0))++(((a0.fld 1).els).take (Apj axis3.toInt))).length + [D.int 1].length≤Ak) (kK (0≤axis3.toInt) (kK (axis3.toInt≤(((a0.fld 1).els).length:Int)) (kK ((((Apl (Apj 0) (D.int 0))++(((a0.fld 1).els).take (Apj axis3.toInt)))++[D.int 1]).length+(((a0.fld 1).els).drop (Apj axis3.toInt)).length≤Ak) (.ret [D.agg [D.sl ((((Apl (Apj 0) (D.int 0))++(((a0.fld 1).els).take (Apj axis3.toInt)))++[D.int 1])++(((a0.fld 1).els).drop (Apj axis3.toInt))),a0.fld 2,D.bool false],D.bool true]))))))))
 (.ret [D.agg [D.sl [],D.sl [],D.bool false],D.bool false])))))):=by kernel_rfl
def Xm:List (Nat×Orc):=[(4,⟨[(1,none),(4,none),(25,none),(26,none)],[(4,true)],[(.slot 1,1040,67)]⟩)]
noncomputable def Xl(n m4:Nat)(r1:List D)(t25 t26:Int)(b4:D):Tree :=
 lA (eA Xm n 174 [1,1,0,1,0,0]) (Al Xm 4) m4 ⟨(.undef:: .row 1040:: .undef:: .undef:: .ptr 4 []::uA 20++(.i .i64 t25:: .i .i64 t26::uA 10)),[(4,.var 84 (.d 84 b4) true),(1040,.row 67 r1 true)],[4,1040],[],[]⟩
  (Aj 0 (An (jA Xm n 174 [1,1,1]) (rA 174 [84,24,3,3] [.tmp 8] [24])))
theorem ST(n m4:Nat)(r1:List D)(t25 t26:Int)(b4:D):Xl n (m4+1) r1 t25 t26 b4 =
 bK (t26<t25) (kK (0≤0) (kK (0<(((b4.fld 1).els).length:Int)) (kK (r1.length + [((b4.fld 1).els).getD (Apj 0) D.nil].length≤Ak) (Xl n m4 (r1++[((b4.fld 1).els).getD (Apj 0) D.nil]) t25 (Api .i64 (t26+1)) b4))))
 (.ret [D.sl r1]):=by kernel_rfl
theorem SU(n:Nat)(b0 r1:D)(i2 nn3:D):fA Xm n 174 [] [b0,r1,i2,nn3] =
 .br (!((b0.fld 2).toBool)) (kK (0≤Api .i64 (i2.toInt*nn3.toInt)) (kK (Api .i64 (i2.toInt*nn3.toInt)≤Api .i64 ((Api .i64 (i2.toInt*nn3.toInt))+nn3.toInt)) (kK (Api .i64 ((Api .i64 (i2.toInt*nn3.toInt))+nn3.toInt)≤(((b0.fld 1).els).length:Int)) (kK (r1.els.length+((((b0.fld 1).els).take (Apj (Api .i64 ((Api .i64 (i2.toInt*nn3.toInt))+nn3.toInt)))).drop (Apj (Api .i64 (i2.toInt*nn3.toInt)))).length≤Ak) (.ret [D.sl (r1.els++((((b0.fld 1).els).take (Apj (Api .i64 ((Api .i64 (i2.toInt*nn3.toInt))+nn3.toInt)))).drop (Apj (Api .i64 (i2.toInt*nn3.toInt)))))])))))
 (Xl n n r1.els nn3.toInt 0 b0):=by kernel_rfl
theorem Abs(l:List Int)(hb:l.length≤6)(hx : ∀ x∈l,0≤x∧x≤2048):Sp 170 [dI l] [.int (A_ l 1)]:=by
 refine Af (l.length+1) (Abt _ _) ?_
 have key:=B3 l (fun m k (p:Int)=>Ua (l.length+1) m p (dI l) (l.length:Int) (k:Int)) (fun rest p=>[.int (A_ rest p)]) (fun _ p=>0≤p∧p≤2048)
  (fun m k p hk hI=>by
   simp only[BT]
   exact Ar (Ac rfl))
  (fun m k p x rest hd hI ih=>by
   obtain ⟨h1,h2,h3⟩:=By hd
   have hxx:=hx x (Apq h2)
   have hp:0≤p*x∧p*x≤4194304:=⟨Int.mul_nonneg hI.1 hxx.1,by have:=Int.mul_le_mul hI.2 hxx.2 hxx.1 (by omega);omega⟩
   simp only[BT,Cf,Apm,Apr,Au h2,Ao,Bh k,Aw (x:=p*x) (by omega) (by omega)]
   repeat (refine Ad ?_)
   simp only[A_]
   refine Ae (fun h=>Ac ?_) (fun h=> ?_)
   · rw[if_pos h]
   · rw[if_neg h];exact ih _ ⟨hp.1,by omega⟩)
  (l.length+1) 0 1 (by omega) (by omega) (by decide)
 simpa using key
def Nn(s:List Int)(x:Int):List D:=if (A8 s).2=0∧0≤x∧x<s.length then [.int (A_ (s.take x.toNat) 1),.int (s.getD x.toNat 0),.int (A_ (s.drop (x.toNat+1)) 1),.bool true] else [.int 0,.int 0,.int 0,.bool false]
theorem LJ(s:List Int)(x:Int):Sp 140 [dI s,.int x] (Nn s x):=by
 refine Af 0 (Am2 _ _ _) (Aa (Oq s) ?_)
 unfold Nn
 simp only[Ah]
 refine Ae (fun h=>Ac (by rw[if_neg (fun hh=>h hh.1)])) (fun h=>Ae (fun h1=>Ac (by rw[if_neg (by omega)])) (fun h1=>Ae (fun h2=>Ac (by rw[if_neg (by omega)])) (fun h2=> ?_)))
 have h0:(A8 s).2=0:=Apw.1 h
 rw[if_pos ⟨h0,by omega,by omega⟩]
 obtain ⟨c1,c2⟩:=Gr h0
 obtain ⟨X,rfl⟩ : ∃ X:Nat,x=(X:Int):=⟨x.toNat,by omega⟩
 simp only[Bh X,Apr,← List.map_take,← List.map_drop,AeE]
 refine Ad (Ad (Aa (Abs (s.take X) (by rw[Ap0];omega) (fun y hy=>c2 y (List.mem_of_mem_take hy))) (Ad (Ad (Ad (Ad (Aa (Abs (s.drop (X+1)) (by rw[Apy];omega) (fun y hy=>c2 y (List.mem_of_mem_drop hy))) (Ac ?_))))))))
 rw[H8 (show X<s.length by omega)]
 simp only[Ah]
def Uw(s:List Int)(x n:Int):List D:=if 0≤x∧x<s.length then [dI (s.set x.toNat n),.bool true] else [.sl [],.bool false]
theorem Abr(s:List Int)(x n:Int)(hs:s.length≤1048576):Sp 173 [dI s,.int x,.int n] (Uw s x n):=by
 refine Af 0 (Am8 _ _ _ _) ?_
 unfold Uw
 simp only[Ah]
 refine Ae (fun h1=>Ac (by rw[if_neg (by omega)])) (fun h1=>Ae (fun h2=>Ac (by rw[if_neg (by omega)])) (fun h2=>Aa (Kc s hs) ?_))
 rw[if_pos ⟨by omega,by omega⟩]
 simp only[Ah]
 refine Ad (Ad (Ac ?_))
 rw[← List.map_set];rfl
def Hb(s:List Int)(cs:List Cell)(al:Bool):D:= .agg [dI s,.sl (cs.map dC),.bool al]
def G4(x y:D)(k:Int):D:= .agg [x,y,.int k]
theorem Agj(s:List Int)(cs r:List Cell)(i n:Int)(h0:0≤i)(h1:0≤n)(h2:i*n+n≤cs.length)(hc:cs.length≤2048)(hr:r.length≤1000000):Sp 174 [Hb s cs false,.sl (r.map dC),.int i,.int n] [.sl ((r++(cs.take (i*n+n).toNat).drop (i*n).toNat).map dC)]:=by
 refine Af 0 (SU _ _ _ _ _) ?_
 have h3:0≤i*n:=Int.mul_nonneg h0 h1
 simp only[Hb,Lh,Li,W2,Ah,Aw (x:=i*n) (by omega) (by omega),Aw (x:=i*n+n) (by omega) (by omega),← List.map_take,← List.map_drop]
 refine Bi rfl (Ad (Ad (Ad (Ay ?_ (Ac ?_)))))
 · simp only[Apy,Ap0,Ak];omega
 · rw[← List.map_append]
theorem AnV(n:Nat)(k0 a1 first2:D):fA [] n 37 [] [k0,a1,first2] =
 cK 80 [k0] fun Y1 =>
 .br (((qB Y1).toInt)!=0) (.ret [D.agg [D.int 0,D.sl [],D.sl []],D.int ((qB Y1).toInt)])
 (.br ((((qA Y1).els).length:Int)!=1) (.ret [D.agg [D.int 0,D.sl [],D.sl []],D.int 4])
 (cK 84 [k0] fun Y2 =>
 cK 90 [a1,D.int ((qA Y2).toInt)] fun Y3 =>
 cK 91 [a1,D.bool first2.toBool] fun Y4 =>
 .br (!((qB Y4).toBool)) (.ret [qA Y3,D.int 0])
 (kK (0≤(qA Y4).toInt) (kK ((qA Y4).toInt<(((a1.fld 1).els).length:Int)) (.br (((((a1.fld 1).els).getD (Apj ((qA Y4).toInt)) D.nil).toInt)==0) (.ret [qA Y3,D.int 0])
 (kK (0≤(qA Y4).toInt) (kK ((qA Y4).toInt<(((a1.fld 1).els).length:Int)) (kK (0≤0) (kK (0<(((qA Y1).els).length:Int)) (.br (!(((((a1.fld 1).els).getD (Apj ((qA Y4).toInt)) D.nil).toInt)==(0:Int))) (.br (!(((((a1.fld 1).els).getD (Apj ((qA Y4).toInt)) D.nil).toInt)==(0:Int))) (cK 92 [qA Y3,a1.fld 1,D.fn 93 [.ref 3,.ref 3,.ref 3] [D.ref (D.int ((qA Y4).toInt)),D.ref (D.int (Int.tmod (Api .i64 ((Int.tmod ((((qA Y1).els).getD (Apj 0) D.nil).toInt) ((((a1.fld 1).els).getD (Apj ((qA Y4).toInt)) D.nil).toInt))+((((a1.fld 1).els).getD (Apj ((qA Y4).toInt)) D.nil).toInt))) ((((a1.fld 1).els).getD (Apj ((qA Y4).toInt)) D.nil).toInt))),D.ref (D.int ((((a1.fld 1).els).getD (Apj ((qA Y4).toInt)) D.nil).toInt))]] fun Y5 =>
 .ret [qA Y5,D.int 0]) .fail) .fail)))))))))):=by kernel_rfl
def Ow:List (Nat×Orc):=[(9,⟨[(2,none),(3,none),(4,none),(5,none),(6,none),(7,none),(32,none),(33,none)],[(2,true),(3,true),(4,false),(5,false),(6,true)],[(.slot 7,1090,3)]⟩),(14,⟨[(2,none),(3,none),(4,none),(5,none),(6,none),(7,none),(40,some 23),(41,none),(42,none)],[(2,true),(3,true),(4,false),(5,false),(6,true)],[(.slot 7,1140,3)]⟩)]
def Ach:List ResultVar:=[.cell 4 26,.cell 5 29]
noncomputable def DB(n m14:Nat)(s7:List D)(t40:D)(t41 t42:Int)(p2 a3:D)(r4_0 e5:Int)(l6:D):Tree :=
 lA (eA Ow n 38 [1,1,1,1,1,1,1,0,1,0,0]) (Al Ow 14) m14 ⟨(.undef:: .undef:: .ptr 2 []:: .ptr 3 []:: .ptr 4 []:: .ptr 5 []:: .ptr 6 []:: .row 1140::uA 32++(.d 23 t40:: .i .i64 t41:: .i .i64 t42::uA 38)),[(2,.var 26 (.d 26 p2) true),(3,.var 26 (.d 26 a3) true),(4,.var 26 (.agg 26 [.i .u64 r4_0,.mt,.mt]) true),(5,.var 29 (.i .i64 e5) true),(6,.var 23 (.d 23 l6) true),(1140,.row 3 s7 true)],[2,3,4,5,6,1140],[(94,[.ptr 4 [],.ptr 5 []])],[]⟩
  (Aj 2 (An (jA Ow n 38 [1,1,1,1,1,1,1,1]) (rA 38 [26,26] Ach [26,29])))
noncomputable def DC(n m9:Nat)(s7:List D)(t32 t33:Int)(p2 a3:D)(r4_0 e5:Int)(l6:D):Tree :=
 lA (eA Ow n 38 [1,1,1,1,1,1,0,1,0,0]) (Al Ow 9) m9 ⟨(.undef:: .undef:: .ptr 2 []:: .ptr 3 []:: .ptr 4 []:: .ptr 5 []:: .ptr 6 []:: .row 1090::uA 24++(.i .i64 t32:: .i .i64 t33::uA 47)),[(2,.var 26 (.d 26 p2) true),(3,.var 26 (.d 26 a3) true),(4,.var 26 (.agg 26 [.i .u64 r4_0,.mt,.mt]) true),(5,.var 29 (.i .i64 e5) true),(6,.var 23 (.d 23 l6) true),(1090,.row 3 s7 true)],[2,3,4,5,6,1090],[(94,[.ptr 4 [],.ptr 5 []])],[]⟩
  (Aj 0 (An (jA Ow n 38 [1,1,1,1,1,1,1]) (rA 38 [26,26] Ach [26,29])))
theorem Acf(n m14:Nat)(s7:List D)(t40:D)(t41 t42:Int)(p2 a3:D)(r4_0 e5:Int)(l6:D):DB n (m14+1) s7 t40 t41 t42 p2 a3 r4_0 e5 l6 =
 bK (t42<t41) (kK (0≤t42) (kK (t42<(t40.els.length:Int)) (bK (((t40.els.getD (Apj t42) D.nil).toInt)<1) (.ret [D.agg [D.int 0,D.sl [],D.sl []],D.int 3])
 (bK ((l6.els.length:Int)<((t40.els.getD (Apj t42) D.nil).toInt)) (.ret [D.agg [D.int 0,D.sl [],D.sl []],D.int 3])
 (kK (0≤Api .i64 (((t40.els.getD (Apj t42) D.nil).toInt)-1)) (kK (Api .i64 (((t40.els.getD (Apj t42) D.nil).toInt)-1)<(s7.length:Int)) (bK (0≤((s7.getD (Apj (Api .i64 (((t40.els.getD (Apj t42) D.nil).toInt)-1))) D.nil).toInt)) (.ret [D.agg [D.int 0,D.sl [],D.sl []],D.int 3])
 (kK (0≤t42) (kK (t42<(((a3.fld 1).els).length:Int)) (kK (0≤Api .i64 (((t40.els.getD (Apj t42) D.nil).toInt)-1)) (kK (Api .i64 (((t40.els.getD (Apj t42) D.nil).toInt)-1)<(s7.length:Int)) (DB n m14 (s7.set (Apj (Api .i64 (((t40.els.getD (Apj t42) D.nil).toInt)-1))) (D.int ((((a3.fld 1).els).getD (Apj t42) D.nil).toInt))) t40 t41 (Api .i64 (t42+1)) p2 a3 r4_0 e5 l6))))))))))))
 (cK 84 [p2] fun Y2 =>
 cK 90 [a3,D.int ((qA Y2).toInt)] fun Y3 =>
 cK 92 [qA Y3,D.sl s7,D.fn 95 [.ref 23] [D.ref l6]] fun Y4 =>
 .ret [qA Y4,D.int 0]):=by kernel_rfl
theorem Acg(n m9:Nat)(s7:List D)(t32 t33:Int)(p2 a3:D)(r4_0 e5:Int)(l6:D):DC n (m9+1) s7 t32 t33 p2 a3 r4_0 e5 l6 =
 bK (t33<t32) (kK (0≤t33) (kK (t33<(s7.length:Int)) (DC n m9 (s7.set (Apj t33) (D.int (-1))) t32 (Api .i64 (t33+1)) p2 a3 r4_0 e5 l6)))
 (DB n n s7 l6 (l6.els.length:Int) 0 p2 a3 r4_0 e5 l6):=by kernel_rfl
theorem AnR(n:Nat)(p0 a1:D):fA Ow n 38 [] [p0,a1] =
 cK 80 [p0] fun Y1 =>
 .br (((qB Y1).toInt)!=0) (.ret [D.agg [D.int 0,D.sl [],D.sl []],D.int ((qB Y1).toInt)])
 (.br ((((qA Y1).els).length:Int)!=(((a1.fld 1).els).length:Int)) (.ret [D.agg [D.int 0,D.sl [],D.sl []],D.int 4])
 (kK (0≤(((qA Y1).els).length:Int)) (kK ((((qA Y1).els).length:Int)≤(((qA Y1).els).length:Int)) (kK ((((qA Y1).els).length:Int)≤Ak) (DC n n (Apl (Apj (((qA Y1).els).length:Int)) (D.int 0)) ((Apl (Apj (((qA Y1).els).length:Int)) (D.int 0)).length:Int) 0 p0 a1 0 ((qB Y1).toInt) (qA Y1)))))):=by kernel_rfl
theorem AnT(n:Nat)(a0 first1:D):fA [] n 59 [] [a0,first1] =
 cK 91 [a0,D.bool first1.toBool] fun Y1 =>
 .br (!((qB Y1).toBool)) (.ret [a0])
 (kK (0≤(qA Y1).toInt) (kK ((qA Y1).toInt<(((a0.fld 1).els).length:Int)) (cK 92 [a0,a0.fld 1,D.fn 142 [.ref 3,.ref 3] [D.ref (D.int ((((a0.fld 1).els).getD (Apj ((qA Y1).toInt)) D.nil).toInt)),D.ref (D.int ((qA Y1).toInt))]] fun Y2 =>
 .ret [qA Y2]))):=by kernel_rfl
theorem AnY(n:Nat)(a0:D):fA [] n 60 [] [a0] =
 cK 96 [a0.fld 1] fun Y1 =>
 cK 144 [D.sl ((qA Y1).els)] fun Y2 =>
 cK 92 [a0,D.sl ((qA Y2).els),D.fn 145 [] []] fun Y3 =>
 .ret [qA Y3]:=by kernel_rfl
theorem AnZ(n:Nat)(a0 first1:D):fA [] n 91 [] [a0,first1] =
 .br ((((a0.fld 1).els).length:Int)==0) (.ret [D.int 0,D.bool false])
 (.br first1.toBool (.ret [D.int 0,D.bool true])
 (.ret [D.int (Api .i64 ((((a0.fld 1).els).length:Int)-1)),D.bool true])):=by kernel_rfl
def Ox:List (Nat×Orc):=[(3,⟨[(1,some 23),(2,some 94),(3,none),(6,none),(7,none),(19,none),(20,none)],[(3,true),(6,false)],[(.slot 7,1030,67)]⟩)]
noncomputable def Gm(n m3:Nat)(s1 from2:D)(cells7:List D)(t19 t20:Int)(a3:D)(t6_0:Int):Tree :=
 lA (eA Ox n 92 [1,1,0,1,0,0]) (Al Ox 3) m3 ⟨(.undef:: .d 23 s1:: .d 94 from2:: .ptr 3 []:: .undef:: .undef:: .ptr 6 []:: .row 1030::uA 11++(.i .i64 t19:: .i .i64 t20::uA 33)),[(3,.var 26 (.d 26 a3) true),(6,.var 26 (.agg 26 [.i .u64 t6_0,.mt,.mt]) true),(1030,.row 67 cells7 true)],[3,6,1030],[],[]⟩
  (Aj 0 (An (jA Ox n 92 [1,1,1]) (rA 92 [26,23,94] [.cell 6 26] [26])))
theorem Aoc(n m3:Nat)(s1 from2_c0:D)(from2_c1 from2_c2:D)(cells7:List D)(t19 t20:Int)(a3:D)(t6_0:Int):Gm n (m3+1) s1 (D.fn 93 [.ref 3,.ref 3,.ref 3] [from2_c0,from2_c1,from2_c2]) cells7 t19 t20 a3 t6_0 =
 bK (t20<t19) (cK 175 [s1,D.int t20] fun Y1 =>
 .call (D.fn 93 [.ref 3,.ref 3,.ref 3] [from2_c0,from2_c1,from2_c2]).fnId (D.fn 93 [.ref 3,.ref 3,.ref 3] [from2_c0,from2_c1,from2_c2]).fnCts ([D.sl ((qA Y1).els)]++(D.fn 93 [.ref 3,.ref 3,.ref 3] [from2_c0,from2_c1,from2_c2]).fnDs) fun Y2 =>
 cK 176 [a3.fld 1,D.sl ((qA Y2).els)] fun Y3 =>
 kK (0≤(qA Y3).toInt) (kK ((qA Y3).toInt<(((a3.fld 2).els).length:Int)) (kK (cells7.length + [((a3.fld 2).els).getD (Apj ((qA Y3).toInt)) D.nil].length≤Ak) (Gm n m3 s1 (D.fn 93 [.ref 3,.ref 3,.ref 3] [from2_c0,from2_c1,from2_c2]) (cells7++[((a3.fld 2).els).getD (Apj ((qA Y3).toInt)) D.nil]) t19 (Api .i64 (t20+1)) a3 t6_0))))
 (cK 96 [s1] fun Y4 =>
 .ret [D.agg [D.int ((a3.fld 0).toInt),D.sl ((qA Y4).els),D.sl cells7]]):=by kernel_rfl
theorem Aoa(n m3:Nat)(s1 from2_c0:D)(cells7:List D)(t19 t20:Int)(a3:D)(t6_0:Int):Gm n (m3+1) s1 (D.fn 95 [.ref 23] [from2_c0]) cells7 t19 t20 a3 t6_0 =
 bK (t20<t19) (cK 175 [s1,D.int t20] fun Y1 =>
 .call (D.fn 95 [.ref 23] [from2_c0]).fnId (D.fn 95 [.ref 23] [from2_c0]).fnCts ([D.sl ((qA Y1).els)]++(D.fn 95 [.ref 23] [from2_c0]).fnDs) fun Y2 =>
 cK 176 [a3.fld 1,D.sl ((qA Y2).els)] fun Y3 =>
 kK (0≤(qA Y3).toInt) (kK ((qA Y3).toInt<(((a3.fld 2).els).length:Int)) (kK (cells7.length + [((a3.fld 2).els).getD (Apj ((qA Y3).toInt)) D.nil].length≤Ak) (Gm n m3 s1 (D.fn 95 [.ref 23] [from2_c0]) (cells7++[((a3.fld 2).els).getD (Apj ((qA Y3).toInt)) D.nil]) t19 (Api .i64 (t20+1)) a3 t6_0))))
 (cK 96 [s1] fun Y4 =>
 .ret [D.agg [D.int ((a3.fld 0).toInt),D.sl ((qA Y4).els),D.sl cells7]]):=by kernel_rfl
theorem Aob(n m3:Nat)(s1 from2_c0 from2_c1:D)(cells7:List D)(t19 t20:Int)(a3:D)(t6_0:Int):Gm n (m3+1) s1 (D.fn 142 [.ref 3,.ref 3] [from2_c0,from2_c1]) cells7 t19 t20 a3 t6_0 =
 bK (t20<t19) (cK 175 [s1,D.int t20] fun Y1 =>
 .call (D.fn 142 [.ref 3,.ref 3] [from2_c0,from2_c1]).fnId (D.fn 142 [.ref 3,.ref 3] [from2_c0,from2_c1]).fnCts ([D.sl ((qA Y1).els)]++(D.fn 142 [.ref 3,.ref 3] [from2_c0,from2_c1]).fnDs) fun Y2 =>
 cK 176 [a3.fld 1,D.sl ((qA Y2).els)] fun Y3 =>
 kK (0≤(qA Y3).toInt) (kK ((qA Y3).toInt<(((a3.fld 2).els).length:Int)) (kK (cells7.length + [((a3.fld 2).els).getD (Apj ((qA Y3).toInt)) D.nil].length≤Ak) (Gm n m3 s1 (D.fn 142 [.ref 3,.ref 3] [from2_c0,from2_c1]) (cells7++[((a3.fld 2).els).getD (Apj ((qA Y3).toInt)) D.nil]) t19 (Api .i64 (t20+1)) a3 t6_0))))
 (cK 96 [s1] fun Y4 =>
 .ret [D.agg [D.int ((a3.fld 0).toInt),D.sl ((qA Y4).els),D.sl cells7]]):=by kernel_rfl
theorem Aod(n m3:Nat)(s1:D)(cells7:List D)(t19 t20:Int)(a3:D)(t6_0:Int):Gm n (m3+1) s1 (D.fn 145 [] []) cells7 t19 t20 a3 t6_0 =
 bK (t20<t19) (cK 175 [s1,D.int t20] fun Y1 =>
 .call (D.fn 145 [] []).fnId (D.fn 145 [] []).fnCts ([D.sl ((qA Y1).els)]++(D.fn 145 [] []).fnDs) fun Y2 =>
 cK 176 [a3.fld 1,D.sl ((qA Y2).els)] fun Y3 =>
 kK (0≤(qA Y3).toInt) (kK ((qA Y3).toInt<(((a3.fld 2).els).length:Int)) (kK (cells7.length + [((a3.fld 2).els).getD (Apj ((qA Y3).toInt)) D.nil].length≤Ak) (Gm n m3 s1 (D.fn 145 [] []) (cells7++[((a3.fld 2).els).getD (Apj ((qA Y3).toInt)) D.nil]) t19 (Api .i64 (t20+1)) a3 t6_0))))
 (cK 96 [s1] fun Y4 =>
 .ret [D.agg [D.int ((a3.fld 0).toInt),D.sl ((qA Y4).els),D.sl cells7]]):=by kernel_rfl
theorem Aog(n:Nat)(a0 s1:D)(from2_c0 from2_c1 from2_c2:D):fA Ox n 92 [] [a0,s1,(D.fn 93 [.ref 3,.ref 3,.ref 3] [from2_c0,from2_c1,from2_c2])] =
 kK (0≤0) (kK (0≤(((a0.fld 2).els).length:Int)) (kK ((((a0.fld 2).els).length:Int)≤Ak) (Gm n n s1 (D.fn 93 [.ref 3,.ref 3,.ref 3] [from2_c0,from2_c1,from2_c2]) (Apl (Apj 0) (D.agg [D.int 0,D.int 0,D.agg [D.bool false,D.sl [],D.sl []],D.int 0,D.sl []])) (((a0.fld 2).els).length:Int) 0 a0 0))):=by kernel_rfl
theorem Aoe(n:Nat)(a0 s1 from2_c0:D):fA Ox n 92 [] [a0,s1,(D.fn 95 [.ref 23] [from2_c0])] =
 kK (0≤0) (kK (0≤(((a0.fld 2).els).length:Int)) (kK ((((a0.fld 2).els).length:Int)≤Ak) (Gm n n s1 (D.fn 95 [.ref 23] [from2_c0]) (Apl (Apj 0) (D.agg [D.int 0,D.int 0,D.agg [D.bool false,D.sl [],D.sl []],D.int 0,D.sl []])) (((a0.fld 2).els).length:Int) 0 a0 0))):=by kernel_rfl
theorem Aof(n:Nat)(a0 s1:D)(from2_c0 from2_c1:D):fA Ox n 92 [] [a0,s1,(D.fn 142 [.ref 3,.ref 3] [from2_c0,from2_c1])] =
 kK (0≤0) (kK (0≤(((a0.fld 2).els).length:Int)) (kK ((((a0.fld 2).els).length:Int)≤Ak) (Gm n n s1 (D.fn 142 [.ref 3,.ref 3] [from2_c0,from2_c1]) (Apl (Apj 0) (D.agg [D.int 0,D.int 0,D.agg [D.bool false,D.sl [],D.sl []],D.int 0,D.sl []])) (((a0.fld 2).els).length:Int) 0 a0 0))):=by kernel_rfl
theorem Aoh(n:Nat)(a0 s1:D):fA Ox n 92 [] [a0,s1,(D.fn 145 [] [])] =
 kK (0≤0) (kK (0≤(((a0.fld 2).els).length:Int)) (kK ((((a0.fld 2).els).length:Int)≤Ak) (Gm n n s1 (D.fn 145 [] []) (Apl (Apj 0) (D.agg [D.int 0,D.int 0,D.agg [D.bool false,D.sl [],D.sl []],D.int 0,D.sl []])) (((a0.fld 2).els).length:Int) 0 a0 0))):=by kernel_rfl
theorem AnU(n:Nat)(at0 c1:D)(c2 c3:D):fA [] n 93 [.ref 3,.ref 3,.ref 3] [at0,c1,c2,c3] =
 kK (0≤c1.unref.toInt) (kK (c1.unref.toInt<(at0.els.length:Int)) (.br (!(c3.unref.toInt == (0:Int))) (kK (0≤c1.unref.toInt) (kK (c1.unref.toInt<(at0.els.length:Int)) (.ret [D.sl (at0.els.set (Apj c1.unref.toInt) (D.int (Int.tmod (Api .i64 (((at0.els.getD (Apj c1.unref.toInt) D.nil).toInt)+c2.unref.toInt)) c3.unref.toInt)))]))) .fail)):=by kernel_rfl
def MD:List (Nat×Orc):=[(2,⟨[(0,none),(3,none),(8,some 23),(9,none),(10,none)],[],[(.slot 0,0,3),(.slot 3,1021,3)]⟩)]
noncomputable def DA(n m2:Nat)(at0 old3:List D)(t8:D)(t9 t10:Int):Tree :=
 lA (eA MD n 95 [1,1,0,0]) (Al MD 2) m2 ⟨(.row 0:: .undef:: .undef:: .row 1021::uA 4++(.d 23 t8:: .i .i64 t9:: .i .i64 t10::uA 13)),[(0,.row 3 at0 true),(1021,.row 3 old3 true)],[0,1021],[],[0]⟩
  (Aj 0 (rA 95 [23] [] []))
theorem Ace(n m2:Nat)(at0 old3:List D)(t8:D)(t9 t10:Int):DA n (m2+1) at0 old3 t8 t9 t10 =
 bK (t10<t9) (kK (0≤t10) (kK (t10<(t8.els.length:Int)) (kK (0≤Api .i64 (((t8.els.getD (Apj t10) D.nil).toInt)-1)) (kK (Api .i64 (((t8.els.getD (Apj t10) D.nil).toInt)-1)<(old3.length:Int)) (kK (0≤t10) (kK (t10<(at0.length:Int)) (DA n m2 (at0.set (Apj t10) (D.int ((old3.getD (Apj (Api .i64 (((t8.els.getD (Apj t10) D.nil).toInt)-1))) D.nil).toInt))) old3 t8 t9 (Api .i64 (t10+1)))))))))
 (.ret [D.sl at0]):=by kernel_rfl
theorem AnP(n:Nat)(at0 c1:D):fA MD n 95 [.ref 23] [at0,c1] =
 cK 96 [D.sl at0.els] fun Y1 =>
 DA n n at0.els ((qA Y1).els) c1.unref (c1.unref.els.length:Int) 0:=by kernel_rfl
theorem AnS(n:Nat)(at0 c1 c2:D):fA [] n 142 [.ref 3,.ref 3] [at0,c1,c2] =
 kK (0≤c2.unref.toInt) (kK (c2.unref.toInt<(at0.els.length:Int)) (kK (0≤c2.unref.toInt) (kK (c2.unref.toInt<(at0.els.length:Int)) (.ret [D.sl (at0.els.set (Apj c2.unref.toInt) (D.int (Api .i64 ((Api .i64 (c1.unref.toInt-1))-((at0.els.getD (Apj c2.unref.toInt) D.nil).toInt)))))])))):=by kernel_rfl
theorem AnW(n:Nat)(at0:D):fA [] n 145 [] [at0] =
 cK 144 [D.sl at0.els] fun Y1 =>
 .ret [D.sl ((qA Y1).els)]:=by kernel_rfl
theorem Tg{α:Type}(pre:List α)(a b:α)(r:List α):(pre++a::r).set pre.length b=pre++b::r:=by
 rw[List.set_append_right _ _ (Apx _),Nat.sub_self];rfl
theorem NZ{α:Type}(pre:List α)(a:α)(r:List α):(pre++a::r)[pre.length]? = some a:=by
 rw[Aqn (Apx _),Nat.sub_self];rfl
theorem Aa0(n:Nat) : ∀ (m:Nat) (A M B:List Int),M.length<2*m→A.length+M.length+B.length≤1000000 →
  Tw (CI n m ((A++M++B).map D.int) (A.length:Int) (((A.length+M.length:Nat):Int)-1)) [dI (A++M.reverse++B)]
 | 0,A,M,B,h,_=>absurd h (by omega)
 | m+1,A,M,B,h,hl=>by
  rw[AmY]
  by_cases h2:2≤M.length
  · obtain ⟨x,M',y,rfl⟩ : ∃ x M' y,M=x::(M'++[y]):=by
     match M,h2 with
     | x::R,h2 =>
      rcases List.eq_nil_or_concat R with rfl | ⟨M',y,rfl⟩
      · simp at h2
      · exact ⟨x,M',y,by simp⟩
    simp only[App,Apu,Ap1]at h hl
    have e1:A++x::(M'++[y])++B=A++x::(M'++y::B):=by simp
    have e2:A++x::(M'++[y])++B=(A++x::M')++y::B:=by simp
    have e3:A++y::(M'++y::B)=(A++y::M')++y::B:=by simp
    have l3:A.length+M'.length+1=(A++y::M').length:=by simp;omega
    have h1:(A++x::(M'++[y])++B)[A.length]? = some x:=by rw[e1];exact NZ A x _
    have h3:(A++x::(M'++[y])++B)[A.length+M'.length+1]? = some y:=by
     rw[e2,show A.length+M'.length+1=(A++x::M').length by simp;omega];exact NZ _ y _
    have hj:((A.length+(x::(M'++[y])).length:Nat):Int)-1=((A.length+M'.length+1:Nat):Int):=by simp;omega
    have hlen:(A++x::(M'++[y])++B).length=A.length+M'.length+2+B.length:=by simp;omega
    have hw:Api .i64 (((A.length+M'.length+1:Nat):Int)-1)=(((A++[y]).length+M'.length:Nat):Int)-1:=by rw[Aw (by omega) (by omega)];simp;omega
    have hw2:((A.length+1:Nat):Int)=((A++[y]).length:Int):=by simp
    simp only[hj,Apr,Au h1,Au h3,Ao,Apm,List.length_set,hlen]
    refine Ad (Ad (Ad (Ad (Ad (Ad (Ad (Ad (Ad ?_))))))))
    rw[hw,Ey (by omega),hw2,← List.map_set,← List.map_set]
    have e4:((A++x::(M'++[y])++B).set A.length y).set (A.length+M'.length+1) x=(A++[y])++M'++(x::B):=by
     rw[e1,Tg,e3,l3,Tg];simp
    rw[e4]
    have:=Aa0 n m (A++[y]) M' (x::B) (by omega) (by simp;omega)
    simpa using this
  · refine Ar (Ac ?_)
    have:M.reverse=M:=by
     match M,h2 with
     | [],_=>rfl
     | [x],_=>rfl
     | x::y::r,h2=>exact absurd (by simp) h2
    rw[this];rfl
theorem Aa2(l:List Int)(h:l.length≤1000000):Sp 144 [dI l] [dI l.reverse]:=by
 refine Af (l.length+1) (AmZ _ _) ?_
 simp only[Cf,Apm]
 rw[MQ (by omega)]
 simpa using Aa0 (l.length+1) (l.length+1) [] l [] (by omega) (by simpa using h)
def Fj(s:List Int)(i:Int):List Int:=if (A8 s).2=0∧0≤i∧i<(A8 s).1 then J_ s i else []
theorem Adz(s:List Int)(i:Int):(qA (O7 s i)).els=(Fj s i).map D.int:=by
 unfold O7 Fj
 split <;> rfl
theorem Ad0(s:List Int)(i:Int):(Fj s i).length≤s.length:=by
 unfold Fj
 split
 · rw[O8];exact Apx _
 · simp
theorem AfG(o:Option Int):(qA (Sn o)).toInt=o.getD 0:=by cases o <;> rfl
def Qc(a:Arr)(s:List Int)(g:List Int→List Int)(i:Nat):Cell:=a.cells.getD ((H_ a.shape (g (Fj s (i:Int)))).getD 0).toNat (Bf 0)
def Gg(a:Arr)(s:List Int)(g:List Int→List Int):Arr:= .mk a.s s ((Aqj a.cells.length).map (Qc a s g))
theorem X5(F:D)(g:List Int→List Int)(a:Arr)(s:List Int)(ha:A8 a.shape=((a.cells.length:Int),0))(hs:s.length≤1000)
  (hF : ∀ (n m3:Nat) (s1:D) (cells7:List D) (t19:Int) (t20:Int) (a3:D) (t6_0:Int),Gm n (m3+1) s1 F cells7 t19 t20 a3 t6_0 =
   .br (decide (t20<t19)) (.call 175 [] [s1,D.int t20] fun Y1 =>
   .call F.fnId F.fnCts ([D.sl ((qA Y1).els)]++F.fnDs) fun Y2 =>
   .call 176 [] [a3.fld 1,D.sl ((qA Y2).els)] fun Y3 =>
   .br (decide (0≤(qA Y3).toInt)) (.br (decide ((qA Y3).toInt<(((a3.fld 2).els).length:Int))) (.br (decide (cells7.length + [((a3.fld 2).els).getD (Apj ((qA Y3).toInt)) D.nil].length≤Ak)) (Gm n m3 s1 F (cells7++[((a3.fld 2).els).getD (Apj ((qA Y3).toInt)) D.nil]) t19 (Api .i64 (t20+1)) a3 t6_0) .fail) .fail) .fail)
   (.call 96 [] [s1] fun Y4 =>
   .ret [D.agg [D.int ((a3.fld 0).toInt),D.sl ((qA Y4).els),D.sl cells7]]))
  (hg : ∀ i:Nat,i<a.cells.length→Ec Tryz.prog md F.fnId F.fnCts (dI (Fj s (i:Int))::F.fnDs) [dI (g (Fj s (i:Int)))]∧(g (Fj s (i:Int))).length≤1000000) :
  Tw (Gm 4096 4096 (dI s) F [] (a.cells.length:Int) 0 (dA a) 0) [dA (Gg a s g)]:=by
 have hle:=(Fz a.shape).2
 rw[ha]at hle
 have hK:a.cells.length≤2048:=by simp only at hle;omega
 have key:=Di a.cells.length (fun m k (_:Unit)=>Gm 4096 m (dI s) F (((Aqj k).map (Qc a s g)).map dC) (a.cells.length:Int) (k:Int) (dA a) 0) (fun _ _=>[dA (Gg a s g)]) (fun _ _=>True)
  (fun m _ _=>by
    rw[hF]
    refine Ar (Aa (Kc s (by omega)) (Ac ?_))
    simp only[Ah]
    rw[Gg,D4];rfl)
  (fun m k _ hk _ ih=>by
    rw[hF]
    refine Ad (Aa (Abo s (k:Int)) ?_)
    obtain ⟨h1,h2⟩:=hg k hk
    simp only[Adz,List.singleton_append]
    refine Aa h1 ?_
    simp only[Ah]
    refine Aa (Abq a.shape _ h2) ?_
    have hb:0≤(H_ a.shape (g (Fj s (k:Int)))).getD 0∧(H_ a.shape (g (Fj s (k:Int)))).getD 0<(a.cells.length:Int):=by
     cases hi:H_ a.shape (g (Fj s (k:Int))) with
     | none=>exact ⟨by decide,by show (0:Int)<_;omega⟩
     | some j=>exact SE ha hi
    have hc:Qc a s g k=a.cells.getD ((H_ a.shape (g (Fj s (k:Int)))).getD 0).toNat (Bf 0):=rfl
    simp only[AfG]
    generalize (H_ a.shape (g (Fj s (k:Int)))).getD 0=z at hb hc
    obtain ⟨J,rfl⟩ : ∃ J:Nat,z=(J:Int):=⟨z.toNat,by omega⟩
    have hcj:(a.cells.map dC).getD J D.nil=dC (a.cells.getD J (Bf 0)):=by
     rw[Au (Apk (by omega)),Apn,Apk (by omega)];rfl
    simp only[Apr]at hc ⊢
    rw[hcj,← hc,Ey (by omega)]
    refine Ad (Ad (Ay (by simp only[Apm,List.length_range,App,Ap1,Ak];omega) ?_))
    have:=ih () trivial
    rw[List.range_succ,List.map_append,List.map_append]at this
    exact this)
  4096 0 () (by omega) (by omega) trivial
 simpa using key
theorem NH(a:Arr)(first:Bool)(ha:a.shape.length≤1000):Sp 91 [dA a,.bool first] [.int (if a.shape.length=0∨first then 0 else (a.shape.length:Int)-1),.bool (decide (a.shape.length≠0))]:=by
 refine Af 0 (AnZ _ _ _) ?_
 simp only[Ah]
 refine Ae (fun h=>Ac ?_) (fun h=>Cl (fun hf=>Ac ?_) (fun hf=>Ac ?_))
 · rw[if_pos (.inl (by omega))];simp[show a.shape.length=0 by omega]
 · rw[if_pos (.inr hf)];simp[show ¬ a.shape.length=0 by omega]
 · rw[if_neg (by rintro (q | q);exact absurd q (by omega);rw[hf]at q;cases q),Aw (by omega) (by omega)];simp[show ¬ a.shape.length=0 by omega]
def Ep(a:Arr)(first:Bool):Nat:=if first then 0 else a.shape.length-1
theorem NF{a:Arr}{first:Bool}(h:a.shape.length≠0):Ep a first<a.shape.length:=by unfold Ep;split <;> omega
theorem NE{a:Arr}{first:Bool}(h:a.shape.length≠0):(if a.shape.length=0∨first then 0 else (a.shape.length:Int)-1)=((Ep a first:Nat):Int):=by
 unfold Ep
 cases first with
 | true=>simp
 | false=>rw[if_neg (by simpa using h)];simp;omega
theorem EI{s:List Int}{i:Nat}{c:Int}(h:A8 s=(c,0))(hi:(i:Int)<c):(Fj s (i:Int)).length=s.length:=by
 unfold Fj
 rw[if_pos ⟨by rw[h],by omega,by rw[h];exact hi⟩,O8]
def KR(x:Nat)(n:Int)(at_:List Int):List Int:=at_.set x (Api .i64 (Api .i64 (n-1)-at_.getD x 0))
def Lu(a:Arr)(first:Bool):Arr:=if a.shape.length=0 then a else Gg a a.shape (KR (Ep a first) (a.shape.getD (Ep a first) 0))
theorem Aci(a:Arr)(first:Bool)(ha:A8 a.shape=((a.cells.length:Int),0)):Sp 59 [dA a,.bool first] [dA (Lu a first)]:=by
 have hl:=(Ke ha).1
 refine Af 0 (AnT _ _ _) ?_
 simp only[Bc]
 refine Aa (NH a first (by omega)) ?_
 simp only[Ah]
 unfold Lu
 refine Ae (fun h=> ?_) (fun h=> ?_)
 · rw[if_pos (Apw.1 h)];exact Ac rfl
 · have h0:=Apw.1 h
   have hx:=NF (first:=first) h0
   rw[if_neg h0,NE h0]
   simp only[Apr,H8 hx]
   refine Ad (Ad (Aa (?_:Sp _ _ [dA (Gg a a.shape (KR (Ep a first) (a.shape.getD (Ep a first) 0)))]) (Ac rfl)))
   refine Af 4096 (Aof _ _ _ _ _) ?_
   have hle:=(Fz a.shape).2
   rw[ha]at hle
   simp only[Ah]
   refine Ad (Ad (Ay (by simp only[Ak]at *; omega) ?_))
   refine X5 _ _ a a.shape ha (by omega) (fun n m3 s1 c t19 t20 a3 t6=>Aob n m3 s1 _ _ c t19 t20 a3 t6) (fun i hi=> ?_)
   have hat:=EI ha (i:=i) (by omega)
   refine ⟨?_,by unfold KR;rw[List.length_set,hat];omega⟩
   refine Af 0 (AnS _ _ _ _) ?_
   simp only[D.unref,Ah,hat,H8 (show Ep a first<(Fj a.shape (i:Int)).length by omega)]
   refine Ad (Ad (Ad (Ad (Ac ?_))))
   rw[← List.map_set];rfl
def KX(x:Nat)(by_ n:Int)(at_:List Int):List Int:=at_.set x (Int.tmod (Api .i64 (at_.getD x 0+by_)) n)
def Hr(k a:Arr)(first:Bool):Arr×Int:=if (A9 k).2≠0 then (.none,(A9 k).2) else if (A9 k).1.length≠1 then (.none,4) else
 if a.shape.length=0∨a.shape.getD (Ep a first) 0=0 then (Cw a (Az k),0) else
 (Gg (Cw a (Az k)) a.shape (KX (Ep a first) (Int.tmod (Api .i64 (Int.tmod ((A9 k).1.getD 0 0) (a.shape.getD (Ep a first) 0)+a.shape.getD (Ep a first) 0)) (a.shape.getD (Ep a first) 0)) (a.shape.getD (Ep a first) 0)),0)
theorem Acj(k a:Arr)(first:Bool)(hk:Fits k)(hkl:k.cells.length≤2048)(hkt : ∀ c∈k.cells,c.n.top.length≤32)(ha:A8 a.shape=((a.cells.length:Int),0)):Sp 37 [dA k,dA a,.bool first] [dA (Hr k a first).1,.int (Hr k a first).2]:=by
 have hl:=(Ke ha).1
 refine Af 0 (AnV _ _ _ _) (Aa (La k hkl hkt) ?_)
 unfold Hr
 simp only[Ah,C9]
 refine Ae (fun h=>Ac (by rw[if_pos h])) (fun h=> ?_)
 rw[if_neg h]
 refine Ae (fun h1=>Ac (by rw[if_pos (by omega)])) (fun h1=> ?_)
 have hk1:(A9 k).1.length=1:=by omega
 rw[if_neg (by omega)]
 refine Aa (Fi k hk) ?_
 simp only[Ah]
 refine Aa (Ha a (Az k)) (Aa (NH a first (by omega)) ?_)
 simp only[Ah]
 refine Ae (fun h0=> ?_) (fun h0=> ?_)
 · rw[if_pos (.inl (Apw.1 h0))];exact Ac rfl
 · have h0:=Apw.1 h0
   have hx:=NF (first:=first) h0
   rw[NE h0]
   simp only[Apr,H8 hx]
   refine Ad (Ad ?_)
   refine Ae (fun h2=>Ac (by rw[if_pos (.inr h2)])) (fun h2=> ?_)
   rw[if_neg (by rintro (q | q);exact h0 q;exact h2 q)]
   have hg0:=H8 (l:=(A9 k).1) (i:=0) (by omega)
   simp only[hg0]
   generalize hN:a.shape.getD (Ep a first) 0=N at *
   generalize (A9 k).1.getD 0 0=K at *
   have hb:decide (¬ N=0)=true:=decide_eq_true h2
   refine Ad (Ad (Ad (Ad (Bi hb (Bi hb ?_)))))
   refine Aa (?_:Sp _ _ [dA (Gg (Cw a (Az k)) a.shape (KX (Ep a first) (Int.tmod (Api .i64 (Int.tmod K N+N)) N) N))]) (Ac rfl)
   refine Af 4096 (Aog _ _ _ _ _ _) ?_
   have hle:=(Fz a.shape).2
   rw[ha]at hle
   have hrc:(Cw a (Az k)).cells=a.cells:=by cases a;rfl
   have hrs:(Cw a (Az k)).shape=a.shape:=by cases a;rfl
   simp only[Ah]
   rw[hrc]
   refine Ad (Ad (Ay (by simp only[Ak]at *; omega) ?_))
   rw[← hrc]
   refine X5 _ _ (Cw a (Az k)) a.shape (by rw[hrs,hrc];exact ha) (by omega) (fun n m3 s1 c t19 t20 a3 t6=>Aoc n m3 s1 _ _ _ c t19 t20 a3 t6) (fun i hi=> ?_)
   rw[hrc]at hi
   have hat:=EI ha (i:=i) (by omega)
   refine ⟨?_,by unfold KX;rw[List.length_set,hat];omega⟩
   refine Af 0 (AnU _ _ _ _ _) ?_
   simp only[D.unref,Ah,hat,H8 (show Ep a first<(Fj a.shape (i:Int)).length by omega)]
   refine Ad (Ad (Bi hb (Ad (Ad (Ac ?_)))))
   rw[← List.map_set];rfl
def Ov(a:Arr):Arr:=Gg a a.shape.reverse List.reverse
theorem AnX(a:Arr)(ha:A8 a.shape=((a.cells.length:Int),0)):Sp 60 [dA a] [dA (Ov a)]:=by
 have hl:=(Ke ha).1
 refine Af 0 (AnY _ _) ?_
 simp only[Ah]
 refine Aa (Kc a.shape (by omega)) ?_
 simp only[Ah]
 refine Aa (Aa2 a.shape (by omega)) ?_
 simp only[Ah]
 refine Aa (?_:Sp _ _ [dA (Ov a)]) (Ac rfl)
 refine Af 4096 (Aoh _ _ _) ?_
 have hle:=(Fz a.shape).2
 rw[ha]at hle
 simp only[Ah]
 refine Ad (Ad (Ay (by simp only[Ak]at *; omega) ?_))
 refine X5 _ _ a a.shape.reverse ha (by rw[List.length_reverse];omega) (fun n m3 s1 c t19 t20 a3 t6=>Aod n m3 s1 c t19 t20 a3 t6) (fun i hi=> ?_)
 have hat:=Ad0 a.shape.reverse (i:Int)
 rw[List.length_reverse]at hat
 refine ⟨?_,by rw[List.length_reverse];omega⟩
 refine Af 0 (AnW _ _) (Aa (?_:Sp _ _ [dI (Fj a.shape.reverse (i:Int)).reverse]) (Ac rfl))
 simp only[Cf]
 exact Aa2 _ (by omega)
def Eb:List Int→Int
 | []=>1
 | x::xs=>x*Eb xs
theorem XU : ∀ {l:List Int},(∀ x∈l,1≤x)→1≤Eb l
 | [],_=>by decide
 | x::xs,h=>by
  have:=Int.mul_le_mul (h x (by simp)) (XU (fun y hy=>h y (Aqq _ hy))) (by decide) (by have:=h x (by simp);omega)
  simpa [Eb]using this
theorem Zk : ∀ (l:List Int) (p:Int),(∀ x∈l,1≤x)→1≤p→p≤2048→A_ l p=if p*Eb l≤2048 then p*Eb l else 0
 | [],p,_,_,h=>by simp only[A_,Eb,Int.mul_one];rw[if_pos h]
 | x::xs,p,hx,h1,h2=>by
  have hx1:=hx x (by simp)
  have hz:=XU (fun y hy=>hx y (Aqq _ hy))
  have hpx:=Int.mul_le_mul h1 hx1 (by decide) (by omega)
  rw[Oi,Eb,← Int.mul_assoc]
  have hm:=Int.mul_le_mul_of_nonneg_left hz (show 0≤p*x by omega)
  split
  · rw[if_neg (by omega)]
  · exact Zk xs (p*x) (fun y hy=>hx y (Aqq _ hy)) (by omega) (by omega)
theorem Aj4{l m:List Int}(h:l.Perm m):Eb l=Eb m:=by
 induction h with
 | nil=>rfl
 | cons x _ ih=>simp only[Eb,ih]
 | swap x y l=>simp only[Eb];rw[Int.mul_left_comm]
 | trans _ _ ih1 ih2=>exact ih1.trans ih2
theorem EC{l m:List Int}(h:l.Perm m)(p:Int→Bool):l.any p=m.any p:=by
 rw[Bool.eq_iff_iff,List.any_eq_true,List.any_eq_true]
 exact ⟨fun ⟨x,hx,hp⟩=>⟨x,h.mem_iff.1 hx,hp⟩,fun ⟨x,hx,hp⟩=>⟨x,h.mem_iff.2 hx,hp⟩⟩
theorem Aef{l m:List Int}(h:l.Perm m):A8 l=A8 m:=by
 unfold A8
 rw[h.length_eq,EC h,EC h,EC h]
 split;· rfl
 split;· rfl
 split;· rfl
 split;· rfl
 rename_i h1 h2 h3 h4
 have hp:=Vy h2 h3 h4
 rw[Zk l 1 (fun x hx=>(hp x (h.mem_iff.1 hx)).1) (by decide) (by decide),Zk m 1 (fun x hx=>(hp x hx).1) (by decide) (by decide),Aj4 h]
def Ks:List Int→List Int→List Int→Option (List Int)
 | k::l,x::sh,s=>if k<1∨(s.length:Int)<k∨0≤s.getD (k-1).toNat 0 then none else Ks l sh (s.set (k-1).toNat x)
 | _,_,s=>some s
theorem Afg{s:List Int}{j:Nat}{x:Int}(hj:j<s.length)(hs:s.getD j 0<0)(hx:0≤x):((s.set j x).filter (fun y=>decide (0≤y))).Perm (x::s.filter (fun y=>decide (0≤y))):=by
 have e:s=s.take j++s[j]::s.drop (j+1):=by rw[← Aqa hj,Aqf]
 have hl:(s.take j).length=j:=by rw[Ap0];omega
 rw[Apn,Apk hj,Option.getD_some]at hs
 generalize s[j]=v at e hs
 generalize s.take j=A at e hl
 generalize s.drop (j+1)=B at e
 subst e
 rw[← hl,Tg,List.filter_append,List.filter_append,List.filter_cons,List.filter_cons,if_pos (by simpa using hx),if_neg (by simp;omega)]
 exact List.perm_middle
theorem WJ : ∀ (l sh s r:List Int),Ks l sh s=some r→l.length=sh.length→(∀ x∈sh,0≤x) →
  (r.filter (fun y=>decide (0≤y))).Perm (s.filter (fun y=>decide (0≤y))++sh)∧r.length=s.length∧∀ k∈l,1≤k∧k≤(s.length:Int)
 | [],[],s,r,h,_,_=>by
  simp only[Ks,Aps]at h
  subst h
  exact ⟨by simp,rfl,fun k hk=>by simp at hk⟩
 | k::l,x::sh,s,r,h,hl,hx=>by
  simp only[Ks]at h
  split at h
  · cases h
  · rename_i g
    obtain ⟨i1,i2,i3⟩:=WJ l sh _ r h (by simpa using hl) (fun y hy=>hx y (Aqq _ hy))
    rw[List.length_set]at i2 i3
    refine ⟨?_,i2,?_⟩
    · have:=Afg (s:=s) (j:=(k-1).toNat) (x:=x) (by omega) (by omega) (hx x (by simp))
      refine i1.trans ((this.append_right sh).trans ?_)
      exact List.perm_middle.symm
    · intro y hy
      rcases Ap4.1 hy with rfl | hy
      · omega
      · exact i3 y hy
 | [],x::sh,s,r,_,hl,_=>by simp at hl
 | k::l,[],s,r,_,hl,_=>by simp at hl
theorem WK{l sh r:List Int}(h:Ks l sh (Apl l.length (-1))=some r)(hl:l.length=sh.length)(hx : ∀ x∈sh,0≤x):r.Perm sh∧∀ k∈l,1≤k∧k≤(l.length:Int):=by
 obtain ⟨h1,h2,h3⟩:=WJ l sh _ r h hl hx
 rw[Aqp]at h2 h3
 have e:(Apl l.length (-1:Int)).filter (fun y=>decide (0≤y)) = []:=by
  rw[List.filter_eq_nil_iff]
  intro y hy
  rw[List.eq_of_mem_replicate hy];decide
 rw[e,Aqx]at h1
 have hfl:r.filter (fun y=>decide (0≤y))=r:=by
  refine List.filter_eq_self.2 (List.length_filter_eq_length_iff.1 ?_)
  rw[h1.length_eq,h2,hl]
 rw[hfl]at h1
 exact ⟨h1,h3⟩
def G5(l:List Int)(at_:List Int):List Int:=l.map (fun k=>at_.getD (k-1).toNat 0)
theorem AiW(l at_:List Int)(hl:l.length=at_.length)(hn:l.length≤1000)(hk : ∀ k∈l,1≤k∧k≤(l.length:Int)) :
  Ec Tryz.prog md 95 [.ref 23] [dI at_,.ref (dI l)] [dI (G5 l at_)]:=by
 refine Af 4096 (AnP _ _ _) ?_
 simp only[Cf,DE]
 refine Aa (Kc at_ (by omega)) ?_
 have key:=Di l.length (fun m i (_:Unit)=>DA 4096 m ((G5 (l.take i) at_++at_.drop i).map D.int) (at_.map D.int) (dI l) (l.length:Int) (i:Int)) (fun _ _=>[dI (G5 l at_)]) (fun _ _=>True)
  (fun m _ _=>by
   rw[Ace]
   refine Ar (Ac ?_)
   rw[List.take_length,List.drop_of_length_le (by omega),Ap6];rfl)
  (fun m i _ hi _ ih=>by
   have h1:l[i]? = some l[i]:=Apk hi
   have hkk:=hk l[i] (Aql hi)
   have e1:l.take (i+1)=l.take i++[l[i]]:=GR h1
   have hlen:(G5 (l.take i) at_++at_.drop i).length=l.length:=by simp[G5];omega
   have Cu:(G5 (l.take i) at_++at_.drop i).set i (at_.getD (l[i] - 1).toNat 0)=G5 (l.take (i+1)) at_++at_.drop (i+1):=by
    have hpl:(G5 (l.take i) at_).length=i:=by simp[G5];omega
    rw[Aqa (show i<at_.length by omega)]
    have:=Tg (G5 (l.take i) at_) at_[i] (at_.getD (l[i] - 1).toNat 0) (at_.drop (i+1))
    rw[hpl]at this
    rw[this,e1];simp only[G5,List.map_append,Ap9,List.map_nil,Ap8,List.singleton_append]
   generalize l[i]=k at *
   rw[Ace]
   have hw:Api .i64 (k-1)=k-1:=Aw (by omega) (by omega)
   simp only[Cf,Apm,Apr,Au h1,Ao,hw,hlen,H8 (show (k-1).toNat<at_.length by omega),Bh i]
   refine Ad (Ad (Ad (Ad (Ad (Ad (Ad ?_))))))
   rw[← List.map_set,Cu]
   exact ih () trivial)
  4096 0 () (by omega) (by omega) trivial
 simpa [G5]using key
def Gj(p a:Arr):Arr×Int:=if (A9 p).2≠0 then (.none,(A9 p).2) else if (A9 p).1.length≠a.shape.length then (.none,4) else
 match Ks (A9 p).1 a.shape (Apl (A9 p).1.length (-1)) with
 | none=>(.none,3)
 | some s=>(Gg (Cw a (Az p)) s (G5 (A9 p).1),0)
theorem AnQ(p a:Arr)(hk:Fits p)(hkl:p.cells.length≤2048)(hkt : ∀ c∈p.cells,c.n.top.length≤32)(ha:A8 a.shape=((a.cells.length:Int),0)):Sp 38 [dA p,dA a] [dA (Gj p a).1,.int (Gj p a).2]:=by
 have hl6:=(Ke ha).1
 have h0s:=(Gr (l:=a.shape) (by rw[ha])).2
 refine Af 4096 (AnR _ _ _) (Aa (La p hkl hkt) ?_)
 have hun:Gj p a=Gj p a:=rfl
 conv at hun=>rhs;unfold Gj
 generalize Gj p a=R at *
 generalize hl:(A9 p).1=l at *
 generalize (A9 p).2=e at *
 simp only[Ah,C9]
 refine Ae (fun h=>Ac (by rw[hun,if_pos h])) (fun h=> ?_)
 rw[if_neg h]at hun
 refine Ae (fun h1=>Ac (by rw[hun,if_pos (by omega)])) (fun h1=> ?_)
 have hll:l.length=a.shape.length:=by omega
 rw[if_neg (by omega)]at hun
 refine Ad (Ad (Ay (by simp only[Ak];omega) ?_))
 have second:=B3 l (fun m i (s:List Int)=>DB 4096 m (s.map D.int) (dI l) (l.length:Int) (i:Int) (dA p) (dA a) 0 e (dI l)) (fun _ _=>[dA R.1,.int R.2])
  (fun rest s=>Ks l a.shape (Apl l.length (-1))=Ks rest (a.shape.drop (l.length-rest.length)) s∧s.length=l.length)
  (fun m i s hi hI=>by
   rw[Acf]
   refine Ar (Aa (Fi p hk) ?_)
   simp only[Ah]
   refine Aa (Ha a (Az p)) ?_
   have hg:Ks l a.shape (Apl l.length (-1))=some s:=by rw[hI.1];rfl
   rw[hg]at hun
   obtain ⟨hp1,hp2⟩:=WK hg hll (fun x hx=>(h0s x hx).1)
   have hcs:A8 s=((a.cells.length:Int),0):=by rw[Aef hp1,ha]
   have hrc:(Cw a (Az p)).cells=a.cells:=by cases a;rfl
   have hrs:(Cw a (Az p)).shape=a.shape:=by cases a;rfl
   have hle:=(Fz a.shape).2
   rw[ha]at hle
   simp only[Ah]
   refine Aa (?_:Sp _ _ [dA (Gg (Cw a (Az p)) s (G5 l))]) (Ac (by rw[hun];rfl))
   refine Af 4096 (Aoe _ _ _ _) ?_
   simp only[Ah]
   rw[hrc]
   refine Ad (Ad (Ay (by simp only[Ak]at *; omega) ?_))
   rw[← hrc]
   refine X5 _ _ (Cw a (Az p)) s (by rw[hrs,hrc];exact ha) (by omega) (fun n m3 s1 c t19 t20 a3 t6=>Aoa n m3 s1 _ c t19 t20 a3 t6) (fun i hi=> ?_)
   rw[hrc]at hi
   have hat:=EI hcs (i:=i) (by omega)
   exact ⟨AiW l _ (by rw[hat];omega) (by omega) hp2,by unfold G5;rw[Apm];omega⟩)
  (fun m i s k rest hdr hI ih=>by
   obtain ⟨h4,h2,h3⟩:=By hdr
   have hle:=congrArg List.length hdr
   rw[Apy,App]at hle
   obtain ⟨hI,hsl⟩:=hI
   rw[show l.length-(k::rest).length=i by rw[App];omega,Aqa (show i<a.shape.length by omega)]at hI
   rw[show l.length-rest.length=i+1 by omega]at ih
   have hsi:a.shape[i]? = some a.shape[i]:=Apk (by omega)
   generalize a.shape[i]=x at *
   rw[Acf]
   simp only[Ah,Au h2,Au hsi,hsl]
   simp only[Ks,hsl]at hI
   refine Ad (Ad (Ad (Ae (fun g=>Ac ?_) (fun g=>Ae (fun g2=>Ac ?_) (fun g2=> ?_)))))
   · rw[if_pos (.inl g)]at hI;rw[hI]at hun;rw[hun,C9]
   · rw[if_pos (.inr (.inl g2))]at hI;rw[hI]at hun;rw[hun,C9]
   · have hw:Api .i64 (k-1)=k-1:=Aw (by omega) (by omega)
     simp only[hw,H8 (show (k-1).toNat<s.length by omega),Ao]
     refine Ad (Ad (Ae (fun g3=>Ac ?_) (fun g3=>Ad (Ad (Ad (Ad ?_))))))
     · rw[if_pos (.inr (.inr g3))]at hI;rw[hI]at hun;rw[hun,C9]
     · rw[if_neg (by omega)]at hI
       rw[← List.map_set,Ey (by omega)]
       exact ih _ ⟨hI,by rw[List.length_set];exact hsl⟩)
  4096 0 (Apl l.length (-1)) (by omega) (by omega) ⟨by simp,by simp⟩
 have first:=Di l.length (fun m i (_:Unit)=>DC 4096 m ((Apl i (-1:Int)++Apl (l.length-i) 0).map D.int) (l.length:Int) (i:Int) (dA p) (dA a) 0 e (dI l)) (fun _ _=>[dA R.1,.int R.2]) (fun _ _=>True)
  (fun m _ _=>by
   rw[Acg]
   refine Ar ?_
   simp only[Nat.sub_self,List.replicate_zero,Ap6,Cf,Apm]
   exact second)
  (fun m i _ hi _ ih=>by
   rw[Acg]
   simp only[Apm,Apu,Aqp,Apr]
   refine Ad (Ad (Ad ?_))
   rw[Ey (by omega),← List.map_set]
   have e1:(Apl i (-1:Int)++Apl (l.length-i) 0).set i (-1)=Apl (i+1) (-1:Int)++Apl (l.length-(i+1)) 0:=by
     rw[show l.length-i=(l.length-(i+1))+1 by omega,List.replicate_succ (a:=(0:Int))]
     have:=Tg (Apl i (-1:Int)) 0 (-1) (Apl (l.length-(i+1)) 0)
     rw[Aqp]at this
     rw[this,List.replicate_succ' (n:=i)];simp
   rw[e1]
   exact ih () trivial)
  4096 0 () (by omega) (by omega) trivial
 simpa using first
end Go.Proofs.YtokkbgpgaheakaaGreat
