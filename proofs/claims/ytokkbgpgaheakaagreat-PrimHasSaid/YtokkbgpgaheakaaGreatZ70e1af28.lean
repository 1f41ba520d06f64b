/- Proved: lemmas for the law of this folder, part 7. No condition. -/
import Derived.Test.YtokkbgpgaheakaaGreatRows
import Derived.WalkKit
import Derived.WalkSpells
import Derived.WalkLawsBesides
import Derived.Lib.Hide
import Derived.Laws.CopyOwn
import Derived.Deep.QuietTactic
import Derived.BigQuiet
import Derived.Orders
import Derived.Defers
import Derived.Recover
import Derived.Test.YtokkbgpgaheakaaGreatProg
import Derived.KernelRfl
import Derived.ProofKit
import Derived.OpenShut
import Derived.Maps.OwnRows
import Derived.Maps.Views
import Derived.Deep.RegionHeld3
import Derived.Deep.AppendLies
import Derived.Test.YtokkbgpgaheakaaGreatZ1d928982
set_option linter.unusedSimpArgs false
set_option linter.unusedVariables false
set_option maxRecDepth 100000
open Array renaming getElem?_eq_getElem → Al3, getElem?_eq_some_iff → Amc, getD_eq_getD_getElem? → Amf
open BitVec renaming ofNat → Al0
open Bool renaming and_eq_true → Alp
open Classical renaming not_not → Alt
open Int renaming toNat → Alf, toNat_natCast → Aln, fdiv → Al8
open Go.IntKind renaming wrap → Ale, bits → Alq
open List renaming getElem?_eq_getElem → Alg, replicate → Alh, length_map → Ali, getElem?_eq_some_iff → Alj, getD_eq_getElem?_getD → Alk, length_cons → All, mem_of_getElem? → Alm, length_append → Alr, length_drop → Alu, length_take → Alw, mem_cons → Alx, getElem?_map → Aly, length_nil → Alz, append_nil → Al2, append_assoc → Al4, getElem?_append_left → Al5, drop_eq_getElem_cons → Al6, length_eq_zero_iff → Al7, take_append_drop → Ama, take_of_length_le → Amb, range → Amd, length_replicate → Amg, getElem_mem → Amj, map_cons → Aml, nil_append → Amo
open Nat renaming le_refl → Als, mul_le_mul_right → Al1, mod_lt → Al9, mod_eq_of_lt → Al_, lt_of_lt_of_le → Ame, mul_comm → Ami, pow_succ → Amk, div_lt_iff_lt_mul → Amm, zero_add → Amn
open Option renaming map_eq_some_iff → Alv, bind_eq_some_iff → Amh
open Option.some renaming injEq → Alo
namespace Go.Proofs.YtokkbgpgaheakaaGreat
theorem QU{p:Prop}{i:Decidable p}(h:(!(@decide p i))=true) : ¬ p:=by
 cases h' : @decide p i
 · exact of_decide_eq_false h'
 · rw[h']at h;cases h
theorem QT{p:Prop}{i:Decidable p}(h:(!(@decide p i))=false):p:=by
 cases h' : @decide p i
 · rw[h']at h;cases h
 · exact of_decide_eq_true h'
theorem Nq{A Y B:List Nat}{t i:Nat}{y:Nat}(h:Y[t]? = some y)(hi:i=A.length+t):((A++Y++B).map dP).getD i D.nil=dP y:=by
 obtain ⟨ht,rfl⟩:=Alj.1 h
 subst hi
 rw[Alk,Aly,Al4,List.getElem?_append_right (by omega),Nat.add_sub_cancel_left,Al5 ht,Alg ht]
 rfl
theorem YS{l:List Nat}{t:Nat}(h:t<l.length):l.take (t+1)=l.take t++[l[t]]:=by rw[List.take_add_one,Alg h];rfl
section
variable {d:Nat} {a:Arr} {dn:Bool} (ha : ∀ c∈a.cells,B7 d c=true)
include ha
theorem AjP(A:List Nat)(x:Nat)(Y B:List Nat)(hY:Y.Pairwise (Bs (kk d a.cells dn)))(hlt : ∀ y∈Y,x<y)(hx:x<a.cells.length)(hin : ∀ y∈Y,y<a.cells.length)(hlen:A.length+1+Y.length+B.length≤100000) :
  ∀ m u v,v-u<m→u≤v→v≤Y.length→(∀ y∈Y.take u,Bs (kk d a.cells dn) y x)→(∀ y∈Y.drop v,Bs (kk d a.cells dn) x y)→Tw (Rw 200000 m ((A++[x]++Y++B).map dP) (A.length:Int) (Dz dn a) ((A.length+1+u:Nat):Int) ((A.length+1+v:Nat):Int)) [.sl ((A++Bg (kk d a.cells dn) ([x]++Y)++B).map dP)]:=by
 have hk:=Rr (dn:=dn) ha
 intro m
 induction m with
 | zero=>intro u v h;omega
 | succ m ih =>
  intro u v hm huv hv h1 h2
  have hll:(A++[x]++Y++B).length=A.length+1+Y.length+B.length:=by simp only[Alr,All,Alz]
  simp only[Aj8]
  rw[U0 (by omega)]
  by_cases he:u<v
  · have hh:(A.length+1+u+(A.length+1+v)) / 2=A.length+1+(u+v) / 2:=by omega
    rw[hh]
    obtain ⟨h,hdef⟩ : ∃ h,h=(u+v) / 2:=⟨_,rfl⟩
    rw[← hdef]
    have b1:u≤h:=by omega
    have b2:h<v:=by omega
    have hy:Y[h]? = some (Y[h]'(by omega)):=Alg (by omega)
    have hmem:Y[h]'(by omega)∈Y:=Amj _
    generalize Y[h]'(by omega)=y at *
    have gy:((A++[x]++Y++B).map dP).getD (A.length+1+h) D.nil=dP y:=Nq (A:=A++[x]) hy (by simp)
    have gx:((A++[x]++Y++B).map dP).getD A.length D.nil=dP x:=by
      have:=Nq (A:=A) (Y:=[x]) (B:=Y++B) (t:=0) (i:=A.length) (y:=x) rfl rfl
      rw[Al4 (A++[x])]
      exact this
    simp only[Aln,gy,gx,Gs,Gq,Gr,List.cons_append,Amo,Ali]
    simp only[List.cons_append,Amo,Al4]at hll
    simp only[List.cons_append,Amo,Al4,hll]
    refine Ad (Ad (Ad (Ad (Ad (Ad (Aa (Ut (dn:=dn) ha (hin y hmem) hx) ?_))))))
    simp only[Ag,Ak]
    have w:Ale .i64 (((A.length+1+h:Nat):Int)+1)=((A.length+1+(h+1):Nat):Int):=by rw[As (by omega) (by omega)];omega
    rw[w]
    have e1:=ih (h+1) v (by omega) (by omega) hv
    have e2:=ih u h (by omega) b1 (by omega) h1
    simp only[List.cons_append,Amo,Al4]at e1 e2
    refine Ae (fun g=> ?_) (fun g=> ?_)
    · have:=L5 hk ((Kr hk (hlt y hmem)).1 g)
      exact e1 (R_ hk hY hy this) h2
    · have:Bs (kk d a.cells dn) x y:=Alt.1 (fun hh=>g ((Kr hk (hlt y hmem)).2 hh))
      exact e2 (Us hk hY hy this)
  · have:u=v:=by omega
    subst this
    refine Aq ?_
    have hs:Bg (kk d a.cells dn) ([x]++Y)=Y.take u++x::Y.drop u:=J_ hk (by
       refine List.Perm.trans List.perm_middle ?_
       rw[Ama];exact List.Perm.refl _) (Zs (hY.sublist (List.take_sublist _ _)) (List.pairwise_cons.2 ⟨h2,hY.sublist (List.drop_sublist _ _)⟩) (fun y hy z hz=>by
       rcases Alx.1 hz with rfl | hz
       · exact h1 y hy
       · exact Nx hk (h1 y hy) (h2 z hz)))
    rw[hs]
    have key:=Da u (fun q i (_:Unit)=>Zr 200000 q ((A++Y.take i++x::(Y.drop i++B)).map dP) ((A.length+1+u:Nat):Int) ((A.length+i:Nat):Int)) (fun _ _=>[.sl ((A++(Y.take u++x::Y.drop u)++B).map dP)]) (fun _ _=>True)
      (fun q s _=>by
       have w:Ale .i64 (((A.length+1+u:Nat):Int)-1)=((A.length+u:Nat):Int):=by rw[As (by omega) (by omega)];omega
       simp only[XZ,w]
       refine Aq (Ac ?_)
       simp)
      (fun q i s hi _ ih'=>by
       have ih':=ih' () trivial
       have hil:i<Y.length:=by omega
       rw[YS hil]at ih'
       have e4:Y.drop i=Y[i]::Y.drop (i+1):=Al6 hil
       rw[e4]
       generalize Y[i]=y at *
       have t1:(Y.take i).length=i:=by rw[Alw];omega
       have t4:(Y.drop (i+1)).length=Y.length-(i+1):=by rw[Alu]
       have al:(A++Y.take i).length=A.length+i:=by rw[Alr,t1]
       have w:Ale .i64 (((A.length+1+u:Nat):Int)-1)=((A.length+u:Nat):Int):=by rw[As (by omega) (by omega)];omega
       have w2:Ale .i64 (((A.length+i:Nat):Int)+1)=((A.length+i+1:Nat):Int):=by rw[As (by omega) (by omega)];omega
       have hll2:(A++Y.take i++x::(y::Y.drop (i+1)++B)).length=A.length+1+Y.length+B.length:=by rw[Alr,al,All,Alr,All,t4];omega
       have sw:=YN (A:=A++Y.take i) (M:=[]) (x:=x) (y:=y) (B:=Y.drop (i+1)++B) (i:=A.length+i) (j:=A.length+i+1) al.symm (by rw[al];rfl)
       have g1:=Pj (A:=A++Y.take i) (x:=x) (B:=y::Y.drop (i+1)++B) (i:=A.length+i) al.symm
       have g2:=S2 (A:=A++Y.take i) (M:=[]) (x:=x) (y:=y) (B:=Y.drop (i+1)++B) (i:=A.length+i+1) (by rw[al];rfl)
       simp only[Amo]at sw g2
       simp only[List.cons_append]at hll2 g1
       simp only[List.cons_append]
       simp only[XZ,w,w2,Aln,g1,g2,Ali,List.length_set,hll2]
       have sw2:(((A++Y.take i++x::y::(Y.drop (i+1)++B)).map dP).set (A.length+i) (D.int (dP y).toInt)).set (A.length+i+1) (D.int (dP x).toInt)=_:=sw
       rw[sw2]
       refine Ad (Ad (Ad (Ad (Ad (Ad (Ad (Ad (Ad ?_))))))))
       simpa [Nat.add_assoc]using ih')
      200000 0 () (by omega) (by omega) trivial
    simpa using key
theorem AjQ(A X:List Nat)(y:Nat)(B:List Nat)(hX:X.Pairwise (Bs (kk d a.cells dn)))(hlt : ∀ x∈X,x<y)(hy:y<a.cells.length)(hin : ∀ x∈X,x<a.cells.length)(hlen:A.length+X.length+1+B.length≤100000) :
  ∀ m u v,v-u<m→u≤v→v≤X.length→(∀ x∈X.take u,Bs (kk d a.cells dn) x y)→(∀ x∈X.drop v,Bs (kk d a.cells dn) y x)→Tw (Rv 200000 m ((A++X++[y]++B).map dP) ((A.length+X.length:Nat):Int) (Dz dn a) ((A.length+u:Nat):Int) ((A.length+v:Nat):Int)) [.sl ((A++Bg (kk d a.cells dn) (X++[y])++B).map dP)]:=by
 have hk:=Rr (dn:=dn) ha
 intro m
 induction m with
 | zero=>intro u v h;omega
 | succ m ih =>
  intro u v hm huv hv h1 h2
  have hll:(A++X++[y]++B).length=A.length+X.length+1+B.length:=by simp only[Alr,All,Alz]
  simp only[Aj6]
  rw[U0 (by omega)]
  by_cases he:u<v
  · have hh:(A.length+u+(A.length+v)) / 2=A.length+(u+v) / 2:=by omega
    rw[hh]
    obtain ⟨h,hdef⟩ : ∃ h,h=(u+v) / 2:=⟨_,rfl⟩
    rw[← hdef]
    have b1:u≤h:=by omega
    have b2:h<v:=by omega
    have hx:X[h]? = some (X[h]'(by omega)):=Alg (by omega)
    have hmem:X[h]'(by omega)∈X:=Amj _
    generalize X[h]'(by omega)=x at *
    have gx:((A++X++[y]++B).map dP).getD (A.length+h) D.nil=dP x:=by
      have:=Nq (A:=A) (Y:=X) (B:=[y]++B) (i:=A.length+h) hx rfl
      rw[Al4 (A++X)]
      exact this
    have gy:((A++X++[y]++B).map dP).getD (A.length+X.length) D.nil=dP y:=Nq (A:=A++X) (Y:=[y]) (t:=0) (y:=y) rfl (by simp)
    simp only[Aln,gy,gx,Gs,Gq,Gr,List.cons_append,Amo,Ali,hll]
    refine Ad (Ad (Ad (Ad (Ad (Ad (Aa (Ut (dn:=dn) ha hy (hin x hmem)) ?_))))))
    simp only[Ag,Ak,Eu]
    have w:Ale .i64 (((A.length+h:Nat):Int)+1)=((A.length+(h+1):Nat):Int):=by rw[As (by omega) (by omega)];omega
    rw[w]
    refine Ch (fun g=> ?_) (fun g=> ?_)
    · have g : ¬ kk d a.cells dn y x<0:=QU g
      have:Bs (kk d a.cells dn) x y:=Alt.1 (fun hh=>g ((Kr hk (hlt x hmem)).2 hh))
      exact ih (h+1) v (by omega) (by omega) hv (R_ hk hX hx this) h2
    · have:=L5 hk ((Kr hk (hlt x hmem)).1 (QT g))
      exact ih u h (by omega) b1 (by omega) h1 (Us hk hX hx this)
  · have:u=v:=by omega
    subst this
    refine Aq ?_
    have hs:Bg (kk d a.cells dn) (X++[y])=X.take u++y::X.drop u:=J_ hk (by
       refine List.Perm.trans List.perm_middle ?_
       rw[Ama];exact (List.perm_append_singleton y _).symm) (Zs (hX.sublist (List.take_sublist _ _)) (List.pairwise_cons.2 ⟨h2,hX.sublist (List.drop_sublist _ _)⟩) (fun x hx z hz=>by
       rcases Alx.1 hz with rfl | hz
       · exact h1 x hx
       · exact Nx hk (h1 x hx) (h2 z hz)))
    rw[hs]
    have key:=H_ (P:=Tryz.prog) (md:=md) (fun q j (_:Unit)=>Zq 200000 q ((A++X.take (u+j)++y::(X.drop (u+j)++B)).map dP) ((A.length+u:Nat):Int) ((A.length+(u+j):Nat):Int)) (fun _ _=>[.sl ((A++(X.take u++y::X.drop u)++B).map dP)]) (fun j _=>u+j≤X.length)
      (fun q s _=>by
       simp only[XY]
       refine Aq (Ac ?_)
       simp)
      (fun q j s hj ih'=>by
       have ih':=ih' () (by omega)
       have hil:u+j<X.length:=by omega
       have e4:X.drop (u+j)=X[u+j]::X.drop (u+(j+1)):=Al6 hil
       rw[e4]at ih'
       have e5:X.take (u+(j+1))=X.take (u+j)++[X[u+j]]:=YS hil
       rw[e5]
       generalize X[u+j]=x at *
       have t1:(X.take (u+j)).length=u+j:=by rw[Alw];omega
       have t4:(X.drop (u+(j+1))).length=X.length-(u+(j+1)):=by rw[Alu]
       have al:(A++X.take (u+j)).length=A.length+(u+j):=by rw[Alr,t1]
       have w2:Ale .i64 (((A.length+(u+(j+1)):Nat):Int)-1)=((A.length+(u+j):Nat):Int):=by rw[As (by omega) (by omega)];omega
       have ed:A++(X.take (u+j)++[x])++y::(X.drop (u+(j+1))++B)=A++X.take (u+j)++x::y::(X.drop (u+(j+1))++B):=by simp
       have hll2:(A++X.take (u+j)++x::y::(X.drop (u+(j+1))++B)).length=A.length+X.length+1+B.length:=by rw[Alr,al,All,All,Alr,t4];omega
       have sw:=YM (A:=A++X.take (u+j)) (M:=[]) (x:=x) (y:=y) (B:=X.drop (u+(j+1))++B) (i:=A.length+(u+j)) (j:=A.length+(u+(j+1))) al.symm (by rw[al];simp;omega)
       have g1:=Pj (A:=A++X.take (u+j)) (x:=x) (B:=y::(X.drop (u+(j+1))++B)) (i:=A.length+(u+j)) al.symm
       have g2:=S2 (A:=A++X.take (u+j)) (M:=[]) (x:=x) (y:=y) (B:=X.drop (u+(j+1))++B) (i:=A.length+(u+(j+1))) (by rw[al];simp;omega)
       simp only[Amo]at sw g2
       rw[ed]
       simp only[XY,w2,Aln,g1,g2,Ali,List.length_set,hll2]
       have sw2:(((A++X.take (u+j)++x::y::(X.drop (u+(j+1))++B)).map dP).set (A.length+(u+(j+1))) (D.int (dP x).toInt)).set (A.length+(u+j)) (D.int (dP y).toInt)=_:=sw
       rw[sw2]
       refine Ad (Ad (Ad (Ad (Ad (Ad (Ad (Ad (Ad ?_))))))))
       simpa using ih')
      200000 (X.length-u) () (by omega) (by omega)
    rw[show u+(X.length-u)=X.length by omega,Amb (Als _),List.drop_of_length_le (Als _)]at key
    simpa using key
omit ha in
theorem KX{k:Nat→Nat→Int}{l:List Nat}{t:Nat}(h:l.Pairwise (Bs k)) : ∀ x∈l.take t,∀ y∈l.drop t,Bs k x y:=by
 rw[← Ama t l]at h
 exact (List.pairwise_append.1 h).2.2
theorem YO : ∀ (N:Nat) (A X Y B:List Nat),X.length+Y.length≤N→1≤X.length→1≤Y.length→A.length+X.length+Y.length+B.length≤100000→(∀ x∈X,x<a.cells.length)→(∀ y∈Y,y<a.cells.length)→X.Pairwise (Bs (kk d a.cells dn))→Y.Pairwise (Bs (kk d a.cells dn))→(∀ x∈X,∀ y∈Y,x<y) →
  Sp 251 [.sl ((A++X++Y++B).map dP),.int (A.length:Int),.int ((A.length+X.length:Nat):Int),.int ((A.length+X.length+Y.length:Nat):Int),Dz dn a] [.sl ((A++Bg (kk d a.cells dn) (X++Y)++B).map dP)]:=by
 have hk:=Rr (dn:=dn) ha
 intro N
 induction N with
 | zero=>intro A X Y B h h1;omega
 | succ N IH =>
  intro A X Y B hN hx1 hy1 hlen hXin hYin hX hY hlt
  refine Af 200000 (Aj9 _ _ _ _ _ _ _) ?_
  simp only[Dp,Ak]
  have w1:Ale .i64 (((A.length+X.length:Nat):Int)-(A.length:Int))=(X.length:Int):=by rw[As (by omega) (by omega)];omega
  have w2:Ale .i64 (((A.length+X.length+Y.length:Nat):Int)-((A.length+X.length:Nat):Int))=(Y.length:Int):=by rw[As (by omega) (by omega)];omega
  rw[w1,w2]
  simp only[Cc]
  refine Ae (fun hX1=> ?_) (fun hX1=> ?_)
  · obtain ⟨x,rfl⟩:=L6 (l:=X) (by omega)
    have:=AjP (dn:=dn) ha A x Y B hY (fun y hy=>hlt x (by simp) y hy) (hXin x (by simp)) hYin (by simpa using hlen) 200000 0 Y.length (by omega) (by omega) (by omega) (by simp) (by simp)
    exact this
  refine Ae (fun hY1=> ?_) (fun hY1=> ?_)
  · obtain ⟨y,rfl⟩:=L6 (l:=Y) (by omega)
    have:=AjQ (dn:=dn) ha A X y B hX (fun x hx=>hlt x hx y (by simp)) (hYin y (by simp)) hXin (by simpa using hlen) 200000 0 X.length (by omega) (by omega) (by omega) (by simp) (by simp)
    exact this
  have w0:=U0 (i:=A.length) (j:=A.length+X.length+Y.length) (by omega)
  obtain ⟨q,hq⟩ : ∃ q,q=(X.length+Y.length) / 2:=⟨_,rfl⟩
  rw[show (A.length+(A.length+X.length+Y.length)) / 2=A.length+q by omega]at w0
  simp only[w0]
  have w3:Ale .i64 (((A.length+q:Nat):Int)+((A.length+X.length:Nat):Int))=((A.length+q+(A.length+X.length):Nat):Int):=by rw[As (by omega) (by omega)];omega
  have w4:Ale .i64 (((A.length+q+(A.length+X.length):Nat):Int)-1)=((A.length+q+(A.length+X.length)-1:Nat):Int):=by rw[As (by omega) (by omega)];omega
  simp only[w3,w4]
  have search : ∀ (t0 t1:Nat),t1≤X.length→t1≤q→q≤t0+Y.length→∀ m s r,r-s<m→t0≤s→s≤r→r≤t1→(∀ x∈X.take s,∀ y∈Y.drop (q-s),Bs (kk d a.cells dn) x y)→(∀ y∈Y.take (q-r),∀ x∈X.drop r,Bs (kk d a.cells dn) y x) →
     Tw (Oz 200000 m ((A++X++Y++B).map dP) (A.length:Int) ((A.length+X.length:Nat):Int) ((A.length+X.length+Y.length:Nat):Int) (Dz dn a) ((A.length+q:Nat):Int) ((A.length+q+(A.length+X.length):Nat):Int) ((A.length+s:Nat):Int) ((A.length+r:Nat):Int) ((A.length+q+(A.length+X.length)-1:Nat):Int)) [.sl ((A++Bg (kk d a.cells dn) (X++Y)++B).map dP)]:=by
    intro t0 t1 ht1 ht1' ht0 m
    induction m with
    | zero=>intro s r h;omega
    | succ m ih =>
     intro s r hm hs0 hsr hr1 inv1 inv2
     simp only[Aj7]
     rw[U0 (by omega)]
     by_cases he:s<r
     · rw[show (A.length+s+(A.length+r)) / 2=A.length+(s+r) / 2 by omega]
       obtain ⟨h,hdef⟩ : ∃ h,h=(s+r) / 2:=⟨_,rfl⟩
       rw[← hdef]
       have b1:s≤h:=by omega
       have b2:h<r:=by omega
       have hx:X[h]? = some (X[h]'(by omega)):=Alg (by omega)
       have hxm:X[h]'(by omega)∈X:=Amj _
       have hy:Y[q-1-h]? = some (Y[q-1-h]'(by omega)):=Alg (by omega)
       have hym:Y[q-1-h]'(by omega)∈Y:=Amj _
       generalize X[h]'(by omega)=x at *
       generalize Y[q-1-h]'(by omega)=y at *
       have w5:Ale .i64 (((A.length+q+(A.length+X.length)-1:Nat):Int)-((A.length+h:Nat):Int))=((A.length+X.length+(q-1-h):Nat):Int):=by rw[As (by omega) (by omega)];omega
       have w6:Ale .i64 (((A.length+h:Nat):Int)+1)=((A.length+(h+1):Nat):Int):=by rw[As (by omega) (by omega)];omega
       have gx:((A++X++Y++B).map dP).getD (A.length+h) D.nil=dP x:=by
         have:=Nq (A:=A) (Y:=X) (B:=Y++B) (i:=A.length+h) hx rfl
         rw[Al4 (A++X)]
         exact this
       have gy:((A++X++Y++B).map dP).getD (A.length+X.length+(q-1-h)) D.nil=dP y:=Nq (A:=A++X) hy (by simp)
       have hll:(A++X++Y++B).length=A.length+X.length+Y.length+B.length:=by simp only[Alr]
       simp only[w5,w6,Aln,gy,gx,Gs,Gq,Gr,List.cons_append,Amo,Ali,hll]
       refine Ad (Ad (Ad (Ad (Ad (Ad (Aa (Ut (dn:=dn) ha (hYin y hym) (hXin x hxm)) ?_))))))
       simp only[Ag,Ak,Eu]
       refine Ch (fun g=> ?_) (fun g=> ?_)
       · have g : ¬ kk d a.cells dn y x<0:=QU g
         have:Bs (kk d a.cells dn) x y:=Alt.1 (fun hh=>g ((Kr hk (hlt x hxm y hym)).2 hh))
         refine ih (h+1) r (by omega) (by omega) (by omega) hr1 (fun x' hx'=> ?_) inv2
         rw[show q-(h+1)=q-1-h by omega]
         exact Us hk hY hy (R_ hk hX hx this x' hx')
       · have:=L5 hk ((Kr hk (hlt x hxm y hym)).1 (QT g))
         refine ih s h (by omega) (by omega) (by omega) (by omega) inv1 (fun y' hy'=> ?_)
         rw[show q-h=q-1-h+1 by omega]at hy'
         exact Us hk hX hx (R_ hk hY hy this y' hy')
     · have:s=r:=by omega
       subst this
       refine Aq ?_
       have hXe:X=X.take s++X.drop s:=(Ama _ _).symm
       have hYe:Y=Y.take (q-s)++Y.drop (q-s):=(Ama _ _).symm
       have l1:(X.take s).length=s:=by rw[Alw];omega
       have l2:(X.drop s).length=X.length-s:=by rw[Alu]
       have l3:(Y.take (q-s)).length=q-s:=by rw[Alw];omega
       have l4:(Y.drop (q-s)).length=Y.length-(q-s):=by rw[Alu]
       have c1:=KX (t:=s) hX
       have c2:=KX (t:=q-s) hY
       have m1 : ∀ x∈X.take s,x∈X:=fun x h=>List.mem_of_mem_take h
       have m2 : ∀ x∈X.drop s,x∈X:=fun x h=>List.mem_of_mem_drop h
       have m3 : ∀ x∈Y.take (q-s),x∈Y:=fun x h=>List.mem_of_mem_take h
       have m4 : ∀ x∈Y.drop (q-s),x∈Y:=fun x h=>List.mem_of_mem_drop h
       have p1:=hX.sublist (List.take_sublist s X)
       have p2:=hX.sublist (List.drop_sublist s X)
       have p3:=hY.sublist (List.take_sublist (q-s) Y)
       have p4:=hY.sublist (List.drop_sublist (q-s) Y)
       have hdata:A++X++Y++B=A++X.take s++X.drop s++Y.take (q-s)++(Y.drop (q-s)++B):=by
         have e:A++(X.take s++X.drop s)++(Y.take (q-s)++Y.drop (q-s))++B=A++X.take s++X.drop s++Y.take (q-s)++(Y.drop (q-s)++B):=by simp only[Al4]
         rw[Ama,Ama]at e
         exact e
       have hxy:(X++Y).Perm ((X.take s++Y.take (q-s))++(X.drop s++Y.drop (q-s))):=by
         have e:X++Y=X.take s++((X.drop s++Y.take (q-s))++Y.drop (q-s)):=by
           rw[Al4 (X.drop s),Ama,← Al4,Ama]
         rw[e,Al4 (X.take s),← Al4 (Y.take (q-s))]
         exact List.Perm.append_left _ (List.Perm.append_right _ List.perm_append_comm)
       generalize X.take s=X1 at *
       generalize X.drop s=X2 at *
       generalize Y.take (q-s)=Y1 at *
       generalize Y.drop (q-s)=Y2 at *
       have hsrt:Bg (kk d a.cells dn) (X++Y)=Bg (kk d a.cells dn) (X1++Y1)++Bg (kk d a.cells dn) (X2++Y2):=by
         refine J_ hk (((Jj _ _).append (Jj _ _)).trans hxy.symm) (Zs (Jk hk _) (Jk hk _) (fun x hx y hy=> ?_))
         rcases List.mem_append.1 (G8.1 hx) with hx | hx <;> rcases List.mem_append.1 (G8.1 hy) with hy | hy
         · exact c1 x hx y hy
         · exact inv1 x hx y hy
         · exact inv2 x hx y hy
         · exact c2 x hx y hy
       have lW:(Bg (kk d a.cells dn) (X1++Y1)).length=q:=by rw[Dc,Alr];omega
       have w5:Ale .i64 (((A.length+q+(A.length+X.length):Nat):Int)-((A.length+s:Nat):Int))=((A.length+q+X2.length:Nat):Int):=by rw[As (by omega) (by omega)];omega
       simp only[w5]
       have hU:Tw (.br (decide (((A.length+q:Nat):Int)<((A.length+q+X2.length:Nat):Int))) (.br (decide (((A.length+q+X2.length:Nat):Int)<((A.length+X.length+Y.length:Nat):Int))) (.call 251 [] [D.sl ((A++Bg (kk d a.cells dn) (X1++Y1)++X2++Y2++B).map dP),.int ((A.length+q:Nat):Int),.int ((A.length+q+X2.length:Nat):Int),.int ((A.length+X.length+Y.length:Nat):Int),Dz dn a] fun yy=> .ret [D.sl ((qA yy).els)]) (.ret [D.sl ((A++Bg (kk d a.cells dn) (X1++Y1)++X2++Y2++B).map dP)])) (.ret [D.sl ((A++Bg (kk d a.cells dn) (X1++Y1)++X2++Y2++B).map dP)])) [.sl ((A++Bg (kk d a.cells dn) (X++Y)++B).map dP)]:=by
         rw[hsrt]
         have alone:X2.length=0∨Y2.length=0→Bg (kk d a.cells dn) (X2++Y2)=X2++Y2:=fun h=>by
           rcases h with h | h
           · rw[Al7.1 h]
             exact J_ hk (List.Perm.refl _) (by simpa using p4)
           · rw[Al7.1 h]
             exact J_ hk (List.Perm.refl _) (by simpa using p2)
         refine Ae (fun g1=>Ae (fun g2=> ?_) (fun g2=>Ac ?_)) (fun g1=>Ac ?_)
         · have:=IH (A++Bg (kk d a.cells dn) (X1++Y1)) X2 Y2 B (by omega) (by omega) (by omega) (by rw[Alr,lW];omega) (fun x h=>hXin x (m2 x h)) (fun y h=>hYin y (m4 y h)) p2 p4 (fun x h y h'=>hlt x (m2 x h) y (m4 y h'))
           simp only[Alr,lW]at this
           rw[show A.length+q+X2.length+Y2.length=A.length+X.length+Y.length by omega]at this
           refine Aa this (Ac ?_)
           simp
         · rw[alone (by omega)];simp
         · rw[alone (by omega)];simp
       have hT:Tw (.br (decide ((A.length:Int)<((A.length+s:Nat):Int))) (.br (decide (((A.length+s:Nat):Int)<((A.length+q:Nat):Int))) (.call 251 [] [D.sl ((A++X1++Y1++X2++Y2++B).map dP),.int (A.length:Int),.int ((A.length+s:Nat):Int),.int ((A.length+q:Nat):Int),Dz dn a] fun yy=>(.br (decide (((A.length+q:Nat):Int)<((A.length+q+X2.length:Nat):Int))) (.br (decide (((A.length+q+X2.length:Nat):Int)<((A.length+X.length+Y.length:Nat):Int))) (.call 251 [] [D.sl ((qA yy).els),.int ((A.length+q:Nat):Int),.int ((A.length+q+X2.length:Nat):Int),.int ((A.length+X.length+Y.length:Nat):Int),Dz dn a] fun yy=> .ret [D.sl ((qA yy).els)]) (.ret [D.sl ((qA yy).els)])) (.ret [D.sl ((qA yy).els)])))
           (.br (decide (((A.length+q:Nat):Int)<((A.length+q+X2.length:Nat):Int))) (.br (decide (((A.length+q+X2.length:Nat):Int)<((A.length+X.length+Y.length:Nat):Int))) (.call 251 [] [D.sl ((A++X1++Y1++X2++Y2++B).map dP),.int ((A.length+q:Nat):Int),.int ((A.length+q+X2.length:Nat):Int),.int ((A.length+X.length+Y.length:Nat):Int),Dz dn a] fun yy=> .ret [D.sl ((qA yy).els)]) (.ret [D.sl ((A++X1++Y1++X2++Y2++B).map dP)])) (.ret [D.sl ((A++X1++Y1++X2++Y2++B).map dP)])))
           (.br (decide (((A.length+q:Nat):Int)<((A.length+q+X2.length:Nat):Int))) (.br (decide (((A.length+q+X2.length:Nat):Int)<((A.length+X.length+Y.length:Nat):Int))) (.call 251 [] [D.sl ((A++X1++Y1++X2++Y2++B).map dP),.int ((A.length+q:Nat):Int),.int ((A.length+q+X2.length:Nat):Int),.int ((A.length+X.length+Y.length:Nat):Int),Dz dn a] fun yy=> .ret [D.sl ((qA yy).els)]) (.ret [D.sl ((A++X1++Y1++X2++Y2++B).map dP)])) (.ret [D.sl ((A++X1++Y1++X2++Y2++B).map dP)]))) [.sl ((A++Bg (kk d a.cells dn) (X++Y)++B).map dP)]:=by
         have alone:X1.length=0∨Y1.length=0→A++Bg (kk d a.cells dn) (X1++Y1)++X2++Y2++B=A++X1++Y1++X2++Y2++B:=fun h=>by
           have:Bg (kk d a.cells dn) (X1++Y1)=X1++Y1:=by
             rcases h with h | h
             · rw[Al7.1 h]
               exact J_ hk (List.Perm.refl _) (by simpa using p3)
             · rw[Al7.1 h]
               exact J_ hk (List.Perm.refl _) (by simpa using p1)
           rw[this,← Al4]
         refine Ae (fun g1=>Ae (fun g2=> ?_) (fun g2=> ?_)) (fun g1=> ?_)
         · have:=IH A X1 Y1 (X2++Y2++B) (by omega) (by omega) (by omega) (by simp only[Alr];omega) (fun x h=>hXin x (m1 x h)) (fun y h=>hYin y (m3 y h)) p1 p3 (fun x h y h'=>hlt x (m1 x h) y (m3 y h'))
           rw[show A.length+X1.length+Y1.length=A.length+q by omega,l1,show A++X1++Y1++(X2++Y2++B)=A++X1++Y1++X2++Y2++B by simp,show A++Bg (kk d a.cells dn) (X1++Y1)++(X2++Y2++B)=A++Bg (kk d a.cells dn) (X1++Y1)++X2++Y2++B by simp]at this
           exact Aa this hU
         · rw[alone (by omega)]at hU;exact hU
         · rw[alone (by omega)]at hU;exact hU
       refine Ae (fun g1=>Ae (fun g2=> ?_) (fun g2=> ?_)) (fun g1=> ?_)
       · have:=Ain (dn:=dn) (a:=a) (A++X1) X2 Y1 (Y2++B) (by omega) (by omega) (by simp only[Alr];omega)
         rw[← hdata,show A++X1++Y1++X2++(Y2++B)=A++X1++Y1++X2++Y2++B by simp,Alr,l1,show A.length+s+X2.length=A.length+X.length by omega,show A.length+X.length+Y1.length=A.length+q+X2.length by omega]at this
         exact Aa this hT
       · have e:A++X++Y++B=A++X1++Y1++X2++Y2++B:=by
           have:Y1 = []:=Al7.1 (by omega)
           rw[hdata,this];simp
         rw[e];exact hT
       · have e:A++X++Y++B=A++X1++Y1++X2++Y2++B:=by
           have:X2 = []:=Al7.1 (by omega)
           rw[hdata,this];simp
         rw[e];exact hT
  refine Ad (Ae (fun g=> ?_) (fun g=> ?_))
  · have w7:Ale .i64 (((A.length+q+(A.length+X.length):Nat):Int)-((A.length+X.length+Y.length:Nat):Int))=((A.length+(q-Y.length):Nat):Int):=by rw[As (by omega) (by omega)];omega
    rw[w7]
    exact search (q-Y.length) q (by omega) (by omega) (by omega) 200000 (q-Y.length) q (by omega) (by omega) (by omega) (by omega) (fun x _ y hy=>by rw[List.drop_of_length_le (by omega)]at hy;cases hy) (fun y hy=>by rw[Nat.sub_self]at hy;cases hy)
  · exact search 0 X.length (by omega) (by omega) (by omega) 200000 0 X.length (by omega) (by omega) (by omega) (by omega) (fun x hx=>by cases hx) (fun y _ x hx=>by rw[List.drop_of_length_le (by omega)]at hx;cases hx)
end
section
variable {d:Nat} {a:Arr} {dn:Bool} (ha : ∀ c∈a.cells,B7 d c=true)
include ha
theorem AjJ(l:List Nat)(hl:l.Pairwise (· < ·))(hin : ∀ x∈l,x<a.cells.length)(hlen:l.length≤50000):Sp 217 [.sl (l.map dP),.int (l.length:Int),Dz dn a] [.sl ((Bg (kk d a.cells dn) l).map dP)]:=by
 have hk:=Rr (dn:=dn) ha
 refine Af 200000 (Aj4 _ _ _ _ _) ?_
 simp only[Dp,Ak]
 generalize hkk:kk d a.cells dn=k at *
 have join2 : ∀ U V:List Nat,Bg k (Bg k U++Bg k V)=Bg k (U++V):=fun U V=>J_ hk (((Jj k (U++V)).trans ((Jj k U).append (Jj k V)).symm)) (Jk hk _)
 have pairs : ∀ (m7 bs:Nat),1≤bs→bs≤100000→Tw (Oy 200000 m7 ((SG k (2*bs) l).map dP) (l.length:Int) (Dz dn a) ((2*bs:Nat):Int)) [.sl ((Bg k l).map dP)]→∀ (m:Nat) (P rest:List Nat),P++SG k (2*bs) rest=SG k (2*bs) l→l.length=P.length+rest.length→rest.Pairwise (· < ·)→(∀ x∈rest,x<a.cells.length)→rest.length<m →
   Tw (Zn 200000 m7 m ((P++SG k bs rest).map dP) (l.length:Int) (Dz dn a) (bs:Int) (P.length:Int) ((P.length+2*bs:Nat):Int)) [.sl ((Bg k l).map dP)]:=by
  intro m7 bs hb1 hb2 cont m
  induction m with
  | zero=>intro P rest _ _ _ _ h;omega
  | succ m ih =>
   intro P rest hP hL hR hRin hm
   have w1:Ale .i64 ((P.length:Int)+(bs:Int))=((P.length+bs:Nat):Int):=by rw[As (by omega) (by omega)];omega
   have w2:Ale .i64 (2*(bs:Int))=((2*bs:Nat):Int):=by rw[As (by omega) (by omega)];omega
   have w3:Ale .i64 (((P.length+2*bs:Nat):Int)+((2*bs:Nat):Int))=((P.length+2*bs+2*bs:Nat):Int):=by rw[As (by omega) (by omega)];omega
   have w4:Ale .i64 ((bs:Int)*2)=((2*bs:Nat):Int):=by rw[As (by omega) (by omega)];omega
   simp only[Aj3,w1,w2,w3,w4]
   have hcross : ∀ t,∀ x∈rest.take t,∀ y∈rest.drop t,x<y:=fun t=>by
     rw[← Ama t rest]at hR
     exact (List.pairwise_append.1 hR).2.2
   refine Ae (fun g=> ?_) (fun g=>Ae (fun g2=> ?_) (fun g2=> ?_))
   · have e1:SG k bs rest=Bg k (rest.take bs)++(Bg k ((rest.drop bs).take bs)++SG k bs (rest.drop (2*bs))):=by
      rw[Jt hb1,if_neg (by omega),Jt hb1 (rest.drop bs),if_neg (by rw[Alu];omega),List.drop_drop,show bs+bs=2*bs by omega]
     have e2:rest.take bs++(rest.drop bs).take bs=rest.take (2*bs):=by rw[show 2*bs=bs+bs by omega,List.take_add]
     have l1:(rest.take bs).length=bs:=by rw[Alw];omega
     have l2:((rest.drop bs).take bs).length=bs:=by rw[Alw,Alu];omega
     have l3:(SG k bs (rest.drop (2*bs))).length=rest.length-2*bs:=by rw[JB hb1 _ _ (Als _),Alu]
     have l4:(rest.take (2*bs)).length=2*bs:=by rw[Alw];omega
     have sp:=YO (dn:=dn) ha (2*bs) P (Bg k (rest.take bs)) (Bg k ((rest.drop bs).take bs)) (SG k bs (rest.drop (2*bs))) (by rw[Dc,Dc];omega) (by rw[Dc];omega) (by rw[Dc];omega) (by rw[Dc,Dc,l3];omega) (fun x hx=>hRin x (List.mem_of_mem_take (G8.1 hx))) (fun y hy=>hRin y (List.mem_of_mem_drop (List.mem_of_mem_take (G8.1 hy)))) (by rw[hkk];exact Jk hk _) (by rw[hkk];exact Jk hk _) (fun x hx y hy=>hcross bs x (G8.1 hx) y (List.mem_of_mem_take (G8.1 hy)))
     rw[hkk,join2,e2,Dc,Dc,l1,l2]at sp
     rw[show P++Bg k (rest.take bs)++Bg k ((rest.drop bs).take bs)++SG k bs (rest.drop (2*bs))=P++SG k bs rest by rw[e1];simp only[Al4],show P.length+bs+bs=P.length+2*bs by omega]at sp
     refine Aa sp ?_
     have:=ih (P++Bg k (rest.take (2*bs))) (rest.drop (2*bs)) (by
       rw[← hP,Jt (bs:=2*bs) (by omega) rest,if_neg (by omega)];simp only[Al4]) (by rw[Alr,Dc,l4,Alu];omega) (hR.sublist (List.drop_sublist _ _)) (fun x hx=>hRin x (List.mem_of_mem_drop hx)) (by rw[Alu];omega)
     rw[Alr,Dc,l4]at this
     exact this
   · have l1:(rest.take bs).length=bs:=by rw[Alw];omega
     have e1:SG k bs rest=Bg k (rest.take bs)++Bg k (rest.drop bs):=by
      rw[Jt hb1,if_neg (by omega),Mw hb1 (by rw[Alu];omega)]
     have sp:=YO (dn:=dn) ha (rest.length) P (Bg k (rest.take bs)) (Bg k (rest.drop bs)) [] (by rw[Dc,Dc,Alu];omega) (by rw[Dc];omega) (by rw[Dc,Alu];omega) (by rw[Dc,Dc,Alu];simp only[Alz];omega) (fun x hx=>hRin x (List.mem_of_mem_take (G8.1 hx))) (fun y hy=>hRin y (List.mem_of_mem_drop (G8.1 hy))) (by rw[hkk];exact Jk hk _) (by rw[hkk];exact Jk hk _) (fun x hx y hy=>hcross bs x (G8.1 hx) y (G8.1 hy))
     rw[hkk,join2,Ama,Dc,Dc,l1]at sp
     simp only[Al2]at sp
     rw[show P++Bg k (rest.take bs)++Bg k (rest.drop bs)=P++SG k bs rest by rw[e1];simp only[Al4],show P.length+bs+(rest.drop bs).length=l.length by rw[Alu];omega]at sp
     refine Aa sp ?_
     rw[Mw (bs:=2*bs) (by omega) (l:=rest) (by omega)]at hP
     simp only[Ag,Dp]
     rw[hP]
     exact cont
   · rw[Mw (bs:=2*bs) (by omega) (l:=rest) (by omega)]at hP
     rw[Mw hb1 (l:=rest) (by omega),hP]
     exact cont
 have rounds : ∀ (m bs:Nat),1≤bs→bs≤100000→l.length-bs<m→Tw (Oy 200000 m ((SG k bs l).map dP) (l.length:Int) (Dz dn a) (bs:Int)) [.sl ((Bg k l).map dP)]:=by
  intro m
  induction m with
  | zero=>intro bs _ _ h;omega
  | succ m ih =>
   intro bs hb1 hb2 hm
   have w2:Ale .i64 (2*(bs:Int))=((2*bs:Nat):Int):=by rw[As (by omega) (by omega)];omega
   simp only[Aj2,w2]
   refine Ae (fun g=> ?_) (fun g=>Ac ?_)
   · have:=pairs m bs hb1 hb2 (ih (2*bs) (by omega) (by omega) (by omega)) 200000 [] l (by simp) (by simp) hl hin (by omega)
     simpa using this
   · rw[Mw hb1 (by omega)]
 have first : ∀ (m:Nat) (P rest:List Nat),P++SG k 20 rest=SG k 20 l→l.length=P.length+rest.length→rest.Pairwise (· < ·)→(∀ x∈rest,x<a.cells.length)→rest.length<m →
   Tw (Zm 200000 m ((P++rest).map dP) (l.length:Int) (Dz dn a) 20 (P.length:Int) ((P.length+20:Nat):Int)) [.sl ((Bg k l).map dP)]:=by
  intro m
  induction m with
  | zero=>intro P rest _ _ _ _ h;omega
  | succ m ih =>
   intro P rest hP hL hR hRin hm
   have w1:Ale .i64 (((P.length+20:Nat):Int)+20)=((P.length+20+20:Nat):Int):=by rw[As (by omega) (by omega)];omega
   simp only[Aj1,w1]
   refine Ae (fun g=> ?_) (fun g=> ?_)
   · have l1:(rest.take 20).length=20:=by rw[Alw];omega
     have sp:=NR (dn:=dn) ha P (rest.take 20) (rest.drop 20) (hR.sublist (List.take_sublist _ _)) (fun x hx=>hRin x (List.mem_of_mem_take hx)) (by rw[l1,Alu];omega)
     rw[hkk,Al4 P,Ama,l1]at sp
     refine Aa sp ?_
     have:=ih (P++Bg k (rest.take 20)) (rest.drop 20) (by
       rw[← hP,Jt (bs:=20) (by omega) rest,if_neg (by omega)];simp only[Al4]) (by rw[Alr,Dc,l1,Alu];omega) (hR.sublist (List.drop_sublist _ _)) (fun x hx=>hRin x (List.mem_of_mem_drop hx)) (by rw[Alu];omega)
     rw[Alr,Dc,l1]at this
     exact this
   · have sp:=NR (dn:=dn) ha P rest [] hR hRin (by simp only[Alz];omega)
     simp only[Al2,hkk,← hL]at sp
     refine Aa sp ?_
     rw[Mw (bs:=20) (by omega) (l:=rest) (by omega)]at hP
     simp only[Ag,Dp]
     rw[hP]
     exact rounds 200000 20 (by omega) (by omega) (by omega)
 have:=first 200000 [] l (by simp) (by simp) hl hin (by omega)
 simpa using this
theorem AjC(l:List Nat)(hl:l.Pairwise (· < ·))(hin : ∀ x∈l,x<a.cells.length)(hlen:l.length≤50000):Sp 155 [.sl (l.map dP),Dz dn a] [.sl ((Bg (kk d a.cells dn) l).map dP)]:=by
 refine Af 0 (Ajx _ _ _ _) ?_
 simp only[Dp,Ali]
 exact Aa (AjJ ha l hl hin hlen) (Ac rfl)
end
def Hl(a:Arr)(dn:Bool):List Nat:=Bg (kk 8 a.cells dn) (Amd a.cells.length)
def Qa(a:Arr)(dn:Bool):Arr×Int:=if a.shape.length=1 then (Dh ((Hl a dn).map (fun (i:Nat)=>(i:Int)+1)) (A5 a),0) else (.none,5)
theorem Agi(n:Nat):(Amd n).Pairwise (· < ·):=List.pairwise_lt_range
theorem Af4(a:Arr)(dn:Bool):(Hl a dn).length=a.cells.length:=by unfold Hl;rw[Dc,List.length_range]
theorem RC{a:Arr}{dn:Bool}{i:Nat} : i∈Hl a dn↔i<a.cells.length:=by unfold Hl;rw[G8,List.mem_range]
theorem NB(a:Arr)(dn:Bool)(ha:Ba 8 a=true):Sp 69 [dA a,.bool dn] [dA (Qa a dn).1,.int (Qa a dn).2]:=by
 have la:=(Ev ha).1
 have hc:=(Dv ha).2
 refine Af 4096 (Ac7 _ _ _) ?_
 unfold Qa
 simp only[Ah,Cq,Gp,Amg]
 refine Ae (fun h=>Ac (by rw[if_neg (by omega)])) (fun h=> ?_)
 rw[if_pos (by omega)]
 refine Ad (Ad (Av (by simp only[Aj];omega) ?_))
 have hol:=Af4 a dn
 have key:=Da a.cells.length (fun m k (_:Unit)=>Ux 4096 m ((Amd k).map dP++Alh (a.cells.length-k) (D.int 0)) (a.cells.length:Int) (k:Int) (dA a) dn 0 0) (fun _ _=>[dA (Dh ((Hl a dn).map (fun (i:Nat)=>(i:Int)+1)) (A5 a)),.int 0]) (fun _ _=>True)
  (fun m s _=>by
   have sp:=AjC (dn:=dn) hc (Amd a.cells.length) (Agi _) (fun x hx=>List.mem_range.1 hx) (by rw[List.length_range];omega)
   simp only[MZ,Cq,Gp]
   rw[Nat.sub_self,List.replicate_zero,Al2]
   refine Aq (Aa sp ?_)
   rw[show Bg (kk 8 a.cells dn) (Amd a.cells.length)=Hl a dn from rfl]
   simp only[Ag,Dp,Ali,hol,Aln]
   refine Ad (Ad (Av (by simp only[Aj];omega) ?_))
   have key2:=B1 (Hl a dn) (fun m k (cs:List D)=>Uw 4096 m cs ((Hl a dn).map dP) (a.cells.length:Int) (k:Int) (dA a) 0 0) (fun _ _=>[dA (Dh ((Hl a dn).map (fun (i:Nat)=>(i:Int)+1)) (A5 a)),.int 0])
    (fun rest cs=>∃ pre:List Nat,Hl a dn=pre++rest∧cs=(pre.map (fun (i:Nat)=>Be ((i:Int)+1))).map dC++Alh rest.length (dC Cell.none))
    (fun m k cs hk hI=>by
     obtain ⟨pre,h1,rfl⟩:=hI
     rw[Al2]at h1
     simp only[MY,Alz,List.replicate_zero,Al2]
     have hb : ∀ c∈pre.map (fun (i:Nat)=>Be ((i:Int)+1)),SmlC 0 c:=fun c hcc=>by
      obtain ⟨i,hi,rfl⟩:=List.mem_map.1 hcc
      have:=RC.1 (by rw[h1];exact hi:i∈Hl a dn)
      exact Ry (Et (by omega) (by omega)) 0
     refine Aq (Aa (Mz _ hb (by rw[Ali,← h1,hol];omega)) (Aa (Em a (Ei ha).fits) ?_))
     simp only[Ag,D5,Lj]
     refine Aa (Fz _ (A5 a)) (Ac ?_)
     simp only[Ag,h1]
     simp[C8,Jp,Dh]
     rfl)
    (fun m k cs i rest hdr hI ih=>by
     obtain ⟨h1,h2,h3⟩:=Bv hdr
     obtain ⟨pre,hp,rfl⟩:=hI
     have hk:k=(pre.map (fun (i:Nat)=>Be ((i:Int)+1))).length:=by
      have:=congrArg List.length hdr
      rw[hp]at this h1
      simp at this h1 ⊢; omega
     have hcl:((pre.map (fun (i:Nat)=>Be ((i:Int)+1))).map dC++Alh (rest.length+1) (dC Cell.none)).length=a.cells.length:=by rw[← hol,hp];simp
     have hi:=RC.1 (Alm h2)
     have w1:Ale .i64 ((i:Int)+1)=(i:Int)+1:=As (by omega) (by omega)
     simp only[MY,Ali,hol,Aln,Ar h2,LL,w1,Bb k,All]
     simp only[hcl]
     refine Ad (Ad (Ad (Aa (Hz _ (Et (by omega) (by omega))) (Ad (Ad ?_)))))
     simp only[Ag]
     rw[show (((pre.map (fun (i:Nat)=>Be ((i:Int)+1))).map dC++Alh (rest.length+1) (dC Cell.none)).set k (dC (Be ((i:Int)+1))))=(((pre++[i]).map (fun (i:Nat)=>Be ((i:Int)+1))).map dC++Alh rest.length (dC Cell.none)) by
      rw[hk,K5 (f:=dC) (z:=dC Cell.none)];simp]
     exact ih _ ⟨pre++[i],by rw[hp];simp,rfl⟩)
    4096 0 (Alh a.cells.length (dC Cell.none)) (by omega) (by omega) ⟨[],by simp,by simp[hol]⟩
   exact key2)
  (fun m k s hk _ ih=>by
   have ih:=ih () trivial
   simp only[MZ,Alr,Ali,List.length_range,Amg,Aln,Bb k]
   refine Ad (Ad (Ad ?_))
   have e:=K5 (f:=dP) (z:=D.int 0) (Amd k) k (a.cells.length-(k+1))
   rw[List.length_range,← List.range_succ,show a.cells.length-(k+1)+1=a.cells.length-k by omega]at e
   rw[show D.int (k:Int)=dP k from rfl,e]
   exact ih)
  4096 0 () (by omega) (by omega) trivial
 simpa using key
def ahead(k:Nat→Nat→Int)(i j:Nat):Bool:=decide (k j i<0∨(k j i=0∧j<i))
def iN(l:List Nat):List Int:=l.map (fun (x:Nat)=>(x:Int))
theorem Lw(l:List Nat):(iN l).length=l.length:=by simp[iN]
theorem NG(l:List Nat):(iN l).map D.int=l.map dP:=by unfold iN;rw[List.map_map];rfl
theorem AcB{l:List Int}(h : ∀ x∈l,0≤x) : ∃ m:List Nat,l=iN m:=by
 refine ⟨l.map Alf,?_⟩
 unfold iN
 rw[List.map_map]
 conv=>lhs;rw[← List.map_id l]
 refine List.map_congr_left (fun x hx=> ?_)
 have:=h x hx
 simp only[id,Function.comp]
 omega
def Cr:List Nat→Nat
 | []=>1
 | x::xs=>x*Cr xs
def Eb(s:List Nat):Nat:=(A0 (iN s)).1.toNat
theorem SR : ∀ (l:List Nat) (p:Nat),Bd (iN l) (p:Int)≠0→Bd (iN l) (p:Int)=((p*Cr l:Nat):Int)
 | [],p,_=>by simp[iN,Bd,Cr]
 | x::xs,p,h=>by
  simp only[iN,Aml,Bd]at h ⊢
  split at h
  · exact absurd rfl h
  · rename_i h2
    rw[if_neg h2]
    have:=SR xs (p*x) (by simpa [iN]using h)
    simp only[iN,Int.natCast_mul]at this
    rw[this]
    simp only[Cr,Int.natCast_mul,Int.mul_assoc]
theorem SO : ∀ (l m:List Nat),Cr (l++m)=Cr l*Cr m
 | [],m=>by simp[Cr]
 | x::xs,m=>by simp only[List.cons_append,Cr,SO xs m,Nat.mul_assoc]
theorem S_{s:List Nat}(h:(A0 (iN s)).2=0):s.length≤6∧((0∈s∧Eb s=0)∨((∀ x∈s,1≤x∧x≤2048)∧Eb s=Cr s∧1≤Eb s∧Eb s≤2048)):=by
 have hl:=F1 (iN s)
 obtain ⟨h1,h2⟩:=Iw (s:=iN s) (c:=(A0 (iN s)).1) (Prod.ext rfl h)
 rw[Lw]at h1
 refine ⟨h1,?_⟩
 rcases h2 with ⟨h2,h3⟩ | ⟨h2,h3,h4⟩
 · refine .inl ⟨?_,by unfold Eb;rw[h3];rfl⟩
   obtain ⟨x,hx,he⟩:=List.mem_map.1 h2
   have:x=0:=by omega
   rw[← this];exact hx
 · refine .inr ⟨fun x hx=> ?_,?_,?_,?_⟩
   · have:=h2 (x:Int) (List.mem_map.2 ⟨x,hx,rfl⟩);omega
   · have:=SR s 1 (by rw[show ((1:Nat):Int)=1 from rfl,h3];exact h4)
     rw[show ((1:Nat):Int)=1 from rfl,h3]at this
     unfold Eb
     rw[this];omega
   · unfold Eb;omega
   · unfold Eb;omega
end Go.Proofs.YtokkbgpgaheakaaGreat
namespace Go
open Go.RowKit
theorem WH(P:Program)(w:World)(dT sT ty elem:TypeId)(g o dLen dCap:Nat)(a:Addr)(sLen sCap sz:Nat)(cur:Array Value)(t:TypeId)(cs:List Value)
  (hu:P.underlying dT=some (.slice elem)) (hs:(P.info? elem).map (·.size)=some sz)
  (hg:w.heap[g]? = some (.cells cur t (0,0))) (hn:cs.length=Nat.min sLen dLen*sz)
  (hsrc : ∀ j v,cs[j]? = some v→w.cell? (a.add j)=some v) (hfit:o+cs.length≤cur.size) (h1 : ∀ v∈cs,v.oneCell'=true) :
  (Builtin.copy_ #[dT,sT] ty #[.slice (some ⟨g,o,none⟩) dLen dCap,.slice (some a) sLen sCap]).run P w =
   .ok (goInt (Nat.min sLen dLen:Nat)) (w.setRow g (cur.toList.take o++cs++cur.toList.drop (o+cs.length)).toArray):=by
 have hl:=run_loadCells_list (P:=P) w a cs hsrc
 have hst:=run_storeCells_at P g o t cs 0 cur w hg (by simpa using hfit) h1
 cases hq:P.info? elem with
 | none=>simp[hq]at hs
 | some i =>
  have hi:i.size=sz:=by simpa [hq]using hs
  rw[hn]at hl
  simp[Builtin.copy_,run_underlying hu,Builtin.lenOf,Builtin.firstCells,sizeOf,typeInfo,hq,hi,hl,hst]
theorem WG(P:Program)(w:World)(dT sT ty elem:TypeId)(d a:Option Addr)(dLen dCap sLen sCap sz:Nat)(hu:P.underlying dT=some (.slice elem))(hs:(P.info? elem).map (·.size)=some sz)(hn:Nat.min sLen dLen=0) :
  (Builtin.copy_ #[dT,sT] ty #[.slice d dLen dCap,.slice a sLen sCap]).run P w = .ok (goInt 0) w:=by
 cases hq:P.info? elem with
 | none=>simp[hq]at hs
 | some i =>
  have hl : ∀ (x:Addr),(loadCells x 0).run P w = .ok #[] w:=fun x=>by simpa using run_loadCells_list (P:=P) w x [] (by simp)
  cases d <;> cases a <;> simp[Builtin.copy_,run_underlying hu,Builtin.lenOf,Builtin.firstCells,sizeOf,typeInfo,hq,hn,storeCells,hl]
theorem AkT{P:Program}{w:World}{ops:Array Oper}{rest:List Oper}{o:Oper}{a:Act}{Q:Exit→Act→World→Prop}(hgd:o.guard=none)(d s:Operand)(dT sT:TypeId)
   (ho:o.op = .call { callee:= .builtin .copy,args:= #[d,s],argTypes:= #[dT,sT] }) (elem:TypeId) (sz:Nat) (hz:0<sz) (hu:P.underlying dT=some (.slice elem)) (hsz:(P.info? elem).map (·.size)=some sz)
   (dp sp:Option Addr) (dLen dCap sLen sCap:Nat) (hd:a.eval d = .slice dp dLen dCap) (hs:a.eval s = .slice sp sLen sCap)
   (g off:Nat) (cur:List Value) (t:TypeId) (hg:w.heap[g]? = some (.cells cur.toArray t (0,0))) (cs:List Value) (hn:cs.length=Nat.min sLen dLen*sz)
   (hpos:0<cs.length→dp=some ⟨g,off,none⟩∧∃ ad,sp=some ad∧∀ j v,cs[j]? = some v→w.cell? (ad.add j)=some v)
   (hfit:off+cs.length≤cur.length) (h1 : ∀ v∈cs,v.oneCell'=true) (B:Nat) (w0:World) (hb:Below B w0 w) (hBg:B≤g)
   (h : ∀ w',Hid (w'.heap[g]? = some (.cells (splice cur off cs).toArray t (0,0)))→Below B w0 w'→wpList P ops Q rest (a.put o.dst (goInt (Nat.min sLen dLen:Nat))) w') :
   wpList P ops Q (o::rest) a w:=by
 refine wpList_plain hgd fun K hK=> ?_
 by_cases h0:cs.length=0
 · have hm:Nat.min sLen dLen=0:=by
    rcases Nat.eq_zero_or_pos (Nat.min sLen dLen) with h | h
    · exact h
    · have:=Nat.mul_pos h hz;omega
   obtain rfl:cs = []:=List.eq_nil_of_length_eq_zero h0
   have hrun:=WG P w dT sT o.type elem dp sp dLen dCap sLen sCap sz hu hsz hm
   unfold Oper.wp
   simp[execOp,ho,resolve,invoke,builtin,hd,hs,hrun,Result.andThen]
   refine hK _ _ ?_
   have:=h w (show _=_ by simpa [splice]using hg) hb
   rw[hm]at this
   exact this
 · obtain ⟨rfl,ad,rfl,hsrc⟩:=hpos (by omega)
   have hrun:=WH P w dT sT o.type elem g off dLen dCap ad sLen sCap sz cur.toArray t cs hu hsz hg hn hsrc (by simpa using hfit) h1
   unfold Oper.wp
   simp[execOp,ho,resolve,invoke,builtin,hd,hs,hrun,Result.andThen]
   refine hK _ _ ?_
   exact h _ (show _=_ by simpa [splice]using setRow_heap w g _ _ t _ hg) (below_setRow hb hBg _)
theorem AjK{P:Program}{ops:Array Oper}{o:Oper}{a:Act}{w:World}{K:Act→World→Prop}{Q:Exit→Act→World→Prop}{E:Prop}(hgd:o.guard=none)(d s:Operand)(dT sT:TypeId)
   (ho:o.op = .call { callee:= .builtin .copy,args:= #[d,s],argTypes:= #[dT,sT] }) (elem:TypeId) (sz:Nat) (hz:0<sz) (hu:P.underlying dT=some (.slice elem)) (hsz:(P.info? elem).map (·.size)=some sz)
   (dp sp:Option Addr) (dLen dCap sLen sCap:Nat) (hd:a.eval d = .slice dp dLen dCap) (hs:a.eval s = .slice sp sLen sCap)
   (g off:Nat) (cur:List Value) (t:TypeId) (hg:w.heap[g]? = some (.cells cur.toArray t (0,0))) (cs:List Value) (hn:cs.length=Nat.min sLen dLen*sz)
   (hpos:0<cs.length→dp=some ⟨g,off,none⟩∧∃ ad,sp=some ad∧∀ j v,cs[j]? = some v→w.cell? (ad.add j)=some v)
   (hfit:off+cs.length≤cur.length) (h1 : ∀ v∈cs,v.oneCell'=true) (B:Nat) (w0:World) (hb:RowKit.Below B w0 w) (hBg:B≤g)
   (h : ∀ w',RowKit.Hid (w'.heap[g]? = some (.cells (splice cur off cs).toArray t (0,0)))→RowKit.Below B w0 w'→K (a.put o.dst (goInt (Nat.min sLen dLen:Nat))) w') :
   if Region.wanted o (yielded ops a.tmps)=true then Oper.wp P o a w K Q else E:=by
 have hw:Region.wanted o (yielded ops a.tmps)=true:=by simp[Region.wanted,hgd]
 rw[if_pos hw]
 by_cases h0:cs.length=0
 · have hm:Nat.min sLen dLen=0:=by
    rcases Nat.eq_zero_or_pos (Nat.min sLen dLen) with h | h
    · exact h
    · have:=Nat.mul_pos h hz;omega
   obtain rfl:cs = []:=List.eq_nil_of_length_eq_zero h0
   have hrun:=WG P w dT sT o.type elem dp sp dLen dCap sLen sCap sz hu hsz hm
   unfold Oper.wp
   simp[execOp,ho,resolve,invoke,builtin,hd,hs,hrun,Result.andThen]
   have:=h w (show _=_ by simpa [splice]using hg) hb
   rw[hm]at this
   exact this
 · obtain ⟨rfl,ad,rfl,hsrc⟩:=hpos (by omega)
   have hrun:=WH P w dT sT o.type elem g off dLen dCap ad sLen sCap sz cur.toArray t cs hu hsz hg hn hsrc (by simpa using hfit) h1
   unfold Oper.wp
   simp[execOp,ho,resolve,invoke,builtin,hd,hs,hrun,Result.andThen]
   exact h _ (show _=_ by simpa [splice]using setRow_heap w g _ _ t _ hg) (below_setRow hb hBg _)
end Go
namespace Go.Proofs.YtokkbgpgaheakaaGreat
open Go.RowKit
def Cn(k:Nat)(xs:List Value):List Value:=(Alh k xs).flatten
theorem J7(k:Nat)(xs:List Value):(Cn k xs).length=k*xs.length:=by unfold Cn;rw[List.length_flatten];simp
theorem VI(k m:Nat)(xs:List Value):Cn k xs++Cn m xs=Cn (k+m) xs:=by
 unfold Cn;rw[← List.flatten_append,List.replicate_append_replicate]
theorem Aig(xs:List Value):Cn 1 xs=xs:=by simp[Cn]
theorem VM(k:Nat)(xs:List Value):Cn (k+1) xs=xs++Cn k xs:=by unfold Cn;rw[List.replicate_succ];rfl
theorem VK{k:Nat}{xs:List Value}{v:Value}(h:v∈Cn k xs):v∈xs:=by
 unfold Cn at h
 obtain ⟨l,hl,hv⟩:=List.mem_flatten.1 h
 rwa[List.eq_of_mem_replicate hl]at hv
theorem VJ{xs:List Value} : ∀ {k i j:Nat},i<k→j<xs.length→(Cn k xs)[i*xs.length+j]? = xs[j]?
 | 0,i,j,h,_=>by omega
 | k+1,0,j,_,hj=>by rw[VM,Nat.zero_mul,Amn,Al5 hj]
 | k+1,i+1,j,h,hj=>by
  rw[VM,List.getElem?_append_right (by rw[Nat.succ_mul];omega),show (i+1)*xs.length+j-xs.length=i*xs.length+j by rw[Nat.succ_mul];omega]
  exact VJ (by omega) hj
theorem YH{xs cur:List Value}{k m:Nat}(h:cur.take (k*xs.length)=Cn k xs)(hk:(k+m)*xs.length≤cur.length):(splice cur (k*xs.length) (Cn m xs)).take ((k+m)*xs.length)=Cn (k+m) xs∧(splice cur (k*xs.length) (Cn m xs)).length=cur.length:=by
 have e:(k+m)*xs.length=k*xs.length+m*xs.length:=Nat.add_mul _ _ _
 refine ⟨?_,length_splice _ _ _ (by rw[J7];omega)⟩
 unfold splice
 rw[h,← Al4,VI,List.take_append_of_le_length (by rw[J7];omega),Amb (by rw[J7];omega)]
def QInv(w2:World)(G n:Nat)(xs:List Value)(iv:Value)(wr:World):Prop:=∃ (k:Nat) (cur:List Value),iv = .int .i64 k∧k≤n∧(0<n→0<k)∧cur.length=n*xs.length∧cur.take (k*xs.length)=Cn k xs∧wr.heap[G]? = some (.cells cur.toArray 67 (0,0))∧Below G w2 wr
theorem QInv.start {w2 w3:World} {G n:Nat} {xs X:List Value} (hX:X.length=n*xs.length) (h:w3.heap[G]? = some (.cells (splice X 0 (Cn (Nat.min 1 n) xs)).toArray 67 (0,0))) (hb:Below G w2 w3):QInv w2 G n xs (.int .i64 ((Nat.min 1 n:Nat):Int)) w3:=by
 have h2:Nat.min 1 n≤n:=Nat.min_le_right 1 n
 have h3:Nat.min 1 n=if 1≤n then 1 else n:=Nat.min_def
 have hm:=Al1 xs.length h2
 obtain ⟨s1,s2⟩:=YH (xs:=xs) (cur:=X) (k:=0) (m:=Nat.min 1 n) (by rw[Nat.zero_mul];rfl) (by rw[Amn];omega)
 rw[Amn,Nat.zero_mul]at s1
 rw[Nat.zero_mul]at s2
 exact ⟨Nat.min 1 n,_,rfl,h2,fun h=>by rw[h3];split <;> omega,by omega,s1,h,hb⟩
theorem QInv.next {w2 w4:World} {G n k:Nat} {xs cur:List Value} (hk:k<n) (hp:0<k) (hl:cur.length=n*xs.length) (ht:cur.take (k*xs.length)=Cn k xs) (h:w4.heap[G]? = some (.cells (splice cur (k*xs.length) (Cn (Nat.min k (n-k)) xs)).toArray 67 (0,0))) (hb:Below G w2 w4):QInv w2 G n xs (.int .i64 ((k+Nat.min k (n-k):Nat):Int)) w4∧n-(k+Nat.min k (n-k))<n-k:=by
 have h3:Nat.min k (n-k)=if k≤n-k then k else n-k:=Nat.min_def
 have h4:0<Nat.min k (n-k)∧k+Nat.min k (n-k)≤n:=by rw[h3];split <;> omega
 have hm:=Al1 xs.length h4.2
 obtain ⟨s1,s2⟩:=YH (xs:=xs) (cur:=cur) (k:=k) (m:=Nat.min k (n-k)) ht (by omega)
 exact ⟨⟨_,_,rfl,h4.2,fun _=>by omega,by omega,s1,h,hb⟩,by omega⟩
def Aal(n:Nat)(xs:List Value)(w:World)(e:Ending)(w':World):Prop:=∃ G,e = .returned (.slice (some ⟨G,0,none⟩) n n)∧w.heap.size≤G∧w'.heap[G]? = some (.cells (Cn n xs).toArray 67 (0,0))∧Ext w w'
theorem AbM:Elt Tryz.prog 24 67 7 104 :=
 ⟨Tryz.underlying24,by
  obtain ⟨i,hi,h1,h2,h3⟩:=info_parts (P:=Tryz.prog) (e:=67) (z:= .agg #[.int .u64 0,.int .i64 0,.bool false,.slice none 0 0,.slice none 0 0,.int .i64 0,.slice none 0 0]) (size:=7) (bytes:=104) (by kernel_rfl)
  exact ⟨i,_,hi,h1,h2,h3,rfl⟩,by decide⟩
theorem AjE{w w2:World}{ad:Addr}{xs:List Value}(h : ∀ j v,xs[j]? = some v→w.cell? (ad.add j)=some v)(hx:Ext w w2)(m:Nat)(hm:m≤1):0<(Cn m xs).length→∃ ad',some ad=some ad'∧∀ j v,(Cn m xs)[j]? = some v→w2.cell? (ad'.add j)=some v:=by
 intro hp
 have:m=1:=by
  rcases Nat.lt_or_ge 0 m with h | h
  · omega
  · have:m=0:=by omega
    subst this;simp[Cn]at hp
 subst this
 rw[Aig]
 refine ⟨ad,rfl,fun j v hv=> ?_⟩
 have h0:=h j v hv
 have hb:ad.block<w.heap.size:=by
  rcases Nat.lt_or_ge ad.block w.heap.size with g | g
  · exact g
  · have hn:w.heap[ad.block]? = none:=Array.getElem?_eq_none g
    have e:(ad.add j).block=ad.block:=by unfold Addr.add;split <;> rfl
    unfold World.cell? at h0
    rw[e,hn]at h0
    cases h0
 have e:(ad.add j).block=ad.block:=by unfold Addr.add;split <;> rfl
 rw[← h0]
 exact World.cell?_of_block (by rw[e];exact hx.block _ hb)
theorem AjG{w:World}{G k:Nat}{xs cur:List Value}{T:TypeId}(h:w.heap[G]? = some (.cells cur.toArray T (0,0)))(ht:cur.take (k*xs.length)=Cn k xs)(m:Nat)(hm:m≤k) : ∀ j v,(Cn m xs)[j]? = some v→w.cell? ((⟨G,0,none⟩:Addr).add j)=some v:=by
 intro j v hv
 have hj:=(Alj.1 hv).1
 rw[J7]at hj
 have hmk:=Al1 xs.length hm
 have e:Cn k xs=Cn m xs++Cn (k-m) xs:=by rw[VI];congr 1;omega
 have hcj:cur[j]? = some v:=by
  have h1:(cur.take (k*xs.length))[j]? = some v:=by rw[ht,e,Al5 (by rw[J7];exact hj)];exact hv
  rw[List.getElem?_take,if_pos (by omega)]at h1
  exact h1
 have ea:(⟨G,0,none⟩:Addr).add j=⟨G,j,none⟩:=by unfold Addr.add;split <;> simp_all
 rw[ea]
 unfold World.cell?
 simp[h,hcj]
set_option maxHeartbeats 2000000 in
theorem Aid(ad:Addr)(c n:Nat)(xs:List Value)(w:World)(hn:n≤1000000)(hx7:xs.length=7)(h1 : ∀ v∈xs,v.oneCell'=true)(hs : ∀ j v,xs[j]? = some v→w.cell? (ad.add j)=some v):Calls Tryz.prog 233 #[.slice (some ad) 1 c,.int .i64 n] w (Aal n xs w):=by
 have HS:=Lib.hid hs
 have HO:=Lib.hid h1
 have H7:=Lib.hid hx7
 clear hs h1 hx7
 have hu:Tryz.prog.underlying 24=some (.slice 67):=by kernel_rfl
 have hz:(Tryz.prog.info? 67).map (·.size)=some 7:=by kernel_rfl
 have HU:=Lib.hid hu
 have HZ:=Lib.hid hz
 clear hu hz
 go_enter Tryz.func233,Tryz.ntmps233
 go_wp2_with (first
  | (go_at_call 231;refine (PS n (by omega) _).mono ?_;rintro e w1 ⟨rfl,hx1⟩)
  | (at_make;refine ZW AbM rfl _ _ rfl n rfl rfl (by omega) (by omega) (by omega) (by unfold maxLen;omega) ?_;intro G w2 X hG HG hX hx2;have HX:=Lib.hid hX;clear hX)
  | (refine AkT rfl (.tmp 31) (.tmp 32) 24 24 rfl 67 7 (by decide) HU.out HZ.out (some ⟨G,0,none⟩) (some ad) n n 1 c (by simp[Act.eval,Act.put]) (by simp[Act.eval,Act.put]) G 0 X 67 HG.out (Cn (Nat.min 1 n) xs) (by rw[J7,H7.out]) (fun hp=>⟨rfl,AjE HS.out (hx1.trans hx2) _ (Nat.min_le_left _ _) hp⟩) (by have h1:=HX.out;have h2:Nat.min 1 n≤n:=Nat.min_le_right 1 n;rw[J7,H7.out];omega) (fun v hv=>HO.out v (VK hv)) G w2 (Below.refl _ _) (Als _) ?_;intro w3 HG3 hb3))
 go_loopw [8] (QInv w2 G n xs) (fun iv _=>n-(intOf iv).toNat)
 case atStart=>exact QInv.start (by rw[H7.out];exact HX.out) HG3.out hb3
 case round =>
  obtain ⟨k,cur,rfl,hk,hp,hl,ht,hh,hb⟩:=hrel
  rw[H7.out]at hl ht
  have HT:=Lib.hid ht
  have HH:=Lib.hid hh
  have HB:=Lib.hid hb
  have HL:=Lib.hid hl
  clear ht hh hb hl
  by_cases hlt:k<n
  · have hpk:0<k:=hp (by omega)
    clear hp
    have HSR:=Lib.hid (AjG (w:=wr.drew) (xs:=xs) HH.out (by rw[H7.out];exact HT.out) (Nat.min k (n-k)) (Nat.min_le_left _ _))
    have HNE:=Lib.hid (show (if n=k then some (⟨G,0,none⟩:Addr) else some ⟨G,k*7,none⟩)=some ⟨G,k*7,none⟩ from if_neg (by omega))
    go_wp2_with fail
    go_region_law (refine AjK rfl (.tmp 41) (.tmp 44) 24 24 rfl 67 7 (by decide) HU.out HZ.out (if n=k then some ⟨G,0,none⟩ else some ⟨G,k*7,none⟩) (some ⟨G,0,none⟩) (n-k) (n-k) k n (by simp[Act.eval,Act.put]) (by simp[Act.eval,Act.put]) G (k*7) cur 67 HH.out (Cn (Nat.min k (n-k)) xs) (by rw[J7,H7.out]) (fun _=>⟨HNE.out,_,rfl,HSR.out⟩) (by have h1:=HL.out;have h2:Nat.min k (n-k)≤n-k:=Nat.min_le_right k (n-k);rw[J7,H7.out];omega) (fun v hv=>HO.out v (VK hv)) G w2 HB.out.drew (Als _) ?_;intro w4 HG4 hb4)
    go_wp2
    go_roundw
    case rel =>
     rw[X_ hlt (by omega)]
     exact (QInv.next (xs:=xs) (cur:=cur) hlt hpk (by rw[H7.out];exact HL.out) (by rw[H7.out];exact HT.out) (by rw[H7.out];exact HG4.out) hb4).1
    case measure =>
     rw[X_ hlt (by omega)]
     exact (QInv.next (xs:=xs) (cur:=cur) hlt hpk (by rw[H7.out];exact HL.out) (by rw[H7.out];exact HT.out) (by rw[H7.out];exact HG4.out) hb4).2
  · have hkn:k=n:=by omega
    subst hkn
    go_wp2_with fail
    go_ret
    have hh:=HH.out
    have hcur:cur=Cn k xs:=by
     have h1:=HT.out
     rw[Amb (by have:=HL.out;omega)]at h1
     exact h1
    rw[hcur]at hh
    exact ⟨G,rfl,Nat.le_trans hx1.size hG,hh,Below.trans (hx1.trans hx2) (Below.mono HB.out (Nat.le_trans hx1.size hG))⟩
theorem Aie(n:Nat)(x:Cell)(hn:n≤1000000):Sp 233 [.sl [dC x],.int (n:Int)] [.sl (Alh n (dC x))]:=by
 refine Zt La Tryz.func233 (by kernel_rfl) (by kernel_rfl) (by kernel_rfl) (fun w M vs hM _ hlv hrd=> ?_)
 have hps:Tryz.f233.params.toList = [24,3]:=by kernel_rfl
 have hu:Tryz.prog.underlying 24=some (.slice 67):=by kernel_rfl
 have hc7:Tryz.prog.cellsOf 67=7:=by kernel_rfl
 have hlen:vs.length=2:=by rw[hlv];rfl
 match vs,hlen with
 | [va,vb],_ =>
  rw[hps]at hrd
  have ra:=hrd 0 _ _ _ rfl rfl rfl
  obtain ⟨rfl,_⟩:=TH (hrd 1 _ _ _ rfl rfl rfl)
  have hva : ∃ A c,va = .slice A 1 c:=by
   obtain ⟨h1,h2,h3⟩:=ra
   have ha:C6 va=false:=by rw[h3];kernel_rfl
   cases h1 with
   | @sl _ e _ _ A cap bk off ht hc h4 h5 hA hh =>
    rw[He ha]at hc
    exact ⟨A,cap,by simpa using hc⟩
  obtain ⟨A,c,rfl⟩:=hva
  obtain ⟨_,_,_,bk,off,hA,hel⟩:=XJ ra.rd hu
  obtain ⟨rfl,hMb,hbs⟩:=hA (by simp)
  obtain ⟨news,hnl,hsrc,hone,hnr⟩:=CE La (by rw[hc7];decide) hel
  have hn7:news.length=7:=by rw[hnl,hc7];rfl
  have hx0:=hnr 0 (dC x) rfl
  refine (Aid _ c n news w hn hn7 hone hsrc).mono ?_
  rintro e w' ⟨G,rfl,hG,hv,hx⟩
  refine ⟨[_],rfl,rfl,fun i t u ht hu'=> ?_,hx⟩
  rw[show Tryz.f233.resultTypes.toList = [24] by kernel_rfl]at ht
  match i with
  | 0 =>
   cases ht;cases hu'
   have hGs : ¬ M G:=fun hm=>by have:=hM G hm;omega
   have hGl:G<w'.heap.size:=(Amc.1 hv).1
   refine ⟨.sl (e:=67) (A:=some ⟨G,0,none⟩) (cap:=n) (bk:=G) (off:=0) hu (by simp;rfl) (by simp) (by unfold maxLen;omega) (fun _=>⟨rfl,hGs,hGl⟩) (fun i y hy=> ?_),by kernel_rfl,by kernel_rfl⟩
   have hi:i<n:=by have:=(Alj.1 hy).1;simpa using this
   have hy':y=dC x:=by
    have:=Alm hy
    exact List.eq_of_mem_replicate this
   subst hy'
   have h1:=hx0.mono (w':=w') (M':=M) hx.size (fun b _ hb=>hx.block b hb) (fun b hb _=>hb)
   refine h1.congr (fun j hj=> ?_) (by show 0<Tryz.prog.cellsOf 67;rw[hc7];decide)
   have hj7:j<7:=by
    have:j<Tryz.prog.cellsOf 67:=hj
    rwa[hc7]at this
   show w'.cell? ⟨G,0+(i*Tryz.prog.cellsOf 67+j),none⟩=news[0*Tryz.prog.cellsOf 67+j]?
   rw[hc7,Nat.zero_mul,Amn,Amn,← VJ (xs:=news) hi (by omega),hn7]
   unfold World.cell?
   simp[hv]
  | i+1=>simp at ht
end Go.Proofs.YtokkbgpgaheakaaGreat
namespace Go.Proofs.YtokkbgpgaheakaaGreat
def Wu:List (Nat×Orc):=[(10,⟨[(1,none),(2,none),(6,none),(28,some 23),(29,none),(30,none)],[(1,true),(2,false)],[(.slot 6,1100,67)]⟩)]
noncomputable def Q3(n m10:Nat)(cells6:List D)(t28:D)(t29 t30:Int)(a1:D)(t2_0:Int):Tree :=
 lA (eA Wu n 68 [1,1,1,1,1,1,0,1,0,0]) (Al Wu 10) m10 ⟨(.undef:: .ptr 1 []:: .ptr 2 []::uA 3++(.row 1100::uA 21++(.d 23 t28:: .i .i64 t29:: .i .i64 t30::uA 18))),[(1,.var 26 (.d 26 a1) true),(2,.var 26 (.agg 26 [.i .u64 t2_0,.mt,.mt]) true),(1100,.row 67 cells6 true)],[1,2,1100],[],[]⟩
  (Ai 0 (An (jA Wu n 68 [1,1,1,1,1,1,1]) (rA 68 [26] [.cell 2 26,.tmp 3] [26,29])))
theorem RU(n m10:Nat)(cells6:List D)(t28:D)(t29 t30:Int)(a1:D)(t2_0:Int):Q3 n (m10+1) cells6 t28 t29 t30 a1 t2_0 =
 bK (t30<t29) (kK (0≤t30) (kK (t30<(t28.els.length:Int)) (.br (((t28.els.getD (Alf t30) D.nil).toInt)==1) (cK 138 [D.int (Ale .i64 (t30+1))] fun Y3 =>
 kK (cells6.length + [qA Y3].length≤Aj) (Q3 n m10 (cells6++[qA Y3]) t28 t29 (Ale .i64 (t30+1)) a1 t2_0))
 (Q3 n m10 cells6 t28 t29 (Ale .i64 (t30+1)) a1 t2_0))))
 (cK 149 [D.sl cells6] fun Y4 =>
 cK 84 [a1] fun Y5 =>
 cK 90 [qA Y4,D.int ((qA Y5).toInt)] fun Y6 =>
 .ret [qA Y6,D.int 0]):=by kernel_rfl
theorem AfD(n:Nat)(a0:D):fA Wu n 68 [] [a0] =
 cK 80 [a0] fun Y1 =>
 .br (((qB Y1).toInt)!=0) (.ret [D.agg [D.int 0,D.sl [],D.sl []],D.int ((qB Y1).toInt)])
 (.br ((((a0.fld 1).els).length:Int)==0) (.ret [D.agg [D.int 0,D.sl [],D.sl []],D.int 5])
 (cK 153 [qA Y1] fun Y2 =>
 .br (!((qA Y2).toBool)) (.ret [D.agg [D.int 0,D.sl [],D.sl []],D.int 3])
 (Q3 n n [] (qA Y1) (((qA Y1).els).length:Int) 0 a0 0))):=by kernel_rfl
def Hn:List (Nat×Orc):=[(18,⟨[(3,none),(4,none),(6,none),(7,none),(9,some 23),(10,none),(11,none),(13,none),(64,some 23),(65,none),(66,none)],[(3,true),(4,true),(6,false),(7,false)],[(.slot 13,1180,3)]⟩),(25,⟨[(3,none),(4,none),(6,none),(7,none),(9,some 23),(10,none),(11,none),(13,none),(14,none),(64,some 23),(65,none),(66,none),(79,none),(80,none)],[(3,true),(4,true),(6,false),(7,false)],[(.slot 13,1250,3)]⟩)]
def FB:List ResultVar:=[.cell 6 26,.cell 7 29]
noncomputable def Of(n m18 m25:Nat)(s9:D)(axis10 long11:Int)(from13:List D)(i14:Int)(t64:D)(t65 t66:Int)(t79 t80:Int)(nn3 a4:D)(r6_0 e7:Int):Tree :=
 lA (eA Hn n 110 [1,1,1,1,1,1,1,1,1,1,1,1,0,1,0,0,1,1,0,0,1,1,1,1,0,0]) (Al Hn 25) m25 ⟨(uA 3++(.ptr 3 []:: .ptr 4 []:: .undef:: .ptr 6 []:: .ptr 7 []:: .undef:: .d 23 s9:: .i .i64 axis10:: .i .i64 long11:: .undef:: .row 1250:: .i .i64 i14::uA 49++(.d 23 t64:: .i .i64 t65:: .i .i64 t66::uA 12++(.i .i64 t79:: .i .i64 t80::uA 15)))),[(3,.var 26 (.d 26 nn3) true),(4,.var 26 (.d 26 a4) true),(6,.var 26 (.agg 26 [.i .u64 r6_0,.mt,.mt]) true),(7,.var 29 (.i .i64 e7) true),(1250,.row 3 from13 true)],[3,4,6,7,1250],[(187,[.ptr 6 [],.ptr 7 []])],[]⟩
  (Ai 2 (Ai 1 (An (jA Hn n 110 [1,1,1,1,1,1,1,1,1,1,1,1,0,1,0,0,1,1,1]) (Fg Tryz.prog md (Al Hn 18) (fun s1=>lA (eA Hn n 110 [1,1,1,1,1,1,1,1,1,1,1,1,0,1,0,0]) (Al Hn 18) m18 s1 (Ai 0 (An (jA Hn n 110 [1,1,1,1,1,1,1,1,1,1,1,1,1]) (rA 110 [26,26,4] FB [26,29])))) (Ai 0 (An (jA Hn n 110 [1,1,1,1,1,1,1,1,1,1,1,1,1]) (rA 110 [26,26,4] FB [26,29])))))))
noncomputable def Hm(n m18:Nat)(s9:D)(axis10 long11:Int)(from13:List D)(t64:D)(t65 t66:Int)(nn3 a4:D)(r6_0 e7:Int):Tree :=
 lA (eA Hn n 110 [1,1,1,1,1,1,1,1,1,1,1,1,0,1,0,0]) (Al Hn 18) m18 ⟨(uA 3++(.ptr 3 []:: .ptr 4 []:: .undef:: .ptr 6 []:: .ptr 7 []:: .undef:: .d 23 s9:: .i .i64 axis10:: .i .i64 long11:: .undef:: .row 1180::uA 50++(.d 23 t64:: .i .i64 t65:: .i .i64 t66::uA 29))),[(3,.var 26 (.d 26 nn3) true),(4,.var 26 (.d 26 a4) true),(6,.var 26 (.agg 26 [.i .u64 r6_0,.mt,.mt]) true),(7,.var 29 (.i .i64 e7) true),(1180,.row 3 from13 true)],[3,4,6,7,1180],[(187,[.ptr 6 [],.ptr 7 []])],[]⟩
  (Ai 0 (An (jA Hn n 110 [1,1,1,1,1,1,1,1,1,1,1,1,1]) (rA 110 [26,26,4] FB [26,29])))
theorem RR(n m18 m25:Nat)(s9:D)(axis10 long11:Int)(from13:List D)(i14:Int)(t64:D)(t65 t66:Int)(t79 t80:Int)(nn3 a4:D)(r6_0 e7:Int):Of n m18 (m25+1) s9 axis10 long11 from13 i14 t64 t65 t66 t79 t80 nn3 a4 r6_0 e7 =
 bK (t80<t79) (kK (from13.length + [D.int i14].length≤Aj) (Of n m18 m25 s9 axis10 long11 (from13++[D.int i14]) i14 t64 t65 t66 t79 (Ale .i64 (t80+1)) nn3 a4 r6_0 e7))
 (Hm n m18 s9 axis10 long11 from13 t64 t65 (Ale .i64 (t66+1)) nn3 a4 r6_0 e7):=by kernel_rfl
theorem RQ(n m18:Nat)(s9:D)(axis10 long11:Int)(from13:List D)(t64:D)(t65 t66:Int)(nn3 a4:D)(r6_0 e7:Int):Hm n (m18+1) s9 axis10 long11 from13 t64 t65 t66 nn3 a4 r6_0 e7 =
 bK (t66<t65) (kK (0≤t66) (kK (t66<(t64.els.length:Int)) (bK ((Ale .i64 (2048-(from13.length:Int)))<((t64.els.getD (Alf t66) D.nil).toInt)) (.ret [D.agg [D.int 0,D.sl [],D.sl []],D.int 7])
 (.br (long11 == 1) (Of n m18 n s9 axis10 long11 from13 0 t64 t65 t66 ((t64.els.getD (Alf t66) D.nil).toInt) 0 nn3 a4 r6_0 e7)
 (Of n m18 n s9 axis10 long11 from13 t66 t64 t65 t66 ((t64.els.getD (Alf t66) D.nil).toInt) 0 nn3 a4 r6_0 e7)))))
 (cK 190 [nn3,a4,s9,D.int axis10,D.sl from13] fun Y5 =>
 .ret [qA Y5,D.int ((qB Y5).toInt)]):=by kernel_rfl
theorem AfB(n:Nat)(nn0 a1 first2:D):fA Hn n 110 [] [nn0,a1,first2] =
 cK 80 [nn0] fun Y1 =>
 .br (((qB Y1).toInt)!=0) (.ret [D.agg [D.int 0,D.sl [],D.sl []],D.int ((qB Y1).toInt)])
 (cK 167 [qA Y1,D.fn 188 [] []] fun Y2 =>
 .br ((qA Y2).toBool) (.ret [D.agg [D.int 0,D.sl [],D.sl []],D.int 3])
 (cK 189 [a1,D.bool first2.toBool] fun Y3 =>
 kK (0≤(qB Y3).toInt) (kK ((qB Y3).toInt<(((qA Y3).els).length:Int)) (.br (!((((nn0.fld 1).els).length:Int)==0)) (.br (((((qA Y3).els).getD (Alf ((qB Y3).toInt)) D.nil).toInt)!=1) (.br ((((qA Y1).els).length:Int)!=((((qA Y3).els).getD (Alf ((qB Y3).toInt)) D.nil).toInt)) (.ret [D.agg [D.int 0,D.sl [],D.sl []],D.int 4])
 (bK (2048<((((qA Y3).els).getD (Alf ((qB Y3).toInt)) D.nil).toInt)) (.ret [D.agg [D.int 0,D.sl [],D.sl []],D.int 7])
 (.br ((((nn0.fld 1).els).length:Int)==0) (cK 177 [qA Y1,D.int ((((qA Y3).els).getD (Alf ((qB Y3).toInt)) D.nil).toInt)] fun Y4 =>
 Hm n n (qA Y3) ((qB Y3).toInt) ((((qA Y3).els).getD (Alf ((qB Y3).toInt)) D.nil).toInt) [] (qA Y4) (((qA Y4).els).length:Int) 0 nn0 a1 0 ((qB Y1).toInt))
 (Hm n n (qA Y3) ((qB Y3).toInt) ((((qA Y3).els).getD (Alf ((qB Y3).toInt)) D.nil).toInt) [] (qA Y1) (((qA Y1).els).length:Int) 0 nn0 a1 0 ((qB Y1).toInt)))))
 (bK (2048<((((qA Y3).els).getD (Alf ((qB Y3).toInt)) D.nil).toInt)) (.ret [D.agg [D.int 0,D.sl [],D.sl []],D.int 7])
 (.br ((((nn0.fld 1).els).length:Int)==0) (cK 177 [qA Y1,D.int ((((qA Y3).els).getD (Alf ((qB Y3).toInt)) D.nil).toInt)] fun Y6 =>
 Hm n n (qA Y3) ((qB Y3).toInt) ((((qA Y3).els).getD (Alf ((qB Y3).toInt)) D.nil).toInt) [] (qA Y6) (((qA Y6).els).length:Int) 0 nn0 a1 0 ((qB Y1).toInt))
 (Hm n n (qA Y3) ((qB Y3).toInt) ((((qA Y3).els).getD (Alf ((qB Y3).toInt)) D.nil).toInt) [] (qA Y1) (((qA Y1).els).length:Int) 0 nn0 a1 0 ((qB Y1).toInt)))))
 (bK (2048<((((qA Y3).els).getD (Alf ((qB Y3).toInt)) D.nil).toInt)) (.ret [D.agg [D.int 0,D.sl [],D.sl []],D.int 7])
 (.br ((((nn0.fld 1).els).length:Int)==0) (cK 177 [qA Y1,D.int ((((qA Y3).els).getD (Alf ((qB Y3).toInt)) D.nil).toInt)] fun Y7 =>
 Hm n n (qA Y3) ((qB Y3).toInt) ((((qA Y3).els).getD (Alf ((qB Y3).toInt)) D.nil).toInt) [] (qA Y7) (((qA Y7).els).length:Int) 0 nn0 a1 0 ((qB Y1).toInt))
 (Hm n n (qA Y3) ((qB Y3).toInt) ((((qA Y3).els).getD (Alf ((qB Y3).toInt)) D.nil).toInt) [] (qA Y1) (((qA Y1).els).length:Int) 0 nn0 a1 0 ((qB Y1).toInt)))))))):=by kernel_rfl
def Md:List (Nat×Orc):=[(11,⟨[(3,none),(4,none),(6,none),(7,none),(9,some 23),(10,none),(11,none),(12,none),(39,some 23),(40,none),(41,none)],[(3,true),(4,true),(6,false),(7,false)],[(.slot 11,1110,3)]⟩),(20,⟨[(3,none),(4,none),(6,none),(7,none),(9,some 23),(10,none),(11,none),(64,none),(65,none)],[(3,true),(4,true),(6,false),(7,false)],[(.slot 11,1200,3)]⟩)]
def RO:List ResultVar:=[.cell 6 26,.cell 7 29]
noncomputable def Q0(n m20:Nat)(s9:D)(axis10:Int)(from11:List D)(t64 t65:Int)(nn3 a4:D)(r6_0 e7:Int):Tree :=
 lA (eA Md n 111 [1,1,1,1,1,1,1,1,1,0,1,0,1,0,0]) (Al Md 20) m20 ⟨(uA 3++(.ptr 3 []:: .ptr 4 []:: .undef:: .ptr 6 []:: .ptr 7 []:: .undef:: .d 23 s9:: .i .i64 axis10:: .row 1200::uA 52++(.i .i64 t64:: .i .i64 t65::uA 26))),[(3,.var 26 (.d 26 nn3) true),(4,.var 26 (.d 26 a4) true),(6,.var 26 (.agg 26 [.i .u64 r6_0,.mt,.mt]) true),(7,.var 29 (.i .i64 e7) true),(1200,.row 3 from11 true)],[3,4,6,7,1200],[(191,[.ptr 6 [],.ptr 7 []])],[]⟩
  (Ai 2 (An (jA Md n 111 [1,1,1,1,1,1,1,1,1,1]) (rA 111 [26,26,4] RO [26,29])))
noncomputable def Qz(n m11:Nat)(s9:D)(axis10:Int)(from11:List D)(ones12:Int)(t39:D)(t40 t41:Int)(nn3 a4:D)(r6_0 e7:Int):Tree :=
 lA (eA Md n 111 [1,1,1,1,1,1,1,1,0,1,0,0]) (Al Md 11) m11 ⟨(uA 3++(.ptr 3 []:: .ptr 4 []:: .undef:: .ptr 6 []:: .ptr 7 []:: .undef:: .d 23 s9:: .i .i64 axis10:: .row 1110:: .i .i64 ones12::uA 26++(.d 23 t39:: .i .i64 t40:: .i .i64 t41::uA 50))),[(3,.var 26 (.d 26 nn3) true),(4,.var 26 (.d 26 a4) true),(6,.var 26 (.agg 26 [.i .u64 r6_0,.mt,.mt]) true),(7,.var 29 (.i .i64 e7) true),(1110,.row 3 from11 true)],[3,4,6,7,1110],[(191,[.ptr 6 [],.ptr 7 []])],[]⟩
  (Ai 0 (An (jA Md n 111 [1,1,1,1,1,1,1,1,1]) (rA 111 [26,26,4] RO [26,29])))
theorem RN(n m20:Nat)(s9:D)(axis10:Int)(from11:List D)(t64 t65:Int)(nn3 a4:D)(r6_0 e7:Int):Q0 n (m20+1) s9 axis10 from11 t64 t65 nn3 a4 r6_0 e7 =
 bK (t65<t64) (kK (0≤t65) (kK (t65<(from11.length:Int)) (kK (0≤t65) (kK (t65<(from11.length:Int)) (Q0 n m20 s9 axis10 (from11.set (Alf t65) (D.int (if 0<((from11.getD (Alf t65) D.nil).toInt) then 0 else ((from11.getD (Alf t65) D.nil).toInt)))) t64 (Ale .i64 (t65+1)) nn3 a4 r6_0 e7)))))
 (cK 190 [nn3,a4,s9,D.int axis10,D.sl from11] fun Y4 =>
 .ret [qA Y4,D.int ((qB Y4).toInt)]):=by kernel_rfl
theorem RM(n m11:Nat)(s9:D)(axis10:Int)(from11:List D)(ones12:Int)(t39:D)(t40 t41:Int)(nn3 a4:D)(r6_0 e7:Int):Qz n (m11+1) s9 axis10 from11 ones12 t39 t40 t41 nn3 a4 r6_0 e7 =
 bK (t41<t40) (kK (0≤t41) (kK (t41<(t39.els.length:Int)) (kK (0≤t41) (kK (t41<(from11.length:Int)) (.br (((t39.els.getD (Alf t41) D.nil).toInt)==1) (kK (0≤t41) (kK (t41<((from11.set (Alf t41) (D.int (-1))).length:Int)) (Qz n m11 s9 axis10 ((from11.set (Alf t41) (D.int (-1))).set (Alf t41) (D.int ones12)) (Ale .i64 (ones12+1)) t39 t40 (Ale .i64 (t41+1)) nn3 a4 r6_0 e7)))
 (Qz n m11 s9 axis10 (from11.set (Alf t41) (D.int (-1))) ones12 t39 t40 (Ale .i64 (t41+1)) nn3 a4 r6_0 e7))))))
 (kK (0≤axis10) (kK (axis10<(s9.els.length:Int)) (.br (((s9.els.getD (Alf axis10) D.nil).toInt)==1) (Q0 n n s9 axis10 from11 (from11.length:Int) 0 nn3 a4 r6_0 e7)
 (kK (0≤axis10) (kK (axis10<(s9.els.length:Int)) (.br (ones12 != ((s9.els.getD (Alf axis10) D.nil).toInt)) (.ret [D.agg [D.int 0,D.sl [],D.sl []],D.int 4])
 (cK 190 [nn3,a4,s9,D.int axis10,D.sl from11] fun Y5 =>
 .ret [qA Y5,D.int ((qB Y5).toInt)]))))))):=by kernel_rfl
theorem Af_(n:Nat)(nn0 a1 first2:D):fA Md n 111 [] [nn0,a1,first2] =
 cK 80 [nn0] fun Y1 =>
 .br (((qB Y1).toInt)!=0) (.ret [D.agg [D.int 0,D.sl [],D.sl []],D.int ((qB Y1).toInt)])
 (cK 153 [qA Y1] fun Y2 =>
 .br (!((qA Y2).toBool)) (.ret [D.agg [D.int 0,D.sl [],D.sl []],D.int 3])
 (cK 189 [a1,D.bool first2.toBool] fun Y3 =>
 kK (0≤(((qA Y1).els).length:Int)) (kK ((((qA Y1).els).length:Int)≤(((qA Y1).els).length:Int)) (kK ((((qA Y1).els).length:Int)≤Aj) (Qz n n (qA Y3) ((qB Y3).toInt) (Alh (Alf (((qA Y1).els).length:Int)) (D.int 0)) 0 (qA Y1) (((qA Y1).els).length:Int) 0 nn0 a1 0 ((qB Y1).toInt)))))):=by kernel_rfl
def Wv:List (Nat×Orc):=[(2,⟨[(5,some 23),(6,none),(7,none)],[],[]⟩)]
noncomputable def Og(n m2:Nat)(t5:D)(t6 t7:Int):Tree :=
 lA (eA Wv n 153 [1,0,1,0,0]) (Al Wv 2) m2 ⟨(uA 5++(.d 23 t5:: .i .i64 t6:: .i .i64 t7::uA 10)),[],[],[],[]⟩
  (Ai 0 (An (jA Wv n 153 [1,1]) (rA 153 [23] [.tmp 2] [4])))
theorem RX(n m2:Nat)(t5:D)(t6 t7:Int):Og n (m2+1) t5 t6 t7 =
 bK (t7<t6) (kK (0≤t7) (kK (t7<(t5.els.length:Int)) (.br (((t5.els.getD (Alf t7) D.nil).toInt)!=0) (.br (((t5.els.getD (Alf t7) D.nil).toInt)!=1) (.ret [D.bool false])
 (Og n m2 t5 t6 (Ale .i64 (t7+1))))
 (Og n m2 t5 t6 (Ale .i64 (t7+1))))))
 (.ret [D.bool true]):=by kernel_rfl
theorem AfF(n:Nat)(l0:D):fA Wv n 153 [] [l0] =
 Og n n l0 (l0.els.length:Int) 0:=by kernel_rfl
theorem AfA(n:Nat)(k0:D):fA [] n 188 [] [k0] =
 .ret [D.bool (decide (k0.toInt<0))]:=by kernel_rfl
theorem AfE(n:Nat)(a0 first1:D):fA [] n 189 [] [a0,first1] =
 .br ((((a0.fld 1).els).length:Int)==0) (.ret [D.sl [D.int 1],D.int 0])
 (.br first1.toBool (cK 96 [a0.fld 1] fun Y1 =>
 .ret [D.sl ((qA Y1).els),D.int 0])
 (cK 96 [a0.fld 1] fun Y2 =>
 .ret [D.sl ((qA Y2).els),D.int (Ale .i64 ((((a0.fld 1).els).length:Int)-1))])):=by kernel_rfl
def Ho:List (Nat×Orc):=[(9,⟨[(2,some 23),(3,none),(4,some 23),(5,none),(6,none),(10,none),(12,some 23),(18,none),(20,none),(21,none),(55,none),(56,none)],[(5,true),(6,true),(10,false),(20,true)],[(.slot 21,1090,67)]⟩),(12,⟨[(2,some 23),(3,none),(4,some 23),(5,none),(6,none),(10,none),(12,some 23),(18,none),(20,none),(21,none),(22,none),(55,none),(56,none),(59,some 23),(60,none),(61,none)],[(5,true),(6,true),(10,false),(20,true)],[(.slot 21,1120,67)]⟩)]
def FC:List Nat:=[26,26,23,3,23]
def FD:List ResultVar:=[.cell 10 26,.tmp 11]
noncomputable def Q4(n m9 m12:Nat)(s2:D)(axis3:Int)(from4 t12:D)(behind18:Int)(cells21:List D)(i22 t55 t56:Int)(t59:D)(t60 t61:Int)(nn5 a6:D)(t10_0:Int)(fill20:D):Tree :=
 lA (eA Ho n 190 [1,1,1,1,1,1,1,0,1,0,0,1,1,0,0,1,1,0,0]) (Al Ho 12) m12 ⟨(.undef:: .undef:: .d 23 s2:: .i .i64 axis3:: .d 23 from4:: .ptr 5 []:: .ptr 6 []::uA 3++(.ptr 10 []:: .undef:: .d 23 t12::uA 5++(.i .i64 behind18:: .undef:: .ptr 20 []:: .row 1120:: .i .i64 i22::uA 32++(.i .i64 t55:: .i .i64 t56:: .undef:: .undef:: .d 23 t59:: .i .i64 t60:: .i .i64 t61::uA 40)))),[(5,.var 26 (.d 26 nn5) true),(6,.var 26 (.d 26 a6) true),(10,.var 26 (.agg 26 [.i .u64 t10_0,.mt,.mt]) true),(20,.var 67 (.d 67 fill20) true),(1120,.row 67 cells21 true)],[5,6,10,20,1120],[],[]⟩
  (Ai 2 (Ai 1 (An (jA Ho n 190 [1,1,1,1,1,1,1,0,1,0,0,1,1,1]) (Fg Tryz.prog md (Al Ho 9) (fun s1=>lA (eA Ho n 190 [1,1,1,1,1,1,1,0,1,0,0]) (Al Ho 9) m9 s1 (Ai 0 (An (jA Ho n 190 [1,1,1,1,1,1,1,1]) (rA 190 FC FD [26,29])))) (Ai 0 (An (jA Ho n 190 [1,1,1,1,1,1,1,1]) (rA 190 FC FD [26,29])))))))
noncomputable def Ww(n m9:Nat)(s2:D)(axis3:Int)(from4 t12:D)(behind18:Int)(cells21:List D)(t55 t56:Int)(nn5 a6:D)(t10_0:Int)(fill20:D):Tree :=
 lA (eA Ho n 190 [1,1,1,1,1,1,1,0,1,0,0]) (Al Ho 9) m9 ⟨(.undef:: .undef:: .d 23 s2:: .i .i64 axis3:: .d 23 from4:: .ptr 5 []:: .ptr 6 []::uA 3++(.ptr 10 []:: .undef:: .d 23 t12::uA 5++(.i .i64 behind18:: .undef:: .ptr 20 []:: .row 1090::uA 33++(.i .i64 t55:: .i .i64 t56::uA 45)))),[(5,.var 26 (.d 26 nn5) true),(6,.var 26 (.d 26 a6) true),(10,.var 26 (.agg 26 [.i .u64 t10_0,.mt,.mt]) true),(20,.var 67 (.d 67 fill20) true),(1090,.row 67 cells21 true)],[5,6,10,20,1090],[],[]⟩
  (Ai 0 (An (jA Ho n 190 [1,1,1,1,1,1,1,1]) (rA 190 FC FD [26,29])))
theorem RY(n m9 m12:Nat)(s2:D)(axis3:Int)(from4 t12:D)(behind18:Int)(cells21:List D)(i22 t55 t56:Int)(t59:D)(t60 t61:Int)(nn5 a6:D)(t10_0:Int)(fill20:D):Q4 n m9 (m12+1) s2 axis3 from4 t12 behind18 cells21 i22 t55 t56 t59 t60 t61 nn5 a6 t10_0 fill20 =
 bK (t61<t60) (kK (0≤t61) (kK (t61<(t59.els.length:Int)) (bK (((t59.els.getD (Alf t61) D.nil).toInt)<0) (cK 233 [D.sl [fill20],D.int behind18] fun Y5 =>
 kK (cells21.length+((qA Y5).els).length≤Aj) (Q4 n m9 m12 s2 axis3 from4 t12 behind18 (cells21++((qA Y5).els)) i22 t55 t56 t59 t60 (Ale .i64 (t61+1)) nn5 a6 t10_0 fill20))
 (kK (0≤axis3) (kK (axis3<(s2.els.length:Int)) (kK (0≤Ale .i64 ((Ale .i64 ((Ale .i64 (i22*((s2.els.getD (Alf axis3) D.nil).toInt)))+((t59.els.getD (Alf t61) D.nil).toInt)))*behind18)) (kK (Ale .i64 ((Ale .i64 ((Ale .i64 (i22*((s2.els.getD (Alf axis3) D.nil).toInt)))+((t59.els.getD (Alf t61) D.nil).toInt)))*behind18)≤Ale .i64 ((Ale .i64 ((Ale .i64 ((Ale .i64 (i22*((s2.els.getD (Alf axis3) D.nil).toInt)))+((t59.els.getD (Alf t61) D.nil).toInt)))*behind18))+behind18)) (kK (Ale .i64 ((Ale .i64 ((Ale .i64 ((Ale .i64 (i22*((s2.els.getD (Alf axis3) D.nil).toInt)))+((t59.els.getD (Alf t61) D.nil).toInt)))*behind18))+behind18)≤(((a6.fld 2).els).length:Int)) (kK (cells21.length+((((a6.fld 2).els).take (Alf (Ale .i64 ((Ale .i64 ((Ale .i64 ((Ale .i64 (i22*((s2.els.getD (Alf axis3) D.nil).toInt)))+((t59.els.getD (Alf t61) D.nil).toInt)))*behind18))+behind18)))).drop (Alf (Ale .i64 ((Ale .i64 ((Ale .i64 (i22*((s2.els.getD (Alf axis3) D.nil).toInt)))+((t59.els.getD (Alf t61) D.nil).toInt)))*behind18)))).length≤Aj) (Q4 n m9 m12 s2 axis3 from4 t12 behind18 (cells21++((((a6.fld 2).els).take (Alf (Ale .i64 ((Ale .i64 ((Ale .i64 ((Ale .i64 (i22*((s2.els.getD (Alf axis3) D.nil).toInt)))+((t59.els.getD (Alf t61) D.nil).toInt)))*behind18))+behind18)))).drop (Alf (Ale .i64 ((Ale .i64 ((Ale .i64 (i22*((s2.els.getD (Alf axis3) D.nil).toInt)))+((t59.els.getD (Alf t61) D.nil).toInt)))*behind18))))) i22 t55 t56 t59 t60 (Ale .i64 (t61+1)) nn5 a6 t10_0 fill20))))))))))
 (Ww n m9 s2 axis3 from4 t12 behind18 cells21 t55 (Ale .i64 (t56+1)) nn5 a6 t10_0 fill20):=by kernel_rfl
theorem RZ(n m9:Nat)(s2:D)(axis3:Int)(from4 t12:D)(behind18:Int)(cells21:List D)(t55 t56:Int)(nn5 a6:D)(t10_0:Int)(fill20:D):Ww n (m9+1) s2 axis3 from4 t12 behind18 cells21 t55 t56 nn5 a6 t10_0 fill20 =
 bK (t56<t55) (Q4 n m9 n s2 axis3 from4 t12 behind18 cells21 t56 t55 t56 from4 (from4.els.length:Int) 0 nn5 a6 t10_0 fill20)
 (cK 84 [nn5] fun Y6 =>
 cK 83 [D.int ((a6.fld 0).toInt),D.int ((qA Y6).toInt)] fun Y7 =>
 .ret [D.agg [D.int ((qA Y7).toInt),t12,D.sl cells21],D.int 0]):=by kernel_rfl
theorem AfH(n:Nat)(nn0 a1:D)(s2 axis3 from4:D):fA Ho n 190 [] [nn0,a1,s2,axis3,from4] =
 cK 173 [s2,D.int axis3.toInt,D.int (from4.els.length:Int)] fun Y1 =>
 cK 81 [qA Y1] fun Y2 =>
 .br (((qB Y2).toInt)!=0) (.ret [D.agg [D.int 0,D.sl [],D.sl []],D.int ((qB Y2).toInt)])
 (cK 140 [qA Y1,D.int axis3.toInt] fun Y3 =>
 cK 82 [a1] fun Y4 =>
 kK (0≤0) (kK (0≤(qA Y2).toInt) (kK ((qA Y2).toInt≤Aj) (Ww n n s2 axis3.toInt from4 (qA Y1) ((qC Y3).toInt) (Alh (Alf 0) (D.agg [D.int 0,D.int 0,D.agg [D.bool false,D.sl [],D.sl []],D.int 0,D.sl []])) ((qA Y3).toInt) 0 nn0 a1 0 (qA Y4))))):=by kernel_rfl
def Wt(a:Arr)(L B:Nat)(fr:List Int)(j:Nat):Cell:=if fr.getD (j / B % fr.length) 0<0 then Ct a else a.cells.getD ((j / B / fr.length*L+(fr.getD (j / B % fr.length) 0).toNat)*B+j % B) Cell.none
def Dw(a:Arr)(s:List Nat)(x:Nat)(fr:List Int)(more:A8):Arr×Int:=if (A0 (iN (s.set x fr.length))).2≠0 then (.none,(A0 (iN (s.set x fr.length))).2) else (.mk (a.s|||more) (iN (s.set x fr.length)) ((Amd (Eb (s.set x fr.length))).map (Wt a (s.getD x 0) (Cr (s.drop (x+1))) fr)),0)
theorem AjD{s:List Nat}{x:Nat}(hx:x<s.length):s=s.take x++s.getD x 0::s.drop (x+1)∧(s.take x).length=x:=by
 refine ⟨?_,by rw[Alw];omega⟩
 rw[Alk,Alg hx]
 conv=>lhs;rw[← Ama x s,Al6 hx]
 rfl
theorem AiP{s:List Nat}{x F:Nat}(hx:x<s.length):s.set x F=s.take x++F::s.drop (x+1):=by
 rw[List.set_eq_take_append_cons_drop,if_pos hx]
theorem SP(A Bl:List Nat)(F:Nat):Cr (A++F::Bl)=Cr A*(F*Cr Bl):=by rw[SO];rfl
def AE(L:Nat)(fr:List Int):Prop:=∀ k∈fr,k<0∨(0≤k∧k<(L:Int))
theorem Ac4{l:List Int}{i:Nat}(h:i<l.length):l.getD i 0∈l:=by
 rw[Alk,Alg h];exact Amj h
structure Boxed (a:Arr) (s:List Nat):Prop where
 ok:(A0 (iN s)).2=0
 len:a.cells.length=Eb s
theorem Abk{s:List Nat}(h:(A0 (iN s)).2=0)(hp : ∀ x∈s,1≤x):Eb s=Cr s:=by
 rcases (S_ h).2 with ⟨h0,_⟩ | h1
 · have:=hp 0 h0;omega
 · exact h1.2.1
theorem FK : ∀ (l:List Nat) (p:Nat),p≤2048→∃ r:Nat,Bd (iN l) (p:Int)=(r:Int)∧r≤2048
 | [],p,h=>⟨p,rfl,h⟩
 | x::xs,p,h=>by
  simp only[iN,Aml,Bd]
  split
  · exact ⟨0,rfl,by omega⟩
  · rename_i h2
    have:=FK xs (p*x) (by
     have:((p*x:Nat):Int)≤2048:=by rw[Int.natCast_mul];omega
     omega)
    simpa [iN]using this
theorem SU : ∀ (l:List Nat),Bd (iN l) 0=0
 | []=>rfl
 | x::xs=>by
  simp only[iN,Aml,Bd,Int.zero_mul]
  rw[if_neg (by omega)];exact SU xs
theorem FL : ∀ (l:List Nat) (p:Int),0∈l→Bd (iN l) p=0
 | x::xs,p,h=>by
  simp only[iN,Aml,Bd]
  split
  · rfl
  · rcases Alx.1 h with h | h
    · subst h
      rw[show p*((0:Nat):Int)=0 by simp];exact SU xs
    · exact FL xs _ h
theorem W0 : ∀ (l:List Nat),(∀ x∈l,1≤x)→1≤Cr l
 | [],_=>Als _
 | x::xs,h=>Nat.mul_pos (h x (by simp)) (W0 xs (fun y hy=>h y (by simp[hy])))
theorem FJ : ∀ (l:List Nat) (p:Nat),(∀ x∈l,1≤x)→p*Cr l≤2048→Bd (iN l) (p:Int)=((p*Cr l:Nat):Int)
 | [],p,_,_=>by simp[iN,Bd,Cr]
 | x::xs,p,h,hb=>by
  have hp:=W0 xs (fun y hy=>h y (by simp[hy]))
  simp only[Cr,← Nat.mul_assoc]at hb ⊢
  have h1:p*x≤p*x*Cr xs:=Nat.le_mul_of_pos_right _ hp
  have h2:(p:Int)*(x:Int)=((p*x:Nat):Int):=by rw[Int.natCast_mul]
  simp only[iN,Aml,Bd,h2]
  rw[if_neg (by omega)]
  exact FJ xs (p*x) (fun y hy=>h y (by simp[hy])) hb
theorem CN{α β:Type}{f g:α→List β} : ∀ {l:List α},(∀ x∈l,f x=g x)→l.flatMap f=l.flatMap g
 | [],_=>rfl
 | x::xs,h=>by rw[List.flatMap_cons,List.flatMap_cons,h x (by simp),CN (fun y hy=>h y (by simp[hy]))]
theorem CO{α:Type}(g:Nat→Nat→α){m:Nat}(hm:0<m) : ∀ n:Nat,(Amd n).flatMap (fun i=>(Amd m).map (g i))=(Amd (n*m)).map (fun q=>g (q / m) (q % m))
 | 0=>by simp
 | n+1=>by
  rw[List.range_succ,List.flatMap_append,CO g hm n,Nat.succ_mul,List.range_add,List.map_append,List.map_map]
  congr 1
  simp only[List.flatMap_cons,List.flatMap_nil,Al2]
  refine List.map_congr_left (fun j hj=> ?_)
  have hj:=List.mem_range.1 hj
  simp only[Function.comp]
  rw[Ami,Nat.mul_add_div hm,Nat.div_eq_of_lt hj,Nat.mul_add_mod,Al_ hj,Nat.add_zero]
theorem AaH(l:List Int):l=(Amd l.length).map (fun i=>l.getD i 0):=by
 apply List.ext_getElem
 · simp
 · intro i h1 h2
   simp[Alk,Alg h1]
def Ja(a:Arr)(L bh i:Nat)(k:Int):List Cell:=if k<0 then Alh bh (Ct a) else (a.cells.take ((i*L+k.toNat)*bh+bh)).drop ((i*L+k.toNat)*bh)
def G6(a:Arr)(L bh:Nat)(fr:List Int)(i:Nat):List Cell:=fr.flatMap (Ja a L bh i)
def Pc(a:Arr)(L bh ah:Nat)(fr:List Int):Prop:=∀ i,i<ah→∀ k∈fr,0≤k→(i*L+k.toNat)*bh+bh≤a.cells.length
theorem SC{a:Arr}{L bh i:Nat}{k:Int}(h:0≤k→(i*L+k.toNat)*bh+bh≤a.cells.length):Ja a L bh i k=(Amd bh).map (fun b=>if k<0 then Ct a else a.cells.getD ((i*L+k.toNat)*bh+b) Cell.none):=by
 unfold Ja
 split
 · apply List.ext_getElem
   · simp
   · intro j h1 h2;simp
 · have h:=h (by omega)
   apply List.ext_getElem
   · simp;omega
   · intro j h1 h2
     simp only[Ali,List.length_range]at h2
     rw[List.getElem_drop,List.getElem_take,List.getElem_map,List.getElem_range,Alk,Alg (by omega)]
     rfl
theorem SB{a:Arr}{L bh i:Nat}{k:Int}(h:0≤k→(i*L+k.toNat)*bh+bh≤a.cells.length):(Ja a L bh i k).length=bh:=by rw[SC h];simp
theorem Uo{α β:Type}{f:α→List β}{m:Nat} : ∀ {l:List α},(∀ x∈l,(f x).length=m)→(l.flatMap f).length=l.length*m
 | [],_=>by simp
 | x::xs,h=>by rw[List.flatMap_cons,Alr,h x (by simp),Uo (fun y hy=>h y (by simp[hy])),All,Nat.succ_mul];omega
theorem GP{a:Arr}{L bh ah i:Nat}{fr:List Int}(h:Pc a L bh ah fr)(hi:i<ah):(G6 a L bh fr i).length=fr.length*bh:=Uo (fun k hk=>SB (fun h0=>h i hi k hk h0))
theorem Ais{a:Arr}{L bh ah:Nat}{fr:List Int}(h:Pc a L bh ah fr)(hF:0<fr.length)(hB:0<bh):(Amd ah).flatMap (G6 a L bh fr)=(Amd (ah*(fr.length*bh))).map (Wt a L bh fr):=by
 have e1 : ∀ i,i<ah→G6 a L bh fr i=(Amd (fr.length*bh)).map (fun q=>if fr.getD (q / bh) 0<0 then Ct a else a.cells.getD ((i*L+(fr.getD (q / bh) 0).toNat)*bh+q % bh) Cell.none):=fun i hi=>by
  rw[← CO (fun m b=>if fr.getD m 0<0 then Ct a else a.cells.getD ((i*L+(fr.getD m 0).toNat)*bh+b) Cell.none) hB]
  unfold G6
  conv=>lhs;rw[AaH fr]
  rw[List.flatMap_map]
  refine CN (fun m hm=> ?_)
  have hm:=List.mem_range.1 hm
  exact SC (fun h0=>h i hi _ (Ac4 hm) h0)
 have e2:(Amd ah).flatMap (G6 a L bh fr)=(Amd ah).flatMap (fun i=>(Amd (fr.length*bh)).map (fun q=>if fr.getD (q / bh) 0<0 then Ct a else a.cells.getD ((i*L+(fr.getD (q / bh) 0).toNat)*bh+q % bh) Cell.none)):=CN (fun i hi=>e1 i (List.mem_range.1 hi))
 rw[e2,CO (fun i q=>if fr.getD (q / bh) 0<0 then Ct a else a.cells.getD ((i*L+(fr.getD (q / bh) 0).toNat)*bh+q % bh) Cell.none) (Nat.mul_pos hF hB)]
 refine List.map_congr_left (fun j _=> ?_)
 unfold Wt
 rw[Ami fr.length bh,Nat.mod_mul_right_mod,Nat.mod_mul_right_div_self,← Nat.div_div_eq_div_mul]
theorem SA(n a:Arr)(s:List Nat)(x:Nat)(fr:List Int)(hn:Fits n)(hb:Boxed a s)(hx:x<s.length)(hf:AE (s.getD x 0) fr)(hfl:fr.length≤2048):Sp 190 [dA n,dA a,dI (iN s),.int (x:Int),dI fr] [dA (Dw a s x fr (A5 n)).1,.int (Dw a s x fr (A5 n)).2]:=by
 have h6:=(S_ hb.ok).1
 have hal:a.cells.length≤2048:=by rw[hb.len];rcases (S_ hb.ok).2 with h | h <;> omega
 have hwith:=XG (iN s) (x:Int) (fr.length:Int) (by rw[Lw];omega)
 unfold Sg at hwith
 rw[if_pos (by rw[Lw];omega),Aln,show (iN s).set x ((fr.length:Nat):Int)=iN (s.set x fr.length) by unfold iN;rw[List.map_set]]at hwith
 refine Af 4096 (AfH _ _ _ _ _ _) ?_
 simp only[B0,Ali,Ak]
 refine Aa hwith (Aa (Mn _) ?_)
 unfold Dw
 simp only[Ag,Cl,Ak,Cu,Cq,Gp]
 refine Ae (fun h=>Ac (by rw[if_pos h])) (fun h=> ?_)
 rw[if_neg h]
 have hok:=Alt.1 h
 obtain ⟨sp1,sp2⟩:=AjD hx
 have st:=AiP (F:=fr.length) hx
 have hcl:=F1 (iN (s.set x fr.length))
 have hcn:(A0 (iN (s.set x fr.length))).1=((Eb (s.set x fr.length):Nat):Int):=by unfold Eb;omega
 obtain ⟨ah,ha,hah⟩:=FK ((s.set x fr.length).take x) 1 (by decide)
 obtain ⟨bh,hbh,hbl⟩:=FK ((s.set x fr.length).drop (x+1)) 1 (by decide)
 have tk:(s.set x fr.length).take x=s.take x:=by rw[st,List.take_left' sp2]
 have dr:(s.set x fr.length).drop (x+1)=s.drop (x+1):=by
  rw[st,show s.take x++fr.length::s.drop (x+1)=(s.take x++[fr.length])++s.drop (x+1) by simp,List.drop_left' (by rw[Alr,sp2];rfl)]
 rw[tk]at ha
 rw[dr]at hbh
 have haround:=HI (iN (s.set x fr.length)) (x:Int)
 unfold Ld at haround
 rw[if_pos ⟨hok,by omega,by rw[Lw,List.length_set];omega⟩,Aln,show (iN (s.set x fr.length)).take x=iN (s.take x) by unfold iN;rw[← List.map_take,tk],show (iN (s.set x fr.length)).drop (x+1)=iN (s.drop (x+1)) by unfold iN;rw[← List.map_drop,dr],show (1:Int)=((1:Nat):Int) from rfl,ha,hbh]at haround
 have hL:s.getD x 0≤2048:=by
  have hm:s.getD x 0∈s:=by rw[Alk,Alg hx];exact Amj hx
  have:=(Gl hb.ok).2 ((s.getD x 0:Nat):Int) (List.mem_map.2 ⟨_,hm,rfl⟩)
  omega
 have facts:Pc a (s.getD x 0) bh ah fr∧ah*(fr.length*bh)=Eb (s.set x fr.length)∧(Amd ah).flatMap (G6 a (s.getD x 0) bh fr)=(Amd (Eb (s.set x fr.length))).map (Wt a (s.getD x 0) (Cr (s.drop (x+1))) fr):=by
  rcases (S_ hok).2 with ⟨hz,hc0⟩ | ⟨hpos,hcp,hc1,hc2⟩
  · have prod0:ah=0∨fr.length=0∨bh=0:=by
     rw[st]at hz
     rcases List.mem_append.1 hz with hz | hz
     · left;have:=FL _ 1 hz;rw[show (1:Int)=((1:Nat):Int) from rfl,ha]at this;omega
     · rcases Alx.1 hz with hz | hz
       · right;left;exact hz.symm
       · right;right;have:=FL _ 1 hz;rw[show (1:Int)=((1:Nat):Int) from rfl,hbh]at this;omega
    have off:Pc a (s.getD x 0) bh ah fr:=fun i hi k hk h0=>by
     have:0<fr.length:=List.length_pos_of_mem hk
     have hb0:bh=0:=by omega
     rw[hb0];simp
    have prod1:ah*(fr.length*bh)=0:=by
     rcases prod0 with h | h | h <;> rw[h] <;> simp
    refine ⟨off,by omega,?_⟩
    rw[hc0]
    apply List.eq_nil_of_length_eq_zero
    rw[Uo (m:=fr.length*bh) (fun i hi=>GP off (List.mem_range.1 hi)),List.length_range]
    exact prod1
  · have hpA : ∀ y∈s.take x,1≤y:=fun y hy=>(hpos y (by rw[st];simp[hy])).1
    have hpB : ∀ y∈s.drop (x+1),1≤y:=fun y hy=>(hpos y (by rw[st];simp[hy])).1
    have hF:0<fr.length:=(hpos _ (by rw[st];simp)).1
    have hA1:=W0 _ hpA
    have hB1:=W0 _ hpB
    have hcs:Eb (s.set x fr.length)=Cr (s.take x)*(fr.length*Cr (s.drop (x+1))):=by rw[hcp,st,SP]
    have m1:Cr (s.take x)≤Cr (s.take x)*(fr.length*Cr (s.drop (x+1))):=Nat.le_mul_of_pos_right _ (Nat.mul_pos hF hB1)
    have m2:Cr (s.drop (x+1))≤Cr (s.take x)*(fr.length*Cr (s.drop (x+1))):=by
     rw[← Nat.mul_assoc];exact Nat.le_mul_of_pos_left _ (Nat.mul_pos hA1 hF)
    have eA:=FJ (s.take x) 1 hpA (by omega)
    have eB:=FJ (s.drop (x+1)) 1 hpB (by omega)
    rw[ha,Nat.one_mul]at eA
    rw[hbh,Nat.one_mul]at eB
    have eA':ah=Cr (s.take x):=by omega
    have eB':bh=Cr (s.drop (x+1)):=by omega
    have off:Pc a (s.getD x 0) bh ah fr:=fun i hi k hk h0=>by
     have hkl:=hf k hk
     have hkL:k.toNat<s.getD x 0:=by omega
     have hsp : ∀ y∈s,1≤y:=fun y hy=>by
       rw[sp1]at hy
       rcases List.mem_append.1 hy with hy | hy
       · exact hpA y hy
       · rcases Alx.1 hy with rfl | hy
         · omega
         · exact hpB y hy
     have hsc:=Abk hb.ok hsp
     rw[hb.len,hsc]
     conv=>rhs;rw[sp1]
     rw[SP,← eA',← eB']
     have h1:(i*s.getD x 0+k.toNat)*bh+bh=(i*s.getD x 0+k.toNat+1)*bh:=by rw[Nat.add_mul (i*s.getD x 0+k.toNat) 1,Nat.one_mul]
     have h2:i*s.getD x 0+k.toNat+1≤(i+1)*s.getD x 0:=by rw[Nat.add_mul,Nat.one_mul];omega
     have h3:(i+1)*s.getD x 0≤ah*s.getD x 0:=Al1 _ hi
     rw[h1,← Nat.mul_assoc]
     exact Al1 _ (Nat.le_trans h2 h3)
    refine ⟨off,by rw[eA',eB',hcs],?_⟩
    rw[Ais off hF (by omega),eA',eB',hcs]
 obtain ⟨off,hprod,hrows⟩:=facts
 have hcl2:Eb (s.set x fr.length)≤2048:=by omega
 refine Aa haround (Aa (Sv a) ?_)
 simp only[Ag,Ak,hcn]
 refine Ad (Ad (Av (by simp only[Aj];omega) ?_))
 have lens : ∀ i,i≤ah→((Amd i).flatMap (G6 a (s.getD x 0) bh fr)).length=i*(fr.length*bh):=fun i hi=>by
  rw[Uo (m:=fr.length*bh) (fun j hj=>GP off (by have:=List.mem_range.1 hj;omega)),List.length_range]
 have gL:((iN s).map D.int).getD x D.nil=D.int ((s.getD x 0:Nat):Int):=by
  rw[NG,Ar (Alg hx),Alk,Alg hx];rfl
 have key:=Da ah (fun m i (_:Unit)=>Ww 4096 m (dI (iN s)) (x:Int) (dI fr) (dI (iN (s.set x fr.length))) (bh:Int) (((Amd i).flatMap (G6 a (s.getD x 0) bh fr)).map dC) (ah:Int) (i:Int) (dA n) (dA a) 0 (dC (Ct a))) (fun _ _=>[dA (.mk (a.s|||A5 n) (iN (s.set x fr.length)) ((Amd ah).flatMap (G6 a (s.getD x 0) bh fr))),.int 0]) (fun _ _=>True)
  (fun m t _=>by
    simp only[RZ,BS]
    refine Aq (Aa (Em n hn) ?_)
    simp only[Ag,D5,Lj]
    refine Aa (F9 a.s _) (Ac ?_)
    simp only[Ag,D5,Lj]
    rw[Dk];rfl)
  (fun m i t hi _ ih=>by
    have ih:=ih () trivial
    rw[List.range_succ,List.flatMap_append,List.flatMap_cons,List.flatMap_nil,Al2]at ih
    simp only[RZ,B0,Ali]
    refine Ad ?_
    have hli:=lens i (by omega)
    have hli1:=lens (i+1) (by omega)
    have hle1:(i+1)*(fr.length*bh)≤ah*(fr.length*bh):=Al1 _ hi
    rw[Nat.succ_mul]at hle1
    have key2:=B1 fr (fun q k (cs:List Cell)=>Q4 4096 m q (dI (iN s)) (x:Int) (dI fr) (dI (iN (s.set x fr.length))) (bh:Int) (cs.map dC) (i:Int) (ah:Int) (i:Int) (dI fr) (fr.length:Int) (k:Int) (dA n) (dA a) 0 (dC (Ct a))) (fun _ _=>[dA (.mk (a.s|||A5 n) (iN (s.set x fr.length)) ((Amd ah).flatMap (G6 a (s.getD x 0) bh fr))),.int 0]) (fun rest cs=>cs++rest.flatMap (Ja a (s.getD x 0) bh i)=(Amd i).flatMap (G6 a (s.getD x 0) bh fr)++G6 a (s.getD x 0) bh fr i)
     (fun q k cs hk hI=>by
       rw[List.flatMap_nil,Al2]at hI
       simp only[RY,Bb i]
       rw[hI]
       exact Aq ih)
     (fun q k cs z rest hd hI ih'=>by
       obtain ⟨h1,h2,h3⟩:=Bv hd
       have hz:=Alm h2
       rw[List.flatMap_cons,← Al4]at hI
       have ih':=ih' (cs++Ja a (s.getD x 0) bh i z) hI
       have hpl:=SB (a:=a) (L:=s.getD x 0) (bh:=bh) (i:=i) (k:=z) (fun h0=>off i hi z hz h0)
       have htl:cs.length+bh≤2048:=by
         have:=congrArg List.length hI
         simp only[Alr,hli,GP off hi,hpl]at this
         omega
       rw[List.map_append]at ih'
       simp only[RY,B0,Ali,Aln,Ar h2,Ak,Bb k,gL]
       refine Ad (Ad (Ad (Ae (fun g=> ?_) (fun g=> ?_))))
       · have e:Ja a (s.getD x 0) bh i z=Alh bh (Ct a):=by unfold Ja;rw[if_pos g]
         rw[e,List.map_replicate]at ih'
         refine Aa (Aie bh (Ct a) (by omega)) (Av (by simp only[Ag,Dp,Amg,Aj];omega) ?_)
         exact ih'
       · obtain ⟨Z,rfl⟩ : ∃ Z:Nat,z=(Z:Int):=⟨z.toNat,by omega⟩
         have ho:=off i hi _ hz (by omega)
         have e:Ja a (s.getD x 0) bh i (Z:Int)=(a.cells.take ((i*s.getD x 0+Z)*bh+bh)).drop ((i*s.getD x 0+Z)*bh):=by unfold Ja;rw[if_neg g,Aln]
         rw[e,List.map_drop,List.map_take]at ih'
         rw[Aln]at ho
         have hil:i*s.getD x 0≤2048*2048:=Nat.mul_le_mul (by omega) hL
         have hZ:=hf _ hz
         have w1:Ale .i64 ((i:Int)*((s.getD x 0:Nat):Int))=((i*s.getD x 0:Nat):Int):=by rw[← Int.natCast_mul,As (by omega) (by omega)]
         have w2:Ale .i64 (((i*s.getD x 0:Nat):Int)+(Z:Int))=((i*s.getD x 0+Z:Nat):Int):=by rw[As (by omega) (by omega)];rfl
         have w3:Ale .i64 (((i*s.getD x 0+Z:Nat):Int)*(bh:Int))=(((i*s.getD x 0+Z)*bh:Nat):Int):=by rw[← Int.natCast_mul,As (by omega) (by omega)]
         have w4:Ale .i64 ((((i*s.getD x 0+Z)*bh:Nat):Int)+(bh:Int))=(((i*s.getD x 0+Z)*bh+bh:Nat):Int):=by rw[As (by omega) (by omega)];rfl
         simp only[w1,w2,w3,w4,Aln,BT,Dp,Ali]
         have hdl:(((a.cells.map dC).take ((i*s.getD x 0+Z)*bh+bh)).drop ((i*s.getD x 0+Z)*bh)).length=bh:=by rw[Alu,Alw,Ali];omega
         simp only[hdl]
         refine Ad (Av (by rw[Lw];omega) (Ad (Ad (Ad (Av (by simp only[Aj];omega) ?_)))))
         exact ih')
     4096 0 ((Amd i).flatMap (G6 a (s.getD x 0) bh fr)) (by omega) (by omega) (by rw[List.drop_zero];rfl)
    exact key2)
  4096 0 () (by omega) (by omega) trivial
 rw[hrows]at key
 exact key
def aN(a:Arr):List Nat:=if a.shape = [] then [1] else a.shape.map Alf
def At(a:Arr)(first:Bool):Nat:=if a.shape = [] then 0 else if first then 0 else a.shape.length-1
theorem NH{a:Arr}(h : ∀ x∈a.shape,0≤x):iN (aN a)=if a.shape = [] then [1] else a.shape:=by
 unfold aN
 by_cases h0:a.shape = []
 · rw[if_pos h0,if_pos h0];rfl
 · rw[if_neg h0,if_neg h0]
   obtain ⟨m,hm⟩:=AcB h
   rw[hm]
   unfold iN
   rw[List.map_map,List.map_map]
   exact List.map_congr_left (fun x _=>by simp)
theorem S3(a:Arr)(first:Bool):At a first<(aN a).length:=by
 unfold At aN
 split
 · simp
 · rename_i h
   have:=List.length_pos_iff.2 h
   split <;> simp <;> omega
theorem AG{d:Nat}{a:Arr}(h:Ba d a=true):Boxed a (aN a):=by
 have hc:=(Dv h).1
 have hi:=NH (a:=a) (fun x hx=>((Ev h).2.2 x hx).1)
 by_cases h0:a.shape = []
 · rw[if_pos h0]at hi
   rw[h0]at hc
   have e:A0 ([]:List Int)=(1,0):=by decide
   rw[e]at hc
   have e1:A0 ([1]:List Int)=(1,0):=by decide
   refine ⟨by rw[hi,e1],?_⟩
   unfold Eb
   rw[hi,e1]
   have:=congrArg Prod.fst hc
   simp only at this
   show a.cells.length=1
   omega
 · rw[if_neg h0]at hi
   refine ⟨by rw[hi,hc],?_⟩
   unfold Eb
   rw[hi,hc];simp
theorem JC{d:Nat}{a:Arr}(h:Ba d a=true){x:Nat}(hx:x<(aN a).length):(aN a).getD x 0≤2048:=by
 have hm:(aN a).getD x 0∈aN a:=by rw[Alk,Alg hx];exact Amj hx
 have:=(Gl (AG h).ok).2 (((aN a).getD x 0:Nat):Int) (List.mem_map.2 ⟨_,hm,rfl⟩)
 omega
theorem KB{s:List Nat}{x:Nat}(hx:x<s.length):((iN s).map D.int).getD x D.nil=D.int ((s.getD x 0:Nat):Int):=by
 rw[NG,Ar (Alg hx),Alk,Alg hx];rfl
theorem KU(l:List Int)(h:l.length≤1000):Sp 96 [dI l] [dI l]:=by
 refine Af 0 (XK _ _) (ZX (fun h=>Ac ?_) (Av (by simp only[B0,Ali,Alz,Aj];omega) (Ac (by simp[dI]))))
 have:l = []:=by simpa using h
 subst this;rfl
theorem RV{d:Nat}(a:Arr)(first:Bool)(h:Ba d a=true):Sp 189 [dA a,.bool first] [dI (iN (aN a)),.int ((At a first:Nat):Int)]:=by
 have hl:=(Ev h).2.1
 have hi:=NH (a:=a) (fun x hx=>((Ev h).2.2 x hx).1)
 refine Af 0 (AfE _ _ _) ?_
 simp only[Tj,B0,Ali,Az,Cc]
 rw[hi]
 unfold At
 refine Ae (fun g=>Ac ?_) (fun g=> ?_)
 · have:a.shape = []:=Al7.1 (by omega)
   rw[if_pos this,if_pos this];rfl
 · have hne:a.shape≠[]:=fun hh=>g (by rw[hh];rfl)
   rw[if_neg hne,if_neg hne]
   refine Ch (fun e=>Aa (KU a.shape (by omega)) (Ac ?_)) (fun e=>Aa (KU a.shape (by omega)) (Ac ?_))
   · rw[if_pos e];rfl
   · have hpos:=List.length_pos_iff.2 hne
     rw[if_neg (by rw[e];decide),As (by omega) (by omega),show ((a.shape.length-1:Nat):Int)=(a.shape.length:Int)-1 by omega];rfl
def Gt(one:Bool):List Int→Nat→List Int→Option (List Int)
 | [],_,acc=>some acc
 | k::ks,i,acc=>if 2048-(acc.length:Int)<k then none else Gt one ks (i+1) (acc++Alh k.toNat (if one then 0 else (i:Int)))
def lS(n:Arr)(L:Nat):List Int:=if n.shape = [] then Alh L ((A7 n).1.headD 0) else (A7 n).1
def Rl(n a:Arr)(first:Bool):Arr×Int :=
 if (A7 n).2≠0 then (.none,(A7 n).2)
 else if ∃ k∈(A7 n).1,k<0 then (.none,3)
 else if (aN a).getD (At a first) 0≠1∧(lS n ((aN a).getD (At a first) 0)).length≠(aN a).getD (At a first) 0 then (.none,4)
 else match Gt ((aN a).getD (At a first) 0 == 1) (lS n ((aN a).getD (At a first) 0)) 0 []with
  | none=>(.none,7)
  | some fr=>Dw a (aN a) (At a first) fr (A5 n)
theorem DF(a:Arr):(A7 a).1.length≤a.cells.length:=by
 unfold A7
 split
 · simp
 · split
   · rename_i l hl;have:=(U7 hl).1;simp only;omega
   · simp
theorem AcI(a:Arr) : ∀ x∈(A7 a).1,Bc x:=by
 unfold A7
 split
 · intro x hx;cases hx
 · split
   · rename_i l hl;exact (U7 hl).2
   · intro x hx;cases hx
theorem Ae1(l:List Int)(hl:l.length≤2048):Sp 167 [dI l,D.fn 188 [] []] [.bool (decide (∃ k∈l,k<0))]:=by
 have hn : ∀ k:Int,Sp 188 [.int k] [.bool (decide (k<0))]:=fun k=>Af 0 (AfA _ _) (Ac rfl)
 have hi:Sp 230 [dI l,D.fn 188 [] []] [.int (Dq (fun x=>decide (x<0)) 0 l)]:=by
  refine Af 4096 (Ajr _ _) ?_
  have key:=B1 l (fun m k (_:Unit)=>Hs 4096 m (dI l) (D.fn 188 [] []) (l.length:Int) (k:Int)) (fun rest _=>[.int (Dq (fun x=>decide (x<0)) (l.length-rest.length) rest)]) (fun _ _=>True)
   (fun m k t hk _=>by
     simp only[XQ]
     exact Aq (Ac rfl))
   (fun m k t x rest hd _ ih=>by
     obtain ⟨h1,h2,h3⟩:=Bv hd
     have hle:=congrArg List.length hd
     rw[Alu,All]at hle
     have ih:=ih () trivial
     rw[show l.length-rest.length=k+1 by omega]at ih
     simp only[XQ,B0,Ali,Aln,Ar h2,Ak,Gs,Gq,Gr,Al2,Bb k]
     refine Ad (Ad (Ad (Aa (hn x) ?_)))
     rw[show l.length-(x::rest).length=k by rw[All];omega]
     simp only[Ag,Az,Dq]
     refine Ch (fun g=>Ac (by rw[if_pos g])) (fun g=> ?_)
     rw[if_neg (by rw[g];decide)]
     exact ih)
   4096 0 () (by omega) (by omega) trivial
  simpa using key
 have hp : ∀ (m:List Int) (k:Nat),(0≤Dq (fun x=>decide (x<0)) k m)↔(∃ z∈m,z<0):=by
  intro m
  induction m with
  | nil=>intro k;simp[Dq]
  | cons z zs ih =>
   intro k
   simp only[Dq]
   by_cases g:z<0
   · rw[if_pos (decide_eq_true g)]
     exact ⟨fun _=>⟨z,by simp,g⟩,fun _=>by omega⟩
   · rw[if_neg (by rw[decide_eq_false g];decide),ih (k+1)]
     simp[g]
 refine Af 0 (Ajh _ _) (Aa hi (Ac ?_))
 exact congrArg (fun b=>[D.bool b]) (decide_eq_decide.2 (hp l 0))
theorem VF{d:Nat}(n a:Arr)(first:Bool)(hn:Fits n)(ha:Ba d a=true)(l:List Int)(hl:l.length≤2048)(hpos : ∀ k∈l,0≤k)(hbig : ∀ k∈l,k≤9223372036854775807)(hL:(aN a).getD (At a first) 0≠1→l.length=(aN a).getD (At a first) 0) :
  Tw (Hm 4096 4096 (dI (iN (aN a))) ((At a first:Nat):Int) (((aN a).getD (At a first) 0:Nat):Int) [] (dI l) (l.length:Int) 0 (dA n) (dA a) 0 0) (match Gt ((aN a).getD (At a first) 0 == 1) l 0 []with
   | none=>[dA .none,.int 7]
   | some fr=>[dA (Dw a (aN a) (At a first) fr (A5 n)).1,.int (Dw a (aN a) (At a first) fr (A5 n)).2]):=by
 have hx:=S3 a first
 have key:=B1 l (fun m k (acc:List Int)=>Hm 4096 m (dI (iN (aN a))) ((At a first:Nat):Int) (((aN a).getD (At a first) 0:Nat):Int) (acc.map D.int) (dI l) (l.length:Int) (k:Int) (dA n) (dA a) 0 0) (fun rest acc=>match Gt ((aN a).getD (At a first) 0 == 1) rest (l.length-rest.length) acc with
   | none=>[dA .none,.int 7]
   | some fr=>[dA (Dw a (aN a) (At a first) fr (A5 n)).1,.int (Dw a (aN a) (At a first) fr (A5 n)).2]) (fun rest acc=>acc.length≤2048∧∀ k∈acc,0≤k∧k<(((aN a).getD (At a first) 0:Nat):Int))
  (fun m k acc hk hI=>by
   simp only[RQ]
   refine Aq (Aa (SA n a (aN a) (At a first) acc hn (AG ha) hx (fun z hz=> .inr (hI.2 z hz)) hI.1) (Ac ?_))
   rfl)
  (fun m k acc z rest hd hI ih=>by
   obtain ⟨h1,h2,h3⟩:=Bv hd
   have hle:=congrArg List.length hd
   rw[Alu,All]at hle
   have hz:=hpos z (Alm h2)
   have hzb:=hbig z (Alm h2)
   have ek:l.length-(z::rest).length=k:=by rw[All];omega
   have ek2:l.length-rest.length=k+1:=by omega
   have w1:Ale .i64 (2048-(acc.length:Int))=2048-(acc.length:Int):=As (by omega) (by omega)
   simp only[RQ,B0,Ali,Aln,Ar h2,Ak,w1,ek,Gt,Cq,Cc]
   refine Ad (Ad (Ad (Ae (fun g=>Ac (by rw[if_pos (by first | (rw[w1]at g;exact g) | exact g)])) (fun g=> ?_))))
   have g : ¬ (2048-(acc.length:Int)<z):=by first | (rw[w1]at g;exact g) | exact g
   simp only[if_neg g]
   obtain ⟨Z,rfl⟩ : ∃ Z:Nat,z=(Z:Int):=⟨z.toNat,by omega⟩
   have inner : ∀ (c:Int),0≤c∧c<(((aN a).getD (At a first) 0:Nat):Int)→Gt ((aN a).getD (At a first) 0 == 1) rest (k+1) (acc++Alh Z (if ((aN a).getD (At a first) 0 == 1)=true then 0 else (k:Int)))=Gt ((aN a).getD (At a first) 0 == 1) rest (k+1) (acc++Alh Z c)→Tw (Of 4096 m 4096 (dI (iN (aN a))) ((At a first:Nat):Int) (((aN a).getD (At a first) 0:Nat):Int) (acc.map D.int) c (dI l) (l.length:Int) (k:Int) (Z:Int) 0 (dA n) (dA a) 0 0) (match Gt ((aN a).getD (At a first) 0 == 1) rest (k+1) (acc++Alh (Z:Int).toNat (if ((aN a).getD (At a first) 0 == 1)=true then 0 else (k:Int))) with
      | none=>[dA .none,.int 7]
      | some fr=>[dA (Dw a (aN a) (At a first) fr (A5 n)).1,.int (Dw a (aN a) (At a first) fr (A5 n)).2]):=by
     intro c hc heq
     rw[Aln,heq]
     have ih:=ih (acc++Alh Z c) ⟨by rw[Alr,Amg];omega,fun y hy=>by
      rcases List.mem_append.1 hy with hy | hy
      · exact hI.2 y hy
      · rw[List.eq_of_mem_replicate hy];exact hc⟩
     rw[ek2]at ih
     have key3:=Da Z (fun q j (_:Unit)=>Of 4096 m q (dI (iN (aN a))) ((At a first:Nat):Int) (((aN a).getD (At a first) 0:Nat):Int) ((acc++Alh j c).map D.int) c (dI l) (l.length:Int) (k:Int) (Z:Int) (j:Int) (dA n) (dA a) 0 0) (fun _ _=>(match Gt ((aN a).getD (At a first) 0 == 1) rest (k+1) (acc++Alh Z c) with
      | none=>[dA .none,.int 7]
      | some fr=>[dA (Dw a (aN a) (At a first) fr (A5 n)).1,.int (Dw a (aN a) (At a first) fr (A5 n)).2])) (fun _ _=>True)
      (fun q t _=>by
       simp only[RR,Bb k]
       exact Aq ih)
      (fun q j t hj _ ih3=>by
       have ih3:=ih3 () trivial
       rw[List.replicate_succ',← Al4,List.map_append]at ih3
       simp only[RR,Ali,Alr,Amg,All,Alz,Bb j]
       exact Ad (Av (by simp only[Aj];omega) ih3))
      4096 0 () (by omega) (by omega) trivial
     simpa using key3
   refine Ae (fun g1=> ?_) (fun g1=> ?_)
   · have e1:(aN a).getD (At a first) 0=1:=by omega
     exact inner 0 ⟨by omega,by omega⟩ (by rw[e1];rfl)
   · have e1:((aN a).getD (At a first) 0 == 1)=false:=beq_eq_false_iff_ne.2 (by omega)
     have:=hL (by omega)
     exact inner (k:Int) ⟨by omega,by omega⟩ (by rw[e1];rfl))
  4096 0 [] (by omega) (by omega) ⟨by simp,by simp⟩
 simpa using key
theorem RT(n a:Arr)(first:Bool)(hn:Ba 8 n=true)(ha:Ba 8 a=true):Sp 110 [dA n,dA a,.bool first] [dA (Rl n a first).1,.int (Rl n a first).2]:=by
 have ln:=(Ev hn).1
 have hx:=S3 a first
 have hLe:=JC ha hx
 have hin:=AcI n
 have hil:=DF n
 refine Af 4096 (AfB _ _ _ _) (Aa (Ju n ln (Oq hn)) ?_)
 unfold Rl lS
 have hone:n.shape = []→(A7 n).2=0→∃ k,(A7 n).1 = [k]:=fun hs h0=>by
  have hc:=(Dv hn).1
  rw[hs,show A0 ([]:List Int)=(1,0) by decide]at hc
  have hc1:=congrArg Prod.fst hc
  have:n.cells.length=1:=by simp only at hc1;omega
  unfold A7 at h0 ⊢
  rw[if_neg (by rw[hs];simp)]at h0 ⊢
  split at h0
  · rename_i l hl
    have:=(U7 hl).1
    exact L6 (by simp only;omega)
  · cases h0
 generalize hp:A7 n=p at *
 obtain ⟨l,e⟩:=p
 simp only[Ag,Cl,Ak,Cu,Cq]at hin hil hone ⊢
 refine Ae (fun h=>Ac (by rw[if_pos h])) (fun h=> ?_)
 rw[if_neg h]
 have h0:e=0:=Alt.1 h
 subst h0
 refine Aa (Ae1 l (by omega)) ?_
 simp only[Ag,Az]
 refine Ae (fun h=>Ac (by rw[if_pos h])) (fun h=> ?_)
 rw[if_neg h]
 have hpos : ∀ k∈l,0≤k:=fun k hk=>by
  rcases Int.lt_or_le k 0 with g | g
  · exact absurd ⟨k,hk,g⟩ h
  · exact g
 refine Aa (RV a first ha) ?_
 have sh:(((n.shape.length:Nat):Int)=0)↔n.shape = []:=⟨fun g=>Al7.1 (by omega),fun g=>by rw[g];rfl⟩
 simp only[Ag,Cl,Ak,B0,Ali,Aln,KB hx,Lw,Tj,Cc,Eu,sh]
 refine Ad (Ad ?_)
 have fin:(n.shape = []∨(aN a).getD (At a first) 0=1∨l.length=(aN a).getD (At a first) 0)→Tw (.br (decide (2048<(((aN a).getD (At a first) 0:Nat):Int))) (.ret [dA .none,.int 7]) (.br (decide (n.shape = [])) (.call 177 [] [dI l,.int (((aN a).getD (At a first) 0:Nat):Int)] fun Y4=>Hm 4096 4096 (dI (iN (aN a))) ((At a first:Nat):Int) (((aN a).getD (At a first) 0:Nat):Int) [] (qA Y4) (((qA Y4).els).length:Int) 0 (dA n) (dA a) 0 0) (Hm 4096 4096 (dI (iN (aN a))) ((At a first:Nat):Int) (((aN a).getD (At a first) 0:Nat):Int) [] (dI l) (l.length:Int) 0 (dA n) (dA a) 0 0))) [dA (if (aN a).getD (At a first) 0≠1∧(if n.shape = [] then Alh ((aN a).getD (At a first) 0) (l.headD 0) else l).length≠(aN a).getD (At a first) 0 then (Arr.none,(4:Int)) else match Gt ((aN a).getD (At a first) 0 == 1) (if n.shape = [] then Alh ((aN a).getD (At a first) 0) (l.headD 0) else l) 0 []with
    | none=>(.none,7)
    | some fr=>Dw a (aN a) (At a first) fr (A5 n)).1,.int (if (aN a).getD (At a first) 0≠1∧(if n.shape = [] then Alh ((aN a).getD (At a first) 0) (l.headD 0) else l).length≠(aN a).getD (At a first) 0 then (Arr.none,(4:Int)) else match Gt ((aN a).getD (At a first) 0 == 1) (if n.shape = [] then Alh ((aN a).getD (At a first) 0) (l.headD 0) else l) 0 []with
    | none=>(.none,7)
    | some fr=>Dw a (aN a) (At a first) fr (A5 n)).2]:=by
  intro hc
  refine Aq (Ae (fun hs=> ?_) (fun hs=> ?_))
  · obtain ⟨k,rfl⟩:=hone hs rfl
    have hk:=hpos k (by simp)
    simp only[if_pos hs,List.headD_cons]
    refine Aa (VE _ k (by omega) (hin k (by simp))) ?_
    simp only[Ag,B0,Ali]
    rw[if_neg (by simp)]
    have:=VF n a first (Ei hn).fits ha (Alh ((aN a).getD (At a first) 0) k) (by rw[Amg];omega) (fun z hz=>by rw[List.eq_of_mem_replicate hz];exact hk) (fun z hz=>by rw[List.eq_of_mem_replicate hz];exact (hin k (by simp)).2) (fun _=>by rw[Amg])
    refine Tree.wp_mono this (fun ys hy=>hy.trans ?_)
    cases Gt ((aN a).getD (At a first) 0 == 1) (Alh ((aN a).getD (At a first) 0) k) 0 [] <;> rfl
  · simp only[if_neg hs]
    rw[if_neg (by intro hh;rcases hc with g | g | g;exact hs g;exact hh.1 g;exact hh.2 g)]
    have:=VF n a first (Ei hn).fits ha l (by omega) hpos (fun z hz=>(hin z hz).2) (fun hne=>by rcases hc with g | g | g;exact absurd g hs;exact absurd g hne;exact g)
    refine Tree.wp_mono this (fun ys hy=>hy.trans ?_)
    cases Gt ((aN a).getD (At a first) 0 == 1) l 0 [] <;> rfl
 refine Ae (fun hs=>Ae (fun h1=>Ae (fun h2=>Ac ?_) (fun h2=>fin (.inr (.inr (by omega))))) (fun h1=>fin (.inr (.inl (by omega))))) (fun hs=>fin (.inl (Alt.1 hs)))
 simp only[if_neg hs]
 rw[if_pos ⟨by omega,by omega⟩]
def D1:List Int→Nat→List Int
 | [],_=>[]
 | k::ks,o=>if k=1 then (o:Int)::D1 ks (o+1) else -1::D1 ks o
def Eo:List Int→Nat
 | []=>0
 | k::ks=>if k=1 then Eo ks+1 else Eo ks
def Es(z:Int):Int:=if 0<z then 0 else z
def H5(L:Nat)(l:List Int):List Int:=if L=1 then (D1 l 0).map Es else D1 l 0
def Fd(l:List Int):Prop:=∀ k∈l,k=0∨k=1
theorem P7 : ∀ (l:List Int) (o:Nat),(D1 l o).length=l.length
 | [],_=>rfl
 | k::ks,o=>by
  rw[D1]
  split
  · rw[All,P7 ks,All]
  · rw[All,P7 ks,All]
theorem Ur : ∀ (l:List Int) (o:Nat),∀ z∈D1 l o,z = -1∨((o:Int)≤z∧z<((o+Eo l:Nat):Int))
 | [],_,z,h=>by simp[D1]at h
 | k::ks,o,z,h=>by
  rw[D1]at h
  rw[Eo]
  split at h
  · rename_i hk
    rw[if_pos hk]
    rcases Alx.1 h with rfl | h
    · right;omega
    · rcases Ur ks (o+1) z h with h | h
      · exact .inl h
      · right;omega
  · rename_i hk
    rw[if_neg hk]
    rcases Alx.1 h with rfl | h
    · exact .inl rfl
    · exact Ur ks o z h
theorem MQ{L:Nat}{l:List Int}(h:L≠1→Eo l=L):AE L (H5 L l):=by
 intro z hz
 unfold H5 at hz
 split at hz
 · rename_i h1
   obtain ⟨y,hy,rfl⟩:=List.mem_map.1 hz
   unfold Es
   rcases Ur l 0 y hy with h | h
   · subst h;left;decide
   · right;split <;> omega
 · rename_i h1
   have:=h h1
   rcases Ur l 0 z hz with h | h
   · left;omega
   · right;omega
instance (l:List Int):Decidable (Fd l):=by unfold Fd;infer_instance
noncomputable def Pz(n a:Arr)(first:Bool):Arr×Int :=
 if (A7 n).2≠0 then (.none,(A7 n).2)
 else if ¬ Fd (A7 n).1 then (.none,3)
 else if (aN a).getD (At a first) 0≠1∧Eo (A7 n).1≠(aN a).getD (At a first) 0 then (.none,4)
 else Dw a (aN a) (At a first) (H5 ((aN a).getD (At a first) 0) (A7 n).1) (A5 n)
theorem KH(l:List Int)(hl:l.length≤2048):Sp 153 [dI l] [.bool (decide (Fd l))]:=by
 refine Af 4096 (AfF _ _) ?_
 simp only[B0,Ali]
 have key:=B1 l (fun m k (_:Unit)=>Og 4096 m (dI l) (l.length:Int) (k:Int)) (fun rest _=>[.bool (decide (Fd rest))]) (fun _ _=>True)
  (fun m k t hk _=>by
   simp only[RX]
   exact Aq (Ac (by simp[Fd])))
  (fun m k t z rest hd _ ih=>by
   obtain ⟨h1,h2,h3⟩:=Bv hd
   have ih:=ih () trivial
   have go:z=0∨z=1→Tw (Og 4096 m (dI l) (l.length:Int) ((k+1:Nat):Int)) [.bool (decide (Fd (z::rest)))]:=fun hz=>by
    rw[show decide (Fd (z::rest))=decide (Fd rest) from decide_eq_decide.2 ⟨fun h y hy=>h y (by simp[hy]),fun h y hy=>by
     rcases Alx.1 hy with rfl | hy
     · exact hz
     · exact h y hy⟩]
    exact ih
   simp only[RX,B0,Ali,Aln,Ar h2,Ak,Cu,Bb k]
   refine Ad (Ad (Ad (Ae (fun g=>Ae (fun g2=>Ac ?_) (fun g2=>go (by omega))) (fun g=>go (by omega)))))
   rw[decide_eq_false (fun h=>by have:=h z (by simp);omega)])
  4096 0 () (by omega) (by omega) trivial
 simpa using key
theorem LY{d:Nat}(n a:Arr)(first:Bool)(hn:Fits n)(ha:Ba d a=true)(fr:List Int)(hf:AE ((aN a).getD (At a first) 0) fr)(hl:fr.length≤2048):Tw (.call 190 [] [dA n,dA a,dI (iN (aN a)),.int ((At a first:Nat):Int),D.sl (fr.map D.int)] fun yy=> .ret [qA yy,.int ((qB yy).toInt)]) [dA (Dw a (aN a) (At a first) fr (A5 n)).1,.int (Dw a (aN a) (At a first) fr (A5 n)).2] :=
 Aa (SA n a (aN a) (At a first) fr hn (AG ha) (S3 a first) hf hl) (Ac rfl)
theorem RP(n a:Arr)(first:Bool)(hn:Ba 8 n=true)(ha:Ba 8 a=true):Sp 111 [dA n,dA a,.bool first] [dA (Pz n a first).1,.int (Pz n a first).2]:=by
 have ln:=(Ev hn).1
 have hx:=S3 a first
 have hLe:=JC ha hx
 have hil:=DF n
 refine Af 4096 (Af_ _ _ _ _) (Aa (Ju n ln (Oq hn)) ?_)
 unfold Pz
 generalize hp:A7 n=p at *
 obtain ⟨l,e⟩:=p
 simp only[Ag,Cl,Ak,Cu,Cq]at hil ⊢
 refine Ae (fun h=>Ac (by rw[if_pos h])) (fun h=> ?_)
 rw[if_neg h]
 have h0:e=0:=Alt.1 h
 subst h0
 refine Aa (KH l (by omega)) ?_
 simp only[Ag,Az]
 refine Ch (fun g=>Ac ?_) (fun g=> ?_)
 · have : ¬ Fd l:=fun hb=>by rw[decide_eq_true hb]at g;cases g
   rw[if_pos this]
 have hb:Fd l:=by
   by_cases hb:Fd l
   · exact hb
   · rw[decide_eq_false hb]at g;cases g
 rw[if_neg (fun hh=>hh hb)]
 refine Aa (RV a first ha) ?_
 simp only[Ag,Cl,Ak,B0,Ali,Aln]
 refine Ad (Ad (Av (by simp only[Aj];omega) ?_))
 have fits:=(Ei hn).fits
 have fin : ∀ (o:Nat),o=Eo l→Tw (.br (decide (0≤((At a first:Nat):Int))) (.br (decide (((At a first:Nat):Int)<((iN (aN a)).length:Int))) (.br (decide ((((iN (aN a)).map D.int).getD (At a first) D.nil).toInt=1)) (Q0 4096 4096 (dI (iN (aN a))) ((At a first:Nat):Int) ((D1 l 0).map D.int) (((D1 l 0).map D.int).length:Int) 0 (dA n) (dA a) 0 0) (.br (decide (0≤((At a first:Nat):Int))) (.br (decide (((At a first:Nat):Int)<((iN (aN a)).length:Int))) (.br (decide ((o:Int)≠(((iN (aN a)).map D.int).getD (At a first) D.nil).toInt)) (.ret [dA .none,.int 4]) (.call 190 [] [dA n,dA a,dI (iN (aN a)),.int ((At a first:Nat):Int),D.sl ((D1 l 0).map D.int)] fun yy=> .ret [qA yy,.int ((qB yy).toInt)])) .fail) .fail)) .fail) .fail) [dA (if (aN a).getD (At a first) 0≠1∧Eo l≠(aN a).getD (At a first) 0 then (Arr.none,(4:Int)) else Dw a (aN a) (At a first) (H5 ((aN a).getD (At a first) 0) l) (A5 n)).1,.int (if (aN a).getD (At a first) 0≠1∧Eo l≠(aN a).getD (At a first) 0 then (Arr.none,(4:Int)) else Dw a (aN a) (At a first) (H5 ((aN a).getD (At a first) 0) l) (A5 n)).2]:=by
   rintro o rfl
   simp only[KB hx,Lw,Ak]
   refine Ad (Ad (Ae (fun g1=> ?_) (fun g1=> ?_)))
   · have e1:(aN a).getD (At a first) 0=1:=by omega
     rw[if_neg (fun hh=>hh.1 e1)]
     have hfr:H5 ((aN a).getD (At a first) 0) l=(D1 l 0).map Es:=by unfold H5;rw[if_pos e1]
     have er:=LY n a first fits ha ((D1 l 0).map Es) (by rw[← hfr];exact MQ (fun hh=>absurd e1 hh)) (by rw[Ali,P7];omega)
     rw[hfr]
     have fl:=P7 l 0
     generalize D1 l 0=fr at *
     have key:=Da fr.length (fun m i (_:Unit)=>Q0 4096 m (dI (iN (aN a))) ((At a first:Nat):Int) (((fr.take i).map Es++fr.drop i).map D.int) (fr.length:Int) (i:Int) (dA n) (dA a) 0 0) (fun _ _=>[dA (Dw a (aN a) (At a first) (fr.map Es) (A5 n)).1,.int (Dw a (aN a) (At a first) (fr.map Es) (A5 n)).2]) (fun _ _=>True)
       (fun m t _=>by
        simp only[RN]
        rw[Amb (Als _),List.drop_of_length_le (Als _),Al2]
        exact Aq er)
       (fun m i t hi _ ih=>by
        have ih:=ih () trivial
        have e4:fr.drop i=fr[i]::fr.drop (i+1):=Al6 hi
        have e5:fr.take (i+1)=fr.take i++[fr[i]]:=by rw[List.take_add_one,Alg hi];rfl
        rw[e5,show (fr.take i++[fr[i]]).map Es++fr.drop (i+1)=(fr.take i).map Es++(Es fr[i]::fr.drop (i+1)) by rw[List.map_append,Al4];rfl]at ih
        rw[e4]
        generalize fr[i]=z at *
        have t1:((fr.take i).map Es).length=i:=by rw[Ali,Alw];omega
        have t2:(fr.drop (i+1)).length=fr.length-(i+1):=by rw[Alu]
        have hg:(((fr.take i).map Es++z::fr.drop (i+1)).map D.int).getD i D.nil=D.int z:=by
         rw[Alk,Aly,List.getElem?_append_right (by omega),t1,Nat.sub_self];rfl
        have hst:(((fr.take i).map Es++z::fr.drop (i+1)).map D.int).set i (D.int (Es z))=((fr.take i).map Es++(Es z::fr.drop (i+1))).map D.int:=by
         rw[← List.map_set,List.set_append_right _ _ (by omega),t1,Nat.sub_self];rfl
        have ll:((fr.take i).map Es++z::fr.drop (i+1)).length=fr.length:=by rw[Alr,t1,All,t2];omega
        simp only[RN,Ali,ll,Aln,hg,Ak,Bb i]
        refine Ad (Ad (Ad (Ad (Ad ?_))))
        rw[show D.int (if 0<z then 0 else z)=D.int (Es z) from rfl,hst]
        exact ih)
       4096 0 () (by omega) (by omega) trivial
     simpa using key
   · have e1:(aN a).getD (At a first) 0≠1:=by omega
     refine Ad (Ad (Ae (fun g2=>Ac ?_) (fun g2=> ?_)))
     · rw[if_pos ⟨e1,by omega⟩]
     · have e2:Eo l=(aN a).getD (At a first) 0:=by omega
       rw[if_neg (fun hh=>hh.2 e2)]
       have hfr:H5 ((aN a).getD (At a first) 0) l=D1 l 0:=by unfold H5;rw[if_neg e1]
       rw[hfr]
       exact LY n a first fits ha (D1 l 0) (by rw[← hfr];exact MQ (fun _=>e2)) (by rw[P7];omega)
 have key:=B1 l (fun m k (s:List Int×Nat)=>Qz 4096 m (dI (iN (aN a))) ((At a first:Nat):Int) (s.1.map D.int++Alh (l.length-s.1.length) (D.int 0)) (s.2:Int) (dI l) (l.length:Int) (k:Int) (dA n) (dA a) 0 0) (fun _ _=>[dA (if (aN a).getD (At a first) 0≠1∧Eo l≠(aN a).getD (At a first) 0 then (Arr.none,(4:Int)) else Dw a (aN a) (At a first) (H5 ((aN a).getD (At a first) 0) l) (A5 n)).1,.int (if (aN a).getD (At a first) 0≠1∧Eo l≠(aN a).getD (At a first) 0 then (Arr.none,(4:Int)) else Dw a (aN a) (At a first) (H5 ((aN a).getD (At a first) 0) l) (A5 n)).2]) (fun rest s=>s.1.length+rest.length=l.length∧D1 l 0=s.1++D1 rest s.2∧Eo l=s.2+Eo rest)
   (fun m k s hk hI=>by
     obtain ⟨i1,i2,i3⟩:=hI
     simp only[D1,Al2,Alz,Eo,Nat.add_zero]at i1 i2 i3
     simp only[RM,i1,Nat.sub_self,List.replicate_zero,Al2,B0,Ali,Aln,Cc,Cu,Cq]
     have f:=fin s.2 i3.symm
     rw[i2]at f
     simp only[Ali,i1]at f
     exact Aq f)
   (fun m k s z rest hd hI ih=>by
     obtain ⟨h1,h2,h3⟩:=Bv hd
     obtain ⟨i1,i2,i3⟩:=hI
     have hle:=congrArg List.length hd
     rw[Alu,All]at hle
     rw[All]at i1
     have hk:k=s.1.length:=by omega
     simp only[D1]at i2
     simp only[Eo]at i3
     have so:s.2≤2048:=by
       have : ∀ q:List Int,Eo q≤q.length:=fun q=>by
        induction q with
        | nil=>exact Als _
        | cons y ys ihq=>simp only[Eo,All];split <;> omega
       have:=this l
       split at i3 <;> omega
     have en:=fun v:Int=>K5 (f:=D.int) (z:=D.int 0) s.1 v (l.length-(s.1.length+1))
     rw[show l.length-(s.1.length+1)+1=l.length-s.1.length by omega]at en
     have ll:(s.1.map D.int++Alh (l.length-s.1.length) (D.int 0)).length=l.length:=by rw[Alr,Ali,Amg];omega
     have w1:Ale .i64 ((s.2:Int)+1)=((s.2+1:Nat):Int):=by rw[As (by omega) (by omega)];rfl
     simp only[RM,B0,Ali,Aln,Ar h2,Ak,Cc,ll,List.length_set,List.set_set,w1,Bb k]
     refine Ad (Ad (Ad (Ad (Ad (Ae (fun g=>Ad (Ad ?_)) (fun g=> ?_))))))
     · rw[if_pos g]at i2 i3
       have ih:=ih (s.1++[(s.2:Int)],s.2+1) ⟨by rw[Alr,All,Alz];omega,by rw[i2];simp,by omega⟩
       rw[hk,en]
       simp only[Alr,All,Alz,hk]at ih
       exact ih
     · rw[if_neg g]at i2 i3
       have ih:=ih (s.1++[-1],s.2) ⟨by rw[Alr,All,Alz];omega,by rw[i2];simp,i3⟩
       rw[hk,en]
       simp only[Alr,All,Alz,hk]at ih
       exact ih)
   4096 0 ([],0) (by omega) (by omega) ⟨by simp,by simp,by simp⟩
 simpa using key
def Hp:List Int→Nat→List Nat
 | [],_=>[]
 | k::ks,i=>if k=1 then i::Hp ks (i+1) else Hp ks (i+1)
theorem SI : ∀ (l:List Int) (i:Nat),(Hp l i).length≤l.length∧∀ p∈Hp l i,i≤p∧p<i+l.length
 | [],_=>by simp[Hp]
 | k::ks,i=>by
  obtain ⟨h1,h2⟩:=SI ks (i+1)
  rw[Hp,All]
  split
  · refine ⟨by rw[All];omega,fun p hp=> ?_⟩
    rcases Alx.1 hp with rfl | hp
    · omega
    · have:=h2 p hp;omega
  · exact ⟨by omega,fun p hp=>by have:=h2 p hp;omega⟩
def IQ(l:List Nat):List Int:=l.map (fun (i:Nat)=>(i:Int)+1)
noncomputable def Z5(n:Arr):Arr×Int:=if (A7 n).2≠0 then (.none,(A7 n).2) else if n.shape = [] then (.none,5) else if ¬ Fd (A7 n).1 then (.none,3) else (Dh (IQ (Hp (A7 n).1 0)) (A5 n),0)
theorem AfC(n:Arr)(hn:Ba 8 n=true):Sp 68 [dA n] [dA (Z5 n).1,.int (Z5 n).2]:=by
 have ln:=(Ev hn).1
 have hil:=DF n
 have sh:(((n.shape.length:Nat):Int)=0)↔n.shape = []:=⟨fun g=>Al7.1 (by omega),fun g=>by rw[g];rfl⟩
 refine Af 4096 (AfD _ _) (Aa (Ju n ln (Oq hn)) ?_)
 unfold Z5
 generalize (A7 n)=p at *
 obtain ⟨l,e⟩:=p
 simp only[Ag,Cl,Ak,Cu,Cc,Cq,Tj,B0,Ali,sh]at hil ⊢
 refine Ae (fun h=>Ac (by rw[if_pos h])) (fun h=> ?_)
 rw[if_neg h]
 refine Ae (fun h=>Ac (by rw[if_pos h])) (fun h=> ?_)
 rw[if_neg h]
 refine Aa (KH l (by omega)) ?_
 simp only[Ag,Az]
 refine Ch (fun g=>Ac ?_) (fun g=> ?_)
 · have : ¬ Fd l:=fun hb=>by rw[decide_eq_true hb]at g;cases g
   rw[if_pos this]
 have hb:Fd l:=by
   by_cases hb:Fd l
   · exact hb
   · rw[decide_eq_false hb]at g;cases g
 rw[if_neg (fun hh=>hh hb)]
 have hpl:=SI l 0
 have key:=B1 l (fun m k (acc:List Nat)=>Q3 4096 m ((acc.map (fun (i:Nat)=>Be ((i:Int)+1))).map dC) (dI l) (l.length:Int) (k:Int) (dA n) 0) (fun _ _=>[dA (Dh (IQ (Hp l 0)) (A5 n)),.int 0]) (fun rest acc=>Hp l 0=acc++Hp rest (l.length-rest.length))
   (fun m k acc hk hI=>by
    simp only[Hp,Al2]at hI
    simp only[RU]
    have hsm : ∀ c∈acc.map (fun (i:Nat)=>Be ((i:Int)+1)),SmlC 0 c:=fun c hc=>by
      obtain ⟨i,hi,rfl⟩:=List.mem_map.1 hc
      have:=hpl.2 i (by rw[hI];exact hi)
      exact Ry (Et (by omega) (by omega)) 0
    refine Aq (Aa (Mz _ hsm (by rw[Ali,← hI];omega)) (Aa (Em n (Ei hn).fits) ?_))
    simp only[Ag,D5,Lj]
    refine Aa (Fz _ (A5 n)) (Ac ?_)
    rw[hI]
    simp[C8,Jp,Dh,IQ]
    rfl)
   (fun m k acc z rest hd hI ih=>by
    obtain ⟨h1,h2,h3⟩:=Bv hd
    have hle:=congrArg List.length hd
    rw[Alu,All]at hle
    rw[show l.length-(z::rest).length=k by rw[All];omega,Hp]at hI
    rw[show l.length-rest.length=k+1 by omega]at ih
    simp only[RU,B0,Ali,Aln,Ar h2,Ak,Cc,Bb k]
    refine Ad (Ad (Ad (Ae (fun g=> ?_) (fun g=> ?_))))
    · rw[if_pos g]at hI
      have hal:acc.length≤2048:=by have:=congrArg List.length hI;rw[Alr]at this;omega
      have:=ih (acc++[k]) (by rw[hI];simp)
      rw[List.map_append,List.map_append]at this
      refine Aa (Hz _ (Et (by omega) (by omega))) (Av (by simp only[All,Alz,Aj];omega) ?_)
      exact this
    · rw[if_neg g]at hI
      exact ih acc hI)
   4096 0 [] (by omega) (by omega) (by simp)
 exact key
theorem Wy(x n:Int):Br (Ky x n).1≤100:=by
 unfold Ky
 split
 · show Br 0≤100;unfold Br;rw[show Int.natAbs 0=0 from rfl,Cs];simp
 · exact SK _ _ _ _ (Ay.2 (by show 1<B ^ 100;exact Nat.one_lt_pow (by decide) (by decide)))
section
variable {a b:Num} {z y:Int} {d e:Nat}
theorem TC(p q:Int×Int)(hp:Br p.1≤100)(hq:Br q.1≤100){xs xt:List D}(h1:Sp 314 xs (Oh p))(h2:Sp 314 xt (Oh q)):Tw (.call 314 [] xs fun Y7=> .br (((qB Y7).toInt)!=0) (.ret [D.agg [D.bool false,D.sl [],D.sl []],D.int ((qB Y7).toInt)]) (.call 314 [] xt fun Y8=> .br (((qB Y8).toInt)!=0) (.ret [D.agg [D.bool false,D.sl [],D.sl []],D.int ((qB Y8).toInt)]) (.call 305 [] [qA Y7,qA Y8] fun Y9=> .ret [qA Y9,D.int ((qB Y9).toInt)]))) (C9 (Wx p q)):=by
 refine Aa h1 ?_
 simp only[Oh,Ag,Cl,Ak,Cu,H2]
 unfold Wx
 refine Ae (fun g1=>Ac ?_) (fun g1=>Aa h2 ?_)
 · rw[if_neg g1];rfl
 rw[if_pos (Alt.1 g1)]
 simp only[Oh,Ag,Cl,Ak,Cu,H2]
 refine Ae (fun g2=>Ac ?_) (fun g2=> ?_)
 · rw[if_neg g2];rfl
 rw[if_pos (Alt.1 g2)]
 have mk:=W4 (wz p.1) (wz q.1) (by rw[Fc];omega) (by rw[Fc];omega)
 rw[Cw,Cw]at mk
 exact Aa mk (Ac rfl)
theorem Ag1(h:RNum a z d)(n:Int)(hn:n≤3000∧(-3000≤n∨n = -9223372036854775808)):Sp 281 [dN a,.int n] (C9 (FF a n)):=by
 obtain ⟨l1,l2⟩:=h.len
 refine Af 0 (Ag2 _ _ _) (Aa (E_ a) (Aa (Gc a) ?_))
 simp only[Ag,Ak,Cc]
 unfold FF
 refine Ae (fun h0=>Aa (Z9 ⟨a.neg,a.top⟩ (by show a.top.length≤_;omega)) ?_) (fun h0=> ?_)
 · rw[if_pos h0,Jq]
   simp only[Ag,Ak,Cc,H2]
   refine Ae (fun h1=>Ac ?_) (fun h1=>Ae (fun h2=>Ac ?_) (fun h2=> ?_))
   · rw[if_pos (.inl (h.top0.2 (by rw[← h.top];exact HE.1 h1)))];rfl
   · rw[if_pos (.inr (by omega))];rfl
   · have hz : ¬ a.top = []:=fun hh=>h1 (by rw[h.top,h.top0.1 hh];rfl)
     rw[if_neg (by intro hh;rcases hh with hh | hh;exact hz hh;omega),As (by omega) (by omega),Int.zero_sub]
     have p1:=Z8 ⟨a.neg,a.top⟩ (-n) (by show a.top.length≤_;omega) (by omega)
     have p2:=Z8 ⟨false,a.bot⟩ (-n) (by show a.bot.length≤_;omega) (by omega)
     exact TC _ _ (Wy _ _) (Wy _ _) p2 p1
 · rw[if_neg h0]
   have p1:=Z8 ⟨a.neg,a.top⟩ n (by show a.top.length≤_;omega) (by omega)
   have p2:=Z8 ⟨false,a.bot⟩ n (by show a.bot.length≤_;omega) (by omega)
   exact TC _ _ (Wy _ _) (Wy _ _) p1 p2
theorem MV(h:RNum a z d)(h':RNum b y e):(lb (Nat.gcd (nv a.top) (nv b.top))).length≤32:=by
 by_cases h0:nv a.top=0
 · rw[h0,Nat.gcd_zero_left]
   exact Nat.le_trans (Ay.2 (B6 _)) h'.len.1
 · exact Nat.le_trans (Ay.2 (Nat.lt_of_le_of_lt (Nat.gcd_le_left _ (by omega)) (B6 _))) h.len.1
theorem Ala(n:Nat):zv ⟨false,lb n⟩=(n:Int):=by rw[Sj];rfl
theorem Ac2(h:RNum a z d)(h':RNum b y e):RNum (Cm (Nat.gcd (nv a.top) (nv b.top):Nat)) (Nat.gcd (nv a.top) (nv b.top):Nat) 1 :=
 ⟨(No _).symm,by decide,Nat.coprime_one_right _,MV h h',by rw[L0];decide⟩
theorem TA(h:RNum a z d)(h':RNum b y e):Sp 283 [dN a,dN b] (C9 (Lu a b)):=by
 refine Af 0 (Agr _ _ _) (Aa (J6 a.bot) ?_)
 simp only[Ag,Az,Eu,H2]
 unfold Lu
 refine Ae (fun h1=>Ac ?_) (fun h1=>Aa (J6 b.bot) ?_)
 · rw[if_neg (fun hh=>h1 hh.1)];rfl
 simp only[Ag,Az,Eu]
 refine Ae (fun h2=>Ac ?_) (fun h2=> ?_)
 · rw[if_neg (fun hh=>h2 hh.2)];rfl
 rw[if_pos ⟨Alt.1 h1,Alt.1 h2⟩]
 have gl:=MV h h'
 have gc:=PW a.top b.top (by have:=h.len;omega) (by have:=h'.len;omega)
 have wh:=W8 ⟨false,lb (Nat.gcd (nv a.top) (nv b.top))⟩ (by show (lb _).length≤_;omega)
 rw[Ala]at wh
 unfold Lb at wh
 rw[if_neg (by rw[Int.natAbs_natCast];omega)]at wh
 exact Aa gc (Aa wh (Ac rfl))
theorem Ac1(h:RNum a z d)(h':RNum b y e)(h0:(Lu a b).2=0) : ∃ x,RNum (Lu a b).1 x 1:=by
 unfold Lu at h0 ⊢
 split at h0
 · rename_i hh;rw[if_pos hh];exact ⟨_,Ac2 h h'⟩
 · cases h0
theorem Agt(h:RNum a z d)(h':RNum b y e):Sp 282 [dN a,dN b] (C9 (DM a b)):=by
 refine Af 0 (Agu _ _ _) (Aa (TA h h') ?_)
 simp only[C9,Ag,Cl,Ak,Cu,H2]
 unfold DM M5
 refine Ae (fun h1=>Ac ?_) (fun h1=> ?_)
 · rw[if_neg h1]
 have h1':=Alt.1 h1
 rw[if_pos h1']
 obtain ⟨x,hx⟩:=Ac1 h h' h1'
 refine Aa (W6 hx.sm) ?_
 simp only[Ag,Ak,Cc]
 refine Ae (fun h2=>Aa (Kz 0 (by unfold Bc;omega)) (Ac ?_)) (fun h2=>Aa (W3 h.sm hx.sm) ?_)
 · have hx0:x=0:=by rw[← hx.top];exact HE.1 h2
   rw[if_pos (hx.top0.2 hx0)]
   rw[hx.eq,hx0,No];rfl
 · have hx0:x≠0:=fun hh=>h2 (by rw[hx.top,hh];rfl)
   rw[if_neg (fun hh=>hx0 (hx.top0.1 hh))]
   simp only[C9,Ag,Cl,Ak,Cu]
   refine Ae (fun h3=>Ac ?_) (fun h3=> ?_)
   · rw[if_neg h3]
   have h3':=Alt.1 h3
   rw[if_pos h3']
   obtain ⟨x2,c2,hr2⟩:=LQ h hx hx0 h3'
   exact Aa (FT hr2.sm h'.sm) (Ac rfl)
end
theorem Aim{z:Int}(h:Br z≤32):RNum (Cm z) z 1:=⟨(No z).symm,by decide,Nat.coprime_one_right _,h,by rw[L0];decide⟩
theorem Ads{z:Int}(h1 : -100000≤z:=by decide)(h2:z≤100000:=by decide):Br z≤32:=Qj (by
 have:100000<B ^ 32:=by decide
 omega)
def Yl:List (Nat×Orc):=[(5,⟨[(0,none),(4,none),(6,none),(26,some 24),(27,none),(28,none)],[(4,false),(6,false)],[(.fld 6 [1],1050,3),(.fld 6 [2],1051,67)]⟩)]
noncomputable def Yk(n m5:Nat)(f0:Int)(t26:D)(t27 t28:Int)(t4_0 out6_0:Int)(out6_1 out6_2:List D):Tree :=
 lA (eA Yl n 70 [1,1,1,0,1,0,0]) (Al Yl 5) m5 ⟨(.i .i64 f0::uA 3++(.ptr 4 []:: .undef:: .ptr 6 []::uA 19++(.d 24 t26:: .i .i64 t27:: .i .i64 t28::uA 21))),[(4,.var 26 (.agg 26 [.i .u64 t4_0,.mt,.mt]) true),(6,.var 26 (.agg 26 [.i .u64 out6_0,.row 1050,.row 1051]) true),(1050,.row 3 out6_1 true),(1051,.row 67 out6_2 true)],[4,6,1050,1051],[],[]⟩
  (Ai 0 (An (jA Yl n 70 [1,1,1,1]) (rA 70 [3,26] [.cell 4 26,.tmp 5] [26,29])))
theorem WM(n m5:Nat)(f0:Int)(t26:D)(t27 t28:Int)(t4_0 out6_0:Int)(out6_1 out6_2:List D):Yk n (m5+1) f0 t26 t27 t28 t4_0 out6_0 out6_1 out6_2 =
 bK (t28<t27) (kK (0≤t28) (kK (t28<(t26.els.length:Int)) (cK 159 [D.int f0,t26.els.getD (Alf t28) D.nil] fun Y3 =>
 .br (((qB Y3).toInt)!=0) (.ret [D.agg [D.int 0,D.sl [],D.sl []],D.int ((qB Y3).toInt)])
 (kK (0≤t28) (kK (t28<(out6_2.length:Int)) (Yk n m5 f0 t26 t27 (Ale .i64 (t28+1)) t4_0 out6_0 out6_1 (out6_2.set (Alf t28) (qA Y3))))))))
 (.ret [D.agg [D.int out6_0,D.sl out6_1,D.sl out6_2],D.int 0]):=by kernel_rfl
theorem AiA(n:Nat)(f0 a1:D):fA Yl n 70 [] [f0,a1] =
 cK 158 [D.int f0.toInt] fun Y1 =>
 .br (!((qA Y1).toBool)) (.ret [D.agg [D.int 0,D.sl [],D.sl []],D.int 8])
 (cK 96 [a1.fld 1] fun Y2 =>
 kK (0≤(((a1.fld 2).els).length:Int)) (kK ((((a1.fld 2).els).length:Int)≤(((a1.fld 2).els).length:Int)) (kK ((((a1.fld 2).els).length:Int)≤Aj) (Yk n n f0.toInt (a1.fld 2) (((a1.fld 2).els).length:Int) 0 0 ((a1.fld 0).toInt) ((qA Y2).els) (Alh (Alf (((a1.fld 2).els).length:Int)) (D.agg [D.int 0,D.int 0,D.agg [D.bool false,D.sl [],D.sl []],D.int 0,D.sl []])))))):=by kernel_rfl
def Ym:List (Nat×Orc):=[(11,⟨[(0,none),(4,none),(5,none),(6,none),(11,none),(48,none),(49,none)],[(4,true),(5,true),(6,false),(11,false)],[(.fld 11 [2],1110,67)]⟩)]
noncomputable def Rs(n m11:Nat)(f0 t48 t49:Int)(a4 b5:D)(t6_0 out11_0:Int)(out11_1:D)(out11_2:List D):Tree :=
 lA (eA Ym n 112 [1,1,1,1,1,1,1,0,1,0,0]) (Al Ym 11) m11 ⟨(.i .i64 f0::uA 3++(.ptr 4 []:: .ptr 5 []:: .ptr 6 []::uA 4++(.ptr 11 []::uA 36++(.i .i64 t48:: .i .i64 t49::uA 24)))),[(4,.var 26 (.d 26 a4) true),(5,.var 26 (.d 26 b5) true),(6,.var 26 (.agg 26 [.i .u64 t6_0,.mt,.mt]) true),(11,.var 26 (.agg 26 [.i .u64 out11_0,.d 23 out11_1,.row 1110]) true),(1110,.row 67 out11_2 true)],[4,5,6,11,1110],[],[]⟩
  (Ai 0 (An (jA Ym n 112 [1,1,1,1,1,1,1,1]) (rA 112 [3,26,26] [.cell 6 26,.tmp 7] [26,29])))
theorem WO(n m11:Nat)(f0 t48 t49:Int)(a4 b5:D)(t6_0 out11_0:Int)(out11_1:D)(out11_2:List D):Rs n (m11+1) f0 t48 t49 a4 b5 t6_0 out11_0 out11_1 out11_2 =
 bK (t49<t48) (cK 195 [a4,D.int t49] fun Y4 =>
 cK 195 [b5,D.int t49] fun Y5 =>
 cK 194 [D.int f0,qA Y4,qA Y5] fun Y6 =>
 .br (((qB Y6).toInt)!=0) (.ret [D.agg [D.int 0,D.sl [],D.sl []],D.int ((qB Y6).toInt)])
 (kK (0≤t49) (kK (t49<(out11_2.length:Int)) (Rs n m11 f0 t48 (Ale .i64 (t49+1)) a4 b5 t6_0 out11_0 out11_1 (out11_2.set (Alf t49) (qA Y6))))))
 (.ret [D.agg [D.int out11_0,out11_1,D.sl out11_2],D.int 0]):=by kernel_rfl
theorem AiB(n:Nat)(f0 a1 b2:D):fA Ym n 112 [] [f0,a1,b2] =
 cK 192 [D.int f0.toInt] fun Y1 =>
 .br (!((qA Y1).toBool)) (.ret [D.agg [D.int 0,D.sl [],D.sl []],D.int 8])
 (cK 193 [a1,b2] fun Y2 =>
 .br (((qB Y2).toInt)!=0) (.ret [D.agg [D.int 0,D.sl [],D.sl []],D.int ((qB Y2).toInt)])
 (.br ((((a1.fld 1).els).length:Int)==0) (cK 83 [D.int ((a1.fld 0).toInt),D.int ((b2.fld 0).toInt)] fun Y3 =>
 kK (0≤(((b2.fld 2).els).length:Int)) (kK ((((b2.fld 2).els).length:Int)≤(((b2.fld 2).els).length:Int)) (kK ((((b2.fld 2).els).length:Int)≤Aj) (Rs n n f0.toInt (((b2.fld 2).els).length:Int) 0 a1 b2 0 ((qA Y3).toInt) (qA Y2) (Alh (Alf (((b2.fld 2).els).length:Int)) (D.agg [D.int 0,D.int 0,D.agg [D.bool false,D.sl [],D.sl []],D.int 0,D.sl []]))))))
 (cK 83 [D.int ((a1.fld 0).toInt),D.int ((b2.fld 0).toInt)] fun Y7 =>
 kK (0≤(((a1.fld 2).els).length:Int)) (kK ((((a1.fld 2).els).length:Int)≤(((a1.fld 2).els).length:Int)) (kK ((((a1.fld 2).els).length:Int)≤Aj) (Rs n n f0.toInt (((a1.fld 2).els).length:Int) 0 a1 b2 0 ((qA Y7).toInt) (qA Y2) (Alh (Alf (((a1.fld 2).els).length:Int)) (D.agg [D.int 0,D.int 0,D.agg [D.bool false,D.sl [],D.sl []],D.int 0,D.sl []])))))))):=by kernel_rfl
theorem Ai3(n:Nat)(f0:D):fA [] n 158 [] [f0] =
 .br (f0.toInt == 43) (.br (f0.toInt == 43) (.ret [D.bool true])
 (.ret [D.bool false]))
 (.br (f0.toInt == 45) (.br (f0.toInt == 45) (.ret [D.bool true])
 (.ret [D.bool false]))
 (.br (f0.toInt == 215) (.br (f0.toInt == 215) (.ret [D.bool true])
 (.ret [D.bool false]))
 (.br (f0.toInt == 247) (.br (f0.toInt == 247) (.ret [D.bool true])
 (.ret [D.bool false]))
 (.br (f0.toInt == 8968) (.br (f0.toInt == 8968) (.ret [D.bool true])
 (.ret [D.bool false]))
 (.br (f0.toInt == 8970) (.br (f0.toInt == 8970) (.ret [D.bool true])
 (.ret [D.bool false]))
 (.br (f0.toInt == 124) (.br (f0.toInt == 124) (.ret [D.bool true])
 (.ret [D.bool false]))
 (.br (f0.toInt == 126) (.br (f0.toInt == 126) (.ret [D.bool true])
 (.ret [D.bool false]))
 (.br (f0.toInt == 33) (.ret [D.bool true])
 (.ret [D.bool false]))))))))):=by kernel_rfl
theorem AiJ(n:Nat)(f0 c1:D):fA [] n 159 [] [f0,c1] =
 .br (((c1.fld 1).toInt)==0) (cK 221 [D.int f0.toInt,c1.fld 2] fun Y1 =>
 .ret [D.agg [D.int ((c1.fld 0).toInt),D.int 0,qA Y1,D.int 0,D.sl []],D.int ((qB Y1).toInt)])
 (.br (((c1.fld 1).toInt)==2) (cK 222 [c1] fun Y2 =>
 cK 70 [D.int f0.toInt,qA Y2] fun Y3 =>
 .ret [D.agg [D.int ((c1.fld 0).toInt),D.int 2,D.agg [D.bool false,D.sl [],D.sl []],D.int 0,D.sl [qA Y3]],D.int ((qB Y3).toInt)])
 (.ret [D.agg [D.int 0,D.int 0,D.agg [D.bool false,D.sl [],D.sl []],D.int 0,D.sl []],D.int 3])):=by kernel_rfl
theorem Ai5(n:Nat)(f0:D):fA [] n 192 [] [f0] =
 .br (f0.toInt == 43) (.br (f0.toInt == 43) (.ret [D.bool true])
 (.ret [D.bool false]))
 (.br (f0.toInt == 45) (.br (f0.toInt == 45) (.ret [D.bool true])
 (.ret [D.bool false]))
 (.br (f0.toInt == 215) (.br (f0.toInt == 215) (.ret [D.bool true])
 (.ret [D.bool false]))
 (.br (f0.toInt == 247) (.br (f0.toInt == 247) (.ret [D.bool true])
 (.ret [D.bool false]))
 (.br (f0.toInt == 8968) (.br (f0.toInt == 8968) (.ret [D.bool true])
 (.ret [D.bool false]))
 (.br (f0.toInt == 8970) (.br (f0.toInt == 8970) (.ret [D.bool true])
 (.ret [D.bool false]))
 (.br (f0.toInt == 124) (.br (f0.toInt == 124) (.ret [D.bool true])
 (.ret [D.bool false]))
 (.br (f0.toInt == 42) (.br (f0.toInt == 42) (.ret [D.bool true])
 (.ret [D.bool false]))
 (.br (f0.toInt == 60) (.br (f0.toInt == 60) (.ret [D.bool true])
 (.ret [D.bool false]))
 (.br (f0.toInt == 8804) (.br (f0.toInt == 8804) (.ret [D.bool true])
 (.ret [D.bool false]))
 (.br (f0.toInt == 61) (.br (f0.toInt == 61) (.ret [D.bool true])
 (.ret [D.bool false]))
 (.br (f0.toInt == 8805) (.br (f0.toInt == 8805) (.ret [D.bool true])
 (.ret [D.bool false]))
 (.br (f0.toInt == 62) (.br (f0.toInt == 62) (.ret [D.bool true])
 (.ret [D.bool false]))
 (.br (f0.toInt == 8800) (.br (f0.toInt == 8800) (.ret [D.bool true])
 (.ret [D.bool false]))
 (.br (f0.toInt == 8743) (.br (f0.toInt == 8743) (.ret [D.bool true])
 (.ret [D.bool false]))
 (.br (f0.toInt == 8744) (.ret [D.bool true])
 (.ret [D.bool false])))))))))))))))):=by kernel_rfl
theorem Ai1(n:Nat)(a0 b1:D):fA [] n 193 [] [a0,b1] =
 .br ((((a0.fld 1).els).length:Int)==0) (cK 96 [b1.fld 1] fun Y1 =>
 .ret [D.sl ((qA Y1).els),D.int 0])
 (.br ((((b1.fld 1).els).length:Int)==0) (cK 96 [a0.fld 1] fun Y2 =>
 .ret [D.sl ((qA Y2).els),D.int 0])
 (.br ((((a0.fld 1).els).length:Int)!=(((b1.fld 1).els).length:Int)) (.ret [D.sl [],D.int 5])
 (cK 234 [a0.fld 1,b1.fld 1] fun Y3 =>
 .br (!((qA Y3).toBool)) (.ret [D.sl [],D.int 4])
 (cK 96 [a0.fld 1] fun Y4 =>
 .ret [D.sl ((qA Y4).els),D.int 0])))):=by kernel_rfl
theorem AiN(n:Nat)(f0 x1 y2:D):fA [] n 194 [] [f0,x1,y2] =
 cK 83 [D.int ((x1.fld 0).toInt),D.int ((y2.fld 0).toInt)] fun Y1 =>
 .br (((x1.fld 1).toInt)==2) (cK 235 [x1] fun Y2 =>
 cK 235 [y2] fun Y3 =>
 cK 112 [D.int f0.toInt,qA Y2,qA Y3] fun Y4 =>
 .ret [D.agg [D.int ((qA Y1).toInt),D.int 2,D.agg [D.bool false,D.sl [],D.sl []],D.int 0,D.sl [qA Y4]],D.int ((qB Y4).toInt)])
 (.br (((y2.fld 1).toInt)==2) (cK 235 [x1] fun Y5 =>
 cK 235 [y2] fun Y6 =>
 cK 112 [D.int f0.toInt,qA Y5,qA Y6] fun Y7 =>
 .ret [D.agg [D.int ((qA Y1).toInt),D.int 2,D.agg [D.bool false,D.sl [],D.sl []],D.int 0,D.sl [qA Y7]],D.int ((qB Y7).toInt)])
 (.br (((x1.fld 1).toInt)==0) (.br (((y2.fld 1).toInt)==0) (cK 236 [D.int f0.toInt,x1.fld 2,y2.fld 2] fun Y8 =>
 .ret [D.agg [D.int ((qA Y1).toInt),D.int 0,qA Y8,D.int 0,D.sl []],D.int ((qB Y8).toInt)])
 (.br (f0.toInt == 61) (.br (((x1.fld 1).toInt)==((y2.fld 1).toInt)) (cK 237 [D.bool ((((x1.fld 3).toInt)==((y2.fld 3).toInt))==(f0.toInt == 61))] fun Y9 =>
 .ret [D.agg [D.int ((qA Y1).toInt),D.int 0,qA Y9,D.int 0,D.sl []],D.int 0])
 (cK 237 [D.bool (false == (f0.toInt == 61))] fun Y10 =>
 .ret [D.agg [D.int ((qA Y1).toInt),D.int 0,qA Y10,D.int 0,D.sl []],D.int 0]))
 (.br (f0.toInt == 8800) (.br (((x1.fld 1).toInt)==((y2.fld 1).toInt)) (cK 237 [D.bool ((((x1.fld 3).toInt)==((y2.fld 3).toInt))==(f0.toInt == 61))] fun Y11 =>
 .ret [D.agg [D.int ((qA Y1).toInt),D.int 0,qA Y11,D.int 0,D.sl []],D.int 0])
 (cK 237 [D.bool (false == (f0.toInt == 61))] fun Y12 =>
 .ret [D.agg [D.int ((qA Y1).toInt),D.int 0,qA Y12,D.int 0,D.sl []],D.int 0]))
 (.ret [D.agg [D.int ((qA Y1).toInt),D.int 0,D.agg [D.bool false,D.sl [],D.sl []],D.int 0,D.sl []],D.int 3]))))
 (.br (f0.toInt == 61) (.br (((x1.fld 1).toInt)==((y2.fld 1).toInt)) (cK 237 [D.bool ((((x1.fld 3).toInt)==((y2.fld 3).toInt))==(f0.toInt == 61))] fun Y13 =>
 .ret [D.agg [D.int ((qA Y1).toInt),D.int 0,qA Y13,D.int 0,D.sl []],D.int 0])
 (cK 237 [D.bool (false == (f0.toInt == 61))] fun Y14 =>
 .ret [D.agg [D.int ((qA Y1).toInt),D.int 0,qA Y14,D.int 0,D.sl []],D.int 0]))
 (.br (f0.toInt == 8800) (.br (((x1.fld 1).toInt)==((y2.fld 1).toInt)) (cK 237 [D.bool ((((x1.fld 3).toInt)==((y2.fld 3).toInt))==(f0.toInt == 61))] fun Y15 =>
 .ret [D.agg [D.int ((qA Y1).toInt),D.int 0,qA Y15,D.int 0,D.sl []],D.int 0])
 (cK 237 [D.bool (false == (f0.toInt == 61))] fun Y16 =>
 .ret [D.agg [D.int ((qA Y1).toInt),D.int 0,qA Y16,D.int 0,D.sl []],D.int 0]))
 (.ret [D.agg [D.int ((qA Y1).toInt),D.int 0,D.agg [D.bool false,D.sl [],D.sl []],D.int 0,D.sl []],D.int 3]))))):=by kernel_rfl
theorem AiK(n:Nat)(a0 i1:D):fA [] n 195 [] [a0,i1] =
 .br ((((a0.fld 1).els).length:Int)==0) (bK ((0:Int)<0) (.ret [D.agg [D.int 0,D.int 0,D.agg [D.bool false,D.sl [],D.sl []],D.int 0,D.sl []]])
 (bK ((((a0.fld 2).els).length:Int)≤(0:Int)) (.ret [D.agg [D.int 0,D.int 0,D.agg [D.bool false,D.sl [],D.sl []],D.int 0,D.sl []]])
 (kK (0≤0) (kK (0<(((a0.fld 2).els).length:Int)) (.ret [((a0.fld 2).els).getD (Alf 0) D.nil])))))
 (bK (i1.toInt<0) (.ret [D.agg [D.int 0,D.int 0,D.agg [D.bool false,D.sl [],D.sl []],D.int 0,D.sl []]])
 (bK ((((a0.fld 2).els).length:Int)≤i1.toInt) (.ret [D.agg [D.int 0,D.int 0,D.agg [D.bool false,D.sl [],D.sl []],D.int 0,D.sl []]])
 (kK (0≤i1.toInt) (kK (i1.toInt<(((a0.fld 2).els).length:Int)) (.ret [((a0.fld 2).els).getD (Alf i1.toInt) D.nil]))))):=by kernel_rfl
theorem Ai7(n:Nat)(f0 nn1:D):fA [] n 221 [] [f0,nn1] =
 .br (f0.toInt == 43) (cK 257 [nn1] fun Y1 =>
 .ret [(qA Y1).fld 2,D.int 0])
 (.br (f0.toInt == 45) (cK 258 [nn1] fun Y2 =>
 .ret [qA Y2,D.int 0])
 (.br (f0.toInt == 215) (cK 259 [nn1] fun Y3 =>
 cK 212 [D.int ((qA Y3).toInt)] fun Y4 =>
 .ret [qA Y4,D.int 0])
 (.br (f0.toInt == 247) (cK 212 [D.int 1] fun Y5 =>
 cK 260 [qA Y5,nn1] fun Y6 =>
 .ret [qA Y6,D.int ((qB Y6).toInt)])
 (.br (f0.toInt == 8968) (cK 261 [nn1] fun Y7 =>
 .ret [qA Y7,D.int 0])
 (.br (f0.toInt == 8970) (cK 262 [nn1] fun Y8 =>
 .ret [qA Y8,D.int 0])
 (.br (f0.toInt == 124) (cK 263 [nn1] fun Y9 =>
 .ret [qA Y9,D.int 0])
 (.br (f0.toInt == 126) (cK 166 [nn1] fun Y10 =>
 .br (!((qB Y10).toBool)) (.ret [D.agg [D.bool false,D.sl [],D.sl []],D.int 3])
 (.br (((qA Y10).toInt)!=0) (.br (((qA Y10).toInt)!=1) (.ret [D.agg [D.bool false,D.sl [],D.sl []],D.int 3])
 (cK 212 [D.int (Ale .i64 (1-((qA Y10).toInt)))] fun Y11 =>
 .ret [qA Y11,D.int 0]))
 (cK 212 [D.int (Ale .i64 (1-((qA Y10).toInt)))] fun Y12 =>
 .ret [qA Y12,D.int 0])))
 (.br (f0.toInt == 33) (cK 264 [nn1] fun Y13 =>
 .ret [qA Y13,D.int ((qB Y13).toInt)])
 (.ret [D.agg [D.bool false,D.sl [],D.sl []],D.int 8]))))))))):=by kernel_rfl
theorem AiH(n:Nat)(c0:D):fA [] n 222 [] [c0] =
 .br ((((c0.fld 4).els).length:Int)==0) (.ret [D.agg [D.int 0,D.sl [],D.sl []]])
 (kK (0≤0) (kK (0<(((c0.fld 4).els).length:Int)) (.ret [((c0.fld 4).els).getD (Alf 0) D.nil]))):=by kernel_rfl
theorem AiE(n:Nat)(c0:D):fA [] n 235 [] [c0] =
 .br (((c0.fld 1).toInt)==2) (cK 222 [c0] fun Y1 =>
 .ret [qA Y1])
 (cK 178 [D.agg [D.int 0,D.int ((c0.fld 1).toInt),c0.fld 2,D.int ((c0.fld 3).toInt),c0.fld 4]] fun Y2 =>
 .ret [qA Y2]):=by kernel_rfl
theorem Ai9(n:Nat)(f0 a1 b2:D):fA [] n 236 [] [f0,a1,b2] =
 .br (f0.toInt == 43) (cK 277 [a1,b2] fun Y1 =>
 .ret [qA Y1,D.int ((qB Y1).toInt)])
 (.br (f0.toInt == 45) (cK 278 [a1,b2] fun Y2 =>
 .ret [qA Y2,D.int ((qB Y2).toInt)])
 (.br (f0.toInt == 215) (cK 279 [a1,b2] fun Y3 =>
 .ret [qA Y3,D.int ((qB Y3).toInt)])
 (.br (f0.toInt == 247) (cK 260 [a1,b2] fun Y4 =>
 .ret [qA Y4,D.int ((qB Y4).toInt)])
 (.br (f0.toInt == 8968) (.br (f0.toInt == 8968) (cK 219 [a1,b2] fun Y5 =>
 .br ((decide (((qA Y5).toInt)<0))==(f0.toInt == 8968)) (cK 257 [b2] fun Y6 =>
 .ret [(qA Y6).fld 2,D.int 0])
 (cK 257 [a1] fun Y7 =>
 .ret [(qA Y7).fld 2,D.int 0]))
 (.br (f0.toInt == 124) (cK 280 [a1,b2] fun Y8 =>
 .ret [qA Y8,D.int ((qB Y8).toInt)])
 (.br (f0.toInt == 42) (cK 166 [b2] fun Y9 =>
 .br (!((qB Y9).toBool)) (.ret [D.agg [D.bool false,D.sl [],D.sl []],D.int 8])
 (cK 281 [a1,D.int ((qA Y9).toInt)] fun Y10 =>
 .ret [qA Y10,D.int ((qB Y10).toInt)]))
 (.br (f0.toInt == 8743) (cK 282 [a1,b2] fun Y11 =>
 .ret [qA Y11,D.int ((qB Y11).toInt)])
 (.br (f0.toInt == 8744) (cK 283 [a1,b2] fun Y12 =>
 .ret [qA Y12,D.int ((qB Y12).toInt)])
 (cK 284 [D.int f0.toInt,a1,b2] fun Y13 =>
 .ret [qA Y13,D.int ((qB Y13).toInt)]))))))
 (.br (f0.toInt == 8970) (cK 219 [a1,b2] fun Y14 =>
 .br ((decide (((qA Y14).toInt)<0))==(f0.toInt == 8968)) (cK 257 [b2] fun Y15 =>
 .ret [(qA Y15).fld 2,D.int 0])
 (cK 257 [a1] fun Y16 =>
 .ret [(qA Y16).fld 2,D.int 0]))
 (.br (f0.toInt == 124) (cK 280 [a1,b2] fun Y17 =>
 .ret [qA Y17,D.int ((qB Y17).toInt)])
 (.br (f0.toInt == 42) (cK 166 [b2] fun Y18 =>
 .br (!((qB Y18).toBool)) (.ret [D.agg [D.bool false,D.sl [],D.sl []],D.int 8])
 (cK 281 [a1,D.int ((qA Y18).toInt)] fun Y19 =>
 .ret [qA Y19,D.int ((qB Y19).toInt)]))
 (.br (f0.toInt == 8743) (cK 282 [a1,b2] fun Y20 =>
 .ret [qA Y20,D.int ((qB Y20).toInt)])
 (.br (f0.toInt == 8744) (cK 283 [a1,b2] fun Y21 =>
 .ret [qA Y21,D.int ((qB Y21).toInt)])
 (cK 284 [D.int f0.toInt,a1,b2] fun Y22 =>
 .ret [qA Y22,D.int ((qB Y22).toInt)])))))))))):=by kernel_rfl
theorem AiL(n:Nat)(holds0:D):fA [] n 237 [] [holds0] =
 .br holds0.toBool (cK 212 [D.int 1] fun Y1 =>
 .ret [qA Y1])
 (cK 212 [D.int 0] fun Y2 =>
 .ret [qA Y2]):=by kernel_rfl
def Yo:List (Nat×Orc):=[(9,⟨[(2,none),(6,none),(8,none),(9,none)],[(2,false),(8,true)],[]⟩)]
noncomputable def Yn(n m9:Nat)(most6 i9:Int)(t2_0:Bool)(product8:D):Tree :=
 lA (eA Yo n 264 [1,1,1,1,1,0,1,0,0]) (Al Yo 9) m9 ⟨(.undef:: .undef:: .ptr 2 []::uA 3++(.i .i64 most6:: .undef:: .ptr 8 []:: .i .i64 i9::uA 42)),[(2,.var 64 (.agg 64 [.b t2_0,.mt,.mt]) true),(8,.var 187 (.d 187 product8) true)],[2,8],[],[]⟩
  (Ai 0 (An (jA Yo n 264 [1,1,1,1,1,1]) (rA 264 [64] [.cell 2 64,.tmp 3] [64,29])))
theorem WR(n m9:Nat)(most6 i9:Int)(t2_0:Bool)(product8:D):Yn n (m9+1) most6 i9 t2_0 product8 =
 bK (i9≤most6) (cK 246 [D.int i9] fun Y5 =>
 cK 254 [product8,qA Y5] fun Y6 =>
 Yn n m9 most6 (Ale .i64 (i9+1)) t2_0 (qA Y6))
 (bK (32<(((product8.fld 1).els).length:Int)) (.ret [D.agg [D.bool false,D.sl [],D.sl []],D.int 7])
 (cK 245 [product8] fun Y7 =>
 .ret [qA Y7,D.int 0])):=by kernel_rfl
theorem AiG(n:Nat)(nn0:D):fA Yo n 264 [] [nn0] =
 cK 307 [nn0] fun Y1 =>
 .br (!((qB Y1).toBool)) (.ret [D.agg [D.bool false,D.sl [],D.sl []],D.int 3])
 (cK 259 [nn0] fun Y2 =>
 bK (((qA Y2).toInt)<0) (.ret [D.agg [D.bool false,D.sl [],D.sl []],D.int 3])
 (cK 166 [nn0] fun Y3 =>
 .br (!((qB Y3).toBool)) (.ret [D.agg [D.bool false,D.sl [],D.sl []],D.int 7])
 (bK (200<((qA Y3).toInt)) (.ret [D.agg [D.bool false,D.sl [],D.sl []],D.int 7])
 (cK 246 [D.int 1] fun Y4 =>
 Yn n n ((qA Y3).toInt) 2 false (qA Y4))))):=by kernel_rfl
theorem AiD(n:Nat)(f0 a1 b2:D):fA [] n 284 [] [f0,a1,b2] =
 cK 219 [a1,b2] fun Y1 =>
 .br (f0.toInt == 60) (cK 237 [D.bool (decide (((qA Y1).toInt)<0))] fun Y2 =>
 .ret [qA Y2,D.int 0])
 (.br (f0.toInt == 8804) (cK 237 [D.bool (decide (((qA Y1).toInt)≤0))] fun Y3 =>
 .ret [qA Y3,D.int 0])
 (.br (f0.toInt == 61) (cK 237 [D.bool (((qA Y1).toInt)==0)] fun Y4 =>
 .ret [qA Y4,D.int 0])
 (.br (f0.toInt == 8805) (cK 237 [D.bool (decide (0≤((qA Y1).toInt)))] fun Y5 =>
 .ret [qA Y5,D.int 0])
 (.br (f0.toInt == 62) (cK 237 [D.bool (decide (0<((qA Y1).toInt)))] fun Y6 =>
 .ret [qA Y6,D.int 0])
 (.br (f0.toInt == 8800) (cK 237 [D.bool (((qA Y1).toInt)!=0)] fun Y7 =>
 .ret [qA Y7,D.int 0])
 (.ret [D.agg [D.bool false,D.sl [],D.sl []],D.int 8])))))):=by kernel_rfl
def Kw:List Int:=[43,45,215,247,8968,8970,124,126,33]
def Ms:List Int:=[43,45,215,247,8968,8970,124,42,60,8804,61,8805,62,8800,8743,8744]
theorem Ai2(f:Int):Sp 158 [.int f] [.bool (decide (f∈Kw))]:=by
 refine Af 0 (Ai3 _ _) ?_
 simp only[Ak,Cc]
 unfold Kw
 repeat (refine Ae (fun h=>Av h (Ac (by simp[h]))) (fun h=> ?_))
 refine Ae (fun h=>Ac (by simp[h])) (fun h=>Ac (by simp[*]))
theorem Ai4(f:Int):Sp 192 [.int f] [.bool (decide (f∈Ms))]:=by
 refine Af 0 (Ai5 _ _) ?_
 simp only[Ak,Cc]
 unfold Ms
 repeat (refine Ae (fun h=>Av h (Ac (by simp[h]))) (fun h=> ?_))
 refine Ae (fun h=>Ac (by simp[h])) (fun h=>Ac (by simp[*]))
theorem Xu(l:List Int)(x:Int)(hl:l.length≤1000000):Sp 23 [dI l,.int x] [.bool (decide (x∈l))]:=by
 refine Af (l.length+1) (Ah4 _ _ _) ?_
 simp only[Ak]
 have key:=B1 l (fun m k (_:Unit)=>Xs (l.length+1) m (dI l) x (k:Int)) (fun rest _=>[.bool (decide (x∈rest))]) (fun _ _=>True)
  (fun m k _ hk _=>by
   simp only[UH,B0,Ali]
   exact Aq (Ac (by simp)))
  (fun m k _ y rest hdr _ ih=>by
   obtain ⟨h1,h2,_⟩:=Bv hdr
   simp only[UH,B0,Ali,Aln,Ar h2,Ak,Cc,Bb k]
   refine Ad (Ad (Ad (Ae (fun h=>Ac ?_) (fun h=> ?_))))
   · rw[h];simp
   · refine Tree.wp_mono (ih () trivial) (fun ys hy=>hy.trans ?_)
     rw[show decide (x∈y::rest)=decide (x∈rest) by rw[decide_eq_decide,Alx];exact ⟨fun hh=>hh.resolve_left (fun e=>h e.symm),fun hh=> .inr hh⟩])
  (l.length+1) 0 () (by omega) (by omega) trivial
 exact key
def G9(b:Bool):Num:=if b then Cm 1 else Cm 0
theorem Je(b:Bool):Sp 237 [.bool b] [dN (G9 b)]:=by
 refine Af 0 (AiL _ _) ?_
 cases b with
 | true=>exact Ax rfl (Aa (Kz 1 (by unfold Bc;omega)) (Ac rfl))
 | false=>exact B_ rfl (Aa (Kz 0 (by unfold Bc;omega)) (Ac rfl))
def D7:Nat→Nat
 | 0=>1
 | k+1=>(k+1)*D7 k
def CI(n:Num):Num×Int:=if n.bot = [1]∧n.neg=false then (match Db n with | some k=>if k≤200 then C1 (D7 k.toNat:Nat) 1 else (.zero,7) | none=>(.zero,7)) else (.zero,3)
def Oc(f:Int)(n:Num):Num×Int :=
 if f=43 then (n,0) else if f=45 then (Ib n,0) else if f=215 then (Cm (Fa (Bm n)),0) else if f=247 then Ln (Cm 1) n
 else if f=8968 then (Ib (I0 (Ib n)),0) else if f=8970 then (I0 n,0) else if f=124 then (⟨false,n.top,n.bot⟩,0)
 else if f=126 then (if Db n=some 0 then (Cm 1,0) else if Db n=some 1 then (Cm 0,0) else (.zero,3))
 else if f=33 then CI n else (.zero,8)
def BI(f c:Int):Num×Int :=
 if f=60 then (G9 (decide (c<0)),0) else if f=8804 then (G9 (decide (c≤0)),0) else if f=61 then (G9 (decide (c=0)),0)
 else if f=8805 then (G9 (decide (0≤c)),0) else if f=62 then (G9 (decide (0<c)),0) else if f=8800 then (G9 (decide (¬ c=0)),0) else (.zero,8)
def K9(f:Int)(a b:Num):Num×Int :=
 if f=43 then AI a b else if f=45 then IB a b else if f=215 then N7 a b else if f=247 then Ln a b
 else if f=8968 then (if Gj a b<0 then b else a,0) else if f=8970 then (if Gj a b<0 then a else b,0)
 else if f=124 then EC a b else if f=42 then (match Db b with | some k=>FF a k | none=>(.zero,8))
 else if f=8743 then DM a b else if f=8744 then Lu a b else BI f (Gj a b)
section
variable {a b:Num} {z y:Int} {d e:Nat}
theorem AjB(h:RNum a z d){k:Int}(hs:Db a=some k):k=z∧d=1∧Bc z:=by
 unfold Db K8 at hs
 split at hs
 · rename_i hb
   rw[h.top]at hs
   split at hs
   · rename_i hr
     injection hs with hs
     refine ⟨hs.symm,?_,hr⟩
     have:=h.bot
     rw[EJ hb]at this
     omega
   · cases hs
 · cases hs
theorem OM(k:Nat)(h:k<B):Br (D7 k:Nat)≤k+1:=by
 induction k with
 | zero=>show (lb (Int.natAbs (D7 0:Nat))).length≤1;simp[D7,L0]
 | succ k ih =>
  have h1:=ih (by omega)
  rw[D7,Int.natCast_mul]
  have h2:=H9 ((k+1:Nat):Int) (D7 k:Nat)
  have h3:Br ((k+1:Nat):Int)≤1:=Qj (by rw[Int.natAbs_natCast,Nat.pow_one];exact h)
  omega
end
theorem AdC(p:Int):C1 p 1=if 32<Br p then (.zero,7) else (Cm p,0):=by
 obtain ⟨z,d,h0,_,h2,_,h4,h5⟩:=Vp p 1 (by decide)
 have hd:d=1:=by
  have:Int.natAbs 1=1:=rfl
  omega
 subst hd
 have hz:z=p:=by simpa using h2
 subst hz
 rw[h5,No]
 by_cases h:32<Br z
 · rw[if_pos (.inl h),if_pos h]
 · rw[if_neg (by rw[L0];simp;omega),if_neg h]
section
variable {a b:Num} {z y:Int} {d e:Nat}
theorem Ags(h:RNum a z d) : ∃ w:Wh,Sp 307 [dN a] [dW w,.bool (decide (a.bot = [1]))]:=by
 by_cases hb:a.bot = [1]
 · refine ⟨wz (Bm a),Af 0 (TB _ _) (Aa (J6 a.bot) ?_)⟩
   rw[decide_eq_true hb]
   exact B_ rfl (Aa (E_ a) (Aa (Z6 ⟨a.neg,a.top⟩ (by have:=h.len;show a.top.length≤_;omega)) (Ac rfl)))
 · refine ⟨⟨false,[]⟩,Af 0 (TB _ _) (Aa (J6 a.bot) ?_)⟩
   rw[decide_eq_false hb]
   exact Ax rfl (Ac rfl)
theorem XA{x:Int} : Fa x<0↔x<0:=by unfold Fa;by_cases h1:x<0 <;> by_cases h2:x=0 <;> simp[h1,h2]
theorem AbW(k:Nat)(hk:0<k):((D7 (k-1):Nat):Int)*(k:Int)=((D7 k:Nat):Int):=by
 obtain ⟨j,rfl⟩ : ∃ j,k=j+1:=⟨k-1,by omega⟩
 rw[Nat.add_sub_cancel,D7,Int.natCast_mul,Int.mul_comm]
theorem AiF(h:RNum a z d):Sp 264 [dN a] (C9 (CI a)):=by
 obtain ⟨w,hi⟩:=Ags h
 obtain ⟨l1,l2⟩:=h.len
 refine Af 300 (AiG _ _) (Aa hi ?_)
 simp only[Cl,Az,Eu,H2]
 unfold CI
 refine Ae (fun h1=>Ac ?_) (fun h1=>Aa (W6 h.sm) ?_)
 · rw[if_neg (fun hh=>h1 hh.1)];rfl
 have hb:=Alt.1 h1
 simp only[Ag,Ak]
 refine Ae (fun h2=>Ac ?_) (fun h2=>Aa (W7 a (by omega)) ?_)
 · have:a.neg=true:=by rw[h.sgn];exact decide_eq_true (by rw[← h.top];exact XA.1 h2)
   rw[if_neg (fun hh=>by rw[this]at hh;cases hh.2)];rfl
 have hn:a.neg=false:=by rw[h.sgn];exact decide_eq_false (fun hh=>h2 (XA.2 (by rw[h.top];exact hh)))
 rw[if_pos ⟨hb,hn⟩]
 cases hs:Db a with
 | none=>exact Ax rfl (Ac rfl)
 | some k =>
   obtain ⟨rfl,rfl,hr⟩:=AjB h hs
   have hk0:0≤k:=by have:=h.sgn;rw[hn]at this;have:=of_decide_eq_false this.symm;omega
   refine B_ rfl ?_
   simp only[Kx,Ag,Ak]
   refine Ae (fun h3=>Ac ?_) (fun h3=>Aa (Se 1 (by unfold Bc;omega)) ?_)
   · rw[if_neg (by omega)];rfl
   rw[if_pos (by omega)]
   obtain ⟨K,rfl⟩:=Int.eq_ofNat_of_zero_le hk0
   have hK:K≤200:=by omega
   simp only[Ag,Aln]
   have key:=Da (max (K+1) 2) (fun m k (_:Unit)=>Yn 300 m (K:Int) (k:Int) false (dW (wz ((D7 (k-1):Nat):Int)))) (fun _ _=>C9 (C1 (D7 K:Nat) 1)) (fun k _=>2≤k)
    (fun m _ _=>by
     have hf:D7 (max (K+1) 2-1)=D7 K:=by
       rcases (by omega:K=0∨1≤K) with h0 | h0
       · subst h0;rfl
       · rw[show max (K+1) 2-1=K by omega]
     have hl:=OM K (by rw[Aw];omega)
     simp only[WR,hf,Ep,Bx,Ali,H2]
     rw[AdC]
     refine Aq (Ae (fun h4=>Ac ?_) (fun h4=> ?_))
     · rw[if_pos (by have:=Fc ((D7 K:Nat):Int);omega)];rfl
     · have hw:=Fc ((D7 K:Nat):Int)
       have wh:=W8 (wz ((D7 K:Nat):Int)) (by omega)
       rw[Cw]at wh
       have e1:Lb ((D7 K:Nat):Int)=Cm ((D7 K:Nat):Int):=by unfold Lb;rw[if_neg (by show ¬ 32<Br _;omega)]
       rw[e1]at wh
       rw[if_neg (by omega)]
       exact Aa wh (Ac rfl))
    (fun m k _ hkK hk2 ih=>by
     have hkK':k≤K:=by omega
     simp only[WR]
     rw[Fo (by omega)]
     have l1:=OM (k-1) (by rw[Aw];omega)
     have l2:Br (k:Int)≤1:=Qj (by rw[Int.natAbs_natCast,Nat.pow_one,Aw];omega)
     have ml:=Hy (wz ((D7 (k-1):Nat):Int)) (wz (k:Int)) (by rw[Fc];omega) (by rw[Fc];omega)
     rw[Cw,Cw,AbW k (by omega)]at ml
     have:=ih () (by omega)
     rw[Nat.add_sub_cancel]at this
     exact Ad (Aa (Se (k:Int) (by unfold Bc;omega)) (Aa ml this)))
    300 2 () (by omega) (by omega) (by omega)
   exact key
theorem AcF(x:Int):Bc (Fa x):=by unfold Fa Bc;split;omega;split <;> omega
theorem Ai6(f:Int)(h:RNum a z d):Sp 221 [.int f,dN a] (C9 (Oc f a)):=by
 obtain ⟨l1,l2⟩:=h.len
 have o1:=Aim (z:=1) Ads
 refine Af 0 (Ai7 _ _ _) ?_
 simp only[Ak,Cc,H2]
 unfold Oc
 refine Ae (fun h1=>Aa (Ph a (by omega) (by omega)) (Ac ?_)) (fun h1=> ?_)
 · rw[if_pos h1];simp[C9]
 rw[if_neg h1]
 refine Ae (fun h1=>Aa (W5 h) (Ac ?_)) (fun h1=> ?_)
 · rw[if_pos h1];rfl
 rw[if_neg h1]
 refine Ae (fun h1=>Aa (W6 h.sm) (Aa (Kz _ (AcF _)) (Ac ?_))) (fun h1=> ?_)
 · rw[if_pos h1];rfl
 rw[if_neg h1]
 refine Ae (fun h1=>Aa (Kz 1 (by unfold Bc;omega)) (Aa (W3 o1.sm h.sm) (Ac ?_))) (fun h1=> ?_)
 · rw[if_pos h1];rfl
 rw[if_neg h1]
 refine Ae (fun h1=>Aa (Agm h) (Ac ?_)) (fun h1=> ?_)
 · rw[if_pos h1];rfl
 rw[if_neg h1]
 refine Ae (fun h1=>Aa (FR h) (Ac ?_)) (fun h1=> ?_)
 · rw[if_pos h1];rfl
 rw[if_neg h1]
 refine Ae (fun h1=>Aa (Agj h) (Ac ?_)) (fun h1=> ?_)
 · rw[if_pos h1];rfl
 rw[if_neg h1]
 refine Ae (fun h1=>Aa (W7 a (by omega)) ?_) (fun h1=> ?_)
 · rw[if_pos h1]
   cases hs:Db a with
   | none=>exact Ax rfl (Ac rfl)
   | some k =>
    refine B_ rfl ?_
    simp only[Kx,Ag,Ak,Cu,Alo]
    refine Ae (fun h2=>Ae (fun h3=>Ac ?_) (fun h3=> ?_)) (fun h2=> ?_)
    · rw[if_neg h2,if_neg h3];rfl
    · obtain rfl:=Alt.1 h3
      exact Aa (Kz _ (by unfold Bc;decide)) (Ac rfl)
    · obtain rfl:=Alt.1 h2
      exact Aa (Kz _ (by unfold Bc;decide)) (Ac rfl)
 rw[if_neg h1]
 refine Ae (fun h1=>Aa (AiF h) (Ac ?_)) (fun h1=>Ac ?_)
 · rw[if_pos h1];rfl
 · rw[if_neg h1];rfl
theorem AiC(f:Int)(h:RNum a z d)(h':RNum b y e):Sp 284 [.int f,dN a,dN b] (C9 (BI f (Gj a b))):=by
 refine Af 0 (AiD _ _ _ _) (Aa (W2 h.sm h'.sm) ?_)
 simp only[Ag,Ak,Cc,Cu,H2]
 unfold BI
 refine Ae (fun h1=>Aa (Je _) (Ac ?_)) (fun h1=> ?_)
 · rw[if_pos h1];rfl
 rw[if_neg h1]
 refine Ae (fun h1=>Aa (Je _) (Ac ?_)) (fun h1=> ?_)
 · rw[if_pos h1];rfl
 rw[if_neg h1]
 refine Ae (fun h1=>Aa (Je _) (Ac ?_)) (fun h1=> ?_)
 · rw[if_pos h1];rfl
 rw[if_neg h1]
 refine Ae (fun h1=>Aa (Je _) (Ac ?_)) (fun h1=> ?_)
 · rw[if_pos h1];rfl
 rw[if_neg h1]
 refine Ae (fun h1=>Aa (Je _) (Ac ?_)) (fun h1=> ?_)
 · rw[if_pos h1];rfl
 rw[if_neg h1]
 refine Ae (fun h1=>Aa (Je _) (Ac ?_)) (fun h1=>Ac ?_)
 · rw[if_pos h1];rfl
 · rw[if_neg h1];rfl
def Aak(f:Int)(b:Num):Prop:=f=42→∀ k,Db b=some k→ -300≤k∧k≤300
theorem Ai8(f:Int)(h:RNum a z d)(h':RNum b y e)(hp:Aak f b):Sp 236 [.int f,dN a,dN b] (C9 (K9 f a b)):=by
 obtain ⟨l1,l2⟩:=h.len
 obtain ⟨l3,l4⟩:=h'.len
 refine Af 0 (Ai9 _ _ _ _) ?_
 simp only[Ak,Cc,H2]
 unfold K9
 refine Ae (fun h1=>Aa (SZ h.sm h'.sm) (Ac ?_)) (fun h1=> ?_)
 · rw[if_pos h1];rfl
 rw[if_neg h1]
 refine Ae (fun h1=>Aa (TD h.sm h') (Ac ?_)) (fun h1=> ?_)
 · rw[if_pos h1];rfl
 rw[if_neg h1]
 refine Ae (fun h1=>Aa (FT h.sm h'.sm) (Ac ?_)) (fun h1=> ?_)
 · rw[if_pos h1];rfl
 rw[if_neg h1]
 refine Ae (fun h1=>Aa (W3 h.sm h'.sm) (Ac ?_)) (fun h1=> ?_)
 · rw[if_pos h1];rfl
 rw[if_neg h1]
 refine Ae (fun h1=>Av h1 (Aa (W2 h.sm h'.sm) ?_)) (fun h1=> ?_)
 · rw[if_pos h1,decide_eq_true h1]
   simp only[Ag,Ak]
   by_cases hc:Gj a b<0
   · rw[if_pos hc]
     exact Ax (beq_iff_eq.2 (decide_eq_true hc)) (Aa (Ph b (by omega) (by omega)) (Ac (by simp[C9])))
   · rw[if_neg hc]
     exact B_ (beq_eq_false_iff_ne.2 (fun hh=>hc (of_decide_eq_true hh))) (Aa (Ph a (by omega) (by omega)) (Ac (by simp[C9])))
 rw[if_neg h1,decide_eq_false h1]
 refine Ae (fun h1=>Aa (W2 h.sm h'.sm) ?_) (fun h1=> ?_)
 · rw[if_pos h1]
   simp only[Ag,Ak]
   by_cases hc:Gj a b<0
   · rw[if_pos hc]
     exact B_ (beq_eq_false_iff_ne.2 (fun hh=>of_decide_eq_false hh hc)) (Aa (Ph a (by omega) (by omega)) (Ac (by simp[C9])))
   · rw[if_neg hc]
     exact Ax (beq_iff_eq.2 (decide_eq_false hc)) (Aa (Ph b (by omega) (by omega)) (Ac (by simp[C9])))
 rw[if_neg h1]
 refine Ae (fun h1=>Aa (Agw h h') (Ac ?_)) (fun h1=> ?_)
 · rw[if_pos h1];rfl
 rw[if_neg h1]
 refine Ae (fun h1=>Aa (W7 b (by omega)) ?_) (fun h1=> ?_)
 · rw[if_pos h1]
   cases hs:Db b with
   | none=>exact Ax rfl (Ac rfl)
   | some k =>
     have:=hp h1 k hs
     exact B_ rfl (Aa (Ag1 h k (by omega)) (Ac rfl))
 rw[if_neg h1]
 refine Ae (fun h1=>Aa (Agt h h') (Ac ?_)) (fun h1=> ?_)
 · rw[if_pos h1];rfl
 rw[if_neg h1]
 refine Ae (fun h1=>Aa (TA h h') (Ac ?_)) (fun h1=>Aa (AiC f h h') (Ac ?_))
 · rw[if_pos h1];rfl
 · rw[if_neg h1];rfl
end
theorem Ml{d:Nat}{c:Cell}(h:B7 d c=true):(c.kind=0∧c.c=0∧c.inn = []∧Ej c.n=true)∨(c.kind=1∧c.n = .zero∧c.inn = [])∨(c.kind=2∧c.n = .zero∧c.c=0∧∃ x e,d=e+1∧c.inn = [x]∧Ge x=false∧Ba e x=true):=by
 have h2:=Rn h
 have key : ∀ k r,D0 k r c=true→(c.kind=0∧c.c=0∧c.inn = []∧Ej c.n=true)∨(c.kind=1∧c.n = .zero∧c.inn = [])∨(c.kind=2∧c.n = .zero∧c.c=0∧∃ x,x∈c.inn):=by
   intro k r hh
   unfold D0 at hh
   split at hh
   · rename_i hk
     simp only[Alp,decide_eq_true_eq]at hh
     exact .inl ⟨hk,hh.1.1,Al7.1 hh.1.2,hh.2⟩
   split at hh
   · rename_i hk
     simp only[Alp,decide_eq_true_eq]at hh
     exact .inr (.inl ⟨hk,hh.1.1,Al7.1 hh.1.2⟩)
   · simp only[Alp,decide_eq_true_eq]at hh
     obtain ⟨h3,h4,h5⟩:=hh
     refine .inr (.inr ⟨h3.1,h3.2.1,h3.2.2,?_⟩)
     unfold Kl at h5
     split at h5
     · rename_i y hy;exact ⟨y,by rw[hy];simp⟩
     · cases h5
 have:(c.kind=0∧c.c=0∧c.inn = []∧Ej c.n=true)∨(c.kind=1∧c.n = .zero∧c.inn = [])∨(c.kind=2∧c.n = .zero∧c.c=0∧∃ x,x∈c.inn):=by
   cases d with
   | zero=>exact key _ _ h
   | succ d=>exact key _ _ h
 rcases this with h3 | h3 | ⟨h3,h4,h5,x,hx⟩
 · exact .inl h3
 · exact .inr (.inl h3)
 · obtain ⟨e,he,hs,hr,hi,_⟩:=h2 x hx
   exact .inr (.inr ⟨h3,h4,h5,x,e,he,hi,hs,hr⟩)
theorem Aii{d:Nat}{l:A8}{n:Num}(h:Ej n=true):B7 d ⟨l,0,n,0,[]⟩=true:=by
 have key : ∀ k r,D0 k r ⟨l,0,n,0,[]⟩=true:=fun k r=>by unfold D0;simp[h]
 cases d with
 | zero=>exact key _ _
 | succ d=>exact key _ _
mutual
def Fy(f:Int):Arr→Arr×Int
 | .mk s sh cs=>if f∈Kw then (if (Ew f cs).2=0 then (.mk s sh (Ew f cs).1,0) else (.none,(Ew f cs).2)) else (.none,8)
def Ew(f:Int):List (CellF Arr)→List (CellF Arr)×Int
 | []=>([],0)
 | c::cs=>if (Hw f c).2=0 then (if (Ew f cs).2=0 then ((Hw f c).1::(Ew f cs).1,0) else ([],(Ew f cs).2)) else ([],(Hw f c).2)
def Hw(f:Int):CellF Arr→CellF Arr×Int
 | ⟨l,k,n,c,inn⟩=>if k=0 then (⟨l,0,(Oc f n).1,0,[]⟩,(Oc f n).2) else if k=2 then (⟨l,2,.zero,0,[(R9 f inn).1]⟩,(R9 f inn).2) else (Cell.none,3)
def R9(f:Int):List Arr→Arr×Int
 | []=>(.none,0)
 | a::_=>Fy f a
end
theorem IN(f:Int)(a:Arr):Fy f a=if f∈Kw then (if (Ew f a.cells).2=0 then (.mk a.s a.shape (Ew f a.cells).1,0) else (.none,(Ew f a.cells).2)) else (.none,8):=by cases a;rw[Fy];rfl
theorem Ak4(f:Int)(c:Cell):Hw f c=if c.kind=0 then (⟨c.l,0,(Oc f c.n).1,0,[]⟩,(Oc f c.n).2) else if c.kind=2 then (⟨c.l,2,.zero,0,[(R9 f c.inn).1]⟩,(R9 f c.inn).2) else (Cell.none,3):=by cases c;rw[Hw]
def J5(s:A8)(sh:List Int)(pre:List Cell)(r:List Cell×Int):List D:=if r.2=0 then [dA (.mk s sh (pre++r.1)),.int 0] else [dA .none,.int r.2]
theorem AeT{s:A8}{sh:List Int}{pre:List Cell}{f:Int}{c:Cell}{cs:List Cell}(h:(Hw f c).2=0):J5 s sh pre (Ew f (c::cs))=J5 s sh (pre++[(Hw f c).1]) (Ew f cs):=by
 rw[Ew,if_pos h]
 unfold J5
 by_cases h2:(Ew f cs).2=0
 · rw[if_pos h2];simp[h2]
 · rw[if_neg h2];simp[h2]
theorem AeU{s:A8}{sh:List Int}{pre:List Cell}{f:Int}{c:Cell}{cs:List Cell}(h : ¬ (Hw f c).2=0):J5 s sh pre (Ew f (c::cs)) = [dA .none,.int (Hw f c).2]:=by
 rw[Ew,if_neg h]
 unfold J5
 rw[if_neg h]
theorem Ak2(f:Int)(a:Arr)(hf:f∈Kw) : [dA (Fy f a).1,D.int (Fy f a).2]=J5 a.s a.shape [] (Ew f a.cells):=by
 rw[IN,if_pos hf]
 unfold J5
 split <;> rfl
theorem WS(c:Cell)(x:Arr)(h:c.inn = [x]):Sp 222 [dC c] [dA x]:=by
 refine Af 0 (AiH _ _) ?_
 simp only[Ah,h,Aml,List.map_nil,All,Alz]
 exact Aq (Ad (Ad (Ac rfl)))
theorem AiI(f:Int)(d:Nat)(c:Cell)(h:B7 d c=true)(ih : ∀ e x,d=e+1→Ba e x=true→Sp 70 [.int f,dA x] [dA (Fy f x).1,.int (Fy f x).2]):Sp 159 [.int f,dC c] [dC (Hw f c).1,.int (Hw f c).2]:=by
 refine Af 0 (AiJ _ _ _) ?_
 simp only[Ah]
 rw[Ak4]
 rcases Ml h with ⟨h1,h2,h3,h4⟩ | ⟨h1,h2,h3⟩ | ⟨h1,h2,h3,x,e,h4,h5,h6,h7⟩
 · obtain ⟨z,q,hr⟩:=Ot h4
   refine Av h1 (Aa (Ai6 f hr) (Ac ?_))
   rw[if_pos h1,Do];rfl
 · refine Aq (Aq (Ac ?_))
   rw[if_neg (by omega),if_neg (by omega),Do];rfl
 · refine Aq (Av h1 (Aa (WS c x h5) (Aa (ih e x h4 h7) (Ac ?_))))
   rw[if_neg (by omega),if_pos h1,h5,R9,Do];rfl
theorem Ai_(f:Int) : ∀ (d:Nat) (a:Arr),Ba d a=true→Sp 70 [.int f,dA a] [dA (Fy f a).1,.int (Fy f a).2]:=by
 suffices key : ∀ (d:Nat) (a:Arr),(∀ e x,d=e+1→Ba e x=true→Sp 70 [.int f,dA x] [dA (Fy f x).1,.int (Fy f x).2])→Ba d a=true→Sp 70 [.int f,dA a] [dA (Fy f a).1,.int (Fy f a).2] by
  intro d
  induction d with
  | zero=>intro a;exact key 0 a (fun e x he=>by omega)
  | succ d ihd=>intro a;exact key (d+1) a (fun e x he=>by
      have:e=d:=by omega
      subst this;exact ihd x)
 intro d a ih hr
 have hs:=Ei hr
 have hl:=hs.2.1
 have hcs:=(Dv hr).2
 refine Af (a.cells.length+1) (AiA _ _ _) (Aa (Ai2 f) ?_)
 simp only[Ah,Cq,Gp]
 refine Ae (fun h=>Ac ?_) (fun h=>Aa (It a.shape hs.1) ?_)
 · rw[IN,if_neg h]
 rw[Ak2 f a (Alt.1 h)]
 simp only[Ah]
 refine Ad (Ad (Av (by simp only[Aj];omega) ?_))
 have key:=B1 a.cells (fun m k (pre:List Cell)=>Yk (a.cells.length+1) m f (.sl (a.cells.map dC)) (a.cells.length:Int) (k:Int) 0 (a.s.toNat:Int) (a.shape.map .int) (pre.map dC++Alh (a.cells.length-k) (dC Cell.none))) (fun rest pre=>J5 a.s a.shape pre (Ew f rest)) (fun rest pre=>pre.length+rest.length=a.cells.length)
  (fun m k pre hk hI=>by
   simp only[WM,Ah]
   refine Aq (Ac ?_)
   rw[hk,Nat.sub_self,List.replicate_zero,Al2,Ew]
   unfold J5
   rw[if_pos rfl,Dk]
   simp[dI])
  (fun m k pre c rest hdr hI ih'=>by
   obtain ⟨h1,h2,h3⟩:=Bv hdr
   have hpk:pre.length=k:=by
     have:=congrArg List.length hdr
     simp only[Alu,All]at this hI
     omega
   have hlen:(pre.map dC++Alh (a.cells.length-k) (dC Cell.none)).length=a.cells.length:=by simp;omega
   simp only[WM,Ah,Ar h2,hlen,Bb k]
   refine Ad (Ad (Ad (Aa (AiI f d c (hcs c (Alm h2)) ih) ?_)))
   simp only[Ag,Cl,Ak,Cu,Cq]
   refine Ae (fun he=>Ac ?_) (fun he=>Ad (Ad ?_))
   · rw[AeU he]
   · have he':=Alt.1 he
     rw[AeT he',show a.cells.length-k=(a.cells.length-(k+1))+1 by omega,← hpk,K5,hpk]
     exact ih' (pre++[(Hw f c).1]) (by simp only[Alr,All,Alz]at hI ⊢; omega))
  (a.cells.length+1) 0 [] (by omega) (by omega) (by simp)
 simpa using key
def Hf(a b:Arr):List Int×Int:=if a.shape = [] then (b.shape,0) else if b.shape = [] then (a.shape,0) else if a.shape.length≠b.shape.length then ([],5) else if a.shape=b.shape then (a.shape,0) else ([],4)
theorem Ai0{d e:Nat}(a b:Arr)(ha:Sml d a)(hb:Sml e b):Sp 193 [dA a,dA b] [dI (Hf a b).1,.int (Hf a b).2]:=by
 obtain ⟨d,rfl⟩:=ha.succ
 obtain ⟨e,rfl⟩:=hb.succ
 have h1:=ha.1
 have h2:=hb.1
 refine Af 0 (Ai1 _ _ _) ?_
 simp only[Ah]
 unfold Hf
 refine Ae (fun h=>Aa (It b.shape h2) (Ac ?_)) (fun h=>Ae (fun h'=>Aa (It a.shape h1) (Ac ?_)) (fun h'=>Ae (fun h3=>Ac ?_) (fun h3=>Aa (XO a.shape b.shape (by omega)) ?_)))
 · rw[if_pos (Al7.1 (by omega))];rfl
 · rw[if_neg (fun hh=>h (by rw[hh];rfl)),if_pos (Al7.1 (by omega))];rfl
 · rw[if_neg (fun hh=>h (by rw[hh];rfl)),if_neg (fun hh=>h' (by rw[hh];rfl)),if_pos (by omega)];rfl
 · rw[if_neg (fun hh=>h (by rw[hh];rfl)),if_neg (fun hh=>h' (by rw[hh];rfl)),if_neg (by omega)]
   simp only[Ag,Az,Eu]
   refine Ae (fun h4=>Ac ?_) (fun h4=>Aa (It a.shape h1) (Ac ?_))
   · rw[if_neg h4];rfl
   · rw[if_pos (Alt.1 h4)];rfl
def D9(a:Arr)(i:Int):Cell:=if (if a.shape = [] then 0 else i)<0∨(a.cells.length:Int)≤(if a.shape = [] then 0 else i) then Cell.none else a.cells.getD (if a.shape = [] then 0 else i).toNat Cell.none
theorem MX{l:List Cell}{i:Nat}(h:i<l.length):(l.map dC).getD i D.nil=dC (l.getD i Cell.none):=by
 rw[Ar (Alg h),Alk,Alg h];rfl
theorem WT(a:Arr)(i:Int):Sp 195 [dA a,.int i] [dC (D9 a i)]:=by
 refine Af 0 (AiK _ _ _) ?_
 simp only[Ah,Gp]
 unfold D9
 refine Ae (fun h=> ?_) (fun h=> ?_)
 · simp only[if_pos (Al7.1 (show a.shape.length=0 by omega))]
   refine Aq (Ae (fun h2=>Ac ?_) (fun h2=>Ad (Ad (Ac ?_))))
   · rw[if_pos (.inr h2)]
   · rw[if_neg (by omega),show Alf 0=0 from rfl,MX (by omega)]
 · simp only[if_neg (fun hh:a.shape = []=>h (by rw[hh];rfl))]
   refine Ae (fun h1=>Ac ?_) (fun h1=>Ae (fun h2=>Ac ?_) (fun h2=>Ad (Ad (Ac ?_))))
   · rw[if_pos (.inl h1)]
   · rw[if_pos (.inr h2)]
   · rw[if_neg (by omega),MX (by omega)]
def Ff(c:Cell):Arr:=if c.kind=2 then c.inn.headD .none else .mk 0 [] [⟨0,c.kind,c.n,c.c,c.inn⟩]
def Hv(r:Arr→Arr→Arr×Int)(f:Int)(x y:Cell):Cell×Int :=
 if x.kind=2∨y.kind=2 then (⟨x.l|||y.l,2,.zero,0,[(r (Ff x) (Ff y)).1]⟩,(r (Ff x) (Ff y)).2)
 else if x.kind=0∧y.kind=0 then (⟨x.l|||y.l,0,(K9 f x.n y.n).1,0,[]⟩,(K9 f x.n y.n).2)
 else if f=61 then (⟨x.l|||y.l,0,G9 (decide (x.kind=y.kind∧x.c=y.c)),0,[]⟩,0)
 else if f=8800 then (⟨x.l|||y.l,0,G9 (decide (¬ (x.kind=y.kind∧x.c=y.c))),0,[]⟩,0)
 else (⟨x.l|||y.l,0,.zero,0,[]⟩,3)
def Fx(g:Nat→Cell×Int):Nat→Nat→List Cell×Int
 | 0,_=>([],0)
 | m+1,k=>if (g k).2=0 then (if (Fx g m (k+1)).2=0 then ((g k).1::(Fx g m (k+1)).1,0) else ([],(Fx g m (k+1)).2)) else ([],(g k).2)
def De(a b:Arr):Nat:=if a.shape = [] then b.cells.length else a.cells.length
def Ij(r:Arr→Arr→Arr×Int)(f:Int)(a b:Arr):Arr×Int :=
 if f∈Ms then (if (Hf a b).2=0 then (if (Fx (fun i=>Hv r f (D9 a i) (D9 b i)) (De a b) 0).2=0 then (.mk (a.s|||b.s) (Hf a b).1 (Fx (fun i=>Hv r f (D9 a i) (D9 b i)) (De a b) 0).1,0) else (.none,(Fx (fun i=>Hv r f (D9 a i) (D9 b i)) (De a b) 0).2)) else (.none,(Hf a b).2)) else (.none,8)
def R6:Nat→Int→Arr→Arr→Arr×Int
 | 0,f=>Ij (fun _ _=>(.none,0)) f
 | d+1,f=>Ij (R6 d f) f
inductive ExpOk:Arr→Prop where
 | mk {s:A8} {sh:List Int} {cs:List Cell} (h : ∀ c∈cs,∀ k,Db c.n=some k→ -300≤k∧k≤300) (h2 : ∀ c∈cs,∀ x∈c.inn,ExpOk x):ExpOk (.mk s sh cs)
theorem ExpOk.cell {a:Arr} (h:ExpOk a) : ∀ c∈a.cells,(∀ k,Db c.n=some k→ -300≤k∧k≤300)∧∀ x∈c.inn,ExpOk x:=by cases h with | mk h h2=>exact fun c hc=>⟨h c hc,h2 c hc⟩
def Kj(c:Cell):Prop:=(∀ k,Db c.n=some k→ -300≤k∧k≤300)∧∀ x∈c.inn,ExpOk x
theorem KV{d:Nat}{c:Cell}(h:B7 (d+1) c=true):Ba d (Ff c)=true∧Sml (d+1) (Ff c)∧(c.kind=2→Ge (Ff c)=false)∧(¬ c.kind=2→(Ff c).shape = []):=by
 have key:Ba d (Ff c)=true∧(c.kind=2→Ge (Ff c)=false)∧(¬ c.kind=2→(Ff c).shape = []):=by
  unfold Ff
  rcases Ml h with ⟨h1,h2,h3,h4⟩ | ⟨h1,h2,h3⟩ | ⟨h1,h2,h3,x,e,h4,h5,h6,h7⟩
  · rw[if_neg (by omega)]
    refine ⟨Ye (by simp;decide) (fun y hy=> ?_),fun hh=>by omega,fun _=>rfl⟩
    have:y=⟨0,c.kind,c.n,c.c,c.inn⟩:=by simpa using hy
    subst this
    rw[h1,h2,h3]
    exact Aii h4
  · rw[if_neg (by omega)]
    refine ⟨Ye (by simp;decide) (fun y hy=> ?_),fun hh=>by omega,fun _=>rfl⟩
    have:y=⟨0,c.kind,c.n,c.c,c.inn⟩:=by simpa using hy
    subst this
    have k1:D0 true (Ba d) c=true:=h
    have key2 : ∀ k r,D0 k r ⟨0,c.kind,c.n,c.c,c.inn⟩=true:=fun k r=>by
     unfold D0 at k1 ⊢
     simp only[h1]at k1 ⊢
     simpa using k1
    cases d with
    | zero=>exact key2 _ _
    | succ d=>exact key2 _ _
  · rw[if_pos h1,h5]
    have:e=d:=by omega
    subst this
    exact ⟨h7,fun _=>h6,fun hh=>absurd h1 hh⟩
 exact ⟨key.1,Ei key.1,key.2⟩
theorem Abn{c:Cell}(h:Kj c)(hi:c.kind=2→∃ x,c.inn = [x]):ExpOk (Ff c):=by
 unfold Ff
 split
 · rename_i hk
   obtain ⟨x,hx⟩:=hi hk
   rw[hx];exact h.2 x (by rw[hx];simp)
 · have one : ∀ y∈[(⟨0,c.kind,c.n,c.c,c.inn⟩:Cell)],Kj y:=fun y hy=>by
    have:y=⟨0,c.kind,c.n,c.c,c.inn⟩:=by simpa using hy
    subst this
    exact h
   exact .mk (fun y hy=>(one y hy).1) (fun y hy=>(one y hy).2)
theorem Ail{d:Nat}{a:Arr}(h:Ba d a=true)(hs:a.shape = []) : ∃ c,a.cells = [c]:=by
 have:=(Dv h).1
 rw[hs,show A0 []=(1,0) by decide]at this
 have e:=congrArg Prod.fst this
 simp only at e
 exact L6 (by omega)
theorem AfG{d:Nat}{a b:Arr}(ha:Ba d a=true)(hb:Ba d b=true)(hc:(Hf a b).2=0){i:Nat}(hi:i<De a b):D9 a i∈a.cells∧D9 b i∈b.cells:=by
 have mem : ∀ (l:List Cell) (j:Nat),j<l.length→l.getD j Cell.none∈l:=fun l j hj=>by
   rw[Alk,Alg hj];exact Amj hj
 have one : ∀ (x:Arr),Ba d x=true→x.shape = []→∀ j:Int,D9 x j∈x.cells:=fun x hx hs j=>by
   obtain ⟨c,hcc⟩:=Ail hx hs
   unfold D9
   rw[if_pos hs,if_neg (by rw[hcc];simp)]
   exact mem _ _ (by rw[hcc];simp)
 have many : ∀ (x:Arr),¬ x.shape = []→∀ j:Nat,j<x.cells.length→D9 x (j:Int)∈x.cells:=fun x hs j hj=>by
   unfold D9
   rw[if_neg hs,if_neg (by omega),Aln]
   exact mem _ _ hj
 unfold De at hi
 by_cases h1:a.shape = []
 · rw[if_pos h1]at hi
   refine ⟨one a ha h1 _,?_⟩
   by_cases h2:b.shape = []
   · exact one b hb h2 _
   · exact many b h2 i hi
 · rw[if_neg h1]at hi
   refine ⟨many a h1 i hi,?_⟩
   by_cases h2:b.shape = []
   · exact one b hb h2 _
   · refine many b h2 i ?_
     unfold Hf at hc
     rw[if_neg h1,if_neg h2]at hc
     split at hc
     · cases hc
     · split at hc
       · rename_i h3
         have e1:=(Dv ha).1
         have e2:=(Dv hb).1
         rw[h3,e2]at e1
         have:=congrArg Prod.fst e1
         simp only at this
         omega
       · cases hc
def Kb(s:A8)(sh:List Int)(pre:List Cell)(r:List Cell×Int):List D:=if r.2=0 then [dA (.mk s sh (pre++r.1)),.int 0] else [dA .none,.int r.2]
theorem Aku{s:A8}{sh:List Int}{pre:List Cell}{g:Nat→Cell×Int}{m k:Nat}(h:(g k).2=0):Kb s sh pre (Fx g (m+1) k)=Kb s sh (pre++[(g k).1]) (Fx g m (k+1)):=by
 rw[Fx,if_pos h]
 unfold Kb
 by_cases h2:(Fx g m (k+1)).2=0
 · rw[if_pos h2];simp[h2]
 · rw[if_neg h2];simp[h2]
theorem Akv{s:A8}{sh:List Int}{pre:List Cell}{g:Nat→Cell×Int}{m k:Nat}(h : ¬ (g k).2=0):Kb s sh pre (Fx g (m+1) k) = [dA .none,.int (g k).2]:=by
 rw[Fx,if_neg h]
 unfold Kb
 rw[if_neg h]
theorem Akx(r:Arr→Arr→Arr×Int)(f:Int)(a b:Arr)(hf:f∈Ms)(hc:(Hf a b).2=0) : [dA (Ij r f a b).1,D.int (Ij r f a b).2]=Kb (a.s|||b.s) (Hf a b).1 [] (Fx (fun i=>Hv r f (D9 a i) (D9 b i)) (De a b) 0):=by
 unfold Ij
 rw[if_pos hf,if_pos hc]
 unfold Kb
 split <;> rfl
theorem WQ{d:Nat}(c:Cell)(h:B7 d c=true):Sp 235 [dC c] [dA (Ff c)]:=by
 refine Af 0 (AiE _ _) ?_
 simp only[Ah]
 unfold Ff
 have hs:=VU h
 refine Ae (fun h1=> ?_) (fun h1=> ?_)
 · rcases Ml h with ⟨g1,_⟩ | ⟨g1,_⟩ | ⟨g1,g2,g3,x,e,g4,g5,g6,g7⟩
   · omega
   · omega
   · rw[if_pos h1,g5]
     exact Aa (WS c x g5) (Ac rfl)
 · rw[if_neg h1]
   have e0:D.agg [D.int 0,D.int c.kind,dN c.n,D.int c.c,D.sl (c.inn.map dA)]=dC ⟨0,c.kind,c.n,c.c,c.inn⟩:=by rw[Do];rfl
   rw[e0]
   exact Aa (Pi (d:=d) ⟨0,c.kind,c.n,c.c,c.inn⟩ hs) (Ac rfl)
theorem Pu(l:A8)(n:Num):D.agg [dB l,D.int 0,dN n,D.int 0,D.sl []]=dC ⟨l,0,n,0,[]⟩:=by rw[Do];rfl
theorem AbA(l:A8):D.agg [dB l,D.int 0,D.agg [D.bool false,D.sl [],D.sl []],D.int 0,D.sl []]=dC ⟨l,0,.zero,0,[]⟩:=by rw[Do];rfl
section
variable {d:Nat} {x y:Cell} {f:Int} {r:Arr→Arr→Arr×Int}
theorem QN(hx:B7 0 x=true) : ¬ x.kind=2:=by
 rcases Ml hx with ⟨g1,_⟩ | ⟨g1,_⟩ | ⟨_,_,_,_,e,g4,_⟩
 · omega
 · omega
 · omega
theorem QP(hx:B7 d x=true)(h:x.kind=0):Ej x.n=true:=by
 rcases Ml hx with ⟨_,_,_,g4⟩ | ⟨g1,_⟩ | ⟨g1,_⟩
 · exact g4
 · omega
 · omega
theorem AaX(hx:B7 d x=true)(h:x.kind=2) : ∃ X,x.inn = [X]:=by
 rcases Ml hx with ⟨g1,_⟩ | ⟨g1,_⟩ | ⟨_,_,_,X,_,_,g5,_⟩
 · omega
 · omega
 · exact ⟨X,g5⟩
theorem AiM(hx:B7 d x=true)(hy:B7 d y=true)(hp:f=42→Kj y)
  (ih : ∀ e,d=e+1→∀ X Y,Ba e X=true→Ba e Y=true→(f=42→ExpOk Y)→Sp 112 [.int f,dA X,dA Y] [dA (r X Y).1,.int (r X Y).2]):Sp 194 [.int f,dC x,dC y] [dC (Hv r f x y).1,.int (Hv r f x y).2]:=by
 refine Af 0 (AiN _ _ _ _) ?_
 simp only[Ah]
 refine Aa (F9 x.l y.l) ?_
 simp only[Ah]
 have box:x.kind=2∨y.kind=2→Tw (.call 235 [] [dC x] fun Y2=> .call 235 [] [dC y] fun Y3=> .call 112 [] [D.int f,qA Y2,qA Y3] fun Y4=> .ret [D.agg [dB (x.l|||y.l),D.int 2,D.agg [D.bool false,D.sl [],D.sl []],D.int 0,D.sl [qA Y4]],D.int ((qB Y4).toInt)]) [dC (Hv r f x y).1,.int (Hv r f x y).2]:=fun hk=>by
  cases d with
  | zero=>rcases hk with hk | hk;exact absurd hk (QN hx);exact absurd hk (QN hy)
  | succ e =>
   obtain ⟨c1,_⟩:=KV hx
   obtain ⟨c2,_⟩:=KV hy
   refine Aa (WQ x hx) (Aa (WQ y hy) (Aa (ih e rfl _ _ c1 c2 (fun hf=>Abn (hp hf) (AaX hy))) (Ac ?_)))
   unfold Hv
   rw[if_pos hk,Do];rfl
 refine Ae (fun h1=>box (.inl h1)) (fun h1=>Ae (fun h2=>box (.inr h2)) (fun h2=> ?_))
 unfold Hv
 rw[if_neg (fun hh=>hh.elim h1 h2)]
 have chars : ¬ (x.kind=0∧y.kind=0)→Tw (.br (decide (f=61)) (.br (decide (x.kind=y.kind)) (.call 237 [] [D.bool (decide (x.c=y.c)==decide (f=61))] fun Y13=> .ret [D.agg [dB (x.l|||y.l),D.int 0,qA Y13,D.int 0,D.sl []],D.int 0]) (.call 237 [] [D.bool (false == decide (f=61))] fun Y14=> .ret [D.agg [dB (x.l|||y.l),D.int 0,qA Y14,D.int 0,D.sl []],D.int 0])) (.br (decide (f=8800)) (.br (decide (x.kind=y.kind)) (.call 237 [] [D.bool (decide (x.c=y.c)==decide (f=61))] fun Y15=> .ret [D.agg [dB (x.l|||y.l),D.int 0,qA Y15,D.int 0,D.sl []],D.int 0]) (.call 237 [] [D.bool (false == decide (f=61))] fun Y16=> .ret [D.agg [dB (x.l|||y.l),D.int 0,qA Y16,D.int 0,D.sl []],D.int 0])) (.ret [D.agg [dB (x.l|||y.l),D.int 0,D.agg [D.bool false,D.sl [],D.sl []],D.int 0,D.sl []],D.int 3])))
   [dC (if x.kind=0∧y.kind=0 then ((⟨x.l|||y.l,0,(K9 f x.n y.n).1,0,[]⟩,(K9 f x.n y.n).2):Cell×Int) else if f=61 then (⟨x.l|||y.l,0,G9 (decide (x.kind=y.kind∧x.c=y.c)),0,[]⟩,0) else if f=8800 then (⟨x.l|||y.l,0,G9 (decide (¬ (x.kind=y.kind∧x.c=y.c))),0,[]⟩,0) else (⟨x.l|||y.l,0,.zero,0,[]⟩,3)).1,.int (if x.kind=0∧y.kind=0 then ((⟨x.l|||y.l,0,(K9 f x.n y.n).1,0,[]⟩,(K9 f x.n y.n).2):Cell×Int) else if f=61 then (⟨x.l|||y.l,0,G9 (decide (x.kind=y.kind∧x.c=y.c)),0,[]⟩,0) else if f=8800 then (⟨x.l|||y.l,0,G9 (decide (¬ (x.kind=y.kind∧x.c=y.c))),0,[]⟩,0) else (⟨x.l|||y.l,0,.zero,0,[]⟩,3)).2]:=fun hk=>by
  rw[if_neg hk]
  refine Ae (fun h3=>Ae (fun h4=>Aa (Je _) (Ac ?_)) (fun h4=>Aa (Je _) (Ac ?_))) (fun h3=>Ae (fun h3'=>Ae (fun h4=>Aa (Je _) (Ac ?_)) (fun h4=>Aa (Je _) (Ac ?_))) (fun h3'=>Ac ?_))
  · rw[if_pos h3,Ag,Pu];simp[h3,h4]
  · rw[if_pos h3,Ag,Pu];simp[h3,h4]
  · rw[if_neg h3,if_pos h3',Ag,Pu];simp[h3,h4]
  · rw[if_neg h3,if_pos h3',Ag,Pu];simp[h3,h4]
  · rw[if_neg h3,if_neg h3',AbA]
 refine Ae (fun h3=>Ae (fun h4=> ?_) (fun h4=>chars (fun hh=>h4 hh.2))) (fun h3=>chars (fun hh=>h3 hh.1))
 rw[if_pos ⟨h3,h4⟩]
 obtain ⟨z,q,rx⟩:=Ot (QP hx h3)
 obtain ⟨z',q',ry⟩:=Ot (QP hy h4)
 refine Aa (Ai8 f rx ry (fun hf=>(hp hf).1)) (Ac ?_)
 simp only[C9,Ag,Cl,Ak,Pu]
end
theorem WN(f:Int)(d:Nat)(a b:Arr)(r:Arr→Arr→Arr×Int)(ih : ∀ e,d=e+1→∀ X Y,Ba e X=true→Ba e Y=true→(f=42→ExpOk Y)→Sp 112 [.int f,dA X,dA Y] [dA (r X Y).1,.int (r X Y).2])
   (ha:Ba d a=true) (hb:Ba d b=true) (hp:f=42→ExpOk b):Sp 112 [.int f,dA a,dA b] [dA (Ij r f a b).1,.int (Ij r f a b).2]:=by
 have hs:=Ei ha
 have hs':=Ei hb
 have hl:=hs.2.1
 have hl':=hs'.2.1
 have hcnt:De a b≤1048576:=by unfold De;split <;> omega
 refine Af (De a b+1) (AiB _ _ _ _) (Aa (Ai4 f) ?_)
 simp only[Ah,Cq,Gp]
 refine Ae (fun h=>Ac ?_) (fun h=>Aa (Ai0 a b hs hs') ?_)
 · unfold Ij;rw[if_neg h]
 have hf:=Alt.1 h
 simp only[Ah,Cq]
 refine Ae (fun h1=>Ac ?_) (fun h1=> ?_)
 · unfold Ij;rw[if_pos hf,if_neg h1]
 have hc:=Alt.1 h1
 rw[Akx r f a b hf hc]
 have key:=Da (De a b) (fun m k (pre:List Cell)=>Rs (De a b+1) m f ((De a b:Nat):Int) (k:Int) (dA a) (dA b) 0 ((a.s|||b.s).toNat:Int) (dI (Hf a b).1) (pre.map dC++Alh (De a b-k) (dC Cell.none)))
   (fun k pre=>Kb (a.s|||b.s) (Hf a b).1 pre (Fx (fun i=>Hv r f (D9 a i) (D9 b i)) (De a b-k) k)) (fun k pre=>pre.length=k)
   (fun m pre hI=>by
    simp only[WO,Ah]
    refine Aq (Ac ?_)
    rw[Nat.sub_self,List.replicate_zero,Al2,Fx]
    unfold Kb
    rw[if_pos rfl,Dk]
    simp[dI,dB])
   (fun m k pre hk hI ih'=>by
    have hlen:(pre.map dC++Alh (De a b-k) (dC Cell.none)).length=De a b:=by simp;omega
    obtain ⟨p1,p2⟩:=AfG ha hb hc hk
    have r1:=(Dv ha).2 _ p1
    have r2:=(Dv hb).2 _ p2
    simp only[WO,Ah,hlen,Bb k]
    refine Ad (Aa (WT a (k:Int)) (Aa (WT b (k:Int)) (Aa (AiM (r:=r) r1 r2 (fun hf=>(hp hf).cell _ p2) ih) ?_)))
    simp only[Ag,Cl,Ak,Cu,Cq]
    rw[show De a b-k=(De a b-(k+1))+1 by omega]
    refine Ae (fun he=>Ac ?_) (fun he=>Ad (Ad ?_))
    · rw[Akv he]
    · have he':=Alt.1 he
      rw[Aku he',← hI,K5,hI]
      exact ih' (pre++[(Hv r f (D9 a k) (D9 b k)).1]) (by simp[hI]))
   (De a b+1) 0 [] (by omega) (by omega) rfl
 have e0:([]:List Cell).map dC++Alh (De a b-0) (dC Cell.none)=Alh (De a b) (dC Cell.none):=by simp
 rw[e0]at key
 refine Ae (fun h2=>Aa (F9 a.s b.s) (Ad (Ad (Av (by simp only[Aj];omega) ?_)))) (fun h2=>Aa (F9 a.s b.s) (Ad (Ad (Av (by simp only[Aj];omega) ?_))))
 · have:De a b=b.cells.length:=by unfold De;rw[if_pos (Al7.1 (by omega))]
   simp only[Ah]
   rw[this]at key
   simpa [this]using key
 · have:De a b=a.cells.length:=by unfold De;rw[if_neg (fun hh=>h2 (by rw[hh];rfl))]
   simp only[Ah]
   rw[this]at key
   simpa [this]using key
theorem WP(f:Int) : ∀ (d:Nat) (a b:Arr),Ba d a=true→Ba d b=true→(f=42→ExpOk b)→Sp 112 [.int f,dA a,dA b] [dA (R6 d f a b).1,.int (R6 d f a b).2]
 | 0,a,b,ha,hb,hp=>WN f 0 a b _ (fun e he=>by omega) ha hb hp
 | d+1,a,b,ha,hb,hp=>WN f (d+1) a b _ (fun e he=>by
  have:e=d:=by omega
  subst this
  exact WP f e) ha hb hp
theorem AfV(n:Nat)(f0 a1 b2:D):fA [(2000000,⟨[],[],[]⟩)] n 10 [] [f0,a1,b2] =
 .br (f0.toInt == 9076) (cK 35 [a1,b2] fun Y1 =>
 .ret [qA Y1,D.int ((qB Y1).toInt)])
 (.br (f0.toInt == 44) (cK 36 [a1,b2,D.bool false] fun Y2 =>
 .ret [qA Y2,D.int ((qB Y2).toInt)])
 (.br (f0.toInt == 9066) (cK 36 [a1,b2,D.bool true] fun Y3 =>
 .ret [qA Y3,D.int ((qB Y3).toInt)])
 (.br (f0.toInt == 9021) (cK 37 [a1,b2,D.bool false] fun Y4 =>
 .ret [qA Y4,D.int ((qB Y4).toInt)])
 (.br (f0.toInt == 8854) (cK 37 [a1,b2,D.bool true] fun Y5 =>
 .ret [qA Y5,D.int ((qB Y5).toInt)])
 (.br (f0.toInt == 9033) (cK 38 [a1,b2] fun Y6 =>
 .ret [qA Y6,D.int ((qB Y6).toInt)])
 (.br (f0.toInt == 8593) (cK 39 [a1,b2] fun Y7 =>
 .ret [qA Y7,D.int ((qB Y7).toInt)])
 (.br (f0.toInt == 8595) (cK 40 [a1,b2] fun Y8 =>
 .ret [qA Y8,D.int ((qB Y8).toInt)])
 (.br (f0.toInt == 8835) (cK 41 [a1,b2] fun Y9 =>
 .ret [qA Y9,D.int ((qB Y9).toInt)])
 (.br (f0.toInt == 8866) (.ret [b2,D.int 0])
 (.br (f0.toInt == 8867) (.ret [a1,D.int 0])
 (cK 42 [D.int f0.toInt,a1,b2] fun Y10 =>
 .ret [qA Y10,D.int ((qB Y10).toInt)]))))))))))):=by kernel_rfl
theorem AfR(n:Nat)(f0 a1:D):fA [(2000000,⟨[],[],[]⟩)] n 15 [] [f0,a1] =
 .br (f0.toInt == 9076) (cK 56 [a1] fun Y1 =>
 .ret [qA Y1,D.int 0])
 (.br (f0.toInt == 44) (cK 57 [a1] fun Y2 =>
 .ret [qA Y2,D.int 0])
 (.br (f0.toInt == 9066) (cK 58 [a1] fun Y3 =>
 .ret [qA Y3,D.int 0])
 (.br (f0.toInt == 9021) (cK 59 [a1,D.bool false] fun Y4 =>
 .ret [qA Y4,D.int 0])
 (.br (f0.toInt == 8854) (cK 59 [a1,D.bool true] fun Y5 =>
 .ret [qA Y5,D.int 0])
 (.br (f0.toInt == 9033) (cK 60 [a1] fun Y6 =>
 .ret [qA Y6,D.int 0])
 (.br (f0.toInt == 8834) (cK 61 [a1] fun Y7 =>
 .ret [qA Y7,D.int ((qB Y7).toInt)])
 (.br (f0.toInt == 8835) (cK 62 [a1] fun Y8 =>
 .ret [qA Y8,D.int 0])
 (.br (f0.toInt == 8801) (cK 63 [a1] fun Y9 =>
 .ret [qA Y9,D.int 0])
 (.br (f0.toInt == 8802) (cK 64 [a1] fun Y10 =>
 .ret [qA Y10,D.int 0])
 (.br (f0.toInt == 8866) (.ret [a1,D.int 0])
 (.br (f0.toInt == 8867) (.ret [a1,D.int 0])
 (.br (f0.toInt == 9075) (cK 65 [a1] fun Y11 =>
 .ret [qA Y11,D.int ((qB Y11).toInt)])
 (.br (f0.toInt == 8714) (cK 66 [a1] fun Y12 =>
 .ret [qA Y12,D.int ((qB Y12).toInt)])
 (.br (f0.toInt == 8746) (cK 67 [a1] fun Y13 =>
 .ret [qA Y13,D.int ((qB Y13).toInt)])
 (.br (f0.toInt == 9080) (cK 68 [a1] fun Y14 =>
 .ret [qA Y14,D.int ((qB Y14).toInt)])
 (.br (f0.toInt == 9035) (cK 69 [a1,D.bool false] fun Y15 =>
 .ret [qA Y15,D.int ((qB Y15).toInt)])
 (.br (f0.toInt == 9042) (cK 69 [a1,D.bool true] fun Y16 =>
 .ret [qA Y16,D.int ((qB Y16).toInt)])
 (cK 70 [D.int f0.toInt,a1] fun Y17 =>
 .ret [qA Y17,D.int ((qB Y17).toInt)])))))))))))))))))):=by kernel_rfl
theorem AfU(n:Nat)(f0:D):fA [(2000000,⟨[],[],[]⟩)] n 21 [] [f0] =
 .br (f0.toInt == 43) (.ret [D.int 0,D.bool true])
 (.br (f0.toInt == 45) (.ret [D.int 0,D.bool true])
 (.br (f0.toInt == 124) (.ret [D.int 0,D.bool true])
 (.br (f0.toInt == 8744) (.ret [D.int 0,D.bool true])
 (.br (f0.toInt == 60) (.ret [D.int 0,D.bool true])
 (.br (f0.toInt == 62) (.ret [D.int 0,D.bool true])
 (.br (f0.toInt == 8800) (.ret [D.int 0,D.bool true])
 (.br (f0.toInt == 215) (.ret [D.int 1,D.bool true])
 (.br (f0.toInt == 247) (.ret [D.int 1,D.bool true])
 (.br (f0.toInt == 42) (.ret [D.int 1,D.bool true])
 (.br (f0.toInt == 8743) (.ret [D.int 1,D.bool true])
 (.br (f0.toInt == 8804) (.ret [D.int 1,D.bool true])
 (.br (f0.toInt == 61) (.ret [D.int 1,D.bool true])
 (.br (f0.toInt == 8805) (.ret [D.int 1,D.bool true])
 (.br (f0.toInt == 33) (.ret [D.int 1,D.bool true])
 (.ret [D.int 0,D.bool false]))))))))))))))):=by kernel_rfl
theorem AfP(n:Nat)(f0 two1:D):fA [] n 26 [] [f0,two1] =
 .br two1.toBool (cK 29 [] fun Y1 =>
 cK 74 [qA Y1,D.int f0.toInt] fun Y2 =>
 .ret [D.bool ((qA Y2).toBool)])
 (cK 28 [] fun Y3 =>
 cK 74 [qA Y3,D.int f0.toInt] fun Y4 =>
 .ret [D.bool ((qA Y4).toBool)]):=by kernel_rfl
theorem AfS(n:Nat):fA [] n 28 [] [] =
 .ret [D.sl [D.int 43,D.int 45,D.int 215,D.int 247,D.int 8968,D.int 8970,D.int 124,D.int 126,D.int 33,D.int 9076,D.int 44,D.int 9066,D.int 9021,D.int 8854,D.int 9033,D.int 8834,D.int 8835,D.int 8801,D.int 8802,D.int 9075,D.int 8714,D.int 8746,D.int 9080,D.int 9035,D.int 9042,D.int 8866,D.int 8867]]:=by kernel_rfl
theorem AfW(n:Nat):fA [] n 29 [] [] =
 .ret [D.sl [D.int 43,D.int 45,D.int 215,D.int 247,D.int 8968,D.int 8970,D.int 124,D.int 42,D.int 60,D.int 8804,D.int 61,D.int 8805,D.int 62,D.int 8800,D.int 8743,D.int 8744,D.int 9076,D.int 44,D.int 9066,D.int 9021,D.int 8854,D.int 9033,D.int 8593,D.int 8595,D.int 8835,D.int 8801,D.int 8802,D.int 9075,D.int 8714,D.int 8746,D.int 8745,D.int 126,D.int 8866,D.int 8867,D.int 47,D.int 9023,D.int 92,D.int 9024]]:=by kernel_rfl
theorem AfY(n:Nat)(a0 b1:D):fA [(2000000,⟨[],[],[]⟩)] n 41 [] [a0,b1] =
 cK 80 [a0] fun Y1 =>
 .br (((qB Y1).toInt)!=0) (.ret [D.agg [D.int 0,D.sl [],D.sl []],D.int ((qB Y1).toInt)])
 (.br ((((qA Y1).els).length:Int)!=1) (.ret [D.agg [D.int 0,D.sl [],D.sl []],D.int 4])
 (.br ((((b1.fld 1).els).length:Int)!=1) (.ret [D.agg [D.int 0,D.sl [],D.sl []],D.int 5])
 (kK (0≤0) (kK (0<(((qA Y1).els).length:Int)) (bK (((((qA Y1).els).getD (Alf 0) D.nil).toInt)<1) (.ret [D.agg [D.int 0,D.sl [],D.sl []],D.int 6])
 (kK (0≤0) (kK (0<(((qA Y1).els).length:Int)) (bK ((((b1.fld 2).els).length:Int)<((((qA Y1).els).getD (Alf 0) D.nil).toInt)) (.ret [D.agg [D.int 0,D.sl [],D.sl []],D.int 6])
 (kK (0≤0) (kK (0<(((qA Y1).els).length:Int)) (kK (0≤Ale .i64 (((((qA Y1).els).getD (Alf 0) D.nil).toInt)-1)) (kK (Ale .i64 (((((qA Y1).els).getD (Alf 0) D.nil).toInt)-1)<(((b1.fld 2).els).length:Int)) (cK 104 [((b1.fld 2).els).getD (Alf (Ale .i64 (((((qA Y1).els).getD (Alf 0) D.nil).toInt)-1))) D.nil] fun Y2 =>
 cK 84 [a0] fun Y3 =>
 cK 83 [D.int ((b1.fld 0).toInt),D.int ((qA Y3).toInt)] fun Y4 =>
 cK 90 [qA Y2,D.int ((qA Y4).toInt)] fun Y5 =>
 .ret [qA Y5,D.int 0]))))))))))))):=by kernel_rfl
theorem Aga(n:Nat)(f0 a1 b2:D):fA [(2000000,⟨[],[],[]⟩)] n 42 [] [f0,a1,b2] =
 .br (f0.toInt == 8801) (cK 105 [a1,b2,D.bool true] fun Y1 =>
 .ret [qA Y1,D.int 0])
 (.br (f0.toInt == 8802) (cK 105 [a1,b2,D.bool false] fun Y2 =>
 .ret [qA Y2,D.int 0])
 (.br (f0.toInt == 9075) (cK 106 [a1,b2] fun Y3 =>
 .ret [qA Y3,D.int ((qB Y3).toInt)])
 (.br (f0.toInt == 8714) (cK 107 [a1,b2] fun Y4 =>
 .ret [qA Y4,D.int 0])
 (.br (f0.toInt == 8746) (cK 108 [a1,b2] fun Y5 =>
 .ret [qA Y5,D.int ((qB Y5).toInt)])
 (.br (f0.toInt == 8745) (cK 109 [a1,b2,D.bool true] fun Y6 =>
 .ret [qA Y6,D.int ((qB Y6).toInt)])
 (.br (f0.toInt == 126) (cK 109 [a1,b2,D.bool false] fun Y7 =>
 .ret [qA Y7,D.int ((qB Y7).toInt)])
 (.br (f0.toInt == 47) (cK 110 [a1,b2,D.bool false] fun Y8 =>
 .ret [qA Y8,D.int ((qB Y8).toInt)])
 (.br (f0.toInt == 9023) (cK 110 [a1,b2,D.bool true] fun Y9 =>
 .ret [qA Y9,D.int ((qB Y9).toInt)])
 (.br (f0.toInt == 92) (cK 111 [a1,b2,D.bool false] fun Y10 =>
 .ret [qA Y10,D.int ((qB Y10).toInt)])
 (.br (f0.toInt == 9024) (cK 111 [a1,b2,D.bool true] fun Y11 =>
 .ret [qA Y11,D.int ((qB Y11).toInt)])
 (cK 112 [D.int f0.toInt,a1,b2] fun Y12 =>
 .ret [qA Y12,D.int ((qB Y12).toInt)]))))))))))):=by kernel_rfl
def Nr(n a:Arr):Arr×Int:=if (A7 n).2≠0 then (.none,(A7 n).2) else if (A7 n).1.length≠1 then (.none,4) else if a.shape.length≠1 then (.none,5) else
 if (A7 n).1.getD 0 0<1∨(a.cells.length:Int)<(A7 n).1.getD 0 0 then (.none,6) else
 (C8 (K_ (a.cells.getD ((A7 n).1.getD 0 0-1).toNat (Be 0))) (a.s|||A5 n),0)
theorem AfX(n a:Arr)(hn:Ba 8 n=true)(ha:Ba 8 a=true):Sp 41 [dA n,dA a] [dA (Nr n a).1,.int (Nr n a).2]:=by
 have hl:=(Ev ha).1
 refine Af 0 (AfY _ _ _) (Aa (Ju n (Ev hn).1 (Oq hn)) ?_)
 unfold Nr
 generalize (A7 n).1=l at *
 generalize (A7 n).2=e at *
 simp only[Ah,Cq]
 refine Ae (fun h=>Ac (by rw[if_pos h])) (fun h=> ?_)
 rw[if_neg h]
 refine Ae (fun h1=>Ac (by rw[if_pos (by omega)])) (fun h1=> ?_)
 rw[if_neg (by omega)]
 refine Ae (fun h2=>Ac (by rw[if_pos (by omega)])) (fun h2=> ?_)
 rw[if_neg (by omega)]
 have hg0:=Gu (l:=l) (i:=0) (by omega)
 simp only[hg0,Ak]
 generalize l.getD 0 0=k at *
 refine Ad (Ad (Ae (fun h3=>Ac (by rw[if_pos (.inl h3)])) (fun h3=>Ad (Ad (Ae (fun h4=>Ac (by rw[if_pos (.inr h4)])) (fun h4=> ?_))))))
 rw[if_neg (by omega)]
 obtain ⟨J,hJ⟩ : ∃ J:Nat,k-1=(J:Int):=⟨(k-1).toNat,by omega⟩
 have hw:Ale .i64 (J:Int)=(J:Int):=As (by omega) (by omega)
 have hcj:(a.cells.map dC).getD J D.nil=dC (a.cells.getD J (Be 0)):=by
  rw[Ar (Alg (by omega)),Alk,Alg (by omega)];rfl
 have hcr:B7 8 (a.cells.getD J (Be 0))=true:=by
  rw[Alk,Alg (by omega)]
  exact (Dv ha).2 _ (Amj _)
 simp only[hJ,hw,Aln,hcj]
 refine Ad (Ad (Ad (Ad (Aa (AQ _ (VU hcr)) (Aa (Em n (Ei hn).fits) ?_)))))
 simp only[Ah]
 refine Aa (F9 a.s (A5 n)) ?_
 simp only[Ah]
 exact Aa (Fz _ _) (Ac rfl)
theorem sw{c:Prop} [Decidable c] {t e:Tree}{x y:Arr×Int}(h1:c→Tw t [dA x.1,.int x.2])(h2 : ¬ c→Tw e [dA y.1,.int y.2]):Tw (.br (decide c) t e) [dA (if c then x else y).1,.int (if c then x else y).2]:=by
 refine Ae (fun h=> ?_) (fun h=> ?_)
 · rw[if_pos h];exact h1 h
 · rw[if_neg h];exact h2 h
noncomputable def Od(f:Int)(a:Arr):Arr×Int :=
 if f=9076 then (Yr a,0) else
 if f=44 then (TE a,0) else
 if f=9066 then (IE a,0) else
 if f=9021 then (Yd a false,0) else
 if f=8854 then (Yd a true,0) else
 if f=9033 then (II a,0) else
 if f=8834 then Tv a else
 if f=8835 then (CK a,0) else
 if f=8801 then (PF a,0) else
 if f=8802 then (IF a,0) else
 if f=8866 then (a,0) else
 if f=8867 then (a,0) else
 if f=9075 then Ly a else
 if f=8714 then Tx a else
 if f=8746 then Z2 a else
 if f=9080 then Z5 a else
 if f=9035 then Qa a false else
 if f=9042 then Qa a true else Fy f a
theorem AfQ(f:Int)(a:Arr)(ha:Ba 8 a=true):Sp 15 [.int f,dA a] [dA (Od f a).1,.int (Od f a).2]:=by
 have hs:=Ei ha
 have hc:=(Dv ha).1
 have hl:=(Ev ha).1
 refine Af 0 (AfR _ _ _) ?_
 simp only[Ak,Cc]
 unfold Od
 refine sw (fun _=>Aa (AdT a hs) (Ac rfl)) (fun _=> ?_)
 refine sw (fun _=>Aa (AdP a hs) (Ac rfl)) (fun _=> ?_)
 refine sw (fun _=>Aa (AcO a hc) (Ac rfl)) (fun _=> ?_)
 refine sw (fun _=>Aa (ZG a false hc) (Ac rfl)) (fun _=> ?_)
 refine sw (fun _=>Aa (ZG a true hc) (Ac rfl)) (fun _=> ?_)
 refine sw (fun _=>Aa (Akj a hc) (Ac rfl)) (fun _=> ?_)
 refine sw (fun _=>Aa (AdI a hs (by omega)) (Ac rfl)) (fun _=> ?_)
 refine sw (fun _=>Aa (AdM a hs) (Ac rfl)) (fun _=> ?_)
 refine sw (fun _=>Aa (AdG a hs (by omega)) (Ac rfl)) (fun _=> ?_)
 refine sw (fun _=>Aa (AdV a hs) (Ac rfl)) (fun _=> ?_)
 refine sw (fun _=>Ac rfl) (fun _=> ?_)
 refine sw (fun _=>Ac rfl) (fun _=> ?_)
 refine sw (fun _=>Aa (Acf a hs.fits hl (Oq ha)) (Ac rfl)) (fun _=> ?_)
 refine sw (fun _=>Aa (AdK a hs) (Ac rfl)) (fun _=> ?_)
 refine sw (fun _=>Aa (Acm Nm a hs hl) (Ac rfl)) (fun _=> ?_)
 refine sw (fun _=>Aa (AfC a ha) (Ac rfl)) (fun _=> ?_)
 refine sw (fun _=>Aa (NB a false ha) (Ac rfl)) (fun _=> ?_)
 refine sw (fun _=>Aa (NB a true ha) (Ac rfl)) (fun _=> ?_)
 exact Aa (Ai_ f 8 a ha) (Ac rfl)
noncomputable def Qr(f:Int)(a b:Arr):Arr×Int :=
 if f=8801 then (Vr a b true,0) else
 if f=8802 then (Vr a b false,0) else
 if f=9075 then U5 a b else
 if f=8714 then (Qo a b,0) else
 if f=8746 then Z1 a b else
 if f=8745 then R3 a b true else
 if f=126 then R3 a b false else
 if f=47 then Rl a b false else
 if f=9023 then Rl a b true else
 if f=92 then Pz a b false else
 if f=9024 then Pz a b true else R6 8 f a b
theorem AfZ(f:Int)(a b:Arr)(ha:Ba 8 a=true)(hb:Ba 8 b=true)(hx:f=42→ExpOk b):Sp 42 [.int f,dA a,dA b] [dA (Qr f a b).1,.int (Qr f a b).2]:=by
 have hs:=Ei ha
 have ht:=Ei hb
 have hl:=(Ev ha).1
 have hm:=(Ev hb).1
 refine Af 0 (Aga _ _ _ _) ?_
 simp only[Ak,Cc]
 unfold Qr
 refine sw (fun _=>Aa (PL a b true hs ht) (Ac rfl)) (fun _=> ?_)
 refine sw (fun _=>Aa (PL a b false hs ht) (Ac rfl)) (fun _=> ?_)
 refine sw (fun _=>Aa (Acd Nm a b hs ht hl hm) (Ac rfl)) (fun _=> ?_)
 refine sw (fun _=>Aa (Ach Nm a b hs ht hl hm) (Ac rfl)) (fun _=> ?_)
 refine sw (fun _=>Aa (Ack Nm a b hs ht hl hm) (Ac rfl)) (fun _=> ?_)
 refine sw (fun _=>Aa (MF Nm a b true hs ht hl hm) (Ac rfl)) (fun _=> ?_)
 refine sw (fun _=>Aa (MF Nm a b false hs ht hl hm) (Ac rfl)) (fun _=> ?_)
 refine sw (fun _=>Aa (RT a b false ha hb) (Ac rfl)) (fun _=> ?_)
 refine sw (fun _=>Aa (RT a b true ha hb) (Ac rfl)) (fun _=> ?_)
 refine sw (fun _=>Aa (RP a b false ha hb) (Ac rfl)) (fun _=> ?_)
 refine sw (fun _=>Aa (RP a b true ha hb) (Ac rfl)) (fun _=> ?_)
 exact Aa (WP f 8 a b ha hb hx) (Ac rfl)
noncomputable def Kc(f:Int)(a b:Arr):Arr×Int :=
 if f=9076 then Yb a b else
 if f=44 then Po a b false else
 if f=9066 then Po a b true else
 if f=9021 then Rq a b false else
 if f=8854 then Rq a b true else
 if f=9033 then Mb a b else
 if f=8593 then Zv a b else
 if f=8595 then To a b else
 if f=8835 then Nr a b else
 if f=8866 then (b,0) else
 if f=8867 then (a,0) else Qr f a b
theorem SN(f:Int)(a b:Arr)(ha:Ba 8 a=true)(hb:Ba 8 b=true)(hx:f=42→ExpOk b):Sp 10 [.int f,dA a,dA b] [dA (Kc f a b).1,.int (Kc f a b).2]:=by
 have hs:=Ei ha
 have ht:=Ei hb
 have hl:=(Ev ha).1
 have hm:=(Ev hb).1
 have ta:=Oq ha
 have ca:=(Dv ha).1
 have cb:=(Dv hb).1
 refine Af 0 (AfV _ _ _ _) ?_
 simp only[Ak,Cc]
 unfold Kc
 refine sw (fun _=>Aa (AdR a b hs.fits hm hl ta) (Ac rfl)) (fun _=> ?_)
 refine sw (fun _=>Aa (NV a b false ca cb) (Ac rfl)) (fun _=> ?_)
 refine sw (fun _=>Aa (NV a b true ca cb) (Ac rfl)) (fun _=> ?_)
 refine sw (fun _=>Aa (ZH a b false hs.fits hl ta cb) (Ac rfl)) (fun _=> ?_)
 refine sw (fun _=>Aa (ZH a b true hs.fits hl ta cb) (Ac rfl)) (fun _=> ?_)
 refine sw (fun _=>Aa (Akc a b hs.fits hl ta cb) (Ac rfl)) (fun _=> ?_)
 refine sw (fun _=>Aa (Abv a b hs.fits hl ta cb) (Ac rfl)) (fun _=> ?_)
 refine sw (fun _=>Aa (Abt a b hs.fits hl ta cb) (Ac rfl)) (fun _=> ?_)
 refine sw (fun _=>Aa (AfX a b ha hb) (Ac rfl)) (fun _=> ?_)
 refine sw (fun _=>Ac rfl) (fun _=> ?_)
 refine sw (fun _=>Ac rfl) (fun _=> ?_)
 exact Aa (AfZ f a b ha hb hx) (Ac rfl)
section
variable {o:A8} {a b n m:Arr}
end
theorem AcJ{k:Int}(h:Bc k)(s:A8):A7 (Dx k s)=([k],0):=by
 unfold A7 Dx
 simp only[Arr.shape_mk,Arr.cells_mk]
 have:=NS (l:=[k]) (fun x hx=>by simp at hx;subst hx;exact h)
 simp only[Aml,List.map_nil]at this
 rw[this];rfl
theorem Aka(k:Int)(s:A8):A5 (Dx k s)=s:=AjZ [k] s
section
variable {o:A8} {a b n m x y:Arr}
end
def Tells(t:Tree)(Q:Bool→Prop):Prop:=∃ b,Tw t [.bool b]∧Q b
theorem Tells.ret {b:Bool} {Q:Bool→Prop} (h:Q b):Tells (.ret [D.bool b]) Q:=⟨b,Ac rfl,h⟩
theorem Tells.br {c:Bool} {t e:Tree} {Q:Bool→Prop} (h1:c=true→Tells t Q) (h2:c=false→Tells e Q):Tells (.br c t e) Q:=by
 cases h:c with
 | true=>obtain ⟨b,h3,h4⟩:=h1 h;exact ⟨b,Ax rfl h3,h4⟩
 | false=>obtain ⟨b,h3,h4⟩:=h2 h;exact ⟨b,B_ rfl h3,h4⟩
theorem Tells.decs {c:Prop} [Decidable c] {t e:Tree} {Q:Bool→Prop} (h1:c→Tells t Q) (h2 : ¬ c→Tells e Q):Tells (.br (decide c) t e) Q:=Tells.br (fun h=>h1 (of_decide_eq_true h)) (fun h=>h2 (of_decide_eq_false h))
theorem Tells.dec {c:Prop} [Decidable c] {t e:Tree} {Q:Bool→Prop} (h:c) (h1:Tells t Q):Tells (.br (decide c) t e) Q:=Tells.decs (fun _=>h1) (fun h2=>absurd h h2)
theorem Tells.call {f:Nat} {xs ys:List D} {k:List D→Tree} {Q:Bool→Prop} (hs:Sp f xs ys) (hk:Tells (k ys) Q):Tells (.call f [] xs k) Q:=by
 obtain ⟨b,h1,h2⟩:=hk
 exact ⟨b,Aa hs h1,h2⟩
theorem Tells.mono {t:Tree} {Q R:Bool→Prop} (h:Tells t Q) (hq : ∀ b,Q b→R b):Tells t R:=by
 obtain ⟨b,h1,h2⟩:=h
 exact ⟨b,h1,hq b h2⟩
theorem Aik{d:Nat}{c:Cell}(h:B7 d c=true) : ∀ x∈c.inn,∃ e,d=e+1∧Ba e x=true:=by
 intro x hx
 rcases Ml h with ⟨_,_,g,_⟩ | ⟨_,_,g⟩ | ⟨_,_,_,y,e,g1,g2,_,g3⟩
 · rw[g]at hx;cases hx
 · rw[g]at hx;cases hx
 · rw[g2]at hx
   have:x=y:=by simpa using hx
   subst this
   exact ⟨e,g1,g3⟩
theorem Adf(n:Nat)(f0 a1 b2:D):fA [] n 7 [] [f0,a1,b2] =
 cK 8 [a1] fun Y1 =>
 .br (!((qA Y1).toBool)) (cK 9 [] fun Y2 =>
 .ret [D.bool ((qA Y2).toBool)])
 (cK 8 [b2] fun Y3 =>
 .br (!((qA Y3).toBool)) (cK 9 [] fun Y4 =>
 .ret [D.bool ((qA Y4).toBool)])
 (cK 21 [D.int f0.toInt] fun Y5 =>
 cK 22 [D.int f0.toInt] fun Y6 =>
 .br (!(((qB Y5).toBool)==(decide (0≤((qA Y6).toInt))))) (.ret [D.bool false])
 (.br ((qB Y5).toBool) (.br (((qA Y5).toInt)!=((qA Y6).toInt)) (.ret [D.bool false])
 (.br (!((qB Y5).toBool)) (.br (((qA Y5).toInt)!=0) (.ret [D.bool false])
 (cK 24 [] fun Y7 =>
 cK 23 [qA Y7,D.int f0.toInt] fun Y8 =>
 cK 25 [] fun Y9 =>
 cK 23 [qA Y9,D.int f0.toInt] fun Y10 =>
 cK 26 [D.int f0.toInt,D.bool false] fun Y11 =>
 .br (!(((qA Y11).toBool)==((qA Y8).toBool))) (.ret [D.bool false])
 (cK 26 [D.int f0.toInt,D.bool true] fun Y12 =>
 .br (!(((qA Y12).toBool)==((qA Y10).toBool))) (.ret [D.bool false])
 (cK 28 [] fun Y13 =>
 cK 24 [] fun Y14 =>
 cK 27 [qA Y13,qA Y14] fun Y15 =>
 .br (!((qA Y15).toBool)) (.ret [D.bool false])
 (cK 29 [] fun Y16 =>
 cK 25 [] fun Y17 =>
 cK 27 [qA Y16,qA Y17] fun Y18 =>
 .br (!((qA Y18).toBool)) (.ret [D.bool false])
 (cK 15 [D.int f0.toInt,a1] fun Y19 =>
 cK 10 [D.int f0.toInt,a1,b2] fun Y20 =>
 .br ((qA Y8).toBool) (.br ((qA Y10).toBool) (cK 9 [] fun Y21 =>
 .ret [D.bool ((qA Y21).toBool)])
 (.br (((qB Y20).toInt)==8) (cK 9 [] fun Y22 =>
 .ret [D.bool ((qA Y22).toBool)])
 (.ret [D.bool false])))
 (.br (((qB Y19).toInt)==8) (.br ((qA Y10).toBool) (cK 9 [] fun Y23 =>
 .ret [D.bool ((qA Y23).toBool)])
 (.br (((qB Y20).toInt)==8) (cK 9 [] fun Y24 =>
 .ret [D.bool ((qA Y24).toBool)])
 (.ret [D.bool false])))
 (.ret [D.bool false]))))))))
 (cK 24 [] fun Y25 =>
 cK 23 [qA Y25,D.int f0.toInt] fun Y26 =>
 cK 25 [] fun Y27 =>
 cK 23 [qA Y27,D.int f0.toInt] fun Y28 =>
 cK 26 [D.int f0.toInt,D.bool false] fun Y29 =>
 .br (!(((qA Y29).toBool)==((qA Y26).toBool))) (.ret [D.bool false])
 (cK 26 [D.int f0.toInt,D.bool true] fun Y30 =>
 .br (!(((qA Y30).toBool)==((qA Y28).toBool))) (.ret [D.bool false])
 (cK 28 [] fun Y31 =>
 cK 24 [] fun Y32 =>
 cK 27 [qA Y31,qA Y32] fun Y33 =>
 .br (!((qA Y33).toBool)) (.ret [D.bool false])
 (cK 29 [] fun Y34 =>
 cK 25 [] fun Y35 =>
 cK 27 [qA Y34,qA Y35] fun Y36 =>
 .br (!((qA Y36).toBool)) (.ret [D.bool false])
 (cK 15 [D.int f0.toInt,a1] fun Y37 =>
 cK 10 [D.int f0.toInt,a1,b2] fun Y38 =>
 .br ((qA Y26).toBool) (.br ((qA Y28).toBool) (cK 9 [] fun Y39 =>
 .ret [D.bool ((qA Y39).toBool)])
 (.br (((qB Y38).toInt)==8) (cK 9 [] fun Y40 =>
 .ret [D.bool ((qA Y40).toBool)])
 (.ret [D.bool false])))
 (.br (((qB Y37).toInt)==8) (.br ((qA Y28).toBool) (cK 9 [] fun Y41 =>
 .ret [D.bool ((qA Y41).toBool)])
 (.br (((qB Y38).toInt)==8) (cK 9 [] fun Y42 =>
 .ret [D.bool ((qA Y42).toBool)])
 (.ret [D.bool false])))
 (.ret [D.bool false])))))))))
 (.br (!((qB Y5).toBool)) (.br (((qA Y5).toInt)!=0) (.ret [D.bool false])
 (cK 24 [] fun Y43 =>
 cK 23 [qA Y43,D.int f0.toInt] fun Y44 =>
 cK 25 [] fun Y45 =>
 cK 23 [qA Y45,D.int f0.toInt] fun Y46 =>
 cK 26 [D.int f0.toInt,D.bool false] fun Y47 =>
 .br (!(((qA Y47).toBool)==((qA Y44).toBool))) (.ret [D.bool false])
 (cK 26 [D.int f0.toInt,D.bool true] fun Y48 =>
 .br (!(((qA Y48).toBool)==((qA Y46).toBool))) (.ret [D.bool false])
 (cK 28 [] fun Y49 =>
 cK 24 [] fun Y50 =>
 cK 27 [qA Y49,qA Y50] fun Y51 =>
 .br (!((qA Y51).toBool)) (.ret [D.bool false])
 (cK 29 [] fun Y52 =>
 cK 25 [] fun Y53 =>
 cK 27 [qA Y52,qA Y53] fun Y54 =>
 .br (!((qA Y54).toBool)) (.ret [D.bool false])
 (cK 15 [D.int f0.toInt,a1] fun Y55 =>
 cK 10 [D.int f0.toInt,a1,b2] fun Y56 =>
 .br ((qA Y44).toBool) (.br ((qA Y46).toBool) (cK 9 [] fun Y57 =>
 .ret [D.bool ((qA Y57).toBool)])
 (.br (((qB Y56).toInt)==8) (cK 9 [] fun Y58 =>
 .ret [D.bool ((qA Y58).toBool)])
 (.ret [D.bool false])))
 (.br (((qB Y55).toInt)==8) (.br ((qA Y46).toBool) (cK 9 [] fun Y59 =>
 .ret [D.bool ((qA Y59).toBool)])
 (.br (((qB Y56).toInt)==8) (cK 9 [] fun Y60 =>
 .ret [D.bool ((qA Y60).toBool)])
 (.ret [D.bool false])))
 (.ret [D.bool false]))))))))
 (cK 24 [] fun Y61 =>
 cK 23 [qA Y61,D.int f0.toInt] fun Y62 =>
 cK 25 [] fun Y63 =>
 cK 23 [qA Y63,D.int f0.toInt] fun Y64 =>
 cK 26 [D.int f0.toInt,D.bool false] fun Y65 =>
 .br (!(((qA Y65).toBool)==((qA Y62).toBool))) (.ret [D.bool false])
 (cK 26 [D.int f0.toInt,D.bool true] fun Y66 =>
 .br (!(((qA Y66).toBool)==((qA Y64).toBool))) (.ret [D.bool false])
 (cK 28 [] fun Y67 =>
 cK 24 [] fun Y68 =>
 cK 27 [qA Y67,qA Y68] fun Y69 =>
 .br (!((qA Y69).toBool)) (.ret [D.bool false])
 (cK 29 [] fun Y70 =>
 cK 25 [] fun Y71 =>
 cK 27 [qA Y70,qA Y71] fun Y72 =>
 .br (!((qA Y72).toBool)) (.ret [D.bool false])
 (cK 15 [D.int f0.toInt,a1] fun Y73 =>
 cK 10 [D.int f0.toInt,a1,b2] fun Y74 =>
 .br ((qA Y62).toBool) (.br ((qA Y64).toBool) (cK 9 [] fun Y75 =>
 .ret [D.bool ((qA Y75).toBool)])
 (.br (((qB Y74).toInt)==8) (cK 9 [] fun Y76 =>
 .ret [D.bool ((qA Y76).toBool)])
 (.ret [D.bool false])))
 (.br (((qB Y73).toInt)==8) (.br ((qA Y64).toBool) (cK 9 [] fun Y77 =>
 .ret [D.bool ((qA Y77).toBool)])
 (.br (((qB Y74).toInt)==8) (cK 9 [] fun Y78 =>
 .ret [D.bool ((qA Y78).toBool)])
 (.ret [D.bool false])))
 (.ret [D.bool false]))))))))))):=by kernel_rfl
theorem OG(n:Nat)(a0:D):fA [] n 8 [] [a0] =
 cK 30 [a0] fun Y1 =>
 .br ((qA Y1).toBool) (cK 31 [a0] fun Y2 =>
 .ret [D.bool ((qA Y2).toBool)])
 (.ret [D.bool false]):=by kernel_rfl
theorem Adh(n:Nat):fA [] n 9 [] [] =
 cK 32 [D.int 2,D.int 0] fun Y1 =>
 cK 33 [D.sl [D.int 5,D.int 6,D.int 7],D.int 0] fun Y2 =>
 cK 10 [D.int 8835,qA Y1,qA Y2] fun Y3 =>
 .br (((qB Y3).toInt)==0) (cK 32 [D.int 6,D.int 0] fun Y4 =>
 cK 34 [qA Y3,qA Y4] fun Y5 =>
 .br ((qA Y5).toBool) (cK 26 [D.int 9076,D.bool false] fun Y6 =>
 .br ((qA Y6).toBool) (cK 26 [D.int 42,D.bool false] fun Y7 =>
 .ret [D.bool (!((qA Y7).toBool))])
 (.ret [D.bool false]))
 (.ret [D.bool false]))
 (.ret [D.bool false]):=by kernel_rfl
def Hj:List (Nat×Orc):=[(4,⟨[(1,none),(3,none)],[(1,true)],[]⟩),(11,⟨[(1,none),(3,none),(4,none),(7,none)],[(1,true),(4,true)],[]⟩)]
noncomputable def Nu(n m4 m11:Nat)(i3 j7:Int)(a1 c4:D):Tree :=
 lA (eA Hj n 31 [1,1,0,1,0,0,1,0,0,1,1,1,1,0,0]) (Al Hj 11) m11 ⟨(.undef:: .ptr 1 []:: .undef:: .i .i64 i3:: .ptr 4 []:: .undef:: .undef:: .i .i64 j7::uA 59),[(1,.var 26 (.d 26 a1) true),(4,.var 67 (.d 67 c4) true)],[1,4],[],[]⟩
  (Ai 2 (Ai 1 (An (jA Hj n 31 [1,1,0,1,0,0,1,1]) (Fg Tryz.prog md (Al Hj 4) (fun s1=>lA (eA Hj n 31 [1,1,0,1,0,0]) (Al Hj 4) m4 s1 (Ai 0 (An (jA Hj n 31 [1,1,1]) (rA 31 [26] [.tmp 2] [4])))) (Ai 0 (An (jA Hj n 31 [1,1,1]) (rA 31 [26] [.tmp 2] [4])))))))
noncomputable def Nv(n m4:Nat)(i3:Int)(a1:D):Tree :=
 lA (eA Hj n 31 [1,1,0,1,0,0]) (Al Hj 4) m4 ⟨(.undef:: .ptr 1 []:: .undef:: .i .i64 i3::uA 63),[(1,.var 26 (.d 26 a1) true)],[1],[],[]⟩
  (Ai 0 (An (jA Hj n 31 [1,1,1]) (rA 31 [26] [.tmp 2] [4])))
theorem Adc(n m4 m11:Nat)(i3 j7:Int)(a1 c4:D):Nu n m4 (m11+1) i3 j7 a1 c4 =
 bK (j7<(((c4.fld 4).els).length:Int)) (kK (0≤j7) (kK (j7<(((c4.fld 4).els).length:Int)) (cK 31 [((c4.fld 4).els).getD (Alf j7) D.nil] fun Y2 =>
 .br (!((qA Y2).toBool)) (.ret [D.bool false])
 (Nu n m4 m11 i3 (Ale .i64 (j7+1)) a1 c4))))
 (Nv n m4 (Ale .i64 (i3+1)) a1):=by kernel_rfl
theorem Add(n m4:Nat)(i3:Int)(a1:D):Nv n (m4+1) i3 a1 =
 bK (i3<(((a1.fld 2).els).length:Int)) (kK (0≤i3) (kK (i3<(((a1.fld 2).els).length:Int)) (cK 77 [(((a1.fld 2).els).getD (Alf i3) D.nil).fld 2] fun Y1 =>
 bK (2<(((((((a1.fld 2).els).getD (Alf i3) D.nil).fld 2).fld 1).els).length:Int)) (.ret [D.bool false])
 (bK (2<(((((((a1.fld 2).els).getD (Alf i3) D.nil).fld 2).fld 2).els).length:Int)) (.ret [D.bool false])
 (.br ((qB Y1).toBool) (bK (300<((qA Y1).toInt)) (.ret [D.bool false])
 (bK (((qA Y1).toInt)<(-300)) (.ret [D.bool false])
 (Nu n m4 n i3 0 a1 (((a1.fld 2).els).getD (Alf i3) D.nil))))
 (Nu n m4 n i3 0 a1 (((a1.fld 2).els).getD (Alf i3) D.nil)))))))
 (.ret [D.bool true]):=by kernel_rfl
theorem Ade(n:Nat)(a0:D):fA Hj n 31 [] [a0] =
 bK (60<(((a0.fld 2).els).length:Int)) (.ret [D.bool false])
 (Nv n n 0 a0):=by kernel_rfl
theorem TS(a b:List Int)(ha:a.length≤9223372036854775807):Sp 27 [dI a,dI b] [.bool (decide (a=b))]:=by
 refine Af (a.length+1) (AgM _ _ _) ?_
 simp only[B0,Ali,Cu]
 refine Ae (fun h=>Ac (by rw[decide_eq_false (fun hh=>h (by rw[hh]))])) (fun g6=> ?_)
 have hll:a.length=b.length:=by omega
 have key:=B1 a (fun m i (_:Unit)=>W_ (a.length+1) m (dI a) (dI b) (i:Int)) (fun rest _=>[.bool (decide (rest=b.drop (a.length-rest.length)))]) (fun _ _=>True)
  (fun m i _ hi _=>by
   simp only[TQ,B0,Ali]
   refine Aq (Ac ?_)
   rw[Alz,Nat.sub_zero,hll,List.drop_length];simp)
  (fun m i _ x rest hdr _ ih2=>by
   obtain ⟨q1,q2,q3⟩:=Bv hdr
   have hle:=congrArg List.length hdr
   rw[Alu,All]at hle
   have e5:a.length-(x::rest).length=i:=by rw[All];omega
   have e6:a.length-rest.length=i+1:=by omega
   have hib:i<b.length:=by omega
   have ih2:=ih2 () trivial
   rw[e6]at ih2
   simp only[TQ,B0,Ali,Aln,Ar q2,Ar (Alg hib),Ak,Cu,Bb i]
   refine Ad (Ad (Ad (Ad (Ad ?_))))
   have ed:b.drop i=b[i]::b.drop (i+1):=Al6 hib
   refine Ae (fun g=>Ac ?_) (fun g=> ?_)
   · rw[e5,ed,decide_eq_false (fun hh=>g (by injection hh))]
   · refine Tree.wp_mono ih2 (fun ys hy=>hy.trans ?_)
     rw[e5,ed,Alt.1 g]
     exact congrArg (fun z=>[D.bool z]) (decide_eq_decide.2 ⟨fun hh=>by rw[hh],fun hh=>by injection hh⟩))
  (a.length+1) 0 () (by omega) (by omega) trivial
 refine Tree.wp_mono key (fun ys hy=>hy.trans ?_)
 rw[List.drop_zero,Nat.sub_self,List.drop_zero]
def I9:List Int:=[43,45,215,247,8968,8970,124,126,33,9076,44,9066,9021,8854,9033,8834,8835,8801,8802,9075,8714,8746,9080,9035,9042,8866,8867]
def Jn:List Int:=[43,45,215,247,8968,8970,124,42,60,8804,61,8805,62,8800,8743,8744,9076,44,9066,9021,8854,9033,8593,8595,8835,8801,8802,9075,8714,8746,8745,126,8866,8867,47,9023,92,9024]
theorem JJ(l:List Int)(f:Int):l.any (fun x=>decide (x=f))=decide (f∈l):=by
 rw[Bool.eq_iff_iff,List.any_eq_true,decide_eq_true_iff]
 exact ⟨fun ⟨x,hx,hp⟩=>by rw[← of_decide_eq_true hp];exact hx,fun h=>⟨f,h,decide_eq_true rfl⟩⟩
theorem FG:Sp 28 [] [dI I9]:=Af 0 (AfS _) (Ac rfl)
theorem FH:Sp 29 [] [dI Jn]:=Af 0 (AfW _) (Ac rfl)
theorem Wz(f:Int)(two:Bool):Sp 26 [.int f,.bool two] [.bool (decide (f∈if two then Jn else I9))]:=by
 refine Af 0 (AfP _ _ _) ?_
 simp only[Az,Ak]
 cases two with
 | true=>exact Ax rfl (Aa FH (Aa (HN Jn f (by decide)) (Ac (by rw[JJ];rfl))))
 | false=>exact B_ rfl (Aa FG (Aa (HN I9 f (by decide)) (Ac (by rw[JJ];rfl))))
theorem Ak3{f:Int}{a:Arr}(h:f∉Kw):Fy f a=(.none,8):=by rw[IN,if_neg h]
theorem Akw{f:Int}{a b:Arr}(h:f∉Ms):R6 8 f a b=(.none,8):=by
 show Ij _ f a b=_
 unfold Ij
 rw[if_neg h]
theorem AeV{f:Int}{a:Arr}(h:f∉I9):(Od f a).2=8:=by
 simp only[I9,Alx,List.not_mem_nil,or_false,not_or]at h
 have hu:f∉Kw:=by simp only[Kw,Alx,List.not_mem_nil,or_false,not_or];omega
 unfold Od
 rw[if_neg (by omega),if_neg (by omega),if_neg (by omega),if_neg (by omega),if_neg (by omega),if_neg (by omega),if_neg (by omega),if_neg (by omega),if_neg (by omega),if_neg (by omega),if_neg (by omega),if_neg (by omega),if_neg (by omega),if_neg (by omega),if_neg (by omega),if_neg (by omega),if_neg (by omega),if_neg (by omega)]
 rw[Ak3 hu]
theorem Aky{f:Int}{a b:Arr}(h:f∉Jn):(Kc f a b).2=8:=by
 simp only[Jn,Alx,List.not_mem_nil,or_false,not_or]at h
 have hu:f∉Ms:=by simp only[Ms,Alx,List.not_mem_nil,or_false,not_or];omega
 unfold Kc
 rw[if_neg (by omega),if_neg (by omega),if_neg (by omega),if_neg (by omega),if_neg (by omega),if_neg (by omega),if_neg (by omega),if_neg (by omega),if_neg (by omega),if_neg (by omega),if_neg (by omega)]
 unfold Qr
 rw[if_neg (by omega),if_neg (by omega),if_neg (by omega),if_neg (by omega),if_neg (by omega),if_neg (by omega),if_neg (by omega),if_neg (by omega),if_neg (by omega),if_neg (by omega),if_neg (by omega)]
 rw[Akw hu]
theorem Adb : ∀ (d:Nat) (a:Arr),Ba d a=true→∃ b,(b=true→ExpOk a)∧Sp 31 [dA a] [.bool b]:=by
 suffices key : ∀ (d:Nat) (a:Arr),(∀ e x,d=e+1→Ba e x=true→∃ b,(b=true→ExpOk x)∧Sp 31 [dA x] [.bool b])→Ba d a=true→∃ b,(b=true→ExpOk a)∧Sp 31 [dA a] [.bool b] by
  intro d
  induction d with
  | zero=>intro a;exact key 0 a (fun e x he=>by omega)
  | succ d ihd=>intro a;exact key (d+1) a (fun e x he=>by
         have:e=d:=by omega
         subst this;exact ihd x)
 intro d a ih hr
 have hs:=Ei hr
 have hl:=hs.2.1
 have hcs:=(Dv hr).2
 suffices hh:Tells (Nv (a.cells.length+3) (a.cells.length+3) 0 (dA a)) (fun b=>b=true→∀ c∈a.cells,Kj c) by
  have hh2:Tells (.br (decide (60<(((dA a).fld 2).els.length:Int))) (.ret [D.bool false]) (Nv (a.cells.length+3) (a.cells.length+3) 0 (dA a))) (fun b=>b=true→∀ c∈a.cells,Kj c):=Tells.decs (fun _=>Tells.ret (fun h=>by cases h)) (fun _=>hh)
  obtain ⟨b,h1,h2⟩:=hh2
  refine ⟨b,fun hb=> ?_,Af (a.cells.length+3) (Ade _ _) h1⟩
  have h3:=h2 hb
  cases a with
  | mk s sh cs=>exact .mk (fun c hc=>(h3 c hc).1) (fun c hc=>(h3 c hc).2)
 suffices hh : ∀ m k,k≤a.cells.length→a.cells.length<k+m→Tells (Nv (a.cells.length+3) m (k:Int) (dA a)) (fun b=>b=true→∀ c∈a.cells.drop k,Kj c) from hh (a.cells.length+3) 0 (by omega) (by omega)
 intro m
 induction m with
 | zero=>intro k _ _;omega
 | succ m ihm =>
  intro k hk hm
  simp only[Add,Ah]
  refine Tells.decs (fun hlt=>Tells.dec (by omega) (Tells.dec (by omega) ?_)) (fun hge=>Tells.ret (fun _ c hc=> ?_))
  · have hlt':k<a.cells.length:=by omega
    have h2:a.cells[k]? = some a.cells[k]:=Alg hlt'
    have hdr:a.cells.drop k=a.cells[k]::a.cells.drop (k+1):=Al6 hlt'
    generalize a.cells[k]=c at h2 hdr
    have hc:=hcs c (Alm h2)
    have hcl:=Rp hc
    have hin : ∀ r j,j≤c.inn.length→c.inn.length<j+r→Tells (Nu (a.cells.length+3) m r (k:Int) (j:Int) (dA a) (dC c)) (fun b=>b=true→(∀ x∈c.inn.drop j,ExpOk x)∧∀ c∈a.cells.drop (k+1),Kj c):=by
     intro r
     induction r with
     | zero=>intro j _ _;omega
     | succ r ihr =>
      intro j hj hm'
      simp only[Adc,Ah,BV]
      refine Tells.decs (fun hlt2=>Tells.dec (by omega) (Tells.dec (by omega) ?_)) (fun hge=> ?_)
      · have hlt3:j<c.inn.length:=by omega
        have h3:c.inn[j]? = some c.inn[j]:=Alg hlt3
        have hdr3:c.inn.drop j=c.inn[j]::c.inn.drop (j+1):=Al6 hlt3
        generalize c.inn[j]=x at h3 hdr3
        obtain ⟨e,g1,g2⟩:=Aik hc x (Alm h3)
        obtain ⟨b,hb1,hb⟩:=ih e x g1 g2
        simp only[Ar h3,Bb j]
        refine Tells.call hb ?_
        simp only[Ag,Az]
        refine Tells.br (fun _=>Tells.ret (fun h=>by cases h)) (fun hnb=>(ihr (j+1) (by omega) (by omega)).mono (fun b' hb' ht=> ?_))
        obtain ⟨q1,q2⟩:=hb' ht
        refine ⟨fun y hy=> ?_,q2⟩
        rw[hdr3]at hy
        rcases Alx.1 hy with rfl | hy
        · exact hb1 (by simpa using hnb)
        · exact q1 y hy
      · rw[Bb k]
        refine (ihm (k+1) (by omega) (by omega)).mono (fun b' hb' ht=>⟨fun x hx=> ?_,hb' ht⟩)
        rw[List.drop_eq_nil_of_le (by omega)]at hx;cases hx
    have hin':=hin (a.cells.length+3) 0 (by omega) (by omega)
    simp only[Ar h2,Ah]
    refine Tells.call (Ahz c.n (by omega)) ?_
    rw[show ((0:Nat):Int)=0 from rfl]at hin'
    generalize Nu (a.cells.length+3) m (a.cells.length+3) (k:Int) 0 (dA a) (dC c)=T at hin' ⊢
    have fin:(∀ k,Db c.n=some k→ -300≤k∧k≤300)→Tells T (fun b=>b=true→∀ c∈a.cells.drop k,Kj c):=fun hk=>hin'.mono (fun b hb ht=>by
     obtain ⟨q1,q2⟩:=hb ht
     rw[hdr]
     intro y hy
     rcases Alx.1 hy with rfl | hy
     · exact ⟨hk,q1⟩
     · exact q2 y hy)
    refine Tells.br (fun _=>Tells.ret (fun h=>by cases h)) (fun _=>Tells.br (fun _=>Tells.ret (fun h=>by cases h)) (fun _=> ?_))
    cases hsm:Db c.n with
    | none =>
     rw[hsm]at fin
     simp only[Kx,Ag,Cl,Az,Ak]
     exact Tells.br (fun h=>by cases h) (fun _=>fin (fun k h=>by cases h))
    | some z =>
     rw[hsm]at fin
     simp only[Kx,Ag,Cl,Az,Ak]
     refine Tells.br (fun _=>Tells.decs (fun _=>Tells.ret (fun h=>by cases h)) (fun g1=>Tells.decs (fun _=>Tells.ret (fun h=>by cases h)) (fun g2=>fin (fun k h=> ?_)))) (fun h=>by cases h)
     injection h with h;subst h;omega
  · rw[List.drop_eq_nil_of_le (by omega)]at hc;cases hc
theorem OF(a:Arr)(ha:Fits a) : ∃ b,(b=true→Ba 8 a=true∧ExpOk a)∧Sp 8 [dA a] [.bool b]:=by
 cases hg:Uv a with
 | false =>
  refine ⟨false,(fun h=>by cases h),Af 0 (OG _ _) (Aa (UL a ha) ?_)⟩
  rw[hg]
  exact B_ rfl (Ac rfl)
 | true =>
  have hr:Ba 8 a=true:=by
   unfold Uv at hg
   simp only[Alp]at hg
   exact hg.1.2
  obtain ⟨b,h1,h2⟩:=Adb 8 a hr
  refine ⟨b,fun hb=>⟨hr,h1 hb⟩,Af 0 (OG _ _) (Aa (UL a ha) ?_)⟩
  rw[hg]
  exact Ax rfl (Aa h2 (Ac rfl))
theorem J2{z:Int}(h1 : -100000≤z:=by decide)(h2:z≤100000:=by decide):Bc z:=Et (by omega) (by omega)
theorem JH{k:Int}(h:Bc k):Ba 8 (Dx k 0)=true:=Ye (by simp[Dx];decide) (fun c hc=>by simp[Dx]at hc;subst hc;exact Ro 8 h)
theorem Ak_:Ba 8 (Dh [5,6,7] 0)=true:=Ye (by simp[Dh];decide) (fun c hc=>by
 simp[Dh]at hc
 rcases hc with rfl | rfl | rfl
 · exact Ro 8 J2
 · exact Ro 8 J2
 · exact Ro 8 J2)
theorem AaK:Kc 8835 (Dx 2 0) (Dh [5,6,7] 0)=(Dx 6 0,0):=by
 have e:Kc 8835 (Dx 2 0) (Dh [5,6,7] 0)=Nr (Dx 2 0) (Dh [5,6,7] 0):=by
  unfold Kc
  rw[if_neg (by decide),if_neg (by decide),if_neg (by decide),if_neg (by decide),if_neg (by decide),if_neg (by decide),if_neg (by decide),if_neg (by decide),if_pos rfl]
 rw[e]
 unfold Nr
 rw[AcJ J2,Aka]
 rw[if_neg (by decide),if_neg (by decide),if_neg (by simp[Dh]),if_neg (by simp[Dh])]
 rfl
theorem Adg:Sp 9 [] [.bool true]:=by
 refine Af 0 (Adh _) ?_
 have t:=SN 8835 (Dx 2 0) (Dh [5,6,7] 0) (JH J2) Ak_ (fun h=>by cases h)
 rw[AaK]at t
 refine Aa (VA 2 0 J2) (Aa (AhT [5,6,7] 0 (by decide) (fun x hx=>by simp at hx;rcases hx with rfl | rfl | rfl <;> exact J2)) (Aa t ?_))
 have hsame:=AhL (Dx 6 0) (Ei (JH J2)).fits (Dx 6 0)
 rw[Lo.2 rfl]at hsame
 refine Ax rfl (Aa (VA 6 0 J2) (Aa hsame (Ax rfl ?_)))
 have h1:=Wz 9076 false
 rw[decide_eq_true (by decide)]at h1
 have h2:=Wz 42 false
 rw[decide_eq_false (by decide)]at h2
 exact Aa h1 (Ax rfl (Aa h2 (Ac rfl)))
theorem Iq:Tw (.call 9 [] [] fun y=> .ret [D.bool ((qA y).toBool)]) [.bool true]:=Aa Adg (Ac rfl)
def Pa:List Int:=[43,45,124,8744,60,62,8800]
def R8:List Int:=[215,247,42,8743,8804,61,8805,33]
def Hu(f:Int):Int:=if f∈Pa then 0 else if f∈R8 then 1 else -1
theorem AhW(f:Int):Sp 22 [.int f] [.int (Hu f)]:=by
 refine Af 0 (AhX _ _) (Aa (Xu Pa f (by decide)) ?_)
 unfold Hu
 simp only[Ag,Az]
 refine Ae (fun h=>Ac (by rw[if_pos h])) (fun h=>Aa (Xu R8 f (by decide)) ?_)
 rw[if_neg h]
 simp only[Ag,Az]
 exact Ae (fun h=>Ac (by rw[if_pos h])) (fun h=>Ac (by rw[if_neg h]))
theorem AfT(f:Int):Sp 21 [.int f] [.int (if 0≤Hu f then Hu f else 0),.bool (decide (0≤Hu f))]:=by
 refine Af 0 (AfU _ _) ?_
 simp only[Ak,Cc]
 have z : ∀ x:Int,x∈Pa→Hu x=0:=fun x h=>by unfold Hu;rw[if_pos h]
 have u : ∀ x:Int,x∉Pa→x∈R8→Hu x=1:=fun x h h2=>by unfold Hu;rw[if_neg h,if_pos h2]
 iterate 7 refine Ae (fun h=>Ac (by rw[h,z _ (by decide)];rfl)) (fun h=> ?_)
 iterate 8 refine Ae (fun h=>Ac (by rw[h,u _ (by decide) (by decide)];rfl)) (fun h=> ?_)
 refine Ac ?_
 have n1:f∉Pa:=by simp only[Pa,Alx,List.not_mem_nil,or_false,not_or];omega
 have n2:f∉R8:=by simp only[R8,Alx,List.not_mem_nil,or_false,not_or];omega
 have:Hu f = -1:=by unfold Hu;rw[if_neg n1,if_neg n2]
 rw[this];rfl
theorem AfO(f:Int)(a b:Arr)(_hf : -9223372036854775808≤f∧f≤9223372036854775807)(ha:Fits a)(hb:Fits b):Sp 7 [.int f,dA a,dA b] [.bool true]:=by
 obtain ⟨b1,h1,s1⟩:=OF a ha
 obtain ⟨b2,h2,s2⟩:=OF b hb
 refine Af 0 (Adf _ _ _ _) (Aa s1 (Ch (fun _=>Iq) (fun e1=>Aa s2 (Ch (fun _=>Iq) (fun e2=> ?_)))))
 obtain ⟨g1,x1⟩:=h1 (by simpa using e1)
 obtain ⟨g2,x2⟩:=h2 (by simpa using e2)
 simp only[Ak]
 have i1:=Xu I9 f (by decide)
 have i2:=Xu Jn f (by decide)
 have o1:Sp 24 [] [dI I9]:=Af 0 (AhV _) (Ac rfl)
 have o2:Sp 25 [] [dI Jn]:=Af 0 (AhY _) (Ac rfl)
 have p1:=Wz f false
 have p2:=Wz f true
 have q1:=TS I9 I9 (by decide)
 have q2:=TS Jn Jn (by decide)
 rw[decide_eq_true rfl]at q1 q2
 have r1:=AfQ f a g1
 have r2:=SN f a b g1 g2 (fun _=>x2)
 have n1:=fun h=>AeV (f:=f) (a:=a) h
 have n2:=fun h=>Aky (f:=f) (a:=a) (b:=b) h
 simp only[Bool.false_eq_true,if_false,if_true]at p1 p2
 generalize Od f a=u1 at *
 generalize Kc f a b=u2 at *
 generalize hm1:decide (f∈I9)=m1 at *
 generalize hm2:decide (f∈Jn)=m2 at *
 have k1:m1=false→u1.2=8:=fun h=>n1 (of_decide_eq_false (by rw[hm1,h]))
 have k2:m2=false→u2.2=8:=fun h=>n2 (of_decide_eq_false (by rw[hm2,h]))
 refine Aa (AfT f) (Aa (AhW f) ?_)
 simp only[Ag,Cl,Ak,Az]
 by_cases hw:0≤Hu f
 · rw[decide_eq_true hw,if_pos hw]
   refine B_ (by simp[hw]) (Ax rfl (B_ (by simp) (B_ rfl ?_)))
   refine Aa o1 (Aa i1 (Aa o2 (Aa i2 (Aa p1 (B_ (by simp) (Aa p2 (B_ (by simp) (Aa FG (Aa o1 (Aa q1 (B_ rfl (Aa FH (Aa o2 (Aa q2 (B_ rfl (Aa r1 (Aa r2 ?_)))))))))))))))))
   simp only[Ag,Cl,Ak,Az]
   cases m1 with
   | true =>
    cases m2 with
    | true=>exact Ax rfl (Ax rfl Iq)
    | false=>exact Ax rfl (B_ rfl (Ax (by rw[k2 rfl];rfl) Iq))
   | false =>
    cases m2 with
    | true=>exact B_ rfl (Ax (by rw[k1 rfl];rfl) (Ax rfl Iq))
    | false=>exact B_ rfl (Ax (by rw[k1 rfl];rfl) (B_ rfl (Ax (by rw[k2 rfl];rfl) Iq)))
 · rw[decide_eq_false hw,if_neg hw]
   refine B_ (by simp[hw]) (B_ rfl (Ax rfl (B_ rfl ?_)))
   refine Aa o1 (Aa i1 (Aa o2 (Aa i2 (Aa p1 (B_ (by simp) (Aa p2 (B_ (by simp) (Aa FG (Aa o1 (Aa q1 (B_ rfl (Aa FH (Aa o2 (Aa q2 (B_ rfl (Aa r1 (Aa r2 ?_)))))))))))))))))
   simp only[Ag,Cl,Ak,Az]
   cases m1 with
   | true =>
    cases m2 with
    | true=>exact Ax rfl (Ax rfl Iq)
    | false=>exact Ax rfl (B_ rfl (Ax (by rw[k2 rfl];rfl) Iq))
   | false =>
    cases m2 with
    | true=>exact B_ rfl (Ax (by rw[k1 rfl];rfl) (Ax rfl Iq))
    | false=>exact B_ rfl (Ax (by rw[k1 rfl];rfl) (B_ rfl (Ax (by rw[k2 rfl];rfl) Iq)))
end Go.Proofs.YtokkbgpgaheakaaGreat
