/- Proved: lemmas for the law of this folder, part 6. No condition. -/
import Derived.Test.YtokkbgpgaheakaaGreatRows
import Derived.WalkKit
import Derived.WalkSpells
import Derived.WalkLawsBesides
import Derived.Lib.Hide
import Derived.Laws.CopyOwn
import Derived.Deep.QuietTactic
import Derived.BigQuiet
import Derived.Orders
import Derived.Defers
import Derived.Recover
import Derived.Test.YtokkbgpgaheakaaGreatProg
import Derived.KernelRfl
import Derived.ProofKit
import Derived.OpenShut
import Derived.Maps.OwnRows
import Derived.Maps.Views
import Derived.Deep.RegionHeld3
import Derived.Deep.AppendLies
import Derived.Test.YtokkbgpgaheakaaGreatZe30d8dac
set_option linter.unusedSimpArgs false
set_option linter.unusedVariables false
set_option maxRecDepth 100000
open Array renaming getElem?_eq_getElem → Ap7, getElem?_eq_some_iff → Aqi, getD_eq_getD_getElem? → Aqo
open BitVec renaming ofNat → Ap5
open Bool renaming and_eq_true → Apt
open Classical renaming not_not → Apw
open Int renaming toNat → Apj, toNat_natCast → Apr, fdiv → Aqd
open Go.IntKind renaming wrap → Api, bits → Apv
open List renaming getElem?_eq_getElem → Apk, replicate → Apl, length_map → Apm, getD_eq_getElem?_getD → Apn, getElem?_eq_some_iff → Apo, length_cons → App, mem_of_getElem? → Apq, length_append → Apu, length_drop → Apy, length_take → Ap0, length_nil → Ap1, getElem?_map → Ap2, mem_cons → Ap4, append_nil → Ap6, append_assoc → Ap8, map_cons → Ap9, getElem?_append_left → Ap_, drop_eq_getElem_cons → Aqa, length_eq_zero_iff → Aqb, take_append_drop → Aqf, take_of_length_le → Aqh, range → Aqj, getElem_mem → Aql, getElem?_append_right → Aqn, length_replicate → Aqp, mem_cons_of_mem → Aqq, mem_append → Aqs, mem_map → Aqw, nil_append → Aqx
open Nat renaming le_refl → Apx, mul_le_mul_right → Ap3, mod_eq_of_lt → Aqc, mod_lt → Aqe, mul_comm → Aqg, lt_of_lt_of_le → Aqk, div_div_eq_div_mul → Aqm, pow_succ → Aqr, div_lt_iff_lt_mul → Aqu, zero_add → Aqv
open Option renaming map_eq_some_iff → Apz, bind_eq_some_iff → Aqt
open Option.some renaming injEq → Aps
namespace Go.Proofs.YtokkbgpgaheakaaGreat
structure Bk where
 sh:List Int
 cs:List Cell
 al:Bool
def Bk.d (x:Bk):D:=Hb x.sh x.cs x.al
theorem Qo : ∀ (l m:List Int),Eb (l++m)=Eb l*Eb m
 | [],m=>by simp[Eb]
 | x::xs,m=>by simp only[List.cons_append,Eb,Qo xs m,Int.mul_assoc]
theorem XR : ∀ (l:List Int),A_ l 0=0
 | []=>rfl
 | x::xs=>by rw[Oi,Int.zero_mul,if_neg (by decide)];exact XR xs
theorem XO : ∀ (l:List Int) (p:Int),0∈l→A_ l p=0
 | x::xs,p,h=>by
  rw[Oi]
  split
  · rfl
  · rcases Ap4.1 h with h | h
    · rw[← h,Int.mul_zero];exact XR xs
    · exact XO xs _ h
theorem M3 : ∀ (l:List Int) (p:Int),(∀ x∈l,0≤x∧x≤2048)→0≤p→p≤2048→0≤A_ l p∧A_ l p≤2048
 | [],p,_,h1,h2=>⟨h1,h2⟩
 | x::xs,p,h,h1,h2=>by
  rw[Oi]
  split
  · omega
  · exact M3 xs _ (fun y hy=>h y (Aqq _ hy)) (Int.mul_nonneg h1 (h x (by simp)).1) (by omega)
theorem Oj{l:List Int}(hl : ∀ x∈l,0≤x∧x≤2048)(h:A_ l 1≠0):(∀ x∈l,1≤x)∧A_ l 1=Eb l:=by
 have h1 : ∀ x∈l,1≤x:=fun x hx=>by
  have:=(hl x hx).1
  rcases Int.lt_or_eq_of_le this with g | g
  · omega
  · exact absurd (XO l 1 (by rw[g];exact hx)) h
 refine ⟨h1,?_⟩
 rw[Zk l 1 h1 (by decide) (by decide),Int.one_mul]at h ⊢
 split at h
 · rename_i g;rw[if_pos g]
 · exact absurd rfl h
theorem Vx{s:List Int}{c:Int}(h:A8 s=(c,0))(h1 : ∀ x∈s,1≤x):c=Eb s∧Eb s≤2048:=by
 have hle:=(Fz s).2
 rw[h]at hle
 rcases (Ke h).2 with ⟨h0,_⟩ | ⟨h2,h3,h4⟩
 · exact absurd (h1 0 h0) (by decide)
 · have:=(Oj (fun x hx=>⟨by have:=(h2 x hx).1;omega,(h2 x hx).2⟩) (by rw[h3];exact h4)).2
   simp only at hle
   omega
structure BkOk (x:Bk) (axes:Nat):Prop where
 len:x.sh.length=axes
 rng : ∀ v∈x.sh,0≤v∧v≤2048
 cells:x.al=false→(∀ v∈x.sh,1≤v)→(x.cs.length:Int)=Eb x.sh
 alone:x.al=true→1≤x.cs.length
 few:x.cs.length≤2048
def Ek(a:Arr)(other:List Int)(axes axis:Nat):Option Bk :=
 if a.shape.length=axes then some ⟨a.shape,a.cells,false⟩
 else if a.shape.length=0 then some ⟨if other.length=0 then [1] else other.set axis 1,a.cells,true⟩
 else if a.shape.length+1=axes then some ⟨a.shape.take axis++[1]++a.shape.drop axis,a.cells,false⟩
 else none
theorem DM{a:Arr}{other:List Int}{axes axis:Nat}{x:Bk}(h:Ek a other axes axis=some x)(ha:A8 a.shape=((a.cells.length:Int),0))(ho : ∀ v∈other,0≤v∧v≤2048)(h1:1≤axes)(h2:axis<axes)(h3:a.shape.length=0→other.length=0→axes=1)(h4:a.shape.length=0→other.length≠0→axes=other.length):BkOk x axes:=by
 have hr:=(Gr (l:=a.shape) (by rw[ha])).2
 have hle:=(Fz a.shape).2
 rw[ha]at hle
 have hcl:a.cells.length≤2048:=by simp only at hle;omega
 unfold Ek at h
 split at h
 · rename_i g
   injection h with h;subst h
   exact ⟨g,hr,fun _ hv=>(Vx ha hv).1,(fun h=>by cases h),hcl⟩
 split at h
 · rename_i g0 g
   injection h with h;subst h
   have hc:a.cells.length=1:=by
     have e:a.shape = []:=Aqb.1 g
     rw[e,show A8 []=(1,0) by decide]at ha
     injection ha with ha;omega
   refine ⟨?_,?_,(fun h=>by cases h),fun _=>by show 1≤a.cells.length;omega,hcl⟩
   · simp only
     split
     · rename_i g2;rw[h3 g g2];rfl
     · rename_i g2;rw[List.length_set,h4 g g2]
   · simp only
     split
     · intro v hv;rw[List.mem_singleton.1 hv];decide
     · intro v hv
       rcases List.mem_or_eq_of_mem_set hv with q | q
       · exact ho v q
       · rw[q];decide
 split at h
 · rename_i g0 g1 g
   injection h with h;subst h
   refine ⟨?_,?_,fun _ hv=> ?_,(fun h=>by cases h),hcl⟩
   · simp only[Apu,Ap0,App,Ap1,Apy];omega
   · intro v hv
     simp only[Aqs,List.mem_singleton]at hv
     rcases hv with (q | q) | q
     · exact hr v (List.mem_of_mem_take q)
     · rw[q];decide
     · exact hr v (List.mem_of_mem_drop q)
   · have hv2 : ∀ v∈a.shape,1≤v:=fun v hvv=>hv v (by
       rw[← Aqf axis a.shape,Aqs]at hvv
       simp only[Aqs,List.mem_singleton]
       rcases hvv with q | q
       · exact .inl (.inl q)
       · exact .inr q)
     simp only[Qo,Eb,Int.mul_one]
     rw[← Qo,Aqf]
     exact (Vx ha hv2).1
 · cases h
theorem SY(a:Arr)(other:List Int)(axes axis:Nat)(hl:a.shape.length≤1000)(ho:other.length≤1000)(h1:1≤axes)(h2:axis<axes)(h5:axes≤1000)(h4:a.shape.length=0→other.length≠0→axes=other.length) :
   Sp 172 [dA a,dI other,.int (axes:Int),.int (axis:Int)] (match Ek a other axes axis with | some x=>[x.d,.bool true] | none=>[Hb [] [] false,.bool false]):=by
 refine Af 0 (Agl _ _ _ _ _) ?_
 have hw:Api .i64 ((axes:Int)-1)=(axes:Int)-1:=Aw (by omega) (by omega)
 simp only[Ah,hw,List.replicate_zero,Aqx,Ap1,← List.map_take,← List.map_drop,Ap0,Apy,App]
 unfold Ek
 refine Ad (Ad (Ay (by simp only[Ak];omega) (Ae (fun g=> ?_) (fun g=>Ae (fun g1=> ?_) (fun g1=>Ae (fun g2=> ?_) (fun g2=> ?_))))))
 · rw[if_pos (by omega)]
   exact Ay (by simp only[Ak];omega) (Ac rfl)
 · rw[if_neg (by omega),if_pos (by omega)]
   refine Ae (fun q=> ?_) (fun q=> ?_)
   · exact Ay (by simp[Ak]) (Ac (by rw[if_pos (by omega)];rfl))
   · have:=h4 (by omega) (by omega)
     rw[if_neg (by omega)]
     refine Ay (by simp only[Ak];omega) (Ad (Ad (Ac ?_)))
     rw[show (D.int 1)=D.int ((1:Int)) from rfl,← List.map_set];rfl
 · rw[if_neg (by omega),if_neg (by omega),if_pos (by omega)]
   refine Ad (Ad (Ay (by simp only[Ak];omega) (Ay (by simp only[Ak];omega) (Ad (Ad (Ay (by simp only[Ak,Apu,Apm,Ap0,App,Ap1];omega) (Ac ?_)))))))
   simp[Bk.d,Hb,dI]
 · rw[if_neg (by omega),if_neg (by omega),if_neg (by omega)]
   exact Ac rfl
def Fu(x:Bk)(i n:Nat):List Cell:=if x.al then Apl n (x.cs.getD 0 (Bf 0)) else (x.cs.take (i*n+n)).drop (i*n)
theorem BC(x:Bk)(i n:Nat):(Fu x i n).length≤n:=by
 unfold Fu
 split
 · simp
 · simp only[Apy,Ap0];omega
theorem SX(x:Bk)(r:List Cell)(i n:Nat)(h1:x.al=false→i*n+n≤x.cs.length)(h2:x.al=true→1≤x.cs.length)(hc:x.cs.length≤2048)(hn:n≤100000)(hr:r.length≤1000000) :
  Sp 174 [x.d,.sl (r.map dC),.int (i:Int),.int (n:Int)] [.sl ((r++Fu x i n).map dC)]:=by
 obtain ⟨sh,cs,al⟩:=x
 simp only at h1 h2 hc
 cases al with
 | false =>
  have:=Agj sh cs r (i:Int) (n:Int) (by omega) (by omega) (by have:=h1 rfl;omega) hc hr
  rw[show ((i:Int)*(n:Int)+(n:Int)).toNat=i*n+n by omega,show ((i:Int)*(n:Int)).toNat=i*n by omega]at this
  exact this
 | true =>
  have hc1:=h2 rfl
  refine Af 100001 (SU _ _ _ _ _) (Eo rfl ?_)
  simp only[Ee,Ao]
  have hg:(cs.map dC).getD 0 D.nil=dC (cs.getD 0 (Bf 0)):=by
   rw[Au (Apk (by omega)),Apn,Apk (by omega)];rfl
  have key:=Di n (fun m k (_:Unit)=>Xl 100001 m ((r++Apl k (cs.getD 0 (Bf 0))).map dC) (n:Int) (k:Int) (Hb sh cs true)) (fun _ _=>[.sl ((r++Fu ⟨sh,cs,true⟩ i n).map dC)]) (fun _ _=>True)
   (fun m _ _=>by
    rw[ST]
    exact Ar (Ac rfl))
   (fun m k _ hk _ ih=>by
    rw[ST]
    simp only[Hb,Li,Ee,Apm,Int.toNat_zero,hg]
    refine Ad (Ad (Ad (Ay (by simp only[Apu,Aqp,App,Ap1,Ak];omega) ?_)))
    have:=ih () trivial
    rw[List.replicate_succ',← Ap8,List.map_append]at this
    rw[Ey (by omega)]
    exact this)
   100001 0 () (by omega) (by omega) trivial
  simpa [Bk.d]using key
def Kr(x y:Bk)(axis:Nat)(s:List Int):List Cell :=
 (Aqj (A_ (s.take axis) 1).toNat).flatMap (fun i=>Fu x i ((x.sh.getD axis 0).toNat*(A_ (s.drop (axis+1)) 1).toNat)++Fu y i ((y.sh.getD axis 0).toNat*(A_ (s.drop (axis+1)) 1).toNat))
structure Near (x:Bk) (axis:Nat) (s:List Int):Prop where
 ahead:x.sh.take axis=s.take axis
 behind:x.sh.drop (axis+1)=s.drop (axis+1)
theorem VH{x:Bk}{axes axis:Nat}{s:List Int}(hx:BkOk x axes)(ha:axis<axes)(hn:Near x axis s)(hs : ∀ v∈s,0≤v∧v≤2048)(hal:x.al=false) :
  (A_ (s.take axis) 1).toNat*((x.sh.getD axis 0).toNat*(A_ (s.drop (axis+1)) 1).toNat)≤x.cs.length:=by
 have r1:=M3 (s.take axis) 1 (fun v hv=>hs v (List.mem_of_mem_take hv)) (by decide) (by decide)
 have r2:=M3 (s.drop (axis+1)) 1 (fun v hv=>hs v (List.mem_of_mem_drop hv)) (by decide) (by decide)
 have hk:x.sh.getD axis 0=x.sh[axis]'(by rw[hx.len];exact ha):=by rw[Apn,Apk (by rw[hx.len];exact ha)];rfl
 have hkr:=hx.rng _ (Aql (by rw[hx.len];exact ha):x.sh[axis]'(by rw[hx.len];exact ha)∈x.sh)
 have hsplit:x.sh=s.take axis++x.sh.getD axis 0::s.drop (axis+1):=by
  rw[← hn.ahead,← hn.behind,hk,← Aqa,Aqf]
 rw[← hk]at hkr
 generalize x.sh.getD axis 0=k at *
 rcases Decidable.em (A_ (s.take axis) 1=0) with e | e
 · rw[e];simp
 rcases Decidable.em (A_ (s.drop (axis+1)) 1=0) with e2 | e2
 · rw[e2];simp
 rcases Decidable.em (k=0) with e3 | e3
 · rw[e3];simp
 obtain ⟨p1,p2⟩:=Oj (fun v hv=>hs v (List.mem_of_mem_take hv)) e
 obtain ⟨p3,p4⟩:=Oj (fun v hv=>hs v (List.mem_of_mem_drop hv)) e2
 have hc:=hx.cells hal (fun v hv=>by
  rw[hsplit]at hv
  rcases Aqs.1 hv with q | q
  · exact p1 v q
  · rcases Ap4.1 q with q | q
    · omega
    · exact p3 v q)
 rw[hsplit,Qo,Eb,← p2,← p4]at hc
 generalize A_ (s.take axis) 1=A at *
 generalize A_ (s.drop (axis+1)) 1=B at *
 obtain ⟨A',rfl⟩ : ∃ n:Nat,A=(n:Int):=⟨A.toNat,by omega⟩
 obtain ⟨B',rfl⟩ : ∃ n:Nat,B=(n:Int):=⟨B.toNat,by omega⟩
 obtain ⟨k',rfl⟩ : ∃ n:Nat,k=(n:Int):=⟨k.toNat,by omega⟩
 simp only[Apr]
 have:(x.cs.length:Int)=((A'*(k'*B'):Nat):Int):=by rw[hc];simp
 omega
theorem Agg(x y:Bk)(axes axis:Nat)(s:List Int)(hx:BkOk x axes)(hy:BkOk y axes)(ha:axis<axes)(hnx:Near x axis s)(hny:Near y axis s)(hsl:s.length=axes)(hsx:s.getD axis 0=x.sh.getD axis 0+y.sh.getD axis 0)(hc:(A8 s).2=0) :
  Sp 88 [G4 x.d y.d (axis:Int),dI s] [.sl ((Kr x y axis s).map dC)]:=by
 obtain ⟨hl6,hs⟩:=Gr hc
 have r1:=M3 (s.take axis) 1 (fun v hv=>hs v (List.mem_of_mem_take hv)) (by decide) (by decide)
 have r2:=M3 (s.drop (axis+1)) 1 (fun v hv=>hs v (List.mem_of_mem_drop hv)) (by decide) (by decide)
 have gx:(x.sh.map D.int).getD axis D.nil=D.int (x.sh.getD axis 0):=H8 (by rw[hx.len];exact ha)
 have gy:(y.sh.map D.int).getD axis D.nil=D.int (y.sh.getD axis 0):=H8 (by rw[hy.len];exact ha)
 have memD : ∀ {l:List Int},axis<l.length→l.getD axis 0∈l:=fun h=>by rw[Apn,Apk h];exact Aql h
 have kx:=hx.rng _ (memD (l:=x.sh) (by rw[hx.len];exact ha))
 have ky:=hy.rng _ (memD (l:=y.sh) (by rw[hy.len];exact ha))
 have cx:=fun h=>VH hx ha hnx hs h
 have cy:=fun h=>VH hy ha hny hs h
 have tot:(A_ (s.take axis) 1).toNat*((s.getD axis 0).toNat*(A_ (s.drop (axis+1)) 1).toNat)≤2048:=by
  have ms:=hs _ (memD (l:=s) (by omega))
  have hk:s.getD axis 0=s[axis]:=by rw[Apn,Apk (by omega)];rfl
  have hsplit:s=s.take axis++s.getD axis 0::s.drop (axis+1):=by rw[hk,← Aqa,Aqf]
  rcases Decidable.em (A_ (s.take axis) 1=0) with e | e
  · rw[e];simp
  rcases Decidable.em (A_ (s.drop (axis+1)) 1=0) with e2 | e2
  · rw[e2];simp
  rcases Decidable.em (s.getD axis 0=0) with e3 | e3
  · rw[e3];simp
  obtain ⟨p1,p2⟩:=Oj (fun v hv=>hs v (List.mem_of_mem_take hv)) e
  obtain ⟨p3,p4⟩:=Oj (fun v hv=>hs v (List.mem_of_mem_drop hv)) e2
  have hz:=(Vx (s:=s) (c:=(A8 s).1) (by rw[← hc]) (fun v hv=>by
   rw[hsplit]at hv
   rcases Aqs.1 hv with q | q
   · exact p1 v q
   · rcases Ap4.1 q with q | q
     · omega
     · exact p3 v q)).2
  rw[hsplit,Qo,Eb,← p2,← p4]at hz
  generalize A_ (s.take axis) 1=A at *
  generalize A_ (s.drop (axis+1)) 1=B at *
  generalize s.getD axis 0=k at *
  obtain ⟨A',rfl⟩ : ∃ n:Nat,A=(n:Int):=⟨A.toNat,by omega⟩
  obtain ⟨B',rfl⟩ : ∃ n:Nat,B=(n:Int):=⟨B.toNat,by omega⟩
  obtain ⟨k',rfl⟩ : ∃ n:Nat,k=(n:Int):=⟨k.toNat,by omega⟩
  simp only[Apr]
  have:((A'*(k'*B'):Nat):Int)≤2048:=by simpa using hz
  omega
 rw[hsx]at tot
 have ar:=LJ s (axis:Int)
 rw[show Nn s (axis:Int) = [.int (A_ (s.take axis) 1),.int (s.getD axis 0),.int (A_ (s.drop (axis+1)) 1),.bool true] by unfold Nn;rw[if_pos ⟨hc,by omega,by omega⟩];rfl]at ar
 refine Af 4096 (Agh _ _ _) ?_
 simp only[G4,Bk.d,Hb,Lh,Li,W2,Ao]
 refine Aa ar ?_
 unfold Kr
 generalize hA:A_ (s.take axis) 1=A at *
 generalize hB:A_ (s.drop (axis+1)) 1=B at *
 generalize hX:x.sh.getD axis 0=X at *
 generalize hY:y.sh.getD axis 0=Y at *
 obtain ⟨A',rfl⟩ : ∃ n:Nat,A=(n:Int):=⟨A.toNat,by omega⟩
 obtain ⟨B',rfl⟩ : ∃ n:Nat,B=(n:Int):=⟨B.toNat,by omega⟩
 obtain ⟨X',rfl⟩ : ∃ n:Nat,X=(n:Int):=⟨X.toNat,by omega⟩
 obtain ⟨Y',rfl⟩ : ∃ n:Nat,Y=(n:Int):=⟨Y.toNat,by omega⟩
 simp only[Apr]at *
 rw[show ((X':Int)+(Y':Int)).toNat=X'+Y' by omega,Nat.add_mul]at tot
 have b1:X'*B'≤2048*2048:=Nat.mul_le_mul (by omega) (by omega)
 have b2:Y'*B'≤2048*2048:=Nat.mul_le_mul (by omega) (by omega)
 have w1:Api .i64 ((X':Int)*(B':Int))=((X'*B':Nat):Int):=by rw[← Int.natCast_mul];exact Aw (by omega) (by omega)
 have w2:Api .i64 ((Y':Int)*(B':Int))=((Y'*B':Nat):Int):=by rw[← Int.natCast_mul];exact Aw (by omega) (by omega)
 have w3:Api .i64 (((X'*B':Nat):Int)+((Y'*B':Nat):Int))=((X'*B'+Y'*B':Nat):Int):=by rw[Aw (by omega) (by omega)];simp
 have w4:Api .i64 ((A':Int)*((X'*B'+Y'*B':Nat):Int))=((A'*(X'*B'+Y'*B'):Nat):Int):=by rw[← Int.natCast_mul];exact Aw (by omega) (by omega)
 simp only[Ag,W7,Ao,Cf,Apm,hx.len,hy.len,Apr,Int.toNat_zero,gx,gy,w1,w2,w3,w4]
 refine Ad (Ad (Ad (Ad (Ad (Ad (Ay (by simp only[Ak];omega) ?_))))))
 have key:=Di A' (fun m k (r:List Cell)=>Xn 4096 m ((X'*B':Nat):Int) ((Y'*B':Nat):Int) (r.map dC) (A':Int) (k:Int) (G4 x.d y.d (axis:Int))) (fun _ _=>[.sl (((Aqj A').flatMap (fun i=>Fu x i (X'*B')++Fu y i (Y'*B'))).map dC)])
  (fun k r=>r=(Aqj k).flatMap (fun i=>Fu x i (X'*B')++Fu y i (Y'*B'))∧r.length≤k*(X'*B'+Y'*B'))
  (fun m r hI=>by
   rw[SV,hI.1]
   exact Ar (Ac rfl))
  (fun m k r hk hI ih=>by
   have hkA:(k+1)*(X'*B'+Y'*B')≤A'*(X'*B'+Y'*B'):=Ap3 _ (by omega)
   rw[Nat.add_mul,Nat.one_mul]at hkA
   have q : ∀ n:Nat,k*n+n≤A'*n:=fun n=>by
     have:=Ap3 n (show k+1≤A' by omega)
     rwa[Nat.add_mul,Nat.one_mul]at this
   have l1:=BC x k (X'*B')
   have l2:=BC y k (Y'*B')
   have s1:=SX x r k (X'*B') (fun h=>by have:=cx h;have:=q (X'*B');omega) hx.alone hx.few (by omega) (by omega)
   have s2:=SX y (r++Fu x k (X'*B')) k (Y'*B') (fun h=>by have:=cy h;have:=q (Y'*B');omega) hy.alone hy.few (by omega) (by rw[Apu];omega)
   rw[SV]
   simp only[G4,Lh,Li]at *
   refine Ad (Aa s1 (Aa s2 ?_))
   rw[Ey (by omega)]
   refine ih _ ⟨?_,?_⟩
   · rw[List.range_succ,List.flatMap_append,← hI.1];simp
   · rw[Apu,Apu,Nat.add_mul,Nat.one_mul];omega)
  4096 0 [] (by omega) (by omega) ⟨rfl,by simp⟩
 exact key
def Jn:List Int→List Int→Nat→Nat→Bool
 | x::xs,y::ys,axis,i=>(decide (i≠axis∧x≠y))||Jn xs ys axis (i+1)
 | _,_,_,_=>false
theorem PT : ∀ {xs ys:List Int} {axis i:Nat},Jn xs ys axis i=false→xs.length=ys.length→∀ j,i+j≠axis→xs[j]? = ys[j]?
 | [],[],_,_,_,_,_,_=>rfl
 | x::xs,y::ys,axis,i,h,hl,j,hj=>by
  simp only[Jn,Bool.or_eq_false_iff,decide_eq_false_iff_not]at h
  match j with
  | 0 =>
   have:=h.1
   have e:x=y:=Decidable.byContradiction (fun q=>this ⟨by simpa using hj,q⟩)
   rw[e];rfl
  | j+1 =>
   have:=PT h.2 (by simpa using hl) j (by omega)
   simpa using this
 | [],y::ys,_,_,_,hl,_,_=>by simp at hl
 | x::xs,[],_,_,_,hl,_,_=>by simp at hl
def Ew(x y:List Int)(axis:Nat):List Int×Int :=
 if Jn x y axis 0 then ([],4) else if (A8 (x.set axis (x.getD axis 0+y.getD axis 0))).2≠0 then ([],(A8 (x.set axis (x.getD axis 0+y.getD axis 0))).2) else (x.set axis (x.getD axis 0+y.getD axis 0),0)
theorem Agk(x y:Bk)(axes axis:Nat)(hx:BkOk x axes)(hy:BkOk y axes)(ha:axis<axes)(h5:axes≤1000) :
  Sp 87 [G4 x.d y.d (axis:Int)] [dI (Ew x.sh y.sh axis).1,.int (Ew x.sh y.sh axis).2]:=by
 refine Af 4096 (Agi _ _) ?_
 have gx:(x.sh.map D.int).getD axis D.nil=D.int (x.sh.getD axis 0):=H8 (by rw[hx.len];exact ha)
 have gy:(y.sh.map D.int).getD axis D.nil=D.int (y.sh.getD axis 0):=H8 (by rw[hy.len];exact ha)
 have memD : ∀ {l:List Int},axis<l.length→l.getD axis 0∈l:=fun h=>by rw[Apn,Apk h];exact Aql h
 have kx:=hx.rng _ (memD (l:=x.sh) (by rw[hx.len];exact ha))
 have ky:=hy.rng _ (memD (l:=y.sh) (by rw[hy.len];exact ha))
 have lx:=hx.len
 have ly:=hy.len
 simp only[G4,Bk.d,Hb,Lh,Li,W2,Cf,Apm]
 have key:=B3 x.sh (fun m k (_:Unit)=>Pw 4096 m (dI x.sh) (x.sh.length:Int) (k:Int) (G4 x.d y.d (axis:Int))) (fun _ _=>[dI (Ew x.sh y.sh axis).1,.int (Ew x.sh y.sh axis).2])
  (fun rest _=>Jn x.sh y.sh axis 0=Jn rest (y.sh.drop (x.sh.length-rest.length)) axis (x.sh.length-rest.length))
  (fun m k _ hk hI=>by
   have hd:Jn x.sh y.sh axis 0=false:=by rw[hI];rfl
   rw[SW]
   simp only[G4,Bk.d,Hb,Lh,Li,W2,Ao,Cf,Apm,Apr,gx,gy,Aw (x:=x.sh.getD axis 0+y.sh.getD axis 0) (by omega) (by omega)]
   have hw:=Abr x.sh (axis:Int) (x.sh.getD axis 0+y.sh.getD axis 0) (by omega)
   rw[show Uw x.sh (axis:Int) (x.sh.getD axis 0+y.sh.getD axis 0) = [dI (x.sh.set axis (x.sh.getD axis 0+y.sh.getD axis 0)),.bool true] by unfold Uw;rw[if_pos ⟨by omega,by omega⟩];rfl]at hw
   refine Ar (Ad (Ad (Ad (Ad (Aa hw ?_)))))
   simp only[Ag]
   refine Aa (Oq _) ?_
   unfold Ew
   rw[hd]
   simp only[Ah,Bool.false_eq_true,if_false]
   refine Ae (fun g=>Ac ?_) (fun g=>Ac ?_)
   · rw[if_pos g];rfl
   · rw[if_neg g])
  (fun m k _ v rest hdr hI ih=>by
   obtain ⟨h4,h2,h3⟩:=By hdr
   have hle:=congrArg List.length hdr
   rw[Apy,App]at hle
   rw[show x.sh.length-(v::rest).length=k by rw[App];omega,Aqa (show k<y.sh.length by omega)]at hI
   rw[show x.sh.length-rest.length=k+1 by omega]at ih
   have hsi:y.sh[k]? = some y.sh[k]:=Apk (by omega)
   generalize y.sh[k]=u at *
   simp only[Jn]at hI
   have go:Jn x.sh y.sh axis 0=Jn rest (y.sh.drop (k+1)) axis (k+1)→Tw (Pw 4096 m (dI x.sh) (x.sh.length:Int) ((k+1:Nat):Int) (G4 x.d y.d (axis:Int))) [dI (Ew x.sh y.sh axis).1,.int (Ew x.sh y.sh axis).2]:=ih ()
   rw[SW]
   have e:(G4 x.d y.d (axis:Int)).fld 2=D.int (axis:Int):=rfl
   have e2:(((G4 x.d y.d (axis:Int)).fld 1).fld 0)=dI y.sh:=rfl
   simp only[e,e2,Ao,Cf,Apm,Apr,Au h2,Au hsi,Do,Bh k]
   refine Ad (Ad (Ad (Ae (fun g=> ?_) (fun g=> ?_))))
   · refine Ad (Ad (Ae (fun g2=>Ac ?_) (fun g2=> ?_)))
     · have:Jn x.sh y.sh axis 0=true:=by rw[hI,decide_eq_true ⟨by omega,g2⟩];rfl
       unfold Ew
       rw[if_pos this];rfl
     · refine go ?_
       rw[hI,decide_eq_false (fun q=>g2 q.2)];rfl
   · refine go ?_
     rw[hI,decide_eq_false (fun q=>q.1 (by omega))];rfl)
  4096 0 () (by omega) (by omega) (by simp)
 exact key
def B9(a b:Arr):Nat:=max (max a.shape.length b.shape.length) 1
def Bx(a b:Arr)(first:Bool):Nat:=if first then 0 else B9 a b-1
theorem Jk(a b:Arr)(first:Bool):Bx a b first<B9 a b:=by unfold Bx B9;split <;> omega
def GC(a b:Arr)(first:Bool):List D:=match Ek a b.shape (B9 a b) (Bx a b first),Ek b a.shape (B9 a b) (Bx a b first) with
 | some x,some y=>[G4 x.d y.d (Bx a b first:Int),.int 0]
 | _,_=>[G4 (Hb [] [] false) (Hb [] [] false) 0,.int 5]
theorem Age(a b:Arr)(first:Bool)(ha:a.shape.length≤6)(hb:b.shape.length≤6):Sp 86 [dA a,dA b,.bool first] (GC a b first):=by
 refine Af 0 (Agf _ _ _ _) ?_
 have e1:(if (if (a.shape.length:Int)<(b.shape.length:Int) then (b.shape.length:Int) else (a.shape.length:Int))<1 then 1 else (if (a.shape.length:Int)<(b.shape.length:Int) then (b.shape.length:Int) else (a.shape.length:Int)))=((B9 a b:Nat):Int):=by unfold B9;split <;> (split <;> omega)
 have h1:1≤B9 a b:=by unfold B9;omega
 have h6:B9 a b≤6:=by unfold B9;omega
 have w1:=SY a b.shape (B9 a b) (Bx a b first) (by omega) (by omega) h1 (Jk a b first) (by omega) (by unfold B9;omega)
 have w2:=SY b a.shape (B9 a b) (Bx a b first) (by omega) (by omega) h1 (Jk a b first) (by omega) (by unfold B9;omega)
 simp only[Ah,e1]
 unfold GC
 have fin:Tw (.call 172 [] [dA a,dI b.shape,.int (B9 a b:Int),.int (Bx a b first:Int)] fun Y1 =>
   .br (!((qB Y1).toBool)) (.ret [D.agg [D.agg [D.sl [],D.sl [],D.bool false],D.agg [D.sl [],D.sl [],D.bool false],D.int 0],D.int 5])
   (.call 172 [] [dA b,dI a.shape,.int (B9 a b:Int),.int (Bx a b first:Int)] fun Y2 =>
   .br (!((qB Y2).toBool)) (.ret [D.agg [D.agg [D.sl [],D.sl [],D.bool false],D.agg [D.sl [],D.sl [],D.bool false],D.int 0],D.int 5])
   (.ret [D.agg [qA Y1,qA Y2,D.int (Bx a b first:Int)],D.int 0]))) (match Ek a b.shape (B9 a b) (Bx a b first),Ek b a.shape (B9 a b) (Bx a b first) with
    | some x,some y=>[G4 x.d y.d (Bx a b first:Int),.int 0]
    | _,_=>[G4 (Hb [] [] false) (Hb [] [] false) 0,.int 5]):=by
  refine Aa w1 ?_
  cases Ek a b.shape (B9 a b) (Bx a b first) with
  | none=>exact Bi rfl (Ac rfl)
  | some x =>
    refine Eo rfl (Aa w2 ?_)
    cases Ek b a.shape (B9 a b) (Bx a b first) with
    | none=>exact Bi rfl (Ac rfl)
    | some y=>exact Eo rfl (Ac rfl)
 cases first with
 | true=>exact Bi rfl fin
 | false =>
  have e3:Api .i64 ((B9 a b:Int)-1)=(Bx a b false:Int):=by rw[Aw (by omega) (by omega)];unfold Bx;simp;omega
  rw[e3]
  exact Eo rfl fin
def Hc(a b:Arr)(first:Bool):Arr×Int:=match Ek a b.shape (B9 a b) (Bx a b first),Ek b a.shape (B9 a b) (Bx a b first) with
 | some x,some y=>if (Ew x.sh y.sh (Bx a b first)).2≠0 then (.none,(Ew x.sh y.sh (Bx a b first)).2) else (.mk (a.s|||b.s) (Ew x.sh y.sh (Bx a b first)).1 (Kr x y (Bx a b first) (Ew x.sh y.sh (Bx a b first)).1),0)
 | _,_=>(.none,5)
theorem Ac2{x y:Bk}{axes axis:Nat}(hx:BkOk x axes)(hy:BkOk y axes)(ha:axis<axes)(h:(Ew x.sh y.sh axis).2=0) :
   Near x axis (Ew x.sh y.sh axis).1∧Near y axis (Ew x.sh y.sh axis).1∧(Ew x.sh y.sh axis).1.length=axes∧(Ew x.sh y.sh axis).1.getD axis 0=x.sh.getD axis 0+y.sh.getD axis 0∧(A8 (Ew x.sh y.sh axis).1).2=0:=by
 unfold Ew at h ⊢
 split at h
 · cases h
 · rename_i hd
   rw[if_neg hd]
   split at h
   · rename_i g;exact absurd h g
   · rename_i g
     rw[if_neg g]
     have hxy:x.sh.length=y.sh.length:=by rw[hx.len,hy.len]
     have heq:=PT (by simpa using hd) hxy
     refine ⟨⟨?_,?_⟩,⟨?_,?_⟩,by rw[List.length_set,hx.len],?_,Apw.1 g⟩
     · rw[List.take_set_of_le (Apx _)]
     · rw[List.drop_set_of_lt (by omega)]
     · rw[List.take_set_of_le (Apx _)]
       refine List.ext_getElem? (fun j=> ?_)
       rw[List.getElem?_take,List.getElem?_take]
       split
       · rw[heq j (by omega)]
       · rfl
     · rw[List.drop_set_of_lt (by omega)]
       refine List.ext_getElem? (fun j=> ?_)
       rw[List.getElem?_drop,List.getElem?_drop,heq _ (by omega)]
     · rw[Apn,List.getElem?_set_self (by rw[hx.len];exact ha)];rfl
theorem SS(a b:Arr)(first:Bool)(ha:A8 a.shape=((a.cells.length:Int),0))(hb:A8 b.shape=((b.cells.length:Int),0)):Sp 36 [dA a,dA b,.bool first] [dA (Hc a b first).1,.int (Hc a b first).2]:=by
 have ha6:=(Ke ha).1
 have hb6:=(Ke hb).1
 have har:=(Gr (l:=a.shape) (by rw[ha])).2
 have hbr:=(Gr (l:=b.shape) (by rw[hb])).2
 have h6:B9 a b≤6:=by unfold B9;omega
 have h1:1≤B9 a b:=by unfold B9;omega
 refine Af 0 (Agb _ _ _ _) ?_
 have hf:=Age a b first ha6 hb6
 unfold GC at hf
 unfold Hc
 simp only[Bc]
 cases hwa:Ek a b.shape (B9 a b) (Bx a b first) with
 | none=>rw[hwa]at hf;exact Aa hf (Bi rfl (Ac rfl))
 | some x =>
  rw[hwa]at hf
  cases hwb:Ek b a.shape (B9 a b) (Bx a b first) with
  | none=>rw[hwb]at hf;exact Aa hf (Bi rfl (Ac rfl))
  | some y =>
   rw[hwb]at hf
   have hx:=DM hwa ha hbr h1 (Jk a b first) (by unfold B9;omega) (by unfold B9;omega)
   have hy:=DM hwb hb har h1 (Jk a b first) (by unfold B9;omega) (by unfold B9;omega)
   refine Aa hf (Eo rfl (Aa (Agk x y (B9 a b) _ hx hy (Jk a b first) (by omega)) ?_))
   simp only[Ah,C9]
   refine Ae (fun g=>Ac (by rw[if_pos g])) (fun g=> ?_)
   rw[if_neg g]
   obtain ⟨n1,n2,n3,n4,n5⟩:=Ac2 hx hy (Jk a b first) (Apw.1 g)
   refine Aa (Hk a.s b.s) (Aa (Agg x y (B9 a b) _ _ hx hy (Jk a b first) n1 n2 n3 n4 n5) (Ac ?_))
   simp only[Ah]
   rw[D4];rfl
def L0(a:Arr):Arr:= .mk a.s (if 0<a.shape.length then [a.shape.getD 0 0,A_ (a.shape.drop 1) 1] else [1,1]) a.cells
theorem Agc(a:Arr)(ha:A8 a.shape=((a.cells.length:Int),0)):Sp 58 [dA a] [dA (L0 a)]:=by
 have hle:=(Fz a.shape).2
 rw[ha]at hle
 simp only at hle
 refine Af 0 (Agd _ _) ?_
 unfold L0
 simp only[Ah]
 refine Ae (fun g=> ?_) (fun g=> ?_)
 · have ar:=LJ a.shape 0
   rw[show Nn a.shape 0 = [.int (A_ (a.shape.take 0) 1),.int (a.shape.getD 0 0),.int (A_ (a.shape.drop 1) 1),.bool true] by unfold Nn;rw[if_pos ⟨by rw[ha],by omega,by omega⟩];rfl]at ar
   refine Aa ar (Ay (by simp only[Ak];omega) (Ac ?_))
   rw[if_pos (by omega),D4]
   rfl
 · refine Ay (by simp only[Ak];omega) (Ac ?_)
   rw[if_neg (by omega),D4]
   rfl
def Wq:List (Nat×Orc):=[(12,⟨[(1,none),(2,none),(6,none),(39,none),(40,none)],[(1,true),(2,false)],[(.slot 6,1120,67)]⟩)]
noncomputable def Wp(n m12:Nat)(cells6:List D)(t39 t40:Int)(nn1:D)(t2_0:Int):Tree :=
 lA (eA Wq n 65 [1,1,1,1,1,0,1,0,0]) (Al Wq 12) m12 ⟨(.undef:: .ptr 1 []:: .ptr 2 []::uA 3++(.row 1120::uA 32++(.i .i64 t39:: .i .i64 t40::uA 14))),[(1,.var 26 (.d 26 nn1) true),(2,.var 26 (.agg 26 [.i .u64 t2_0,.mt,.mt]) true),(1120,.row 67 cells6 true)],[1,2,1120],[],[]⟩
  (Aj 1 (An (jA Wq n 65 [1,1,1,1,1,1]) (rA 65 [26] [.cell 2 26,.tmp 3] [26,29])))
theorem QQ(n m12:Nat)(cells6:List D)(t39 t40:Int)(nn1:D)(t2_0:Int):Wp n (m12+1) cells6 t39 t40 nn1 t2_0 =
 bK (t40<t39) (cK 138 [D.int (Api .i64 (t40+1))] fun Y2 =>
 kK (0≤t40) (kK (t40<(cells6.length:Int)) (Wp n m12 (cells6.set (Apj t40) (qA Y2)) t39 (Api .i64 (t40+1)) nn1 t2_0)))
 (cK 149 [D.sl cells6] fun Y3 =>
 cK 84 [nn1] fun Y4 =>
 cK 90 [qA Y3,D.int ((qA Y4).toInt)] fun Y5 =>
 .ret [qA Y5,D.int 0]):=by kernel_rfl
theorem Afk(n:Nat)(nn0:D):fA Wq n 65 [] [nn0] =
 cK 80 [nn0] fun Y1 =>
 .br (((qB Y1).toInt)!=0) (.ret [D.agg [D.int 0,D.sl [],D.sl []],D.int ((qB Y1).toInt)])
 (.br ((((qA Y1).els).length:Int)!=1) (.ret [D.agg [D.int 0,D.sl [],D.sl []],D.int 4])
 (kK (0≤0) (kK (0<(((qA Y1).els).length:Int)) (bK (((((qA Y1).els).getD (Apj 0) D.nil).toInt)<0) (.ret [D.agg [D.int 0,D.sl [],D.sl []],D.int 3])
 (kK (0≤0) (kK (0<(((qA Y1).els).length:Int)) (bK (2048<((((qA Y1).els).getD (Apj 0) D.nil).toInt)) (.ret [D.agg [D.int 0,D.sl [],D.sl []],D.int 7])
 (kK (0≤0) (kK (0<(((qA Y1).els).length:Int)) (kK (0≤(((qA Y1).els).getD (Apj 0) D.nil).toInt) (kK ((((qA Y1).els).getD (Apj 0) D.nil).toInt≤(((qA Y1).els).getD (Apj 0) D.nil).toInt) (kK ((((qA Y1).els).getD (Apj 0) D.nil).toInt≤Ak) (Wp n n (Apl (Apj ((((qA Y1).els).getD (Apj 0) D.nil).toInt)) (D.agg [D.int 0,D.int 0,D.agg [D.bool false,D.sl [],D.sl []],D.int 0,D.sl []])) ((Apl (Apj ((((qA Y1).els).getD (Apj 0) D.nil).toInt)) (D.agg [D.int 0,D.int 0,D.agg [D.bool false,D.sl [],D.sl []],D.int 0,D.sl []])).length:Int) 0 nn0 0))))))))))))):=by kernel_rfl
def Ws:List (Nat×Orc):=[(7,⟨[(1,none),(2,none),(3,none),(4,some 128),(5,none),(19,some 24),(20,none),(21,none)],[(1,true),(2,false),(3,false)],[(.slot 5,1070,67)]⟩)]
noncomputable def Sa(n m7:Nat)(place4:D)(cells5:List D)(t19:D)(t20 t21:Int)(a1:D)(r2_0 e3:Int):Tree :=
 lA (eA Ws n 67 [1,1,1,1,1,0,1,0,0]) (Al Ws 7) m7 ⟨(.undef:: .ptr 1 []:: .ptr 2 []:: .ptr 3 []:: .d 128 place4:: .row 1070::uA 13++(.d 24 t19:: .i .i64 t20:: .i .i64 t21::uA 19)),[(1,.var 26 (.d 26 a1) true),(2,.var 26 (.agg 26 [.i .u64 r2_0,.mt,.mt]) true),(3,.var 29 (.i .i64 e3) true),(1070,.row 67 cells5 true)],[1,2,3,1070],[(151,[.ptr 2 [],.ptr 3 []])],[]⟩
  (Aj 0 (An (jA Ws n 67 [1,1,1,1,1,1]) (rA 67 [26] [.cell 2 26,.cell 3 29] [26,29])))
theorem QT(n m7:Nat)(place4_c0 place4_c1:D)(cells5:List D)(t19:D)(t20 t21:Int)(a1:D)(r2_0 e3:Int):Sa n (m7+1) (D.fn 216 [.ref 173,.ref 24] [place4_c0,place4_c1]) cells5 t19 t20 t21 a1 r2_0 e3 =
 bK (t21<t20) (kK (0≤t21) (kK (t21<(t19.els.length:Int)) (.call (D.fn 216 [.ref 173,.ref 24] [place4_c0,place4_c1]).fnId (D.fn 216 [.ref 173,.ref 24] [place4_c0,place4_c1]).fnCts ([t19.els.getD (Apj t21) D.nil]++(D.fn 216 [.ref 173,.ref 24] [place4_c0,place4_c1]).fnDs) fun Y2 =>
 .br (((qA Y2).toInt)==t21) (kK (cells5.length + [t19.els.getD (Apj t21) D.nil].length≤Ak) (Sa n m7 (D.fn 216 [.ref 173,.ref 24] [place4_c0,place4_c1]) (cells5++[t19.els.getD (Apj t21) D.nil]) t19 t20 (Api .i64 (t21+1)) a1 r2_0 e3))
 (Sa n m7 (D.fn 216 [.ref 173,.ref 24] [place4_c0,place4_c1]) cells5 t19 t20 (Api .i64 (t21+1)) a1 r2_0 e3))))
 (cK 149 [D.sl cells5] fun Y3 =>
 cK 84 [a1] fun Y4 =>
 cK 90 [qA Y3,D.int ((qA Y4).toInt)] fun Y5 =>
 .ret [qA Y5,D.int 0]):=by kernel_rfl
theorem Afr(n:Nat)(a0:D):fA Ws n 67 [] [a0] =
 bK (1<(((a0.fld 1).els).length:Int)) (.ret [D.agg [D.int 0,D.sl [],D.sl []],D.int 5])
 (cK 152 [a0.fld 2] fun Y1 =>
 Sa n n (qA Y1) [] (a0.fld 2) (((a0.fld 2).els).length:Int) 0 a0 0 0):=by kernel_rfl
def Wo:List (Nat×Orc):=[(7,⟨[(2,none),(3,none),(4,none),(5,none),(6,some 128),(7,none),(25,some 24),(26,none),(27,none)],[(2,true),(3,true),(4,false),(5,false)],[(.slot 7,1070,67)]⟩)]
noncomputable def Pp(n m7:Nat)(place6:D)(cells7:List D)(t25:D)(t26 t27:Int)(a2 b3:D)(r4_0 e5:Int):Tree :=
 lA (eA Wo n 106 [1,1,1,1,1,0,1,0,0]) (Al Wo 7) m7 ⟨(.undef:: .undef:: .ptr 2 []:: .ptr 3 []:: .ptr 4 []:: .ptr 5 []:: .d 128 place6:: .row 1070::uA 17++(.d 24 t25:: .i .i64 t26:: .i .i64 t27::uA 26)),[(2,.var 26 (.d 26 a2) true),(3,.var 26 (.d 26 b3) true),(4,.var 26 (.agg 26 [.i .u64 r4_0,.mt,.mt]) true),(5,.var 29 (.i .i64 e5) true),(1070,.row 67 cells7 true)],[2,3,4,5,1070],[(180,[.ptr 4 [],.ptr 5 []])],[]⟩
  (Aj 0 (An (jA Wo n 106 [1,1,1,1,1,1]) (rA 106 [26,26] [.cell 4 26,.cell 5 29] [26,29])))
theorem QP(n m7:Nat)(place6_c0 place6_c1:D)(cells7:List D)(t25:D)(t26 t27:Int)(a2 b3:D)(r4_0 e5:Int):Pp n (m7+1) (D.fn 216 [.ref 173,.ref 24] [place6_c0,place6_c1]) cells7 t25 t26 t27 a2 b3 r4_0 e5 =
 bK (t27<t26) (kK (0≤t27) (kK (t27<(t25.els.length:Int)) (.call (D.fn 216 [.ref 173,.ref 24] [place6_c0,place6_c1]).fnId (D.fn 216 [.ref 173,.ref 24] [place6_c0,place6_c1]).fnCts ([t25.els.getD (Apj t27) D.nil]++(D.fn 216 [.ref 173,.ref 24] [place6_c0,place6_c1]).fnDs) fun Y2 =>
 bK (((qA Y2).toInt)<0) (cK 138 [D.int (Api .i64 ((((a2.fld 2).els).length:Int)+1))] fun Y3 =>
 kK (0≤t27) (kK (t27<(cells7.length:Int)) (Pp n m7 (D.fn 216 [.ref 173,.ref 24] [place6_c0,place6_c1]) (cells7.set (Apj t27) (qA Y3)) t25 t26 (Api .i64 (t27+1)) a2 b3 r4_0 e5)))
 (cK 138 [D.int (Api .i64 (((qA Y2).toInt)+1))] fun Y4 =>
 kK (0≤t27) (kK (t27<(cells7.length:Int)) (Pp n m7 (D.fn 216 [.ref 173,.ref 24] [place6_c0,place6_c1]) (cells7.set (Apj t27) (qA Y4)) t25 t26 (Api .i64 (t27+1)) a2 b3 r4_0 e5))))))
 (cK 182 [a2,b3] fun Y5 =>
 cK 181 [D.int ((qA Y5).toInt),b3.fld 1,D.sl cells7] fun Y6 =>
 .ret [qA Y6,D.int 0]):=by kernel_rfl
theorem Afi(n:Nat)(a0 b1:D):fA Wo n 106 [] [a0,b1] =
 .br ((((a0.fld 1).els).length:Int)!=1) (.ret [D.agg [D.int 0,D.sl [],D.sl []],D.int 5])
 (cK 152 [a0.fld 2] fun Y1 =>
 kK (0≤(((b1.fld 2).els).length:Int)) (kK ((((b1.fld 2).els).length:Int)≤(((b1.fld 2).els).length:Int)) (kK ((((b1.fld 2).els).length:Int)≤Ak) (Pp n n (qA Y1) (Apl (Apj (((b1.fld 2).els).length:Int)) (D.agg [D.int 0,D.int 0,D.agg [D.bool false,D.sl [],D.sl []],D.int 0,D.sl []])) (b1.fld 2) (((b1.fld 2).els).length:Int) 0 a0 b1 0 0)))):=by kernel_rfl
def Wr:List (Nat×Orc):=[(5,⟨[(2,none),(3,none),(4,none),(5,some 128),(6,none),(19,some 24),(20,none),(21,none)],[(2,true),(3,true),(4,false)],[(.slot 6,1050,67)]⟩)]
noncomputable def Pq(n m5:Nat)(place5:D)(cells6:List D)(t19:D)(t20 t21:Int)(a2 b3:D)(r4_0:Int):Tree :=
 lA (eA Wr n 107 [1,1,1,1,0,1,0,0]) (Al Wr 5) m5 ⟨(.undef:: .undef:: .ptr 2 []:: .ptr 3 []:: .ptr 4 []:: .d 128 place5:: .row 1050::uA 12++(.d 24 t19:: .i .i64 t20:: .i .i64 t21::uA 21)),[(2,.var 26 (.d 26 a2) true),(3,.var 26 (.d 26 b3) true),(4,.var 26 (.agg 26 [.i .u64 r4_0,.mt,.mt]) true),(1050,.row 67 cells6 true)],[2,3,4,1050],[(183,[.ptr 4 []])],[]⟩
  (Aj 0 (An (jA Wr n 107 [1,1,1,1,1]) (rA 107 [26,26] [.cell 4 26] [26])))
theorem QR(n m5:Nat)(place5_c0 place5_c1:D)(cells6:List D)(t19:D)(t20 t21:Int)(a2 b3:D)(r4_0:Int):Pq n (m5+1) (D.fn 216 [.ref 173,.ref 24] [place5_c0,place5_c1]) cells6 t19 t20 t21 a2 b3 r4_0 =
 bK (t21<t20) (kK (0≤t21) (kK (t21<(t19.els.length:Int)) (.call (D.fn 216 [.ref 173,.ref 24] [place5_c0,place5_c1]).fnId (D.fn 216 [.ref 173,.ref 24] [place5_c0,place5_c1]).fnCts ([t19.els.getD (Apj t21) D.nil]++(D.fn 216 [.ref 173,.ref 24] [place5_c0,place5_c1]).fnDs) fun Y2 =>
 bK (0≤((qA Y2).toInt)) (cK 138 [D.int 1] fun Y3 =>
 kK (0≤t21) (kK (t21<(cells6.length:Int)) (Pq n m5 (D.fn 216 [.ref 173,.ref 24] [place5_c0,place5_c1]) (cells6.set (Apj t21) (qA Y3)) t19 t20 (Api .i64 (t21+1)) a2 b3 r4_0)))
 (cK 138 [D.int 0] fun Y4 =>
 kK (0≤t21) (kK (t21<(cells6.length:Int)) (Pq n m5 (D.fn 216 [.ref 173,.ref 24] [place5_c0,place5_c1]) (cells6.set (Apj t21) (qA Y4)) t19 t20 (Api .i64 (t21+1)) a2 b3 r4_0))))))
 (cK 182 [a2,b3] fun Y5 =>
 cK 181 [D.int ((qA Y5).toInt),a2.fld 1,D.sl cells6] fun Y6 =>
 .ret [qA Y6]):=by kernel_rfl
theorem Afm(n:Nat)(a0 b1:D):fA Wr n 107 [] [a0,b1] =
 cK 152 [b1.fld 2] fun Y1 =>
 kK (0≤(((a0.fld 2).els).length:Int)) (kK ((((a0.fld 2).els).length:Int)≤(((a0.fld 2).els).length:Int)) (kK ((((a0.fld 2).els).length:Int)≤Ak) (Pq n n (qA Y1) (Apl (Apj (((a0.fld 2).els).length:Int)) (D.agg [D.int 0,D.int 0,D.agg [D.bool false,D.sl [],D.sl []],D.int 0,D.sl []])) (a0.fld 2) (((a0.fld 2).els).length:Int) 0 a0 b1 0))):=by kernel_rfl
theorem Afp(n:Nat)(a0 b1:D):fA [] n 108 [] [a0,b1] =
 bK (1<(((a0.fld 1).els).length:Int)) (.ret [D.agg [D.int 0,D.sl [],D.sl []],D.int 5])
 (bK (1<(((b1.fld 1).els).length:Int)) (.ret [D.agg [D.int 0,D.sl [],D.sl []],D.int 5])
 (cK 185 [b1.fld 2,a0.fld 2,D.bool false] fun Y1 =>
 bK (2048<(Api .i64 ((((a0.fld 2).els).length:Int)+(((qA Y1).els).length:Int)))) (.ret [D.agg [D.int 0,D.sl [],D.sl []],D.int 7])
 (kK (0≤0) (kK (0≤Api .i64 ((((a0.fld 2).els).length:Int)+(((qA Y1).els).length:Int))) (kK (Api .i64 ((((a0.fld 2).els).length:Int)+(((qA Y1).els).length:Int))≤Ak) (kK ((Apl (Apj 0) (D.agg [D.int 0,D.int 0,D.agg [D.bool false,D.sl [],D.sl []],D.int 0,D.sl []])).length+((a0.fld 2).els).length≤Ak) (kK (((Apl (Apj 0) (D.agg [D.int 0,D.int 0,D.agg [D.bool false,D.sl [],D.sl []],D.int 0,D.sl []]))++((a0.fld 2).els)).length+((qA Y1).els).length≤Ak) (cK 149 [D.sl (((Apl (Apj 0) (D.agg [D.int 0,D.int 0,D.agg [D.bool false,D.sl [],D.sl []],D.int 0,D.sl []]))++((a0.fld 2).els))++((qA Y1).els))] fun Y2 =>
 cK 182 [a0,b1] fun Y3 =>
 cK 90 [qA Y2,D.int ((qA Y3).toInt)] fun Y4 =>
 .ret [qA Y4,D.int 0])))))))):=by kernel_rfl
theorem Afn(n:Nat)(a0 b1 in2:D):fA [] n 109 [] [a0,b1,in2] =
 bK (1<(((a0.fld 1).els).length:Int)) (.ret [D.agg [D.int 0,D.sl [],D.sl []],D.int 5])
 (cK 185 [a0.fld 2,b1.fld 2,D.bool in2.toBool] fun Y1 =>
 cK 149 [qA Y1] fun Y2 =>
 cK 182 [a0,b1] fun Y3 =>
 cK 90 [qA Y2,D.int ((qA Y3).toInt)] fun Y4 =>
 .ret [qA Y4,D.int 0]):=by kernel_rfl
theorem Afw(n:Nat)(l0 s1 cells2:D):fA [] n 181 [] [l0,s1,cells2] =
 kK (s1.els.length≤Ak) (.ret [D.agg [D.int l0.toInt,D.sl s1.els,cells2]]):=by kernel_rfl
theorem Afs(n:Nat)(a0 b1:D):fA [] n 182 [] [a0,b1] =
 cK 84 [a0] fun Y1 =>
 cK 84 [b1] fun Y2 =>
 cK 83 [D.int ((qA Y1).toInt),D.int ((qA Y2).toInt)] fun Y3 =>
 .ret [D.int ((qA Y3).toInt)]:=by kernel_rfl
def Wy:List (Nat×Orc):=[(4,⟨[(2,none),(7,some 128),(8,none),(14,some 24),(15,none),(16,none)],[],[(.slot 8,1040,67)]⟩)]
noncomputable def Sd(n m4:Nat)(in2:Bool)(place7:D)(r8:List D)(t14:D)(t15 t16:Int):Tree :=
 lA (eA Wy n 185 [1,1,1,0,1,0,0]) (Al Wy 4) m4 ⟨(.undef:: .undef:: .b in2::uA 4++(.d 128 place7:: .row 1040::uA 5++(.d 24 t14:: .i .i64 t15:: .i .i64 t16::uA 15))),[(1040,.row 67 r8 true)],[1040],[],[]⟩
  (Aj 0 (An (jA Wy n 185 [1,1,1,1]) (rA 185 [24,24,4] [.tmp 6] [24])))
theorem RC(n m4:Nat)(in2:Bool)(place7_c0 place7_c1:D)(r8:List D)(t14:D)(t15 t16:Int):Sd n (m4+1) in2 (D.fn 216 [.ref 173,.ref 24] [place7_c0,place7_c1]) r8 t14 t15 t16 =
 bK (t16<t15) (kK (0≤t16) (kK (t16<(t14.els.length:Int)) (.call (D.fn 216 [.ref 173,.ref 24] [place7_c0,place7_c1]).fnId (D.fn 216 [.ref 173,.ref 24] [place7_c0,place7_c1]).fnCts ([t14.els.getD (Apj t16) D.nil]++(D.fn 216 [.ref 173,.ref 24] [place7_c0,place7_c1]).fnDs) fun Y2 =>
 .br ((decide (0≤((qA Y2).toInt)))==in2) (kK (r8.length + [t14.els.getD (Apj t16) D.nil].length≤Ak) (Sd n m4 in2 (D.fn 216 [.ref 173,.ref 24] [place7_c0,place7_c1]) (r8++[t14.els.getD (Apj t16) D.nil]) t14 t15 (Api .i64 (t16+1))))
 (Sd n m4 in2 (D.fn 216 [.ref 173,.ref 24] [place7_c0,place7_c1]) r8 t14 t15 (Api .i64 (t16+1))))))
 (.ret [D.sl r8]):=by kernel_rfl
theorem Afx(n:Nat)(l0 others1 in2:D):fA Wy n 185 [] [l0,others1,in2] =
 cK 152 [others1] fun Y1 =>
 Sd n n in2.toBool (qA Y1) [] l0 (l0.els.length:Int) 0:=by kernel_rfl
def Ds:List (Nat×Orc):=[(5,⟨[(0,none),(3,none),(31,some 62),(32,none),(33,none)],[(3,true)],[]⟩),(10,⟨[(0,none),(3,none),(44,some 62),(45,none),(46,none)],[(3,true)],[]⟩),(15,⟨[(0,none),(56,some 65),(57,none),(58,none)],[],[]⟩),(18,⟨[(0,none),(10,none),(56,some 65),(57,none),(58,none),(63,some 23),(64,none),(65,none)],[(10,true)],[]⟩),(23,⟨[(0,none),(56,some 65),(57,none),(58,none),(75,some 24),(76,none),(77,none)],[],[]⟩)]
def Ny:List Nat:=[22,67]
def Nz:List ResultVar:=[.tmp 4]
noncomputable def Wx(n m15 m23:Nat)(k0:Int)(t56:D)(t57 t58:Int)(t75:D)(t76 t77:Int):Tree :=
 lA (eA Ds n 215 [1,1,1,1,1,0,1,0,0,1,1,0,0,1,1,1,0,0]) (Al Ds 23) m23 ⟨(.i .u64 k0::uA 55++(.d 65 t56:: .i .i64 t57:: .i .i64 t58::uA 16++(.d 24 t75:: .i .i64 t76:: .i .i64 t77::uA 9))),[],[],[],[]⟩
  (Aj 8 (Aj 5 (An (jA Ds n 215 [1,1,1,1,1,0,1,0,0,1,1,1]) (Fs Tryz.prog md (Al Ds 15) (fun s1=>lA (eA Ds n 215 [1,1,1,1,1,0,1,0,0]) (Al Ds 15) m15 s1 (Aj 4 (An (jA Ds n 215 [1,1,1,1,1,1]) (rA 215 Ny Nz [22])))) (Aj 4 (An (jA Ds n 215 [1,1,1,1,1,1]) (rA 215 Ny Nz [22])))))))
noncomputable def Ww(n m15 m18:Nat)(k0:Int)(t56:D)(t57 t58:Int)(t63:D)(t64 t65:Int)(a10:D):Tree :=
 lA (eA Ds n 215 [1,1,1,1,1,0,1,0,0,1,1,0,0,1,0,1,0,0]) (Al Ds 18) m18 ⟨(.i .u64 k0::uA 9++(.ptr 10 []::uA 45++(.d 65 t56:: .i .i64 t57:: .i .i64 t58::uA 4++(.d 23 t63:: .i .i64 t64:: .i .i64 t65::uA 21)))),[(10,.var 26 (.d 26 a10) true)],[10],[],[]⟩
  (Aj 6 (An (jA Ds n 215 [1,1,1,1,1,0,1,0,0,1,1,0,0,1,1]) (Aj 5 (An (jA Ds n 215 [1,1,1,1,1,0,1,0,0,1,1,1]) (Fs Tryz.prog md (Al Ds 15) (fun s1=>lA (eA Ds n 215 [1,1,1,1,1,0,1,0,0]) (Al Ds 15) m15 s1 (Aj 4 (An (jA Ds n 215 [1,1,1,1,1,1]) (rA 215 Ny Nz [22])))) (Aj 4 (An (jA Ds n 215 [1,1,1,1,1,1]) (rA 215 Ny Nz [22]))))))))
noncomputable def Sc(n m15:Nat)(k0:Int)(t56:D)(t57 t58:Int):Tree :=
 lA (eA Ds n 215 [1,1,1,1,1,0,1,0,0]) (Al Ds 15) m15 ⟨(.i .u64 k0::uA 55++(.d 65 t56:: .i .i64 t57:: .i .i64 t58::uA 28)),[],[],[],[]⟩
  (Aj 4 (An (jA Ds n 215 [1,1,1,1,1,1]) (rA 215 Ny Nz [22])))
noncomputable def Sb(n m10:Nat)(k0:Int)(t44:D)(t45 t46:Int)(c3:D):Tree :=
 lA (eA Ds n 215 [1,1,1,1,0,1,0,0]) (Al Ds 10) m10 ⟨(.i .u64 k0:: .undef:: .undef:: .ptr 3 []::uA 40++(.d 62 t44:: .i .i64 t45:: .i .i64 t46::uA 40)),[(3,.var 67 (.d 67 c3) true)],[3],[],[]⟩
  (Aj 2 (An (jA Ds n 215 [1,1,1,1,1]) (rA 215 Ny Nz [22])))
noncomputable def Pr(n m5:Nat)(k0:Int)(t31:D)(t32 t33:Int)(c3:D):Tree :=
 lA (eA Ds n 215 [1,1,1,0,1,0,0]) (Al Ds 5) m5 ⟨(.i .u64 k0:: .undef:: .undef:: .ptr 3 []::uA 27++(.d 62 t31:: .i .i64 t32:: .i .i64 t33::uA 53)),[(3,.var 67 (.d 67 c3) true)],[3],[],[]⟩
  (Aj 0 (An (jA Ds n 215 [1,1,1,1]) (rA 215 Ny Nz [22])))
theorem QZ(n m15 m23:Nat)(k0:Int)(t56:D)(t57 t58:Int)(t75:D)(t76 t77:Int):Wx n m15 (m23+1) k0 t56 t57 t58 t75 t76 t77 =
 bK (t77<t76) (kK (0≤t77) (kK (t77<(t75.els.length:Int)) (cK 215 [D.int k0,t75.els.getD (Apj t77) D.nil] fun Y7 =>
 Wx n m15 m23 ((qA Y7).toInt) t56 t57 t58 t75 t76 (Api .i64 (t77+1)))))
 (Sc n m15 k0 t56 t57 (Api .i64 (t58+1))):=by kernel_rfl
theorem QY(n m15 m18:Nat)(k0:Int)(t56:D)(t57 t58:Int)(t63:D)(t64 t65:Int)(a10:D):Ww n m15 (m18+1) k0 t56 t57 t58 t63 t64 t65 a10 =
 bK (t65<t64) (kK (0≤t65) (kK (t65<(t63.els.length:Int)) (cK 249 [D.int k0,D.int (Api .u64 ((t63.els.getD (Apj t65) D.nil).toInt))] fun Y6 =>
 Ww n m15 m18 ((qA Y6).toInt) t56 t57 t58 t63 t64 (Api .i64 (t65+1)) a10)))
 (Wx n m15 n k0 t56 t57 t58 (a10.fld 2) (((a10.fld 2).els).length:Int) 0):=by kernel_rfl
theorem QX(n m15:Nat)(k0:Int)(t56:D)(t57 t58:Int):Sc n (m15+1) k0 t56 t57 t58 =
 bK (t58<t57) (kK (0≤t58) (kK (t58<(t56.els.length:Int)) (Ww n m15 n k0 t56 t57 t58 ((t56.els.getD (Apj t58) D.nil).fld 1) ((((t56.els.getD (Apj t58) D.nil).fld 1).els).length:Int) 0 (t56.els.getD (Apj t58) D.nil))))
 (.ret [D.int k0]):=by kernel_rfl
theorem QV(n m10:Nat)(k0:Int)(t44:D)(t45 t46:Int)(c3:D):Sb n (m10+1) k0 t44 t45 t46 c3 =
 bK (t46<t45) (kK (0≤t46) (kK (t46<(t44.els.length:Int)) (cK 249 [D.int k0,D.int (Api .u64 ((t44.els.getD (Apj t46) D.nil).toInt))] fun Y5 =>
 Sb n m10 ((qA Y5).toInt) t44 t45 (Api .i64 (t46+1)) c3)))
 (Sc n n k0 (c3.fld 4) (((c3.fld 4).els).length:Int) 0):=by kernel_rfl
theorem RA(n m5:Nat)(k0:Int)(t31:D)(t32 t33:Int)(c3:D):Pr n (m5+1) k0 t31 t32 t33 c3 =
 bK (t33<t32) (kK (0≤t33) (kK (t33<(t31.els.length:Int)) (cK 249 [D.int k0,D.int (Api .u64 ((t31.els.getD (Apj t33) D.nil).toInt))] fun Y4 =>
 Pr n m5 ((qA Y4).toInt) t31 t32 (Api .i64 (t33+1)) c3)))
 (Sb n n k0 ((c3.fld 2).fld 2) ((((c3.fld 2).fld 2).els).length:Int) 0 c3):=by kernel_rfl
theorem Afu(n:Nat)(k0 c1:D):fA Ds n 215 [] [k0,c1] =
 cK 249 [D.int k0.toInt,D.int (Api .u64 ((c1.fld 1).toInt))] fun Y1 =>
 cK 249 [D.int ((qA Y1).toInt),D.int (Api .u64 ((c1.fld 3).toInt))] fun Y2 =>
 .br (((c1.fld 2).fld 0).toBool) (cK 249 [D.int ((qA Y2).toInt),D.int 1] fun Y3 =>
 Pr n n ((qA Y3).toInt) ((c1.fld 2).fld 1) ((((c1.fld 2).fld 1).els).length:Int) 0 c1)
 (Pr n n ((qA Y2).toInt) ((c1.fld 2).fld 1) ((((c1.fld 2).fld 1).els).length:Int) 0 c1):=by kernel_rfl
def Wv:List (Nat×Orc):=[(3,⟨[(2,none),(5,none),(13,some 23),(14,none),(15,none)],[(5,true)],[]⟩)]
noncomputable def Wu(n m3:Nat)(t2 t13:D)(t14 t15:Int)(alone5:D):Tree :=
 lA (eA Wv n 216 [1,1,0,1,0,0]) (Al Wv 3) m3 ⟨(.undef:: .undef:: .at_ 24 t2:: .undef:: .undef:: .ptr 5 []::uA 7++(.d 23 t13:: .i .i64 t14:: .i .i64 t15::uA 12)),[(5,.var 26 (.d 26 alone5) true)],[5],[],[]⟩
  (Aj 0 (An (jA Wv n 216 [1,1,1]) (rA 216 [67] [.tmp 4] [3])))
theorem QU(n m3:Nat)(t2 t13:D)(t14 t15:Int)(alone5:D):Wu n (m3+1) t2 t13 t14 t15 alone5 =
 bK (t15<t14) (kK (0≤t15) (kK (t15<(t13.els.length:Int)) (kK (0≤(t13.els.getD (Apj t15) D.nil).toInt) (kK ((t13.els.getD (Apj t15) D.nil).toInt<(t2.els.length:Int)) (cK 178 [t2.els.getD (Apj ((t13.els.getD (Apj t15) D.nil).toInt)) D.nil] fun Y3 =>
 cK 179 [alone5,qA Y3] fun Y4 =>
 .br ((qA Y4).toBool) (.ret [D.int ((t13.els.getD (Apj t15) D.nil).toInt)])
 (Wu n m3 t2 t13 t14 (Api .i64 (t15+1)) alone5))))))
 (.ret [D.int (-1)]):=by kernel_rfl
theorem Aft(n:Nat)(c0 c1 c2:D):fA Wv n 216 [.ref 173,.ref 24] [c0,c1,c2] =
 cK 178 [c0] fun Y1 =>
 cK 215 [D.int 0,c0] fun Y2 =>
 Wu n n c2.unref (D.sl ((c1.unref.grpI ((qA Y2).toInt)).map D.int)) (((c1.unref.grpI ((qA Y2).toInt)).map D.int).length:Int) 0 (qA Y1):=by kernel_rfl
theorem Afv(n:Nat)(k0 nn1:D):fA [] n 249 [] [k0,nn1] =
 kK (0≤29) (.ret [D.int (Br .xor .u64 (Api .u64 ((Br .xor .u64 k0.toInt nn1.toInt)*11400714819323198485)) (Aqd (Api .u64 ((Br .xor .u64 k0.toInt nn1.toInt)*11400714819323198485)) (2 ^ (min (Apj 29) (Apv .u64)))))]):=by kernel_rfl
def wU(x:Int):Int:=Api .u64 x
def F6(k n:Int):Int:=Br .xor .u64 (Api .u64 ((Br .xor .u64 k n)*11400714819323198485)) (Aqd (Api .u64 ((Br .xor .u64 k n)*11400714819323198485)) (2 ^ (min (Apj 29) (Apv .u64))))
theorem P9(k n:Int):Sp 249 [.int k,.int n] [.int (F6 k n)]:=Af 0 (Afv _ _ _) (Ay (by decide) (Ac rfl))
def Jt(k:Int)(l:List Aq):Int:=l.foldl (fun k x=>F6 k (wU (x.toNat:Int))) k
def IJ(k:Int)(l:List Int):Int:=l.foldl (fun k x=>F6 k (wU x)) k
mutual
def Ca:Int→CellF Arr→Int
 | k,⟨_,kd,n,c,inn⟩=>Sx (Jt (Jt (if n.neg then F6 (F6 (F6 k (wU kd)) (wU c)) 1 else F6 (F6 k (wU kd)) (wU c)) n.top) n.bot) inn
def Sx:Int→List Arr→Int
 | k,[]=>k
 | k,a::as_=>Sx (F5 k a) as_
def F5:Int→Arr→Int
 | k,.mk _ sh cs=>Sy (IJ k sh) cs
def Sy:Int→List (CellF Arr)→Int
 | k,[]=>k
 | k,c::cs=>Sy (Ca k c) cs
end
theorem TW : ∀ (as_:List Arr) (k:Int),Sx k as_=as_.foldl F5 k
 | [],k=>by rw[Sx];rfl
 | a::as_,k=>by rw[Sx,TW as_];rfl
theorem TZ : ∀ (cs:List Cell) (k:Int),Sy k cs=cs.foldl Ca k
 | [],k=>by rw[Sy];rfl
 | c::cs,k=>by rw[Sy,TZ cs];rfl
theorem Xu(k:Int)(a:Arr):F5 k a=a.cells.foldl Ca (IJ k a.shape):=by cases a;rw[F5,TZ];rfl
theorem P5(k:Int)(c:Cell):Ca k c=c.inn.foldl F5 (Jt (Jt (if c.n.neg then F6 (F6 (F6 k (wU c.kind)) (wU c.c)) 1 else F6 (F6 k (wU c.kind)) (wU c.c)) c.n.top) c.n.bot):=by cases c;rw[Ca,TW]
theorem W3{α:Type}{f:Int→α→Int}{r:α→α} : ∀ {l:List α} {k:Int},(∀ x∈l,∀ k,f k (r x)=f k x)→(l.map r).foldl f k=l.foldl f k
 | [],_,_=>rfl
 | x::xs,k,h=>by
  simp only[Ap9,List.foldl_cons,h x (by simp)]
  exact W3 (fun y hy=>h y (Aqq _ hy))
theorem AgK(g:At→At)(a:Arr) : ∀ k,F5 k (D6 g a)=F5 k a:=by
 induction a using Arr.ind with
 | h s sh cs IH =>
  intro k
  rw[Xu,Xu,Jz]
  simp only[Arr.cells_mk,Arr.shape_mk]
  refine W3 (fun c hc k=> ?_)
  rw[P5,P5,M8]
  exact W3 (fun x hx k=>IH c hc x hx k)
theorem TY(g:At→At)(c:Cell)(k:Int):Ca k (Dx g c)=Ca k c:=by
 rw[P5,P5,M8]
 exact W3 (fun x _ k=>AgK g x k)
noncomputable def In(x y:Cell):Bool:=Kg (Dx (fun _=>0) x) (Dx (fun _=>0) y)
theorem Lw{x y:Cell} : In x y=true↔Dx (fun _=>0) x=Dx (fun _=>0) y:=Pk
theorem AlY(x:Cell):In x x=true:=AeR _
theorem AlW(x y:Cell):In x y=In y x:=by
 cases h:In y x with
 | true=>exact Lw.2 (Lw.1 h).symm
 | false =>
  cases h2:In x y with
  | false=>rfl
  | true=>rw[Lw.2 (Lw.1 h2).symm]at h;cases h
theorem AlX{x y:Cell}(h:In x y=true)(k:Int):Ca k x=Ca k y:=by
 rw[← TY (fun _=>0) x,← TY (fun _=>0) y,Lw.1 h]
theorem AgO(x y:Cell):Kq (Fg x) (Fg y)=In x y:=by
 cases h:In x y with
 | true=>exact Mh.2 (by unfold Ai Fg;rw[Jz,Jz];simp only[Arr.cells_mk,Arr.s_mk,Arr.shape_mk,Ap9,List.map_nil,Lw.1 h])
 | false =>
  cases h2:Kq (Fg x) (Fg y) with
  | false=>rfl
  | true =>
   have:=Mh.1 h2
   unfold Ai Fg at this
   rw[Jz,Jz,ED]at this
   have h3:=this.2.2
   simp only[Arr.cells_mk,Ap9,List.map_nil,List.cons.injEq,and_true]at h3
   rw[Lw.2 h3]at h;cases h
noncomputable def Dl:List Cell→Cell→Nat→Int
 | [],_,_=> -1
 | x::xs,c,k=>if In x c then (k:Int) else Dl xs c (k+1)
theorem XE : ∀ (l:List Cell) (c:Cell) (k:Nat),Dl l c k = -1∨((k:Int)≤Dl l c k∧Dl l c k<(k+l.length:Nat))
 | [],c,k=> .inl rfl
 | x::xs,c,k=>by
  simp only[Dl]
  split
  · right;simp only[App];omega
  · rcases XE xs c (k+1) with h | h
    · exact .inl h
    · right;simp only[App];omega
def D5:List Cell→Int→Nat→List Int
 | [],_,_=>[]
 | x::xs,n,k=>if Ca 0 x=n then (k:Int)::D5 xs n (k+1) else D5 xs n (k+1)
theorem SC : ∀ (l:List Cell) (n:Int) (k:Nat),(∀ j∈D5 l n k,(k:Int)≤j∧j<(k+l.length:Nat))∧(D5 l n k).length≤l.length
 | [],n,k=>by simp[D5]
 | x::xs,n,k=>by
  obtain ⟨h1,h2⟩:=SC xs n (k+1)
  simp only[D5]
  split
  · refine ⟨fun j hj=> ?_,by simp only[App];omega⟩
    simp only[App]
    rcases Ap4.1 hj with rfl | hj
    · omega
    · have:=h1 j hj;omega
  · refine ⟨fun j hj=> ?_,by simp only[App];omega⟩
    simp only[App]
    have:=h1 j hj;omega
noncomputable def Si(l:List Cell)(c:Cell):List Int→Int
 | []=> -1
 | j::js=>if In c (l.getD j.toNat Cell.none) then j else Si l c js
theorem RI(l:List Cell)(c:Cell) : ∀ (xs:List Cell) (k:Nat),l.drop k=xs→Si l c (D5 xs (Ca 0 c) k)=Dl xs c k
 | [],k,_=>rfl
 | x::xs,k,h=>by
  obtain ⟨h1,h2,h3⟩:=By h
  have ih:=RI l c xs (k+1) h3
  have hg:l.getD k Cell.none=x:=by rw[Apn,h2];rfl
  simp only[D5,Dl]
  by_cases hm:Ca 0 x=Ca 0 c
  · rw[if_pos hm]
    simp only[Si,Apr,hg]
    rw[AlW c x,ih]
  · rw[if_neg hm,if_neg (fun hs=>hm (AlX hs 0)),ih]
theorem UA : ∀ (d:Nat) (c:Cell) (k:Int),SmlC d c→Sp 215 [.int k,dC c] [.int (Ca k c)]:=by
 suffices key : ∀ (d:Nat),(∀ e,d=e+1→∀ (c:Cell) (k:Int),SmlC e c→Sp 215 [.int k,dC c] [.int (Ca k c)])→∀ (c:Cell) (k:Int),SmlC d c→Sp 215 [.int k,dC c] [.int (Ca k c)] by
   intro d
   induction d with
   | zero=>exact key 0 (fun e he=>by omega)
   | succ d ih=>exact key (d+1) (fun e he=>by
          have:e=d:=by omega
          subst this;exact ih)
 intro d IH c k hc
 obtain ⟨c1,c2,c3,c4⟩:=hc
 rw[P5]
 have inn : ∀ k0:Int,Tw (Sc 1048577 1048577 k0 (.sl (c.inn.map dA)) (c.inn.length:Int) 0) [.int (c.inn.foldl F5 k0)]:=by
   intro k0
   have key:=B3 c.inn (fun m k (s:Int)=>Sc 1048577 m s (.sl (c.inn.map dA)) (c.inn.length:Int) (k:Int)) (fun rest s=>[.int (rest.foldl F5 s)]) (fun _ _=>True)
    (fun m k s hk _=>by
     simp only[QX]
     exact Ar (Ac rfl))
    (fun m k s x rest hdr _ ih=>by
     obtain ⟨h1,h2,h3⟩:=By hdr
     have hx:=c4 x (Apq h2)
     obtain ⟨e,rfl⟩:=hx.succ
     have hxs:=hx.1
     have hxc:=hx.2.1
     simp only[QX,Ah,Au h2]
     refine Ad (Ad (Ad ?_))
     have key2:=B3 x.shape (fun m' j (s:Int)=>Ww 1048577 m m' s (.sl (c.inn.map dA)) (c.inn.length:Int) (k:Int) (dI x.shape) (x.shape.length:Int) (j:Int) (dA x)) (fun rest' s=>[.int (rest.foldl F5 (x.cells.foldl Ca (IJ s rest')))]) (fun _ _=>True)
      (fun m' j s hj _=>by
       simp only[QY,Ah]
       refine Ar ?_
       have key3:=B3 x.cells (fun m'' i (s:Int)=>Wx 1048577 m m'' s (.sl (c.inn.map dA)) (c.inn.length:Int) (k:Int) (.sl (x.cells.map dC)) (x.cells.length:Int) (i:Int)) (fun rest'' s=>[.int (rest.foldl F5 (rest''.foldl Ca s))]) (fun _ _=>True)
        (fun m'' i s hi _=>by
         simp only[QZ,Bh k]
         exact Ar (ih s trivial))
        (fun m'' i s y rest'' hdr'' _ ih''=>by
         obtain ⟨g1,g2,g3⟩:=By hdr''
         simp only[QZ,Ah,Au g2,Bh i]
         exact Ad (Ad (Ad (Aa (IH e rfl y s (hx.cell y (Apq g2))) (ih'' _ trivial)))))
        1048577 0 s (by omega) (by omega) trivial
       exact key3)
      (fun m' j s y rest' hdr' _ ih'=>by
       obtain ⟨g1,g2,g3⟩:=By hdr'
       simp only[QY,Ah,Au g2,Bh j]
       exact Ad (Ad (Ad (Aa (P9 s (wU y)) (ih' _ trivial)))))
      1048577 0 s (by omega) (by omega) trivial
     rw[List.foldl_cons,Xu]
     exact key2)
    1048577 0 k0 (by omega) (by omega) trivial
   exact key
 have bot : ∀ k0:Int,Tw (Sb 1048577 1048577 k0 (dL c.n.bot) (c.n.bot.length:Int) 0 (dC c)) [.int (c.inn.foldl F5 (Jt k0 c.n.bot))]:=by
   intro k0
   have key:=B3 c.n.bot (fun m k (s:Int)=>Sb 1048577 m s (dL c.n.bot) (c.n.bot.length:Int) (k:Int) (dC c)) (fun rest s=>[.int (c.inn.foldl F5 (Jt s rest))]) (fun _ _=>True)
    (fun m k s hk _=>by
     simp only[QV,Ah]
     exact Ar (inn s))
    (fun m k s x rest hdr _ ih=>by
     obtain ⟨h1,h2,h3⟩:=By hdr
     simp only[QV,B5,Apm,Apr,Au h2,Ej,Bh k]
     exact Ad (Ad (Ad (Aa (P9 s (wU (x.toNat:Int))) (ih _ trivial)))))
    1048577 0 k0 (by omega) (by omega) trivial
   exact key
 have top : ∀ k0:Int,Tw (Pr 1048577 1048577 k0 (dL c.n.top) (c.n.top.length:Int) 0 (dC c)) [.int (c.inn.foldl F5 (Jt (Jt k0 c.n.top) c.n.bot))]:=by
   intro k0
   have key:=B3 c.n.top (fun m k (s:Int)=>Pr 1048577 m s (dL c.n.top) (c.n.top.length:Int) (k:Int) (dC c)) (fun rest s=>[.int (c.inn.foldl F5 (Jt (Jt s rest) c.n.bot))]) (fun _ _=>True)
    (fun m k s hk _=>by
     simp only[RA,Ah]
     exact Ar (bot s))
    (fun m k s x rest hdr _ ih=>by
     obtain ⟨h1,h2,h3⟩:=By hdr
     simp only[RA,B5,Apm,Apr,Au h2,Ej,Bh k]
     exact Ad (Ad (Ad (Aa (P9 s (wU (x.toNat:Int))) (ih _ trivial)))))
    1048577 0 k0 (by omega) (by omega) trivial
   exact key
 refine Af 1048577 (Afu _ _ _) ?_
 simp only[Ah]
 refine Aa (P9 k (wU c.kind)) ?_
 simp only[Ag,Ao]
 refine Aa (P9 (F6 k (wU c.kind)) (wU c.c)) ?_
 simp only[Ag,Ao]
 refine Cl (fun h=> ?_) (fun h=> ?_)
 · have hn:c.n.neg=true:=by simpa using h
   rw[if_pos hn]
   exact Aa (P9 _ 1) (top _)
 · have hn : ¬ c.n.neg=true:=by simpa using h
   rw[if_neg hn]
   exact top _
abbrev N3(g:List (Int×List Int))(l:List Cell):D:=D.fn 216 [.ref 173,.ref 24] [.ref (.mp g),.ref (.sl (l.map dC))]
theorem Wz{d e:Nat}(g:List (Int×List Int))(l:List Cell)(c:Cell)(hg : ∀ n,H9 g n=D5 l n 0)(hc:SmlC d c)(hl : ∀ x∈l,SmlC e x)(hlen:l.length≤1048576):Ec Tryz.prog md 216 [.ref 173,.ref 24] [dC c,.ref (.mp g),.ref (.sl (l.map dC))] [.int (Dl l c 0)]:=by
 refine Af 1048577 (Aft _ _ _ _) (Aa (Rt c hc) (Aa (UA d c 0 hc) ?_))
 have hgm:(D.mp g).grpI (Ca 0 c)=D5 l (Ca 0 c) 0:=hg _
 simp only[DE,Ag,Ao,hgm]
 have hr:=SC l (Ca 0 c) 0
 have hp:=RI l c l 0 rfl
 generalize D5 l (Ca 0 c) 0=js at *
 have key:=B3 js (fun m k (_:Unit)=>Wu 1048577 m (.sl (l.map dC)) (.sl (js.map D.int)) (((js.map D.int).length:Nat):Int) (k:Int) (dA (Fg c))) (fun rest _=>[.int (Si l c rest)]) (fun _ _=>True)
  (fun m k s hk _=>by
   simp only[QU,Apm]
   exact Ar (Ac rfl))
  (fun m k s j rest hdr _ ih=>by
   obtain ⟨h1,h2,h3⟩:=By hdr
   have hj:=hr.1 j (Apq h2)
   obtain ⟨J,rfl⟩ : ∃ J:Nat,j=(J:Int):=⟨j.toNat,by omega⟩
   have hJ:J<l.length:=by omega
   have hcell:(l.map dC).getD J D.nil=dC (l.getD J Cell.none):=by
    rw[Au (Apk hJ),Apn,Apk hJ];rfl
   have hmem:l.getD J Cell.none∈l:=by
    rw[Apn,Apk hJ];exact Aql hJ
   simp only[QU,Ah,Au h2,hcell,Bh k]
   have hm:=NS (d:=d+1) (Fg c) (Fg (l.getD J Cell.none)) (Sml.of (by simp[Fg]) (by simp[Fg]) (by simp[Fg]) (fun x hx=>by simp[Fg]at hx;subst hx;exact hc))
   rw[AgO]at hm
   refine Ad (Ad (Ad (Ad (Ad (Aa (Rt _ (hl _ hmem)) (Aa hm ?_))))))
   simp only[Ag,Bc,Si,Apr]
   refine Cl (fun h=>Ac (by rw[if_pos h])) (fun h=> ?_)
   rw[if_neg (by rw[h];decide)]
   have:=ih () trivial
   simp only[Apm]at this
   exact this)
  1048577 0 () (by omega) (by omega) trivial
 rw[List.drop_zero,hp]at key
 exact key
def Nm:Prop:=∀ (e:Nat) (l:List Cell),(∀ x∈l,SmlC e x)→l.length≤2048→∃ g,(∀ n,H9 g n=D5 l n 0)∧Sp 152 [.sl (l.map dC)] [N3 g l]
def Hx(a b:Arr):At:=Az a|||Az b
theorem XD{l:List Cell}{c:Cell}(h:l.length≤2048) : -1≤Dl l c 0∧Dl l c 0<(l.length:Int):=by
 have:=XE l c 0
 omega
noncomputable def Gu(l:List Cell)(c:Cell):Cell:=Bf (if Dl l c 0<0 then (l.length:Int)+1 else Dl l c 0+1)
noncomputable def Ia(a b:Arr):Arr×Int:=if a.shape.length=1 then (.mk (Hx a b) b.shape (b.cells.map (Gu a.cells)),0) else (.none,5)
noncomputable def Ie(l:List Cell)(c:Cell):Cell:=Bf (if 0≤Dl l c 0 then 1 else 0)
noncomputable def Lm(a b:Arr):Arr:= .mk (Hx a b) a.shape (a.cells.map (Ie b.cells))
noncomputable def Gn(l:List Cell):List Cell→Nat→List Cell
 | [],_=>[]
 | c::cs,k=>if Dl (l.take k) c 0<0 then c::Gn l cs (k+1) else Gn l cs (k+1)
def Ib(s:At)(l:List Cell):Arr:= .mk s [(l.length:Int)] l
noncomputable def Hv(a:Arr):Arr×Int:=if 1<a.shape.length then (.none,5) else (Ib (Az a) (Gn a.cells a.cells 0),0)
noncomputable def F_(l others:List Cell)(in_:Bool):List Cell:=l.filter (fun c=>decide (0≤Dl others c 0)==in_)
noncomputable def G9(a b:Arr)(in_:Bool):Arr×Int:=if 1<a.shape.length then (.none,5) else (Ib (Hx a b) (F_ a.cells b.cells in_),0)
noncomputable def Hu(a b:Arr):Arr×Int:=if 1<a.shape.length then (.none,5) else if 1<b.shape.length then (.none,5) else if 2048<a.cells.length+(F_ b.cells a.cells false).length then (.none,7) else (Ib (Hx a b) (a.cells++F_ b.cells a.cells false),0)
def It(k:Nat):List Int:=(Aqj k).map (fun (i:Nat)=>(i:Int)+1)
def Fd(n:Arr):Arr×Int:=if (A9 n).2=0 then (match (A9 n).1 with
 | [k]=>if k<0 then (.none,3) else if 2048<k then (.none,7) else (C3 (It k.toNat) (Az n),0)
 | _=>(.none,4)) else (.none,(A9 n).2)
theorem JZ(l:List Cell)(s:At):Cw (K6 l) s=Ib s l:=by simp[Cw,K6,Ib]
theorem LG{α:Type}{f:α→D}{z:D}(pre:List α)(x:α)(k:Nat){i:Nat}(hi:i=pre.length):((pre.map f)++Apl (k+1) z).set i (f x)=((pre++[x]).map f)++Apl k z:=by
 subst hi;exact Nd pre x k
theorem Wt(a b:Arr)(ha:Fits a)(hb:Fits b):Sp 182 [dA a,dA b] [dB (Hx a b)]:=by
 refine Af 0 (Afs _ _ _) (Aa (Fi a ha) (Aa (Fi b hb) ?_))
 simp only[Ah]
 exact Aa (Hk _ _) (Ac rfl)
theorem RB(s:At)(sh:List Int)(cs:List Cell)(h:sh.length≤1048576):Sp 181 [dB s,dI sh,.sl (cs.map dC)] [dA (.mk s sh cs)]:=by
 refine Af 0 (Afw _ _ _ _) (Ay (by simp only[Cf,Apm,Ak];omega) (Ac ?_))
 rw[D4];rfl
theorem Afh(hF:Nm){d:Nat}(a b:Arr)(ha:Sml (d+1) a)(hb:Sml (d+1) b)(la:a.cells.length≤2048)(lb:b.cells.length≤2048):Sp 106 [dA a,dA b] [dA (Ia a b).1,.int (Ia a b).2]:=by
 refine Af 4096 (Afi _ _ _) ?_
 unfold Ia
 simp only[Ah,C9,H2]
 refine Ae (fun h=>Ac (by rw[if_neg (by omega)])) (fun h=> ?_)
 rw[if_pos (by omega)]
 obtain ⟨g,hg,hsp⟩:=hF d a.cells ha.cell la
 refine Aa hsp (Ad (Ad (Ay (by simp only[Ak];omega) ?_)))
 have key:=B3 b.cells (fun m k (cs:List D)=>Pp 4096 m (N3 g a.cells) cs (.sl (b.cells.map dC)) (b.cells.length:Int) (k:Int) (dA a) (dA b) 0 0) (fun _ _=>[dA (.mk (Hx a b) b.shape (b.cells.map (Gu a.cells))),.int 0])
  (fun rest cs=>∃ pre:List Cell,b.cells=pre++rest∧cs=(pre.map (Gu a.cells)).map dC++Apl rest.length (dC Cell.none))
  (fun m k cs hk hI=>by
   obtain ⟨pre,h1,rfl⟩:=hI
   rw[Ap6]at h1
   simp only[QP,Ah]
   refine Ar (Aa (Wt a b ha.fits hb.fits) ?_)
   simp only[Ah,Ap1,List.replicate_zero,Ap6]
   exact Aa (RB (Hx a b) b.shape _ hb.1) (Ac (by rw[h1];rfl)))
  (fun m k cs c rest hdr hI ih=>by
   obtain ⟨h1,h2,h3⟩:=By hdr
   obtain ⟨pre,hp,rfl⟩:=hI
   have hk:k=(pre.map (Gu a.cells)).length:=by
     have:=congrArg List.length hdr
     rw[hp]at this h1
     simp at this h1 ⊢; omega
   have hcl:((pre.map (Gu a.cells)).map dC++Apl (rest.length+1) (dC Cell.none)).length=b.cells.length:=by rw[hp];simp
   have hpl:=XD (c:=c) la
   have nxt:Tw (Pp 4096 m (N3 g a.cells) (((pre.map (Gu a.cells)).map dC++Apl (rest.length+1) (dC Cell.none)).set k (dC (Gu a.cells c))) (.sl (b.cells.map dC)) (b.cells.length:Int) ((k+1:Nat):Int) (dA a) (dA b) 0 0) [dA (.mk (Hx a b) b.shape (b.cells.map (Gu a.cells))),.int 0]:=by
     rw[LG (f:=dC) (z:=dC Cell.none) _ _ _ hk]
     exact ih _ ⟨pre++[c],by rw[hp];simp,by simp⟩
   simp only[QP,Ah,Au h2,Bh k,H6,H4,H5,List.singleton_append,App,hcl]
   refine Ad (Ad (Ad (Aa (Wz g a.cells c hg (hb.cell c (Apq h2)) ha.cell (by omega)) ?_)))
   simp only[Ag,Ao]
   refine Ae (fun hlt=> ?_) (fun hlt=> ?_)
   · have w1:Api .i64 ((a.cells.length:Int)+1)=(a.cells.length:Int)+1:=Aw (by omega) (by omega)
     have e1:Gu a.cells c=Bf ((a.cells.length:Int)+1):=by unfold Gu;rw[if_pos hlt]
     rw[w1]
     rw[e1]at nxt
     refine Aa (Jj _ (Dn (by omega) (by omega))) (Ad (Ad nxt))
   · have w1:Api .i64 (Dl a.cells c 0+1)=Dl a.cells c 0+1:=Aw (by omega) (by omega)
     have e1:Gu a.cells c=Bf (Dl a.cells c 0+1):=by unfold Gu;rw[if_neg hlt]
     rw[w1]
     rw[e1]at nxt
     exact Aa (Jj _ (Dn (by omega) (by omega))) (Ad (Ad nxt)))
  4096 0 (Apl b.cells.length (dC Cell.none)) (by omega) (by omega) ⟨[],by simp,by simp⟩
 exact key
theorem Afl(hF:Nm){d:Nat}(a b:Arr)(ha:Sml (d+1) a)(hb:Sml (d+1) b)(la:a.cells.length≤2048)(lb:b.cells.length≤2048):Sp 107 [dA a,dA b] [dA (Lm a b)]:=by
 refine Af 4096 (Afm _ _ _) ?_
 simp only[Ah,C9,H2]
 obtain ⟨g,hg,hsp⟩:=hF d b.cells hb.cell lb
 refine Aa hsp (Ad (Ad (Ay (by simp only[Ak];omega) ?_)))
 have key:=B3 a.cells (fun m k (cs:List D)=>Pq 4096 m (N3 g b.cells) cs (.sl (a.cells.map dC)) (a.cells.length:Int) (k:Int) (dA a) (dA b) 0) (fun _ _=>[dA (Lm a b)])
  (fun rest cs=>∃ pre:List Cell,a.cells=pre++rest∧cs=(pre.map (Ie b.cells)).map dC++Apl rest.length (dC Cell.none))
  (fun m k cs hk hI=>by
   obtain ⟨pre,h1,rfl⟩:=hI
   rw[Ap6]at h1
   simp only[QR,Ah]
   refine Ar (Aa (Wt a b ha.fits hb.fits) ?_)
   simp only[Ah,Ap1,List.replicate_zero,Ap6]
   exact Aa (RB (Hx a b) a.shape _ ha.1) (Ac (by unfold Lm;rw[h1];rfl)))
  (fun m k cs c rest hdr hI ih=>by
   obtain ⟨h1,h2,h3⟩:=By hdr
   obtain ⟨pre,hp,rfl⟩:=hI
   have hk:k=(pre.map (Ie b.cells)).length:=by
     have:=congrArg List.length hdr
     rw[hp]at this h1
     simp at this h1 ⊢; omega
   have hcl:((pre.map (Ie b.cells)).map dC++Apl (rest.length+1) (dC Cell.none)).length=a.cells.length:=by rw[hp];simp
   have nxt:Tw (Pq 4096 m (N3 g b.cells) (((pre.map (Ie b.cells)).map dC++Apl (rest.length+1) (dC Cell.none)).set k (dC (Ie b.cells c))) (.sl (a.cells.map dC)) (a.cells.length:Int) ((k+1:Nat):Int) (dA a) (dA b) 0) [dA (Lm a b)]:=by
     rw[LG (f:=dC) (z:=dC Cell.none) _ _ _ hk]
     exact ih _ ⟨pre++[c],by rw[hp];simp,by simp⟩
   simp only[QR,Ah,Au h2,Bh k,H6,H4,H5,List.singleton_append,App,hcl]
   refine Ad (Ad (Ad (Aa (Wz g b.cells c hg (ha.cell c (Apq h2)) hb.cell (by omega)) ?_)))
   simp only[Ag,Ao]
   refine Ae (fun hlt=> ?_) (fun hlt=> ?_)
   · have e1:Ie b.cells c=Bf 1:=by unfold Ie;rw[if_pos hlt]
     rw[e1]at nxt
     exact Aa (Jj _ (Dn (by omega) (by omega))) (Ad (Ad nxt))
   · have e1:Ie b.cells c=Bf 0:=by unfold Ie;rw[if_neg hlt]
     rw[e1]at nxt
     exact Aa (Jj _ (Dn (by omega) (by omega))) (Ad (Ad nxt)))
  4096 0 (Apl a.cells.length (dC Cell.none)) (by omega) (by omega) ⟨[],by simp,by simp⟩
 exact key
theorem XF : ∀ (l:List Cell) (c:Cell) (k i:Nat),l[i]? = some c→(Dl l c k=((k+i:Nat):Int)↔Dl (l.take i) c k<0)
 | [],c,k,i,h=>by simp at h
 | x::xs,c,k,0,h=>by
  simp at h
  subst h
  simp[Dl,AlY]
 | x::xs,c,k,i+1,h=>by
  simp only[List.take_succ_cons,Dl]
  have ih:=XF xs c (k+1) i (by simpa using h)
  split
  · constructor <;> intro hh <;> omega
  · rw[← ih,show k+1+i=k+(i+1) by omega]
theorem MJ : ∀ {l cs:List Cell} {k:Nat},∀ c∈Gn l cs k,c∈cs
 | l,[],k,c,h=>by simp[Gn]at h
 | l,x::xs,k,c,h=>by
  simp only[Gn]at h
  split at h
  · rcases Ap4.1 h with rfl | h
    · simp
    · exact Aqq _ (MJ c h)
  · exact Aqq _ (MJ c h)
theorem MI : ∀ {l cs:List Cell} {k:Nat},(Gn l cs k).length≤cs.length
 | l,[],k=>by simp[Gn]
 | l,x::xs,k=>by
  simp only[Gn]
  split
  · simp only[App];have:=MI (l:=l) (cs:=xs) (k:=k+1);omega
  · simp only[App];have:=MI (l:=l) (cs:=xs) (k:=k+1);omega
theorem LR{d:Nat}{l:List Cell}(h : ∀ c∈l,SmlC d c)(hl:l.length≤100000){s:At} : Sml (d+1) (Ib s l):=Sml.of (by simp[Ib]) (by simp only[Ib,Arr.cells_mk];omega) (fun x hx=>by simp[Ib]at hx;subst hx;exact Dn (by omega) (by omega)) h
theorem Afq(hF:Nm){d:Nat}(a:Arr)(ha:Sml (d+1) a)(la:a.cells.length≤2048):Sp 67 [dA a] [dA (Hv a).1,.int (Hv a).2]:=by
 refine Af 4096 (Afr _ _) ?_
 unfold Hv
 simp only[Ah,C9,H2]
 refine Ae (fun h=>Ac (by rw[if_pos (by omega)])) (fun h=> ?_)
 rw[if_neg (by omega)]
 obtain ⟨g,hg,hsp⟩:=hF d a.cells ha.cell la
 refine Aa hsp ?_
 have key:=B3 a.cells (fun m k (out:List Cell)=>Sa 4096 m (N3 g a.cells) (out.map dC) (.sl (a.cells.map dC)) (a.cells.length:Int) (k:Int) (dA a) 0 0) (fun rest out=>[dA (Ib (Az a) (out++Gn a.cells rest (a.cells.length-rest.length))),.int 0])
  (fun rest out=>out.length+rest.length≤2048∧∀ c∈out,SmlC d c)
  (fun m k out hk hI=>by
   simp only[QT,Ah]
   refine Ar (Aa (O6 out hI.2 (by have:=hI.1;omega)) (Aa (Fi a ha.fits) ?_))
   simp only[Ah]
   refine Aa (Ha (K6 out) (Az a)) (Ac ?_)
   simp only[Gn,Ap6,Ag]
   rw[JZ])
  (fun m k out c rest hdr hI ih=>by
   obtain ⟨h1,h2,h3⟩:=By hdr
   have hle:=congrArg List.length hdr
   rw[Apy,App]at hle
   have hk:a.cells.length-(c::rest).length=k:=by rw[App];omega
   have hk':a.cells.length-rest.length=k+1:=by omega
   have hcm:=Apq h2
   have hpt:=XF a.cells c 0 k h2
   rw[Aqv]at hpt
   have hI1:=hI.1
   rw[App]at hI1
   simp only[QT,Ah,Au h2,Bh k,H6,H4,H5,List.singleton_append]
   refine Ad (Ad (Ad (Aa (Wz g a.cells c hg (ha.cell c hcm) ha.cell (by omega)) ?_)))
   simp only[Ag,Ao,hk,Gn]
   refine Ae (fun he=>Ay (by simp only[App,Ap1,Ak];omega) ?_) (fun he=> ?_)
   · have:=ih (out++[c]) ⟨by simp;omega,fun x hx=>by rcases Aqs.1 hx with hx | hx;exact hI.2 x hx;simp at hx;subst hx;exact ha.cell _ hcm⟩
     rw[List.map_append,hk']at this
     rw[if_pos (hpt.1 he)]
     refine Tree.wp_mono this (fun ys hy=>hy.trans ?_)
     simp
   · have:=ih out ⟨by omega,hI.2⟩
     rw[hk']at this
     rw[if_neg (fun hh=>he (hpt.2 hh))]
     exact this)
  4096 0 [] (by omega) (by omega) ⟨by simpa using la,by simp⟩
 simpa using key
theorem CW{l o:List Cell}{i:Bool} : ∀ c∈F_ l o i,c∈l:=fun c h=>(List.mem_filter.1 h).1
theorem MA{l o:List Cell}{i:Bool} : (F_ l o i).length≤l.length:=List.length_filter_le _ _
theorem AnG{l o:List Cell}{c:Cell}{i:Bool}(h:(decide (0≤Dl o c 0)==i)=true):F_ (c::l) o i=c::F_ l o i:=List.filter_cons_of_pos h
theorem AnF{l o:List Cell}{c:Cell}{i:Bool}(h:(decide (0≤Dl o c 0)==i)=false):F_ (c::l) o i=F_ l o i:=List.filter_cons_of_neg (by rw[h];decide)
theorem RD(hF:Nm){d e:Nat}(l o:List Cell)(in_:Bool)(hl : ∀ x∈l,SmlC d x)(ho : ∀ x∈o,SmlC e x)(ll:l.length≤2048)(lo:o.length≤2048):Sp 185 [.sl (l.map dC),.sl (o.map dC),.bool in_] [.sl ((F_ l o in_).map dC)]:=by
 refine Af 4096 (Afx _ _ _ _) ?_
 simp only[Ah]
 obtain ⟨g,hg,hsp⟩:=hF e o ho lo
 refine Aa hsp ?_
 have key:=B3 l (fun m k (out:List Cell)=>Sd 4096 m in_ (N3 g o) (out.map dC) (.sl (l.map dC)) (l.length:Int) (k:Int)) (fun rest out=>[.sl ((out++F_ rest o in_).map dC)]) (fun rest out=>out.length+rest.length≤2048)
  (fun m k out hk hI=>by
   simp only[RC]
   exact Ar (Ac (by simp[F_])))
  (fun m k out c rest hdr hI ih=>by
   obtain ⟨h1,h2,h3⟩:=By hdr
   rw[App]at hI
   simp only[RC,Ah,Au h2,Bh k,H6,H4,H5,List.singleton_append]
   refine Ad (Ad (Ad (Aa (Wz g o c hg (hl c (Apq h2)) ho (by omega)) ?_)))
   simp only[Ag,Ao]
   refine Cl (fun hb=>Ay (by simp only[App,Ap1,Ak];omega) ?_) (fun hb=> ?_)
   · have:=ih (out++[c]) (by simp;omega)
     rw[List.map_append]at this
     refine Tree.wp_mono this (fun ys hy=>hy.trans ?_)
     rw[AnG hb]
     simp
   · have:=ih out (by omega)
     refine Tree.wp_mono this (fun ys hy=>hy.trans ?_)
     rw[AnF hb])
  4096 0 [] (by omega) (by omega) (by simpa using ll)
 simpa using key
theorem QS(hF:Nm){d e:Nat}(a b:Arr)(in_:Bool)(ha:Sml (d+1) a)(hb:Sml (e+1) b)(la:a.cells.length≤2048)(lb:b.cells.length≤2048):Sp 109 [dA a,dA b,.bool in_] [dA (G9 a b in_).1,.int (G9 a b in_).2]:=by
 refine Af 0 (Afn _ _ _ _) ?_
 unfold G9
 simp only[Ah,C9]
 refine Ae (fun h=>Ac (by rw[if_pos (by omega)])) (fun h=> ?_)
 rw[if_neg (by omega)]
 have hs:=MA (l:=a.cells) (o:=b.cells) (i:=in_)
 refine Aa (RD hF a.cells b.cells in_ ha.cell hb.cell la lb) (Aa (O6 _ (fun c hc=>ha.cell c (CW c hc)) (by omega)) (Aa (Wt a b ha.fits hb.fits) ?_))
 simp only[Ah]
 refine Aa (Ha _ (Hx a b)) (Ac ?_)
 rw[Ag,JZ]
theorem Afo(hF:Nm){d:Nat}(a b:Arr)(ha:Sml (d+1) a)(hb:Sml (d+1) b)(la:a.cells.length≤2048)(lb:b.cells.length≤2048):Sp 108 [dA a,dA b] [dA (Hu a b).1,.int (Hu a b).2]:=by
 refine Af 0 (Afp _ _ _) ?_
 unfold Hu
 simp only[Ah,C9,H2,List.replicate_zero,Aqx,Ap1]
 refine Ae (fun h=>Ac (by rw[if_pos (by omega)])) (fun h=> ?_)
 rw[if_neg (by omega)]
 refine Ae (fun h=>Ac (by rw[if_pos (by omega)])) (fun h=> ?_)
 rw[if_neg (by omega)]
 have hs:=MA (l:=b.cells) (o:=a.cells) (i:=false)
 refine Aa (RD hF b.cells a.cells false hb.cell ha.cell lb la) ?_
 simp only[Ah]
 have w1:Api .i64 ((a.cells.length:Int)+((F_ b.cells a.cells false).length:Int))=(a.cells.length:Int)+((F_ b.cells a.cells false).length:Int):=Aw (by omega) (by omega)
 simp only[w1]
 refine Ae (fun h=>Ac (by rw[if_pos (by omega)])) (fun h=> ?_)
 rw[if_neg (by omega)]
 refine Ad (Ad (Ay (by simp only[Ak];omega) (Ay (by simp only[Ak];omega) (Ay (by simp only[Apm,Ak];omega) ?_))))
 rw[← List.map_append]
 refine Aa (O6 _ (fun c hc=>by
  rcases Aqs.1 hc with hc | hc
  · exact ha.cell c hc
  · exact hb.cell c (CW c hc)) (by rw[Apu];omega)) (Aa (Wt a b ha.fits hb.fits) ?_)
 simp only[Ah]
 refine Aa (Ha _ (Hx a b)) (Ac ?_)
 rw[Ag,JZ]
theorem Ao7(k:Nat):It (k+1)=It k++[(k:Int)+1]:=by simp[It,List.range_succ]
theorem DF(k:Nat):(It k).length=k:=by simp[It]
theorem Acv{k:Nat}(h:k≤2048) : ∀ x∈It k,Bd x:=fun x hx=>by
 simp only[It,Aqw,List.mem_range]at hx
 obtain ⟨i,hi,rfl⟩:=hx
 exact Dn (by omega) (by omega)
theorem AjA(l:List Int)(s:At):Cw (K6 (l.map Bf)) s=C3 l s:=by simp[Cw,K6,C3]
theorem AfX{n:Arr}(h : ¬ (A9 n).1.length=1)(h0:(A9 n).2=0):Fd n=(.none,4):=by
 unfold Fd
 rw[if_pos h0]
 split
 · rename_i k hk;rw[hk]at h;exact absurd rfl h
 · rfl
theorem Afj(n:Arr)(hn:Fits n)(hnl:n.cells.length≤2048)(hnt : ∀ c∈n.cells,c.n.top.length≤32):Sp 65 [dA n] [dA (Fd n).1,.int (Fd n).2]:=by
 refine Af 4096 (Afk _ _) (Aa (La n hnl hnt) ?_)
 simp only[Ah,C9,H2]
 refine Ae (fun h=>Ac (by unfold Fd;rw[if_neg h])) (fun h=> ?_)
 have h0:(A9 n).2=0:=Apw.1 h
 refine Ae (fun h1=>Ac (by rw[AfX (by omega) h0])) (fun h1=> ?_)
 obtain ⟨k,hk⟩:=Mp (l:=(A9 n).1) (by omega)
 unfold Fd
 rw[if_pos h0,hk]
 simp only[Ap9,List.map_nil,App,Ap1,Ag,Ao]
 refine Ad (Ad (Ae (fun h2=>Ac (by rw[if_pos h2])) (fun h2=> ?_)))
 rw[if_neg h2]
 refine Ad (Ad (Ae (fun h3=>Ac (by rw[if_pos h3])) (fun h3=> ?_)))
 rw[if_neg h3]
 refine Ad (Ad (Ad (Ad (Ay (by simp only[Ak];omega) ?_))))
 obtain ⟨K,rfl⟩ : ∃ K:Nat,k=(K:Int):=⟨k.toNat,by omega⟩
 simp only[Apr,Aqp]
 have key:=Di K (fun m k (cs:List D)=>Wp 4096 m cs (K:Int) (k:Int) (dA n) 0) (fun _ _=>[dA (C3 (It K) (Az n)),.int 0])
  (fun k cs=>cs=((It k).map Bf).map dC++Apl (K-k) (dC Cell.none))
  (fun m cs hI=>by
   simp only[QQ]
   rw[hI,Nat.sub_self,List.replicate_zero,Ap6]
   refine Ar (Aa (O6 (d:=0) _ (fun c hc=>by
    obtain ⟨z,hz,rfl⟩:=Aqw.1 hc
    exact K0 (Acv (by omega) z hz) 0) (by rw[Apm,DF];omega)) (Aa (Fi n hn) ?_))
   simp only[Ah]
   refine Aa (Ha _ (Az n)) (Ac ?_)
   rw[Ag,AjA])
  (fun m k cs hkK hI ih=>by
   have hcl:cs.length=K:=by rw[hI];simp[DF];omega
   have w1:=Bh k
   simp only[QQ,hcl,w1,Apr]
   refine Ad (Aa (Jj _ (Dn (by omega) (by omega))) (Ad (Ad ?_)))
   refine ih _ ?_
   rw[hI,show K-k=(K-(k+1))+1 by omega,Ag,LG (f:=dC) (z:=dC Cell.none) ((It k).map Bf) (Bf ((k+1:Nat):Int)) (K-(k+1)) (by simp[DF]),Ao7]
   simp)
  4096 0 (Apl K (dC Cell.none)) (by omega) (by omega) (by simp[It])
 exact key
open Go.RowKit Go.WideMaps Go.Maps Go.ChangeShapes
theorem SD : ∀ (l:List Cell) (c:Cell) (n:Int) (k:Nat),D5 (l++[c]) n k=D5 l n k++(if Ca 0 c=n then [((k+l.length:Nat):Int)] else [])
 | [],c,n,k=>by simp only[Aqx,D5,Ap1,Nat.add_zero]
 | x::xs,c,n,k=>by
  simp only[List.cons_append,D5,App]
  rw[SD xs c n (k+1),show k+1+xs.length=k+(xs.length+1) by omega]
  split <;> simp
theorem HE : ∀ (l:List Cell) (n:Int) (k:Nat),(∀ c∈l,Ca 0 c≠n)→D5 l n k = []
 | [],_,_,_=>rfl
 | x::xs,n,k,h=>by
  simp only[D5]
  rw[if_neg (h x (by simp)),HE xs n (k+1) (fun c hc=>h c (by simp[hc]))]
def g0(l:List Cell):List (Int×List Int):=l.map (fun c=>(Ca 0 c,D5 l (Ca 0 c) 0))
theorem GV(l:List Cell)(n:Int):H9 (g0 l) n=D5 l n 0:=by
 have key : ∀ ms:List Cell,H9 (ms.map (fun c=>(Ca 0 c,D5 l (Ca 0 c) 0))) n=if (∃ c∈ms,Ca 0 c=n) then D5 l n 0 else []:=by
   intro ms
   induction ms with
   | nil=>simp[H9]
   | cons x xs ih =>
    simp only[Ap9,H9]
    by_cases h:Ca 0 x=n
    · rw[if_pos h,if_pos ⟨x,by simp,h⟩,h]
    · rw[if_neg h,ih]
      by_cases h2 : ∃ c∈xs,Ca 0 c=n
      · obtain ⟨c,hc,h3⟩:=h2
        rw[if_pos ⟨c,hc,h3⟩,if_pos ⟨c,by simp[hc],h3⟩]
      · rw[if_neg h2,if_neg (fun ⟨c,hc,h3⟩=>by
         rcases Ap4.1 hc with rfl | hc
         · exact h h3
         · exact h2 ⟨c,hc,h3⟩)]
 have:=key l
 unfold g0
 rw[this]
 split
 · rfl
 · rename_i h
   exact (HE l n 0 (fun c hc he=>h ⟨c,hc,he⟩)).symm
def SR:DataW Unit→List (DataW Unit) | .slice es _=>es | _=>[]
theorem IG{q:IntKind}{a b:List Int}(h:(lits q a:List (DataW Unit))=lits q b):a=b:=by
 unfold lits at h
 exact (List.map_inj_right (fun x y hxy=>by simpa using hxy)).1 h
theorem K5:Tryz.prog.underlying 22=some (.int .u64):=by kernel_rfl
theorem Rf:Tryz.prog.underlying 173=some (.map 22 23):=by kernel_rfl
theorem DD:Tryz.prog.underlying 23=some (.slice 3):=by kernel_rfl
theorem Sr:Keyed Tryz.prog 22:=int_keyed K5
theorem DR(w:World):(zeroValue 23).run Tryz.prog w = .ok (.slice none 0 0) w:=by kernel_rfl
theorem HV{n:Int}(h0:0≤n)(h1:n≤18446744073709551615):keyOf Tryz.prog 22 (.int .u64 n)=some (.int .u64 n):=by
 have hb:(Lit.int .u64 n).wf=true:=by
  unfold Lit.wf
  simp only[Apt,decide_eq_true_eq]
  exact ⟨h0,h1⟩
 unfold keyOf
 rw[K5]
 simp only[mapKey,K5]
 simp[hb]
theorem TA{v:Value}{kl:Lit}(h:keyOf Tryz.prog 22 v=some kl) : ∃ n:Int,v = .int .u64 n∧0≤n∧n≤18446744073709551615∧kl = .int .u64 n:=by
 unfold keyOf at h
 rw[K5]at h
 simp only[mapKey,K5]at h
 cases v <;> simp only[reduceCtorEq]at h
 rename_i q n
 split at h
 · rename_i hc
   obtain ⟨rfl,hw⟩:=hc
   unfold Lit.wf at hw
   simp only[Apt,decide_eq_true_eq]at hw
   injection h with h
   exact ⟨n,rfl,hw.1,hw.2,h.symm⟩
 · cases h
theorem Mm{w:World}{o:Obj}{b:Nat}{z:Obj}(h:w.heap[b]? = some z):(w.alloc o).heap[b]? = some z:=(heap_alloc_old w o (Aqi.1 h).1).trans h
structure FI (w:World) (l:List Cell) (A:Option Addr) (c k:Nat) (wr:World):Prop where
 groups : ∃ D,wr.ownsGroups (H:=Unit) Tryz.prog 22 (w.heap.size+3) 3 .i64 (w.heap.size+1) k D∧∀ n:Int,0≤n→n<18446744073709551616→SR (D.atKey (.int .u64 n) .nil)=lits .i64 (D5 (l.take k) n 0)
 below:Below w.heap.size w wr
 lbox:wr.heap[w.heap.size]? = some (.cells #[.slice A l.length c] 24 (0,0))
 mbox:wr.heap[w.heap.size+2]? = some (.cells #[.map (some (w.heap.size+1))] 173 (0,0))
 size:w.heap.size+3≤wr.heap.size
theorem HP{w:World}{base:Nat}{e:TypeId}{v:Value}{zs:List Int}(h:w.ownsInts base e .i64 v zs):SR (rowDatum .i64 v zs)=lits .i64 zs:=by
 rcases h.datum (H:=Unit) with ⟨h1,h2⟩ | h1
 · rw[h1,h2];rfl
 · rw[h1];rfl
theorem AfD{w w':World}{base b n:Nat}{D:DataW Unit}(h:w.ownsGroups Tryz.prog 22 base 3 .i64 b n D)(hx:Ext w w'):w'.ownsGroups Tryz.prog 22 base 3 .i64 b n D:=by
 obtain ⟨es,clock,hb,F,hs,rfl,hbb,hlen,hap⟩:=h
 have hg:w.grownBy w' none:=⟨hx.os,hx.tape,hx.output,hx.size,fun k hk _=>hx.block k hk⟩
 have hk : ∀ {v:Value} {zs:List Int},w.ownsInts base 3 .i64 v zs→w'.ownsInts base 3 .i64 v zs:=fun ho=>ho.kept hg (by cases hv:Value.ownBlock _ with | none=>exact .inl rfl | some g=>exact .inr (by simp))
 obtain ⟨F2,hmap,_⟩:=F.stay (R':=rowElem w' base 3 .i64) (fun x _ z hz=>by
  obtain ⟨zs,ho,rfl⟩:=rowElem_inv hz
  exact rowElem_mk (hk ho))
 refine ⟨es,clock,(hx.block b (Aqi.1 hb).1).trans hb,F2,hs,by rw[hmap],hbb,fun x hx' zs ho=> ?_,hap⟩
 obtain ⟨y,hy⟩:=F.reads x hx'
 obtain ⟨z,hz,_⟩:=Go.WideElems.rd_val hy
 obtain ⟨zs',ho',_⟩:=rowElem_inv hz
 rw[ho.unique (hk ho')]
 exact hlen x hx' zs' ho'
theorem FI.ext {w wr w':World} {l:List Cell} {A:Option Addr} {c k:Nat} (h:FI w l A c k wr) (hx:Ext wr w'):FI w l A c k w':=by
 obtain ⟨⟨D,h1,h2⟩,h3,h4,h5,h6⟩:=h
 have hs:=hx.size
 exact ⟨⟨D,AfD h1 hx,h2⟩,Below.trans h3 (Below.mono hx (by omega)),(hx.block _ (by omega)).trans h4,(hx.block _ (by omega)).trans h5,by omega⟩
theorem FI.look {w wr:World} {l:List Cell} {A:Option Addr} {c k:Nat} (h:FI w l A c k wr) (hk:k<l.length) (hlen:l.length≤2048) (h0:0≤Ca 0 l[k]) (h1:Ca 0 l[k]≤18446744073709551615) :
   ∃ (es:Array MapEntry) (clk:Nat) (v:Value) (zs:List Int),wr.heap[w.heap.size+1]? = some (.map es clk)∧(∀ y:World,y.heap[w.heap.size+1]? = some (.map es clk)→(Instr.lookup 173 (.map (some (w.heap.size+1))) (.int .u64 (Ca 0 l[k])) false).run Tryz.prog y = .ok v y)∧wr.ownsInts (w.heap.size+3) 3 .i64 v zs∧zs.length≤k ∧
     ∀ (wc:World) (v':Value),wr.grownBy wc v.ownBlock→wc.ownsInts (w.heap.size+3) 3 .i64 v' (zs++[(k:Int)])→(v'.ownBlock=v.ownBlock∨∃ g,v'.ownBlock=some g∧wr.heap.size≤g)→∃ w2,(Instr.mapUpdate 173 (.map (some (w.heap.size+1))) (.int .u64 (Ca 0 l[k])) v').run Tryz.prog wc = .ok () w2∧FI w l A c (k+1) w2:=by
 obtain ⟨⟨D,hg,hD⟩,hbel,hbox,mbox,hsz⟩:=h
 have hkey:=HV h0 h1
 obtain ⟨v,zs,hrun,hat,ho,hzl,hback⟩:=hg.at Sr Rf (DR wr) (by unfold maxLen;omega) hkey
 have hg':=hg
 obtain ⟨es,clk,hb,F,_,hDm,_,_,_⟩:=hg
 have hzs:zs=D5 (l.take k) (Ca 0 l[k]) 0:=by
   have:=hD (Ca 0 l[k]) h0 (by omega)
   rw[hat,HP ho]at this
   exact IG this
 have hks : ∀ x∈es.toList,∃ m,x.key = .int .u64 m:=fun x hx=>by
   obtain ⟨y,hy⟩:=F.reads x hx
   obtain ⟨n,hn,_⟩:=TA (Go.WideElems.rd_key hy)
   exact ⟨n,hn⟩
 have lk : ∀ y:World,y.heap[w.heap.size+1]? = some (.map es clk)→∃ u,(∀ y':World,y'.heap[w.heap.size+1]? = some (.map es clk)→(Instr.lookup 173 (.map (some (w.heap.size+1))) (.int .u64 (Ca 0 l[k])) false).run Tryz.prog y' = .ok u y'):=by
   intro y hy
   rcases GA (q':= .u64) (n:=Ca 0 l[k]) es.toList 0 hks with ⟨f1,f2⟩ | ⟨j,ex,f1,f2,f3⟩
   · refine ⟨.slice none 0 0,fun y' hy'=> ?_⟩
     unfold Instr.lookup
     have hck:=fun em=>BE (P:=Tryz.prog) (w:=y') em 9999 (q':= .u64) (i:=Ca 0 l[k]) K5
     simp[run_underlying Rf,run_underlying K5,BF hy',hck,Instr.findKey,f1,DR y']
   · refine ⟨ex.val,fun y' hy'=> ?_⟩
     unfold Instr.lookup
     have hck:=fun em=>BE (P:=Tryz.prog) (w:=y') em 9999 (q':= .u64) (i:=Ca 0 l[k]) K5
     simp[run_underlying Rf,run_underlying K5,BF hy',hck,Instr.findKey,f1]
 obtain ⟨u,hu⟩:=lk wr hb
 have huv:u=v:=by
   have:=hu wr hb
   rw[hrun]at this
   injection this with this
   exact this.symm
 subst huv
 refine ⟨es,clk,u,zs,hb,hu,ho,hzl,fun wc v' hgr hown' hloc=> ?_⟩
 obtain ⟨w2,hmu,hown2,hgr2⟩:=hback wc v' (zs++[(k:Int)]) hgr hown' (by simp;omega) hloc
 have hvb : ∀ j,u.ownBlock=some j→w.heap.size+3≤j:=fun j hj=>(ho.1.lt j hj).1
 have far : ∀ b,b<wr.heap.size→b<w.heap.size+3→b≠w.heap.size+1→w2.heap[b]? = wr.heap[b]? := fun b hb1 hb2 hb3=>by
   have hs:=hgr.size
   rw[hgr2.block b (by omega) (by simp;omega),hgr.block b hb1 (fun e=>by have:=hvb b e.symm;omega)]
 refine ⟨w2,hmu,⟨_,hown2,fun n hn0 hn1=> ?_⟩,?_,(far _ (by omega) (by omega) (by omega)).trans hbox,(far _ (by omega) (by omega) (by omega)).trans mbox,by have:=hgr.size;have:=hgr2.size;omega⟩
 · rw[List.take_add_one,Apk hk]
   show _=lits .i64 (D5 (l.take k++[l[k]]) n 0)
   rw[SD,Ap0,Nat.min_eq_left (by omega),Aqv]
   have hmk:WideAt.IsKeyLit (.int .u64 (Ca 0 l[k])):=Sr.key hkey
   by_cases he:Ca 0 l[k]=n
   · subst he
     rw[if_pos rfl,atKey_put_same ⟨_,hDm⟩ hmk,HP hown',hzs]
   · rw[if_neg he,Ap6,atKey_put_other (fun e=>he (by injection e with _ e;exact e.symm))]
     exact hD n hn0 hn1
 · exact hbel.groups ho hgr hgr2 (by omega) (by omega) (by omega)
theorem AgM{d:Nat}{x:Cell}{u:Value}{W:World}(hx:SmlC d x)(h:Rd Tryz.prog md W (fun _=>False) (.ty 67) (dC x) u):Calls Tryz.prog 215 #[.int .u64 0,u] W (fun e w'=>e = .returned (.int .u64 (Ca 0 x))∧(0≤Ca 0 x∧Ca 0 x≤18446744073709551615)∧Ext W w'):=by
 have hps:Tryz.f215.params.toList = [22,67]:=by kernel_rfl
 have ht:Tryz.prog.underlying 22=some (.int .u64):=by kernel_rfl
 exact LV (vs:=[.int .u64 0,u]) (UA d x 0 hx) Tryz.func215 (by kernel_rfl) (fun b hb=>hb.elim) (by kernel_rfl) (by kernel_rfl) (Qq hps (Qs ht (by kernel_rfl) (by kernel_rfl) (by decide) (by decide)) h) (t:=22) (by kernel_rfl) ht
section
variable {w:World} {M:Nat→Prop} {t:Nat} {x:D} {c:Nat→Option Value}
theorem KE{k:IntKind}(h:RdC Tryz.prog md w M (.ty t) x c)(ht:Tryz.prog.underlying t=some (.int k)) : ∃ n,c 0=some (.int k n):=by
 cases h with
 | int ht' h1 h2 hc =>
  have:Tryz.prog.underlying t=_:=ht'
  rw[ht]at this
  injection this with this;injection this with this;subst this
  exact ⟨_,hc⟩
 | bool ht'=>have:Tryz.prog.underlying t=_:=ht';rw[ht]at this;cases this
 | str ht'=>have:Tryz.prog.underlying t=_:=ht';rw[ht]at this;cases this
 | sl ht'=>have:Tryz.prog.underlying t=_:=ht';rw[ht]at this;cases this
 | fn ht'=>have:Tryz.prog.underlying t=_:=ht';rw[ht]at this;cases this
 | ref ht'=>have:Tryz.prog.underlying t=_:=ht';rw[ht]at this;cases this
 | mp ht'=>have:Tryz.prog.underlying t=_:=ht';rw[ht]at this;cases this
 | struct hf=>obtain ⟨⟨a,ha,_⟩,_⟩:=Cx hf;rw[ht]at ha;cases ha
theorem Ako(h:RdC Tryz.prog md w M (.ty t) x c)(ht:Tryz.prog.underlying t=some .bool) : ∃ b,c 0=some (.bool b):=by
 cases h with
 | bool ht' hc=>exact ⟨_,hc⟩
 | int ht'=>have:Tryz.prog.underlying t=_:=ht';rw[ht]at this;cases this
 | str ht'=>have:Tryz.prog.underlying t=_:=ht';rw[ht]at this;cases this
 | sl ht'=>have:Tryz.prog.underlying t=_:=ht';rw[ht]at this;cases this
 | fn ht'=>have:Tryz.prog.underlying t=_:=ht';rw[ht]at this;cases this
 | ref ht'=>have:Tryz.prog.underlying t=_:=ht';rw[ht]at this;cases this
 | mp ht'=>have:Tryz.prog.underlying t=_:=ht';rw[ht]at this;cases this
 | struct hf=>obtain ⟨⟨a,ha,_⟩,_⟩:=Cx hf;rw[ht]at ha;cases ha
theorem KF{e:Nat}(h:RdC Tryz.prog md w M (.ty t) x c)(ht:Tryz.prog.underlying t=some (.slice e)) : ∃ A n m,c 0=some (.slice A n m):=by
 cases h with
 | sl ht' hc=>exact ⟨_,_,_,hc⟩
 | struct hf=>obtain ⟨⟨a,ha,_⟩,_⟩:=Cx hf;rw[ht]at ha;cases ha
 | int ht'=>have:Tryz.prog.underlying t=_:=ht';rw[ht]at this;cases this
 | bool ht'=>have:Tryz.prog.underlying t=_:=ht';rw[ht]at this;cases this
 | str ht'=>have:Tryz.prog.underlying t=_:=ht';rw[ht]at this;cases this
 | fn ht'=>have:Tryz.prog.underlying t=_:=ht';rw[ht]at this;cases this
 | ref ht'=>have:Tryz.prog.underlying t=_:=ht';rw[ht]at this;cases this
 | mp ht'=>have:Tryz.prog.underlying t=_:=ht';rw[ht]at this;cases this
end
theorem Mk{t:Nat}{l:List (Nat×Nat)}(h:(Dh Tryz.prog t).map (fun fs=>fs.map (fun f=>(f.type,f.offset)))=some l){i ft o:Nat}(hi:l[i]? = some (ft,o)){w:World}{M:Nat→Prop}{x:D}{c:Nat→Option Value}(hr:RdC Tryz.prog md w M (.ty t) x c):RdC Tryz.prog md w M (.ty ft) (x.fld i) (fun j=>c (o+j)):=by
 obtain ⟨fs,hf,rfl⟩:=Apz.1 h
 rw[Ap2,Apz]at hi
 obtain ⟨f,h1,h2⟩:=hi
 injection h2 with h2 h3
 subst h2
 subst h3
 exact Tj hr hf h1
theorem Se:(Dh Tryz.prog 67).map (fun fs=>fs.map (fun f=>(f.type,f.offset)))=some [(22,0),(3,1),(64,2),(3,5),(65,6)]:=by kernel_rfl
theorem GK:(Dh Tryz.prog 64).map (fun fs=>fs.map (fun f=>(f.type,f.offset)))=some [(4,0),(62,1),(62,2)]:=by kernel_rfl
theorem AdI{w:World}{M:Nat→Prop}{x:D}{c:Nat→Option Value}(h:RdC Tryz.prog md w M (.ty 67) x c) : ∃ n0 n1 b A3 k3 m3 A4 k4 m4 n5 A6 k6 m6,c 0=some (.int .u64 n0)∧c 1=some (.int .i64 n1)∧c 2=some (.bool b)∧c 3=some (.slice A3 k3 m3)∧c 4=some (.slice A4 k4 m4)∧c 5=some (.int .i64 n5)∧c 6=some (.slice A6 k6 m6):=by
 obtain ⟨n0,h0⟩:=KE (Mk Se (i:=0) rfl h) (k:= .u64) (by kernel_rfl)
 obtain ⟨n1,h1⟩:=KE (Mk Se (i:=1) rfl h) (k:= .i64) (by kernel_rfl)
 have hn:=Mk Se (i:=2) rfl h
 obtain ⟨b,h2⟩:=Ako (Mk GK (i:=0) rfl hn) (by kernel_rfl)
 obtain ⟨A3,k3,m3,h3⟩:=KF (Mk GK (i:=1) rfl hn) (e:=180) (by kernel_rfl)
 obtain ⟨A4,k4,m4,h4⟩:=KF (Mk GK (i:=2) rfl hn) (e:=180) (by kernel_rfl)
 obtain ⟨n5,h5⟩:=KE (Mk Se (i:=3) rfl h) (k:= .i64) (by kernel_rfl)
 obtain ⟨A6,k6,m6,h6⟩:=KF (Mk Se (i:=4) rfl h) (e:=26) (by kernel_rfl)
 exact ⟨n0,n1,b,A3,k3,m3,A4,k4,m4,n5,A6,k6,m6,h0,h1,h2,h3,h4,h5,h6⟩
structure CellAt (wr:World) (bk o:Nat) (x:Cell) (u0 u1 u2 u3 u4 u5 u6:Value):Prop where
 c0:wr.cell? ⟨bk,o,none⟩=some u0
 c1:wr.cell? ⟨bk,o+1,none⟩=some u1
 c2:wr.cell? ⟨bk,o+2,none⟩=some u2
 c3:wr.cell? ⟨bk,o+3,none⟩=some u3
 c4:wr.cell? ⟨bk,o+4,none⟩=some u4
 c5:wr.cell? ⟨bk,o+5,none⟩=some u5
 c6:wr.cell? ⟨bk,o+6,none⟩=some u6
 rd:Rd Tryz.prog md wr (fun _=>False) (.ty 67) (dC x) (.agg #[u0,u1,u2,u3,u4,u5,u6])
theorem Ag9{M:Nat→Prop}{l:List Cell}{A:Option Addr}{c:Nat}{w:World}(h:Rd Tryz.prog md w M (.ty 24) (.sl (l.map dC)) (.slice A l.length c)){k:Nat}(hk:k<l.length) : ∃ bk off,A=some ⟨bk,off,none⟩∧bk<w.heap.size∧∀ wr,Below w.heap.size w wr→w.heap.size≤wr.heap.size →
  ∃ n0 n1 b A3 k3 m3 A4 k4 m4 n5 A6 k6 m6,CellAt wr bk (off+k*7) l[k] (.int .u64 n0) (.int .i64 n1) (.bool b) (.slice A3 k3 m3) (.slice A4 k4 m4) (.int .i64 n5) (.slice A6 k6 m6):=by
 have h7:Tryz.prog.cellsOf 67=7:=by kernel_rfl
 obtain ⟨h1,h2,h3⟩:=h
 cases h1 with
 | @sl _ e _ _ A' cap bk off ht hc h4 h5 hA hh =>
  have he:e=67:=by
   have:Tryz.prog.underlying 24=some (.slice e):=ht
   rw[show Tryz.prog.underlying 24=some (.slice 67) by kernel_rfl]at this
   injection this with this;injection this with this;exact this.symm
  subst he
  have hv:Value.slice A l.length c = .slice A' (l.map dC).length cap:=by simpa [Value.cells]using hc
  injection hv with e1 e2 e3
  subst e1
  obtain ⟨a1,a2,a3⟩:=hA (fun e=>by rw[List.map_eq_nil_iff.1 e]at hk;simp at hk)
  refine ⟨bk,off,a1,a3,fun wr hb hsz=> ?_⟩
  have hr:=hh k (dC l[k]) (by rw[Ap2,Apk hk];rfl)
  rw[h7]at hr
  have hpos:0<(CT.ty 67).size Tryz.prog:=by show 0<Tryz.prog.cellsOf _;omega
  have hr':RdC Tryz.prog md wr (fun _=>False) (.ty 67) (dC l[k]) (fun j=>wr.cell? ⟨bk,off+k*7+j,none⟩):=by
   have:=hr.mono (w':=wr) (M':=fun _=>False) hsz (fun b _ hlt=>hb.block b hlt) (fun b hf _=>hf.elim)
   refine this.congr (fun j _=> ?_) hpos
   rw[Nat.add_assoc,Vo (hb.block bk a3)]
  obtain ⟨n0,n1,b,A3,k3,m3,A4,k4,m4,n5,A6,k6,m6,c0,c1,c2,c3,c4,c5,c6⟩:=AdI hr'
  refine ⟨n0,n1,b,A3,k3,m3,A4,k4,m4,n5,A6,k6,m6,c0,c1,c2,c3,c4,c5,c6,?_,h7.symm,by kernel_rfl⟩
  refine hr'.congr (fun j hj=> ?_) hpos
  have hj:j<7:=by
   have:j<Tryz.prog.cellsOf 67:=hj
   omega
  match j,hj with
  | 0,_=>exact c0.symm
  | 1,_=>exact c1.symm
  | 2,_=>exact c2.symm
  | 3,_=>exact c3.symm
  | 4,_=>exact c4.symm
  | 5,_=>exact c5.symm
  | 6,_=>exact c6.symm
theorem AfI(bk off n c k:Nat)(hk:k<n)(w:World):(Instr.indexAt 24 (.slice (some ⟨bk,off,none⟩) n c) (.int .i64 k)).run Tryz.prog w = .ok (.pointer (some ⟨bk,off+k*7,none⟩)) w:=by
 have hu:Tryz.prog.underlying 24=some (.slice 67):=by kernel_rfl
 have h7:Tryz.prog.cellsOf 67=7:=by kernel_rfl
 have hcond:0≤(k:Int)∧(k:Int)<((n:Nat):Int):=by omega
 simp[Instr.indexAt,asIntOf,run_underlying hu,hcond,hk,Hs (P:=Tryz.prog) (t:=67) (by omega),h7,Addr.add_lit]
def AcQ(w:World)(l:List Cell)(A:Option Addr)(c:Nat)(e:Ending)(w':World):Prop:=e = .returned (.func (.func 216) #[] #[.pointer (some ⟨w.heap.size+1+1,0,none⟩),.pointer (some ⟨w.heap.size,0,none⟩)])∧FI w l A c l.length w'
theorem FI.start (w:World) (l:List Cell) (A:Option Addr) (c:Nat):FI w l A c 0 (((w.alloc (.cells #[.slice A l.length c] 24)).alloc (.map #[] 0)).alloc (.cells #[.map (some (w.heap.size+1))] 173)):=by
 have h1:((w.alloc (.cells #[.slice A l.length c] 24)).alloc (.map #[] 0)).heap[w.heap.size+1]? = some (.map #[] 0):=by
  have:=heap_alloc_new (w.alloc (.cells #[.slice A l.length c] 24)) (.map #[] 0)
  simpa using this
 have h0:(w.alloc (.cells #[.slice A l.length c] 24)).heap[w.heap.size]? = some (.cells #[.slice A l.length c] 24 (0,0)):=heap_alloc_new w _
 refine ⟨⟨.map [],⟨#[],0,Mm h1,⟨by simp,Go.MapKept.stamped_empty 0,by simp⟩,Apx _,rfl,by omega,by simp,by simp⟩,fun n _ _=>rfl⟩,((Below.refl _ _).alloc (Apx _) _ |>.alloc (by simp) _ |>.alloc (by simp;omega) _),Mm (Mm h0),?_,by simp⟩
 have:=heap_alloc_new ((w.alloc (.cells #[.slice A l.length c] 24)).alloc (.map #[] 0)) (.cells #[.map (some (w.heap.size+1))] 173)
 simpa using this
set_option maxHeartbeats 1000000 in
theorem Afy{M:Nat→Prop}(l:List Cell)(hl : ∀ x∈l,∃ d,SmlC d x)(hlen:l.length≤2048)(A:Option Addr)(c:Nat)(w:World)(hrd:Rd Tryz.prog md w M (.ty 24) (.sl (l.map dC)) (.slice A l.length c)) :
  Calls Tryz.prog 152 #[.slice A l.length c] w (AcQ w l A c):=by
 have hmm:= @run_makeMap Tryz.prog
 have HRD:=Lib.hid hrd
 clear hrd
 have HLL:=Lib.hid hl
 clear hl
 go_enter Tryz.func152,Tryz.ntmps152
 go_wp2_with fail
 go_loopw [10] (fun iv wr=>∃ k:Nat,k≤l.length∧iv = .int .i64 k∧FI w l A c k wr) (fun iv _=>l.length-(intOf iv).toNat)
 case atStart=>exact ⟨0,Nat.zero_le _,rfl,FI.start w l A c⟩
 case round =>
  obtain ⟨k,hk,rfl,HF⟩:=hrel
  by_cases hlt:k<l.length
  · obtain ⟨bk,off,rfl,hbk,hcell⟩:=Ag9 HRD.out hlt
    obtain ⟨n0,n1,b,A3,k3,m3,A4,k4,m4,n5,A6,k6,m6,hca⟩:=hcell wr HF.below (by have:=HF.size;omega)
    clear hcell
    have hc0:=hca.c0
    have hc1:=hca.c1
    have hc2:=hca.c2
    have hc3:=hca.c3
    have hc4:=hca.c4
    have hc5:=hca.c5
    have hc6:=hca.c6
    have HRU:=Lib.hid hca
    clear hca
    obtain ⟨d,hsx⟩:=HLL.out l[k] (Aql hlt)
    have HSX:=Lib.hid hsx
    clear hsx
    have HIX:=AfI bk off l.length c k hlt
    have HFH:=Lib.hid HF
    clear HF
    go_wp2_with (first
      | (go_at_call 215;refine (AgM HSX.out ?_).mono ?_;rotate_left;rintro e w1 ⟨rfl,hb1,hx1⟩))
    · have hfi:=HFH.out.ext (Ext.trans ((Ext.refl wr).alloc _) hx1)
      obtain ⟨es,clk,v,zs,hb,hu,ho,hzl,hnext⟩:=hfi.look hlt hlen hb1.1 hb1.2
      have hsz1:=hfi.size
      have hmb0:=hfi.mbox
      have hvb : ∀ j,v.ownBlock=some j→w.heap.size+3≤j:=fun j hj=>(ho.1.lt j hj).1
      have KS : ∀ y:World,y.heap[w.heap.size+2]? = some (.cells #[.map (some (w.heap.size+1))] 173 (0,0))→y.heap[w.heap.size+2]? = some (.cells #[.map (some (w.heap.size+1))] 173 (0,0))∧y.cell? ⟨w.heap.size+1+1,0,none⟩=some (.map (some (w.heap.size+1))):=by
       intro y h2
       refine ⟨h2,?_⟩
       unfold World.cell?
       simp[h2]
      have hlk1:=hu w1 hb
      have hlk2:=hu w1.drew hb
      have hlk3:=hu (w1.alloc (.cells #[.int .i64 k] 3)) (Mm hb)
      have hlk4:=hu (w1.alloc (.cells #[.int .i64 k] 3)).drew (Mm hb)
      have hlk5:=hu (w1.drew.alloc (.cells #[.int .i64 k] 3)) (Mm (w:=w1.drew) hb)
      have hinfo : ∃ i0,Tryz.prog.info? 3=some i0∧i0.zero=some (.int .i64 0)∧i0.size=1∧i0.bytes=8:=info_parts (P:=Tryz.prog) (e:=3) (z:= .int .i64 0) (size:=1) (bytes:=8) (by kernel_rfl)
      obtain ⟨i0,hi0,hz0,hz1,hz2⟩:=hinfo
      obtain ⟨_,hcell1⟩:=KS w1 hmb0
      have GD : ∀ {x y:World} {r:Option Nat},x.drew.grownBy y r→x.grownBy y r:=fun h=>⟨h.os,h.tape,h.output,h.size,h.block⟩
      have WFK:(Lit.int .i64 (k:Int)).wf=true:=WalkArith.wf_i64 (by omega)
      go_region_held3 (fun y=>y.heap[w.heap.size+2]? = some (.cells #[.map (some (w.heap.size+1))] 173 (0,0))∧y.cell? ⟨w.heap.size+1+1,0,none⟩=some (.map (some (w.heap.size+1))))
       ((go_split_ands;first | (refine ⟨?_,?_⟩ <;> assumption) | exact KS _ hfi5.mbox | exact KS _ (by assumption) | exact KS _ (Mm (by assumption)) | exact KS _ ((hgrow.block _ (by simp;omega) (by intro e;have:=hvb _ e.symm;omega)).trans (by first | assumption | exact Mm (by assumption)))))
       ((refine step_append_lies _ (by rfl) _ _ _ (by rfl) (w.heap.size+3) 3 i0 _ 1 8 DD hi0 hz0 hz1 hz2 rfl (by omega) v zs.length (zs.map (Value.int .i64)) (by rfl) ((ho.1.alloc _).drew) ⟨w1.heap.size,0,none⟩ 1 1 [.int .i64 k] (by rfl) (by rfl) (World.news_of_block (cs:= #[.int .i64 k]) (t:=3) (fr:=(0,0)) (heap_alloc_new w1 _)) (by simp[Value.oneCell']) (by omega) (by unfold maxLen;omega) (by omega) (by simp;omega) (w1.heap.size+1) (by simp) ?_;intro gg cap w4 hown4 hgrow hat hlt4;obtain ⟨w5,hmu,hfi5⟩:=hnext w4 _ ((World.grownBy_alloc w1 _ _).trans (GD hgrow)) (ho.appended hown4 WFK) (hat.imp (fun h=>h.symm) (fun h=>⟨gg,rfl,by omega⟩))))
      all_goals
       go_wp2_with fail
       go_roundw
       · exact ⟨k+1,by omega,by go_num,hfi5⟩
       · simp[intOf];omega
    · exact Kv HRU.out.rd ((Ext.refl wr).alloc _) (fun b hb _=>hb)
  · have hkn:k=l.length:=by omega
    subst hkn
    go_wp2_with fail
    go_ret
    exact ⟨rfl,HF⟩
theorem IL(k n:Int):0≤F6 k n∧F6 k n≤18446744073709551615:=by
 unfold F6 Br
 simp only
 rw[IntKind.wrap_u64]
 omega
def Jb(k:Int):Prop:=0≤k∧k≤18446744073709551615
theorem Sg{α:Type}{f:Int→α→Int} : ∀ {l:List α} {k:Int},Jb k→(∀ x∈l,∀ k,Jb k→Jb (f k x))→Jb (l.foldl f k)
 | [],_,h,_=>h
 | x::xs,k,h,hf=>by
  rw[List.foldl_cons]
  exact Sg (l:=xs) (hf x (by simp) k h) (fun y hy=>hf y (Aqq _ hy))
theorem TX{c:Cell}{k:Int}(h : ∀ x∈c.inn,∀ k,Jb k→Jb (F5 k x)):Jb (Ca k c):=by
 rw[P5]
 refine Sg ?_ h
 have h1 : ∀ (l:List Aq) {k:Int},Jb k→Jb (Jt k l):=fun l k hk=>Sg hk (fun x _ k _=>IL _ _)
 refine h1 _ (h1 _ ?_)
 split <;> exact IL _ _
theorem AgJ(a:Arr) : ∀ k,Jb k→Jb (F5 k a):=by
 induction a using Arr.ind with
 | h s sh cs IH =>
  intro k hk
  rw[Xu]
  exact Sg (Sg hk (fun x _ k _=>IL _ _)) (fun c hc k _=>TX (IH c hc))
theorem AgL(c:Cell)(k:Int):Jb (Ca k c):=TX (fun x _=>AgJ x)
theorem WG{α:Type}{f:α→Lit×DataW Unit} : ∀ {l:List α} {x y:α},(l.map f).Pairwise (fun p q=>p.1≠q.1)→x∈l→y∈l→(f x).1=(f y).1→x=y
 | [],x,y,_,hx,_,_=>by cases hx
 | a::l,x,y,h,hx,hy,he=>by
  rw[Ap9,List.pairwise_cons]at h
  rcases Ap4.1 hx with e1 | hx1 <;> rcases Ap4.1 hy with e2 | hy1
  · rw[e1,e2]
  · rw[e1]at he;exact absurd he (h.1 _ (Aqw.2 ⟨y,hy1,rfl⟩))
  · rw[e2]at he;exact absurd he.symm (h.1 _ (Aqw.2 ⟨x,hx1,rfl⟩))
  · exact WG h.2 hx1 hy1 he
theorem Akl{w:World}{M:Nat→Prop}{base:Nat}{v:Value}{zs:List Int}(h:w.ownsInts base 3 .i64 v zs)(hM : ∀ b,M b→b<base):RdC Tryz.prog md w M (.ty 23) (.sl (zs.map .int)) (fun j=>v.cells[j]?)∧Dv v=false:=by
 have hc1:Tryz.prog.cellsOf 3=1:=by kernel_rfl
 have hti:Tryz.prog.underlying 3=some (.int .i64):=by kernel_rfl
 obtain ⟨hrow,hwf⟩:=h
 rcases hrow.2 with ⟨rfl,h0⟩ | ⟨g,cap,cur,rfl,hbg,hg,hnc,hcm,hcs,htake⟩
 · have:zs = []:=Aqb.1 h0
   subst this
   exact ⟨.sl (t:= .ty _) (e:=3) (A:=none) (cap:=0) (bk:=0) (off:=0) DD rfl (by simp) (by simp) (fun hne=>absurd rfl hne) (fun i x hx=>by simp at hx),rfl⟩
 · have hcell:=hrow.cells (g:=g) rfl
   refine ⟨.sl (t:= .ty _) (e:=3) (A:=some ⟨g,0,none⟩) (cap:=cap) (bk:=g) (off:=0) DD (by simp[Value.cells]) (by simpa using hnc) hcm (fun _=>⟨rfl,fun hm=>by have:=hM g hm;omega,(Aqi.1 hg).1⟩) (fun i x hx=> ?_),rfl⟩
   rw[Ap2,Apz]at hx
   obtain ⟨z,hz,rfl⟩:=hx
   have hw:=hwf z (Apq hz)
   unfold Lit.wf at hw
   simp only[Apt,decide_eq_true_eq]at hw
   have:=hcell i (.int .i64 z) (by rw[Ap2,hz];rfl)
   have ea:(⟨g,0,none⟩:Addr).add i=⟨g,0+i,none⟩:=by unfold Addr.add;split <;> simp_all
   rw[ea]at this
   exact .int (t:= .ty _) (k:= .i64) hti hw.1 hw.2 (by rw[hc1];simpa using this)
theorem FI.map_rd {w w':World} {M:Nat→Prop} {l:List Cell} {A:Option Addr} {c:Nat} (h:FI w l A c l.length w') (hM : ∀ b,M b→b<w.heap.size):RdC Tryz.prog md w' M (.ty 173) (.mp (g0 l)) (fun j=>w'.cell? ⟨w.heap.size+1+1,0+j,none⟩):=by
 obtain ⟨⟨D,hg,hD⟩,_,_,mbox,hsz⟩:=h
 obtain ⟨es,clk,hb,F,_,rfl,_,_,_⟩:=hg
 have hks : ∀ x∈es.toList,∃ n:Int,x.key = .int .u64 n∧0≤n∧n≤18446744073709551615:=fun x hx=>by
   obtain ⟨y,hy⟩:=F.reads x hx
   obtain ⟨n,hn,h0,h1,_⟩:=TA (Go.WideElems.rd_key hy)
   exact ⟨n,hn,h0,h1⟩
 have rdx : ∀ x∈es.toList,∀ n,x.key = .int .u64 n→RdC Tryz.prog md w' M (.ty 23) (.sl ((H9 (g0 l) n).map .int)) (fun j=>x.val.cells[j]?)∧Dv x.val=false:=by
   intro x hx n hn
   obtain ⟨n',hn',h0,h1⟩:=hks x hx
   rw[hn]at hn'
   injection hn' with _ hn'
   subst hn'
   have hkey:=HV h0 h1
   rcases Maps.fit_look false Sr Rf (DR w') hb F hkey with ⟨_,hne,_⟩ | ⟨e0,y,hm0,h3,_,hR,hat,_⟩
   · exact absurd hn (hne x hx)
   · have hxe:x=e0:=by
       refine WG (fit_apart Sr F) hx hm0 ?_
       obtain ⟨y1,hy1⟩:=F.reads x hx
       obtain ⟨y2,hy2⟩:=F.reads e0 hm0
       rw[Go.WideElems.rg_of hy1,Go.WideElems.rg_of hy2]
       have k1:=Go.WideElems.rd_key hy1
       have k2:=Go.WideElems.rd_key hy2
       rw[hn]at k1
       rw[h3]at k2
       rw[k1]at k2
       injection k2
     subst hxe
     obtain ⟨zs,ho,rfl⟩:=rowElem_inv hR
     have hz:=hD n h0 (by omega)
     rw[hat,List.take_length,HP ho]at hz
     rw[GV,← IG hz]
     exact Akl ho (fun b hb=>by have:=hM b hb;omega)
 refine .mp (t:= .ty _) (b:=w.heap.size+1) Rf K5 DD ?_ (fun hm=>by have:=hM _ hm;omega) (by omega) hb (fun x hx=> ?_) (fun x hx n hn=>(rdx x hx n hn).1) (fun x hx=> ?_) (fun n hne=> ?_)
 · have:w'.heap[w.heap.size+1+1]? = some (.cells #[.map (some (w.heap.size+1))] 173 (0,0)):=mbox
   unfold World.cell?
   simp[this]
 · obtain ⟨n,hn,_⟩:=hks x hx;exact ⟨n,hn⟩
 · obtain ⟨n,hn,_⟩:=hks x hx;exact (rdx x hx n hn).2
 · rw[GV]
   by_cases hr:0≤n∧n≤18446744073709551615
   · have hkey:=HV hr.1 hr.2
     rcases Maps.fit_look false Sr Rf (DR w') hb F hkey with ⟨_,_,hat⟩ | ⟨e0,y,hm0,h3,_⟩
     · have hz:=hD n hr.1 (by omega)
       rw[hat,List.take_length]at hz
       exact (IG (q:= .i64) (a:=[]) hz).symm
     · exact absurd h3 (hne e0 hm0)
   · exact HE l n 0 (fun c _ he=>hr (he▸AgL c 0))
theorem Ps:Nm:=by
 intro d l hl hlen
 refine ⟨g0 l,GV l,CU Nk Tryz.func152 (by kernel_rfl) (by kernel_rfl) (by kernel_rfl) (fun w M vs hM _ hlv hrd=> ?_)⟩
 have hps:Tryz.f152.params.toList = [24]:=by kernel_rfl
 have hlen1:vs.length=1:=by rw[hlv];rfl
 match vs,hlen1 with
 | [v],_ =>
  rw[hps]at hrd
  have hr:=hrd 0 _ _ _ rfl rfl rfl
  obtain ⟨A,n,c,hv,hn⟩ : ∃ A n c,v = .slice A n c∧n=l.length:=by
   obtain ⟨h1,h2,h3⟩:=hr
   cases h1 with
   | @sl _ e _ _ A' cap bk off ht hc h4 h5 hA hh =>
     have ha:Dv v=false:=by rw[h3];kernel_rfl
     rw[I0 ha]at hc
     exact ⟨A',_,cap,by simpa using hc,by simp⟩
  subst hv
  subst hn
  refine (Afy l (fun x hx=>⟨d,hl x hx⟩) hlen A c w hr).mono ?_
  rintro e w' ⟨rfl,hfi⟩
  have hx:Ext w w':=by
   have:=hfi.below
   exact ⟨this.os,this.tape,this.output,by have:=hfi.size;omega,fun b hb=>this.block b hb⟩
  refine ⟨[_],rfl,rfl,fun i t u ht hu=> ?_,hx⟩
  rw[show Tryz.f152.resultTypes.toList = [128] by kernel_rfl]at ht
  match i with
  | 0 =>
   cases ht;cases hu
   have hsz:=hfi.size
   refine ⟨.fn (fn:=Tryz.f216) (ps:= #[67]) (rs:= #[3]) (va:=false) (by kernel_rfl) Tryz.func216 (by kernel_rfl) (by kernel_rfl) (by kernel_rfl) rfl rfl rfl (fun i ct d' v' hct hd hv=> ?_) (fun i ct v' hct hv=> ?_),by kernel_rfl,by kernel_rfl⟩
   · match i with
     | 0 =>
      cases hct;cases hd;cases hv
      exact .ref (t:= .ref _) (bk:=w.heap.size+1+1) (off:=0) rfl rfl (fun hm=>by have:=hM _ hm;omega) (by omega) (hfi.map_rd hM)
     | 1 =>
      cases hct;cases hd;cases hv
      refine .ref (t:= .ref _) (bk:=w.heap.size) (off:=0) rfl rfl (fun hm=>by have:=hM _ hm;omega) (by omega) ?_
      have h1:=hr.rd.mono (w':=w') (M':=M) hx.size (fun b _ hb=>hx.block b hb) (fun b hb _=>hb)
      refine h1.congr (fun j hj=> ?_) (by have:(CT.ty 24).size Tryz.prog=1:=(by kernel_rfl);omega)
      have hj:j<1:=by have:(CT.ty 24).size Tryz.prog=1:=(by kernel_rfl);omega
      obtain rfl:j=0:=by omega
      unfold World.cell?
      simp[hfi.lbox,Value.cells]
     | i+2=>cases hct
   · match i with
     | 0=>cases hct;cases hv;exact ⟨rfl,rfl⟩
     | 1=>cases hct;cases hv;exact ⟨rfl,rfl⟩
     | i+2=>cases hct
  | i+1=>simp at ht
end Go.Proofs.YtokkbgpgaheakaaGreat
namespace Go.Proofs.YtokkbgpgaheakaaGreat
theorem SO : ∀ {l:List Int},(∀ x∈l,Bd x)→Fr (l.map Bf)=some l
 | [],_=>rfl
 | x::xs,h=>by
  simp only[Ap9,Fr]
  rw[if_pos (show (Bf x).kind=0 from rfl),show (Bf x).n=Cy x from rfl,Anp (h x (by simp)),SO (fun y hy=>h y (by simp[hy]))]
  rfl
theorem AnL(l:List Int)(s:At):Az (C3 l s)=s:=by
 rw[CY]
 unfold C3
 simp only[Arr.cells_mk,Arr.s_mk]
 induction l with
 | nil=>rfl
 | cons x xs ih =>
  rw[Ap9,List.foldl_cons,CZ]
  have e0:s|||(0:At)=s:=by simp
  rw[show (Bf x).inn = [] from rfl,show (Bf x).l=0 from rfl,e0,List.foldl_nil]
  exact ih
theorem AlC{n a:Arr}{d:Nat}(ha : ∀ c∈a.cells,Bo d c=true)(h:(Il n a).2=0):Am d (Il n a).1=true:=by
 unfold Il at h ⊢
 split at h
 · rename_i h1
   rw[if_pos h1]
   split at h
   · rename_i h2
     rw[if_pos h2]
     have h4:=Fz (A9 n).1
     refine G8 ?_ ?_
     · simp only[Arr.shape_mk,Arr.cells_mk,V4]
       exact Prod.ext (by simp only;omega) h2
     · intro c hc
       rcases Aes hc with h | rfl
       · exact ha c h
       · exact J0 d I6
   · rename_i h2;exact absurd h h2
 · rename_i h1;exact absurd h h1
theorem Aec:A8 []=(1,0):=by decide
theorem Aj3{n:Nat}(h:n≤2048):A_ [(n:Int)] 1=(n:Int):=by
 simp only[A_];rw[if_neg (by omega)];omega
theorem Aed{n:Nat}(h:n≤2048):A8 [(n:Int)]=((n:Int),0):=by
 unfold A8
 rw[Aj3 h]
 simp only[App,Ap1,List.any_cons,List.any_nil,Bool.or_false]
 by_cases h0:n=0
 · subst h0;rfl
 · rw[if_neg (by omega),if_neg (by simp),if_neg (by simp;omega),if_neg (by simp;omega),if_neg (by omega)]
theorem AdH{c:Cell}(h : ¬ c.kind=2)(k k':Bool)(r r':Arr→Bool):C8 k r c=C8 k' r' c:=by
 unfold C8
 split
 · rfl
 split
 · rfl
 · rw[decide_eq_false (fun hh=>h hh.1)];rfl
theorem KV{c:Cell}(h : ¬ c.kind=2){d e:Nat}(hc:Bo d c=true):Bo e c=true:=by
 have:Bo e c=Bo d c:=by cases d <;> cases e <;> exact AdH h _ _ _ _
 rw[this];exact hc
theorem AlH{d:Nat}{x:Arr}{l:At}(hs:Cq x=false)(hr:Am d x=true):Bo (d+1) ⟨l,2,.zero,0,[x]⟩=true:=by
 show C8 true (Am d) _=true
 unfold C8 Jl
 simp[hs,hr]
theorem Ty{d:Nat}{c:Cell}(hk:c.kind=2)(h:Bo d c=true) : ∃ e x,d=e+1∧c=⟨c.l,2,.zero,0,[x]⟩∧Cq x=false∧Am e x=true:=by
 have key : ∀ k r,C8 k r c=true→k=true∧∃ x,c.inn = [x]∧Cq x=false∧r x=true∧c.n = .zero∧c.c=0:=by
  intro k r hh
  unfold C8 at hh
  rw[if_neg (by omega),if_neg (by omega)]at hh
  simp only[Apt,decide_eq_true_eq]at hh
  obtain ⟨h1,h2,h3⟩:=hh
  unfold Jl at h3
  split at h3
  · rename_i x hx
    simp only[Apt,Bool.not_eq_true']at h3
    exact ⟨h2,x,hx,h3.1,h3.2,h1.2.1,h1.2.2⟩
  · cases h3
 cases d with
 | zero=>exact absurd (key _ _ h).1 (by simp)
 | succ d =>
  obtain ⟨_,x,h1,h2,h3,h4,h5⟩:=key _ _ h
  refine ⟨d,x,rfl,?_,h2,h3⟩
  cases c;simp only at hk h1 h4 h5;subst hk;subst h1;subst h4;subst h5;rfl
theorem AlG : ∀ {d:Nat} {a:Arr},Am d a=true→Am (d+1) a=true:=by
 intro d
 induction d with
 | zero =>
  intro a h
  obtain ⟨h1,h2⟩:=Ck h
  refine G8 h1 (fun c hc=> ?_)
  by_cases hk:c.kind=2
  · obtain ⟨e,x,he,_⟩:=Ty hk (h2 c hc);omega
  · exact KV hk (h2 c hc)
 | succ d ih =>
  intro a h
  obtain ⟨h1,h2⟩:=Ck h
  refine G8 h1 (fun c hc=> ?_)
  by_cases hk:c.kind=2
  · obtain ⟨e,x,he,hx,hs,hr⟩:=Ty hk (h2 c hc)
    have:e=d:=by omega
    subst this
    rw[hx];exact AlH hs (ih hr)
  · exact KV hk (h2 c hc)
theorem KT{d:Nat}{a:Arr}{l:At}(h:Am d a=true):Am d (Cw a l)=true:=by rw[BA]at h ⊢; exact h
theorem Aa3{d:Nat}{c:Cell}{l:At}(h:Bo d c=true):Am d (.mk l [] [c])=true:=G8 Aec (fun x hx=>by simp at hx;subst hx;exact h)
theorem Acs{d:Nat}{c:Cell}(h:Bo (d+1) c=true):Am (d+1) (Jh c)=true:=by
 by_cases hk:c.kind=2
 · obtain ⟨e,x,he,hx,hs,hr⟩:=Ty hk h
   have:e=d:=by omega
   subst this
   rw[Acr hk (by rw[hx])]
   exact KT (AlG hr)
 · rw[MM (fun hh=>hk hh.1)]
   exact Aa3 h
theorem Afz{a:Arr}(h:Am 8 a=true):Am 8 (Mj a)=true:=by
 unfold Mj
 split
 · exact Aa3 (J0 8 I6)
 · rename_i c cs hc
   exact KT (Acs ((Ck h).2 c (by rw[hc];simp)))
theorem Af1 : ∀ {d:Nat} {a:Arr},Am d a=true→∀ c∈F1 a,¬ c.kind=2∧∃ e,Bo e c=true:=by
 have keyAs : ∀ {as_:List Arr} {P:Cell→Prop},(∀ x∈as_,∀ c∈F1 x,P c)→∀ c∈I4 as_,P c:=by
  intro as_ P
  induction as_ with
  | nil=>intro _ c hc;rw[I4]at hc;cases hc
  | cons a as_ ih =>
    intro h c hc
    rw[I4]at hc
    rcases Aqs.1 hc with hc | hc
    · exact h a (by simp) c hc
    · exact ih (fun x hx=>h x (Aqq _ hx)) c hc
 have keyCs : ∀ {cs:List Cell} {P:Cell→Prop},(∀ x∈cs,∀ c∈N2 x,P c)→∀ c∈Gt cs,P c:=by
  intro cs P
  induction cs with
  | nil=>intro _ c hc;rw[Gt]at hc;cases hc
  | cons a cs ih =>
    intro h c hc
    rw[Gt]at hc
    rcases Aqs.1 hc with hc | hc
    · exact h a (by simp) c hc
    · exact ih (fun x hx=>h x (Aqq _ hx)) c hc
 intro d
 induction d with
 | zero =>
  intro a h
  rw[GE]
  refine keyCs (fun x hx c hc=> ?_)
  have hr:=(Ck h).2 x hx
  rw[GG]at hc
  split at hc
  · rename_i hk;obtain ⟨e,y,he,_⟩:=Ty hk hr;omega
  · rename_i hk;simp at hc;subst hc;exact ⟨hk,_,hr⟩
 | succ d ih =>
  intro a h
  rw[GE]
  refine keyCs (fun x hx c hc=> ?_)
  have hr:=(Ck h).2 x hx
  rw[GG]at hc
  split at hc
  · rename_i hk
    obtain ⟨e,y,he,hy,hs,hry⟩:=Ty hk hr
    have:e=d:=by omega
    subst this
    rw[hy]at hc
    exact keyAs (fun z hz=>by simp at hz;subst hz;exact ih hry) c hc
  · rename_i hk;simp at hc;subst hc;exact ⟨hk,_,hr⟩
theorem AeN{a:Arr}(h:Am 8 a=true)(h0:(Gd a).2=0):Am 8 (Gd a).1=true:=by
 unfold Gd at h0 ⊢
 split
 · rename_i hl
   refine G8 (by simpa using Aed hl) (fun c hc=> ?_)
   obtain ⟨hk,e,he⟩:=Af1 h c hc
   exact KV hk he
 · rename_i hl;rw[if_neg hl]at h0;cases h0
theorem AeK{d:Nat}{a:Arr}(h:Sml d a):Sml (d+1) (I2 a).1:=by
 unfold I2
 split
 · exact h.mono (by omega)
 · split
   · exact ⟨by simp[Arr.none],by simp[Arr.none],by simp[Arr.none],by simp[Arr.none]⟩
   · refine ⟨by simp[Lc],by simp[Lc],by simp[Lc],fun c hc=> ?_⟩
     have:c=⟨Mf a,2,.zero,0,[a]⟩:=by simpa [Lc]using hc
     subst this
     exact ⟨by simp[Num.zero],by simp[Num.zero],by simp,fun x hx=>by simp at hx;subst hx;exact h⟩
theorem AeO{a:Arr}(h:Am 8 a=true):Sml 9 (Gd a).1:=by
 by_cases h0:(Gd a).2=0
 · exact Cd (AeN h h0)
 · unfold Gd at h0 ⊢
   split
   · rename_i hl;rw[if_pos hl]at h0;exact absurd rfl h0
   · exact ⟨by simp[Arr.none],by simp[Arr.none],by simp[Arr.none],by simp[Arr.none]⟩
section
variable {o:At} {a b n m:Arr}
end
theorem LS{n:Int}{s:At}(h:Bd n):Sml 1 (Dd n s):=⟨by simp[Dd],by simp[Dd],by simp[Dd],fun c hc=>by simp[Dd]at hc;subst hc;exact K0 h 0⟩
theorem inr(z:Int)(h1 : -100000≤z:=by decide)(h2:z≤100000:=by decide):Bd z:=by unfold Bd;omega
theorem Sw{z:Int}{k:Nat}(h:z.natAbs<B ^ k):Bu z≤k:=Ba.2 h
theorem IC(z:Int):z.natAbs<B ^ Bu z:=Ba.1 (Apx _)
theorem Ag7(x y:Int):Bu (x+y)≤max (Bu x) (Bu y)+1:=by
 refine Sw ?_
 have h1:x.natAbs<B ^ max (Bu x) (Bu y):=Aqk (IC x) (Nat.pow_le_pow_right B1 (Nat.le_max_left _ _))
 have h2:y.natAbs<B ^ max (Bu x) (Bu y):=Aqk (IC y) (Nat.pow_le_pow_right B1 (Nat.le_max_right _ _))
 have h3:=Int.natAbs_add_le x y
 rw[Aqr]
 generalize B ^ max (Bu x) (Bu y)=q at *
 rw[A0];omega
theorem Ag8(x:Int):Bu (-x)=Bu x:=by unfold Bu;rw[Int.natAbs_neg]
theorem Ga(z:Int):(wz z).mag.length=Bu z:=rfl
theorem XJ : ∀ (k n:Nat) (out base:Int),Bu out≤100→Bu (Ku k n out base).1≤100
 | 0,_,out,base,h=>h
 | k+1,n,out,base,h=>by
  have z0:Bu 0≤100:=by unfold Bu;rw[show Int.natAbs 0=0 from rfl,Da];simp
  rw[Ku]
  generalize (if n % 2=1 then out*base else out)=o
  split
  · exact h
  split
  · exact z0
  split
  · exact z0
  rename_i h3
  split
  · show Bu o≤100;omega
  · exact XJ k _ o _ (by omega)
theorem Ae8(x y:Int)(hy:y≠0):(El x y).1*y+(El x y).2=x∧(El x y).1.natAbs≤x.natAbs+1∧(El x y).2.natAbs<y.natAbs∧(0<y→0≤(El x y).2)∧(y<0→(El x y).2≤0):=by
 have hdm:=Nat.div_add_mod x.natAbs y.natAbs
 have hml:=Aqe x.natAbs (show 0<y.natAbs by omega)
 have hdl:=Nat.div_le_self x.natAbs y.natAbs
 unfold El
 generalize x.natAbs / y.natAbs=q at *
 generalize x.natAbs % y.natAbs=r at *
 generalize hX:x.natAbs=X at *
 generalize hY:y.natAbs=Y at *
 have hdm':(Y:Int)*(q:Int)+(r:Int)=(X:Int):=by rw[← hdm];simp
 by_cases hx0:x<0 <;> by_cases hy0:y<0
 · obtain rfl:x = -(X:Int):=by omega
   obtain rfl:y = -(Y:Int):=by omega
   simp only[hx0,hy0,if_true]
   refine ⟨by rw[Int.mul_neg,Int.mul_comm];omega,by omega,by omega,fun h=>by first | omega | exact False.elim h,fun h=>by first | omega | exact False.elim h⟩
 · obtain rfl:x = -(X:Int):=by omega
   obtain rfl:y=(Y:Int):=by omega
   simp only[hx0,hy0,if_true]
   rw[if_neg (by simp)]
   split
   · rename_i h0
     subst h0
     refine ⟨by rw[Int.neg_mul,Int.mul_comm];omega,by omega,by omega,fun h=>by first | omega | exact False.elim h,fun h=>by first | omega | exact False.elim h⟩
   · refine ⟨by rw[Int.sub_mul,Int.neg_mul,Int.mul_comm (q:Int)];omega,by omega,by omega,fun h=>by first | omega | exact False.elim h,fun h=>by first | omega | exact False.elim h⟩
 · obtain rfl:x=(X:Int):=by omega
   obtain rfl:y = -(Y:Int):=by omega
   simp only[hx0,hy0,if_false]
   rw[if_neg (by simp)]
   split
   · rename_i h0
     subst h0
     refine ⟨by rw[Int.neg_mul_neg,Int.mul_comm];omega,by omega,by omega,fun h=>by first | omega | exact False.elim h,fun h=>by first | omega | exact False.elim h⟩
   · refine ⟨by rw[Int.sub_mul,Int.neg_mul_neg,Int.mul_comm (q:Int)];omega,by omega,by omega,fun h=>by first | omega | exact False.elim h,fun h=>by first | omega | exact False.elim h⟩
 · obtain rfl:x=(X:Int):=by omega
   obtain rfl:y=(Y:Int):=by omega
   simp only[hx0,hy0,if_false,if_true]
   refine ⟨by rw[Int.mul_comm];omega,by omega,by omega,fun h=>by first | omega | exact False.elim h,fun h=>by first | omega | exact False.elim h⟩
def Sv:ByteArray:=K3
def F4(i:Nat):Nat:=(Sv.data.toList.getD i 0).toNat
theorem Ag6:((Aqj 256).all fun i=>decide (i<2 ^ F4 i)&&(i == 0||decide (2 ^ F4 i≤2*i))&&decide (F4 i≤8))=true:=by kernel_rfl
theorem P4{i:Nat}(h:i<256):i<2 ^ F4 i∧(0<i→2 ^ F4 i≤2*i)∧F4 i≤8:=by
 have:=List.all_eq_true.1 Ag6 i (List.mem_range.2 h)
 simp only[Apt,decide_eq_true_eq,Bool.or_eq_true,beq_iff_eq]at this
 exact ⟨this.1.1,fun h0=>by rcases this.1.2 with h | h <;> omega,this.2⟩
theorem L8{x:Int}(h1:0≤x)(h2:x<256):Api .u8 x=x:=by rw[IntKind.wrap_u8];omega
theorem QL(x y:Nat):Aqd (x:Int) (y:Int)=((x / y:Nat):Int):=by
 rw[Int.fdiv_eq_ediv_of_nonneg _ (Int.natCast_nonneg _)];rfl
theorem Ad9(x:Nat)(hx:x<B) : ∃ k:Nat,Sp 341 [.int (x:Int)] [.int (k:Int)]∧k≤32∧x<2 ^ k∧(0<x→2 ^ k≤2*x):=by
 have e16:(2:Int) ^ (min (Apj 16) (Apv .u32))=((65536:Nat):Int):=by decide
 have e8:(2:Int) ^ (min (Apj 8) (Apv .u32))=((256:Nat):Int):=by decide
 have hsz:(Sv.size:Int)=256:=by
       have:Sv.size=256:=by kernel_rfl
       omega
 rw[A0]at hx
 have tr:=Ad_ 0 (.int (x:Int))
 rw[show K3=Sv from rfl]at tr
 simp only[Ao,e16,e8,QL,hsz]at tr
 have fin : ∀ i c:Nat,i<256→c≤24→Api .i64 ((c:Int)+Api .i64 (((Sv.data.toList.getD (Apj (Api .u8 (i:Int))) 0).toNat:Nat):Int))=((c+F4 i:Nat):Int):=by
   intro i c hi hc
   have h8:=(P4 hi).2.2
   rw[L8 (by omega) (by omega),Apr]
   show Api .i64 ((c:Int)+Api .i64 ((F4 i:Nat):Int))=_
   rw[Aw (x:=((F4 i:Nat):Int)) (by omega) (by omega),Aw (by omega) (by omega)];omega
 have up : ∀ i c:Nat,i<256→0<i→i=x / 2 ^ c→x<2 ^ (c+F4 i)∧2 ^ (c+F4 i)≤2*x:=by
   intro i c hi h0 he
   obtain ⟨h1,h2,_⟩:=P4 hi
   have h3:=h2 h0
   rw[Nat.pow_add]
   have hp:0<2 ^ c:=Nat.pow_pos (by decide)
   constructor
   · have:x / 2 ^ c<2 ^ F4 i:=by omega
     rw[Aqu hp]at this
     rwa[Aqg]
   · have h4:i*2 ^ c≤x:=by rw[he];exact Nat.div_mul_le_self _ _
     calc 2 ^ c*2 ^ F4 i≤2 ^ c*(2*i):=Nat.mul_le_mul_left _ h3
      _=2*(i*2 ^ c):=by rw[Nat.mul_left_comm,Aqg (2 ^ c) i]
      _≤2*x:=Nat.mul_le_mul_left _ h4
 by_cases h1:65536≤x
 · by_cases h2:256≤x / 65536
   · have hi:x / 65536 / 256<256:=by omega
     obtain ⟨u1,u2⟩:=up _ 24 hi (by omega) (by rw[Aqm])
     have f1:=fin _ 24 hi (by omega)
     refine ⟨24+F4 (x / 65536 / 256),Af 0 tr ?_,by have:=(P4 hi).2.2;omega,u1,fun _=>u2⟩
     refine Ad (Bi (by decide) (Ad (Bi (by decide) (Ay (by rw[L8 (by omega) (by omega)];omega) (Ay (by rw[L8 (by omega) (by omega)];omega) (Ac ?_))))))
     rw[show Api .i64 (16+8)=((24:Nat):Int) by decide,f1]
   · have hi:x / 65536<256:=by omega
     obtain ⟨u1,u2⟩:=up _ 16 hi (by omega) (by rfl)
     have f1:=fin _ 16 hi (by omega)
     refine ⟨16+F4 (x / 65536),Af 0 tr ?_,by have:=(P4 hi).2.2;omega,u1,fun _=>u2⟩
     refine Ad (Bi (by decide) (Ar (Ay (by rw[L8 (by omega) (by omega)];omega) (Ay (by rw[L8 (by omega) (by omega)];omega) (Ac ?_)))))
     rw[show (16:Int)=((16:Nat):Int) from rfl,f1]
 · by_cases h2:256≤x
   · have hi:x / 256<256:=by omega
     obtain ⟨u1,u2⟩:=up _ 8 hi (by omega) (by rfl)
     have f1:=fin _ 8 hi (by omega)
     refine ⟨8+F4 (x / 256),Af 0 tr ?_,by have:=(P4 hi).2.2;omega,u1,fun _=>u2⟩
     refine Ar (Ad (Bi (by decide) (Ay (by rw[L8 (by omega) (by omega)];omega) (Ay (by rw[L8 (by omega) (by omega)];omega) (Ac ?_)))))
     rw[show Api .i64 (0+8)=((8:Nat):Int) by decide,f1]
   · have hi:x<256:=by omega
     have f1:=fin _ 0 hi (by omega)
     have h8:=P4 hi
     refine ⟨0+F4 x,Af 0 tr ?_,by omega,by rw[Aqv];exact h8.1,fun h0=>by rw[Aqv];exact h8.2.1 h0⟩
     refine Ar (Ar (Ay (by rw[L8 (by omega) (by omega)];omega) (Ay (by rw[L8 (by omega) (by omega)];omega) (Ac ?_))))
     rw[show (0:Int)=((0:Nat):Int) from rfl,f1]
theorem AdA(x:Nat)(hx:x<B)(h0:0<x) : ∃ s:Nat,Sp 335 [.int (x:Int)] [.int (s:Int)]∧s<32∧x*2 ^ s<B∧B≤2*(x*2 ^ s):=by
 obtain ⟨k,h1,h2,h3,h4⟩:=Ad9 x hx
 have h5:=h4 h0
 have hk:0<k:=by
   rcases Nat.eq_zero_or_pos k with e | e
   · subst e;simp at h3;omega
   · exact e
 have hb:B=2 ^ k*2 ^ (32-k):=by rw[← Nat.pow_add,show k+(32-k)=32 by omega];rfl
 have hp:0<2 ^ (32-k):=Nat.pow_pos (by decide)
 refine ⟨32-k,Af 0 (Ad8 _ _) (Aa h1 (Ac ?_)),by omega,?_,?_⟩
 · simp only[Ag,Ao]
   rw[Aw (by omega) (by omega)];congr 2;omega
 · rw[hb];exact Nat.mul_lt_mul_of_pos_right h3 hp
 · rw[hb,← Nat.mul_assoc];exact Ap3 _ h5
theorem Aik{l m:List Aq}(hl:l.length=m.length)(h:nv l=nv m):l=m:=by
 apply List.ext_getElem hl
 intro i g1 g2
 apply BitVec.eq_of_toNat_eq
 rw[Eh l i g1,Eh m i g2,h]
theorem Ail{v k:Nat}(h:v<B ^ k) : ∃ q:List Aq,q.length=k∧nv q=v:=by
 have h2:=Ba.2 h
 refine ⟨lb v++Apl (k-(lb v).length) 0,by simp;omega,?_⟩
 rw[Ih,Yv,Bv];simp
theorem VZ{X Y:Nat}(hX:X<18446744073709551616)(hY:Y<18446744073709551616):Br .or .u64 (X:Int) (Y:Int)=((X|||Y:Nat):Int):=by
 have h:Br .or .u64 (X:Int) (Y:Int)=bits .or .u64 (X:Int) (Y:Int):=by unfold Br bits;simp
 rw[h,u64_or_nat X Y hX hY]
theorem AiS{x c s:Nat}(hx:x<B)(hs:s<32)(hc:c<2 ^ s):Br .or .u64 ((x*2 ^ s:Nat):Int) (c:Int)=((x*2 ^ s+c:Nat):Int)∧x*2 ^ s+c<9223372036854775808:=by
 have h2:2 ^ s≤2 ^ 31:=Nat.pow_le_pow_right (by decide) (by omega)
 have h3:x*2 ^ s≤(B-1)*2 ^ 31:=Nat.mul_le_mul (by omega) h2
 rw[A0]at *
 refine ⟨?_,by omega⟩
 rw[VZ (by omega) (by omega)]
 congr 1
 have:=Nat.shiftLeft_add_eq_or_of_lt (i:=s) (b:=c) hc x
 rw[Nat.shiftLeft_eq]at this
 exact this.symm
theorem XX{s:Nat}(hs:s<32):(2:Int) ^ (min (Apj (Api .u64 (s:Int))) (Apv .u64))=((2 ^ s:Nat):Int):=by
 rw[Bs (by omega) (by omega),Apr,show Apv .u64=64 from rfl,Nat.min_eq_left (by omega)];simp
theorem VD(l:List Aq)(s:Nat)(hs:s<32)(hl:l.length≤1000000) : ∃ q:List Aq,q.length=l.length+1∧nv q=nv l*2 ^ s∧Sp 336 [dL l,.int (s:Int)] [dL q]:=by
 have hps:2 ^ s≤2 ^ 31:=Nat.pow_le_pow_right (by decide) (by omega)
 have hs0:0<2 ^ s:=Nat.pow_pos (by decide)
 have hv:nv l*2 ^ s<B ^ (l.length+1):=by
  rw[Aqr]
  exact Nat.mul_lt_mul'' (Cc l) (by rw[A0];omega)
 obtain ⟨q,hq1,hq2⟩:=Ail hv
 refine ⟨q,hq1,hq2,Af (l.length+2) (AhL _ _ _) ?_⟩
 simp only[Ah]
 rw[Aw (by omega) (by omega)]
 refine Ad (Ad (Ay (by simp only[Ak];omega) ?_))
 rw[show (l.length:Int)+1=((l.length+1:Nat):Int) by omega,Apr]
 have key:=Di l.length (fun m i (t:List Aq×Nat)=>Yo (l.length+2) m (dL l) (s:Int) ((t.1++Apl (l.length+1-i) 0).map dB) (t.2:Int) (dL l) (l.length:Int) (i:Int)) (fun _ _=>[dL q])
  (fun i t=>t.1.length=i∧t.2<2 ^ s∧nv t.1+B ^ i*t.2=(nv l % B ^ i)*2 ^ s)
  (fun m t ⟨h1,h2,h3⟩=>by
   have hlen:(t.1++Apl (l.length+1-l.length) (0:Aq)).length=l.length+1:=by simp[h1]
   have hc:t.2<B:=by rw[A0];omega
   rw[Aqc (Cc l)]at h3
   simp only[VE,Ah,hlen]
   rw[A0]at hc
   rw[Fw (x:=(t.2:Int)) (by omega) (by omega)]
   rw[← A0]at hc
   refine Ar (Ad (Ad (Ac ?_)))
   rw[E0 hc,map_set,List.set_append_right _ _ (by omega),h1,Nat.sub_self,show l.length+1-l.length=1 by omega]
   have:t.1++[Ap5 32 t.2]=q:=Aik (by simp[h1,hq1]) (by rw[Jv,h1,ofNat_lt hc,h3,hq2])
   rw[← this];rfl)
  (fun m i t hi ⟨h1,h2,h3⟩ ih=>by
   have gx:=Eh l i hi
   have xl:nv l / B ^ i % B<B:=Aqe _ B1
   have hms:nv l % B ^ (i+1)=nv l % B ^ i+B ^ i*(nv l / B ^ i % B):=Nat.mod_pow_succ
   have hlen:(t.1++Apl (l.length+1-i) (0:Aq)).length=l.length+1:=by simp[h1];omega
   have gX:(l.map dB).getD i D.nil=D.int ((nv l / B ^ i % B:Nat):Int):=by rw[Au (Apk hi),← gx];rfl
   simp only[VE,Ah,gX,hlen,XX hs,Bh i]
   generalize nv l / B ^ i % B=x at *
   obtain ⟨ho,hT⟩:=AiS xl hs h2
   have hxB:=xl
   rw[A0]at hxB
   rw[Bs (x:=(x:Int)) (by omega) (by omega),← Int.natCast_mul,Bs (x:=((x*2 ^ s:Nat):Int)) (by omega) (by omega),ho]
   generalize hTT:x*2 ^ s+t.2=T at *
   have hTl:=Aqe T B1
   have t4:Api .u32 (T:Int)=((T % B:Nat):Int):=by rw[IntKind.wrap_u32,A0];omega
   have Cu:((t.1++Apl (l.length+1-i) 0).map dB).set i (D.int ((T % B:Nat):Int))=((t.1++[Ap5 32 (T % B)])++Apl (l.length+1-(i+1)) 0).map dB:=by
     rw[E0 hTl,map_set,List.set_append_right _ _ (by omega),h1,Nat.sub_self,show l.length+1-i=(l.length+1-(i+1))+1 by omega,List.replicate_succ,List.set_cons_zero];simp
   rw[t4,Cu,Po]
   refine Ad (Ad (Ad (Ay (by rw[Bs (by omega) (by omega)];omega) (Ad (Ad (Bi (by decide) ?_))))))
   refine ih (t.1++[Ap5 32 (T % B)],T / 4294967296) ⟨by simp[h1],?_,?_⟩
   · show T / B<2 ^ s
     rw[Aqu B1,← hTT]
     have:x*2 ^ s+2 ^ s≤B*2 ^ s:=by rw[← Nat.succ_mul];exact Ap3 _ xl
     rw[Aqg (2 ^ s) B];omega
   · show nv (t.1++[Ap5 32 (T % B)])+B ^ (i+1)*(T / B)=_
     rw[Jv,h1,ofNat_lt hTl,hms,Nat.add_mul,← h3,Aqr,Nat.mul_assoc,Nat.mul_assoc (B ^ i) x,Nat.add_assoc,← Nat.mul_add,Nat.mod_add_div,← hTT,Nat.mul_add]
     omega)
  (l.length+2) 0 ([],0) (by omega) (by omega) ⟨rfl,hs0,by simp[Nat.mod_one,nv]⟩
 have e0:(([]:List Aq)++Apl (l.length+1-0) 0).map dB=Apl (l.length+1) (D.int 0):=by simp[List.map_replicate];rfl
 rw[e0]at key
 exact key
theorem Ae9(V s k:Nat)(hs:s<32):V / 2 ^ s / B ^ k % B=((V / B ^ (k+1) % B)*B+V / B ^ k % B) / 2 ^ s % B:=by
 have hs0:0<2 ^ s:=Nat.pow_pos (by decide)
 have hB:B=2 ^ s*2 ^ (32-s):=by rw[← Nat.pow_add,show s+(32-s)=32 by omega];rfl
 rw[Aqm,Aqg (2 ^ s),← Aqm,Aqr,← Aqm]
 generalize V / B ^ k=W
 have h1:W=(W / B % B*B+W % B)+2 ^ s*(B*(2 ^ (32-s)*(W / B / B))):=by
  have e1:=Nat.div_add_mod W B
  have e2:=Nat.div_add_mod (W / B) B
  have e3:2 ^ s*(B*(2 ^ (32-s)*(W / B / B)))=B*(B*(W / B / B)):=by
   rw[Nat.mul_left_comm,← Nat.mul_assoc (2 ^ s),← hB]
  rw[e3,Aqg (W / B % B) B]
  have e4:B*(W / B)=B*(B*(W / B / B))+B*(W / B % B):=by rw[← Nat.mul_add,e2]
  omega
 have h2:W / 2 ^ s=(W / B % B*B+W % B) / 2 ^ s+B*(2 ^ (32-s)*(W / B / B)):=by
  have:W / 2 ^ s=((W / B % B*B+W % B)+2 ^ s*(B*(2 ^ (32-s)*(W / B / B)))) / 2 ^ s:=by rw[← h1]
  rw[this,Nat.add_mul_div_left _ _ hs0]
 rw[h2,Nat.add_mul_mod_self_left]
theorem Ah_(l:List Aq)(s:Nat)(hs:s<32)(hl:l.length≤1000000):Sp 340 [dL l,.int (s:Int)] [dL (lb (nv l / 2 ^ s))]:=by
 refine Af (l.length+1) (AhA _ _ _) ?_
 simp only[Ah]
 refine Ad (Ad (Ay (by simp only[Ak];omega) ?_))
 have key:=Js (P:=Tryz.prog) (md:=md) (fun m k (hi:List Aq)=>Yf (l.length+1) m (dL l) (s:Int) ((Apl k 0++hi).map dB) ((nv l / B ^ k % B:Nat):Int) ((k:Int)-1)) (fun _ _=>[dL (lb (nv l / 2 ^ s))])
  (fun k hi=>k≤l.length∧hi.length=l.length-k∧nv hi=nv l / 2 ^ s / B ^ k)
  (fun m hi ⟨h0,h1,h2⟩=>by
   simp only[VA,List.replicate_zero,Aqx,Ah]
   refine Ar (Aa (F7 hi (by omega)) (Ac ?_))
   rw[h2,Nat.pow_zero,Nat.div_one];rfl)
  (fun m k hi ⟨h0,h1,h2⟩ ih=>by
   have hk:k<l.length:=by omega
   have gx:=Eh l k hk
   have xl:nv l / B ^ k % B<B:=Aqe _ B1
   have yl:nv l / B ^ (k+1) % B<B:=Aqe _ B1
   have hd:=Ae9 (nv l) s k hs
   have hlen:(Apl (k+1) (0:Aq)++hi).length=l.length:=by simp[h1];omega
   have gX:(l.map dB).getD k D.nil=D.int ((nv l / B ^ k % B:Nat):Int):=by rw[Au (Apk hk),← gx];rfl
   have b64:(2:Int) ^ (min (Apj 32) (Apv .u64))=4294967296:=by decide
   have rc:=ih (Ap5 32 (((nv l / B ^ (k+1) % B)*B+nv l / B ^ k % B) / 2 ^ s % B)::hi) ⟨by omega,by simp[h1];omega,by
    rw[nv,ofNat_lt (Aqe _ B1),h2,← hd,Aqr,← Aqm]
    exact Nat.mod_add_div _ _⟩
   simp only[VA,show ((k+1:Nat):Int)-1=(k:Int) by omega,Ah,gX,hlen,XX hs,b64]
   generalize nv l / B ^ k % B=x at *
   generalize nv l / B ^ (k+1) % B=y at *
   have hxB:=xl
   have hyB:=yl
   rw[A0]at hxB hyB
   have t1:Api .u64 ((y:Int)*4294967296)=((y*4294967296:Nat):Int):=by rw[Bs (by omega) (by omega)];omega
   rw[t1,Bs (x:=(x:Int)) (by omega) (by omega),Za hyB hxB,QL]
   have t4:Api .u32 (((y*4294967296+x) / 2 ^ s:Nat):Int)=(((y*B+x) / 2 ^ s % B:Nat):Int):=by
    rw[show y*4294967296+x=y*B+x from rfl]
    generalize (y*B+x) / 2 ^ s=T
    rw[IntKind.wrap_u32,A0];omega
   have hTl:=Aqe ((y*B+x) / 2 ^ s) B1
   have Cu:((Apl (k+1) 0++hi).map dB).set k (D.int (((y*B+x) / 2 ^ s % B:Nat):Int))=(Apl k 0++(Ap5 32 ((y*B+x) / 2 ^ s % B)::hi)).map dB:=by
    rw[E0 hTl,map_set,List.replicate_succ',Ap8,List.set_append_right _ _ (by simp)];simp
   rw[t4,Cu,Aw (by omega) (by omega)]
   refine Ad (Bi (by decide) (Ad (Ad (Ay (by rw[Bs (by omega) (by omega)];omega) (Ad (Ad (Ad (Ad ?_))))))))
   exact rc)
  (l.length+1) l.length [] (by omega) ⟨by omega,by simp,by
   rw[Nat.div_eq_of_lt (Nat.lt_of_le_of_lt (Nat.div_le_self _ _) (Cc l))];rfl⟩
 rw[Ap6,Nat.div_eq_of_lt (Cc l),Nat.zero_mod]at key
 have e0:(Apl l.length (0:Aq)).map dB=Apl l.length (D.int 0):=by rw[List.map_replicate];rfl
 rw[e0]at key
 rw[Aw (by omega) (by omega)]
 exact key
theorem AeV{U D D2 U3 p g:Nat}(hD:D<(D2+1)*p)(hU:U3*p≤U)(hg:g*D2≤U3)(hg1:g≤D2+1)(hD0:0<D):g≤U / D+1:=by
 rcases Nat.eq_zero_or_pos g with h0 | h0
 · rw[h0];exact Nat.zero_le _
 obtain ⟨h,rfl⟩ : ∃ h,g=h+1:=⟨g-1,by omega⟩
 refine Nat.succ_le_succ ((Nat.le_div_iff_mul_le hD0).2 ?_)
 have h1:h*D≤h*((D2+1)*p):=Nat.mul_le_mul_left _ (Nat.le_of_lt hD)
 have h2:h*(D2+1)≤(h+1)*D2:=by rw[Nat.mul_add,Nat.add_mul];omega
 calc h*D≤h*((D2+1)*p):=h1
  _=h*(D2+1)*p:=by rw[Nat.mul_assoc]
  _≤(h+1)*D2*p:=Ap3 _ h2
  _≤U3*p:=Ap3 _ hg
  _≤U:=hU
theorem AeU{U D D2 U3 p g:Nat}(hD:D2*p≤D)(hU:U<(U3+1)*p)(hgt:U3<g*D2)(hD0:0<D):U / D<g:=by
 rw[Aqu hD0]
 calc U<(U3+1)*p:=hU
  _≤g*D2*p:=Ap3 _ hgt
  _=g*(D2*p):=Nat.mul_assoc _ _ _
  _≤g*D:=Nat.mul_le_mul_left _ hD
theorem AhB(xs ds:List Aq)(n:Nat)(hd:ds.length=n+2)(hx:xs.length=n+3)(hn:n≤1000000)(htop:B ^ (n+2)≤2*nv ds)(hU:nv xs<B*nv ds) :
  ∃ g:Nat,Sp 337 [dL xs,dL ds] [.int (g:Int)]∧nv xs / nv ds≤g∧g≤nv xs / nv ds+1∧g<B:=by
 have xl:=Cc xs
 have dl:=Cc ds
 rw[hx]at xl
 rw[hd]at dl
 have hp:=Bp n
 have a0:=Eh xs n (by omega)
 have a1:=Eh xs (n+1) (by omega)
 have a2:=Eh xs (n+2) (by omega)
 have d0:=Eh ds n (by omega)
 have d1:=Eh ds (n+1) (by omega)
 have gx0:(xs.map dB).getD n D.nil=D.int ((nv xs / B ^ n % B:Nat):Int):=by rw[Au (Apk (show n<xs.length by omega)),← a0];rfl
 have gx1:(xs.map dB).getD (n+1) D.nil=D.int ((nv xs / B ^ (n+1) % B:Nat):Int):=by rw[Au (Apk (show n+1<xs.length by omega)),← a1];rfl
 have gx2:(xs.map dB).getD (n+2) D.nil=D.int ((nv xs / B ^ (n+2) % B:Nat):Int):=by rw[Au (Apk (show n+2<xs.length by omega)),← a2];rfl
 have gd0:(ds.map dB).getD n D.nil=D.int ((nv ds / B ^ n % B:Nat):Int):=by rw[Au (Apk (show n<ds.length by omega)),← d0];rfl
 have gd1:(ds.map dB).getD (n+1) D.nil=D.int ((nv ds / B ^ (n+1) % B:Nat):Int):=by rw[Au (Apk (show n+1<ds.length by omega)),← d1];rfl
 clear a0 a1 a2 d0 d1
 generalize nv xs=U at *
 generalize nv ds=D at *
 have eB2:B ^ (n+2)=B ^ n*(B*B):=by rw[Nat.pow_add];rfl
 have eB3:B ^ (n+3)=B ^ n*(B*B*B):=by rw[Nat.pow_add];rfl
 have e1U:U / B ^ (n+1)=U / B ^ n / B:=by rw[Aqr,Aqm]
 have e2U:U / B ^ (n+2)=U / B ^ n / B / B:=by rw[eB2,Aqm,Aqm]
 have e1D:D / B ^ (n+1)=D / B ^ n / B:=by rw[Aqr,Aqm]
 rw[e1U]at gx1
 rw[e2U]at gx2
 rw[e1D]at gd1
 have hD1:D / B ^ n*B ^ n≤D:=Nat.div_mul_le_self _ _
 have hD2:D<(D / B ^ n+1)*B ^ n:=by have:=Nat.lt_mul_div_succ D hp;rwa[Aqg]at this
 have hU1:U / B ^ n*B ^ n≤U:=Nat.div_mul_le_self _ _
 have hU2:U<(U / B ^ n+1)*B ^ n:=by have:=Nat.lt_mul_div_succ U hp;rwa[Aqg]at this
 have hU3:U / B ^ n<B*B*B:=by rw[Aqu hp,Aqg];rwa[eB3]at xl
 have hDs:D / B ^ n<B*B:=by rw[Aqu hp,Aqg];rwa[eB2]at dl
 have hDt:B*B≤2*(D / B ^ n)+1:=by
  have h1:B ^ n*(B*B)<B ^ n*(2*(D / B ^ n)+2):=by
   rw[← eB2,Nat.mul_add]
   have:B ^ n*(2*(D / B ^ n))=2*(D / B ^ n*B ^ n):=by rw[Nat.mul_left_comm,Aqg (B ^ n)]
   rw[this]
   have h3:D<D / B ^ n*B ^ n+B ^ n:=by rwa[Nat.add_mul,Nat.one_mul]at hD2
   omega
  have:=Nat.lt_of_mul_lt_mul_left h1
  omega
 have hD0:0<D:=by
  rcases Nat.eq_zero_or_pos D with h | h
  · rw[h]at hU;omega
  · exact h
 have hUD:U / B ^ n<B*(D / B ^ n+1):=by
  rw[Aqu hp,Nat.mul_assoc]
  exact Nat.lt_trans hU (Nat.mul_lt_mul_of_pos_left hD2 B1)
 have hqB:U / D<B:=by rw[Aqu hD0];exact hU
 generalize hU3e:U / B ^ n=U3 at *
 generalize hD2e:D / B ^ n=D2 at *
 have x0l:=Aqe U3 B1
 have x1l:=Aqe (U3 / B) B1
 have x2l:U3 / B / B<B:=by rw[Aqm,Aqu (by decide)];rwa[← Nat.mul_assoc]
 have y0l:=Aqe D2 B1
 have y1l:D2 / B<B:=by rw[Aqu B1];exact hDs
 rw[Aqc x2l]at gx2
 rw[Aqc y1l]at gd1
 have eU:U3=U3 % B+B*(U3 / B % B+B*(U3 / B / B)):=by
  rw[Nat.mod_add_div,Nat.mod_add_div]
 have eD:D2=D2 % B+B*(D2 / B):=(Nat.mod_add_div _ _).symm
 generalize U3 % B=x0 at *
 generalize U3 / B % B=x1 at *
 generalize U3 / B / B=x2 at *
 generalize D2 % B=y0 at *
 generalize D2 / B=y1 at *
 have y1g:2147483648≤y1:=by rw[A0]at *; omega
 have x2y:x2≤y1:=by rw[A0]at *; omega
 have fin : ∀ g:Nat,g<B→U / D≤g→g*D2≤U3→U / D≤g∧g≤U / D+1∧g<B:=fun g h1 h2 h3 =>
  ⟨h2,AeV hD2 hU1 h3 (by rw[A0]at *; omega) hD0,h1⟩
 have eH:U3=(x2*B+x1)*B+x0:=by rw[eU,Nat.add_mul,Nat.mul_add,Aqg B (B*x2),Aqg B x2,Aqg B x1];omega
 have b64:(2:Int) ^ (min (Apj 32) (Apv .u64))=4294967296:=by decide
 have wy1:Api .u64 (y1:Int)=(y1:Int):=by rw[A0]at *; exact Bs (by omega) (by omega)
 have wy0:Api .u64 (y0:Int)=(y0:Int):=by rw[A0]at *; exact Bs (by omega) (by omega)
 have wx0:Api .u64 (x0:Int)=(x0:Int):=by rw[A0]at *; exact Bs (by omega) (by omega)
 have wx1:Api .u64 (x1:Int)=(x1:Int):=by rw[A0]at *; exact Bs (by omega) (by omega)
 have wx2:Api .u64 (x2:Int)=(x2:Int):=by rw[A0]at *; exact Bs (by omega) (by omega)
 have i1:Api .i64 (((n+2:Nat):Int)-1)=((n+1:Nat):Int):=by rw[Aw (by omega) (by omega)];omega
 have i2:Api .i64 (((n+2:Nat):Int)-2)=((n:Nat):Int):=by rw[Aw (by omega) (by omega)];omega
 have loop : ∀ (m N g r:Nat),g<m→g*y1+r=x2*B+x1→U / D≤g→r<B →
   ∃ y:Nat,Tw (Qd N m (dL xs) (dL ds) ((n+2:Nat):Int) (g:Int) (r:Int)) [.int (y:Int)]∧U / D≤y∧y≤U / D+1∧y<B:=by
  intro m
  induction m with
  | zero=>intro N g r h;omega
  | succ m ih =>
   intro N g r hm he hq hr
   have gl:g<18446744073709551616:=by
     have:g*1≤g*y1:=Nat.mul_le_mul_left _ (by omega)
     rw[A0]at *; omega
   have e1:Api .u64 ((r:Int)+(y1:Int))=((r+y1:Nat):Int):=by rw[A0]at *; rw[Bs (by omega) (by omega)];omega
   have stp:0<g→U / D≤g-1→∃ y:Nat,Tw (.br (decide (0≤((n+1:Nat):Int))) (.br (decide (((n+1:Nat):Int)<((n+2:Nat):Int))) (.br (decide ((0:Int)≤32)) (.br (decide (¬ (((r+y1) / 4294967296:Nat):Int)=0)) (.ret [.int (Api .u64 ((g:Int)-1))]) (Qd N m (dL xs) (dL ds) ((n+2:Nat):Int) (Api .u64 ((g:Int)-1)) ((r+y1:Nat):Int))) .fail) .fail) .fail) [.int (y:Int)]∧U / D≤y∧y≤U / D+1∧y<B:=by
     intro h0 hq'
     obtain ⟨h,rfl⟩ : ∃ h,g=h+1:=⟨g-1,by omega⟩
     simp only[Nat.add_sub_cancel]at hq'
     have ew:Api .u64 (((h+1:Nat):Int)-1)=(h:Int):=by rw[Bs (by omega) (by omega)];omega
     rw[ew]
     have he':h*y1+(r+y1)=x2*B+x1:=by rw[← he,Nat.add_mul];omega
     by_cases hb:r+y1<B
     · obtain ⟨y,t1,t2⟩:=ih N h (r+y1) (by omega) he' hq' hb
       refine ⟨y,Ad (Ad (Bi (by decide) (Oz ?_ t1))),t2⟩
       rw[A0]at hb;omega
     · have hlt:h<B:=by
         have h3:x2*B≤y1*B:=Ap3 _ x2y
         have h4:h*y1<B*y1:=by rw[Aqg B y1];omega
         exact Nat.lt_of_mul_lt_mul_right h4
       refine ⟨h,Ad (Ad (Bi (by decide) (Ay ?_ (Ac rfl)))),fin h hlt hq' ?_⟩
       · rw[A0]at hb;omega
       · have h5:h*y0≤B*B:=Nat.mul_le_mul (by omega) (by omega)
         have h6:B*B≤(r+y1)*B:=Ap3 _ (by omega)
         rw[eH,← he',eD,Nat.mul_add,Nat.add_mul,Nat.mul_left_comm h B y1,Aqg B (h*y1)]
         omega
   simp only[AhC,Ah,hd,hx,i1,i2,gx0,gd0,gd1,wy1,wy0,wx0,e1,Po]
   by_cases hgB:g<B
   · have c0:((g / 4294967296:Nat):Int)=0:=by rw[A0]at hgB;omega
     have hrB:=hr
     have x0B:=x0l
     rw[A0]at hrB x0B
     have t1:Api .u64 ((r:Int)*4294967296)=((r*4294967296:Nat):Int):=by rw[Bs (by omega) (by omega)];omega
     have gy:g*y0≤(B-1)*(B-1):=Nat.mul_le_mul (by omega) (by omega)
     have t2:Api .u64 ((g:Int)*(y0:Int))=((g*y0:Nat):Int):=by rw[← Int.natCast_mul];rw[A0]at gy;exact Bs (by omega) (by omega)
     rw[b64,t1,Za hrB x0B,t2,c0]
     by_cases ht:r*B+x0<g*y0
     · have hlow:U / D<g:=AeU hD1 hU2 (by
         rw[eH,← he,eD,Nat.mul_add,Nat.add_mul,Nat.mul_left_comm g B y1,Aqg B (g*y1)];omega) hD0
       obtain ⟨y,s1,s2⟩:=stp (Nat.lt_of_le_of_lt (Nat.zero_le _) hlow) (Nat.le_sub_one_of_lt hlow)
       refine ⟨y,Bi (by decide) (Ar (Ad (Ad (Bi (by decide) (Ad (Ad (Ay ?_ s1))))))),s2⟩
       rw[A0]at ht;omega
     · refine ⟨g,Bi (by decide) (Ar (Ad (Ad (Bi (by decide) (Ad (Ad (Oz ?_ (Ac rfl)))))))),fin g hgB hq ?_⟩
       · rw[A0]at ht;omega
       · rw[eH,← he,eD,Nat.mul_add,Nat.add_mul,Nat.mul_left_comm g B y1,Aqg B (g*y1)];omega
   · obtain ⟨y,s1,s2⟩:=stp (by rw[A0]at hgB;omega) (by omega)
     refine ⟨y,Bi (by decide) (Ay ?_ s1),s2⟩
     rw[A0]at hgB;omega
 have hH:(x2*B+x1) / y1*y1+(x2*B+x1) % y1=x2*B+x1:=by rw[Aqg];exact Nat.div_add_mod _ _
 have hr0:(x2*B+x1) % y1<B:=Nat.lt_trans (Aqe _ (by omega)) y1l
 have hq0:U / D≤(x2*B+x1) / y1:=by
  rw[Nat.le_div_iff_mul_le (by omega)]
  have h1:U / D*D≤U:=Nat.div_mul_le_self _ _
  have h2:U / D*(D2*B ^ n)<(U3+1)*B ^ n:=Nat.lt_of_le_of_lt (Nat.le_trans (Nat.mul_le_mul_left _ hD1) h1) hU2
  rw[← Nat.mul_assoc]at h2
  have h3:=Nat.lt_of_mul_lt_mul_right h2
  have h4:U / D*(B*y1)≤U / D*D2:=Nat.mul_le_mul_left _ (by omega)
  have h5:U / D*y1*B<(x2*B+x1+1)*B:=by
   have:U / D*(B*y1)=U / D*y1*B:=by rw[Aqg B y1,Nat.mul_assoc]
   rw[← this,Nat.add_mul,Nat.one_mul]
   omega
  have:=Nat.lt_of_mul_lt_mul_right h5
  omega
 obtain ⟨g,l1,l2⟩:=loop ((x2*B+x1) / y1+1) ((x2*B+x1) / y1+1) ((x2*B+x1) / y1) ((x2*B+x1) % y1) (by omega) hH hq0 hr0
 refine ⟨g,Af ((x2*B+x1) / y1+1) (AhD _ _ _) ?_,l2⟩
 have x1B:=x1l
 have x2B:=x2l
 rw[A0]at x1B x2B
 have t1:Api .u64 ((x2:Int)*4294967296)=((x2*4294967296:Nat):Int):=by rw[Bs (by omega) (by omega)];omega
 have hne:decide ¬ (y1:Int)=0=true:=by simp;omega
 have eq1:Api .u64 (Int.tdiv ((x2*4294967296+x1:Nat):Int) (y1:Int))=(((x2*B+x1) / y1:Nat):Int):=by
  rw[show Int.tdiv ((x2*4294967296+x1:Nat):Int) (y1:Int)=(((x2*B+x1) / y1:Nat):Int) from rfl]
  have h1:(x2*B+x1) / y1≤x2*B+x1:=Nat.div_le_self _ _
  generalize (x2*B+x1) / y1=Q at h1 ⊢
  rw[A0]at h1
  exact Bs (by omega) (by omega)
 have eq2:Int.tmod ((x2*4294967296+x1:Nat):Int) (y1:Int)=(((x2*B+x1) % y1:Nat):Int):=rfl
 simp only[Ah,hd,hx,i1,gx1,gx2,gd1,wy1,wx1,wx2,b64,t1,Za x2B x1B,eq1,eq2]
 exact Ad (Ad (Bi (by decide) (Ad (Ad (Ad (Ad (Ad (Ad (Ad (Ad l1))))))))))
open Go.RowKit
def Pb(x y c:Int):Int:=if x<y+c then 1 else 0
theorem An2(x y c:Int)(hx1:0≤x)(hx2:x<4294967296)(hy1:0≤y)(hy2:y<4294967296)(hc1:0≤c)(hc2:c≤1) :
  bits BinOp.or IntKind.u32 (bits BinOp.and IntKind.u32 (bits BinOp.xor IntKind.u32 IntKind.u32.max x) y) (bits BinOp.and IntKind.u32 (bits BinOp.xor IntKind.u32 IntKind.u32.max (bits BinOp.xor IntKind.u32 x y)) ((x-y-c) % 4294967296)) / 2147483648=Pb x y c:=by
 obtain ⟨X,rfl⟩:=Int.eq_ofNat_of_zero_le hx1
 obtain ⟨Y,rfl⟩:=Int.eq_ofNat_of_zero_le hy1
 obtain ⟨C,rfl⟩:=Int.eq_ofNat_of_zero_le hc1
 have hD0:0≤((X:Int)-Y-C) % 4294967296:=by omega
 obtain ⟨D,hD⟩:=Int.eq_ofNat_of_zero_le hD0
 have hm:IntKind.u32.max=((4294967295:Nat):Int):=by decide
 have e1:(4294967295^^^X)<2 ^ 32:=Nat.xor_lt_two_pow (by omega) (by omega)
 have e2:(X^^^Y)<2 ^ 32:=Nat.xor_lt_two_pow (by omega) (by omega)
 have e3:(4294967295^^^(X^^^Y))<2 ^ 32:=Nat.xor_lt_two_pow (by omega) e2
 have e4:((4294967295^^^X)&&&Y)<2 ^ 32:=Nat.and_lt_two_pow _ (by omega)
 have e5:((4294967295^^^(X^^^Y))&&&D)<2 ^ 32:=Nat.and_lt_two_pow _ (by omega)
 rw[hD,hm,u32_xor_nat 4294967295 X (by omega) (by omega),u32_xor_nat X Y (by omega) (by omega),u32_xor_nat 4294967295 _ (by omega) (by omega),u32_and_nat _ Y (by omega) (by omega),u32_and_nat _ D (by omega) (by omega),u32_or_nat _ _ (by omega) (by omega)]
 have:=AbO X Y D C (by omega) (by omega) (by omega) (by rw[← hD])
 rw[this];unfold Pb
 by_cases h:X<Y+C
 · rw[if_pos h,if_pos (by omega)]
 · rw[if_neg h,if_neg (by omega)]
set_option maxHeartbeats 400000 in
theorem AcV(x y c:Int)(w:World)(hx:0≤x∧x<4294967296)(hy:0≤y∧y<4294967296)(hc:0≤c∧c≤1) :
  Calls Tryz.prog 333 #[.int .u32 x,.int .u32 y,.int .u32 c] w fun e w'=>e = .returned (.tuple #[.int .u32 ((x+y+c) % 4294967296),.int .u32 ((x+y+c) / 4294967296)])∧w=w':=by
 obtain ⟨hx1,hx2⟩:=hx
 obtain ⟨hy1,hy2⟩:=hy
 obtain ⟨hc1,hc2⟩:=hc
 go_enter Tryz.func333,Tryz.ntmps333
 go_wp2
 go_ret2
 exact ⟨rfl,rfl⟩
set_option maxHeartbeats 400000 in
theorem AbM(x y c:Int)(w:World)(hx:0≤x∧x<4294967296)(hy:0≤y∧y<4294967296)(hc:0≤c∧c≤1) :
  Calls Tryz.prog 334 #[.int .u32 x,.int .u32 y,.int .u32 c] w fun e w'=>e = .returned (.tuple #[.int .u32 ((x-y-c) % 4294967296),.int .u32 (Pb x y c)])∧w=w':=by
 obtain ⟨hx1,hx2⟩:=hx
 obtain ⟨hy1,hy2⟩:=hy
 obtain ⟨hc1,hc2⟩:=hc
 go_enter Tryz.func334,Tryz.ntmps334
 go_wp2
 go_ret2
 exact ⟨by rw[← An2 x y c hx1 hx2 hy1 hy2 hc1 hc2];rfl,rfl⟩
def iB(b:Aq):Int:=(b.toNat:Int)
def O5(w:World)(v:Value)(l:List Aq):Prop:=SlI w v .u32 (l.map iB)
def OwL(w0 w:World)(G cap:Nat)(l:List Aq):Prop:=Own w0 w 180 1 l.length (.slice (some ⟨G,0,none⟩) l.length cap) ((l.map iB).map (.int .u32))
theorem OwL.cell {w0 w:World} {G cap:Nat} {l:List Aq} (h:OwL w0 w G cap l) (i:Nat) (hi:i<l.length):w.cell? ⟨G,i,none⟩=some (.int .u32 ((l[i]).toNat:Int))∧w.frozen? ⟨G,i,none⟩=false∧w0.heap.size≤G∧G<w.heap.size:=by
 obtain ⟨g,cap',hv,h1,h2,h3,h4,h5,h6⟩:=h.at_ (by omega)
 injection hv with hA _ hc
 cases hA
 exact ⟨h4 i _ (by simp[hi,iB]),h5 i,h1,h2⟩
theorem OwL.set {w0 w:World} {G cap:Nat} {l:List Aq} (h:OwL w0 w G cap l) (i:Nat) (hi:i<l.length) (x:Aq):OwL w0 (w.setCell ⟨G,i,none⟩ (.int .u32 (x.toNat:Int))) G cap (l.set i x):=by
 obtain ⟨g,cap',hv,h1,h2,h3,h4,h5,h6⟩:=h.at_ (by omega)
 injection hv with hA _ hc
 cases hA
 have:=h6 i (.int .u32 (x.toNat:Int))
 unfold OwL
 rw[List.length_set,List.map_set,List.map_set]
 exact this
theorem Sl(w:World)(G:Nat):w.grownBy w (some G):=World.grownBy.refl w _
def MX(w0 w:World)(lo xs hi ds:List Aq)(G cap g:Nat)(e:Ending)(w':World):Prop :=
 ∃ (out:List Aq) (b:Nat),b≤1∧e = .returned (.bool (!(b == 0)))∧out.length=xs.length∧nv out+g*nv ds=nv xs+B ^ xs.length*b∧OwL w0 w' G cap (lo++out++hi)∧w.grownBy w' (some G)
theorem DQ{lo out xs hi:List Aq}{i:Nat}(h:out.length=i)(hi':i<xs.length)(x:Aq):(lo++(out++xs.drop i)++hi).set (lo.length+i) x=lo++((out++[x])++xs.drop (i+1))++hi:=by
 rw[Ap8,List.set_append_right _ _ (by omega),Nat.add_sub_cancel_left,List.set_append_left _ _ (by simp;omega),List.set_append_right _ _ (by omega),h,Nat.sub_self,Aqa hi',List.set_cons_zero]
 simp
theorem DO{lo out xs hi:List Aq}{i:Nat}(h:out.length=i)(hi':i<xs.length)(hk:lo.length+i<(lo++(out++xs.drop i)++hi).length):(lo++(out++xs.drop i)++hi)[lo.length+i]=xs[i]:=by
 have:(lo++(out++xs.drop i)++hi)[lo.length+i]? = some xs[i]:=by
  rw[Ap8,Aqn (by omega),Nat.add_sub_cancel_left,Ap_ (by simp;omega),Aqn (by omega),h,Nat.sub_self]
  simp[hi']
 rw[Apk hk]at this
 exact Option.some.inj this
theorem Qh(l:List Aq)(i:Nat)(hi:i<l.length):nv (l.take (i+1))=nv (l.take i)+B ^ i*(l[i]).toNat:=by
 rw[List.take_succ_eq_append_getElem hi,Jv,Ap0,Nat.min_eq_left (by omega)]
theorem AbZ{O g D U P c b x t X z b':Nat}(h:O+g*D=U+P*(c+b))(ht:t=g*x+c)(hz:X+B*b'=z+t % B+b):(O+P*z)+g*(D+P*x)=(U+P*X)+P*B*(t / B+b'):=by
 have e1:P*(X+B*b')=P*(z+t % B+b):=by rw[hz]
 have e2:t % B+B*(t / B)=t:=Nat.mod_add_div _ _
 have e3:P*(t % B+B*(t / B))=P*(g*x+c):=by rw[e2,ht]
 have e4:g*(P*x)=P*(g*x):=Nat.mul_left_comm _ _ _
 simp only[Nat.mul_add,Nat.mul_assoc]at *
 omega
theorem OJ{X t b:Nat}(hX:X<B)(hb:b≤1) : ∃ z b':Nat,z<B∧b'≤1∧X+B*b'=z+t % B+b∧(((X:Int)-((t % B:Nat):Int)-(b:Int)) % 4294967296=(z:Int))∧Pb (X:Int) ((t % B:Nat):Int) (b:Int)=(b':Int):=by
 have:=Aqe t B1
 generalize t % B=s at *
 rw[A0]at *
 by_cases h:X<s+b
 · exact ⟨X+4294967296-s-b,1,by omega,by omega,by omega,by omega,by unfold Pb;rw[if_pos (by omega)];rfl⟩
 · exact ⟨X-s-b,0,by omega,by omega,by omega,by omega,by unfold Pb;rw[if_neg (by omega)];rfl⟩
set_option maxHeartbeats 2000000 in
theorem An9(w0 w:World)(lo xs hi ds:List Aq)(G cap c' g:Nat)(v:Value)(hxs:xs.length=ds.length+1)(hlen:(lo++xs++hi).length≤1000000000)(hc':xs.length≤c')(hown:OwL w0 w G cap (lo++xs++hi))(hds : ∀ w',w.grownBy w' (some G)→O5 w' v ds)(hg:g<B) :
  Calls Tryz.prog 338 #[.slice (some ⟨G,lo.length,none⟩) xs.length c',v,.int .u64 g] w (MX w0 w lo xs hi ds G cap g):=by
 obtain ⟨A,cd,rfl,hcd,_⟩:=(hds w (Sl w G)).form
 have hll:lo.length+xs.length+hi.length≤1000000000:=by have:=hlen;simp at this;omega
 rw[Apm]at hds hcd ⊢
 have HO:=Lib.hid hown
 have HD:=Lib.hid hds
 have HG:=Lib.hid hg
 rw[A0]at hg
 clear hown hds hlen
 generalize hn:ds.length=n at *
 rw[hxs]
 go_enter Tryz.func338,Tryz.ntmps338
 go_wp2_with fail
 go_loopw [7,8,15] (fun cv bv iv wr=>∃ (k c b:Nat) (out:List Aq),k≤n∧iv = .int .i64 k∧cv = .int .u64 c∧bv = .int .u32 b∧out.length=k∧c<B∧b≤1∧nv out+g*nv (ds.take k)=nv (xs.take k)+B ^ k*(c+b)∧OwL w0 wr G cap (lo++(out++xs.drop k)++hi)∧w.grownBy wr (some G)) (fun _ _ iv _=>n-(intOf iv).toNat)
 case atStart=>exact ⟨0,0,0,[],Nat.zero_le _,rfl,rfl,rfl,rfl,B1,by omega,by simp[nv],by simpa using HO.out,Sl w G⟩
 case round =>
  obtain ⟨k,c,b,out,hk,rfl,rfl,rfl,ho,hc,hb,heq,hown,hgr⟩:=hrel
  have HQ:=Lib.hid heq
  have HOW:=Lib.hid hown
  have HGR:=Lib.hid hgr
  have HC:=Lib.hid hc
  rw[A0]at hc
  clear heq hown hgr
  by_cases hlt:k<n
  · have hkx:k<xs.length:=by omega
    have hkl:lo.length+k<(lo++(out++xs.drop k)++hi).length:=by simp;omega
    obtain ⟨hcell,hfk,hG1,hG2⟩:=HOW.out.cell (lo.length+k) hkl
    rw[DO ho hkx hkl]at hcell
    obtain ⟨_,_,hvq,_,hclq⟩:=(HD.out wr HGR.out).form
    injection hvq with hvq1 hvq2 hvq3
    subst hvq1
    subst hvq3
    clear hvq2
    obtain ⟨ad,rfl,hb1,hce⟩:=hclq k (by simp;omega)
    have hkd:k<ds.length:=by omega
    have hdk:((ds.map iB)[k]'(by simp;omega))=((ds[k]).toNat:Int):=by simp[iB]
    rw[hdk]at hce
    have xB:=Fe xs[k]
    have dB_:=Fe ds[k]
    have st:=fun (z:Aq)=>HOW.out.set (lo.length+k) hkl z
    have ws:=fun (z:Aq)=>DQ (lo:=lo) (hi:=hi) ho hkx z
    have ht1:=Qh ds k hkd
    have ht2:=Qh xs k hkx
    generalize (xs[k]).toNat=X at *
    generalize (ds[k]).toNat=Y at *
    have hgy:g*Y≤(B-1)*(B-1):=Nat.mul_le_mul (by rw[A0];omega) (by omega)
    obtain ⟨z,b',hz,hb',hzz,hm,hbr⟩:=OJ (t:=g*Y+c) xB hb
    have HST:=Lib.hid (AbZ HQ.out rfl hzz)
    have HS:=Lib.hid (st (Ap5 32 z))
    have HW:=Lib.hid (ws (Ap5 32 z))
    have HT1:=Lib.hid ht1
    have HT2:=Lib.hid ht2
    have HZ:=Lib.hid hz
    have htB:(g*Y+c) / B<B:=by rw[Aqu B1,A0]at *; omega
    have HTB:=Lib.hid htB
    rw[A0]at hgy xB dB_ hz htB
    have hp1:0≤(g:Int)*(Y:Int):=by rw[← Int.natCast_mul];exact Int.natCast_nonneg _
    have hp2:(g:Int)*(Y:Int)≤18446744065119617025:=by rw[← Int.natCast_mul];omega
    have ec:(((g*Y+c) % B:Nat):Int)=((g:Int)*(Y:Int)+(c:Int)) % 4294967296:=by rw[Int.natCast_emod,Int.natCast_add,Int.natCast_mul];rfl
    rw[ec]at hm hbr
    have HM:=Lib.hid hm
    have HB:=Lib.hid hbr
    clear hclq hdk st ws ht1 ht2 hzz htB hgy ec hm hbr
    go_wp2_with (go_at_call 334;refine (AbM (X:Int) (((g:Int)*(Y:Int)+(c:Int)) % 4294967296) (b:Int) _ ⟨by omega,by omega⟩ ⟨by omega,by omega⟩ ⟨by omega,by omega⟩).mono ?_;rw[HM.out,HB.out];rintro e w' ⟨rfl,rfl⟩)
    go_roundw
    case rel =>
      have hs:=HS.out
      rw[HW.out,ofNat_lt HZ.out]at hs
      refine ⟨k+1,(g*Y+c) / B,b',out++[Ap5 32 z],by omega,by go_num,?_,rfl,by simp[ho],HTB.out,hb',?_,hs,Sm HGR.out _ _ _⟩
      · congr 1
      · rw[Jv,ho,ofNat_lt HZ.out,HT1.out,HT2.out,Aqr];exact HST.out
    case measure=>(simp[intOf] <;> omega)
  · have hkn:k=n:=by omega
    subst hkn
    have hkx:k<xs.length:=by omega
    have hkl:lo.length+k<(lo++(out++xs.drop k)++hi).length:=by simp;omega
    obtain ⟨hcell,hfk,hG1,hG2⟩:=HOW.out.cell (lo.length+k) hkl
    rw[DO ho hkx hkl]at hcell
    have xB:=Fe xs[k]
    have st:=fun (z:Aq)=>HOW.out.set (lo.length+k) hkl z
    have ws:=fun (z:Aq)=>DQ (lo:=lo) (hi:=hi) ho hkx z
    have ht2:=Qh xs k hkx
    generalize (xs[k]).toNat=X at *
    obtain ⟨z,b',hz,hb',hzz,hm,hbr⟩:=OJ (t:=c) xB hb
    have HST:=Lib.hid (AbZ (x:=0) (t:=c) HQ.out (by simp) hzz)
    have HS:=Lib.hid (st (Ap5 32 z))
    have HW:=Lib.hid (ws (Ap5 32 z))
    have HT2:=Lib.hid ht2
    have HZ:=Lib.hid hz
    have ec:c % B=c:=Aqc HC.out
    rw[ec]at hm hbr
    rw[A0]at xB hz
    have HM:=Lib.hid hm
    have HB:=Lib.hid hbr
    clear st ws ht2 hzz ec hm hbr
    go_wp2_with (go_at_call 334;refine (AbM (X:Int) (c:Int) (b:Int) _ ⟨by omega,by omega⟩ ⟨by omega,by omega⟩ ⟨by omega,by omega⟩).mono ?_;rw[HM.out,HB.out];rintro e w' ⟨rfl,rfl⟩)
    go_ret
    have hs:=HS.out
    rw[HW.out,ofNat_lt HZ.out,List.drop_of_length_le (by omega),Ap6]at hs
    refine ⟨out++[Ap5 32 z],b',hb',?_,by simp[ho,hxs],?_,hs,Sm HGR.out _ _ _⟩
    · rcases Nat.le_one_iff_eq_zero_or_eq_one.1 hb' with h | h <;> subst h <;> rfl
    · have h1:=HST.out
      rw[Nat.div_eq_of_lt HC.out,Nat.mul_zero,Nat.add_zero,Aqv,← HT2.out,← Aqr,Aqh (by omega),Aqh (by omega)]at h1
      rw[Jv,ho,ofNat_lt HZ.out,hxs];exact h1
def MW(w0 w:World)(lo xs hi ds:List Aq)(G cap:Nat)(e:Ending)(w':World):Prop :=
 ∃ (out:List Aq) (b:Nat) (v:Value),e = .returned v∧out.length=xs.length∧nv out+B ^ xs.length*b=nv xs+nv ds∧OwL w0 w' G cap (lo++out++hi)∧w.grownBy w' (some G)
theorem WH{O D U P c X Y:Nat}(h:O+P*c=U+D):(O+P*((X+Y+c) % B))+P*B*((X+Y+c) / B)=(U+P*X)+(D+P*Y):=by
 have e2:(X+Y+c) % B+B*((X+Y+c) / B)=X+Y+c:=Nat.mod_add_div _ _
 have e3:P*((X+Y+c) % B+B*((X+Y+c) / B))=P*(X+Y+c):=by rw[e2]
 simp only[Nat.mul_add,Nat.mul_assoc]at *
 omega
set_option maxHeartbeats 2000000 in
theorem Aj5(w0 w:World)(lo xs hi ds:List Aq)(G cap c':Nat)(v:Value)(hxs:xs.length=ds.length+1)(hlen:(lo++xs++hi).length≤1000000000)(hc':xs.length≤c')(hown:OwL w0 w G cap (lo++xs++hi))(hds : ∀ w',w.grownBy w' (some G)→O5 w' v ds) :
  Calls Tryz.prog 339 #[.slice (some ⟨G,lo.length,none⟩) xs.length c',v] w (MW w0 w lo xs hi ds G cap):=by
 obtain ⟨A,cd,rfl,hcd,_⟩:=(hds w (Sl w G)).form
 have hll:lo.length+xs.length+hi.length≤1000000000:=by have:=hlen;simp at this;omega
 rw[Apm]at hds hcd ⊢
 have HO:=Lib.hid hown
 have HD:=Lib.hid hds
 clear hown hds hlen
 generalize hn:ds.length=n at *
 rw[hxs]
 go_enter Tryz.func339,Tryz.ntmps339
 go_wp2_with fail
 go_loopw [4,9] (fun cv iv wr=>∃ (k c:Nat) (out:List Aq),k≤n∧iv = .int .i64 k∧cv = .int .u32 c∧out.length=k∧c≤1∧nv out+B ^ k*c=nv (xs.take k)+nv (ds.take k)∧OwL w0 wr G cap (lo++(out++xs.drop k)++hi)∧w.grownBy wr (some G)) (fun _ iv _=>n-(intOf iv).toNat)
 case atStart=>exact ⟨0,0,[],Nat.zero_le _,rfl,rfl,rfl,by omega,by simp[nv],by simpa using HO.out,Sl w G⟩
 case round =>
  obtain ⟨k,c,out,hk,rfl,rfl,ho,hc,heq,hown,hgr⟩:=hrel
  have HQ:=Lib.hid heq
  have HOW:=Lib.hid hown
  have HGR:=Lib.hid hgr
  clear heq hown hgr
  by_cases hlt:k<n
  · have hkx:k<xs.length:=by omega
    have hkl:lo.length+k<(lo++(out++xs.drop k)++hi).length:=by simp;omega
    obtain ⟨hcell,hfk,hG1,hG2⟩:=HOW.out.cell (lo.length+k) hkl
    rw[DO ho hkx hkl]at hcell
    obtain ⟨_,_,hvq,_,hclq⟩:=(HD.out wr HGR.out).form
    injection hvq with hvq1 hvq2 hvq3
    subst hvq1
    subst hvq3
    clear hvq2
    obtain ⟨ad,rfl,hb1,hce⟩:=hclq k (by simp;omega)
    have hkd:k<ds.length:=by omega
    have hdk:((ds.map iB)[k]'(by simp;omega))=((ds[k]).toNat:Int):=by simp[iB]
    rw[hdk]at hce
    have xB:=Fe xs[k]
    have dB_:=Fe ds[k]
    have st:=fun (z:Aq)=>HOW.out.set (lo.length+k) hkl z
    have ws:=fun (z:Aq)=>DQ (lo:=lo) (hi:=hi) ho hkx z
    have ht1:=Qh ds k hkd
    have ht2:=Qh xs k hkx
    generalize (xs[k]).toNat=X at *
    generalize (ds[k]).toNat=Y at *
    have HZ:=Lib.hid (Aqe (X+Y+c) B1)
    have HST:=Lib.hid (WH (X:=X) (Y:=Y) HQ.out)
    have HS:=Lib.hid (st (Ap5 32 ((X+Y+c) % B)))
    have HW:=Lib.hid (ws (Ap5 32 ((X+Y+c) % B)))
    have HT1:=Lib.hid ht1
    have HT2:=Lib.hid ht2
    rw[A0]at xB dB_
    clear hclq hdk st ws ht1 ht2
    go_wp2_with (go_at_call 333;refine (AcV (X:Int) (Y:Int) (c:Int) _ ⟨by omega,by omega⟩ ⟨by omega,by omega⟩ ⟨by omega,by omega⟩).mono ?_;rintro e w' ⟨rfl,rfl⟩)
    go_roundw
    case rel =>
      have hs:=HS.out
      rw[HW.out,ofNat_lt HZ.out]at hs
      refine ⟨k+1,(X+Y+c) / B,out++[Ap5 32 ((X+Y+c) % B)],by omega,by go_num,?_,by simp[ho],by rw[A0];omega,?_,?_,Sm HGR.out _ _ _⟩
      · congr 1
      · rw[Jv,ho,ofNat_lt HZ.out,HT1.out,HT2.out,Aqr];exact HST.out
      · exact hs
    case measure=>(simp[intOf] <;> omega)
  · have hkn:k=n:=by omega
    subst hkn
    have hkx:k<xs.length:=by omega
    have hkl:lo.length+k<(lo++(out++xs.drop k)++hi).length:=by simp;omega
    obtain ⟨hcell,hfk,hG1,hG2⟩:=HOW.out.cell (lo.length+k) hkl
    rw[DO ho hkx hkl]at hcell
    have xB:=Fe xs[k]
    have st:=fun (z:Aq)=>HOW.out.set (lo.length+k) hkl z
    have ws:=fun (z:Aq)=>DQ (lo:=lo) (hi:=hi) ho hkx z
    have ht2:=Qh xs k hkx
    generalize (xs[k]).toNat=X at *
    have HZ:=Lib.hid (Aqe (X+0+c) B1)
    have HST:=Lib.hid (WH (X:=X) (Y:=0) HQ.out)
    have HS:=Lib.hid (st (Ap5 32 ((X+0+c) % B)))
    have HW:=Lib.hid (ws (Ap5 32 ((X+0+c) % B)))
    have HT2:=Lib.hid ht2
    rw[A0]at xB
    clear st ws ht2
    go_wp2
    go_end0
    have hs:=HS.out
    rw[HW.out,ofNat_lt HZ.out,List.drop_of_length_le (by omega),Ap6]at hs
    refine ⟨out++[Ap5 32 ((X+0+c) % B)],(X+0+c) / B,_,rfl,by simp[ho,hxs],?_,?_,Sm HGR.out _ _ _⟩
    · have h1:=HST.out
      rw[Nat.mul_zero,Nat.add_zero,← HT2.out,← Aqr,Aqh (by omega),Aqh (by omega)]at h1
      rw[Jv,ho,ofNat_lt HZ.out,hxs];exact h1
    · exact hs
end Go.Proofs.YtokkbgpgaheakaaGreat
namespace Go.Proofs.YtokkbgpgaheakaaGreat
open Go.RowKit
theorem AnJ{U Y g P o b:Nat}(hY:0<Y)(hYP:Y≤P)(h1:U / Y≤g)(h2:g≤U / Y+1)(ho:o<P)(hb:b≤1)(h:o+g*Y=U+P*b) :
   (b=0→g=U / Y∧o=U % Y)∧(b≠0→g=U / Y+1∧∀ o2 b2,o2<P→o2+P*b2=o+Y→o2=U % Y):=by
 have hdm:=Nat.div_add_mod U Y
 have hm:=Aqe U hY
 rw[Aqg]at hdm
 generalize U / Y=q at *
 generalize U % Y=r at *
 refine ⟨fun h0=> ?_,fun h0=> ?_⟩
 · subst h0
   rcases Nat.lt_or_ge q g with h3 | h3
   · obtain rfl:g=q+1:=by omega
     rw[Nat.add_mul]at h;omega
   · obtain rfl:g=q:=by omega
     exact ⟨rfl,by omega⟩
 · obtain rfl:b=1:=by omega
   rcases Nat.lt_or_ge q g with h3 | h3
   · obtain rfl:g=q+1:=by omega
     refine ⟨rfl,fun o2 b2 h4 h5=> ?_⟩
     rw[Nat.add_mul]at h
     match b2 with
     | 0=>omega
     | 1=>omega
     | b2+2=>rw[Nat.mul_add]at h5;omega
   · obtain rfl:g=q:=by omega
     omega
theorem AgA{R:List Aq}{n j Y:Nat}(hj:j+(n+1)≤R.length)(hY:Y<B ^ n)(h:nv R<Y*B ^ (j+1)) :
   R=R.take j++(R.drop j).take (n+1)++R.drop (j+(n+1))∧(R.take j).length=j∧((R.drop j).take (n+1)).length=n+1∧nv ((R.drop j).take (n+1))<B*Y ∧
   ∀ out:List Aq,out.length=n+1→nv out=nv ((R.drop j).take (n+1)) % Y→(R.take j++out++R.drop (j+(n+1))).length=R.length∧nv (R.take j++out++R.drop (j+(n+1)))<Y*B ^ j ∧
     nv (R.take j++out++R.drop (j+(n+1)))+Y*(B ^ j*(nv ((R.drop j).take (n+1)) / Y))=nv R:=by
 have e1:R=R.take j++(R.drop j).take (n+1)++R.drop (j+(n+1)):=by
   rw[Ap8,← List.drop_drop,Aqf,Aqf]
 have l1:(R.take j).length=j:=by rw[Ap0];omega
 have l2:((R.drop j).take (n+1)).length=n+1:=by rw[Ap0,Apy];omega
 have hlo:=Cc (R.take j)
 rw[l1]at hlo
 have hv:nv R=nv (R.take j)+B ^ j*nv ((R.drop j).take (n+1))+B ^ (j+(n+1))*nv (R.drop (j+(n+1))):=by
   have:nv R=nv (R.take j++(R.drop j).take (n+1)++R.drop (j+(n+1))):=by rw[← e1]
   rw[this,Ih,Ih,Apu,l1,l2]
 have hY0:0<Y:=by
   rcases Nat.eq_zero_or_pos Y with h0 | h0
   · rw[h0]at h;omega
   · exact h0
 have hp:=Bp j
 have hi0:nv (R.drop (j+(n+1)))=0:=by
   rcases Nat.eq_zero_or_pos (nv (R.drop (j+(n+1)))) with h0 | h0
   · exact h0
   · exfalso
     have h3:B ^ (j+(n+1))*1≤B ^ (j+(n+1))*nv (R.drop (j+(n+1))):=Nat.mul_le_mul_left _ h0
     have h4:Y*B ^ (j+1)≤B ^ n*B ^ (j+1):=Ap3 _ (Nat.le_of_lt hY)
     rw[← Nat.pow_add,show n+(j+1)=j+(n+1) by omega]at h4
     omega
 generalize R.take j=lo at *
 generalize (R.drop j).take (n+1)=xs at *
 generalize R.drop (j+(n+1))=hi at *
 rw[hi0,Nat.mul_zero,Nat.add_zero]at hv
 refine ⟨e1,l1,l2,?_,fun out ho hn=>⟨?_,?_,?_⟩⟩
 · have h5:B ^ j*nv xs<B ^ j*(B*Y):=by
     have:Y*B ^ (j+1)=B ^ j*(B*Y):=by rw[Aqr,Aqg Y,Nat.mul_assoc]
     omega
   exact Nat.lt_of_mul_lt_mul_left h5
 · rw[e1];simp[ho,l2]
 · rw[Ih,Ih,hi0,l1,hn,Nat.mul_zero,Nat.add_zero]
   have h6:B ^ j*(nv xs % Y)+B ^ j≤B ^ j*Y:=by
     rw[← Nat.mul_succ];exact Nat.mul_le_mul_left _ (Aqe _ hY0)
   rw[Aqg Y];omega
 · rw[Ih,Ih,hi0,l1,hn,Nat.mul_zero,Nat.add_zero,hv,Nat.mul_left_comm Y,Nat.add_assoc,← Nat.mul_add,Nat.mod_add_div]
theorem YK{w:World}{M:Nat→Prop}{v:Value}{l:List Aq}(h:Rd Tryz.prog md w M (.ty 62) (dL l) v):O5 w v l:=by
 obtain ⟨h1,h2,h3⟩:=h
 have hc1:Tryz.prog.cellsOf 180=1:=by kernel_rfl
 unfold dL at h1
 cases h1 with
 | @sl _ e _ _ A cap bk off ht hc h4 h5 hA hh =>
  have he:e=180:=by
   have:Tryz.prog.underlying 62=some (.slice e):=ht
   rw[show Tryz.prog.underlying 62=some (.slice 180) by kernel_rfl]at this
   injection this with this;injection this with this;exact this.symm
  subst he
  have hv:v = .slice A (l.map dB).length cap:=by
   have ha:Dv v=false:=by rw[h3];kernel_rfl
   rw[I0 ha]at hc
   simpa using hc
  refine ⟨A,cap,by rw[hv];simp,by simpa using h4,by simp,fun i x hx=> ?_⟩
  rw[List.map_map,Ap2,Apz]at hx
  obtain ⟨b,hb,rfl⟩:=hx
  have hne:l.map dB≠[]:=fun e=>by rw[List.map_eq_nil_iff.1 e]at hb;simp at hb
  obtain ⟨a1,a2,a3⟩:=hA hne
  have:=hh i (dB b) (by rw[Ap2,hb];rfl)
  rw[hc1]at this
  refine ⟨_,a1,a3,?_⟩
  unfold dB at this
  cases this with
  | @int _ k _ _ ht' h1' h2' hc' =>
   have hk:k = .u32:=by
    have:Tryz.prog.underlying 180=some (.int k):=ht'
    rw[show Tryz.prog.underlying 180=some (.int .u32) by kernel_rfl]at this
    injection this with this;injection this with this;exact this.symm
   subst hk
   simp only[Nat.mul_one,Nat.add_zero]at hc'
   have ea:(⟨bk,off,none⟩:Addr).add i=⟨bk,off+i,none⟩:=by unfold Addr.add;split <;> simp_all
   rw[ea];exact hc'
theorem DP{w:World}{M:Nat→Prop}{G off n c:Nat}{l:List Aq}(h:O5 w (.slice (some ⟨G,off,none⟩) n c) l)(hc:c≤maxLen)(hG : ¬ M G):Rd Tryz.prog md w M (.ty 62) (dL l) (.slice (some ⟨G,off,none⟩) n c):=by
 obtain ⟨h1,h2⟩:=h.len
 have hc1:Tryz.prog.cellsOf 180=1:=by kernel_rfl
 rw[Apm]at h1
 refine ⟨.sl (e:=180) (A:=some ⟨G,off,none⟩) (cap:=c) (bk:=G) (off:=off) (by kernel_rfl) (by rw[h1,Apm];rfl) (by rw[Apm];omega) hc (fun hne=> ?_) (fun i x hx=> ?_),by kernel_rfl,by kernel_rfl⟩
 · have:0<(l.map iB).length:=by
    rw[Apm];exact List.length_pos_iff.2 (fun e=>hne (by rw[e];rfl))
   obtain ⟨ad,ha,hb,_⟩:=h.cellAt 0 this
   cases ha
   exact ⟨rfl,hG,hb⟩
 · rw[Ap2,Apz]at hx
   obtain ⟨b,hb,rfl⟩:=hx
   have hi:i<(l.map iB).length:=by rw[Apm];exact (Apo.1 hb).1
   obtain ⟨ad,ha,_,hcell⟩:=h.cellAt i hi
   cases ha
   have ea:(⟨G,off,none⟩:Addr).add i=⟨G,off+i,none⟩:=by unfold Addr.add;split <;> simp_all
   rw[ea]at hcell
   have hx:(l.map iB)[i]=(b.toNat:Int):=by simp[iB,(Apo.1 hb).2]
   rw[hx]at hcell
   have:=b.isLt
   unfold dB
   exact .int (k:= .u32) (by kernel_rfl) (by show (0:Int)≤_;omega) (by show _≤(4294967295:Int);omega) (by rw[hc1];simpa using hcell)
theorem OwL.win {w0 w:World} {G cap:Nat} {l:List Aq} (h:OwL w0 w G cap l) {j n c:Nat} (hj:j+n≤l.length) (hc:n≤c):O5 w (.slice (some ⟨G,j,none⟩) n c) ((l.drop j).take n):=by
 have hl:(((l.drop j).take n).map iB).length=n:=by simp;omega
 refine ⟨some ⟨G,j,none⟩,c,by rw[hl],by rw[hl];exact hc,by simp,fun i x hx=> ?_⟩
 rw[Ap2,Apz]at hx
 obtain ⟨z,hz,rfl⟩:=hx
 have hi:i<n:=by rw[← hl];exact (Apo.1 hz).1
 obtain ⟨h1,h2,h3,h4⟩:=h.cell (j+i) (by omega)
 refine ⟨_,rfl,h4,?_⟩
 have ea:(⟨G,j,none⟩:Addr).add i=⟨G,j+i,none⟩:=by unfold Addr.add;split <;> simp_all
 rw[ea,h1]
 rw[Ap2,List.getElem?_take,if_pos hi,List.getElem?_drop,Apk (by omega)]at hz
 simp only[Option.map_some,Aps]at hz
 rw[← hz];rfl
end Go.Proofs.YtokkbgpgaheakaaGreat
namespace Go.Proofs.YtokkbgpgaheakaaGreat
open Go.RowKit
theorem AeJ:Elt Tryz.prog 62 180 1 4 :=
 ⟨Tryz.underlying62,by
  obtain ⟨i,hi,h1,h2,h3⟩:=info_parts (P:=Tryz.prog) (e:=180) (z:= .int .u32 0) (size:=1) (bytes:=4) (by kernel_rfl)
  exact ⟨i,_,hi,h1,h2,h3,rfl⟩,by decide⟩
theorem Apb{z:Value}(h : ∃ i,Tryz.prog.info? 180=some i∧i.zero=some z):z = .int .u32 0:=by
 obtain ⟨i,hi,hz⟩:=h
 obtain ⟨j,hj,h1,_⟩:=info_parts (P:=Tryz.prog) (e:=180) (z:= .int .u32 0) (size:=1) (bytes:=4) (by kernel_rfl)
 rw[hi]at hj
 cases hj
 rw[hz]at h1
 exact Option.some.inj h1
theorem AgF{z:Value}(h : ∃ i,Tryz.prog.info? 180=some i∧i.zero=some z)(n:Nat):(madeCells z.cells (n*1)).toList=(Apl n (0:Int)).map (.int .u32):=by
 rw[Apb h,AgD _ rfl];simp
theorem WF{w w':World}{G cap:Nat}{cur:Array Value}{q:List Aq}(hG:w.heap.size≤G)(hB:w'.heap[G]? = some (.cells cur 180 (0,0)))(hle:q.length≤cap)(hcap:cap≤maxLen)(hsz:cur.size=cap*Tryz.prog.cellsOf 180)
  (h : ∀ (i:Nat) (x:D),(q.map dB)[i]? = some x→∃ M',RdC Tryz.prog md w' M' (.ty 180) x (fun j=>cur[i*Tryz.prog.cellsOf 180+j]?)) (hx:Ext w w'):OwL w w' G cap q:=by
 have hc1:Tryz.prog.cellsOf 180=1:=by kernel_rfl
 rw[hc1]at hsz h
 refine ⟨⟨by simp,.inr ⟨G,cap,cur,rfl,hG,hB,hle,hcap,hsz,?_⟩⟩,hx⟩
 apply List.ext_getElem
 · simp;omega
 intro i h1 h2
 simp only[Apm]at h2
 obtain ⟨M',hr⟩:=h i (dB q[i]) (by simp[h2])
 simp only[Nat.mul_one,Nat.add_zero]at hr
 unfold dB at hr
 cases hr with
 | @int _ k _ _ ht' h1' h2' hc' =>
  have hk:k = .u32:=by
   have:Tryz.prog.underlying 180=some (.int k):=ht'
   rw[show Tryz.prog.underlying 180=some (.int .u32) by kernel_rfl]at this
   injection this with this;injection this with this;exact this.symm
  subst hk
  simp only[Nat.add_zero]at hc'
  have hi:i<cur.size:=by omega
  rw[Ap7 hi]at hc'
  simp only[List.getElem_take,Array.getElem_toList,List.getElem_map,iB]
  exact Option.some.inj hc'
theorem OwL.far {w0 w w':World} {G G' cap:Nat} {l:List Aq} (h:OwL w0 w G cap l) (hg:w.grownBy w' (some G')) (hne:G≠G') (hG:w0.heap.size≤G'):OwL w0 w' G cap l :=
 ⟨h.own.kept hg (.inr (by simp only[Value.ownBlock];intro e;injection e with e;exact hne e)),h.ext.grown hg (fun k hk=>by injection hk with hk;omega)⟩
theorem AnI{w w5:World}{lo xs hi q1:List Aq}{G1 G2 c1 c2 n j g c':Nat}(hn:n≤q1.length)(hc1:n≤c1)(l1:lo.length=j)(l2:xs.length=n+1)(hlen:(lo++xs++hi).length≤1000000000)(hc':n+1≤c')(hg2:w.heap.size≤G2)(h12:G1≠G2)
  (ow2:OwL w w5 G2 c2 (lo++xs++hi)) (ow1:OwL w w5 G1 c1 q1) (hg:g<B):Calls Tryz.prog 338 #[.slice (some ⟨G2,j,none⟩) (n+1) c',.slice (some ⟨G1,0,none⟩) n c1,.int .u64 g] w5 (MX w w5 lo xs hi (q1.take n) G2 c2 g):=by
 have ld:(q1.take n).length=n:=by rw[Ap0];omega
 have:=An9 w w5 lo xs hi (q1.take n) G2 c2 c' g (.slice (some ⟨G1,0,none⟩) n c1) (by omega) hlen (by omega) ow2 (fun w' hg=>by
  have:=(ow1.far hg h12 hg2).win (j:=0) (n:=n) (c:=c1) (by omega) hc1
  rwa[List.drop_zero]at this) hg
 rwa[l1,l2]at this
theorem AiV{w w5:World}{lo xs hi q1:List Aq}{G1 G2 c1 c2 n j c':Nat}(hn:n≤q1.length)(hc1:n≤c1)(l1:lo.length=j)(l2:xs.length=n+1)(hlen:(lo++xs++hi).length≤1000000000)(hc':n+1≤c')(hg2:w.heap.size≤G2)(h12:G1≠G2)
  (ow2:OwL w w5 G2 c2 (lo++xs++hi)) (ow1:OwL w w5 G1 c1 q1):Calls Tryz.prog 339 #[.slice (some ⟨G2,j,none⟩) (n+1) c',.slice (some ⟨G1,0,none⟩) n c1] w5 (MW w w5 lo xs hi (q1.take n) G2 c2):=by
 have ld:(q1.take n).length=n:=by rw[Ap0];omega
 have:=Aj5 w w5 lo xs hi (q1.take n) G2 c2 c' (.slice (some ⟨G1,0,none⟩) n c1) (by omega) hlen (by omega) ow2 (fun w' hg=>by
  have:=(ow1.far hg h12 hg2).win (j:=0) (n:=n) (c:=c1) (by omega) hc1
  rwa[List.drop_zero]at this)
 rwa[l1,l2]at this
theorem Aj7{qh:List Aq}{j:Nat}(x:Aq):(Apl (j+1) (0:Aq)++qh).set j x=Apl j 0++(x::qh):=by
 rw[List.replicate_succ',Ap8,List.set_append_right _ _ (by simp),Aqp,Nat.sub_self];rfl
def AcR(x y:Nat)(w:World)(e:Ending)(w':World):Prop:=∃ u1 u2,e = .returned (.tuple #[u1,u2])∧Rd Tryz.prog md w' (fun b=>b<w.heap.size) (.ty 62) (dL (lb (x / y))) u1∧Rd Tryz.prog md w' (fun b=>b<w.heap.size) (.ty 62) (dL (lb (x % y))) u2∧Ext w w'
theorem Aif{y n s t:Nat}(hn:(lb y).length=n+1)(ht:t=y / B ^ n)(h1:t*2 ^ s<B)(h2:B≤2*(t*2 ^ s))(hs:s<32):y*2 ^ s<B ^ (n+1)∧B ^ (n+1)≤2*(y*2 ^ s):=by
 have hp:=Bp n
 have hs0:0<2 ^ s:=Nat.pow_pos (by decide)
 have hB:B=2 ^ (32-s)*2 ^ s:=by rw[← Nat.pow_add,show 32-s+s=32 by omega];rfl
 have h3:t<2 ^ (32-s):=by rw[hB]at h1;exact Nat.lt_of_mul_lt_mul_right h1
 have h4:(t+1)*2 ^ s≤B:=by rw[hB];exact Ap3 _ h3
 have h5:y<(t+1)*B ^ n:=by rw[ht,Aqg];exact Nat.lt_mul_div_succ y hp
 have h6:t*B ^ n≤y:=by rw[ht];exact Nat.div_mul_le_self _ _
 rw[Aqr]
 constructor
 · calc y*2 ^ s<(t+1)*B ^ n*2 ^ s:=Nat.mul_lt_mul_of_pos_right h5 hs0
  _=B ^ n*((t+1)*2 ^ s):=by rw[Aqg (t+1),Nat.mul_assoc]
  _≤B ^ n*B:=Nat.mul_le_mul_left _ h4
 · calc B ^ n*B≤B ^ n*(2*(t*2 ^ s)):=Nat.mul_le_mul_left _ h2
  _=2*(t*B ^ n*2 ^ s):=by rw[Nat.mul_left_comm,Aqg t (B ^ n),Nat.mul_assoc]
  _≤2*(y*2 ^ s):=Nat.mul_le_mul_left _ (Ap3 _ h6)
theorem VO{q:List Aq}{n v:Nat}(h:nv q=v)(hv:v<B ^ n)(hn:n≤q.length):nv (q.take n)=v:=by
 have:=Ih (q.take n) (q.drop n)
 rw[Aqf,Ap0,Nat.min_eq_left hn,h]at this
 rcases Nat.eq_zero_or_pos (nv (q.drop n)) with h0 | h0
 · rw[h0]at this;omega
 · have:B ^ n*1≤B ^ n*nv (q.drop n):=Nat.mul_le_mul_left _ h0
   omega
def LInv(X Y m n:Nat)(w wr:World)(G1 c1 G2 c2 G3 c3:Nat)(q1:List Aq)(k:Nat)(R qh:List Aq):Prop :=
 k≤m-n+1∧R.length=m+1∧qh.length=m-n+1-k∧nv R<Y*B ^ k∧nv R+Y*(B ^ k*nv qh)=X∧OwL w wr G2 c2 R∧OwL w wr G3 c3 (Apl k 0++qh)∧OwL w wr G1 c1 q1
theorem LInv.start {X Y m n:Nat} {w wr:World} {G1 c1 G2 c2 G3 c3:Nat} {q1 q2:List Aq} (h2:q2.length=m+1) (hv:nv q2=X) (hX:X<Y*B ^ (m-n+1)) (o1:OwL w wr G1 c1 q1) (o2:OwL w wr G2 c2 q2) (o3:OwL w wr G3 c3 (Apl (m-n+1) 0)):LInv X Y m n w wr G1 c1 G2 c2 G3 c3 q1 (m-n+1) q2 [] :=
 ⟨Apx _,h2,by rw[Nat.sub_self];rfl,by rw[hv];exact hX,by rw[nv,Nat.mul_zero,Nat.mul_zero];exact hv,o2,by rw[Ap6];exact o3,o1⟩
set_option maxHeartbeats 4000000 in
theorem Ag_(x y:Nat)(va vb:Value)(w:World)(M:Nat→Prop)(ha:Rd Tryz.prog md w M (.ty 62) (dL (lb x)) va)(hb:Rd Tryz.prog md w M (.ty 62) (dL (lb y)) vb)(hM : ∀ b,M b→b<w.heap.size)
  (h1:1<(lb y).length) (hxy:y≤x) (hl:(lb x).length≤100000):Calls Tryz.prog 332 #[va,vb] w (AcR x y w):=by
 have hyx:(lb y).length≤(lb x).length:=Ba.2 (Nat.lt_of_le_of_lt hxy (Ba.1 (Apx _)))
 obtain ⟨n,hn⟩ : ∃ n,(lb y).length=n:=⟨_,rfl⟩
 obtain ⟨m,hm⟩ : ∃ m,(lb x).length=m:=⟨_,rfl⟩
 rw[hn,hm]at hyx
 rw[hm]at hl
 rw[hn]at h1
 obtain ⟨A,ca,rfl,hca,_⟩:=(YK ha).form
 obtain ⟨Ab,cb,rfl,hcb,hcel⟩:=(YK hb).form
 rw[Apm,hm]at ha hca
 rw[Apm,hn]at hb hcb
 have HA:=Lib.hid ha
 have HB:=Lib.hid hb
 clear ha hb
 obtain ⟨ad,rfl,hb1,hce⟩:=hcel (n-1) (by simp;omega)
 have hk:((lb y).map iB)[n-1]'(by simp;omega)=(((lb y)[n-1]'(by omega)).toNat:Int):=by simp[iB]
 rw[hk,Eh (lb y) (n-1) (by omega),Bv]at hce
 have hyl:=(Ba (n:=y) (k:=n)).1 (by omega)
 have hyg:=ES (x:=y) (k:=n-1) (by omega)
 have htB:y / B ^ (n-1)<B:=by rw[Aqu (Bp _),Aqg,← Aqr,show (n-1).succ=n by omega];exact hyl
 rw[Aqc htB]at hce
 have ht0:0<y / B ^ (n-1):=Nat.div_pos hyg (Bp _)
 obtain ⟨s,hLZ,hs32,hs1,hs2⟩:=AdA _ htB ht0
 obtain ⟨hY1,hY2⟩:=Aif (n:=n-1) (by omega) rfl hs1 hs2 hs32
 rw[show n-1+1=n by omega]at hY1 hY2
 obtain ⟨q1,hq1,hq1v,sp1⟩:=VD (lb y) s hs32 (by omega)
 obtain ⟨q2,hq2,hq2v,sp2⟩:=VD (lb x) s hs32 (by omega)
 rw[Bv]at hq1v hq2v
 rw[hn]at hq1
 rw[hm]at hq2
 have hdv:=VO hq1v hY1 (by omega)
 have hX1:x*2 ^ s<(y*2 ^ s)*B ^ (m-n+1):=by
  have h2:x<B ^ m:=Ba.1 (by omega)
  have h3:B ^ n*B ^ (m-n+1)≤2*(y*2 ^ s)*B ^ (m-n+1):=Ap3 _ hY2
  rw[← Nat.pow_add,show n+(m-n+1)=m+1 by omega]at h3
  have h4:2 ^ s≤2 ^ 31:=Nat.pow_le_pow_right (by decide) (by omega)
  have h5:x*2 ^ s≤x*2 ^ 31:=Nat.mul_le_mul_left _ h4
  rw[Nat.mul_assoc]at h3
  rw[Aqr,A0]at h3
  rw[A0]at h2 ⊢
  omega
 generalize y / B ^ (n-1)=top at *
 have HLZ:=Lib.hid hLZ
 have SP1:=Lib.hid sp1
 have SP2:=Lib.hid sp2
 have HM:=Lib.hid hM
 have X1:=Lib.hid hX1
 have Y1:=Lib.hid hY1
 have Y2:=Lib.hid hY2
 clear hcel hk hLZ sp1 sp2 hM hX1 hY1 hY2 hyg hyl
 simp only[Apm,hn,hm]
 go_enter Tryz.func332,Tryz.ntmps332
 go_wp2_with (first
  | (go_at_call 335;refine (LV (t:=3) (vs:=[_]) (M:=fun _=>False) HLZ.out Tryz.func335 (by kernel_rfl) (fun _ h=>h.elim) (by kernel_rfl) rfl (YD (by kernel_rfl) (Qs (t:=180) (k:= .u32) (by kernel_rfl) (by kernel_rfl) (by kernel_rfl) (by show (0:Int)≤_;omega) (by show _≤(4294967295:Int);rw[A0]at htB;omega))) (by kernel_rfl) (k:= .i64) (by kernel_rfl)).mono ?_;rintro e w1 ⟨rfl,_,hx1⟩)
  | (go_at_call_of 336 (Value.slice (some ad) n cb);refine (WE (t:=62) (e:=180) (vs:=[_,_]) (M:=M) SP1.out Tryz.func336 (by kernel_rfl) (fun b h=>Aqk (HM.out b h) hx1.size) (by kernel_rfl) rfl (Qq (by kernel_rfl) (Kv (t:= .ty 62) HB.out hx1 (fun _ h _=>h)) (Qs (t:=3) (k:= .i64) (by kernel_rfl) (by kernel_rfl) (by kernel_rfl) (by show (-9223372036854775808:Int)≤_;omega) (by show _≤(9223372036854775807:Int);omega))) (by kernel_rfl) (by kernel_rfl) (by kernel_rfl) (fun e=>by have:=congrArg List.length e;simp[hq1]at this)).mono ?_;rintro e w2 ⟨G1,c1,cur1,rfl,hG1,hG1l,hB1,hle1,hc1,hsz1,hr1,hx2⟩;rw[Apm,hq1]at hle1 ⊢)
  | (go_at_call_of 336 (Value.slice A m ca);refine (WE (t:=62) (e:=180) (vs:=[_,_]) (M:=M) SP2.out Tryz.func336 (by kernel_rfl) (fun b h=>Aqk (HM.out b h) (hx1.trans hx2).size) (by kernel_rfl) rfl (Qq (by kernel_rfl) (Kv (t:= .ty 62) HA.out (hx1.trans hx2) (fun _ h _=>h)) (Qs (t:=3) (k:= .i64) (by kernel_rfl) (by kernel_rfl) (by kernel_rfl) (by show (-9223372036854775808:Int)≤_;omega) (by show _≤(9223372036854775807:Int);omega))) (by kernel_rfl) (by kernel_rfl) (by kernel_rfl) (fun e=>by have:=congrArg List.length e;simp[hq2]at this)).mono ?_;rintro e w3 ⟨G2,c2,cur2,rfl,hG2,hG2l,hB2,hle2,hc2,hsz2,hr2,hx3⟩;rw[Apm,hq2]at hle2 ⊢)
  | (at_make;refine AoY (w0:=w3) AeJ rfl _ _ rfl (Ext.refl w3) (m-n+1) (m-n+1) rfl rfl (by omega) (by omega) (by omega) (by omega) (by unfold maxLen;omega) ?_;intro v4 w4 z hz hown4 hx4;rw[AgF hz]at hown4;have HO4:=Lib.hid hown4;rcases hown4.own.2 with ⟨_,hh⟩ | ⟨G3,c3,cur3,rfl,hG3,_,hnc3,c3m,_,_⟩;(exact absurd hh (by omega));clear hown4 hz))
 have ow1:OwL w w4 G1 c1 q1:=((WF hG1 hB1 (by omega) hc1 hsz1 hr1 hx2).base hx1).step (hx3.trans hx4)
 have ow2:OwL w w4 G2 c2 q2:=((WF hG2 hB2 (by omega) hc2 hsz2 hr2 hx3).base (hx1.trans hx2)).step hx4
 have ow3:OwL w w4 G3 c3 (Apl (m-n+1) 0):=by
  have:=HO4.out.base (hx1.trans (hx2.trans hx3))
  unfold OwL
  rw[Aqp,List.map_replicate,show iB 0=0 from rfl]
  exact this
 have h12:G1≠G2:=by omega
 have h13:G1≠G3:=by have:=hx3.size;omega
 have h23:G2≠G3:=by omega
 have hg1:w.heap.size≤G1:=Nat.le_trans hx1.size hG1
 have hg2:w.heap.size≤G2:=Nat.le_trans (hx1.trans hx2).size hG2
 have hg3:w.heap.size≤G3:=Nat.le_trans (hx1.trans (hx2.trans hx3)).size hG3
 have O1:=Lib.hid ow1
 have O2:=Lib.hid ow2
 have O3:=Lib.hid ow3
 have DV:=Lib.hid hdv
 have Q1:=Lib.hid hq1
 have Q2:=Lib.hid hq2
 have Q2v:=Lib.hid hq2v
 clear ow1 ow2 ow3 HO4 hB1 hB2 hsz1 hsz2 hr1 hr2 hG1l hG2l hdv hq1 hq2 hq1v hq2v hce
 go_loopw [11] (fun jv wr=>∃ (k:Nat) (R qh:List Aq),jv = .int .i64 ((k:Int)-1)∧LInv (x*2 ^ s) (y*2 ^ s) m n w wr G1 c1 G2 c2 G3 c3 q1 k R qh) (fun jv _=>(intOf jv+1).toNat)
 case atStart=>exact ⟨m-n+1,q2,[],by congr 1;omega,LInv.start Q2.out Q2v.out X1.out O1.out O2.out O3.out⟩
 case round =>
  obtain ⟨k,R,qh,rfl,hk,hR,hql,hlt,heq,ow2,ow3,ow1⟩:=hrel
  by_cases hk0:k=0
  · subst hk0
    rw[Nat.pow_zero,Nat.mul_one]at hlt
    rw[Nat.pow_zero,Nat.one_mul]at heq
    rw[List.replicate_zero,Aqx]at ow3
    have Y0:0<y*2 ^ s:=Nat.lt_of_le_of_lt (Nat.zero_le _) hlt
    have s0:0<2 ^ s:=Nat.pow_pos (by decide)
    have q1e:nv qh=x / y:=by
      have h1:(x*2 ^ s) / (y*2 ^ s)=x / y:=Nat.mul_div_mul_right _ _ s0
      rw[← h1,← heq,Nat.add_mul_div_left _ _ Y0,Nat.div_eq_of_lt hlt,Aqv]
    have q2e:nv (R.take n) / 2 ^ s=x % y:=by
      rw[VO rfl (Nat.lt_trans hlt Y1.out) (by omega)]
      have h1:(x*2 ^ s) % (y*2 ^ s)=x % y*2 ^ s:=Nat.mul_mod_mul_right _ _ _
      have h2:nv R=x % y*2 ^ s:=by rw[← h1,← heq,Nat.add_mul_mod_self_left,Aqc hlt]
      rw[h2,Nat.mul_div_cancel _ s0]
    have TR:=F7 qh (by omega)
    have DN:=Ah_ (R.take n) s hs32 (by rw[Ap0];omega)
    rw[q1e]at TR
    rw[q2e]at DN
    have hqw:=ow3.win (j:=0) (n:=m-n+1) (c:=c3) (by omega) hnc3
    rw[List.drop_zero,Aqh (by omega)]at hqw
    have hrw:=ow2.win (j:=0) (n:=n) (c:=c2) (by omega) (by omega)
    rw[List.drop_zero]at hrw
    have HTR:=Lib.hid TR
    have HDN:=Lib.hid DN
    have QWN:=Lib.hid hqw
    have RWN:=Lib.hid hrw
    have XT:=Lib.hid ow3.ext
    clear TR DN hqw hrw ow1 ow2 ow3 q1e q2e hlt heq
    go_wp2_with fail
    refine Al7 9 [[],[(0,77)],[],[],[(2,79),(3,80)],[],[(4,81),(5,82)],[(1,78)],[(6,83)]] [(0,77),(1,78),(2,79),(3,80),(4,81),(5,82),(6,83),(7,4),(8,5)] (by kernel_rfl) (by kernel_rfl) (by kernel_rfl) (by kernel_rfl) ?_
    apply Grow.step
    · intro w2 hw2
      intro K hK
      go_wp2_with fail
      first | exact hK _ _ (Ext.refl _) EqV.rfl_ | trace "op 0"
    · first | exact Uh _ | (intro v w w1 h hx;exact SlI.keep h hx) | (intro v w w1 h hx;exact IntV.keep h hx) | (intro v w w1 h hx;exact SlN.keep h hx) | (intro v w w1 h hx;exact h)
    apply Grow.step
    · intro w2 hw2
      intro n1 h1
      simp only[upd,reduceIte,Nat.reduceEqDiff,Nat.reduceAdd]at h1
      first | (unfold EqV at h1;subst h1) | skip
      intro K hK
      go_wp2_with fail
      (refine (AbH (t:=62) (vs:=[_]) (M:=fun b ↦ b<w.heap.size) HTR.out Tryz.func321 (by kernel_rfl) (fun b h ↦ Aqk h (XT.out.trans (((Ext.refl _).drew).trans hw2)).size) (by kernel_rfl) rfl (YD (t:=62) (by kernel_rfl) (DP (SlI.keep QWN.out (((Ext.refl _).drew).trans hw2)) c3m (by omega))) (by kernel_rfl) (by kernel_rfl)).mono ?_;rintro e w' ⟨u5,rfl,hu5,hx5⟩;(go_wp2_with fail);exact hK _ _ hx5 hu5)
    · (intro v w1 w2 h hx;exact Kv h hx (fun _ h _=>h))
    apply Grow.step
    · intro w2 hw2
      intro K hK
      go_wp2_with fail
      first | exact hK _ _ (Ext.refl _) EqV.rfl_ | trace "op 2"
    · first | exact Uh _ | (intro v w w1 h hx;exact SlI.keep h hx) | (intro v w w1 h hx;exact IntV.keep h hx) | (intro v w w1 h hx;exact SlN.keep h hx) | (intro v w w1 h hx;exact h)
    apply Grow.step
    · intro w2 hw2
      intro K hK
      go_wp2_with fail
      first | exact hK _ _ (Ext.refl _) EqV.rfl_ | trace "op 3"
    · first | exact Uh _ | (intro v w w1 h hx;exact SlI.keep h hx) | (intro v w w1 h hx;exact IntV.keep h hx) | (intro v w w1 h hx;exact SlN.keep h hx) | (intro v w w1 h hx;exact h)
    apply Grow.step
    · intro w2 hw2
      intro n1 h1
      simp only[upd,reduceIte,Nat.reduceEqDiff,Nat.reduceAdd]at h1
      first | (unfold EqV at h1;subst h1) | skip
      intro n2 h2
      simp only[upd,reduceIte,Nat.reduceEqDiff,Nat.reduceAdd]at h2
      first | (unfold EqV at h2;subst h2) | skip
      intro K hK
      go_wp2_with fail
      first | exact hK _ _ (Ext.refl _) EqV.rfl_ | exact hK _ _ (Ext.refl _) h1 | exact hK _ _ (Ext.refl _) h2 | trace "op 4"
    · first | exact Uh _ | (intro v w w1 h hx;exact SlI.keep h hx) | (intro v w w1 h hx;exact IntV.keep h hx) | (intro v w w1 h hx;exact SlN.keep h hx) | (intro v w w1 h hx;exact h)
    apply Grow.step
    · intro w2 hw2
      intro K hK
      go_wp2_with fail
      first | exact hK _ _ (Ext.refl _) EqV.rfl_ | trace "op 5"
    · first | exact Uh _ | (intro v w w1 h hx;exact SlI.keep h hx) | (intro v w w1 h hx;exact IntV.keep h hx) | (intro v w w1 h hx;exact SlN.keep h hx) | (intro v w w1 h hx;exact h)
    apply Grow.step
    · intro w2 hw2
      intro n1 h1
      simp only[upd,reduceIte,Nat.reduceEqDiff,Nat.reduceAdd]at h1
      first | (unfold EqV at h1;subst h1) | skip
      intro n2 h2
      simp only[upd,reduceIte,Nat.reduceEqDiff,Nat.reduceAdd]at h2
      first | (unfold EqV at h2;subst h2) | skip
      intro K hK
      go_wp2_with fail
      (refine (AbH (t:=62) (vs:=[_,_]) (M:=fun b ↦ b<w.heap.size) HDN.out Tryz.func340 (by kernel_rfl) (fun b h ↦ Aqk h (XT.out.trans (((Ext.refl _).drew).trans hw2)).size) (by kernel_rfl) rfl (Qq (t:=62) (by kernel_rfl) (DP (SlI.keep RWN.out (((Ext.refl _).drew).trans hw2)) hc2 (by omega)) (Qs (t:=3) (k:= .i64) (by kernel_rfl) (by kernel_rfl) (by kernel_rfl) (by show (-9223372036854775808:Int)≤_;omega) (by show _≤(9223372036854775807:Int);omega))) (by kernel_rfl) (by kernel_rfl)).mono ?_;rintro e w' ⟨u5,rfl,hu5,hx5⟩;(go_wp2_with fail);exact hK _ _ hx5 hu5)
    · (intro v w1 w2 h hx;exact Kv h hx (fun _ h _=>h))
    apply Grow.step
    · intro w2 hw2
      intro n1 h1
      simp only[upd,reduceIte,Nat.reduceEqDiff,Nat.reduceAdd]at h1
      first | (unfold EqV at h1;subst h1) | skip
      intro K hK
      go_wp2_with fail
      ((first | exact hK _ _ (Ext.refl _) h1 | exact hK _ _ (Ext.refl _) h2))
    · (intro v w1 w2 h hx;exact Kv h hx (fun _ h _=>h))
    apply Grow.step
    · intro w2 hw2
      intro n1 h1
      simp only[upd,reduceIte,Nat.reduceEqDiff,Nat.reduceAdd]at h1
      first | (unfold EqV at h1;subst h1) | skip
      intro K hK
      go_wp2_with fail
      ((first | exact hK _ _ (Ext.refl _) h1 | exact hK _ _ (Ext.refl _) h2))
    · (intro v w1 w2 h hx;exact Kv h hx (fun _ h _=>h))
    refine Grow.last (fun w2 hw2=> ?_)
    intro n77 h77;simp only[upd,reduceIte,Nat.reduceEqDiff,Nat.reduceAdd]at h77;(first | (unfold EqV at h77;subst h77) | skip)
    intro n78 h78;simp only[upd,reduceIte,Nat.reduceEqDiff,Nat.reduceAdd]at h78;(first | (unfold EqV at h78;subst h78) | skip)
    intro n79 h79;simp only[upd,reduceIte,Nat.reduceEqDiff,Nat.reduceAdd]at h79;(first | (unfold EqV at h79;subst h79) | skip)
    intro n80 h80;simp only[upd,reduceIte,Nat.reduceEqDiff,Nat.reduceAdd]at h80;(first | (unfold EqV at h80;subst h80) | skip)
    intro n81 h81;simp only[upd,reduceIte,Nat.reduceEqDiff,Nat.reduceAdd]at h81;(first | (unfold EqV at h81;subst h81) | skip)
    intro n82 h82;simp only[upd,reduceIte,Nat.reduceEqDiff,Nat.reduceAdd]at h82;(first | (unfold EqV at h82;subst h82) | skip)
    intro n83 h83;simp only[upd,reduceIte,Nat.reduceEqDiff,Nat.reduceAdd]at h83;(first | (unfold EqV at h83;subst h83) | skip)
    intro n4 h4;simp only[upd,reduceIte,Nat.reduceEqDiff,Nat.reduceAdd]at h4;(first | (unfold EqV at h4;subst h4) | skip)
    intro n5 h5;simp only[upd,reduceIte,Nat.reduceEqDiff,Nat.reduceAdd]at h5;(first | (unfold EqV at h5;subst h5) | skip)
    refine Need.done ?_
    simp only[List.drop_succ_cons,List.drop_zero]
    go_simp
    go_wp2_with fail
    go_ret2
    exact ⟨_,_,rfl,h4,h5,XT.out.trans (((Ext.refl _).drew).trans hw2)⟩
  · obtain ⟨j,rfl⟩ : ∃ j,k=j+1:=⟨k-1,by omega⟩
    obtain ⟨e1,l1,l2,l3,l4⟩:=AgA (R:=R) (n:=n) (j:=j) (by omega) Y1.out hlt
    have RW:=Lib.hid ow2
    have QW:=Lib.hid ow3
    have DW:=Lib.hid ow1
    have L4:=Lib.hid l4
    have L3:=Lib.hid l3
    have L2:=Lib.hid l2
    have L1:=Lib.hid l1
    have E1:=Lib.hid e1
    have LT:=Lib.hid hlt
    have EQ:=Lib.hid heq
    clear ow1 ow2 ow3 l1 l2 l3 l4 e1 hlt heq
    have DS:Hid (O5 wr (.slice (some ⟨G1,0,none⟩) n c1) (q1.take n)):=by
      have:=DW.out.win (j:=0) (n:=n) (c:=c1) (by have:=Q1.out;omega) (by omega)
      rwa[List.drop_zero]at this
    have WIN:=Lib.hid (RW.out.win (j:=j) (n:=n+1) (c:=c2-j) (by omega) (by omega))
    obtain ⟨g,spE,hgl,hgu,hgB⟩:=AhB ((R.drop j).take (n+1)) (q1.take n) (n-2) (by have:=Q1.out;rw[Ap0];omega) (by rw[L2.out];omega) (by omega) (by rw[DV.out,show n-2+2=n by omega];exact Y2.out) (by rw[DV.out];exact L3.out)
    rw[DV.out]at hgl hgu
    have SPE:=Lib.hid spE
    have GL:=Lib.hid hgl
    have GU:=Lib.hid hgu
    have GB:=Lib.hid hgB
    clear spE hgl hgu
    rw[A0]at hgB
    have en:j+n+1-j=n+1:=by omega
    go_wp2_with (go_at_call 337;rw[en];refine (LV (t:=22) (vs:=[_,_]) (M:=fun _=>False) SPE.out Tryz.func337 (by kernel_rfl) (fun _ h=>h.elim) (by kernel_rfl) rfl (Qq (t:=62) (u:=62) (by kernel_rfl) (DP WIN.out (by omega) id) (DP DS.out (by omega) id)) (by kernel_rfl) (k:= .u64) (by kernel_rfl)).mono ?_;rintro e w5 ⟨rfl,_,hx5⟩)
    have LEN:Hid ((R.take j++(R.drop j).take (n+1)++R.drop (j+(n+1))).length≤1000000000):=by show _≤_;rw[← E1.out];omega
    have hq1n:n≤q1.length:=by have:=Q1.out;omega
    have RW5:Hid (OwL w w5 G2 c2 (R.take j++(R.drop j).take (n+1)++R.drop (j+(n+1)))):=by show OwL _ _ _ _ _;rw[← E1.out];exact RW.out.step hx5
    have QW5:Hid (OwL w w5 G3 c3 (Apl (j+1) 0++qh)):=QW.out.step hx5
    have DW5:Hid (OwL w w5 G1 c1 q1):=DW.out.step hx5
    refine (AnI hq1n (by omega) L1.out L2.out LEN.out (by omega) hg2 h12 RW5.out DW5.out GB.out).mono ?_
    rintro e w6 ⟨out,b,hb01,rfl,hol,hov,how,hgr⟩
    rw[L2.out]at hol hov
    rw[DV.out]at hov
    have Y0:Hid (0<y*2 ^ s):=by
      rcases Nat.eq_zero_or_pos (y*2 ^ s) with h0 | h0
      · have:=LT.out;rw[h0]at this;omega
      · exact h0
    have YP:Hid (y*2 ^ s≤B ^ (n+1)):=Nat.le_trans (Nat.le_of_lt Y1.out) (Nat.pow_le_pow_right B1 (by omega))
    have EX:=Lib.hid (AnJ Y0.out YP.out GL.out GU.out (by have:=Cc out;rwa[hol]at this) hb01 hov)
    have QW6:Hid (OwL w w6 G3 c3 (Apl (j+1) 0++qh)):=QW5.out.far hgr h23.symm hg2
    have DW6:Hid (OwL w w6 G1 c1 q1):=DW5.out.far hgr h12 hg2
    have HOW:=Lib.hid how
    have HOL:=Lib.hid hol
    clear hov how hgr hol
    have fin:Hid (∀ (w7:World) (o2:List Aq) (g2:Nat),o2.length=n+1→nv o2=nv ((R.drop j).take (n+1)) % (y*2 ^ s)→g2=nv ((R.drop j).take (n+1)) / (y*2 ^ s)→OwL w w7 G2 c2 (R.take j++o2++R.drop (j+(n+1)))→OwL w w7 G3 c3 (Apl (j+1) 0++qh)→OwL w w7 G1 c1 q1→g2<B →
        ∃ (k:Nat) (R' qh':List Aq),Value.int IntKind.i64 ((j:Int)-1) = .int .i64 ((k:Int)-1)∧LInv (x*2 ^ s) (y*2 ^ s) m n w (w7.setCell ⟨G3,j,none⟩ (.int .u32 (g2:Int))) G1 c1 G2 c2 G3 c3 q1 k R' qh'):=by
      intro w7 o2 g2 t1 t2 t3 t4 t5 t6 t7
      obtain ⟨u1,u2,u3⟩:=L4.out o2 t1 t2
      have gs:w7.grownBy (w7.setCell ⟨G3,j,none⟩ (.int .u32 (g2:Int))) (some G3):=Sm (Sl _ _) _ _ _
      refine ⟨j,_,Ap5 32 g2::qh,rfl,by omega,u1.trans hR,by simp;omega,u2,?_,t4.far gs h23 hg3,?_,t6.far gs h13 hg3⟩
      · rw[← EQ.out,← u3,nv,ofNat_lt t7,← t3,Nat.mul_add,Nat.mul_add,Aqr,Nat.mul_assoc (B ^ j)];omega
      · have:=t5.set j (by simp;omega) (Ap5 32 g2)
        rw[ofNat_lt t7,Aj7]at this
        exact this
    by_cases hb0:b=0
    · subst hb0
      obtain ⟨cl,fz,gb,gl⟩:=QW6.out.cell j (by simp;omega)
      obtain ⟨e2,e3⟩:=EX.out.1 rfl
      have E2:=Lib.hid e2
      have E3:=Lib.hid e3
      clear e2 e3
      go_wp2
      go_roundw
      case rel=>exact fin.out _ out g HOL.out E3.out E2.out HOW.out QW6.out DW6.out GB.out
      case measure=>(simp[intOf] <;> omega)
    · obtain ⟨e2,e3⟩:=EX.out.2 hb0
      obtain ⟨g',rfl⟩ : ∃ g',g=g'+1:=⟨_,e2⟩
      have E2:Hid (g'=nv ((R.drop j).take (n+1)) / (y*2 ^ s)):=Nat.succ.inj e2
      have E3:=Lib.hid e3
      have hbz:(!(b == 0))=true:=by simp[hb0]
      have HGB':Hid (g'<B):=Nat.lt_of_succ_lt GB.out
      have eg:(((g'+1:Nat):Int)-1)=(g':Int):=by omega
      clear e2 e3
      go_wp2_with fail
      have LEN6:Hid ((R.take j++out++R.drop (j+(n+1))).length≤1000000000):=by
        have h1:=LEN.out
        simp only[Apu,L2.out,HOL.out]at h1 ⊢
        exact h1
      refine (AiV hq1n (by omega) L1.out HOL.out LEN6.out (by omega) hg2 h12 HOW.out DW6.out).mono ?_
      rintro e w7 ⟨out2,b2,v,rfl,hol2,hov2,how2,hgr2⟩
      rw[HOL.out]at hol2 hov2
      rw[DV.out]at hov2
      have E4:=Lib.hid (E3.out (nv out2) b2 (by have:=Cc out2;rwa[hol2]at this) hov2)
      have QW7:Hid (OwL w w7 G3 c3 (Apl (j+1) 0++qh)):=QW6.out.far hgr2 h23.symm hg2
      have DW7:Hid (OwL w w7 G1 c1 q1):=DW6.out.far hgr2 h12 hg2
      have HOW2:=Lib.hid how2
      have HOL2:=Lib.hid hol2
      obtain ⟨cl,fz,gb,gl⟩:=QW7.out.cell j (by simp;omega)
      have hgB':=HGB'.out
      rw[A0]at hgB'
      clear hov2 how2 hgr2 hol2 hgB
      go_wp2
      go_roundw
      case rel=>exact fin.out _ out2 g' HOL2.out E4.out E2.out HOW2.out QW7.out DW7.out HGB'.out
      case measure=>(simp[intOf] <;> omega)
theorem AhE(x y:Nat)(h1:1<(lb y).length)(hxy:y≤x)(hl:(lb x).length≤100000):Sp 332 [dL (lb x),dL (lb y)] [dL (lb (x / y)),dL (lb (x % y))]:=by
 refine CU Nk Tryz.func332 (by kernel_rfl) (by kernel_rfl) (by kernel_rfl) (fun w M vs hM _ hlv hrd=> ?_)
 have hps:Tryz.f332.params.toList = [62,62]:=by kernel_rfl
 have hlen:vs.length=2:=by rw[hlv];rfl
 match vs,hlen with
 | [va,vb],_ =>
  rw[hps]at hrd
  refine (Ag_ x y va vb w M (hrd 0 _ _ _ rfl rfl rfl) (hrd 1 _ _ _ rfl rfl rfl) hM h1 hxy hl).mono ?_
  rintro e w' ⟨u1,u2,rfl,r1,r2,hx⟩
  refine ⟨[u1,u2],rfl,rfl,fun i t u ht hu=> ?_,hx⟩
  rw[show Tryz.f332.resultTypes.toList = [62,62] by kernel_rfl]at ht
  match i with
  | 0=>cases ht;cases hu;exact Kv r1 (Ext.refl _) (fun b hb _=>hM b hb)
  | 1=>cases ht;cases hu;exact Kv r2 (Ext.refl _) (fun b hb _=>hM b hb)
  | i+2=>simp at ht
theorem Xr(x y:Nat)(hl:(lb x).length≤100000):DT x y:=fun h1 h2=>AhE x y h1 h2 hl
end Go.Proofs.YtokkbgpgaheakaaGreat
namespace Go.Proofs.YtokkbgpgaheakaaGreat
def I5(z:Int)(d:Nat):Num:=⟨decide (z<0),lb z.natAbs,lb d⟩
theorem Aii(z:Int)(d:Nat):Bt (I5 z d)=z:=Dg z
theorem Aig(z:Int)(d:Nat):Bq (I5 z d)=(d:Int):=by simp[Bq,I5,Bv]
theorem N9:lb 1 = [1]:=by rw[P0 (by decide),show 1 / B=0 from rfl,Da];rfl
theorem Pt(z:Int):I5 z 1=Cy z:=by unfold I5 Cy;rw[N9]
theorem Xx(p q:Int)(hq:q≠0) : ∃ (z:Int) (d:Nat),d≠0∧Nat.Coprime z.natAbs d∧z*q=p*(d:Int)∧z.natAbs≤p.natAbs∧d≤q.natAbs∧Db p q=if 32<Bu z∨32<(lb d).length then (.zero,7) else (I5 z d,0):=by
 have hg:0<Nat.gcd p.natAbs q.natAbs:=Nat.gcd_pos_of_pos_right _ (by omega)
 obtain ⟨a,ha⟩:=Nat.gcd_dvd_left p.natAbs q.natAbs
 obtain ⟨b,hb⟩:=Nat.gcd_dvd_right p.natAbs q.natAbs
 have hda:p.natAbs / Nat.gcd p.natAbs q.natAbs=a:=by
   conv=>lhs;lhs;rw[ha]
   exact Nat.mul_div_cancel_left _ hg
 have hdb:q.natAbs / Nat.gcd p.natAbs q.natAbs=b:=by
   conv=>lhs;lhs;rw[hb]
   exact Nat.mul_div_cancel_left _ hg
 have hcop:Nat.Coprime a b:=by
   have:=Nat.coprime_div_gcd_div_gcd hg
   rwa[hda,hdb]at this
 have hb0:b≠0:=fun h=>by rw[h,Nat.mul_zero]at hb;omega
 have ha0:a=0↔p=0:=by
   constructor
   · intro h;rw[h,Nat.mul_zero]at ha;omega
   · intro h
     rw[h]at ha
     simp only[Int.natAbs_zero]at ha
     rcases Nat.mul_eq_zero.1 ha.symm with h1 | h1
     · rw[h]at hg;simp only[Int.natAbs_zero]at hg;omega
     · exact h1
 have hal:a≤p.natAbs:=by rw[ha];exact Nat.le_mul_of_pos_left _ hg
 have hbl:b≤q.natAbs:=by rw[hb];exact Nat.le_mul_of_pos_left _ hg
 have hab:a*q.natAbs=p.natAbs*b:=by
   conv=>lhs;rw[hb]
   conv=>rhs;rw[ha]
   rw[Nat.mul_left_comm,Nat.mul_assoc]
 unfold Db
 rw[if_neg hq,hda,hdb]
 generalize Nat.gcd p.natAbs q.natAbs=g at *
 clear hda hdb ha hb hg
 have habz:(a:Int)*(q.natAbs:Int)=(p.natAbs:Int)*(b:Int):=by rw[← Int.natCast_mul,hab,Int.natCast_mul]
 by_cases hs:decide (p<0)=decide (q<0)
 · refine ⟨(a:Int),b,hb0,by simpa using hcop,?_,by simpa using hal,hbl,?_⟩
   · rw[decide_eq_decide]at hs
     by_cases hp:p<0
     · have e1:(p.natAbs:Int) = -p:=by omega
       have e2:(q.natAbs:Int) = -q:=by omega
       rw[e1,e2]at habz
       grind
     · have e1:(p.natAbs:Int)=p:=by omega
       have e2:(q.natAbs:Int)=q:=by omega
       rw[e1,e2]at habz
       exact habz
   · unfold I5 Bu
     rw[hs,beq_self_eq_true,Bool.not_true,Bool.and_false]
     simp only[Int.natAbs_natCast]
     rw[decide_eq_false (p:=((a:Int)<0)) (by omega)]
 · have hp:(decide (p<0)==decide (q<0))=false:=by simpa using hs
   refine ⟨-(a:Int),b,hb0,by simpa using hcop,?_,by simpa using hal,hbl,?_⟩
   · rw[decide_eq_decide]at hs
     by_cases hp:p<0
     · have e1:(p.natAbs:Int) = -p:=by omega
       have e2:(q.natAbs:Int)=q:=by omega
       rw[e1,e2]at habz
       grind
     · have e1:(p.natAbs:Int)=p:=by omega
       have e2:(q.natAbs:Int) = -q:=by omega
       rw[e1,e2]at habz
       grind
   · unfold I5 Bu
     rw[hp,Bool.not_false,Bool.and_true]
     simp only[Int.natAbs_neg,Int.natAbs_natCast]
     have:decide (0<(lb a).length)=decide (-(a:Int)<0):=by
       rw[decide_eq_decide]
       have:=Hl (n:=a)
       omega
     rw[this]
theorem Aeb{z z':Int}{d d':Nat}(h:d≠0)(h':d'≠0)(c:Nat.Coprime z.natAbs d)(c':Nat.Coprime z'.natAbs d')(e:z*(d':Int)=z'*(d:Int)):z=z'∧d=d':=by
 have en:z.natAbs*d'=z'.natAbs*d:=by
  have:=congrArg Int.natAbs e
  simpa [Int.natAbs_mul]using this
 have h1:d∣d':=(Nat.Coprime.dvd_of_dvd_mul_left c.symm (by rw[en];exact Nat.dvd_mul_left _ _))
 have h2:d'∣d:=(Nat.Coprime.dvd_of_dvd_mul_left c'.symm (by rw[← en];exact Nat.dvd_mul_left _ _))
 have hd:=Nat.dvd_antisymm h1 h2
 subst hd
 exact ⟨Int.eq_of_mul_eq_mul_right (by omega) e,rfl⟩
structure RNum (n:Num) (z:Int) (d:Nat):Prop where
 eq:n=I5 z d
 d0:d≠0
 cop:Nat.Coprime z.natAbs d
 lz:Bu z≤32
 ld:(lb d).length≤32
theorem AgY{z:Int}{d:Nat}(h0:d≠0)(hc:Nat.Coprime z.natAbs d)(h1:Bu z≤32)(h2:(lb d).length≤32):Db z (d:Int)=(I5 z d,0):=by
 obtain ⟨z',d',h1',h2',h3',_,_,h4'⟩:=Xx z (d:Int) (by omega)
 obtain ⟨rfl,rfl⟩:=Aeb h0 h1' hc h2' h3'.symm
 rw[h4',if_neg (by omega)]
theorem RNum.self {n:Num} {z:Int} {d:Nat} (h:RNum n z d):Db z (d:Int)=(n,0):=by rw[AgY h.d0 h.cop h.lz h.ld,h.eq]
theorem RNum.top {n:Num} {z:Int} {d:Nat} (h:RNum n z d):Bt n=z:=by rw[h.eq,Aii]
theorem RNum.bot {n:Num} {z:Int} {d:Nat} (h:RNum n z d):Bq n=(d:Int):=by rw[h.eq,Aig]
theorem RNum.right {n:Num} {z:Int} {d:Nat} (h:RNum n z d):Ev n=true:=by
 unfold Ev
 rw[h.top,h.bot,h.self]
 have h1:=h.lz
 have h2:=h.ld
 rw[h.eq]
 exact decide_eq_true ⟨h1,h2,rfl⟩
theorem Lv{n:Num}(h:Ev n=true) : ∃ z d,RNum n z d:=by
 unfold Ev at h
 obtain ⟨h1,h2,h3⟩:=of_decide_eq_true h
 by_cases hq:Bq n=0
 · rw[hq]at h3
   have:=congrArg Prod.snd h3
   simp[Db]at this
 · obtain ⟨z,d,g1,g2,_,_,_,g4⟩:=Xx (Bt n) (Bq n) hq
   rw[h3]at g4
   split at g4
   · cases g4
   · injection g4 with g4
     exact ⟨z,d,g4,g1,g2,by omega,by omega⟩
theorem RNum.len {n:Num} {z:Int} {d:Nat} (h:RNum n z d):n.top.length≤32∧n.bot.length≤32:=by rw[h.eq];exact ⟨h.lz,h.ld⟩
theorem IM{p q:Int}(hq:q≠0):((Db p q).2=0→∃ z d,RNum (Db p q).1 z d∧z*q=p*(d:Int)∧z.natAbs≤p.natAbs∧d≤q.natAbs)∧((Db p q).2=0∨(Db p q)=(.zero,7))∧(Bu p≤32→Bu q≤32→(Db p q).2=0):=by
 obtain ⟨z,d,g1,g2,g3,g5,g6,g4⟩:=Xx p q hq
 rw[g4]
 have mono : ∀ {a b k:Nat},a≤b→(lb b).length≤k→(lb a).length≤k:=fun hab hk=>Ba.2 (Nat.lt_of_le_of_lt hab (Ba.1 hk))
 refine ⟨fun h=> ?_,?_,fun h1 h2=> ?_⟩
 · split at h
   · cases h
   · rename_i hh
     rw[if_neg hh]
     exact ⟨z,d,⟨rfl,g1,g2,by omega,by omega⟩,g3,g5,g6⟩
 · split
   · exact .inr rfl
   · exact .inl rfl
 · rw[if_neg]
   have a1:=mono g5 h1
   have a2:=mono g6 h2
   unfold Bu;omega
def Dy(r:Num×Int):List D:=[dN r.1,.int r.2]
theorem Mv(n:Num):Bu (Bt n)≤n.top.length:=Iv ⟨n.neg,n.top⟩
theorem Mu(n:Num):Bu (Bq n)≤n.bot.length:=Iv ⟨false,n.bot⟩
theorem Mb(n:Num):zv ⟨false,n.bot⟩=Bq n:=rfl
theorem K7(n:Num):zv ⟨n.neg,n.top⟩=Bt n:=rfl
def DX(a b:Num):Num×Int:=Db (Bt a*Bq b+Bt b*Bq a) (Bq a*Bq b)
def Qb(a b:Num):Num×Int:=Db (Bt a*Bt b) (Bq a*Bq b)
def Nw(a b:Num):Num×Int:=Db (Bt a*Bq b) (Bq a*Bt b)
def Hz(a b:Num):Int:=Cv (Bt a*Bq b) (Bt b*Bq a)
def Ju(a:Num):Num:=if a.top = [] then Cy 0 else ⟨!a.neg,a.top,a.bot⟩
def LW(a b:Num):Num×Int:=DX a (Ju b)
def Ki(a:Num):Num:=Cy (El (Bt a) (Bq a)).1
def Lb(r:Num×Int)(f:Num→Num×Int):Num×Int:=if r.2=0 then f r.1 else (.zero,r.2)
def P_(a b:Num):Num×Int:=if a.top = [] then (b,0) else Lb (Nw b a) fun q=>Lb (Qb a (Ki q)) fun p=>LW b p
def Oh(p q:Int×Int):Num×Int:=if p.2=0 then (if q.2=0 then Db p.1 q.1 else (.zero,q.2)) else (.zero,p.2)
def Qn(a:Num)(n:Int):Num×Int :=
 if n<0 then (if a.top = []∨n < -9223372036854775807 then (.zero,3) else Oh (Mz (Bq a) (-n)) (Mz (Bt a) (-n))) else Oh (Mz (Bt a) n) (Mz (Bq a) n)
def N4(a b:Num):Num×Int:=if a.bot = [1]∧b.bot = [1] then (Cy (Nat.gcd (nv a.top) (nv b.top):Nat),0) else (.zero,3)
def P1(a b:Num):Num×Int:=Lb (N4 a b) fun g=>if g.top = [] then (g,0) else Lb (Nw a g) fun p=>Qb p b
theorem Qf{n:Num}{z:Int}{d:Nat}(h:RNum n z d):RNum (Ju n) (-z) d:=by
 have h0:n.top = []↔z=0:=by rw[h.eq];show lb z.natAbs = []↔_;rw[HY];omega
 refine ⟨?_,h.d0,by rw[Int.natAbs_neg];exact h.cop,by rw[Ag8];exact h.lz,h.ld⟩
 unfold Ju
 split
 · rename_i h1
   have hz:=h0.1 h1
   have hd:d=1:=by
    have:=h.cop
    rw[hz,Int.natAbs_zero,Nat.coprime_zero_left]at this
    exact this
   rw[hz,hd,Int.neg_zero,Pt]
 · rename_i h1
   have hz:z≠0:=fun hh=>h1 (h0.2 hh)
   rw[h.eq]
   unfold I5
   simp only[Int.natAbs_neg]
   rw[show decide (-z<0) = !decide (z<0) by rw[Ft,decide_eq_decide];omega]
theorem AhI(a b:Nat)(ha:a<18446744073709551616)(hb:b<18446744073709551616):Sp 327 [.int (a:Int),.int (b:Int)] [dL (lb (Nat.gcd a b))]:=by
 have key : ∀ (m N x y:Nat),y<m→x<18446744073709551616→y<18446744073709551616→Tw (Yk N m (x:Int) (y:Int)) [dL (lb (Nat.gcd x y))]:=by
  intro m
  induction m with
  | zero=>intro N x y h;omega
  | succ m ih =>
   intro N x y h hx hy
   simp only[Tw,AhH,Do,Cp,Ft]
   refine Ae (fun h0=> ?_) (fun h0=> ?_)
   · have hm:=Aqe x (show 0<y by omega)
     have:=ih N y (x % y) (by omega) hy (by omega)
     rw[Nat.gcd_comm x y,Nat.gcd_rec,Nat.gcd_comm]
     exact Ad this
   · have:y=0:=by omega
     subst this
     rw[Nat.gcd_zero_right,Po]
     have e1:Api .u32 (x:Int)=((x % 4294967296:Nat):Int):=by rw[IntKind.wrap_u32];omega
     have e2:Api .u32 ((x / 4294967296:Nat):Int)=((x / 4294967296:Nat):Int):=Fw (by omega) (by omega)
     have nm:=Ig [Ap5 32 (x % 4294967296),Ap5 32 (x / 4294967296)] (by simp)
     rw[Um hx]at nm
     rw[e1,e2,E0 (t:=x % 4294967296) (by rw[A0];omega),E0 (t:=x / 4294967296) (by rw[A0];omega)]
     exact Bi (by decide) (Aa nm (Ac rfl))
 refine Af (b+1) (AhJ _ _ _) ?_
 simp only[Ao]
 exact key (b+1) (b+1) a b (by omega) ha hb
theorem VG(l:List Aq)(h:l.length≤2):Sp 328 [dL l] [.int ((nv l:Nat):Int)]:=by
 refine Af 3 (AhM _ _) ?_
 have one : ∀ (m k x:Nat) (d:Aq),k≤1→l[k]? = some d→(k=0→x=0)→x<4294967296→Tw (Qe 3 m ((x+d.toNat*4294967296 ^ k:Nat):Int) (dL l) (l.length:Int) ((k+1:Nat):Int)) [.int ((nv l:Nat):Int)]→Tw (Qe 3 (m+1) (x:Int) (dL l) (l.length:Int) (k:Int)) [.int ((nv l:Nat):Int)]:=by
  intro m k x d hk hd hx hx2 hw
  have hkl:k<l.length:=(Apo.1 hd).1
  have hdl:=Fe d
  rw[A0]at hdl
  simp only[Tw,VF,B5,Apm,Apr,Au hd,Ej]
  rw[Aw (x:=32*(k:Int)) (by omega) (by omega),Bs (x:=32*(k:Int)) (by omega) (by omega),Bs (x:=(d.toNat:Int)) (by omega) (by omega),Ey (by omega)]
  refine Ad (Ad (Ad (Ad ?_)))
  have e:Br .or .u64 (x:Int) (Api .u64 ((d.toNat:Int)*2 ^ (min (Apj (32*(k:Int))) (Apv .u64))))=((x+d.toNat*4294967296 ^ k:Nat):Int):=by
   rcases (by omega:k=0∨k=1) with rfl | rfl
   · rw[hx rfl]
     show Br .or .u64 ((0:Nat):Int) (Api .u64 ((d.toNat:Int)*1))=_
     rw[Int.mul_one,Bs (by omega) (by omega),VZ (by omega) (by omega)]
     simp
   · show Br .or .u64 (x:Int) (Api .u64 ((d.toNat:Int)*4294967296))=_
     rw[show (d.toNat:Int)*4294967296=((d.toNat*4294967296:Nat):Int) by omega,Bs (by omega) (by omega),JH hx2 hdl]
     try simp
  rw[e]
  exact hw
 simp only[B5,Apm]
 have fin : ∀ (m x:Nat),nv l=x→Tw (Qe 3 (m+1) (x:Int) (dL l) (l.length:Int) (l.length:Int)) [.int ((nv l:Nat):Int)]:=by
  intro m x hx
  simp only[Tw,VF]
  exact Ar (Ac (by rw[hx]))
 match l,h with
 | [],_=>exact fin 2 0 rfl
 | [d],_ =>
  refine one 2 0 0 d (by omega) rfl (fun _=>rfl) (by omega) ?_
  exact fin 1 _ (by simp[nv])
 | [d,e],_ =>
  have hdl:=Fe d
  rw[A0]at hdl
  refine one 2 0 0 d (by omega) rfl (fun _=>rfl) (by omega) ?_
  rw[show 0+d.toNat*4294967296 ^ 0=d.toNat by simp]
  refine one 1 1 d.toNat e (by omega) rfl (fun h=>by omega) (by omega) ?_
  refine fin 0 _ ?_
  simp only[nv]
  rw[A0,Nat.pow_one,Aqg e.toNat]
  simp
theorem UV(a b:List Aq)(ha:a.length≤1000)(hb:b.length≤1000):Sp 315 [dL a,dL b] [dL (lb (Nat.gcd (nv a) (nv b)))]:=by
 obtain ⟨K,hK⟩ : ∃ K,K=1000:=⟨_,rfl⟩
 have key : ∀ (m N x y:Nat),y<m→(lb x).length≤K→(lb y).length≤K→Tw (S4 N m (dL (lb x)) (dL (lb y))) [dL (lb (Nat.gcd x y))]:=by
  intro m
  induction m with
  | zero=>intro N x y h;omega
  | succ m ih =>
   intro N x y h hx hy
   simp only[Tw,Ah4,B5,Apm]
   have ly0:=Hl (n:=y)
   refine Ae (fun h0=> ?_) (fun h0=> ?_)
   · have hy0:y≠0:=fun hh=>by rw[ly0.2 hh]at h0;omega
     have hm:=Aqe x (show 0<y by omega)
     have hml:(lb (x % y)).length≤K:=Ba.2 (Nat.lt_of_le_of_lt (Nat.le_of_lt hm) (Ba.1 hy))
     have dm:=Ya (lb x) (lb y) (by omega) (by omega) (Xr _ _ (by rw[Bv];omega))
     rw[Bv,Bv,if_neg hy0]at dm
     have nxt:=ih N y (x % y) (by omega) hy hml
     rw[show Nat.gcd y (x % y)=Nat.gcd x y by rw[Nat.gcd_comm x y,Nat.gcd_rec y x,Nat.gcd_comm]]at nxt
     refine Ae (fun h1=>Ae (fun h2=> ?_) (fun h2=>Aa dm nxt)) (fun h1=>Aa dm nxt)
     have w1:=VG (lb x) (by omega)
     have w2:=VG (lb y) (by omega)
     rw[Bv]at w1 w2
     have b1:x<18446744073709551616:=Ba.1 (show (lb x).length≤2 by omega)
     have b2:y<18446744073709551616:=Ba.1 (show (lb y).length≤2 by omega)
     exact Aa w1 (Aa w2 (Aa (AhI x y b1 b2) (Ac rfl)))
   · have:y=0:=ly0.1 (by omega)
     subst this
     have nm:=Ig (lb x) (by omega)
     rw[Bv]at nm
     rw[Nat.gcd_zero_right]
     exact Aa nm (Ac rfl)
 have la:(lb (nv a)).length≤a.length:=Ba.2 (Cc a)
 have lb_:(lb (nv b)).length≤b.length:=Ba.2 (Cc b)
 refine Af (nv b+1) (Ah5 _ _ _) (Aa (F7 a (by omega)) (Aa (F7 b (by omega)) ?_))
 exact key (nv b+1) (nv b+1) (nv a) (nv b) (by omega) (by omega) (by omega)
theorem Hp(n:Num):Sp 255 [dN n] [dW ⟨false,n.bot⟩]:=Af 0 (Akc _ _) (Ac rfl)
theorem AcH{w:Wh}(h:nv w.mag≠0):decide (zv w<0)=w.neg:=by
 rw[show w.neg=decide (w.neg=true) by simp,decide_eq_decide];exact U0 h
theorem Zo(p q:Wh)(hp:p.mag.length≤1000)(hq:q.mag.length≤1000):Sp 305 [dW p,dW q] (Dy (Db (zv p) (zv q))):=by
 refine Af 0 (AjO _ _ _) (Aa (Ig p.mag (by omega)) (Aa (Ig q.mag (by omega)) ?_))
 have lp:(lb (nv p.mag)).length≤p.mag.length:=Ba.2 (Cc _)
 have lq:(lb (nv q.mag)).length≤q.mag.length:=Ba.2 (Cc _)
 have ap:=Ma p
 have aq:=Ma q
 have sgn : ∀ t:Nat,(0<(lb t).length→nv p.mag≠0)→nv q.mag≠0→(decide (0<(lb t).length)&& !(decide (zv p<0)==decide (zv q<0)))=if 0<(lb t).length then !(p.neg == q.neg) else false:=by
   intro t h1 h2
   split
   · rename_i h3
     rw[decide_eq_true h3,Bool.true_and,AcH (h1 h3),AcH h2]
   · rename_i h3
     rw[decide_eq_false h3,Bool.false_and]
 simp only[Ag,F0,Fo,B5,Apm,Bc,Cp]
 have ly0:=Hl (n:=nv q.mag)
 refine Ae (fun h=>Ac ?_) (fun h=> ?_)
 · have:zv q=0:=U1.2 (ly0.1 (by omega))
   unfold Db;rw[if_pos this];rfl
 have hq0:nv q.mag≠0:=fun hh=>h (by rw[hh,Da];rfl)
 have hqz:zv q≠0:=fun hh=>hq0 (U1.1 hh)
 have fin : ∀ g:Nat,g=Nat.gcd (nv p.mag) (nv q.mag)→∀ (t b:Nat),t=nv p.mag / g→b=nv q.mag / g→Tw (.br (decide (32<((lb t).length:Int))) (.ret [D.agg [D.bool false,D.sl [],D.sl []],D.int 7]) (.br (decide (32<((lb b).length:Int))) (.ret [D.agg [D.bool false,D.sl [],D.sl []],D.int 7]) (.br (decide (0<((lb t).length:Int))) (.ret [D.agg [D.bool (!(p.neg == q.neg)),dL (lb t),dL (lb b)],D.int 0]) (.ret [D.agg [D.bool false,dL (lb t),dL (lb b)],D.int 0])))) (Dy (Db (zv p) (zv q))):=by
   intro g hg t b ht hb
   have sg:=sgn t (fun h3 hh=>by rw[ht,hh,Nat.zero_div,Da]at h3;simp at h3) hq0
   unfold Db Dy
   rw[if_neg hqz,ap,aq,← hg,← ht,← hb,sg]
   refine Ae (fun h1=>Ac ?_) (fun h1=>Ae (fun h2=>Ac ?_) (fun h2=>Ae (fun h3=>Ac ?_) (fun h3=>Ac ?_)))
   · rw[if_pos (by omega)];rfl
   · rw[if_pos (by omega)];rfl
   · rw[if_neg (by omega),if_pos (by omega)];rfl
   · rw[if_neg (by omega),if_neg (by omega)];rfl
 refine Aa (Lr _) ?_
 simp only[Ag,Bc,Ft]
 have one : ∀ l:List Aq,l = [1]→nv l=1:=fun l h=>by rw[h];simp[nv]
 refine Ae (fun h1=> ?_) (fun h1=> ?_)
 · have gc:=UV (lb (nv p.mag)) (lb (nv q.mag)) (by omega) (by omega)
   rw[Bv,Bv]at gc
   refine Aa gc (Aa (Lr _) ?_)
   simp only[Ag,Bc,Ft]
   have hg0:Nat.gcd (nv p.mag) (nv q.mag)≠0:=fun hh=>hq0 (Nat.gcd_eq_zero_iff.1 hh).2
   have hgl:(lb (Nat.gcd (nv p.mag) (nv q.mag))).length≤q.mag.length:=Ba.2 (Nat.lt_of_le_of_lt (Nat.gcd_le_right _ (by omega)) (Cc _))
   refine Ae (fun h2=> ?_) (fun h2=> ?_)
   · have d1:=Ya (lb (nv p.mag)) (lb (Nat.gcd (nv p.mag) (nv q.mag))) (by omega) (by omega) (Xr _ _ (by rw[Bv];omega))
     have d2:=Ya (lb (nv q.mag)) (lb (Nat.gcd (nv p.mag) (nv q.mag))) (by omega) (by omega) (Xr _ _ (by rw[Bv];omega))
     rw[Bv,Bv]at d1 d2
     refine Aa d1 (Aa d2 ?_)
     simp only[Ag,B5,Apm]
     exact fin _ rfl _ _ rfl rfl
   · have:Nat.gcd (nv p.mag) (nv q.mag)=1:=by have:=one _ (Apw.1 h2);rwa[Bv]at this
     exact fin 1 this.symm _ _ (Nat.div_one _).symm (Nat.div_one _).symm
 · have hq1:nv q.mag=1:=by have:=one _ (Apw.1 h1);rwa[Bv]at this
   exact fin 1 (by rw[hq1,Nat.gcd_one_right]) _ _ (Nat.div_one _).symm (Nat.div_one _).symm
def Hw(n:Num):Prop:=n.top.length≤200∧n.bot.length≤200
theorem RNum.sm {n:Num} {z:Int} {d:Nat} (h:RNum n z d):Hw n:=by have:=h.len;unfold Hw;omega
section
variable {a b:Num}
theorem XY(ha:Hw a)(hb:Hw b):Sp 277 [dN a,dN b] (Dy (DX a b)):=by
 obtain ⟨a1,a2⟩:=ha
 obtain ⟨b1,b2⟩:=hb
 have at_:=Mv a;have ab:=Mu a;have bt:=Mv b;have bb:=Mu b
 have m1:=Jr (Bt a) (Bq b)
 have m2:=Jr (Bt b) (Bq a)
 have m3:=Jr (Bq a) (Bq b)
 have s1:=Ag7 (Bt a*Bq b) (Bt b*Bq a)
 have x1:=Ji ⟨a.neg,a.top⟩ ⟨false,b.bot⟩ (by show a.top.length≤_;omega) (by show b.bot.length≤_;omega)
 have x2:=Ji ⟨b.neg,b.top⟩ ⟨false,a.bot⟩ (by show b.top.length≤_;omega) (by show a.bot.length≤_;omega)
 have x3:=Ji ⟨false,a.bot⟩ ⟨false,b.bot⟩ (by show a.bot.length≤_;omega) (by show b.bot.length≤_;omega)
 have x4:=MP (wz (Bt a*Bq b)) (wz (Bt b*Bq a)) (by rw[Ga];omega) (by rw[Ga];omega)
 have x5:=Zo (wz (Bt a*Bq b+Bt b*Bq a)) (wz (Bq a*Bq b)) (by rw[Ga];omega) (by rw[Ga];omega)
 rw[K7,Mb]at x1 x2
 rw[Mb,Mb]at x3
 rw[Dg,Dg]at x4 x5
 exact Af 0 (AjE _ _ _) (Aa (F8 a) (Aa (Hp b) (Aa x1 (Aa (F8 b) (Aa (Hp a) (Aa x2 (Aa x4 (Aa (Hp a) (Aa (Hp b) (Aa x3 (Aa x5 (Ac rfl))))))))))))
theorem KB(ha:Hw a)(hb:Hw b):Sp 279 [dN a,dN b] (Dy (Qb a b)):=by
 obtain ⟨a1,a2⟩:=ha
 obtain ⟨b1,b2⟩:=hb
 have at_:=Mv a;have ab:=Mu a;have bt:=Mv b;have bb:=Mu b
 have m1:=Jr (Bt a) (Bt b)
 have m3:=Jr (Bq a) (Bq b)
 have x1:=Ji ⟨a.neg,a.top⟩ ⟨b.neg,b.top⟩ (by show a.top.length≤_;omega) (by show b.top.length≤_;omega)
 have x3:=Ji ⟨false,a.bot⟩ ⟨false,b.bot⟩ (by show a.bot.length≤_;omega) (by show b.bot.length≤_;omega)
 have x5:=Zo (wz (Bt a*Bt b)) (wz (Bq a*Bq b)) (by rw[Ga];omega) (by rw[Ga];omega)
 rw[K7,K7]at x1
 rw[Mb,Mb]at x3
 rw[Dg,Dg]at x5
 exact Af 0 (AjR _ _ _) (Aa (F8 a) (Aa (F8 b) (Aa x1 (Aa (Hp a) (Aa (Hp b) (Aa x3 (Aa x5 (Ac rfl))))))))
theorem Zn(ha:Hw a)(hb:Hw b):Sp 260 [dN a,dN b] (Dy (Nw a b)):=by
 obtain ⟨a1,a2⟩:=ha
 obtain ⟨b1,b2⟩:=hb
 have at_:=Mv a;have ab:=Mu a;have bt:=Mv b;have bb:=Mu b
 have m1:=Jr (Bt a) (Bq b)
 have m3:=Jr (Bq a) (Bt b)
 have x1:=Ji ⟨a.neg,a.top⟩ ⟨false,b.bot⟩ (by show a.top.length≤_;omega) (by show b.bot.length≤_;omega)
 have x3:=Ji ⟨false,a.bot⟩ ⟨b.neg,b.top⟩ (by show a.bot.length≤_;omega) (by show b.top.length≤_;omega)
 have x5:=Zo (wz (Bt a*Bq b)) (wz (Bq a*Bt b)) (by rw[Ga];omega) (by rw[Ga];omega)
 rw[K7,Mb]at x1
 rw[Mb,K7]at x3
 rw[Dg,Dg]at x5
 exact Af 0 (AjI _ _ _) (Aa (F8 a) (Aa (Hp b) (Aa x1 (Aa (Hp a) (Aa (F8 b) (Aa x3 (Aa x5 (Ac rfl))))))))
theorem IT(h:a.bot = [1]):Bq a=1:=by unfold Bq;rw[h];simp[nv]
theorem Zm(ha:Hw a)(hb:Hw b):Sp 219 [dN a,dN b] [.int (Hz a b)]:=by
 obtain ⟨a1,a2⟩:=ha
 obtain ⟨b1,b2⟩:=hb
 have at_:=Mv a;have ab:=Mu a;have bt:=Mv b;have bb:=Mu b
 have m1:=Jr (Bt a) (Bq b)
 have m2:=Jr (Bt b) (Bq a)
 have x1:=Ji ⟨a.neg,a.top⟩ ⟨false,b.bot⟩ (by show a.top.length≤_;omega) (by show b.bot.length≤_;omega)
 have x2:=Ji ⟨b.neg,b.top⟩ ⟨false,a.bot⟩ (by show b.top.length≤_;omega) (by show a.bot.length≤_;omega)
 have x4:=Ac3 (wz (Bt a*Bq b)) (wz (Bt b*Bq a)) (by rw[Ga];omega) (by rw[Ga];omega)
 have x5:=Ac3 ⟨a.neg,a.top⟩ ⟨b.neg,b.top⟩ (by show a.top.length≤_;omega) (by show b.top.length≤_;omega)
 rw[K7,Mb]at x1 x2
 rw[Dg,Dg]at x4
 rw[K7,K7]at x5
 refine Af 0 (AjH _ _ _) (Aa (Lr a.bot) ?_)
 simp only[Ag,Bc]
 refine Ae (fun h=>Aa (Lr b.bot) ?_) (fun h=>Aa (F8 a) (Aa (Hp b) (Aa x1 (Aa (F8 b) (Aa (Hp a) (Aa x2 (Aa x4 (Ac rfl))))))))
 simp only[Ag,Bc]
 refine Ae (fun h'=> ?_) (fun h'=>Aa (F8 a) (Aa (Hp b) (Aa x1 (Aa (F8 b) (Aa (Hp a) (Aa x2 (Aa x4 (Ac rfl))))))))
 refine Aa (F8 a) (Aa (F8 b) (Aa x5 (Ac ?_)))
 unfold Hz
 rw[IT h,IT h',Int.mul_one,Int.mul_one];rfl
theorem Zq(ha:Hw a):Sp 259 [dN a] [.int (E8 (Bt a))]:=by
 obtain ⟨a1,a2⟩:=ha
 exact Af 0 (AjY _ _) (Aa (F8 a) (Aa (DK ⟨a.neg,a.top⟩ (by show a.top.length≤_;omega)) (Ac rfl)))
end
section
variable {a b:Num} {z y:Int} {d e:Nat}
def Ot(neg:Bool)(n:Num):Num:=⟨neg&&decide (0<n.top.length),n.top,n.bot⟩
theorem KC(neg:Bool)(h:RNum a z d):Sp 304 [.bool neg,dN a] [dN (Ot neg a)]:=by
 obtain ⟨l1,l2⟩:=h.len
 have e1:lb (nv a.top)=a.top:=by rw[h.eq];show lb (nv (lb _))=lb _;rw[Bv]
 have e2:lb (nv a.bot)=a.bot:=by rw[h.eq];show lb (nv (lb _))=lb _;rw[Bv]
 have n1:=Ig a.top (by omega)
 have n2:=Ig a.bot (by omega)
 rw[e1]at n1
 rw[e2]at n2
 refine Af 0 (Akd _ _ _) (Aa n1 (Aa n2 ?_))
 simp only[Ag,B5,Apm,Bc]
 unfold Ot
 cases neg with
 | true =>
  refine Bi rfl (Ac ?_)
  rw[Bool.true_and,show decide ((0:Int)<(a.top.length:Int))=decide (0<a.top.length) by rw[decide_eq_decide];omega];rfl
 | false=>exact Eo rfl (Ac rfl)
theorem RNum.top0 (h:RNum a z d):a.top = []↔z=0:=by rw[h.eq];show lb z.natAbs = []↔_;rw[HY];omega
theorem RNum.sgn (h:RNum a z d):a.neg=decide (z<0):=by rw[h.eq];rfl
theorem AmB(h:RNum a z d):Ot (!a.neg) a=Ju a:=by
 unfold Ot Ju
 split
 · rename_i h0
   rw[h0]
   have hz:=h.top0.1 h0
   have hd:d=1:=by
    have:=h.cop
    rw[hz,Int.natAbs_zero,Nat.coprime_zero_left]at this
    exact this
   have hb:a.bot = [1]:=by rw[h.eq,hd];exact N9
   rw[hb];simp[Cy,Da]
 · rename_i h0
   rw[decide_eq_true (List.length_pos_iff.2 h0),Bool.and_true]
theorem AmC(h:RNum a z d):Ot a.neg a=a:=by
 unfold Ot
 have:(a.neg&&decide (0<a.top.length))=a.neg:=by
  by_cases h0:a.top = []
  · have:=h.top0.1 h0
    rw[h.sgn,this];simp
  · rw[decide_eq_true (List.length_pos_iff.2 h0),Bool.and_true]
 rw[this]
theorem Zp(h:RNum a z d):Sp 258 [dN a] [dN (Ju a)]:=by
 refine Af 0 (AjS _ _) ?_
 simp only[Nt,Bc]
 refine Aa (KC _ h) (Ac ?_)
 rw[AmB h];rfl
theorem AjC(h:RNum a z d):Sp 263 [dN a] [dN ⟨false,a.top,a.bot⟩]:=by
 refine Af 0 (AjD _ _) (Aa (KC _ h) (Ac ?_))
 simp[Ot]
theorem YC(ha:Hw a)(h:RNum b z d):Sp 278 [dN a,dN b] (Dy (LW a b)) :=
 Af 0 (Aka _ _ _) (Aa (Zp h) (Aa (XY ha (Qf h).sm) (Ac rfl)))
theorem GM(h:RNum a z d):Bu (El z (d:Int)).1≤32:=by
 have hd0:=h.d0
 obtain ⟨e1,_,e3,e4,_⟩:=Ae8 z (d:Int) (by omega)
 have hl:=h.lz
 have hz:=IC z
 have hz2:z.natAbs<B ^ 32:=Aqk hz (Nat.pow_le_pow_right B1 hl)
 have e5:=e4 (by omega)
 refine Sw ?_
 generalize (El z (d:Int)).1=q at *
 generalize (El z (d:Int)).2=r at *
 have hB2:4≤B ^ 32:=by decide
 generalize B ^ 32=P at *
 have hr:r<(d:Int):=by omega
 rcases Nat.lt_or_ge 1 d with h1 | h1
 ·
   rcases Nat.lt_or_ge q.natAbs P with h2 | h2
   · exact h2
   · exfalso
     rcases Int.le_total 0 q with h3 | h3
     · have:q*2≤q*(d:Int):=Int.mul_le_mul_of_nonneg_left (by omega) h3
       omega
     · have:(-q)*2≤(-q)*(d:Int):=Int.mul_le_mul_of_nonneg_left (by omega) (by omega)
       have h4:(-q)*(d:Int) = -(q*(d:Int)):=Int.neg_mul _ _
       have h5:(-q-1)*2≤(-q-1)*(d:Int):=Int.mul_le_mul_of_nonneg_left (by omega) (by omega)
       have h6:(-q-1)*(d:Int) = -(q*(d:Int))-(d:Int):=by rw[Int.sub_mul,Int.neg_mul,Int.one_mul]
       omega
 · obtain rfl:d=1:=by omega
   have:q*((1:Nat):Int)=q:=by simp
   omega
theorem Sf(h:RNum a z d):RNum (Ki a) (El z (d:Int)).1 1:=by
 have hf:Ki a=Cy (El z (d:Int)).1:=by unfold Ki;rw[h.top,h.bot]
 exact ⟨by rw[hf,Pt],by decide,Nat.coprime_one_right _,GM h,by rw[N9];decide⟩
theorem Af4(h:RNum a z d):Nl (El (Bt a) (Bq a)).1=Ki a:=by
 unfold Nl Ki
 have:=GM h
 rw[h.top,h.bot,if_neg (by unfold Bu at this;omega)]
theorem Ae6(h:RNum a z d):Bu (El (Bt a) (Bq a)).1≤32:=by rw[h.top,h.bot];exact GM h
theorem RNum.botnz (h:RNum a z d):Bq a≠0:=by rw[h.bot];have:=h.d0;omega
theorem KA(h:RNum a z d):Sp 262 [dN a] [dN (Ki a)]:=by
 obtain ⟨l1,l2⟩:=h.len
 have dm:=AoL ⟨a.neg,a.top⟩ ⟨false,a.bot⟩ (by show a.top.length≤_;omega) (by show a.bot.length≤_;omega) (Xr _ _ (by have:(lb (nv a.top)).length≤a.top.length:=Ba.2 (Cc _);show (lb (nv a.top)).length≤_;omega))
 rw[K7,Mb]at dm
 unfold FT at dm
 rw[if_neg h.botnz]at dm
 have dl:=Ae6 h
 have wh:=Zs (wz (El (Bt a) (Bq a)).1) (by rw[Ga];omega)
 rw[Dg,Af4 h]at wh
 exact Af 0 (AjJ _ _) (Aa (F8 a) (Aa (Hp a) (Aa dm (Aa wh (Ac rfl)))))
theorem AjF(h:RNum a z d):Sp 261 [dN a] [dN (Ju (Ki (Ju a)))] :=
 Af 0 (AjG _ _) (Aa (Zp h) (Aa (KA (Qf h)) (Aa (Zp (Sf (Qf h))) (Ac rfl))))
theorem PY(ha:RNum a z d)(hb:RNum b y e)(hy:y≠0)(h:(Nw a b).2=0) : ∃ x c,RNum (Nw a b).1 x c:=by
 have hq:Bq a*Bt b≠0:=Int.mul_ne_zero ha.botnz (by rw[hb.top];exact hy)
 obtain ⟨x,c,h1,_⟩:=(IM hq).1 h
 exact ⟨x,c,h1⟩
theorem Ahx(ha:RNum a z d)(hb:RNum b y e)(h:(Qb a b).2=0) : ∃ x c,RNum (Qb a b).1 x c:=by
 have hq:Bq a*Bq b≠0:=Int.mul_ne_zero ha.botnz hb.botnz
 obtain ⟨x,c,h1,_⟩:=(IM hq).1 h
 exact ⟨x,c,h1⟩
theorem LI{x:Int} : E8 x=0↔x=0:=by unfold E8;by_cases h1:x<0 <;> by_cases h2:x=0 <;> simp[h1,h2]
theorem AjP(ha:RNum a z d)(hb:RNum b y e):Sp 280 [dN a,dN b] (Dy (P_ a b)):=by
 refine Af 0 (AjQ _ _ _) (Aa (Zq ha.sm) ?_)
 simp only[Ag,Ao,Cp,Nt,Bc]
 unfold P_
 refine Ae (fun h=>Aa (KC _ hb) (Ac ?_)) (fun h=>Aa (Zn hb.sm ha.sm) ?_)
 · rw[if_pos (ha.top0.2 (by rw[← ha.top];exact LI.1 h)),AmC hb];rfl
 have hz:z≠0:=fun hh=>h (by rw[ha.top,hh];rfl)
 rw[if_neg (fun hh=>hz (ha.top0.1 hh))]
 simp only[Dy,Ag,C5,Ao,Do,Jm]
 unfold Lb
 refine Ae (fun h1=>Ac ?_) (fun h1=> ?_)
 · rw[if_neg h1]
 have h1':=Apw.1 h1
 rw[if_pos h1']
 obtain ⟨x,c,hr⟩:=PY hb ha hz h1'
 refine Aa (KA hr) (Aa (KB ha.sm (Sf hr).sm) ?_)
 simp only[Dy,Ag,C5,Ao,Do]
 refine Ae (fun h2=>Ac ?_) (fun h2=> ?_)
 · rw[if_neg h2]
 have h2':=Apw.1 h2
 rw[if_pos h2']
 obtain ⟨x2,c2,hr2⟩:=Ahx ha (Sf hr) h2'
 exact Aa (YC hb.sm hr2) (Ac rfl)
end
def N5:List (Nat×Orc):=[(6,⟨[(2,none),(3,none),(4,none),(5,none),(6,none),(22,none),(23,none)],[(2,true),(3,false),(4,false),(5,false)],[(.slot 6,1060,3)]⟩),(13,⟨[(2,none),(4,none),(5,none),(8,none),(37,none),(38,none),(39,none)],[(2,true),(4,false),(5,false)],[(.slot 8,1130,67),(.slot 37,1131,3)]⟩)]
def RP:List ResultVar:=[.cell 4 26,.cell 5 29]
noncomputable def W9(n m13:Nat)(told8 t37:List D)(t38 t39:Int)(a2:D)(r4_0 e5:Int):Tree :=
 lA (eA N5 n 69 [1,1,1,1,1,1,1,0,1,0,0]) (Al N5 13) m13 ⟨(.undef:: .undef:: .ptr 2 []:: .undef:: .ptr 4 []:: .ptr 5 []:: .undef:: .undef:: .row 1130::uA 28++(.row 1131:: .i .i64 t38:: .i .i64 t39::uA 16)),[(2,.var 26 (.d 26 a2) false),(4,.var 26 (.agg 26 [.i .u64 r4_0,.mt,.mt]) true),(5,.var 29 (.i .i64 e5) true),(1130,.row 67 told8 true),(1131,.row 3 t37 true)],[2,4,5,1130,1131],[(154,[.ptr 4 [],.ptr 5 []])],[]⟩
  (Aj 2 (An (jA N5 n 69 [1,1,1,1,1,1,1,1]) (rA 69 [26,4] RP [26,29])))
noncomputable def W_(n m6:Nat)(places6:List D)(t22 t23:Int)(a2:D)(down3:Bool)(r4_0 e5:Int):Tree :=
 lA (eA N5 n 69 [1,1,1,1,0,1,0,0]) (Al N5 6) m6 ⟨(.undef:: .undef:: .ptr 2 []:: .ptr 3 []:: .ptr 4 []:: .ptr 5 []:: .row 1060::uA 15++(.i .i64 t22:: .i .i64 t23::uA 32)),[(2,.var 26 (.d 26 a2) true),(3,.var 4 (.b down3) true),(4,.var 26 (.agg 26 [.i .u64 r4_0,.mt,.mt]) true),(5,.var 29 (.i .i64 e5) true),(1060,.row 3 places6 true)],[2,3,4,5,1060],[(154,[.ptr 4 [],.ptr 5 []])],[]⟩
  (Aj 0 (An (jA N5 n 69 [1,1,1,1,1]) (rA 69 [26,4] RP [26,29])))
theorem RN(n m13:Nat)(told8 t37:List D)(t38 t39:Int)(a2:D)(r4_0 e5:Int):W9 n (m13+1) told8 t37 t38 t39 a2 r4_0 e5 =
 bK (t39<t38) (kK (0≤t39) (kK (t39<(t37.length:Int)) (cK 138 [D.int (Api .i64 (((t37.getD (Apj t39) D.nil).toInt)+1))] fun Y2 =>
 kK (0≤t39) (kK (t39<(told8.length:Int)) (W9 n m13 (told8.set (Apj t39) (qA Y2)) t37 t38 (Api .i64 (t39+1)) a2 r4_0 e5)))))
 (cK 149 [D.sl told8] fun Y3 =>
 cK 84 [a2] fun Y4 =>
 cK 90 [qA Y3,D.int ((qA Y4).toInt)] fun Y5 =>
 .ret [qA Y5,D.int 0]):=by kernel_rfl
theorem RO(n m6:Nat)(places6:List D)(t22 t23:Int)(a2:D)(down3:Bool)(r4_0 e5:Int):W_ n (m6+1) places6 t22 t23 a2 down3 r4_0 e5 =
 bK (t23<t22) (kK (0≤t23) (kK (t23<(places6.length:Int)) (W_ n m6 (places6.set (Apj t23) (D.int t23)) t22 (Api .i64 (t23+1)) a2 down3 r4_0 e5)))
 (cK 155 [D.sl places6,D.fn 156 [.ref 4,.ref 26] [D.ref (D.bool down3),D.ref a2]] fun Y1 =>
 kK (0≤(((qA Y1).els).length:Int)) (kK ((((qA Y1).els).length:Int)≤(((qA Y1).els).length:Int)) (kK ((((qA Y1).els).length:Int)≤Ak) (W9 n n (Apl (Apj (((qA Y1).els).length:Int)) (D.agg [D.int 0,D.int 0,D.agg [D.bool false,D.sl [],D.sl []],D.int 0,D.sl []])) ((qA Y1).els) (((qA Y1).els).length:Int) 0 a2 r4_0 e5)))):=by kernel_rfl
theorem AfA(n:Nat)(a0 down1:D):fA N5 n 69 [] [a0,down1] =
 .br ((((a0.fld 1).els).length:Int)!=1) (.ret [D.agg [D.int 0,D.sl [],D.sl []],D.int 5])
 (kK (0≤(((a0.fld 2).els).length:Int)) (kK ((((a0.fld 2).els).length:Int)≤(((a0.fld 2).els).length:Int)) (kK ((((a0.fld 2).els).length:Int)≤Ak) (W_ n n (Apl (Apj (((a0.fld 2).els).length:Int)) (D.int 0)) ((Apl (Apj (((a0.fld 2).els).length:Int)) (D.int 0)).length:Int) 0 a0 down1.toBool 0 0)))):=by kernel_rfl
theorem Af_(n:Nat)(i0 j1:D)(c2 c3:D):fA [] n 156 [.ref 4,.ref 26] [i0,j1,c2,c3] =
 .br c2.unref.toBool (kK (0≤j1.toInt) (kK (j1.toInt<(((c3.unref.fld 2).els).length:Int)) (kK (0≤i0.toInt) (kK (i0.toInt<(((c3.unref.fld 2).els).length:Int)) (cK 157 [((c3.unref.fld 2).els).getD (Apj j1.toInt) D.nil,((c3.unref.fld 2).els).getD (Apj i0.toInt) D.nil] fun Y1 =>
 .ret [D.int ((qA Y1).toInt)])))))
 (kK (0≤i0.toInt) (kK (i0.toInt<(((c3.unref.fld 2).els).length:Int)) (kK (0≤j1.toInt) (kK (j1.toInt<(((c3.unref.fld 2).els).length:Int)) (cK 157 [((c3.unref.fld 2).els).getD (Apj i0.toInt) D.nil,((c3.unref.fld 2).els).getD (Apj j1.toInt) D.nil] fun Y2 =>
 .ret [D.int ((qA Y2).toInt)]))))):=by kernel_rfl
theorem AfC(n:Nat)(x0 y1:D):fA [] n 157 [] [x0,y1] =
 .br (((x0.fld 1).toInt)!=((y1.fld 1).toInt)) (cK 218 [D.int ((x0.fld 1).toInt),D.int ((y1.fld 1).toInt)] fun Y1 =>
 .ret [D.int ((qA Y1).toInt)])
 (.br (((x0.fld 1).toInt)==0) (cK 219 [x0.fld 2,y1.fld 2] fun Y2 =>
 .ret [D.int ((qA Y2).toInt)])
 (.br (((x0.fld 1).toInt)==1) (cK 218 [D.int ((x0.fld 3).toInt),D.int ((y1.fld 3).toInt)] fun Y3 =>
 .ret [D.int ((qA Y3).toInt)])
 (kK (0≤0) (kK (0<(((x0.fld 4).els).length:Int)) (kK (0≤0) (kK (0<(((y1.fld 4).els).length:Int)) (cK 220 [((x0.fld 4).els).getD (Apj 0) D.nil,((y1.fld 4).els).getD (Apj 0) D.nil] fun Y4 =>
 .ret [D.int ((qA Y4).toInt)]))))))):=by kernel_rfl
def Xb:List (Nat×Orc):=[(8,⟨[(2,none),(3,none),(29,none),(30,none)],[(2,true),(3,true)],[]⟩)]
noncomputable def Xa(n m8:Nat)(t29 t30:Int)(a2 b3:D):Tree :=
 lA (eA Xb n 220 [1,1,1,0,1,0,0]) (Al Xb 8) m8 ⟨(.undef:: .undef:: .ptr 2 []:: .ptr 3 []::uA 25++(.i .i64 t29:: .i .i64 t30::uA 17)),[(2,.var 26 (.d 26 a2) true),(3,.var 26 (.d 26 b3) true)],[2,3],[],[]⟩
  (Aj 0 (An (jA Xb n 220 [1,1,1,1]) (rA 220 [26,26] [.tmp 4] [3])))
theorem RR(n m8:Nat)(t29 t30:Int)(a2 b3:D):Xa n (m8+1) t29 t30 a2 b3 =
 bK (t30<t29) (kK (0≤t30) (kK (t30<(((a2.fld 2).els).length:Int)) (kK (0≤t30) (kK (t30<(((b3.fld 2).els).length:Int)) (cK 157 [((a2.fld 2).els).getD (Apj t30) D.nil,((b3.fld 2).els).getD (Apj t30) D.nil] fun Y3 =>
 .br (((qA Y3).toInt)!=0) (.ret [D.int ((qA Y3).toInt)])
 (Xa n m8 t29 (Api .i64 (t30+1)) a2 b3))))))
 (.ret [D.int 0]):=by kernel_rfl
theorem AfB(n:Nat)(a0 b1:D):fA Xb n 220 [] [a0,b1] =
 cK 218 [D.int (((a0.fld 1).els).length:Int),D.int (((b1.fld 1).els).length:Int)] fun Y1 =>
 .br (((qA Y1).toInt)!=0) (.ret [D.int ((qA Y1).toInt)])
 (cK 256 [a0.fld 1,b1.fld 1] fun Y2 =>
 .br (((qA Y2).toInt)!=0) (.ret [D.int ((qA Y2).toInt)])
 (Xa n n (((a0.fld 2).els).length:Int) 0 a0 b1)):=by kernel_rfl
theorem AdS(n:Nat)(x0 y1:D):fA [] n 218 [] [x0,y1] =
 cK 252 [D.int x0.toInt] fun Y1 =>
 cK 252 [D.int y1.toInt] fun Y2 =>
 .br ((qA Y1).toBool) (.br ((qA Y2).toBool) (.ret [D.int 0])
 (.ret [D.int (-1)]))
 (.br ((qA Y2).toBool) (.ret [D.int 1])
 (bK (x0.toInt<y1.toInt) (.ret [D.int (-1)])
 (bK (y1.toInt<x0.toInt) (.ret [D.int 1])
 (.ret [D.int 0])))):=by kernel_rfl
theorem AdT(n:Nat)(x0:D):fA [] n 252 [] [x0] =
 .ret [D.bool (x0.toInt != x0.toInt)]:=by kernel_rfl
structure Row {α:Type} (S:α→Prop) (f:α→α→Int):Prop where
 val : ∀ x y,S x→S y→f x y = -1∨f x y=0∨f x y=1
 flip : ∀ x y,S x→S y→f y x = - f x y
 go : ∀ x y z,S x→S y→S z→f x y≤0→f y z≤0→f x z≤0
section
variable {α:Type} {S:α→Prop} {f g:α→α→Int}
theorem Row.self (h:Row S f) {x:α} (hx:S x):f x x=0:=by have:=h.flip x x hx hx;omega
theorem Row.two (h:Row S f) {x y z:α} (hx:S x) (hy:S y) (hz:S z) (h1:f x y≤0) (h2:f y z≤0) (h3:f x z=0):f x y=0∧f y z=0:=by
 have a1:=h.flip x z hx hz
 have a2:=h.flip x y hx hy
 have a3:=h.flip y z hy hz
 have b1:=h.go y z x hy hz hx h2 (by omega)
 have b2:=h.go z x y hz hx hy (by omega) h1
 omega
theorem Row.mono {T:α→Prop} (h:Row S f) (hs : ∀ x,T x→S x):Row T f:=⟨fun x y hx hy=>h.val x y (hs x hx) (hs y hy),fun x y hx hy=>h.flip x y (hs x hx) (hs y hy),fun x y z hx hy hz=>h.go x y z (hs x hx) (hs y hy) (hs z hz)⟩
theorem Row.congr (h:Row S f) (e : ∀ x y,S x→S y→g x y=f x y):Row S g:=⟨fun x y hx hy=>by rw[e x y hx hy];exact h.val x y hx hy,fun x y hx hy=>by rw[e x y hx hy,e y x hy hx];exact h.flip x y hx hy,fun x y z hx hy hz=>by rw[e x y hx hy,e y z hy hz,e x z hx hz];exact h.go x y z hx hy hz⟩
theorem Row.lex (hf:Row S f) (hg : ∀ x,S x→Row (fun y=>S y∧f x y=0) g):Row S (fun x y=>if f x y≠0 then f x y else g x y) where
 val x y hx hy:=by
  split
  · exact hf.val x y hx hy
  · rename_i h;exact (hg x hx).val x y ⟨hx,hf.self hx⟩ ⟨hy,Apw.1 h⟩
 flip x y hx hy:=by
  have a:=hf.flip x y hx hy
  by_cases h:f x y=0
  · rw[if_neg (by omega),if_neg (by omega)]
    exact (hg x hx).flip x y ⟨hx,hf.self hx⟩ ⟨hy,h⟩
  · rw[if_pos (by omega),if_pos (by omega)];exact a
 go x y z hx hy hz h1 h2:=by
  have p1:f x y≤0:=by
    by_cases h:f x y=0
    · omega
    · rw[if_pos h]at h1;exact h1
  have p2:f y z≤0:=by
    by_cases h:f y z=0
    · omega
    · rw[if_pos h]at h2;exact h2
  have p3:=hf.go x y z hx hy hz p1 p2
  by_cases h:f x z=0
  · obtain ⟨q1,q2⟩:=hf.two hx hy hz p1 p2 h
    rw[if_neg (by omega)]at h1 h2 ⊢
    exact (hg x hx).go x y z ⟨hx,hf.self hx⟩ ⟨hy,q1⟩ ⟨hz,h⟩ h1 h2
  · rw[if_pos h];exact p3
def Dp(f:α→α→Int):List (α×α)→Int
 | []=>0
 | (x,y)::r=>if f x y≠0 then f x y else Dp f r
theorem TN(h:Row S f) : ∀ (l m:List α),(∀ x∈l,S x)→(∀ x∈m,S x)→Dp f (l.zip m) = -1∨Dp f (l.zip m)=0∨Dp f (l.zip m)=1
 | [],_,_,_=> .inr (.inl rfl)
 | _::_,[],_,_=> .inr (.inl rfl)
 | x::xs,y::ys,hl,hm=>by
  simp only[List.zip_cons_cons,Dp]
  split
  · exact h.val x y (hl x (by simp)) (hm y (by simp))
  · exact TN h xs ys (fun z hz=>hl z (by simp[hz])) (fun z hz=>hm z (by simp[hz]))
theorem TK(h:Row S f) : ∀ (l m:List α),(∀ x∈l,S x)→(∀ x∈m,S x)→Dp f (m.zip l) = - Dp f (l.zip m)
 | [],[],_,_=>rfl
 | [],_::_,_,_=>rfl
 | _::_,[],_,_=>rfl
 | x::xs,y::ys,hl,hm=>by
  have a:=h.flip x y (hl x (by simp)) (hm y (by simp))
  have b:=TK h xs ys (fun z hz=>hl z (by simp[hz])) (fun z hz=>hm z (by simp[hz]))
  simp only[List.zip_cons_cons,Dp]
  by_cases hh:f x y=0
  · rw[if_neg (by omega),if_neg (by omega)];exact b
  · rw[if_pos (by omega),if_pos (by omega)];exact a
theorem TL(h:Row S f) : ∀ (l m k:List α),l.length=m.length→m.length=k.length→(∀ x∈l,S x)→(∀ x∈m,S x)→(∀ x∈k,S x)→Dp f (l.zip m)≤0→Dp f (m.zip k)≤0→Dp f (l.zip k)≤0
 | [],_,_,_,_,_,_,_,_,_=>by simp[Dp]
 | x::xs,[],_,e,_,_,_,_,_,_=>by simp at e
 | x::xs,y::ys,[],_,e,_,_,_,_,_=>by simp at e
 | x::xs,y::ys,z::zs,e1,e2,hl,hm,hk,h1,h2=>by
  simp only[List.zip_cons_cons,Dp]at h1 h2 ⊢
  have hx:=hl x (by simp)
  have hy:=hm y (by simp)
  have hz:=hk z (by simp)
  have p1:f x y≤0:=by
    by_cases h:f x y=0
    · omega
    · rw[if_pos h]at h1;exact h1
  have p2:f y z≤0:=by
    by_cases h:f y z=0
    · omega
    · rw[if_pos h]at h2;exact h2
  have p3:=h.go x y z hx hy hz p1 p2
  by_cases hh:f x z=0
  · obtain ⟨q1,q2⟩:=h.two hx hy hz p1 p2 hh
    rw[if_neg (by omega)]at h1 h2 ⊢
    exact TL h xs ys zs (by simpa using e1) (by simpa using e2) (fun z hz=>hl z (by simp[hz])) (fun z hz=>hm z (by simp[hz])) (fun z hz=>hk z (by simp[hz])) h1 h2
  · rw[if_pos hh];exact p3
theorem Row.list (h:Row S f) (n:Nat):Row (fun l:List α=>l.length=n∧∀ x∈l,S x) (fun l m=>Dp f (l.zip m)) :=
 ⟨fun l m hl hm=>TN h l m hl.2 hm.2,fun l m hl hm=>TK h l m hl.2 hm.2,fun l m k hl hm hk=>TL h l m k (hl.1.trans hm.1.symm) (hm.1.trans hk.1.symm) hl.2 hm.2 hk.2⟩
theorem TO{β:Type}{r:α→β}(h0 : ∀ x y,S x→S y→(f x y=0↔r x=r y)) : ∀ (l m:List α),l.length=m.length→(∀ x∈l,S x)→(∀ x∈m,S x)→(Dp f (l.zip m)=0↔l.map r=m.map r)
 | [],[],_,_,_=>by simp[Dp]
 | [],_::_,e,_,_=>by simp at e
 | _::_,[],e,_,_=>by simp at e
 | x::xs,y::ys,e,hl,hm=>by
  have a:=h0 x y (hl x (by simp)) (hm y (by simp))
  have b:=TO h0 xs ys (by simpa using e) (fun z hz=>hl z (by simp[hz])) (fun z hz=>hm z (by simp[hz]))
  simp only[List.zip_cons_cons,Dp,Ap9,List.cons.injEq]
  by_cases hh:f x y=0
  · rw[if_neg (by omega),b]
    exact ⟨fun h=>⟨a.1 hh,h⟩,fun h=>h.2⟩
  · rw[if_pos hh]
    exact ⟨fun h=>absurd h hh,fun h=>absurd (a.2 h.1) hh⟩
end
theorem H0(x y:Int):(Cv x y = -1∧x<y)∨(Cv x y=0∧x=y)∨(Cv x y=1∧y<x):=by
 unfold Cv
 split
 · exact .inl ⟨rfl,by assumption⟩
 · split
   · exact .inr (.inl ⟨rfl,by assumption⟩)
   · exact .inr (.inr ⟨rfl,by omega⟩)
theorem Fy{x y:Int} : Cv x y=0↔x=y:=by rcases H0 x y with ⟨h,h'⟩ | ⟨h,h'⟩ | ⟨h,h'⟩ <;> omega
theorem BD{α:Type}{S:α→Prop}(k:α→Int):Row S (fun x y=>Cv (k x) (k y)) :=
 ⟨fun x y _ _=>by rcases H0 (k x) (k y) with h | h | h <;> simp[h.1],
  fun x y _ _=>by rcases H0 (k x) (k y) with h | h | h <;> rcases H0 (k y) (k x) with h' | h' | h' <;> omega,
  fun x y z _ _ _ h1 h2=>by rcases H0 (k x) (k y) with h | h | h <;> rcases H0 (k y) (k z) with h' | h' | h' <;> rcases H0 (k x) (k z) with h'' | h'' | h'' <;> omega⟩
def Pg(r:Arr→Arr→Int)(x y:Cell):Int:=if Cv x.kind y.kind≠0 then Cv x.kind y.kind else if x.kind=0 then Hz x.n y.n else if x.kind=1 then Cv x.c y.c else r (x.inn.headD .none) (y.inn.headD .none)
def Iq(a b:Arr):Int:=if Cv a.shape.length b.shape.length≠0 then Cv a.shape.length b.shape.length else Dp Cv (a.shape.zip b.shape)
def Hd:Nat→Arr→Arr→Int
 | 0,_,_=>0
 | d+1,a,b=>if Iq a b≠0 then Iq a b else Dp (Pg (Hd d)) (a.cells.zip b.cells)
def I1(d:Nat):Cell→Cell→Int:=Pg (Hd d)
theorem AdQ(d:Nat)(a b:Arr):Hd (d+1) a b=if Iq a b≠0 then Iq a b else Dp (I1 d) (a.cells.zip b.cells):=rfl
theorem Q0{d:Nat}{c:Cell}(h:Bo d c=true):(c.kind=0∧c.c=0∧c.inn = []∧Ev c.n=true)∨(c.kind=1∧c.n = .zero∧c.inn = [])∨(c.kind=2∧c.n = .zero∧c.c=0∧∃ e x,d=e+1∧c.inn = [x]∧Am e x=true):=by
 have hinn:=Q3 h
 have key : ∀ k r,C8 k r c=true→(c.kind=0∧c.c=0∧c.inn = []∧Ev c.n=true)∨(c.kind=1∧c.n = .zero∧c.inn = [])∨(c.kind=2∧c.n = .zero∧c.c=0∧∃ x,c.inn = [x]):=by
   intro k r h
   unfold C8 at h
   split at h
   · simp only[Apt,decide_eq_true_eq]at h
     exact .inl ⟨by assumption,h.1.1,Aqb.1 h.1.2,h.2⟩
   split at h
   · simp only[Apt,decide_eq_true_eq]at h
     exact .inr (.inl ⟨by assumption,h.1.1,Aqb.1 h.1.2⟩)
   · simp only[Apt,decide_eq_true_eq]at h
     have hb:=h.2.2
     unfold Jl at hb
     split at hb
     · rename_i hi;exact .inr (.inr ⟨h.1.1,h.1.2.1,h.1.2.2,_,hi⟩)
     · cases hb
 have h2:(c.kind=0∧c.c=0∧c.inn = []∧Ev c.n=true)∨(c.kind=1∧c.n = .zero∧c.inn = [])∨(c.kind=2∧c.n = .zero∧c.c=0∧∃ x,c.inn = [x]):=by
   cases d with
   | zero=>exact key _ _ h
   | succ d=>exact key _ _ h
 rcases h2 with h2 | h2 | ⟨h1,h2,h3,x,h4⟩
 · exact .inl h2
 · exact .inr (.inl h2)
 · obtain ⟨e,he,_,hr,_⟩:=hinn x (by rw[h4];simp)
   exact .inr (.inr ⟨h1,h2,h3,e,x,he,h4,hr⟩)
theorem AlO:Row (fun x:Cell=>Ev x.n=true) (fun x y=>Hz x.n y.n):=by
 refine ⟨fun x y _ _=> ?_,fun x y _ _=> ?_,fun x y z hx hy hz=> ?_⟩
 · have:=H0 (Bt x.n*Bq y.n) (Bt y.n*Bq x.n);unfold Hz;omega
 · have:=H0 (Bt x.n*Bq y.n) (Bt y.n*Bq x.n)
   have:=H0 (Bt y.n*Bq x.n) (Bt x.n*Bq y.n);unfold Hz;omega
 · obtain ⟨a,p,ra⟩:=Lv hx
   obtain ⟨b,q,rb⟩:=Lv hy
   obtain ⟨c,r,rc⟩:=Lv hz
   unfold Hz
   rw[ra.top,ra.bot,rb.top,rb.bot,rc.top,rc.bot]
   have p0:(0:Int)<p:=by have:=ra.d0;omega
   have q0:(0:Int)<q:=by have:=rb.d0;omega
   have r0:(0:Int)<r:=by have:=rc.d0;omega
   intro h1 h2
   have g1:a*q≤b*p:=by rcases H0 (a*q) (b*p) with h | h | h <;> omega
   have g2:b*r≤c*q:=by rcases H0 (b*r) (c*q) with h | h | h <;> omega
   have g3:a*r≤c*p:=by
    have e1:a*q*r≤b*p*r:=Int.mul_le_mul_of_nonneg_right g1 (by omega)
    have e2:b*r*p≤c*q*p:=Int.mul_le_mul_of_nonneg_right g2 (by omega)
    have e3:(a*r)*q≤(c*p)*q:=by
     have i1:a*q*r=a*r*q:=by rw[Int.mul_assoc,Int.mul_comm (q:Int) r,← Int.mul_assoc]
     have i2:b*p*r=b*r*p:=by rw[Int.mul_assoc,Int.mul_comm (p:Int) r,← Int.mul_assoc]
     have i3:c*q*p=c*p*q:=by rw[Int.mul_assoc,Int.mul_comm (q:Int) p,← Int.mul_assoc]
     omega
    exact Int.le_of_mul_le_mul_right e3 q0
   rcases H0 (a*r) (c*p) with h | h | h <;> omega
theorem AlQ:Row (fun _:Arr=>True) Iq:=by
 refine Row.lex (f:=fun a b:Arr=>Cv a.shape.length b.shape.length) (BD fun a:Arr=>(a.shape.length:Int)) (fun a _=> ?_)
 have h:Row (fun _:Int=>True) Cv:=BD (fun x:Int=>x)
 have:=h.list a.shape.length
 exact ⟨fun x y hx hy=>this.val x.shape y.shape ⟨by have:=Fy.1 hx.2;omega,fun _ _=>trivial⟩ ⟨by have:=Fy.1 hy.2;omega,fun _ _=>trivial⟩,
  fun x y hx hy=>this.flip x.shape y.shape ⟨by have:=Fy.1 hx.2;omega,fun _ _=>trivial⟩ ⟨by have:=Fy.1 hy.2;omega,fun _ _=>trivial⟩,
  fun x y z hx hy hz=>this.go x.shape y.shape z.shape ⟨by have:=Fy.1 hx.2;omega,fun _ _=>trivial⟩ ⟨by have:=Fy.1 hy.2;omega,fun _ _=>trivial⟩ ⟨by have:=Fy.1 hz.2;omega,fun _ _=>trivial⟩⟩
theorem Abm{a b:Arr} : Iq a b=0↔a.shape=b.shape:=by
 unfold Iq
 by_cases h:a.shape.length=b.shape.length
 · rw[if_neg (by rw[Ne,Fy];omega)]
   have:=TO (S:=fun _:Int=>True) (f:=Cv) (r:=fun x=>x) (fun x y _ _=>Fy) a.shape b.shape h (fun _ _=>trivial) (fun _ _=>trivial)
   rw[this];simp
 · rw[if_pos (by rw[Ne,Fy];omega)]
   constructor
   · intro h';have:=Fy.1 h';omega
   · intro h';rw[h']at h;exact absurd rfl h
theorem Aa9{d:Nat}{a b:Arr}(ha:Am d a=true)(hb:Am d b=true)(h:a.shape=b.shape):a.cells.length=b.cells.length:=by
 have h1:=(Ck ha).1
 have h2:=(Ck hb).1
 rw[h,h2]at h1
 have:=(Prod.mk.inj h1).1
 omega
theorem AaI{d:Nat}(h:Row (fun x=>Bo d x=true) (I1 d)):Row (fun a=>Am d a=true) (Hd (d+1)):=by
 refine Row.lex (AlQ.mono fun _ _=>trivial) (fun a ha=> ?_)
 have:=h.list a.cells.length
 have ok : ∀ x,Am d x=true∧Iq a x=0→x.cells.length=a.cells.length∧∀ c∈x.cells,Bo d c=true:=fun x hx=>⟨(Aa9 ha hx.1 (Abm.1 hx.2)).symm,(Ck hx.1).2⟩
 exact ⟨fun x y hx hy=>this.val _ _ (ok x hx) (ok y hy),fun x y hx hy=>this.flip _ _ (ok x hx) (ok y hy),fun x y z hx hy hz=>this.go _ _ _ (ok x hx) (ok y hy) (ok z hz)⟩
theorem AaF{d:Nat}(h : ∀ e,d=e+1→Row (fun a=>Am e a=true) (Hd d)):Row (fun x=>Bo d x=true) (I1 d):=by
 refine Row.lex (f:=fun x y:Cell=>Cv x.kind y.kind) (BD fun x:Cell=>x.kind) (fun x hx=> ?_)
 rcases Q0 hx with h0 | h0 | ⟨h0,h1,h2,e,x',he,h3,h4⟩
 · have ok : ∀ y:Cell,Bo d y=true∧Cv x.kind y.kind=0→Ev y.n=true∧y.kind=0:=fun y hy=>by
    have:=Fy.1 hy.2
    rcases Q0 hy.1 with g | g | g
    · exact ⟨g.2.2.2,g.1⟩
    · omega
    · omega
   exact (AlO.mono (fun y hy=>(ok y hy).1)).congr (fun y z hy hz=>by rw[if_pos (ok y hy).2])
 · have ok : ∀ y:Cell,Bo d y=true∧Cv x.kind y.kind=0→y.kind=1:=fun y hy=>by have:=Fy.1 hy.2;omega
   exact (BD (fun y:Cell=>y.c)).congr (fun y z hy hz=>by rw[if_neg (by have:=ok y hy;omega),if_pos (ok y hy)])
 · subst he
   have ok : ∀ y:Cell,Bo (e+1) y=true∧Cv x.kind y.kind=0→y.kind=2∧Am e (y.inn.headD .none)=true:=fun y hy=>by
    have:=Fy.1 hy.2
    rcases Q0 hy.1 with g | g | ⟨g0,_,_,e',y',he',h5,h6⟩
    · omega
    · omega
    · have:e'=e:=by omega
      subst this
      exact ⟨g0,by rw[h5];exact h6⟩
   have hr:=h e rfl
   have:Row (fun y:Cell=>Bo (e+1) y=true∧Cv x.kind y.kind=0) (fun y z=>Hd (e+1) (y.inn.headD .none) (z.inn.headD .none)):=⟨fun y z hy hz=>hr.val _ _ (ok y hy).2 (ok z hz).2,fun y z hy hz=>hr.flip _ _ (ok y hy).2 (ok z hz).2,fun y z w hy hz hw=>hr.go _ _ _ (ok y hy).2 (ok z hz).2 (ok w hw).2⟩
   exact this.congr (fun y z hy hz=>by rw[if_neg (by have:=(ok y hy).1;omega),if_neg (by have:=(ok y hy).1;omega)])
theorem AaE : ∀ d:Nat,Row (fun x=>Bo d x=true) (I1 d)∧Row (fun a=>Am d a=true) (Hd (d+1))
 | 0=>by
  have h:=AaF (d:=0) (fun e he=>by omega)
  exact ⟨h,AaI h⟩
 | d+1=>by
  have h:=AaF (d:=d+1) (fun e he=>by cases he;exact (AaE d).2)
  exact ⟨h,AaI h⟩
theorem SQ(x:Int):Sp 252 [.int x] [.bool false]:=Af 0 (AdT _ _) (Ac (by simp))
theorem Vr(x y:Int):Sp 218 [.int x,.int y] [.int (Cv x y)]:=by
 refine Af 0 (AdS _ _ _) (Aa (SQ x) (Aa (SQ y) (Eo rfl (Eo rfl ?_))))
 simp only[Ao]
 refine Ae (fun h=>Ac (by unfold Cv;rw[if_pos h])) (fun h=>Ae (fun h'=>Ac (by unfold Cv;rw[if_neg h,if_neg (by omega)])) (fun h'=>Ac (by unfold Cv;rw[if_neg h,if_pos (by omega)])))
theorem AcG{α β:Type}{l:List α}{m:List β}{k:Nat}{x:α}{y:β}(h:(l.zip m)[k]? = some (x,y)):l[k]? = some x∧m[k]? = some y:=by
 rw[List.getElem?_zip_eq_some]at h;exact h
theorem TT{α:Type}{l:List α}{k:Nat}{x:α}(h:l[k]? = some x):k<l.length:=(Apo.1 h).1
theorem AmJ(l m:List Int)(hl:l.length≤1048576)(e:l.length=m.length):Sp 256 [dI l,dI m] [.int (Dp Cv (l.zip m))]:=by
 refine Af 1048577 (AmI _ _ _) ?_
 have hz:(l.zip m).length=l.length:=by simp[List.length_zip,e]
 have key:=B3 (l.zip m) (fun q k (_:Unit)=>BW 1048577 q (dI l) (dI m) (dI l) (l.length:Int) (k:Int)) (fun rest _=>[.int (Dp Cv rest)]) (fun _ _=>True)
  (fun q k s hk _=>by
   simp only[Abx,Cf,Apm]
   exact Ar (Ar (Ac rfl)))
  (fun q k s p rest hd _ ih=>by
   obtain ⟨h1,h2,h3⟩:=By hd
   obtain ⟨x,y⟩:=p
   obtain ⟨g1,g2⟩:=AcG h2
   have l1:=TT g1
   simp only[Abx,Cf,Apm,Apr,Au g1,Au g2,Ao,Bh k]
   refine Ad (Ad (Ad (Ar (Ad (Ad (Aa (Vr x y) ?_))))))
   simp only[Ag,Ao,Do,Dp]
   exact Ae (fun h=>Ac (by rw[if_pos h])) (fun h=>by rw[if_neg h];exact ih () trivial))
  1048577 0 () (by omega) (by omega) trivial
 simp only[Cf,Apm]
 exact key
theorem AbC{n:Num}(h:Ev n=true):Hw n:=⟨by have:=(BB h).1;omega,by have:=(BB h).2;omega⟩
theorem NY{d:Nat}(h : ∀ x y:Cell,Bo d x=true→Bo d y=true→Sp 157 [dC x,dC y] [.int (I1 d x y)])(a b:Arr)(ha:Am d a=true)(hb:Am d b=true):Sp 220 [dA a,dA b] [.int (Hd (d+1) a b)]:=by
 have la:=Dm ha
 have lb:=Dm hb
 refine Af 1048577 (AfB _ _ _) ?_
 simp only[Ah]
 refine Aa (Vr _ _) ?_
 rw[AdQ]
 unfold Iq
 simp only[Ag,Ao,Do]
 refine Ae (fun h=>Ac (by simp only[if_pos h])) (fun h1=> ?_)
 simp only[if_neg h1]
 have hl:a.shape.length=b.shape.length:=by have:=Fy.1 (Apw.1 h1);omega
 refine Aa (AmJ a.shape b.shape (by omega) hl) ?_
 simp only[Ag,Ao]
 refine Ae (fun h=>Ac (by simp only[if_pos h])) (fun h2=> ?_)
 simp only[if_neg h2]
 have hs:a.shape=b.shape:=Abm.1 (by unfold Iq;rw[if_neg h1];exact Apw.1 h2)
 have hc:=Aa9 ha hb hs
 have hz:(a.cells.zip b.cells).length=a.cells.length:=by simp[List.length_zip,hc]
 have key:=B3 (a.cells.zip b.cells) (fun q k (_:Unit)=>Xa 1048577 q (a.cells.length:Int) (k:Int) (dA a) (dA b)) (fun rest _=>[.int (Dp (I1 d) rest)]) (fun _ _=>True)
  (fun q k s hk _=>by
   simp only[RR,Ah]
   exact Ar (Ac rfl))
  (fun q k s p rest hd _ ih=>by
   obtain ⟨_,k2,k3⟩:=By hd
   obtain ⟨x,y⟩:=p
   obtain ⟨g1,g2⟩:=AcG k2
   have l1:=TT g1
   simp only[RR,Ah,Au g1,Au g2,Bh k]
   refine Ad (Ad (Ad (Ad (Ad (Aa (h x y ((Ck ha).2 x (Apq g1)) ((Ck hb).2 y (Apq g2))) ?_)))))
   simp only[Ag,Ao,Dp]
   exact Ae (fun h=>Ac (by rw[if_pos h])) (fun h=>by rw[if_neg h];exact ih () trivial))
  1048577 0 () (by omega) (by omega) trivial
 exact key
theorem RK{d:Nat}(h : ∀ e,d=e+1→∀ a b:Arr,Am e a=true→Am e b=true→Sp 220 [dA a,dA b] [.int (Hd d a b)])(x y:Cell)(hx:Bo d x=true)(hy:Bo d y=true):Sp 157 [dC x,dC y] [.int (I1 d x y)]:=by
 refine Af 0 (AfC _ _ _) ?_
 unfold I1 Pg
 simp only[Ah]
 refine Ae (fun hk=>Aa (Vr _ _) (Ac (by rw[if_pos (by rw[Ne,Fy];exact hk)];rfl))) (fun hk=> ?_)
 have hk:=Apw.1 hk
 rw[if_neg (by rw[Ne,Fy];omega)]
 rcases Q0 hx with h0 | h0 | ⟨h0,h1,h2,e,x',he,h3,h4⟩ <;> rcases Q0 hy with g0 | g0 | ⟨g0,g1,g2,e',y',he',g3,g4⟩
 · exact Ay h0.1 (Aa (Zm (AbC h0.2.2.2) (AbC g0.2.2.2)) (Ac (by rw[if_pos h0.1];rfl)))
 · omega
 · omega
 · omega
 · exact Ar (Ay h0.1 (Aa (Vr _ _) (Ac (by rw[if_neg (by omega),if_pos h0.1];rfl))))
 · omega
 · omega
 · omega
 · subst he
   have:e'=e:=by omega
   subst this
   simp only[FJ,h3,g3,Ee,Ap9,List.map_nil,App,Ap1,Int.toNat_zero,Ag]
   exact Ar (Ar (Ad (Ad (Ad (Ad (Aa (h _ rfl x' y' h4 g4) (Ac (by rw[if_neg (by omega),if_neg (by omega)];rfl))))))))
theorem GT : ∀ d:Nat,(∀ x y:Cell,Bo d x=true→Bo d y=true→Sp 157 [dC x,dC y] [.int (I1 d x y)])∧∀ a b:Arr,Am d a=true→Am d b=true→Sp 220 [dA a,dA b] [.int (Hd (d+1) a b)]
 | 0=>by
  have h:=RK (d:=0) (fun e he=>by omega)
  exact ⟨h,NY h⟩
 | d+1=>by
  have h:=RK (d:=d+1) (fun e he=>by cases he;exact (GT d).2)
  exact ⟨h,NY h⟩
def Bz(k:Nat→Nat→Int)(i j:Nat):Prop:=k i j<0∨(k i j=0∧i≤j)
instance (k:Nat→Nat→Int) (i j:Nat):Decidable (Bz k i j):=by unfold Bz;infer_instance
abbrev U2(f:Nat→Nat→Int):Prop:=Row (fun _:Nat=>True) f
section
variable {k:Nat→Nat→Int} (hk:U2 k)
include hk
theorem Ag4(i j:Nat):Bz k i j∨Bz k j i:=by
 have:=hk.flip i j trivial trivial
 unfold Bz;omega
theorem Ag3{i j:Nat}(h1:Bz k i j)(h2:Bz k j i):i=j:=by
 have:=hk.flip i j trivial trivial
 unfold Bz at h1 h2;omega
theorem P2{i j m:Nat}(h1:Bz k i j)(h2:Bz k j m):Bz k i m:=by
 have g1:k i j≤0:=by unfold Bz at h1;omega
 have g2:k j m≤0:=by unfold Bz at h2;omega
 have g3:=hk.go i j m trivial trivial trivial g1 g2
 by_cases h:k i m=0
 · obtain ⟨q1,q2⟩:=hk.two (x:=i) (y:=j) (z:=m) trivial trivial trivial g1 g2 h
   unfold Bz at h1 h2 ⊢; omega
 · unfold Bz;omega
theorem Mo{i j:Nat}(h:i<j):(k j i<0)↔¬ Bz k i j:=by
 have:=hk.flip i j trivial trivial
 unfold Bz;omega
omit hk in
theorem N_(hk:U2 k){i j:Nat}(h : ¬ Bz k i j):Bz k j i:=(Ag4 hk i j).resolve_left h
end
def N7(k:Nat→Nat→Int)(x:Nat):List Nat→List Nat
 | []=>[x]
 | y::ys=>if Bz k x y then x::y::ys else y::N7 k x ys
def Bm(k:Nat→Nat→Int):List Nat→List Nat
 | []=>[]
 | x::xs=>N7 k x (Bm k xs)
theorem HJ(k:Nat→Nat→Int)(x:Nat) : ∀ l,(N7 k x l).Perm (x::l)
 | []=>List.Perm.refl _
 | y::ys=>by
  rw[N7]
  split
  · exact List.Perm.refl _
  · exact ((HJ k x ys).cons y).trans (List.Perm.swap x y ys)
theorem K1(k:Nat→Nat→Int) : ∀ l,(Bm k l).Perm l
 | []=>List.Perm.refl _
 | x::xs=>by rw[Bm];exact (HJ k x _).trans ((K1 k xs).cons x)
theorem D0(k:Nat→Nat→Int)(l:List Nat):(Bm k l).length=l.length:=(K1 k l).length_eq
theorem Ir{k:Nat→Nat→Int}{l:List Nat}{x:Nat} : x∈Bm k l↔x∈l:=(K1 k l).mem_iff
section
variable {k:Nat→Nat→Int} (hk:U2 k)
include hk
theorem SL(x:Nat) : ∀ l,l.Pairwise (Bz k)→(N7 k x l).Pairwise (Bz k)
 | [],_=>by simp[N7]
 | y::ys,h=>by
  rw[N7]
  rw[List.pairwise_cons]at h
  split
  · rename_i hxy
    refine List.pairwise_cons.2 ⟨fun z hz=> ?_,List.pairwise_cons.2 h⟩
    rcases Ap4.1 hz with rfl | hz
    · exact hxy
    · exact P2 hk hxy (h.1 z hz)
  · rename_i hxy
    refine List.pairwise_cons.2 ⟨fun z hz=> ?_,SL x ys h.2⟩
    rcases Ap4.1 ((HJ k x ys).mem_iff.1 hz) with rfl | hz
    · exact N_ hk hxy
    · exact h.1 z hz
theorem K2 : ∀ l,(Bm k l).Pairwise (Bz k)
 | []=>List.Pairwise.nil
 | x::xs=>SL hk x _ (K2 xs)
theorem AbG : ∀ {l m:List Nat},l.Perm m→l.Pairwise (Bz k)→m.Pairwise (Bz k)→l=m
 | [],m,hp,_,_=>(List.Perm.nil_eq hp)
 | x::xs,[],hp,_,_=>by have:=hp.length_eq;simp at this
 | x::xs,y::ys,hp,h1,h2=>by
  rw[List.pairwise_cons]at h1 h2
  have hx:x∈y::ys:=hp.mem_iff.1 (by simp)
  have hy:y∈x::xs:=hp.mem_iff.2 (by simp)
  have e:x=y:=by
   rcases Ap4.1 hx with e | hx
   · exact e
   · rcases Ap4.1 hy with e | hy
     · exact e.symm
     · exact Ag3 hk (h1.1 y hy) (h2.1 x hx)
  subst e
  rw[AbG ((List.perm_cons x).1 hp) h1.2 h2.2]
theorem Ly{l z:List Nat}(hp:z.Perm l)(hs:z.Pairwise (Bz k)):Bm k l=z:=(AbG hk (hp.trans (K1 k l).symm) hs (K2 hk l)).symm
omit hk in
theorem Anx{l:List Nat}(h:l.length≤1):Bm k l=l:=by
 match l with
 | []=>rfl
 | [x]=>rfl
 | _::_::_=>simp at h
omit hk in
theorem CS{l m:List Nat}(h1:l.Pairwise (Bz k))(h2:m.Pairwise (Bz k))(h : ∀ x∈l,∀ y∈m,Bz k x y):(l++m).Pairwise (Bz k):=List.pairwise_append.2 ⟨h1,h2,h⟩
theorem Up{l:List Nat}{i:Nat}{y z:Nat}(hs:l.Pairwise (Bz k))(hi:l[i]? = some y)(h:Bz k y z) : ∀ x∈l.take (i+1),Bz k x z:=by
 intro x hx
 obtain ⟨j,hj,rfl⟩:=List.mem_iff_getElem.1 hx
 obtain ⟨hi',rfl⟩:=Apo.1 hi
 rw[Ap0]at hj
 rw[List.getElem_take]
 by_cases e:j=i
 · subst e;exact h
 · exact P2 hk (List.pairwise_iff_getElem.1 hs j i (by omega) hi' (by omega)) h
theorem W5{l:List Nat}{i:Nat}{y z:Nat}(hs:l.Pairwise (Bz k))(hi:l[i]? = some y)(h:Bz k z y) : ∀ x∈l.drop i,Bz k z x:=by
 intro x hx
 obtain ⟨j,hj,rfl⟩:=List.mem_iff_getElem.1 hx
 obtain ⟨hi',rfl⟩:=Apo.1 hi
 rw[Apy]at hj
 rw[List.getElem_drop]
 by_cases e:j=0
 · subst e;exact h
 · exact P2 hk h (List.pairwise_iff_getElem.1 hs i (i+j) hi' (by omega) (by omega))
end
def sg(k:Nat→Nat→Int)(bs:Nat):Nat→List Nat→List Nat
 | 0,l=>Bm k l
 | q+1,l=>if l.length<bs then Bm k l else Bm k (l.take bs)++sg k bs q (l.drop bs)
theorem LH{k:Nat→Nat→Int}{bs:Nat}(hb:1≤bs) : ∀ {q q':Nat} {l:List Nat},l.length≤q→l.length≤q'→sg k bs q l=sg k bs q' l
 | 0,0,l,_,_=>rfl
 | 0,q'+1,l,h,_=>by rw[sg,sg,if_pos (by omega)]
 | q+1,0,l,_,h=>by rw[sg,sg,if_pos (by omega)]
 | q+1,q'+1,l,h,h'=>by
  rw[sg,sg]
  split
  · rfl
  · rw[LH hb (q:=q) (q':=q') (by rw[Apy];omega) (by rw[Apy];omega)]
def SG(k:Nat→Nat→Int)(bs:Nat)(l:List Nat):List Nat:=sg k bs l.length l
theorem K_{k:Nat→Nat→Int}{bs:Nat}(hb:1≤bs)(l:List Nat):SG k bs l=if l.length<bs then Bm k l else Bm k (l.take bs)++SG k bs (l.drop bs):=by
 unfold SG
 rw[LH hb (q:=l.length) (q':=l.length+1) (by omega) (by omega),sg]
 split
 · rfl
 · rw[LH hb (q:=l.length) (q':=(l.drop bs).length) (by rw[Apy];omega) (by omega)]
theorem O4{k:Nat→Nat→Int}{bs:Nat}(hb:1≤bs){l:List Nat}(h:l.length≤bs):SG k bs l=Bm k l:=by
 rw[K_ hb]
 split
 · rfl
 · have h1:l.take bs=l:=Aqh h
   have h2:l.drop bs = []:=List.drop_of_length_le h
   rw[h1,h2,K_ hb,if_pos (by simp;omega)]
   simp[Bm]
theorem MY{k:Nat→Nat→Int}{bs:Nat}(hb:1≤bs) : ∀ (q:Nat) (l:List Nat),l.length≤q→(SG k bs l).length=l.length
 | 0,l,h=>by rw[K_ hb,if_pos (by omega),D0]
 | q+1,l,h=>by
  rw[K_ hb]
  split
  · rw[D0]
  · rw[Apu,D0,MY hb q _ (by rw[Apy];omega),Ap0,Apy];omega
def dP(i:Nat):D:= .int (i:Int)
theorem PQ(i:Nat):(dP i).toInt=(i:Int):=rfl
theorem Rv{A:List Nat}{x:Nat}{B:List Nat}{i:Nat}(h:i=A.length):((A++x::B).map dP).getD i D.nil=dP x:=by
 subst h;simp[Apn]
theorem Vi{A M:List Nat}{x y:Nat}{B:List Nat}{i:Nat}(h:i=A.length+1+M.length):((A++x::(M++y::B)).map dP).getD i D.nil=dP y:=by
 rw[show A++x::(M++y::B)=(A++x::M)++y::B by simp]
 exact Rv (by simp;omega)
theorem LE{A:List Nat}{x y:Nat}{B:List Nat}{i:Nat}(h:i=A.length):((A++x::B).map dP).set i (dP y)=(A++y::B).map dP:=by
 subst h;simp
theorem Abi{A M:List Nat}{x y z:Nat}{B:List Nat}{i:Nat}(h:i=A.length+1+M.length):((A++x::(M++y::B)).map dP).set i (dP z)=(A++x::(M++z::B)).map dP:=by
 rw[show A++x::(M++y::B)=(A++x::M)++y::B by simp,LE (by simp;omega)]
 simp
theorem AbQ{A M:List Nat}{x y:Nat}{B:List Nat}{i j:Nat}(hi:i=A.length)(hj:j=A.length+1+M.length):(((A++x::(M++y::B)).map dP).set i (dP y)).set j (dP x)=(A++y::(M++x::B)).map dP:=by
 rw[LE hi,Abi hj]
theorem AbP{A M:List Nat}{x y:Nat}{B:List Nat}{i j:Nat}(hi:i=A.length)(hj:j=A.length+1+M.length):(((A++x::(M++y::B)).map dP).set j (dP x)).set i (dP y)=(A++y::(M++x::B)).map dP:=by
 rw[Abi hj,LE hi]
theorem Xc{i j:Nat}(h:i+j≤1000000):Api .i64 (Aqd (Api .u64 (Api .i64 ((i:Int)+(j:Int)))) (2 ^ (min (Apj 1) (Apv .u64))))=(((i+j) / 2:Nat):Int):=by
 rw[Aw (x:=(i:Int)+(j:Int)) (by omega) (by omega),Bs (by omega) (by omega),show (2:Int) ^ (min (Apj 1) (Apv .u64))=2 by decide,Int.fdiv_eq_ediv_of_nonneg _ (by decide),Aw (by omega) (by omega)]
 omega
end Go.Proofs.YtokkbgpgaheakaaGreat
