/- Proved: lemmas for the law of this folder, part 8. No condition. -/
import Derived.Test.YtokkbgpgaheakaaGreatRows
import Derived.WalkKit
import Derived.WalkSpells
import Derived.WalkLawsBesides
import Derived.Lib.Hide
import Derived.Laws.CopyOwn
import Derived.Deep.QuietTactic
import Derived.BigQuiet
import Derived.Orders
import Derived.Defers
import Derived.Recover
import Derived.Test.YtokkbgpgaheakaaGreatProg
import Derived.KernelRfl
import Derived.ProofKit
import Derived.OpenShut
import Derived.Maps.OwnRows
import Derived.Maps.Views
import Derived.Deep.RegionHeld3
import Derived.Deep.AppendLies
import Derived.Test.YtokkbgpgaheakaaGreatZ7f479781
set_option linter.unusedSimpArgs false
set_option linter.unusedVariables false
set_option maxRecDepth 100000
open Array renaming getElem?_eq_getElem → Ap7, getElem?_eq_some_iff → Aqi, getD_eq_getD_getElem? → Aqo
open BitVec renaming ofNat → Ap5
open Bool renaming and_eq_true → Apt
open Classical renaming not_not → Apw
open Int renaming toNat → Apj, toNat_natCast → Apr, fdiv → Aqd
open Go.IntKind renaming wrap → Api, bits → Apv
open List renaming getElem?_eq_getElem → Apk, replicate → Apl, length_map → Apm, getD_eq_getElem?_getD → Apn, getElem?_eq_some_iff → Apo, length_cons → App, mem_of_getElem? → Apq, length_append → Apu, length_drop → Apy, length_take → Ap0, length_nil → Ap1, getElem?_map → Ap2, mem_cons → Ap4, append_nil → Ap6, append_assoc → Ap8, map_cons → Ap9, getElem?_append_left → Ap_, drop_eq_getElem_cons → Aqa, length_eq_zero_iff → Aqb, take_append_drop → Aqf, take_of_length_le → Aqh, range → Aqj, getElem_mem → Aql, getElem?_append_right → Aqn, length_replicate → Aqp, mem_cons_of_mem → Aqq, mem_append → Aqs, mem_map → Aqw, nil_append → Aqx
open Nat renaming le_refl → Apx, mul_le_mul_right → Ap3, mod_eq_of_lt → Aqc, mod_lt → Aqe, mul_comm → Aqg, lt_of_lt_of_le → Aqk, div_div_eq_div_mul → Aqm, pow_succ → Aqr, div_lt_iff_lt_mul → Aqu, zero_add → Aqv
open Option renaming map_eq_some_iff → Apz, bind_eq_some_iff → Aqt
open Option.some renaming injEq → Aps
namespace Go.Proofs.YtokkbgpgaheakaaGreat
theorem Uf{sh:List Int}(h : ∀ x∈sh,0≤x∧x≤5000) : ∀ x∈sh,Bd x:=fun x hx=>Dn (by have:=h x hx;omega) (by have:=h x hx;omega)
theorem Anr{d:Nat}{a:Arr}(h:Sml (d+1) a)(i:Nat):SmlC d (a.cells.getD i (Bf 0)):=by
 rw[Apn]
 cases hg:a.cells[i]? with
 | none=>exact K0 I6 d
 | some c=>exact h.cell c (Apq hg)
theorem X7{a:Arr}(h:Am 8 a=true){s:List Int}(hs:s.length≤100∧∀ x∈s,0≤x∧x≤5000)(g:List Int→List Int):Sml 9 (Gg a s g):=by
 have hl:=(Dm h).1
 refine Sml.of (by show s.length≤_;omega) (by simp only[Gg,Arr.cells_mk,Apm,List.length_range];omega) (Uf hs.2) (fun c hc=> ?_)
 simp only[Gg,Arr.cells_mk,Aqw]at hc
 obtain ⟨i,_,rfl⟩:=hc
 exact Anr (Cd h) _
theorem Ni{a:Arr}(h:Am 8 a=true):a.shape.length≤100∧∀ x∈a.shape,0≤x∧x≤5000:=by
 obtain ⟨_,h2,h3⟩:=Dm h
 exact ⟨by omega,fun x hx=>by have:=h3 x hx;omega⟩
theorem Zl{a:Arr}{l:At}(h:Am 8 a=true):Am 8 (Cw a l)=true:=KT h
theorem Aj_(a:Arr)(l:At):(Cw a l).shape=a.shape:=by cases a;rfl
theorem Aj8(a:Arr)(l:At):(Cw a l).cells=a.cells:=by cases a;rfl
theorem Aa1{a:Arr}{f:Bool}(h:Am 8 a=true):Sml 9 (Lu a f):=by
 unfold Lu
 split
 · exact Cd h
 · exact X7 h (Ni h) _
theorem AnO{a:Arr}(h:Am 8 a=true):Sml 9 (Ov a):=X7 h ⟨by rw[List.length_reverse];exact (Ni h).1,fun x hx=>(Ni h).2 x (List.mem_reverse.1 hx)⟩ _
theorem An7{a:Arr}(h:Am 8 a=true):Sml 9 (L0 a):=by
 have hs:=Ni h
 refine Sml.of ?_ (Cd h).2.1 (Uf (fun x hx=> ?_)) (Cd h).2.2.2
 · simp only[L0,Arr.shape_mk];split <;> simp
 · simp only[L0,Arr.shape_mk]at hx
   split at hx
   · rename_i g
     simp only[Ap4,List.not_mem_nil,or_false]at hx
     rcases hx with rfl | rfl
     · rw[Apn,Apk g];exact hs.2 _ (Aql g)
     · have:=M3 (a.shape.drop 1) 1 (fun y hy=>by obtain ⟨_,_,q⟩:=Dm h;exact q y (List.mem_of_mem_drop hy)) (by decide) (by decide)
       omega
   · simp only[Ap4,List.not_mem_nil,or_false]at hx
     rcases hx with rfl | rfl <;> decide
theorem AmA{a:Arr}(h:Am 8 a=true):Sml 1 (Nh a):=by
 have hs:=Ni h
 exact CR (by omega) (Uf hs.2)
theorem Akh{a:Arr}(h:Am 8 a=true):Sml 9 (M5 a):=by
 have s1:=Cd h
 have hl:=(Dm h).1
 exact ⟨by simp[M5],s1.2.1,by simp only[M5,Arr.shape_mk,List.mem_singleton];rintro x rfl;exact Dn (by omega) (by omega),s1.2.2.2⟩
theorem AnC{a:Arr}(h:Am 8 a=true):Sml 1 (Ou a):=by
 refine LS ?_
 have hs:=Ni h
 match hh:a.shape with
 | []=>exact Dn (by decide) (by decide)
 | x::xs=>exact Uf hs.2 x (by rw[hh];simp)
theorem Ae5{a:Arr}(h:Am 8 a=true):Sml 1 (P7 a):=by
 have:=V_ (Cd h)
 exact LS (Dn (by omega) (by omega))
theorem UB{a b:Arr}{s:Bool} : Sml 1 (Ms a b s):=LS (by split <;> exact Dn (by decide) (by decide))
theorem AoI{n:Arr}(h:Am 8 n=true)(h0:(Iu n).2=0):Sml 1 (Iu n).1:=by
 have hl:(A9 n).1.length≤2048:=by
  have:=(Dm h).1
  have:=AfT n
  omega
 unfold Iu at h0 ⊢
 split at h0
 · rename_i g;exact absurd h0 g
 rename_i g1
 rw[if_neg g1]
 split at h0
 · cases h0
 rename_i g2
 rw[if_neg g2]
 split at h0
 · cases h0
 rename_i g3
 rw[if_neg g3]
 have:=(Zg (A9 n).1 0).1
 exact CR (by simp[Rh];omega) (Ao9 hl)
theorem RV{a:Arr}{dn:Bool}(h:Am 8 a=true)(h0:(Hh a dn).2=0):Sml 1 (Hh a dn).1:=by
 have hl:=(Dm h).1
 unfold Hh at h0 ⊢
 split
 · refine CR (by simp only[Apm,WA];omega) (fun x hx=> ?_)
   obtain ⟨i,hi,rfl⟩:=Aqw.1 hx
   have:=JJ.1 hi
   exact Dn (by omega) (by omega)
 · rename_i g;rw[if_neg g]at h0;cases h0
abbrev U8(r:Arr×Int):Prop:=r.2=0→Sml 10 r.1
theorem Bb{c:Prop} [Decidable c] {P:Arr×Int→Prop}{x y:Arr×Int}(h1:P x)(h2:P y):P (if c then x else y):=by split;exact h1;exact h2
theorem Aiv(f:Int)(a:Arr)(h:Am 8 a=true):U8 (Jw f a):=by
 have s:=Cd h
 have hl:=(Dm h).1
 unfold Jw
 refine Bb (fun _=>(AmA h).mono (by omega)) ?_
 refine Bb (fun _=>(Akh h).mono (by omega)) ?_
 refine Bb (fun _=>(An7 h).mono (by omega)) ?_
 refine Bb (fun _=>(Aa1 h).mono (by omega)) ?_
 refine Bb (fun _=>(Aa1 h).mono (by omega)) ?_
 refine Bb (fun _=>(AnO h).mono (by omega)) ?_
 refine Bb (fun _=>AeK s) ?_
 refine Bb (fun _=>(Cd (Afz h)).mono (by omega)) ?_
 refine Bb (fun _=>(Ae5 h).mono (by omega)) ?_
 refine Bb (fun _=>(AnC h).mono (by omega)) ?_
 refine Bb (fun _=>s.mono (by omega)) ?_
 refine Bb (fun _=>s.mono (by omega)) ?_
 refine Bb (fun h0=>(AfY h0).mono (by omega)) ?_
 refine Bb (fun _=>(AeO h).mono (by omega)) ?_
 refine Bb (fun h0=>(Ao1 s hl h0).mono (by omega)) ?_
 refine Bb (fun h0=>(AoI h h0).mono (by omega)) ?_
 refine Bb (fun h0=>(RV h h0).mono (by omega)) ?_
 refine Bb (fun h0=>(RV h h0).mono (by omega)) ?_
 exact fun h0=>(Cd (Ao3 f 8 a h h0).1).mono (by omega)
theorem AaB{k a:Arr}{f:Bool}(h:Am 8 a=true)(h0:(Hr k a f).2=0):Sml 9 (Hr k a f).1:=by
 unfold Hr at h0 ⊢
 split at h0
 · rename_i g;exact absurd h0 g
 rename_i g1;rw[if_neg g1]
 split at h0
 · cases h0
 rename_i g2;rw[if_neg g2]
 split
 · exact Cd (Zl h)
 · exact X7 (Zl h) (Ni h) _
theorem AiZ{k a:Arr}(h:Am 8 a=true)(h0:(Gj k a).2=0):Sml 9 (Gj k a).1:=by
 unfold Gj at h0 ⊢
 split at h0
 · rename_i g;exact absurd h0 g
 rename_i g1;rw[if_neg g1]
 split at h0
 · cases h0
 rename_i g2;rw[if_neg g2]
 split at h0
 · cases h0
 · rename_i s hg
   have hs:=Ni h
   obtain ⟨p1,_⟩:=WK hg (by omega) (fun x hx=>(hs.2 x hx).1)
   exact X7 (Zl h) ⟨by rw[p1.length_eq];exact hs.1,fun x hx=>hs.2 x (p1.mem_iff.1 hx)⟩ _
theorem AaL{x:Bk}{d:Nat}(hx : ∀ c∈x.cs,SmlC d c)(i n:Nat) : ∀ c∈Fu x i n,SmlC d c:=by
 intro c hc
 unfold Fu at hc
 split at hc
 · rw[List.eq_of_mem_replicate hc,Apn]
   cases hg:x.cs[0]? with
   | none=>exact K0 I6 d
   | some c=>exact hx c (Apq hg)
 · exact hx c (List.mem_of_mem_take (List.mem_of_mem_drop hc))
theorem Ac6{a:Arr}{o:List Int}{axes axis:Nat}{x:Bk}(h:Ek a o axes axis=some x):x.cs=a.cells:=by
 unfold Ek at h
 split at h
 · injection h with h;rw[← h]
 split at h
 · injection h with h;rw[← h]
 split at h
 · injection h with h;rw[← h]
 · cases h
theorem Af3{α:Type}{l:List Nat}{f:Nat→List α}{k:Nat}(h : ∀ i∈l,(f i).length≤k):(l.flatMap f).length≤l.length*k:=by
 induction l with
 | nil=>simp
 | cons x xs ih =>
  rw[List.flatMap_cons,Apu,App,Nat.add_mul,Nat.one_mul]
  have:=h x (by simp)
  have:=ih (fun i hi=>h i (Aqq _ hi))
  omega
theorem AgV{s:List Int}{axis:Nat}(ha:axis<s.length)(hc:(A8 s).2=0):(A_ (s.take axis) 1).toNat*((s.getD axis 0).toNat*(A_ (s.drop (axis+1)) 1).toNat)≤2048:=by
 obtain ⟨hl6,hs⟩:=Gr hc
 have r1:=M3 (s.take axis) 1 (fun v hv=>hs v (List.mem_of_mem_take hv)) (by decide) (by decide)
 have r2:=M3 (s.drop (axis+1)) 1 (fun v hv=>hs v (List.mem_of_mem_drop hv)) (by decide) (by decide)
 have hk:s.getD axis 0=s[axis]:=by rw[Apn,Apk ha];rfl
 have ms:=hs _ (Aql ha:s[axis]∈s)
 rw[← hk]at ms
 have hsplit:s=s.take axis++s.getD axis 0::s.drop (axis+1):=by rw[hk,← Aqa,Aqf]
 rcases Decidable.em (A_ (s.take axis) 1=0) with e | e
 · rw[e];simp
 rcases Decidable.em (A_ (s.drop (axis+1)) 1=0) with e2 | e2
 · rw[e2];simp
 rcases Decidable.em (s.getD axis 0=0) with e3 | e3
 · rw[e3];simp
 obtain ⟨p1,p2⟩:=Oj (fun v hv=>hs v (List.mem_of_mem_take hv)) e
 obtain ⟨p3,p4⟩:=Oj (fun v hv=>hs v (List.mem_of_mem_drop hv)) e2
 have hz:=(Vx (s:=s) (c:=(A8 s).1) (by rw[← hc]) (fun v hv=>by
  rw[hsplit]at hv
  rcases Aqs.1 hv with q | q
  · exact p1 v q
  · rcases Ap4.1 q with q | q
    · omega
    · exact p3 v q)).2
 rw[hsplit,Qo,Eb,← p2,← p4]at hz
 generalize A_ (s.take axis) 1=A at *
 generalize A_ (s.drop (axis+1)) 1=B at *
 generalize s.getD axis 0=k at *
 obtain ⟨A',rfl⟩ : ∃ n:Nat,A=(n:Int):=⟨A.toNat,by omega⟩
 obtain ⟨B',rfl⟩ : ∃ n:Nat,B=(n:Int):=⟨B.toNat,by omega⟩
 obtain ⟨k',rfl⟩ : ∃ n:Nat,k=(n:Int):=⟨k.toNat,by omega⟩
 simp only[Apr]
 have:((A'*(k'*B'):Nat):Int)≤2048:=by simpa using hz
 omega
theorem ON{a b:Arr}{f:Bool}(ha:Am 8 a=true)(hb:Am 8 b=true)(h0:(Hc a b f).2=0):Sml 9 (Hc a b f).1:=by
 have ca:=(Ck ha).1
 have cb:=(Ck hb).1
 have sa:=Dm ha
 have sb:=Dm hb
 have h1:1≤B9 a b:=by unfold B9;omega
 unfold Hc at h0 ⊢
 cases hwa:Ek a b.shape (B9 a b) (Bx a b f) with
 | none=>rw[hwa]at h0;cases h0
 | some x =>
  cases hwb:Ek b a.shape (B9 a b) (Bx a b f) with
  | none=>rw[hwa,hwb]at h0;cases h0
  | some y =>
   rw[hwa,hwb]at h0
   simp only at h0 ⊢
   have hx:=DM hwa ca sb.2.2 h1 (Jk a b f) (by unfold B9;omega) (by unfold B9;omega)
   have hy:=DM hwb cb sa.2.2 h1 (Jk a b f) (by unfold B9;omega) (by unfold B9;omega)
   split at h0
   · rename_i g;exact absurd h0 g
   rename_i g;rw[if_neg g]
   obtain ⟨_,_,n3,n4,n5⟩:=Ac2 hx hy (Jk a b f) (Apw.1 g)
   have hlt:=Jk a b f
   have tot:=AgV (s:=(Ew x.sh y.sh (Bx a b f)).1) (axis:=Bx a b f) (by omega) n5
   obtain ⟨l6,rs⟩:=Gr n5
   have memD : ∀ {l:List Int},Bx a b f<l.length→l.getD (Bx a b f) 0∈l:=fun h=>by rw[Apn,Apk h];exact Aql h
   have kx:=hx.rng _ (memD (l:=x.sh) (by rw[hx.len];exact hlt))
   have ky:=hy.rng _ (memD (l:=y.sh) (by rw[hy.len];exact hlt))
   rw[n4]at tot
   generalize (Ew x.sh y.sh (Bx a b f)).1=s at *
   refine Sml.of (by show s.length≤_;omega) ?_ (Uf (fun v hv=>by have:=rs v hv;omega)) (fun c hc=> ?_)
   · have hl:=Af3 (l:=Aqj (A_ (s.take (Bx a b f)) 1).toNat) (f:=fun i=>Fu x i ((x.sh.getD (Bx a b f) 0).toNat*(A_ (s.drop (Bx a b f+1)) 1).toNat)++Fu y i ((y.sh.getD (Bx a b f) 0).toNat*(A_ (s.drop (Bx a b f+1)) 1).toNat)) (k:=(x.sh.getD (Bx a b f) 0).toNat*(A_ (s.drop (Bx a b f+1)) 1).toNat+(y.sh.getD (Bx a b f) 0).toNat*(A_ (s.drop (Bx a b f+1)) 1).toNat) (fun i _=>by
      rw[Apu]
      exact Nat.add_le_add (BC x i _) (BC y i _))
     rw[List.length_range,← Nat.add_mul,show (x.sh.getD (Bx a b f) 0).toNat+(y.sh.getD (Bx a b f) 0).toNat=(x.sh.getD (Bx a b f) 0+y.sh.getD (Bx a b f) 0).toNat by omega]at hl
     show (Kr x y (Bx a b f) s).length≤1048576
     have:(Kr x y (Bx a b f) s).length≤2048:=Nat.le_trans hl tot
     omega
   · have hc:c∈Kr x y (Bx a b f) s:=hc
     unfold Kr at hc
     obtain ⟨i,_,hi⟩:=List.mem_flatMap.1 hc
     rcases Aqs.1 hi with q | q
     · exact AaL (fun c hc=>(Cd ha).cell c (by rw[← Ac6 hwa];exact hc)) i _ c q
     · exact AaL (fun c hc=>(Cd hb).cell c (by rw[← Ac6 hwb];exact hc)) i _ c q
theorem AfM{n a:Arr}(ha:Am 8 a=true)(h0:(Gv n a).2=0):Sml 9 (Gv n a).1:=by
 unfold Gv at h0 ⊢
 split at h0
 · rename_i g;exact absurd h0 g
 rename_i g1;rw[if_neg g1]
 split at h0
 · cases h0
 rename_i g2;rw[if_neg g2]
 split at h0
 · cases h0
 rename_i g3;rw[if_neg g3]
 split at h0
 · cases h0
 rename_i g4;rw[if_neg g4]
 exact Cd (Zl (Acs (d:=7) (EJ (Ck ha).2 _)))
theorem Ahv(f:Int)(a b:Arr)(ha:Am 8 a=true)(hb:Am 8 b=true):U8 (Mt f a b):=by
 have s:=Cd ha
 have t:=Cd hb
 have hl:=(Dm ha).1
 have hm:=(Dm hb).1
 unfold Mt
 refine Bb (fun _=>UB.mono (by omega)) ?_
 refine Bb (fun _=>UB.mono (by omega)) ?_
 refine Bb (fun h0=>(AfP t hl hm h0).mono (by omega)) ?_
 refine Bb (fun _=>(AgU s hl).mono (by omega)) ?_
 refine Bb (fun h0=>(Aoy s t h0).mono (by omega)) ?_
 refine Bb (fun h0=>(AbY s hl h0).mono (by omega)) ?_
 refine Bb (fun h0=>(AbY s hl h0).mono (by omega)) ?_
 refine Bb (fun h0=>(Cd ((AX hb).1 h0)).mono (by omega)) ?_
 refine Bb (fun h0=>(Cd ((AX hb).1 h0)).mono (by omega)) ?_
 refine Bb (fun h0=>(Cd ((Wm hb).1 h0)).mono (by omega)) ?_
 refine Bb (fun h0=>(Cd ((Wm hb).1 h0)).mono (by omega)) ?_
 exact fun h0=>(Cd (Ack f 8 a b ha hb h0).1).mono (by omega)
theorem Aos(f:Int)(a b:Arr)(ha:Am 8 a=true)(hb:Am 8 b=true):U8 (Ht f a b):=by
 unfold Ht
 refine Bb (fun h0=>(Cd (AlC (Ck hb).2 h0)).mono (by omega)) ?_
 refine Bb (fun h0=>(ON ha hb h0).mono (by omega)) ?_
 refine Bb (fun h0=>(ON ha hb h0).mono (by omega)) ?_
 refine Bb (fun h0=>(AaB hb h0).mono (by omega)) ?_
 refine Bb (fun h0=>(AaB hb h0).mono (by omega)) ?_
 refine Bb (fun h0=>(AiZ hb h0).mono (by omega)) ?_
 refine Bb (fun h0=>(Cd (An8 hb h0)).mono (by omega)) ?_
 refine Bb (fun h0=>(Cd (Ae_ hb h0)).mono (by omega)) ?_
 refine Bb (fun h0=>(AfM hb h0).mono (by omega)) ?_
 refine Bb (fun _=>(Cd hb).mono (by omega)) ?_
 refine Bb (fun _=>(Cd ha).mono (by omega)) ?_
 exact Ahv f a b ha hb
theorem AnK(a:Arr):Az (Ai a)=0:=by
 induction a using Arr.ind with
 | h s sh cs IH =>
  have hA : ∀ (l:List Arr),(∀ x∈l,Az (Ai x)=0)→(l.map (D6 (fun _=>0))).foldl (fun l x=>l|||Az x) 0=0:=by
   intro l
   induction l with
   | nil=>intro _;rfl
   | cons x xs ih =>
    intro h
    have hx:Az (D6 (fun _=>0) x)=0:=h x (by simp)
    simp only[Ap9,List.foldl_cons,hx,BitVec.or_zero]
    exact ih (fun y hy=>h y (Aqq _ hy))
  have hC : ∀ (l:List Cell),(∀ c∈l,∀ x∈c.inn,Az (Ai x)=0)→(l.map (Dx (fun _=>0))).foldl J1 0=0:=by
   intro l
   induction l with
   | nil=>intro _;rfl
   | cons c cs ih =>
    intro h
    simp only[Ap9,List.foldl_cons]
    rw[CZ,M8]
    show (cs.map _).foldl J1 ((c.inn.map (D6 (fun _=>0))).foldl (fun l x=>l|||Az x) (0|||0))=0
    rw[show (0|||0:At)=0 from rfl,hA c.inn (h c (by simp))]
    exact ih (fun y hy=>h y (Aqq _ hy))
  unfold Ai
  rw[CY,Jz]
  exact hC cs IH
abbrev A5(c:Cell):Cell:=Dx (fun _=>0) c
theorem Ge(a:Arr):Ai a = .mk 0 a.shape (a.cells.map A5):=Jz _ a
theorem Co(a:Arr):(Ai a).shape=a.shape:=by rw[Ge];rfl
theorem C_(a:Arr):(Ai a).cells=a.cells.map A5:=by rw[Ge];rfl
theorem Gf(a:Arr):(Ai a).s=0:=by rw[Ge];rfl
theorem C0(c:Cell):A5 c=⟨0,c.kind,c.n,c.c,c.inn.map Ai⟩:=M8 _ c
theorem B8:Ai .none = .none:=by rw[Ge];rfl
theorem Wf:A5 Cell.none=Cell.none:=by rw[C0];rfl
theorem Kh(z:Int):A5 (Bf z)=Bf z:=by rw[C0];rfl
theorem Wj(l:List Int)(s:At):Ai (C3 l s)=C3 l 0:=by
 rw[Ge]
 unfold C3
 simp only[Arr.shape_mk,Arr.cells_mk,List.map_map]
 congr 1
theorem Wg(n:Int)(s:At):Ai (Dd n s)=Dd n 0:=by
 rw[Ge];unfold Dd;simp only[Arr.shape_mk,Arr.cells_mk,Ap9,List.map_nil,Kh]
theorem Wi(a:Arr):Ai (Ai a)=Ai a:=by
 induction a using Arr.ind with
 | h s sh cs IH =>
  rw[Ge,Co,C_,Ge]
  congr 1
  rw[List.map_map]
  refine List.map_congr_left (fun c hc=> ?_)
  show A5 (A5 c)=A5 c
  rw[C0 (A5 c),C0 c]
  congr 1
  rw[List.map_map]
  exact List.map_congr_left (fun x hx=>IH c hc x hx)
theorem QI(c:Cell):A5 (A5 c)=A5 c:=by
 rw[C0 (A5 c),C0 c]
 congr 1
 rw[List.map_map]
 exact List.map_congr_left (fun x _=>Wi x)
theorem SN : ∀ (l:List Cell),Fr (l.map A5)=Fr l
 | []=>rfl
 | c::cs=>by rw[Ap9,Fr,Fr,SN cs,C0]
theorem Kn(a:Arr):A9 (Ai a)=A9 a:=by unfold A9;rw[Co,C_,SN]
theorem LK(a:Arr):Cq (Ai a)=Cq a:=by
 unfold Cq
 rw[Co,C_]
 match a.shape,a.cells with
 | [],[]=>rfl
 | [],[c]=>simp only[Ap9,List.map_nil,C0]
 | [],c::d::r=>rfl
 | x::xs,_=>rfl
theorem FQ : ∀ (l:List Cell),Er l=l.foldr (fun c m=>max (Lf c) m) 0
 | []=>by rw[Er];rfl
 | c::cs=>by rw[Er,FQ cs];rfl
theorem FN : ∀ (l:List Arr),Gs l=l.foldr (fun c m=>max (Fb c) m) 0
 | []=>by rw[Gs];rfl
 | c::cs=>by rw[Gs,FN cs];rfl
theorem GN{α:Type}{f g:α→Nat} : ∀ {l:List α},(∀ x∈l,f x=g x)→l.foldr (fun c m=>max (f c) m) 0=l.foldr (fun c m=>max (g c) m) 0
 | [],_=>rfl
 | x::xs,h=>by rw[List.foldr_cons,List.foldr_cons,GN (fun y hy=>h y (Aqq _ hy)),h x (by simp)]
theorem PS(a:Arr):Fb (Ai a)=Fb a:=by
 induction a using Arr.ind with
 | h s sh cs IH =>
  have hs:=LK (.mk s sh cs)
  rw[Ge]at hs ⊢
  simp only[Arr.shape_mk,Arr.cells_mk]at hs ⊢
  rw[Fb,Fb,hs,FQ,FQ,List.foldr_map]
  rw[GN (f:=fun c=>Lf (A5 c)) (g:=Lf) (fun c hc=> ?_)]
  rw[C0]
  cases c
  rw[Lf,Lf,FN,FN,List.foldr_map]
  exact GN (fun x hx=>IH _ hc x hx)
theorem GH : ∀ (l:List Cell),Gt l=l.flatMap N2
 | []=>by rw[Gt];rfl
 | c::cs=>by rw[Gt,GH cs];rfl
theorem GF : ∀ (l:List Arr),I4 l=l.flatMap F1
 | []=>by rw[I4];rfl
 | c::cs=>by rw[I4,GF cs];rfl
theorem W0{α:Type}{f g:α→List Cell} : ∀ {l:List α},(∀ x∈l,f x=g x)→l.flatMap f=l.flatMap g
 | [],_=>rfl
 | x::xs,h=>by rw[List.flatMap_cons,List.flatMap_cons,h x (by simp),W0 (fun y hy=>h y (Aqq _ hy))]
theorem Af2(a:Arr):F1 (Ai a)=(F1 a).map A5:=by
 induction a using Arr.ind with
 | h s sh cs IH =>
  rw[Ge]
  simp only[Arr.shape_mk,Arr.cells_mk]
  rw[F1,F1,GH,GH,List.flatMap_map,List.map_flatMap]
  refine W0 (fun c hc=> ?_)
  rw[C0]
  have ih:=IH c hc
  cases c with
  | mk l k n c inn =>
  simp only at ih ⊢
  rw[N2,N2]
  split
  · rw[GF,GF,List.flatMap_map,List.map_flatMap]
    exact W0 (fun x hx=>ih x hx)
  · simp only[Ap9,List.map_nil,C0]
theorem QN(a:Arr):Cr (Ai a)=A5 (Cr a):=by
 unfold Cr
 rw[C_]
 match a.cells with
 | []=>exact (Kh 0).symm
 | c::cs =>
  simp only[Ap9]
  rw[C0 c]
  simp only
  split <;> (rw[C0];rfl)
theorem Ml(l:List Cell)(i:Nat){z:Cell}(hz:A5 z=z):(l.map A5).getD i z=A5 (l.getD i z):=by
 rw[Apn,Apn,Ap2]
 cases l[i]? with
 | none=>exact hz.symm
 | some c=>rfl
theorem AlZ(x y:Cell):In (A5 x) (A5 y)=In x y:=by
 rw[Bool.eq_iff_iff,Lw,Lw]
 show A5 (A5 x)=A5 (A5 y)↔_
 rw[QI,QI]
theorem Te : ∀ (l:List Cell) (c:Cell) (k:Nat),Dl (l.map A5) (A5 c) k=Dl l c k
 | [],_,_=>rfl
 | x::xs,c,k=>by rw[Ap9,Dl,Dl,AlZ,Te xs]
theorem AgN(a b:Arr):Kq (Ai a) (Ai b)=Kq a b:=by unfold Kq;rw[Wi,Wi]
theorem TM{f:Cell→Cell→Int}(h : ∀ x y,f (A5 x) (A5 y)=f x y) : ∀ (l m:List Cell),Dp f ((l.map A5).zip (m.map A5))=Dp f (l.zip m)
 | [],_=>rfl
 | _::_,[]=>rfl
 | x::xs,y::ys=>by
  simp only[Ap9,List.zip_cons_cons,Dp,h,TM h xs ys]
theorem OX{r:Arr→Arr→Int}(h : ∀ a b,r (Ai a) (Ai b)=r a b)(x y:Cell):Pg r (A5 x) (A5 y)=Pg r x y:=by
 unfold Pg
 rw[C0 x,C0 y]
 simp only
 have hd : ∀ l:List Arr,(l.map Ai).headD .none=Ai (l.headD .none):=fun l=>by
  cases l with
  | nil=>exact B8.symm
  | cons a as_=>rfl
 rw[hd,hd,h]
theorem OW : ∀ (d:Nat) (a b:Arr),Hd d (Ai a) (Ai b)=Hd d a b
 | 0,_,_=>rfl
 | d+1,a,b=>by
  rw[Hd,Hd,C_,C_,TM (OX (OW d))]
  have:Iq (Ai a) (Ai b)=Iq a b:=by unfold Iq;rw[Co,Co]
  rw[this]
theorem Agm(d:Nat)(cs:List Cell)(dn:Bool):kk d (cs.map A5) dn=kk d cs dn:=by
 funext i j
 unfold kk
 rw[Ml cs i (Kh 0),Ml cs j (Kh 0)]
 have:=fun x y=>OX (OW d) x y
 unfold I1
 rw[this,this]
theorem Th(a:Arr)(l:At):Ai (Cw a l)=Ai a:=by rw[Ge,Ge,Aj_,Aj8]
theorem Ti(a:Arr):Cw (Ai a) 0=Ai a:=by
 rw[Ge]
 show Arr.mk ((0:At)|||0) a.shape (a.cells.map A5)=Arr.mk 0 a.shape (a.cells.map A5)
 rw[show ((0:At)|||0)=0 from rfl]
theorem Acu(c:Cell):Jh (A5 c)=Ai (Jh c):=by
 have one : ∀ l:At,(Arr.mk 0 [] [A5 c])=Ai (.mk l [] [c]):=fun l=>by rw[Ge];rfl
 unfold Jh
 have hi:(A5 c).inn=c.inn.map Ai:=by rw[C0]
 have hk:(A5 c).kind=c.kind:=by rw[C0]
 have hl:(A5 c).l=0:=by rw[C0]
 rw[hi,hk,hl]
 match c.inn with
 | []=>exact one _
 | [x] =>
  simp only[Ap9,List.map_nil]
  split
  · rw[Th];exact Ti x
  · exact one _
 | x::y::r=>exact one _
theorem Cs{c:Prop} [Decidable c] {P:Arr×Int→Arr×Int→Prop}{x y x' y':Arr×Int}(h1:P x x')(h2:P y y'):P (if c then x else y) (if c then x' else y'):=by
 split
 · exact h1
 · exact h2
theorem Fv(a:Arr):Az (Ai a)=0:=AnK a
theorem Ll(a:Arr):(Ai a).cells.length=a.cells.length:=by rw[C_,Apm]
theorem L9:((0:At)|||0)=0:=rfl
theorem Gx{s:At}{sh:List Int}{cs:List Cell} : Ai (.mk s sh cs) = .mk 0 sh (cs.map A5):=Ge _
theorem Am9(a:Arr):Nh (Ai a)=Ai (Nh a):=by unfold Nh;rw[Wj,Co,Gf]
theorem Akg(a:Arr):M5 (Ai a)=Ai (M5 a):=by unfold M5;rw[Gx,Ll,Gf,C_]
theorem An6(a:Arr):L0 (Ai a)=Ai (L0 a):=by unfold L0;rw[Gx,Co,Gf,C_]
theorem X6(a:Arr)(s:List Int)(g:List Int→List Int):Gg (Ai a) s g=Ai (Gg a s g):=by
 unfold Gg
 rw[Gx,Ll,Gf,List.map_map]
 congr 1
 refine List.map_congr_left (fun i _=> ?_)
 show Qc (Ai a) s g i=A5 (Qc a s g i)
 unfold Qc
 rw[Co,C_,Ml _ _ (Kh 0)]
theorem ND(a:Arr)(f:Bool):Ep (Ai a) f=Ep a f:=by unfold Ep;rw[Co]
theorem Aaz(a:Arr)(f:Bool):Lu (Ai a) f=Ai (Lu a f):=by
 unfold Lu
 rw[Co,ND]
 split
 · rfl
 · exact X6 a _ _
theorem AnN(a:Arr):Ov (Ai a)=Ai (Ov a):=by unfold Ov;rw[Co];exact X6 a _ _
theorem AdE(a:Arr):Lc (Ai a)=Ai (Lc a):=by
 unfold Lc
 rw[Gx,Gf]
 simp only[Ap9,List.map_nil]
 rw[C0]
 have:Mf (Ai a)=0:=by
  unfold Mf
  rw[Co,C_]
  match a.shape,a.cells with
  | [],[]=>rfl
  | [],c::cs=>simp only[Ap9];rw[C0]
  | x::xs,_=>rfl
 rw[this];rfl
theorem AeL(a:Arr):I2 (Ai a)=(Ai (I2 a).1,(I2 a).2):=by
 unfold I2
 rw[LK,PS]
 split
 · rfl
 split
 · rw[B8]
 · rw[AdE]
theorem Af0(a:Arr):Mj (Ai a)=Ai (Mj a):=by
 unfold Mj
 rw[C_,Gf]
 match a.cells with
 | []=>simp only[List.map_nil];rw[Wg]
 | c::cs =>
  simp only[Ap9]
  rw[Acu,Th];exact Ti _
theorem Ae4(a:Arr):P7 (Ai a)=Ai (P7 a):=by unfold P7;rw[Wg,PS,Fv]
theorem AnB(a:Arr):Ou (Ai a)=Ai (Ou a):=by unfold Ou;rw[Wg,Co,Gf]
theorem AfV(a:Arr):Fd (Ai a)=(Ai (Fd a).1,(Fd a).2):=by
 unfold Fd
 rw[Kn,Fv]
 split
 · split
   · split
     · rw[B8]
     split
     · rw[B8]
     · rw[Wj]
   · rw[B8]
 · rw[B8]
theorem AeP(a:Arr):Gd (Ai a)=(Ai (Gd a).1,(Gd a).2):=by
 unfold Gd
 rw[Af2,Apm,Fv]
 split
 · rw[Gx]
 · rw[B8]
theorem II(s:At)(l:List Cell):Ib 0 (l.map A5)=Ai (Ib s l):=by unfold Ib;rw[Gx,Apm]
theorem Acq(l:List Cell) : ∀ (cs:List Cell) (k:Nat),Gn (l.map A5) (cs.map A5) k=(Gn l cs k).map A5
 | [],_=>rfl
 | c::cs,k=>by
  rw[Ap9,Gn,Gn,← List.map_take,Te,Acq l cs (k+1)]
  split <;> rfl
theorem Aoz(a:Arr):Hv (Ai a)=(Ai (Hv a).1,(Hv a).2):=by
 unfold Hv
 rw[Co,C_,Acq,Fv]
 split
 · rw[B8]
 · rw[II]
theorem AoG(a:Arr):Iu (Ai a)=(Ai (Iu a).1,(Iu a).2):=by
 unfold Iu
 rw[Kn,Co,Fv]
 split
 · rw[B8]
 split
 · rw[B8]
 split
 · rw[B8]
 · rw[Wj]
theorem RT(a:Arr)(dn:Bool):Hh (Ai a) dn=(Ai (Hh a dn).1,(Hh a dn).2):=by
 have:G0 (Ai a) dn=G0 a dn:=by unfold G0;rw[Ll,C_,Agm]
 unfold Hh
 rw[Co,this,Fv]
 split
 · rw[Wj]
 · rw[B8]
theorem Ao5(f:Int)(a:Arr)(e:Cz f (a.cells.map A5)=((Cz f a.cells).1.map A5,(Cz f a.cells).2)):Df f (Ai a)=(Ai (Df f a).1,(Df f a).2):=by
 rw[Rg,Rg,Gf,Co,C_]
 simp only[e]
 split
 · split
   · rw[Gx]
   · rw[B8]
 · rw[B8]
theorem Ao4(f:Int)(a:Arr):Df f (Ai a)=(Ai (Df f a).1,(Df f a).2):=by
 induction a using Arr.ind with
 | h s sh cs IH =>
  have cell : ∀ c∈cs,E_ f (A5 c)=(A5 (E_ f c).1,(E_ f c).2):=by
   intro c hc
   have ih:=IH c hc
   rw[Uo,Uo,C0 c]
   simp only
   have hin:Jg f (c.inn.map Ai)=(Ai (Jg f c.inn).1,(Jg f c.inn).2):=by
    cases hh:c.inn with
    | nil=>rw[List.map_nil,Jg,B8]
    | cons x xs=>rw[Ap9,Jg,Jg];exact ih x (by rw[hh];simp)
   rw[hin]
   split
   · simp only;rw[C0];rfl
   split
   · simp only;rw[C0];rfl
   · rw[Wf]
  have all : ∀ l:List Cell,(∀ c∈l,E_ f (A5 c)=(A5 (E_ f c).1,(E_ f c).2))→Cz f (l.map A5)=((Cz f l).1.map A5,(Cz f l).2):=by
   intro l
   induction l with
   | nil=>intro _;rw[List.map_nil,Cz];rfl
   | cons c l ih =>
    intro h
    rw[Ap9,Cz,Cz,h c (by simp),ih (fun y hy=>h y (Aqq _ hy))]
    simp only
    split
    · split <;> rfl
    · rfl
  exact Ao5 f (.mk s sh cs) (all cs cell)
theorem AlD(n a:Arr):Il (Ai n) (Ai a)=(Ai (Il n a).1,(Il n a).2):=by
 have hc : ∀ k,Fn (a.cells.map A5) k=(Fn a.cells k).map A5:=fun k=>by
   unfold Fn
   rw[List.map_map,Apm]
   exact List.map_congr_left (fun i _=>Ml _ _ (Kh 0))
 unfold Il
 rw[Kn,Gf,Fv,C_,hc,L9]
 split
 · split
   · rw[Gx]
   · rw[B8]
 · rw[B8]
theorem Ac7(a:Arr)(sh:List Int)(axes axis:Nat):Ek (Ai a) sh axes axis=(Ek a sh axes axis).map (fun x=>(⟨x.sh,x.cs.map A5,x.al⟩:Bk)):=by
 unfold Ek
 rw[Co,C_]
 split
 · rfl
 split
 · rfl
 split <;> rfl
theorem AaC(x:Bk)(i k:Nat):Fu ⟨x.sh,x.cs.map A5,x.al⟩ i k=(Fu x i k).map A5:=by
 unfold Fu
 simp only
 split
 · rw[List.map_replicate,Ml _ _ (Kh 0)]
 · rw[List.map_drop,List.map_take]
theorem OL(a b:Arr)(f:Bool):Hc (Ai a) (Ai b) f=(Ai (Hc a b f).1,(Hc a b f).2):=by
 have e1:B9 (Ai a) (Ai b)=B9 a b:=by unfold B9;rw[Co,Co]
 have e2:Bx (Ai a) (Ai b) f=Bx a b f:=by unfold Bx;rw[e1]
 unfold Hc
 rw[e1,e2,Co,Co,Ac7,Ac7,Gf,Gf]
 cases Ek a b.shape (B9 a b) (Bx a b f) with
 | none=>simp only[Option.map_none];rw[B8]
 | some x =>
  cases Ek b a.shape (B9 a b) (Bx a b f) with
  | none=>simp only[Option.map_none,Option.map_some];rw[B8]
  | some y =>
   simp only[Option.map_some]
   split
   · rw[B8]
   · rw[Gx,L9]
     have : ∀ s:List Int,Kr ⟨x.sh,x.cs.map A5,x.al⟩ ⟨y.sh,y.cs.map A5,y.al⟩ (Bx a b f) s=(Kr x y (Bx a b f) s).map A5:=fun s=>by
      unfold Kr
      rw[List.map_flatMap]
      refine W0 (fun i _=> ?_)
      rw[AaC,AaC,List.map_append]
     rw[this]
theorem Aa_(n a:Arr)(f:Bool):Hr (Ai n) (Ai a) f=(Ai (Hr n a f).1,(Hr n a f).2):=by
 have hr:Cw (Ai a) 0=Ai (Cw a (Az n)):=by rw[Th];exact Ti a
 unfold Hr
 rw[Kn,Co,ND,Fv,hr]
 split
 · rw[B8]
 split
 · rw[B8]
 split
 · rfl
 · rw[X6]
theorem AiX(n a:Arr):Gj (Ai n) (Ai a)=(Ai (Gj n a).1,(Gj n a).2):=by
 have hr:Cw (Ai a) 0=Ai (Cw a (Az n)):=by rw[Th];exact Ti a
 unfold Gj
 rw[Kn,Co,Fv,hr]
 split
 · rw[B8]
 split
 · rw[B8]
 split
 · rw[B8]
 · rw[X6]
theorem PB(n a:Arr)(s f z:List Int):Fl (Ai n) (Ai a) s f z=(Ai (Fl n a s f z).1,(Fl n a s f z).2):=by
 unfold Fl
 rw[Gf,Fv,L9]
 split
 · rw[Gx]
   unfold Ip
   rw[List.map_map]
   congr 2
   refine List.map_congr_left (fun i _=> ?_)
   show Nc (Ai a).cells (Cr (Ai a)) s f z i=A5 (Nc a.cells (Cr a) s f z i)
   unfold Nc
   rw[QN,C_]
   split
   · rw[Apn,Apn,Ap2]
     rename_i k _
     cases a.cells[k.toNat]? <;> rfl
   · rfl
 · rw[B8]
theorem OE(n a:Arr):Ct (Ai n) (Ai a)=Ct n a:=by unfold Ct;rw[Kn,Co]
theorem An_(n a:Arr):Is (Ai n) (Ai a)=(Ai (Is n a).1,(Is n a).2):=by
 unfold Is
 rw[OE,PB]
 split
 · rfl
 · rw[B8]
theorem AeA(n a:Arr):H3 (Ai n) (Ai a)=(Ai (H3 n a).1,(H3 n a).2):=by
 unfold H3
 rw[OE,PB]
 split
 · rfl
 · rw[B8]
theorem AfK(n a:Arr):Gv (Ai n) (Ai a)=(Ai (Gv n a).1,(Gv n a).2):=by
 unfold Gv
 rw[Kn,Co,Ll,C_,Gf,Fv,L9,Ml _ _ (Kh 0),Acu,Ti]
 split
 · rw[B8]
 split
 · rw[B8]
 split
 · rw[B8]
 split
 · rw[B8]
 · rw[Th]
theorem UJ(a b:Arr)(s:Bool):Ms (Ai a) (Ai b) s=Ai (Ms a b s):=by unfold Ms;rw[Wg,AgN,Fv,Fv,L9]
theorem Vm(a b:Arr):Hx (Ai a) (Ai b)=0:=by unfold Hx;rw[Fv,Fv,L9]
theorem AfN(a b:Arr):Ia (Ai a) (Ai b)=(Ai (Ia a b).1,(Ia a b).2):=by
 have h : ∀ c:Cell,Gu (a.cells.map A5) (A5 c)=A5 (Gu a.cells c):=fun c=>by
   unfold Gu;rw[Te,Apm,Kh]
 unfold Ia
 rw[Vm,Co,Co,C_,C_]
 split
 · rw[Gx,List.map_map,List.map_map]
   congr 2
   exact List.map_congr_left (fun c _=>h c)
 · rw[B8]
theorem AgT(a b:Arr):Lm (Ai a) (Ai b)=Ai (Lm a b):=by
 have h : ∀ c:Cell,Ie (b.cells.map A5) (A5 c)=A5 (Ie b.cells c):=fun c=>by
  unfold Ie;rw[Te,Kh]
 unfold Lm
 rw[Vm,Co,C_,C_,Gx,List.map_map,List.map_map]
 congr 1
 exact List.map_congr_left (fun c _=>h c)
theorem AbV(l o:List Cell)(i:Bool):F_ (l.map A5) (o.map A5) i=(F_ l o i).map A5:=by
 unfold F_
 rw[List.filter_map]
 congr 1
 refine List.filter_congr (fun c _=> ?_)
 show (decide (0≤Dl (o.map A5) (A5 c) 0)==i)=_
 rw[Te]
theorem AbW(a b:Arr)(i:Bool):G9 (Ai a) (Ai b) i=(Ai (G9 a b i).1,(G9 a b i).2):=by
 unfold G9
 rw[Vm,Co,C_,C_,AbV]
 split
 · rw[B8]
 · rw[II]
theorem Aow(a b:Arr):Hu (Ai a) (Ai b)=(Ai (Hu a b).1,(Hu a b).2):=by
 unfold Hu
 rw[Vm,Co,Co,C_,C_,AbV,Apm,Apm,← List.map_append]
 split
 · rw[B8]
 split
 · rw[B8]
 split
 · rw[B8]
 · rw[II]
theorem AaG(a:Arr)(s:List Nat)(x:Nat)(fr:List Int)(t:At):C7 (Ai a) s x fr 0=(Ai (C7 a s x fr t).1,(C7 a s x fr t).2):=by
 have h : ∀ L B j,My (Ai a) L B fr j=A5 (My a L B fr j):=fun L B j=>by
   unfold My
   rw[QN,C_,Ml _ _ Wf]
   split <;> rfl
 unfold C7
 rw[Gf,L9]
 split
 · rw[B8]
 · rw[Gx,List.map_map]
   congr 2
   exact List.map_congr_left (fun j _=>h _ _ j)
theorem MZ(a:Arr):aN (Ai a)=aN a:=AcT (Co a)
theorem OB(a:Arr)(f:Bool):Av (Ai a) f=Av a f:=Ad2 (Co a) f
theorem Ago(n:Arr)(L:Nat):lS (Ai n) L=lS n L:=by unfold lS;rw[Co,Kn]
theorem Aan(n a:Arr)(f:Bool):Hq (Ai n) (Ai a) f=(Ai (Hq n a f).1,(Hq n a f).2):=by
 unfold Hq
 rw[Kn,MZ,OB,Ago,Fv]
 split
 · rw[B8]
 split
 · rw[B8]
 split
 · rw[B8]
 split
 · rw[B8]
 · exact AaG a _ _ _ _
theorem QJ(n a:Arr)(f:Bool):Hf (Ai n) (Ai a) f=(Ai (Hf n a f).1,(Hf n a f).2):=by
 unfold Hf
 rw[Kn,MZ,OB,Fv]
 split
 · rw[B8]
 split
 · rw[B8]
 split
 · rw[B8]
 · exact AaG a _ _ _ _
theorem QE(c:Cell):(A5 c).kind=c.kind:=by rw[C0]
theorem AeG(c:Cell):(A5 c).l=0:=by rw[C0]
theorem FV(c:Cell):(A5 c).n=c.n:=by rw[C0]
theorem QC(c:Cell):(A5 c).c=c.c:=by rw[C0]
theorem QD(c:Cell):(A5 c).inn=c.inn.map Ai:=by rw[C0]
theorem WV(a:Arr)(i:Int):Cj (Ai a) i=A5 (Cj a i):=by
 unfold Cj
 rw[Co,Ll,C_]
 generalize (if a.shape = [] then (0:Int) else i)=z
 rw[Ml _ _ Wf]
 split
 · exact Wf.symm
 · rfl
theorem AdZ(c:Cell):Fa (A5 c)=Ai (Fa c):=by
 unfold Fa
 rw[QE,FV,QC,QD]
 split
 · cases c.inn with
   | nil=>exact B8.symm
   | cons x xs=>rfl
 · rw[Gx]
   simp only[Ap9,List.map_nil]
   rw[C0]
theorem Aol{r:Arr→Arr→Arr×Int}(f:Int)(hr : ∀ X Y,r (Ai X) (Ai Y)=(Ai (r X Y).1,(r X Y).2))(x y:Cell):D3 r f (A5 x) (A5 y)=(A5 (D3 r f x y).1,(D3 r f x y).2):=by
 unfold D3
 simp only[QE,AeG,FV,QC,L9,AdZ,hr]
 split
 · rw[C0];rfl
 split
 · rw[C0];rfl
 split
 · rw[C0];rfl
 split
 · rw[C0];rfl
 · rw[C0];rfl
theorem Acl{g h:Nat→Cell×Int}(hg : ∀ i,h i=(A5 (g i).1,(g i).2)) : ∀ (m k:Nat),Dc h m k=((Dc g m k).1.map A5,(Dc g m k).2)
 | 0,_=>rfl
 | m+1,k=>by
  rw[Dc,Dc]
  simp only[hg,Acl hg m (k+1)]
  split
  · split <;> rfl
  · rfl
theorem Acn{r:Arr→Arr→Arr×Int}(f:Int)(hr : ∀ X Y,r (Ai X) (Ai Y)=(Ai (r X Y).1,(r X Y).2))(a b:Arr):En r f (Ai a) (Ai b)=(Ai (En r f a b).1,(En r f a b).2):=by
 have e1:D9 (Ai a) (Ai b)=D9 a b:=by unfold D9;rw[Co,Co]
 have e2:C1 (Ai a) (Ai b)=C1 a b:=by unfold C1;rw[Co,Ll,Ll]
 have e3:=Acl (g:=fun i:Nat=>D3 r f (Cj a i) (Cj b i)) (h:=fun i:Nat=>D3 r f (Cj (Ai a) i) (Cj (Ai b) i)) (fun i=>by
   show D3 r f (Cj (Ai a) i) (Cj (Ai b) i)=_
   rw[WV,WV]
   exact Aol f hr _ _) (C1 a b) 0
 unfold En
 rw[e1,e2,Gf,Gf,L9]
 simp only[e3]
 split
 · split
   · split
     · rw[Gx]
     · rw[B8]
   · rw[B8]
 · rw[B8]
theorem Acp(f:Int) : ∀ (d:Nat) (a b:Arr),J3 d f (Ai a) (Ai b)=(Ai (J3 d f a b).1,(J3 d f a b).2)
 | 0,a,b=>Acn f (fun _ _=>by rw[B8]) a b
 | d+1,a,b=>Acn f (Acp f d) a b
abbrev MU(r r':Arr×Int):Prop:=r'=(Ai r.1,r.2)
theorem Ait(f:Int)(a:Arr):MU (Jw f a) (Jw f (Ai a)):=by
 unfold Jw
 refine Cs (by rw[Am9]) ?_
 refine Cs (by rw[Akg]) ?_
 refine Cs (by rw[An6]) ?_
 refine Cs (by rw[Aaz]) ?_
 refine Cs (by rw[Aaz]) ?_
 refine Cs (by rw[AnN]) ?_
 refine Cs (AeL a) ?_
 refine Cs (by rw[Af0]) ?_
 refine Cs (by rw[Ae4]) ?_
 refine Cs (by rw[AnB]) ?_
 refine Cs rfl ?_
 refine Cs rfl ?_
 refine Cs (AfV a) ?_
 refine Cs (AeP a) ?_
 refine Cs (Aoz a) ?_
 refine Cs (AoG a) ?_
 refine Cs (RT a false) ?_
 refine Cs (RT a true) ?_
 exact Ao4 f a
theorem Aoq(f:Int)(a b:Arr):MU (Ht f a b) (Ht f (Ai a) (Ai b)):=by
 unfold Ht
 refine Cs (AlD a b) ?_
 refine Cs (OL a b false) ?_
 refine Cs (OL a b true) ?_
 refine Cs (Aa_ a b false) ?_
 refine Cs (Aa_ a b true) ?_
 refine Cs (AiX a b) ?_
 refine Cs (An_ a b) ?_
 refine Cs (AeA a b) ?_
 refine Cs (AfK a b) ?_
 refine Cs rfl ?_
 refine Cs rfl ?_
 unfold Mt
 refine Cs (by rw[UJ]) ?_
 refine Cs (by rw[UJ]) ?_
 refine Cs (AfN a b) ?_
 refine Cs (by rw[AgT]) ?_
 refine Cs (Aow a b) ?_
 refine Cs (AbW a b true) ?_
 refine Cs (AbW a b false) ?_
 refine Cs (Aan a b false) ?_
 refine Cs (Aan a b true) ?_
 refine Cs (QJ a b false) ?_
 refine Cs (QJ a b true) ?_
 exact Acp f 8 a b
theorem AeY{a:Arr}(h:ExpOk a):ExpOk (Ai a):=by
 induction a using Arr.ind with
 | h s sh cs IH =>
  have hc:=h.cell
  rw[Ge]
  refine .mk (fun c hcm=> ?_) (fun c hcm x hx=> ?_)
  · obtain ⟨c',hc',rfl⟩:=Aqw.1 hcm
    rw[FV];exact (hc c' hc').1
  · obtain ⟨c',hc',rfl⟩:=Aqw.1 hcm
    rw[QD]at hx
    obtain ⟨y,hy,rfl⟩:=Aqw.1 hx
    exact IH c' hc' y hy ((hc c' hc').2 y hy)
theorem Aa4{d:Nat}{c:Cell}(ih : ∀ e x,d=e+1→Am e x=true→Am e (Ai x)=true)(h:Bo d c=true):Bo d (A5 c)=true:=by
 rw[C0]
 rcases Q0 h with ⟨h1,h2,h3,h4⟩ | ⟨h1,h2,h3⟩ | ⟨h1,h2,h3,e,x,h4,h5,h6⟩
 · rw[h1,h2,h3]
   exact Q4 h4
 · rw[h1,h2,h3]
   have:Bo d ⟨0,c.kind,c.n,c.c,c.inn⟩=true:=Aa6 0 h
   rw[h1,h2,h3]at this
   exact this
 · subst h4
   have hx:=Q3 h x (by rw[h5];simp)
   obtain ⟨_,_,hs,_,_,_⟩:=hx
   rw[h1,h2,h3,h5]
   exact KU (by rw[LK];exact hs) (ih e x rfl h6)
theorem Aa8 : ∀ (d:Nat) (a:Arr),Am d a=true→Am d (Ai a)=true:=by
 intro d
 induction d with
 | zero =>
  intro a h
  obtain ⟨h1,h2⟩:=Ck h
  refine G8 (by rw[Co,Ll];exact h1) (fun c hc=> ?_)
  rw[C_]at hc
  obtain ⟨c',hc',rfl⟩:=Aqw.1 hc
  exact Aa4 (fun e x he=>by omega) (h2 c' hc')
 | succ d ihd =>
  intro a h
  obtain ⟨h1,h2⟩:=Ck h
  refine G8 (by rw[Co,Ll];exact h1) (fun c hc=> ?_)
  rw[C_]at hc
  obtain ⟨c',hc',rfl⟩:=Aqw.1 hc
  exact Aa4 (fun e x he=>by
   have:e=d:=by omega
   subst this
   exact ihd x) (h2 c' hc')
abbrev Ez(r:Arr×Int):Prop:=r.2≠0→r.1 = .none
theorem AeM(a:Arr):Ez (I2 a):=by
 unfold I2
 split
 · exact fun h=>absurd rfl h
 split
 · exact fun _=>rfl
 · exact fun h=>absurd rfl h
theorem AeQ(a:Arr):Ez (Gd a):=by
 unfold Gd
 split
 · exact fun h=>absurd rfl h
 · exact fun _=>rfl
theorem AoH(a:Arr):Ez (Iu a):=by
 unfold Iu
 split
 · exact fun _=>rfl
 split
 · exact fun _=>rfl
 split
 · exact fun _=>rfl
 · exact fun h=>absurd rfl h
theorem RU(a:Arr)(dn:Bool):Ez (Hh a dn):=by
 unfold Hh
 split
 · exact fun h=>absurd rfl h
 · exact fun _=>rfl
theorem Ao6(f:Int)(a:Arr):Ez (Df f a):=by
 rw[Rg]
 split
 · split
   · exact fun h=>absurd rfl h
   · exact fun _=>rfl
 · exact fun _=>rfl
theorem Aiu(f:Int)(a:Arr):Ez (Jw f a):=by
 have ok : ∀ x:Arr,Ez (x,0):=fun x h=>absurd rfl h
 unfold Jw
 refine Bb (ok _) (Bb (ok _) (Bb (ok _) (Bb (ok _) (Bb (ok _) (Bb (ok _) ?_)))))
 refine Bb (AeM a) (Bb (ok _) (Bb (ok _) (Bb (ok _) (Bb (ok _) (Bb (ok _) ?_)))))
 refine Bb (fun h=>AfW h) (Bb (AeQ a) (Bb (fun h=>Ao0 h) (Bb (AoH a) (Bb (RU a _) (Bb (RU a _) (Ao6 f a))))))
theorem AlE(n a:Arr):Ez (Il n a):=by
 unfold Il
 split
 · split
   · exact fun h=>absurd rfl h
   · exact fun _=>rfl
 · exact fun _=>rfl
theorem OM(a b:Arr)(f:Bool):Ez (Hc a b f):=by
 unfold Hc
 split
 · split
   · exact fun _=>rfl
   · exact fun h=>absurd rfl h
 · exact fun _=>rfl
theorem AaA(n a:Arr)(f:Bool):Ez (Hr n a f):=by
 unfold Hr
 split
 · exact fun _=>rfl
 split
 · exact fun _=>rfl
 split
 · exact fun h=>absurd rfl h
 · exact fun h=>absurd rfl h
theorem AiY(n a:Arr):Ez (Gj n a):=by
 unfold Gj
 split
 · exact fun _=>rfl
 split
 · exact fun _=>rfl
 split
 · exact fun _=>rfl
 · exact fun h=>absurd rfl h
theorem PC(n a:Arr)(s f z:List Int):Ez (Fl n a s f z):=by
 unfold Fl
 split
 · exact fun h=>absurd rfl h
 · exact fun _=>rfl
theorem AnA(n a:Arr):Ez (Is n a):=by
 unfold Is
 split
 · exact PC _ _ _ _ _
 · exact fun _=>rfl
theorem AeB(n a:Arr):Ez (H3 n a):=by
 unfold H3
 split
 · exact PC _ _ _ _ _
 · exact fun _=>rfl
theorem AfL(n a:Arr):Ez (Gv n a):=by
 unfold Gv
 split
 · exact fun _=>rfl
 split
 · exact fun _=>rfl
 split
 · exact fun _=>rfl
 split
 · exact fun _=>rfl
 · exact fun h=>absurd rfl h
theorem AfO(n a:Arr):Ez (Ia n a):=by
 unfold Ia
 split
 · exact fun h=>absurd rfl h
 · exact fun _=>rfl
theorem Aok(f:Int)(a b:Arr):Ez (J3 8 f a b):=fun h=>Aon h
theorem Aor(f:Int)(a b:Arr)(hb:Am 8 b=true):Ez (Ht f a b):=by
 have ok : ∀ x:Arr,Ez (x,0):=fun x h=>absurd rfl h
 unfold Ht
 refine Bb (AlE a b) (Bb (OM a b _) (Bb (OM a b _) (Bb (AaA a b _) (Bb (AaA a b _) (Bb (AiY a b) (Bb (AnA a b) (Bb (AeB a b) (Bb (AfL a b) (Bb (ok _) (Bb (ok _) ?_))))))))))
 unfold Mt
 refine Bb (ok _) (Bb (ok _) (Bb (AfO a b) (Bb (ok _) (Bb (fun h=>Aox h) (Bb (fun h=>AbX h) (Bb (fun h=>AbX h) ?_))))))
 exact Bb (AX hb).2 (Bb (AX hb).2 (Bb (Wm hb).2 (Bb (Wm hb).2 (Aok f a b))))
theorem AbF{r:Arr×Int}(h1:U8 r)(h2:Ez r):Sml 10 r.1:=by
 by_cases h:r.2=0
 · exact h1 h
 · rw[h2 h]
   exact Sml.of (d:=9) (a:= .none) (by decide) (by decide) (fun x hx=>by cases hx) (fun c hc=>by cases hc)
theorem AgP(x:Arr):Kq x (Ai x)=true:=by
 unfold Kq
 rw[Wi]
 exact Mh.2 rfl
theorem Ajq(f:Int)(a b:Arr)(_hf : -9223372036854775808≤f∧f≤9223372036854775807)(ha:Fits a)(hb:Fits b):Sp 6 [.int f,dA a,dA b] [.bool true]:=by
 obtain ⟨b1,h1,s1⟩:=TC a ha
 obtain ⟨b2,h2,s2⟩:=TC b hb
 refine Af 0 (Agv _ _ _ _) (Aa s1 (Cl (fun _=>EK) (fun e1=>Aa s2 (Cl (fun _=>EK) (fun e2=> ?_)))))
 obtain ⟨g1,x1⟩:=h1 (by simpa using e1)
 obtain ⟨g2,x2⟩:=h2 (by simpa using e2)
 have k1:=Aa8 8 a g1
 have k2:=Aa8 8 b g2
 have r1:=XN f a g1
 have r2:=XN f (Ai a) k1
 have r3:=JP f a b g1 g2 (fun _=>x2)
 have r4:=JP f (Ai a) (Ai b) k1 k2 (fun _=>AeY x2)
 have y1:=AI a (Cd g1)
 have y2:=AI b (Cd g2)
 have m1:=AbF (Aiv f a g1) (Aiu f a)
 have m2:=AbF (Aos f a b g1 g2) (Aor f a b g2)
 rw[Ait f a]at r2
 rw[Aoq f a b]at r4
 generalize Jw f a=u1 at *
 generalize Ht f a b=u3 at *
 have w1:Sml 10 (Ai u1.1):=AV m1
 have w2:Sml 10 (Ai u3.1):=AV m2
 have t1:=ZQ u1.1 (Ai u1.1) m1 w1
 have t2:=ZQ u3.1 (Ai u3.1) m2 w2
 rw[AgP]at t1 t2
 have p1:=ZZ (Ai u1.1) w1.fits
 have p2:=ZZ (Ai u3.1) w2.fits
 rw[Fv]at p1 p2
 simp only[Ao]
 refine Aa r1 (Aa y1 (Aa r2 (Aa r3 (Aa y1 (Aa y2 (Aa r4 ?_))))))
 refine Bi (by simp) (Bi (by simp) (Aa t1 (Bi rfl (Aa t2 (Bi rfl (Aa p1 (Bi rfl (Aa p2 (Bi rfl EK)))))))))
end Go.Proofs.YtokkbgpgaheakaaGreat
