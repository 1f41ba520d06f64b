/- Proved: lemmas for the law of this folder, part 8. No condition. -/
import Derived.Test.YtokkbgpgaheakaaGreatRows
import Derived.WalkKit
import Derived.WalkSpells
import Derived.WalkLawsBesides
import Derived.Lib.Hide
import Derived.Laws.CopyOwn
import Derived.Deep.QuietTactic
import Derived.BigQuiet
import Derived.Orders
import Derived.Defers
import Derived.Recover
import Derived.Test.YtokkbgpgaheakaaGreatProg
import Derived.KernelRfl
import Derived.ProofKit
import Derived.OpenShut
import Derived.Maps.OwnRows
import Derived.Maps.Views
import Derived.Deep.RegionHeld3
import Derived.Deep.AppendLies
import Derived.Test.YtokkbgpgaheakaaGreatZa2652342
set_option linter.unusedSimpArgs false
set_option linter.unusedVariables false
set_option maxRecDepth 100000
open Array renaming getElem?_eq_getElem → Apy, getElem?_eq_some_iff → Aqa, getD_eq_getD_getElem? → Aqf
open BitVec renaming ofNat → Apw
open Bool renaming and_eq_true → Api
open Classical renaming not_not → Apm
open Int renaming toNat → Apa, toNat_natCast → Apj, fdiv → Ap3
open Go.IntKind renaming wrap → Aom, bits → Apl
open List renaming getElem?_eq_getElem → Apb, replicate → Apc, length_map → Apd, getD_eq_getElem?_getD → Ape, getElem?_eq_some_iff → Apf, length_cons → Apg, mem_of_getElem? → Aph, length_append → Apn, length_drop → App, length_take → Apr, getElem?_map → Aps, mem_cons → Apt, length_nil → Apv, append_nil → Apx, append_assoc → Apz, getElem?_append_left → Ap0, drop_eq_getElem_cons → Ap1, length_eq_zero_iff → Ap2, take_append_drop → Ap5, map_cons → Ap7, range → Ap8, take_of_length_le → Ap_, getElem_mem → Aqc, getElem?_append_right → Aqe, length_replicate → Aqg, mem_append → Aqh, length → Aql, all_eq_true → Aqm, nil_append → Aqp
open Nat renaming le_refl → Apo, mul_le_mul_right → Apu, mod_lt → Ap4, mod_eq_of_lt → Ap6, mul_comm → Ap9, lt_of_lt_of_le → Aqb, div_div_eq_div_mul → Aqd, pow_succ → Aqj, div_lt_iff_lt_mul → Aqk, lt_or_ge → Aqn, zero_add → Aqo
open Option renaming map_eq_some_iff → Apq, bind_eq_some_iff → Aqi
open Option.some renaming injEq → Apk
namespace Go.Proofs.YtokkbgpgaheakaaGreat
def JK:List Int:=[43,45,215,247,8968,8970,124,126,33,9076,44,9066,9021,8854,9033,8834,8835,8801,8802,9075,8714,8746,9080,9035,9042,8866,8867]
def MU:List Int:=[43,45,215,247,8968,8970,124,42,60,8804,61,8805,62,8800,8743,8744,9076,44,9066,9021,8854,9033,8593,8595,8835,8801,8802,9075,8714,8746,8745,126,8866,8867,47,9023,92,9024]
theorem NY(l:List Int)(f:Int):l.any (fun x=>decide (x=f))=decide (f∈l):=by
 rw[Bool.eq_iff_iff,List.any_eq_true,decide_eq_true_iff]
 exact ⟨fun ⟨x,hx,hp⟩=>by rw[← of_decide_eq_true hp];exact hx,fun h=>⟨f,h,decide_eq_true rfl⟩⟩
theorem Ajf:Sp 28 [] [dI JK]:=Af 0 (Ajg _) (Ac rfl)
theorem Aji:Sp 29 [] [dI MU]:=Af 0 (Ajj _) (Ac rfl)
theorem XX(f:Int)(two:Bool):Sp 26 [.int f,.bool two] [.bool (decide (f∈if two then MU else JK))]:=by
 refine Af 0 (Ajd _ _ _) ?_
 simp only[Ba,Ao]
 cases two with
 | true=>exact Bo rfl (Aa Aji (Aa (LZ MU f (by decide)) (Ac (by rw[NY];rfl))))
 | false=>exact Ej rfl (Aa Ajf (Aa (LZ JK f (by decide)) (Ac (by rw[NY];rfl))))
theorem Agd : ∀ (d:Nat) (a:Arr),Aj d a=true→∃ b,(b=true→ExpOk a)∧Sp 31 [dA a] [.bool b]:=by
 suffices key : ∀ (d:Nat) (a:Arr),(∀ e x,d=e+1→Aj e x=true→∃ b,(b=true→ExpOk x)∧Sp 31 [dA x] [.bool b])→Aj d a=true→∃ b,(b=true→ExpOk a)∧Sp 31 [dA a] [.bool b] by
  intro d
  induction d with
  | zero=>intro a;exact key 0 a (fun e x he=>by omega)
  | succ d ihd=>intro a;exact key (d+1) a (fun e x he=>by
         have:e=d:=by omega
         subst this;exact ihd x)
 intro d a ih hr
 have hs:=Cf hr
 have hl:=hs.2.1
 have hcs:=(Ce hr).2
 suffices hh:Tells (Px (a.cells.length+3) (a.cells.length+3) 0 (dA a)) (fun b=>b=true→∀ c∈a.cells,L9 c) by
  have hh2:Tells (.br (decide (60<(((dA a).fld 2).els.length:Int))) (.ret [D.bool false]) (Px (a.cells.length+3) (a.cells.length+3) 0 (dA a))) (fun b=>b=true→∀ c∈a.cells,L9 c):=Tells.decs (fun _=>Tells.ret (fun h=>by cases h)) (fun _=>hh)
  obtain ⟨b,h1,h2⟩:=hh2
  refine ⟨b,fun hb=> ?_,Af (a.cells.length+3) (Agg _ _) h1⟩
  have h3:=h2 hb
  cases a with
  | mk s sh cs=>exact .mk (fun c hc=>(h3 c hc).1) (fun c hc=>(h3 c hc).2)
 suffices hh : ∀ m k,k≤a.cells.length→a.cells.length<k+m→Tells (Px (a.cells.length+3) m (k:Int) (dA a)) (fun b=>b=true→∀ c∈a.cells.drop k,L9 c) from hh (a.cells.length+3) 0 (by omega) (by omega)
 intro m
 induction m with
 | zero=>intro k _ _;omega
 | succ m ihm =>
  intro k hk hm
  simp only[Agf,Ai]
  refine Tells.decs (fun hlt=>Tells.dec (by omega) (Tells.dec (by omega) ?_)) (fun hge=>Tells.ret (fun _ c hc=> ?_))
  · have hlt':k<a.cells.length:=by omega
    have h2:a.cells[k]? = some a.cells[k]:=Apb hlt'
    have hdr:a.cells.drop k=a.cells[k]::a.cells.drop (k+1):=Ap1 hlt'
    generalize a.cells[k]=c at h2 hdr
    have hc:=hcs c (Aph h2)
    have hcl:=Tu hc
    have hin : ∀ r j,j≤c.inn.length→c.inn.length<j+r→Tells (Pw (a.cells.length+3) m r (k:Int) (j:Int) (dA a) (dC c)) (fun b=>b=true→(∀ x∈c.inn.drop j,ExpOk x)∧∀ c∈a.cells.drop (k+1),L9 c):=by
     intro r
     induction r with
     | zero=>intro j _ _;omega
     | succ r ihr =>
      intro j hj hm'
      simp only[Age,Ai,FX]
      refine Tells.decs (fun hlt2=>Tells.dec (by omega) (Tells.dec (by omega) ?_)) (fun hge=> ?_)
      · have hlt3:j<c.inn.length:=by omega
        have h3:c.inn[j]? = some c.inn[j]:=Apb hlt3
        have hdr3:c.inn.drop j=c.inn[j]::c.inn.drop (j+1):=Ap1 hlt3
        generalize c.inn[j]=x at h3 hdr3
        obtain ⟨e,g1,g2⟩:=Al3 hc x (Aph h3)
        obtain ⟨b,hb1,hb⟩:=ih e x g1 g2
        simp only[Aw h3,Bh j]
        refine Tells.call hb ?_
        simp only[Ah,Ba]
        refine Tells.br (fun _=>Tells.ret (fun h=>by cases h)) (fun hnb=>(ihr (j+1) (by omega) (by omega)).mono (fun b' hb' ht=> ?_))
        obtain ⟨q1,q2⟩:=hb' ht
        refine ⟨fun y hy=> ?_,q2⟩
        rw[hdr3]at hy
        rcases Apt.1 hy with rfl | hy
        · exact hb1 (by simpa using hnb)
        · exact q1 y hy
      · rw[Bh k]
        refine (ihm (k+1) (by omega) (by omega)).mono (fun b' hb' ht=>⟨fun x hx=> ?_,hb' ht⟩)
        rw[List.drop_eq_nil_of_le (by omega)]at hx;cases hx
    have hin':=hin (a.cells.length+3) 0 (by omega) (by omega)
    simp only[Aw h2,Ai]
    refine Tells.call (AkF c.n (by omega)) ?_
    rw[show ((0:Nat):Int)=0 from rfl]at hin'
    generalize Pw (a.cells.length+3) m (a.cells.length+3) (k:Int) 0 (dA a) (dC c)=T at hin' ⊢
    have fin:(∀ k,Dw c.n=some k→ -300≤k∧k≤300)→Tells T (fun b=>b=true→∀ c∈a.cells.drop k,L9 c):=fun hk=>hin'.mono (fun b hb ht=>by
     obtain ⟨q1,q2⟩:=hb ht
     rw[hdr]
     intro y hy
     rcases Apt.1 hy with rfl | hy
     · exact ⟨hk,q1⟩
     · exact q2 y hy)
    refine Tells.br (fun _=>Tells.ret (fun h=>by cases h)) (fun _=>Tells.br (fun _=>Tells.ret (fun h=>by cases h)) (fun _=> ?_))
    cases hsm:Dw c.n with
    | none =>
     rw[hsm]at fin
     simp only[Mr,Ah,C1,Ba,Ao]
     exact Tells.br (fun h=>by cases h) (fun _=>fin (fun k h=>by cases h))
    | some z =>
     rw[hsm]at fin
     simp only[Mr,Ah,C1,Ba,Ao]
     refine Tells.br (fun _=>Tells.decs (fun _=>Tells.ret (fun h=>by cases h)) (fun g1=>Tells.decs (fun _=>Tells.ret (fun h=>by cases h)) (fun g2=>fin (fun k h=> ?_)))) (fun h=>by cases h)
     injection h with h;subst h;omega
  · rw[List.drop_eq_nil_of_le (by omega)]at hc;cases hc
theorem Xp(a:Arr)(ha:Fits a) : ∃ b,(b=true→Aj 8 a=true∧ExpOk a)∧Sp 8 [dA a] [.bool b]:=by
 cases hg:W4 a with
 | false =>
  refine ⟨false,(fun h=>by cases h),Af 0 (TO _ _) (Aa (ZS a ha) ?_)⟩
  rw[hg]
  exact Ej rfl (Ac rfl)
 | true =>
  have hr:Aj 8 a=true:=by
   unfold W4 at hg
   simp only[Api]at hg
   exact hg.1.2
  obtain ⟨b,h1,h2⟩:=Agd 8 a hr
  refine ⟨b,fun hb=>⟨hr,h1 hb⟩,Af 0 (TO _ _) (Aa (ZS a ha) ?_)⟩
  rw[hg]
  exact Bo rfl (Aa h2 (Ac rfl))
theorem Lh{z:Int}(h1 : -100000≤z:=by decide)(h2:z≤100000:=by decide):Bd z:=Dk (by omega) (by omega)
theorem NW{k:Int}(h:Bd k):Aj 8 (Do k 0)=true:=H4 (by simp[Do];decide) (fun c hc=>by simp[Do]at hc;subst hc;exact Jp 8 h)
theorem Aoj:Aj 8 (Db [5,6,7] 0)=true:=H4 (by simp[Db];decide) (fun c hc=>by
 simp[Db]at hc
 rcases hc with rfl | rfl | rfl
 · exact Jp 8 Lh
 · exact Jp 8 Lh
 · exact Jp 8 Lh)
theorem Ad2:H9 8835 (Do 2 0) (Db [5,6,7] 0)=(Do 6 0,0):=by
 have e:H9 8835 (Do 2 0) (Db [5,6,7] 0)=Ga (Do 2 0) (Db [5,6,7] 0):=by
  unfold H9
  rw[if_neg (by decide),if_neg (by decide),if_neg (by decide),if_neg (by decide),if_neg (by decide),if_neg (by decide),if_neg (by decide),if_neg (by decide),if_pos rfl]
 rw[e]
 unfold Ga
 rw[AfK Lh,An2]
 rw[if_neg (by decide),if_neg (by decide),if_neg (by simp[Db]),if_neg (by simp[Db])]
 rfl
theorem Agi:Sp 9 [] [.bool true]:=by
 refine Af 0 (Agj _) ?_
 have t:=JY 8835 (Do 2 0) (Db [5,6,7] 0) (NW Lh) Aoj (fun h=>by cases h)
 rw[Ad2]at t
 refine Aa (Aaj 2 0 Lh) (Aa (Alk [5,6,7] 0 (by decide) (fun x hx=>by simp at hx;rcases hx with rfl | rfl | rfl <;> exact Lh)) (Aa t ?_))
 have hsame:=Ala (Do 6 0) (Cf (NW Lh)).fits (Do 6 0)
 rw[Mf.2 rfl]at hsame
 refine Bo rfl (Aa (Aaj 6 0 Lh) (Aa hsame (Bo rfl ?_)))
 have h1:=XX 9076 false
 rw[decide_eq_true (by decide)]at h1
 have h2:=XX 42 false
 rw[decide_eq_false (by decide)]at h2
 exact Aa h1 (Bo rfl (Aa h2 (Ac rfl)))
theorem K_:Tw (.call 9 [] [] fun y=> .ret [D.bool ((qA y).toBool)]) [.bool true]:=Aa Agi (Ac rfl)
section
variable {o:Al} {a b n m:Arr}
theorem AeW(h:a.cells.map (Bc o)=b.cells.map (Bc o)):Bc o (Cl a)=Bc o (Cl b):=by
 unfold Cl
 match ha:a.cells,hb:b.cells with
 | [],[]=>rfl
 | [],c::cs=>rw[ha,hb]at h;simp at h
 | c::cs,[]=>rw[ha,hb]at h;simp at h
 | c::cs,d::ds =>
  rw[ha,hb]at h
  simp only[Ap7,List.cons.injEq]at h
  show Bc o (if c.kind=1 then _ else _)=Bc o (if d.kind=1 then _ else _)
  rcases K7 h.1 with ⟨h1,h2⟩ | ⟨_,_,h3,h4,_⟩
  · refine Nf ?_ ?_
    · split <;> exact h1
    · split <;> exact h2
  · rw[h3,h4]
theorem Ag6{α β:Type}{f:α→β}{l m:List α}(h:l.map f=m.map f)(i:Nat){z w:α}(hz:f z=f w):f (l.getD i z)=f (m.getD i w):=by
 have hi:(l.map f)[i]? = (m.map f)[i]? := by rw[h]
 simp only[Aps]at hi
 rw[Ape,Ape]
 cases h1:l[i]? <;> cases h2:m[i]? <;> rw[h1,h2]at hi <;> simp at hi ⊢
 · exact hz
 · exact hi
theorem Acn{x y:Arr}(hx:x.s=a.s|||Au n)(hy:y.s=b.s|||Au m)(h':Ag o n=Ag o m)(h:Ag o a=Ag o b)(hv:n=m→a.shape=b.shape→Ag o x=Ag o y):Ag o x=Ag o y:=by
 rcases Ic h' with rfl | ⟨h3,h4⟩
 · rcases Ea h with ⟨h1,h2⟩ | ⟨_,_,_,h4,_⟩
   · exact C0 (by rw[hx,Cj,h1];rfl) (by rw[hy,Cj,h2];rfl)
   · exact hv rfl h4
 · exact C0 (by rw[hx,Cj,h3,Bool.and_false]) (by rw[hy,Cj,h4,Bool.and_false])
theorem AaN{s:List Nat}{x:Nat}{fr:List Int}{t:Al}(h:(Cz a s x fr t).2=0):(Cz a s x fr t).1.s=a.s|||t:=by
 unfold Cz at h ⊢
 split at h
 · rename_i g;exact absurd h g
 · rename_i g;rw[if_neg g];rfl
theorem AaF{s:List Nat}{x:Nat}{fr:List Int}{t:Al}(h:Ag o a=Ag o b)(e1:(Cz a s x fr t).2=0):Ag o (Cz a s x fr t).1=Ag o (Cz b s x fr t).1:=by
 unfold Cz at e1 ⊢
 split at e1
 · rename_i g;exact absurd e1 g
 · rename_i g
   rw[if_neg g,if_neg g]
   rcases Ea h with ⟨h1,h2⟩ | ⟨_,_,h3,_,h5⟩
   · exact C0 (by show Ay (a.s|||t) o=false;rw[Cj,h1];rfl) (by show Ay (b.s|||t) o=false;rw[Cj,h2];rfl)
   · refine F9 (by show a.s|||t=b.s|||t;rw[h3]) rfl ?_
     simp only[Arr.cells_mk,List.map_map]
     refine List.map_congr_left (fun j _=> ?_)
     show Bc o (Ms a _ _ fr j)=Bc o (Ms b _ _ fr j)
     unfold Ms
     split
     · exact AeW h5
     · exact Ag6 h5 _ rfl
theorem NN(h:a.shape=b.shape):aN a=aN b:=by unfold aN;rw[h]
theorem OP(h:a.shape=b.shape)(f:Bool):Av a f=Av b f:=by unfold Av;rw[h]
theorem Aar{f:Bool}(h:(Fr n a f).2=0):(Fr n a f).1.s=a.s|||Au n:=by
 unfold Fr at h ⊢
 split at h
 · rename_i g;exact absurd h g
 rename_i g1
 rw[if_neg g1]
 split at h
 · cases h
 rename_i g2
 rw[if_neg g2]
 split at h
 · cases h
 rename_i g3
 rw[if_neg g3]
 cases hf:Fa ((aN a).getD (Av a f) 0 == 1) (lS n ((aN a).getD (Av a f) 0)) 0 []with
 | none=>rw[hf]at h;cases h
 | some fr=>rw[hf]at h;exact AaN h
theorem Aao{f:Bool}(h':Ag o n=Ag o m)(h:Ag o a=Ag o b)(e1:(Fr n a f).2=0)(e2:(Fr m b f).2=0):Ag o (Fr n a f).1=Ag o (Fr m b f).1:=by
 refine Acn (Aar e1) (Aar e2) h' h (fun e hs=> ?_)
 subst e
 unfold Fr at e1 e2 ⊢
 rw[← NN hs,← OP hs]at e2 ⊢
 split at e1
 · rename_i g;exact absurd e1 g
 rename_i g1
 rw[if_neg g1,if_neg g1]
 split at e1
 · cases e1
 rename_i g2
 rw[if_neg g2,if_neg g2]
 split at e1
 · cases e1
 rename_i g3
 rw[if_neg g3,if_neg g3]
 cases hf:Fa ((aN a).getD (Av a f) 0 == 1) (lS n ((aN a).getD (Av a f) 0)) 0 []with
 | none=>rfl
 | some fr=>rw[hf]at e1;exact AaF h e1
theorem QS{f:Bool}(h:(Fo n a f).2=0):(Fo n a f).1.s=a.s|||Au n:=by
 unfold Fo at h ⊢
 split at h
 · rename_i g;exact absurd h g
 rename_i g1
 rw[if_neg g1]
 split at h
 · cases h
 rename_i g2
 rw[if_neg g2]
 split at h
 · cases h
 rename_i g3
 rw[if_neg g3]
 exact AaN h
theorem QP{f:Bool}(h':Ag o n=Ag o m)(h:Ag o a=Ag o b)(e1:(Fo n a f).2=0)(e2:(Fo m b f).2=0):Ag o (Fo n a f).1=Ag o (Fo m b f).1:=by
 refine Acn (QS e1) (QS e2) h' h (fun e hs=> ?_)
 subst e
 unfold Fo at e1 e2 ⊢
 rw[← NN hs,← OP hs]at e2 ⊢
 split at e1
 · rename_i g;exact absurd e1 g
 rename_i g1
 rw[if_neg g1,if_neg g1]
 split at e1
 · cases e1
 rename_i g2
 rw[if_neg g2,if_neg g2]
 split at e1
 · cases e1
 rename_i g3
 rw[if_neg g3,if_neg g3]
 exact AaF h e1
theorem Aoo(h:Ag o n=Ag o m)(e1:(Hj n).2=0)(e2:(Hj m).2=0):Ag o (Hj n).1=Ag o (Hj m).1:=by
 have hs : ∀ {x:Arr},(Hj x).2=0→(Hj x).1.s=Au x:=fun {x} h=>by
  unfold Hj at h ⊢
  split at h
  · rename_i g;exact absurd h g
  rename_i g1
  rw[if_neg g1]
  split at h
  · cases h
  rename_i g2
  rw[if_neg g2]
  split at h
  · cases h
  rename_i g3
  rw[if_neg g3];rfl
 rcases Ic h with e | ⟨h1,h2⟩
 · rw[e]
 · exact C0 (by rw[hs e1,h1]) (by rw[hs e2,h2])
end
section
variable {o:Al}
theorem UF{g:Cell→Cell} : ∀ {l m:List Cell},l.map (Bc o)=m.map (Bc o)→(∀ x∈l,∀ y∈m,Bc o x=Bc o y→Bc o (g x)=Bc o (g y))→(l.map g).map (Bc o)=(m.map g).map (Bc o)
 | [],[],_,_=>rfl
 | [],_::_,h,_=>by simp at h
 | _::_,[],h,_=>by simp at h
 | x::xs,y::ys,h,hg=>by
  simp only[Ap7,List.cons.injEq]at h ⊢
  exact ⟨hg x (by simp) y (by simp) h.1,UF h.2 (fun a ha b hb=>hg a (by simp[ha]) b (by simp[hb]))⟩
theorem Acr{f:Int} : ∀ {cs:List Cell},(Da f cs).2=0→(Da f cs).1=cs.map (fun c=>(D9 f c).1)∧∀ c∈cs,(D9 f c).2=0
 | [],_=>by simp[Da]
 | c::cs,h=>by
  rw[Da]at h ⊢
  split at h
  · rename_i h1
    rw[if_pos h1]
    split at h
    · rename_i h2
      obtain ⟨g1,g2⟩:=Acr h2
      rw[if_pos h2]
      refine ⟨by simp[g1],fun y hy=> ?_⟩
      rcases Apt.1 hy with rfl | hy
      · exact h1
      · exact g2 y hy
    · rename_i h2;exact absurd h h2
  · rename_i h1;exact absurd h h1
theorem Acq{f:Int}{a:Arr}(h:(Cq f a).2=0):(Cq f a).1 = .mk a.s a.shape (a.cells.map (fun c=>(D9 f c).1))∧∀ c∈a.cells,(D9 f c).2=0:=by
 rw[DH]at h ⊢
 split at h
 · rename_i h1
   rw[if_pos h1]
   split at h
   · rename_i h2
     obtain ⟨g1,g2⟩:=Acr h2
     rw[if_pos h2,g1]
     exact ⟨rfl,g2⟩
   · rename_i h2;exact absurd h h2
 · cases h
theorem Aod{f:Int}{d:Nat}{x y:Cell}(ih : ∀ e,d=e+1→∀ X Y,Aj e X=true→Aj e Y=true→Ag o X=Ag o Y→(Cq f X).2=0→(Cq f Y).2=0→Ag o (Cq f X).1=Ag o (Cq f Y).1)
   (rx:Bi d x=true) (ry:Bi d y=true) (h:Bc o x=Bc o y) (e1:(D9 f x).2=0) (e2:(D9 f y).2=0):Bc o (D9 f x).1=Bc o (D9 f y).1:=by
 have hl : ∀ z:Cell,(D9 f z).2=0→(D9 f z).1.l=z.l:=fun z hz=>by
   rw[Ou]at hz ⊢
   split
   · rfl
   · split
     · rfl
     · rename_i g1 g2;rw[if_neg g1,if_neg g2]at hz;cases hz
 rcases K7 h with ⟨h1,h2⟩ | ⟨_,_,h3,h4,_,h6,h7⟩
 · exact Nf (by rw[hl x e1];exact h1) (by rw[hl y e2];exact h2)
 · rw[Ou]at e1 e2
   rw[Ou,Ou]
   rw[← h4]at e2 ⊢
   by_cases k0:x.kind=0
   · rw[if_pos k0]at e1 e2 ⊢
     rw[if_pos k0]
     exact Ng h3 rfl rfl (by rw[h6]) rfl
   · rw[if_neg k0]at e1 e2 ⊢
     rw[if_neg k0]
     by_cases k2:x.kind=2
     · rw[if_pos k2]at e1 e2 ⊢
       rw[if_pos k2]
       rcases Kp rx with ⟨g,_⟩ | ⟨g,_⟩ | ⟨_,_,_,X,e,g1,g2,_,g3⟩
       · omega
       · omega
       rcases Kp ry with ⟨g,_⟩ | ⟨g,_⟩ | ⟨_,_,_,Y,e',g4,g5,_,g6⟩
       · omega
       · omega
       have:e'=e:=by omega
       subst this
       rw[g2]at e1 h7 ⊢
       rw[g5]at e2 h7 ⊢
       rw[Nb]at e1 e2 ⊢
       rw[Nb]
       have hXY:Ag o X=Ag o Y:=by simpa using h7
       refine Ng h3 rfl rfl rfl ?_
       simp only[Ap7,List.map_nil,List.cons.injEq,and_true]
       exact ih e' g1 X Y g3 g6 hXY e1 e2
     · rw[if_neg k2]at e1;cases e1
theorem Aob(f:Int) : ∀ (d:Nat) (a b:Arr),Aj d a=true→Aj d b=true→Ag o a=Ag o b→(Cq f a).2=0→(Cq f b).2=0→Ag o (Cq f a).1=Ag o (Cq f b).1:=by
 suffices key : ∀ (d:Nat) (a b:Arr),(∀ e,d=e+1→∀ X Y,Aj e X=true→Aj e Y=true→Ag o X=Ag o Y→(Cq f X).2=0→(Cq f Y).2=0→Ag o (Cq f X).1=Ag o (Cq f Y).1)→Aj d a=true→Aj d b=true→Ag o a=Ag o b→(Cq f a).2=0→(Cq f b).2=0→Ag o (Cq f a).1=Ag o (Cq f b).1 by
  intro d
  induction d with
  | zero=>intro a b;exact key 0 a b (fun e he=>by omega)
  | succ d ihd=>intro a b;exact key (d+1) a b (fun e he=>by
   have:e=d:=by omega
   subst this;exact ihd)
 intro d a b ih ra rb h e1 e2
 obtain ⟨p1,p2⟩:=Acq e1
 obtain ⟨q1,q2⟩:=Acq e2
 rw[p1,q1]
 rcases Ea h with ⟨h1,h2⟩ | ⟨_,_,h3,h4,h5⟩
 · exact C0 h1 h2
 · exact F9 h3 h4 (UF h5 (fun x hx y hy hxy=>Aod ih ((Ce ra).2 x hx) ((Ce rb).2 y hy) hxy (p2 x hx) (q2 y hy)))
theorem MR{g:Nat→Cell×Int} : ∀ {m k:Nat},(Dd g m k).2=0→(Dd g m k).1=(List.range' k m).map (fun i=>(g i).1)∧∀ i,k≤i→i<k+m→(g i).2=0
 | 0,_,_=>by simp[Dd];intro i h1 h2;omega
 | m+1,k,h=>by
  rw[Dd]at h ⊢
  split at h
  · rename_i h1
    rw[if_pos h1]
    split at h
    · rename_i h2
      obtain ⟨g1,g2⟩:=MR h2
      rw[if_pos h2]
      refine ⟨by simp[g1,List.range'_succ],fun i hi hj=> ?_⟩
      rcases Aqn k i with hh | hh
      · exact g2 i hh (by omega)
      · have:i=k:=by omega
        subst this;exact h1
    · rename_i h2;exact absurd h h2
  · rename_i h1;exact absurd h h1
theorem Afz{f:Cell→Cell}{l m:List Cell}(h:l.map f=m.map f)(i:Nat)(z:Cell):f (l.getD i z)=f (m.getD i z):=by
 have hi:(l.map f)[i]? = (m.map f)[i]? := by rw[h]
 simp only[Aps]at hi
 rw[Ape,Ape]
 cases h1:l[i]? <;> cases h2:m[i]? <;> rw[h1,h2]at hi <;> simp at hi ⊢
 exact hi
theorem XE{a b:Arr}(h4:a.shape=b.shape)(h5:a.cells.map (Bc o)=b.cells.map (Bc o))(i:Int):Bc o (Cw a i)=Bc o (Cw b i):=by
 have hl:a.cells.length=b.cells.length:=by have:=congrArg Aql h5;simpa using this
 unfold Cw
 rw[h4,hl]
 generalize (if b.shape = [] then (0:Int) else i)=j
 split
 · rfl
 · exact Afz h5 _ _
theorem DE{r:Arr→Arr→Arr×Int}{f:Int}{x z:Cell} : (Dz r f x z).1.l=x.l|||z.l:=by
 unfold Dz
 split
 · rfl
 · split
   · rfl
   · split
     · rfl
     · split <;> rfl
theorem PJ{d:Nat}{x y:Cell}(rx:Bi d x=true)(ry:Bi d y=true)(h4:x.kind=y.kind)(h5:x.c=y.c)(h6:x.n=y.n)(h7:x.inn.map (Ag o)=y.inn.map (Ag o)):Ag o (E8 x)=Ag o (E8 y):=by
 unfold E8
 by_cases k2:x.kind=2
 · rw[if_pos k2,if_pos (h4▸k2)]
   obtain ⟨X,hX⟩:=FC rx k2
   obtain ⟨Y,hY⟩:=FC ry (h4▸k2)
   rw[hX,hY]at h7 ⊢
   simpa using h7
 · rw[if_neg k2,if_neg (h4▸k2)]
   refine F9 rfl rfl ?_
   simp only[Arr.cells_mk,Ap7,List.map_nil,List.cons.injEq,and_true]
   exact Ng rfl h4 h5 h6 h7
theorem AnQ{r:Arr→Arr→Arr×Int}{f:Int}{d:Nat}{x y z w:Cell}
   (ih : ∀ e,d=e+1→∀ X Y Z W,Aj e X=true→Aj e Y=true→Aj e Z=true→Aj e W=true→Ag o X=Ag o Y→Ag o Z=Ag o W→(r X Z).2=0→(r Y W).2=0→Ag o (r X Z).1=Ag o (r Y W).1)
   (rx:Bi d x=true) (ry:Bi d y=true) (rz:Bi d z=true) (rw':Bi d w=true) (h:Bc o x=Bc o y) (h':Bc o z=Bc o w) (e1:(Dz r f x z).2=0) (e2:(Dz r f y w).2=0):Bc o (Dz r f x z).1=Bc o (Dz r f y w).1:=by
 rcases K7 h with ⟨h1,h2⟩ | ⟨v1,v2,h3,h4,h5,h6,h7⟩
 · exact Nf (by rw[DE,Cj,h1];rfl) (by rw[DE,Cj,h2];rfl)
 rcases K7 h' with ⟨h1,h2⟩ | ⟨_,_,g3,g4,g5,g6,g7⟩
 · exact Nf (by rw[DE,Cj,h1,Bool.and_false]) (by rw[DE,Cj,h2,Bool.and_false])
 unfold Dz at e1 e2 ⊢
 rw[← h4,← g4]at e2 ⊢
 by_cases k1:x.kind=2∨z.kind=2
 · rw[if_pos k1]at e1 e2 ⊢
   rw[if_pos k1]
   cases d with
   | zero=>rcases k1 with k1 | k1;exact absurd k1 (Qe rx);exact absurd k1 (Qe rz)
   | succ e =>
    refine Ng (by show x.l|||z.l=y.l|||w.l;rw[h3,g3]) rfl rfl rfl ?_
    simp only[Ap7,List.map_nil,List.cons.injEq,and_true]
    exact ih e rfl _ _ _ _ (Mb rx).1 (Mb ry).1 (Mb rz).1 (Mb rw').1 (PJ rx ry h4 h5 h6 h7) (PJ rz rw' g4 g5 g6 g7) e1 e2
 · rw[if_neg k1]at e1 e2 ⊢
   rw[if_neg k1,h3,g3,h4,g4,h5,g5,h6,g6]
theorem Acl{r:Arr→Arr→Arr×Int}{f:Int}{d:Nat}{a b c e:Arr}
  (ih : ∀ e,d=e+1→∀ X Y Z W,Aj e X=true→Aj e Y=true→Aj e Z=true→Aj e W=true→Ag o X=Ag o Y→Ag o Z=Ag o W→(r X Z).2=0→(r Y W).2=0→Ag o (r X Z).1=Ag o (r Y W).1)
  (ra:Aj d a=true) (rb:Aj d b=true) (rc:Aj d c=true) (re:Aj d e=true) (h:Ag o a=Ag o b) (h':Ag o c=Ag o e) (e1:(Fg r f a c).2=0) (e2:(Fg r f b e).2=0):Ag o (Fg r f a c).1=Ag o (Fg r f b e).1:=by
 obtain ⟨_,p2,p3,p4⟩:=MT e1
 obtain ⟨_,q2,q3,q4⟩:=MT e2
 rw[p4,q4]
 rcases Ea h with ⟨h1,h2⟩ | ⟨_,_,h3,h4,h5⟩
 · exact C0 (by show Ay (a.s|||c.s) o=false;rw[Cj,h1];rfl) (by show Ay (b.s|||e.s) o=false;rw[Cj,h2];rfl)
 rcases Ea h' with ⟨h1,h2⟩ | ⟨_,_,g3,g4,g5⟩
 · exact C0 (by show Ay (a.s|||c.s) o=false;rw[Cj,h1,Bool.and_false]) (by show Ay (b.s|||e.s) o=false;rw[Cj,h2,Bool.and_false])
 have hl:a.cells.length=b.cells.length:=by have:=congrArg Aql h5;simpa using this
 have gl:c.cells.length=e.cells.length:=by have:=congrArg Aql g5;simpa using this
 have hcf:(Dv a c)=(Dv b e):=by unfold Dv;rw[h4,g4]
 have hcn:C3 a c=C3 b e:=by unfold C3;rw[h4,hl,gl]
 refine F9 (by show a.s|||c.s=b.s|||e.s;rw[h3,g3]) (by show (Dv a c).1=(Dv b e).1;rw[hcf]) ?_
 obtain ⟨m1,m2⟩:=MR p3
 obtain ⟨n1,n2⟩:=MR q3
 simp only[Arr.cells_mk]
 rw[m1,n1,hcn,List.map_map,List.map_map]
 refine List.map_congr_left (fun i hi=> ?_)
 have hi':i<C3 a c:=by rw[hcn];have:=(List.mem_range'_1.1 hi).2;omega
 obtain ⟨r1,r2⟩:=Zh ra rc p2 (i:=i) hi'
 obtain ⟨r3,r4⟩:=Zh rb re q2 (i:=i) (by omega)
 exact AnQ ih ((Ce ra).2 _ r1) ((Ce rb).2 _ r3) ((Ce rc).2 _ r2) ((Ce re).2 _ r4) (XE h4 h5 i) (XE g4 g5 i) (m2 i (by omega) (by omega)) (n2 i (by omega) (by omega))
theorem Aci(f:Int) : ∀ (d:Nat) (a b c e:Arr),Aj d a=true→Aj d b=true→Aj d c=true→Aj d e=true→Ag o a=Ag o b→Ag o c=Ag o e→(Jt d f a c).2=0→(Jt d f b e).2=0→Ag o (Jt d f a c).1=Ag o (Jt d f b e).1
 | 0,a,b,c,e,ra,rb,rc,re,h,h',e1,e2=>Acl (fun e he=>by omega) ra rb rc re h h' e1 e2
 | d+1,a,b,c,e,ra,rb,rc,re,h,h',e1,e2=>Acl (fun k he=>by
  have:k=d:=by omega
  subst this
  exact fun X Y Z W=>Aci f k X Y Z W) ra rb rc re h h' e1 e2
end
theorem Ue{sh:List Int}(h : ∀ x∈sh,0≤x∧x≤5000) : ∀ x∈sh,Bd x:=fun x hx=>Dk (by have:=h x hx;omega) (by have:=h x hx;omega)
theorem AmX{d:Nat}{a:Arr}(h:Sml (d+1) a)(i:Nat):SmlC d (a.cells.getD i (Bf 0)):=by
 rw[Ape]
 cases hg:a.cells[i]? with
 | none=>exact Ku Iq d
 | some c=>exact h.cell c (Aph hg)
theorem X9{a:Arr}(h:Aj 8 a=true){s:List Int}(hs:s.length≤100∧∀ x∈s,0≤x∧x≤5000)(g:List Int→List Int):Sml 9 (Gr a s g):=by
 have hl:=(Dj h).1
 refine Sml.of (by show s.length≤_;omega) (by simp only[Gr,Arr.cells_mk,Apd,List.length_range];omega) (Ue hs.2) (fun c hc=> ?_)
 simp only[Gr,Arr.cells_mk,List.mem_map]at hc
 obtain ⟨i,_,rfl⟩:=hc
 exact AmX (Cf h) _
theorem M_{a:Arr}(h:Aj 8 a=true):a.shape.length≤100∧∀ x∈a.shape,0≤x∧x≤5000:=by
 obtain ⟨_,h2,h3⟩:=Dj h
 exact ⟨by omega,fun x hx=>by have:=h3 x hx;omega⟩
theorem Zo{a:Arr}{l:Al}(h:Aj 8 a=true):Aj 8 (C2 a l)=true:=LF h
theorem Aa5{a:Arr}{f:Bool}(h:Aj 8 a=true):Sml 9 (Jo a f):=by
 unfold Jo
 split
 · exact Cf h
 · exact X9 h (M_ h) _
theorem An5{a:Arr}(h:Aj 8 a=true):Sml 9 (Oo a):=X9 h ⟨by rw[List.length_reverse];exact (M_ h).1,fun x hx=>(M_ h).2 x (List.mem_reverse.1 hx)⟩ _
theorem Ano{a:Arr}(h:Aj 8 a=true):Sml 9 (Lv a):=by
 have hs:=M_ h
 refine Sml.of ?_ (Cf h).2.1 (Ue (fun x hx=> ?_)) (Cf h).2.2.2
 · simp only[Lv,Arr.shape_mk];split <;> simp
 · simp only[Lv,Arr.shape_mk]at hx
   split at hx
   · rename_i g
     simp only[Apt,List.not_mem_nil,or_false]at hx
     rcases hx with rfl | rfl
     · rw[Ape,Apb g];exact hs.2 _ (Aqc g)
     · have:=Mu (a.shape.drop 1) 1 (fun y hy=>by obtain ⟨_,_,q⟩:=Dj h;exact q y (List.mem_of_mem_drop hy)) (by decide) (by decide)
       omega
   · simp only[Apt,List.not_mem_nil,or_false]at hx
     rcases hx with rfl | rfl <;> decide
theorem Ams{a:Arr}(h:Aj 8 a=true):Sml 1 (M9 a):=by
 have hs:=M_ h
 exact CU (by omega) (Ue hs.2)
theorem AjR{a:Arr}(h:Aj 8 a=true):Sml 9 (Od a):=by
 have s1:=Cf h
 have hl:=(Dj h).1
 exact ⟨by simp[Od],s1.2.1,by simp only[Od,Arr.shape_mk,List.mem_singleton];rintro x rfl;exact Dk (by omega) (by omega),s1.2.2.2⟩
theorem Ant{a:Arr}(h:Aj 8 a=true):Sml 1 (On a):=by
 refine ME ?_
 have hs:=M_ h
 match hh:a.shape with
 | []=>exact Dk (by decide) (by decide)
 | x::xs=>exact Ue hs.2 x (by rw[hh];simp)
theorem Ae0{a:Arr}(h:Aj 8 a=true):Sml 1 (Sy a):=by
 have:=V8 (Cf h)
 exact ME (Dk (by omega) (by omega))
theorem UL{a b:Arr}{s:Bool} : Sml 1 (Mn a b s):=ME (by split <;> exact Dk (by decide) (by decide))
theorem Aop{n:Arr}(h:Aj 8 n=true)(h0:(Hj n).2=0):Sml 1 (Hj n).1:=by
 have hl:(A9 n).1.length≤2048:=by
  have:=(Dj h).1
  have:=AfJ n
  omega
 unfold Hj at h0 ⊢
 split at h0
 · rename_i g;exact absurd h0 g
 rename_i g1
 rw[if_neg g1]
 split at h0
 · cases h0
 rename_i g2
 rw[if_neg g2]
 split at h0
 · cases h0
 rename_i g3
 rw[if_neg g3]
 have:=(Zj (A9 n).1 0).1
 exact CU (by simp[Q9];omega) (Aog hl)
theorem SE{a:Arr}{dn:Bool}(h:Aj 8 a=true)(h0:(Jf a dn).2=0):Sml 1 (Jf a dn).1:=by
 have hl:=(Dj h).1
 unfold Jf at h0 ⊢
 split
 · refine CU (by simp only[Apd,WK];omega) (fun x hx=> ?_)
   obtain ⟨i,hi,rfl⟩:=List.mem_map.1 hx
   have:=JS.1 hi
   exact Dk (by omega) (by omega)
 · rename_i g;rw[if_neg g]at h0;cases h0
abbrev ED(r:Arr×Int):Prop:=r.2=0→Sml 10 r.1
theorem Cr{c:Prop} [Decidable c] {P:Arr×Int→Prop}{x y:Arr×Int}(h1:P x)(h2:P y):P (if c then x else y):=by split;exact h1;exact h2
theorem Aii(f:Int)(a:Arr)(h:Aj 8 a=true):ED (Kj f a):=by
 have s:=Cf h
 have hl:=(Dj h).1
 unfold Kj
 refine Cr (fun _=>(Ams h).mono (by omega)) ?_
 refine Cr (fun _=>(AjR h).mono (by omega)) ?_
 refine Cr (fun _=>(Ano h).mono (by omega)) ?_
 refine Cr (fun _=>(Aa5 h).mono (by omega)) ?_
 refine Cr (fun _=>(Aa5 h).mono (by omega)) ?_
 refine Cr (fun _=>(An5 h).mono (by omega)) ?_
 refine Cr (fun _=>AeD s) ?_
 refine Cr (fun _=>(Cf (Afq h)).mono (by omega)) ?_
 refine Cr (fun _=>(Ae0 h).mono (by omega)) ?_
 refine Cr (fun _=>(Ant h).mono (by omega)) ?_
 refine Cr (fun _=>s.mono (by omega)) ?_
 refine Cr (fun _=>s.mono (by omega)) ?_
 refine Cr (fun h0=>(AfM h0).mono (by omega)) ?_
 refine Cr (fun _=>(AeG h).mono (by omega)) ?_
 refine Cr (fun h0=>(AnZ s hl h0).mono (by omega)) ?_
 refine Cr (fun h0=>(Aop h h0).mono (by omega)) ?_
 refine Cr (fun h0=>(SE h h0).mono (by omega)) ?_
 refine Cr (fun h0=>(SE h h0).mono (by omega)) ?_
 exact fun h0=>(Cf (Aoc f 8 a h h0).1).mono (by omega)
theorem AaD{k a:Arr}{f:Bool}(h:Aj 8 a=true)(h0:(Gf k a f).2=0):Sml 9 (Gf k a f).1:=by
 unfold Gf at h0 ⊢
 split at h0
 · rename_i g;exact absurd h0 g
 rename_i g1;rw[if_neg g1]
 split at h0
 · cases h0
 rename_i g2;rw[if_neg g2]
 split
 · exact Cf (Zo h)
 · exact X9 (Zo h) (M_ h) _
theorem AiL{k a:Arr}(h:Aj 8 a=true)(h0:(Fq k a).2=0):Sml 9 (Fq k a).1:=by
 unfold Fq at h0 ⊢
 split at h0
 · rename_i g;exact absurd h0 g
 rename_i g1;rw[if_neg g1]
 split at h0
 · cases h0
 rename_i g2;rw[if_neg g2]
 split at h0
 · cases h0
 · rename_i s hg
   have hs:=M_ h
   obtain ⟨p1,_⟩:=WU hg (by omega) (fun x hx=>(hs.2 x hx).1)
   exact X9 (Zo h) ⟨by rw[p1.length_eq];exact hs.1,fun x hx=>hs.2 x (p1.mem_iff.1 hx)⟩ _
theorem AaO{x:Bk}{d:Nat}(hx : ∀ c∈x.cs,SmlC d c)(i n:Nat) : ∀ c∈Fs x i n,SmlC d c:=by
 intro c hc
 unfold Fs at hc
 split at hc
 · rw[List.eq_of_mem_replicate hc,Ape]
   cases hg:x.cs[0]? with
   | none=>exact Ku Iq d
   | some c=>exact hx c (Aph hg)
 · exact hx c (List.mem_of_mem_take (List.mem_of_mem_drop hc))
theorem DT{a:Arr}{o:List Int}{axes axis:Nat}{x:Bk}(h:Ei a o axes axis=some x):x.cs=a.cells:=by
 unfold Ei at h
 split at h
 · injection h with h;rw[← h]
 split at h
 · injection h with h;rw[← h]
 split at h
 · injection h with h;rw[← h]
 · cases h
theorem Aft{α:Type}{l:List Nat}{f:Nat→List α}{k:Nat}(h : ∀ i∈l,(f i).length≤k):(l.flatMap f).length≤l.length*k:=by
 induction l with
 | nil=>simp
 | cons x xs ih =>
  rw[List.flatMap_cons,Apn,Apg,Nat.add_mul,Nat.one_mul]
  have:=h x (by simp)
  have:=ih (fun i hi=>h i (List.mem_cons_of_mem _ hi))
  omega
theorem AgI{s:List Int}{axis:Nat}(ha:axis<s.length)(hc:(A7 s).2=0):(A_ (s.take axis) 1).toNat*((s.getD axis 0).toNat*(A_ (s.drop (axis+1)) 1).toNat)≤2048:=by
 obtain ⟨hl6,hs⟩:=Gm hc
 have r1:=Mu (s.take axis) 1 (fun v hv=>hs v (List.mem_of_mem_take hv)) (by decide) (by decide)
 have r2:=Mu (s.drop (axis+1)) 1 (fun v hv=>hs v (List.mem_of_mem_drop hv)) (by decide) (by decide)
 have hk:s.getD axis 0=s[axis]:=by rw[Ape,Apb ha];rfl
 have ms:=hs _ (Aqc ha:s[axis]∈s)
 rw[← hk]at ms
 have hsplit:s=s.take axis++s.getD axis 0::s.drop (axis+1):=by rw[hk,← Ap1,Ap5]
 rcases Decidable.em (A_ (s.take axis) 1=0) with e | e
 · rw[e];simp
 rcases Decidable.em (A_ (s.drop (axis+1)) 1=0) with e2 | e2
 · rw[e2];simp
 rcases Decidable.em (s.getD axis 0=0) with e3 | e3
 · rw[e3];simp
 obtain ⟨p1,p2⟩:=Oc (fun v hv=>hs v (List.mem_of_mem_take hv)) e
 obtain ⟨p3,p4⟩:=Oc (fun v hv=>hs v (List.mem_of_mem_drop hv)) e2
 have hz:=(Vv (s:=s) (c:=(A7 s).1) (by rw[← hc]) (fun v hv=>by
  rw[hsplit]at hv
  rcases Aqh.1 hv with q | q
  · exact p1 v q
  · rcases Apt.1 q with q | q
    · omega
    · exact p3 v q)).2
 rw[hsplit,Qm,D8,← p2,← p4]at hz
 generalize A_ (s.take axis) 1=A at *
 generalize A_ (s.drop (axis+1)) 1=B at *
 generalize s.getD axis 0=k at *
 obtain ⟨A',rfl⟩ : ∃ n:Nat,A=(n:Int):=⟨A.toNat,by omega⟩
 obtain ⟨B',rfl⟩ : ∃ n:Nat,B=(n:Int):=⟨B.toNat,by omega⟩
 obtain ⟨k',rfl⟩ : ∃ n:Nat,k=(n:Int):=⟨k.toNat,by omega⟩
 simp only[Apj]
 have:((A'*(k'*B'):Nat):Int)≤2048:=by simpa using hz
 omega
theorem PA{a b:Arr}{f:Bool}(ha:Aj 8 a=true)(hb:Aj 8 b=true)(h0:(F_ a b f).2=0):Sml 9 (F_ a b f).1:=by
 have ca:=(Ce ha).1
 have cb:=(Ce hb).1
 have sa:=Dj ha
 have sb:=Dj hb
 have h1:1≤B8 a b:=by unfold B8;omega
 unfold F_ at h0 ⊢
 cases hwa:Ei a b.shape (B8 a b) (Bx a b f) with
 | none=>rw[hwa]at h0;cases h0
 | some x =>
  cases hwb:Ei b a.shape (B8 a b) (Bx a b f) with
  | none=>rw[hwa,hwb]at h0;cases h0
  | some y =>
   rw[hwa,hwb]at h0
   simp only at h0 ⊢
   have hx:=DU hwa ca sb.2.2 h1 (I8 a b f) (by unfold B8;omega) (by unfold B8;omega)
   have hy:=DU hwb cb sa.2.2 h1 (I8 a b f) (by unfold B8;omega) (by unfold B8;omega)
   split at h0
   · rename_i g;exact absurd h0 g
   rename_i g;rw[if_neg g]
   obtain ⟨_,_,n3,n4,n5⟩:=Ac2 hx hy (I8 a b f) (Apm.1 g)
   have hlt:=I8 a b f
   have tot:=AgI (s:=(Eo x.sh y.sh (Bx a b f)).1) (axis:=Bx a b f) (by omega) n5
   obtain ⟨l6,rs⟩:=Gm n5
   have memD : ∀ {l:List Int},Bx a b f<l.length→l.getD (Bx a b f) 0∈l:=fun h=>by rw[Ape,Apb h];exact Aqc h
   have kx:=hx.rng _ (memD (l:=x.sh) (by rw[hx.len];exact hlt))
   have ky:=hy.rng _ (memD (l:=y.sh) (by rw[hy.len];exact hlt))
   rw[n4]at tot
   generalize (Eo x.sh y.sh (Bx a b f)).1=s at *
   refine Sml.of (by show s.length≤_;omega) ?_ (Ue (fun v hv=>by have:=rs v hv;omega)) (fun c hc=> ?_)
   · have hl:=Aft (l:=Ap8 (A_ (s.take (Bx a b f)) 1).toNat) (f:=fun i=>Fs x i ((x.sh.getD (Bx a b f) 0).toNat*(A_ (s.drop (Bx a b f+1)) 1).toNat)++Fs y i ((y.sh.getD (Bx a b f) 0).toNat*(A_ (s.drop (Bx a b f+1)) 1).toNat)) (k:=(x.sh.getD (Bx a b f) 0).toNat*(A_ (s.drop (Bx a b f+1)) 1).toNat+(y.sh.getD (Bx a b f) 0).toNat*(A_ (s.drop (Bx a b f+1)) 1).toNat) (fun i _=>by
      rw[Apn]
      exact Nat.add_le_add (BD x i _) (BD y i _))
     rw[List.length_range,← Nat.add_mul,show (x.sh.getD (Bx a b f) 0).toNat+(y.sh.getD (Bx a b f) 0).toNat=(x.sh.getD (Bx a b f) 0+y.sh.getD (Bx a b f) 0).toNat by omega]at hl
     show (Ki x y (Bx a b f) s).length≤1048576
     have:(Ki x y (Bx a b f) s).length≤2048:=Nat.le_trans hl tot
     omega
   · have hc:c∈Ki x y (Bx a b f) s:=hc
     unfold Ki at hc
     obtain ⟨i,_,hi⟩:=List.mem_flatMap.1 hc
     rcases Aqh.1 hi with q | q
     · exact AaO (fun c hc=>(Cf ha).cell c (by rw[← DT hwa];exact hc)) i _ c q
     · exact AaO (fun c hc=>(Cf hb).cell c (by rw[← DT hwb];exact hc)) i _ c q
theorem AfE{n a:Arr}(ha:Aj 8 a=true)(h0:(Ga n a).2=0):Sml 9 (Ga n a).1:=by
 unfold Ga at h0 ⊢
 split at h0
 · rename_i g;exact absurd h0 g
 rename_i g1;rw[if_neg g1]
 split at h0
 · cases h0
 rename_i g2;rw[if_neg g2]
 split at h0
 · cases h0
 rename_i g3;rw[if_neg g3]
 split at h0
 · cases h0
 rename_i g4;rw[if_neg g4]
 exact Cf (Zo (Acu (d:=7) (ET (Ce ha).2 _)))
theorem Ahj(f:Int)(a b:Arr)(ha:Aj 8 a=true)(hb:Aj 8 b=true):ED (Lk f a b):=by
 have s:=Cf ha
 have t:=Cf hb
 have hl:=(Dj ha).1
 have hm:=(Dj hb).1
 unfold Lk
 refine Cr (fun _=>UL.mono (by omega)) ?_
 refine Cr (fun _=>UL.mono (by omega)) ?_
 refine Cr (fun h0=>(AfF t hl hm h0).mono (by omega)) ?_
 refine Cr (fun _=>(AgG s hl).mono (by omega)) ?_
 refine Cr (fun h0=>(AnY s t h0).mono (by omega)) ?_
 refine Cr (fun h0=>(AbW s hl h0).mono (by omega)) ?_
 refine Cr (fun h0=>(AbW s hl h0).mono (by omega)) ?_
 refine Cr (fun h0=>(Cf ((Aap hb).1 h0)).mono (by omega)) ?_
 refine Cr (fun h0=>(Cf ((Aap hb).1 h0)).mono (by omega)) ?_
 refine Cr (fun h0=>(Cf ((QQ hb).1 h0)).mono (by omega)) ?_
 refine Cr (fun h0=>(Cf ((QQ hb).1 h0)).mono (by omega)) ?_
 exact fun h0=>(Cf (Acj f 8 a b ha hb h0).1).mono (by omega)
theorem AnU(f:Int)(a b:Arr)(ha:Aj 8 a=true)(hb:Aj 8 b=true):ED (H9 f a b):=by
 unfold H9
 refine Cr (fun h0=>(Cf (Alu (Ce hb).2 h0)).mono (by omega)) ?_
 refine Cr (fun h0=>(PA ha hb h0).mono (by omega)) ?_
 refine Cr (fun h0=>(PA ha hb h0).mono (by omega)) ?_
 refine Cr (fun h0=>(AaD hb h0).mono (by omega)) ?_
 refine Cr (fun h0=>(AaD hb h0).mono (by omega)) ?_
 refine Cr (fun h0=>(AiL hb h0).mono (by omega)) ?_
 refine Cr (fun h0=>(Cf (Anp hb h0)).mono (by omega)) ?_
 refine Cr (fun h0=>(Cf (Ae5 hb h0)).mono (by omega)) ?_
 refine Cr (fun h0=>(AfE hb h0).mono (by omega)) ?_
 refine Cr (fun _=>(Cf hb).mono (by omega)) ?_
 refine Cr (fun _=>(Cf ha).mono (by omega)) ?_
 exact Ahj f a b ha hb
section
variable {o:Al} {a b n m:Arr}
theorem X8{s:List Int}{g:List Int→List Int}(h:Ag o a=Ag o b):Ag o (Gr a s g)=Ag o (Gr b s g):=by
 rcases Ea h with ⟨h1,h2⟩ | ⟨_,_,h3,h4,h5⟩
 · exact C0 h1 h2
 · have hl:a.cells.length=b.cells.length:=by have:=congrArg Aql h5;simpa using this
   refine F9 h3 rfl ?_
   show ((Ap8 a.cells.length).map (Mo a s g)).map (Bc o)=((Ap8 b.cells.length).map (Mo b s g)).map (Bc o)
   rw[hl,List.map_map,List.map_map]
   refine List.map_congr_left (fun i _=> ?_)
   show Bc o (Mo a s g i)=Bc o (Mo b s g i)
   unfold Mo
   rw[h4]
   exact Xu h5 _ _
theorem Aa4(f:Bool):(Jo a f).s=a.s:=by unfold Jo;split <;> rfl
theorem Aa2{f:Bool}(h:Ag o a=Ag o b):Ag o (Jo a f)=Ag o (Jo b f):=by
 rcases Ea h with ⟨h1,h2⟩ | ⟨_,_,_,h4,_⟩
 · exact C0 (by rw[Aa4];exact h1) (by rw[Aa4];exact h2)
 · unfold Jo Ek
   rw[h4]
   split
   · exact h
   · exact X8 h
theorem An4(h:Ag o a=Ag o b):Ag o (Oo a)=Ag o (Oo b):=by
 rcases Ea h with ⟨h1,h2⟩ | ⟨_,_,_,h4,_⟩
 · exact C0 h1 h2
 · unfold Oo;rw[h4];exact X8 h
theorem Ann(h:Ag o a=Ag o b):Ag o (Lv a)=Ag o (Lv b):=by
 rcases Ea h with ⟨h1,h2⟩ | ⟨_,_,h3,h4,h5⟩
 · exact C0 h1 h2
 · exact F9 h3 (by unfold Lv;rw[h4];rfl) h5
theorem AaC{f:Bool}(h:(Gf n a f).2=0):(Gf n a f).1.s=a.s|||Au n:=by
 unfold Gf at h ⊢
 split at h
 · rename_i g;exact absurd h g
 rename_i g1;rw[if_neg g1]
 split at h
 · cases h
 rename_i g2;rw[if_neg g2]
 split <;> rfl
theorem AaB{f:Bool}(h':Ag o n=Ag o m)(h:Ag o a=Ag o b)(e1:(Gf n a f).2=0)(e2:(Gf m b f).2=0):Ag o (Gf n a f).1=Ag o (Gf m b f).1:=by
 refine DF (AaC e1) (AaC e2) h' h (fun e he=> ?_)
 subst e
 have hal:Ek a f=Ek b f:=by unfold Ek;rw[he]
 unfold Gf at e1 ⊢
 split at e1
 · rename_i g;exact absurd e1 g
 rename_i g1;rw[if_neg g1,if_neg g1]
 split at e1
 · cases e1
 rename_i g2;rw[if_neg g2,if_neg g2,he,hal]
 split
 · exact Qo h
 · exact X8 (Qo h)
theorem WV(h:(Fq n a).2=0):(Fq n a).1.s=a.s|||Au n:=by
 unfold Fq at h ⊢
 split at h
 · rename_i g;exact absurd h g
 rename_i g1;rw[if_neg g1]
 split at h
 · cases h
 rename_i g2;rw[if_neg g2]
 split at h
 · cases h
 · rfl
theorem AiK(h':Ag o n=Ag o m)(h:Ag o a=Ag o b)(e1:(Fq n a).2=0)(e2:(Fq m b).2=0):Ag o (Fq n a).1=Ag o (Fq m b).1:=by
 refine DF (WV e1) (WV e2) h' h (fun e he=> ?_)
 subst e
 unfold Fq at e1 ⊢
 split at e1
 · rename_i g;exact absurd e1 g
 rename_i g1;rw[if_neg g1,if_neg g1]
 split at e1
 · cases e1
 rename_i g2;rw[if_neg g2,← he,if_neg g2]
 split at e1
 · cases e1
 · exact X8 (Qo h)
def Bk.put (x:Bk) (cs:List Cell):Bk:=⟨x.sh,cs,x.al⟩
theorem Ac6{sh:List Int}{axes axis:Nat}(h:a.shape=b.shape):Ei b sh axes axis=(Ei a sh axes axis).map (fun x=>x.put b.cells):=by
 unfold Ei
 rw[h]
 split
 · rfl
 split
 · rfl
 split <;> rfl
theorem AaE{F:Cell→Cell}{x:Bk}{cs:List Cell}(h:x.cs.map F=cs.map F)(i k:Nat):(Fs x i k).map F=(Fs (x.put cs) i k).map F:=by
 unfold Fs Bk.put
 simp only
 split
 · rw[List.map_replicate,List.map_replicate,Xu h 0 _]
 · rw[List.map_drop,List.map_take,List.map_drop,List.map_take,h]
theorem AgH{F:Cell→Cell}{x y:Bk}{cs ds:List Cell}(h:x.cs.map F=cs.map F)(h':y.cs.map F=ds.map F)(axis:Nat)(s:List Int):(Ki x y axis s).map F=(Ki (x.put cs) (y.put ds) axis s).map F:=by
 unfold Ki
 rw[List.map_flatMap,List.map_flatMap]
 refine congrArg (fun g=>List.flatMap g _) (funext (fun i=> ?_))
 rw[List.map_append,List.map_append,AaE h,AaE h']
 rfl
theorem Vm{f:Bool}(h:(F_ a n f).2=0):(F_ a n f).1.s=a.s|||n.s:=by
 unfold F_ at h ⊢
 split at h
 · split at h
   · rename_i g;exact absurd h g
   · rename_i g;rw[if_neg g];rfl
 · cases h
theorem OZ{f:Bool}(h:Ag o a=Ag o b)(h':Ag o n=Ag o m)(e1:(F_ a n f).2=0)(e2:(F_ b m f).2=0):Ag o (F_ a n f).1=Ag o (F_ b m f).1:=by
 rcases Ea h with ⟨h1,h2⟩ | ⟨_,_,h3,h4,h5⟩
 · exact C0 (by rw[Vm e1,Cj,h1];rfl) (by rw[Vm e2,Cj,h2];rfl)
 rcases Ea h' with ⟨k1,k2⟩ | ⟨_,_,k3,k4,k5⟩
 · exact C0 (by rw[Vm e1,Cj,k1,Bool.and_false]) (by rw[Vm e2,Cj,k2,Bool.and_false])
 have ex:B8 b m=B8 a n:=by unfold B8;rw[h4,k4]
 have ey:Bx b m f=Bx a n f:=by unfold Bx;rw[ex]
 unfold F_ at e1 ⊢
 rw[ex,ey,Ac6 (a:=a) (b:=b) h4,Ac6 (a:=n) (b:=m) k4,← h4,← k4]
 cases hwa:Ei a n.shape (B8 a n) (Bx a n f) with
 | none=>rw[hwa]at e1;cases e1
 | some x =>
  cases hwb:Ei n a.shape (B8 a n) (Bx a n f) with
  | none=>rw[hwa,hwb]at e1;cases e1
  | some y =>
   rw[hwa,hwb]at e1
   simp only[Option.map_some]at e1 ⊢
   split at e1
   · rename_i g;exact absurd e1 g
   rename_i g
   have g' : ¬ (Eo (x.put b.cells).sh (y.put m.cells).sh (Bx a n f)).2≠0:=g
   rw[if_neg g,if_neg g']
   refine F9 (by show a.s|||n.s=b.s|||m.s;rw[h3,k3]) rfl ?_
   exact AgH (by rw[DT hwa];exact h5) (by rw[DT hwb];exact k5) _ _
theorem SS(h:(Ga n a).2=0):a.shape.length=1∧Ga n a=(C2 (Gj (a.cells.getD ((A9 n).1.getD 0 0-1).toNat (Bf 0))) (a.s|||Au n),0):=by
 unfold Ga at h ⊢
 split at h
 · rename_i g;exact absurd h g
 rename_i g1;rw[if_neg g1]
 split at h
 · cases h
 rename_i g2;rw[if_neg g2]
 split at h
 · cases h
 rename_i g3;rw[if_neg g3]
 split at h
 · cases h
 rename_i g4;rw[if_neg g4]
 exact ⟨by omega,rfl⟩
theorem AfD(h':Ag o n=Ag o m)(h:Ag o a=Ag o b)(e1:(Ga n a).2=0)(e2:(Ga m b).2=0):Ag o (Ga n a).1=Ag o (Ga m b).1:=by
 rw[(SS e1).2,(SS e2).2]
 have hid : ∀ (x:Arr) (l:Al),Ay l o=false→Ay (C2 x l).s o=false:=fun x l hl=>by
   show Ay (x.s|||l) o=false
   rw[Cj,hl,Bool.and_false]
 rcases Ic h' with rfl | ⟨k1,k2⟩
 · rcases Ea h with ⟨h1,h2⟩ | ⟨_,_,h3,_,h5⟩
   · exact C0 (hid _ _ (by rw[Cj,h1];rfl)) (hid _ _ (by rw[Cj,h2];rfl))
   · rw[h3]
     exact Qo (Acs (Xu h5 _ _))
 · exact C0 (hid _ _ (by rw[Cj,k1,Bool.and_false])) (hid _ _ (by rw[Cj,k2,Bool.and_false]))
theorem W9{dn:Bool}(h:(Jf a dn).2=0):(Jf a dn).1.s=Au a:=by
 unfold Jf at h ⊢; split
 · rfl
 · rename_i g;rw[if_neg g]at h;cases h
end
abbrev EB(o:Al)(r r':Arr×Int):Prop:=r.2=0→r'.2=0→Ag o r.1=Ag o r'.1
theorem Cs{c:Prop} [Decidable c] {P:Arr×Int→Arr×Int→Prop}{x y x' y':Arr×Int}(h1:P x x')(h2:P y y'):P (if c then x else y) (if c then x' else y'):=by
 split
 · exact h1
 · exact h2
theorem Aih{o:Al}(f:Int){a b:Arr}(ra:Aj 8 a=true)(rb:Aj 8 b=true)(h:Ag o a=Ag o b):EB o (Kj f a) (Kj f b):=by
 unfold Kj
 refine Cs (fun _ _=>Amq h) ?_
 refine Cs (fun _ _=>AjQ h) ?_
 refine Cs (fun _ _=>Ann h) ?_
 refine Cs (fun _ _=>Aa2 h) ?_
 refine Cs (fun _ _=>Aa2 h) ?_
 refine Cs (fun _ _=>An4 h) ?_
 refine Cs (AeE ra rb h) ?_
 refine Cs (fun _ _=>Afr h) ?_
 refine Cs (fun _ _=>AgE h) ?_
 refine Cs (fun _ _=>Ans h) ?_
 refine Cs (fun _ _=>h) ?_
 refine Cs (fun _ _=>h) ?_
 refine Cs (fun e1 e2=>Y_ (TB e1) (TB e2) h (fun e=>by rw[e])) ?_
 refine Cs (AeH h) ?_
 refine Cs (fun e1 e2=>Y_ (Acp e1) (Acp e2) h (fun e=>by rw[e])) ?_
 refine Cs (Aoo h) ?_
 refine Cs (fun e1 e2=>Y_ (W9 e1) (W9 e2) h (fun e=>by rw[e])) ?_
 refine Cs (fun e1 e2=>Y_ (W9 e1) (W9 e2) h (fun e=>by rw[e])) ?_
 exact Aob f 8 a b ra rb h
theorem Ahi{o:Al}(f:Int){a b c d:Arr}(ra:Aj 8 a=true)(rb:Aj 8 b=true)(rc:Aj 8 c=true)(rd:Aj 8 d=true)(h:Ag o a=Ag o b)(h':Ag o c=Ag o d):EB o (Lk f a c) (Lk f b d):=by
 unfold Lk
 refine Cs (fun _ _=>UT h h' true) ?_
 refine Cs (fun _ _=>UT h h' false) ?_
 refine Cs (fun e1 e2=>Rq (ST e1) (ST e2) h h' (fun e e'=>by rw[e,e'])) ?_
 refine Cs (fun _ _=>Rq rfl rfl h h' (fun e e'=>by rw[e,e'])) ?_
 refine Cs (fun e1 e2=>Rq (Aco e1) (Aco e2) h h' (fun e e'=>by rw[e,e'])) ?_
 refine Cs (fun e1 e2=>Rq (CZ e1) (CZ e2) h h' (fun e e'=>by rw[e,e'])) ?_
 refine Cs (fun e1 e2=>Rq (CZ e1) (CZ e2) h h' (fun e e'=>by rw[e,e'])) ?_
 refine Cs (Aao h h') ?_
 refine Cs (Aao h h') ?_
 refine Cs (QP h h') ?_
 refine Cs (QP h h') ?_
 exact Aci f 8 a b c d ra rb rc rd h h'
theorem AnT{o:Al}(f:Int){a b c d:Arr}(ra:Aj 8 a=true)(rb:Aj 8 b=true)(rc:Aj 8 c=true)(rd:Aj 8 d=true)(h:Ag o a=Ag o b)(h':Ag o c=Ag o d):EB o (H9 f a c) (H9 f b d):=by
 unfold H9
 refine Cs (Alv h h') ?_
 refine Cs (OZ h h') ?_
 refine Cs (OZ h h') ?_
 refine Cs (AaB h h') ?_
 refine Cs (AaB h h') ?_
 refine Cs (AiK h h') ?_
 refine Cs (Anr h h') ?_
 refine Cs (Ae6 h h') ?_
 refine Cs (AfD h h') ?_
 refine Cs (fun _ _=>h') ?_
 refine Cs (fun _ _=>h) ?_
 exact Ahi f ra rb rc rd h h'
theorem Ajc(f:Int)(a b c d:Arr)(o:Al)(_hf : -9223372036854775808≤f∧f≤9223372036854775807)(ha:Fits a)(hb:Fits b)(hc:Fits c)(hd:Fits d):Sp 4 [.int f,dA a,dA b,dA c,dA d,dB o] [.bool true]:=by
 obtain ⟨b1,h1,s1⟩:=Xp a ha
 obtain ⟨b2,h2,s2⟩:=Xp b hb
 obtain ⟨b3,h3,s3⟩:=Xp c hc
 obtain ⟨b4,h4,s4⟩:=Xp d hd
 refine Af 0 (Agh _ _ _ _ _ _ _) (Aa s1 (B7 (fun _=>K_) (fun e1=>Aa s2 (B7 (fun _=>K_) (fun e2=>Aa s3 (B7 (fun _=>K_) (fun e3=>Aa s4 (B7 (fun _=>K_) (fun e4=> ?_)))))))))
 obtain ⟨g1,x1⟩:=h1 (by simpa using e1)
 obtain ⟨g2,x2⟩:=h2 (by simpa using e2)
 obtain ⟨g3,x3⟩:=h3 (by simpa using e3)
 obtain ⟨g4,x4⟩:=h4 (by simpa using e4)
 simp only[Ao,En,Me]
 refine Aa (AS o 9 a b (Cf g1)) (B7 (fun _=>K_) (fun e5=>Aa (AS o 9 c d (Cf g3)) (B7 (fun _=>K_) (fun e6=> ?_))))
 have l1:Ag o a=Ag o b:=O0.1 (by simpa using e5)
 have l2:Ag o c=Ag o d:=O0.1 (by simpa using e6)
 have r1:=XY f a g1
 have r2:=XY f b g2
 have r3:=JY f a c g1 g3 (fun _=>x3)
 have r4:=JY f b d g2 g4 (fun _=>x4)
 have m1:=Aii f a g1
 have m2:=AnU f a c g1 g3
 have n1:=Aih f g1 g2 l1
 have n2:=AnT f g1 g2 g3 g4 l1 l2
 generalize Kj f a=u1 at *
 generalize Kj f b=u2 at *
 generalize H9 f a c=u3 at *
 generalize H9 f b d=u4 at *
 refine Aa r1 (Aa r2 ?_)
 simp only[Ah,C1,Ao,Cn]
 refine Ae (fun hx=>Ae (fun hy=>Aa (NS (m1 hx) (n1 hx hy)) (Ej rfl ?_)) (fun _=> ?_)) (fun _=> ?_)
 all_goals refine Aa r3 (Aa r4 ?_)
 all_goals simp only[Ah,C1,Ao,Dg]
 all_goals exact Ae (fun _=>K_) (fun hx=>Ae (fun _=>K_) (fun hy=>Aa (NS (m2 (Apm.1 hx)) (n2 (Apm.1 hx) (Apm.1 hy))) (Bo rfl K_)))
end Go.Proofs.YtokkbgpgaheakaaGreat
