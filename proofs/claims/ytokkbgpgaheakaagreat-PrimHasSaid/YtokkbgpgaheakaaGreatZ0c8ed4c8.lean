/- Proved: lemmas for the law of this folder, part 5. No condition. -/
import Derived.Test.YtokkbgpgaheakaaGreatRows
import Derived.WalkKit
import Derived.WalkSpells
import Derived.WalkLawsBesides
import Derived.Lib.Hide
import Derived.Laws.CopyOwn
import Derived.Deep.QuietTactic
import Derived.BigQuiet
import Derived.Orders
import Derived.Defers
import Derived.Recover
import Derived.Test.YtokkbgpgaheakaaGreatProg
import Derived.KernelRfl
import Derived.ProofKit
import Derived.OpenShut
import Derived.Maps.OwnRows
import Derived.Maps.Views
import Derived.Deep.RegionHeld3
import Derived.Deep.AppendLies
import Derived.Test.YtokkbgpgaheakaaGreatZ1ffa8c01
set_option linter.unusedSimpArgs false
set_option linter.unusedVariables false
set_option maxRecDepth 100000
namespace Go.Proofs.YtokkbgpgaheakaaGreat
open Go.ChangeShapes Go.WideShapes Go.ChangeAt Go.RowKit
section
variable {P:Program} {md:Nat→FMode}
theorem AfJ{F:Nat}{fn:Func}{xs:List D}{vs:List Value}{W:World}{tb:Nat}(hs:Ia P md F [] xs [.bool true])(hfn:P.funcs[F]? = some fn)(hm:md F = {})(hrt:fn.resultTypes = #[tb])(htb:P.underlying tb=some .bool)
   (hlx:xs.length=fn.params.size) (hlv:vs.length=fn.params.size) (hrd : ∀ (i t:Nat) (x:D) (v:Value),fn.params.toList[i]? = some t→xs[i]? = some x→vs[i]? = some v→Rd P md W (fun _=>False) (.ty t) x v) :
   Calls P F vs.toArray W (fun e w'=>e = .returned (.bool true)∧Ext W w'):=by
 obtain ⟨fn',h1,_,_,h⟩:=hs
 rw[hfn]at h1
 injection h1 with h1
 subst h1
 refine (h W (fun _=>False) vs 0 1 (fun k hk=>by rw[hm]at hk;cases hk) ⟨by simp[hlx],by simp[hlv],fun b hb=>hb.elim,?_,fun p hp=>by rw[hm]at hp;cases hp⟩).mono ?_
 · intro i ct x v hc hx hv _
   simp only[List.append_nil,List.getElem?_map,Option.map_eq_some_iff]at hc
   obtain ⟨t,ht,rfl⟩:=hc
   have:=hrd i t x v ht hx hv
   exact ⟨this.rd.mono (Nat.le_refl _) (fun _ _ _=>rfl) (fun b hb _=>by
    rcases hb with hb | ⟨p,u,hp,_⟩
    · exact hb
    · rw[hm]at hp;cases hp),this.size,this.agg⟩
 · rintro e w' ⟨us,β',hp⟩
   have hl:=hp.len
   rw[hrt]at hl
   have : ∃ u,us = [u]:=by
    match us,hl with
    | [u],_=>exact ⟨u,rfl⟩
   obtain ⟨u,rfl⟩:=this
   have hv:=hp.vl [.b true] (by rw[hrt,hm];simp[Jq,Ho,D8,htb,D.toBool,List.getD]) 0 (.b true) u rfl rfl
   have hu:=CD hv
   subst hu
   refine ⟨hp.ending,?_⟩
   have:=hp.stp
   refine Stp.ext (this.weak fun b ⟨p,v,h1,_⟩=> ?_)
   rw[hm]at h1;cases h1
theorem Z6{t:Nat}{k:IntKind}{w:World}{M:Nat→Prop}{y:D}{c:Nat→Option Value}(h:RdC P md w M (.ty t) y c)(ht:P.underlying t=some (.int k)) : ∃ n,y = .int n∧k.min≤n∧n≤k.max:=by
 cases h <;> simp_all [CT.desc]
 all_goals (rename_i hf _;obtain ⟨⟨a,ha,_⟩,_⟩:=Aw hf;rw[ht]at ha;cases ha)
theorem Ajp{t:Nat}{w:World}{M:Nat→Prop}{y:D}{c:Nat→Option Value}(h:RdC P md w M (.ty t) y c)(ht:P.underlying t=some .bool) : ∃ b,y = .bool b:=by
 cases h <;> simp_all [CT.desc]
 all_goals (rename_i hf _;obtain ⟨⟨a,ha,_⟩,_⟩:=Aw hf;rw[ht]at ha;cases ha)
theorem QX{t e:Nat}{w:World}{M:Nat→Prop}{y:D}{c:Nat→Option Value}(h:RdC P md w M (.ty t) y c)(ht:P.underlying t=some (.slice e)) : ∃ es,y = .sl es∧es.length≤maxLen∧∀ x∈es,∃ c',RdC P md w M (.ty e) x c':=by
 cases h with
 | sl ht' hc h1 h2 hA hh =>
  have:P.underlying t=some (.slice _):=ht'
  rw[ht]at this
  injection this with this
  injection this with this
  subst this
  refine ⟨_,rfl,Nat.le_trans h1 h2,fun x hx=> ?_⟩
  obtain ⟨i,hi,rfl⟩:=List.getElem_of_mem hx
  exact ⟨_,hh i _ (List.getElem?_eq_getElem hi)⟩
 | struct hf _ _=>obtain ⟨⟨a,ha,_⟩,_⟩:=Aw hf;rw[ht]at ha;cases ha
 | int ht'=>have:P.underlying t=_:=ht';rw[ht]at this;cases this
 | bool ht'=>have:P.underlying t=_:=ht';rw[ht]at this;cases this
 | str ht'=>have:P.underlying t=_:=ht';rw[ht]at this;cases this
 | fn ht'=>have:P.underlying t=_:=ht';rw[ht]at this;cases this
 | mp ht'=>have:P.underlying t=_:=ht';rw[ht]at this;cases this
 | ref ht'=>have:P.underlying t=_:=ht';rw[ht]at this;cases this
theorem FU{t:Nat}{fs:List Field}{w:World}{M:Nat→Prop}{y:D}{c:Nat→Option Value}(h:RdC P md w M (.ty t) y c)(ht:Ci P t=some fs) : ∃ ds,y = .agg ds∧ds.length=fs.length∧∀ (i:Nat) (f:Field) (d:D),fs[i]? = some f→ds[i]? = some d→∃ c',RdC P md w M (.ty f.type) d c':=by
 obtain ⟨⟨a,ha,_⟩,_⟩:=Aw ht
 cases h with
 | struct hf hl hh =>
  rw[ht]at hf
  injection hf with hf
  subst hf
  exact ⟨_,rfl,hl,fun i f d h1 h2=>⟨_,hh i f d h1 h2⟩⟩
 | sl ht'=>have:P.underlying t=_:=ht';rw[ha]at this;cases this
 | int ht'=>have:P.underlying t=_:=ht';rw[ha]at this;cases this
 | bool ht'=>have:P.underlying t=_:=ht';rw[ha]at this;cases this
 | str ht'=>have:P.underlying t=_:=ht';rw[ha]at this;cases this
 | fn ht'=>have:P.underlying t=_:=ht';rw[ha]at this;cases this
 | mp ht'=>have:P.underlying t=_:=ht';rw[ha]at this;cases this
 | ref ht'=>have:P.underlying t=_:=ht';rw[ha]at this;cases this
theorem Ajq{t e:Nat}{w:World}{M:Nat→Prop}{y:D}{c:Nat→Option Value}(h:RdC P md w M (.ty t) y c)(ht:P.underlying t=some (.slice e))(he:P.underlying e=some (.int .i64)) : ∃ l,y=dI l∧l.length≤maxLen∧∀ x∈l,-9223372036854775808≤x∧x≤9223372036854775807:=by
 obtain ⟨es,rfl,hl,hh⟩:=QX h ht
 have : ∃ l:List Int,es=l.map .int∧∀ x∈l,-9223372036854775808≤x∧x≤9223372036854775807:=by
  clear hl h
  induction es with
  | nil=>exact ⟨[],rfl,fun _ h=>by cases h⟩
  | cons x es ih =>
   obtain ⟨l,rfl,hl⟩:=ih (fun y hy=>hh y (by simp[hy]))
   obtain ⟨c',hc⟩:=hh x (by simp)
   obtain ⟨n,rfl,h1,h2⟩:=Z6 hc he
   exact ⟨n::l,rfl,fun y hy=>by rcases List.mem_cons.1 hy with rfl | hy;exact ⟨h1,h2⟩;exact hl y hy⟩
 obtain ⟨l,rfl,h2⟩:=this
 exact ⟨l,rfl,by simpa using hl,h2⟩
theorem Acj{t e:Nat}{w:World}{M:Nat→Prop}{y:D}{c:Nat→Option Value}(h:RdC P md w M (.ty t) y c)(ht:P.underlying t=some (.slice e))(he:P.underlying e=some (.int .u32)) : ∃ l:List Av,y=dL l∧l.length≤maxLen:=by
 obtain ⟨es,rfl,hl,hh⟩:=QX h ht
 have : ∃ l:List Av,es=l.map dB:=by
  clear hl h
  induction es with
  | nil=>exact ⟨[],rfl⟩
  | cons x es ih =>
   obtain ⟨l,rfl⟩:=ih (fun y hy=>hh y (by simp[hy]))
   obtain ⟨c',hc⟩:=hh x (by simp)
   obtain ⟨n,rfl,h1,h2⟩:=Z6 hc he
   have h1:0≤n:=h1
   have h2:n≤4294967295:=h2
   refine ⟨BitVec.ofNat 32 n.toNat::l,?_⟩
   simp only[List.map_cons,dB,BitVec.toNat_ofNat]
   rw[Nat.mod_eq_of_lt (by omega),Int.toNat_of_nonneg h1]
 obtain ⟨l,rfl⟩:=this
 exact ⟨l,rfl,by simpa using hl⟩
theorem Agh{t:Nat}{w:World}{M:Nat→Prop}{y:D}{c:Nat→Option Value}(h:RdC P md w M (.ty t) y c)(ht:P.underlying t=some (.int .u64)) : ∃ l:Co,y=dB l:=by
 obtain ⟨n,rfl,h1,h2⟩:=Z6 h ht
 have h1:0≤n:=h1
 have h2:n≤18446744073709551615:=h2
 refine ⟨BitVec.ofNat 64 n.toNat,?_⟩
 simp only[dB,BitVec.toNat_ofNat]
 rw[Nat.mod_eq_of_lt (by omega),Int.toNat_of_nonneg h1]
end
end Go.Proofs.YtokkbgpgaheakaaGreat
namespace Go.Proofs.YtokkbgpgaheakaaGreat
open Go.ChangeShapes Go.WideShapes Go.ChangeAt Go.RowKit
theorem AjL{α:Type}{l:List α}(h:l.length=3) : ∃ a b c,l = [a,b,c]:=by
 match l,h with
 | [a,b,c],_=>exact ⟨a,b,c,rfl⟩
theorem AkJ{α:Type}{l:List α}(h:l.length=5) : ∃ a b c d e,l = [a,b,c,d,e]:=by
 match l,h with
 | [a,b,c,d,e],_=>exact ⟨a,b,c,d,e,rfl⟩
inductive Fits:Arr→Prop where
 | mk {s:Co} {sh:List Int} {cs:List Cell} (h1:sh.length≤maxLen) (h2:cs.length≤maxLen) (h3 : ∀ c∈cs,c.n.top.length≤maxLen∧c.n.bot.length≤maxLen∧c.inn.length≤maxLen) (h5 : ∀ x∈sh,-9223372036854775808≤x∧x≤9223372036854775807)
  (h4 : ∀ c∈cs,∀ x∈c.inn,Fits x):Fits (.mk s sh cs)
theorem Ae8:(Ci Tryz.prog 64).map (fun fs=>fs.map (·.type))=some [4,62,62]:=by kernel_rfl
theorem AcW:(Ci Tryz.prog 67).map (fun fs=>fs.map (·.type))=some [22,3,64,3,65]:=by kernel_rfl
theorem Abs:(Ci Tryz.prog 26).map (fun fs=>fs.map (·.type))=some [22,23,24]:=by kernel_rfl
theorem Io{fs:List Field}{ts:List Nat}(h:fs.map (·.type)=ts){i t:Nat}(ht:ts[i]? = some t) : ∃ f,fs[i]? = some f∧f.type=t:=by
 subst h
 simpa [List.getElem?_map,Option.map_eq_some_iff]using ht
theorem Akn{w:World}{M:Nat→Prop}{y:D}{c:Nat→Option Value}(h:RdC Tryz.prog md w M (.ty 64) y c) : ∃ n,y=dN n∧n.top.length≤maxLen∧n.bot.length≤maxLen:=by
 obtain ⟨fs,hf,ht⟩:=Option.map_eq_some_iff.1 Ae8
 obtain ⟨ds,rfl,hl,hh⟩:=FU h hf
 have:fs.length=3:=by rw[← List.length_map (f:=(·.type)),ht];rfl
 obtain ⟨a,b,c,rfl⟩:=AjL (by rw[hl,this])
 obtain ⟨f0,hf0,e0⟩:=Io ht (i:=0) rfl
 obtain ⟨f1,hf1,e1⟩:=Io ht (i:=1) rfl
 obtain ⟨f2,hf2,e2⟩:=Io ht (i:=2) rfl
 obtain ⟨_,h0⟩:=hh 0 f0 a hf0 rfl
 obtain ⟨_,h1⟩:=hh 1 f1 b hf1 rfl
 obtain ⟨_,h2⟩:=hh 2 f2 c hf2 rfl
 rw[e0]at h0;rw[e1]at h1;rw[e2]at h2
 obtain ⟨n,rfl⟩:=Ajp h0 (by kernel_rfl)
 obtain ⟨t,rfl,l1⟩:=Acj h1 (e:=180) (by kernel_rfl) (by kernel_rfl)
 obtain ⟨t',rfl,l2⟩:=Acj h2 (e:=180) (by kernel_rfl) (by kernel_rfl)
 exact ⟨⟨n,t,t'⟩,rfl,l1,l2⟩
mutual
def D.sz:D→Nat
 | .agg fs=>1+D.szL fs | .sl es=>1+D.szL es | _=>0
def D.szL:List D→Nat
 | []=>0 | x::xs=>1+x.sz+D.szL xs
end
theorem Agf : ∀ (k:Nat) {w:World} {M:Nat→Prop} {y:D} {c:Nat→Option Value},y.sz<k→RdC Tryz.prog md w M (.ty 26) y c→∃ a,y=dA a∧Fits a
 | 0,_,_,_,_,hk,_=>by omega
 | k+1,w,M,y,c,hk,h=>by
  obtain ⟨fs,hf,ht⟩:=Option.map_eq_some_iff.1 Abs
  obtain ⟨ds,rfl,hl,hh⟩:=FU h hf
  have:fs.length=3:=by rw[← List.length_map (f:=(·.type)),ht];rfl
  obtain ⟨a,b,c,rfl⟩:=AjL (by rw[hl,this])
  obtain ⟨f0,hf0,e0⟩:=Io ht (i:=0) rfl
  obtain ⟨f1,hf1,e1⟩:=Io ht (i:=1) rfl
  obtain ⟨f2,hf2,e2⟩:=Io ht (i:=2) rfl
  obtain ⟨_,h0⟩:=hh 0 f0 a hf0 rfl
  obtain ⟨_,h1⟩:=hh 1 f1 b hf1 rfl
  obtain ⟨_,h2⟩:=hh 2 f2 c hf2 rfl
  rw[e0]at h0;rw[e1]at h1;rw[e2]at h2
  obtain ⟨s,rfl⟩:=Agh h0 (by kernel_rfl)
  obtain ⟨sh,rfl,l1,l1'⟩:=Ajq h1 (e:=3) (by kernel_rfl) (by kernel_rfl)
  obtain ⟨es,rfl,l2,hes⟩:=QX h2 (e:=67) (by kernel_rfl)
  have hsz:D.szL es<k:=by simp only[D.sz,D.szL]at hk;omega
  have key : ∃ cs:List Cell,es=cs.map dC∧(∀ c∈cs,c.n.top.length≤maxLen∧c.n.bot.length≤maxLen∧c.inn.length≤maxLen)∧∀ c∈cs,∀ x∈c.inn,Fits x:=by
   clear l2 h2 h hh h0 h1 hf0 hf1 hf2 e0 e1 e2 hl hk
   induction es with
   | nil=>exact ⟨[],rfl,(fun _ h=>by cases h),(fun _ h=>by cases h)⟩
   | cons x es ih =>
    simp only[D.szL]at hsz
    obtain ⟨cs,rfl,g1,g2⟩:=ih (fun y hy=>hes y (by simp[hy])) (by omega)
    obtain ⟨_,hx⟩:=hes x (by simp)
    obtain ⟨fs,hf,ht⟩:=Option.map_eq_some_iff.1 AcW
    obtain ⟨ds,rfl,hl,hh⟩:=FU hx hf
    have:fs.length=5:=by rw[← List.length_map (f:=(·.type)),ht];rfl
    obtain ⟨a,b,c,d,e,rfl⟩:=AkJ (by rw[hl,this])
    obtain ⟨f0,hf0,e0⟩:=Io ht (i:=0) rfl
    obtain ⟨f1,hf1,e1⟩:=Io ht (i:=1) rfl
    obtain ⟨f2,hf2,e2⟩:=Io ht (i:=2) rfl
    obtain ⟨f3,hf3,e3⟩:=Io ht (i:=3) rfl
    obtain ⟨f4,hf4,e4⟩:=Io ht (i:=4) rfl
    obtain ⟨_,h0⟩:=hh 0 f0 a hf0 rfl
    obtain ⟨_,h1⟩:=hh 1 f1 b hf1 rfl
    obtain ⟨_,h2⟩:=hh 2 f2 c hf2 rfl
    obtain ⟨_,h3⟩:=hh 3 f3 d hf3 rfl
    obtain ⟨_,h4⟩:=hh 4 f4 e hf4 rfl
    rw[e0]at h0;rw[e1]at h1;rw[e2]at h2;rw[e3]at h3;rw[e4]at h4
    obtain ⟨l,rfl⟩:=Agh h0 (by kernel_rfl)
    obtain ⟨kd,rfl,_⟩:=Z6 h1 (k:= .i64) (by kernel_rfl)
    obtain ⟨n,rfl,n1,n2⟩:=Akn h2
    obtain ⟨ch,rfl,_⟩:=Z6 h3 (k:= .i64) (by kernel_rfl)
    obtain ⟨as_,rfl,l4,has⟩:=QX h4 (e:=26) (by kernel_rfl)
    have hsz4:D.szL as_<k:=by simp only[D.sz,D.szL]at hsz;omega
    have key2 : ∃ bs:List Arr,as_=bs.map dA∧∀ x∈bs,Fits x:=by
      clear h4 hh hx hes ih l4 hsz hl
      induction as_ with
      | nil=>exact ⟨[],rfl,fun _ h=>by cases h⟩
      | cons z zs ihz =>
       simp only[D.szL]at hsz4
       obtain ⟨bs,rfl,hb⟩:=ihz (fun y hy=>has y (by simp[hy])) (by omega)
       obtain ⟨_,hz⟩:=has z (by simp)
       obtain ⟨a,rfl,ha⟩:=Agf k (by omega) hz
       exact ⟨a::bs,rfl,fun y hy=>by rcases List.mem_cons.1 hy with rfl | hy;exact ha;exact hb y hy⟩
    obtain ⟨bs,rfl,hb⟩:=key2
    refine ⟨⟨l,kd,n,ch,bs⟩::cs,by simp[F6],fun c hc=> ?_,fun c hc=> ?_⟩
    · rcases List.mem_cons.1 hc with rfl | hc
      · exact ⟨n1,n2,by simpa using l4⟩
      · exact g1 c hc
    · rcases List.mem_cons.1 hc with rfl | hc
      · exact hb
      · exact g2 c hc
  obtain ⟨cs,rfl,g1,g2⟩:=key
  exact ⟨.mk s sh cs,(Aky s sh cs),.mk l1 (by simpa using l2) g1 l1' g2⟩
def Ak1:List Nat:=[4,3,22,180,62,23,64,67,26,65,24]
theorem KZ:VN Tryz.prog Ak1=true:=by kernel_rfl
section
variable {H:Type} {enc:TypeId×Value→H} {W:World} {sp:Nat→Bool} {held:Bool} {r:Reach} {b0:Nat} {v:Value} {d:DataW H} {ps:List MemPlace}
theorem Ady(hval:Value.okWide Tryz.prog W r b0 26 v)(h:DataW.Trod enc Tryz.prog W 0 sp held 26 v d ps) : ∃ a,Fits a∧Rd Tryz.prog md W (fun _=>False) (.ty 26) (dA a) v:=by
 obtain ⟨y,hy,hyw⟩:=Afy (md:=md) ZM KZ (by decide) hval h
 obtain ⟨a,rfl,ha⟩:=Agf _ (Nat.lt_succ_self _) hy.rd
 exact ⟨a,ha,hy⟩
theorem AiB(hval:Value.okWide Tryz.prog W r b0 3 v)(h:DataW.Trod enc Tryz.prog W 0 sp held 3 v d ps) : ∃ a:Int,(-9223372036854775808≤a∧a≤9223372036854775807)∧Rd Tryz.prog md W (fun _=>False) (.ty 3) (.int a) v:=by
 obtain ⟨y,hy,hyw⟩:=Afy (md:=md) ZM KZ (by decide) hval h
 obtain ⟨a,rfl,h1,h2⟩:=Z6 hy.rd (k:= .i64) (by kernel_rfl)
 exact ⟨a,⟨h1,h2⟩,hy⟩
end
end Go.Proofs.YtokkbgpgaheakaaGreat
namespace Go.Proofs.YtokkbgpgaheakaaGreat
theorem Fits.len {a:Arr} (h:Fits a):a.cells.length≤9223372036854775807:=by cases h;assumption
theorem Fits.sh {a:Arr} (h:Fits a):a.shape.length≤9223372036854775807:=by cases h;assumption
def Vt(c:Cell):Prop:=c.n.top.length≤9223372036854775807∧c.n.bot.length≤9223372036854775807∧c.inn.length≤9223372036854775807∧∀ x∈c.inn,Fits x
theorem Fits.cell {a:Arr} (h:Fits a) : ∀ c∈a.cells,Vt c:=by
 cases h with
 | mk h1 h2 h3 h5 h4=>exact fun c hc=>⟨(h3 c hc).1,(h3 c hc).2.1,(h3 c hc).2.2,h4 c hc⟩
theorem Fits.of {s:Co} {sh:List Int} {cs:List Cell} (h1:sh.length≤9223372036854775807) (h2:cs.length≤9223372036854775807) (h3 : ∀ x∈sh,Cv x) (h4 : ∀ c∈cs,Vt c):Fits (.mk s sh cs) :=
 .mk h1 h2 (fun c hc=>⟨(h4 c hc).1,(h4 c hc).2.1,(h4 c hc).2.2.1⟩) h3 (fun c hc=>(h4 c hc).2.2.2)
mutual
def Bq:Arr→Co
 | .mk s _ cs=>ST s cs
def ST:Co→List (CellF Arr)→Co
 | l,[]=>l
 | l,c::cs=>ST (OH l c) cs
def OH:Co→CellF Arr→Co
 | l,⟨cl,_,_,_,inn⟩=>SR (l|||cl) inn
def SR:Co→List Arr→Co
 | l,[]=>l
 | l,a::as_=>SR (l|||Bq a) as_
end
theorem SS : ∀ (as_:List Arr) (l:Co),SR l as_=as_.foldl (fun l x=>l|||Bq x) l
 | [],l=>by simp[SR]
 | a::as_,l=>by simp[SR,SS as_]
theorem Ael(l:Co)(c:Cell):OH l c=c.inn.foldl (fun l x=>l|||Bq x) (l|||c.l):=by cases c;rw[OH,SS]
theorem SU : ∀ (cs:List Cell) (l:Co),ST l cs=cs.foldl OH l
 | [],l=>by simp[ST]
 | c::cs,l=>by simp[ST,SU cs]
theorem Aek(a:Arr):Bq a=a.cells.foldl OH a.s:=by cases a;rw[Bq,SU];rfl
def Hd(a:Arr):Bool:=match a.shape,a.cells with
 | [],[c]=>decide (¬ c.kind=2)
 | _,_=>false
def Xz(c:Cell)(r:Arr→Bool):Bool:=match c.inn with
 | [x]=> !Hd x&&r x
 | _=>false
def Gw(k:Bool)(r:Arr→Bool)(c:Cell):Bool :=
 if c.kind=0 then decide (c.c=0∧c.inn.length=0)&&Ge c.n
 else if c.kind=1 then decide (c.n = .zero∧c.inn.length=0)&&AeP c.c
 else decide (c.kind=2∧c.n = .zero∧c.c=0)&&(k&&Xz c r)
def A8:Nat→Arr→Bool
 | 0,a=>decide (Ay a.shape=((a.cells.length:Int),0))&&a.cells.all (Gw false (fun _=>false))
 | d+1,a=>decide (Ay a.shape=((a.cells.length:Int),0))&&a.cells.all (Gw true (A8 d))
def B7:Nat→Cell→Bool
 | 0=>Gw false (fun _=>false)
 | d+1=>Gw true (A8 d)
theorem GG(d:Nat)(a:Arr):A8 d a=(decide (Ay a.shape=((a.cells.length:Int),0))&&a.cells.all (B7 d)):=by cases d <;> rfl
theorem Adp{Q:List D→Prop}(a:Arr)(hq:Q [.bool (Hd a)]):(Tree.br (decide ((a.shape.length:Int)=0)) (.br (decide ((a.cells.length:Int)=1)) (.br (decide (0≤(0:Int))) (.br (decide (0<(a.cells.length:Int))) (.ret [D.bool (decide (¬ (((((a.cells.map dC).getD (Int.toNat 0) D.nil).fld 1).toInt)=2)))]) .fail) .fail) (.ret [D.bool false])) (.ret [D.bool false])).wp Tryz.prog md Q:=by
 unfold Hd at hq
 refine Ad (fun h1=>Ad (fun h2=> ?_) (fun h2=>Ac ?_)) (fun h1=>Ac ?_)
 · match hs:a.shape,hc:a.cells with
   | [],[c] =>
    rw[hs,hc]at hq
    exact Ae (At (by simp) (Ac (by simpa [Int.toNat]using hq)))
   | x::xs,_=>rw[hs]at h1;simp at h1;omega
   | _,[]=>rw[hc]at h2;simp at h2
   | _,x::y::xs=>rw[hc]at h2;simp at h2;omega
 · match hs:a.shape,hc:a.cells with
   | [],[c]=>rw[hc]at h2;simp at h2
   | x::xs,_=>rw[hs]at hq;exact hq
   | [],[]=>rw[hs,hc]at hq;exact hq
   | [],x::y::xs=>rw[hs,hc]at hq;exact hq
 · match hs:a.shape,hc:a.cells with
   | [],_=>rw[hs]at h1;simp at h1
   | x::xs,_=>rw[hs]at hq;exact hq
theorem RK(a:Arr):Sp 136 [dA a] [.bool (Hd a)]:=by
 refine Ag 0 (KA _ _) ?_
 simp only[As]
 exact Adp a rfl
theorem CU(n:Num):Sp 134 [dN n] [.bool (decide (n = .zero))]:=by
 refine Ag 0 (RM _ _) ?_
 simp only[MD,TZ,ME,Bu,List.length_map,Al,Bz]
 have e:(n=Num.zero)↔(n.neg=false∧n.top.length=0∧n.bot.length=0):=by
  rw[AbN,List.length_eq_zero_iff,List.length_eq_zero_iff];rfl
 refine Df (fun h1=>Ad (fun h2=>Ac ?_) (fun h2=>Ac ?_)) (fun h1=>Ac ?_)
 · congr 2;rw[decide_eq_decide,e];exact ⟨fun h=>⟨by simpa using h1,by omega,by omega⟩,fun h=>by omega⟩
 · rw[decide_eq_false];rw[e];omega
 · rw[decide_eq_false];rw[e];simp at h1;simp[h1]
theorem Yi(d:Nat)(c:Cell)(hc:Vt c)(hd:d≤100)(ih : ∀ e,e+1=d→∀ a,Fits a→Sp 13 [dA a,.int (e:Int)] [.bool (A8 e a)]):Sp 53 [dC c,.int (d:Int)] [.bool (B7 d c)]:=by
 suffices key : ∀ (k:Bool) (r:Arr→Bool),(k=true↔0<d)→(∀ a,k=true→Fits a→Sp 13 [dA a,.int ((d:Int)-1)] [.bool (r a)])→Sp 53 [dC c,.int (d:Int)] [.bool (Gw k r c)] by
   cases d with
   | zero=>exact key false (fun _=>false) (by simp) (by simp)
   | succ e=>exact key true (A8 e) (by simp) (fun a _ ha=>by have:=ih e rfl a ha;simpa using this)
 intro k r hk hr
 refine Ag 0 (RH _ _ _) ?_
 simp only[As]
 unfold Gw
 refine Ad (fun h0=> ?_) (fun h0=> ?_)
 · rw[if_pos h0]
   refine Ad (fun h1=>Ad (fun h2=>Aa (WV c.n) (Ac ?_)) (fun h2=>Ac ?_)) (fun h1=>Ac ?_)
   · rw[decide_eq_true ⟨h1,by omega⟩];rfl
   · rw[decide_eq_false (by omega)];rfl
   · rw[decide_eq_false (by omega)];rfl
 rw[if_neg h0]
 refine Ad (fun h0=>Aa (CU c.n) ?_) (fun h0=> ?_)
 · rw[if_pos h0]
   simp only[Af,Al]
   refine Ad (fun h1=>Ad (fun h2=>Aa (Acs c.c) (Ac ?_)) (fun h2=>Ac ?_)) (fun h1=>Ac ?_)
   · rw[decide_eq_true ⟨h1,by omega⟩];rfl
   · rw[decide_eq_false (fun hh=>h2 (by omega))];rfl
   · rw[decide_eq_false (fun hh=>h1 hh.1)];rfl
 rw[if_neg h0]
 refine Ad (fun h0=>Aa (CU c.n) ?_) (fun h0=>Ac (by rw[decide_eq_false (fun hh=>h0 hh.1)];rfl))
 simp only[Af,Al]
 refine Ad (fun h1=>Ad (fun h2=>Ad (fun h3=>Ad (fun h4=> ?_) (fun h4=>Ac ?_)) (fun h3=>Ac ?_)) (fun h2=>Ac ?_)) (fun h1=>Ac ?_)
 · have hkt:=hk.2 (by omega)
   rw[show decide (c.kind=2∧c.n = .zero∧c.c=0)=true from decide_eq_true ⟨h0,h1,h2⟩,hkt,Bool.true_and,Bool.true_and]
   unfold Xz
   match hi:c.inn with
   | []=>rw[hi]at h3;simp at h3
   | x::y::xs=>rw[hi]at h3;simp at h3;omega
   | [x] =>
    simp only[List.map_cons,List.map_nil,Int.toNat_zero,Af,List.length_cons,List.length_nil]
    refine Ae (Ae (Aa (RK x) ?_))
    simp only[Af,Al]
    refine Df (fun h5=>Ae (Ae ?_)) (fun h5=>Ac (by rw[h5];rfl))
    rw[Ap (by omega) (by omega)]
    refine Aa (hr x hkt (hc.2.2.2 x (by rw[hi];simp))) (Ac ?_)
    rw[h5];rfl
 · have:k=false:=by cases k with
    | false=>rfl
    | true=>exact absurd (hk.1 rfl) (by omega)
   rw[this,Bool.false_and,Bool.and_false]
 · have:Xz c r=false:=by
    unfold Xz
    match hi:c.inn with
    | []=>rfl
    | x::y::xs=>rfl
    | [x]=>rw[hi]at h3;simp at h3
   rw[this,Bool.and_false,Bool.and_false]
 · rw[decide_eq_false (fun hh=>h2 hh.2.2)];rfl
 · rw[decide_eq_false (fun hh=>h1 hh.2.1)];rfl
theorem Xl(d:Nat)(a:Arr)(ha:Fits a)(ih : ∀ c,Vt c→Sp 53 [dC c,.int (d:Int)] [.bool (B7 d c)]):Sp 13 [dA a,.int (d:Int)] [.bool (A8 d a)]:=by
 have hl:=ha.len
 refine Ag (a.cells.length+1) (NV _ _ _) ?_
 simp only[As]
 refine Aa (XA a.shape) ?_
 rw[GG]
 simp only[Af,Ce,Ah]
 refine Ad (fun h=>Ac ?_) (fun h=>Ad (fun h'=>Ac ?_) (fun h'=> ?_))
 · rw[decide_eq_false];rfl
   intro hh;rw[hh]at h;exact h rfl
 · rw[decide_eq_false];rfl
   intro hh;rw[hh]at h';exact h' rfl
 · have hc:Ay a.shape=((a.cells.length:Int),0):=Prod.ext (by simpa using h') (by simpa using h)
   rw[hc,decide_eq_true rfl,Bool.true_and]
   have key:=A7 (P:=Tryz.prog) (md:=md) a.cells (fun m k (_:Unit)=>Nf (a.cells.length+1) m (d:Int) (a.cells.length:Int) (k:Int) (dA a)) (fun rest _=>[.bool (rest.all (B7 d))]) (fun _ _=>True)
    (fun m k s hk _=>by
     simp only[R7]
     exact Am (by omega) (Ac rfl))
    (fun m k s x rest hd _ ih'=>by
     obtain ⟨h1,h2,h3⟩:=Az hd
     simp only[R7,As,Aj h2,An (show k<9223372036854775807 by omega)]
     repeat (refine Ae ?_)
     refine Aa (ih x (ha.cell x (List.mem_of_getElem? h2))) ?_
     simp only[Af,Al,List.all_cons]
     refine Df (fun h4=>Ac ?_) (fun h4=> ?_)
     · simp at h4;rw[h4];rfl
     · simp at h4;rw[h4,Bool.true_and];exact ih' () trivial)
    (a.cells.length+1) 0 () (by omega) (by omega) trivial
   exact key
theorem Yj : ∀ d:Nat,d≤100→(∀ c,Vt c→Sp 53 [dC c,.int (d:Int)] [.bool (B7 d c)])∧∀ a,Fits a→Sp 13 [dA a,.int (d:Int)] [.bool (A8 d a)]
 | 0,hd=>by
  have hc : ∀ c,Vt c→Sp 53 [dC c,.int ((0:Nat):Int)] [.bool (B7 0 c)]:=fun c hc=>Yi 0 c hc hd (fun e he=>by omega)
  exact ⟨hc,fun a ha=>Xl 0 a ha hc⟩
 | d+1,hd=>by
  have ih:=Yj d (by omega)
  have hc : ∀ c,Vt c→Sp 53 [dC c,.int ((d+1:Nat):Int)] [.bool (B7 (d+1) c)]:=fun c hc=>Yi (d+1) c hc hd (fun e he=>by
   have:e=d:=by omega
   subst this;exact ih.2)
  exact ⟨hc,fun a ha=>Xl (d+1) a ha hc⟩
theorem XD(a:Arr)(ha:Fits a):Sp 13 [dA a,.int 8] [.bool (A8 8 a)]:=(Yj 8 (by decide)).2 a ha
def HV(x:Int):Int:=IntKind.wrap .i64 x
def EY(r:Arr→Int→Int):List Arr→Int→Int
 | [],n=>n
 | a::as_,n=>if 0≤n then EY r as_ (r a n) else n
def EZ(r:Arr→Int→Int):List Cell→Int→Int
 | [],n=>n
 | c::cs,n=>if 0≤n then EZ r cs (EY r c.inn (HV (HV (HV (n-1)-(c.n.top.length:Int))-(c.n.bot.length:Int)))) else n
def IX:Nat→Arr→Int→Int
 | 0,_,_=> -1
 | d+1,a,n=>EZ (IX d) a.cells (HV (HV (n-1)-(a.shape.length:Int)))
def AjH(a:Arr):Bool:=decide (0≤IX 12 a 4000)
theorem CS : ∀ (d:Nat),d≤100→∀ (a:Arr),Fits a→∀ n:Int,Sp 161 [dA a,.int (d:Int),.int n] [.int (IX d a n)]
 | 0,_,a,ha,n=>Ag 0 (Yk _ _ _ _) (Ba rfl (Ac rfl))
 | d+1,hd,a,ha,n=>by
  obtain ⟨N,hN⟩:=TT
  have hl:=ha.len
  refine Ag N (Yk _ _ _ _) ?_
  simp only[As]
  refine Am (by omega) ?_
  have key:=A7 (P:=Tryz.prog) (md:=md) a.cells (fun m k (n:Int)=>Ld N m ((d+1:Nat):Int) n (k:Int) (dA a)) (fun rest n=>[.int (EZ (IX d) rest n)]) (fun _ _=>True)
   (fun m k n hk _=>by
    simp only[Uw,As]
    exact Am (by omega) (Ac rfl))
   (fun m k n c rest hdr _ ih=>by
    obtain ⟨h1,h2,h3⟩:=Az hdr
    have hc:=ha.cell c (List.mem_of_getElem? h2)
    have hlc:=hc.2.2.1
    simp only[Uw,As,Aj h2,EZ]
    refine Ae (Ad (fun hn=> ?_) (fun hn=>Ac (by rw[if_neg hn])))
    rw[if_pos hn]
    repeat (refine Ae ?_)
    have key:=A7 (P:=Tryz.prog) (md:=md) c.inn (fun m' j (n:Int)=>Pb N m m' ((d+1:Nat):Int) n (k:Int) (j:Int) (dA a)) (fun rest' n=>[.int (EZ (IX d) rest (EY (IX d) rest' n))]) (fun _ _=>True)
     (fun m' j n hj _=>by
      simp only[Ux,As,Aj h2,An (show k<9223372036854775807 by omega),EY]
      repeat (refine Ae ?_)
      exact Am (by omega) (ih _ trivial))
     (fun m' j n x rest' hdr' _ ih'=>by
      obtain ⟨g1,g2,g3⟩:=Az hdr'
      simp only[Ux,As,Aj h2,Aj g2,An (show k<9223372036854775807 by omega),An (show j<9223372036854775807 by omega),EY]
      refine Ae (Ae (Ae (Ad (fun hn=> ?_) (fun hn=>by rw[if_neg hn];exact ih _ trivial))))
      rw[if_pos hn]
      repeat (refine Ae ?_)
      rw[Ap (by omega) (by omega),show ((d+1:Nat):Int)-1=(d:Int) by omega]
      exact Aa (CS d (by omega) x (hc.2.2.2 x (List.mem_of_getElem? g2)) n) (ih' _ trivial))
     N 0 (HV (HV (HV (n-1)-(c.n.top.length:Int))-(c.n.bot.length:Int))) (by omega) (by omega) trivial
    exact key)
   N 0 (HV (HV (n-1)-(a.shape.length:Int))) (by omega) (by omega) trivial
  exact key
theorem Acv(a:Arr)(ha:Fits a):Sp 75 [dA a] [.bool (AjH a)]:=Ag 0 (XB _ _) (Aa (CS 12 (by decide) a ha 4000) (Ac rfl))
def SO:List Int→Int→Int
 | [],n=>n
 | x::xs,n=>if n≤100000 then SO xs (if 0<x then HV (n*x) else n) else n
def okT(n:Int):Bool:=decide (¬ 100000<n)
mutual
def JI:Arr→Bool
 | .mk _ sh cs=>okT (SO sh 1)&&N_ cs
def N_:List (CellF Arr)→Bool
 | []=>true
 | c::cs=>Afp c&&N_ cs
def Afp:CellF Arr→Bool
 | ⟨_,_,_,_,inn⟩=>AC inn
def AC:List Arr→Bool
 | []=>true
 | a::as_=>JI a&&AC as_
end
theorem AhW(a:Arr):JI a=(okT (SO a.shape 1)&&N_ a.cells):=by cases a;rw[JI];rfl
theorem AhX(c:Cell):Afp c=AC c.inn:=by cases c;rw[Afp]
theorem Aa3(a:Arr):Fits a→Sp 76 [dA a] [.bool (JI a)]:=by
 induction a using Arr.ind with
 | h s sh cs IH =>
  intro ha
  have hl:=ha.len
  have hs:=ha.sh
  have IH' : ∀ c∈(Arr.mk s sh cs).cells,∀ x∈c.inn,Fits x→Sp 76 [dA x] [.bool (JI x)]:=IH
  generalize Arr.mk s sh cs=a at *
  obtain ⟨N,hN⟩:=TT
  refine Ag N (RL _ _) ?_
  rw[AhW]
  have inner:Tw (Gs N N 0 (dA a)) [.bool (N_ a.cells)]:=by
   have key:=A7 (P:=Tryz.prog) (md:=md) a.cells (fun m k (_:Unit)=>Gs N m (k:Int) (dA a)) (fun rest _=>[.bool (N_ rest)]) (fun _ _=>True)
    (fun m k n hk _=>by
     simp only[R8,As]
     exact Am (by omega) (Ac (by rw[N_])))
    (fun m k n c rest hdr _ ih=>by
     obtain ⟨h1,h2,h3⟩:=Az hdr
     have hc:=ha.cell c (List.mem_of_getElem? h2)
     have hlc:=hc.2.2.1
     simp only[R8,As,Aj h2]
     repeat (refine Ae ?_)
     rw[N_,AhX]
     have key:=A7 (P:=Tryz.prog) (md:=md) c.inn (fun m' j (_:Unit)=>Nh N m m' (k:Int) (j:Int) (dA a)) (fun rest' _=>[.bool (AC rest'&&N_ rest)]) (fun _ _=>True)
      (fun m' j n hj _=>by
       simp only[R9,As,Aj h2,An (show k<9223372036854775807 by omega)]
       repeat (refine Ae ?_)
       rw[AC,Bool.true_and]
       exact Am (by omega) (ih () trivial))
      (fun m' j n x rest' hdr' _ ih'=>by
       obtain ⟨g1,g2,g3⟩:=Az hdr'
       simp only[R9,As,Aj h2,Aj g2,An (show j<9223372036854775807 by omega)]
       repeat (refine Ae ?_)
       refine Aa (IH' c (List.mem_of_getElem? h2) x (List.mem_of_getElem? g2) (hc.2.2.2 x (List.mem_of_getElem? g2))) ?_
       simp only[Af,Al]
       rw[AC]
       refine Df (fun e=>Ac ?_) (fun e=> ?_)
       · simp at e;rw[e];rfl
       · simp at e;rw[e,Bool.true_and];exact ih' () trivial)
      N 0 () (by omega) (by omega) trivial
     exact key)
    N 0 () (by omega) (by omega) trivial
   exact key
  have fin : ∀ n:Int,Tw (.br (decide (100000<n)) (.ret [D.bool false]) (Gs N N 0 (dA a))) [.bool (okT n&&N_ a.cells)]:=fun n=>by
   unfold okT
   refine Ad (fun h=>Ac ?_) (fun h=> ?_)
   · rw[decide_eq_false (fun hh=>hh h)];rfl
   · rw[decide_eq_true h,Bool.true_and];exact inner
  have key:=A7 (P:=Tryz.prog) (md:=md) a.shape (fun m k (n:Int)=>Le N m n (k:Int) (dA a)) (fun rest n=>[.bool (okT (SO rest n)&&N_ a.cells)]) (fun _ _=>True)
   (fun m k n hk _=>by
    simp only[Uy,As]
    exact Am (by omega) (fin n))
   (fun m k n x rest hdr _ ih=>by
    obtain ⟨h1,h2,h3⟩:=Az hdr
    simp only[Uy,As,Aj h2,An (show k<9223372036854775807 by omega),SO]
    refine Ae (Ad (fun hn=>Ae (Ae (Ad (fun hx=>Ae (Ae ?_)) (fun hx=> ?_)))) (fun hn=> ?_))
    · rw[if_pos hn,if_pos hx];exact ih _ trivial
    · rw[if_pos hn,if_neg hx];exact ih _ trivial
    · rw[if_neg hn];exact fin n)
   N 0 1 (by omega) (by omega) trivial
  exact key
def AaC(a:Arr):Bool:=AjH a&&A8 8 a&&JI a
theorem CR(a:Arr)(ha:Fits a):Sp 30 [dA a] [.bool (AaC a)]:=by
 refine Ag 0 (RI _ _) (Aa (Acv a ha) ?_)
 unfold AaC
 simp only[Af,Al]
 refine Df (fun e1=>Aa (XD a ha) ?_) (fun e1=>Ac (by rw[e1];rfl))
 simp only[Af,Al]
 refine Df (fun e2=>Aa (Aa3 a ha) (Ac ?_)) (fun e2=>Ac (by rw[e2,Bool.and_false];rfl))
 rw[e1,e2];rfl
noncomputable def EG(a b:Arr):Bool:= @decide (a=b) (Classical.propDecidable _)
noncomputable def KV(a b:Cell):Bool:= @decide (a=b) (Classical.propDecidable _)
theorem Sj{a b:Arr} : EG a b=true↔a=b:=by unfold EG;exact @decide_eq_true_iff _ (Classical.propDecidable _)
theorem EH{a b:Arr}(h:a≠b):EG a b=false:=by cases e:EG a b with
 | false=>rfl
 | true=>exact absurd (Sj.1 e) h
theorem Wg{a b:Cell} : KV a b=true↔a=b:=by unfold KV;exact @decide_eq_true_iff _ (Classical.propDecidable _)
theorem Ub{a b:Cell}(h:a≠b):KV a b=false:=by cases e:KV a b with
 | false=>rfl
 | true=>exact absurd (Wg.1 e) h
theorem AgV(a:Cell):KV a a=true:=Wg.2 rfl
theorem Ad4(a b:Cell):(a=b)↔(a.l=b.l∧a.kind=b.kind∧a.c=b.c∧a.n=b.n∧a.inn=b.inn):=by
 cases a;cases b
 constructor
 · rintro ⟨⟩;exact ⟨rfl,rfl,rfl,rfl,rfl⟩
 · rintro ⟨h1,h2,h3,h4,h5⟩;dsimp only at h1 h2 h3 h4 h5;subst h1;subst h2;subst h3;subst h4;subst h5;rfl
theorem AaV(a b:Arr):(a=b)↔(a.s=b.s∧a.shape=b.shape∧a.cells=b.cells):=by
 cases a;cases b;simp
theorem ZE{α:Type}{P:Program}{md:Nat→FMode}(a b:List α)(e:α→α→Bool)(he : ∀ x∈a,∀ y,e x y=true↔x=y)(hlen:a.length=b.length)(r:Bool)(hr:r=true↔a=b)(L:Nat→Nat→Tree)
  (hend : ∀ m,∀ Q:List D→Prop,Q [.bool true]→(L (m+1) a.length).wp P md Q)
  (hstep : ∀ m k x y,∀ Q:List D→Prop,a[k]? = some x→b[k]? = some y→(e x y=false→Q [.bool false])→(e x y=true→(L m (k+1)).wp P md Q)→(L (m+1) k).wp P md Q) (N:Nat) (hN:a.length<N):(L N 0).wp P md (fun zs=>zs = [.bool r]):=by
 have key:=C4 (P:=P) (md:=md) a.length (fun m k (_:Unit)=>L m k) (fun _ _=>[.bool r]) (fun k _=>a.take k=b.take k)
  (fun m s h=>by
   refine hend m _ ?_
   rw[List.take_of_length_le (Nat.le_refl _),List.take_of_length_le (by omega)]at h
   rw[hr.2 h])
  (fun m k s hk h ih=>by
   have ha:a[k]? = some a[k]:=List.getElem?_eq_getElem _
   have hb:b[k]? = some (b[k]'(by omega)):=List.getElem?_eq_getElem _
   refine hstep m k _ _ _ ha hb (fun hf=> ?_) (fun ht=>ih () ?_)
   · have:r=false:=by
      cases hrr:r with
      | false=>rfl
      | true =>
       have:=hr.1 hrr
       subst this
       rw[(he a[k] (List.getElem_mem _) a[k]).2 rfl]at hf;cases hf
     rw[this]
   · have:a[k]=b[k]:=(he a[k] (List.getElem_mem _) _).1 ht
     rw[List.take_succ_eq_append_getElem hk,List.take_succ_eq_append_getElem (by omega),h,this])
  N 0 () (by omega) (by omega) (by simp)
 exact key
theorem DC(a:Cell)(hf:Vt a)(ih : ∀ x∈a.inn,Fits x→∀ y,Sp 34 [dA x,dA y] [.bool (EG x y)])(b:Cell):Sp 79 [dC a,dC b] [.bool (KV a b)]:=by
 refine Ag (a.inn.length+1) (DD _ _ _) ?_
 have hl:=hf.2.2.1
 simp only[As]
 refine Ad (fun h=>Ac ?_) (fun h1=>Ad (fun h=>Ac ?_) (fun h2=>Ad (fun h=>Ac ?_) (fun h3=>Aa (CQ a.n b.n hf.1 hf.2.1) ?_)))
 · rw[Ub];rintro rfl;exact h rfl
 · rw[Ub];rintro rfl;exact h rfl
 · rw[Ub];rintro rfl;exact h rfl
 simp only[Af,Al,Fo]
 refine Ad (fun h=>Ac ?_) (fun h4=>Ad (fun h=>Ac ?_) (fun h5=> ?_))
 · rw[Ub];rintro rfl;exact h rfl
 · rw[Ub];rintro rfl;exact h rfl
 have e1:a.l=b.l:=BitVec.eq_of_toNat_eq (by omega)
 refine ZE (P:=Tryz.prog) (md:=md) a.inn b.inn EG (fun x _ y=>Sj) (by omega) (KV a b) ?_ (fun m k=>J2 (a.inn.length+1) m (k:Int) (dC a) (dC b)) ?_ ?_ (a.inn.length+1) (by omega)
 · rw[Wg,Ad4]
   have h2':=Classical.not_not.1 h2
   have h3':=Classical.not_not.1 h3
   have h4':=Classical.not_not.1 h4
   simp[e1,h2',h3',h4']
 · intro m Q hQ
   simp only[N9,As]
   exact Am (by omega) (Ac hQ)
 · intro m k x y Q hx hy hF hT
   have hk:k<a.inn.length:=(List.getElem?_eq_some_iff.1 hx).1
   simp only[N9,As,Aj hx,Aj hy,An (show k<9223372036854775807 by omega)]
   repeat (refine Ae ?_)
   refine Aa (ih x (List.mem_of_getElem? hx) (hf.2.2.2 x (List.mem_of_getElem? hx)) y) ?_
   simp only[Af,Al]
   refine Df (fun h=>Ac (hF (by simpa using h))) (fun h=>hT (by simpa using h))
theorem Aa2(a:Arr):Fits a→∀ b,Sp 34 [dA a,dA b] [.bool (EG a b)]:=by
 induction a using Arr.ind with
 | h s sh cs IH =>
  intro ha b
  have hl:=ha.len
  have IH' : ∀ c∈(Arr.mk s sh cs).cells,∀ x∈c.inn,Fits x→∀ y,Sp 34 [dA x,dA y] [.bool (EG x y)]:=IH
  generalize Arr.mk s sh cs=a at *
  refine Ag (a.cells.length+1) (RJ _ _ _) ?_
  simp only[As]
  refine Ad (fun h=>Ac ?_) (fun h1=>Aa (Aa1 a.shape b.shape ha.sh) ?_)
  · rw[EH];rintro rfl;exact h rfl
  simp only[Af,Al,Fo]
  refine Ad (fun h=>Ac ?_) (fun h4=>Ad (fun h=>Ac ?_) (fun h5=> ?_))
  · rw[EH];rintro rfl;exact h rfl
  · rw[EH];rintro rfl;exact h rfl
  have e1:a.s=b.s:=BitVec.eq_of_toNat_eq (by omega)
  refine ZE (P:=Tryz.prog) (md:=md) a.cells b.cells KV (fun x _ y=>Wg) (by omega) (EG a b) ?_ (fun m k=>Pa (a.cells.length+1) m (k:Int) (dA a) (dA b)) ?_ ?_ (a.cells.length+1) (by omega)
  · rw[Sj,AaV]
    have h4':=Classical.not_not.1 h4
    simp[e1,h4']
  · intro m Q hQ
    simp only[Uv,As]
    exact Am (by omega) (Ac hQ)
  · intro m k x y Q hx hy hF hT
    have hk:k<a.cells.length:=(List.getElem?_eq_some_iff.1 hx).1
    simp only[Uv,As,Aj hx,Aj hy,An (show k<9223372036854775807 by omega)]
    repeat (refine Ae ?_)
    refine Aa (DC x (ha.cell x (List.mem_of_getElem? hx)) (IH' x (List.mem_of_getElem? hx)) y) ?_
    simp only[Af,Al]
    refine Df (fun h=>Ac (hF (by simpa using h))) (fun h=>hT (by simpa using h))
def I9:List Cell→Option (List Int)
 | []=>some []
 | c::cs=>if c.kind=0 then (D_ c.n).bind (fun z=>(I9 cs).map (z:: ·)) else none
def Bc(a:Arr):List Int×Int:=if 1<a.shape.length then ([],5) else match I9 a.cells with
 | some l=>(l,0)
 | none=>([],3)
def B5(z:Int):Cell:=⟨0,0,G4 z,0,[]⟩
def Eg(a:Arr):Cell:=match a.cells with
 | []=>B5 0
 | c::_=>if c.kind=1 then ⟨c.l,1,.zero,32,[]⟩ else ⟨c.l,0,G4 0,0,[]⟩
theorem Afn{n:Num}{z:Int}(h:D_ n=some z):Cv z:=by
 unfold D_ ZG at h
 split at h
 · split at h
   · injection h with h;subst h;assumption
   · cases h
 · cases h
theorem Vz : ∀ {cs:List Cell} {l:List Int},I9 cs=some l→l.length=cs.length∧∀ x∈l,Cv x
 | [],l,h=>by simp[I9]at h;subst h;simp
 | c::cs,l,h=>by
  simp only[I9]at h
  split at h
  · cases hn:D_ c.n with
    | none=>rw[hn]at h;cases h
    | some z =>
     rw[hn]at h
     cases hc:I9 cs with
     | none=>rw[hc]at h;cases h
     | some l' =>
      rw[hc]at h
      injection h with h;subst h
      have:=Vz hc
      exact ⟨by simp[this.1],fun x hx=>by rcases List.mem_cons.1 hx with rfl | hx;exact Afn hn;exact this.2 x hx⟩
  · cases h
def AeE(out:List Int):Option (List Int)→List D
 | some l=>[dI (out++l),.int 0]
 | none=>[.sl [],.int 3]
theorem AeF{a:Arr}(h : ¬ 1<a.shape.length):AeE [] (I9 a.cells) = [dI (Bc a).1,.int (Bc a).2]:=by
 unfold Bc;rw[if_neg h];cases I9 a.cells <;> rfl
theorem GF(z:Int)(hz:Cv z):Sp 78 [.int z] [dC (B5 z)]:=by
 refine Ag 0 (XC _ _) (Aa (Adk z hz) (Ac ?_))
 rw[F6];rfl
theorem Cb(a:Arr):Fits a→Sp 84 [dA a] [dB (Bq a)]:=by
 induction a using Arr.ind with
 | h s sh cs IH =>
  intro ha
  have hl:=ha.len
  have IH' : ∀ c∈(Arr.mk s sh cs).cells,∀ x∈c.inn,Fits x→Sp 84 [dA x] [dB (Bq x)]:=IH
  generalize Arr.mk s sh cs=a at *
  obtain ⟨N,hN⟩:=TT
  refine Ag N (LX _ _) ?_
  rw[Aek]
  have key:=A7 (P:=Tryz.prog) (md:=md) a.cells (fun m k (l:Co)=>Mt N m (l.toNat:Int) (.sl (a.cells.map dC)) (a.cells.length:Int) (k:Int)) (fun rest l=>[dB (rest.foldl OH l)]) (fun _ _=>True)
   (fun m k l hk _=>by
    simp only[Rv,As]
    exact Am (by omega) (Ac rfl))
   (fun m k l c rest hdr _ ih=>by
    obtain ⟨h1,h2,h3⟩:=Az hdr
    have hc:=ha.cell c (List.mem_of_getElem? h2)
    have hlc:=hc.2.2.1
    simp only[Rv,As,Aj h2]
    repeat (refine Ae ?_)
    refine Aa (Dc l c.l) ?_
    simp only[Af,Ds,List.foldl_cons]
    rw[Ael]
    have key:=A7 (P:=Tryz.prog) (md:=md) c.inn (fun m' j (l:Co)=>Mu N m m' (l.toNat:Int) (.sl (a.cells.map dC)) (a.cells.length:Int) (k:Int) (.sl (c.inn.map dA)) (c.inn.length:Int) (j:Int)) (fun rest' l=>[dB (rest.foldl OH (rest'.foldl (fun l x=>l|||Bq x) l))]) (fun _ _=>True)
     (fun m' j l hj _=>by
      simp only[Rw,As,Aj h2,An (show k<9223372036854775807 by omega)]
      exact Am (by omega) (ih _ trivial))
     (fun m' j l x rest' hdr' _ ih'=>by
      obtain ⟨g1,g2,g3⟩:=Az hdr'
      simp only[Rw,As,Aj h2,Aj g2,An (show j<9223372036854775807 by omega)]
      repeat (refine Ae ?_)
      refine Aa (IH' c (List.mem_of_getElem? h2) x (List.mem_of_getElem? g2) (hc.2.2.2 x (List.mem_of_getElem? g2))) (Aa (Dc l (Bq x)) ?_)
      exact ih' (l|||Bq x) trivial)
     N 0 (l|||c.l) (by omega) (by omega) trivial
    exact key)
   N 0 a.s (by omega) (by omega) trivial
  simp only[As]
  exact key
theorem Fr(a:Arr)(hl:a.cells.length≤2048)(hn : ∀ c∈a.cells,c.n.top.length≤32):Sp 80 [dA a] [dI (Bc a).1,.int (Bc a).2]:=by
 refine Ag (a.cells.length+1) (OQ _ _) ?_
 simp only[As,List.replicate_zero]
 refine Ad (fun h=>Ac ?_) (fun h=> ?_)
 · unfold Bc;rw[if_pos (by omega)];rfl
 · rw[← AeF (by omega)]
   refine Ae (Ae (At (by simp only[Ar];omega) ?_))
   have key:=A7 (P:=Tryz.prog) (md:=md) a.cells (fun m k (out:List Int)=>Oh (a.cells.length+1) m (out.map .int) (.sl (a.cells.map dC)) (a.cells.length:Int) (k:Int)) (fun rest out=>AeE out (I9 rest)) (fun rest out=>out.length+rest.length≤2048)
    (fun m k out hk _=>by
     simp only[Ua,As]
     exact Am (by omega) (Ac (by simp[I9,AeE,dI])))
    (fun m k out c rest hdr hI ih=>by
     obtain ⟨h1,h2,h3⟩:=Az hdr
     have hm:=List.mem_of_getElem? h2
     simp only[Ua,As,Aj h2,An (show k<9223372036854775807 by omega)]
     repeat (refine Ae ?_)
     simp only[I9]
     refine Aa (M8 c.n (by have:=hn c hm;omega)) ?_
     refine Ad (fun hk=>Ac ?_) (fun hk=> ?_)
     · rw[if_neg hk];rfl
     rw[if_pos (Classical.not_not.1 hk)]
     cases hs:D_ c.n with
     | none=>exact Ba rfl (Ac rfl)
     | some z =>
      refine Cs rfl (At ?_ ?_)
      · simp only[List.length_cons,List.length_nil,Ar,List.length_map]at hI ⊢; omega
      · have:=ih (out++[z]) (by simp only[List.length_append,List.length_cons,List.length_nil]at hI ⊢; omega)
        simp only[FH,Af,Ah]
        rw[List.map_append]at this
        refine Tree.wp_mono this (fun ys hy=>hy.trans ?_)
        cases I9 rest with
        | none=>rfl
        | some l=>simp[AeE])
    (a.cells.length+1) 0 [] (by omega) (by omega) (by simpa using hl)
   exact key
theorem Ey(z:Int)(hz:Cv z):Sp 138 [.int z] [dC (B5 z)]:=by
 refine Ag 0 (TO _ _) (Aa (Hz z hz) (Ac ?_))
 rw[F6];rfl
def AkC(c:Int):Cell:=⟨0,1,.zero,c,[]⟩
theorem AaW(z:Int):Sp 171 [.int z] [dC (AkC z)]:=by
 refine Ag 0 (TN _ _) (Ac ?_)
 rw[F6];rfl
theorem AeD:Cv 0:=by unfold Cv;decide
theorem Og(a:Arr):Sp 82 [dA a] [dC (Eg a)]:=by
 refine Ag 0 (OP _ _) ?_
 simp only[As]
 unfold Eg
 match hc:a.cells with
 | []=>exact At (by simp) (Aa (Ey 0 AeD) (Ac rfl))
 | c::cs =>
  refine Am (by simp;omega) (Aa (Ey 0 AeD) (Ae (At (by simp) ?_)))
  simp only[List.map_cons,Af,As]
  refine Ad (fun h=>Aa (AaW 32) (Ae (At (by simp) (Ac ?_)))) (fun h=>Ae (At (by simp) (Ac ?_)))
  · rw[if_pos h,F6]
    simp only[As];rfl
  · rw[if_neg h,F6]
    simp only[As];rfl
theorem AjK:lb 1 = [1]:=by rw[Zp (by decide),show 1 / B=0 by decide,Ct];rfl
theorem AbM(z:Int):Cg (G4 z)=z:=Eh z
theorem Ah0(z:Int):Ca (G4 z)=1:=by simp[Ca,G4,nv]
theorem AfL{z:Int}(h:Cv z):(lb z.natAbs).length≤2:=Ax.2 (by unfold Cv at h;show z.natAbs<18446744073709551616;omega)
theorem Afh{z:Int}(h:Cv z):Ge (G4 z)=true:=by
 have hl:=AfL h
 unfold Ge
 rw[AbM,Ah0]
 refine decide_eq_true ⟨by simp only[G4];omega,by simp[G4],?_⟩
 unfold Js
 simp only[Int.natAbs_one,Nat.gcd_one_right,Nat.div_one,AjK]
 rw[if_neg (by decide),if_neg (by simp only[List.length_cons,List.length_nil];omega)]
 unfold G4
 congr 2
 by_cases hz:z<0
 · have:0<(lb z.natAbs).length:=by
    rcases Nat.eq_zero_or_pos (lb z.natAbs).length with h0 | h0
    · have:=G9.1 h0;omega
    · exact h0
   simp[hz,this]
 · simp[hz]
theorem Afo{z:Int}(h:Cv z):D_ (G4 z)=some z:=by
 unfold D_ ZG
 rw[if_pos (show (G4 z).bot = [1] from rfl),AbM,if_pos h]
theorem V7{n:Num}(h:Ge n=true):n.top.length≤32∧n.bot.length≤32:=by
 have:=of_decide_eq_true h
 exact ⟨this.1,this.2.1⟩
theorem Ra{d:Nat}{c:Cell}(h:B7 d c=true):c.n.top.length≤32∧c.n.bot.length≤32∧c.inn.length≤1:=by
 suffices key : ∀ k r,Gw k r c=true→c.n.top.length≤32∧c.n.bot.length≤32∧c.inn.length≤1 by
   cases d with
   | zero=>exact key _ _ h
   | succ d=>exact key _ _ h
 intro k r h
 unfold Gw at h
 split at h
 · simp only[Bool.and_eq_true,decide_eq_true_eq]at h
   exact ⟨(V7 h.2).1,(V7 h.2).2,by omega⟩
 split at h
 · simp only[Bool.and_eq_true,decide_eq_true_eq]at h
   rw[h.1.1];exact ⟨by decide,by decide,by omega⟩
 · simp only[Bool.and_eq_true,decide_eq_true_eq]at h
   rw[h.1.2.1]
   refine ⟨by decide,by decide,?_⟩
   have hb:=h.2.2
   unfold Xz at hb
   split at hb
   · rename_i hi;rw[hi];simp
   · cases hb
theorem B6{d:Nat}{a:Arr}(h:A8 d a=true):Ay a.shape=((a.cells.length:Int),0)∧∀ c∈a.cells,B7 d c=true:=by
 rw[GG]at h
 simp only[Bool.and_eq_true,decide_eq_true_eq,List.all_eq_true]at h
 exact h
theorem Ym{d:Nat}{a:Arr}(h1:Ay a.shape=((a.cells.length:Int),0))(h2 : ∀ c∈a.cells,B7 d c=true):A8 d a=true:=by
 rw[GG]
 simp only[Bool.and_eq_true,decide_eq_true_eq,List.all_eq_true]
 exact ⟨h1,h2⟩
theorem Dh{d:Nat}{a:Arr}(h:A8 d a=true):a.cells.length≤2048∧a.shape.length≤6∧∀ x∈a.shape,0≤x∧x≤2048:=by
 have h1:=(B6 h).1
 have h2:=Fj a.shape
 have h3:=E8 (l:=a.shape) (by rw[h1])
 rw[h1]at h2
 exact ⟨by simp only at h2;omega,h3⟩
theorem Ni{d:Nat}{a:Arr}(h:A8 d a=true) : ∀ c∈a.cells,c.n.top.length≤32:=fun c hc=>(Ra ((B6 h).2 c hc)).1
theorem Q_{z:Int}(d:Nat)(h:Cv z):B7 d (B5 z)=true:=by
 have : ∀ k r,Gw k r (B5 z)=true:=by
  intro k r
  unfold Gw
  rw[if_pos (show (B5 z).kind=0 from rfl)]
  have:=Afh h
  simp only[B5,this];rfl
 cases d <;> exact this _ _
theorem Dv{z:Int}(h1 : -100000≤z)(h2:z≤100000):Cv z:=by unfold Cv;omega
def Sml:Nat→Arr→Prop
 | 0,_=>False
 | d+1,a=>a.shape.length≤1048576∧a.cells.length≤1048576∧(∀ x∈a.shape,Cv x)∧∀ c∈a.cells,c.n.top.length≤1048576∧c.n.bot.length≤1048576∧c.inn.length≤1048576∧∀ x∈c.inn,Sml d x
def SmlC(d:Nat)(c:Cell):Prop:=c.n.top.length≤1048576∧c.n.bot.length≤1048576∧c.inn.length≤1048576∧∀ x∈c.inn,Sml d x
theorem Sml.succ {d:Nat} {a:Arr} (h:Sml d a) : ∃ e,d=e+1:=by
 cases d with
 | zero=>exact h.elim
 | succ e=>exact ⟨e,rfl⟩
theorem Sml.cell {d:Nat} {a:Arr} (h:Sml (d+1) a) : ∀ c∈a.cells,SmlC d c:=h.2.2.2
theorem Sml.of {d:Nat} {a:Arr} (h1:a.shape.length≤1048576) (h2:a.cells.length≤1048576) (h3 : ∀ x∈a.shape,Cv x) (h4 : ∀ c∈a.cells,SmlC d c):Sml (d+1) a:=⟨h1,h2,h3,h4⟩
theorem Sml.fits : ∀ {d:Nat} {a:Arr},Sml d a→Fits a
 | 0,_,h=>h.elim
 | d+1,.mk s sh cs,⟨h1,h2,h3,h4⟩=>by
  have h1':sh.length≤1048576:=h1
  have h2':cs.length≤1048576:=h2
  refine Fits.of (by omega) (by omega) h3 (fun c hc=> ?_)
  obtain ⟨g1,g2,g3,g4⟩:=h4 c hc
  exact ⟨by omega,by omega,by omega,fun x hx=>(g4 x hx).fits⟩
theorem SmlC.fits {d:Nat} {c:Cell} (h:SmlC d c):Vt c:=⟨by have:=h.1;omega,by have:=h.2.1;omega,by have:=h.2.2.1;omega,fun x hx=>(h.2.2.2 x hx).fits⟩
theorem Sml.mono : ∀ {d e:Nat} {a:Arr},Sml d a→d≤e→Sml e a
 | 0,_,_,h,_=>h.elim
 | d+1,0,_,_,hle=>by omega
 | d+1,e+1,a,⟨h1,h2,h3,h4⟩,hle=>⟨h1,h2,h3,fun c hc=>⟨(h4 c hc).1,(h4 c hc).2.1,(h4 c hc).2.2.1,fun x hx=>((h4 c hc).2.2.2 x hx).mono (by omega)⟩⟩
theorem SmlC.mono {d e:Nat} {c:Cell} (h:SmlC d c) (hle:d≤e):SmlC e c:=⟨h.1,h.2.1,h.2.2.1,fun x hx=>(h.2.2.2 x hx).mono hle⟩
theorem Q9{d:Nat}{c:Cell}(h:B7 d c=true) : ∀ x∈c.inn,∃ e,d=e+1∧Hd x=false∧A8 e x=true∧c.inn = [x]∧c.kind=2:=by
 have key : ∀ k r,Gw k r c=true→∀ x∈c.inn,k=true∧Hd x=false∧r x=true∧c.inn = [x]∧c.kind=2:=by
  intro k r h x hx
  unfold Gw at h
  split at h
  · simp only[Bool.and_eq_true,decide_eq_true_eq]at h
    rw[List.length_eq_zero_iff.1 h.1.2]at hx;cases hx
  split at h
  · simp only[Bool.and_eq_true,decide_eq_true_eq]at h
    rw[List.length_eq_zero_iff.1 h.1.2]at hx;cases hx
  · simp only[Bool.and_eq_true,decide_eq_true_eq]at h
    obtain ⟨h1,h2,h3⟩:=h
    unfold Xz at h3
    split at h3
    · rename_i y hy
      rw[hy]at hx ⊢
      have:x=y:=by simpa using hx
      subst this
      simp only[Bool.and_eq_true,Bool.not_eq_true']at h3
      exact ⟨h2,h3.1,h3.2,rfl,h1.1⟩
    · cases h3
 cases d with
 | zero=>intro x hx;exact absurd (key _ _ h x hx).1 (by simp)
 | succ e=>intro x hx;exact ⟨e,rfl,(key _ _ h x hx).2⟩
theorem C8 : ∀ {d:Nat} {a:Arr},A8 d a=true→Sml (d+1) a
 | 0,a,h=>by
  have hl:=Dh h
  refine ⟨by omega,by omega,fun x hx=>Dv (by have:=hl.2.2 x hx;omega) (by have:=hl.2.2 x hx;omega),fun c hc=> ?_⟩
  have hc':=(B6 h).2 c hc
  have:=Ra hc'
  exact ⟨by omega,by omega,by omega,fun x hx=>by obtain ⟨e,he,_⟩:=Q9 hc' x hx;omega⟩
 | d+1,a,h=>by
  have hl:=Dh h
  refine ⟨by omega,by omega,fun x hx=>Dv (by have:=hl.2.2 x hx;omega) (by have:=hl.2.2 x hx;omega),fun c hc=> ?_⟩
  have hc':=(B6 h).2 c hc
  have:=Ra hc'
  refine ⟨by omega,by omega,by omega,fun x hx=> ?_⟩
  obtain ⟨e,he,_,hr,_⟩:=Q9 hc' x hx
  have:e=d:=by omega
  subst this
  exact C8 hr
theorem RY{d:Nat}{c:Cell}(h:B7 d c=true):SmlC d c:=by
 have:=Ra h
 refine ⟨by omega,by omega,by omega,fun x hx=> ?_⟩
 obtain ⟨e,rfl,_,hr,_⟩:=Q9 h x hx
 exact C8 hr
theorem AM(es:List D)(h:es.length≤1048576):Tw (.amb es.isEmpty (.ret [D.sl []]) (.br (decide (([]:List D).length+es.length≤Ar)) (.ret [D.sl ([]++es)]) .fail)) [D.sl es]:=by
 refine Ag8 (fun h=>Ac ?_) (At ?_ (Ac ?_))
 · rw[List.isEmpty_iff.1 h]
 · simp only[List.length_nil,Ar];omega
 · rw[List.nil_append]
theorem OZ(l:List Av)(h:l.length≤1048576):Sp 247 [dL l] [dL l]:=Ag 0 (P1 _ _) (by simp only[Bu];exact AM _ (by simpa using h))
theorem Gx(l:List Int)(h:l.length≤1048576):Sp 96 [dI l] [dI l]:=Ag 0 (Ly _ _) (by simp only[Bx];exact AM _ (by simpa using h))
theorem Aex(l:List Cell)(h:l.length≤1048576):Sp 139 [.sl (l.map dC)] [.sl (l.map dC)]:=Ag 0 (Nm _ _) (by simp only[Ez];exact AM _ (by simpa using h))
theorem Aew(l:List Arr)(h:l.length≤1048576):Sp 248 [.sl (l.map dA)] [.sl (l.map dA)]:=Ag 0 (L5 _ _) (by simp only[Ez];exact AM _ (by simpa using h))
theorem Wn{d:Nat}(c:Cell)(h:SmlC d c):Sp 214 [dC c] [dC c]:=by
 refine Ag 0 (TS _ _) ?_
 simp only[As]
 refine Aa (OZ _ h.1) (Aa (OZ _ h.2.1) (Aa (Aew _ h.2.2.1) (Ac ?_)))
 simp only[Af,Bu,Ez,AjG]
 rw[F6];rfl
def K0(c:Cell):Arr:= .mk 0 [] [c]
def Tx(l:List Cell):Arr:= .mk 0 [(l.length:Int)] l
def D1(a:Arr)(l:Co):Arr:= .mk (a.s|||l) a.shape a.cells
theorem I6{d:Nat}(c:Cell)(h:SmlC d c):Sp 178 [dC c] [dA (K0 c)]:=by
 refine Ag 0 (JO _ _) (Aa (Wn c h) (Ac ?_))
 rw[Fz];rfl
theorem L6(n:Num)(h1:n.top.length≤1048576)(h2:n.bot.length≤1048576):Sp 257 [dN n] [dC ⟨0,0,n,0,[]⟩]:=by
 refine Ag 0 (TP _ _) (Aa (ys:=[dC ⟨0,0,n,0,[]⟩]) ?_ (Ac rfl))
 have:=Wn (d:=0) ⟨0,0,n,0,[]⟩ ⟨h1,h2,by simp,by simp⟩
 rw[F6]at this ⊢
 exact this
theorem Ml{α:Type}{f:α→D}{z:D}(pre:List α)(x:α)(k:Nat):((pre.map f)++List.replicate (k+1) z).set pre.length (f x)=((pre++[x]).map f)++List.replicate k z:=by
 rw[List.set_append_right _ _ (by simp),List.length_map,Nat.sub_self,List.replicate_succ,List.set_cons_zero]
 simp
theorem Cr:D.agg [D.int 0,D.sl [],D.sl []]=dA .none:=by rw[Fz];rfl
theorem Gl:D.agg [D.int 0,D.int 0,D.agg [D.bool false,D.sl [],D.sl []],D.int 0,D.sl []]=dC Cell.none:=by rw[F6];rfl
theorem G5{d:Nat}(l:List Cell)(h : ∀ c∈l,SmlC d c)(hl:l.length≤1048576):Sp 149 [.sl (l.map dC)] [dA (Tx l)]:=by
 refine Ag (l.length+1) (JR _ _) ?_
 simp only[As,Gl]
 refine Ae (Ae (At (by simp only[Ar];omega) ?_))
 have key:=A7 (P:=Tryz.prog) (md:=md) l (fun m k (cs:List D)=>Ln (l.length+1) m (.sl (l.map dC)) cs (.sl (l.map dC)) (l.length:Int) (k:Int) 0) (fun _ _=>[dA (Tx l)])
  (fun rest cs=>∃ pre,l=pre++rest∧cs=pre.map dC++List.replicate rest.length (dC Cell.none))
  (fun m k cs hk hI=>by
   obtain ⟨pre,h1,rfl⟩:=hI
   simp only[P4,As]
   refine Am (by omega) (Ac ?_)
   rw[List.append_nil]at h1
   rw[Fz,Tx];subst h1;simp[dI];rfl)
  (fun m k cs c rest hdr hI ih=>by
   obtain ⟨h1,h2,h3⟩:=Az hdr
   obtain ⟨pre,hp,rfl⟩:=hI
   have hk:k=pre.length:=by
    have:=congrArg List.length hdr
    rw[hp]at this h1
    simp at this h1;omega
   simp only[P4,As,Aj h2,An (show k<9223372036854775807 by omega)]
   repeat (refine Ae ?_)
   refine Aa (Wn c (h c (List.mem_of_getElem? h2))) ?_
   have hlen:(pre.map dC++List.replicate (rest.length+1) (dC Cell.none)).length=l.length:=by rw[hp];simp
   rw[List.length_cons,hlen]
   refine Ae (Ae ?_)
   rw[Af,hk,Ml,← hk]
   exact ih _ ⟨pre++[c],by rw[hp];simp,rfl⟩)
  (l.length+1) 0 (List.replicate l.length (dC Cell.none)) (by omega) (by omega) ⟨[],by simp,by simp⟩
 exact key
theorem C2(a:Arr)(l:Co):Sp 90 [dA a,dB l] [dA (D1 a l)]:=by
 refine Ag 0 (LW _ _ _) ?_
 simp only[As]
 refine Aa (Dc a.s l) (Ac ?_)
 rw[Fz];rfl
def HK(c:Cell):Arr:=match c.inn with
 | [x]=>if c.kind=2 then D1 x c.l else .mk c.l [] [c]
 | _=> .mk c.l [] [c]
theorem Agd(c:Cell):D1 (K0 c) c.l = .mk c.l [] [c]:=by simp[D1,K0]
theorem AcH{c:Cell}(h : ¬ (c.kind=2∧c.inn.length=1)):HK c = .mk c.l [] [c]:=by
 unfold HK
 split
 · rename_i x hx
   rw[if_neg (fun hk=>h ⟨hk,by rw[hx];rfl⟩)]
 · rfl
theorem Aih{c:Cell}{x:Arr}(h:c.kind=2)(hx:c.inn = [x]):HK c=D1 x c.l:=by unfold HK;rw[hx];simp[h]
theorem Sq{α:Type}{l:List α}(h:l.length=1) : ∃ x,l = [x]:=by
 match l,h with
 | [x],_=>exact ⟨x,rfl⟩
theorem P3{d:Nat}(c:Cell)(h:SmlC d c):Sp 104 [dC c] [dA (HK c)]:=by
 refine Ag 0 (JQ _ _) ?_
 simp only[As]
 have other : ¬ (c.kind=2∧c.inn.length=1)→Tw (.call 178 [] [dC c] fun yy2=> .call 90 [] [yy2.getD 0 D.nil,dB c.l] fun yy3=> .ret [yy3.getD 0 D.nil]) [dA (HK c)]:=fun hn=>by
  refine Aa (I6 c h) (Aa (C2 (K0 c) c.l) (Ac ?_))
  rw[Af,Agd,AcH hn]
 refine Ad (fun h1=>Ad (fun h2=> ?_) (fun h2=>other (by omega))) (fun h1=>other (by omega))
 obtain ⟨x,hx⟩:=Sq (show c.inn.length=1 by omega)
 rw[Aih h1 hx]
 simp only[hx,List.map_cons,List.map_nil,List.length_cons,List.length_nil,Af]
 exact Ae (Ae (Aa (C2 x c.l) (Ac rfl)))
theorem TQ(a:Arr):Sp 213 [dA a] [.bool (decide (a.shape.length=0∧a.cells.length=1))]:=by
 refine Ag 0 (LY _ _) ?_
 simp only[As]
 refine Ad (fun h=>Ac ?_) (fun h=>Ac ?_)
 · congr 2;rw[decide_eq_decide];omega
 · rw[decide_eq_false (fun hh=>h (by omega))]
theorem Xx(a:Arr):Sp 146 [dA a] [.bool (Hd a)]:=by
 refine Ag 0 (JP _ _) (Aa (TQ a) ?_)
 simp only[As]
 unfold Hd
 refine Ad (fun h=> ?_) (fun h=>Ac ?_)
 · obtain ⟨c,hc⟩:=Sq h.2
   have hs:=List.length_eq_zero_iff.1 h.1
   simp only[hc,hs,List.map_cons,List.map_nil,List.length_cons,List.length_nil,Af,AjC,Ah]
   exact Ae (Ae (Ac rfl))
 · match hs:a.shape,hc:a.cells with
   | [],[c]=>rw[hs,hc]at h;simp at h
   | x::xs,_=>rfl
   | [],[]=>rfl
   | [],x::y::xs=>rfl
theorem AjD(l:Co)(a:Arr):D.agg [dB l,D.int 2,D.agg [D.bool false,D.sl [],D.sl []],D.int 0,D.sl [dA a]]=dC ⟨l,2,.zero,0,[a]⟩:=by rw[F6];rfl
mutual
def N1(g:Co→Co):Arr→Arr
 | .mk s sh cs=> .mk (g s) sh (RR g cs)
def RR(g:Co→Co):List (CellF Arr)→List (CellF Arr)
 | []=>[]
 | c::cs=>K5 g c::RR g cs
def K5(g:Co→Co):CellF Arr→CellF Arr
 | ⟨l,k,n,c,inn⟩=>⟨g l,k,n,c,RQ g inn⟩
def RQ(g:Co→Co):List Arr→List Arr
 | []=>[]
 | a::as_=>N1 g a::RQ g as_
end
theorem ZA(g:Co→Co) : ∀ cs,RR g cs=cs.map (K5 g)
 | []=>by simp[RR]
 | c::cs=>by simp[RR,ZA g cs]
theorem YZ(g:Co→Co) : ∀ as_,RQ g as_=as_.map (N1 g)
 | []=>by simp[RQ]
 | a::as_=>by simp[RQ,YZ g as_]
theorem Sy(g:Co→Co)(a:Arr):N1 g a = .mk (g a.s) a.shape (a.cells.map (K5 g)):=by cases a;simp[N1,ZA]
theorem JD(g:Co→Co)(c:Cell):K5 g c=⟨g c.l,c.kind,c.n,c.c,c.inn.map (N1 g)⟩:=by cases c;simp[K5,YZ]
def Ae5(a:Arr):Arr:=N1 (fun _=>0) a
noncomputable def AeO(a b:Arr):Bool:=EG (Ae5 a) (Ae5 b)
theorem SA{α β:Type}{P:Program}{md:Nat→FMode}(φ:α→β)(a b:List α)(e:α→α→Bool)(he : ∀ x∈a,∀ y,e x y=true↔φ x=φ y)(hlen:a.length=b.length)(r:Bool)(hr:r=true↔a.map φ=b.map φ)(L:Nat→Nat→Tree)
  (hend : ∀ m,∀ Q:List D→Prop,Q [.bool true]→(L (m+1) a.length).wp P md Q)
  (hstep : ∀ m k x y,∀ Q:List D→Prop,a[k]? = some x→b[k]? = some y→(e x y=false→Q [.bool false])→(e x y=true→(L m (k+1)).wp P md Q)→(L (m+1) k).wp P md Q) (N:Nat) (hN:a.length<N):(L N 0).wp P md (fun zs=>zs = [.bool r]):=by
 have key:=C4 (P:=P) (md:=md) a.length (fun m k (_:Unit)=>L m k) (fun _ _=>[.bool r]) (fun k _=>(a.take k).map φ=(b.take k).map φ)
  (fun m s h=>by
   refine hend m _ ?_
   rw[List.take_of_length_le (Nat.le_refl _),List.take_of_length_le (by omega)]at h
   rw[hr.2 h])
  (fun m k s hk h ih=>by
   have ha:a[k]? = some a[k]:=List.getElem?_eq_getElem _
   have hb:b[k]? = some (b[k]'(by omega)):=List.getElem?_eq_getElem _
   refine hstep m k _ _ _ ha hb (fun hf=> ?_) (fun ht=>ih () ?_)
   · have:r=false:=by
      cases hrr:r with
      | false=>rfl
      | true =>
       have h2:=hr.1 hrr
       have h3:(a.map φ)[k]? = (b.map φ)[k]? := by rw[h2]
       rw[List.getElem?_map,List.getElem?_map,ha,hb]at h3
       have h4:φ a[k]=φ b[k]:=by simpa using h3
       rw[(he a[k] (List.getElem_mem _) _).2 h4]at hf;cases hf
     rw[this]
   · have:φ a[k]=φ b[k]:=(he a[k] (List.getElem_mem _) _).1 ht
     rw[List.take_succ_eq_append_getElem hk,List.take_succ_eq_append_getElem (by omega),List.map_append,List.map_append,h]
     simp[this])
  N 0 () (by omega) (by omega) (by simp)
 exact key
def gl(lb:Bool)(l:Co):Co:=if lb then l else 0
noncomputable def eqL(lb:Bool)(a b:Arr):Bool:=EG (N1 (gl lb) a) (N1 (gl lb) b)
noncomputable def UC(lb:Bool)(a b:Cell):Bool:=KV (K5 (gl lb) a) (K5 (gl lb) b)
noncomputable def pd(p:Prop):Bool:= @decide p (Classical.propDecidable _)
theorem QP{p:Prop} : pd p=true↔p:= @decide_eq_true_iff _ (Classical.propDecidable _)
theorem AfZ{p:Prop}(h : ¬ p):pd p=false:= @decide_eq_false _ (Classical.propDecidable _) h
theorem AiT{o x:Nat}{z:Int}(h:z=(x:Int)):(if (o:Int)<z then z else (o:Int))=((max o x:Nat):Int):=by subst h;split <;> omega
theorem AdA{lb:Bool}{a b:Arr} : eqL lb a b=true↔N1 (gl lb) a=N1 (gl lb) b:=Sj
theorem Abo{lb:Bool}{a b:Cell} : UC lb a b=true↔K5 (gl lb) a=K5 (gl lb) b:=Wg
theorem Uc{lb:Bool}{a b:Cell} : UC lb a b=true↔(gl lb a.l=gl lb b.l∧a.kind=b.kind∧a.c=b.c∧a.n=b.n∧a.inn.map (N1 (gl lb))=b.inn.map (N1 (gl lb))):=by rw[Abo,JD,JD,Ad4]
theorem MK{lb:Bool}{a b:Arr} : eqL lb a b=true↔(gl lb a.s=gl lb b.s∧a.shape=b.shape∧a.cells.map (K5 (gl lb))=b.cells.map (K5 (gl lb))):=by rw[AdA,Sy,Sy,AaV];simp
theorem Mv{b:Bool}(h : ¬ b=true):b=false:=by cases b with | false=>rfl | true=>exact absurd rfl h
theorem Xy(lb:Bool) : ∀ (d:Nat) (a b:Arr),Sml d a→Sp 232 [dA a,dA b,.bool lb] [.bool (eqL lb a b)]
 | 0,_,_,h=>h.elim
 | d+1,a,b,h=>by
  have hcell : ∀ (x y:Cell),SmlC d x→Ia Tryz.prog md 273 [.ref 4] [dC x,dC y,D.ref (.bool lb)] [.bool (UC lb x y)]:=fun x y hx=>by
    have hlx:=hx.2.2.1
    have hinn:Sp 275 [.sl (x.inn.map dA),.sl (y.inn.map dA),D.fn 276 [.ref 4] [D.ref (.bool lb)]] [.bool (pd (x.inn.map (N1 (gl lb))=y.inn.map (N1 (gl lb))))]:=by
      refine Ag (x.inn.length+1) (Ek _ _ _ _) ?_
      simp only[As]
      refine Ad (fun h=>Ac ?_) (fun h=> ?_)
      · rw[AfZ]
        intro hh;have:=congrArg List.length hh;simp at this;omega
      · refine SA (P:=Tryz.prog) (md:=md) (N1 (gl lb)) x.inn y.inn (eqL lb) (fun p _ q=>AdA) (by omega) _ QP (fun m k=>B3 (x.inn.length+1) m (.sl (y.inn.map dA)) (D.fn 276 [.ref 4] [D.ref (.bool lb)]) (.sl (x.inn.map dA)) (x.inn.length:Int) (k:Int)) ?_ ?_ (x.inn.length+1) (by omega)
        · intro m Q hQ
          simp only[Cl,As]
          exact Am (by omega) (Ac hQ)
        · intro m k p q Q hp hq hF hT
          have hk:k<x.inn.length:=(List.getElem?_eq_some_iff.1 hp).1
          have hk':k<y.inn.length:=(List.getElem?_eq_some_iff.1 hq).1
          simp only[Cl,As,Aj hp,Aj hq,An (show k<9223372036854775807 by omega),H2,Gm,H1,List.cons_append,List.nil_append]
          repeat (refine Ae ?_)
          refine Aa (ys:=[.bool (eqL lb p q)]) (Ag 0 (AJ _ _ _ _) (Aa (Xy lb d p q (hx.2.2.2 p (List.mem_of_getElem? hp))) (Ac rfl))) ?_
          simp only[Af,Al]
          exact Df (fun h=>Ac (hF (by simpa using h))) (fun h=>hT (by simpa using h))
    have fin : ∀ (hl:gl lb x.l=gl lb y.l),Tw (.br (decide (¬ x.kind=y.kind)) (.ret [D.bool false]) (.br (decide (¬ x.c=y.c)) (.ret [D.bool false]) (.call 274 [] [dN x.n,dN y.n] fun yy1=> .br (!((yy1.getD 0 D.nil).toBool)) (.ret [D.bool false]) (.call 275 [] [.sl (x.inn.map dA),.sl (y.inn.map dA),D.fn 276 [.ref 4] [D.ref (.bool lb)]] fun yy2=> .ret [D.bool ((yy2.getD 0 D.nil).toBool)])))) [.bool (UC lb x y)]:=fun hl=>by
      refine Ad (fun h=>Ac ?_) (fun h2=>Ad (fun h=>Ac ?_) (fun h3=>Aa (Aav x.n y.n hx.fits.1 hx.fits.2.1) ?_))
      · rw[Mv (fun hh=>h (Uc.1 hh).2.1)]
      · rw[Mv (fun hh=>h (Uc.1 hh).2.2.1)]
      simp only[Af,Al,Fo]
      refine Ad (fun h=>Ac ?_) (fun h4=>Aa hinn (Ac ?_))
      · rw[Mv (fun hh=>h (Uc.1 hh).2.2.2.1)]
      · simp only[Af,Al]
        congr 2
        rw[Bool.eq_iff_iff,Uc,QP]
        exact ⟨fun hh=>⟨hl,Classical.not_not.1 h2,Classical.not_not.1 h3,Classical.not_not.1 h4,hh⟩,fun hh=>hh.2.2.2.2⟩
    refine Ag 0 (DP _ _ _ _) ?_
    simp only[As,Yq]
    refine Df (fun hb=>Ad (fun h=>Ac ?_) (fun h1=>fin ?_)) (fun hb=>fin ?_)
    · have hf:UC lb x y=false:=Mv (fun hh=>h (by
        have:=(Uc.1 hh).1
        simp only[gl,hb,if_true]at this
        rw[this]))
      rw[hf]
    · simp only[gl,hb,if_true];exact BitVec.eq_of_toNat_eq (by omega)
    · simp[gl,hb]
  have hcells:Sp 272 [.sl (a.cells.map dC),.sl (b.cells.map dC),D.fn 273 [.ref 4] [D.ref (.bool lb)]] [.bool (pd (a.cells.map (K5 (gl lb))=b.cells.map (K5 (gl lb))))]:=by
    have hla:=h.2.1
    refine Ag (a.cells.length+1) (E6 _ _ _ _) ?_
    simp only[As]
    refine Ad (fun h=>Ac ?_) (fun h'=> ?_)
    · rw[AfZ]
      intro hh;have:=congrArg List.length hh;simp at this;omega
    · refine SA (P:=Tryz.prog) (md:=md) (K5 (gl lb)) a.cells b.cells (UC lb) (fun p _ q=>Abo) (by omega) _ QP (fun m k=>B_ (a.cells.length+1) m (.sl (b.cells.map dC)) (D.fn 273 [.ref 4] [D.ref (.bool lb)]) (.sl (a.cells.map dC)) (a.cells.length:Int) (k:Int)) ?_ ?_ (a.cells.length+1) (by omega)
      · intro m Q hQ
        simp only[Cw,As]
        exact Am (by omega) (Ac hQ)
      · intro m k p q Q hp hq hF hT
        have hk:k<a.cells.length:=(List.getElem?_eq_some_iff.1 hp).1
        have hk':k<b.cells.length:=(List.getElem?_eq_some_iff.1 hq).1
        simp only[Cw,As,Aj hp,Aj hq,An (show k<9223372036854775807 by omega),H2,Gm,H1,List.cons_append,List.nil_append]
        repeat (refine Ae ?_)
        refine Aa (hcell p q (h.cell p (List.mem_of_getElem? hp))) ?_
        simp only[Af,Al]
        exact Df (fun h=>Ac (hF (by simpa using h))) (fun h=>hT (by simpa using h))
  have fin : ∀ (hl:gl lb a.s=gl lb b.s),Tw (.call 234 [] [dI a.shape,dI b.shape] fun yy1=> .br (!((yy1.getD 0 D.nil).toBool)) (.ret [D.bool false]) (.call 272 [] [.sl (a.cells.map dC),.sl (b.cells.map dC),D.fn 273 [.ref 4] [D.ref (.bool lb)]] fun yy2=> .ret [D.bool ((yy2.getD 0 D.nil).toBool)])) [.bool (eqL lb a b)]:=fun hl=>by
    refine Aa (Xq a.shape b.shape (by have:=h.1;omega)) ?_
    simp only[Af,Al,Fo]
    refine Ad (fun h=>Ac ?_) (fun h1=>Aa hcells (Ac ?_))
    · rw[Mv (fun hh=>h (MK.1 hh).2.1)]
    · simp only[Af,Al]
      congr 2
      rw[Bool.eq_iff_iff,MK,QP]
      exact ⟨fun hh=>⟨hl,Classical.not_not.1 h1,hh⟩,fun hh=>hh.2.2⟩
  refine Ag 0 (LZ _ _ _ _) ?_
  simp only[As]
  refine Df (fun hb=>Ad (fun h=>Ac ?_) (fun h1=>fin ?_)) (fun hb=>fin ?_)
  · have hf:eqL lb a b=false:=Mv (fun hh=>h (by
      have:=(MK.1 hh).1
      simp only[gl,hb,if_true]at this
      rw[this]))
    rw[hf]
  · simp only[gl,hb,if_true];exact BitVec.eq_of_toNat_eq (by omega)
  · simp[gl,hb]
theorem Y_{d:Nat}(a b:Arr)(h:Sml d a):Sp 179 [dA a,dA b] [.bool (AeO a b)]:=Ag 0 (LV _ _ _) (Aa (Xy false d a b h) (Ac rfl))
mutual
def P9:Arr→Nat
 | .mk s sh cs=>if Hd (.mk s sh cs) then 0 else Iq cs+1
def Iq:List (CellF Arr)→Nat
 | []=>0
 | c::cs=>max (Ae2 c) (Iq cs)
def Ae2:CellF Arr→Nat
 | ⟨_,_,_,_,inn⟩=>Ok inn
def Ok:List Arr→Nat
 | []=>0
 | a::as_=>max (P9 a) (Ok as_)
end
theorem Ad8(a:Arr):P9 a=if Hd a then 0 else Iq a.cells+1:=by cases a;rw[P9];rfl
theorem UB(c:Cell):Ae2 c=Ok c.inn:=by cases c;rw[Ae2]
theorem MH{k:Nat} : ∀ {cs:List Cell},(∀ c∈cs,Ae2 c≤k)→Iq cs≤k
 | [],_=>by rw[Iq];omega
 | c::cs,h=>by
  have h1:=h c (by simp)
  have h2:=MH (fun x hx=>h x (List.mem_cons_of_mem _ hx))
  rw[Iq];omega
theorem MG{k:Nat} : ∀ {as_:List Arr},(∀ a∈as_,P9 a≤k)→Ok as_≤k
 | [],_=>by rw[Ok];omega
 | a::as_,h=>by
  have h1:=h a (by simp)
  have h2:=MG (fun x hx=>h x (List.mem_cons_of_mem _ hx))
  rw[Ok];omega
theorem MF : ∀ {d:Nat} {a:Arr},Sml d a→P9 a≤d
 | 0,_,h=>h.elim
 | d+1,a,h=>by
  rw[Ad8]
  have:Iq a.cells≤d:=MH (fun c hc=>by rw[UB];exact MG (fun x hx=>MF ((h.cell c hc).2.2.2 x hx)))
  split <;> omega
theorem Se : ∀ (d:Nat) (a:Arr),d≤10000000→Sml d a→Sp 147 [dA a] [.int (P9 a:Int)]
 | 0,_,_,h=>h.elim
 | d+1,a,hd,h=>by
  have hl:=h.2.1
  refine Ag 1048577 (LU _ _) (Aa (Xx a) ?_)
  rw[Ad8]
  simp only[As]
  refine Df (fun hs=>Ac (by rw[if_pos hs];rfl)) (fun hs=> ?_)
  rw[if_neg (by simp[hs])]
  have hb:Iq a.cells≤d:=MH (fun c hc=>by rw[UB];exact MG (fun x hx=>MF ((h.cell c hc).2.2.2 x hx)))
  have key:=A7 (P:=Tryz.prog) (md:=md) a.cells (fun m k (o:Nat)=>Mq 1048577 m (o:Int) (.sl (a.cells.map dC)) (a.cells.length:Int) (k:Int)) (fun rest o=>[.int ((max o (Iq rest)+1:Nat):Int)]) (fun rest o=>max o (Iq rest)≤d)
   (fun m k o hk hI=>by
    simp only[Rt,As]
    refine Am (by omega) (Ac ?_)
    rw[Iq]at hI ⊢
    rw[Ap (by omega) (by omega),show max o 0=o by omega];rfl)
   (fun m k o c rest hdr hI ih=>by
    obtain ⟨h1,h2,h3⟩:=Az hdr
    have hc:=h.cell c (List.mem_of_getElem? h2)
    have hlc:=hc.2.2.1
    simp only[Rt,As,Aj h2]
    repeat (refine Ae ?_)
    rw[Iq,UB]at hI ⊢
    have key:=A7 (P:=Tryz.prog) (md:=md) c.inn (fun m' j (o:Nat)=>Mr 1048577 m m' (o:Int) (.sl (a.cells.map dC)) (a.cells.length:Int) (k:Int) (.sl (c.inn.map dA)) (c.inn.length:Int) (j:Int)) (fun rest' o=>[.int ((max o (max (Ok rest') (Iq rest))+1:Nat):Int)]) (fun rest' o=>max o (max (Ok rest') (Iq rest))≤d)
     (fun m' j o hj hI'=>by
      simp only[Ru,As,An (show k<9223372036854775807 by omega)]
      rw[Ok]at hI' ⊢
      refine Am (by omega) ?_
      have:=ih o (by omega)
      rw[show max o (max 0 (Iq rest))=max o (Iq rest) by omega]
      exact this)
     (fun m' j o x rest' hdr' hI' ih'=>by
      obtain ⟨g1,g2,g3⟩:=Az hdr'
      simp only[Ru,As,Aj g2,An (show j<9223372036854775807 by omega)]
      repeat (refine Ae ?_)
      refine Aa (Se d x (by omega) (hc.2.2.2 x (List.mem_of_getElem? g2))) ?_
      rw[Ok]at hI' ⊢
      have:=ih' (max o (P9 x)) (by omega)
      rw[show max o (max (max (P9 x) (Ok rest')) (Iq rest))=max (max o (P9 x)) (max (Ok rest') (Iq rest)) by omega]
      rw[AiT (x:=P9 x) (z:=([D.int (P9 x:Int)].getD 0 D.nil).toInt) rfl]
      exact this)
     1048577 0 o (by omega) (by omega) hI
    exact key)
   1048577 0 0 (by omega) (by omega) (by simpa using hb)
  refine Tree.wp_mono key (fun ys hy=>hy.trans ?_)
  simp
theorem NW(n:Nat)(nn0 s1:D):Ai Tryz.prog md [] n 32 [] [nn0,s1] =
 .call 78 [] [D.int nn0.toInt] fun yy1 =>
 .ret [D.agg [D.int s1.toInt,D.sl [],D.sl [yy1.getD 0 D.nil]]]:=by kernel_rfl
def K4:List (Nat×Orc):=[(3,⟨[(0,some 23),(4,none),(5,none),(6,none)],[(4,false),(5,false)],[(.fld 5 [1],1030,3),(.fld 5 [2],1031,67)]⟩)]
noncomputable def Lw(n m3:Nat)(l0:D)(i6 t4_0 out5_0:Int)(out5_1 out5_2:List D):Tree :=
 lA (eA K4 n 33 [1,1,0,1,0,0]) (Ao K4 3) m3 ⟨(.d 23 l0::uA 3++(.ptr 4 []:: .ptr 5 []:: .i .i64 i6::uA 22)),[(4,.var 26 (.agg 26 [.i .u64 t4_0,.mt,.mt]) true),(5,.var 26 (.agg 26 [.i .u64 out5_0,.row 1030,.row 1031]) true),(1030,.row 3 out5_1 true),(1031,.row 67 out5_2 true)],[4,5,1030,1031],[],[]⟩
  (Ak 0 (Au (jA K4 n 33 [1,1,1]) (rA 33 [23,22] [.cell 4 26] [26])))
theorem Q7(n m3:Nat)(l0:D)(i6 t4_0 out5_0:Int)(out5_1 out5_2:List D):Lw n (m3+1) l0 i6 t4_0 out5_0 out5_1 out5_2 =
 .br (decide (i6<(l0.els.length:Int))) (.br (decide (0≤i6)) (.br (decide (i6<(l0.els.length:Int))) (.call 78 [] [D.int ((l0.els.getD (Int.toNat i6) D.nil).toInt)] fun yy1 =>
 .br (decide (out5_2.length + [yy1.getD 0 D.nil].length≤Ar)) (Lw n m3 l0 (IntKind.wrap .i64 (i6+1)) t4_0 out5_0 out5_1 (out5_2++[yy1.getD 0 D.nil])) .fail) .fail) .fail)
 (.ret [D.agg [D.int out5_0,D.sl out5_1,D.sl out5_2]]):=by kernel_rfl
theorem KB(n:Nat)(l0 s1:D):Ai Tryz.prog md K4 n 33 [] [l0,s1] =
 Lw n n l0 0 0 s1.toInt [D.int (l0.els.length:Int)] []:=by kernel_rfl
def Kw:List (Nat×Orc):=[(12,⟨[(2,none),(3,none),(4,none),(6,some 23),(9,some 24),(10,none),(41,none),(42,none)],[(2,true),(3,true),(4,false)],[(.slot 10,1120,67)]⟩)]
noncomputable def Gq(n m12:Nat)(of6 from9:D)(cells10:List D)(t41 t42:Int)(nn2 a3:D)(t4_0:Int):Tree :=
 lA (eA Kw n 35 [1,1,1,1,1,1,1,1,0,1,0,0]) (Ao Kw 12) m12 ⟨(.undef:: .undef:: .ptr 2 []:: .ptr 3 []:: .ptr 4 []:: .undef:: .d 23 of6:: .undef:: .undef:: .d 24 from9:: .row 1120::uA 30++(.i .i64 t41:: .i .i64 t42::uA 21)),[(2,.var 26 (.d 26 nn2) true),(3,.var 26 (.d 26 a3) true),(4,.var 26 (.agg 26 [.i .u64 t4_0,.mt,.mt]) true),(1120,.row 67 cells10 true)],[2,3,4,1120],[],[]⟩
  (Ak 0 (Au (jA Kw n 35 [1,1,1,1,1,1,1,1,1]) (rA 35 [26,26] [.cell 4 26,.tmp 5] [26,29])))
theorem Pw(n m12:Nat)(of6 from9:D)(cells10:List D)(t41 t42:Int)(nn2 a3:D)(t4_0:Int):Gq n (m12+1) of6 from9 cells10 t41 t42 nn2 a3 t4_0 =
 .br (decide (t42<t41)) (.br (!((from9.els.length:Int)==(0:Int))) (.br (decide (0≤Int.tmod t42 (from9.els.length:Int))) (.br (decide (Int.tmod t42 (from9.els.length:Int)<(from9.els.length:Int))) (.br (decide (0≤t42)) (.br (decide (t42<(cells10.length:Int))) (Gq n m12 of6 from9 (cells10.set (Int.toNat t42) (from9.els.getD (Int.toNat (Int.tmod t42 (from9.els.length:Int))) D.nil)) t41 (IntKind.wrap .i64 (t42+1)) nn2 a3 t4_0) .fail) .fail) .fail) .fail) .fail)
 (.call 84 [] [nn2] fun yy4 =>
 .call 83 [] [D.int ((a3.fld 0).toInt),D.int ((yy4.getD 0 D.nil).toInt)] fun yy5 =>
 .ret [D.agg [D.int ((yy5.getD 0 D.nil).toInt),of6,D.sl cells10],D.int 0]):=by kernel_rfl
theorem JU(n:Nat)(nn0 a1:D):Ai Tryz.prog md Kw n 35 [] [nn0,a1] =
 .call 80 [] [nn0] fun yy1 =>
 .br (((yy1.getD 1 D.nil).toInt)!=0) (.ret [D.agg [D.int 0,D.sl [],D.sl []],D.int ((yy1.getD 1 D.nil).toInt)])
 (.call 81 [] [yy1.getD 0 D.nil] fun yy2 =>
 .br (((yy2.getD 1 D.nil).toInt)!=0) (.ret [D.agg [D.int 0,D.sl [],D.sl []],D.int ((yy2.getD 1 D.nil).toInt)])
 (.br ((((a1.fld 2).els).length:Int)==0) (.call 82 [] [a1] fun yy3 =>
 .br (decide (0≤(yy2.getD 0 D.nil).toInt)) (.br (decide ((yy2.getD 0 D.nil).toInt≤(yy2.getD 0 D.nil).toInt)) (.br (decide ((yy2.getD 0 D.nil).toInt≤Ar)) (Gq n n (yy1.getD 0 D.nil) (D.sl [yy3.getD 0 D.nil]) (List.replicate (Int.toNat ((yy2.getD 0 D.nil).toInt)) (D.agg [D.int 0,D.int 0,D.agg [D.bool false,D.sl [],D.sl []],D.int 0,D.sl []])) ((List.replicate (Int.toNat ((yy2.getD 0 D.nil).toInt)) (D.agg [D.int 0,D.int 0,D.agg [D.bool false,D.sl [],D.sl []],D.int 0,D.sl []])).length:Int) 0 nn0 a1 0) .fail) .fail) .fail)
 (.br (decide (0≤(yy2.getD 0 D.nil).toInt)) (.br (decide ((yy2.getD 0 D.nil).toInt≤(yy2.getD 0 D.nil).toInt)) (.br (decide ((yy2.getD 0 D.nil).toInt≤Ar)) (Gq n n (yy1.getD 0 D.nil) (a1.fld 2) (List.replicate (Int.toNat ((yy2.getD 0 D.nil).toInt)) (D.agg [D.int 0,D.int 0,D.agg [D.bool false,D.sl [],D.sl []],D.int 0,D.sl []])) ((List.replicate (Int.toNat ((yy2.getD 0 D.nil).toInt)) (D.agg [D.int 0,D.int 0,D.agg [D.bool false,D.sl [],D.sl []],D.int 0,D.sl []])).length:Int) 0 nn0 a1 0) .fail) .fail) .fail))):=by kernel_rfl
def M4:List (Nat×Orc):=[(3,⟨[(1,none),(2,none),(3,none),(11,some 23),(12,none),(13,none)],[(1,true),(2,false)],[(.slot 3,1030,67)]⟩)]
noncomputable def Ot(n m3:Nat)(cells3:List D)(t11:D)(t12 t13:Int)(a1:D)(t2_0:Int):Tree :=
 lA (eA M4 n 56 [1,1,0,1,0,0]) (Ao M4 3) m3 ⟨(.undef:: .ptr 1 []:: .ptr 2 []:: .row 1030::uA 7++(.d 23 t11:: .i .i64 t12:: .i .i64 t13::uA 17)),[(1,.var 26 (.d 26 a1) true),(2,.var 26 (.agg 26 [.i .u64 t2_0,.mt,.mt]) true),(1030,.row 67 cells3 true)],[1,2,1030],[],[]⟩
  (Ak 0 (Au (jA M4 n 56 [1,1,1]) (rA 56 [26] [.cell 2 26] [26])))
theorem Uo(n m3:Nat)(cells3:List D)(t11:D)(t12 t13:Int)(a1:D)(t2_0:Int):Ot n (m3+1) cells3 t11 t12 t13 a1 t2_0 =
 .br (decide (t13<t12)) (.br (decide (0≤t13)) (.br (decide (t13<(t11.els.length:Int))) (.call 138 [] [D.int ((t11.els.getD (Int.toNat t13) D.nil).toInt)] fun yy1 =>
 .br (decide (0≤t13)) (.br (decide (t13<(cells3.length:Int))) (Ot n m3 (cells3.set (Int.toNat t13) (yy1.getD 0 D.nil)) t11 t12 (IntKind.wrap .i64 (t13+1)) a1 t2_0) .fail) .fail) .fail) .fail)
 (.ret [D.agg [D.int ((a1.fld 0).toInt),D.sl [D.int (cells3.length:Int)],D.sl cells3]]):=by kernel_rfl
theorem QA(n:Nat)(a0:D):Ai Tryz.prog md M4 n 56 [] [a0] =
 .br (decide (0≤(((a0.fld 1).els).length:Int))) (.br (decide ((((a0.fld 1).els).length:Int)≤(((a0.fld 1).els).length:Int))) (.br (decide ((((a0.fld 1).els).length:Int)≤Ar)) (Ot n n (List.replicate (Int.toNat (((a0.fld 1).els).length:Int)) (D.agg [D.int 0,D.int 0,D.agg [D.bool false,D.sl [],D.sl []],D.int 0,D.sl []])) (a0.fld 1) (((a0.fld 1).els).length:Int) 0 a0 0) .fail) .fail) .fail:=by kernel_rfl
theorem PY(n:Nat)(a0:D):Ai Tryz.prog md [] n 57 [] [a0] =
 .call 139 [] [a0.fld 2] fun yy1 =>
 .ret [D.agg [D.int ((a0.fld 0).toInt),D.sl [D.int (((a0.fld 2).els).length:Int)],D.sl ((yy1.getD 0 D.nil).els)]]:=by kernel_rfl
theorem JT(n:Nat)(a0:D):Ai Tryz.prog md [] n 61 [] [a0] =
 .call 146 [] [a0] fun yy1 =>
 .br ((yy1.getD 0 D.nil).toBool) (.ret [a0,D.int 0])
 (.call 147 [] [a0] fun yy2 =>
 .br (decide (8<((yy2.getD 0 D.nil).toInt))) (.ret [D.agg [D.int 0,D.sl [],D.sl []],D.int 7])
 (.br ((((a0.fld 1).els).length:Int)==0) (.br (decide (0<(((a0.fld 2).els).length:Int))) (.br (decide (0≤0)) (.br (decide (0<(((a0.fld 2).els).length:Int))) (.ret [D.agg [D.int ((a0.fld 0).toInt),D.sl [],D.sl [D.agg [D.int (((((a0.fld 2).els).getD (Int.toNat 0) D.nil).fld 0).toInt),D.int 2,D.agg [D.bool false,D.sl [],D.sl []],D.int 0,D.sl [a0]]]],D.int 0]) .fail) .fail)
 (.ret [D.agg [D.int ((a0.fld 0).toInt),D.sl [],D.sl [D.agg [D.int 0,D.int 2,D.agg [D.bool false,D.sl [],D.sl []],D.int 0,D.sl [a0]]]],D.int 0]))
 (.ret [D.agg [D.int ((a0.fld 0).toInt),D.sl [],D.sl [D.agg [D.int 0,D.int 2,D.agg [D.bool false,D.sl [],D.sl []],D.int 0,D.sl [a0]]]],D.int 0]))):=by kernel_rfl
theorem PW(n:Nat)(a0:D):Ai Tryz.prog md [] n 62 [] [a0] =
 .call 82 [] [a0] fun yy1 =>
 .br (decide (0<(((a0.fld 2).els).length:Int))) (.br (decide (0≤0)) (.br (decide (0<(((a0.fld 2).els).length:Int))) (.call 104 [] [((a0.fld 2).els).getD (Int.toNat 0) D.nil] fun yy2 =>
 .call 90 [] [yy2.getD 0 D.nil,D.int ((a0.fld 0).toInt)] fun yy3 =>
 .ret [yy3.getD 0 D.nil]) .fail) .fail)
 (.call 104 [] [yy1.getD 0 D.nil] fun yy4 =>
 .call 90 [] [yy4.getD 0 D.nil,D.int ((a0.fld 0).toInt)] fun yy5 =>
 .ret [yy5.getD 0 D.nil]):=by kernel_rfl
theorem PU(n:Nat)(a0:D):Ai Tryz.prog md [] n 63 [] [a0] =
 .call 147 [] [a0] fun yy1 =>
 .call 84 [] [a0] fun yy2 =>
 .call 148 [] [D.int ((yy1.getD 0 D.nil).toInt),D.int ((yy2.getD 0 D.nil).toInt)] fun yy3 =>
 .ret [yy3.getD 0 D.nil]:=by kernel_rfl
theorem QB(n:Nat)(a0:D):Ai Tryz.prog md [] n 64 [] [a0] =
 .br ((((a0.fld 1).els).length:Int)==0) (.call 148 [] [D.int 1,D.int ((a0.fld 0).toInt)] fun yy1 =>
 .ret [yy1.getD 0 D.nil])
 (.br (decide (0≤0)) (.br (decide (0<(((a0.fld 1).els).length:Int))) (.call 148 [] [D.int ((((a0.fld 1).els).getD (Int.toNat 0) D.nil).toInt),D.int ((a0.fld 0).toInt)] fun yy2 =>
 .ret [yy2.getD 0 D.nil]) .fail) .fail):=by kernel_rfl
theorem MY(n:Nat)(a0:D):Ai Tryz.prog md [] n 66 [] [a0] =
 .call 150 [] [D.sl [],a0] fun yy1 =>
 .br (!((yy1.getD 1 D.nil).toBool)) (.ret [D.agg [D.int 0,D.sl [],D.sl []],D.int 7])
 (.call 84 [] [a0] fun yy2 =>
 .ret [D.agg [D.int ((yy2.getD 0 D.nil).toInt),D.sl [D.int (((yy1.getD 0 D.nil).els).length:Int)],D.sl ((yy1.getD 0 D.nil).els)],D.int 0]):=by kernel_rfl
theorem PX(n:Nat)(a0 b1 same2:D):Ai Tryz.prog md [] n 105 [] [a0,b1,same2] =
 .call 179 [] [a0,b1] fun yy1 =>
 .br (((yy1.getD 0 D.nil).toBool)==same2.toBool) (.call 84 [] [a0] fun yy2 =>
 .call 84 [] [b1] fun yy3 =>
 .call 83 [] [D.int ((yy2.getD 0 D.nil).toInt),D.int ((yy3.getD 0 D.nil).toInt)] fun yy4 =>
 .call 148 [] [D.int 1,D.int ((yy4.getD 0 D.nil).toInt)] fun yy5 =>
 .ret [yy5.getD 0 D.nil])
 (.call 84 [] [a0] fun yy6 =>
 .call 84 [] [b1] fun yy7 =>
 .call 83 [] [D.int ((yy6.getD 0 D.nil).toInt),D.int ((yy7.getD 0 D.nil).toInt)] fun yy8 =>
 .call 148 [] [D.int 0,D.int ((yy8.getD 0 D.nil).toInt)] fun yy9 =>
 .ret [yy9.getD 0 D.nil]):=by kernel_rfl
theorem NA(n:Nat)(nn0 s1:D):Ai Tryz.prog md [] n 148 [] [nn0,s1] =
 .call 138 [] [D.int nn0.toInt] fun yy1 =>
 .call 178 [] [yy1.getD 0 D.nil] fun yy2 =>
 .call 90 [] [yy2.getD 0 D.nil,D.int s1.toInt] fun yy3 =>
 .ret [yy3.getD 0 D.nil]:=by kernel_rfl
def De:List (Nat×Orc):=[(2,⟨[(0,none),(12,some 24),(13,none),(14,none)],[],[(.slot 0,1020,67)]⟩),(9,⟨[(0,none),(12,some 24),(13,none),(14,none),(29,some 65),(30,none),(31,none)],[],[(.slot 0,1090,67)]⟩)]
def Ss:List ResultVar:=[.tmp 4,.tmp 5]
noncomputable def M5(n m2 m9:Nat)(cells0:List D)(t12:D)(t13 t14:Int)(t29:D)(t30 t31:Int):Tree :=
 lA (eA De n 150 [1,0,1,0,0,1,1,0,0,1,1,1,0,0]) (Ao De 9) m9 ⟨(.row 1090::uA 11++(.d 24 t12:: .i .i64 t13:: .i .i64 t14::uA 14++(.d 65 t29:: .i .i64 t30:: .i .i64 t31::uA 14))),[(1090,.row 67 cells0 true)],[1090],[],[]⟩
  (Ak 2 (Ak 1 (Au (jA De n 150 [1,0,1,0,0,1,1,1]) (J0 Tryz.prog md (Ao De 2) (fun s1=>lA (eA De n 150 [1,0,1,0,0]) (Ao De 2) m2 s1 (Ak 0 (Au (jA De n 150 [1,1]) (rA 150 [24,26] Ss [24,4])))) (Ak 0 (Au (jA De n 150 [1,1]) (rA 150 [24,26] Ss [24,4])))))))
noncomputable def J_(n m2:Nat)(cells0:List D)(t12:D)(t13 t14:Int):Tree :=
 lA (eA De n 150 [1,0,1,0,0]) (Ao De 2) m2 ⟨(.row 1020::uA 11++(.d 24 t12:: .i .i64 t13:: .i .i64 t14::uA 31)),[(1020,.row 67 cells0 true)],[1020],[],[]⟩
  (Ak 0 (Au (jA De n 150 [1,1]) (rA 150 [24,26] Ss [24,4])))
theorem R1(n m2 m9:Nat)(cells0:List D)(t12:D)(t13 t14:Int)(t29:D)(t30 t31:Int):M5 n m2 (m9+1) cells0 t12 t13 t14 t29 t30 t31 =
 .br (decide (t31<t30)) (.br (decide (0≤t31)) (.br (decide (t31<(t29.els.length:Int))) (.call 150 [] [D.sl cells0,t29.els.getD (Int.toNat t31) D.nil] fun yy1 =>
 .br (!((yy1.getD 1 D.nil).toBool)) (.ret [D.sl [],D.bool false])
 (M5 n m2 m9 ((yy1.getD 0 D.nil).els) t12 t13 t14 t29 t30 (IntKind.wrap .i64 (t31+1)))) .fail) .fail)
 (J_ n m2 cells0 t12 t13 (IntKind.wrap .i64 (t14+1))):=by kernel_rfl
theorem R0(n m2:Nat)(cells0:List D)(t12:D)(t13 t14:Int):J_ n (m2+1) cells0 t12 t13 t14 =
 .br (decide (t14<t13)) (.br (decide (0≤t14)) (.br (decide (t14<(t12.els.length:Int))) (.br ((((t12.els.getD (Int.toNat t14) D.nil).fld 1).toInt)!=2) (.br ((cells0.length:Int)==2048) (.ret [D.sl [],D.bool false])
 (.br (decide (cells0.length + [t12.els.getD (Int.toNat t14) D.nil].length≤Ar)) (J_ n m2 (cells0++[t12.els.getD (Int.toNat t14) D.nil]) t12 t13 (IntKind.wrap .i64 (t14+1))) .fail))
 (M5 n m2 n cells0 t12 t13 t14 ((t12.els.getD (Int.toNat t14) D.nil).fld 4) ((((t12.els.getD (Int.toNat t14) D.nil).fld 4).els).length:Int) 0)) .fail) .fail)
 (.ret [D.sl cells0,D.bool true]):=by kernel_rfl
theorem MZ(n:Nat)(cells0 a1:D):Ai Tryz.prog md De n 150 [] [cells0,a1] =
 J_ n n cells0.els (a1.fld 2) (((a1.fld 2).els).length:Int) 0:=by kernel_rfl
def Hm(l:List Int)(s:Co):Arr:= .mk s [(l.length:Int)] (l.map B5)
def Fe(n:Int)(s:Co):Arr:= .mk s [] [B5 n]
theorem RN(l:List Int)(s:Co)(hl:l.length≤100000)(hr : ∀ x∈l,Cv x):Sp 33 [dI l,dB s] [dA (Hm l s)]:=by
 refine Ag (l.length+1) (KB _ _ _) ?_
 simp only[As]
 have key:=A7 (P:=Tryz.prog) (md:=md) l (fun m k (out:List Cell)=>Lw (l.length+1) m (dI l) (k:Int) 0 (s.toNat:Int) [D.int (l.length:Int)] (out.map dC)) (fun rest out=>[dA (.mk s [(l.length:Int)] (out++rest.map B5))]) (fun rest out=>out.length+rest.length≤100000)
  (fun m k out hk _=>by
   simp only[Q7,As]
   refine Am (by omega) (Ac ?_)
   rw[Fz];simp;rfl)
  (fun m k out x rest hdr hI ih=>by
   obtain ⟨h1,h2,h3⟩:=Az hdr
   have hm:=List.mem_of_getElem? h2
   simp only[Q7,As,Aj h2,An (show k<9223372036854775807 by omega)]
   repeat (refine Ae ?_)
   refine Aa (GF x (hr x hm)) (At ?_ ?_)
   · simp only[List.length_cons,List.length_nil,Ar,List.length_map]at hI ⊢; omega
   · have:=ih (out++[B5 x]) (by simp only[List.length_append,List.length_cons,List.length_nil]at hI ⊢; omega)
     rw[List.map_append]at this
     refine Tree.wp_mono this (fun ys hy=>hy.trans ?_)
     simp)
  (l.length+1) 0 [] (by omega) (by omega) (by simpa using hl)
 exact key
theorem Z7(n:Int)(s:Co)(hr:Cv n):Sp 32 [.int n,dB s] [dA (Fe n s)]:=by
 refine Ag 0 (NW _ _ _) (Aa (GF n hr) (Ac ?_))
 rw[Fz];rfl
def Zc(fr:List Cell)(k:Nat):List Cell:=(List.range k).map (fun i=>fr.getD (i % fr.length) (B5 0))
def AaJ(n a:Arr):Arr×Int :=
 if (Bc n).2=0 then (if (Ay (Bc n).1).2=0 then (.mk (a.s|||Bq n) (Bc n).1 (Zc a.cells (Ay (Bc n).1).1.toNat),0) else (.none,(Ay (Bc n).1).2)) else (.none,(Bc n).2)
theorem AgO(fr:List Cell)(k:Nat):Zc fr (k+1)=Zc fr k++[fr.getD (k % fr.length) (B5 0)]:=by simp[Zc,List.range_succ]
theorem TY(fr:List Cell)(k:Nat):(Zc fr k).length=k:=by simp[Zc]
theorem AfG{fr:List Cell}{i:Nat}(h:i<fr.length):(fr.map dC).getD i D.nil=dC (fr.getD i (B5 0)):=by
 rw[Aj (List.getElem?_eq_getElem h),List.getD_eq_getElem?_getD,List.getElem?_eq_getElem h];rfl
theorem Vi(n a:Arr)(hn:Fits n)(sh:List Int)(fr:List Cell)(hfr:0<fr.length)(K:Nat)(hK:K≤2048)(hf:fr.length≤2048):Tw (Gq 2049 2049 (dI sh) (.sl (fr.map dC)) (List.replicate K (dC Cell.none)) (K:Int) 0 (dA n) (dA a) 0) [dA (.mk (a.s|||Bq n) sh (Zc fr K)),.int 0]:=by
 have key:=C4 (P:=Tryz.prog) (md:=md) K (fun m k (cs:List D)=>Gq 2049 m (dI sh) (.sl (fr.map dC)) cs (K:Int) (k:Int) (dA n) (dA a) 0) (fun _ _=>[dA (.mk (a.s|||Bq n) sh (Zc fr K)),.int 0])
  (fun k cs=>cs=(Zc fr k).map dC++List.replicate (K-k) (dC Cell.none))
  (fun m cs hI=>by
   simp only[Pw]
   refine Am (by omega) (Aa (Cb n hn) ?_)
   simp only[Af,Ds,AgP,Si]
   refine Aa (Dc a.s (Bq n)) (Ac ?_)
   rw[hI,Fz,Nat.sub_self,List.replicate_zero,List.append_nil];rfl)
  (fun m k cs hkK hI ih=>by
   have hm:=Nat.mod_lt k hfr
   have hcl:cs.length=K:=by rw[hI];simp[TY];omega
   have et:Int.tmod (k:Int) (fr.length:Int)=((k % fr.length:Nat):Int):=rfl
   simp only[Pw,As,et,hcl,AfG hm,An (show k<9223372036854775807 by omega)]
   repeat (refine Ae ?_)
   refine ih _ ?_
   rw[hI,AgO,List.set_append_right _ _ (by simp[TY]),List.length_map,TY,Nat.sub_self,show K-k=(K-(k+1))+1 by omega,List.replicate_succ,List.set_cons_zero]
   simp)
  2049 0 (List.replicate K (dC Cell.none)) (by omega) (by omega) (by simp[Zc])
 exact key
theorem AiI:D.agg [D.int 0,D.int 0,D.agg [D.bool false,D.sl [],D.sl []],D.int 0,D.sl []]=dC Cell.none:=by rw[F6];rfl
theorem AiG(K:Nat):Zc [B5 0] K=Zc [] K:=by
 unfold Zc
 refine List.map_congr_left (fun i _=> ?_)
 simp[Nat.mod_one]
theorem PZ(n a:Arr)(hn:Fits n)(ha:a.cells.length≤2048)(hnl:n.cells.length≤2048)(hnt : ∀ c∈n.cells,c.n.top.length≤32):Sp 35 [dA n,dA a] [dA (AaJ n a).1,.int (AaJ n a).2]:=by
 refine Ag 2049 (JU _ _ _) (Aa (Fr n hnl hnt) ?_)
 simp only[Af,Ce,Ah,Cz,Cr,AiI]
 unfold AaJ
 refine Ad (fun h=>Ac ?_) (fun h=>Aa (Gu (Bc n).1) ?_)
 · rw[if_neg h]
 rw[if_pos (Classical.not_not.1 h)]
 simp only[Af,Ce,Ah]
 refine Ad (fun h=>Ac ?_) (fun h=> ?_)
 · rw[if_neg h]
 rw[if_pos (Classical.not_not.1 h)]
 have hk:=Fj (Bc n).1
 generalize (Ay (Bc n).1).1=kz at *
 obtain ⟨K,rfl⟩ : ∃ K:Nat,kz=(K:Int):=⟨kz.toNat,by omega⟩
 simp only[As,List.length_replicate]
 refine Ad (fun he=>Aa (Og a) ?_) (fun he=> ?_)
 · refine Ae (Ae (At (by simp only[Ar];omega) ?_))
   have hc:=List.length_eq_zero_iff.1 (show a.cells.length=0 by omega)
   have hfl:Eg a=B5 0:=by unfold Eg;rw[hc]
   have:=Vi n a hn (Bc n).1 [B5 0] (by decide) K (by omega) (by decide)
   rw[AiG]at this
   rw[hc,hfl]
   exact this
 · refine Ae (Ae (At (by simp only[Ar];omega) ?_))
   exact Vi n a hn (Bc n).1 a.cells (by omega) K (by omega) ha
theorem AbO(n:Int)(s:Co):D1 (K0 (B5 n)) s=Fe n s:=by simp[D1,K0,Fe]
theorem Xs{z:Int}(h:Cv z)(d:Nat):SmlC d (B5 z):=by
 have:=AfL h
 refine ⟨?_,?_,?_,?_⟩
 · simp only[B5,G4];omega
 · simp[B5,G4]
 · simp[B5]
 · simp[B5]
theorem Ka(n:Int)(s:Co)(h:Cv n):Sp 148 [.int n,dB s] [dA (Fe n s)]:=by
 refine Ag 0 (NA _ _ _) (Aa (Ey n h) (Aa (I6 (d:=0) (B5 n) (Xs h 0)) (Aa (C2 _ s) (Ac ?_))))
 rw[Af,AbO]
def SI(a:Arr):Arr:=Hm a.shape a.s
theorem Aag{d:Nat}(a:Arr)(h:Sml d a):Sp 56 [dA a] [dA (SI a)]:=by
 obtain ⟨e,rfl⟩:=h.succ
 have hl:=h.1
 refine Ag (a.shape.length+1) (QA _ _) ?_
 simp only[As,Gl]
 refine Ae (Ae (At (by simp only[Ar];omega) ?_))
 have key:=A7 (P:=Tryz.prog) (md:=md) a.shape (fun m k (cs:List D)=>Ot (a.shape.length+1) m cs (dI a.shape) (a.shape.length:Int) (k:Int) (dA a) 0) (fun _ _=>[dA (SI a)])
  (fun rest cs=>∃ pre:List Int,a.shape=pre++rest∧cs=(pre.map B5).map dC++List.replicate rest.length (dC Cell.none))
  (fun m k cs hk hI=>by
   obtain ⟨pre,h1,rfl⟩:=hI
   simp only[Uo,As]
   refine Am (by omega) (Ac ?_)
   rw[List.append_nil]at h1
   rw[Fz,SI,Hm,← h1];simp[dI])
  (fun m k cs c rest hdr hI ih=>by
   obtain ⟨h1,h2,h3⟩:=Az hdr
   obtain ⟨pre,hp,rfl⟩:=hI
   have hk:k=pre.length:=by
    have:=congrArg List.length hdr
    rw[hp]at this h1
    simp at this h1;omega
   simp only[Uo,As,Aj h2,An (show k<9223372036854775807 by omega)]
   repeat (refine Ae ?_)
   refine Aa (Ey c (h.2.2.1 c (List.mem_of_getElem? h2))) ?_
   have hlen:((pre.map B5).map dC++List.replicate (rest.length+1) (dC Cell.none)).length=a.shape.length:=by rw[hp];simp
   rw[List.length_cons,hlen]
   refine Ae (Ae ?_)
   have e:=Ml (f:=dC) (z:=dC Cell.none) (pre.map B5) (B5 c) rest.length
   rw[List.length_map,← hk]at e
   rw[Af,e]
   exact ih _ ⟨pre++[c],by rw[hp];simp,by simp⟩)
  (a.shape.length+1) 0 (List.replicate a.shape.length (dC Cell.none)) (by omega) (by omega) ⟨[],by simp,by simp⟩
 exact key
def Akm(a:Arr):Arr:= .mk a.s [(a.cells.length:Int)] a.cells
theorem Aaf{d:Nat}(a:Arr)(h:Sml d a):Sp 57 [dA a] [dA (Akm a)]:=by
 obtain ⟨e,rfl⟩:=h.succ
 refine Ag 0 (PY _ _) ?_
 simp only[As]
 refine Aa (Aex a.cells h.2.1) (Ac ?_)
 rw[Fz];rfl
def AcF(a:Arr):Arr:=Fe (a.shape.headD 1) a.s
theorem Aah{d:Nat}(a:Arr)(h:Sml d a):Sp 64 [dA a] [dA (AcF a)]:=by
 obtain ⟨e,rfl⟩:=h.succ
 refine Ag 0 (QB _ _) ?_
 simp only[As]
 unfold AcF
 match hs:a.shape with
 | []=>exact At (by simp) (Aa (Ka 1 a.s (Dv (by omega) (by omega))) (Ac rfl))
 | x::xs =>
  refine Am (by simp;omega) (Ae (At (by simp) ?_))
  exact Aa (Ka x a.s (h.2.2.1 x (by rw[hs];simp))) (Ac rfl)
def Aix(a:Arr):Arr:=Fe (P9 a:Int) (Bq a)
theorem Aad{d:Nat}(a:Arr)(h:Sml d a)(hd:d≤100000):Sp 63 [dA a] [dA (Aix a)]:=by
 have:=MF h
 exact Ag 0 (PU _ _) (Aa (Se d a (by omega) h) (Aa (Cb a h.fits) (Aa (Ka (P9 a:Int) (Bq a) (Dv (by omega) (by omega))) (Ac rfl))))
noncomputable def AaF(a b:Arr)(same:Bool):Arr:=Fe (if AeO a b=same then 1 else 0) (Bq a|||Bq b)
theorem CL{d e:Nat}(a b:Arr)(same:Bool)(h:Sml d a)(hb:Sml e b):Sp 105 [dA a,dA b,.bool same] [dA (AaF a b same)]:=by
 refine Ag 0 (PX _ _ _ _) (Aa (Y_ a b h) ?_)
 unfold AaF
 simp only[Af,Al,Wr]
 refine Ad (fun hh=> ?_) (fun hh=> ?_)
 · rw[if_pos hh]
   exact Aa (Cb a h.fits) (Aa (Cb b hb.fits) (Aa (Dc (Bq a) (Bq b)) (Aa (Ka 1 _ (Dv (by omega) (by omega))) (Ac rfl))))
 · rw[if_neg hh]
   exact Aa (Cb a h.fits) (Aa (Cb b hb.fits) (Aa (Dc (Bq a) (Bq b)) (Aa (Ka 0 _ (Dv (by omega) (by omega))) (Ac rfl))))
def Aba(a:Arr):Co:=match a.shape,a.cells with
 | [],c::_=>c.l
 | _,_=>0
def Aj8(a:Arr):Arr:= .mk a.s [] [⟨Aba a,2,.zero,0,[a]⟩]
def AaB(a:Arr):Arr×Int:=if Hd a then (a,0) else if 8<P9 a then (.none,7) else (Aj8 a,0)
theorem Abi(a:Arr)(l:Co)(h:l=Aba a):D.agg [dB a.s,D.sl [],D.sl [D.agg [dB l,D.int 2,D.agg [D.bool false,D.sl [],D.sl []],D.int 0,D.sl [dA a]]]]=dA (Aj8 a):=by subst h;rw[AjD,Fz];rfl
theorem PV{d:Nat}(a:Arr)(h:Sml d a)(hd:d≤100000):Sp 61 [dA a] [dA (AaB a).1,.int (AaB a).2]:=by
 refine Ag 0 (JT _ _) (Aa (Xx a) ?_)
 unfold AaB
 simp only[As,Cr]
 refine Df (fun hs=>Ac (by rw[if_pos hs])) (fun hs=>Aa (Se d a (by omega) h) ?_)
 rw[if_neg (by simp[hs])]
 simp only[Af,Ah]
 refine Ad (fun h8=>Ac (by rw[if_pos (by omega)])) (fun h8=> ?_)
 rw[if_neg (by omega)]
 refine Ad (fun h1=>Ad (fun h2=>Ae (Ae (Ac ?_))) (fun h2=>Ac ?_)) (fun h1=>Ac ?_)
 · match hsh:a.shape,hc:a.cells with
   | [],c::cs =>
    simp only[List.map_cons,Af,As]
    rw[Abi a c.l (by unfold Aba;rw[hsh,hc])]
   | x::xs,_=>rw[hsh]at h1;simp at h1;omega
   | [],[]=>rw[hc]at h2;simp at h2
 · refine congrArg (fun x=>[x,D.int 0]) (Abi a 0 ?_)
   unfold Aba
   match hsh:a.shape,hc:a.cells with
   | [],c::cs=>rw[hc]at h2;simp at h2
   | x::xs,_=>rfl
   | [],[]=>rfl
 · refine congrArg (fun x=>[x,D.int 0]) (Abi a 0 ?_)
   unfold Aba
   match hsh:a.shape,hc:a.cells with
   | [],c::cs=>rw[hsh]at h1;simp at h1
   | x::xs,_=>rfl
   | [],[]=>rfl
def Abv(a:Arr):Arr:=match a.cells with
 | []=>Fe 0 a.s
 | c::_=>D1 (HK c) a.s
theorem Aae{d:Nat}(a:Arr)(h:Sml (d+1) a):Sp 62 [dA a] [dA (Abv a)]:=by
 refine Ag 0 (PW _ _) (Aa (Og a) ?_)
 unfold Abv
 simp only[As]
 match hc:a.cells with
 | [] =>
  have e:Eg a=B5 0:=by unfold Eg;rw[hc]
  refine Am (by simp) ?_
  rw[e]
  refine Aa (P3 (B5 0) (Xs AeD 0)) (Aa (C2 _ a.s) (Ac ?_))
  rw[Af,AcH (by simp[B5])]
  simp[D1,Fe,B5]
 | c::cs =>
  refine At (by simp) (Ae (At (by simp) ?_))
  exact Aa (P3 c (h.cell c (by rw[hc];simp))) (Aa (C2 _ a.s) (Ac rfl))
mutual
def S8:Arr→List (CellF Arr)
 | .mk _ _ cs=>Qc cs
def Qc:List (CellF Arr)→List (CellF Arr)
 | []=>[]
 | c::cs=>AeA c++Qc cs
def AeA:CellF Arr→List (CellF Arr)
 | ⟨l,k,n,c,inn⟩=>if k=2 then Zg inn else [⟨l,k,n,c,inn⟩]
def Zg:List Arr→List (CellF Arr)
 | []=>[]
 | a::as_=>S8 a++Zg as_
end
theorem Aha(a:Arr):S8 a=Qc a.cells:=by cases a;rw[S8];rfl
theorem Ahb(c:Cell):AeA c=if c.kind=2 then Zg c.inn else [c]:=by cases c;rw[AeA]
def PB(out fl:List Cell):List D:=if out.length+fl.length≤2048 then [.sl ((out++fl).map dC),.bool true] else [.sl [],.bool false]
theorem Zv : ∀ (d:Nat) (a:Arr) (out:List Cell),Sml d a→out.length≤2048→Sp 150 [.sl (out.map dC),dA a] (PB out (S8 a))
 | 0,_,_,h,_=>h.elim
 | d+1,a,out,h,ho=>by
  have hl:=h.2.1
  refine Ag 1048577 (MZ _ _ _) ?_
  simp only[As]
  rw[Aha]
  have key:=A7 (P:=Tryz.prog) (md:=md) a.cells (fun m k (out:List Cell)=>J_ 1048577 m (out.map dC) (.sl (a.cells.map dC)) (a.cells.length:Int) (k:Int)) (fun rest out=>PB out (Qc rest)) (fun _ out=>out.length≤2048)
   (fun m k out hk hI=>by
    simp only[R0,As]
    refine Am (by omega) (Ac ?_)
    rw[Qc,PB,if_pos (by simpa using hI),List.append_nil])
   (fun m k out c rest hdr hI ih=>by
    obtain ⟨h1,h2,h3⟩:=Az hdr
    have hc:=h.cell c (List.mem_of_getElem? h2)
    have hlc:=hc.2.2.1
    simp only[R0,As,Aj h2,An (show k<9223372036854775807 by omega)]
    rw[Qc,Ahb]
    refine Ae (Ae (Ae (Ad (fun hk=> ?_) (fun hk=> ?_))))
    · rw[if_neg hk]
      refine Ad (fun he=>Ac ?_) (fun he=>At (by simp only[List.length_cons,List.length_nil,Ar];omega) ?_)
      · rw[PB,if_neg (by simp;omega)]
      · have:=ih (out++[c]) (by simp;omega)
        rw[List.map_append]at this
        refine Tree.wp_mono this (fun ys hy=>hy.trans ?_)
        unfold PB
        simp only[List.length_append,List.length_cons,List.length_nil,List.append_assoc]
        rw[show out.length+(0+1)+(Qc rest).length=out.length+(0+1+(Qc rest).length) by omega]
    · rw[if_pos (Classical.not_not.1 hk)]
      have key:=A7 (P:=Tryz.prog) (md:=md) c.inn (fun m' j (out:List Cell)=>M5 1048577 m m' (out.map dC) (.sl (a.cells.map dC)) (a.cells.length:Int) (k:Int) (.sl (c.inn.map dA)) (c.inn.length:Int) (j:Int)) (fun rest' out=>PB out (Zg rest'++Qc rest)) (fun _ out=>out.length≤2048)
        (fun m' j out hj hI'=>by
         simp only[R1,As,An (show k<9223372036854775807 by omega)]
         rw[Zg,List.nil_append]
         exact Am (by omega) (ih _ hI'))
        (fun m' j out x rest' hdr' hI' ih'=>by
         obtain ⟨g1,g2,g3⟩:=Az hdr'
         simp only[R1,As,Aj g2,An (show j<9223372036854775807 by omega)]
         repeat (refine Ae ?_)
         refine Aa (Zv d x out (hc.2.2.2 x (List.mem_of_getElem? g2)) hI') ?_
         rw[Zg]
         unfold PB
         by_cases hle:out.length+(S8 x).length≤2048
         · rw[if_pos hle]
           refine Cs rfl ?_
           have:=ih' (out++S8 x) (by simpa using hle)
           simp only[Af,Ez]
           refine Tree.wp_mono this (fun ys hy=>hy.trans ?_)
           unfold PB
           simp only[List.length_append,List.append_assoc,Nat.add_assoc]
         · rw[if_neg hle]
           refine Ba rfl (Ac ?_)
           rw[if_neg (by simp only[List.length_append];omega)])
        1048577 0 out (by omega) (by omega) hI
      exact key)
   1048577 0 out (by omega) (by omega) ho
  exact key
def Ae4(a:Arr):Arr×Int:=if (S8 a).length≤2048 then (.mk (Bq a) [((S8 a).length:Int)] (S8 a),0) else (.none,7)
theorem US{d:Nat}(a:Arr)(h:Sml d a):Sp 66 [dA a] [dA (Ae4 a).1,.int (Ae4 a).2]:=by
 refine Ag 0 (MY _ _) (Aa (Zv d a [] h (by simp)) ?_)
 unfold PB Ae4
 simp only[List.length_nil,Nat.zero_add,List.nil_append,Cr]
 by_cases hle:(S8 a).length≤2048
 · rw[if_pos hle,if_pos hle]
   refine Cs rfl (Aa (Cb a h.fits) (Ac ?_))
   simp only[Af,Ez,Ds,List.length_map,Si]
   rw[Fz];rfl
 · rw[if_neg hle,if_neg hle]
   exact Ba rfl (Ac rfl)
open Go.RowKit
section
variable {P:Program} {md:Nat→FMode}
def ResV(P:Program)(md:Nat→FMode)(w:World)(M:Nat→Prop)(t:Nat)(y:D)(u:Value):Prop:=∃ look β,VL P md w (Bf M look β) look β (D8 P t y) u
theorem ResV.int {w:World} {M:Nat→Prop} {t:Nat} {k:IntKind} {n:Int} {u:Value} (h:ResV P md w M t (.int n) u) (ht:P.underlying t=some (.int k)):u = .int k n∧k.min≤n∧n≤k.max:=by
 obtain ⟨look,β,h⟩:=h
 unfold D8 at h
 rw[ht]at h
 exact N3 h
theorem ResV.bool {w:World} {M:Nat→Prop} {t:Nat} {b:Bool} {u:Value} (h:ResV P md w M t (.bool b) u) (ht:P.underlying t=some .bool):u = .bool b:=by
 obtain ⟨look,β,h⟩:=h
 unfold D8 at h
 rw[ht]at h
 exact CD h
theorem ResV.rd {w:World} {M:Nat→Prop} {t:Nat} {y:D} {u:Value} (h:ResV P md w M t y u) (ht:D8 P t y = .d t y):Rd P md w M (.ty t) y u:=by
 obtain ⟨look,β,h⟩:=h
 rw[ht]at h
 obtain ⟨h1,h2⟩:=Ew h (by simp) (by simp) (by simp)
 cases h1 with
 | d h1=>exact ⟨h1.mono (Nat.le_refl _) (fun _ _ _=>rfl) (fun b hb _=> .inl hb),h2.size,h2.agg⟩
theorem Lj{w w':World}{M M':Nat→Prop}{t:CT}{x:D}{v:Value}(h:Rd P md w M t x v)(hx:Ext w w')(hM : ∀ b,M' b→b<w.heap.size→M b):Rd P md w' M' t x v :=
 ⟨h.rd.mono hx.size (fun b _ hb=>hx.block b hb) hM,h.size,h.agg⟩
theorem OG{F:Nat}{fn:Func}{xs ys:List D}{vs:List Value}{W:World}{M:Nat→Prop}(hs:Ia P md F [] xs ys)(hfn:P.funcs[F]? = some fn)(hm:md F = {})(hM : ∀ b,M b→b<W.heap.size)
   (hlx:xs.length=fn.params.size) (hlv:vs.length=fn.params.size) (hrd : ∀ (i t:Nat) (x:D) (v:Value),fn.params.toList[i]? = some t→xs[i]? = some x→vs[i]? = some v→Rd P md W M (.ty t) x v) :
   Calls P F vs.toArray W (fun e w'=>∃ us,e = .returned (BV us)∧us.length=fn.resultTypes.size∧(∀ (i t:Nat) (u:Value),fn.resultTypes.toList[i]? = some t→us[i]? = some u→ResV P md w' M t (ys.getD i .nil) u)∧Ext W w'):=by
 obtain ⟨fn',h1,_,_,h⟩:=hs
 rw[hfn]at h1
 injection h1 with h1
 subst h1
 have nol : ∀ b,¬ E_ (md F) vs b:=fun b ⟨p,v,h1,_⟩=>by rw[hm]at h1;cases h1
 refine (h W M vs 0 1 (fun k hk=>by rw[hm]at hk;cases hk) ⟨by simp[hlx],by simp[hlv],fun b hb=>⟨hM b hb,nol b⟩,?_,fun p hp=>by rw[hm]at hp;cases hp⟩).mono ?_
 · intro i ct x v hc hx hv _
   simp only[List.append_nil,List.getElem?_map,Option.map_eq_some_iff]at hc
   obtain ⟨t,ht,rfl⟩:=hc
   have:=hrd i t x v ht hx hv
   exact ⟨this.rd.mono (Nat.le_refl _) (fun _ _ _=>rfl) (fun b hb _=>hb.elim id (fun h=>(nol b h).elim)),this.size,this.agg⟩
 · rintro e w' ⟨us,β',hp⟩
   refine ⟨us,hp.ending,by simpa using hp.len,fun i t u ht hu=> ?_,?_⟩
   · have:=hp.vl (Jq P fn.resultTypes.toList ys 0) (by rw[hm];rfl) i _ u (Sz ht) hu
     rw[Nat.zero_add]at this
     exact ⟨_,_,this⟩
   · exact Stp.ext (hp.stp.weak fun b hb=>(nol b hb).elim)
theorem AbR{us:List Value}{n:Nat}(h:us.length=n)(hn:n=1) : ∃ u,us = [u]:=by
 subst hn
 match us,h with
 | [u],_=>exact ⟨u,rfl⟩
theorem AcD{F:Nat}{fn:Func}{xs:List D}{n:Int}{vs:List Value}{W:World}{M:Nat→Prop}{t:Nat}{k:IntKind}(hs:Ia P md F [] xs [.int n])(hfn:P.funcs[F]? = some fn)(hm:md F = {})(hM : ∀ b,M b→b<W.heap.size)
  (hlx:xs.length=fn.params.size) (hlv:vs.length=fn.params.size) (hrd : ∀ (i t:Nat) (x:D) (v:Value),fn.params.toList[i]? = some t→xs[i]? = some x→vs[i]? = some v→Rd P md W M (.ty t) x v)
  (hrt:fn.resultTypes = #[t]) (ht:P.underlying t=some (.int k)):Calls P F vs.toArray W (fun e w'=>e = .returned (.int k n)∧(k.min≤n∧n≤k.max)∧Ext W w'):=by
 refine (OG hs hfn hm hM hlx hlv hrd).mono ?_
 rintro e w' ⟨us,rfl,hl,hh,hx⟩
 obtain ⟨u,rfl⟩:=AbR hl (by rw[hrt];rfl)
 obtain ⟨rfl,h2⟩:=(hh 0 t u (by rw[hrt];rfl) rfl).int ht
 exact ⟨rfl,h2,hx⟩
theorem Ai2{F:Nat}{fn:Func}{xs:List D}{y:D}{vs:List Value}{W:World}{M:Nat→Prop}{t:Nat}(hs:Ia P md F [] xs [y])(hfn:P.funcs[F]? = some fn)(hm:md F = {})(hM : ∀ b,M b→b<W.heap.size)
  (hlx:xs.length=fn.params.size) (hlv:vs.length=fn.params.size) (hrd : ∀ (i t:Nat) (x:D) (v:Value),fn.params.toList[i]? = some t→xs[i]? = some x→vs[i]? = some v→Rd P md W M (.ty t) x v)
  (hrt:fn.resultTypes = #[t]) (ht:D8 P t y = .d t y):Calls P F vs.toArray W (fun e w'=>∃ u,e = .returned u∧Rd P md w' M (.ty t) y u∧Ext W w'):=by
 refine (OG hs hfn hm hM hlx hlv hrd).mono ?_
 rintro e w' ⟨us,rfl,hl,hh,hx⟩
 obtain ⟨u,rfl⟩:=AbR hl (by rw[hrt];rfl)
 exact ⟨u,rfl,(hh 0 t u (by rw[hrt];rfl) rfl).rd ht,hx⟩
theorem YQ{F:Nat}{fn:Func}{xs es:List D}{vs:List Value}{W:World}{M:Nat→Prop}{t e:Nat}(hs:Ia P md F [] xs [.sl es])(hfn:P.funcs[F]? = some fn)(hm:md F = { own:=[(0,[])] })(hM : ∀ b,M b→b<W.heap.size)
   (hlx:xs.length=fn.params.size) (hlv:vs.length=fn.params.size) (hrd : ∀ (i t:Nat) (x:D) (v:Value),fn.params.toList[i]? = some t→xs[i]? = some x→vs[i]? = some v→Rd P md W M (.ty t) x v)
   (hrt:fn.resultTypes = #[t]) (ht:Cf P t=some e) (h1:one P t=true) (hne:es≠[]) :
   Calls P F vs.toArray W (fun en w'=>∃ G cap cur,en = .returned (.slice (some ⟨G,0,none⟩) es.length cap)∧W.heap.size≤G∧G<w'.heap.size∧w'.heap[G]? = some (.cells cur e (0,0))∧es.length≤cap∧cap≤maxLen∧cur.size=cap*P.cellsOf e ∧
     (∀ (i:Nat) (x:D),es[i]? = some x→∃ M',RdC P md w' M' (.ty e) x (fun j=>cur[i*P.cellsOf e+j]?))∧Ext W w'):=by
 obtain ⟨fn',g1,_,_,h⟩:=hs
 rw[hfn]at g1
 injection g1 with g1
 subst g1
 have nol : ∀ b,¬ E_ (md F) vs b:=fun b ⟨p,v,h1,_⟩=>by rw[hm]at h1;cases h1
 refine (h W M vs 0 1 (fun k hk=>by rw[hm]at hk;simp at hk;omega) ⟨by simp[hlx],by simp[hlv],fun b hb=>⟨hM b hb,nol b⟩,?_,fun p hp=>by rw[hm]at hp;cases hp⟩).mono ?_
 · intro i ct x v hc hx hv _
   simp only[List.append_nil,List.getElem?_map,Option.map_eq_some_iff]at hc
   obtain ⟨t,ht,rfl⟩:=hc
   have:=hrd i t x v ht hx hv
   exact ⟨this.rd.mono (Nat.le_refl _) (fun _ _ _=>rfl) (fun b hb _=>hb.elim id (fun h=>(nol b h).elim)),this.size,this.agg⟩
 · rintro en w' ⟨us,β',hp⟩
   have hl:=hp.len
   rw[hrt]at hl
   obtain ⟨u,rfl⟩:=AbR hl rfl
   have hot:Su P [t] (0,[])=some e:=by simp[Su,B4,h1,ht]
   have hlook:Dg P (md F) fn.params.toList fn.resultTypes.toList [.sl es] 0 1 0=some (.row e es true):=by
     rw[hm,hrt]
     simp[Dg,Po,Dk,B8,Bd,hot,D.path,D.els,List.getD]
   have hv:=hp.vl [.row 0] (by rw[hm,hrt];simp[Jq,Ho,Kj]) 0 (.row 0) u rfl rfl
   have hu:=Mp hv hlook
   have hb:=hp.blks 0 _ hlook
   have ho:=fun B=>hp.own 0 _ B hlook
   obtain ⟨A,cap,hA,hb⟩:=hb
   rcases hb with ⟨hn,_⟩ | ⟨B,cur,rfl,hc0,hB,hlen,hcap,hsz,hpos,hrd'⟩
   · exact absurd hn hne
   · have hob:=ho B (by rw[hA];simp[Bw];omega)
     have hG:=hob.1.resolve_right (nol B)
     refine ⟨B,cap,cur,?_,hG,hob.2,hB,hlen,hcap,hsz,fun i x hx=>⟨_,hrd' i x hx⟩,Stp.ext (hp.stp.weak fun b hb=>(nol b hb).elim)⟩
     rw[hp.ending,hu,hA];rfl
theorem AdZ{w:World}{M:Nat→Prop}{ps:List Nat}{t:Nat}{x:D}{v:Value}(hp:ps = [t])(h:Rd P md w M (.ty t) x v) : ∀ (i t':Nat) (x':D) (v':Value),ps[i]? = some t'→[x][i]? = some x'→[v][i]? = some v'→Rd P md w M (.ty t') x' v':=by
 intro i t' x' v' h1 h2 h3
 subst hp
 match i with
 | 0=>cases h1;cases h2;cases h3;exact h
 | i+1=>simp at h1
theorem Wk{w:World}{M:Nat→Prop}{ps:List Nat}{t u:Nat}{x y:D}{v z:Value}(hp:ps = [t,u])(h:Rd P md w M (.ty t) x v)(h':Rd P md w M (.ty u) y z) : ∀ (i t':Nat) (x':D) (v':Value),ps[i]? = some t'→[x,y][i]? = some x'→[v,z][i]? = some v'→Rd P md w M (.ty t') x' v':=by
 intro i t' x' v' h1 h2 h3
 subst hp
 match i with
 | 0=>cases h1;cases h2;cases h3;exact h
 | 1=>cases h1;cases h2;cases h3;exact h'
 | i+2=>simp at h1
theorem Wl{w:World}{M:Nat→Prop}{t:Nat}{k:IntKind}{n:Int}(ht:P.underlying t=some (.int k))(hs:P.cellsOf t=1)(ha:A0 P t=false)(h1:k.min≤n)(h2:n≤k.max):Rd P md w M (.ty t) (.int n) (.int k n) :=
 ⟨.int ht h1 h2 rfl,hs.symm,ha.symm⟩
theorem JH (hP : WfP P) {F : Nat} {fn : Func} {cts : List CT} {xs ys : List D} (hfn : P.funcs[F]? = some fn) (hb : fn.body.isSome = true) (hn : (fn.name == "runtime.NumGoroutine") = false) (hm : md F = {})
   (h : ∀ (w:World) (M:Nat→Prop) (vs:List Value),(∀ b,M b→b<w.heap.size)→xs.length=fn.params.size+cts.length→vs.length=fn.params.size+cts.length→(∀ (i:Nat) (t:CT) (x:D) (v:Value),(fn.params.toList.map CT.ty++cts)[i]? = some t→xs[i]? = some x→vs[i]? = some v→Rd P md w M t x v) →
     Calls P F vs.toArray w (fun e w'=>∃ us,e = .returned (BV us)∧us.length=fn.resultTypes.size∧(∀ (i t:Nat) (u:Value),fn.resultTypes.toList[i]? = some t→us[i]? = some u→Rd P md w' M (.ty t) (ys.getD i .nil) u)∧Ext w w')):Ia P md F cts xs ys:=by
 refine ⟨fn,hfn,hb,hn,fun w M vs d bid _ hp=> ?_⟩
 have nol : ∀ b,¬ E_ (md F) vs b:=fun b ⟨p,v,h1,_⟩=>by rw[hm]at h1;cases h1
 have hlook:Dg P (md F) fn.params.toList fn.resultTypes.toList ys d bid=fun _=>none:=by rw[hm];rfl
 refine (h w M vs (fun b hb=>(hp.m b hb).1) (by simpa using hp.lenx) (by simpa using hp.lenv) (fun i t x v h1 h2 h3=> ?_)).mono ?_
 · have:=hp.rd i t x v h1 h2 h3 (by rw[hm];simp)
   exact ⟨this.rd.mono (Nat.le_refl _) (fun _ _ _=>rfl) (fun b hb _=> .inl hb),this.size,this.agg⟩
 · rintro e w' ⟨us,rfl,hl,hh,hx⟩
   refine ⟨us,fun _=>undef,rfl,by simpa using hl,(Stp.of_ext hx).weak (fun _ h=>h),?_,?_,?_,?_,?_⟩
   · intro ls hls i l u hi hu
     rw[hm]at hls
     simp only[Ho,Option.some.injEq]at hls
     subst hls
     obtain ⟨t,ht⟩ : ∃ t,fn.resultTypes.toList[i]? = some t:=by
      have:=(List.getElem?_eq_some_iff.1 hi).1
      rw[S0]at this
      exact ⟨_,List.getElem?_eq_getElem this⟩
     have hr:=hh i t u ht hu
     rw[Sz ht,Nat.zero_add]at hi
     injection hi with hi
     subst hi
     have hr':Rd P md w' (Bf M (Dg P (md F) fn.params.toList fn.resultTypes.toList ys d bid) (fun _=>undef)) (.ty t) (ys.getD i .nil) u:=by
      refine Lj hr (Ext.refl _) (fun b hb _=> ?_)
      rcases hb with hb | ⟨r,k,hk,_⟩
      · exact hb
      · rw[hlook]at hk;cases hk
     exact (Us hP hr').1
   · intro r b hb;rw[hlook]at hb;cases hb
   · intro r b B hb;rw[hlook]at hb;cases hb
   · intro r q b c B hb;rw[hlook]at hb;cases hb
   · intro hb;rw[hm]at hb;cases hb
end
end Go.Proofs.YtokkbgpgaheakaaGreat
namespace Go.Proofs.YtokkbgpgaheakaaGreat
theorem TU{x k:Nat}(h:(lb x).length=k+1):B ^ k≤x:=by
 rcases Nat.lt_or_ge x (B ^ k) with h1 | h1
 · have:=Ax.2 h1;omega
 · exact h1
theorem AeJ{r:List Av}(h : ∀ k,r.length=k+1→B ^ k≤nv r):lb (nv r)=r:=by
 refine AfK (fun hne hz=> ?_)
 have hd:=List.dropLast_concat_getLast hne
 have hl:0<r.length:=List.length_pos_iff.2 hne
 have h1:=h (r.length-1) (by omega)
 have e:nv r=nv r.dropLast:=by
  have e2:=Kb r.dropLast (r.getLast hne)
  rw[hd,hz,show (0:Av).toNat=0 from rfl,Nat.mul_zero,Nat.add_zero]at e2
  exact e2
 have h2:=Ck r.dropLast
 rw[List.length_dropLast]at h2
 omega
theorem AdU{α:Type}{pre l:List α}{k:Nat}(hp:pre.length=k)(hk:k<l.length):(pre++l.drop k)[k]? = some l[k]:=by
 rw[List.getElem?_append_right (by omega),hp,Nat.sub_self,List.getElem?_drop,Nat.add_zero,List.getElem?_eq_getElem hk]
theorem AdV{α:Type}{pre l:List α}{k:Nat}(v:α)(hp:pre.length=k)(hk:k<l.length):(pre++l.drop k).set k v=(pre++[v])++l.drop (k+1):=by
 rw[List.set_append_right _ _ (by omega),hp,Nat.sub_self,List.drop_eq_getElem_cons hk,List.set_cons_zero];simp
theorem map_set{α:Type}{f:α→D}{l:List α}{k:Nat}{v:α} : (l.map f).set k (f v)=(l.set k v).map f:=by rw[List.map_set]
theorem Akc(l:List Av)(i:Nat)(hi:i<l.length)(v:Av):nv (l.set i v)+B ^ i*(l[i]).toNat=nv l+B ^ i*v.toNat:=by
 induction l generalizing i with
 | nil=>simp at hi
 | cons y l ih =>
  cases i with
  | zero=>simp[nv];omega
  | succ i =>
   have hi':i<l.length:=by simpa using hi
   have:=ih i hi'
   simp only[List.set_cons_succ,nv,List.getElem_cons_succ,Nat.pow_succ]
   have h2:=congrArg (fun n=>B*n) this
   simp only[Nat.mul_add]at h2
   rw[show B ^ i*B*(l[i]).toNat=B*(B ^ i*(l[i]).toNat) by rw[Nat.mul_comm (B ^ i) B,Nat.mul_assoc],show B ^ i*B*v.toNat=B*(B ^ i*v.toNat) by rw[Nat.mul_comm (B ^ i) B,Nat.mul_assoc]]
   omega
theorem Za{X Y:Nat}(hX:X<4294967296)(hY:Y<4294967296):Bs .xor .u32 (X:Int) (Y:Int)=((X^^^Y:Nat):Int)∧Bs .and .u32 (X:Int) (Y:Int)=((X&&&Y:Nat):Int)∧Bs .or .u32 (X:Int) (Y:Int)=((X|||Y:Nat):Int):=by
 have b:IntKind.bits .u32=32:=rfl
 have e1:(X^^^Y)<2 ^ 32:=Nat.xor_lt_two_pow (by omega) (by omega)
 have e2:(X&&&Y)<2 ^ 32:=Nat.and_lt_two_pow _ (by omega)
 have e3:(X|||Y)<2 ^ 32:=Nat.or_lt_two_pow (by omega) (by omega)
 simp only[Bs,b,BitVec.ofInt_natCast,BitVec.toNat_xor,BitVec.toNat_and,BitVec.toNat_or,BitVec.toNat_ofNat,Nat.mod_eq_of_lt (show X<2 ^ 32 by omega),Nat.mod_eq_of_lt (show Y<2 ^ 32 by omega)]
 exact ⟨Fp (by omega) (by omega),Fp (by omega) (by omega),Fp (by omega) (by omega)⟩
theorem JJ(n:Nat)(h:n<4294967296):n.testBit 31=decide (2147483648≤n):=by
 rw[Nat.testBit_eq_decide_div_mod_eq]
 have:n / 2 ^ 31 % 2=1↔2147483648≤n:=by omega
 simp only[this]
theorem Aeh(X Y D c:Nat)(hX:X<4294967296)(hY:Y<4294967296)(hc:c≤1)(hD:(D:Int)=((X:Int)-Y-c) % 4294967296) :
  ((((4294967295^^^X)&&&Y)|||((4294967295^^^(X^^^Y))&&&D):Nat):Int) / 2147483648=if X<Y+c then 1 else 0:=by
 have hDl:D<4294967296:=by omega
 have hN:(((4294967295^^^X)&&&Y)|||((4294967295^^^(X^^^Y))&&&D))<2 ^ 32 :=
  Nat.or_lt_two_pow (Nat.and_lt_two_pow _ (by omega)) (Nat.and_lt_two_pow _ (by omega))
 have ht:=JJ _ (show _<4294967296 from hN)
 rw[Nat.testBit_or,Nat.testBit_and,Nat.testBit_and,Nat.testBit_xor,Nat.testBit_xor,Nat.testBit_xor,JJ X hX,JJ Y hY,JJ D hDl,show Nat.testBit 4294967295 31=true by decide]at ht
 generalize (((4294967295^^^X)&&&Y)|||((4294967295^^^(X^^^Y))&&&D))=N at *
 by_cases h1:2147483648≤X <;> by_cases h2:2147483648≤Y <;> by_cases h3:2147483648≤D <;> simp[h1,h2,h3]at ht <;> split <;> omega
theorem CF(x y c:Nat)(hx:x<B)(hy:y<B)(hc:c≤1):Sp 333 [.int (x:Int),.int (y:Int),.int (c:Int)] [.int (((x+y+c) % B:Nat):Int),.int (((x+y+c) / B:Nat):Int)]:=by
 rw[Be]at *
 refine Ag 0 (OS _ _ _ _) (Ba (by decide) (Ac ?_))
 simp only[Ah]
 have t1:IntKind.wrap .u64 (IntKind.wrap .u64 (IntKind.wrap .u64 (x:Int)+IntKind.wrap .u64 (y:Int))+IntKind.wrap .u64 (c:Int))=((x+y+c:Nat):Int):=by
  rw[A_ (x:=(x:Int)) (by omega) (by omega),A_ (x:=(y:Int)) (by omega) (by omega),A_ (x:=(c:Int)) (by omega) (by omega),A_ (x:=(x:Int)+y) (by omega) (by omega),A_ (by omega) (by omega)];omega
 rw[t1,Ze,Fp (x:=(((x+y+c) / 4294967296:Nat):Int)) (by omega) (by omega)]
 have t2:IntKind.wrap .u32 ((x+y+c:Nat):Int)=(((x+y+c) % 4294967296:Nat):Int):=by rw[IntKind.wrap_u32];omega
 rw[t2]
theorem CG(x y c:Nat)(hx:x<B)(hy:y<B)(hc:c≤1)(z c':Nat)(hz:z<B)(hc':c'≤1)(e:x+B*c'=z+y+c):Sp 334 [.int (x:Int),.int (y:Int),.int (c:Int)] [.int (z:Int),.int (c':Int)]:=by
 rw[Be]at *
 refine Ag 0 (OV _ _ _ _) (Ba (by decide) (Ac ?_))
 simp only[Ah]
 have t1:IntKind.wrap .u32 (IntKind.wrap .u32 ((x:Int)-(y:Int))-(c:Int))=(z:Int):=by rw[IntKind.wrap_u32,IntKind.wrap_u32];omega
 have hm:IntKind.max .u32=((4294967295:Nat):Int):=by decide
 have e1:(4294967295^^^x)<2 ^ 32:=Nat.xor_lt_two_pow (by omega) (by omega)
 have e2:(x^^^y)<2 ^ 32:=Nat.xor_lt_two_pow (by omega) (by omega)
 have e3:(4294967295^^^(x^^^y))<2 ^ 32:=Nat.xor_lt_two_pow (by omega) e2
 have e4:((4294967295^^^x)&&&y)<2 ^ 32:=Nat.and_lt_two_pow _ (by omega)
 have e5:((4294967295^^^(x^^^y))&&&z)<2 ^ 32:=Nat.and_lt_two_pow _ (by omega)
 have hs:=Aeh x y z c (by omega) (by omega) hc (by omega)
 rw[t1,hm,(Za (X:=4294967295) (Y:=x) (by omega) (by omega)).1,(Za (X:=x) (Y:=y) (by omega) (by omega)).1,(Za (X:=4294967295) (Y:=x^^^y) (by omega) (by omega)).1,(Za (X:=4294967295^^^x) (Y:=y) (by omega) (by omega)).2.1,(Za (X:=4294967295^^^(x^^^y)) (Y:=z) (by omega) (by omega)).2.1,(Za (by omega) (by omega)).2.2]
 have t3 : ∀ q:Nat,Int.fdiv (q:Int) (2 ^ (min (Int.toNat 31) (IntKind.bits .u32)))=(q:Int) / 2147483648:=fun q=>by
  rw[show (2:Int) ^ (min (Int.toNat 31) (IntKind.bits .u32))=2147483648 by decide,Int.fdiv_eq_ediv_of_nonneg _ (by omega)]
 rw[t3,hs]
 congr 2
 split <;> congr 1 <;> omega
theorem Qh(a b:List Av)(ha:a.length≤1000000)(hb:b.length≤1000000):Sp 302 [dL a,dL b] [.int (Hs (nv a) (nv b))]:=by
 refine Ag (a.length+1) (AbG _ _ _) (Aa (C9 a (by omega)) (Aa (C9 b (by omega)) ?_))
 have la:(lb (nv a)).length≤a.length:=Ax.2 (Ck a)
 have lb_:(lb (nv b)).length≤b.length:=Ax.2 (Ck b)
 simp only[Af,Bu,List.length_map]
 refine Ad (fun h=>Ac ?_) (fun h=>Ad (fun h'=>Ac ?_) (fun h'=> ?_))
 · have h1:nv a<nv b:=by
    have e1:nv a<B ^ (lb (nv a)).length:=Ax.1 (Nat.le_refl _)
    rcases Nat.lt_or_ge (nv b) (B ^ (lb (nv a)).length) with h2 | h2
    · have:=Ax.2 h2;omega
    · omega
   rw[Hs,if_pos h1]
 · have h1:nv b<nv a:=by
    have e1:nv b<B ^ (lb (nv b)).length:=Ax.1 (Nat.le_refl _)
    rcases Nat.lt_or_ge (nv a) (B ^ (lb (nv b)).length) with h2 | h2
    · have:=Ax.2 h2;omega
    · omega
   rw[Hs,if_neg (by omega),if_neg (by omega)]
 · have hl:(lb (nv b)).length=(lb (nv a)).length:=by omega
   have key:=G0 (P:=Tryz.prog) (md:=md) (fun m k (_:Unit)=>V3 (a.length+1) m (dL (lb (nv a))) (dL (lb (nv b))) ((k:Int)-1)) (fun _ _=>[.int (Hs (nv a) (nv b))]) (fun k _=>k≤(lb (nv a)).length∧nv a / B ^ k=nv b / B ^ k)
    (fun m s ⟨_,h⟩=>by
     simp only[Yc]
     refine Am (by omega) (Ac ?_)
     simp at h
     simp[Hs,h])
    (fun m k s ⟨h0,h⟩ ih=>by
     have g1:=D0 (lb (nv a)) k (by omega)
     have g2:=D0 (lb (nv b)) k (by omega)
     rw[By]at g1 g2
     have ga:((lb (nv a)).map dB).getD k D.nil=D.int ((nv a / B ^ k % B:Nat):Int):=by rw[Aj (List.getElem?_eq_getElem (show k<(lb (nv a)).length by omega)),← g1];rfl
     have gb:((lb (nv b)).map dB).getD k D.nil=D.int ((nv b / B ^ k % B:Nat):Int):=by rw[Aj (List.getElem?_eq_getElem (show k<(lb (nv b)).length by omega)),← g2];rfl
     simp only[Yc,show ((k+1:Nat):Int)-1=(k:Int) by omega,As,ga,gb]
     have ea:=Nat.div_add_mod (nv a / B ^ k) B
     have eb:=Nat.div_add_mod (nv b / B ^ k) B
     rw[Nat.div_div_eq_div_mul,← Nat.pow_succ]at ea eb
     rw[h]at ea
     generalize B*(nv b / B ^ (k+1))=q at ea eb
     refine Ae (Ae (Ae (Ae (Ae (Ad (fun h'=>Ac ?_) (fun h'=>Ae (Ae (Ae (Ae (Ad (fun h2=>Ac ?_) (fun h2=> ?_)))))))))))
     · have hlt:=X_ (show nv a / B ^ k<nv b / B ^ k by omega)
       simp only[Hs];rw[if_pos hlt]
     · have hlt:=X_ (show nv b / B ^ k<nv a / B ^ k by omega)
       simp only[Hs];rw[if_neg (by omega),if_neg (by omega)]
     · rw[Ap (by omega) (by omega)]
       exact ih () ⟨by omega,by omega⟩)
    (a.length+1) (lb (nv a)).length () (by omega) ⟨by omega,by
     rw[Nat.div_eq_of_lt (Ax.1 (Nat.le_refl _)),Nat.div_eq_of_lt (Ax.1 (by omega))]⟩
   rw[Ap (by omega) (by omega)]
   exact key
theorem FG(x y N:Nat)(hA:(lb x).length≤100000)(hb:(lb y).length≤(lb x).length)(hN:(lb x).length<N):Tw (Kx N N (dL (lb y)) ((lb x).map dB) 0 ((lb x).length:Int) 0) [dL (lb (x+y))]:=by
 have hx:x<B ^ (lb x).length:=Ax.1 (Nat.le_refl _)
 have hy:y<B ^ (lb x).length:=Ax.1 hb
 have key:=C4 (P:=Tryz.prog) (md:=md) (lb x).length (fun m k (s:List Av×Nat)=>Kx N m (dL (lb y)) ((s.1++(lb x).drop k).map dB) (s.2:Int) ((lb x).length:Int) (k:Int)) (fun _ _=>[dL (lb (x+y))])
  (fun k s=>s.1.length=k∧nv s.1=(x+y) % B ^ k∧s.2=(x % B ^ k+y % B ^ k) / B ^ k)
  (fun m s ⟨h1,h2,h3⟩=>by
   simp only[Yb,List.drop_length,List.append_nil,As]
   rw[Nat.mod_eq_of_lt hx,Nat.mod_eq_of_lt hy]at h3
   have hs:x+y=nv s.1+B ^ (lb x).length*s.2:=by rw[h2,h3];exact (Nat.mod_add_div _ _).symm
   have hc:s.2≤1:=by
     have:s.2<2:=by rw[h3,Nat.div_lt_iff_lt_mul (Bp _)];omega
     omega
   refine Am (by omega) (Ad (fun h0=>At (by simp only[List.length_cons,List.length_nil,Ar];omega) (Ac ?_)) (fun h0=>Ac ?_))
   · have e1:s.2=1:=by omega
     rw[hs,e1]
     have e2:nv (s.1++[1])=nv s.1+B ^ (lb x).length*1:=by rw[Kb,h1];rfl
     rw[← e2,AeJ (r:=s.1++[1]) (fun k hk=>by
       rw[e2]
       have:k=(lb x).length:=by simp at hk;omega
       rw[this];omega)]
     simp[dL,dB]
   · have e1:s.2=0:=by omega
     rw[e1,Nat.mul_zero,Nat.add_zero]at hs
     rw[hs,AeJ (r:=s.1) (fun k hk=>by rw[← hs];have:=TU (x:=x) (k:=k) (by omega);omega)];rfl)
  (fun m k s hk ⟨h1,h2,h3⟩ ih=>by
   have hd:=DO x y k
   have hc:=DM x y k
   have la:=Nat.mod_lt (x / B ^ k) Cd
   have lb':=Nat.mod_lt (y / B ^ k) Cd
   have lc:s.2≤1:=by
     rw[h3]
     have r1:=Nat.mod_lt x (Bp k)
     have r2:=Nat.mod_lt y (Bp k)
     have:(x % B ^ k+y % B ^ k) / B ^ k<2:=by rw[Nat.div_lt_iff_lt_mul (Bp k)];omega
     omega
   have hlen:(s.1++(lb x).drop k).length=(lb x).length:=by simp[h1];omega
   have gx:=D0 (lb x) k hk
   rw[By]at gx
   have Dn:((s.1++(lb x).drop k).map dB).getD k D.nil=D.int ((x / B ^ k % B:Nat):Int):=by rw[Aj (AdU h1 hk),← gx];rfl
   have hm:=Nat.mod_lt (x / B ^ k % B+y / B ^ k % B+s.2) Cd
   have Ea:((s.1++(lb x).drop k).map dB).set k (D.int (((x / B ^ k % B+y / B ^ k % B+s.2) % B:Nat):Int))=((s.1++[BitVec.ofNat 32 ((x / B ^ k % B+y / B ^ k % B+s.2) % B)])++(lb x).drop (k+1)).map dB:=by
     rw[Dy hm,map_set,AdV _ h1 hk]
   have go:=ih (s.1++[BitVec.ofNat 32 ((x / B ^ k % B+y / B ^ k % B+s.2) % B)],(x / B ^ k % B+y / B ^ k % B+s.2) / B) ⟨by simp[h1],Zy h1 h2 (by rw[ofNat_lt hm,hd,h3]),by rw[hc,h3]⟩
   simp only[Yb,As,Dn,hlen,An (show k<9223372036854775807 by omega)]
   refine Ae (Ad (fun hb'=> ?_) (fun hb'=> ?_))
   · have gy:=D0 (lb y) k (by omega)
     rw[By]at gy
     rw[Aj (List.getElem?_eq_getElem (show k<(lb y).length by omega)),Ds,gy]
     refine Ae (Ae (Ae (Ae (Aa (CF _ _ s.2 la lb' lc) (Ae (Ae ?_))))))
     simp only[Af,Ce,Ah,Ea]
     exact go
   · have gy:=ND (lb y) k (by omega)
     rw[By]at gy
     refine Ad (fun h0=>Am (by omega) (Ac ?_)) (fun h0=> ?_)
     · have e0:s.2=0:=by omega
       rw[e0]at h3
       have hyk:y<B ^ k:=Ax.1 (by omega)
       rw[Nat.mod_eq_of_lt hyk]at h3
       have hsum:x % B ^ k+y<B ^ k:=by
        rcases Nat.lt_or_ge (x % B ^ k+y) (B ^ k) with h | h
        · exact h
        · have:=Nat.div_pos h (Bp k);omega
       have e1:nv s.1=x % B ^ k+y:=by rw[h2,Nat.add_mod,Nat.mod_eq_of_lt hyk,Nat.mod_eq_of_lt hsum]
       have hs:nv (s.1++(lb x).drop k)=x+y:=by
        rw[Fw,h1,IZ,By,e1]
        have:=Nat.mod_add_div x (B ^ k)
        omega
       rw[← hs,AeJ (fun j hj=>by rw[hs];have:=TU (x:=x) (k:=j) (by omega);omega)];rfl
     · rw[gy]at Ea go lb'
       refine Ae (Ae (Aa (CF _ 0 s.2 la Cd lc) (Ae (Ae ?_))))
       simp only[Af,Ce,Ah,Ea]
       exact go)
  N 0 ([],0) (by omega) (by omega) ⟨rfl,by simp[Nat.mod_one],by simp[Nat.mod_one]⟩
 exact key
theorem Abh(l:List D):l.take (List.replicate l.length (D.int 0)).length++(List.replicate l.length (D.int 0)).drop l.length=l:=by simp
theorem AeQ(a b:List Av)(ha:a.length≤100000)(hb:b.length≤100000):Sp 325 [dL a,dL b] [dL (lb (nv a+nv b))]:=by
 refine Ag 100001 (AbF _ _ _) (Aa (C9 a (by omega)) (Aa (C9 b (by omega)) ?_))
 have la:(lb (nv a)).length≤a.length:=Ax.2 (Ck a)
 have lb_:(lb (nv b)).length≤b.length:=Ax.2 (Ck b)
 have c1:=Abh ((lb (nv a)).map dB)
 have c2:=Abh ((lb (nv b)).map dB)
 simp only[List.length_map]at c1 c2
 simp only[Af,Bu,List.length_map,Int.toNat_natCast,c1,c2]
 refine Ad (fun h=> ?_) (fun h=> ?_)
 · rw[Ap (by omega) (by omega)]
   refine Ae (Ae (At (by simp only[Ar];omega) ?_))
   rw[Nat.add_comm (nv a)]
   exact FG (nv b) (nv a) 100001 (by omega) (by omega) (by omega)
 · rw[Ap (by omega) (by omega)]
   refine Ae (Ae (At (by simp only[Ar];omega) ?_))
   exact FG (nv a) (nv b) 100001 (by omega) (by omega) (by omega)
theorem QG(a b:List Av)(ha:a.length≤100000)(hb:b.length≤100000):Sp 326 [dL a,dL b] [dL (lb (nv a-nv b)),.bool (decide (nv b≤nv a))]:=by
 refine Ag 100001 (AbJ _ _ _) (Aa (Qh a b (by omega) (by omega)) ?_)
 simp only[Af,Ah]
 refine Ad (fun h=>Ac ?_) (fun h=>Aa (Ej a (by omega)) (Aa (C9 b (by omega)) ?_))
 · have hlt:nv a<nv b:=by
    unfold Hs at h
    rcases Nat.lt_or_ge (nv a) (nv b) with h1 | h1
    · exact h1
    · rw[if_neg (by omega)]at h;split at h <;> omega
   rw[Nat.sub_eq_zero_of_le (by omega),Ct,decide_eq_false (by omega)];rfl
 have hge:nv b≤nv a:=by
   unfold Hs at h
   rcases Nat.lt_or_ge (nv a) (nv b) with h1 | h1
   · rw[if_pos h1]at h;omega
   · exact h1
 rw[decide_eq_true hge]
 have la:(lb (nv a)).length≤a.length:=Ax.2 (Ck a)
 have lb_:(lb (nv b)).length≤(lb (nv a)).length:=Ax.2 (by have:=Ax.1 (Nat.le_refl (lb (nv a)).length);omega)
 simp only[Af,Bu,List.length_map]
 generalize nv a=x at *
 generalize nv b=y at *
 have hx:x<B ^ (lb x).length:=Ax.1 (Nat.le_refl _)
 have fin : ∀ l:List Av,l.length≤100000→nv l=x-y→Tw (.call 321 [] [D.sl (l.map dB)] fun yy5=> .ret [yy5.getD 0 D.nil,D.bool true]) [dL (lb (x-y)),.bool true]:=fun l hl he=>Aa (C9 l (by omega)) (Ac (by rw[he];rfl))
 have key:=C4 (P:=Tryz.prog) (md:=md) (lb x).length (fun m k (s:List Av×Nat)=>Qj 100001 m (dL (lb y)) ((s.1++(lb x).drop k).map dB) (s.2:Int) ((lb x).length:Int) (k:Int)) (fun _ _=>[dL (lb (x-y)),.bool true])
   (fun k s=>s.1.length=k∧nv s.1=(x-y) % B ^ k∧s.2=((x-y) % B ^ k+y % B ^ k) / B ^ k)
   (fun m s ⟨h1,h2,h3⟩=>by
    simp only[Ye,List.drop_length,List.append_nil,As]
    refine Am (by omega) (fin s.1 (by omega) ?_)
    rw[h2,Nat.mod_eq_of_lt (by omega)])
   (fun m k s hk ⟨h1,h2,h3⟩ ih=>by
    obtain ⟨zi,c,c',e1,e2,e3,e4,e5⟩:=ZK hge k
    have la:=Nat.mod_lt (x / B ^ k) Cd
    have lb':=Nat.mod_lt (y / B ^ k) Cd
    have lz:=Nat.mod_lt ((x-y) / B ^ k) Cd
    rw[← e1]at lz
    rw[← e2]at h3
    have lc:c≤1:=by
      rw[e2]
      have r1:=Nat.mod_lt (x-y) (Bp k)
      have r2:=Nat.mod_lt y (Bp k)
      have:((x-y) % B ^ k+y % B ^ k) / B ^ k<2:=by rw[Nat.div_lt_iff_lt_mul (Bp k)];omega
      omega
    have hlen:(s.1++(lb x).drop k).length=(lb x).length:=by simp[h1];omega
    have gx:=D0 (lb x) k hk
    rw[By]at gx
    have Dn:((s.1++(lb x).drop k).map dB).getD k D.nil=D.int ((x / B ^ k % B:Nat):Int):=by rw[Aj (AdU h1 hk),← gx];rfl
    have Ea:((s.1++(lb x).drop k).map dB).set k (D.int (zi:Int))=((s.1++[BitVec.ofNat 32 zi])++(lb x).drop (k+1)).map dB:=by
      rw[Dy lz,map_set,AdV _ h1 hk]
    have go:=ih (s.1++[BitVec.ofNat 32 zi],c') ⟨by simp[h1],Zy h1 h2 (by rw[ofNat_lt lz,e1]),e3⟩
    simp only[Ye,As,Dn,hlen,An (show k<9223372036854775807 by omega),h3]
    refine Ae (Ad (fun hb'=> ?_) (fun hb'=> ?_))
    · have gy:=D0 (lb y) k (by omega)
      rw[By]at gy
      rw[Aj (List.getElem?_eq_getElem (show k<(lb y).length by omega)),Ds,gy]
      refine Ae (Ae (Ae (Ae (Aa (CG _ _ c la lb' lc zi c' lz e4 e5) (Ae (Ae ?_))))))
      simp only[Af,Ce,Ah,Ea]
      exact go
    · have gy:=ND (lb y) k (by omega)
      rw[By]at gy
      refine Ad (fun h0=> ?_) (fun h0=> ?_)
      · have e0:c=0:=by omega
        rw[e0]at e2
        have hyk:y<B ^ k:=Ax.1 (by omega)
        rw[Nat.mod_eq_of_lt hyk]at e2
        have hsum:(x-y) % B ^ k+y<B ^ k:=by
         rcases Nat.lt_or_ge ((x-y) % B ^ k+y) (B ^ k) with h | h
         · exact h
         · have:=Nat.div_pos h (Bp k);omega
        have q1:=Nat.mod_add_div (x-y) (B ^ k)
        have q2:x=((x-y) % B ^ k+y)+B ^ k*((x-y) / B ^ k):=by omega
        have q3:x / B ^ k=(x-y) / B ^ k:=by
         have:x / B ^ k=(((x-y) % B ^ k+y)+B ^ k*((x-y) / B ^ k)) / B ^ k:=by rw[← q2]
         rw[this,Nat.add_mul_div_left _ _ (Bp k),Nat.div_eq_of_lt hsum,Nat.zero_add]
        refine fin _ (by rw[hlen];omega) ?_
        rw[Fw,h1,IZ,By,h2,q3];exact q1
      · rw[gy]at e5
        refine Ae (Ae (Aa (CG _ 0 c la Cd lc zi c' lz e4 e5) (Ae (Ae ?_))))
        simp only[Af,Ce,Ah,Ea]
        exact go)
   100001 0 ([],0) (by omega) (by omega) ⟨rfl,by simp[Nat.mod_one],by simp[Nat.mod_one]⟩
 exact key
theorem AfR{x y o c:Nat}(hx:x<B)(hy:y<B)(ho:o<B)(hc:c<B):x*y+o+c<18446744073709551616∧x*y<18446744073709551616∧x*y+o<18446744073709551616:=by
 have h1:x*y≤(B-1)*(B-1):=Nat.mul_le_mul (by omega) (by omega)
 rw[Be]at *
 omega
theorem AeR(a b:List Av)(ha:a.length≤100000)(hb:b.length≤100000):Sp 303 [dL a,dL b] [dL (lb (nv a*nv b))]:=by
 refine Ag 100001 (AbI _ _ _) (Aa (C9 a (by omega)) (Aa (C9 b (by omega)) ?_))
 have la:(lb (nv a)).length≤a.length:=Ax.2 (Ck a)
 have lb_:(lb (nv b)).length≤b.length:=Ax.2 (Ck b)
 simp only[Af,Bu,List.length_map,Bz]
 generalize nv a=x at *
 generalize nv b=y at *
 refine Ad (fun h=>Ac ?_) (fun h=>Ad (fun h'=>Ac ?_) (fun h'=> ?_))
 · have:x=0:=G9.1 (by omega)
   rw[this,Nat.zero_mul,Ct];rfl
 · have:y=0:=G9.1 (by omega)
   rw[this,Nat.mul_zero,Ct];rfl
 have hm:(lb y).length=(lb y).length:=rfl
 generalize hmm:(lb y).length=mm at *
 rw[Ap (by omega) (by omega)]
 refine Ae (Ae (At (by simp only[Ar];omega) ?_))
 have hyB:y<B ^ mm:=Ax.1 (by omega)
 have hxB:x<B ^ (lb x).length:=Ax.1 (Nat.le_refl _)
 rw[show ((lb x).length:Int)+(mm:Int)=(((lb x).length+mm:Nat):Int) by omega,Int.toNat_natCast]
 have key:=C4 (P:=Tryz.prog) (md:=md) (lb x).length (fun m i (lo:List Av)=>V4 100001 m (dL (lb y)) ((lo++List.replicate ((lb x).length-i) 0).map dB) (dL (lb x)) ((lb x).length:Int) (i:Int)) (fun _ _=>[dL (lb (x*y))])
   (fun i lo=>lo.length=i+mm∧nv lo=(x % B ^ i)*y)
   (fun m lo ⟨h1,h2⟩=>by
    simp only[Yd,Nat.sub_self,List.replicate_zero,List.append_nil,As]
    refine Am (by omega) (Aa (C9 lo (by omega)) (Ac ?_))
    rw[h2,Nat.mod_eq_of_lt hxB];rfl)
   (fun m i lo hi ⟨h1,h2⟩ ih=>by
    have gx:=D0 (lb x) i hi
    rw[By]at gx
    have xl:x / B ^ i % B<B:=Nat.mod_lt _ Cd
    have gX:((lb x).map dB).getD i D.nil=D.int ((x / B ^ i % B:Nat):Int):=by rw[Aj (List.getElem?_eq_getElem hi),← gx];rfl
    simp only[Yd,As,gX,hmm]
    refine Ae (Ae (Ae ?_))
    have hxs:x % B ^ (i+1)=x % B ^ i+B ^ i*(x / B ^ i % B):=Nat.mod_pow_succ
    generalize x / B ^ i % B=xi at *
    have key:=C4 (P:=Tryz.prog) (md:=md) mm (fun m' j (s:List Av×Nat)=>Tf 100001 m m' (dL (lb y)) ((s.1++List.replicate ((lb x).length-i) 0).map dB) (i:Int) (xi:Int) (s.2:Int) (dL (lb x)) ((lb x).length:Int) (i:Int) (dL (lb y)) (mm:Int) (j:Int)) (fun _ _=>[dL (lb (x*y))])
     (fun j s=>s.1.length=i+mm∧s.2<B∧nv s.1+B ^ (i+j)*s.2=nv lo+B ^ i*(xi*(y % B ^ j)))
     (fun m' s ⟨g1,g2,g3⟩=>by
      have ew:IntKind.wrap .i64 ((i:Int)+(mm:Int))=((i+mm:Nat):Int):=by rw[Ap (by omega) (by omega)];omega
      have hB:=Be
      have ec:IntKind.wrap .u32 (s.2:Int)=(s.2:Int):=Fp (by omega) (by omega)
      have hlen:(s.1++List.replicate ((lb x).length-i) (0:Av)).length=(lb x).length+mm:=by simp[g1];omega
      simp only[W5,As,hmm,ew,ec,hlen,An (show i<9223372036854775807 by omega)]
      refine Am (by omega) (Ae (Ae ?_))
      have Ea:((s.1++List.replicate ((lb x).length-i) 0).map dB).set (i+mm) (D.int (s.2:Int))=((s.1++[BitVec.ofNat 32 s.2])++List.replicate ((lb x).length-(i+1)) 0).map dB:=by
       rw[Dy g2,map_set,List.set_append_right _ _ (by omega),g1,Nat.sub_self,show (lb x).length-i=((lb x).length-(i+1))+1 by omega,List.replicate_succ,List.set_cons_zero];simp
      rw[Ea]
      refine ih _ ⟨by simp[g1];omega,?_⟩
      rw[Kb,g1,ofNat_lt g2,g3,h2,Nat.mod_eq_of_lt hyB,hxs,Nat.add_mul,Nat.mul_assoc])
     (fun m' j s hj ⟨g1,g2,g3⟩ ih'=>by
      have gy:=D0 (lb y) j (by omega)
      rw[By]at gy
      have yl:y / B ^ j % B<B:=Nat.mod_lt _ Cd
      have gY:((lb y).map dB).getD j D.nil=D.int ((y / B ^ j % B:Nat):Int):=by rw[Aj (List.getElem?_eq_getElem (by omega)),← gy];rfl
      have hys:y % B ^ (j+1)=y % B ^ j+B ^ j*(y / B ^ j % B):=Nat.mod_pow_succ
      have hij:i+j<s.1.length:=by omega
      have ew:IntKind.wrap .i64 ((i:Int)+(j:Int))=((i+j:Nat):Int):=by rw[Ap (by omega) (by omega)];omega
      have hlen:(s.1++List.replicate ((lb x).length-i) (0:Av)).length=(lb x).length+mm:=by simp[g1];omega
      have gO:((s.1++List.replicate ((lb x).length-i) 0).map dB).getD (i+j) D.nil=D.int ((s.1[i+j]).toNat:Int):=by rw[Aj (x:=s.1[i+j]) (by rw[List.getElem?_append_left hij,List.getElem?_eq_getElem hij])];rfl
      simp only[W5,As,ew,gO,gY,hlen,An (show j<9223372036854775807 by omega)]
      generalize y / B ^ j % B=yj at *
      have ol:=Fa (s.1[i+j])
      have hns:=Akc s.1 (i+j) hij (BitVec.ofNat 32 ((xi*yj+(s.1[i+j]).toNat+s.2) % B))
      have hmd:=Nat.mod_lt (xi*yj+(s.1[i+j]).toNat+s.2) Cd
      rw[ofNat_lt hmd]at hns
      generalize hoo:(s.1[i+j]).toNat=o at *
      have hbd:=AfR xl yl ol g2
      have hB:=Be
      have t0:IntKind.wrap .u64 (xi:Int)=(xi:Int):=A_ (by omega) (by omega)
      have t0':IntKind.wrap .u64 (yj:Int)=(yj:Int):=A_ (by omega) (by omega)
      have t0'':IntKind.wrap .u64 (o:Int)=(o:Int):=A_ (by omega) (by omega)
      have t1:IntKind.wrap .u64 ((xi:Int)*(yj:Int))=((xi*yj:Nat):Int):=by rw[← Int.natCast_mul];exact A_ (by omega) (by omega)
      have t2:IntKind.wrap .u64 (((xi*yj:Nat):Int)+(o:Int))=((xi*yj+o:Nat):Int):=by rw[A_ (by omega) (by omega)];omega
      have t3:IntKind.wrap .u64 (((xi*yj+o:Nat):Int)+(s.2:Int))=((xi*yj+o+s.2:Nat):Int):=by rw[A_ (by omega) (by omega)];omega
      simp only[t0,t0',t0'',t1,t2,t3,Ze]
      have t4:IntKind.wrap .u32 ((xi*yj+o+s.2:Nat):Int)=(((xi*yj+o+s.2) % B:Nat):Int):=by rw[IntKind.wrap_u32,Be];omega
      have Ea:((s.1++List.replicate ((lb x).length-i) 0).map dB).set (i+j) (D.int (((xi*yj+o+s.2) % B:Nat):Int))=((s.1.set (i+j) (BitVec.ofNat 32 ((xi*yj+o+s.2) % B)))++List.replicate ((lb x).length-i) 0).map dB:=by
       rw[Dy hmd,map_set,List.set_append_left _ _ hij]
      rw[t4,Ea]
      refine Ae (Ae (Ae (Ae (Ae (Ae (Ae (Ba (by decide) ?_)))))))
      have hcl:(xi*yj+o+s.2) / 4294967296<B:=by rw[Be];omega
      refine ih' (s.1.set (i+j) (BitVec.ofNat 32 ((xi*yj+o+s.2) % B)),(xi*yj+o+s.2) / 4294967296) ⟨by simp[g1],hcl,?_⟩
      show nv (s.1.set (i+j) _)+B ^ (i+(j+1))*((xi*yj+o+s.2) / B)=_
      have q1:B ^ (i+(j+1))*((xi*yj+o+s.2) / B)=B ^ (i+j)*(B*((xi*yj+o+s.2) / B)):=by rw[← Nat.add_assoc,Nat.pow_succ,Nat.mul_assoc]
      have q2:B ^ (i+j)*((xi*yj+o+s.2) % B)+B ^ (i+j)*(B*((xi*yj+o+s.2) / B))=B ^ (i+j)*(xi*yj+o+s.2):=by rw[← Nat.mul_add,Nat.mod_add_div]
      have q3:B ^ (i+j)*(xi*yj+o+s.2)=B ^ (i+j)*(xi*yj)+B ^ (i+j)*o+B ^ (i+j)*s.2:=by rw[Nat.mul_add,Nat.mul_add]
      have q4:B ^ i*(xi*(y % B ^ (j+1)))=B ^ i*(xi*(y % B ^ j))+B ^ (i+j)*(xi*yj):=by
       rw[hys,Nat.mul_add,Nat.mul_add,Nat.pow_add,Nat.mul_left_comm xi,Nat.mul_assoc]
      rw[q1,q4]
      omega)
     100001 0 (lo,0) (by omega) (by omega) ⟨h1,Cd,by simp[Nat.mod_one]⟩
    exact key)
   100001 0 (List.replicate mm 0) (by omega) (by omega) ⟨by simp,by rw[BJ];simp[Nat.mod_one]⟩
 have e0:(List.replicate mm (0:Av)++List.replicate ((lb x).length-0) 0).map dB=List.replicate ((lb x).length+mm) (D.int 0):=by
   rw[List.replicate_append_replicate,List.map_replicate,show mm+((lb x).length-0)=(lb x).length+mm by omega];rfl
 rw[e0]at key
 exact key
theorem BN{r d:Nat}(hr:r<4294967296)(hd:d<4294967296):Bs .or .u64 ((r*4294967296:Nat):Int) (d:Int)=((r*4294967296+d:Nat):Int):=by
 have h:=VH hd hr
 have hc:Bs .or .u64 ((r*4294967296:Nat):Int) (d:Int)=Bs .or .u64 (d:Int) ((r*4294967296:Nat):Int):=by unfold Bs;simp only;rw[BitVec.or_comm]
 rw[hc,h,Nat.add_comm]
theorem UU(l:List Av)(y:Nat)(hy:0<y)(hyB:y<B)(hl:l.length≤1000000) : ∃ q:List Av,q.length=l.length∧nv q=nv l / y∧Sp 331 [.sl (l.map dB),.int (y:Int)] [.int ((nv l % y:Nat):Int),.sl (q.map dB)]:=by
 have hq : ∃ q:List Av,q.length=l.length∧nv q=nv l / y:=by
  have h1:nv l / y<B ^ l.length:=Nat.lt_of_le_of_lt (Nat.div_le_self _ _) (Ck l)
  have h2:=Ax.2 h1
  refine ⟨lb (nv l / y)++List.replicate (l.length-(lb (nv l / y)).length) 0,by simp;omega,?_⟩
  rw[Fw,BJ,By];simp
 obtain ⟨q0,hq1,hq2⟩:=hq
 refine ⟨q0,hq1,hq2,Ag (l.length+1) (NB _ _ _) ?_⟩
 simp only[Ez,Ah,List.length_map]
 have uniq : ∀ q:List Av,q.length=l.length→nv q=nv l / y→q=q0:=by
  intro q h1 h2
  apply List.ext_getElem (by omega)
  intro i g1 g2
  apply BitVec.eq_of_toNat_eq
  rw[D0 q i g1,D0 q0 i g2,h2,hq2]
 have key:=G0 (P:=Tryz.prog) (md:=md) (fun m k (s:List Av×Nat)=>M6 (l.length+1) m ((l.take k++s.1).map dB) (y:Int) (s.2:Int) ((k:Int)-1)) (fun _ _=>[.int ((nv l % y:Nat):Int),.sl (q0.map dB)])
  (fun k s=>k≤l.length∧s.1.length=l.length-k∧nv s.1=nv l / B ^ k / y∧s.2=nv l / B ^ k % y)
  (fun m s ⟨h0,h1,h2,h3⟩=>by
   simp only[R2,List.take_zero,List.nil_append]
   refine Am (by omega) (Ac ?_)
   simp at h2 h3
   rw[uniq s.1 (by omega) h2,h3]
   have:=Nat.mod_lt (nv l) hy
   rw[Be]at hyB
   rw[Fp (by omega) (by omega)])
  (fun m k s ⟨h0,h1,h2,h3⟩ ih=>by
   have hk:k<l.length:=by omega
   have hlen:((l.take (k+1)++s.1).map dB).length=l.length:=by simp;omega
   have gd:=D0 l k hk
   have Dn:((l.take (k+1)++s.1).map dB).getD k D.nil=D.int ((l[k]).toNat:Int):=by rw[Aj (x:=l[k]) (by rw[List.getElem?_append_left (by simp;omega),List.getElem?_take,if_pos (by omega),List.getElem?_eq_getElem hk])];rfl
   have hs2:s.2<y:=by rw[h3];exact Nat.mod_lt _ hy
   have dl:=Fa l[k]
   have hQ:nv l / B ^ k=B*(nv l / B ^ (k+1))+(l[k]).toNat:=by
    rw[gd,Nat.pow_succ,← Nat.div_div_eq_div_mul];exact (Nat.div_add_mod _ _).symm
   generalize hdd:(l[k]).toNat=d at *
   have e1:=Nat.div_add_mod (nv l / B ^ (k+1)) y
   rw[← h2,← h3]at e1
   have hQ2:nv l / B ^ k=y*(B*nv s.1)+(s.2*B+d):=by
    rw[hQ,← e1,Nat.mul_add,Nat.mul_left_comm,Nat.mul_comm B s.2];omega
   have hd1:nv l / B ^ k / y=B*nv s.1+(s.2*B+d) / y:=by rw[hQ2,Nat.mul_add_div hy]
   have hd2:nv l / B ^ k % y=(s.2*B+d) % y:=by rw[hQ2,Nat.mul_add_mod]
   have hlt:(s.2*B+d) / y<B:=by
    rw[Nat.div_lt_iff_lt_mul hy]
    have:(s.2+1)*B≤y*B:=Nat.mul_le_mul_right _ hs2
    rw[Nat.add_mul,Nat.one_mul]at this
    rw[Nat.mul_comm B y];omega
   rw[Be]at hyB dl hlt
   have b64:(2:Int) ^ (min (Int.toNat 32) (IntKind.bits .u64))=4294967296:=by decide
   have t1:IntKind.wrap .u64 ((s.2:Int)*4294967296)=((s.2*4294967296:Nat):Int):=by rw[A_ (by omega) (by omega)];omega
   have t2:IntKind.wrap .u64 (d:Int)=(d:Int):=A_ (by omega) (by omega)
   have t3:IntKind.wrap .u64 (y:Int)=(y:Int):=A_ (by omega) (by omega)
   have t4:IntKind.wrap .u64 (Int.tdiv ((s.2*4294967296+d:Nat):Int) (y:Int))=(((s.2*4294967296+d) / y:Nat):Int):=by
    rw[show Int.tdiv ((s.2*4294967296+d:Nat):Int) (y:Int)=(((s.2*4294967296+d) / y:Nat):Int) from rfl]
    generalize (s.2*4294967296+d) / y=qq at hlt ⊢
    exact A_ (by omega) (by omega)
   have t5:Int.tmod ((s.2*4294967296+d:Nat):Int) (y:Int)=(((s.2*4294967296+d) % y:Nat):Int):=rfl
   have t6:IntKind.wrap .u32 (((s.2*4294967296+d) / y:Nat):Int)=(((s.2*4294967296+d) / y:Nat):Int):=by
    generalize (s.2*4294967296+d) / y=qq at hlt ⊢
    exact Fp (by omega) (by omega)
   simp only[R2,show ((k+1:Nat):Int)-1=(k:Int) by omega,Int.toNat_natCast,Dn,hlen,Ah,b64,t1,t2,t3,BN (show s.2<4294967296 by omega) dl,t4,t5,t6]
   have Ea:((l.take (k+1)++s.1).map dB).set k (D.int (((s.2*4294967296+d) / y:Nat):Int))=(l.take k++(BitVec.ofNat 32 ((s.2*4294967296+d) / y)::s.1)).map dB:=by
    rw[Dy hlt,map_set,List.take_succ_eq_append_getElem hk,List.append_assoc,List.set_append_right _ _ (by rw[List.length_take];omega),List.length_take,Nat.min_eq_left (by omega),Nat.sub_self];rfl
   rw[Ea,Ap (by omega) (by omega)]
   have hne:(!((y:Int)==0))=true:=by simp;omega
   refine Ae (Ba (by decide) (Ae (Ae (Ba hne (Ae (Ae (Ba hne ?_)))))))
   refine ih (BitVec.ofNat 32 ((s.2*4294967296+d) / y)::s.1,(s.2*4294967296+d) % y) ⟨by omega,by simp;omega,?_,hd2.symm⟩
   rw[nv,ofNat_lt hlt]
   show (s.2*B+d) / y+B*nv s.1=_
   rw[hd1,Nat.add_comm])
  (l.length+1) l.length ([],0) (by omega) ⟨by omega,by simp,by rw[Nat.div_eq_of_lt (Ck l)];simp,by rw[Nat.div_eq_of_lt (Ck l)];simp⟩
 rw[List.take_length,List.append_nil]at key
 rw[Ap (by omega) (by omega)]
 exact key
def AaO(x y:Nat):Prop:=1<(lb y).length→y≤x→Sp 332 [dL (lb x),dL (lb y)] [dL (lb (x / y)),dL (lb (x % y))]
theorem Ou(a b:List Av)(ha:a.length≤100000)(hb:b.length≤100000)(hL:AaO (nv a) (nv b)):Sp 323 [dL a,dL b] [dL (lb (nv a / nv b)),dL (lb (if nv b=0 then 0 else nv a % nv b)),.bool (decide (nv b≠0))]:=by
 refine Ag 0 (QD _ _ _) (Aa (C9 a (by omega)) (Aa (C9 b (by omega)) ?_))
 have la:(lb (nv a)).length≤a.length:=Ax.2 (Ck a)
 have lb_:(lb (nv b)).length≤b.length:=Ax.2 (Ck b)
 simp only[Af,Bu,List.length_map,Bz]
 refine Ad (fun h=>Ac ?_) (fun h=> ?_)
 · have h0:nv b=0:=G9.1 (by omega)
   rw[h0,Nat.div_zero,if_pos rfl,Ct];rfl
 have h0:nv b≠0:=fun hh=>h (by rw[hh,Ct];rfl)
 rw[if_neg h0,decide_eq_true h0]
 have cm:=Qh (lb (nv a)) (lb (nv b)) (by omega) (by omega)
 rw[By,By]at cm
 refine Aa cm ?_
 simp only[Af,Ah]
 refine Ad (fun h1=> ?_) (fun h1=> ?_)
 · have hlt:nv a<nv b:=by
    unfold Hs at h1
    rcases Nat.lt_or_ge (nv a) (nv b) with h2 | h2
    · exact h2
    · rw[if_neg (by omega)]at h1;split at h1 <;> omega
   have nm:=Ej (lb (nv a)) (by omega)
   rw[By]at nm
   refine Aa nm (Ac ?_)
   rw[Nat.div_eq_of_lt hlt,Nat.mod_eq_of_lt hlt,Ct];rfl
 have hge:nv b≤nv a:=by
   unfold Hs at h1
   rcases Nat.lt_or_ge (nv a) (nv b) with h2 | h2
   · rw[if_pos h2]at h1;omega
   · exact h2
 refine Ad (fun h2=> ?_) (fun h2=> ?_)
 · obtain ⟨d,hd⟩ : ∃ d,lb (nv b) = [d]:=by
    match hh:lb (nv b) with
    | [d]=>exact ⟨d,rfl⟩
    | []=>rw[hh]at h2;simp at h2
    | _::_::_=>rw[hh]at h2;simp at h2;omega
   have hbv:nv b=d.toNat:=by rw[← By (nv b),hd];simp[nv]
   have nm:=Ej (lb (nv a)) (by omega)
   rw[By]at nm
   refine Aa nm ?_
   simp only[hd,List.map_cons,List.map_nil,List.length_cons,List.length_nil,Int.toNat_zero,Af,Bu,Ds]
   rw[← hbv]
   have hdB:nv b<B:=by rw[hbv];exact Fa d
   obtain ⟨q,q1,q2,q3⟩:=UU (lb (nv a)) (nv b) (by omega) hdB (by omega)
   rw[By]at q2 q3
   refine Ae (Ae (Aa q3 ?_))
   have hr:nv a % nv b<B:=Nat.lt_of_lt_of_le (Nat.mod_lt _ (by omega)) (by omega)
   simp only[Af,Ce,Ez,Ah]
   refine Aa (C9 q (by omega)) ?_
   rw[Dy hr]
   refine Aa (Ej [BitVec.ofNat 32 (nv a % nv b)] (by simp)) (Ac ?_)
   have e:nv [BitVec.ofNat 32 (nv a % nv b)]=nv a % nv b:=by simp only[nv];rw[ofNat_lt hr];omega
   rw[e,q2];rfl
 · exact Aa (hL (by omega) hge) (Ac rfl)
theorem Ko(z:Int):(Mm z = -1∧z<0)∨(Mm z=0∧z=0)∨(Mm z=1∧0<z):=by
 unfold Mm
 by_cases h1:z<0
 · exact .inl ⟨if_pos h1,h1⟩
 · by_cases h2:z=0
   · exact .inr (.inl ⟨by rw[if_neg h1,if_pos h2],h2⟩)
   · exact .inr (.inr ⟨by rw[if_neg h1,if_neg h2],by omega⟩)
theorem Pf(a:Wh)(h:a.mag.length≤1000000):Sp 301 [dW a] [.int (Mm (zv a))]:=by
 refine Ag 0 (TH _ _) ?_
 have cm:=Qh a.mag [] h (by simp)
 simp only[L8,Lm,Al]
 refine Aa cm ?_
 simp only[Af,Ah,Bz,AbP]
 unfold Mm zv Hs
 refine Ad (fun h0=>Ac ?_) (fun h0=>Df (fun h1=>Ac ?_) (fun h1=>Ac ?_))
 · have:nv a.mag=0:=by
    rw[if_neg (by omega)]at h0
    split at h0
    · assumption
    · omega
   rw[this];cases a.neg <;> simp
 · have:nv a.mag≠0:=fun hh=>h0 (by rw[hh];simp)
   rw[if_pos (by rw[if_pos h1];omega)]
 · have:nv a.mag≠0:=fun hh=>h0 (by rw[hh];simp)
   rw[if_neg (by rw[if_neg (by simp[h1])];omega),if_neg (by rw[if_neg (by simp[h1])];omega)]
theorem HY(a b:Wh)(ha:a.mag.length≤1000000)(hb:b.mag.length≤1000000):Sp 253 [dW a,dW b] [.int (Ee (zv a) (zv b))]:=by
 refine Ag 0 (XO _ _ _) (Aa (Pf a ha) (Aa (Pf b hb) ?_))
 simp only[Af,Ah,Lm]
 have za:=Rp a
 have zb:=Rp b
 refine Ad (fun h=>Ac ?_) (fun h=>Ad (fun h'=>Ac ?_) (fun h'=>Ad (fun h2=>Aa (Qh b.mag a.mag hb ha) (Ac ?_)) (fun h2=>Aa (Qh a.mag b.mag ha hb) (Ac ?_))))
 · have:zv a<zv b:=by rcases Ko (zv a) with h1 | h1 | h1 <;> rcases Ko (zv b) with h2 | h2 | h2 <;> omega
   rw[Ee,if_pos this]
 · have:zv b<zv a:=by rcases Ko (zv a) with h1 | h1 | h1 <;> rcases Ko (zv b) with h2 | h2 | h2 <;> omega
   rw[Ee,if_neg (by omega),if_neg (by omega)]
 · have h3:zv a<0∧zv b<0:=by rcases Ko (zv a) with h1 | h1 | h1 <;> rcases Ko (zv b) with h2 | h2 | h2 <;> omega
   simp only[Af,Ah]
   have:Hs (nv b.mag) (nv a.mag)=Ee (zv a) (zv b):=by
    unfold Hs Ee
    by_cases g1:nv b.mag<nv a.mag
    · rw[if_pos g1,if_pos (show zv a<zv b by omega)]
    · rw[if_neg g1,if_neg (show ¬ zv a<zv b by omega)]
      by_cases g2:nv b.mag=nv a.mag
      · rw[if_pos g2,if_pos (show zv a=zv b by omega)]
      · rw[if_neg g2,if_neg (show ¬ zv a=zv b by omega)]
   rw[this]
 · have h3:0≤zv a∧0≤zv b:=by rcases Ko (zv a) with h1 | h1 | h1 <;> rcases Ko (zv b) with h2 | h2 | h2 <;> omega
   simp only[Af,Ah]
   have:Hs (nv a.mag) (nv b.mag)=Ee (zv a) (zv b):=by
    unfold Hs Ee
    by_cases g1:nv a.mag<nv b.mag
    · rw[if_pos g1,if_pos (show zv a<zv b by omega)]
    · rw[if_neg g1,if_neg (show ¬ zv a<zv b by omega)]
      by_cases g2:nv a.mag=nv b.mag
      · rw[if_pos g2,if_pos (show zv a=zv b by omega)]
      · rw[if_neg g2,if_neg (show ¬ zv a=zv b by omega)]
   rw[this]
theorem Xw(a b:Wh)(ha:a.mag.length≤100000)(hb:b.mag.length≤100000):Sp 313 [dW a,dW b] [dW (wz (zv a+zv b))]:=by
 refine Ag 0 (XN _ _ _) ?_
 simp only[L8,Lm,Al,Wr]
 refine Ad (fun h=>Aa (AeQ a.mag b.mag ha hb) (Aa (Er a.neg _) (Ac ?_))) (fun h=>Aa (QG a.mag b.mag ha hb) ?_)
 · have:(if a.neg=true then -((nv a.mag+nv b.mag:Nat):Int) else ((nv a.mag+nv b.mag:Nat):Int))=zv a+zv b:=by
    unfold zv;rw[← h];cases a.neg <;> simp <;> omega
   rw[Af,this]
 simp only[Af,Ce,Al]
 refine Ad (fun h1=>Aa (Er a.neg _) (Ac ?_)) (fun h1=>Aa (QG b.mag a.mag hb ha) (Aa (Er b.neg _) (Ac ?_)))
 · have:(if a.neg=true then -((nv a.mag-nv b.mag:Nat):Int) else ((nv a.mag-nv b.mag:Nat):Int))=zv a+zv b:=by
    unfold zv;cases ea:a.neg <;> cases eb:b.neg <;> simp[ea,eb]at h ⊢ <;> omega
   rw[Af,this]
 · have:(if b.neg=true then -((nv b.mag-nv a.mag:Nat):Int) else ((nv b.mag-nv a.mag:Nat):Int))=zv a+zv b:=by
    unfold zv;cases ea:a.neg <;> cases eb:b.neg <;> simp[ea,eb]at h ⊢ <;> omega
   rw[Af,this]
theorem Aj5(b:Wh):zv ⟨!b.neg,b.mag⟩ = -zv b:=by unfold zv;cases b.neg <;> simp
theorem AcJ(a b:Wh)(ha:a.mag.length≤100000)(hb:b.mag.length≤100000):Sp 324 [dW a,dW b] [dW (wz (zv a-zv b))]:=by
 refine Ag 0 (XS _ _ _) ?_
 simp only[L8,Lm,Al,Akz]
 refine Aa (Xw a ⟨!b.neg,b.mag⟩ ha hb) (Ac ?_)
 rw[Aj5,← Int.sub_eq_add_neg];rfl
theorem Akv(a b:Wh):(if (!(a.neg == b.neg))=true then -((nv a.mag*nv b.mag:Nat):Int) else ((nv a.mag*nv b.mag:Nat):Int))=zv a*zv b:=by
 unfold zv;cases a.neg <;> cases b.neg <;> simp[Int.neg_mul,Int.mul_neg,Int.natCast_mul]
theorem Ef(a b:Wh)(ha:a.mag.length≤100000)(hb:b.mag.length≤100000):Sp 254 [dW a,dW b] [dW (wz (zv a*zv b))]:=by
 refine Ag 0 (XP _ _ _) ?_
 simp only[L8,Lm,Al]
 refine Aa (AeR a.mag b.mag ha hb) (Aa (Er (!(a.neg == b.neg)) _) (Ac ?_))
 rw[Akv];rfl
def Nr(x y:Int):Int×Int :=
 if (x<0)=(y<0) then (((x.natAbs / y.natAbs:Nat):Int),if x<0 then -((x.natAbs % y.natAbs:Nat):Int) else ((x.natAbs % y.natAbs:Nat):Int))
 else if x.natAbs % y.natAbs=0 then (-((x.natAbs / y.natAbs:Nat):Int),0)
 else (-((x.natAbs / y.natAbs:Nat):Int)-1,(if x<0 then -((x.natAbs % y.natAbs:Nat):Int) else ((x.natAbs % y.natAbs:Nat):Int))+y)
def dmD(x y:Int):List D:=if y=0 then [dW (wz 0),dW (wz 0),.bool false] else [dW (wz (Nr x y).1),dW (wz (Nr x y).2),.bool true]
theorem ID{w:Wh}(h:nv w.mag≠0):(zv w<0)↔w.neg=true:=by unfold zv;cases w.neg <;> simp <;> omega
theorem AG{w:Wh} : zv w=0↔nv w.mag=0:=by unfold zv;cases w.neg <;> simp
theorem AiK{a b:Wh}(hb:nv b.mag≠0)(hr:nv a.mag % nv b.mag≠0)(hs:a.neg≠b.neg):Nr (zv a) (zv b)=((if (!(a.neg == b.neg))=true then -((nv a.mag / nv b.mag:Nat):Int) else ((nv a.mag / nv b.mag:Nat):Int))-1,(if a.neg=true then -((nv a.mag % nv b.mag:Nat):Int) else ((nv a.mag % nv b.mag:Nat):Int))+zv b):=by
 have ha:nv a.mag≠0:=fun h=>hr (by rw[h];simp)
 have h1:=ID ha
 have h2:=ID hb
 unfold Nr
 rw[Rp,Rp,if_neg (by rw[eq_iff_iff,h1,h2];cases ea:a.neg <;> cases eb:b.neg <;> simp[ea,eb]at hs ⊢),if_neg hr]
 have e1:(!(a.neg == b.neg))=true:=by cases ea:a.neg <;> cases eb:b.neg <;> simp[ea,eb]at hs ⊢
 rw[if_pos e1]
 by_cases h:a.neg=true
 · rw[if_pos (h1.2 h),if_pos h]
 · rw[if_neg (fun hh=>h (h1.1 hh)),if_neg h]
theorem Abm{a b:Wh}(hb:nv b.mag≠0)(hr:a.neg=b.neg∨nv a.mag % nv b.mag=0):Nr (zv a) (zv b)=(if (!(a.neg == b.neg))=true then -((nv a.mag / nv b.mag:Nat):Int) else ((nv a.mag / nv b.mag:Nat):Int),if a.neg=true then -((nv a.mag % nv b.mag:Nat):Int) else ((nv a.mag % nv b.mag:Nat):Int)):=by
 have h2:=ID hb
 unfold Nr
 rw[Rp,Rp]
 by_cases ha:nv a.mag=0
 · have h0:zv a=0:=AG.2 ha
   rw[h0,ha]
   simp
 · have h1:=ID ha
   by_cases hs:a.neg=b.neg
   · rw[if_pos (by rw[eq_iff_iff,h1,h2,hs])]
     have e1:(!(a.neg == b.neg))=false:=by rw[hs];simp
     rw[e1]
     by_cases h:a.neg=true
     · rw[if_pos (h1.2 h),if_pos h];simp
     · rw[if_neg (fun hh=>h (h1.1 hh)),if_neg h];simp
   · have h3:=hr.resolve_left hs
     rw[if_neg (by rw[eq_iff_iff,h1,h2];cases ea:a.neg <;> cases eb:b.neg <;> simp[ea,eb]at hs ⊢),if_pos h3,h3]
     have e1:(!(a.neg == b.neg))=true:=by cases ea:a.neg <;> cases eb:b.neg <;> simp[ea,eb]at hs ⊢
     rw[if_pos e1]
     cases a.neg <;> simp
theorem IB{n:Nat}{z:Int}(h:z.natAbs<B ^ n):(wz z).mag.length≤n:=Ax.2 h
theorem TF(a b:Wh)(ha:a.mag.length≤10000)(hb:b.mag.length≤10000)(hL:AaO (nv a.mag) (nv b.mag)):Sp 306 [dW a,dW b] (dmD (zv a) (zv b)):=by
 refine Ag 0 (KN _ _ _) ?_
 simp only[L8,Lm,Al]
 refine Aa (Ou a.mag b.mag (by omega) (by omega) hL) ?_
 simp only[Af,Ce,IU,Al,IP,Bu,List.length_map]
 unfold dmD
 refine Df (fun h=>Ac ?_) (fun h=> ?_)
 · have h0:nv b.mag=0:=by simpa using h
   rw[if_pos (AG.2 h0)]
 have h0:nv b.mag≠0:=by simpa using h
 rw[if_neg (fun hh=>h0 (AG.1 hh)),if_neg h0]
 have hq:nv a.mag / nv b.mag<B ^ a.mag.length:=Nat.lt_of_le_of_lt (Nat.div_le_self _ _) (Ck _)
 have hr:nv a.mag % nv b.mag<B ^ b.mag.length:=Nat.lt_of_lt_of_le (Nat.mod_lt _ (by omega)) (Nat.le_of_lt (Ck _))
 refine Aa (Er _ (nv a.mag / nv b.mag)) (Aa (Er a.neg (nv a.mag % nv b.mag)) ?_)
 simp only[Af]
 refine Df (fun h1=>Ad (fun h2=> ?_) (fun h2=>Ac ?_)) (fun h1=>Ac ?_)
 · have hr0:nv a.mag % nv b.mag≠0:=fun hh=>by rw[hh,Ct]at h2;simp at h2
   have hs:a.neg≠b.neg:=by simpa using h1
   refine Aa (Od 1 (by unfold Cv;decide)) ?_
   refine Aa (AcJ _ _ (Nat.le_trans (IB (n:=a.mag.length) (by split <;> simp <;> exact hq)) (by omega)) (Nat.le_trans (IB (n:=1) (by simp[Be])) (by omega))) ?_
   refine Aa (Xw _ b (Nat.le_trans (IB (n:=b.mag.length) (by split <;> simp <;> exact hr)) (by omega)) (by omega)) (Ac ?_)
   rw[AiK h0 hr0 hs,Eh,Eh,Eh];rfl
 · have hr0:nv a.mag % nv b.mag=0:=G9.1 (by omega)
   rw[Abm h0 (.inr hr0)]
 · rw[Abm h0 (.inl (by simpa using h1))]
def Cj(z:Int):Nat:=(lb z.natAbs).length
def Y4:Nat→Nat→Int→Int→Int×Int
 | 0,_,out,_=>(out,0)
 | k+1,n,out,base=>if n=0 then (out,0) else if 32<Cj base then (0,7) else
  if 32<Cj (if n % 2=1 then out*base else out) then (0,7) else
  if n / 2=0 then (if n % 2=1 then out*base else out,0) else Y4 k (n / 2) (if n % 2=1 then out*base else out) (base*base)
def VO(r:Int×Int):List D:=[dW (wz r.1),.int r.2]
theorem Ih(x y:Int):Cj (x*y)≤Cj x+Cj y:=by
 unfold Cj
 refine Ax.2 ?_
 rw[Int.natAbs_mul,Nat.pow_add]
 exact Nat.mul_lt_mul'' (Ax.1 (Nat.le_refl _)) (Ax.1 (Nat.le_refl _))
theorem Ai_(n:Nat)(h:n≤9223372036854775807):Bs .and .i64 (n:Int) 1=((n % 2:Nat):Int):=by
 have b:IntKind.bits .i64=64:=rfl
 have h1:n % 2<2:=Nat.mod_lt _ (by decide)
 have e:(BitVec.ofInt 64 (n:Int)&&&BitVec.ofInt 64 1).toNat=n % 2:=by
  rw[BitVec.ofInt_natCast,show BitVec.ofInt 64 1=BitVec.ofNat 64 1 from rfl,BitVec.toNat_and,BitVec.toNat_ofNat,BitVec.toNat_ofNat,Nat.mod_eq_of_lt (show n<2 ^ 64 by omega)]
  exact Nat.and_one_is_mod n
 show IntKind.wrap .i64 ((BitVec.ofInt 64 (n:Int)&&&BitVec.ofInt 64 1).toNat:Int)=_
 rw[e]
 exact Ap (x:=((n % 2:Nat):Int)) (by omega) (by omega)
theorem AgY(n:Nat):Int.fdiv (n:Int) (2 ^ (min (Int.toNat 1) (IntKind.bits .i64)))=((n / 2:Nat):Int):=by
 rw[show (2:Int) ^ (min (Int.toNat 1) (IntKind.bits .i64))=2 by decide,Int.fdiv_eq_ediv_of_nonneg _ (by omega)];omega
def FN(x n:Int):Int×Int:=if n<0 then (0,3) else Y4 20 n.toNat 1 x
theorem Kl(N:Nat) : ∀ (k m n:Nat) (out base:Int),n<2 ^ k→k<m→n≤1000000→Cj out≤100→Cj base≤100→Tw (Ip N m (n:Int) false (dW (wz out)) (dW (wz base))) (VO (Y4 k n out base))
 | k,0,n,out,base,hk,hm,_,_,_=>by omega
 | 0,m+1,n,out,base,hk,hm,hn,ho,hb=>by
  have:n=0:=by simp at hk;omega
  subst this
  simp only[Vs]
  exact Am (by omega) (Ac rfl)
 | k+1,m+1,n,out,base,hk,hm,hn,ho,hb=>by
  have hk':n / 2<2 ^ k:=by rw[Nat.pow_succ]at hk;omega
  simp only[Vs,Lm,Bu,List.length_map,Ai_ n (by omega),AgY,Bz,IP]
  rw[Y4]
  refine Ad (fun h0=> ?_) (fun h0=>Ac ?_)
  · rw[if_neg (by omega)]
    have lo:(wz out).mag.length=Cj out:=rfl
    have lb_:(wz base).mag.length=Cj base:=rfl
    rw[lb_,lo]
    refine Ad (fun h1=>Ac ?_) (fun h1=> ?_)
    · rw[if_pos (by omega)];rfl
    rw[if_neg (by omega)]
    have m1:=Ef (wz out) (wz base) (by omega) (by omega)
    have m2:=Ef (wz base) (wz base) (by omega) (by omega)
    rw[Eh,Eh]at m1
    rw[Eh]at m2
    have l2:=Ih base base
    refine Ad (fun h2=>Aa m1 ?_) (fun h2=> ?_)
    · rw[if_pos (show n % 2=1 by omega)]
      simp only[Af,Lm,Bu,List.length_map]
      have lo':(wz (out*base)).mag.length=Cj (out*base):=rfl
      rw[lo']
      refine Ad (fun h3=>Ac (by rw[if_pos (by omega)];rfl)) (fun h3=>Ba (by decide) ?_)
      rw[if_neg (by omega)]
      refine Ad (fun h4=>Aa m2 ?_) (fun h4=> ?_)
      · rw[if_neg (by omega)]
        exact Kl N k m (n / 2) _ _ hk' (by omega) (by omega) (by omega) (by omega)
      · rw[if_pos (by omega)]
        have e0:n / 2=0:=by omega
        rw[e0]
        have:=Kl N k m 0 (out*base) base (Nat.pow_pos (by decide)) (by omega) (by omega) (by omega) hb
        have e1:Y4 k 0 (out*base) base=(out*base,0):=by cases k <;> simp[Y4]
        rw[e1]at this;exact this
    · rw[if_neg (show ¬ n % 2=1 by omega)]
      refine Ad (fun h3=>Ac (by rw[if_pos (by omega)];rfl)) (fun h3=>Ba (by decide) ?_)
      rw[if_neg (by omega)]
      refine Ad (fun h4=>Aa m2 ?_) (fun h4=> ?_)
      · rw[if_neg (by omega)]
        exact Kl N k m (n / 2) _ _ hk' (by omega) (by omega) (by omega) (by omega)
      · rw[if_pos (by omega)]
        have e0:n / 2=0:=by omega
        rw[e0]
        have:=Kl N k m 0 out base (Nat.pow_pos (by decide)) (by omega) (by omega) (by omega) hb
        have e1:Y4 k 0 out base=(out,0):=by cases k <;> simp[Y4]
        rw[e1]at this;exact this
  · rw[if_pos (by omega)];rfl
theorem Rm(a:Wh)(n:Int)(ha:a.mag.length≤100)(hn:n≤1000000):Sp 314 [dW a,.int n] (VO (FN (zv a) n)):=by
 refine Ag 21 (XQ _ _ _) ?_
 simp only[Ah,IP]
 unfold FN
 refine Ad (fun h=>Ac (by rw[if_pos h];rfl)) (fun h=>Aa (Od 1 (by unfold Cv;decide)) (Aa (Pd a (by omega)) ?_))
 rw[if_neg h]
 obtain ⟨k,rfl⟩ : ∃ k:Nat,n=(k:Int):=⟨n.toNat,by omega⟩
 rw[Int.toNat_natCast]
 have l1:Cj 1≤1:=Ax.2 (by decide)
 have l2:Cj (zv a)≤100:=Nat.le_trans (Km a) ha
 exact Kl 21 20 21 k 1 (zv a) (by omega) (by omega) (by omega) (by omega) l2
open Go.RowKit
theorem TM(n:Nat)(h:n<4294967296):Bs .and .u64 (n:Int) 4294967295=(n:Int):=by
 have e:(BitVec.ofInt 64 (n:Int)&&&BitVec.ofInt 64 4294967295).toNat=n:=by
  rw[BitVec.ofInt_natCast,show BitVec.ofInt 64 4294967295=BitVec.ofNat 64 4294967295 from rfl,BitVec.toNat_and,BitVec.toNat_ofNat,BitVec.toNat_ofNat,Nat.mod_eq_of_lt (show n<2 ^ 64 by omega)]
  show n&&&(2 ^ 32-1)=n
  rw[Nat.and_two_pow_sub_one_eq_mod];exact Nat.mod_eq_of_lt h
 show IntKind.wrap .u64 ((BitVec.ofInt 64 (n:Int)&&&BitVec.ofInt 64 4294967295).toNat:Int)=_
 rw[e]
 exact A_ (by omega) (by omega)
theorem Ahx(y:Nat)(h:y<4294967296):Sp 271 [.int 1,.int (y:Int)] [.int 0,.int (y:Int)]:=by
 refine Ag 0 (OU _ _ _) ?_
 have p:(2:Int) ^ (min (Int.toNat 32) (IntKind.bits .u64))=4294967296:=by decide
 have a1:Bs .and .u64 1 4294967295=1:=TM 1 (by decide)
 have a2:=TM y h
 have a3:Bs .and .u64 0 4294967295=0:=TM 0 (by decide)
 have d0:Int.fdiv 0 4294967296=0:=by decide
 have d1:Int.fdiv 1 4294967296=0:=by decide
 have d2:Int.fdiv (y:Int) 4294967296=0:=by rw[Int.fdiv_eq_ediv_of_nonneg _ (by decide)];omega
 have w0:IntKind.wrap .u64 0=0:=by decide
 have w1:IntKind.wrap .u64 (y:Int)=(y:Int):=A_ (by omega) (by omega)
 simp only[Ah,p,a1,a2,a3,d0,d1,d2,w0,w1,Int.zero_mul,Int.mul_zero,Int.one_mul,Int.zero_add,Int.add_zero]
 repeat (refine Ae ?_)
 exact Ac rfl
theorem AjN(y:Nat)(h:y<4294967296):Sp 231 [.int 1,.int (y:Int)] [.int 0,.int (y:Int)]:=by
 refine Ag 0 (ZP _ _ _) ?_
 simp only[Ah]
 refine Aa (Ahx y h) (Ac ?_)
 simp only[Af,Ce,Ah]
theorem YJ(y:Nat)(h:y<4294967296)(w:World):Calls Tryz.prog 231 #[.int .u64 1,.int .u64 y] w fun e w'=>e = .returned (.tuple #[.int .u64 0,.int .u64 y])∧Ext w w':=by
 have hps:Tryz.f231.params.toList = [190,190]:=by kernel_rfl
 have hrs:Tryz.f231.resultTypes.toList = [190,190]:=by kernel_rfl
 have ht:Tryz.prog.underlying 190=some (.int .u64):=by kernel_rfl
 have n1 : ∀ k:Nat,k<4294967296→Rd Tryz.prog md w (fun _=>False) (.ty 190) (.int (k:Int)) (.int .u64 (k:Int)):=fun k hk=>Wl ht (by kernel_rfl) (by kernel_rfl) (by show (0:Int)≤_;omega) (by show _≤(18446744073709551615:Int);omega)
 refine (OG (vs:=[.int .u64 1,.int .u64 y]) (M:=fun _=>False) (AjN y h) Tryz.func231 (by kernel_rfl) (fun b hb=>hb.elim) (by kernel_rfl) (by kernel_rfl) (Wk hps (n1 1 (by decide)) (n1 y h))).mono ?_
 rintro e w' ⟨us,rfl,hl,hh,hx⟩
 have hl2:us.length=2:=by rw[hl];rfl
 match us,hl2 with
 | [u1,u2],_ =>
  obtain ⟨rfl,_⟩:=(hh 0 190 u1 (by rw[hrs];rfl) rfl).int ht
  obtain ⟨rfl,_⟩:=(hh 1 190 u2 (by rw[hrs];rfl) rfl).int ht
  exact ⟨rfl,hx⟩
theorem IA{P:Program}{w:World}{ops:Array Oper}{rest:List Oper}{o:Oper}{a:Act}{Q:Exit→Act→World→Prop}{t e:TypeId}{size bytes:Nat}(hE:Elt P t e size bytes)
  (hg:o.guard=none) (l c:Operand) (hop:o.op=Op.makeSlice t l c) {kl kc:IntKind} (n:Nat) {L C:Int} (hl:a.eval l = .int kl L) (hc:a.eval c = .int kc C) (hL:L=(n:Int)) (hC:C=(n:Int)) (hb:bytes*n≤281474976710656) (hm:n≤maxLen)
  (h : ∀ (G:Nat) (w':World) (X:List Value),w.heap.size≤G→Hid (w'.heap[G]? = some (.cells X.toArray e (0,0)))→X.length=n*size→Ext w w'→wpList P ops Q rest (a.put o.dst (.slice (some ⟨G,0,none⟩) n n)) w'):wpList P ops Q (o::rest) a w:=by
 subst hL
 subst hC
 obtain ⟨i,z,hi,hz,hsz,hby,hzc⟩:=hE.info
 have hbb:(i.bytes:Int)*(n:Int)≤281474976710656:=by
  have h:((i.bytes*n:Nat):Int)≤281474976710656:=by rw[hby];omega
  rwa[Int.natCast_mul]at h
 have h63:n≤9223372036854775807:=by unfold maxLen at hm;omega
 have hr:=run_make (P:=P) w t e i z hE.under hi hz kl kc n n (by omega) (by omega) hbb (by omega)
 simp only[Int.toNat_natCast]at hr
 refine wpList_plain hg fun K hK'=> ?_
 unfold Oper.wp
 simp[execOp,hop,hl,hc,hr,Result.andThen]
 have hx:Ext w (w.alloc (.cells (madeCells z.cells (n*i.size)) e)):=(Ext.refl w).alloc _
 refine hK' _ _ (h w.heap.size _ (madeCells z.cells (n*i.size)).toList (Nat.le_refl _) ?_ (by simp[size_madeCells,hsz]) hx)
 show _=_
 rw[Array.toArray_toList]
 exact heap_alloc_new w _
theorem SL{x:Value}{cur:List Value}{k m:Nat}(h:cur.take k=List.replicate k x)(hk:k+m≤cur.length):(splice cur k (List.replicate m x)).take (k+m)=List.replicate (k+m) x∧(splice cur k (List.replicate m x)).length=cur.length:=by
 refine ⟨?_,length_splice _ _ _ (by simpa using hk)⟩
 unfold splice
 rw[h,← List.append_assoc,List.replicate_append_replicate,List.take_append_of_le_length (by simp),List.take_of_length_le (by simp)]
theorem Ajw{w w2:World}{A:Option Addr}{c:Nat}{z:Int}(h:SlI w (.slice A 1 c) .i64 [z])(hx:Ext w w2)(m:Nat)(hm:m≤1):0<(List.replicate m (Value.int .i64 z)).length→∃ ad,A=some ad∧∀ j v,(List.replicate m (Value.int .i64 z))[j]? = some v→w2.cell? (ad.add j)=some v:=by
 intro _
 obtain ⟨ad,rfl,hb,hc⟩:=(h.keep hx).cellAt 0 (by simp)
 refine ⟨ad,rfl,fun j v hv=> ?_⟩
 have hj:=(List.getElem?_eq_some_iff.1 hv).1
 simp only[List.length_replicate]at hj
 have:j=0:=by omega
 subst this
 rw[List.getElem?_replicate,if_pos (by omega)]at hv
 cases hv
 exact hc
theorem Ajx{w:World}{G k:Nat}{z:Int}{cur:List Value}{T:TypeId}(h:w.heap[G]? = some (.cells cur.toArray T (0,0)))(ht:cur.take k=List.replicate k (.int .i64 z))(m:Nat)(hm:m≤k)(hk:k≤cur.length) : ∀ j v,(List.replicate m (Value.int .i64 z))[j]? = some v→w.cell? ((⟨G,0,none⟩:Addr).add j)=some v:=by
 intro j v hv
 have hj:=(List.getElem?_eq_some_iff.1 hv).1
 simp only[List.length_replicate]at hj
 rw[List.getElem?_replicate,if_pos hj]at hv
 cases hv
 have hcj:cur[j]? = some (.int .i64 z):=by
  have:=congrArg (fun l=>l[j]?) ht
  simp only[List.getElem?_take,List.getElem?_replicate]at this
  rw[if_pos (by omega),if_pos (by omega)]at this
  exact this
 have ea:(⟨G,0,none⟩:Addr).add j=⟨G,j,none⟩:=by unfold Addr.add;split <;> simp_all
 rw[ea]
 unfold World.cell?
 simp[h,hcj]
theorem AgU:Elt Tryz.prog 23 3 1 8 :=
 ⟨Tryz.underlying23,by
  obtain ⟨i,hi,h1,h2,h3⟩:=info_parts (P:=Tryz.prog) (e:=3) (z:= .int .i64 0) (size:=1) (bytes:=8) (by kernel_rfl)
  exact ⟨i,_,hi,h1,h2,h3,rfl⟩,by decide⟩
def RInv(w2:World)(G n:Nat)(z:Int)(iv:Value)(wr:World):Prop:=∃ (k:Nat) (cur:List Value),iv = .int .i64 k∧k≤n∧(0<n→0<k)∧cur.length=n∧cur.take k=List.replicate k (.int .i64 z)∧wr.heap[G]? = some (.cells cur.toArray 3 (0,0))∧Below G w2 wr
theorem RInv.start {w2 w3:World} {G n:Nat} {z:Int} {X:List Value} (hX:X.length=n*1) (h:w3.heap[G]? = some (.cells (splice X 0 (List.replicate (Nat.min 1 n) (.int .i64 z))).toArray 3 (0,0))) (hb:Below G w2 w3):RInv w2 G n z (.int .i64 ((Nat.min 1 n:Nat):Int)) w3:=by
 have h2:Nat.min 1 n≤n:=Nat.min_le_right 1 n
 have h3:Nat.min 1 n=if 1≤n then 1 else n:=Nat.min_def
 obtain ⟨s1,s2⟩:=SL (x:= .int .i64 z) (cur:=X) (k:=0) (m:=Nat.min 1 n) rfl (by omega)
 rw[Nat.zero_add]at s1
 exact ⟨Nat.min 1 n,_,rfl,h2,fun h=>by rw[h3];split <;> omega,by omega,s1,h,hb⟩
theorem RInv.next {w2 w4:World} {G n k:Nat} {z:Int} {cur:List Value} (hk:k<n) (hp:0<k) (hl:cur.length=n) (ht:cur.take k=List.replicate k (.int .i64 z)) (h:w4.heap[G]? = some (.cells (splice cur k (List.replicate (Nat.min k (n-k)) (.int .i64 z))).toArray 3 (0,0))) (hb:Below G w2 w4):RInv w2 G n z (.int .i64 ((k+Nat.min k (n-k):Nat):Int)) w4∧n-(k+Nat.min k (n-k))<n-k:=by
 have h3:Nat.min k (n-k)=if k≤n-k then k else n-k:=Nat.min_def
 have h4:0<Nat.min k (n-k)∧k+Nat.min k (n-k)≤n:=by rw[h3];split <;> omega
 obtain ⟨s1,s2⟩:=SL (x:= .int .i64 z) (cur:=cur) (k:=k) (m:=Nat.min k (n-k)) ht (by omega)
 exact ⟨⟨_,_,rfl,h4.2,fun _=>by omega,by omega,s1,h,hb⟩,by omega⟩
def Aj6(n:Nat)(z:Int)(w:World)(e:Ending)(w':World):Prop:=∃ G,e = .returned (.slice (some ⟨G,0,none⟩) n n)∧w.heap.size≤G∧SlI w' (.slice (some ⟨G,0,none⟩) n n) .i64 (List.replicate n z)∧Ext w w'
theorem Akp{w:World}{M:Nat→Prop}{v:Value}{l:List Int}(h:Rd Tryz.prog md w M (.ty 23) (dI l) v):SlI w v .i64 l:=by
 obtain ⟨h1,h2,h3⟩:=h
 have hc1:Tryz.prog.cellsOf 3=1:=by kernel_rfl
 unfold dI at h1
 cases h1 with
 | @sl _ e _ _ A cap bk off ht hc h4 h5 hA hh =>
  have he:e=3:=by
   have:Tryz.prog.underlying 23=some (.slice e):=ht
   rw[show Tryz.prog.underlying 23=some (.slice 3) by kernel_rfl]at this
   injection this with this;injection this with this;exact this.symm
  subst he
  have hv:v = .slice A (l.map D.int).length cap:=by
   have ha:Dz v=false:=by rw[h3];kernel_rfl
   rw[Hg ha]at hc
   simpa using hc
  refine ⟨A,cap,by rw[hv];simp,by simpa using h4,by simp,fun i x hx=> ?_⟩
  rw[List.getElem?_map,Option.map_eq_some_iff]at hx
  obtain ⟨b,hb,rfl⟩:=hx
  have hne:l.map D.int≠[]:=fun e=>by rw[List.map_eq_nil_iff.1 e]at hb;simp at hb
  obtain ⟨a1,a2,a3⟩:=hA hne
  have:=hh i (D.int b) (by rw[List.getElem?_map,hb];rfl)
  rw[hc1]at this
  refine ⟨_,a1,a3,?_⟩
  cases this with
  | @int _ k _ _ ht' h1' h2' hc' =>
   have hk:k = .i64:=by
    have:Tryz.prog.underlying 3=some (.int k):=ht'
    rw[show Tryz.prog.underlying 3=some (.int .i64) by kernel_rfl]at this
    injection this with this;injection this with this;exact this.symm
   subst hk
   simp only[Nat.mul_one,Nat.add_zero]at hc'
   have ea:(⟨bk,off,none⟩:Addr).add i=⟨bk,off+i,none⟩:=by unfold Addr.add;split <;> simp_all
   rw[ea];exact hc'
theorem Ajt{w:World}{M:Nat→Prop}{G n c:Nat}{l:List Int}(h:SlI w (.slice (some ⟨G,0,none⟩) n c) .i64 l)(hc:c≤maxLen)(hG : ¬ M G)(hr : ∀ x∈l,Cv x):Rd Tryz.prog md w M (.ty 23) (dI l) (.slice (some ⟨G,0,none⟩) n c):=by
 obtain ⟨h1,h2⟩:=h.len
 have hc1:Tryz.prog.cellsOf 3=1:=by kernel_rfl
 refine ⟨.sl (e:=3) (A:=some ⟨G,0,none⟩) (cap:=c) (bk:=G) (off:=0) (by kernel_rfl) (by rw[h1,List.length_map];rfl) (by rw[List.length_map];omega) hc (fun hne=> ?_) (fun i x hx=> ?_),by kernel_rfl,by kernel_rfl⟩
 · have:0<l.length:=List.length_pos_iff.2 (fun e=>hne (by rw[e];rfl))
   obtain ⟨ad,ha,hb,_⟩:=h.cellAt 0 this
   cases ha
   exact ⟨rfl,hG,hb⟩
 · rw[List.getElem?_map,Option.map_eq_some_iff]at hx
   obtain ⟨b,hb,rfl⟩:=hx
   have hi:i<l.length:=(List.getElem?_eq_some_iff.1 hb).1
   obtain ⟨ad,ha,_,hcell⟩:=h.cellAt i hi
   cases ha
   have ea:(⟨G,0,none⟩:Addr).add i=⟨G,0+i,none⟩:=by unfold Addr.add;split <;> simp_all
   rw[ea]at hcell
   have hx:l[i]=b:=(List.getElem?_eq_some_iff.1 hb).2
   rw[hx]at hcell
   have:=hr b (List.mem_of_getElem? hb)
   exact .int (k:= .i64) (by kernel_rfl) this.1 this.2 (by rw[hc1];simpa using hcell)
theorem Agg{w:World}{M:Nat→Prop}{v:Value}{n:Int}(h:Rd Tryz.prog md w M (.ty 3) (.int n) v):v = .int .i64 n∧Cv n:=by
 obtain ⟨h1,h2,h3⟩:=h
 have ha:Dz v=false:=by rw[h3];kernel_rfl
 cases h1 with
 | @int _ k _ _ ht h1' h2' hc' =>
  have hk:k = .i64:=by
   have:Tryz.prog.underlying 3=some (.int k):=ht
   rw[show Tryz.prog.underlying 3=some (.int .i64) by kernel_rfl]at this
   injection this with this;injection this with this;exact this.symm
  subst hk
  rw[Hg ha]at hc'
  exact ⟨by simpa using hc',h1',h2'⟩
theorem BU{k n:Nat}(hk:k<n)(hn:n≤1000000):IntKind.wrap .i64 ((k:Int)+((Nat.min k (n-k):Nat):Int))=((k+Nat.min k (n-k):Nat):Int):=by
 have h2:Nat.min k (n-k)≤n-k:=Nat.min_le_right k (n-k)
 rw[Ap (by omega) (by omega)];omega
set_option maxHeartbeats 2000000 in
theorem Afe(A:Option Addr)(c n:Nat)(z:Int)(w:World)(hn:n≤1000000)(hs:SlI w (.slice A 1 c) .i64 [z]):Calls Tryz.prog 177 #[.slice A 1 c,.int .i64 n] w (Aj6 n z w):=by
 have HS:=Lib.hid hs
 have hc1:=hs.len.2
 clear hs
 have hu:Tryz.prog.underlying 23=some (.slice 3):=by kernel_rfl
 have hz:(Tryz.prog.info? 3).map (·.size)=some 1:=by kernel_rfl
 have HU:=Lib.hid hu
 have HZ:=Lib.hid hz
 clear hu hz
 go_enter Tryz.func177,Tryz.ntmps177
 go_wp2_with (first
  | (go_at_call 231;refine (YJ n (by omega) _).mono ?_;rintro e w1 ⟨rfl,hx1⟩)
  | (at_make;refine IA AgU rfl _ _ rfl n rfl rfl (by omega) (by omega) (by omega) (by unfold maxLen;omega) ?_;intro G w2 X hG HG hX hx2;have HX:=Lib.hid hX;clear hX)
  | (refine wpList_copy_splice rfl (.tmp 31) (.tmp 32) 23 23 rfl 3 HU.out HZ.out (some ⟨G,0,none⟩) A n n 1 c (by simp[Act.eval,Act.put]) (by simp[Act.eval,Act.put]) G 0 X 3 HG.out (List.replicate (Nat.min 1 n) (.int .i64 z)) (by simp) (fun hp=>⟨rfl,Ajw HS.out (hx1.trans hx2) _ (Nat.min_le_left _ _) hp⟩) (by have h1:=HX.out;have h2:Nat.min 1 n≤n:=Nat.min_le_right 1 n;simp only[List.length_replicate];omega) (by intro v hv;rw[List.eq_of_mem_replicate hv];rfl) G w2 (Below.refl _ _) (Nat.le_refl _) ?_;intro w3 HG3 hb3))
 go_loopw [8] (RInv w2 G n z) (fun iv _=>n-(intOf iv).toNat)
 case atStart=>exact RInv.start HX.out HG3.out hb3
 case round =>
  obtain ⟨k,cur,rfl,hk,hp,hl,ht,hh,hb⟩:=hrel
  have HT:=Lib.hid ht
  have HH:=Lib.hid hh
  have HB:=Lib.hid hb
  have HL:=Lib.hid hl
  clear ht hh hb hl
  by_cases hlt:k<n
  · have hpk:0<k:=hp (by omega)
    clear hp
    have HNE:=Lib.hid (show (if n=k then some (⟨G,0,none⟩:Addr) else some ⟨G,k,none⟩)=some ⟨G,k,none⟩ from if_neg (by omega))
    have HSR:=Lib.hid (Ajx (w:=wr.drew) HH.out HT.out (Nat.min k (n-k)) (Nat.min_le_left _ _) (by have:=HL.out;omega))
    go_wp2_with fail
    go_region_law (refine step_copy_splice rfl (.tmp 41) (.tmp 44) 23 23 rfl 3 HU.out HZ.out (if n=k then some ⟨G,0,none⟩ else some ⟨G,k,none⟩) (some ⟨G,0,none⟩) (n-k) (n-k) k n (by simp[Act.eval,Act.put]) (by simp[Act.eval,Act.put]) G k cur 3 HH.out (List.replicate (Nat.min k (n-k)) (.int .i64 z)) (by simp) (fun _=>⟨HNE.out,_,rfl,HSR.out⟩) (by have h1:=HL.out;have h2:Nat.min k (n-k)≤n-k:=Nat.min_le_right k (n-k);simp only[List.length_replicate];omega) (by intro v hv;rw[List.eq_of_mem_replicate hv];rfl) G w2 HB.out.drew (Nat.le_refl _) ?_;intro w4 HG4 hb4)
    go_wp2
    go_roundw
    case rel =>
     rw[BU hlt (by omega)]
     exact (RInv.next hlt hpk HL.out HT.out HG4.out hb4).1
    case measure =>
     rw[BU hlt (by omega)]
     exact (RInv.next hlt hpk HL.out HT.out HG4.out hb4).2
  · have hkn:k=n:=by omega
    subst hkn
    go_wp2_with fail
    go_ret
    have hh:=HH.out
    have hcur:cur=(List.replicate k z).map (.int .i64):=by
     have h1:=HT.out
     rw[List.take_of_length_le (by have:=HL.out;omega)]at h1
     rw[h1];simp
    rw[hcur]at hh
    exact ⟨G,rfl,Nat.le_trans hx1.size hG,SlI.made hh (by simp) (Nat.le_refl _),Below.trans (hx1.trans hx2) (Below.mono HB.out (Nat.le_trans hx1.size hG))⟩
theorem ZB(n:Nat)(z:Int)(hn:n≤1000000)(hz:Cv z):Sp 177 [dI [z],.int (n:Int)] [dI (List.replicate n z)]:=by
 refine JH ZM Tryz.func177 (by kernel_rfl) (by kernel_rfl) (by kernel_rfl) (fun w M vs hM _ hlv hrd=> ?_)
 have hps:Tryz.f177.params.toList = [23,3]:=by kernel_rfl
 have hlen:vs.length=2:=by rw[hlv];rfl
 match vs,hlen with
 | [va,vb],_ =>
  rw[hps]at hrd
  have hs:=Akp (hrd 0 _ _ _ rfl rfl rfl)
  obtain ⟨rfl,_⟩:=Agg (hrd 1 _ _ _ rfl rfl rfl)
  obtain ⟨A,c,rfl,_,_⟩:=hs.form
  refine (Afe A c n z w hn hs).mono ?_
  rintro e w' ⟨G,rfl,hG,hv,hx⟩
  refine ⟨[_],rfl,rfl,fun i t u ht hu=> ?_,hx⟩
  rw[show Tryz.f177.resultTypes.toList = [23] by kernel_rfl]at ht
  match i with
  | 0=>cases ht;cases hu;exact Ajt hv (by unfold maxLen;omega) (fun hm=>by have:=hM G hm;omega) (fun x hx=>by rw[List.eq_of_mem_replicate hx];exact hz)
  | i+1=>simp at ht
end Go.Proofs.YtokkbgpgaheakaaGreat
namespace Go.Proofs.YtokkbgpgaheakaaGreat
def P8:List (Nat×Orc):=[(7,⟨[(2,none),(3,none),(4,none),(5,none),(7,some 23),(8,none),(26,some 23),(27,none),(28,none)],[(2,true),(3,true),(4,false),(5,false),(8,false)],[(.fld 8 [0],1070,3),(.fld 8 [1],1071,3)]⟩)]
noncomputable def N6(n m7:Nat)(s7 t26:D)(t27 t28:Int)(nn2 a3:D)(r4_0 e5:Int)(w8_0 w8_1:List D):Tree :=
 lA (eA P8 n 39 [1,1,1,1,1,0,1,0,0]) (Ao P8 7) m7 ⟨(.undef:: .undef:: .ptr 2 []:: .ptr 3 []:: .ptr 4 []:: .ptr 5 []:: .undef:: .d 23 s7:: .ptr 8 []::uA 17++(.d 23 t26:: .i .i64 t27:: .i .i64 t28::uA 47)),[(2,.var 26 (.d 26 nn2) true),(3,.var 26 (.d 26 a3) true),(4,.var 26 (.agg 26 [.i .u64 r4_0,.mt,.mt]) true),(5,.var 29 (.i .i64 e5) true),(8,.var 99 (.agg 99 [.row 1070,.row 1071]) true),(1070,.row 3 w8_0 true),(1071,.row 3 w8_1 true)],[2,3,4,5,8,1070,1071],[(97,[.ptr 4 [],.ptr 5 []])],[]⟩
  (Ak 0 (Au (jA P8 n 39 [1,1,1,1,1,1]) (rA 39 [26,26] [.cell 4 26,.cell 5 29] [26,29])))
theorem Wx(n m7:Nat)(s7 t26:D)(t27 t28:Int)(nn2 a3:D)(r4_0 e5:Int)(w8_0 w8_1:List D):N6 n (m7+1) s7 t26 t27 t28 nn2 a3 r4_0 e5 w8_0 w8_1 =
 .br (decide (t28<t27)) (.br (decide (0≤t28)) (.br (decide (t28<(t26.els.length:Int))) (.call 100 [] [D.int ((t26.els.getD (Int.toNat t28) D.nil).toInt)] fun yy3 =>
 .br (decide (0≤t28)) (.br (decide (t28<(w8_1.length:Int))) (.br (decide (((t26.els.getD (Int.toNat t28) D.nil).toInt)<0)) (.br (decide (0≤t28)) (.br (decide (t28<(s7.els.length:Int))) (.br (decide (0≤t28)) (.br (decide (t28<((w8_1.set (Int.toNat t28) (D.int ((yy3.getD 0 D.nil).toInt))).length:Int))) (.br (decide (0≤t28)) (.br (decide (t28<(w8_0.length:Int))) (N6 n m7 s7 t26 t27 (IntKind.wrap .i64 (t28+1)) nn2 a3 r4_0 e5 (w8_0.set (Int.toNat t28) (D.int (IntKind.wrap .i64 (((s7.els.getD (Int.toNat t28) D.nil).toInt)-(((w8_1.set (Int.toNat t28) (D.int ((yy3.getD 0 D.nil).toInt))).getD (Int.toNat t28) D.nil).toInt))))) (w8_1.set (Int.toNat t28) (D.int ((yy3.getD 0 D.nil).toInt)))) .fail) .fail) .fail) .fail) .fail) .fail)
 (N6 n m7 s7 t26 t27 (IntKind.wrap .i64 (t28+1)) nn2 a3 r4_0 e5 w8_0 (w8_1.set (Int.toNat t28) (D.int ((yy3.getD 0 D.nil).toInt))))) .fail) .fail) .fail) .fail)
 (.call 81 [] [D.sl w8_1] fun yy4 =>
 .br (((yy4.getD 1 D.nil).toInt)!=0) (.ret [D.agg [D.int 0,D.sl [],D.sl []],D.int ((yy4.getD 1 D.nil).toInt)])
 (.call 102 [] [D.agg [D.sl w8_0,D.sl w8_1],a3,s7,D.int ((yy4.getD 0 D.nil).toInt)] fun yy5 =>
 .call 101 [] [nn2,a3,D.sl w8_1,yy5.getD 0 D.nil] fun yy6 =>
 .ret [yy6.getD 0 D.nil,D.int 0])):=by kernel_rfl
theorem ZR(n:Nat)(nn0 a1:D):Ai Tryz.prog md P8 n 39 [] [nn0,a1] =
 .call 98 [] [nn0,a1] fun yy1 =>
 .br (((yy1.getD 2 D.nil).toInt)!=0) (.ret [D.agg [D.int 0,D.sl [],D.sl []],D.int ((yy1.getD 2 D.nil).toInt)])
 (.call 99 [] [yy1.getD 1 D.nil] fun yy2 =>
 N6 n n (yy1.getD 1 D.nil) (yy1.getD 0 D.nil) (((yy1.getD 0 D.nil).els).length:Int) 0 nn0 a1 0 ((yy1.getD 2 D.nil).toInt) (((yy2.getD 0 D.nil).fld 0).els) (((yy2.getD 0 D.nil).fld 1).els)):=by kernel_rfl
def P7:List (Nat×Orc):=[(7,⟨[(2,none),(3,none),(4,none),(5,none),(7,some 23),(8,none),(27,some 23),(28,none),(29,none)],[(2,true),(3,true),(4,false),(5,false),(8,false)],[(.fld 8 [0],1070,3),(.fld 8 [1],1071,3)]⟩)]
noncomputable def N5(n m7:Nat)(s7 t27:D)(t28 t29:Int)(nn2 a3:D)(r4_0 e5:Int)(w8_0 w8_1:List D):Tree :=
 lA (eA P7 n 40 [1,1,1,1,1,0,1,0,0]) (Ao P7 7) m7 ⟨(.undef:: .undef:: .ptr 2 []:: .ptr 3 []:: .ptr 4 []:: .ptr 5 []:: .undef:: .d 23 s7:: .ptr 8 []::uA 18++(.d 23 t27:: .i .i64 t28:: .i .i64 t29::uA 49)),[(2,.var 26 (.d 26 nn2) true),(3,.var 26 (.d 26 a3) true),(4,.var 26 (.agg 26 [.i .u64 r4_0,.mt,.mt]) true),(5,.var 29 (.i .i64 e5) true),(8,.var 99 (.agg 99 [.row 1070,.row 1071]) true),(1070,.row 3 w8_0 true),(1071,.row 3 w8_1 true)],[2,3,4,5,8,1070,1071],[(103,[.ptr 4 [],.ptr 5 []])],[]⟩
  (Ak 0 (Au (jA P7 n 40 [1,1,1,1,1,1]) (rA 40 [26,26] [.cell 4 26,.cell 5 29] [26,29])))
theorem Ww(n m7:Nat)(s7 t27:D)(t28 t29:Int)(nn2 a3:D)(r4_0 e5:Int)(w8_0 w8_1:List D):N5 n (m7+1) s7 t27 t28 t29 nn2 a3 r4_0 e5 w8_0 w8_1 =
 .br (decide (t29<t28)) (.br (decide (0≤t29)) (.br (decide (t29<(t27.els.length:Int))) (.call 100 [] [D.int ((t27.els.getD (Int.toNat t29) D.nil).toInt)] fun yy3 =>
 .br (decide (0≤t29)) (.br (decide (t29<(s7.els.length:Int))) (.br (decide (0≤t29)) (.br (decide (t29<(s7.els.length:Int))) (.br (decide (0≤t29)) (.br (decide (t29<(w8_1.length:Int))) (.br (decide (0<((t27.els.getD (Int.toNat t29) D.nil).toInt))) (.br (decide (0≤t29)) (.br (decide (t29<(w8_0.length:Int))) (N5 n m7 s7 t27 t28 (IntKind.wrap .i64 (t29+1)) nn2 a3 r4_0 e5 (w8_0.set (Int.toNat t29) (D.int (if ((s7.els.getD (Int.toNat t29) D.nil).toInt)<((yy3.getD 0 D.nil).toInt) then ((s7.els.getD (Int.toNat t29) D.nil).toInt) else ((yy3.getD 0 D.nil).toInt)))) (w8_1.set (Int.toNat t29) (D.int (IntKind.wrap .i64 (((s7.els.getD (Int.toNat t29) D.nil).toInt)-(if ((s7.els.getD (Int.toNat t29) D.nil).toInt)<((yy3.getD 0 D.nil).toInt) then ((s7.els.getD (Int.toNat t29) D.nil).toInt) else ((yy3.getD 0 D.nil).toInt))))))) .fail) .fail)
 (N5 n m7 s7 t27 t28 (IntKind.wrap .i64 (t29+1)) nn2 a3 r4_0 e5 w8_0 (w8_1.set (Int.toNat t29) (D.int (IntKind.wrap .i64 (((s7.els.getD (Int.toNat t29) D.nil).toInt)-(if ((s7.els.getD (Int.toNat t29) D.nil).toInt)<((yy3.getD 0 D.nil).toInt) then ((s7.els.getD (Int.toNat t29) D.nil).toInt) else ((yy3.getD 0 D.nil).toInt)))))))) .fail) .fail) .fail) .fail) .fail) .fail) .fail) .fail)
 (.call 81 [] [D.sl w8_1] fun yy4 =>
 .br (((yy4.getD 1 D.nil).toInt)!=0) (.ret [D.agg [D.int 0,D.sl [],D.sl []],D.int ((yy4.getD 1 D.nil).toInt)])
 (.call 102 [] [D.agg [D.sl w8_0,D.sl w8_1],a3,s7,D.int ((yy4.getD 0 D.nil).toInt)] fun yy5 =>
 .call 101 [] [nn2,a3,D.sl w8_1,yy5.getD 0 D.nil] fun yy6 =>
 .ret [yy6.getD 0 D.nil,D.int 0])):=by kernel_rfl
theorem ZQ(n:Nat)(nn0 a1:D):Ai Tryz.prog md P7 n 40 [] [nn0,a1] =
 .call 98 [] [nn0,a1] fun yy1 =>
 .br (((yy1.getD 2 D.nil).toInt)!=0) (.ret [D.agg [D.int 0,D.sl [],D.sl []],D.int ((yy1.getD 2 D.nil).toInt)])
 (.call 99 [] [yy1.getD 1 D.nil] fun yy2 =>
 N5 n n (yy1.getD 1 D.nil) (yy1.getD 0 D.nil) (((yy1.getD 0 D.nil).els).length:Int) 0 nn0 a1 0 ((yy1.getD 2 D.nil).toInt) (((yy2.getD 0 D.nil).fld 0).els) (((yy2.getD 0 D.nil).fld 1).els)):=by kernel_rfl
theorem ZS(n:Nat)(nn0 a1:D):Ai Tryz.prog md [] n 98 [] [nn0,a1] =
 .call 80 [] [nn0] fun yy1 =>
 .br (((yy1.getD 1 D.nil).toInt)!=0) (.ret [D.sl [],D.sl [],D.int ((yy1.getD 1 D.nil).toInt)])
 (.br (decide (0<(((a1.fld 1).els).length:Int))) (.br (decide ((((a1.fld 1).els).length:Int)<(((yy1.getD 0 D.nil).els).length:Int))) (.ret [D.sl [],D.sl [],D.int 4])
 (.call 96 [] [a1.fld 1] fun yy2 =>
 .ret [yy1.getD 0 D.nil,D.sl ((yy2.getD 0 D.nil).els),D.int 0]))
 (.br (decide (6<(((yy1.getD 0 D.nil).els).length:Int))) (.ret [D.sl [],D.sl [],D.int 7])
 (.call 177 [] [D.sl [D.int 1],D.int (((yy1.getD 0 D.nil).els).length:Int)] fun yy3 =>
 .ret [yy1.getD 0 D.nil,yy3.getD 0 D.nil,D.int 0]))):=by kernel_rfl
theorem ZT(n:Nat)(s0:D):Ai Tryz.prog md [] n 99 [] [s0] =
 .br (decide (0≤(s0.els.length:Int))) (.br (decide ((s0.els.length:Int)≤(s0.els.length:Int))) (.br (decide ((s0.els.length:Int)≤Ar)) (.call 96 [] [s0] fun yy1 =>
 .ret [D.agg [D.sl (List.replicate (Int.toNat (s0.els.length:Int)) (D.int 0)),D.sl ((yy1.getD 0 D.nil).els)]]) .fail) .fail) .fail:=by kernel_rfl
theorem TX(n:Nat)(k0:D):Ai Tryz.prog md [] n 100 [] [k0] =
 .br (decide (2049<k0.toInt)) (.ret [D.int 2049])
 (.br (decide (k0.toInt<(-2049))) (.ret [D.int 2049])
 (.ret [D.int (if k0.toInt<(IntKind.wrap .i64 (0-k0.toInt)) then (IntKind.wrap .i64 (0-k0.toInt)) else k0.toInt)])):=by kernel_rfl
theorem ZU(n:Nat)(nn0 a1:D)(s2 cells3:D):Ai Tryz.prog md [] n 101 [] [nn0,a1,s2,cells3] =
 .call 84 [] [nn0] fun yy1 =>
 .call 83 [] [D.int ((a1.fld 0).toInt),D.int ((yy1.getD 0 D.nil).toInt)] fun yy2 =>
 .ret [D.agg [D.int ((yy2.getD 0 D.nil).toInt),s2,cells3]]:=by kernel_rfl
def Cc:List (Nat×Orc):=[(4,⟨[(2,some 23),(4,none),(5,none),(9,none),(10,none),(21,none),(22,none)],[(4,true),(5,true),(9,true)],[(.slot 10,1040,67)]⟩),(8,⟨[(2,some 23),(4,none),(5,none),(9,none),(10,none),(12,none),(21,none),(22,none),(33,none),(34,none)],[(4,true),(5,true),(9,true)],[(.slot 10,1080,67),(.slot 12,1081,3)]⟩)]
def L7:List Nat:=[99,26,23,3]
noncomputable def I7(n m4 m8:Nat)(s2:D)(r10 at12:List D)(t21 t22:Int)(t33 t34:Int)(w4 a5 fill9:D):Tree :=
 lA (eA Cc n 102 [1,1,1,0,1,0,0,1,1,0,0,1,1,0,1,0,0]) (Ao Cc 8) m8 ⟨(.undef:: .undef:: .d 23 s2:: .undef:: .ptr 4 []:: .ptr 5 []::uA 3++(.ptr 9 []:: .row 1080:: .undef:: .row 1081::uA 8++(.i .i64 t21:: .i .i64 t22::uA 10++(.i .i64 t33:: .i .i64 t34::uA 35)))),[(4,.var 99 (.d 99 w4) true),(5,.var 26 (.d 26 a5) true),(9,.var 67 (.d 67 fill9) true),(1080,.row 67 r10 true),(1081,.row 3 at12 true)],[4,5,9,1080,1081],[],[]⟩
  (Ak 2 (Au (jA Cc n 102 [1,1,1,0,1,0,0,1,1,0,0,1,1,1]) (Ak 1 (Au (jA Cc n 102 [1,1,1,0,1,0,0,1,1,1]) (J0 Tryz.prog md (Ao Cc 4) (fun s1=>lA (eA Cc n 102 [1,1,1,0,1,0,0]) (Ao Cc 4) m4 s1 (Ak 0 (Au (jA Cc n 102 [1,1,1,1]) (rA 102 L7 [.tmp 8] [24])))) (Ak 0 (Au (jA Cc n 102 [1,1,1,1]) (rA 102 L7 [.tmp 8] [24]))))))))
noncomputable def D7(n m4:Nat)(s2:D)(r10:List D)(t21 t22:Int)(w4 a5 fill9:D):Tree :=
 lA (eA Cc n 102 [1,1,1,0,1,0,0]) (Ao Cc 4) m4 ⟨(.undef:: .undef:: .d 23 s2:: .undef:: .ptr 4 []:: .ptr 5 []::uA 3++(.ptr 9 []:: .row 1040::uA 10++(.i .i64 t21:: .i .i64 t22::uA 47))),[(4,.var 99 (.d 99 w4) true),(5,.var 26 (.d 26 a5) true),(9,.var 67 (.d 67 fill9) true),(1040,.row 67 r10 true)],[4,5,9,1040],[],[]⟩
  (Ak 0 (Au (jA Cc n 102 [1,1,1,1]) (rA 102 L7 [.tmp 8] [24])))
theorem Nq(n m4 m8:Nat)(s2:D)(r10 at12:List D)(t21 t22:Int)(t33 t34:Int)(w4 a5 fill9:D):I7 n m4 (m8+1) s2 r10 at12 t21 t22 t33 t34 w4 a5 fill9 =
 .br (decide (t34<t33)) (.br (decide (0≤t34)) (.br (decide (t34<(at12.length:Int))) (.br (decide (0≤t34)) (.br (decide (t34<(((w4.fld 0).els).length:Int))) (.br (decide (0≤t34)) (.br (decide (t34<(at12.length:Int))) (I7 n m4 m8 s2 r10 (at12.set (Int.toNat t34) (D.int (IntKind.wrap .i64 (((at12.getD (Int.toNat t34) D.nil).toInt)+((((w4.fld 0).els).getD (Int.toNat t34) D.nil).toInt))))) t21 t22 t33 (IntKind.wrap .i64 (t34+1)) w4 a5 fill9) .fail) .fail) .fail) .fail) .fail) .fail)
 (.call 176 [] [s2,D.sl at12] fun yy3 =>
 .br ((yy3.getD 1 D.nil).toBool) (.br (decide (0≤(yy3.getD 0 D.nil).toInt)) (.br (decide ((yy3.getD 0 D.nil).toInt<(((a5.fld 2).els).length:Int))) (.br (decide (r10.length + [((a5.fld 2).els).getD (Int.toNat ((yy3.getD 0 D.nil).toInt)) D.nil].length≤Ar)) (D7 n m4 s2 (r10++[((a5.fld 2).els).getD (Int.toNat ((yy3.getD 0 D.nil).toInt)) D.nil]) t21 (IntKind.wrap .i64 (t22+1)) w4 a5 fill9) .fail) .fail) .fail)
 (.br (decide (r10.length + [fill9].length≤Ar)) (D7 n m4 s2 (r10++[fill9]) t21 (IntKind.wrap .i64 (t22+1)) w4 a5 fill9) .fail)):=by kernel_rfl
theorem Np(n m4:Nat)(s2:D)(r10:List D)(t21 t22:Int)(w4 a5 fill9:D):D7 n (m4+1) s2 r10 t21 t22 w4 a5 fill9 =
 .br (decide (t22<t21)) (.call 175 [] [w4.fld 1,D.int t22] fun yy2 =>
 I7 n m4 n s2 r10 ((yy2.getD 0 D.nil).els) t21 t22 (((yy2.getD 0 D.nil).els).length:Int) 0 w4 a5 fill9)
 (.ret [D.sl r10]):=by kernel_rfl
theorem AQ(n:Nat)(w0 a1:D)(s2 count3:D):Ai Tryz.prog md Cc n 102 [] [w0,a1,s2,count3] =
 .call 82 [] [a1] fun yy1 =>
 .br (decide (0≤0)) (.br (decide (0≤count3.toInt)) (.br (decide (count3.toInt≤Ar)) (D7 n n s2 (List.replicate (Int.toNat 0) (D.agg [D.int 0,D.int 0,D.agg [D.bool false,D.sl [],D.sl []],D.int 0,D.sl []])) count3.toInt 0 w0 a1 (yy1.getD 0 D.nil)) .fail) .fail) .fail:=by kernel_rfl
def MI:List Int→Int→List Int
 | [],_=>[]
 | x::xs,n=>Int.tmod n x::MI xs (Int.tdiv n x)
def KP(s:List Int)(n:Int):List Int:=(MI s.reverse n).reverse
theorem Abk : ∀ (l:List Int) (n:Int),(MI l n).length=l.length
 | [],_=>rfl
 | x::xs,n=>by simp[MI,Abk xs]
theorem Wd(s:List Int)(n:Int):(KP s n).length=s.length:=by simp[KP,Abk]
def Yx:List Int→List Int→Int→Option Int
 | [],_,o=>some o
 | _::_,[],_=>none
 | x::xs,a::as_,o=>if a<0∨x≤a then none else Yx xs as_ (IntKind.wrap .i64 (IntKind.wrap .i64 (o*x)+a))
def Sl(s at_:List Int):Option Int:=if (Ay s).2=0∧at_.length=s.length then Yx s at_ 0 else none
theorem YE : ∀ {s at_:List Int} {o:Int},(0:Int)∈s→Yx s at_ o=none
 | x::xs,[],o,_=>rfl
 | x::xs,a::as_,o,h=>by
  simp only[Yx]
  split
  · rfl
  · rename_i hc
    rcases List.mem_cons.1 h with h | h
    · subst h;omega
    · exact YE h
theorem AhA{x:Int}{xs:List Int}{p:Int}(h:Bg (x::xs) p≠0):p*x≤2048∧Bg xs (p*x)≠0:=by
 rw[K2]at h
 split at h
 · exact absurd rfl h
 · exact ⟨by omega,h⟩
theorem AdD : ∀ {s at_:List Int} {o p k:Int},(∀ x∈s,1≤x∧x≤2048)→0≤o→o<p→p≤2048→Bg s p≠0→Yx s at_ o=some k→0≤k∧k<Bg s p
 | [],at_,o,p,k,_,h0,h1,_,_,h=>by
  simp only[Yx,Option.some.injEq]at h
  subst h
  exact ⟨h0,h1⟩
 | x::xs,[],o,p,k,_,_,_,_,_,h=>by simp[Yx]at h
 | x::xs,a::as_,o,p,k,hx,h0,h1,h2,hp,h=>by
  simp only[Yx]at h
  split at h
  · cases h
  · rename_i hc
    have hxx:=hx x (by simp)
    obtain ⟨q1,q2⟩:=AhA hp
    have m1:(o+1)*x≤p*x:=Int.mul_le_mul_of_nonneg_right (by omega) (by omega)
    have m2:0≤o*x:=Int.mul_nonneg h0 (by omega)
    rw[Int.add_mul,Int.one_mul]at m1
    rw[Ap (x:=o*x) (by omega) (by omega),Ap (by omega) (by omega)]at h
    have:=AdD (s:=xs) (p:=p*x) (fun y hy=>hx y (by simp[hy])) (by omega) (by omega) q1 q2 h
    rw[K2,if_neg (by omega)]
    exact this
theorem Fq{s:List Int}{c:Int}(h:Ay s=(c,0)):s.length≤6∧(((0:Int)∈s∧c=0)∨((∀ x∈s,1≤x∧x≤2048)∧Bg s 1=c∧c≠0)):=by
 unfold Ay at h
 split at h
 · cases h
 split at h
 · cases h
 split at h
 · cases h
 · rename_i h1 h2 h3
   refine ⟨by omega,?_⟩
   split at h
   · rename_i h4
     obtain ⟨x,hx,h5⟩:=List.any_eq_true.1 h4
     have:x=0:=by simpa using h5
     subst this
     exact .inl ⟨hx,by injection h with h;exact h.symm⟩
   · rename_i h4
     split at h
     · cases h
     · rename_i h5
       injection h with h
       exact .inr ⟨X5 h2 h3 h4,h,by omega⟩
theorem AdC{s at_:List Int}{c k:Int}(hc:Ay s=(c,0))(h:Sl s at_=some k):0≤k∧k<c:=by
 unfold Sl at h
 split at h
 · rcases (Fq hc).2 with ⟨h0,_⟩ | ⟨h1,h2,h3⟩
   · rw[YE h0]at h;cases h
   · rw[← h2]
     exact AdD h1 (by omega) (by omega) (by omega) (by rw[h2];exact h3) h
 · cases h
theorem OM{k:Nat}(h:k≤9223372036854775807):IntKind.wrap .i64 ((k:Int)-1)=(k:Int)-1:=Ap (by omega) (by omega)
theorem L9{l:List Int}{k:Nat}{x:Int}(h:l[k]? = some x):l.take (k+1)=l.take k++[x]:=by
 rw[List.take_add_one,h];rfl
theorem Gp{l:List Int}{i:Nat}(h:i<l.length):(l.map D.int).getD i D.nil=D.int (l.getD i 0):=by
 rw[Aj (List.getElem?_eq_getElem h),List.getD_eq_getElem?_getD,List.getElem?_eq_getElem h];rfl
def atD(s:List Int)(n:Int):List D:=if (Ay s).2=0∧0≤n∧n<(Ay s).1 then [dI (KP s n),.bool true] else [.sl [],.bool false]
theorem AcU(out:List Int)(k:Nat)(v:Int)(h:k<out.length):(out.set k v).drop k=v::out.drop (k+1):=by
 rw[List.drop_eq_getElem_cons (by simpa using h)]
 simp[List.drop_set]
theorem LO(s:List Int)(n:Int):Sp 175 [dI s,.int n] (atD s n):=by
 refine Ag (s.length+1) (Aa6 _ _ _) (Aa (Gu s) ?_)
 unfold atD
 simp only[As]
 refine Ad (fun h=>Ac (by rw[if_neg (fun hh=>h hh.1)])) (fun h=>Ad (fun h1=>Ac (by rw[if_neg (by omega)])) (fun h1=>Ad (fun h2=>Ac (by rw[if_neg (by omega)])) (fun h2=> ?_)))
 have hc0:(Ay s).2=0:=Classical.not_not.1 h
 rw[if_pos ⟨hc0,by omega,by omega⟩]
 obtain ⟨c1,c2⟩:=Fq (s:=s) (c:=(Ay s).1) (by rw[← hc0])
 have hpos : ∀ x∈s,1≤x∧x≤2048:=by
  rcases c2 with ⟨_,c2⟩ | ⟨c2,_⟩
  · omega
  · exact c2
 have hle:=(Fj s).2
 refine Ae (Ae (At (by simp only[Ar];omega) ?_))
 have key:=G0 (P:=Tryz.prog) (md:=md) (fun m k (st:Int×List Int)=>Tq (s.length+1) m (dI s) st.1 (st.2.map D.int) ((k:Int)-1)) (fun k st=>[dI ((MI (s.take k).reverse st.1).reverse++st.2.drop k),.bool true]) (fun k st=>k≤s.length∧st.2.length=s.length∧0≤st.1∧st.1≤2048)
  (fun m st hI=>by
   simp only[Xp]
   refine Am (by omega) (Ac ?_)
   simp[MI,dI])
  (fun m k st hI ih=>by
   obtain ⟨i1,i2,i3,i4⟩:=hI
   have hg:s[k]? = some s[k]:=List.getElem?_eq_getElem (by omega)
   have hx:=hpos _ (List.mem_of_getElem? hg)
   generalize s[k]=x at hg hx
   have e:((k+1:Nat):Int)-1=(k:Int):=by omega
   have m1:0≤Int.tdiv st.1 x:=Int.tdiv_nonneg i3 (by omega)
   have m2:Int.tdiv st.1 x≤st.1:=by rw[Int.tdiv_eq_ediv_of_nonneg i3];exact Int.ediv_le_self _ i3
   simp only[Xp,As,e,Aj hg]
   have hb:(!decide (x=0))=true:=by simp;omega
   rw[OM (by omega),Ap (x:=Int.tdiv st.1 x) (by omega) (by omega)]
   refine Ae (Ae (Ae (Ae (Ae (Ae (Ae (Ae (Ae ?_))))))))
   have:=ih (Int.tdiv st.1 x,st.2.set k (Int.tmod st.1 x)) ⟨by omega,by simpa using i2,m1,by omega⟩
   rw[List.map_set]at this
   refine Tree.wp_mono this (fun ys hy=>hy.trans ?_)
   simp only
   rw[AcU _ _ _ (by omega),L9 hg,List.reverse_append,List.reverse_cons,List.reverse_nil,List.nil_append,List.singleton_append,MI,List.reverse_cons]
   simp)
  (s.length+1) s.length (n,List.replicate s.length 0) (by omega) ⟨by omega,by simp,by omega,by omega⟩
 rw[OM (by omega)]
 have e2:List.replicate s.length (D.int 0)=(List.replicate s.length (0:Int)).map D.int:=by simp
 rw[e2]
 refine Tree.wp_mono key (fun ys hy=>hy.trans ?_)
 simp[KP]
def PI(o:Option Int):List D:=match o with | some k=>[.int k,.bool true] | none=>[.int 0,.bool false]
theorem AA(s at_:List Int)(hl:at_.length≤1000000):Sp 176 [dI s,dI at_] (PI (Sl s at_)):=by
 refine Ag (s.length+1) (OE _ _ _) (Aa (Gu s) ?_)
 unfold Sl
 simp only[As]
 refine Ad (fun h=>Ac (by rw[if_neg (fun hh=>h hh.1)];rfl)) (fun h=>Ad (fun h1=>Ac (by rw[if_neg (by omega)];rfl)) (fun h1=> ?_))
 rw[if_pos ⟨Classical.not_not.1 h,by omega⟩]
 have key:=A7 (P:=Tryz.prog) (md:=md) s (fun m k (o:Int)=>Nl (s.length+1) m (dI at_) o (dI s) (s.length:Int) (k:Int)) (fun rest o=>PI (Yx rest (at_.drop (s.length-rest.length)) o)) (fun _ _=>True)
  (fun m k o hk _=>by
   simp only[Sa]
   exact Am (by omega) (Ac rfl))
  (fun m k o x rest hdr _ ih=>by
   obtain ⟨h4,h2,h3⟩:=Az hdr
   have hle:=congrArg List.length hdr
   rw[List.length_drop,List.length_cons]at hle
   have hg:at_[k]? = some at_[k]:=List.getElem?_eq_getElem (by omega)
   have hd:at_.drop k=at_[k]::at_.drop (k+1):=List.drop_eq_getElem_cons (by omega)
   generalize at_[k]=a at hg hd
   rw[show s.length-(x::rest).length=k by rw[List.length_cons];omega,hd]
   have ih':=fun o'=>ih o' trivial
   rw[show s.length-rest.length=k+1 by omega]at ih'
   simp only[Sa,As,Aj h2,Aj hg,An (show k<9223372036854775807 by omega),Yx]
   refine Ae (Ae (Ae (Ae (Ae (Ad (fun g=>Ac (by rw[if_pos (.inl g)];rfl)) (fun g=>Ae (Ae (Ad (fun g2=>Ac (by rw[if_pos (.inr g2)];rfl)) (fun g2=>Ae (Ae ?_))))))))))
   rw[if_neg (by omega)]
   exact ih' _)
  (s.length+1) 0 0 (by omega) (by omega) trivial
 simpa using key
def I8(k:Int):Int:=if 2049<k then 2049 else if k < -2049 then 2049 else if k<0-k then 0-k else k
theorem YB(k:Int):0≤I8 k∧I8 k≤2049:=by
 unfold I8;split;· omega
 split;· omega
 split <;> omega
def Dl(n a:Arr):List Int×List Int×Int :=
 if (Bc n).2=0 then (if 0<a.shape.length then (if a.shape.length<(Bc n).1.length then ([],[],4) else ((Bc n).1,a.shape,0)) else if 6<(Bc n).1.length then ([],[],7) else ((Bc n).1,List.replicate (Bc n).1.length 1,0)) else ([],[],(Bc n).2)
def S_:List Int→List Int→List Int
 | k::l,x::s=>(if k<0 then x-I8 k else 0)::S_ l s
 | _,s=>List.replicate s.length 0
def Tu:List Int→List Int→List Int
 | k::l,_::s=>I8 k::Tu l s
 | _,s=>s
def BK(k x:Int):Int:=if x<I8 k then x else I8 k
def S9:List Int→List Int→List Int
 | k::l,x::s=>(if 0<k then BK k x else 0)::S9 l s
 | _,s=>List.replicate s.length 0
def Tt:List Int→List Int→List Int
 | k::l,x::s=>(x-BK k x)::Tt l s
 | _,s=>s
theorem XZ : ∀ l s,(S_ l s).length=s.length
 | k::l,x::s=>by simp[S_,XZ l s]
 | [],s=>by simp[S_]
 | k::l,[]=>by simp[S_]
theorem GY : ∀ l s,(Tu l s).length=s.length
 | k::l,x::s=>by simp[Tu,GY l s]
 | [],s=>by simp[Tu]
 | k::l,[]=>by simp[Tu]
theorem XY : ∀ l s,(S9 l s).length=s.length
 | k::l,x::s=>by simp[S9,XY l s]
 | [],s=>by simp[S9]
 | k::l,[]=>by simp[S9]
theorem GX : ∀ l s,(Tt l s).length=s.length
 | k::l,x::s=>by simp[Tt,GX l s]
 | [],s=>by simp[Tt]
 | k::l,[]=>by simp[Tt]
def Va:List Int→List Int→List Int
 | a::as_,f::fs=>IntKind.wrap .i64 (a+f)::Va as_ fs
 | _,_=>[]
theorem AaR : ∀ a f,a.length≤f.length→(Va a f).length=a.length
 | a::as_,f::fs,h=>by simp[Va,AaR as_ fs (by simpa using h)]
 | [],f,h=>by simp[Va]
 | a::as_,[],h=>by simp at h
def Afl(cs:List Cell)(fill:Cell)(s from_ size:List Int)(i:Nat):Cell:=match Sl s (Va (KP size (i:Int)) from_) with
 | some k=>cs.getD k.toNat fill
 | none=>fill
def Tp(a:Arr)(s from_ size:List Int)(K:Nat):List Cell:=(List.range K).map (Afl a.cells (Eg a) s from_ size)
def AP(n a:Arr)(s from_ size:List Int):Arr×Int:=if (Ay size).2=0 then (.mk (a.s|||Bq n) size (Tp a s from_ size (Ay size).1.toNat),0) else (.none,(Ay size).2)
def AaK(n a:Arr):Arr×Int:=if (Dl n a).2.2=0 then AP n a (Dl n a).2.1 (S_ (Dl n a).1 (Dl n a).2.1) (Tu (Dl n a).1 (Dl n a).2.1) else (.none,(Dl n a).2.2)
def AaA(n a:Arr):Arr×Int:=if (Dl n a).2.2=0 then AP n a (Dl n a).2.1 (S9 (Dl n a).1 (Dl n a).2.1) (Tt (Dl n a).1 (Dl n a).2.1) else (.none,(Dl n a).2.2)
theorem XW{n a:Arr}(h:(Dl n a).2.2=0)(ha:a.shape.length≤6):(Dl n a).1.length≤(Dl n a).2.1.length∧(Dl n a).2.1.length≤6:=by
 unfold Dl at h ⊢
 split at h
 · rename_i h1
   rw[if_pos h1]
   split at h
   · rename_i h2
     rw[if_pos h2]
     split at h
     · cases h
     · rename_i h3;rw[if_neg h3];simp only;omega
   · rename_i h2
     rw[if_neg h2]
     split at h
     · cases h
     · rename_i h3;rw[if_neg h3];simp only[List.length_replicate];omega
 · rename_i h1;exact absurd h h1
theorem AcN : ∀ k:Nat,k≤6→Ay (List.replicate k 1)=(1,0):=by decide
theorem KQ{n a:Arr}(h:(Dl n a).2.2=0)(ha:Ay a.shape=((a.cells.length:Int),0)):Ay (Dl n a).2.1=((a.cells.length:Int),0):=by
 unfold Dl at h ⊢
 split at h
 · rename_i h1
   rw[if_pos h1]
   split at h
   · rename_i h2
     rw[if_pos h2]
     split at h
     · cases h
     · rename_i h3;rw[if_neg h3];exact ha
   · rename_i h2
     rw[if_neg h2]
     split at h
     · cases h
     · rename_i h3
       rw[if_neg h3]
       simp only
       rw[AcN _ (by omega)]
       have:a.shape = []:=List.length_eq_zero_iff.1 (by omega)
       rw[this]at ha
       have e:Ay []=(1,0):=by decide
       rw[e]at ha
       exact ha
 · rename_i h1;exact absurd h h1
theorem EC(k:Int):Sp 100 [.int k] [.int (I8 k)]:=by
 refine Ag 0 (TX _ _) ?_
 unfold I8
 simp only[As]
 refine Ad (fun h=>Ac (by rw[if_pos h])) (fun h=>Ad (fun h1=>Ac (by rw[if_neg h,if_pos h1])) (fun h1=>Ac ?_))
 rw[if_neg h,if_neg h1]
 have e:IntKind.wrap .i64 (0-k)=0-k:=Ap (by omega) (by omega)
 simp only[Ah,e]
theorem KT(n a:Arr)(hn:Fits n)(hnl:n.cells.length≤2048)(hnt : ∀ c∈n.cells,c.n.top.length≤32)(ha:a.shape.length≤1048576):Sp 98 [dA n,dA a] [dI (Dl n a).1,dI (Dl n a).2.1,.int (Dl n a).2.2]:=by
 refine Ag 0 (ZS _ _ _) (Aa (Fr n hnl hnt) ?_)
 unfold Dl
 simp only[As]
 refine Ad (fun h=>Ac (by rw[if_neg h];rfl)) (fun h=> ?_)
 rw[if_pos (Classical.not_not.1 h)]
 refine Ad (fun h1=> ?_) (fun h1=> ?_)
 · rw[if_pos (by omega)]
   refine Ad (fun h2=>Ac (by rw[if_pos (by omega)];rfl)) (fun h2=> ?_)
   rw[if_neg (by omega)]
   exact Aa (Gx a.shape ha) (Ac rfl)
 · rw[if_neg (by omega)]
   refine Ad (fun h2=>Ac (by rw[if_pos (by omega)];rfl)) (fun h2=> ?_)
   rw[if_neg (by omega)]
   exact Aa (ZB (Bc n).1.length 1 (by omega) (Dv (by decide) (by decide))) (Ac rfl)
theorem KU(s:List Int)(h:s.length≤1048576):Sp 99 [dI s] [.agg [dI (List.replicate s.length 0),dI s]]:=by
 refine Ag 0 (ZT _ _) ?_
 simp only[As]
 refine Ae (Ae (At (by simp only[Ar];omega) (Aa (Gx s h) (Ac ?_))))
 simp[dI]
theorem AcS(n a:Arr)(s:List Int)(cs:List Cell)(hn:Fits n):Sp 101 [dA n,dA a,dI s,.sl (cs.map dC)] [dA (.mk (a.s|||Bq n) s cs)]:=by
 refine Ag 0 (ZU _ _ _ _ _) (Aa (Cb n hn) ?_)
 simp only[As]
 refine Aa (Dc a.s (Bq n)) (Ac ?_)
 simp only[As]
 rw[Fz];rfl
theorem Aes(pre:List Int)(x f:Int)(rest frest:List Int):pre++Va (x::rest) (f::frest)=(pre++[IntKind.wrap .i64 (x+f)])++Va rest frest:=by simp[Va]
theorem AcR(a:Arr)(s from_ size:List Int)(ha:Ay s=((a.cells.length:Int),0))(hl:from_.length=size.length)(hs:size.length≤1000)(hc:(Ay size).2=0):Sp 102 [.agg [dI from_,dI size],dA a,dI s,.int (Ay size).1] [.sl ((Tp a s from_ size (Ay size).1.toNat).map dC)]:=by
 have hk:=Fj size
 generalize hK:(Ay size).1=kz at *
 obtain ⟨K,rfl⟩ : ∃ K:Nat,kz=(K:Int):=⟨kz.toNat,by omega⟩
 refine Ag 2049 (AQ _ _ _ _ _) (Aa (Og a) ?_)
 simp only[As]
 refine Ae (Ae (At (by simp only[Ar];omega) ?_))
 have key:=C4 (P:=Tryz.prog) (md:=md) K (fun m k (out:List Cell)=>D7 2049 m (dI s) (out.map dC) (K:Int) (k:Int) (.agg [dI from_,dI size]) (dA a) (dC (Eg a))) (fun _ _=>[.sl ((Tp a s from_ size K).map dC)]) (fun k out=>out=Tp a s from_ size k)
  (fun m out hI=>by
   simp only[Np]
   exact Am (by omega) (Ac (by rw[hI])))
  (fun m k out hkK hI ih=>by
   have hol:out.length=k:=by rw[hI];simp[Tp]
   have hat:atD size (k:Int) = [dI (KP size (k:Int)),.bool true]:=by unfold atD;rw[if_pos ⟨hc,by omega,by rw[hK];omega⟩]
   have hsp:=LO size (k:Int)
   rw[hat]at hsp
   simp only[Np,Ks,Kt]
   refine Ae (Aa hsp ?_)
   simp only[As,Wd]
   have fin : ∀ at2:List Int,at2=Va (KP size (k:Int)) from_→Tw (.call 176 [] [dI s,dI at2] fun yy3 =>
     .br ((yy3.getD 1 D.nil).toBool) (.br (decide (0≤(yy3.getD 0 D.nil).toInt)) (.br (decide ((yy3.getD 0 D.nil).toInt<((((dA a).fld 2).els).length:Int))) (.br (decide ((out.map dC).length + [(((dA a).fld 2).els).getD (Int.toNat ((yy3.getD 0 D.nil).toInt)) D.nil].length≤Ar)) (D7 2049 m (dI s) ((out.map dC)++[(((dA a).fld 2).els).getD (Int.toNat ((yy3.getD 0 D.nil).toInt)) D.nil]) (K:Int) (IntKind.wrap .i64 ((k:Int)+1)) (.agg [dI from_,dI size]) (dA a) (dC (Eg a))) .fail) .fail) .fail)
       (.br (decide ((out.map dC).length + [dC (Eg a)].length≤Ar)) (D7 2049 m (dI s) ((out.map dC)++[dC (Eg a)]) (K:Int) (IntKind.wrap .i64 ((k:Int)+1)) (.agg [dI from_,dI size]) (dA a) (dC (Eg a))) .fail)) [.sl ((Tp a s from_ size K).map dC)]:=by
    intro at2 hat2
    have hlen2:at2.length≤1000000:=by rw[hat2,AaR _ _ (by rw[Wd];omega),Wd];omega
    refine Aa (AA s at2 hlen2) ?_
    have nxt : ∀ c:Cell,c=Afl a.cells (Eg a) s from_ size k→Tw (D7 2049 m (dI s) ((out.map dC)++[dC c]) (K:Int) ((k+1:Nat):Int) (.agg [dI from_,dI size]) (dA a) (dC (Eg a))) [.sl ((Tp a s from_ size K).map dC)]:=by
     intro c hcc
     have:=ih (out++[c]) (by rw[hI,hcc];simp[Tp,List.range_succ])
     rw[List.map_append]at this
     exact this
    rw[An (show k<9223372036854775807 by omega)]
    have hsc:Afl a.cells (Eg a) s from_ size k=match Sl s at2 with | some k=>a.cells.getD k.toNat (Eg a) | none=>Eg a:=by rw[hat2];rfl
    cases hi:Sl s at2 with
    | none =>
     rw[hi]at hsc
     simp only[PI,As]
     exact Cs rfl (At (by simp only[List.length_cons,List.length_nil,Ar];omega) (nxt _ hsc.symm))
    | some j =>
     have hj:=AdC ha hi
     obtain ⟨J,rfl⟩ : ∃ J:Nat,j=(J:Int):=⟨j.toNat,by omega⟩
     rw[hi]at hsc
     simp only[PI,As]
     have hcj:(a.cells.map dC).getD J D.nil=dC (a.cells.getD J (Eg a)):=by
       rw[Aj (List.getElem?_eq_getElem (by omega)),List.getD_eq_getElem?_getD,List.getElem?_eq_getElem (by omega)];rfl
     rw[hcj]
     exact Ba rfl (Ae (Ae (At (by simp only[List.length_cons,List.length_nil,Ar];omega) (nxt _ (by rw[hsc];rfl)))))
   have inner:=C4 (P:=Tryz.prog) (md:=md) size.length (fun m' j (at2:List Int)=>I7 2049 m m' (dI s) (out.map dC) (at2.map D.int) (K:Int) (k:Int) (size.length:Int) (j:Int) (.agg [dI from_,dI size]) (dA a) (dC (Eg a))) (fun _ _=>[.sl ((Tp a s from_ size K).map dC)])
    (fun j at2=>at2.length=size.length∧at2.take j++Va (at2.drop j) (from_.drop j)=Va (KP size (k:Int)) from_)
    (fun m' at2 hI'=>by
     simp only[Nq]
     refine Am (by omega) (fin at2 ?_)
     rw[← hI'.2,List.take_of_length_le (by omega),List.drop_of_length_le (by omega)]
     simp[Va])
    (fun m' j at2 hj hI' ih'=>by
     have h1:at2[j]? = some at2[j]:=List.getElem?_eq_getElem (by omega)
     have h2:from_[j]? = some from_[j]:=List.getElem?_eq_getElem (by omega)
     simp only[Nq,As,Ks,Aj h1,Aj h2,An (show j<9223372036854775807 by omega)]
     refine Ae (Ae (Ae (Ae (Ae (Ae (Ae ?_))))))
     have:=ih' (at2.set j (IntKind.wrap .i64 (at2[j]+from_[j]))) ⟨by simpa using hI'.1,?_⟩
     · rw[List.map_set]at this
       exact this
     · have e1:at2.drop j=at2[j]::at2.drop (j+1):=List.drop_eq_getElem_cons (by omega)
       have e2:from_.drop j=from_[j]::from_.drop (j+1):=List.drop_eq_getElem_cons (by omega)
       have h3:=hI'.2
       rw[e1,e2,Aes]at h3
       rw[← h3,List.drop_set_of_lt (by omega),List.take_set,L9 h1]
       congr 1
       rw[List.set_append_right _ _ (by simp;omega)]
       simp[Nat.min_eq_left (show j≤at2.length by omega)])
    2049 0 (KP size (k:Int)) (by omega) (by omega) ⟨Wd _ _,by simp⟩
   exact inner)
  2049 0 [] (by omega) (by omega) (by simp[Tp])
 exact key
theorem OC{α:Type}(pre:List α)(a b:α)(r:List α):(pre++a::r).set pre.length b=pre++b::r:=by
 rw[List.set_append_right _ _ (Nat.le_refl _),Nat.sub_self];rfl
theorem MQ{α:Type}(pre:List α)(a:α)(r:List α):(pre++a::r)[pre.length]? = some a:=by
 rw[List.getElem?_append_right (Nat.le_refl _),Nat.sub_self];rfl
theorem Ad5(n a:Arr)(s from_ size:List Int)(hn:Fits n)(ha:Ay s=((a.cells.length:Int),0))(hl:from_.length=size.length)(hs:size.length≤1000) :
  Tw (.call 81 [] [D.sl (size.map D.int)] fun yy4 =>
   .br (((yy4.getD 1 D.nil).toInt)!=0) (.ret [D.agg [D.int 0,D.sl [],D.sl []],D.int ((yy4.getD 1 D.nil).toInt)])
   (.call 102 [] [D.agg [D.sl (from_.map D.int),D.sl (size.map D.int)],dA a,dI s,D.int ((yy4.getD 0 D.nil).toInt)] fun yy5 =>
   .call 101 [] [dA n,dA a,D.sl (size.map D.int),yy5.getD 0 D.nil] fun yy6 =>
   .ret [yy6.getD 0 D.nil,D.int 0])) [dA (AP n a s from_ size).1,.int (AP n a s from_ size).2]:=by
 refine Aa (Gu size) ?_
 unfold AP
 simp only[As,Cr]
 refine Ad (fun h=>Ac (by rw[if_neg h])) (fun h=> ?_)
 have h0:(Ay size).2=0:=Classical.not_not.1 h
 rw[if_pos h0]
 refine Aa (AcR a s from_ size ha hl hs h0) ?_
 exact Aa (AcS n a size _ hn) (Ac rfl)
structure WinI (F G:List Int→List Int→List Int) (l s:List Int) (rest w0 w1:List Int):Prop where
 h : ∃ spre pre0 pre1 srest,s=spre++srest∧spre.length=pre0.length∧pre1.length=pre0.length∧pre0.length+rest.length=l.length∧rest.length≤srest.length∧w0=pre0++List.replicate srest.length 0∧w1=pre1++srest∧F l s=pre0++F rest srest∧G l s=pre1++G rest srest
theorem WinI.start {F G:List Int→List Int→List Int} {l s:List Int} (h:l.length≤s.length):WinI F G l s l (List.replicate s.length 0) s :=
 ⟨[],[],[],s,rfl,rfl,rfl,by simp,h,rfl,rfl,rfl,rfl⟩
theorem WinI.stop {F G:List Int→List Int→List Int} {l s w0 w1:List Int} (h:WinI F G l s [] w0 w1) (hF : ∀ x,F [] x=List.replicate x.length 0) (hG : ∀ x,G [] x=x):w0=F l s∧w1=G l s:=by
 obtain ⟨spre,pre0,pre1,srest,h1,h2,h3,h4,h5,h6,h7,h8,h9⟩:=h.h
 rw[h8,h9,hF,hG,h6,h7];exact ⟨rfl,rfl⟩
theorem WinI.next {F G:List Int→List Int→List Int} {l s w0 w1 rest:List Int} {x:Int} {k:Nat} (h:WinI F G l s (x::rest) w0 w1) (hk:l.drop k=x::rest) {f g:Int→Int→Int} (hF : ∀ x l y s,F (x::l) (y::s)=f x y::F l s) (hG : ∀ x l y s,G (x::l) (y::s)=g x y::G l s) :
  ∃ y,s[k]? = some y∧w1[k]? = some y∧w0[k]? = some 0∧w0.length=w1.length∧k<w1.length∧w1.length=s.length∧WinI F G l s rest (w0.set k (f x y)) (w1.set k (g x y))∧(f x y=0→w0.set k (f x y)=w0):=by
 obtain ⟨spre,pre0,pre1,srest,h1,h2,h3,h4,h5,h6,h7,h8,h9⟩:=h.h
 match srest,h5 with
 | y::srest,h5 =>
  have hle:=congrArg List.length hk
  rw[List.length_drop,List.length_cons]at hle
  rw[List.length_cons]at h4
  have e0:k=pre0.length:=by omega
  have e1:k=pre1.length:=by omega
  have e2:k=spre.length:=by omega
  have hz:w0=pre0++0::List.replicate srest.length 0:=by rw[h6,List.length_cons,List.replicate_succ]
  refine ⟨y,by rw[h1,e2];exact MQ _ _ _,by rw[h7,e1];exact MQ _ _ _,by rw[hz,e0];exact MQ _ _ _,by rw[h6,h7];simp;omega,by rw[h7];simp;omega,by rw[h1,h7];simp;omega,⟨spre++[y],pre0++[f x y],pre1++[g x y],srest,by rw[h1];simp,by simp[h2],by simp[h3],by simp;omega,by simpa using h5,?_,?_,by rw[h8,hF];simp,by rw[h9,hG];simp⟩,fun h0=>by rw[h0,hz,e0,OC]⟩
  · rw[hz,e0,OC];simp
  · rw[h7,e1,OC];simp
theorem AcQ(n a:Arr)(hn:Fits n)(hnl:n.cells.length≤2048)(hnt : ∀ c∈n.cells,c.n.top.length≤32)(ha:Ay a.shape=((a.cells.length:Int),0)):Sp 39 [dA n,dA a] [dA (AaK n a).1,.int (AaK n a).2]:=by
 have hsh:=E8 (l:=a.shape) (by rw[ha])
 have hax:=XW (n:=n) (a:=a)
 have hac:=KQ (n:=n) (a:=a)
 refine Ag 4096 (ZR _ _ _) (Aa (KT n a hn hnl hnt (by omega)) ?_)
 have hll:(Dl n a).2.2=0→(Dl n a).1.length≤(Dl n a).2.1.length∧(Dl n a).2.1.length≤6:=fun h=>hax h hsh.1
 unfold AaK
 generalize Dl n a=ax at *
 obtain ⟨l,s,e⟩:=ax
 simp only[As,IU,Cr]
 refine Ad (fun h=>Ac (by rw[if_neg h])) (fun h=> ?_)
 have he:e=0:=Classical.not_not.1 h
 subst he
 rw[if_pos rfl]
 obtain ⟨l1,l2⟩:=hll rfl
 have hcs:=hac rfl ha
 simp only at l1 l2 hcs
 have hsl:=E8 (l:=s) (by rw[hcs])
 refine Aa (KU s (by omega)) ?_
 simp only[As,Ks,Kt]
 have key:=A7 (P:=Tryz.prog) (md:=md) l (fun m k (w:List Int×List Int)=>N6 4096 m (dI s) (dI l) (l.length:Int) (k:Int) (dA n) (dA a) 0 0 (w.1.map D.int) (w.2.map D.int)) (fun _ _=>[dA (AP n a s (S_ l s) (Tu l s)).1,.int (AP n a s (S_ l s) (Tu l s)).2]) (fun rest w=>WinI S_ Tu l s rest w.1 w.2)
  (fun m k w hk hI=>by
   obtain ⟨e1,e2⟩:=hI.stop (fun x=>by simp[S_]) (fun x=>by simp[Tu])
   simp only[Wx]
   rw[e1,e2]
   exact Am (by omega) (Ad5 n a s _ _ hn hcs (by rw[XZ,GY]) (by rw[GY];omega)))
  (fun m k w x rest hdr hI ih=>by
   obtain ⟨h1,h2,h3⟩:=Az hdr
   obtain ⟨y,g1,g2,g3,g4,g5,g6,g7,g8⟩:=hI.next hdr (f:=fun x y=>if x<0 then y-I8 x else 0) (g:=fun x _=>I8 x) (fun _ _ _ _=>rfl) (fun _ _ _ _=>rfl)
   have hy:=hsl.2 y (List.mem_of_getElem? g1)
   have hg:=YB x
   have hih:=ih (_,_) g7
   simp only[List.map_set]at hih
   have hgs:((w.2.map D.int).set k (D.int (I8 x))).getD k D.nil=D.int (I8 x):=by
     rw[List.getD_eq_getElem?_getD,List.getElem?_set_self (by simpa using g5)];rfl
   simp only[Wx,As,Aj h2,Aj g1,An (show k<9223372036854775807 by omega),List.length_set]
   refine Ae (Ae (Ae (Aa (EC x) ?_)))
   simp only[As]
   rw[hgs]
   simp only[Ah]
   refine Ae (Ae (Ad (fun hx=> ?_) (fun hx=> ?_)))
   · refine Ae (Ae (Ae (Ae (Ae (Ae ?_)))))
     rw[Ap (x:=y-I8 x) (by omega) (by omega)]
     rw[if_pos hx]at hih
     exact hih
   · rw[if_neg hx]at hih g8
     have e0:(w.1.map D.int).set k (D.int 0)=w.1.map D.int:=by rw[← List.map_set,g8 rfl]
     rw[e0]at hih
     exact hih)
  4096 0 (List.replicate s.length 0,s) (by omega) (by omega) (WinI.start l1)
 exact key
theorem AcP(n a:Arr)(hn:Fits n)(hnl:n.cells.length≤2048)(hnt : ∀ c∈n.cells,c.n.top.length≤32)(ha:Ay a.shape=((a.cells.length:Int),0)):Sp 40 [dA n,dA a] [dA (AaA n a).1,.int (AaA n a).2]:=by
 have hsh:=E8 (l:=a.shape) (by rw[ha])
 have hax:=XW (n:=n) (a:=a)
 have hac:=KQ (n:=n) (a:=a)
 refine Ag 4096 (ZQ _ _ _) (Aa (KT n a hn hnl hnt (by omega)) ?_)
 have hll:(Dl n a).2.2=0→(Dl n a).1.length≤(Dl n a).2.1.length∧(Dl n a).2.1.length≤6:=fun h=>hax h hsh.1
 unfold AaA
 generalize Dl n a=ax at *
 obtain ⟨l,s,e⟩:=ax
 simp only[As,IU,Cr]
 refine Ad (fun h=>Ac (by rw[if_neg h])) (fun h=> ?_)
 have he:e=0:=Classical.not_not.1 h
 subst he
 rw[if_pos rfl]
 obtain ⟨l1,l2⟩:=hll rfl
 have hcs:=hac rfl ha
 simp only at l1 l2 hcs
 have hsl:=E8 (l:=s) (by rw[hcs])
 refine Aa (KU s (by omega)) ?_
 simp only[As,Ks,Kt]
 have key:=A7 (P:=Tryz.prog) (md:=md) l (fun m k (w:List Int×List Int)=>N5 4096 m (dI s) (dI l) (l.length:Int) (k:Int) (dA n) (dA a) 0 0 (w.1.map D.int) (w.2.map D.int)) (fun _ _=>[dA (AP n a s (S9 l s) (Tt l s)).1,.int (AP n a s (S9 l s) (Tt l s)).2]) (fun rest w=>WinI S9 Tt l s rest w.1 w.2)
  (fun m k w hk hI=>by
   obtain ⟨e1,e2⟩:=hI.stop (fun x=>by simp[S9]) (fun x=>by simp[Tt])
   simp only[Ww]
   rw[e1,e2]
   exact Am (by omega) (Ad5 n a s _ _ hn hcs (by rw[XY,GX]) (by rw[GX];omega)))
  (fun m k w x rest hdr hI ih=>by
   obtain ⟨h1,h2,h3⟩:=Az hdr
   obtain ⟨y,g1,g2,g3,g4,g5,g6,g7,g8⟩:=hI.next hdr (f:=fun x y=>if 0<x then BK x y else 0) (g:=fun x y=>y-BK x y) (fun _ _ _ _=>rfl) (fun _ _ _ _=>rfl)
   have hy:=hsl.2 y (List.mem_of_getElem? g1)
   have hg:=YB x
   have ho:0≤BK x y∧BK x y≤2048:=by unfold BK;split <;> omega
   have hih:=ih (_,_) g7
   simp only[List.map_set]at hih
   simp only[Ww,As,Aj h2,Aj g1,An (show k<9223372036854775807 by omega),List.length_set]
   refine Ae (Ae (Ae (Aa (EC x) ?_)))
   have ew:IntKind.wrap .i64 (y-BK x y)=y-BK x y:=Ap (by omega) (by omega)
   simp only[As]
   refine Ae (Ae (Ae (Ae (Ae (Ae (Ad (fun hx=> ?_) (fun hx=> ?_)))))))
   · refine Ae (Ae ?_)
     rw[if_pos hx,← ew]at hih
     exact hih
   · rw[if_neg hx]at hih g8
     have e0:(w.1.map D.int).set k (D.int 0)=w.1.map D.int:=by rw[← List.map_set,g8 rfl]
     rw[e0,← ew]at hih
     exact hih)
  4096 0 (List.replicate s.length 0,s) (by omega) (by omega) (WinI.start l1)
 exact key
theorem ES(n:Nat)(a0 b1 first2:D):Ai Tryz.prog md [] n 36 [] [a0,b1,first2] =
 .call 86 [] [a0,b1,D.bool first2.toBool] fun yy1 =>
 .br (((yy1.getD 1 D.nil).toInt)!=0) (.ret [D.agg [D.int 0,D.sl [],D.sl []],D.int ((yy1.getD 1 D.nil).toInt)])
 (.call 87 [] [yy1.getD 0 D.nil] fun yy2 =>
 .br (((yy2.getD 1 D.nil).toInt)!=0) (.ret [D.agg [D.int 0,D.sl [],D.sl []],D.int ((yy2.getD 1 D.nil).toInt)])
 (.call 83 [] [D.int ((a0.fld 0).toInt),D.int ((b1.fld 0).toInt)] fun yy3 =>
 .call 88 [] [yy1.getD 0 D.nil,yy2.getD 0 D.nil] fun yy4 =>
 .ret [D.agg [D.int ((yy3.getD 0 D.nil).toInt),yy2.getD 0 D.nil,yy4.getD 0 D.nil],D.int 0])):=by kernel_rfl
theorem PN(n:Nat)(a0:D):Ai Tryz.prog md [] n 58 [] [a0] =
 .br (decide (0<(((a0.fld 1).els).length:Int))) (.call 140 [] [a0.fld 1,D.int 0] fun yy1 =>
 .br (decide (((a0.fld 2).els).length≤Ar)) (.ret [D.agg [D.int ((a0.fld 0).toInt),D.sl [D.int ((yy1.getD 1 D.nil).toInt),D.int ((yy1.getD 2 D.nil).toInt)],D.sl ((a0.fld 2).els)]]) .fail)
 (.br (decide (((a0.fld 2).els).length≤Ar)) (.ret [D.agg [D.int ((a0.fld 0).toInt),D.sl [D.int 1,D.int 1],D.sl ((a0.fld 2).els)]]) .fail):=by kernel_rfl
theorem ZZ(n:Nat)(a0 b1 first2:D):Ai Tryz.prog md [] n 86 [] [a0,b1,first2] =
 .br first2.toBool (.call 172 [] [a0,b1.fld 1,D.int (if (if (((a0.fld 1).els).length:Int)<(((b1.fld 1).els).length:Int) then (((b1.fld 1).els).length:Int) else (((a0.fld 1).els).length:Int))<1 then 1 else (if (((a0.fld 1).els).length:Int)<(((b1.fld 1).els).length:Int) then (((b1.fld 1).els).length:Int) else (((a0.fld 1).els).length:Int))),D.int 0] fun yy1 =>
 .br (!((yy1.getD 1 D.nil).toBool)) (.ret [D.agg [D.agg [D.sl [],D.sl [],D.bool false],D.agg [D.sl [],D.sl [],D.bool false],D.int 0],D.int 5])
 (.call 172 [] [b1,a0.fld 1,D.int (if (if (((a0.fld 1).els).length:Int)<(((b1.fld 1).els).length:Int) then (((b1.fld 1).els).length:Int) else (((a0.fld 1).els).length:Int))<1 then 1 else (if (((a0.fld 1).els).length:Int)<(((b1.fld 1).els).length:Int) then (((b1.fld 1).els).length:Int) else (((a0.fld 1).els).length:Int))),D.int 0] fun yy2 =>
 .br (!((yy2.getD 1 D.nil).toBool)) (.ret [D.agg [D.agg [D.sl [],D.sl [],D.bool false],D.agg [D.sl [],D.sl [],D.bool false],D.int 0],D.int 5])
 (.ret [D.agg [yy1.getD 0 D.nil,yy2.getD 0 D.nil,D.int 0],D.int 0])))
 (.call 172 [] [a0,b1.fld 1,D.int (if (if (((a0.fld 1).els).length:Int)<(((b1.fld 1).els).length:Int) then (((b1.fld 1).els).length:Int) else (((a0.fld 1).els).length:Int))<1 then 1 else (if (((a0.fld 1).els).length:Int)<(((b1.fld 1).els).length:Int) then (((b1.fld 1).els).length:Int) else (((a0.fld 1).els).length:Int))),D.int (IntKind.wrap .i64 ((if (if (((a0.fld 1).els).length:Int)<(((b1.fld 1).els).length:Int) then (((b1.fld 1).els).length:Int) else (((a0.fld 1).els).length:Int))<1 then 1 else (if (((a0.fld 1).els).length:Int)<(((b1.fld 1).els).length:Int) then (((b1.fld 1).els).length:Int) else (((a0.fld 1).els).length:Int)))-1))] fun yy3 =>
 .br (!((yy3.getD 1 D.nil).toBool)) (.ret [D.agg [D.agg [D.sl [],D.sl [],D.bool false],D.agg [D.sl [],D.sl [],D.bool false],D.int 0],D.int 5])
 (.call 172 [] [b1,a0.fld 1,D.int (if (if (((a0.fld 1).els).length:Int)<(((b1.fld 1).els).length:Int) then (((b1.fld 1).els).length:Int) else (((a0.fld 1).els).length:Int))<1 then 1 else (if (((a0.fld 1).els).length:Int)<(((b1.fld 1).els).length:Int) then (((b1.fld 1).els).length:Int) else (((a0.fld 1).els).length:Int))),D.int (IntKind.wrap .i64 ((if (if (((a0.fld 1).els).length:Int)<(((b1.fld 1).els).length:Int) then (((b1.fld 1).els).length:Int) else (((a0.fld 1).els).length:Int))<1 then 1 else (if (((a0.fld 1).els).length:Int)<(((b1.fld 1).els).length:Int) then (((b1.fld 1).els).length:Int) else (((a0.fld 1).els).length:Int)))-1))] fun yy4 =>
 .br (!((yy4.getD 1 D.nil).toBool)) (.ret [D.agg [D.agg [D.sl [],D.sl [],D.bool false],D.agg [D.sl [],D.sl [],D.bool false],D.int 0],D.int 5])
 (.ret [D.agg [yy3.getD 0 D.nil,yy4.getD 0 D.nil,D.int (IntKind.wrap .i64 ((if (if (((a0.fld 1).els).length:Int)<(((b1.fld 1).els).length:Int) then (((b1.fld 1).els).length:Int) else (((a0.fld 1).els).length:Int))<1 then 1 else (if (((a0.fld 1).els).length:Int)<(((b1.fld 1).els).length:Int) then (((b1.fld 1).els).length:Int) else (((a0.fld 1).els).length:Int)))-1))],D.int 0]))):=by kernel_rfl
def It:List (Nat×Orc):=[(2,⟨[(1,none),(12,some 23),(13,none),(14,none)],[(1,true)],[]⟩)]
noncomputable def Fv(n m2:Nat)(t12:D)(t13 t14:Int)(p1:D):Tree :=
 lA (eA It n 87 [1,0,1,0,0]) (Ao It 2) m2 ⟨(.undef:: .ptr 1 []::uA 10++(.d 23 t12:: .i .i64 t13:: .i .i64 t14::uA 52)),[(1,.var 86 (.d 86 p1) true)],[1],[],[]⟩
  (Ak 0 (Au (jA It n 87 [1,1]) (rA 87 [86] [.tmp 2,.tmp 3] [23,29])))
theorem Nu(n m2:Nat)(t12:D)(t13 t14:Int)(p1:D):Fv n (m2+1) t12 t13 t14 p1 =
 .br (decide (t14<t13)) (.br (decide (0≤t14)) (.br (decide (t14<(t12.els.length:Int))) (.br (t14 != ((p1.fld 2).toInt)) (.br (decide (0≤t14)) (.br (decide (t14<((((p1.fld 1).fld 0).els).length:Int))) (.br (((t12.els.getD (Int.toNat t14) D.nil).toInt)!=(((((p1.fld 1).fld 0).els).getD (Int.toNat t14) D.nil).toInt)) (.ret [D.sl [],D.int 4])
 (Fv n m2 t12 t13 (IntKind.wrap .i64 (t14+1)) p1)) .fail) .fail)
 (Fv n m2 t12 t13 (IntKind.wrap .i64 (t14+1)) p1)) .fail) .fail)
 (.br (decide (0≤(p1.fld 2).toInt)) (.br (decide ((p1.fld 2).toInt<((((p1.fld 0).fld 0).els).length:Int))) (.br (decide (0≤(p1.fld 2).toInt)) (.br (decide ((p1.fld 2).toInt<((((p1.fld 1).fld 0).els).length:Int))) (.call 173 [] [(p1.fld 0).fld 0,D.int ((p1.fld 2).toInt),D.int (IntKind.wrap .i64 ((((((p1.fld 0).fld 0).els).getD (Int.toNat ((p1.fld 2).toInt)) D.nil).toInt)+(((((p1.fld 1).fld 0).els).getD (Int.toNat ((p1.fld 2).toInt)) D.nil).toInt)))] fun yy1 =>
 .call 81 [] [yy1.getD 0 D.nil] fun yy2 =>
 .br (((yy2.getD 1 D.nil).toInt)!=0) (.ret [D.sl [],D.int ((yy2.getD 1 D.nil).toInt)])
 (.ret [yy1.getD 0 D.nil,D.int 0])) .fail) .fail) .fail) .fail):=by kernel_rfl
theorem BE(n:Nat)(p0:D):Ai Tryz.prog md It n 87 [] [p0] =
 Fv n n ((p0.fld 0).fld 0) ((((p0.fld 0).fld 0).els).length:Int) 0 p0:=by kernel_rfl
def Is:List (Nat×Orc):=[(5,⟨[(2,none),(9,none),(10,none),(11,none),(46,none),(47,none)],[(2,true)],[(.slot 11,1050,67)]⟩)]
noncomputable def Jb(n m5:Nat)(one9 other10:Int)(r11:List D)(t46 t47:Int)(p2:D):Tree :=
 lA (eA Is n 88 [1,1,1,1,0,1,0,0]) (Ao Is 5) m5 ⟨(.undef:: .undef:: .ptr 2 []::uA 6++(.i .i64 one9:: .i .i64 other10:: .row 1050::uA 34++(.i .i64 t46:: .i .i64 t47::uA 16))),[(2,.var 86 (.d 86 p2) true),(1050,.row 67 r11 true)],[2,1050],[],[]⟩
  (Ak 0 (Au (jA Is n 88 [1,1,1,1,1]) (rA 88 [86,23] [.tmp 4] [24])))
theorem Nt(n m5:Nat)(one9 other10:Int)(r11:List D)(t46 t47:Int)(p2:D):Jb n (m5+1) one9 other10 r11 t46 t47 p2 =
 .br (decide (t47<t46)) (.call 174 [] [p2.fld 0,D.sl r11,D.int t47,D.int one9] fun yy2 =>
 .call 174 [] [p2.fld 1,D.sl ((yy2.getD 0 D.nil).els),D.int t47,D.int other10] fun yy3 =>
 Jb n m5 one9 other10 ((yy3.getD 0 D.nil).els) t46 (IntKind.wrap .i64 (t47+1)) p2)
 (.ret [D.sl r11]):=by kernel_rfl
theorem BD(n:Nat)(p0 s1:D):Ai Tryz.prog md Is n 88 [] [p0,s1] =
 .call 140 [] [s1,D.int ((p0.fld 2).toInt)] fun yy1 =>
 .br (decide (0≤(p0.fld 2).toInt)) (.br (decide ((p0.fld 2).toInt<((((p0.fld 0).fld 0).els).length:Int))) (.br (decide (0≤(p0.fld 2).toInt)) (.br (decide ((p0.fld 2).toInt<((((p0.fld 1).fld 0).els).length:Int))) (.br (decide (0≤0)) (.br (decide (0≤IntKind.wrap .i64 (((yy1.getD 0 D.nil).toInt)*(IntKind.wrap .i64 ((IntKind.wrap .i64 ((((((p0.fld 0).fld 0).els).getD (Int.toNat ((p0.fld 2).toInt)) D.nil).toInt)*((yy1.getD 2 D.nil).toInt)))+(IntKind.wrap .i64 ((((((p0.fld 1).fld 0).els).getD (Int.toNat ((p0.fld 2).toInt)) D.nil).toInt)*((yy1.getD 2 D.nil).toInt)))))))) (.br (decide (IntKind.wrap .i64 (((yy1.getD 0 D.nil).toInt)*(IntKind.wrap .i64 ((IntKind.wrap .i64 ((((((p0.fld 0).fld 0).els).getD (Int.toNat ((p0.fld 2).toInt)) D.nil).toInt)*((yy1.getD 2 D.nil).toInt)))+(IntKind.wrap .i64 ((((((p0.fld 1).fld 0).els).getD (Int.toNat ((p0.fld 2).toInt)) D.nil).toInt)*((yy1.getD 2 D.nil).toInt))))))≤Ar)) (Jb n n (IntKind.wrap .i64 ((((((p0.fld 0).fld 0).els).getD (Int.toNat ((p0.fld 2).toInt)) D.nil).toInt)*((yy1.getD 2 D.nil).toInt))) (IntKind.wrap .i64 ((((((p0.fld 1).fld 0).els).getD (Int.toNat ((p0.fld 2).toInt)) D.nil).toInt)*((yy1.getD 2 D.nil).toInt))) (List.replicate (Int.toNat 0) (D.agg [D.int 0,D.int 0,D.agg [D.bool false,D.sl [],D.sl []],D.int 0,D.sl []])) ((yy1.getD 0 D.nil).toInt) 0 p0) .fail) .fail) .fail) .fail) .fail) .fail) .fail:=by kernel_rfl
theorem PO(n:Nat)(a0 other1:D)(axes2 axis3:D):Ai Tryz.prog md [] n 172 [] [a0,other1,axes2,axis3] =
 .br (decide (0≤0)) (.br (decide (0≤axes2.toInt)) (.br (decide (axes2.toInt≤Ar)) (.br ((((a0.fld 1).els).length:Int)==axes2.toInt) (.br (decide ((List.replicate (Int.toNat 0) (D.int 0)).length+((a0.fld 1).els).length≤Ar)) (.ret [D.agg [D.sl ((List.replicate (Int.toNat 0) (D.int 0))++((a0.fld 1).els)),a0.fld 2,D.bool false],D.bool true]) .fail)
 (.br ((((a0.fld 1).els).length:Int)==0) (.br ((other1.els.length:Int)==0) (.br (decide ((List.replicate (Int.toNat 0) (D.int 0)).length + [D.int 1].length≤Ar)) (.ret [D.agg [D.sl ((List.replicate (Int.toNat 0) (D.int 0))++[D.int 1]),a0.fld 2,D.bool true],D.bool true]) .fail)
 (.br (decide ((List.replicate (Int.toNat 0) (D.int 0)).length+other1.els.length≤Ar)) (.br (decide (0≤axis3.toInt)) (.br (decide (axis3.toInt<(((List.replicate (Int.toNat 0) (D.int 0))++other1.els).length:Int))) (.ret [D.agg [D.sl (((List.replicate (Int.toNat 0) (D.int 0))++other1.els).set (Int.toNat axis3.toInt) (D.int 1)),a0.fld 2,D.bool true],D.bool true]) .fail) .fail) .fail))
 (.br ((((a0.fld 1).els).length:Int)==(IntKind.wrap .i64 (axes2.toInt-1))) (.br (decide (0≤axis3.toInt)) (.br (decide (axis3.toInt≤(((a0.fld 1).els).length:Int))) (.br (decide ((List.replicate (Int.toNat 0) (D.int 0)).length+(((a0.fld 1).els).take (Int.toNat axis3.toInt)).length≤Ar)) (.br (decide (((List.replicate (Int.toNat 0) (D.int 0))++(((a0.fld 1).els).take (Int.toNat axis3.toInt))).length + [D.int 1].length≤Ar)) (.br (decide (0≤axis3.toInt)) (.br (decide (axis3.toInt≤(((a0.fld 1).els).length:Int))) (.br (decide ((((List.replicate (Int.toNat 0) (D.int 0))++(((a0.fld 1).els).take (Int.toNat axis3.toInt)))++[D.int 1]).length+(((a0.fld 1).els).drop (Int.toNat axis3.toInt)).length≤Ar)) (.ret [D.agg [D.sl ((((List.replicate (Int.toNat 0) (D.int 0))++(((a0.fld 1).els).take (Int.toNat axis3.toInt)))++[D.int 1])++(((a0.fld 1).els).drop (Int.toNat axis3.toInt))),a0.fld 2,D.bool false],D.bool true]) .fail) .fail) .fail) .fail) .fail) .fail) .fail)
 (.ret [D.agg [D.sl [],D.sl [],D.bool false],D.bool false])))) .fail) .fail) .fail:=by kernel_rfl
def Ja:List (Nat×Orc):=[(4,⟨[(1,none),(4,none),(25,none),(26,none)],[(4,true)],[(.slot 1,1040,67)]⟩)]
noncomputable def Jz(n m4:Nat)(r1:List D)(t25 t26:Int)(b4:D):Tree :=
 lA (eA Ja n 174 [1,1,0,1,0,0]) (Ao Ja 4) m4 ⟨(.undef:: .row 1040:: .undef:: .undef:: .ptr 4 []::uA 20++(.i .i64 t25:: .i .i64 t26::uA 10)),[(4,.var 84 (.d 84 b4) true),(1040,.row 67 r1 true)],[4,1040],[],[]⟩
  (Ak 0 (Au (jA Ja n 174 [1,1,1]) (rA 174 [84,24,3,3] [.tmp 8] [24])))
theorem N8(n m4:Nat)(r1:List D)(t25 t26:Int)(b4:D):Jz n (m4+1) r1 t25 t26 b4 =
 .br (decide (t26<t25)) (.br (decide (0≤0)) (.br (decide (0<(((b4.fld 1).els).length:Int))) (.br (decide (r1.length + [((b4.fld 1).els).getD (Int.toNat 0) D.nil].length≤Ar)) (Jz n m4 (r1++[((b4.fld 1).els).getD (Int.toNat 0) D.nil]) t25 (IntKind.wrap .i64 (t26+1)) b4) .fail) .fail) .fail)
 (.ret [D.sl r1]):=by kernel_rfl
theorem Rz(n:Nat)(b0 r1:D)(i2 nn3:D):Ai Tryz.prog md Ja n 174 [] [b0,r1,i2,nn3] =
 .br (!((b0.fld 2).toBool)) (.br (decide (0≤IntKind.wrap .i64 (i2.toInt*nn3.toInt))) (.br (decide (IntKind.wrap .i64 (i2.toInt*nn3.toInt)≤IntKind.wrap .i64 ((IntKind.wrap .i64 (i2.toInt*nn3.toInt))+nn3.toInt))) (.br (decide (IntKind.wrap .i64 ((IntKind.wrap .i64 (i2.toInt*nn3.toInt))+nn3.toInt)≤(((b0.fld 1).els).length:Int))) (.br (decide (r1.els.length+((((b0.fld 1).els).take (Int.toNat (IntKind.wrap .i64 ((IntKind.wrap .i64 (i2.toInt*nn3.toInt))+nn3.toInt)))).drop (Int.toNat (IntKind.wrap .i64 (i2.toInt*nn3.toInt)))).length≤Ar)) (.ret [D.sl (r1.els++((((b0.fld 1).els).take (Int.toNat (IntKind.wrap .i64 ((IntKind.wrap .i64 (i2.toInt*nn3.toInt))+nn3.toInt)))).drop (Int.toNat (IntKind.wrap .i64 (i2.toInt*nn3.toInt)))))]) .fail) .fail) .fail) .fail)
 (Jz n n r1.els nn3.toInt 0 b0):=by kernel_rfl
theorem Vr(l:List Int)(hb:l.length≤6)(hx : ∀ x∈l,0≤x∧x≤2048):Sp 170 [dI l] [.int (Bg l 1)]:=by
 refine Ag (l.length+1) (U2 _ _) ?_
 have key:=A7 (P:=Tryz.prog) (md:=md) l (fun m k (p:Int)=>Il (l.length+1) m p (dI l) (l.length:Int) (k:Int)) (fun rest p=>[.int (Bg rest p)]) (fun _ p=>0≤p∧p≤2048)
  (fun m k p hk hI=>by
   simp only[Hc]
   exact Am (by omega) (Ac rfl))
  (fun m k p x rest hd hI ih=>by
   obtain ⟨h1,h2,h3⟩:=Az hd
   have hxx:=hx x (List.mem_of_getElem? h2)
   have hp:0≤p*x∧p*x≤4194304:=⟨Int.mul_nonneg hI.1 hxx.1,by have:=Int.mul_le_mul hI.2 hxx.2 hxx.1 (by omega);omega⟩
   simp only[Hc,Bx,List.length_map,Int.toNat_natCast,Aj h2,Ah,An (show k<9223372036854775807 by omega),Ap (x:=p*x) (by omega) (by omega)]
   repeat (refine Ae ?_)
   simp only[Bg]
   refine Ad (fun h=>Ac ?_) (fun h=> ?_)
   · rw[if_pos h]
   · rw[if_neg h];exact ih _ ⟨hp.1,by omega⟩)
  (l.length+1) 0 1 (by omega) (by omega) (by decide)
 simpa using key
def Sd(s:List Int)(x:Int):List D:=if (Ay s).2=0∧0≤x∧x<s.length then [.int (Bg (s.take x.toNat) 1),.int (s.getD x.toNat 0),.int (Bg (s.drop (x.toNat+1)) 1),.bool true] else [.int 0,.int 0,.int 0,.bool false]
theorem Re(s:List Int)(x:Int):Sp 140 [dI s,.int x] (Sd s x):=by
 refine Ag 0 (KI _ _ _) (Aa (Gu s) ?_)
 unfold Sd
 simp only[As]
 refine Ad (fun h=>Ac (by rw[if_neg (fun hh=>h hh.1)])) (fun h=>Ad (fun h1=>Ac (by rw[if_neg (by omega)])) (fun h1=>Ad (fun h2=>Ac (by rw[if_neg (by omega)])) (fun h2=> ?_)))
 have h0:(Ay s).2=0:=Classical.not_not.1 h
 rw[if_pos ⟨h0,by omega,by omega⟩]
 obtain ⟨c1,c2⟩:=E8 h0
 obtain ⟨X,rfl⟩ : ∃ X:Nat,x=(X:Int):=⟨x.toNat,by omega⟩
 simp only[An (show X<9223372036854775807 by omega),Int.toNat_natCast,← List.map_take,← List.map_drop,AjF]
 refine Ae (Ae (Aa (Vr (s.take X) (by rw[List.length_take];omega) (fun y hy=>c2 y (List.mem_of_mem_take hy))) (Ae (Ae (Ae (Ae (Aa (Vr (s.drop (X+1)) (by rw[List.length_drop];omega) (fun y hy=>c2 y (List.mem_of_mem_drop hy))) (Ac ?_))))))))
 rw[Gp (show X<s.length by omega)]
 simp only[As]
def TJ(s:List Int)(x n:Int):List D:=if 0≤x∧x<s.length then [dI (s.set x.toNat n),.bool true] else [.sl [],.bool false]
theorem CX(s:List Int)(x n:Int)(hs:s.length≤1048576):Sp 173 [dI s,.int x,.int n] (TJ s x n):=by
 refine Ag 0 (SJ _ _ _ _) ?_
 unfold TJ
 simp only[As]
 refine Ad (fun h1=>Ac (by rw[if_neg (by omega)])) (fun h1=>Ad (fun h2=>Ac (by rw[if_neg (by omega)])) (fun h2=>Aa (Gx s hs) ?_))
 rw[if_pos ⟨by omega,by omega⟩]
 simp only[As]
 refine Ae (Ae (Ac ?_))
 rw[← List.map_set];rfl
def P5(s:List Int)(cs:List Cell)(al:Bool):D:= .agg [dI s,.sl (cs.map dC),.bool al]
def K1(x y:D)(k:Int):D:= .agg [x,y,.int k]
theorem AcY(s:List Int)(cs r:List Cell)(i n:Int)(h0:0≤i)(h1:0≤n)(h2:i*n+n≤cs.length)(hc:cs.length≤2048)(hr:r.length≤1000000):Sp 174 [P5 s cs false,.sl (r.map dC),.int i,.int n] [.sl ((r++(cs.take (i*n+n).toNat).drop (i*n).toNat).map dC)]:=by
 refine Ag 0 (Rz _ _ _ _ _) ?_
 have h3:0≤i*n:=Int.mul_nonneg h0 h1
 simp only[P5,Ks,Kt,AW,As,Ap (x:=i*n) (by omega) (by omega),Ap (x:=i*n+n) (by omega) (by omega),← List.map_take,← List.map_drop]
 refine Ba rfl (Ae (Ae (Ae (At ?_ (Ac ?_)))))
 · simp only[List.length_drop,List.length_take,Ar];omega
 · rw[← List.map_append]
theorem OI(n:Nat)(k0 a1 first2:D):Ai Tryz.prog md [] n 37 [] [k0,a1,first2] =
 .call 80 [] [k0] fun yy1 =>
 .br (((yy1.getD 1 D.nil).toInt)!=0) (.ret [D.agg [D.int 0,D.sl [],D.sl []],D.int ((yy1.getD 1 D.nil).toInt)])
 (.br ((((yy1.getD 0 D.nil).els).length:Int)!=1) (.ret [D.agg [D.int 0,D.sl [],D.sl []],D.int 4])
 (.call 84 [] [k0] fun yy2 =>
 .call 90 [] [a1,D.int ((yy2.getD 0 D.nil).toInt)] fun yy3 =>
 .call 91 [] [a1,D.bool first2.toBool] fun yy4 =>
 .br (!((yy4.getD 1 D.nil).toBool)) (.ret [yy3.getD 0 D.nil,D.int 0])
 (.br (decide (0≤(yy4.getD 0 D.nil).toInt)) (.br (decide ((yy4.getD 0 D.nil).toInt<(((a1.fld 1).els).length:Int))) (.br (((((a1.fld 1).els).getD (Int.toNat ((yy4.getD 0 D.nil).toInt)) D.nil).toInt)==0) (.ret [yy3.getD 0 D.nil,D.int 0])
 (.br (decide (0≤(yy4.getD 0 D.nil).toInt)) (.br (decide ((yy4.getD 0 D.nil).toInt<(((a1.fld 1).els).length:Int))) (.br (decide (0≤0)) (.br (decide (0<(((yy1.getD 0 D.nil).els).length:Int))) (.br (!(((((a1.fld 1).els).getD (Int.toNat ((yy4.getD 0 D.nil).toInt)) D.nil).toInt)==(0:Int))) (.br (!(((((a1.fld 1).els).getD (Int.toNat ((yy4.getD 0 D.nil).toInt)) D.nil).toInt)==(0:Int))) (.call 92 [] [yy3.getD 0 D.nil,a1.fld 1,D.fn 93 [.ref 3,.ref 3,.ref 3] [D.ref (D.int ((yy4.getD 0 D.nil).toInt)),D.ref (D.int (Int.tmod (IntKind.wrap .i64 ((Int.tmod ((((yy1.getD 0 D.nil).els).getD (Int.toNat 0) D.nil).toInt) ((((a1.fld 1).els).getD (Int.toNat ((yy4.getD 0 D.nil).toInt)) D.nil).toInt))+((((a1.fld 1).els).getD (Int.toNat ((yy4.getD 0 D.nil).toInt)) D.nil).toInt))) ((((a1.fld 1).els).getD (Int.toNat ((yy4.getD 0 D.nil).toInt)) D.nil).toInt))),D.ref (D.int ((((a1.fld 1).els).getD (Int.toNat ((yy4.getD 0 D.nil).toInt)) D.nil).toInt))]] fun yy5 =>
 .ret [yy5.getD 0 D.nil,D.int 0]) .fail) .fail) .fail) .fail) .fail) .fail)) .fail) .fail))):=by kernel_rfl
def Fu:List (Nat×Orc):=[(9,⟨[(2,none),(3,none),(4,none),(5,none),(6,none),(7,none),(32,none),(33,none)],[(2,true),(3,true),(4,false),(5,false),(6,true)],[(.slot 7,1090,3)]⟩),(14,⟨[(2,none),(3,none),(4,none),(5,none),(6,none),(7,none),(40,some 23),(41,none),(42,none)],[(2,true),(3,true),(4,false),(5,false),(6,true)],[(.slot 7,1140,3)]⟩)]
def Yo:List ResultVar:=[.cell 4 26,.cell 5 29]
noncomputable def K7(n m14:Nat)(s7:List D)(t40:D)(t41 t42:Int)(p2 a3:D)(r4_0 e5:Int)(l6:D):Tree :=
 lA (eA Fu n 38 [1,1,1,1,1,1,1,0,1,0,0]) (Ao Fu 14) m14 ⟨(.undef:: .undef:: .ptr 2 []:: .ptr 3 []:: .ptr 4 []:: .ptr 5 []:: .ptr 6 []:: .row 1140::uA 32++(.d 23 t40:: .i .i64 t41:: .i .i64 t42::uA 38)),[(2,.var 26 (.d 26 p2) true),(3,.var 26 (.d 26 a3) true),(4,.var 26 (.agg 26 [.i .u64 r4_0,.mt,.mt]) true),(5,.var 29 (.i .i64 e5) true),(6,.var 23 (.d 23 l6) true),(1140,.row 3 s7 true)],[2,3,4,5,6,1140],[(94,[.ptr 4 [],.ptr 5 []])],[]⟩
  (Ak 2 (Au (jA Fu n 38 [1,1,1,1,1,1,1,1]) (rA 38 [26,26] Yo [26,29])))
noncomputable def Lz(n m9:Nat)(s7:List D)(t32 t33:Int)(p2 a3:D)(r4_0 e5:Int)(l6:D):Tree :=
 lA (eA Fu n 38 [1,1,1,1,1,1,0,1,0,0]) (Ao Fu 9) m9 ⟨(.undef:: .undef:: .ptr 2 []:: .ptr 3 []:: .ptr 4 []:: .ptr 5 []:: .ptr 6 []:: .row 1090::uA 24++(.i .i64 t32:: .i .i64 t33::uA 47)),[(2,.var 26 (.d 26 p2) true),(3,.var 26 (.d 26 a3) true),(4,.var 26 (.agg 26 [.i .u64 r4_0,.mt,.mt]) true),(5,.var 29 (.i .i64 e5) true),(6,.var 23 (.d 23 l6) true),(1090,.row 3 s7 true)],[2,3,4,5,6,1090],[(94,[.ptr 4 [],.ptr 5 []])],[]⟩
  (Ak 0 (Au (jA Fu n 38 [1,1,1,1,1,1,1]) (rA 38 [26,26] Yo [26,29])))
theorem Pz(n m14:Nat)(s7:List D)(t40:D)(t41 t42:Int)(p2 a3:D)(r4_0 e5:Int)(l6:D):K7 n (m14+1) s7 t40 t41 t42 p2 a3 r4_0 e5 l6 =
 .br (decide (t42<t41)) (.br (decide (0≤t42)) (.br (decide (t42<(t40.els.length:Int))) (.br (decide (((t40.els.getD (Int.toNat t42) D.nil).toInt)<1)) (.ret [D.agg [D.int 0,D.sl [],D.sl []],D.int 3])
 (.br (decide ((l6.els.length:Int)<((t40.els.getD (Int.toNat t42) D.nil).toInt))) (.ret [D.agg [D.int 0,D.sl [],D.sl []],D.int 3])
 (.br (decide (0≤IntKind.wrap .i64 (((t40.els.getD (Int.toNat t42) D.nil).toInt)-1))) (.br (decide (IntKind.wrap .i64 (((t40.els.getD (Int.toNat t42) D.nil).toInt)-1)<(s7.length:Int))) (.br (decide (0≤((s7.getD (Int.toNat (IntKind.wrap .i64 (((t40.els.getD (Int.toNat t42) D.nil).toInt)-1))) D.nil).toInt))) (.ret [D.agg [D.int 0,D.sl [],D.sl []],D.int 3])
 (.br (decide (0≤t42)) (.br (decide (t42<(((a3.fld 1).els).length:Int))) (.br (decide (0≤IntKind.wrap .i64 (((t40.els.getD (Int.toNat t42) D.nil).toInt)-1))) (.br (decide (IntKind.wrap .i64 (((t40.els.getD (Int.toNat t42) D.nil).toInt)-1)<(s7.length:Int))) (K7 n m14 (s7.set (Int.toNat (IntKind.wrap .i64 (((t40.els.getD (Int.toNat t42) D.nil).toInt)-1))) (D.int ((((a3.fld 1).els).getD (Int.toNat t42) D.nil).toInt))) t40 t41 (IntKind.wrap .i64 (t42+1)) p2 a3 r4_0 e5 l6) .fail) .fail) .fail) .fail)) .fail) .fail))) .fail) .fail)
 (.call 84 [] [p2] fun yy2 =>
 .call 90 [] [a3,D.int ((yy2.getD 0 D.nil).toInt)] fun yy3 =>
 .call 92 [] [yy3.getD 0 D.nil,D.sl s7,D.fn 95 [.ref 23] [D.ref l6]] fun yy4 =>
 .ret [yy4.getD 0 D.nil,D.int 0]):=by kernel_rfl
theorem Ri(n m9:Nat)(s7:List D)(t32 t33:Int)(p2 a3:D)(r4_0 e5:Int)(l6:D):Lz n (m9+1) s7 t32 t33 p2 a3 r4_0 e5 l6 =
 .br (decide (t33<t32)) (.br (decide (0≤t33)) (.br (decide (t33<(s7.length:Int))) (Lz n m9 (s7.set (Int.toNat t33) (D.int (-1))) t32 (IntKind.wrap .i64 (t33+1)) p2 a3 r4_0 e5 l6) .fail) .fail)
 (K7 n n s7 l6 (l6.els.length:Int) 0 p2 a3 r4_0 e5 l6):=by kernel_rfl
theorem KK(n:Nat)(p0 a1:D):Ai Tryz.prog md Fu n 38 [] [p0,a1] =
 .call 80 [] [p0] fun yy1 =>
 .br (((yy1.getD 1 D.nil).toInt)!=0) (.ret [D.agg [D.int 0,D.sl [],D.sl []],D.int ((yy1.getD 1 D.nil).toInt)])
 (.br ((((yy1.getD 0 D.nil).els).length:Int)!=(((a1.fld 1).els).length:Int)) (.ret [D.agg [D.int 0,D.sl [],D.sl []],D.int 4])
 (.br (decide (0≤(((yy1.getD 0 D.nil).els).length:Int))) (.br (decide ((((yy1.getD 0 D.nil).els).length:Int)≤(((yy1.getD 0 D.nil).els).length:Int))) (.br (decide ((((yy1.getD 0 D.nil).els).length:Int)≤Ar)) (Lz n n (List.replicate (Int.toNat (((yy1.getD 0 D.nil).els).length:Int)) (D.int 0)) ((List.replicate (Int.toNat (((yy1.getD 0 D.nil).els).length:Int)) (D.int 0)).length:Int) 0 p0 a1 0 ((yy1.getD 1 D.nil).toInt) (yy1.getD 0 D.nil)) .fail) .fail) .fail)):=by kernel_rfl
theorem KL(n:Nat)(a0 first1:D):Ai Tryz.prog md [] n 59 [] [a0,first1] =
 .call 91 [] [a0,D.bool first1.toBool] fun yy1 =>
 .br (!((yy1.getD 1 D.nil).toBool)) (.ret [a0])
 (.br (decide (0≤(yy1.getD 0 D.nil).toInt)) (.br (decide ((yy1.getD 0 D.nil).toInt<(((a0.fld 1).els).length:Int))) (.call 92 [] [a0,a0.fld 1,D.fn 142 [.ref 3,.ref 3] [D.ref (D.int ((((a0.fld 1).els).getD (Int.toNat ((yy1.getD 0 D.nil).toInt)) D.nil).toInt)),D.ref (D.int ((yy1.getD 0 D.nil).toInt))]] fun yy2 =>
 .ret [yy2.getD 0 D.nil]) .fail) .fail):=by kernel_rfl
theorem DL(n:Nat)(a0:D):Ai Tryz.prog md [] n 60 [] [a0] =
 .call 96 [] [a0.fld 1] fun yy1 =>
 .call 144 [] [D.sl ((yy1.getD 0 D.nil).els)] fun yy2 =>
 .call 92 [] [a0,D.sl ((yy2.getD 0 D.nil).els),D.fn 145 [] []] fun yy3 =>
 .ret [yy3.getD 0 D.nil]:=by kernel_rfl
theorem SW(n:Nat)(a0 first1:D):Ai Tryz.prog md [] n 91 [] [a0,first1] =
 .br ((((a0.fld 1).els).length:Int)==0) (.ret [D.int 0,D.bool false])
 (.br first1.toBool (.ret [D.int 0,D.bool true])
 (.ret [D.int (IntKind.wrap .i64 ((((a0.fld 1).els).length:Int)-1)),D.bool true])):=by kernel_rfl
def Gv:List (Nat×Orc):=[(3,⟨[(1,some 23),(2,some 94),(3,none),(6,none),(7,none),(19,none),(20,none)],[(3,true),(6,false)],[(.slot 7,1030,67)]⟩)]
noncomputable def Cx(n m3:Nat)(s1 from2:D)(cells7:List D)(t19 t20:Int)(a3:D)(t6_0:Int):Tree :=
 lA (eA Gv n 92 [1,1,0,1,0,0]) (Ao Gv 3) m3 ⟨(.undef:: .d 23 s1:: .d 94 from2:: .ptr 3 []:: .undef:: .undef:: .ptr 6 []:: .row 1030::uA 11++(.i .i64 t19:: .i .i64 t20::uA 33)),[(3,.var 26 (.d 26 a3) true),(6,.var 26 (.agg 26 [.i .u64 t6_0,.mt,.mt]) true),(1030,.row 67 cells7 true)],[3,6,1030],[],[]⟩
  (Ak 0 (Au (jA Gv n 92 [1,1,1]) (rA 92 [26,23,94] [.cell 6 26] [26])))
theorem Pk(n m3:Nat)(s1 from2_c0:D)(from2_c1 from2_c2:D)(cells7:List D)(t19 t20:Int)(a3:D)(t6_0:Int):Cx n (m3+1) s1 (D.fn 93 [.ref 3,.ref 3,.ref 3] [from2_c0,from2_c1,from2_c2]) cells7 t19 t20 a3 t6_0 =
 .br (decide (t20<t19)) (.call 175 [] [s1,D.int t20] fun yy1 =>
 .call (D.fn 93 [.ref 3,.ref 3,.ref 3] [from2_c0,from2_c1,from2_c2]).fnId (D.fn 93 [.ref 3,.ref 3,.ref 3] [from2_c0,from2_c1,from2_c2]).fnCts ([D.sl ((yy1.getD 0 D.nil).els)]++(D.fn 93 [.ref 3,.ref 3,.ref 3] [from2_c0,from2_c1,from2_c2]).fnDs) fun yy2 =>
 .call 176 [] [a3.fld 1,D.sl ((yy2.getD 0 D.nil).els)] fun yy3 =>
 .br (decide (0≤(yy3.getD 0 D.nil).toInt)) (.br (decide ((yy3.getD 0 D.nil).toInt<(((a3.fld 2).els).length:Int))) (.br (decide (cells7.length + [((a3.fld 2).els).getD (Int.toNat ((yy3.getD 0 D.nil).toInt)) D.nil].length≤Ar)) (Cx n m3 s1 (D.fn 93 [.ref 3,.ref 3,.ref 3] [from2_c0,from2_c1,from2_c2]) (cells7++[((a3.fld 2).els).getD (Int.toNat ((yy3.getD 0 D.nil).toInt)) D.nil]) t19 (IntKind.wrap .i64 (t20+1)) a3 t6_0) .fail) .fail) .fail)
 (.call 96 [] [s1] fun yy4 =>
 .ret [D.agg [D.int ((a3.fld 0).toInt),D.sl ((yy4.getD 0 D.nil).els),D.sl cells7]]):=by kernel_rfl
theorem Ob(n m3:Nat)(s1 from2_c0:D)(cells7:List D)(t19 t20:Int)(a3:D)(t6_0:Int):Cx n (m3+1) s1 (D.fn 95 [.ref 23] [from2_c0]) cells7 t19 t20 a3 t6_0 =
 .br (decide (t20<t19)) (.call 175 [] [s1,D.int t20] fun yy1 =>
 .call (D.fn 95 [.ref 23] [from2_c0]).fnId (D.fn 95 [.ref 23] [from2_c0]).fnCts ([D.sl ((yy1.getD 0 D.nil).els)]++(D.fn 95 [.ref 23] [from2_c0]).fnDs) fun yy2 =>
 .call 176 [] [a3.fld 1,D.sl ((yy2.getD 0 D.nil).els)] fun yy3 =>
 .br (decide (0≤(yy3.getD 0 D.nil).toInt)) (.br (decide ((yy3.getD 0 D.nil).toInt<(((a3.fld 2).els).length:Int))) (.br (decide (cells7.length + [((a3.fld 2).els).getD (Int.toNat ((yy3.getD 0 D.nil).toInt)) D.nil].length≤Ar)) (Cx n m3 s1 (D.fn 95 [.ref 23] [from2_c0]) (cells7++[((a3.fld 2).els).getD (Int.toNat ((yy3.getD 0 D.nil).toInt)) D.nil]) t19 (IntKind.wrap .i64 (t20+1)) a3 t6_0) .fail) .fail) .fail)
 (.call 96 [] [s1] fun yy4 =>
 .ret [D.agg [D.int ((a3.fld 0).toInt),D.sl ((yy4.getD 0 D.nil).els),D.sl cells7]]):=by kernel_rfl
theorem Oc(n m3:Nat)(s1 from2_c0 from2_c1:D)(cells7:List D)(t19 t20:Int)(a3:D)(t6_0:Int):Cx n (m3+1) s1 (D.fn 142 [.ref 3,.ref 3] [from2_c0,from2_c1]) cells7 t19 t20 a3 t6_0 =
 .br (decide (t20<t19)) (.call 175 [] [s1,D.int t20] fun yy1 =>
 .call (D.fn 142 [.ref 3,.ref 3] [from2_c0,from2_c1]).fnId (D.fn 142 [.ref 3,.ref 3] [from2_c0,from2_c1]).fnCts ([D.sl ((yy1.getD 0 D.nil).els)]++(D.fn 142 [.ref 3,.ref 3] [from2_c0,from2_c1]).fnDs) fun yy2 =>
 .call 176 [] [a3.fld 1,D.sl ((yy2.getD 0 D.nil).els)] fun yy3 =>
 .br (decide (0≤(yy3.getD 0 D.nil).toInt)) (.br (decide ((yy3.getD 0 D.nil).toInt<(((a3.fld 2).els).length:Int))) (.br (decide (cells7.length + [((a3.fld 2).els).getD (Int.toNat ((yy3.getD 0 D.nil).toInt)) D.nil].length≤Ar)) (Cx n m3 s1 (D.fn 142 [.ref 3,.ref 3] [from2_c0,from2_c1]) (cells7++[((a3.fld 2).els).getD (Int.toNat ((yy3.getD 0 D.nil).toInt)) D.nil]) t19 (IntKind.wrap .i64 (t20+1)) a3 t6_0) .fail) .fail) .fail)
 (.call 96 [] [s1] fun yy4 =>
 .ret [D.agg [D.int ((a3.fld 0).toInt),D.sl ((yy4.getD 0 D.nil).els),D.sl cells7]]):=by kernel_rfl
theorem No(n m3:Nat)(s1:D)(cells7:List D)(t19 t20:Int)(a3:D)(t6_0:Int):Cx n (m3+1) s1 (D.fn 145 [] []) cells7 t19 t20 a3 t6_0 =
 .br (decide (t20<t19)) (.call 175 [] [s1,D.int t20] fun yy1 =>
 .call (D.fn 145 [] []).fnId (D.fn 145 [] []).fnCts ([D.sl ((yy1.getD 0 D.nil).els)]++(D.fn 145 [] []).fnDs) fun yy2 =>
 .call 176 [] [a3.fld 1,D.sl ((yy2.getD 0 D.nil).els)] fun yy3 =>
 .br (decide (0≤(yy3.getD 0 D.nil).toInt)) (.br (decide ((yy3.getD 0 D.nil).toInt<(((a3.fld 2).els).length:Int))) (.br (decide (cells7.length + [((a3.fld 2).els).getD (Int.toNat ((yy3.getD 0 D.nil).toInt)) D.nil].length≤Ar)) (Cx n m3 s1 (D.fn 145 [] []) (cells7++[((a3.fld 2).els).getD (Int.toNat ((yy3.getD 0 D.nil).toInt)) D.nil]) t19 (IntKind.wrap .i64 (t20+1)) a3 t6_0) .fail) .fail) .fail)
 (.call 96 [] [s1] fun yy4 =>
 .ret [D.agg [D.int ((a3.fld 0).toInt),D.sl ((yy4.getD 0 D.nil).els),D.sl cells7]]):=by kernel_rfl
theorem Rr(n:Nat)(a0 s1:D)(from2_c0 from2_c1 from2_c2:D):Ai Tryz.prog md Gv n 92 [] [a0,s1,(D.fn 93 [.ref 3,.ref 3,.ref 3] [from2_c0,from2_c1,from2_c2])] =
 .br (decide (0≤0)) (.br (decide (0≤(((a0.fld 2).els).length:Int))) (.br (decide ((((a0.fld 2).els).length:Int)≤Ar)) (Cx n n s1 (D.fn 93 [.ref 3,.ref 3,.ref 3] [from2_c0,from2_c1,from2_c2]) (List.replicate (Int.toNat 0) (D.agg [D.int 0,D.int 0,D.agg [D.bool false,D.sl [],D.sl []],D.int 0,D.sl []])) (((a0.fld 2).els).length:Int) 0 a0 0) .fail) .fail) .fail:=by kernel_rfl
theorem Rj(n:Nat)(a0 s1 from2_c0:D):Ai Tryz.prog md Gv n 92 [] [a0,s1,(D.fn 95 [.ref 23] [from2_c0])] =
 .br (decide (0≤0)) (.br (decide (0≤(((a0.fld 2).els).length:Int))) (.br (decide ((((a0.fld 2).els).length:Int)≤Ar)) (Cx n n s1 (D.fn 95 [.ref 23] [from2_c0]) (List.replicate (Int.toNat 0) (D.agg [D.int 0,D.int 0,D.agg [D.bool false,D.sl [],D.sl []],D.int 0,D.sl []])) (((a0.fld 2).els).length:Int) 0 a0 0) .fail) .fail) .fail:=by kernel_rfl
theorem Rk(n:Nat)(a0 s1:D)(from2_c0 from2_c1:D):Ai Tryz.prog md Gv n 92 [] [a0,s1,(D.fn 142 [.ref 3,.ref 3] [from2_c0,from2_c1])] =
 .br (decide (0≤0)) (.br (decide (0≤(((a0.fld 2).els).length:Int))) (.br (decide ((((a0.fld 2).els).length:Int)≤Ar)) (Cx n n s1 (D.fn 142 [.ref 3,.ref 3] [from2_c0,from2_c1]) (List.replicate (Int.toNat 0) (D.agg [D.int 0,D.int 0,D.agg [D.bool false,D.sl [],D.sl []],D.int 0,D.sl []])) (((a0.fld 2).els).length:Int) 0 a0 0) .fail) .fail) .fail:=by kernel_rfl
theorem Pl(n:Nat)(a0 s1:D):Ai Tryz.prog md Gv n 92 [] [a0,s1,(D.fn 145 [] [])] =
 .br (decide (0≤0)) (.br (decide (0≤(((a0.fld 2).els).length:Int))) (.br (decide ((((a0.fld 2).els).length:Int)≤Ar)) (Cx n n s1 (D.fn 145 [] []) (List.replicate (Int.toNat 0) (D.agg [D.int 0,D.int 0,D.agg [D.bool false,D.sl [],D.sl []],D.int 0,D.sl []])) (((a0.fld 2).els).length:Int) 0 a0 0) .fail) .fail) .fail:=by kernel_rfl
theorem HI(n:Nat)(at0 c1:D)(c2 c3:D):Ai Tryz.prog md [] n 93 [.ref 3,.ref 3,.ref 3] [at0,c1,c2,c3] =
 .br (decide (0≤c1.unref.toInt)) (.br (decide (c1.unref.toInt<(at0.els.length:Int))) (.br (!(c3.unref.toInt == (0:Int))) (.br (decide (0≤c1.unref.toInt)) (.br (decide (c1.unref.toInt<(at0.els.length:Int))) (.ret [D.sl (at0.els.set (Int.toNat c1.unref.toInt) (D.int (Int.tmod (IntKind.wrap .i64 (((at0.els.getD (Int.toNat c1.unref.toInt) D.nil).toInt)+c2.unref.toInt)) c3.unref.toInt)))]) .fail) .fail) .fail) .fail) .fail:=by kernel_rfl
def Mo:List (Nat×Orc):=[(2,⟨[(0,none),(3,none),(8,some 23),(9,none),(10,none)],[],[(.slot 0,0,3),(.slot 3,1021,3)]⟩)]
noncomputable def J4(n m2:Nat)(at0 old3:List D)(t8:D)(t9 t10:Int):Tree :=
 lA (eA Mo n 95 [1,1,0,0]) (Ao Mo 2) m2 ⟨(.row 0:: .undef:: .undef:: .row 1021::uA 4++(.d 23 t8:: .i .i64 t9:: .i .i64 t10::uA 13)),[(0,.row 3 at0 true),(1021,.row 3 old3 true)],[0,1021],[],[0]⟩
  (Ak 0 (rA 95 [23] [] []))
theorem Oa(n m2:Nat)(at0 old3:List D)(t8:D)(t9 t10:Int):J4 n (m2+1) at0 old3 t8 t9 t10 =
 .br (decide (t10<t9)) (.br (decide (0≤t10)) (.br (decide (t10<(t8.els.length:Int))) (.br (decide (0≤IntKind.wrap .i64 (((t8.els.getD (Int.toNat t10) D.nil).toInt)-1))) (.br (decide (IntKind.wrap .i64 (((t8.els.getD (Int.toNat t10) D.nil).toInt)-1)<(old3.length:Int))) (.br (decide (0≤t10)) (.br (decide (t10<(at0.length:Int))) (J4 n m2 (at0.set (Int.toNat t10) (D.int ((old3.getD (Int.toNat (IntKind.wrap .i64 (((t8.els.getD (Int.toNat t10) D.nil).toInt)-1))) D.nil).toInt))) old3 t8 t9 (IntKind.wrap .i64 (t10+1))) .fail) .fail) .fail) .fail) .fail) .fail)
 (.ret [D.sl at0]):=by kernel_rfl
theorem DJ(n:Nat)(at0 c1:D):Ai Tryz.prog md Mo n 95 [.ref 23] [at0,c1] =
 .call 96 [] [D.sl at0.els] fun yy1 =>
 J4 n n at0.els ((yy1.getD 0 D.nil).els) c1.unref (c1.unref.els.length:Int) 0:=by kernel_rfl
theorem DK(n:Nat)(at0 c1 c2:D):Ai Tryz.prog md [] n 142 [.ref 3,.ref 3] [at0,c1,c2] =
 .br (decide (0≤c2.unref.toInt)) (.br (decide (c2.unref.toInt<(at0.els.length:Int))) (.br (decide (0≤c2.unref.toInt)) (.br (decide (c2.unref.toInt<(at0.els.length:Int))) (.ret [D.sl (at0.els.set (Int.toNat c2.unref.toInt) (D.int (IntKind.wrap .i64 ((IntKind.wrap .i64 (c1.unref.toInt-1))-((at0.els.getD (Int.toNat c2.unref.toInt) D.nil).toInt)))))]) .fail) .fail) .fail) .fail:=by kernel_rfl
theorem AE(n:Nat)(at0:D):Ai Tryz.prog md [] n 145 [] [at0] =
 .call 144 [] [D.sl at0.els] fun yy1 =>
 .ret [D.sl ((yy1.getD 0 D.nil).els)]:=by kernel_rfl
end Go.Proofs.YtokkbgpgaheakaaGreat
