/- Proved: lemmas for the law of this folder, part 1. No condition. -/
import Derived.Test.YtokkbgpgaheakaaGreatRows
import Derived.WalkKit
import Derived.WalkSpells
import Derived.WalkLawsBesides
import Derived.Lib.Hide
import Derived.Laws.CopyOwn
import Derived.Deep.QuietTactic
import Derived.BigQuiet
import Derived.Orders
import Derived.Defers
import Derived.Recover
import Derived.Test.YtokkbgpgaheakaaGreatProg
import Derived.KernelRfl
import Derived.ProofKit
import Derived.OpenShut
import Derived.Maps.OwnRows
import Derived.Maps.Views
import Derived.Deep.RegionHeld3
import Derived.Deep.AppendLies
set_option linter.unusedSimpArgs false
set_option linter.unusedVariables false
set_option maxRecDepth 100000
open Array renaming getElem?_eq_getElem → Al3, getElem?_eq_some_iff → Amc, getD_eq_getD_getElem? → Amf
open BitVec renaming ofNat → Al0
open Bool renaming and_eq_true → Alp
open Classical renaming not_not → Alt
open Int renaming toNat → Alf, toNat_natCast → Aln, fdiv → Al8
open Go.IntKind renaming wrap → Ale, bits → Alq
open List renaming getElem?_eq_getElem → Alg, replicate → Alh, length_map → Ali, getElem?_eq_some_iff → Alj, getD_eq_getElem?_getD → Alk, length_cons → All, mem_of_getElem? → Alm, length_append → Alr, length_drop → Alu, length_take → Alw, mem_cons → Alx, getElem?_map → Aly, length_nil → Alz, append_nil → Al2, append_assoc → Al4, getElem?_append_left → Al5, drop_eq_getElem_cons → Al6, length_eq_zero_iff → Al7, take_append_drop → Ama, take_of_length_le → Amb, range → Amd, length_replicate → Amg, getElem_mem → Amj, map_cons → Aml, nil_append → Amo
open Nat renaming le_refl → Als, mul_le_mul_right → Al1, mod_lt → Al9, mod_eq_of_lt → Al_, lt_of_lt_of_le → Ame, mul_comm → Ami, pow_succ → Amk, div_lt_iff_lt_mul → Amm, zero_add → Amn
open Option renaming map_eq_some_iff → Alv, bind_eq_some_iff → Amh
open Option.some renaming injEq → Alo
namespace Go.Proofs.YtokkbgpgaheakaaGreat
open Go.RowKit
def Ext(w w':World):Prop:=Below w.heap.size w w'
theorem Ext.refl (w:World):Ext w w:=Below.refl _ _
theorem Ext.trans {a b c:World} (h:Ext a b) (k:Ext b c):Ext a c:=Below.trans h (Below.mono k (Below.size h))
theorem Ext.alloc {a b:World} (h:Ext a b) (o:Obj):Ext a (b.alloc o):=Below.alloc h (Below.size h) o
theorem Ext.drew {a b:World} (h:Ext a b):Ext a b.drew:=Below.drew h
theorem Ext.setCell {a b:World} (h:Ext a b) {p:Addr} (hp:a.heap.size≤p.block) (u:Value):Ext a (b.setCell p u):=Below.setCell h hp u
theorem Ext.grown {a w w':World} {row:Option Nat} (h:Ext a w) (hg:w.grownBy w' row) (hr : ∀ k,row=some k→a.heap.size≤k):Ext a w':=Below.grown h hg (Below.size h) hr
theorem Ext.size {a b:World} (h:Ext a b):a.heap.size≤b.heap.size:=Below.size h
theorem Ext.cell {a b:World} (h:Ext a b) {p:Addr} (hp:p.block<a.heap.size):b.cell? p=a.cell? p:=Below.cell h hp
theorem Ext.frozen {a b:World} (h:Ext a b) {p:Addr} (hp:p.block<a.heap.size):b.frozen? p=a.frozen? p:=Below.frozen h hp
theorem S4(a:Addr)(n:Nat):(a.add n).block=a.block:=by unfold Addr.add;split <;> rfl
def SlN(w:World)(size n:Nat)(v:Value)(xs:List Value):Prop :=
 ∃ A c,v = .slice A n c∧n≤c∧xs.length=n*size∧∀ i x,xs[i]? = some x→∃ ad,A=some ad∧ad.block<w.heap.size∧w.cell? (ad.add i)=some x
theorem SlN.keep {w w':World} {size n:Nat} {v:Value} {xs:List Value} (h:SlN w size n v xs) (hb:Ext w w'):SlN w' size n v xs:=by
 obtain ⟨A,c,rfl,hc,hl,h⟩:=h
 refine ⟨A,c,rfl,hc,hl,fun i x hx=> ?_⟩
 obtain ⟨ad,rfl,hl,hx⟩:=h i x hx
 exact ⟨ad,rfl,Ame hl hb.size,(hb.cell (p:=ad.add i) (by rw[S4];exact hl)).trans hx⟩
def SlI(w:World)(v:Value)(k:IntKind)(xs:List Int):Prop:=SlN w 1 xs.length v (xs.map (.int k))
theorem SlI.keep {w w':World} {v:Value} {k:IntKind} {xs:List Int} (h:SlI w v k xs) (hb:Ext w w'):SlI w' v k xs:=SlN.keep h hb
theorem SlI.alloc {w:World} {v:Value} {k:IntKind} {xs:List Int} (h:SlI w v k xs) (o:Obj):SlI (w.alloc o) v k xs:=h.keep ((Ext.refl _).alloc o)
theorem SlI.form {w:World} {v:Value} {k:IntKind} {xs:List Int} (h:SlI w v k xs) :
  ∃ A c,v = .slice A xs.length c∧xs.length≤c∧∀ i (hi:i<xs.length),∃ ad,A=some ad∧ad.block<w.heap.size∧w.cell? (ad.add i)=some (.int k (xs[i]'hi)):=by
 obtain ⟨A,c,hv,hc,_,h⟩:=h
 exact ⟨A,c,hv,hc,fun i hi=>h i _ (by simp[hi])⟩
theorem SlI.cellAt {w:World} {A:Option Addr} {n c:Nat} {k:IntKind} {xs:List Int} (h:SlI w (.slice A n c) k xs) (i:Nat) (hi:i<xs.length) : ∃ ad,A=some ad∧ad.block<w.heap.size∧w.cell? (ad.add i)=some (.int k (xs[i]'hi)):=by
 obtain ⟨A',c',hv,_,hx⟩:=h.form
 cases hv
 exact hx i hi
theorem SlI.len {w:World} {A:Option Addr} {n c:Nat} {k:IntKind} {xs:List Int} (h:SlI w (.slice A n c) k xs):n=xs.length∧n≤c:=by
 obtain ⟨A',c1,hv,hc,_⟩:=h
 cases hv
 exact ⟨rfl,hc⟩
theorem SlN.made {w:World} {b:Nat} {cs:List Value} {t:TypeId} {size n c:Nat} (h:w.heap[b]? = some (.cells cs.toArray t (0,0))) (hn:cs.length=n*size) (hc:n≤c):SlN w size n (.slice (some ⟨b,0,none⟩) n c) cs:=by
 refine ⟨_,_,rfl,hc,hn,fun i x hx=>⟨_,rfl,?_,?_⟩⟩
 · rcases Nat.lt_or_ge b w.heap.size with hlt | hge
   · exact hlt
   · rw[Array.getElem?_eq_none hge]at h;cases h
 · have ha:(⟨b,0,none⟩:Addr).add i=⟨b,i,none⟩:=by unfold Addr.add;split <;> simp_all
   rw[ha,cell_of_row w b i _ t (0,0) h]
   simpa using hx
theorem SlI.made {w:World} {b:Nat} {k:IntKind} {xs:List Int} {t:TypeId} {n c:Nat} (h:w.heap[b]? = some (.cells (xs.map (.int k)).toArray t (0,0))) (hn:n=xs.length) (hc:n≤c):SlI w (.slice (some ⟨b,0,none⟩) n c) k xs:=by
 subst hn;exact SlN.made h (by simp) hc
structure Elt (P:Program) (t e:TypeId) (size bytes:Nat):Prop where
 under:P.underlying t=some (.slice e)
 info : ∃ i z,P.info? e=some i∧i.zero=some z∧i.size=size∧i.bytes=bytes∧z.cells.size=size
 pos:0<size
structure Own (w0 w:World) (e:TypeId) (size n:Nat) (v:Value) (xs:List Value):Prop where
 own:w.ownsRow w0.heap.size e size v n xs
 ext:Ext w0 w
section
variable {w0 w w':World} {e:TypeId} {size n:Nat} {v:Value} {xs:List Value}
theorem Own.step (h:Own w0 w e size n v xs) (hw:Ext w w'):Own w0 w' e size n v xs :=
 ⟨h.own.kept (row:=none) ⟨hw.os,hw.tape,hw.output,hw.size,fun k hk _=>hw.block k hk⟩ (by cases v.ownBlock <;> simp),h.ext.trans hw⟩
theorem Own.alloc (h:Own w0 w e size n v xs) (o:Obj):Own w0 (w.alloc o) e size n v xs:=h.step ((Ext.refl _).alloc o)
theorem Own.drew (h:Own w0 w e size n v xs):Own w0 w.drew e size n v xs:=h.step ((Ext.refl _).drew)
theorem Own.grown (h:Own w0 w e size n v xs) (hg:w.grownBy w' v.ownBlock):Ext w0 w':=h.ext.grown hg (fun k hk=>(h.own.lt k hk).1)
theorem Own.sl (h:Own w0 w e size n v xs):SlN w size n v xs:=by
 rcases h.own.2 with ⟨rfl,rfl⟩ | ⟨g,cap,cur,rfl,hb,hg,hnc,_,hcs,htake⟩
 · exact ⟨none,0,rfl,Als _,h.own.1,fun i x hx=>by
  have hl:=h.own.1
  have:xs = []:=List.eq_nil_of_length_eq_zero (by simpa using hl)
  subst this;simp at hx⟩
 · refine ⟨_,_,rfl,hnc,h.own.1,fun i x hx=>⟨_,rfl,(Amc.1 hg).1,h.own.cells (g:=g) rfl i x hx⟩⟩
theorem Own.base {wa:World} (h:Own w0 w e size n v xs) (hx:Ext wa w0):Own wa w e size n v xs:=by
 refine ⟨⟨h.own.1,?_⟩,hx.trans h.ext⟩
 rcases h.own.2 with hn | ⟨g,cap,cur,rfl,hb,rest⟩
 · exact .inl hn
 · exact .inr ⟨g,cap,cur,rfl,Nat.le_trans hx.size hb,rest⟩
theorem Own.len (h:Own w0 w e size n v xs):xs.length=n*size:=h.own.1
end
section
variable {P:Program} {w0 w:World}
end
theorem Adz(z:Array Value)(a b:Nat)(h:a≤b):(madeCells z b).toList.take a=(madeCells z a).toList:=by
 simp only[madeCells,Array.toList_map,Array.toList_range,← List.map_take]
 rw[List.take_range,Nat.min_eq_left h]
theorem Ady(x:Value)(hx:x.cells = #[x])(n:Nat):(madeCells x.cells (n*1)).toList=Alh n x:=by
 rw[hx,Nat.mul_one]
 simp only[madeCells,Array.toList_map,Array.toList_range]
 apply List.ext_getElem
 · simp
 · intro i h1 h2
   simp[Nat.mod_one]
theorem AkU{P:Program}{w0 w:World}{ops:Array Oper}{rest:List Oper}{o:Oper}{a:Act}{Q:Exit→Act→World→Prop}{t e:TypeId}{size bytes:Nat}(hE:Elt P t e size bytes)
  (hg:o.guard=none) (l c:Operand) (hop:o.op=Op.makeSlice t l c) (hw:Ext w0 w)
  {kl kc:IntKind} (n m:Nat) {L C:Int} (hl:a.eval l = .int kl L) (hc:a.eval c = .int kc C) (hL:L=(n:Int)) (hC:C=(m:Int)) (hnm:n≤m) (hb:bytes*m≤281474976710656) (hm:m≤maxLen)
  (h : ∀ v' w' z,(∃ i,P.info? e=some i∧i.zero=some z)→Own w0 w' e size n v' (madeCells z.cells (n*size)).toList→Ext w w'→wpList P ops Q rest (a.put o.dst v') w'):wpList P ops Q (o::rest) a w:=by
 subst hL
 subst hC
 obtain ⟨i,z,hi,hz,hsz,hby,hzc⟩:=hE.info
 have hbb:(i.bytes:Int)*(m:Int)≤281474976710656:=by
  have h:((i.bytes*m:Nat):Int)≤281474976710656:=by rw[hby];omega
  rwa[Int.natCast_mul]at h
 have h63:m≤9223372036854775807:=by unfold maxLen at hm;omega
 have hr:=run_make (P:=P) w t e i z hE.under hi hz kl kc n m (by omega) (by omega) hbb (by omega)
 simp only[Aln]at hr
 refine wpList_plain hg fun K hK'=> ?_
 unfold Oper.wp
 simp[execOp,hop,hl,hc,hr,Result.andThen]
 have hx:Ext w (w.alloc (.cells (madeCells z.cells (m*i.size)) e)):=(Ext.refl w).alloc _
 refine hK' _ _ (h _ _ z ⟨i,hi,hz⟩ ⟨⟨?_,.inr ⟨w.heap.size,m,_,rfl,hw.size,heap_alloc_new w _,hnm,hm,?_,?_⟩⟩,hw.trans hx⟩ hx)
 · simp[size_madeCells]
 · rw[size_madeCells,hsz]
 · rw[hsz,Adz _ _ _ (Al1 _ hnm)]
theorem Own.at_ {w0 w:World} {e:TypeId} {n:Nat} {v:Value} {xs:List Value} (h:Own w0 w e 1 n v xs) (hn:0<n) : ∃ g cap,v = .slice (some ⟨g,0,none⟩) n cap∧w0.heap.size≤g∧g<w.heap.size∧n≤cap ∧
   (∀ i x,xs[i]? = some x→w.cell? ⟨g,i,none⟩=some x)∧(∀ i,w.frozen? ⟨g,i,none⟩=false)∧∀ i u,Own w0 (w.setCell ⟨g,i,none⟩ u) e 1 n v (xs.set i u):=by
 obtain ⟨hown,hx⟩:=h
 rcases hown.2 with ⟨_,rfl⟩ | ⟨g,cap,cur,rfl,hb,hg,hnc,hcm,hcs,htake⟩
 · omega
 · refine ⟨g,cap,rfl,hb,(Amc.1 hg).1,hnc,fun i x hi=> ?_,fun i=>hown.frozenAt i,fun i u=>⟨(hown.stored i u).1,hx.grown (hown.stored i u).2 (fun k hk=>by injection hk with hk;omega)⟩⟩
   have hlt:i<n*1:=by rw[← hown.1];exact (Alj.1 hi).1
   rw[hown.cellAt i hlt];exact hi
theorem Qc{w w':World}{b:Nat}(h:w.grownBy w' (some b))(i:Nat)(s:Option Nat)(u:Value):w.grownBy (w'.setCell ⟨b,i,s⟩ u) (some b) :=
 ⟨h.os,h.tape,h.output,by simpa [World.setCell]using h.size,fun k hk hne=>(Below.heap_setCell w' ⟨b,i,s⟩ u k (fun e=>hne (by rw[e]))).trans (h.block k hk hne)⟩
theorem SlI.grown {w w':World} {v:Value} {k:IntKind} {xs:List Int} {b:Nat} {cs:Array Value} {t:TypeId} {fr:Nat×Nat} (h:SlI w v k xs) (hg:w.grownBy w' (some b)) (hb:w.heap[b]? = some (.cells cs t fr)) (hcs : ∀ (i:Nat) (n:Int),cs[i]? ≠ some (.int k n)):SlI w' v k xs:=by
 obtain ⟨A,c,rfl,hc,hl,h⟩:=h
 refine ⟨A,c,rfl,hc,hl,fun i x hx=> ?_⟩
 obtain ⟨ad,rfl,hlt,hcell⟩:=h i x hx
 refine ⟨ad,rfl,Ame hlt hg.size,?_⟩
 by_cases hab:ad.block=b
 · exfalso
   rw[Aly]at hx
   obtain ⟨n,_,rfl⟩:=Alv.1 hx
   simp only[World.cell?,S4,hab,hb]at hcell
   split at hcell
   · cases hcell
   · exact hcs _ _ hcell
 · rw[← hcell]
   exact World.cell?_of_block (hg.block _ (by rw[S4];exact hlt) (by rw[S4];exact fun e=>hab (by injection e)))
end Go.Proofs.YtokkbgpgaheakaaGreat
namespace Go.Proofs.YtokkbgpgaheakaaGreat
def C6:Value→Bool | .agg _=>true | _=>false
inductive CT where
 | ty (t:Nat) | int (k:IntKind) | bool | str | ref (t:Nat)
 deriving DecidableEq
inductive D where
 | int (n:Int) | bool (b:Bool) | str (s:ByteArray) | agg (fs:List D) | sl (es:List D) | fn (f:Nat) (cts:List CT) (ds:List D) | ref (x:D) | nil | mp (g:List (Int×List Int))
def Gv:List (Int×List Int)→Int→List Int
 | [],_=>[]
 | (m,l)::r,n=>if m=n then l else Gv r n
def D.grpI:D→Int→List Int | .mp g,n=>Gv g n | _,_=>[]
def D.toInt:D→Int | .int n=>n | _=>0
def D.toBool:D→Bool | .bool b=>b | _=>false
def D.toStr:D→ByteArray | .str s=>s | _=>ByteArray.empty
def D.els:D→List D | .sl es=>es | _=>[]
def D.fs:D→List D | .agg fs=>fs | _=>[]
def D.fld (x:D) (i:Nat):D:=x.fs.getD i .nil
def D.fnId:D→Nat | .fn f _ _=>f | _=>0
def D.fnCts:D→List CT | .fn _ c _=>c | _=>[]
def D.unref:D→D | .ref x=>x | _=> .nil
def D.fnDs:D→List D | .fn _ _ d=>d | _=>[]
def D.path:D→List Nat→D
 | x,[]=>x
 | x,i::p=>(x.fld i).path p
def D.setP:D→List Nat→D→D
 | _,[],y=>y
 | x,i::p,y=> .agg (x.fs.set i ((x.fld i).setP p y))
inductive Tree where
 | ret (ys:List D) | fail | br (b:Bool) (t e:Tree) | call (f:Nat) (cts:List CT) (xs:List D) (k:List D→Tree) | amb (e:Bool) (t f:Tree)
inductive L where
 | undef | skip | i (k:IntKind) (n:Int) | b (x:Bool) | lit (x:Bool) | ub (e:Bool) | s (x:ByteArray) | d (t:Nat) (x:D) | mt | row (r:Nat) | rptr (r j:Nat) (p:List Nat)
 | ptr (r:Nat) (p:List Nat) | at_ (t:Nat) (x:D) | agg (t:Nat) (ls:List L) | tup (ls:List L) | fn (f:Nat) (caps:List L)
inductive Blk where
 | var (t:Nat) (l:L) (live:Bool) | row (e:Nat) (es:List D) (live:Bool)
structure FMode where
 own:List (Nat×List Nat):=[]
 arg:Option Nat:=none
 back:Bool:=false
 noop:Bool:=false
 deriving DecidableEq
def DY(md:Nat→FMode)(t:Nat):FMode:=md (1000000+t)
section
variable (P:Program)
def Ka(t:Nat):Option IntKind:=match P.underlying t with | some (.int k)=>some k | _=>none
def ID(t:Nat):Option Nat:=match P.underlying t with | some (.pointer e)=>some e | _=>none
def B3(t:Nat):Option Nat:=match P.underlying t with | some (.slice e)=>some e | _=>none
def Kq(t:Nat):Bool:=match P.underlying t with | some .bool=>true | _=>false
def F8(t:Nat):Bool:=match P.underlying t with | some .string=>true | _=>false
def I5(t:Nat):Bool:=match P.underlying t with | some (.pointer _)=>true | _=>false
def U8(t:Nat):Bool:=match P.underlying t with | some (.func ..)=>true | _=>false
def A9(t:Nat):Bool:=match P.underlying t with | some (.struct _)=>true | some (.array _ _)=>true | _=>false
def Ee:List Field→Nat→Nat→Bool
 | [],o,tot=>o == tot
 | f::fs,o,tot=>f.offset == o&&decide (0<P.cellsOf f.type)&&Ee fs (o+P.cellsOf f.type) tot
def Cx(t:Nat):Option (List Field):=match P.underlying t with | some (.struct fs)=>if Ee P fs.toList 0 (P.cellsOf t) then some fs.toList else none | _=>none
def one(t:Nat):Bool:=P.cellsOf t == 1
def Bt(t:Nat)(x:D):L :=
 match P.underlying t with
 | some (.int k)=> .i k x.toInt
 | some .bool=> .b x.toBool
 | some .string=> .s x.toStr
 | some (.pointer e)=> .at_ e x.unref
 | _=> .d t x
def Cy:CT→D→L
 | .ty t,x=>Bt P t x
 | .int k,x=> .i k x.toInt
 | .bool,x=> .b x.toBool
 | .str,x=> .s x.toStr
 | .ref e,x=> .at_ e x.unref
def Kn:List Field→D→Nat→List L
 | [],_,_=>[]
 | f::fs,x,i=>Bt P f.type (x.fld i)::Kn fs x (i+1)
def Gb(t:Nat)(fs:List Field):L→Option (List L)
 | .agg t' ls=>if t' == t&&ls.length == fs.length then some ls else none
 | .d t' x=>if t' == t then some (Kn P fs x 0) else none
 | _=>none
def Cz(t:Nat):L→Bool
 | .d t' _=>t' == t&&P.cellsOf t != 0
 | .agg t' _=>t' == t&&A9 P t
 | .i k _=>Ka P t == some k&&one P t
 | .b _ | .lit _=>Kq P t&&one P t
 | .s _=>F8 P t&&one P t
 | .mt | .row _=>(B3 P t).isSome&&one P t
 | .ptr .. | .rptr .. | .at_ .. => I5 P t&&one P t
 | .fn .. => U8 P t&&one P t
 | _=>false
def sub:Nat→List Nat→L→Option (Nat×L)
 | t,[],l=>some (t,l)
 | t,i::p,l=>match Cx P t with
  | none=>none
  | some fs=>match Gb P t fs l with
   | none=>none
   | some ls=>match fs[i]?,ls[i]? with
    | some f,some l'=>sub f.type p l'
    | _,_=>none
def D_:Nat→List Nat→L→L→Option L
 | _,[],_,y=>some y
 | t,i::p,l,y=>match Cx P t with
  | none=>none
  | some fs=>match Gb P t fs l with
   | none=>none
   | some ls=>match fs[i]?,ls[i]? with
    | some f,some l'=>(D_ f.type p l' y).map fun z=> .agg t (ls.set i z)
    | _,_=>none
def B5:Nat→List Nat→Option Nat
 | t,[]=>some t
 | t,i::p=>match Cx P t with
  | none=>none
  | some fs=>match fs[i]? with
   | some f=>B5 f.type p
   | none=>none
def Bf:Nat→List Nat→Nat
 | _,[]=>0
 | t,i::p=>match Cx P t with
  | none=>0
  | some fs=>match fs[i]? with
   | some f=>f.offset+Bf f.type p
   | none=>0
def Sh(g:Nat→(Nat→Option Value)→Option L):List Field→(Nat→Option Value)→Option (List L)
 | [],_=>some []
 | f::fs,c=>match g f.type (fun j=>c (f.offset+j)),Sh g fs c with
  | some l,some ls=>some (l::ls)
  | _,_=>none
def Kg:Nat→Nat→(Nat→Option Value)→Option L
 | 0,_,_=>none
 | n+1,t,c=>match P.underlying t with
  | some (.int k)=>(match c 0 with | some (.int k' m)=>if k'=k∧k.min≤m∧m≤k.max then some (.i k m) else none | _=>none)
  | some .bool=>(match c 0 with | some (.bool b)=>some (.lit b) | _=>none)
  | some .string=>(match c 0 with | some (.string s)=>if s.size≤maxLen then some (.s s) else none | _=>none)
  | some (.slice _)=>(match c 0 with | some (.slice none 0 0)=>some .mt | _=>none)
  | some (.struct _)=>(match Cx P t with
   | some fs=>(Sh (Kg n) fs c).map (.agg t)
   | none=>none)
  | _=>none
end
section
variable (P:Program) (md:Nat→FMode)
def Fp(t:Nat):Option L:=match P.info? t with
 | some i=>(match i.zero with
  | some v=>if v.cells.size == P.cellsOf t&&A9 P t == C6 v&&v.cells.toList.all (·.oneCell')&&decide (0<P.cellsOf t) then (Kg P 6 t (fun j=>v.cells[j]?)) else none
  | none=>none)
 | none=>none
def CZ(t:Nat):Bool:=match P.info? t with
 | some i=>i.zero.isSome
 | none=>false
mutual
def Cd(look:Nat→Option Blk):L→Nat→Option D
 | .i k n,t=>if Ka P t == some k then some (.int n) else none
 | .b x,t=>if Kq P t then some (.bool x) else none
 | .lit x,t=>if Kq P t then some (.bool x) else none
 | .s x,t=>if F8 P t then some (.str x) else none
 | .d t' x,t=>if t' == t then some x else none
 | .mt,t=>if (B3 P t).isSome then some (.sl []) else none
 | .row r,t=>(match look r with | some (.row e es _)=>if B3 P t == some e then some (.sl es) else none | _=>none)
 | .at_ t' x,t=>if ID P t == some t' then some (.ref x) else none
 | .agg t' ls,t=>if t' == t then (match Cx P t with | some fs=>(Li look ls (fs.map (·.type))).map .agg | none=>none) else none
 | _,_=>none
def Li(look:Nat→Option Blk):List L→List Nat→Option (List D)
 | [],[]=>some []
 | l::ls,t::ts=>(match Cd look l t,Li look ls ts with | some x,some xs=>some (x::xs) | _,_=>none)
 | _,_=>none
end
def Gi(look:Nat→Option Blk):L→Option CT
 | .i k _=>some (CT.int k) | .b _=>some .bool | .lit _=>some .bool | .s _=>some .str | .d t _=>some (.ty t) | .agg t _=>some (.ty t) | .at_ t _=>some (.ref t)
 | .ptr r []=>(match look r with | some (.var t _ _)=>some (.ref t) | _=>none)
 | _=>none
def Lg(look:Nat→Option Blk):List L→Option (List CT)
 | []=>some []
 | l::ls=>(match Gi look l,Lg look ls with | some c,some cs=>some (c::cs) | _,_=>none)
def Is(look:Nat→Option Blk):L→Option D
 | .i _ n=>some (.int n) | .b x=>some (.bool x) | .lit x=>some (.bool x) | .s x=>some (.str x) | .d _ x=>some x | .at_ _ x=>some (.ref x)
 | .agg t ls=>Cd P look (.agg t ls) t
 | .ptr r []=>(match look r with | some (.var t l _)=>(Cd P look l t).map .ref | _=>none)
 | _=>none
def Lh(look:Nat→Option Blk):List L→Option (List D)
 | []=>some []
 | l::ls=>(match Is P look l,Lh look ls with | some c,some cs=>some (c::cs) | _,_=>none)
def conv(look:Nat→Option Blk)(l:L)(t:Nat):Option D:=match l with
 | .fn f caps=>(match P.underlying t,P.funcs[f]? with
  | some (.func ps rs _),some fn=>if fn.params == ps&&fn.resultTypes == rs&&decide (md f=DY md t) then (match Lg look caps,Lh P look caps with | some cts,some ds=>some (.fn f cts ds) | _,_=>none) else none
  | _,_=>none)
 | l=>Cd P look l t
def Iv(look:Nat→Option Blk):List L→List Nat→Option (List D)
 | [],[]=>some []
 | l::ls,t::ts=>(match conv P md look l t,Iv look ls ts with | some x,some xs=>some (x::xs) | _,_=>none)
 | _,_=>none
mutual
def L.ids:L→List Nat
 | .row r=>[r] | .rptr r _ _=>[r] | .ptr r _=>[r] | .agg _ ls=>L.idsL ls | .tup ls=>L.idsL ls | .fn _ ls=>L.idsL ls | _=>[]
def L.idsL:List L→List Nat
 | []=>[] | l::ls=>l.ids++L.idsL ls
end
def L.good:L→Bool | .undef=>false | .skip=>false | .tup _=>false | _=>true
def L.tob:L→Option Bool | .b x=>some x | .lit x=>some x | _=>none
def Pp:Value→L
 | .bool b=> .lit b
 | .int k n=>if k.min≤n∧n≤k.max then .i k n else .undef
 | .string s=>if s.size≤maxLen then .s s else .undef
 | .slice none 0 0=> .mt
 | _=> .undef
def Am(slot:Nat→L):Operand→L
 | .tmp t=>slot t
 | .const v=>Pp v
 | .func f=> .fn f []
 | .global _=> .undef
inductive Out where
 | val (l:L) (eff:List (Nat×Option Blk))
 | call (fm:FMode) (f:Nat) (cts:List CT) (xs:List D) (rts:List Nat) (fz:List Nat) (lent:Option (Option Nat×Nat))
structure OpR where
 conds:List Bool
 out:Out
def Bj(op:BinOp)(k:IntKind)(x y:Int):Int :=
 match op with
 | .and=>k.wrap (BitVec.ofInt k.bits x&&&BitVec.ofInt k.bits y).toNat
 | .or=>k.wrap (BitVec.ofInt k.bits x|||BitVec.ofInt k.bits y).toNat
 | .xor=>k.wrap (BitVec.ofInt k.bits x^^^BitVec.ofInt k.bits y).toNat
 | _=>k.wrap (BitVec.ofInt k.bits x&&& ~~~BitVec.ofInt k.bits y).toNat
def AV(op:BinOp)(k k':IntKind)(x y:Int):Option (List Bool×L) :=
 match op with
 | .shl=>some ([decide (0≤y)],.i k (k.wrap (x*2 ^ (min y.toNat k.bits))))
 | .shr=>some ([decide (0≤y)],.i k (x.fdiv (2 ^ (min y.toNat k.bits))))
 | _=>if k=k' then (match op with
  | .add=>some ([],.i k (k.wrap (x+y)))
  | .sub=>some ([],.i k (k.wrap (x-y)))
  | .mul=>some ([],.i k (k.wrap (x*y)))
  | .quo=>some ([!(y == 0)],.i k (k.wrap (x.tdiv y)))
  | .rem=>some ([!(y == 0)],.i k (x.tmod y))
  | .and=>some ([],.i k (Bj .and k x y))
  | .or=>some ([],.i k (Bj .or k x y))
  | .xor=>some ([],.i k (Bj .xor k x y))
  | .andNot=>some ([],.i k (Bj .andNot k x y))
  | .eql=>some ([],.b (x == y))
  | .neq=>some ([],.b (x != y))
  | .lss=>some ([],.b (decide (x<y)))
  | .leq=>some ([],.b (decide (x≤y)))
  | .gtr=>some ([],.b (decide (y<x)))
  | .geq=>some ([],.b (decide (y≤x)))
  | _=>none) else none
def AW(op:BinOp)(t:Nat)(a b:L):Option (List Bool×L) :=
 match a,b with
 | .i k x,.i k' y=>AV op k k' x y
 | .s x,.s y=>(match op with | .eql=>some ([],.b (x.toList == y.toList)) | .neq=>some ([],.b !(x.toList == y.toList)) | _=>none)
 | a,b=>(match a.tob,b.tob with
  | some x,some y=>if Kq P t then (match op with | .eql=>some ([],.b (x == y)) | .neq=>some ([],.b !(x == y)) | _=>none) else none
  | _,_=>none)
def EI(op:BinOp)(t:Nat)(y:Operand)(l:L):Option L :=
 match op,y,l with
 | .eql,.const (.slice none 0 0),.d t' v=>if t' == t&&(B3 P t).isSome then some (.ub v.els.isEmpty) else none
 | _,_,_=>none
def IM(op:UnOp)(a:L):Option L :=
 match op,a with
 | .not,.b x=>some (.b !x)
 | .not,.lit x=>some (.lit !x)
 | .neg,.i k n=>some (.i k (k.wrap (0-n)))
 | .xor,.i k n=>some (.i k (Bj .xor k (if k.signed then -1 else k.max) n))
 | _,_=>none
def Ec(look:Nat→Option Blk)(t:Nat):L→Option (List D)
 | .d t' x=>if t' == t&&(B3 P t).isSome then some x.els else none
 | .mt=>if (B3 P t).isSome then some [] else none
 | .row r=>(match look r with | some (.row e es _)=>if B3 P t == some e then some es else none | _=>none)
 | _=>none
def F5:Option Blk→Option Blk
 | some (.row e es _)=>some (.row e es false)
 | some (.var t l _)=>some (.var t l false)
 | x=>x
def Cb(look:Nat→Option Blk):List Nat→List (Nat×Option Blk)
 | []=>[]
 | r::rs=>(r,F5 (look r))::Cb look rs
mutual
def L.rows:L→List Nat
 | .row r=>[r] | .agg _ ls=>L.rowsL ls | _=>[]
def L.rowsL:List L→List Nat
 | []=>[] | l::ls=>l.rows++L.rowsL ls
end
def M_(look:Nat→Option Blk):L→List Nat
 | .ptr r _=>r::(match look r with | some (.var _ l _)=>l.rows | _=>[])
 | l=>l.rows
def C4(look:Nat→Option Blk):L→List Nat
 | .fn _ caps=>caps.flatMap (M_ look)
 | l=>l.rows
def C5(look:Nat→Option Blk)(ls:List L):List Nat:=ls.flatMap (C4 look)
def G7(t:Nat):Bool:=match P.underlying t with | some (.int _)=>true | some .bool=>true | some .string=>true | _=>false
def Ov(fs:List Field):List (Nat×L)→List L→Option (List L)
 | [],ls=>some ls
 | (i,l)::r,ls=>(match fs[i]? with | some f=>if Cz P f.type l&&decide (i<ls.length) then Ov fs r (ls.set i l) else none | none=>none)
def Dr:L→Option Int | .i _ n=>some n | _=>none
def Aj:Nat:=1073741824
def Ga(e:Nat):Bool:=decide (P.bytesOf e≤65536)&&decide (0<P.cellsOf e)
def DR(look:Nat→Option Blk)(args:List L)(ps:List Nat)(p:Nat)(back:Bool):Option (Option Nat×Nat) :=
 match args[p]?,ps[p]? with
 | some (.row r),some t=>(match look r with
  | some (.row e _ true)=>if B3 P t == some e&&one P t&& !(L.idsL (args.eraseIdx p)).contains r then some (some r,e) else none
  | _=>none)
 | some .mt,some t=>if back then none else (match B3 P t with | some e=>if one P t then some (none,e) else none | none=>none)
 | _,_=>none
def G4(rs:List Nat)(o:Nat×List Nat):Option Nat:=match rs[o.1]? with
 | some t=>(match B5 P t o.2 with | some u=>if one P u then B3 P u else none | none=>none)
 | none=>none
def Oe(rs:List Nat)(os:List (Nat×List Nat)):Bool:=os.all fun o=>(G4 P rs o).isSome
def QX(t:Nat):Bool:=A9 P t||one P t
def Wr(fm:FMode)(rs:List Nat):Bool:=match rs,fm.own with
 | [t],[(0,[])]=>(match B3 P t with | some e=>G7 P e&&one P t | none=>false)
 | _,_=>false
def S5(fm:FMode)(f:Nat)(ps rs:List Nat)(cts:List CT)(ds:List D)(look:Nat→Option Blk)(args:List L)(fz0:List Nat)(tys:List Nat):Option OpR :=
 match Iv P md look args ps with
 | none=>none
 | some xs =>
  if rs == tys&&Oe P rs fm.own&& !fm.noop&&ps.all (QX P)&&rs.all (QX P) then
   (match fm.arg with
    | none=>if fm.back then none else some ⟨[],.call fm f cts (xs++ds) rs (if rs.all (G7 P)||Wr P fm rs then [] else fz0++C5 look args) none⟩
    | some p=>(match DR P look args ps p fm.back with
     | some r=>if r.1.all (fun q=> !(fz0++C5 look (args.eraseIdx p)).contains q) then some ⟨[],.call fm f cts (xs++ds) rs (fz0++C5 look (args.eraseIdx p)) (some r)⟩ else none
     | none=>none))
  else none
def N3(mx:Bool):Option L→L→Option L
 | some (.i k x),.i k' y=>if k=k' then some (.i k (bif mx then (if x<y then y else x) else (if y<x then y else x))) else none
 | _,_=>none
def Qm(mx:Bool):List L→Option L
 | .i k x::ls=>ls.foldl (N3 mx) (some (.i k x))
 | _=>none
def VO(t:Nat):List Nat:=match P.underlying t with | some (.tuple ts)=>ts.toList | _=>[t]
def U9:Option L→Bool | some .mt=>true | _=>false
def SH(t:Nat):Bool:=match B3 P t with | some e=>decide (0<P.cellsOf e) | none=>false
def U_:Option Operand→Bool | some (.const (.int _ n))=>n == 0 | _=>false
def Co(o:Oper)(ρ:Operand→L)(look:Nat→Option Blk):Option OpR :=
 match o.op with
 | .move x=>some ⟨[],.val (ρ x) []⟩
 | .assign x=>some ⟨[],.val (ρ x) []⟩
 | .pick c a b=>(match ρ c with
  | .lit true=>some ⟨[],.val (ρ a) []⟩
  | .lit false=>some ⟨[],.val (ρ b) []⟩
  | .b x=>(match (ρ a).tob,(ρ b).tob with | some p,some q=>some ⟨[],.val (.b (bif x then p else q)) []⟩ | _,_=>none)
  | _=>none)
 | .alloc t=>(match o.dst,Fp P t with | some d,some z=>some ⟨[],.val (.ptr d []) [(d,some (.var t z true))]⟩ | _,_=>none)
 | .box t x=>(match o.dst with | some d=>if Cz P t (ρ x)&&decide (0<P.cellsOf t) then some ⟨[],.val (.ptr d []) [(d,some (.var t (ρ x) true))]⟩ else none | none=>none)
 | .build t ps=>(match Cx P t,Fp P t with
  | some fs,some (.agg t' zs)=>if t' == t&&zs.length == fs.length then (Ov P fs (ps.toList.map fun p=>(p.1,ρ p.2)) zs).map fun ls=>⟨[],.val (.agg t ls) []⟩ else none
  | _,_=>none)
 | .buildSlice t n ps=>(match o.dst,B3 P t with
  | some d,some e=>if ps.toList.map (·.1)==Amd n&&Ga P e&&decide (n*P.cellsOf e≤16777216)&&CZ P e then (match Iv P md look (ps.toList.map fun p=>ρ p.2) (ps.toList.map fun _=>e) with
   | some es=>some ⟨[],.val (.row d) (Cb look (C5 look (ps.toList.map fun p=>ρ p.2))++[(d,some (.row e es true))])⟩
   | none=>none) else none
  | _,_=>none)
 | .load t a=>(match ρ a with
  | .ptr r p=>(match look r with
   | some (.var t0 l _)=>(match sub P t0 p l with | some (t',l')=>if t' == t&&Cz P t l' then some ⟨[],.val l' []⟩ else none | none=>none)
   | _=>none)
  | .rptr r j p=>(match look r with
   | some (.row e es _)=>if B5 P e p == some t then some ⟨[],.val (Bt P t ((es.getD j .nil).path p)) []⟩ else none
   | _=>none)
  | .at_ t' x=>if t' == t&&decide (0<P.cellsOf t) then some ⟨[],.val (Bt P t x) []⟩ else none
  | _=>none)
 | .store t a v=>(match ρ a with
  | .ptr r p=>(match look r with
   | some (.var t0 l true)=>if B5 P t0 p == some t&&Cz P t (ρ v) then (D_ P t0 p l (ρ v)).map fun l'=>⟨[],.val .skip [(r,some (.var t0 l' true))]⟩ else none
   | _=>none)
  | .rptr r j p=>(match look r,conv P md look (ρ v) t with
   | some (.row e es true),some x=>if B5 P e p == some t&& !(C4 look (ρ v)).contains r then some ⟨[],.val .skip (Cb look (C4 look (ρ v))++[(r,some (.row e (es.set j ((es.getD j .nil).setP p x)) true))])⟩ else none
   | _,_=>none)
  | _=>none)
 | .binOp op t x y _=>(match EI P op t y (ρ x) with | some l=>some ⟨[],.val l []⟩ | none=>(AW P op t (ρ x) (ρ y)).map fun r=>⟨r.1,.val r.2 []⟩)
 | .unOp op _ x=>(IM op (ρ x)).map fun l=>⟨[],.val l []⟩
 | .convert s t x=>(match ρ x,Ka P t,P.underlying s with | .i _ n,some k,some _=>some ⟨[],.val (.i k (k.wrap n)) []⟩ | _,_,_=>none)
 | .makeFunc (.func f) first caps=>if first.isEmpty&&(caps.toList.map ρ).all L.good then some ⟨[],.val (.fn f (caps.toList.map ρ)) []⟩ else none
 | .makeSlice t l c=>(match o.dst,B3 P t,Dr (ρ l),Dr (ρ c) with
  | some d,some e,some n,some m=>if Ga P e then (match Fp P e with
   | some z=>(match conv P md look z e with
    | some x=>some ⟨[decide (0≤n),decide (n≤m),decide (m≤Aj)],.val (.row d) [(d,some (.row e (Alh n.toNat x) true))]⟩
    | none=>none)
   | none=>none) else none
  | _,_,_,_=>none)
 | .slice t x lo hi mx=>(match ρ x with
  | .s s=>(match lo.map (fun l=>Dr (ρ l)),hi.map (fun l=>Dr (ρ l)),mx with
   | none,none,none=>if F8 P t then some ⟨[],.val (.s s) []⟩ else none
   | some (some l),none,none=>if F8 P t then some ⟨[decide (0≤l),decide (l≤s.size)],.val (.s (s.extract l.toNat s.size)) []⟩ else none
   | none,some (some h),none=>if F8 P t then some ⟨[decide (0≤h),decide (h≤s.size)],.val (.s (s.extract 0 h.toNat)) []⟩ else none
   | some (some l),some (some h),none=>if F8 P t then some ⟨[decide (0≤l),decide (l≤h),decide (h≤s.size)],.val (.s (s.extract l.toNat h.toNat)) []⟩ else none
   | _,_,_=>none)
  | v=>(match Ec P look t v with
   | none=>none
   | some es=>if !SH P t then none else if lo.isNone&&U_ hi&&U_ mx then some ⟨[],.val .mt []⟩ else (match lo.map (fun l=>Dr (ρ l)),hi.map (fun l=>Dr (ρ l)),mx.map (fun l=>Dr (ρ l)) with
    | none,some (some h),some (some m)=>some ⟨[decide (0≤h),decide (h≤m),decide (m≤es.length)],.val (.d t (.sl (es.take h.toNat))) (Cb look v.rows)⟩
    | none,some (some h),none=>some ⟨[decide (0≤h),decide (h≤es.length)],.val (.d t (.sl (es.take h.toNat))) (Cb look v.rows)⟩
    | some (some l),none,none=>some ⟨[decide (0≤l),decide (l≤es.length)],.val (.d t (.sl (es.drop l.toNat))) (Cb look v.rows)⟩
    | some (some l),some (some h),none=>some ⟨[decide (0≤l),decide (l≤h),decide (h≤es.length)],.val (.d t (.sl ((es.take h.toNat).drop l.toNat))) (Cb look v.rows)⟩
    | _,_,_=>none)))
 | .fieldAddr t x f=>(match Cx P t with
  | none=>none
  | some fs=>(match fs[f]?,ρ x with
   | some _,.ptr r p=>(match look r with | some (.var t0 _ _)=>if B5 P t0 p == some t then some ⟨[],.val (.ptr r (p++[f])) []⟩ else none | _=>none)
   | some _,.rptr r j p=>(match look r with | some (.row e _ _)=>if B5 P e p == some t then some ⟨[],.val (.rptr r j (p++[f])) []⟩ else none | _=>none)
   | some fd,.at_ t' x=>if t' == t then some ⟨[],.val (.at_ fd.type (x.fld f)) []⟩ else none
   | _,_=>none))
 | .field t x f=>(match sub P t [f] (ρ x) with | some (t',l)=>if Cz P t' l then some ⟨[],.val l []⟩ else none | none=>none)
 | .indexAddr t x ix=>(match Dr (ρ ix),B3 P t with
  | some n,some e=>if decide (0<P.cellsOf e) then (match ρ x with
   | .d t' y=>if t' == t then some ⟨[decide (0≤n),decide (n<y.els.length)],.val (.at_ e (y.els.getD n.toNat .nil)) []⟩ else none
   | .row r=>(match look r with
    | some (.row e' es _)=>if e' == e then some ⟨[decide (0≤n),decide (n<es.length)],.val (.rptr r n.toNat []) []⟩ else none
    | _=>none)
   | _=>none) else none
  | _,_=>none)
 | .index t x ix=>(match ρ x,Dr (ρ ix) with
  | .s s,some n=>if F8 P t then some ⟨[decide (0≤n),decide (n<s.size)],.val (.i .u8 ((s.data.toList.getD n.toNat 0).toNat)) []⟩ else none
  | _,_=>none)
 | .lookup t m x ok=>(match ok,ρ m,ρ x,P.underlying t with
  | false,.d t' y,.i k n,some (.map kt E)=>if t' == t&&Ka P kt == some k&&(B3 P E).isSome&&U9 (Fp P E) then some ⟨[],.val (.d E (.sl ((y.grpI n).map .int))) []⟩ else none
  | _,_,_,_=>none)
 | .extract x n=>(match ρ x with | .tup ls=>(match ls[n]? with | some l=>some ⟨[],.val l []⟩ | none=>none) | _=>none)
 | .call c=>(match c.callee,c.args.toList.map ρ with
  | .builtin .len,[v]=>if c.argTypes.size == 0 then none else (match v,Ec P look (c.argTypes.getD 0 0) v with
   | .s s,_=>if F8 P (c.argTypes.getD 0 0) then some ⟨[],.val (.i .i64 s.size) []⟩ else none
   | _,some es=>some ⟨[],.val (.i .i64 es.length) []⟩
   | _,_=>none)
  | .builtin .append,[v,u]=>(match o.dst,B3 P (c.argTypes.getD 0 0),Ec P look (c.argTypes.getD 1 0) u with
   | some d,some e,some xs=>if c.argTypes.size == 2&&c.argTypes.getD 1 0 == c.argTypes.getD 0 0&&Ga P e&&(Fp P e).isSome then (match v with
    | .mt=>some ⟨[decide (xs.length≤Aj)],.val (.row d) [(d,some (.row e xs true))]⟩
    | .row r=>(match look r with
     | some (.row e' es true)=>if e' == e&& !(u.ids).contains r then some ⟨[decide (es.length+xs.length≤Aj)],.val (.row d) [(r,none),(d,some (.row e (es++xs) true))]⟩ else none
     | _=>none)
    | _=>none) else none
   | _,_,_=>none)
  | .builtin .copy,[.row r,u]=>(match look r,Ec P look (c.argTypes.getD 1 0) u with
   | some (.row e es true),some xs=>if c.argTypes.size == 2&&B3 P (c.argTypes.getD 0 0)==some e&&B3 P (c.argTypes.getD 1 0)==some e&& !(u.ids).contains r&&Ga P e then
     some ⟨[],.val (.i .i64 (min xs.length es.length:Nat)) [(r,some (.row e (xs.take es.length++es.drop xs.length) true))]⟩ else none
   | _,_=>none)
  | .builtin .max,args=>(Qm true args).map fun l=>⟨[],.val l []⟩
  | .builtin .min,args=>(Qm false args).map fun l=>⟨[],.val l []⟩
  | .value g,args=>(match ρ g with
   | .fn f caps=>(match P.funcs[f]?,Lg look caps,Lh P look caps with
    | some fn,some cts,some ds=>S5 P md (md f) f fn.params.toList fn.resultTypes.toList cts ds look args (caps.flatMap (M_ look)) (VO P o.type)
    | _,_,_=>none)
   | .d t x=>(match P.underlying t with
    | some (.func ps rs _)=>S5 P md (DY md t) x.fnId ps.toList rs.toList x.fnCts x.fnDs look args [] (VO P o.type)
    | _=>none)
   | _=>none)
  | _,_=>none)
 | _=>none
def EF(ρ:Operand→L):Op→List Nat
 | .load _ a=>(ρ a).ids
 | .store _ a v=>(ρ a).ids++(ρ v).ids
 | .slice _ x _ _ _=>(ρ x).ids
 | .indexAddr _ x _=>(ρ x).ids
 | .fieldAddr _ x _=>(ρ x).ids
 | .buildSlice _ _ ps=>L.idsL (ps.toList.map fun p=>ρ p.2)
 | .call c=>(match c.callee with | .value g=>(ρ g).ids | _=>[])++L.idsL (c.args.toList.map ρ)
 | _=>[]
end
structure St where
 tmps:List L
 heap:List (Nat×Blk)
 used:List Nat
 defs:List (Nat×List L)
 pins:List Nat
def St.dp (s:St):List (Nat×List L)×List Nat:=(s.defs,s.pins)
def B9:List (Nat×Blk)→Nat→Option Blk
 | [],_=>none
 | (i,b)::h,j=>bif i == j then some b else B9 h j
def Cf:List (Nat×Blk)→Nat→Blk→List (Nat×Blk)
 | [],_,_=>[]
 | (i,b)::h,j,c=>bif i == j then (i,c)::h else (i,b)::Cf h j c
def H8:List (Nat×Blk)→Nat→List (Nat×Blk)
 | [],_=>[]
 | (i,b)::h,j=>bif i == j then H8 h j else (i,b)::H8 h j
def St.slot (s:St) (t:Nat):L:=s.tmps.getD t .undef
def St.look (s:St) (b:Nat):Option Blk:=B9 s.heap b
def St.eff (s:St):List (Nat×Option Blk)→Option St
 | []=>some s
 | (b,none)::r=>St.eff { s with heap:=H8 s.heap b } r
 | (b,some k)::r=>match B9 s.heap b with
  | some _=>St.eff { s with heap:=Cf s.heap b k } r
  | none=>bif s.used.contains b then none else St.eff { s with heap:=(b,k)::s.heap,used:=b::s.used } r
def St.put (s:St) (d:Option Nat) (l:L):St:=match d with | some t=> { s with tmps:=s.tmps.set t l } | none=>s
structure Tr where
 sr:List Nat
 sw:List Nat
 hr:List Nat
 hw:List Nat
def Tr.clash (a b:Tr):Bool :=
 a.sw.any (fun x=>b.sr.contains x||b.sw.contains x)||a.sr.any (fun x=>b.sw.contains x) ||
 a.hw.any (fun x=>b.hr.contains x||b.hw.contains x)||a.hr.any (fun x=>b.hw.contains x)
def JE(ops:List Oper):List Nat :=
 ops.foldl (fun acc o=>acc++[o.after.toList.foldl (fun s e=>bif Region.binds .any e then s|||2 ^ e.on|||acc.getD e.on 0 else s) 0]) []
def Nb(bs:List Nat):Nat→List Tr→Bool
 | _,[]=>true
 | j,b::trs=>Nb bs (j+1) trs&&go j b (j+1) trs
where go (i:Nat) (a:Tr):Nat→List Tr→Bool
 | _,[]=>true
 | j,b::trs=>(!a.clash b||(bs.getD j 0).testBit i)&&go i a (j+1) trs
def KO(ops:Array Oper):Bool :=
 Region.noSelect ops&&((Amd ops.size).all fun i=>((ops[i]?).map fun o=>o.after.all fun e=> !Region.binds .any e||decide (e.on<i)).getD true)
def S7(ops:Array Oper)(trs:List Tr):Bool:=KO ops&&Nb (JE ops.toList) 0 trs
def Tree.conds:List Bool→Tree→Tree
 | [],t=>t
 | b::bs,t=> .br b (Tree.conds bs t) .fail
section
variable (P:Program) (md:Nat→FMode)
def D4:List Nat→List D→Nat→List L
 | [],_,_=>[]
 | t::ts,ys,i=>Bt P t (ys.getD i .nil)::D4 ts ys (i+1)
def Gx(o:Oper):List Nat:=match o.op with
 | .alloc _ | .box _ _ | .buildSlice .. | .makeSlice .. => o.dst.toList
 | .call c=>(match c.callee with | .builtin .append=>o.dst.toList | _=>[])
 | _=>[]
def If(d:Nat):Nat→List Nat
 | 0=>[]
 | k+1=>(d+100000*k)::If d k
def K2(ids:List Nat)(look:Nat→Option Blk)(b:Nat):Option Blk:=bif ids.contains b then look b else none
def DG(ops:Array Oper)(i:Nat):Bool:=ops.any fun o=>match o.guard with | some (g,_)=>g == i | none=>false
def TP(look:Nat→Option Blk):List Nat→List Nat
 | []=>[]
 | r::rs=>r::((match look r with | some (.var _ l _)=>l.rows | _=>[])++TP look rs)
def I3(look:Nat→Option Blk)(ρ:Operand→L)(op:Op):List Nat:=match op with
 | .load _ _=>EF ρ op
 | .fieldAddr _ _ _=>EF ρ op
 | _=>TP look (EF ρ op)
def BX:Op→Option Operand
 | .defer c=>(match c.callee with | .value g=>if c.args.isEmpty then some g else none | _=>none)
 | _=>none
def Sd(ops:Array Oper)(slot:Nat→L)(o:Oper):Option Bool:=match o.guard with
 | none=>some true
 | some (g,want)=>match (ops[g]?).bind (·.dst) with
  | some d=>(match slot d with | .lit b=>some (b == want) | .skip=>some false | _=>none)
  | none=>none
def Cv(rts:List Nat)(ys:List D):List (Nat×List Nat)→Nat→List (Nat×Option Blk)
 | [],_=>[]
 | o::os,d=>(d,(G4 P rts o).map fun e=> .row e ((ys.getD o.1 .nil).path o.2).els true)::Cv rts ys os (d+100000)
def Lf(fm:FMode)(look:Nat→Option Blk)(rts:List Nat)(fz:List Nat)(lent:Option (Option Nat×Nat))(d:Nat)(ys:List D):List (Nat×Option Blk) :=
 Cb look fz++(match lent with
  | some (some r,e)=>if fm.back then [(r,some (.row e (ys.getD rts.length .nil).els true))] else [(r,none)]
  | _=>[])++Cv P rts ys fm.own d
def Fk(rts:List Nat):List (Nat×List Nat)→Nat→List L→Option (List L)
 | [],_,ls=>some ls
 | o::os,d,ls=>match rts[o.1]?,ls[o.1]? with
  | some t,some l=>(match D_ P t o.2 l (.row d) with
   | some l'=>Fk rts os (d+100000) (ls.set o.1 l')
   | none=>none)
  | _,_=>none
def Ii:List L→L | [l]=>l | ls=> .tup ls
def M9(fm:FMode)(rts:List Nat)(d:Nat)(ys:List D):Option L:=(Fk P rts fm.own d (D4 P rts ys 0)).map Ii
def Tt(s:St)(eff:List (Nat×Option Blk))(k:St→Tree):Tree:=match s.eff eff with | none=> .fail | some s1=>k s1
def CY(g:Bool)(l:L)(k:L→Tree):Tree:=bif g then (match l with | .b x=> .br x (k (.lit true)) (k (.lit false)) | l=>k l) else k l
def Hh(ops:Array Oper):List Oper→Nat→St→List Tr→(St→List Tr→Tree)→Tree
 | [],_,s,tr,k=>k s tr.reverse
 | o::os,i,s,tr,k =>
  bif o.dst.any s.pins.contains then .fail else
  match Sd ops s.slot o with
  | none=> .fail
  | some false=>Hh ops os (i+1) (s.put o.dst .skip) (⟨o.looksAt ops,o.dst.toList,[],[]⟩::tr) k
  | some true =>
   let ids:=I3 s.look (Am s.slot) o.op
   match Co P md o (Am s.slot) (K2 ids s.look) with
   | none=> .fail
   | some r =>
    let fin (l:L) (eff:List (Nat×Option Blk)) (mk:List Nat):Tree :=
     CY (DG ops i) l (fun l'=>Tt s eff (fun s1=>Hh ops os (i+1) (s1.put o.dst l') (⟨o.looksAt ops,o.dst.toList,ids,mk++eff.map (·.1)⟩::tr) k))
    Tree.conds r.conds (match r.out with
     | .val l eff=>bif (Gx o).all (fun q=> !s.used.contains q) then fin l eff (Gx o) else .fail
     | .call fm f cts xs rts fz lent=>bif (If (o.dst.getD 0) fm.own.length).all (fun q=> !s.used.contains q) then .call f cts xs (fun ys =>
      match o.dst,M9 P fm rts (o.dst.getD 0) ys with
      | some d,some l=>fin l (Lf P fm (K2 ids s.look) rts fz lent d ys) (If d fm.own.length)
      | _,_=> .fail) else .fail)
inductive Loc where
 | slot (t:Nat) | fld (b:Nat) (p:List Nat)
structure Orc where
 slots:List (Nat×Option Nat)
 blks:List (Nat×Bool)
 rows:List (Loc×Nat×Nat)
inductive Ex where
 | normal | exit (id:Nat) | ret
mutual
def L.blur:L→L
 | .lit x=> .b x | .agg t ls=> .agg t (L.blurL ls) | .fn f ls=> .fn f (L.blurL ls) | l=>l
def L.blurL:List L→List L
 | []=>[] | l::ls=>l.blur::L.blurL ls
end
def K6(look:Nat→Option Blk)(kept:List Nat)(t:Nat)(l:L):Option L:=bif (C4 look l).all (fun r=> !kept.contains r) then (conv P md look l t).map (Bt P t) else none
def YA:List (Nat×Option Nat)→Nat→Option (Option Nat)
 | [],_=>none
 | (i,o)::r,j=>bif i == j then some o else YA r j
def Qe(look:Nat→Option Blk)(kept:List Nat)(ks:List (Nat×Option Nat)):Nat→List L→Option (List L)
 | _,[]=>some []
 | i,l::ls=>match (match YA ks i with | none=>some .undef | some none=>some l.blur | some (some t)=>K6 P md look kept t l),Qe look kept ks (i+1) ls with
  | some x,some xs=>some (x::xs)
  | _,_=>none
def Nt(h:List (Nat×Blk))(kept:List Nat):List (Nat×Bool)→Option (List (Nat×Blk))
 | []=>some []
 | (b,st)::bs=>match B9 h b,Nt h kept bs with
  | some k,some r=>(match k with
   | .var t l lv=>bif st then (K6 P md (B9 h) kept t l).map fun l'=>(b,.var t l' lv)::r else some ((b,.var t l.blur lv)::r)
   | k=>some ((b,k)::r))
  | _,_=>none
def Blk.ids:Blk→List Nat | .var _ l _=>l.ids | .row .. => []
def St.loc (s:St):Loc→Option L
 | .slot t=>some (s.slot t)
 | .fld b p=>match s.look b with | some (.var t l _)=>(sub P t p l).map (·.2) | _=>none
def St.setLoc (s:St) (l:L):Loc→Option St
 | .slot t=>some { s with tmps:=s.tmps.set t l }
 | .fld b p=>match s.look b with
  | some (.var t k lv)=>bif ((B5 P t p).map fun t'=>Cz P t' l).getD false then (D_ P t p k l).map (fun k'=> { s with heap:=Cf s.heap b (.var t k' lv) }) else none
  | _=>none
def FY(s:St)(loc:Loc)(new e:Nat):Option St :=
 match s.loc P loc with
 | some .mt=>bif s.used.contains new then none else St.setLoc P { s with heap:=(new,.row e [] true)::s.heap,used:=new::s.used } (.row new) loc
 | some (.row r)=>bif r == new then some s else bif s.used.contains new then none else (match s.look r with
  | some (.row e' es lv)=>bif e' == e then St.setLoc P { s with heap:=(new,.row e es lv)::H8 s.heap r,used:=new::s.used } (.row new) loc else none
  | _=>none)
 | _=>none
def Rb:St→List (Loc×Nat×Nat)→Option St
 | s,[]=>some s
 | s,(l,n,e)::r=>match FY P s l n e with | some s'=>Rb s' r | none=>none
def GR(s:St):List (Loc×Nat×Nat)→List (Nat×Bool)
 | []=>[]
 | (l,_,_)::r=>match s.loc P l with | some (.row i)=>(i,false)::GR s r | _=>GR s r
def St.closed (s:St) (ids:List Nat):Bool:=(L.idsL s.tmps).all ids.contains&&s.heap.all (fun b=>b.2.ids.all ids.contains)&&s.defs.all (fun d=>(L.idsL d.2).all ids.contains)
def Pn(o:Orc)(s:St):Option St :=
 let all:=o.blks++GR P s o.rows
 match Qe P md s.look (all.map (·.1)) o.slots 0 s.tmps,Nt P md s.heap (all.map (·.1)) all with
 | some tm,some h =>
  let s1:St:=⟨tm,h,h.map (·.1),s.defs,s.pins⟩
  bif s1.closed s1.used then (match Rb P s1 o.rows with
   | some s2=>(match Nt P md s2.heap ((o.blks.map (fun b=>(b.1,false))++o.rows.map (fun r=>(r.2.1,false))).map (·.1)) (o.blks.map (fun b=>(b.1,false))++o.rows.map (fun r=>(r.2.1,false))) with
    | some h2 =>
     let s3:St:=⟨s2.tmps,h2,h2.map (·.1),s2.defs,s2.pins⟩
     bif s3.closed s3.used then some s3 else none
    | none=>none)
   | none=>none) else none
 | _,_=>none
def Fg(o:Orc)(rec:St→Tree)(K:Ex→St→Tree):Ex→St→Tree:=fun x s'=>match x with
 | .normal=>(match Pn P md o s' with
  | none=> .fail
  | some s1=>rec s1)
 | x=>K x s'
def Ua(body:St→(Ex→St→Tree)→Tree)(o:Orc):Nat→St→(Ex→St→Tree)→Tree
 | 0,_,_=> .fail
 | n+1,s,K=>body s (Fg P md o (fun s1=>Ua body o n s1 K) K)
def Ls:Code→Nat
 | .region id _ _=>id
 | .seq a _=>Ls a
 | .block _ b=>Ls b
 | .loop b=>Ls b
 | _=>0
def Al:List (Nat×Orc)→Nat→Orc
 | [],_=>⟨[],[],[]⟩
 | (i,o)::r,j=>bif i == j then o else Al r j
def An(e:St→(Ex→St→Tree)→Tree)(K:Ex→St→Tree):Ex→St→Tree:=fun x s=>match x with
 | .normal=>e s K
 | x=>K x s
def EZ:List (Nat×Orc)→Nat→Option Orc
 | [],_=>none
 | (i,o)::r,j=>bif i == j then some o else EZ r j
def Va(orc:List (Nat×Orc))(b:Code):Option Orc:=EZ orc (Ls b+1000000)
def Vb(o:Option Orc)(e:St→(Ex→St→Tree)→Tree):St→(Ex→St→Tree)→Tree:=match o with
 | none=>e
 | some o=>fun s K=>match Pn P md o s with
  | none=> .fail
  | some s1=>e s1 K
def Ai(id:Nat)(K:Ex→St→Tree):Ex→St→Tree:=fun x s=>match x with
 | .exit id'=>bif id' == id then K .normal s else K (.exit id') s
 | x=>K x s
def GG(ops:Array Oper)(draw:Bool)(K:Ex→St→Tree):St→List Tr→Tree:=fun s tr=>bif draw then (bif S7 ops tr then K .normal s else .fail) else K .normal s
def Tm(ops:Array Oper)(draw:Bool):Option (Oper×Oper×Operand):=match ops.toList,draw with
 | [o0,o1],false=>(match BX o1.op with | some g=>(match o1.guard,o1.dst with | none,none=>some (o0,o1,g) | _,_=>none) | none=>none)
 | _,_=>none
def BW(g:Operand)(K:Ex→St→Tree):St→List Tr→Tree:=fun s _=>match Am s.slot g with
 | .fn f caps=>bif (md f).noop then K .normal { s with defs:=(f,caps)::s.defs } else .fail
 | _=> .fail
def OE(orc:List (Nat×Orc)):Bool:=(EZ orc 2000000).isSome
def Yp(c:Operand)(x:Bool)(s:St):St:=match c with
 | .tmp t=> { s with tmps:=s.tmps.set t (.lit x) }
 | _=>s
def ev(n:Nat)(orc:List (Nat×Orc)):Code→St→(Ex→St→Tree)→Tree
 | .skip,s,K=>K .normal s
 | .region _ ops draw,s,K=>match Tm ops draw with
  | some (o0,_,g)=>Hh P md ops [o0] 0 s [] (BW md g K)
  | none=>Hh P md ops ops.toList 0 s [] (GG ops draw K)
 | .seq a b,s,K=>ev n orc a s (An (Vb P md (Va orc b) (ev n orc b)) K)
 | .cond c a b,s,K=>match Am s.slot c with
  | .lit true=>ev n orc a s K
  | .lit false=>ev n orc b s K
  | .b x=>bif OE orc then .br x (ev n orc a (Yp c true s) K) (ev n orc b (Yp c false s) K) else .br x (ev n orc a s K) (ev n orc b s K)
  | .ub e=> .amb e (ev n orc a s K) (ev n orc b s K)
  | _=> .fail
 | .block id b,s,K=>ev n orc b s (Ai id K)
 | .loop b,s,K=>match Pn P md (Al orc (Ls b)) s with
  | none=> .fail
  | some s1=>Ua P md (ev n orc b) (Al orc (Ls b)) n s1 K
 | .exit id,s,K=>K (.exit id) s
 | .ret,s,K=>K .ret s
 | _,_,_=> .fail
def Jv:Code→List Nat→Code
 | c,[]=>c
 | .seq a b,i::p=>match i with | 0=>Jv a p | _=>Jv b p
 | .cond _ a b,i::p=>match i with | 0=>Jv a p | _=>Jv b p
 | .block _ b,_::p=>Jv b p
 | .loop b,_::p=>Jv b p
 | c,_=>c
def AZ(f:Nat):Code:=match P.funcs[f]? with | some fn=>fn.body.getD .skip | none=> .skip
def D8:List CT→List D→List L
 | c::cs,x::xs=>Cy P c x::D8 cs xs
 | _,_=>[]
def K3(s:St):List ResultVar→List Nat→Option (List D)
 | [],[]=>some []
 | r::rs,t::ts=>(match (match r with
   | .tmp x=>if Cz P t (s.slot x) then conv P md s.look (s.slot x) t else none
   | .cell a t'=>if t' == t then (match s.slot a with | .ptr b []=>(match s.look b with | some (.var t0 l _)=>if t0 == t&&Cz P t l then conv P md s.look l t else none | _=>none) | _=>none) else none),K3 s rs ts with
  | some x,some xs=>some (x::xs)
  | _,_=>none)
 | _,_=>none
def GK(s:St):ResultVar→Option L
 | .tmp x=>some (s.slot x)
 | .cell a _=>(match s.slot a with | .ptr b []=>(match s.look b with | some (.var _ l _)=>some l | _=>none) | _=>none)
def Oo(s:St)(rs:List ResultVar):List L:=rs.map fun r=>(GK s r).getD .undef
def Fb:L→List Nat→Option L
 | l,[]=>some l
 | .agg _ ls,[j]=>ls[j]?
 | _,_=>none
def N_:List (Nat×List Nat)→Bool
 | []=>true
 | x::xs=> !xs.contains x&&N_ xs
def Yc(s:St)(rs:List ResultVar)(back:Option Nat)(os:List (Nat×List Nat)):Bool :=
 let ls:=Oo s rs
 let ids:=C5 s.look ls
 N_ os&&back.all (fun p=> !ids.contains p)&&os.all fun o=>(match (ls[o.1]?).bind (fun l=>Fb l o.2) with
  | some .mt=>true
  | some (.row r)=>(match s.look r with | some (.row _ _ true)=>ids.count r == 1 | _=>false)
  | _=>false)
def AT(s:St)(e:Nat):Option Nat→Option (List D)
 | none=>some []
 | some p=>(match s.slot p,s.look p with
  | .row q,some (.row e' es true)=>bif e' == e&&q == p&&s.pins.contains p then some [.sl es] else none
  | _,_=>none)
def Fq(ps:List Nat)(fm:FMode):Nat:=((fm.arg.bind fun p=>ps[p]?).bind (B3 P)).getD 0
def GJ(fm:FMode)(ps:List Nat)(rs:List ResultVar)(ts:List Nat):Ex→St→Tree:=fun x s=>match x with
 | .exit _=> .fail
 | _=>(match K3 P md s rs ts,AT s (Fq P ps fm) (if fm.back then fm.arg else none) with
  | some ys,some bs=>bif (fm.arg.isSome|| !fm.back)&&Oe P ts fm.own&&Yc s rs (if fm.back then fm.arg else none) fm.own then .ret (ys++bs) else .fail
  | _,_=> .fail)
def DD(fm:FMode)(fn:Func)(cts:List CT)(xs:List D):Option St :=
 let ls:=D8 P (fn.params.toList.map .ty++cts) xs++Alh (fn.ntmps-xs.length) .undef
 match fm.arg with
 | none=>some ⟨ls,[],[],[],[]⟩
 | some p=>(match (fn.params.toList[p]?).bind (B3 P) with
  | some e=>some ⟨ls.set p (.row p),[(p,.row e (xs.getD p .nil).els true)],[p],[],if fm.back then [p] else []⟩
  | none=>none)
def T_(orc:List (Nat×Orc))(n:Nat)(f:Nat)(cts:List CT)(xs:List D):Tree :=
 match P.funcs[f]? with
 | none=> .fail
 | some fn=>match fn.body,DD P (md f) fn cts xs with
  | some c,some s =>
   bif xs.length == fn.params.size + cts.length && fn.nfree == cts.length && fn.results.size == fn.resultTypes.size && fn.name != "runtime.NumGoroutine" then
    ev P md n orc c s (GJ P md (md f) fn.params.toList fn.results.toList fn.resultTypes.toList)
   else .fail
  | _,_=> .fail
def Tree.run (F:Nat→List CT→List D→Option (List D)):Tree→Option (List D)
 | .ret ys=>some ys
 | .fail=>none
 | .br b t e=>bif b then t.run F else e.run F
 | .call f cts xs k=>match F f cts xs with | some ys=>(k ys).run F | none=>none
 | .amb e _ f=>bif e then none else f.run F
end
open Go.RowKit
structure Stp (N:Nat→Prop) (w w':World):Prop where
 os:w'.os=w.os
 tape:w'.tape=w.tape
 output:w'.output=w.output
 size:w.heap.size≤w'.heap.size
 block : ∀ b,b<w.heap.size→¬ N b→w'.heap[b]? = w.heap[b]?
theorem Stp.refl (N:Nat→Prop) (w:World):Stp N w w:=⟨rfl,rfl,rfl,Als _,fun _ _ _=>rfl⟩
theorem Stp.trans {N N' N'':Nat→Prop} {a b c:World} (h:Stp N a b) (k:Stp N' b c) (h1 : ∀ x,N x→N'' x) (h2 : ∀ x,x<a.heap.size→N' x→N'' x):Stp N'' a c :=
 ⟨k.os.trans h.os,k.tape.trans h.tape,k.output.trans h.output,Nat.le_trans h.size k.size,fun x hx hn=>(k.block x (Ame hx h.size) (fun hh=>hn (h2 x hx hh))).trans (h.block x hx (fun hh=>hn (h1 x hh)))⟩
theorem Stp.of_ext {N:Nat→Prop} {w w':World} (h:Ext w w'):Stp N w w':=⟨h.os,h.tape,h.output,h.size,fun b hb _=>h.block b hb⟩
theorem Stp.ext {w w':World} (h:Stp (fun _=>False) w w'):Ext w w':=⟨h.os,h.tape,h.output,h.size,fun b hb=>h.block b hb (fun h=>h)⟩
theorem Stp.weak {N N':Nat→Prop} {w w':World} (h:Stp N w w') (hN : ∀ x,N x→N' x):Stp N' w w':=⟨h.os,h.tape,h.output,h.size,fun b hb hn=>h.block b hb (fun hh=>hn (hN b hh))⟩
def CT.desc (P:Program):CT→Option TypeDesc
 | .ty t=>P.underlying t | .int k=>some (.int k) | .bool=>some .bool | .str=>some .string | .ref e=>some (.pointer e)
def CT.size (P:Program):CT→Nat | .ty t=>P.cellsOf t | _=>1
def CT.isAgg (P:Program):CT→Bool | .ty t=>A9 P t | _=>false
structure WfP (P:Program):Prop where
 one : ∀ t,A9 P t=false→(P.underlying t).isSome=true→P.cellsOf t=1
def A_:Value→Option Nat
 | .pointer (some a)=>some a.block
 | .slice (some a) _ cap=>if cap=0 then none else some a.block
 | _=>none
def Hd(v:Value):Nat:=(A_ v).getD 0
section
variable (P:Program) (md:Nat→FMode)
inductive RdC (w:World) (M:Nat→Prop):CT→D→(Nat→Option Value)→Prop where
 | int {t:CT} {k:IntKind} {n:Int} {c:Nat→Option Value} (ht:t.desc P=some (.int k)) (h1:k.min≤n) (h2:n≤k.max) (hc:c 0=some (.int k n)):RdC w M t (.int n) c
 | bool {t:CT} {b:Bool} {c:Nat→Option Value} (ht:t.desc P=some .bool) (hc:c 0=some (.bool b)):RdC w M t (.bool b) c
 | str {t:CT} {s:ByteArray} {c:Nat→Option Value} (ht:t.desc P=some .string) (hl:s.size≤maxLen) (hc:c 0=some (.string s)):RdC w M t (.str s) c
 | sl {t:CT} {e:Nat} {es:List D} {c:Nat→Option Value} {A:Option Addr} {cap bk off:Nat} (ht:t.desc P=some (.slice e)) (hc:c 0=some (.slice A es.length cap)) (h1:es.length≤cap) (h2:cap≤maxLen)
  (hA:es≠[]→A=some ⟨bk,off,none⟩∧¬ M bk∧bk<w.heap.size) (h : ∀ (i:Nat) (x:D),es[i]? = some x→RdC w M (.ty e) x (fun j=>w.cell? ⟨bk,off+(i*P.cellsOf e+j),none⟩)):RdC w M t (.sl es) c
 | struct {t:Nat} {fs:List Field} {ds:List D} {c:Nat→Option Value} (ht:Cx P t=some fs) (hl:ds.length=fs.length)
  (h : ∀ (i:Nat) (f:Field) (d:D),fs[i]? = some f→ds[i]? = some d→RdC w M (.ty f.type) d (fun j=>c (f.offset+j))):RdC w M (.ty t) (.agg ds) c
 | fn {t:Nat} {ps rs:Array TypeId} {va:Bool} {f:Nat} {fn:Func} {cts:List CT} {ds:List D} {vs:Array Value} {c:Nat→Option Value} (ht:P.underlying t=some (.func ps rs va)) (hf:P.funcs[f]? = some fn) (hp:fn.params=ps) (hr:fn.resultTypes=rs)
  (hm:md f=DY md t) (hc:c 0=some (.func (.func f) #[] vs)) (hl:cts.length=ds.length) (hl2:vs.size=ds.length)
  (h : ∀ (i:Nat) (ct:CT) (d:D) (v:Value),cts[i]? = some ct→ds[i]? = some d→vs[i]? = some v→RdC w M ct d (fun j=>v.cells[j]?))
  (hs : ∀ (i:Nat) (ct:CT) (v:Value),cts[i]? = some ct→vs[i]? = some v→v.cells.size=ct.size P∧C6 v=ct.isAgg P):RdC w M (.ty t) (.fn f cts ds) c
 | ref {t:CT} {e:Nat} {x:D} {c:Nat→Option Value} {bk off:Nat} (ht:t.desc P=some (.pointer e)) (hc:c 0=some (.pointer (some ⟨bk,off,none⟩))) (hM : ¬ M bk) (hb:bk<w.heap.size)
  (h:RdC w M (.ty e) x (fun j=>w.cell? ⟨bk,off+j,none⟩)):RdC w M t (.ref x) c
 | mp {t:CT} {k E e:Nat} {q:IntKind} {g:List (Int×List Int)} {c:Nat→Option Value} {b:Nat} {es:Array MapEntry} {clock:Nat} (ht:t.desc P=some (.map k E)) (hk:P.underlying k=some (.int q)) (hE:P.underlying E=some (.slice e)) (hc:c 0=some (.map (some b))) (hM : ¬ M b) (hb:b<w.heap.size) (hes:w.heap[b]? = some (.map es clock))
  (hkey : ∀ x∈es.toList,∃ n,x.key = .int q n) (h : ∀ x∈es.toList,∀ n,x.key = .int q n→RdC w M (.ty E) (.sl ((Gv g n).map .int)) (fun j=>x.val.cells[j]?)) (hs : ∀ x∈es.toList,C6 x.val=false) (h0 : ∀ n,(∀ x∈es.toList,x.key≠ .int q n)→Gv g n = []):RdC w M t (.mp g) c
structure Rd (w:World) (M:Nat→Prop) (t:CT) (x:D) (v:Value):Prop where
 rd:RdC P md w M t x (fun j=>v.cells[j]?)
 size:v.cells.size=t.size P
 agg:C6 v=t.isAgg P
theorem S6{w w':World}{b off:Nat}(h:w'.heap[b]? = w.heap[b]?):w'.cell? ⟨b,off,none⟩=w.cell? ⟨b,off,none⟩:=World.cell?_of_block h
variable {P md}
theorem RdC.mono {w w':World} {M M':Nat→Prop} {t:CT} {x:D} {c:Nat→Option Value} (h:RdC P md w M t x c) (hs:w.heap.size≤w'.heap.size) (hb : ∀ b,¬ M b→b<w.heap.size→w'.heap[b]? = w.heap[b]?)
  (hM : ∀ b,M' b→b<w.heap.size→M b):RdC P md w' M' t x c:=by
 induction h with
 | int ht h1 h2 hc=>exact .int ht h1 h2 hc
 | bool ht hc=>exact .bool ht hc
 | str ht hl hc=>exact .str ht hl hc
 | @sl t e es c A cap bk off ht hc h1 h2 hA h ih =>
  refine .sl (bk:=bk) (off:=off) ht hc h1 h2 (fun hne=> ?_) (fun i x hx=> ?_)
  · obtain ⟨a1,a2,a3⟩:=hA hne
    exact ⟨a1,fun hm=>a2 (hM _ hm a3),Ame a3 hs⟩
  · have hne:es≠[]:=fun e=>by rw[e]at hx;simp at hx
    obtain ⟨a1,a2,a3⟩:=hA hne
    have:=ih i x hx
    rwa[show (fun j=>w.cell? _)=(fun j=>w'.cell? _) from funext fun j=>(S6 (hb _ a2 a3)).symm]at this
 | struct ht hl h ih=>exact .struct ht hl (fun i f d hf hd=>ih i f d hf hd)
 | fn ht hf hp hr hm hc hl hl2 h hs' ih=>exact .fn ht hf hp hr hm hc hl hl2 ih hs'
 | ref ht hc hMb hbb h ih =>
  refine .ref ht hc (fun hm=>hMb (hM _ hm hbb)) (Ame hbb hs) ?_
  rwa[show (fun j=>w.cell? _)=(fun j=>w'.cell? _) from funext fun j=>(S6 (hb _ hMb hbb)).symm]at ih
 | mp ht hk hE hc hMb hbb hes hkey h hs2 h0 ih=>exact .mp ht hk hE hc (fun hm=>hMb (hM _ hm hbb)) (Ame hbb hs) ((hb _ hMb hbb).trans hes) hkey ih hs2 h0
theorem RdC.congr {w:World} {M:Nat→Prop} {t:CT} {x:D} {c c':Nat→Option Value} (h:RdC P md w M t x c) (he : ∀ j,j<t.size P→c' j=c j) (hp:0<t.size P):RdC P md w M t x c':=by
 induction h generalizing c' with
 | int ht h1 h2 hc=>exact .int ht h1 h2 ((he 0 hp).trans hc)
 | bool ht hc=>exact .bool ht ((he 0 hp).trans hc)
 | str ht hl hc=>exact .str ht hl ((he 0 hp).trans hc)
 | sl ht hc h1 h2 hA h ih=>exact .sl ht ((he 0 hp).trans hc) h1 h2 hA h
 | @struct t fs ds c ht hl h ih =>
  refine .struct ht hl (fun i f d hf hd=> ?_)
  have hok : ∀ (fs:List Field) (o tot i:Nat) (f:Field),Ee P fs o tot=true→fs[i]? = some f→0<P.cellsOf f.type∧f.offset+P.cellsOf f.type≤tot:=by
   intro fs
   induction fs with
   | nil=>intro o tot i f _ hf;simp at hf
   | cons g gs ihg =>
     intro o tot i f hk hf
     simp only[Ee,Alp,beq_iff_eq,decide_eq_true_eq]at hk
     obtain ⟨⟨k1,k2⟩,k3⟩:=hk
     cases i with
     | zero =>
      simp only[List.getElem?_cons_zero,Alo]at hf
      subst hf
      have : ∀ (gs:List Field) (o tot:Nat),Ee P gs o tot=true→o≤tot:=by
       intro gs
       induction gs with
       | nil=>intro o tot hk;simp[Ee]at hk;omega
       | cons a as' iha=>intro o tot hk;simp only[Ee,Alp,beq_iff_eq,decide_eq_true_eq]at hk;have:=iha _ _ hk.2;omega
      have:=this _ _ _ k3
      exact ⟨k2,by omega⟩
     | succ i=>exact ihg _ _ _ _ k3 (by simpa using hf)
  have hk:Ee P fs 0 (P.cellsOf t)=true:=by
   unfold Cx at ht
   split at ht
   · rename_i fs' hfs
     split at ht
     · rename_i hk;injection ht with ht;subst ht;exact hk
     · cases ht
   · cases ht
  obtain ⟨p1,p2⟩:=hok fs 0 _ i f hk hf
  refine ih i f d hf hd (fun j hj=> ?_) p1
  have:j<P.cellsOf f.type:=hj
  exact he _ (by show _<P.cellsOf t;omega)
 | fn ht hf hp' hr hm hc hl hl2 h hs ih=>exact .fn ht hf hp' hr hm ((he 0 hp).trans hc) hl hl2 h hs
 | ref ht hc hMb hbb h ih=>exact .ref ht ((he 0 hp).trans hc) hMb hbb h
 | mp ht hk hE hc hMb hbb hes hkey h hs2 h0 ih=>exact .mp ht hk hE ((he 0 hp).trans hc) hMb hbb hes hkey h hs2 h0
end
def L.size (P:Program):L→Nat | .d t _=>P.cellsOf t | .agg t _=>P.cellsOf t | _=>1
def L.isAgg (P:Program):L→Bool | .d t _=>A9 P t | .agg _ _=>true | _=>false
structure szOk (P:Program) (l:L) (v:Value):Prop where
 size:v.cells.size=l.size P
 agg:C6 v=l.isAgg P
 ones : ∀ (j:Nat) (u:Value),v.cells[j]? = some u→u.oneCell'=true
section
variable (P:Program) (md:Nat→FMode)
inductive LC (w:World) (M:Nat→Prop) (look:Nat→Option Blk) (β:Nat→Value):L→(Nat→Option Value)→Prop where
 | undef {c:Nat→Option Value} : LC w M look β .undef c
 | i {k:IntKind} {n:Int} {c:Nat→Option Value} (h1:k.min≤n) (h2:n≤k.max) (hc:c 0=some (.int k n)):LC w M look β (.i k n) c
 | b {x:Bool} {c:Nat→Option Value} (hc:c 0=some (.bool x)):LC w M look β (.b x) c
 | lit {x:Bool} {c:Nat→Option Value} (hc:c 0=some (.bool x)):LC w M look β (.lit x) c
 | ub {e:Bool} {c:Nat→Option Value} (x:Bool) (hx:x=true→e=true) (hc:c 0=some (.bool x)):LC w M look β (.ub e) c
 | s {x:ByteArray} {c:Nat→Option Value} (hl:x.size≤maxLen) (hc:c 0=some (.string x)):LC w M look β (.s x) c
 | d {t:Nat} {x:D} {c:Nat→Option Value} (h:RdC P md w M (.ty t) x c):LC w M look β (.d t x) c
 | mt {c:Nat→Option Value} {A:Option Addr} (hc:c 0=some (.slice A 0 0)):LC w M look β .mt c
 | row {r:Nat} {c:Nat→Option Value} (hu : ∃ u:Value,c 0=some u∧u.oneCell'=true) (hc : ∀ e es lv,look r=some (.row e es lv)→c 0=some (β r)):LC w M look β (.row r) c
 | rptr {r j:Nat} {p:List Nat} {c:Nat→Option Value} (hu : ∃ u:Value,c 0=some u∧u.oneCell'=true) (hc : ∀ e es lv,look r=some (.row e es lv)→j<es.length∧(B5 P e p).isSome=true∧c 0=some (.pointer (some ⟨Hd (β r),j*P.cellsOf e+Bf P e p,none⟩))):LC w M look β (.rptr r j p) c
 | ptr {r:Nat} {p:List Nat} {c:Nat→Option Value} (hu : ∃ u:Value,c 0=some u∧u.oneCell'=true) (hc : ∀ t l lv,look r=some (.var t l lv)→(B5 P t p).isSome=true∧c 0=some (.pointer (some ⟨Hd (β r),Bf P t p,none⟩))):LC w M look β (.ptr r p) c
 | at_ {t:Nat} {x:D} {c:Nat→Option Value} {bk off:Nat} (hc:c 0=some (.pointer (some ⟨bk,off,none⟩))) (hM : ¬ M bk) (hb:bk<w.heap.size) (h:RdC P md w M (.ty t) x (fun j=>w.cell? ⟨bk,off+j,none⟩)):LC w M look β (.at_ t x) c
 | agg {t:Nat} {fs:List Field} {ls:List L} {c:Nat→Option Value} (ht:Cx P t=some fs) (hl:ls.length=fs.length) (h : ∀ (i:Nat) (f:Field) (l:L),fs[i]? = some f→ls[i]? = some l→LC w M look β l (fun j=>c (f.offset+j)))
  (hz : ∀ (i:Nat) (f:Field) (l:L),fs[i]? = some f→ls[i]? = some l→0<l.size P∧l.size P≤P.cellsOf f.type):LC w M look β (.agg t ls) c
 | fn {f:Nat} {caps:List L} {vs:Array Value} {c:Nat→Option Value} (hc:c 0=some (.func (.func f) #[] vs)) (hl:vs.size=caps.length) (h : ∀ (i:Nat) (l:L) (v:Value),caps[i]? = some l→vs[i]? = some v→LC w M look β l (fun j=>v.cells[j]?))
  (hs : ∀ (i:Nat) (l:L) (v:Value),caps[i]? = some l→vs[i]? = some v→szOk P l v):LC w M look β (.fn f caps) c
def V1(w:World)(M:Nat→Prop)(look:Nat→Option Blk)(β:Nat→Value)(l:L)(v:Value):Prop:=l = .undef∨(l = .skip∧v=undef)∨(LC P md w M look β l (fun j=>v.cells[j]?)∧szOk P l v)
def VL(w:World)(M:Nat→Prop)(look:Nat→Option Blk)(β:Nat→Value)(l:L)(v:Value):Prop:=match l with
 | .tup ls=>∃ vs:Array Value,v = .tuple vs∧vs.size=ls.length∧∀ (i:Nat) (l:L) (v:Value),ls[i]? = some l→vs[i]? = some v→V1 P md w M look β l v
 | l=>V1 P md w M look β l v
def RowV(w:World)(M:Nat→Prop)(e:Nat)(es:List D)(v:Value):Prop :=
 ∃ A cap,v = .slice A es.length cap∧((es = []∧cap=0)∨∃ B cur,A=some ⟨B,0,none⟩∧0<cap∧w.heap[B]? = some (.cells cur e (0,0))∧es.length≤cap∧cap≤maxLen∧cur.size=cap*P.cellsOf e∧0<P.cellsOf e ∧
  ∀ (i:Nat) (x:D),es[i]? = some x→RdC P md w M (.ty e) x (fun j=>cur[i*P.cellsOf e+j]?))
def BR(w:World)(M:Nat→Prop)(look:Nat→Option Blk)(β:Nat→Value)(r:Nat):Blk→Prop
 | .var t l _=>∃ B cs T,β r = .pointer (some ⟨B,0,none⟩)∧w.heap[B]? = some (.cells cs T (0,0))∧cs.size=P.cellsOf t∧0<P.cellsOf t∧LC P md w M look β l (fun j=>cs[j]?)∧∀ (j:Nat) (u:Value),cs[j]? = some u→u.oneCell'=true
 | .row e es _=>RowV P md w M e es (β r)
end
def Blk.live:Blk→Bool | .var _ _ lv=>lv | .row _ _ lv=>lv
def Ap(M0:Nat→Prop)(look:Nat→Option Blk)(β:Nat→Value):Nat→Prop:=fun b=>M0 b∨∃ r k,look r=some k∧k.live=true∧A_ (β r)=some b
def likeB:Blk→Blk→Prop
 | .var t _ _,.var t' _ _=>t=t'
 | .row e es _,.row e' es' _=>e=e'∧es.length=es'.length
 | _,_=>False
theorem likeB.refl (b:Blk):likeB b b:=by cases b <;> simp[likeB]
section
variable {P:Program} {md:Nat→FMode} {w w':World} {M M':Nat→Prop} {look look':Nat→Option Blk} {β β':Nat→Value}
def Js(look look':Nat→Option Blk)(β β':Nat→Value)(r:Nat):Prop:=∀ b',look' r=some b'→∃ b,look r=some b∧likeB b b'∧β' r=β r
theorem Ks{l:L} : ∀ {ls:List L} {i:Nat},ls[i]? = some l→∀ r∈l.ids,r∈L.idsL ls
 | k::ls,0,h,r,hr=>by simp at h;subst h;simp[L.idsL,hr]
 | k::ls,i+1,h,r,hr=>by simp only[List.getElem?_cons_succ]at h;simp[L.idsL,Ks h r hr]
 | [],i,h,r,hr=>by simp at h
theorem LC.mono {l:L} {c:Nat→Option Value} (h:LC P md w M look β l c) (hs:w.heap.size≤w'.heap.size) (hb : ∀ b,¬ M b→b<w.heap.size→w'.heap[b]? = w.heap[b]?)
  (hM : ∀ b,M' b→b<w.heap.size→M b) (hk : ∀ r∈l.ids,Js look look' β β' r):LC P md w' M' look' β' l c:=by
 induction h with
 | undef=>exact .undef
 | i h1 h2 hc=>exact .i h1 h2 hc
 | b hc=>exact .b hc
 | lit hc=>exact .lit hc
 | ub x hx hc=>exact .ub x hx hc
 | s hl hc=>exact .s hl hc
 | d h=>exact .d (h.mono hs hb hM)
 | mt hc=>exact .mt hc
 | row hu hc =>
  refine .row hu (fun e es lv hl=> ?_)
  obtain ⟨b,hb1,hlk,hβ⟩:=hk _ (by simp[L.ids]) _ hl
  cases b with
  | var=>exact absurd hlk (by simp[likeB])
  | row e' es' lv'=>rw[hβ];exact hc e' es' lv' hb1
 | rptr hu hc =>
  refine .rptr hu (fun e es lv hl=> ?_)
  obtain ⟨b,hb1,hlk,hβ⟩:=hk _ (by simp[L.ids]) _ hl
  cases b with
  | var=>exact absurd hlk (by simp[likeB])
  | row e' es' lv' =>
   obtain ⟨rfl,hle⟩:=hlk
   have:=hc e' es' lv' hb1
   rw[hβ,← hle];exact this
 | ptr hu hc =>
  refine .ptr hu (fun t l lv hl=> ?_)
  obtain ⟨b,hb1,hlk,hβ⟩:=hk _ (by simp[L.ids]) _ hl
  cases b with
  | row=>exact absurd hlk (by simp[likeB])
  | var t' l' lv'=>obtain rfl:t'=t:=hlk;rw[hβ];exact hc t' l' lv' hb1
 | at_ hc hMb hbb h =>
  refine .at_ hc (fun hm=>hMb (hM _ hm hbb)) (Ame hbb hs) ?_
  have:=h.mono hs hb hM
  rwa[show (fun j=>w.cell? _)=(fun j=>w'.cell? _) from funext fun j=>(S6 (hb _ hMb hbb)).symm]at this
 | agg ht hl h hz ih=>exact .agg ht hl (fun i f l hf hli=>ih i f l hf hli (fun r hr=>hk r (by simp only[L.ids];exact Ks hli r hr))) hz
 | fn hc hl h hs' ih=>exact .fn hc hl (fun i l v hli hv=>ih i l v hli hv (fun r hr=>hk r (by simp only[L.ids];exact Ks hli r hr))) hs'
theorem V1.mono {l:L} {v:Value} (h:V1 P md w M look β l v) (hs:w.heap.size≤w'.heap.size) (hb : ∀ b,¬ M b→b<w.heap.size→w'.heap[b]? = w.heap[b]?)
  (hM : ∀ b,M' b→b<w.heap.size→M b) (hk : ∀ r∈l.ids,Js look look' β β' r):V1 P md w' M' look' β' l v:=by
 rcases h with h | h | ⟨h,h2⟩
 · exact .inl h
 · exact .inr (.inl h)
 · exact .inr (.inr ⟨h.mono hs hb hM hk,h2⟩)
theorem VL.mono {l:L} {v:Value} (h:VL P md w M look β l v) (hs:w.heap.size≤w'.heap.size) (hb : ∀ b,¬ M b→b<w.heap.size→w'.heap[b]? = w.heap[b]?)
  (hM : ∀ b,M' b→b<w.heap.size→M b) (hk : ∀ r∈l.ids,Js look look' β β' r):VL P md w' M' look' β' l v:=by
 cases l with
 | tup ls =>
  obtain ⟨vs,h1,h2,h3⟩:=h
  exact ⟨vs,h1,h2,fun i l v hl hv=>(h3 i l v hl hv).mono hs hb hM (fun r hr=>hk r (by simp only[L.ids];exact Ks hl r hr))⟩
 | _=>exact V1.mono h hs hb hM hk
theorem RowV.mono {e:Nat} {es:List D} {v:Value} (h:RowV P md w M e es v) (hs:w.heap.size≤w'.heap.size) (hb : ∀ b,¬ M b→b<w.heap.size→w'.heap[b]? = w.heap[b]?)
   (hM : ∀ b,M' b→b<w.heap.size→M b) (hw : ∀ B,A_ v=some B→w'.heap[B]? = w.heap[B]?):RowV P md w' M' e es v:=by
 obtain ⟨A,cap,rfl,h⟩:=h
 refine ⟨A,cap,rfl,?_⟩
 rcases h with h | ⟨B,cur,rfl,h0,h1,h2,h3,h4,h5,h6⟩
 · exact .inl h
 · refine .inr ⟨B,cur,rfl,h0,?_,h2,h3,h4,h5,fun i x hx=>(h6 i x hx).mono hs hb hM⟩
   rw[hw B (by simp[A_];omega)];exact h1
theorem BR.mono {r:Nat} {b:Blk} (h:BR P md w M look β r b) (hs:w.heap.size≤w'.heap.size) (hb : ∀ b,¬ M b→b<w.heap.size→w'.heap[b]? = w.heap[b]?)
  (hM : ∀ b,M' b→b<w.heap.size→M b) (hw : ∀ B,A_ (β r)=some B→w'.heap[B]? = w.heap[B]?) (hk : ∀ r∈b.ids,Js look look' β β' r) (hβ:β' r=β r):BR P md w' M' look' β' r b:=by
 cases b with
 | var t l lv =>
  obtain ⟨B,cs,T,h1,h2,h3,h4,h5,h6⟩:=h
  exact ⟨B,cs,T,by rw[hβ];exact h1,by rw[hw B (by rw[h1];rfl)];exact h2,h3,h4,h5.mono hs hb hM hk,h6⟩
 | row e es lv =>
  show RowV P md w' M' e es (β' r)
  rw[hβ]
  exact RowV.mono h hs hb hM hw
end
def Aai(P:Program)(md:Nat→FMode)(w:World)(M:Nat→Prop)(look:Nat→Option Blk)(β:Nat→Value)(d:Nat×List L)(x:Deferred):Prop :=
 ∃ vs:Array Value,x = { target:= .fn (.func d.1) vs,args:= #[] } ∧ vs.size=d.2.length∧(md d.1).noop=true
structure Dfs where
 dp:List (Nat×List L)×List Nat
 pv:Nat→Value
structure R (P:Program) (md:Nat→FMode) (w0:World) (N0 M0:Nat→Prop) (slot:Nat→L) (look:Nat→Option Blk) (used:Nat→Prop) (ds:Dfs) (n:Nat) (β:Nat→Value) (a:Act) (w:World):Prop where
 stp:Stp N0 w0 w
 m0 : ∀ b,M0 b→b<w0.heap.size∧¬ N0 b
 size:a.tmps.size=n
 slots : ∀ t,VL P md w (Ap M0 look β) look β (slot t) (a.tmps.getD t undef)
 blks : ∀ r b,look r=some b→BR P md w (Ap M0 look β) look β r b
 own : ∀ r b B,look r=some b→A_ (β r)=some B→(w0.heap.size≤B∨N0 B)∧B<w.heap.size
 sep : ∀ r q b c B,look r=some b→look q=some c→A_ (β r)=some B→A_ (β q)=some B→r=q
 usedS : ∀ t,∀ r∈(slot t).ids,used r
 usedB : ∀ q b,look q=some b→used q∧∀ r∈b.ids,used r
 defs:a.defers.length=ds.dp.1.length∧∀ (i:Nat) (d:Nat×List L) (x:Deferred),ds.dp.1[i]? = some d→a.defers[i]? = some x→Aai P md w (Ap M0 look β) look β d x
 pin : ∀ t∈ds.dp.2,a.tmps.getD t undef=ds.pv t
section
variable {P:Program} {md:Nat→FMode} {w0 w w':World} {N0 M0:Nat→Prop} {slot:Nat→L} {look look':Nat→Option Blk} {used used':Nat→Prop} {ds:Dfs} {β β':Nat→Value} {a:Act} {n:Nat}
theorem R.step (h:R P md w0 N0 M0 slot look used ds n β a w) (W:Nat→Prop) (hst:Stp W w w') (hW : ∀ b,W b→∃ r k,look r=some k∧k.live=true∧A_ (β r)=some b)
   (hold : ∀ r,used r→Js look look' β β' r)
   (hblk : ∀ r b,look' r=some b→(look r=some b∧β' r=β r∧(∀ B,A_ (β r)=some B→¬ W B))∨(BR P md w' (Ap M0 look' β') look' β' r b∧(∀ q∈b.ids,used' q)∧used' r∧(∀ B,A_ (β' r)=some B→(w0.heap.size≤B∨N0 B)∧B<w'.heap.size)))
   (hM : ∀ b,Ap M0 look' β' b→b<w.heap.size→Ap M0 look β b)
   (hsep : ∀ r q b c B,look' r=some b→look' q=some c→A_ (β' r)=some B→A_ (β' q)=some B→r=q)
   (hu : ∀ r,used r→used' r):R P md w0 N0 M0 slot look' used' ds n β' a w':=by
 have hb : ∀ b,¬ Ap M0 look β b→b<w.heap.size→w'.heap[b]? = w.heap[b]? := fun b hn hlt=>hst.block b hlt (fun hw=>hn (.inr (hW b hw)))
 refine ⟨h.stp.trans hst (fun _ hx=>hx) (fun x hx hw=> ?_),h.m0,h.size,fun t=>(h.slots t).mono hst.size hb hM (fun r hr=>hold r (h.usedS t r hr)),fun r b hr=> ?_,fun r b B hr hB=> ?_,hsep,fun t r hr=>hu r (h.usedS t r hr),fun q b hq=> ?_,h.defs,h.pin⟩
 · obtain ⟨r,k,hr,_,hB⟩:=hW x hw
   rcases (h.own r k x hr hB).1 with h1 | h1
   · omega
   · exact h1
 · rcases hblk r b hr with ⟨h1,h2,h3⟩ | ⟨h1,_⟩
   · refine (h.blks r b h1).mono hst.size hb hM (fun B hB=>hst.block B (h.own r b B h1 hB).2 (h3 B hB)) (fun q hq=>hold q ((h.usedB r b h1).2 q hq)) h2
   · exact h1
 · rcases hblk r b hr with ⟨h1,h2,h3⟩ | ⟨_,_,_,h1⟩
   · rw[h2]at hB
     have:=h.own r b B h1 hB
     exact ⟨this.1,Ame this.2 hst.size⟩
   · exact h1 B hB
 · rcases hblk q b hq with ⟨h1,_,_⟩ | ⟨_,h1,h2,_⟩
   · have:=h.usedB q b h1
     exact ⟨hu _ this.1,fun r hr=>hu _ (this.2 r hr)⟩
   · exact ⟨h2,h1⟩
theorem R.grow (h:R P md w0 N0 M0 slot look used ds n β a w) (hx:Ext w w'):R P md w0 N0 M0 slot look used ds n β a w' :=
 h.step (fun _=>False) (.of_ext hx) (fun _ hf=>hf.elim) (fun r _ b hb=>⟨b,hb,likeB.refl b,rfl⟩) (fun r b hb=> .inl ⟨hb,rfl,fun _ _ hf=>hf⟩) (fun b hb _=>hb) h.sep (fun _ hu=>hu)
def Au{α:Type}(f:Nat→α)(i:Nat)(x:α):Nat→α:=fun j=>if j=i then x else f j
theorem Bz{α:Type}(f:Nat→α)(i:Nat)(x:α):Au f i x i=x:=by simp[Au]
theorem Bo{α:Type}(f:Nat→α){i j:Nat}(x:α)(h:j≠i):Au f i x j=f j:=by simp[Au,h]
theorem R.new (h:R P md w0 N0 M0 slot look used ds n β a w) (hx:Ext w w') {r:Nat} (hr : ¬ used r) (b:Blk) (v:Value) (hids : ∀ q∈b.ids,used q)
   (hv : ∀ B,A_ v=some B→w.heap.size≤B∧B<w'.heap.size)
   (hb:BR P md w' (Ap M0 (Au look r (some b)) (Au β r v)) (Au look r (some b)) (Au β r v) r b) :
   R P md w0 N0 M0 slot (Au look r (some b)) (fun q=>used q∨q=r) ds n (Au β r v) a w':=by
 have hsz:=h.stp.size
 have hne : ∀ q,used q→q≠r:=fun q hq e=>hr (e▸hq)
 have hlr : ∀ q k,look q=some k→q≠r:=fun q k hq=>hne q (h.usedB q k hq).1
 refine h.step (fun _=>False) (.of_ext hx) (fun _ hf=>hf.elim) (fun q hq b' hb'=> ?_) (fun q k hq=> ?_) (fun x hm hlt=> ?_) (fun q1 q2 k1 k2 B h1 h2 h3 h4=> ?_) (fun _ hu=> .inl hu)
 · rw[Bo _ _ (hne q hq)]at hb' ⊢
   exact ⟨b',hb',likeB.refl _,rfl⟩
 · by_cases e:q=r
   · subst e
     rw[Bz]at hq
     injection hq with hq
     subst hq
     refine .inr ⟨hb,fun x hx=> .inl (hids x hx),.inr rfl,fun B hB=> ?_⟩
     rw[Bz]at hB
     obtain ⟨v1,v2⟩:=hv B hB
     exact ⟨.inl (by omega),v2⟩
   · rw[Bo _ _ e]at hq
     exact .inl ⟨hq,Bo _ _ e,fun _ _ hf=>hf⟩
 · rcases hm with hm | ⟨q,k,hq,hk,hB⟩
   · exact .inl hm
   · by_cases e:q=r
     · subst e
       rw[Bz]at hB
       have:=hv x hB
       omega
     · rw[Bo _ _ e]at hq hB
       exact .inr ⟨q,k,hq,hk,hB⟩
 · by_cases e1:q1=r <;> by_cases e2:q2=r
   · rw[e1,e2]
   · subst e1
     rw[Bz]at h3
     rw[Bo _ _ e2]at h2 h4
     have:=hv B h3
     have:=(h.own q2 k2 B h2 h4).2
     omega
   · subst e2
     rw[Bz]at h4
     rw[Bo _ _ e1]at h1 h3
     have:=hv B h4
     have:=(h.own q1 k1 B h1 h3).2
     omega
   · rw[Bo _ _ e1]at h1 h3
     rw[Bo _ _ e2]at h2 h4
     exact h.sep q1 q2 k1 k2 B h1 h2 h3 h4
theorem R.upd (h:R P md w0 N0 M0 slot look used ds n β a w) {r:Nat} {b b':Blk} (hr:look r=some b) (hlv:b.live=true) (hlv':b'.live=true) (hlike:likeB b b') (hst:Stp (fun x=>A_ (β r)=some x) w w') (hids : ∀ q∈b'.ids,used q)
   (hb:BR P md w' (Ap M0 (Au look r (some b')) β) (Au look r (some b')) β r b') :
   R P md w0 N0 M0 slot (Au look r (some b')) used ds n β a w':=by
 refine h.step _ hst (fun x hx=>⟨r,b,hr,hlv,hx⟩) (fun q hq k hk=> ?_) (fun q k hq=> ?_) (fun x hm hlt=> ?_) (fun q1 q2 k1 k2 B h1 h2 h3 h4=> ?_) (fun _ hu=>hu)
 · by_cases e:q=r
   · subst e
     rw[Bz]at hk
     injection hk with hk
     subst hk
     exact ⟨b,hr,hlike,rfl⟩
   · rw[Bo _ _ e]at hk
     exact ⟨k,hk,likeB.refl _,rfl⟩
 · by_cases e:q=r
   · subst e
     rw[Bz]at hq
     injection hq with hq
     subst hq
     exact .inr ⟨hb,hids,(h.usedB q b hr).1,fun B hB=>⟨(h.own q b B hr hB).1,Ame (h.own q b B hr hB).2 hst.size⟩⟩
   · rw[Bo _ _ e]at hq
     exact .inl ⟨hq,rfl,fun B hB hB'=>e (h.sep q r k b B hq hr hB hB')⟩
 · rcases hm with hm | ⟨q,k,hq,hk,hB⟩
   · exact .inl hm
   · by_cases e:q=r
     · subst e;exact .inr ⟨q,b,hr,hlv,hB⟩
     · rw[Bo _ _ e]at hq;exact .inr ⟨q,k,hq,hk,hB⟩
 · have g : ∀ q k,Au look r (some b') q=some k→∃ k',look q=some k':=fun q k hq=>by
     by_cases e:q=r
     · subst e;exact ⟨b,hr⟩
     · rw[Bo _ _ e]at hq;exact ⟨k,hq⟩
   obtain ⟨k1',g1⟩:=g q1 k1 h1
   obtain ⟨k2',g2⟩:=g q2 k2 h2
   exact h.sep q1 q2 k1' k2' B g1 g2 h3 h4
theorem R.freeze (h:R P md w0 N0 M0 slot look used ds n β a w) (r:Nat):R P md w0 N0 M0 slot (Au look r (F5 (look r))) used ds n β a w:=by
 have hfz : ∀ q b',Au look r (F5 (look r)) q=some b'→∃ b,look q=some b∧likeB b b'∧b.ids=b'.ids∧(b'.live=true→b.live=true)∧(∀ w M look' β',BR P md w M look' β' q b→BR P md w M look' β' q b'):=by
   intro q b' hq
   by_cases e:q=r
   · subst e
     rw[Bz]at hq
     cases hb:look q with
     | none=>rw[hb]at hq;cases hq
     | some b =>
      rw[hb]at hq
      cases b with
      | var t l lv=>simp only[F5,Alo]at hq;subst hq;exact ⟨_,rfl,rfl,rfl,(fun h=>by cases h),fun _ _ _ _ h=>h⟩
      | row e es lv=>simp only[F5,Alo]at hq;subst hq;exact ⟨_,rfl,⟨rfl,rfl⟩,rfl,(fun h=>by cases h),fun _ _ _ _ h=>h⟩
   · rw[Bo _ _ e]at hq
     exact ⟨b',hq,likeB.refl _,rfl,fun h=>h,fun _ _ _ _ h=>h⟩
 have hM : ∀ b,Ap M0 (Au look r (F5 (look r))) β b→b<w.heap.size→Ap M0 look β b:=by
   intro b hb _
   rcases hb with hb | ⟨q,k,hq,hk,hB⟩
   · exact .inl hb
   · obtain ⟨k',h1,_,_,h2,_⟩:=hfz q k hq
     exact .inr ⟨q,k',h1,h2 hk,hB⟩
 have hkept : ∀ q,used q→Js look (Au look r (F5 (look r))) β β q:=fun q _ b' hb'=>by
   obtain ⟨b,h1,h2,_⟩:=hfz q b' hb';exact ⟨b,h1,h2,rfl⟩
 refine h.step (fun _=>False) (Stp.refl _ _) (fun _ hf=>hf.elim) hkept (fun q k hq=> ?_) hM (fun q1 q2 k1 k2 B h1 h2 h3 h4=> ?_) (fun _ hu=>hu)
 · obtain ⟨k',h1,h2,h3,h4,h5⟩:=hfz q k hq
   refine .inr ⟨h5 _ _ _ _ ((h.blks q k' h1).mono (Als _) (fun _ _ _=>rfl) hM (fun _ _=>rfl) (fun x hx=>hkept x ((h.usedB q k' h1).2 x hx)) rfl),fun x hx=>(h.usedB q k' h1).2 x (by rw[h3];exact hx),(h.usedB q k' h1).1,fun B hB=>h.own q k' B h1 hB⟩
 · obtain ⟨k1',g1,_⟩:=hfz q1 k1 h1
   obtain ⟨k2',g2,_⟩:=hfz q2 k2 h2
   exact h.sep q1 q2 k1' k2' B g1 g2 h3 h4
theorem R.drop (h:R P md w0 N0 M0 slot look used ds n β a w) (r:Nat):R P md w0 N0 M0 slot (Au look r none) used ds n β a w:=by
 have hl : ∀ q b',Au look r none q=some b'→look q=some b':=fun q b' hq=>by
  by_cases e:q=r
  · subst e;rw[Bz]at hq;cases hq
  · rwa[Bo _ _ e]at hq
 refine h.step (fun _=>False) (Stp.refl _ _) (fun _ hf=>hf.elim) (fun q _ b' hb'=>⟨b',hl q b' hb',likeB.refl _,rfl⟩) (fun q k hq=> .inl ⟨hl q k hq,rfl,fun _ _ hf=>hf⟩) (fun b hb _=> ?_) (fun q1 q2 k1 k2 B h1 h2 h3 h4=>h.sep q1 q2 k1 k2 B (hl _ _ h1) (hl _ _ h2) h3 h4) (fun _ hu=>hu)
 rcases hb with hb | ⟨q,k,hq,hk,hB⟩
 · exact .inl hb
 · exact .inr ⟨q,k,hl q k hq,hk,hB⟩
theorem Age(a:Act)(d:Option Tmp)(v:Value):(a.put d v).tmps.size=a.tmps.size:=by cases d <;> simp[Act.put]
theorem R.put (h:R P md w0 N0 M0 slot look used ds n β a w) (d:Option Nat) (hd : ∀ t,d=some t→t<n) (hp : ∀ t,d=some t→t∉ds.dp.2) (l:L) (v:Value) (hv:VL P md w (Ap M0 look β) look β l v) (hids : ∀ r∈l.ids,used r) :
  R P md w0 N0 M0 (match d with | some t=>Au slot t l | none=>slot) look used ds n β (a.put d v) w:=by
 cases d with
 | none=>exact h
 | some t =>
  refine ⟨h.stp,h.m0,(Age a (some t) v).trans h.size,fun q=> ?_,h.blks,h.own,h.sep,fun q r hr=> ?_,h.usedB,h.defs,fun q hq=> ?_⟩
  · by_cases e:q=t
    · subst e
      show VL P md w _ look β (Au slot q l q) _
      rw[Bz]
      rw[show (a.put (some q) v).tmps.getD q undef=v by simp[Act.put,h.size,hd q rfl]]
      exact hv
    · show VL P md w _ look β (Au slot t l q) _
      rw[Bo _ _ e,show (a.put (some t) v).tmps.getD q undef=a.tmps.getD q undef by simp[Act.put,Amf,Array.getElem?_setIfInBounds_ne (Ne.symm e)]]
      exact h.slots q
  · by_cases e:q=t
    · subst e
      have:r∈(Au slot q l q).ids:=hr
      rw[Bz]at this
      exact hids r this
    · have:r∈(Au slot t l q).ids:=hr
      rw[Bo _ _ e]at this
      exact h.usedS q r this
  · have e:q≠t:=fun e=>hp t rfl (e▸hq)
    rw[show (a.put (some t) v).tmps.getD q undef=a.tmps.getD q undef by simp[Act.put,Amf,Array.getElem?_setIfInBounds_ne (Ne.symm e)]]
    exact h.pin q hq
end
end Go.Proofs.YtokkbgpgaheakaaGreat
namespace Go.Proofs.YtokkbgpgaheakaaGreat
open Go.RowKit
section
variable {P:Program} {md:Nat→FMode} {w:World} {M:Nat→Prop} {look:Nat→Option Blk} {β:Nat→Value}
theorem Eg{v:Value}(h:v.oneCell'=true) : ∀ (j:Nat) (u:Value),v.cells[j]? = some u→u.oneCell'=true:=by
 have hc:v.cells = #[v]:=by cases v <;> first | rfl | simp[Value.oneCell']at h
 intro j u hu
 rw[hc]at hu
 cases j with
 | zero=>simp at hu;subst hu;exact h
 | succ j=>simp at hu
theorem He{v:Value}(h:C6 v=false):v.cells = #[v]:=by cases v <;> first | rfl | simp[C6]at h
theorem Aar{v:Value}(h:C6 v=true) : ∃ cs,v = .agg cs:=by cases v <;> simp[C6]at h;exact ⟨_,rfl⟩
theorem C2{l:L}{v:Value}(h:VL P md w M look β l v)(h1:l≠ .undef)(h2:l≠ .skip)(h3 : ∀ ls,l≠ .tup ls):LC P md w M look β l (fun j=>v.cells[j]?)∧szOk P l v:=by
 cases l with
 | tup ls=>exact absurd rfl (h3 ls)
 | _ =>
  rcases h with h | ⟨h,_⟩ | h
  · exact absurd h h1
  · exact absurd h h2
  · exact h
theorem Di{l:L}{v:Value}(h3 : ∀ ls,l≠ .tup ls)(h:LC P md w M look β l (fun j=>v.cells[j]?))(hs:szOk P l v):VL P md w M look β l v:=by
 cases l with
 | tup ls=>exact absurd rfl (h3 ls)
 | _=>exact .inr (.inr ⟨h,hs⟩)
theorem AkA{l:L}{v:Value}(h3 : ∀ ls,l≠ .tup ls)(h:VL P md w M look β l v):V1 P md w M look β l v:=by
 cases l with
 | tup ls=>exact absurd rfl (h3 ls)
 | _=>exact h
theorem Fi{l:L}{v:Value}(hs:szOk P l v)(ha:l.isAgg P=false):v.cells = #[v]:=He (hs.agg.trans ha)
theorem Fn{k:IntKind}{n:Int}{v:Value}(h:VL P md w M look β (.i k n) v):v = .int k n∧k.min≤n∧n≤k.max:=by
 obtain ⟨hl,hs⟩:=C2 h (by simp) (by simp) (by simp)
 have hc:=Fi hs rfl
 cases hl with
 | i h1 h2 hc'=>rw[hc]at hc';simp at hc';exact ⟨hc',h1,h2⟩
theorem Kd{x:Bool}{v:Value}(h:VL P md w M look β (.b x) v):v = .bool x:=by
 obtain ⟨hl,hs⟩:=C2 h (by simp) (by simp) (by simp)
 have hc:=Fi hs rfl
 cases hl with
 | b hc'=>rw[hc]at hc';simpa using hc'
theorem Sa{x:Bool}{v:Value}(h:VL P md w M look β (.lit x) v):v = .bool x:=by
 obtain ⟨hl,hs⟩:=C2 h (by simp) (by simp) (by simp)
 have hc:=Fi hs rfl
 cases hl with
 | lit hc'=>rw[hc]at hc';simpa using hc'
theorem AkB{e:Bool}{v:Value}(h:VL P md w M look β (.ub e) v) : ∃ x,v = .bool x∧(x=true→e=true):=by
 obtain ⟨hl,hs⟩:=C2 h (by simp) (by simp) (by simp)
 have hc:=Fi hs rfl
 cases hl with
 | ub x hx hc'=>rw[hc]at hc';exact ⟨x,by simpa using hc',hx⟩
theorem AdE{e:Bool}(x:Bool)(hx:x=true→e=true):VL P md w M look β (.ub e) (.bool x):=Di (by simp) (.ub x hx rfl) ⟨rfl,rfl,Eg rfl⟩
theorem Sc{l:L}{x:Bool}{v:Value}(h:VL P md w M look β l v)(hx:l.tob=some x):v = .bool x:=by
 cases l <;> simp[L.tob]at hx
 · subst hx;exact Kd h
 · subst hx;exact Sa h
theorem O8{x:ByteArray}{v:Value}(h:VL P md w M look β (.s x) v):v = .string x∧x.size≤maxLen:=by
 obtain ⟨hl,hs⟩:=C2 h (by simp) (by simp) (by simp)
 have hc:=Fi hs rfl
 cases hl with
 | s h1 hc'=>rw[hc]at hc';simp at hc';exact ⟨hc',h1⟩
theorem Sb{v:Value}(h:VL P md w M look β .mt v) : ∃ A,v = .slice A 0 0:=by
 obtain ⟨hl,hs⟩:=C2 h (by simp) (by simp) (by simp)
 have hc:=Fi hs rfl
 cases hl with
 | mt hc'=>rw[hc]at hc';simp at hc';exact ⟨_,hc'⟩
theorem Im{r e:Nat}{es:List D}{lv:Bool}{v:Value}(h:VL P md w M look β (.row r) v)(hr:look r=some (.row e es lv)):v=β r:=by
 obtain ⟨hl,hs⟩:=C2 h (by simp) (by simp) (by simp)
 have hc:=Fi hs rfl
 cases hl with
 | row _ hc'=>have:=hc' _ _ _ hr;rw[hc]at this;simpa using this
theorem Z4{r t:Nat}{p:List Nat}{l:L}{lv:Bool}{v:Value}(h:VL P md w M look β (.ptr r p) v)(hr:look r=some (.var t l lv)):(B5 P t p).isSome=true∧v = .pointer (some ⟨Hd (β r),Bf P t p,none⟩):=by
 obtain ⟨hl,hs⟩:=C2 h (by simp) (by simp) (by simp)
 have hc:=Fi hs rfl
 cases hl with
 | ptr _ hc'=>have:=hc' _ _ _ hr;rw[hc]at this;simpa using this
theorem IS{r e j:Nat}{p:List Nat}{es:List D}{lv:Bool}{v:Value}(h:VL P md w M look β (.rptr r j p) v)(hr:look r=some (.row e es lv)):j<es.length∧(B5 P e p).isSome=true∧v = .pointer (some ⟨Hd (β r),j*P.cellsOf e+Bf P e p,none⟩):=by
 obtain ⟨hl,hs⟩:=C2 h (by simp) (by simp) (by simp)
 have hc:=Fi hs rfl
 cases hl with
 | rptr _ hc'=>have:=hc' _ _ _ hr;rw[hc]at this;simpa using this
theorem ZM{t:Nat}{x:D}{v:Value}(h:VL P md w M look β (.at_ t x) v) : ∃ bk off,v = .pointer (some ⟨bk,off,none⟩)∧¬ M bk∧bk<w.heap.size∧RdC P md w M (.ty t) x (fun j=>w.cell? ⟨bk,off+j,none⟩):=by
 obtain ⟨hl,hs⟩:=C2 h (by simp) (by simp) (by simp)
 have hc:=Fi hs rfl
 cases hl with
 | at_ hc' h1 h2 h3=>rw[hc]at hc';simp at hc';exact ⟨_,_,hc',h1,h2,h3⟩
theorem ZN{f:Nat}{caps:List L}{v:Value}(h:VL P md w M look β (.fn f caps) v) : ∃ vs:Array Value,v = .func (.func f) #[] vs∧vs.size=caps.length∧(∀ (i:Nat) (l:L) (u:Value),caps[i]? = some l→vs[i]? = some u→LC P md w M look β l (fun j=>u.cells[j]?)∧szOk P l u):=by
 obtain ⟨hl,hs⟩:=C2 h (by simp) (by simp) (by simp)
 have hc:=Fi hs rfl
 cases hl with
 | fn hc' h1 h2 h3=>rw[hc]at hc';simp at hc';exact ⟨_,hc',h1,fun i l u hi hu=>⟨h2 i l u hi hu,h3 i l u hi hu⟩⟩
theorem Fr{k:IntKind}{n:Int}(h1:k.min≤n)(h2:n≤k.max):VL P md w M look β (.i k n) (.int k n):=Di (by simp) (.i h1 h2 rfl) ⟨rfl,rfl,Eg rfl⟩
theorem Kt{x:Bool} : VL P md w M look β (.b x) (.bool x):=Di (by simp) (.b rfl) ⟨rfl,rfl,Eg rfl⟩
theorem Vq{x:Bool} : VL P md w M look β (.lit x) (.bool x):=Di (by simp) (.lit rfl) ⟨rfl,rfl,Eg rfl⟩
theorem EB{x:ByteArray}(h:x.size≤maxLen):VL P md w M look β (.s x) (.string x):=Di (by simp) (.s h rfl) ⟨rfl,rfl,Eg rfl⟩
theorem PK{A:Option Addr} : VL P md w M look β .mt (.slice A 0 0):=Di (by simp) (.mt (A:=A) rfl) ⟨rfl,rfl,Eg rfl⟩
theorem Aas{t:Nat}(h:A9 P t=true):(∃ fs,P.underlying t=some (.struct fs))∨∃ n e,P.underlying t=some (.array n e):=by
 unfold A9 at h
 split at h
 · exact .inl ⟨_,by assumption⟩
 · exact .inr ⟨_,_,by assumption⟩
 · cases h
theorem Ck{t:Nat}{fs:List Field}(h:Cx P t=some fs):(∃ a,P.underlying t=some (.struct a)∧a.toList=fs)∧Ee P fs 0 (P.cellsOf t)=true:=by
 unfold Cx at h
 split at h
 · rename_i a ha
   split at h
   · rename_i hk;injection h with h;subst h;exact ⟨⟨a,ha,rfl⟩,hk⟩
   · cases h
 · cases h
theorem Ub{t:Nat}{fs:List Field}(h:Cx P t=some fs):A9 P t=true:=by
 obtain ⟨⟨a,ha,_⟩,_⟩:=Ck h
 simp[A9,ha]
theorem Fh : ∀ {fs:List Field} {o tot i:Nat} {f:Field},Ee P fs o tot=true→fs[i]? = some f→0<P.cellsOf f.type∧o≤f.offset∧f.offset+P.cellsOf f.type≤tot
 | g::gs,o,tot,i,f,hk,hf=>by
  simp only[Ee,Alp,beq_iff_eq,decide_eq_true_eq]at hk
  obtain ⟨⟨k1,k2⟩,k3⟩:=hk
  cases i with
  | zero =>
   simp only[List.getElem?_cons_zero,Alo]at hf
   subst hf
   have : ∀ (gs:List Field) (o tot:Nat),Ee P gs o tot=true→o≤tot:=by
    intro gs
    induction gs with
    | nil=>intro o tot hk;simp[Ee]at hk;omega
    | cons a as' iha=>intro o tot hk;simp only[Ee,Alp,beq_iff_eq,decide_eq_true_eq]at hk;have:=iha _ _ hk.2;omega
   have:=this _ _ _ k3
   exact ⟨k2,by omega,by omega⟩
  | succ i=>have:=Fh k3 (by simpa using hf);exact ⟨this.1,by omega,this.2.2⟩
 | [],o,tot,i,f,hk,hf=>by simp at hf
theorem Qw : ∀ {fs:List Field} {o tot i j:Nat} {f g:Field},Ee P fs o tot=true→fs[i]? = some f→fs[j]? = some g→i<j→f.offset+P.cellsOf f.type≤g.offset
 | h::gs,o,tot,i,j,f,g,hk,hf,hg,hij=>by
  simp only[Ee,Alp,beq_iff_eq,decide_eq_true_eq]at hk
  obtain ⟨⟨k1,k2⟩,k3⟩:=hk
  cases j with
  | zero=>omega
  | succ j =>
   simp only[List.getElem?_cons_succ]at hg
   cases i with
   | zero =>
    simp only[List.getElem?_cons_zero,Alo]at hf
    subst hf
    have:=(Fh k3 hg).2.1
    omega
   | succ i=>exact Qw k3 (by simpa using hf) hg (by omega)
 | [],o,tot,i,j,f,g,hk,hf,hg,hij=>by simp at hf
theorem QV : ∀ {fs:List Field} {o tot j:Nat},Ee P fs o tot=true→o≤j→j<tot→∃ (i:Nat) (f:Field),fs[i]? = some f∧f.offset≤j∧j<f.offset+P.cellsOf f.type
 | [],o,tot,j,hk,h1,h2=>by simp[Ee]at hk;omega
 | g::gs,o,tot,j,hk,h1,h2=>by
  simp only[Ee,Alp,beq_iff_eq,decide_eq_true_eq]at hk
  obtain ⟨⟨k1,k2⟩,k3⟩:=hk
  by_cases h:j<o+P.cellsOf g.type
  · exact ⟨0,g,rfl,by omega,by omega⟩
  · obtain ⟨i,f,hf,h3,h4⟩:=QV k3 (by omega) h2
    exact ⟨i+1,f,by simpa using hf,h3,h4⟩
theorem Abs(hP:WfP P){t:CT}{d:TypeDesc}(ht:t.desc P=some d)(h1 : ∀ fs,d≠ .struct fs)(h2 : ∀ n e,d≠ .array n e):t.size P=1∧t.isAgg P=false:=by
 cases t with
 | ty t =>
  have ha:A9 P t=false:=by
   have ht':P.underlying t=some d:=ht
   unfold A9
   rw[ht']
   cases d <;> first | rfl | exact absurd rfl (h1 _) | exact absurd rfl (h2 _ _)
  exact ⟨hP.one t ha (by rw[show P.underlying t=some d from ht];rfl),ha⟩
 | _=>exact ⟨rfl,rfl⟩
theorem RdC.cells (hP:WfP P) {t:CT} {x:D} {c:Nat→Option Value} (h:RdC P md w M t x c) : ∀ j,j<t.size P→∃ u,c j=some u∧u.oneCell'=true:=by
 have go : ∀ {t:CT} {d:TypeDesc} {c:Nat→Option Value} {u:Value},t.desc P=some d→(∀ fs,d≠ .struct fs)→(∀ n e,d≠ .array n e)→c 0=some u→u.oneCell'=true→∀ j,j<t.size P→∃ u,c j=some u∧u.oneCell'=true:=by
  intro t d c u ht h1 h2 hc hu j hj
  rw[(Abs hP ht h1 h2).1]at hj
  obtain rfl:j=0:=by omega
  exact ⟨u,hc,hu⟩
 induction h with
 | int ht h1 h2 hc=>exact go ht (by simp) (by simp) hc rfl
 | bool ht hc=>exact go ht (by simp) (by simp) hc rfl
 | str ht hl hc=>exact go ht (by simp) (by simp) hc rfl
 | sl ht hc h1 h2 hA h ih=>exact go ht (by simp) (by simp) hc rfl
 | @struct t fs ds c ht hl h ih =>
  intro j hj
  obtain ⟨i,f,hf,h3,h4⟩:=QV (Ck ht).2 (Nat.zero_le _) hj
  have hi:i<ds.length:=by rw[hl];exact (Alj.1 hf).1
  obtain ⟨u,hu,h1⟩:=ih i f ds[i] hf (Alg hi) (j-f.offset) (by show _<P.cellsOf f.type;omega)
  exact ⟨u,by rw[← hu];congr 1;omega,h1⟩
 | fn ht hf hp hr hm hc hl hl2 h hs ih=>exact go ht (by simp) (by simp) hc rfl
 | ref ht hc hMb hbb h ih=>exact go ht (by simp) (by simp) hc rfl
 | mp ht hk hE hc hM hb hes hkey h hs2 h0 ih=>exact go ht (by simp) (by simp) hc rfl
theorem Wm{t:CT}{x:D}{c:Nat→Option Value}(h:RdC P md w M t x c):LC P md w M look β (Cy P t x) c:=by
 cases h with
 | @int t k n c ht h1 h2 hc=>cases t <;> simp only[CT.desc]at ht <;> simp[Cy,Bt,ht,D.toInt] <;> first | exact .i h1 h2 hc | (injection ht with ht;injection ht with ht;subst ht;exact .i h1 h2 hc) | cases ht
 | @bool t b c ht hc=>cases t <;> simp only[CT.desc]at ht <;> simp[Cy,Bt,ht,D.toBool] <;> first | exact .b hc | cases ht
 | @str t b c ht hl hc=>cases t <;> simp only[CT.desc]at ht <;> simp[Cy,Bt,ht,D.toStr] <;> first | exact .s hl hc | cases ht
 | @sl t e es c A cap bk off ht hc h1 h2 hA h=>cases t <;> simp only[CT.desc]at ht <;> simp[Cy,Bt,ht] <;> first | exact .d (.sl (t:= .ty _) ht hc h1 h2 hA h) | cases ht
 | @struct t fs ds c ht hl h =>
  obtain ⟨⟨a,ha,_⟩,_⟩:=Ck ht
  simp[Cy,Bt,ha]
  exact .d (.struct ht hl h)
 | @fn t ps rs va f fn cts ds vs c ht hf hp hr hm hc hl hl2 h hs=>simp[Cy,Bt,ht];exact .d (.fn ht hf hp hr hm hc hl hl2 h hs)
 | @mp t k E e q g c b es clock ht hk hE hc hM hb hes hkey h hs2 h0=>cases t <;> simp only[CT.desc]at ht <;> simp[Cy,Bt,ht] <;> first | exact .d (.mp (t:= .ty _) ht hk hE hc hM hb hes hkey h hs2 h0) | cases ht
 | @ref t e x c bk off ht hc hM hb h=>cases t <;> simp only[CT.desc]at ht <;> simp[Cy,Bt,ht,D.unref] <;> first | exact .at_ hc hM hb h | (injection ht with ht;injection ht with ht;subst ht;exact .at_ hc hM hb h) | cases ht
theorem AeQ{t:CT}{x:D}{c:Nat→Option Value}(h:RdC P md w M t x c):(∀ ls,Cy P t x≠ .tup ls)∧(Cy P t x).isAgg P=t.isAgg P∧((Cy P t x).size P=t.size P∨t.isAgg P=false)∧(Cy P t x).ids = []:=by
 cases h with
 | @int t k n c ht h1 h2 hc=>cases t <;> simp only[CT.desc]at ht <;> simp[Cy,Bt,ht,L.isAgg,CT.isAgg,A9,L.ids] <;> cases ht
 | @bool t b c ht hc=>cases t <;> simp only[CT.desc]at ht <;> simp[Cy,Bt,ht,L.isAgg,CT.isAgg,A9,L.ids] <;> cases ht
 | @str t b c ht hl hc=>cases t <;> simp only[CT.desc]at ht <;> simp[Cy,Bt,ht,L.isAgg,CT.isAgg,A9,L.ids] <;> cases ht
 | @sl t e es c A cap bk off ht hc h1 h2 hA h=>cases t <;> simp only[CT.desc]at ht <;> simp[Cy,Bt,ht,L.isAgg,CT.isAgg,A9,L.ids] <;> cases ht
 | @struct t fs ds c ht hl h =>
  obtain ⟨⟨a,ha,_⟩,_⟩:=Ck ht
  simp[Cy,Bt,ha,L.isAgg,CT.isAgg,L.size,CT.size,L.ids]
 | @fn t ps rs va f fn cts ds vs c ht hf hp hr hm hc hl hl2 h hs=>simp[Cy,Bt,ht,L.isAgg,CT.isAgg,A9,L.ids]
 | @ref t e x c bk off ht hc hM hb h=>cases t <;> simp only[CT.desc]at ht <;> simp[Cy,Bt,ht,L.isAgg,CT.isAgg,A9,L.ids] <;> cases ht
 | @mp t k E e q g c b es clock ht hk hE hc hM hb hes hkey h hs2 h0=>cases t <;> simp only[CT.desc]at ht <;> simp[Cy,Bt,ht,L.isAgg,CT.isAgg,A9,L.ids] <;> cases ht
theorem QR{t:CT}{x:D} : (Cy P t x).size P=t.size P∨(Cy P t x).size P=1:=by
 cases t with
 | ty t=>simp only[Cy,Bt];split <;> simp[L.size,CT.size]
 | _=>exact .inr rfl
theorem TN(hP:WfP P){t:CT}{x:D}{v:Value}(h:Rd P md w M t x v):VL P md w M look β (Cy P t x) v∧(Cy P t x).ids = []:=by
 obtain ⟨f1,f2,f3,f4⟩:=AeQ h.rd
 refine ⟨Di f1 (Wm h.rd) ⟨?_,h.agg.trans f2.symm,fun j u hu=> ?_⟩,f4⟩
 rotate_left
 · obtain ⟨u',hu',h1⟩:=h.rd.cells hP j (by rw[← h.size];exact (Amc.1 hu).1)
   have:some u=some u':=hu.symm.trans hu'
   injection this with this;subst this;exact h1
 rcases f3 with f3 | f3
 · rw[h.size,f3]
 · have hc:=He (h.agg.trans f3)
   rcases QR (P:=P) (t:=t) (x:=x) with hz | hz
   · rw[h.size,hz]
   · rw[hz,hc];rfl
theorem K0(hP:WfP P){t:Nat}{x:D}{v:Value}(h:Rd P md w M (.ty t) x v):VL P md w M look β (Bt P t x) v∧(Bt P t x).ids = []:=TN hP h
theorem EN{t:Nat}{l:L}{v:Value}(ho:Cz P t l=true)(hs:szOk P l v):v.cells.size=P.cellsOf t∧C6 v=A9 P t:=by
 obtain ⟨h1,h2,_⟩:=hs
 rw[h1,h2]
 cases l <;> simp[Cz,one]at ho <;> simp[L.size,L.isAgg]
 case i k n =>
  obtain ⟨ha,hb⟩:=ho
  refine ⟨hb.symm,?_⟩
  unfold Ka at ha;unfold A9
  split at ha <;> simp_all
 case b x=>obtain ⟨ha,hb⟩:=ho;refine ⟨hb.symm,?_⟩;unfold Kq at ha;unfold A9;split at ha <;> simp_all
 case lit x=>obtain ⟨ha,hb⟩:=ho;refine ⟨hb.symm,?_⟩;unfold Kq at ha;unfold A9;split at ha <;> simp_all
 case s x=>obtain ⟨ha,hb⟩:=ho;refine ⟨hb.symm,?_⟩;unfold F8 at ha;unfold A9;split at ha <;> simp_all
 case d t' x=>obtain ⟨rfl,_⟩:=ho;exact ⟨rfl,rfl⟩
 case mt=>obtain ⟨ha,hb⟩:=ho;refine ⟨hb.symm,?_⟩;unfold B3 at ha;unfold A9;split at ha <;> simp_all
 case row r=>obtain ⟨ha,hb⟩:=ho;refine ⟨hb.symm,?_⟩;unfold B3 at ha;unfold A9;split at ha <;> simp_all
 case rptr r j p=>obtain ⟨ha,hb⟩:=ho;refine ⟨hb.symm,?_⟩;unfold I5 at ha;unfold A9;split at ha <;> simp_all
 case ptr r p=>obtain ⟨ha,hb⟩:=ho;refine ⟨hb.symm,?_⟩;unfold I5 at ha;unfold A9;split at ha <;> simp_all
 case at_ r p=>obtain ⟨ha,hb⟩:=ho;refine ⟨hb.symm,?_⟩;unfold I5 at ha;unfold A9;split at ha <;> simp_all
 case agg t' ls=>obtain ⟨rfl,ha⟩:=ho;exact ⟨rfl,ha⟩
 case fn f ls=>obtain ⟨ha,hb⟩:=ho;refine ⟨hb.symm,?_⟩;unfold U8 at ha;unfold A9;split at ha <;> simp_all
theorem Wn{t:Nat}{l:L}(ho:Cz P t l=true):l≠ .undef∧l≠ .skip∧(∀ ls,l≠ .tup ls):=by cases l <;> simp[Cz]at ho ⊢
def Away(M':Nat→Prop)(look:Nat→Option Blk)(β:Nat→Value)(rs:List Nat):Prop:=∀ r∈rs,∀ b B,look r=some b→A_ (β r)=some B→¬ M' B
theorem L7{l:L} : ∀ {ls:List L} {i:Nat},ls[i]? = some l→∀ r∈l.rows,r∈L.rowsL ls
 | k::ls,0,h,r,hr=>by simp at h;subst h;simp[L.rowsL,hr]
 | k::ls,i+1,h,r,hr=>by simp only[List.getElem?_cons_succ]at h;simp[L.rowsL,L7 h r hr]
 | [],i,h,r,hr=>by simp at h
theorem WB{M':Nat→Prop}{t:CT}{e:Nat}{es:List D}{v:Value}{c:Nat→Option Value}(h:RowV P md w M e es v)(ht:t.desc P=some (.slice e))(hc:c 0=some v)(hM : ∀ b,M' b→M b)(ha : ∀ B,A_ v=some B→¬ M' B):RdC P md w M' t (.sl es) c:=by
 obtain ⟨A,cap,rfl,h⟩:=h
 rcases h with ⟨rfl,rfl⟩ | ⟨B,cur,rfl,h0,h1,h2,h3,h4,h5,h6⟩
 · exact .sl (bk:=0) (off:=0) ht hc (by simp) (by simp) (fun hne=>absurd rfl hne) (fun i x hx=>by simp at hx)
 · have hlt:B<w.heap.size:=(Amc.1 h1).1
   refine .sl (bk:=B) (off:=0) ht hc h2 h3 (fun _=>⟨rfl,ha B (by simp[A_];omega),hlt⟩) (fun i x hx=> ?_)
   have:=(h6 i x hx).mono (w':=w) (Als _) (fun _ _ _=>rfl) (fun b hb _=>hM b hb)
   rwa[show (fun j=>cur[i*P.cellsOf e+j]?)=(fun j=>w.cell? ⟨B,0+(i*P.cellsOf e+j),none⟩) from funext fun j=>by rw[cell_of_row w B _ cur e (0,0) h1,Amn]]at this
theorem Dd{t e:Nat}(h:B3 P t=some e):P.underlying t=some (.slice e):=by
 unfold B3 at h
 split at h
 · injection h with h;subst h;assumption
 · cases h
theorem O0{t:Nat}{k:IntKind}(h:Ka P t=some k):P.underlying t=some (.int k):=by
 unfold Ka at h
 split at h
 · injection h with h;subst h;assumption
 · cases h
theorem YQ{t e:Nat}(h:ID P t=some e):P.underlying t=some (.pointer e):=by
 unfold ID at h
 split at h
 · injection h with h;subst h;assumption
 · cases h
theorem J3{t:Nat}(h:Kq P t=true):P.underlying t=some .bool:=by unfold Kq at h;split at h <;> first | assumption | cases h
theorem Lz{t:Nat}(h:F8 P t=true):P.underlying t=some .string:=by unfold F8 at h;split at h <;> first | assumption | cases h
theorem Tc{lookR:Nat→Option Blk} : ∀ {ls:List L} {ts:List Nat} {xs:List D},Li P lookR ls ts=some xs→ls.length=ts.length∧xs.length=ts.length∧∀ (i:Nat) (l:L) (t:Nat) (x:D),ls[i]? = some l→ts[i]? = some t→xs[i]? = some x→Cd P lookR l t=some x
 | [],[],xs,h=>by simp[Li]at h;subst h;simp
 | l::ls,t::ts,xs,h=>by
  simp only[Li]at h
  split at h
  · rename_i x ys hx hys
    injection h with h;subst h
    obtain ⟨h1,h2,h3⟩:=Tc hys
    refine ⟨by simp[h1],by simp[h2],fun i l' t' x' hl ht hx'=> ?_⟩
    cases i with
    | zero=>simp at hl ht hx';subst hl;subst ht;subst hx';exact hx
    | succ i=>exact h3 i l' t' x' (by simpa using hl) (by simpa using ht) (by simpa using hx')
  · cases h
 | [],t::ts,xs,h=>by simp[Li]at h
 | l::ls,[],xs,h=>by simp[Li]at h
theorem Pq{M':Nat→Prop}{lookR:Nat→Option Blk}(hsub : ∀ r b,lookR r=some b→look r=some b)(hM : ∀ b,M' b→M b)(hblk : ∀ r e es lv,look r=some (.row e es lv)→RowV P md w M e es (β r))
  {l:L} {c:Nat→Option Value} (h:LC P md w M look β l c) : ∀ {t:Nat} {x:D},Cd P lookR l t=some x→Away M' look β l.rows→RdC P md w M' (.ty t) x c:=by
 induction h with
 | undef=>intro t x hx;simp[Cd]at hx
 | ub=>intro t x hx;simp[Cd]at hx
 | @i k n c h1 h2 hc=>intro t x hx _;simp[Cd]at hx;obtain ⟨ht,rfl⟩:=hx;exact .int (t:= .ty t) (O0 ht) h1 h2 hc
 | b hc=>intro t x hx _;simp[Cd]at hx;obtain ⟨ht,rfl⟩:=hx;exact .bool (t:= .ty t) (J3 ht) hc
 | lit hc=>intro t x hx _;simp[Cd]at hx;obtain ⟨ht,rfl⟩:=hx;exact .bool (t:= .ty t) (J3 ht) hc
 | s hl hc=>intro t x hx _;simp[Cd]at hx;obtain ⟨ht,rfl⟩:=hx;exact .str (t:= .ty t) (Lz ht) hl hc
 | d h=>intro t x hx _;simp[Cd]at hx;obtain ⟨rfl,rfl⟩:=hx;exact h.mono (Als _) (fun _ _ _=>rfl) (fun b hb _=>hM b hb)
 | @mt c A hc =>
  intro t x hx _
  simp[Cd]at hx
  obtain ⟨ht,rfl⟩:=hx
  obtain ⟨e,he⟩:=Option.isSome_iff_exists.1 ht
  exact .sl (t:= .ty t) (bk:=0) (off:=0) (Dd he) hc (by simp) (by simp) (fun hne=>absurd rfl hne) (fun i x hx=>by simp at hx)
 | @row r c hu hc =>
  intro t x hx ha
  simp only[Cd]at hx
  split at hx
  · rename_i e es lv hr
    split at hx
    · rename_i he
      injection hx with hx;subst hx
      have hlk:=hsub _ _ hr
      exact WB (hblk r e es lv hlk) (t:= .ty t) (Dd (by simpa using he)) (hc e es lv hlk) hM (fun B=>ha r (by simp[L.rows]) _ B hlk)
    · cases hx
  · cases hx
 | rptr _ hc=>intro t x hx;simp[Cd]at hx
 | ptr _ hc=>intro t x hx;simp[Cd]at hx
 | at_ hc hMb hb h=>intro t x hx _;simp[Cd]at hx;obtain ⟨ht,rfl⟩:=hx;exact .ref (t:= .ty t) (YQ ht) hc (fun hm=>hMb (hM _ hm)) hb (h.mono (Als _) (fun _ _ _=>rfl) (fun b hb _=>hM b hb))
 | @agg t' fs ls c ht hl h hz ih =>
  intro t x hx ha
  simp only[Cd]at hx
  split at hx
  · rename_i hte
    obtain rfl:t'=t:=by simpa using hte
    rw[ht]at hx
    simp only[Alv]at hx
    obtain ⟨xs,hxs,rfl⟩:=hx
    obtain ⟨h1,h2,h3⟩:=Tc hxs
    refine .struct ht (by simpa using h2) (fun i f d hf hd=> ?_)
    have hi:i<ls.length:=by rw[hl];exact (Alj.1 hf).1
    exact ih i f ls[i] hf (Alg hi) (h3 i ls[i] f.type d (Alg hi) (by rw[Aly,hf];rfl) hd) (fun r hr=>ha r (by simp only[L.rows];exact L7 (Alg hi) r hr))
  · cases hx
 | fn hc hl h hs=>intro t x hx;simp[Cd]at hx
theorem BD{M':Nat→Prop}{lookR:Nat→Option Blk}(hsub : ∀ r b,lookR r=some b→look r=some b)(hM : ∀ b,M' b→M b)(hblk : ∀ r b,look r=some b→BR P md w M look β r b)(hlt : ∀ r b B,look r=some b→A_ (β r)=some B→B<w.heap.size)
  {l:L} {v:Value} {ct:CT} {x:D} (h:LC P md w M look β l (fun j=>v.cells[j]?)) (hs:szOk P l v) (h1:Gi lookR l=some ct) (h2:Is P lookR l=some x) (ha:Away M' look β (M_ lookR l)) :
  RdC P md w M' ct x (fun j=>v.cells[j]?)∧v.cells.size=ct.size P∧C6 v=ct.isAgg P:=by
 have hrow : ∀ r e es lv,look r=some (.row e es lv)→RowV P md w M e es (β r):=fun r e es lv hr=>hblk r _ hr
 obtain ⟨s1,s2,_⟩:=hs
 rw[s1,s2]
 cases l with
 | i k n=>simp[Gi]at h1;simp[Is]at h2;subst h1;subst h2;cases h with | i a b hc=>exact ⟨.int rfl a b hc,rfl,rfl⟩
 | b y=>simp[Gi]at h1;simp[Is]at h2;subst h1;subst h2;cases h with | b hc=>exact ⟨.bool rfl hc,rfl,rfl⟩
 | lit y=>simp[Gi]at h1;simp[Is]at h2;subst h1;subst h2;cases h with | lit hc=>exact ⟨.bool rfl hc,rfl,rfl⟩
 | s y=>simp[Gi]at h1;simp[Is]at h2;subst h1;subst h2;cases h with | s hl hc=>exact ⟨.str rfl hl hc,rfl,rfl⟩
 | d t y=>simp[Gi]at h1;simp[Is]at h2;subst h1;subst h2;cases h with | d h=>exact ⟨h.mono (Als _) (fun _ _ _=>rfl) (fun b hb _=>hM b hb),rfl,rfl⟩
 | at_ t y=>simp[Gi]at h1;simp[Is]at h2;subst h1;subst h2;cases h with | at_ hc hMb hb h=>exact ⟨.ref rfl hc (fun hm=>hMb (hM _ hm)) hb (h.mono (Als _) (fun _ _ _=>rfl) (fun b hb _=>hM b hb)),rfl,rfl⟩
 | agg t ls =>
  simp[Gi]at h1
  subst h1
  refine ⟨Pq hsub hM hrow h h2 ha,rfl,?_⟩
  cases h with
  | agg ht _ _ _=>exact (Ub ht).symm
 | ptr r p =>
  cases p with
  | cons a p=>simp[Gi]at h1
  | nil =>
   simp only[Gi]at h1
   simp only[Is]at h2
   split at h1
   · rename_i t l' lv hr
     injection h1 with h1;subst h1
     rw[hr]at h2
     simp only[Alv]at h2
     obtain ⟨y,hy,rfl⟩:=h2
     have hlk:=hsub _ _ hr
     obtain ⟨B,cs,T,b1,b2,b3,b4,b5,b6⟩:=hblk r _ hlk
     cases h with
     | ptr _ hc =>
      have hc':=(hc t l' lv hlk).2
      have hB:Hd (β r)=B:=by rw[b1];rfl
      rw[hB]at hc'
      have hoB:A_ (β r)=some B:=by rw[b1];rfl
      refine ⟨.ref rfl hc' (ha r (by simp[M_]) _ B hlk hoB) (hlt r _ B hlk hoB) ?_,rfl,rfl⟩
      have:=Pq hsub hM hrow b5 hy (fun q hq=>ha q (by simp[M_,hr,hq]))
      rwa[show (fun j=>cs[j]?)=(fun j=>w.cell? ⟨B,Bf P t []+j,none⟩) from funext fun j=>by rw[cell_of_row w B _ cs T (0,0) b2];simp[Bf]]at this
   · cases h1
 | _=>simp[Gi]at h1
theorem BC{lookR:Nat→Option Blk} : ∀ {ls:List L} {cs:List CT},Lg lookR ls=some cs→cs.length=ls.length∧∀ (i:Nat) (l:L) (c:CT),ls[i]? = some l→cs[i]? = some c→Gi lookR l=some c
 | [],cs,h=>by simp[Lg]at h;subst h;simp
 | l::ls,cs,h=>by
  simp only[Lg]at h
  split at h
  · rename_i x ys hx hys
    injection h with h;subst h
    obtain ⟨h1,h3⟩:=BC hys
    refine ⟨by simp[h1],fun i l' c' hl hc=> ?_⟩
    cases i with
    | zero=>simp at hl hc;subst hl;subst hc;exact hx
    | succ i=>exact h3 i l' c' (by simpa using hl) (by simpa using hc)
  · cases h
theorem BE{lookR:Nat→Option Blk} : ∀ {ls:List L} {cs:List D},Lh P lookR ls=some cs→cs.length=ls.length∧∀ (i:Nat) (l:L) (c:D),ls[i]? = some l→cs[i]? = some c→Is P lookR l=some c
 | [],cs,h=>by simp[Lh]at h;subst h;simp
 | l::ls,cs,h=>by
  simp only[Lh]at h
  split at h
  · rename_i x ys hx hys
    injection h with h;subst h
    obtain ⟨h1,h3⟩:=BE hys
    refine ⟨by simp[h1],fun i l' c' hl hc=> ?_⟩
    cases i with
    | zero=>simp at hl hc;subst hl;subst hc;exact hx
    | succ i=>exact h3 i l' c' (by simpa using hl) (by simpa using hc)
  · cases h
theorem Away.sub {M':Nat→Prop} {rs qs:List Nat} (h:Away M' look β rs) (hq : ∀ r∈qs,r∈rs):Away M' look β qs:=fun r hr=>h r (hq r hr)
theorem BJ{l:L}{lookR:Nat→Option Blk}{t:Nat}(h : ∀ f caps,l≠ .fn f caps):conv P md lookR l t=Cd P lookR l t:=by cases l <;> first | rfl | exact absurd rfl (h _ _)
theorem Tb{M':Nat→Prop}{lookR:Nat→Option Blk}(hsub : ∀ r b,lookR r=some b→look r=some b)(hM : ∀ b,M' b→M b)(hblk : ∀ r b,look r=some b→BR P md w M look β r b)(hlt : ∀ r b B,look r=some b→A_ (β r)=some B→B<w.heap.size)
   {l:L} {c:Nat→Option Value} {t:Nat} {x:D} (h:LC P md w M look β l c) (hx:conv P md lookR l t=some x) (ha:Away M' look β (C4 lookR l)):RdC P md w M' (.ty t) x c:=by
 by_cases hf : ∃ f caps,l = .fn f caps
 · obtain ⟨f,caps,rfl⟩:=hf
   simp only[conv]at hx
   split at hx
   · rename_i ps rs va fn hu hfn
     split at hx
     · rename_i hcond
       simp only[Alp,beq_iff_eq]at hcond
       split at hx
       · rename_i cts ds hcts hds
         injection hx with hx;subst hx
         cases h with
         | fn hc hl h' hs =>
          obtain ⟨c1,c2⟩:=BC hcts
          obtain ⟨d1,d2⟩:=BE hds
          refine .fn (t:=t) hu hfn hcond.1.1 hcond.1.2 (of_decide_eq_true hcond.2) hc (by rw[c1,d1]) (by rw[hl,d1]) (fun i ct d v hct hd hv=> ?_) (fun i ct v hct hv=> ?_)
          · have hi:i<caps.length:=by rw[← c1];exact (Alj.1 hct).1
            have hli:=Alg hi
            refine (BD hsub hM hblk hlt (h' i _ v hli hv) (hs i _ v hli hv) (c2 i _ ct hli hct) (d2 i _ d hli hd) (ha.sub fun r hr=> ?_)).1
            simp only[C4,List.mem_flatMap]
            exact ⟨_,Amj hi,hr⟩
          · have hi:i<caps.length:=by rw[← c1];exact (Alj.1 hct).1
            have hli:=Alg hi
            have hdi:i<ds.length:=by rw[d1];exact hi
            refine (BD hsub hM hblk hlt (h' i _ v hli hv) (hs i _ v hli hv) (c2 i _ ct hli hct) (d2 i _ _ hli (Alg hdi)) (ha.sub fun r hr=> ?_)).2
            simp only[C4,List.mem_flatMap]
            exact ⟨_,Amj hi,hr⟩
       · cases hx
     · cases hx
   · cases hx
 · have hne : ∀ f caps,l≠ .fn f caps:=fun f caps e=>hf ⟨f,caps,e⟩
   rw[BJ hne]at hx
   refine Pq hsub hM (fun r e es lv hr=>hblk r _ hr) h hx (ha.sub fun r hr=> ?_)
   cases l <;> first | exact hr | exact absurd rfl (hne _ _)
theorem Td{lookR:Nat→Option Blk} : ∀ {ls:List L} {ts:List Nat} {xs:List D},Iv P md lookR ls ts=some xs→ls.length=ts.length∧xs.length=ts.length∧∀ (i:Nat) (l:L) (t:Nat) (x:D),ls[i]? = some l→ts[i]? = some t→xs[i]? = some x→conv P md lookR l t=some x
 | [],[],xs,h=>by simp[Iv]at h;subst h;simp
 | l::ls,t::ts,xs,h=>by
  simp only[Iv]at h
  split at h
  · rename_i x ys hx hys
    injection h with h;subst h
    obtain ⟨h1,h2,h3⟩:=Td hys
    refine ⟨by simp[h1],by simp[h2],fun i l' t' x' hl ht hx'=> ?_⟩
    cases i with
    | zero=>simp at hl ht hx';subst hl;subst ht;subst hx';exact hx
    | succ i=>exact h3 i l' t' x' (by simpa using hl) (by simpa using ht) (by simpa using hx')
  · cases h
 | [],t::ts,xs,h=>by simp[Iv]at h
 | l::ls,[],xs,h=>by simp[Iv]at h
theorem Ta{lookR:Nat→Option Blk}{l:L}{t:Nat}{x:D}(h:conv P md lookR l t=some x):l≠ .undef∧l≠ .skip∧(∀ ls,l≠ .tup ls):=by
 cases l <;> simp[conv,Cd]at h ⊢
theorem Abo{lookR:Nat→Option Blk}{l:L}{c:Nat→Option Value}{t:Nat}{x:D}{v:Value}(hx:conv P md lookR l t=some x)(h:LC P md w M look β l c)(hs:szOk P l v):(A9 P t=false→v.cells.size=1∨v.cells.size=P.cellsOf t)∧(A9 P t=true→v.cells.size=P.cellsOf t)∧C6 v=A9 P t:=by
 obtain ⟨s1,s2,_⟩:=hs
 rw[s1,s2]
 have na : ∀ d,P.underlying t=some d→(∀ fs,d≠ .struct fs)→(∀ n e,d≠ .array n e)→A9 P t=false:=by
  intro d hd h1 h2
  unfold A9
  rw[hd]
  cases d <;> first | rfl | exact absurd rfl (h1 _) | exact absurd rfl (h2 _ _)
 cases l with
 | i k n=>simp[conv,Cd]at hx;have:=na _ (O0 hx.1) (by simp) (by simp);simp[L.size,L.isAgg,this]
 | b y=>simp[conv,Cd]at hx;have:=na _ (J3 hx.1) (by simp) (by simp);simp[L.size,L.isAgg,this]
 | lit y=>simp[conv,Cd]at hx;have:=na _ (J3 hx.1) (by simp) (by simp);simp[L.size,L.isAgg,this]
 | s y=>simp[conv,Cd]at hx;have:=na _ (Lz hx.1) (by simp) (by simp);simp[L.size,L.isAgg,this]
 | d t' y=>simp[conv,Cd]at hx;obtain ⟨rfl,_⟩:=hx;simp[L.size,L.isAgg]
 | mt =>
  simp[conv,Cd]at hx
  obtain ⟨e,he⟩:=Option.isSome_iff_exists.1 hx.1
  have:=na _ (Dd he) (by simp) (by simp);simp[L.size,L.isAgg,this]
 | row r =>
  simp only[conv,Cd]at hx
  split at hx
  · split at hx
    · rename_i he
      have:=na _ (Dd (by simpa using he)) (by simp) (by simp);simp[L.size,L.isAgg,this]
    · cases hx
  · cases hx
 | at_ t' y=>simp[conv,Cd]at hx;have:=na _ (YQ hx.1) (by simp) (by simp);simp[L.size,L.isAgg,this]
 | agg t' ls =>
  simp only[conv,Cd]at hx
  split at hx
  · rename_i hte
    obtain rfl:t'=t:=by simpa using hte
    cases h with
    | agg ht _ _ _=>simp[L.size,L.isAgg,Ub ht]
  · cases hx
 | fn f caps =>
  simp only[conv]at hx
  split at hx
  · rename_i hu _
    have:=na _ hu (by simp) (by simp);simp[L.size,L.isAgg,this]
  · cases hx
 | _=>simp[conv,Cd]at hx
end
end Go.Proofs.YtokkbgpgaheakaaGreat
namespace Go.Proofs.YtokkbgpgaheakaaGreat
open Go.RowKit
theorem Mv(k:IntKind)(n:Int):k.min≤k.wrap n∧k.wrap n≤k.max:=by
 cases k <;> simp[Ale,IntKind.min,IntKind.max,Alq,IntKind.signed] <;> (try split) <;> omega
theorem AjW(k:IntKind)(x y:Int)(h1:k.min≤x)(h2:x≤k.max):k.min≤x.tmod y∧x.tmod y≤k.max:=by
 have hm:k.min≤0∧0≤k.max:=by cases k <;> decide
 rcases Int.le_total 0 x with h | h
 · have a:=Int.tmod_nonneg y h
   have b:x.tmod y≤x:=by
    have:=Int.natAbs_tmod x y
    have:=Nat.mod_le x.natAbs y.natAbs
    omega
   omega
 · have a:=Int.tmod_nonneg y (show 0≤ -x by omega)
   rw[Int.neg_tmod]at a
   have b:x≤x.tmod y:=by
    have:=Int.natAbs_tmod x y
    have:=Nat.mod_le x.natAbs y.natAbs
    omega
   omega
theorem AbX(k:IntKind)(x:Int)(n:Nat)(h1:k.min≤x)(h2:x≤k.max):k.min≤x.fdiv (2 ^ n)∧x.fdiv (2 ^ n)≤k.max:=by
 have hm:k.min≤0∧0≤k.max:=by cases k <;> decide
 have hp:(0:Int)<2 ^ n:=Int.pow_pos (by omega)
 rw[Int.fdiv_eq_ediv_of_nonneg _ (Int.le_of_lt hp)]
 rcases Int.le_total 0 x with h | h
 · have a:=Int.ediv_nonneg h (Int.le_of_lt hp)
   have b:=Int.ediv_le_self (2 ^ n) h
   omega
 · have a:x / 2 ^ n≤0:=by
    have:x / 2 ^ n<1:=(Int.ediv_lt_iff_lt_mul hp).2 (by omega)
    omega
   have b:x≤x / 2 ^ n:=by
    rw[Int.le_ediv_iff_mul_le hp]
    have h3:(1:Int)≤2 ^ n:=by omega
    have:=Int.mul_le_mul_of_nonpos_left (a:=x) h h3
    simpa using this
   omega
def Ca(P:Program)(o:Oper)(a:Act)(w:World)(K:Value→World→Prop):Prop :=
 ∀ (next:Act→World→Prop) (Q:Exit→Act→World→Prop),(∀ v w',K v w'→next (a.put o.dst v) w')→o.wp P a w next Q
theorem Ce{P:Program}{o:Oper}{a:Act}{w w':World}{K:Value→World→Prop}{v:Value}(h:(execOp a.eval o).run P w = .ok (.value v) w')(hk:K v w'):Ca P o a w K:=by
 intro next Q hn
 unfold Oper.wp
 rw[h]
 exact hn v w' hk
theorem LS{P:Program}{o:Oper}{a:Act}{w w':World}{K:Value→World→Prop}(h:(execOp a.eval o).run P w = .ok .skip w')(hk:K undef w'):Ca P o a w K:=by
 intro next Q hn
 unfold Oper.wp
 rw[h]
 exact hn undef w' hk
def Bh(look:Nat→Option Blk):List (Nat×Option Blk)→Nat→Option Blk
 | []=>look
 | (r,b)::es=>Bh (Au look r b) es
def Il(used:Nat→Prop)(eff:List (Nat×Option Blk))(r:Nat):Prop:=used r∨∃ b,(r,some b)∈eff
def B8(P:Program)(md:Nat→FMode)(w0:World)(N0 M0:Nat→Prop)(slot:Nat→L)(look:Nat→Option Blk)(used:Nat→Prop)(ds:Dfs)(n:Nat)(a:Act)(l:L)(eff:List (Nat×Option Blk))(v:Value)(w':World):Prop :=
 ∃ β',R P md w0 N0 M0 slot (Bh look eff) (Il used eff) ds n β' a w'∧VL P md w' (Ap M0 (Bh look eff) β') (Bh look eff) β' l v∧∀ r∈l.ids,Il used eff r
section
variable {P:Program} {md:Nat→FMode} {w0 w:World} {N0 M0:Nat→Prop} {slot:Nat→L} {look lookR:Nat→Option Blk} {used:Nat→Prop} {ds:Dfs} {β:Nat→Value} {a:Act} {n:Nat}
theorem ZK(used:Nat→Prop):Il used []=used:=by funext r;simp[Il]
theorem Cp(h:R P md w0 N0 M0 slot look used ds n β a w){l:L}{v:Value}(hv:VL P md w (Ap M0 look β) look β l v)(hi : ∀ r∈l.ids,used r):B8 P md w0 N0 M0 slot look used ds n a l [] v w :=
 ⟨β,by rw[ZK];exact h,hv,fun r hr=> .inl (hi r hr)⟩
theorem Abm(v:Value)(M:Nat→Prop):VL P md w M look β (Pp v) v:=by
 unfold Pp
 split
 · exact Vq
 · split
   · rename_i h;exact Fr h.1 h.2
   · exact .inl rfl
 · split
   · rename_i h;exact EB h
   · exact .inl rfl
 · exact PK
 · exact .inl rfl
theorem Abl(v:Value):(Pp v).ids = []:=by
 unfold Pp
 split
 · rfl
 · split <;> rfl
 · split <;> rfl
 · rfl
 · rfl
theorem By(h:R P md w0 N0 M0 slot look used ds n β a w)(x:Operand):VL P md w (Ap M0 look β) look β (Am slot x) (a.eval x):=by
 cases x with
 | tmp t=>exact h.slots t
 | const v=>exact Abm v _
 | global g=>exact .inl rfl
 | func f=>exact Di (by simp[Am]) (.fn rfl rfl (fun i l v hl=>by simp at hl) (fun i l v hl=>by simp at hl)) ⟨rfl,rfl,Eg rfl⟩
theorem Ie(h:R P md w0 N0 M0 slot look used ds n β a w)(x:Operand) : ∀ r∈(Am slot x).ids,used r:=by
 cases x with
 | tmp t=>exact h.usedS t
 | const v=>intro r hr;rw[Am,Abl]at hr;cases hr
 | global g=>intro r hr;cases hr
 | func f=>intro r hr;simp[Am,L.ids,L.idsL]at hr
theorem RA(h:R P md w0 N0 M0 slot look used ds n β a w){o:Oper}{x:Operand}(ho:o.op = .move x∨o.op = .assign x):Ca P o a w (B8 P md w0 N0 M0 slot look used ds n a (Am slot x) []):=by
 refine Ce (v:=a.eval x) (w':=w) ?_ (Cp h (By h x) (Ie h x))
 rcases ho with ho | ho <;> simp[execOp,ho]
theorem EU(h:R P md w0 N0 M0 slot look used ds n β a w){o:Oper}{c x y:Operand}(ho:o.op = .pick c x y){b:Bool}(hb:(Am slot c).tob=some b){l:L}(hl:VL P md w (Ap M0 look β) look β l (if b then a.eval x else a.eval y))(hi : ∀ r∈l.ids,used r) :
  Ca P o a w (B8 P md w0 N0 M0 slot look used ds n a l []):=by
 refine Ce (v:=if b then a.eval x else a.eval y) (w':=w) ?_ (Cp h hl hi)
 have:=Sc (By h c) hb
 simp[execOp,ho,this,asBool]
theorem AaL{op:BinOp}{k k':IntKind}{x y:Int}{cs:List Bool}{l:L}(h:AV op k k' x y=some (cs,l))(hc : ∀ b∈cs,b=true)(h1:k.min≤x)(h2:x≤k.max)(t:TypeId)(w:World)(M:Nat→Prop) :
   ∃ v,(binOp op t (.int k x) (.int k' y)).run P w = .ok v w∧VL P md w M look β l v∧l.ids = []:=by
 have rw_:=fun n=>Mv k n
 have sh : ∀ op:BinOp,(op = .shl∨op = .shr)→binOp op t (.int k x) (.int k' y)=Op.shift op k x k' y:=by
   intro op ho;rcases ho with rfl | rfl <;> rfl
 unfold AV at h
 split at h
 · injection h with h;injection h with e1 e2;subst e1;subst e2
   have hy : ¬ y<0:=by have:=hc (decide (0≤y)) (by simp);simpa using this
   refine ⟨_,?_,Fr (rw_ _).1 (rw_ _).2,rfl⟩
   rw[sh _ (.inl rfl)]
   simp[Op.shift,hy]
 · injection h with h;injection h with e1 e2;subst e1;subst e2
   have hy : ¬ y<0:=by have:=hc (decide (0≤y)) (by simp);simpa using this
   have:=AbX k x (min y.toNat k.bits) h1 h2
   refine ⟨_,?_,Fr this.1 this.2,rfl⟩
   rw[sh _ (.inr rfl)]
   simp[Op.shift,hy]
 · rename_i hn1 hn2
   split at h
   · rename_i hk
     subst hk
     have mkw : ∀ (m:Int) (v:Value) (cs':List Bool) (l':L),(binOp op t (.int k x) (.int k y)).run P w = .ok (.int k (k.wrap m)) w→some (cs',L.i k (k.wrap m))=some (cs,l)→∃ v,(binOp op t (.int k x) (.int k y)).run P w = .ok v w∧VL P md w M look β l v∧l.ids = []:=by
      intro m v cs' l' hr he
      injection he with he;injection he with e1 e2;subst e2
      exact ⟨_,hr,Fr (rw_ _).1 (rw_ _).2,rfl⟩
     have mkb : ∀ (m:Bool) (cs':List Bool),(binOp op t (.int k x) (.int k y)).run P w = .ok (.bool m) w→some (cs',L.b m)=some (cs,l)→∃ v,(binOp op t (.int k x) (.int k y)).run P w = .ok v w∧VL P md w M look β l v∧l.ids = []:=by
      intro m cs' hr he
      injection he with he;injection he with e1 e2;subst e2
      exact ⟨_,hr,Kt,rfl⟩
     have hy : ∀ {b:Bool} {cs':List Bool} {l':L},some (b::cs',l')=some (cs,l)→b=true:=by
      intro b cs' l' he
      injection he with he;injection he with e1 e2;subst e1
      exact hc _ (by simp)
     cases op with
     | add=>exact mkw _ (.bool true) _ .mt (by simp[binOp,Op.intArith]) h
     | sub=>exact mkw _ (.bool true) _ .mt (by simp[binOp,Op.intArith]) h
     | mul=>exact mkw _ (.bool true) _ .mt (by simp[binOp,Op.intArith]) h
     | quo =>
      have h0:y≠0:=by have:=hy h;simpa using this
      exact mkw _ (.bool true) _ .mt (by simp[binOp,Op.intDiv,h0]) h
     | rem =>
      have h0:y≠0:=by have:=hy h;simpa using this
      have ht:=AjW k x y h1 h2
      injection h with h;injection h with e1 e2;subst e2
      exact ⟨_,by simp[binOp,Op.intDiv,h0],Fr ht.1 ht.2,rfl⟩
     | and=>exact mkw _ (.bool true) _ .mt (by simp[binOp,Op.intBits]) h
     | or=>exact mkw _ (.bool true) _ .mt (by simp[binOp,Op.intBits]) h
     | xor=>exact mkw _ (.bool true) _ .mt (by simp[binOp,Op.intBits]) h
     | andNot=>exact mkw _ (.bool true) _ .mt (by simp[binOp,Op.intBits]) h
     | shl=>exact absurd rfl hn1
     | shr=>exact absurd rfl hn2
     | eql=>exact mkb _ _ (by simp[binOp,Op.intCmp]) h
     | neq=>exact mkb _ _ (by simp[binOp,Op.intCmp]) h
     | lss=>exact mkb _ _ (by simp[binOp,Op.intCmp]) h
     | leq=>exact mkb _ _ (by simp[binOp,Op.intCmp]) h
     | gtr=>exact mkb _ _ (by simp[binOp,Op.intCmp]) h
     | geq=>exact mkb _ _ (by simp[binOp,Op.intCmp]) h
   · cases h
theorem NF(op:BinOp)(t:TypeId)(x y:Operand)(A B:Value)(h1:A≠ .nilIface)(h2 : ∀ c,A≠ .agg c):(eqGuard op t x y A B).run P w = .ok () w:=by
 unfold eqGuard
 cases op <;> first | rfl | (cases A <;> first | rfl | exact absurd rfl h1 | exact absurd rfl (h2 _))
theorem AbQ(d:Nat){t:TypeId}(hu:P.underlying t=some .bool)(p q:Bool):(Op.equalIn (d+1) t (.bool p) (.bool q)).run P w = .ok (p == q) w:=by
 simp[Op.equalIn,run_underlying hu]
theorem AaM{t:TypeId}(hu:P.underlying t=some .bool)(p q:Bool):(binOp .eql t (.bool p) (.bool q)).run P w = .ok (.bool (p == q)) w∧(binOp .neq t (.bool p) (.bool q)).run P w = .ok (.bool (!(p == q))) w:=by
 have h:=AbQ (P:=P) (w:=w) 9999 hu p q
 have e1:binOp .eql t (.bool p) (.bool q)=(do pure (.bool (← Op.equalIn (9999+1) t (.bool p) (.bool q)))):=rfl
 have e2:binOp .neq t (.bool p) (.bool q)=(do pure (.bool (!(← Op.equalIn (9999+1) t (.bool p) (.bool q))))):=rfl
 rw[e1,e2]
 simp only[Sem.run_bind,h,Result.andThen_ok,Sem.run_pure,and_self]
theorem Afb(h:R P md w0 N0 M0 slot look used ds n β a w){o:Oper}{op:BinOp}{t t':TypeId}{x y:Operand}(ho:o.op = .binOp op t x y t'){cs:List Bool}{l:L}(hb:AW P op t (Am slot x) (Am slot y)=some (cs,l))(hc : ∀ b∈cs,b=true) :
   Ca P o a w (B8 P md w0 N0 M0 slot look used ds n a l []):=by
 have hx:=By h x
 have hy:=By h y
 have key : ∀ v,(binOp op t (a.eval x) (a.eval y)).run P w = .ok v w→((eqGuard op t x y (a.eval x) (a.eval y)).run P w = .ok () w)→(execOp a.eval o).run P w = .ok (.value v) w:=by
   intro v hv hg
   simp[execOp,ho,hg,hv]
 have guard:(a.eval x≠ .nilIface)→(∀ c,a.eval x≠ .agg c)→(eqGuard op t x y (a.eval x) (a.eval y)).run P w = .ok () w:=NF _ _ _ _ _ _
 unfold AW at hb
 split at hb
 · rename_i k u k' u' ex ey
   rw[ex]at hx;rw[ey]at hy
   obtain ⟨vx,r1,r2⟩:=Fn hx
   obtain ⟨vy,_,_⟩:=Fn hy
   obtain ⟨v,hv,hvl,hid⟩:=AaL (P:=P) (md:=md) (look:=look) (β:=β) hb hc r1 r2 t w (Ap M0 look β)
   refine Ce (v:=v) (w':=w) (key v (by rw[vx,vy];exact hv) (guard (by rw[vx];simp) (by rw[vx];simp))) (Cp h hvl (by rw[hid];simp))
 · rename_i u u' ex ey
   rw[ex]at hx;rw[ey]at hy
   obtain ⟨vx,_⟩:=O8 hx
   obtain ⟨vy,_⟩:=O8 hy
   split at hb <;> first
     | (injection hb with hb;injection hb with e1 e2;subst e1;subst e2
        exact Ce (v:= .bool _) (w':=w) (key _ (by rw[vx,vy];simp[binOp,Op.stringOp]) (guard (by rw[vx];simp) (by rw[vx];simp))) (Cp h Kt (by simp[L.ids])))
     | cases hb
 · split at hb
   · rename_i p q hp hq
     have vx:=Sc hx hp
     have vy:=Sc hy hq
     split at hb
     · rename_i hbt
       have hu:=J3 hbt
       have bb:=AaM (P:=P) (w:=w) hu p q
       split at hb
       · injection hb with hb;injection hb with e1 e2;subst e1;subst e2
         exact Ce (v:= .bool _) (w':=w) (key _ (by rw[vx,vy];exact bb.1) (guard (by rw[vx];simp) (by rw[vx];simp))) (Cp h Kt (by simp[L.ids]))
       · injection hb with hb;injection hb with e1 e2;subst e1;subst e2
         exact Ce (v:= .bool _) (w':=w) (key _ (by rw[vx,vy];exact bb.2) (guard (by rw[vx];simp) (by rw[vx];simp))) (Cp h Kt (by simp[L.ids]))
       · cases hb
     · cases hb
   · cases hb
theorem AbR(d:Nat){t e:TypeId}(hu:P.underlying t=some (.slice e))(A:Option Addr)(n c:Nat):(Op.equalIn (d+1) t (.slice A n c) (.slice none 0 0)).run P w = .ok A.isNone w:=by
 cases A <;> simp[Op.equalIn,run_underlying hu]
theorem AaN{t e:TypeId}(hu:P.underlying t=some (.slice e))(A:Option Addr)(n c:Nat):(binOp .eql t (.slice A n c) (.slice none 0 0)).run P w = .ok (.bool A.isNone) w:=by
 have h:=AbR (P:=P) (w:=w) 9999 hu A n c
 have e1:binOp .eql t (.slice A n c) (.slice none 0 0)=(do pure (.bool (← Op.equalIn (9999+1) t (.slice A n c) (.slice none 0 0)))):=rfl
 rw[e1]
 simp only[Sem.run_bind,h,Result.andThen_ok,Sem.run_pure]
theorem Af2(h:R P md w0 N0 M0 slot look used ds n β a w){o:Oper}{op:UnOp}{t:TypeId}{x:Operand}(ho:o.op = .unOp op t x){l:L}(hb:IM op (Am slot x)=some l) :
   Ca P o a w (B8 P md w0 N0 M0 slot look used ds n a l []):=by
 have hx:=By h x
 unfold IM at hb
 split at hb
 · rename_i u ex;rw[ex]at hx;have vx:=Kd hx;injection hb with hb;subst hb
   exact Ce (v:= .bool _) (w':=w) (by simp[execOp,ho,vx,Op.unary]) (Cp h Kt (by simp[L.ids]))
 · rename_i u ex;rw[ex]at hx;have vx:=Sa hx;injection hb with hb;subst hb
   exact Ce (v:= .bool _) (w':=w) (by simp[execOp,ho,vx,Op.unary]) (Cp h Vq (by simp[L.ids]))
 · rename_i k u ex;rw[ex]at hx;obtain ⟨vx,_⟩:=Fn hx;injection hb with hb;subst hb
   exact Ce (v:= .int k _) (w':=w) (by simp[execOp,ho,vx,Op.unary,Op.intArith]) (Cp h (Fr (Mv _ _).1 (Mv _ _).2) (by simp[L.ids]))
 · rename_i k u ex;rw[ex]at hx;obtain ⟨vx,_⟩:=Fn hx;injection hb with hb;subst hb
   exact Ce (v:= .int k _) (w':=w) (by simp[execOp,ho,vx,Op.unary,Op.intBits,Bj]) (Cp h (Fr (Mv _ _).1 (Mv _ _).2) (by simp[L.ids]))
 · cases hb
theorem Afi(h:R P md w0 N0 M0 slot look used ds n β a w){o:Oper}{s t:TypeId}{x:Operand}(ho:o.op = .convert s t x){k k':IntKind}{u:Int}{d:TypeDesc}(hx':Am slot x = .i k' u)(ht:Ka P t=some k)(hs:P.underlying s=some d) :
  Ca P o a w (B8 P md w0 N0 M0 slot look used ds n a (.i k (k.wrap u)) []):=by
 have hx:=By h x
 rw[hx']at hx
 obtain ⟨vx,_⟩:=Fn hx
 exact Ce (v:= .int k _) (w':=w) (by simp[execOp,ho,vx,convert,run_underlying hs,run_underlying (O0 ht),Conv.intToInt]) (Cp h (Fr (Mv _ _).1 (Mv _ _).2) (by simp[L.ids]))
end
end Go.Proofs.YtokkbgpgaheakaaGreat
namespace Go.Proofs.YtokkbgpgaheakaaGreat
open Go.RowKit
section
variable {P:Program} {md:Nat→FMode} {w:World} {M:Nat→Prop} {look:Nat→Option Blk} {β:Nat→Value}
theorem LC.congr {l:L} {c:Nat→Option Value} (h:LC P md w M look β l c) : ∀ {c':Nat→Option Value},(∀ j,j<l.size P→c' j=c j)→0<l.size P→LC P md w M look β l c':=by
 induction h with
 | undef=>intro c' he hp;exact .undef
 | i h1 h2 hc=>intro c' he hp;exact .i h1 h2 ((he 0 hp).trans hc)
 | b hc=>intro c' he hp;exact .b ((he 0 hp).trans hc)
 | lit hc=>intro c' he hp;exact .lit ((he 0 hp).trans hc)
 | ub x hx hc=>intro c' he hp;exact .ub x hx ((he 0 hp).trans hc)
 | s hl hc=>intro c' he hp;exact .s hl ((he 0 hp).trans hc)
 | d h=>intro c' he hp;exact .d (h.congr he hp)
 | mt hc=>intro c' he hp;exact .mt ((he 0 hp).trans hc)
 | row hu hc=>intro c' he hp;rw[← he 0 hp]at hu;refine .row hu (fun e es lv hr=>(he 0 hp).trans (hc e es lv hr))
 | rptr hu hc=>intro c' he hp;rw[← he 0 hp]at hu;refine .rptr hu (fun e es lv hr=> ?_);rw[he 0 hp];exact hc e es lv hr
 | ptr hu hc=>intro c' he hp;rw[← he 0 hp]at hu;refine .ptr hu (fun e es lv hr=> ?_);rw[he 0 hp];exact hc e es lv hr
 | at_ hc hM hb h=>intro c' he hp;exact .at_ ((he 0 hp).trans hc) hM hb h
 | @agg t fs ls c ht hl h hz ih =>
  intro c' he hp
  refine .agg ht hl (fun i f l hf hl'=> ?_) hz
  have hz':=hz i f l hf hl'
  refine ih i f l hf hl' (fun j hj=> ?_) hz'.1
  have:=(Fh (Ck ht).2 hf).2.2
  exact he _ (by show _<P.cellsOf t;omega)
 | fn hc hl h hs=>intro c' he hp;exact .fn ((he 0 hp).trans hc) hl h hs
theorem Ob{t:Nat}{l:L}(ho:Cz P t l=true):l.size P=P.cellsOf t:=by
 cases l <;> simp[Cz,one]at ho <;> simp[L.size] <;> first | exact ho.2.symm | (obtain ⟨rfl,_⟩:=ho;rfl)
theorem AeS{t:Nat}{l:L}(ho:Cz P t l=true):l.isAgg P=A9 P t:=by
 cases l <;> simp[Cz,one]at ho <;> simp[L.isAgg]
 case i k n=>have:=O0 ho.1;simp[A9,this]
 case b x=>have:=J3 ho.1;simp[A9,this]
 case lit x=>have:=J3 ho.1;simp[A9,this]
 case s x=>have:=Lz ho.1;simp[A9,this]
 case d t' x=>obtain ⟨rfl,_⟩:=ho;rfl
 case mt=>obtain ⟨e,he⟩:=Option.isSome_iff_exists.1 ho.1;have:=Dd he;simp[A9,this]
 case row r=>obtain ⟨e,he⟩:=Option.isSome_iff_exists.1 ho.1;have:=Dd he;simp[A9,this]
 case rptr r j p=>have:=ho.1;unfold I5 at this;unfold A9;split at this <;> simp_all
 case ptr r p=>have:=ho.1;unfold I5 at this;unfold A9;split at this <;> simp_all
 case at_ r p=>have:=ho.1;unfold I5 at this;unfold A9;split at this <;> simp_all
 case agg t' ls=>exact ho.2
 case fn f ls=>have:=ho.1;unfold U8 at this;unfold A9;split at this <;> simp_all
theorem TK(hP:WfP P){t:Nat}{x:D}{c:Nat→Option Value}(h:RdC P md w M (.ty t) x c)(ha:A9 P t=false):P.cellsOf t=1:=by
 refine hP.one t ha ?_
 cases h with
 | int ht _ _ _=>rw[show P.underlying t=_ from ht];rfl
 | bool ht _=>rw[show P.underlying t=_ from ht];rfl
 | str ht _ _=>rw[show P.underlying t=_ from ht];rfl
 | sl ht _ _ _ _ _=>rw[show P.underlying t=_ from ht];rfl
 | struct ht _ _=>rw[Ub ht]at ha;cases ha
 | fn ht _ _ _ _ _ _ _ _ _=>rw[show P.underlying t=_ from ht];rfl
 | ref ht _ _ _ _=>rw[show P.underlying t=_ from ht];rfl
 | mp ht _ _ _ _ _ _ _ _ _ _=>rw[show P.underlying t=_ from ht];rfl
theorem JP(hP:WfP P){t:Nat}{l:L}{cs:Array Value}{off:Nat}(h:LC P md w M look β l (fun j=>cs[off+j]?))(ho:Cz P t l=true)(hp:0<P.cellsOf t)(hb:off+P.cellsOf t≤cs.size)(h1 : ∀ (j:Nat) (u:Value),cs[j]? = some u→u.oneCell'=true) :
   (A9 P t=true→VL P md w M look β l (.agg (cs.extract off (off+P.cellsOf t))))∧(A9 P t=false→∃ u,cs[off]? = some u∧VL P md w M look β l u):=by
 obtain ⟨n1,n2,n3⟩:=Wn ho
 have hsz:=Ob ho
 have hag:=AeS ho
 refine ⟨fun ha=>Di n3 (h.congr (fun j hj=> ?_) (by rw[hsz];exact hp)) ⟨?_,?_,fun j u hu=> ?_⟩,fun ha=> ?_⟩
 · show (cs.extract off (off+P.cellsOf t))[j]? = cs[off+j]?
   rw[hsz]at hj
   rw[Array.getElem?_extract,if_pos (by omega)]
 · show (cs.extract off (off+P.cellsOf t)).size=_
   rw[hsz,Array.size_extract];omega
 · rw[hag,ha];rfl
 · have hu':(cs.extract off (off+P.cellsOf t))[j]? = some u:=hu
   rw[Array.getElem?_extract]at hu'
   split at hu'
   · exact h1 _ _ hu'
   · cases hu'
 · have hlt:off<cs.size:=by omega
   have hu:cs[off]? = some cs[off]:=Al3 hlt
   have hone:=h1 off _ hu
   have hc:(cs[off]).cells = #[cs[off]]:=by
     generalize cs[off]=u at *
     cases u <;> first | rfl | simp[Value.oneCell']at hone
   have h1':l.size P=1:=by
     cases l <;> simp[Cz,one]at ho <;> simp[L.size]
     · rename_i t' x
       obtain ⟨rfl,hne⟩:=ho
       cases h with
       | d h=>exact TK hP h ha
     · rw[ha]at ho;simp at ho
   refine ⟨_,hu,Di n3 (h.congr (fun j hj=> ?_) (by rw[hsz];exact hp)) ⟨?_,?_,Eg hone⟩⟩
   · rw[h1']at hj
     obtain rfl:j=0:=by omega
     show (cs[off]).cells[0]? = cs[off+0]?
     rw[hc,Nat.add_zero,hu];rfl
   · rw[hc,h1'];rfl
   · rw[hag,ha]
     generalize cs[off]=u at *
     cases u <;> first | rfl | simp[Value.oneCell']at hone
theorem Q_{t i:Nat}{fs:List Field}{f:Field}{x:D}{c:Nat→Option Value}(h:RdC P md w M (.ty t) x c)(ht:Cx P t=some fs)(hf:fs[i]? = some f):RdC P md w M (.ty f.type) (x.fld i) (fun j=>c (f.offset+j)):=by
 obtain ⟨⟨a,ha,_⟩,_⟩:=Ck ht
 cases h with
 | int ht' _ _ _=>rw[show P.underlying t=_ from ht']at ha;cases ha
 | bool ht' _=>rw[show P.underlying t=_ from ht']at ha;cases ha
 | str ht' _ _=>rw[show P.underlying t=_ from ht']at ha;cases ha
 | sl ht' _ _ _ _ _=>rw[show P.underlying t=_ from ht']at ha;cases ha
 | @struct _ fs' ds c ht' hl h =>
  rw[ht]at ht'
  injection ht' with ht'
  subst ht'
  have hi:i<ds.length:=by rw[hl];exact (Alj.1 hf).1
  have:=h i f ds[i] hf (Alg hi)
  rwa[show (D.agg ds).fld i=ds[i] by simp[D.fld,D.fs,hi]]
 | fn ht' _ _ _ _ _ _ _ _ _=>rw[show P.underlying t=_ from ht']at ha;cases ha
 | ref ht' _ _ _ _=>rw[show P.underlying t=_ from ht']at ha;cases ha
 | mp ht' _ _ _ _ _ _ _ _ _=>rw[show P.underlying t=_ from ht']at ha;cases ha
theorem TL : ∀ {p:List Nat} {t t':Nat} {x:D} {c:Nat→Option Value},RdC P md w M (.ty t) x c→B5 P t p=some t'→RdC P md w M (.ty t') (x.path p) (fun j=>c (Bf P t p+j))
 | [],t,t',x,c,h,ht=>by
  simp only[B5,Alo]at ht
  subst ht
  simpa [D.path,Bf]using h
 | i::p,t,t',x,c,h,ht=>by
  simp only[B5]at ht
  split at ht
  · cases ht
  · rename_i fs hfs
    split at ht
    · rename_i f hf
      have:=TL (Q_ h hfs hf) ht
      simp only[D.path,Bf,hfs,hf]
      rwa[show (fun j=>c (f.offset+(Bf P f.type p+j)))=(fun j=>c (f.offset+Bf P f.type p+j)) from funext fun j=>by rw[Nat.add_assoc]]at this
    · cases ht
theorem Ma : ∀ {p:List Nat} {t t':Nat},B5 P t p=some t'→Bf P t p+P.cellsOf t'≤P.cellsOf t∧(0<P.cellsOf t→0<P.cellsOf t')
 | [],t,t',ht=>by
  simp only[B5,Alo]at ht
  subst ht
  simp[Bf]
 | i::p,t,t',ht=>by
  simp only[B5]at ht
  split at ht
  · cases ht
  · rename_i fs hfs
    split at ht
    · rename_i f hf
      have h1:=Ma ht
      have h2:=Fh (Ck hfs).2 hf
      simp only[Bf,hfs,hf]
      exact ⟨by omega,fun _=>h1.2 h2.1⟩
    · cases ht
theorem Nh : ∀ {fs:List Field} {x:D} {k i:Nat} {f:Field},fs[i]? = some f→(Kn P fs x k)[i]? = some (Bt P f.type (x.fld (k+i)))
 | g::gs,x,k,0,f,h=>by simp at h;subst h;simp[Kn]
 | g::gs,x,k,i+1,f,h=>by
  simp only[List.getElem?_cons_succ]at h
  simp only[Kn,List.getElem?_cons_succ]
  rw[Nh h]
  congr 3
  omega
 | [],x,k,i,f,h=>by simp at h
theorem P0(fs:List Field)(x:D)(k:Nat):(Kn P fs x k).length=fs.length:=by
 induction fs generalizing k with
 | nil=>rfl
 | cons f fs ih=>simp[Kn,ih]
theorem AeR(t:Nat)(x:D)(hp:0<P.cellsOf t):0<(Bt P t x).size P∧(Bt P t x).size P≤P.cellsOf t:=by
 unfold Bt
 split <;> simp[L.size] <;> omega
theorem Wl(t:Nat)(x:D):(Bt P t x).ids = []:=by
 unfold Bt
 split <;> rfl
theorem FA{t:Nat}{fs:List Field}{l:L}{ls:List L}{c:Nat→Option Value}(h:LC P md w M look β l c)(ht:Cx P t=some fs)(hp:Gb P t fs l=some ls) :
   ls.length=fs.length∧(∀ (i:Nat) (f:Field) (k:L),fs[i]? = some f→ls[i]? = some k→LC P md w M look β k (fun j=>c (f.offset+j))∧0<k.size P∧k.size P≤P.cellsOf f.type)∧(∀ (i:Nat) (k:L),ls[i]? = some k→∀ r∈k.ids,r∈l.ids):=by
 unfold Gb at hp
 split at hp
 · rename_i t' ls'
   split at hp
   · rename_i hc
     simp only[Alp,beq_iff_eq]at hc
     obtain ⟨rfl,hl⟩:=hc
     injection hp with hp
     subst hp
     refine ⟨hl,fun i f k hf hk=> ?_,fun i k hk r hr=>by simp only[L.ids];exact Ks hk r hr⟩
     cases h with
     | agg ht' hl' h hz =>
       rw[ht]at ht'
       injection ht' with ht'
       subst ht'
       exact ⟨h i f k hf hk,hz i f k hf hk⟩
   · cases hp
 · rename_i t' x
   split at hp
   · rename_i hc
     obtain rfl:t'=t:=by simpa using hc
     injection hp with hp
     subst hp
     refine ⟨P0 _ _ _,fun i f k hf hk=> ?_,fun i k hk r hr=> ?_⟩
     · rw[Nh hf]at hk
       injection hk with hk
       subst hk
       rw[Amn]
       cases h with
       | d h=>exact ⟨Wm (Q_ h ht hf),AeR _ _ (Fh (Ck ht).2 hf).1⟩
     · have hi:i<fs.length:=by rw[← P0 (P:=P) fs x 0];exact (Alj.1 hk).1
       rw[Nh (Alg hi)]at hk
       injection hk with hk
       subst hk
       rw[Wl]at hr
       cases hr
   · cases hp
 · cases hp
theorem R1 : ∀ {p:List Nat} {t t':Nat} {l l':L} {c:Nat→Option Value},LC P md w M look β l c→sub P t p l=some (t',l')→B5 P t p=some t'∧LC P md w M look β l' (fun j=>c (Bf P t p+j))∧(∀ r∈l'.ids,r∈l.ids)
 | [],t,t',l,l',c,h,hs=>by
  simp only[sub,Alo,Prod.mk.injEq]at hs
  obtain ⟨rfl,rfl⟩:=hs
  refine ⟨rfl,?_,fun r hr=>hr⟩
  simpa [Bf]using h
 | i::p,t,t',l,l',c,h,hs=>by
  simp only[sub]at hs
  split at hs
  · cases hs
  · rename_i fs hfs
    split at hs
    · cases hs
    · rename_i ls hls
      split at hs
      · rename_i f k hf hk
        obtain ⟨_,h2,h3⟩:=FA h hfs hls
        obtain ⟨g1,g2,g3⟩:=R1 (h2 i f k hf hk).1 hs
        refine ⟨by simp only[B5,hfs,hf];exact g1,?_,fun r hr=>h3 i k hk r (g3 r hr)⟩
        simp only[Bf,hfs,hf]
        rwa[show (fun j=>c (f.offset+(Bf P f.type p+j)))=(fun j=>c (f.offset+Bf P f.type p+j)) from funext fun j=>by rw[Nat.add_assoc]]at g2
      · cases hs
theorem Yq : ∀ {p:List Nat} {t t':Nat} {l l' y:L} {c c':Nat→Option Value},LC P md w M look β l c→D_ P t p l y=some l'→B5 P t p=some t'→(0<P.cellsOf t)→Cz P t' y=true→LC P md w M look β y (fun j=>c' (Bf P t p+j)) →
  (∀ j,j<P.cellsOf t→(j<Bf P t p∨Bf P t p+P.cellsOf t'≤j)→c' j=c j)→LC P md w M look β l' c'∧(∀ r∈l'.ids,r∈l.ids∨r∈y.ids)
 | [],t,t',l,l',y,c,c',h,hs,ht,hp,ho,hy,hc=>by
  simp only[D_,Alo]at hs
  subst hs
  refine ⟨?_,fun r hr=> .inr hr⟩
  simpa [Bf]using hy
 | i::p,t,t',l,l',y,c,c',h,hs,ht,hp,ho,hy,hc=>by
  simp only[D_]at hs
  split at hs
  · cases hs
  · rename_i fs hfs
    split at hs
    · cases hs
    · rename_i ls hls
      split at hs
      · rename_i f k hf hk
        simp only[Alv]at hs
        obtain ⟨z,hz,rfl⟩:=hs
        simp only[B5,hfs,hf]at ht
        simp only[Bf,hfs,hf]at hy hc
        obtain ⟨h1,h2,h3⟩:=FA h hfs hls
        have hok:=(Ck hfs).2
        have hfa:=Fh hok hf
        have hpi:=Ma ht
        have ih:=Yq (c':=fun j=>c' (f.offset+j)) (h2 i f k hf hk).1 hz ht hfa.1 ho (by rwa[show (fun j=>c' (f.offset+Bf P f.type p+j))=(fun j=>c' (f.offset+(Bf P f.type p+j))) from funext fun j=>by rw[Nat.add_assoc]]at hy)
          (fun j hj hj'=>hc (f.offset+j) (by omega) (by omega))
        have hzs:0<z.size P∧z.size P≤P.cellsOf f.type:=by
          cases p with
          | nil =>
            simp only[D_,Alo]at hz
            simp only[B5,Alo]at ht
            subst hz
            subst ht
            have:=Ob ho
            omega
          | cons q p =>
            simp only[D_]at hz
            split at hz
            · cases hz
            · split at hz
              · cases hz
              · split at hz
                · simp only[Alv]at hz
                  obtain ⟨z',_,rfl⟩:=hz
                  exact ⟨hfa.1,Als _⟩
                · cases hz
        refine ⟨.agg hfs (by simpa using h1) (fun q g m hg hm=> ?_) (fun q g m hg hm=> ?_),fun r hr=> ?_⟩
        · by_cases e:q=i
          · subst e
            rw[hf]at hg
            injection hg with hg
            subst hg
            have hlt:q<ls.length:=(Alj.1 hk).1
            rw[List.getElem?_set_self hlt]at hm
            injection hm with hm
            subst hm
            exact ih.1
          · rw[List.getElem?_set_ne (Ne.symm e)]at hm
            have hga:=Fh hok hg
            obtain ⟨k1,k2,k3⟩:=h2 q g m hg hm
            refine k1.congr (fun j hj=> ?_) k2
            refine hc _ (by omega) ?_
            rcases Nat.lt_or_gt_of_ne e with h' | h'
            · have:=Qw hok hg hf h';exact .inl (by omega)
            · have:=Qw hok hf hg h';exact .inr (by omega)
        · by_cases e:q=i
          · subst e
            rw[hf]at hg
            injection hg with hg
            subst hg
            have hlt:q<ls.length:=(Alj.1 hk).1
            rw[List.getElem?_set_self hlt]at hm
            injection hm with hm
            subst hm
            exact hzs
          · rw[List.getElem?_set_ne (Ne.symm e)]at hm
            exact (h2 q g m hg hm).2
        · simp only[L.ids]at hr
          have : ∀ (xs:List L) (j:Nat) (u:L),r∈L.idsL (xs.set j u)→r∈L.idsL xs∨r∈u.ids:=by
            intro xs
            induction xs with
            | nil=>intro j u hu;simp[L.idsL]at hu
            | cons x xs ihx =>
              intro j u hu
              cases j with
              | zero=>simp only[List.set_cons_zero,L.idsL,List.mem_append]at hu ⊢; rcases hu with hu | hu;exact .inr hu;exact .inl (.inr hu)
              | succ j =>
                simp only[List.set_cons_succ,L.idsL,List.mem_append]at hu ⊢
                rcases hu with hu | hu
                · exact .inl (.inl hu)
                · rcases ihx j u hu with h | h
                  · exact .inl (.inr h)
                  · exact .inr h
          have hin : ∀ xs:List L,(∀ (q:Nat) (m:L),xs[q]? = some m→∀ r∈m.ids,r∈l.ids)→∀ r∈L.idsL xs,r∈l.ids:=by
            intro xs
            induction xs with
            | nil=>intro _ r hr;simp[L.idsL]at hr
            | cons x xs ihx =>
              intro hx r hr
              simp only[L.idsL,List.mem_append]at hr
              rcases hr with hr | hr
              · exact hx 0 x rfl r hr
              · exact ihx (fun q m hm=>hx (q+1) m (by simpa using hm)) r hr
          rcases this _ _ _ hr with hr | hr
          · exact .inl (hin ls h3 r hr)
          · rcases ih.2 r hr with hr | hr
            · exact .inl (h3 i k hk r hr)
            · exact .inr hr
      · cases hs
end
end Go.Proofs.YtokkbgpgaheakaaGreat
namespace Go.Proofs.YtokkbgpgaheakaaGreat
open Go.RowKit
section
variable {P:Program} {md:Nat→FMode} {w0 w:World} {N0 M0 M:Nat→Prop} {slot:Nat→L} {look lookR:Nat→Option Blk} {used:Nat→Prop} {ds:Dfs} {β:Nat→Value} {a:Act} {n:Nat}
theorem NN{t:Nat}(h:0<P.cellsOf t) : ∃ i,P.info? t=some i∧i.size=P.cellsOf t:=by
 unfold Program.cellsOf at h ⊢
 cases hi:P.info? t with
 | none=>rw[hi]at h;simp at h
 | some i=>exact ⟨i,rfl,by simp⟩
theorem Gd{t:Nat}(h:0<P.cellsOf t)(w:World):(sizeOf t).run P w = .ok (P.cellsOf t) w:=by
 obtain ⟨i,hi,hs⟩:=NN h
 simp[sizeOf,typeInfo,hi,hs]
theorem Yj{t:Nat}(h:(P.underlying t).isSome=true)(w:World):(isAgg t).run P w = .ok (A9 P t) w:=by
 obtain ⟨d,hd⟩:=Option.isSome_iff_exists.1 h
 simp only[isAgg,Sem.run_bind,run_underlying hd,Result.andThen_ok,A9,hd]
 cases d <;> rfl
theorem EO{t:Nat}{l:L}{c:Nat→Option Value}(ho:Cz P t l=true)(h:LC P md w M look β l c):(P.underlying t).isSome=true:=by
 cases l <;> simp[Cz,one]at ho
 case i k n=>rw[O0 ho.1];rfl
 case b x=>rw[J3 ho.1];rfl
 case lit x=>rw[J3 ho.1];rfl
 case s x=>rw[Lz ho.1];rfl
 case d t' x =>
  obtain ⟨rfl,_⟩:=ho
  cases h with
  | d h =>
   cases h with
   | int ht _ _ _=>rw[show P.underlying t'=_ from ht];rfl
   | bool ht _=>rw[show P.underlying t'=_ from ht];rfl
   | str ht _ _=>rw[show P.underlying t'=_ from ht];rfl
   | sl ht _ _ _ _ _=>rw[show P.underlying t'=_ from ht];rfl
   | struct ht _ _=>obtain ⟨⟨a,ha,_⟩,_⟩:=Ck ht;rw[ha];rfl
   | fn ht _ _ _ _ _ _ _ _ _=>rw[show P.underlying t'=_ from ht];rfl
   | ref ht _ _ _ _=>rw[show P.underlying t'=_ from ht];rfl
   | mp ht _ _ _ _ _ _ _ _ _ _=>rw[show P.underlying t'=_ from ht];rfl
 case mt=>obtain ⟨e,he⟩:=Option.isSome_iff_exists.1 ho.1;rw[Dd he];rfl
 case row r=>obtain ⟨e,he⟩:=Option.isSome_iff_exists.1 ho.1;rw[Dd he];rfl
 case rptr r j p=>have:=ho.1;unfold I5 at this;split at this <;> simp_all
 case ptr r p=>have:=ho.1;unfold I5 at this;split at this <;> simp_all
 case at_ r p=>have:=ho.1;unfold I5 at this;split at this <;> simp_all
 case agg t' ls=>rcases Aas ho.2 with ⟨fs,h⟩ | ⟨n,e,h⟩ <;> rw[h] <;> rfl
 case fn f ls=>have:=ho.1;unfold U8 at this;split at this <;> simp_all
theorem Ra{t:Nat}{x:D}{c:Nat→Option Value}(h:RdC P md w M (.ty t) x c):(P.underlying t).isSome=true:=by
 cases h with
 | int ht _ _ _=>rw[show P.underlying t=_ from ht];rfl
 | bool ht _=>rw[show P.underlying t=_ from ht];rfl
 | str ht _ _=>rw[show P.underlying t=_ from ht];rfl
 | sl ht _ _ _ _ _=>rw[show P.underlying t=_ from ht];rfl
 | struct ht _ _=>obtain ⟨⟨a,ha,_⟩,_⟩:=Ck ht;rw[ha];rfl
 | fn ht _ _ _ _ _ _ _ _ _=>rw[show P.underlying t=_ from ht];rfl
 | ref ht _ _ _ _=>rw[show P.underlying t=_ from ht];rfl
 | mp ht _ _ _ _ _ _ _ _ _ _=>rw[show P.underlying t=_ from ht];rfl
theorem OR(hP:WfP P){t B off:Nat}{l:L}{cs:Array Value}{T:TypeId}{fr:Nat×Nat}(hB:w.heap[B]? = some (.cells cs T fr))(h:LC P md w M look β l (fun j=>cs[off+j]?))(ho:Cz P t l=true)(hp:0<P.cellsOf t)(hb:off+P.cellsOf t≤cs.size)
  (h1 : ∀ (j:Nat) (u:Value),cs[j]? = some u→u.oneCell'=true) : ∃ u,(loadVar t ⟨B,off,none⟩).run P w = .ok u w∧VL P md w M look β l u:=by
 obtain ⟨g1,g2⟩:=JP hP h ho hp hb h1
 have hcell : ∀ j,w.cell? ⟨B,j,none⟩=cs[j]? := fun j=>cell_of_row w B j cs T fr hB
 simp only[loadVar,Sem.run_bind,Yj (EO ho h),Result.andThen_ok]
 cases ha:A9 P t with
 | true =>
  refine ⟨_,?_,g1 ha⟩
  have hlen:((cs.extract off (off+P.cellsOf t)).toList).length=P.cellsOf t:=by simp;omega
  have hl:=run_loadCells_list (P:=P) w ⟨B,off,none⟩ (cs.extract off (off+P.cellsOf t)).toList (fun j v hv=>by
   rw[Addr.add_lit,hcell]
   rw[Array.getElem?_toList,Array.getElem?_extract]at hv
   split at hv
   · exact hv
   · cases hv)
  rw[hlen]at hl
  simp only[if_true,Sem.run_bind,Gd hp,Result.andThen_ok,hl,Sem.run_pure,Array.toArray_toList]
 | false =>
  obtain ⟨u,hu,hv⟩:=g2 ha
  refine ⟨u,?_,hv⟩
  simp[run_load,hcell,hu]
theorem OS(hP:WfP P){t bk off:Nat}{x:D}(h:RdC P md w M (.ty t) x (fun j=>w.cell? ⟨bk,off+j,none⟩))(hp:0<P.cellsOf t) : ∃ u,(loadVar t ⟨bk,off,none⟩).run P w = .ok u w∧Rd P md w M (.ty t) x u:=by
 simp only[loadVar,Sem.run_bind,Yj (Ra h),Result.andThen_ok]
 have hall:=h.cells hP
 cases ha:A9 P t with
 | true =>
  have hc : ∀ j,j<P.cellsOf t→w.cell? ((⟨bk,off,none⟩:Addr).add j)=some ((w.cell? ⟨bk,off+j,none⟩).getD undef):=fun j hj=>by
    obtain ⟨u,hu,_⟩:=hall j hj
    rw[Addr.add_lit,hu];rfl
  have hl:=run_loadCells (P:=P) w ⟨bk,off,none⟩ (P.cellsOf t) (fun j=>(w.cell? ⟨bk,off+j,none⟩).getD undef) hc
  refine ⟨.agg (((Amd (P.cellsOf t)).map fun j=>(w.cell? ⟨bk,off+j,none⟩).getD undef).toArray),?_,⟨h.congr (fun j hj=> ?_) hp,?_,?_⟩⟩
  · simp only[if_true,Sem.run_bind,Gd hp,Result.andThen_ok,hl,Sem.run_pure]
  · have hj':j<P.cellsOf t:=hj
    obtain ⟨u,hu,_⟩:=hall j hj
    simp[Value.cells,hj',hu]
  · simp[Value.cells,CT.size]
  · show true=A9 P t
    rw[ha]
 | false =>
  have h1:=TK hP h ha
  obtain ⟨u,hu,hu1⟩:=hall 0 (by show 0<P.cellsOf t;exact hp)
  have hc:u.cells = #[u]:=by cases u <;> first | rfl | simp[Value.oneCell']at hu1
  refine ⟨u,by simp only[Nat.add_zero]at hu;simp[run_load,hu],⟨h.congr (fun j hj=> ?_) hp,?_,?_⟩⟩
  · have hj':j<P.cellsOf t:=hj
    rw[h1]at hj'
    obtain rfl:j=0:=by omega
    rw[hc,hu];rfl
  · rw[hc];exact h1.symm
  · show C6 u=A9 P t
    rw[ha]
    cases u <;> first | rfl | simp[Value.oneCell']at hu1
theorem Afs(hP:WfP P)(h:R P md w0 N0 M0 slot look used ds n β a w){o:Oper}{t:TypeId}{x:Operand}(ho:o.op = .load t x){r t0:Nat}{p:List Nat}{l l':L}{lv:Bool}(hx':Am slot x = .ptr r p)(hr:look r=some (.var t0 l lv))(hs:sub P t0 p l=some (t,l'))(hok:Cz P t l'=true) :
  Ca P o a w (B8 P md w0 N0 M0 slot look used ds n a l' []):=by
 have hx:=By h x
 rw[hx']at hx
 obtain ⟨hT,vx⟩:=Z4 hx hr
 obtain ⟨B,cs,T,b1,b2,b3,b4,b5,b6⟩:=h.blks r _ hr
 obtain ⟨s1,s2,s3⟩:=R1 b5 hs
 have hpi:=Ma s1
 have hB:Hd (β r)=B:=by rw[b1];rfl
 obtain ⟨u,hu,hv⟩:=OR hP b2 s2 hok (hpi.2 b4) (by omega) b6
 refine Ce (v:=u) (w':=w) ?_ (Cp h hv (fun q hq=>(h.usedB r _ hr).2 q (s3 q hq)))
 simp[execOp,ho,vx,Instr.loadAt,Instr.sureAddr,hB,hu]
theorem GQ{e j:Nat}{es:List D}{v:Value}(h:RowV P md w M e es v)(hj:j<es.length) : ∃ B cur cap,v = .slice (some ⟨B,0,none⟩) es.length cap∧A_ v=some B∧Hd v=B∧w.heap[B]? = some (.cells cur e (0,0))∧cur.size=cap*P.cellsOf e∧es.length≤cap∧0<P.cellsOf e ∧
   (∀ (i:Nat) (x:D),es[i]? = some x→RdC P md w M (.ty e) x (fun q=>cur[i*P.cellsOf e+q]?))∧RdC P md w M (.ty e) (es.getD j .nil) (fun q=>w.cell? ⟨B,j*P.cellsOf e+q,none⟩):=by
 obtain ⟨A,cap,rfl,h⟩:=h
 rcases h with ⟨rfl,_⟩ | ⟨B,cur,rfl,h0,h1,h2,h3,h4,h5,h6⟩
 · simp at hj
 · have ho:A_ (.slice (some ⟨B,0,none⟩) es.length cap)=some B:=by simp[A_];omega
   refine ⟨B,cur,cap,rfl,ho,by rw[Hd,ho];rfl,h1,h4,h2,h5,h6,?_⟩
   have:=h6 j (es.getD j .nil) (by simp[List.getD,hj])
   rwa[show (fun q=>cur[j*P.cellsOf e+q]?)=(fun q=>w.cell? ⟨B,j*P.cellsOf e+q,none⟩) from funext fun q=>by rw[cell_of_row w B _ cur e (0,0) h1]]at this
theorem Aft(hP:WfP P)(h:R P md w0 N0 M0 slot look used ds n β a w){o:Oper}{t:TypeId}{x:Operand}(ho:o.op = .load t x){r e j:Nat}{p:List Nat}{es:List D}{lv:Bool}(hx':Am slot x = .rptr r j p)(hr:look r=some (.row e es lv))(ht:B5 P e p=some t) :
  Ca P o a w (B8 P md w0 N0 M0 slot look used ds n a (Bt P t ((es.getD j .nil).path p)) []):=by
 have hx:=By h x
 rw[hx']at hx
 obtain ⟨hj,hT,vx⟩:=IS hx hr
 have hrow:RowV P md w (Ap M0 look β) e es (β r):=h.blks r _ hr
 obtain ⟨B,cur,cap,r1,r2,r3,r4,r5,r6,r7,r8,r9⟩:=GQ hrow hj
 have hrd:=TL r9 ht
 rw[show (fun q=>w.cell? ⟨B,j*P.cellsOf e+(Bf P e p+q),none⟩)=(fun q=>w.cell? ⟨B,j*P.cellsOf e+Bf P e p+q,none⟩) from funext fun q=>by rw[Nat.add_assoc]]at hrd
 obtain ⟨u,hu,hv⟩:=OS hP hrd ((Ma ht).2 r7)
 refine Ce (v:=u) (w':=w) ?_ (Cp h (K0 hP hv).1 (by rw[(K0 (look:=look) (β:=β) hP hv).2];simp))
 simp[execOp,ho,vx,Instr.loadAt,Instr.sureAddr,r3,hu]
theorem Afr(hP:WfP P)(h:R P md w0 N0 M0 slot look used ds n β a w){o:Oper}{t:TypeId}{x:Operand}(ho:o.op = .load t x){y:D}(hx':Am slot x = .at_ t y)(hp:0<P.cellsOf t) :
  Ca P o a w (B8 P md w0 N0 M0 slot look used ds n a (Bt P t y) []):=by
 have hx:=By h x
 rw[hx']at hx
 obtain ⟨bk,off,vx,_,_,hrd⟩:=ZM hx
 obtain ⟨u,hu,hv⟩:=OS hP hrd hp
 refine Ce (v:=u) (w':=w) ?_ (Cp h (K0 hP hv).1 (by rw[(K0 (look:=look) (β:=β) hP hv).2];simp))
 simp[execOp,ho,vx,Instr.loadAt,Instr.sureAddr,hu]
theorem IL : ∀ {p:List Nat} {t t' i:Nat} {fs:List Field} {f:Field},B5 P t p=some t'→Cx P t'=some fs→fs[i]? = some f→B5 P t (p++[i])=some f.type∧Bf P t (p++[i])=Bf P t p+f.offset
 | [],t,t',i,fs,f,h,hf,hi=>by
  simp only[B5,Alo]at h
  subst h
  simp[B5,Bf,hf,hi]
 | q::p,t,t',i,fs,f,h,hf,hi=>by
  simp only[B5]at h
  split at h
  · cases h
  · rename_i gs hgs
    split at h
    · rename_i g hg
      obtain ⟨h1,h2⟩:=IL h hf hi
      simp only[List.cons_append,B5,Bf,hgs,hg,h1,h2]
      exact ⟨trivial,by omega⟩
    · cases h
theorem GS{t i:Nat}{fs:List Field}{f:Field}(ht:Cx P t=some fs)(hi:fs[i]? = some f)(bk off:Nat):(Instr.fieldAt t (.pointer (some ⟨bk,off,none⟩)) i).run P w = .ok (.pointer (some ⟨bk,off+f.offset,none⟩)) w:=by
 obtain ⟨⟨b,hb,hl⟩,hk⟩:=Ck ht
 have hpos:=(Fh hk hi).1
 have hbi:b[i]? = some f:=by rw[← Array.getElem?_toList,hl];exact hi
 simp only[Instr.fieldAt,Sem.run_bind,run_underlying hb,Result.andThen_ok,hbi,Instr.sureAddr,Sem.run_pure,fieldPlace,Gd hpos,if_neg (Nat.ne_of_gt hpos),Addr.add_lit]
theorem ET(h:R P md w0 N0 M0 slot look used ds n β a w){o:Oper}{t:TypeId}{x:Operand}{i:Nat}(ho:o.op = .fieldAddr t x i){fs:List Field}{f:Field}(ht:Cx P t=some fs)(hi:fs[i]? = some f){l:L}
   (hl:(∃ r p t0 k lv,Am slot x = .ptr r p∧look r=some (.var t0 k lv)∧B5 P t0 p=some t∧l = .ptr r (p++[i]))∨(∃ r j p e es lv,Am slot x = .rptr r j p∧look r=some (.row e es lv)∧B5 P e p=some t∧l = .rptr r j (p++[i]))∨(∃ y,Am slot x = .at_ t y∧l = .at_ f.type (y.fld i))) :
   Ca P o a w (B8 P md w0 N0 M0 slot look used ds n a l []):=by
 have hx:=By h x
 have hid:=Ie h x
 rcases hl with ⟨r,p,t0,k,lv,hx',hr,hty,rfl⟩ | ⟨r,j,p,e,es,lv,hx',hr,hty,rfl⟩ | ⟨y,hx',rfl⟩
 · rw[hx']at hx hid
   obtain ⟨_,vx⟩:=Z4 hx hr
   obtain ⟨g1,g2⟩:=IL hty ht hi
   refine Ce (v:= .pointer (some ⟨Hd (β r),Bf P t0 (p++[i]),none⟩)) (w':=w) ?_ (Cp h (Di (by simp) (.ptr ⟨_,rfl,rfl⟩ (fun t' l' lv' hr'=> ?_)) ⟨rfl,rfl,Eg rfl⟩) (by simpa [L.ids]using hid))
   · simp[execOp,ho,vx,GS ht hi,g2]
   · rw[hr]at hr'
     injection hr' with hr'
     injection hr' with e1 e2 e3
     subst e1
     exact ⟨by rw[g1];rfl,rfl⟩
 · rw[hx']at hx hid
   obtain ⟨hj,_,vx⟩:=IS hx hr
   obtain ⟨g1,g2⟩:=IL hty ht hi
   refine Ce (v:= .pointer (some ⟨Hd (β r),j*P.cellsOf e+Bf P e (p++[i]),none⟩)) (w':=w) ?_ (Cp h (Di (by simp) (.rptr ⟨_,rfl,rfl⟩ (fun e' es' lv' hr'=> ?_)) ⟨rfl,rfl,Eg rfl⟩) (by simpa [L.ids]using hid))
   · simp[execOp,ho,vx,GS ht hi,g2,Nat.add_assoc]
   · rw[hr]at hr'
     injection hr' with hr'
     injection hr' with e1 e2 e3
     subst e1
     subst e2
     exact ⟨hj,by rw[g1];rfl,rfl⟩
 · rw[hx']at hx
   obtain ⟨bk,off,vx,hM,hb,hrd⟩:=ZM hx
   have:=Q_ hrd ht hi
   rw[show (fun j=>w.cell? ⟨bk,off+(f.offset+j),none⟩)=(fun j=>w.cell? ⟨bk,off+f.offset+j,none⟩) from funext fun j=>by rw[Nat.add_assoc]]at this
   refine Ce (v:= .pointer (some ⟨bk,off+f.offset,none⟩)) (w':=w) ?_ (Cp h (Di (by simp) (.at_ rfl hM hb this) ⟨rfl,rfl,Eg rfl⟩) (by simp[L.ids]))
   simp[execOp,ho,vx,GS ht hi]
theorem Afl(hP:WfP P)(h:R P md w0 N0 M0 slot look used ds n β a w){o:Oper}{t:TypeId}{x:Operand}{i:Nat}(ho:o.op = .field t x i){t':Nat}{l:L}(hs:sub P t [i] (Am slot x)=some (t',l))(hok:Cz P t' l=true) :
   Ca P o a w (B8 P md w0 N0 M0 slot look used ds n a l []):=by
 have hx:=By h x
 have hid:=Ie h x
 simp only[sub]at hs
 split at hs
 · cases hs
 · rename_i fs hfs
   split at hs
   · cases hs
   · rename_i ls hls
     split at hs
     · rename_i f k hf hk
       simp only[Alo,Prod.mk.injEq]at hs
       obtain ⟨rfl,rfl⟩:=hs
       have hne:Am slot x≠ .undef∧Am slot x≠ .skip∧∀ ls,Am slot x≠ .tup ls:=by
        unfold Gb at hls
        split at hls <;> simp_all
       obtain ⟨hl,hsz⟩:=C2 hx hne.1 hne.2.1 hne.2.2
       have hagg:(Am slot x).isAgg P=true∧(Am slot x).size P=P.cellsOf t:=by
        unfold Gb at hls
        split at hls
        · rename_i t1 ls1 e1
          split at hls
          · rename_i hc;simp only[Alp,beq_iff_eq]at hc;rw[e1,← hc.1];exact ⟨rfl,rfl⟩
          · cases hls
        · rename_i t1 x1 e1
          split at hls
          · rename_i hc;simp only[beq_iff_eq]at hc;subst hc;rw[e1];exact ⟨Ub hfs,rfl⟩
          · cases hls
        · cases hls
       obtain ⟨cs,hv⟩:=Aar (hsz.agg.trans hagg.1)
       have hcs:cs.size=P.cellsOf t:=by have:=hsz.size;rw[hv,hagg.2]at this;exact this
       obtain ⟨_,p2,p3⟩:=FA hl hfs hls
       have hlc:LC P md w (Ap M0 look β) look β k (fun j=>cs[f.offset+j]?):=by
        have:=(p2 i f k hf hk).1
        rw[hv]at this
        exact this
       have hok':=Fh (Ck hfs).2 hf
       obtain ⟨g1,g2⟩:=JP hP hlc hok hok'.1 (by omega) (fun j u hu=>hsz.ones j u (by rw[hv];exact hu))
       obtain ⟨⟨b,hb,hbl⟩,_⟩:=Ck hfs
       have hbi:b[i]? = some f:=by rw[← Array.getElem?_toList,hbl];exact hf
       have hrun : ∀ u,(part f.type cs f.offset).run P w = .ok u w→(execOp a.eval o).run P w = .ok (.value u) w:=by
        intro u hu
        simp[execOp,ho,hv,Instr.field,run_underlying hb,hbi,asAgg,hu]
       cases ha:A9 P f.type with
       | true =>
        refine Ce (hrun _ ?_) (Cp h (g1 ha) (fun r hr=>hid r (p3 i k hk r hr)))
        simp only[part,Sem.run_bind,Yj (EO hok hlc),Result.andThen_ok,ha,if_true,Gd hok'.1,Sem.run_pure]
       | false =>
        obtain ⟨u,hu,hvl⟩:=g2 ha
        refine Ce (hrun u ?_) (Cp h hvl (fun r hr=>hid r (p3 i k hk r hr)))
        simp[part,Yj (EO hok hlc),ha,hu]
     · cases hs
theorem Afn(h:R P md w0 N0 M0 slot look used ds n β a w){o:Oper}{t:TypeId}{x y:Operand}(ho:o.op = .indexAddr t x y){e:Nat}{k:IntKind}{i:Int}{z:D}(he:B3 P t=some e)(hp:0<P.cellsOf e)(hy':Am slot y = .i k i)(hx':Am slot x = .d t z)(h0:0≤i)(h1:i<z.els.length) :
  Ca P o a w (B8 P md w0 N0 M0 slot look used ds n a (.at_ e (z.els.getD i.toNat .nil)) []):=by
 have hx:=By h x
 have hy:=By h y
 rw[hx']at hx
 rw[hy']at hy
 obtain ⟨vy,_⟩:=Fn hy
 obtain ⟨hl,hsz⟩:=C2 hx (by simp) (by simp) (by simp)
 have hu:=Dd he
 have hc:=Fi hsz (by simp[L.isAgg,A9,hu])
 cases hl with
 | d hrd =>
  cases hrd with
  | int ht _ _ _=>rw[show P.underlying t=_ from ht]at hu;cases hu
  | bool ht _=>rw[show P.underlying t=_ from ht]at hu;cases hu
  | str ht _ _=>rw[show P.underlying t=_ from ht]at hu;cases hu
  | @sl _ e' es c A cap bk off ht hc' h2 h3 hA hel =>
   rw[show P.underlying t=_ from ht]at hu
   injection hu with hu
   injection hu with hu
   subst hu
   have h1':i<es.length:=h1
   have hne:es≠[]:=fun e0=>by rw[e0]at h1';simp at h1';omega
   obtain ⟨rfl,hM,hb⟩:=hA hne
   rw[hc]at hc'
   simp only[List.getElem?_toArray,List.getElem?_cons_zero,Alo]at hc'
   have hi:i.toNat<es.length:=by omega
   have hx1:es[i.toNat]? = some (es.getD i.toNat .nil):=by simp[List.getD,hi]
   have:=hel i.toNat _ hx1
   rw[show (fun j=>w.cell? ⟨bk,off+(i.toNat*P.cellsOf e'+j),none⟩)=(fun j=>w.cell? ⟨bk,off+i.toNat*P.cellsOf e'+j,none⟩) from funext fun j=>by rw[Nat.add_assoc]]at this
   refine Ce (v:= .pointer (some ⟨bk,off+i.toNat*P.cellsOf e',none⟩)) (w':=w) ?_ (Cp h (Di (by simp) (.at_ rfl hM hb this) ⟨rfl,rfl,Eg rfl⟩) (by simp[L.ids]))
   have hcond:0≤i∧i<((es.length:Nat):Int):=⟨h0,h1'⟩
   simp[execOp,ho,vy,hc',Instr.indexAt,asIntOf,run_underlying (Dd he),hcond,Gd hp,Addr.add_lit]
  | struct ht _ _=>obtain ⟨⟨b,hb,_⟩,_⟩:=Ck ht;rw[hb]at hu;cases hu
  | fn ht _ _ _ _ _ _ _ _ _=>rw[show P.underlying t=_ from ht]at hu;cases hu
  | ref ht _ _ _ _=>rw[show P.underlying t=_ from ht]at hu;cases hu
  | mp ht _ _ _ _ _ _ _ _ _ _=>rw[show P.underlying t=_ from ht]at hu;cases hu
theorem Afo(h:R P md w0 N0 M0 slot look used ds n β a w){o:Oper}{t:TypeId}{x y:Operand}(ho:o.op = .indexAddr t x y){e r:Nat}{k:IntKind}{i:Int}{es:List D}{lv:Bool}(he:B3 P t=some e)(hp:0<P.cellsOf e)(hy':Am slot y = .i k i)(hx':Am slot x = .row r)(hr:look r=some (.row e es lv))(h0:0≤i)(h1:i<es.length) :
   Ca P o a w (B8 P md w0 N0 M0 slot look used ds n a (.rptr r i.toNat []) []):=by
 have hx:=By h x
 have hy:=By h y
 have hid:=Ie h x
 rw[hx']at hx hid
 rw[hy']at hy
 obtain ⟨vy,_⟩:=Fn hy
 have vx:=Im hx hr
 have hrow:RowV P md w (Ap M0 look β) e es (β r):=h.blks r _ hr
 obtain ⟨B,cur,cap,r1,r2,r3,r4,r5,r6,r7,r8,r9⟩:=GQ hrow (show i.toNat<es.length by omega)
 refine Ce (v:= .pointer (some ⟨B,i.toNat*P.cellsOf e,none⟩)) (w':=w) ?_ (Cp h (Di (by simp) (.rptr ⟨_,rfl,rfl⟩ (fun e' es' lv' hr'=> ?_)) ⟨rfl,rfl,Eg rfl⟩) (by simpa [L.ids]using hid))
 · have hcond:0≤i∧i<((es.length:Nat):Int):=⟨h0,h1⟩
   simp[execOp,ho,vy,vx,r1,Instr.indexAt,asIntOf,run_underlying (Dd he),hcond,Gd hp,Addr.add_lit]
 · rw[hr]at hr'
   injection hr' with hr'
   injection hr' with e1 e2 e3
   subst e1
   subst e2
   exact ⟨by omega,rfl,by rw[r3];simp[Value.cells,Bf]⟩
theorem Afm(h:R P md w0 N0 M0 slot look used ds n β a w){o:Oper}{t:TypeId}{x y:Operand}(ho:o.op = .index t x y){k:IntKind}{i:Int}{s:ByteArray}(ht:F8 P t=true)(hy':Am slot y = .i k i)(hx':Am slot x = .s s)(h0:0≤i)(h1:i<s.size) :
  Ca P o a w (B8 P md w0 N0 M0 slot look used ds n a (.i .u8 ((s.data.toList.getD i.toNat 0).toNat)) []):=by
 have hx:=By h x
 have hy:=By h y
 rw[hx']at hx
 rw[hy']at hy
 obtain ⟨vy,_⟩:=Fn hy
 obtain ⟨vx,_⟩:=O8 hx
 have hi:i.toNat<s.size:=by omega
 have hlt:((s.data.toList.getD i.toNat 0).toNat:Int)<256:=by have:=(s.data.toList.getD i.toNat 0).toNat_lt;omega
 generalize hgd:s.data.toList.getD i.toNat 0=bt at *
 refine Ce (v:= .int .u8 _) (w':=w) ?_ (Cp h (Fr (by simp[IntKind.min,IntKind.signed]) (by simp[IntKind.max,IntKind.signed,Alq];omega)) (by simp[L.ids]))
 have hg:s[i.toNat]? = some s[i.toNat]:=by simp[getElem?_pos,hi]
 have hd:s[i.toNat]=bt:=by
  have hi2:i.toNat<s.data.toList.length:=by simpa using hi
  rw[← hgd,List.getD,Alg hi2]
  rfl
 simp[execOp,ho,vy,vx,Instr.index,asIntOf,run_underlying (Lz ht),h0,hg,hd]
theorem Afw(h:R P md w0 N0 M0 slot look used ds n β a w){o:Oper}{f:Nat}{first caps:Array Operand}(ho:o.op = .makeFunc (.func f) first caps)(hf:first.isEmpty=true)(hg:(caps.toList.map (Am slot)).all L.good=true) :
  Ca P o a w (B8 P md w0 N0 M0 slot look used ds n a (.fn f (caps.toList.map (Am slot))) []):=by
 have hf':first = #[]:=by simpa using hf
 have hcap : ∀ (i:Nat) (l:L) (v:Value),(caps.toList.map (Am slot))[i]? = some l→(caps.map a.eval)[i]? = some v→LC P md w (Ap M0 look β) look β l (fun j=>v.cells[j]?)∧szOk P l v:=by
  intro i l v hl hv
  rw[Aly,Array.getElem?_toList]at hl
  rw[Array.getElem?_map]at hv
  cases hc:caps[i]? with
  | none=>rw[hc]at hl;cases hl
  | some x =>
   rw[hc]at hl hv
   simp only[Option.map_some,Alo]at hl hv
   subst hl
   subst hv
   have hgd:(Am slot x).good=true:=List.all_eq_true.1 hg _ (List.mem_map.2 ⟨x,by simpa using Array.mem_of_getElem? hc,rfl⟩)
   exact C2 (By h x) (fun e=>by rw[e]at hgd;cases hgd) (fun e=>by rw[e]at hgd;cases hgd) (fun ls e=>by rw[e]at hgd;cases hgd)
 refine Ce (v:= .func (.func f) #[] (caps.map a.eval)) (w':=w) (by simp[execOp,ho,hf',Instr.makeFunc]) (Cp h (Di (by simp) (.fn rfl (by simp) (fun i l v hl hv=>(hcap i l v hl hv).1) (fun i l v hl hv=>(hcap i l v hl hv).2)) ⟨rfl,rfl,Eg rfl⟩) (fun r hr=> ?_))
 simp only[L.ids]at hr
 have : ∀ xs:List Operand,r∈L.idsL (xs.map (Am slot))→used r:=by
  intro xs
  induction xs with
  | nil=>intro hr;simp[L.idsL]at hr
  | cons x xs ih =>
   intro hr
   simp only[Aml,L.idsL,List.mem_append]at hr
   rcases hr with hr | hr
   · exact Ie h x r hr
   · exact ih hr
 exact this _ hr
theorem Ak9{l:L}{v:Value}(h:V1 P md w M look β l v):VL P md w M look β l v:=by
 cases l with
 | tup ls =>
  rcases h with h | ⟨h,_⟩ | ⟨h,_⟩
  · cases h
  · cases h
  · cases h
 | _=>exact h
theorem Afk(h:R P md w0 N0 M0 slot look used ds n β a w){o:Oper}{x:Operand}{i:Nat}(ho:o.op = .extract x i){ls:List L}{l:L}(hx':Am slot x = .tup ls)(hl:ls[i]? = some l) :
  Ca P o a w (B8 P md w0 N0 M0 slot look used ds n a l []):=by
 have hx:=By h x
 have hid:=Ie h x
 rw[hx']at hx hid
 obtain ⟨vs,vx,hsz,hv⟩:=hx
 have hi:i<vs.size:=by rw[hsz];exact (Alj.1 hl).1
 refine Ce (v:=vs[i]) (w':=w) ?_ (Cp h (Ak9 (hv i l vs[i] hl (Al3 hi))) (fun r hr=>hid r (by simp only[L.ids];exact Ks hl r hr)))
 simp[execOp,ho,vx,Instr.extract,Al3 hi]
theorem Nd(h:R P md w0 N0 M0 slot look used ds n β a w)(hsub : ∀ r b,lookR r=some b→look r=some b){x:Operand}{t:Nat}{es:List D}(he:Ec P lookR t (Am slot x)=some es) : ∃ e A cap,P.underlying t=some (.slice e)∧a.eval x = .slice A es.length cap∧es.length≤cap∧cap≤maxLen:=by
 have hx:=By h x
 unfold Ec at he
 split at he
 · rename_i t' y ex
   rw[ex]at hx
   split at he
   · rename_i hc
     simp only[Alp,beq_iff_eq]at hc
     obtain ⟨rfl,hc⟩:=hc
     injection he with he
     subst he
     obtain ⟨e,hte⟩:=Option.isSome_iff_exists.1 hc
     have hu:=Dd hte
     obtain ⟨hl,hsz⟩:=C2 hx (by simp) (by simp) (by simp)
     have hcc:=Fi hsz (by simp[L.isAgg,A9,hu])
     cases hl with
     | d hrd =>
       cases hrd with
       | int ht _ _ _=>rw[show P.underlying t'=_ from ht]at hu;cases hu
       | bool ht _=>rw[show P.underlying t'=_ from ht]at hu;cases hu
       | str ht _ _=>rw[show P.underlying t'=_ from ht]at hu;cases hu
       | @sl _ e' es c A cap bk off ht hc' h2 h3 hA hel =>
        rw[hcc]at hc'
        simp only[List.getElem?_toArray,List.getElem?_cons_zero,Alo]at hc'
        exact ⟨e,A,cap,hu,hc',h2,h3⟩
       | struct ht _ _=>obtain ⟨⟨b,hb,_⟩,_⟩:=Ck ht;rw[hb]at hu;cases hu
       | fn ht _ _ _ _ _ _ _ _ _=>rw[show P.underlying t'=_ from ht]at hu;cases hu
       | ref ht _ _ _ _=>rw[show P.underlying t'=_ from ht]at hu;cases hu
       | mp ht _ _ _ _ _ _ _ _ _ _=>rw[show P.underlying t'=_ from ht]at hu;cases hu
   · cases he
 · rename_i ex
   rw[ex]at hx
   split at he
   · rename_i hc
     injection he with he
     subst he
     obtain ⟨e,hte⟩:=Option.isSome_iff_exists.1 hc
     obtain ⟨A,hA⟩:=Sb hx
     exact ⟨e,A,0,Dd hte,hA,Als _,Nat.zero_le _⟩
   · cases he
 · rename_i r ex
   rw[ex]at hx
   split at he
   · rename_i e es' lv hr
     split at he
     · rename_i hc
       injection he with he
       subst he
       have hlk:=hsub _ _ hr
       have vx:=Im hx hlk
       have hrow:RowV P md w (Ap M0 look β) e es' (β r):=h.blks r _ hlk
       obtain ⟨A,cap,hv,hrest⟩:=hrow
       refine ⟨e,A,cap,Dd (by simpa using hc),vx.trans hv,?_⟩
       rcases hrest with ⟨rfl,rfl⟩ | ⟨B,cur,_,_,_,h2,h3,_⟩
       · exact ⟨Als _,Nat.zero_le _⟩
       · exact ⟨h2,h3⟩
     · cases he
   · cases he
 · cases he
theorem Afx(h:R P md w0 N0 M0 slot look used ds n β a w){o:Oper}{op:BinOp}{t t':TypeId}{x y:Operand}(ho:o.op = .binOp op t x y t'){l:L}(hb:EI P op t y (Am slot x)=some l) :
   Ca P o a w (B8 P md w0 N0 M0 slot look used ds n a l []):=by
 unfold EI at hb
 split at hb
 · rename_i t'' v ex
   split at hb
   · rename_i hc
     simp only[Alp,beq_iff_eq]at hc
     obtain ⟨rfl,hc⟩:=hc
     injection hb with hb
     subst hb
     have hx:=By h x
     rw[ex]at hx
     obtain ⟨e,hte⟩:=Option.isSome_iff_exists.1 hc
     have hu:=Dd hte
     obtain ⟨hl,hsz⟩:=C2 hx (by simp) (by simp) (by simp)
     have hcc:=Fi hsz (by simp[L.isAgg,A9,hu])
     have key : ∃ A n c,a.eval x = .slice A n c∧(A.isNone=true→v.els.isEmpty=true):=by
      cases hl with
      | d hrd =>
       cases hrd with
       | int ht _ _ _=>rw[show P.underlying t''=_ from ht]at hu;cases hu
       | bool ht _=>rw[show P.underlying t''=_ from ht]at hu;cases hu
       | str ht _ _=>rw[show P.underlying t''=_ from ht]at hu;cases hu
       | fn ht=>rw[show P.underlying t''=_ from ht]at hu;cases hu
       | ref ht=>rw[show P.underlying t''=_ from ht]at hu;cases hu
       | mp ht=>rw[show P.underlying t''=_ from ht]at hu;cases hu
       | struct ht _ _=>obtain ⟨⟨_,ha,_⟩,_⟩:=Ck ht;rw[hu]at ha;cases ha
       | @sl _ e es _ A cap bk off ht hc' h1 h2 hA hh =>
        rw[hcc]at hc'
        simp at hc'
        refine ⟨A,es.length,cap,hc',fun hn=> ?_⟩
        cases es with
        | nil=>rfl
        | cons y ys=>rw[(hA (by simp)).1]at hn;cases hn
     obtain ⟨A,m,c,hv,hA⟩:=key
     refine Ce (v:= .bool A.isNone) (w':=w) ?_ (Cp h (AdE _ hA) (by simp[L.ids]))
     have hy:a.eval (.const (.slice none 0 0)) = .slice none 0 0:=rfl
     have hg:(eqGuard .eql t'' x (.const (.slice none 0 0)) (a.eval x) (a.eval (.const (.slice none 0 0)))).run P w = .ok () w:=NF _ _ _ _ _ _ (by rw[hv];simp) (by rw[hv];simp)
     simp only[execOp,ho,Sem.run_bind,hg,Result.andThen_ok]
     rw[hv,hy,AaN hu]
     simp
   · cases hb
 · cases hb
theorem DQ{m:Nat}(h:m≤maxLen):IntKind.i64.min≤(m:Int)∧(m:Int)≤IntKind.i64.max:=by
 unfold maxLen at h
 simp[IntKind.min,IntKind.max,IntKind.signed,Alq]
 omega
theorem Afp(h:R P md w0 N0 M0 slot look used ds n β a w)(hsub : ∀ r b,lookR r=some b→look r=some b){o:Oper}{c:Call}{x:Operand}(ho:o.op = .call c)(hc:c.callee = .builtin .len)(hx':c.args.toList = [x]){es:List D}(hne:c.argTypes.size≠0)(he:Ec P lookR (c.argTypes.getD 0 0) (Am slot x)=some es) :
  Ca P o a w (B8 P md w0 N0 M0 slot look used ds n a (.i .i64 es.length) []):=by
 obtain ⟨e,A,cap,hu,hv,h1,h2⟩:=Nd h hsub he
 have hlen:=DQ (Nat.le_trans h1 h2)
 refine Ce (v:= .int .i64 es.length) (w':=w) ?_ (Cp h (Fr hlen.1 hlen.2) (by simp[L.ids]))
 clear hlen
 have ha:c.args = #[x]:=by rw[← Array.toList_inj];exact hx'
 have h0:c.argTypes[0]? = some (c.argTypes.getD 0 0):=by
  rw[Amf,Al3 (by omega)];rfl
 generalize c.argTypes.getD 0 0=T at *
 simp[execOp,ho,resolve,hc,ha,invoke,builtin,Builtin.len_,h0,run_underlying hu,hv,goInt]
theorem Afq(h:R P md w0 N0 M0 slot look used ds n β a w){o:Oper}{c:Call}{x:Operand}(ho:o.op = .call c)(hc:c.callee = .builtin .len)(hx':c.args.toList = [x]){s:ByteArray}(hne:c.argTypes.size≠0)(hs:Am slot x = .s s)(ht:F8 P (c.argTypes.getD 0 0)=true) :
  Ca P o a w (B8 P md w0 N0 M0 slot look used ds n a (.i .i64 s.size) []):=by
 have hx:=By h x
 rw[hs]at hx
 obtain ⟨hv,hlen⟩:=O8 hx
 have hlen:=DQ hlen
 refine Ce (v:= .int .i64 s.size) (w':=w) ?_ (Cp h (Fr hlen.1 hlen.2) (by simp[L.ids]))
 clear hlen
 have ha:c.args = #[x]:=by rw[← Array.toList_inj];exact hx'
 have h0:c.argTypes[0]? = some (c.argTypes.getD 0 0):=by
  rw[Amf,Al3 (by omega)];rfl
 generalize c.argTypes.getD 0 0=T at *
 simp[execOp,ho,resolve,hc,ha,invoke,builtin,Builtin.len_,h0,run_underlying (Lz ht),hv,goInt]
end
end Go.Proofs.YtokkbgpgaheakaaGreat
namespace Go.Proofs.YtokkbgpgaheakaaGreat
open Go.RowKit
section
variable {P:Program} {md:Nat→FMode} {w0 w w':World} {N0 M0 M:Nat→Prop} {slot:Nat→L} {look lookR:Nat→Option Blk} {used:Nat→Prop} {ds:Dfs} {β:Nat→Value} {a:Act} {n:Nat}
theorem Ix(look:Nat→Option Blk)(xs ys:List (Nat×Option Blk)):Bh look (xs++ys)=Bh (Bh look xs) ys:=by
 induction xs generalizing look with
 | nil=>rfl
 | cons x xs ih=>obtain ⟨r,b⟩:=x;exact ih _
theorem R.weak (h:R P md w0 N0 M0 slot look used ds n β a w) {used':Nat→Prop} (hu : ∀ r,used r→used' r):R P md w0 N0 M0 slot look used' ds n β a w :=
 ⟨h.stp,h.m0,h.size,h.slots,h.blks,h.own,h.sep,fun t r hr=>hu r (h.usedS t r hr),fun q b hq=>⟨hu q (h.usedB q b hq).1,fun r hr=>hu r ((h.usedB q b hq).2 r hr)⟩,h.defs,h.pin⟩
theorem R.fz (h:R P md w0 N0 M0 slot look used ds n β a w) (hsub : ∀ r b,lookR r=some b→look r=some b) (rs:List Nat):R P md w0 N0 M0 slot (Bh look (Cb lookR rs)) used ds n β a w:=by
 have key : ∀ (rs:List Nat) (lk:Nat→Option Blk),R P md w0 N0 M0 slot lk used ds n β a w→(∀ r b,lookR r=some b→lk r=some b∨lk r=F5 (some b))→R P md w0 N0 M0 slot (Bh lk (Cb lookR rs)) used ds n β a w:=by
  intro rs
  induction rs with
  | nil=>intro lk h _;exact h
  | cons r rs ih =>
   intro lk h hs
   simp only[Cb,Bh]
   cases hr:lookR r with
   | none =>
    refine ih _ (h.drop r) (fun q b hq=> ?_)
    have e:q≠r:=fun e=>by rw[e,hr]at hq;cases hq
    show Au lk r none q=_∨Au lk r none q=_
    rw[Bo _ _ e]
    exact hs q b hq
   | some b =>
    have hlk:=hs r b hr
    have hfz:F5 (some b)=F5 (lk r):=by
      rcases hlk with e | e
      · rw[e]
      · rw[e];cases b <;> rfl
    rw[hfz]
    refine ih _ (h.freeze r) (fun q c hq=> ?_)
    by_cases e:q=r
    · subst e
      rw[Bz,← hfz]
      rw[hr]at hq
      injection hq with hq
      subst hq
      exact .inr rfl
    · rw[Bo _ _ e]
      exact hs q c hq
 exact key rs look h (fun r b hr=> .inl (hsub r b hr))
theorem P_(lk:Nat→Option Blk) : ∀ (rs:List Nat) (q:Nat),q∉rs→Bh lk (Cb lookR rs) q=lk q:=by
 intro rs
 induction rs generalizing lk with
 | nil=>intro q _;rfl
 | cons r rs ih =>
  intro q hq
  simp only[Alx,not_or]at hq
  simp only[Cb,Bh]
  rw[ih _ q hq.2,Bo _ _ hq.1]
theorem CS(hsub : ∀ r b,lookR r=some b→look r=some b) : ∀ (rs:List Nat) (q:Nat),q∈rs→Bh look (Cb lookR rs) q=F5 (lookR q):=by
 have key : ∀ (rs:List Nat) (lk:Nat→Option Blk) (q:Nat),q∈rs→Bh lk (Cb lookR rs) q=F5 (lookR q):=by
  intro rs
  induction rs with
  | nil=>intro lk q hq;cases hq
  | cons r rs ih =>
   intro lk q hq
   simp only[Cb,Bh]
   by_cases hm:q∈rs
   · exact ih _ q hm
   · rw[P_ _ rs q hm]
     rcases Alx.1 hq with rfl | h
     · rw[Bz]
     · exact absurd h hm
 exact fun rs q hq=>key rs look q hq
theorem MT{x:Option Blk}{b:Blk}(h:F5 x=some b):b.live=false:=by
 cases x with
 | none=>cases h
 | some y=>cases y <;> simp[F5]at h <;> subst h <;> rfl
theorem P9(h:R P md w0 N0 M0 slot look used ds n β a w)(hsub : ∀ r b,lookR r=some b→look r=some b)(rs:List Nat):Away (Ap M0 (Bh look (Cb lookR rs)) β) look β rs:=by
 intro r hr b B hb hB hM
 rcases hM with hM | ⟨q,k,hq,hk,hqB⟩
 · have:=h.m0 B hM
   rcases (h.own r b B hb hB).1 with h1 | h1
   · omega
   · exact this.2 h1
 · have hq' : ∃ k',look q=some k':=by
    by_cases e:q∈rs
    · rw[CS hsub rs q e]at hq
      cases hlk:lookR q with
      | none=>rw[hlk]at hq;cases hq
      | some k'=>exact ⟨k',hsub q k' hlk⟩
    · rw[P_ _ rs q e]at hq;exact ⟨k,hq⟩
   obtain ⟨k',hk'⟩:=hq'
   obtain rfl:=h.sep r q b k' B hb hk' hB hqB
   rw[CS hsub rs r hr]at hq
   rw[MT hq]at hk
   cases hk
theorem Np(h:R P md w0 N0 M0 slot look used ds n β a w)(hsub : ∀ r b,lookR r=some b→look r=some b)(rs:List Nat) : ∀ b,Ap M0 (Bh look (Cb lookR rs)) β b→Ap M0 look β b:=by
 intro b hM
 rcases hM with hM | ⟨q,k,hq,hk,hqB⟩
 · exact .inl hM
 · by_cases e:q∈rs
   · rw[CS hsub rs q e]at hq
     rw[MT hq]at hk
     cases hk
   · rw[P_ _ rs q e]at hq
     exact .inr ⟨q,k,hq,hk,hqB⟩
theorem LV(h:R P md w0 N0 M0 slot look used ds n β a w)(hsub : ∀ r b,lookR r=some b→look r=some b){M':Nat→Prop}(hM : ∀ b,M' b→Ap M0 look β b){x:Operand}(ha:Away M' look β (Am slot x).rows){t:Nat}{es:List D}(he:Ec P lookR t (Am slot x)=some es) :
   RdC P md w M' (.ty t) (.sl es) (fun j=>(a.eval x).cells[j]?):=by
 have hx:=By h x
 unfold Ec at he
 split at he
 · rename_i t' y ex
   rw[ex]at hx
   split at he
   · rename_i hc
     simp only[Alp,beq_iff_eq]at hc
     obtain ⟨rfl,hc⟩:=hc
     injection he with he
     subst he
     obtain ⟨e,hte⟩:=Option.isSome_iff_exists.1 hc
     have hu:=Dd hte
     obtain ⟨hl,hsz⟩:=C2 hx (by simp) (by simp) (by simp)
     cases hl with
     | d hrd =>
       have hy:y = .sl y.els:=by
        cases hrd with
        | int ht _ _ _=>rw[show P.underlying t'=_ from ht]at hu;cases hu
        | bool ht _=>rw[show P.underlying t'=_ from ht]at hu;cases hu
        | str ht _ _=>rw[show P.underlying t'=_ from ht]at hu;cases hu
        | sl=>rfl
        | struct ht _ _=>obtain ⟨⟨b,hb,_⟩,_⟩:=Ck ht;rw[hb]at hu;cases hu
        | fn ht _ _ _ _ _ _ _ _ _=>rw[show P.underlying t'=_ from ht]at hu;cases hu
        | ref ht _ _ _ _=>rw[show P.underlying t'=_ from ht]at hu;cases hu
        | mp ht _ _ _ _ _ _ _ _ _ _=>rw[show P.underlying t'=_ from ht]at hu;cases hu
       rw[← hy]
       exact hrd.mono (Als _) (fun _ _ _=>rfl) (fun b hb _=>hM b hb)
   · cases he
 · rename_i ex
   rw[ex]at hx
   split at he
   · rename_i hc
     injection he with he
     subst he
     obtain ⟨e,hte⟩:=Option.isSome_iff_exists.1 hc
     obtain ⟨A,hA⟩:=Sb hx
     rw[hA]
     exact .sl (t:= .ty t) (bk:=0) (off:=0) (A:=A) (cap:=0) (Dd hte) rfl (Als _) (Nat.zero_le _) (fun hne=>absurd rfl hne) (fun i x hx=>by simp at hx)
   · cases he
 · rename_i r ex
   rw[ex]at hx ha
   split at he
   · rename_i e es' lv hr
     split at he
     · rename_i hc
       injection he with he
       subst he
       have hlk:=hsub _ _ hr
       have vx:=Im hx hlk
       have hrow:RowV P md w (Ap M0 look β) e es' (β r):=h.blks r _ hlk
       refine WB hrow (t:= .ty t) (Dd (by simpa using hc)) ?_ hM (fun B=>ha r (by simp[L.rows]) _ B hlk)
       rw[vx]
       obtain ⟨A,cap,hv,_⟩:=hrow
       rw[hv];rfl
     · cases he
   · cases he
 · cases he
theorem AgH{t e:Nat}{es:List D}{A:Option Addr}{cap l k m:Nat}(h:RdC P md w M (.ty t) (.sl es) (fun j=>(Value.slice A es.length cap).cells[j]?))(ht:P.underlying t=some (.slice e))(h1:l≤k)(h2:k≤es.length)(h3:k≤m)(h4:m≤cap) :
   Rd P md w M (.ty t) (.sl ((es.take k).drop l)) (.slice (if m=l then A else A.map (·.add (l*P.cellsOf e))) (k-l) (m-l))∨P.cellsOf t≠1:=by
 by_cases hone:P.cellsOf t=1
 · refine .inl ⟨?_,hone.symm,?_⟩
   · cases h with
     | @sl _ e' _ _ A' cap' bk off ht' hc' g1 g2 hA hel =>
      have ht2:P.underlying t=some (.slice e'):=ht'
      rw[ht]at ht2
      injection ht2 with ht2
      injection ht2 with ht2
      subst ht2
      have hcc:Value.slice A es.length cap = .slice A' es.length cap':=by simpa [Value.cells]using hc'
      injection hcc with c1 c2 c3
      subst c1
      subst c3
      have hlen:((es.take k).drop l).length=k-l:=by simp;omega
      refine .sl (t:= .ty t) (bk:=bk) (off:=off+l*P.cellsOf e) ht (by rw[hlen];rfl) (by omega) (by omega) (fun hne=> ?_) (fun i x hx=> ?_)
      · have hes:es≠[]:=fun e0=>hne (by rw[e0];simp)
        obtain ⟨rfl,a2,a3⟩:=hA hes
        have hlk:l≠m:=fun e0=>by
         apply hne
         apply List.eq_nil_of_length_eq_zero
         omega
        refine ⟨?_,a2,a3⟩
        rw[if_neg (Ne.symm hlk)]
        simp[Addr.add_lit]
      · have hx':es[l+i]? = some x:=by
         rw[List.getElem?_drop]at hx
         rw[List.getElem?_take]at hx
         split at hx
         · exact hx
         · cases hx
        have:=hel (l+i) x hx'
        rwa[show (fun j=>w.cell? ⟨bk,off+((l+i)*P.cellsOf e+j),none⟩)=(fun j=>w.cell? ⟨bk,off+l*P.cellsOf e+(i*P.cellsOf e+j),none⟩) from funext fun j=>by rw[Nat.add_mul];congr 2;omega]at this
   · show false=A9 P t
     simp[A9,ht]
 · exact .inr hone
theorem Ajb(hP:WfP P){t e:Nat}(ht:P.underlying t=some (.slice e)):P.cellsOf t=1:=hP.one t (by simp[A9,ht]) (by rw[ht];rfl)
theorem WI{t e:Nat}(ht:P.underlying t=some (.slice e))(hp:0<P.cellsOf e){A:Option Addr}{len cap:Nat}{lo hi mx:Option Value}{l k m:Nat}
  (hb:(Instr.sliceBounds true len cap lo hi mx).run P w = .ok (l,k,m) w):(Instr.sliceAt t (.slice A len cap) lo hi mx).run P w = .ok (.slice (if m=l then A else A.map (·.add (l*P.cellsOf e))) (k-l) (m-l)) w:=by
 simp[Instr.sliceAt,run_underlying ht,Instr.slice,hb,Gd hp]
theorem Wo(hP:WfP P)(h:R P md w0 N0 M0 slot look used ds n β a w)(hsub : ∀ r b,lookR r=some b→look r=some b){o:Oper}{t:TypeId}{x:Operand}{lo hi mx:Option Operand}(ho:o.op = .slice t x lo hi mx){es:List D}(he:Ec P lookR t (Am slot x)=some es)(hp : ∀ e,B3 P t=some e→0<P.cellsOf e){l k m:Nat}(h1:l≤k)(h2:k≤es.length)(h3:k≤m)
   (hb : ∀ cap,es.length≤cap→∃ m',k≤m'∧m'≤cap∧(Instr.sliceBounds true es.length cap (lo.map a.eval) (hi.map a.eval) (mx.map a.eval)).run P w = .ok (l,k,m') w) :
   Ca P o a w (B8 P md w0 N0 M0 slot look used ds n a (.d t (.sl ((es.take k).drop l))) (Cb lookR (Am slot x).rows)):=by
 obtain ⟨e,A,cap,hu,hv,c1,c2⟩:=Nd h hsub he
 obtain ⟨m',b1,b2,b3⟩:=hb cap c1
 have hrd:=LV h hsub (Np h hsub (Am slot x).rows) (P9 h hsub (Am slot x).rows) he
 rw[hv]at hrd
 have hpe:=hp e (by simp[B3,hu])
 have:=(AgH hrd hu h1 h2 b1 b2).resolve_right (fun hne=>hne (Ajb hP hu))
 refine Ce (v:= .slice (if m'=l then A else A.map (·.add (l*P.cellsOf e))) (k-l) (m'-l)) (w':=w) (by simp[execOp,ho,hv,WI hu hpe b3]) ⟨β,(h.fz hsub _).weak (fun r hr=> .inl hr),?_,?_⟩
 · have hvl:=(K0 (look:=Bh look (Cb lookR (Am slot x).rows)) (β:=β) hP this).1
   rwa[show Bt P t (.sl ((es.take k).drop l)) = .d t (.sl ((es.take k).drop l)) by simp[Bt,hu]]at hvl
 · intro r hr;simp[L.ids]at hr
theorem Afz(h:R P md w0 N0 M0 slot look used ds n β a w)(hsub : ∀ r b,lookR r=some b→look r=some b){o:Oper}{t:TypeId}{x:Operand}{hi mx:Operand}(ho:o.op = .slice t x none (some hi) (some mx)){es:List D}(he:Ec P lookR t (Am slot x)=some es)(hp : ∀ e,B3 P t=some e→0<P.cellsOf e){k1 k2:IntKind}(hh:a.eval hi = .int k1 0)(hm:a.eval mx = .int k2 0) :
  Ca P o a w (B8 P md w0 N0 M0 slot look used ds n a .mt []):=by
 obtain ⟨e,A,cap,hu,hv,c1,c2⟩:=Nd h hsub he
 have hpe:=hp e (by simp[B3,hu])
 refine Ce (v:= .slice A 0 0) (w':=w) ?_ (Cp h PK (by simp[L.ids]))
 have hb:(Instr.sliceBounds true es.length cap none (some (.int k1 0)) (some (.int k2 0))).run P w = .ok (0,0,0) w:=by
  simp[Instr.sliceBounds,Instr.sliceBound,asIntOf]
 have:=WI (w:=w) (A:=A) hu hpe hb
 simp[execOp,ho,hv,hh,hm,this]
theorem Wp(h:R P md w0 N0 M0 slot look used ds n β a w){o:Oper}{t:TypeId}{x:Operand}{lo hi:Option Operand}(ho:o.op = .slice t x lo hi none){s:ByteArray}(hx':Am slot x = .s s)(ht:F8 P t=true){l k:Nat}(h1:l≤k)(h2:k≤s.size)
  (hb:(Instr.sliceBounds false s.size s.size (lo.map a.eval) (hi.map a.eval) none).run P w = .ok (l,k,s.size) w) :
  Ca P o a w (B8 P md w0 N0 M0 slot look used ds n a (.s (s.extract l k)) []):=by
 have hx:=By h x
 rw[hx']at hx
 obtain ⟨vx,hl⟩:=O8 hx
 refine Ce (v:= .string (s.extract l k)) (w':=w) ?_ (Cp h (EB (by rw[ByteArray.size_extract];omega)) (by simp[L.ids]))
 simp[execOp,ho,vx,Instr.sliceAt,run_underlying (Lz ht),Instr.slice,hb]
end
end Go.Proofs.YtokkbgpgaheakaaGreat
namespace Go.Proofs.YtokkbgpgaheakaaGreat
open Go.RowKit
section
variable {P:Program} {md:Nat→FMode} {w0 w w':World} {N0 M0 M:Nat→Prop} {slot:Nat→L} {look lookR:Nat→Option Blk} {used:Nat→Prop} {ds:Dfs} {β:Nat→Value} {a:Act} {n:Nat}
theorem Si : ∀ {k t:Nat} {c:Nat→Option Value} {l:L},Kg P k t c=some l→LC P md w M look β l c∧l.ids = []∧(0<P.cellsOf t→0<l.size P∧l.size P≤P.cellsOf t)
 | 0,t,c,l,h=>by simp[Kg]at h
 | k+1,t,c,l,h=>by
  simp only[Kg]at h
  split at h
  · split at h
    · split at h
      · rename_i hc;injection h with h;subst h;obtain ⟨rfl,h1,h2⟩:=hc;exact ⟨.i h1 h2 (by assumption),rfl,fun hp=>⟨Nat.one_pos,hp⟩⟩
      · cases h
    · cases h
  · split at h
    · injection h with h;subst h;exact ⟨.lit (by assumption),rfl,fun hp=>⟨Nat.one_pos,hp⟩⟩
    · cases h
  · split at h
    · split at h
      · injection h with h;subst h;exact ⟨.s (by assumption) (by assumption),rfl,fun hp=>⟨Nat.one_pos,hp⟩⟩
      · cases h
    · cases h
  · split at h
    · injection h with h;subst h;exact ⟨.mt (by assumption),rfl,fun hp=>⟨Nat.one_pos,hp⟩⟩
    · cases h
  · split at h
    · rename_i fs hfs
      simp only[Alv]at h
      obtain ⟨ls,hls,rfl⟩:=h
      have hok:=(Ck hfs).2
      have key : ∀ (gs:List Field) (ls:List L),Sh (Kg P k) gs c=some ls→ls.length=gs.length∧L.idsL ls = []∧∀ (i:Nat) (f:Field) (l:L),gs[i]? = some f→ls[i]? = some l→LC P md w M look β l (fun j=>c (f.offset+j))∧(0<P.cellsOf f.type→0<l.size P∧l.size P≤P.cellsOf f.type):=by
       intro gs
       induction gs with
       | nil=>intro ls h;simp[Sh]at h;subst h;simp[L.idsL]
       | cons g gs ih =>
        intro ls h
        simp only[Sh]at h
        split at h
        · rename_i l1 ls1 hl1 hls1
          injection h with h
          subst h
          obtain ⟨i1,i2,i3⟩:=ih ls1 hls1
          obtain ⟨z1,z2,z3⟩:=Si hl1
          refine ⟨by simp[i1],by simp[L.idsL,z2,i2],fun i f l hf hl=> ?_⟩
          cases i with
          | zero=>simp at hf hl;subst hf;subst hl;exact ⟨z1,z3⟩
          | succ i=>exact i3 i f l (by simpa using hf) (by simpa using hl)
        · cases h
      obtain ⟨k1,k2,k3⟩:=key fs ls hls
      exact ⟨.agg hfs k1 (fun i f l hf hl=>(k3 i f l hf hl).1) (fun i f l hf hl=>(k3 i f l hf hl).2 (Fh hok hf).1),by simp[L.ids,k2],fun hp=>⟨hp,Als _⟩⟩
    · cases h
  · cases h
theorem O_{t:Nat}{l:L}(h:Fp P t=some l) : ∃ i v,P.info? t=some i∧i.zero=some v∧v.cells.size=P.cellsOf t∧0<P.cellsOf t∧C6 v=A9 P t∧(∀ (j:Nat) (u:Value),v.cells[j]? = some u→u.oneCell'=true)∧Kg P 6 t (fun j=>v.cells[j]?)=some l:=by
 unfold Fp at h
 split at h
 · rename_i i hi
   split at h
   · rename_i v hv
     split at h
     · rename_i hc
       simp only[Alp,beq_iff_eq,decide_eq_true_eq,List.all_eq_true]at hc
       obtain ⟨⟨⟨c1,c2⟩,c3⟩,c4⟩:=hc
       exact ⟨i,v,hi,hv,c1,c4,c2.symm,fun j u hu=>c3 u (by simpa using Array.mem_of_getElem? hu),h⟩
     · cases h
   · cases h
 · cases h
theorem QK(h:R P md w0 N0 M0 slot look used ds n β a w){r t:Nat}(hr : ¬ used r){l:L}{cs:Array Value}{T:TypeId}(hl:LC P md w (Ap M0 look β) look β l (fun j=>cs[j]?))(hids : ∀ q∈l.ids,used q)(hsz:cs.size=P.cellsOf t)(hp:0<P.cellsOf t)(h1 : ∀ (j:Nat) (u:Value),cs[j]? = some u→u.oneCell'=true) :
   B8 P md w0 N0 M0 slot look used ds n a (.ptr r []) [(r,some (.var t l true))] (.pointer (some ⟨w.heap.size,0,none⟩)) (w.alloc (.cells cs T)):=by
 have hx:Ext w (w.alloc (.cells cs T)):=(Ext.refl w).alloc _
 have hu' : ∀ q,used q→q≠r:=fun q hq e=>hr (e▸hq)
 have hM : ∀ b,Ap M0 (Au look r (some (.var t l true))) (Au β r (.pointer (some ⟨w.heap.size,0,none⟩))) b→b<w.heap.size→Ap M0 look β b:=by
   intro b hb hlt
   rcases hb with hb | ⟨q,k,hq,hk,hB⟩
   · exact .inl hb
   · by_cases e:q=r
     · subst e;rw[Bz]at hB;simp[A_]at hB;omega
     · rw[Bo _ _ e]at hq hB;exact .inr ⟨q,k,hq,hk,hB⟩
 have hbr:BR P md (w.alloc (.cells cs T)) (Ap M0 (Au look r (some (.var t l true))) (Au β r (.pointer (some ⟨w.heap.size,0,none⟩)))) (Au look r (some (.var t l true))) (Au β r (.pointer (some ⟨w.heap.size,0,none⟩))) r (.var t l true):=by
   refine ⟨w.heap.size,cs,T,Bz _ _ _,heap_alloc_new w _,hsz,hp,hl.mono hx.size (fun b _ hb=>hx.block b hb) hM (fun q hq b' hb'=> ?_),h1⟩
   rw[Bo _ _ (hu' q (hids q hq))]at hb' ⊢
   exact ⟨b',hb',likeB.refl _,rfl⟩
 have hR:=h.new hx hr (.var t l true) (.pointer (some ⟨w.heap.size,0,none⟩)) (fun q hq=>hids q hq) (fun B hB=>by simp[A_]at hB;subst hB;simp) hbr
 refine ⟨Au β r (.pointer (some ⟨w.heap.size,0,none⟩)),hR.weak (fun q hq=> ?_),Di (by simp) (.ptr ⟨_,rfl,rfl⟩ (fun t' l' lv' hr'=> ?_)) ⟨rfl,rfl,Eg rfl⟩,fun q hq=> ?_⟩
 · rcases hq with hq | rfl
   · exact .inl hq
   · exact .inr ⟨_,List.mem_singleton.2 rfl⟩
 · rw[Bz];exact ⟨rfl,rfl⟩
 · simp only[L.ids,List.mem_singleton]at hq
   subst hq
   exact .inr ⟨_,List.mem_singleton.2 rfl⟩
theorem AeY(h:R P md w0 N0 M0 slot look used ds n β a w){o:Oper}{t:TypeId}(ho:o.op = .alloc t){d:Nat}(hd : ¬ used d){z:L}(hz:Fp P t=some z) :
  Ca P o a w (B8 P md w0 N0 M0 slot look used ds n a (.ptr d []) [(d,some (.var t z true))]):=by
 obtain ⟨i,v,hi,hv,h1,h2,h3,h4,h5⟩:=O_ hz
 obtain ⟨z1,z2,z3⟩:=Si (md:=md) (w:=w) (M:=Ap M0 look β) (look:=look) (β:=β) h5
 refine Ce (v:= .pointer (some ⟨w.heap.size,0,none⟩)) (w':=w.alloc (.cells v.cells t)) ?_ (QK h hd z1 (by rw[z2];simp) h1 h2 h4)
 simp[execOp,ho,Instr.alloc,zeroValue,typeInfo,hi,hv,newVar,newRow]
theorem Afc(h:R P md w0 N0 M0 slot look used ds n β a w){o:Oper}{t:TypeId}{x:Operand}(ho:o.op = .box t x){d:Nat}(hd : ¬ used d)(hok:Cz P t (Am slot x)=true)(hp:0<P.cellsOf t) :
  Ca P o a w (B8 P md w0 N0 M0 slot look used ds n a (.ptr d []) [(d,some (.var t (Am slot x) true))]):=by
 obtain ⟨n1,n2,n3⟩:=Wn hok
 obtain ⟨hl,hs⟩:=C2 (By h x) n1 n2 n3
 refine Ce (v:= .pointer (some ⟨w.heap.size,0,none⟩)) (w':=w.alloc (.cells (a.eval x).cells t)) ?_ (QK h hd hl (Ie h x) (EN hok hs).1 hp hs.ones)
 simp[execOp,ho,Instr.box,newVar,newRow]
theorem WJ{t B off:Nat}{cs:Array Value}{T:TypeId}{v:Value}(hB:w.heap[B]? = some (.cells cs T (0,0)))(hp:0<P.cellsOf t)(hsz:v.cells.size=P.cellsOf t)(hin:off+P.cellsOf t≤cs.size)(h1 : ∀ (j:Nat) (u:Value),v.cells[j]? = some u→u.oneCell'=true) :
  (storeVar t ⟨B,off,none⟩ v).run P w = .ok () (w.setRow B (cs.toList.take off++v.cells.toList++cs.toList.drop (off+P.cellsOf t)).toArray):=by
 have hlen:v.cells.toList.length=P.cellsOf t:=by simpa using hsz
 have hst:=run_storeCells_at P B off T v.cells.toList 0 cs w hB (by omega) (fun u hu=>by
  obtain ⟨j,hj⟩:=List.getElem?_of_mem hu
  exact h1 j u (by simpa using hj))
 simp only[Nat.add_zero,hlen]at hst
 simp[storeVar,Gd hp,hsz,hst]
theorem Rz{cs:Array Value}{vs:List Value}{off:Nat}(hin:off+vs.length≤cs.size)(j:Nat):(cs.toList.take off++vs++cs.toList.drop (off+vs.length)).toArray[j]? = if j<off then cs[j]? else if j<off+vs.length then vs[j-off]? else cs[j]? := by
 simp only[List.getElem?_toArray]
 have h1:(cs.toList.take off).length=off:=by simp;omega
 by_cases c1:j<off
 · rw[if_pos c1,Al4,Al5 (by omega),List.getElem?_take_of_lt c1];simp
 · rw[if_neg c1,Al4,List.getElem?_append_right (by omega),h1]
   by_cases c2:j<off+vs.length
   · rw[if_pos c2,Al5 (by omega)]
   · rw[if_neg c2,List.getElem?_append_right (by omega),List.getElem?_drop]
     simp only[Array.getElem?_toList]
     congr 1
     omega
theorem Zu(w:World)(B:Nat)(cs:Array Value):Stp (fun x=>some B=some x) w (w.setRow B cs) :=
 ⟨rfl,rfl,rfl,by simp,fun b _ hb=>setRow_other w B b cs (fun e=>hb (by rw[e]))⟩
theorem Aaj{r:Nat}{b b':Blk}(hr:look r=some b)(hlike:likeB b b')(q:Nat):Js look (Au look r (some b')) β β q:=by
 intro k hk
 by_cases e:q=r
 · subst e
   rw[Bz]at hk
   injection hk with hk
   subst hk
   exact ⟨b,hr,hlike,rfl⟩
 · rw[Bo _ _ e]at hk
   exact ⟨k,hk,likeB.refl _,rfl⟩
theorem Af0(h:R P md w0 N0 M0 slot look used ds n β a w){o:Oper}{t:TypeId}{x y:Operand}(ho:o.op = .store t x y){r t0:Nat}{p:List Nat}{l l':L}(hx':Am slot x = .ptr r p)(hr:look r=some (.var t0 l true))(ht:B5 P t0 p=some t)(hok:Cz P t (Am slot y)=true)(hs:D_ P t0 p l (Am slot y)=some l') :
  Ca P o a w (B8 P md w0 N0 M0 slot look used ds n a .skip [(r,some (.var t0 l' true))]):=by
 have hx:=By h x
 rw[hx']at hx
 obtain ⟨_,vx⟩:=Z4 hx hr
 obtain ⟨B,cs,T,b1,b2,b3,b4,b5,b6⟩:=h.blks r _ hr
 obtain ⟨n1,n2,n3⟩:=Wn hok
 obtain ⟨hl,hsz⟩:=C2 (By h y) n1 n2 n3
 have hpi:=Ma ht
 have hpt:=hpi.2 b4
 have hvs:=(EN hok hsz).1
 have hB:Hd (β r)=B:=by rw[b1];rfl
 have hoB:A_ (β r)=some B:=by rw[b1];rfl
 have hrun:=WJ (P:=P) (w:=w) (t:=t) (off:=Bf P t0 p) (v:=a.eval y) b2 hpt hvs (by omega) hsz.ones
 have hlen:(a.eval y).cells.toList.length=P.cellsOf t:=by simpa using hvs
 have hcell:=fun j=>Rz (cs:=cs) (vs:=(a.eval y).cells.toList) (off:=Bf P t0 p) (by rw[hlen];omega) j
 rw[hlen]at hcell
 generalize hcs':(cs.toList.take (Bf P t0 p)++(a.eval y).cells.toList++cs.toList.drop (Bf P t0 p+P.cellsOf t)).toArray=cs' at *
 have hst:Stp (fun z=>A_ (β r)=some z) w (w.setRow B cs'):=by rw[hoB];exact Zu w B cs'
 have hlike:likeB (.var t0 l true) (.var t0 l' true):=rfl
 have hlive : ∀ b,¬ Ap M0 look β b→b<w.heap.size→(w.setRow B cs').heap[b]? = w.heap[b]? := fun b hn hlt=>hst.block b hlt (fun hb=>hn (.inr ⟨r,_,hr,rfl,hb⟩))
 have hMM : ∀ b,Ap M0 (Au look r (some (.var t0 l' true))) β b→b<w.heap.size→Ap M0 look β b:=by
  intro b hb _
  rcases hb with hb | ⟨q,k,hq,hk,hqB⟩
  · exact .inl hb
  · by_cases e:q=r
    · subst e;exact .inr ⟨q,_,hr,rfl,hqB⟩
    · rw[Bo _ _ e]at hq;exact .inr ⟨q,k,hq,hk,hqB⟩
 have Cf:=Yq (c:=fun j=>cs[j]?) (c':=fun j=>cs'[j]?) b5 hs ht b4 hok (hl.congr (fun j hj=>by
    rw[Ob hok]at hj
    show cs'[Bf P t0 p+j]? = _
    rw[hcell,if_neg (by omega),if_pos (by omega),Nat.add_sub_cancel_left]
    simp) (by rw[Ob hok];exact hpt)) (fun j hj hj'=>by
    show cs'[j]? = _
    rw[hcell]
    rcases hj' with hj' | hj'
    · rw[if_pos hj']
    · rw[if_neg (by omega),if_neg (by omega)])
 have hids : ∀ q∈l'.ids,used q:=fun q hq=>by
  rcases Cf.2 q hq with hq | hq
  · exact (h.usedB r _ hr).2 q hq
  · exact Ie h y q hq
 have hcs'sz:cs'.size=cs.size:=by rw[← hcs'];simp;omega
 have hR:=h.upd (b':= .var t0 l' true) hr rfl rfl hlike hst hids ⟨B,cs',T,b1,setRow_heap w B cs cs' T _ b2,by omega,b4,Cf.1.mono hst.size hlive hMM (fun q _=>Aaj hr hlike q),fun j u hu=>by
  rw[hcell]at hu
  split at hu
  · exact b6 _ _ hu
  · split at hu
    · exact hsz.ones _ u (by simpa using hu)
    · exact b6 _ _ hu⟩
 refine LS (w':=w.setRow B cs') (by simp[execOp,ho,vx,Instr.storeAt,Instr.sureAddr,hB,hrun]) ⟨β,hR.weak (fun q hq=> .inl hq),.inr (.inl ⟨rfl,rfl⟩),fun q hq=>by simp[L.ids]at hq⟩
end
end Go.Proofs.YtokkbgpgaheakaaGreat
namespace Go.Proofs.YtokkbgpgaheakaaGreat
open Go.RowKit
section
variable {P:Program} {md:Nat→FMode} {w0 w w':World} {N0 M0 M:Nat→Prop} {slot:Nat→L} {look lookR:Nat→Option Blk} {used:Nat→Prop} {ds:Dfs} {β:Nat→Value} {a:Act} {n:Nat}
theorem AdA : ∀ {l:L},∀ r∈l.rows,r∈l.ids:=by
 intro l
 induction l using L.rec (motive_2:=fun ls=>∀ r∈L.rowsL ls,r∈L.idsL ls) with
 | agg t ls ih=>intro r hr;simp only[L.rows]at hr;simp only[L.ids];exact ih r hr
 | row r=>intro q hq;simpa [L.rows,L.ids]using hq
 | nil=>rename_i r hr;simp[L.rowsL]at hr
 | cons l ls ih1 ih2=>rename_i r hr;simp only[L.rowsL,List.mem_append]at hr;simp only[L.idsL,List.mem_append];exact hr.imp (ih1 r) (ih2 r)
 | _=>intro r hr;simp[L.rows]at hr
theorem WX : ∀ {p:List Nat} {t t':Nat} {x y:D} {c c':Nat→Option Value},RdC P md w M (.ty t) x c→B5 P t p=some t'→0<P.cellsOf t→RdC P md w M (.ty t') y (fun j=>c' (Bf P t p+j)) →
  (∀ j,j<P.cellsOf t→(j<Bf P t p∨Bf P t p+P.cellsOf t'≤j)→c' j=c j)→RdC P md w M (.ty t) (x.setP p y) c'
 | [],t,t',x,y,c,c',h,ht,hp,hy,hc=>by
  simp only[B5,Alo]at ht
  subst ht
  simpa [D.setP,Bf]using hy
 | i::p,t,t',x,y,c,c',h,ht,hp,hy,hc=>by
  simp only[B5]at ht
  split at ht
  · cases ht
  · rename_i fs hfs
    split at ht
    · rename_i f hf
      simp only[Bf,hfs,hf]at hy hc
      have hok:=(Ck hfs).2
      have hfa:=Fh hok hf
      have hpi:=Ma ht
      have hrf:=Q_ h hfs hf
      have ih:=WX (c':=fun j=>c' (f.offset+j)) hrf ht hfa.1 (by rwa[show (fun j=>c' (f.offset+Bf P f.type p+j))=(fun j=>c' (f.offset+(Bf P f.type p+j))) from funext fun j=>by rw[Nat.add_assoc]]at hy)
       (fun j hj hj'=>hc (f.offset+j) (by omega) (by omega))
      obtain ⟨⟨b,hb,_⟩,_⟩:=Ck hfs
      cases h with
      | int ht' _ _ _=>rw[show P.underlying t=_ from ht']at hb;cases hb
      | bool ht' _=>rw[show P.underlying t=_ from ht']at hb;cases hb
      | str ht' _ _=>rw[show P.underlying t=_ from ht']at hb;cases hb
      | sl ht' _ _ _ _ _=>rw[show P.underlying t=_ from ht']at hb;cases hb
      | fn ht' _ _ _ _ _ _ _ _ _=>rw[show P.underlying t=_ from ht']at hb;cases hb
      | mp ht' _ _ _ _ _ _ _ _ _=>rw[show P.underlying t=_ from ht']at hb;cases hb
      | ref ht' _ _ _ _=>rw[show P.underlying t=_ from ht']at hb;cases hb
      | @struct _ fs' dd _ ht' hl hel =>
       rw[hfs]at ht'
       injection ht' with ht'
       subst ht'
       simp only[D.setP,D.fs]
       refine .struct hfs (by simpa using hl) (fun q g d hg hd=> ?_)
       by_cases e:q=i
       · subst e
         rw[hf]at hg
         injection hg with hg
         subst hg
         have hlt:q<dd.length:=by rw[hl];exact (Alj.1 hf).1
         rw[List.getElem?_set_self hlt]at hd
         injection hd with hd
         subst hd
         exact ih
       · rw[List.getElem?_set_ne (Ne.symm e)]at hd
         have hga:=Fh hok hg
         refine (hel q g d hg hd).congr (fun j hj=> ?_) hga.1
         have hj':j<P.cellsOf g.type:=hj
         refine hc _ (by omega) ?_
         rcases Nat.lt_or_gt_of_ne e with h' | h'
         · have:=Qw hok hg hf h';exact .inl (by omega)
         · have:=Qw hok hf hg h';exact .inr (by omega)
    · cases ht
theorem BK(hP:WfP P){l:L}{c:Nat→Option Value}{t:Nat}{x:D}{v:Value}(hx:conv P md lookR l t=some x)(h:LC P md w M look β l c)(hs:szOk P l v)(hu:(P.underlying t).isSome=true):v.cells.size=P.cellsOf t∧C6 v=A9 P t:=by
 obtain ⟨h1,h2,h3⟩:=Abo hx h hs
 refine ⟨?_,h3⟩
 cases ha:A9 P t with
 | true=>exact h2 ha
 | false=>rcases h1 ha with h | h;rw[h,hP.one t ha hu];exact h
theorem R.blt (h:R P md w0 N0 M0 slot look used ds n β a w) : ∀ r b B,look r=some b→A_ (β r)=some B→B<w.heap.size:=fun r b B hb hB=>(h.own r b B hb hB).2
theorem EV(hP:WfP P)(h:R P md w0 N0 M0 slot look used ds n β a w)(hsub : ∀ r b,lookR r=some b→look r=some b){M':Nat→Prop}(hM : ∀ b,M' b→Ap M0 look β b){x:Operand}{t:Nat}{y:D}(hx:conv P md lookR (Am slot x) t=some y)(ha:Away M' look β (C4 lookR (Am slot x))):Rd P md w M' (.ty t) y (a.eval x)∧szOk P (Am slot x) (a.eval x):=by
 obtain ⟨n1,n2,n3⟩:=Ta hx
 obtain ⟨hl,hs⟩:=C2 (By h x) n1 n2 n3
 have hrd:=Tb hsub hM h.blks h.blt hl hx ha
 have hsz:=BK hP hx hl hs (Ra hrd)
 exact ⟨⟨hrd,hsz.1,hsz.2⟩,hs⟩
theorem Af1(hP:WfP P)(h:R P md w0 N0 M0 slot look used ds n β a w)(hsub : ∀ r b,lookR r=some b→look r=some b){o:Oper}{t:TypeId}{x y:Operand}(ho:o.op = .store t x y){r e j:Nat}{p:List Nat}{es:List D}{z:D}(hx':Am slot x = .rptr r j p)(hr:look r=some (.row e es true))(hz:conv P md lookR (Am slot y) t=some z)(ht:B5 P e p=some t)(hn:r∉C4 lookR (Am slot y)) :
  Ca P o a w (B8 P md w0 N0 M0 slot look used ds n a .skip (Cb lookR (C4 lookR (Am slot y))++[(r,some (.row e (es.set j ((es.getD j .nil).setP p z)) true))])):=by
 have hx:=By h x
 rw[hx']at hx
 obtain ⟨hj,_,vx⟩:=IS hx hr
 have h1:=h.fz hsub (C4 lookR (Am slot y))
 have hr1:Bh look (Cb lookR (C4 lookR (Am slot y))) r=some (.row e es true):=by rw[P_ _ _ _ hn];exact hr
 obtain ⟨hrd,hsz⟩:=EV hP h hsub (Np h hsub _) hz (P9 h hsub _)
 generalize hlk:Bh look (Cb lookR (C4 lookR (Am slot y)))=look1 at *
 have hrow:RowV P md w (Ap M0 look1 β) e es (β r):=h1.blks r _ hr1
 obtain ⟨B,cur,cap,r1,r2,r3,r4,r5,r6,r7,r8,r9⟩:=GQ hrow hj
 have hpi:=Ma ht
 have hpt:=hpi.2 r7
 have hvs:(a.eval y).cells.size=P.cellsOf t:=hrd.size
 have hjc:j*P.cellsOf e+P.cellsOf e≤cur.size:=by
  rw[r5,← Nat.succ_mul];exact Al1 _ (by omega)
 have hrun:=WJ (P:=P) (w:=w) (t:=t) (off:=j*P.cellsOf e+Bf P e p) (v:=a.eval y) r4 hpt hvs (by omega) hsz.ones
 have hlen:(a.eval y).cells.toList.length=P.cellsOf t:=by simpa using hvs
 have hcell:=fun q=>Rz (cs:=cur) (vs:=(a.eval y).cells.toList) (off:=j*P.cellsOf e+Bf P e p) (by rw[hlen];omega) q
 rw[hlen]at hcell
 generalize hcs':(cur.toList.take (j*P.cellsOf e+Bf P e p)++(a.eval y).cells.toList++cur.toList.drop (j*P.cellsOf e+Bf P e p+P.cellsOf t)).toArray=cur' at *
 have hst:Stp (fun q=>A_ (β r)=some q) w (w.setRow B cur'):=by rw[r2];exact Zu w B cur'
 have hlike:likeB (.row e es true) (.row e (es.set j ((es.getD j .nil).setP p z)) true):=⟨rfl,by simp⟩
 have hlive : ∀ b,¬ Ap M0 look1 β b→b<w.heap.size→(w.setRow B cur').heap[b]? = w.heap[b]? := fun b hn hlt=>hst.block b hlt (fun hb=>hn (.inr ⟨r,_,hr1,rfl,hb⟩))
 have hMM : ∀ b,Ap M0 (Au look1 r (some (.row e (es.set j ((es.getD j .nil).setP p z)) true))) β b→b<w.heap.size→Ap M0 look1 β b:=by
  intro b hb _
  rcases hb with hb | ⟨q,k,hq,hk,hqB⟩
  · exact .inl hb
  · by_cases e:q=r
    · subst e;exact .inr ⟨q,_,hr1,rfl,hqB⟩
    · rw[Bo _ _ e]at hq;exact .inr ⟨q,k,hq,hk,hqB⟩
 have hcs'sz:cur'.size=cur.size:=by rw[← hcs'];simp;omega
 have hcap:0<cap:=by omega
 have hR:=h1.upd (b':= .row e (es.set j ((es.getD j .nil).setP p z)) true) hr1 rfl rfl hlike hst (by intro q hq;simp[Blk.ids]at hq) (by
  refine ⟨some ⟨B,0,none⟩,cap,by rw[List.length_set];exact r1,.inr ⟨B,cur',rfl,hcap,setRow_heap w B cur cur' e _ r4,by rw[List.length_set];exact r6,?_,by rw[hcs'sz];exact r5,r7,fun i u hu=> ?_⟩⟩
  · obtain ⟨A,cap',hv,hh⟩:=hrow
    rw[hv]at r1
    injection r1 with _ _ e3
    subst e3
    rcases hh with ⟨_,rfl⟩ | ⟨_,_,_,_,_,_,g,_⟩
    · omega
    · exact g
  · refine RdC.mono (w:=w) (M:=Ap M0 look1 β) ?_ hst.size hlive hMM
    by_cases hij:i=j
    · subst hij
      rw[List.getElem?_set_self hj]at hu
      injection hu with hu
      subst hu
      have hel:=r8 i (es.getD i .nil) (by simp[List.getD,hj])
      refine WX hel ht r7 (hrd.rd.congr (fun q hq=> ?_) (by show 0<P.cellsOf t;exact hpt)) (fun q hq hq'=> ?_)
      · have hq1:q<P.cellsOf t:=hq
        show cur'[i*P.cellsOf e+(Bf P e p+q)]? = _
        rw[hcell,if_neg (by omega),if_pos (by omega)]
        rw[show i*P.cellsOf e+(Bf P e p+q)-(i*P.cellsOf e+Bf P e p)=q by omega]
        simp
      · rw[hcell]
        rcases hq' with hq' | hq'
        · rw[if_pos (by omega)]
        · rw[if_neg (by omega),if_neg (by omega)]
    · rw[List.getElem?_set_ne (Ne.symm hij)]at hu
      refine (r8 i u hu).congr (fun q hq=> ?_) (by show 0<P.cellsOf e;exact r7)
      have hq1:q<P.cellsOf e:=hq
      rw[hcell]
      rcases Nat.lt_or_gt_of_ne hij with h' | h'
      · have:i*P.cellsOf e+P.cellsOf e≤j*P.cellsOf e:=by rw[← Nat.succ_mul];exact Al1 _ h'
        rw[if_pos (by omega)]
      · have:j*P.cellsOf e+P.cellsOf e≤i*P.cellsOf e:=by rw[← Nat.succ_mul];exact Al1 _ h'
        rw[if_neg (by omega),if_neg (by omega)])
 refine LS (w':=w.setRow B cur') (by simp[execOp,ho,vx,Instr.storeAt,Instr.sureAddr,r3,hrun]) ⟨β,?_,.inr (.inl ⟨rfl,rfl⟩),fun q hq=>by simp[L.ids]at hq⟩
 rw[Ix,hlk]
 exact hR.weak (fun q hq=> .inl hq)
end
end Go.Proofs.YtokkbgpgaheakaaGreat
namespace Go.Proofs.YtokkbgpgaheakaaGreat
open Go.RowKit
def RowN(P:Program)(md:Nat→FMode)(w w':World)(M:Nat→Prop)(e:Nat)(es:List D)(v:Value):Prop :=
 ∃ A cap,v = .slice A es.length cap∧((es = []∧cap=0)∨∃ B cur,A=some ⟨B,0,none⟩∧0<cap∧w'.heap[B]? = some (.cells cur e (0,0))∧es.length≤cap∧cap≤maxLen∧cur.size=cap*P.cellsOf e∧0<P.cellsOf e ∧
  ∀ (i:Nat) (x:D),es[i]? = some x→RdC P md w M (.ty e) x (fun j=>cur[i*P.cellsOf e+j]?))
section
variable {P:Program} {md:Nat→FMode} {w0 w w':World} {N0 M0 M:Nat→Prop} {slot:Nat→L} {look lookR:Nat→Option Blk} {used:Nat→Prop} {ds:Dfs} {β:Nat→Value} {a:Act} {n:Nat}
theorem RowN.row {M':Nat→Prop} {e:Nat} {es:List D} {v:Value} (h:RowN P md w w' M e es v) (hs:w.heap.size≤w'.heap.size) (hb : ∀ b,¬ M b→b<w.heap.size→w'.heap[b]? = w.heap[b]?) (hM : ∀ b,M' b→b<w.heap.size→M b):RowV P md w' M' e es v:=by
 obtain ⟨A,cap,rfl,hh⟩:=h
 refine ⟨A,cap,rfl,hh.imp id ?_⟩
 rintro ⟨B,cur,rfl,g0,g1,g2,g3,g4,g5,g6⟩
 exact ⟨B,cur,rfl,g0,g1,g2,g3,g4,g5,fun i x hx'=>(g6 i x hx').mono hs hb hM⟩
theorem WC{r e:Nat}{es:List D}{v:Value}{β':Nat→Value}{look':Nat→Option Blk}{M':Nat→Prop}(hβ:β' r=v)(hv : ∃ A k cap,v = .slice A k cap):VL P md w' M' look' β' (.row r) v:=by
 obtain ⟨A,k,cap,rfl⟩:=hv
 exact Di (by simp) (.row ⟨_,rfl,rfl⟩ (fun _ _ _ _=>by rw[hβ];rfl)) ⟨rfl,rfl,Eg rfl⟩
theorem Wi(h:R P md w0 N0 M0 slot look used ds n β a w)(hx:Ext w w'){r e:Nat}(hr : ¬ used r){es:List D}{v:Value}(hv : ∀ B,A_ v=some B→w.heap.size≤B∧B<w'.heap.size)(hrow:RowN P md w w' (Ap M0 look β) e es v) :
   B8 P md w0 N0 M0 slot look used ds n a (.row r) [(r,some (.row e es true))] v w':=by
 have hM : ∀ b,Ap M0 (Au look r (some (.row e es true))) (Au β r v) b→b<w.heap.size→Ap M0 look β b:=by
   intro b hb hlt
   rcases hb with hb | ⟨q,k,hq,hk,hB⟩
   · exact .inl hb
   · by_cases e:q=r
     · subst e;rw[Bz]at hB;have:=hv b hB;omega
     · rw[Bo _ _ e]at hq hB;exact .inr ⟨q,k,hq,hk,hB⟩
 have hR:=h.new hx hr (.row e es true) v (by intro q hq;simp[Blk.ids]at hq) hv (by
   show RowV P md w' _ e es (Au β r v r)
   rw[Bz]
   exact hrow.row hx.size (fun b _ hb=>hx.block b hb) hM)
 refine ⟨Au β r v,hR.weak (fun q hq=> ?_),WC (es:=es) (e:=e) (Bz _ _ _) ?_,fun q hq=> ?_⟩
 · rcases hq with hq | rfl
   · exact .inl hq
   · exact .inr ⟨_,List.mem_singleton.2 rfl⟩
 · obtain ⟨A,cap,rfl,_⟩:=hrow;exact ⟨_,_,_,rfl⟩
 · simp only[L.ids,List.mem_singleton]at hq
   subst hq
   exact .inr ⟨_,List.mem_singleton.2 rfl⟩
theorem Adx{z:Array Value}{m j:Nat}(hj:j<m):(madeCells z m)[j]? = some (z[j % z.size]!):=by
 simp[madeCells,hj]
theorem Afv(h:R P md w0 N0 M0 slot look used ds n β a w)(hsub : ∀ r b,lookR r=some b→look r=some b){o:Oper}{t:TypeId}{x y:Operand}(ho:o.op = .makeSlice t x y){d e:Nat}(hd : ¬ used d){k m:Int}{k1 k2:IntKind}(hx':Am slot x = .i k1 k)(hy':Am slot y = .i k2 m)(he:B3 P t=some e)(hok:Ga P e=true){z:L}(hz:Fp P e=some z){u:D}(hu:conv P md lookR z e=some u)(h0:0≤k)(h1:k≤m)(h2:m≤Aj) :
   Ca P o a w (B8 P md w0 N0 M0 slot look used ds n a (.row d) [(d,some (.row e (Alh k.toNat u) true))]):=by
 have hx:=By h x
 have hy:=By h y
 rw[hx']at hx
 rw[hy']at hy
 obtain ⟨vx,_⟩:=Fn hx
 obtain ⟨vy,_⟩:=Fn hy
 obtain ⟨i,v,hi,hv,c1,c2,c3,c4,c5⟩:=O_ hz
 simp only[Ga,Alp,decide_eq_true_eq]at hok
 have hby:i.bytes≤65536:=by have:=hok.1;simpa [Program.bytesOf,hi]using this
 have hsz:i.size=P.cellsOf e:=by simp[Program.cellsOf,hi]
 unfold Aj at h2
 obtain ⟨mm,rfl⟩:=Int.eq_ofNat_of_zero_le (show 0≤m by omega)
 obtain ⟨kk,rfl⟩:=Int.eq_ofNat_of_zero_le h0
 have hmm:mm≤1073741824:=by omega
 have hkm:kk≤mm:=by omega
 have hprod:i.bytes*mm≤65536*1073741824:=Nat.mul_le_mul hby hmm
 have hr:=run_make (P:=P) w t e i v (Dd he) hi hv k1 k2 kk mm (by omega) (by omega) (by
   have:((i.bytes*mm:Nat):Int)≤281474976710656:=by omega
   rwa[Int.natCast_mul]at this) (by omega)
 simp only[Aln]at hr ⊢
 refine Ce (v:= .slice (some ⟨w.heap.size,0,none⟩) kk mm) (w':=w.alloc (.cells (madeCells v.cells (mm*i.size)) e)) (by simp[execOp,ho,vx,vy,hr]) (Wi h ((Ext.refl w).alloc _) hd (fun B hB=> ?_) ?_)
 · simp only[A_]at hB
   split at hB
   · cases hB
   · injection hB with hB;subst hB;simp
 · refine ⟨some ⟨w.heap.size,0,none⟩,mm,by simp,?_⟩
   by_cases hm0:mm=0
   · exact .inl ⟨by rw[show kk=0 by omega];rfl,hm0⟩
   · refine .inr ⟨w.heap.size,madeCells v.cells (mm*i.size),rfl,by omega,heap_alloc_new w _,by simpa using hkm,by unfold maxLen;omega,by rw[size_madeCells,hsz],c2,fun q xx hq=> ?_⟩
     have hq':q<kk∧xx=u:=by
      rw[List.getElem?_replicate]at hq
      split at hq
      · injection hq with hq;exact ⟨by assumption,hq.symm⟩
      · cases hq
     obtain ⟨hqk,rfl⟩:=hq'
     obtain ⟨z1,z2,z3⟩:=Si (md:=md) (w:=w) (M:=Ap M0 look β) (look:=fun _=>none) (β:=β) c5
     have hrd:RdC P md w (Ap M0 look β) (.ty e) xx (fun j=>v.cells[j]?):=by
      have hnf : ∀ f caps,z≠ .fn f caps:=by
       intro f caps hzf
       rw[hzf]at c5
       simp only[Kg]at c5
       split at c5 <;> (try split at c5) <;> (try split at c5) <;> simp at c5
      rw[BJ hnf]at hu
      have hrows:z.rows = []:=by
       cases hrr:z.rows with
       | nil=>rfl
       | cons q qs=>have:=AdA (l:=z) q (by rw[hrr];simp);rw[z2]at this;cases this
      exact Pq (lookR:=lookR) (M':=Ap M0 look β) (look:=look) (M:=Ap M0 look β) (β:=β) hsub (fun _ hb=>hb) (fun r e es lv hr=>h.blks r _ hr) (Si (md:=md) (w:=w) (M:=Ap M0 look β) (look:=look) (β:=β) c5).1 hu (by rw[hrows];intro r hr;cases hr)
     refine hrd.congr (fun j hj=> ?_) (by show 0<P.cellsOf e;exact c2)
     have hj':j<P.cellsOf e:=hj
     have hlt:q*P.cellsOf e+j<mm*i.size:=by
      rw[hsz]
      have:(q+1)*P.cellsOf e≤mm*P.cellsOf e:=Al1 _ (by omega)
      rw[Nat.succ_mul]at this
      omega
     rw[Adx hlt,c1,Nat.mul_add_mod_self_right,Al_ hj']
     rw[Al3 (by omega),getElem!_pos _ _ (by omega)]
theorem Acz(vs:List Value) : ∀ (cs:Array Value) (off k:Nat),off+vs.length≤cs.size→(vs.zipIdx k).foldl (fun (c:Array Value) (p:Value×Nat)=>c.setIfInBounds (off+(p.2-k)) p.1) cs=(cs.toList.take off++vs++cs.toList.drop (off+vs.length)).toArray:=by
 induction vs with
 | nil =>
  intro cs off k h
  simp
 | cons v vs ih =>
  intro cs off k h
  simp only[List.zipIdx_cons,List.foldl_cons,Nat.sub_self,Nat.add_zero]
  have hh : ∀ (l:List (Value×Nat)) (c:Array Value),(∀ p∈l,k+1≤p.2)→l.foldl (fun (c:Array Value) (p:Value×Nat)=>c.setIfInBounds (off+(p.2-k)) p.1) c=l.foldl (fun (c:Array Value) (p:Value×Nat)=>c.setIfInBounds (off+1+(p.2-(k+1))) p.1) c:=by
   intro l
   induction l with
   | nil=>intro c _;rfl
   | cons p l ihl =>
    intro c hp
    simp only[List.foldl_cons]
    have:=hp p (by simp)
    rw[show off+(p.2-k)=off+1+(p.2-(k+1)) by omega]
    exact ihl _ (fun q hq=>hp q (by simp[hq]))
  rw[hh _ _ (fun p hp=>by have:=List.le_snd_of_mem_zipIdx hp;omega)]
  simp only[All]at h
  rw[ih (cs.setIfInBounds off v) (off+1) (k+1) (by simp;omega)]
  apply Array.ext'
  simp only[Array.toList_setIfInBounds,All]
  have hlt:off<cs.toList.length:=by simp;omega
  rw[List.take_set,List.take_succ_eq_append_getElem hlt,List.drop_set_of_lt (by omega),List.set_append_right _ _ (by rw[Alw];omega)]
  simp[show off-min off cs.size=0 by omega]
  congr 1
  omega
theorem MB{place:Nat→Option (Nat×Nat)}{cs:Array Value}{i off size:Nat}{v:Value}{rest:List (Nat×Value)}(hp:place i=some (off,size))(hs:v.cells.size=size)(hin:off+size≤cs.size) :
  Instr.fill place cs ((i,v)::rest)=Instr.fill place (cs.toList.take off++v.cells.toList++cs.toList.drop (off+size)).toArray rest:=by
 have:=Acz v.cells.toList cs off 0 (by simpa [hs]using hin)
 simp only[Nat.sub_zero]at this
 have hlen:v.cells.toList.length=size:=by simpa using hs
 rw[hlen]at this
 simp only[Instr.fill,hp]
 rw[if_neg (by simp[hs];omega)]
 congr 1
 rw[← this,← Array.foldl_toList]
 simp[Array.toList_zipIdx]
theorem Afd(hP:WfP P)(h:R P md w0 N0 M0 slot look used ds n β a w){o:Oper}{t:TypeId}{ps:Array (Nat×Operand)}(ho:o.op = .build t ps){fs:List Field}(hfs:Cx P t=some fs){zs ls:List L}(hz:Fp P t=some (.agg t zs))(hls:Ov P fs (ps.toList.map fun p=>(p.1,Am slot p.2)) zs=some ls) :
  Ca P o a w (B8 P md w0 N0 M0 slot look used ds n a (.agg t ls) []):=by
 obtain ⟨i,v,hi,hv,c1,c2,c3,c4,c5⟩:=O_ hz
 obtain ⟨z1,z2,z3⟩:=Si (md:=md) (w:=w) (M:=Ap M0 look β) (look:=look) (β:=β) c5
 obtain ⟨⟨b,hb,hbl⟩,hok⟩:=Ck hfs
 have hplace : ∀ (q:Nat) (f:Field),fs[q]? = some f→(b.map fun f=>(f.offset,P.cellsOf f.type))[q]? = some (f.offset,P.cellsOf f.type):=by
  intro q f hf
  rw[Array.getElem?_map,← Array.getElem?_toList,hbl,hf];rfl
 have key : ∀ (pl:List (Nat×Operand)) (zs ls:List L) (cs:Array Value),LC P md w (Ap M0 look β) look β (.agg t zs) (fun j=>cs[j]?)→cs.size=P.cellsOf t→(∀ (j:Nat) (u:Value),cs[j]? = some u→u.oneCell'=true)→(∀ r∈L.idsL zs,used r) →
   Ov P fs (pl.map fun p=>(p.1,Am slot p.2)) zs=some ls→∃ cs',Instr.fill ((b.map fun f=>(f.offset,P.cellsOf f.type))[·]?) cs (pl.map fun p=>(p.1,a.eval p.2))=some cs'∧LC P md w (Ap M0 look β) look β (.agg t ls) (fun j=>cs'[j]?)∧cs'.size=P.cellsOf t∧(∀ (j:Nat) (u:Value),cs'[j]? = some u→u.oneCell'=true)∧(∀ r∈L.idsL ls,used r):=by
  intro pl
  induction pl with
  | nil =>
   intro zs ls cs h1 h2 h3 h4 h5
   simp only[List.map_nil,Ov,Alo]at h5
   subst h5
   exact ⟨cs,rfl,h1,h2,h3,h4⟩
  | cons p pl ih =>
   intro zs ls cs h1 h2 h3 h4 h5
   simp only[Aml,Ov]at h5
   split at h5
   · rename_i f hf
     split at h5
     · rename_i hc
       simp only[Alp,decide_eq_true_eq]at hc
       have hfa:=Fh hok hf
       obtain ⟨n1,n2,n3⟩:=Wn hc.1
       obtain ⟨hl,hsz⟩:=C2 (By h p.2) n1 n2 n3
       have hvs:=(EN hc.1 hsz).1
       have hlen:(a.eval p.2).cells.toList.length=P.cellsOf f.type:=by simpa using hvs
       have hcell:=fun j=>Rz (cs:=cs) (vs:=(a.eval p.2).cells.toList) (off:=f.offset) (by rw[hlen];omega) j
       rw[hlen]at hcell
       have hfill:=MB (cs:=cs) (rest:=pl.map fun p=>(p.1,a.eval p.2)) (hplace p.1 f hf) hvs (by omega)
       have hsize:(cs.toList.take f.offset++(a.eval p.2).cells.toList++cs.toList.drop (f.offset+P.cellsOf f.type)).toArray.size=P.cellsOf t:=by simp[hlen];omega
       generalize hcs':(cs.toList.take f.offset++(a.eval p.2).cells.toList++cs.toList.drop (f.offset+P.cellsOf f.type)).toArray=cs' at *
       have hpl:zs.length=fs.length:=by cases h1 with | agg ht hl _ _=>rw[hfs]at ht;injection ht with ht;subst ht;exact hl
       have Cf:D_ P t [p.1] (.agg t zs) (Am slot p.2)=some (.agg t (zs.set p.1 (Am slot p.2))):=by
         simp[D_,hfs,Gb,hpl,hf,Alg hc.2]
       have hty:B5 P t [p.1]=some f.type:=by simp[B5,hfs,hf]
       have hoff:Bf P t [p.1]=f.offset:=by simp[Bf,hfs,hf]
       have hs:=Yq (c:=fun j=>cs[j]?) (c':=fun j=>cs'[j]?) h1 Cf hty c2 hc.1 (hl.congr (fun j hj=>by
           rw[Ob hc.1]at hj
           show cs'[Bf P t [p.1]+j]? = _
           rw[hoff,hcell,if_neg (by omega),if_pos (by omega),Nat.add_sub_cancel_left]
           simp) (by rw[Ob hc.1];exact hfa.1)) (fun j hj hj'=>by
           show cs'[j]? = _
           rw[hoff]at hj'
           rw[hcell]
           rcases hj' with hj' | hj'
           · rw[if_pos hj']
           · rw[if_neg (by omega),if_neg (by omega)])
       rw[Aml,hfill]
       refine ih _ ls cs' hs.1 hsize (fun j u hu=> ?_) (fun r hr=> ?_) h5
       · rw[hcell]at hu
         split at hu
         · exact h3 _ _ hu
         · split at hu
           · exact hsz.ones _ u (by simpa using hu)
           · exact h3 _ _ hu
       · rcases hs.2 r (by simpa [L.ids]using hr) with hr | hr
         · exact h4 r (by simpa [L.ids]using hr)
         · exact Ie h p.2 r hr
     · cases h5
   · cases h5
 obtain ⟨cs',g1,g2,g3,g4,g5⟩:=key ps.toList zs ls v.cells z1 c1 c4 (fun r hr=>by simp only[L.ids]at z2;rw[z2]at hr;cases hr) hls
 refine Ce (v:= .agg cs') (w':=w) ?_ (Cp h (Di (by simp) g2 ⟨g3,rfl,g4⟩) (by simpa [L.ids]using g5))
 have hmap:(Array.mapM (fun (f:Field)=>(do pure (f.offset,← sizeOf f.type):Sem (Nat×Nat))) b).run P w = .ok (b.map fun f=>(f.offset,P.cellsOf f.type)) w:=by
  have hpos : ∀ f∈b.toList,0<P.cellsOf f.type:=by
   intro f hf
   rw[hbl]at hf
   obtain ⟨q,hq⟩:=List.getElem?_of_mem hf
   exact (Fh hok hq).1
  rw[Array.mapM_eq_mapM_toList]
  have hlist : ∀ l:List Field,(∀ f∈l,0<P.cellsOf f.type)→(List.mapM (fun (f:Field)=>(do pure (f.offset,← sizeOf f.type):Sem (Nat×Nat))) l).run P w = .ok (l.map fun f=>(f.offset,P.cellsOf f.type)) w:=by
   intro l
   induction l with
   | nil=>intro _;simp
   | cons f l ihl =>
     intro hl
     simp only[List.mapM_cons,Sem.run_bind,Gd (hl f (by simp)),Result.andThen_ok,Sem.run_pure,ihl (fun g hg=>hl g (by simp[hg])),Aml]
  have:=hlist b.toList hpos
  simp only[map_eq_pure_bind,Sem.run_bind,this,Result.andThen_ok,Sem.run_pure]
  congr 1
  apply Array.ext'
  simp
 have hmap':(Array.mapM (fun (f:Field)=>Functor.map (Prod.mk f.offset) (sizeOf f.type)) b).run P w = .ok (b.map fun f=>(f.offset,P.cellsOf f.type)) w:=by simpa using hmap
 simp only[Array.getElem?_map]at g1
 simp[execOp,ho,Instr.build,zeroValue,typeInfo,hi,hv,run_underlying hb,hmap',g1]
theorem Afe(hP:WfP P)(h:R P md w0 N0 M0 slot look used ds n β a w)(hsub : ∀ r b,lookR r=some b→look r=some b){o:Oper}{t:TypeId}{m:Nat}{ps:Array (Nat×Operand)}(ho:o.op = .buildSlice t m ps){d e:Nat}(hd : ¬ used d)(he:B3 P t=some e)(hidx:ps.toList.map (·.1)=Amd m)(hok:Ga P e=true)(hcap:m*P.cellsOf e≤16777216)(hz:CZ P e=true){es:List D}
   (hes:Iv P md lookR (ps.toList.map fun p=>Am slot p.2) (ps.toList.map fun _=>e)=some es) :
   Ca P o a w (B8 P md w0 N0 M0 slot look used ds n a (.row d) (Cb lookR (C5 lookR (ps.toList.map fun p=>Am slot p.2))++[(d,some (.row e es true))])):=by
 simp only[Ga,Alp,decide_eq_true_eq]at hok
 obtain ⟨hby,hpe⟩:=hok
 have h1:=h.fz hsub (C5 lookR (ps.toList.map fun p=>Am slot p.2))
 have hMM:=Np h hsub (C5 lookR (ps.toList.map fun p=>Am slot p.2))
 have haw:=P9 h hsub (C5 lookR (ps.toList.map fun p=>Am slot p.2))
 generalize hlk:Bh look (Cb lookR (C5 lookR (ps.toList.map fun p=>Am slot p.2)))=look1 at *
 obtain ⟨e1,e2,e3⟩:=Td hes
 simp only[Ali]at e1 e2
 have hpl:ps.toList.length=m:=by have:=congrArg List.length hidx;simpa using this
 have hel : ∀ (q:Nat) (p:Nat×Operand),ps.toList[q]? = some p→∃ x,es[q]? = some x∧Rd P md w (Ap M0 look1 β) (.ty e) x (a.eval p.2)∧szOk P (Am slot p.2) (a.eval p.2)∧p.1=q:=by
   intro q p hp
   have hq:q<ps.toList.length:=(Alj.1 hp).1
   have hqe:q<es.length:=by omega
   have hc:=e3 q (Am slot p.2) e es[q] (by rw[Aly,hp];rfl) (by rw[Aly,hp];rfl) (Alg hqe)
   obtain ⟨g1,g2⟩:=EV hP h hsub hMM hc (fun r hr=>haw r (by
     simp only[C5,List.mem_flatMap]
     exact ⟨Am slot p.2,List.mem_map.2 ⟨p,Alm hp,rfl⟩,hr⟩))
   refine ⟨es[q],Alg hqe,g1,g2,?_⟩
   have:=congrArg (fun l=>l[q]?) hidx
   simp only[Aly,hp,Option.map_some,List.getElem?_range (by omega:q<m),Alo]at this
   exact this
 have key : ∀ (pl:List (Nat×Operand)) (k:Nat) (cs:Array Value),pl=ps.toList.drop k→k≤m→cs.size=m*P.cellsOf e→(∀ (q:Nat) (x:D),q<k→es[q]? = some x→RdC P md w (Ap M0 look1 β) (.ty e) x (fun j=>cs[q*P.cellsOf e+j]?)) →
     ∃ cs',Instr.fill (fun i=>some (i*P.cellsOf e,P.cellsOf e)) cs (pl.map fun p=>(p.1,a.eval p.2))=some cs'∧cs'.size=m*P.cellsOf e∧∀ (q:Nat) (x:D),es[q]? = some x→RdC P md w (Ap M0 look1 β) (.ty e) x (fun j=>cs'[q*P.cellsOf e+j]?):=by
   intro pl
   induction pl with
   | nil =>
     intro k cs hk hkm hsz hcs
     have:m≤k:=by
       have:=congrArg List.length hk
       simp only[Alz,Alu]at this
       omega
     exact ⟨cs,rfl,hsz,fun q x hx=>hcs q x (by have:=(Alj.1 hx).1;omega) hx⟩
   | cons p pl ih =>
     intro k cs hk hkm hsz hcs
     have hkp:ps.toList[k]? = some p:=by
       have:=congrArg (fun l=>l[0]?) hk
       simpa using this.symm
     have hklt:k<m:=by have:=(Alj.1 hkp).1;omega
     obtain ⟨x,hx,hrd,hsz',hpk⟩:=hel k p hkp
     have hvs:(a.eval p.2).cells.size=P.cellsOf e:=hrd.size
     have hin:k*P.cellsOf e+P.cellsOf e≤cs.size:=by
       rw[hsz,← Nat.succ_mul];exact Al1 _ hklt
     have hfill:=MB (place:=fun i=>some (i*P.cellsOf e,P.cellsOf e)) (cs:=cs) (i:=p.1) (v:=a.eval p.2) (rest:=pl.map fun p=>(p.1,a.eval p.2)) rfl hvs (by rw[hpk];exact hin)
     rw[hpk]at hfill
     have hlen:(a.eval p.2).cells.toList.length=P.cellsOf e:=by simpa using hvs
     have hcell:=fun j=>Rz (cs:=cs) (vs:=(a.eval p.2).cells.toList) (off:=k*P.cellsOf e) (by rw[hlen];omega) j
     rw[hlen]at hcell
     have hsize:(cs.toList.take (k*P.cellsOf e)++(a.eval p.2).cells.toList++cs.toList.drop (k*P.cellsOf e+P.cellsOf e)).toArray.size=m*P.cellsOf e:=by simp[hlen];omega
     generalize hcs':(cs.toList.take (k*P.cellsOf e)++(a.eval p.2).cells.toList++cs.toList.drop (k*P.cellsOf e+P.cellsOf e)).toArray=cs' at *
     rw[Aml,hpk,hfill]
     refine ih (k+1) cs' ?_ hklt hsize (fun q y hq hy=> ?_)
     · have:=congrArg List.tail hk
       simpa using this
     · by_cases hqk:q=k
       · subst hqk
         rw[hx]at hy
         injection hy with hy
         subst hy
         refine hrd.rd.congr (fun j hj=> ?_) (by show 0<P.cellsOf e;exact hpe)
         have hj':j<P.cellsOf e:=hj
         rw[hcell,if_neg (by omega),if_pos (by omega),Nat.add_sub_cancel_left]
         simp
       · refine (hcs q y (by omega) hy).congr (fun j hj=> ?_) (by show 0<P.cellsOf e;exact hpe)
         have hj':j<P.cellsOf e:=hj
         have:q*P.cellsOf e+P.cellsOf e≤k*P.cellsOf e:=by rw[← Nat.succ_mul];exact Al1 _ (by omega)
         rw[hcell,if_pos (by omega)]
 obtain ⟨ie,zv,hie,hzv⟩ : ∃ ie zv,P.info? e=some ie∧ie.zero=some zv:=by
   unfold CZ at hz
   split at hz
   · rename_i i hi
     obtain ⟨v,hv⟩:=Option.isSome_iff_exists.1 hz
     exact ⟨i,v,hi,hv⟩
   · cases hz
 obtain ⟨cs',g1,g2,g3⟩:=key ps.toList 0 ((Array.range (m*P.cellsOf e)).map ((if m*P.cellsOf e=0 then #[] else zv.cells)[· % (if m*P.cellsOf e=0 then #[] else zv.cells).size]!)) rfl (Nat.zero_le _) (by simp) (fun q x hq=>by omega)
 have hle : ¬ (16777216<m*P.cellsOf e):=by omega
 have hrun:(execOp a.eval o).run P w = .ok (.value (.slice (some ⟨w.heap.size,0,none⟩) m m)) (w.alloc (.cells cs' e)):=by
   by_cases h0:m*P.cellsOf e=0
   · simp only[h0,if_true]at g1
     simp[execOp,ho,Instr.buildSlice,run_underlying (Dd he),Gd hpe,h0,newRow]
     have hr0 : ∀ f:Nat→Value,Array.map f (Array.range 0) = #[]:=fun f=>by apply Array.ext';simp
     rw[hr0]at g1
     rw[hr0]
     simp[g1]
   · simp only[h0,if_false]at g1
     simp[execOp,ho,Instr.buildSlice,run_underlying (Dd he),Gd hpe,h0,hle,zeroValue,typeInfo,hie,hzv,newRow,g1]
 have hout:=Wi h1 (w':=w.alloc (.cells cs' e)) ((Ext.refl w).alloc _) hd (e:=e) (es:=es) (v:= .slice (some ⟨w.heap.size,0,none⟩) m m) (fun B hB=>by
     simp only[A_]at hB
     split at hB
     · cases hB
     · injection hB with hB;subst hB;simp) (by
     refine ⟨some ⟨w.heap.size,0,none⟩,m,by rw[e2,hpl],?_⟩
     by_cases hm0:m=0
     · exact .inl ⟨List.eq_nil_of_length_eq_zero (by omega),hm0⟩
     · refine .inr ⟨w.heap.size,cs',rfl,by omega,heap_alloc_new w _,by omega,?_,g2,hpe,g3⟩
       have:m*1≤m*P.cellsOf e:=Nat.mul_le_mul_left _ hpe
       unfold maxLen
       omega)
 refine Ce hrun ?_
 obtain ⟨β',q1,q2,q3⟩:=hout
 refine ⟨β',?_,?_,fun r hr=> ?_⟩
 · rw[Ix,hlk]
   exact q1.weak (fun r hr=>hr.imp id (fun ⟨b,hb⟩=>⟨b,List.mem_append_right _ hb⟩))
 · rw[Ix,hlk];exact q2
 · exact (q3 r hr).imp id (fun ⟨b,hb⟩=>⟨b,List.mem_append_right _ hb⟩)
end
end Go.Proofs.YtokkbgpgaheakaaGreat
