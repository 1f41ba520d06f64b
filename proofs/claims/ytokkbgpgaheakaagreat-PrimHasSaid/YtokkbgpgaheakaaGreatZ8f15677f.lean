/- Proved: lemmas for the law of this folder, part 7. No condition. -/
import Derived.Test.YtokkbgpgaheakaaGreatRows
import Derived.WalkKit
import Derived.WalkSpells
import Derived.WalkLawsBesides
import Derived.Lib.Hide
import Derived.Laws.CopyOwn
import Derived.Deep.QuietTactic
import Derived.BigQuiet
import Derived.Orders
import Derived.Defers
import Derived.Recover
import Derived.Test.YtokkbgpgaheakaaGreatProg
import Derived.KernelRfl
import Derived.ProofKit
import Derived.OpenShut
import Derived.Maps.OwnRows
import Derived.Maps.Views
import Derived.Deep.RegionHeld3
import Derived.Deep.AppendLies
import Derived.Test.YtokkbgpgaheakaaGreatZ1b8bb947
set_option linter.unusedSimpArgs false
set_option linter.unusedVariables false
set_option maxRecDepth 100000
namespace Go.Proofs.YtokkbgpgaheakaaGreat
def F8:List (Nat×Orc):=[(6,⟨[(2,none),(3,none),(4,none),(5,none),(6,none),(22,none),(23,none)],[(2,true),(3,false),(4,false),(5,false)],[(.slot 6,1060,3)]⟩),(13,⟨[(2,none),(4,none),(5,none),(8,none),(37,none),(38,none),(39,none)],[(2,true),(4,false),(5,false)],[(.slot 8,1130,67),(.slot 37,1131,3)]⟩)]
def Zl:List ResultVar:=[.cell 4 26,.cell 5 29]
noncomputable def Lq(n m13:Nat)(told8 t37:List D)(t38 t39:Int)(a2:D)(r4_0 e5:Int):Tree :=
 lA (eA F8 n 69 [1,1,1,1,1,1,1,0,1,0,0]) (Ao F8 13) m13 ⟨(.undef:: .undef:: .ptr 2 []:: .undef:: .ptr 4 []:: .ptr 5 []:: .undef:: .undef:: .row 1130::uA 28++(.row 1131:: .i .i64 t38:: .i .i64 t39::uA 16)),[(2,.var 26 (.d 26 a2) false),(4,.var 26 (.agg 26 [.i .u64 r4_0,.mt,.mt]) true),(5,.var 29 (.i .i64 e5) true),(1130,.row 67 told8 true),(1131,.row 3 t37 true)],[2,4,5,1130,1131],[(154,[.ptr 4 [],.ptr 5 []])],[]⟩
  (Ak 2 (Au (jA F8 n 69 [1,1,1,1,1,1,1,1]) (rA 69 [26,4] Zl [26,29])))
noncomputable def M3(n m6:Nat)(places6:List D)(t22 t23:Int)(a2:D)(down3:Bool)(r4_0 e5:Int):Tree :=
 lA (eA F8 n 69 [1,1,1,1,0,1,0,0]) (Ao F8 6) m6 ⟨(.undef:: .undef:: .ptr 2 []:: .ptr 3 []:: .ptr 4 []:: .ptr 5 []:: .row 1060::uA 15++(.i .i64 t22:: .i .i64 t23::uA 32)),[(2,.var 26 (.d 26 a2) true),(3,.var 4 (.b down3) true),(4,.var 26 (.agg 26 [.i .u64 r4_0,.mt,.mt]) true),(5,.var 29 (.i .i64 e5) true),(1060,.row 3 places6 true)],[2,3,4,5,1060],[(154,[.ptr 4 [],.ptr 5 []])],[]⟩
  (Ak 0 (Au (jA F8 n 69 [1,1,1,1,1]) (rA 69 [26,4] Zl [26,29])))
theorem Qd(n m13:Nat)(told8 t37:List D)(t38 t39:Int)(a2:D)(r4_0 e5:Int):Lq n (m13+1) told8 t37 t38 t39 a2 r4_0 e5 =
 .br (decide (t39<t38)) (.br (decide (0≤t39)) (.br (decide (t39<(t37.length:Int))) (.call 138 [] [D.int (IntKind.wrap .i64 (((t37.getD (Int.toNat t39) D.nil).toInt)+1))] fun yy2 =>
 .br (decide (0≤t39)) (.br (decide (t39<(told8.length:Int))) (Lq n m13 (told8.set (Int.toNat t39) (yy2.getD 0 D.nil)) t37 t38 (IntKind.wrap .i64 (t39+1)) a2 r4_0 e5) .fail) .fail) .fail) .fail)
 (.call 149 [] [D.sl told8] fun yy3 =>
 .call 84 [] [a2] fun yy4 =>
 .call 90 [] [yy3.getD 0 D.nil,D.int ((yy4.getD 0 D.nil).toInt)] fun yy5 =>
 .ret [yy5.getD 0 D.nil,D.int 0]):=by kernel_rfl
theorem Ry(n m6:Nat)(places6:List D)(t22 t23:Int)(a2:D)(down3:Bool)(r4_0 e5:Int):M3 n (m6+1) places6 t22 t23 a2 down3 r4_0 e5 =
 .br (decide (t23<t22)) (.br (decide (0≤t23)) (.br (decide (t23<(places6.length:Int))) (M3 n m6 (places6.set (Int.toNat t23) (D.int t23)) t22 (IntKind.wrap .i64 (t23+1)) a2 down3 r4_0 e5) .fail) .fail)
 (.call 155 [] [D.sl places6,D.fn 156 [.ref 4,.ref 26] [D.ref (D.bool down3),D.ref a2]] fun yy1 =>
 .br (decide (0≤(((yy1.getD 0 D.nil).els).length:Int))) (.br (decide ((((yy1.getD 0 D.nil).els).length:Int)≤(((yy1.getD 0 D.nil).els).length:Int))) (.br (decide ((((yy1.getD 0 D.nil).els).length:Int)≤Ar)) (Lq n n (List.replicate (Int.toNat (((yy1.getD 0 D.nil).els).length:Int)) (D.agg [D.int 0,D.int 0,D.agg [D.bool false,D.sl [],D.sl []],D.int 0,D.sl []])) ((yy1.getD 0 D.nil).els) (((yy1.getD 0 D.nil).els).length:Int) 0 a2 r4_0 e5) .fail) .fail) .fail):=by kernel_rfl
theorem MR(n:Nat)(a0 down1:D):Ai Tryz.prog md F8 n 69 [] [a0,down1] =
 .br ((((a0.fld 1).els).length:Int)!=1) (.ret [D.agg [D.int 0,D.sl [],D.sl []],D.int 5])
 (.br (decide (0≤(((a0.fld 2).els).length:Int))) (.br (decide ((((a0.fld 2).els).length:Int)≤(((a0.fld 2).els).length:Int))) (.br (decide ((((a0.fld 2).els).length:Int)≤Ar)) (M3 n n (List.replicate (Int.toNat (((a0.fld 2).els).length:Int)) (D.int 0)) ((List.replicate (Int.toNat (((a0.fld 2).els).length:Int)) (D.int 0)).length:Int) 0 a0 down1.toBool 0 0) .fail) .fail) .fail):=by kernel_rfl
theorem EL(n:Nat)(i0 j1:D)(c2 c3:D):Ai Tryz.prog md [] n 156 [.ref 4,.ref 26] [i0,j1,c2,c3] =
 .br c2.unref.toBool (.br (decide (0≤j1.toInt)) (.br (decide (j1.toInt<(((c3.unref.fld 2).els).length:Int))) (.br (decide (0≤i0.toInt)) (.br (decide (i0.toInt<(((c3.unref.fld 2).els).length:Int))) (.call 157 [] [((c3.unref.fld 2).els).getD (Int.toNat j1.toInt) D.nil,((c3.unref.fld 2).els).getD (Int.toNat i0.toInt) D.nil] fun yy1 =>
 .ret [D.int ((yy1.getD 0 D.nil).toInt)]) .fail) .fail) .fail) .fail)
 (.br (decide (0≤i0.toInt)) (.br (decide (i0.toInt<(((c3.unref.fld 2).els).length:Int))) (.br (decide (0≤j1.toInt)) (.br (decide (j1.toInt<(((c3.unref.fld 2).els).length:Int))) (.call 157 [] [((c3.unref.fld 2).els).getD (Int.toNat i0.toInt) D.nil,((c3.unref.fld 2).els).getD (Int.toNat j1.toInt) D.nil] fun yy2 =>
 .ret [D.int ((yy2.getD 0 D.nil).toInt)]) .fail) .fail) .fail) .fail):=by kernel_rfl
theorem MS(n:Nat)(x0 y1:D):Ai Tryz.prog md [] n 157 [] [x0,y1] =
 .br (((x0.fld 1).toInt)!=((y1.fld 1).toInt)) (.call 218 [] [D.int ((x0.fld 1).toInt),D.int ((y1.fld 1).toInt)] fun yy1 =>
 .ret [D.int ((yy1.getD 0 D.nil).toInt)])
 (.br (((x0.fld 1).toInt)==0) (.call 219 [] [x0.fld 2,y1.fld 2] fun yy2 =>
 .ret [D.int ((yy2.getD 0 D.nil).toInt)])
 (.br (((x0.fld 1).toInt)==1) (.call 218 [] [D.int ((x0.fld 3).toInt),D.int ((y1.fld 3).toInt)] fun yy3 =>
 .ret [D.int ((yy3.getD 0 D.nil).toInt)])
 (.br (decide (0≤0)) (.br (decide (0<(((x0.fld 4).els).length:Int))) (.br (decide (0≤0)) (.br (decide (0<(((y1.fld 4).els).length:Int))) (.call 220 [] [((x0.fld 4).els).getD (Int.toNat 0) D.nil,((y1.fld 4).els).getD (Int.toNat 0) D.nil] fun yy4 =>
 .ret [D.int ((yy4.getD 0 D.nil).toInt)]) .fail) .fail) .fail) .fail))):=by kernel_rfl
def Ku:List (Nat×Orc):=[(8,⟨[(2,none),(3,none),(29,none),(30,none)],[(2,true),(3,true)],[]⟩)]
noncomputable def Lr(n m8:Nat)(t29 t30:Int)(a2 b3:D):Tree :=
 lA (eA Ku n 220 [1,1,1,0,1,0,0]) (Ao Ku 8) m8 ⟨(.undef:: .undef:: .ptr 2 []:: .ptr 3 []::uA 25++(.i .i64 t29:: .i .i64 t30::uA 17)),[(2,.var 26 (.d 26 a2) true),(3,.var 26 (.d 26 b3) true)],[2,3],[],[]⟩
  (Ak 0 (Au (jA Ku n 220 [1,1,1,1]) (rA 220 [26,26] [.tmp 4] [3])))
theorem Qe(n m8:Nat)(t29 t30:Int)(a2 b3:D):Lr n (m8+1) t29 t30 a2 b3 =
 .br (decide (t30<t29)) (.br (decide (0≤t30)) (.br (decide (t30<(((a2.fld 2).els).length:Int))) (.br (decide (0≤t30)) (.br (decide (t30<(((b3.fld 2).els).length:Int))) (.call 157 [] [((a2.fld 2).els).getD (Int.toNat t30) D.nil,((b3.fld 2).els).getD (Int.toNat t30) D.nil] fun yy3 =>
 .br (((yy3.getD 0 D.nil).toInt)!=0) (.ret [D.int ((yy3.getD 0 D.nil).toInt)])
 (Lr n m8 t29 (IntKind.wrap .i64 (t30+1)) a2 b3)) .fail) .fail) .fail) .fail)
 (.ret [D.int 0]):=by kernel_rfl
theorem JS(n:Nat)(a0 b1:D):Ai Tryz.prog md Ku n 220 [] [a0,b1] =
 .call 218 [] [D.int (((a0.fld 1).els).length:Int),D.int (((b1.fld 1).els).length:Int)] fun yy1 =>
 .br (((yy1.getD 0 D.nil).toInt)!=0) (.ret [D.int ((yy1.getD 0 D.nil).toInt)])
 (.call 256 [] [a0.fld 1,b1.fld 1] fun yy2 =>
 .br (((yy2.getD 0 D.nil).toInt)!=0) (.ret [D.int ((yy2.getD 0 D.nil).toInt)])
 (Lr n n (((a0.fld 2).els).length:Int) 0 a0 b1)):=by kernel_rfl
theorem AN(n:Nat)(x0 y1:D):Ai Tryz.prog md [] n 218 [] [x0,y1] =
 .call 252 [] [D.int x0.toInt] fun yy1 =>
 .call 252 [] [D.int y1.toInt] fun yy2 =>
 .br ((yy1.getD 0 D.nil).toBool) (.br ((yy2.getD 0 D.nil).toBool) (.ret [D.int 0])
 (.ret [D.int (-1)]))
 (.br ((yy2.getD 0 D.nil).toBool) (.ret [D.int 1])
 (.br (decide (x0.toInt<y1.toInt)) (.ret [D.int (-1)])
 (.br (decide (y1.toInt<x0.toInt)) (.ret [D.int 1])
 (.ret [D.int 0])))):=by kernel_rfl
theorem DY(n:Nat)(x0:D):Ai Tryz.prog md [] n 252 [] [x0] =
 .ret [D.bool (x0.toInt != x0.toInt)]:=by kernel_rfl
structure Row {α:Type} (S:α→Prop) (f:α→α→Int):Prop where
 val : ∀ x y,S x→S y→f x y = -1∨f x y=0∨f x y=1
 flip : ∀ x y,S x→S y→f y x = - f x y
 go : ∀ x y z,S x→S y→S z→f x y≤0→f y z≤0→f x z≤0
section
variable {α:Type} {S:α→Prop} {f g:α→α→Int}
theorem Row.self (h:Row S f) {x:α} (hx:S x):f x x=0:=by have:=h.flip x x hx hx;omega
theorem Row.two (h:Row S f) {x y z:α} (hx:S x) (hy:S y) (hz:S z) (h1:f x y≤0) (h2:f y z≤0) (h3:f x z=0):f x y=0∧f y z=0:=by
 have a1:=h.flip x z hx hz
 have a2:=h.flip x y hx hy
 have a3:=h.flip y z hy hz
 have b1:=h.go y z x hy hz hx h2 (by omega)
 have b2:=h.go z x y hz hx hy (by omega) h1
 omega
theorem Row.mono {T:α→Prop} (h:Row S f) (hs : ∀ x,T x→S x):Row T f:=⟨fun x y hx hy=>h.val x y (hs x hx) (hs y hy),fun x y hx hy=>h.flip x y (hs x hx) (hs y hy),fun x y z hx hy hz=>h.go x y z (hs x hx) (hs y hy) (hs z hz)⟩
theorem Row.congr (h:Row S f) (e : ∀ x y,S x→S y→g x y=f x y):Row S g:=⟨fun x y hx hy=>by rw[e x y hx hy];exact h.val x y hx hy,fun x y hx hy=>by rw[e x y hx hy,e y x hy hx];exact h.flip x y hx hy,fun x y z hx hy hz=>by rw[e x y hx hy,e y z hy hz,e x z hx hz];exact h.go x y z hx hy hz⟩
theorem Row.lex (hf:Row S f) (hg : ∀ x,S x→Row (fun y=>S y∧f x y=0) g):Row S (fun x y=>if f x y≠0 then f x y else g x y) where
 val x y hx hy:=by
  split
  · exact hf.val x y hx hy
  · rename_i h;exact (hg x hx).val x y ⟨hx,hf.self hx⟩ ⟨hy,Classical.not_not.1 h⟩
 flip x y hx hy:=by
  have a:=hf.flip x y hx hy
  by_cases h:f x y=0
  · rw[if_neg (by omega),if_neg (by omega)]
    exact (hg x hx).flip x y ⟨hx,hf.self hx⟩ ⟨hy,h⟩
  · rw[if_pos (by omega),if_pos (by omega)];exact a
 go x y z hx hy hz h1 h2:=by
  have p1:f x y≤0:=by
    by_cases h:f x y=0
    · omega
    · rw[if_pos h]at h1;exact h1
  have p2:f y z≤0:=by
    by_cases h:f y z=0
    · omega
    · rw[if_pos h]at h2;exact h2
  have p3:=hf.go x y z hx hy hz p1 p2
  by_cases h:f x z=0
  · obtain ⟨q1,q2⟩:=hf.two hx hy hz p1 p2 h
    rw[if_neg (by omega)]at h1 h2 ⊢
    exact (hg x hx).go x y z ⟨hx,hf.self hx⟩ ⟨hy,q1⟩ ⟨hz,h⟩ h1 h2
  · rw[if_pos h];exact p3
def Hj(f:α→α→Int):List (α×α)→Int
 | []=>0
 | (x,y)::r=>if f x y≠0 then f x y else Hj f r
theorem Ab8(h:Row S f) : ∀ (l m:List α),(∀ x∈l,S x)→(∀ x∈m,S x)→Hj f (l.zip m) = -1∨Hj f (l.zip m)=0∨Hj f (l.zip m)=1
 | [],_,_,_=> .inr (.inl rfl)
 | _::_,[],_,_=> .inr (.inl rfl)
 | x::xs,y::ys,hl,hm=>by
  simp only[List.zip_cons_cons,Hj]
  split
  · exact h.val x y (hl x (by simp)) (hm y (by simp))
  · exact Ab8 h xs ys (fun z hz=>hl z (by simp[hz])) (fun z hz=>hm z (by simp[hz]))
theorem YG(h:Row S f) : ∀ (l m:List α),(∀ x∈l,S x)→(∀ x∈m,S x)→Hj f (m.zip l) = - Hj f (l.zip m)
 | [],[],_,_=>rfl
 | [],_::_,_,_=>rfl
 | _::_,[],_,_=>rfl
 | x::xs,y::ys,hl,hm=>by
  have a:=h.flip x y (hl x (by simp)) (hm y (by simp))
  have b:=YG h xs ys (fun z hz=>hl z (by simp[hz])) (fun z hz=>hm z (by simp[hz]))
  simp only[List.zip_cons_cons,Hj]
  by_cases hh:f x y=0
  · rw[if_neg (by omega),if_neg (by omega)];exact b
  · rw[if_pos (by omega),if_pos (by omega)];exact a
theorem AdG(h:Row S f) : ∀ (l m k:List α),l.length=m.length→m.length=k.length→(∀ x∈l,S x)→(∀ x∈m,S x)→(∀ x∈k,S x)→Hj f (l.zip m)≤0→Hj f (m.zip k)≤0→Hj f (l.zip k)≤0
 | [],_,_,_,_,_,_,_,_,_=>by simp[Hj]
 | x::xs,[],_,e,_,_,_,_,_,_=>by simp at e
 | x::xs,y::ys,[],_,e,_,_,_,_,_=>by simp at e
 | x::xs,y::ys,z::zs,e1,e2,hl,hm,hk,h1,h2=>by
  simp only[List.zip_cons_cons,Hj]at h1 h2 ⊢
  have hx:=hl x (by simp)
  have hy:=hm y (by simp)
  have hz:=hk z (by simp)
  have p1:f x y≤0:=by
    by_cases h:f x y=0
    · omega
    · rw[if_pos h]at h1;exact h1
  have p2:f y z≤0:=by
    by_cases h:f y z=0
    · omega
    · rw[if_pos h]at h2;exact h2
  have p3:=h.go x y z hx hy hz p1 p2
  by_cases hh:f x z=0
  · obtain ⟨q1,q2⟩:=h.two hx hy hz p1 p2 hh
    rw[if_neg (by omega)]at h1 h2 ⊢
    exact AdG h xs ys zs (by simpa using e1) (by simpa using e2) (fun z hz=>hl z (by simp[hz])) (fun z hz=>hm z (by simp[hz])) (fun z hz=>hk z (by simp[hz])) h1 h2
  · rw[if_pos hh];exact p3
theorem Row.list (h:Row S f) (n:Nat):Row (fun l:List α=>l.length=n∧∀ x∈l,S x) (fun l m=>Hj f (l.zip m)) :=
 ⟨fun l m hl hm=>Ab8 h l m hl.2 hm.2,fun l m hl hm=>YG h l m hl.2 hm.2,fun l m k hl hm hk=>AdG h l m k (hl.1.trans hm.1.symm) (hm.1.trans hk.1.symm) hl.2 hm.2 hk.2⟩
theorem YH{β:Type}{r:α→β}(h0 : ∀ x y,S x→S y→(f x y=0↔r x=r y)) : ∀ (l m:List α),l.length=m.length→(∀ x∈l,S x)→(∀ x∈m,S x)→(Hj f (l.zip m)=0↔l.map r=m.map r)
 | [],[],_,_,_=>by simp[Hj]
 | [],_::_,e,_,_=>by simp at e
 | _::_,[],e,_,_=>by simp at e
 | x::xs,y::ys,e,hl,hm=>by
  have a:=h0 x y (hl x (by simp)) (hm y (by simp))
  have b:=YH h0 xs ys (by simpa using e) (fun z hz=>hl z (by simp[hz])) (fun z hz=>hm z (by simp[hz]))
  simp only[List.zip_cons_cons,Hj,List.map_cons,List.cons.injEq]
  by_cases hh:f x y=0
  · rw[if_neg (by omega),b]
    exact ⟨fun h=>⟨a.1 hh,h⟩,fun h=>h.2⟩
  · rw[if_pos hh]
    exact ⟨fun h=>absurd h hh,fun h=>absurd (a.2 h.1) hh⟩
end
theorem E7(x y:Int):(Ee x y = -1∧x<y)∨(Ee x y=0∧x=y)∨(Ee x y=1∧y<x):=by
 unfold Ee
 split
 · exact .inl ⟨rfl,by assumption⟩
 · split
   · exact .inr (.inl ⟨rfl,by assumption⟩)
   · exact .inr (.inr ⟨rfl,by omega⟩)
theorem D6{x y:Int} : Ee x y=0↔x=y:=by rcases E7 x y with ⟨h,h'⟩ | ⟨h,h'⟩ | ⟨h,h'⟩ <;> omega
theorem JG{α:Type}{S:α→Prop}(k:α→Int):Row S (fun x y=>Ee (k x) (k y)) :=
 ⟨fun x y _ _=>by rcases E7 (k x) (k y) with h | h | h <;> simp[h.1],
  fun x y _ _=>by rcases E7 (k x) (k y) with h | h | h <;> rcases E7 (k y) (k x) with h' | h' | h' <;> omega,
  fun x y z _ _ _ h1 h2=>by rcases E7 (k x) (k y) with h | h | h <;> rcases E7 (k y) (k z) with h' | h' | h' <;> rcases E7 (k x) (k z) with h'' | h'' | h'' <;> omega⟩
def Aez(r:Arr→Arr→Int)(x y:Cell):Int:=if Ee x.kind y.kind≠0 then Ee x.kind y.kind else if x.kind=0 then Sg x.n y.n else if x.kind=1 then Ee x.c y.c else r (x.inn.headD .none) (y.inn.headD .none)
def LN(a b:Arr):Int:=if Ee a.shape.length b.shape.length≠0 then Ee a.shape.length b.shape.length else Hj Ee (a.shape.zip b.shape)
def Yt:Nat→Arr→Arr→Int
 | 0,_,_=>0
 | d+1,a,b=>if LN a b≠0 then LN a b else Hj (Aez (Yt d)) (a.cells.zip b.cells)
def Wt(d:Nat):Cell→Cell→Int:=Aez (Yt d)
theorem Af2(d:Nat)(a b:Arr):Yt (d+1) a b=if LN a b≠0 then LN a b else Hj (Wt d) (a.cells.zip b.cells):=rfl
theorem Lf{d:Nat}{c:Cell}(h:B7 d c=true):(c.kind=0∧c.c=0∧c.inn = []∧Ge c.n=true)∨(c.kind=1∧c.n = .zero∧c.inn = [])∨(c.kind=2∧c.n = .zero∧c.c=0∧∃ e x,d=e+1∧c.inn = [x]∧A8 e x=true):=by
 have hinn:=Q9 h
 have key : ∀ k r,Gw k r c=true→(c.kind=0∧c.c=0∧c.inn = []∧Ge c.n=true)∨(c.kind=1∧c.n = .zero∧c.inn = [])∨(c.kind=2∧c.n = .zero∧c.c=0∧∃ x,c.inn = [x]):=by
   intro k r h
   unfold Gw at h
   split at h
   · simp only[Bool.and_eq_true,decide_eq_true_eq]at h
     exact .inl ⟨by assumption,h.1.1,List.length_eq_zero_iff.1 h.1.2,h.2⟩
   split at h
   · simp only[Bool.and_eq_true,decide_eq_true_eq]at h
     exact .inr (.inl ⟨by assumption,h.1.1,List.length_eq_zero_iff.1 h.1.2⟩)
   · simp only[Bool.and_eq_true,decide_eq_true_eq]at h
     have hb:=h.2.2
     unfold Xz at hb
     split at hb
     · rename_i hi;exact .inr (.inr ⟨h.1.1,h.1.2.1,h.1.2.2,_,hi⟩)
     · cases hb
 have h2:(c.kind=0∧c.c=0∧c.inn = []∧Ge c.n=true)∨(c.kind=1∧c.n = .zero∧c.inn = [])∨(c.kind=2∧c.n = .zero∧c.c=0∧∃ x,c.inn = [x]):=by
   cases d with
   | zero=>exact key _ _ h
   | succ d=>exact key _ _ h
 rcases h2 with h2 | h2 | ⟨h1,h2,h3,x,h4⟩
 · exact .inl h2
 · exact .inr (.inl h2)
 · obtain ⟨e,he,_,hr,_⟩:=hinn x (by rw[h4];simp)
   exact .inr (.inr ⟨h1,h2,h3,e,x,he,h4,hr⟩)
theorem Ajs:Row (fun x:Cell=>Ge x.n=true) (fun x y=>Sg x.n y.n):=by
 refine ⟨fun x y _ _=> ?_,fun x y _ _=> ?_,fun x y z hx hy hz=> ?_⟩
 · have:=E7 (Cg x.n*Ca y.n) (Cg y.n*Ca x.n);unfold Sg;omega
 · have:=E7 (Cg x.n*Ca y.n) (Cg y.n*Ca x.n)
   have:=E7 (Cg y.n*Ca x.n) (Cg x.n*Ca y.n);unfold Sg;omega
 · obtain ⟨a,p,ra⟩:=JF hx
   obtain ⟨b,q,rb⟩:=JF hy
   obtain ⟨c,r,rc⟩:=JF hz
   unfold Sg
   rw[ra.top,ra.bot,rb.top,rb.bot,rc.top,rc.bot]
   have p0:(0:Int)<p:=by have:=ra.d0;omega
   have q0:(0:Int)<q:=by have:=rb.d0;omega
   have r0:(0:Int)<r:=by have:=rc.d0;omega
   intro h1 h2
   have g1:a*q≤b*p:=by rcases E7 (a*q) (b*p) with h | h | h <;> omega
   have g2:b*r≤c*q:=by rcases E7 (b*r) (c*q) with h | h | h <;> omega
   have g3:a*r≤c*p:=by
    have e1:a*q*r≤b*p*r:=Int.mul_le_mul_of_nonneg_right g1 (by omega)
    have e2:b*r*p≤c*q*p:=Int.mul_le_mul_of_nonneg_right g2 (by omega)
    have e3:(a*r)*q≤(c*p)*q:=by
     have i1:a*q*r=a*r*q:=by rw[Int.mul_assoc,Int.mul_comm (q:Int) r,← Int.mul_assoc]
     have i2:b*p*r=b*r*p:=by rw[Int.mul_assoc,Int.mul_comm (p:Int) r,← Int.mul_assoc]
     have i3:c*q*p=c*p*q:=by rw[Int.mul_assoc,Int.mul_comm (q:Int) p,← Int.mul_assoc]
     omega
    exact Int.le_of_mul_le_mul_right e3 q0
   rcases E7 (a*r) (c*p) with h | h | h <;> omega
theorem Agr:Row (fun _:Arr=>True) LN:=by
 refine Row.lex (f:=fun a b:Arr=>Ee a.shape.length b.shape.length) (JG fun a:Arr=>(a.shape.length:Int)) (fun a _=> ?_)
 have h:Row (fun _:Int=>True) Ee:=JG (fun x:Int=>x)
 have:=h.list a.shape.length
 exact ⟨fun x y hx hy=>this.val x.shape y.shape ⟨by have:=D6.1 hx.2;omega,fun _ _=>trivial⟩ ⟨by have:=D6.1 hy.2;omega,fun _ _=>trivial⟩,
  fun x y hx hy=>this.flip x.shape y.shape ⟨by have:=D6.1 hx.2;omega,fun _ _=>trivial⟩ ⟨by have:=D6.1 hy.2;omega,fun _ _=>trivial⟩,
  fun x y z hx hy hz=>this.go x.shape y.shape z.shape ⟨by have:=D6.1 hx.2;omega,fun _ _=>trivial⟩ ⟨by have:=D6.1 hy.2;omega,fun _ _=>trivial⟩ ⟨by have:=D6.1 hz.2;omega,fun _ _=>trivial⟩⟩
theorem AcA{a b:Arr} : LN a b=0↔a.shape=b.shape:=by
 unfold LN
 by_cases h:a.shape.length=b.shape.length
 · rw[if_neg (by rw[Ne,D6];omega)]
   have:=YH (S:=fun _:Int=>True) (f:=Ee) (r:=fun x=>x) (fun x y _ _=>D6) a.shape b.shape h (fun _ _=>trivial) (fun _ _=>trivial)
   rw[this];simp
 · rw[if_pos (by rw[Ne,D6];omega)]
   constructor
   · intro h';have:=D6.1 h';omega
   · intro h';rw[h']at h;exact absurd rfl h
theorem RZ{d:Nat}{a b:Arr}(ha:A8 d a=true)(hb:A8 d b=true)(h:a.shape=b.shape):a.cells.length=b.cells.length:=by
 have h1:=(B6 ha).1
 have h2:=(B6 hb).1
 rw[h,h2]at h1
 have:=(Prod.mk.inj h1).1
 omega
theorem GJ{d:Nat}(h:Row (fun x=>B7 d x=true) (Wt d)):Row (fun a=>A8 d a=true) (Yt (d+1)):=by
 refine Row.lex (Agr.mono fun _ _=>trivial) (fun a ha=> ?_)
 have:=h.list a.cells.length
 have ok : ∀ x,A8 d x=true∧LN a x=0→x.cells.length=a.cells.length∧∀ c∈x.cells,B7 d c=true:=fun x hx=>⟨(RZ ha hx.1 (AcA.1 hx.2)).symm,(B6 hx.1).2⟩
 exact ⟨fun x y hx hy=>this.val _ _ (ok x hx) (ok y hy),fun x y hx hy=>this.flip _ _ (ok x hx) (ok y hy),fun x y z hx hy hz=>this.go _ _ _ (ok x hx) (ok y hy) (ok z hz)⟩
theorem GH{d:Nat}(h : ∀ e,d=e+1→Row (fun a=>A8 e a=true) (Yt d)):Row (fun x=>B7 d x=true) (Wt d):=by
 refine Row.lex (f:=fun x y:Cell=>Ee x.kind y.kind) (JG fun x:Cell=>x.kind) (fun x hx=> ?_)
 rcases Lf hx with h0 | h0 | ⟨h0,h1,h2,e,x',he,h3,h4⟩
 · have ok : ∀ y:Cell,B7 d y=true∧Ee x.kind y.kind=0→Ge y.n=true∧y.kind=0:=fun y hy=>by
    have:=D6.1 hy.2
    rcases Lf hy.1 with g | g | g
    · exact ⟨g.2.2.2,g.1⟩
    · omega
    · omega
   exact (Ajs.mono (fun y hy=>(ok y hy).1)).congr (fun y z hy hz=>by rw[if_pos (ok y hy).2])
 · have ok : ∀ y:Cell,B7 d y=true∧Ee x.kind y.kind=0→y.kind=1:=fun y hy=>by have:=D6.1 hy.2;omega
   exact (JG (fun y:Cell=>y.c)).congr (fun y z hy hz=>by rw[if_neg (by have:=ok y hy;omega),if_pos (ok y hy)])
 · subst he
   have ok : ∀ y:Cell,B7 (e+1) y=true∧Ee x.kind y.kind=0→y.kind=2∧A8 e (y.inn.headD .none)=true:=fun y hy=>by
    have:=D6.1 hy.2
    rcases Lf hy.1 with g | g | ⟨g0,_,_,e',y',he',h5,h6⟩
    · omega
    · omega
    · have:e'=e:=by omega
      subst this
      exact ⟨g0,by rw[h5];exact h6⟩
   have hr:=h e rfl
   have:Row (fun y:Cell=>B7 (e+1) y=true∧Ee x.kind y.kind=0) (fun y z=>Yt (e+1) (y.inn.headD .none) (z.inn.headD .none)):=⟨fun y z hy hz=>hr.val _ _ (ok y hy).2 (ok z hz).2,fun y z hy hz=>hr.flip _ _ (ok y hy).2 (ok z hz).2,fun y z w hy hz hw=>hr.go _ _ _ (ok y hy).2 (ok z hz).2 (ok w hw).2⟩
   exact this.congr (fun y z hy hz=>by rw[if_neg (by have:=(ok y hy).1;omega),if_neg (by have:=(ok y hy).1;omega)])
theorem Ac4 : ∀ d:Nat,Row (fun x=>B7 d x=true) (Wt d)∧Row (fun a=>A8 d a=true) (Yt (d+1))
 | 0=>by
  have h:=GH (d:=0) (fun e he=>by omega)
  exact ⟨h,GJ h⟩
 | d+1=>by
  have h:=GH (d:=d+1) (fun e he=>by cases he;exact (Ac4 d).2)
  exact ⟨h,GJ h⟩
theorem Ab6(x:Int):Sp 252 [.int x] [.bool false]:=Ag 0 (DY _ _) (Ac (by simp))
theorem X3(x y:Int):Sp 218 [.int x,.int y] [.int (Ee x y)]:=by
 refine Ag 0 (AN _ _ _) (Aa (Ab6 x) (Aa (Ab6 y) (Cs rfl (Cs rfl ?_))))
 simp only[Ah]
 refine Ad (fun h=>Ac (by unfold Ee;rw[if_pos h])) (fun h=>Ad (fun h'=>Ac (by unfold Ee;rw[if_neg h,if_neg (by omega)])) (fun h'=>Ac (by unfold Ee;rw[if_neg h,if_pos (by omega)])))
theorem Ag9{α β:Type}{l:List α}{m:List β}{k:Nat}{x:α}{y:β}(h:(l.zip m)[k]? = some (x,y)):l[k]? = some x∧m[k]? = some y:=by
 rw[List.getElem?_zip_eq_some]at h;exact h
theorem Ab_{α:Type}{l:List α}{k:Nat}{x:α}(h:l[k]? = some x):k<l.length:=(List.getElem?_eq_some_iff.1 h).1
theorem KJ(l m:List Int)(hl:l.length≤1048576)(e:l.length=m.length):Sp 256 [dI l,dI m] [.int (Hj Ee (l.zip m))]:=by
 refine Ag 1048577 (U4 _ _ _) ?_
 have hz:(l.zip m).length=l.length:=by simp[List.length_zip,e]
 have key:=A7 (P:=Tryz.prog) (md:=md) (l.zip m) (fun q k (_:Unit)=>F1 1048577 q (dI l) (dI m) (dI l) (l.length:Int) (k:Int)) (fun rest _=>[.int (Hj Ee rest)]) (fun _ _=>True)
  (fun q k s hk _=>by
   simp only[Jk,Bx,List.length_map]
   exact Am (by omega) (Am (by omega) (Ac rfl)))
  (fun q k s p rest hd _ ih=>by
   obtain ⟨h1,h2,h3⟩:=Az hd
   obtain ⟨x,y⟩:=p
   obtain ⟨g1,g2⟩:=Ag9 h2
   have l1:=Ab_ g1
   simp only[Jk,Bx,List.length_map,Int.toNat_natCast,Aj g1,Aj g2,Ah,An (show k<9223372036854775807 by omega)]
   refine Ae (Ae (Ae (Am (by omega) (Ae (Ae (Aa (X3 x y) ?_))))))
   simp only[Af,Ah,Cz,Hj]
   exact Ad (fun h=>Ac (by rw[if_pos h])) (fun h=>by rw[if_neg h];exact ih () trivial))
  1048577 0 () (by omega) (by omega) trivial
 simp only[Bx,List.length_map]
 exact key
theorem ZF{n:Num}(h:Ge n=true):Y9 n:=⟨by have:=(V7 h).1;omega,by have:=(V7 h).2;omega⟩
theorem XV{d:Nat}(h : ∀ x y:Cell,B7 d x=true→B7 d y=true→Sp 157 [dC x,dC y] [.int (Wt d x y)])(a b:Arr)(ha:A8 d a=true)(hb:A8 d b=true):Sp 220 [dA a,dA b] [.int (Yt (d+1) a b)]:=by
 have la:=Dh ha
 have lb:=Dh hb
 refine Ag 1048577 (JS _ _ _) ?_
 simp only[As]
 refine Aa (X3 _ _) ?_
 rw[Af2]
 unfold LN
 simp only[Af,Ah,Cz]
 refine Ad (fun h=>Ac (by simp only[if_pos h])) (fun h1=> ?_)
 simp only[if_neg h1]
 have hl:a.shape.length=b.shape.length:=by have:=D6.1 (Classical.not_not.1 h1);omega
 refine Aa (KJ a.shape b.shape (by omega) hl) ?_
 simp only[Af,Ah]
 refine Ad (fun h=>Ac (by simp only[if_pos h])) (fun h2=> ?_)
 simp only[if_neg h2]
 have hs:a.shape=b.shape:=AcA.1 (by unfold LN;rw[if_neg h1];exact Classical.not_not.1 h2)
 have hc:=RZ ha hb hs
 have hz:(a.cells.zip b.cells).length=a.cells.length:=by simp[List.length_zip,hc]
 have key:=A7 (P:=Tryz.prog) (md:=md) (a.cells.zip b.cells) (fun q k (_:Unit)=>Lr 1048577 q (a.cells.length:Int) (k:Int) (dA a) (dA b)) (fun rest _=>[.int (Hj (Wt d) rest)]) (fun _ _=>True)
  (fun q k s hk _=>by
   simp only[Qe,As]
   exact Am (by omega) (Ac rfl))
  (fun q k s p rest hd _ ih=>by
   obtain ⟨_,k2,k3⟩:=Az hd
   obtain ⟨x,y⟩:=p
   obtain ⟨g1,g2⟩:=Ag9 k2
   have l1:=Ab_ g1
   simp only[Qe,As,Aj g1,Aj g2,An (show k<9223372036854775807 by omega)]
   refine Ae (Ae (Ae (Ae (Ae (Aa (h x y ((B6 ha).2 x (List.mem_of_getElem? g1)) ((B6 hb).2 y (List.mem_of_getElem? g2))) ?_)))))
   simp only[Af,Ah,Hj]
   exact Ad (fun h=>Ac (by rw[if_pos h])) (fun h=>by rw[if_neg h];exact ih () trivial))
  1048577 0 () (by omega) (by omega) trivial
 exact key
theorem YA{d:Nat}(h : ∀ e,d=e+1→∀ a b:Arr,A8 e a=true→A8 e b=true→Sp 220 [dA a,dA b] [.int (Yt d a b)])(x y:Cell)(hx:B7 d x=true)(hy:B7 d y=true):Sp 157 [dC x,dC y] [.int (Wt d x y)]:=by
 refine Ag 0 (MS _ _ _) ?_
 unfold Wt Aez
 simp only[As]
 refine Ad (fun hk=>Aa (X3 _ _) (Ac (by rw[if_pos (by rw[Ne,D6];exact hk)];rfl))) (fun hk=> ?_)
 have hk:=Classical.not_not.1 hk
 rw[if_neg (by rw[Ne,D6];omega)]
 rcases Lf hx with h0 | h0 | ⟨h0,h1,h2,e,x',he,h3,h4⟩ <;> rcases Lf hy with g0 | g0 | ⟨g0,g1,g2,e',y',he',g3,g4⟩
 · exact At h0.1 (Aa (Qt (ZF h0.2.2.2) (ZF g0.2.2.2)) (Ac (by rw[if_pos h0.1];rfl)))
 · omega
 · omega
 · omega
 · exact Am (by omega) (At h0.1 (Aa (X3 _ _) (Ac (by rw[if_neg (by omega),if_pos h0.1];rfl))))
 · omega
 · omega
 · omega
 · subst he
   have:e'=e:=by omega
   subst this
   simp only[AgR,h3,g3,Ez,List.map_cons,List.map_nil,List.length_cons,List.length_nil,Int.toNat_zero,Af]
   exact Am (by omega) (Am (by omega) (Ae (Ae (Ae (Ae (Aa (h _ rfl x' y' h4 g4) (Ac (by rw[if_neg (by omega),if_neg (by omega)];rfl))))))))
theorem AY : ∀ d:Nat,(∀ x y:Cell,B7 d x=true→B7 d y=true→Sp 157 [dC x,dC y] [.int (Wt d x y)])∧∀ a b:Arr,A8 d a=true→A8 d b=true→Sp 220 [dA a,dA b] [.int (Yt (d+1) a b)]
 | 0=>by
  have h:=YA (d:=0) (fun e he=>by omega)
  exact ⟨h,XV h⟩
 | d+1=>by
  have h:=YA (d:=d+1) (fun e he=>by cases he;exact (AY d).2)
  exact ⟨h,XV h⟩
def D3(k:Nat→Nat→Int)(i j:Nat):Prop:=k i j<0∨(k i j=0∧i≤j)
instance (k:Nat→Nat→Int) (i j:Nat):Decidable (D3 k i j):=by unfold D3;infer_instance
abbrev Aep(f:Nat→Nat→Int):Prop:=Row (fun _:Nat=>True) f
section
variable {k:Nat→Nat→Int} (hk:Aep k)
include hk
theorem AfM(i j:Nat):D3 k i j∨D3 k j i:=by
 have:=hk.flip i j trivial trivial
 unfold D3;omega
theorem Ahh{i j:Nat}(h1:D3 k i j)(h2:D3 k j i):i=j:=by
 have:=hk.flip i j trivial trivial
 unfold D3 at h1 h2;omega
theorem Pu{i j m:Nat}(h1:D3 k i j)(h2:D3 k j m):D3 k i m:=by
 have g1:k i j≤0:=by unfold D3 at h1;omega
 have g2:k j m≤0:=by unfold D3 at h2;omega
 have g3:=hk.go i j m trivial trivial trivial g1 g2
 by_cases h:k i m=0
 · obtain ⟨q1,q2⟩:=hk.two (x:=i) (y:=j) (z:=m) trivial trivial trivial g1 g2 h
   unfold D3 at h1 h2 ⊢; omega
 · unfold D3;omega
theorem Un{i j:Nat}(h:i<j):(k j i<0)↔¬ D3 k i j:=by
 have:=hk.flip i j trivial trivial
 unfold D3;omega
omit hk in
theorem So(hk:Aep k){i j:Nat}(h : ¬ D3 k i j):D3 k j i:=(AfM hk i j).resolve_left h
end
def MU(k:Nat→Nat→Int)(x:Nat):List Nat→List Nat
 | []=>[x]
 | y::ys=>if D3 k x y then x::y::ys else y::MU k x ys
def C1(k:Nat→Nat→Int):List Nat→List Nat
 | []=>[]
 | x::xs=>MU k x (C1 k xs)
theorem EO(k:Nat→Nat→Int)(x:Nat) : ∀ l,(MU k x l).Perm (x::l)
 | []=>List.Perm.refl _
 | y::ys=>by
  rw[MU]
  split
  · exact List.Perm.refl _
  · exact ((EO k x ys).cons y).trans (List.Perm.swap x y ys)
theorem Jr(k:Nat→Nat→Int) : ∀ l,(C1 k l).Perm l
 | []=>List.Perm.refl _
 | x::xs=>by rw[C1];exact (EO k x _).trans ((Jr k xs).cons x)
theorem Dj(k:Nat→Nat→Int)(l:List Nat):(C1 k l).length=l.length:=(Jr k l).length_eq
theorem H9{k:Nat→Nat→Int}{l:List Nat}{x:Nat} : x∈C1 k l↔x∈l:=(Jr k l).mem_iff
section
variable {k:Nat→Nat→Int} (hk:Aep k)
include hk
theorem KX(x:Nat) : ∀ l,l.Pairwise (D3 k)→(MU k x l).Pairwise (D3 k)
 | [],_=>by simp[MU]
 | y::ys,h=>by
  rw[MU]
  rw[List.pairwise_cons]at h
  split
  · rename_i hxy
    refine List.pairwise_cons.2 ⟨fun z hz=> ?_,List.pairwise_cons.2 h⟩
    rcases List.mem_cons.1 hz with rfl | hz
    · exact hxy
    · exact Pu hk hxy (h.1 z hz)
  · rename_i hxy
    refine List.pairwise_cons.2 ⟨fun z hz=> ?_,KX x ys h.2⟩
    rcases List.mem_cons.1 ((EO k x ys).mem_iff.1 hz) with rfl | hz
    · exact So hk hxy
    · exact h.1 z hz
theorem Gz : ∀ l,(C1 k l).Pairwise (D3 k)
 | []=>List.Pairwise.nil
 | x::xs=>KX hk x _ (Gz xs)
theorem CY : ∀ {l m:List Nat},l.Perm m→l.Pairwise (D3 k)→m.Pairwise (D3 k)→l=m
 | [],m,hp,_,_=>(List.Perm.nil_eq hp)
 | x::xs,[],hp,_,_=>by have:=hp.length_eq;simp at this
 | x::xs,y::ys,hp,h1,h2=>by
  rw[List.pairwise_cons]at h1 h2
  have hx:x∈y::ys:=hp.mem_iff.1 (by simp)
  have hy:y∈x::xs:=hp.mem_iff.2 (by simp)
  have e:x=y:=by
   rcases List.mem_cons.1 hx with e | hx
   · exact e
   · rcases List.mem_cons.1 hy with e | hy
     · exact e.symm
     · exact Ahh hk (h1.1 y hy) (h2.1 x hx)
  subst e
  rw[CY ((List.perm_cons x).1 hp) h1.2 h2.2]
theorem Rh{l z:List Nat}(hp:z.Perm l)(hs:z.Pairwise (D3 k)):C1 k l=z:=(CY hk (hp.trans (Jr k l).symm) hs (Gz hk l)).symm
omit hk in
theorem Ajy{l:List Nat}(h:l.length≤1):C1 k l=l:=by
 match l with
 | []=>rfl
 | [x]=>rfl
 | _::_::_=>simp at h
omit hk in
theorem Wa{l m:List Nat}(h1:l.Pairwise (D3 k))(h2:m.Pairwise (D3 k))(h : ∀ x∈l,∀ y∈m,D3 k x y):(l++m).Pairwise (D3 k):=List.pairwise_append.2 ⟨h1,h2,h⟩
theorem U8{l:List Nat}{i:Nat}{y z:Nat}(hs:l.Pairwise (D3 k))(hi:l[i]? = some y)(h:D3 k y z) : ∀ x∈l.take (i+1),D3 k x z:=by
 intro x hx
 obtain ⟨j,hj,rfl⟩:=List.mem_iff_getElem.1 hx
 obtain ⟨hi',rfl⟩:=List.getElem?_eq_some_iff.1 hi
 rw[List.length_take]at hj
 rw[List.getElem_take]
 by_cases e:j=i
 · subst e;exact h
 · exact Pu hk (List.pairwise_iff_getElem.1 hs j i (by omega) hi' (by omega)) h
theorem Vy{l:List Nat}{i:Nat}{y z:Nat}(hs:l.Pairwise (D3 k))(hi:l[i]? = some y)(h:D3 k z y) : ∀ x∈l.drop i,D3 k z x:=by
 intro x hx
 obtain ⟨j,hj,rfl⟩:=List.mem_iff_getElem.1 hx
 obtain ⟨hi',rfl⟩:=List.getElem?_eq_some_iff.1 hi
 rw[List.length_drop]at hj
 rw[List.getElem_drop]
 by_cases e:j=0
 · subst e;exact h
 · exact Pu hk h (List.pairwise_iff_getElem.1 hs i (i+j) hi' (by omega) (by omega))
end
def sg(k:Nat→Nat→Int)(bs:Nat):Nat→List Nat→List Nat
 | 0,l=>C1 k l
 | q+1,l=>if l.length<bs then C1 k l else C1 k (l.take bs)++sg k bs q (l.drop bs)
theorem XH{k:Nat→Nat→Int}{bs:Nat}(hb:1≤bs) : ∀ {q q':Nat} {l:List Nat},l.length≤q→l.length≤q'→sg k bs q l=sg k bs q' l
 | 0,0,l,_,_=>rfl
 | 0,q'+1,l,h,_=>by rw[sg,sg,if_pos (by omega)]
 | q+1,0,l,_,h=>by rw[sg,sg,if_pos (by omega)]
 | q+1,q'+1,l,h,h'=>by
  rw[sg,sg]
  split
  · rfl
  · rw[XH hb (q:=q) (q':=q') (by rw[List.length_drop];omega) (by rw[List.length_drop];omega)]
def SG(k:Nat→Nat→Int)(bs:Nat)(l:List Nat):List Nat:=sg k bs l.length l
theorem Vu{k:Nat→Nat→Int}{bs:Nat}(hb:1≤bs)(l:List Nat):SG k bs l=if l.length<bs then C1 k l else C1 k (l.take bs)++SG k bs (l.drop bs):=by
 unfold SG
 rw[XH hb (q:=l.length) (q':=l.length+1) (by omega) (by omega),sg]
 split
 · rfl
 · rw[XH hb (q:=l.length) (q':=(l.drop bs).length) (by rw[List.length_drop];omega) (by omega)]
theorem Sc{k:Nat→Nat→Int}{bs:Nat}(hb:1≤bs){l:List Nat}(h:l.length≤bs):SG k bs l=C1 k l:=by
 rw[Vu hb]
 split
 · rfl
 · have h1:l.take bs=l:=List.take_of_length_le h
   have h2:l.drop bs = []:=List.drop_of_length_le h
   rw[h1,h2,Vu hb,if_pos (by simp;omega)]
   simp[C1]
theorem Afu{k:Nat→Nat→Int}{bs:Nat}(hb:1≤bs) : ∀ (q:Nat) (l:List Nat),l.length≤q→(SG k bs l).length=l.length
 | 0,l,h=>by rw[Vu hb,if_pos (by omega),Dj]
 | q+1,l,h=>by
  rw[Vu hb]
  split
  · rw[Dj]
  · rw[List.length_append,Dj,Afu hb q _ (by rw[List.length_drop];omega),List.length_take,List.length_drop];omega
def dP(i:Nat):D:= .int (i:Int)
theorem Af8(i:Nat):(dP i).toInt=(i:Int):=rfl
theorem DQ{A:List Nat}{x:Nat}{B:List Nat}{i:Nat}(h:i=A.length):((A++x::B).map dP).getD i D.nil=dP x:=by
 subst h;simp[List.getD_eq_getElem?_getD]
theorem IE{A M:List Nat}{x y:Nat}{B:List Nat}{i:Nat}(h:i=A.length+1+M.length):((A++x::(M++y::B)).map dP).getD i D.nil=dP y:=by
 rw[show A++x::(M++y::B)=(A++x::M)++y::B by simp]
 exact DQ (by simp;omega)
theorem XG{A:List Nat}{x y:Nat}{B:List Nat}{i:Nat}(h:i=A.length):((A++x::B).map dP).set i (dP y)=(A++y::B).map dP:=by
 subst h;simp
theorem Ac9{A M:List Nat}{x y z:Nat}{B:List Nat}{i:Nat}(h:i=A.length+1+M.length):((A++x::(M++y::B)).map dP).set i (dP z)=(A++x::(M++z::B)).map dP:=by
 rw[show A++x::(M++y::B)=(A++x::M)++y::B by simp,XG (by simp;omega)]
 simp
theorem Aei{A M:List Nat}{x y:Nat}{B:List Nat}{i j:Nat}(hi:i=A.length)(hj:j=A.length+1+M.length):(((A++x::(M++y::B)).map dP).set i (dP y)).set j (dP x)=(A++y::(M++x::B)).map dP:=by
 rw[XG hi,Ac9 hj]
theorem ZL{A M:List Nat}{x y:Nat}{B:List Nat}{i j:Nat}(hi:i=A.length)(hj:j=A.length+1+M.length):(((A++x::(M++y::B)).map dP).set j (dP x)).set i (dP y)=(A++y::(M++x::B)).map dP:=by
 rw[Ac9 hj,XG hi]
theorem IV{i j:Nat}(h:i+j≤1000000):IntKind.wrap .i64 (Int.fdiv (IntKind.wrap .u64 (IntKind.wrap .i64 ((i:Int)+(j:Int)))) (2 ^ (min (Int.toNat 1) (IntKind.bits .u64))))=(((i+j) / 2:Nat):Int):=by
 rw[Ap (x:=(i:Int)+(j:Int)) (by omega) (by omega),A_ (by omega) (by omega),show (2:Int) ^ (min (Int.toNat 1) (IntKind.bits .u64))=2 by decide,Int.fdiv_eq_ediv_of_nonneg _ (by decide),Ap (by omega) (by omega)]
 omega
def kk(d:Nat)(cs:List Cell)(dn:Bool)(i j:Nat):Int:=if dn then Wt d (cs.getD j (B5 0)) (cs.getD i (B5 0)) else Wt d (cs.getD i (B5 0)) (cs.getD j (B5 0))
theorem AaX{d:Nat}{cs:List Cell}(h : ∀ c∈cs,B7 d c=true)(i:Nat):B7 d (cs.getD i (B5 0))=true:=by
 rw[List.getD_eq_getElem?_getD]
 cases hg:cs[i]? with
 | none=>exact Q_ d AeD
 | some c=>exact h c (List.mem_of_getElem? hg)
theorem GI{d:Nat}{cs:List Cell}{dn:Bool}(h : ∀ c∈cs,B7 d c=true):Aep (kk d cs dn):=by
 have r:=(Ac4 d).1
 have o:=AaX h
 cases dn with
 | false=>exact ⟨fun x y _ _=>r.val _ _ (o x) (o y),fun x y _ _=>r.flip _ _ (o x) (o y),fun x y z _ _ _=>r.go _ _ _ (o x) (o y) (o z)⟩
 | true=>exact ⟨fun x y _ _=>r.val _ _ (o y) (o x),fun x y _ _=>r.flip _ _ (o y) (o x),fun x y z _ _ _ h1 h2=>r.go _ _ _ (o z) (o y) (o x) h2 h1⟩
abbrev Ns(dn:Bool)(a:Arr):D:=D.fn 156 [.ref 4,.ref 26] [.ref (.bool dn),.ref (dA a)]
section
variable {d:Nat} {a:Arr} {dn:Bool} (ha : ∀ c∈a.cells,B7 d c=true)
include ha
theorem IT{i j:Nat}(hi:i<a.cells.length)(hj:j<a.cells.length):Ia Tryz.prog md 156 [.ref 4,.ref 26] [dP i,dP j,.ref (.bool dn),.ref (dA a)] [.int (kk d a.cells dn i j)]:=by
 have cell : ∀ i,i<a.cells.length→(a.cells.map dC).getD i D.nil=dC (a.cells.getD i (B5 0)):=fun i hi=>by
   rw[Aj (List.getElem?_eq_getElem hi),List.getD_eq_getElem?_getD,List.getElem?_eq_getElem hi];rfl
 have o:=AaX ha
 refine Ag 0 (EL _ _ _ _ _) ?_
 simp only[Yq,Al,AgQ,Ez,Af8,Int.toNat_natCast,List.length_map,cell i hi,cell j hj]
 refine Df (fun h=> ?_) (fun h=> ?_)
 · refine Ae (Ae (Ae (Ae (Aa ((AY d).1 _ _ (o j) (o i)) (Ac ?_)))))
   simp only[Af,Ah,kk,if_pos h]
 · refine Ae (Ae (Ae (Ae (Aa ((AY d).1 _ _ (o i) (o j)) (Ac ?_)))))
   simp only[Af,Ah,kk,h]
   rfl
theorem EP(A X B:List Nat)(hX:X.Pairwise (· < ·))(hin : ∀ x∈X,x<a.cells.length)(hlen:A.length+X.length+B.length≤100000):Sp 250 [.sl ((A++X++B).map dP),.int (A.length:Int),.int ((A.length+X.length:Nat):Int),Ns dn a] [.sl ((A++C1 (kk d a.cells dn) X++B).map dP)]:=by
 have hk:=GI (dn:=dn) ha
 generalize hkk:kk d a.cells dn=k at *
 refine Ag 200000 (Hv _ _ _ _ _ _) ?_
 simp only[Ez,Ah]
 have outer : ∀ (m t:Nat),t≤X.length→1≤t∨X.length=0→X.length-t<m→Tw (Cn 200000 m ((A++C1 k (X.take t)++X.drop t++B).map dP) (A.length:Int) ((A.length+X.length:Nat):Int) (Ns dn a) ((A.length+t:Nat):Int)) [.sl ((A++C1 k X++B).map dP)]:=by
   intro m
   induction m with
   | zero=>intro t _ _ h;omega
   | succ m ih =>
    intro t ht h1 hm
    simp only[Ec]
    by_cases he:t<X.length
    · refine Ae ?_
      have hd:X.drop t=X[t]::X.drop (t+1):=List.drop_eq_getElem_cons he
      have hy:X[t]∈X:=List.getElem_mem he
      have hyl:=hin _ hy
      have htk:X.take (t+1)=X.take t++[X[t]]:=by rw[List.take_add_one,List.getElem?_eq_getElem he];rfl
      have hlt : ∀ z∈X.take t,z<X[t]:=fun z hz=>by
       obtain ⟨j,hj,rfl⟩:=List.mem_iff_getElem.1 hz
       rw[List.length_take]at hj
       rw[List.getElem_take]
       exact List.pairwise_iff_getElem.1 hX j t (by omega) he (by omega)
      have hZs:=Gz hk (X.take t)
      have hZm : ∀ z∈C1 k (X.take t),z<X[t]∧z<a.cells.length:=fun z hz=>⟨hlt z (H9.1 hz),hin z (List.mem_of_mem_take (H9.1 hz))⟩
      have hZl:(C1 k (X.take t)).length=t:=by rw[Dj,List.length_take];omega
      have hZp:=Jr k (X.take t)
      have nxt : ∀ Z,Z.Perm (X.take (t+1))→Z.Pairwise (D3 k)→Tw (Cn 200000 m ((A++Z++X.drop (t+1)++B).map dP) (A.length:Int) ((A.length+X.length:Nat):Int) (Ns dn a) ((A.length+(t+1):Nat):Int)) [.sl ((A++C1 k X++B).map dP)]:=fun Z h1 h2=>by
       rw[← Rh hk h1 h2]
       exact ih (t+1) (by omega) (by omega) (by omega)
      rw[hd]
      generalize X[t]=y at *
      generalize C1 k (X.take t)=Z at *
      have hw:IntKind.wrap .i64 (((A.length+t:Nat):Int)+1)=((A.length+(t+1):Nat):Int):=by rw[Ap (by omega) (by omega)];omega
      have inner:=G0 (P:=Tryz.prog) (md:=md) (fun q j (_:Unit)=>Dw 200000 m q ((A++Z.take j++y::(Z.drop j++X.drop (t+1)++B)).map dP) (A.length:Int) ((A.length+X.length:Nat):Int) (Ns dn a) ((A.length+t:Nat):Int) ((A.length+j:Nat):Int)) (fun _ _=>[.sl ((A++C1 k X++B).map dP)]) (fun j _=>j≤t∧∀ z∈Z.drop j,¬ D3 k z y)
       (fun q s hI=>by
        simp only[Ed,hw]
        refine Am (by omega) ?_
        have:=nxt (y::Z) (by rw[htk];exact (hZp.cons y).trans (List.perm_append_singleton y _).symm) (List.pairwise_cons.2 ⟨fun z hz=>So hk (hI.2 z (by simpa using hz)),hZs⟩)
        simpa using this)
       (fun q j s hI ih'=>by
        obtain ⟨hj,hd2⟩:=hI
        have hjl:j<Z.length:=by omega
        have hz:Z[j]∈Z:=List.getElem_mem hjl
        have e1:Z.take (j+1)=Z.take j++[Z[j]]:=by rw[List.take_add_one,List.getElem?_eq_getElem hjl];rfl
        have e2:Z.drop j=Z[j]::Z.drop (j+1):=List.drop_eq_getElem_cons hjl
        have hzl:=hZm _ hz
        have hsl:=U8 hk (z:=y) hZs (List.getElem?_eq_getElem hjl)
        rw[e1]
        rw[e2]at ih'
        generalize Z[j]=z at *
        have tl:(Z.take j).length=j:=by rw[List.length_take];omega
        have hdl:(Z.drop (j+1)).length=t-(j+1):=by rw[List.length_drop];omega
        have ed:A++(Z.take j++[z])++y::(Z.drop (j+1)++X.drop (t+1)++B)=(A++Z.take j)++z::([]++y::(Z.drop (j+1)++X.drop (t+1)++B)):=by simp
        have w1:IntKind.wrap .i64 (((A.length+(j+1):Nat):Int)-1)=((A.length+j:Nat):Int):=by rw[Ap (by omega) (by omega)];omega
        have al:(A++Z.take j).length=A.length+j:=by rw[List.length_append,tl]
        have bl:A.length+(t+1)≤A.length+X.length:=by omega
        have dl:(X.drop (t+1)).length=X.length-(t+1):=by rw[List.length_drop]
        rw[ed]
        simp only[Ed,w1,hw,Int.toNat_natCast,H2,Gm,H1,List.cons_append,DQ (show A.length+j=(A++Z.take j).length from al.symm),IE (M:=[]) (show A.length+(j+1)=(A++Z.take j).length+1+([]:List Nat).length by rw[al];simp;omega),List.length_map,List.length_set]
        have hll:(A++Z.take j++z::([]++y::(Z.drop (j+1)++X.drop (t+1)++B))).length=A.length+X.length+B.length:=by simp only[List.length_append,List.length_cons,List.length_nil,tl,hdl,dl];omega
        simp only[List.cons_append,List.nil_append]at hll
        simp only[List.nil_append,hll]
        refine Ae (Ae (Ae (Ae (Ae (Aa (IT (dn:=dn) ha hyl hzl.2) ?_)))))
        simp only[Af,Ah,hkk]
        refine Ad (fun h=> ?_) (fun h=> ?_)
        · have hn:=(Un hk hzl.1).1 h
          refine Ae (Ae (Ae (Ae (Ae (Ae (Ae (Ae ?_)))))))
          have sw:=ZL (A:=A++Z.take j) (M:=[]) (x:=z) (y:=y) (B:=Z.drop (j+1)++X.drop (t+1)++B) (i:=A.length+j) (j:=A.length+(j+1)) al.symm (by rw[al];simp;omega)
          simp only[List.nil_append]at sw
          have sw2:(((A++Z.take j++z::y::(Z.drop (j+1)++X.drop (t+1)++B)).map dP).set (A.length+(j+1)) (D.int (dP z).toInt)).set (A.length+j) (D.int (dP y).toInt)=_:=sw
          rw[sw2]
          have:=ih' () ⟨by omega,fun x hx=>by
           rcases List.mem_cons.1 hx with rfl | hx
           · exact hn
           · exact hd2 x hx⟩
          simpa using this
        · have hp:D3 k z y:=Classical.not_not.1 (fun hh=>h ((Un hk hzl.1).2 hh))
          have:=nxt (Z.take (j+1)++y::Z.drop (j+1)) (by
            rw[htk]
            refine List.Perm.trans ?_ (hZp.append_right [y])
            refine List.Perm.trans List.perm_middle ?_
            rw[List.take_append_drop]
            exact (List.perm_append_singleton y _).symm) (Wa (hZs.sublist (List.take_sublist _ _)) (List.pairwise_cons.2 ⟨fun x hx=>So hk (hd2 x hx),hZs.sublist (List.drop_sublist _ _)⟩) (fun x hx w hw=>by
            have h1:=hsl hp x hx
            rcases List.mem_cons.1 hw with rfl | hw
            · exact h1
            · exact Pu hk h1 (So hk (hd2 w hw))))
          rw[e1]at this
          simpa using this)
       200000 t () (by omega) ⟨Nat.le_refl _,fun z hz=>by rw[List.drop_of_length_le (by omega)]at hz;cases hz⟩
      rw[List.take_of_length_le (by omega),List.drop_of_length_le (by omega)]at inner
      simpa using inner
    · refine Am (by omega) (Ac ?_)
      rw[List.take_of_length_le (by omega),List.drop_of_length_le (by omega)]
      simp
 by_cases h0:X.length=0
 · have hX0:=List.length_eq_zero_iff.1 h0
   subst hX0
   rw[Ap (by omega) (by simp at hlen;omega)]
   simp only[Ec]
   exact Am (by simp only[List.length_nil];omega) (Ac (by simp[C1]))
 · have:=outer 200000 1 (by omega) (by omega) (by omega)
   rw[Ajy (by rw[List.length_take];omega)]at this
   rw[show A++X.take 1++X.drop 1++B=A++X++B by rw[List.append_assoc A,List.take_append_drop]]at this
   rw[show IntKind.wrap .i64 ((A.length:Int)+1)=((A.length+1:Nat):Int) by rw[Ap (by omega) (by omega)];rfl]
   exact this
omit ha in
theorem Xt(A U M V B:List Nat)(n:Nat)(hu:U.length=n)(hv:V.length=n)(hlen:A.length+n+M.length+n+B.length≤100000):Sp 322 [.sl ((A++U++M++V++B).map dP),.int (A.length:Int),.int ((A.length+n+M.length:Nat):Int),.int (n:Int),Ns dn a] [.sl ((A++V++M++U++B).map dP)]:=by
 refine Ag 200000 (I3 _ _ _ _ _ _ _) ?_
 simp only[Ez,Ah]
 have key:=C4 (P:=Tryz.prog) (md:=md) n (fun m i (_:Unit)=>Eo 200000 m ((A++(V.take i++U.drop i)++M++(U.take i++V.drop i)++B).map dP) (A.length:Int) ((A.length+n+M.length:Nat):Int) (n:Int) (i:Int)) (fun _ _=>[.sl ((A++V++M++U++B).map dP)]) (fun _ _=>True)
  (fun m s _=>by
   simp only[He]
   refine Am (by omega) (Ac ?_)
   rw[List.take_of_length_le (by omega),List.take_of_length_le (by omega),List.drop_of_length_le (by omega),List.drop_of_length_le (by omega)]
   simp)
  (fun m i s hi _ ih=>by
   have ih:=ih () trivial
   have e1:U.take (i+1)=U.take i++[U[i]'(by omega)]:=by rw[List.take_add_one,List.getElem?_eq_getElem (by omega)];rfl
   have e2:V.take (i+1)=V.take i++[V[i]'(by omega)]:=by rw[List.take_add_one,List.getElem?_eq_getElem (by omega)];rfl
   have e3:U.drop i=U[i]'(by omega)::U.drop (i+1):=List.drop_eq_getElem_cons (by omega)
   have e4:V.drop i=V[i]'(by omega)::V.drop (i+1):=List.drop_eq_getElem_cons (by omega)
   rw[e1,e2]at ih
   rw[e3,e4]
   generalize U[i]'(by omega)=u at *
   generalize V[i]'(by omega)=v at *
   have t1:(V.take i).length=i:=by rw[List.length_take];omega
   have t2:(U.take i).length=i:=by rw[List.length_take];omega
   have t3:(U.drop (i+1)).length=n-(i+1):=by rw[List.length_drop];omega
   have t4:(V.drop (i+1)).length=n-(i+1):=by rw[List.length_drop];omega
   have al:(A++V.take i).length=A.length+i:=by rw[List.length_append,t1]
   have ml:(U.drop (i+1)++M++U.take i).length=n-1+M.length:=by simp only[List.length_append,t3,t2];omega
   have ed:A++(V.take i++u::U.drop (i+1))++M++(U.take i++v::V.drop (i+1))++B=(A++V.take i)++u::((U.drop (i+1)++M++U.take i)++v::(V.drop (i+1)++B)):=by simp
   have hll:((A++V.take i)++u::((U.drop (i+1)++M++U.take i)++v::(V.drop (i+1)++B))).length=A.length+n+M.length+n+B.length:=by rw[List.length_append,al,List.length_cons,List.length_append,ml,List.length_cons,List.length_append,t4];omega
   have w1:IntKind.wrap .i64 (((A.length+n+M.length:Nat):Int)+(i:Int))=((A.length+n+M.length+i:Nat):Int):=by rw[Ap (by omega) (by omega)];omega
   have w2:IntKind.wrap .i64 ((A.length:Int)+(i:Int))=((A.length+i:Nat):Int):=by rw[Ap (by omega) (by omega)];omega
   rw[ed]
   have sw:=Aei (A:=A++V.take i) (M:=U.drop (i+1)++M++U.take i) (x:=u) (y:=v) (B:=V.drop (i+1)++B) (i:=A.length+i) (j:=A.length+n+M.length+i) al.symm (by rw[al,ml];omega)
   simp only[He,w1,w2,Int.toNat_natCast,DQ (show A.length+i=(A++V.take i).length from al.symm),IE (show A.length+n+M.length+i=(A++V.take i).length+1+(U.drop (i+1)++M++U.take i).length by rw[al,ml];omega),List.length_map,List.length_set,hll,An (show i<9223372036854775807 by omega)]
   have sw2:((((A++V.take i)++u::((U.drop (i+1)++M++U.take i)++v::(V.drop (i+1)++B))).map dP).set (A.length+i) (D.int (dP v).toInt)).set (A.length+n+M.length+i) (D.int (dP u).toInt)=_:=sw
   rw[sw2]
   refine Ae (Ae (Ae (Ae (Ae (Ae (Ae (Ae (Ae ?_))))))))
   simpa using ih)
  200000 0 () (by omega) (by omega) trivial
 simpa using key
omit ha in
theorem Ago(A X Y B:List Nat)(hx:1≤X.length)(hy:1≤Y.length)(hlen:A.length+X.length+Y.length+B.length≤100000):Sp 300 [.sl ((A++X++Y++B).map dP),.int (A.length:Int),.int ((A.length+X.length:Nat):Int),.int ((A.length+X.length+Y.length:Nat):Int),Ns dn a] [.sl ((A++Y++X++B).map dP)]:=by
 refine Ag 200000 (Jv _ _ _ _ _ _ _) ?_
 simp only[Ez,Ah]
 have key : ∀ (m:Nat) (mm:Nat) (A U V B:List Nat),U.length+V.length<m→1≤U.length→1≤V.length→A.length+U.length=mm→A.length+U.length+V.length+B.length≤100000→Tw (D9 200000 m ((A++U++V++B).map dP) (mm:Int) (Ns dn a) (U.length:Int) (V.length:Int)) [.sl ((A++V++U++B).map dP)]:=by
  intro m
  induction m with
  | zero=>intro mm A U V B h;omega
  | succ m ih =>
   intro mm A U V B hm h1 h2 hmm hl
   simp only[Iz,Cz]
   have w1:IntKind.wrap .i64 ((mm:Int)-(U.length:Int))=(A.length:Int):=by rw[Ap (by omega) (by omega)];omega
   rw[w1]
   refine Ad (fun hne=>Ad (fun hlt=> ?_) (fun hlt=> ?_)) (fun he=> ?_)
   ·
     have hsp:=Xt (dn:=dn) (a:=a) A (U.take V.length) (U.drop V.length) V B V.length (by rw[List.length_take];omega) rfl (by rw[List.length_drop];omega)
     rw[show A++U.take V.length++U.drop V.length++V++B=A++U++V++B by rw[List.append_assoc A,List.take_append_drop]]at hsp
     rw[show A.length+V.length+(U.drop V.length).length=mm by rw[List.length_drop];omega]at hsp
     refine Aa hsp ?_
     have:=ih mm (A++V) (U.drop V.length) (U.take V.length) B (by rw[List.length_drop,List.length_take];omega) (by rw[List.length_drop];omega) (by rw[List.length_take];omega) (by rw[List.length_append,List.length_drop];omega) (by rw[List.length_append,List.length_drop,List.length_take];omega)
     rw[show (A++V)++U.take V.length++U.drop V.length++B=A++V++U++B by rw[List.append_assoc (A++V),List.take_append_drop]]at this
     rw[show (U.drop V.length).length=U.length-V.length by rw[List.length_drop],show (U.take V.length).length=V.length by rw[List.length_take];omega]at this
     rw[show IntKind.wrap .i64 ((U.length:Int)-(V.length:Int))=((U.length-V.length:Nat):Int) by rw[Ap (by omega) (by omega)];omega]
     exact this
   · have hq:U.length<V.length:=by omega
     have hsp:=Xt (dn:=dn) (a:=a) A U (V.take (V.length-U.length)) (V.drop (V.length-U.length)) B U.length rfl (by rw[List.length_drop];omega) (by rw[List.length_take];omega)
     rw[show A++U++V.take (V.length-U.length)++V.drop (V.length-U.length)++B=A++U++V++B by rw[List.append_assoc (A++U),List.take_append_drop]]at hsp
     rw[show A.length+U.length+(V.take (V.length-U.length)).length=mm+V.length-U.length by rw[List.length_take];omega]at hsp
     rw[show IntKind.wrap .i64 ((IntKind.wrap .i64 ((mm:Int)+(V.length:Int)))-(U.length:Int))=((mm+V.length-U.length:Nat):Int) by rw[Ap (x:=(mm:Int)+(V.length:Int)) (by omega) (by omega),Ap (by omega) (by omega)];omega]
     refine Aa hsp ?_
     have:=ih mm A (V.drop (V.length-U.length)) (V.take (V.length-U.length)) (U++B) (by rw[List.length_drop,List.length_take];omega) (by rw[List.length_drop];omega) (by rw[List.length_take];omega) (by rw[List.length_drop];omega) (by rw[List.length_append,List.length_drop,List.length_take];omega)
     rw[show A++V.take (V.length-U.length)++V.drop (V.length-U.length)++(U++B)=A++V++U++B by rw[List.append_assoc A,List.take_append_drop];simp]at this
     rw[show A++V.drop (V.length-U.length)++V.take (V.length-U.length)++(U++B)=A++V.drop (V.length-U.length)++V.take (V.length-U.length)++U++B by simp]at this
     rw[show (V.drop (V.length-U.length)).length=U.length by rw[List.length_drop];omega,show (V.take (V.length-U.length)).length=V.length-U.length by rw[List.length_take];omega]at this
     rw[show IntKind.wrap .i64 ((V.length:Int)-(U.length:Int))=((V.length-U.length:Nat):Int) by rw[Ap (by omega) (by omega)];omega]
     exact this
   · have he:U.length=V.length:=by omega
     have hsp:=Xt (dn:=dn) (a:=a) A U [] V B U.length rfl he.symm (by simp;omega)
     simp only[List.append_nil,List.length_nil,Nat.add_zero,hmm]at hsp
     exact Aa hsp (Ac rfl)
 rw[show IntKind.wrap .i64 (((A.length+X.length:Nat):Int)-(A.length:Int))=(X.length:Int) by rw[Ap (by omega) (by omega)];omega,show IntKind.wrap .i64 (((A.length+X.length+Y.length:Nat):Int)-((A.length+X.length:Nat):Int))=(Y.length:Int) by rw[Ap (by omega) (by omega)];omega]
 exact key 200000 _ A X Y B (by omega) hx hy rfl hlen
end
theorem AdP{p:Prop}{i:Decidable p}(h:(!(@decide p i))=true) : ¬ p:=by
 cases h' : @decide p i
 · exact of_decide_eq_false h'
 · rw[h']at h;cases h
theorem AdO{p:Prop}{i:Decidable p}(h:(!(@decide p i))=false):p:=by
 cases h' : @decide p i
 · rw[h']at h;cases h
 · exact of_decide_eq_true h'
theorem Zk{A Y B:List Nat}{t i:Nat}{y:Nat}(h:Y[t]? = some y)(hi:i=A.length+t):((A++Y++B).map dP).getD i D.nil=dP y:=by
 obtain ⟨ht,rfl⟩:=List.getElem?_eq_some_iff.1 h
 subst hi
 rw[List.getD_eq_getElem?_getD,List.getElem?_map,List.append_assoc,List.getElem?_append_right (by omega),Nat.add_sub_cancel_left,List.getElem?_append_left ht,List.getElem?_eq_getElem ht]
 rfl
theorem SN{l:List Nat}{t:Nat}(h:t<l.length):l.take (t+1)=l.take t++[l[t]]:=by rw[List.take_add_one,List.getElem?_eq_getElem h];rfl
section
variable {d:Nat} {a:Arr} {dn:Bool} (ha : ∀ c∈a.cells,B7 d c=true)
include ha
theorem AhT(A:List Nat)(x:Nat)(Y B:List Nat)(hY:Y.Pairwise (D3 (kk d a.cells dn)))(hlt : ∀ y∈Y,x<y)(hx:x<a.cells.length)(hin : ∀ y∈Y,y<a.cells.length)(hlen:A.length+1+Y.length+B.length≤100000) :
  ∀ m u v,v-u<m→u≤v→v≤Y.length→(∀ y∈Y.take u,D3 (kk d a.cells dn) y x)→(∀ y∈Y.drop v,D3 (kk d a.cells dn) x y)→Tw (Dt 200000 m ((A++[x]++Y++B).map dP) (A.length:Int) (Ns dn a) ((A.length+1+u:Nat):Int) ((A.length+1+v:Nat):Int)) [.sl ((A++C1 (kk d a.cells dn) ([x]++Y)++B).map dP)]:=by
 have hk:=GI (dn:=dn) ha
 intro m
 induction m with
 | zero=>intro u v h;omega
 | succ m ih =>
  intro u v hm huv hv h1 h2
  have hll:(A++[x]++Y++B).length=A.length+1+Y.length+B.length:=by simp only[List.length_append,List.length_cons,List.length_nil]
  simp only[In]
  rw[IV (by omega)]
  by_cases he:u<v
  · have hh:(A.length+1+u+(A.length+1+v)) / 2=A.length+1+(u+v) / 2:=by omega
    rw[hh]
    obtain ⟨h,hdef⟩ : ∃ h,h=(u+v) / 2:=⟨_,rfl⟩
    rw[← hdef]
    have b1:u≤h:=by omega
    have b2:h<v:=by omega
    have hy:Y[h]? = some (Y[h]'(by omega)):=List.getElem?_eq_getElem (by omega)
    have hmem:Y[h]'(by omega)∈Y:=List.getElem_mem _
    generalize Y[h]'(by omega)=y at *
    have gy:((A++[x]++Y++B).map dP).getD (A.length+1+h) D.nil=dP y:=Zk (A:=A++[x]) hy (by simp)
    have gx:((A++[x]++Y++B).map dP).getD A.length D.nil=dP x:=by
      have:=Zk (A:=A) (Y:=[x]) (B:=Y++B) (t:=0) (i:=A.length) (y:=x) rfl rfl
      rw[List.append_assoc (A++[x])]
      exact this
    simp only[Int.toNat_natCast,gy,gx,H2,Gm,H1,List.cons_append,List.nil_append,List.length_map]
    simp only[List.cons_append,List.nil_append,List.append_assoc]at hll
    simp only[List.cons_append,List.nil_append,List.append_assoc,hll]
    refine Ae (Ae (Ae (Ae (Ae (Ae (Aa (IT (dn:=dn) ha (hin y hmem) hx) ?_))))))
    simp only[Af,Ah]
    have w:IntKind.wrap .i64 (((A.length+1+h:Nat):Int)+1)=((A.length+1+(h+1):Nat):Int):=by rw[Ap (by omega) (by omega)];omega
    rw[w]
    have e1:=ih (h+1) v (by omega) (by omega) hv
    have e2:=ih u h (by omega) b1 (by omega) h1
    simp only[List.cons_append,List.nil_append,List.append_assoc]at e1 e2
    refine Ad (fun g=> ?_) (fun g=> ?_)
    · have:=So hk ((Un hk (hlt y hmem)).1 g)
      exact e1 (U8 hk hY hy this) h2
    · have:D3 (kk d a.cells dn) x y:=Classical.not_not.1 (fun hh=>g ((Un hk (hlt y hmem)).2 hh))
      exact e2 (Vy hk hY hy this)
  · have:u=v:=by omega
    subst this
    refine Am (by omega) ?_
    have hs:C1 (kk d a.cells dn) ([x]++Y)=Y.take u++x::Y.drop u:=Rh hk (by
       refine List.Perm.trans List.perm_middle ?_
       rw[List.take_append_drop];exact List.Perm.refl _) (Wa (hY.sublist (List.take_sublist _ _)) (List.pairwise_cons.2 ⟨h2,hY.sublist (List.drop_sublist _ _)⟩) (fun y hy z hz=>by
       rcases List.mem_cons.1 hz with rfl | hz
       · exact h1 y hy
       · exact Pu hk (h1 y hy) (h2 z hz)))
    rw[hs]
    have key:=C4 (P:=Tryz.prog) (md:=md) u (fun q i (_:Unit)=>Ev 200000 q ((A++Y.take i++x::(Y.drop i++B)).map dP) ((A.length+1+u:Nat):Int) ((A.length+i:Nat):Int)) (fun _ _=>[.sl ((A++(Y.take u++x::Y.drop u)++B).map dP)]) (fun _ _=>True)
      (fun q s _=>by
       have w:IntKind.wrap .i64 (((A.length+1+u:Nat):Int)-1)=((A.length+u:Nat):Int):=by rw[Ap (by omega) (by omega)];omega
       simp only[Hp,w]
       refine Am (by omega) (Ac ?_)
       simp)
      (fun q i s hi _ ih'=>by
       have ih':=ih' () trivial
       have hil:i<Y.length:=by omega
       rw[SN hil]at ih'
       have e4:Y.drop i=Y[i]::Y.drop (i+1):=List.drop_eq_getElem_cons hil
       rw[e4]
       generalize Y[i]=y at *
       have t1:(Y.take i).length=i:=by rw[List.length_take];omega
       have t4:(Y.drop (i+1)).length=Y.length-(i+1):=by rw[List.length_drop]
       have al:(A++Y.take i).length=A.length+i:=by rw[List.length_append,t1]
       have w:IntKind.wrap .i64 (((A.length+1+u:Nat):Int)-1)=((A.length+u:Nat):Int):=by rw[Ap (by omega) (by omega)];omega
       have w2:IntKind.wrap .i64 (((A.length+i:Nat):Int)+1)=((A.length+i+1:Nat):Int):=by rw[Ap (by omega) (by omega)];omega
       have hll2:(A++Y.take i++x::(y::Y.drop (i+1)++B)).length=A.length+1+Y.length+B.length:=by rw[List.length_append,al,List.length_cons,List.length_append,List.length_cons,t4];omega
       have sw:=Aei (A:=A++Y.take i) (M:=[]) (x:=x) (y:=y) (B:=Y.drop (i+1)++B) (i:=A.length+i) (j:=A.length+i+1) al.symm (by rw[al];rfl)
       have g1:=DQ (A:=A++Y.take i) (x:=x) (B:=y::Y.drop (i+1)++B) (i:=A.length+i) al.symm
       have g2:=IE (A:=A++Y.take i) (M:=[]) (x:=x) (y:=y) (B:=Y.drop (i+1)++B) (i:=A.length+i+1) (by rw[al];rfl)
       simp only[List.nil_append]at sw g2
       simp only[List.cons_append]at hll2 g1
       simp only[List.cons_append]
       simp only[Hp,w,w2,Int.toNat_natCast,g1,g2,List.length_map,List.length_set,hll2]
       have sw2:(((A++Y.take i++x::y::(Y.drop (i+1)++B)).map dP).set (A.length+i) (D.int (dP y).toInt)).set (A.length+i+1) (D.int (dP x).toInt)=_:=sw
       rw[sw2]
       refine Ae (Ae (Ae (Ae (Ae (Ae (Ae (Ae (Ae ?_))))))))
       simpa [Nat.add_assoc]using ih')
      200000 0 () (by omega) (by omega) trivial
    simpa using key
theorem Ag0(A X:List Nat)(y:Nat)(B:List Nat)(hX:X.Pairwise (D3 (kk d a.cells dn)))(hlt : ∀ x∈X,x<y)(hy:y<a.cells.length)(hin : ∀ x∈X,x<a.cells.length)(hlen:A.length+X.length+1+B.length≤100000) :
  ∀ m u v,v-u<m→u≤v→v≤X.length→(∀ x∈X.take u,D3 (kk d a.cells dn) x y)→(∀ x∈X.drop v,D3 (kk d a.cells dn) y x)→Tw (Dq 200000 m ((A++X++[y]++B).map dP) ((A.length+X.length:Nat):Int) (Ns dn a) ((A.length+u:Nat):Int) ((A.length+v:Nat):Int)) [.sl ((A++C1 (kk d a.cells dn) (X++[y])++B).map dP)]:=by
 have hk:=GI (dn:=dn) ha
 intro m
 induction m with
 | zero=>intro u v h;omega
 | succ m ih =>
  intro u v hm huv hv h1 h2
  have hll:(A++X++[y]++B).length=A.length+X.length+1+B.length:=by simp only[List.length_append,List.length_cons,List.length_nil]
  simp only[H6]
  rw[IV (by omega)]
  by_cases he:u<v
  · have hh:(A.length+u+(A.length+v)) / 2=A.length+(u+v) / 2:=by omega
    rw[hh]
    obtain ⟨h,hdef⟩ : ∃ h,h=(u+v) / 2:=⟨_,rfl⟩
    rw[← hdef]
    have b1:u≤h:=by omega
    have b2:h<v:=by omega
    have hx:X[h]? = some (X[h]'(by omega)):=List.getElem?_eq_getElem (by omega)
    have hmem:X[h]'(by omega)∈X:=List.getElem_mem _
    generalize X[h]'(by omega)=x at *
    have gx:((A++X++[y]++B).map dP).getD (A.length+h) D.nil=dP x:=by
      have:=Zk (A:=A) (Y:=X) (B:=[y]++B) (i:=A.length+h) hx rfl
      rw[List.append_assoc (A++X)]
      exact this
    have gy:((A++X++[y]++B).map dP).getD (A.length+X.length) D.nil=dP y:=Zk (A:=A++X) (Y:=[y]) (t:=0) (y:=y) rfl (by simp)
    simp only[Int.toNat_natCast,gy,gx,H2,Gm,H1,List.cons_append,List.nil_append,List.length_map,hll]
    refine Ae (Ae (Ae (Ae (Ae (Ae (Aa (IT (dn:=dn) ha hy (hin x hmem)) ?_))))))
    simp only[Af,Ah,Fo]
    have w:IntKind.wrap .i64 (((A.length+h:Nat):Int)+1)=((A.length+(h+1):Nat):Int):=by rw[Ap (by omega) (by omega)];omega
    rw[w]
    refine Df (fun g=> ?_) (fun g=> ?_)
    · have g : ¬ kk d a.cells dn y x<0:=AdP g
      have:D3 (kk d a.cells dn) x y:=Classical.not_not.1 (fun hh=>g ((Un hk (hlt x hmem)).2 hh))
      exact ih (h+1) v (by omega) (by omega) hv (U8 hk hX hx this) h2
    · have:=So hk ((Un hk (hlt x hmem)).1 (AdO g))
      exact ih u h (by omega) b1 (by omega) h1 (Vy hk hX hx this)
  · have:u=v:=by omega
    subst this
    refine Am (by omega) ?_
    have hs:C1 (kk d a.cells dn) (X++[y])=X.take u++y::X.drop u:=Rh hk (by
       refine List.Perm.trans List.perm_middle ?_
       rw[List.take_append_drop];exact (List.perm_append_singleton y _).symm) (Wa (hX.sublist (List.take_sublist _ _)) (List.pairwise_cons.2 ⟨h2,hX.sublist (List.drop_sublist _ _)⟩) (fun x hx z hz=>by
       rcases List.mem_cons.1 hz with rfl | hz
       · exact h1 x hx
       · exact Pu hk (h1 x hx) (h2 z hz)))
    rw[hs]
    have key:=G0 (P:=Tryz.prog) (md:=md) (fun q j (_:Unit)=>Ep 200000 q ((A++X.take (u+j)++y::(X.drop (u+j)++B)).map dP) ((A.length+u:Nat):Int) ((A.length+(u+j):Nat):Int)) (fun _ _=>[.sl ((A++(X.take u++y::X.drop u)++B).map dP)]) (fun j _=>u+j≤X.length)
      (fun q s _=>by
       simp only[Hf]
       refine Am (by omega) (Ac ?_)
       simp)
      (fun q j s hj ih'=>by
       have ih':=ih' () (by omega)
       have hil:u+j<X.length:=by omega
       have e4:X.drop (u+j)=X[u+j]::X.drop (u+(j+1)):=List.drop_eq_getElem_cons hil
       rw[e4]at ih'
       have e5:X.take (u+(j+1))=X.take (u+j)++[X[u+j]]:=SN hil
       rw[e5]
       generalize X[u+j]=x at *
       have t1:(X.take (u+j)).length=u+j:=by rw[List.length_take];omega
       have t4:(X.drop (u+(j+1))).length=X.length-(u+(j+1)):=by rw[List.length_drop]
       have al:(A++X.take (u+j)).length=A.length+(u+j):=by rw[List.length_append,t1]
       have w2:IntKind.wrap .i64 (((A.length+(u+(j+1)):Nat):Int)-1)=((A.length+(u+j):Nat):Int):=by rw[Ap (by omega) (by omega)];omega
       have ed:A++(X.take (u+j)++[x])++y::(X.drop (u+(j+1))++B)=A++X.take (u+j)++x::y::(X.drop (u+(j+1))++B):=by simp
       have hll2:(A++X.take (u+j)++x::y::(X.drop (u+(j+1))++B)).length=A.length+X.length+1+B.length:=by rw[List.length_append,al,List.length_cons,List.length_cons,List.length_append,t4];omega
       have sw:=ZL (A:=A++X.take (u+j)) (M:=[]) (x:=x) (y:=y) (B:=X.drop (u+(j+1))++B) (i:=A.length+(u+j)) (j:=A.length+(u+(j+1))) al.symm (by rw[al];simp;omega)
       have g1:=DQ (A:=A++X.take (u+j)) (x:=x) (B:=y::(X.drop (u+(j+1))++B)) (i:=A.length+(u+j)) al.symm
       have g2:=IE (A:=A++X.take (u+j)) (M:=[]) (x:=x) (y:=y) (B:=X.drop (u+(j+1))++B) (i:=A.length+(u+(j+1))) (by rw[al];simp;omega)
       simp only[List.nil_append]at sw g2
       rw[ed]
       simp only[Hf,w2,Int.toNat_natCast,g1,g2,List.length_map,List.length_set,hll2]
       have sw2:(((A++X.take (u+j)++x::y::(X.drop (u+(j+1))++B)).map dP).set (A.length+(u+(j+1))) (D.int (dP x).toInt)).set (A.length+(u+j)) (D.int (dP y).toInt)=_:=sw
       rw[sw2]
       refine Ae (Ae (Ae (Ae (Ae (Ae (Ae (Ae (Ae ?_))))))))
       simpa using ih')
      200000 (X.length-u) () (by omega) (by omega)
    rw[show u+(X.length-u)=X.length by omega,List.take_of_length_le (Nat.le_refl _),List.drop_of_length_le (Nat.le_refl _)]at key
    simpa using key
omit ha in
theorem Aiq{k:Nat→Nat→Int}{l:List Nat}{t:Nat}(h:l.Pairwise (D3 k)) : ∀ x∈l.take t,∀ y∈l.drop t,D3 k x y:=by
 rw[← List.take_append_drop t l]at h
 exact (List.pairwise_append.1 h).2.2
theorem LQ : ∀ (N:Nat) (A X Y B:List Nat),X.length+Y.length≤N→1≤X.length→1≤Y.length→A.length+X.length+Y.length+B.length≤100000→(∀ x∈X,x<a.cells.length)→(∀ y∈Y,y<a.cells.length)→X.Pairwise (D3 (kk d a.cells dn))→Y.Pairwise (D3 (kk d a.cells dn))→(∀ x∈X,∀ y∈Y,x<y) →
  Sp 251 [.sl ((A++X++Y++B).map dP),.int (A.length:Int),.int ((A.length+X.length:Nat):Int),.int ((A.length+X.length+Y.length:Nat):Int),Ns dn a] [.sl ((A++C1 (kk d a.cells dn) (X++Y)++B).map dP)]:=by
 have hk:=GI (dn:=dn) ha
 intro N
 induction N with
 | zero=>intro A X Y B h h1;omega
 | succ N IH =>
  intro A X Y B hN hx1 hy1 hlen hXin hYin hX hY hlt
  refine Ag 200000 (Jl _ _ _ _ _ _ _) ?_
  simp only[Ez,Ah]
  have w1:IntKind.wrap .i64 (((A.length+X.length:Nat):Int)-(A.length:Int))=(X.length:Int):=by rw[Ap (by omega) (by omega)];omega
  have w2:IntKind.wrap .i64 (((A.length+X.length+Y.length:Nat):Int)-((A.length+X.length:Nat):Int))=(Y.length:Int):=by rw[Ap (by omega) (by omega)];omega
  rw[w1,w2]
  simp only[Bz]
  refine Ad (fun hX1=> ?_) (fun hX1=> ?_)
  · obtain ⟨x,rfl⟩:=Sq (l:=X) (by omega)
    have:=AhT (dn:=dn) ha A x Y B hY (fun y hy=>hlt x (by simp) y hy) (hXin x (by simp)) hYin (by simpa using hlen) 200000 0 Y.length (by omega) (by omega) (by omega) (by simp) (by simp)
    exact this
  refine Ad (fun hY1=> ?_) (fun hY1=> ?_)
  · obtain ⟨y,rfl⟩:=Sq (l:=Y) (by omega)
    have:=Ag0 (dn:=dn) ha A X y B hX (fun x hx=>hlt x hx y (by simp)) (hYin y (by simp)) hXin (by simpa using hlen) 200000 0 X.length (by omega) (by omega) (by omega) (by simp) (by simp)
    exact this
  have w0:=IV (i:=A.length) (j:=A.length+X.length+Y.length) (by omega)
  obtain ⟨q,hq⟩ : ∃ q,q=(X.length+Y.length) / 2:=⟨_,rfl⟩
  rw[show (A.length+(A.length+X.length+Y.length)) / 2=A.length+q by omega]at w0
  simp only[w0]
  have w3:IntKind.wrap .i64 (((A.length+q:Nat):Int)+((A.length+X.length:Nat):Int))=((A.length+q+(A.length+X.length):Nat):Int):=by rw[Ap (by omega) (by omega)];omega
  have w4:IntKind.wrap .i64 (((A.length+q+(A.length+X.length):Nat):Int)-1)=((A.length+q+(A.length+X.length)-1:Nat):Int):=by rw[Ap (by omega) (by omega)];omega
  simp only[w3,w4]
  have search : ∀ (t0 t1:Nat),t1≤X.length→t1≤q→q≤t0+Y.length→∀ m s r,r-s<m→t0≤s→s≤r→r≤t1→(∀ x∈X.take s,∀ y∈Y.drop (q-s),D3 (kk d a.cells dn) x y)→(∀ y∈Y.take (q-r),∀ x∈X.drop r,D3 (kk d a.cells dn) y x) →
     Tw (C5 200000 m ((A++X++Y++B).map dP) (A.length:Int) ((A.length+X.length:Nat):Int) ((A.length+X.length+Y.length:Nat):Int) (Ns dn a) ((A.length+q:Nat):Int) ((A.length+q+(A.length+X.length):Nat):Int) ((A.length+s:Nat):Int) ((A.length+r:Nat):Int) ((A.length+q+(A.length+X.length)-1:Nat):Int)) [.sl ((A++C1 (kk d a.cells dn) (X++Y)++B).map dP)]:=by
    intro t0 t1 ht1 ht1' ht0 m
    induction m with
    | zero=>intro s r h;omega
    | succ m ih =>
     intro s r hm hs0 hsr hr1 inv1 inv2
     simp only[H8]
     rw[IV (by omega)]
     by_cases he:s<r
     · rw[show (A.length+s+(A.length+r)) / 2=A.length+(s+r) / 2 by omega]
       obtain ⟨h,hdef⟩ : ∃ h,h=(s+r) / 2:=⟨_,rfl⟩
       rw[← hdef]
       have b1:s≤h:=by omega
       have b2:h<r:=by omega
       have hx:X[h]? = some (X[h]'(by omega)):=List.getElem?_eq_getElem (by omega)
       have hxm:X[h]'(by omega)∈X:=List.getElem_mem _
       have hy:Y[q-1-h]? = some (Y[q-1-h]'(by omega)):=List.getElem?_eq_getElem (by omega)
       have hym:Y[q-1-h]'(by omega)∈Y:=List.getElem_mem _
       generalize X[h]'(by omega)=x at *
       generalize Y[q-1-h]'(by omega)=y at *
       have w5:IntKind.wrap .i64 (((A.length+q+(A.length+X.length)-1:Nat):Int)-((A.length+h:Nat):Int))=((A.length+X.length+(q-1-h):Nat):Int):=by rw[Ap (by omega) (by omega)];omega
       have w6:IntKind.wrap .i64 (((A.length+h:Nat):Int)+1)=((A.length+(h+1):Nat):Int):=by rw[Ap (by omega) (by omega)];omega
       have gx:((A++X++Y++B).map dP).getD (A.length+h) D.nil=dP x:=by
         have:=Zk (A:=A) (Y:=X) (B:=Y++B) (i:=A.length+h) hx rfl
         rw[List.append_assoc (A++X)]
         exact this
       have gy:((A++X++Y++B).map dP).getD (A.length+X.length+(q-1-h)) D.nil=dP y:=Zk (A:=A++X) hy (by simp)
       have hll:(A++X++Y++B).length=A.length+X.length+Y.length+B.length:=by simp only[List.length_append]
       simp only[w5,w6,Int.toNat_natCast,gy,gx,H2,Gm,H1,List.cons_append,List.nil_append,List.length_map,hll]
       refine Ae (Ae (Ae (Ae (Ae (Ae (Aa (IT (dn:=dn) ha (hYin y hym) (hXin x hxm)) ?_))))))
       simp only[Af,Ah,Fo]
       refine Df (fun g=> ?_) (fun g=> ?_)
       · have g : ¬ kk d a.cells dn y x<0:=AdP g
         have:D3 (kk d a.cells dn) x y:=Classical.not_not.1 (fun hh=>g ((Un hk (hlt x hxm y hym)).2 hh))
         refine ih (h+1) r (by omega) (by omega) (by omega) hr1 (fun x' hx'=> ?_) inv2
         rw[show q-(h+1)=q-1-h by omega]
         exact Vy hk hY hy (U8 hk hX hx this x' hx')
       · have:=So hk ((Un hk (hlt x hxm y hym)).1 (AdO g))
         refine ih s h (by omega) (by omega) (by omega) (by omega) inv1 (fun y' hy'=> ?_)
         rw[show q-h=q-1-h+1 by omega]at hy'
         exact Vy hk hX hx (U8 hk hY hy this y' hy')
     · have:s=r:=by omega
       subst this
       refine Am (by omega) ?_
       have hXe:X=X.take s++X.drop s:=(List.take_append_drop _ _).symm
       have hYe:Y=Y.take (q-s)++Y.drop (q-s):=(List.take_append_drop _ _).symm
       have l1:(X.take s).length=s:=by rw[List.length_take];omega
       have l2:(X.drop s).length=X.length-s:=by rw[List.length_drop]
       have l3:(Y.take (q-s)).length=q-s:=by rw[List.length_take];omega
       have l4:(Y.drop (q-s)).length=Y.length-(q-s):=by rw[List.length_drop]
       have c1:=Aiq (t:=s) hX
       have c2:=Aiq (t:=q-s) hY
       have m1 : ∀ x∈X.take s,x∈X:=fun x h=>List.mem_of_mem_take h
       have m2 : ∀ x∈X.drop s,x∈X:=fun x h=>List.mem_of_mem_drop h
       have m3 : ∀ x∈Y.take (q-s),x∈Y:=fun x h=>List.mem_of_mem_take h
       have m4 : ∀ x∈Y.drop (q-s),x∈Y:=fun x h=>List.mem_of_mem_drop h
       have p1:=hX.sublist (List.take_sublist s X)
       have p2:=hX.sublist (List.drop_sublist s X)
       have p3:=hY.sublist (List.take_sublist (q-s) Y)
       have p4:=hY.sublist (List.drop_sublist (q-s) Y)
       have hdata:A++X++Y++B=A++X.take s++X.drop s++Y.take (q-s)++(Y.drop (q-s)++B):=by
         have e:A++(X.take s++X.drop s)++(Y.take (q-s)++Y.drop (q-s))++B=A++X.take s++X.drop s++Y.take (q-s)++(Y.drop (q-s)++B):=by simp only[List.append_assoc]
         rw[List.take_append_drop,List.take_append_drop]at e
         exact e
       have hxy:(X++Y).Perm ((X.take s++Y.take (q-s))++(X.drop s++Y.drop (q-s))):=by
         have e:X++Y=X.take s++((X.drop s++Y.take (q-s))++Y.drop (q-s)):=by
           rw[List.append_assoc (X.drop s),List.take_append_drop,← List.append_assoc,List.take_append_drop]
         rw[e,List.append_assoc (X.take s),← List.append_assoc (Y.take (q-s))]
         exact List.Perm.append_left _ (List.Perm.append_right _ List.perm_append_comm)
       generalize X.take s=X1 at *
       generalize X.drop s=X2 at *
       generalize Y.take (q-s)=Y1 at *
       generalize Y.drop (q-s)=Y2 at *
       have hsrt:C1 (kk d a.cells dn) (X++Y)=C1 (kk d a.cells dn) (X1++Y1)++C1 (kk d a.cells dn) (X2++Y2):=by
         refine Rh hk (((Jr _ _).append (Jr _ _)).trans hxy.symm) (Wa (Gz hk _) (Gz hk _) (fun x hx y hy=> ?_))
         rcases List.mem_append.1 (H9.1 hx) with hx | hx <;> rcases List.mem_append.1 (H9.1 hy) with hy | hy
         · exact c1 x hx y hy
         · exact inv1 x hx y hy
         · exact inv2 x hx y hy
         · exact c2 x hx y hy
       have lW:(C1 (kk d a.cells dn) (X1++Y1)).length=q:=by rw[Dj,List.length_append];omega
       have w5:IntKind.wrap .i64 (((A.length+q+(A.length+X.length):Nat):Int)-((A.length+s:Nat):Int))=((A.length+q+X2.length:Nat):Int):=by rw[Ap (by omega) (by omega)];omega
       simp only[w5]
       have hU:Tw (.br (decide (((A.length+q:Nat):Int)<((A.length+q+X2.length:Nat):Int))) (.br (decide (((A.length+q+X2.length:Nat):Int)<((A.length+X.length+Y.length:Nat):Int))) (.call 251 [] [D.sl ((A++C1 (kk d a.cells dn) (X1++Y1)++X2++Y2++B).map dP),.int ((A.length+q:Nat):Int),.int ((A.length+q+X2.length:Nat):Int),.int ((A.length+X.length+Y.length:Nat):Int),Ns dn a] fun yy=> .ret [D.sl ((yy.getD 0 D.nil).els)]) (.ret [D.sl ((A++C1 (kk d a.cells dn) (X1++Y1)++X2++Y2++B).map dP)])) (.ret [D.sl ((A++C1 (kk d a.cells dn) (X1++Y1)++X2++Y2++B).map dP)])) [.sl ((A++C1 (kk d a.cells dn) (X++Y)++B).map dP)]:=by
         rw[hsrt]
         have alone:X2.length=0∨Y2.length=0→C1 (kk d a.cells dn) (X2++Y2)=X2++Y2:=fun h=>by
           rcases h with h | h
           · rw[List.length_eq_zero_iff.1 h]
             exact Rh hk (List.Perm.refl _) (by simpa using p4)
           · rw[List.length_eq_zero_iff.1 h]
             exact Rh hk (List.Perm.refl _) (by simpa using p2)
         refine Ad (fun g1=>Ad (fun g2=> ?_) (fun g2=>Ac ?_)) (fun g1=>Ac ?_)
         · have:=IH (A++C1 (kk d a.cells dn) (X1++Y1)) X2 Y2 B (by omega) (by omega) (by omega) (by rw[List.length_append,lW];omega) (fun x h=>hXin x (m2 x h)) (fun y h=>hYin y (m4 y h)) p2 p4 (fun x h y h'=>hlt x (m2 x h) y (m4 y h'))
           simp only[List.length_append,lW]at this
           rw[show A.length+q+X2.length+Y2.length=A.length+X.length+Y.length by omega]at this
           refine Aa this (Ac ?_)
           simp
         · rw[alone (by omega)];simp
         · rw[alone (by omega)];simp
       have hT:Tw (.br (decide ((A.length:Int)<((A.length+s:Nat):Int))) (.br (decide (((A.length+s:Nat):Int)<((A.length+q:Nat):Int))) (.call 251 [] [D.sl ((A++X1++Y1++X2++Y2++B).map dP),.int (A.length:Int),.int ((A.length+s:Nat):Int),.int ((A.length+q:Nat):Int),Ns dn a] fun yy=>(.br (decide (((A.length+q:Nat):Int)<((A.length+q+X2.length:Nat):Int))) (.br (decide (((A.length+q+X2.length:Nat):Int)<((A.length+X.length+Y.length:Nat):Int))) (.call 251 [] [D.sl ((yy.getD 0 D.nil).els),.int ((A.length+q:Nat):Int),.int ((A.length+q+X2.length:Nat):Int),.int ((A.length+X.length+Y.length:Nat):Int),Ns dn a] fun yy=> .ret [D.sl ((yy.getD 0 D.nil).els)]) (.ret [D.sl ((yy.getD 0 D.nil).els)])) (.ret [D.sl ((yy.getD 0 D.nil).els)])))
           (.br (decide (((A.length+q:Nat):Int)<((A.length+q+X2.length:Nat):Int))) (.br (decide (((A.length+q+X2.length:Nat):Int)<((A.length+X.length+Y.length:Nat):Int))) (.call 251 [] [D.sl ((A++X1++Y1++X2++Y2++B).map dP),.int ((A.length+q:Nat):Int),.int ((A.length+q+X2.length:Nat):Int),.int ((A.length+X.length+Y.length:Nat):Int),Ns dn a] fun yy=> .ret [D.sl ((yy.getD 0 D.nil).els)]) (.ret [D.sl ((A++X1++Y1++X2++Y2++B).map dP)])) (.ret [D.sl ((A++X1++Y1++X2++Y2++B).map dP)])))
           (.br (decide (((A.length+q:Nat):Int)<((A.length+q+X2.length:Nat):Int))) (.br (decide (((A.length+q+X2.length:Nat):Int)<((A.length+X.length+Y.length:Nat):Int))) (.call 251 [] [D.sl ((A++X1++Y1++X2++Y2++B).map dP),.int ((A.length+q:Nat):Int),.int ((A.length+q+X2.length:Nat):Int),.int ((A.length+X.length+Y.length:Nat):Int),Ns dn a] fun yy=> .ret [D.sl ((yy.getD 0 D.nil).els)]) (.ret [D.sl ((A++X1++Y1++X2++Y2++B).map dP)])) (.ret [D.sl ((A++X1++Y1++X2++Y2++B).map dP)]))) [.sl ((A++C1 (kk d a.cells dn) (X++Y)++B).map dP)]:=by
         have alone:X1.length=0∨Y1.length=0→A++C1 (kk d a.cells dn) (X1++Y1)++X2++Y2++B=A++X1++Y1++X2++Y2++B:=fun h=>by
           have:C1 (kk d a.cells dn) (X1++Y1)=X1++Y1:=by
             rcases h with h | h
             · rw[List.length_eq_zero_iff.1 h]
               exact Rh hk (List.Perm.refl _) (by simpa using p3)
             · rw[List.length_eq_zero_iff.1 h]
               exact Rh hk (List.Perm.refl _) (by simpa using p1)
           rw[this,← List.append_assoc]
         refine Ad (fun g1=>Ad (fun g2=> ?_) (fun g2=> ?_)) (fun g1=> ?_)
         · have:=IH A X1 Y1 (X2++Y2++B) (by omega) (by omega) (by omega) (by simp only[List.length_append];omega) (fun x h=>hXin x (m1 x h)) (fun y h=>hYin y (m3 y h)) p1 p3 (fun x h y h'=>hlt x (m1 x h) y (m3 y h'))
           rw[show A.length+X1.length+Y1.length=A.length+q by omega,l1,show A++X1++Y1++(X2++Y2++B)=A++X1++Y1++X2++Y2++B by simp,show A++C1 (kk d a.cells dn) (X1++Y1)++(X2++Y2++B)=A++C1 (kk d a.cells dn) (X1++Y1)++X2++Y2++B by simp]at this
           exact Aa this hU
         · rw[alone (by omega)]at hU;exact hU
         · rw[alone (by omega)]at hU;exact hU
       refine Ad (fun g1=>Ad (fun g2=> ?_) (fun g2=> ?_)) (fun g1=> ?_)
       · have:=Ago (dn:=dn) (a:=a) (A++X1) X2 Y1 (Y2++B) (by omega) (by omega) (by simp only[List.length_append];omega)
         rw[← hdata,show A++X1++Y1++X2++(Y2++B)=A++X1++Y1++X2++Y2++B by simp,List.length_append,l1,show A.length+s+X2.length=A.length+X.length by omega,show A.length+X.length+Y1.length=A.length+q+X2.length by omega]at this
         exact Aa this hT
       · have e:A++X++Y++B=A++X1++Y1++X2++Y2++B:=by
           have:Y1 = []:=List.length_eq_zero_iff.1 (by omega)
           rw[hdata,this];simp
         rw[e];exact hT
       · have e:A++X++Y++B=A++X1++Y1++X2++Y2++B:=by
           have:X2 = []:=List.length_eq_zero_iff.1 (by omega)
           rw[hdata,this];simp
         rw[e];exact hT
  refine Ae (Ad (fun g=> ?_) (fun g=> ?_))
  · have w7:IntKind.wrap .i64 (((A.length+q+(A.length+X.length):Nat):Int)-((A.length+X.length+Y.length:Nat):Int))=((A.length+(q-Y.length):Nat):Int):=by rw[Ap (by omega) (by omega)];omega
    rw[w7]
    exact search (q-Y.length) q (by omega) (by omega) (by omega) 200000 (q-Y.length) q (by omega) (by omega) (by omega) (by omega) (fun x _ y hy=>by rw[List.drop_of_length_le (by omega)]at hy;cases hy) (fun y hy=>by rw[Nat.sub_self]at hy;cases hy)
  · exact search 0 X.length (by omega) (by omega) (by omega) 200000 0 X.length (by omega) (by omega) (by omega) (by omega) (fun x hx=>by cases hx) (fun y _ x hx=>by rw[List.drop_of_length_le (by omega)]at hx;cases hx)
end
section
variable {d:Nat} {a:Arr} {dn:Bool} (ha : ∀ c∈a.cells,B7 d c=true)
include ha
theorem Agy(l:List Nat)(hl:l.Pairwise (· < ·))(hin : ∀ x∈l,x<a.cells.length)(hlen:l.length≤50000):Sp 217 [.sl (l.map dP),.int (l.length:Int),Ns dn a] [.sl ((C1 (kk d a.cells dn) l).map dP)]:=by
 have hk:=GI (dn:=dn) ha
 refine Ag 200000 (Jw _ _ _ _ _) ?_
 simp only[Ez,Ah]
 generalize hkk:kk d a.cells dn=k at *
 have join2 : ∀ U V:List Nat,C1 k (C1 k U++C1 k V)=C1 k (U++V):=fun U V=>Rh hk (((Jr k (U++V)).trans ((Jr k U).append (Jr k V)).symm)) (Gz hk _)
 have pairs : ∀ (m7 bs:Nat),1≤bs→bs≤100000→Tw (Di 200000 m7 ((SG k (2*bs) l).map dP) (l.length:Int) (Ns dn a) ((2*bs:Nat):Int)) [.sl ((C1 k l).map dP)]→∀ (m:Nat) (P rest:List Nat),P++SG k (2*bs) rest=SG k (2*bs) l→l.length=P.length+rest.length→rest.Pairwise (· < ·)→(∀ x∈rest,x<a.cells.length)→rest.length<m →
   Tw (Fm 200000 m7 m ((P++SG k bs rest).map dP) (l.length:Int) (Ns dn a) (bs:Int) (P.length:Int) ((P.length+2*bs:Nat):Int)) [.sl ((C1 k l).map dP)]:=by
  intro m7 bs hb1 hb2 cont m
  induction m with
  | zero=>intro P rest _ _ _ _ h;omega
  | succ m ih =>
   intro P rest hP hL hR hRin hm
   have w1:IntKind.wrap .i64 ((P.length:Int)+(bs:Int))=((P.length+bs:Nat):Int):=by rw[Ap (by omega) (by omega)];omega
   have w2:IntKind.wrap .i64 (2*(bs:Int))=((2*bs:Nat):Int):=by rw[Ap (by omega) (by omega)];omega
   have w3:IntKind.wrap .i64 (((P.length+2*bs:Nat):Int)+((2*bs:Nat):Int))=((P.length+2*bs+2*bs:Nat):Int):=by rw[Ap (by omega) (by omega)];omega
   have w4:IntKind.wrap .i64 ((bs:Int)*2)=((2*bs:Nat):Int):=by rw[Ap (by omega) (by omega)];omega
   simp only[I2,w1,w2,w3,w4]
   have hcross : ∀ t,∀ x∈rest.take t,∀ y∈rest.drop t,x<y:=fun t=>by
     rw[← List.take_append_drop t rest]at hR
     exact (List.pairwise_append.1 hR).2.2
   refine Ad (fun g=> ?_) (fun g=>Ad (fun g2=> ?_) (fun g2=> ?_))
   · have e1:SG k bs rest=C1 k (rest.take bs)++(C1 k ((rest.drop bs).take bs)++SG k bs (rest.drop (2*bs))):=by
      rw[Vu hb1,if_neg (by omega),Vu hb1 (rest.drop bs),if_neg (by rw[List.length_drop];omega),List.drop_drop,show bs+bs=2*bs by omega]
     have e2:rest.take bs++(rest.drop bs).take bs=rest.take (2*bs):=by rw[show 2*bs=bs+bs by omega,List.take_add]
     have l1:(rest.take bs).length=bs:=by rw[List.length_take];omega
     have l2:((rest.drop bs).take bs).length=bs:=by rw[List.length_take,List.length_drop];omega
     have l3:(SG k bs (rest.drop (2*bs))).length=rest.length-2*bs:=by rw[Afu hb1 _ _ (Nat.le_refl _),List.length_drop]
     have l4:(rest.take (2*bs)).length=2*bs:=by rw[List.length_take];omega
     have sp:=LQ (dn:=dn) ha (2*bs) P (C1 k (rest.take bs)) (C1 k ((rest.drop bs).take bs)) (SG k bs (rest.drop (2*bs))) (by rw[Dj,Dj];omega) (by rw[Dj];omega) (by rw[Dj];omega) (by rw[Dj,Dj,l3];omega) (fun x hx=>hRin x (List.mem_of_mem_take (H9.1 hx))) (fun y hy=>hRin y (List.mem_of_mem_drop (List.mem_of_mem_take (H9.1 hy)))) (by rw[hkk];exact Gz hk _) (by rw[hkk];exact Gz hk _) (fun x hx y hy=>hcross bs x (H9.1 hx) y (List.mem_of_mem_take (H9.1 hy)))
     rw[hkk,join2,e2,Dj,Dj,l1,l2]at sp
     rw[show P++C1 k (rest.take bs)++C1 k ((rest.drop bs).take bs)++SG k bs (rest.drop (2*bs))=P++SG k bs rest by rw[e1];simp only[List.append_assoc],show P.length+bs+bs=P.length+2*bs by omega]at sp
     refine Aa sp ?_
     have:=ih (P++C1 k (rest.take (2*bs))) (rest.drop (2*bs)) (by
       rw[← hP,Vu (bs:=2*bs) (by omega) rest,if_neg (by omega)];simp only[List.append_assoc]) (by rw[List.length_append,Dj,l4,List.length_drop];omega) (hR.sublist (List.drop_sublist _ _)) (fun x hx=>hRin x (List.mem_of_mem_drop hx)) (by rw[List.length_drop];omega)
     rw[List.length_append,Dj,l4]at this
     exact this
   · have l1:(rest.take bs).length=bs:=by rw[List.length_take];omega
     have e1:SG k bs rest=C1 k (rest.take bs)++C1 k (rest.drop bs):=by
      rw[Vu hb1,if_neg (by omega),Sc hb1 (by rw[List.length_drop];omega)]
     have sp:=LQ (dn:=dn) ha (rest.length) P (C1 k (rest.take bs)) (C1 k (rest.drop bs)) [] (by rw[Dj,Dj,List.length_drop];omega) (by rw[Dj];omega) (by rw[Dj,List.length_drop];omega) (by rw[Dj,Dj,List.length_drop];simp only[List.length_nil];omega) (fun x hx=>hRin x (List.mem_of_mem_take (H9.1 hx))) (fun y hy=>hRin y (List.mem_of_mem_drop (H9.1 hy))) (by rw[hkk];exact Gz hk _) (by rw[hkk];exact Gz hk _) (fun x hx y hy=>hcross bs x (H9.1 hx) y (H9.1 hy))
     rw[hkk,join2,List.take_append_drop,Dj,Dj,l1]at sp
     simp only[List.append_nil]at sp
     rw[show P++C1 k (rest.take bs)++C1 k (rest.drop bs)=P++SG k bs rest by rw[e1];simp only[List.append_assoc],show P.length+bs+(rest.drop bs).length=l.length by rw[List.length_drop];omega]at sp
     refine Aa sp ?_
     rw[Sc (bs:=2*bs) (by omega) (l:=rest) (by omega)]at hP
     simp only[Af,Ez]
     rw[hP]
     exact cont
   · rw[Sc (bs:=2*bs) (by omega) (l:=rest) (by omega)]at hP
     rw[Sc hb1 (l:=rest) (by omega),hP]
     exact cont
 have rounds : ∀ (m bs:Nat),1≤bs→bs≤100000→l.length-bs<m→Tw (Di 200000 m ((SG k bs l).map dP) (l.length:Int) (Ns dn a) (bs:Int)) [.sl ((C1 k l).map dP)]:=by
  intro m
  induction m with
  | zero=>intro bs _ _ h;omega
  | succ m ih =>
   intro bs hb1 hb2 hm
   have w2:IntKind.wrap .i64 (2*(bs:Int))=((2*bs:Nat):Int):=by rw[Ap (by omega) (by omega)];omega
   simp only[I1,w2]
   refine Ad (fun g=> ?_) (fun g=>Ac ?_)
   · have:=pairs m bs hb1 hb2 (ih (2*bs) (by omega) (by omega) (by omega)) 200000 [] l (by simp) (by simp) hl hin (by omega)
     simpa using this
   · rw[Sc hb1 (by omega)]
 have first : ∀ (m:Nat) (P rest:List Nat),P++SG k 20 rest=SG k 20 l→l.length=P.length+rest.length→rest.Pairwise (· < ·)→(∀ x∈rest,x<a.cells.length)→rest.length<m →
   Tw (Fl 200000 m ((P++rest).map dP) (l.length:Int) (Ns dn a) 20 (P.length:Int) ((P.length+20:Nat):Int)) [.sl ((C1 k l).map dP)]:=by
  intro m
  induction m with
  | zero=>intro P rest _ _ _ _ h;omega
  | succ m ih =>
   intro P rest hP hL hR hRin hm
   have w1:IntKind.wrap .i64 (((P.length+20:Nat):Int)+20)=((P.length+20+20:Nat):Int):=by rw[Ap (by omega) (by omega)];omega
   simp only[I0,w1]
   refine Ad (fun g=> ?_) (fun g=> ?_)
   · have l1:(rest.take 20).length=20:=by rw[List.length_take];omega
     have sp:=EP (dn:=dn) ha P (rest.take 20) (rest.drop 20) (hR.sublist (List.take_sublist _ _)) (fun x hx=>hRin x (List.mem_of_mem_take hx)) (by rw[l1,List.length_drop];omega)
     rw[hkk,List.append_assoc P,List.take_append_drop,l1]at sp
     refine Aa sp ?_
     have:=ih (P++C1 k (rest.take 20)) (rest.drop 20) (by
       rw[← hP,Vu (bs:=20) (by omega) rest,if_neg (by omega)];simp only[List.append_assoc]) (by rw[List.length_append,Dj,l1,List.length_drop];omega) (hR.sublist (List.drop_sublist _ _)) (fun x hx=>hRin x (List.mem_of_mem_drop hx)) (by rw[List.length_drop];omega)
     rw[List.length_append,Dj,l1]at this
     exact this
   · have sp:=EP (dn:=dn) ha P rest [] hR hRin (by simp only[List.length_nil];omega)
     simp only[List.append_nil,hkk,← hL]at sp
     refine Aa sp ?_
     rw[Sc (bs:=20) (by omega) (l:=rest) (by omega)]at hP
     simp only[Af,Ez]
     rw[hP]
     exact rounds 200000 20 (by omega) (by omega) (by omega)
 have:=first 200000 [] l (by simp) (by simp) hl hin (by omega)
 simpa using this
theorem Ajv(l:List Nat)(hl:l.Pairwise (· < ·))(hin : ∀ x∈l,x<a.cells.length)(hlen:l.length≤50000):Sp 155 [.sl (l.map dP),Ns dn a] [.sl ((C1 (kk d a.cells dn) l).map dP)]:=by
 refine Ag 0 (Im _ _ _ _) ?_
 simp only[Ez,List.length_map]
 exact Aa (Agy ha l hl hin hlen) (Ac rfl)
end
def Lb(a:Arr)(dn:Bool):List Nat:=C1 (kk 8 a.cells dn) (List.range a.cells.length)
def EK(a:Arr)(dn:Bool):Arr×Int:=if a.shape.length=1 then (Hm ((Lb a dn).map (fun (i:Nat)=>(i:Int)+1)) (Bq a),0) else (.none,5)
theorem AhB(n:Nat):(List.range n).Pairwise (· < ·):=List.pairwise_lt_range
theorem AfY(a:Arr)(dn:Bool):(Lb a dn).length=a.cells.length:=by unfold Lb;rw[Dj,List.length_range]
theorem YN{a:Arr}{dn:Bool}{i:Nat} : i∈Lb a dn↔i<a.cells.length:=by unfold Lb;rw[H9,List.mem_range]
theorem Zm(a:Arr)(dn:Bool)(ha:A8 8 a=true):Sp 69 [dA a,.bool dn] [dA (EK a dn).1,.int (EK a dn).2]:=by
 have la:=(Dh ha).1
 have hc:=(B6 ha).2
 refine Ag 4096 (MR _ _ _) ?_
 unfold EK
 simp only[As,Cr,Gl,List.length_replicate]
 refine Ad (fun h=>Ac (by rw[if_neg (by omega)])) (fun h=> ?_)
 rw[if_pos (by omega)]
 refine Ae (Ae (At (by simp only[Ar];omega) ?_))
 have hol:=AfY a dn
 have key:=C4 (P:=Tryz.prog) (md:=md) a.cells.length (fun m k (_:Unit)=>M3 4096 m ((List.range k).map dP++List.replicate (a.cells.length-k) (D.int 0)) (a.cells.length:Int) (k:Int) (dA a) dn 0 0) (fun _ _=>[dA (Hm ((Lb a dn).map (fun (i:Nat)=>(i:Int)+1)) (Bq a)),.int 0]) (fun _ _=>True)
  (fun m s _=>by
   have sp:=Ajv (dn:=dn) hc (List.range a.cells.length) (AhB _) (fun x hx=>List.mem_range.1 hx) (by rw[List.length_range];omega)
   simp only[Ry,Cr,Gl]
   rw[Nat.sub_self,List.replicate_zero,List.append_nil]
   refine Am (by omega) (Aa sp ?_)
   rw[show C1 (kk 8 a.cells dn) (List.range a.cells.length)=Lb a dn from rfl]
   simp only[Af,Ez,List.length_map,hol,Int.toNat_natCast]
   refine Ae (Ae (At (by simp only[Ar];omega) ?_))
   have key2:=A7 (P:=Tryz.prog) (md:=md) (Lb a dn) (fun m k (cs:List D)=>Lq 4096 m cs ((Lb a dn).map dP) (a.cells.length:Int) (k:Int) (dA a) 0 0) (fun _ _=>[dA (Hm ((Lb a dn).map (fun (i:Nat)=>(i:Int)+1)) (Bq a)),.int 0])
    (fun rest cs=>∃ pre:List Nat,Lb a dn=pre++rest∧cs=(pre.map (fun (i:Nat)=>B5 ((i:Int)+1))).map dC++List.replicate rest.length (dC Cell.none))
    (fun m k cs hk hI=>by
     obtain ⟨pre,h1,rfl⟩:=hI
     rw[List.append_nil]at h1
     simp only[Qd,List.length_nil,List.replicate_zero,List.append_nil]
     have hb : ∀ c∈pre.map (fun (i:Nat)=>B5 ((i:Int)+1)),SmlC 0 c:=fun c hcc=>by
      obtain ⟨i,hi,rfl⟩:=List.mem_map.1 hcc
      have:=YN.1 (by rw[h1];exact hi:i∈Lb a dn)
      exact Xs (Dv (by omega) (by omega)) 0
     refine Am (by omega) (Aa (G5 _ hb (by rw[List.length_map,← h1,hol];omega)) (Aa (Cb a (C8 ha).fits) ?_))
     simp only[Af,Ds,Si]
     refine Aa (C2 _ (Bq a)) (Ac ?_)
     simp only[Af,h1]
     simp[D1,Tx,Hm]
     rfl)
    (fun m k cs i rest hdr hI ih=>by
     obtain ⟨h1,h2,h3⟩:=Az hdr
     obtain ⟨pre,hp,rfl⟩:=hI
     have hk:k=(pre.map (fun (i:Nat)=>B5 ((i:Int)+1))).length:=by
      have:=congrArg List.length hdr
      rw[hp]at this h1
      simp at this h1 ⊢; omega
     have hcl:((pre.map (fun (i:Nat)=>B5 ((i:Int)+1))).map dC++List.replicate (rest.length+1) (dC Cell.none)).length=a.cells.length:=by rw[← hol,hp];simp
     have hi:=YN.1 (List.mem_of_getElem? h2)
     have w1:IntKind.wrap .i64 ((i:Int)+1)=(i:Int)+1:=Ap (by omega) (by omega)
     simp only[Qd,List.length_map,hol,Int.toNat_natCast,Aj h2,Af8,w1,An (show k<9223372036854775807 by omega),List.length_cons]
     simp only[hcl]
     refine Ae (Ae (Ae (Aa (Ey _ (Dv (by omega) (by omega))) (Ae (Ae ?_)))))
     simp only[Af]
     rw[show (((pre.map (fun (i:Nat)=>B5 ((i:Int)+1))).map dC++List.replicate (rest.length+1) (dC Cell.none)).set k (dC (B5 ((i:Int)+1))))=(((pre++[i]).map (fun (i:Nat)=>B5 ((i:Int)+1))).map dC++List.replicate rest.length (dC Cell.none)) by
      rw[hk,Ml (f:=dC) (z:=dC Cell.none)];simp]
     exact ih _ ⟨pre++[i],by rw[hp];simp,rfl⟩)
    4096 0 (List.replicate a.cells.length (dC Cell.none)) (by omega) (by omega) ⟨[],by simp,by simp[hol]⟩
   exact key2)
  (fun m k s hk _ ih=>by
   have ih:=ih () trivial
   simp only[Ry,List.length_append,List.length_map,List.length_range,List.length_replicate,Int.toNat_natCast,An (show k<9223372036854775807 by omega)]
   refine Ae (Ae (Ae ?_))
   have e:=Ml (f:=dP) (z:=D.int 0) (List.range k) k (a.cells.length-(k+1))
   rw[List.length_range,← List.range_succ,show a.cells.length-(k+1)+1=a.cells.length-k by omega]at e
   rw[show D.int (k:Int)=dP k from rfl,e]
   exact ih)
  4096 0 () (by omega) (by omega) trivial
 simpa using key
def ahead(k:Nat→Nat→Int)(i j:Nat):Bool:=decide (k j i<0∨(k j i=0∧j<i))
def iN(l:List Nat):List Int:=l.map (fun (x:Nat)=>(x:Int))
theorem W3(l:List Nat):(iN l).length=l.length:=by simp[iN]
theorem AjJ(l:List Nat):(iN l).map D.int=l.map dP:=by unfold iN;rw[List.map_map];rfl
theorem Ak0{l:List Int}(h : ∀ x∈l,0≤x) : ∃ m:List Nat,l=iN m:=by
 refine ⟨l.map Int.toNat,?_⟩
 unfold iN
 rw[List.map_map]
 conv=>lhs;rw[← List.map_id l]
 refine List.map_congr_left (fun x hx=> ?_)
 have:=h x hx
 simp only[id,Function.comp]
 omega
def D4:List Nat→Nat
 | []=>1
 | x::xs=>x*D4 xs
def Kq(s:List Nat):Nat:=(Ay (iN s)).1.toNat
theorem AdX : ∀ (l:List Nat) (p:Nat),Bg (iN l) (p:Int)≠0→Bg (iN l) (p:Int)=((p*D4 l:Nat):Int)
 | [],p,_=>by simp[iN,Bg,D4]
 | x::xs,p,h=>by
  simp only[iN,List.map_cons,Bg]at h ⊢
  split at h
  · exact absurd rfl h
  · rename_i h2
    rw[if_neg h2]
    have:=AdX xs (p*x) (by simpa [iN]using h)
    simp only[iN,Int.natCast_mul]at this
    rw[this]
    simp only[D4,Int.natCast_mul,Int.mul_assoc]
theorem YU : ∀ (l m:List Nat),D4 (l++m)=D4 l*D4 m
 | [],m=>by simp[D4]
 | x::xs,m=>by simp only[List.cons_append,D4,YU xs m,Nat.mul_assoc]
theorem Vv{s:List Nat}(h:(Ay (iN s)).2=0):s.length≤6∧((0∈s∧Kq s=0)∨((∀ x∈s,1≤x∧x≤2048)∧Kq s=D4 s∧1≤Kq s∧Kq s≤2048)):=by
 have hl:=Fj (iN s)
 obtain ⟨h1,h2⟩:=Fq (s:=iN s) (c:=(Ay (iN s)).1) (Prod.ext rfl h)
 rw[W3]at h1
 refine ⟨h1,?_⟩
 rcases h2 with ⟨h2,h3⟩ | ⟨h2,h3,h4⟩
 · refine .inl ⟨?_,by unfold Kq;rw[h3];rfl⟩
   obtain ⟨x,hx,he⟩:=List.mem_map.1 h2
   have:x=0:=by omega
   rw[← this];exact hx
 · refine .inr ⟨fun x hx=> ?_,?_,?_,?_⟩
   · have:=h2 (x:Int) (List.mem_map.2 ⟨x,hx,rfl⟩);omega
   · have:=AdX s 1 (by rw[show ((1:Nat):Int)=1 from rfl,h3];exact h4)
     rw[show ((1:Nat):Int)=1 from rfl,h3]at this
     unfold Kq
     rw[this];omega
   · unfold Kq;omega
   · unfold Kq;omega
end Go.Proofs.YtokkbgpgaheakaaGreat
namespace Go
open Go.RowKit
theorem CV(P:Program)(w:World)(dT sT ty elem:TypeId)(g o dLen dCap:Nat)(a:Addr)(sLen sCap sz:Nat)(cur:Array Value)(t:TypeId)(cs:List Value)
  (hu:P.underlying dT=some (.slice elem)) (hs:(P.info? elem).map (·.size)=some sz)
  (hg:w.heap[g]? = some (.cells cur t (0,0))) (hn:cs.length=Nat.min sLen dLen*sz)
  (hsrc : ∀ j v,cs[j]? = some v→w.cell? (a.add j)=some v) (hfit:o+cs.length≤cur.size) (h1 : ∀ v∈cs,v.oneCell'=true) :
  (Builtin.copy_ #[dT,sT] ty #[.slice (some ⟨g,o,none⟩) dLen dCap,.slice (some a) sLen sCap]).run P w =
   .ok (goInt (Nat.min sLen dLen:Nat)) (w.setRow g (cur.toList.take o++cs++cur.toList.drop (o+cs.length)).toArray):=by
 have hl:=run_loadCells_list (P:=P) w a cs hsrc
 have hst:=run_storeCells_at P g o t cs 0 cur w hg (by simpa using hfit) h1
 cases hq:P.info? elem with
 | none=>simp[hq]at hs
 | some i =>
  have hi:i.size=sz:=by simpa [hq]using hs
  rw[hn]at hl
  simp[Builtin.copy_,run_underlying hu,Builtin.lenOf,Builtin.firstCells,sizeOf,typeInfo,hq,hi,hl,hst]
theorem Uz(P:Program)(w:World)(dT sT ty elem:TypeId)(d a:Option Addr)(dLen dCap sLen sCap sz:Nat)(hu:P.underlying dT=some (.slice elem))(hs:(P.info? elem).map (·.size)=some sz)(hn:Nat.min sLen dLen=0) :
  (Builtin.copy_ #[dT,sT] ty #[.slice d dLen dCap,.slice a sLen sCap]).run P w = .ok (goInt 0) w:=by
 cases hq:P.info? elem with
 | none=>simp[hq]at hs
 | some i =>
  have hl : ∀ (x:Addr),(loadCells x 0).run P w = .ok #[] w:=fun x=>by simpa using run_loadCells_list (P:=P) w x [] (by simp)
  cases d <;> cases a <;> simp[Builtin.copy_,run_underlying hu,Builtin.lenOf,Builtin.firstCells,sizeOf,typeInfo,hq,hn,storeCells,hl]
theorem OL{P:Program}{w:World}{ops:Array Oper}{rest:List Oper}{o:Oper}{a:Act}{Q:Exit→Act→World→Prop}(hgd:o.guard=none)(d s:Operand)(dT sT:TypeId)
   (ho:o.op = .call { callee:= .builtin .copy,args:= #[d,s],argTypes:= #[dT,sT] }) (elem:TypeId) (sz:Nat) (hz:0<sz) (hu:P.underlying dT=some (.slice elem)) (hsz:(P.info? elem).map (·.size)=some sz)
   (dp sp:Option Addr) (dLen dCap sLen sCap:Nat) (hd:a.eval d = .slice dp dLen dCap) (hs:a.eval s = .slice sp sLen sCap)
   (g off:Nat) (cur:List Value) (t:TypeId) (hg:w.heap[g]? = some (.cells cur.toArray t (0,0))) (cs:List Value) (hn:cs.length=Nat.min sLen dLen*sz)
   (hpos:0<cs.length→dp=some ⟨g,off,none⟩∧∃ ad,sp=some ad∧∀ j v,cs[j]? = some v→w.cell? (ad.add j)=some v)
   (hfit:off+cs.length≤cur.length) (h1 : ∀ v∈cs,v.oneCell'=true) (B:Nat) (w0:World) (hb:Below B w0 w) (hBg:B≤g)
   (h : ∀ w',Hid (w'.heap[g]? = some (.cells (splice cur off cs).toArray t (0,0)))→Below B w0 w'→wpList P ops Q rest (a.put o.dst (goInt (Nat.min sLen dLen:Nat))) w') :
   wpList P ops Q (o::rest) a w:=by
 refine wpList_plain hgd fun K hK=> ?_
 by_cases h0:cs.length=0
 · have hm:Nat.min sLen dLen=0:=by
    rcases Nat.eq_zero_or_pos (Nat.min sLen dLen) with h | h
    · exact h
    · have:=Nat.mul_pos h hz;omega
   obtain rfl:cs = []:=List.eq_nil_of_length_eq_zero h0
   have hrun:=Uz P w dT sT o.type elem dp sp dLen dCap sLen sCap sz hu hsz hm
   unfold Oper.wp
   simp[execOp,ho,resolve,invoke,builtin,hd,hs,hrun,Result.andThen]
   refine hK _ _ ?_
   have:=h w (show _=_ by simpa [splice]using hg) hb
   rw[hm]at this
   exact this
 · obtain ⟨rfl,ad,rfl,hsrc⟩:=hpos (by omega)
   have hrun:=CV P w dT sT o.type elem g off dLen dCap ad sLen sCap sz cur.toArray t cs hu hsz hg hn hsrc (by simpa using hfit) h1
   unfold Oper.wp
   simp[execOp,ho,resolve,invoke,builtin,hd,hs,hrun,Result.andThen]
   refine hK _ _ ?_
   exact h _ (show _=_ by simpa [splice]using setRow_heap w g _ _ t _ hg) (below_setRow hb hBg _)
theorem XI{P:Program}{ops:Array Oper}{o:Oper}{a:Act}{w:World}{K:Act→World→Prop}{Q:Exit→Act→World→Prop}{E:Prop}(hgd:o.guard=none)(d s:Operand)(dT sT:TypeId)
   (ho:o.op = .call { callee:= .builtin .copy,args:= #[d,s],argTypes:= #[dT,sT] }) (elem:TypeId) (sz:Nat) (hz:0<sz) (hu:P.underlying dT=some (.slice elem)) (hsz:(P.info? elem).map (·.size)=some sz)
   (dp sp:Option Addr) (dLen dCap sLen sCap:Nat) (hd:a.eval d = .slice dp dLen dCap) (hs:a.eval s = .slice sp sLen sCap)
   (g off:Nat) (cur:List Value) (t:TypeId) (hg:w.heap[g]? = some (.cells cur.toArray t (0,0))) (cs:List Value) (hn:cs.length=Nat.min sLen dLen*sz)
   (hpos:0<cs.length→dp=some ⟨g,off,none⟩∧∃ ad,sp=some ad∧∀ j v,cs[j]? = some v→w.cell? (ad.add j)=some v)
   (hfit:off+cs.length≤cur.length) (h1 : ∀ v∈cs,v.oneCell'=true) (B:Nat) (w0:World) (hb:RowKit.Below B w0 w) (hBg:B≤g)
   (h : ∀ w',RowKit.Hid (w'.heap[g]? = some (.cells (splice cur off cs).toArray t (0,0)))→RowKit.Below B w0 w'→K (a.put o.dst (goInt (Nat.min sLen dLen:Nat))) w') :
   if Region.wanted o (yielded ops a.tmps)=true then Oper.wp P o a w K Q else E:=by
 have hw:Region.wanted o (yielded ops a.tmps)=true:=by simp[Region.wanted,hgd]
 rw[if_pos hw]
 by_cases h0:cs.length=0
 · have hm:Nat.min sLen dLen=0:=by
    rcases Nat.eq_zero_or_pos (Nat.min sLen dLen) with h | h
    · exact h
    · have:=Nat.mul_pos h hz;omega
   obtain rfl:cs = []:=List.eq_nil_of_length_eq_zero h0
   have hrun:=Uz P w dT sT o.type elem dp sp dLen dCap sLen sCap sz hu hsz hm
   unfold Oper.wp
   simp[execOp,ho,resolve,invoke,builtin,hd,hs,hrun,Result.andThen]
   have:=h w (show _=_ by simpa [splice]using hg) hb
   rw[hm]at this
   exact this
 · obtain ⟨rfl,ad,rfl,hsrc⟩:=hpos (by omega)
   have hrun:=CV P w dT sT o.type elem g off dLen dCap ad sLen sCap sz cur.toArray t cs hu hsz hg hn hsrc (by simpa using hfit) h1
   unfold Oper.wp
   simp[execOp,ho,resolve,invoke,builtin,hd,hs,hrun,Result.andThen]
   exact h _ (show _=_ by simpa [splice]using setRow_heap w g _ _ t _ hg) (below_setRow hb hBg _)
end Go
namespace Go.Proofs.YtokkbgpgaheakaaGreat
open Go.RowKit
def Fc(k:Nat)(xs:List Value):List Value:=(List.replicate k xs).flatten
theorem K6(k:Nat)(xs:List Value):(Fc k xs).length=k*xs.length:=by unfold Fc;rw[List.length_flatten];simp
theorem Acy(k m:Nat)(xs:List Value):Fc k xs++Fc m xs=Fc (k+m) xs:=by
 unfold Fc;rw[← List.flatten_append,List.replicate_append_replicate]
theorem AhG(xs:List Value):Fc 1 xs=xs:=by simp[Fc]
theorem ZD(k:Nat)(xs:List Value):Fc (k+1) xs=xs++Fc k xs:=by unfold Fc;rw[List.replicate_succ];rfl
theorem Acz{k:Nat}{xs:List Value}{v:Value}(h:v∈Fc k xs):v∈xs:=by
 unfold Fc at h
 obtain ⟨l,hl,hv⟩:=List.mem_flatten.1 h
 rwa[List.eq_of_mem_replicate hl]at hv
theorem Aeb{xs:List Value} : ∀ {k i j:Nat},i<k→j<xs.length→(Fc k xs)[i*xs.length+j]? = xs[j]?
 | 0,i,j,h,_=>by omega
 | k+1,0,j,_,hj=>by rw[ZD,Nat.zero_mul,Nat.zero_add,List.getElem?_append_left hj]
 | k+1,i+1,j,h,hj=>by
  rw[ZD,List.getElem?_append_right (by rw[Nat.succ_mul];omega),show (i+1)*xs.length+j-xs.length=i*xs.length+j by rw[Nat.succ_mul];omega]
  exact Aeb (by omega) hj
theorem LP{xs cur:List Value}{k m:Nat}(h:cur.take (k*xs.length)=Fc k xs)(hk:(k+m)*xs.length≤cur.length):(splice cur (k*xs.length) (Fc m xs)).take ((k+m)*xs.length)=Fc (k+m) xs∧(splice cur (k*xs.length) (Fc m xs)).length=cur.length:=by
 have e:(k+m)*xs.length=k*xs.length+m*xs.length:=Nat.add_mul _ _ _
 refine ⟨?_,length_splice _ _ _ (by rw[K6];omega)⟩
 unfold splice
 rw[h,← List.append_assoc,Acy,List.take_append_of_le_length (by rw[K6];omega),List.take_of_length_le (by rw[K6];omega)]
def QInv(w2:World)(G n:Nat)(xs:List Value)(iv:Value)(wr:World):Prop:=∃ (k:Nat) (cur:List Value),iv = .int .i64 k∧k≤n∧(0<n→0<k)∧cur.length=n*xs.length∧cur.take (k*xs.length)=Fc k xs∧wr.heap[G]? = some (.cells cur.toArray 67 (0,0))∧Below G w2 wr
theorem QInv.start {w2 w3:World} {G n:Nat} {xs X:List Value} (hX:X.length=n*xs.length) (h:w3.heap[G]? = some (.cells (splice X 0 (Fc (Nat.min 1 n) xs)).toArray 67 (0,0))) (hb:Below G w2 w3):QInv w2 G n xs (.int .i64 ((Nat.min 1 n:Nat):Int)) w3:=by
 have h2:Nat.min 1 n≤n:=Nat.min_le_right 1 n
 have h3:Nat.min 1 n=if 1≤n then 1 else n:=Nat.min_def
 have hm:=Nat.mul_le_mul_right xs.length h2
 obtain ⟨s1,s2⟩:=LP (xs:=xs) (cur:=X) (k:=0) (m:=Nat.min 1 n) (by rw[Nat.zero_mul];rfl) (by rw[Nat.zero_add];omega)
 rw[Nat.zero_add,Nat.zero_mul]at s1
 rw[Nat.zero_mul]at s2
 exact ⟨Nat.min 1 n,_,rfl,h2,fun h=>by rw[h3];split <;> omega,by omega,s1,h,hb⟩
theorem QInv.next {w2 w4:World} {G n k:Nat} {xs cur:List Value} (hk:k<n) (hp:0<k) (hl:cur.length=n*xs.length) (ht:cur.take (k*xs.length)=Fc k xs) (h:w4.heap[G]? = some (.cells (splice cur (k*xs.length) (Fc (Nat.min k (n-k)) xs)).toArray 67 (0,0))) (hb:Below G w2 w4):QInv w2 G n xs (.int .i64 ((k+Nat.min k (n-k):Nat):Int)) w4∧n-(k+Nat.min k (n-k))<n-k:=by
 have h3:Nat.min k (n-k)=if k≤n-k then k else n-k:=Nat.min_def
 have h4:0<Nat.min k (n-k)∧k+Nat.min k (n-k)≤n:=by rw[h3];split <;> omega
 have hm:=Nat.mul_le_mul_right xs.length h4.2
 obtain ⟨s1,s2⟩:=LP (xs:=xs) (cur:=cur) (k:=k) (m:=Nat.min k (n-k)) ht (by omega)
 exact ⟨⟨_,_,rfl,h4.2,fun _=>by omega,by omega,s1,h,hb⟩,by omega⟩
def Ak_(n:Nat)(xs:List Value)(w:World)(e:Ending)(w':World):Prop:=∃ G,e = .returned (.slice (some ⟨G,0,none⟩) n n)∧w.heap.size≤G∧w'.heap[G]? = some (.cells (Fc n xs).toArray 67 (0,0))∧Ext w w'
theorem AfA:Elt Tryz.prog 24 67 7 104 :=
 ⟨Tryz.underlying24,by
  obtain ⟨i,hi,h1,h2,h3⟩:=info_parts (P:=Tryz.prog) (e:=67) (z:= .agg #[.int .u64 0,.int .i64 0,.bool false,.slice none 0 0,.slice none 0 0,.int .i64 0,.slice none 0 0]) (size:=7) (bytes:=104) (by kernel_rfl)
  exact ⟨i,_,hi,h1,h2,h3,rfl⟩,by decide⟩
theorem AhP{w w2:World}{ad:Addr}{xs:List Value}(h : ∀ j v,xs[j]? = some v→w.cell? (ad.add j)=some v)(hx:Ext w w2)(m:Nat)(hm:m≤1):0<(Fc m xs).length→∃ ad',some ad=some ad'∧∀ j v,(Fc m xs)[j]? = some v→w2.cell? (ad'.add j)=some v:=by
 intro hp
 have:m=1:=by
  rcases Nat.lt_or_ge 0 m with h | h
  · omega
  · have:m=0:=by omega
    subst this;simp[Fc]at hp
 subst this
 rw[AhG]
 refine ⟨ad,rfl,fun j v hv=> ?_⟩
 have h0:=h j v hv
 have hb:ad.block<w.heap.size:=by
  rcases Nat.lt_or_ge ad.block w.heap.size with g | g
  · exact g
  · have hn:w.heap[ad.block]? = none:=Array.getElem?_eq_none g
    have e:(ad.add j).block=ad.block:=by unfold Addr.add;split <;> rfl
    unfold World.cell? at h0
    rw[e,hn]at h0
    cases h0
 have e:(ad.add j).block=ad.block:=by unfold Addr.add;split <;> rfl
 rw[← h0]
 exact World.cell?_of_block (by rw[e];exact hx.block _ hb)
theorem AhQ{w:World}{G k:Nat}{xs cur:List Value}{T:TypeId}(h:w.heap[G]? = some (.cells cur.toArray T (0,0)))(ht:cur.take (k*xs.length)=Fc k xs)(m:Nat)(hm:m≤k) : ∀ j v,(Fc m xs)[j]? = some v→w.cell? ((⟨G,0,none⟩:Addr).add j)=some v:=by
 intro j v hv
 have hj:=(List.getElem?_eq_some_iff.1 hv).1
 rw[K6]at hj
 have hmk:=Nat.mul_le_mul_right xs.length hm
 have e:Fc k xs=Fc m xs++Fc (k-m) xs:=by rw[Acy];congr 1;omega
 have hcj:cur[j]? = some v:=by
  have h1:(cur.take (k*xs.length))[j]? = some v:=by rw[ht,e,List.getElem?_append_left (by rw[K6];exact hj)];exact hv
  rw[List.getElem?_take,if_pos (by omega)]at h1
  exact h1
 have ea:(⟨G,0,none⟩:Addr).add j=⟨G,j,none⟩:=by unfold Addr.add;split <;> simp_all
 rw[ea]
 unfold World.cell?
 simp[h,hcj]
set_option maxHeartbeats 2000000 in
theorem Adm(ad:Addr)(c n:Nat)(xs:List Value)(w:World)(hn:n≤1000000)(hx7:xs.length=7)(h1 : ∀ v∈xs,v.oneCell'=true)(hs : ∀ j v,xs[j]? = some v→w.cell? (ad.add j)=some v):Calls Tryz.prog 233 #[.slice (some ad) 1 c,.int .i64 n] w (Ak_ n xs w):=by
 have HS:=Lib.hid hs
 have HO:=Lib.hid h1
 have H7:=Lib.hid hx7
 clear hs h1 hx7
 have hu:Tryz.prog.underlying 24=some (.slice 67):=by kernel_rfl
 have hz:(Tryz.prog.info? 67).map (·.size)=some 7:=by kernel_rfl
 have HU:=Lib.hid hu
 have HZ:=Lib.hid hz
 clear hu hz
 go_enter Tryz.func233,Tryz.ntmps233
 go_wp2_with (first
  | (go_at_call 231;refine (YJ n (by omega) _).mono ?_;rintro e w1 ⟨rfl,hx1⟩)
  | (at_make;refine IA AfA rfl _ _ rfl n rfl rfl (by omega) (by omega) (by omega) (by unfold maxLen;omega) ?_;intro G w2 X hG HG hX hx2;have HX:=Lib.hid hX;clear hX)
  | (refine OL rfl (.tmp 31) (.tmp 32) 24 24 rfl 67 7 (by decide) HU.out HZ.out (some ⟨G,0,none⟩) (some ad) n n 1 c (by simp[Act.eval,Act.put]) (by simp[Act.eval,Act.put]) G 0 X 67 HG.out (Fc (Nat.min 1 n) xs) (by rw[K6,H7.out]) (fun hp=>⟨rfl,AhP HS.out (hx1.trans hx2) _ (Nat.min_le_left _ _) hp⟩) (by have h1:=HX.out;have h2:Nat.min 1 n≤n:=Nat.min_le_right 1 n;rw[K6,H7.out];omega) (fun v hv=>HO.out v (Acz hv)) G w2 (Below.refl _ _) (Nat.le_refl _) ?_;intro w3 HG3 hb3))
 go_loopw [8] (QInv w2 G n xs) (fun iv _=>n-(intOf iv).toNat)
 case atStart=>exact QInv.start (by rw[H7.out];exact HX.out) HG3.out hb3
 case round =>
  obtain ⟨k,cur,rfl,hk,hp,hl,ht,hh,hb⟩:=hrel
  rw[H7.out]at hl ht
  have HT:=Lib.hid ht
  have HH:=Lib.hid hh
  have HB:=Lib.hid hb
  have HL:=Lib.hid hl
  clear ht hh hb hl
  by_cases hlt:k<n
  · have hpk:0<k:=hp (by omega)
    clear hp
    have HSR:=Lib.hid (AhQ (w:=wr.drew) (xs:=xs) HH.out (by rw[H7.out];exact HT.out) (Nat.min k (n-k)) (Nat.min_le_left _ _))
    have HNE:=Lib.hid (show (if n=k then some (⟨G,0,none⟩:Addr) else some ⟨G,k*7,none⟩)=some ⟨G,k*7,none⟩ from if_neg (by omega))
    go_wp2_with fail
    go_region_law (refine XI rfl (.tmp 41) (.tmp 44) 24 24 rfl 67 7 (by decide) HU.out HZ.out (if n=k then some ⟨G,0,none⟩ else some ⟨G,k*7,none⟩) (some ⟨G,0,none⟩) (n-k) (n-k) k n (by simp[Act.eval,Act.put]) (by simp[Act.eval,Act.put]) G (k*7) cur 67 HH.out (Fc (Nat.min k (n-k)) xs) (by rw[K6,H7.out]) (fun _=>⟨HNE.out,_,rfl,HSR.out⟩) (by have h1:=HL.out;have h2:Nat.min k (n-k)≤n-k:=Nat.min_le_right k (n-k);rw[K6,H7.out];omega) (fun v hv=>HO.out v (Acz hv)) G w2 HB.out.drew (Nat.le_refl _) ?_;intro w4 HG4 hb4)
    go_wp2
    go_roundw
    case rel =>
     rw[BU hlt (by omega)]
     exact (QInv.next (xs:=xs) (cur:=cur) hlt hpk (by rw[H7.out];exact HL.out) (by rw[H7.out];exact HT.out) (by rw[H7.out];exact HG4.out) hb4).1
    case measure =>
     rw[BU hlt (by omega)]
     exact (QInv.next (xs:=xs) (cur:=cur) hlt hpk (by rw[H7.out];exact HL.out) (by rw[H7.out];exact HT.out) (by rw[H7.out];exact HG4.out) hb4).2
  · have hkn:k=n:=by omega
    subst hkn
    go_wp2_with fail
    go_ret
    have hh:=HH.out
    have hcur:cur=Fc k xs:=by
     have h1:=HT.out
     rw[List.take_of_length_le (by have:=HL.out;omega)]at h1
     exact h1
    rw[hcur]at hh
    exact ⟨G,rfl,Nat.le_trans hx1.size hG,hh,Below.trans (hx1.trans hx2) (Below.mono HB.out (Nat.le_trans hx1.size hG))⟩
theorem Afd(n:Nat)(x:Cell)(hn:n≤1000000):Sp 233 [.sl [dC x],.int (n:Int)] [.sl (List.replicate n (dC x))]:=by
 refine JH ZM Tryz.func233 (by kernel_rfl) (by kernel_rfl) (by kernel_rfl) (fun w M vs hM _ hlv hrd=> ?_)
 have hps:Tryz.f233.params.toList = [24,3]:=by kernel_rfl
 have hu:Tryz.prog.underlying 24=some (.slice 67):=by kernel_rfl
 have hc7:Tryz.prog.cellsOf 67=7:=by kernel_rfl
 have hlen:vs.length=2:=by rw[hlv];rfl
 match vs,hlen with
 | [va,vb],_ =>
  rw[hps]at hrd
  have ra:=hrd 0 _ _ _ rfl rfl rfl
  obtain ⟨rfl,_⟩:=Agg (hrd 1 _ _ _ rfl rfl rfl)
  have hva : ∃ A c,va = .slice A 1 c:=by
   obtain ⟨h1,h2,h3⟩:=ra
   have ha:Dz va=false:=by rw[h3];kernel_rfl
   cases h1 with
   | @sl _ e _ _ A cap bk off ht hc h4 h5 hA hh =>
    rw[Hg ha]at hc
    exact ⟨A,cap,by simpa using hc⟩
  obtain ⟨A,c,rfl⟩:=hva
  obtain ⟨_,_,_,bk,off,hA,hel⟩:=AcB ra.rd hu
  obtain ⟨rfl,hMb,hbs⟩:=hA (by simp)
  obtain ⟨news,hnl,hsrc,hone,hnr⟩:=EF ZM (by rw[hc7];decide) hel
  have hn7:news.length=7:=by rw[hnl,hc7];rfl
  have hx0:=hnr 0 (dC x) rfl
  refine (Adm _ c n news w hn hn7 hone hsrc).mono ?_
  rintro e w' ⟨G,rfl,hG,hv,hx⟩
  refine ⟨[_],rfl,rfl,fun i t u ht hu'=> ?_,hx⟩
  rw[show Tryz.f233.resultTypes.toList = [24] by kernel_rfl]at ht
  match i with
  | 0 =>
   cases ht;cases hu'
   have hGs : ¬ M G:=fun hm=>by have:=hM G hm;omega
   have hGl:G<w'.heap.size:=(Array.getElem?_eq_some_iff.1 hv).1
   refine ⟨.sl (e:=67) (A:=some ⟨G,0,none⟩) (cap:=n) (bk:=G) (off:=0) hu (by simp;rfl) (by simp) (by unfold maxLen;omega) (fun _=>⟨rfl,hGs,hGl⟩) (fun i y hy=> ?_),by kernel_rfl,by kernel_rfl⟩
   have hi:i<n:=by have:=(List.getElem?_eq_some_iff.1 hy).1;simpa using this
   have hy':y=dC x:=by
    have:=List.mem_of_getElem? hy
    exact List.eq_of_mem_replicate this
   subst hy'
   have h1:=hx0.mono (w':=w') (M':=M) hx.size (fun b _ hb=>hx.block b hb) (fun b hb _=>hb)
   refine h1.congr (fun j hj=> ?_) (by show 0<Tryz.prog.cellsOf 67;rw[hc7];decide)
   have hj7:j<7:=by
    have:j<Tryz.prog.cellsOf 67:=hj
    rwa[hc7]at this
   show w'.cell? ⟨G,0+(i*Tryz.prog.cellsOf 67+j),none⟩=news[0*Tryz.prog.cellsOf 67+j]?
   rw[hc7,Nat.zero_mul,Nat.zero_add,Nat.zero_add,← Aeb (xs:=news) hi (by omega),hn7]
   unfold World.cell?
   simp[hv]
  | i+1=>simp at ht
end Go.Proofs.YtokkbgpgaheakaaGreat
namespace Go.Proofs.YtokkbgpgaheakaaGreat
def M7:List (Nat×Orc):=[(10,⟨[(1,none),(2,none),(6,none),(28,some 23),(29,none),(30,none)],[(1,true),(2,false)],[(.slot 6,1100,67)]⟩)]
noncomputable def Ke(n m10:Nat)(cells6:List D)(t28:D)(t29 t30:Int)(a1:D)(t2_0:Int):Tree :=
 lA (eA M7 n 68 [1,1,1,1,1,1,0,1,0,0]) (Ao M7 10) m10 ⟨(.undef:: .ptr 1 []:: .ptr 2 []::uA 3++(.row 1100::uA 21++(.d 23 t28:: .i .i64 t29:: .i .i64 t30::uA 18))),[(1,.var 26 (.d 26 a1) true),(2,.var 26 (.agg 26 [.i .u64 t2_0,.mt,.mt]) true),(1100,.row 67 cells6 true)],[1,2,1100],[],[]⟩
  (Ak 0 (Au (jA M7 n 68 [1,1,1,1,1,1,1]) (rA 68 [26] [.cell 2 26,.tmp 3] [26,29])))
theorem R3(n m10:Nat)(cells6:List D)(t28:D)(t29 t30:Int)(a1:D)(t2_0:Int):Ke n (m10+1) cells6 t28 t29 t30 a1 t2_0 =
 .br (decide (t30<t29)) (.br (decide (0≤t30)) (.br (decide (t30<(t28.els.length:Int))) (.br (((t28.els.getD (Int.toNat t30) D.nil).toInt)==1) (.call 138 [] [D.int (IntKind.wrap .i64 (t30+1))] fun yy3 =>
 .br (decide (cells6.length + [yy3.getD 0 D.nil].length≤Ar)) (Ke n m10 (cells6++[yy3.getD 0 D.nil]) t28 t29 (IntKind.wrap .i64 (t30+1)) a1 t2_0) .fail)
 (Ke n m10 cells6 t28 t29 (IntKind.wrap .i64 (t30+1)) a1 t2_0)) .fail) .fail)
 (.call 149 [] [D.sl cells6] fun yy4 =>
 .call 84 [] [a1] fun yy5 =>
 .call 90 [] [yy4.getD 0 D.nil,D.int ((yy5.getD 0 D.nil).toInt)] fun yy6 =>
 .ret [yy6.getD 0 D.nil,D.int 0]):=by kernel_rfl
theorem QQ(n:Nat)(a0:D):Ai Tryz.prog md M7 n 68 [] [a0] =
 .call 80 [] [a0] fun yy1 =>
 .br (((yy1.getD 1 D.nil).toInt)!=0) (.ret [D.agg [D.int 0,D.sl [],D.sl []],D.int ((yy1.getD 1 D.nil).toInt)])
 (.br ((((a0.fld 1).els).length:Int)==0) (.ret [D.agg [D.int 0,D.sl [],D.sl []],D.int 5])
 (.call 153 [] [yy1.getD 0 D.nil] fun yy2 =>
 .br (!((yy2.getD 0 D.nil).toBool)) (.ret [D.agg [D.int 0,D.sl [],D.sl []],D.int 3])
 (Ke n n [] (yy1.getD 0 D.nil) (((yy1.getD 0 D.nil).els).length:Int) 0 a0 0))):=by kernel_rfl
def Cq:List (Nat×Orc):=[(18,⟨[(3,none),(4,none),(6,none),(7,none),(9,some 23),(10,none),(11,none),(13,none),(64,some 23),(65,none),(66,none)],[(3,true),(4,true),(6,false),(7,false)],[(.slot 13,1180,3)]⟩),(25,⟨[(3,none),(4,none),(6,none),(7,none),(9,some 23),(10,none),(11,none),(13,none),(14,none),(64,some 23),(65,none),(66,none),(79,none),(80,none)],[(3,true),(4,true),(6,false),(7,false)],[(.slot 13,1250,3)]⟩)]
def Ny:List ResultVar:=[.cell 6 26,.cell 7 29]
noncomputable def Fx(n m18 m25:Nat)(s9:D)(axis10 long11:Int)(from13:List D)(i14:Int)(t64:D)(t65 t66:Int)(t79 t80:Int)(nn3 a4:D)(r6_0 e7:Int):Tree :=
 lA (eA Cq n 110 [1,1,1,1,1,1,1,1,1,1,1,1,0,1,0,0,1,1,0,0,1,1,1,1,0,0]) (Ao Cq 25) m25 ⟨(uA 3++(.ptr 3 []:: .ptr 4 []:: .undef:: .ptr 6 []:: .ptr 7 []:: .undef:: .d 23 s9:: .i .i64 axis10:: .i .i64 long11:: .undef:: .row 1250:: .i .i64 i14::uA 49++(.d 23 t64:: .i .i64 t65:: .i .i64 t66::uA 12++(.i .i64 t79:: .i .i64 t80::uA 15)))),[(3,.var 26 (.d 26 nn3) true),(4,.var 26 (.d 26 a4) true),(6,.var 26 (.agg 26 [.i .u64 r6_0,.mt,.mt]) true),(7,.var 29 (.i .i64 e7) true),(1250,.row 3 from13 true)],[3,4,6,7,1250],[(187,[.ptr 6 [],.ptr 7 []])],[]⟩
  (Ak 2 (Ak 1 (Au (jA Cq n 110 [1,1,1,1,1,1,1,1,1,1,1,1,0,1,0,0,1,1,1]) (J0 Tryz.prog md (Ao Cq 18) (fun s1=>lA (eA Cq n 110 [1,1,1,1,1,1,1,1,1,1,1,1,0,1,0,0]) (Ao Cq 18) m18 s1 (Ak 0 (Au (jA Cq n 110 [1,1,1,1,1,1,1,1,1,1,1,1,1]) (rA 110 [26,26,4] Ny [26,29])))) (Ak 0 (Au (jA Cq n 110 [1,1,1,1,1,1,1,1,1,1,1,1,1]) (rA 110 [26,26,4] Ny [26,29])))))))
noncomputable def Cp(n m18:Nat)(s9:D)(axis10 long11:Int)(from13:List D)(t64:D)(t65 t66:Int)(nn3 a4:D)(r6_0 e7:Int):Tree :=
 lA (eA Cq n 110 [1,1,1,1,1,1,1,1,1,1,1,1,0,1,0,0]) (Ao Cq 18) m18 ⟨(uA 3++(.ptr 3 []:: .ptr 4 []:: .undef:: .ptr 6 []:: .ptr 7 []:: .undef:: .d 23 s9:: .i .i64 axis10:: .i .i64 long11:: .undef:: .row 1180::uA 50++(.d 23 t64:: .i .i64 t65:: .i .i64 t66::uA 29))),[(3,.var 26 (.d 26 nn3) true),(4,.var 26 (.d 26 a4) true),(6,.var 26 (.agg 26 [.i .u64 r6_0,.mt,.mt]) true),(7,.var 29 (.i .i64 e7) true),(1180,.row 3 from13 true)],[3,4,6,7,1180],[(187,[.ptr 6 [],.ptr 7 []])],[]⟩
  (Ak 0 (Au (jA Cq n 110 [1,1,1,1,1,1,1,1,1,1,1,1,1]) (rA 110 [26,26,4] Ny [26,29])))
theorem Nw(n m18 m25:Nat)(s9:D)(axis10 long11:Int)(from13:List D)(i14:Int)(t64:D)(t65 t66:Int)(t79 t80:Int)(nn3 a4:D)(r6_0 e7:Int):Fx n m18 (m25+1) s9 axis10 long11 from13 i14 t64 t65 t66 t79 t80 nn3 a4 r6_0 e7 =
 .br (decide (t80<t79)) (.br (decide (from13.length + [D.int i14].length≤Ar)) (Fx n m18 m25 s9 axis10 long11 (from13++[D.int i14]) i14 t64 t65 t66 t79 (IntKind.wrap .i64 (t80+1)) nn3 a4 r6_0 e7) .fail)
 (Cp n m18 s9 axis10 long11 from13 t64 t65 (IntKind.wrap .i64 (t66+1)) nn3 a4 r6_0 e7):=by kernel_rfl
theorem Nv(n m18:Nat)(s9:D)(axis10 long11:Int)(from13:List D)(t64:D)(t65 t66:Int)(nn3 a4:D)(r6_0 e7:Int):Cp n (m18+1) s9 axis10 long11 from13 t64 t65 t66 nn3 a4 r6_0 e7 =
 .br (decide (t66<t65)) (.br (decide (0≤t66)) (.br (decide (t66<(t64.els.length:Int))) (.br (decide ((IntKind.wrap .i64 (2048-(from13.length:Int)))<((t64.els.getD (Int.toNat t66) D.nil).toInt))) (.ret [D.agg [D.int 0,D.sl [],D.sl []],D.int 7])
 (.br (long11 == 1) (Fx n m18 n s9 axis10 long11 from13 0 t64 t65 t66 ((t64.els.getD (Int.toNat t66) D.nil).toInt) 0 nn3 a4 r6_0 e7)
 (Fx n m18 n s9 axis10 long11 from13 t66 t64 t65 t66 ((t64.els.getD (Int.toNat t66) D.nil).toInt) 0 nn3 a4 r6_0 e7))) .fail) .fail)
 (.call 190 [] [nn3,a4,s9,D.int axis10,D.sl from13] fun yy5 =>
 .ret [yy5.getD 0 D.nil,D.int ((yy5.getD 1 D.nil).toInt)]):=by kernel_rfl
theorem DB(n:Nat)(nn0 a1 first2:D):Ai Tryz.prog md Cq n 110 [] [nn0,a1,first2] =
 .call 80 [] [nn0] fun yy1 =>
 .br (((yy1.getD 1 D.nil).toInt)!=0) (.ret [D.agg [D.int 0,D.sl [],D.sl []],D.int ((yy1.getD 1 D.nil).toInt)])
 (.call 167 [] [yy1.getD 0 D.nil,D.fn 188 [] []] fun yy2 =>
 .br ((yy2.getD 0 D.nil).toBool) (.ret [D.agg [D.int 0,D.sl [],D.sl []],D.int 3])
 (.call 189 [] [a1,D.bool first2.toBool] fun yy3 =>
 .br (decide (0≤(yy3.getD 1 D.nil).toInt)) (.br (decide ((yy3.getD 1 D.nil).toInt<(((yy3.getD 0 D.nil).els).length:Int))) (.br (!((((nn0.fld 1).els).length:Int)==0)) (.br (((((yy3.getD 0 D.nil).els).getD (Int.toNat ((yy3.getD 1 D.nil).toInt)) D.nil).toInt)!=1) (.br ((((yy1.getD 0 D.nil).els).length:Int)!=((((yy3.getD 0 D.nil).els).getD (Int.toNat ((yy3.getD 1 D.nil).toInt)) D.nil).toInt)) (.ret [D.agg [D.int 0,D.sl [],D.sl []],D.int 4])
 (.br (decide (2048<((((yy3.getD 0 D.nil).els).getD (Int.toNat ((yy3.getD 1 D.nil).toInt)) D.nil).toInt))) (.ret [D.agg [D.int 0,D.sl [],D.sl []],D.int 7])
 (.br ((((nn0.fld 1).els).length:Int)==0) (.call 177 [] [yy1.getD 0 D.nil,D.int ((((yy3.getD 0 D.nil).els).getD (Int.toNat ((yy3.getD 1 D.nil).toInt)) D.nil).toInt)] fun yy4 =>
 Cp n n (yy3.getD 0 D.nil) ((yy3.getD 1 D.nil).toInt) ((((yy3.getD 0 D.nil).els).getD (Int.toNat ((yy3.getD 1 D.nil).toInt)) D.nil).toInt) [] (yy4.getD 0 D.nil) (((yy4.getD 0 D.nil).els).length:Int) 0 nn0 a1 0 ((yy1.getD 1 D.nil).toInt))
 (Cp n n (yy3.getD 0 D.nil) ((yy3.getD 1 D.nil).toInt) ((((yy3.getD 0 D.nil).els).getD (Int.toNat ((yy3.getD 1 D.nil).toInt)) D.nil).toInt) [] (yy1.getD 0 D.nil) (((yy1.getD 0 D.nil).els).length:Int) 0 nn0 a1 0 ((yy1.getD 1 D.nil).toInt)))))
 (.br (decide (2048<((((yy3.getD 0 D.nil).els).getD (Int.toNat ((yy3.getD 1 D.nil).toInt)) D.nil).toInt))) (.ret [D.agg [D.int 0,D.sl [],D.sl []],D.int 7])
 (.br ((((nn0.fld 1).els).length:Int)==0) (.call 177 [] [yy1.getD 0 D.nil,D.int ((((yy3.getD 0 D.nil).els).getD (Int.toNat ((yy3.getD 1 D.nil).toInt)) D.nil).toInt)] fun yy6 =>
 Cp n n (yy3.getD 0 D.nil) ((yy3.getD 1 D.nil).toInt) ((((yy3.getD 0 D.nil).els).getD (Int.toNat ((yy3.getD 1 D.nil).toInt)) D.nil).toInt) [] (yy6.getD 0 D.nil) (((yy6.getD 0 D.nil).els).length:Int) 0 nn0 a1 0 ((yy1.getD 1 D.nil).toInt))
 (Cp n n (yy3.getD 0 D.nil) ((yy3.getD 1 D.nil).toInt) ((((yy3.getD 0 D.nil).els).getD (Int.toNat ((yy3.getD 1 D.nil).toInt)) D.nil).toInt) [] (yy1.getD 0 D.nil) (((yy1.getD 0 D.nil).els).length:Int) 0 nn0 a1 0 ((yy1.getD 1 D.nil).toInt)))))
 (.br (decide (2048<((((yy3.getD 0 D.nil).els).getD (Int.toNat ((yy3.getD 1 D.nil).toInt)) D.nil).toInt))) (.ret [D.agg [D.int 0,D.sl [],D.sl []],D.int 7])
 (.br ((((nn0.fld 1).els).length:Int)==0) (.call 177 [] [yy1.getD 0 D.nil,D.int ((((yy3.getD 0 D.nil).els).getD (Int.toNat ((yy3.getD 1 D.nil).toInt)) D.nil).toInt)] fun yy7 =>
 Cp n n (yy3.getD 0 D.nil) ((yy3.getD 1 D.nil).toInt) ((((yy3.getD 0 D.nil).els).getD (Int.toNat ((yy3.getD 1 D.nil).toInt)) D.nil).toInt) [] (yy7.getD 0 D.nil) (((yy7.getD 0 D.nil).els).length:Int) 0 nn0 a1 0 ((yy1.getD 1 D.nil).toInt))
 (Cp n n (yy3.getD 0 D.nil) ((yy3.getD 1 D.nil).toInt) ((((yy3.getD 0 D.nil).els).getD (Int.toNat ((yy3.getD 1 D.nil).toInt)) D.nil).toInt) [] (yy1.getD 0 D.nil) (((yy1.getD 0 D.nil).els).length:Int) 0 nn0 a1 0 ((yy1.getD 1 D.nil).toInt))))) .fail) .fail)):=by kernel_rfl
def Gb:List (Nat×Orc):=[(11,⟨[(3,none),(4,none),(6,none),(7,none),(9,some 23),(10,none),(11,none),(12,none),(39,some 23),(40,none),(41,none)],[(3,true),(4,true),(6,false),(7,false)],[(.slot 11,1110,3)]⟩),(20,⟨[(3,none),(4,none),(6,none),(7,none),(9,some 23),(10,none),(11,none),(64,none),(65,none)],[(3,true),(4,true),(6,false),(7,false)],[(.slot 11,1200,3)]⟩)]
def Zz:List ResultVar:=[.cell 6 26,.cell 7 29]
noncomputable def Jf(n m20:Nat)(s9:D)(axis10:Int)(from11:List D)(t64 t65:Int)(nn3 a4:D)(r6_0 e7:Int):Tree :=
 lA (eA Gb n 111 [1,1,1,1,1,1,1,1,1,0,1,0,1,0,0]) (Ao Gb 20) m20 ⟨(uA 3++(.ptr 3 []:: .ptr 4 []:: .undef:: .ptr 6 []:: .ptr 7 []:: .undef:: .d 23 s9:: .i .i64 axis10:: .row 1200::uA 52++(.i .i64 t64:: .i .i64 t65::uA 26))),[(3,.var 26 (.d 26 nn3) true),(4,.var 26 (.d 26 a4) true),(6,.var 26 (.agg 26 [.i .u64 r6_0,.mt,.mt]) true),(7,.var 29 (.i .i64 e7) true),(1200,.row 3 from11 true)],[3,4,6,7,1200],[(191,[.ptr 6 [],.ptr 7 []])],[]⟩
  (Ak 2 (Au (jA Gb n 111 [1,1,1,1,1,1,1,1,1,1]) (rA 111 [26,26,4] Zz [26,29])))
noncomputable def Je(n m11:Nat)(s9:D)(axis10:Int)(from11:List D)(ones12:Int)(t39:D)(t40 t41:Int)(nn3 a4:D)(r6_0 e7:Int):Tree :=
 lA (eA Gb n 111 [1,1,1,1,1,1,1,1,0,1,0,0]) (Ao Gb 11) m11 ⟨(uA 3++(.ptr 3 []:: .ptr 4 []:: .undef:: .ptr 6 []:: .ptr 7 []:: .undef:: .d 23 s9:: .i .i64 axis10:: .row 1110:: .i .i64 ones12::uA 26++(.d 23 t39:: .i .i64 t40:: .i .i64 t41::uA 50))),[(3,.var 26 (.d 26 nn3) true),(4,.var 26 (.d 26 a4) true),(6,.var 26 (.agg 26 [.i .u64 r6_0,.mt,.mt]) true),(7,.var 29 (.i .i64 e7) true),(1110,.row 3 from11 true)],[3,4,6,7,1110],[(191,[.ptr 6 [],.ptr 7 []])],[]⟩
  (Ak 0 (Au (jA Gb n 111 [1,1,1,1,1,1,1,1,1]) (rA 111 [26,26,4] Zz [26,29])))
theorem Qq(n m20:Nat)(s9:D)(axis10:Int)(from11:List D)(t64 t65:Int)(nn3 a4:D)(r6_0 e7:Int):Jf n (m20+1) s9 axis10 from11 t64 t65 nn3 a4 r6_0 e7 =
 .br (decide (t65<t64)) (.br (decide (0≤t65)) (.br (decide (t65<(from11.length:Int))) (.br (decide (0≤t65)) (.br (decide (t65<(from11.length:Int))) (Jf n m20 s9 axis10 (from11.set (Int.toNat t65) (D.int (if 0<((from11.getD (Int.toNat t65) D.nil).toInt) then 0 else ((from11.getD (Int.toNat t65) D.nil).toInt)))) t64 (IntKind.wrap .i64 (t65+1)) nn3 a4 r6_0 e7) .fail) .fail) .fail) .fail)
 (.call 190 [] [nn3,a4,s9,D.int axis10,D.sl from11] fun yy4 =>
 .ret [yy4.getD 0 D.nil,D.int ((yy4.getD 1 D.nil).toInt)]):=by kernel_rfl
theorem Qp(n m11:Nat)(s9:D)(axis10:Int)(from11:List D)(ones12:Int)(t39:D)(t40 t41:Int)(nn3 a4:D)(r6_0 e7:Int):Je n (m11+1) s9 axis10 from11 ones12 t39 t40 t41 nn3 a4 r6_0 e7 =
 .br (decide (t41<t40)) (.br (decide (0≤t41)) (.br (decide (t41<(t39.els.length:Int))) (.br (decide (0≤t41)) (.br (decide (t41<(from11.length:Int))) (.br (((t39.els.getD (Int.toNat t41) D.nil).toInt)==1) (.br (decide (0≤t41)) (.br (decide (t41<((from11.set (Int.toNat t41) (D.int (-1))).length:Int))) (Je n m11 s9 axis10 ((from11.set (Int.toNat t41) (D.int (-1))).set (Int.toNat t41) (D.int ones12)) (IntKind.wrap .i64 (ones12+1)) t39 t40 (IntKind.wrap .i64 (t41+1)) nn3 a4 r6_0 e7) .fail) .fail)
 (Je n m11 s9 axis10 (from11.set (Int.toNat t41) (D.int (-1))) ones12 t39 t40 (IntKind.wrap .i64 (t41+1)) nn3 a4 r6_0 e7)) .fail) .fail) .fail) .fail)
 (.br (decide (0≤axis10)) (.br (decide (axis10<(s9.els.length:Int))) (.br (((s9.els.getD (Int.toNat axis10) D.nil).toInt)==1) (Jf n n s9 axis10 from11 (from11.length:Int) 0 nn3 a4 r6_0 e7)
 (.br (decide (0≤axis10)) (.br (decide (axis10<(s9.els.length:Int))) (.br (ones12 != ((s9.els.getD (Int.toNat axis10) D.nil).toInt)) (.ret [D.agg [D.int 0,D.sl [],D.sl []],D.int 4])
 (.call 190 [] [nn3,a4,s9,D.int axis10,D.sl from11] fun yy5 =>
 .ret [yy5.getD 0 D.nil,D.int ((yy5.getD 1 D.nil).toInt)])) .fail) .fail)) .fail) .fail):=by kernel_rfl
theorem NH(n:Nat)(nn0 a1 first2:D):Ai Tryz.prog md Gb n 111 [] [nn0,a1,first2] =
 .call 80 [] [nn0] fun yy1 =>
 .br (((yy1.getD 1 D.nil).toInt)!=0) (.ret [D.agg [D.int 0,D.sl [],D.sl []],D.int ((yy1.getD 1 D.nil).toInt)])
 (.call 153 [] [yy1.getD 0 D.nil] fun yy2 =>
 .br (!((yy2.getD 0 D.nil).toBool)) (.ret [D.agg [D.int 0,D.sl [],D.sl []],D.int 3])
 (.call 189 [] [a1,D.bool first2.toBool] fun yy3 =>
 .br (decide (0≤(((yy1.getD 0 D.nil).els).length:Int))) (.br (decide ((((yy1.getD 0 D.nil).els).length:Int)≤(((yy1.getD 0 D.nil).els).length:Int))) (.br (decide ((((yy1.getD 0 D.nil).els).length:Int)≤Ar)) (Je n n (yy3.getD 0 D.nil) ((yy3.getD 1 D.nil).toInt) (List.replicate (Int.toNat (((yy1.getD 0 D.nil).els).length:Int)) (D.int 0)) 0 (yy1.getD 0 D.nil) (((yy1.getD 0 D.nil).els).length:Int) 0 nn0 a1 0 ((yy1.getD 1 D.nil).toInt)) .fail) .fail) .fail)):=by kernel_rfl
def Ow:List (Nat×Orc):=[(2,⟨[(5,some 23),(6,none),(7,none)],[],[]⟩)]
noncomputable def Kf(n m2:Nat)(t5:D)(t6 t7:Int):Tree :=
 lA (eA Ow n 153 [1,0,1,0,0]) (Ao Ow 2) m2 ⟨(uA 5++(.d 23 t5:: .i .i64 t6:: .i .i64 t7::uA 10)),[],[],[],[]⟩
  (Ak 0 (Au (jA Ow n 153 [1,1]) (rA 153 [23] [.tmp 2] [4])))
theorem Vk(n m2:Nat)(t5:D)(t6 t7:Int):Kf n (m2+1) t5 t6 t7 =
 .br (decide (t7<t6)) (.br (decide (0≤t7)) (.br (decide (t7<(t5.els.length:Int))) (.br (((t5.els.getD (Int.toNat t7) D.nil).toInt)!=0) (.br (((t5.els.getD (Int.toNat t7) D.nil).toInt)!=1) (.ret [D.bool false])
 (Kf n m2 t5 t6 (IntKind.wrap .i64 (t7+1))))
 (Kf n m2 t5 t6 (IntKind.wrap .i64 (t7+1)))) .fail) .fail)
 (.ret [D.bool true]):=by kernel_rfl
theorem VK(n:Nat)(l0:D):Ai Tryz.prog md Ow n 153 [] [l0] =
 Kf n n l0 (l0.els.length:Int) 0:=by kernel_rfl
theorem Z1(n:Nat)(k0:D):Ai Tryz.prog md [] n 188 [] [k0] =
 .ret [D.bool (decide (k0.toInt<0))]:=by kernel_rfl
theorem VJ(n:Nat)(a0 first1:D):Ai Tryz.prog md [] n 189 [] [a0,first1] =
 .br ((((a0.fld 1).els).length:Int)==0) (.ret [D.sl [D.int 1],D.int 0])
 (.br first1.toBool (.call 96 [] [a0.fld 1] fun yy1 =>
 .ret [D.sl ((yy1.getD 0 D.nil).els),D.int 0])
 (.call 96 [] [a0.fld 1] fun yy2 =>
 .ret [D.sl ((yy2.getD 0 D.nil).els),D.int (IntKind.wrap .i64 ((((a0.fld 1).els).length:Int)-1))])):=by kernel_rfl
def Dx:List (Nat×Orc):=[(9,⟨[(2,some 23),(3,none),(4,some 23),(5,none),(6,none),(10,none),(12,some 23),(18,none),(20,none),(21,none),(55,none),(56,none)],[(5,true),(6,true),(10,false),(20,true)],[(.slot 21,1090,67)]⟩),(12,⟨[(2,some 23),(3,none),(4,some 23),(5,none),(6,none),(10,none),(12,some 23),(18,none),(20,none),(21,none),(22,none),(55,none),(56,none),(59,some 23),(60,none),(61,none)],[(5,true),(6,true),(10,false),(20,true)],[(.slot 21,1120,67)]⟩)]
def Xb:List Nat:=[26,26,23,3,23]
def Xc:List ResultVar:=[.cell 10 26,.tmp 11]
noncomputable def Lc(n m9 m12:Nat)(s2:D)(axis3:Int)(from4 t12:D)(behind18:Int)(cells21:List D)(i22 t55 t56:Int)(t59:D)(t60 t61:Int)(nn5 a6:D)(t10_0:Int)(fill20:D):Tree :=
 lA (eA Dx n 190 [1,1,1,1,1,1,1,0,1,0,0,1,1,0,0,1,1,0,0]) (Ao Dx 12) m12 ⟨(.undef:: .undef:: .d 23 s2:: .i .i64 axis3:: .d 23 from4:: .ptr 5 []:: .ptr 6 []::uA 3++(.ptr 10 []:: .undef:: .d 23 t12::uA 5++(.i .i64 behind18:: .undef:: .ptr 20 []:: .row 1120:: .i .i64 i22::uA 32++(.i .i64 t55:: .i .i64 t56:: .undef:: .undef:: .d 23 t59:: .i .i64 t60:: .i .i64 t61::uA 40)))),[(5,.var 26 (.d 26 nn5) true),(6,.var 26 (.d 26 a6) true),(10,.var 26 (.agg 26 [.i .u64 t10_0,.mt,.mt]) true),(20,.var 67 (.d 67 fill20) true),(1120,.row 67 cells21 true)],[5,6,10,20,1120],[],[]⟩
  (Ak 2 (Ak 1 (Au (jA Dx n 190 [1,1,1,1,1,1,1,0,1,0,0,1,1,1]) (J0 Tryz.prog md (Ao Dx 9) (fun s1=>lA (eA Dx n 190 [1,1,1,1,1,1,1,0,1,0,0]) (Ao Dx 9) m9 s1 (Ak 0 (Au (jA Dx n 190 [1,1,1,1,1,1,1,1]) (rA 190 Xb Xc [26,29])))) (Ak 0 (Au (jA Dx n 190 [1,1,1,1,1,1,1,1]) (rA 190 Xb Xc [26,29])))))))
noncomputable def Qr(n m9:Nat)(s2:D)(axis3:Int)(from4 t12:D)(behind18:Int)(cells21:List D)(t55 t56:Int)(nn5 a6:D)(t10_0:Int)(fill20:D):Tree :=
 lA (eA Dx n 190 [1,1,1,1,1,1,1,0,1,0,0]) (Ao Dx 9) m9 ⟨(.undef:: .undef:: .d 23 s2:: .i .i64 axis3:: .d 23 from4:: .ptr 5 []:: .ptr 6 []::uA 3++(.ptr 10 []:: .undef:: .d 23 t12::uA 5++(.i .i64 behind18:: .undef:: .ptr 20 []:: .row 1090::uA 33++(.i .i64 t55:: .i .i64 t56::uA 45)))),[(5,.var 26 (.d 26 nn5) true),(6,.var 26 (.d 26 a6) true),(10,.var 26 (.agg 26 [.i .u64 t10_0,.mt,.mt]) true),(20,.var 67 (.d 67 fill20) true),(1090,.row 67 cells21 true)],[5,6,10,20,1090],[],[]⟩
  (Ak 0 (Au (jA Dx n 190 [1,1,1,1,1,1,1,1]) (rA 190 Xb Xc [26,29])))
theorem Uq(n m9 m12:Nat)(s2:D)(axis3:Int)(from4 t12:D)(behind18:Int)(cells21:List D)(i22 t55 t56:Int)(t59:D)(t60 t61:Int)(nn5 a6:D)(t10_0:Int)(fill20:D):Lc n m9 (m12+1) s2 axis3 from4 t12 behind18 cells21 i22 t55 t56 t59 t60 t61 nn5 a6 t10_0 fill20 =
 .br (decide (t61<t60)) (.br (decide (0≤t61)) (.br (decide (t61<(t59.els.length:Int))) (.br (decide (((t59.els.getD (Int.toNat t61) D.nil).toInt)<0)) (.call 233 [] [D.sl [fill20],D.int behind18] fun yy5 =>
 .br (decide (cells21.length+((yy5.getD 0 D.nil).els).length≤Ar)) (Lc n m9 m12 s2 axis3 from4 t12 behind18 (cells21++((yy5.getD 0 D.nil).els)) i22 t55 t56 t59 t60 (IntKind.wrap .i64 (t61+1)) nn5 a6 t10_0 fill20) .fail)
 (.br (decide (0≤axis3)) (.br (decide (axis3<(s2.els.length:Int))) (.br (decide (0≤IntKind.wrap .i64 ((IntKind.wrap .i64 ((IntKind.wrap .i64 (i22*((s2.els.getD (Int.toNat axis3) D.nil).toInt)))+((t59.els.getD (Int.toNat t61) D.nil).toInt)))*behind18))) (.br (decide (IntKind.wrap .i64 ((IntKind.wrap .i64 ((IntKind.wrap .i64 (i22*((s2.els.getD (Int.toNat axis3) D.nil).toInt)))+((t59.els.getD (Int.toNat t61) D.nil).toInt)))*behind18)≤IntKind.wrap .i64 ((IntKind.wrap .i64 ((IntKind.wrap .i64 ((IntKind.wrap .i64 (i22*((s2.els.getD (Int.toNat axis3) D.nil).toInt)))+((t59.els.getD (Int.toNat t61) D.nil).toInt)))*behind18))+behind18))) (.br (decide (IntKind.wrap .i64 ((IntKind.wrap .i64 ((IntKind.wrap .i64 ((IntKind.wrap .i64 (i22*((s2.els.getD (Int.toNat axis3) D.nil).toInt)))+((t59.els.getD (Int.toNat t61) D.nil).toInt)))*behind18))+behind18)≤(((a6.fld 2).els).length:Int))) (.br (decide (cells21.length+((((a6.fld 2).els).take (Int.toNat (IntKind.wrap .i64 ((IntKind.wrap .i64 ((IntKind.wrap .i64 ((IntKind.wrap .i64 (i22*((s2.els.getD (Int.toNat axis3) D.nil).toInt)))+((t59.els.getD (Int.toNat t61) D.nil).toInt)))*behind18))+behind18)))).drop (Int.toNat (IntKind.wrap .i64 ((IntKind.wrap .i64 ((IntKind.wrap .i64 (i22*((s2.els.getD (Int.toNat axis3) D.nil).toInt)))+((t59.els.getD (Int.toNat t61) D.nil).toInt)))*behind18)))).length≤Ar)) (Lc n m9 m12 s2 axis3 from4 t12 behind18 (cells21++((((a6.fld 2).els).take (Int.toNat (IntKind.wrap .i64 ((IntKind.wrap .i64 ((IntKind.wrap .i64 ((IntKind.wrap .i64 (i22*((s2.els.getD (Int.toNat axis3) D.nil).toInt)))+((t59.els.getD (Int.toNat t61) D.nil).toInt)))*behind18))+behind18)))).drop (Int.toNat (IntKind.wrap .i64 ((IntKind.wrap .i64 ((IntKind.wrap .i64 (i22*((s2.els.getD (Int.toNat axis3) D.nil).toInt)))+((t59.els.getD (Int.toNat t61) D.nil).toInt)))*behind18))))) i22 t55 t56 t59 t60 (IntKind.wrap .i64 (t61+1)) nn5 a6 t10_0 fill20) .fail) .fail) .fail) .fail) .fail) .fail)) .fail) .fail)
 (Qr n m9 s2 axis3 from4 t12 behind18 cells21 t55 (IntKind.wrap .i64 (t56+1)) nn5 a6 t10_0 fill20):=by kernel_rfl
theorem Vl(n m9:Nat)(s2:D)(axis3:Int)(from4 t12:D)(behind18:Int)(cells21:List D)(t55 t56:Int)(nn5 a6:D)(t10_0:Int)(fill20:D):Qr n (m9+1) s2 axis3 from4 t12 behind18 cells21 t55 t56 nn5 a6 t10_0 fill20 =
 .br (decide (t56<t55)) (Lc n m9 n s2 axis3 from4 t12 behind18 cells21 t56 t55 t56 from4 (from4.els.length:Int) 0 nn5 a6 t10_0 fill20)
 (.call 84 [] [nn5] fun yy6 =>
 .call 83 [] [D.int ((a6.fld 0).toInt),D.int ((yy6.getD 0 D.nil).toInt)] fun yy7 =>
 .ret [D.agg [D.int ((yy7.getD 0 D.nil).toInt),t12,D.sl cells21],D.int 0]):=by kernel_rfl
theorem VM(n:Nat)(nn0 a1:D)(s2 axis3 from4:D):Ai Tryz.prog md Dx n 190 [] [nn0,a1,s2,axis3,from4] =
 .call 173 [] [s2,D.int axis3.toInt,D.int (from4.els.length:Int)] fun yy1 =>
 .call 81 [] [yy1.getD 0 D.nil] fun yy2 =>
 .br (((yy2.getD 1 D.nil).toInt)!=0) (.ret [D.agg [D.int 0,D.sl [],D.sl []],D.int ((yy2.getD 1 D.nil).toInt)])
 (.call 140 [] [yy1.getD 0 D.nil,D.int axis3.toInt] fun yy3 =>
 .call 82 [] [a1] fun yy4 =>
 .br (decide (0≤0)) (.br (decide (0≤(yy2.getD 0 D.nil).toInt)) (.br (decide ((yy2.getD 0 D.nil).toInt≤Ar)) (Qr n n s2 axis3.toInt from4 (yy1.getD 0 D.nil) ((yy3.getD 2 D.nil).toInt) (List.replicate (Int.toNat 0) (D.agg [D.int 0,D.int 0,D.agg [D.bool false,D.sl [],D.sl []],D.int 0,D.sl []])) ((yy3.getD 0 D.nil).toInt) 0 nn0 a1 0 (yy4.getD 0 D.nil)) .fail) .fail) .fail):=by kernel_rfl
def AaH(a:Arr)(L B:Nat)(fr:List Int)(j:Nat):Cell:=if fr.getD (j / B % fr.length) 0<0 then Eg a else a.cells.getD ((j / B / fr.length*L+(fr.getD (j / B % fr.length) 0).toNat)*B+j % B) Cell.none
def Ik(a:Arr)(s:List Nat)(x:Nat)(fr:List Int)(more:Co):Arr×Int:=if (Ay (iN (s.set x fr.length))).2≠0 then (.none,(Ay (iN (s.set x fr.length))).2) else (.mk (a.s|||more) (iN (s.set x fr.length)) ((List.range (Kq (s.set x fr.length))).map (AaH a (s.getD x 0) (D4 (s.drop (x+1))) fr)),0)
theorem AhO{s:List Nat}{x:Nat}(hx:x<s.length):s=s.take x++s.getD x 0::s.drop (x+1)∧(s.take x).length=x:=by
 refine ⟨?_,by rw[List.length_take];omega⟩
 rw[List.getD_eq_getElem?_getD,List.getElem?_eq_getElem hx]
 conv=>lhs;rw[← List.take_append_drop x s,List.drop_eq_getElem_cons hx]
 rfl
theorem Agu{s:List Nat}{x F:Nat}(hx:x<s.length):s.set x F=s.take x++F::s.drop (x+1):=by
 rw[List.set_eq_take_append_cons_drop,if_pos hx]
theorem LI(A Bl:List Nat)(F:Nat):D4 (A++F::Bl)=D4 A*(F*D4 Bl):=by rw[YU];rfl
def Aeq(L:Nat)(fr:List Int):Prop:=∀ k∈fr,k<0∨(0≤k∧k<(L:Int))
theorem Ahc{l:List Int}{i:Nat}(h:i<l.length):l.getD i 0∈l:=by
 rw[List.getD_eq_getElem?_getD,List.getElem?_eq_getElem h];exact List.getElem_mem h
structure Boxed (a:Arr) (s:List Nat):Prop where
 ok:(Ay (iN s)).2=0
 len:a.cells.length=Kq s
theorem AgM{s:List Nat}(h:(Ay (iN s)).2=0)(hp : ∀ x∈s,1≤x):Kq s=D4 s:=by
 rcases (Vv h).2 with ⟨h0,_⟩ | h1
 · have:=hp 0 h0;omega
 · exact h1.2.1
theorem FO : ∀ (l:List Nat) (p:Nat),p≤2048→∃ r:Nat,Bg (iN l) (p:Int)=(r:Int)∧r≤2048
 | [],p,h=>⟨p,rfl,h⟩
 | x::xs,p,h=>by
  simp only[iN,List.map_cons,Bg]
  split
  · exact ⟨0,rfl,by omega⟩
  · rename_i h2
    have:=FO xs (p*x) (by
     have:((p*x:Nat):Int)≤2048:=by rw[Int.natCast_mul];omega
     omega)
    simpa [iN]using this
theorem Acd : ∀ (l:List Nat),Bg (iN l) 0=0
 | []=>rfl
 | x::xs=>by
  simp only[iN,List.map_cons,Bg,Int.zero_mul]
  rw[if_neg (by omega)];exact Acd xs
theorem BS : ∀ (l:List Nat) (p:Int),0∈l→Bg (iN l) p=0
 | x::xs,p,h=>by
  simp only[iN,List.map_cons,Bg]
  split
  · rfl
  · rcases List.mem_cons.1 h with h | h
    · subst h
      rw[show p*((0:Nat):Int)=0 by simp];exact Acd xs
    · exact BS xs _ h
theorem Yh : ∀ (l:List Nat),(∀ x∈l,1≤x)→1≤D4 l
 | [],_=>Nat.le_refl _
 | x::xs,h=>Nat.mul_pos (h x (by simp)) (Yh xs (fun y hy=>h y (by simp[hy])))
theorem BQ : ∀ (l:List Nat) (p:Nat),(∀ x∈l,1≤x)→p*D4 l≤2048→Bg (iN l) (p:Int)=((p*D4 l:Nat):Int)
 | [],p,_,_=>by simp[iN,Bg,D4]
 | x::xs,p,h,hb=>by
  have hp:=Yh xs (fun y hy=>h y (by simp[hy]))
  simp only[D4,← Nat.mul_assoc]at hb ⊢
  have h1:p*x≤p*x*D4 xs:=Nat.le_mul_of_pos_right _ hp
  have h2:(p:Int)*(x:Int)=((p*x:Nat):Int):=by rw[Int.natCast_mul]
  simp only[iN,List.map_cons,Bg,h2]
  rw[if_neg (by omega)]
  exact BQ xs (p*x) (fun y hy=>h y (by simp[hy])) hb
theorem AT{α β:Type}{f g:α→List β} : ∀ {l:List α},(∀ x∈l,f x=g x)→l.flatMap f=l.flatMap g
 | [],_=>rfl
 | x::xs,h=>by rw[List.flatMap_cons,List.flatMap_cons,h x (by simp),AT (fun y hy=>h y (by simp[hy]))]
theorem AV{α:Type}(g:Nat→Nat→α){m:Nat}(hm:0<m) : ∀ n:Nat,(List.range n).flatMap (fun i=>(List.range m).map (g i))=(List.range (n*m)).map (fun q=>g (q / m) (q % m))
 | 0=>by simp
 | n+1=>by
  rw[List.range_succ,List.flatMap_append,AV g hm n,Nat.succ_mul,List.range_add,List.map_append,List.map_map]
  congr 1
  simp only[List.flatMap_cons,List.flatMap_nil,List.append_nil]
  refine List.map_congr_left (fun j hj=> ?_)
  have hj:=List.mem_range.1 hj
  simp only[Function.comp]
  rw[Nat.mul_comm,Nat.mul_add_div hm,Nat.div_eq_of_lt hj,Nat.mul_add_mod,Nat.mod_eq_of_lt hj,Nat.add_zero]
theorem AgD(l:List Int):l=(List.range l.length).map (fun i=>l.getD i 0):=by
 apply List.ext_getElem
 · simp
 · intro i h1 h2
   simp[List.getD_eq_getElem?_getD,List.getElem?_eq_getElem h1]
def Tl(a:Arr)(L bh i:Nat)(k:Int):List Cell:=if k<0 then List.replicate bh (Eg a) else (a.cells.take ((i*L+k.toNat)*bh+bh)).drop ((i*L+k.toNat)*bh)
def S1(a:Arr)(L bh:Nat)(fr:List Int)(i:Nat):List Cell:=fr.flatMap (Tl a L bh i)
def OO(a:Arr)(L bh ah:Nat)(fr:List Int):Prop:=∀ i,i<ah→∀ k∈fr,0≤k→(i*L+k.toNat)*bh+bh≤a.cells.length
theorem YT{a:Arr}{L bh i:Nat}{k:Int}(h:0≤k→(i*L+k.toNat)*bh+bh≤a.cells.length):Tl a L bh i k=(List.range bh).map (fun b=>if k<0 then Eg a else a.cells.getD ((i*L+k.toNat)*bh+b) Cell.none):=by
 unfold Tl
 split
 · apply List.ext_getElem
   · simp
   · intro j h1 h2;simp
 · have h:=h (by omega)
   apply List.ext_getElem
   · simp;omega
   · intro j h1 h2
     simp only[List.length_map,List.length_range]at h2
     rw[List.getElem_drop,List.getElem_take,List.getElem_map,List.getElem_range,List.getD_eq_getElem?_getD,List.getElem?_eq_getElem (by omega)]
     rfl
theorem YS{a:Arr}{L bh i:Nat}{k:Int}(h:0≤k→(i*L+k.toNat)*bh+bh≤a.cells.length):(Tl a L bh i k).length=bh:=by rw[YT h];simp
theorem AU{α β:Type}{f:α→List β}{m:Nat} : ∀ {l:List α},(∀ x∈l,(f x).length=m)→(l.flatMap f).length=l.length*m
 | [],_=>by simp
 | x::xs,h=>by rw[List.flatMap_cons,List.length_append,h x (by simp),AU (fun y hy=>h y (by simp[hy])),List.length_cons,Nat.succ_mul];omega
theorem NY{a:Arr}{L bh ah i:Nat}{fr:List Int}(h:OO a L bh ah fr)(hi:i<ah):(S1 a L bh fr i).length=fr.length*bh:=AU (fun k hk=>YS (fun h0=>h i hi k hk h0))
theorem Aju{a:Arr}{L bh ah:Nat}{fr:List Int}(h:OO a L bh ah fr)(hF:0<fr.length)(hB:0<bh):(List.range ah).flatMap (S1 a L bh fr)=(List.range (ah*(fr.length*bh))).map (AaH a L bh fr):=by
 have e1 : ∀ i,i<ah→S1 a L bh fr i=(List.range (fr.length*bh)).map (fun q=>if fr.getD (q / bh) 0<0 then Eg a else a.cells.getD ((i*L+(fr.getD (q / bh) 0).toNat)*bh+q % bh) Cell.none):=fun i hi=>by
  rw[← AV (fun m b=>if fr.getD m 0<0 then Eg a else a.cells.getD ((i*L+(fr.getD m 0).toNat)*bh+b) Cell.none) hB]
  unfold S1
  conv=>lhs;rw[AgD fr]
  rw[List.flatMap_map]
  refine AT (fun m hm=> ?_)
  have hm:=List.mem_range.1 hm
  exact YT (fun h0=>h i hi _ (Ahc hm) h0)
 have e2:(List.range ah).flatMap (S1 a L bh fr)=(List.range ah).flatMap (fun i=>(List.range (fr.length*bh)).map (fun q=>if fr.getD (q / bh) 0<0 then Eg a else a.cells.getD ((i*L+(fr.getD (q / bh) 0).toNat)*bh+q % bh) Cell.none)):=AT (fun i hi=>e1 i (List.mem_range.1 hi))
 rw[e2,AV (fun i q=>if fr.getD (q / bh) 0<0 then Eg a else a.cells.getD ((i*L+(fr.getD (q / bh) 0).toNat)*bh+q % bh) Cell.none) (Nat.mul_pos hF hB)]
 refine List.map_congr_left (fun j _=> ?_)
 unfold AaH
 rw[Nat.mul_comm fr.length bh,Nat.mod_mul_right_mod,Nat.mod_mul_right_div_self,← Nat.div_div_eq_div_mul]
theorem FL(n a:Arr)(s:List Nat)(x:Nat)(fr:List Int)(hn:Fits n)(hb:Boxed a s)(hx:x<s.length)(hf:Aeq (s.getD x 0) fr)(hfl:fr.length≤2048):Sp 190 [dA n,dA a,dI (iN s),.int (x:Int),dI fr] [dA (Ik a s x fr (Bq n)).1,.int (Ik a s x fr (Bq n)).2]:=by
 have h6:=(Vv hb.ok).1
 have hal:a.cells.length≤2048:=by rw[hb.len];rcases (Vv hb.ok).2 with h | h <;> omega
 have hwith:=CX (iN s) (x:Int) (fr.length:Int) (by rw[W3];omega)
 unfold TJ at hwith
 rw[if_pos (by rw[W3];omega),Int.toNat_natCast,show (iN s).set x ((fr.length:Nat):Int)=iN (s.set x fr.length) by unfold iN;rw[List.map_set]]at hwith
 refine Ag 4096 (VM _ _ _ _ _ _) ?_
 simp only[Bx,List.length_map,Ah]
 refine Aa hwith (Aa (Gu _) ?_)
 unfold Ik
 simp only[Af,Ce,Ah,Cz,Cr,Gl]
 refine Ad (fun h=>Ac (by rw[if_pos h])) (fun h=> ?_)
 rw[if_neg h]
 have hok:=Classical.not_not.1 h
 obtain ⟨sp1,sp2⟩:=AhO hx
 have st:=Agu (F:=fr.length) hx
 have hcl:=Fj (iN (s.set x fr.length))
 have hcn:(Ay (iN (s.set x fr.length))).1=((Kq (s.set x fr.length):Nat):Int):=by unfold Kq;omega
 obtain ⟨ah,ha,hah⟩:=FO ((s.set x fr.length).take x) 1 (by decide)
 obtain ⟨bh,hbh,hbl⟩:=FO ((s.set x fr.length).drop (x+1)) 1 (by decide)
 have tk:(s.set x fr.length).take x=s.take x:=by rw[st,List.take_left' sp2]
 have dr:(s.set x fr.length).drop (x+1)=s.drop (x+1):=by
  rw[st,show s.take x++fr.length::s.drop (x+1)=(s.take x++[fr.length])++s.drop (x+1) by simp,List.drop_left' (by rw[List.length_append,sp2];rfl)]
 rw[tk]at ha
 rw[dr]at hbh
 have haround:=Re (iN (s.set x fr.length)) (x:Int)
 unfold Sd at haround
 rw[if_pos ⟨hok,by omega,by rw[W3,List.length_set];omega⟩,Int.toNat_natCast,show (iN (s.set x fr.length)).take x=iN (s.take x) by unfold iN;rw[← List.map_take,tk],show (iN (s.set x fr.length)).drop (x+1)=iN (s.drop (x+1)) by unfold iN;rw[← List.map_drop,dr],show (1:Int)=((1:Nat):Int) from rfl,ha,hbh]at haround
 have hL:s.getD x 0≤2048:=by
  have hm:s.getD x 0∈s:=by rw[List.getD_eq_getElem?_getD,List.getElem?_eq_getElem hx];exact List.getElem_mem hx
  have:=(E8 hb.ok).2 ((s.getD x 0:Nat):Int) (List.mem_map.2 ⟨_,hm,rfl⟩)
  omega
 have facts:OO a (s.getD x 0) bh ah fr∧ah*(fr.length*bh)=Kq (s.set x fr.length)∧(List.range ah).flatMap (S1 a (s.getD x 0) bh fr)=(List.range (Kq (s.set x fr.length))).map (AaH a (s.getD x 0) (D4 (s.drop (x+1))) fr):=by
  rcases (Vv hok).2 with ⟨hz,hc0⟩ | ⟨hpos,hcp,hc1,hc2⟩
  · have prod0:ah=0∨fr.length=0∨bh=0:=by
     rw[st]at hz
     rcases List.mem_append.1 hz with hz | hz
     · left;have:=BS _ 1 hz;rw[show (1:Int)=((1:Nat):Int) from rfl,ha]at this;omega
     · rcases List.mem_cons.1 hz with hz | hz
       · right;left;exact hz.symm
       · right;right;have:=BS _ 1 hz;rw[show (1:Int)=((1:Nat):Int) from rfl,hbh]at this;omega
    have off:OO a (s.getD x 0) bh ah fr:=fun i hi k hk h0=>by
     have:0<fr.length:=List.length_pos_of_mem hk
     have hb0:bh=0:=by omega
     rw[hb0];simp
    have prod1:ah*(fr.length*bh)=0:=by
     rcases prod0 with h | h | h <;> rw[h] <;> simp
    refine ⟨off,by omega,?_⟩
    rw[hc0]
    apply List.eq_nil_of_length_eq_zero
    rw[AU (m:=fr.length*bh) (fun i hi=>NY off (List.mem_range.1 hi)),List.length_range]
    exact prod1
  · have hpA : ∀ y∈s.take x,1≤y:=fun y hy=>(hpos y (by rw[st];simp[hy])).1
    have hpB : ∀ y∈s.drop (x+1),1≤y:=fun y hy=>(hpos y (by rw[st];simp[hy])).1
    have hF:0<fr.length:=(hpos _ (by rw[st];simp)).1
    have hA1:=Yh _ hpA
    have hB1:=Yh _ hpB
    have hcs:Kq (s.set x fr.length)=D4 (s.take x)*(fr.length*D4 (s.drop (x+1))):=by rw[hcp,st,LI]
    have m1:D4 (s.take x)≤D4 (s.take x)*(fr.length*D4 (s.drop (x+1))):=Nat.le_mul_of_pos_right _ (Nat.mul_pos hF hB1)
    have m2:D4 (s.drop (x+1))≤D4 (s.take x)*(fr.length*D4 (s.drop (x+1))):=by
     rw[← Nat.mul_assoc];exact Nat.le_mul_of_pos_left _ (Nat.mul_pos hA1 hF)
    have eA:=BQ (s.take x) 1 hpA (by omega)
    have eB:=BQ (s.drop (x+1)) 1 hpB (by omega)
    rw[ha,Nat.one_mul]at eA
    rw[hbh,Nat.one_mul]at eB
    have eA':ah=D4 (s.take x):=by omega
    have eB':bh=D4 (s.drop (x+1)):=by omega
    have off:OO a (s.getD x 0) bh ah fr:=fun i hi k hk h0=>by
     have hkl:=hf k hk
     have hkL:k.toNat<s.getD x 0:=by omega
     have hsp : ∀ y∈s,1≤y:=fun y hy=>by
       rw[sp1]at hy
       rcases List.mem_append.1 hy with hy | hy
       · exact hpA y hy
       · rcases List.mem_cons.1 hy with rfl | hy
         · omega
         · exact hpB y hy
     have hsc:=AgM hb.ok hsp
     rw[hb.len,hsc]
     conv=>rhs;rw[sp1]
     rw[LI,← eA',← eB']
     have h1:(i*s.getD x 0+k.toNat)*bh+bh=(i*s.getD x 0+k.toNat+1)*bh:=by rw[Nat.add_mul (i*s.getD x 0+k.toNat) 1,Nat.one_mul]
     have h2:i*s.getD x 0+k.toNat+1≤(i+1)*s.getD x 0:=by rw[Nat.add_mul,Nat.one_mul];omega
     have h3:(i+1)*s.getD x 0≤ah*s.getD x 0:=Nat.mul_le_mul_right _ hi
     rw[h1,← Nat.mul_assoc]
     exact Nat.mul_le_mul_right _ (Nat.le_trans h2 h3)
    refine ⟨off,by rw[eA',eB',hcs],?_⟩
    rw[Aju off hF (by omega),eA',eB',hcs]
 obtain ⟨off,hprod,hrows⟩:=facts
 have hcl2:Kq (s.set x fr.length)≤2048:=by omega
 refine Aa haround (Aa (Og a) ?_)
 simp only[Af,Ah,hcn]
 refine Ae (Ae (At (by simp only[Ar];omega) ?_))
 have lens : ∀ i,i≤ah→((List.range i).flatMap (S1 a (s.getD x 0) bh fr)).length=i*(fr.length*bh):=fun i hi=>by
  rw[AU (m:=fr.length*bh) (fun j hj=>NY off (by have:=List.mem_range.1 hj;omega)),List.length_range]
 have gL:((iN s).map D.int).getD x D.nil=D.int ((s.getD x 0:Nat):Int):=by
  rw[AjJ,Aj (List.getElem?_eq_getElem hx),List.getD_eq_getElem?_getD,List.getElem?_eq_getElem hx];rfl
 have key:=C4 (P:=Tryz.prog) (md:=md) ah (fun m i (_:Unit)=>Qr 4096 m (dI (iN s)) (x:Int) (dI fr) (dI (iN (s.set x fr.length))) (bh:Int) (((List.range i).flatMap (S1 a (s.getD x 0) bh fr)).map dC) (ah:Int) (i:Int) (dA n) (dA a) 0 (dC (Eg a))) (fun _ _=>[dA (.mk (a.s|||Bq n) (iN (s.set x fr.length)) ((List.range ah).flatMap (S1 a (s.getD x 0) bh fr))),.int 0]) (fun _ _=>True)
  (fun m t _=>by
    simp only[Vl,AgP]
    refine Am (by omega) (Aa (Cb n hn) ?_)
    simp only[Af,Ds,Si]
    refine Aa (Dc a.s _) (Ac ?_)
    simp only[Af,Ds,Si]
    rw[Fz];rfl)
  (fun m i t hi _ ih=>by
    have ih:=ih () trivial
    rw[List.range_succ,List.flatMap_append,List.flatMap_cons,List.flatMap_nil,List.append_nil]at ih
    simp only[Vl,Bx,List.length_map]
    refine Ae ?_
    have hli:=lens i (by omega)
    have hli1:=lens (i+1) (by omega)
    have hle1:(i+1)*(fr.length*bh)≤ah*(fr.length*bh):=Nat.mul_le_mul_right _ hi
    rw[Nat.succ_mul]at hle1
    have key2:=A7 (P:=Tryz.prog) (md:=md) fr (fun q k (cs:List Cell)=>Lc 4096 m q (dI (iN s)) (x:Int) (dI fr) (dI (iN (s.set x fr.length))) (bh:Int) (cs.map dC) (i:Int) (ah:Int) (i:Int) (dI fr) (fr.length:Int) (k:Int) (dA n) (dA a) 0 (dC (Eg a))) (fun _ _=>[dA (.mk (a.s|||Bq n) (iN (s.set x fr.length)) ((List.range ah).flatMap (S1 a (s.getD x 0) bh fr))),.int 0]) (fun rest cs=>cs++rest.flatMap (Tl a (s.getD x 0) bh i)=(List.range i).flatMap (S1 a (s.getD x 0) bh fr)++S1 a (s.getD x 0) bh fr i)
     (fun q k cs hk hI=>by
       rw[List.flatMap_nil,List.append_nil]at hI
       simp only[Uq,An (show i<9223372036854775807 by omega)]
       rw[hI]
       exact Am (by omega) ih)
     (fun q k cs z rest hd hI ih'=>by
       obtain ⟨h1,h2,h3⟩:=Az hd
       have hz:=List.mem_of_getElem? h2
       rw[List.flatMap_cons,← List.append_assoc]at hI
       have ih':=ih' (cs++Tl a (s.getD x 0) bh i z) hI
       have hpl:=YS (a:=a) (L:=s.getD x 0) (bh:=bh) (i:=i) (k:=z) (fun h0=>off i hi z hz h0)
       have htl:cs.length+bh≤2048:=by
         have:=congrArg List.length hI
         simp only[List.length_append,hli,NY off hi,hpl]at this
         omega
       rw[List.map_append]at ih'
       simp only[Uq,Bx,List.length_map,Int.toNat_natCast,Aj h2,Ah,An (show k<9223372036854775807 by omega),gL]
       refine Ae (Ae (Ae (Ad (fun g=> ?_) (fun g=> ?_))))
       · have e:Tl a (s.getD x 0) bh i z=List.replicate bh (Eg a):=by unfold Tl;rw[if_pos g]
         rw[e,List.map_replicate]at ih'
         refine Aa (Afd bh (Eg a) (by omega)) (At (by simp only[Af,Ez,List.length_replicate,Ar];omega) ?_)
         exact ih'
       · obtain ⟨Z,rfl⟩ : ∃ Z:Nat,z=(Z:Int):=⟨z.toNat,by omega⟩
         have ho:=off i hi _ hz (by omega)
         have e:Tl a (s.getD x 0) bh i (Z:Int)=(a.cells.take ((i*s.getD x 0+Z)*bh+bh)).drop ((i*s.getD x 0+Z)*bh):=by unfold Tl;rw[if_neg g,Int.toNat_natCast]
         rw[e,List.map_drop,List.map_take]at ih'
         rw[Int.toNat_natCast]at ho
         have hil:i*s.getD x 0≤2048*2048:=Nat.mul_le_mul (by omega) hL
         have hZ:=hf _ hz
         have w1:IntKind.wrap .i64 ((i:Int)*((s.getD x 0:Nat):Int))=((i*s.getD x 0:Nat):Int):=by rw[← Int.natCast_mul,Ap (by omega) (by omega)]
         have w2:IntKind.wrap .i64 (((i*s.getD x 0:Nat):Int)+(Z:Int))=((i*s.getD x 0+Z:Nat):Int):=by rw[Ap (by omega) (by omega)];rfl
         have w3:IntKind.wrap .i64 (((i*s.getD x 0+Z:Nat):Int)*(bh:Int))=(((i*s.getD x 0+Z)*bh:Nat):Int):=by rw[← Int.natCast_mul,Ap (by omega) (by omega)]
         have w4:IntKind.wrap .i64 ((((i*s.getD x 0+Z)*bh:Nat):Int)+(bh:Int))=(((i*s.getD x 0+Z)*bh+bh:Nat):Int):=by rw[Ap (by omega) (by omega)];rfl
         simp only[w1,w2,w3,w4,Int.toNat_natCast,AgQ,Ez,List.length_map]
         have hdl:(((a.cells.map dC).take ((i*s.getD x 0+Z)*bh+bh)).drop ((i*s.getD x 0+Z)*bh)).length=bh:=by rw[List.length_drop,List.length_take,List.length_map];omega
         simp only[hdl]
         refine Ae (At (by rw[W3];omega) (Ae (Ae (Ae (At (by simp only[Ar];omega) ?_)))))
         exact ih')
     4096 0 ((List.range i).flatMap (S1 a (s.getD x 0) bh fr)) (by omega) (by omega) (by rw[List.drop_zero];rfl)
    exact key2)
  4096 0 () (by omega) (by omega) trivial
 rw[hrows]at key
 exact key
def aN(a:Arr):List Nat:=if a.shape = [] then [1] else a.shape.map Int.toNat
def Br(a:Arr)(first:Bool):Nat:=if a.shape = [] then 0 else if first then 0 else a.shape.length-1
theorem Ait{a:Arr}(h : ∀ x∈a.shape,0≤x):iN (aN a)=if a.shape = [] then [1] else a.shape:=by
 unfold aN
 by_cases h0:a.shape = []
 · rw[if_pos h0,if_pos h0];rfl
 · rw[if_neg h0,if_neg h0]
   obtain ⟨m,hm⟩:=Ak0 h
   rw[hm]
   unfold iN
   rw[List.map_map,List.map_map]
   exact List.map_congr_left (fun x _=>by simp)
theorem OR(a:Arr)(first:Bool):Br a first<(aN a).length:=by
 unfold Br aN
 split
 · simp
 · rename_i h
   have:=List.length_pos_iff.2 h
   split <;> simp <;> omega
theorem LR{d:Nat}{a:Arr}(h:A8 d a=true):Boxed a (aN a):=by
 have hc:=(B6 h).1
 have hi:=Ait (a:=a) (fun x hx=>((Dh h).2.2 x hx).1)
 by_cases h0:a.shape = []
 · rw[if_pos h0]at hi
   rw[h0]at hc
   have e:Ay ([]:List Int)=(1,0):=by decide
   rw[e]at hc
   have e1:Ay ([1]:List Int)=(1,0):=by decide
   refine ⟨by rw[hi,e1],?_⟩
   unfold Kq
   rw[hi,e1]
   have:=congrArg Prod.fst hc
   simp only at this
   show a.cells.length=1
   omega
 · rw[if_neg h0]at hi
   refine ⟨by rw[hi,hc],?_⟩
   unfold Kq
   rw[hi,hc];simp
theorem Aio{d:Nat}{a:Arr}(h:A8 d a=true){x:Nat}(hx:x<(aN a).length):(aN a).getD x 0≤2048:=by
 have hm:(aN a).getD x 0∈aN a:=by rw[List.getD_eq_getElem?_getD,List.getElem?_eq_getElem hx];exact List.getElem_mem hx
 have:=(E8 (LR h).ok).2 (((aN a).getD x 0:Nat):Int) (List.mem_map.2 ⟨_,hm,rfl⟩)
 omega
theorem Aip{s:List Nat}{x:Nat}(hx:x<s.length):((iN s).map D.int).getD x D.nil=D.int ((s.getD x 0:Nat):Int):=by
 rw[AjJ,Aj (List.getElem?_eq_getElem hx),List.getD_eq_getElem?_getD,List.getElem?_eq_getElem hx];rfl
theorem DX(l:List Int)(h:l.length≤1000):Sp 96 [dI l] [dI l]:=by
 refine Ag 0 (Ly _ _) (Ag8 (fun h=>Ac ?_) (At (by simp only[Bx,List.length_map,List.length_nil,Ar];omega) (Ac (by simp[dI]))))
 have:l = []:=by simpa using h
 subst this;rfl
theorem FK{d:Nat}(a:Arr)(first:Bool)(h:A8 d a=true):Sp 189 [dA a,.bool first] [dI (iN (aN a)),.int ((Br a first:Nat):Int)]:=by
 have hl:=(Dh h).2.1
 have hi:=Ait (a:=a) (fun x hx=>((Dh h).2.2 x hx).1)
 refine Ag 0 (VJ _ _ _) ?_
 simp only[Ae1,Bx,List.length_map,Al,Bz]
 rw[hi]
 unfold Br
 refine Ad (fun g=>Ac ?_) (fun g=> ?_)
 · have:a.shape = []:=List.length_eq_zero_iff.1 (by omega)
   rw[if_pos this,if_pos this];rfl
 · have hne:a.shape≠[]:=fun hh=>g (by rw[hh];rfl)
   rw[if_neg hne,if_neg hne]
   refine Df (fun e=>Aa (DX a.shape (by omega)) (Ac ?_)) (fun e=>Aa (DX a.shape (by omega)) (Ac ?_))
   · rw[if_pos e];rfl
   · have hpos:=List.length_pos_iff.2 hne
     rw[if_neg (by rw[e];decide),Ap (by omega) (by omega),show ((a.shape.length-1:Nat):Int)=(a.shape.length:Int)-1 by omega];rfl
def Zi(one:Bool):List Int→Nat→List Int→Option (List Int)
 | [],_,acc=>some acc
 | k::ks,i,acc=>if 2048-(acc.length:Int)<k then none else Zi one ks (i+1) (acc++List.replicate k.toNat (if one then 0 else (i:Int)))
def lS(n:Arr)(L:Nat):List Int:=if n.shape = [] then List.replicate L ((Bc n).1.headD 0) else (Bc n).1
def RT(n a:Arr)(first:Bool):Arr×Int :=
 if (Bc n).2≠0 then (.none,(Bc n).2)
 else if ∃ k∈(Bc n).1,k<0 then (.none,3)
 else if (aN a).getD (Br a first) 0≠1∧(lS n ((aN a).getD (Br a first) 0)).length≠(aN a).getD (Br a first) 0 then (.none,4)
 else match Zi ((aN a).getD (Br a first) 0 == 1) (lS n ((aN a).getD (Br a first) 0)) 0 []with
  | none=>(.none,7)
  | some fr=>Ik a (aN a) (Br a first) fr (Bq n)
theorem BB(a:Arr):(Bc a).1.length≤a.cells.length:=by
 unfold Bc
 split
 · simp
 · split
   · rename_i l hl;have:=(Vz hl).1;simp only;omega
   · simp
theorem AeG(a:Arr) : ∀ x∈(Bc a).1,Cv x:=by
 unfold Bc
 split
 · intro x hx;cases hx
 · split
   · rename_i l hl;exact (Vz hl).2
   · intro x hx;cases hx
theorem AjP(l:List Int)(hl:l.length≤2048):Sp 167 [dI l,D.fn 188 [] []] [.bool (decide (∃ k∈l,k<0))]:=by
 have hn : ∀ k:Int,Sp 188 [.int k] [.bool (decide (k<0))]:=fun k=>Ag 0 (Z1 _ _) (Ac rfl)
 have hi:Sp 230 [dI l,D.fn 188 [] []] [.int (Ig (fun x=>decide (x<0)) 0 l)]:=by
  refine Ag 4096 (Iy _ _) ?_
  have key:=A7 (P:=Tryz.prog) (md:=md) l (fun m k (_:Unit)=>Bm 4096 m (dI l) (D.fn 188 [] []) (l.length:Int) (k:Int)) (fun rest _=>[.int (Ig (fun x=>decide (x<0)) (l.length-rest.length) rest)]) (fun _ _=>True)
   (fun m k t hk _=>by
     simp only[Et]
     exact Am (by omega) (Ac rfl))
   (fun m k t x rest hd _ ih=>by
     obtain ⟨h1,h2,h3⟩:=Az hd
     have hle:=congrArg List.length hd
     rw[List.length_drop,List.length_cons]at hle
     have ih:=ih () trivial
     rw[show l.length-rest.length=k+1 by omega]at ih
     simp only[Et,Bx,List.length_map,Int.toNat_natCast,Aj h2,Ah,H2,Gm,H1,List.append_nil,An (show k<9223372036854775807 by omega)]
     refine Ae (Ae (Ae (Aa (hn x) ?_)))
     rw[show l.length-(x::rest).length=k by rw[List.length_cons];omega]
     simp only[Af,Al,Ig]
     refine Df (fun g=>Ac (by rw[if_pos g])) (fun g=> ?_)
     rw[if_neg (by rw[g];decide)]
     exact ih)
   4096 0 () (by omega) (by omega) trivial
  simpa using key
 have hp : ∀ (m:List Int) (k:Nat),(0≤Ig (fun x=>decide (x<0)) k m)↔(∃ z∈m,z<0):=by
  intro m
  induction m with
  | nil=>intro k;simp[Ig]
  | cons z zs ih =>
   intro k
   simp only[Ig]
   by_cases g:z<0
   · rw[if_pos (decide_eq_true g)]
     exact ⟨fun _=>⟨z,by simp,g⟩,fun _=>by omega⟩
   · rw[if_neg (by rw[decide_eq_false g];decide),ih (k+1)]
     simp[g]
 refine Ag 0 (H5 _ _) (Aa hi (Ac ?_))
 exact congrArg (fun b=>[D.bool b]) (decide_eq_decide.2 (hp l 0))
theorem ZC{d:Nat}(n a:Arr)(first:Bool)(hn:Fits n)(ha:A8 d a=true)(l:List Int)(hl:l.length≤2048)(hpos : ∀ k∈l,0≤k)(hbig : ∀ k∈l,k≤9223372036854775807)(hL:(aN a).getD (Br a first) 0≠1→l.length=(aN a).getD (Br a first) 0) :
  Tw (Cp 4096 4096 (dI (iN (aN a))) ((Br a first:Nat):Int) (((aN a).getD (Br a first) 0:Nat):Int) [] (dI l) (l.length:Int) 0 (dA n) (dA a) 0 0) (match Zi ((aN a).getD (Br a first) 0 == 1) l 0 []with
   | none=>[dA .none,.int 7]
   | some fr=>[dA (Ik a (aN a) (Br a first) fr (Bq n)).1,.int (Ik a (aN a) (Br a first) fr (Bq n)).2]):=by
 have hx:=OR a first
 have key:=A7 (P:=Tryz.prog) (md:=md) l (fun m k (acc:List Int)=>Cp 4096 m (dI (iN (aN a))) ((Br a first:Nat):Int) (((aN a).getD (Br a first) 0:Nat):Int) (acc.map D.int) (dI l) (l.length:Int) (k:Int) (dA n) (dA a) 0 0) (fun rest acc=>match Zi ((aN a).getD (Br a first) 0 == 1) rest (l.length-rest.length) acc with
   | none=>[dA .none,.int 7]
   | some fr=>[dA (Ik a (aN a) (Br a first) fr (Bq n)).1,.int (Ik a (aN a) (Br a first) fr (Bq n)).2]) (fun rest acc=>acc.length≤2048∧∀ k∈acc,0≤k∧k<(((aN a).getD (Br a first) 0:Nat):Int))
  (fun m k acc hk hI=>by
   simp only[Nv]
   refine Am (by omega) (Aa (FL n a (aN a) (Br a first) acc hn (LR ha) hx (fun z hz=> .inr (hI.2 z hz)) hI.1) (Ac ?_))
   rfl)
  (fun m k acc z rest hd hI ih=>by
   obtain ⟨h1,h2,h3⟩:=Az hd
   have hle:=congrArg List.length hd
   rw[List.length_drop,List.length_cons]at hle
   have hz:=hpos z (List.mem_of_getElem? h2)
   have hzb:=hbig z (List.mem_of_getElem? h2)
   have ek:l.length-(z::rest).length=k:=by rw[List.length_cons];omega
   have ek2:l.length-rest.length=k+1:=by omega
   have w1:IntKind.wrap .i64 (2048-(acc.length:Int))=2048-(acc.length:Int):=Ap (by omega) (by omega)
   simp only[Nv,Bx,List.length_map,Int.toNat_natCast,Aj h2,Ah,w1,ek,Zi,Cr,Bz]
   refine Ae (Ae (Ae (Ad (fun g=>Ac (by rw[if_pos (by first | (rw[w1]at g;exact g) | exact g)])) (fun g=> ?_))))
   have g : ¬ (2048-(acc.length:Int)<z):=by first | (rw[w1]at g;exact g) | exact g
   simp only[if_neg g]
   obtain ⟨Z,rfl⟩ : ∃ Z:Nat,z=(Z:Int):=⟨z.toNat,by omega⟩
   have inner : ∀ (c:Int),0≤c∧c<(((aN a).getD (Br a first) 0:Nat):Int)→Zi ((aN a).getD (Br a first) 0 == 1) rest (k+1) (acc++List.replicate Z (if ((aN a).getD (Br a first) 0 == 1)=true then 0 else (k:Int)))=Zi ((aN a).getD (Br a first) 0 == 1) rest (k+1) (acc++List.replicate Z c)→Tw (Fx 4096 m 4096 (dI (iN (aN a))) ((Br a first:Nat):Int) (((aN a).getD (Br a first) 0:Nat):Int) (acc.map D.int) c (dI l) (l.length:Int) (k:Int) (Z:Int) 0 (dA n) (dA a) 0 0) (match Zi ((aN a).getD (Br a first) 0 == 1) rest (k+1) (acc++List.replicate (Z:Int).toNat (if ((aN a).getD (Br a first) 0 == 1)=true then 0 else (k:Int))) with
      | none=>[dA .none,.int 7]
      | some fr=>[dA (Ik a (aN a) (Br a first) fr (Bq n)).1,.int (Ik a (aN a) (Br a first) fr (Bq n)).2]):=by
     intro c hc heq
     rw[Int.toNat_natCast,heq]
     have ih:=ih (acc++List.replicate Z c) ⟨by rw[List.length_append,List.length_replicate];omega,fun y hy=>by
      rcases List.mem_append.1 hy with hy | hy
      · exact hI.2 y hy
      · rw[List.eq_of_mem_replicate hy];exact hc⟩
     rw[ek2]at ih
     have key3:=C4 (P:=Tryz.prog) (md:=md) Z (fun q j (_:Unit)=>Fx 4096 m q (dI (iN (aN a))) ((Br a first:Nat):Int) (((aN a).getD (Br a first) 0:Nat):Int) ((acc++List.replicate j c).map D.int) c (dI l) (l.length:Int) (k:Int) (Z:Int) (j:Int) (dA n) (dA a) 0 0) (fun _ _=>(match Zi ((aN a).getD (Br a first) 0 == 1) rest (k+1) (acc++List.replicate Z c) with
      | none=>[dA .none,.int 7]
      | some fr=>[dA (Ik a (aN a) (Br a first) fr (Bq n)).1,.int (Ik a (aN a) (Br a first) fr (Bq n)).2])) (fun _ _=>True)
      (fun q t _=>by
       simp only[Nw,An (show k<9223372036854775807 by omega)]
       exact Am (by omega) ih)
      (fun q j t hj _ ih3=>by
       have ih3:=ih3 () trivial
       rw[List.replicate_succ',← List.append_assoc,List.map_append]at ih3
       simp only[Nw,List.length_map,List.length_append,List.length_replicate,List.length_cons,List.length_nil,An (show j<9223372036854775807 by omega)]
       exact Ae (At (by simp only[Ar];omega) ih3))
      4096 0 () (by omega) (by omega) trivial
     simpa using key3
   refine Ad (fun g1=> ?_) (fun g1=> ?_)
   · have e1:(aN a).getD (Br a first) 0=1:=by omega
     exact inner 0 ⟨by omega,by omega⟩ (by rw[e1];rfl)
   · have e1:((aN a).getD (Br a first) 0 == 1)=false:=beq_eq_false_iff_ne.2 (by omega)
     have:=hL (by omega)
     exact inner (k:Int) ⟨by omega,by omega⟩ (by rw[e1];rfl))
  4096 0 [] (by omega) (by omega) ⟨by simp,by simp⟩
 simpa using key
theorem Vj(n a:Arr)(first:Bool)(hn:A8 8 n=true)(ha:A8 8 a=true):Sp 110 [dA n,dA a,.bool first] [dA (RT n a first).1,.int (RT n a first).2]:=by
 have ln:=(Dh hn).1
 have hx:=OR a first
 have hLe:=Aio ha hx
 have hin:=AeG n
 have hil:=BB n
 refine Ag 4096 (DB _ _ _ _) (Aa (Fr n ln (Ni hn)) ?_)
 unfold RT lS
 have hone:n.shape = []→(Bc n).2=0→∃ k,(Bc n).1 = [k]:=fun hs h0=>by
  have hc:=(B6 hn).1
  rw[hs,show Ay ([]:List Int)=(1,0) by decide]at hc
  have hc1:=congrArg Prod.fst hc
  have:n.cells.length=1:=by simp only at hc1;omega
  unfold Bc at h0 ⊢
  rw[if_neg (by rw[hs];simp)]at h0 ⊢
  split at h0
  · rename_i l hl
    have:=(Vz hl).1
    exact Sq (by simp only;omega)
  · cases h0
 generalize hp:Bc n=p at *
 obtain ⟨l,e⟩:=p
 simp only[Af,Ce,Ah,Cz,Cr]at hin hil hone ⊢
 refine Ad (fun h=>Ac (by rw[if_pos h])) (fun h=> ?_)
 rw[if_neg h]
 have h0:e=0:=Classical.not_not.1 h
 subst h0
 refine Aa (AjP l (by omega)) ?_
 simp only[Af,Al]
 refine Ad (fun h=>Ac (by rw[if_pos h])) (fun h=> ?_)
 rw[if_neg h]
 have hpos : ∀ k∈l,0≤k:=fun k hk=>by
  rcases Int.lt_or_le k 0 with g | g
  · exact absurd ⟨k,hk,g⟩ h
  · exact g
 refine Aa (FK a first ha) ?_
 have sh:(((n.shape.length:Nat):Int)=0)↔n.shape = []:=⟨fun g=>List.length_eq_zero_iff.1 (by omega),fun g=>by rw[g];rfl⟩
 simp only[Af,Ce,Ah,Bx,List.length_map,Int.toNat_natCast,Aip hx,W3,Ae1,Bz,Fo,sh]
 refine Ae (Ae ?_)
 have fin:(n.shape = []∨(aN a).getD (Br a first) 0=1∨l.length=(aN a).getD (Br a first) 0)→Tw (.br (decide (2048<(((aN a).getD (Br a first) 0:Nat):Int))) (.ret [dA .none,.int 7]) (.br (decide (n.shape = [])) (.call 177 [] [dI l,.int (((aN a).getD (Br a first) 0:Nat):Int)] fun yy4=>Cp 4096 4096 (dI (iN (aN a))) ((Br a first:Nat):Int) (((aN a).getD (Br a first) 0:Nat):Int) [] (yy4.getD 0 D.nil) (((yy4.getD 0 D.nil).els).length:Int) 0 (dA n) (dA a) 0 0) (Cp 4096 4096 (dI (iN (aN a))) ((Br a first:Nat):Int) (((aN a).getD (Br a first) 0:Nat):Int) [] (dI l) (l.length:Int) 0 (dA n) (dA a) 0 0))) [dA (if (aN a).getD (Br a first) 0≠1∧(if n.shape = [] then List.replicate ((aN a).getD (Br a first) 0) (l.headD 0) else l).length≠(aN a).getD (Br a first) 0 then (Arr.none,(4:Int)) else match Zi ((aN a).getD (Br a first) 0 == 1) (if n.shape = [] then List.replicate ((aN a).getD (Br a first) 0) (l.headD 0) else l) 0 []with
    | none=>(.none,7)
    | some fr=>Ik a (aN a) (Br a first) fr (Bq n)).1,.int (if (aN a).getD (Br a first) 0≠1∧(if n.shape = [] then List.replicate ((aN a).getD (Br a first) 0) (l.headD 0) else l).length≠(aN a).getD (Br a first) 0 then (Arr.none,(4:Int)) else match Zi ((aN a).getD (Br a first) 0 == 1) (if n.shape = [] then List.replicate ((aN a).getD (Br a first) 0) (l.headD 0) else l) 0 []with
    | none=>(.none,7)
    | some fr=>Ik a (aN a) (Br a first) fr (Bq n)).2]:=by
  intro hc
  refine Am (by omega) (Ad (fun hs=> ?_) (fun hs=> ?_))
  · obtain ⟨k,rfl⟩:=hone hs rfl
    have hk:=hpos k (by simp)
    simp only[if_pos hs,List.headD_cons]
    refine Aa (ZB _ k (by omega) (hin k (by simp))) ?_
    simp only[Af,Bx,List.length_map]
    rw[if_neg (by simp)]
    have:=ZC n a first (C8 hn).fits ha (List.replicate ((aN a).getD (Br a first) 0) k) (by rw[List.length_replicate];omega) (fun z hz=>by rw[List.eq_of_mem_replicate hz];exact hk) (fun z hz=>by rw[List.eq_of_mem_replicate hz];exact (hin k (by simp)).2) (fun _=>by rw[List.length_replicate])
    refine Tree.wp_mono this (fun ys hy=>hy.trans ?_)
    cases Zi ((aN a).getD (Br a first) 0 == 1) (List.replicate ((aN a).getD (Br a first) 0) k) 0 [] <;> rfl
  · simp only[if_neg hs]
    rw[if_neg (by intro hh;rcases hc with g | g | g;exact hs g;exact hh.1 g;exact hh.2 g)]
    have:=ZC n a first (C8 hn).fits ha l (by omega) hpos (fun z hz=>(hin z hz).2) (fun hne=>by rcases hc with g | g | g;exact absurd g hs;exact absurd g hne;exact g)
    refine Tree.wp_mono this (fun ys hy=>hy.trans ?_)
    cases Zi ((aN a).getD (Br a first) 0 == 1) l 0 [] <;> rfl
 refine Ad (fun hs=>Ad (fun h1=>Ad (fun h2=>Ac ?_) (fun h2=>fin (.inr (.inr (by omega))))) (fun h1=>fin (.inr (.inl (by omega))))) (fun hs=>fin (.inl (Classical.not_not.1 hs)))
 simp only[if_neg hs]
 rw[if_pos ⟨by omega,by omega⟩]
def Gy:List Int→Nat→List Int
 | [],_=>[]
 | k::ks,o=>if k=1 then (o:Int)::Gy ks (o+1) else -1::Gy ks o
def Ll:List Int→Nat
 | []=>0
 | k::ks=>if k=1 then Ll ks+1 else Ll ks
def Ir(z:Int):Int:=if 0<z then 0 else z
def EJ(L:Nat)(l:List Int):List Int:=if L=1 then (Gy l 0).map Ir else Gy l 0
def Nx(l:List Int):Prop:=∀ k∈l,k=0∨k=1
theorem Uk : ∀ (l:List Int) (o:Nat),(Gy l o).length=l.length
 | [],_=>rfl
 | k::ks,o=>by
  rw[Gy]
  split
  · rw[List.length_cons,Uk ks,List.length_cons]
  · rw[List.length_cons,Uk ks,List.length_cons]
theorem AX : ∀ (l:List Int) (o:Nat),∀ z∈Gy l o,z = -1∨((o:Int)≤z∧z<((o+Ll l:Nat):Int))
 | [],_,z,h=>by simp[Gy]at h
 | k::ks,o,z,h=>by
  rw[Gy]at h
  rw[Ll]
  split at h
  · rename_i hk
    rw[if_pos hk]
    rcases List.mem_cons.1 h with rfl | h
    · right;omega
    · rcases AX ks (o+1) z h with h | h
      · exact .inl h
      · right;omega
  · rename_i hk
    rw[if_neg hk]
    rcases List.mem_cons.1 h with rfl | h
    · exact .inl rfl
    · exact AX ks o z h
theorem Aby{L:Nat}{l:List Int}(h:L≠1→Ll l=L):Aeq L (EJ L l):=by
 intro z hz
 unfold EJ at hz
 split at hz
 · rename_i h1
   obtain ⟨y,hy,rfl⟩:=List.mem_map.1 hz
   unfold Ir
   rcases AX l 0 y hy with h | h
   · subst h;left;decide
   · right;split <;> omega
 · rename_i h1
   have:=h h1
   rcases AX l 0 z hz with h | h
   · left;omega
   · right;omega
instance (l:List Int):Decidable (Nx l):=by unfold Nx;infer_instance
noncomputable def Abq(n a:Arr)(first:Bool):Arr×Int :=
 if (Bc n).2≠0 then (.none,(Bc n).2)
 else if ¬ Nx (Bc n).1 then (.none,3)
 else if (aN a).getD (Br a first) 0≠1∧Ll (Bc n).1≠(aN a).getD (Br a first) 0 then (.none,4)
 else Ik a (aN a) (Br a first) (EJ ((aN a).getD (Br a first) 0) (Bc n).1) (Bq n)
theorem Ad2(l:List Int)(hl:l.length≤2048):Sp 153 [dI l] [.bool (decide (Nx l))]:=by
 refine Ag 4096 (VK _ _) ?_
 simp only[Bx,List.length_map]
 have key:=A7 (P:=Tryz.prog) (md:=md) l (fun m k (_:Unit)=>Kf 4096 m (dI l) (l.length:Int) (k:Int)) (fun rest _=>[.bool (decide (Nx rest))]) (fun _ _=>True)
  (fun m k t hk _=>by
   simp only[Vk]
   exact Am (by omega) (Ac (by simp[Nx])))
  (fun m k t z rest hd _ ih=>by
   obtain ⟨h1,h2,h3⟩:=Az hd
   have ih:=ih () trivial
   have go:z=0∨z=1→Tw (Kf 4096 m (dI l) (l.length:Int) ((k+1:Nat):Int)) [.bool (decide (Nx (z::rest)))]:=fun hz=>by
    rw[show decide (Nx (z::rest))=decide (Nx rest) from decide_eq_decide.2 ⟨fun h y hy=>h y (by simp[hy]),fun h y hy=>by
     rcases List.mem_cons.1 hy with rfl | hy
     · exact hz
     · exact h y hy⟩]
    exact ih
   simp only[Vk,Bx,List.length_map,Int.toNat_natCast,Aj h2,Ah,Cz,An (show k<9223372036854775807 by omega)]
   refine Ae (Ae (Ae (Ad (fun g=>Ad (fun g2=>Ac ?_) (fun g2=>go (by omega))) (fun g=>go (by omega)))))
   rw[decide_eq_false (fun h=>by have:=h z (by simp);omega)])
  4096 0 () (by omega) (by omega) trivial
 simpa using key
theorem Abr{d:Nat}(n a:Arr)(first:Bool)(hn:Fits n)(ha:A8 d a=true)(fr:List Int)(hf:Aeq ((aN a).getD (Br a first) 0) fr)(hl:fr.length≤2048):Tw (.call 190 [] [dA n,dA a,dI (iN (aN a)),.int ((Br a first:Nat):Int),D.sl (fr.map D.int)] fun yy=> .ret [yy.getD 0 D.nil,.int ((yy.getD 1 D.nil).toInt)]) [dA (Ik a (aN a) (Br a first) fr (Bq n)).1,.int (Ik a (aN a) (Br a first) fr (Bq n)).2] :=
 Aa (FL n a (aN a) (Br a first) fr hn (LR ha) (OR a first) hf hl) (Ac rfl)
theorem Z0(n a:Arr)(first:Bool)(hn:A8 8 n=true)(ha:A8 8 a=true):Sp 111 [dA n,dA a,.bool first] [dA (Abq n a first).1,.int (Abq n a first).2]:=by
 have ln:=(Dh hn).1
 have hx:=OR a first
 have hLe:=Aio ha hx
 have hil:=BB n
 refine Ag 4096 (NH _ _ _ _) (Aa (Fr n ln (Ni hn)) ?_)
 unfold Abq
 generalize hp:Bc n=p at *
 obtain ⟨l,e⟩:=p
 simp only[Af,Ce,Ah,Cz,Cr]at hil ⊢
 refine Ad (fun h=>Ac (by rw[if_pos h])) (fun h=> ?_)
 rw[if_neg h]
 have h0:e=0:=Classical.not_not.1 h
 subst h0
 refine Aa (Ad2 l (by omega)) ?_
 simp only[Af,Al]
 refine Df (fun g=>Ac ?_) (fun g=> ?_)
 · have : ¬ Nx l:=fun hb=>by rw[decide_eq_true hb]at g;cases g
   rw[if_pos this]
 have hb:Nx l:=by
   by_cases hb:Nx l
   · exact hb
   · rw[decide_eq_false hb]at g;cases g
 rw[if_neg (fun hh=>hh hb)]
 refine Aa (FK a first ha) ?_
 simp only[Af,Ce,Ah,Bx,List.length_map,Int.toNat_natCast]
 refine Ae (Ae (At (by simp only[Ar];omega) ?_))
 have fits:=(C8 hn).fits
 have fin : ∀ (o:Nat),o=Ll l→Tw (.br (decide (0≤((Br a first:Nat):Int))) (.br (decide (((Br a first:Nat):Int)<((iN (aN a)).length:Int))) (.br (decide ((((iN (aN a)).map D.int).getD (Br a first) D.nil).toInt=1)) (Jf 4096 4096 (dI (iN (aN a))) ((Br a first:Nat):Int) ((Gy l 0).map D.int) (((Gy l 0).map D.int).length:Int) 0 (dA n) (dA a) 0 0) (.br (decide (0≤((Br a first:Nat):Int))) (.br (decide (((Br a first:Nat):Int)<((iN (aN a)).length:Int))) (.br (decide ((o:Int)≠(((iN (aN a)).map D.int).getD (Br a first) D.nil).toInt)) (.ret [dA .none,.int 4]) (.call 190 [] [dA n,dA a,dI (iN (aN a)),.int ((Br a first:Nat):Int),D.sl ((Gy l 0).map D.int)] fun yy=> .ret [yy.getD 0 D.nil,.int ((yy.getD 1 D.nil).toInt)])) .fail) .fail)) .fail) .fail) [dA (if (aN a).getD (Br a first) 0≠1∧Ll l≠(aN a).getD (Br a first) 0 then (Arr.none,(4:Int)) else Ik a (aN a) (Br a first) (EJ ((aN a).getD (Br a first) 0) l) (Bq n)).1,.int (if (aN a).getD (Br a first) 0≠1∧Ll l≠(aN a).getD (Br a first) 0 then (Arr.none,(4:Int)) else Ik a (aN a) (Br a first) (EJ ((aN a).getD (Br a first) 0) l) (Bq n)).2]:=by
   rintro o rfl
   simp only[Aip hx,W3,Ah]
   refine Ae (Ae (Ad (fun g1=> ?_) (fun g1=> ?_)))
   · have e1:(aN a).getD (Br a first) 0=1:=by omega
     rw[if_neg (fun hh=>hh.1 e1)]
     have hfr:EJ ((aN a).getD (Br a first) 0) l=(Gy l 0).map Ir:=by unfold EJ;rw[if_pos e1]
     have er:=Abr n a first fits ha ((Gy l 0).map Ir) (by rw[← hfr];exact Aby (fun hh=>absurd e1 hh)) (by rw[List.length_map,Uk];omega)
     rw[hfr]
     have fl:=Uk l 0
     generalize Gy l 0=fr at *
     have key:=C4 (P:=Tryz.prog) (md:=md) fr.length (fun m i (_:Unit)=>Jf 4096 m (dI (iN (aN a))) ((Br a first:Nat):Int) (((fr.take i).map Ir++fr.drop i).map D.int) (fr.length:Int) (i:Int) (dA n) (dA a) 0 0) (fun _ _=>[dA (Ik a (aN a) (Br a first) (fr.map Ir) (Bq n)).1,.int (Ik a (aN a) (Br a first) (fr.map Ir) (Bq n)).2]) (fun _ _=>True)
       (fun m t _=>by
        simp only[Qq]
        rw[List.take_of_length_le (Nat.le_refl _),List.drop_of_length_le (Nat.le_refl _),List.append_nil]
        exact Am (by omega) er)
       (fun m i t hi _ ih=>by
        have ih:=ih () trivial
        have e4:fr.drop i=fr[i]::fr.drop (i+1):=List.drop_eq_getElem_cons hi
        have e5:fr.take (i+1)=fr.take i++[fr[i]]:=by rw[List.take_add_one,List.getElem?_eq_getElem hi];rfl
        rw[e5,show (fr.take i++[fr[i]]).map Ir++fr.drop (i+1)=(fr.take i).map Ir++(Ir fr[i]::fr.drop (i+1)) by rw[List.map_append,List.append_assoc];rfl]at ih
        rw[e4]
        generalize fr[i]=z at *
        have t1:((fr.take i).map Ir).length=i:=by rw[List.length_map,List.length_take];omega
        have t2:(fr.drop (i+1)).length=fr.length-(i+1):=by rw[List.length_drop]
        have hg:(((fr.take i).map Ir++z::fr.drop (i+1)).map D.int).getD i D.nil=D.int z:=by
         rw[List.getD_eq_getElem?_getD,List.getElem?_map,List.getElem?_append_right (by omega),t1,Nat.sub_self];rfl
        have hst:(((fr.take i).map Ir++z::fr.drop (i+1)).map D.int).set i (D.int (Ir z))=((fr.take i).map Ir++(Ir z::fr.drop (i+1))).map D.int:=by
         rw[← List.map_set,List.set_append_right _ _ (by omega),t1,Nat.sub_self];rfl
        have ll:((fr.take i).map Ir++z::fr.drop (i+1)).length=fr.length:=by rw[List.length_append,t1,List.length_cons,t2];omega
        simp only[Qq,List.length_map,ll,Int.toNat_natCast,hg,Ah,An (show i<9223372036854775807 by omega)]
        refine Ae (Ae (Ae (Ae (Ae ?_))))
        rw[show D.int (if 0<z then 0 else z)=D.int (Ir z) from rfl,hst]
        exact ih)
       4096 0 () (by omega) (by omega) trivial
     simpa using key
   · have e1:(aN a).getD (Br a first) 0≠1:=by omega
     refine Ae (Ae (Ad (fun g2=>Ac ?_) (fun g2=> ?_)))
     · rw[if_pos ⟨e1,by omega⟩]
     · have e2:Ll l=(aN a).getD (Br a first) 0:=by omega
       rw[if_neg (fun hh=>hh.2 e2)]
       have hfr:EJ ((aN a).getD (Br a first) 0) l=Gy l 0:=by unfold EJ;rw[if_neg e1]
       rw[hfr]
       exact Abr n a first fits ha (Gy l 0) (by rw[← hfr];exact Aby (fun _=>e2)) (by rw[Uk];omega)
 have key:=A7 (P:=Tryz.prog) (md:=md) l (fun m k (s:List Int×Nat)=>Je 4096 m (dI (iN (aN a))) ((Br a first:Nat):Int) (s.1.map D.int++List.replicate (l.length-s.1.length) (D.int 0)) (s.2:Int) (dI l) (l.length:Int) (k:Int) (dA n) (dA a) 0 0) (fun _ _=>[dA (if (aN a).getD (Br a first) 0≠1∧Ll l≠(aN a).getD (Br a first) 0 then (Arr.none,(4:Int)) else Ik a (aN a) (Br a first) (EJ ((aN a).getD (Br a first) 0) l) (Bq n)).1,.int (if (aN a).getD (Br a first) 0≠1∧Ll l≠(aN a).getD (Br a first) 0 then (Arr.none,(4:Int)) else Ik a (aN a) (Br a first) (EJ ((aN a).getD (Br a first) 0) l) (Bq n)).2]) (fun rest s=>s.1.length+rest.length=l.length∧Gy l 0=s.1++Gy rest s.2∧Ll l=s.2+Ll rest)
   (fun m k s hk hI=>by
     obtain ⟨i1,i2,i3⟩:=hI
     simp only[Gy,List.append_nil,List.length_nil,Ll,Nat.add_zero]at i1 i2 i3
     simp only[Qp,i1,Nat.sub_self,List.replicate_zero,List.append_nil,Bx,List.length_map,Int.toNat_natCast,Bz,Cz,Cr]
     have f:=fin s.2 i3.symm
     rw[i2]at f
     simp only[List.length_map,i1]at f
     exact Am (by omega) f)
   (fun m k s z rest hd hI ih=>by
     obtain ⟨h1,h2,h3⟩:=Az hd
     obtain ⟨i1,i2,i3⟩:=hI
     have hle:=congrArg List.length hd
     rw[List.length_drop,List.length_cons]at hle
     rw[List.length_cons]at i1
     have hk:k=s.1.length:=by omega
     simp only[Gy]at i2
     simp only[Ll]at i3
     have so:s.2≤2048:=by
       have : ∀ q:List Int,Ll q≤q.length:=fun q=>by
        induction q with
        | nil=>exact Nat.le_refl _
        | cons y ys ihq=>simp only[Ll,List.length_cons];split <;> omega
       have:=this l
       split at i3 <;> omega
     have en:=fun v:Int=>Ml (f:=D.int) (z:=D.int 0) s.1 v (l.length-(s.1.length+1))
     rw[show l.length-(s.1.length+1)+1=l.length-s.1.length by omega]at en
     have ll:(s.1.map D.int++List.replicate (l.length-s.1.length) (D.int 0)).length=l.length:=by rw[List.length_append,List.length_map,List.length_replicate];omega
     have w1:IntKind.wrap .i64 ((s.2:Int)+1)=((s.2+1:Nat):Int):=by rw[Ap (by omega) (by omega)];rfl
     simp only[Qp,Bx,List.length_map,Int.toNat_natCast,Aj h2,Ah,Bz,ll,List.length_set,List.set_set,w1,An (show k<9223372036854775807 by omega)]
     refine Ae (Ae (Ae (Ae (Ae (Ad (fun g=>Ae (Ae ?_)) (fun g=> ?_))))))
     · rw[if_pos g]at i2 i3
       have ih:=ih (s.1++[(s.2:Int)],s.2+1) ⟨by rw[List.length_append,List.length_cons,List.length_nil];omega,by rw[i2];simp,by omega⟩
       rw[hk,en]
       simp only[List.length_append,List.length_cons,List.length_nil,hk]at ih
       exact ih
     · rw[if_neg g]at i2 i3
       have ih:=ih (s.1++[-1],s.2) ⟨by rw[List.length_append,List.length_cons,List.length_nil];omega,by rw[i2];simp,i3⟩
       rw[hk,en]
       simp only[List.length_append,List.length_cons,List.length_nil,hk]at ih
       exact ih)
   4096 0 ([],0) (by omega) (by omega) ⟨by simp,by simp,by simp⟩
 simpa using key
def Vd:List Int→Nat→List Nat
 | [],_=>[]
 | k::ks,i=>if k=1 then i::Vd ks (i+1) else Vd ks (i+1)
theorem AdT : ∀ (l:List Int) (i:Nat),(Vd l i).length≤l.length∧∀ p∈Vd l i,i≤p∧p<i+l.length
 | [],_=>by simp[Vd]
 | k::ks,i=>by
  obtain ⟨h1,h2⟩:=AdT ks (i+1)
  rw[Vd,List.length_cons]
  split
  · refine ⟨by rw[List.length_cons];omega,fun p hp=> ?_⟩
    rcases List.mem_cons.1 hp with rfl | hp
    · omega
    · have:=h2 p hp;omega
  · exact ⟨by omega,fun p hp=>by have:=h2 p hp;omega⟩
def ups(l:List Nat):List Int:=l.map (fun (i:Nat)=>(i:Int)+1)
noncomputable def TE(n:Arr):Arr×Int:=if (Bc n).2≠0 then (.none,(Bc n).2) else if n.shape = [] then (.none,5) else if ¬ Nx (Bc n).1 then (.none,3) else (Hm (ups (Vd (Bc n).1 0)) (Bq n),0)
theorem Aao(n:Arr)(hn:A8 8 n=true):Sp 68 [dA n] [dA (TE n).1,.int (TE n).2]:=by
 have ln:=(Dh hn).1
 have hil:=BB n
 have sh:(((n.shape.length:Nat):Int)=0)↔n.shape = []:=⟨fun g=>List.length_eq_zero_iff.1 (by omega),fun g=>by rw[g];rfl⟩
 refine Ag 4096 (QQ _ _) (Aa (Fr n ln (Ni hn)) ?_)
 unfold TE
 generalize (Bc n)=p at *
 obtain ⟨l,e⟩:=p
 simp only[Af,Ce,Ah,Cz,Bz,Cr,Ae1,Bx,List.length_map,sh]at hil ⊢
 refine Ad (fun h=>Ac (by rw[if_pos h])) (fun h=> ?_)
 rw[if_neg h]
 refine Ad (fun h=>Ac (by rw[if_pos h])) (fun h=> ?_)
 rw[if_neg h]
 refine Aa (Ad2 l (by omega)) ?_
 simp only[Af,Al]
 refine Df (fun g=>Ac ?_) (fun g=> ?_)
 · have : ¬ Nx l:=fun hb=>by rw[decide_eq_true hb]at g;cases g
   rw[if_pos this]
 have hb:Nx l:=by
   by_cases hb:Nx l
   · exact hb
   · rw[decide_eq_false hb]at g;cases g
 rw[if_neg (fun hh=>hh hb)]
 have hpl:=AdT l 0
 have key:=A7 (P:=Tryz.prog) (md:=md) l (fun m k (acc:List Nat)=>Ke 4096 m ((acc.map (fun (i:Nat)=>B5 ((i:Int)+1))).map dC) (dI l) (l.length:Int) (k:Int) (dA n) 0) (fun _ _=>[dA (Hm (ups (Vd l 0)) (Bq n)),.int 0]) (fun rest acc=>Vd l 0=acc++Vd rest (l.length-rest.length))
   (fun m k acc hk hI=>by
    simp only[Vd,List.append_nil]at hI
    simp only[R3]
    have hsm : ∀ c∈acc.map (fun (i:Nat)=>B5 ((i:Int)+1)),SmlC 0 c:=fun c hc=>by
      obtain ⟨i,hi,rfl⟩:=List.mem_map.1 hc
      have:=hpl.2 i (by rw[hI];exact hi)
      exact Xs (Dv (by omega) (by omega)) 0
    refine Am (by omega) (Aa (G5 _ hsm (by rw[List.length_map,← hI];omega)) (Aa (Cb n (C8 hn).fits) ?_))
    simp only[Af,Ds,Si]
    refine Aa (C2 _ (Bq n)) (Ac ?_)
    rw[hI]
    simp[D1,Tx,Hm,ups]
    rfl)
   (fun m k acc z rest hd hI ih=>by
    obtain ⟨h1,h2,h3⟩:=Az hd
    have hle:=congrArg List.length hd
    rw[List.length_drop,List.length_cons]at hle
    rw[show l.length-(z::rest).length=k by rw[List.length_cons];omega,Vd]at hI
    rw[show l.length-rest.length=k+1 by omega]at ih
    simp only[R3,Bx,List.length_map,Int.toNat_natCast,Aj h2,Ah,Bz,An (show k<9223372036854775807 by omega)]
    refine Ae (Ae (Ae (Ad (fun g=> ?_) (fun g=> ?_))))
    · rw[if_pos g]at hI
      have hal:acc.length≤2048:=by have:=congrArg List.length hI;rw[List.length_append]at this;omega
      have:=ih (acc++[k]) (by rw[hI];simp)
      rw[List.map_append,List.map_append]at this
      refine Aa (Ey _ (Dv (by omega) (by omega))) (At (by simp only[List.length_cons,List.length_nil,Ar];omega) ?_)
      exact this
    · rw[if_neg g]at hI
      exact ih acc hI)
   4096 0 [] (by omega) (by omega) (by simp)
 exact key
theorem BO(x n:Int):Cj (FN x n).1≤100:=by
 unfold FN
 split
 · show Cj 0≤100;unfold Cj;rw[show Int.natAbs 0=0 from rfl,Ct];simp
 · exact Aca _ _ _ _ (Ax.2 (by show 1<B ^ 100;exact Nat.one_lt_pow (by decide) (by decide)))
section
variable {a b:Num} {z y:Int} {d e:Nat}
theorem CN(p q:Int×Int)(hp:Cj p.1≤100)(hq:Cj q.1≤100){xs xt:List D}(h1:Sp 314 xs (VO p))(h2:Sp 314 xt (VO q)):Tw (.call 314 [] xs fun yy7=> .br (((yy7.getD 1 D.nil).toInt)!=0) (.ret [D.agg [D.bool false,D.sl [],D.sl []],D.int ((yy7.getD 1 D.nil).toInt)]) (.call 314 [] xt fun yy8=> .br (((yy8.getD 1 D.nil).toInt)!=0) (.ret [D.agg [D.bool false,D.sl [],D.sl []],D.int ((yy8.getD 1 D.nil).toInt)]) (.call 305 [] [yy7.getD 0 D.nil,yy8.getD 0 D.nil] fun yy9=> .ret [yy9.getD 0 D.nil,D.int ((yy9.getD 1 D.nil).toInt)]))) (Gt (AaI p q)):=by
 refine Aa h1 ?_
 simp only[VO,Af,Ce,Ah,Cz,J5]
 unfold AaI
 refine Ad (fun g1=>Ac ?_) (fun g1=>Aa h2 ?_)
 · rw[if_neg g1];rfl
 rw[if_pos (Classical.not_not.1 g1)]
 simp only[VO,Af,Ce,Ah,Cz,J5]
 refine Ad (fun g2=>Ac ?_) (fun g2=> ?_)
 · rw[if_neg g2];rfl
 rw[if_pos (Classical.not_not.1 g2)]
 have mk:=Ox (wz p.1) (wz q.1) (by rw[U_];omega) (by rw[U_];omega)
 rw[Eh,Eh]at mk
 exact Aa mk (Ac rfl)
theorem Aci(h:RNum a z d)(n:Int)(hn:n≤3000∧(-3000≤n∨n = -9223372036854775808)):Sp 281 [dN a,.int n] (Gt (AeX a n)):=by
 obtain ⟨l1,l2⟩:=h.len
 refine Ag 0 (WF _ _ _) (Aa (C0 a) (Aa (Dp a) ?_))
 simp only[Af,Ah,Bz]
 unfold AeX
 refine Ad (fun h0=>Aa (Pf ⟨a.neg,a.top⟩ (by show a.top.length≤_;omega)) ?_) (fun h0=> ?_)
 · rw[if_pos h0,Oe]
   simp only[Af,Ah,Bz,J5]
   refine Ad (fun h1=>Ac ?_) (fun h1=>Ad (fun h2=>Ac ?_) (fun h2=> ?_))
   · rw[if_pos (.inl (h.top0.2 (by rw[← h.top];exact GT.1 h1)))];rfl
   · rw[if_pos (.inr (by omega))];rfl
   · have hz : ¬ a.top = []:=fun hh=>h1 (by rw[h.top,h.top0.1 hh];rfl)
     rw[if_neg (by intro hh;rcases hh with hh | hh;exact hz hh;omega),Ap (by omega) (by omega),Int.zero_sub]
     have p1:=Rm ⟨a.neg,a.top⟩ (-n) (by show a.top.length≤_;omega) (by omega)
     have p2:=Rm ⟨false,a.bot⟩ (-n) (by show a.bot.length≤_;omega) (by omega)
     exact CN _ _ (BO _ _) (BO _ _) p2 p1
 · rw[if_neg h0]
   have p1:=Rm ⟨a.neg,a.top⟩ n (by show a.top.length≤_;omega) (by omega)
   have p2:=Rm ⟨false,a.bot⟩ n (by show a.bot.length≤_;omega) (by omega)
   exact CN _ _ (BO _ _) (BO _ _) p1 p2
theorem AdB(h:RNum a z d)(h':RNum b y e):(lb (Nat.gcd (nv a.top) (nv b.top))).length≤32:=by
 by_cases h0:nv a.top=0
 · rw[h0,Nat.gcd_zero_left]
   exact Nat.le_trans (Ax.2 (Ck _)) h'.len.1
 · exact Nat.le_trans (Ax.2 (Nat.lt_of_le_of_lt (Nat.gcd_le_left _ (by omega)) (Ck _))) h.len.1
theorem Akw(n:Nat):zv ⟨false,lb n⟩=(n:Int):=by rw[TK];rfl
theorem AjI(h:RNum a z d)(h':RNum b y e):RNum (G4 (Nat.gcd (nv a.top) (nv b.top):Nat)) (Nat.gcd (nv a.top) (nv b.top):Nat) 1 :=
 ⟨(Sk _).symm,by decide,Nat.coprime_one_right _,AdB h h',by rw[Sn];decide⟩
theorem FQ(h:RNum a z d)(h':RNum b y e):Sp 283 [dN a,dN b] (Gt (MP a b)):=by
 refine Ag 0 (WA _ _ _) (Aa (Fb a.bot) ?_)
 simp only[Af,Al,Fo,J5]
 unfold MP
 refine Ad (fun h1=>Ac ?_) (fun h1=>Aa (Fb b.bot) ?_)
 · rw[if_neg (fun hh=>h1 hh.1)];rfl
 simp only[Af,Al,Fo]
 refine Ad (fun h2=>Ac ?_) (fun h2=> ?_)
 · rw[if_neg (fun hh=>h2 hh.2)];rfl
 rw[if_pos ⟨Classical.not_not.1 h1,Classical.not_not.1 h2⟩]
 have gl:=AdB h h'
 have gc:=QF a.top b.top (by have:=h.len;omega) (by have:=h'.len;omega)
 have wh:=M9 ⟨false,lb (Nat.gcd (nv a.top) (nv b.top))⟩ (by show (lb _).length≤_;omega)
 rw[Akw]at wh
 unfold U9 at wh
 rw[if_neg (by rw[Int.natAbs_natCast];omega)]at wh
 exact Aa gc (Aa wh (Ac rfl))
theorem AiN(h:RNum a z d)(h':RNum b y e)(h0:(MP a b).2=0) : ∃ x,RNum (MP a b).1 x 1:=by
 unfold MP at h0 ⊢
 split at h0
 · rename_i hh;rw[if_pos hh];exact ⟨_,AjI h h'⟩
 · cases h0
theorem Acg(h:RNum a z d)(h':RNum b y e):Sp 282 [dN a,dN b] (Gt (Ahg a b)):=by
 refine Ag 0 (WB _ _ _) (Aa (FQ h h') ?_)
 simp only[Gt,Af,Ce,Ah,Cz,J5]
 unfold Ahg IF
 refine Ad (fun h1=>Ac ?_) (fun h1=> ?_)
 · rw[if_neg h1]
 have h1':=Classical.not_not.1 h1
 rw[if_pos h1']
 obtain ⟨x,hx⟩:=AiN h h' h1'
 refine Aa (Oy hx.sm) ?_
 simp only[Af,Ah,Bz]
 refine Ad (fun h2=>Aa (Hz 0 (by unfold Cv;omega)) (Ac ?_)) (fun h2=>Aa (Qu h.sm hx.sm) ?_)
 · have hx0:x=0:=by rw[← hx.top];exact GT.1 h2
   rw[if_pos (hx.top0.2 hx0)]
   rw[hx.eq,hx0,Sk];rfl
 · have hx0:x≠0:=fun hh=>h2 (by rw[hx.top,hh];rfl)
   rw[if_neg (fun hh=>hx0 (hx.top0.1 hh))]
   simp only[Gt,Af,Ce,Ah,Cz]
   refine Ad (fun h3=>Ac ?_) (fun h3=> ?_)
   · rw[if_neg h3]
   have h3':=Classical.not_not.1 h3
   rw[if_pos h3']
   obtain ⟨x2,c2,hr2⟩:=Ad_ h hx hx0 h3'
   exact Aa (Xh hr2.sm h'.sm) (Ac rfl)
end
theorem AhK{z:Int}(h:Cj z≤32):RNum (G4 z) z 1:=⟨(Sk z).symm,by decide,Nat.coprime_one_right _,h,by rw[Sn];decide⟩
theorem AeK{z:Int}(h1 : -100000≤z:=by decide)(h2:z≤100000:=by decide):Cj z≤32:=Zr (by
 have:100000<B ^ 32:=by decide
 omega)
def Nj:List (Nat×Orc):=[(5,⟨[(0,none),(4,none),(6,none),(26,some 24),(27,none),(28,none)],[(4,false),(6,false)],[(.fld 6 [1],1050,3),(.fld 6 [2],1051,67)]⟩)]
noncomputable def Pc(n m5:Nat)(f0:Int)(t26:D)(t27 t28:Int)(t4_0 out6_0:Int)(out6_1 out6_2:List D):Tree :=
 lA (eA Nj n 70 [1,1,1,0,1,0,0]) (Ao Nj 5) m5 ⟨(.i .i64 f0::uA 3++(.ptr 4 []:: .undef:: .ptr 6 []::uA 19++(.d 24 t26:: .i .i64 t27:: .i .i64 t28::uA 21))),[(4,.var 26 (.agg 26 [.i .u64 t4_0,.mt,.mt]) true),(6,.var 26 (.agg 26 [.i .u64 out6_0,.row 1050,.row 1051]) true),(1050,.row 3 out6_1 true),(1051,.row 67 out6_2 true)],[4,6,1050,1051],[],[]⟩
  (Ak 0 (Au (jA Nj n 70 [1,1,1,1]) (rA 70 [3,26] [.cell 4 26,.tmp 5] [26,29])))
theorem U0(n m5:Nat)(f0:Int)(t26:D)(t27 t28:Int)(t4_0 out6_0:Int)(out6_1 out6_2:List D):Pc n (m5+1) f0 t26 t27 t28 t4_0 out6_0 out6_1 out6_2 =
 .br (decide (t28<t27)) (.br (decide (0≤t28)) (.br (decide (t28<(t26.els.length:Int))) (.call 159 [] [D.int f0,t26.els.getD (Int.toNat t28) D.nil] fun yy3 =>
 .br (((yy3.getD 1 D.nil).toInt)!=0) (.ret [D.agg [D.int 0,D.sl [],D.sl []],D.int ((yy3.getD 1 D.nil).toInt)])
 (.br (decide (0≤t28)) (.br (decide (t28<(out6_2.length:Int))) (Pc n m5 f0 t26 t27 (IntKind.wrap .i64 (t28+1)) t4_0 out6_0 out6_1 (out6_2.set (Int.toNat t28) (yy3.getD 0 D.nil))) .fail) .fail)) .fail) .fail)
 (.ret [D.agg [D.int out6_0,D.sl out6_1,D.sl out6_2],D.int 0]):=by kernel_rfl
theorem SD(n:Nat)(f0 a1:D):Ai Tryz.prog md Nj n 70 [] [f0,a1] =
 .call 158 [] [D.int f0.toInt] fun yy1 =>
 .br (!((yy1.getD 0 D.nil).toBool)) (.ret [D.agg [D.int 0,D.sl [],D.sl []],D.int 8])
 (.call 96 [] [a1.fld 1] fun yy2 =>
 .br (decide (0≤(((a1.fld 2).els).length:Int))) (.br (decide ((((a1.fld 2).els).length:Int)≤(((a1.fld 2).els).length:Int))) (.br (decide ((((a1.fld 2).els).length:Int)≤Ar)) (Pc n n f0.toInt (a1.fld 2) (((a1.fld 2).els).length:Int) 0 0 ((a1.fld 0).toInt) ((yy2.getD 0 D.nil).els) (List.replicate (Int.toNat (((a1.fld 2).els).length:Int)) (D.agg [D.int 0,D.int 0,D.agg [D.bool false,D.sl [],D.sl []],D.int 0,D.sl []]))) .fail) .fail) .fail):=by kernel_rfl
def Nk:List (Nat×Orc):=[(11,⟨[(0,none),(4,none),(5,none),(6,none),(11,none),(48,none),(49,none)],[(4,true),(5,true),(6,false),(11,false)],[(.fld 11 [2],1110,67)]⟩)]
noncomputable def Ki(n m11:Nat)(f0 t48 t49:Int)(a4 b5:D)(t6_0 out11_0:Int)(out11_1:D)(out11_2:List D):Tree :=
 lA (eA Nk n 112 [1,1,1,1,1,1,1,0,1,0,0]) (Ao Nk 11) m11 ⟨(.i .i64 f0::uA 3++(.ptr 4 []:: .ptr 5 []:: .ptr 6 []::uA 4++(.ptr 11 []::uA 36++(.i .i64 t48:: .i .i64 t49::uA 24)))),[(4,.var 26 (.d 26 a4) true),(5,.var 26 (.d 26 b5) true),(6,.var 26 (.agg 26 [.i .u64 t6_0,.mt,.mt]) true),(11,.var 26 (.agg 26 [.i .u64 out11_0,.d 23 out11_1,.row 1110]) true),(1110,.row 67 out11_2 true)],[4,5,6,11,1110],[],[]⟩
  (Ak 0 (Au (jA Nk n 112 [1,1,1,1,1,1,1,1]) (rA 112 [3,26,26] [.cell 6 26,.tmp 7] [26,29])))
theorem R_(n m11:Nat)(f0 t48 t49:Int)(a4 b5:D)(t6_0 out11_0:Int)(out11_1:D)(out11_2:List D):Ki n (m11+1) f0 t48 t49 a4 b5 t6_0 out11_0 out11_1 out11_2 =
 .br (decide (t49<t48)) (.call 195 [] [a4,D.int t49] fun yy4 =>
 .call 195 [] [b5,D.int t49] fun yy5 =>
 .call 194 [] [D.int f0,yy4.getD 0 D.nil,yy5.getD 0 D.nil] fun yy6 =>
 .br (((yy6.getD 1 D.nil).toInt)!=0) (.ret [D.agg [D.int 0,D.sl [],D.sl []],D.int ((yy6.getD 1 D.nil).toInt)])
 (.br (decide (0≤t49)) (.br (decide (t49<(out11_2.length:Int))) (Ki n m11 f0 t48 (IntKind.wrap .i64 (t49+1)) a4 b5 t6_0 out11_0 out11_1 (out11_2.set (Int.toNat t49) (yy6.getD 0 D.nil))) .fail) .fail))
 (.ret [D.agg [D.int out11_0,out11_1,D.sl out11_2],D.int 0]):=by kernel_rfl
theorem SE(n:Nat)(f0 a1 b2:D):Ai Tryz.prog md Nk n 112 [] [f0,a1,b2] =
 .call 192 [] [D.int f0.toInt] fun yy1 =>
 .br (!((yy1.getD 0 D.nil).toBool)) (.ret [D.agg [D.int 0,D.sl [],D.sl []],D.int 8])
 (.call 193 [] [a1,b2] fun yy2 =>
 .br (((yy2.getD 1 D.nil).toInt)!=0) (.ret [D.agg [D.int 0,D.sl [],D.sl []],D.int ((yy2.getD 1 D.nil).toInt)])
 (.br ((((a1.fld 1).els).length:Int)==0) (.call 83 [] [D.int ((a1.fld 0).toInt),D.int ((b2.fld 0).toInt)] fun yy3 =>
 .br (decide (0≤(((b2.fld 2).els).length:Int))) (.br (decide ((((b2.fld 2).els).length:Int)≤(((b2.fld 2).els).length:Int))) (.br (decide ((((b2.fld 2).els).length:Int)≤Ar)) (Ki n n f0.toInt (((b2.fld 2).els).length:Int) 0 a1 b2 0 ((yy3.getD 0 D.nil).toInt) (yy2.getD 0 D.nil) (List.replicate (Int.toNat (((b2.fld 2).els).length:Int)) (D.agg [D.int 0,D.int 0,D.agg [D.bool false,D.sl [],D.sl []],D.int 0,D.sl []]))) .fail) .fail) .fail)
 (.call 83 [] [D.int ((a1.fld 0).toInt),D.int ((b2.fld 0).toInt)] fun yy7 =>
 .br (decide (0≤(((a1.fld 2).els).length:Int))) (.br (decide ((((a1.fld 2).els).length:Int)≤(((a1.fld 2).els).length:Int))) (.br (decide ((((a1.fld 2).els).length:Int)≤Ar)) (Ki n n f0.toInt (((a1.fld 2).els).length:Int) 0 a1 b2 0 ((yy7.getD 0 D.nil).toInt) (yy2.getD 0 D.nil) (List.replicate (Int.toNat (((a1.fld 2).els).length:Int)) (D.agg [D.int 0,D.int 0,D.agg [D.bool false,D.sl [],D.sl []],D.int 0,D.sl []]))) .fail) .fail) .fail))):=by kernel_rfl
theorem KD(n:Nat)(f0:D):Ai Tryz.prog md [] n 158 [] [f0] =
 .br (f0.toInt == 43) (.br (f0.toInt == 43) (.ret [D.bool true])
 (.ret [D.bool false]))
 (.br (f0.toInt == 45) (.br (f0.toInt == 45) (.ret [D.bool true])
 (.ret [D.bool false]))
 (.br (f0.toInt == 215) (.br (f0.toInt == 215) (.ret [D.bool true])
 (.ret [D.bool false]))
 (.br (f0.toInt == 247) (.br (f0.toInt == 247) (.ret [D.bool true])
 (.ret [D.bool false]))
 (.br (f0.toInt == 8968) (.br (f0.toInt == 8968) (.ret [D.bool true])
 (.ret [D.bool false]))
 (.br (f0.toInt == 8970) (.br (f0.toInt == 8970) (.ret [D.bool true])
 (.ret [D.bool false]))
 (.br (f0.toInt == 124) (.br (f0.toInt == 124) (.ret [D.bool true])
 (.ret [D.bool false]))
 (.br (f0.toInt == 126) (.br (f0.toInt == 126) (.ret [D.bool true])
 (.ret [D.bool false]))
 (.br (f0.toInt == 33) (.ret [D.bool true])
 (.ret [D.bool false]))))))))):=by kernel_rfl
theorem DI(n:Nat)(f0 c1:D):Ai Tryz.prog md [] n 159 [] [f0,c1] =
 .br (((c1.fld 1).toInt)==0) (.call 221 [] [D.int f0.toInt,c1.fld 2] fun yy1 =>
 .ret [D.agg [D.int ((c1.fld 0).toInt),D.int 0,yy1.getD 0 D.nil,D.int 0,D.sl []],D.int ((yy1.getD 1 D.nil).toInt)])
 (.br (((c1.fld 1).toInt)==2) (.call 222 [] [c1] fun yy2 =>
 .call 70 [] [D.int f0.toInt,yy2.getD 0 D.nil] fun yy3 =>
 .ret [D.agg [D.int ((c1.fld 0).toInt),D.int 2,D.agg [D.bool false,D.sl [],D.sl []],D.int 0,D.sl [yy3.getD 0 D.nil]],D.int ((yy3.getD 1 D.nil).toInt)])
 (.ret [D.agg [D.int 0,D.int 0,D.agg [D.bool false,D.sl [],D.sl []],D.int 0,D.sl []],D.int 3])):=by kernel_rfl
theorem KE(n:Nat)(f0:D):Ai Tryz.prog md [] n 192 [] [f0] =
 .br (f0.toInt == 43) (.br (f0.toInt == 43) (.ret [D.bool true])
 (.ret [D.bool false]))
 (.br (f0.toInt == 45) (.br (f0.toInt == 45) (.ret [D.bool true])
 (.ret [D.bool false]))
 (.br (f0.toInt == 215) (.br (f0.toInt == 215) (.ret [D.bool true])
 (.ret [D.bool false]))
 (.br (f0.toInt == 247) (.br (f0.toInt == 247) (.ret [D.bool true])
 (.ret [D.bool false]))
 (.br (f0.toInt == 8968) (.br (f0.toInt == 8968) (.ret [D.bool true])
 (.ret [D.bool false]))
 (.br (f0.toInt == 8970) (.br (f0.toInt == 8970) (.ret [D.bool true])
 (.ret [D.bool false]))
 (.br (f0.toInt == 124) (.br (f0.toInt == 124) (.ret [D.bool true])
 (.ret [D.bool false]))
 (.br (f0.toInt == 42) (.br (f0.toInt == 42) (.ret [D.bool true])
 (.ret [D.bool false]))
 (.br (f0.toInt == 60) (.br (f0.toInt == 60) (.ret [D.bool true])
 (.ret [D.bool false]))
 (.br (f0.toInt == 8804) (.br (f0.toInt == 8804) (.ret [D.bool true])
 (.ret [D.bool false]))
 (.br (f0.toInt == 61) (.br (f0.toInt == 61) (.ret [D.bool true])
 (.ret [D.bool false]))
 (.br (f0.toInt == 8805) (.br (f0.toInt == 8805) (.ret [D.bool true])
 (.ret [D.bool false]))
 (.br (f0.toInt == 62) (.br (f0.toInt == 62) (.ret [D.bool true])
 (.ret [D.bool false]))
 (.br (f0.toInt == 8800) (.br (f0.toInt == 8800) (.ret [D.bool true])
 (.ret [D.bool false]))
 (.br (f0.toInt == 8743) (.br (f0.toInt == 8743) (.ret [D.bool true])
 (.ret [D.bool false]))
 (.br (f0.toInt == 8744) (.ret [D.bool true])
 (.ret [D.bool false])))))))))))))))):=by kernel_rfl
theorem DE(n:Nat)(a0 b1:D):Ai Tryz.prog md [] n 193 [] [a0,b1] =
 .br ((((a0.fld 1).els).length:Int)==0) (.call 96 [] [b1.fld 1] fun yy1 =>
 .ret [D.sl ((yy1.getD 0 D.nil).els),D.int 0])
 (.br ((((b1.fld 1).els).length:Int)==0) (.call 96 [] [a0.fld 1] fun yy2 =>
 .ret [D.sl ((yy2.getD 0 D.nil).els),D.int 0])
 (.br ((((a0.fld 1).els).length:Int)!=(((b1.fld 1).els).length:Int)) (.ret [D.sl [],D.int 5])
 (.call 234 [] [a0.fld 1,b1.fld 1] fun yy3 =>
 .br (!((yy3.getD 0 D.nil).toBool)) (.ret [D.sl [],D.int 4])
 (.call 96 [] [a0.fld 1] fun yy4 =>
 .ret [D.sl ((yy4.getD 0 D.nil).els),D.int 0])))):=by kernel_rfl
theorem BX(n:Nat)(f0 x1 y2:D):Ai Tryz.prog md [] n 194 [] [f0,x1,y2] =
 .call 83 [] [D.int ((x1.fld 0).toInt),D.int ((y2.fld 0).toInt)] fun yy1 =>
 .br (((x1.fld 1).toInt)==2) (.call 235 [] [x1] fun yy2 =>
 .call 235 [] [y2] fun yy3 =>
 .call 112 [] [D.int f0.toInt,yy2.getD 0 D.nil,yy3.getD 0 D.nil] fun yy4 =>
 .ret [D.agg [D.int ((yy1.getD 0 D.nil).toInt),D.int 2,D.agg [D.bool false,D.sl [],D.sl []],D.int 0,D.sl [yy4.getD 0 D.nil]],D.int ((yy4.getD 1 D.nil).toInt)])
 (.br (((y2.fld 1).toInt)==2) (.call 235 [] [x1] fun yy5 =>
 .call 235 [] [y2] fun yy6 =>
 .call 112 [] [D.int f0.toInt,yy5.getD 0 D.nil,yy6.getD 0 D.nil] fun yy7 =>
 .ret [D.agg [D.int ((yy1.getD 0 D.nil).toInt),D.int 2,D.agg [D.bool false,D.sl [],D.sl []],D.int 0,D.sl [yy7.getD 0 D.nil]],D.int ((yy7.getD 1 D.nil).toInt)])
 (.br (((x1.fld 1).toInt)==0) (.br (((y2.fld 1).toInt)==0) (.call 236 [] [D.int f0.toInt,x1.fld 2,y2.fld 2] fun yy8 =>
 .ret [D.agg [D.int ((yy1.getD 0 D.nil).toInt),D.int 0,yy8.getD 0 D.nil,D.int 0,D.sl []],D.int ((yy8.getD 1 D.nil).toInt)])
 (.br (f0.toInt == 61) (.br (((x1.fld 1).toInt)==((y2.fld 1).toInt)) (.call 237 [] [D.bool ((((x1.fld 3).toInt)==((y2.fld 3).toInt))==(f0.toInt == 61))] fun yy9 =>
 .ret [D.agg [D.int ((yy1.getD 0 D.nil).toInt),D.int 0,yy9.getD 0 D.nil,D.int 0,D.sl []],D.int 0])
 (.call 237 [] [D.bool (false == (f0.toInt == 61))] fun yy10 =>
 .ret [D.agg [D.int ((yy1.getD 0 D.nil).toInt),D.int 0,yy10.getD 0 D.nil,D.int 0,D.sl []],D.int 0]))
 (.br (f0.toInt == 8800) (.br (((x1.fld 1).toInt)==((y2.fld 1).toInt)) (.call 237 [] [D.bool ((((x1.fld 3).toInt)==((y2.fld 3).toInt))==(f0.toInt == 61))] fun yy11 =>
 .ret [D.agg [D.int ((yy1.getD 0 D.nil).toInt),D.int 0,yy11.getD 0 D.nil,D.int 0,D.sl []],D.int 0])
 (.call 237 [] [D.bool (false == (f0.toInt == 61))] fun yy12 =>
 .ret [D.agg [D.int ((yy1.getD 0 D.nil).toInt),D.int 0,yy12.getD 0 D.nil,D.int 0,D.sl []],D.int 0]))
 (.ret [D.agg [D.int ((yy1.getD 0 D.nil).toInt),D.int 0,D.agg [D.bool false,D.sl [],D.sl []],D.int 0,D.sl []],D.int 3]))))
 (.br (f0.toInt == 61) (.br (((x1.fld 1).toInt)==((y2.fld 1).toInt)) (.call 237 [] [D.bool ((((x1.fld 3).toInt)==((y2.fld 3).toInt))==(f0.toInt == 61))] fun yy13 =>
 .ret [D.agg [D.int ((yy1.getD 0 D.nil).toInt),D.int 0,yy13.getD 0 D.nil,D.int 0,D.sl []],D.int 0])
 (.call 237 [] [D.bool (false == (f0.toInt == 61))] fun yy14 =>
 .ret [D.agg [D.int ((yy1.getD 0 D.nil).toInt),D.int 0,yy14.getD 0 D.nil,D.int 0,D.sl []],D.int 0]))
 (.br (f0.toInt == 8800) (.br (((x1.fld 1).toInt)==((y2.fld 1).toInt)) (.call 237 [] [D.bool ((((x1.fld 3).toInt)==((y2.fld 3).toInt))==(f0.toInt == 61))] fun yy15 =>
 .ret [D.agg [D.int ((yy1.getD 0 D.nil).toInt),D.int 0,yy15.getD 0 D.nil,D.int 0,D.sl []],D.int 0])
 (.call 237 [] [D.bool (false == (f0.toInt == 61))] fun yy16 =>
 .ret [D.agg [D.int ((yy1.getD 0 D.nil).toInt),D.int 0,yy16.getD 0 D.nil,D.int 0,D.sl []],D.int 0]))
 (.ret [D.agg [D.int ((yy1.getD 0 D.nil).toInt),D.int 0,D.agg [D.bool false,D.sl [],D.sl []],D.int 0,D.sl []],D.int 3]))))):=by kernel_rfl
theorem OB(n:Nat)(a0 i1:D):Ai Tryz.prog md [] n 195 [] [a0,i1] =
 .br ((((a0.fld 1).els).length:Int)==0) (.br (decide ((0:Int)<0)) (.ret [D.agg [D.int 0,D.int 0,D.agg [D.bool false,D.sl [],D.sl []],D.int 0,D.sl []]])
 (.br (decide ((((a0.fld 2).els).length:Int)≤(0:Int))) (.ret [D.agg [D.int 0,D.int 0,D.agg [D.bool false,D.sl [],D.sl []],D.int 0,D.sl []]])
 (.br (decide (0≤0)) (.br (decide (0<(((a0.fld 2).els).length:Int))) (.ret [((a0.fld 2).els).getD (Int.toNat 0) D.nil]) .fail) .fail)))
 (.br (decide (i1.toInt<0)) (.ret [D.agg [D.int 0,D.int 0,D.agg [D.bool false,D.sl [],D.sl []],D.int 0,D.sl []]])
 (.br (decide ((((a0.fld 2).els).length:Int)≤i1.toInt)) (.ret [D.agg [D.int 0,D.int 0,D.agg [D.bool false,D.sl [],D.sl []],D.int 0,D.sl []]])
 (.br (decide (0≤i1.toInt)) (.br (decide (i1.toInt<(((a0.fld 2).els).length:Int))) (.ret [((a0.fld 2).els).getD (Int.toNat i1.toInt) D.nil]) .fail) .fail))):=by kernel_rfl
theorem GN(n:Nat)(f0 nn1:D):Ai Tryz.prog md [] n 221 [] [f0,nn1] =
 .br (f0.toInt == 43) (.call 257 [] [nn1] fun yy1 =>
 .ret [(yy1.getD 0 D.nil).fld 2,D.int 0])
 (.br (f0.toInt == 45) (.call 258 [] [nn1] fun yy2 =>
 .ret [yy2.getD 0 D.nil,D.int 0])
 (.br (f0.toInt == 215) (.call 259 [] [nn1] fun yy3 =>
 .call 212 [] [D.int ((yy3.getD 0 D.nil).toInt)] fun yy4 =>
 .ret [yy4.getD 0 D.nil,D.int 0])
 (.br (f0.toInt == 247) (.call 212 [] [D.int 1] fun yy5 =>
 .call 260 [] [yy5.getD 0 D.nil,nn1] fun yy6 =>
 .ret [yy6.getD 0 D.nil,D.int ((yy6.getD 1 D.nil).toInt)])
 (.br (f0.toInt == 8968) (.call 261 [] [nn1] fun yy7 =>
 .ret [yy7.getD 0 D.nil,D.int 0])
 (.br (f0.toInt == 8970) (.call 262 [] [nn1] fun yy8 =>
 .ret [yy8.getD 0 D.nil,D.int 0])
 (.br (f0.toInt == 124) (.call 263 [] [nn1] fun yy9 =>
 .ret [yy9.getD 0 D.nil,D.int 0])
 (.br (f0.toInt == 126) (.call 166 [] [nn1] fun yy10 =>
 .br (!((yy10.getD 1 D.nil).toBool)) (.ret [D.agg [D.bool false,D.sl [],D.sl []],D.int 3])
 (.br (((yy10.getD 0 D.nil).toInt)!=0) (.br (((yy10.getD 0 D.nil).toInt)!=1) (.ret [D.agg [D.bool false,D.sl [],D.sl []],D.int 3])
 (.call 212 [] [D.int (IntKind.wrap .i64 (1-((yy10.getD 0 D.nil).toInt)))] fun yy11 =>
 .ret [yy11.getD 0 D.nil,D.int 0]))
 (.call 212 [] [D.int (IntKind.wrap .i64 (1-((yy10.getD 0 D.nil).toInt)))] fun yy12 =>
 .ret [yy12.getD 0 D.nil,D.int 0])))
 (.br (f0.toInt == 33) (.call 264 [] [nn1] fun yy13 =>
 .ret [yy13.getD 0 D.nil,D.int ((yy13.getD 1 D.nil).toInt)])
 (.ret [D.agg [D.bool false,D.sl [],D.sl []],D.int 8]))))))))):=by kernel_rfl
theorem GP(n:Nat)(c0:D):Ai Tryz.prog md [] n 222 [] [c0] =
 .br ((((c0.fld 4).els).length:Int)==0) (.ret [D.agg [D.int 0,D.sl [],D.sl []]])
 (.br (decide (0≤0)) (.br (decide (0<(((c0.fld 4).els).length:Int))) (.ret [((c0.fld 4).els).getD (Int.toNat 0) D.nil]) .fail) .fail):=by kernel_rfl
theorem DG(n:Nat)(c0:D):Ai Tryz.prog md [] n 235 [] [c0] =
 .br (((c0.fld 1).toInt)==2) (.call 222 [] [c0] fun yy1 =>
 .ret [yy1.getD 0 D.nil])
 (.call 178 [] [D.agg [D.int 0,D.int ((c0.fld 1).toInt),c0.fld 2,D.int ((c0.fld 3).toInt),c0.fld 4]] fun yy2 =>
 .ret [yy2.getD 0 D.nil]):=by kernel_rfl
theorem DF(n:Nat)(f0 a1 b2:D):Ai Tryz.prog md [] n 236 [] [f0,a1,b2] =
 .br (f0.toInt == 43) (.call 277 [] [a1,b2] fun yy1 =>
 .ret [yy1.getD 0 D.nil,D.int ((yy1.getD 1 D.nil).toInt)])
 (.br (f0.toInt == 45) (.call 278 [] [a1,b2] fun yy2 =>
 .ret [yy2.getD 0 D.nil,D.int ((yy2.getD 1 D.nil).toInt)])
 (.br (f0.toInt == 215) (.call 279 [] [a1,b2] fun yy3 =>
 .ret [yy3.getD 0 D.nil,D.int ((yy3.getD 1 D.nil).toInt)])
 (.br (f0.toInt == 247) (.call 260 [] [a1,b2] fun yy4 =>
 .ret [yy4.getD 0 D.nil,D.int ((yy4.getD 1 D.nil).toInt)])
 (.br (f0.toInt == 8968) (.br (f0.toInt == 8968) (.call 219 [] [a1,b2] fun yy5 =>
 .br ((decide (((yy5.getD 0 D.nil).toInt)<0))==(f0.toInt == 8968)) (.call 257 [] [b2] fun yy6 =>
 .ret [(yy6.getD 0 D.nil).fld 2,D.int 0])
 (.call 257 [] [a1] fun yy7 =>
 .ret [(yy7.getD 0 D.nil).fld 2,D.int 0]))
 (.br (f0.toInt == 124) (.call 280 [] [a1,b2] fun yy8 =>
 .ret [yy8.getD 0 D.nil,D.int ((yy8.getD 1 D.nil).toInt)])
 (.br (f0.toInt == 42) (.call 166 [] [b2] fun yy9 =>
 .br (!((yy9.getD 1 D.nil).toBool)) (.ret [D.agg [D.bool false,D.sl [],D.sl []],D.int 8])
 (.call 281 [] [a1,D.int ((yy9.getD 0 D.nil).toInt)] fun yy10 =>
 .ret [yy10.getD 0 D.nil,D.int ((yy10.getD 1 D.nil).toInt)]))
 (.br (f0.toInt == 8743) (.call 282 [] [a1,b2] fun yy11 =>
 .ret [yy11.getD 0 D.nil,D.int ((yy11.getD 1 D.nil).toInt)])
 (.br (f0.toInt == 8744) (.call 283 [] [a1,b2] fun yy12 =>
 .ret [yy12.getD 0 D.nil,D.int ((yy12.getD 1 D.nil).toInt)])
 (.call 284 [] [D.int f0.toInt,a1,b2] fun yy13 =>
 .ret [yy13.getD 0 D.nil,D.int ((yy13.getD 1 D.nil).toInt)]))))))
 (.br (f0.toInt == 8970) (.call 219 [] [a1,b2] fun yy14 =>
 .br ((decide (((yy14.getD 0 D.nil).toInt)<0))==(f0.toInt == 8968)) (.call 257 [] [b2] fun yy15 =>
 .ret [(yy15.getD 0 D.nil).fld 2,D.int 0])
 (.call 257 [] [a1] fun yy16 =>
 .ret [(yy16.getD 0 D.nil).fld 2,D.int 0]))
 (.br (f0.toInt == 124) (.call 280 [] [a1,b2] fun yy17 =>
 .ret [yy17.getD 0 D.nil,D.int ((yy17.getD 1 D.nil).toInt)])
 (.br (f0.toInt == 42) (.call 166 [] [b2] fun yy18 =>
 .br (!((yy18.getD 1 D.nil).toBool)) (.ret [D.agg [D.bool false,D.sl [],D.sl []],D.int 8])
 (.call 281 [] [a1,D.int ((yy18.getD 0 D.nil).toInt)] fun yy19 =>
 .ret [yy19.getD 0 D.nil,D.int ((yy19.getD 1 D.nil).toInt)]))
 (.br (f0.toInt == 8743) (.call 282 [] [a1,b2] fun yy20 =>
 .ret [yy20.getD 0 D.nil,D.int ((yy20.getD 1 D.nil).toInt)])
 (.br (f0.toInt == 8744) (.call 283 [] [a1,b2] fun yy21 =>
 .ret [yy21.getD 0 D.nil,D.int ((yy21.getD 1 D.nil).toInt)])
 (.call 284 [] [D.int f0.toInt,a1,b2] fun yy22 =>
 .ret [yy22.getD 0 D.nil,D.int ((yy22.getD 1 D.nil).toInt)])))))))))):=by kernel_rfl
theorem KH(n:Nat)(holds0:D):Ai Tryz.prog md [] n 237 [] [holds0] =
 .br holds0.toBool (.call 212 [] [D.int 1] fun yy1 =>
 .ret [yy1.getD 0 D.nil])
 (.call 212 [] [D.int 0] fun yy2 =>
 .ret [yy2.getD 0 D.nil]):=by kernel_rfl
def Hu:List (Nat×Orc):=[(9,⟨[(2,none),(6,none),(8,none),(9,none)],[(2,false),(8,true)],[]⟩)]
noncomputable def Iu(n m9:Nat)(most6 i9:Int)(t2_0:Bool)(product8:D):Tree :=
 lA (eA Hu n 264 [1,1,1,1,1,0,1,0,0]) (Ao Hu 9) m9 ⟨(.undef:: .undef:: .ptr 2 []::uA 3++(.i .i64 most6:: .undef:: .ptr 8 []:: .i .i64 i9::uA 42)),[(2,.var 64 (.agg 64 [.b t2_0,.mt,.mt]) true),(8,.var 187 (.d 187 product8) true)],[2,8],[],[]⟩
  (Ak 0 (Au (jA Hu n 264 [1,1,1,1,1,1]) (rA 264 [64] [.cell 2 64,.tmp 3] [64,29])))
theorem Mk(n m9:Nat)(most6 i9:Int)(t2_0:Bool)(product8:D):Iu n (m9+1) most6 i9 t2_0 product8 =
 .br (decide (i9≤most6)) (.call 246 [] [D.int i9] fun yy5 =>
 .call 254 [] [product8,yy5.getD 0 D.nil] fun yy6 =>
 Iu n m9 most6 (IntKind.wrap .i64 (i9+1)) t2_0 (yy6.getD 0 D.nil))
 (.br (decide (32<(((product8.fld 1).els).length:Int))) (.ret [D.agg [D.bool false,D.sl [],D.sl []],D.int 7])
 (.call 245 [] [product8] fun yy7 =>
 .ret [yy7.getD 0 D.nil,D.int 0])):=by kernel_rfl
theorem Z9(n:Nat)(nn0:D):Ai Tryz.prog md Hu n 264 [] [nn0] =
 .call 307 [] [nn0] fun yy1 =>
 .br (!((yy1.getD 1 D.nil).toBool)) (.ret [D.agg [D.bool false,D.sl [],D.sl []],D.int 3])
 (.call 259 [] [nn0] fun yy2 =>
 .br (decide (((yy2.getD 0 D.nil).toInt)<0)) (.ret [D.agg [D.bool false,D.sl [],D.sl []],D.int 3])
 (.call 166 [] [nn0] fun yy3 =>
 .br (!((yy3.getD 1 D.nil).toBool)) (.ret [D.agg [D.bool false,D.sl [],D.sl []],D.int 7])
 (.br (decide (200<((yy3.getD 0 D.nil).toInt))) (.ret [D.agg [D.bool false,D.sl [],D.sl []],D.int 7])
 (.call 246 [] [D.int 1] fun yy4 =>
 Iu n n ((yy3.getD 0 D.nil).toInt) 2 false (yy4.getD 0 D.nil))))):=by kernel_rfl
theorem BW(n:Nat)(f0 a1 b2:D):Ai Tryz.prog md [] n 284 [] [f0,a1,b2] =
 .call 219 [] [a1,b2] fun yy1 =>
 .br (f0.toInt == 60) (.call 237 [] [D.bool (decide (((yy1.getD 0 D.nil).toInt)<0))] fun yy2 =>
 .ret [yy2.getD 0 D.nil,D.int 0])
 (.br (f0.toInt == 8804) (.call 237 [] [D.bool (decide (((yy1.getD 0 D.nil).toInt)≤0))] fun yy3 =>
 .ret [yy3.getD 0 D.nil,D.int 0])
 (.br (f0.toInt == 61) (.call 237 [] [D.bool (((yy1.getD 0 D.nil).toInt)==0)] fun yy4 =>
 .ret [yy4.getD 0 D.nil,D.int 0])
 (.br (f0.toInt == 8805) (.call 237 [] [D.bool (decide (0≤((yy1.getD 0 D.nil).toInt)))] fun yy5 =>
 .ret [yy5.getD 0 D.nil,D.int 0])
 (.br (f0.toInt == 62) (.call 237 [] [D.bool (decide (0<((yy1.getD 0 D.nil).toInt)))] fun yy6 =>
 .ret [yy6.getD 0 D.nil,D.int 0])
 (.br (f0.toInt == 8800) (.call 237 [] [D.bool (((yy1.getD 0 D.nil).toInt)!=0)] fun yy7 =>
 .ret [yy7.getD 0 D.nil,D.int 0])
 (.ret [D.agg [D.bool false,D.sl [],D.sl []],D.int 8])))))):=by kernel_rfl
def Yg:List Int:=[43,45,215,247,8968,8970,124,126,33]
def CB:List Int:=[43,45,215,247,8968,8970,124,42,60,8804,61,8805,62,8800,8743,8744]
theorem SB(f:Int):Sp 158 [.int f] [.bool (decide (f∈Yg))]:=by
 refine Ag 0 (KD _ _) ?_
 simp only[Ah,Bz]
 unfold Yg
 repeat (refine Ad (fun h=>At h (Ac (by simp[h]))) (fun h=> ?_))
 refine Ad (fun h=>Ac (by simp[h])) (fun h=>Ac (by simp[*]))
theorem SC(f:Int):Sp 192 [.int f] [.bool (decide (f∈CB))]:=by
 refine Ag 0 (KE _ _) ?_
 simp only[Ah,Bz]
 unfold CB
 repeat (refine Ad (fun h=>At h (Ac (by simp[h]))) (fun h=> ?_))
 refine Ad (fun h=>Ac (by simp[h])) (fun h=>Ac (by simp[*]))
theorem To(l:List Int)(x:Int)(hl:l.length≤1000000):Sp 23 [dI l,.int x] [.bool (decide (x∈l))]:=by
 refine Ag (l.length+1) (Aa0 _ _ _) ?_
 simp only[Ah]
 have key:=A7 (P:=Tryz.prog) (md:=md) l (fun m k (_:Unit)=>Tn (l.length+1) m (dI l) x (k:Int)) (fun rest _=>[.bool (decide (x∈rest))]) (fun _ _=>True)
  (fun m k _ hk _=>by
   simp only[Xk,Bx,List.length_map]
   exact Am (by omega) (Ac (by simp)))
  (fun m k _ y rest hdr _ ih=>by
   obtain ⟨h1,h2,_⟩:=Az hdr
   simp only[Xk,Bx,List.length_map,Int.toNat_natCast,Aj h2,Ah,Bz,An (show k<9223372036854775807 by omega)]
   refine Ae (Ae (Ae (Ad (fun h=>Ac ?_) (fun h=> ?_))))
   · rw[h];simp
   · refine Tree.wp_mono (ih () trivial) (fun ys hy=>hy.trans ?_)
     rw[show decide (x∈y::rest)=decide (x∈rest) by rw[decide_eq_decide,List.mem_cons];exact ⟨fun hh=>hh.resolve_left (fun e=>h e.symm),fun hh=> .inr hh⟩])
  (l.length+1) 0 () (by omega) (by omega) trivial
 exact key
def S6(b:Bool):Num:=if b then G4 1 else G4 0
theorem D5(b:Bool):Sp 237 [.bool b] [dN (S6 b)]:=by
 refine Ag 0 (KH _ _) ?_
 cases b with
 | true=>exact Ba rfl (Aa (Hz 1 (by unfold Cv;omega)) (Ac rfl))
 | false=>exact Cs rfl (Aa (Hz 0 (by unfold Cv;omega)) (Ac rfl))
def J6:Nat→Nat
 | 0=>1
 | k+1=>(k+1)*J6 k
def Ae7(n:Num):Num×Int:=if n.bot = [1]∧n.neg=false then (match D_ n with | some k=>if k≤200 then Js (J6 k.toNat:Nat) 1 else (.zero,7) | none=>(.zero,7)) else (.zero,3)
def UZ(f:Int)(n:Num):Num×Int :=
 if f=43 then (n,0) else if f=45 then (W9 n,0) else if f=215 then (G4 (Mm (Cg n)),0) else if f=247 then MJ (G4 1) n
 else if f=8968 then (W9 (Yw (W9 n)),0) else if f=8970 then (Yw n,0) else if f=124 then (⟨false,n.top,n.bot⟩,0)
 else if f=126 then (if D_ n=some 0 then (G4 1,0) else if D_ n=some 1 then (G4 0,0) else (.zero,3))
 else if f=33 then Ae7 n else (.zero,8)
def AgL(f c:Int):Num×Int :=
 if f=60 then (S6 (decide (c<0)),0) else if f=8804 then (S6 (decide (c≤0)),0) else if f=61 then (S6 (decide (c=0)),0)
 else if f=8805 then (S6 (decide (0≤c)),0) else if f=62 then (S6 (decide (0<c)),0) else if f=8800 then (S6 (decide (¬ c=0)),0) else (.zero,8)
def HJ(f:Int)(a b:Num):Num×Int :=
 if f=43 then AgB a b else if f=45 then AhR a b else if f=215 then UT a b else if f=247 then MJ a b
 else if f=8968 then (if Sg a b<0 then b else a,0) else if f=8970 then (if Sg a b<0 then a else b,0)
 else if f=124 then Ahv a b else if f=42 then (match D_ b with | some k=>AeX a k | none=>(.zero,8))
 else if f=8743 then Ahg a b else if f=8744 then MP a b else AgL f (Sg a b)
section
variable {a b:Num} {z y:Int} {d e:Nat}
theorem Agx(h:RNum a z d){k:Int}(hs:D_ a=some k):k=z∧d=1∧Cv z:=by
 unfold D_ ZG at hs
 split at hs
 · rename_i hb
   rw[h.top]at hs
   split at hs
   · rename_i hr
     injection hs with hs
     refine ⟨hs.symm,?_,hr⟩
     have:=h.bot
     rw[NC hb]at this
     omega
   · cases hs
 · cases hs
theorem Ab7(k:Nat)(h:k<B):Cj (J6 k:Nat)≤k+1:=by
 induction k with
 | zero=>show (lb (Int.natAbs (J6 0:Nat))).length≤1;simp[J6,Sn]
 | succ k ih =>
  have h1:=ih (by omega)
  rw[J6,Int.natCast_mul]
  have h2:=Ih ((k+1:Nat):Int) (J6 k:Nat)
  have h3:Cj ((k+1:Nat):Int)≤1:=Zr (by rw[Int.natAbs_natCast,Nat.pow_one];exact h)
  omega
end
theorem AiZ(p:Int):Js p 1=if 32<Cj p then (.zero,7) else (G4 p,0):=by
 obtain ⟨z,d,h0,_,h2,_,h4,h5⟩:=Ya p 1 (by decide)
 have hd:d=1:=by
  have:Int.natAbs 1=1:=rfl
  omega
 subst hd
 have hz:z=p:=by simpa using h2
 subst hz
 rw[h5,Sk]
 by_cases h:32<Cj z
 · rw[if_pos (.inl h),if_pos h]
 · rw[if_neg (by rw[Sn];simp;omega),if_neg h]
section
variable {a b:Num} {z y:Int} {d e:Nat}
theorem Acf(h:RNum a z d) : ∃ w:Wh,Sp 307 [dN a] [dW w,.bool (decide (a.bot = [1]))]:=by
 by_cases hb:a.bot = [1]
 · refine ⟨wz (Cg a),Ag 0 (Z5 _ _) (Aa (Fb a.bot) ?_)⟩
   rw[decide_eq_true hb]
   exact Cs rfl (Aa (C0 a) (Aa (Pd ⟨a.neg,a.top⟩ (by have:=h.len;show a.top.length≤_;omega)) (Ac rfl)))
 · refine ⟨⟨false,[]⟩,Ag 0 (Z5 _ _) (Aa (Fb a.bot) ?_)⟩
   rw[decide_eq_false hb]
   exact Ba rfl (Ac rfl)
theorem Ac_{x:Int} : Mm x<0↔x<0:=by unfold Mm;by_cases h1:x<0 <;> by_cases h2:x=0 <;> simp[h1,h2]
theorem AiM(k:Nat)(hk:0<k):((J6 (k-1):Nat):Int)*(k:Int)=((J6 k:Nat):Int):=by
 obtain ⟨j,rfl⟩ : ∃ j,k=j+1:=⟨k-1,by omega⟩
 rw[Nat.add_sub_cancel,J6,Int.natCast_mul,Int.mul_comm]
theorem DH(h:RNum a z d):Sp 264 [dN a] (Gt (Ae7 a)):=by
 obtain ⟨w,hi⟩:=Acf h
 obtain ⟨l1,l2⟩:=h.len
 refine Ag 300 (Z9 _ _) (Aa hi ?_)
 simp only[Ce,Al,Fo,J5]
 unfold Ae7
 refine Ad (fun h1=>Ac ?_) (fun h1=>Aa (Oy h.sm) ?_)
 · rw[if_neg (fun hh=>h1 hh.1)];rfl
 have hb:=Classical.not_not.1 h1
 simp only[Af,Ah]
 refine Ad (fun h2=>Ac ?_) (fun h2=>Aa (M8 a (by omega)) ?_)
 · have:a.neg=true:=by rw[h.sgn];exact decide_eq_true (by rw[← h.top];exact Ac_.1 h2)
   rw[if_neg (fun hh=>by rw[this]at hh;cases hh.2)];rfl
 have hn:a.neg=false:=by rw[h.sgn];exact decide_eq_false (fun hh=>h2 (Ac_.2 (by rw[h.top];exact hh)))
 rw[if_pos ⟨hb,hn⟩]
 cases hs:D_ a with
 | none=>exact Ba rfl (Ac rfl)
 | some k =>
   obtain ⟨rfl,rfl,hr⟩:=Agx h hs
   have hk0:0≤k:=by have:=h.sgn;rw[hn]at this;have:=of_decide_eq_false this.symm;omega
   refine Cs rfl ?_
   simp only[FH,Af,Ah]
   refine Ad (fun h3=>Ac ?_) (fun h3=>Aa (Od 1 (by unfold Cv;omega)) ?_)
   · rw[if_neg (by omega)];rfl
   rw[if_pos (by omega)]
   obtain ⟨K,rfl⟩:=Int.eq_ofNat_of_zero_le hk0
   have hK:K≤200:=by omega
   simp only[Af,Int.toNat_natCast]
   have key:=C4 (P:=Tryz.prog) (md:=md) (max (K+1) 2) (fun m k (_:Unit)=>Iu 300 m (K:Int) (k:Int) false (dW (wz ((J6 (k-1):Nat):Int)))) (fun _ _=>Gt (Js (J6 K:Nat) 1)) (fun k _=>2≤k)
    (fun m _ _=>by
     have hf:J6 (max (K+1) 2-1)=J6 K:=by
       rcases (by omega:K=0∨1≤K) with h0 | h0
       · subst h0;rfl
       · rw[show max (K+1) 2-1=K by omega]
     have hl:=Ab7 K (by rw[Be];omega)
     simp only[Mk,hf,Lm,Bu,List.length_map,J5]
     rw[AiZ]
     refine Am (by omega) (Ad (fun h4=>Ac ?_) (fun h4=> ?_))
     · rw[if_pos (by have:=U_ ((J6 K:Nat):Int);omega)];rfl
     · have hw:=U_ ((J6 K:Nat):Int)
       have wh:=M9 (wz ((J6 K:Nat):Int)) (by omega)
       rw[Eh]at wh
       have e1:U9 ((J6 K:Nat):Int)=G4 ((J6 K:Nat):Int):=by unfold U9;rw[if_neg (by show ¬ 32<Cj _;omega)]
       rw[e1]at wh
       rw[if_neg (by omega)]
       exact Aa wh (Ac rfl))
    (fun m k _ hkK hk2 ih=>by
     have hkK':k≤K:=by omega
     simp only[Mk]
     rw[An (by omega)]
     have l1:=Ab7 (k-1) (by rw[Be];omega)
     have l2:Cj (k:Int)≤1:=Zr (by rw[Int.natAbs_natCast,Nat.pow_one,Be];omega)
     have ml:=Ef (wz ((J6 (k-1):Nat):Int)) (wz (k:Int)) (by rw[U_];omega) (by rw[U_];omega)
     rw[Eh,Eh,AiM k (by omega)]at ml
     have:=ih () (by omega)
     rw[Nat.add_sub_cancel]at this
     exact Ae (Aa (Od (k:Int) (by unfold Cv;omega)) (Aa ml this)))
    300 2 () (by omega) (by omega) (by omega)
   exact key
theorem AiQ(x:Int):Cv (Mm x):=by unfold Mm Cv;split;omega;split <;> omega
theorem OA(f:Int)(h:RNum a z d):Sp 221 [.int f,dN a] (Gt (UZ f a)):=by
 obtain ⟨l1,l2⟩:=h.len
 have o1:=AhK (z:=1) AeK
 refine Ag 0 (GN _ _ _) ?_
 simp only[Ah,Bz,J5]
 unfold UZ
 refine Ad (fun h1=>Aa (L6 a (by omega) (by omega)) (Ac ?_)) (fun h1=> ?_)
 · rw[if_pos h1];simp[Gt]
 rw[if_neg h1]
 refine Ad (fun h1=>Aa (Qv h) (Ac ?_)) (fun h1=> ?_)
 · rw[if_pos h1];rfl
 rw[if_neg h1]
 refine Ad (fun h1=>Aa (Oy h.sm) (Aa (Hz _ (AiQ _)) (Ac ?_))) (fun h1=> ?_)
 · rw[if_pos h1];rfl
 rw[if_neg h1]
 refine Ad (fun h1=>Aa (Hz 1 (by unfold Cv;omega)) (Aa (Qu o1.sm h.sm) (Ac ?_))) (fun h1=> ?_)
 · rw[if_pos h1];rfl
 rw[if_neg h1]
 refine Ad (fun h1=>Aa (Aat h) (Ac ?_)) (fun h1=> ?_)
 · rw[if_pos h1];rfl
 rw[if_neg h1]
 refine Ad (fun h1=>Aa (Sw h) (Ac ?_)) (fun h1=> ?_)
 · rw[if_pos h1];rfl
 rw[if_neg h1]
 refine Ad (fun h1=>Aa (Ace h) (Ac ?_)) (fun h1=> ?_)
 · rw[if_pos h1];rfl
 rw[if_neg h1]
 refine Ad (fun h1=>Aa (M8 a (by omega)) ?_) (fun h1=> ?_)
 · rw[if_pos h1]
   cases hs:D_ a with
   | none=>exact Ba rfl (Ac rfl)
   | some k =>
    refine Cs rfl ?_
    simp only[FH,Af,Ah,Cz,Option.some.injEq]
    refine Ad (fun h2=>Ad (fun h3=>Ac ?_) (fun h3=> ?_)) (fun h2=> ?_)
    · rw[if_neg h2,if_neg h3];rfl
    · obtain rfl:=Classical.not_not.1 h3
      exact Aa (Hz _ (by unfold Cv;decide)) (Ac rfl)
    · obtain rfl:=Classical.not_not.1 h2
      exact Aa (Hz _ (by unfold Cv;decide)) (Ac rfl)
 rw[if_neg h1]
 refine Ad (fun h1=>Aa (DH h) (Ac ?_)) (fun h1=>Ac ?_)
 · rw[if_pos h1];rfl
 · rw[if_neg h1];rfl
theorem GO(f:Int)(h:RNum a z d)(h':RNum b y e):Sp 284 [.int f,dN a,dN b] (Gt (AgL f (Sg a b))):=by
 refine Ag 0 (BW _ _ _ _) (Aa (Qt h.sm h'.sm) ?_)
 simp only[Af,Ah,Bz,Cz,J5]
 unfold AgL
 refine Ad (fun h1=>Aa (D5 _) (Ac ?_)) (fun h1=> ?_)
 · rw[if_pos h1];rfl
 rw[if_neg h1]
 refine Ad (fun h1=>Aa (D5 _) (Ac ?_)) (fun h1=> ?_)
 · rw[if_pos h1];rfl
 rw[if_neg h1]
 refine Ad (fun h1=>Aa (D5 _) (Ac ?_)) (fun h1=> ?_)
 · rw[if_pos h1];rfl
 rw[if_neg h1]
 refine Ad (fun h1=>Aa (D5 _) (Ac ?_)) (fun h1=> ?_)
 · rw[if_pos h1];rfl
 rw[if_neg h1]
 refine Ad (fun h1=>Aa (D5 _) (Ac ?_)) (fun h1=> ?_)
 · rw[if_pos h1];rfl
 rw[if_neg h1]
 refine Ad (fun h1=>Aa (D5 _) (Ac ?_)) (fun h1=>Ac ?_)
 · rw[if_pos h1];rfl
 · rw[if_neg h1];rfl
def Akx(f:Int)(b:Num):Prop:=f=42→∀ k,D_ b=some k→ -300≤k∧k≤300
theorem KF(f:Int)(h:RNum a z d)(h':RNum b y e)(hp:Akx f b):Sp 236 [.int f,dN a,dN b] (Gt (HJ f a b)):=by
 obtain ⟨l1,l2⟩:=h.len
 obtain ⟨l3,l4⟩:=h'.len
 refine Ag 0 (DF _ _ _ _) ?_
 simp only[Ah,Bz,J5]
 unfold HJ
 refine Ad (fun h1=>Aa (FP h.sm h'.sm) (Ac ?_)) (fun h1=> ?_)
 · rw[if_pos h1];rfl
 rw[if_neg h1]
 refine Ad (fun h1=>Aa (FR h.sm h') (Ac ?_)) (fun h1=> ?_)
 · rw[if_pos h1];rfl
 rw[if_neg h1]
 refine Ad (fun h1=>Aa (Xh h.sm h'.sm) (Ac ?_)) (fun h1=> ?_)
 · rw[if_pos h1];rfl
 rw[if_neg h1]
 refine Ad (fun h1=>Aa (Qu h.sm h'.sm) (Ac ?_)) (fun h1=> ?_)
 · rw[if_pos h1];rfl
 rw[if_neg h1]
 refine Ad (fun h1=>At h1 (Aa (Qt h.sm h'.sm) ?_)) (fun h1=> ?_)
 · rw[if_pos h1,decide_eq_true h1]
   simp only[Af,Ah]
   by_cases hc:Sg a b<0
   · rw[if_pos hc]
     exact Ba (beq_iff_eq.2 (decide_eq_true hc)) (Aa (L6 b (by omega) (by omega)) (Ac (by simp[Gt])))
   · rw[if_neg hc]
     exact Cs (beq_eq_false_iff_ne.2 (fun hh=>hc (of_decide_eq_true hh))) (Aa (L6 a (by omega) (by omega)) (Ac (by simp[Gt])))
 rw[if_neg h1,decide_eq_false h1]
 refine Ad (fun h1=>Aa (Qt h.sm h'.sm) ?_) (fun h1=> ?_)
 · rw[if_pos h1]
   simp only[Af,Ah]
   by_cases hc:Sg a b<0
   · rw[if_pos hc]
     exact Cs (beq_eq_false_iff_ne.2 (fun hh=>of_decide_eq_false hh hc)) (Aa (L6 a (by omega) (by omega)) (Ac (by simp[Gt])))
   · rw[if_neg hc]
     exact Ba (beq_iff_eq.2 (decide_eq_false hc)) (Aa (L6 b (by omega) (by omega)) (Ac (by simp[Gt])))
 rw[if_neg h1]
 refine Ad (fun h1=>Aa (Ach h h') (Ac ?_)) (fun h1=> ?_)
 · rw[if_pos h1];rfl
 rw[if_neg h1]
 refine Ad (fun h1=>Aa (M8 b (by omega)) ?_) (fun h1=> ?_)
 · rw[if_pos h1]
   cases hs:D_ b with
   | none=>exact Ba rfl (Ac rfl)
   | some k =>
     have:=hp h1 k hs
     exact Cs rfl (Aa (Aci h k (by omega)) (Ac rfl))
 rw[if_neg h1]
 refine Ad (fun h1=>Aa (Acg h h') (Ac ?_)) (fun h1=> ?_)
 · rw[if_pos h1];rfl
 rw[if_neg h1]
 refine Ad (fun h1=>Aa (FQ h h') (Ac ?_)) (fun h1=>Aa (GO f h h') (Ac ?_))
 · rw[if_pos h1];rfl
 · rw[if_neg h1];rfl
end
theorem Ij{d:Nat}{c:Cell}(h:B7 d c=true):(c.kind=0∧c.c=0∧c.inn = []∧Ge c.n=true)∨(c.kind=1∧c.n = .zero∧c.inn = [])∨(c.kind=2∧c.n = .zero∧c.c=0∧∃ x e,d=e+1∧c.inn = [x]∧Hd x=false∧A8 e x=true):=by
 have h2:=Q9 h
 have key : ∀ k r,Gw k r c=true→(c.kind=0∧c.c=0∧c.inn = []∧Ge c.n=true)∨(c.kind=1∧c.n = .zero∧c.inn = [])∨(c.kind=2∧c.n = .zero∧c.c=0∧∃ x,x∈c.inn):=by
   intro k r hh
   unfold Gw at hh
   split at hh
   · rename_i hk
     simp only[Bool.and_eq_true,decide_eq_true_eq]at hh
     exact .inl ⟨hk,hh.1.1,List.length_eq_zero_iff.1 hh.1.2,hh.2⟩
   split at hh
   · rename_i hk
     simp only[Bool.and_eq_true,decide_eq_true_eq]at hh
     exact .inr (.inl ⟨hk,hh.1.1,List.length_eq_zero_iff.1 hh.1.2⟩)
   · simp only[Bool.and_eq_true,decide_eq_true_eq]at hh
     obtain ⟨h3,h4,h5⟩:=hh
     refine .inr (.inr ⟨h3.1,h3.2.1,h3.2.2,?_⟩)
     unfold Xz at h5
     split at h5
     · rename_i y hy;exact ⟨y,by rw[hy];simp⟩
     · cases h5
 have:(c.kind=0∧c.c=0∧c.inn = []∧Ge c.n=true)∨(c.kind=1∧c.n = .zero∧c.inn = [])∨(c.kind=2∧c.n = .zero∧c.c=0∧∃ x,x∈c.inn):=by
   cases d with
   | zero=>exact key _ _ h
   | succ d=>exact key _ _ h
 rcases this with h3 | h3 | ⟨h3,h4,h5,x,hx⟩
 · exact .inl h3
 · exact .inr (.inl h3)
 · obtain ⟨e,he,hs,hr,hi,_⟩:=h2 x hx
   exact .inr (.inr ⟨h3,h4,h5,x,e,he,hi,hs,hr⟩)
theorem Afg{d:Nat}{l:Co}{n:Num}(h:Ge n=true):B7 d ⟨l,0,n,0,[]⟩=true:=by
 have key : ∀ k r,Gw k r ⟨l,0,n,0,[]⟩=true:=fun k r=>by unfold Gw;simp[h]
 cases d with
 | zero=>exact key _ _
 | succ d=>exact key _ _
mutual
def Pm(f:Int):Arr→Arr×Int
 | .mk s sh cs=>if f∈Yg then (if (Iv f cs).2=0 then (.mk s sh (Iv f cs).1,0) else (.none,(Iv f cs).2)) else (.none,8)
def Iv(f:Int):List (CellF Arr)→List (CellF Arr)×Int
 | []=>([],0)
 | c::cs=>if (Vf f c).2=0 then (if (Iv f cs).2=0 then ((Vf f c).1::(Iv f cs).1,0) else ([],(Iv f cs).2)) else ([],(Vf f c).2)
def Vf(f:Int):CellF Arr→CellF Arr×Int
 | ⟨l,k,n,c,inn⟩=>if k=0 then (⟨l,0,(UZ f n).1,0,[]⟩,(UZ f n).2) else if k=2 then (⟨l,2,.zero,0,[(TA f inn).1]⟩,(TA f inn).2) else (Cell.none,3)
def TA(f:Int):List Arr→Arr×Int
 | []=>(.none,0)
 | a::_=>Pm f a
end
theorem XK(f:Int)(a:Arr):Pm f a=if f∈Yg then (if (Iv f a.cells).2=0 then (.mk a.s a.shape (Iv f a.cells).1,0) else (.none,(Iv f a.cells).2)) else (.none,8):=by cases a;rw[Pm];rfl
theorem Aj2(f:Int)(c:Cell):Vf f c=if c.kind=0 then (⟨c.l,0,(UZ f c.n).1,0,[]⟩,(UZ f c.n).2) else if c.kind=2 then (⟨c.l,2,.zero,0,[(TA f c.inn).1]⟩,(TA f c.inn).2) else (Cell.none,3):=by cases c;rw[Vf]
def QM(s:Co)(sh:List Int)(pre:List Cell)(r:List Cell×Int):List D:=if r.2=0 then [dA (.mk s sh (pre++r.1)),.int 0] else [dA .none,.int r.2]
theorem Ah2{s:Co}{sh:List Int}{pre:List Cell}{f:Int}{c:Cell}{cs:List Cell}(h:(Vf f c).2=0):QM s sh pre (Iv f (c::cs))=QM s sh (pre++[(Vf f c).1]) (Iv f cs):=by
 rw[Iv,if_pos h]
 unfold QM
 by_cases h2:(Iv f cs).2=0
 · rw[if_pos h2];simp[h2]
 · rw[if_neg h2];simp[h2]
theorem Ajg{s:Co}{sh:List Int}{pre:List Cell}{f:Int}{c:Cell}{cs:List Cell}(h : ¬ (Vf f c).2=0):QM s sh pre (Iv f (c::cs)) = [dA .none,.int (Vf f c).2]:=by
 rw[Iv,if_neg h]
 unfold QM
 rw[if_neg h]
theorem Akt(f:Int)(a:Arr)(hf:f∈Yg) : [dA (Pm f a).1,D.int (Pm f a).2]=QM a.s a.shape [] (Iv f a.cells):=by
 rw[XK,if_pos hf]
 unfold QM
 split <;> rfl
theorem Xo(c:Cell)(x:Arr)(h:c.inn = [x]):Sp 222 [dC c] [dA x]:=by
 refine Ag 0 (GP _ _) ?_
 simp only[As,h,List.map_cons,List.map_nil,List.length_cons,List.length_nil]
 exact Am (by omega) (Ae (Ae (Ac rfl)))
theorem KG(f:Int)(d:Nat)(c:Cell)(h:B7 d c=true)(ih : ∀ e x,d=e+1→A8 e x=true→Sp 70 [.int f,dA x] [dA (Pm f x).1,.int (Pm f x).2]):Sp 159 [.int f,dC c] [dC (Vf f c).1,.int (Vf f c).2]:=by
 refine Ag 0 (DI _ _ _) ?_
 simp only[As]
 rw[Aj2]
 rcases Ij h with ⟨h1,h2,h3,h4⟩ | ⟨h1,h2,h3⟩ | ⟨h1,h2,h3,x,e,h4,h5,h6,h7⟩
 · obtain ⟨z,q,hr⟩:=JF h4
   refine At h1 (Aa (OA f hr) (Ac ?_))
   rw[if_pos h1,F6];rfl
 · refine Am (by omega) (Am (by omega) (Ac ?_))
   rw[if_neg (by omega),if_neg (by omega),F6];rfl
 · refine Am (by omega) (At h1 (Aa (Xo c x h5) (Aa (ih e x h4 h7) (Ac ?_))))
   rw[if_neg (by omega),if_pos h1,h5,TA,F6];rfl
theorem Aa5(f:Int) : ∀ (d:Nat) (a:Arr),A8 d a=true→Sp 70 [.int f,dA a] [dA (Pm f a).1,.int (Pm f a).2]:=by
 suffices key : ∀ (d:Nat) (a:Arr),(∀ e x,d=e+1→A8 e x=true→Sp 70 [.int f,dA x] [dA (Pm f x).1,.int (Pm f x).2])→A8 d a=true→Sp 70 [.int f,dA a] [dA (Pm f a).1,.int (Pm f a).2] by
  intro d
  induction d with
  | zero=>intro a;exact key 0 a (fun e x he=>by omega)
  | succ d ihd=>intro a;exact key (d+1) a (fun e x he=>by
      have:e=d:=by omega
      subst this;exact ihd x)
 intro d a ih hr
 have hs:=C8 hr
 have hl:=hs.2.1
 have hcs:=(B6 hr).2
 refine Ag (a.cells.length+1) (SD _ _ _) (Aa (SB f) ?_)
 simp only[As,Cr,Gl]
 refine Ad (fun h=>Ac ?_) (fun h=>Aa (Gx a.shape hs.1) ?_)
 · rw[XK,if_neg h]
 rw[Akt f a (Classical.not_not.1 h)]
 simp only[As]
 refine Ae (Ae (At (by simp only[Ar];omega) ?_))
 have key:=A7 (P:=Tryz.prog) (md:=md) a.cells (fun m k (pre:List Cell)=>Pc (a.cells.length+1) m f (.sl (a.cells.map dC)) (a.cells.length:Int) (k:Int) 0 (a.s.toNat:Int) (a.shape.map .int) (pre.map dC++List.replicate (a.cells.length-k) (dC Cell.none))) (fun rest pre=>QM a.s a.shape pre (Iv f rest)) (fun rest pre=>pre.length+rest.length=a.cells.length)
  (fun m k pre hk hI=>by
   simp only[U0,As]
   refine Am (by omega) (Ac ?_)
   rw[hk,Nat.sub_self,List.replicate_zero,List.append_nil,Iv]
   unfold QM
   rw[if_pos rfl,Fz]
   simp[dI])
  (fun m k pre c rest hdr hI ih'=>by
   obtain ⟨h1,h2,h3⟩:=Az hdr
   have hpk:pre.length=k:=by
     have:=congrArg List.length hdr
     simp only[List.length_drop,List.length_cons]at this hI
     omega
   have hlen:(pre.map dC++List.replicate (a.cells.length-k) (dC Cell.none)).length=a.cells.length:=by simp;omega
   simp only[U0,As,Aj h2,hlen,An (show k<9223372036854775807 by omega)]
   refine Ae (Ae (Ae (Aa (KG f d c (hcs c (List.mem_of_getElem? h2)) ih) ?_)))
   simp only[Af,Ce,Ah,Cz,Cr]
   refine Ad (fun he=>Ac ?_) (fun he=>Ae (Ae ?_))
   · rw[Ajg he]
   · have he':=Classical.not_not.1 he
     rw[Ah2 he',show a.cells.length-k=(a.cells.length-(k+1))+1 by omega,← hpk,Ml,hpk]
     exact ih' (pre++[(Vf f c).1]) (by simp only[List.length_append,List.length_cons,List.length_nil]at hI ⊢; omega))
  (a.cells.length+1) 0 [] (by omega) (by omega) (by simp)
 simpa using key
def Oj(a b:Arr):List Int×Int:=if a.shape = [] then (b.shape,0) else if b.shape = [] then (a.shape,0) else if a.shape.length≠b.shape.length then ([],5) else if a.shape=b.shape then (a.shape,0) else ([],4)
theorem KC{d e:Nat}(a b:Arr)(ha:Sml d a)(hb:Sml e b):Sp 193 [dA a,dA b] [dI (Oj a b).1,.int (Oj a b).2]:=by
 obtain ⟨d,rfl⟩:=ha.succ
 obtain ⟨e,rfl⟩:=hb.succ
 have h1:=ha.1
 have h2:=hb.1
 refine Ag 0 (DE _ _ _) ?_
 simp only[As]
 unfold Oj
 refine Ad (fun h=>Aa (Gx b.shape h2) (Ac ?_)) (fun h=>Ad (fun h'=>Aa (Gx a.shape h1) (Ac ?_)) (fun h'=>Ad (fun h3=>Ac ?_) (fun h3=>Aa (Xq a.shape b.shape (by omega)) ?_)))
 · rw[if_pos (List.length_eq_zero_iff.1 (by omega))];rfl
 · rw[if_neg (fun hh=>h (by rw[hh];rfl)),if_pos (List.length_eq_zero_iff.1 (by omega))];rfl
 · rw[if_neg (fun hh=>h (by rw[hh];rfl)),if_neg (fun hh=>h' (by rw[hh];rfl)),if_pos (by omega)];rfl
 · rw[if_neg (fun hh=>h (by rw[hh];rfl)),if_neg (fun hh=>h' (by rw[hh];rfl)),if_neg (by omega)]
   simp only[Af,Al,Fo]
   refine Ad (fun h4=>Ac ?_) (fun h4=>Aa (Gx a.shape h1) (Ac ?_))
   · rw[if_neg h4];rfl
   · rw[if_pos (Classical.not_not.1 h4)];rfl
def Hb(a:Arr)(i:Int):Cell:=if (if a.shape = [] then 0 else i)<0∨(a.cells.length:Int)≤(if a.shape = [] then 0 else i) then Cell.none else a.cells.getD (if a.shape = [] then 0 else i).toNat Cell.none
theorem Ais{l:List Cell}{i:Nat}(h:i<l.length):(l.map dC).getD i D.nil=dC (l.getD i Cell.none):=by
 rw[Aj (List.getElem?_eq_getElem h),List.getD_eq_getElem?_getD,List.getElem?_eq_getElem h];rfl
theorem Z_(a:Arr)(i:Int):Sp 195 [dA a,.int i] [dC (Hb a i)]:=by
 refine Ag 0 (OB _ _ _) ?_
 simp only[As,Gl]
 unfold Hb
 refine Ad (fun h=> ?_) (fun h=> ?_)
 · simp only[if_pos (List.length_eq_zero_iff.1 (show a.shape.length=0 by omega))]
   refine Am (by omega) (Ad (fun h2=>Ac ?_) (fun h2=>Ae (Ae (Ac ?_))))
   · rw[if_pos (.inr h2)]
   · rw[if_neg (by omega),show Int.toNat 0=0 from rfl,Ais (by omega)]
 · simp only[if_neg (fun hh:a.shape = []=>h (by rw[hh];rfl))]
   refine Ad (fun h1=>Ac ?_) (fun h1=>Ad (fun h2=>Ac ?_) (fun h2=>Ae (Ae (Ac ?_))))
   · rw[if_pos (.inl h1)]
   · rw[if_pos (.inr h2)]
   · rw[if_neg (by omega),Ais (by omega)]
def Jx(c:Cell):Arr:=if c.kind=2 then c.inn.headD .none else .mk 0 [] [⟨0,c.kind,c.n,c.c,c.inn⟩]
def Ve(r:Arr→Arr→Arr×Int)(f:Int)(x y:Cell):Cell×Int :=
 if x.kind=2∨y.kind=2 then (⟨x.l|||y.l,2,.zero,0,[(r (Jx x) (Jx y)).1]⟩,(r (Jx x) (Jx y)).2)
 else if x.kind=0∧y.kind=0 then (⟨x.l|||y.l,0,(HJ f x.n y.n).1,0,[]⟩,(HJ f x.n y.n).2)
 else if f=61 then (⟨x.l|||y.l,0,S6 (decide (x.kind=y.kind∧x.c=y.c)),0,[]⟩,0)
 else if f=8800 then (⟨x.l|||y.l,0,S6 (decide (¬ (x.kind=y.kind∧x.c=y.c))),0,[]⟩,0)
 else (⟨x.l|||y.l,0,.zero,0,[]⟩,3)
def K8(g:Nat→Cell×Int):Nat→Nat→List Cell×Int
 | 0,_=>([],0)
 | m+1,k=>if (g k).2=0 then (if (K8 g m (k+1)).2=0 then ((g k).1::(K8 g m (k+1)).1,0) else ([],(K8 g m (k+1)).2)) else ([],(g k).2)
def Hh(a b:Arr):Nat:=if a.shape = [] then b.cells.length else a.cells.length
def Xv(r:Arr→Arr→Arr×Int)(f:Int)(a b:Arr):Arr×Int :=
 if f∈CB then (if (Oj a b).2=0 then (if (K8 (fun i=>Ve r f (Hb a i) (Hb b i)) (Hh a b) 0).2=0 then (.mk (a.s|||b.s) (Oj a b).1 (K8 (fun i=>Ve r f (Hb a i) (Hb b i)) (Hh a b) 0).1,0) else (.none,(K8 (fun i=>Ve r f (Hb a i) (Hb b i)) (Hh a b) 0).2)) else (.none,(Oj a b).2)) else (.none,8)
def AcG:Nat→Int→Arr→Arr→Arr×Int
 | 0,f=>Xv (fun _ _=>(.none,0)) f
 | d+1,f=>Xv (AcG d f) f
inductive ExpOk:Arr→Prop where
 | mk {s:Co} {sh:List Int} {cs:List Cell} (h : ∀ c∈cs,∀ k,D_ c.n=some k→ -300≤k∧k≤300) (h2 : ∀ c∈cs,∀ x∈c.inn,ExpOk x):ExpOk (.mk s sh cs)
theorem ExpOk.cell {a:Arr} (h:ExpOk a) : ∀ c∈a.cells,(∀ k,D_ c.n=some k→ -300≤k∧k≤300)∧∀ x∈c.inn,ExpOk x:=by cases h with | mk h h2=>exact fun c hc=>⟨h c hc,h2 c hc⟩
def Ty(c:Cell):Prop:=(∀ k,D_ c.n=some k→ -300≤k∧k≤300)∧∀ x∈c.inn,ExpOk x
theorem KR{d:Nat}{c:Cell}(h:B7 (d+1) c=true):A8 d (Jx c)=true∧Sml (d+1) (Jx c)∧(c.kind=2→Hd (Jx c)=false)∧(¬ c.kind=2→(Jx c).shape = []):=by
 have key:A8 d (Jx c)=true∧(c.kind=2→Hd (Jx c)=false)∧(¬ c.kind=2→(Jx c).shape = []):=by
  unfold Jx
  rcases Ij h with ⟨h1,h2,h3,h4⟩ | ⟨h1,h2,h3⟩ | ⟨h1,h2,h3,x,e,h4,h5,h6,h7⟩
  · rw[if_neg (by omega)]
    refine ⟨Ym (by simp;decide) (fun y hy=> ?_),fun hh=>by omega,fun _=>rfl⟩
    have:y=⟨0,c.kind,c.n,c.c,c.inn⟩:=by simpa using hy
    subst this
    rw[h1,h2,h3]
    exact Afg h4
  · rw[if_neg (by omega)]
    refine ⟨Ym (by simp;decide) (fun y hy=> ?_),fun hh=>by omega,fun _=>rfl⟩
    have:y=⟨0,c.kind,c.n,c.c,c.inn⟩:=by simpa using hy
    subst this
    have k1:Gw true (A8 d) c=true:=h
    have key2 : ∀ k r,Gw k r ⟨0,c.kind,c.n,c.c,c.inn⟩=true:=fun k r=>by
     unfold Gw at k1 ⊢
     simp only[h1]at k1 ⊢
     simpa using k1
    cases d with
    | zero=>exact key2 _ _
    | succ d=>exact key2 _ _
  · rw[if_pos h1,h5]
    have:e=d:=by omega
    subst this
    exact ⟨h7,fun _=>h6,fun hh=>absurd h1 hh⟩
 exact ⟨key.1,C8 key.1,key.2⟩
theorem Af4{c:Cell}(h:Ty c)(hi:c.kind=2→∃ x,c.inn = [x]):ExpOk (Jx c):=by
 unfold Jx
 split
 · rename_i hk
   obtain ⟨x,hx⟩:=hi hk
   rw[hx];exact h.2 x (by rw[hx];simp)
 · have one : ∀ y∈[(⟨0,c.kind,c.n,c.c,c.inn⟩:Cell)],Ty y:=fun y hy=>by
    have:y=⟨0,c.kind,c.n,c.c,c.inn⟩:=by simpa using hy
    subst this
    exact h
   exact .mk (fun y hy=>(one y hy).1) (fun y hy=>(one y hy).2)
theorem Agn{d:Nat}{a:Arr}(h:A8 d a=true)(hs:a.shape = []) : ∃ c,a.cells = [c]:=by
 have:=(B6 h).1
 rw[hs,show Ay []=(1,0) by decide]at this
 have e:=congrArg Prod.fst this
 simp only at e
 exact Sq (by omega)
theorem Ajn{d:Nat}{a b:Arr}(ha:A8 d a=true)(hb:A8 d b=true)(hc:(Oj a b).2=0){i:Nat}(hi:i<Hh a b):Hb a i∈a.cells∧Hb b i∈b.cells:=by
 have mem : ∀ (l:List Cell) (j:Nat),j<l.length→l.getD j Cell.none∈l:=fun l j hj=>by
   rw[List.getD_eq_getElem?_getD,List.getElem?_eq_getElem hj];exact List.getElem_mem hj
 have one : ∀ (x:Arr),A8 d x=true→x.shape = []→∀ j:Int,Hb x j∈x.cells:=fun x hx hs j=>by
   obtain ⟨c,hcc⟩:=Agn hx hs
   unfold Hb
   rw[if_pos hs,if_neg (by rw[hcc];simp)]
   exact mem _ _ (by rw[hcc];simp)
 have many : ∀ (x:Arr),¬ x.shape = []→∀ j:Nat,j<x.cells.length→Hb x (j:Int)∈x.cells:=fun x hs j hj=>by
   unfold Hb
   rw[if_neg hs,if_neg (by omega),Int.toNat_natCast]
   exact mem _ _ hj
 unfold Hh at hi
 by_cases h1:a.shape = []
 · rw[if_pos h1]at hi
   refine ⟨one a ha h1 _,?_⟩
   by_cases h2:b.shape = []
   · exact one b hb h2 _
   · exact many b h2 i hi
 · rw[if_neg h1]at hi
   refine ⟨many a h1 i hi,?_⟩
   by_cases h2:b.shape = []
   · exact one b hb h2 _
   · refine many b h2 i ?_
     unfold Oj at hc
     rw[if_neg h1,if_neg h2]at hc
     split at hc
     · cases hc
     · split at hc
       · rename_i h3
         have e1:=(B6 ha).1
         have e2:=(B6 hb).1
         rw[h3,e2]at e1
         have:=congrArg Prod.fst e1
         simp only at this
         omega
       · cases hc
def SX(s:Co)(sh:List Int)(pre:List Cell)(r:List Cell×Int):List D:=if r.2=0 then [dA (.mk s sh (pre++r.1)),.int 0] else [dA .none,.int r.2]
theorem Aid{s:Co}{sh:List Int}{pre:List Cell}{g:Nat→Cell×Int}{m k:Nat}(h:(g k).2=0):SX s sh pre (K8 g (m+1) k)=SX s sh (pre++[(g k).1]) (K8 g m (k+1)):=by
 rw[K8,if_pos h]
 unfold SX
 by_cases h2:(K8 g m (k+1)).2=0
 · rw[if_pos h2];simp[h2]
 · rw[if_neg h2];simp[h2]
theorem Aj0{s:Co}{sh:List Int}{pre:List Cell}{g:Nat→Cell×Int}{m k:Nat}(h : ¬ (g k).2=0):SX s sh pre (K8 g (m+1) k) = [dA .none,.int (g k).2]:=by
 rw[K8,if_neg h]
 unfold SX
 rw[if_neg h]
theorem Akr(r:Arr→Arr→Arr×Int)(f:Int)(a b:Arr)(hf:f∈CB)(hc:(Oj a b).2=0) : [dA (Xv r f a b).1,D.int (Xv r f a b).2]=SX (a.s|||b.s) (Oj a b).1 [] (K8 (fun i=>Ve r f (Hb a i) (Hb b i)) (Hh a b) 0):=by
 unfold Xv
 rw[if_pos hf,if_pos hc]
 unfold SX
 split <;> rfl
theorem Vq{d:Nat}(c:Cell)(h:B7 d c=true):Sp 235 [dC c] [dA (Jx c)]:=by
 refine Ag 0 (DG _ _) ?_
 simp only[As]
 unfold Jx
 have hs:=RY h
 refine Ad (fun h1=> ?_) (fun h1=> ?_)
 · rcases Ij h with ⟨g1,_⟩ | ⟨g1,_⟩ | ⟨g1,g2,g3,x,e,g4,g5,g6,g7⟩
   · omega
   · omega
   · rw[if_pos h1,g5]
     exact Aa (Xo c x g5) (Ac rfl)
 · rw[if_neg h1]
   have e0:D.agg [D.int 0,D.int c.kind,dN c.n,D.int c.c,D.sl (c.inn.map dA)]=dC ⟨0,c.kind,c.n,c.c,c.inn⟩:=by rw[F6];rfl
   rw[e0]
   exact Aa (I6 (d:=d) ⟨0,c.kind,c.n,c.c,c.inn⟩ hs) (Ac rfl)
theorem ED(l:Co)(n:Num):D.agg [dB l,D.int 0,dN n,D.int 0,D.sl []]=dC ⟨l,0,n,0,[]⟩:=by rw[F6];rfl
theorem AiH(l:Co):D.agg [dB l,D.int 0,D.agg [D.bool false,D.sl [],D.sl []],D.int 0,D.sl []]=dC ⟨l,0,.zero,0,[]⟩:=by rw[F6];rfl
section
variable {d:Nat} {x y:Cell} {f:Int} {r:Arr→Arr→Arr×Int}
theorem AdM(hx:B7 0 x=true) : ¬ x.kind=2:=by
 rcases Ij hx with ⟨g1,_⟩ | ⟨g1,_⟩ | ⟨_,_,_,_,e,g4,_⟩
 · omega
 · omega
 · omega
theorem AfU(hx:B7 d x=true)(h:x.kind=0):Ge x.n=true:=by
 rcases Ij hx with ⟨_,_,_,g4⟩ | ⟨g1,_⟩ | ⟨g1,_⟩
 · exact g4
 · omega
 · omega
theorem Aj9(hx:B7 d x=true)(h:x.kind=2) : ∃ X,x.inn = [X]:=by
 rcases Ij hx with ⟨g1,_⟩ | ⟨g1,_⟩ | ⟨_,_,_,X,_,_,g5,_⟩
 · omega
 · omega
 · exact ⟨X,g5⟩
theorem GQ(hx:B7 d x=true)(hy:B7 d y=true)(hp:f=42→Ty y)
  (ih : ∀ e,d=e+1→∀ X Y,A8 e X=true→A8 e Y=true→(f=42→ExpOk Y)→Sp 112 [.int f,dA X,dA Y] [dA (r X Y).1,.int (r X Y).2]):Sp 194 [.int f,dC x,dC y] [dC (Ve r f x y).1,.int (Ve r f x y).2]:=by
 refine Ag 0 (BX _ _ _ _) ?_
 simp only[As]
 refine Aa (Dc x.l y.l) ?_
 simp only[As]
 have box:x.kind=2∨y.kind=2→Tw (.call 235 [] [dC x] fun yy2=> .call 235 [] [dC y] fun yy3=> .call 112 [] [D.int f,yy2.getD 0 D.nil,yy3.getD 0 D.nil] fun yy4=> .ret [D.agg [dB (x.l|||y.l),D.int 2,D.agg [D.bool false,D.sl [],D.sl []],D.int 0,D.sl [yy4.getD 0 D.nil]],D.int ((yy4.getD 1 D.nil).toInt)]) [dC (Ve r f x y).1,.int (Ve r f x y).2]:=fun hk=>by
  cases d with
  | zero=>rcases hk with hk | hk;exact absurd hk (AdM hx);exact absurd hk (AdM hy)
  | succ e =>
   obtain ⟨c1,_⟩:=KR hx
   obtain ⟨c2,_⟩:=KR hy
   refine Aa (Vq x hx) (Aa (Vq y hy) (Aa (ih e rfl _ _ c1 c2 (fun hf=>Af4 (hp hf) (Aj9 hy))) (Ac ?_)))
   unfold Ve
   rw[if_pos hk,F6];rfl
 refine Ad (fun h1=>box (.inl h1)) (fun h1=>Ad (fun h2=>box (.inr h2)) (fun h2=> ?_))
 unfold Ve
 rw[if_neg (fun hh=>hh.elim h1 h2)]
 have chars : ¬ (x.kind=0∧y.kind=0)→Tw (.br (decide (f=61)) (.br (decide (x.kind=y.kind)) (.call 237 [] [D.bool (decide (x.c=y.c)==decide (f=61))] fun yy13=> .ret [D.agg [dB (x.l|||y.l),D.int 0,yy13.getD 0 D.nil,D.int 0,D.sl []],D.int 0]) (.call 237 [] [D.bool (false == decide (f=61))] fun yy14=> .ret [D.agg [dB (x.l|||y.l),D.int 0,yy14.getD 0 D.nil,D.int 0,D.sl []],D.int 0])) (.br (decide (f=8800)) (.br (decide (x.kind=y.kind)) (.call 237 [] [D.bool (decide (x.c=y.c)==decide (f=61))] fun yy15=> .ret [D.agg [dB (x.l|||y.l),D.int 0,yy15.getD 0 D.nil,D.int 0,D.sl []],D.int 0]) (.call 237 [] [D.bool (false == decide (f=61))] fun yy16=> .ret [D.agg [dB (x.l|||y.l),D.int 0,yy16.getD 0 D.nil,D.int 0,D.sl []],D.int 0])) (.ret [D.agg [dB (x.l|||y.l),D.int 0,D.agg [D.bool false,D.sl [],D.sl []],D.int 0,D.sl []],D.int 3])))
   [dC (if x.kind=0∧y.kind=0 then ((⟨x.l|||y.l,0,(HJ f x.n y.n).1,0,[]⟩,(HJ f x.n y.n).2):Cell×Int) else if f=61 then (⟨x.l|||y.l,0,S6 (decide (x.kind=y.kind∧x.c=y.c)),0,[]⟩,0) else if f=8800 then (⟨x.l|||y.l,0,S6 (decide (¬ (x.kind=y.kind∧x.c=y.c))),0,[]⟩,0) else (⟨x.l|||y.l,0,.zero,0,[]⟩,3)).1,.int (if x.kind=0∧y.kind=0 then ((⟨x.l|||y.l,0,(HJ f x.n y.n).1,0,[]⟩,(HJ f x.n y.n).2):Cell×Int) else if f=61 then (⟨x.l|||y.l,0,S6 (decide (x.kind=y.kind∧x.c=y.c)),0,[]⟩,0) else if f=8800 then (⟨x.l|||y.l,0,S6 (decide (¬ (x.kind=y.kind∧x.c=y.c))),0,[]⟩,0) else (⟨x.l|||y.l,0,.zero,0,[]⟩,3)).2]:=fun hk=>by
  rw[if_neg hk]
  refine Ad (fun h3=>Ad (fun h4=>Aa (D5 _) (Ac ?_)) (fun h4=>Aa (D5 _) (Ac ?_))) (fun h3=>Ad (fun h3'=>Ad (fun h4=>Aa (D5 _) (Ac ?_)) (fun h4=>Aa (D5 _) (Ac ?_))) (fun h3'=>Ac ?_))
  · rw[if_pos h3,Af,ED];simp[h3,h4]
  · rw[if_pos h3,Af,ED];simp[h3,h4]
  · rw[if_neg h3,if_pos h3',Af,ED];simp[h3,h4]
  · rw[if_neg h3,if_pos h3',Af,ED];simp[h3,h4]
  · rw[if_neg h3,if_neg h3',AiH]
 refine Ad (fun h3=>Ad (fun h4=> ?_) (fun h4=>chars (fun hh=>h4 hh.2))) (fun h3=>chars (fun hh=>h3 hh.1))
 rw[if_pos ⟨h3,h4⟩]
 obtain ⟨z,q,rx⟩:=JF (AfU hx h3)
 obtain ⟨z',q',ry⟩:=JF (AfU hy h4)
 refine Aa (KF f rx ry (fun hf=>(hp hf).1)) (Ac ?_)
 simp only[Gt,Af,Ce,Ah,ED]
end
theorem Z8(f:Int)(d:Nat)(a b:Arr)(r:Arr→Arr→Arr×Int)(ih : ∀ e,d=e+1→∀ X Y,A8 e X=true→A8 e Y=true→(f=42→ExpOk Y)→Sp 112 [.int f,dA X,dA Y] [dA (r X Y).1,.int (r X Y).2])
   (ha:A8 d a=true) (hb:A8 d b=true) (hp:f=42→ExpOk b):Sp 112 [.int f,dA a,dA b] [dA (Xv r f a b).1,.int (Xv r f a b).2]:=by
 have hs:=C8 ha
 have hs':=C8 hb
 have hl:=hs.2.1
 have hl':=hs'.2.1
 have hcnt:Hh a b≤1048576:=by unfold Hh;split <;> omega
 refine Ag (Hh a b+1) (SE _ _ _ _) (Aa (SC f) ?_)
 simp only[As,Cr,Gl]
 refine Ad (fun h=>Ac ?_) (fun h=>Aa (KC a b hs hs') ?_)
 · unfold Xv;rw[if_neg h]
 have hf:=Classical.not_not.1 h
 simp only[As,Cr]
 refine Ad (fun h1=>Ac ?_) (fun h1=> ?_)
 · unfold Xv;rw[if_pos hf,if_neg h1]
 have hc:=Classical.not_not.1 h1
 rw[Akr r f a b hf hc]
 have key:=C4 (P:=Tryz.prog) (md:=md) (Hh a b) (fun m k (pre:List Cell)=>Ki (Hh a b+1) m f ((Hh a b:Nat):Int) (k:Int) (dA a) (dA b) 0 ((a.s|||b.s).toNat:Int) (dI (Oj a b).1) (pre.map dC++List.replicate (Hh a b-k) (dC Cell.none)))
   (fun k pre=>SX (a.s|||b.s) (Oj a b).1 pre (K8 (fun i=>Ve r f (Hb a i) (Hb b i)) (Hh a b-k) k)) (fun k pre=>pre.length=k)
   (fun m pre hI=>by
    simp only[R_,As]
    refine Am (by omega) (Ac ?_)
    rw[Nat.sub_self,List.replicate_zero,List.append_nil,K8]
    unfold SX
    rw[if_pos rfl,Fz]
    simp[dI,dB])
   (fun m k pre hk hI ih'=>by
    have hlen:(pre.map dC++List.replicate (Hh a b-k) (dC Cell.none)).length=Hh a b:=by simp;omega
    obtain ⟨p1,p2⟩:=Ajn ha hb hc hk
    have r1:=(B6 ha).2 _ p1
    have r2:=(B6 hb).2 _ p2
    simp only[R_,As,hlen,An (show k<9223372036854775807 by omega)]
    refine Ae (Aa (Z_ a (k:Int)) (Aa (Z_ b (k:Int)) (Aa (GQ (r:=r) r1 r2 (fun hf=>(hp hf).cell _ p2) ih) ?_)))
    simp only[Af,Ce,Ah,Cz,Cr]
    rw[show Hh a b-k=(Hh a b-(k+1))+1 by omega]
    refine Ad (fun he=>Ac ?_) (fun he=>Ae (Ae ?_))
    · rw[Aj0 he]
    · have he':=Classical.not_not.1 he
      rw[Aid he',← hI,Ml,hI]
      exact ih' (pre++[(Ve r f (Hb a k) (Hb b k)).1]) (by simp[hI]))
   (Hh a b+1) 0 [] (by omega) (by omega) rfl
 have e0:([]:List Cell).map dC++List.replicate (Hh a b-0) (dC Cell.none)=List.replicate (Hh a b) (dC Cell.none):=by simp
 rw[e0]at key
 refine Ad (fun h2=>Aa (Dc a.s b.s) (Ae (Ae (At (by simp only[Ar];omega) ?_)))) (fun h2=>Aa (Dc a.s b.s) (Ae (Ae (At (by simp only[Ar];omega) ?_))))
 · have:Hh a b=b.cells.length:=by unfold Hh;rw[if_pos (List.length_eq_zero_iff.1 (by omega))]
   simp only[As]
   rw[this]at key
   simpa [this]using key
 · have:Hh a b=a.cells.length:=by unfold Hh;rw[if_neg (fun hh=>h2 (by rw[hh];rfl))]
   simp only[As]
   rw[this]at key
   simpa [this]using key
theorem CW(f:Int) : ∀ (d:Nat) (a b:Arr),A8 d a=true→A8 d b=true→(f=42→ExpOk b)→Sp 112 [.int f,dA a,dA b] [dA (AcG d f a b).1,.int (AcG d f a b).2]
 | 0,a,b,ha,hb,hp=>Z8 f 0 a b _ (fun e he=>by omega) ha hb hp
 | d+1,a,b,ha,hb,hp=>Z8 f (d+1) a b _ (fun e he=>by
  have:e=d:=by omega
  subst this
  exact CW f e) ha hb hp
end Go.Proofs.YtokkbgpgaheakaaGreat
