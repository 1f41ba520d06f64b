/- Proved: for any number and any two arrays, the law PrimHas returns true and changes nothing. No condition. -/
import Derived.Test.YtokkbgpgaheakaaGreatRows
import Derived.WalkKit
import Derived.WalkSpells
import Derived.WalkLawsBesides
import Derived.Lib.Hide
import Derived.Laws.CopyOwn
import Derived.Deep.QuietTactic
import Derived.BigQuiet
import Derived.Orders
import Derived.Defers
import Derived.Recover
import Derived.Test.YtokkbgpgaheakaaGreatProg
import Derived.KernelRfl
import Derived.ProofKit
import Derived.OpenShut
import Derived.Maps.OwnRows
import Derived.Maps.Views
import Derived.Deep.RegionHeld3
import Derived.Deep.AppendLies
import Derived.Test.YtokkbgpgaheakaaGreatZ8f15677f
set_option linter.unusedSimpArgs false
set_option linter.unusedVariables false
set_option maxRecDepth 100000
namespace Go.Proofs.YtokkbgpgaheakaaGreat
theorem Aas(n:Nat)(f0 a1 b2:D):Ai Tryz.prog md [(2000000,⟨[],[],[]⟩)] n 10 [] [f0,a1,b2] =
 .br (f0.toInt == 9076) (.call 35 [] [a1,b2] fun yy1 =>
 .ret [yy1.getD 0 D.nil,D.int ((yy1.getD 1 D.nil).toInt)])
 (.br (f0.toInt == 44) (.call 36 [] [a1,b2,D.bool false] fun yy2 =>
 .ret [yy2.getD 0 D.nil,D.int ((yy2.getD 1 D.nil).toInt)])
 (.br (f0.toInt == 9066) (.call 36 [] [a1,b2,D.bool true] fun yy3 =>
 .ret [yy3.getD 0 D.nil,D.int ((yy3.getD 1 D.nil).toInt)])
 (.br (f0.toInt == 9021) (.call 37 [] [a1,b2,D.bool false] fun yy4 =>
 .ret [yy4.getD 0 D.nil,D.int ((yy4.getD 1 D.nil).toInt)])
 (.br (f0.toInt == 8854) (.call 37 [] [a1,b2,D.bool true] fun yy5 =>
 .ret [yy5.getD 0 D.nil,D.int ((yy5.getD 1 D.nil).toInt)])
 (.br (f0.toInt == 9033) (.call 38 [] [a1,b2] fun yy6 =>
 .ret [yy6.getD 0 D.nil,D.int ((yy6.getD 1 D.nil).toInt)])
 (.br (f0.toInt == 8593) (.call 39 [] [a1,b2] fun yy7 =>
 .ret [yy7.getD 0 D.nil,D.int ((yy7.getD 1 D.nil).toInt)])
 (.br (f0.toInt == 8595) (.call 40 [] [a1,b2] fun yy8 =>
 .ret [yy8.getD 0 D.nil,D.int ((yy8.getD 1 D.nil).toInt)])
 (.br (f0.toInt == 8835) (.call 41 [] [a1,b2] fun yy9 =>
 .ret [yy9.getD 0 D.nil,D.int ((yy9.getD 1 D.nil).toInt)])
 (.br (f0.toInt == 8866) (.ret [b2,D.int 0])
 (.br (f0.toInt == 8867) (.ret [a1,D.int 0])
 (.call 42 [] [D.int f0.toInt,a1,b2] fun yy10 =>
 .ret [yy10.getD 0 D.nil,D.int ((yy10.getD 1 D.nil).toInt)]))))))))))):=by kernel_rfl
theorem Aaq(n:Nat)(f0 a1:D):Ai Tryz.prog md [(2000000,⟨[],[],[]⟩)] n 15 [] [f0,a1] =
 .br (f0.toInt == 9076) (.call 56 [] [a1] fun yy1 =>
 .ret [yy1.getD 0 D.nil,D.int 0])
 (.br (f0.toInt == 44) (.call 57 [] [a1] fun yy2 =>
 .ret [yy2.getD 0 D.nil,D.int 0])
 (.br (f0.toInt == 9066) (.call 58 [] [a1] fun yy3 =>
 .ret [yy3.getD 0 D.nil,D.int 0])
 (.br (f0.toInt == 9021) (.call 59 [] [a1,D.bool false] fun yy4 =>
 .ret [yy4.getD 0 D.nil,D.int 0])
 (.br (f0.toInt == 8854) (.call 59 [] [a1,D.bool true] fun yy5 =>
 .ret [yy5.getD 0 D.nil,D.int 0])
 (.br (f0.toInt == 9033) (.call 60 [] [a1] fun yy6 =>
 .ret [yy6.getD 0 D.nil,D.int 0])
 (.br (f0.toInt == 8834) (.call 61 [] [a1] fun yy7 =>
 .ret [yy7.getD 0 D.nil,D.int ((yy7.getD 1 D.nil).toInt)])
 (.br (f0.toInt == 8835) (.call 62 [] [a1] fun yy8 =>
 .ret [yy8.getD 0 D.nil,D.int 0])
 (.br (f0.toInt == 8801) (.call 63 [] [a1] fun yy9 =>
 .ret [yy9.getD 0 D.nil,D.int 0])
 (.br (f0.toInt == 8802) (.call 64 [] [a1] fun yy10 =>
 .ret [yy10.getD 0 D.nil,D.int 0])
 (.br (f0.toInt == 8866) (.ret [a1,D.int 0])
 (.br (f0.toInt == 8867) (.ret [a1,D.int 0])
 (.br (f0.toInt == 9075) (.call 65 [] [a1] fun yy11 =>
 .ret [yy11.getD 0 D.nil,D.int ((yy11.getD 1 D.nil).toInt)])
 (.br (f0.toInt == 8714) (.call 66 [] [a1] fun yy12 =>
 .ret [yy12.getD 0 D.nil,D.int ((yy12.getD 1 D.nil).toInt)])
 (.br (f0.toInt == 8746) (.call 67 [] [a1] fun yy13 =>
 .ret [yy13.getD 0 D.nil,D.int ((yy13.getD 1 D.nil).toInt)])
 (.br (f0.toInt == 9080) (.call 68 [] [a1] fun yy14 =>
 .ret [yy14.getD 0 D.nil,D.int ((yy14.getD 1 D.nil).toInt)])
 (.br (f0.toInt == 9035) (.call 69 [] [a1,D.bool false] fun yy15 =>
 .ret [yy15.getD 0 D.nil,D.int ((yy15.getD 1 D.nil).toInt)])
 (.br (f0.toInt == 9042) (.call 69 [] [a1,D.bool true] fun yy16 =>
 .ret [yy16.getD 0 D.nil,D.int ((yy16.getD 1 D.nil).toInt)])
 (.call 70 [] [D.int f0.toInt,a1] fun yy17 =>
 .ret [yy17.getD 0 D.nil,D.int ((yy17.getD 1 D.nil).toInt)])))))))))))))))))):=by kernel_rfl
theorem QR(n:Nat)(f0:D):Ai Tryz.prog md [(2000000,⟨[],[],[]⟩)] n 21 [] [f0] =
 .br (f0.toInt == 43) (.ret [D.int 0,D.bool true])
 (.br (f0.toInt == 45) (.ret [D.int 0,D.bool true])
 (.br (f0.toInt == 124) (.ret [D.int 0,D.bool true])
 (.br (f0.toInt == 8744) (.ret [D.int 0,D.bool true])
 (.br (f0.toInt == 60) (.ret [D.int 0,D.bool true])
 (.br (f0.toInt == 62) (.ret [D.int 0,D.bool true])
 (.br (f0.toInt == 8800) (.ret [D.int 0,D.bool true])
 (.br (f0.toInt == 215) (.ret [D.int 1,D.bool true])
 (.br (f0.toInt == 247) (.ret [D.int 1,D.bool true])
 (.br (f0.toInt == 42) (.ret [D.int 1,D.bool true])
 (.br (f0.toInt == 8743) (.ret [D.int 1,D.bool true])
 (.br (f0.toInt == 8804) (.ret [D.int 1,D.bool true])
 (.br (f0.toInt == 61) (.ret [D.int 1,D.bool true])
 (.br (f0.toInt == 8805) (.ret [D.int 1,D.bool true])
 (.br (f0.toInt == 33) (.ret [D.int 1,D.bool true])
 (.ret [D.int 0,D.bool false]))))))))))))))):=by kernel_rfl
theorem Aap(n:Nat)(f0 two1:D):Ai Tryz.prog md [] n 26 [] [f0,two1] =
 .br two1.toBool (.call 29 [] [] fun yy1 =>
 .call 74 [] [yy1.getD 0 D.nil,D.int f0.toInt] fun yy2 =>
 .ret [D.bool ((yy2.getD 0 D.nil).toBool)])
 (.call 28 [] [] fun yy3 =>
 .call 74 [] [yy3.getD 0 D.nil,D.int f0.toInt] fun yy4 =>
 .ret [D.bool ((yy4.getD 0 D.nil).toBool)]):=by kernel_rfl
theorem VR(n:Nat):Ai Tryz.prog md [] n 28 [] [] =
 .ret [D.sl [D.int 43,D.int 45,D.int 215,D.int 247,D.int 8968,D.int 8970,D.int 124,D.int 126,D.int 33,D.int 9076,D.int 44,D.int 9066,D.int 9021,D.int 8854,D.int 9033,D.int 8834,D.int 8835,D.int 8801,D.int 8802,D.int 9075,D.int 8714,D.int 8746,D.int 9080,D.int 9035,D.int 9042,D.int 8866,D.int 8867]]:=by kernel_rfl
theorem VS(n:Nat):Ai Tryz.prog md [] n 29 [] [] =
 .ret [D.sl [D.int 43,D.int 45,D.int 215,D.int 247,D.int 8968,D.int 8970,D.int 124,D.int 42,D.int 60,D.int 8804,D.int 61,D.int 8805,D.int 62,D.int 8800,D.int 8743,D.int 8744,D.int 9076,D.int 44,D.int 9066,D.int 9021,D.int 8854,D.int 9033,D.int 8593,D.int 8595,D.int 8835,D.int 8801,D.int 8802,D.int 9075,D.int 8714,D.int 8746,D.int 8745,D.int 126,D.int 8866,D.int 8867,D.int 47,D.int 9023,D.int 92,D.int 9024]]:=by kernel_rfl
theorem Acb(n:Nat)(a0 b1:D):Ai Tryz.prog md [(2000000,⟨[],[],[]⟩)] n 41 [] [a0,b1] =
 .call 80 [] [a0] fun yy1 =>
 .br (((yy1.getD 1 D.nil).toInt)!=0) (.ret [D.agg [D.int 0,D.sl [],D.sl []],D.int ((yy1.getD 1 D.nil).toInt)])
 (.br ((((yy1.getD 0 D.nil).els).length:Int)!=1) (.ret [D.agg [D.int 0,D.sl [],D.sl []],D.int 4])
 (.br ((((b1.fld 1).els).length:Int)!=1) (.ret [D.agg [D.int 0,D.sl [],D.sl []],D.int 5])
 (.br (decide (0≤0)) (.br (decide (0<(((yy1.getD 0 D.nil).els).length:Int))) (.br (decide (((((yy1.getD 0 D.nil).els).getD (Int.toNat 0) D.nil).toInt)<1)) (.ret [D.agg [D.int 0,D.sl [],D.sl []],D.int 6])
 (.br (decide (0≤0)) (.br (decide (0<(((yy1.getD 0 D.nil).els).length:Int))) (.br (decide ((((b1.fld 2).els).length:Int)<((((yy1.getD 0 D.nil).els).getD (Int.toNat 0) D.nil).toInt))) (.ret [D.agg [D.int 0,D.sl [],D.sl []],D.int 6])
 (.br (decide (0≤0)) (.br (decide (0<(((yy1.getD 0 D.nil).els).length:Int))) (.br (decide (0≤IntKind.wrap .i64 (((((yy1.getD 0 D.nil).els).getD (Int.toNat 0) D.nil).toInt)-1))) (.br (decide (IntKind.wrap .i64 (((((yy1.getD 0 D.nil).els).getD (Int.toNat 0) D.nil).toInt)-1)<(((b1.fld 2).els).length:Int))) (.call 104 [] [((b1.fld 2).els).getD (Int.toNat (IntKind.wrap .i64 (((((yy1.getD 0 D.nil).els).getD (Int.toNat 0) D.nil).toInt)-1))) D.nil] fun yy2 =>
 .call 84 [] [a0] fun yy3 =>
 .call 83 [] [D.int ((b1.fld 0).toInt),D.int ((yy3.getD 0 D.nil).toInt)] fun yy4 =>
 .call 90 [] [yy2.getD 0 D.nil,D.int ((yy4.getD 0 D.nil).toInt)] fun yy5 =>
 .ret [yy5.getD 0 D.nil,D.int 0]) .fail) .fail) .fail) .fail)) .fail) .fail)) .fail) .fail))):=by kernel_rfl
theorem VT(n:Nat)(f0 a1 b2:D):Ai Tryz.prog md [(2000000,⟨[],[],[]⟩)] n 42 [] [f0,a1,b2] =
 .br (f0.toInt == 8801) (.call 105 [] [a1,b2,D.bool true] fun yy1 =>
 .ret [yy1.getD 0 D.nil,D.int 0])
 (.br (f0.toInt == 8802) (.call 105 [] [a1,b2,D.bool false] fun yy2 =>
 .ret [yy2.getD 0 D.nil,D.int 0])
 (.br (f0.toInt == 9075) (.call 106 [] [a1,b2] fun yy3 =>
 .ret [yy3.getD 0 D.nil,D.int ((yy3.getD 1 D.nil).toInt)])
 (.br (f0.toInt == 8714) (.call 107 [] [a1,b2] fun yy4 =>
 .ret [yy4.getD 0 D.nil,D.int 0])
 (.br (f0.toInt == 8746) (.call 108 [] [a1,b2] fun yy5 =>
 .ret [yy5.getD 0 D.nil,D.int ((yy5.getD 1 D.nil).toInt)])
 (.br (f0.toInt == 8745) (.call 109 [] [a1,b2,D.bool true] fun yy6 =>
 .ret [yy6.getD 0 D.nil,D.int ((yy6.getD 1 D.nil).toInt)])
 (.br (f0.toInt == 126) (.call 109 [] [a1,b2,D.bool false] fun yy7 =>
 .ret [yy7.getD 0 D.nil,D.int ((yy7.getD 1 D.nil).toInt)])
 (.br (f0.toInt == 47) (.call 110 [] [a1,b2,D.bool false] fun yy8 =>
 .ret [yy8.getD 0 D.nil,D.int ((yy8.getD 1 D.nil).toInt)])
 (.br (f0.toInt == 9023) (.call 110 [] [a1,b2,D.bool true] fun yy9 =>
 .ret [yy9.getD 0 D.nil,D.int ((yy9.getD 1 D.nil).toInt)])
 (.br (f0.toInt == 92) (.call 111 [] [a1,b2,D.bool false] fun yy10 =>
 .ret [yy10.getD 0 D.nil,D.int ((yy10.getD 1 D.nil).toInt)])
 (.br (f0.toInt == 9024) (.call 111 [] [a1,b2,D.bool true] fun yy11 =>
 .ret [yy11.getD 0 D.nil,D.int ((yy11.getD 1 D.nil).toInt)])
 (.call 112 [] [D.int f0.toInt,a1,b2] fun yy12 =>
 .ret [yy12.getD 0 D.nil,D.int ((yy12.getD 1 D.nil).toInt)]))))))))))):=by kernel_rfl
def inS(n a:Arr):Arr×Int:=if (Bc n).2≠0 then (.none,(Bc n).2) else if (Bc n).1.length≠1 then (.none,4) else if a.shape.length≠1 then (.none,5) else
 if (Bc n).1.getD 0 0<1∨(a.cells.length:Int)<(Bc n).1.getD 0 0 then (.none,6) else
 (D1 (HK (a.cells.getD ((Bc n).1.getD 0 0-1).toNat (B5 0))) (a.s|||Bq n),0)
theorem AeZ(n a:Arr)(hn:A8 8 n=true)(ha:A8 8 a=true):Sp 41 [dA n,dA a] [dA (inS n a).1,.int (inS n a).2]:=by
 have hl:=(Dh ha).1
 refine Ag 0 (Acb _ _ _) (Aa (Fr n (Dh hn).1 (Ni hn)) ?_)
 unfold inS
 generalize (Bc n).1=l at *
 generalize (Bc n).2=e at *
 simp only[As,Cr]
 refine Ad (fun h=>Ac (by rw[if_pos h])) (fun h=> ?_)
 rw[if_neg h]
 refine Ad (fun h1=>Ac (by rw[if_pos (by omega)])) (fun h1=> ?_)
 rw[if_neg (by omega)]
 refine Ad (fun h2=>Ac (by rw[if_pos (by omega)])) (fun h2=> ?_)
 rw[if_neg (by omega)]
 have hg0:=Gp (l:=l) (i:=0) (by omega)
 simp only[hg0,Ah]
 generalize l.getD 0 0=k at *
 refine Ae (Ae (Ad (fun h3=>Ac (by rw[if_pos (.inl h3)])) (fun h3=>Ae (Ae (Ad (fun h4=>Ac (by rw[if_pos (.inr h4)])) (fun h4=> ?_))))))
 rw[if_neg (by omega)]
 obtain ⟨J,hJ⟩ : ∃ J:Nat,k-1=(J:Int):=⟨(k-1).toNat,by omega⟩
 have hw:IntKind.wrap .i64 (J:Int)=(J:Int):=Ap (by omega) (by omega)
 have hcj:(a.cells.map dC).getD J D.nil=dC (a.cells.getD J (B5 0)):=by
  rw[Aj (List.getElem?_eq_getElem (by omega)),List.getD_eq_getElem?_getD,List.getElem?_eq_getElem (by omega)];rfl
 have hcr:B7 8 (a.cells.getD J (B5 0))=true:=by
  rw[List.getD_eq_getElem?_getD,List.getElem?_eq_getElem (by omega)]
  exact (B6 ha).2 _ (List.getElem_mem _)
 simp only[hJ,hw,Int.toNat_natCast,hcj]
 refine Ae (Ae (Ae (Ae (Aa (P3 _ (RY hcr)) (Aa (Cb n (C8 hn).fits) ?_)))))
 simp only[As]
 refine Aa (Dc a.s (Bq n)) ?_
 simp only[As]
 exact Aa (C2 _ _) (Ac rfl)
theorem sw{c:Prop} [Decidable c] {t e:Tree}{x y:Arr×Int}(h1:c→Tw t [dA x.1,.int x.2])(h2 : ¬ c→Tw e [dA y.1,.int y.2]):Tw (.br (decide c) t e) [dA (if c then x else y).1,.int (if c then x else y).2]:=by
 refine Ad (fun h=> ?_) (fun h=> ?_)
 · rw[if_pos h];exact h1 h
 · rw[if_neg h];exact h2 h
noncomputable def VA(f:Int)(a:Arr):Arr×Int :=
 if f=9076 then (SI a,0) else
 if f=44 then (Akm a,0) else
 if f=9066 then (AhV a,0) else
 if f=9021 then (Aff a false,0) else
 if f=8854 then (Aff a true,0) else
 if f=9033 then (Aic a,0) else
 if f=8834 then AaB a else
 if f=8835 then (Abv a,0) else
 if f=8801 then (Aix a,0) else
 if f=8802 then (AcF a,0) else
 if f=8866 then (a,0) else
 if f=8867 then (a,0) else
 if f=9075 then BC a else
 if f=8714 then Ae4 a else
 if f=8746 then AaL a else
 if f=9080 then TE a else
 if f=9035 then EK a false else
 if f=9042 then EK a true else Pm f a
theorem Adi(f:Int)(a:Arr)(ha:A8 8 a=true):Sp 15 [.int f,dA a] [dA (VA f a).1,.int (VA f a).2]:=by
 have hs:=C8 ha
 have hc:=(B6 ha).1
 have hl:=(Dh ha).1
 refine Ag 0 (Aaq _ _ _) ?_
 simp only[Ah,Bz]
 unfold VA
 refine sw (fun _=>Aa (Aag a hs) (Ac rfl)) (fun _=> ?_)
 refine sw (fun _=>Aa (Aaf a hs) (Ac rfl)) (fun _=> ?_)
 refine sw (fun _=>Aa (ZY a hc) (Ac rfl)) (fun _=> ?_)
 refine sw (fun _=>Aa (Yp a false hc) (Ac rfl)) (fun _=> ?_)
 refine sw (fun _=>Aa (Yp a true hc) (Ac rfl)) (fun _=> ?_)
 refine sw (fun _=>Aa (KM a hc) (Ac rfl)) (fun _=> ?_)
 refine sw (fun _=>Aa (PV a hs (by omega)) (Ac rfl)) (fun _=> ?_)
 refine sw (fun _=>Aa (Aae a hs) (Ac rfl)) (fun _=> ?_)
 refine sw (fun _=>Aa (Aad a hs (by omega)) (Ac rfl)) (fun _=> ?_)
 refine sw (fun _=>Aa (Aah a hs) (Ac rfl)) (fun _=> ?_)
 refine sw (fun _=>Ac rfl) (fun _=> ?_)
 refine sw (fun _=>Ac rfl) (fun _=> ?_)
 refine sw (fun _=>Aa (Abu a hs.fits hl (Ni ha)) (Ac rfl)) (fun _=> ?_)
 refine sw (fun _=>Aa (US a hs) (Ac rfl)) (fun _=> ?_)
 refine sw (fun _=>Aa (UF Pr a hs hl) (Ac rfl)) (fun _=> ?_)
 refine sw (fun _=>Aa (Aao a ha) (Ac rfl)) (fun _=> ?_)
 refine sw (fun _=>Aa (Zm a false ha) (Ac rfl)) (fun _=> ?_)
 refine sw (fun _=>Aa (Zm a true ha) (Ac rfl)) (fun _=> ?_)
 exact Aa (Aa5 f 8 a ha) (Ac rfl)
noncomputable def QC(f:Int)(a b:Arr):Arr×Int :=
 if f=8801 then (AaF a b true,0) else
 if f=8802 then (AaF a b false,0) else
 if f=9075 then PK a b else
 if f=8714 then (Zt a b,0) else
 if f=8746 then SY a b else
 if f=8745 then HE a b true else
 if f=126 then HE a b false else
 if f=47 then RT a b false else
 if f=9023 then RT a b true else
 if f=92 then Abq a b false else
 if f=9024 then Abq a b true else AcG 8 f a b
theorem Acc(f:Int)(a b:Arr)(ha:A8 8 a=true)(hb:A8 8 b=true)(hx:f=42→ExpOk b):Sp 42 [.int f,dA a,dA b] [dA (QC f a b).1,.int (QC f a b).2]:=by
 have hs:=C8 ha
 have ht:=C8 hb
 have hl:=(Dh ha).1
 have hm:=(Dh hb).1
 refine Ag 0 (VT _ _ _ _) ?_
 simp only[Ah,Bz]
 unfold QC
 refine sw (fun _=>Aa (CL a b true hs ht) (Ac rfl)) (fun _=> ?_)
 refine sw (fun _=>Aa (CL a b false hs ht) (Ac rfl)) (fun _=> ?_)
 refine sw (fun _=>Aa (ZV Pr a b hs ht hl hm) (Ac rfl)) (fun _=> ?_)
 refine sw (fun _=>Aa (UE Pr a b hs ht hl hm) (Ac rfl)) (fun _=> ?_)
 refine sw (fun _=>Aa (ZW Pr a b hs ht hl hm) (Ac rfl)) (fun _=> ?_)
 refine sw (fun _=>Aa (CH Pr a b true hs ht hl hm) (Ac rfl)) (fun _=> ?_)
 refine sw (fun _=>Aa (CH Pr a b false hs ht hl hm) (Ac rfl)) (fun _=> ?_)
 refine sw (fun _=>Aa (Vj a b false ha hb) (Ac rfl)) (fun _=> ?_)
 refine sw (fun _=>Aa (Vj a b true ha hb) (Ac rfl)) (fun _=> ?_)
 refine sw (fun _=>Aa (Z0 a b false ha hb) (Ac rfl)) (fun _=> ?_)
 refine sw (fun _=>Aa (Z0 a b true ha hb) (Ac rfl)) (fun _=> ?_)
 exact Aa (CW f 8 a b ha hb hx) (Ac rfl)
noncomputable def CA(f:Int)(a b:Arr):Arr×Int :=
 if f=9076 then AaJ a b else
 if f=44 then Abc a b false else
 if f=9066 then Abc a b true else
 if f=9021 then Ac2 a b false else
 if f=8854 then Ac2 a b true else
 if f=9033 then NG a b else
 if f=8593 then AaK a b else
 if f=8595 then AaA a b else
 if f=8835 then inS a b else
 if f=8866 then (b,0) else
 if f=8867 then (a,0) else QC f a b
theorem LH(f:Int)(a b:Arr)(ha:A8 8 a=true)(hb:A8 8 b=true)(hx:f=42→ExpOk b):Sp 10 [.int f,dA a,dA b] [dA (CA f a b).1,.int (CA f a b).2]:=by
 have hs:=C8 ha
 have ht:=C8 hb
 have hl:=(Dh ha).1
 have hm:=(Dh hb).1
 have ta:=Ni ha
 have ca:=(B6 ha).1
 have cb:=(B6 hb).1
 refine Ag 0 (Aas _ _ _ _) ?_
 simp only[Ah,Bz]
 unfold CA
 refine sw (fun _=>Aa (PZ a b hs.fits hm hl ta) (Ac rfl)) (fun _=> ?_)
 refine sw (fun _=>Aa (W4 a b false ca cb) (Ac rfl)) (fun _=> ?_)
 refine sw (fun _=>Aa (W4 a b true ca cb) (Ac rfl)) (fun _=> ?_)
 refine sw (fun _=>Aa (AD a b false hs.fits hl ta cb) (Ac rfl)) (fun _=> ?_)
 refine sw (fun _=>Aa (AD a b true hs.fits hl ta cb) (Ac rfl)) (fun _=> ?_)
 refine sw (fun _=>Aa (SV a b hs.fits hl ta cb) (Ac rfl)) (fun _=> ?_)
 refine sw (fun _=>Aa (AcQ a b hs.fits hl ta cb) (Ac rfl)) (fun _=> ?_)
 refine sw (fun _=>Aa (AcP a b hs.fits hl ta cb) (Ac rfl)) (fun _=> ?_)
 refine sw (fun _=>Aa (AeZ a b ha hb) (Ac rfl)) (fun _=> ?_)
 refine sw (fun _=>Ac rfl) (fun _=> ?_)
 refine sw (fun _=>Ac rfl) (fun _=> ?_)
 exact Aa (Acc f a b ha hb hx) (Ac rfl)
section
variable {o:Co} {a b n m:Arr}
end
theorem AeH{k:Int}(h:Cv k)(s:Co):Bc (Fe k s)=([k],0):=by
 unfold Bc Fe
 simp only[Arr.shape_mk,Arr.cells_mk]
 have:=PL (l:=[k]) (fun x hx=>by simp at hx;subst hx;exact h)
 simp only[List.map_cons,List.map_nil]at this
 rw[this];rfl
theorem Ag1(k:Int)(s:Co):Bq (Fe k s)=s:=Aib [k] s
section
variable {o:Co} {a b n m x y:Arr}
end
def Tells(t:Tree)(Q:Bool→Prop):Prop:=∃ b,Tw t [.bool b]∧Q b
theorem Tells.ret {b:Bool} {Q:Bool→Prop} (h:Q b):Tells (.ret [D.bool b]) Q:=⟨b,Ac rfl,h⟩
theorem Tells.br {c:Bool} {t e:Tree} {Q:Bool→Prop} (h1:c=true→Tells t Q) (h2:c=false→Tells e Q):Tells (.br c t e) Q:=by
 cases h:c with
 | true=>obtain ⟨b,h3,h4⟩:=h1 h;exact ⟨b,Ba rfl h3,h4⟩
 | false=>obtain ⟨b,h3,h4⟩:=h2 h;exact ⟨b,Cs rfl h3,h4⟩
theorem Tells.decs {c:Prop} [Decidable c] {t e:Tree} {Q:Bool→Prop} (h1:c→Tells t Q) (h2 : ¬ c→Tells e Q):Tells (.br (decide c) t e) Q:=Tells.br (fun h=>h1 (of_decide_eq_true h)) (fun h=>h2 (of_decide_eq_false h))
theorem Tells.dec {c:Prop} [Decidable c] {t e:Tree} {Q:Bool→Prop} (h:c) (h1:Tells t Q):Tells (.br (decide c) t e) Q:=Tells.decs (fun _=>h1) (fun h2=>absurd h h2)
theorem Tells.call {f:Nat} {xs ys:List D} {k:List D→Tree} {Q:Bool→Prop} (hs:Sp f xs ys) (hk:Tells (k ys) Q):Tells (.call f [] xs k) Q:=by
 obtain ⟨b,h1,h2⟩:=hk
 exact ⟨b,Aa hs h1,h2⟩
theorem Tells.mono {t:Tree} {Q R:Bool→Prop} (h:Tells t Q) (hq : ∀ b,Q b→R b):Tells t R:=by
 obtain ⟨b,h1,h2⟩:=h
 exact ⟨b,h1,hq b h2⟩
theorem Ado{d:Nat}{c:Cell}(h:B7 d c=true) : ∀ x∈c.inn,∃ e,d=e+1∧A8 e x=true:=by
 intro x hx
 rcases Ij h with ⟨_,_,g,_⟩ | ⟨_,_,g⟩ | ⟨_,_,_,y,e,g1,g2,_,g3⟩
 · rw[g]at hx;cases hx
 · rw[g]at hx;cases hx
 · rw[g2]at hx
   have:x=y:=by simpa using hx
   subst this
   exact ⟨e,g1,g3⟩
theorem EV(n:Nat)(f0 a1 b2:D):Ai Tryz.prog md [] n 7 [] [f0,a1,b2] =
 .call 8 [] [a1] fun yy1 =>
 .br (!((yy1.getD 0 D.nil).toBool)) (.call 9 [] [] fun yy2 =>
 .ret [D.bool ((yy2.getD 0 D.nil).toBool)])
 (.call 8 [] [b2] fun yy3 =>
 .br (!((yy3.getD 0 D.nil).toBool)) (.call 9 [] [] fun yy4 =>
 .ret [D.bool ((yy4.getD 0 D.nil).toBool)])
 (.call 21 [] [D.int f0.toInt] fun yy5 =>
 .call 22 [] [D.int f0.toInt] fun yy6 =>
 .br (!(((yy5.getD 1 D.nil).toBool)==(decide (0≤((yy6.getD 0 D.nil).toInt))))) (.ret [D.bool false])
 (.br ((yy5.getD 1 D.nil).toBool) (.br (((yy5.getD 0 D.nil).toInt)!=((yy6.getD 0 D.nil).toInt)) (.ret [D.bool false])
 (.br (!((yy5.getD 1 D.nil).toBool)) (.br (((yy5.getD 0 D.nil).toInt)!=0) (.ret [D.bool false])
 (.call 24 [] [] fun yy7 =>
 .call 23 [] [yy7.getD 0 D.nil,D.int f0.toInt] fun yy8 =>
 .call 25 [] [] fun yy9 =>
 .call 23 [] [yy9.getD 0 D.nil,D.int f0.toInt] fun yy10 =>
 .call 26 [] [D.int f0.toInt,D.bool false] fun yy11 =>
 .br (!(((yy11.getD 0 D.nil).toBool)==((yy8.getD 0 D.nil).toBool))) (.ret [D.bool false])
 (.call 26 [] [D.int f0.toInt,D.bool true] fun yy12 =>
 .br (!(((yy12.getD 0 D.nil).toBool)==((yy10.getD 0 D.nil).toBool))) (.ret [D.bool false])
 (.call 28 [] [] fun yy13 =>
 .call 24 [] [] fun yy14 =>
 .call 27 [] [yy13.getD 0 D.nil,yy14.getD 0 D.nil] fun yy15 =>
 .br (!((yy15.getD 0 D.nil).toBool)) (.ret [D.bool false])
 (.call 29 [] [] fun yy16 =>
 .call 25 [] [] fun yy17 =>
 .call 27 [] [yy16.getD 0 D.nil,yy17.getD 0 D.nil] fun yy18 =>
 .br (!((yy18.getD 0 D.nil).toBool)) (.ret [D.bool false])
 (.call 15 [] [D.int f0.toInt,a1] fun yy19 =>
 .call 10 [] [D.int f0.toInt,a1,b2] fun yy20 =>
 .br ((yy8.getD 0 D.nil).toBool) (.br ((yy10.getD 0 D.nil).toBool) (.call 9 [] [] fun yy21 =>
 .ret [D.bool ((yy21.getD 0 D.nil).toBool)])
 (.br (((yy20.getD 1 D.nil).toInt)==8) (.call 9 [] [] fun yy22 =>
 .ret [D.bool ((yy22.getD 0 D.nil).toBool)])
 (.ret [D.bool false])))
 (.br (((yy19.getD 1 D.nil).toInt)==8) (.br ((yy10.getD 0 D.nil).toBool) (.call 9 [] [] fun yy23 =>
 .ret [D.bool ((yy23.getD 0 D.nil).toBool)])
 (.br (((yy20.getD 1 D.nil).toInt)==8) (.call 9 [] [] fun yy24 =>
 .ret [D.bool ((yy24.getD 0 D.nil).toBool)])
 (.ret [D.bool false])))
 (.ret [D.bool false]))))))))
 (.call 24 [] [] fun yy25 =>
 .call 23 [] [yy25.getD 0 D.nil,D.int f0.toInt] fun yy26 =>
 .call 25 [] [] fun yy27 =>
 .call 23 [] [yy27.getD 0 D.nil,D.int f0.toInt] fun yy28 =>
 .call 26 [] [D.int f0.toInt,D.bool false] fun yy29 =>
 .br (!(((yy29.getD 0 D.nil).toBool)==((yy26.getD 0 D.nil).toBool))) (.ret [D.bool false])
 (.call 26 [] [D.int f0.toInt,D.bool true] fun yy30 =>
 .br (!(((yy30.getD 0 D.nil).toBool)==((yy28.getD 0 D.nil).toBool))) (.ret [D.bool false])
 (.call 28 [] [] fun yy31 =>
 .call 24 [] [] fun yy32 =>
 .call 27 [] [yy31.getD 0 D.nil,yy32.getD 0 D.nil] fun yy33 =>
 .br (!((yy33.getD 0 D.nil).toBool)) (.ret [D.bool false])
 (.call 29 [] [] fun yy34 =>
 .call 25 [] [] fun yy35 =>
 .call 27 [] [yy34.getD 0 D.nil,yy35.getD 0 D.nil] fun yy36 =>
 .br (!((yy36.getD 0 D.nil).toBool)) (.ret [D.bool false])
 (.call 15 [] [D.int f0.toInt,a1] fun yy37 =>
 .call 10 [] [D.int f0.toInt,a1,b2] fun yy38 =>
 .br ((yy26.getD 0 D.nil).toBool) (.br ((yy28.getD 0 D.nil).toBool) (.call 9 [] [] fun yy39 =>
 .ret [D.bool ((yy39.getD 0 D.nil).toBool)])
 (.br (((yy38.getD 1 D.nil).toInt)==8) (.call 9 [] [] fun yy40 =>
 .ret [D.bool ((yy40.getD 0 D.nil).toBool)])
 (.ret [D.bool false])))
 (.br (((yy37.getD 1 D.nil).toInt)==8) (.br ((yy28.getD 0 D.nil).toBool) (.call 9 [] [] fun yy41 =>
 .ret [D.bool ((yy41.getD 0 D.nil).toBool)])
 (.br (((yy38.getD 1 D.nil).toInt)==8) (.call 9 [] [] fun yy42 =>
 .ret [D.bool ((yy42.getD 0 D.nil).toBool)])
 (.ret [D.bool false])))
 (.ret [D.bool false])))))))))
 (.br (!((yy5.getD 1 D.nil).toBool)) (.br (((yy5.getD 0 D.nil).toInt)!=0) (.ret [D.bool false])
 (.call 24 [] [] fun yy43 =>
 .call 23 [] [yy43.getD 0 D.nil,D.int f0.toInt] fun yy44 =>
 .call 25 [] [] fun yy45 =>
 .call 23 [] [yy45.getD 0 D.nil,D.int f0.toInt] fun yy46 =>
 .call 26 [] [D.int f0.toInt,D.bool false] fun yy47 =>
 .br (!(((yy47.getD 0 D.nil).toBool)==((yy44.getD 0 D.nil).toBool))) (.ret [D.bool false])
 (.call 26 [] [D.int f0.toInt,D.bool true] fun yy48 =>
 .br (!(((yy48.getD 0 D.nil).toBool)==((yy46.getD 0 D.nil).toBool))) (.ret [D.bool false])
 (.call 28 [] [] fun yy49 =>
 .call 24 [] [] fun yy50 =>
 .call 27 [] [yy49.getD 0 D.nil,yy50.getD 0 D.nil] fun yy51 =>
 .br (!((yy51.getD 0 D.nil).toBool)) (.ret [D.bool false])
 (.call 29 [] [] fun yy52 =>
 .call 25 [] [] fun yy53 =>
 .call 27 [] [yy52.getD 0 D.nil,yy53.getD 0 D.nil] fun yy54 =>
 .br (!((yy54.getD 0 D.nil).toBool)) (.ret [D.bool false])
 (.call 15 [] [D.int f0.toInt,a1] fun yy55 =>
 .call 10 [] [D.int f0.toInt,a1,b2] fun yy56 =>
 .br ((yy44.getD 0 D.nil).toBool) (.br ((yy46.getD 0 D.nil).toBool) (.call 9 [] [] fun yy57 =>
 .ret [D.bool ((yy57.getD 0 D.nil).toBool)])
 (.br (((yy56.getD 1 D.nil).toInt)==8) (.call 9 [] [] fun yy58 =>
 .ret [D.bool ((yy58.getD 0 D.nil).toBool)])
 (.ret [D.bool false])))
 (.br (((yy55.getD 1 D.nil).toInt)==8) (.br ((yy46.getD 0 D.nil).toBool) (.call 9 [] [] fun yy59 =>
 .ret [D.bool ((yy59.getD 0 D.nil).toBool)])
 (.br (((yy56.getD 1 D.nil).toInt)==8) (.call 9 [] [] fun yy60 =>
 .ret [D.bool ((yy60.getD 0 D.nil).toBool)])
 (.ret [D.bool false])))
 (.ret [D.bool false]))))))))
 (.call 24 [] [] fun yy61 =>
 .call 23 [] [yy61.getD 0 D.nil,D.int f0.toInt] fun yy62 =>
 .call 25 [] [] fun yy63 =>
 .call 23 [] [yy63.getD 0 D.nil,D.int f0.toInt] fun yy64 =>
 .call 26 [] [D.int f0.toInt,D.bool false] fun yy65 =>
 .br (!(((yy65.getD 0 D.nil).toBool)==((yy62.getD 0 D.nil).toBool))) (.ret [D.bool false])
 (.call 26 [] [D.int f0.toInt,D.bool true] fun yy66 =>
 .br (!(((yy66.getD 0 D.nil).toBool)==((yy64.getD 0 D.nil).toBool))) (.ret [D.bool false])
 (.call 28 [] [] fun yy67 =>
 .call 24 [] [] fun yy68 =>
 .call 27 [] [yy67.getD 0 D.nil,yy68.getD 0 D.nil] fun yy69 =>
 .br (!((yy69.getD 0 D.nil).toBool)) (.ret [D.bool false])
 (.call 29 [] [] fun yy70 =>
 .call 25 [] [] fun yy71 =>
 .call 27 [] [yy70.getD 0 D.nil,yy71.getD 0 D.nil] fun yy72 =>
 .br (!((yy72.getD 0 D.nil).toBool)) (.ret [D.bool false])
 (.call 15 [] [D.int f0.toInt,a1] fun yy73 =>
 .call 10 [] [D.int f0.toInt,a1,b2] fun yy74 =>
 .br ((yy62.getD 0 D.nil).toBool) (.br ((yy64.getD 0 D.nil).toBool) (.call 9 [] [] fun yy75 =>
 .ret [D.bool ((yy75.getD 0 D.nil).toBool)])
 (.br (((yy74.getD 1 D.nil).toInt)==8) (.call 9 [] [] fun yy76 =>
 .ret [D.bool ((yy76.getD 0 D.nil).toBool)])
 (.ret [D.bool false])))
 (.br (((yy73.getD 1 D.nil).toInt)==8) (.br ((yy64.getD 0 D.nil).toBool) (.call 9 [] [] fun yy77 =>
 .ret [D.bool ((yy77.getD 0 D.nil).toBool)])
 (.br (((yy74.getD 1 D.nil).toInt)==8) (.call 9 [] [] fun yy78 =>
 .ret [D.bool ((yy78.getD 0 D.nil).toBool)])
 (.ret [D.bool false])))
 (.ret [D.bool false]))))))))))):=by kernel_rfl
theorem X9(n:Nat)(a0:D):Ai Tryz.prog md [] n 8 [] [a0] =
 .call 30 [] [a0] fun yy1 =>
 .br ((yy1.getD 0 D.nil).toBool) (.call 31 [] [a0] fun yy2 =>
 .ret [D.bool ((yy2.getD 0 D.nil).toBool)])
 (.ret [D.bool false]):=by kernel_rfl
theorem MW(n:Nat):Ai Tryz.prog md [] n 9 [] [] =
 .call 32 [] [D.int 2,D.int 0] fun yy1 =>
 .call 33 [] [D.sl [D.int 5,D.int 6,D.int 7],D.int 0] fun yy2 =>
 .call 10 [] [D.int 8835,yy1.getD 0 D.nil,yy2.getD 0 D.nil] fun yy3 =>
 .br (((yy3.getD 1 D.nil).toInt)==0) (.call 32 [] [D.int 6,D.int 0] fun yy4 =>
 .call 34 [] [yy3.getD 0 D.nil,yy4.getD 0 D.nil] fun yy5 =>
 .br ((yy5.getD 0 D.nil).toBool) (.call 26 [] [D.int 9076,D.bool false] fun yy6 =>
 .br ((yy6.getD 0 D.nil).toBool) (.call 26 [] [D.int 42,D.bool false] fun yy7 =>
 .ret [D.bool (!((yy7.getD 0 D.nil).toBool))])
 (.ret [D.bool false]))
 (.ret [D.bool false]))
 (.ret [D.bool false]):=by kernel_rfl
def Dd:List (Nat×Orc):=[(4,⟨[(1,none),(3,none)],[(1,true)],[]⟩),(11,⟨[(1,none),(3,none),(4,none),(7,none)],[(1,true),(4,true)],[]⟩)]
noncomputable def G8(n m4 m11:Nat)(i3 j7:Int)(a1 c4:D):Tree :=
 lA (eA Dd n 31 [1,1,0,1,0,0,1,0,0,1,1,1,1,0,0]) (Ao Dd 11) m11 ⟨(.undef:: .ptr 1 []:: .undef:: .i .i64 i3:: .ptr 4 []:: .undef:: .undef:: .i .i64 j7::uA 59),[(1,.var 26 (.d 26 a1) true),(4,.var 67 (.d 67 c4) true)],[1,4],[],[]⟩
  (Ak 2 (Ak 1 (Au (jA Dd n 31 [1,1,0,1,0,0,1,1]) (J0 Tryz.prog md (Ao Dd 4) (fun s1=>lA (eA Dd n 31 [1,1,0,1,0,0]) (Ao Dd 4) m4 s1 (Ak 0 (Au (jA Dd n 31 [1,1,1]) (rA 31 [26] [.tmp 2] [4])))) (Ak 0 (Au (jA Dd n 31 [1,1,1]) (rA 31 [26] [.tmp 2] [4])))))))
noncomputable def H3(n m4:Nat)(i3:Int)(a1:D):Tree :=
 lA (eA Dd n 31 [1,1,0,1,0,0]) (Ao Dd 4) m4 ⟨(.undef:: .ptr 1 []:: .undef:: .i .i64 i3::uA 63),[(1,.var 26 (.d 26 a1) true)],[1],[],[]⟩
  (Ak 0 (Au (jA Dd n 31 [1,1,1]) (rA 31 [26] [.tmp 2] [4])))
theorem BF(n m4 m11:Nat)(i3 j7:Int)(a1 c4:D):G8 n m4 (m11+1) i3 j7 a1 c4 =
 .br (decide (j7<(((c4.fld 4).els).length:Int))) (.br (decide (0≤j7)) (.br (decide (j7<(((c4.fld 4).els).length:Int))) (.call 31 [] [((c4.fld 4).els).getD (Int.toNat j7) D.nil] fun yy2 =>
 .br (!((yy2.getD 0 D.nil).toBool)) (.ret [D.bool false])
 (G8 n m4 m11 i3 (IntKind.wrap .i64 (j7+1)) a1 c4)) .fail) .fail)
 (H3 n m4 (IntKind.wrap .i64 (i3+1)) a1):=by kernel_rfl
theorem DA(n m4:Nat)(i3:Int)(a1:D):H3 n (m4+1) i3 a1 =
 .br (decide (i3<(((a1.fld 2).els).length:Int))) (.br (decide (0≤i3)) (.br (decide (i3<(((a1.fld 2).els).length:Int))) (.call 77 [] [(((a1.fld 2).els).getD (Int.toNat i3) D.nil).fld 2] fun yy1 =>
 .br (decide (2<(((((((a1.fld 2).els).getD (Int.toNat i3) D.nil).fld 2).fld 1).els).length:Int))) (.ret [D.bool false])
 (.br (decide (2<(((((((a1.fld 2).els).getD (Int.toNat i3) D.nil).fld 2).fld 2).els).length:Int))) (.ret [D.bool false])
 (.br ((yy1.getD 1 D.nil).toBool) (.br (decide (300<((yy1.getD 0 D.nil).toInt))) (.ret [D.bool false])
 (.br (decide (((yy1.getD 0 D.nil).toInt)<(-300))) (.ret [D.bool false])
 (G8 n m4 n i3 0 a1 (((a1.fld 2).els).getD (Int.toNat i3) D.nil))))
 (G8 n m4 n i3 0 a1 (((a1.fld 2).els).getD (Int.toNat i3) D.nil))))) .fail) .fail)
 (.ret [D.bool true]):=by kernel_rfl
theorem MV(n:Nat)(a0:D):Ai Tryz.prog md Dd n 31 [] [a0] =
 .br (decide (60<(((a0.fld 2).els).length:Int))) (.ret [D.bool false])
 (H3 n n 0 a0):=by kernel_rfl
theorem CO(a b:List Int)(ha:a.length≤9223372036854775807):Sp 27 [dI a,dI b] [.bool (decide (a=b))]:=by
 refine Ag (a.length+1) (QY _ _ _) ?_
 simp only[Bx,List.length_map,Cz]
 refine Ad (fun h=>Ac (by rw[decide_eq_false (fun hh=>h (by rw[hh]))])) (fun g6=> ?_)
 have hll:a.length=b.length:=by omega
 have key:=A7 (P:=Tryz.prog) (md:=md) a (fun m i (_:Unit)=>Oz (a.length+1) m (dI a) (dI b) (i:Int)) (fun rest _=>[.bool (decide (rest=b.drop (a.length-rest.length)))]) (fun _ _=>True)
  (fun m i _ hi _=>by
   simp only[Ut,Bx,List.length_map]
   refine Am (by omega) (Ac ?_)
   rw[List.length_nil,Nat.sub_zero,hll,List.drop_length];simp)
  (fun m i _ x rest hdr _ ih2=>by
   obtain ⟨q1,q2,q3⟩:=Az hdr
   have hle:=congrArg List.length hdr
   rw[List.length_drop,List.length_cons]at hle
   have e5:a.length-(x::rest).length=i:=by rw[List.length_cons];omega
   have e6:a.length-rest.length=i+1:=by omega
   have hib:i<b.length:=by omega
   have ih2:=ih2 () trivial
   rw[e6]at ih2
   simp only[Ut,Bx,List.length_map,Int.toNat_natCast,Aj q2,Aj (List.getElem?_eq_getElem hib),Ah,Cz,An (show i<9223372036854775807 by omega)]
   refine Ae (Ae (Ae (Ae (Ae ?_))))
   have ed:b.drop i=b[i]::b.drop (i+1):=List.drop_eq_getElem_cons hib
   refine Ad (fun g=>Ac ?_) (fun g=> ?_)
   · rw[e5,ed,decide_eq_false (fun hh=>g (by injection hh))]
   · refine Tree.wp_mono ih2 (fun ys hy=>hy.trans ?_)
     rw[e5,ed,Classical.not_not.1 g]
     exact congrArg (fun z=>[D.bool z]) (decide_eq_decide.2 ⟨fun hh=>by rw[hh],fun hh=>by injection hh⟩))
  (a.length+1) 0 () (by omega) (by omega) trivial
 refine Tree.wp_mono key (fun ys hy=>hy.trans ?_)
 rw[List.drop_zero,Nat.sub_self,List.drop_zero]
def Tj:List Int:=[43,45,215,247,8968,8970,124,126,33,9076,44,9066,9021,8854,9033,8834,8835,8801,8802,9075,8714,8746,9080,9035,9042,8866,8867]
def Tv:List Int:=[43,45,215,247,8968,8970,124,42,60,8804,61,8805,62,8800,8743,8744,9076,44,9066,9021,8854,9033,8593,8595,8835,8801,8802,9075,8714,8746,8745,126,8866,8867,47,9023,92,9024]
theorem Adw(l:List Int)(f:Int):l.any (fun x=>decide (x=f))=decide (f∈l):=by
 rw[Bool.eq_iff_iff,List.any_eq_true,decide_eq_true_iff]
 exact ⟨fun ⟨x,hx,hp⟩=>by rw[← of_decide_eq_true hp];exact hx,fun h=>⟨f,h,decide_eq_true rfl⟩⟩
theorem Xd:Sp 28 [] [dI Tj]:=Ag 0 (VR _) (Ac rfl)
theorem Xe:Sp 29 [] [dI Tv]:=Ag 0 (VS _) (Ac rfl)
theorem Tm(f:Int)(two:Bool):Sp 26 [.int f,.bool two] [.bool (decide (f∈if two then Tv else Tj))]:=by
 refine Ag 0 (Aap _ _ _) ?_
 simp only[Al,Ah]
 cases two with
 | true=>exact Ba rfl (Aa Xe (Aa (Mn Tv f (by decide)) (Ac (by rw[Adw];rfl))))
 | false=>exact Cs rfl (Aa Xd (Aa (Mn Tj f (by decide)) (Ac (by rw[Adw];rfl))))
theorem Aig{f:Int}{a:Arr}(h:f∉Yg):Pm f a=(.none,8):=by rw[XK,if_neg h]
theorem Aie{f:Int}{a b:Arr}(h:f∉CB):AcG 8 f a b=(.none,8):=by
 show Xv _ f a b=_
 unfold Xv
 rw[if_neg h]
theorem Ah3{f:Int}{a:Arr}(h:f∉Tj):(VA f a).2=8:=by
 simp only[Tj,List.mem_cons,List.not_mem_nil,or_false,not_or]at h
 have hu:f∉Yg:=by simp only[Yg,List.mem_cons,List.not_mem_nil,or_false,not_or];omega
 unfold VA
 rw[if_neg (by omega),if_neg (by omega),if_neg (by omega),if_neg (by omega),if_neg (by omega),if_neg (by omega),if_neg (by omega),if_neg (by omega),if_neg (by omega),if_neg (by omega),if_neg (by omega),if_neg (by omega),if_neg (by omega),if_neg (by omega),if_neg (by omega),if_neg (by omega),if_neg (by omega),if_neg (by omega)]
 rw[Aig hu]
theorem Aif{f:Int}{a b:Arr}(h:f∉Tv):(CA f a b).2=8:=by
 simp only[Tv,List.mem_cons,List.not_mem_nil,or_false,not_or]at h
 have hu:f∉CB:=by simp only[CB,List.mem_cons,List.not_mem_nil,or_false,not_or];omega
 unfold CA
 rw[if_neg (by omega),if_neg (by omega),if_neg (by omega),if_neg (by omega),if_neg (by omega),if_neg (by omega),if_neg (by omega),if_neg (by omega),if_neg (by omega),if_neg (by omega),if_neg (by omega)]
 unfold QC
 rw[if_neg (by omega),if_neg (by omega),if_neg (by omega),if_neg (by omega),if_neg (by omega),if_neg (by omega),if_neg (by omega),if_neg (by omega),if_neg (by omega),if_neg (by omega),if_neg (by omega)]
 rw[Aie hu]
theorem UN : ∀ (d:Nat) (a:Arr),A8 d a=true→∃ b,(b=true→ExpOk a)∧Sp 31 [dA a] [.bool b]:=by
 suffices key : ∀ (d:Nat) (a:Arr),(∀ e x,d=e+1→A8 e x=true→∃ b,(b=true→ExpOk x)∧Sp 31 [dA x] [.bool b])→A8 d a=true→∃ b,(b=true→ExpOk a)∧Sp 31 [dA a] [.bool b] by
  intro d
  induction d with
  | zero=>intro a;exact key 0 a (fun e x he=>by omega)
  | succ d ihd=>intro a;exact key (d+1) a (fun e x he=>by
         have:e=d:=by omega
         subst this;exact ihd x)
 intro d a ih hr
 have hs:=C8 hr
 have hl:=hs.2.1
 have hcs:=(B6 hr).2
 suffices hh:Tells (H3 (a.cells.length+3) (a.cells.length+3) 0 (dA a)) (fun b=>b=true→∀ c∈a.cells,Ty c) by
  have hh2:Tells (.br (decide (60<(((dA a).fld 2).els.length:Int))) (.ret [D.bool false]) (H3 (a.cells.length+3) (a.cells.length+3) 0 (dA a))) (fun b=>b=true→∀ c∈a.cells,Ty c):=Tells.decs (fun _=>Tells.ret (fun h=>by cases h)) (fun _=>hh)
  obtain ⟨b,h1,h2⟩:=hh2
  refine ⟨b,fun hb=> ?_,Ag (a.cells.length+3) (MV _ _) h1⟩
  have h3:=h2 hb
  cases a with
  | mk s sh cs=>exact .mk (fun c hc=>(h3 c hc).1) (fun c hc=>(h3 c hc).2)
 suffices hh : ∀ m k,k≤a.cells.length→a.cells.length<k+m→Tells (H3 (a.cells.length+3) m (k:Int) (dA a)) (fun b=>b=true→∀ c∈a.cells.drop k,Ty c) from hh (a.cells.length+3) 0 (by omega) (by omega)
 intro m
 induction m with
 | zero=>intro k _ _;omega
 | succ m ihm =>
  intro k hk hm
  simp only[DA,As]
  refine Tells.decs (fun hlt=>Tells.dec (by omega) (Tells.dec (by omega) ?_)) (fun hge=>Tells.ret (fun _ c hc=> ?_))
  · have hlt':k<a.cells.length:=by omega
    have h2:a.cells[k]? = some a.cells[k]:=List.getElem?_eq_getElem hlt'
    have hdr:a.cells.drop k=a.cells[k]::a.cells.drop (k+1):=List.drop_eq_getElem_cons hlt'
    generalize a.cells[k]=c at h2 hdr
    have hc:=hcs c (List.mem_of_getElem? h2)
    have hcl:=Ra hc
    have hin : ∀ r j,j≤c.inn.length→c.inn.length<j+r→Tells (G8 (a.cells.length+3) m r (k:Int) (j:Int) (dA a) (dC c)) (fun b=>b=true→(∀ x∈c.inn.drop j,ExpOk x)∧∀ c∈a.cells.drop (k+1),Ty c):=by
     intro r
     induction r with
     | zero=>intro j _ _;omega
     | succ r ihr =>
      intro j hj hm'
      simp only[BF,As,AgR]
      refine Tells.decs (fun hlt2=>Tells.dec (by omega) (Tells.dec (by omega) ?_)) (fun hge=> ?_)
      · have hlt3:j<c.inn.length:=by omega
        have h3:c.inn[j]? = some c.inn[j]:=List.getElem?_eq_getElem hlt3
        have hdr3:c.inn.drop j=c.inn[j]::c.inn.drop (j+1):=List.drop_eq_getElem_cons hlt3
        generalize c.inn[j]=x at h3 hdr3
        obtain ⟨e,g1,g2⟩:=Ado hc x (List.mem_of_getElem? h3)
        obtain ⟨b,hb1,hb⟩:=ih e x g1 g2
        simp only[Aj h3,An (show j<9223372036854775807 by omega)]
        refine Tells.call hb ?_
        simp only[Af,Al]
        refine Tells.br (fun _=>Tells.ret (fun h=>by cases h)) (fun hnb=>(ihr (j+1) (by omega) (by omega)).mono (fun b' hb' ht=> ?_))
        obtain ⟨q1,q2⟩:=hb' ht
        refine ⟨fun y hy=> ?_,q2⟩
        rw[hdr3]at hy
        rcases List.mem_cons.1 hy with rfl | hy
        · exact hb1 (by simpa using hnb)
        · exact q1 y hy
      · rw[An (show k<9223372036854775807 by omega)]
        refine (ihm (k+1) (by omega) (by omega)).mono (fun b' hb' ht=>⟨fun x hx=> ?_,hb' ht⟩)
        rw[List.drop_eq_nil_of_le (by omega)]at hx;cases hx
    have hin':=hin (a.cells.length+3) 0 (by omega) (by omega)
    simp only[Aj h2,As]
    refine Tells.call (WW c.n (by omega)) ?_
    rw[show ((0:Nat):Int)=0 from rfl]at hin'
    generalize G8 (a.cells.length+3) m (a.cells.length+3) (k:Int) 0 (dA a) (dC c)=T at hin' ⊢
    have fin:(∀ k,D_ c.n=some k→ -300≤k∧k≤300)→Tells T (fun b=>b=true→∀ c∈a.cells.drop k,Ty c):=fun hk=>hin'.mono (fun b hb ht=>by
     obtain ⟨q1,q2⟩:=hb ht
     rw[hdr]
     intro y hy
     rcases List.mem_cons.1 hy with rfl | hy
     · exact ⟨hk,q1⟩
     · exact q2 y hy)
    refine Tells.br (fun _=>Tells.ret (fun h=>by cases h)) (fun _=>Tells.br (fun _=>Tells.ret (fun h=>by cases h)) (fun _=> ?_))
    cases hsm:D_ c.n with
    | none =>
     rw[hsm]at fin
     simp only[FH,Af,Ce,Al,Ah]
     exact Tells.br (fun h=>by cases h) (fun _=>fin (fun k h=>by cases h))
    | some z =>
     rw[hsm]at fin
     simp only[FH,Af,Ce,Al,Ah]
     refine Tells.br (fun _=>Tells.decs (fun _=>Tells.ret (fun h=>by cases h)) (fun g1=>Tells.decs (fun _=>Tells.ret (fun h=>by cases h)) (fun g2=>fin (fun k h=> ?_)))) (fun h=>by cases h)
     injection h with h;subst h;omega
  · rw[List.drop_eq_nil_of_le (by omega)]at hc;cases hc
theorem CK(a:Arr)(ha:Fits a) : ∃ b,(b=true→A8 8 a=true∧ExpOk a)∧Sp 8 [dA a] [.bool b]:=by
 cases hg:AaC a with
 | false =>
  refine ⟨false,(fun h=>by cases h),Ag 0 (X9 _ _) (Aa (CR a ha) ?_)⟩
  rw[hg]
  exact Cs rfl (Ac rfl)
 | true =>
  have hr:A8 8 a=true:=by
   unfold AaC at hg
   simp only[Bool.and_eq_true]at hg
   exact hg.1.2
  obtain ⟨b,h1,h2⟩:=UN 8 a hr
  refine ⟨b,fun hb=>⟨hr,h1 hb⟩,Ag 0 (X9 _ _) (Aa (CR a ha) ?_)⟩
  rw[hg]
  exact Ba rfl (Aa h2 (Ac rfl))
theorem BA{z:Int}(h1 : -100000≤z:=by decide)(h2:z≤100000:=by decide):Cv z:=Dv (by omega) (by omega)
theorem CE{k:Int}(h:Cv k):A8 8 (Fe k 0)=true:=Ym (by simp[Fe];decide) (fun c hc=>by simp[Fe]at hc;subst hc;exact Q_ 8 h)
theorem Adr:A8 8 (Hm [5,6,7] 0)=true:=Ym (by simp[Hm];decide) (fun c hc=>by
 simp[Hm]at hc
 rcases hc with rfl | rfl | rfl
 · exact Q_ 8 BA
 · exact Q_ 8 BA
 · exact Q_ 8 BA)
theorem AkB:CA 8835 (Fe 2 0) (Hm [5,6,7] 0)=(Fe 6 0,0):=by
 have e:CA 8835 (Fe 2 0) (Hm [5,6,7] 0)=inS (Fe 2 0) (Hm [5,6,7] 0):=by
  unfold CA
  rw[if_neg (by decide),if_neg (by decide),if_neg (by decide),if_neg (by decide),if_neg (by decide),if_neg (by decide),if_neg (by decide),if_neg (by decide),if_pos rfl]
 rw[e]
 unfold inS
 rw[AeH BA,Ag1]
 rw[if_neg (by decide),if_neg (by decide),if_neg (by simp[Hm]),if_neg (by simp[Hm])]
 rfl
theorem UO:Sp 9 [] [.bool true]:=by
 refine Ag 0 (MW _) ?_
 have t:=LH 8835 (Fe 2 0) (Hm [5,6,7] 0) (CE BA) Adr (fun h=>by cases h)
 rw[AkB]at t
 refine Aa (Z7 2 0 BA) (Aa (RN [5,6,7] 0 (by decide) (fun x hx=>by simp at hx;rcases hx with rfl | rfl | rfl <;> exact BA)) (Aa t ?_))
 have hsame:=Aa2 (Fe 6 0) (C8 (CE BA)).fits (Fe 6 0)
 rw[Sj.2 rfl]at hsame
 refine Ba rfl (Aa (Z7 6 0 BA) (Aa hsame (Ba rfl ?_)))
 have h1:=Tm 9076 false
 rw[decide_eq_true (by decide)]at h1
 have h2:=Tm 42 false
 rw[decide_eq_false (by decide)]at h2
 exact Aa h1 (Ba rfl (Aa h2 (Ac rfl)))
theorem Lh:Tw (.call 9 [] [] fun y=> .ret [D.bool ((y.getD 0 D.nil).toBool)]) [.bool true]:=Aa UO (Ac rfl)
def JN:List Int:=[43,45,124,8744,60,62,8800]
def SZ:List Int:=[215,247,42,8743,8804,61,8805,33]
def Lg(f:Int):Int:=if f∈JN then 0 else if f∈SZ then 1 else -1
theorem XE(f:Int):Sp 22 [.int f] [.int (Lg f)]:=by
 refine Ag 0 (NX _ _) (Aa (To JN f (by decide)) ?_)
 unfold Lg
 simp only[Af,Al]
 refine Ad (fun h=>Ac (by rw[if_pos h])) (fun h=>Aa (To SZ f (by decide)) ?_)
 rw[if_neg h]
 simp only[Af,Al]
 exact Ad (fun h=>Ac (by rw[if_pos h])) (fun h=>Ac (by rw[if_neg h]))
theorem Aar(f:Int):Sp 21 [.int f] [.int (if 0≤Lg f then Lg f else 0),.bool (decide (0≤Lg f))]:=by
 refine Ag 0 (QR _ _) ?_
 simp only[Ah,Bz]
 have z : ∀ x:Int,x∈JN→Lg x=0:=fun x h=>by unfold Lg;rw[if_pos h]
 have u : ∀ x:Int,x∉JN→x∈SZ→Lg x=1:=fun x h h2=>by unfold Lg;rw[if_neg h,if_pos h2]
 iterate 7 refine Ad (fun h=>Ac (by rw[h,z _ (by decide)];rfl)) (fun h=> ?_)
 iterate 8 refine Ad (fun h=>Ac (by rw[h,u _ (by decide) (by decide)];rfl)) (fun h=> ?_)
 refine Ac ?_
 have n1:f∉JN:=by simp only[JN,List.mem_cons,List.not_mem_nil,or_false,not_or];omega
 have n2:f∉SZ:=by simp only[SZ,List.mem_cons,List.not_mem_nil,or_false,not_or];omega
 have:Lg f = -1:=by unfold Lg;rw[if_neg n1,if_neg n2]
 rw[this];rfl
theorem AeY(f:Int)(a b:Arr)(_hf : -9223372036854775808≤f∧f≤9223372036854775807)(ha:Fits a)(hb:Fits b):Sp 7 [.int f,dA a,dA b] [.bool true]:=by
 obtain ⟨b1,h1,s1⟩:=CK a ha
 obtain ⟨b2,h2,s2⟩:=CK b hb
 refine Ag 0 (EV _ _ _ _) (Aa s1 (Df (fun _=>Lh) (fun e1=>Aa s2 (Df (fun _=>Lh) (fun e2=> ?_)))))
 obtain ⟨g1,x1⟩:=h1 (by simpa using e1)
 obtain ⟨g2,x2⟩:=h2 (by simpa using e2)
 simp only[Ah]
 have i1:=To Tj f (by decide)
 have i2:=To Tv f (by decide)
 have o1:Sp 24 [] [dI Tj]:=Ag 0 (RO _) (Ac rfl)
 have o2:Sp 25 [] [dI Tv]:=Ag 0 (RP _) (Ac rfl)
 have p1:=Tm f false
 have p2:=Tm f true
 have q1:=CO Tj Tj (by decide)
 have q2:=CO Tv Tv (by decide)
 rw[decide_eq_true rfl]at q1 q2
 have r1:=Adi f a g1
 have r2:=LH f a b g1 g2 (fun _=>x2)
 have n1:=fun h=>Ah3 (f:=f) (a:=a) h
 have n2:=fun h=>Aif (f:=f) (a:=a) (b:=b) h
 simp only[Bool.false_eq_true,if_false,if_true]at p1 p2
 generalize VA f a=u1 at *
 generalize CA f a b=u2 at *
 generalize hm1:decide (f∈Tj)=m1 at *
 generalize hm2:decide (f∈Tv)=m2 at *
 have k1:m1=false→u1.2=8:=fun h=>n1 (of_decide_eq_false (by rw[hm1,h]))
 have k2:m2=false→u2.2=8:=fun h=>n2 (of_decide_eq_false (by rw[hm2,h]))
 refine Aa (Aar f) (Aa (XE f) ?_)
 simp only[Af,Ce,Ah,Al]
 by_cases hw:0≤Lg f
 · rw[decide_eq_true hw,if_pos hw]
   refine Cs (by simp[hw]) (Ba rfl (Cs (by simp) (Cs rfl ?_)))
   refine Aa o1 (Aa i1 (Aa o2 (Aa i2 (Aa p1 (Cs (by simp) (Aa p2 (Cs (by simp) (Aa Xd (Aa o1 (Aa q1 (Cs rfl (Aa Xe (Aa o2 (Aa q2 (Cs rfl (Aa r1 (Aa r2 ?_)))))))))))))))))
   simp only[Af,Ce,Ah,Al]
   cases m1 with
   | true =>
    cases m2 with
    | true=>exact Ba rfl (Ba rfl Lh)
    | false=>exact Ba rfl (Cs rfl (Ba (by rw[k2 rfl];rfl) Lh))
   | false =>
    cases m2 with
    | true=>exact Cs rfl (Ba (by rw[k1 rfl];rfl) (Ba rfl Lh))
    | false=>exact Cs rfl (Ba (by rw[k1 rfl];rfl) (Cs rfl (Ba (by rw[k2 rfl];rfl) Lh)))
 · rw[decide_eq_false hw,if_neg hw]
   refine Cs (by simp[hw]) (Cs rfl (Ba rfl (Cs rfl ?_)))
   refine Aa o1 (Aa i1 (Aa o2 (Aa i2 (Aa p1 (Cs (by simp) (Aa p2 (Cs (by simp) (Aa Xd (Aa o1 (Aa q1 (Cs rfl (Aa Xe (Aa o2 (Aa q2 (Cs rfl (Aa r1 (Aa r2 ?_)))))))))))))))))
   simp only[Af,Ce,Ah,Al]
   cases m1 with
   | true =>
    cases m2 with
    | true=>exact Ba rfl (Ba rfl Lh)
    | false=>exact Ba rfl (Cs rfl (Ba (by rw[k2 rfl];rfl) Lh))
   | false =>
    cases m2 with
    | true=>exact Cs rfl (Ba (by rw[k1 rfl];rfl) (Ba rfl Lh))
    | false=>exact Cs rfl (Ba (by rw[k1 rfl];rfl) (Cs rfl (Ba (by rw[k2 rfl];rfl) Lh)))
open Go.ChangeShapes Go.WideShapes Go.ChangeAt Go.RowKit
set_option maxRecDepth 100000 in
theorem VQ(os:Os)(started:os.Started)(H:Type)(enc:TypeId×Value→H) :
  ReturnsInHanded {} Tryz.checked os 7 .any (Rows.primHasSpec.pre6 enc Tryz.prog Tryz.f7 Rows.primHasRow.domain false) (Rows.primHasSpec.post enc Tryz.prog Tryz.f7 false true false false):=by
 refine returnsInHanded_of_change_sized (C:=Tryz.checked) AkI started (by kernel_rfl) Tryz.func7
  (ChangeSpec.witness6 (enc:=enc) (C:=Tryz.checked) false ⟨#[],#[.int .i64 0,.agg #[.int .u64 0,.slice none 0 0,.slice none 0 0],.agg #[.int .u64 0,.slice none 0 0,.slice none 0 0]],[]⟩ 16 (by kernel_rfl) (by kernel_rfl) (by kernel_rfl) (by kernel_rfl)) ?_
 intro W base args ds gs before hval0 hW hcnd hwt0 _
 have hval : ∀ (j:Nat) t v,Tryz.f7.params[j]? = some t→args[j]? = some v→Value.okWide Tryz.prog W .any base t v:=hval0
 have hW':=hW
 obtain ⟨p,q,hA0,hV,rfl,hfz,hnd⟩:=hW
 have hA:DataW.TrodAll enc Tryz.prog W 0 (fun _=>true) true Tryz.f7.params.toList args.toList ds p:=hA0
 rw[Tryz.params7]at hA hval
 obtain ⟨v0,vs0,d0,ds0,p0,q0,hargs,rfl,rfl,h0,r0⟩:=trodAll_cons hA
 obtain ⟨v1,vs1,d1,ds1,p1,q1,rfl,rfl,rfl,h1,r1⟩:=trodAll_cons r0
 obtain ⟨v2,vs2,d2,ds2,p2,q2,rfl,rfl,rfl,h2,r2⟩:=trodAll_cons r1
 obtain ⟨rfl,rfl,rfl⟩:=trodAll_nil r2
 obtain rfl:args = #[v0,v1,v2]:=by cases args;simp_all
 have hwt : ∀ (j t:Nat) d,(Tryz.f7.params.toList)[j]? = some t→([d0,d1,d2])[j]? = some d→∀ z∈DataW.weights Tryz.prog t d,z≤reachBytes:=fun j t d ht hd z hz=>by
  have hl:=(List.getElem?_eq_some_iff.1 ht).1
  have hl2:=(List.getElem?_eq_some_iff.1 hd).1
  have:=List.all_eq_true.1 hwt0 z (DataW.weights_mem_each (j:=j) (t:=t) (d:=d) (by rw[List.getElem?_append_left hl];exact ht) (by rw[List.getElem?_append_left hl2];exact hd) z hz)
  simpa using this
 obtain ⟨x0,hx0,hr0⟩:=AiB (hval 0 3 v0 rfl rfl) h0
 obtain ⟨x1,hx1,hr1⟩:=Ady (hval 1 26 v1 rfl rfl) h1
 obtain ⟨x2,hx2,hr2⟩:=Ady (hval 2 26 v2 rfl rfl) h2
 refine (AfJ (vs:=[v0,v1,v2]) (AeY x0 x1 x2 hx0 hx1 hx2) Tryz.func7 (by kernel_rfl) (by kernel_rfl) Tryz.underlying4 rfl rfl ?_).mono fun e W' ⟨he,hx⟩=>⟨_,he,Ahf AiU hW' rfl (by kernel_rfl) Tryz.underlying4 rfl (by kernel_rfl) hx⟩
 intro i t x v ht hx hv
 match i with
 | 0=>cases (show some 3=some t from ht);cases hx;cases hv;exact hr0
 | 1=>cases (show some 26=some t from ht);cases hx;cases hv;exact hr1
 | 2=>cases (show some 26=some t from ht);cases hx;cases hv;exact hr2
 | i+3=>cases hx
theorem primHas_holds:Rows.PrimHasSaid :=
 OpenClaim.holds_of_wide 7 Tryz.f7 rfl rfl rfl rfl rfl rfl rfl ⟨rfl,rfl,rfl,rfl,rfl⟩ rfl rfl rfl rfl rfl (by kernel_rfl) Tryz.func7 (by kernel_rfl)
  (of_decide_eq_true (by kernel_rfl)) (by unfold Func.isWrapper;first | (rw[if_pos (by decide +kernel)];kernel_rfl) | (rw[if_neg (by decide +kernel)];exact ⟨rfl,rfl⟩))
  (fun os started H enc _=>VQ os started H enc)
end Go.Proofs.YtokkbgpgaheakaaGreat
