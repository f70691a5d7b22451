import Derived.Test.YtihbnnkcemjflaaGreatDoorH4
import Derived.Test.YtihbnnkcemjflaaGreatDoorChecked
set_option maxRecDepth 100000
set_option linter.unusedSimpArgs false
set_option linter.unusedVariables false
open List
noncomputable section
namespace Go.Dc
open Go Go.Am Go.Proofs Go.eY Go.bH
def nE{α:Type}(p:α->Bool):Nat->List α->Int
 |_,[] => -1
 |k,b::t=>if p b=true then(k:Int)else nE p (k+1) t
theorem MX{α}{p}:∀{v:List α}{k},decide (nE p k v>=0)=v.any p
 |[],_=>rfl
 |b::t,k=>by
  rw[any_cons,nE];cases hp:p b with
  |true=>rw[yL rfl];simp
  |false=>exact MX
def dtt(x:TL):D:=(x.1,x.2.1)
def dtc(x:Sq.CE):D:=(x.dv,x.sq)
def dtb(x:Bd.BE):D:=(x.dv,x.sq)
def dtm(x:Tx.MK):D:=(x.dv,x.sq)
theorem ajO x:Cq 114 [.agg (ze x)] (eG (dtt x)):=aj []
theorem ajP x:Cq 108 [.agg (Sq.aQ x)] (eG (dtc x)):=aj []
theorem ajQ x:Cq 111 [.agg (Bd.aQ x)] (eG (dtb x)):=aj []
theorem ajR x:Cq 117 [.agg (Tx.aQ x)] (eG (dtm x)):=aj []
abbrev CvQ(s F A B I C:Nat):Prop:=(s=3/\F=113/\A=114/\B=154/\I=194/\C=153)\/(s=9/\F=107/\A=108/\B=147/\I=186/\C=146)\/(s=5/\F=110/\A=111/\B=151/\I=193/\C=150)\/(s=11/\F=116/\A=117/\B=159/\I=196/\C=158)
abbrev MZ(A:Nat)(v:List D):List ah:=[.box [bB v],.box [gP A]]
abbrev cfF(B:Nat):AV:=.fn (.func B) [] [.ptr 0 0,.ptr 1 0]
abbrev slF{α:Type}(E:α->List AV)(s:Nat)(l:List α):AV:=.sl s false (l.map E)
def ixF{α}(E:α->List AV)(s A B:Nat)(l:List α)(v:List D)(k:Nat):St:={ aL:=aC 19 [(0,slF E s l),(1,cfF B),(4,int 0),(6,slF E s l),(7,int l.length),(8,int k)],H:=MZ A v }
structure CvW{α:Type}(E:α->List AV)(d:α->D)(s A B I:Nat):Prop where
 cl:∀(x:α)(v:List D),v.length<=1000000000->ak P G B [.agg (E x),.ptr 0 0,.ptr 1 0] (MZ A v) (.ret (Am.bool (!cZ v (d x)))) (MZ A v)
 n:∀(l:List α)(v:List D)(k:Nat)(x:α),l.length<=1000000->(k:Int)<(l.length:Int)->l[k]?=some x->ak P G B [.agg (E x),.ptr 0 0,.ptr 1 0] (MZ A v) (.ret (Am.bool false)) (MZ A v)->∀(ex:bF)(s':St),Rq 2 I 0 (ixF E s A B l v (k+1)) ex s'->Rq 2 I 0 (ixF E s A B l v k) ex s'
 y:∀(l:List α)(v:List D)(k:Nat)(x:α),l.length<=1000000->(k:Int)<(l.length:Int)->l[k]?=some x->ak P G B [.agg (E x),.ptr 0 0,.ptr 1 0] (MZ A v) (.ret (Am.bool true)) (MZ A v)->Rq 2 I 0 (ixF E s A B l v k) bF.ret (St.mk (aC 19 [(4,int ↑k)]) (MZ A v) [])
section
variable {α:Type} {E:α->List AV} {d:α->D} {s F A B I C:Nat} (q:CvQ s F A B I C) (w:CvW E d s A B I)
include q
theorem ajS(l:List α)v(k:Nat)(hk:¬k<(l.length:Int)):Rq 2 I 0 (ixF E s A B l v k) (bF.exit 0) (St.mk (aC 19 []) (MZ A v) []):=by
 rcases q with⟨rfl,rfl,rfl,rfl,rfl,rfl⟩|⟨rfl,rfl,rfl,rfl,rfl,rfl⟩|⟨rfl,rfl,rfl,rfl,rfl,rfl⟩|⟨rfl,rfl,rfl,rfl,rfl,rfl⟩<;>exact aG [kj ((k:Int)<l.length)] (aB 19 []) 2
theorem ifF l(v:List D)i(ex:bF)s'(hL:Rq 2 I 0 (ixF E s A B l v 0) ex s')(h:(ex = .exit 0/\s'={ aL:=aC 19 [],H:=MZ A v }/\i = -1)\/(ex = .ret/\s'={ aL:=aC 19 [(4,int i)],H:=MZ A v })):ak P G I [slF E s l,cfF B] (MZ A v) (aS.ret (int i)) (MZ A v):=by
 rcases h with⟨rfl,rfl,rfl⟩|⟨rfl,rfl⟩<;>rcases q with⟨rfl,rfl,rfl,rfl,rfl,rfl⟩|⟨rfl,rfl,rfl,rfl,rfl,rfl⟩|⟨rfl,rfl,rfl,rfl,rfl,rfl⟩|⟨rfl,rfl,rfl,rfl,rfl,rfl⟩<;>exact aj [kN 7 (show(l.map E).length=l.length from y13 E),kl (rG [(2,2),(5,1),(9,10)]) 2 hL]
theorem coF l(v:List D)i(hI:ak P G I [slF E s l,cfF B] (MZ A v) (.ret (int i)) (MZ A v)):Cq F [slF E s l,bB v,gP A] (Am.bool !decide (i>=0)):=by
 have h:ak P G C [slF E s l,cfF B] (MZ A v) (aS.ret (Am.bool (decide (i>=0)))) (MZ A v):=by
  rcases q with⟨rfl,rfl,rfl,rfl,rfl,rfl⟩|⟨rfl,rfl,rfl,rfl,rfl,rfl⟩|⟨rfl,rfl,rfl,rfl,rfl,rfl⟩|⟨rfl,rfl,rfl,rfl,rfl,rfl⟩<;>exact aj [kc [0,1] hI]
 rcases q with⟨rfl,rfl,rfl,rfl,rfl,rfl⟩|⟨rfl,rfl,rfl,rfl,rfl,rfl⟩|⟨rfl,rfl,rfl,rfl,rfl,rfl⟩|⟨rfl,rfl,rfl,rfl,rfl,rfl⟩<;>exact aj [kc [0,1] h]
include w
theorem ajT(l:List α)v(hl:l.length<=1000000)(hv:v.length<=1000000000):∀n k,l.length-k=n->k<=l.length->∃(i:Int)(ex:bF)(s':St),nE (fun x=>!cZ v (d x)) k (l.drop k)=i/\Rq 2 I 0 (ixF E s A B l v k) ex s'/\((ex = .exit 0/\s'={ aL:=aC 19 [],H:=MZ A v }/\i = -1)\/(ex = .ret/\s'={ aL:=aC 19 [(4,int i)],H:=MZ A v })):=by
 intro n
 induction n with
 |zero =>
  intro k hk LB;rw[y21 zO];exact⟨_,_,_,rfl,ajS q l v k zO,.inl ⟨rfl,rfl,rfl⟩⟩
 |succ n ih =>
  intro k hk LB;have bg:k<l.length:=zO
  have hx:=yA bg;have hc:=w.cl l[k] v hv;rw[y01 bg,nE];cases e:cZ v (d l[k])with
  |false =>
   rw[e]at hc;exact⟨k,_,_,zS,w.y l v k _ hl zO hx hc,.inr ⟨rfl,rfl⟩⟩
  |true =>
   rw[e]at hc;obtain⟨i,ex,s',h1,h2,h3⟩:=ih (k+1) zO zO;exact⟨i,ex,s',h1,w.n l v k _ hl zO hx hc _ _ h2,h3⟩
theorem M4(l:List α)v(hl:l.length<=1000000)(hv:v.length<=1000000000):Cq F [slF E s l,bB v,gP A] (Am.bool (l.all fun x=>cZ v (d x))):=by
 obtain⟨i,ex,s',rfl,h2,h3⟩:=ajT q w l v hl hv _ 0 rfl yN;have h:=coF q l v _ (ifF q l v _ ex s' h2 h3);rw[MX,<- not_all_eq_any_not,Bool.not_not]at h;exact h
end
theorem cwt:CvW ze dtt 3 114 154 194 :=
 ⟨fun x v hv=>aj [kc [] (ajO x),kc [] (bH.jX v (dtt x).1 (dtt x).2 hv)],fun l v k x hl hk hx hC ex s' h=>aJ [ki ((k:Int)<l.length),ke (ze x) (l.map ze) k (bG hx),kc [0,1] hC,kY,kW 18 (k+1) ↑(k+1)] (aB 19 [0,1,4,6,7,8]) 2 h,fun l v k x hl hk hx hC=>aG [ki ((k:Int)<l.length),ke (ze x) (l.map ze) k (bG hx),kc [0,1] hC,kO] (aB 19 [4]) 2⟩
theorem cwc:CvW Sq.aQ dtc 9 108 147 186 :=
 ⟨fun x v hv=>aj [kc [] (ajP x),kc [] (bH.jX v (dtc x).1 (dtc x).2 hv)],fun l v k x hl hk hx hC ex s' h=>aJ [ki ((k:Int)<l.length),ke (Sq.aQ x) (l.map Sq.aQ) k (bG hx),kc [0,1] hC,kY,kW 18 (k+1) ↑(k+1)] (aB 19 [0,1,4,6,7,8]) 2 h,fun l v k x hl hk hx hC=>aG [ki ((k:Int)<l.length),ke (Sq.aQ x) (l.map Sq.aQ) k (bG hx),kc [0,1] hC,kO] (aB 19 [4]) 2⟩
theorem cwb:CvW Bd.aQ dtb 5 111 151 193 :=
 ⟨fun x v hv=>aj [kc [] (ajQ x),kc [] (bH.jX v (dtb x).1 (dtb x).2 hv)],fun l v k x hl hk hx hC ex s' h=>aJ [ki ((k:Int)<l.length),ke (Bd.aQ x) (l.map Bd.aQ) k (bG hx),kc [0,1] hC,kY,kW 18 (k+1) ↑(k+1)] (aB 19 [0,1,4,6,7,8]) 2 h,fun l v k x hl hk hx hC=>aG [ki ((k:Int)<l.length),ke (Bd.aQ x) (l.map Bd.aQ) k (bG hx),kc [0,1] hC,kO] (aB 19 [4]) 2⟩
theorem cwm:CvW Tx.aQ dtm 11 117 159 196 :=
 ⟨fun x v hv=>aj [kc [] (ajR x),kc [] (bH.jX v (dtm x).1 (dtm x).2 hv)],fun l v k x hl hk hx hC ex s' h=>aJ [ki ((k:Int)<l.length),ke (Tx.aQ x) (l.map Tx.aQ) k (bG hx),kc [0,1] hC,kY,kW 18 (k+1) ↑(k+1)] (aB 19 [0,1,4,6,7,8]) 2 h,fun l v k x hl hk hx hC=>aG [ki ((k:Int)<l.length),ke (Tx.aQ x) (l.map Tx.aQ) k (bG hx),kc [0,1] hC,kO] (aB 19 [4]) 2⟩
theorem afy l(v:List D)(hl:l.length<=1000000)(hv:v.length<=1000000000):Cq 113 [mF l,bB v,gP 114] (Am.bool (l.all fun x=>cZ v (dtt x))):=M4        (C:=153) zD cwt l v hl hv
theorem X5 l(v:List D)(hl:l.length<=1000000)(hv:v.length<=1000000000):Cq 107 [Sq.bZ l,bB v,gP 108] (Am.bool (l.all fun x=>cZ v (dtc x))):=M4        (C:=146) zD cwc l v hl hv
theorem afx l(v:List D)(hl:l.length<=1000000)(hv:v.length<=1000000000):Cq 110 [Bd.iK l,bB v,gP 111] (Am.bool (l.all fun x=>cZ v (dtb x))):=M4        (C:=150) zD cwb l v hl hv
theorem afz l(v:List D)(hl:l.length<=1000000)(hv:v.length<=1000000000):Cq 116 [Tx.oI l,bB v,gP 117] (Am.bool (l.all fun x=>cZ v (dtm x))):=M4        (C:=158) zD cwm l v hl hv
structure FD where
 pk:Int
 pn:yP
 ce:List Sq.CE
 bi:List Bd.BE
 ta:List TL
 tc:List Sq.CE
 tm:List Tx.MK
 deriving DecidableEq
def jB(f:FD):List AV:=[int f.pk,str f.pn,Sq.bZ f.ce,Bd.iK f.bi,mF f.ta,Sq.bZ f.tc,Tx.oI f.tm]
abbrev pt(k:Int)(n:yP):AV:=.agg [int k,str n]
theorem aiM(f:FD)(v:List D)(e:Int)(b:Bool)(hk:f.pk=1)(hc:f.ce.length<=1000000)(h2:f.bi.length<=1000000)(h3:f.ta.length<=1000000)(h4:f.tc.length<=1000000)(h5:f.tm.length<=1000000)(hS:Cq 106 [Sq.bZ f.ce] (int e))(hC:Cq 107 [Sq.bZ f.ce,bB v,gP 108] (Am.bool b))(r:Bool)(h:(((e=0)->((((b)=true)->((((↑(ByteArray.size f.pn):Int)<=64)->((↑(0+length f.bi+length f.ta+length f.tc+length f.tm):Int)==0)=(r))/\((¬(↑(ByteArray.size f.pn):Int)<=64)->(false)=(r))))/\(((b)=false)->(false)=(r))))/\((¬e=0)->(false)=(r)))):Cq 81 [.agg (jB f),bB v] (Am.bool r):=by
 have bS:(f.pk==1)=true:=(qT zO);by_cases c2:(e=0)
 .have h:=h.1 c2;let l1:List fP:=[kt bS,kc [] hS,kt (nW.2 c2),kc [] hC];rcases y00 ((b))with c3|c3
  .have h:=h.1 c3;by_cases c4:((↑(ByteArray.size f.pn):Int)<=64)
   .have h:=h.1 c4;exact aA (aF.aI h) (l1++[kt c3,kt (qT c4),kv 86 (show Am.aF (int (↑(length (Bd.au f.bi)):Int)) (int ↑(length f.bi))from(aF.of_eq (by simp only[Go.Bd.ay]))),kW 87 ((0:Int)+(↑(length f.bi):Int)) (↑(0+length f.bi):Int),kN 90 (dP f.ta),kW 91 ((↑(0+length f.bi):Int)+(↑(length f.ta):Int)) (↑(0+length f.bi+length f.ta):Int),kv 95 (show Am.aF (int (↑(length (Sq.au f.tc)):Int)) (int ↑(length f.tc))from(aF.of_eq (by simp only[Go.Sq.ay]))),kW 96 ((↑(0+length f.bi+length f.ta):Int)+(↑(length f.tc):Int)) (↑(0+length f.bi+length f.ta+length f.tc):Int),kv 100 (show Am.aF (int (↑(length (Tx.au f.tm)):Int)) (int ↑(length f.tm))from(aF.of_eq (by simp only[Go.Tx.ay]))),kW 101 ((↑(0+length f.bi+length f.ta+length f.tc):Int)+(↑(length f.tm):Int)) (↑(0+length f.bi+length f.ta+length f.tc+length f.tm):Int)])
   .have h:=h.2 c4;exact aA (aF.aI h) (l1++[kt c3,kf (qF c4)])
  .have h:=h.2 c3;exact aA (aF.aI h) (l1++[kf c3,kY])
 .have h:=h.2 c2;exact aA (aF.aI h) [kt bS,kc [] hS,kf (qN.2 c2),kY,kY]
theorem aiN(f:FD)(v:List D)(e:Int)(b:Bool)(hk:f.pk=2)(hc:f.ce.length<=1000000)(h2:f.bi.length<=1000000)(h3:f.ta.length<=1000000)(h4:f.tc.length<=1000000)(h5:f.tm.length<=1000000)(hS:Cq 109 [Bd.iK f.bi] (int e))(hC:Cq 110 [Bd.iK f.bi,bB v,gP 111] (Am.bool b))(r:Bool)(h:(((e=0)->((((b)=true)->((((↑(ByteArray.size f.pn):Int)<=64)->((↑(length f.ce+0+length f.ta+length f.tc+length f.tm):Int)==0)=(r))/\((¬(↑(ByteArray.size f.pn):Int)<=64)->(false)=(r))))/\(((b)=false)->(false)=(r))))/\((¬e=0)->(false)=(r)))):Cq 81 [.agg (jB f),bB v] (Am.bool r):=by
 let l1:List fP:=[kf (show(f.pk==1)=false from(qF zO)),kt (show(f.pk==2)=true from(qT zO)),kc [] hS];by_cases c3:(e=0)
 .have h:=h.1 c3;rcases y00 ((b))with c4|c4
  .have h:=h.1 c4;by_cases c5:((↑(ByteArray.size f.pn):Int)<=64)
   .have h:=h.1 c5;exact aA (aF.aI h) (l1++[kt (nW.2 c3),kc [] hC,kt c4,kt (qT c5),kv 83 (show Am.aF (int (↑(length (Sq.au f.ce)):Int)) (int ↑(length f.ce))from(aF.of_eq (by simp only[Go.Sq.ay]))),kW 87 ((↑(length f.ce):Int)+(0:Int)) (↑(length f.ce+0):Int),kN 90 (dP f.ta),kW 91 ((↑(length f.ce+0):Int)+(↑(length f.ta):Int)) (↑(length f.ce+0+length f.ta):Int),kv 95 (show Am.aF (int (↑(length (Sq.au f.tc)):Int)) (int ↑(length f.tc))from(aF.of_eq (by simp only[Go.Sq.ay]))),kW 96 ((↑(length f.ce+0+length f.ta):Int)+(↑(length f.tc):Int)) (↑(length f.ce+0+length f.ta+length f.tc):Int),kv 100 (show Am.aF (int (↑(length (Tx.au f.tm)):Int)) (int ↑(length f.tm))from(aF.of_eq (by simp only[Go.Tx.ay]))),kW 101 ((↑(length f.ce+0+length f.ta+length f.tc):Int)+(↑(length f.tm):Int)) (↑(length f.ce+0+length f.ta+length f.tc+length f.tm):Int)])
   .have h:=h.2 c5;exact aA (aF.aI h) (l1++[kt (nW.2 c3),kc [] hC,kt c4,kf (qF c5)])
  .have h:=h.2 c4;exact aA (aF.aI h) (l1++[kt (nW.2 c3),kc [] hC,kf c4,kY])
 .have h:=h.2 c3;exact aA (aF.aI h) (l1++[kf (qN.2 c3),kY,kY])
theorem aiO(f:FD)(v:List D)(e:Int)(b:Bool)(hk:f.pk=3)(hc:f.ce.length<=1000000)(h2:f.bi.length<=1000000)(h3:f.ta.length<=1000000)(h4:f.tc.length<=1000000)(h5:f.tm.length<=1000000)(hS:Cq 112 [mF f.ta] (int e))(hC:Cq 113 [mF f.ta,bB v,gP 114] (Am.bool b))(r:Bool)(h:(((e=0)->((((b)=true)->((((↑(ByteArray.size f.pn):Int)<=64)->((↑(length f.ce+length f.bi+0+length f.tc+length f.tm):Int)==0)=(r))/\((¬(↑(ByteArray.size f.pn):Int)<=64)->(false)=(r))))/\(((b)=false)->(false)=(r))))/\((¬e=0)->(false)=(r)))):Cq 81 [.agg (jB f),bB v] (Am.bool r):=by
 let l1:List fP:=[kf (show(f.pk==1)=false from(qF zO)),kf (show(f.pk==2)=false from(qF zO)),kt (show(f.pk==3)=true from(qT zO)),kc [] hS];by_cases c4:(e=0)
 .have h:=h.1 c4;rcases y00 ((b))with c5|c5
  .have h:=h.1 c5;by_cases c6:((↑(ByteArray.size f.pn):Int)<=64)
   .have h:=h.1 c6;exact aA (aF.aI h) (l1++[kt (nW.2 c4),kc [] hC,kt c5,kt (qT c6),kv 83 (show Am.aF (int (↑(length (Sq.au f.ce)):Int)) (int ↑(length f.ce))from(aF.of_eq (by simp only[Go.Sq.ay]))),kv 86 (show Am.aF (int (↑(length (Bd.au f.bi)):Int)) (int ↑(length f.bi))from(aF.of_eq (by simp only[Go.Bd.ay]))),kW 87 ((↑(length f.ce):Int)+(↑(length f.bi):Int)) (↑(length f.ce+length f.bi):Int),kW 91 ((↑(length f.ce+length f.bi):Int)+(0:Int)) (↑(length f.ce+length f.bi+0):Int),kv 95 (show Am.aF (int (↑(length (Sq.au f.tc)):Int)) (int ↑(length f.tc))from(aF.of_eq (by simp only[Go.Sq.ay]))),kW 96 ((↑(length f.ce+length f.bi+0):Int)+(↑(length f.tc):Int)) (↑(length f.ce+length f.bi+0+length f.tc):Int),kv 100 (show Am.aF (int (↑(length (Tx.au f.tm)):Int)) (int ↑(length f.tm))from(aF.of_eq (by simp only[Go.Tx.ay]))),kW 101 ((↑(length f.ce+length f.bi+0+length f.tc):Int)+(↑(length f.tm):Int)) (↑(length f.ce+length f.bi+0+length f.tc+length f.tm):Int)])
   .have h:=h.2 c6;exact aA (aF.aI h) (l1++[kt (nW.2 c4),kc [] hC,kt c5,kf (qF c6)])
  .have h:=h.2 c5;exact aA (aF.aI h) (l1++[kt (nW.2 c4),kc [] hC,kf c5,kY])
 .have h:=h.2 c4;exact aA (aF.aI h) (l1++[kf (qN.2 c4),kY,kY])
theorem aiP(f:FD)(v:List D)(e:Int)(b c:Bool)(hk:f.pk=4)(hc:f.ce.length<=1000000)(h2:f.bi.length<=1000000)(h3:f.ta.length<=1000000)(h4:f.tc.length<=1000000)(h5:f.tm.length<=1000000)(hS:Cq 115 [.agg [Sq.bZ f.tc,Tx.oI f.tm]] (int e))(hC:Cq 107 [Sq.bZ f.tc,bB v,gP 108] (Am.bool b))(hM:Cq 116 [Tx.oI f.tm,bB v,gP 117] (Am.bool c))(r:Bool)(h:(((e=0)->((((b)=true)->((((c)=true)->((((↑(ByteArray.size f.pn):Int)<=64)->((↑(length f.ce+length f.bi+length f.ta+0+0):Int)==0)=(r))/\((¬(↑(ByteArray.size f.pn):Int)<=64)->(false)=(r))))/\(((c)=false)->(false)=(r))))/\(((b)=false)->(false)=(r))))/\((¬e=0)->(false)=(r)))):Cq 81 [.agg (jB f),bB v] (Am.bool r):=by
 let l1:List fP:=[kf (show(f.pk==1)=false from(qF zO)),kf (show(f.pk==2)=false from(qF zO)),kf (show(f.pk==3)=false from(qF zO)),kt (show(f.pk==4)=true from(qT zO)),kc [] hS];by_cases c5:(e=0)
 .have h:=h.1 c5;let l2:List fP:=l1++[kt (nW.2 c5),kc [] hC];rcases y00 ((b))with c6|c6
  .have h:=h.1 c6;rcases y00 ((c))with c7|c7
   .have h:=h.1 c7;by_cases c8:((↑(ByteArray.size f.pn):Int)<=64)
    .have h:=h.1 c8;exact aA (aF.aI h) (l2++[kt c6,kc [] hM,kt c7,kt (qT c8),kv 83 (show Am.aF (int (↑(length (Sq.au f.ce)):Int)) (int ↑(length f.ce))from(aF.of_eq (by simp only[Go.Sq.ay]))),kv 86 (show Am.aF (int (↑(length (Bd.au f.bi)):Int)) (int ↑(length f.bi))from(aF.of_eq (by simp only[Go.Bd.ay]))),kW 87 ((↑(length f.ce):Int)+(↑(length f.bi):Int)) (↑(length f.ce+length f.bi):Int),kN 90 (dP f.ta),kW 91 ((↑(length f.ce+length f.bi):Int)+(↑(length f.ta):Int)) (↑(length f.ce+length f.bi+length f.ta):Int),kW 96 ((↑(length f.ce+length f.bi+length f.ta):Int)+(0:Int)) (↑(length f.ce+length f.bi+length f.ta+0):Int),kW 101 ((↑(length f.ce+length f.bi+length f.ta+0):Int)+(0:Int)) (↑(length f.ce+length f.bi+length f.ta+0+0):Int)])
    .have h:=h.2 c8;exact aA (aF.aI h) (l2++[kt c6,kc [] hM,kt c7,kf (qF c8)])
   .have h:=h.2 c7;exact aA (aF.aI h) (l2++[kt c6,kc [] hM,kf c7,kY])
  .have h:=h.2 c6;exact aA (aF.aI h) (l2++[kf c6,kY,kY])
 .have h:=h.2 c5;exact aA (aF.aI h) (l1++[kf (qN.2 c5),kY,kY,kY])
theorem aiQ(f:FD)v(k1:¬f.pk=1)(k2:¬f.pk=2)(k3:¬f.pk=3)(k4:¬f.pk=4)(hc:f.ce.length<=1000000)(h2:f.bi.length<=1000000)(h3:f.ta.length<=1000000)(h4:f.tc.length<=1000000)(h5:f.tm.length<=1000000)(h:True):Cq 81 [.agg (jB f),bB v] (Am.bool false):=by
 exact aj [kf (show(f.pk==1)=false from(qF zO)),kf (show(f.pk==2)=false from(qF zO)),kf (show(f.pk==3)=false from(qF zO)),kf (qF zO),kY,kY]
structure DO where
 sn:List D
 fs:List FD
 deriving DecidableEq
def dA(l:List FD):List (List AV):=l.map jB
def Md(l:List FD):AV:=.sl 7 false (dA l)
def kI(d:DO):AV:=.agg [bB d.sn,Md d.fs]
theorem fE l:(dA l).length=l.length:=by simp[dA]
theorem amM d(hV:Cq 46 [bB d.sn] (int 120))(h:True):Cq 50 [kI d] (int 180):=by
 exact aj [kc [] hV,kO]
def dkS(d:DO)(k:Nat):St:={ aL:=aC 40 [(1,.ptr 0 0),(2,int 0),(10,Md d.fs),(11,int d.fs.length),(12,int k)],H:=[.box [bB d.sn,Md d.fs]] }
theorem amH d(k:Nat)(hk:¬k<(d.fs.length:Int))(h:True):Rq 0 50 0 (dkS d k) (bF.exit 0) (sM 40 [(2,int 0)] [.box [bB d.sn,Md d.fs]]):=by
 exact aG [kj ((k:Int)<↑(length d.fs))] (aB 40 [2]) 1
theorem amI d(k:Nat)f(hl:d.fs.length<=1000000)(hk:k<(d.fs.length:Int))(hx:d.fs[k]?=some f)(hV:Cq 81 [.agg (jB f),bB d.sn] (Am.bool false))(h:True):Rq 0 50 0 (dkS d k) bF.ret (sM 40 [(2,int 180)] [.box [bB d.sn,Md d.fs]]):=by
 exact aG [ki ((k:Int)<(↑(length d.fs):Int)),ke (jB f) (dA d.fs) k (bG hx),kc [] hV,kO,kO] (aB 40 [2]) 1
theorem aiR(d:DO)f(hl:d.fs.length<=1000000)(hk:0<(d.fs.length:Int))(hx:d.fs[0]?=some f)(hV:Cq 81 [.agg (jB f),bB d.sn] (Am.bool true))ex(s':St)(h:Rq 0 50 0 (sM 40 [(1,.ptr 0 0),(2,int 0),(10,.sl 7 false (dA d.fs)),(11,int ↑(length d.fs)),(12,int 1)] [.box [bB d.sn,.sl 7 false (dA d.fs)]]) ex s'):Rq 0 50 0 (dkS d 0) ex s':=by
 exact aJ [ki ((0:Int)<(↑(length d.fs):Int)),ke (jB f) (dA d.fs) (0:Int) (bG hx),kc [] hV,kY,kY,kY] (aB 40 [1,2,10,11,12]) 1 h
theorem aiT(d:DO)(k:Nat)(f g:FD)(c:Int)(hc:¬c>=0)(hl:d.fs.length<=1000000)(hk:((k+1:Nat):Int)<(d.fs.length:Int))(hx:d.fs[k+1]?=some f)(hy:d.fs[k]?=some g)(hV:Cq 81 [.agg (jB f),bB d.sn] (Am.bool true))(hP:∀g':FD,d.fs[k]?=some g'->Cq 56 [pt g'.pk g'.pn,pt f.pk f.pn] (int c))(ex:bF)(s':St)(h:(∃x3:FD,((0:Int)<=(↑(k+1):Int)-1/\d.fs[Int.toNat ((↑(k+1):Int)-1)]?=some x3)/\((d.fs[k]?=some x3)/\Rq 0 50 0 (sM 40 [(1,.ptr 0 0),(2,int 0),(10,.sl 7 false (dA d.fs)),(11,int ↑(length d.fs)),(12,int ↑(k+1+1))] [.box [bB d.sn,.sl 7 false (dA d.fs)]]) ex s'))):Rq 0 50 0 (dkS d (k+1)) ex s':=by
 obtain⟨x3,o4,h⟩:=h;obtain⟨o5,h⟩:=h;exact aJ [ki ((↑(k+1):Int)<(↑(length d.fs):Int)),ke (jB f) (dA d.fs) (↑(k+1):Int) (bG hx),kc [] hV,kY,ki ((↑(k+1):Int)>0),kW 29 ((↑(k+1):Int)-1) ((↑(k+1):Int)-1),ko (bC.elem (jB x3)),kp (show(0:Int)<=(↑(k+1):Int)-1/\(dA d.fs)[Int.toNat ((↑(k+1):Int)-1)]?=some (jB x3)from(qU o4)),kc [] (@hP (x3) o5),kj (c>=0),kW 39 ((↑(k+1):Int)+1) (↑(k+1+1):Int)] (aB 40 [1,2,10,11,12]) 1 h
theorem amJ(d:DO)k(f g:FD)c(hc:c>=0)(hl:d.fs.length<=1000000)(hk:((k+1:Nat):Int)<d.fs.length)(hx:d.fs[k+1]?=some f)(hy:d.fs[k]?=some g)(hV:Cq 81 [.agg (jB f),bB d.sn] (Am.bool true))(hP:∀g':FD,d.fs[k]?=some g'->Cq 56 [pt g'.pk g'.pn,pt f.pk f.pn] (int c))(ex:bF)s'(h:(∃x3:FD,(0<=(↑(k+1):Int)-1/\d.fs[Int.toNat (↑(k+1)-1)]?=some x3)/\((d.fs[k]?=some x3)/\(bF.ret=ex)/\(sM 40 [(2,int 180)] [.box [bB d.sn,.sl 7 false (dA d.fs)]]=s')))):Rq 0 50 0 (dkS d (k+1)) ex s':=by
 obtain⟨x3,o4,h⟩:=h;obtain⟨o5,h⟩:=h;obtain⟨eX,eS⟩:=h;exact bN.to ((aG [ki ((↑(k+1):Int)<(↑(length d.fs):Int)),ke (jB f) (dA d.fs) (↑(k+1):Int) (bG hx),kc [] hV,kY,ki ((↑(k+1):Int)>0),kW 29 ((↑(k+1):Int)-1) ((↑(k+1):Int)-1),ko (bC.elem (jB x3)),kp (show(0:Int)<=(↑(k+1):Int)-1/\(dA d.fs)[Int.toNat ((↑(k+1):Int)-1)]?=some (jB x3)from(qU o4)),kc [] (@hP (x3) o5),ki (c>=0)] (aB 40 [2]) 1)) eX (eB.of_eq eS)
theorem amK d(hV:Cq 46 [bB d.sn] (int 0))(hL:Rq 0 50 0 (dkS d 0) (.exit 0) { aL:=aC 40 [(2,int 0)],H:=[.box [bB d.sn,Md d.fs]] })(h:True):Cq 50 [kI d] (int 0):=by
 exact aj [kc [] hV,kY,kN 11 (fE d.fs),kl (rG [(0,1),(3,7),(13,27)]) 1 hL]
theorem amL d(hV:Cq 46 [bB d.sn] (int 0))(hL:Rq 0 50 0 (dkS d 0) .ret { aL:=aC 40 [(2,int 180)],H:=[.box [bB d.sn,Md d.fs]] })(h:True):Cq 50 [kI d] (int 180):=by
 exact aj [kc [] hV,kY,kN 11 (fE d.fs),kl (rG [(0,1),(3,7),(13,27)]) 1 hL]
theorem anr a b(s t:yP)x y z(hI:Cq 87 [int a,int b] (int x))(hS:Cq 88 [str s,str t] (int y))(hO:Cq 86 [.sl 1 true [[int x],[int y]]] (int z))(h:True):Cq 56 [pt a s,pt b t] (int z):=by
 exact aj [kc [] hI,kc [] hS,kc [] hO]
theorem afA(o:bV.OP)v(e:Int)(hW:Cq 29 [bB o.cx,eG (o.dv,IntKind.wrap IntKind.i64 (o.sq-1))] (.bq [bB v,int e]))r(h:(((e=0)->(v)=(r))/\((¬e=0)->o.cx=(r)))):Cq 258 [bV.op o] (bB r):=by
 by_cases c1:(e=0)
 .have h:=h.1 c1;have e1:=h;exact ak.out ((show Cq 258 [bV.op o] (.sl 2 false (au v))from aj [kc [] hW,kf (((y32 (nW.2 c1))))])) (aF.GJ (yJ (List.map aQ) e1))
 .have h:=h.2 c1;have e1:=h;exact ak.out ((show Cq 258 [bV.op o] (.sl 2 false (au o.cx))from aj [kc [] hW,kt (((y32 (qN.2 c1))))])) (aF.GJ (yJ (List.map aQ) e1))
theorem Dx l(k:Nat)f:(dA l).set k (jB f)=dA (l.set k f):=by simp[dA]
theorem fK l:∀x∈dA l,AV.aM [] x=true:=by
 intro c hc;obtain⟨d,_,rfl⟩:=yG.1 hc;rfl
abbrev NY(c:List Sq.CE)(m:List Tx.MK):AV:=.agg [Sq.bZ c,Tx.oI m]
theorem ajU l(k g:Nat)f(hk:k<l.length)(hx:l[k]?=some f)x(h:[ah.aN g 7 false (List.set (dA l) k [int f.pk,str f.pn,AV.sl 9 false (Sq.au x),AV.sl 5 false (Bd.au f.bi),AV.sl 3 false (lH f.ta),AV.sl 9 false (Sq.au f.tc),AV.sl 11 false (Tx.au f.tm)])]=[ah.aN g 7 false (dA (List.set l k (FD.mk f.pk f.pn x f.bi f.ta f.tc f.tm)))]):ak P G 253 [.jC 0 g k 2,Sq.bZ x,int 0] [ah.aN g 7 false (dA l)] (aS.ret (int 0)) [ah.aN g 7 false (dA (List.set l k (FD.mk f.pk f.pn x f.bi f.ta f.tc f.tm)))]:=by
 have bS:g=g:=(rfl);have eH:=h;exact ak.heap ((aj [kO,ko (bC.elem (jB f)),kp bS,kp bS,kp (show(dA l)[k]?=some (jB f)from(iN hx))])) eH
theorem ajV l(k g:Nat)f(hk:k<l.length)(hx:l[k]?=some f)x(e:Int)(he:¬e=0)(h:True):ak P G 253 [.jC 0 g k 2,Sq.bZ x,int e] [ah.aN g 7 false (dA l)] (aS.ret (int e)) [ah.aN g 7 false (dA l)]:=by
 exact aj [kf (qF zO)]
theorem aei l(k g:Nat)f(hk:k<l.length)(hx:l[k]?=some f)x(e:Int):ak P G 253 [.jC 0 g k 2,Sq.bZ x,int e] [.aN g 7 false (dA l)] (.ret (int e)) [.aN g 7 false (dA (if e=0 then l.set k { f with ce:=x }else l))]:=by
 by_cases he:e=0
 .subst he;exact ajU l k g f hk hx x (by rw[<- Dx];rfl)
 .rw [yK he];exact ajV l k g f hk hx x e he trivial
theorem ajW l(k g:Nat)f(hk:k<l.length)(hx:l[k]?=some f)x(h:[ah.aN g 7 false (List.set (dA l) k [int f.pk,str f.pn,AV.sl 9 false (Sq.au f.ce),AV.sl 5 false (Bd.au x),AV.sl 3 false (lH f.ta),AV.sl 9 false (Sq.au f.tc),AV.sl 11 false (Tx.au f.tm)])]=[ah.aN g 7 false (dA (List.set l k (FD.mk f.pk f.pn f.ce x f.ta f.tc f.tm)))]):ak P G 259 [.jC 0 g k 3,Bd.iK x,int 0] [ah.aN g 7 false (dA l)] (aS.ret (int 0)) [ah.aN g 7 false (dA (List.set l k (FD.mk f.pk f.pn f.ce x f.ta f.tc f.tm)))]:=by
 have bS:g=g:=(rfl);have eH:=h;exact ak.heap ((aj [kO,ko (bC.elem (jB f)),kp bS,kp bS,kp (show(dA l)[k]?=some (jB f)from(iN hx))])) eH
theorem ajX l(k g:Nat)f(hk:k<l.length)(hx:l[k]?=some f)x(e:Int)(he:¬e=0)(h:True):ak P G 259 [.jC 0 g k 3,Bd.iK x,int e] [ah.aN g 7 false (dA l)] (aS.ret (int e)) [ah.aN g 7 false (dA l)]:=by
 exact aj [kf (qF zO)]
theorem aej l(k g:Nat)f(hk:k<l.length)(hx:l[k]?=some f)x(e:Int):ak P G 259 [.jC 0 g k 3,Bd.iK x,int e] [.aN g 7 false (dA l)] (.ret (int e)) [.aN g 7 false (dA (if e=0 then l.set k { f with bi:=x }else l))]:=by
 by_cases he:e=0
 .subst he;exact ajW l k g f hk hx x (by rw[<- Dx];rfl)
 .rw [yK he];exact ajX l k g f hk hx x e he trivial
theorem ajY l(k g:Nat)f(hk:k<l.length)(hx:l[k]?=some f)x(h:[ah.aN g 7 false (List.set (dA l) k [int f.pk,str f.pn,AV.sl 9 false (Sq.au f.ce),AV.sl 5 false (Bd.au f.bi),AV.sl 3 false (lH x),AV.sl 9 false (Sq.au f.tc),AV.sl 11 false (Tx.au f.tm)])]=[ah.aN g 7 false (dA (List.set l k (FD.mk f.pk f.pn f.ce f.bi x f.tc f.tm)))]):ak P G 264 [.jC 0 g k 4,mF x,int 0] [ah.aN g 7 false (dA l)] (aS.ret (int 0)) [ah.aN g 7 false (dA (List.set l k (FD.mk f.pk f.pn f.ce f.bi x f.tc f.tm)))]:=by
 have bS:g=g:=(rfl);have eH:=h;exact ak.heap ((aj [kO,ko (bC.elem (jB f)),kp bS,kp bS,kp (show(dA l)[k]?=some (jB f)from(iN hx))])) eH
theorem ajZ l(k g:Nat)f(hk:k<l.length)(hx:l[k]?=some f)x(e:Int)(he:¬e=0)(h:True):ak P G 264 [.jC 0 g k 4,mF x,int e] [ah.aN g 7 false (dA l)] (aS.ret (int e)) [ah.aN g 7 false (dA l)]:=by
 exact aj [kf (qF zO)]
theorem aj0 l(k g:Nat)f(hk:k<l.length)(hx:l[k]?=some f)x(e:Int):ak P G 264 [.jC 0 g k 4,mF x,int e] [.aN g 7 false (dA l)] (.ret (int e)) [.aN g 7 false (dA (if e=0 then l.set k { f with ta:=x }else l))]:=by
 by_cases he:e=0
 .subst he;exact ajY l k g f hk hx x (by rw[<- Dx];rfl)
 .rw [yK he];exact ajZ l k g f hk hx x e he trivial
theorem aj1 l(k g:Nat)f(hk:k<l.length)(hx:l[k]?=some f)(c:List Sq.CE)m(h:((∀ x,x∈List.set (dA l) k (dX (jB f) 5 (List.take (TypeInfo.size (Tables.types (Program.toTables P))[88]) (List.drop 0 [Sq.bZ c,Tx.oI m])))->AV.aM [] x=true)/\True)):ak P G 267 [.jC 0 g k 5,NY c m,int 0] [ah.aN g 7 false (dA l)] (aS.ret (int 0)) [ah.aN g 7 false (List.set (dA l) k (jB (FD.mk f.pk f.pn f.ce f.bi f.ta c m)))]:=by
 have bS:g=g:=(rfl);obtain⟨o1,h⟩:=h;exact aj [kO,ko (bC.elem (jB f)),kp bS,kp bS,kp (show(dA l)[k]?=some (jB f)from(iN hx)),kp o1]
theorem aj2 l(k g:Nat)f(hk:k<l.length)(hx:l[k]?=some f)c(m:List Tx.MK)e(he:¬e=0)(h:True):ak P G 267 [.jC 0 g k 5,NY c m,int e] [ah.aN g 7 false (dA l)] (aS.ret (int e)) [ah.aN g 7 false (dA l)]:=by
 exact aj [kf (qF zO),kp (fK l)]
theorem af4 f(c:List Sq.CE)m:dX (jB f) 5 (List.take (TypeInfo.size (Tables.types (Program.toTables P))[88]) (List.drop 0 [Sq.bZ c,Tx.oI m]))=jB { f with tc:=c,tm:=m }:=zQ
theorem Zd l(k g:Nat)f(hk:k<l.length)(hx:l[k]?=some f)c(m:List Tx.MK)e:ak P G 267 [.jC 0 g k 5,NY c m,int e] [.aN g 7 false (dA l)] (.ret (int e)) [.aN g 7 false (dA (if e=0 then l.set k { f with tc:=c,tm:=m }else l))]:=by
 by_cases he:e=0
 .subst he;rw[yL rfl,<- Dx];exact aj1 l k g f hk hx c m ⟨by rw[af4,Dx];exact fK _,yO⟩
 .rw [yK he];exact aj2 l k g f hk hx c m e he trivial
theorem aj3 l(k g:Nat)f(hk:k<l.length)(hx:l[k]?=some f)(o:bV.OP)x(e:Int)l2(hF:Cq 252 [Sq.bZ f.ce,.agg [int o.dv,int o.sq,int 0,int o.f1,int o.f2,int o.f3,int o.tm,str o.vl,Am.bool false]] (.bq [Sq.bZ x,int e]))(hS:ak P G 253 [.jC 0 g k 2,Sq.bZ x,int e] [.aN g 7 false (dA l)] (.ret (int e)) [.aN g 7 false (dA l2)])(h:True):ak P G 251 [.jC 0 g k 0,bV.op o] [ah.aN g 7 false (dA l)] (aS.ret (int e)) [ah.aN g 7 false (dA l2)]:=by
 have bS:g=g:=(rfl);have Av:∀(x:List AV),x∈dA l2->AV.aM [] x=true:=(fK _);exact aj [ko (bC.elem (jB f)),kp bS,kp bS,kp bS,kp (show(dA l)[k]?=some (jB f)from(iN hx)),kc [] hF,kp bS,kp bS,kc [0] hS,kp Av,kp (fK l),kp Av]
theorem aiV l(k g:Nat)f(hk:k<l.length)(hx:l[k]?=some f)(o:bV.OP)x(e:Int)(hF:Cq 252 [Sq.bZ f.ce,.agg [int o.dv,int o.sq,int 0,int o.f1,int o.f2,int o.f3,int o.tm,str o.vl,Am.bool false]] (.bq [Sq.bZ x,int e])):ak P G 251 [.jC 0 g k 0,bV.op o] [.aN g 7 false (dA l)] (.ret (int e)) [.aN g 7 false (dA (if e=0 then l.set k { f with ce:=x }else l))] :=
 aj3 l k g f hk hx o x e _ hF (aei l k g f hk hx x e) trivial
theorem aj4 l(k g:Nat)f(hk:k<l.length)(hx:l[k]?=some f)(o:bV.OP)x(e:Int)l2(hF:Cq 255 [Sq.bZ f.ce,.agg [int o.f1,int o.f2,int o.f3]] (.bq [Sq.bZ x,int e]))(hS:ak P G 253 [.jC 0 g k 2,Sq.bZ x,int e] [.aN g 7 false (dA l)] (.ret (int e)) [.aN g 7 false (dA l2)])(h:True):ak P G 254 [.jC 0 g k 0,bV.op o] [ah.aN g 7 false (dA l)] (aS.ret (int e)) [ah.aN g 7 false (dA l2)]:=by
 have bS:g=g:=(rfl);have Av:∀ x,x∈dA l2->AV.aM [] x=true:=(fK _);exact aj [ko (bC.elem (jB f)),kp bS,kp bS,kp bS,kp (show(dA l)[k]?=some (jB f)from(iN hx)),kc [] hF,kp bS,kp bS,kc [0] hS,kp Av,kp (fK l),kp Av]
theorem aiX l(k g:Nat)f(hk:k<l.length)(hx:l[k]?=some f)(o:bV.OP)x(e:Int)(hF:Cq 255 [Sq.bZ f.ce,.agg [int o.f1,int o.f2,int o.f3]] (.bq [Sq.bZ x,int e])):ak P G 254 [.jC 0 g k 0,bV.op o] [.aN g 7 false (dA l)] (.ret (int e)) [.aN g 7 false (dA (if e=0 then l.set k { f with ce:=x }else l))] :=
 aj4 l k g f hk hx o x e _ hF (aei l k g f hk hx x e) trivial
theorem aj5 l(k g:Nat)f(hk:k<l.length)(hx:l[k]?=some f)(o:bV.OP)x(v:List D)(e:Int)l2(hN:Cq 258 [bV.op o] (bB v))(hF:Cq 257 [Bd.iK f.bi,bB v,.agg [str o.ky,int o.dv,int o.sq,int o.tm,str o.vl]] (.bq [Bd.iK x,int e]))(hS:ak P G 259 [.jC 0 g k 3,Bd.iK x,int e] [.aN g 7 false (dA l)] (.ret (int e)) [.aN g 7 false (dA l2)])(h:True):ak P G 256 [.jC 0 g k 0,bV.op o] [ah.aN g 7 false (dA l)] (aS.ret (int e)) [ah.aN g 7 false (dA l2)]:=by
 have bS:g=g:=(rfl);have qj:∀(x:List AV),x∈dA l2->AV.aM [] x=true:=(fK _);exact aj [ko (bC.elem (jB f)),kp bS,kp bS,kp bS,kp (show(dA l)[k]?=some (jB f)from(iN hx)),kc [] hN,kc [] hF,kp bS,kp bS,kc [0] hS,kp qj,kp (fK l),kp qj]
theorem aiZ l(k g:Nat)f(hk:k<l.length)(hx:l[k]?=some f)(o:bV.OP)x(v:List D)e(hN:Cq 258 [bV.op o] (bB v))(hF:Cq 257 [Bd.iK f.bi,bB v,.agg [str o.ky,int o.dv,int o.sq,int o.tm,str o.vl]] (.bq [Bd.iK x,int e])):ak P G 256 [.jC 0 g k 0,bV.op o] [.aN g 7 false (dA l)] (.ret (int e)) [.aN g 7 false (dA (if e=0 then l.set k { f with bi:=x }else l))] :=
 aj5 l k g f hk hx o x v e _ hN hF (aej l k g f hk hx x e) trivial
theorem aj6 l(k g:Nat)f(hk:k<l.length)(hx:l[k]?=some f)(o:bV.OP)x(v:List D)(e:Int)l2(hN:Cq 258 [bV.op o] (bB v))(hF:Cq 261 [Bd.iK f.bi,bB v,str o.ky] (.bq [Bd.iK x,int e]))(hS:ak P G 259 [.jC 0 g k 3,Bd.iK x,int e] [.aN g 7 false (dA l)] (.ret (int e)) [.aN g 7 false (dA l2)])(h:True):ak P G 260 [.jC 0 g k 0,bV.op o] [ah.aN g 7 false (dA l)] (aS.ret (int e)) [ah.aN g 7 false (dA l2)]:=by
 have bS:g=g:=(rfl);have qj:∀(x:List AV),x∈dA l2->AV.aM [] x=true:=(fK _);exact aj [ko (bC.elem (jB f)),kp bS,kp bS,kp bS,kp (show(dA l)[k]?=some (jB f)from(iN hx)),kc [] hN,kc [] hF,kp bS,kp bS,kc [0] hS,kp qj,kp (fK l),kp qj]
theorem ai1 l(k g:Nat)f(hk:k<l.length)(hx:l[k]?=some f)(o:bV.OP)x(v:List D)e(hN:Cq 258 [bV.op o] (bB v))(hF:Cq 261 [Bd.iK f.bi,bB v,str o.ky] (.bq [Bd.iK x,int e])):ak P G 260 [.jC 0 g k 0,bV.op o] [.aN g 7 false (dA l)] (.ret (int e)) [.aN g 7 false (dA (if e=0 then l.set k { f with bi:=x }else l))] :=
 aj6 l k g f hk hx o x v e _ hN hF (aej l k g f hk hx x e) trivial
theorem aj7 l(k g:Nat)f(hk:k<l.length)(hx:l[k]?=some f)(o:bV.OP)x(e:Int)l2(hF:Cq 263 [mF f.ta,eG (o.dv,o.sq),int o.n] (.bq [mF x,int e]))(hS:ak P G 264 [.jC 0 g k 4,mF x,int e] [.aN g 7 false (dA l)] (.ret (int e)) [.aN g 7 false (dA l2)])(h:True):ak P G 262 [.jC 0 g k 0,bV.op o] [ah.aN g 7 false (dA l)] (aS.ret (int e)) [ah.aN g 7 false (dA l2)]:=by
 have bS:g=g:=(rfl);have Av:∀ x,x∈dA l2->AV.aM [] x=true:=(fK _);exact aj [ko (bC.elem (jB f)),kp bS,kp bS,kp bS,kp (show(dA l)[k]?=some (jB f)from(iN hx)),kc [] hF,kp bS,kp bS,kc [0] hS,kp Av,kp (fK l),kp Av]
theorem ajF l(k g:Nat)f(hk:k<l.length)(hx:l[k]?=some f)(o:bV.OP)x(e:Int)(hF:Cq 263 [mF f.ta,eG (o.dv,o.sq),int o.n] (.bq [mF x,int e])):ak P G 262 [.jC 0 g k 0,bV.op o] [.aN g 7 false (dA l)] (.ret (int e)) [.aN g 7 false (dA (if e=0 then l.set k { f with ta:=x }else l))] :=
 aj7 l k g f hk hx o x e _ hF (aj0 l k g f hk hx x e) trivial
theorem aj8 l(k g:Nat)f(hk:k<l.length)(hx:l[k]?=some f)(o:bV.OP)c(m:List Tx.MK)(e:Int)l2(hF:Cq 266 [NY f.tc f.tm,eG (o.dv,o.sq),int o.tm,.agg [int o.f1,int o.f2,int o.f3],str o.vl] (.bq [NY c m,int e]))(hS:ak P G 267 [.jC 0 g k 5,NY c m,int e] [.aN g 7 false (dA l)] (.ret (int e)) [.aN g 7 false (dA l2)])(h:True):ak P G 265 [.jC 0 g k 0,bV.op o] [ah.aN g 7 false (dA l)] (aS.ret (int e)) [ah.aN g 7 false (dA l2)]:=by
 have bS:g=g:=(rfl);have Av:∀(x:List AV),x∈dA l2->AV.aM [] x=true:=(fK _);exact aj [ko (bC.elem (jB f)),kp bS,kp bS,kp bS,kp (show(dA l)[k]?=some (jB f)from(iN hx)),kc [] hF,kp bS,kp bS,kc [0] hS,kp Av,kp (fK l),kp Av]
theorem ajy l(k g:Nat)f(hk:k<l.length)(hx:l[k]?=some f)(o:bV.OP)c(m:List Tx.MK)e(hF:Cq 266 [NY f.tc f.tm,eG (o.dv,o.sq),int o.tm,.agg [int o.f1,int o.f2,int o.f3],str o.vl] (.bq [NY c m,int e])):ak P G 265 [.jC 0 g k 0,bV.op o] [.aN g 7 false (dA l)] (.ret (int e)) [.aN g 7 false (dA (if e=0 then l.set k { f with tc:=c,tm:=m }else l))] :=
 aj8 l k g f hk hx o c m e _ hF (Zd l k g f hk hx c m e) trivial
theorem aj9 l(k g:Nat)f(hk:k<l.length)(hx:l[k]?=some f)(o:bV.OP)c(m:List Tx.MK)(e:Int)l2(hF:Cq 269 [NY f.tc f.tm,.agg [int o.f1,int o.f2,int o.f3],int o.n] (.bq [NY c m,int e]))(hS:ak P G 267 [.jC 0 g k 5,NY c m,int e] [.aN g 7 false (dA l)] (.ret (int e)) [.aN g 7 false (dA l2)])(h:True):ak P G 268 [.jC 0 g k 0,bV.op o] [ah.aN g 7 false (dA l)] (aS.ret (int e)) [ah.aN g 7 false (dA l2)]:=by
 have bS:g=g:=(rfl);have Av:∀ x,x∈dA l2->AV.aM [] x=true:=(fK _);exact aj [ko (bC.elem (jB f)),kp bS,kp bS,kp bS,kp (show(dA l)[k]?=some (jB f)from(iN hx)),kc [] hF,kp bS,kp bS,kc [0] hS,kp Av,kp (fK l),kp Av]
theorem ajA l(k g:Nat)f(hk:k<l.length)(hx:l[k]?=some f)(o:bV.OP)c(m:List Tx.MK)e(hF:Cq 269 [NY f.tc f.tm,.agg [int o.f1,int o.f2,int o.f3],int o.n] (.bq [NY c m,int e])):ak P G 268 [.jC 0 g k 0,bV.op o] [.aN g 7 false (dA l)] (.ret (int e)) [.aN g 7 false (dA (if e=0 then l.set k { f with tc:=c,tm:=m }else l))] :=
 aj9 l k g f hk hx o c m e _ hF (Zd l k g f hk hx c m e) trivial
theorem akb(l:List FD)(k g:Nat)(f:FD)(hk:k<l.length)(hx:l[k]?=some f)(o:bV.OP)(c:List Sq.CE)(m:List Tx.MK)(e:Int)(l2:List FD)(hF:Cq 271 [NY f.tc f.tm,.agg [int o.dv,int o.sq,int o.tm,int o.f1,int o.f2,int o.f3,int o.t1,int o.t2,int o.t3,int o.n,Am.bool o.on]] (.bq [NY c m,int e]))(hS:ak P G 267 [.jC 0 g k 5,NY c m,int e] [.aN g 7 false (dA l)] (.ret (int e)) [.aN g 7 false (dA l2)])(h:True):ak P G 270 [.jC 0 g k 0,bV.op o] [ah.aN g 7 false (dA l)] (aS.ret (int e)) [ah.aN g 7 false (dA l2)]:=by
 have bS:g=g:=(rfl);have Av:∀(x:List AV),x∈dA l2->AV.aM [] x=true:=(fK _);exact aj [ko (bC.elem (jB f)),kp bS,kp bS,kp bS,kp (show(dA l)[k]?=some (jB f)from(iN hx)),kc [] hF,kp bS,kp bS,kc [0] hS,kp Av,kp (fK l),kp Av]
theorem ajC l(k g:Nat)f(hk:k<l.length)(hx:l[k]?=some f)(o:bV.OP)c(m:List Tx.MK)e(hF:Cq 271 [NY f.tc f.tm,.agg [int o.dv,int o.sq,int o.tm,int o.f1,int o.f2,int o.f3,int o.t1,int o.t2,int o.t3,int o.n,Am.bool o.on]] (.bq [NY c m,int e])):ak P G 270 [.jC 0 g k 0,bV.op o] [.aN g 7 false (dA l)] (.ret (int e)) [.aN g 7 false (dA (if e=0 then l.set k { f with tc:=c,tm:=m }else l))] :=
 akb l k g f hk hx o c m e _ hF (Zd l k g f hk hx c m e) trivial
theorem Pg l:∀c∈dA l,c.all AV.fJ=true:=by
 intro c hc;obtain⟨d,_,rfl⟩:=yG.1 hc;rfl
theorem Ze l(f:FD):dA l++[jB f]=dA (l++[f]):=by simp[dA]
theorem TW l(f:FD):dA l++[[int f.pk,str f.pn,AV.sl 9 false (Sq.au f.ce),AV.sl 5 false (Bd.au f.bi),AV.sl 3 false (lH f.ta),AV.sl 9 false (Sq.au f.tc),AV.sl 11 false (Tx.au f.tm)]]=dA (l++[f]):=Ze l f
theorem amE f(hT:Cq 84 [mF f.ta] (mF f.ta))(hC:Cq 82 [Sq.bZ f.ce] (Sq.bZ f.ce))(hB:Cq 83 [Bd.iK f.bi] (Bd.iK f.bi))(hX:Cq 82 [Sq.bZ f.tc] (Sq.bZ f.tc))(hM:Cq 85 [Tx.oI f.tm] (Tx.oI f.tm))(h:True):Cq 53 [.agg (jB f)] (.agg (jB f)):=by
 exact aj [kc [] hC,kc [] hB,kc [] hT,kc [] hX,kc [] hM]
def Xj(d:DO)(o:bV.OP)(v:List D)(k:Nat)(X:AV)(H:List ah):St:={ aL:=aC 109 [(2,.ptr 0 0),(3,.ptr 1 0),(4,.ptr 2 0),(5,int 0),(64,Md d.fs),(65,int d.fs.length),(66,int k)],H:=.box [bB d.sn,Md d.fs] :: .box (bV.jy o) :: .box [bB v,X]::H }
def apX(d:DO)(o:bV.OP)(v:List D)(X:AV)(H:List ah):St:={ aL:=aC 109 [(2,.ptr 0 0),(3,.ptr 1 0),(4,.ptr 2 0),(5,int 0)],H:=.box [bB d.sn,Md d.fs] :: .box (bV.jy o) :: .box [bB v,X]::H }
theorem ant d(o:bV.OP)v(f:FD)(hl:d.fs.length<=1000000)(hk:0<(d.fs.length:Int))(hx:d.fs[0]?=some f)(hC:Cq 53 [.agg (jB f)] (.agg (jB f)))ex(s':St)(h:Rq 0 27 0 (sM 109 [(2,.ptr 0 0),(3,.ptr 1 0),(4,.ptr 2 0),(5,int 0),(64,.sl 7 false (dA d.fs)),(65,int ↑(length d.fs)),(66,int 1)] [.box [bB d.sn,.sl 7 false (dA d.fs)],.box (bV.jy o),.box [bB v,.aU 4 0 0 1],.box [int f.pk,str f.pn,.sl 9 false (Sq.au f.ce),.sl 5 false (Bd.au f.bi),.sl 3 false (lH f.ta),.sl 9 false (Sq.au f.tc),.sl 11 false (Tx.au f.tm)],.aN 0 7 false [[int f.pk,str f.pn,.sl 9 false (Sq.au f.ce),.sl 5 false (Bd.au f.bi),.sl 3 false (lH f.ta),.sl 9 false (Sq.au f.tc),.sl 11 false (Tx.au f.tm)]]]) ex s'):Rq 0 27 0 (Xj d o v 0 aK []) ex s':=by
 exact aJ [ki ((0:Int)<(↑(length d.fs):Int)),ke (jB f) (dA d.fs) (0:Int) (bG hx),kc [] hC,Qx [int f.pk,str f.pn,AV.sl 9 false (Sq.au f.ce),AV.sl 5 false (Bd.au f.bi),AV.sl 3 false (lH f.ta),AV.sl 9 false (Sq.au f.tc),AV.sl 11 false (Tx.au f.tm)],vV 144] (aB 109 [2,3,4,5,64,65,66]) 5 h
theorem anu d(o:bV.OP)v(f:FD)l(k g:Nat)(LB:l.length=k)(hll:l.length<=1000000)(hl:d.fs.length<=1000000)(hk:k<(d.fs.length:Int))(hx:d.fs[k]?=some f)(hC:Cq 53 [.agg (jB f)] (.agg (jB f)))ex(s':St)(h:Rq 0 27 0 (sM 109 [(2,.ptr 0 0),(3,.ptr 1 0),(4,.ptr 2 0),(5,int 0),(64,.sl 7 false (dA d.fs)),(65,int ↑(length d.fs)),(66,int ↑(k+1))] [.box [bB d.sn,.sl 7 false (dA d.fs)],.box (bV.jy o),.box [bB v,.aU 4 (g+1) 0 (length l+1)],.aH,.aN (g+1) 7 false (dA l++[[int f.pk,str f.pn,.sl 9 false (Sq.au f.ce),.sl 5 false (Bd.au f.bi),.sl 3 false (lH f.ta),.sl 9 false (Sq.au f.tc),.sl 11 false (Tx.au f.tm)]])]) ex s'):Rq 0 27 0 (Xj d o v k (AV.aU 4 g 0 l.length) [ah.aH,ah.aN g 7 false (dA l)]) ex s':=by
 exact aJ [ki ((k:Int)<(↑(length d.fs):Int)),ke (jB f) (dA d.fs) k (bG hx),kc [] hC,kq g,kp (fE l).symm,vV ((length l+1)*144),kW 77 (k+1) ↑(k+1),kp (show ∀(x:List AV),x∈dA l++[[int f.pk,str f.pn,AV.sl 9 false (Sq.au f.ce),AV.sl 5 false (Bd.au f.bi),AV.sl 3 false (lH f.ta),AV.sl 9 false (Sq.au f.tc),AV.sl 11 false (Tx.au f.tm)]]->AV.aM [] x=true from(by exact(Am.dx (fK _) (Am.dM rfl Am.eU))))] (aB 109 [2,3,4,5,64,65,66]) 5 h
theorem akc d(o:bV.OP)v(k:Nat)(hk:¬k<(d.fs.length:Int))(h:True):Rq 0 27 0 (Xj d o v k aK []) (bF.exit 0) (apX d o v aK []):=by
 exact aG [kj ((k:Int)<↑(length d.fs))] (aB 109 [2,3,4,5]) 3
theorem akd d(o:bV.OP)v(k g:Nat)l(hk:¬(k:Int)<d.fs.length)(h:True):Rq 0 27 0 (Xj d o v k (AV.aU 4 g 0 l.length) [ah.aH,ah.aN g 7 false (dA l)]) (bF.exit 0) (apX d o v (AV.aU 4 g 0 l.length) [ah.aH,ah.aN g 7 false (dA l)]):=by
 exact aG [kj ((k:Int)<↑(length d.fs))] (aB 109 [2,3,4,5]) 5
abbrev Ph:AV:=gP 55
abbrev zP(a:Int)(s:yP):ah:=.box [int a,str s]
def U8(i j:Nat):Int:=IntKind.wrap IntKind.i64 (Int.fdiv (↑(i+j):Int) (2^min (Int.toNat 1) (IntKind.bits IntKind.u64)))
theorem Ye{i j}(h:i+j<=1000000000000):U8 i j=((i+j)/2:Nat):=by
 have e:(2^min (Int.toNat 1) (IntKind.bits IntKind.u64):Int)=2:=zD
 unfold U8;rw[e,IntKind.wrap_i64,Int.fdiv_eq_ediv_of_nonneg _ zO];omega
theorem anv(f:FD)a(s:yP)c(hP:Cq 56 [pt f.pk f.pn,pt a s] (int c))(h:True):Cq 55 [.agg (jB f),pt a s] (int c):=by
 exact aj [kc [] hP]
def fbS(l:List FD)(g:Nat)(a:Int)(s:yP)(i j:Nat):St:={ aL:=aC 49 [(0,.aU 0 g 0 l.length),(2,Ph),(4,.ptr 1 0),(8,int l.length),(9,int i),(10,int j)],H:=[.aN g 7 false (dA l),zP a s] }
def fbX(l:List FD)(g:Nat)(a:Int)(s:yP)(i:Nat):St:={ aL:=aC 49 [(0,.aU 0 g 0 l.length),(2,Ph),(4,.ptr 1 0),(8,int l.length),(9,int i)],H:=[.aN g 7 false (dA l),zP a s] }
theorem anw l(g:Nat)a(s:yP)(i j:Nat)(wQ:¬i<(j:Int))(h:True):Rq 1 54 0 (fbS l g a s i j) (bF.exit 0) (fbX l g a s i):=by
 exact aG [kj ((i:Int)<j)] (aB 49 [0,2,4,8,9]) 2
theorem anx l(g:Nat)a(s:yP)(i j m:Nat)(c:FD->Int)(hj:j<=l.length)(hv:l.length<=1000000000)(hm:U8 i j=m)(hm':IntKind.wrap IntKind.i64 (Int.fdiv ↑(i+j) (2^min (Int.toNat 1) (IntKind.bits IntKind.u64)))=m)(bg:m<j)(hC:∀f:FD,Cq 55 [.agg (jB f),pt a s] (int (c f)))(ex:bF)s'(h:((((i:Int)<j)->(∃x2:FD,(l[0+Int.toNat (U8 i j)]?=some x2)/\(((c x2<0)->Rq 1 54 0 (sM 49 [(0,.aU 0 g 0 l.length),(2,iL 55),(4,.ptr 1 0),(8,int ↑l.length),(9,int (U8 i j+1)),(10,int ↑j)] [.aN g 7 false (dA l),.box [int a,str s]]) ex s')/\((¬c x2<0)->Rq 1 54 0 (sM 49 [(0,.aU 0 g 0 l.length),(2,iL 55),(4,.ptr 1 0),(8,int ↑l.length),(9,int ↑i),(10,int (U8 i j))] [.aN g 7 false (dA l),.box [int a,str s]]) ex s'))))/\((¬i<(j:Int))->(bF.exit 0=ex)/\(sM 49 [(0,.aU 0 g 0 l.length),(2,iL 55),(4,.ptr 1 0),(8,int ↑l.length),(9,int ↑i)] [.aN g 7 false (dA l),.box [int a,str s]]=s')))):Rq 1 54 0 (fbS l g a s i j) ex s':=by
 have x9:g=g:=(rfl);by_cases c1:((i:Int)<(j:Int))
 .have h:=h.1 c1;obtain⟨x2,o3,h⟩:=h;have OG:=(@hC (x2));let l1:List fP:=[kt (qT c1),kW 20 ((i:Int)+(j:Int)) (↑(i+j):Int),kv 21 (show Am.aF (AV.lit (Value.int IntKind.u64 (IntKind.wrap IntKind.u64 (↑(i+j):Int)))) (AV.lit (Value.int IntKind.u64 (↑(i+j):Int)))from(aF.zf zO zO rfl)),ko (bC.elem (jB x2)),kp (show(0:Int)<=(1:Int)from zO),kp x9,kp (show(0:Int)<=IntKind.wrap IntKind.i64 (Int.fdiv (↑(i+j):Int) (2^min (Int.toNat 1) (IntKind.bits IntKind.u64)))/\IntKind.wrap IntKind.i64 (Int.fdiv (↑(i+j):Int) (2^min (Int.toNat 1) (IntKind.bits IntKind.u64)))<(l.length:Int)from zO),kp x9,kp (show(dA l)[0+Int.toNat (IntKind.wrap IntKind.i64 (Int.fdiv (↑(i+j):Int) (2^min (Int.toNat 1) (IntKind.bits IntKind.u64))))]?=some (jB x2)from(iN o3)),kc [] OG];by_cases c4:(c x2<0)
  .have h:=h.1 c4;exact aJ (l1++[kt (qT c4),kW 33 (IntKind.wrap IntKind.i64 (Int.fdiv (↑(i+j):Int) (2^min (Int.toNat 1) (IntKind.bits IntKind.u64)))+1) (U8 i j+1)]) (aB 49 [0,2,4,8,9,10]) 2 h
  .have h:=h.2 c4;exact aJ (l1++[kf (qF c4)]) (aB 49 [0,2,4,8,9,10]) 2 h
 .have h:=h.2 c1;obtain⟨eX,eS⟩:=h;exact bN.to ((aG [kf (qF c1)] (aB 49 [0,2,4,8,9]) 2)) eX (eB.of_eq eS)
theorem ake l(g:Nat)a(s:yP)(p:Nat)(hp:¬(p:Int)<l.length)(hv:l.length<=1000000000)(hL:Rq 1 54 0 (fbS l g a s 0 l.length) (.exit 0) (fbX l g a s p))(h:True):ak P G 54 [.aU 0 g 0 l.length,pt a s,Ph] [ah.aN g 7 false (dA l)] (aS.ret (AV.bq [int ↑p,Am.bool false])) [ah.aN g 7 false (dA l)]:=by
 exact aj [kq g,kl (rG [(1,1),(3,1),(5,3),(11,38)]) 2 hL,kj ((p:Int)<l.length),kp (fK l)]
theorem akf l(g:Nat)a(s:yP)(p:Nat)(c:FD->Int)(hp:p<(l.length:Int))(hv:l.length<=1000000000)(hC:∀f:FD,Cq 55 [.agg (jB f),pt a s] (int (c f)))(hL:Rq 1 54 0 (fbS l g a s 0 l.length) (.exit 0) (fbX l g a s p))r(h:(∃x2:FD,(l[0+p]?=some x2)/\(c x2==0)=(r))):ak P G 54 [.aU 0 g 0 l.length,pt a s,Ph] [ah.aN g 7 false (dA l)] (aS.ret (AV.bq [int ↑p,Am.bool r])) [ah.aN g 7 false (dA l)]:=by
 have bS:g=g:=(rfl);obtain⟨x2,o3,h⟩:=h;have e1:=h;exact ak.out ((show ak P G 54 [.aU 0 g 0 l.length,pt a s,Ph] [ah.aN g 7 false (dA l)] (aS.ret (AV.bq [int ↑p,Am.bool (c x2==0)])) [ah.aN g 7 false (dA l)]from aj [kp bS,kl (rG [(1,1),(3,1),(5,3),(11,38)]) 2 hL,ki ((p:Int)<l.length),ko (bC.elem (jB x2)),kp bS,kR (p:Int) (l.length:Int),kp bS,kp (show(dA l)[0+Int.toNat (p:Int)]?=some (jB x2)from(iN o3)),kc [] (@hC (x2)),kp (fK l)])) (aF.iM ⟨y34,(aF.aI e1),yO⟩)
def rV(c:FD->Int)(l:List FD):Nat:=(l.takeWhile fun f=>decide (c f<0)).length
theorem Rh(c:FD->Int)l:rV c l<=l.length:=(takeWhile_sublist _).length_le
def Rc(c:FD->Int)(l:List FD):Prop:=∀m (h:m<l.length),c l[m]<0↔m<rV c l
theorem acC l(g:Nat)a(s:yP)c(hv:l.length<=1000000000)(hs:Rc c l)(hC:∀f:FD,Cq 55 [.agg (jB f),pt a s] (int (c f))):∀n i j,j-i<=n->i<=rV c l->rV c l<=j->j<=l.length->Rq 1 54 0 (fbS l g a s i j) (.exit 0) (fbX l g a s (rV c l)):=by
 intro n;have he:∀i j,i<=rV c l->rV c l<=j->¬i<j->Rq 1 54 0 (fbS l g a s i j) (.exit 0) (fbX l g a s (rV c l)):=fun i j h1 h2 wQ=>by
  have:=anw l g a s i j zO trivial;grind
 induction n with
 |zero=>intro i j hn h1 h2 h3;grind
 |succ n ih =>
  intro i j hn h1 h2 h3;by_cases wQ:i<j
  .have hm:=Ye (i:=i) (j:=j) zO;refine anx l g a s i j ((i+j)/2) c h3 hv hm hm zO hC _ _ ⟨fun _=>?_,fun h=>absurd zO h⟩;have bg:(i+j)/2<l.length:=zO
   refine⟨l[(i+j)/2],?_,fun hq=>?_,fun hq=>?_⟩
   .rw [hm,y12];exact yA bg
   .have:=(hs _ bg).1 hq;have nx:=ih ((i+j)/2+1) j zO zO h2 h3;rw[hm];exact nx
   .have:¬(i+j)/2<rV c l:=fun h=>hq ((hs _ bg).2 h);have nx:=ih i ((i+j)/2) zO h1 zO zO;rw[hm];exact nx
  grind
theorem wX l(g:Nat)a(s:yP)c(hv:l.length<=1000000000)(hs:Rc c l)(hC:∀f:FD,Cq 55 [.agg (jB f),pt a s] (int (c f))) :
 ak P G 54 [.aU 0 g 0 l.length,pt a s,Ph] [.aN g 7 false (dA l)] (.ret (.bq [int (rV c l),Am.bool ((l[rV c l]?).any fun f=>c f==0)])) [.aN g 7 false (dA l)]:=by
 have hp:=Rh c l;have hL:=acC l g a s c hv hs hC _ 0 l.length yM zO hp zO;rcases y11 (rV c l) l.length with h|h
 .rw [yA h];exact akf l g a s _ c zO hv hC hL _ ⟨l[rV c l],by rw[y12];simp,rfl⟩
 .rw [getElem?_eq_none h];exact ake l g a s _ zO hv hL trivial
abbrev Xk:AV:=.fn (.func 51) [] [.ptr 0 0]
abbrev dB(d:DO):List ah:=[.box [bB d.sn,Md d.fs]]
theorem anz x(d:DO)b(hC:Cq 28 [bB d.sn,eG x] (Am.bool b))(h:True):ak P G 51 [eG x,.ptr 0 0] (dB d) (aS.ret (Am.bool !b)) (dB d):=by
 exact aj [kc [] hC]
theorem anA(x:D)d(hv:d.sn.length<=1000000000):ak P G 51 [eG x,.ptr 0 0] (dB d) (.ret (Am.bool (!cZ d.sn x))) (dB d):=anz x d _ (bH.jX d.sn _ _ hv) trivial
def iuS(l:List D)(d:DO)(k:Nat):St:={ aL:=aC 19 [(0,bB l),(1,Xk),(4,int 0),(6,bB l),(7,int l.length),(8,int k)],H:=dB d }
theorem anB l(d:DO)(k:Nat)(hk:¬k<(l.length:Int))(h:True):Rq 1 61 0 (iuS l d k) (bF.exit 0) (St.mk (aC 19 []) (dB d) []):=by
 exact aG [kj ((k:Int)<l.length)] (aB 19 []) 1
theorem akg(l:List D)d(k:Nat)x y(hl:l.length<=1000000)(hk:k<(l.length:Int))(hx:l[k]?=some (x,y))(hC:ak P G 51 [eG (x,y),.ptr 0 0] (dB d) (.ret (Am.bool false)) (dB d))(ex:bF)s'(h:Rq 1 61 0 (sM 19 [(0,bB l),(1,.fn (Fn.func 51) [] [.ptr 0 0]),(4,int 0),(6,bB l),(7,int ↑l.length),(8,int ↑(k+1))] [.box [bB d.sn,.sl 7 false (dA d.fs)]]) ex s'):Rq 1 61 0 (iuS l d k) ex s':=by
 exact aJ [ki ((k:Int)<l.length),ke (aQ (x,y)) (au l) k (bG hx),kc [0] hC,kY,kW 18 (k+1) ↑(k+1)] (aB 19 [0,1,4,6,7,8]) 1 h
theorem anC(l:List D)d(k:Nat)x y(hl:l.length<=1000000)(hk:(k:Int)<l.length)(hx:l[k]?=some (x,y))(hC:ak P G 51 [eG (x,y),.ptr 0 0] (dB d) (.ret (Am.bool true)) (dB d))(h:True):Rq 1 61 0 (iuS l d k) bF.ret (St.mk (aC 19 [(4,int ↑k)]) (dB d) []):=by
 exact aG [ki ((k:Int)<l.length),ke (aQ (x,y)) (au l) k (bG hx),kc [0] hC,kO] (aB 19 [4]) 1
theorem akh l(d:DO)(hL:Rq 1 61 0 (iuS l d 0) (.exit 0) { aL:=aC 19 [],H:=dB d })(h:True):ak P G 61 [bB l,Xk] (dB d) (aS.ret (int (-1))) (dB d):=by
 exact aj [kN 7 (Go.bH.ay l),kl (rG [(2,2),(5,1),(9,10)]) 1 hL]
theorem aki l(d:DO)(k:Nat)(hL:Rq 1 61 0 (iuS l d 0) .ret { aL:=aC 19 [(4,int k)],H:=dB d })(h:True):ak P G 61 [bB l,Xk] (dB d) (aS.ret (int ↑k)) (dB d):=by
 exact aj [kN 7 (Go.bH.ay l),kl (rG [(2,2),(5,1),(9,10)]) 1 hL]
theorem anD l(d:DO)i(hI:ak P G 61 [bB l,Xk] (dB d) (.ret (int i)) (dB d))(h:True):ak P G 52 [bB l,Xk] (dB d) (aS.ret (Am.bool (decide (i>=0)))) (dB d):=by
 exact aj [kc [0] hI]
theorem anE l(d:DO)(hl:l.length<=1000000)(hv:d.sn.length<=1000000000):∀n k,l.length-k=n->k<=l.length->(nE (fun x=>!cZ d.sn x) k (l.drop k) = -1/\Rq 1 61 0 (iuS l d k) (.exit 0) { aL:=aC 19 [],H:=dB d })\/∃j:Nat,nE (fun x=>!cZ d.sn x) k (l.drop k)=j/\Rq 1 61 0 (iuS l d k) .ret { aL:=aC 19 [(4,int j)],H:=dB d }:=by
 intro n
 induction n with
 |zero =>
  intro k hk LB;rw[y21 zO];exact .inl ⟨rfl,anB l d k zO yO⟩
 |succ n ih =>
  intro k hk LB;have bg:k<l.length:=zO
  have hx:=yA bg;have hc:=anA l[k] d hv;rw[y01 bg,nE];cases e:cZ d.sn l[k]with
  |false =>
   rw[e]at hc;exact .inr ⟨k,zS,anC l d k _ _ hl zO hx hc yO⟩
  |true =>
   rw[e]at hc;rcases ih (k+1) zO zO with⟨h1,h2⟩|⟨j,h1,h2⟩
   .exact .inl ⟨h1,akg l d k _ _ hl zO hx hc _ _ h2⟩
   .exact .inr ⟨j,h1,akg l d k _ _ hl zO hx hc _ _ h2⟩
theorem aee l(d:DO)(hl:l.length<=1000000)(hv:d.sn.length<=1000000000):ak P G 52 [bB l,Xk] (dB d) (.ret (Am.bool (l.any fun x=>!cZ d.sn x))) (dB d):=by
 have hi:∃i,i=nE (fun x=>!cZ d.sn x) 0 l/\ak P G 61 [bB l,Xk] (dB d) (.ret (int i)) (dB d):=by
  rcases anE l d hl hv _ 0 rfl yN with⟨h1,h2⟩|⟨j,h1,h2⟩
  .exact ⟨_,h1.symm,akh l d h2 yO⟩
  .exact ⟨_,h1.symm,aki l d j h2 yO⟩
 obtain⟨i,rfl,h⟩:=hi;have h:=anD l d _ h trivial;rw[MX]at h;exact h
end Go.Dc
namespace Go.OC
open Go Go.Am Go.Proofs Go.eY Go.Lib
theorem lX{P:Program}(w:World)(tS tR e:TypeId)(ht:P.underlying tS=some (.slice e))(size:Nat)(hz:∀w,(Go.sizeOf e).run P w = .ok size w)(a b:Addr)(la ca lb cb:Nat)(fF:a.block≠b.block)(tA tB:TypeId)(kA kB:Nat)(OD:w.shape? a.block=some (tA,kA))(NS:w.shape? b.block=some (tB,kB))(QA:kA≠0)(Q8:kB≠0)(hf:∀o,w.frozen? ⟨b.block,o,none⟩=false)(hb:b.spot=none) :
 (Extern.SlicesOverlaps.overlaps #[tS,tS] #[tR] #[.slice (some a) la ca,.slice (some b) lb cb]).run P w = .ok (.bool false) w:=by
 have hnb:(a.block != b.block)=true:=by simpa using fF
 have anF:(a.block==b.block)=false:=by simpa using fF
 have hfb:w.frozen? b=false:=by
  obtain⟨x,y,z⟩:=b;simp only at hb;subst hb;exact hf y
 have hfk:=hf kB;change Sem.run P (α:=Value) (do
  let some t:=(#[tS,tS]:Array TypeId)[0]?|stuck "slices.overlaps: no parameter types"
  let .slice elem <- underlying t|stuck "slices.overlaps: slice type expected"
  let size <- sizeOf elem
  match (some a:Option Addr),(some b:Option Addr)with
  |some a,some b =>
   if la=0\/lb=0\/size=0 then pure (Value.bool false)
   else if a.block != b.block&&(<- frozen a)&&(<- frozen b)then unsupported .addressObserved
   else do
    if a.block != b.block then do
     noView a;noView b
     if <- mayBeOne a b then return Value.bool ((<- choose (.extern "sameAddr.stringBytes" 2))==1)
    pure (Value.bool (a.block==b.block&&a.off<b.off+lb*size&&b.off<a.off+la*size))
  |_,_=>pure (Value.bool false)) w=_
 by_cases h0:la=0\/lb=0\/size=0
 .simp [run_underlying ht,hz,h0]
 .cases kB with
  |zero=>exact absurd rfl Q8
  |succ kB =>
   obtain⟨kA,rfl⟩:∃k,kA=k+1:=⟨kA-1,zO⟩;cases hfa:w.frozen? a<;>cases hfe:w.frozen? { block:=a.block,off:=kA+1 } <;>
   simp[run_underlying ht,hz,h0,hnb,anF,frozen,noView,viewAt,mayBeOne,stringish,shape,Sem.run,OD,NS,hfb,hfk,hfa,hfe]
theorem p9{P}(w:World)dT sT ty elem(sz:Nat)(b o dLen dCap:Nat)a(sLen sCap:Nat)cs(n:Nat)(hu:P.underlying dT=some (.slice elem))(hs:(P.info? elem).map (·.size)=some sz)(hm:n=Nat.min sLen dLen)(hn:cs.length=n*sz)(af5:∀j v,cs[j]?=some v->w.cell? (a.add j)=some v)(hc:∀j,j<cs.length->(w.cell? ⟨b,o+j,none⟩).isSome=true)(hf:∀j,j<cs.length->w.frozen? ⟨b,o+j,none⟩=false)(h1:∀v∈cs,v.oneCell'=true) :
 (Builtin.copy_ #[dT,sT] ty #[.slice (some ⟨b,o,none⟩) dLen dCap,.slice (some a) sLen sCap]).run P w = .ok (goInt n) (w.setCells b o cs):=by
 have hl:=run_loadCells_list (P:=P) w a cs af5;have fB:=run_storeCells_cells (P:=P) b o cs 0 w (by simpa using hc) (by simpa using hf) h1;cases hq:P.info? elem with
 |none=>simp[hq]at hs
 |some i =>
  have hi:i.size=sz:=by simpa[hq]using hs
  simp[Builtin.copy_,run_underlying hu,Builtin.lenOf,Builtin.firstCells,sizeOf,typeInfo,hq,hi,<- hm,<- hn,hl,fB]
def X8(F z:Nat):Prop:=∀ (b n c i vb vo vc:Nat) (cs vs:List Value) (w:World) (hi:i<n) (gY:n+1≤c) (Me:c≤9223372036854775807) (TF:vb≠b) (lG:cs.length=n * z) (Cv:vs.length=z) (jQ:∀ j v,cs[j]? = some v→w.cell? ⟨b,j,none⟩=some v) (Q7:∀ j,j<(n+1) * z→(w.cell? ⟨b,j,none⟩).isSome=true) (Qz:∀ j,w.frozen? ⟨b,j,none⟩=false) (Ev:∀ j v,vs[j]? = some v→w.cell? ⟨vb,vo+j,none⟩=some v) (Gy:∀ v∈cs,v.oneCell'=true) (Gz:∀ v∈vs,v.oneCell'=true) (tA tB:TypeId) (kA kB:Nat) (OD:w.shape? vb=some (tA,kA)) (NS:w.shape? b=some (tB,kB)) (QA:kA≠0) (Q8:kB≠0),Calls Tryz.prog F #[.slice (some ⟨b,0,none⟩) n c,.int .i64 i,.slice (some ⟨vb,vo,none⟩) 1 vc] w fun e w' =>
      e = .returned (.slice (some ⟨b,0,none⟩) (n+1) c)/\w'=(w.drew.setCells b ((i+1)*z) (cs.drop (i*z))).setCells b (i*z) vs
def M5(zB:Value)(z:Nat)(cs:List Value)(n i G:Nat):Array Value:=(cs.take (i*z)).toArray++Builtin.zeroCells zB.cells (n+1-i)++Builtin.zeroCells zB.cells (G-(n+1))
def Yb(F z tE B:Nat)(zB:Value):Prop:=∀ (b n c i vb vo vc:Nat) (cs vs:List Value) (w:World) (hi:i<n) (hnc:n≤c) (gY:c<n+1) (Ia:(n+1) * B≤140737488355328) (lG:cs.length=n * z) (Cv:vs.length=z) (jQ:∀ j v,cs[j]? = some v→w.cell? ⟨b,j,none⟩=some v) (Ev:∀ j v,vs[j]? = some v→w.cell? ⟨vb,vo+j,none⟩=some v) (Gy:∀ v∈cs,v.oneCell'=true) (Gz:∀ v∈vs,v.oneCell'=true),Calls Tryz.prog F #[.slice (some ⟨b,0,none⟩) n c,.int .i64 i,.slice (some ⟨vb,vo,none⟩) 1 vc] w fun e w' =>
      e = .returned (.slice (some ⟨w.heap.size,0,none⟩) (n+1) (grownCap w (n+1) c tE)) /\
      w'=(((w.alloc (.cells (M5 zB z cs n i (grownCap w (n+1) c tE)) tE)).drew.setCells w.heap.size (i*z) vs).drew).setCells w.heap.size ((i+1)*z) (cs.drop (i*z))
theorem KQ{zB}{z}(hzB:zB.cells.size=z)cs(n i G:Nat)(lG:cs.length=n*z)(hi:i<n)(hG:n+1<=G):(M5 zB z cs n i G).size=G*z:=by
 have h2:(n+1-i)*z+i*z=(n+1)*z:=by rw[<- Nat.add_mul];grind
 have h3:(G-(n+1))*z+(n+1)*z=G*z:=by rw[<- Nat.add_mul];grind
 have h4:min i n=i:=zO
 simp[M5,Builtin.zeroCells,hzB,lG,h4];omega
theorem mO b:∀ vs(o:Nat)(w:World),(w.setCells b o vs).os=w.os/\(w.setCells b o vs).tape=w.tape/\(w.setCells b o vs).output=w.output/\(w.setCells b o vs).drawn=w.drawn/\(w.setCells b o vs).heap.size=w.heap.size/\∀i,i≠b->(w.setCells b o vs).heap[i]?=w.heap[i]?
 |[],_,_=>⟨rfl,rfl,rfl,rfl,rfl,fun _ _=>rfl⟩
 |v::r,o,w=>by
  obtain⟨h1,h2,h3,h4,h5,h6⟩:=mO b r (o+1) (w.setCell ⟨b,o,none⟩ v);rw[World.setCells];refine⟨h1,h2,h3,h4,by simp,fun i hi=>?_⟩;rw[h6 i hi];simp[World.setCell,Array.getElem?_modify,Ne.symm hi]
theorem mP b:∀ vs(o:Nat)(w:World){c}{t}{fr},w.heap[b]?=some (.cells c t fr)->∃c',(w.setCells b o vs).heap[b]?=some (.cells c' t fr)/\c'.size=c.size
 |[],_,_,c,_,_,h=>⟨c,h,rfl⟩
 |v::r,o,w,c,t,fr,h=>by
  rw[World.setCells];obtain⟨c1,h1,e1⟩:∃c1,(w.setCell ⟨b,o,none⟩ v).heap[b]?=some (.cells c1 t fr)/\c1.size=c.size:=by
   refine⟨_,by simp[World.setCell,Array.getElem?_modify,h];rfl,zS⟩
  obtain⟨c2,h2,e2⟩:=mP b r (o+1) _ h1;grind
theorem RL(w:World)o:(w.alloc o).heap.size=w.heap.size+1:=zS
theorem VE(w:World)R(t:TypeId):(w.alloc (.cells R t)).heap[w.heap.size]?=some (.cells R t):=by
 show(w.heap.push _)[w.heap.size]?=_;simp
theorem alloc_old(w:World)o(k:Nat)(hk:k<w.heap.size):(w.alloc o).heap[k]?=w.heap[k]? := by
 show(w.heap.push _)[k]?=_;grind
variable {z:Nat}
theorem Pj(hz:z=3\/z=5\/z=7\/z=11){V:View}{w':World}{bb cap g:Nat}{x y}(hH:V.H=[.aN g z false x])(hG:aD G V)(hbb:bb=V.ρ 0\/V.w.heap.size<=bb)(h1:w'.os=V.w.os)(h2:w'.tape=V.w.tape)(h3:w'.output=V.w.output)(h4:V.w.heap.size<=w'.heap.size)(GH:V.w.drawn<=w'.drawn)(h6:∀i,i<V.w.heap.size->i≠V.ρ 0->w'.heap[i]?=V.w.heap[i]?){c:Array Value}{t:TypeId}(hbl:bb<w'.heap.size)(hh:w'.heap[bb]?=some (.cells c t (0,0)))(iZ:cap*z=c.size)(pK:y.length<=cap)(Zf:cap<=maxLen)(hy:∀r∈y,r.length=z)(hc:∀k j,k<y.length->j<z->∃v,c[k*z+j]?=some v/\v.oneCell'=true/\dI V ((y.getD k []).getD j .aP) v):xu G V [.aN (g+1) z false y] (.ret (.aU 0 (g+1) 0 y.length)) (.returned (.slice (some ⟨bb,0,none⟩) y.length cap)) w':=by
 have bL:V.H.length=1:=by rw[hH];rfl
 have hM:=hG.gW 0 _ (by rw[hH];rfl) rfl;have fB:Step V { w:=w',M:=fun z=>V.M z\/z=bb,H:=[.aN (g+1) z false y],ρ:=fun _=>bb }:={
  os:=h1
  tape:=h2
  output:=h3
  size:=h4
  drawn:=GH
  keep:=fun b hb hn=>⟨h6 b hb fun e=>hn 0 zO e.symm,⟨fun h=>h.elim id fun e=>(by
   rcases hbb with h'|h'
   .exact absurd (e.trans h').symm (hn 0 zO)
   .exact absurd hb zO),fun h=>.inl h⟩⟩
  data:=fun b hb hn=>⟨h6 b hb fun e=>hn (e▸hM),fun h=>h.elim hn fun e=>(by
   rcases hbb with h'|h'
   .exact hn ((e.trans h')▸hM)
   grind)⟩
  bL:=by rw[bL];simp
  fresh:=fun id dU=>by
   grind
  eP:=fun id dU=>by
   have:id=0:=zO
   subst this;unfold dL;grind }
 refine⟨_,rfl,fB,?_,rfl,?_⟩
 .exact {
   lt:=fun id dU=>hbl
   eP:=fun id o ho=>by
    match id,ho with
    |0,ho =>
     injection ho with ho;subst ho;refine⟨t,c,hh,by (rcases hz with rfl|rfl|rfl|rfl<;>omega),hy,fun k j hk hj=>?_⟩;obtain⟨v,a1,a2,a3⟩:=hc k j hk hj;exact⟨v,a1,a2,a3.step fB⟩
   inj:=fun i j hi hj _=>by
    have:i<1:=hi;have:j<1:=hj;omega
   gW:=fun id o ho bA=>.inr rfl
   ng:=hG.gD fB }
 .exact .aU 0 (g+1) 0 y.length _ ⟨rfl,yM,fun _=>⟨some ⟨bb,0,none⟩,cap,c,t,rfl,fun _=>by rw[Nat.zero_mul],pK,Zf,hh,by (rcases hz with rfl|rfl|rfl|rfl<;>omega)⟩⟩
variable {i:Nat}
theorem VG{x:List (List AV)}{b:List AV}{k:Nat}(hi:i<=x.length)(hk:k<(x.take i++[b]++x.drop i).length) :
 (x.take i++[b]++x.drop i).getD k []=if k<i then x.getD k []else if k=i then b else x.getD (k-1) []:=by
 have hl:(x.take i).length=i:=by rw[y22];omega
 simp only[yB];by_cases h1:k<i
 .grind
 .grind
set_option maxHeartbeats 2000000 in
theorem uL{F z tE B:Nat}{zB:Value}(hz:z=3\/z=5\/z=7\/z=11)(hB:B<=144)(hzB:zB.cells.size=z)(hS:X8 F z)(hg:Yb F z tE B zB)(x w:List (List AV))(b:List AV)(g i:Nat)(hb7:b.length=z)(hi:i<x.length)(hx:x.length<=1000000000):ak P G F [.aU 0 g 0 x.length,int i,.sl z false [b]] [.aN g z false (x++w)] (.ret (.aU 0 (g+1) 0 (x.take i++[b]++x.drop i).length)) [.aN (g+1) z false (x.take i++[b]++x.drop i)]:=by
 intro V vs hH hG hr;rw[callsIn_wide];obtain⟨v0,v1,v2,rfl⟩:∃v0 v1 v2,vs=[v0,v1,v2]:=by
  have:=hr.1
  match vs,this with
  |[a,b,c],_=>exact⟨a,b,c,rfl⟩
 have e1:=bW hr.tail.head;subst e1;have hs:=jF hr.tail.tail.head;have ho:=(wV hr.head).2;have hH0:V.H[0]?=some (.aN g z false (x++w)):=by rw[hH];rfl
 rw[hH0]at ho;obtain⟨A,cap,c,t,rfl,hA,uQ,Zf,kZ,Dy⟩:=ho.2 rfl;obtain⟨t',c',M6,aqy,akj,af6⟩:=hG.eP 0 _ hH0;rw[kZ]at M6;injection M6 with M6;injection M6 with ec et;subst ec et;have acD:∀r∈x,r.length=z:=fun r hr=>akj r (y07 _ hr);have lT:∀k j,k<x.length->j<z->∃v,c[k*z+j]?=some v/\v.oneCell'=true/\dI V ((x.getD k []).getD j .aP) v:=fun k j hk hj=>by
  have:=af6 k j (by rw[yD];omega) hj;rwa[show(x++w).getD k []=x.getD k [] by rw[yB,yB,getElem?_append_left hk]]at this
 have akk:cap≠0:=zO
 rw[y12]at Dy;rw[hA akk,Nat.zero_mul];cases hs with
 |sl _ _ _ A2 cap2 vb vo f hA2 XB aqp ht2 aqz Zg ho2 Y7 =>
  have e2:=hA2 zS;subst e2;have hMb:=XB zS zO;have hM:=hG.gW 0 _ hH0 rfl;have fF:vb≠V.ρ 0:=fun e=>hMb (e▸hM);have hbw:=hG.lt 0 (by rw[hH];exact Nat.zero_lt_one);have aqA:=M7 (Zg 0 0 Nat.zero_lt_one zO);obtain⟨VS,hVS⟩:∃VS:List Value,VS=(List.range z).map (f 0):=⟨_,rfl⟩;obtain⟨CS,hCS⟩:∃CS:List Value,CS=c.toList.take (x.length*z):=⟨_,rfl⟩;have Cv:VS.length=z:=by rw[hVS];simp
  have lG:CS.length=x.length*z:=by rw[hCS,y22,show c.toList.length=c.size from Array.length_toList];(rcases hz with rfl|rfl|rfl|rfl<;>omega)
  have hVg:∀j,j<z->VS[j]?=some (f 0 j):=fun j hj=>by rw[hVS];simp[hj]
  have hCg:∀j,j<x.length*z->CS[j]?=c[j]? := fun j hj=>by rw[hCS,getElem?_take,yL hj,Array.getElem?_toList]
  have Ev:∀j v,VS[j]?=some v->V.w.cell? ⟨vb,vo+j,none⟩=some v:=fun j v hj=>by
   have hj7:j<z:=by rw[<- Cv];exact(yC.1 hj).1
   rw[hVg j hj7]at hj;have h1:=Zg 0 j Nat.zero_lt_one hj7;rw[<- Option.some.inj hj];simpa using h1
  have jQ:∀j v,CS[j]?=some v->V.w.cell? ⟨V.ρ 0,j,none⟩=some v:=fun j v hj=>by
   have JN:j<x.length*z:=by rw[<- lG];exact(yC.1 hj).1
   rw[hCg j JN]at hj;simp only[World.cell?,kZ];exact hj
  have Gz:∀v∈VS,v.oneCell'=true:=fun v hv=>by
   rw[hVS]at hv;obtain⟨j,hj,rfl⟩:=yG.1 hv;exact ho2 0 j Nat.zero_lt_one (mem_range.1 hj)
  have Gy:∀v∈CS,v.oneCell'=true:=fun v hv=>by
   obtain⟨j,hj,e⟩:=getElem_of_mem hv;have hj':j<x.length*z:=zO
   obtain⟨u,hu,VH,_⟩:=lT (j/z) (j % z) (by (rcases hz with rfl|rfl|rfl|rfl<;>omega)) (Nat.mod_lt _ zO);rw[show j/z*z+j % z=j by (rcases hz with rfl|rfl|rfl|rfl<;>omega)]at hu;have:CS[j]?=some v:=by rw[yA hj,e]
   rw[hCg j hj',hu]at this;rw[<- Option.some.inj this];exact VH
  have hy:(x.take i++[b]++x.drop i).length=x.length+1:=by simp;omega
  have QV:∀r∈x.take i++[b]++x.drop i,r.length=z:=fun r hr=>by
   rcases yI.1 hr with hr|hr
   .grind
   .grind
  have Xl:(CS.drop (i*z)).length=(x.length-i)*z:=by rw[length_drop,lG,Nat.sub_mul]
  have fin:∀(W:World)(bb:Nat)(c1:Array Value)(t1:TypeId),W.heap[bb]?=some (.cells c1 t1 (0,0))->(∀j v,j<i*z->CS[j]?=some v->W.cell? ⟨bb,j,none⟩=some v)->(∀j (hj:j<z),W.cell? ⟨bb,i*z+j,none⟩=some (VS[j]'zO))->(∀j (hj:j<(CS.drop (i*z)).length),W.cell? ⟨bb,(i+1)*z+j,none⟩=some (CS.drop (i*z))[j]) ->
   ∀k j,k<(x.take i++[b]++x.drop i).length->j<z->∃v,c1[k*z+j]?=some v/\v.oneCell'=true/\dI V (((x.take i++[b]++x.drop i).getD k []).getD j .aP) v:=fun W bb c1 t1 hh k1 k2 k3 k j hk hj=>by
   have hW:∀q v,W.cell? ⟨bb,q,none⟩=some v->c1[q]?=some v:=fun q v h=>by
    simp only[World.cell?,hh]at h;exact h
   rw[VG zO hk];rw[hy]at hk;by_cases h1:k<i
   .rw [yL h1];obtain⟨u,hu,VH,VD⟩:=lT k j zO hj;exact⟨u,hW _ _ (k1 _ u (by (rcases hz with rfl|rfl|rfl|rfl<;>omega)) (by rw[hCg _ (by (rcases hz with rfl|rfl|rfl|rfl<;>omega))];exact hu)),VH,VD⟩
   .rw [yK h1];by_cases h2:k=i
    .subst h2;rw[yL rfl];refine⟨f 0 j,?_,ho2 0 j Nat.zero_lt_one hj,.pure _ _ (Y7 0 j Nat.zero_lt_one hj)⟩;rw[hW _ _ (k2 j hj)];have:=hVg j hj;rw[yA zO]at this;exact this
    .rw [yK h2];obtain⟨u,hu,VH,VD⟩:=lT (k-1) j zO hj;refine⟨u,?_,VH,VD⟩;have hq:(k-1)*z+j-i*z<(CS.drop (i*z)).length:=by rw[Xl];(rcases hz with rfl|rfl|rfl|rfl<;>omega)
     have:=k3 ((k-1)*z+j-i*z) hq;rw[show(i+1)*z+((k-1)*z+j-i*z)=k*z+j by (rcases hz with rfl|rfl|rfl|rfl<;>omega)]at this;rw[hW _ _ this];have hg:CS[(k-1)*z+j]?=some u:=by rw[hCg _ (by (rcases hz with rfl|rfl|rfl|rfl<;>omega))];exact hu
     rw[<- yA hq,getElem?_drop,show i*z+((k-1)*z+j-i*z)=(k-1)*z+j by (rcases hz with rfl|rfl|rfl|rfl<;>omega)];exact hg
  rcases y11 cap (x.length+1)with gY|gY
  .have FZ:=hg (V.ρ 0) x.length cap i vb vo cap2 CS VS V.w hi uQ gY (y10 (Nat.mul_le_mul_left _ hB) zO) lG Cv jQ Ev Gy Gz;refine Calls.mono FZ fun e w' he=>?_;obtain⟨rfl,rfl⟩:=he;have hGn:x.length+1<=grownCap V.w (x.length+1) cap tE:=grownCap_ge V.w _ _ _;have hGm:=grownCap_le_maxLen V.w (x.length+1) cap tE (by unfold maxLen;omega);obtain⟨GG,hGG⟩:∃GG,GG=grownCap V.w (x.length+1) cap tE:=⟨_,rfl⟩;rw[<- hGG]at hGn hGm |-;have hRs:=KQ hzB _ _ _ _ lG hi hGn;have hRt:∀j v,j<i*z->CS[j]?=some v->(M5 zB z CS x.length i GG)[j]?=some v:=fun j v hj hv=>by
    rw[M5,Array.append_assoc,Array.getElem?_append_left (by rw[size_toArray,y22];(rcases hz with rfl|rfl|rfl|rfl<;>omega)),getElem?_toArray,getElem?_take,yL hj,hv]
   obtain⟨oJ,yg⟩:∃oJ,oJ=M5 zB z CS x.length i GG:=⟨_,rfl⟩;rw[<- yg]at hRs hRt |-;obtain⟨W0,hW0⟩:∃W0,W0=V.w.alloc (.cells oJ tE):=⟨_,rfl⟩;have aqB:W0.heap.size=V.w.heap.size+1:=by rw[hW0];exact RL _ _
   have akl:W0.heap[V.w.heap.size]?=some (.cells oJ tE):=by rw[hW0];exact VE _ _ _
   have akm:∀j,W0.cell? ⟨V.w.heap.size,j,none⟩=oJ[j]? := fun j=>by simp only[World.cell?,akl];rfl
   have anG:∀k,k<V.w.heap.size->W0.heap[k]?=V.w.heap[k]? := fun k hk=>by rw[hW0];exact alloc_old _ _ _ hk
   have w1:W0.os=V.w.os:=by rw[hW0];rfl
   have w2:W0.tape=V.w.tape:=by rw[hW0];rfl
   have w3:W0.output=V.w.output:=by rw[hW0];rfl
   have w4:W0.drawn=V.w.drawn:=by rw[hW0];rfl
   rw[<- hW0];clear hW0 yg hGG FZ;obtain⟨a1,a2,a3,a4,a5,a6⟩:=mO V.w.heap.size VS (i*z) W0.drew;obtain⟨b1,b2,b3,b4,b5,b6⟩:=mO V.w.heap.size (CS.drop (i*z)) ((i+1)*z) ((W0.drew.setCells V.w.heap.size (i*z) VS).drew);obtain⟨d1,g1,s1⟩:=mP V.w.heap.size VS (i*z) W0.drew akl;obtain⟨d2,g2,s2⟩:=mP V.w.heap.size (CS.drop (i*z)) ((i+1)*z) ((W0.drew.setCells V.w.heap.size (i*z) VS).drew) g1;have IL:∀j,j<(x.length+1)*z->(W0.drew.cell? ⟨V.w.heap.size,j,none⟩).isSome=true:=fun j hj=>by
    have hj':j<oJ.size:=by (rcases hz with rfl|rfl|rfl|rfl<;>omega)
    show(W0.cell? _).isSome=true;rw[akm,Array.getElem?_eq_getElem hj'];rfl
   have RN:∀j,j<(x.length+1)*z->((W0.drew.setCells V.w.heap.size (i*z) VS).cell? ⟨V.w.heap.size,j,none⟩).isSome=true:=fun j hj =>
    isSome_setCells V.w.heap.size VS (i*z) W0.drew (fun k hk=>IL (i*z+k) (by rw[Cv]at hk;(rcases hz with rfl|rfl|rfl|rfl<;>omega))) j (IL j hj)
   rw[<- hy];refine Pj hz hH hG (.inr yM) ?_ ?_ ?_ ?_ ?_ ?_ ?_ g2 ?_ (by rw[hy];exact hGn) hGm QV ?_
   .rw [b1];show(W0.drew.setCells V.w.heap.size (i*z) VS).os=_;rw[a1];exact w1
   .rw [b2];show(W0.drew.setCells V.w.heap.size (i*z) VS).tape=_;rw[a2];exact w2
   .rw [b3];show(W0.drew.setCells V.w.heap.size (i*z) VS).output=_;rw[a3];exact w3
   .rw [b5];show _<=(W0.drew.setCells V.w.heap.size (i*z) VS).heap.size;rw[a5];show _<=W0.heap.size;omega
   .rw [b4];show _<=(W0.drew.setCells V.w.heap.size (i*z) VS).drawn+1;rw[a4];show _<=W0.drawn+1+1;omega
   .intro k hk _;rw[b6 k zO];show(W0.drew.setCells V.w.heap.size (i*z) VS).heap[k]?=_;rw[a6 k zO];exact anG k hk
   .rw [b5];show _<(W0.drew.setCells V.w.heap.size (i*z) VS).heap.size;rw[a5];show _<W0.heap.size;omega
   .rw [s2,s1];omega
   .refine fin _ _ d2 _ g2 (fun j v hj hv=>?_) (fun j hj=>?_) fun j hj=>?_
    .rw [World.cell?_setCells_out _ _ _ _ _ (fun _ _=>.inl (by show j<(i+1)*z;(rcases hz with rfl|rfl|rfl|rfl<;>omega)))];show(W0.drew.setCells V.w.heap.size (i*z) VS).cell? _=_;rw[World.cell?_setCells_out _ _ _ _ _ (fun _ _=>.inl hj)];show W0.cell? _=_;rw[akm];exact hRt j v hj hv
    .rw [World.cell?_setCells_out _ _ _ _ _ (fun _ _=>.inl (by show i*z+j<(i+1)*z;(rcases hz with rfl|rfl|rfl|rfl<;>omega)))];exact World.cell?_setCells_in V.w.heap.size VS (i*z) W0.drew (fun k hk=>IL (i*z+k) (by rw[Cv]at hk;(rcases hz with rfl|rfl|rfl|rfl<;>omega))) j zO
    .exact World.cell?_setCells_in V.w.heap.size (CS.drop (i*z)) ((i+1)*z) (W0.drew.setCells V.w.heap.size (i*z) VS).drew (fun k hk=>RN ((i+1)*z+k) (by rw[Xl]at hk;(rcases hz with rfl|rfl|rfl|rfl<;>omega))) j hj
  .have hvc:=Ev 0 _ (hVg 0 zO);obtain⟨tA,kA,OD,QA⟩:∃tA kA,V.w.shape? vb=some (tA,kA)/\kA≠0:=by
    unfold World.cell? at hvc;simp only at hvc;split at hvc
    .rename_i c2 t2 f2 hq;refine⟨t2,c2.size,by simp[World.shape?,hq],?_⟩;have:c2[vo]?=some (f 0 0):=by simpa using hvc
     have:=(Array.getElem?_eq_some_iff.1 this).1;omega
    .cases hvc
   have FZ:=hS (V.ρ 0) x.length cap i vb vo cap2 CS VS V.w hi gY (by unfold maxLen at Zf;omega) fF lG Cv jQ
    (fun j hj=>by simp only[World.cell?,kZ];show(c[j]?).isSome=true;rw[Array.getElem?_eq_getElem (by (rcases hz with rfl|rfl|rfl|rfl<;>omega))];rfl) (fun j=>by simp[World.frozen?,kZ]) Ev Gy Gz tA t kA c.size OD (by simp[World.shape?,kZ]) QA (by (rcases hz with rfl|rfl|rfl|rfl<;>omega))
   refine Calls.mono FZ fun e w' he=>?_;obtain⟨rfl,rfl⟩:=he;obtain⟨a1,a2,a3,a4,a5,a6⟩:=mO (V.ρ 0) (CS.drop (i*z)) ((i+1)*z) V.w.drew;obtain⟨b1,b2,b3,b4,b5,b6⟩:=mO (V.ρ 0) VS (i*z) (V.w.drew.setCells (V.ρ 0) ((i+1)*z) (CS.drop (i*z)));obtain⟨d1,g1,s1⟩:=mP (V.ρ 0) (CS.drop (i*z)) ((i+1)*z) V.w.drew kZ;obtain⟨d2,g2,s2⟩:=mP (V.ρ 0) VS (i*z) _ g1;have IL:∀j,j<(x.length+1)*z->(V.w.drew.cell? ⟨V.ρ 0,j,none⟩).isSome=true:=fun j hj=>by
    show(V.w.cell? ⟨V.ρ 0,j,none⟩).isSome=true;simp only[World.cell?,kZ];show(c[j]?).isSome=true;rw[Array.getElem?_eq_getElem (by (rcases hz with rfl|rfl|rfl|rfl<;>omega))];rfl
   have RN:∀j,j<(x.length+1)*z->((V.w.drew.setCells (V.ρ 0) ((i+1)*z) (CS.drop (i*z))).cell? ⟨V.ρ 0,j,none⟩).isSome=true:=fun j hj =>
    isSome_setCells (V.ρ 0) (CS.drop (i*z)) ((i+1)*z) V.w.drew (fun k hk=>IL ((i+1)*z+k) (by rw[Xl]at hk;(rcases hz with rfl|rfl|rfl|rfl<;>omega))) j (IL j hj)
   rw[<- hy];refine Pj hz hH hG (.inl rfl) ?_ ?_ ?_ ?_ ?_ ?_ ?_ g2 ?_ (by rw[hy];exact gY) Zf QV ?_
   .rw [b1,a1];rfl
   .rw [b2,a2];rfl
   .rw [b3,a3];rfl
   .rw [b5,a5];exact yM
   .rw [b4,a4];show _<=V.w.drawn+1;omega
   .intro k hk fF;rw[b6 k fF,a6 k fF];rfl
   .rw [b5,a5];exact hbw
   .rw [s2,s1];exact Dy
   .refine fin _ _ d2 _ g2 (fun j v hj hv=>?_) (fun j hj=>?_) fun j hj=>?_
    .rw [World.cell?_setCells_out _ _ _ _ _ (fun _ _=>.inl hj),World.cell?_setCells_out _ _ _ _ _ (fun _ _=>.inl (by show j<(i+1)*z;(rcases hz with rfl|rfl|rfl|rfl<;>omega)))];exact jQ j v hv
    .exact World.cell?_setCells_in (V.ρ 0) VS (i*z) (V.w.drew.setCells (V.ρ 0) ((i+1)*z) (CS.drop (i*z))) (fun k hk=>RN (i*z+k) (by rw[Cv]at hk;(rcases hz with rfl|rfl|rfl|rfl<;>omega))) j zO
    .rw [World.cell?_setCells_out _ _ _ _ _ (fun _ _=>.inr (by show i*z+VS.length<=(i+1)*z+j;rw[Cv];(rcases hz with rfl|rfl|rfl|rfl<;>omega)))];exact World.cell?_setCells_in (V.ρ 0) (CS.drop (i*z)) ((i+1)*z) V.w.drew (fun k hk=>IL ((i+1)*z+k) (by rw[Xl]at hk;(rcases hz with rfl|rfl|rfl|rfl<;>omega))) j hj
variable {w:World}{cs vs:List Value}{b n c vb vo vc:Nat}
theorem Mi{tS tE:Nat}(hz:z=3\/z=5\/z=7\/z=11)(Iw:Tryz.prog.underlying tS=some (.slice tE))(iZ:(Tryz.prog.info? tE).map (·.size)=some z)(hi:i<n)(gY:n+1<=c)(Me:c<=9223372036854775807)(TF:vb≠b)(lG:cs.length=n*z)(Cv:vs.length=z)(jQ:∀j v,cs[j]?=some v->w.cell? ⟨b,j,none⟩=some v)(Q7:∀j,j<(n+1)*z->(w.cell? ⟨b,j,none⟩).isSome=true)(Qz:∀j,w.frozen? ⟨b,j,none⟩=false)(Ev:∀j v,vs[j]?=some v->w.cell? ⟨vb,vo+j,none⟩=some v)(Gy:∀v∈cs,v.oneCell'=true)(Gz:∀v∈vs,v.oneCell'=true){tA tB:TypeId}{kA kB:Nat}(OD:w.shape? vb=some (tA,kA))(NS:w.shape? b=some (tB,kB))(QA:kA≠0)(Q8:kB≠0) :
 ¬((i:Int)=(n:Int))/\IntKind.i64.wrap ((i:Int)+1)=(i:Int)+1/\IntKind.i64.wrap ((n:Int)+1)=(n:Int)+1/\(0:Int)<=(i:Int)+1/\i<=n/\((i:Int)+1).toNat=i+1/\¬(c=i+1)/\(i:Int)<=(n:Int)+1/\¬(c=i)/\∃W1,W1=w.drew.setCells b ((i+1)*z) (cs.drop (i*z))/\(∀ty dc sc,(Builtin.copy_ #[tS,tS] ty #[.slice (some ⟨b,(i+1)*z,none⟩) (n-i) dc,.slice (some ⟨b,i*z,none⟩) (n+1-i) sc]).run Tryz.prog w.drew = .ok (goInt ((n-i:Nat):Int)) (W1))/\(∀(W:World),(∀x,W.cell? x=W1.cell? x)->(∀x,W.frozen? x=W1.frozen? x)->∀ty dc,(Builtin.copy_ #[tS,tS] ty #[.slice (some ⟨b,i*z,none⟩) (n+1-i) dc,.slice (some ⟨vb,vo,none⟩) 1 vc]).run Tryz.prog W = .ok (goInt 1) (W.setCells b (i*z) vs)):=by
 have jw:¬((i:Int)=(n:Int)):=zO
 have OE:IntKind.i64.wrap ((i:Int)+1)=(i:Int)+1:=by rw[IntKind.wrap_i64];omega
 have hw2:IntKind.i64.wrap ((n:Int)+1)=(n:Int)+1:=by rw[IntKind.wrap_i64];omega
 have Xl:(cs.drop (i*z)).length=(n-i)*z:=by rw[length_drop,lG,Nat.sub_mul]
 have Mf:(0:Int)<=(i:Int)+1:=zO
 have vN:i<=n:=zO
 have X9:((i:Int)+1).toNat=i+1:=zO
 have XB:¬(c=i+1):=zO
 have Ya:(i:Int)<=(n:Int)+1:=zO
 have hb4:¬(c=i):=zO
 have J2:∀ty dc sc,(Builtin.copy_ #[tS,tS] ty #[.slice (some ⟨b,(i+1)*z,none⟩) (n-i) dc,.slice (some ⟨b,i*z,none⟩) (n+1-i) sc]).run Tryz.prog w.drew = .ok (goInt ((n-i:Nat):Int)) (w.drew.setCells b ((i+1)*z) (cs.drop (i*z))):=fun ty dc sc =>
  p9 w.drew _ _ ty tE z b ((i+1)*z) (n-i) dc ⟨b,i*z,none⟩ (n+1-i) sc (cs.drop (i*z)) (n-i) Iw iZ (by simp only[Nat.min_def];split<;>omega) Xl
   (fun j v hj=>by rw[Addr.add_lit];exact jQ (i*z+j) v (by rwa[getElem?_drop]at hj))
   (fun j hj=>by rw[Xl]at hj;exact Q7 _ (by (rcases hz with rfl|rfl|rfl|rfl<;>omega))) (fun j hj=>Qz _) (fun v hv=>Gy v (mem_of_mem_drop hv))
 obtain⟨W1,KF⟩:∃W1,W1=w.drew.setCells b ((i+1)*z) (cs.drop (i*z)):=⟨_,rfl⟩;have anH:∀k,k<(n+1)*z->(W1.cell? ⟨b,k,none⟩).isSome=true:=fun k hk=>by
  rw[KF];exact isSome_setCells b _ _ _ (fun j hj=>by rw[Xl]at hj;exact Q7 _ (by (rcases hz with rfl|rfl|rfl|rfl<;>omega))) _ (Q7 k hk)
 have Mh:∀(W:World),(∀x,W.cell? x=W1.cell? x)->(∀x,W.frozen? x=W1.frozen? x)->∀ty dc,(Builtin.copy_ #[tS,tS] ty #[.slice (some ⟨b,i*z,none⟩) (n+1-i) dc,.slice (some ⟨vb,vo,none⟩) 1 vc]).run Tryz.prog W = .ok (goInt 1) (W.setCells b (i*z) vs):=fun W hWc hWf ty dc =>
  p9 W _ _ ty tE z b (i*z) (n+1-i) dc ⟨vb,vo,none⟩ 1 vc vs 1 Iw iZ (by simp only[Nat.min_def];split<;>omega) zO
   (fun j v hj=>by
    rw[Addr.add_lit,hWc,KF,World.cell?_setCells_out b _ _ _ _ (fun h _=>absurd h TF)];exact Ev j v hj)
   (fun j hj=>by rw[hWc];exact anH _ (by (rcases hz with rfl|rfl|rfl|rfl<;>omega))) (fun j hj=>by rw[hWf,KF,World.frozen?_setCells];exact Qz _) Gz
 rw[<- KF]at J2;exact⟨jw,OE,hw2,Mf,vN,X9,XB,Ya,hb4,W1,KF,J2,Mh⟩
theorem TG{tS tE B:Nat}{zB:Value}(hz:z=3\/z=5\/z=7\/z=11)(hB:B=24\/B=56\/B=88\/B=144)(Iw:Tryz.prog.underlying tS=some (.slice tE))(iZ:(Tryz.prog.info? tE).map (·.size)=some z)(NS:(Tryz.prog.info? tE).map (fun i=>(i.size,i.bytes,i.zero))=some (z,B,some zB))(hzB:zB.cells.size=z)(hi:i<n)(hnc:n<=c)(gY:c<n+1)(Ia:(n+1)*B<=140737488355328)(lG:cs.length=n*z)(Cv:vs.length=z)(jQ:∀j v,cs[j]?=some v->w.cell? ⟨b,j,none⟩=some v)(Ev:∀j v,vs[j]?=some v->w.cell? ⟨vb,vo+j,none⟩=some v)(Gy:∀v∈cs,v.oneCell'=true)(Gz:∀v∈vs,v.oneCell'=true) :
 ∃G oJ,G=grownCap w (n+1) c tE/\oJ=M5 zB z cs n i G/\¬((i:Int)=(n:Int))/\(c:Int)<(n:Int)+1/\¬(G=i)/\¬(G=i+1)/\¬(c=i)/\IntKind.i64.wrap ((i:Int)+1)=(i:Int)+1/\(0:Int)<=(i:Int)+1/\i<=n/\((i:Int)+1).toNat=i+1/\(i:Int)<=(n:Int)/\n+1<=G/\G<=9223372036854775807/\(∀ty,(Builtin.append_ #[tS,3] ty #[.slice (some ⟨b,0,none⟩) i c,.int .i64 ((n:Int)+1-(i:Int))]).run Tryz.prog w =
  .ok (.slice (some ⟨w.heap.size,0,none⟩) (n+1) (G)) (w.drew.alloc (.cells oJ tE)))/\(∀(W:World),(∀x,W.cell? x=(w.drew.alloc (.cells oJ tE)).cell? x)->(∀x,W.frozen? x=(w.drew.alloc (.cells oJ tE)).frozen? x)->∀ty dc,(Builtin.copy_ #[tS,tS] ty #[.slice (some ⟨w.heap.size,i*z,none⟩) (n+1-i) dc,.slice (some ⟨vb,vo,none⟩) 1 vc]).run Tryz.prog W = .ok (goInt 1) (W.setCells w.heap.size (i*z) vs))/\(∀(W:World),(∀x,W.cell? x=((w.drew.alloc (.cells oJ tE)).setCells w.heap.size (i*z) vs).cell? x)->(∀x,W.frozen? x=((w.drew.alloc (.cells oJ tE)).setCells w.heap.size (i*z) vs).frozen? x)->∀ty dc sc,(Builtin.copy_ #[tS,tS] ty #[.slice (some ⟨w.heap.size,(i+1)*z,none⟩) (n-i) dc,.slice (some ⟨b,i*z,none⟩) (n-i) sc]).run Tryz.prog W = .ok (goInt ((n-i:Nat):Int)) (W.setCells w.heap.size ((i+1)*z) (cs.drop (i*z)))):=by
 have jw:¬((i:Int)=(n:Int)):=zO
 have x9:(c:Int)<(n:Int)+1:=zO
 obtain⟨i0,hj0,QC,hzb,bS⟩:∃i0,Tryz.prog.info? tE=some i0/\i0.size=z/\i0.bytes=B/\i0.zero=some zB:=by simp_all
 have hbw:b<w.heap.size:=block_lt_of_cell (jQ 0 _ (yA (by (rcases hz with rfl|rfl|rfl|rfl<;>omega))));have hvw:=block_lt_of_cell (Ev 0 _ (yA zO));have hkk:(n:Int)+1-(i:Int)=((n+1-i:Nat):Int):=zO
 have hik:i+(n+1-i)=n+1:=zO
 have Zh:(Builtin.firstCells i0.size i (.slice (some ⟨b,0,none⟩) i c)).run Tryz.prog w.drew = .ok (cs.take (i*z)).toArray w.drew:=by
  rw[QC];exact run_firstCells_some w.drew z i ⟨b,0,none⟩ i c (cs.take (i*z)) (by rw[y22];(rcases hz with rfl|rfl|rfl|rfl<;>omega)) (fun j v hj=>by
   rw[Addr.add_lit,y12];rw[getElem?_take]at hj;split at hj
   .exact jQ j v hj
   .cases hj)
 have Xf:∀ty,(Builtin.append_ #[tS,3] ty #[.slice (some ⟨b,0,none⟩) i c,.int .i64 ((n:Int)+1-(i:Int))]).run Tryz.prog w =
  .ok (.slice (some ⟨w.heap.size,0,none⟩) (n+1) (grownCap w (n+1) c tE)) (w.drew.alloc (.cells (M5 zB z cs n i (grownCap w (n+1) c tE)) tE)):=fun ty=>by
  have h:=Lib.run_append_grow_zeros w tS 3 ty tE i0 zB .i64 .i64 Iw Tryz.underlying3 hj0 bS (some ⟨b,0,none⟩) i c (cs.take (i*z)) Zh (n+1-i) zO zO zO (by (rcases hB with rfl|rfl|rfl|rfl<;>omega)) (by rw[hzb];(rcases hB with rfl|rfl|rfl|rfl<;>omega)) (by rw[hzb,hik];exact growslice_fits gY Ia);rw[hik]at h;rw[hkk];exact h
 obtain⟨G,hG⟩:∃G,G=grownCap w (n+1) c tE:=⟨_,rfl⟩;have hGn:n+1<=G:=by rw[hG];exact grownCap_ge w _ _ _
 have Yd:G<=9223372036854775807:=by
  have:=grownCap_le_maxLen w (n+1) c tE (by unfold maxLen;(rcases hB with rfl|rfl|rfl|rfl<;>omega));rw[<- hG]at this;unfold maxLen at this;omega
 obtain⟨oJ,yg⟩:∃oJ:Array Value,oJ=M5 zB z cs n i G:=⟨_,rfl⟩;rw[<- hG]at Xf;rw[<- yg]at Xf;have hRl:oJ.size=G*z:=by rw[yg];exact KQ hzB cs n i G lG hi hGn
 obtain⟨W1,KF⟩:∃W1,W1=w.drew.alloc (.cells oJ tE):=⟨_,rfl⟩;rw[<- KF]at Xf;have hN:∀j,j<(n+1)*z->(W1.cell? ⟨w.heap.size,j,none⟩).isSome=true:=fun j hj=>by
  rw[KF,World.cell?_alloc_at (w:=w.drew) oJ _ w.heap.size j rfl,Array.getElem?_eq_getElem (by (rcases hz with rfl|rfl|rfl|rfl<;>omega))];rfl
 have hNf:∀j,W1.frozen? ⟨w.heap.size,j,none⟩=false:=fun j=>by rw[KF];exact World.frozen?_alloc_at (w:=w.drew) oJ _ w.heap.size j rfl
 have hOb:∀j v,w.cell? ⟨b,j,none⟩=some v->W1.cell? ⟨b,j,none⟩=some v:=fun j v h=>by rw[KF,World.cell?_alloc_past (w:=w.drew) _ b j hbw];exact h
 have hOv:∀j v,w.cell? ⟨vb,j,none⟩=some v->W1.cell? ⟨vb,j,none⟩=some v:=fun j v h=>by rw[KF,World.cell?_alloc_past (w:=w.drew) _ vb j hvw];exact h
 have Mj:∀(W:World),(∀x,W.cell? x=W1.cell? x)->(∀x,W.frozen? x=W1.frozen? x)->∀ty dc,(Builtin.copy_ #[tS,tS] ty #[.slice (some ⟨w.heap.size,i*z,none⟩) (n+1-i) dc,.slice (some ⟨vb,vo,none⟩) 1 vc]).run Tryz.prog W = .ok (goInt 1) (W.setCells w.heap.size (i*z) vs):=fun W hWc hWf ty dc =>
  p9 W _ _ ty tE z w.heap.size (i*z) (n+1-i) dc ⟨vb,vo,none⟩ 1 vc vs 1 Iw iZ (by simp only[Nat.min_def];split<;>omega) zO
   (fun j v hj=>by rw[Addr.add_lit,hWc];exact hOv _ v (Ev j v hj))
   (fun j hj=>by rw[hWc];exact hN _ (by (rcases hz with rfl|rfl|rfl|rfl<;>omega))) (fun j hj=>by rw[hWf];exact hNf _) Gz
 have hGi:¬(G=i):=zO
 have Yc:¬(G=i+1):=zO
 have hci:¬(c=i):=zO
 have hbN:b≠w.heap.size:=zO
 have Xl:(cs.drop (i*z)).length=(n-i)*z:=by rw[length_drop,lG,Nat.sub_mul]
 have ED:∀(W:World),(∀x,W.cell? x=(W1.setCells w.heap.size (i*z) vs).cell? x)->(∀x,W.frozen? x=(W1.setCells w.heap.size (i*z) vs).frozen? x)->∀ty dc sc,(Builtin.copy_ #[tS,tS] ty #[.slice (some ⟨w.heap.size,(i+1)*z,none⟩) (n-i) dc,.slice (some ⟨b,i*z,none⟩) (n-i) sc]).run Tryz.prog W = .ok (goInt ((n-i:Nat):Int)) (W.setCells w.heap.size ((i+1)*z) (cs.drop (i*z))):=fun W hWc hWf ty dc sc =>
  p9 W _ _ ty tE z w.heap.size ((i+1)*z) (n-i) dc ⟨b,i*z,none⟩ (n-i) sc (cs.drop (i*z)) (n-i) Iw iZ (by simp only[Nat.min_def];split<;>omega) Xl
   (fun j v hj=>by
    rw[Addr.add_lit,hWc,World.cell?_setCells_out _ _ _ _ _ (fun h _=>absurd h hbN)];exact hOb _ v (jQ (i*z+j) v (by rwa[getElem?_drop]at hj)))
   (fun j hj=>by rw[Xl]at hj;rw[hWc];exact isSome_setCells _ _ _ _ (fun t ht=>hN _ (by (rcases hz with rfl|rfl|rfl|rfl<;>omega))) _ (hN _ (by (rcases hz with rfl|rfl|rfl|rfl<;>omega))))
   (fun j hj=>by rw[hWf,World.frozen?_setCells];exact hNf _) (fun v hv=>Gy v (mem_of_mem_drop hv))
 subst KF;have OE:IntKind.i64.wrap ((i:Int)+1)=(i:Int)+1:=by rw[IntKind.wrap_i64];omega
 have Mf:(0:Int)<=(i:Int)+1:=zO
 have vN:i<=n:=zO
 have X9:((i:Int)+1).toNat=i+1:=zO
 have Ya:(i:Int)<=(n:Int):=zO
 exact⟨G,oJ,hG,yg,jw,x9,hGi,Yc,hci,OE,Mf,vN,X9,Ya,hGn,Yd,Xf,Mj,ED⟩
end Go.OC
namespace Go.Dc
open Go Go.Am Go.Proofs Go.eY Go.Lib Go.OC
set_option maxHeartbeats 4000000 in
theorem pz:OC.X8 57 7:=by
 intro b n c i vb vo vc cs vs w hi gY Me TF lG Cv jQ Q7 Qz Ev Gy Gz tA tB kA kB OD NS QA Q8;have iZ:(Tryz.prog.info? 90).map (·.size)=some 7:=zQ
 have hov:∀lb cb o,(callFunc 89 #[.slice (some ⟨vb,vo,none⟩) 1 vc,.slice (some ⟨b,o,none⟩) lb cb]).run Tryz.prog w = .ok (.value (.bool false)) w:=fun lb cb o=>by
  rw[run_callFunc_extern Tryz.func89 zQ zQ zQ (e:=Extern.SlicesOverlaps.overlaps #[39,39] #[4]) zQ,
   lX w 39 4 90 Tryz.underlying39 7 Tryz.sizeOf90 ⟨vb,vo,none⟩ ⟨b,o,none⟩ 1 vc lb cb TF tA tB kA kB OD NS QA Q8 Qz rfl]
  rfl
 have mixed:Tryz.prog.follows .mixedOrders=true:=zQ
 obtain⟨jw,OE,hw2,Mf,vN,X9,XB,Ya,hb4,W1,KF,J2,Mh⟩:=Mi (vc:=vc) (tS:=39) (tE:=90) (z:=7) zD Tryz.underlying39 iZ hi gY Me TF lG Cv jQ Q7 Qz Ev Gy Gz OD NS QA Q8
 go_enter Tryz.func57,Tryz.ntmps57
 go_wp2_with (simp only[hov])
 go_region_law_o (refine step_copy_runI rfl _ _ 39 39 rfl _ _ (by simp[Act.eval,Act.put]) (by simp[Act.eval,Act.put]) (J2 _ _ _) ?_)
 go_wp2_with (at_builtin;refine wpList_copy_runI _ rfl _ _ 39 39 rfl _ _ rfl rfl (Mh _ (fun _=>rfl) (fun _=>rfl) _ _) ?_)
 go_ret
 first|exact⟨rfl,rfl⟩|exact⟨rfl,by rw[KF]⟩
abbrev zB:Value:=.agg #[.int .i64 0,.string ⟨#[]⟩,.slice none 0 0,.slice none 0 0,.slice none 0 0,.slice none 0 0,.slice none 0 0]
set_option maxHeartbeats 4000000 in
theorem sU:OC.Yb 57 7 90 144 zB:=by
 intro b n c i vb vo vc cs vs w hi hnc gY Ia lG Cv jQ Ev Gy Gz;have iZ:(Tryz.prog.info? 90).map (·.size)=some 7:=zQ
 have mixed:Tryz.prog.follows .mixedOrders=true:=zQ
 obtain⟨G,oJ,hG,yg,jw,x9,hGi,Yc,hci,OE,Mf,vN,X9,Ya,hGn,Yd,Xf,Mj,ED⟩:=TG (vc:=vc) (tS:=39) (tE:=90) (z:=7) (B:=144) (zB:=zB) zD zD Tryz.underlying39 iZ zQ rfl hi hnc gY Ia lG Cv jQ Ev Gy Gz;rw[<- hG,<- yg];have hE1:∀x,((w.alloc (.cells oJ 90)).drew).cell? x=(w.drew.alloc (.cells oJ 90)).cell? x:=fun x=>rfl;have hE2:∀x,((w.alloc (.cells oJ 90)).drew).frozen? x=(w.drew.alloc (.cells oJ 90)).frozen? x:=fun x=>rfl;have Ko:∀x,(((w.alloc (.cells oJ 90)).drew.setCells w.heap.size (i*7) vs).drew).cell? x=((w.drew.alloc (.cells oJ 90)).setCells w.heap.size (i*7) vs).cell? x:=fun x=>rfl;have hF2:∀x,(((w.alloc (.cells oJ 90)).drew.setCells w.heap.size (i*7) vs).drew).frozen? x=((w.drew.alloc (.cells oJ 90)).setCells w.heap.size (i*7) vs).frozen? x:=fun x=>rfl;clear yg hG
 go_enter Tryz.func57,Tryz.ntmps57
 go_wp2_with (first
  |(at_builtin;refine Lib.wpList_append_run _ rfl _ _ _ _ rfl _ _ rfl rfl _ _ (Xf _) ?_)
  |(at_builtin;refine wpList_copy_runI _ rfl _ _ 39 39 rfl _ _ rfl rfl (Mj _ hE1 hE2 _ _) ?_)
  |(at_builtin;refine wpList_copy_runI _ rfl _ _ 39 39 rfl _ _ rfl rfl (ED _ (fun _=>rfl) (fun _=>rfl) _ _ _) ?_))
 go_region_law_o (refine step_copy_runI rfl _ _ 39 39 rfl (.slice (some ⟨w.heap.size,(i+1)*7,none⟩) (n-i) (G-(i+1))) (.slice (some ⟨b,i*7,none⟩) (n-i) (c-i)) (by simp[Act.eval,Act.put]) (by simp[Act.eval,Act.put]) (ED _ Ko hF2 3 (G-(i+1)) (c-i)) ?_)
 go_wp2
 go_ret
 exact⟨rfl,rfl⟩
end Go.Dc
namespace Go.Dc
open Go Go.Am Go.Proofs Go.eY Go.Lib
theorem uL x(b:List AV)(g i:Nat)(hb7:b.length=7)(hi:i<x.length)(hx:x.length<=1000000000):ak P G 57 [.aU 0 g 0 x.length,int i,.sl 7 false [b]] [.aN g 7 false x] (.ret (.aU 0 (g+1) 0 (x.take i++[b]++x.drop i).length)) [.aN (g+1) 7 false (x.take i++[b]++x.drop i)]:=by
 have h:=OC.uL  (z:=7)    zD zD rfl pz sU x [] b g i hb7 hi hx;grind
end Go.Dc
namespace Go.Dc
open Go Go.Am Go.Proofs Go.eY Go.bH
theorem anI l(g:Nat)b(hl:l.length<=1000000)(out:aS)H'(h:(aS.ret (AV.aU 0 (g+1) 0 (length (l++[b])))=out)/\([ah.aN (g+1) 7 false (dA (l++[b]))]=H')):ak P G 57 [.aU 0 g 0 l.length,int ↑l.length,.sl 7 false [jB b]] [ah.aN g 7 false (dA l)] out H':=by
 have bS:g=g:=(rfl);obtain⟨e1,eH⟩:=h;exact ak.heap (e1▸((aj [kp bS,Ga l.length l.length l.length,kY,kp bS,kt (show((l.length:Int)==l.length)=true from(qT zO)),ko (bC.hp (some 25) (AV.aU 0 (g+1) 0 (length (l++[b]))) [ah.aN (g+1) 7 false (dA (l++[b]))]),kp (show Am.aF (AV.aU 0 (g+1) 0 (length l+1)) (AV.aU 0 (g+1) 0 (length (l++[b])))from(aF.of_eq (by simp[fE]))),kp (show Am.HSub [ah.aN (g+1) 7 false (dA l++[[int b.pk,str b.pn,AV.sl 9 false (Sq.au b.ce),AV.sl 5 false (Bd.au b.bi),AV.sl 3 false (lH b.ta),AV.sl 9 false (Sq.au b.tc),AV.sl 11 false (Tx.au b.tm)]])] [ah.aN (g+1) 7 false (dA (l++[b]))]from(⟨.inl (by simp only[TW]),yO⟩)),kp bS,kp (fE l).symm,vV ((length l+1)*144)]))) eH
theorem anJ b(out:aS)H'(h:(aS.ret (AV.aU 0 0 0 1)=out)/\([ah.aN 0 7 false [[int b.pk,str b.pn,AV.sl 9 false (Sq.au b.ce),AV.sl 5 false (Bd.au b.bi),AV.sl 3 false (lH b.ta),AV.sl 9 false (Sq.au b.tc),AV.sl 11 false (Tx.au b.tm)]]]=H')):ak P G 57 [.sl 7 true [],int 0,.sl 7 false [jB b]] [] out H':=by
 obtain⟨e1,eH⟩:=h;exact ak.heap (e1▸((aj [Ga 0 0 0,kY,kO,Qx [int b.pk,str b.pn,AV.sl 9 false (Sq.au b.ce),AV.sl 5 false (Bd.au b.bi),AV.sl 3 false (lH b.ta),AV.sl 9 false (Sq.au b.tc),AV.sl 11 false (Tx.au b.tm)],vV 144]))) eH
theorem af7 l(g i:Nat)b(hi:i<=l.length)(hl:l.length<=1000000):ak P G 57 [.aU 0 g 0 l.length,int i,.sl 7 false [jB b]] [.aN g 7 false (dA l)] (.ret (.aU 0 (g+1) 0 (l.take i++[b]++l.drop i).length)) [.aN (g+1) 7 false (dA (l.take i++[b]++l.drop i))]:=by
 rcases y11 i l.length with h|h
 .have k:=uL (dA l) (jB b) g i rfl (by rw[fE];exact h) (by rw[fE];omega);have e:(dA l).take i++[jB b]++(dA l).drop i=dA (l.take i++[b]++l.drop i):=by simp[dA]
  rw[e,fE,fE]at k;exact k
 .obtain rfl:i=l.length:=zO
  rw[take_length,drop_length,y23];exact anI l g b hl _ _ ⟨rfl,rfl⟩
theorem af8 b:ak P G 57 [.sl 7 true [],int 0,.sl 7 false [jB b]] [] (.ret (.aU 0 0 0 1)) [.aN 0 7 false (dA [b])]:=anJ b _ _ ⟨rfl,rfl⟩
def Fx(o:bV.OP):FD:=⟨o.pk,o.pn,[],[],[],[],[]⟩
theorem Zi o:aF (.sl 7 true [[int o.pk,str o.pn,aK,aK,aK,aK,aK]]) (.sl 7 false [jB (Fx o)]) :=
 aF.anK rfl (fun y hy=>by rw[mem_singleton.1 hy];rfl) fun k j hk hj=>by
  obtain rfl:k=0:=by have:k<1:=hk;omega
  match j,hj with
  |0,_=>exact xP.refl _
  |1,_=>exact xP.refl _
  |2,_=>exact xP.nil 9
  |3,_=>exact xP.nil 5
  |4,_=>exact xP.nil 3
  |5,_=>exact xP.nil 9
  |6,_=>exact xP.nil 11
theorem af9 l(g i:Nat)o(hi:i<=l.length)(hl:l.length<=1000000):ak P G 57 [.aU 0 g 0 l.length,int i,.sl 7 true [[int o.pk,str o.pn,aK,aK,aK,aK,aK]]] [.aN g 7 false (dA l)] (.ret (.aU 0 (g+1) 0 (l.take i++[Fx o]++l.drop i).length)) [.aN (g+1) 7 false (dA (l.take i++[Fx o]++l.drop i))] :=
 ak.qp (af7 l g i (Fx o) hi hl) ⟨y34,y34,Zi o,yO⟩
theorem aga o:ak P G 57 [aK,int 0,.sl 7 true [[int o.pk,str o.pn,aK,aK,aK,aK,aK]]] [] (.ret (.aU 0 0 0 1)) [.aN 0 7 false (dA [Fx o])] :=
 ak.qp (af8 (Fx o)) ⟨aF.aed 7,y34,Zi o,yO⟩
def zE:AV:=.lit (.agg #[.nilFunc])
abbrev EfF(F:Nat):Prop:=F=251\/F=254\/F=256\/F=260\/F=262\/F=265\/F=268\/F=270
variable {F:Nat}
theorem anL(hq:EfF F)(d:DO)(o:bV.OP)(v:List D)(l l2:List FD)(g i:Nat)(e:Int)(hs:1<=o.sq)(hs2:o.sq<=1048576)(hi:i<l.length)(hl:l.length<=1000000)(hK:Cq 50 [kI d] (int 0))(hO:Cq 31 [bV.op o] (int 0))(hV:Cq 28 [bB d.sn,eG (o.dv,o.sq)] (Am.bool false))(hA:Cq 32 [bB d.sn,int o.dv] (int (o.sq-1)))(hF:ak P G 52 [bB o.cx,Xk] (dB d) (.ret (Am.bool false)) (dB d))(hW:Cq 29 [bB d.sn,eG (o.dv,o.sq)] (.bq [bB v,int 0]))(hL:Rq 0 27 0 (Xj d o v 0 aK []) (.exit 0) (apX d o v (.aU 4 g 0 l.length) [.aH,.aN g 7 false (dA l)]))(hB:ak P G 54 [.aU 0 g 0 l.length,pt o.pk o.pn,Ph] [.aN g 7 false (dA l)] (.ret (.bq [int i,Am.bool true])) [.aN g 7 false (dA l)])(hM:bT P 3 oK (.int .i64 o.kd) zE (.agg [gP F]) true)(hE:ak P G F [.jC 0 g (0+i) 0,bV.op o] [.aN g 7 false (dA l)] (.ret (int e)) [.aN g 7 false (dA l2)])(out:aS)(H':List ah)(h:(aS.ret (AV.bq [AV.agg [bB v,AV.aU 4 g 0 l.length],int 0])=out)/\([ah.box [bB d.sn,AV.sl 7 false (dA d.fs)],ah.box (bV.jy o),ah.box [bB v,AV.aU 4 g 0 l.length],ah.aH,ah.aN g 7 false (dA l2)]=H')):ak P G 27 [kI d,bV.op o] [] out H':=by
 have Bb:∀(x:List AV),x∈dA l->AV.aM [] x=true:=(fK _);obtain⟨e1,eH⟩:=h;let x0:AV:=.agg [gP F];rcases hq with rfl|rfl|rfl|rfl|rfl|rfl|rfl|rfl<;>exact ak.heap (e1▸((aj [kc [] hK,kY,kc [] hO,kY,kc [] hV,kY,kc [] hA,kW 41 (o.sq-1) (o.sq-1),kf (show(o.sq-1 != o.sq-1)=false from(y32 (qT zO))),kc [0] hF,kY,kc [] hW,kY,kN 65 (fE d.fs),kl (rG [(0,2),(6,58),(67,42)]) 3 hL,kc [4] hB,kp Bb,kp Bb,kY,ko (bC.lJ x0 true),kp hM,kq g,kR (i:Int) (l.length:Int),kc [4] hE,kp (fK l2),kp Bb]))) eH
theorem ace(hq:EfF F)(d:DO)(o:bV.OP)(v:List D)(l m l2:List FD)(g i:Nat)(e:Int)(hs:1<=o.sq)(hs2:o.sq<=1048576)(hi:i<m.length)(hl:l.length<=1000000)(hm:m.length<=1000001)(hK:Cq 50 [kI d] (int 0))(hO:Cq 31 [bV.op o] (int 0))(hV:Cq 28 [bB d.sn,eG (o.dv,o.sq)] (Am.bool false))(hA:Cq 32 [bB d.sn,int o.dv] (int (o.sq-1)))(hF:ak P G 52 [bB o.cx,Xk] (dB d) (.ret (Am.bool false)) (dB d))(hW:Cq 29 [bB d.sn,eG (o.dv,o.sq)] (.bq [bB v,int 0]))(hL:Rq 0 27 0 (Xj d o v 0 aK []) (.exit 0) (apX d o v (.aU 4 g 0 l.length) [.aH,.aN g 7 false (dA l)]))(hB:ak P G 54 [.aU 0 g 0 l.length,pt o.pk o.pn,Ph] [.aN g 7 false (dA l)] (.ret (.bq [int i,Am.bool false])) [.aN g 7 false (dA l)])(hI:ak P G 57 [.aU 0 g 0 l.length,int i,.sl 7 true [[int o.pk,str o.pn,aK,aK,aK,aK,aK]]] [.aN g 7 false (dA l)] (.ret (.aU 0 (g+1) 0 m.length)) [.aN (g+1) 7 false (dA m)])(hM:bT P 3 oK (.int .i64 o.kd) zE (.agg [gP F]) true)(hE:ak P G F [.jC 0 (g+1) (0+i) 0,bV.op o] [.aN (g+1) 7 false (dA m)] (.ret (int e)) [.aN (g+1) 7 false (dA l2)])(out:aS)(H':List ah)(h:(aS.ret (AV.bq [AV.agg [bB v,AV.aU 4 (g+1) 0 m.length],int 0])=out)/\([ah.box [bB d.sn,AV.sl 7 false (dA d.fs)],ah.box (bV.jy o),ah.box [bB v,AV.aU 4 (g+1) 0 m.length],ah.aH,ah.aN (g+1) 7 false (dA l2)]=H')):ak P G 27 [kI d,bV.op o] [] out H':=by
 have Bb:∀(x:List AV),x∈dA l->AV.aM [] x=true:=(fK _);have Pk:∀(x:List AV),x∈dA m->AV.aM [] x=true:=(fK _);obtain⟨e1,eH⟩:=h;let x0:AV:=.agg [gP F];rcases hq with rfl|rfl|rfl|rfl|rfl|rfl|rfl|rfl<;>exact ak.heap (e1▸((aj [kc [] hK,kY,kc [] hO,kY,kc [] hV,kY,kc [] hA,kW 41 (o.sq-1) (o.sq-1),kf (show(o.sq-1 != o.sq-1)=false from(y32 (qT zO))),kc [0] hF,kY,kc [] hW,kY,kN 65 (fE d.fs),kl (rG [(0,2),(6,58),(67,42)]) 3 hL,kc [4] hB,kp Bb,kp Bb,kO,kc [4] hI,ko (bC.lJ x0 true),kp Pk,kp Bb,kp hM,kp (show g+1=g+1 from(rfl)),kR (i:Int) (m.length:Int),kc [4] hE,kp (fK l2),kp Pk]))) eH
theorem anM(hq:EfF F)(d:DO)(o:bV.OP)(v:List D)(m l2:List FD)(e:Int)(hs:1<=o.sq)(hs2:o.sq<=1048576)(hm:m.length=1)(hK:Cq 50 [kI d] (int 0))(hO:Cq 31 [bV.op o] (int 0))(hV:Cq 28 [bB d.sn,eG (o.dv,o.sq)] (Am.bool false))(hA:Cq 32 [bB d.sn,int o.dv] (int (o.sq-1)))(hF:ak P G 52 [bB o.cx,Xk] (dB d) (.ret (Am.bool false)) (dB d))(hW:Cq 29 [bB d.sn,eG (o.dv,o.sq)] (.bq [bB v,int 0]))(hL:Rq 0 27 0 (Xj d o v 0 aK []) (.exit 0) (apX d o v aK []))(hB:Cq 54 [aK,pt o.pk o.pn,Ph] (.bq [int 0,Am.bool false]))(hI:ak P G 57 [aK,int 0,.sl 7 true [[int o.pk,str o.pn,aK,aK,aK,aK,aK]]] [] (.ret (.aU 0 0 0 1)) [.aN 0 7 false (dA m)])(hM:bT P 3 oK (.int .i64 o.kd) zE (.agg [gP F]) true)(hE:ak P G F [.jC 0 0 0 0,bV.op o] [.aN 0 7 false (dA m)] (.ret (int e)) [.aN 0 7 false (dA l2)])(out:aS)(H':List ah)(h:(aS.ret (AV.bq [AV.agg [bB v,AV.aU 3 0 0 1],int 0])=out)/\([ah.box [bB d.sn,AV.sl 7 false (dA d.fs)],ah.box (bV.jy o),ah.box [bB v,AV.aU 3 0 0 1],ah.aN 0 7 false (dA l2)]=H')):ak P G 27 [kI d,bV.op o] [] out H':=by
 have M8:∀(x:List AV),x∈dA m->AV.aM [] x=true:=(fK _);obtain⟨e1,eH⟩:=h;let x0:AV:=.agg [gP F];rcases hq with rfl|rfl|rfl|rfl|rfl|rfl|rfl|rfl<;>exact ak.heap (e1▸((aj [kc [] hK,kY,kc [] hO,kY,kc [] hV,kY,kc [] hA,kW 41 (o.sq-1) (o.sq-1),kf (show(o.sq-1 != o.sq-1)=false from(y32 (qT zO))),kc [0] hF,kY,kc [] hW,kY,kN 65 (fE d.fs),kl (rG [(0,2),(6,58),(67,42)]) 3 hL,kc [] hB,kO,kc [] hI,ko (bC.lJ x0 true),kp M8,kp hM,kq 0,kR (0:Int) (1:Int),kc [3] hE,kp (fK l2),kp M8]))) eH
def Rf:AV:=.agg [aK,aK]
theorem anc(d:DO)o(e:Int)(he:¬e=0)(hK:Cq 50 [kI d] (int e))(h:True):Cq 27 [kI d,bV.op o] (.bq [Rf,int e]):=by
 exact aj [kc [] hK,kt (y32 (qF zO))]
theorem anb(d:DO)o(e:Int)(he:¬e=0)(hK:Cq 50 [kI d] (int 0))(hO:Cq 31 [bV.op o] (int e))(h:True):Cq 27 [kI d,bV.op o] (.bq [Rf,int e]):=by
 exact aj [kc [] hK,kY,kc [] hO,kt (y32 (qF zO))]
theorem am8(d:DO)o(hK:Cq 50 [kI d] (int 0))(hO:Cq 31 [bV.op o] (int 0))(hV:Cq 28 [bB d.sn,eG (o.dv,o.sq)] (Am.bool true))e(h:182=e):Cq 27 [kI d,bV.op o] (.bq [Rf,int e]):=by
 have e1:=h;exact ak.out ((show Cq 27 [kI d,bV.op o] (.bq [.agg [aK,aK],int 182])from aj [kc [] hK,kY,kc [] hO,kY,kc [] hV,kO])) (aF.iM ⟨y34,(aF.int_eq e1),yO⟩)
theorem ana(d:DO)(o:bV.OP)(n:Int)(hs:1<=o.sq)(hs2:o.sq<=1048576)(hn:¬n=o.sq-1)(hK:Cq 50 [kI d] (int 0))(hO:Cq 31 [bV.op o] (int 0))(hV:Cq 28 [bB d.sn,eG (o.dv,o.sq)] (Am.bool false))(hA:Cq 32 [bB d.sn,int o.dv] (int n))(e:Int)(h:181=e):Cq 27 [kI d,bV.op o] (.bq [Rf,int e]):=by
 have e1:=h;exact ak.out ((show Cq 27 [kI d,bV.op o] (.bq [.agg [aK,aK],int 181])from aj [kc [] hK,kY,kc [] hO,kY,kc [] hV,kY,kc [] hA,kW 41 (o.sq-1) (o.sq-1),kt (show(n != o.sq-1)=true from(y32 (qF zO))),kO])) (aF.iM ⟨y34,(aF.int_eq e1),yO⟩)
theorem am9(d:DO)(o:bV.OP)(n:Int)(hs:1<=o.sq)(hs2:o.sq<=1048576)(hn:n=o.sq-1)(hK:Cq 50 [kI d] (int 0))(hO:Cq 31 [bV.op o] (int 0))(hV:Cq 28 [bB d.sn,eG (o.dv,o.sq)] (Am.bool false))(hA:Cq 32 [bB d.sn,int o.dv] (int n))(hF:ak P G 52 [bB o.cx,Xk] (dB d) (.ret (Am.bool true)) (dB d))(e:Int)(h:181=e):Cq 27 [kI d,bV.op o] (.bq [Rf,int e]):=by
 have e1:=h;exact ak.out ((show Cq 27 [kI d,bV.op o] (.bq [.agg [aK,aK],int 181])from aj [kc [] hK,kY,kc [] hO,kY,kc [] hV,kY,kc [] hA,kW 41 (o.sq-1) (o.sq-1),kf (show(n != o.sq-1)=false from(y32 (qT zO))),kc [0] hF,kO])) (aF.iM ⟨y34,(aF.int_eq e1),yO⟩)
theorem Zj d(o:bV.OP)v(hl:d.fs.length<=1000000)(hC:∀f∈d.fs,Cq 53 [.agg (jB f)] (.agg (jB f))):∀n k g,d.fs.length-k=n->k<=d.fs.length->∃g',Rq 0 27 0 (Xj d o v k (.aU 4 g 0 (d.fs.take k).length) [.aH,.aN g 7 false (dA (d.fs.take k))]) (.exit 0) (apX d o v (.aU 4 g' 0 d.fs.length) [.aH,.aN g' 7 false (dA d.fs)]):=by
 intro n
 induction n with
 |zero =>
  intro k g hk LB;obtain rfl:k=d.fs.length:=zO
  rw[take_length];exact⟨g,akd d o v _ g d.fs zO yO⟩
 |succ n ih =>
  intro k g hk LB;have bg:k<d.fs.length:=zO
  have hx:=yA bg;obtain⟨g',nx⟩:=ih (k+1) (g+1) zO zO;have ht:d.fs.take (k+1)=d.fs.take k++[d.fs[k]]:=by rw[take_append_getElem]
  rw[ht,yD,<- TW]at nx;have hlk:(d.fs.take k).length=k:=by rw[y22];omega
  exact⟨g',anu d o v d.fs[k] (d.fs.take k) k g hlk zO hl zO hx (hC _ (y03 _)) _ _ nx⟩
theorem acE d(o:bV.OP)v(hl:d.fs.length<=1000000)(hC:∀f∈d.fs,Cq 53 [.agg (jB f)] (.agg (jB f)))(fF:d.fs≠[]):∃g',Rq 0 27 0 (Xj d o v 0 aK []) (.exit 0) (apX d o v (.aU 4 g' 0 d.fs.length) [.aH,.aN g' 7 false (dA d.fs)]):=by
 have h0:=length_pos_iff.2 fF;have hx:=yA h0;obtain⟨g',nx⟩:=Zj d o v hl hC _ 1 0 rfl zO;have ht:d.fs.take 1=[d.fs[0]]:=by
  have:=(take_append_getElem h0).symm;grind
 rw[ht]at nx;refine⟨g',ant d o v d.fs[0] hl zO hx (hC _ (y03 _)) _ _ (bN.acz nx ?_)⟩;exact⟨.inl rfl,.inl rfl,.inl rfl,.inr yO,.inl rfl,yO⟩
theorem Zk d(o:bV.OP)v(h:d.fs=[]):Rq 0 27 0 (Xj d o v 0 aK []) (.exit 0) (apX d o v aK []):=akc d o v 0 (by rw[h];simp) trivial
theorem Zl{d}{o}{v}{l2}{g n}{a b c}(hn:n=l2.length)(h:ak P G 27 [kI d,bV.op o] [] (.ret (.bq [.agg [bB v,.aU 4 g 0 n],int 0])) [a,b,c,.aH,.aN g 7 false (dA l2)]):Cq 27 [kI d,bV.op o] (.bq [kI ⟨v,l2⟩,int 0]):=by
 subst hn;exact(h.Zm     rfl ⟨rfl,by rw[drop_zero,y27 (by rw[fE];simp)],fE l2,Pg l2,yO⟩).BM   rfl trivial
structure Fit(d:DO)(o:bV.OP)(v:List D):Prop where
 s1:1<=o.sq
 s2:o.sq<=1048576
 len:d.fs.length<=1000000
 K:Cq 50 [kI d] (int 0)
 O:Cq 31 [bV.op o] (int 0)
 V:Cq 28 [bB d.sn,eG (o.dv,o.sq)] (Am.bool false)
 A:Cq 32 [bB d.sn,int o.dv] (int (o.sq-1))
 F:ak P G 52 [bB o.cx,Xk] (dB d) (.ret (Am.bool false)) (dB d)
 W:Cq 29 [bB d.sn,eG (o.dv,o.sq)] (.bq [bB v,int 0])
abbrev lpA(d:DO)(o:bV.OP)(v:List D)(l:List FD)(g:Nat):Prop:=Rq 0 27 0 (Xj d o v 0 aK []) (.exit 0) (apX d o v (.aU 4 g 0 l.length) [.aH,.aN g 7 false (dA l)])
abbrev mgA(o:bV.OP)(F:Nat):Prop:=bT P 3 oK (.int .i64 o.kd) zE (.agg [gP F]) true
structure Yv(F:Nat):Prop where
 b:∀(d:DO)(o:bV.OP)(v:List D)(l l2:List FD)(g i:Nat)(e:Int),Fit d o v->i<l.length->l2.length=l.length->l.length<=1000000->lpA d o v l g->ak P G 54 [.aU 0 g 0 l.length,pt o.pk o.pn,Ph] [.aN g 7 false (dA l)] (.ret (.bq [int i,Am.bool true])) [.aN g 7 false (dA l)]->mgA o F->ak P G F [.jC 0 g (0+i) 0,bV.op o] [.aN g 7 false (dA l)] (.ret (int e)) [.aN g 7 false (dA l2)]->Cq 27 [kI d,bV.op o] (.bq [kI ⟨v,l2⟩,int 0])
 c:∀(d:DO)(o:bV.OP)(v:List D)(l m l2:List FD)(g i:Nat)(e:Int),Fit d o v->i<m.length->l2.length=m.length->l.length<=1000000->m.length<=1000001->lpA d o v l g->ak P G 54 [.aU 0 g 0 l.length,pt o.pk o.pn,Ph] [.aN g 7 false (dA l)] (.ret (.bq [int i,Am.bool false])) [.aN g 7 false (dA l)]->ak P G 57 [.aU 0 g 0 l.length,int i,.sl 7 true [[int o.pk,str o.pn,aK,aK,aK,aK,aK]]] [.aN g 7 false (dA l)] (.ret (.aU 0 (g+1) 0 m.length)) [.aN (g+1) 7 false (dA m)]->mgA o F->ak P G F [.jC 0 (g+1) (0+i) 0,bV.op o] [.aN (g+1) 7 false (dA m)] (.ret (int e)) [.aN (g+1) 7 false (dA l2)]->Cq 27 [kI d,bV.op o] (.bq [kI ⟨v,l2⟩,int 0])
 z:∀(d:DO)(o:bV.OP)(v:List D)(m l2:List FD)(e:Int),Fit d o v->m.length=1->l2.length=1->Rq 0 27 0 (Xj d o v 0 aK []) (.exit 0) (apX d o v aK [])->Cq 54 [aK,pt o.pk o.pn,Ph] (.bq [int 0,Am.bool false])->ak P G 57 [aK,int 0,.sl 7 true [[int o.pk,str o.pn,aK,aK,aK,aK,aK]]] [] (.ret (.aU 0 0 0 1)) [.aN 0 7 false (dA m)]->mgA o F->ak P G F [.jC 0 0 0 0,bV.op o] [.aN 0 7 false (dA m)] (.ret (int e)) [.aN 0 7 false (dA l2)]->Cq 27 [kI d,bV.op o] (.bq [kI ⟨v,l2⟩,int 0])
theorem acF{d}{o}{v}{l2}{a b c}(hn:l2.length=1)(h:ak P G 27 [kI d,bV.op o] [] (.ret (.bq [.agg [bB v,.aU 3 0 0 1],int 0])) [a,b,c,.aN 0 7 false (dA l2)]):Cq 27 [kI d,bV.op o] (.bq [kI ⟨v,l2⟩,int 0]) :=
 (h.Zm     rfl ⟨rfl,by rw[drop_zero,y27 (by rw[fE,hn];simp)],by rw[fE,hn],Pg l2,yO⟩).BM   rfl trivial
theorem apK{F}(hq:EfF F):Yv F where
 b d o v l l2 g i e f hi hl hn hL hB hM hE:=Zl hl.symm (anL hq d o v l l2 g i e f.s1 f.s2 hi hn f.K f.O f.V f.A f.F f.W hL hB hM hE _ _ ⟨rfl,rfl⟩)
 c d o v l m l2 g i e f hi hl hn hm hL hB hI hM hE:=Zl hl.symm (ace hq d o v l m l2 g i e f.s1 f.s2 hi hn hm f.K f.O f.V f.A f.F f.W hL hB hI hM hE _ _ ⟨rfl,rfl⟩)
 z d o v m l2 e f hm hl hL hB hI hM hE:=acF hl (anM hq d o v m l2 e f.s1 f.s2 hm f.K f.O f.V f.A f.F f.W hL hB hI hM hE _ _ ⟨rfl,rfl⟩)
theorem am0:Yv 251:=apK zD
theorem am1:Yv 254:=apK zD
theorem am2:Yv 256:=apK zD
theorem am3:Yv 260:=apK zD
theorem am4:Yv 262:=apK zD
theorem am5:Yv 265:=apK zD
theorem am6:Yv 268:=apK zD
theorem am7:Yv 270:=apK zD
def Ig(c:FD->Int)(ef:FD->FD)(o:bV.OP)(l:List FD):List FD :=
 if(l[rV c l]?).any (fun f=>c f==0)=true then l.set (rV c l) (ef (l.getD (rV c l) (Fx o)))else l.take (rV c l)++[ef (Fx o)]++l.drop (rV c l)
theorem Yw(K:Yv F){d:DO}{o:bV.OP}{v:List D}(f:Fit d o v)(c:FD->Int)(ef:FD->FD)(hM:mgA o F)(hs:Rc c d.fs)(hA:∀f:FD,Cq 55 [.agg (jB f),pt o.pk o.pn] (int (c f)))(hz:Cq 54 [aK,pt o.pk o.pn,Ph] (.bq [int 0,Am.bool false]))(hC:∀f∈d.fs,Cq 53 [.agg (jB f)] (.agg (jB f)))(hE:∀(l:List FD)(g i:Nat)(h:i<l.length),l[i]∈d.fs\/l[i]=Fx o->∃e,ak P G F [.jC 0 g i 0,bV.op o] [.aN g 7 false (dA l)] (.ret (int e)) [.aN g 7 false (dA (l.set i (ef l[i])))]) :
 Cq 27 [kI d,bV.op o] (.bq [kI ⟨v,Ig c ef o d.fs⟩,int 0]):=by
 by_cases h0:d.fs=[]
 .have e:Ig c ef o d.fs=[ef (Fx o)]:=by rw[h0];rfl
  rw[e];obtain⟨e1,h1⟩:=hE [Fx o] 0 0 zS (.inr rfl);exact K.z d o v [Fx o] _ e1 f rfl rfl (Zk d o v h0) hz (aga o) hM h1
 .obtain ⟨g,hL⟩:=acE d o v f.len hC h0;have hB:=wX d.fs g o.pk o.pn c (by have:=f.len;omega) hs hA;have hp:=Rh c d.fs;unfold Ig;cases hb:(d.fs[rV c d.fs]?).any (fun f=>c f==0)with
  |true =>
   rw[hb]at hB;rw[yL rfl];have bg:rV c d.fs<d.fs.length:=by
    rcases y11 (rV c d.fs) d.fs.length with h|h
    .exact h
    grind
   obtain⟨e1,h1⟩:=hE d.fs g _ bg (.inl (y03 _));rw[yB,yA bg,Option.getD_some];exact K.b d o v d.fs _ g _ e1 f bg (by rw[length_set]) f.len hL hB hM (by rw[y12];exact h1)
  |false =>
   rw[hb]at hB;rw[yK zD];have hI:=af9 d.fs g (rV c d.fs) o hp f.len;have hml:(d.fs.take (rV c d.fs)++[Fx o]++d.fs.drop (rV c d.fs)).length=d.fs.length+1:=by simp;omega
   have htl:(d.fs.take (rV c d.fs)).length=rV c d.fs:=by rw[y22];omega
   have hgz:(d.fs.take (rV c d.fs)++[Fx o]++d.fs.drop (rV c d.fs))[rV c d.fs]'zO=Fx o:=by
    grind
   obtain⟨e1,h1⟩:=hE (d.fs.take (rV c d.fs)++[Fx o]++d.fs.drop (rV c d.fs)) (g+1) (rV c d.fs) zO (.inr hgz);have pF:(d.fs.take (rV c d.fs)++[Fx o]++d.fs.drop (rV c d.fs)).set (rV c d.fs) (ef (d.fs.take (rV c d.fs)++[Fx o]++d.fs.drop (rV c d.fs))[rV c d.fs])=d.fs.take (rV c d.fs)++[ef (Fx o)]++d.fs.drop (rV c d.fs):=by
    rw[hgz,y16,set_append_right _ _ zO,htl,Nat.sub_self];simp
   rw[pF]at h1;have hl2:(d.fs.take (rV c d.fs)++[ef (Fx o)]++d.fs.drop (rV c d.fs)).length=d.fs.length+1:=by simp;omega
   have:=f.len;exact K.c d o v d.fs _ _ g _ e1 f zO zO f.len zO hL hB hI hM (by rw[y12];exact h1)
def fzS(a:Int)(s:yP)(i j:Int):St:={ aL:=aC 49 [(0,aK),(2,Ph),(4,.ptr 0 0),(8,int 0),(9,int i),(10,int j)],H:=[zP a s] }
def fzX(a:Int)(s:yP)(i:Int):St:={ aL:=aC 49 [(0,aK),(2,Ph),(4,.ptr 0 0),(8,int 0),(9,int i)],H:=[zP a s] }
theorem anN a(s:yP)i j(wQ:¬i<j)(h:True):Rq 0 54 0 (fzS a s i j) (bF.exit 0) (fzX a s i):=by
 exact aG [kj (i<j)] (aB 49 [0,2,4,8,9]) 1
theorem anO a(s:yP)(hL:Rq 0 54 0 (fzS a s 0 0) (.exit 0) (fzX a s 0))(h:True):Cq 54 [aK,pt a s,Ph] (.bq [int 0,Am.bool false]):=by
 exact aj [kl (rG [(1,1),(3,1),(5,3),(11,38)]) 1 hL,kY]
theorem amZ(a:Int)s:Cq 54 [aK,pt a s,Ph] (.bq [int 0,Am.bool false]):=anO a s (anN a s 0 0 zO yO) trivial
theorem eWf{n}(h : -9223372036854775808<=n/\n<9223372036854775808):(Lit.int .i64 n).wf=true:=by
 simp[Lit.wf,IntKind.min,IntKind.signed,IntKind.bits];omega
theorem agb:Maps.Keyed P 3:=Maps.int_keyed Tryz.underlying3
theorem akn{a}(h : -9223372036854775808<=a/\a<9223372036854775808):∃l,keyOf P 3 (.int .i64 a)=some l:=⟨_,Maps.keyOf_int_mk Tryz.underlying3 (eWf h)⟩
theorem uV{k}{x}(hm:(.int .i64 k,x)∈oK)(hk : -9223372036854775808<=k/\k<9223372036854775808):bT P 3 oK (.int .i64 k) zE x true :=
 ⟨agb,akn hk,fun e he=>by
  simp only[oK,yH,y15,or_false]at he;rcases he with rfl|rfl|rfl|rfl|rfl|rfl|rfl|rfl<;>exact akn zO,.inl ⟨rfl,hm⟩⟩
theorem eg1:bT P 3 oK (.int .i64 1) zE (.agg [gP 251]) true:=uV (by simp[oK]) zO
theorem eg2:bT P 3 oK (.int .i64 2) zE (.agg [gP 254]) true:=uV (by simp[oK]) zO
theorem eg3:bT P 3 oK (.int .i64 3) zE (.agg [gP 256]) true:=uV (by simp[oK]) zO
theorem eg4:bT P 3 oK (.int .i64 4) zE (.agg [gP 260]) true:=uV (by simp[oK]) zO
theorem eg5:bT P 3 oK (.int .i64 5) zE (.agg [gP 262]) true:=uV (by simp[oK]) zO
theorem eg6:bT P 3 oK (.int .i64 6) zE (.agg [gP 265]) true:=uV (by simp[oK]) zO
theorem eg7:bT P 3 oK (.int .i64 7) zE (.agg [gP 268]) true:=uV (by simp[oK]) zO
theorem eg8:bT P 3 oK (.int .i64 8) zE (.agg [gP 270]) true:=uV (by simp[oK]) zO
end Go.Dc
namespace Go.Bd
open Go Go.Am Go.Proofs Go.eY
def Dz(a b:yP):Bool:=Op.bytesLess (ByteArray.toList a) (ByteArray.toList b)
def oq(a b:yP):Int:=if Dz a b=true then -1 else if a=b then 0 else 1
def gJ(x y:Int):Int:=if x<y then -1 else if x>y then 1 else 0
def thn(a b:Int):Int:=if a=0 then b else a
theorem agc(a:yP)r(h:(!ByteArray.toList a==ByteArray.toList a)=(r)):Cq 119 [str a] (Am.bool r):=by
 exact aA (aF.aI h) []
theorem agd(a:Int)r(h:(a != a)=(r)):Cq 118 [int a] (Am.bool r):=by
 exact aA (aF.aI h) []
theorem Zn a:Cq 119 [str a] (bool false):=agc a _ zS
theorem Zo a:Cq 118 [int a] (bool false):=agd a _ zS
theorem agf(a b:yP)r(h:((((Op.bytesLess (ByteArray.toList a) (ByteArray.toList b))=true)->-1=(r))/\(((Op.bytesLess (ByteArray.toList a) (ByteArray.toList b))=false)->((((Op.bytesLess (ByteArray.toList a) (ByteArray.toList b)||ByteArray.toList a==ByteArray.toList b)=true)->0=r)/\(((Op.bytesLess (ByteArray.toList a) (ByteArray.toList b)||ByteArray.toList a==ByteArray.toList b)=false)->1=r))))):Cq 88 [str a,str b] (int r):=by
 have bS:=(@Zn (a));have fT:=(@Zn (b));let l1:List fP:=[kc [] bS,kc [] fT,kY,kY];rcases y00 ((Op.bytesLess (ByteArray.toList a) (ByteArray.toList b)))with c1|c1
 .have h:=h.1 c1;exact aA (aF.int_eq h) (l1++[kt c1])
 .have h:=h.2 c1;rcases y00 ((Op.bytesLess (ByteArray.toList a) (ByteArray.toList b)||ByteArray.toList a==ByteArray.toList b))with c2|c2
  .have h:=h.1 c2;exact aA (aF.int_eq h) (l1++[kf c1,kf (y32 (c2))])
  .have h:=h.2 c2;exact aA (aF.int_eq h) (l1++[kf c1,kt (y32 (c2))])
theorem RO(a b:Int)r(h:(((a<b)->-1=(r))/\((¬a<b)->(((a>b)->1=r)/\((¬a>b)->0=r))))):Cq 87 [int a,int b] (int r):=by
 have bS:=(@Zo (a));have fT:=(@Zo (b));let l1:List fP:=[kc [] bS,kc [] fT,kY,kY];by_cases c1:(a<b)
 .have h:=h.1 c1;exact aA (aF.int_eq h) (l1++[kt (qT c1)])
 .have h:=h.2 c1;by_cases c2:(a>b)
  .have h:=h.1 c2;exact aA (aF.int_eq h) (l1++[kf (qF c1),kt (qT c2)])
  .have h:=h.2 c2;exact aA (aF.int_eq h) (l1++[kf (qF c1),kf (qF c2)])
theorem Zp a b:Cq 88 [str a,str b] (int (oq a b)):=agf a b _ (by
 rw[rC];unfold oq Dz;grind)
theorem Cc a b:Cq 87 [int a,int b] (int (gJ a b)):=RO a b _ (by unfold gJ;grind)
theorem agh f(h:True):ak P G 188 [yT f] [] (aS.ret (AV.fn (Fn.func 214) [] [AV.ptr 0 0])) [ah.box [yT f]]:=by
 exact aj []
theorem agi f(h:True):ak P G 190 [yT f] [] (aS.ret (AV.fn (Fn.func 215) [] [AV.ptr 0 0])) [ah.box [yT f]]:=by
 exact aj []
abbrev fS(f:Nat):AV:=.fn (.func 214) [] [.iG [yT f]]
abbrev fI(f:Nat):AV:=.fn (.func 215) [] [.iG [yT f]]
theorem agj f:Cq 188 [yT f] (fS f):=ak.Zq (agh f yO) rfl
theorem Zr f:Cq 190 [yT f] (fI f):=ak.Zq (agi f yO) rfl
theorem anP a(h:True):Cq 189 [oN a] (str a.ky):=by
 exact aj []
theorem ako a(h:True):Cq 191 [oN a] (int a.dv):=by
 exact aj []
theorem akp a(h:True):Cq 192 [oN a] (int a.sq):=by
 exact aj []
theorem akq a b(h0:∀a,Cq 189 [oN a] (str a.ky))(h:True):Cq 214 [oN a,oN b,AV.iG [yT 189]] (int (oq a.ky b.ky)):=by
 exact aj [kc [] (@h0 (a)),kc [] (@h0 (b)),kc [] (@Zp a.ky b.ky)]
theorem akr a b(h0:∀a,Cq 191 [oN a] (int a.dv))(h:True):Cq 215 [oN a,oN b,AV.iG [yT 191]] (int (gJ a.dv b.dv)):=by
 exact aj [kc [] (@h0 (a)),kc [] (@h0 (b)),kc [] (@Cc a.dv b.dv)]
theorem aks a b(h0:∀a,Cq 192 [oN a] (int a.sq))(h:True):Cq 215 [oN a,oN b,AV.iG [yT 192]] (int (gJ a.sq b.sq)):=by
 exact aj [kc [] (@h0 (a)),kc [] (@h0 (b)),kc [] (@Cc a.sq b.sq)]
theorem akt a b:Cq 214 [oN a,oN b,.iG [yT 189]] (int (oq a.ky b.ky)):=akq a b (fun a=>anP a yO) trivial
theorem aku a b:Cq 215 [oN a,oN b,.iG [yT 191]] (int (gJ a.dv b.dv)):=akr a b (fun a=>ako a yO) trivial
theorem akv a b:Cq 215 [oN a,oN b,.iG [yT 192]] (int (gJ a.sq b.sq)):=aks a b (fun a=>akp a yO) trivial
abbrev Pm(x y z:AV):AV:=.sl 1 true [[x],[y],[z]]
abbrev byF(x y z:AV):AV:=.fn (.func 213) [] [.iG [Pm x y z]]
theorem anQ x y z(h:True):ak P G 187 [Pm x y z] [] (aS.ret (AV.fn (Fn.func 213) [] [AV.ptr 0 0])) [ah.box [Pm x y z]]:=by
 exact aj []
abbrev xK:AV:=fS 189
abbrev xD:AV:=fI 191
abbrev xQ:AV:=fI 192
def b1S(x y z:AV)(a b:BE)(k:Nat):St:={ aL:=aC 23 [(0,oN a),(1,oN b),(2,.iG [Pm x y z]),(3,.ptr 0 0),(4,.ptr 1 0),(5,int 0),(9,Pm x y z),(10,int 3),(11,int k)],H:=[.box (aQ a),.box (aQ b)] }
def b1E(a b:BE)(r:Int):St:={ aL:=aC 23 [(5,int r)],H:=[.box (aQ a),.box (aQ b)] }
def gM(a b:BE):Int:=thn (oq a.ky b.ky) (thn (gJ a.dv b.dv) (gJ a.sq b.sq))
theorem aek a b(ex:bF)r(h:(((oq a.ky b.ky=0)->Rq 0 213 0 (sM 23 [(0,.agg [str a.ky,int a.dv,int a.sq,int a.tm,str a.vl]),(1,.agg [str b.ky,int b.dv,int b.sq,int b.tm,str b.vl]),(2,AV.iG [.sl 1 true [[.fn (Fn.func 214) [] [AV.iG [iL 189]]],[.fn (Fn.func 215) [] [AV.iG [iL 191]]],[.fn (Fn.func 215) [] [AV.iG [iL 192]]]]]),(3,.ptr 0 0),(4,.ptr 1 0),(5,int 0),(9,.sl 1 true [[.fn (Fn.func 214) [] [AV.iG [iL 189]]],[.fn (Fn.func 215) [] [AV.iG [iL 191]]],[.fn (Fn.func 215) [] [AV.iG [iL 192]]]]),(10,int 3),(11,int 1)] [.box [str a.ky,int a.dv,int a.sq,int a.tm,str a.vl],.box [str b.ky,int b.dv,int b.sq,int b.tm,str b.vl]]) ex (b1E a b r))/\((¬oq a.ky b.ky=0)->(bF.ret=ex)/\(oq a.ky b.ky=(r))))):Rq 0 213 0 (b1S xK xD xQ a b 0) ex (b1E a b r):=by
 have fT:=(@akt (a) (b));let l1:List fP:=[kO,ko (bC.elem [AV.fn (Fn.func 214) [] [AV.iG [iL 189]]]),kp (show(0:Int)<=(0:Int)/\[[xK],[xD],[xQ]][Int.toNat (0:Int)]?=some [AV.fn (Fn.func 214) [] [AV.iG [iL 189]]]from(⟨zD,rfl⟩)),kc [] fT];by_cases c1:(oq a.ky b.ky=0)
 .have h:=h.1 c1;exact aJ (l1++[kf (y32 (nW.2 c1))]) (aB 23 [0,1,2,3,4,5,9,10,11]) 2 h
 .have h:=h.2 c1;obtain⟨eX,e1⟩:=h;exact bN.to ((show Rq 0 213 0 (b1S xK xD xQ a b 0) bF.ret (sM 23 [(5,int (oq a.ky b.ky))] [.box [str a.ky,int a.dv,int a.sq,int a.tm,str a.vl],.box [str b.ky,int b.dv,int b.sq,int b.tm,str b.vl]])from aG (l1++[kt (show(oq a.ky b.ky != 0)=true from(y32 (qN.2 c1)))]) (aB 23 [5]) 2)) eX (eB.aC ⟨rfl,(aF.int_eq e1),yO⟩)
theorem ael a b(ex:bF)r(h:(((gJ a.dv b.dv=0)->Rq 0 213 0 (sM 23 [(0,.agg [str a.ky,int a.dv,int a.sq,int a.tm,str a.vl]),(1,.agg [str b.ky,int b.dv,int b.sq,int b.tm,str b.vl]),(2,AV.iG [.sl 1 true [[.fn (Fn.func 214) [] [AV.iG [iL 189]]],[.fn (Fn.func 215) [] [AV.iG [iL 191]]],[.fn (Fn.func 215) [] [AV.iG [iL 192]]]]]),(3,.ptr 0 0),(4,.ptr 1 0),(5,int 0),(9,.sl 1 true [[.fn (Fn.func 214) [] [AV.iG [iL 189]]],[.fn (Fn.func 215) [] [AV.iG [iL 191]]],[.fn (Fn.func 215) [] [AV.iG [iL 192]]]]),(10,int 3),(11,int 2)] [.box [str a.ky,int a.dv,int a.sq,int a.tm,str a.vl],.box [str b.ky,int b.dv,int b.sq,int b.tm,str b.vl]]) ex (b1E a b r))/\((¬gJ a.dv b.dv=0)->(bF.ret=ex)/\(gJ a.dv b.dv=(r))))):Rq 0 213 0 (b1S xK xD xQ a b 1) ex (b1E a b r):=by
 have fT:=(@aku (a) (b));let l1:List fP:=[kO,ko (bC.elem [AV.fn (Fn.func 215) [] [AV.iG [iL 191]]]),kp (show(0:Int)<=(1:Int)/\[[xK],[xD],[xQ]][Int.toNat (1:Int)]?=some [AV.fn (Fn.func 215) [] [AV.iG [iL 191]]]from(⟨zD,rfl⟩)),kc [] fT];by_cases c1:(gJ a.dv b.dv=0)
 .have h:=h.1 c1;exact aJ (l1++[kf (y32 (nW.2 c1))]) (aB 23 [0,1,2,3,4,5,9,10,11]) 2 h
 .have h:=h.2 c1;obtain⟨eX,e1⟩:=h;exact bN.to ((show Rq 0 213 0 (b1S xK xD xQ a b 1) bF.ret (sM 23 [(5,int (gJ a.dv b.dv))] [.box [str a.ky,int a.dv,int a.sq,int a.tm,str a.vl],.box [str b.ky,int b.dv,int b.sq,int b.tm,str b.vl]])from aG (l1++[kt (show(gJ a.dv b.dv != 0)=true from(y32 (qN.2 c1)))]) (aB 23 [5]) 2)) eX (eB.aC ⟨rfl,(aF.int_eq e1),yO⟩)
theorem aem a b(ex:bF)r(h:(((gJ a.sq b.sq=0)->Rq 0 213 0 (sM 23 [(0,.agg [str a.ky,int a.dv,int a.sq,int a.tm,str a.vl]),(1,.agg [str b.ky,int b.dv,int b.sq,int b.tm,str b.vl]),(2,AV.iG [.sl 1 true [[.fn (Fn.func 214) [] [AV.iG [iL 189]]],[.fn (Fn.func 215) [] [AV.iG [iL 191]]],[.fn (Fn.func 215) [] [AV.iG [iL 192]]]]]),(3,.ptr 0 0),(4,.ptr 1 0),(5,int 0),(9,.sl 1 true [[.fn (Fn.func 214) [] [AV.iG [iL 189]]],[.fn (Fn.func 215) [] [AV.iG [iL 191]]],[.fn (Fn.func 215) [] [AV.iG [iL 192]]]]),(10,int 3),(11,int 3)] [.box [str a.ky,int a.dv,int a.sq,int a.tm,str a.vl],.box [str b.ky,int b.dv,int b.sq,int b.tm,str b.vl]]) ex (b1E a b r))/\((¬gJ a.sq b.sq=0)->(bF.ret=ex)/\(gJ a.sq b.sq=(r))))):Rq 0 213 0 (b1S xK xD xQ a b 2) ex (b1E a b r):=by
 have fT:=(@akv (a) (b));let l1:List fP:=[kO,ko (bC.elem [AV.fn (Fn.func 215) [] [AV.iG [iL 192]]]),kp (show(0:Int)<=(2:Int)/\[[xK],[xD],[xQ]][Int.toNat (2:Int)]?=some [AV.fn (Fn.func 215) [] [AV.iG [iL 192]]]from(⟨zD,rfl⟩)),kc [] fT];by_cases c1:(gJ a.sq b.sq=0)
 .have h:=h.1 c1;exact aJ (l1++[kf (y32 (nW.2 c1))]) (aB 23 [0,1,2,3,4,5,9,10,11]) 2 h
 .have h:=h.2 c1;obtain⟨eX,e1⟩:=h;exact bN.to ((show Rq 0 213 0 (b1S xK xD xQ a b 2) bF.ret (sM 23 [(5,int (gJ a.sq b.sq))] [.box [str a.ky,int a.dv,int a.sq,int a.tm,str a.vl],.box [str b.ky,int b.dv,int b.sq,int b.tm,str b.vl]])from aG (l1++[kt (show(gJ a.sq b.sq != 0)=true from(y32 (qN.2 c1)))]) (aB 23 [5]) 2)) eX (eB.aC ⟨rfl,(aF.int_eq e1),yO⟩)
theorem akw a b(ex:bF)r(h:(bF.exit 0=ex)/\(0=r)):Rq 0 213 0 (b1S xK xD xQ a b 3) ex (b1E a b r):=by
 obtain⟨eX,e1⟩:=h;exact bN.to ((show Rq 0 213 0 (b1S xK xD xQ a b 3) (bF.exit 0) (sM 23 [(5,int 0)] [.box [str a.ky,int a.dv,int a.sq,int a.tm,str a.vl],.box [str b.ky,int b.dv,int b.sq,int b.tm,str b.vl]])from aG [kY] (aB 23 [5]) 2)) eX (eB.aC ⟨rfl,(aF.int_eq e1),yO⟩)
theorem Zt a b:Rq 0 213 0 (b1S xK xD xQ a b 0) (if gM a b=0 then .exit 0 else .ret) (b1E a b (gM a b)):=by
 unfold gM thn;by_cases h1:oq a.ky b.ky=0
 .rw [yL h1];refine aek a b _ _ ⟨fun _=>?_,fun h=>absurd h1 h⟩;by_cases h2:gJ a.dv b.dv=0
  .rw [yL h2];refine ael a b _ _ ⟨fun _=>?_,fun h=>absurd h2 h⟩;by_cases h3:gJ a.sq b.sq=0
   .refine aem a b _ _ ⟨fun _=>?_,fun h=>absurd h3 h⟩;rw[h3];exact akw a b _ _ ⟨rfl,rfl⟩
   .rw [yK h3];exact aem a b _ _ ⟨fun h=>absurd h h3,fun _=>⟨rfl,rfl⟩⟩
  .rw [yK h2,yK h2];exact ael a b _ _ ⟨fun h=>absurd h h2,fun _=>⟨rfl,rfl⟩⟩
 .grind [aek]
theorem akx(a b:BE)r(h:(((gM a b=0)->0=r)/\((¬gM a b=0)->gM a b=(r)))):Cq 213 [oN a,oN b,AV.iG [Pm xK xD xQ]] (int r):=by
 by_cases c1:(gM a b=0)
 .have h:=h.1 c1;exact aA (aF.int_eq h) [kl (rG [(6,3),(12,11)]) 2 (((by have h0:=(@Zt (a) (b));simp only[yL c1]at h0;exact h0)))]
 .have h:=h.2 c1;exact aA (aF.int_eq h) [kl (rG [(6,3),(12,11)]) 2 (((by have h0:=(@Zt (a) (b));simp only[yK c1]at h0;exact h0)))]
theorem aky a b:Cq 213 [oN a,oN b,.iG [Pm xK xD xQ]] (int (gM a b)):=akx a b _ (by
 by_cases h:gM a b=0
 .simp [h]
 .simp [h])
theorem agk:Cq 187 [Pm xK xD xQ] (byF xK xD xQ):=ak.Zq (anQ xK xD xQ yO) rfl
theorem acG a b(h:True):Cq 149 [oN a,oN b] (int (gM a b)):=by
 exact aj [kc [] (@agj (189)),kc [] (@Zr (191)),kc [] (@Zr (192)),kc [] (@agk ),kc [] (@aky (a) (b))]
theorem DC a b:Cq 149 [oN a,oN b] (int (gM a b)):=acG a b trivial
def dF(x:BE):Bool:=decide ((x.ky.size:Int)<=64)&&decide ((x.vl.size:Int)<=4096)&&decide (x.tm>=1)&&decide (x.tm<=1099511627776)&&decide (x.dv>=0)&&decide (x.dv<512)&&decide (x.sq>=1)&&decide (x.sq<=1048576)
def agl(a b c d:Int):Bool:=decide (a<c)||(decide (a=c)&&decide (b<d))
def lI(a b:BE):Bool:=Dz a.ky b.ky||(decide (a.ky=b.ky)&&agl a.dv a.sq b.dv b.sq)
theorem M9(a:BE)(h:((((↑(ByteArray.size a.ky):Int)<=64)->((((↑(ByteArray.size a.vl):Int)<=4096)->(((a.tm>=1)->(((a.tm<=1099511627776)->(((a.dv>=0)->(((a.dv<512)->(((a.sq>=1)->(decide (a.sq<=1048576))=(dF a))/\((¬a.sq>=1)->(false)=(dF a))))/\((¬a.dv<512)->(false)=(dF a))))/\((¬a.dv>=0)->(false)=(dF a))))/\((¬a.tm<=1099511627776)->(false)=(dF a))))/\((¬a.tm>=1)->(false)=(dF a))))/\((¬(↑(ByteArray.size a.vl):Int)<=4096)->(false)=(dF a))))/\((¬(↑(ByteArray.size a.ky):Int)<=64)->(false)=(dF a)))):Cq 148 [oN a] (Am.bool (dF a)):=by
 by_cases c1:((↑(ByteArray.size a.ky):Int)<=64)
 .have h:=h.1 c1;let l1:List fP:=[kt (qT c1)];by_cases c2:((↑(ByteArray.size a.vl):Int)<=4096)
  .have h:=h.1 c2;let l2:List fP:=l1++[kt (qT c2)];by_cases c3:(a.tm>=1)
   .have h:=h.1 c3;let l3:List fP:=l2++[kt (qT c3)];by_cases c4:(a.tm<=1099511627776)
    .have h:=h.1 c4;let l4:List fP:=l3++[kt (qT c4)];by_cases c5:(a.dv>=0)
     .have h:=h.1 c5;by_cases c6:(a.dv<512)
      .have h:=h.1 c6;by_cases c7:(a.sq>=1)
       .have h:=h.1 c7;exact aA (aF.aI h) (l4++[kt (qT c5),kt (qT c6),kt (qT c7)])
       .have h:=h.2 c7;exact aA (aF.aI h) (l4++[kt (qT c5),kt (qT c6),kf (qF c7)])
      .have h:=h.2 c6;exact aA (aF.aI h) (l4++[kt (qT c5),kf (qF c6),kY])
     .have h:=h.2 c5;exact aA (aF.aI h) (l4++[kf (qF c5),kY,kY])
    .have h:=h.2 c4;exact aA (aF.aI h) (l3++[kf (qF c4),kY,kY,kY])
   .have h:=h.2 c3;exact aA (aF.aI h) (l2++[kf (qF c3),kY,kY,kY,kY])
  .have h:=h.2 c2;exact aA (aF.aI h) (l1++[kf (qF c2),kY,kY,kY,kY,kY])
 .have h:=h.2 c1;exact aA (aF.aI h) [kf (qF c1),kY,kY,kY,kY,kY,kY]
theorem pV a:Cq 148 [oN a] (bool (dF a)):=M9 a (by
 unfold dF;grind)
theorem aen:∀ x y,Op.bytesLess x y=decide (x<y)
 |[],[]=>by simp[Op.bytesLess]
 |_::_,[]=>by simp[Op.bytesLess]
 |[],_::_=>by simp[Op.bytesLess]
 |a::x,b::y=>by
  rw[Op.bytesLess,aen x y];simp only[cons_lt_cons_iff];grind
theorem asJ{a b:yP}(h:a.toList=b.toList):a=b:=by
 rw[ByteArray.toList_eq,ByteArray.toList_eq]at h;exact ByteArray.ext (Array.toList_inj.1 h)
theorem TY a b:Dz a b=true↔a.toList<b.toList:=by rw[Dz,aen,decide_eq_true_iff]
theorem RP a:Dz a a=false:=by rw[Bool.eq_false_iff,ne_eq,TY];simp
theorem KG{a b c}(h1:Dz a b=true)(h2:Dz b c=true):Dz a c=true:=by
 rw[TY]at *;grind
theorem arO a b:Dz a b=true\/a=b\/Dz b a=true:=by
 rw[TY,TY];by_cases h1:a.toList<b.toList
 .exact .inl h1
 .by_cases h2:b.toList<a.toList
  .exact .inr (.inr h2)
  .grind [asJ,List.le_antisymm,List.not_lt]
theorem agm{a b}(h:Dz a b=true):a≠b:=fun e=>by rw[e,RP]at h;cases h
theorem acH{a b c d}:agl a b c d=true↔a<c\/(a=c/\b<d):=by simp[agl]
theorem zh{a b}:lI a b=true↔Dz a.ky b.ky=true\/(a.ky=b.ky/\(a.dv<b.dv\/(a.dv=b.dv/\a.sq<b.sq))):=by
 simp[lI,acH]
theorem arF(a:BE):lI a a=false:=by
 rw[Bool.eq_false_iff,ne_eq,zh,RP];simp
theorem sV{a b c}(h1:lI a b=true)(h2:lI b c=true):lI a c=true:=by
 rw[zh]at *;rcases h1 with h1|⟨e1,h1⟩<;>rcases h2 with h2|⟨e2,h2⟩
 .exact .inl (KG h1 h2)
 .exact .inl (e2▸h1)
 .exact .inl (e1▸h2)
 grind
theorem as7{a b:BE}(h1:lI a b=true):lI b a=false:=by
 rw[Bool.eq_false_iff];intro h2;have:=sV h1 h2;rw[arF]at this;cases this
theorem ar4 a b:lI a b=true\/(a.ky=b.ky/\a.dv=b.dv/\a.sq=b.sq)\/lI b a=true:=by
 rw[zh,zh];rcases arO a.ky b.ky with h|h|h
 .exact .inl (.inl h)
 .grind
 .grind
theorem ar5{a b}(h:a.eG≠b.eG):lI a b=true\/lI b a=true:=by
 rcases ar4 a b with g|g|g
 .exact .inl g
 .grind [BE.eG]
 grind
theorem T9{a b}:oq a b<0↔Dz a b=true:=by grind[oq,Dz]
theorem Ua{a b}:oq a b=0↔a=b:=by grind[oq,Dz,agm]
theorem IQ a b:gM a b<0↔lI a b=true:=by
 rw[zh,<- T9];unfold gM thn;by_cases h:oq a.ky b.ky=0
 .grind [Ua,gJ]
 .grind [Ua]
theorem Pn a b:gM a b>=0↔lI a b=false:=by
 rw[Bool.eq_false_iff,ne_eq,<- IQ];omega
def jh(v:List BE)(k:Nat):Bool:=match v[k]? with
 |some x=>dF x&&(k==0||match v[k-1]? with|some y=>lI y x|none=>false) && !((v.take k).any fun c=>decide (c.eG=x.eG))
 |none=>true
def y9(v:List BE):Nat->Nat->Bool
 |0,_=>true
 |n+1,k=>jh v k&&y9 v n (k+1)
def Cw(v:List BE):Bool:=y9 v v.length 0
def jg(v:List BE):Int:=if Cw v=true then 0 else 140
theorem uM v:∀n k,v.length-k=n->(y9 v n k=true↔∀i,k<=i->i<v.length->jh v i=true)
 |0,k,hn=>by simp only[y9,true_iff];omega
 |n+1,k,hn=>by
  rw[y9,y04,uM v n (k+1) zO];grind
structure Map(v:List BE):Prop where
 valid:∀b∈v,dF b=true
 sorted:v.Pairwise (fun a b=>lI a b=true)
 qV:(v.map BE.eG).Nodup
variable {α:Type}
theorem Kc{R}(ht:∀a b c,R a b->R b c->R a c){l:List α}(h:∀i (hi:i+1<l.length),R (l[i]'zO) l[i+1]):l.Pairwise R:=by
 rw[pairwise_iff_getElem];intro i j hi hj wQ;obtain⟨d,rfl⟩:∃d,j=i+1+d:=⟨j-(i+1),zO⟩
 induction d with
 |zero=>exact h i hj
 |succ d ih=>exact ht _ _ _ (ih zO zO) (h (i+1+d) hj)
theorem RQ v:Cw v=true↔Map v:=by
 rw[Cw,uM v v.length 0 zO];constructor
 .intro h;have ha:∀i hi,dF v[i]=true/\(i=0\/∃y,v[i-1]?=some y/\lI y v[i]=true)/\∀c∈v.take i,c.eG≠v[i].eG:=by
   intro i hi;have:=h i yN hi;simp only[jh,beq_iff_eq]at this;grind
  refine⟨fun b hb=>?_,Kc (R:=fun a b=>lI a b=true) (fun _ _ _ h1 h2=>sV h1 h2) fun i hi=>?_,?_⟩
  .obtain ⟨i,hi,rfl⟩:=getElem_of_mem hb;grind
  .rcases (ha (i+1) hi).2.1 with h0|⟨y,hy,hl⟩
   .omega
   grind
  .rw [nodup_iff_pairwise_ne,pairwise_map,pairwise_iff_getElem];intro i j hi hj wQ;exact(ha j hj).2.2 _ (mem_take_iff_getElem.2 ⟨i,zO,rfl⟩)
 .intro h i _ hi;simp only[jh,yA hi,y04,Bool.not_eq_true',Bool.or_eq_true,beq_iff_eq];refine⟨⟨h.valid _ (y03 hi),?_⟩,?_⟩
  .rcases Nat.eq_zero_or_pos i with h0|h0
   .exact .inl h0
   .refine .inr ?_;rw[yA zO];exact pairwise_iff_getElem.1 h.sorted (i-1) i zO hi zO
  .rw [any_eq_false];intro c hc;obtain⟨j,hj,rfl⟩:=mem_take_iff_getElem.1 hc;have hd:=h.qV;rw[nodup_iff_pairwise_ne,pairwise_iff_getElem]at hd;grind
def iR(c:List bH.D)(key:yP)(b:BE):Bool:=decide (b.ky=key)&&bH.cZ c b.eG
def rest(v:List BE)(c:List bH.D)(key:yP):List BE:=v.filter fun b=>!iR c key b
def VI(b:BE)(x:List BE):List BE:=x.takeWhile (fun a=>lI a b)++b::x.dropWhile (fun a=>lI a b)
def CZ(v:List BE)(c:List bH.D)(key:yP):List BE×Int:=if jg v=0 then(if bH.eZ c=0 then(rest v c key,0)else([],bH.eZ c))else([],jg v)
def Zu(v:List BE)(c:List bH.D)(b:BE):Bool:=dF b && !bH.cZ c b.eG && !(v.any fun a=>decide (a.eG=b.eG))
def OB(v:List BE)(c:List bH.D)(b:BE):List BE×Int:=if jg v=0 then(if bH.eZ c=0 then(if Zu v c b=true then(VI b (rest v c b.ky),0)else([],140))else([],bH.eZ c))else([],jg v)
theorem zF(v:List BE)c(key:yP):(rest v c key).Sublist v:=filter_sublist
theorem Zv{v}(h:Map v)c(key:yP):Map (rest v c key) :=
 ⟨fun b hb=>h.valid b ((zF v c key).subset hb),h.sorted.sublist (zF v c key),h.qV.sublist ((zF v c key).map _)⟩
theorem VJ(b:BE)x:(VI b x).Perm (b::x):=by grind[VI,perm_middle.trans,takeWhile_append_dropWhile]
theorem arw{b}{x}(h:x.Pairwise (fun a b=>lI a b=true))(hd:∀a∈x,a.eG≠b.eG):(VI b x).Pairwise (fun a b=>lI a b=true):=by
 induction x with
 |nil=>simp[VI]
 |cons a t ih =>
  rw[pairwise_cons]at h;have ih:=ih h.2 fun c hc=>hd c (yF _ hc);cases hl:lI a b with
  |true =>
   have e:VI b (a::t)=a::VI b t:=by simp[VI,hl]
   rw[e,pairwise_cons];refine⟨fun c hc=>?_,ih⟩;rcases yH.1 ((VJ b t).mem_iff.1 hc)with rfl|hc
   .exact hl
   grind
  |false =>
   have e:VI b (a::t)=b::a::t:=by simp[VI,hl]
   have hba:=(ar5 (hd a (y06 ..))).resolve_left (by rw[hl];decide);rw[e,pairwise_cons];refine⟨fun c hc=>?_,pairwise_cons.2 h⟩;rcases yH.1 hc with rfl|hc
   .exact hba
   .grind [sV]
theorem ash{v}{c}{b}:Zu v c b=true↔dF b=true/\bH.cZ c b.eG=false/\∀a∈v,a.eG≠b.eG:=by
 simp only[Zu,any_eq_false];grind
theorem asi{v}(h:Map v){c}{b}(hb:Zu v c b=true)key:Map (VI b (rest v c key)):=by
 obtain⟨h1,_,h3⟩:=ash.1 hb;have hr:=Zv h c key;have hd:∀a∈rest v c key,a.eG≠b.eG:=fun a ha=>h3 a ((zF v c key).subset ha);have hp:=VJ b (rest v c key);refine⟨fun a ha=>?_,arw hr.sorted hd,?_⟩
 .rcases yH.1 (hp.mem_iff.1 ha)with rfl|ha
  .exact h1
  .exact hr.valid a ha
 .rw [(hp.map BE.eG).nodup_iff,map_cons,nodup_cons];refine⟨fun hm=>?_,hr.qV⟩;grind
theorem auP{v w:List BE}(hv:Map v)(hw:Map w)(hm:∀a,a∈v↔a∈w):v=w:=by
 have nd:∀{l:List BE},Map l->l.Nodup:=fun{l} h=>by
  rw[nodup_iff_pairwise_ne];exact h.sorted.imp fun{a b} hl e=>by rw[e,arF]at hl;cases hl
 have hp:=(perm_ext_iff_of_nodup (nd hv) (nd hw)).2 hm;exact hp.eq_of_pairwise (fun a b _ _ h1 h2=>by rw[as7 h1]at h2;cases h2) hv.sorted hw.sorted
theorem acI(x y:BE):(x.dv==y.dv&&x.sq==y.sq)=decide (x.eG=y.eG):=by
 rw[Bool.eq_iff_iff];simp[BE.eG]
theorem CY(v:List BE){i}(h:i<=v.length)(h0:(i:Int)>0):v[((i:Int)-1).toNat]?=some (v[i-1]'zO):=by
 rw[show((i:Int)-1).toNat=i-1 by omega];simp
def fO(a:Int):Prop := -9223372036854775808<=a/\a<9223372036854775808
def fV(a b:Int):Value:=.agg #[.int .i64 a,.int .i64 b]
def fQ(v:List BE):List (Value×AV):=v.map fun x=>(fV x.dv x.sq,bool true)
theorem AL v:∀e∈fQ v,AV.bP 1 e.2=true:=by
 intro e he;obtain⟨x,_,rfl⟩:=yG.1 he;rfl
def nX(v:List BE)(k:Nat)(pre:List BE):St:={ aL:=aC 41 [(0,iK v),(3,.mp 0),(7,iK v),(8,int v.length),(9,int k)],H:=[.map (fQ pre)] }
def ckO(v:List BE):St:={ aL:=aC 41 [(0,iK v)],H:=[.aH] }
def U4(r:Int):St:={ aL:=aC 41 [(2,int r)],H:=[.aH] }
theorem afu(v:List BE)(k:Nat)(x:BE)(pre:List BE)(hv:v.length<=1000000000)(hk:(k:Int)<(v.length:Int))(hx:v[k]?=some x)(hq:dF x=false)(h:True):Rq 0 109 0 (nX v k pre) bF.ret (U4 140):=by
 exact bN.to (bN.qm ((show Rq 0 109 0 (nX v k pre) bF.ret (sM 41 [(2,int 140)] [.map (fQ pre)])from aG [ki ((k:Int)<v.length),ke (aQ x) (au v) k (bG hx),kc [] (@pV (x)),kt (show(!dF x)=true from(y32 (hq))),kO,kO,kp (show ∀(e:Value×AV),e∈fQ pre->AV.bP 1 e.2=true from(AL _))] (aB 41 [2]) 1)) (by exact⟨.inr yO,yO⟩)) rfl (eB.aC ⟨rfl,y34,yO⟩)
theorem aft(v:List BE)(k:Nat)(x:BE)(pre:List BE)(hv:v.length<=1000000000)(hk:(k:Int)<(v.length:Int))(hx:v[k]?=some x)(hq:dF x=true)(hm:bT P 49 (fQ pre) (fV x.dv x.sq) (bool false) (bool true) true)(h:((((k:Int)>0)->(∃x3:BE,((0:Int)<=(k:Int)-1/\v[Int.toNat ((k:Int)-1)]?=some x3)/\(((gM x3 x>=0)->True)/\((¬gM x3 x>=0)->True))))/\((¬(k:Int)>0)->True))):Rq 0 109 0 (nX v k pre) bF.ret (U4 140):=by
 have jw:=(@pV (x));have H6:∀(e:Value×AV),e∈fQ pre->AV.bP 1 e.2=true:=(AL _);let l1:List fP:=[ki ((k:Int)<v.length),ke (aQ x) (au v) k (bG hx),kc [] jw,kf (y32 (hq))];by_cases c2:((k:Int)>0)
 .have h:=h.1 c2;obtain⟨x3,o4,h⟩:=h;have OG:=(@DC (x3) (x));let l2:List fP:=l1++[kt (qT c2),kW 23 ((k:Int)-1) ((k:Int)-1),ko (bC.elem (aQ x3)),kp (show(0:Int)<=(k:Int)-1/\(au v)[Int.toNat ((k:Int)-1)]?=some (aQ x3)from(qU o4)),kc [] OG];by_cases c5:(gM x3 x>=0)
  .have h:=h.1 c5;have _:=h;exact bN.to (bN.qm ((show Rq 0 109 0 (nX v k pre) bF.ret (sM 41 [(2,int 140)] [.map (fQ pre)])from aG (l2++[kt (qT c5),kO,kp H6]) (aB 41 [2]) 1)) (by exact⟨.inr yO,yO⟩)) rfl (eB.aC ⟨rfl,y34,yO⟩)
  .have h:=h.2 c5;have _:=h;exact bN.to (bN.qm ((show Rq 0 109 0 (nX v k pre) bF.ret (sM 41 [(2,int 140)] [.map (fQ pre)])from aG (l2++[kf (qF c5),ko (bC.lJ (Am.bool true) true),kp hm,kO,kp H6]) (aB 41 [2]) 1)) (by exact⟨.inr yO,yO⟩)) rfl (eB.aC ⟨rfl,y34,yO⟩)
 .have h:=h.2 c2;have _:=h;exact bN.to (bN.qm ((show Rq 0 109 0 (nX v k pre) bF.ret (sM 41 [(2,int 140)] [.map (fQ pre)])from aG (l1++[kf (qF c2),kY,ko (bC.lJ (Am.bool true) true),kp hm,kO,kp H6]) (aB 41 [2]) 1)) (by exact⟨.inr yO,yO⟩)) rfl (eB.aC ⟨rfl,y34,yO⟩)
theorem afv v(k:Nat)pre(hv:v.length<=1000000000)(hk:¬k<(v.length:Int))(h:True):Rq 0 109 0 (nX v k pre) (bF.exit 0) (ckO v):=by
 exact bN.to (bN.qm ((show Rq 0 109 0 (nX v k pre) (bF.exit 0) (sM 41 [(0,.sl 5 false (au v))] [.map (fQ pre)])from aG [kj ((k:Int)<v.length)] (aB 41 [0]) 1)) (by exact⟨.inr yO,yO⟩)) rfl (eB.aC ⟨rfl,y34,yO⟩)
theorem afw(v:List BE)(k:Nat)(x:BE)(pre:List BE)(hv:v.length<=1000000000)(hk:(k:Int)<(v.length:Int))(hx:v[k]?=some x)(hq:dF x=true)(hs:(k:Int)>0)(hm:bT P 49 (fQ pre) (fV x.dv x.sq) (bool false) (bool false) false)(hp:jm P 49 (fQ pre) (fV x.dv x.sq) (bool true) (fQ (pre++[x])))(h:(∃x3:BE,((0:Int)<=(k:Int)-1/\v[Int.toNat ((k:Int)-1)]?=some x3)/\(((gM x3 x>=0)->True)/\((¬gM x3 x>=0)->Rq 0 109 0 (sM 41 [(0,.sl 5 false (au v)),(3,.mp 0),(7,.sl 5 false (au v)),(8,int ↑v.length),(9,int ↑(k+1))] [.map (fQ (pre++[x]))]) bF.ret (U4 140))))):Rq 0 109 0 (nX v k pre) bF.ret (U4 140):=by
 have jw:=(@pV (x));obtain⟨x3,o4,h⟩:=h;have H6:=(@DC (x3) (x));let l1:List fP:=[ki ((k:Int)<v.length),ke (aQ x) (au v) k (bG hx),kc [] jw,kf (y32 (hq)),ki ((k:Int)>0),kW 23 ((k:Int)-1) ((k:Int)-1),ko (bC.elem (aQ x3)),kp (show(0:Int)<=(k:Int)-1/\(au v)[Int.toNat ((k:Int)-1)]?=some (aQ x3)from(qU o4)),kc [] H6];by_cases c5:(gM x3 x>=0)
 .have h:=h.1 c5;exact bN.to (bN.qm ((show Rq 0 109 0 (nX v k pre) bF.ret (sM 41 [(2,int 140)] [.map (fQ pre)])from aG (l1++[kt (qT c5),kO,kp (show ∀(e:Value×AV),e∈fQ pre->AV.bP 1 e.2=true from(AL _))]) (aB 41 [2]) 1)) (by exact⟨.inr yO,yO⟩)) rfl (eB.aC ⟨rfl,y34,yO⟩)
 .have h:=h.2 c5;exact aJ (l1++[kf (qF c5),ko (bC.lJ (Am.bool false) false),kp hm,kY,ko (bC.wT (fQ (pre++[x]))),kp hp,kW 40 (k+1) ↑(k+1),kp (show ∀(e:Value×AV),e∈fQ (pre++[x])->AV.bP 1 e.2=true from(AL _))]) (aB 41 [0,3,7,8,9]) 1 h
theorem LZ(v:List BE)(k:Nat)(x:BE)(pre:List BE)(hv:v.length<=1000000000)(hk:(k:Int)<(v.length:Int))(hx:v[k]?=some x)(hq:dF x=true)(hm:bT P 49 (fQ pre) (fV x.dv x.sq) (bool false) (bool false) false)(hp:jm P 49 (fQ pre) (fV x.dv x.sq) (bool true) (fQ (pre++[x])))(ex:bF)(s:St)(h:((((k:Int)>0)->(∃x3:BE,((0:Int)<=(k:Int)-1/\v[Int.toNat ((k:Int)-1)]?=some x3)/\(((gM x3 x>=0)->(bF.ret=ex)/\(sM 41 [] [.map (fQ pre)]=s))/\((¬gM x3 x>=0)->Rq 0 109 0 (sM 41 [(0,.sl 5 false (au v)),(3,.mp 0),(7,.sl 5 false (au v)),(8,int ↑v.length),(9,int ↑(k+1))] [.map (fQ (pre++[x]))]) ex s))))/\((¬(k:Int)>0)->Rq 0 109 0 (sM 41 [(0,.sl 5 false (au v)),(3,.mp 0),(7,.sl 5 false (au v)),(8,int ↑v.length),(9,int ↑(k+1))] [.map (fQ (pre++[x]))]) ex s))):Rq 0 109 0 (nX v k pre) ex s:=by
 have jw:=(@pV (x));have Bb:∀(e:Value×AV),e∈fQ (pre++[x])->AV.bP 1 e.2=true:=(AL _);let l1:List fP:=[ki ((k:Int)<v.length),ke (aQ x) (au v) k (bG hx),kc [] jw,kf (y32 (hq))];by_cases c2:((k:Int)>0)
 .have h:=h.1 c2;obtain⟨x3,o4,h⟩:=h;have OG:=(@DC (x3) (x));let l2:List fP:=l1++[kt (qT c2),kW 23 ((k:Int)-1) ((k:Int)-1),ko (bC.elem (aQ x3)),kp (show(0:Int)<=(k:Int)-1/\(au v)[Int.toNat ((k:Int)-1)]?=some (aQ x3)from(qU o4)),kc [] OG];by_cases c5:(gM x3 x>=0)
  .have h:=h.1 c5;obtain⟨eX,eS⟩:=h;exact bN.to ((aG (l2++[kt (qT c5),kO,kp (show ∀(e:Value×AV),e∈fQ pre->AV.bP 1 e.2=true from(AL _))]) (aB 41 []) 1)) eX (eB.of_eq eS)
  .have h:=h.2 c5;exact aJ (l2++[kf (qF c5),ko (bC.lJ (Am.bool false) false),kp hm,kY,ko (bC.wT (fQ (pre++[x]))),kp hp,kW 40 (k+1) ↑(k+1),kp Bb]) (aB 41 [0,3,7,8,9]) 1 h
 .have h:=h.2 c2;exact aJ (l1++[kf (qF c2),kY,ko (bC.lJ (Am.bool false) false),kp hm,kY,ko (bC.wT (fQ (pre++[x]))),kp hp,kW 40 (k+1) ↑(k+1),kp Bb]) (aB 41 [0,3,7,8,9]) 1 h
theorem laid:laidOutB P=true:=zQ
theorem fO.wf{n}(h:fO n):(Lit.int .i64 n).wf=true:=by
 unfold fO at h;simp[Lit.wf,IntKind.min,IntKind.signed,IntKind.bits];omega
theorem sz1:∃n,P.types.size=n+1:=by
 have h:1<=P.types.size:=Nat.le_of_ble_eq_true zQ;simp
theorem uG d{n}(h:fO n):P.keyLits (d+1) 3 [.int .i64 n]=some [.int .i64 n]:=by
 simp[Program.keyLits,h.wf]
theorem lD:Maps.Keyed P 49:=Maps.Keyed.of_law (deep_law_laid laid (m:=2) zD (Nat.le_of_ble_eq_true zQ) zQ zQ)
theorem uy{a b}(ha:fO a)(hb:fO b):∃l,keyOf P 49 (fV a b)=some l:=by
 have h1:(P.keyType 49&&(fV a b).formed P 49)=true:=zQ
 have h2:P.keyLits (P.types.size+1) 49 (fV a b).cells.toList=([P.keyLits P.types.size 3 [.int .i64 a],P.keyLits P.types.size 3 [.int .i64 b]].mapM id).map flatten:=zQ
 obtain⟨n,hn⟩:=sz1;refine⟨.string (keyBytes [.int .i64 a,.int .i64 b]),?_⟩;unfold keyOf;rw[yL h1,h2,hn,uG n ha,uG n hb];rfl
theorem nU{a b a' b'}(h:fV a b=fV a' b'):a=a'/\b=b':=by
 simp only[fV,Value.agg.injEq,Array.mk.injEq,List.cons.injEq,Value.int.injEq,true_and,and_true]at h;exact h
theorem AP{x}(h:dF x=true):fO x.dv/\fO x.sq:=by
 simp only[dF,y04,y05]at h;unfold fO;omega
theorem sS{v}(h:∀x∈v,dF x=true):∀e∈fQ v,∃l,keyOf P 49 e.1=some l:=fun e he=>by
 obtain⟨x,hx,rfl⟩:=yG.1 he;obtain⟨h1,h2⟩:=AP (h x hx);exact uy h1 h2
theorem L6{v}(h:∀x∈v,dF x=true){x}(hx:dF x=true)(hm:(v.any fun c=>decide (c.eG=x.eG))=true):bT P 49 (fQ v) (fV x.dv x.sq) (bool false) (bool true) true:=by
 obtain⟨y,hy,e⟩:=any_eq_true.1 hm;have e:=y18 e;obtain⟨h1,h2⟩:=AP hx;refine⟨lD,uy h1 h2,sS h,.inl ⟨rfl,yG.2 ⟨y,hy,?_⟩⟩⟩;simp only[BE.eG,Prod.mk.injEq]at e;grind
theorem H8{v}{x:BE}(hm:(v.any fun c=>decide (c.eG=x.eG))=false):∀e∈fQ v,e.1≠fV x.dv x.sq:=fun e he hq=>by
 obtain⟨y,hy,rfl⟩:=yG.1 he;obtain⟨q1,q2⟩:=nU hq;have:=any_eq_false.1 hm y hy;rw[y05]at this;exact this (by rw[BE.eG,BE.eG,q1,q2])
theorem H9{v}(h:∀x∈v,dF x=true){x}(hx:dF x=true)(hm:(v.any fun c=>decide (c.eG=x.eG))=false):bT P 49 (fQ v) (fV x.dv x.sq) (bool false) (bool false) false:=by
 obtain⟨h1,h2⟩:=AP hx;exact⟨lD,uy h1 h2,sS h,.inr ⟨rfl,rfl,H8 hm⟩⟩
theorem L8{v}(h:∀x∈v,dF x=true){x}(hx:dF x=true)(hm:(v.any fun c=>decide (c.eG=x.eG))=false):jm P 49 (fQ v) (fV x.dv x.sq) (bool true) (fQ (v++[x])):=by
 obtain⟨h1,h2⟩:=AP hx;exact⟨lD,uy h1 h2,sS h,.inr ⟨H8 hm,by simp[fQ]⟩⟩
theorem L9(v:List BE)(hv:v.length<=1000000000):∀n k,v.length-k=n->k<=v.length->(∀x∈v.take k,dF x=true)->(y9 v n k=true->Rq 0 109 0 (nX v k (v.take k)) (.exit 0) (ckO v))/\(y9 v n k=false->Rq 0 109 0 (nX v k (v.take k)) .ret (U4 140)):=by
 intro n
 induction n with
 |zero=>intro k hn hk _;exact⟨fun _=>afv v k _ hv zO yO,fun h=>by cases h⟩
 |succ n ih =>
  intro k hn hk QZ;have bg:k<v.length:=zO
  have hx:=yA bg;have e:y9 v (n+1) k=(jh v k&&y9 v n (k+1)):=rfl;rw[e];cases hq:dF v[k]with
  |false =>
   have e2:jh v k=false:=by simp only[jh,hx,hq,Bool.false_and]
   rw[e2,Bool.false_and];exact⟨fun h=>by (cases h),fun _=>afu v k _ _ hv zO hx hq yO⟩
  |true =>
   have ht:v.take (k+1)=v.take k++[v[k]]:=by rw[take_append_getElem]
   have akz:∀x∈v.take (k+1),dF x=true:=by grind
   obtain⟨n1,n2⟩:=ih (k+1) zO zO akz;rw[ht]at n1 n2;cases hd:(v.take k).any fun c=>decide (c.eG=v[k].eG)with
   |true =>
    have e2:jh v k=false:=by simp only[jh,hx,hd,Bool.not_true,Bool.and_false]
    rw[e2,Bool.false_and];refine⟨fun h=>by (cases h),fun _=>aft v k _ _ hv zO hx hq (L6 QZ hq hd) ⟨fun h0=>?_,fun _=>trivial⟩⟩;exact⟨_,⟨zO,CY v hk h0⟩,fun _=>trivial,fun _=>trivial⟩
   |false =>
    have g:=H9 QZ hq hd;have p:=L8 QZ hq hd;by_cases h0:(k:Int)>0
    .have hy:=CY v hk h0;have hy':v[k-1]?=some (v[k-1]'zO):=yA zO;have U5:(k==0)=false:=by simp;omega
     cases hl:lI (v[k-1]'zO) v[k]with
     |false =>
      have e2:jh v k=false:=by simp only[jh,hx,hy',hq,hl,U5,Bool.false_and,Bool.and_false,Bool.or_self]
      rw[e2,Bool.false_and];have hg:=(Pn (v[k-1]'zO) v[k]).2 hl;exact⟨fun h=>by (cases h),fun _=>afw v k _ _ hv zO hx hq h0 g p ⟨_,⟨zO,hy⟩,fun _=>trivial,fun h=>absurd hg h⟩⟩
     |true =>
      have e2:jh v k=true:=by simp only[jh,hx,hy',hq,hl,hd,Bool.true_and,Bool.or_true,Bool.not_false,Bool.and_true]
      rw[e2,Bool.true_and];have hg:¬gM (v[k-1]'zO) v[k]>=0:=fun h=>by rw[(Pn _ _).1 h]at hl;cases hl
      exact⟨fun h=>LZ v k _ _ hv zO hx hq g p _ _ ⟨fun _=>⟨_,⟨zO,hy⟩,fun h=>absurd h hg,fun _=>n1 h⟩,fun _=>n1 h⟩,fun h=>LZ v k _ _ hv zO hx hq g p _ _ ⟨fun _=>⟨_,⟨zO,hy⟩,fun h=>absurd h hg,fun _=>n2 h⟩,fun _=>n2 h⟩⟩
    .have U5:(k==0)=true:=by simp;omega
     have e2:jh v k=true:=by simp only[jh,hx,hq,U5,hd,Bool.true_and,Bool.true_or,Bool.not_false,Bool.and_true]
     rw[e2,Bool.true_and];exact⟨fun h=>LZ v k _ _ hv zO hx hq g p _ _ ⟨fun h=>absurd h h0,fun _=>n1 h⟩,fun h=>LZ v k _ _ hv zO hx hq g p _ _ ⟨fun h=>absurd h h0,fun _=>n2 h⟩⟩
theorem Ma v(h0:Rq 0 109 0 (nX v 0 []) (.exit 0) (ckO v))(h:True):Cq 109 [iK v] (int 0):=by
 exact aj [kN 8 (ay v),kl (rG [(1,2),(4,3),(10,31)]) 1 h0]
theorem Mc v(h0:Rq 0 109 0 (nX v 0 []) .ret (U4 140))(h:True):Cq 109 [iK v] (int 140):=by
 exact aj [kN 8 (ay v),kl (rG [(1,2),(4,3),(10,31)]) 1 h0]
theorem fG v(hv:v.length<=1000000000):Cq 109 [iK v] (int (jg v)):=by
 unfold jg;obtain⟨h1,h2⟩:=L9 v hv v.length 0 zO zO zS;cases hb:Cw v with
 |true=>exact Ma v (h1 hb) trivial
 |false=>exact Mc v (h2 hb) trivial
theorem aeo(a b:BE):((a.ky==b.ky&&(a.dv==b.dv&&(a.sq==b.sq&&(a.tm==b.tm&&a.vl==b.vl))))=true)↔a=b:=by
 rw[tN,tN];cases a;cases b;simp
def KR{α:Type}[DecidableEq α](a b:List α):Nat->Nat->Bool
 |0,_=>true
 |n+1,k=>match a[k]?,b[k]? with
  |some x,some y=>decide (x=y)&&KR a b n (k+1)
  |_,_=>true
theorem DI{α}[DecidableEq α]{a b:List α}(hl:a.length=b.length):∀n k,a.length-k=n->k<=a.length->(KR a b n k=true↔a.drop k=b.drop k)
 |0,k,hn,hk=>by
  have h1:a.drop k=[]:=y17 zO;have h2:b.drop k=[]:=y17 zO;simp[KR,h1,h2]
 |n+1,k,hn,hk=>by
  have ha:k<a.length:=zO
  have hb:k<b.length:=zO
  rw[KR,yA ha,yA hb,y01 ha,y01 hb];simp only[y04,y05,List.cons.injEq,DI hl n (k+1) zO zO]
theorem GK{α}[DecidableEq α]{a b:List α}(hl:a.length=b.length):KR a b a.length 0=decide (a=b):=by
 rw[Bool.eq_iff_iff,DI hl a.length 0 zO zO];simp
theorem tO{α}[DecidableEq α]{a b}{n k}{x y:α}(ha:a[k]?=some x)(hb:b[k]?=some y):KR a b (n+1) k=(decide (x=y)&&KR a b n (k+1)):=by rw[KR,ha,hb]
def IU(a b:List BE)(k:Nat):St:={ aL:=aC 26 [(0,iK a),(1,iK b),(4,bool false),(5,int k)],H:=[] }
theorem Zw(a b:List BE)(k:Nat)(hl:a.length=b.length)(hv:b.length<=1000000000)(ex:bF)(o:Bool)(h:((((k:Int)<(a.length:Int))->(∃x2:BE,(a[k]?=some x2)/\(∃x4:BE,(b[k]?=some x4)/\((((x2.ky==x4.ky&&(x2.dv==x4.dv&&(x2.sq==x4.sq&&(x2.tm==x4.tm&&x2.vl==x4.vl))))=true)->Rq 0 78 0 (sM 26 [(0,.sl 5 false (au a)),(1,.sl 5 false (au b)),(4,Am.bool false),(5,int ↑(k+1))] []) ex (sM 26 [(4,Am.bool o)] []))/\(((x2.ky==x4.ky&&(x2.dv==x4.dv&&(x2.sq==x4.sq&&(x2.tm==x4.tm&&x2.vl==x4.vl))))=false)->(bF.ret=ex)/\((false)=(o)))))))/\((¬(k:Int)<(a.length:Int))->(bF.exit 0=ex)/\((false)=(o))))):Rq 0 78 0 (IU a b k) ex (sM 26 [(4,Am.bool o)] []):=by
 have bS:=lU (ay a);by_cases c1:((k:Int)<(a.length:Int))
 .have h:=h.1 c1;obtain⟨x2,o3,h⟩:=h;obtain⟨x4,o5,h⟩:=h;let l1:List fP:=[kv 13 bS,kt (qT c1),ko (bC.elem (aQ x2)),ko (bC.elem (aQ x4)),kp (show(0:Int)<=(k:Int)/\(au a)[Int.toNat (k:Int)]?=some (aQ x2)from(bG o3)),kp (show(0:Int)<=(k:Int)/\(au b)[Int.toNat (k:Int)]?=some (aQ x4)from(bG o5))];rcases y00 ((x2.ky==x4.ky&&(x2.dv==x4.dv&&(x2.sq==x4.sq&&(x2.tm==x4.tm&&x2.vl==x4.vl)))))with c6|c6
  .have h:=h.1 c6;exact aJ (l1++[kf (y32 (c6)),kW 16 (k+1) ↑(k+1)]) (aB 26 [0,1,4,5]) 0 h
  .have h:=h.2 c6;obtain⟨eX,e1⟩:=h;exact bN.to ((show Rq 0 78 0 (IU a b k) bF.ret (sM 26 [(4,Am.bool false)] [])from aG (l1++[kt (show(!(x2.ky==x4.ky&&(x2.dv==x4.dv&&(x2.sq==x4.sq&&(x2.tm==x4.tm&&x2.vl==x4.vl)))))=true from(y32 (c6)))]) (aB 26 [4]) 0)) eX (eB.aC ⟨rfl,(aF.aI e1),yO⟩)
 .have h:=h.2 c1;obtain⟨eX,e1⟩:=h;exact bN.to ((show Rq 0 78 0 (IU a b k) (bF.exit 0) (sM 26 [(4,Am.bool false)] [])from aG [kv 13 bS,kf (qF c1)] (aB 26 [4]) 0)) eX (eB.aC ⟨rfl,(aF.aI e1),yO⟩)
theorem Na a b(hl:a.length=b.length)(hv:b.length<=1000000000):∀n k,a.length-k=n->k<=a.length->Rq 0 78 0 (IU a b k) (if KR a b n k=true then .exit 0 else .ret) { aL:=aC 26 [(4,bool false)],H:=[] }:=by
 intro n
 induction n with
 |zero=>intro k hn hk;exact Zw a b k hl hv _ _ ⟨fun h=>absurd h zO,fun _=>⟨rfl,rfl⟩⟩
 |succ n ih =>
  intro k hn hk;have bg:k<a.length:=zO
  have hx:=yA bg;have hy:b[k]?=some (b[k]'zO):=yA zO;refine Zw a b k hl hv _ _ ⟨fun h=>⟨a[k],hx,b[k]'zO,hy,⟨fun hq=>?_,fun hq=>?_⟩⟩,fun h=>absurd bg zO⟩
  .rw [tO hx hy,y19 ((aeo _ _).1 hq)];exact ih (k+1) zO zO
  .rw [tO hx hy,y20 (fun e=>by rw[(aeo _ _).2 e]at hq;cases hq)];simp
theorem IV a b(hl:a.length=b.length)(hv:b.length<=1000000000):Rq 0 78 0 (IU a b 0) (if a=b then .exit 0 else .ret) { aL:=aC 26 [(4,bool false)],H:=[] }:=by
 have:=Na a b hl hv a.length 0 zO zO;rw[GK hl]at this;grind
theorem DJ a b(ha:a.length<=1000000000)(hb:b.length<=1000000000)(h:((((a.length:Int)=b.length)->(((a=b)->(true)=(decide (a=b)))/\((¬a=b)->(false)=(decide (a=b)))))/\((¬(a.length:Int)=b.length)->(false)=(decide (a=b))))):Cq 78 [iK a,iK b] (Am.bool (decide (a=b))):=by
 have bS:=lU (ay a);have fT:=lU (ay b);by_cases c1:(a.length=(b.length:Int))
 .have h:=h.1 c1;have jw:=(y32 (nW.2 c1));by_cases c2:(a=b)
  .have h:=h.1 c2;exact aA (aF.aI h) [kv 7 bS,kv 9 fT,kf jw,kl (rG [(2,2),(6,20)]) 0 (((by have h0:=(@IV (a) (b) zO zO);simp only[yL c2]at h0;exact h0)))]
  .have h:=h.2 c2;exact aA (aF.aI h) [kv 7 bS,kv 9 fT,kf jw,kl (rG [(2,2),(6,20)]) 0 (((by have h0:=(@IV (a) (b) zO zO);simp only[yK c2]at h0;exact h0)))]
 .have h:=h.2 c1;exact aA (aF.aI h) [kv 7 bS,kv 9 fT,kt (y32 (qN.2 c1))]
theorem C9 a b(ha:a.length<=1000000000)(hb:b.length<=1000000000):Cq 78 [iK a,iK b] (bool (decide (a=b))):=DJ a b ha hb (by
 grind)
abbrev Po(i j:Nat):AV:=.fn (.func 275) [] [.ptr i 0,.ptr j 0]
abbrev smF(i:Nat):AV:=.fn (.func 272) [] [.ptr i 0]
theorem afA c(k:yP)b(hc:c.length<=1000000000)r(h:((((ByteArray.toList b.ky==ByteArray.toList k)=true)->(bH.cZ c (b.2,b.3))=(r))/\(((ByteArray.toList b.ky==ByteArray.toList k)=false)->(false)=(r)))):ak P G 275 [oN b,.ptr 0 0,.ptr 1 0] [ah.box [str k],ah.box [bH.bB c]] (aS.ret (Am.bool r)) [ah.box [str k],ah.box [bH.bB c]]:=by
 rcases y00 ((ByteArray.toList b.ky==ByteArray.toList k))with c1|c1
 .have h:=h.1 c1;exact aA (aF.aI h) [kt c1,kc [] (@Go.bH.jX (c) (b.2) (b.3) zO)]
 .have h:=h.2 c1;exact aA (aF.aI h) [kf c1]
theorem anR(b c:BE)r(h:(b.dv==c.dv&&b.sq==c.sq)=(r)):ak P G 272 [oN b,.ptr 0 0] [ah.box (aQ c)] (aS.ret (Am.bool r)) [ah.box (aQ c)]:=by
 exact aA (aF.aI h) []
theorem agn c(k:yP)b(hc:c.length<=1000000000):ak P G 275 [oN b,.ptr 0 0,.ptr 1 0] [.box [str k],.box [bH.bB c]] (.ret (bool (iR c k b))) [.box [str k],.box [bH.bB c]]:=afA c k b hc _ (by
 rw[rC];refine⟨fun h=>?_,fun h=>?_⟩
 .rw [iR,h];rfl
 .rw [iR,h,Bool.false_and])
theorem anS b c:ak P G 272 [oN b,.ptr 0 0] [.box (aQ c)] (.ret (bool (decide (b.eG=c.eG)))) [.box (aQ c)]:=anR b c _ (acI b c)
def ixS(v:List BE)(b:BE)(k:Nat):St:={ aL:=aC 19 [(0,iK v),(1,smF 0),(4,int 0),(6,iK v),(7,int v.length),(8,int k)],H:=[.box (aQ b)] }
theorem aep v(b:BE)(k:Nat)(hv:v.length<=1000000000)(ex:bF)r(h:((((k:Int)<v.length)->(∃x2:BE,(v[k]?=some x2)/\(((x2.eG=b.eG)->(bF.ret=ex)/\((k:Int)=(r)))/\((¬x2.eG=b.eG)->Rq 1 193 0 (sM 19 [(0,.sl 5 false (au v)),(1,.fn (Fn.func 272) [] [.ptr 0 0]),(4,int 0),(6,.sl 5 false (au v)),(7,int ↑v.length),(8,int ↑(k+1))] [.box [str b.ky,int b.dv,int b.sq,int b.tm,str b.vl]]) ex (sM 19 [(4,int r)] [.box (aQ b)])))))/\((¬(k:Int)<v.length)->(bF.exit 0=ex)/\(0=r)))):Rq 1 193 0 (ixS v b k) ex (sM 19 [(4,int r)] [.box (aQ b)]):=by
 by_cases c1:((k:Int)<(v.length:Int))
 .have h:=h.1 c1;obtain⟨x2,o3,h⟩:=h;have fT:=(@anS (x2) (b));let l1:List fP:=[kt (qT c1),ke (aQ x2) (au v) k (bG o3),kc [0] fT];by_cases c4:(x2.eG=b.eG)
  .have h:=h.1 c4;obtain⟨eX,e1⟩:=h;exact bN.to ((show Rq 1 193 0 (ixS v b k) bF.ret (sM 19 [(4,int ↑k)] [.box [str b.ky,int b.dv,int b.sq,int b.tm,str b.vl]])from aG (l1++[kt (qT c4)]) (aB 19 [4]) 1)) eX (eB.aC ⟨rfl,(aF.int_eq e1),yO⟩)
  .have h:=h.2 c4;exact aJ (l1++[kf (qF c4),kW 18 (k+1) ↑(k+1)]) (aB 19 [0,1,4,6,7,8]) 1 h
 .have h:=h.2 c1;obtain⟨eX,e1⟩:=h;exact bN.to ((show Rq 1 193 0 (ixS v b k) (bF.exit 0) (sM 19 [(4,int 0)] [.box [str b.ky,int b.dv,int b.sq,int b.tm,str b.vl]])from aG [kf (qF c1)] (aB 19 [4]) 1)) eX (eB.aC ⟨rfl,(aF.int_eq e1),yO⟩)
def ixO(v:List BE)(c:List bH.D)(y:yP)(k:Nat):St:={ aL:=aC 19 [(0,.aU 0 0 0 v.length),(1,Po 1 2),(4,int 0),(6,.aU 0 0 0 v.length),(7,int v.length),(8,int k)],H:=[.aN 0 5 false (au v),.box [str y],.box [bH.bB c]] }
theorem aer(v:List BE)c(y:yP)(k:Nat)(hv:v.length<=1000000000)(hc:c.length<=1000000000)(ex:bF)r(h:(((k<(v.length:Int))->(∃x2:BE,(v[0+k]?=some x2)/\((((iR c y x2)=true)->(bF.ret=ex)/\((k:Int)=(r)))/\(((iR c y x2)=false)->Rq 3 193 0 (sM 19 [(0,.aU 0 0 0 v.length),(1,.fn (Fn.func 275) [] [.ptr 1 0,.ptr 2 0]),(4,int 0),(6,.aU 0 0 0 v.length),(7,int ↑v.length),(8,int ↑(k+1))] [.aN 0 5 false (au v),.box [str y],.box [.sl 2 false (bH.au c)]]) ex (sM 19 [(4,int r)] [.aN 0 5 false (au v),.box [str y],.box [bH.bB c]])))))/\((¬k<(v.length:Int))->(bF.exit 0=ex)/\(0=r)))):Rq 3 193 0 (ixO v c y k) ex (sM 19 [(4,int r)] [.aN 0 5 false (au v),.box [str y],.box [bH.bB c]]):=by
 have bS:0=0:=(rfl);by_cases c1:((k:Int)<(v.length:Int))
 .have h:=h.1 c1;obtain⟨x2,o3,h⟩:=h;have x9:=(@agn (c) (y) (x2) zO);let l1:List fP:=[kt (qT c1),ko (bC.elem (aQ x2)),kp bS,kR (k:Int) (v.length:Int),kp bS,kp (show(au v)[0+Int.toNat (k:Int)]?=some (aQ x2)from(iN o3)),kc [1,2] x9];rcases y00 ((iR c y x2))with c4|c4
  .have h:=h.1 c4;obtain⟨eX,e1⟩:=h;exact bN.to ((show Rq 3 193 0 (ixO v c y k) bF.ret (sM 19 [(4,int ↑k)] [.aN 0 5 false (au v),.box [str y],.box [.sl 2 false (bH.au c)]])from aG (l1++[kt c4]) (aB 19 [4]) 3)) eX (eB.aC ⟨rfl,(aF.int_eq e1),yO⟩)
  .have h:=h.2 c4;exact aJ (l1++[kf c4,kW 18 (k+1) ↑(k+1)]) (aB 19 [0,1,4,6,7,8]) 3 h
 .have h:=h.2 c1;obtain⟨eX,e1⟩:=h;exact bN.to ((show Rq 3 193 0 (ixO v c y k) (bF.exit 0) (sM 19 [(4,int 0)] [.aN 0 5 false (au v),.box [str y],.box [.sl 2 false (bH.au c)]])from aG [kf (qF c1)] (aB 19 [4]) 3)) eX (eB.aC ⟨rfl,(aF.int_eq e1),yO⟩)
theorem Yi v(hv:v.length<=1000000000)(fF:¬au v=[])(h:True):ak P G 83 [iK v] [] (aS.ret (AV.aU 0 0 0 v.length)) [ah.aN 0 5 false (au v)]:=by
 exact aj [kp (show au v≠[]from zO),kY,kv 7 (show Am.aF (AV.aU 0 0 0 (0+length (au v))) (AV.aU 0 0 0 v.length)from(aF.of_eq (by simp[ay,dW]))),kp fF,vV ((0+length (au v))*56) (by simp only[ay,bK]<;>omega)]
def Bc(i j:Nat):Int:=IntKind.wrap IntKind.i64 (Int.fdiv (↑(i+j):Int) (2^min (Int.toNat 1) (IntKind.bits IntKind.u64)))
theorem Ms{i j}(h:i+j<=1000000000000):Bc i j=((i+j)/2:Nat):=by
 have e:(2^min (Int.toNat 1) (IntKind.bits IntKind.u64):Int)=2:=zD
 unfold Bc;rw[e,IntKind.wrap_i64,Int.fdiv_eq_ediv_of_nonneg _ zO];omega
def Yg(v w:List BE)(b:BE)(i j:Nat):St:={ aL:=aC 49 [(0,.aU 0 0 0 v.length),(2,yT 149),(4,.ptr 1 0),(8,int v.length),(9,int i),(10,int j)],H:=[.aN 0 5 false (au (v++w)),.box (aQ b)] }
theorem afH(v w:List BE)(b:BE)(i j m:Nat)(hj:j<=v.length)(hv:v.length<=1000000000)(hm:Bc i j=(m:Int))(hm':IntKind.wrap IntKind.i64 (Int.fdiv (↑(i+j):Int) (2^min (Int.toNat 1) (IntKind.bits IntKind.u64)))=(m:Int))(bg:m<j)(ex:bF)(s:St)(h:((((i:Int)<(j:Int))->(∃x2:BE,((v++w)[0+Int.toNat (Bc i j)]?=some x2)/\(((gM x2 b<0)->Rq 1 273 0 (sM 49 [(0,.aU 0 0 0 v.length),(2,iL 149),(4,.ptr 1 0),(8,int ↑v.length),(9,int (Bc i j+1)),(10,int ↑j)] [.aN 0 5 false (au (v++w)),.box [str b.ky,int b.dv,int b.sq,int b.tm,str b.vl]]) ex s)/\((¬gM x2 b<0)->Rq 1 273 0 (sM 49 [(0,.aU 0 0 0 v.length),(2,iL 149),(4,.ptr 1 0),(8,int ↑v.length),(9,int ↑i),(10,int (Bc i j))] [.aN 0 5 false (au (v++w)),.box [str b.ky,int b.dv,int b.sq,int b.tm,str b.vl]]) ex s))))/\((¬(i:Int)<(j:Int))->(bF.exit 0=ex)/\(sM 49 [(0,.aU 0 0 0 v.length),(2,iL 149),(4,.ptr 1 0),(8,int ↑v.length),(9,int ↑i)] [.aN 0 5 false (au (v++w)),.box [str b.ky,int b.dv,int b.sq,int b.tm,str b.vl]]=s)))):Rq 1 273 0 (Yg v w b i j) ex s:=by
 have x9:0=0:=(rfl);by_cases c1:((i:Int)<(j:Int))
 .have h:=h.1 c1;obtain⟨x2,o3,h⟩:=h;have OG:=(@DC (x2) (b));let l1:List fP:=[kt (qT c1),kW 20 ((i:Int)+(j:Int)) (↑(i+j):Int),kv 21 (show Am.aF (AV.lit (Value.int IntKind.u64 (IntKind.wrap IntKind.u64 (↑(i+j):Int)))) (AV.lit (Value.int IntKind.u64 (↑(i+j):Int)))from(aF.zf zO zO rfl)),ko (bC.elem (aQ x2)),kp (show(0:Int)<=(1:Int)from zO),kp x9,kp (show(0:Int)<=IntKind.wrap IntKind.i64 (Int.fdiv (↑(i+j):Int) (2^min (Int.toNat 1) (IntKind.bits IntKind.u64)))/\IntKind.wrap IntKind.i64 (Int.fdiv (↑(i+j):Int) (2^min (Int.toNat 1) (IntKind.bits IntKind.u64)))<(v.length:Int)from zO),kp x9,kp (show(au (v++w))[0+Int.toNat (IntKind.wrap IntKind.i64 (Int.fdiv (↑(i+j):Int) (2^min (Int.toNat 1) (IntKind.bits IntKind.u64))))]?=some (aQ x2)from(iN o3)),kc [] OG];by_cases c4:(gM x2 b<0)
  .have h:=h.1 c4;exact aJ (l1++[kt (qT c4),kW 33 (IntKind.wrap IntKind.i64 (Int.fdiv (↑(i+j):Int) (2^min (Int.toNat 1) (IntKind.bits IntKind.u64)))+1) (Bc i j+1)]) (aB 49 [0,2,4,8,9,10]) 2 h
  .have h:=h.2 c4;exact aJ (l1++[kf (qF c4)]) (aB 49 [0,2,4,8,9,10]) 2 h
 .have h:=h.2 c1;obtain⟨eX,eS⟩:=h;exact bN.to ((aG [kf (qF c1)] (aB 49 [0,2,4,8,9]) 2)) eX (eB.of_eq eS)
def nE(p:BE->Bool):Nat->List BE->Int
 |_,[] => -1
 |k,b::t=>if p b=true then(k:Int)else nE p (k+1) t
theorem qD{p}:∀{v}{k},v.any p=false->nE p k v = -1
 |[],_,_=>rfl
 |b::t,k,h=>by
  simp only[any_cons,Bool.or_eq_false_iff]at h;rw[nE,yK (by rw[h.1];decide)];exact qD h.2
theorem IW{p}:∀{v}{k},v.any p=true->∃j b,nE p k v=(k+j:Nat)/\v[j]?=some b/\p b=true/\∀a∈v.take j,p a=false
 |[],_,h=>by cases h
 |b::t,k,h=>by
  cases hp:p b with
  |true=>exact⟨0,b,by rw[nE,yL hp];rfl,rfl,hp,zS⟩
  |false =>
   simp only[any_cons,hp]at h;obtain⟨j,c,h1,h2,h3,h4⟩:=IW  h;refine⟨j+1,c,by rw[nE,yK (by rw[hp];decide),h1];omega,by simpa using h2,h3,fun a ha=>?_⟩;grind
theorem Zx v(b:BE)(hv:v.length<=1000000000):∀n k,v.length-k=n->k<=v.length->Rq 1 193 0 (ixS v b k) (if(v.drop k).any (fun a=>decide (a.eG=b.eG))=true then .ret else .exit 0) { aL:=aC 19 [(4,int (if(v.drop k).any (fun a=>decide (a.eG=b.eG))=true then nE (fun a=>decide (a.eG=b.eG)) k (v.drop k)else 0))],H:=[.box (aQ b)] }:=by
 intro n
 induction n with
 |zero =>
  intro k hn hk;rw[y17 zO];exact aep v b k hv _ _ ⟨fun h=>absurd h zO,fun _=>⟨rfl,rfl⟩⟩
 |succ n ih =>
  intro k hn hk;have bg:k<v.length:=zO
  have nx:=ih (k+1) zO zO;rw[y01 bg,any_cons,nE];refine aep v b k hv _ _ ⟨fun h=>⟨v[k],yA bg,⟨fun hq=>?_,fun hq=>?_⟩⟩,fun h=>absurd bg zO⟩
  .simp [hq]
  .simp only[y20 hq];exact nx
theorem Zy(v:List BE)c(y:yP)(hv:v.length<=1000000000)(hc:c.length<=1000000000):∀n k,v.length-k=n->k<=v.length->Rq 3 193 0 (ixO v c y k) (if(v.drop k).any (iR c y)=true then .ret else .exit 0) { aL:=aC 19 [(4,int (if(v.drop k).any (iR c y)=true then nE (iR c y) k (v.drop k)else 0))],H:=[.aN 0 5 false (au v),.box [str y],.box [bH.bB c]] }:=by
 intro n
 induction n with
 |zero =>
  intro k hn hk;rw[y17 zO];exact aer v c y k hv hc _ _ ⟨fun h=>absurd h zO,fun _=>⟨rfl,rfl⟩⟩
 |succ n ih =>
  intro k hn hk;have bg:k<v.length:=zO
  have nx:=ih (k+1) zO zO;rw[y01 bg,any_cons,nE];refine aer v c y k hv hc _ _ ⟨fun h=>⟨v[k],by rw[y12];simp,⟨fun hq=>?_,fun hq=>?_⟩⟩,fun h=>absurd bg zO⟩
  .simp [hq]
  .simp only[hq];exact nx
theorem aes v(b:BE)(hv:v.length<=1000000000):Rq 1 193 0 (ixS v b 0) (if v.any (fun a=>decide (a.eG=b.eG))=true then .ret else .exit 0) { aL:=aC 19 [(4,int (if v.any (fun a=>decide (a.eG=b.eG))=true then nE (fun a=>decide (a.eG=b.eG)) 0 v else 0))],H:=[.box (aQ b)] }:=Zx v b hv _ 0 rfl zO
theorem aeu(v:List BE)c(y:yP)(hv:v.length<=1000000000)(hc:c.length<=1000000000):Rq 3 193 0 (ixO v c y 0) (if v.any (iR c y)=true then .ret else .exit 0) { aL:=aC 19 [(4,int (if v.any (iR c y)=true then nE (iR c y) 0 v else 0))],H:=[.aN 0 5 false (au v),.box [str y],.box [bH.bB c]] }:=Zy v c y hv hc _ 0 rfl zO
theorem akA v(b:BE)(hv:v.length<=1000000000)r(h:((((any v fun(a)=>decide (a.eG=b.eG))=true)->nE (fun(a:BE)=>decide (a.eG=b.eG)) 0 v=(r))/\((¬(any v fun(a)=>decide (a.eG=b.eG))=true)->-1=(r)))):ak P G 193 [iK v,smF 0] [ah.box (aQ b)] (aS.ret (int r)) [ah.box (aQ b)]:=by
 have bS:=lU (ay v);by_cases c1:((any v fun(a)=>decide (a.eG=b.eG))=true)
 .have h:=h.1 c1;exact aA (aF.int_eq h) [kv 7 bS,kl (rG [(2,2),(5,1),(9,10)]) 1 (((by have h0:=(@aes (v) (b) zO);simp only[yL c1]at h0;exact h0)))]
 .have h:=h.2 c1;exact aA (aF.int_eq h) [kv 7 bS,kl (rG [(2,2),(5,1),(9,10)]) 1 (((by have h0:=(@aes (v) (b) zO);simp only[yK c1]at h0;exact h0)))]
theorem akB(v:List BE)c(y:yP)(hv:v.length<=1000000000)(hc:c.length<=1000000000)r(h:(((any v (iR c y)=true)->nE (iR c y) 0 v=(r))/\((¬any v (iR c y)=true)->-1=(r)))):ak P G 193 [.aU 0 0 0 v.length,Po 1 2] [ah.aN 0 5 false (au v),ah.box [str y],ah.box [bH.bB c]] (aS.ret (int r)) [ah.aN 0 5 false (au v),ah.box [str y],ah.box [bH.bB c]]:=by
 have bS:0=0:=(rfl);by_cases c1:(any v (iR c y)=true)
 .have h:=h.1 c1;exact aA (aF.int_eq h) [kp bS,kl (rG [(2,2),(5,1),(9,10)]) 3 (((by have h0:=(@aeu (v) (c) (y) zO zO);simp only[yL c1]at h0;exact h0)))]
 .have h:=h.2 c1;exact aA (aF.int_eq h) [kp bS,kl (rG [(2,2),(5,1),(9,10)]) 3 (((by have h0:=(@aeu (v) (c) (y) zO zO);simp only[yK c1]at h0;exact h0)))]
theorem anT v(b:BE)i(h0:ak P G 193 [iK v,smF 0] [.box (aQ b)] (.ret (int i)) [.box (aQ b)])r(h:(decide (i>=0))=(r)):ak P G 150 [iK v,smF 0] [ah.box (aQ b)] (aS.ret (Am.bool r)) [ah.box (aQ b)]:=by
 exact aA (aF.aI h) [kc [0] h0]
theorem BL v(b:BE)(hv:v.length<=1000000000):ak P G 150 [iK v,smF 0] [.box (aQ b)] (.ret (bool (v.any fun a=>decide (a.eG=b.eG)))) [.box (aQ b)]:=by
 have h0:=akA v b hv (nE (fun a=>decide (a.eG=b.eG)) 0 v) ⟨fun _=>rfl,fun h=>by rw[qD (by simpa using h)]⟩;refine anT v b _ h0 _ ?_;cases h:v.any fun a=>decide (a.eG=b.eG)with
 |true =>
  obtain⟨j,c,e,_⟩:=IW  h;rw[e];simp
 |false=>rw[qD h];simp
def bsX(v w:List BE)(b:BE)(p:Nat):St:={ aL:=aC 49 [(0,.aU 0 0 0 v.length),(2,yT 149),(4,.ptr 1 0),(8,int v.length),(9,int p)],H:=[.aN 0 5 false (au (v++w)),.box (aQ b)] }
theorem OH(v w:List BE)(b:BE)(p:Nat)(hp:p<=v.length)(hv:v.length<=1000000000)(hL:Rq 1 273 0 (Yg v w b 0 v.length) (.exit 0) (bsX v w b p))(r:Bool)(h:((((p:Int)<(v.length:Int))->(∃x2:BE,((v++w)[0+p]?=some x2)/\(gM x2 b==0)=(r)))/\((¬(p:Int)<(v.length:Int))->(false)=(r)))):ak P G 273 [.aU 0 0 0 v.length,oN b,yT 149] [ah.aN 0 5 false (au (v++w))] (aS.ret (AV.bq [int ↑p,Am.bool r])) [ah.aN 0 5 false (au (v++w))]:=by
 have bS:0=0:=(rfl);have qj:∀(x:List AV),x∈au (v++w)->AV.aM [] x=true:=(bJ _);let l1:List fP:=[kp bS,kl (rG [(1,1),(3,1),(5,3),(11,38)]) 2 hL];by_cases c1:((p:Int)<(v.length:Int))
 .have h:=h.1 c1;obtain⟨x2,o3,h⟩:=h;have e1:=h;exact ak.out ((show ak P G 273 [.aU 0 0 0 v.length,oN b,yT 149] [ah.aN 0 5 false (au (v++w))] (aS.ret (AV.bq [int ↑p,Am.bool (gM x2 b==0)])) [ah.aN 0 5 false (au (v++w))]from aj (l1++[kt (qT c1),ko (bC.elem (aQ x2)),kp bS,kR (p:Int) (v.length:Int),kp bS,kp (show(au (v++w))[0+Int.toNat (p:Int)]?=some (aQ x2)from(iN o3)),kc [] (@DC (x2) (b)),kp qj]))) (aF.iM ⟨y34,(aF.aI e1),yO⟩)
 .have h:=h.2 c1;have e1:=h;exact ak.out ((show ak P G 273 [.aU 0 0 0 v.length,oN b,yT 149] [ah.aN 0 5 false (au (v++w))] (aS.ret (AV.bq [int ↑p,Am.bool false])) [ah.aN 0 5 false (au (v++w))]from aj (l1++[kf (qF c1),kp qj]))) (aF.iM ⟨y34,(aF.aI e1),yO⟩)
theorem afI v w(b:BE)(i j:Nat)(wQ:¬i<(j:Int))(h:True):Rq 1 273 0 (Yg v w b i j) (bF.exit 0) (bsX v w b i):=by
 exact aG [kj ((i:Int)<j)] (aB 49 [0,2,4,8,9]) 2
def rE(b:BE)(v:List BE):Nat:=(v.takeWhile fun a=>lI a b).length
theorem Ub(b:BE)v:rE b v<=v.length:=(takeWhile_sublist _).length_le
theorem Nb{b}:∀{v}(_:v.Pairwise fun a c=>lI a c=true){m}hm,lI v[m] b=true↔m<rE b v
 |[],_,m,hm=>absurd hm zS
 |a::t,hs,m,hm=>by
  rw[pairwise_cons]at hs;cases hl:lI a b with
  |true =>
   have e:rE b (a::t)=rE b t+1:=by simp[rE,hl]
   rw[e];cases m with
   |zero=>simp[hl]
   |succ m =>
    have:=Nb hs.2 (b:=b)  (by simpa using hm);grind
  |false =>
   have e:rE b (a::t)=0:=by simp[rE,hl]
   rw[e];cases m with
   |zero=>simp[hl]
   |succ m =>
    have bg:m<t.length:=by simpa using hm
    have h1:=hs.1 t[m] (y03 _);simp only[y28,iff_false];intro h2;rw[sV h1 h2]at hl;cases hl
theorem Mx v w(b:BE)(hv:v.length<=1000000000)(hs:v.Pairwise fun a c=>lI a c=true):∀n i j,j-i<=n->i<=rE b v->rE b v<=j->j<=v.length->Rq 1 273 0 (Yg v w b i j) (.exit 0) (bsX v w b (rE b v)):=by
 intro n;have he:∀i j,i<=rE b v->rE b v<=j->¬i<j->Rq 1 273 0 (Yg v w b i j) (.exit 0) (bsX v w b (rE b v)):=fun i j h1 h2 wQ=>by
  have:=afI v w b i j zO trivial;grind
 induction n with
 |zero=>intro i j hn h1 h2 h3;grind
 |succ n ih =>
  intro i j hn h1 h2 h3;by_cases wQ:i<j
  .have hm:=Ms (i:=i) (j:=j) zO;refine afH v w b i j ((i+j)/2) h3 hv hm hm zO _ _ ⟨fun _=>?_,fun h=>absurd zO h⟩;have bg:(i+j)/2<v.length:=zO
   refine⟨v[(i+j)/2],?_,fun hq=>?_,fun hq=>?_⟩
   .rw [hm,y31,y12,getElem?_append_left bg];simp
   .have:=(Nb hs bg).1 ((IQ _ _).1 hq);have nx:=ih ((i+j)/2+1) j zO zO h2 h3;rw[hm];exact nx
   .have:¬(i+j)/2<rE b v:=fun h=>hq ((IQ _ _).2 ((Nb hs bg).2 h));have nx:=ih i ((i+j)/2) zO h1 zO zO;rw[hm];exact nx
  grind
theorem anU(v:List BE)c(y:yP)(hv:v.length<=1000000000)(h0:ak P G 193 [.aU 0 0 0 v.length,Po 1 2] [.aN 0 5 false (au v),.box [str y],.box [bH.bB c]] (.ret (int (-1))) [.aN 0 5 false (au v),.box [str y],.box [bH.bB c]])(h:True):ak P G 276 [.aU 0 0 0 v.length,Po 1 2] [ah.aN 0 5 false (au v),ah.box [str y],ah.box [bH.bB c]] (aS.ret (AV.aU 0 0 0 v.length)) [ah.aN 0 5 false (au v),ah.box [str y],ah.box [bH.bB c]]:=by
 have fT:∀ x,x∈au v->AV.aM [] x=true:=(bJ _);exact aj [kc [0,1,2] h0,kp fT,kp fT,kO]
def dlS(x:List BE)(c:List bH.D)(y:yP)(i j:Nat):St:={ aL:=aC 42 [(0,.aU 0 0 0 x.length),(1,Po 1 2),(5,int i),(6,int j)],H:=[.aN 0 5 false (au x),.box [str y],.box [bH.bB c]] }
def dlX(x:List BE)(c:List bH.D)(y:yP)(i:Nat):St:={ aL:=aC 42 [(0,.aU 0 0 0 x.length),(5,int i)],H:=[.aN 0 5 false (au x),.box [str y],.box [bH.bB c]] }
theorem anV(x:List BE)c(y:yP)(i j:Nat)b(hi:i<j)(hx:x.length<=1000000000)(hc:c.length<=1000000000)(hb:x[0+j]?=some b)(hj:(j:Int)<x.length)(hp:iR c y b=true)ex(s:St)(h:Rq 3 276 0 (sM 42 [(0,.aU 0 0 0 x.length),(1,.fn (Fn.func 275) [] [.ptr 1 0,.ptr 2 0]),(5,int ↑i),(6,int ↑(j+1))] [.aN 0 5 false (au x),.box [str y],.box [.sl 2 false (bH.au c)]]) ex s):Rq 3 276 0 (dlS x c y i j) ex s:=by
 have bS:0=0:=(rfl);exact aJ [kp bS,ki ((j:Int)<x.length),ko (bC.elem (aQ b)),kp bS,kR (j:Int) (x.length:Int),kp bS,kp (show(au x)[0+Int.toNat (j:Int)]?=some (aQ b)from(iN hb)),kc [1,2] (@agn (c) (y) (b) zO),kf (y32 (hp)),kW 21 (j+1) ↑(j+1),kp (bJ x)] (aB 42 [0,1,5,6]) 3 h
theorem anW(x:List BE)(c:List bH.D)(y:yP)(i j:Nat)(b:BE)(hi:i<j)(hx:x.length<=1000000000)(hc:c.length<=1000000000)(hb:x[0+j]?=some b)(hj:(j:Int)<(x.length:Int))(hp:iR c y b=false)(ex:bF)(s:St)(h:(∃x2:BE,(x[0+i]?=some x2)/\((∀(x_1:List AV),x_1∈List.set (au x) (0+Int.toNat (i:Int)) (dX (aQ x2) 0 (List.take (TypeInfo.size (Tables.types (Program.toTables P))[132]) (List.drop 0 (dX (List.map AV.lit (Array.toList (Value.cells (Value.agg #[Value.string (ByteArray.mk #[]),Value.int IntKind.i64 0,Value.int IntKind.i64 0,Value.int IntKind.i64 0,Value.string (ByteArray.mk #[])])))) 0 (List.take (TypeInfo.size (Tables.types (Program.toTables P))[132]) (List.drop 0 (aQ b)))))))->AV.aM [] x_1=true)/\Rq 3 276 0 (sM 42 [(0,.aU 0 0 0 x.length),(1,.fn (Fn.func 275) [] [.ptr 1 0,.ptr 2 0]),(5,int ↑(i+1)),(6,int ↑(j+1))] [.aN 0 5 false (List.set (au x) (0+i) [str b.ky,int b.dv,int b.sq,int b.tm,str b.vl]),.box [str y],.box [.sl 2 false (bH.au c)]]) ex s))):Rq 3 276 0 (dlS x c y i j) ex s:=by
 have bS:0=0:=(rfl);obtain⟨x2,o3,h⟩:=h;obtain⟨o4,h⟩:=h;exact aJ [kp bS,ki ((j:Int)<x.length),ko (bC.elem (aQ b)),kp bS,kR (j:Int) (x.length:Int),kp bS,kp (show(au x)[0+Int.toNat (j:Int)]?=some (aQ b)from(iN hb)),kc [1,2] (@agn (c) (y) (b) zO),kt (y32 (hp)),ko (bC.elem (aQ x2)),kp bS,kR (i:Int) (x.length:Int),kp bS,kp (show(au x)[0+Int.toNat (i:Int)]?=some (aQ x2)from(iN o3)),kW 35 (i+1) ↑(i+1),kW 21 (j+1) ↑(j+1),kp o4] (aB 42 [0,1,5,6]) 3 h
theorem anX(x:List BE)c(y:yP)(i j:Nat)(hj:¬j<(x.length:Int))(h:True):Rq 3 276 0 (dlS x c y i j) (bF.exit 0) (dlX x c y i):=by
 exact aG [kq 0,kj ((j:Int)<x.length)] (aB 42 [0,5]) 3
theorem anY(v x:List BE)c(y:yP)i k(hx:x.length=v.length)(hi:i<v.length)(hk:k<=v.length)(hv:v.length<=1000000000)(h0:ak P G 193 [.aU 0 0 0 v.length,Po 1 2] [.aN 0 5 false (au v),.box [str y],.box [bH.bB c]] (.ret (int i)) [.aN 0 5 false (au v),.box [str y],.box [bH.bB c]])(hL:Rq 3 276 0 (dlS v c y i (i+1)) (.exit 0) (dlX x c y k))H'(h:((0+k+(length x-k)<=length (au x))/\[ah.aN 0 5 false (List.take (0+Int.toNat k) (au x)++(replicate (Int.toNat x.length-Int.toNat k) [str (ByteArray.mk #[]),int 0,int 0,int 0,str (ByteArray.mk #[])]++List.drop (0+Int.toNat k+(Int.toNat x.length-Int.toNat k)) (au x))),ah.box [str y],ah.box [AV.sl 2 false (bH.au c)]]=H')):ak P G 276 [.aU 0 0 0 v.length,Po 1 2] [ah.aN 0 5 false (au v),ah.box [str y],ah.box [bH.bB c]] (aS.ret (AV.aU 0 0 0 k)) H':=by
 have fT:∀(x:List AV),x∈au v->AV.aM [] x=true:=(bJ _);have Av:0=0:=(rfl);obtain⟨o1,h⟩:=h;have eH:=h;exact ak.heap ((aj [kc [0,1,2] h0,kp fT,kp fT,kY,kW 15 (i+1) ↑(i+1),kl (rG [(2,3),(7,35)]) 3 hL,kp Av,Ga (k:Int) (x.length:Int) (x.length:Int),kp Av,kp o1,kp Av,Ga (0:Int) (k:Int) (x.length:Int)])) eH
theorem Yl v w(b:BE)(hv:v.length<=1000000000)(hs:v.Pairwise fun a c=>lI a c=true):∃r,ak P G 273 [.aU 0 0 0 v.length,oN b,yT 149] [.aN 0 5 false (au (v++w))] (.ret (.bq [int (rE b v),bool r])) [.aN 0 5 false (au (v++w))]:=by
 have hp:=Ub b v;have hL:=Mx v w b hv hs _ 0 v.length yM zO hp zO;rcases y11 (rE b v) v.length with h|h
 .refine ⟨gM v[rE b v] b==0,OH v w b _ hp hv hL _ ⟨fun _=>⟨v[rE b v],?_,rfl⟩,fun h'=>absurd zO h'⟩⟩;grind
 .exact ⟨false,OH v w b _ hp hv hL _ ⟨fun h'=>absurd h' zO,fun _=>rfl⟩⟩
theorem Zz(x:List α)i(a:α)(h:i<x.length):(x.set i a).take (i+1)=x.take i++[a]:=by
 rw[take_set,take_add_one,yA h,set_append_right _ _ (by rw[y22];omega)];simp[Nat.min_eq_left (Nat.le_of_lt h)]
theorem ZA(a b:List BE)c(y:yP):rest (a++b) c y=rest a c y++rest b c y:=filter_append ..
theorem ZB(b:BE)c(y:yP):rest [b] c y=if iR c y b=true then[]else[b]:=by grind[iR,rest]
theorem acJ(v:List BE)c(y:yP)(hv:v.length<=1000000000)(hc:c.length<=1000000000):∀n x i j,v.length-j=n->x.length=v.length->i<j->j<=v.length->i=(rest (v.take j) c y).length->x.take i=rest (v.take j) c y->x.drop j=v.drop j ->
 ∃x',x'.length=v.length/\x'.take (rest v c y).length=rest v c y/\Rq 3 276 0 (dlS x c y i j) (.exit 0) (dlX x' c y (rest v c y).length):=by
 intro n
 induction n with
 |zero =>
  intro x i j hn hx wQ hj hi ht hd;have ej:v.take j=v:=y27 zO;rw[ej]at hi ht;refine⟨x,hx,by rw[<- hi];exact ht,?_⟩;rw[<- hi];exact anX x c y i j zO trivial
 |succ n ih =>
  intro x i j hn hx wQ hj hi ht hd;have bg:j<v.length:=zO
  have hxj:x[j]?=some v[j]:=by
   have:=yJ (fun l=>l[0]?) hd;simpa[getElem?_drop,bg]using this
  have GL:x.drop (j+1)=v.drop (j+1):=by
   have:=yJ (List.drop 1) hd;simpa[drop_drop,Nat.add_comm]using this
  have htk:v.take (j+1)=v.take j++[v[j]]:=by rw[take_append_getElem]
  have hr:rest (v.take (j+1)) c y=rest (v.take j) c y++(if iR c y v[j]=true then[]else[v[j]]):=by grind[ZA,ZB]
  cases hp:iR c y v[j]with
  |true =>
   rw[hp,yL rfl,y23]at hr;obtain⟨x',h1,h2,h3⟩:=ih x i (j+1) zO hx zO zO (by rw[hr];exact hi) (by rw[hr];exact ht) GL;exact⟨x',h1,h2,anV x c y i j _ wQ zO hc (by rw[y12];exact hxj) zO hp _ _ h3⟩
  |false =>
   rw[hp,yK zD]at hr;have O4:i<x.length:=zO
   obtain⟨x',h1,h2,h3⟩:=ih (x.set i v[j]) (i+1) (j+1) zO (by rw[length_set];exact hx) zO zO (by rw[hr,yD,length_singleton];omega) (by rw[Zz x i _ O4,hr,ht]) (by rw[drop_set_of_lt zO];exact GL);refine⟨x',h1,h2,anW x c y i j _ wQ zO hc (by rw[y12];exact hxj) zO hp _ _ ⟨x[i],by rw[y12];exact yA O4,?_,?_⟩⟩
   .intro q hq;rcases mem_or_eq_of_mem_set hq with h|h
    .exact bJ x q h
    .rw [h];rfl
   .rw [y12];rw[show List.set (au x) i [str v[j].ky,int v[j].dv,int v[j].sq,int v[j].tm,str v[j].vl]=au (x.set i v[j])from CW x i v[j]];have e:dlS (x.set i v[j]) c y (i+1) (j+1)={ aL:=aC 42 [(0,.aU 0 0 0 x.length),(1,Po 1 2),(5,int ((i+1:Nat):Int)),(6,int ((j+1:Nat):Int))],H:=[.aN 0 5 false (au (x.set i v[j])),.box [str y],.box [bH.bB c]] }:=by rw[dlS,length_set]
    rw[e]at h3;exact h3
def Pp:BE:=⟨⟨#[]⟩,0,0,0,⟨#[]⟩⟩
theorem Pq(v:List BE)c(y:yP)(hv:v.length<=1000000000)(hc:c.length<=1000000000):∃w,(rest v c y++w).length=v.length/\ak P G 276 [.aU 0 0 0 v.length,Po 1 2] [.aN 0 5 false (au v),.box [str y],.box [bH.bB c]] (.ret (.aU 0 0 0 (rest v c y).length)) [.aN 0 5 false (au (rest v c y++w)),.box [str y],.box [bH.bB c]]:=by
 have h0:=akB v c y hv hc (nE (iR c y) 0 v) ⟨fun _=>rfl,fun h=>by rw[qD (by simpa using h)]⟩;cases ha:v.any (iR c y)with
 |false =>
  rw[qD ha]at h0;have e:rest v c y=v:=by
   rw[rest,filter_eq_self];grind
  rw[e];exact⟨[],zS,by rw[y23];exact anU v c y hv h0 yO⟩
 |true =>
  obtain⟨i,b,e,hb,hp,jH⟩:=IW  ha;rw[e,y12]at h0;have hi:=(yC.1 hb).1;have hr:rest (v.take (i+1)) c y=v.take i:=by grind[take_append_getElem,rest,filter_eq_self]
  obtain⟨x,h1,h2,h3⟩:=acJ v c y hv hc _ v i (i+1) rfl rfl zO zO (by rw[hr,y22];omega) hr.symm rfl;have hk:(rest v c y).length<=v.length:=length_filter_le _ _;refine⟨replicate (v.length-(rest v c y).length) Pp,by rw[yD,length_replicate];omega,?_⟩;refine anY v x c y i (rest v c y).length h1 hi hk hv h0 h3 _ ⟨by rw[ay];omega,?_⟩;have e1:List.drop (0+Int.toNat (rest v c y).length+(Int.toNat x.length-Int.toNat (rest v c y).length)) (au x)=[]:=y17 (by rw[ay];omega);have e2:List.take (0+Int.toNat (rest v c y).length) (au x)=au (rest v c y):=by rw[y12,y31,gF,h2]
  have e3:replicate (Int.toNat x.length-Int.toNat (rest v c y).length) [str (ByteArray.mk #[]),int 0,int 0,int 0,str (ByteArray.mk #[])]=au (replicate (v.length-(rest v c y).length) Pp):=by
   rw[h1,au,map_replicate];rfl
  rw[e1,e2,e3,y23,gy];rfl
theorem ZC t w:List.take t.length (List.drop 0 (au (t++w)))=au t:=by
 rw[drop_zero,gF,take_left]
theorem agp(v w:List BE)c(k:yP)n(hv:v.length<=1000000000)(h0:Cq 109 [iK v] (int 0))(h1:Cq 46 [bH.bB c] (int 0))(h2:ak P G 83 [iK v] [] (.ret (.aU 0 0 0 v.length)) [.aN 0 5 false (au v)])(h3:ak P G 276 [.aU 0 0 0 v.length,Po 1 2] [.aN 0 5 false (au v),.box [str k],.box [bH.bB c]] (.ret (.aU 0 0 0 n)) [.aN 0 5 false (au w),.box [str k],.box [bH.bB c]])(h:True):ak P G 261 [iK v,bH.bB c,str k] [] (aS.ret (AV.bq [AV.aU 2 0 0 n,int 0])) [ah.aH,ah.aH,ah.aN 0 5 false (au w)]:=by
 have x9:∀ x,x∈au v->AV.aM [] x=true:=(bJ _);exact ak.pY ((show ak P G 261 [iK v,bH.bB c,str k] [] (aS.ret (AV.bq [AV.aU 2 0 0 n,int 0])) [ah.box [AV.sl 2 false (bH.au c)],ah.box [str k],ah.aN 0 5 false (au w)]from aj [kc [] h0,kY,kc [] h1,kY,kc [] h2,kp x9,kc [2,1,0] h3,kp (bJ w),kp x9])) (by exact⟨.inr yO,.inr yO,.inl rfl,yO⟩)
theorem agq(v w:List BE)c(k:yP)t(hv:v.length<=1000000000)(h0:Cq 109 [iK v] (int 0))(h1:Cq 46 [bH.bB c] (int 0))(h2:ak P G 83 [iK v] [] (.ret (.aU 0 0 0 v.length)) [.aN 0 5 false (au v)])(h3:ak P G 276 [.aU 0 0 0 v.length,Po 1 2] [.aN 0 5 false (au v),.box [str k],.box [bH.bB c]] (.ret (.aU 0 0 0 t.length)) [.aN 0 5 false (au (t++w)),.box [str k],.box [bH.bB c]])(h:True):Cq 261 [iK v,bH.bB c,str k] (.bq [iK t,int 0]):=by
 have x9:∀(x:List AV),x∈au v->AV.aM [] x=true:=(bJ _);exact aj [kc [] h0,kY,kc [] h1,kY,kc [] h2,kp x9,kc [2,1,0] h3,ko (bC.Gu (au t)),kp (show ∀(x:List AV),x∈au (t++w)->AV.aM [] x=true from(bJ _)),kp x9,kq 0,kp (show List.take t.length (List.drop 0 (au (t++w)))=au t from(ZC _ _)),kp (ay t),kp (bK t)]
theorem agr(v:List BE)c(k:yP)e(h0:Cq 109 [iK v] (int e))(he:e≠0)(h:True):Cq 261 [iK v,bH.bB c,str k] (.bq [iK [],int e]):=by
 exact ak.out ((show Cq 261 [iK v,bH.bB c,str k] (.bq [aK,int e])from aj [kc [] h0,kt (((y32 (qF zO))))])) (aF.iM ⟨(aF.nil _),y34,yO⟩)
theorem ags(v:List BE)c(k:yP)e(h0:Cq 109 [iK v] (int 0))(h1:Cq 46 [bH.bB c] (int e))(he:e≠0)(h:True):Cq 261 [iK v,bH.bB c,str k] (.bq [iK [],int e]):=by
 exact ak.out ((show Cq 261 [iK v,bH.bB c,str k] (.bq [aK,int e])from aj [kc [] h0,kY,kc [] h1,kt (((y32 (qF zO))))])) (aF.iM ⟨(aF.nil _),y34,yO⟩)
theorem akC c(y:yP)(h:True):Rq 2 193 0 (sM 19 [(0,.sl 5 true []),(1,Po 0 1),(4,int 0),(6,.sl 5 true []),(7,int 0),(8,int 0)] [.box [str y],.box [bH.bB c]]) (bF.exit 0) (sM 19 [(4,int 0)] [.box [str y],.box [bH.bB c]]):=by
 exact aG [kY] (aB 19 [4]) 2
theorem akD c(y:yP)(hL:Rq 2 193 0 { aL:=aC 19 [(0,.sl 5 true []),(1,Po 0 1),(4,int 0),(6,.sl 5 true []),(7,int 0),(8,int 0)],H:=[.box [str y],.box [bH.bB c]] } (.exit 0) { aL:=aC 19 [(4,int 0)],H:=[.box [str y],.box [bH.bB c]] })(h:True):ak P G 193 [.sl 5 true [],Po 0 1] [ah.box [str y],ah.box [bH.bB c]] (aS.ret (int (-1))) [ah.box [str y],ah.box [bH.bB c]]:=by
 exact aj [kl (rG [(2,2),(5,1),(9,10)]) 2 hL]
theorem Yj n(h:aF (aK) (AV.sl 5 true [])):Cq 83 [.lit (Value.slice none 0 n)] (.sl 5 true []):=by
 have e1:=h;exact ak.out ((aj [kO])) e1
theorem Yk a(n:Nat)(h:True):Cq 83 [.lit (Value.slice (some a) 0 n)] (.sl 5 true []):=by
 exact aj [kY,ko (bC.LV),kp (Am.C8)]
theorem akE c(y:yP)(hI:ak P G 193 [.sl 5 true [],Po 0 1] [.box [str y],.box [bH.bB c]] (.ret (int (-1))) [.box [str y],.box [bH.bB c]])(h:True):ak P G 276 [.sl 5 true [],Po 0 1] [ah.box [str y],ah.box [bH.bB c]] (aS.ret (AV.sl 5 true [])) [ah.box [str y],ah.box [bH.bB c]]:=by
 exact aj [kc [0,1] hI,kO]
theorem agt c(k:yP)(h0:Cq 109 [iK []] (int 0))(h1:Cq 46 [bH.bB c] (int 0))(h2:Cq 83 [iK []] (.sl 5 true []))(h3:ak P G 276 [.sl 5 true [],Po 0 1] [.box [str k],.box [bH.bB c]] (.ret (.sl 5 true [])) [.box [str k],.box [bH.bB c]])(h:True):Cq 261 [iK [],bH.bB c,str k] (.bq [.sl 5 true [],int 0]):=by
 exact aj [kc [] h0,kY,kc [] h1,kY,kc [] h2,kc [1,0] h3]
theorem afJ sz:aF (.lit (.slice none 0 0)) (.sl sz true []):=fun V v h=>by
 rw[bW h];exact .pure _ _ (.sl sz true [] none 0 0 0 (fun _ _=>undef) (fun h=>absurd rfl h) (fun h=>absurd rfl h) yM (fun _=>rfl) (fun x hx=>by cases hx) (fun k j hk=>absurd hk (y28 _)) (fun k j hk=>absurd hk (y28 _)) fun k j hk=>absurd hk (y28 _))
theorem Mt:Cq 83 [iK []] (.sl 5 true []):=ak.wY (fun cap=>Yj cap (afJ 5)) fun a cap=>Yk a cap trivial
theorem uJ v(hv:v.length<=1000000000)(fF:v≠[]):ak P G 83 [iK v] [] (.ret (.aU 0 0 0 v.length)) [.aN 0 5 false (au v)]:=Yi v hv (fun h=>fF (by simpa[au]using h)) trivial
theorem arX:jg []=0:=rfl
theorem ZE c(k:yP)(hc:c.length<=10000000)(h1:bH.eZ c=0):Cq 261 [iK [],bH.bB c,str k] (.bq [.sl 5 true [],int 0]):=by
 have h0:=fG [] zS;have h2:=bH.fG c zO;rw[h1]at h2;exact agt c k h0 h2 Mt (akE c k (akD c k (akC c k yO) yO) yO) trivial
theorem ZF(v:List BE)c(k:yP)(hv:v.length<=10000000)(fF:v≠[])(hc:c.length<=10000000)(e0:jg v=0)(h1:bH.eZ c=0):∃w,ak P G 261 [iK v,bH.bB c,str k] [] (.ret (.bq [.aU 2 0 0 (rest v c k).length,int 0])) [.aH,.aH,.aN 0 5 false (au (rest v c k++w))]:=by
 have h0:=fG v zO;have h2:=bH.fG c zO;rw[h1]at h2;rw[e0]at h0;obtain⟨w,_,h3⟩:=Pq v c k zO zO;exact⟨w,agp v _ c k _ zO h0 h2 (uJ v zO fF) h3 yO⟩
theorem X7(v:List BE)c(k:yP)(hv:v.length<=10000000)(hc:c.length<=10000000):Cq 261 [iK v,bH.bB c,str k] (.bq [iK (CZ v c k).1,int (CZ v c k).2]):=by
 have h0:=fG v zO;have h2:=bH.fG c zO;unfold CZ;by_cases e0:jg v=0
 .rw [yL e0];rw[e0]at h0;by_cases e1:bH.eZ c=0
  .rw [yL e1];rw[e1]at h2;by_cases fF:v=[]
   .subst fF;exact(ZE c k hc e1).out (.U1 (.oP 5 true []) (.refl _))
   .obtain ⟨w,_,h3⟩:=Pq v c k zO zO;exact agq v w c k _ zO h0 h2 (uJ v zO fF) h3 trivial
  .rw [yK e1];exact ags v c k _ h0 h2 e1 trivial
 .rw [yK e0];exact agr v c k _ h0 e0 trivial
open Go.Lib Go.OC
set_option maxHeartbeats 4000000 in
theorem pz:OC.X8 274 5:=by
 intro b n c i vb vo vc cs vs w hi gY Me TF lG Cv jQ Q7 Qz Ev Gy Gz tA tB kA kB OD NS QA Q8;have iZ:(Tryz.prog.info? 132).map (·.size)=some 5:=zQ
 have hov:∀lb cb o,(callFunc 283 #[.slice (some ⟨vb,vo,none⟩) 1 vc,.slice (some ⟨b,o,none⟩) lb cb]).run Tryz.prog w = .ok (.value (.bool false)) w:=fun lb cb o=>by
  rw[run_callFunc_extern Tryz.func283 zQ zQ zQ (e:=Extern.SlicesOverlaps.overlaps #[84,84] #[4]) zQ,
   lX w 84 4 132 Tryz.underlying84 5 Tryz.sizeOf132 ⟨vb,vo,none⟩ ⟨b,o,none⟩ 1 vc lb cb TF tA tB kA kB OD NS QA Q8 Qz rfl]
  rfl
 have mixed:Tryz.prog.follows .mixedOrders=true:=zQ
 obtain⟨jw,OE,hw2,Mf,vN,X9,XB,Ya,hb4,W1,KF,J2,Mh⟩:=Mi (vc:=vc) (tS:=84) (tE:=132) (z:=5) zD Tryz.underlying84 iZ hi gY Me TF lG Cv jQ Q7 Qz Ev Gy Gz OD NS QA Q8
 go_enter Tryz.func274,Tryz.ntmps274
 go_wp2_with (simp only[hov])
 go_region_law_o (refine step_copy_runI rfl _ _ 84 84 rfl _ _ (by simp[Act.eval,Act.put]) (by simp[Act.eval,Act.put]) (J2 _ _ _) ?_)
 go_wp2_with (at_builtin;refine wpList_copy_runI _ rfl _ _ 84 84 rfl _ _ rfl rfl (Mh _ (fun _=>rfl) (fun _=>rfl) _ _) ?_)
 go_ret
 first|exact⟨rfl,rfl⟩|exact⟨rfl,by rw[KF]⟩
abbrev zB:Value:=.agg #[.string ⟨#[]⟩,.int .i64 0,.int .i64 0,.int .i64 0,.string ⟨#[]⟩]
set_option maxHeartbeats 4000000 in
theorem sU:OC.Yb 274 5 132 56 zB:=by
 intro b n c i vb vo vc cs vs w hi hnc gY Ia lG Cv jQ Ev Gy Gz;have iZ:(Tryz.prog.info? 132).map (·.size)=some 5:=zQ
 have mixed:Tryz.prog.follows .mixedOrders=true:=zQ
 obtain⟨G,oJ,hG,yg,jw,x9,hGi,Yc,hci,OE,Mf,vN,X9,Ya,hGn,Yd,Xf,Mj,ED⟩:=TG (vc:=vc) (tS:=84) (tE:=132) (z:=5) (B:=56) (zB:=zB) zD zD Tryz.underlying84 iZ zQ rfl hi hnc gY Ia lG Cv jQ Ev Gy Gz;rw[<- hG,<- yg];have hE1:∀x,((w.alloc (.cells oJ 132)).drew).cell? x=(w.drew.alloc (.cells oJ 132)).cell? x:=fun x=>rfl;have hE2:∀x,((w.alloc (.cells oJ 132)).drew).frozen? x=(w.drew.alloc (.cells oJ 132)).frozen? x:=fun x=>rfl;have Ko:∀x,(((w.alloc (.cells oJ 132)).drew.setCells w.heap.size (i*5) vs).drew).cell? x=((w.drew.alloc (.cells oJ 132)).setCells w.heap.size (i*5) vs).cell? x:=fun x=>rfl;have hF2:∀x,(((w.alloc (.cells oJ 132)).drew.setCells w.heap.size (i*5) vs).drew).frozen? x=((w.drew.alloc (.cells oJ 132)).setCells w.heap.size (i*5) vs).frozen? x:=fun x=>rfl;clear yg hG
 go_enter Tryz.func274,Tryz.ntmps274
 go_wp2_with (first
  |(at_builtin;refine Lib.wpList_append_run _ rfl _ _ _ _ rfl _ _ rfl rfl _ _ (Xf _) ?_)
  |(at_builtin;refine wpList_copy_runI _ rfl _ _ 84 84 rfl _ _ rfl rfl (Mj _ hE1 hE2 _ _) ?_)
  |(at_builtin;refine wpList_copy_runI _ rfl _ _ 84 84 rfl _ _ rfl rfl (ED _ (fun _=>rfl) (fun _=>rfl) _ _ _) ?_))
 go_region_law_o (refine step_copy_runI rfl _ _ 84 84 rfl (.slice (some ⟨w.heap.size,(i+1)*5,none⟩) (n-i) (G-(i+1))) (.slice (some ⟨b,i*5,none⟩) (n-i) (c-i)) (by simp[Act.eval,Act.put]) (by simp[Act.eval,Act.put]) (ED _ Ko hF2 3 (G-(i+1)) (c-i)) ?_)
 go_wp2
 go_ret
 exact⟨rfl,rfl⟩
end Go.Bd
namespace Go.Bd
open Go Go.Am Go.Proofs Go.eY Go.Lib
theorem Ra x w(b:BE)(i:Nat)(hi:i<x.length)(hx:x.length<=1000000000):ak P G 274 [.aU 0 0 0 x.length,int i,.sl 5 true [aQ b]] [.aN 0 5 false (au (x++w))] (.ret (iK (x.take i++[b]++x.drop i))) [.aH]:=by
 have e:(au x).take i++[aQ b]++(au x).drop i=au (x.take i++[b]++x.drop i):=by simp[au]
 have h:=OC.uL  (z:=5)    zD zD rfl pz sU (au x) (au w) (aQ b) 0 i rfl (by rw[ay];exact hi) (by rw[ay];exact hx);rw[e,ay,gy]at h;exact((ak.qp (xs:=[.aU 0 0 0 x.length,int i,.sl 5 true [aQ b]]) h ⟨y34,y34,aF.oP _ _ _,yO⟩).Mq  rfl ⟨rfl,y27 yM,rfl,bK _,yO⟩).pY ⟨.inr yO,yO⟩
end Go.Bd
namespace Go.Bd
open Go Go.Am Go.Proofs Go.eY
theorem ZG x w(b y:BE):List.take (x.length+1) (List.drop 0 (List.take x.length (au (x++y::w))++[str b.ky,int b.dv,int b.sq,int b.tm,str b.vl]::List.drop (x.length+1) (au (x++y::w))))=au (x++[b]):=by
 have h:∀L:List (List AV),List.take (x.length+1) (au x++aQ b::L)=au x++[aQ b]:=fun L=>by
  rw[show au x++aQ b::L=(au x++[aQ b])++L by simp];exact take_left' (by simp[ay])
 rw[gF,take_left];exact(h _).trans (by rw[sN,gy])
theorem Rb x(b:BE)i(hi:i=x.length)(hx:x.length<=1000000000)(h:True):ak P G 274 [.aU 0 0 0 x.length,int i,.sl 5 true [aQ b]] [ah.aN 0 5 false (au x)] (aS.ret (iK (x++[b]))) [ah.aH]:=by
 have bS:0=0:=(rfl);exact ak.pY ((show ak P G 274 [.aU 0 0 0 x.length,int i,.sl 5 true [aQ b]] [ah.aN 0 5 false (au x)] (aS.ret (AV.sl 5 false (au (x++[b])))) [ah.aN 1 5 true (au (x++[b]))]from aj [kp bS,Ga i x.length x.length,kY,kp bS,kt (show(i==x.length)=true from(qT zO)),ko (bC.hp (some 25) (AV.aU 0 1 0 (length (x++[b]))) [ah.aN 1 5 false (au (x++[b]))]),ko (bC.Gu (au (x++[b]))),kp (show Am.aF (AV.aU 0 1 0 (length x+1)) (AV.aU 0 1 0 (length (x++[b])))from(aF.of_eq (by simp[dW]))),kp (show Am.HSub [ah.aN 1 5 false (au x++[[str b.ky,int b.dv,int b.sq,int b.tm,str b.vl]])] [ah.aN 1 5 false (au (x++[b]))]from(⟨.inl (by simp only[gy,Aw]),yO⟩)),kp bS,kp (ay x).symm,vV ((length x+1)*56),kq 1,kp (show List.take (length (x++[b])) (List.drop 0 (au (x++[b])))=au (x++[b])from(dW _)),kp (show length (au (x++[b]))=length (x++[b])from(ay _)),kp (show ∀ c,c∈au (x++[b])->List.all c AV.fJ=true from(bK _))])) (by exact⟨.inr yO,yO⟩)
theorem agu x w(b y:BE)i(hi:i=x.length)(hx:x.length<=1000000000)(h:((length x+1<=length (au (x++y::w)))/\((List.take (length x+1) (List.drop 0 (List.take x.length (au (x++y::w))++[str b.ky,int b.dv,int b.sq,int b.tm,str b.vl]::List.drop (length x+1) (au (x++y::w))))=au (x++[b]))/\((length (au (x++[b]))=length x+1)/\True)))):ak P G 274 [.aU 0 0 0 x.length,int i,.sl 5 true [aQ b]] [ah.aN 0 5 false (au (x++y::w))] (aS.ret (iK (x++[b]))) [ah.aH]:=by
 have bS:0=0:=(rfl);obtain⟨o2,h⟩:=h;obtain⟨o3,h⟩:=h;obtain⟨o4,h⟩:=h;exact ak.pY ((show ak P G 274 [.aU 0 0 0 x.length,int i,.sl 5 true [aQ b]] [ah.aN 0 5 false (au (x++y::w))] (aS.ret (AV.sl 5 false (au (x++[b])))) [ah.aN 1 5 true (List.take x.length (au (x++y::w))++[str b.ky,int b.dv,int b.sq,int b.tm,str b.vl]::List.drop (length x+1) (au (x++y::w)))]from aj [kp bS,Ga i x.length x.length,kY,kp bS,kt (show(i==x.length)=true from(qT zO)),ko (bC.aU),ko (bC.Gu (au (x++[b]))),kp bS,kp o2,kq 1,kp o3,kp o4,kp (show ∀ c,c∈au (x++[b])->List.all c AV.fJ=true from(bK _))])) (by exact⟨.inr yO,yO⟩)
theorem Yh x(b:BE)i(hi:i=x.length)(hx:x.length<=1000000000)(h:True):Cq 274 [.sl 5 true (au x),int i,.sl 5 true [aQ b]] (iK (x++[b])):=by
 exact aj [kv 12 (show Am.aF (AV.sl 5 true (List.drop (Int.toNat i) (List.take (Int.toNat ↑(length (au x))) (au x)))) (AV.sl 5 true (List.drop (Int.toNat i) (List.take (Int.toNat x.length) (au x))))from(aF.of_eq (by simp only[ay]))),Ga i ↑(length (au x)) ↑(length (au x)) (by rw[ay];omega),kY,kN 19 (ay x),kt (show(i==x.length)=true from(qT zO)),ko (bC.hp (some 25) (AV.aU 0 0 0 (length (x++[b]))) [ah.aN 0 5 false (au (x++[b]))]),ko (bC.Gu (au (x++[b]))),kp (show Am.aF (AV.aU 0 0 0 (length (au x)+1)) (AV.aU 0 0 0 (length (x++[b])))from(aF.of_eq (by simp[ay]))),kp (show Am.HSub [ah.aN 0 5 false (au x++[[str b.ky,int b.dv,int b.sq,int b.tm,str b.vl]])] [ah.aN 0 5 false (au (x++[b]))]from(⟨.inl (by simp only[gy,Aw]),yO⟩)),Qx [str b.ky,int b.dv,int b.sq,int b.tm,str b.vl],vV ((length (au x)+1)*56) (by simp only[ay]<;>omega),kq 0,kp (show List.take (length (x++[b])) (List.drop 0 (au (x++[b])))=au (x++[b])from(dW _)),kp (show length (au (x++[b]))=length (x++[b])from(ay _)),kp (show ∀ c,c∈au (x++[b])->List.all c AV.fJ=true from(bK _))]
theorem KC x w(b:BE)(i:Nat)(hi:i<=x.length)(hx:x.length<=1000000000):ak P G 274 [.aU 0 0 0 x.length,int i,.sl 5 true [aQ b]] [.aN 0 5 false (au (x++w))] (.ret (iK (x.take i++[b]++x.drop i))) [.aH]:=by
 rcases y11 i x.length with h|h
 .exact Ra x w b i h hx
 .have e:i=x.length:=zO
  subst e;rw[take_length,drop_length,y23];cases w with
  |nil=>rw[y23];exact Rb x b _ rfl hx trivial
  |cons y w=>exact agu x w b y _ rfl hx ⟨by rw[ay];simp,ZG x w b y,by rw[ay];simp,yO⟩
theorem anZ x(b:BE)(hx:x.length=0)(h:True):Rq 0 273 0 (sM 49 [(0,.sl 5 true (au x)),(2,yT 149),(4,.ptr 0 0),(8,int ↑x.length),(9,int 0),(10,int ↑x.length)] [.box (aQ b)]) (bF.exit 0) (sM 49 [(0,.sl 5 true (au x)),(2,yT 149),(4,.ptr 0 0),(8,int ↑x.length),(9,int 0)] [.box (aQ b)]):=by
 exact aG [kj ((0:Int)<x.length)] (aB 49 [0,2,4,8,9]) 1
theorem an0 x(b:BE)(hx:x.length=0)(hL:Rq 0 273 0 { aL:=aC 49 [(0,.sl 5 true (au x)),(2,yT 149),(4,.ptr 0 0),(8,int x.length),(9,int 0),(10,int x.length)],H:=[.box (aQ b)] } (.exit 0) { aL:=aC 49 [(0,.sl 5 true (au x)),(2,yT 149),(4,.ptr 0 0),(8,int x.length),(9,int 0)],H:=[.box (aQ b)] })(h:True):Cq 273 [.sl 5 true (au x),oN b,yT 149] (.bq [int 0,Am.bool false]):=by
 exact aj [kN 13 (ay x),kl (rG [(1,1),(3,1),(5,3),(11,38)]) 1 hL,kj ((0:Int)<x.length)]
theorem akF(v w t:List BE)c(b:BE)(p:Nat)f(hD:ak P G 261 [iK v,bH.bB c,str b.ky] [] (.ret (.bq [.aU 2 0 0 t.length,int 0])) [.aH,.aH,.aN 0 5 false (au (t++w))])(hV:Cq 148 [oN b] (bool true))(hC:Cq 28 [bH.bB c,Q9 b.dv b.sq] (bool false))(hF:ak P G 150 [iK v,smF 0] [.box (aQ b)] (.ret (bool false)) [.box (aQ b)])(hB:ak P G 273 [.aU 0 0 0 t.length,oN b,yT 149] [.aN 0 5 false (au (t++w))] (.ret (.bq [int p,bool f])) [.aN 0 5 false (au (t++w))])r(hI:ak P G 274 [.aU 0 0 0 t.length,int p,.sl 5 true [aQ b]] [.aN 0 5 false (au (t++w))] (.ret (iK r)) [.aH])(h:True):Cq 257 [iK v,bH.bB c,oN b] (.bq [iK r,int 0]):=by
 have fT:∀(x:List AV),x∈au (t++w)->AV.aM [] x=true:=(bJ _);exact aj [kc [] hD,kp fT,kY,kc [] hV,kY,kc [] hC,kY,kc [0] hF,kY,kc [3] hB,kp fT,kp fT,kc [3] hI,kp fT]
theorem akG(v x:List BE)c(b:BE)(hD:Cq 261 [iK v,bH.bB c,str b.ky] (.bq [.sl 5 true (au x),int 0]))(hV:Cq 148 [oN b] (bool true))(hC:Cq 28 [bH.bB c,Q9 b.dv b.sq] (bool false))(hF:ak P G 150 [iK v,smF 0] [.box (aQ b)] (.ret (bool false)) [.box (aQ b)])(hB:Cq 273 [.sl 5 true (au x),oN b,yT 149] (.bq [int 0,bool false]))r(hI:Cq 274 [.sl 5 true (au x),int 0,.sl 5 true [aQ b]] (iK r))(h:True):Cq 257 [iK v,bH.bB c,oN b] (.bq [iK r,int 0]):=by
 exact aj [kc [] hD,kY,kc [] hV,kY,kc [] hC,kY,kc [0] hF,kY,kc [] hB,kc [] hI]
theorem aev(v:List BE)c(b:BE)e(hD:Cq 261 [iK v,bH.bB c,str b.ky] (.bq [iK [],int e]))(he:e≠0)(h:True):Cq 257 [iK v,bH.bB c,oN b] (.bq [iK [],int e]):=by
 exact ak.out ((show Cq 257 [iK v,bH.bB c,oN b] (.bq [aK,int e])from aj [kc [] hD,kt (((y32 (qF zO))))])) (aF.iM ⟨(aF.nil _),y34,yO⟩)
theorem akH(v t:List BE)c(b:BE)(hD:Cq 261 [iK v,bH.bB c,str b.ky] (.bq [iK t,int 0]))(hV:Cq 148 [oN b] (bool false))(h:True):Cq 257 [iK v,bH.bB c,oN b] (.bq [iK [],int 140]):=by
 exact ak.out ((show Cq 257 [iK v,bH.bB c,oN b] (.bq [aK,int 140])from aj [kc [] hD,kY,kc [] hV,kO,kO,kO])) (aF.iM ⟨(aF.nil _),y34,yO⟩)
theorem akI(v t:List BE)c(b:BE)(hD:Cq 261 [iK v,bH.bB c,str b.ky] (.bq [iK t,int 0]))(hV:Cq 148 [oN b] (bool true))(hC:Cq 28 [bH.bB c,Q9 b.dv b.sq] (bool true))(h:True):Cq 257 [iK v,bH.bB c,oN b] (.bq [iK [],int 140]):=by
 exact ak.out ((show Cq 257 [iK v,bH.bB c,oN b] (.bq [aK,int 140])from aj [kc [] hD,kY,kc [] hV,kY,kc [] hC,kO,kO])) (aF.iM ⟨(aF.nil _),y34,yO⟩)
theorem akJ(v t:List BE)c(b:BE)(hD:Cq 261 [iK v,bH.bB c,str b.ky] (.bq [iK t,int 0]))(hV:Cq 148 [oN b] (bool true))(hC:Cq 28 [bH.bB c,Q9 b.dv b.sq] (bool false))(hF:ak P G 150 [iK v,smF 0] [.box (aQ b)] (.ret (bool true)) [.box (aQ b)])(h:True):Cq 257 [iK v,bH.bB c,oN b] (.bq [iK [],int 140]):=by
 exact ak.out ((show Cq 257 [iK v,bH.bB c,oN b] (.bq [aK,int 140])from aj [kc [] hD,kY,kc [] hV,kY,kc [] hC,kY,kc [0] hF,kO])) (aF.iM ⟨(aF.nil _),y34,yO⟩)
theorem ZH(b:BE)x:VI b x=x.take (rE b x)++[b]++x.drop (rE b x):=by
 have h1:x.take (rE b x)=x.takeWhile fun a=>lI a b:=by
  conv=>lhs;rhs;rw[<- takeWhile_append_dropWhile (p:=fun a=>lI a b) (l:=x)]
  rw[rE,take_left]
 have h2:x.drop (rE b x)=x.dropWhile fun a=>lI a b:=by
  conv=>lhs;rhs;rw[<- takeWhile_append_dropWhile (p:=fun a=>lI a b) (l:=x)]
  rw[rE,drop_left]
 rw[h1,h2];simp[VI]
theorem afB(v:List BE)c(b:BE)(hv:v.length<=10000000)(hc:c.length<=10000000):Cq 257 [iK v,bH.bB c,oN b] (.bq [iK (OB v c b).1,int (OB v c b).2]):=by
 have hD:=X7 v c b.ky hv hc;have hV:=pV b;have hC:=bH.jX c b.dv b.sq zO;have hF:=BL v b zO;unfold OB;unfold CZ at hD;by_cases e0:jg v=0
 .rw [yL e0]at hD |-;by_cases e1:bH.eZ c=0
  .rw [yL e1]at hD |-;cases hVb:dF b with
   |false =>
    rw[hVb]at hV;rw[yK (by simp[Zu,hVb])];exact akH v _ c b hD hV trivial
   |true =>
    rw[hVb]at hV;cases hO:bH.cZ c b.eG with
    |true =>
     rw[yK (by simp[Zu,hO])];exact akI v _ c b hD hV (by rw[<- hO];exact hC) trivial
    |false =>
     have hC:Cq 28 [bH.bB c,Q9 b.dv b.sq] (bool false):=by rw[<- hO];exact hC
     cases hA:v.any fun a=>decide (a.eG=b.eG)with
     |true =>
      rw[hA]at hF;rw[yK (by simp only[Zu,hA];simp)];exact akJ v _ c b hD hV hC hF trivial
     |false =>
      rw[hA]at hF;rw[yL (by simp only[Zu,hA,hVb,hO];rfl)];by_cases fF:v=[]
      .subst fF;exact akG [] [] c b (ZE c b.ky hc e1) hV hC hF (an0 [] b rfl (anZ [] b rfl yO) yO) _ (Yh [] b 0 rfl zS yO) trivial
      .obtain ⟨w,hD'⟩:=ZF v c b.ky hv fF hc e0 e1;have hM:=(RQ v).1 (by unfold jg at e0;grind);have hl:(rest v c b.ky).length<=v.length:=length_filter_le _ _;obtain⟨f,hB⟩:=Yl (rest v c b.ky) w b zO (Zv hM c b.ky).sorted;rw[ZH];exact akF v w (rest v c b.ky) c b _ f hD' hV hC hF hB _ (KC (rest v c b.ky) w b _ (Ub _ _) zO) trivial
  .rw [yK e1]at hD |-;exact aev v c b _ hD e1 trivial
 .rw [yK e0]at hD |-;exact aev v c b _ hD e0 trivial
end Go.Bd
namespace Go.Dc
open Go Go.Am Go.Proofs Go.eY Go.bH
def U7(a b:Int)(s t:yP):Int:=bV.Ar [bV.gJ a b,Bd.oq s t]
theorem akK x y:Cq 86 [.sl 1 true [[int x],[int y]]] (int (bV.Ar [x,y])) :=
 bV.ab0 [x,y] _ (by have:=bV.Gw [x,y] zS 2 0 rfl zS;grind) ⟨fun h=>h.symm,fun _=>trivial⟩
theorem X6(a b:Int)s t:Cq 56 [pt a s,pt b t] (int (U7 a b s t)) :=
 anr a b s t _ _ _ (bV.wZ a b) (Bd.Zp s t) (akK _ _) trivial
theorem amY(f:FD)a(s:yP):Cq 55 [.agg (jB f),pt a s] (int (U7 f.pk a f.pn s)):=anv f a s _ (X6 f.pk a f.pn s) trivial
theorem ajG{a b}{s t}:U7 a b s t<0↔a<b\/(a=b/\Bd.Dz s t=true):=by
 unfold U7 bV.Ar bV.gJ;have h:=Bd.T9 (a:=s) (b:=t);simp only[bV.Ar];grind
theorem asG{a b}{s t}:U7 a b s t=0↔a=b/\s=t:=by
 unfold U7 bV.Ar bV.gJ;have h:=Bd.Ua (a:=s) (b:=t);simp only[bV.Ar];grind
theorem TN{c}:∀{l},(l.Pairwise fun x y=>c y<0->c x<0)->Rc c l
 |[],_=>fun m h=>absurd h zS
 |a::t,hs=>fun m h=>by
  rw[pairwise_cons]at hs;by_cases hl:c a<0
  .have e:rV c (a::t)=rV c t+1:=by simp[rV,hl]
   rw[e];cases m with
   |zero=>simp[hl]
   |succ m =>
    have:=TN hs.2 m (by simpa using h);grind
  .have e:rV c (a::t)=0:=by simp[rV,hl]
   grind
end Go.Dc
namespace Go.Sq
open Go Go.Am Go.Proofs Go.eY
def JM(a b c:Int):Bool:=decide (a>=0)&&decide (a<512)&&decide (b>=1)&&decide (b<=1048576)&&decide (c>=0)&&decide (c<=63)
def Pp(a b c:Int):Bool:=decide (a=0)&&decide (b=0)&&decide (c=0)
def dF(x:CE):Bool:=JM x.dv x.sq x.gU&&(Pp x.ad x.j6 x.aa||JM x.ad x.j6 x.aa)&&decide (x.tm>=1)&&decide (x.tm<=1099511627776)&&decide ((x.vl.size:Int)<=4096)
theorem akL(a b c:Int)(h:(((a>=0)->(((a<512)->(((b>=1)->(((b<=1048576)->(((c>=0)->(decide (c<=63))=(JM a b c))/\((¬c>=0)->(false)=(JM a b c))))/\((¬b<=1048576)->(false)=(JM a b c))))/\((¬b>=1)->(false)=(JM a b c))))/\((¬a<512)->(false)=(JM a b c))))/\((¬a>=0)->(false)=(JM a b c)))):Cq 209 [oO a b c] (Am.bool (JM a b c)):=by
 by_cases c1:(a>=0)
 .have h:=h.1 c1;let l1:List fP:=[kt (qT c1)];by_cases c2:(a<512)
  .have h:=h.1 c2;let l2:List fP:=l1++[kt (qT c2)];by_cases c3:(b>=1)
   .have h:=h.1 c3;by_cases c4:(b<=1048576)
    .have h:=h.1 c4;by_cases c5:(c>=0)
     .have h:=h.1 c5;exact aA (aF.aI h) (l2++[kt (qT c3),kt (qT c4),kt (qT c5)])
     .have h:=h.2 c5;exact aA (aF.aI h) (l2++[kt (qT c3),kt (qT c4),kf (qF c5)])
    .have h:=h.2 c4;exact aA (aF.aI h) (l2++[kt (qT c3),kf (qF c4),kY])
   .have h:=h.2 c3;exact aA (aF.aI h) (l2++[kf (qF c3),kY,kY])
  .have h:=h.2 c2;exact aA (aF.aI h) (l1++[kf (qF c2),kY,kY,kY])
 .have h:=h.2 c1;exact aA (aF.aI h) [kf (qF c1),kY,kY,kY,kY]
theorem aew a b c:Cq 209 [oO a b c] (bool (JM a b c)):=akL a b c (by unfold JM;grind)
theorem M9(x:CE)(h:((((JM x.dv x.sq x.gU)=true)->((((x.ad==0&&(x.j6==0&&x.aa==0))=true)->(((x.tm>=1)->(((x.tm<=1099511627776)->(decide ((↑(ByteArray.size x.vl):Int)<=4096))=(dF x))/\((¬x.tm<=1099511627776)->(false)=(dF x))))/\((¬x.tm>=1)->(false)=(dF x))))/\(((x.ad==0&&(x.j6==0&&x.aa==0))=false)->((((JM x.ad x.j6 x.aa)=true)->(((x.tm>=1)->(((x.tm<=1099511627776)->(decide ((↑(ByteArray.size x.vl):Int)<=4096))=(dF x))/\((¬x.tm<=1099511627776)->(false)=(dF x))))/\((¬x.tm>=1)->(false)=(dF x))))/\(((JM x.ad x.j6 x.aa)=false)->(false)=(dF x))))))/\(((JM x.dv x.sq x.gU)=false)->(false)=(dF x)))):Cq 182 [nP x] (Am.bool (dF x)):=by
 have bS:=(@aew x.dv x.sq x.gU);have fT:=(@aew x.ad x.j6 x.aa);let l1:List fP:=[kc [] bS];rcases y00 ((JM x.dv x.sq x.gU))with c1|c1
 .have h:=h.1 c1;rcases y00 ((x.ad==0&&(x.j6==0&&x.aa==0)))with c2|c2
  .have h:=h.1 c2;let l2:List fP:=l1++[kt c1,kt c2,kO];by_cases c3:(x.tm>=1)
   .have h:=h.1 c3;by_cases c4:(x.tm<=1099511627776)
    .have h:=h.1 c4;exact aA (aF.aI h) (l2++[kt (qT c3),kt (qT c4)])
    .have h:=h.2 c4;exact aA (aF.aI h) (l2++[kt (qT c3),kf (qF c4)])
   .have h:=h.2 c3;exact aA (aF.aI h) (l2++[kf (qF c3),kY])
  .have h:=h.2 c2;let l3:List fP:=l1++[kt c1,kf c2,kc [] fT];rcases y00 ((JM x.ad x.j6 x.aa))with c5|c5
   .have h:=h.1 c5;by_cases c6:(x.tm>=1)
    .have h:=h.1 c6;by_cases c7:(x.tm<=1099511627776)
     .have h:=h.1 c7;exact aA (aF.aI h) (l3++[kt c5,kt (qT c6),kt (qT c7)])
     .have h:=h.2 c7;exact aA (aF.aI h) (l3++[kt c5,kt (qT c6),kf (qF c7)])
    .have h:=h.2 c6;exact aA (aF.aI h) (l3++[kt c5,kf (qF c6),kY])
   .have h:=h.2 c5;exact aA (aF.aI h) (l3++[kf c5,kY,kY])
 .have h:=h.2 c1;exact aA (aF.aI h) (l1++[kf c1,kY,kY,kY])
theorem pV x:Cq 182 [nP x] (bool (dF x)):=M9 x (by
 simp only[dF,Pp];grind)
def Kn(a b:CE):Bool:=decide (a.tm>b.tm)||(decide (a.tm=b.tm)&&(decide (a.dv>b.dv)||(decide (a.dv=b.dv)&&(decide (a.sq>b.sq)||(decide (a.sq=b.sq)&&decide (a.gU>b.gU))))))
def vM(a b c:Int)(x:CE):Bool:=x.dv==a&&(x.sq==b&&x.gU==c)
def fI(p:CE->Bool)(v:List CE):Nat->Nat->Option Nat
 |0,_=>none
 |n+1,k=>match v[k]? with
  |some c=>if p c=true then some k else fI p v n (k+1)
  |none=>none
def fX(p:CE->Bool)(v:List CE):Option Nat:=fI p v v.length 0
theorem agv{p}{v}{k n}{c}(h:v[k]?=some c)(hp:p c=true):fI p v (n+1) k=some k:=by simp[fI,h,hp]
theorem akM{p}{v}{k n}{c}(h:v[k]?=some c)(hp:p c=false):fI p v (n+1) k=fI p v n (k+1):=by simp[fI,h,hp]
def U2:Option Nat->Int×Bool
 |some k=>(k,true)
 |none=>(0,false)
theorem an1(x:CE)a b c(h:True):ak P G 216 [nP x,.ptr 0 0] [ah.box [int a,int b,int c]] (aS.ret (Am.bool (vM a b c x))) [ah.box [int a,int b,int c]]:=by
 exact aj []
def IX(v:List CE)(a b c:Int)(k:Nat):St:={ aL:=aC 19 [(0,bZ v),(1,.fn (.func 216) [] [.ptr 0 0]),(4,int 0),(6,bZ v),(7,int v.length),(8,int k)],H:=[.box [int a,int b,int c]] }
theorem ZI v(a b c:Int)(k:Nat)(hv:v.length<=1000000000)(hp:∀x:CE,ak P G 216 [nP x,.ptr 0 0] [.box [int a,int b,int c]] (.ret (bool (vM a b c x))) [.box [int a,int b,int c]])(ex:bF)r(h:((((k:Int)<v.length)->(∃x2:CE,(v[k]?=some x2)/\((((vM a b c x2)=true)->(bF.ret=ex)/\((k:Int)=(r)))/\(((vM a b c x2)=false)->Rq 1 186 0 (sM 19 [(0,.sl 9 false (au v)),(1,.fn (Fn.func 216) [] [.ptr 0 0]),(4,int 0),(6,.sl 9 false (au v)),(7,int ↑v.length),(8,int ↑(k+1))] [.box [int a,int b,int c]]) ex (sM 19 [(4,int r)] [.box [int a,int b,int c]])))))/\((¬(k:Int)<v.length)->(bF.exit 0=ex)/\(0=r)))):Rq 1 186 0 (IX v a b c k) ex (sM 19 [(4,int r)] [.box [int a,int b,int c]]):=by
 by_cases c1:((k:Int)<(v.length:Int))
 .have h:=h.1 c1;obtain⟨x2,o3,h⟩:=h;have fT:=(@hp (x2));let l1:List fP:=[kt (qT c1),ke (aQ x2) (au v) k (bG o3),kc [0] fT];rcases y00 ((vM a b c x2))with c4|c4
  .have h:=h.1 c4;obtain⟨eX,e1⟩:=h;exact bN.to ((show Rq 1 186 0 (IX v a b c k) bF.ret (sM 19 [(4,int ↑k)] [.box [int a,int b,int c]])from aG (l1++[kt c4]) (aB 19 [4]) 1)) eX (eB.aC ⟨rfl,(aF.int_eq e1),yO⟩)
  .have h:=h.2 c4;exact aJ (l1++[kf c4,kW 18 (k+1) ↑(k+1)]) (aB 19 [0,1,4,6,7,8]) 1 h
 .have h:=h.2 c1;obtain⟨eX,e1⟩:=h;exact bN.to ((show Rq 1 186 0 (IX v a b c k) (bF.exit 0) (sM 19 [(4,int 0)] [.box [int a,int b,int c]])from aG [kf (qF c1)] (aB 19 [4]) 1)) eX (eB.aC ⟨rfl,(aF.int_eq e1),yO⟩)
def nE:Option Nat->Int
 |some k=>k
 |none => -1
theorem Nc v(a b c:Int)(hv:v.length<=1000000000):∀n k,v.length-k=n->k<=v.length->Rq 1 186 0 (IX v a b c k) (if(fI (vM a b c) v n k).isSome=true then .ret else .exit 0)
 { aL:=aC 19 [(4,int (match fI (vM a b c) v n k with|some j=>j|none=>0))],H:=[.box [int a,int b,int c]] }:=by
 have hp:∀x:CE,ak P G 216 [nP x,.ptr 0 0] [.box [int a,int b,int c]] (.ret (bool (vM a b c x))) [.box [int a,int b,int c]]:=fun x=>an1 x a b c trivial;intro n
 induction n with
 |zero=>intro k hn hk;exact ZI v a b c k hv hp _ _ ⟨fun h=>absurd h zO,fun _=>⟨rfl,rfl⟩⟩
 |succ n ih =>
  intro k hn hk;have bg:k<v.length:=zO
  have hx:=yA bg;refine ZI v a b c k hv hp _ _ ⟨fun h=>⟨v[k],hx,⟨fun hq=>?_,fun hq=>?_⟩⟩,fun h=>absurd bg zO⟩
  .grind [agv,vM]
  .rw [akM  hx hq];exact ih (k+1) zO zO
theorem ZJ v(a b c:Int)(hv:v.length<=1000000000):Rq 1 186 0 (IX v a b c 0) (if(fX (vM a b c) v).isSome=true then .ret else .exit 0)
 { aL:=aC 19 [(4,int (match fX (vM a b c) v with|some j=>j|none=>0))],H:=[.box [int a,int b,int c]] }:=Nc v a b c hv v.length 0 zO zO
theorem akN v(a b c:Int)r(hv:v.length<=1000000000)(h:(((Option.isSome (fX (vM a b c) v)=true)->(match fX (vM a b c) v with
|some j=>j
|none=>0:Int)=(r))/\((¬Option.isSome (fX (vM a b c) v)=true)->-1=(r)))):ak P G 186 [bZ v,.fn (Fn.func 216) [] [.ptr 0 0]] [ah.box [int a,int b,int c]] (aS.ret (int r)) [ah.box [int a,int b,int c]]:=by
 have bS:=lU (ay v);by_cases c1:(Option.isSome (fX (vM a b c) v)=true)
 .have h:=h.1 c1;exact aA (aF.int_eq h) [kv 7 bS,kl (rG [(2,2),(5,1),(9,10)]) 1 (((by have h0:=(@ZJ (v) (a) (b) (c) zO);simp only[yL c1]at h0;exact h0)))] zQ
 .have h:=h.2 c1;exact aA (aF.int_eq h) [kv 7 bS,kl (rG [(2,2),(5,1),(9,10)]) 1 (((by have h0:=(@ZJ (v) (a) (b) (c) zO);simp only[yK c1]at h0;exact h0)))] zQ
theorem akO v(a b c:Int)(hv:v.length<=1000000000):ak P G 186 [bZ v,.fn (.func 216) [] [.ptr 0 0]] [.box [int a,int b,int c]] (.ret (int (nE (fX (vM a b c) v)))) [.box [int a,int b,int c]]:=by grind[akN,fX,vM,nE]
theorem agw v(a b c:Int)(r:Int)o(n:Int)(hv:v.length<=1000000000)(hx:ak P G 186 [bZ v,.fn (.func 216) [] [.ptr 0 0]] [.box [int a,int b,int c]] (.ret (int n)) [.box [int a,int b,int c]])(h:((if(0:Int)>n then 0 else n)=(r))/\((decide (n>=0))=(o))):Cq 195 [bZ v,oO a b c] (.bq [int r,Am.bool o]):=by
 obtain⟨e1,e2⟩:=h;exact ak.out ((show Cq 195 [bZ v,oO a b c] (.bq [int (if(0)>n then 0 else n),Am.bool (decide (n>=0))])from aj [kc [0] hx])) (aF.iM ⟨(aF.int_eq e1),(aF.aI e2),yO⟩)
theorem wX v(a b c:Int)(hv:v.length<=1000000000):Cq 195 [bZ v,oO a b c] (.bq [int (U2 (fX (vM a b c) v)).1,bool (U2 (fX (vM a b c) v)).2]):=by
 refine agw v a b c _ _ _ hv (akO v a b c hv) ?_;cases h:fX (vM a b c) v with
 |none=>simp[nE,U2]
 |some j=>simp[nE,U2];omega
theorem Uc(a b:CE):((a.dv==b.dv&&(a.sq==b.sq&&(a.gU==b.gU&&(a.ad==b.ad&&(a.j6==b.j6&&(a.aa==b.aa&&(a.tm==b.tm&&(a.vl==b.vl&&a.gn==b.gn))))))))=true)↔a=b:=by
 rw[tN];cases a;cases b;simp
def IU(a b:List CE)(k:Nat):St:={ aL:=aC 26 [(0,bZ a),(1,bZ b),(4,bool false),(5,int k)],H:=[] }
theorem Zw(a b:List CE)(k:Nat)(hl:a.length=b.length)(hv:b.length<=1000000000)(ex:bF)(o:Bool)(h:((((k:Int)<(a.length:Int))->(∃x2:CE,(a[k]?=some x2)/\(∃x4:CE,(b[k]?=some x4)/\((((x2.dv==x4.dv&&(x2.sq==x4.sq&&(x2.gU==x4.gU&&(x2.ad==x4.ad&&(x2.j6==x4.j6&&(x2.aa==x4.aa&&(x2.tm==x4.tm&&(x2.vl==x4.vl&&x2.gn==x4.gn))))))))=true)->Rq 0 77 0 (sM 26 [(0,.sl 9 false (au a)),(1,.sl 9 false (au b)),(4,Am.bool false),(5,int ↑(k+1))] []) ex (sM 26 [(4,Am.bool o)] []))/\(((x2.dv==x4.dv&&(x2.sq==x4.sq&&(x2.gU==x4.gU&&(x2.ad==x4.ad&&(x2.j6==x4.j6&&(x2.aa==x4.aa&&(x2.tm==x4.tm&&(x2.vl==x4.vl&&x2.gn==x4.gn))))))))=false)->(bF.ret=ex)/\((false)=(o)))))))/\((¬(k:Int)<(a.length:Int))->(bF.exit 0=ex)/\((false)=(o))))):Rq 0 77 0 (IU a b k) ex (sM 26 [(4,Am.bool o)] []):=by
 have bS:=lU (ay a);by_cases c1:((k:Int)<(a.length:Int))
 .have h:=h.1 c1;obtain⟨x2,o3,h⟩:=h;obtain⟨x4,o5,h⟩:=h;let l1:List fP:=[kv 13 bS,kt (qT c1),ko (bC.elem (aQ x2)),ko (bC.elem (aQ x4)),kp (show(0:Int)<=(k:Int)/\(au a)[Int.toNat (k:Int)]?=some (aQ x2)from(bG o3)),kp (show(0:Int)<=(k:Int)/\(au b)[Int.toNat (k:Int)]?=some (aQ x4)from(bG o5))];rcases y00 ((x2.dv==x4.dv&&(x2.sq==x4.sq&&(x2.gU==x4.gU&&(x2.ad==x4.ad&&(x2.j6==x4.j6&&(x2.aa==x4.aa&&(x2.tm==x4.tm&&(x2.vl==x4.vl&&x2.gn==x4.gn)))))))))with c6|c6
  .have h:=h.1 c6;exact aJ (l1++[kf (y32 (c6)),kW 16 (k+1) ↑(k+1)]) (aB 26 [0,1,4,5]) 0 h
  .have h:=h.2 c6;obtain⟨eX,e1⟩:=h;exact bN.to ((show Rq 0 77 0 (IU a b k) bF.ret (sM 26 [(4,Am.bool false)] [])from aG (l1++[kt (show(!(x2.dv==x4.dv&&(x2.sq==x4.sq&&(x2.gU==x4.gU&&(x2.ad==x4.ad&&(x2.j6==x4.j6&&(x2.aa==x4.aa&&(x2.tm==x4.tm&&(x2.vl==x4.vl&&x2.gn==x4.gn)))))))))=true from(y32 (c6)))]) (aB 26 [4]) 0)) eX (eB.aC ⟨rfl,(aF.aI e1),yO⟩)
 .have h:=h.2 c1;obtain⟨eX,e1⟩:=h;exact bN.to ((show Rq 0 77 0 (IU a b k) (bF.exit 0) (sM 26 [(4,Am.bool false)] [])from aG [kv 13 bS,kf (qF c1)] (aB 26 [4]) 0)) eX (eB.aC ⟨rfl,(aF.aI e1),yO⟩)
def IY(a b:List CE)(k:Nat):St:={ aL:=aC 26 [(0,bZ a),(1,bZ b),(4,bool false),(11,bZ a),(12,int a.length),(13,int k)],H:=[] }
theorem ZK(a b:List CE)(k:Nat)(hl:a.length=b.length)(hv:b.length<=1000000000)(ex:bF)(o:Bool)(h:((((k:Int)<(a.length:Int))->(∃x2:CE,(a[k]?=some x2)/\(∃x4:CE,(b[k]?=some x4)/\((((x2.dv==x4.dv&&(x2.sq==x4.sq&&(x2.gU==x4.gU&&(x2.ad==x4.ad&&(x2.j6==x4.j6&&(x2.aa==x4.aa&&(x2.tm==x4.tm&&(x2.vl==x4.vl&&x2.gn==x4.gn))))))))=true)->Rq 0 145 0 (sM 26 [(0,.sl 9 false (au a)),(1,.sl 9 false (au b)),(4,Am.bool false),(11,.sl 9 false (au a)),(12,int ↑a.length),(13,int ↑(k+1))] []) ex (sM 26 [(4,Am.bool o)] []))/\(((x2.dv==x4.dv&&(x2.sq==x4.sq&&(x2.gU==x4.gU&&(x2.ad==x4.ad&&(x2.j6==x4.j6&&(x2.aa==x4.aa&&(x2.tm==x4.tm&&(x2.vl==x4.vl&&x2.gn==x4.gn))))))))=false)->(bF.ret=ex)/\((false)=(o)))))))/\((¬(k:Int)<(a.length:Int))->(bF.exit 0=ex)/\((false)=(o))))):Rq 0 145 0 (IY a b k) ex (sM 26 [(4,Am.bool o)] []):=by
 by_cases c1:((k:Int)<(a.length:Int))
 .have h:=h.1 c1;obtain⟨x2,o3,h⟩:=h;obtain⟨x4,o5,h⟩:=h;let l1:List fP:=[kt (qT c1),ko (bC.elem (aQ x2)),ko (bC.elem (aQ x4)),kp (show(0:Int)<=(k:Int)/\(au a)[Int.toNat (k:Int)]?=some (aQ x2)from(bG o3)),kp (show(0:Int)<=(k:Int)/\(au b)[Int.toNat (k:Int)]?=some (aQ x4)from(bG o5))];rcases y00 ((x2.dv==x4.dv&&(x2.sq==x4.sq&&(x2.gU==x4.gU&&(x2.ad==x4.ad&&(x2.j6==x4.j6&&(x2.aa==x4.aa&&(x2.tm==x4.tm&&(x2.vl==x4.vl&&x2.gn==x4.gn)))))))))with c6|c6
  .have h:=h.1 c6;exact aJ (l1++[kf (y32 (c6)),kW 25 (k+1) ↑(k+1)]) (aB 26 [0,1,4,11,12,13]) 0 h
  .have h:=h.2 c6;obtain⟨eX,e1⟩:=h;exact bN.to ((show Rq 0 145 0 (IY a b k) bF.ret (sM 26 [(4,Am.bool false)] [])from aG (l1++[kt (show(!(x2.dv==x4.dv&&(x2.sq==x4.sq&&(x2.gU==x4.gU&&(x2.ad==x4.ad&&(x2.j6==x4.j6&&(x2.aa==x4.aa&&(x2.tm==x4.tm&&(x2.vl==x4.vl&&x2.gn==x4.gn)))))))))=true from(y32 (c6)))]) (aB 26 [4]) 0)) eX (eB.aC ⟨rfl,(aF.aI e1),yO⟩)
 .have h:=h.2 c1;obtain⟨eX,e1⟩:=h;exact bN.to ((show Rq 0 145 0 (IY a b k) (bF.exit 0) (sM 26 [(4,Am.bool false)] [])from aG [kf (qF c1)] (aB 26 [4]) 0)) eX (eB.aC ⟨rfl,(aF.aI e1),yO⟩)
def KR{α:Type}[DecidableEq α](a b:List α):Nat->Nat->Bool
 |0,_=>true
 |n+1,k=>match a[k]?,b[k]? with
  |some x,some y=>decide (x=y)&&KR a b n (k+1)
  |_,_=>true
theorem DI{α:Type}[DecidableEq α]{a b:List α}(hl:a.length=b.length):∀n k,a.length-k=n->k<=a.length->(KR a b n k=true↔a.drop k=b.drop k)
 |0,k,hn,hk=>by
  have h1:a.drop k=[]:=y17 zO;have h2:b.drop k=[]:=y17 zO;simp[KR,h1,h2]
 |n+1,k,hn,hk=>by
  have ha:k<a.length:=zO
  have hb:k<b.length:=zO
  rw[KR,yA ha,yA hb,y01 ha,y01 hb];simp only[y04,y05,List.cons.injEq,DI hl n (k+1) zO zO]
variable {α:Type}
theorem GK[DecidableEq α]{a b:List α}(hl:a.length=b.length):KR a b a.length 0=decide (a=b):=by
 rw[Bool.eq_iff_iff,DI hl a.length 0 zO zO];simp
theorem tO[DecidableEq α]{a b:List α}{n k:Nat}{x y:α}(ha:a[k]?=some x)(hb:b[k]?=some y):KR a b (n+1) k=(decide (x=y)&&KR a b n (k+1)):=by rw[KR,ha,hb]
theorem Na a b(hl:a.length=b.length)(hv:b.length<=1000000000):∀n k,a.length-k=n->k<=a.length->Rq 0 77 0 (IU a b k) (if KR a b n k=true then .exit 0 else .ret) { aL:=aC 26 [(4,bool false)],H:=[] }:=by
 intro n
 induction n with
 |zero=>intro k hn hk;exact Zw a b k hl hv _ _ ⟨fun h=>absurd h zO,fun _=>⟨rfl,rfl⟩⟩
 |succ n ih =>
  intro k hn hk;have bg:k<a.length:=zO
  have hx:=yA bg;have hy:b[k]?=some (b[k]'zO):=yA zO;refine Zw a b k hl hv _ _ ⟨fun h=>⟨a[k],hx,b[k]'zO,hy,⟨fun hq=>?_,fun hq=>?_⟩⟩,fun h=>absurd bg zO⟩
  .rw [tO hx hy,y19 ((Uc _ _).1 hq)];exact ih (k+1) zO zO
  .rw [tO hx hy,y20 (fun e=>by rw[(Uc _ _).2 e]at hq;cases hq)];simp
theorem IV a b(hl:a.length=b.length)(hv:b.length<=1000000000):Rq 0 77 0 (IU a b 0) (if a=b then .exit 0 else .ret) { aL:=aC 26 [(4,bool false)],H:=[] }:=by
 have:=Na a b hl hv a.length 0 zO zO;rw[GK hl]at this;grind
theorem Nf a b(hl:a.length=b.length)(hv:b.length<=1000000000):∀n k,a.length-k=n->k<=a.length->Rq 0 145 0 (IY a b k) (if KR a b n k=true then .exit 0 else .ret) { aL:=aC 26 [(4,bool false)],H:=[] }:=by
 intro n
 induction n with
 |zero=>intro k hn hk;exact ZK a b k hl hv _ _ ⟨fun h=>absurd h zO,fun _=>⟨rfl,rfl⟩⟩
 |succ n ih =>
  intro k hn hk;have bg:k<a.length:=zO
  have hx:=yA bg;have hy:b[k]?=some (b[k]'zO):=yA zO;refine ZK a b k hl hv _ _ ⟨fun h=>⟨a[k],hx,b[k]'zO,hy,⟨fun hq=>?_,fun hq=>?_⟩⟩,fun h=>absurd bg zO⟩
  .rw [tO hx hy,y19 ((Uc _ _).1 hq)];exact ih (k+1) zO zO
  .rw [tO hx hy,y20 (fun e=>by rw[(Uc _ _).2 e]at hq;cases hq)];simp
theorem ZL a b(hl:a.length=b.length)(hv:b.length<=1000000000):Rq 0 145 0 (IY a b 0) (if a=b then .exit 0 else .ret) { aL:=aC 26 [(4,bool false)],H:=[] }:=by
 have:=Nf a b hl hv a.length 0 zO zO;rw[GK hl]at this;grind
theorem DJ a b(hv:b.length<=1000000000)o(h:((((a.length:Int)=b.length)->(((a=b)->(true)=(o))/\((¬a=b)->(false)=(o))))/\((¬(a.length:Int)=b.length)->(false)=(o)))):Cq 77 [bZ a,bZ b] (Am.bool o):=by
 have bS:=lU (ay a);have fT:=lU (ay b);by_cases c1:(a.length=(b.length:Int))
 .have h:=h.1 c1;have jw:=(y32 (nW.2 c1));by_cases c2:(a=b)
  .have h:=h.1 c2;exact aA (aF.aI h) [kv 7 bS,kv 9 fT,kf jw,kl (rG [(2,2),(6,20)]) 0 (((by have h0:=(@IV (a) (b) zO zO);simp only[yL c2]at h0;exact h0)))]
  .have h:=h.2 c2;exact aA (aF.aI h) [kv 7 bS,kv 9 fT,kf jw,kl (rG [(2,2),(6,20)]) 0 (((by have h0:=(@IV (a) (b) zO zO);simp only[yK c2]at h0;exact h0)))]
 .have h:=h.2 c1;exact aA (aF.aI h) [kv 7 bS,kv 9 fT,kt (y32 (qN.2 c1))]
theorem C9 a b(ha:a.length<=1000000000)(hv:b.length<=1000000000):Cq 77 [bZ a,bZ b] (bool (decide (a=b))):=DJ a b hv _ (by
 by_cases h:a=b
 .subst h;simp
 .simp [h]
 )
theorem Yi v(fF:au v≠[])(hv:v.length<=1000000)(h:(((au v=[])->([])=(au v))/\((¬au v=[])->True))):Cq 82 [bZ v] (bZ v):=by
 have bS:au v≠[]:=zO;by_cases c1:(au v=[])
 .grind
 .exact aj [kp bS,kY,kv 7 (show Am.aF (AV.aU 0 0 0 (0+length (au v))) (AV.aU 0 0 0 v.length)from(aF.of_eq (by simp[ay,bJ]))),ko (bC.Gu (au v)),kp c1,vV ((0+length (au v))*80) (by simp only[ay,bJ]<;>omega),kq 0,kp (show List.take v.length (List.drop 0 (au v))=au v from(dW _)),kp (ay v),kp (bK v)]
theorem akP a b(ha:a.length<=1000000000)(hv:b.length<=1000000000)o(h:(((a.length=(b.length:Int))->(((a=b)->(true)=(o))/\((¬a=b)->(false)=(o))))/\((¬a.length=(b.length:Int))->(false)=(o)))):Cq 145 [bZ a,bZ b] (Am.bool o):=by
 have bS:=lU (ay a);have fT:=lU (ay b);by_cases c1:((a.length:Int)=b.length)
 .have h:=h.1 c1;have jw:=(y32 (nW.2 c1));by_cases c2:(a=b)
  .have h:=h.1 c2;exact aA (aF.aI h) [kv 7 bS,kv 9 fT,kf jw,kv 12 bS,kl (rG [(2,2),(5,6),(14,12)]) 0 (((by have h0:=(@ZL (a) (b) zO zO);simp only[yL c2]at h0;exact h0)))]
  .have h:=h.2 c2;exact aA (aF.aI h) [kv 7 bS,kv 9 fT,kf jw,kv 12 bS,kl (rG [(2,2),(5,6),(14,12)]) 0 (((by have h0:=(@ZL (a) (b) zO zO);simp only[yK c2]at h0;exact h0)))]
 .have h:=h.2 c1;exact aA (aF.aI h) [kv 7 bS,kv 9 fT,kt (y32 (qN.2 c1))]
theorem ais a b(ha:a.length<=1000000000)(hv:b.length<=1000000000):Cq 145 [bZ a,bZ b] (bool (decide (a=b))):=akP a b ha hv _ (by
 by_cases h:a=b
 .subst h;simp
 .simp [h])
theorem akQ cap:Cq 82 [.lit (.slice none 0 cap)] (bZ []) :=
 ak.out ((aj [kt (Eq.refl true)])) (aF.nil 9)
theorem akR a(cap:Nat):Cq 82 [.lit (.slice (some a) 0 cap)] (bZ []) :=
 ak.out ((aj [kf (Eq.refl false),ko .LV,kp (rfl:([]:List (List AV))=[])])) (aF.oP 9 true [])
theorem uJ v(hv:v.length<=1000000):Cq 82 [bZ v] (bZ v):=by
 cases v with
 |nil=>exact ak.wY akQ akR
 |cons c v=>exact Yi (c::v) (by simp[au]) hv ⟨fun h=>by simp[au]at h,fun _=>trivial⟩
def Oq(l:List CE):Nat->CE->Bool
 |0,_=>false
 |n+1,c=>if(c.ad==0&&(c.j6==0&&c.aa==0))=true then true else match fX (vM c.ad c.j6 c.aa) l with
  |some j=>match l[j]? with
   |some y=>Oq l n y
   |none=>false
  |none=>false
def Tt(l:List CE)(c:CE):Bool:=Oq l (l.length+1) c
theorem ZM{p}{v}:∀{n k j},fI p v n k=some j->∃y,v[j]?=some y/\p y=true
 |0,_,_,h=>by cases h
 |n+1,k,j,h=>by
  rw[fI]at h;split at h
  .split at h
   .grind
   .exact ZM h
  .cases h
theorem QU{p}{v}{j}(h:fX p v=some j):∃y,v[j]?=some y/\p y=true:=ZM h
def kP(x y:CE):Bool:=(x.dv==y.dv&&(x.sq==y.sq&&x.gU==y.gU))||(decide (x.dv=y.dv)&&decide (x.sq=y.sq) && !decide (x.tm=y.tm))
def clN(l:List CE)(x:CE):Nat->Nat->Bool
 |0,_=>false
 |n+1,i=>match l[i]? with
  |some y=>kP x y||clN l x n (i+1)
  |none=>false
def okC(l:List CE)(k:Nat)(x:CE):Bool:=dF x && !clN l x k 0
def foN(l:List CE):Nat->Nat->Bool
 |0,_=>true
 |n+1,k=>match l[k]? with
  |some x=>okC l k x&&foN l n (k+1)
  |none=>true
def roN(l:List CE):Nat->Nat->Bool
 |0,_=>true
 |n+1,k=>match l[k]? with
  |some x=>Tt l x&&roN l n (k+1)
  |none=>true
def sO(l:List CE):Bool:=foN l l.length 0&&roN l l.length 0
def VK(x:CE)(ch:List CE):List CE:=ch.takeWhile (fun y=>Kn y x)++x::ch.dropWhile (fun y=>Kn y x)
theorem Ud(x:CE)ch:(VK x ch).length=ch.length+1:=by
 have:=yJ length (takeWhile_append_dropWhile (p:=fun y=>Kn y x) (l:=ch));simp only[VK,yD,yE]at this |-;omega
def Pt(a b c:Int)(x:CE):Bool:=x.ad==a&&(x.j6==b&&x.aa==c)
def DK(a b c:Int):List CE->List CE->List CE
 |[],acc=>acc
 |x::r,acc=>DK a b c r (if Pt a b c x=true then VK x acc else acc)
theorem KS a b c:∀r acc,(DK a b c r acc).length<=r.length+acc.length
 |[],acc=>by simp[DK]
 |x::r,acc=>by
  rw[DK];have:=KS a b c r (if Pt a b c x=true then VK x acc else acc);split at this<;>(try rw[Ud]at this)<;>simp only[yE]<;>rename_i h<;>simp only[h,if_true,if_false,y24]at this|-<;> (try rw[Ud]at this)<;>omega
def oZ(l:List CE)(a b c:Int):List CE:=DK a b c l []
theorem Oj l(a b c:Int):(oZ l a b c).length<=l.length:=by have:=KS a b c l [];simpa[oZ]using this
def bX(l:List CE):Nat->Int->Int->Int->List CE
 |0,_,_,_=>[]
 |n+1,a,b,c=>(oZ l a b c).flatMap fun y=>y::bX l n y.dv y.sq y.gU
def Deep(l:List CE):Nat->Int->Int->Int->Prop
 |0,_,_,_=>False
 |n+1,a,b,c=>(bX l (n+1) a b c).length<=1000000/\∀y∈oZ l a b c,Deep l n y.dv y.sq y.gU
theorem Deep.len{l}:∀{n}{a b c},Deep l n a b c->(bX l n a b c).length<=1000000
 |0,_,_,_,h=>h.elim
 |_+1,_,_,_,h=>h.1
theorem Deep.Td{l}{n}{a b c}(h:Deep l (n+1) a b c){y}(hy:y∈oZ l a b c):Deep l n y.dv y.sq y.gU:=h.2 y hy
end Go.Sq
namespace Go.Sq
open Go Go.Am
theorem Hq{a b}:Kn a b=true↔a.tm>b.tm\/a.tm=b.tm/\(a.dv>b.dv\/a.dv=b.dv/\(a.sq>b.sq\/a.sq=b.sq/\a.gU>b.gU)):=by
 simp[Kn]
theorem vQ a:Kn a a=false:=by
 rw[Bool.eq_false_iff];intro h;rw[Hq]at h;omega
theorem gt_trans{a b c}(h:Kn a b=true)(k:Kn b c=true):Kn a c=true:=by
 rw[Hq]at *;omega
theorem Oe{a b}(h:a.id≠b.id):Kn a b=true\/Kn b a=true:=by
 simp only[Hq];by_cases h1:a.tm=b.tm<;>by_cases h2:a.dv=b.dv<;>by_cases h3:a.sq=b.sq<;>by_cases h4:a.gU=b.gU
 all_goals first|omega|exact absurd (by simp[CE.id,h2,h3,h4]) h
abbrev F4(l:List CE):Prop:=l.Pairwise fun a b=>Kn a b=true
theorem F4.ext:∀{l m},F4 l->F4 m->(∀x,x∈l↔x∈m)->l=m
 |[],[],_,_,_=>rfl
 |[],y::m,_,_,h=>absurd ((h y).2 zS) zS
 |x::l,[],_,_,h=>absurd ((h x).1 zS) zS
 |x::l,y::m,hl,hm,h=>by
  obtain⟨h1,h2⟩:=pairwise_cons.1 hl;obtain⟨k1,k2⟩:=pairwise_cons.1 hm;have exy:x=y:=by
   rcases yH.1 ((h x).1 zS)with e|e
   .exact e
   .rcases yH.1 ((h y).2 zS)with e'|e'
    .exact e'.symm
    .have:=gt_trans (h1 y e') (k1 x e);rw[vQ]at this;grind
  subst exy;have nx:x∉l:=fun hx=>by have:=h1 x hx;rw[vQ]at this;grind
  have nm:x∉m:=fun hx=>by have:=k1 x hx;rw[vQ]at this;grind
  rw[F4.ext h2 k2 fun z=>?_];grind
theorem F4.Fp{l}(h:F4 l):l.Nodup:=h.imp fun{a b} hab e=>by subst e;rw[vQ]at hab;cases hab
theorem Ng{x y}{ch}:y∈VK x ch↔y=x\/y∈ch:=by
 have:=takeWhile_append_dropWhile (p:=fun y=>Kn y x) (l:=ch);constructor
 .intro h;rcases yI.1 h with h|h
  .grind
  .grind
 .rintro (rfl|h)
  .exact y08 _ zS
  .rw [<- this]at h;rcases yI.1 h with h|h
   .exact y07 _ h
   .exact y08 _ (yF _ h)
theorem Pv{x}:∀{ch},F4 ch->(∀y∈ch,y.id≠x.id)->F4 (VK x ch)
 |[],_,_=>by simp[VK]
 |y::ch,h,hd=>by
  obtain⟨h1,h2⟩:=pairwise_cons.1 h;cases hg:Kn y x with
  |true =>
   have e:VK x (y::ch)=y::VK x ch:=by simp[VK,hg]
   rw[e];refine pairwise_cons.2 ⟨fun z hz=>?_,Pv h2 fun z hz=>hd z (yF _ hz)⟩;rcases Ng.1 hz with rfl|hz
   .exact hg
   grind
  |false =>
   have e:VK x (y::ch)=x::y::ch:=by simp[VK,hg]
   rw[e];have hxy:=(Oe (hd y zS)).resolve_left (by rw[hg];decide);refine pairwise_cons.2 ⟨fun z hz=>?_,h⟩;rcases yH.1 hz with rfl|hz
   .exact hxy
   .grind [gt_trans]
abbrev Ids(l:List CE):Prop:=l.Pairwise fun a b=>a.id≠b.id
theorem xw a b c:∀r acc,Ids r->(∀x∈r,∀y∈acc,y.id≠x.id)->F4 acc->F4 (DK a b c r acc)/\∀y,y∈DK a b c r acc↔y∈acc\/(y∈r/\Pt a b c y=true)
 |[],acc,_,_,h=>⟨h,fun y=>by simp[DK]⟩
 |x::r,acc,hi,hd,h=>by
  obtain⟨i1,i2⟩:=pairwise_cons.1 hi;rw[DK];cases hk:Pt a b c x with
  |true =>
   rw[yL rfl];obtain⟨k1,k2⟩:=xw a b c r (VK x acc) i2 (fun z hz y hy=>by
    rcases Ng.1 hy with rfl|hy
    .exact i1 z hz
    grind) (Pv h fun y hy=>hd x zS y hy)
   refine⟨k1,fun y=>?_⟩;rw[k2,Ng];grind
  |false =>
   obtain⟨k1,k2⟩:=xw a b c r acc i2 (fun z hz y hy=>hd z (yF _ hz) y hy) h;grind
theorem Kt{l}(h:Ids l)a b c:F4 (oZ l a b c):=(xw a b c l [] h zS .nil).1
theorem jc{l}(h:Ids l){a b c}{y}:y∈oZ l a b c↔y∈l/\y.after=(a,b,c):=by
 rw[oZ,(xw a b c l [] h zS .nil).2];simp[Pt,CE.after]
theorem ar6{l m}(hl:Ids l)(hm:Ids m)(h:∀x,x∈l↔x∈m)a b c:oZ l a b c=oZ m a b c :=
 (Kt hl a b c).ext (Kt hm a b c) fun x=>by rw[jc hl,jc hm,h]
theorem arh{l m}(hl:Ids l)(hm:Ids m)(h:∀x,x∈l↔x∈m):∀n a b c,bX l n a b c=bX m n a b c
 |0,_,_,_=>rfl
 |n+1,a,b,c=>by
  rw[bX,ar6 hl hm h];congr 1;funext y;rw[arh hl hm h n]
open Go.Proofs Go.eY
def agx(c:CE):List AV:=[int c.tm,int c.dv,int c.sq,int c.gU]
theorem acK c(h:True):Cq 185 [nP c] (.agg (agx c)):=by
 exact aj []
theorem Ue c:Cq 185 [nP c] (.agg [int c.tm,int c.dv,int c.sq,int c.gU]):=acK c trivial
theorem akS a(h:True):Cq 118 [int a] (Am.bool (a != a)):=by
 exact aj []
theorem aex a:Cq 118 [int a] (bool false):=by grind[akS]
def lW(a b:Int):Int:=if a<b then -1 else if b<a then 1 else 0
theorem RO(a b:Int)r(h:(((a<b)->-1=(r))/\((¬a<b)->(((a>b)->1=r)/\((¬a>b)->0=r))))):Cq 87 [int a,int b] (int r):=by
 have bS:=(@aex (a));have fT:=(@aex (b));let l1:List fP:=[kc [] bS,kc [] fT,kY,kY];by_cases c1:(a<b)
 .have h:=h.1 c1;exact aA (aF.int_eq h) (l1++[kt (qT c1)])
 .have h:=h.2 c1;by_cases c2:(a>b)
  .have h:=h.1 c2;exact aA (aF.int_eq h) (l1++[kf (qF c1),kt (qT c2)])
  .have h:=h.2 c2;exact aA (aF.int_eq h) (l1++[kf (qF c1),kf (qF c2)])
theorem Cc a b:Cq 87 [int a,int b] (int (lW a b)):=RO a b _ (by
 unfold lW;grind)
abbrev IZ(a b c d:Int):AV:=.sl 1 true [[int a],[int b],[int c],[int d]]
def RU(a b c d a' b' c' d':Int)(k:Nat):St:={ aL:=aC 39 [(0,IZ a b c d),(1,IZ a' b' c' d'),(2,.lit (.func (.func 87) #[] #[])),(6,int 0),(11,IZ a b c d),(12,int 4),(13,int k)],H:=[] }
theorem cf4(a b c d a' b' c' d':Int)ex(s':St)(h:(bF.exit 0=ex)/\(sM 39 [(0,.sl 1 true [[int a],[int b],[int c],[int d]]),(1,.sl 1 true [[int a'],[int b'],[int c'],[int d']]),(6,int 0)] []=s')):Rq 0 212 0 (RU a b c d a' b' c' d' 4) ex s':=by
 obtain⟨eX,eS⟩:=h;exact bN.to ((aG [kY] (aB 39 [0,1,6]) 0)) eX (eB.of_eq eS)
theorem cf3 a b c d a' b' c' d'(ex:bF)s'(h:(((lW d d'=0)->Rq 0 212 0 (sM 39 [(0,.sl 1 true [[int a],[int b],[int c],[int d]]),(1,.sl 1 true [[int a'],[int b'],[int c'],[int d']]),(2,iL 87),(6,int 0),(11,.sl 1 true [[int a],[int b],[int c],[int d]]),(12,int 4),(13,int 4)] []) ex s')/\((¬lW d d'=0)->(bF.ret=ex)/\(sM 39 [(0,.sl 1 true [[int a],[int b],[int c],[int d]]),(1,.sl 1 true [[int a'],[int b'],[int c'],[int d']]),(6,int (lW d d'))] []=s')))):Rq 0 212 0 (RU a b c d a' b' c' d' 3) ex s':=by
 have jw:=(@Cc (d) (d'));let l1:List fP:=[kO,ko (bC.elem [int d]),kp (show(0:Int)<=(3:Int)/\[[int a],[int b],[int c],[int d]][Int.toNat (3:Int)]?=some [int d]from(⟨zD,rfl⟩)),kY,ko (bC.elem [int d']),kp (show(0:Int)<=(3:Int)/\[[int a'],[int b'],[int c'],[int d']][Int.toNat (3:Int)]?=some [int d']from(⟨zD,rfl⟩)),kc [] jw];by_cases c1:(lW d d'=0)
 .have h:=h.1 c1;exact aJ (l1++[kf (y32 (nW.2 c1))]) (aB 39 [0,1,2,6,11,12,13]) 0 h
 .have h:=h.2 c1;obtain⟨eX,eS⟩:=h;exact bN.to ((aG (l1++[kt (show(lW d d' != 0)=true from(y32 (qN.2 c1)))]) (aB 39 [0,1,6]) 0)) eX (eB.of_eq eS)
theorem cf2 a b c d a' b' c' d'(ex:bF)s'(h:(((lW c c'=0)->Rq 0 212 0 (sM 39 [(0,.sl 1 true [[int a],[int b],[int c],[int d]]),(1,.sl 1 true [[int a'],[int b'],[int c'],[int d']]),(2,iL 87),(6,int 0),(11,.sl 1 true [[int a],[int b],[int c],[int d]]),(12,int 4),(13,int 3)] []) ex s')/\((¬lW c c'=0)->(bF.ret=ex)/\(sM 39 [(0,.sl 1 true [[int a],[int b],[int c],[int d]]),(1,.sl 1 true [[int a'],[int b'],[int c'],[int d']]),(6,int (lW c c'))] []=s')))):Rq 0 212 0 (RU a b c d a' b' c' d' 2) ex s':=by
 have jw:=(@Cc (c) (c'));let l1:List fP:=[kO,ko (bC.elem [int c]),kp (show(0:Int)<=(2:Int)/\[[int a],[int b],[int c],[int d]][Int.toNat (2:Int)]?=some [int c]from(⟨zD,rfl⟩)),kY,ko (bC.elem [int c']),kp (show(0:Int)<=(2:Int)/\[[int a'],[int b'],[int c'],[int d']][Int.toNat (2:Int)]?=some [int c']from(⟨zD,rfl⟩)),kc [] jw];by_cases c1:(lW c c'=0)
 .have h:=h.1 c1;exact aJ (l1++[kf (y32 (nW.2 c1))]) (aB 39 [0,1,2,6,11,12,13]) 0 h
 .have h:=h.2 c1;obtain⟨eX,eS⟩:=h;exact bN.to ((aG (l1++[kt (show(lW c c' != 0)=true from(y32 (qN.2 c1)))]) (aB 39 [0,1,6]) 0)) eX (eB.of_eq eS)
theorem cf1 a b c d a' b' c' d'(ex:bF)s'(h:(((lW b b'=0)->Rq 0 212 0 (sM 39 [(0,.sl 1 true [[int a],[int b],[int c],[int d]]),(1,.sl 1 true [[int a'],[int b'],[int c'],[int d']]),(2,iL 87),(6,int 0),(11,.sl 1 true [[int a],[int b],[int c],[int d]]),(12,int 4),(13,int 2)] []) ex s')/\((¬lW b b'=0)->(bF.ret=ex)/\(sM 39 [(0,.sl 1 true [[int a],[int b],[int c],[int d]]),(1,.sl 1 true [[int a'],[int b'],[int c'],[int d']]),(6,int (lW b b'))] []=s')))):Rq 0 212 0 (RU a b c d a' b' c' d' 1) ex s':=by
 have jw:=(@Cc (b) (b'));let l1:List fP:=[kO,ko (bC.elem [int b]),kp (show(0:Int)<=(1:Int)/\[[int a],[int b],[int c],[int d]][Int.toNat (1:Int)]?=some [int b]from(⟨zD,rfl⟩)),kY,ko (bC.elem [int b']),kp (show(0:Int)<=(1:Int)/\[[int a'],[int b'],[int c'],[int d']][Int.toNat (1:Int)]?=some [int b']from(⟨zD,rfl⟩)),kc [] jw];by_cases c1:(lW b b'=0)
 .have h:=h.1 c1;exact aJ (l1++[kf (y32 (nW.2 c1))]) (aB 39 [0,1,2,6,11,12,13]) 0 h
 .have h:=h.2 c1;obtain⟨eX,eS⟩:=h;exact bN.to ((aG (l1++[kt (show(lW b b' != 0)=true from(y32 (qN.2 c1)))]) (aB 39 [0,1,6]) 0)) eX (eB.of_eq eS)
theorem cf0 a b c d a' b' c' d'(ex:bF)s'(h:(((lW a a'=0)->Rq 0 212 0 (sM 39 [(0,.sl 1 true [[int a],[int b],[int c],[int d]]),(1,.sl 1 true [[int a'],[int b'],[int c'],[int d']]),(2,iL 87),(6,int 0),(11,.sl 1 true [[int a],[int b],[int c],[int d]]),(12,int 4),(13,int 1)] []) ex s')/\((¬lW a a'=0)->(bF.ret=ex)/\(sM 39 [(0,.sl 1 true [[int a],[int b],[int c],[int d]]),(1,.sl 1 true [[int a'],[int b'],[int c'],[int d']]),(6,int (lW a a'))] []=s')))):Rq 0 212 0 (RU a b c d a' b' c' d' 0) ex s':=by
 have jw:=(@Cc (a) (a'));let l1:List fP:=[kO,ko (bC.elem [int a]),kp (show(0:Int)<=(0:Int)/\[[int a],[int b],[int c],[int d]][Int.toNat (0:Int)]?=some [int a]from(⟨zD,rfl⟩)),kY,ko (bC.elem [int a']),kp (show(0:Int)<=(0:Int)/\[[int a'],[int b'],[int c'],[int d']][Int.toNat (0:Int)]?=some [int a']from(⟨zD,rfl⟩)),kc [] jw];by_cases c1:(lW a a'=0)
 .have h:=h.1 c1;exact aJ (l1++[kf (y32 (nW.2 c1))]) (aB 39 [0,1,2,6,11,12,13]) 0 h
 .have h:=h.2 c1;obtain⟨eX,eS⟩:=h;exact bN.to ((aG (l1++[kt (show(lW a a' != 0)=true from(y32 (qN.2 c1)))]) (aB 39 [0,1,6]) 0)) eX (eB.of_eq eS)
def wP(a b c d a' b' c' d':Int):Int:=if lW a a'=0 then(if lW b b'=0 then(if lW c c'=0 then lW d d' else lW c c')else lW b b')else lW a a'
def cfE(a b c d a' b' c' d':Int)(r:Int):St:={ aL:=aC 39 [(0,IZ a b c d),(1,IZ a' b' c' d'),(6,int r)],H:=[] }
theorem agy a b c d a' b' c' d':Rq 0 212 0 (RU a b c d a' b' c' d' 0) (if wP a b c d a' b' c' d'=0 then .exit 0 else .ret) (cfE a b c d a' b' c' d' (wP a b c d a' b' c' d')):=by
 unfold wP;by_cases h1:lW a a'=0
 .rw [yL h1];by_cases h2:lW b b'=0
  .rw [yL h2];by_cases h3:lW c c'=0
   .rw [yL h3];refine cf0 a b c d a' b' c' d' _ _ ⟨fun _=>cf1 a b c d a' b' c' d' _ _ ⟨fun _=>cf2 a b c d a' b' c' d' _ _ ⟨fun _=>cf3 a b c d a' b' c' d' _ _ ⟨fun h4=>cf4 a b c d a' b' c' d' _ _ ?_,fun h4=>?_⟩,fun h=>absurd h3 h⟩,fun h=>absurd h2 h⟩,fun h=>absurd h1 h⟩
    .rw [h4];exact⟨rfl,rfl⟩
    .rw [yK h4];exact⟨rfl,rfl⟩
   .rw [yK h3,yK h3];exact cf0 a b c d a' b' c' d' _ _ ⟨fun _=>cf1 a b c d a' b' c' d' _ _ ⟨fun _=>cf2 a b c d a' b' c' d' _ _ ⟨fun h=>absurd h h3,fun _=>⟨rfl,rfl⟩⟩,fun h=>absurd h2 h⟩,fun h=>absurd h1 h⟩
  .rw [yK h2,yK h2];exact cf0 a b c d a' b' c' d' _ _ ⟨fun _=>cf1 a b c d a' b' c' d' _ _ ⟨fun h=>absurd h h2,fun _=>⟨rfl,rfl⟩⟩,fun h=>absurd h1 h⟩
 .rw [yK h1,yK h1];exact cf0 a b c d a' b' c' d' _ _ ⟨fun h=>absurd h h1,fun _=>⟨rfl,rfl⟩⟩
theorem akT(a b c d a' b' c' d':Int)r(hL:Rq 0 212 0 (RU a b c d a' b' c' d' 0) (if wP a b c d a' b' c' d'=0 then .exit 0 else .ret) { aL:=aC 39 [(0,IZ a b c d),(1,IZ a' b' c' d'),(6,int (wP a b c d a' b' c' d'))],H:=[] })(h:(((wP a b c d a' b' c' d'=0)->0=r)/\((¬wP a b c d a' b' c' d'=0)->wP a b c d a' b' c' d'=(r)))):Cq 212 [IZ a b c d,IZ a' b' c' d',.lit (Value.func (Fn.func 87) #[] #[])] (int r):=by
 by_cases c1:(wP a b c d a' b' c' d'=0)
 .have h:=h.1 c1;exact aA (aF.int_eq h) [kl (rG [(3,3),(7,4),(14,25)]) 0 (((by have h0:=hL;simp only[yL c1]at h0;exact h0))),kY]
 .have h:=h.2 c1;exact aA (aF.int_eq h) [kl (rG [(3,3),(7,4),(14,25)]) 0 (((by have h0:=hL;simp only[yK c1]at h0;exact h0)))]
theorem aey a b c d a' b' c' d':Cq 212 [IZ a b c d,IZ a' b' c' d',.lit (.func (.func 87) #[] #[])] (int (wP a b c d a' b' c' d')):=akT a b c d a' b' c' d' _ (agy a b c d a' b' c' d') ⟨fun h=>h.symm,fun _=>rfl⟩
end Go.Sq
namespace Go.Proofs
open Go.Shelf Go.RowKit Go.Lib Go.Sort
def Tryz.RV:Go.Shelf.Ren:=⟨fun|6=>210|15=>104|14=>222|28=>142|29=>143|20=>223|21=>224|22=>225|23=>226|24=>227|25=>228|26=>229|27=>230|46=>231|47=>178|48=>179|49=>232|50=>233|57=>234|n=>n,fun|22=>83|24=>129|25=>264|3=>3|39=>37|0=>0|53=>197|55=>199|4=>4|46=>190|45=>189|50=>95|5=>5|9=>9|66=>228|70=>232|76=>259|77=>260|n=>n,fun|n=>n⟩
theorem Tryz.ae7:Go.Proofs.SlLaysF0.n6 Tryz.prog Tryz.RV where
 mixed:=zQ
 f6:=⟨"slices.SortFunc[[]chartroom/api.Cell,chartroom/api.Cell]",zD,Tryz.func210.trans (yJ some zQ)⟩
 f14:=⟨"slices.pdqsortCmpFunc[chartroom/api.Cell]",zD,Tryz.func222.trans (yJ some zQ)⟩
 f15:=Tryz.func104.trans (yJ some zQ)
 f20:=⟨"slices.insertionSortCmpFunc[chartroom/api.Cell]",zD,Tryz.func223.trans (yJ some zQ)⟩
 f21:=⟨"slices.heapSortCmpFunc[chartroom/api.Cell]",zD,Tryz.func224.trans (yJ some zQ)⟩
 f22:=⟨"slices.breakPatternsCmpFunc[chartroom/api.Cell]",zD,Tryz.func225.trans (yJ some zQ)⟩
 f23:=⟨"slices.choosePivotCmpFunc[chartroom/api.Cell]",zD,Tryz.func226.trans (yJ some zQ)⟩
 f24:=⟨"slices.reverseRangeCmpFunc[chartroom/api.Cell]",zD,Tryz.func227.trans (yJ some zQ)⟩
 f25:=⟨"slices.partialInsertionSortCmpFunc[chartroom/api.Cell]",zD,Tryz.func228.trans (yJ some zQ)⟩
 f26:=⟨"slices.partitionEqualCmpFunc[chartroom/api.Cell]",zD,Tryz.func229.trans (yJ some zQ)⟩
 f27:=⟨"slices.partitionCmpFunc[chartroom/api.Cell]",zD,Tryz.func230.trans (yJ some zQ)⟩
 f28:=Tryz.func142.trans (yJ some zQ)
 f29:=Tryz.func143.trans (yJ some zQ)
 f46:=⟨"slices.siftDownCmpFunc[chartroom/api.Cell]",zD,Tryz.func231.trans (yJ some zQ)⟩
 f47:=Tryz.func178.trans (yJ some zQ)
 f48:=Tryz.func179.trans (yJ some zQ)
 f49:=⟨"slices.medianAdjacentCmpFunc[chartroom/api.Cell]",zD,Tryz.func232.trans (yJ some zQ)⟩
 f50:=⟨"slices.medianCmpFunc[chartroom/api.Cell]",zD,Tryz.func233.trans (yJ some zQ)⟩
 f57:=⟨"slices.order2CmpFunc[chartroom/api.Cell]",zD,Tryz.func234.trans (yJ some zQ)⟩
 t0:=Tryz.underlying0
 a0:=Tryz.isAgg0
 z0:=Tryz.sizeOf0
 v0:=Tryz.zeroValue0
 t3:=Tryz.underlying3
 a3:=Tryz.isAgg3
 z3:=Tryz.sizeOf3
 v3:=Tryz.zeroValue3
 t4:=Tryz.underlying4
 a4:=Tryz.isAgg4
 z4:=Tryz.sizeOf4
 v4:=Tryz.zeroValue4
 t5:=Tryz.underlying5
 a5:=Tryz.isAgg5
 z5:=Tryz.sizeOf5
 v5:=Tryz.zeroValue5
 t9:=Tryz.underlying9
 a9:=Tryz.isAgg9
 z9:=Tryz.sizeOf9
 v9:=Tryz.zeroValue9
 t22:=Tryz.underlying83
 a22:=Tryz.isAgg83
 z22:=Tryz.sizeOf83
 v22:=Tryz.zeroValue83
 t25:=Tryz.underlying264
 a25:=Tryz.isAgg264
 z25:=Tryz.sizeOf264
 v25:=Tryz.zeroValue264
 t39:=Tryz.underlying37
 a39:=Tryz.isAgg37
 z39:=Tryz.sizeOf37
 v39:=Tryz.zeroValue37
 t45:=Tryz.underlying189
 a45:=Tryz.isAgg189
 z45:=Tryz.sizeOf189
 v45:=Tryz.zeroValue189
 t46:=Tryz.underlying190
 a46:=Tryz.isAgg190
 z46:=Tryz.sizeOf190
 v46:=Tryz.zeroValue190
 t50:=Tryz.underlying95
 a50:=Tryz.isAgg95
 z50:=Tryz.sizeOf95
 v50:=Tryz.zeroValue95
 t53:=Tryz.underlying197
 a53:=Tryz.isAgg197
 z53:=Tryz.sizeOf197
 v53:=Tryz.zeroValue197
 t55:=Tryz.underlying199
 a55:=Tryz.isAgg199
 z55:=Tryz.sizeOf199
 v55:=Tryz.zeroValue199
 t66:=Tryz.underlying228
 a66:=Tryz.isAgg228
 z66:=Tryz.sizeOf228
 v66:=Tryz.zeroValue228
 t70:=Tryz.underlying232
 a70:=Tryz.isAgg232
 z70:=Tryz.sizeOf232
 v70:=Tryz.zeroValue232
 t76:=Tryz.underlying259
 a76:=Tryz.isAgg259
 z76:=Tryz.sizeOf259
 v76:=Tryz.zeroValue259
 t77:=Tryz.underlying260
 a77:=Tryz.isAgg260
 z77:=Tryz.sizeOf260
 v77:=Tryz.zeroValue260
end Go.Proofs
namespace Go.Sq
open Go Go.Am Go.Proofs Go.eY
def qd(c:CE):List Value:=[.int .i64 c.dv,.int .i64 c.sq,.int .i64 c.gU,.int .i64 c.ad,.int .i64 c.j6,.int .i64 c.aa,.int .i64 c.tm,.string c.vl,.bool c.gn]
theorem Ta V(c:CE):dI V (nP c) (.agg (qd c).toArray):=.agg (aQ c) (qd c) rfl fun j hj=>by
 have:j<9:=hj
 match j,this with
 |0,_=>exact .pure _ _ (.lit _)
 |1,_=>exact .pure _ _ (.lit _)
 |2,_=>exact .pure _ _ (.lit _)
 |3,_=>exact .pure _ _ (.lit _)
 |4,_=>exact .pure _ _ (.lit _)
 |5,_=>exact .pure _ _ (.lit _)
 |6,_=>exact .pure _ _ (.lit _)
 |7,_=>exact .pure _ _ (.lit _)
 |8,_=>exact .pure _ _ (.lit _)
end Go.Sq
