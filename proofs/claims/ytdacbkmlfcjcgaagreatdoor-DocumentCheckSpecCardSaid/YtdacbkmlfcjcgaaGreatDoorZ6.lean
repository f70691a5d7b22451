import Derived.Test.YtdacbkmlfcjcgaaGreatDoorZ5
set_option maxRecDepth 100000
set_option linter.unusedSimpArgs false
set_option linter.unusedVariables false
open List
noncomputable section
namespace Go.Dc
open Go Go.Am Go.Proofs Go.eY Go.bH
theorem pW v:∀c∈lH v,AV.aM [] c=true:=by
 intro c hc;obtain⟨d,_,rfl⟩:=yG.1 hc;rfl
theorem sQ v:∀c∈lH v,c.all AV.fJ=true:=by
 intro c hc;obtain⟨d,_,rfl⟩:=yG.1 hc;rfl
theorem aix(v:List TL)(hv:v.length<=1000000)(fF:¬lH v=[])(h:True):Cq 118 [mF v] (mF v):=by
 exact aj [kp (show lH v≠[]from zO),kY,kv 7 (show Am.aF (AV.aU 0 0 0 (0+length (lH v))) (AV.aU 0 0 0 v.length)from(aF.of_eq (by simp[dP,pW,sQ]))),ko (bC.Gu (lH v)),kp fF,vV ((0+length (lH v))*24) (by simp only[yD,yE,y11,y10,dP,pW,sQ]<;>omega),kq 0,XV v.length (lH v) (by simp only[yD,yE,y11,y10,dP,pW,sQ]<;>omega),kp (dP v),kp (sQ v)]
theorem aiy(cap:Nat):Cq 118 [.lit (.slice none 0 cap)] (mF []) :=
 ak.out (aj [kt (Eq.refl true)]) (aF.nil 3)
theorem aiz(a:Addr)(cap:Nat):Cq 118 [.lit (.slice (some a) 0 cap)] (mF []) :=
 ak.out (aj [kf (Eq.refl false),ko .LV,kp (rfl:([]:List (List AV))=[])]) (aF.oP 3 true [])
theorem aiA(v:List TL)(hv:v.length<=1000000):Cq 118 [mF v] (mF v):=by
 cases v with
 |nil=>exact ak.wY aiy aiz
 |cons c v=>exact aix (c::v) hv (by simp[lH]) trivial
theorem aiB(v:List Bd.BE)(hv:v.length<=1000000)(fF:¬Bd.au v=[])(h:True):Cq 117 [Bd.iK v] (Bd.iK v):=by
 exact aj [kp (show Bd.au v≠[]from zO),kY,kv 7 (show Am.aF (AV.aU 0 0 0 (0+length (Bd.au v))) (AV.aU 0 0 0 v.length)from(aF.of_eq (by simp[Go.Bd.ay,Go.Bd.bJ,Go.Bd.bK]))),ko (bC.Gu (Bd.au v)),kp fF,vV ((0+length (Bd.au v))*56) (by simp only[yD,yE,y11,y10,Go.Bd.ay,Go.Bd.bJ,Go.Bd.bK]<;>omega),kq 0,XV v.length (Bd.au v) (by simp only[yD,yE,y11,y10,Go.Bd.ay,Go.Bd.bJ,Go.Bd.bK]<;>omega),kp (show length (Bd.au v)=length v from(Go.Bd.ay _)),kp (show ∀(c:List AV),c∈Bd.au v->List.all c AV.fJ=true from(Go.Bd.bK _))]
theorem aiC(cap:Nat):Cq 117 [.lit (.slice none 0 cap)] (Bd.iK []) :=
 ak.out (aj [kt (Eq.refl true)]) (aF.nil 5)
theorem aiD(a:Addr)(cap:Nat):Cq 117 [.lit (.slice (some a) 0 cap)] (Bd.iK []) :=
 ak.out (aj [kf (Eq.refl false),ko .LV,kp (rfl:([]:List (List AV))=[])]) (aF.oP 5 true [])
theorem aiE(v:List Bd.BE)(hv:v.length<=1000000):Cq 117 [Bd.iK v] (Bd.iK v):=by
 cases v with
 |nil=>exact ak.wY aiC aiD
 |cons c v=>exact aiB (c::v) hv (by simp[Bd.au]) trivial
theorem aiF(v:List Tx.MK)(hv:v.length<=1000000)(fF:¬Tx.au v=[])(h:True):Cq 119 [Tx.oI v] (Tx.oI v):=by
 exact aj [kp (show Tx.au v≠[]from zO),kY,kv 7 (show Am.aF (AV.aU 0 0 0 (0+length (Tx.au v))) (AV.aU 0 0 0 v.length)from(aF.of_eq (by simp[Go.Tx.ay,Go.Tx.bJ,Go.Tx.bK]))),ko (bC.Gu (Tx.au v)),kp fF,vV ((0+length (Tx.au v))*88) (by simp only[yD,yE,y11,y10,Go.Tx.ay,Go.Tx.bJ,Go.Tx.bK]<;>omega),kq 0,XV v.length (Tx.au v) (by simp only[yD,yE,y11,y10,Go.Tx.ay,Go.Tx.bJ,Go.Tx.bK]<;>omega),kp (show length (Tx.au v)=length v from(Go.Tx.ay _)),kp (show ∀(c:List AV),c∈Tx.au v->List.all c AV.fJ=true from(Go.Tx.bK _))]
theorem aiG(cap:Nat):Cq 119 [.lit (.slice none 0 cap)] (Tx.oI []) :=
 ak.out (aj [kt (Eq.refl true)]) (aF.nil 11)
theorem aiH(a:Addr)(cap:Nat):Cq 119 [.lit (.slice (some a) 0 cap)] (Tx.oI []) :=
 ak.out (aj [kf (Eq.refl false),ko .LV,kp (rfl:([]:List (List AV))=[])]) (aF.oP 11 true [])
theorem aiI(v:List Tx.MK)(hv:v.length<=1000000):Cq 119 [Tx.oI v] (Tx.oI v):=by
 cases v with
 |nil=>exact ak.wY aiG aiH
 |cons c v=>exact aiF (c::v) hv (by simp[Tx.au]) trivial
structure XW(f:FD):Prop where
 ce:f.ce.length<=1000000
 bi:f.bi.length<=1000000
 ta:f.ta.length<=1000000
 tc:f.tc.length<=1000000
 tm:f.tm.length<=1000000
theorem XY(f:FD)(h:XW f):Cq 42 [.agg (jB f)] (.agg (jB f)) :=
 amE f (aiA _ h.ta) (Sq.up (Sq.uJ _ h.ce)) (aiE _ h.bi) (Sq.up (Sq.uJ _ h.tc)) (aiI _ h.tm) trivial
end Go.Dc
namespace Go.Tx
open Go Go.Am Go.Proofs Go.eY
open Go.Sq (CE nP bZ oO vM fX U2)
theorem wX(v:List CE)(a b c:Int)(hv:v.length<=1000000000):Cq 34 [bZ v,oO a b c] (.bq [int (U2 (fX (vM a b c) v)).1,bool (U2 (fX (vM a b c) v)).2]):=JZ (Sq.wX v a b c hv)
theorem aGp(a b:Int):Cq 125 [bH.eG (a,b)] (bool (bH.gQ (a,b))):=JZ (bH.aBB a b)
def nD(a b:MK):Bool:=if a.tm≠b.tm then decide (a.tm<b.tm)else if a.dv≠b.dv then decide (a.dv<b.dv)else decide (a.sq<b.sq)
def gJ(x y:Int):Int:=if x<y then -1 else if x>y then 1 else 0
def Ar:List Int->Int
 |[]=>0
 |x::t=>if x=0 then Ar t else x
def yc(a b:MK):Int:=Ar [gJ a.tm b.tm,gJ a.dv b.dv,gJ a.sq b.sq]
theorem aEQ(a b:MK)(r:Bool)(h:(((MK.tm a=MK.tm b)->(((MK.dv a=MK.dv b)->(decide (MK.sq a<MK.sq b))=(r))/\((¬MK.dv a=MK.dv b)->(decide (MK.dv a<MK.dv b))=(r))))/\((¬MK.tm a=MK.tm b)->(decide (MK.tm a<MK.tm b))=(r)))):Cq 230 [EC a,EC b] (Am.bool r):=by
 by_cases c1:(MK.tm a=MK.tm b)
 .have h:=h.1 c1;have bS:(MK.tm a != MK.tm b)=false:=(y27 (beq_iff_eq.2 c1));by_cases c2:(MK.dv a=MK.dv b)
  .have h:=h.1 c2;have e1:=h;exact aA (aF.aI e1) [kf bS,kf (show(MK.dv a != MK.dv b)=false from(y27 (beq_iff_eq.2 c2)))] zQ
  .have h:=h.2 c2;have e1:=h;exact aA (aF.aI e1) [kf bS,kt (show(MK.dv a != MK.dv b)=true from(y27 (beq_eq_false_iff_ne.2 c2)))] zQ
 .have h:=h.2 c1;have e1:=h;exact aA (aF.aI e1) [kt (show(MK.tm a != MK.tm b)=true from(y27 (beq_eq_false_iff_ne.2 c1)))] zQ
theorem aBj(a b:MK):Cq 230 [EC a,EC b] (bool (nD a b)):=aEQ a b _ (by
 unfold nD;grind)
theorem CX(x:Int)(h:(x != x)=(false)):Cq 216 [int x] (Am.bool false):=by
 have e1:=h;exact aA (aF.aI e1) [] zQ
theorem QX(x y v:Int)(hx:Cq 216 [int x] (bool false))(hy:Cq 216 [int y] (bool false))(h:(((x<y)->(-1:Int)=(v))/\((¬x<y)->(((x>y)->(1:Int)=(v))/\((¬x>y)->(0:Int)=(v)))))):Cq 121 [int x,int y] (int v):=by
 have bS:=(@hx );have fT:=(@hy );by_cases c1:(x<y)
 .have h:=h.1 c1;have e1:=h;exact aA (aF.int_eq e1) [kc [] bS,kc [] fT,kf (Eq.refl false),kf (Eq.refl false),kt (y15 c1)] zQ
 .have h:=h.2 c1;by_cases c2:(x>y)
  .have h:=h.1 c2;have e1:=h;exact aA (aF.int_eq e1) [kc [] bS,kc [] fT,kf (Eq.refl false),kf (Eq.refl false),kf (y16 c1),kt (y15 c2)] zQ
  .have h:=h.2 c2;have e1:=h;exact aA (aF.int_eq e1) [kc [] bS,kc [] fT,kf (Eq.refl false),kf (Eq.refl false),kf (y16 c1),kf (y16 c2)] zQ
theorem wZ(x y:Int):Cq 121 [int x,int y] (int (gJ x y)):=QX x y _ (CX x zS) (CX y zS) (by
 unfold gJ;grind)
def H7(l:List Int)(k:Nat):St:={ aL:=aC 18 [(2,int 0),(3,int 0),(6,.sl 1 true (bH.ql l)),(7,int l.length),(8,int k)],H:=[] }
theorem XZ(l:List Int)(k:Nat)(hl:l.length<=1000000)(ex:bF)(r:Int)(h:((((↑k:Int)<(↑(length l):Int))->(∃x2:Int,(l[k]?=some x2)/\(((x2=(0:Int))->Rq 0 120 0 (sM 18 [(2,int 0),(3,int 0),(6,.sl 1 true (bH.ql l)),(7,int (↑(length l):Int)),(8,int (↑(k+1):Int))] []) ex (sM 18 [(2,int r),(3,int 0)] []))/\((¬x2=(0:Int))->(bF.ret=ex)/\((x2:Int)=(r))))))/\((¬(↑k:Int)<(↑(length l):Int))->(bF.exit 0=ex)/\((0:Int)=(r))))):Rq 0 120 0 (H7 l k) ex (sM 18 [(2,int r),(3,int 0)] []):=by
 by_cases c1:((↑k:Int)<(↑(length l):Int))
 .have h:=h.1 c1;obtain⟨x2,o3,h⟩:=h;have bS:(0:Int)<=(↑k:Int)/\(bH.ql l)[Int.toNat (↑k:Int)]?=some (bH.LW x2):=(bG o3);by_cases c4:(x2=(0:Int))
  .have h:=h.1 c4;exact aJ [kt (y15 c1),ko (bC.elem (bH.LW x2)),kp bS,kf (show(x2 != 0)=false from(y27 (beq_iff_eq.2 c4))),kv 16 (show Am.aF (int (IntKind.wrap IntKind.i64 ((↑k:Int)+1))) (int (↑(k+1):Int))from(aF.TJ zO zO zO))] (aB 18 [2,3,6,7,8]) 0 h zQ
  .have h:=h.2 c4;obtain⟨eX,e1⟩:=h;exact bN.to ((show Rq 0 120 0 (H7 l k) bF.ret (sM 18 [(2,int x2),(3,int 0)] [])from aG [kt (y15 c1),ko (bC.elem (bH.LW x2)),kp bS,kt (show(x2 != 0)=true from(y27 (beq_eq_false_iff_ne.2 c4)))] (aB 18 [2,3]) 0 zQ)) eX (eB.aC ⟨rfl,(aF.int_eq e1),rfl,y29,yO⟩)
 .have h:=h.2 c1;obtain⟨eX,e1⟩:=h;exact bN.to ((show Rq 0 120 0 (H7 l k) (bF.exit 0) (sM 18 [(2,int 0),(3,int 0)] [])from aG [kf (y16 c1)] (aB 18 [2,3]) 0 zQ)) eX (eB.aC ⟨rfl,(aF.int_eq e1),rfl,y29,yO⟩)
theorem Gw(l:List Int)(hl:l.length<=1000000):∀(m k:Nat),l.length-k=m->k<=l.length->Rq 0 120 0 (H7 l k) (if Ar (l.drop k)=0 then .exit 0 else .ret) { aL:=aC 18 [(2,int (Ar (l.drop k))),(3,int 0)],H:=[] }:=by
 intro m
 induction m with
 |zero =>
  intro k hm hk;have e:l.drop k=[]:=y17 zO;rw[e];exact XZ l k hl _ _ ⟨fun h=>absurd h zO,fun _=>⟨rfl,rfl⟩⟩
 |succ m ih =>
  intro k hm hk;have bg:k<l.length:=zO
  have e:=y01 bg;refine XZ l k hl _ _ ⟨fun _=>⟨l[k],yA bg,⟨fun h0=>?_,fun h0=>?_⟩⟩,fun h=>absurd bg zO⟩
  .have:Ar (l.drop k)=Ar (l.drop (k+1)):=by rw[e,Ar,yL h0]
   rw[this];exact ih (k+1) zO zO
  .have:Ar (l.drop k)=l[k]:=by rw[e,Ar,yK h0]
   rw[this,yK h0];exact⟨rfl,rfl⟩
theorem ab0(l:List Int)(r:Int)(hL:Rq 0 120 0 (H7 l 0) (if r=0 then .exit 0 else .ret) { aL:=aC 18 [(2,int r),(3,int 0)],H:=[] })(h:(((r=(0:Int))->(0:Int)=(r))/\((¬r=(0:Int))->True))):Cq 120 [AV.sl 1 true (bH.ql l)] (int r):=by
 have bS:Am.aF (int (↑(length (bH.ql l)):Int)) (int (↑(length l):Int)):=(aF.of_eq (by simp only[Go.bH.kD]));by_cases c1:(r=(0:Int))
 .have h:=h.1 c1;have e1:=h;exact aA (aF.int_eq e1) [kv 7 bS,kl [0,1,4,5,9,10,11,12,13,14,15,16,17] 0 (show Rq 0 120 0 (sM 18 [(2,int 0),(3,int 0),(6,.sl 1 true (bH.ql l)),(7,int (↑(length l):Int)),(8,int 0)] []) (bF.exit 0) (sM 18 [(2,int r),(3,int 0)] [])from(by have h0:=(@hL );simp only[yL c1]at h0;exact h0))] zQ
 .have h:=h.2 c1;have _:=h;exact aj [kv 7 bS,kl [0,1,4,5,9,10,11,12,13,14,15,16,17] 0 (show Rq 0 120 0 (sM 18 [(2,int 0),(3,int 0),(6,.sl 1 true (bH.ql l)),(7,int (↑(length l):Int)),(8,int 0)] []) bF.ret (sM 18 [(2,int r),(3,int 0)] [])from(by have h0:=(@hL );simp only[yK c1]at h0;exact h0))] zQ
theorem X0(a b c:Int):Cq 120 [.sl 1 true [[int a],[int b],[int c]]] (int (Ar [a,b,c])) :=
 ab0 [a,b,c] _ (by have:=Gw [a,b,c] zS 3 0 rfl zS;exact this) ⟨fun h=>h.symm,fun _=>trivial⟩
theorem ab1(a b:MK)(h:True):Cq 249 [EC a,EC b] (int (yc a b)):=by
 have _:=h;exact aj [kc [] (@Go.Tx.wZ (MK.tm a) (MK.tm b)),kc [] (@Go.Tx.wZ (MK.dv a) (MK.dv b)),kc [] (@Go.Tx.wZ (MK.sq a) (MK.sq b)),kc [] (@Go.Tx.X0 (gJ (MK.tm a) (MK.tm b)) (gJ (MK.dv a) (MK.dv b)) (gJ (MK.sq a) (MK.sq b)))] zQ
theorem wW(a b:MK):Cq 249 [EC a,EC b] (int (yc a b)):=ab1 a b trivial
theorem LX a b:yc a b<0↔nD a b=true:=by grind[yc,nD,Ar,gJ]
theorem TB a b:yc a b>=0↔nD a b=false:=by
 have:=LX a b;grind
def F8(l:List CE)(m:MK):Bool:=(fX (vM m.fd m.fs m.fa) l).isSome&&(fX (vM m.td m.ts m.ta) l).isSome&&bH.gQ (m.dv,m.sq)&&decide (m.tm>=1)&&decide (m.tm<=1099511627776)&&decide (m.st>=0)&&decide (m.st<16)
theorem ab2 a b:bH.eZ [(a,b)]=if bH.gQ (a,b)=true then 0 else 120:=by
 unfold bH.eZ bH.Cw;simp[bH.y9,bH.jh]
theorem aiJ(a b:Int):Cq 61 [.sl 2 true [[int a,int b]]] (int (if bH.gQ (a,b)=true then 0 else 120)):=by
 have:=JZ (bH.fG [(a,b)] zS);rw[ab2]at this;refine this.args rfl fun j hj=>?_;have:j<1:=hj;obtain rfl:j=0:=zO
 exact aF.oP 2 true _
theorem X3 o:(U2 o).2=o.isSome:=by cases o<;>rfl
theorem afr(l:List CE)(m:MK)(hv:l.length<=1000000000)(f t:Int)(fb tb:Bool)(e:Int)(hf:Cq 34 [bZ l,oO m.fd m.fs m.fa] (.bq [int f,bool fb]))(ht:Cq 34 [bZ l,oO m.td m.ts m.ta] (.bq [int t,bool tb]))(hd:Cq 61 [.sl 2 true [[int m.dv,int m.sq]]] (int e))(r:Bool)(h:((((fb)=true)->((((tb)=true)->(((e=(0:Int))->(((MK.tm m>=(1:Int))->(((MK.tm m<=(1099511627776:Int))->(((MK.st m>=(0:Int))->(decide (MK.st m<(16:Int)))=(r))/\((¬MK.st m>=(0:Int))->(false)=(r))))/\((¬MK.tm m<=(1099511627776:Int))->(false)=(r))))/\((¬MK.tm m>=(1:Int))->(false)=(r))))/\((¬e=(0:Int))->(false)=(r))))/\(((tb)=false)->(false)=(r))))/\(((fb)=false)->(false)=(r)))):Cq 248 [bZ l,EC m] (Am.bool r):=by
 have bS:=(@hf );have fT:=(@ht );have jw:=(@hd );rcases y00 ((fb))with c1|c1
 .have h:=h.1 c1;rcases y00 ((tb))with c2|c2
  .have h:=h.1 c2;by_cases c3:(e=(0:Int))
   .have h:=h.1 c3;by_cases c4:(MK.tm m>=(1:Int))
    .have h:=h.1 c4;by_cases c5:(MK.tm m<=(1099511627776:Int))
     .have h:=h.1 c5;by_cases c6:(MK.st m>=(0:Int))
      .have h:=h.1 c6;have e1:=h;exact aA (aF.aI e1) [kc [] bS,kc [] fT,kt c1,kt c2,kc [] jw,kt (beq_iff_eq.2 c3),kt (y15 c4),kt (y15 c5),kt (y15 c6)] zQ
      .have h:=h.2 c6;have e1:=h;exact aA (aF.aI e1) [kc [] bS,kc [] fT,kt c1,kt c2,kc [] jw,kt (beq_iff_eq.2 c3),kt (y15 c4),kt (y15 c5),kf (y16 c6)] zQ
     .have h:=h.2 c5;have e1:=h;exact aA (aF.aI e1) [kc [] bS,kc [] fT,kt c1,kt c2,kc [] jw,kt (beq_iff_eq.2 c3),kt (y15 c4),kf (y16 c5),kf (Eq.refl false)] zQ
    .have h:=h.2 c4;have e1:=h;exact aA (aF.aI e1) [kc [] bS,kc [] fT,kt c1,kt c2,kc [] jw,kt (beq_iff_eq.2 c3),kf (y16 c4),kf (Eq.refl false),kf (Eq.refl false)] zQ
   .have h:=h.2 c3;have e1:=h;exact aA (aF.aI e1) [kc [] bS,kc [] fT,kt c1,kt c2,kc [] jw,kf (beq_eq_false_iff_ne.2 c3),kf (Eq.refl false),kf (Eq.refl false),kf (Eq.refl false)] zQ
  .have h:=h.2 c2;have e1:=h;exact aA (aF.aI e1) [kc [] bS,kc [] fT,kt c1,kf c2,kf (Eq.refl false),kf (Eq.refl false),kf (Eq.refl false),kf (Eq.refl false)] zQ
 .have h:=h.2 c1;have e1:=h;exact aA (aF.aI e1) [kc [] bS,kc [] fT,kf c1,kf (Eq.refl false),kf (Eq.refl false),kf (Eq.refl false),kf (Eq.refl false),kf (Eq.refl false)] zQ
theorem LY(l:List CE)(m:MK)(hv:l.length<=1000000000):Cq 248 [bZ l,EC m] (bool (F8 l m)):=by
 refine afr l m hv _ _ _ _ _ (wX l m.fd m.fs m.fa hv) (wX l m.td m.ts m.ta hv) (aiJ m.dv m.sq) _ ?_;simp only[X3,F8];grind
def nE:Option Nat->Int
 |some k=>(k:Int)
 |none => -1
def ixP(l:List CE)(i:Sq.ID):Int:=nE (fX (vM i.1 i.2.1 i.2.2) l)
def aDg(l:List CE)(a b c:Int)(k:Nat):St:={ aL:=aC 20 [(0,bZ l),(3,.ptr 0 0),(4,int 0),(5,int k)],H:=[.box [int a,int b,int c]] }
theorem aHr(l:List CE)(a b c:Int)(k:Nat)(hv:l.length<=1000000000)(ex:bF)(r:Int)(h:((((↑k:Int)<(↑(length l):Int))->(∃x2:CE,(l[k]?=some x2)/\((((CE.dv x2==a&&(CE.sq x2==b&&CE.gU x2==c))=true)->(bF.ret=ex)/\(((↑k:Int):Int)=(r)))/\(((CE.dv x2==a&&(CE.sq x2==b&&CE.gU x2==c))=false)->Rq 0 228 0 (sM 20 [(0,.sl 9 false (Sq.au l)),(3,.ptr 0 0),(4,int 0),(5,int (↑(k+1):Int))] [.box [int a,int b,int c]]) ex (sM 20 [(4,int r)] [.box [int a,int b,int c]])))))/\((¬(↑k:Int)<(↑(length l):Int))->(bF.exit 0=ex)/\((0:Int)=(r))))):Rq 0 228 0 (aDg l a b c k) ex (sM 20 [(4,int r)] [.box [int a,int b,int c]]):=by
 have bS:Am.aF (int (↑(length (Sq.au l)):Int)) (int (↑(length l):Int)):=(aF.of_eq (by simp only[Go.Sq.ay]));by_cases c1:((↑k:Int)<(↑(length l):Int))
 .have h:=h.1 c1;obtain⟨x2,o3,h⟩:=h;have fT:(0:Int)<=(↑k:Int)/\(Sq.au l)[Int.toNat (↑k:Int)]?=some (Sq.aQ x2):=(bG o3);rcases y00 ((CE.dv x2==a&&(CE.sq x2==b&&CE.gU x2==c)))with c4|c4
  .have h:=h.1 c4;obtain⟨eX,e1⟩:=h;exact bN.to ((show Rq 0 228 0 (aDg l a b c k) bF.ret (sM 20 [(4,int (↑k:Int))] [.box [int a,int b,int c]])from aG [kv 8 bS,kt (y15 c1),ko (bC.elem (Sq.aQ x2)),kp fT,kt c4] (aB 20 [4]) 1 zQ)) eX (eB.aC ⟨rfl,(aF.int_eq e1),yO⟩)
  .have h:=h.2 c4;exact aJ [kv 8 bS,kt (y15 c1),ko (bC.elem (Sq.aQ x2)),kp fT,kf c4,kv 11 (show Am.aF (int (IntKind.wrap IntKind.i64 ((↑k:Int)+1))) (int (↑(k+1):Int))from(aF.TJ zO zO zO))] (aB 20 [0,3,4,5]) 1 h zQ
 .have h:=h.2 c1;obtain⟨eX,e1⟩:=h;exact bN.to ((show Rq 0 228 0 (aDg l a b c k) (bF.exit 0) (sM 20 [(4,int 0)] [.box [int a,int b,int c]])from aG [kv 8 bS,kf (y16 c1)] (aB 20 [4]) 1 zQ)) eX (eB.aC ⟨rfl,(aF.int_eq e1),yO⟩)
theorem aER(l:List CE)(a b c:Int)(hv:l.length<=1000000000):∀n k,l.length-k=n->k<=l.length->Rq 0 228 0 (aDg l a b c k) (if(Sq.fI (vM a b c) l n k).isSome=true then .ret else .exit 0) { aL:=aC 20 [(4,int (match Sq.fI (vM a b c) l n k with|some j=>(j:Int)|none=>0))],H:=[.box [int a,int b,int c]] }:=by
 intro n
 induction n with
 |zero=>intro k hn hk;exact aHr l a b c k hv _ _ ⟨fun h=>absurd h zO,fun _=>⟨rfl,rfl⟩⟩
 |succ n ih =>
  intro k hn hk;have bg:k<l.length:=zO
  have hx:l[k]?=some l[k]:=yA bg;refine aHr l a b c k hv _ _ ⟨fun h=>⟨l[k],hx,⟨fun hq=>?_,fun hq=>?_⟩⟩,fun h=>absurd bg zO⟩
  .rw [Sq.agv (p:=vM a b c) hx hq];exact⟨rfl,rfl⟩
  .rw [Sq.akM (p:=vM a b c) hx hq];exact ih (k+1) zO zO
theorem aDh(l:List CE)(a b c:Int)(hv:l.length<=1000000000):Rq 0 228 0 (aDg l a b c 0) (if(fX (vM a b c) l).isSome=true then .ret else .exit 0) { aL:=aC 20 [(4,int (match fX (vM a b c) l with|some j=>(j:Int)|none=>0))],H:=[.box [int a,int b,int c]] }:=aER l a b c hv l.length 0 zO zO
theorem aDi(l:List CE)(a b c:Int)(r:Int)(hv:l.length<=1000000000)(h:(((Option.isSome (fX (vM a b c) l)=true)->(match fX (vM a b c) l with
|some j=>(↑j:Int)
|none=>0:Int)=(r))/\((¬Option.isSome (fX (vM a b c) l)=true)->(-1:Int)=(r)))):Cq 228 [bZ l,oO a b c] (int r):=by
 by_cases c1:(Option.isSome (fX (vM a b c) l)=true)
 .have h:=h.1 c1;have e1:=h;exact aA (aF.int_eq e1) [kl [1,2,6,7,8,9,10,11,12,13,14,15,16,17,18,19] 1 (show Rq 0 228 0 (sM 20 [(0,.sl 9 false (Sq.au l)),(3,.ptr 0 0),(4,int 0),(5,int 0)] [.box [int a,int b,int c]]) bF.ret
 (St.mk
  (aC 20
   [(4,
    int
     (match fX (vM a b c) l with
     |some j=>(↑j:Int)
     |none=>0))])
  [ah.box [int a,int b,int c]] [])from(by have h0:=(@Go.Tx.aDh (l) (a) (b) (c) zO);simp only[yL c1]at h0;exact h0))] zQ
 .have h:=h.2 c1;have e1:=h;exact aA (aF.int_eq e1) [kl [1,2,6,7,8,9,10,11,12,13,14,15,16,17,18,19] 1 (show Rq 0 228 0 (sM 20 [(0,.sl 9 false (Sq.au l)),(3,.ptr 0 0),(4,int 0),(5,int 0)] [.box [int a,int b,int c]]) (bF.exit 0)
 (St.mk
  (aC 20
   [(4,
    int
     (match fX (vM a b c) l with
     |some j=>(↑j:Int)
     |none=>0))])
  [ah.box [int a,int b,int c]] [])from(by have h0:=(@Go.Tx.aDh (l) (a) (b) (c) zO);simp only[yK c1]at h0;exact h0))] zQ
theorem aAj(l:List CE)(a b c:Int)(hv:l.length<=1000000000):Cq 228 [bZ l,oO a b c] (int (ixP l (a,b,c))):=by
 refine aDi l a b c _ hv ?_;unfold ixP;cases h:fX (vM a b c) l<;>simp[nE]
theorem aES(l:List CE)(m:MK)(hv:l.length<=1000000000)(f t:Int)(hf:Cq 228 [bZ l,oO m.fd m.fs m.fa] (int f))(ht:Cq 228 [bZ l,oO m.td m.ts m.ta] (int t))(d:Bool)(hd:Cq 125 [.agg [int m.dv,int m.sq]] (bool d))(r:Bool)(h:((((d)=true)->(((MK.tm m>=(1:Int))->(((MK.tm m<=(1099511627776:Int))->(((MK.st m>=(0:Int))->(((MK.st m<(16:Int))->(((f>=(0:Int))->(decide (t>=(0:Int)))=(r))/\((¬f>=(0:Int))->(false)=(r))))/\((¬MK.st m<(16:Int))->(false)=(r))))/\((¬MK.st m>=(0:Int))->(false)=(r))))/\((¬MK.tm m<=(1099511627776:Int))->(false)=(r))))/\((¬MK.tm m>=(1:Int))->(false)=(r))))/\(((d)=false)->(false)=(r)))):Cq 229 [bZ l,EC m] (Am.bool r):=by
 have bS:=(@hd );have fT:=(@hf );rcases y00 ((d))with c1|c1
 .have h:=h.1 c1;by_cases c2:(MK.tm m>=(1:Int))
  .have h:=h.1 c2;by_cases c3:(MK.tm m<=(1099511627776:Int))
   .have h:=h.1 c3;by_cases c4:(MK.st m>=(0:Int))
    .have h:=h.1 c4;by_cases c5:(MK.st m<(16:Int))
     .have h:=h.1 c5;by_cases c6:(f>=(0:Int))
      .have h:=h.1 c6;have e1:=h;exact aA (aF.aI e1) [kc [] bS,kt c1,kt (y15 c2),kt (y15 c3),kt (y15 c4),kt (y15 c5),kc [] fT,kt (y15 c6),kc [] (@ht )] zQ
      .have h:=h.2 c6;have e1:=h;exact aA (aF.aI e1) [kc [] bS,kt c1,kt (y15 c2),kt (y15 c3),kt (y15 c4),kt (y15 c5),kc [] fT,kf (y16 c6)] zQ
     .have h:=h.2 c5;have e1:=h;exact aA (aF.aI e1) [kc [] bS,kt c1,kt (y15 c2),kt (y15 c3),kt (y15 c4),kf (y16 c5),kf (Eq.refl false)] zQ
    .have h:=h.2 c4;have e1:=h;exact aA (aF.aI e1) [kc [] bS,kt c1,kt (y15 c2),kt (y15 c3),kf (y16 c4),kf (Eq.refl false),kf (Eq.refl false)] zQ
   .have h:=h.2 c3;have e1:=h;exact aA (aF.aI e1) [kc [] bS,kt c1,kt (y15 c2),kf (y16 c3),kf (Eq.refl false),kf (Eq.refl false),kf (Eq.refl false)] zQ
  .have h:=h.2 c2;have e1:=h;exact aA (aF.aI e1) [kc [] bS,kt c1,kf (y16 c2),kf (Eq.refl false),kf (Eq.refl false),kf (Eq.refl false),kf (Eq.refl false)] zQ
 .have h:=h.2 c1;have e1:=h;exact aA (aF.aI e1) [kc [] bS,kf c1,kf (Eq.refl false),kf (Eq.refl false),kf (Eq.refl false),kf (Eq.refl false),kf (Eq.refl false)] zQ
theorem aDj(o:Option Nat):(nE o>=0)↔o.isSome=true:=by cases o<;>simp[nE]
theorem aAk(l:List CE)(m:MK)(hv:l.length<=1000000000):Cq 229 [bZ l,EC m] (bool (F8 l m)):=by
 refine aES l m hv _ _ (aAj l m.fd m.fs m.fa hv) (aAj l m.td m.ts m.ta hv) _ (aGp m.dv m.sq) _ ?_;have h1:=aDj (fX (vM m.fd m.fs m.fa) l);have h2:=aDj (fX (vM m.td m.ts m.ta) l);simp only[F8,ixP];grind
def fO(a:Int):Prop := -9223372036854775808<=a/\a<9223372036854775808
structure OkM(m:MK):Prop where
 dv:fO m.dv
 sq:fO m.sq
 tm:fO m.tm
 fd:fO m.fd
 fs:fO m.fs
 fa:fO m.fa
 td:fO m.td
 ts:fO m.ts
 ta:fO m.ta
 st:fO m.st
def QY(v:List MK):Prop:=∀m∈v,OkM m
def jh(l:List CE)(v:List MK)(k:Nat):Bool:=match v[k]? with
 |some x=>F8 l x&&((k==0||match v[k-1]? with|some p=>nD p x|none=>false) && !((v.take k).any fun c=>decide (c.eG=x.eG)))
 |none=>true
def y9(l:List CE)(v:List MK):Nat->Nat->Bool
 |0,_=>true
 |n+1,k=>jh l v k&&y9 l v n (k+1)
def Cw(l:List CE)(v:List MK):Bool:=y9 l v v.length 0
def Ba(c:CE):Bool:=decide (c.vl.size=1)
theorem amF(c:CE)(r:Bool)(h:((↑(ByteArray.size c.vl):Int)!=1)=(r)):Cq 247 [nP c] (Am.bool r):=by
 exact aA (aF.aI h) []
theorem amG(c:CE):Cq 247 [nP c] (bool (!Ba c)):=amF c _ (by
 unfold Ba;grind)
def U3(v:List CE)(k:Nat):St:={ aL:=aC 19 [(0,bZ v),(1,.lit (.func (.func 247) #[] #[])),(4,int 0),(6,bZ v),(7,int v.length),(8,int k)],H:=[] }
theorem afs(v:List CE)(k:Nat)(hv:v.length<=1000000000)(ex:bF)(r:Int)(h:((((k:Int)<(v.length:Int))->(∃x2:CE,(v[k]?=some x2)/\((((Ba x2)=true)->Rq 0 107 0 (sM 19 [(0,.sl 9 false (Sq.au v)),(1,iL 247),(4,int 0),(6,.sl 9 false (Sq.au v)),(7,int ↑v.length),(8,int ↑(k+1))] []) ex (sM 19 [(4,int r)] []))/\(((Ba x2)=false)->(bF.ret=ex)/\(((k:Int):Int)=(r))))))/\((¬(k:Int)<(v.length:Int))->(bF.exit 0=ex)/\(0=r)))):Rq 0 107 0 (U3 v k) ex (sM 19 [(4,int r)] []):=by
 by_cases c1:((k:Int)<(v.length:Int))
 .have h:=h.1 c1;obtain⟨x2,o3,h⟩:=h;have fT:=(@amG (x2));let l1:List fP:=[kt (qT c1),ke (Sq.aQ x2) (Sq.au v) k (bG o3),kc [] fT];rcases y00 ((Ba x2))with c4|c4
  .have h:=h.1 c4;exact aJ (l1++[kf (y27 (c4)),kW 18 (k+1) ↑(k+1)]) (aB 19 [0,1,4,6,7,8]) 0 h
  .have h:=h.2 c4;obtain⟨eX,e1⟩:=h;exact bN.to ((show Rq 0 107 0 (U3 v k) bF.ret (sM 19 [(4,int ↑k)] [])from aG (l1++[kt (show(!Ba x2)=true from(y27 (c4)))]) (aB 19 [4]) 0)) eX (eB.aC ⟨rfl,(aF.int_eq e1),yO⟩)
 .have h:=h.2 c1;obtain⟨eX,e1⟩:=h;exact bN.to ((show Rq 0 107 0 (U3 v k) (bF.exit 0) (sM 19 [(4,int 0)] [])from aG [kf (qF c1)] (aB 19 [4]) 0)) eX (eB.aC ⟨rfl,(aF.int_eq e1),yO⟩)
theorem ab3(v:List CE)(hv:v.length<=1000000000):∀n k,v.length-k=n->k<=v.length->∃j:Nat,Rq 0 107 0 (U3 v k) (if(v.drop k).all Ba=true then .exit 0 else .ret) { aL:=aC 19 [(4,int j)],H:=[] }:=by
 intro n
 induction n with
 |zero =>
  intro k hn hk;rw[y14 zO];exact⟨0,afs v k hv _ _ ⟨fun h=>absurd h zO,fun _=>⟨rfl,rfl⟩⟩⟩
 |succ n ih =>
  intro k hn hk;have bg:k<v.length:=zO
  obtain⟨j,hj⟩:=ih (k+1) zO zO;rw[y01 bg,all_cons];cases hb:Ba v[k]with
  |true =>
   rw[Bool.true_and];exact⟨j,afs v k hv _ _ ⟨fun _=>⟨v[k],yA bg,⟨fun _=>hj,fun h=>by rw[hb]at h;simp at h⟩⟩,fun h=>absurd bg zO⟩⟩
  |false =>
   rw[Bool.false_and];exact⟨k,afs v k hv _ _ ⟨fun _=>⟨v[k],yA bg,⟨fun h=>by rw[hb]at h;simp at h,fun _=>⟨rfl,rfl⟩⟩⟩,fun h=>absurd bg zO⟩⟩
theorem aiK(v:List CE)(j:Nat)(hL:Rq 0 107 0 (U3 v 0) .ret { aL:=aC 19 [(4,int j)],H:=[] })(h:True):Cq 107 [bZ v,.lit (Value.func (Fn.func 247) #[] #[])] (int ↑j):=by
 exact aj [kv 7 (show Am.aF (int (↑(length (Sq.au v)):Int)) (int ↑v.length)from(aF.of_eq (by simp only[Go.Sq.ay]))),kl (rG [(2,2),(5,1),(9,10)]) 0 hL]
theorem aiL(v:List CE)(j:Nat)(hL:Rq 0 107 0 (U3 v 0) (.exit 0) { aL:=aC 19 [(4,int j)],H:=[] })(h:True):Cq 107 [bZ v,.lit (Value.func (Fn.func 247) #[] #[])] (int (-1)):=by
 exact aj [kv 7 (show Am.aF (int (↑(length (Sq.au v)):Int)) (int ↑v.length)from(aF.of_eq (by simp only[Go.Sq.ay]))),kl (rG [(2,2),(5,1),(9,10)]) 0 hL]
theorem aeb(v:List CE)(j:Int)(r:Bool)(h0:Cq 107 [bZ v,.lit (.func (.func 247) #[] #[])] (int j))(h:(decide (j>=0))=(r)):Cq 239 [bZ v,.lit (Value.func (Fn.func 247) #[] #[])] (Am.bool r):=by
 exact aA (aF.aI h) [kc [] h0]
theorem BL(v:List CE)(hv:v.length<=1000000000):Cq 239 [bZ v,.lit (.func (.func 247) #[] #[])] (bool (!v.all Ba)):=by
 obtain⟨j,hj⟩:=ab3 v hv v.length 0 zO zO;rw[drop_zero]at hj;cases hb:v.all Ba with
 |true=>rw[hb,yL rfl]at hj;exact aeb v _ _ (aiL v j hj yO) zS
 |false=>rw[hb,yK zD]at hj;exact aeb v _ _ (aiK v j hj yO) zS
def fV(a b:Int):Value:=.agg #[.int .i64 a,.int .i64 b]
def fQ(v:List MK):List (Value×AV):=v.map fun x=>(fV x.dv x.sq,bool true)
theorem vW v:∀e∈fQ v,AV.bP 2 e.2=true:=by
 intro e he;obtain⟨x,_,rfl⟩:=yG.1 he;rfl
def nX(l:List CE)(v:List MK)(k:Nat)(pre:List MK):St:={ aL:=aC 55 [(1,.ptr 0 0),(4,.mp 1),(18,oI v),(19,int v.length),(20,int k)],H:=[.box [bZ l,oI v],.map (fQ pre)] }
def ckO:St:={ aL:=aC 55 [],H:=[.aH,.aH] }
def U4(r:Int):St:={ aL:=aC 55 [(2,int r)],H:=[.aH,.aH] }
theorem aft(l:List CE)(v:List MK)(k:Nat)(x:MK)(pre:List MK)(hl:l.length<=1000000000)(hv:v.length<=1000000000)(hk:(k:Int)<(v.length:Int))(hx:v[k]?=some x)(hm:bT P 27 (fQ pre) (fV x.dv x.sq) (bool false) (bool true) true)(h:True):Rq 0 163 0 (nX l v k pre) bF.ret (U4 160):=by
 exact bN.to (bN.qm ((show Rq 0 163 0 (nX l v k pre) bF.ret (sM 55 [(2,int 160)] [.box [.sl 9 false (Sq.au l),.sl 11 false (au v)],.map (fQ pre)])from aG [ki ((k:Int)<v.length),ko (bC.elem (aQ x)),ko (bC.lJ (Am.bool true) true),kp (show(0:Int)<=(k:Int)/\(au v)[Int.toNat (k:Int)]?=some (aQ x)from(bG hx)),kp hm,kO,kO,kO,kp (show ∀(e:Value×AV),e∈fQ pre->AV.bP 2 e.2=true from(vW _))] (aB 55 [2]) 2)) (by exact⟨.inr yO,.inr yO,yO⟩)) rfl (eB.aC ⟨rfl,y29,yO⟩)
theorem afu(l:List CE)(v:List MK)(k:Nat)(x:MK)(pre:List MK)(hl:l.length<=1000000000)(hv:v.length<=1000000000)(hk:(k:Int)<(v.length:Int))(hx:v[k]?=some x)(hq:F8 l x=false)(hm:bT P 27 (fQ pre) (fV x.dv x.sq) (bool false) (bool false) false)(h:True):Rq 0 163 0 (nX l v k pre) bF.ret (U4 160):=by
 exact bN.to (bN.qm ((show Rq 0 163 0 (nX l v k pre) bF.ret (sM 55 [(2,int 160)] [.box [.sl 9 false (Sq.au l),.sl 11 false (au v)],.map (fQ pre)])from aG [ki ((k:Int)<v.length),ko (bC.elem (aQ x)),ko (bC.lJ (Am.bool false) false),kp (show(0:Int)<=(k:Int)/\(au v)[Int.toNat (k:Int)]?=some (aQ x)from(bG hx)),kp hm,kY,kc [] (@LY (l) (x) zO),kt (show(!F8 l x)=true from(y27 (hq))),kO,kp (show ∀(e:Value×AV),e∈fQ pre->AV.bP 2 e.2=true from(vW _))] (aB 55 [2]) 2)) (by exact⟨.inr yO,.inr yO,yO⟩)) rfl (eB.aC ⟨rfl,y29,yO⟩)
theorem afv(l:List CE)(v:List MK)(k:Nat)(pre:List MK)(hv:v.length<=1000000000)(hk:¬(k:Int)<(v.length:Int))(h:True):Rq 0 163 0 (nX l v k pre) (bF.exit 0) ckO:=by
 exact bN.to (bN.qm ((show Rq 0 163 0 (nX l v k pre) (bF.exit 0) (sM 55 [] [.box [.sl 9 false (Sq.au l),.sl 11 false (au v)],.map (fQ pre)])from aG [kj ((k:Int)<v.length)] (aB 55 []) 2)) (by exact⟨.inr yO,.inr yO,yO⟩)) rfl (eB.aC yO)
theorem afw(l:List CE)(v:List MK)(k:Nat)(x:MK)(pre:List MK)(hl:l.length<=1000000000)(hv:v.length<=1000000000)(hk:(k:Int)<(v.length:Int))(hx:v[k]?=some x)(hq:F8 l x=true)(hs:(k:Int)>0)(hm:bT P 27 (fQ pre) (fV x.dv x.sq) (bool false) (bool false) false)(hp:jm P 27 (fQ pre) (fV x.dv x.sq) (bool true) (fQ (pre++[x])))(h:(∃x3:MK,((0:Int)<=(k:Int)-1/\v[Int.toNat ((k:Int)-1)]?=some x3)/\(((yc x3 x>=0)->True)/\((¬yc x3 x>=0)->Rq 0 163 0 (sM 55 [(1,.ptr 0 0),(4,.mp 1),(18,.sl 11 false (au v)),(19,int ↑v.length),(20,int ↑(k+1))] [.box [.sl 9 false (Sq.au l),.sl 11 false (au v)],.map (fQ (pre++[x]))]) bF.ret (U4 160))))):Rq 0 163 0 (nX l v k pre) bF.ret (U4 160):=by
 have x9:=(@LY (l) (x) zO);obtain⟨x3,o4,h⟩:=h;have Qy:=(@wW (x3) (x));let l1:List fP:=[ki ((k:Int)<v.length),ko (bC.elem (aQ x)),ko (bC.lJ (Am.bool false) false),kp (show(0:Int)<=(k:Int)/\(au v)[Int.toNat (k:Int)]?=some (aQ x)from(bG hx)),kp hm,kY,kc [] x9,kf (y27 (hq)),ki ((k:Int)>0),kW 43 ((k:Int)-1) ((k:Int)-1),ko (bC.elem (aQ x3)),kp (show(0:Int)<=(k:Int)-1/\(au v)[Int.toNat ((k:Int)-1)]?=some (aQ x3)from(qU o4)),kc [] Qy];by_cases c5:(yc x3 x>=0)
 .have h:=h.1 c5;exact bN.to (bN.qm ((show Rq 0 163 0 (nX l v k pre) bF.ret (sM 55 [(2,int 160)] [.box [.sl 9 false (Sq.au l),.sl 11 false (au v)],.map (fQ pre)])from aG (l1++[kt (qT c5),kp (show ∀(e:Value×AV),e∈fQ pre->AV.bP 2 e.2=true from(vW _))]) (aB 55 [2]) 2)) (by exact⟨.inr yO,.inr yO,yO⟩)) rfl (eB.aC ⟨rfl,y29,yO⟩)
 .have h:=h.2 c5;exact aJ (l1++[kf (qF c5),ko (bC.wT (fQ (pre++[x]))),kp hp,kW 54 (k+1) ↑(k+1),kp (show ∀(e:Value×AV),e∈fQ (pre++[x])->AV.bP 2 e.2=true from(vW _))]) (aB 55 [1,4,18,19,20]) 2 h
theorem LZ(l:List CE)(v:List MK)(k:Nat)(x:MK)(pre:List MK)(hl:l.length<=1000000000)(hv:v.length<=1000000000)(hk:(k:Int)<(v.length:Int))(hx:v[k]?=some x)(hq:F8 l x=true)(hm:bT P 27 (fQ pre) (fV x.dv x.sq) (bool false) (bool false) false)(hp:jm P 27 (fQ pre) (fV x.dv x.sq) (bool true) (fQ (pre++[x])))(ex:bF)(s:St)(h:((((k:Int)>0)->(∃x3:MK,((0:Int)<=(k:Int)-1/\v[Int.toNat ((k:Int)-1)]?=some x3)/\(((yc x3 x>=0)->(bF.ret=ex)/\(sM 55 [] [.box [.sl 9 false (Sq.au l),.sl 11 false (au v)],.map (fQ pre)]=s))/\((¬yc x3 x>=0)->Rq 0 163 0 (sM 55 [(1,.ptr 0 0),(4,.mp 1),(18,.sl 11 false (au v)),(19,int ↑v.length),(20,int ↑(k+1))] [.box [.sl 9 false (Sq.au l),.sl 11 false (au v)],.map (fQ (pre++[x]))]) ex s))))/\((¬(k:Int)>0)->Rq 0 163 0 (sM 55 [(1,.ptr 0 0),(4,.mp 1),(18,.sl 11 false (au v)),(19,int ↑v.length),(20,int ↑(k+1))] [.box [.sl 9 false (Sq.au l),.sl 11 false (au v)],.map (fQ (pre++[x]))]) ex s))):Rq 0 163 0 (nX l v k pre) ex s:=by
 have x9:=(@LY (l) (x) zO);have Bb:∀(e:Value×AV),e∈fQ (pre++[x])->AV.bP 2 e.2=true:=(vW _);let l1:List fP:=[ki ((k:Int)<v.length),ko (bC.elem (aQ x)),ko (bC.lJ (Am.bool false) false),kp (show(0:Int)<=(k:Int)/\(au v)[Int.toNat (k:Int)]?=some (aQ x)from(bG hx)),kp hm,kY,kc [] x9,kf (y27 (hq))];by_cases c2:((k:Int)>0)
 .have h:=h.1 c2;obtain⟨x3,o4,h⟩:=h;have H6:=(@wW (x3) (x));let l2:List fP:=l1++[kt (qT c2),kW 43 ((k:Int)-1) ((k:Int)-1),ko (bC.elem (aQ x3)),kp (show(0:Int)<=(k:Int)-1/\(au v)[Int.toNat ((k:Int)-1)]?=some (aQ x3)from(qU o4)),kc [] H6];by_cases c5:(yc x3 x>=0)
  .have h:=h.1 c5;obtain⟨eX,eS⟩:=h;exact bN.to ((aG (l2++[kt (qT c5),kp (show ∀(e:Value×AV),e∈fQ pre->AV.bP 2 e.2=true from(vW _))]) (aB 55 []) 2)) eX (eB.of_eq eS)
  .have h:=h.2 c5;exact aJ (l2++[kf (qF c5),ko (bC.wT (fQ (pre++[x]))),kp hp,kW 54 (k+1) ↑(k+1),kp Bb]) (aB 55 [1,4,18,19,20]) 2 h
 .have h:=h.2 c2;exact aJ (l1++[kf (qF c2),kY,ko (bC.wT (fQ (pre++[x]))),kp hp,kW 54 (k+1) ↑(k+1),kp Bb]) (aB 55 [1,4,18,19,20]) 2 h
end Go.Tx
namespace Go.Tx
open Go Go.Am Go.Proofs Go.eY
open Go.Sq (CE nP bZ oO vM fX U2 kQ jg)
def vC(t:TE):Int:=if jg t.cells≠0 then jg t.cells else if t.cells.all Ba=true then(if Cw t.cells t.bQ=true then 0 else 160)else 160
theorem fO.wf{n}(h:fO n):(Lit.int .i64 n).wf=true:=by
 unfold fO at h;simp[Lit.wf,IntKind.min,IntKind.signed,IntKind.bits];omega
theorem laid:laidOutB P=true:=zQ
theorem sz1:∃n,P.types.size=n+1:=by
 have h:1<=P.types.size:=Nat.le_of_ble_eq_true zQ;simp
theorem uG d{n}(h:fO n):P.keyLits (d+1) 3 [.int .i64 n]=some [.int .i64 n]:=by
 simp[Program.keyLits,h.wf]
theorem lD:Maps.Keyed P 27:=Maps.Keyed.of_law (deep_law_laid laid (m:=2) zD (Nat.le_of_ble_eq_true zQ) zQ zQ)
theorem uy{a b:Int}(ha:fO a)(hb:fO b):∃l,keyOf P 27 (fV a b)=some l:=by
 have h1:(P.keyType 27&&(fV a b).formed P 27)=true:=zQ
 have h2:P.keyLits (P.types.size+1) 27 (fV a b).cells.toList=([P.keyLits P.types.size 3 [.int .i64 a],P.keyLits P.types.size 3 [.int .i64 b]].mapM id).map flatten:=zQ
 obtain⟨n,hn⟩:=sz1;refine⟨.string (keyBytes [.int .i64 a,.int .i64 b]),?_⟩;unfold keyOf;rw[Tryz.underlying27];show(if(P.keyType 27&&(fV a b).formed P 27)=true then _ else none)=_;rw[yL h1,h2,hn,uG n ha,uG n hb];rfl
theorem nU{a b a' b'}(h:fV a b=fV a' b'):a=a'/\b=b':=by
 simp only[fV,Value.agg.injEq,Array.mk.injEq,List.cons.injEq,Value.int.injEq,true_and,and_true]at h;exact h
variable {v:List MK}
theorem sS(h:QY v):∀e∈fQ v,∃l,keyOf P 27 e.1=some l:=fun e he=>by
 obtain⟨x,hx,rfl⟩:=yG.1 he;exact uy (h x hx).dv (h x hx).sq
variable {x:MK}
theorem L6(h:QY v)(hx:OkM x)(hm:(v.any fun c=>decide (c.eG=x.eG))=true):bT P 27 (fQ v) (fV x.dv x.sq) (bool false) (bool true) true:=by
 obtain⟨y,hy,e⟩:=any_eq_true.1 hm;have e:=of_decide_eq_true e;refine⟨lD,uy hx.dv hx.sq,sS h,.inl ⟨rfl,yG.2 ⟨y,hy,?_⟩⟩⟩;simp only[MK.eG,Prod.mk.injEq]at e;rw[e.1,e.2]
theorem H8{v}(hm:(v.any fun c=>decide (c.eG=x.eG))=false):∀e∈fQ v,e.1≠fV x.dv x.sq:=fun e he hq=>by
 obtain⟨y,hy,rfl⟩:=yG.1 he;obtain⟨q1,q2⟩:=nU hq;have:=any_eq_false.1 hm y hy;rw[y05]at this;exact this (by rw[MK.eG,MK.eG,q1,q2])
theorem H9(h:QY v)(hx:OkM x)(hm:(v.any fun c=>decide (c.eG=x.eG))=false):bT P 27 (fQ v) (fV x.dv x.sq) (bool false) (bool false) false :=
 ⟨lD,uy hx.dv hx.sq,sS h,.inr ⟨rfl,rfl,H8 hm⟩⟩
theorem L8(h:QY v)(hx:OkM x)(hm:(v.any fun c=>decide (c.eG=x.eG))=false):jm P 27 (fQ v) (fV x.dv x.sq) (bool true) (fQ (v++[x])) :=
 ⟨lD,uy hx.dv hx.sq,sS h,.inr ⟨H8 hm,by simp[fQ]⟩⟩
theorem CY(v:List MK){i}(h:i<=v.length)(h0:(i:Int)>0):v[((i:Int)-1).toNat]?=some (v[i-1]'zO):=zS
theorem L9(l:List CE)(v:List MK)(hl:l.length<=1000000000)(hv:v.length<=1000000000)(hO:QY v):∀n k,v.length-k=n->k<=v.length->(y9 l v n k=true->Rq 0 163 0 (nX l v k (v.take k)) (.exit 0) ckO)/\(y9 l v n k=false->Rq 0 163 0 (nX l v k (v.take k)) .ret (U4 160)):=by
 intro n
 induction n with
 |zero=>intro k hn hk;exact⟨fun _=>afv l v k _ hv zO yO,fun h=>by cases h⟩
 |succ n ih =>
  intro k hn hk;have bg:k<v.length:=zO
  have hx:=yA bg;have e:y9 l v (n+1) k=(jh l v k&&y9 l v n (k+1)):=rfl;have QZ:QY (v.take k):=fun m hm=>hO m (mem_of_mem_take hm);have QO:=hO _ (y03 bg);rw[e];have ht:v.take (k+1)=v.take k++[v[k]]:=by rw[take_append_getElem]
  obtain⟨n1,n2⟩:=ih (k+1) zO zO;rw[ht]at n1 n2;cases hd:(v.take k).any fun c=>decide (c.eG=v[k].eG)with
  |true =>
   have e2:jh l v k=false:=by simp only[jh,hx,hd,Bool.not_true,Bool.and_false]
   rw[e2,Bool.false_and];exact⟨fun h=>by (cases h),fun _=>aft l v k _ _ hl hv zO hx (L6 QZ QO hd) (by first|trivial|grind)⟩
  |false =>
   have g:=H9 QZ QO hd;have p:=L8 QZ QO hd;cases hq:F8 l v[k]with
   |false =>
    have e2:jh l v k=false:=by simp only[jh,hx,hq,Bool.false_and]
    rw[e2,Bool.false_and];exact⟨fun h=>by (cases h),fun _=>afu l v k _ _ hl hv zO hx hq g (by first|trivial|grind)⟩
   |true =>
    by_cases h0:(k:Int)>0
    .have hy:=CY v hk h0;have hy':v[k-1]?=some (v[k-1]'zO):=yA zO;have U5:(k==0)=false:=by simp;omega
     cases hl':nD (v[k-1]'zO) v[k]with
     |false =>
      have e2:jh l v k=false:=by simp only[jh,hx,hy',hq,hl',U5,Bool.false_and,Bool.and_false,Bool.or_self]
      rw[e2,Bool.false_and];have hg:=(TB (v[k-1]'zO) v[k]).2 hl';exact⟨fun h=>by (cases h),fun _=>afw l v k _ _ hl hv zO hx hq h0 g p ⟨_,⟨zO,hy⟩,fun _=>trivial,fun h=>absurd hg h⟩⟩
     |true =>
      have e2:jh l v k=true:=by simp only[jh,hx,hy',hq,hl',hd,Bool.true_and,Bool.or_true,Bool.not_false,Bool.and_true]
      rw[e2,Bool.true_and];have hg:¬yc (v[k-1]'zO) v[k]>=0:=fun h=>by rw[(TB _ _).1 h]at hl';cases hl'
      exact⟨fun h=>LZ l v k _ _ hl hv zO hx hq g p _ _ ⟨fun _=>⟨_,⟨zO,hy⟩,fun h=>absurd h hg,fun _=>n1 h⟩,fun _=>n1 h⟩,fun h=>LZ l v k _ _ hl hv zO hx hq g p _ _ ⟨fun _=>⟨_,⟨zO,hy⟩,fun h=>absurd h hg,fun _=>n2 h⟩,fun _=>n2 h⟩⟩
    .have U5:(k==0)=true:=by simp;omega
     have e2:jh l v k=true:=by simp only[jh,hx,hq,U5,hd,Bool.true_and,Bool.true_or,Bool.not_false,Bool.and_true]
     rw[e2,Bool.true_and];exact⟨fun h=>LZ l v k _ _ hl hv zO hx hq g p _ _ ⟨fun h=>absurd h h0,fun _=>n1 h⟩,fun h=>LZ l v k _ _ hl hv zO hx hq g p _ _ ⟨fun h=>absurd h h0,fun _=>n2 h⟩⟩
theorem ab4(t:TE)(e:Int)(he:e≠0)(hc:Cq 155 [bZ t.cells] (int e))(h:True):Cq 163 [mG t] (int e):=by
 exact aj [kc [] hc,kt (y27 (qF zO))]
theorem ab5(t:TE)(hc:Cq 155 [bZ t.cells] (int 0))(hi:Cq 239 [bZ t.cells,.lit (.func (.func 247) #[] #[])] (bool true))(h:True):Cq 163 [mG t] (int 160):=by
 exact aj [kc [] hc,kY,kc [] hi,kO]
theorem Ma(t:TE)(hc:Cq 155 [bZ t.cells] (int 0))(hi:Cq 239 [bZ t.cells,.lit (.func (.func 247) #[] #[])] (bool false))(hL:Rq 0 163 0 (nX t.cells t.bQ 0 []) (.exit 0) ckO)(h:True):Cq 163 [mG t] (int 0):=by
 exact aj [kc [] hc,kY,kc [] hi,kY,kN 19 (ay t.bQ),kl (rG [(0,1),(2,2),(5,13),(21,34)]) 2 hL]
theorem Mc(t:TE)(hc:Cq 155 [bZ t.cells] (int 0))(hi:Cq 239 [bZ t.cells,.lit (.func (.func 247) #[] #[])] (bool false))(hL:Rq 0 163 0 (nX t.cells t.bQ 0 []) .ret (U4 160))(h:True):Cq 163 [mG t] (int 160):=by
 exact aj [kc [] hc,kY,kc [] hi,kY,kN 19 (ay t.bQ),kl (rG [(0,1),(2,2),(5,13),(21,34)]) 2 hL]
structure OkT(t:TE):Prop where
 cells:kQ t.cells
 bQ:QY t.bQ
structure X4(t:TE):Prop where
 cells:t.cells.length<=900000
 bQ:t.bQ.length<=900000
theorem fG(t:TE)(hl:X4 t)(hO:OkT t):Cq 163 [mG t] (int (vC t)):=by
 have hlc:=hl.cells;have hlm:=hl.bQ;have hc:=JZ (Sq.HZ t.cells zO hO.cells);have hi:=BL t.cells zO;unfold vC;by_cases h0:jg t.cells=0
 .rw [yK (by simpa using h0)];rw[h0]at hc;cases ha:t.cells.all Ba with
  |false =>
   rw[ha]at hi;rw[yK zD];exact ab5 t hc hi trivial
  |true =>
   rw[ha]at hi;rw[yL rfl];obtain⟨h1,h2⟩:=L9 t.cells t.bQ zO zO hO.bQ t.bQ.length 0 zO zO;rw[take_zero]at h1 h2;cases hb:Cw t.cells t.bQ with
   |true=>rw[yL rfl];exact Ma t hc hi (h1 hb) trivial
   |false=>rw[yK zD];exact Mc t hc hi (h2 hb) trivial
 .grind [ab4]
end Go.Tx
namespace Go.Dc
open Go Go.Am Go.Proofs Go.eY Go.bH
structure Q0(f:FD):Prop where
 ce:Sq.kQ f.ce
 tx:Tx.OkT ⟨f.tc,f.tm⟩
 lt:Tx.X4 ⟨f.tc,f.tm⟩
def U6(f:FD)(v:List D):Bool :=
 (if f.pk=1 then decide (Sq.jg f.ce=0)&&(f.ce.all fun x=>cZ v (dtc x))&&decide (f.bi.length+f.ta.length+f.tc.length+f.tm.length=0)
  else if f.pk=2 then decide (Bd.jg f.bi=0)&&(f.bi.all fun x=>cZ v (dtb x))&&decide (f.ce.length+f.ta.length+f.tc.length+f.tm.length=0)
  else if f.pk=3 then decide (vC f.ta=0)&&(f.ta.all fun x=>cZ v (dtt x))&&decide (f.ce.length+f.bi.length+f.tc.length+f.tm.length=0)
  else if f.pk=4 then decide (Tx.vC ⟨f.tc,f.tm⟩=0)&&(f.tc.all fun x=>cZ v (dtc x))&&(f.tm.all fun x=>cZ v (dtm x))&&decide (f.ce.length+f.bi.length+f.ta.length=0)
  else false)&&decide (f.pn.size<=64)
theorem ab6(n:Nat):((n:Int)==0)=decide (n=0):=by grind
theorem three{e:Int}{b}{n:Int}{z r}(h:(decide (e=0)&&b&&z&&decide (n<=64))=r):(((e=0)->(((b=true)->(((n<=64)->z=r)/\((¬n<=64)->false=r)))/\((b=false)->false=r)))/\((¬e=0)->false=r)):=by grind
theorem pV(f:FD)(v:List D)(h:XW f)(hr:Q0 f)(hv:v.length<=1000000000):Cq 62 [.agg (jB f),bB v] (Am.bool (U6 f v)):=by
 have hs:((f.pn.size:Int)<=64)=(f.pn.size<=64):=by simp only[eq_iff_iff];omega
 by_cases k1:f.pk=1
 .have e:U6 f v=(decide (Sq.jg f.ce=0)&&(f.ce.all fun x=>cZ v (dtc x))&&decide (0+f.bi.length+f.ta.length+f.tc.length+f.tm.length=0)&&decide ((f.pn.size:Int)<=64)):=by
   unfold U6;rw[yL k1,y09];simp only[hs]
  refine aiM f v _ _ k1 h.ce h.bi h.ta h.tc h.tm (Sq.up (Sq.HZ _ h.ce hr.ce)) (X5 _ v h.ce hv) _ (three ?_);rw[ab6,e]
 by_cases k2:f.pk=2
 .have e:U6 f v=(decide (Bd.jg f.bi=0)&&(f.bi.all fun x=>cZ v (dtb x))&&decide (f.ce.length+0+f.ta.length+f.tc.length+f.tm.length=0)&&decide ((f.pn.size:Int)<=64)):=by
   unfold U6;rw[yK k1,yL k2,Nat.add_zero];simp only[hs]
  refine aiN f v _ _ k2 h.ce h.bi h.ta h.tc h.tm (Bd.fG _ (by have:=h.bi;omega)) (afx _ v h.bi hv) _ (three ?_);rw[ab6,e]
 by_cases k3:f.pk=3
 .have e:U6 f v=(decide (vC f.ta=0)&&(f.ta.all fun x=>cZ v (dtt x))&&decide (f.ce.length+f.bi.length+0+f.tc.length+f.tm.length=0)&&decide ((f.pn.size:Int)<=64)):=by
   unfold U6;rw[yK k1,yK k2,yL k3,Nat.add_zero];simp only[hs]
  refine aiO f v _ _ k3 h.ce h.bi h.ta h.tc h.tm (OA _ h.ta) (afy _ v h.ta hv) _ (three ?_);rw[ab6,e]
 by_cases k4:f.pk=4
 .have e:U6 f v=(decide (Tx.vC ⟨f.tc,f.tm⟩=0)&&(f.tc.all fun x=>cZ v (dtc x))&&(f.tm.all fun x=>cZ v (dtm x))&&decide (f.ce.length+f.bi.length+f.ta.length+0+0=0)&&decide ((f.pn.size:Int)<=64)):=by
   unfold U6;rw[yK k1,yK k2,yK k3,yL k4,Nat.add_zero];simp only[hs]
  refine aiP f v _ _ _ k4 h.ce h.bi h.ta h.tc h.tm (Tx.fG ⟨f.tc,f.tm⟩ hr.lt hr.tx) (X5 _ v h.tc hv) (afz _ v h.tm hv) _ ?_;rw[ab6,e];refine⟨fun h1=>⟨fun h2=>⟨fun h3=>⟨fun h4=>by simp[h1,h2,h3,h4],fun h4=>by simp[h4]⟩,fun h3=>by simp[h3]⟩,fun h2=>by simp[h2]⟩,fun h1=>by simp[h1]⟩
 .have e:U6 f v=false:=by unfold U6;rw[yK k1,yK k2,yK k3,yK k4,Bool.false_and]
  rw[e];exact aiQ f v k1 k2 k3 k4 h.ce h.bi h.ta h.tc h.tm trivial
def Xe(v:List D):Option FD->List FD->Bool
 |_,[]=>true
 |q,f::l=>U6 f v&&(match q with|none=>true|some g=>decide (U7 g.pk f.pk g.pn f.pn<0))&&Xe v (some f) l
def F9(d:DO):Int:=if Cw d.sn=true/\Xe d.sn none d.fs=true then 0 else 180
structure Dim(d:DO):Prop where
 sn:d.sn.length<=1000000
 fs:d.fs.length<=1000000
 len:∀f∈d.fs,XW f
 iV:∀f∈d.fs,Q0 f
def prv(l:List FD):Nat->Option FD
 |0=>none
 |k+1=>l[k]?
abbrev dkR(d:DO)(k:Nat):Prop:=(Xe d.sn (prv d.fs k) (d.fs.drop k)=true/\Rq 0 17 0 (dkS d k) (.exit 0) { aL:=aC 40 [(2,int 0)],H:=[.box [bB d.sn,Md d.fs]] })\/(Xe d.sn (prv d.fs k) (d.fs.drop k)=false/\Rq 0 17 0 (dkS d k) .ret { aL:=aC 40 [(2,int 180)],H:=[.box [bB d.sn,Md d.fs]] })
theorem ab7(d:DO)(h:Dim d):∀n k,d.fs.length-k=n->k<=d.fs.length->dkR d k:=by
 intro n
 induction n with
 |zero =>
  intro k hk LB;refine .inl ⟨?_,amH d k zO yO⟩;rw[y17 zO];cases prv d.fs k<;>rfl
 |succ n ih =>
  intro k hk LB;have bg:k<d.fs.length:=zO
  have hx:=yA bg;have hm:d.fs[k]∈d.fs:=y03 _;have hV:=pV d.fs[k] d.sn (h.len _ hm) (h.iV _ hm) (by have:=h.sn;omega);have nx:=ih (k+1) zO zO;unfold dkR at nx |-;rw[y01 bg];have hp:prv d.fs (k+1)=some d.fs[k]:=hx;rw[hp]at nx;unfold Xe;cases e:U6 d.fs[k] d.sn with
  |false =>
   rw[e]at hV;exact .inr ⟨zS,amI d k _ h.fs zO hx hV yO⟩
  |true =>
   rw[e]at hV
   match k,hk,LB,bg,hx,hm,hV,nx with
   |0,_,_,bg,hx,hm,hV,nx =>
    rcases nx with⟨a,b⟩|⟨a,b⟩
    .exact .inl ⟨by rw[show prv d.fs 0=none from rfl,a];rfl,aiR d _ h.fs zO hx hV _ _ b⟩
    .exact .inr ⟨by rw[show prv d.fs 0=none from rfl,a];rfl,aiR d _ h.fs zO hx hV _ _ b⟩
   |k+1,_,_,bg,hx,hm,hV,nx =>
    have hy:d.fs[k]?=some d.fs[k]:=yA zO;have hz:d.fs[Int.toNat (((k+1:Nat):Int)-1)]?=some d.fs[k]:=zS
    have hP:∀g':FD,d.fs[k]?=some g'->Cq 45 [pt g'.pk g'.pn,pt d.fs[k+1].pk d.fs[k+1].pn] (int (U7 d.fs[k].pk d.fs[k+1].pk d.fs[k].pn d.fs[k+1].pn)):=fun g' hg=>by
     rw[hy]at hg;cases hg;exact X6 d.fs[k].pk d.fs[k+1].pk d.fs[k].pn d.fs[k+1].pn
    have hq:prv d.fs (k+1)=some d.fs[k]:=hy;rw[hq];by_cases hc:U7 d.fs[k].pk d.fs[k+1].pk d.fs[k].pn d.fs[k+1].pn<0
    .rcases nx with⟨a,b⟩|⟨a,b⟩
     .exact .inl ⟨by simp[hc,a],aiT d k _ d.fs[k] _ zO h.fs zO hx hy hV hP _ _ ⟨d.fs[k],⟨zO,hz⟩,hy,b⟩⟩
     .exact .inr ⟨by simp[a],aiT d k _ d.fs[k] _ zO h.fs zO hx hy hV hP _ _ ⟨d.fs[k],⟨zO,hz⟩,hy,b⟩⟩
    .exact .inr ⟨by simp[hc],amJ d k _ d.fs[k] _ zO h.fs zO hx hy hV hP _ _ ⟨d.fs[k],⟨zO,hz⟩,hy,rfl,rfl⟩⟩
theorem fG(d:DO)(h:Dim d):Cq 17 [kI d] (int (F9 d)):=by
 have hv:=bH.fG d.sn (by have:=h.sn;omega);unfold F9;by_cases e:Cw d.sn=true
 .rw [show eZ d.sn=0 by unfold eZ;rw[yL e]]at hv;have h1:=ab7 d h _ 0 rfl yN;unfold dkR at h1;rw[drop_zero]at h1;have hp:prv d.fs 0=none:=rfl;rw[hp]at h1;rcases h1 with⟨a,b⟩|⟨a,b⟩
  .grind [amK]
  .rw [yK (fun k=>by rw[a]at k;cases k.2)];exact amL d hv b trivial
 .rw [show eZ d.sn=120 by unfold eZ;rw[yK e]]at hv;rw[yK (fun k=>e k.1)];exact amM d hv trivial
end Go.Dc
namespace Go.yU
open Go Go.Am Go.Proofs Go.eY
theorem wrap_u64(n:Nat):IntKind.wrap .u64 n=(n % 18446744073709551616:Nat):=by
 show(let m:=(n:Int) % 2^64;if(IntKind.u64.signed&&m>=2^(64-1))=true then m-(2^64)else m)=_;simp[IntKind.signed]
theorem axZ(o:ah)(b:Bool)(out:aS)(h:((((b)=true)->aS.ret (AV.bq [])=out)/\(((b)=false)->aS.Ay (AV.qX 36 (int 10))=out))):ak P G 185 [AV.ptr 0 0,Am.bool b] [o] out [o]:=by
 rcases y00 ((b))with c1|c1
 .have h:=h.1 c1;have e1:=h;exact e1▸((show ak P G 185 [AV.ptr 0 0,Am.bool b] [o] (aS.ret (AV.bq [])) [o]from aj [kf (show(!b)=false from(y27 (c1)))] zQ))
 .have h:=h.2 c1;have e1:=h;exact e1▸((show ak P G 185 [AV.ptr 0 0,Am.bool b] [o] (aS.Ay (AV.qX 36 (int 10))) [o]from aj [kt (show(!b)=true from(y27 (c1)))] zQ))
theorem aV(o:ah)(b:Bool):ak P G 185 [.ptr 0 0,bool b] [o] (if b=true then .ret (.bq [])else .Ay aO) [o] :=
 axZ o b _ ⟨fun h=>by rw[yL h],fun h=>by rw[yK (by simp[h])];rfl⟩
theorem axy(xs:List (List AV))(n:Nat)(h:xs.length<n)(hl:xs.length<=1000000000)(h:True):ak P G 258 [AV.ptr 0 0,int (↑n:Int)] [ah.box [AV.sl 1 false xs]] (aS.Ay aO) [ah.box [AV.sl 1 false xs]]:=by
 have _:=h;exact aj [kc [0] (show ak P G 185 [AV.ptr 0 0,Am.bool (decide ((↑n:Int)<=(↑(length xs):Int)))] [ah.box [AV.sl 1 false xs]] (aS.Ay (AV.qX 36 (int 10))) [ah.box [AV.sl 1 false xs]]from(by have h0:=(@Go.yU.aV (ah.box [AV.sl 1 false xs]) (decide ((↑n:Int)<=(↑(length xs):Int))));simp only[yK (show ¬(decide ((↑n:Int)<=(↑(length xs):Int))=true)from Bool.eq_false_iff.1 (y16 zO))]at h0;exact h0))] zQ
theorem ax0(l:List UInt8)(n:Nat)(h:l.length<n)(hl:l.length<=1000000000):ak P G 258 [.ptr 0 0,int n] (dH l) (.Ay aO) (dH l) :=
 axy (jl l) n (by rw[eu];exact h) (by rw[eu];exact hl) trivial
theorem avX:ak P G 258 [.ptr 0 0,int 1] (dH []) (.Ay aO) (dH []):=ax0 [] 1 zS zS
def SY(xs:List (List AV))(g u:Nat):St:={ aL:=aC 20 [(0,.aU 0 g 0 xs.length),(1,u64 u)],H:=[.aN g 1 false xs] }
theorem WW(xs:List (List AV))(g:Nat)(u:Nat):Dv P G none 1 (vg P 212 0) (SY xs g u) [bC.br false] (aB 20 [0,1]) 1 =
 some (bF.exit 0,{ aL:=aC 20 [(0,AV.aU 0 g 0 (length xs)),(1,AV.lit (Value.int IntKind.u64 (↑u:Int)))],H:=[ah.aN g 1 false xs] },[decide ((↑u:Int)>=(128:Int))=false]):=zQ
theorem abr(xs:List (List AV))(g u:Nat)(hu:u<128)(h:True):Rq 1 212 0 (SY xs g u) (bF.exit 0) { aL:=aC 20 [(0,AV.aU 0 g 0 (length xs)),(1,u64 u)],H:=[ah.aN g 1 false xs] }:=by
 exact bN.exit _ _ _ (WW xs g u) ⟨(y16 zO),yO⟩
theorem ad6(xs:List (List AV))(ys:List (List AV))(g:Nat)(g':Nat)(u:Nat)(v:Nat):Vv P G 212 [AV.aU 0 g 0 (length xs),u64 u] [ah.aN g 1 false xs] [bC.loop [2,3,4,5,6,7,8,9,10,11,12,13,14,15,16,17,18,19] 1 (bF.exit 0) [AV.aU 0 g' 0 (length ys),AV.lit (Value.int IntKind.u64 (↑v:Int)),AV.aP,AV.aP,AV.aP,AV.aP,AV.aP,AV.aP,AV.aP,AV.aP,AV.aP,AV.aP,AV.aP,AV.aP,AV.aP,AV.aP,AV.aP,AV.aP,AV.aP,AV.aP] [ah.aN g' 1 false ys]] =
 some (aS.ret (AV.aU 0 (g'+1) 0 (length ys+1)),[ah.aN (g'+1) 1 false (ys++[[AV.lit (Value.int IntKind.u8 (IntKind.wrap IntKind.u8 (↑v:Int)))]])],[Rq 1 212 0 { aL:=aC 20 [(0,AV.aU 0 g 0 (length xs)),(1,AV.lit (Value.int IntKind.u64 (↑u:Int)))],H:=[ah.aN g 1 false xs] } (bF.exit 0) { aL:=aC 20 [(0,AV.aU 0 g' 0 (length ys)),(1,AV.lit (Value.int IntKind.u64 (↑v:Int)))],H:=[ah.aN g' 1 false ys] },g'=g',length ys=length ys,(length ys+1)*1<=140737488355328]):=zQ
theorem aqm(xs ys:List (List AV))(g g' u v:Nat)(hl:ys.length<=1000000000)(hL:Rq 1 212 0 (SY xs g u) (.exit 0) { aL:=aC 20 [(0,.aU 0 g' 0 ys.length),(1,u64 v)],H:=[.aN g' 1 false ys] })(b:Int)(hb:IntKind.wrap .u8 (v:Int)=b)(h:[ah.aN (g'+1) 1 false (ys++[[AV.lit (Value.int IntKind.u8 (IntKind.wrap IntKind.u8 (↑v:Int)))]])]=[ah.aN (g'+1) 1 false (ys++[[AV.lit (Value.int IntKind.u8 b)]])]):ak P G 212 [AV.aU 0 g 0 (length xs),u64 u] [ah.aN g 1 false xs] (aS.ret (AV.aU 0 (g'+1) 0 (length ys+1))) [ah.aN (g'+1) 1 false (ys++[[AV.lit (Value.int IntKind.u8 b)]])]:=by
 have eH:=h;exact ak.heap (xq _ (ad6 xs ys g g' u v) ⟨(@hL ),(rfl),(rfl),zO,yO⟩) eH
def kinds(i j:Nat):List ah:=[.box [.lit .nilFunc,.lit (.func (.func 211) #[] #[]),.lit (.func (.func 214) #[] #[]),.fn (.func 215) [] [.ptr j 0]],.box [.ptr i 0]]
theorem ah0  (h:True):ak P G 112 [] [] (aS.ret (AV.ptr 0 0)) (kinds 0 1):=by
 exact aj [kR (1:Int) (4:Int),kR (2:Int) (4:Int),kR (3:Int) (4:Int)]
def WZ(xs:List (List AV))(N g:Nat)(n0:Int)(s0:yP)(l:List CV)(i:Nat):St:={ aL:=aC 35 [(0,.aU 0 g 0 N),(2,.ptr 2 0),(17,.sl 4 false (iB l)),(18,int l.length),(19,int i)],H:=.aN g 1 false xs::(kinds 1 2++[.box [int 3,int n0,str s0,.sl 4 false (iB l)]]) }
theorem ah5(xs:List (List AV))(N g:Nat)(n0:Int)(s0:yP)(l:List CV)(i:Nat)(hi:l.length<=i)(h:True):Rq 3 215 0 (WZ xs N g n0 s0 l i) (bF.exit 0) (St.mk (aC 35 [(0,AV.aU 0 g 0 N)]) (ah.aN g 1 false xs::(kinds 1 2++[ah.box [int 3,int n0,str s0,AV.sl 4 false (iB l)]])) []):=by
 exact aG [kj ((i:Int)<l.length)] (aB 35 [0]) 4
def W9(xs:List (List AV))(N g:Nat)(n0:Int)(s0:yP)(l:List CV)(i:Nat):St:={ aL:=aC 35 [(0,.aU 3 g 0 N),(2,.ptr 1 0),(17,.sl 4 false (iB l)),(18,int l.length),(19,int i)],H:=kinds 0 1++[.box [int 3,int n0,str s0,.sl 4 false (iB l)],.aN g 1 false xs] }
theorem ah7(xs:List (List AV))(N g:Nat)(n0:Int)(s0:yP)(l:List CV)(i:Nat)(hi:l.length<=i)(h:True):Rq 2 215 0 (W9 xs N g n0 s0 l i) (bF.exit 0) (St.mk (aC 35 [(0,AV.aU 3 g 0 N)]) (kinds 0 1++[ah.box [int 3,int n0,str s0,AV.sl 4 false (iB l)],ah.aN g 1 false xs]) []):=by
 exact aG [kj ((i:Int)<l.length)] (aB 35 [0]) 4
theorem aby(xs ys:List (List AV))(N M g g':Nat)(n0:Int)(s0:yP)(l:List CV)(i:Nat)(n:Int)(s:yP)(m:List CV)(hi:i<l.length)(hl:l.length<=9223372036854775807)(hx:l[i]?=some (.mk 3 n s m))(hv:ak P G 215 [.aU 0 g 0 N,rR 3 n s m,.ptr 2 0] (.aN g 1 false xs::kinds 1 2) (.ret (.aU 0 g' 0 M)) (.aN g' 1 false ys::kinds 1 2))(ex:bF)(s':St)(h:(((0:Int)<=CV.k (CV.mk 3 n s m)/\CV.k (CV.mk 3 n s m)<4)/\((∀(x:List AV),x∈ys->AV.aM [] x=true)/\((∀(x:List AV),x∈xs->AV.aM [] x=true)/\Rq 2 215 0 (sM 35 [(0,.aU 3 g' 0 M),(2,.ptr 1 0),(17,.sl 4 false (iB l)),(18,int ↑l.length),(19,int ↑(i+1))] [.box [.lit Value.nilFunc,iL 211,iL 214,.fn (Fn.func 215) [] [.ptr 1 0]],.box [.ptr 0 0],.box [int 3,int n0,str s0,.sl 4 false (iB l)],.aN g' 1 false ys]) ex s')))):Rq 2 215 0 (W9 xs N g n0 s0 l i) ex s':=by
 obtain⟨o2,h⟩:=h;obtain⟨o3,h⟩:=h;obtain⟨o4,h⟩:=h;exact aJ [ki ((i:Int)<l.length),ko (bC.elem (aQ (CV.mk 3 n s m))),kp (show(0:Int)<=(i:Int)/\(iB l)[Int.toNat (i:Int)]?=some (aQ (CV.mk 3 n s m))from(by rw[lC];exact bG hx)),kp o2,kc [3,0,1] hv,kp o3,kp o4,kW 33 (i+1) ↑(i+1),kp (show ∀(x:List AV),x∈ys->AV.aM [] x=true from zO)] (aB 35 [0,2,17,18,19]) 4 h
theorem amk(n:Int)(s:yP)(l:List CV)(b:List UInt8)(hv:Cq 111 [rR 3 n s l] (int 0))(hw:ak P G 215 [aK,rR 3 n s l,.ptr 1 0] (kinds 0 1) (.ret (Cy b)) (kinds 0 1))(h:True):Cq 37 [rR 3 n s l] (.bq [Cy b,int 0]):=by
 exact aj [kc [] hv,kY,kc [] (@ah0 (trivial)),kR (3:Int) (4:Int),kc [1,2] hw]
abbrev aqS:AV:=.lit (.func (.func 20) #[] #[])
def IY(l m:List CV)(i:Nat):St:={ aL:=aC 32 [(1,.sl 4 false (iB m)),(2,aqS),(6,bool false),(15,.sl 4 false (iB l)),(16,int l.length),(17,int i)],H:=[] }
theorem axC(dep:Nat)(h:True):ak P G 184 [AV.ptr 0 0,int (↑dep:Int)] (dH []) (aS.Ay aO) [ah.aH]:=by
 have _:=h;exact ak.pY ((show ak P G 184 [AV.ptr 0 0,int (↑dep:Int)] (dH []) (aS.Ay (AV.qX 36 (int 10))) [ah.box [AV.sl 1 false []]]from aj [kc [0] (@Go.yU.avX )] zQ)) (by exact⟨.inr yO,yO⟩)
theorem awh(a b c d e:AV)(o2:ah):auj P G 183 [.ptr 0 0,.ptr 1 0] [.box [a,b,c,d],.box [e],o2] (.Ay aO) [.br true]=some ([.box [int 0,int 0,str { data:=#[] },aK],.box [int 10],o2],.ret .aP,[true=true]):=zQ
theorem av2(a b c d e:AV)(o2:ah):ank P G 183 [.ptr 0 0,.ptr 1 0] [.box [a,b,c,d],.box [e],o2] (.Ay aO) [.box [int 0,int 0,str { data:=#[] },aK],.box [int 10],o2] (.ret .aP):=vX _ (awh a b c d e o2) ⟨rfl,yO⟩
theorem axJ(l:List UInt8)(hv:ak P G 184 [.ptr 0 0,int ((0:Nat):Int)] (dH l) (.Ay aO) [.aH])(h:True):Cq 82 [Cy l] (AV.bq [val default,int 10]):=by
 have _:=h;exact ak.out ((show Cq 82 [Cy l] (AV.bq [AV.agg [int 0,int 0,str (ByteArray.mk #[]),aK],int 10])from aj [kc [2] (@hv ),ko (bC.dcall (aS.ret AV.aP) [ah.box [int 0,int 0,str (ByteArray.mk #[]),aK],ah.box [int 10],ah.aH]),kp (@Go.yU.av2 (int 0) (int 0) (str (ByteArray.mk #[])) (aK) (int 0) (ah.aH))] zQ)) (aF.iM ⟨(aF.qo ⟨y29,y29,y29,(aF.nil _),yO⟩),y29,yO⟩)
end Go.yU
namespace Go.bV
open Go Go.Am Go.Proofs Go.eY Go.bH Go.yU
theorem aGq(n:Int)(h:True):Cq 58 [int n] (rR 1 n y28 []):=by
 have _:=h;exact ak.out ((show Cq 58 [int n] (.agg [int 1,int n,str (ByteArray.mk #[]),aK])from aj [])) (aF.qo ⟨y29,y29,y29,(aF.nil _),yO⟩)
theorem aEU(s:yP)(h:True):Cq 59 [str s] (rR 2 0 s []):=by
 have _:=h;exact ak.out ((show Cq 59 [str s] (.agg [int 2,int 0,str s,aK])from aj [])) (aF.qo ⟨y29,y29,y29,(aF.nil _),yO⟩)
theorem aEV(t:Bool)(xs:List (List AV))(h:True):Cq 57 [.sl 4 t xs] (.agg [int 3,int 0,str y28,.sl 4 false xs]):=by
 have _:=h;exact ak.out ((show Cq 57 [.sl 4 t xs] (.agg [int 3,int 0,str (ByteArray.mk #[]),.sl 4 t xs])from aj [])) (aF.qo ⟨y29,y29,y29,(aF.oP _ _ _),yO⟩)
theorem aCa(n:Int):Cq 58 [int n] (rR 1 n .empty []):=aGq n trivial
theorem aAG(s:yP):Cq 59 [str s] (rR 2 0 s []):=aEU s trivial
theorem az0(t:Bool)(xs:List (List AV)):Cq 57 [.sl 4 t xs] (.agg [int 3,int 0,str .empty,.sl 4 false xs]):=aEV t xs trivial
end Go.bV
namespace Go.bH
open Go Go.Am Go.Proofs Go.eY
def fM(a b:List D):Int:=if eZ a=0 then eZ b else eZ a
theorem abE(a b:List D)(ha:a.length<=1000000000)(hb:b.length<=1000000000)(h:(((eZ a=0)->(eZ b:Int)=(fM a b))/\((¬eZ a=0)->(eZ a:Int)=(fM a b)))):Cq 265 [bB a,bB b] (int (fM a b)):=by
 have bS:=(@fG (a) zO);by_cases c1:(eZ a=0)
 .have h:=h.1 c1;exact aA (aF.int_eq h) [kc [] bS,kf (show(eZ a != 0)=false from(y27 (nW.2 c1))),kc [] (@fG (b) zO)]
 .have h:=h.2 c1;exact aA (aF.int_eq h) [kc [] bS,kt (show(eZ a != 0)=true from(y27 (qN.2 c1)))]
theorem PX(a b:List D)(ha:a.length<=1000000000)(hb:b.length<=1000000000):Cq 265 [bB a,bB b] (int (fM a b)) :=
 abE a b ha hb (by unfold fM;exact⟨fun h=>by rw[yL h],fun h=>by rw[yK h]⟩)
def fu(x y:Int):Int:=if y>x then y else x
def rl(f:Nat):AV:=.lit (.func (.func f) #[] #[])
theorem aoM(d x y:Int)(h:True):Cq 410 [AV.agg [int d,int x,int y]] (int (fu x y)):=by
 have _:=h;exact aj [] zQ
theorem alk(d x y:Int):Cq 410 [.agg [int d,int x,int y]] (int (fu x y)):=aoM d x y trivial
def lq:ah:=.iV .ready none (aC 35 [(3,.ptr 3 0),(6,.ptr 4 0)]) #[20] (KP P 199 0) (uT P 199 0)
def q0(f:Nat)(A B:List D):List ah:=[lq,.box [bB A],.box [bB B],.box [rl f],.box [aK]]
def q1(f:Nat)(A B:List D)(g:Nat)(v:List D):List ah:=[lq,.box [bB A],.box [bB B],.box [rl f],.box [.aU 7 g 0 v.length],.aH,.aH,.aN g 2 false (au v)]
def Y0(f:Nat)(tk:Int->Int->Int)(A B:List D)(d x y:Int):Prop :=
 dY P G 0 [.agg [int d,int x,int y]] (q0 f A B++[.box [int d,int x,int y]]) true (if tk x y>0 then q1 f A B 0 [(d,tk x y)]else q0 f A B++[.box [int d,int x,int y]])
def Y1(f:Nat)(tk:Int->Int->Int)(A B v:List D)(g:Nat)(d x y:Int):Prop :=
 dY P G 0 [.agg [int d,int x,int y]] (q1 f A B g v++[.box [int d,int x,int y]]) true (if tk x y>0 then q1 f A B (g+1) (v++[(d,tk x y)])++[.box [int d,int x,int y]]else q1 f A B g v++[.box [int d,int x,int y]])
theorem aeH(A B:List D)(d x y:Int)(b:Bool)(H':List ah)(h:(((fu x y>(0:Int))->(true=b)/\([lq,ah.box [AV.sl 2 false (au A)],ah.box [AV.sl 2 false (au B)],ah.box [AV.lit (Value.func (Fn.func 410) (Array.mk []) (Array.mk []))],ah.box [AV.aU 7 0 0 1],ah.box [int d,int x,int y],ah.box [int d,int x,int y],ah.aN 0 2 false (au [(d,fu x y)])]=H'))/\((¬fu x y>(0:Int))->(true=b)/\([lq,ah.box [AV.sl 2 false (au A)],ah.box [AV.sl 2 false (au B)],ah.box [AV.lit (Value.func (Fn.func 410) (Array.mk []) (Array.mk []))],ah.box [aK],ah.box [int d,int x,int y]]=H')))):dY P G 0 [AV.agg [int d,int x,int y]] (q0 410 A B++[ah.box [int d,int x,int y]]) b H':=by
 have bS:=(@Go.bH.alk (d) (x) (y));by_cases c1:(fu x y>(0:Int))
 .have h:=h.1 c1;obtain⟨e1,e2⟩:=h;exact dY.to ((show dY P G 0 [AV.agg [int d,int x,int y]] (q0 410 A B++[ah.box [int d,int x,int y]]) true [lq,ah.box [AV.sl 2 false (au A)],ah.box [AV.sl 2 false (au B)],ah.box [AV.lit (Value.func (Fn.func 410) (Array.mk []) (Array.mk []))],ah.box [AV.aU 7 0 0 1],ah.box [int d,int x,int y],ah.box [int d,int x,int y],ah.aN 0 2 false (au [(d,fu x y)])]from jI (fun _=>[kc [] bS,kt (y15 c1),kp (show[[int d,int (fu x y)]]≠[]from zS),kp (show 16<=140737488355328 from zO)]) (fun _=>zQ))) e1 e2
 .have h:=h.2 c1;obtain⟨e1,e2⟩:=h;exact dY.to ((show dY P G 0 [AV.agg [int d,int x,int y]] (q0 410 A B++[ah.box [int d,int x,int y]]) true [lq,ah.box [AV.sl 2 false (au A)],ah.box [AV.sl 2 false (au B)],ah.box [AV.lit (Value.func (Fn.func 410) (Array.mk []) (Array.mk []))],ah.box [aK],ah.box [int d,int x,int y]]from jI (fun _=>[kc [] bS,kf (y16 c1)]) (fun _=>zQ))) e1 e2
theorem aeI(A B v:List D)(g:Nat)(d x y:Int)(b:Bool)(H':List ah)(hv:v.length<=3000000000)(h:(((fu x y>(0:Int))->(true=b)/\([lq,ah.box [AV.sl 2 false (au A)],ah.box [AV.sl 2 false (au B)],ah.box [AV.lit (Value.func (Fn.func 410) (Array.mk []) (Array.mk []))],ah.box [AV.aU 7 (g+1) 0 (length (v++[(d,fu x y)]))],ah.aH,ah.aH,ah.aN (g+1) 2 false (au (v++[(d,fu x y)])),ah.box [int d,int x,int y]]=H'))/\((¬fu x y>(0:Int))->(true=b)/\([lq,ah.box [AV.sl 2 false (au A)],ah.box [AV.sl 2 false (au B)],ah.box [AV.lit (Value.func (Fn.func 410) (Array.mk []) (Array.mk []))],ah.box [AV.aU 7 g 0 (length v)],ah.aH,ah.aH,ah.aN g 2 false (au v),ah.box [int d,int x,int y]]=H')))):dY P G 0 [AV.agg [int d,int x,int y]] (q1 410 A B g v++[ah.box [int d,int x,int y]]) b H':=by
 have bS:=(@Go.bH.alk (d) (x) (y));by_cases c1:(fu x y>(0:Int))
 .have h:=h.1 c1;obtain⟨e1,e2⟩:=h;exact dY.to ((show dY P G 0 [AV.agg [int d,int x,int y]] (q1 410 A B g v++[ah.box [int d,int x,int y]]) true [lq,ah.box [AV.sl 2 false (au A)],ah.box [AV.sl 2 false (au B)],ah.box [AV.lit (Value.func (Fn.func 410) (Array.mk []) (Array.mk []))],ah.box [AV.aU 7 (g+1) 0 (length (v++[(d,fu x y)]))],ah.aH,ah.aH,ah.aN (g+1) 2 false (au (v++[(d,fu x y)])),ah.box [int d,int x,int y]]from jI (fun _=>[kc [] bS,kt (y15 c1),ko (bC.hp (some 33) (AV.aU 7 (g+1) 0 (length (v++[(d,fu x y)]))) [ah.iV LoopState.busy none (aC 35 [(3,AV.ptr 3 0),(6,AV.ptr 4 0)]) (Array.mk [20]) (Code.region 5 #[Oper.mk (some 9) (Op.alloc 308) 0 "vector.go:80" #[] none,Oper.mk none (Op.store 308 (Operand.tmp 9) (Operand.tmp 20)) 0 "vector.go:80" #[Edge.mk 0 Ground.data,Edge.mk 0 Ground.phase] none] false) (Code.block 1 (Code.seq (Code.region 6 #[Oper.mk (some 21) (Op.fieldAddr 248 (Operand.tmp 3) 0) 0 "vector.go:81" #[] none,Oper.mk (some 22) (Op.load 246 (Operand.tmp 21)) 246 "vector.go:81" #[Edge.mk 0 Ground.data] none,Oper.mk (some 23) (Op.load 308 (Operand.tmp 9)) 308 "vector.go:81" #[] none,Oper.mk (some 24) (Op.call (Call.mk (Callee.value (Operand.tmp 22)) #[Operand.tmp 23] #[308])) 3 "vector.go:81" #[Edge.mk 1 Ground.data,Edge.mk 2 Ground.data] none,Oper.mk (some 10) (Op.assign (Operand.tmp 24)) 3 "vector.go:81" #[Edge.mk 3 Ground.data,Edge.mk 3 Ground.chain,Edge.mk 0 Ground.phase,Edge.mk 1 Ground.phase,Edge.mk 2 Ground.phase,Edge.mk 3 Ground.phase] none] false) (Code.seq (Code.region 7 #[Oper.mk (some 25) (Op.move (Operand.tmp 10)) 3 "vector.go:81" #[] none,Oper.mk (some 26) (Op.binOp BinOp.gtr 3 (Operand.tmp 25) (Operand.const (Value.int IntKind.i64 0)) 3) 4 "vector.go:81" #[Edge.mk 0 Ground.data] none] false) (Code.cond (Operand.tmp 26) (Code.region 8 #[Oper.mk (some 27) (Op.load 22 (Operand.tmp 6)) 22 "vector.go:82" #[] none,Oper.mk (some 28) (Op.fieldAddr 308 (Operand.tmp 9) 0) 0 "vector.go:82" #[] none,Oper.mk (some 29) (Op.load 3 (Operand.tmp 28)) 3 "vector.go:82" #[Edge.mk 1 Ground.data] none,Oper.mk (some 30) (Op.move (Operand.tmp 10)) 3 "vector.go:82" #[] none,Oper.mk (some 31) (Op.build 27 #[(0,Operand.tmp 29),(1,Operand.tmp 30)]) 27 "vector.go:82" #[Edge.mk 2 Ground.data,Edge.mk 3 Ground.data] none,Oper.mk (some 32) (Op.buildSlice 22 1 #[(0,Operand.tmp 31)]) 22 "vector.go:82" #[Edge.mk 4 Ground.data] none,Oper.mk (some 33) (Op.call (Call.mk (Callee.builtin Builtin.append) #[Operand.tmp 27,Operand.tmp 32] #[22,22])) 22 "vector.go:82" #[Edge.mk 0 Ground.data,Edge.mk 5 Ground.data] none,Oper.mk none (Op.store 22 (Operand.tmp 6) (Operand.tmp 33)) 0 "vector.go:82" #[Edge.mk 6 Ground.data,Edge.mk 6 Ground.chain,Edge.mk 0 Ground.phase,Edge.mk 1 Ground.phase,Edge.mk 2 Ground.phase,Edge.mk 3 Ground.phase,Edge.mk 4 Ground.phase,Edge.mk 5 Ground.phase,Edge.mk 6 Ground.phase] none] false) Code.skip)))),ah.box [AV.sl 2 false (au A)],ah.box [AV.sl 2 false (au B)],ah.box [AV.lit (Value.func (Fn.func 410) (Array.mk []) (Array.mk []))],ah.box [AV.aU 7 g 0 (length v)],ah.aH,ah.aH,ah.aN (g+1) 2 false (au (v++[(d,fu x y)])),ah.box [int d,int x,int y],ah.box [int d,int x,int y]]),kp (show Am.aF (AV.aU 7 (g+1) 0 (length v+1)) (AV.aU 7 (g+1) 0 (length (v++[(d,fu x y)])))from(aF.of_eq (by simp[Go.bH.ay,Go.bH.bJ]))),kp (show Am.HSub [ah.iV LoopState.busy none (aC 35 [(3,AV.ptr 3 0),(6,AV.ptr 4 0)]) (Array.mk [20]) (Code.region 5 #[Oper.mk (some 9) (Op.alloc 308) 0 "vector.go:80" #[] none,Oper.mk none (Op.store 308 (Operand.tmp 9) (Operand.tmp 20)) 0 "vector.go:80" #[Edge.mk 0 Ground.data,Edge.mk 0 Ground.phase] none] false) (Code.block 1 (Code.seq (Code.region 6 #[Oper.mk (some 21) (Op.fieldAddr 248 (Operand.tmp 3) 0) 0 "vector.go:81" #[] none,Oper.mk (some 22) (Op.load 246 (Operand.tmp 21)) 246 "vector.go:81" #[Edge.mk 0 Ground.data] none,Oper.mk (some 23) (Op.load 308 (Operand.tmp 9)) 308 "vector.go:81" #[] none,Oper.mk (some 24) (Op.call (Call.mk (Callee.value (Operand.tmp 22)) #[Operand.tmp 23] #[308])) 3 "vector.go:81" #[Edge.mk 1 Ground.data,Edge.mk 2 Ground.data] none,Oper.mk (some 10) (Op.assign (Operand.tmp 24)) 3 "vector.go:81" #[Edge.mk 3 Ground.data,Edge.mk 3 Ground.chain,Edge.mk 0 Ground.phase,Edge.mk 1 Ground.phase,Edge.mk 2 Ground.phase,Edge.mk 3 Ground.phase] none] false) (Code.seq (Code.region 7 #[Oper.mk (some 25) (Op.move (Operand.tmp 10)) 3 "vector.go:81" #[] none,Oper.mk (some 26) (Op.binOp BinOp.gtr 3 (Operand.tmp 25) (Operand.const (Value.int IntKind.i64 0)) 3) 4 "vector.go:81" #[Edge.mk 0 Ground.data] none] false) (Code.cond (Operand.tmp 26) (Code.region 8 #[Oper.mk (some 27) (Op.load 22 (Operand.tmp 6)) 22 "vector.go:82" #[] none,Oper.mk (some 28) (Op.fieldAddr 308 (Operand.tmp 9) 0) 0 "vector.go:82" #[] none,Oper.mk (some 29) (Op.load 3 (Operand.tmp 28)) 3 "vector.go:82" #[Edge.mk 1 Ground.data] none,Oper.mk (some 30) (Op.move (Operand.tmp 10)) 3 "vector.go:82" #[] none,Oper.mk (some 31) (Op.build 27 #[(0,Operand.tmp 29),(1,Operand.tmp 30)]) 27 "vector.go:82" #[Edge.mk 2 Ground.data,Edge.mk 3 Ground.data] none,Oper.mk (some 32) (Op.buildSlice 22 1 #[(0,Operand.tmp 31)]) 22 "vector.go:82" #[Edge.mk 4 Ground.data] none,Oper.mk (some 33) (Op.call (Call.mk (Callee.builtin Builtin.append) #[Operand.tmp 27,Operand.tmp 32] #[22,22])) 22 "vector.go:82" #[Edge.mk 0 Ground.data,Edge.mk 5 Ground.data] none,Oper.mk none (Op.store 22 (Operand.tmp 6) (Operand.tmp 33)) 0 "vector.go:82" #[Edge.mk 6 Ground.data,Edge.mk 6 Ground.chain,Edge.mk 0 Ground.phase,Edge.mk 1 Ground.phase,Edge.mk 2 Ground.phase,Edge.mk 3 Ground.phase,Edge.mk 4 Ground.phase,Edge.mk 5 Ground.phase,Edge.mk 6 Ground.phase] none] false) Code.skip)))),ah.box [AV.sl 2 false (au A)],ah.box [AV.sl 2 false (au B)],ah.box [AV.lit (Value.func (Fn.func 410) (Array.mk []) (Array.mk []))],ah.box [AV.aU 7 g 0 (length v)],ah.aH,ah.aH,ah.aN (g+1) 2 false (au v++[[int d,int (fu x y)]]),ah.box [int d,int x,int y],ah.box [int d,int x,int y]] [ah.iV LoopState.busy none (aC 35 [(3,AV.ptr 3 0),(6,AV.ptr 4 0)]) (Array.mk [20]) (Code.region 5 #[Oper.mk (some 9) (Op.alloc 308) 0 "vector.go:80" #[] none,Oper.mk none (Op.store 308 (Operand.tmp 9) (Operand.tmp 20)) 0 "vector.go:80" #[Edge.mk 0 Ground.data,Edge.mk 0 Ground.phase] none] false) (Code.block 1 (Code.seq (Code.region 6 #[Oper.mk (some 21) (Op.fieldAddr 248 (Operand.tmp 3) 0) 0 "vector.go:81" #[] none,Oper.mk (some 22) (Op.load 246 (Operand.tmp 21)) 246 "vector.go:81" #[Edge.mk 0 Ground.data] none,Oper.mk (some 23) (Op.load 308 (Operand.tmp 9)) 308 "vector.go:81" #[] none,Oper.mk (some 24) (Op.call (Call.mk (Callee.value (Operand.tmp 22)) #[Operand.tmp 23] #[308])) 3 "vector.go:81" #[Edge.mk 1 Ground.data,Edge.mk 2 Ground.data] none,Oper.mk (some 10) (Op.assign (Operand.tmp 24)) 3 "vector.go:81" #[Edge.mk 3 Ground.data,Edge.mk 3 Ground.chain,Edge.mk 0 Ground.phase,Edge.mk 1 Ground.phase,Edge.mk 2 Ground.phase,Edge.mk 3 Ground.phase] none] false) (Code.seq (Code.region 7 #[Oper.mk (some 25) (Op.move (Operand.tmp 10)) 3 "vector.go:81" #[] none,Oper.mk (some 26) (Op.binOp BinOp.gtr 3 (Operand.tmp 25) (Operand.const (Value.int IntKind.i64 0)) 3) 4 "vector.go:81" #[Edge.mk 0 Ground.data] none] false) (Code.cond (Operand.tmp 26) (Code.region 8 #[Oper.mk (some 27) (Op.load 22 (Operand.tmp 6)) 22 "vector.go:82" #[] none,Oper.mk (some 28) (Op.fieldAddr 308 (Operand.tmp 9) 0) 0 "vector.go:82" #[] none,Oper.mk (some 29) (Op.load 3 (Operand.tmp 28)) 3 "vector.go:82" #[Edge.mk 1 Ground.data] none,Oper.mk (some 30) (Op.move (Operand.tmp 10)) 3 "vector.go:82" #[] none,Oper.mk (some 31) (Op.build 27 #[(0,Operand.tmp 29),(1,Operand.tmp 30)]) 27 "vector.go:82" #[Edge.mk 2 Ground.data,Edge.mk 3 Ground.data] none,Oper.mk (some 32) (Op.buildSlice 22 1 #[(0,Operand.tmp 31)]) 22 "vector.go:82" #[Edge.mk 4 Ground.data] none,Oper.mk (some 33) (Op.call (Call.mk (Callee.builtin Builtin.append) #[Operand.tmp 27,Operand.tmp 32] #[22,22])) 22 "vector.go:82" #[Edge.mk 0 Ground.data,Edge.mk 5 Ground.data] none,Oper.mk none (Op.store 22 (Operand.tmp 6) (Operand.tmp 33)) 0 "vector.go:82" #[Edge.mk 6 Ground.data,Edge.mk 6 Ground.chain,Edge.mk 0 Ground.phase,Edge.mk 1 Ground.phase,Edge.mk 2 Ground.phase,Edge.mk 3 Ground.phase,Edge.mk 4 Ground.phase,Edge.mk 5 Ground.phase,Edge.mk 6 Ground.phase] none] false) Code.skip)))),ah.box [AV.sl 2 false (au A)],ah.box [AV.sl 2 false (au B)],ah.box [AV.lit (Value.func (Fn.func 410) (Array.mk []) (Array.mk []))],ah.box [AV.aU 7 g 0 (length v)],ah.aH,ah.aH,ah.aN (g+1) 2 false (au (v++[(d,fu x y)])),ah.box [int d,int x,int y],ah.box [int d,int x,int y]]from(⟨.inl rfl,.inl rfl,.inl rfl,.inl rfl,.inl rfl,.inl rfl,.inl rfl,.inl (by simp only[Go.bH.gy,Go.bH.sN]),.inl rfl,.inl rfl,yO⟩)),kp (show g=g from(rfl)),kp (show length v=length (au v)from((Go.bH.ay _).symm)),kp (show(length v+1)*16<=140737488355328 from zO),kp (show ∀(x_1:List AV),x_1∈au (v++[(d,fu x y)])->AV.aM [] x_1=true from(Go.bH.bJ _))]) (fun _=>zQ))) e1 e2
 .have h:=h.2 c1;obtain⟨e1,e2⟩:=h;exact dY.to ((show dY P G 0 [AV.agg [int d,int x,int y]] (q1 410 A B g v++[ah.box [int d,int x,int y]]) true [lq,ah.box [AV.sl 2 false (au A)],ah.box [AV.sl 2 false (au B)],ah.box [AV.lit (Value.func (Fn.func 410) (Array.mk []) (Array.mk []))],ah.box [AV.aU 7 g 0 (length v)],ah.aH,ah.aH,ah.aN g 2 false (au v),ah.box [int d,int x,int y]]from jI (fun _=>[kc [] bS,kf (y16 c1),kp (show ∀(x:List AV),x∈au v->AV.aM [] x=true from(Go.bH.bJ _))]) (fun _=>zQ))) e1 e2
theorem gy0(A B:List D)(d x y:Int):Y0 410 fu A B d x y:=by
 unfold Y0;by_cases h:fu x y>0
 .rw [yL h];exact dY.pY (aeH A B d x y true _ ⟨fun _=>⟨rfl,rfl⟩,fun h'=>absurd h h'⟩) ⟨.inl rfl,.inl rfl,.inl rfl,.inl rfl,.inl rfl,.inr yO,.inr yO,.inl rfl,yO⟩
 .rw [yK h];exact aeH A B d x y true _ ⟨fun h'=>absurd h' h,fun _=>⟨rfl,rfl⟩⟩
theorem gy1(A B v:List D)(g:Nat)(d x y:Int)(hv:v.length<=3000000000):Y1 410 fu A B v g d x y:=by
 unfold Y1;by_cases h:fu x y>0
 .rw [yL h];exact aeI A B v g d x y true _ hv ⟨fun _=>⟨rfl,rfl⟩,fun h'=>absurd h h'⟩
 .rw [yK h];exact aeI A B v g d x y true _ hv ⟨fun h'=>absurd h' h,fun _=>⟨rfl,rfl⟩⟩
theorem ac6(a b:List D)(h:True):ak P G 266 [bB a,bB b] [] (aS.ret (AV.fn (Fn.func 293) [] [AV.ptr 0 0,AV.ptr 1 0])) [ah.box [bB a],ah.box [bB b]]:=by
 have _:=h;exact aj [] zQ
theorem ac7(a b:List D):ak P G 266 [bB a,bB b] [] (.ret (.fn (.func 293) [] [.ptr 0 0,.ptr 1 0])) [.box [bB a],.box [bB b]]:=ac6 a b trivial
def PV(f:Nat)(A B:List D):St:={ aL:=aC 91 [(0,.yl 0),(1,.ptr 1 0),(2,.ptr 2 0)],H:=q0 f A B }
def K8(f:Nat)(A B:List D)(g:Nat)(v:List D):St:={ aL:=aC 91 [(0,.yl 0),(1,.ptr 1 0),(2,.ptr 2 0)],H:=q1 f A B g v }
section
variable (f:Nat) (tk:Int->Int->Int)
 (hy0:∀A B d x y,dY P G 0 [.agg [int d,int x,int y]] (q0 f A B++[.box [int d,int x,int y]]) true (if tk x y>0 then q1 f A B 0 [(d,tk x y)]else q0 f A B++[.box [int d,int x,int y]]))
 (hy1:∀A B v g d x y,v.length<=3000000000->dY P G 0 [.agg [int d,int x,int y]] (q1 f A B g v++[.box [int d,int x,int y]]) true (if tk x y>0 then q1 f A B (g+1) (v++[(d,tk x y)])++[.box [int d,int x,int y]]else q1 f A B g v++[.box [int d,int x,int y]]))
 include hy1
end
theorem aoP(a b:List D)(ha:a.length<=1000000000)(hb:b.length<=1000000000)(he:¬fM a b=0)(f:Nat)(h:True):Cq 199 [.agg [rl f],bB a,bB b] (.bq [bB [],int (fM a b)]):=by
 exact ak.out ((show Cq 199 [.agg [rl f],bB a,bB b] (.bq [aK,int (fM a b)])from aj [kc [] (@PX (a) (b) zO zO),kt (show(fM a b != 0)=true from(y27 (qF zO)))])) (aF.iM ⟨(aF.nil _),y29,yO⟩)
theorem alq(f:Nat)(a b:List D)(ha:a.length<=1000000000)(hb:b.length<=1000000000)(he:¬fM a b=0):Cq 199 [.agg [rl f],bB a,bB b] (.bq [bB [],int (fM a b)]):=aoP a b ha hb he f trivial
end Go.bH
namespace Go.bV
open Go Go.Am Go.Proofs Go.eY Go.bH Go.yU
def zK:AV:=.lit (.agg #[.int .i64 0,.nilFunc])
theorem Sm k(h : -9223372036854775808<=k/\k<9223372036854775808):∃l,keyOf P 3 (.int .i64 k)=some l :=
 ⟨_,Maps.keyOf_int_mk Tryz.underlying3 (by simp[Lit.wf,IntKind.min,IntKind.signed,IntKind.bits];omega)⟩
theorem PY:∀e∈iF,∃l,keyOf P 3 e.1=some l:=by
 intro e he;simp only[iF,yH,y12,or_false]at he;rcases he with rfl|rfl|rfl|rfl|rfl|rfl|rfl|rfl<;>exact Sm _ zD
def partOf(k:Int):Int:=if k=1\/k=2 then 1 else if k=3\/k=4 then 2 else if k=5 then 3 else if k=6\/k=7\/k=8 then 4 else 0
theorem kg{k p}{f}(hk : -9223372036854775808<=k/\k<9223372036854775808)(h:(.int .i64 k,.agg [int p,gP f])∈iF):bT P 3 iF (.int .i64 k) zK (.agg [int p,gP f]) true :=
 ⟨Maps.int_keyed Tryz.underlying3,Sm k hk,PY,.inl ⟨rfl,h⟩⟩
theorem kg1:bT P 3 iF (.int .i64 1) zK (.agg [int 1,gP 400]) true:=kg zD (by simp[iF])
theorem kg2:bT P 3 iF (.int .i64 2) zK (.agg [int 1,gP 402]) true:=kg zD (by simp[iF])
theorem aoR(o:OP)(l:List D)(f:Int)(hw:Cq 28 [aK,eG (o.dv,o.sq)] (.bq [bB l,int f]))(hf:¬f=0)(h:True):Cq 25 [op o] (int 170):=by
 exact aj [kc [] hw,kt (y27 (qF zO)),kO,kO,kO,kO]
theorem aoS(o:OP)(l:List D)(hw:Cq 28 [aK,eG (o.dv,o.sq)] (.bq [bB l,int 0]))(ht:o.tm<1)(h:True):Cq 25 [op o] (int 170):=by
 exact aj [kc [] hw,kY,ki (o.tm<1),kO,kO,kO]
theorem aoT(o:OP)(l:List D)(hw:Cq 28 [aK,eG (o.dv,o.sq)] (.bq [bB l,int 0]))(ht:1<=o.tm)(ht2:1099511627776<o.tm)(h:True):Cq 25 [op o] (int 170):=by
 exact aj [kc [] hw,kY,kj (o.tm<1),ki (o.tm>1099511627776),kO,kO]
theorem F9(o:OP)(l:List D)(f:Int)(hw:Cq 28 [aK,eG (o.dv,o.sq)] (.bq [bB l,int 0]))(ht:1<=o.tm)(ht2:o.tm<=1099511627776)(hv:Cq 61 [bB o.cx] (int f))(hf:¬f=0)(h:True):Cq 25 [op o] (int 170):=by
 exact aj [kc [] hw,kY,kj (o.tm<1),kj (o.tm>1099511627776),kc [] hv,kt (y27 (qF zO)),kO]
theorem jg(o:OP)(l:List D)(hw:Cq 28 [aK,eG (o.dv,o.sq)] (.bq [bB l,int 0]))(ht:1<=o.tm)(ht2:o.tm<=1099511627776)(hv:Cq 61 [bB o.cx] (int 0))(hc:Cq 27 [bB o.cx,eG (o.dv,o.sq)] (bool true))(h:True):Cq 25 [op o] (int 170):=by
 exact aj [kc [] hw,kY,kj (o.tm<1),kj (o.tm>1099511627776),kc [] hv,kY,kc [] hc,kO]
theorem PZ{k p:Int}{F:Nat}(hF:k=1/\F=400\/k=2/\F=402\/k=3/\F=404\/k=4/\F=405\/k=5/\F=406\/k=6/\F=407\/k=7/\F=408\/k=8/\F=409)(hM:bT P 3 iF (.int .i64 k) zK (.agg [int p,gP F]) true)(o:OP)(l:List D)(b:Bool)(v:Int)(hcx:o.cx.length<=1000000000)(hw:Cq 28 [aK,eG (o.dv,o.sq)] (.bq [bB l,int 0]))(ht:1<=o.tm)(ht2:o.tm<=1099511627776)(hv:Cq 61 [bB o.cx] (int 0))(hc:Cq 27 [bB o.cx,eG (o.dv,o.sq)] (bool false))(hk:Cq F [Ki o k] (bool b))(hr:Cq 94 [Ki o k] (op (mQ o k)))(hs:Cq 93 [op (mQ o k),op Kj] (bool (decide (mQ o k=Kj))))(h:(((o.pk=p)->((((↑(ByteArray.size o.pn):Int)>64)->170=v)/\((¬(↑(ByteArray.size o.pn):Int)>64)->((((b)=true)->(((mQ o k=Kj)->0=v)/\((¬mQ o k=Kj)->170=v)))/\(((b)=false)->170=v)))))/\((¬o.pk=p)->170=v))):Cq 25 [Ki o k] (int v):=by
 let x0:AV:=AV.agg [int p,gP F];let r0:=mQ o k;rcases hF with⟨rfl,rfl⟩|⟨rfl,rfl⟩|⟨rfl,rfl⟩|⟨rfl,rfl⟩|⟨rfl,rfl⟩|⟨rfl,rfl⟩|⟨rfl,rfl⟩|⟨rfl,rfl⟩
 all_goals
  have fT:decide (o.tm<1)=false:=(qF zO);have jw:decide (o.tm>1099511627776)=false:=(qF zO);have PW:Cq 93 [.agg [int (OP.dv (r0)),int (OP.sq (r0)),int (OP.tm (r0)),.sl 2 false [],int (OP.pk (r0)),str (OP.pn (r0)),int (OP.kd (r0)),int (OP.f1 (r0)),int (OP.f2 (r0)),int (OP.f3 (r0)),int (OP.t1 (r0)),int (OP.t2 (r0)),int (OP.t3 (r0)),str (OP.ky (r0)),str (OP.vl (r0)),int (OP.n (r0)),Am.bool (OP.on (r0))],.agg [int 0,int 0,int 0,aK,int 0,str (ByteArray.mk #[]),int 0,int 0,int 0,int 0,int 0,int 0,int 0,str (ByteArray.mk #[]),str (ByteArray.mk #[]),int 0,Am.bool false]] (Am.bool (decide (r0=Kj))):=(ak.qp hs ⟨y29,aF.qo ⟨y29,y29,y29,(aF.nil _),y29,y29,y29,y29,y29,y29,y29,y29,y29,y29,y29,y29,y29,yO⟩,yO⟩);by_cases c3:(o.pk=p)
  .have h:=h.1 c3;have OG:(o.pk != p)=false:=(y27 (nW.2 c3));by_cases c4:((↑(ByteArray.size o.pn):Int)>64)
   .have h:=h.1 c4;exact aA (aF.int_eq h) [kc [] hw,kY,kf fT,kf jw,kc [] hv,kY,kc [] hc,kY,ko (bC.lJ x0 true),kp hM,kY,kf OG,kt (qT c4),kO,kO]
   .have h:=h.2 c4;rcases y00 ((b))with c5|c5
    .have h:=h.1 c5;have Qy:(!b)=false:=(y27 (c5));by_cases c6:(r0=Kj)
     .have h:=h.1 c6;exact aA (aF.int_eq h) [kc [] hw,kY,kf fT,kf jw,kc [] hv,kY,kc [] hc,kY,ko (bC.lJ x0 true),kp hM,kY,kf OG,kf (qF c4),kc [] hk,kf Qy,kc [] hr,kc [] PW,kf (show(!decide (r0=Kj))=false from(y27 (qT c6)))]
     .have h:=h.2 c6;exact aA (aF.int_eq h) [kc [] hw,kY,kf fT,kf jw,kc [] hv,kY,kc [] hc,kY,ko (bC.lJ x0 true),kp hM,kY,kf OG,kf (qF c4),kc [] hk,kf Qy,kc [] hr,kc [] PW,kt (show(!decide (r0=Kj))=true from(y27 (qF c6)))]
    .have h:=h.2 c5;exact aA (aF.int_eq h) [kc [] hw,kY,kf fT,kf jw,kc [] hv,kY,kc [] hc,kY,ko (bC.lJ x0 true),kp hM,kY,kf OG,kf (qF c4),kc [] hk,kt (show(!b)=true from(y27 (c5))),kO]
  .have h:=h.2 c3;exact aA (aF.int_eq h) [kc [] hw,kY,kf fT,kf jw,kc [] hv,kY,kc [] hc,kY,ko (bC.lJ x0 true),kp hM,kY,kt (show(o.pk != p)=true from(y27 (qN.2 c3))),kO,kO,kO]
structure Okn(o:OP):Prop where
 cx:o.cx.length<=1000000000
 kd : -9223372036854775808<=o.kd/\o.kd<9223372036854775808
 f3 : -9223372036854775808<=o.f3/\o.f3<9223372036854775808
def qW(o:OP):Bool:=gQ (o.dv,o.sq)&&decide (o.tm>=1)&&decide (o.tm<=1099511627776)&&Cw o.cx && !cZ o.cx (o.dv,o.sq)
def aat(o:OP):Bool:=decide (o.pk=partOf o.kd)&&decide ((o.pn.size:Int)<=64)&&dO o o.kd&&decide (mQ o o.kd=Kj)
def rM(o:OP):Bool:=qW o&&decide (1<=o.kd)&&decide (o.kd<=8)&&aat o
def lM(o:OP):Int:=if rM o=true then 0 else 170
theorem zY(o:OP)(k:Int)(b:Bool)(hb:b=dO o k)(hk:o.kd=k)(hs:qW o=true)(h1:1<=k)(h8:k<=8)(h:∀v,(((o.pk=partOf k->((((o.pn.size:Int)>64->170=v)/\(¬(o.pn.size:Int)>64->((b=true->((mQ o k=Kj->0=v)/\(¬mQ o k=Kj->170=v)))/\(b=false->170=v))))))/\(¬o.pk=partOf k->170=v)))->Cq 25 [Ki o k] (int v)) :
 Cq 25 [op o] (int (lM o)):=by
 rw[<- ag3 o k hk];apply h;subst hk hb;have e:rM o=aat o:=by simp[rM,hs,h1,h8]
 unfold lM;rw[e];unfold aat;refine⟨fun a=>⟨fun b=>?_,fun b=>⟨fun c=>⟨fun d=>?_,fun d=>?_⟩,fun c=>?_⟩⟩,fun a=>?_⟩
 .grind
 .rw [yL];simp only[y04,y05];exact⟨⟨⟨a,zO⟩,c⟩,d⟩
 .rw [yK];intro hq;simp only[y04,y05]at hq;exact d hq.2
 .rw [yK];intro hq;simp only[y04,y05]at hq;rw[c]at hq;exact absurd hq.1.2 zD
 .rw [yK];intro hq;simp only[y04,y05]at hq;exact a hq.1.1.1
theorem aav(o:OP)k:(mQ o k).cx=[]:=by unfold mQ;split<;>rfl
theorem nO(o:OP)(k:Int):Cq 93 [op (mQ o k),op Kj] (bool (decide (mQ o k=Kj))):=zG _ _ (by rw[aav];simp)
theorem K9(o:OP)(h:rM o=false)(hc:Cq 25 [op o] (int 170)):Cq 25 [op o] (int (lM o)):=by grind[lM]
end Go.bV
namespace Go.bV
open Go Go.Am Go.Proofs Go.eY Go.bH Go.yU
abbrev Sv(n:Int):Prop := -9223372036854775808<=n/\n<9223372036854775808
structure Fw(o:OP):Prop where
 dv:Sv o.dv
 sq:Sv o.sq
 tm:Sv o.tm
 cx:∀d∈o.cx,Sv d.1/\Sv d.2
 pk:Sv o.pk
 kd:Sv o.kd
 f1:Sv o.f1
 f2:Sv o.f2
 f3:Sv o.f3
 t1:Sv o.t1
 t2:Sv o.t2
 t3:Sv o.t3
 n:Sv o.n
end Go.bV
namespace Go.Dc
open Go Go.Am Go.Proofs Go.eY Go.bH
open Go.bV (OP jy Sv Fw)
open Go.Sq (CE)
open Go.Bd (BE)
open Go.Tx (MK)
theorem ayY:Tryz.prog.cellsOf 3=1:=zQ
theorem ays:Tryz.prog.cellsOf 4=1:=zQ
theorem ax8:Tryz.prog.cellsOf 9=1:=zQ
theorem ax9:Tryz.prog.cellsOf 27=2:=zQ
theorem ayt:Tryz.prog.cellsOf 22=1:=zQ
theorem axS:Tryz.prog.cellsOf 29=2:=zQ
theorem zID:Tryz.prog.cellsOf 31=3:=zQ
theorem awW:Tryz.prog.cellsOf 79=9:=zQ
theorem aya:Tryz.prog.cellsOf 60=1:=zQ
theorem awX:Tryz.prog.cellsOf 75=5:=zQ
theorem ayb:Tryz.prog.cellsOf 61=1:=zQ
theorem ayc:Tryz.prog.cellsOf 113=3:=zQ
theorem ayu:Tryz.prog.cellsOf 62=1:=zQ
theorem awY:Tryz.prog.cellsOf 116=11:=zQ
theorem ayd:Tryz.prog.cellsOf 63=1:=zQ
theorem ayv:Tryz.prog.cellsOf 65=2:=zQ
theorem avO:Tryz.prog.cellsOf 67=7:=zQ
theorem axK:Tryz.prog.cellsOf 23=1:=zQ
theorem ayZ:Tryz.prog.cellsOf 25=2:=zQ
noncomputable def NK:zA Tryz.prog 3 Int:=zA.int Tryz.underlying3 ayY
noncomputable def ahE:zA Tryz.prog 9 yP:=zA.str Tryz.underlying9 ax8
noncomputable def alT:zA Tryz.prog 4 Bool:=zA.bool Tryz.underlying4 ays
noncomputable def alU:zA Tryz.prog 27 D:=zA.struct Tryz.underlying27 zQ (oM.cons NK rfl (oM.cons NK zQ oM.nil)) (fun a=>(a.1,a.2.1)) bH.aQ (fun _=>rfl) (fun _=>ax9.symm)
noncomputable def ahF:zA Tryz.prog 22 (List D):=zA.slice Tryz.underlying22 ayt (by rw[ax9];decide) alU
theorem aa0(v:List D):ahF.aQ v=[bB v]:=by
 show[AV.sl (Tryz.prog.cellsOf 27) false (v.map bH.aQ)]=[AV.sl 2 false (v.map bH.aQ)];rw[ax9]
noncomputable def alV:zA Tryz.prog 29 (Int×yP):=zA.struct Tryz.underlying29 zQ (oM.cons NK rfl (oM.cons ahE zQ oM.nil)) (fun a=>(a.1,a.2.1)) (fun a=>[Am.int a.1,Am.str a.2]) (fun _=>rfl) (fun _=>axS.symm)
noncomputable def kID:zA Tryz.prog 31 (Int×Int×Int):=zA.struct Tryz.underlying31 zQ (oM.cons NK rfl (oM.cons NK zQ (oM.cons NK zQ oM.nil))) (fun a=>(a.1,a.2.1,a.2.2.1)) (fun a=>[Am.int a.1,Am.int a.2.1,Am.int a.2.2]) (fun _=>rfl) (fun _=>zID.symm)
abbrev ACl:=(Int×Int×Int)×(Int×Int×Int)×Int×yP×Bool×Unit
noncomputable def axT:zA Tryz.prog 79 CE:=zA.struct Tryz.underlying79 zQ (oM.cons kID rfl (oM.cons kID zQ (oM.cons NK zQ (oM.cons ahE zQ (oM.cons alT zQ oM.nil)))))
 (fun a:ACl=>⟨a.1.1,a.1.2.1,a.1.2.2,a.2.1.1,a.2.1.2.1,a.2.1.2.2,a.2.2.1,a.2.2.2.1,a.2.2.2.2.1⟩) Sq.aQ (fun a:ACl=>rfl) (fun _=>awW.symm)
noncomputable def aq0:zA Tryz.prog 60 (List CE):=zA.slice Tryz.underlying60 aya (by rw[awW];decide) axT
theorem aq1(v:List CE):aq0.aQ v=[Sq.bZ v]:=by
 show[AV.sl (Tryz.prog.cellsOf 79) false (v.map Sq.aQ)]=[AV.sl 9 false (v.map Sq.aQ)];rw[awW]
abbrev ABd:=yP×D×Int×yP×Unit
noncomputable def axU:zA Tryz.prog 75 BE:=zA.struct Tryz.underlying75 zQ (oM.cons ahE rfl (oM.cons alU zQ (oM.cons NK zQ (oM.cons ahE zQ oM.nil))))
 (fun a:ABd=>⟨a.1,a.2.1.1,a.2.1.2,a.2.2.1,a.2.2.2.1⟩) Bd.aQ (fun a:ABd=>rfl) (fun _=>awX.symm)
noncomputable def avP:zA Tryz.prog 61 (List BE):=zA.slice Tryz.underlying61 ayb (by rw[awX];decide) axU
theorem avQ(v:List BE):avP.aQ v=[Bd.iK v]:=by
 show[AV.sl (Tryz.prog.cellsOf 75) false (v.map Bd.aQ)]=[AV.sl 5 false (v.map Bd.aQ)];rw[awX]
noncomputable def ayw:zA Tryz.prog 113 TL:=zA.struct Tryz.underlying113 zQ (oM.cons NK rfl (oM.cons NK zQ (oM.cons NK zQ oM.nil))) (fun a=>(a.1,a.2.1,a.2.2.1)) ze (fun _=>rfl) (fun _=>ayc.symm)
noncomputable def awZ:zA Tryz.prog 62 (List TL):=zA.slice Tryz.underlying62 ayu (by rw[ayc];decide) ayw
theorem awi(v:List TL):awZ.aQ v=[mF v]:=by
 show[AV.sl (Tryz.prog.cellsOf 113) false (v.map ze)]=[AV.sl 3 false (v.map ze)];rw[ayc]
abbrev AMk:=D×Int×(Int×Int×Int)×(Int×Int×Int)×Int×Bool×Unit
noncomputable def axV:zA Tryz.prog 116 MK:=zA.struct Tryz.underlying116 zQ (oM.cons alU rfl (oM.cons NK zQ (oM.cons kID zQ (oM.cons kID zQ (oM.cons NK zQ (oM.cons alT zQ oM.nil))))))
 (fun a:AMk=>⟨a.1.1,a.1.2,a.2.1,a.2.2.1.1,a.2.2.1.2.1,a.2.2.1.2.2,a.2.2.2.1.1,a.2.2.2.1.2.1,a.2.2.2.1.2.2,a.2.2.2.2.1,a.2.2.2.2.2.1⟩) Tx.aQ (fun a:AMk=>rfl) (fun _=>awY.symm)
noncomputable def avR:zA Tryz.prog 63 (List MK):=zA.slice Tryz.underlying63 ayd (by rw[awY];decide) axV
theorem avS(v:List MK):avR.aQ v=[Tx.oI v]:=by
 show[AV.sl (Tryz.prog.cellsOf 116) false (v.map Tx.aQ)]=[AV.sl 11 false (v.map Tx.aQ)];rw[awY]
abbrev ATx:=List CE×List MK×Unit
noncomputable def ayx:zA Tryz.prog 65 (List CE×List MK):=zA.struct Tryz.underlying65 zQ (oM.cons aq0 rfl (oM.cons avR zQ oM.nil)) (fun a:ATx=>(a.1,a.2.1)) (fun t=>[Sq.bZ t.1,Tx.oI t.2]) (fun a:ATx=>by
 show[Sq.bZ a.1,Tx.oI a.2.1]=aq0.aQ a.1++(avR.aQ a.2.1++[]);rw[aq1,avS];rfl) (fun _=>ayv.symm)
abbrev AFd:=(Int×yP)×List CE×List BE×List TL×(List CE×List MK)×Unit
noncomputable def aw0:zA Tryz.prog 67 FD:=zA.struct Tryz.underlying67 zQ (oM.cons alV rfl (oM.cons aq0 zQ (oM.cons avP zQ (oM.cons awZ zQ (oM.cons ayx zQ oM.nil)))))
 (fun a:AFd=>⟨a.1.1,a.1.2,a.2.1,a.2.2.1,a.2.2.2.1,a.2.2.2.2.1.1,a.2.2.2.2.1.2⟩) jB (fun a:AFd=>by
  show jB _=[Am.int a.1.1,Am.str a.1.2]++(aq0.aQ a.2.1++(avP.aQ a.2.2.1++(awZ.aQ a.2.2.2.1++([Sq.bZ a.2.2.2.2.1.1,Tx.oI a.2.2.2.2.1.2]++[]))));rw[aq1,avQ,awi];rfl) (fun _=>avO.symm)
noncomputable def auk:zA Tryz.prog 23 (List FD):=zA.slice Tryz.underlying23 axK (by rw[avO];decide) aw0
theorem avE(v:List FD):auk.aQ v=[Md v]:=by
 show[AV.sl (Tryz.prog.cellsOf 67) false (v.map jB)]=[AV.sl 7 false (v.map jB)];rw[avO]
abbrev ADo:=List D×List FD×Unit
noncomputable def ayy:zA Tryz.prog 25 DO:=zA.struct Tryz.underlying25 zQ (oM.cons ahF rfl (oM.cons auk zQ oM.nil)) (fun a:ADo=>⟨a.1,a.2.1⟩) (fun d=>[bB d.sn,Md d.fs]) (fun a:ADo=>by
 show[bB a.1,Md a.2.1]=ahF.aQ a.1++(auk.aQ a.2.1++[]);rw[aa0,avE];rfl) (fun _=>ayZ.symm)
abbrev pU:Nat:=9223372036854775807
structure ayz(f:FD):Prop where
 pk:Sv f.pk
 pn:f.pn.size<=pU
 lc:f.ce.length<=pU
 rc:∀x∈f.ce,Sq.Cu x/\Sv x.tm/\x.vl.size<=pU
 lb:f.bi.length<=pU
 rb:∀x∈f.bi,(Sv x.dv/\Sv x.sq/\Sv x.tm)/\x.ky.size<=pU/\x.vl.size<=pU
 la:f.ta.length<=pU
 ra:∀x∈f.ta,Sv x.1/\Sv x.2.1/\Sv x.2.2
 lt:f.tc.length<=pU
 rt:∀x∈f.tc,Sq.Cu x/\Sv x.tm/\x.vl.size<=pU
 lm:f.tm.length<=pU
 rm:∀x∈f.tm,Tx.OkM x
structure avT(d:DO):Prop where
 ls:d.sn.length<=pU
 rs:∀x∈d.sn,Sv x.1/\Sv x.2
 lf:d.fs.length<=pU
 rf:∀f∈d.fs,ayz f
theorem aur{i:D}(h:alU.good i):Sv i.1/\Sv i.2:=by
 obtain⟨⟨_,_,_⟩,rfl,f1,f2,_⟩:=h;exact⟨f1,f2⟩
theorem auu{i:Int×Int×Int}(h:kID.good i):Sv i.1/\Sv i.2.1/\Sv i.2.2:=by
 obtain⟨⟨_,_,_,_⟩,rfl,f1,f2,f3,_⟩:=h;exact⟨f1,f2,f3⟩
theorem avF{c:CE}(h:axT.good c):Sq.Cu c/\Sv c.tm/\c.vl.size<=pU:=by
 obtain⟨⟨_,_,_,_,_,_⟩,rfl,f1,f2,f3,f4,_⟩:=h;exact⟨⟨auu f1,auu f2⟩,f3,f4⟩
theorem aw1{b:BE}(h:axU.good b):(Sv b.dv/\Sv b.sq/\Sv b.tm)/\b.ky.size<=pU/\b.vl.size<=pU:=by
 obtain⟨⟨_,_,_,_,_⟩,rfl,f1,f2,f3,f4,_⟩:=h;have h2:=aur f2;exact⟨⟨h2.1,h2.2,f3⟩,f1,f4⟩
theorem axL{t:TL}(h:ayw.good t):Sv t.1/\Sv t.2.1/\Sv t.2.2:=by
 obtain⟨⟨_,_,_,_⟩,rfl,f1,f2,f3,_⟩:=h;exact⟨f1,f2,f3⟩
theorem aw2{m:MK}(h:axV.good m):Tx.OkM m:=by
 obtain⟨⟨_,_,_,_,_,_,_⟩,rfl,f1,f2,f3,f4,f5,_⟩:=h;have h1:=aur f1;have h3:=auu f3;have h4:=auu f4;exact⟨h1.1,h1.2,f2,h3.1,h3.2.1,h3.2.2,h4.1,h4.2.1,h4.2.2,f5⟩
theorem awj{f:FD}(h:aw0.good f):ayz f:=by
 obtain⟨⟨⟨_,_⟩,_,_,_,⟨_,_⟩,_⟩,rfl,⟨⟨_,_,_⟩,ep,p1,p2,_⟩,f2,f3,f4,⟨⟨_,_,_⟩,et,t1,t2,_⟩,_⟩:=h;cases ep;cases et;exact⟨p1,p2,f2.1,fun x hx=>avF (f2.2 x hx),f3.1,fun x hx=>aw1 (f3.2 x hx),f4.1,fun x hx=>axL (f4.2 x hx),t1.1,fun x hx=>avF (t1.2 x hx),t2.1,fun x hx=>aw2 (t2.2 x hx)⟩
theorem axM{d:DO}(h:ayy.good d):avT d:=by
 obtain⟨⟨_,_,_⟩,rfl,f1,f2,_⟩:=h;exact⟨f1.1,fun x hx=>aur (f1.2 x hx),f2.1,fun x hx=>awj (f2.2 x hx)⟩
section
variable {H:Type} {en:TypeId×Value->H} {W:World} {base:Nat} {v:Value} {d:DataW H} {ps:List MemPlace}
theorem awk{α:Type}{t:TypeId}{fs:Array Field}(c:zA Tryz.prog t α)(hu:Tryz.prog.underlying t=some (.struct fs))(hv:Value.okWide Tryz.prog W .any base t v)(h:DataW.Trod en Tryz.prog W 0 (fun _=>true) true t v d ps):∃a,c.good a/\dI (nA W) (.agg (c.aQ a)) v:=by
 have hagg:∃cs,v = .agg cs:=by
  unfold Value.okWide at hv;rw[hu]at hv;exact⟨_,hv.choose_spec.1⟩
 obtain⟨⟨cs⟩,rfl⟩:=hagg;obtain⟨n,hn⟩:=h;have hn':DataW.trod en Tryz.prog W 0 (fun _=>true) true n t cs=some (d,ps):=hn;obtain⟨o,g,hl,hp⟩:=c.rd hn';exact⟨o,g,.agg _ _ hl fun j hj=>.pure _ _ (hp j (by rw[hl];exact hj)).1⟩
theorem awl(hv:Value.okWide Tryz.prog W .any base 25 v)(h:DataW.Trod en Tryz.prog W 0 (fun _=>true) true 25 v d ps):∃x:DO,avT x/\dI (nA W) (kI x) v:=by
 obtain⟨a,h1,h2⟩:=awk ayy Tryz.underlying25 hv h;exact⟨a,axM h1,h2⟩
end
end Go.Dc
namespace Go.Dc
open Go Go.Am Go.Proofs Go.eY Go.bH
def fzS(a:Int)(s:yP)(i j:Int):St:={ aL:=aC 49 [(0,aK),(2,Ph),(4,.ptr 0 0),(8,int 0),(9,int i),(10,int j)],H:=[zP a s] }
def fzX(a:Int)(s:yP)(i:Int):St:={ aL:=aC 49 [(0,aK),(2,Ph),(4,.ptr 0 0),(8,int 0),(9,int i)],H:=[zP a s] }
theorem anN(a:Int)(s:yP)(i j:Int)(wQ:¬i<j)(h:True):Rq 0 43 0 (fzS a s i j) (bF.exit 0) (fzX a s i):=by
 exact aG [kj (i<j)] (aB 49 [0,2,4,8,9]) 1
theorem anO(a:Int)(s:yP)(hL:Rq 0 43 0 (fzS a s 0 0) (.exit 0) (fzX a s 0))(h:True):Cq 43 [aK,pt a s,Ph] (.bq [int 0,Am.bool false]):=by
 exact aj [kl (rG [(1,1),(3,1),(5,3),(11,38)]) 1 hL,kY]
theorem amZ(a:Int)(s:yP):Cq 43 [aK,pt a s,Ph] (.bq [int 0,Am.bool false]):=anO a s (anN a s 0 0 zO yO) trivial
theorem eWf{n}(h : -9223372036854775808<=n/\n<9223372036854775808):(Lit.int .i64 n).wf=true:=by
 simp[Lit.wf,IntKind.min,IntKind.signed,IntKind.bits];omega
theorem agb:Maps.Keyed P 3:=Maps.int_keyed Tryz.underlying3
theorem akn{a}(h : -9223372036854775808<=a/\a<9223372036854775808):∃l,keyOf P 3 (.int .i64 a)=some l:=⟨_,Maps.keyOf_int_mk Tryz.underlying3 (eWf h)⟩
theorem uV{k}{x}(hm:(.int .i64 k,x)∈oK)(hk : -9223372036854775808<=k/\k<9223372036854775808):bT P 3 oK (.int .i64 k) zE x true :=
 ⟨agb,akn hk,fun e he=>by
  simp only[oK,yH,y12,or_false]at he;rcases he with rfl|rfl|rfl|rfl|rfl|rfl|rfl|rfl<;>exact akn zO,.inl ⟨rfl,hm⟩⟩
theorem eg1:bT P 3 oK (.int .i64 1) zE (.agg [gP 354]) true:=uV (by simp[oK]) zO
theorem eg2:bT P 3 oK (.int .i64 2) zE (.agg [gP 357]) true:=uV (by simp[oK]) zO
end Go.Dc
namespace Go.bH
open Go Go.Am
theorem uM{v}:∀n k,k+n=v.length->(y9 v n k=true↔(∀j,k<=j->∀x,v[j]?=some x->gQ x=true/\(j=0\/∃y,v[j-1]?=some y/\y.1<x.1)))
 |0,k,h=>by
  simp only[y9];grind
 |n+1,k,h=>by
  have ih:=uM (v:=v) n (k+1) zO;have bg:k<v.length:=zO
  simp only[y9,y04];have hx:=yA bg;have hat:jh v k=true↔(gQ v[k]=true/\(k=0\/∃y,v[k-1]?=some y/\y.1<v[k].1)):=by
   simp only[jh,beq_iff_eq];grind
  grind
end Go.bH
namespace Go.Dc
open Go Go.Am Go.Proofs Go.eY Go.bH
theorem za{l:List FD}{i}h(e:Int)a:(if e=0 then l.set i a else l)=l.set i (if e=0 then a else l[i]):=by
 by_cases q:e=0
 .rw [yL q,yL q]
 .simp_all
abbrev EfC(F:Nat)(o:bV.OP)(ef:FD->FD)(f:FD):Prop:=∀(l:List FD)(g i:Nat)(h:i<l.length),l[i]=f->∃e,ak P G F [.jC 0 g i 0,bV.op o] [.aN g 7 false (dA l)] (.ret (int e)) [.aN g 7 false (dA (l.set i (ef l[i])))]
def KD(o:bV.OP):Sq.CE:=⟨o.dv,o.sq,0,o.f1,o.f2,o.f3,o.tm,o.vl,false⟩
def ef1(o:bV.OP)(f:FD):FD:=if Sq.A8 f.ce (KD o)=0 then{ f with ce:=Sq.rU f.ce (KD o) }else f
def ef2(o:bV.OP)(f:FD):FD:=if Sq.Ox f.ce o.f1 o.f2 o.f3=0 then{ f with ce:=Sq.Ez f.ce o.f1 o.f2 o.f3 }else f
theorem aec{o}(h:bV.Fw o):Sq.Cu (KD o):=⟨⟨h.dv,h.sq,by show Sq.fO 0;unfold Sq.fO;omega⟩,h.f1,h.f2,h.f3⟩
variable {f:FD}{o:bV.OP}
theorem aiU(ho:bV.Fw o)(hl:f.ce.length<=999999)(hr:Sq.kQ f.ce):EfC 354 o (ef1 o) f:=fun l g i h e=>by
 subst e;have k:=aiV l i g l[i] h (yA h) o _ _ (Sq.up (Sq.KC l[i].ce (KD o) hl hr (aec ho)));rw[za h]at k;exact⟨_,k⟩
theorem aiW(hl:f.ce.length<=1000000)(hr:Sq.kQ f.ce):EfC 357 o (ef2 o) f:=fun l g i h e=>by
 subst e;have k:=aiX l i g l[i] h (yA h) o _ _ (Sq.up (Sq.aiw l[i].ce o.f1 o.f2 o.f3 hl hr));rw[za h]at k;exact⟨_,k⟩
end Go.Dc
namespace Go.Tx
open Go Go.Am Go.Proofs Go.eY
open Go.Sq (CE nP bZ oO vM fX U2 kQ jg)
theorem zh{a b}:nD a b=true↔a.tm<b.tm\/a.tm=b.tm/\(a.dv<b.dv\/a.dv=b.dv/\a.sq<b.sq):=by
 unfold nD;grind
theorem sV{a b c}(h:nD a b=true)(k:nD b c=true):nD a c=true:=by
 rw[zh]at *;omega
def rbT(l:List CE)(v:List MK):List ah:=[.box [bZ l,oI v]]
def awV(l:List CE)(v:List MK)(k:Nat):St:={ aL:=aC 81 [(1,.ptr 0 0),(4,int k)],H:=rbT l v }
theorem aCq(l:List CE)(v:List MK)(k:Nat)(hl:l.length<=1000000000)(ex:bF)(s:St)(h:((((↑k:Int)<(↑(length l):Int))->(∃x2:CE,(l[k]?=some x2)/\((((↑(ByteArray.size (CE.vl x2)):Int)=(1:Int))->Rq 0 171 0 (sM 81 [(1,.ptr 0 0),(4,int (↑(k+1):Int))] [.box [.sl 9 false (Sq.au l),.sl 11 false (au v)]]) ex s)/\((¬(↑(ByteArray.size (CE.vl x2)):Int)=(1:Int))->(bF.ret=ex)/\(sM 81 [(1,.ptr 0 0),(2,int 160)] [.box [.sl 9 false (Sq.au l),.sl 11 false (au v)]]=s)))))/\((¬(↑k:Int)<(↑(length l):Int))->(bF.exit 0=ex)/\(sM 81 [(1,.ptr 0 0)] [.box [.sl 9 false (Sq.au l),.sl 11 false (au v)]]=s)))):Rq 0 171 0 (awV l v k) ex s:=by
 have bS:Am.aF (int (↑(length (Sq.au l)):Int)) (int (↑(length l):Int)):=(aF.of_eq (by simp only[Go.Sq.ay]));by_cases c1:((↑k:Int)<(↑(length l):Int))
 .have h:=h.1 c1;obtain⟨x2,o3,h⟩:=h;have fT:(0:Int)<=(↑k:Int)/\(Sq.au l)[Int.toNat (↑k:Int)]?=some (Sq.aQ x2):=(bG o3);by_cases c4:((↑(ByteArray.size (CE.vl x2)):Int)=(1:Int))
  .have h:=h.1 c4;exact aJ [kv 16 bS,kt (y15 c1),ko (bC.elem (Sq.aQ x2)),kp fT,kf (show((↑(ByteArray.size (CE.vl x2)):Int)!=1)=false from(y27 (beq_iff_eq.2 c4))),kv 19 (show Am.aF (int (IntKind.wrap IntKind.i64 ((↑k:Int)+1))) (int (↑(k+1):Int))from(aF.TJ zO zO zO))] (aB 81 [1,4]) 1 h zQ
  .have h:=h.2 c4;obtain⟨eX,eS⟩:=h;exact bN.to ((show Rq 0 171 0 (awV l v k) bF.ret (sM 81 [(1,.ptr 0 0),(2,int 160)] [.box [.sl 9 false (Sq.au l),.sl 11 false (au v)]])from aG [kv 16 bS,kt (y15 c1),ko (bC.elem (Sq.aQ x2)),kp fT,kt (show((↑(ByteArray.size (CE.vl x2)):Int)!=1)=true from(y27 (beq_eq_false_iff_ne.2 c4)))] (aB 81 [1,2]) 1 zQ)) eX (eB.of_eq eS)
 .have h:=h.2 c1;obtain⟨eX,eS⟩:=h;exact bN.to ((show Rq 0 171 0 (awV l v k) (bF.exit 0) (sM 81 [(1,.ptr 0 0)] [.box [.sl 9 false (Sq.au l),.sl 11 false (au v)]])from aG [kv 16 bS,kf (y16 c1)] (aB 81 [1,2]) 1 zQ)) eX (eB.of_eq eS)
theorem aDm(l:List CE)(v:List MK)(hl:l.length<=1000000000):∀n k,l.length-k=n->k<=l.length->((l.drop k).all Ba=true->Rq 0 171 0 (awV l v k) (.exit 0) { aL:=aC 81 [(1,.ptr 0 0)],H:=rbT l v })/\((l.drop k).all Ba=false->Rq 0 171 0 (awV l v k) .ret { aL:=aC 81 [(1,.ptr 0 0),(2,int 160)],H:=rbT l v }):=by
 intro n
 induction n with
 |zero =>
  intro k hn hk;rw[y14 zO];exact⟨fun _=>aCq l v k hl _ _ ⟨fun h=>absurd h zO,fun _=>⟨rfl,rfl⟩⟩,fun h=>(by cases h)⟩
 |succ n ih =>
  intro k hn hk;have bg:k<l.length:=zO
  obtain⟨i1,i2⟩:=ih (k+1) zO zO;rw[y01 bg,all_cons];have ho:Ba l[k]=true↔l[k].vl.size=1:=by unfold Ba;simp
  cases hb:Ba l[k]with
  |true =>
   have h1:=ho.1 hb;rw[Bool.true_and];exact⟨fun h=>aCq l v k hl _ _ ⟨fun _=>⟨l[k],yA bg,⟨fun _=>i1 h,fun hq=>absurd zO hq⟩⟩,fun h=>absurd bg zO⟩,fun h=>aCq l v k hl _ _ ⟨fun _=>⟨l[k],yA bg,⟨fun _=>i2 h,fun hq=>absurd zO hq⟩⟩,fun h=>absurd bg zO⟩⟩
  |false =>
   have h1:¬l[k].vl.size=1:=fun h=>by rw[ho.2 h]at hb;cases hb
   rw[Bool.false_and];exact⟨fun h=>(by cases h),fun _=>aCq l v k hl _ _ ⟨fun _=>⟨l[k],yA bg,⟨fun hq=>absurd hq zO,fun _=>⟨rfl,rfl⟩⟩⟩,fun h=>absurd bg zO⟩⟩
def rcI(l:List CE)(v:List MK)(i k:Nat):St:={ aL:=aC 81 [(1,.ptr 0 0),(5,int i),(6,int k)],H:=rbT l v }
def rcX(l:List CE)(v:List MK)(i:Nat):St:={ aL:=aC 81 [(1,.ptr 0 0),(5,int i)],H:=rbT l v }
def rcQ(l:List CE)(v:List MK)(i:Nat):St:={ aL:=aC 81 [(1,.ptr 0 0),(2,int 160),(5,int i)],H:=rbT l v }
def rcR(l:List CE)(v:List MK):St:={ aL:=aC 81 [(1,.ptr 0 0),(2,int 160)],H:=rbT l v }
theorem aCr(l:List CE)(v:List MK)(i k:Nat)(y:MK)(hv:v.length<=1000000000)(hi:i<v.length)(hk:k<=i)(hy:v[i]?=some y)(ex:bF)(s:St)(h:((((↑k:Int)<(↑i:Int))->(∃x2:MK,(v[k]?=some x2)/\((((MK.dv x2==MK.dv y&&MK.sq x2==MK.sq y)=true)->(bF.ret=ex)/\(sM 81 [(1,.ptr 0 0),(2,int 160),(5,int (↑i:Int))] [.box [.sl 9 false (Sq.au l),.sl 11 false (au v)]]=s))/\(((MK.dv x2==MK.dv y&&MK.sq x2==MK.sq y)=false)->Rq 0 171 2 (sM 81 [(1,.ptr 0 0),(5,int (↑i:Int)),(6,int (↑(k+1):Int))] [.box [.sl 9 false (Sq.au l),.sl 11 false (au v)]]) ex s))))/\((¬(↑k:Int)<(↑i:Int))->(bF.exit 4=ex)/\(sM 81 [(1,.ptr 0 0),(5,int (↑i:Int))] [.box [.sl 9 false (Sq.au l),.sl 11 false (au v)]]=s)))):Rq 0 171 2 (rcI l v i k) ex s:=by
 have fT:(0:Int)<=(↑i:Int)/\(au v)[Int.toNat (↑i:Int)]?=some (aQ y):=(bG hy);by_cases c1:((↑k:Int)<(↑i:Int))
 .have h:=h.1 c1;obtain⟨x2,o3,h⟩:=h;have bS:(0:Int)<=(↑k:Int)/\(au v)[Int.toNat (↑k:Int)]?=some (aQ x2):=(bG o3);rcases y00 ((MK.dv x2==MK.dv y&&MK.sq x2==MK.sq y))with c4|c4
  .have h:=h.1 c4;obtain⟨eX,eS⟩:=h;exact bN.to ((show Rq 0 171 2 (rcI l v i k) bF.ret (sM 81 [(1,.ptr 0 0),(2,int 160),(5,int (↑i:Int))] [.box [.sl 9 false (Sq.au l),.sl 11 false (au v)]])from aG [kt (y15 c1),ko (bC.elem (aQ x2)),ko (bC.elem (aQ y)),kp bS,kp fT,kt c4] (aB 81 [1,2,5]) 1 zQ)) eX (eB.of_eq eS)
  .have h:=h.2 c4;exact aJ [kt (y15 c1),ko (bC.elem (aQ x2)),ko (bC.elem (aQ y)),kp bS,kp fT,kf c4,kv 67 (show Am.aF (int (IntKind.wrap IntKind.i64 ((↑k:Int)+1))) (int (↑(k+1):Int))from(aF.TJ zO zO zO))] (aB 81 [1,5,6]) 1 h zQ
 .have h:=h.2 c1;obtain⟨eX,eS⟩:=h;exact bN.to ((show Rq 0 171 2 (rcI l v i k) (bF.exit 4) (sM 81 [(1,.ptr 0 0),(5,int (↑i:Int))] [.box [.sl 9 false (Sq.au l),.sl 11 false (au v)]])from aG [kf (y16 c1)] (aB 81 [1,2,5]) 1 zQ)) eX (eB.of_eq eS)
theorem acI(x y:MK):(x.dv==y.dv&&x.sq==y.sq)=decide (x.eG=y.eG):=by
 rw[Bool.eq_iff_iff];simp[MK.eG]
theorem aAL(l:List CE)(v:List MK)(i:Nat)(hv:v.length<=1000000000)(hi:i<v.length):∀n k,i-k=n->k<=i->(((v.take i).drop k).any (fun c=>decide (c.eG=v[i].eG))=false->Rq 0 171 2 (rcI l v i k) (.exit 4) (rcX l v i))/\(((v.take i).drop k).any (fun c=>decide (c.eG=v[i].eG))=true->Rq 0 171 2 (rcI l v i k) .ret (rcQ l v i)):=by
 have hy:v[i]?=some v[i]:=yA hi;intro n
 induction n with
 |zero =>
  intro k hn hk;have e:(v.take i).drop k=[]:=y14 (by rw[y18];omega);rw[e];exact⟨fun _=>aCr l v i k _ hv hi hk hy _ _ ⟨fun h=>absurd h zO,fun _=>⟨rfl,rfl⟩⟩,fun h=>by cases h⟩
 |succ n ih =>
  intro k hn hk;have bg:k<v.length:=zO
  have hx:v[k]?=some v[k]:=yA bg;have hkt:k<(v.take i).length:=by rw[y18];omega
  obtain⟨i1,i2⟩:=ih (k+1) zO zO;rw[y01 hkt,any_cons,getElem_take];cases hd:decide (v[k].eG=v[i].eG)with
  |true =>
   rw[Bool.true_or];exact⟨fun h=>(by cases h),fun _=>aCr l v i k _ hv hi hk hy _ _ ⟨fun _=>⟨v[k],hx,⟨fun _=>⟨rfl,rfl⟩,fun hq=>by rw[acI,hd]at hq;cases hq⟩⟩,fun h=>absurd bg zO⟩⟩
  |false =>
   rw[Bool.false_or];exact⟨fun h=>aCr l v i k _ hv hi hk hy _ _ ⟨fun _=>⟨v[k],hx,⟨fun hq=>(by rw[acI,hd]at hq;cases hq),fun _=>i1 h⟩⟩,fun h=>absurd bg zO⟩,fun h=>aCr l v i k _ hv hi hk hy _ _ ⟨fun _=>⟨v[k],hx,⟨fun hq=>(by rw[acI,hd]at hq;cases hq),fun _=>i2 h⟩⟩,fun h=>absurd bg zO⟩⟩
def rcM(l:List CE)(v:List MK)(i:Nat):St:={ aL:=aC 81 [(1,.ptr 0 0),(5,int i)],H:=rbT l v }
def rcO(l:List CE)(v:List MK):St:={ aL:=aC 81 [(1,.ptr 0 0)],H:=rbT l v }
theorem aHs(l:List CE)(v:List MK)(i:Nat)(hk:¬(i:Int)<(v.length:Int))(h:True):Rq 0 171 1 (rcM l v i) (bF.exit 2) (rcO l v):=by
 have _:=h;exact aG [kv 31 (show Am.aF (int (↑(length (au v)):Int)) (int (↑(length v):Int))from(aF.of_eq (by simp only[Go.Tx.ay]))),kf (show decide ((↑i:Int)<(↑(length v):Int))=false from(y16 zO))] (aB 81 [1]) 1 zQ
theorem aHt(l:List CE)(v:List MK)(i:Nat)(x:MK)(hl:l.length<=1000000000)(hk:(i:Int)<(v.length:Int))(hv:v.length<=1000000000)(hx:v[i]?=some x)(hq:F8 l x=false)(h:True):Rq 0 171 1 (rcM l v i) bF.ret (rcR l v):=by
 have _:=h;exact aG [kv 31 (show Am.aF (int (↑(length (au v)):Int)) (int (↑(length v):Int))from(aF.of_eq (by simp only[Go.Tx.ay]))),kt (show decide ((↑i:Int)<(↑(length v):Int))=true from(y15 zO)),ko (bC.elem (aQ x)),kp (show(0:Int)<=(↑i:Int)/\(au v)[Int.toNat (↑i:Int)]?=some (aQ x)from(bG hx)),kc [] (@Go.Tx.aAk (l) (x) zO),kt (show(!F8 l x)=true from(y27 (hq))),kt (Eq.refl true)] (aB 81 [1,2]) 1 zQ
theorem aHu(l:List CE)(v:List MK)(i:Nat)(x:MK)(hl:l.length<=1000000000)(hk:(i:Int)<(v.length:Int))(hv:v.length<=1000000000)(hx:v[i]?=some x)(hq:F8 l x=true)(hs:(i:Int)>0)(h0:Rq 0 171 2 (rcI l v i 0) (.exit 4) (rcX l v i))(h:(∃x3:MK,((0:Int)<=(↑i:Int)-1/\v[Int.toNat ((↑i:Int)-1)]?=some x3)/\((((nD x3 x)=true)->Rq 0 171 1 (sM 81 [(1,.ptr 0 0),(5,int (↑(i+1):Int))] [.box [.sl 9 false (Sq.au l),.sl 11 false (au v)]]) bF.ret (rcR l v))/\(((nD x3 x)=false)->True)))):Rq 0 171 1 (rcM l v i) bF.ret (rcR l v):=by
 have bS:Am.aF (int (↑(length (au v)):Int)) (int (↑(length v):Int)):=(aF.of_eq (by simp only[Go.Tx.ay]));have fT:decide ((↑i:Int)<(↑(length v):Int))=true:=(y15 zO);have jw:(0:Int)<=(↑i:Int)/\(au v)[Int.toNat (↑i:Int)]?=some (aQ x):=(bG hx);have x9:=(@Go.Tx.aAk (l) (x) zO);have Av:(!F8 l x)=false:=(y27 (hq));have qj:decide ((↑i:Int)>(0:Int))=true:=(y15 zO);have OG:Am.aF (int (IntKind.wrap IntKind.i64 ((↑i:Int)-1))) (int ((↑i:Int)-1)):=(aF.TJ zO zO rfl);obtain⟨x3,o4,h⟩:=h;have H6:(0:Int)<=(↑i:Int)-1/\(au v)[Int.toNat ((↑i:Int)-1)]?=some (aQ x3):=(qU o4);have Qy:=(@Go.Tx.aBj (x3) (x));rcases y00 ((nD x3 x))with c5|c5
 .have h:=h.1 c5;exact aJ [kv 31 bS,kt fT,ko (bC.elem (aQ x)),kp jw,kc [] x9,kf Av,kt qj,kv 51 OG,ko (bC.elem (aQ x3)),ko (bC.elem (aQ x)),kp H6,kp jw,kc [] Qy,kf (show(!nD x3 x)=false from(y27 (c5))),kl [28,29,30,31,32,35,36,37,38,39,40,41,42,43,44,45,46,47,48,49,50,51,52,53,54,55,56,57,58,59,60,61,62] 1 (@h0 ),kv 34 (show Am.aF (int (IntKind.wrap IntKind.i64 ((↑i:Int)+1))) (int (↑(i+1):Int))from(aF.TJ zO zO zO))] (aB 81 [1,5]) 1 h zQ
 .have h:=h.2 c5;have _:=h;exact aG [kv 31 bS,kt fT,ko (bC.elem (aQ x)),kp jw,kc [] x9,kf Av,kt qj,kv 51 OG,ko (bC.elem (aQ x3)),ko (bC.elem (aQ x)),kp H6,kp jw,kc [] Qy,kt (show(!nD x3 x)=true from(y27 (c5)))] (aB 81 [1,2]) 1 zQ
theorem aFW(l:List CE)(v:List MK)(i:Nat)(x:MK)(hl:l.length<=1000000000)(hk:(i:Int)<(v.length:Int))(hv:v.length<=1000000000)(hx:v[i]?=some x)(hq:F8 l x=true)(hs:(i:Int)>0)(h0:Rq 0 171 2 (rcI l v i 0) (.exit 4) (rcX l v i))(ex:bF)(s:St)(h:(∃x3:MK,((0:Int)<=(↑i:Int)-1/\v[Int.toNat ((↑i:Int)-1)]?=some x3)/\((((nD x3 x)=true)->Rq 0 171 1 (sM 81 [(1,.ptr 0 0),(5,int (↑(i+1):Int))] [.box [.sl 9 false (Sq.au l),.sl 11 false (au v)]]) ex s)/\(((nD x3 x)=false)->(bF.ret=ex)/\(sM 81 [] [.box [.sl 9 false (Sq.au l),.sl 11 false (au v)]]=s))))):Rq 0 171 1 (rcM l v i) ex s:=by
 have bS:Am.aF (int (↑(length (au v)):Int)) (int (↑(length v):Int)):=(aF.of_eq (by simp only[Go.Tx.ay]));have fT:decide ((↑i:Int)<(↑(length v):Int))=true:=(y15 zO);have jw:(0:Int)<=(↑i:Int)/\(au v)[Int.toNat (↑i:Int)]?=some (aQ x):=(bG hx);have x9:=(@Go.Tx.aAk (l) (x) zO);have Av:(!F8 l x)=false:=(y27 (hq));have qj:decide ((↑i:Int)>(0:Int))=true:=(y15 zO);have OG:Am.aF (int (IntKind.wrap IntKind.i64 ((↑i:Int)-1))) (int ((↑i:Int)-1)):=(aF.TJ zO zO rfl);obtain⟨x3,o4,h⟩:=h;have H6:(0:Int)<=(↑i:Int)-1/\(au v)[Int.toNat ((↑i:Int)-1)]?=some (aQ x3):=(qU o4);have Qy:=(@Go.Tx.aBj (x3) (x));rcases y00 ((nD x3 x))with c5|c5
 .have h:=h.1 c5;exact aJ [kv 31 bS,kt fT,ko (bC.elem (aQ x)),kp jw,kc [] x9,kf Av,kt qj,kv 51 OG,ko (bC.elem (aQ x3)),ko (bC.elem (aQ x)),kp H6,kp jw,kc [] Qy,kf (show(!nD x3 x)=false from(y27 (c5))),kl [28,29,30,31,32,35,36,37,38,39,40,41,42,43,44,45,46,47,48,49,50,51,52,53,54,55,56,57,58,59,60,61,62] 1 (@h0 ),kv 34 (show Am.aF (int (IntKind.wrap IntKind.i64 ((↑i:Int)+1))) (int (↑(i+1):Int))from(aF.TJ zO zO zO))] (aB 81 [1,5]) 1 h zQ
 .have h:=h.2 c5;obtain⟨eX,eS⟩:=h;exact bN.to ((show Rq 0 171 1 (rcM l v i) bF.ret (sM 81 [] [.box [.sl 9 false (Sq.au l),.sl 11 false (au v)]])from aG [kv 31 bS,kt fT,ko (bC.elem (aQ x)),kp jw,kc [] x9,kf Av,kt qj,kv 51 OG,ko (bC.elem (aQ x3)),ko (bC.elem (aQ x)),kp H6,kp jw,kc [] Qy,kt (show(!nD x3 x)=true from(y27 (c5)))] (aB 81 []) 1 zQ)) eX (eB.of_eq eS)
theorem aHv(l:List CE)(v:List MK)(i:Nat)(x:MK)(hl:l.length<=1000000000)(hk:(i:Int)<(v.length:Int))(hv:v.length<=1000000000)(hx:v[i]?=some x)(hq:F8 l x=true)(hs:(i:Int)>0)(h0:Rq 0 171 2 (rcI l v i 0) .ret (rcQ l v i))(h:(∃x3:MK,((0:Int)<=(↑i:Int)-1/\v[Int.toNat ((↑i:Int)-1)]?=some x3)/\((((nD x3 x)=true)->True)/\(((nD x3 x)=false)->True)))):Rq 0 171 1 (rcM l v i) bF.ret (rcR l v):=by
 have bS:Am.aF (int (↑(length (au v)):Int)) (int (↑(length v):Int)):=(aF.of_eq (by simp only[Go.Tx.ay]));have fT:decide ((↑i:Int)<(↑(length v):Int))=true:=(y15 zO);have jw:(0:Int)<=(↑i:Int)/\(au v)[Int.toNat (↑i:Int)]?=some (aQ x):=(bG hx);have x9:=(@Go.Tx.aAk (l) (x) zO);have Av:(!F8 l x)=false:=(y27 (hq));have qj:decide ((↑i:Int)>(0:Int))=true:=(y15 zO);have OG:Am.aF (int (IntKind.wrap IntKind.i64 ((↑i:Int)-1))) (int ((↑i:Int)-1)):=(aF.TJ zO zO rfl);obtain⟨x3,o4,h⟩:=h;have H6:(0:Int)<=(↑i:Int)-1/\(au v)[Int.toNat ((↑i:Int)-1)]?=some (aQ x3):=(qU o4);have Qy:=(@Go.Tx.aBj (x3) (x));rcases y00 ((nD x3 x))with c5|c5
 .have h:=h.1 c5;have _:=h;exact aG [kv 31 bS,kt fT,ko (bC.elem (aQ x)),kp jw,kc [] x9,kf Av,kt qj,kv 51 OG,ko (bC.elem (aQ x3)),ko (bC.elem (aQ x)),kp H6,kp jw,kc [] Qy,kf (show(!nD x3 x)=false from(y27 (c5))),kl [28,29,30,31,32,35,36,37,38,39,40,41,42,43,44,45,46,47,48,49,50,51,52,53,54,55,56,57,58,59,60,61,62] 1 (@h0 )] (aB 81 [1,2]) 1 zQ
 .have h:=h.2 c5;have _:=h;exact aG [kv 31 bS,kt fT,ko (bC.elem (aQ x)),kp jw,kc [] x9,kf Av,kt qj,kv 51 OG,ko (bC.elem (aQ x3)),ko (bC.elem (aQ x)),kp H6,kp jw,kc [] Qy,kt (show(!nD x3 x)=true from(y27 (c5)))] (aB 81 [1,2]) 1 zQ
theorem aFX(l:List CE)(v:List MK)(i:Nat)(x:MK)(hl:l.length<=1000000000)(hk:(i:Int)<(v.length:Int))(hv:v.length<=1000000000)(hx:v[i]?=some x)(hq:F8 l x=true)(hs:¬(i:Int)>0)(h0:Rq 0 171 2 (rcI l v i 0) (.exit 4) (rcX l v i))(ex:bF)(s:St)(h:Rq 0 171 1 (sM 81 [(1,.ptr 0 0),(5,int (↑(i+1):Int))] [.box [.sl 9 false (Sq.au l),.sl 11 false (au v)]]) ex s):Rq 0 171 1 (rcM l v i) ex s:=by
 exact aJ [kv 31 (show Am.aF (int (↑(length (au v)):Int)) (int (↑(length v):Int))from(aF.of_eq (by simp only[Go.Tx.ay]))),kt (show decide ((↑i:Int)<(↑(length v):Int))=true from(y15 zO)),ko (bC.elem (aQ x)),kp (show(0:Int)<=(↑i:Int)/\(au v)[Int.toNat (↑i:Int)]?=some (aQ x)from(bG hx)),kc [] (@Go.Tx.aAk (l) (x) zO),kf (show(!F8 l x)=false from(y27 (hq))),kf (show decide ((↑i:Int)>(0:Int))=false from(y16 zO)),kf (Eq.refl false),kl [28,29,30,31,32,35,36,37,38,39,40,41,42,43,44,45,46,47,48,49,50,51,52,53,54,55,56,57,58,59,60,61,62] 1 (@h0 ),kv 34 (show Am.aF (int (IntKind.wrap IntKind.i64 ((↑i:Int)+1))) (int (↑(i+1):Int))from(aF.TJ zO zO zO))] (aB 81 [1,5]) 1 h zQ
theorem aDo(l:List CE)(v:List MK)(hl:l.length<=1000000000)(hv:v.length<=1000000000):∀n i,v.length-i=n->i<=v.length->(y9 l v n i=true->Rq 0 171 1 (rcM l v i) (.exit 2) (rcO l v))/\(y9 l v n i=false->Rq 0 171 1 (rcM l v i) .ret (rcR l v)):=by
 intro n
 induction n with
 |zero=>intro i hn hk;exact⟨fun _=>aHs l v i zO yO,fun h=>by cases h⟩
 |succ n ih =>
  intro i hn hk;have bg:i<v.length:=zO
  have hx:v[i]?=some v[i]:=yA bg;obtain⟨n1,n2⟩:=ih (i+1) zO zO;obtain⟨i1,i2⟩:=aAL l v i hv bg i 0 zO zO;rw[drop_zero]at i1 i2;have e:y9 l v (n+1) i=(jh l v i&&y9 l v n (i+1)):=rfl;rw[e];cases hq:F8 l v[i]with
  |false =>
   have e2:jh l v i=false:=by simp only[jh,hx,hq,Bool.false_and]
   rw[e2,Bool.false_and];exact⟨fun h=>by (cases h),fun _=>aHt l v i _ hl zO hv hx hq (by first|trivial|grind)⟩
  |true =>
   by_cases h0:(i:Int)>0
   .have hy:=CY v hk h0;have hy':v[i-1]?=some (v[i-1]'zO):=yA zO;have U5:(i==0)=false:=by simp;omega
    cases hd:(v.take i).any fun c=>decide (c.eG=v[i].eG)with
    |true =>
     have e2:jh l v i=false:=by simp only[jh,hx,hd,Bool.not_true,Bool.and_false]
     rw[e2,Bool.false_and];exact⟨fun h=>by (cases h),fun _=>aHv l v i _ hl zO hv hx hq h0 (i2 hd) ⟨_,⟨zO,hy⟩,fun _=>trivial,fun _=>trivial⟩⟩
    |false =>
     cases hl':nD (v[i-1]'zO) v[i]with
     |false =>
      have e2:jh l v i=false:=by simp only[jh,hx,hy',hq,hl',U5,Bool.false_and,Bool.and_false,Bool.or_self]
      rw[e2,Bool.false_and];exact⟨fun h=>by (cases h),fun _=>aHu l v i _ hl zO hv hx hq h0 (i1 hd) ⟨_,⟨zO,hy⟩,fun h=>(by rw[hl']at h;cases h),fun _=>trivial⟩⟩
     |true =>
      have e2:jh l v i=true:=by simp only[jh,hx,hy',hq,hl',hd,Bool.true_and,Bool.or_true,Bool.not_false,Bool.and_true]
      rw[e2,Bool.true_and];exact⟨fun h=>aFW l v i _ hl zO hv hx hq h0 (i1 hd) _ _ ⟨_,⟨zO,hy⟩,fun _=>n1 h,fun h=>(by rw[hl']at h;cases h)⟩,fun h=>aFW l v i _ hl zO hv hx hq h0 (i1 hd) _ _ ⟨_,⟨zO,hy⟩,fun _=>n2 h,fun h=>(by rw[hl']at h;cases h)⟩⟩
   .have U5:(i==0)=true:=by simp;omega
    have ht:v.take i=[]:=by rw[show i=0 by omega];rfl
    rw[ht]at i1;have e2:jh l v i=true:=by simp only[jh,hx,hq,U5,ht,any_nil,Bool.true_and,Bool.true_or,Bool.not_false,Bool.and_true]
    rw[e2,Bool.true_and];exact⟨fun h=>aFX l v i _ hl zO hv hx hq h0 (i1 rfl) _ _ (n1 h),fun h=>aFX l v i _ hl zO hv hx hq h0 (i1 rfl) _ _ (n2 h)⟩
theorem aHw(t:TE)(e:Int)(he:e≠0)(hc:Cq 167 [bZ t.cells] (int e))(h:True):Cq 171 [mG t] (int e):=by
 have _:=h;exact aj [kc [] (@hc ),kt (show(e != 0)=true from(y27 (y16 zO)))] zQ
theorem aHx(t:TE)(hc:Cq 167 [bZ t.cells] (int 0))(hL:Rq 0 171 0 (awV t.cells t.bQ 0) .ret (rcR t.cells t.bQ))(h:True):Cq 171 [mG t] (int 160):=by
 have _:=h;exact aj [kc [] (@hc ),kf (Eq.refl false),kl [0,2,3,5,6,7,8,9,10,11,12,13,14,15,16,17,18,19,20,21,22,23,24,25,26,27,28,29,30,31,32,33,34,35,36,37,38,39,40,41,42,43,44,45,46,47,48,49,50,51,52,53,54,55,56,57,58,59,60,61,62,63,64,65,66,67,68,69,70,71,72,73,74,75,76,77,78,79,80] 1 (@hL )] zQ
theorem aHy(t:TE)(hc:Cq 167 [bZ t.cells] (int 0))(hL:Rq 0 171 0 (awV t.cells t.bQ 0) (.exit 0) (rcO t.cells t.bQ))(hM:Rq 0 171 1 (rcM t.cells t.bQ 0) (.exit 2) (rcO t.cells t.bQ))(h:True):Cq 171 [mG t] (int 0):=by
 have _:=h;exact aj [kc [] (@hc ),kf (Eq.refl false),kl [0,2,3,5,6,7,8,9,10,11,12,13,14,15,16,17,18,19,20,21,22,23,24,25,26,27,28,29,30,31,32,33,34,35,36,37,38,39,40,41,42,43,44,45,46,47,48,49,50,51,52,53,54,55,56,57,58,59,60,61,62,63,64,65,66,67,68,69,70,71,72,73,74,75,76,77,78,79,80] 1 (@hL ),kl [] 1 (@hM )] zQ
theorem aHz(t:TE)(hc:Cq 167 [bZ t.cells] (int 0))(hL:Rq 0 171 0 (awV t.cells t.bQ 0) (.exit 0) (rcO t.cells t.bQ))(hM:Rq 0 171 1 (rcM t.cells t.bQ 0) .ret (rcR t.cells t.bQ))(h:True):Cq 171 [mG t] (int 160):=by
 have _:=h;exact aj [kc [] (@hc ),kf (Eq.refl false),kl [0,2,3,5,6,7,8,9,10,11,12,13,14,15,16,17,18,19,20,21,22,23,24,25,26,27,28,29,30,31,32,33,34,35,36,37,38,39,40,41,42,43,44,45,46,47,48,49,50,51,52,53,54,55,56,57,58,59,60,61,62,63,64,65,66,67,68,69,70,71,72,73,74,75,76,77,78,79,80] 1 (@hL ),kl [] 1 (@hM )] zQ
theorem axh(t:TE)(hl:X4 t):Cq 171 [mG t] (int (vC t)):=by
 have hlc:=hl.cells;have hlm:=hl.bQ;have hc:=JZ (Sq.aAM t.cells zO);obtain⟨c1,c2⟩:=aDm t.cells t.bQ zO t.cells.length 0 zO zO;rw[drop_zero]at c1 c2;obtain⟨m1,m2⟩:=aDo t.cells t.bQ zO zO t.bQ.length 0 zO zO;unfold vC;by_cases h0:jg t.cells=0
 .rw [yK (by simpa using h0)];rw[h0]at hc;cases ha:t.cells.all Ba with
  |false=>rw[yK zD];exact aHx t hc (c2 ha) trivial
  |true =>
   rw[yL rfl];cases hb:Cw t.cells t.bQ with
   |true=>rw[yL rfl];exact aHy t hc (c1 ha) (m1 hb) trivial
   |false=>rw[yK zD];exact aHz t hc (c1 ha) (m2 hb) trivial
 .rw [yL h0];exact aHw t _ h0 hc trivial
end Go.Tx
namespace Go.Tx
open Go Go.Am Go.Proofs Go.eY
open Go.Sq (CE nP bZ oO vM fX U2 kQ Cu jg A8 rU mY)
theorem uM{l}{v}:∀{n k},k+n=v.length->(y9 l v n k=true↔∀j,k<=j->j<v.length->jh l v j=true)
 |0,k,h=>by
  simp only[y9,true_iff];omega
 |n+1,k,h=>by
  simp only[y9,y04,uM  (v:=v) (n:=n) (k:=k+1) zO];grind
structure OkV(l:List CE)(v:List MK):Prop where
 isM:∀m∈v,F8 l m=true
 sorted:v.Pairwise fun a b=>nD a b=true
 qV:v.Pairwise fun a b=>a.eG≠b.eG
theorem TK{l}{v}:Cw l v=true↔OkV l v:=by
 unfold Cw;rw[uM zO];constructor
 .intro h;have at_:∀j (hj:j<v.length),F8 l v[j]=true/\(0<j->nD (v[j-1]'zO) v[j]=true)/\∀i (hi:i<j),(v[i]'zO).eG≠v[j].eG:=fun j hj=>by
   have:=h j zO hj;unfold jh at this;rw[yA hj]at this;simp only[y04,Bool.or_eq_true,beq_iff_eq,Bool.not_eq_true']at this;obtain⟨h1,h2,h3⟩:=this;refine⟨h1,fun h0=>?_,fun i hi e=>?_⟩
   .grind
   .have:=any_eq_false.1 h3 (v[i]'zO) (by
     have:(v.take j)[i]'(by rw[y18];omega)=v[i]'zO:=getElem_take;rw[<- this];exact y03 _)
    simp[e]at this
  refine⟨fun m hm=>?_,pairwise_iff_getElem.2 fun i j hi hj wQ=>?_,pairwise_iff_getElem.2 fun i j hi hj wQ=>(at_ j hj).2.2 i wQ⟩
  .obtain ⟨j,hj,rfl⟩:=getElem_of_mem hm;exact(at_ j hj).1
  .have key:∀d i (hi:i+d+1<v.length),nD (v[i]'zO) (v[i+d+1])=true:=by
    intro d
    induction d with
    |zero =>
     intro i hi;have:=(at_ (i+1) zO).2.1 zO;simpa using this
    |succ d ih =>
     intro i hi;have h1:=ih i zO;have h2:=(at_ (i+(d+1)+1) zO).2.1 zO;exact sV h1 (by simpa[Nat.add_assoc]using h2)
   have:=key (j-i-1) i zO;simpa[show i+(j-i-1)+1=j by omega]using this
 .intro h j _ hj;unfold jh;rw[yA hj];simp only[y04,Bool.or_eq_true,beq_iff_eq,Bool.not_eq_true'];refine⟨h.isM _ (y03 hj),?_,?_⟩
  .rcases Nat.eq_zero_or_pos j with h0|h0
   .exact .inl h0
   .right;rw[yA (show j-1<v.length by omega)];exact pairwise_iff_getElem.1 h.sorted (j-1) j zO hj zO
  .rw [any_eq_false];intro m hm;obtain⟨i,hi,rfl⟩:=getElem_of_mem hm;rw[y18]at hi;rw[getElem_take];have:=pairwise_iff_getElem.1 h.qV i j zO hj zO;simpa using this
structure Val(t:TE):Prop where
 cells:jg t.cells=0
 one:∀c∈t.cells,c.vl.size=1
 bQ:OkV t.cells t.bQ
theorem Yp{t}:vC t=0↔Val t:=by
 unfold vC;by_cases h0:jg t.cells=0
 .rw [yK (by simpa using h0)];cases ha:t.cells.all Ba with
  |false =>
   refine⟨nofun,fun h=>?_⟩;have:t.cells.all Ba=true:=all_eq_true.2 fun c hc=>by unfold Ba;simpa using h.one c hc
   grind
  |true =>
   have h1:∀c∈t.cells,c.vl.size=1:=fun c hc=>by
    have:=all_eq_true.1 ha c hc;unfold Ba at this;grind
   cases hb:Cw t.cells t.bQ with
   |true=>exact⟨fun _=>⟨h0,h1,TK.1 hb⟩,fun _=>rfl⟩
   |false =>
    refine⟨fun h=>by simp at h,fun h=>?_⟩;rw[TK.2 h.bQ]at hb;cases hb
 .rw [yL h0];exact⟨fun h=>absurd h h0,fun h=>absurd h.cells h0⟩
end Go.Tx
namespace Go.Dc
open Go Go.Am Go.Proofs Go.eY Go.bH
abbrev Gb(f:FD):Tx.TE:=⟨f.tc,f.tm⟩
end Go.Dc
namespace Go.Dc
open Go Go.Am Go.Proofs Go.eY Go.bH
def cO(o:bV.OP)(f:FD):Int:=U7 f.pk o.pk f.pn o.pn
theorem Yx o:Q0 (Fx o):=⟨(fun _ h=>by cases h),⟨(fun _ h=>by cases h),(fun _ h=>by cases h)⟩,⟨yN,yN⟩⟩
theorem OM{a b c}{s t u}(h1:U7 a b s t<0)(h2:U7 b c t u<0):U7 a c s u<0:=by
 rw[ajG]at *;rcases h1 with h1|⟨rfl,h1⟩
 .rcases h2 with h2|⟨rfl,h2⟩
  .exact .inl zO
  omega
 .rcases h2 with h2|⟨rfl,h2⟩
  .exact .inl h2
  .exact .inr ⟨rfl,Bd.KG h1 h2⟩
theorem Yy{v}:∀{l}{g},Xe v (some g) l=true->∀x∈l,U7 g.pk x.pk g.pn x.pn<0
 |[],_,_,_,h=>by cases h
 |u::l,g,hk,x,h=>by
  simp only[Xe,y04,y05]at hk;rcases yH.1 h with rfl|h
  .exact hk.1.2
  .exact OM hk.1.2 (Yy hk.2 x h)
theorem OO{v}:∀{l}{q},Xe v q l=true->l.Pairwise fun x y=>U7 x.pk y.pk x.pn y.pn<0
 |[],_,_=>Pairwise.nil
 |u::l,q,hk=>by
  simp only[Xe,y04]at hk;exact Pairwise.cons (Yy hk.2) (OO hk.2)
theorem Yz{v}{l}{q}o(h:Xe v q l=true):Rc (cO o) l:=TN ((OO h).imp fun h1 h2=>OM h1 h2)
end Go.Dc
namespace Go.bV
open Go Go.Am Go.Proofs Go.eY Go.bH Go.yU
def isI(c:CV):Bool:=decide (c.k=1)
end Go.bV
namespace Go.Dc
open Go Go.Am Go.Proofs Go.eY Go.bH
def EF(d:DO)(o:bV.OP):Int :=
 if F9 d=0 then
  if bV.lM o=0 then
   if cZ d.sn (o.dv,o.sq)=true then 182
   else if gI o.dv d.sn=o.sq-1 then(if(o.cx.any fun x=>!cZ d.sn x)=true then 181 else 0)else 181
  else bV.lM o
 else F9 d
theorem TP{d}(h:F9 d=0):Cw d.sn=true/\Xe d.sn none d.fs=true:=by
 unfold F9 at h;grind
theorem aci{o}(h:bV.lM o=0):bV.rM o=true:=by
 unfold bV.lM at h;grind
theorem Ih{o}(h:bV.lM o=0):gQ (o.dv,o.sq)=true/\1<=o.kd/\o.kd<=8:=by
 have:=aci h;simp only[bV.rM,bV.qW,y04]at this;grind
theorem TQ{a b}(h:gQ (a,b)=true):(0<=a/\a<512)/\1<=b/\b<=1048576:=by
 simp only[gQ,y04,y05]at h;omega
structure yu(n:Nat)(f:FD):Prop where
 ce:f.ce.length<=n
 bi:f.bi.length<=n
 ta:f.ta.length<=n
structure agA(n:Nat)(d:DO):Prop where
 fs:d.fs.length<=n
 all:∀f∈d.fs,yu n f
structure Bg(n m:Nat)(t:Tx.TE):Prop where
 tc:t.cells.length<=n
 tm:t.bQ.length<=m
 ok:Tx.OkT t
structure SmD(n:Nat)(d:DO):Prop where
 few:agA n d
 sn:d.sn.length<=n
 tx:∀f∈d.fs,Bg (64*n) n (Gb f)/\Sq.kQ f.ce
theorem SmD.dim{n:Nat}{d:DO}(h:SmD n d)(hn:n<=10000):Dim d/\∀x∈d.fs,x.ce.length<=999999:=by
 refine⟨⟨by have:=h.sn;omega,by have:=h.few.fs;omega,fun f hf=>?_,fun f hf=>?_⟩,fun f hf=>by have:=(h.few.all f hf).ce;omega⟩
 .have a:=h.few.all f hf;have b:=(h.tx f hf).1;have h1:=a.ce;have h2:=a.bi;have h3:=a.ta;have h4:f.tc.length<=64*n:=b.tc;have h5:f.tm.length<=n:=b.tm;exact⟨zO,zO,zO,zO,zO⟩
 .have b:=h.tx f hf;have h4:f.tc.length<=64*n:=b.1.tc;have h5:f.tm.length<=n:=b.1.tm;exact⟨b.2,b.1.ok,⟨by show f.tc.length<=_;omega,by show f.tm.length<=_;omega⟩⟩
open Go.Bd (BE)
open Go.Tx (MK)
variable {α:Type}
def eqS(E:α->List AV)(s:Nat)(a b:List α)(k:Nat):St:={ aL:=aC 26 [(0,slF E s a),(1,slF E s b),(4,Am.bool false),(11,slF E s a),(12,int a.length),(13,int k)],H:=[] }
abbrev eqX:St:={ aL:=aC 26 [(4,Am.bool false)],H:=[] }
abbrev EqQ(s F:Nat):Prop:=(s=3/\F=70)\/(s=5/\F=69)\/(s=11/\F=71)
structure EqW{α:Type}(E:α->List AV)(s F:Nat)(c:α->α->Bool):Prop where
 y:∀(a b:List α)(k:Nat)(x y:α),(k:Int)<a.length->a[k]?=some x->b[k]?=some y->c x y=true->∀(ex:bF)(s':St),Rq 0 F 0 (eqS E s a b (k+1)) ex s'->a.length<=1000000000->Rq 0 F 0 (eqS E s a b k) ex s'
 n:∀(a b:List α)(k:Nat)(x y:α),(k:Int)<a.length->a[k]?=some x->b[k]?=some y->c x y=false->Rq 0 F 0 (eqS E s a b k) .ret eqX
 i:∀x y,c x y=true↔x=y
abbrev eqI(E:α->List AV)(a b:List α)(k:Nat)(x y:α)(hk:(k:Int)<a.length)(hx:a[k]?=some x)(hy:b[k]?=some y):List fP:=[ki ((k:Int)<a.length),ko (bC.elem (E x)),ko (bC.elem (E y)),kp (show(0:Int)<=(k:Int)/\(List.map E a)[Int.toNat (k:Int)]?=some (E x)from(bG hx)),kp (show(0:Int)<=(k:Int)/\(List.map E b)[Int.toNat (k:Int)]?=some (E y)from(bG hy))]
theorem azj:EqW ze 3 70 (fun x y:TL=>x.1==y.1&&(x.2.1==y.2.1&&x.2.2==y.2.2)) where
 y a b k x y hk hx hy hc _ _ h ha:=aJ (eqI ze a b k x y hk hx hy++[kf (y27 hc),kW 25 (k+1) ↑(k+1)]) (aB 26 [0,1,4,11,12,13]) 0 h
 n a b k x y hk hx hy hc:=aG (eqI ze a b k x y hk hx hy++[kt (y27 hc)]) (aB 26 [4]) 0
 i x y:=by cases x;cases y;simp[Sq.tN,bV.bool_beq,Prod.ext_iff]
theorem azk:EqW Bd.aQ 5 69 (fun x y:BE=>x.ky==y.ky&&(x.dv==y.dv&&(x.sq==y.sq&&(x.tm==y.tm&&x.vl==y.vl)))) where
 y a b k x y hk hx hy hc _ _ h ha:=aJ (eqI Bd.aQ a b k x y hk hx hy++[kf (y27 hc),kW 25 (k+1) ↑(k+1)]) (aB 26 [0,1,4,11,12,13]) 0 h
 n a b k x y hk hx hy hc:=aG (eqI Bd.aQ a b k x y hk hx hy++[kt (y27 hc)]) (aB 26 [4]) 0
 i x y:=by cases x;cases y;simp[Sq.tN,bV.bool_beq]
theorem azl:EqW Tx.aQ 11 71 (fun x y:MK=>x.dv==y.dv&&(x.sq==y.sq&&(x.tm==y.tm&&(x.fd==y.fd&&(x.fs==y.fs&&(x.fa==y.fa&&(x.td==y.td&&(x.ts==y.ts&&(x.ta==y.ta&&(x.st==y.st&&x.on==y.on)))))))))) where
 y a b k x y hk hx hy hc _ _ h ha:=aJ (eqI Tx.aQ a b k x y hk hx hy++[kf (y27 hc),kW 25 (k+1) ↑(k+1)]) (aB 26 [0,1,4,11,12,13]) 0 h
 n a b k x y hk hx hy hc:=aG (eqI Tx.aQ a b k x y hk hx hy++[kt (y27 hc)]) (aB 26 [4]) 0
 i x y:=by cases x;cases y;simp[Sq.tN,bV.bool_beq]
section
variable {α:Type} {E:α->List AV} {s F:Nat} {c:α->α->Bool} (q:EqQ s F) (w:EqW E s F c)
include q
theorem ayG(a b:List α)(k:Nat)(hk:¬(k:Int)<a.length):Rq 0 F 0 (eqS E s a b k) (.exit 0) eqX:=by
 rcases q with⟨rfl,rfl⟩|⟨rfl,rfl⟩|⟨rfl,rfl⟩<;>exact aG [kj ((k:Int)<a.length)] (aB 26 [4]) 0
theorem ayH(a b:List α)(hl:a.length=b.length)(ex:bF)(o:Bool)(hL:Rq 0 F 0 (eqS E s a b 0) ex eqX)(h:(ex = .exit 0/\o=true)\/(ex = .ret/\o=false)):Cq F [slF E s a,slF E s b] (Am.bool o):=by
 rcases h with⟨rfl,rfl⟩|⟨rfl,rfl⟩<;>rcases q with⟨rfl,rfl⟩|⟨rfl,rfl⟩|⟨rfl,rfl⟩<;>exact aj [kN 7 (show(a.map E).length=a.length from y10 E),kN 9 (show(b.map E).length=b.length from y10 E),kf (show((a.length:Int)!=(b.length:Int))=false from y27 (qT zO)),kN 12 (show(a.map E).length=a.length from y10 E),kl (rG [(2,2),(5,6),(14,12)]) 0 hL]
theorem ayI(a b:List α)(hl:¬a.length=b.length):Cq F [slF E s a,slF E s b] (Am.bool false):=by
 rcases q with⟨rfl,rfl⟩|⟨rfl,rfl⟩|⟨rfl,rfl⟩<;>exact aj [kN 7 (show(a.map E).length=a.length from y10 E),kN 9 (show(b.map E).length=b.length from y10 E),kt (show((a.length:Int)!=(b.length:Int))=true from y27 (qF zO))]
include w
theorem ayJ[DecidableEq α](a b:List α)(ha:a.length<=1000000000)(hl:a.length=b.length):∀n k,a.length-k=n->k<=a.length->Rq 0 F 0 (eqS E s a b k) (if a.drop k=b.drop k then .exit 0 else .ret) eqX:=by
 intro n
 induction n with
 |zero =>
  intro k hn hk;rw[yL (by rw[y17 zO,y17 zO])];exact ayG q a b k zO
 |succ n ih =>
  intro k hn hk;have h1:k<a.length:=zO
  have h2:k<b.length:=zO
  have hx:=yA h1;have hy:=yA h2;have e:(a.drop k=b.drop k)=(a[k]=b[k]/\a.drop (k+1)=b.drop (k+1)):=by
   rw[y01 h1,y01 h2,List.cons.injEq]
  by_cases he:a[k]=b[k]
  .have nx:=ih (k+1) zO zO;simp only[e,he,true_and];exact w.y a b k _ _ zO hx hy ((w.i _ _).2 he) _ _ nx ha
  .rw [yK (by rw[e];exact fun h=>he h.1)];exact w.n a b k _ _ zO hx hy (Bool.eq_false_iff.2 fun h=>he ((w.i _ _).1 h))
theorem aw7[DecidableEq α](a b:List α)(ha:a.length<=1000000000):Cq F [slF E s a,slF E s b] (Am.bool (decide (a=b))):=by
 by_cases hl:a.length=b.length
 .have h:=ayJ q w a b ha hl _ 0 rfl yN;rw[drop_zero,drop_zero]at h;refine ayH q a b hl _ _ h ?_;by_cases e:a=b
  .rw [yL e];exact .inl ⟨rfl,y15 e⟩
  .rw [yK e];exact .inr ⟨rfl,y16 e⟩
 .rw [y16 fun e=>hl (by rw[e])];exact ayI q a b hl
end
theorem ayK(a b:List TL)(ha:a.length<=1000000000):Cq 70 [mF a,mF b] (Am.bool (decide (a=b))):=aw7 zD azj a b ha
theorem ayL(a b:List BE)(ha:a.length<=1000000000):Cq 69 [Bd.iK a,Bd.iK b] (Am.bool (decide (a=b))):=aw7 zD azk a b ha
theorem ayM(a b:List MK)(ha:a.length<=1000000000):Cq 71 [Tx.oI a,Tx.oI b] (Am.bool (decide (a=b))):=aw7 zD azl a b ha
theorem ayN(f g:FD)(b1 b2 b3 b4 b5:Bool)(h1:Cq 68 [Sq.bZ f.ce,Sq.bZ g.ce] (Am.bool b1))(h2:Cq 69 [Bd.iK f.bi,Bd.iK g.bi] (Am.bool b2))(h3:Cq 70 [mF f.ta,mF g.ta] (Am.bool b3))(h4:Cq 68 [Sq.bZ f.tc,Sq.bZ g.tc] (Am.bool b4))(h5:Cq 71 [Tx.oI f.tm,Tx.oI g.tm] (Am.bool b5))(o:Bool)(h:((((f.pk==g.pk&&f.pn==g.pn)=true)->((((b1)=true)->((((b2)=true)->((((b3)=true)->((((b4)=true)->(b5)=(o))/\(((b4)=false)->(false)=(o))))/\(((b3)=false)->(false)=(o))))/\(((b2)=false)->(false)=(o))))/\(((b1)=false)->(false)=(o))))/\(((f.pk==g.pk&&f.pn==g.pn)=false)->(false)=(o)))):Cq 67 [.agg (jB f),.agg (jB g)] (Am.bool o):=by
 rcases y00 ((f.pk==g.pk&&f.pn==g.pn))with c1|c1
 .have h:=h.1 c1;rcases y00 ((b1))with c2|c2
  .have h:=h.1 c2;let l1:List fP:=[kt c1,kc [] h1,kt c2,kc [] h2];rcases y00 ((b2))with c3|c3
   .have h:=h.1 c3;rcases y00 ((b3))with c4|c4
    .have h:=h.1 c4;rcases y00 ((b4))with c5|c5
     .have h:=h.1 c5;exact aA (aF.aI h) (l1++[kt c3,kc [] h3,kt c4,kc [] h4,kt c5,kc [] h5])
     .have h:=h.2 c5;exact aA (aF.aI h) (l1++[kt c3,kc [] h3,kt c4,kc [] h4,kf c5])
    .have h:=h.2 c4;exact aA (aF.aI h) (l1++[kt c3,kc [] h3,kf c4,kY])
   .have h:=h.2 c3;exact aA (aF.aI h) (l1++[kf c3,kY,kY])
  .have h:=h.2 c2;exact aA (aF.aI h) [kt c1,kc [] h1,kf c2,kY,kY,kY]
 .have h:=h.2 c1;exact aA (aF.aI h) [kf c1,kY,kY,kY,kY]
def seS(a b:List FD)(k:Nat):St:={ aL:=aC 32 [(0,Md a),(1,Md b),(2,gP 67),(6,Am.bool false),(15,Md a),(16,int a.length),(17,int k)],H:=[] }
abbrev seX:St:={ aL:=aC 32 [(6,Am.bool false)],H:=[] }
theorem azm(a b:List FD)(k:Nat)(x y:FD)(ha:a.length<=1000000000)(hk:(k:Int)<(a.length:Int))(hx:a[k]?=some x)(hy:b[k]?=some y)(hF:Cq 67 [.agg (jB x),.agg (jB y)] (Am.bool true))(ex:bF)(s':St)(h:Rq 0 66 0 (sM 32 [(0,.sl 7 false (dA a)),(1,.sl 7 false (dA b)),(2,iL 67),(6,Am.bool false),(15,.sl 7 false (dA a)),(16,int ↑a.length),(17,int ↑(k+1))] []) ex s'):Rq 0 66 0 (seS a b k) ex s':=by
 exact aJ [ki ((k:Int)<a.length),ko (bC.elem (jB x)),ko (bC.elem (jB y)),kp (show(0:Int)<=(k:Int)/\(dA a)[Int.toNat (k:Int)]?=some (jB x)from(bG hx)),kp (show(0:Int)<=(k:Int)/\(dA b)[Int.toNat (k:Int)]?=some (jB y)from(bG hy)),kc [] hF,kY,kW 31 (k+1) ↑(k+1)] (aB 32 [0,1,2,6,15,16,17]) 0 h
theorem azn(a b:List FD)(k:Nat)(x y:FD)(ha:a.length<=1000000000)(hk:(k:Int)<(a.length:Int))(hx:a[k]?=some x)(hy:b[k]?=some y)(hF:Cq 67 [.agg (jB x),.agg (jB y)] (Am.bool false))(h:True):Rq 0 66 0 (seS a b k) bF.ret seX:=by
 have _:=h;exact aG [ki ((k:Int)<a.length),ko (bC.elem (jB x)),ko (bC.elem (jB y)),kp (show(0:Int)<=(k:Int)/\(dA a)[Int.toNat (k:Int)]?=some (jB x)from(bG hx)),kp (show(0:Int)<=(k:Int)/\(dA b)[Int.toNat (k:Int)]?=some (jB y)from(bG hy)),kc [] hF,kO] (aB 32 [6]) 0
theorem azo(a b:List FD)(k:Nat)(hk:¬(k:Int)<(a.length:Int))(h:True):Rq 0 66 0 (seS a b k) (bF.exit 0) seX:=by
 have _:=h;exact aG [kj ((k:Int)<a.length)] (aB 32 [6]) 0
theorem azp(a b:List FD)(hl:a.length=b.length)(hL:Rq 0 66 0 (seS a b 0) (.exit 0) seX)(h:True):Cq 66 [Md a,Md b,gP 67] (Am.bool true):=by
 have bS:=lU (fE a);have _:=h;exact aj [kv 11 bS,kN 13 (fE b),kf (show((a.length:Int)!=(b.length:Int))=false from(y27 (qT zO))),kv 16 bS,kl (rG [(3,3),(7,8),(18,14)]) 0 hL]
theorem azq(a b:List FD)(hl:a.length=b.length)(hL:Rq 0 66 0 (seS a b 0) .ret seX)(h:True):Cq 66 [Md a,Md b,gP 67] (Am.bool false):=by
 have bS:=lU (fE a);have _:=h;exact aj [kv 11 bS,kN 13 (fE b),kf (show((a.length:Int)!=(b.length:Int))=false from(y27 (qT zO))),kv 16 bS,kl (rG [(3,3),(7,8),(18,14)]) 0 hL]
theorem azr(a b:List FD)(hl:¬a.length=b.length)(h:True):Cq 66 [Md a,Md b,gP 67] (Am.bool false):=by
 have _:=h;exact aj [kN 11 (fE a),kN 13 (fE b),kt (show((a.length:Int)!=(b.length:Int))=true from(y27 (qF zO)))]
theorem azs(a b:DO)(o:Bool)(h1:Cq 65 [bB a.sn,bB b.sn] (Am.bool true))(h2:Cq 66 [Md a.fs,Md b.fs,gP 67] (Am.bool o))(h:True):Cq 19 [kI a,kI b] (Am.bool o):=by
 have _:=h;exact aj [kc [] h1,kO,kc [] h2]
theorem azt(a b:DO)(h1:Cq 65 [bB a.sn,bB b.sn] (Am.bool false))(h:True):Cq 19 [kI a,kI b] (Am.bool false):=by
 have _:=h;exact aj [kc [] h1,kY]
end Go.Dc
namespace Go.Tx
open Go Go.Am Go.Proofs Go.eY
open Go.Sq (CE nP bZ oO vM fX U2 kQ jg)
abbrev ils(l:List Int):AV:=.sl 1 false (bH.ql l)
theorem awn{α:Type}{a b:List α}{k:Nat}(ha:k<a.length)(hb:k<b.length):(a.drop k=b.drop k↔a[k]=b[k]/\a.drop (k+1)=b.drop (k+1)):=by
 rw[y01 ha,y01 hb,List.cons.injEq]
def slS(a b:List Int)(k:Nat):St:={ aL:=aC 26 [(0,ils a),(1,ils b),(4,bool false),(5,int k)],H:=[] }
theorem aHA(a b:List Int)(k:Nat)(hl:a.length=b.length)(hv:b.length<=1000000000)(ex:bF)(o:Bool)(h:((((k:Int)<(a.length:Int))->(∃x2:Int,(a[k]?=some x2)/\(∃x4:Int,(b[k]?=some x4)/\(((x2=x4)->Rq 0 236 0 (sM 26 [(0,.sl 1 false (bH.ql a)),(1,.sl 1 false (bH.ql b)),(4,Am.bool false),(5,int ↑(k+1))] []) ex (sM 26 [(4,Am.bool o)] []))/\((¬x2=x4)->(bF.ret=ex)/\((false)=(o)))))))/\((¬(k:Int)<(a.length:Int))->(bF.exit 0=ex)/\((false)=(o))))):Rq 0 236 0 (slS a b k) ex (sM 26 [(4,Am.bool o)] []):=by
 have bS:Am.aF (int (↑(length (bH.ql a)):Int)) (int ↑a.length):=(aF.of_eq (by simp only[Go.bH.kD]));by_cases c1:((k:Int)<(a.length:Int))
 .have h:=h.1 c1;obtain⟨x2,o3,h⟩:=h;obtain⟨x4,o5,h⟩:=h;let l1:List fP:=[kv 13 bS,kt (qT c1),ko (bC.elem (bH.LW x2)),ko (bC.elem (bH.LW x4)),kp (show(0:Int)<=(k:Int)/\(bH.ql a)[Int.toNat (k:Int)]?=some (bH.LW x2)from(bG o3)),kp (show(0:Int)<=(k:Int)/\(bH.ql b)[Int.toNat (k:Int)]?=some (bH.LW x4)from(bG o5))];by_cases c6:(x2=x4)
  .have h:=h.1 c6;exact aJ (l1++[kf (show(x2 != x4)=false from(y27 (nW.2 c6))),kW 16 (k+1) ↑(k+1)]) (aB 26 [0,1,4,5]) 0 h
  .have h:=h.2 c6;obtain⟨eX,e1⟩:=h;exact bN.to ((show Rq 0 236 0 (slS a b k) bF.ret (sM 26 [(4,Am.bool false)] [])from aG (l1++[kt (show(x2 != x4)=true from(y27 (qN.2 c6)))]) (aB 26 [4]) 0)) eX (eB.aC ⟨rfl,(aF.aI e1),yO⟩)
 .have h:=h.2 c1;obtain⟨eX,e1⟩:=h;exact bN.to ((show Rq 0 236 0 (slS a b k) (bF.exit 0) (sM 26 [(4,Am.bool false)] [])from aG [kv 13 bS,kf (qF c1)] (aB 26 [4]) 0)) eX (eB.aC ⟨rfl,(aF.aI e1),yO⟩)
theorem aEX(a b:List Int)(hl:a.length=b.length)(hv:b.length<=1000000000):∀n k,a.length-k=n->k<=a.length->Rq 0 236 0 (slS a b k) (if a.drop k=b.drop k then .exit 0 else .ret) { aL:=aC 26 [(4,bool false)],H:=[] }:=by
 intro n
 induction n with
 |zero =>
  intro k hn hk;have e:a.drop k=b.drop k:=by rw[y17 zO,y17 zO]
  exact aHA a b k hl hv _ _ ⟨fun h=>absurd h zO,fun _=>⟨by rw[yL e],rfl⟩⟩
 |succ n ih =>
  intro k hn hk;have ha:k<a.length:=zO
  have hb:k<b.length:=zO
  have e:=awn ha hb;refine aHA a b k hl hv _ _ ⟨fun h=>⟨a[k],yA ha,b[k],yA hb,⟨fun hq=>?_,fun hq=>?_⟩⟩,fun h=>absurd ha zO⟩
  .have h2:=ih (k+1) zO zO;have hab:a[k]=b[k]:=by first|exact hq|simpa using hq
   rw[show(if a.drop k=b.drop k then bF.exit 0 else .ret)=if a.drop (k+1)=b.drop (k+1)then bF.exit 0 else .ret by simp only[e,hab,true_and]];exact h2
  .have hab:¬a[k]=b[k]:=by first|exact hq|simpa using hq
   rw[yK (fun h=>hab (e.1 h).1)];exact⟨rfl,rfl⟩
theorem aDp(a b:List Int)(hl:a.length=b.length)(hv:b.length<=1000000000):Rq 0 236 0 (slS a b 0) (if a=b then .exit 0 else .ret) { aL:=aC 26 [(4,bool false)],H:=[] }:=aEX a b hl hv _ 0 rfl zO
theorem aEY(a b:List Int)(ha:a.length<=1000000000)(hv:b.length<=1000000000)(o:Bool)(h:((((a.length:Int)=(b.length:Int))->(((a=b)->(true)=(o))/\((¬a=b)->(false)=(o))))/\((¬(a.length:Int)=(b.length:Int))->(false)=(o)))):Cq 236 [ils a,ils b] (Am.bool o):=by
 have bS:Am.aF (int (↑(length (bH.ql a)):Int)) (int ↑a.length):=(aF.of_eq (by simp only[Go.bH.kD]));have fT:Am.aF (int (↑(length (bH.ql b)):Int)) (int ↑b.length):=(aF.of_eq (by simp only[Go.bH.kD]));by_cases c1:((a.length:Int)=(b.length:Int))
 .have h:=h.1 c1;have jw:((a.length:Int)!=(b.length:Int))=false:=(y27 (nW.2 c1));by_cases c2:(a=b)
  .have h:=h.1 c2;exact aA (aF.aI h) [kv 7 bS,kv 9 fT,kf jw,kl (rG [(2,2),(6,20)]) 0 (show Rq 0 236 0 (sM 26 [(0,.sl 1 false (bH.ql a)),(1,.sl 1 false (bH.ql b)),(4,Am.bool false),(5,int 0)] []) (bF.exit 0) (sM 26 [(4,Am.bool false)] [])from(by have h0:=(@aDp (a) (b) zO zO);simp only[yL c2]at h0;exact h0))]
  .have h:=h.2 c2;exact aA (aF.aI h) [kv 7 bS,kv 9 fT,kf jw,kl (rG [(2,2),(6,20)]) 0 (show Rq 0 236 0 (sM 26 [(0,.sl 1 false (bH.ql a)),(1,.sl 1 false (bH.ql b)),(4,Am.bool false),(5,int 0)] []) bF.ret (sM 26 [(4,Am.bool false)] [])from(by have h0:=(@aDp (a) (b) zO zO);simp only[yK c2]at h0;exact h0))]
 .have h:=h.2 c1;exact aA (aF.aI h) [kv 7 bS,kv 9 fT,kt (show((a.length:Int)!=(b.length:Int))=true from(y27 (qN.2 c1)))]
theorem aEZ(a b:List Int)(ha:a.length<=1000000000)(hv:b.length<=1000000000):Cq 236 [ils a,ils b] (bool (decide (a=b))):=aEY a b ha hv _ (by
 by_cases h:a=b
 .subst h;simp
 .simp [h])
def scS(a b:List CE)(k:Nat):St:={ aL:=aC 26 [(0,bZ a),(1,bZ b),(4,bool false),(5,int k)],H:=[] }
theorem aoc(a b:List CE)(k:Nat)(hl:a.length=b.length)(hv:b.length<=1000000000)(ex:bF)(o:Bool)(h:((((k:Int)<(a.length:Int))->(∃x2:CE,(a[k]?=some x2)/\(∃x4:CE,(b[k]?=some x4)/\((((x2.dv==x4.dv&&(x2.sq==x4.sq&&(x2.gU==x4.gU&&(x2.ad==x4.ad&&(x2.j6==x4.j6&&(x2.aa==x4.aa&&(x2.tm==x4.tm&&(x2.vl==x4.vl&&x2.gn==x4.gn))))))))=true)->Rq 0 200 0 (sM 26 [(0,.sl 9 false (Sq.au a)),(1,.sl 9 false (Sq.au b)),(4,Am.bool false),(5,int ↑(k+1))] []) ex (sM 26 [(4,Am.bool o)] []))/\(((x2.dv==x4.dv&&(x2.sq==x4.sq&&(x2.gU==x4.gU&&(x2.ad==x4.ad&&(x2.j6==x4.j6&&(x2.aa==x4.aa&&(x2.tm==x4.tm&&(x2.vl==x4.vl&&x2.gn==x4.gn))))))))=false)->(bF.ret=ex)/\((false)=(o)))))))/\((¬(k:Int)<(a.length:Int))->(bF.exit 0=ex)/\((false)=(o))))):Rq 0 200 0 (scS a b k) ex (sM 26 [(4,Am.bool o)] []):=by
 have bS:Am.aF (int (↑(length (Sq.au a)):Int)) (int ↑a.length):=(aF.of_eq (by simp only[Go.Sq.ay]));by_cases c1:((k:Int)<(a.length:Int))
 .have h:=h.1 c1;obtain⟨x2,o3,h⟩:=h;obtain⟨x4,o5,h⟩:=h;let l1:List fP:=[kv 13 bS,kt (qT c1),ko (bC.elem (Sq.aQ x2)),ko (bC.elem (Sq.aQ x4)),kp (show(0:Int)<=(k:Int)/\(Sq.au a)[Int.toNat (k:Int)]?=some (Sq.aQ x2)from(bG o3)),kp (show(0:Int)<=(k:Int)/\(Sq.au b)[Int.toNat (k:Int)]?=some (Sq.aQ x4)from(bG o5))];rcases y00 ((x2.dv==x4.dv&&(x2.sq==x4.sq&&(x2.gU==x4.gU&&(x2.ad==x4.ad&&(x2.j6==x4.j6&&(x2.aa==x4.aa&&(x2.tm==x4.tm&&(x2.vl==x4.vl&&x2.gn==x4.gn)))))))))with c6|c6
  .have h:=h.1 c6;exact aJ (l1++[kf (show(!(x2.dv==x4.dv&&(x2.sq==x4.sq&&(x2.gU==x4.gU&&(x2.ad==x4.ad&&(x2.j6==x4.j6&&(x2.aa==x4.aa&&(x2.tm==x4.tm&&(x2.vl==x4.vl&&x2.gn==x4.gn)))))))))=false from(y27 (c6))),kW 16 (k+1) ↑(k+1)]) (aB 26 [0,1,4,5]) 0 h
  .have h:=h.2 c6;obtain⟨eX,e1⟩:=h;exact bN.to ((show Rq 0 200 0 (scS a b k) bF.ret (sM 26 [(4,Am.bool false)] [])from aG (l1++[kt (show(!(x2.dv==x4.dv&&(x2.sq==x4.sq&&(x2.gU==x4.gU&&(x2.ad==x4.ad&&(x2.j6==x4.j6&&(x2.aa==x4.aa&&(x2.tm==x4.tm&&(x2.vl==x4.vl&&x2.gn==x4.gn)))))))))=true from(y27 (c6)))]) (aB 26 [4]) 0)) eX (eB.aC ⟨rfl,(aF.aI e1),yO⟩)
 .have h:=h.2 c1;obtain⟨eX,e1⟩:=h;exact bN.to ((show Rq 0 200 0 (scS a b k) (bF.exit 0) (sM 26 [(4,Am.bool false)] [])from aG [kv 13 bS,kf (qF c1)] (aB 26 [4]) 0)) eX (eB.aC ⟨rfl,(aF.aI e1),yO⟩)
theorem acV(a b:List CE)(hl:a.length=b.length)(hv:b.length<=1000000000):∀n k,a.length-k=n->k<=a.length->Rq 0 200 0 (scS a b k) (if a.drop k=b.drop k then .exit 0 else .ret) { aL:=aC 26 [(4,bool false)],H:=[] }:=by
 intro n
 induction n with
 |zero =>
  intro k hn hk;have e:a.drop k=b.drop k:=by rw[y17 zO,y17 zO]
  exact aoc a b k hl hv _ _ ⟨fun h=>absurd h zO,fun _=>⟨by rw[yL e],rfl⟩⟩
 |succ n ih =>
  intro k hn hk;have ha:k<a.length:=zO
  have hb:k<b.length:=zO
  have e:=awn ha hb;refine aoc a b k hl hv _ _ ⟨fun h=>⟨a[k],yA ha,b[k],yA hb,⟨fun hq=>?_,fun hq=>?_⟩⟩,fun h=>absurd ha zO⟩
  .have h2:=ih (k+1) zO zO;have hab:a[k]=b[k]:=(Sq.Uc _ _).1 hq;rw[show(if a.drop k=b.drop k then bF.exit 0 else .ret)=if a.drop (k+1)=b.drop (k+1)then bF.exit 0 else .ret by simp only[e,hab,true_and]];exact h2
  .have hab:¬a[k]=b[k]:=fun h=>by rw[(Sq.Uc _ _).2 h]at hq;cases hq
   rw[yK (fun h=>hab (e.1 h).1)];exact⟨rfl,rfl⟩
theorem aDq(a b:List CE)(hl:a.length=b.length)(hv:b.length<=1000000000):Rq 0 200 0 (scS a b 0) (if a=b then .exit 0 else .ret) { aL:=aC 26 [(4,bool false)],H:=[] }:=acV a b hl hv _ 0 rfl zO
theorem aDr(a b:List CE)(ha:a.length<=1000000000)(hv:b.length<=1000000000)(o:Bool)(h:((((a.length:Int)=(b.length:Int))->(((a=b)->(true)=(o))/\((¬a=b)->(false)=(o))))/\((¬(a.length:Int)=(b.length:Int))->(false)=(o)))):Cq 200 [bZ a,bZ b] (Am.bool o):=by
 have bS:Am.aF (int (↑(length (Sq.au a)):Int)) (int ↑a.length):=(aF.of_eq (by simp only[Go.Sq.ay]));have fT:Am.aF (int (↑(length (Sq.au b)):Int)) (int ↑b.length):=(aF.of_eq (by simp only[Go.Sq.ay]));by_cases c1:((a.length:Int)=(b.length:Int))
 .have h:=h.1 c1;have jw:((a.length:Int)!=(b.length:Int))=false:=(y27 (nW.2 c1));by_cases c2:(a=b)
  .have h:=h.1 c2;exact aA (aF.aI h) [kv 7 bS,kv 9 fT,kf jw,kl (rG [(2,2),(6,20)]) 0 (show Rq 0 200 0 (sM 26 [(0,.sl 9 false (Sq.au a)),(1,.sl 9 false (Sq.au b)),(4,Am.bool false),(5,int 0)] []) (bF.exit 0) (sM 26 [(4,Am.bool false)] [])from(by have h0:=(@aDq (a) (b) zO zO);simp only[yL c2]at h0;exact h0))]
  .have h:=h.2 c2;exact aA (aF.aI h) [kv 7 bS,kv 9 fT,kf jw,kl (rG [(2,2),(6,20)]) 0 (show Rq 0 200 0 (sM 26 [(0,.sl 9 false (Sq.au a)),(1,.sl 9 false (Sq.au b)),(4,Am.bool false),(5,int 0)] []) bF.ret (sM 26 [(4,Am.bool false)] [])from(by have h0:=(@aDq (a) (b) zO zO);simp only[yK c2]at h0;exact h0))]
 .have h:=h.2 c1;exact aA (aF.aI h) [kv 7 bS,kv 9 fT,kt (show((a.length:Int)!=(b.length:Int))=true from(y27 (qN.2 c1)))]
theorem aDs(a b:List CE)(ha:a.length<=1000000000)(hv:b.length<=1000000000):Cq 200 [bZ a,bZ b] (bool (decide (a=b))):=aDr a b ha hv _ (by
 by_cases h:a=b
 .subst h;simp
 .simp [h])
theorem mk_eq(a b:MK):((a.dv==b.dv&&(a.sq==b.sq&&(a.tm==b.tm&&(a.fd==b.fd&&(a.fs==b.fs&&(a.fa==b.fa&&(a.td==b.td&&(a.ts==b.ts&&(a.ta==b.ta&&(a.st==b.st&&a.on==b.on))))))))))=true)↔a=b:=by
 cases a;cases b;simp[MK.mk.injEq]
def smB(a b:TE):List ah:=[.box [bZ a.cells,oI a.bQ],.box [bZ b.cells,oI b.bQ]]
def smS(a b:TE)(k:Nat):St:={ aL:=aC 39 [(2,.ptr 0 0),(3,.ptr 1 0),(4,bool false),(5,int k)],H:=smB a b }
theorem anR(a b:TE)(k:Nat)(hl:a.bQ.length=b.bQ.length)(hv:b.bQ.length<=1000000000)(ex:bF)(o:Bool)(h:((((k:Int)<(↑(length a.bQ):Int))->(∃x2:MK,(a.bQ[k]?=some x2)/\(∃x4:MK,(b.bQ[k]?=some x4)/\((((x2.dv==x4.dv&&(x2.sq==x4.sq&&(x2.tm==x4.tm&&(x2.fd==x4.fd&&(x2.fs==x4.fs&&(x2.fa==x4.fa&&(x2.td==x4.td&&(x2.ts==x4.ts&&(x2.ta==x4.ta&&(x2.st==x4.st&&x2.on==x4.on))))))))))=true)->Rq 0 101 0 (sM 39 [(2,.ptr 0 0),(3,.ptr 1 0),(4,Am.bool false),(5,int ↑(k+1))] [.box [.sl 9 false (Sq.au a.cells),.sl 11 false (au a.bQ)],.box [.sl 9 false (Sq.au b.cells),.sl 11 false (au b.bQ)]]) ex (St.mk (aC 39 [(4,Am.bool o)]) (smB a b) []))/\(((x2.dv==x4.dv&&(x2.sq==x4.sq&&(x2.tm==x4.tm&&(x2.fd==x4.fd&&(x2.fs==x4.fs&&(x2.fa==x4.fa&&(x2.td==x4.td&&(x2.ts==x4.ts&&(x2.ta==x4.ta&&(x2.st==x4.st&&x2.on==x4.on))))))))))=false)->(bF.ret=ex)/\((false)=(o)))))))/\((¬(k:Int)<(↑(length a.bQ):Int))->(bF.exit 0=ex)/\((false)=(o))))):Rq 0 101 0 (smS a b k) ex (St.mk (aC 39 [(4,Am.bool o)]) (smB a b) []):=by
 have bS:=lU (ay a.bQ);by_cases c1:((k:Int)<(↑(length a.bQ):Int))
 .have h:=h.1 c1;obtain⟨x2,o3,h⟩:=h;obtain⟨x4,o5,h⟩:=h;let l1:List fP:=[kv 24 bS,kt (qT c1),ko (bC.elem (aQ x2)),ko (bC.elem (aQ x4)),kp (show(0:Int)<=(k:Int)/\(au a.bQ)[Int.toNat (k:Int)]?=some (aQ x2)from(bG o3)),kp (show(0:Int)<=(k:Int)/\(au b.bQ)[Int.toNat (k:Int)]?=some (aQ x4)from(bG o5))];rcases y00 ((x2.dv==x4.dv&&(x2.sq==x4.sq&&(x2.tm==x4.tm&&(x2.fd==x4.fd&&(x2.fs==x4.fs&&(x2.fa==x4.fa&&(x2.td==x4.td&&(x2.ts==x4.ts&&(x2.ta==x4.ta&&(x2.st==x4.st&&x2.on==x4.on)))))))))))with c6|c6
  .have h:=h.1 c6;exact aJ (l1++[kf (show(!(x2.dv==x4.dv&&(x2.sq==x4.sq&&(x2.tm==x4.tm&&(x2.fd==x4.fd&&(x2.fs==x4.fs&&(x2.fa==x4.fa&&(x2.td==x4.td&&(x2.ts==x4.ts&&(x2.ta==x4.ta&&(x2.st==x4.st&&x2.on==x4.on)))))))))))=false from(y27 (c6))),kW 27 (k+1) ↑(k+1)]) (aB 39 [2,3,4,5]) 2 h
  .have h:=h.2 c6;obtain⟨eX,e1⟩:=h;exact bN.to ((show Rq 0 101 0 (smS a b k) bF.ret (sM 39 [(4,Am.bool false)] [.box [.sl 9 false (Sq.au a.cells),.sl 11 false (au a.bQ)],.box [.sl 9 false (Sq.au b.cells),.sl 11 false (au b.bQ)]])from aG (l1++[kt (show(!(x2.dv==x4.dv&&(x2.sq==x4.sq&&(x2.tm==x4.tm&&(x2.fd==x4.fd&&(x2.fs==x4.fs&&(x2.fa==x4.fa&&(x2.td==x4.td&&(x2.ts==x4.ts&&(x2.ta==x4.ta&&(x2.st==x4.st&&x2.on==x4.on)))))))))))=true from(y27 (c6)))]) (aB 39 [4]) 2)) eX (eB.aC ⟨rfl,(aF.aI e1),yO⟩)
 .have h:=h.2 c1;obtain⟨eX,e1⟩:=h;exact bN.to ((show Rq 0 101 0 (smS a b k) (bF.exit 0) (sM 39 [(4,Am.bool false)] [.box [.sl 9 false (Sq.au a.cells),.sl 11 false (au a.bQ)],.box [.sl 9 false (Sq.au b.cells),.sl 11 false (au b.bQ)]])from aG [kv 24 bS,kf (qF c1)] (aB 39 [4]) 2)) eX (eB.aC ⟨rfl,(aF.aI e1),yO⟩)
theorem aE0(a b:TE)(hl:a.bQ.length=b.bQ.length)(hv:b.bQ.length<=1000000000):∀n k,a.bQ.length-k=n->k<=a.bQ.length->Rq 0 101 0 (smS a b k) (if a.bQ.drop k=b.bQ.drop k then .exit 0 else .ret) { aL:=aC 39 [(4,bool false)],H:=smB a b }:=by
 intro n
 induction n with
 |zero =>
  intro k hn hk;have e:a.bQ.drop k=b.bQ.drop k:=by rw[y17 zO,y17 zO]
  exact anR a b k hl hv _ _ ⟨fun h=>absurd h zO,fun _=>⟨by rw[yL e],rfl⟩⟩
 |succ n ih =>
  intro k hn hk;have ha:k<a.bQ.length:=zO
  have hb:k<b.bQ.length:=zO
  have e:=awn ha hb;refine anR a b k hl hv _ _ ⟨fun h=>⟨a.bQ[k],yA ha,b.bQ[k],yA hb,⟨fun hq=>?_,fun hq=>?_⟩⟩,fun h=>absurd ha zO⟩
  .have h2:=ih (k+1) zO zO;have hab:a.bQ[k]=b.bQ[k]:=(mk_eq _ _).1 hq;rw[show(if a.bQ.drop k=b.bQ.drop k then bF.exit 0 else .ret)=if a.bQ.drop (k+1)=b.bQ.drop (k+1)then bF.exit 0 else .ret by simp only[e,hab,true_and]];exact h2
  .have hab:¬a.bQ[k]=b.bQ[k]:=fun h=>by rw[(mk_eq _ _).2 h]at hq;cases hq
   rw[yK (fun h=>hab (e.1 h).1)];exact⟨rfl,rfl⟩
theorem aDt(a b:TE)(hl:a.bQ.length=b.bQ.length)(hv:b.bQ.length<=1000000000):Rq 0 101 0 (smS a b 0) (if a.bQ=b.bQ then .exit 0 else .ret) { aL:=aC 39 [(4,bool false)],H:=smB a b }:=aE0 a b hl hv _ 0 rfl zO
theorem E9(a b:TE)(hv:b.bQ.length<=1000000000)(ha:a.bQ.length<=1000000000)(q o:Bool)(hs:Cq 200 [bZ a.cells,bZ b.cells] (bool q))(h:((((q)=true)->((((↑(length a.bQ):Int)=(↑(length b.bQ):Int))->(((a.bQ=b.bQ)->(true)=(o))/\((¬a.bQ=b.bQ)->(false)=(o))))/\((¬(↑(length a.bQ):Int)=(↑(length b.bQ):Int))->(false)=(o))))/\(((q)=false)->(false)=(o)))):Cq 101 [mG a,mG b] (Am.bool o):=by
 rcases y00 ((q))with c1|c1
 .have h:=h.1 c1;let l1:List fP:=[kc [] hs,kf (show(!q)=false from(y27 (c1))),kN 15 (ay a.bQ),kN 18 (ay b.bQ)];by_cases c2:((↑(length a.bQ):Int)=(↑(length b.bQ):Int))
  .have h:=h.1 c2;have Av:((↑(length a.bQ):Int)!=(↑(length b.bQ):Int))=false:=(y27 (nW.2 c2));by_cases c3:(a.bQ=b.bQ)
   .have h:=h.1 c3;exact aA (aF.aI h) (l1++[kf Av,kl (rG [(0,2),(6,33)]) 2 (show Rq 0 101 0 (sM 39 [(2,.ptr 0 0),(3,.ptr 1 0),(4,Am.bool false),(5,int 0)] [.box [.sl 9 false (Sq.au a.cells),.sl 11 false (au a.bQ)],.box [.sl 9 false (Sq.au b.cells),.sl 11 false (au b.bQ)]]) (bF.exit 0) (sM 39 [(4,Am.bool false)] [.box [.sl 9 false (Sq.au a.cells),.sl 11 false (au a.bQ)],.box [.sl 9 false (Sq.au b.cells),.sl 11 false (au b.bQ)]])from(by have h0:=(@aDt (a) (b) zO zO);simp only[yL c3]at h0;exact h0))])
   .have h:=h.2 c3;exact aA (aF.aI h) (l1++[kf Av,kl (rG [(0,2),(6,33)]) 2 (show Rq 0 101 0 (sM 39 [(2,.ptr 0 0),(3,.ptr 1 0),(4,Am.bool false),(5,int 0)] [.box [.sl 9 false (Sq.au a.cells),.sl 11 false (au a.bQ)],.box [.sl 9 false (Sq.au b.cells),.sl 11 false (au b.bQ)]]) bF.ret (sM 39 [(4,Am.bool false)] [.box [.sl 9 false (Sq.au a.cells),.sl 11 false (au a.bQ)],.box [.sl 9 false (Sq.au b.cells),.sl 11 false (au b.bQ)]])from(by have h0:=(@aDt (a) (b) zO zO);simp only[yK c3]at h0;exact h0))])
  .have h:=h.2 c2;exact aA (aF.aI h) (l1++[kt (show((↑(length a.bQ):Int)!=(↑(length b.bQ):Int))=true from(y27 (qN.2 c2)))])
 .have h:=h.2 c1;exact aA (aF.aI h) [kc [] hs,kt (show(!q)=true from(y27 (c1))),kO]
theorem zG(a b:TE)(hca:a.cells.length<=1000000000)(hcb:b.cells.length<=1000000000)(ha:a.bQ.length<=1000000000)(hv:b.bQ.length<=1000000000):Cq 101 [mG a,mG b] (bool (decide (a=b))):=by
 refine E9 a b hv ha _ _ (aDs a.cells b.cells hca hcb) ?_;have e:a=b↔a.cells=b.cells/\a.bQ=b.bQ:=by cases a;cases b;simp[TE.mk.injEq]
 by_cases h1:a.cells=b.cells<;>by_cases h2:a.bQ=b.bQ
 .simp [e,h1,h2]
 .simp [e,h1,h2]
 .simp [e,h1,h2]
 .simp [e,h1,h2]
theorem aw3(t:TE)(h:((((↑(length t.cells):Int)<=40)->(decide ((↑(length t.bQ):Int)<=12))=(decide (length t.cells<=40/\length t.bQ<=12)))/\((¬(↑(length t.cells):Int)<=40)->(false)=(decide (length t.cells<=40/\length t.bQ<=12))))):Cq 115 [mG t] (Am.bool (decide (length t.cells<=40/\length t.bQ<=12))):=by
 have bS:Am.aF (int (↑(length (Sq.au t.cells)):Int)) (int ↑(length t.cells)):=(aF.of_eq (by simp only[Go.Sq.ay]));by_cases c1:((↑(length t.cells):Int)<=40)
 .have h:=h.1 c1;exact aA (aF.aI h) [kv 5 bS,kt (qT c1),kN 10 (ay t.bQ)]
 .have h:=h.2 c1;exact aA (aF.aI h) [kv 5 bS,kf (qF c1)]
def aAB(l:List CE)(m:MK)(i:Int):Bool:=decide (ixP l m.frm<=i)&&decide (i<=ixP l m.upto)
theorem aHB(l:List CE)(m:MK)(i f g:Int)(hf:Cq 228 [bZ l,oO m.fd m.fs m.fa] (int f))(hg:Cq 228 [bZ l,oO m.td m.ts m.ta] (int g))(o:Bool)(h:(((f<=i)->(decide (i<=g))=(o))/\((¬f<=i)->(false)=(o)))):Cq 283 [bZ l,EC m,int i] (Am.bool o):=by
 by_cases c1:(f<=i)
 .have h:=h.1 c1;exact aA (aF.aI h) [kc [] hf,kt (qT c1),kc [] hg]
 .have h:=h.2 c1;exact aA (aF.aI h) [kc [] hf,kf (qF c1)]
theorem aFY(l:List CE)(m:MK)(i:Int)(hv:l.length<=1000000000):Cq 283 [bZ l,EC m,int i] (bool (aAB l m i)):=aHB l m i _ _ (aAj l m.fd m.fs m.fa hv) (aAj l m.td m.ts m.ta hv) _ (by
 unfold aAB MK.frm MK.upto;grind)
end Go.Tx
namespace Go.Dc
open Go Go.Am Go.Proofs Go.eY Go.bH
variable {v:List D}{f:FD}
theorem asb(h:f.pk=3):U6 f v=true↔vC f.ta=0/\(∀x∈f.ta,cZ v (dtt x)=true)/\f.ce.length+f.bi.length+f.tc.length+f.tm.length=0/\f.pn.size<=64:=by simp[U6,h,and_assoc]
theorem arC(h:f.pk=4):U6 f v=true↔Tx.vC ⟨f.tc,f.tm⟩=0/\(∀x∈f.tc,cZ v (dtc x)=true)/\(∀x∈f.tm,cZ v (dtm x)=true)/\f.ce.length+f.bi.length+f.ta.length=0/\f.pn.size<=64:=by simp[U6,h,and_assoc]
theorem asQ(h:U6 f v=true):f.pk=1\/f.pk=2\/f.pk=3\/f.pk=4:=by
 unfold U6 at h;by_cases h1:f.pk=1
 .exact .inl h1
 by_cases h2:f.pk=2
 .exact .inr (.inl h2)
 by_cases h3:f.pk=3
 .exact .inr (.inr (.inl h3))
 by_cases h4:f.pk=4
 .exact .inr (.inr (.inr h4))
 simp[h1,h2,h3,h4]at h
end Go.Dc
namespace Go.bV
open Go Go.Am Go.Proofs Go.eY Go.bH Go.yU
def atN(o:OP):Bool:=decide ((o.cx.length:Int)<=600)&&decide ((o.ky.size:Int)+o.vl.size+o.pn.size<=20000)
theorem aw3(o:OP)(h1:o.ky.size<=1000000000000000)(h2:o.vl.size<=1000000000000000)(h3:o.pn.size<=1000000000000000)(b:Bool)(h:((((↑(length (au (OP.cx o))):Int)<=(600:Int))->(decide ((↑(ByteArray.size (OP.ky o)+ByteArray.size (OP.vl o)+ByteArray.size (OP.pn o)):Int)<=(20000:Int)))=(b))/\((¬(↑(length (au (OP.cx o))):Int)<=(600:Int))->(false)=(b)))):ak P G 38 [op o] [] (aS.ret (Am.bool b)) []:=by
 by_cases c1:((↑(length (au (OP.cx o))):Int)<=(600:Int))
 .have h:=h.1 c1;have e1:=h;exact aA (aF.aI e1) [kt (y15 c1),kv 14 (show Am.aF (int (IntKind.wrap IntKind.i64 ((↑(ByteArray.size (OP.ky o)):Int)+(↑(ByteArray.size (OP.vl o)):Int)))) (int (↑(ByteArray.size (OP.ky o)+ByteArray.size (OP.vl o)):Int))from(aF.TJ zO zO zO)),kv 19 (show Am.aF (int (IntKind.wrap IntKind.i64 ((↑(ByteArray.size (OP.ky o)+ByteArray.size (OP.vl o)):Int)+(↑(ByteArray.size (OP.pn o)):Int)))) (int (↑(ByteArray.size (OP.ky o)+ByteArray.size (OP.vl o)+ByteArray.size (OP.pn o)):Int))from(aF.TJ zO zO zO))] zQ
 .have h:=h.2 c1;have e1:=h;exact aA (aF.aI e1) [kf (y16 c1)] zQ
def azI(o:OP):Prop:=o.ky.size<=1000000000000000/\o.vl.size<=1000000000000000/\o.pn.size<=1000000000000000
theorem alz(o:OP)(h:azI o):ak P G 38 [op o] [] (.ret (bool (atN o))) []:=by
 refine aw3 o h.1 h.2.1 h.2.2 _ ⟨fun h1=>?_,fun h1=>?_⟩
 .rw [ay]at h1;simp only[atN,h1,decide_true,Bool.true_and,Int.natCast_add]
 .rw [ay]at h1;simp only[atN,h1,decide_false,Bool.false_and]
end Go.bV
namespace Go.Dc
open Go Go.Am Go.Proofs Go.eY Go.bH
abbrev ltF(x y:FD):Prop:=U7 x.pk y.pk x.pn y.pn<0
theorem ars{v:List D}:∀{l:List FD}{q:Option FD},Xe v q l=true↔(∀f∈l,U6 f v=true)/\l.Pairwise ltF/\∀g,q=some g->∀x∈l,ltF g x
 |[],q=>by simp[Xe]
 |u::l,q=>by
  constructor
  .intro h;have hp:=OO h;have h':=h;simp only[Xe,y04]at h';have ih:=(ars (l:=l) (q:=some u)).1 h'.2;refine⟨fun f hf=>?_,hp,fun g e x hx=>?_⟩
   .rcases yH.1 hf with rfl|hf
    .exact h'.1.1
    .exact ih.1 f hf
   .subst e;exact Yy h x hx
  .rintro ⟨h1,h2,h3⟩;have h2':=pairwise_cons.1 h2;simp only[Xe,y04];refine⟨⟨h1 u zS,?_⟩,ars.2 ⟨fun f hf=>h1 f (by simp[hf]),h2'.2,fun g e x hx=>by injection e with e;exact e▸h2'.1 x hx⟩⟩;cases q with
   |none=>rfl
   |some g=>exact y15 (h3 g rfl u zS)
theorem arD{d:DO}:F9 d=0↔Cw d.sn=true/\(∀f∈d.fs,U6 f d.sn=true)/\d.fs.Pairwise ltF:=by
 have hq:=ars (v:=d.sn) (l:=d.fs) (q:=none);unfold F9;constructor
 .intro h;by_cases e:Cw d.sn=true/\Xe d.sn none d.fs=true
  .have k:=hq.1 e.2;exact⟨e.1,k.1,k.2.1⟩
  .rw [yK e]at h;cases h
 .rintro ⟨h1,h2,h3⟩;rw[yL ⟨h1,hq.2 ⟨h2,h3,fun g e=>by cases e⟩⟩]
open Go.yU (CV)
open Go.Sq (CE)
open Go.Bd (BE)
open Go.Tx (MK)
def nmV(n:Int):CV:=.mk 1 n .empty []
def wdV(s:yP):CV:=.mk 2 0 s []
def lsV(l:List CV):CV:=.mk 3 0 .empty l
end Go.Dc
namespace Go.Dc
open Go Go.Am Go.Proofs Go.eY Go.bH
open Go.bV (OP op)
open Go.yU (CV rR val Cy iB fA)
theorem aKk(n:Int)(h:True):Cq 55 [int n] (rR 1 n y28 []):=by
 have _:=h;exact ak.out ((show Cq 55 [int n] (.agg [int 1,int n,str (ByteArray.mk #[]),aK])from aj [])) (aF.qo ⟨y29,y29,y29,(aF.nil _),yO⟩)
theorem aKl(s:yP)(h:True):Cq 56 [str s] (rR 2 0 s []):=by
 have _:=h;exact ak.out ((show Cq 56 [str s] (.agg [int 2,int 0,str s,aK])from aj [])) (aF.qo ⟨y29,y29,y29,(aF.nil _),yO⟩)
theorem azd(t:Bool)(xs:List (List AV))(h:True):Cq 53 [.sl 4 t xs] (.agg [int 3,int 0,str y28,.sl 4 false xs]):=by
 have _:=h;exact ak.out ((show Cq 53 [.sl 4 t xs] (.agg [int 3,int 0,str (ByteArray.mk #[]),.sl 4 t xs])from aj [])) (aF.qo ⟨y29,y29,y29,(aF.oP _ _ _),yO⟩)
theorem aze  (h:True):Cq 53 [aK] (.agg [int 3,int 0,str y28,aK]):=by
 have _:=h;exact aj []
theorem aGr(n:Int):Cq 55 [int n] (rR 1 n .empty []):=aKk n trivial
theorem aCH(s:yP):Cq 56 [str s] (rR 2 0 s []):=aKl s trivial
theorem azf(t:Bool)(xs:List (List AV)):Cq 53 [.sl 4 t xs] (.agg [int 3,int 0,str .empty,.sl 4 false xs]):=azd t xs trivial
theorem aw6:Cq 53 [aK] (.agg [int 3,int 0,str .empty,aK]):=aze trivial
def azK:List AV:=[int 0,int 0,str .empty,aK]
def azL:List AV:=[int 3,int 0,str .empty,aK]
def a0S(f:AV)(s k:Nat)(xs:List (List AV)):St:={ aL:=aC 25 [(1,f),(4,.ptr 0 0),(5,.ptr 1 0),(9,.sl s false xs),(10,int xs.length),(11,int k)],H:=[.box azK,.box azL] }
theorem aye(f:AV)(h:True):Rq 0 73 0 (a0S f 2 0 []) (bF.exit 0) (sM 25 [(4,.ptr 0 0),(5,.ptr 1 0)] [.box azK,.box azL]):=by
 have _:=h;exact aG [kY] (aB 25 [4,5]) 2
theorem ayC  (h:True):Cq 73 [bB [],gP 74] (.agg azL):=by
 have _:=h;exact aj [kc [] (@aw6 ),kl (rG [(0,1),(2,2),(6,3),(12,13)]) 2 (@aye (iL 74) (trivial))]
theorem ayf(f:AV)(h:True):Rq 0 76 0 (a0S f 7 0 []) (bF.exit 0) (sM 25 [(4,.ptr 0 0),(5,.ptr 1 0)] [.box azK,.box azL]):=by
 have _:=h;exact aG [kY] (aB 25 [4,5]) 2
theorem ayD  (h:True):Cq 76 [Md [],gP 77] (.agg azL):=by
 have _:=h;exact aj [kc [] (@aw6 ),kl (rG [(0,1),(2,2),(6,3),(12,13)]) 2 (@ayf (iL 77) (trivial))]
theorem azg(d:DO)(s f:List CV)(b:List UInt8)(e:Int)(hC:Cq 17 [kI d] (int 0))(hs:Cq 73 [bB d.sn,gP 74] (rR 3 0 .empty s))(hf:Cq 76 [Md d.fs,gP 77] (rR 3 0 .empty f))(hE:Cq 37 [rR 3 0 .empty [lsV s,lsV f]] (.bq [Cy b,int e]))(h:True):Cq 21 [kI d] (.bq [Cy b,int e]):=by
 have _:=h;exact aj [kc [] hC,kY,kc [] hs,kc [] hf,kc [] (@azf (true) ([[int 3,int 0,str y28,AV.sl 4 false (iB s)],[int 3,int 0,str y28,AV.sl 4 false (iB f)]])),kc [] hE]
def rdX(d:DO):St:={ aL:=aC 50 [(2,.ptr 1 0)],H:=[.box [bB d.sn,Md d.fs],.box azL] }
def rd0(d:DO)(k:Nat):St:={ aL:=aC 50 [(2,.ptr 1 0),(17,Md d.fs),(18,int d.fs.length),(19,int k)],H:=[.box [bB d.sn,Md d.fs],.box azL] }
theorem azh(d:DO)(hk:¬(0:Int)<(d.fs.length:Int))(h:True):Rq 0 15 0 (rd0 d 0) (bF.exit 0) (rdX d):=by
 have _:=h;exact aG [kj ((0:Int)<(↑(length d.fs):Int))] (aB 50 [2]) 2
theorem apv(d:DO)(hC:Cq 17 [kI d] (int 0))(hL:Rq 0 15 0 (rd0 d 0) (.exit 0) (rdX d))(h:True):Cq 15 [kI d] (.bq [.agg azL,int 0]):=by
 have _:=h;exact aj [kc [] hC,kY,kc [] (@aw6 ),kN 18 (fE d.fs),kl (rG [(0,2),(3,14),(20,30)]) 2 hL]
theorem azi(e:Int)(he:¬e=0)(b:List UInt8)(v:CV)(hC:Cq 82 [Cy b] (.bq [val v,int e]))(h:True):Cq 23 [Cy b] (.bq [Rf,int e]):=by
 have _:=h;exact aj [kc [] hC,kt (show(e != 0)=true from(y27 (qF zO)))]
def ayE(a b c:Int)(s t:yP):OP:=⟨a,b,c,[],1,s,1,0,0,0,0,0,0,.empty,t,0,false⟩
theorem ayF(a b c:Int)(s t:yP)(h:True):Cq 36 [int a,int b,int c,str s,str t] (op (ayE a b c s t)):=by
 have _:=h;exact ak.out ((show Cq 36 [int a,int b,int c,str s,str t] (.agg [int a,int b,int c,aK,int 1,str s,int 1,int 0,int 0,int 0,int 0,int 0,int 0,str (ByteArray.mk #[]),str t,int 0,Am.bool false])from aj [])) (aF.qo ⟨y29,y29,y29,(aF.nil _),y29,y29,y29,y29,y29,y29,y29,y29,y29,y29,y29,y29,y29,yO⟩)
end Go.Dc
namespace Go.Dc
open Go Go.Am Go.Proofs Go.eY Go.bH
open Go.bV (OP op jy)
open Go.yU (CV rR Cy val)
def erO:OP:=⟨2,1,2,[(1,1)],1,⟨#[98]⟩,2,1,1,0,0,0,0,.empty,.empty,0,false⟩
def zoO:OP:=⟨0,0,0,[],0,.empty,0,0,0,0,0,0,0,.empty,.empty,0,false⟩
abbrev iOc:OP:=ayE 1 1 1 ⟨#[97]⟩ ⟨#[118]⟩
def erL:List AV:=[int 2,int 1,int 2,.sl 2 true [[int 1,int 1]],int 1,str ⟨#[98]⟩,int 2,int 1,int 1,int 0,int 0,int 0,int 0,str .empty,str .empty,int 0,Am.bool false]
def zoL:List AV:=[int 0,int 0,int 0,aK,int 0,str .empty,int 0,int 0,int 0,int 0,int 0,int 0,int 0,str .empty,str .empty,int 0,Am.bool false]
def baL:AV:=.agg [.sl 2 true [[int (-1),int 0]],aK]
theorem ayg(x y:DO)(f1 g1 g2:FD)(hx:x.fs[0]?=some f1)(hy:y.fs[1]?=some g2)(lx:x.fs.length=1)(ly:y.fs.length=2)(lc:f1.ce.length=1)(lg:g2.ce.length=0)(ls:y.sn.length=2)(b:List UInt8)(c1:Cq 36 [int 1,int 1,int 1,str ⟨#[97]⟩,str ⟨#[118]⟩] (op iOc))(a1:Cq 12 [Rf,op iOc] (.bq [kI x,int 0]))(a2:Cq 12 [kI x,.agg erL] (.bq [kI y,int 0]))(a3:Cq 12 [Rf,.agg erL] (.bq [Rf,int 181]))(a4:Cq 12 [kI x,op iOc] (.bq [Rf,int 182]))(a5:Cq 12 [Rf,.agg zoL] (.bq [Rf,int 170]))(r:Cq 15 [Rf] (.bq [rR 3 0 .empty [],int 0]))(e:Cq 21 [Rf] (.bq [Cy b,int 0]))(ce:Cq 37 [.agg [int 3,int 0,str .empty,.sl 4 true [[int 3,int 0,str .empty,aK],[int 3,int 0,str .empty,aK]]]] (.bq [Cy b,int 0]))(d:Cq 23 [aK] (.bq [Rf,int 10]))(a6:Cq 12 [baL,.agg zoL] (.bq [Rf,int 180]))(o:Cq 25 [.agg zoL] (int 170))(s:Cq 20 [rR 3 0 .empty [],.agg [int 3,int 0,str .empty,aK]] (Am.bool true))(k1:Cq 17 [Rf] (int 0))(k2:Cq 17 [baL] (int 180))(m1:Cq 19 [kI x,kI x] (Am.bool true))(m2:Cq 19 [kI x,kI y] (Am.bool false))(h:((((ByteArray.toList (ByteArray.mk (toArray b))==ByteArray.toList (ByteArray.mk (toArray b)))=true)->True)/\(((ByteArray.toList (ByteArray.mk (toArray b))==ByteArray.toList (ByteArray.mk (toArray b)))=false)->(false)=(true)))):Cq 10 [] (Am.bool true):=by
 have aln:yU.jl b=List.map (fun(c:UInt8)=>[AV.lit (Value.int IntKind.u8 (↑(UInt8.toNat c):Int))]) (Array.toList (Array.mk b)):=(rfl);let l1:List fP:=[kc [] c1,kc [] a1,kc [] a2,kc [] a3,kc [] c1,kc [] a4,kc [] a5,kc [] r,kc [] e,kc [] ce,kc [] d,kc [] a6,kO,kN 98 (fE x.fs),kt (show((↑(length x.fs):Int)==1)=true from(qT zO)),ke (jB f1) (dA x.fs) (0:Int) (bG hx),kv 107 (show Am.aF (int (↑(length (Sq.au f1.ce)):Int)) (int ↑(length f1.ce))from(aF.of_eq (by simp only[Go.Sq.ay]))),kt (show((↑(length f1.ce):Int)==1)=true from(qT zO)),kO,kN 117 (fE y.fs),kt (show((↑(length y.fs):Int)==2)=true from(qT zO)),ke (jB g2) (dA y.fs) (1:Int) (bG hy),kv 126 (show Am.aF (int (↑(length (Sq.au g2.ce)):Int)) (int ↑(length g2.ce))from(aF.of_eq (by simp only[Go.Sq.ay]))),kt (show((↑(length g2.ce):Int)==0)=true from(qT zO)),kN 132 (Go.bH.ay y.sn),kt (show((↑(length y.sn):Int)==2)=true from(qT zO)),kO,kO,kO,kc [] o,kO,kO,kc [] s,kO,kO,kO,ko (bC.bytes (ByteArray.mk (toArray b))),ko (bC.bytes (ByteArray.mk (toArray b))),kp aln,kp aln];rcases y00 ((ByteArray.toList (ByteArray.mk (toArray b))==ByteArray.toList (ByteArray.mk (toArray b))))with c6|c6
 .have h:=h.1 c6;have _:=h;exact aj (l1++[kt c6,kO,kO,kc [] k1,kO,kc [] k2,kO,kc [] m1,kO,kc [] m2])
 .have h:=h.2 c6;exact aA (aF.aI h) (l1++[kf c6,kY,kY,kY,kY,kY])
end Go.Dc
namespace Go.Dc
open Go Go.Am Go.Proofs Go.eY Go.bH
open Go.yU (CV rR val Cy iB fA)
def tqS(a b:List TL)(k:Nat):St:={ aL:=aC 26 [(0,mF a),(1,mF b),(4,Am.bool false),(5,int k)],H:=[] }
theorem aHC(a b:List TL)(k:Nat)(hl:a.length=b.length)(hv:b.length<=1000000000)(ex:bF)(o:Bool)(h:((((k:Int)<(a.length:Int))->(∃x2:TL,(a[k]?=some x2)/\(∃x4:TL,(b[k]?=some x4)/\((((x2.1==x4.1&&(Prod.fst x2.2==Prod.fst x4.2&&Prod.snd x2.2==Prod.snd x4.2))=true)->Rq 0 100 0 (sM 26 [(0,.sl 3 false (lH a)),(1,.sl 3 false (lH b)),(4,Am.bool false),(5,int ↑(k+1))] []) ex (sM 26 [(4,Am.bool o)] []))/\(((x2.1==x4.1&&(Prod.fst x2.2==Prod.fst x4.2&&Prod.snd x2.2==Prod.snd x4.2))=false)->(bF.ret=ex)/\((false)=(o)))))))/\((¬(k:Int)<(a.length:Int))->(bF.exit 0=ex)/\((false)=(o))))):Rq 0 100 0 (tqS a b k) ex (sM 26 [(4,Am.bool o)] []):=by
 have bS:=lU (dP a);by_cases c1:((k:Int)<(a.length:Int))
 .have h:=h.1 c1;obtain⟨x2,o3,h⟩:=h;obtain⟨x4,o5,h⟩:=h;let l1:List fP:=[kv 13 bS,kt (qT c1),ko (bC.elem (ze x2)),ko (bC.elem (ze x4)),kp (show(0:Int)<=(k:Int)/\(lH a)[Int.toNat (k:Int)]?=some (ze x2)from(bG o3)),kp (show(0:Int)<=(k:Int)/\(lH b)[Int.toNat (k:Int)]?=some (ze x4)from(bG o5))];rcases y00 ((x2.1==x4.1&&(Prod.fst x2.2==Prod.fst x4.2&&Prod.snd x2.2==Prod.snd x4.2)))with c6|c6
  .have h:=h.1 c6;exact aJ (l1++[kf (show(!(x2.1==x4.1&&(Prod.fst x2.2==Prod.fst x4.2&&Prod.snd x2.2==Prod.snd x4.2)))=false from(y27 (c6))),kW 16 (k+1) ↑(k+1)]) (aB 26 [0,1,4,5]) 0 h
  .have h:=h.2 c6;obtain⟨eX,e1⟩:=h;exact bN.to ((show Rq 0 100 0 (tqS a b k) bF.ret (sM 26 [(4,Am.bool false)] [])from aG (l1++[kt (show(!(x2.1==x4.1&&(Prod.fst x2.2==Prod.fst x4.2&&Prod.snd x2.2==Prod.snd x4.2)))=true from(y27 (c6)))]) (aB 26 [4]) 0)) eX (eB.aC ⟨rfl,(aF.aI e1),yO⟩)
 .have h:=h.2 c1;obtain⟨eX,e1⟩:=h;exact bN.to ((show Rq 0 100 0 (tqS a b k) (bF.exit 0) (sM 26 [(4,Am.bool false)] [])from aG [kv 13 bS,kf (qF c1)] (aB 26 [4]) 0)) eX (eB.aC ⟨rfl,(aF.aI e1),yO⟩)
theorem aDu(a b:TL):((a.1==b.1&&(a.2.1==b.2.1&&a.2.2==b.2.2))=true)↔a=b:=by
 obtain⟨a1,a2,a3⟩:=a;obtain⟨b1,b2,b3⟩:=b;simp
theorem aE1(a b:List TL)(hl:a.length=b.length)(hv:b.length<=1000000000):∀n k,a.length-k=n->k<=a.length->Rq 0 100 0 (tqS a b k) (if a.drop k=b.drop k then .exit 0 else .ret) { aL:=aC 26 [(4,Am.bool false)],H:=[] }:=by
 intro n
 induction n with
 |zero =>
  intro k hn hk;have e:a.drop k=b.drop k:=by rw[y17 zO,y17 zO]
  exact aHC a b k hl hv _ _ ⟨fun h=>absurd h zO,fun _=>⟨by rw[yL e],rfl⟩⟩
 |succ n ih =>
  intro k hn hk;have ha:k<a.length:=zO
  have hb:k<b.length:=zO
  have e:=Tx.awn ha hb;refine aHC a b k hl hv _ _ ⟨fun h=>⟨a[k],yA ha,b[k],yA hb,⟨fun hq=>?_,fun hq=>?_⟩⟩,fun h=>absurd ha zO⟩
  .have h2:=ih (k+1) zO zO;have hab:a[k]=b[k]:=(aDu _ _).1 hq;rw[show(if a.drop k=b.drop k then bF.exit 0 else .ret)=if a.drop (k+1)=b.drop (k+1)then bF.exit 0 else .ret by simp only[e,hab,true_and]];exact h2
  .have hab:¬a[k]=b[k]:=fun h=>by rw[(aDu _ _).2 h]at hq;cases hq
   rw[yK (fun h=>hab (e.1 h).1)];exact⟨rfl,rfl⟩
theorem aDv(a b:List TL)(hl:a.length=b.length)(hv:b.length<=1000000000):Rq 0 100 0 (tqS a b 0) (if a=b then .exit 0 else .ret) { aL:=aC 26 [(4,Am.bool false)],H:=[] }:=aE1 a b hl hv _ 0 rfl zO
theorem aKa(a b:List TL)(ha:a.length<=1000000000)(hv:b.length<=1000000000)(o:Bool)(h:((((a.length:Int)=(b.length:Int))->(((a=b)->(true)=(o))/\((¬a=b)->(false)=(o))))/\((¬(a.length:Int)=(b.length:Int))->(false)=(o)))):Cq 100 [mF a,mF b] (Am.bool o):=by
 have bS:=lU (dP a);have fT:=lU (dP b);by_cases c1:((a.length:Int)=(b.length:Int))
 .have h:=h.1 c1;have jw:((a.length:Int)!=(b.length:Int))=false:=(y27 (nW.2 c1));by_cases c2:(a=b)
  .have h:=h.1 c2;exact aA (aF.aI h) [kv 7 bS,kv 9 fT,kf jw,kl (rG [(2,2),(6,20)]) 0 (show Rq 0 100 0 (sM 26 [(0,.sl 3 false (lH a)),(1,.sl 3 false (lH b)),(4,Am.bool false),(5,int 0)] []) (bF.exit 0) (sM 26 [(4,Am.bool false)] [])from(by have h0:=(@aDv (a) (b) zO zO);simp only[yL c2]at h0;exact h0))]
  .have h:=h.2 c2;exact aA (aF.aI h) [kv 7 bS,kv 9 fT,kf jw,kl (rG [(2,2),(6,20)]) 0 (show Rq 0 100 0 (sM 26 [(0,.sl 3 false (lH a)),(1,.sl 3 false (lH b)),(4,Am.bool false),(5,int 0)] []) bF.ret (sM 26 [(4,Am.bool false)] [])from(by have h0:=(@aDv (a) (b) zO zO);simp only[yK c2]at h0;exact h0))]
 .have h:=h.2 c1;exact aA (aF.aI h) [kv 7 bS,kv 9 fT,kt (show((a.length:Int)!=(b.length:Int))=true from(y27 (qN.2 c1)))]
theorem aJ9(f g:FD)(b1 b2 b3 b4:Bool)(h3:Cq 98 [Sq.bZ f.ce,Sq.bZ g.ce] (Am.bool b1))(h4:Cq 99 [Bd.iK f.bi,Bd.iK g.bi] (Am.bool b2))(h5:Cq 100 [mF f.ta,mF g.ta] (Am.bool b3))(h6:Cq 101 [Tx.mG (Gb f),Tx.mG (Gb g)] (Am.bool b4))(o:Bool)(h:((((f.pk==g.pk&&f.pn==g.pn)=true)->((((b1)=true)->((((b2)=true)->((((b3)=true)->(b4)=(o))/\(((b3)=false)->(false)=(o))))/\(((b2)=false)->(false)=(o))))/\(((b1)=false)->(false)=(o))))/\(((f.pk==g.pk&&f.pn==g.pn)=false)->(false)=(o)))):Cq 30 [.agg (jB f),.agg (jB g)] (Am.bool o):=by
 rcases y00 ((f.pk==g.pk&&f.pn==g.pn))with c1|c1
 .have h:=h.1 c1;rcases y00 ((b1))with c2|c2
  .have h:=h.1 c2;let l1:List fP:=[kt c1,kc [] h3,kt c2,kc [] h4];rcases y00 ((b2))with c3|c3
   .have h:=h.1 c3;rcases y00 ((b3))with c4|c4
    .have h:=h.1 c4;exact aA (aF.aI h) (l1++[kt c3,kc [] h5,kt c4,kc [] h6])
    .have h:=h.2 c4;exact aA (aF.aI h) (l1++[kt c3,kc [] h5,kf c4])
   .have h:=h.2 c3;exact aA (aF.aI h) (l1++[kf c3,kY])
  .have h:=h.2 c2;exact aA (aF.aI h) [kt c1,kc [] h3,kf c2,kY,kY]
 .have h:=h.2 c1;exact aA (aF.aI h) [kf c1,kY,kY,kY]
abbrev tdB(a b:DO):List ah:=[.box [bB a.sn,Md a.fs],.box [bB b.sn,Md b.fs]]
def tdS(a b:DO)(k:Nat):St:={ aL:=aC 40 [(2,.ptr 0 0),(3,.ptr 1 0),(4,Am.bool false),(5,int k)],H:=tdB a b }
theorem aKc(a b:DO)(k:Nat)(x y:FD)(hv:a.fs.length<=1000000000)(hk:(k:Int)<(a.fs.length:Int))(hx:a.fs[k]?=some x)(hy:b.fs[k]?=some y)(hS:Cq 30 [.agg (jB x),.agg (jB y)] (Am.bool true))(ex:bF)(s':St)(h:Rq 0 14 0 (sM 40 [(2,.ptr 0 0),(3,.ptr 1 0),(4,Am.bool false),(5,int ↑(k+1))] [.box [bB a.sn,.sl 7 false (dA a.fs)],.box [bB b.sn,.sl 7 false (dA b.fs)]]) ex s'):Rq 0 14 0 (tdS a b k) ex s':=by
 exact aJ [kN 24 (fE a.fs),ki ((k:Int)<(↑(length a.fs):Int)),ko (bC.elem (jB x)),ko (bC.elem (jB y)),kp (show(0:Int)<=(k:Int)/\(dA a.fs)[Int.toNat (k:Int)]?=some (jB x)from(bG hx)),kp (show(0:Int)<=(k:Int)/\(dA b.fs)[Int.toNat (k:Int)]?=some (jB y)from(bG hy)),kc [] hS,kY,kW 27 (k+1) ↑(k+1)] (aB 40 [2,3,4,5]) 2 h
theorem aKd(a b:DO)(k:Nat)(x y:FD)(hv:a.fs.length<=1000000000)(hk:(k:Int)<(a.fs.length:Int))(hx:a.fs[k]?=some x)(hy:b.fs[k]?=some y)(hS:Cq 30 [.agg (jB x),.agg (jB y)] (Am.bool false))(h:True):Rq 0 14 0 (tdS a b k) bF.ret (St.mk (aC 40 [(4,Am.bool false)]) (tdB a b) []):=by
 have _:=h;exact aG [kN 24 (fE a.fs),ki ((k:Int)<(↑(length a.fs):Int)),ko (bC.elem (jB x)),ko (bC.elem (jB y)),kp (show(0:Int)<=(k:Int)/\(dA a.fs)[Int.toNat (k:Int)]?=some (jB x)from(bG hx)),kp (show(0:Int)<=(k:Int)/\(dA b.fs)[Int.toNat (k:Int)]?=some (jB y)from(bG hy)),kc [] hS,kO] (aB 40 [4]) 2
theorem aKb(a b:DO)(k:Nat)(hk:¬(k:Int)<(a.fs.length:Int))(h:True):Rq 0 14 0 (tdS a b k) (bF.exit 0) (St.mk (aC 40 [(4,Am.bool false)]) (tdB a b) []):=by
 have _:=h;exact aG [kN 24 (fE a.fs),kj ((k:Int)<(↑(length a.fs):Int))] (aB 40 [4]) 2
theorem aKe(a b:DO)(hl:(a.fs.length:Int)=(b.fs.length:Int))(hS:Cq 29 [bB a.sn,bB b.sn] (Am.bool true))(hL:Rq 0 14 0 (tdS a b 0) (.exit 0) { aL:=aC 40 [(4,Am.bool false)],H:=tdB a b })(h:True):Cq 14 [kI a,kI b] (Am.bool true):=by
 have _:=h;exact aj [kc [] hS,kY,kN 15 (fE a.fs),kN 18 (fE b.fs),kf (show((↑(length a.fs):Int)!=(↑(length b.fs):Int))=false from(y27 (qT zO))),kl (rG [(0,2),(6,34)]) 2 hL]
theorem aKf(a b:DO)(hl:(a.fs.length:Int)=(b.fs.length:Int))(hS:Cq 29 [bB a.sn,bB b.sn] (Am.bool true))(hL:Rq 0 14 0 (tdS a b 0) .ret { aL:=aC 40 [(4,Am.bool false)],H:=tdB a b })(h:True):Cq 14 [kI a,kI b] (Am.bool false):=by
 have _:=h;exact aj [kc [] hS,kY,kN 15 (fE a.fs),kN 18 (fE b.fs),kf (show((↑(length a.fs):Int)!=(↑(length b.fs):Int))=false from(y27 (qT zO))),kl (rG [(0,2),(6,34)]) 2 hL]
theorem aKg(a b:DO)(hl:¬(a.fs.length:Int)=(b.fs.length:Int))(hS:Cq 29 [bB a.sn,bB b.sn] (Am.bool true))(h:True):Cq 14 [kI a,kI b] (Am.bool false):=by
 have _:=h;exact aj [kc [] hS,kY,kN 15 (fE a.fs),kN 18 (fE b.fs),kt (show((↑(length a.fs):Int)!=(↑(length b.fs):Int))=true from(y27 (qF zO)))]
theorem aKh(a b:DO)(hS:Cq 29 [bB a.sn,bB b.sn] (Am.bool false))(h:True):Cq 14 [kI a,kI b] (Am.bool false):=by
 have _:=h;exact aj [kc [] hS,kO,kO]
theorem aKi(a b:DO)(hS:Cq 10 [] (Am.bool true))(h1:Cq 11 [kI a,aK] (Am.bool false))(h:True):Cq 4 [kI a,kI b] (Am.bool true):=by
 have _:=h;exact aj [kc [] hS,kY,kc [] h1,kO,kO]
theorem aKj(a b:DO)(hS:Cq 10 [] (Am.bool true))(h1:Cq 11 [kI a,aK] (Am.bool true))(h2:Cq 11 [kI b,aK] (Am.bool false))(h:True):Cq 4 [kI a,kI b] (Am.bool true):=by
 have _:=h;exact aj [kc [] hS,kY,kc [] h1,kY,kc [] h2,kO]
theorem aHq(a b:DO)(V:CV)(e c:Int)(o:Bool)(hS:Cq 10 [] (Am.bool true))(h1:Cq 11 [kI a,aK] (Am.bool true))(h2:Cq 11 [kI b,aK] (Am.bool true))(hR:Cq 15 [kI a] (.bq [val V,int e]))(hQ:Cq 16 [kI a] (.bq [val V,int e]))(hC:Cq 17 [kI a] (int c))(hD:Cq 18 [kI a] (int c))(hA:Cq 19 [kI a,kI b] (Am.bool o))(hB:Cq 14 [kI a,kI b] (Am.bool o))(hE:Cq 19 [kI a,kI a] (Am.bool true))(hV:Cq 20 [val V,val V] (Am.bool true))(h:((((o==o)=true)->(e==e)=(true))/\(((o==o)=false)->(false)=(true)))):Cq 4 [kI a,kI b] (Am.bool true):=by
 let l1:List fP:=[kc [] hS,kY,kc [] h1,kY,kc [] h2,kY,kc [] hR,kc [] hQ,kc [] hC,kc [] hD,kt (show(c==c)=true from(qT zO)),kc [] hA,kc [] hB];rcases y00 ((o==o))with c2|c2
 .have h:=h.1 c2;exact aA (aF.aI h) (l1++[kt c2,kc [] hE,kO,kc [] hV,kO])
 .have h:=h.2 c2;exact aA (aF.aI h) (l1++[kf c2,kY,kY])
end Go.Dc
namespace Go.Dc
open Go Go.Am Go.Proofs Go.eY Go.bH
open Go.yU (CV rR val Cy iB fA avw)
def aH0:List ah:=[.box azK,.box azL]
def aH1(cs:List CV)(g:Nat):List ah:=[.box azK,.box [int 3,int 0,str .empty,.aU 3 g 0 cs.length],.aH,.aN g 4 false (iB cs)]
def aMe{α:Type}(E:α->List AV)(s F:Nat)(l:List α)(k:Nat)(H:List ah):St:={ aL:=aC 25 [(1,gP F),(4,.ptr 0 0),(5,.ptr 1 0),(9,slF E s l),(10,int l.length),(11,int k)],H:=H }
abbrev aMf(H:List ah):St:={ aL:=aC 25 [(4,.ptr 0 0),(5,.ptr 1 0)],H:=H }
theorem aAE(n:Nat)(l:List CV):∀c∈iB l,AV.gH n c=true:=fun c hc=>agW (yU.CF l) n c hc
theorem avJ(cs:List CV)(v:CV):iB cs++[v.cells]=iB (cs++[v]):=by rw[<- avw];rfl
theorem aDx(cs:List CV)(v:CV)(g:Nat):aH1 (cs++[v]) (g+1)=[.box azK,.box [int 3,int 0,str .empty,.aU 3 (g+1) 0 (cs.length+1)],.aH,.aN (g+1) 4 false (iB cs++[v.cells])]:=by
 unfold aH1;rw[avJ,yD];rfl
abbrev AlQ(s A:Nat):Prop:=(s=2/\A=73)\/(s=7/\A=76)\/(s=9/\A=172)\/(s=5/\A=146)\/(s=3/\A=175)\/(s=11/\A=177)
structure AlW{α:Type}(E:α->List AV)(V:α->CV)(s A F:Nat):Prop where
 y:∀(l:List α)(k:Nat)(x:α),(k:Int)<l.length->l[k]?=some x->Cq F [.agg (E x)] (val (V x))->∀(ex:bF)(s':St),Rq 0 A 0 (aMe E s F l (k+1) (aH1 [V x] 0)) ex s'->l.length<=1000000->Rq 0 A 0 (aMe E s F l k aH0) ex s'
 n:∀(l:List α)(k:Nat)(x:α)(cs:List CV)(g:Nat),(k:Int)<l.length->l[k]?=some x->Cq F [.agg (E x)] (val (V x))->∀(ex:bF)(s':St),Rq 0 A 0 (aMe E s F l (k+1) (aH1 (cs++[V x]) (g+1))) ex s'->l.length<=1000000->cs.length<=1000000->Rq 0 A 0 (aMe E s F l k (aH1 cs g)) ex s'
theorem aKm{V:CV}{x:List AV}:HSub [.box azK,.box [int 3,int 0,str .empty,.aU 3 0 0 1],.box x,.aN 0 4 false [V.cells]] (aH1 [V] 0):=⟨.inl rfl,.inl rfl,.inr yO,.inl rfl,yO⟩
section
variable {α:Type} {E:α->List AV} {V:α->CV} {s A F:Nat} (q:AlQ s A) (w:AlW E V s A F)
include q
theorem aHD(l:List α)(k:Nat)(hk:¬(k:Int)<l.length):Rq 0 A 0 (aMe E s F l k aH0) (.exit 0) (aMf aH0):=by
 rcases q with⟨rfl,rfl⟩|⟨rfl,rfl⟩|⟨rfl,rfl⟩|⟨rfl,rfl⟩|⟨rfl,rfl⟩|⟨rfl,rfl⟩<;>exact aG [kj ((k:Int)<l.length)] (aB 25 [4,5]) 2
theorem aHE(l:List α)(k:Nat)(cs:List CV)(g:Nat)(hk:¬(k:Int)<l.length):Rq 0 A 0 (aMe E s F l k (aH1 cs g)) (.exit 0) (aMf (aH1 cs g)):=by
 rcases q with⟨rfl,rfl⟩|⟨rfl,rfl⟩|⟨rfl,rfl⟩|⟨rfl,rfl⟩|⟨rfl,rfl⟩|⟨rfl,rfl⟩<;>exact aG [kj ((k:Int)<l.length)] (aB 25 [4,5]) 4
end
end Go.Dc
namespace Go.Dc
open Go Go.Am Go.Proofs Go.eY Go.bH
open Go.yU (CV rR val Cy iB fA avw)
section
variable {α:Type} {E:α->List AV} {V:α->CV} {s A F:Nat} (q:AlQ s A) (w:AlW E V s A F)
include q
theorem aKn(l:List α)(cs:List CV)(g:Nat)(hL:Rq 0 A 0 (aMe E s F l 0 aH0) (.exit 0) (aMf (aH1 cs g))):Cq A [slF E s l,gP F] (val (lsV cs)):=by
 rcases q with⟨rfl,rfl⟩|⟨rfl,rfl⟩|⟨rfl,rfl⟩|⟨rfl,rfl⟩|⟨rfl,rfl⟩|⟨rfl,rfl⟩<;>exact aj [kc [] aw6,kN 10 (show(l.map E).length=l.length from y10 E),kl (rG [(0,1),(2,2),(6,3),(12,13)]) 2 hL,ko (bC.fz (some 24) (iB cs)),kq g,kp (show List.take cs.length (List.drop 0 (iB cs))=iB cs from yU.aa7 cs),kp (fA cs),kp (yU.WV cs)]
theorem aKo(hL:Rq 0 A 0 (aMe E s F [] 0 aH0) (.exit 0) (aMf aH0)):Cq A [slF E s [],gP F] (.agg azL):=by
 rcases q with⟨rfl,rfl⟩|⟨rfl,rfl⟩|⟨rfl,rfl⟩|⟨rfl,rfl⟩|⟨rfl,rfl⟩|⟨rfl,rfl⟩<;>exact aj [kc [] aw6,kl (rG [(0,1),(2,2),(6,3),(12,13)]) 2 hL]
include w
theorem aKp(l:List α)(hl:l.length<=500000)(hF:∀x∈l,Cq F [.agg (E x)] (val (V x))):∀n k cs g,l.length-k=n->k<=l.length->cs.length<=k->∃g',Rq 0 A 0 (aMe E s F l k (aH1 cs g)) (.exit 0) (aMf (aH1 (cs++(l.drop k).map V) g')):=by
 intro n
 induction n with
 |zero =>
  intro k cs g hn hk hc;rw[y17 zO,map_nil,y19];exact⟨g,aHE q l k cs g zO⟩
 |succ n ih =>
  intro k cs g hn hk hc;have bg:k<l.length:=zO
  obtain⟨g',nx⟩:=ih (k+1) (cs++[V l[k]]) (g+1) zO zO (by rw[yD];exact Nat.succ_le_succ hc);refine⟨g',?_⟩;rw[y01 bg,map_cons,append_cons];exact w.n l k _ cs g zO (yA bg) (hF _ (y03 bg)) _ _ nx zO zO
theorem aKq(l:List α)(hl:l.length<=500000)(hF:∀x∈l,Cq F [.agg (E x)] (val (V x))):Cq A [slF E s l,gP F] (val (lsV (l.map V))):=by
 cases l with
 |nil=>exact(aKo q (aHD q [] 0 zS)).out (aF.qo ⟨y29,y29,y29,aF.nil 4,yO⟩)
 |cons x l =>
  obtain⟨g',h⟩:=aKp q w (x::l) hl hF _ 1 [V x] 0 rfl zS yM;exact aKn q (x::l) (V x::l.map V) g' (w.y (x::l) 0 x (by rw[yE];omega) rfl (hF x (mem_cons_self ..)) _ _ h zO)
end
end Go.Dc
namespace Go.Bd
open Go Go.Am Go.Proofs Go.eY
theorem aKr(a b:BE)(h:True):Cq 105 [oN a,oN b] (int (zC b a)):=by
 have _:=h;exact aj [kc [] (@aDy (b) (a))]
theorem aHF(a b:BE):Cq 105 [oN a,oN b] (int (zC b a)):=aKr a b trivial
abbrev cvF:AV:=yT 105
def isI(x:List BE)(g n i j:Nat):St:={ aL:=aC 53 [(0,.aU 0 g 0 x.length),(1,int 0),(2,int n),(3,cvF),(8,int i),(9,int j)],H:=[.aN g 5 false (au x)] }
def isO(x:List BE)(g n i:Nat):St:={ aL:=aC 53 [(0,.aU 0 g 0 x.length),(1,int 0),(2,int n),(3,cvF),(8,int i)],H:=[.aN g 5 false (au x)] }
theorem aHG(x:List BE)(g n i j:Nat)(e y:BE)(hx:x.length<=1000)(hj:j<x.length)(hj0:(j:Int)>0)(hxe:x[0+j]?=some e)(hxy:x[0+Int.toNat ((j:Int)-1)]?=some y)(hq:zC y e<0)(ex:bF)(s:St)(h:(∃x3:List AV,((List.set (au x) (0+j) [str y.ky,int y.dv,int y.sq,int y.tm,str y.vl])[0+Int.toNat ((j:Int)-1)]?=some x3)/\Rq 1 267 1 (sM 53 [(0,.aU 0 g 0 x.length),(1,int 0),(2,int ↑n),(3,iL 105),(8,int ↑i),(9,int ((j:Int)-1))] [.aN g 5 false (List.set (List.set (au x) (0+j) [str y.ky,int y.dv,int y.sq,int y.tm,str y.vl]) (0+Int.toNat ((j:Int)-1)) (str e.ky::int e.dv::int e.sq::int e.tm::str e.vl::List.append._f [] PUnit.unit (List.drop 5 x3)))]) ex s)):Rq 1 267 1 (isI x g n i j) ex s:=by
 have fT:g=g:=(rfl);have jw:(0:Int)<=(j:Int)/\(j:Int)<(x.length:Int):=zO;have x9:(au x)[0+Int.toNat (j:Int)]?=some (aQ e):=(iN hxe);have Av:Am.aF (int (IntKind.wrap IntKind.i64 ((j:Int)-1))) (int ((j:Int)-1)):=(aF.TJ zO zO rfl);have qj:(0:Int)<=(j:Int)-1/\(j:Int)-1<(x.length:Int):=zO;have OG:(au x)[0+Int.toNat ((j:Int)-1)]?=some (aQ y):=(iN hxy);obtain⟨x3,o4,h⟩:=h;exact aJ [ki ((j:Int)>0),ko (bC.elem (aQ e)),kp fT,kp jw,kp fT,kp x9,kv 29 Av,ko (bC.elem (aQ y)),kp fT,kp qj,kp fT,kp OG,kc [] (@aHF (e) (y)),ki (zC y e<0),kv 41 Av,kv 44 Av,ko (bC.elem (aQ y)),ko (bC.elem (aQ e)),ko (bC.elem (aQ e)),ko (bC.elem x3),kp fT,kp qj,kp fT,kp OG,kp fT,kp jw,kp fT,kp x9,kp fT,kp jw,kp fT,kp x9,kp fT,kp qj,kp fT,kp o4,kv 36 Av] (aB 53 [0,1,2,3,8,9]) 1 h
theorem aHH(x:List BE)(g n i j:Nat)(e y:BE)(hx:x.length<=1000)(hj:j<x.length)(hj0:(j:Int)>0)(hxe:x[0+j]?=some e)(hxy:x[0+Int.toNat ((j:Int)-1)]?=some y)(hq:¬zC y e<0)(h:True):Rq 1 267 1 (isI x g n i j) (bF.exit 2) (isO x g n i):=by
 have fT:g=g:=(rfl);have _:=h;exact aG [ki ((j:Int)>0),ko (bC.elem (aQ e)),kp fT,kR (j:Int) (x.length:Int),kp fT,kp (show(au x)[0+Int.toNat (j:Int)]?=some (aQ e)from(iN hxe)),kW 29 ((j:Int)-1) ((j:Int)-1),ko (bC.elem (aQ y)),kp fT,kp (show(0:Int)<=(j:Int)-1/\(j:Int)-1<(x.length:Int)from zO),kp fT,kp (show(au x)[0+Int.toNat ((j:Int)-1)]?=some (aQ y)from(iN hxy)),kc [] (@aHF (e) (y)),kj (zC y e<0)] (aB 53 [0,1,2,3,8]) 1
theorem aHI(x:List BE)(g n i j:Nat)(hj0:¬(j:Int)>0)(h:True):Rq 1 267 1 (isI x g n i j) (bF.exit 2) (isO x g n i):=by
 have _:=h;exact aG [kj ((j:Int)>0),kY] (aB 53 [0,1,2,3,8]) 1
def mv:List BE->BE->List BE
 |[],e=>[e]
 |y::t,e=>if CS e y=true then mv t e++[y]else t.reverse++[y,e]
def srt:List BE->List BE->List BE
 |l,[]=>l
 |l,e::t=>srt (mv l.reverse e) t
theorem aBl:∀(l:List BE)(e:BE),(mv l e).length=l.length+1
 |[],_=>rfl
 |y::t,e=>by
  rw[mv];split
  .rw [yD,aBl t e];simp
  .simp
theorem aBa(a b:BE):zC a b<0↔CS b a=true:=by
 unfold zC thn gJ CS agl;simp only[Bool.or_eq_true,y04,y05];grind
theorem aBD(g n i:Nat):∀(Lr:List BE)(e:BE)(R:List BE),Lr.length+R.length+1<=1000->Rq 1 267 1 (isI (Lr.reverse++e::R) g n i Lr.length) (.exit 2) (isO (mv Lr e++R) g n i)
 |[],e,R,_=>aHI _ g n i 0 zS trivial
 |y::t,e,R,hl=>by
  have bL:((y::t).reverse++e::R).length=t.length+R.length+2:=by simp;omega
  have hx:(y::t).reverse++e::R=t.reverse++y::e::R:=zS
  have hj:((y::t).length:Int)-1=(t.length:Int):=zS
  have he:((y::t).reverse++e::R)[0+(y::t).length]?=some e:=by
   rw[hx,y09,yE,getElem?_append_right zS];simp
  have hy:((y::t).reverse++e::R)[0+Int.toNat (((y::t).length:Int)-1)]?=some y:=by
   rw[hx,y09,hj,y26,getElem?_append_right zS];simp
  have hl2:t.length+1+R.length+1<=1000:=by simpa using hl
  cases hm:CS e y with
  |true =>
   have ih:=aBD g n i t e (y::R) (by simp;omega);rw[mv,yL hm,y13,singleton_append];refine aHG _ g n i _ e y (by rw[bL];omega) (by rw[bL,yE];omega) zS he hy ((aBa _ _).2 hm) _ _ ⟨aQ y,?_,?_⟩
   .rw [hj,y26,getElem?_set_ne zS,sF];rw[hj,y26]at hy;rw[hy];rfl
   .rw [hj,y26];have e1:List.set (au ((y::t).reverse++e::R)) (0+(y::t).length) [str y.ky,int y.dv,int y.sq,int y.tm,str y.vl]=au (((y::t).reverse++e::R).set (0+(y::t).length) y):=CW _ _ _;have e2:∀L:List BE,List.set (au L) (0+t.length) (str e.ky::int e.dv::int e.sq::int e.tm::str e.vl::List.append._f [] PUnit.unit (List.drop 5 (aQ y)))=au (L.set (0+t.length) e):=fun L=>CW L _ e;have e3:(((y::t).reverse++e::R).set (0+(y::t).length) y).set (0+t.length) e=t.reverse++e::y::R:=by
     rw[hx,y09,y09,yE,set_append_right _ _ zS,length_reverse,set_append_right _ _ zS,length_reverse];simp
    rw[e1,e2,e3];have e4:isI (t.reverse++e::y::R) g n i t.length={ aL:=aC 53 [(0,.aU 0 g 0 ((y::t).reverse++e::R).length),(1,int 0),(2,int n),(3,cvF),(8,int i),(9,int t.length)],H:=[.aN g 5 false (au (t.reverse++e::y::R))] }:=by
     rw[isI,bL,show(t.reverse++e::y::R).length=t.length+R.length+2 by simp;omega]
    rw[e4]at ih;exact ih
  |false =>
   rw[mv,yK (by rw[hm];decide)];have:=aHH _ g n i _ e y (by rw[bL];omega) (by rw[bL,yE];omega) zS he hy (fun h=>by rw[(aBa _ _).1 h]at hm;cases hm) trivial;have e5:t.reverse++[y,e]++R=(y::t).reverse++e::R:=zS
   rw[e5];exact this
theorem aHJ(x z:List BE)(g n i:Nat)(hx:x.length<=1000)(hi:(i:Int)<(n:Int))(hn:n<=1000)(hz:z.length=x.length)(hL:Rq 1 267 1 (isI x g n i i) (.exit 2) (isO z g n i))(ex:bF)(s:St)(h:Rq 1 267 0 (sM 53 [(0,.aU 0 g 0 z.length),(1,int 0),(2,int ↑n),(3,iL 105),(8,int ↑(i+1))] [.aN g 5 false (au z)]) ex s):Rq 1 267 0 (isO x g n i) ex s:=by
 exact aJ [ki ((i:Int)<n),kl [12,13,14,17] 1 hL,kW 16 (i+1) ↑(i+1)] (aB 53 [0,1,2,3,8]) 1 h
def isX(x:List BE)(g:Nat):St:={ aL:=aC 53 [(0,.aU 0 g 0 x.length)],H:=[.aN g 5 false (au x)] }
theorem aHK(x:List BE)(g n i:Nat)(hi:¬(i:Int)<(n:Int))(h:True):Rq 1 267 0 (isO x g n i) (bF.exit 0) (isX x g):=by
 have _:=h;exact aG [kj ((i:Int)<n)] (aB 53 [0]) 1
theorem aBE(g n:Nat)(hn:n<=1000):∀(R l:List BE),l.length+R.length=n->Rq 1 267 0 (isO (l++R) g n l.length) (.exit 0) (isX (srt l R) g)
 |[],l,h=>by
  rw[y19,srt];exact aHK l g n l.length (by simp at h;omega) trivial
 |e::t,l,h=>by
  have h':l.length+(t.length+1)=n:=by simpa using h
  have bL:(l++e::t).length=n:=by simpa using h
  have vN:=aBD g n l.length l.reverse e t (by simp;omega);rw[reverse_reverse,length_reverse]at vN;have hm:=aBl l.reverse e;rw[length_reverse]at hm;have ih:=aBE g n hn t (mv l.reverse e) zO;rw[hm]at ih;rw[srt];exact aHJ (l++e::t) (mv l.reverse e++t) g n l.length zO zO hn (by rw[yD,hm];omega) vN _ _ ih
theorem aHL(x z:List BE)(g:Nat)(hx:x.length<=1000)(hz:z.length=x.length)(hL:Rq 1 267 0 (isO x g x.length 1) (.exit 0) (isX z g))(h:True):ak P G 267 [.aU 0 g 0 x.length,int 0,int ↑x.length,cvF] [ah.aN g 5 false (au x)] (aS.ret (AV.bq [])) [ah.aN g 5 false (au z)]:=by
 have _:=h;exact aj [kl (rG [(4,4),(9,44)]) 1 hL]
theorem aHM(x:List BE)(g:Nat)(h:True):Rq 1 267 0 (sM 53 [(0,.aU 0 g 0 x.length),(1,int 20),(2,int 20),(3,cvF),(8,int 21)] [.aN g 5 false (au x)]) (bF.exit 0) (isX x g):=by
 have _:=h;exact aG [kY] (aB 53 [0]) 1
theorem aHN(x:List BE)(g:Nat)(n:Int)(hn:n=20)(hL:Rq 1 267 0 { aL:=aC 53 [(0,.aU 0 g 0 x.length),(1,int 20),(2,int 20),(3,cvF),(8,int 21)],H:=[.aN g 5 false (au x)] } (.exit 0) (isX x g))(h:True):ak P G 267 [.aU 0 g 0 x.length,int 20,int 20,cvF] [ah.aN g 5 false (au x)] (aS.ret (AV.bq [])) [ah.aN g 5 false (au x)]:=by
 have _:=h;exact aj [kl (rG [(4,4),(9,44)]) 1 hL]
def stS(x:List BE)(g m:Nat)(n a b:Int):St:={ aL:=aC 63 [(0,.aU 0 g 0 m),(1,int n),(2,cvF),(6,int 20),(7,int a),(8,int b)],H:=[.aN g 5 false (au x)] }
def stX(x:List BE)(g m:Nat)(n a:Int):St:={ aL:=aC 63 [(0,.aU 0 g 0 m),(1,int n),(2,cvF),(6,int 20),(7,int a)],H:=[.aN g 5 false (au x)] }
def stY(x:List BE)(g m:Nat)(n:Int):St:={ aL:=aC 63 [(0,.aU 0 g 0 m),(1,int n),(2,cvF),(6,int 20)],H:=[.aN g 5 false (au x)] }
theorem aFZ(x:List BE)(g m:Nat)(n a b:Int)(hb:¬b<=n)(h:True):Rq 1 203 0 (stS x g m n a b) (bF.exit 0) (stX x g m n a):=by
 have _:=h;exact aG [kj (b<=n)] (aB 63 [0,1,2,6,7]) 1
theorem aHO(x z:List BE)(g m:Nat)(n:Int)(hn:n=20)(h0:ak P G 267 [.aU 0 g 0 m,int 0,int 20,cvF] [.aN g 5 false (au x)] (.ret (.bq [])) [.aN g 5 false (au z)])(ex:bF)(s:St)(h:Rq 1 203 0 (sM 63 [(0,.aU 0 g 0 m),(1,int n),(2,iL 105),(6,int 20),(7,int 20),(8,int 40)] [.aN g 5 false (au z)]) ex s):Rq 1 203 0 (stS x g m n 0 20) ex s:=by
 exact aJ [ki ((20:Int)<=n),kc [0] h0,kp (bJ z),kp (bJ x)] (aB 63 [0,1,2,6,7,8]) 1 h
theorem aHP(x:List BE)(g m:Nat)(n:Int)(hn:n<=20)(h:True):Rq 1 203 1 (stY x g m n) (bF.exit 2) (sM 63 [(0,.aU 0 g 0 m)] [.aN g 5 false (au x)]):=by
 have _:=h;exact aG [kj ((20:Int)<n)] (aB 63 [0]) 1
theorem aHQ(x y z:List BE)(g m:Nat)(n a:Int)(hL:Rq 1 203 0 (stS x g m n 0 20) (.exit 0) (stX y g m n a))(h0:ak P G 267 [.aU 0 g 0 m,int a,int n,cvF] [.aN g 5 false (au y)] (.ret (.bq [])) [.aN g 5 false (au z)])(hM:Rq 1 203 1 (stY z g m n) (.exit 2) { aL:=aC 63 [(0,.aU 0 g 0 m)],H:=[.aN g 5 false (au z)] })(h:True):ak P G 203 [.aU 0 g 0 m,int n,cvF] [ah.aN g 5 false (au x)] (aS.ret (AV.bq [])) [ah.aN g 5 false (au z)]:=by
 have _:=h;exact aj [kl (rG [(3,3),(9,54)]) 1 hL,kc [0] h0,kp (bJ z),kp (bJ y),kl (rG [(7,1),(23,5)]) 1 hM]
theorem aDz(x:List BE)(g:Nat)(hx:x.length<=20)(fF:x≠[]):ak P G 203 [.aU 0 g 0 x.length,int x.length,cvF] [.aN g 5 false (au x)] (.ret (.bq [])) [.aN g 5 false (au (srt [] x))]:=by
 obtain⟨e,t,rfl⟩:=exists_cons_of_ne_nil fF;have hl:=aBE g (e::t).length zO t [e] (by simp;omega);have hs:∀(r l:List BE),(srt l r).length=l.length+r.length:=by
  intro r
  induction r with
  |nil=>intro l;rfl
  |cons a r ih=>intro l;rw[srt,ih,aBl,length_reverse,yE];omega
 have hz:(srt [e] t).length=(e::t).length:=by rw[hs];simp;omega
 have h76:=aHL (e::t) (srt [e] t) g zO hz hl trivial;have hM:∀z:List BE,Rq 1 203 1 (stY z g (e::t).length (e::t).length) (.exit 2) { aL:=aC 63 [(0,.aU 0 g 0 (e::t).length)],H:=[.aN g 5 false (au z)] }:=fun z=>aHP z g _ _ zO trivial;show ak P G _ _ _ _ [.aN g 5 false (au (srt [e] t))];rcases y08 (e::t).length 20 with h|h
 .exact aHQ (e::t) (e::t) (srt [e] t) g _ _ 0 (aFZ _ g _ _ _ _ zO yO) h76 (hM _) trivial
 .have e20:(e::t).length=20:=zO
  have hL:Rq 1 203 0 (stS (e::t) g (e::t).length (e::t).length 0 20) (.exit 0) (stX (srt [e] t) g (e::t).length (e::t).length 20):=by
   refine aHO (e::t) (srt [e] t) g _ _ zO ?_ _ _ (aFZ _ g _ _ _ _ zO yO);have:=h76;rw[e20]at this;rw[e20];exact this
  have h2:=aHN (srt [e] t) g 20 rfl (aHM _ g yO) trivial;rw[hz]at h2;refine aHQ (e::t) (srt [e] t) (srt [e] t) g _ _ 20 hL ?_ (hM _) trivial;rw[e20]at h2 |-;exact h2
theorem aHR(x z:List BE)(g:Nat)(h0:ak P G 203 [.aU 0 g 0 x.length,int x.length,cvF] [.aN g 5 false (au x)] (.ret (.bq [])) [.aN g 5 false (au z)])(h:True):ak P G 104 [.aU 0 g 0 x.length,cvF] [ah.aN g 5 false (au x)] (aS.ret (AV.bq [])) [ah.aN g 5 false (au z)]:=by
 have _:=h;exact aj [kq g,kc [0] h0,kp (bJ z),kp (bJ x)]
theorem aE2(x:List BE)(g:Nat)(hx:x.length<=20)(fF:x≠[]):ak P G 104 [.aU 0 g 0 x.length,cvF] [.aN g 5 false (au x)] (.ret (.bq [])) [.aN g 5 false (au (srt [] x))]:=aHR x _ g (aDz x g hx fF) trivial
theorem aKs  (h:True):Rq 0 267 0 (sM 53 [(0,aK),(1,int 0),(2,int 0),(3,cvF),(8,int 1)] []) (bF.exit 0) (sM 53 [(0,aK)] []):=by
 have _:=h;exact aG [kY] (aB 53 [0]) 0
theorem aKt(hL:Rq 0 267 0 { aL:=aC 53 [(0,aK),(1,int 0),(2,int 0),(3,cvF),(8,int 1)],H:=[] } (.exit 0) { aL:=aC 53 [(0,aK)],H:=[] })(h:True):Cq 267 [aK,int 0,int 0,cvF] (.bq []):=by
 have _:=h;exact aj [kl (rG [(4,4),(9,44)]) 0 hL]
theorem aKu  (h:True):Rq 0 203 0 (sM 63 [(0,aK),(1,int 0),(2,cvF),(6,int 20),(7,int 0),(8,int 20)] []) (bF.exit 0) (sM 63 [(0,aK),(1,int 0),(2,cvF),(6,int 20),(7,int 0)] []):=by
 have _:=h;exact aG [kY] (aB 63 [0,1,2,6,7]) 0
theorem aKv  (h:True):Rq 0 203 1 (sM 63 [(0,aK),(1,int 0),(2,cvF),(6,int 20)] []) (bF.exit 2) (sM 63 [(0,aK)] []):=by
 have _:=h;exact aG [kY] (aB 63 [0]) 0
theorem aKw(h0:Rq 0 203 0 { aL:=aC 63 [(0,aK),(1,int 0),(2,cvF),(6,int 20),(7,int 0),(8,int 20)],H:=[] } (.exit 0) { aL:=aC 63 [(0,aK),(1,int 0),(2,cvF),(6,int 20),(7,int 0)],H:=[] })(h1:Rq 0 203 1 { aL:=aC 63 [(0,aK),(1,int 0),(2,cvF),(6,int 20)],H:=[] } (.exit 2) { aL:=aC 63 [(0,aK)],H:=[] })(h2:Cq 267 [aK,int 0,int 0,cvF] (.bq []))(h:True):Cq 203 [aK,int 0,cvF] (.bq []):=by
 have _:=h;exact aj [kl (rG [(3,3),(9,54)]) 0 h0,kc [] h2,kl (rG [(7,1),(23,5)]) 0 h1]
theorem aHS(h0:Cq 203 [aK,int 0,cvF] (.bq []))(h:True):Cq 104 [aK,cvF] (.bq []):=by
 have _:=h;exact aj [kc [] h0]
theorem aDA:Cq 104 [aK,cvF] (.bq []):=aHS (aKw (aKu yO) (aKv yO) (aKt (aKs yO) yO) yO) trivial
def va0(v:List BE)(k:yP)(i:Nat):St:={ aL:=aC 25 [(1,str k),(4,aK),(7,iK v),(8,int v.length),(9,int i)],H:=[] }
def va1(v:List BE)(k:yP)(i:Nat)(x:BE)(l:List BE):St:={ aL:=aC 25 [(1,str k),(4,.aU 1 (l.length-1) 0 l.length),(7,iK v),(8,int v.length),(9,int i)],H:=[.box (aQ x),.aN (l.length-1) 5 false (au l)] }
def vaF(x:BE)(t:List BE):St:={ aL:=aC 25 [(4,if t=[]then aK else .aU 1 (t.length-1) 0 t.length)],H:=if t=[]then[]else[.box (aQ x),.aN (t.length-1) 5 false (au t)] }
theorem aiQ(v:List BE)(k:yP)(i:Nat)(hv:v.length<=1000000000)(ex:bF)(s':St)(h:((((i:Int)<(v.length:Int))->(∃x2:BE,(v[i]?=some x2)/\((((ByteArray.toList x2.ky==ByteArray.toList k)=true)->Rq 0 33 0 (sM 25 [(1,str k),(4,.aU 1 0 0 (length [x2])),(7,.sl 5 false (au v)),(8,int ↑v.length),(9,int ↑(i+1))] [.box [str x2.ky,int x2.dv,int x2.sq,int x2.tm,str x2.vl],.aN 0 5 false (au [x2])]) ex s')/\(((ByteArray.toList x2.ky==ByteArray.toList k)=false)->Rq 0 33 0 (sM 25 [(1,str k),(4,aK),(7,.sl 5 false (au v)),(8,int ↑v.length),(9,int ↑(i+1))] []) ex s'))))/\((¬(i:Int)<(v.length:Int))->(bF.exit 0=ex)/\(sM 25 [(4,aK)] []=s')))):Rq 0 33 0 (va0 v k i) ex s':=by
 by_cases c1:((i:Int)<(v.length:Int))
 .have h:=h.1 c1;obtain⟨x2,o3,h⟩:=h;have bS:(0:Int)<=(i:Int)/\(au v)[Int.toNat (i:Int)]?=some (aQ x2):=(bG o3);rcases y00 ((ByteArray.toList x2.ky==ByteArray.toList k))with c4|c4
  .have h:=h.1 c4;exact aJ [kt (qT c1),ko (bC.elem (aQ x2)),kp bS,kt c4,Qx [str x2.ky,int x2.dv,int x2.sq,int x2.tm,str x2.vl],vV 56,kW 21 (i+1) ↑(i+1)] (aB 25 [1,4,7,8,9]) 2 h
  .have h:=h.2 c4;exact aJ [kt (qT c1),ko (bC.elem (aQ x2)),kp bS,kf c4,kW 21 (i+1) ↑(i+1)] (aB 25 [1,4,7,8,9]) 0 h
 .have h:=h.2 c1;obtain⟨eX,eS⟩:=h;exact bN.to ((show Rq 0 33 0 (va0 v k i) (bF.exit 0) (sM 25 [(4,aK)] [])from aG [kf (qF c1)] (aB 25 [4]) 0)) eX (eB.of_eq eS)
theorem aiM(v:List BE)(k:yP)(i:Nat)(x:BE)(l:List BE)(hv:v.length<=1000000000)(hl:l.length<=1000000000)(ex:bF)(s':St)(h:((((i:Int)<(v.length:Int))->(∃x2:BE,(v[i]?=some x2)/\((((ByteArray.toList x2.ky==ByteArray.toList k)=true)->Rq 0 33 0 (sM 25 [(1,str k),(4,.aU 1 (length l-1+1) 0 (length (l++[x2]))),(7,.sl 5 false (au v)),(8,int ↑v.length),(9,int ↑(i+1))] [.box [str x.ky,int x.dv,int x.sq,int x.tm,str x.vl],.aN (length l-1+1) 5 false (au (l++[x2]))]) ex s')/\(((ByteArray.toList x2.ky==ByteArray.toList k)=false)->Rq 0 33 0 (sM 25 [(1,str k),(4,.aU 1 (length l-1) 0 l.length),(7,.sl 5 false (au v)),(8,int ↑v.length),(9,int ↑(i+1))] [.box [str x.ky,int x.dv,int x.sq,int x.tm,str x.vl],.aN (length l-1) 5 false (au l)]) ex s'))))/\((¬(i:Int)<(v.length:Int))->(bF.exit 0=ex)/\(sM 25 [(4,.aU 1 (length l-1) 0 l.length)] [.box [str x.ky,int x.dv,int x.sq,int x.tm,str x.vl],.aN (length l-1) 5 false (au l)]=s')))):Rq 0 33 0 (va1 v k i x l) ex s':=by
 by_cases c1:((i:Int)<(v.length:Int))
 .have h:=h.1 c1;obtain⟨x2,o3,h⟩:=h;have bS:(0:Int)<=(i:Int)/\(au v)[Int.toNat (i:Int)]?=some (aQ x2):=(bG o3);rcases y00 ((ByteArray.toList x2.ky==ByteArray.toList k))with c4|c4
  .have h:=h.1 c4;exact aJ [kt (qT c1),ko (bC.elem (aQ x2)),kp bS,kt c4,ko (bC.hp (some 20) (AV.aU 1 (length l-1+1) 0 (length (l++[x2]))) [ah.box [str x.ky,int x.dv,int x.sq,int x.tm,str x.vl],ah.aN (length l-1+1) 5 false (au (l++[x2])),ah.box [str x2.ky,int x2.dv,int x2.sq,int x2.tm,str x2.vl]]),kp (show Am.aF (AV.aU 1 (length l-1+1) 0 (length l+1)) (AV.aU 1 (length l-1+1) 0 (length (l++[x2])))from(aF.of_eq (by simp[ay,bJ]))),kp (show Am.HSub [ah.box [str x.ky,int x.dv,int x.sq,int x.tm,str x.vl],ah.aN (length l-1+1) 5 false (au l++[[str x2.ky,int x2.dv,int x2.sq,int x2.tm,str x2.vl]]),ah.box [str x2.ky,int x2.dv,int x2.sq,int x2.tm,str x2.vl]] [ah.box [str x.ky,int x.dv,int x.sq,int x.tm,str x.vl],ah.aN (length l-1+1) 5 false (au (l++[x2])),ah.box [str x2.ky,int x2.dv,int x2.sq,int x2.tm,str x2.vl]]from(⟨.inl rfl,.inl (by simp only[gy,Aw]),.inl rfl,yO⟩)),kp (show length l-1=length l-1 from(rfl)),kp (ay l).symm,vV ((length l+1)*56),kW 21 (i+1) ↑(i+1),kp (show ∀(x:List AV),x∈au (l++[x2])->AV.aM [] x=true from(bJ _))] (aB 25 [1,4,7,8,9]) 2 h
  .have h:=h.2 c4;exact aJ [kt (qT c1),ko (bC.elem (aQ x2)),kp bS,kf c4,kW 21 (i+1) ↑(i+1),kp (bJ l)] (aB 25 [1,4,7,8,9]) 2 h
 .have h:=h.2 c1;obtain⟨eX,eS⟩:=h;exact bN.to ((show Rq 0 33 0 (va1 v k i x l) (bF.exit 0) (sM 25 [(4,.aU 1 (length l-1) 0 l.length)] [.box [str x.ky,int x.dv,int x.sq,int x.tm,str x.vl],.aN (length l-1) 5 false (au l)])from aG [kf (qF c1)] (aB 25 [4]) 2)) eX (eB.of_eq eS)
def fil(k:yP)(v:List BE):List BE:=v.filter fun b=>decide (b.ky=k)
theorem aAN(k:yP)(b:BE)(v:List BE):fil k (b::v)=(if b.ky=k then[b]else[])++fil k v:=by
 by_cases h:b.ky=k<;>simp[fil,h]
theorem aE3(k:yP)(v:List BE):(fil k v).length<=v.length:=length_filter_le _ _
theorem aDB(v:List BE)(k:yP)(x:BE)(hv:v.length<=10000000):∀n i (l:List BE),v.length-i=n->l≠[]->l.length<=i->i<=v.length->Rq 0 33 0 (va1 v k i x l) (.exit 0) (vaF x (l++fil k (v.drop i))):=by
 intro n
 induction n with
 |zero =>
  intro i l hn hl hlk hk;refine aiM v k i x l zO zO _ _ ⟨fun h=>absurd h zO,fun _=>⟨rfl,?_⟩⟩;rw[y14 zO];simp[vaF,fil,hl,aQ]
 |succ n ih =>
  intro i l hn hl hlk hk;have bg:i<v.length:=zO
  have hx:v[i]?=some v[i]:=yA bg;have e:l.length-1+1=(l++[v[i]]).length-1:=by
   have:=length_pos_iff.2 hl;rw[yD,length_singleton];omega
  have nx:=ih (i+1) (l++[v[i]]) zO zS (by rw[yD,length_singleton];omega) zO;rw[y13]at nx;rw[y01 bg,aAN];refine aiM v k i x l zO zO _ _ ⟨fun h=>⟨v[i],hx,⟨fun hq=>?_,fun hq=>?_⟩⟩,fun h=>absurd bg zO⟩
  .rw [rC,decide_eq_true_iff]at hq;rw[yL hq,e];exact nx
  .rw [rC,decide_eq_false_iff_not]at hq;rw[yK hq,nil_append];exact ih (i+1) l zO hl zO zO
theorem aDC(v:List BE)(k:yP)(hv:v.length<=10000000):∀n i,v.length-i=n->i<=v.length->∃x,Rq 0 33 0 (va0 v k i) (.exit 0) (vaF x (fil k (v.drop i))):=by
 intro n
 induction n with
 |zero =>
  intro i hn hk;refine⟨⟨.empty,0,0,0,.empty⟩,aiQ v k i zO _ _ ⟨fun h=>absurd h zO,fun _=>⟨rfl,?_⟩⟩⟩;rw[y14 zO];simp[vaF,fil]
 |succ n ih =>
  intro i hn hk;have bg:i<v.length:=zO
  have hx:v[i]?=some v[i]:=yA bg;rw[y01 bg,aAN];by_cases hq:v[i].ky=k
  .refine ⟨v[i],aiQ v k i zO _ _ ⟨fun _=>⟨v[i],hx,⟨fun _=>?_,fun h=>?_⟩⟩,fun h=>absurd bg zO⟩⟩
   .rw [yL hq];exact aDB v k v[i] hv n (i+1) [v[i]] zO zS zS zO
   .rw [rC,decide_eq_false_iff_not]at h;exact absurd hq h
  .obtain ⟨x,h⟩:=ih (i+1) zO zO;refine⟨x,aiQ v k i zO _ _ ⟨fun _=>⟨v[i],hx,⟨fun h'=>?_,fun _=>?_⟩⟩,fun h=>absurd bg zO⟩⟩
   .rw [rC,decide_eq_true_iff]at h';exact absurd h' hq
   .rw [yK hq,nil_append];exact h
theorem aGs(v:List BE)(k:yP)(h0:Cq 104 [aK,cvF] (.bq []))(hL:Rq 0 33 0 (va0 v k 0) (.exit 0) { aL:=aC 25 [(4,aK)],H:=[] })(h:True):Cq 33 [iK v,str k] aK:=by
 have _:=h;exact aj [kN 8 (ay v),kl (rG [(0,1),(2,2),(5,2),(10,15)]) 0 hL,kc [] h0]
theorem aGt(v:List BE)(k:yP)(x:BE)(t z:List BE)(hz:z.length=t.length)(h0:ak P G 104 [.aU 0 (t.length-1) 0 t.length,cvF] [.aN (t.length-1) 5 false (au t)] (.ret (.bq [])) [.aN (t.length-1) 5 false (au z)])(hL:Rq 0 33 0 (va0 v k 0) (.exit 0) { aL:=aC 25 [(4,.aU 1 (t.length-1) 0 t.length)],H:=[.box (aQ x),.aN (t.length-1) 5 false (au t)] })(h:True):Cq 33 [iK v,str k] (iK z):=by
 have _:=h;exact aj [kN 8 (ay v),kl (rG [(0,1),(2,2),(5,2),(10,15)]) 0 hL,kc [1] h0,ko (bC.Gu (au z)),kp (bJ z),kp (bJ t),kp (show length t-1=length t-1 from(rfl)),XV t.length (au z) (by simp only[yD,yE,y11,y10,ay,bK,bJ]<;>omega),kp (show length (au z)=length t from(by simp only[yD,yE,y11,y10,ay,bK,bJ]<;>omega)),kp (bK z)]
theorem aCs:∀(r l:List BE),(srt l r).length=l.length+r.length
 |[],l=>rfl
 |a::r,l=>by rw[srt,aCs r,aBl,length_reverse,yE];omega
theorem aGu(v:List BE)(k:yP)(hv:v.length<=20):Cq 33 [iK v,str k] (iK (srt [] (fil k v))):=by
 obtain⟨x,h⟩:=aDC v k zO v.length 0 zO zO;rw[drop_zero]at h;have hf:=aE3 k v;by_cases he:fil k v=[]
 .rw [he]at h |-;exact(aGs v k aDA h yO).out (.nil 5)
 .have h':Rq 0 33 0 (va0 v k 0) (.exit 0) { aL:=aC 25 [(4,.aU 1 ((fil k v).length-1) 0 (fil k v).length)],H:=[.box (aQ x),.aN ((fil k v).length-1) 5 false (au (fil k v))] }:=by
   have:=h;rw[vaF,yK he,yK he]at this;exact this
  exact aGt v k x (fil k v) _ (by rw[aCs];simp) (aE2 (fil k v) _ zO he) h' trivial
end Go.Bd
namespace Go.Proofs
open Go.Shelf Go.RowKit Go.Lib Go.Sort
def Tryz.aBb:Go.Shelf.Ren:=⟨fun|7=>234|10=>282|n=>n,fun|23=>279|26=>9|3=>4|28=>282|0=>0|27=>281|33=>262|4=>4|n=>n,fun|n=>n⟩
theorem Tryz.aHT:Go.Proofs.SlLaysZ.n7 Tryz.prog Tryz.aBb where
 mixed:=zQ
 f7:=⟨"maps.Keys[map[string]bool,string,bool]",zD,Tryz.func234.trans (yJ some zQ)⟩
 f10:=⟨"maps.Keys[map[string]bool,string,bool]$1",zD,Tryz.func282.trans (yJ some zQ)⟩
 t0:=Tryz.underlying0
 a0:=Tryz.isAgg0
 z0:=Tryz.sizeOf0
 v0:=Tryz.zeroValue0
 t4:=Tryz.underlying4
 a4:=Tryz.isAgg4
 z4:=Tryz.sizeOf4
 v4:=Tryz.zeroValue4
 t23:=Tryz.underlying279
 a23:=Tryz.isAgg279
 z23:=Tryz.sizeOf279
 v23:=Tryz.zeroValue279
 t26:=Tryz.underlying9
 a26:=Tryz.isAgg9
 z26:=Tryz.sizeOf9
 v26:=Tryz.zeroValue9
 t27:=Tryz.underlying281
 a27:=Tryz.isAgg281
 z27:=Tryz.sizeOf281
 v27:=Tryz.zeroValue281
 t28:=Tryz.underlying282
 a28:=Tryz.isAgg282
 z28:=Tryz.sizeOf282
 v28:=Tryz.zeroValue282
 t33:=Tryz.underlying262
 a33:=Tryz.isAgg262
 z33:=Tryz.sizeOf262
 v33:=Tryz.zeroValue262
def Tryz.aAy:Go.Shelf.Ren:=⟨fun|6=>233|8=>280|9=>281|11=>298|13=>300|12=>299|23=>316|24=>317|14=>307|15=>308|16=>309|17=>310|18=>311|19=>312|20=>313|21=>314|22=>315|25=>319|26=>320|27=>321|28=>322|29=>323|30=>217|31=>332|n=>n,fun|26=>9|28=>282|24=>199|0=>0|3=>3|37=>178|48=>273|50=>260|4=>4|40=>352|39=>351|45=>76|5=>5|9=>9|51=>359|55=>362|57=>369|58=>370|33=>262|n=>n,fun|n=>n⟩
theorem Tryz.aE4:Go.Proofs.SlLaysZ.n6 Tryz.prog Tryz.aAy where
 mixed:=zQ
 f6:=⟨"slices.Sorted[string]",zD,Tryz.func233.trans (yJ some zQ)⟩
 f8:=⟨"slices.Collect[string]",zD,Tryz.func280.trans (yJ some zQ)⟩
 f11:=⟨"slices.AppendSeq[[]string,string]",zD,Tryz.func298.trans (yJ some zQ)⟩
 t0:=Tryz.underlying0
 a0:=Tryz.isAgg0
 z0:=Tryz.sizeOf0
 v0:=Tryz.zeroValue0
 t24:=Tryz.underlying199
 a24:=Tryz.isAgg199
 z24:=Tryz.sizeOf199
 v24:=Tryz.zeroValue199
 t26:=Tryz.underlying9
 a26:=Tryz.isAgg9
 z26:=Tryz.sizeOf9
 v26:=Tryz.zeroValue9
 t28:=Tryz.underlying282
 a28:=Tryz.isAgg282
 z28:=Tryz.sizeOf282
 v28:=Tryz.zeroValue282
 i26:=zQ
def Tryz.aCI:Go.Shelf.Ren:=⟨fun|6=>281|8=>300|9=>299|19=>316|20=>317|21=>307|22=>308|23=>309|24=>310|25=>311|26=>312|27=>313|28=>314|29=>315|36=>319|31=>320|32=>321|37=>322|38=>323|39=>217|41=>332|n=>n,fun|27=>199|29=>9|3=>3|32=>178|26=>199|0=>0|44=>273|46=>260|4=>4|36=>352|35=>351|41=>76|5=>5|9=>9|53=>359|57=>362|63=>369|64=>370|n=>n,fun|n=>n⟩
theorem Tryz.aF0:Go.Proofs.SlLaysM.n6 Tryz.prog Tryz.aCI where
 mixed:=zQ
 f6:=⟨"slices.Sort[[]string,string]",zD,Tryz.func281.trans (yJ some zQ)⟩
 f8:=Tryz.func300.trans (yJ some zQ)
 f9:=⟨"slices.pdqsortOrdered[string]",zD,Tryz.func299.trans (yJ some zQ)⟩
 f19:=Tryz.func316.trans (yJ some zQ)
 f20:=Tryz.func317.trans (yJ some zQ)
 f21:=⟨"slices.insertionSortOrdered[string]",zD,Tryz.func307.trans (yJ some zQ)⟩
 f22:=⟨"slices.heapSortOrdered[string]",zD,Tryz.func308.trans (yJ some zQ)⟩
 f23:=⟨"slices.breakPatternsOrdered[string]",zD,Tryz.func309.trans (yJ some zQ)⟩
 f24:=⟨"slices.choosePivotOrdered[string]",zD,Tryz.func310.trans (yJ some zQ)⟩
 f25:=⟨"slices.reverseRangeOrdered[string]",zD,Tryz.func311.trans (yJ some zQ)⟩
 f26:=⟨"slices.partialInsertionSortOrdered[string]",zD,Tryz.func312.trans (yJ some zQ)⟩
 f27:=⟨"cmp.Less[string]",zD,Tryz.func313.trans (yJ some zQ)⟩
 f28:=⟨"slices.partitionEqualOrdered[string]",zD,Tryz.func314.trans (yJ some zQ)⟩
 f29:=⟨"slices.partitionOrdered[string]",zD,Tryz.func315.trans (yJ some zQ)⟩
 f31:=Tryz.func320.trans (yJ some zQ)
 f32:=Tryz.func321.trans (yJ some zQ)
 f36:=⟨"slices.siftDownOrdered[string]",zD,Tryz.func319.trans (yJ some zQ)⟩
 f37:=⟨"slices.medianAdjacentOrdered[string]",zD,Tryz.func322.trans (yJ some zQ)⟩
 f38:=⟨"slices.medianOrdered[string]",zD,Tryz.func323.trans (yJ some zQ)⟩
 f39:=⟨"cmp.isNaN[string]",zD,Tryz.func217.trans (yJ some zQ)⟩
 f41:=⟨"slices.order2Ordered[string]",zD,Tryz.func332.trans (yJ some zQ)⟩
 t0:=Tryz.underlying0
 a0:=Tryz.isAgg0
 z0:=Tryz.sizeOf0
 v0:=Tryz.zeroValue0
 t3:=Tryz.underlying3
 a3:=Tryz.isAgg3
 z3:=Tryz.sizeOf3
 v3:=Tryz.zeroValue3
 t4:=Tryz.underlying4
 a4:=Tryz.isAgg4
 z4:=Tryz.sizeOf4
 v4:=Tryz.zeroValue4
 t5:=Tryz.underlying5
 a5:=Tryz.isAgg5
 z5:=Tryz.sizeOf5
 v5:=Tryz.zeroValue5
 t9:=Tryz.underlying9
 a9:=Tryz.isAgg9
 z9:=Tryz.sizeOf9
 v9:=Tryz.zeroValue9
 t26:=Tryz.underlying199
 a26:=Tryz.isAgg199
 z26:=Tryz.sizeOf199
 v26:=Tryz.zeroValue199
 t27:=Tryz.underlying199
 a27:=Tryz.isAgg199
 z27:=Tryz.sizeOf199
 v27:=Tryz.zeroValue199
 t29:=Tryz.underlying9
 a29:=Tryz.isAgg9
 z29:=Tryz.sizeOf9
 v29:=Tryz.zeroValue9
 t32:=Tryz.underlying178
 a32:=Tryz.isAgg178
 z32:=Tryz.sizeOf178
 v32:=Tryz.zeroValue178
 t35:=Tryz.underlying351
 a35:=Tryz.isAgg351
 z35:=Tryz.sizeOf351
 v35:=Tryz.zeroValue351
 t36:=Tryz.underlying352
 a36:=Tryz.isAgg352
 z36:=Tryz.sizeOf352
 v36:=Tryz.zeroValue352
 t41:=Tryz.underlying76
 a41:=Tryz.isAgg76
 z41:=Tryz.sizeOf76
 v41:=Tryz.zeroValue76
 t44:=Tryz.underlying273
 a44:=Tryz.isAgg273
 z44:=Tryz.sizeOf273
 v44:=Tryz.zeroValue273
 t46:=Tryz.underlying260
 a46:=Tryz.isAgg260
 z46:=Tryz.sizeOf260
 v46:=Tryz.zeroValue260
 t53:=Tryz.underlying359
 a53:=Tryz.isAgg359
 z53:=Tryz.sizeOf359
 v53:=Tryz.zeroValue359
 t57:=Tryz.underlying362
 a57:=Tryz.isAgg362
 z57:=Tryz.sizeOf362
 v57:=Tryz.zeroValue362
 t63:=Tryz.underlying369
 a63:=Tryz.isAgg369
 z63:=Tryz.sizeOf369
 v63:=Tryz.zeroValue369
 t64:=Tryz.underlying370
 a64:=Tryz.isAgg370
 z64:=Tryz.sizeOf370
 v64:=Tryz.zeroValue370
end Go.Proofs
namespace Go.Bd
open Go Go.Am Go.Proofs Go.eY
def kyE(l:List yP):List (Value×AV):=l.map fun k=>(.string k,bool true)
theorem aGv(l:List yP):∀e∈kyE l,AV.bP 1 e.2=true:=by
 intro e he;obtain⟨x,_,rfl⟩:=yG.1 he;rfl
theorem aE5(l:List yP):∀e∈kyE l,AV.gN [] e.2=true:=by
 intro e he;obtain⟨x,_,rfl⟩:=yG.1 he;rfl
def kSt(v:List BE)(i:Nat)(l:List yP):St:={ aL:=aC 20 [(3,.mp 0),(7,iK v),(8,int v.length),(9,int i)],H:=[.map (kyE l)] }
def aMg(l:List yP):St:={ aL:=aC 20 [(3,.mp 0)],H:=[.map (kyE l)] }
theorem k_n(v:List BE)(i:Nat)(x:BE)(l l':List yP)(hv:v.length<=1000000000)(hi:(i:Int)<(v.length:Int))(hx:v[i]?=some x)(hp:jm P 9 (kyE l) (.string x.ky) (bool true) (kyE l'))(ex:bF)(s:St)(h:Rq 0 144 0 (sM 20 [(3,.mp 0),(7,.sl 5 false (au v)),(8,int ↑v.length),(9,int ↑(i+1))] [.map (kyE l')]) ex s):Rq 0 144 0 (kSt v i l) ex s:=by
 exact aJ [ki ((i:Int)<v.length),ko (bC.elem (aQ x)),ko (bC.wT (kyE l')),kp (show(0:Int)<=(i:Int)/\(au v)[Int.toNat (i:Int)]?=some (aQ x)from(bG hx)),kp hp,kW 16 (i+1) ↑(i+1),kp (show ∀(e:Value×AV),e∈kyE l'->AV.bP 1 e.2=true from(aGv _))] (aB 20 [3,7,8,9]) 1 h
theorem k_e(v:List BE)(i:Nat)(l:List yP)(hi:¬(i:Int)<(v.length:Int))(h:True):Rq 0 144 0 (kSt v i l) (bF.exit 0) (aMg l):=by
 have _:=h;exact aG [kj ((i:Int)<v.length)] (aB 20 [3]) 1
theorem aos(l:List yP)(h:True):ak P G 234 [.mp 0] [ah.map (kyE l)] (aS.ret (AV.fn (Fn.func 282) [] [AV.ptr 1 0])) [ah.map (kyE l),ah.box [AV.mp 0]]:=by
 have _:=h;exact aj []
theorem aGw(v:List BE)(l ys:List yP)(h0:ak P G 234 [.mp 0] [.map (kyE l)] (.ret (.fn (.func 282) [] [.ptr 1 0])) [.map (kyE l),.box [.mp 0]])(h1:ak P G 233 [.fn (.func 282) [] [.ptr 1 0]] [.map (kyE l),.box [.mp 0]] (.ret (strs ys)) [.aH,.aH])(hL:Rq 0 144 0 (kSt v 0 []) (.exit 0) (aMg l))(h:True):Cq 144 [iK v] (strs ys):=by
 have x9:∀(e:Value×AV),e∈kyE l->AV.gN [] e.2=true:=(aE5 _);have _:=h;exact aj [kN 8 (ay v),kl (rG [(0,3),(4,3),(10,10)]) 1 hL,kc [0] h0,kp x9,kp x9,kc [0,1] h1,kp x9]
open Go.Lib Go.Shelf Go.RowKit Go.Sort Go.Maps
variable {k:yP}
theorem aHU(h:k.size<=maxLen):∃l,keyOf P 9 (.string k)=some l:=⟨_,WideMaps.keyOf_string_mk Tryz.underlying9 h⟩
instance aMa(k:yP)(l:List yP):Decidable (k∈l):=decidable_of_iff ((l.any fun a=>decide (a=k))=true) (by
 rw[any_eq_true];constructor
 .rintro ⟨a,h,e⟩;exact of_decide_eq_true e▸h
 .exact fun h=>⟨k,h,y15 rfl⟩)
def aA1(l:List yP)(k:yP):List yP:=if k∈l then l else l++[k]
def keysOf:List yP->List BE->List yP
 |l,[]=>l
 |l,b::t=>keysOf (aA1 l b.ky) t
variable {l:List yP}
theorem aE6(h:∀k∈l,k.size<=maxLen):∀e∈kyE l,∃q,keyOf P 9 e.1=some q:=fun e he=>by
 obtain⟨k,hk,rfl⟩:=yG.1 he;exact aHU (h k hk)
theorem aDD(h:∀k∈l,k.size<=maxLen)(hk:k.size<=maxLen):jm P 9 (kyE l) (.string k) (bool true) (kyE (aA1 l k)):=by
 refine⟨string_keyed Tryz.underlying9,aHU hk,aE6 h,?_⟩;unfold aA1;by_cases hm:k∈l
 .rw [yL hm];obtain⟨us,bs,e⟩:=append_of_mem hm;exact .inl ⟨kyE us,kyE bs,bool true,by rw[e];simp[kyE],by rw[e];simp[kyE]⟩
 .rw [yK hm];refine .inr ⟨fun e he hq=>?_,by simp[kyE]⟩;obtain⟨q,hq',rfl⟩:=yG.1 he;injection hq with hq;exact hm (hq▸hq')
theorem aCb(h:l.Nodup)(k:yP):(aA1 l k).Nodup:=by
 unfold aA1;by_cases hm:k∈l
 .rw [yL hm];exact h
 .rw [yK hm,nodup_append];exact⟨h,zS,fun a ha b hb e=>hm (by rw[mem_singleton.1 hb]at e;exact e▸ha)⟩
theorem aBF{a:yP}:a∈aA1 l k↔a∈l\/a=k:=by
 unfold aA1;by_cases hm:k∈l
 .rw [yL hm];exact⟨.inl,fun h=>h.elim id fun e=>e▸hm⟩
 .rw [yK hm];simp
theorem aDE(l:List yP)(k:yP):(aA1 l k).length<=l.length+1:=by
 unfold aA1;split
 .omega
 .simp
theorem aAm:∀(v:List BE){l:List yP},l.Nodup->(keysOf l v).Nodup
 |[],_,h=>h
 |b::t,_,h=>aAm t (aCb h b.ky)
theorem aAa:∀(v:List BE){l:List yP}{a:yP},a∈keysOf l v↔a∈l\/∃b∈v,b.ky=a
 |[],_,_=>by simp[keysOf]
 |b::t,l,a=>by
  rw[keysOf,aAa t,aBF];simp only[yH,exists_eq_or_imp];constructor
  .rintro ((h|h)|h)
   .exact .inl h
   .exact .inr (.inl h.symm)
   .exact .inr (.inr h)
  .rintro (h|h|h)
   .exact .inl (.inl h)
   .exact .inl (.inr h.symm)
   .exact .inr h
theorem aAb:∀(v:List BE)(l:List yP),(keysOf l v).length<=l.length+v.length
 |[],l=>yM
 |b::t,l=>by
  have h1:=aDE l b.ky;have h2:=aAb t (aA1 l b.ky);rw[keysOf,yE];omega
theorem aGx(v:List BE)(hv:v.length<=10000000)(hk:∀b∈v,b.ky.size<=maxLen):∀n i (l:List yP),v.length-i=n->i<=v.length->(∀k∈l,k.size<=maxLen)->Rq 0 144 0 (kSt v i l) (.exit 0) (aMg (keysOf l (v.drop i))):=by
 intro n
 induction n with
 |zero =>
  intro i l hn hi _;rw[y14 zO];exact k_e v i l zO trivial
 |succ n ih =>
  intro i l hn hi hl;have bg:i<v.length:=zO
  have hx:v[i]?=some v[i]:=yA bg;have hki:=hk v[i] (y03 bg);rw[y01 bg,keysOf];refine k_n v i _ l _ zO zO hx (aDD hl hki) _ _ (ih (i+1) _ zO zO fun k hm=>?_);rcases aBF.1 hm with h|h
  .exact hl k h
  .exact h▸hki
theorem aGy(m:Nat):AnyZ.SortsIn Tryz.prog Tryz.aAy Fence.wide m :=
 ⟨fun mo off cap ss W hH Xw iZ=>callsIn_wide.2 (AnyM.slices_Sort_string Tryz.aF0 mo off cap ss W hH Xw iZ),
  fun p cap W=>callsIn_wide.2 (AnyM.slices_Sort_string_none Tryz.aF0 p cap W)⟩
def R0:Value->Option (DataW Nat×List MemPlace):=fun _=>some (.nil,[])
theorem aCJ{ents:List MapEntry}(h:ents.map (·.key)=(kyE l).map (·.1)):ents.map (·.key)=l.map Value.string:=by rw[h];simp[kyE]
theorem aGz(hl:∀k∈l,k.size<=maxLen){x:MapEntry}(hx:∃k∈l,x.key = .string k):∃y,WideElems.rd P 9 R0 x=some y:=by
 obtain⟨k,hk,e⟩:=hx;obtain⟨key,val,born⟩:=x;simp only at e;subst e;exact⟨_,WideElems.rd_mk (WideMaps.keyOf_string_mk Tryz.underlying9 (hl k hk)) (yv:=(.nil,[])) rfl⟩
theorem aE7(hl:∀k∈l,k.size<=maxLen):∀{ents:List MapEntry},ents.map (·.key)=l.map Value.string->(ents.map (WideElems.rg P 9 R0)).map (fun p=>strOf p.1)=l.map (fun k=>k.data.toList):=by
 induction l with
 |nil=>intro ents h;cases ents<;>simp at h |-
 |cons k t ih =>
  intro ents h;cases ents with
  |nil=>simp at h
  |cons x r =>
   obtain⟨key,val,born⟩:=x;simp only[map_cons,List.cons.injEq]at h;obtain⟨h1,h2⟩:=h;subst h1;have e:=WideElems.rg_of (WideElems.rd_mk (born:=born) (val:=val) (R:=R0) (WideMaps.keyOf_string_mk (P:=P) Tryz.underlying9 (hl k (mem_cons_self ..))) (yv:=(.nil,[])) rfl);rw[map_cons,map_cons,map_cons,e,ih (fun a ha=>hl a (yF _ ha)) h2];rfl
theorem aA2(k:yP):encStr k.data.toList = .string k:=by
 simp[encStr]
theorem aDF(a b:yP):Dz a b=true↔a.data.toList<b.data.toList:=by
 rw[TY,ByteArray.toList_eq,ByteArray.toList_eq]
theorem merged{ys:List yP}{ss:List (List UInt8)}(hp:ys.Perm l)(hs:ys.Pairwise fun a b=>Dz a b=true)(h:ss.Perm (l.map fun k=>k.data.toList)):ss.mergeSort (fun x y=>decide (x<=y))=ys.map fun k=>k.data.toList:=by
 have h1:(ss.mergeSort (fun x y=>decide (x<=y))).Perm (ys.map fun k=>k.data.toList):=(mergeSort_perm ..).trans (h.trans (hp.map _).symm);refine h1.eq_of_pairwise (le:=fun a b=>a<=b) (fun a b _ _ k1 k2=>List.le_antisymm k1 k2) ?_ ?_
 .have:=pairwise_mergeSort (le:=fun x y:List UInt8=>decide (x<=y)) (fun a b c k1 k2=>by
   rw[decide_eq_true_iff]at *;exact List.le_trans k1 k2) (fun a b=>by
   rw[Bool.or_eq_true,decide_eq_true_iff,decide_eq_true_iff];exact List.le_total a b) ss
  exact this.imp fun k=>of_decide_eq_true k
 .rw [pairwise_map];exact hs.imp fun{a b} k=>List.le_of_lt ((aDF a b).1 k)
set_option maxHeartbeats 1000000 in
theorem Qc(l ys:List yP)(hl:∀k∈l,k.size<=maxLen)(bL:l.length<=1000000)(hp:ys.Perm l)(hs:ys.Pairwise fun a b=>Dz a b=true) :
 ak P G 233 [.fn (.func 282) [] [.ptr 1 0]] [.map (kyE l),.box [.mp 0]] (.ret (strs ys)) [.aH,.aH]:=by
 intro V vs hH hG hr;obtain⟨v0,rfl⟩:∃v0,vs=[v0]:=by
  have:=hr.1
  match vs,this with
  |[a],_=>exact⟨a,rfl⟩
 obtain⟨us,ws,rfl,hu,hw⟩:=yY hr.head;obtain rfl:us=[]:=y02 hu.1;obtain⟨q,rfl⟩:∃q,ws=[q]:=by
  have:=hw.1
  match ws,this with
  |[a],_=>exact⟨a,rfl⟩
 obtain⟨_,rfl⟩:=jr hw.head;have hHl:V.H.length=2:=by rw[hH];rfl
 have h0:V.H[0]?=some (.map (kyE l)):=by rw[hH];rfl
 have h1:V.H[1]?=some (.box [.mp 0]):=by rw[hH];rfl
 obtain⟨ents,clock,kZ,Jf,wO,hborn,aKx,aL9⟩:=hG.eP 0 _ h0;obtain⟨tb,cs,apG,jQ⟩:=hG.eP 1 _ h1;obtain⟨c0,rfl⟩:∃c0,cs=[c0]:=by
  have:=jQ.1
  match cs,this with
  |[a],_=>exact⟨a,rfl⟩
 have hc0:c0 = .map (some (V.ρ 0)):=(vD jQ.head).2;subst hc0;have hk:=aCJ Jf;have aMb:V.ρ 0<V.w.heap.size:=hG.lt 0 zO;have apJ:V.ρ 1<V.w.heap.size:=hG.lt 1 zO;have hel:ents.length=l.length:=by have:=yJ length hk;simpa using this
 have zI:∀x∈ents,∃k∈l,x.key = .string k:=fun x hx=>by
  have:x.key∈ents.map (·.key):=mem_map_of_mem hx;rw[hk]at this;obtain⟨k,hk1,Oc⟩:=yG.1 this;exact⟨k,hk1,Oc.symm⟩
 have xZ:V.w.ownsMap Tryz.prog 9 R0 (V.ρ 0) ents.length (.map ((ents.map (WideElems.rg P 9 R0)).foldr DataW.insert [])):=by
  refine⟨ents.toArray,clock,kZ,⟨by simp only[size_toArray];unfold maxLen;omega,⟨fun x hx=>?_,?_,?_⟩,fun x hx=>aGz hl (zI x (by simpa using hx))⟩,zS,zS⟩
  .have:x.born∈ents.map (·.born):=mem_map_of_mem (by simpa using hx);rw[hborn]at this;rw[aKx];exact mem_range.1 this
  .rw [show ents.toArray.toList=ents from rfl,hborn];exact nodup_range
  .rw [show ents.toArray.toList=ents from rfl,Jf];exact wO
 have hD:strKeys (.map ((ents.map (WideElems.rg P 9 R0)).foldr DataW.insert []))=((ents.map (WideElems.rg P 9 R0)).foldr DataW.insert []).map fun p=>strOf p.1:=rfl;have Je:(strKeys (.map ((ents.map (WideElems.rg P 9 R0)).foldr DataW.insert []))).Perm (l.map fun k=>k.data.toList):=by
  rw[hD,<- aE7 hl hk];exact(WideShapes.sorted_perm _).map _
 have Dy:Maps.size (.map ((ents.map (WideElems.rg P 9 R0)).foldr DataW.insert []))=l.length:=by
  rw[Maps.size_eq,(WideShapes.sorted_perm _).length_eq,y10];exact hel
 have apL:SeqGives Fence.wide 2 Tryz.prog 282 #[.pointer (some ⟨V.ρ 1,0,none⟩)] encStr (fun ss=>ss.Perm (strKeys (.map ((ents.map (WideElems.rg P 9 R0)).foldr DataW.insert [])))) (Maps.size (.map ((ents.map (WideElems.rg P 9 R0)).foldr DataW.insert []))) V.w :=
  AnyZ.keys_gives (ρ:=Tryz.aBb) { Tryz.aHT with } Fence.wide _ trivial rfl zO (V.ρ 1) (V.ρ 0) _ _ V.w apJ (by simp[World.cell?,apG]) xZ
 have FZ:=AnyZ.sorted_in Tryz.aE4 Fence.wide 5 trivial trivial trivial trivial rfl zO (aGy _) (enters_of Tryz.func281 zQ rfl) 282 #[.pointer (some ⟨V.ρ 1,0,none⟩)] trivial (enters_of Tryz.func282 zQ rfl) _ _ (by rw[Dy];unfold maxLen;omega) (by rw[Dy];omega) V.w apL;refine callsIn_wide.2 ((callsIn_wide.1 FZ).drawn.mono ?_);rintro e w' ⟨⟨v,ss,rfl,hss,acD,_,hb⟩,hd⟩;have hd:V.w.drawn<=w'.drawn:=hd.elim (fun h=>by cases h) id;rw[merged hp hs (hss.trans Je)]at acD;have apM:ss.length=ys.length:=by
  have h1:=(hss.trans Je).length_eq;have h2:=hp.length_eq;simp at h1;omega
 have fB:Step V { w:=w',M:=fun x=>V.M x/\x<V.w.heap.size,H:=[.aH,.aH],ρ:=V.ρ }:={
  os:=hb.os
  tape:=hb.tape
  output:=hb.output
  size:=hb.size
  drawn:=hd
  keep:=fun b bg _=>⟨hb.block b bg,⟨fun h=>h.1,fun h=>⟨h,bg⟩⟩⟩
  data:=fun b bg hn=>⟨hb.block b bg,fun h=>hn h.1⟩
  bL:=by rw[hHl];exact yM
  fresh:=fun id dU=>.inl ⟨by rw[hHl];exact dU,rfl⟩
  eP:=fun id dU=>by
   unfold dL;rw[hH]
   match id,dU with
   |0,_=>exact rfl
   |1,_=>exact rfl
   |n+2,dU=>omega }
 refine⟨_,rfl,fB,?_,rfl,?_⟩
 .exact {
   lt:=fun id dU=>by
    have:id<2:=dU;exact y21 (hG.lt id zO) hb.size
   eP:=fun id o ho=>by
    match id,ho with
    |0,ho=>injection ho with ho;subst ho;exact trivial
    |1,ho=>injection ho with ho;subst ho;exact trivial
   inj:=fun i j hi hj e=>hG.inj i j (by have:i<2:=hi;omega) (by have:j<2:=hj;omega) e
   gW:=fun id o ho bA=>by
    match id,ho with
    |0,ho=>injection ho with ho;subst ho;cases bA
    |1,ho=>injection ho with ho;subst ho;cases bA
   ng:=hG.gD fB }
 .rcases acD.2 with⟨rfl,hz⟩|⟨g,cap,cur,rfl,aqt,hg,aqu,aqv,aqG,apN⟩
  .have:ys=[]:=y02 zO;subst this;exact aF.nil 1 _ _ (.pure _ _ (.lit _))
  .rw [apM];have lT:∀k (hk:k<ys.length),cur[k]?=some (.string ys[k]):=fun k hk=>by
    have:(cur.toList.take (ss.length*1))[k]?=some (.string ys[k]):=by
     rw[apN,getElem?_map,getElem?_map,yA hk,Option.map_some,Option.map_some,aA2]
    rw[getElem?_take]at this;split at this
    .simpa using this
    .cases this
   have key:dR w' (fun x=>V.M x/\x<V.w.heap.size) (.sl 1 false (zB ys)) (.slice (some ⟨g,0,none⟩) (zB ys).length cap) :=
    .sl 1 false (zB ys) (some ⟨g,0,none⟩) cap g 0 (fun k j=>((ys[k]?).map Value.string).getD undef) (fun _=>rfl) (fun _ _ h=>by have:=h.2;omega) (by rw[vo];omega) (fun h=>by cases h)
     (fun x hx=>by obtain⟨b,_,rfl⟩:=yG.1 hx;rfl)
     (fun k j hk hj=>by
      rw[vo]at hk;have:j=0:=zO
      subst this;rw[yA hk,y09,Nat.mul_one,Nat.add_zero];simp only[World.cell?,hg];exact lT k hk)
     (fun k j hk hj=>by
      rw[vo]at hk;rw[yA hk];rfl)
     (fun k j hk hj=>by
      rw[vo]at hk;have:j=0:=zO
      subst this;rw[yA hk];have e:(zB ys).getD k []=st1 ys[k]:=by rw[yB];simp[zB,yA hk]
      rw[e];exact .lit _)
   rw[vo]at key;exact dI.pure _ _ key
theorem aGA(v:List BE)(ys:List yP)(hv:v.length<=1000)(hk:∀b∈v,b.ky.size<=maxLen)(hp:ys.Perm (keysOf [] v))(hs:ys.Pairwise fun a b=>Dz a b=true):Cq 144 [iK v] (strs ys):=by
 have hL:=aGx v zO hk _ 0 [] rfl zO zS;rw[drop_zero]at hL;have bL:=aAb v [];have hl:∀k∈keysOf [] v,k.size<=maxLen:=fun k hm=>by
  rcases(aAa v).1 hm with h|⟨b,hb,rfl⟩
  .cases h
  .exact hk b hb
 exact aGw v (keysOf [] v) ys (aos _ yO) (Qc _ ys hl (by simp at bL;omega) hp hs) hL trivial
end Go.Bd
namespace Go.Tx
open Go Go.Am Go.Proofs Go.eY
open Go.Sq (CE nP bZ oO vM fX U2 kQ jg)
def onF(l:List CE)(i s:Int):Bool->List MK->Bool
 |b,[]=>b
 |b,m::v=>onF l i s (if m.st=s/\aAB l m i=true then m.on else b) v
def stF(t:TE)(i:Int):Nat->Nat->List Int
 |0,_=>[]
 |n+1,s=>if onF t.cells i (s:Int) false t.bQ=true then(s:Int)::stF t i n (s+1)else stF t i n (s+1)
def aCc(t:TE)(i:Int):List Int:=stF t i 16 0
def sbT(t:TE):ah:=.box [bZ t.cells,oI t.bQ]
def siN(t:TE)(i:Int)(s:Nat)(b:Bool)(k:Nat):St:={ aL:=aC 51 [(1,int i),(2,.ptr 0 0),(5,aK),(6,int s),(7,bool b),(8,int k)],H:=[sbT t] }
def aHV(t:TE)(i:Int)(s:Nat)(b:Bool):St:={ aL:=aC 51 [(1,int i),(2,.ptr 0 0),(5,aK),(6,int s),(7,bool b)],H:=[sbT t] }
def siO(t:TE)(i:Int)(s:Nat)(b:Bool)(k:Nat)(g:Nat)(l:List Int):St:={ aL:=aC 51 [(1,int i),(2,.ptr 0 0),(5,.aU 1 g 0 l.length),(6,int s),(7,bool b),(8,int k)],H:=[sbT t,.aN g 1 false (bH.ql l)] }
def aHW(t:TE)(i:Int)(s:Nat)(b:Bool)(g:Nat)(l:List Int):St:={ aL:=aC 51 [(1,int i),(2,.ptr 0 0),(5,.aU 1 g 0 l.length),(6,int s),(7,bool b)],H:=[sbT t,.aN g 1 false (bH.ql l)] }
theorem aHX(t:TE)(i:Int)(s:Nat)(b:Bool)(k:Nat)(hc:t.cells.length<=1000000)(hv:t.bQ.length<=1000000)(ex:bF)(s':St)(h:((((k:Int)<(↑(length t.bQ):Int))->(∃x2:MK,(t.bQ[k]?=some x2)/\(((x2.st=(s:Int))->((((aAB t.cells x2 i)=true)->Rq 0 235 1 (sM 51 [(1,int i),(2,.ptr 0 0),(5,aK),(6,int ↑s),(7,Am.bool x2.on),(8,int ↑(k+1))] [.box [.sl 9 false (Sq.au t.cells),.sl 11 false (au t.bQ)]]) ex s')/\(((aAB t.cells x2 i)=false)->Rq 0 235 1 (sM 51 [(1,int i),(2,.ptr 0 0),(5,aK),(6,int ↑s),(7,Am.bool b),(8,int ↑(k+1))] [.box [.sl 9 false (Sq.au t.cells),.sl 11 false (au t.bQ)]]) ex s')))/\((¬x2.st=(s:Int))->Rq 0 235 1 (sM 51 [(1,int i),(2,.ptr 0 0),(5,aK),(6,int ↑s),(7,Am.bool b),(8,int ↑(k+1))] [.box [.sl 9 false (Sq.au t.cells),.sl 11 false (au t.bQ)]]) ex s'))))/\((¬(k:Int)<(↑(length t.bQ):Int))->(bF.exit 2=ex)/\(sM 51 [(1,int i),(2,.ptr 0 0),(5,aK),(6,int ↑s),(7,Am.bool b)] [.box [.sl 9 false (Sq.au t.cells),.sl 11 false (au t.bQ)]]=s')))):Rq 0 235 1 (siN t i s b k) ex s':=by
 have bS:=lU (ay t.bQ);by_cases c1:((k:Int)<(↑(length t.bQ):Int))
 .have h:=h.1 c1;obtain⟨x2,o3,h⟩:=h;have fT:(0:Int)<=(k:Int)/\(au t.bQ)[Int.toNat (k:Int)]?=some (aQ x2):=(bG o3);let l1:List fP:=[kv 16 bS,kt (qT c1),ko (bC.elem (aQ x2)),kp fT];by_cases c4:(x2.st=(s:Int))
  .have h:=h.1 c4;have jw:=(@aFY t.cells (x2) (i) zO);let l2:List fP:=l1++[kt (nW.2 c4),ko (bC.elem (aQ x2)),kp fT,kc [] jw];rcases y00 ((aAB t.cells x2 i))with c5|c5
   .have h:=h.1 c5;exact aJ (l2++[kt c5,ko (bC.elem (aQ x2)),kp fT,kW 19 (k+1) ↑(k+1)]) (aB 51 [1,2,5,6,7,8]) 1 h
   .have h:=h.2 c5;exact aJ (l2++[kf c5,kW 19 (k+1) ↑(k+1)]) (aB 51 [1,2,5,6,7,8]) 1 h
  .have h:=h.2 c4;exact aJ (l1++[kf (qN.2 c4),kY,kW 19 (k+1) ↑(k+1)]) (aB 51 [1,2,5,6,7,8]) 1 h
 .have h:=h.2 c1;obtain⟨eX,eS⟩:=h;exact bN.to ((show Rq 0 235 1 (siN t i s b k) (bF.exit 2) (sM 51 [(1,int i),(2,.ptr 0 0),(5,aK),(6,int ↑s),(7,Am.bool b)] [.box [.sl 9 false (Sq.au t.cells),.sl 11 false (au t.bQ)]])from aG [kv 16 bS,kf (qF c1)] (aB 51 [1,2,5,6,7]) 1)) eX (eB.of_eq eS)
theorem aHY(t:TE)(i:Int)(s:Nat)(b:Bool)(k g:Nat)(l:List Int)(hc:t.cells.length<=1000000)(hv:t.bQ.length<=1000000)(ex:bF)(s':St)(h:((((k:Int)<(↑(length t.bQ):Int))->(∃x2:MK,(t.bQ[k]?=some x2)/\(((x2.st=(s:Int))->((((aAB t.cells x2 i)=true)->Rq 0 235 1 (sM 51 [(1,int i),(2,.ptr 0 0),(5,.aU 1 g 0 l.length),(6,int ↑s),(7,Am.bool x2.on),(8,int ↑(k+1))] [.box [.sl 9 false (Sq.au t.cells),.sl 11 false (au t.bQ)],.aN g 1 false (bH.ql l)]) ex s')/\(((aAB t.cells x2 i)=false)->Rq 0 235 1 (sM 51 [(1,int i),(2,.ptr 0 0),(5,.aU 1 g 0 l.length),(6,int ↑s),(7,Am.bool b),(8,int ↑(k+1))] [.box [.sl 9 false (Sq.au t.cells),.sl 11 false (au t.bQ)],.aN g 1 false (bH.ql l)]) ex s')))/\((¬x2.st=(s:Int))->Rq 0 235 1 (sM 51 [(1,int i),(2,.ptr 0 0),(5,.aU 1 g 0 l.length),(6,int ↑s),(7,Am.bool b),(8,int ↑(k+1))] [.box [.sl 9 false (Sq.au t.cells),.sl 11 false (au t.bQ)],.aN g 1 false (bH.ql l)]) ex s'))))/\((¬(k:Int)<(↑(length t.bQ):Int))->(bF.exit 2=ex)/\(sM 51 [(1,int i),(2,.ptr 0 0),(5,.aU 1 g 0 l.length),(6,int ↑s),(7,Am.bool b)] [.box [.sl 9 false (Sq.au t.cells),.sl 11 false (au t.bQ)],.aN g 1 false (bH.ql l)]=s')))):Rq 0 235 1 (siO t i s b k g l) ex s':=by
 have bS:=lU (ay t.bQ);by_cases c1:((k:Int)<(↑(length t.bQ):Int))
 .have h:=h.1 c1;obtain⟨x2,o3,h⟩:=h;have fT:(0:Int)<=(k:Int)/\(au t.bQ)[Int.toNat (k:Int)]?=some (aQ x2):=(bG o3);let l1:List fP:=[kv 16 bS,kt (qT c1),ko (bC.elem (aQ x2)),kp fT];by_cases c4:(x2.st=(s:Int))
  .have h:=h.1 c4;have jw:=(@aFY t.cells (x2) (i) zO);let l2:List fP:=l1++[kt (nW.2 c4),ko (bC.elem (aQ x2)),kp fT,kc [] jw];rcases y00 ((aAB t.cells x2 i))with c5|c5
   .have h:=h.1 c5;exact aJ (l2++[kt c5,ko (bC.elem (aQ x2)),kp fT,kW 19 (k+1) ↑(k+1)]) (aB 51 [1,2,5,6,7,8]) 2 h
   .have h:=h.2 c5;exact aJ (l2++[kf c5,kW 19 (k+1) ↑(k+1)]) (aB 51 [1,2,5,6,7,8]) 2 h
  .have h:=h.2 c4;exact aJ (l1++[kf (qN.2 c4),kY,kW 19 (k+1) ↑(k+1)]) (aB 51 [1,2,5,6,7,8]) 2 h
 .have h:=h.2 c1;obtain⟨eX,eS⟩:=h;exact bN.to ((show Rq 0 235 1 (siO t i s b k g l) (bF.exit 2) (sM 51 [(1,int i),(2,.ptr 0 0),(5,.aU 1 g 0 l.length),(6,int ↑s),(7,Am.bool b)] [.box [.sl 9 false (Sq.au t.cells),.sl 11 false (au t.bQ)],.aN g 1 false (bH.ql l)])from aG [kv 16 bS,kf (qF c1)] (aB 51 [1,2,5,6,7]) 2)) eX (eB.of_eq eS)
def soN(t:TE)(i:Int)(s:Nat):St:={ aL:=aC 51 [(1,int i),(2,.ptr 0 0),(5,aK),(6,int s)],H:=[sbT t] }
def soO(t:TE)(i:Int)(s:Nat)(g:Nat)(l:List Int):St:={ aL:=aC 51 [(1,int i),(2,.ptr 0 0),(5,.aU 1 g 0 l.length),(6,int s)],H:=[sbT t,.aN g 1 false (bH.ql l)] }
def aGB(t:TE):St:={ aL:=aC 51 [(5,aK)],H:=[sbT t] }
def aE8(t:TE)(g:Nat)(l:List Int):St:={ aL:=aC 51 [(5,.aU 1 g 0 l.length)],H:=[sbT t,.aN g 1 false (bH.ql l)] }
theorem aHZ(t:TE)(i:Int)(s:Nat)(hs:¬(s:Int)<16)(h:True):Rq 0 235 0 (soN t i s) (bF.exit 0) (aGB t):=by
 have _:=h;exact aG [kj ((s:Int)<16)] (aB 51 [5]) 1
theorem aH2(t:TE)(i:Int)(s:Nat)(g:Nat)(l:List Int)(hs:¬(s:Int)<16)(h:True):Rq 0 235 0 (soO t i s g l) (bF.exit 0) (aE8 t g l):=by
 have _:=h;exact aG [kj ((s:Int)<16)] (aB 51 [5]) 2
theorem aGC(t:TE)(i:Int)(s:Nat)(b:Bool)(hs:(s:Int)<16)(hi:Rq 0 235 1 (siN t i s false 0) (.exit 2) (aHV t i s b))(ex:bF)(s':St)(h:((((b)=true)->Rq 0 235 0 (sM 51 [(1,int i),(2,.ptr 0 0),(5,.aU 1 0 0 (length [(s:Int)])),(6,int ↑(s+1))] [.box [.sl 9 false (Sq.au t.cells),.sl 11 false (au t.bQ)],.aN 0 1 false (bH.ql [(s:Int)])]) ex s')/\(((b)=false)->Rq 0 235 0 (sM 51 [(1,int i),(2,.ptr 0 0),(5,aK),(6,int ↑(s+1))] [.box [.sl 9 false (Sq.au t.cells),.sl 11 false (au t.bQ)]]) ex s'))):Rq 0 235 0 (soN t i s) ex s':=by
 have bS:decide ((s:Int)<16)=true:=(qT zO);rcases y00 ((b))with c2|c2
 .have h:=h.1 c2;exact aJ [kt bS,kl [9,10] 1 hi,kt c2,Qx [int ↑s],vV 8,kW 12 (s+1) ↑(s+1)] (aB 51 [1,2,5,6]) 2 h
 .have h:=h.2 c2;exact aJ [kt bS,kl [9,10] 1 hi,kf c2,kW 12 (s+1) ↑(s+1)] (aB 51 [1,2,5,6]) 1 h
theorem aH3(t:TE)(i:Int)(s:Nat)(b:Bool)(g:Nat)(l:List Int)(hs:(s:Int)<16)(hl:l.length<=16)(hi:Rq 0 235 1 (siO t i s false 0 g l) (.exit 2) (aHW t i s b g l))(ex:bF)(s':St)(h:((((b)=true)->Rq 0 235 0 (sM 51 [(1,int i),(2,.ptr 0 0),(5,.aU 1 (g+1) 0 (length (l++[(s:Int)]))),(6,int ↑(s+1))] [.box [.sl 9 false (Sq.au t.cells),.sl 11 false (au t.bQ)],.aN (g+1) 1 false (bH.ql (l++[(s:Int)]))]) ex s')/\(((b)=false)->Rq 0 235 0 (sM 51 [(1,int i),(2,.ptr 0 0),(5,.aU 1 g 0 l.length),(6,int ↑(s+1))] [.box [.sl 9 false (Sq.au t.cells),.sl 11 false (au t.bQ)],.aN g 1 false (bH.ql l)]) ex s'))):Rq 0 235 0 (soO t i s g l) ex s':=by
 have bS:decide ((s:Int)<16)=true:=(qT zO);rcases y00 ((b))with c2|c2
 .have h:=h.1 c2;exact aJ [kt bS,kl [9,10] 2 hi,kt c2,ko (bC.hp (some 49) (AV.aU 1 (g+1) 0 (length (l++[(s:Int)]))) [ah.box [AV.sl 9 false (Sq.au t.cells),AV.sl 11 false (au t.bQ)],ah.aN (g+1) 1 false (bH.ql (l++[(s:Int)]))]),kp (show Am.aF (AV.aU 1 (g+1) 0 (length l+1)) (AV.aU 1 (g+1) 0 (length (l++[(s:Int)])))from(aF.of_eq (by simp[Go.bH.kD,Go.bH.aBG,Go.bH.az1]))),kp (show Am.HSub [ah.box [AV.sl 9 false (Sq.au t.cells),AV.sl 11 false (au t.bQ)],ah.aN (g+1) 1 false (bH.ql l++[[int ↑s]])] [ah.box [AV.sl 9 false (Sq.au t.cells),AV.sl 11 false (au t.bQ)],ah.aN (g+1) 1 false (bH.ql (l++[(s:Int)]))]from(⟨.inl rfl,.inl (by simp only[Go.bH.aAz,Go.bH.aBH]),yO⟩)),kq g,kp (show length l=length (bH.ql l)from((Go.bH.kD _).symm)),vV ((length l+1)*8),kW 12 (s+1) ↑(s+1)] (aB 51 [1,2,5,6]) 2 h
 .have h:=h.2 c2;exact aJ [kt bS,kl [9,10] 2 hi,kf c2,kW 12 (s+1) ↑(s+1)] (aB 51 [1,2,5,6]) 2 h
theorem aH4(t:TE)(i:Int)(hL:Rq 0 235 0 (soN t i 0) (.exit 0) (aGB t))(h:True):Cq 235 [mG t,int i] (.sl 1 false []):=by
 have _:=h;exact ak.out ((show Cq 235 [mG t,int i] aK from aj [kl (rG [(0,1),(3,2),(7,44)]) 1 hL])) (aF.nil _)
theorem aH5(t:TE)(i:Int)(g:Nat)(l:List Int)(hL:Rq 0 235 0 (soN t i 0) (.exit 0) (aE8 t g l))(h:True):Cq 235 [mG t,int i] (ils l):=by
 have _:=h;exact aj [kl (rG [(0,1),(3,2),(7,44)]) 1 hL,ko (bC.Gu (bH.ql l)),kq g,kp (show List.take l.length (List.drop 0 (bH.ql l))=bH.ql l from(Go.bH.aBI _)),kp (show length (bH.ql l)=length l from(Go.bH.kD _)),kp (show ∀(c:List AV),c∈bH.ql l->List.all c AV.fJ=true from(Go.bH.az1 _))]
abbrev u32(n:Int):AV:=.lit (.int .u32 n)
def aua(x:Int):Int:=IntKind.wrap IntKind.u32 ((BitVec.toNat (BitVec.ofInt (IntKind.bits IntKind.u32) x &&& BitVec.ofInt (IntKind.bits IntKind.u32) (IntKind.wrap IntKind.u32 (0-x))):Nat):Int)
theorem aKy(x:Int)(h0:(x==0)=false)(h:aua x=1):Cq 279 [u32 x] (int 0) :=
 aj [kf h0,kv 8 (show aF (u32 (aua x)) (u32 1)from aF.of_eq (by rw[h])),kp (show(0:Int)<=(27:Int)from zO),kp (show(0:Int)<=(0:Int)/\(0:Int)<(32:Int)from zO)] zQ
theorem aKz(x:Int)(h0:(x==0)=false)(h:aua x=2):Cq 279 [u32 x] (int 1) :=
 aj [kf h0,kv 8 (show aF (u32 (aua x)) (u32 2)from aF.of_eq (by rw[h])),kp (show(0:Int)<=(27:Int)from zO),kp (show(0:Int)<=(1:Int)/\(1:Int)<(32:Int)from zO)] zQ
theorem aKA(x:Int)(h0:(x==0)=false)(h:aua x=4):Cq 279 [u32 x] (int 2) :=
 aj [kf h0,kv 8 (show aF (u32 (aua x)) (u32 4)from aF.of_eq (by rw[h])),kp (show(0:Int)<=(27:Int)from zO),kp (show(0:Int)<=(3:Int)/\(3:Int)<(32:Int)from zO)] zQ
theorem aKB(x:Int)(h0:(x==0)=false)(h:aua x=8):Cq 279 [u32 x] (int 3) :=
 aj [kf h0,kv 8 (show aF (u32 (aua x)) (u32 8)from aF.of_eq (by rw[h])),kp (show(0:Int)<=(27:Int)from zO),kp (show(0:Int)<=(7:Int)/\(7:Int)<(32:Int)from zO)] zQ
theorem aKC(x:Int)(h0:(x==0)=false)(h:aua x=16):Cq 279 [u32 x] (int 4) :=
 aj [kf h0,kv 8 (show aF (u32 (aua x)) (u32 16)from aF.of_eq (by rw[h])),kp (show(0:Int)<=(27:Int)from zO),kp (show(0:Int)<=(14:Int)/\(14:Int)<(32:Int)from zO)] zQ
theorem aKD(x:Int)(h0:(x==0)=false)(h:aua x=32):Cq 279 [u32 x] (int 5) :=
 aj [kf h0,kv 8 (show aF (u32 (aua x)) (u32 32)from aF.of_eq (by rw[h])),kp (show(0:Int)<=(27:Int)from zO),kp (show(0:Int)<=(29:Int)/\(29:Int)<(32:Int)from zO)] zQ
theorem aKE(x:Int)(h0:(x==0)=false)(h:aua x=64):Cq 279 [u32 x] (int 6) :=
 aj [kf h0,kv 8 (show aF (u32 (aua x)) (u32 64)from aF.of_eq (by rw[h])),kp (show(0:Int)<=(27:Int)from zO),kp (show(0:Int)<=(27:Int)/\(27:Int)<(32:Int)from zO)] zQ
theorem aKF(x:Int)(h0:(x==0)=false)(h:aua x=128):Cq 279 [u32 x] (int 7) :=
 aj [kf h0,kv 8 (show aF (u32 (aua x)) (u32 128)from aF.of_eq (by rw[h])),kp (show(0:Int)<=(27:Int)from zO),kp (show(0:Int)<=(23:Int)/\(23:Int)<(32:Int)from zO)] zQ
theorem aKG(x:Int)(h0:(x==0)=false)(h:aua x=256):Cq 279 [u32 x] (int 8) :=
 aj [kf h0,kv 8 (show aF (u32 (aua x)) (u32 256)from aF.of_eq (by rw[h])),kp (show(0:Int)<=(27:Int)from zO),kp (show(0:Int)<=(15:Int)/\(15:Int)<(32:Int)from zO)] zQ
theorem aKH(x:Int)(h0:(x==0)=false)(h:aua x=512):Cq 279 [u32 x] (int 9) :=
 aj [kf h0,kv 8 (show aF (u32 (aua x)) (u32 512)from aF.of_eq (by rw[h])),kp (show(0:Int)<=(27:Int)from zO),kp (show(0:Int)<=(31:Int)/\(31:Int)<(32:Int)from zO)] zQ
theorem aH6(x:Int)(h0:(x==0)=false)(h:aua x=1024):Cq 279 [u32 x] (int 10) :=
 aj [kf h0,kv 8 (show aF (u32 (aua x)) (u32 1024)from aF.of_eq (by rw[h])),kp (show(0:Int)<=(27:Int)from zO),kp (show(0:Int)<=(30:Int)/\(30:Int)<(32:Int)from zO)] zQ
theorem aH7(x:Int)(h0:(x==0)=false)(h:aua x=2048):Cq 279 [u32 x] (int 11) :=
 aj [kf h0,kv 8 (show aF (u32 (aua x)) (u32 2048)from aF.of_eq (by rw[h])),kp (show(0:Int)<=(27:Int)from zO),kp (show(0:Int)<=(28:Int)/\(28:Int)<(32:Int)from zO)] zQ
theorem aH8(x:Int)(h0:(x==0)=false)(h:aua x=4096):Cq 279 [u32 x] (int 12) :=
 aj [kf h0,kv 8 (show aF (u32 (aua x)) (u32 4096)from aF.of_eq (by rw[h])),kp (show(0:Int)<=(27:Int)from zO),kp (show(0:Int)<=(25:Int)/\(25:Int)<(32:Int)from zO)] zQ
theorem aH9(x:Int)(h0:(x==0)=false)(h:aua x=8192):Cq 279 [u32 x] (int 13) :=
 aj [kf h0,kv 8 (show aF (u32 (aua x)) (u32 8192)from aF.of_eq (by rw[h])),kp (show(0:Int)<=(27:Int)from zO),kp (show(0:Int)<=(18:Int)/\(18:Int)<(32:Int)from zO)] zQ
theorem aIa(x:Int)(h0:(x==0)=false)(h:aua x=16384):Cq 279 [u32 x] (int 14) :=
 aj [kf h0,kv 8 (show aF (u32 (aua x)) (u32 16384)from aF.of_eq (by rw[h])),kp (show(0:Int)<=(27:Int)from zO),kp (show(0:Int)<=(5:Int)/\(5:Int)<(32:Int)from zO)] zQ
theorem aIb(x:Int)(h0:(x==0)=false)(h:aua x=32768):Cq 279 [u32 x] (int 15) :=
 aj [kf h0,kv 8 (show aF (u32 (aua x)) (u32 32768)from aF.of_eq (by rw[h])),kp (show(0:Int)<=(27:Int)from zO),kp (show(0:Int)<=(11:Int)/\(11:Int)<(32:Int)from zO)] zQ
end Go.Tx
