import Derived.Test.YtdacbkmlfcjcgaaGreatDoorY7
set_option maxRecDepth 100000
set_option linter.unusedSimpArgs false
set_option linter.unusedVariables false
open List
noncomputable section
namespace Go.Dc
open Go Go.Am Go.Proofs Go.eY Go.bH
theorem aJ8(f:FD)(v:List D)(hs:(f.pn.size:Int)>64)(h:True):Cq 64 [.agg (jB f),bB v] (Am.bool false):=by
 have _:=h;exact aj [ki ((↑(ByteArray.size f.pn):Int)>64)]
theorem aJ9(f:FD)(v:List D)(hs:¬(f.pn.size:Int)>64)(hk:f.pk=1)(p b:Bool)(e:Int)(hP:Cq 166 [.agg [Sq.bZ f.tc,Tx.oI f.tm]] (Am.bool p))(hC:Cq 167 [Sq.bZ f.ce] (int e))(hL:Cq 168 [Sq.bZ f.ce,bB v] (Am.bool b))(r:Bool)(h:((((↑(length f.bi):Int)=0)->((((↑(length f.ta):Int)=0)->((((p)=true)->(((e=0)->(b)=(r))/\((¬e=0)->(false)=(r))))/\(((p)=false)->(false)=(r))))/\((¬(↑(length f.ta):Int)=0)->(false)=(r))))/\((¬(↑(length f.bi):Int)=0)->(false)=(r)))):Cq 64 [.agg (jB f),bB v] (Am.bool r):=by
 let l1:List fP:=[kj ((↑(ByteArray.size f.pn):Int)>64),kt (show(f.pk==1)=true from(qT zO)),kv 20 (show Am.aF (int (↑(length (Bd.au f.bi)):Int)) (int ↑(length f.bi))from(aF.of_eq (by simp only[Go.Bd.ay])))];by_cases c3:((↑(length f.bi):Int)=0)
 .have h:=h.1 c3;let l2:List fP:=l1++[kt (nW.2 c3),kN 25 (dP f.ta)];by_cases c4:((↑(length f.ta):Int)=0)
  .have h:=h.1 c4;rcases y00 ((p))with c5|c5
   .have h:=h.1 c5;by_cases c6:(e=0)
    .have h:=h.1 c6;exact aA (aF.aI h) (l2++[kt (nW.2 c4),kc [] hP,kt c5,kc [] hC,kt (nW.2 c6),kc [] hL])
    .have h:=h.2 c6;exact aA (aF.aI h) (l2++[kt (nW.2 c4),kc [] hP,kt c5,kc [] hC,kf (qN.2 c6)])
   .have h:=h.2 c5;exact aA (aF.aI h) (l2++[kt (nW.2 c4),kc [] hP,kf c5,kY])
  .have h:=h.2 c4;exact aA (aF.aI h) (l2++[kf (qN.2 c4),kY,kY])
 .have h:=h.2 c3;exact aA (aF.aI h) (l1++[kf (qN.2 c3),kY,kY,kY])
theorem aIr(f:FD)(v:List D)(k:Nat)(hk:¬(k:Int)<(f.bi.length:Int))(h:True):Rq 0 64 0 (vaS 5 f v k) (bF.exit 1) (vaX f v):=by
 have _:=h;exact aG [kv 50 (show Am.aF (int (↑(length (Bd.au f.bi)):Int)) (int ↑(length f.bi))from(aF.of_eq (by simp only[Go.Bd.ay]))),kj ((k:Int)<(↑(length f.bi):Int))] (aB 179 [1,2,4]) 1
theorem aIs(f:FD)(v:List D)(k:Nat)(x:Bd.BE)(hl:f.bi.length<=1000000)(hk:(k:Int)<(f.bi.length:Int))(hx:f.bi[k]?=some x)(hC:Cq 48 [bB v,eG (x.dv,x.sq)] (Am.bool true))(ex:bF)(s':St)(h:Rq 0 64 0 (sM 179 [(1,bB v),(2,.ptr 0 0),(4,Am.bool false),(5,int ↑(k+1))] [.box [int f.pk,str f.pn,.sl 9 false (Sq.au f.ce),.sl 5 false (Bd.au f.bi),.sl 3 false (lH f.ta),.sl 9 false (Sq.au f.tc),.sl 11 false (Tx.au f.tm)]]) ex s'):Rq 0 64 0 (vaS 5 f v k) ex s':=by
 exact aJ [kv 50 (show Am.aF (int (↑(length (Bd.au f.bi)):Int)) (int ↑(length f.bi))from(aF.of_eq (by simp only[Go.Bd.ay]))),ki ((k:Int)<(↑(length f.bi):Int)),ke (Bd.aQ x) (Bd.au f.bi) k (bG hx),kc [] hC,kY,kW 53 (k+1) ↑(k+1)] (aB 179 [1,2,4,5]) 1 h
theorem aIt(f:FD)(v:List D)(k:Nat)(x:Bd.BE)(hl:f.bi.length<=1000000)(hk:(k:Int)<(f.bi.length:Int))(hx:f.bi[k]?=some x)(hC:Cq 48 [bB v,eG (x.dv,x.sq)] (Am.bool false))(h:True):Rq 0 64 0 (vaS 5 f v k) bF.ret (vaX f v):=by
 have _:=h;exact aG [kv 50 (show Am.aF (int (↑(length (Bd.au f.bi)):Int)) (int ↑(length f.bi))from(aF.of_eq (by simp only[Go.Bd.ay]))),ki ((k:Int)<(↑(length f.bi):Int)),ke (Bd.aQ x) (Bd.au f.bi) k (bG hx),kc [] hC,kO] (aB 179 [1,2,4]) 1
theorem aIu(f:FD)(v:List D)(hs:¬(f.pn.size:Int)>64)(hk:f.pk=2)(hL:Rq 0 64 0 (vaS 5 f v 0) .ret (vaX f v))(h:True):Cq 64 [.agg (jB f),bB v] (Am.bool false):=by
 have _:=h;exact aj [kj ((↑(ByteArray.size f.pn):Int)>64),kf (show(f.pk==1)=false from(qF zO)),kt (show(f.pk==2)=true from(qT zO)),kl (rG [(0,1),(3,1),(6,173)]) 1 hL]
theorem aIv(f:FD)(v:List D)(hs:¬(f.pn.size:Int)>64)(hk:f.pk=2)(hL:Rq 0 64 0 (vaS 5 f v 0) (.exit 1) (vaX f v))(p:Bool)(e:Int)(hP:Cq 166 [.agg [Sq.bZ f.tc,Tx.oI f.tm]] (Am.bool p))(hC:Cq 169 [Bd.iK f.bi] (int e))(r:Bool)(h:((((↑(length f.ce):Int)=0)->((((↑(length f.ta):Int)=0)->((((p)=true)->(e==0)=(r))/\(((p)=false)->(false)=(r))))/\((¬(↑(length f.ta):Int)=0)->(false)=(r))))/\((¬(↑(length f.ce):Int)=0)->(false)=(r)))):Cq 64 [.agg (jB f),bB v] (Am.bool r):=by
 let l1:List fP:=[kj ((↑(ByteArray.size f.pn):Int)>64),kf (show(f.pk==1)=false from(qF zO)),kt (show(f.pk==2)=true from(qT zO)),kl (rG [(0,1),(3,1),(6,173)]) 1 hL,kv 65 (show Am.aF (int (↑(length (Sq.au f.ce)):Int)) (int ↑(length f.ce))from(aF.of_eq (by simp only[Go.Sq.ay])))];by_cases c4:((↑(length f.ce):Int)=0)
 .have h:=h.1 c4;let l2:List fP:=l1++[kt (nW.2 c4),kN 70 (dP f.ta)];by_cases c5:((↑(length f.ta):Int)=0)
  .have h:=h.1 c5;rcases y00 ((p))with c6|c6
   .have h:=h.1 c6;exact aA (aF.aI h) (l2++[kt (nW.2 c5),kc [] hP,kt c6,kc [] hC])
   .have h:=h.2 c6;exact aA (aF.aI h) (l2++[kt (nW.2 c5),kc [] hP,kf c6])
  .have h:=h.2 c5;exact aA (aF.aI h) (l2++[kf (qN.2 c5),kY])
 .have h:=h.2 c4;exact aA (aF.aI h) (l1++[kf (qN.2 c4),kY,kY])
theorem aKa(f:FD)(v:List D)(hs:¬(f.pn.size:Int)>64)(h1:¬f.pk=1)(h2:¬f.pk=2)(h3:¬f.pk=3)(h4:¬f.pk=4)(h:True):Cq 64 [.agg (jB f),bB v] (Am.bool false):=by
 have _:=h;exact aj [kj ((↑(ByteArray.size f.pn):Int)>64),kf (show(f.pk==1)=false from(qF zO)),kf (show(f.pk==2)=false from(qF zO)),kf (show(f.pk==3)=false from(qF zO)),kf (show(f.pk==4)=false from(qF zO))]
theorem aIw(f:FD)(v:List D)(k:Nat)(hk:¬(k:Int)<(f.ta.length:Int))(h:True):Rq 0 64 1 (vaS 6 f v k) (bF.exit 3) (vaX f v):=by
 have _:=h;exact aG [kN 89 (dP f.ta),kj ((k:Int)<(↑(length f.ta):Int))] (aB 179 [1,2,4]) 1
theorem aIx(f:FD)(v:List D)(k:Nat)(x:TL)(hl:f.ta.length<=1000000)(hk:(k:Int)<(f.ta.length:Int))(hx:f.ta[k]?=some x)(hC:Cq 48 [bB v,eG (x.1,x.2.1)] (Am.bool true))(ex:bF)(s':St)(h:Rq 0 64 1 (sM 179 [(1,bB v),(2,.ptr 0 0),(4,Am.bool false),(6,int ↑(k+1))] [.box [int f.pk,str f.pn,.sl 9 false (Sq.au f.ce),.sl 5 false (Bd.au f.bi),.sl 3 false (lH f.ta),.sl 9 false (Sq.au f.tc),.sl 11 false (Tx.au f.tm)]]) ex s'):Rq 0 64 1 (vaS 6 f v k) ex s':=by
 have jw:(0:Int)<=(k:Int)/\(lH f.ta)[Int.toNat (k:Int)]?=some (ze x):=(bG hx);exact aJ [kN 89 (dP f.ta),ki ((k:Int)<(↑(length f.ta):Int)),ko (bC.elem (ze x)),ko (bC.elem (ze x)),kp jw,kp jw,kc [] hC,kY,kW 92 (k+1) ↑(k+1)] (aB 179 [1,2,4,6]) 1 h
theorem aIy(f:FD)(v:List D)(k:Nat)(x:TL)(hl:f.ta.length<=1000000)(hk:(k:Int)<(f.ta.length:Int))(hx:f.ta[k]?=some x)(hC:Cq 48 [bB v,eG (x.1,x.2.1)] (Am.bool false))(h:True):Rq 0 64 1 (vaS 6 f v k) bF.ret (vaX f v):=by
 have jw:(0:Int)<=(k:Int)/\(lH f.ta)[Int.toNat (k:Int)]?=some (ze x):=(bG hx);have _:=h;exact aG [kN 89 (dP f.ta),ki ((k:Int)<(↑(length f.ta):Int)),ko (bC.elem (ze x)),ko (bC.elem (ze x)),kp jw,kp jw,kc [] hC,kO] (aB 179 [1,2,4]) 1
theorem aIz(f:FD)(v:List D)(hs:¬(f.pn.size:Int)>64)(hk:f.pk=3)(hL:Rq 0 64 1 (vaS 6 f v 0) .ret (vaX f v))(h:True):Cq 64 [.agg (jB f),bB v] (Am.bool false):=by
 have _:=h;exact aj [kj ((↑(ByteArray.size f.pn):Int)>64),kf (show(f.pk==1)=false from(qF zO)),kf (show(f.pk==2)=false from(qF zO)),kt (show(f.pk==3)=true from(qT zO)),kl (rG [(0,1),(3,1),(5,1),(7,172)]) 1 hL]
theorem aIA(f:FD)(v:List D)(hs:¬(f.pn.size:Int)>64)(hk:f.pk=3)(hL:Rq 0 64 1 (vaS 6 f v 0) (.exit 3) (vaX f v))(p:Bool)(e:Int)(hP:Cq 166 [.agg [Sq.bZ f.tc,Tx.oI f.tm]] (Am.bool p))(hC:Cq 170 [mF f.ta] (int e))(r:Bool)(h:((((↑(length f.ce):Int)=0)->((((↑(length f.bi):Int)=0)->((((p)=true)->(e==0)=(r))/\(((p)=false)->(false)=(r))))/\((¬(↑(length f.bi):Int)=0)->(false)=(r))))/\((¬(↑(length f.ce):Int)=0)->(false)=(r)))):Cq 64 [.agg (jB f),bB v] (Am.bool r):=by
 let l1:List fP:=[kj ((↑(ByteArray.size f.pn):Int)>64),kf (show(f.pk==1)=false from(qF zO)),kf (show(f.pk==2)=false from(qF zO)),kt (show(f.pk==3)=true from(qT zO)),kl (rG [(0,1),(3,1),(5,1),(7,172)]) 1 hL,kv 111 (show Am.aF (int (↑(length (Sq.au f.ce)):Int)) (int ↑(length f.ce))from(aF.of_eq (by simp only[Go.Sq.ay])))];by_cases c5:((↑(length f.ce):Int)=0)
 .have h:=h.1 c5;let l2:List fP:=l1++[kt (nW.2 c5),kv 116 (show Am.aF (int (↑(length (Bd.au f.bi)):Int)) (int ↑(length f.bi))from(aF.of_eq (by simp only[Go.Bd.ay])))];by_cases c6:((↑(length f.bi):Int)=0)
  .have h:=h.1 c6;rcases y00 ((p))with c7|c7
   .have h:=h.1 c7;exact aA (aF.aI h) (l2++[kt (nW.2 c6),kc [] hP,kt c7,kc [] hC])
   .have h:=h.2 c7;exact aA (aF.aI h) (l2++[kt (nW.2 c6),kc [] hP,kf c7])
  .have h:=h.2 c6;exact aA (aF.aI h) (l2++[kf (qN.2 c6),kY])
 .have h:=h.2 c5;exact aA (aF.aI h) (l1++[kf (qN.2 c5),kY,kY])
theorem aIB(f:FD)(v:List D)(k:Nat)(hk:¬(k:Int)<(f.tm.length:Int))(h:True):Rq 0 64 2 (vaS 7 f v k) (bF.exit 5) (vaX f v):=by
 have _:=h;exact aG [kv 136 (show Am.aF (int (↑(length (Tx.au f.tm)):Int)) (int ↑(length f.tm))from(aF.of_eq (by simp only[Go.Tx.ay]))),kj ((k:Int)<(↑(length f.tm):Int))] (aB 179 [1,2,4]) 1
theorem aIC(f:FD)(v:List D)(k:Nat)(x:Tx.MK)(hl:f.tm.length<=1000000)(hk:(k:Int)<(f.tm.length:Int))(hx:f.tm[k]?=some x)(hC:Cq 48 [bB v,eG (x.dv,x.sq)] (Am.bool true))(ex:bF)(s':St)(h:Rq 0 64 2 (sM 179 [(1,bB v),(2,.ptr 0 0),(4,Am.bool false),(7,int ↑(k+1))] [.box [int f.pk,str f.pn,.sl 9 false (Sq.au f.ce),.sl 5 false (Bd.au f.bi),.sl 3 false (lH f.ta),.sl 9 false (Sq.au f.tc),.sl 11 false (Tx.au f.tm)]]) ex s'):Rq 0 64 2 (vaS 7 f v k) ex s':=by
 exact aJ [kv 136 (show Am.aF (int (↑(length (Tx.au f.tm)):Int)) (int ↑(length f.tm))from(aF.of_eq (by simp only[Go.Tx.ay]))),ki ((k:Int)<(↑(length f.tm):Int)),ke (Tx.aQ x) (Tx.au f.tm) k (bG hx),kc [] hC,kY,kW 139 (k+1) ↑(k+1)] (aB 179 [1,2,4,7]) 1 h
theorem aID(f:FD)(v:List D)(k:Nat)(x:Tx.MK)(hl:f.tm.length<=1000000)(hk:(k:Int)<(f.tm.length:Int))(hx:f.tm[k]?=some x)(hC:Cq 48 [bB v,eG (x.dv,x.sq)] (Am.bool false))(h:True):Rq 0 64 2 (vaS 7 f v k) bF.ret (vaX f v):=by
 have _:=h;exact aG [kv 136 (show Am.aF (int (↑(length (Tx.au f.tm)):Int)) (int ↑(length f.tm))from(aF.of_eq (by simp only[Go.Tx.ay]))),ki ((k:Int)<(↑(length f.tm):Int)),ke (Tx.aQ x) (Tx.au f.tm) k (bG hx),kc [] hC,kO] (aB 179 [1,2,4]) 1
theorem aIE(f:FD)(v:List D)(hs:¬(f.pn.size:Int)>64)(hk:f.pk=4)(hL:Rq 0 64 2 (vaS 7 f v 0) .ret (vaX f v))(h:True):Cq 64 [.agg (jB f),bB v] (Am.bool false):=by
 have _:=h;exact aj [kj ((↑(ByteArray.size f.pn):Int)>64),kf (show(f.pk==1)=false from(qF zO)),kf (show(f.pk==2)=false from(qF zO)),kf (show(f.pk==3)=false from(qF zO)),kt (show(f.pk==4)=true from(qT zO)),kl (rG [(0,1),(3,1),(5,2),(8,171)]) 1 hL]
theorem aIF(f:FD)(v:List D)(hs:¬(f.pn.size:Int)>64)(hk:f.pk=4)(hL:Rq 0 64 2 (vaS 7 f v 0) (.exit 5) (vaX f v))(b:Bool)(e:Int)(hC:Cq 171 [.agg [Sq.bZ f.tc,Tx.oI f.tm]] (int e))(hB:Cq 168 [Sq.bZ f.tc,bB v] (Am.bool b))(r:Bool)(h:((((↑(length f.ce):Int)=0)->((((↑(length f.bi):Int)=0)->((((↑(length f.ta):Int)=0)->(((e=0)->(b)=(r))/\((¬e=0)->(false)=(r))))/\((¬(↑(length f.ta):Int)=0)->(false)=(r))))/\((¬(↑(length f.bi):Int)=0)->(false)=(r))))/\((¬(↑(length f.ce):Int)=0)->(false)=(r)))):Cq 64 [.agg (jB f),bB v] (Am.bool r):=by
 let l1:List fP:=[kj ((↑(ByteArray.size f.pn):Int)>64),kf (show(f.pk==1)=false from(qF zO)),kf (show(f.pk==2)=false from(qF zO)),kf (show(f.pk==3)=false from(qF zO)),kt (show(f.pk==4)=true from(qT zO)),kl (rG [(0,1),(3,1),(5,2),(8,171)]) 1 hL,kv 152 (show Am.aF (int (↑(length (Sq.au f.ce)):Int)) (int ↑(length f.ce))from(aF.of_eq (by simp only[Go.Sq.ay])))];by_cases c6:((↑(length f.ce):Int)=0)
 .have h:=h.1 c6;let l2:List fP:=l1++[kt (nW.2 c6),kv 157 (show Am.aF (int (↑(length (Bd.au f.bi)):Int)) (int ↑(length f.bi))from(aF.of_eq (by simp only[Go.Bd.ay])))];by_cases c7:((↑(length f.bi):Int)=0)
  .have h:=h.1 c7;let l3:List fP:=l2++[kt (nW.2 c7),kN 163 (dP f.ta)];by_cases c8:((↑(length f.ta):Int)=0)
   .have h:=h.1 c8;by_cases c9:(e=0)
    .have h:=h.1 c9;exact aA (aF.aI h) (l3++[kt (nW.2 c8),kc [] hC,kt (nW.2 c9),kc [] hB])
    .have h:=h.2 c9;exact aA (aF.aI h) (l3++[kt (nW.2 c8),kc [] hC,kf (qN.2 c9)])
   .have h:=h.2 c8;exact aA (aF.aI h) (l3++[kf (qN.2 c8),kY])
  .have h:=h.2 c7;exact aA (aF.aI h) (l2++[kf (qN.2 c7),kY,kY])
 .have h:=h.2 c6;exact aA (aF.aI h) (l1++[kf (qN.2 c6),kY,kY,kY])
theorem aE1(d s:Int):Cq 227 [int d,int s] (Am.bool (Tf d s)):=aHJ d s _ (by unfold Tf;grind)
abbrev qtX(l:List TL)(b:Bool):St:={ aL:=aC 40 [(0,mF l),(2,int (if b=true then 0 else 150))],H:=[] }
theorem aEB(l:List TL)(hl:l.length<=1000000):∀n k y,l.length-(k+1)=n->k<l.length->l[k]?=some y->Rq 0 170 0 (qtS l (k+1)) (if Xg y.1 (l.drop (k+1))=true then .exit 0 else .ret) (qtX l (Xg y.1 (l.drop (k+1)))):=by
 intro n
 induction n with
 |zero =>
  intro k y hn hk hy;rw[y17 zO];exact aHK l (k+1) zO trivial
 |succ n ih =>
  intro k y hn hk hy;have h1:k+1<l.length:=zO
  have hx:=yA h1;have hD:=aE1 l[k+1].1 l[k+1].2.1;rw[y01 h1,Xg];cases hb:Tf l[k+1].1 l[k+1].2.1 with
  |false =>
   rw[hb]at hD;exact aHL l (k+1) _ hl zO hx hD trivial
  |true =>
   rw[hb]at hD;refine aJN l k _ y hl zO hx hy hD _ _ ⟨y,⟨zO,by rw[show Int.toNat (((k+1:Nat):Int)-1)=k by omega];exact hy⟩,fun h=>?_,fun h=>?_⟩
   .rw [y16 zO];exact⟨rfl,rfl⟩
   .rw [y15 zO,Bool.true_and,Bool.true_and];exact ih (k+1) _ zO h1 hx
theorem aIG(l:List TL)(hl:l.length<=1000000):Cq 170 [mF l] (int (vC l)):=by
 have h:Rq 0 170 0 (qtS l 0) (if Xg (-1) l=true then .exit 0 else .ret) (qtX l (Xg (-1) l)):=by
  cases l with
  |nil=>exact aHK [] 0 zS trivial
  |cons x l =>
   have hD:=aE1 x.1 x.2.1;rw[Xg];cases hb:Tf x.1 x.2.1 with
   |false =>
    rw[hb]at hD;exact aHL (x::l) 0 x hl (by rw[yE];omega) rfl hD trivial
   |true =>
    rw[hb]at hD;have h0:0<=x.1:=by unfold Tf at hb;simp only[y04,y05]at hb;exact hb.1.1.1
    rw[y15 zO,Bool.true_and,Bool.true_and];exact aJM (x::l) x hl (by rw[yE];omega) rfl hD _ _ (aEB (x::l) hl _ 0 x rfl zS rfl)
 unfold vC;cases e:Xg (-1) l with
 |true=>rw[e]at h;exact aJO l h trivial
 |false=>rw[e]at h;exact aJP l h trivial
theorem aEC(l:List Sq.CE)(v:List D)(hl:l.length<=1000000)(hv:v.length<=1000000000):∀n k,l.length-k=n->k<=l.length->Rq 0 168 0 (qcS l v k) (if((l.drop k).all fun x=>cZ v (dtc x))=true then .exit 0 else .ret) (qcX l v):=by
 intro n
 induction n with
 |zero =>
  intro k hn hk;rw[y17 zO];exact aJQ l v k zO trivial
 |succ n ih =>
  intro k hn hk;have h1:k<l.length:=zO
  have hC:=bH.avJ v l[k].dv l[k].sq hv;rw[y01 h1,all_cons];cases hb:cZ v (dtc l[k])with
  |false =>
   rw[show cZ v (l[k].dv,l[k].sq)=false from hb]at hC;exact aJS l v k _ hl zO (yA h1) (aCT _ _ _ yO) hC trivial
  |true =>
   rw[show cZ v (l[k].dv,l[k].sq)=true from hb]at hC;rw[Bool.true_and];exact aJR l v k _ hl zO (yA h1) (aCT _ _ _ yO) hC _ _ (ih (k+1) zO zO)
theorem aBd(l:List Sq.CE)(v:List D)(hl:l.length<=1000000)(hv:v.length<=1000000000):Cq 168 [Sq.bZ l,bB v] (Am.bool (l.all fun x=>cZ v (dtc x))):=by
 have h:=aEC l v hl hv _ 0 rfl yN;rw[drop_zero]at h;cases e:(l.all fun x=>cZ v (dtc x))with
 |true=>rw[e]at h;exact aJT l v h trivial
 |false=>rw[e]at h;exact aJU l v h trivial
theorem aED(f:FD):Cq 166 [.agg [Sq.bZ f.tc,Tx.oI f.tm]] (Am.bool (decide (f.tc.length+f.tm.length=0))):=aJV f _ ⟨fun h=>by rw[ab6];exact decide_eq_decide.2 zO,fun h=>(y16 zO).symm⟩
theorem aAj(a b:Int)(s t:yP):Cq 51 [pt a s,pt b t] (Am.bool (decide (U7 a b s t<0))):=aJW a b s t _ (by
 have h:=ajG (a:=a) (b:=b) (s:=s) (t:=t);refine⟨fun k=>(y15 (h.2 (.inl k))).symm,fun k=>⟨fun e=>?_,fun e=>?_⟩⟩
 .rw [Bool.eq_iff_iff,y05,h];exact⟨fun q=>.inr ⟨e,q⟩,fun q=>q.elim (fun q=>absurd q k) (·.2)⟩
 .exact (y16 fun q=>(h.1 q).elim k fun q=>e q.1).symm)
def rkS(d:DO)(k:Nat):St:={ aL:=aC 45 [(1,.ptr 0 0),(2,int 0),(3,int k)],H:=[.box [bB d.sn,Md d.fs]] }
abbrev rkX(d:DO)(n:Int):St:={ aL:=aC 45 [(1,.ptr 0 0),(2,int n)],H:=[.box [bB d.sn,Md d.fs]] }
theorem aKb(d:DO)(k:Nat)(hk:¬(k:Int)<(d.fs.length:Int))(h:True):Rq 0 18 0 (rkS d k) (bF.exit 0) (rkX d 0):=by
 have _:=h;exact aG [kN 11 (fE d.fs),kj ((k:Int)<(↑(length d.fs):Int))] (aB 45 [1,2]) 1
theorem aKc(d:DO)(k:Nat)(f:FD)(hl:d.fs.length<=1000000)(hk:(k:Int)<(d.fs.length:Int))(hx:d.fs[k]?=some f)(hV:Cq 64 [.agg (jB f),bB d.sn] (Am.bool false))(h:True):Rq 0 18 0 (rkS d k) bF.ret (rkX d 180):=by
 have _:=h;exact aG [kN 11 (fE d.fs),ki ((k:Int)<(↑(length d.fs):Int)),ke (jB f) (dA d.fs) k (bG hx),kc [] hV,kO,kO] (aB 45 [1,2]) 1
theorem aKd(d:DO)(f:FD)(hl:d.fs.length<=1000000)(hk:(0:Int)<(d.fs.length:Int))(hx:d.fs[0]?=some f)(hV:Cq 64 [.agg (jB f),bB d.sn] (Am.bool true))(ex:bF)(s':St)(h:Rq 0 18 0 (sM 45 [(1,.ptr 0 0),(2,int 0),(3,int 1)] [.box [bB d.sn,.sl 7 false (dA d.fs)]]) ex s'):Rq 0 18 0 (rkS d 0) ex s':=by
 exact aJ [kN 11 (fE d.fs),ki ((0:Int)<(↑(length d.fs):Int)),ke (jB f) (dA d.fs) (0:Int) (bG hx),kc [] hV,kY,kY,kY] (aB 45 [1,2,3]) 1 h
theorem aKe(d:DO)(k:Nat)(f g:FD)(b:Bool)(hl:d.fs.length<=1000000)(hk:((k+1:Nat):Int)<(d.fs.length:Int))(hx:d.fs[k+1]?=some f)(hy:d.fs[k]?=some g)(hV:Cq 64 [.agg (jB f),bB d.sn] (Am.bool true))(hP:∀g':FD,d.fs[k]?=some g'->Cq 51 [pt g'.pk g'.pn,pt f.pk f.pn] (Am.bool b))(ex:bF)(s':St)(h:(∃x3:FD,((0:Int)<=(↑(k+1):Int)-1/\d.fs[Int.toNat ((↑(k+1):Int)-1)]?=some x3)/\((d.fs[k]?=some x3)/\((((b)=true)->Rq 0 18 0 (sM 45 [(1,.ptr 0 0),(2,int 0),(3,int ↑(k+1+1))] [.box [bB d.sn,.sl 7 false (dA d.fs)]]) ex s')/\(((b)=false)->(bF.ret=ex)/\(sM 45 [(1,.ptr 0 0),(2,int 180)] [.box [bB d.sn,.sl 7 false (dA d.fs)]]=s')))))):Rq 0 18 0 (rkS d (k+1)) ex s':=by
 have jw:(0:Int)<=(↑(k+1):Int)/\(dA d.fs)[Int.toNat (↑(k+1):Int)]?=some (jB f):=(bG hx);obtain⟨x3,o4,h⟩:=h;obtain⟨o5,h⟩:=h;have H6:=(@hP (x3) o5);let l1:List fP:=[kN 11 (fE d.fs),ki ((↑(k+1):Int)<(↑(length d.fs):Int)),ko (bC.elem (jB f)),kp jw,kc [] hV,kY,ki ((↑(k+1):Int)>0),kW 31 ((↑(k+1):Int)-1) ((↑(k+1):Int)-1),ko (bC.elem (jB x3)),ko (bC.elem (jB f)),kp (show(0:Int)<=(↑(k+1):Int)-1/\(dA d.fs)[Int.toNat ((↑(k+1):Int)-1)]?=some (jB x3)from(qU o4)),kp jw,kc [] H6];rcases y00 ((b))with c6|c6
 .have h:=h.1 c6;exact aJ (l1++[kf (show(!b)=false from(y27 (c6))),kW 14 ((↑(k+1):Int)+1) (↑(k+1+1):Int)]) (aB 45 [1,2,3]) 1 h
 .have h:=h.2 c6;obtain⟨eX,eS⟩:=h;exact bN.to ((show Rq 0 18 0 (rkS d (k+1)) bF.ret (sM 45 [(1,.ptr 0 0),(2,int 180)] [.box [.sl 2 false (au d.sn),.sl 7 false (dA d.fs)]])from aG (l1++[kt (show(!b)=true from(y27 (c6)))]) (aB 45 [1,2]) 1)) eX (eB.of_eq eS)
theorem aKf(d:DO)(hV:Cq 63 [bB d.sn] (int 0))(hL:Rq 0 18 0 (rkS d 0) (.exit 0) (rkX d 0))(h:True):Cq 18 [kI d] (int 0):=by
 have _:=h;exact aj [kc [] hV,kY,kl (rG [(0,1),(4,41)]) 1 hL]
theorem aKg(d:DO)(hV:Cq 63 [bB d.sn] (int 0))(hL:Rq 0 18 0 (rkS d 0) .ret (rkX d 180))(h:True):Cq 18 [kI d] (int 180):=by
 have _:=h;exact aj [kc [] hV,kY,kl (rG [(0,1),(4,41)]) 1 hL]
theorem aKh(d:DO)(e:Int)(he:¬e=0)(hV:Cq 63 [bB d.sn] (int e))(h:True):Cq 18 [kI d] (int 180):=by
 have _:=h;exact aj [kc [] hV,kt (show(e != 0)=true from(y27 (qF zO)))]
theorem aAN{α:Type}{f:FD}{v:List D}{i lp e:Nat}{l:List α}{c:α->Bool}(he:∀k:Nat,¬(k:Int)<(l.length:Int)->Rq 0 64 lp (vaS i f v k) (.exit e) (vaX f v))(hn:∀(k:Nat) x,(k:Int)<(l.length:Int)->l[k]?=some x->c x=true->∀(ex:bF)(s':St),Rq 0 64 lp (vaS i f v (k+1)) ex s'->Rq 0 64 lp (vaS i f v k) ex s')(hx:∀(k:Nat) x,(k:Int)<(l.length:Int)->l[k]?=some x->c x=false->Rq 0 64 lp (vaS i f v k) .ret (vaX f v)):∀n k,l.length-k=n->k<=l.length->Rq 0 64 lp (vaS i f v k) (if(l.drop k).all c=true then .exit e else .ret) (vaX f v):=by
 intro n
 induction n with
 |zero =>
  intro k h1 h2;rw[y17 zO];exact he k zO
 |succ n ih =>
  intro k h1 h2;have bg:k<l.length:=zO
  rw[y01 bg,all_cons];cases hc:c l[k]with
  |true=>rw[Bool.true_and];exact hn k _ zO (yA bg) hc _ _ (ih (k+1) zO zO)
  |false=>exact hx k _ zO (yA bg) hc
theorem auy(f:FD)(v:List D)(h:XW f)(ht:Tx.X4 ⟨f.tc,f.tm⟩)(hv:v.length<=1000000000):Cq 64 [.agg (jB f),bB v] (Am.bool (U6 f v)):=by
 obtain⟨l1,l2,l3,l4,l5⟩:=h;by_cases hs:(f.pn.size:Int)>64
 .have e:U6 f v=false:=by unfold U6;rw[y16 (show ¬f.pn.size<=64 by omega),Bool.and_false]
  rw[e];exact aJ8 f v hs trivial
 have e64:decide (f.pn.size<=64)=true:=y15 zO;have hP:=aED f;by_cases k1:f.pk=1
 .refine aJ9 f v hs k1 _ _ _ hP (Sq.up (Sq.az9 f.ce zO)) (aBd f.ce v l1 hv) _ ?_;unfold U6;rw[yL k1,e64];grind
 by_cases k2:f.pk=2
 .have hL:=aAN (f:=f) (v:=v) (i:=5) (lp:=0) (e:=1) (l:=f.bi) (c:=fun x=>cZ v (dtb x)) (fun k hk=>aIr f v k hk yO) (fun k x hk hx hc _ _ nx=>aIs f v k x l2 hk hx (hc▸bH.avJ v x.dv x.sq hv) _ _ nx) (fun k x hk hx hc=>aIt f v k x l2 hk hx (hc▸bH.avJ v x.dv x.sq hv) yO) _ 0 rfl yN;rw[drop_zero]at hL;unfold U6;rw[yK k1,yL k2,e64];cases hc:(f.bi.all fun x=>cZ v (dtb x))with
  |false=>rw[hc]at hL;rw[Bool.and_false];exact aIu f v hs k2 hL trivial
  |true =>
   rw[hc]at hL;refine aIv f v hs k2 hL _ _ hP (Bd.avK f.bi zO) _ ?_;grind
 by_cases k3:f.pk=3
 .have hL:=aAN (f:=f) (v:=v) (i:=6) (lp:=1) (e:=3) (l:=f.ta) (c:=fun x=>cZ v (dtt x)) (fun k hk=>aIw f v k hk yO) (fun k x hk hx hc _ _ nx=>aIx f v k x l3 hk hx (hc▸bH.avJ v x.1 x.2.1 hv) _ _ nx) (fun k x hk hx hc=>aIy f v k x l3 hk hx (hc▸bH.avJ v x.1 x.2.1 hv) yO) _ 0 rfl yN;rw[drop_zero]at hL;unfold U6;rw[yK k1,yK k2,yL k3,e64];cases hc:(f.ta.all fun x=>cZ v (dtt x))with
  |false=>rw[hc]at hL;rw[Bool.and_false];exact aIz f v hs k3 hL trivial
  |true =>
   rw[hc]at hL;refine aIA f v hs k3 hL _ _ hP (aIG f.ta zO) _ ?_;grind
 by_cases k4:f.pk=4
 .have hL:=aAN (f:=f) (v:=v) (i:=7) (lp:=2) (e:=5) (l:=f.tm) (c:=fun x=>cZ v (dtm x)) (fun k hk=>aIB f v k hk yO) (fun k x hk hx hc _ _ nx=>aIC f v k x l5 hk hx (hc▸bH.avJ v x.dv x.sq hv) _ _ nx) (fun k x hk hx hc=>aID f v k x l5 hk hx (hc▸bH.avJ v x.dv x.sq hv) yO) _ 0 rfl yN;rw[drop_zero]at hL;unfold U6;rw[yK k1,yK k2,yK k3,yL k4,e64];cases hc:(f.tm.all fun x=>cZ v (dtm x))with
  |false=>rw[hc]at hL;rw[Bool.and_false];exact aIE f v hs k4 hL trivial
  |true =>
   rw[hc]at hL;refine aIF f v hs k4 hL _ _ (Tx.avK ⟨f.tc,f.tm⟩ ht) (aBd f.tc v l4 hv) _ ?_;grind
 .unfold U6;rw[yK k1,yK k2,yK k3,yK k4];exact aKa f v hs k1 k2 k3 k4 trivial
theorem aEE(d:DO)(h:Dim d):∀n k,d.fs.length-k=n->k<=d.fs.length->Rq 0 18 0 (rkS d k) (if Xe d.sn (prv d.fs k) (d.fs.drop k)=true then .exit 0 else .ret) (rkX d (if Xe d.sn (prv d.fs k) (d.fs.drop k)=true then 0 else 180)):=by
 intro n
 induction n with
 |zero =>
  intro k h1 h2;have e:Xe d.sn (prv d.fs k) (d.fs.drop k)=true:=by rw[y17 zO];cases prv d.fs k<;>rfl
  rw[e];exact aKb d k zO trivial
 |succ n ih =>
  intro k h1 h2;have bg:k<d.fs.length:=zO
  have hx:=yA bg;have hm:=y03 bg;have hV:=auy d.fs[k] d.sn (h.len _ hm) (h.iV _ hm).lt (by have:=h.sn;omega);have nx:=ih (k+1) zO zO;have hp:prv d.fs (k+1)=some d.fs[k]:=hx;rw[hp]at nx;rw[y01 bg];unfold Xe;cases e:U6 d.fs[k] d.sn with
  |false =>
   rw[e]at hV;simp only[Bool.false_and,y20,if_false];exact aKc d k _ h.fs zO hx hV trivial
  |true =>
   rw[e]at hV
   match k,bg,hx,hV,nx with
   |0,bg,hx,hV,nx =>
    rw[show prv d.fs 0=none from rfl];simp only[Bool.true_and];exact aKd d _ h.fs zO hx hV _ _ nx
   |k+1,bg,hx,hV,nx =>
    have hy:d.fs[k]?=some d.fs[k]:=yA zO;have hz:d.fs[Int.toNat (((k+1:Nat):Int)-1)]?=some d.fs[k]:=by
     rw[show Int.toNat (((k+1:Nat):Int)-1)=k by omega];exact hy
    have hq:prv d.fs (k+1)=some d.fs[k]:=hy;rw[hq];simp only[Bool.true_and];refine aKe d k _ d.fs[k] (decide (U7 d.fs[k].pk d.fs[k+1].pk d.fs[k].pn d.fs[k+1].pn<0)) h.fs zO hx hy hV (fun g' hg=>?_) _ _ ⟨d.fs[k],⟨zO,hz⟩,hy,fun hc=>?_,fun hc=>?_⟩
    .rw [hy]at hg;cases hg;exact aAj d.fs[k].pk d.fs[k+1].pk d.fs[k].pn d.fs[k+1].pn
    .rw [hc,Bool.true_and];exact nx
    .rw [hc,Bool.false_and];exact⟨rfl,rfl⟩
theorem aCi(d:DO)(h:Dim d):Cq 18 [kI d] (int (F9 d)):=by
 have hK:=bH.avK d.sn (by have:=h.sn;omega);have hL:=aEE d h _ 0 rfl yN;rw[drop_zero,show prv d.fs 0=none from rfl]at hL;unfold eZ at hK;unfold F9;cases e:Cw d.sn with
 |false =>
  rw[e]at hK;simp only[y20,false_and,if_false]at hK |-;exact aKh d _ zD hK trivial
 |true =>
  rw[e]at hK;simp only[true_and,if_true]at hK |-;cases q:Xe d.sn none d.fs with
  |true=>rw[q]at hL;exact aKf d hK hL trivial
  |false=>rw[q]at hL;exact aKg d hK hL trivial
open Go.yU (CV rR val Cy iB fA QG gT je aaw adl)
theorem aIH(d:DO)(hl:d.sn.length<=1000000):Rq 0 22 0 (aDH d) (.exit 0) { aL:=aC 74 [(1,.ptr 0 0),(4,.sl 4 false (iB (d.sn.map dtV)))],H:=[rnB d] }:=by
 by_cases h0:d.sn.length=0
 .rw [y02 h0];exact(aGO d zO yO).post (eB.aC ⟨rfl,y29,rfl,aF.oP 4 true _,yO⟩)
 .have bg:0<d.sn.length:=zO
  obtain⟨g',h⟩:=awF (l:=d.sn) (V:=dtV) (S:=rnS d) (X:=fun g cs=>{ aL:=aC 74 [(1,.ptr 0 0),(4,.aU 1 g 0 cs.length)],H:=[rnB d,.aN g 4 false (iB cs)] }) hl (fun g cs k hk=>aJk d g cs k hk yO) (fun g cs k x hk hx hc ex s' h=>aJl d x g cs k hk hx hl hc ex s' (by
   unfold rnS at h;rw[<- o9,yD]at h;exact h)) _ 1 0 rfl zO
  rw[show(d.sn.take 1).map dtV=[dtV d.sn[0]] by rw[take_add_one,yA bg];rfl]at h;have h2:=aGP d d.sn[0] zO (yA bg) hl _ _ h;generalize d.sn.map dtV=cs at h2 |-;have h3:=bN.aBB (t:=4) (x:=.aU 1 g' 0 cs.length) (y:=.sl 4 false (iB cs)) (z:=iB cs) (H1:=[rnB d,.aN g' 4 true (iB cs)]) (ps:=[g'=g',((iB cs).drop 0).take cs.length=iB cs,(iB cs).length=cs.length,∀c∈iB cs,c.all AV.fJ=true]) h2 rfl rfl ⟨rfl,yU.aa7 cs,fA cs,yU.WV cs,yO⟩;exact h3.cut 1 (fun _ e=>by cases e) (s2:={ aL:=aC 74 [(1,.ptr 0 0),(4,.sl 4 false (iB cs))],H:=[rnB d] }) (ps:=[]) rfl trivial
theorem az6(x:FD):(fdV x).cells=[int 3,int 0,str .empty,.sl 4 false [[int 1,int x.pk,str .empty,.sl 4 false []],[int 2,int 0,str x.pn,.sl 4 false []],[int (coV x).k,int (coV x).n,str (coV x).s,.sl 4 false (iB (coV x).l)]]]:=by
 unfold fdV;cases coV x;rfl
variable {d:DO}
theorem aII{f:List AV}{V:CV}:HSub [rnB d,.box f,.aN 0 4 false [V.cells]] [rnB d,.aH,.aN 0 4 false (iB [V])]:=⟨.inl rfl,.inr yO,.inl rfl,yO⟩
theorem aIJ(d:DO)(L:List (List AV))(hl:d.fs.length<=1000000)(hC:∀f∈d.fs,Cq 80 [.agg (jB f)] (val (coV f))):Rq 0 22 1 (aDI d L) (.exit 2) { aL:=aC 74 [(4,.sl 4 false L),(6,.sl 4 false (iB (d.fs.map fdV)))],H:=[rnB d] }:=by
 by_cases h0:d.fs.length=0
 .rw [y02 h0];exact(aFh d L zO yO).post (eB.aC ⟨rfl,y29,rfl,aF.oP 4 true _,yO⟩)
 .have bg:0<d.fs.length:=zO
  obtain⟨g',h⟩:=awF (l:=d.fs) (V:=fdV) (S:=rnT d L) (X:=fun g cs=>{ aL:=aC 74 [(4,.sl 4 false L),(6,.aU 2 g 0 cs.length)],H:=[rnB d,.aH,.aN g 4 false (iB cs)] }) hl (fun g cs k hk=>aGQ d L g cs k hk yO) (fun g cs k x hk hx hc ex s' h=>aGR d L x _ g cs k hk hx (hC x (mem_of_getElem? hx)) hl hc ex s' ⟨az6 x▸az7 cs (fdV x) 3,by
   unfold rnT at h;rw[<- o9,az6,yD]at h;exact h⟩) _ 1 0 rfl zO
  rw[show(d.fs.take 1).map fdV=[fdV d.fs[0]] by rw[take_add_one,yA bg];rfl]at h;have h2:=aFi d L d.fs[0] _ zO (yA bg) (hC _ (y03 bg)) hl _ _ (by have k:=h.acz (aII (f:=jB d.fs[0]) (V:=fdV d.fs[0]));rw[az6]at k;exact k);generalize d.fs.map fdV=cs at h2 |-;have h3:=bN.aBB (t:=6) (x:=.aU 2 g' 0 cs.length) (y:=.sl 4 false (iB cs)) (z:=iB cs) (H1:=[rnB d,.aH,.aN g' 4 true (iB cs)]) (ps:=[g'=g',((iB cs).drop 0).take cs.length=iB cs,(iB cs).length=cs.length,∀c∈iB cs,c.all AV.fJ=true]) h2 rfl rfl ⟨rfl,yU.aa7 cs,fA cs,yU.WV cs,yO⟩;exact h3.cut 1 (fun _ e=>by cases e) (s2:={ aL:=aC 74 [(4,.sl 4 false L),(6,.sl 4 false (iB cs))],H:=[rnB d] }) (ps:=[]) rfl trivial
theorem aBW(ha:avT d)(dm:Dim d)(h5:d.sn.length<=500000/\d.fs.length<=500000)(hs:∀f∈d.fs,f.ce.length<=500000/\f.bi.length<=500000/\f.ta.length<=500000/\f.tc.length<=500000/\f.tm.length<=500000)(hl:F9 d=0->(gT (awo d)).length<=10000000) :
 Cq 22 [kI d] (if F9 d=0 then .bq [Cy (gT (awo d)),int 0]else .bq [aK,int 180]):=by
 have hK:=aCi d dm;by_cases h:F9 d=0
 .rw [yL h];rw[h]at hK;have hE:=yU.aCd (awo d) (aBA ha) (by have:=aBn d;omega) fun _=>hl h;rw[aAU,aAD]at hE;exact aGT d (d.sn.map dtV) (d.fs.map fdV) _ 0 hK (aIH d zO) (aIJ d _ zO fun f hf=>aFf f (dm.len f hf) (asQ ((arD.1 h).2.1 f hf)) (hs f hf)) hE trivial
 .rw [yK h];exact aGS d _ h hK trivial
theorem aEF(b:List UInt8)(hl:b.length<=10000000)(hq:adl b=0->Sh 6 (aaw b)/\Dim (CS (aaw b))/\((CS (aaw b)).sn.length<=500000/\(CS (aaw b)).fs.length<=500000)/\(∀f∈(CS (aaw b)).fs,f.ce.length<=500000/\f.bi.length<=500000/\f.ta.length<=500000/\f.tc.length<=500000/\f.tm.length<=500000)/\(F9 (CS (aaw b))=0->(gT (awo (CS (aaw b)))).length<=10000000)):Cq 24 [Cy b] (if aAw b then .bq [kI (CS (aaw b)),int 0]else .bq [Rf,int (if adl b=0 then 180 else adl b)]):=by
 have hC:=yU.aCh b hl;by_cases h:adl b=0
 .rw [h]at hC;obtain⟨w,dpv,ov,en⟩:=yU.axf zO h;obtain⟨sh,dm,n1,hs,hx⟩:=hq h;have hE:=aBW (aBp ov) dm n1 hs hx;have s0:=aw5 sh 0;have s1:=aw5 sh 1;have h1:=aAx (CF sh) 0;have h2:=aAx (CF sh) 1;have hA:=aHG b (aaw b) (nth (aaw b) 0) ⟨s0.1,fun x hx=>⟨(s0.2 x hx).1,fun _ _=>trivial⟩⟩;have hB:=aHH b (aaw b) (nth (aaw b) 0) (nth (aaw b) 1) (CS (aaw b)).sn s1;by_cases k:F9 (CS (aaw b))=0
  .rw [yL k]at hE;by_cases q:gT (awo (CS (aaw b)))=b
   .rw [yL ⟨h,k,q⟩];exact aEP _ b _ _ _ _ (CS (aaw b)) hC h1 hA h2 hB hE ⟨fun _=>y29,fun z=>by rw[aCS,y15 q]at z;cases z⟩
   .rw [yK fun z=>q z.2.2,yL h];exact aEP _ b _ _ _ _ (CS (aaw b)) hC h1 hA h2 hB hE ⟨fun z=>absurd z (by rw[aCS,y16 q];decide),fun _=>y29⟩
  .rw [yK k]at hE;rw[yK fun z=>k z.2.1,yL h];exact aHC b [] _ _ _ (CS (aaw b)) 180 zD hC h1 hA h2 hB (hE.out (aF.U1 (aF.nil 1) (y29))) trivial
 .rw [yK fun z=>h z.1,yK h];exact aHB b _ _ h hC trivial
theorem aEG(b:List UInt8)(hl:b.length<=20000):Cq 24 [Cy b] (if aAw b then .bq [kI (CS (aaw b)),int 0]else .bq [Rf,int (if adl b=0 then 180 else adl b)]):=aEF b zO fun h=>by
 obtain⟨w,dpv,ov,en⟩:=yU.axf zO h;have le:(gT (aaw b)).length<=20000:=by rw[en];exact hl
 obtain⟨dm,⟨n1,n2⟩,hs⟩:=aFk w ov le;exact⟨aCL 6 w zO,dm,⟨zO,zO⟩,fun f hf=>by obtain⟨b1,b2,b3,b4,b5⟩:=hs f hf;exact⟨zO,zO,zO,zO,zO⟩,fun _=>by have:=aG6 w;omega⟩
end Go.Dc
namespace Go.Dc
open Go Go.Am Go.Proofs Go.eY Go.bH
theorem acU(a:List TL)(hv:a.length<=1000000000):∀n k,a.length-k=n->k<=a.length->bN P G none 0 (vg P 100 0) (ta0 a k) (.exit 0) { aL:=aC 26 [(4,Am.bool false)],H:=[] }:=by
 intro n
 induction n with
 |zero=>exact fun k h1 h2=>an8 a k zO trivial
 |succ n ih =>
  intro k h1 h2;exact an7 a k a[k] hv zO (yA zO) _ _ ⟨fun _=>ih (k+1) zO zO,fun h=>by simp[Sq.tN]at h⟩
theorem acV(a:List Sq.CE)(hv:a.length<=1000000000):∀n k,a.length-k=n->k<=a.length->bN P G none 0 (vg P 200 0) (sc0 a k) (.exit 0) { aL:=aC 26 [(4,Am.bool false)],H:=[] }:=by
 intro n
 induction n with
 |zero=>exact fun k h1 h2=>aob a k zO trivial
 |succ n ih =>
  intro k h1 h2;exact aoa a k a[k] hv zO (yA zO) _ _ ⟨fun _=>ih (k+1) zO zO,fun h=>by simp[Sq.tN]at h⟩
theorem acW(t:Tx.TE)(hv:t.bQ.length<=1000000000):∀n k,t.bQ.length-k=n->k<=t.bQ.length->bN P G none 0 (vg P 101 0) (sx0 t k) (.exit 0) { aL:=aC 39 [(4,Am.bool false)],H:=sxB t }:=by
 intro n
 induction n with
 |zero=>exact fun k h1 h2=>aoe t k zO trivial
 |succ n ih =>
  intro k h1 h2;exact aod t k t.bQ[k] hv zO (yA zO) _ _ ⟨fun _=>ih (k+1) zO zO,fun h=>by simp[Sq.tN]at h⟩
theorem aok(f:FD)(h:XW f):ak P G 30 [.agg (jB f),.agg (jB f)] [] (.ret (Am.bool true)) []:=by
 obtain⟨h1,h2,h3,h4,h5⟩:=h;have a:=Sq.up (Sq.Vi f.ce zO);have b:=Bd.C9 f.bi f.bi zO zO;rw[y15 rfl]at b;have c:=an9 f.ta (acU f.ta zO _ 0 rfl yN) trivial;have d:=aoc f.tc (acV f.tc zO _ 0 rfl yN) trivial;have e:=aof (Gb f) d (acW (Gb f) (by show f.tm.length<=_;omega) _ 0 rfl yN) trivial;exact aog f a b c e true ⟨fun _=>rfl,fun h=>by simp[Sq.tN]at h⟩
theorem ZY(d:DO)(h:Dim d):ak P G 14 [kI d,kI d] [] (.ret (Am.bool true)) []:=by
 have hl:=h.fs;have hn:=h.sn;have lp:∀n k,d.fs.length-k=n->k<=d.fs.length->bN P G none 0 (vg P 14 0) (sd0 d k) (.exit 0) { aL:=aC 40 [(4,Am.bool false)],H:=sdB d }:=by
  intro n
  induction n with
  |zero=>exact fun k h1 h2=>aoi d k zO trivial
  |succ n ih =>
   intro k h1 h2;have bg:k<d.fs.length:=zO
   exact aoh d k d.fs[k] zO zO (yA bg) (aok _ (h.len _ (y03 bg))) _ _ (ih (k+1) zO zO)
 have hs:=bH.zG d.sn d.sn zO;rw[y15 rfl]at hs;exact aoj d hs (lp _ 0 rfl yN) trivial
end Go.Dc
namespace Go.bH
open Go Go.Am Go.Proofs Go.eY
theorem aKi(f:Nat)(p q:Int)(A B:List D)(hy:∀A B,dY P G 0 [.agg [int p,int 0,int q]] (q0 f A B++[.box [int p,int 0,int q]]) true (q1 f A B 0 [(p,q)]))(hA:A.length<=1000)(hB:B.length<=1000)(h0:¬(A.length:Int)>0)(h1:(B.length:Int)>0)(hb:B[0]?=some (p,q))(ex:bF)(s':St)(h:Rq 5 293 0 (sM 91 [(0,.yl 0),(1,.ptr 1 0),(2,.ptr 2 0)] [lq,.box [bB A],.box [bB (List.drop 1 B)],.box [iL f],.box [.aU 7 0 0 1],.aH,.aH,.aN 0 2 false [[int p,int q]]]) ex s'):Rq 5 293 0 (PV f A B) ex s':=by
 have bS:=lU (ay A);have jw:=lU (ay B);have H6:(0:Int)<=(0:Int)/\(au B)[Int.toNat 0]?=some (aQ (p,q)):=(bG hb);exact aJ [kv 6 bS,kj ((A.length:Int)>0),kv 10 jw,ki ((B.length:Int)>0),kv 32 jw,kf (show((B.length:Int)==0)=false from(qF zO)),kv 36 bS,kf (show decide ((A.length:Int)>0)=false from((qF zO))),kY,kv 63 bS,kt (show((A.length:Int)==0)=true from(qT zO)),kO,ko (bC.elem (aQ (p,q))),ko (bC.elem (aQ (p,q))),kp H6,kp H6,kv 86 (show Am.aF (AV.sl 2 false (List.drop 1 (List.take (Int.toNat (↑(length (au B)):Int)) (au B)))) (AV.sl 2 false (au (List.drop 1 B)))from(aF.of_eq (by simp only[ay,iI,gF,y26,take_length]))),ko (bC.call [] (aS.ret (Am.bool true)) (q1 f A (List.drop 1 B) 0 [(p,q)])),Ga (1:Int) (↑(length (au B)):Int) (↑(length (au B)):Int) (by rw[ay];omega),kp (@hy (A) (List.drop 1 B)),kY] (aB 91 [0,1,2]) 8 h
theorem aKj(f:Nat)(p q r s:Int)(A B:List D)(hy:∀A B,dY P G 0 [.agg [int p,int q,int 0]] (q0 f A B++[.box [int p,int q,int 0]]) true (q1 f A B 0 [(p,q)]))(hA:A.length<=1000)(hB:B.length<=1000)(h0:(A.length:Int)>0)(ha:A[0]?=some (p,q))(h1:(B.length:Int)>0)(h1':¬(B.length:Int)=0)(hb:B[0]?=some (r,s))(h2:p<r)(ex:bF)(s':St)(h:Rq 5 293 0 (sM 91 [(0,.yl 0),(1,.ptr 1 0),(2,.ptr 2 0)] [lq,.box [bB (List.drop 1 A)],.box [bB B],.box [iL f],.box [.aU 7 0 0 1],.aH,.aH,.aN 0 2 false [[int p,int q]]]) ex s'):Rq 5 293 0 (PV f A B) ex s':=by
 have bS:=lU (ay A);have qj:(0:Int)<=(0:Int)/\(au A)[Int.toNat 0]?=some (aQ (p,q)):=(bG ha);exact aJ [kv 6 bS,ki ((A.length:Int)>0),kO,kN 32 (ay B),kf (show((B.length:Int)==0)=false from(qF zO)),kv 36 bS,kt (show decide ((A.length:Int)>0)=true from((qT zO))),ko (bC.elem (aQ (p,q))),ko (bC.elem (aQ (r,s))),kp qj,kp (show(0:Int)<=(0:Int)/\(au B)[Int.toNat 0]?=some (aQ (r,s))from(bG hb)),ki (p<r),ko (bC.elem (aQ (p,q))),ko (bC.elem (aQ (p,q))),kp qj,kp qj,kv 60 (show Am.aF (AV.sl 2 false (List.drop 1 (List.take (Int.toNat (↑(length (au A)):Int)) (au A)))) (AV.sl 2 false (au (List.drop 1 A)))from(aF.of_eq (by simp only[ay,iI,gF,y26,take_length]))),ko (bC.call [] (aS.ret (Am.bool true)) (q1 f (List.drop 1 A) B 0 [(p,q)])),Ga (1:Int) (↑(length (au A)):Int) (↑(length (au A)):Int) (by rw[ay];omega),kp (@hy (List.drop 1 A) (B)),kY] (aB 91 [0,1,2]) 8 h
theorem aKk(f:Nat)(p q:Int)(A B:List D)(g:Nat)(v:List D)(hv:v.length<=1000)(hy:∀A B,dY P G 0 [.agg [int p,int 0,int q]] (q1 f A B g v++[.box [int p,int 0,int q]]) true (q1 f A B (g+1) (v++[(p,q)])++[.box [int p,int 0,int q]]))(hA:A.length<=1000)(hB:B.length<=1000)(h0:¬(A.length:Int)>0)(h1:(B.length:Int)>0)(hb:B[0]?=some (p,q))(ex:bF)(s':St)(h:Rq 5 293 0 (sM 91 [(0,.yl 0),(1,.ptr 1 0),(2,.ptr 2 0)] [lq,.box [bB A],.box [bB (List.drop 1 B)],.box [iL f],.box [.aU 7 (g+1) 0 (length (v++[(p,q)]))],.aH,.aH,.aN (g+1) 2 false (au (v++[(p,q)]))]) ex s'):Rq 5 293 0 (K8 f A B g v) ex s':=by
 have bS:=lU (ay A);have jw:=lU (ay B);have H6:(0:Int)<=(0:Int)/\(au B)[Int.toNat 0]?=some (aQ (p,q)):=(bG hb);exact aJ [kv 6 bS,kj ((A.length:Int)>0),kv 10 jw,ki ((B.length:Int)>0),kv 32 jw,kf (show((B.length:Int)==0)=false from(qF zO)),kv 36 bS,kf (show decide ((A.length:Int)>0)=false from((qF zO))),kY,kv 63 bS,kt (show((A.length:Int)==0)=true from(qT zO)),kO,ko (bC.elem (aQ (p,q))),ko (bC.elem (aQ (p,q))),kp H6,kp H6,kv 86 (show Am.aF (AV.sl 2 false (List.drop 1 (List.take (Int.toNat (↑(length (au B)):Int)) (au B)))) (AV.sl 2 false (au (List.drop 1 B)))from(aF.of_eq (by simp only[ay,iI,gF,y26,take_length]))),ko (bC.call [] (aS.ret (Am.bool true)) (q1 f A (List.drop 1 B) (g+1) (v++[(p,q)])++[ah.box [int p,int 0,int q]])),Ga (1:Int) (↑(length (au B)):Int) (↑(length (au B)):Int) (by rw[ay];omega),kp (@hy (A) (List.drop 1 B)),kY,kp (show ∀(x:List AV),x∈au (v++[(p,q)])->AV.aM [] x=true from(bJ _))] (aB 91 [0,1,2]) 8 h
theorem aIK(f:Nat)(A B:List D)(g:Nat)(v:List D)(h0:¬(A.length:Int)>0)(h1:¬(B.length:Int)>0)(ex:bF)(s':St)(h:(bF.exit 0=ex)/\(sM 91 [] [lq,.box [bB A],.box [bB B],.box [iL f],.box [.aU 7 g 0 v.length],.aH,.aH,.aN g 2 false (au v)]=s')):Rq 5 293 0 (K8 f A B g v) ex s':=by
 obtain⟨eX,eS⟩:=h;exact bN.to ((show Rq 5 293 0 (K8 f A B g v) (bF.exit 0) (sM 91 [] [lq,.box [.sl 2 false (au A)],.box [.sl 2 false (au B)],.box [iL f],.box [.aU 7 g 0 v.length],.aH,.aH,.aN g 2 false (au v)])from aG [kN 6 (ay A),kj ((A.length:Int)>0),kN 10 (ay B),kj ((B.length:Int)>0)] (aB 91 []) 8)) eX (eB.of_eq eS)
theorem aIL(a b t:List D)(g:Nat)(hL:Rq 5 293 0 (PV 410 a b) (.exit 0) { aL:=aC 91 [],H:=q1 410 [] [] g t })(h:True):ak P G 293 [.yl 0,.ptr 1 0,.ptr 2 0] (q0 410 a b) (aS.ret (AV.bq [])) (q1 410 [] [] g t):=by
 have _:=h;exact aj [kl (rG [(3,88)]) 5 hL]
theorem aIM(a b t:List D)(g:Nat)(hC:Cq 265 [bB a,bB b] (int 0))(hp:ak P G 293 [.yl 0,.ptr 1 0,.ptr 2 0] (q0 410 a b) (.ret (.bq [])) (q1 410 [] [] g t))(h:True):Cq 199 [.agg [rl 410],bB a,bB b] (.bq [bB t,int 0]):=by
 have _:=h;exact aj [kc [] hC,kY,kc [] (@ac7 (a) (b)),ko (bC.range [0,1,2,4,5,7,8,9,10,11,12,13,14,15,16,17,18,19,20,21,22,23,24,25,26,27,28,29,30,31,32,33,34] 0 none bF.normal [] []),kc [5,2,3,0,1] hp,ko (bC.fz (some 34) (au t)),kp (bJ t),kq g,kp (show List.take t.length (List.drop 0 (au t))=au t from(dW _)),kp (ay t),kp (bK t)]
theorem aFZ(a b t:List D)(e:Int)(hm:Cq 199 [.agg [rl 410],bB a,bB b] (.bq [bB t,int e]))(h:True):Cq 97 [bB a,bB b] (.bq [bB t,int e]):=by
 have _:=h;exact aj [kc [] hm]
theorem aF0(a t:List D)(x y e:Int)(hj:Cq 97 [bB a,bB [(x,y)]] (.bq [bB t,int e]))(h:True):Cq 28 [bB a,eG (x,y)] (.bq [bB t,int e]):=by
 have _:=h;exact aj [kc [] (show Cq 97 [.sl 2 false (au a),.sl 2 true [[int x,int y]]] (.bq [.sl 2 false (au t),int e])from(ak.qp hj ⟨y29,aF.oP _ _ _,yO⟩))]
variable {x y:Int}
theorem aKl(hy:y>0)(A B:List D):dY P G 0 [.agg [int x,int 0,int y]] (q0 410 A B++[.box [int x,int 0,int y]]) true (q1 410 A B 0 [(x,y)]):=by
 have h:=gy0 A B x 0 y;unfold Y0 at h;rw[show fu 0 y=y from yL hy,yL hy]at h;exact h
theorem aBX(h:gQ (x,y)=true):Cq 28 [bB [],eG (x,y)] (.bq [bB [(x,y)],int 0]):=by
 have hy:y>0:=by simp only[gQ,y04,y05]at h;omega
 have hC:=PX [] [(x,y)] zS zS;rw[show fM [] [(x,y)]=0 by unfold fM eZ Cw;simp[y9,jh,h]]at hC;exact aF0 [] _ x y 0 (aFZ _ _ _ 0 (aIM [] [(x,y)] _ 0 hC (aIL [] [(x,y)] _ 0 (aKi 410 x y [] [(x,y)] (aKl hy) zS zS zS zS rfl _ _ (aIK 410 [] [] 0 [(x,y)] zS zS _ _ ⟨rfl,rfl⟩)) yO) yO) yO) trivial
theorem aEH{p q:Int}(h1:gQ (p,q)=true)(h2:gQ (x,y)=true)(hl:p<x):Cq 28 [bB [(p,q)],eG (x,y)] (.bq [bB [(p,q),(x,y)],int 0]):=by
 have hq:q>0:=by simp only[gQ,y04,y05]at h1;omega
 have hy:y>0:=by simp only[gQ,y04,y05]at h2;omega
 have hC:=PX [(p,q)] [(x,y)] zS zS;rw[show fM [(p,q)] [(x,y)]=0 by unfold fM eZ Cw;simp[y9,jh,h1,h2]]at hC;have g0:∀A B,dY P G 0 [.agg [int p,int q,int 0]] (q0 410 A B++[.box [int p,int q,int 0]]) true (q1 410 A B 0 [(p,q)]):=fun A B=>by
  have h:=gy0 A B p q 0;unfold Y0 at h;rw[show fu q 0=q from yK zO,yL hq]at h;exact h
 have g1:∀A B,dY P G 0 [.agg [int x,int 0,int y]] (q1 410 A B 0 [(p,q)]++[.box [int x,int 0,int y]]) true (q1 410 A B (0+1) ([(p,q)]++[(x,y)])++[.box [int x,int 0,int y]]):=fun A B=>by
  have h:=gy1 A B [(p,q)] 0 x 0 y zS;unfold Y1 at h;rw[show fu 0 y=y from yL hy,yL hy]at h;exact h
 exact aF0 [(p,q)] _ x y 0 (aFZ _ _ _ 0 (aIM [(p,q)] [(x,y)] _ 1 hC (aIL [(p,q)] [(x,y)] _ 1 (aKj 410 p q x y [(p,q)] [(x,y)] g0 zS zS zS rfl zS zS rfl hl _ _ (aKk 410 x y [] [(x,y)] 0 [(p,q)] zS g1 zS zS zS zS rfl _ _ (aIK 410 [] [] 1 [(p,q),(x,y)] zS zS _ _ ⟨rfl,rfl⟩))) yO) yO) yO) trivial
theorem aEI(h:gQ (x,y)=false):Cq 28 [bB [],eG (x,y)] (.bq [bB [],int 120]):=by
 have e:fM [] [(x,y)]=120:=by unfold fM eZ Cw;simp[y9,jh,h]
 have k:=alq 410 [] [(x,y)] zS zS (by rw[e];decide);rw[e]at k;exact aF0 [] _ x y 120 (aFZ _ _ _ 120 k yO) trivial
end Go.bH
namespace Go.bV
open Go Go.Am Go.Proofs Go.eY Go.bH
theorem aDq(o:OP)(hn:Okn o)(hk:gQ (o.dv,o.sq)=true->o.kd=1\/o.kd=2):Cq 25 [op o] (int (lM o)):=by
 by_cases hd:gQ (o.dv,o.sq)=true
 .have hw:Cq 28 [aK,eG (o.dv,o.sq)] (.bq [bB [(o.dv,o.sq)],int 0]):=ak.qp (aBX hd) ⟨aF.nil 2,y29,yO⟩;by_cases t1:o.tm<1
  .exact K9 o (by simp only[rM,qW];simp[show ¬o.tm>=1 by omega]) (aoS o _ hw t1 yO)
  by_cases t2:1099511627776<o.tm
  .exact K9 o (by simp only[rM,qW];simp[show ¬o.tm<=1099511627776 by omega]) (aoT o _ hw zO t2 yO)
  have hv:=bH.fG o.cx hn.cx;by_cases dK:Cw o.cx=true
  .have e0:eZ o.cx=0:=by unfold eZ;rw[yL dK]
   rw[e0]at hv;have Xq:=jX o.cx o.dv o.sq hn.cx;cases hcb:cZ o.cx (o.dv,o.sq)with
   |true =>
    rw[hcb]at Xq;exact K9 o (by simp only[rM,qW];simp[hcb]) (jg o _ hw zO zO hv Xq yO)
   |false =>
    rw[hcb]at Xq;have hs:qW o=true:=by simp only[qW];simp[hd,dK,hcb];omega
    rcases hk hd with h|h
    .exact zY o 1 _ rfl h hs zD zD fun v q=>PZ zD kg1 o _ _ v hn.cx hw zO zO hv Xq (aoW { o with kd:=1 } hn.cx) (ac8 o yO) (nO o 1) q
    .exact zY o 2 _ rfl h hs zD zD fun v q=>PZ zD kg2 o _ _ v hn.cx hw zO zO hv Xq (aoX { o with kd:=2 } hn.cx) (ac9 o yO) (nO o 2) q
  .have e0:¬eZ o.cx=0:=by unfold eZ;rw[yK dK];decide
   exact K9 o (by simp only[rM,qW];simp[dK]) (F9 o _ _ hw zO zO hv e0 yO)
 .have hw:Cq 28 [aK,eG (o.dv,o.sq)] (.bq [bB [],int 120]):=ak.qp (aEI (Bool.eq_false_iff.2 hd)) ⟨aF.nil 2,y29,yO⟩;exact K9 o (by simp only[rM,qW];simp[hd]) (aoR o _ 120 hw zD yO)
end Go.bV
namespace Go.Dc
open Go Go.Am Go.Proofs Go.eY Go.bH
open Go.bV (OP op jy Sv Fw Okn)
open Go.yU (CV rR Cy val QG av7 jg)
def efP(o:OP):FD->FD:=if o.kd=1 then ef1 o else ef2 o
def aKr(d:DO)(v:List D)(o:OP):DO:=⟨v,d.fs++[efP o (Fx o)]⟩
theorem aF1(l:List FD)(g:Nat)(o:OP)(hl:l.length<=1000000):ak P G 46 [.aU 0 g 0 l.length,int l.length,.sl 7 true [[int o.pk,str o.pn,aK,aK,aK,aK,aK]]] [.aN g 7 false (dA l)] (.ret (.aU 0 (g+1) 0 (l++[Fx o]).length)) [.aN (g+1) 7 false (dA (l++[Fx o]))] :=
 ak.qp (anI l g (Fx o) hl _ _ ⟨rfl,rfl⟩) ⟨y29,y29,Zi o,yO⟩
variable {v:List D}{o:OP}{d:DO}
theorem aBY{F:Nat}(K:Yv F)(f:Fit d o v)(hd:Dim d)(hs:Rc (cO o) d.fs)(hp:rV (cO o) d.fs=d.fs.length)(hM:mgA o F)(ef:FD->FD)(hE:EfC F o ef (Fx o)):ak P G 12 [kI d,op o] [] (.ret (.bq [kI ⟨v,d.fs++[ef (Fx o)]⟩,int 0])) []:=by
 by_cases h0:d.fs=[]
 .rw [h0];obtain⟨e1,h1⟩:=hE [Fx o] 0 0 zS rfl;exact K.z d o v [Fx o] _ e1 f rfl rfl (Zk d o v h0) (amZ o.pk o.pn) (aga o) hM h1
 .obtain ⟨g,hL⟩:=acE d o v f.len (fun x hx=>XY x (hd.len x hx)) h0;have hB:=wX d.fs g o.pk o.pn (cO o) (by have:=f.len;omega) hs fun x=>amY x o.pk o.pn;rw[hp,getElem?_eq_none yM]at hB;have hg:(d.fs++[Fx o])[d.fs.length]'zS=Fx o:=zS
  obtain⟨e1,h1⟩:=hE (d.fs++[Fx o]) (g+1) d.fs.length zS hg;rw[hg,set_append_right _ _ yM,Nat.sub_self]at h1;exact K.c d o v d.fs _ _ g d.fs.length e1 f zS zS f.len (by have:=f.len;simp;omega) hL hB (aF1 d.fs g o f.len) hM (by rw[y09];exact h1)
theorem aDr(hd:Dim d)(hn:Okn o)(ho:Fw o)(hc:o.cx.length<=1000000)(hk:o.kd=1\/o.kd=2)(hp:rV (cO o) d.fs=d.fs.length)(hW:ak P G 28 [bB d.sn,eG (o.dv,o.sq)] [] (.ret (.bq [bB v,int 0])) [])(h:EF d o=0) :
 ak P G 12 [kI d,op o] [] (.ret (.bq [kI (aKr d v o),int 0])) []:=by
 have hK:=fG d hd;have hO:=bV.aDq o hn fun _=>hk;have hV:=bH.jX d.sn o.dv o.sq (by have:=hd.sn;omega);have hA:=bH.acj d.sn o.dv (by have:=hd.sn;omega);have hF:=aee o.cx d hc (by have:=hd.sn;omega);unfold EF at h;by_cases h1:F9 d=0
 .rw [yL h1]at h;rw[h1]at hK;by_cases h2:bV.lM o=0
  .rw [yL h2]at h;rw[h2]at hO;by_cases h3:cZ d.sn (o.dv,o.sq)=true
   .rw [yL h3]at h;exact absurd h zD
   .rw [yK h3]at h;rw[Bool.eq_false_iff.2 h3]at hV;by_cases h4:gI o.dv d.sn=o.sq-1
    .rw [yL h4]at h;rw[h4]at hA;by_cases h5:(o.cx.any fun x=>!cZ d.sn x)=true
     .rw [yL h5]at h;exact absurd h zD
     .rw [Bool.eq_false_iff.2 h5]at hF;have hq:=Ih h2;have hr:=(TQ hq.1).2;have f:Fit d o v:=⟨hr.1,hr.2,hd.fs,hK,hO,hV,hA,hF,hW⟩;have hg:∀{F:Nat}{k:Int},o.kd=k->bT P 3 oK (.int .i64 k) zE (.agg [gP F]) true->mgA o F:=fun e h=>by unfold mgA;rw[e];exact h
      unfold aKr;rcases hk with e|e
      .rw [show efP o=ef1 o by simp[efP,e]];exact aBY am0 f hd (Yz o (TP h1).2) hp (hg e eg1) (ef1 o) (aiU ho yN (Yx o).ce)
      .rw [show efP o=ef2 o by simp[efP,e]];exact aBY am1 f hd (Yz o (TP h1).2) hp (hg e eg2) (ef2 o) (aiW yN (Yx o).ce)
    .rw [yK h4]at h;exact absurd h zD
  .rw [yK h2]at h;exact absurd h h2
 .rw [yK h1]at h;exact absurd h h1
theorem aAO{e:Int}(hd:Dim d)(ho:Fw o)(hc:o.cx.length<=1)(hk:gQ (o.dv,o.sq)=true->o.kd=1\/o.kd=2)(h:EF d o=e)(he:e≠0):ak P G 12 [kI d,op o] [] (.ret (.bq [Rf,int e])) []:=by
 subst h;have hK:=fG d hd;have hO:=bV.aDq o (axW ho hc) hk;have hV:=bH.jX d.sn o.dv o.sq (by have:=hd.sn;omega);have hA:=bH.acj d.sn o.dv (by have:=hd.sn;omega);have hF:=aee o.cx d zO (by have:=hd.sn;omega);unfold EF at he |-;by_cases h1:F9 d=0
 .rw [yL h1]at he |-;rw[h1]at hK;by_cases h2:bV.lM o=0
  .rw [yL h2]at he |-;rw[h2]at hO;have hq:=(TQ (Ih h2).1).2;by_cases h3:cZ d.sn (o.dv,o.sq)=true
   .rw [yL h3];rw[h3]at hV;exact am8 d o hK hO hV _ rfl
   .rw [yK h3]at he |-;rw[Bool.eq_false_iff.2 h3]at hV;by_cases h4:gI o.dv d.sn=o.sq-1
    .rw [yL h4]at he |-;by_cases h5:(o.cx.any fun x=>!cZ d.sn x)=true
     .rw [yL h5];rw[h5]at hF;exact am9 d o _ hq.1 hq.2 h4 hK hO hV hA hF _ rfl
     .rw [yK h5]at he;exact absurd rfl he
    .rw [yK h4];exact ana d o _ hq.1 hq.2 h4 hK hO hV hA _ rfl
  .rw [yK h2];exact anb d o _ h2 hK hO trivial
 .rw [yK h1];exact anc d o _ h1 hK trivial
abbrev x1:DO:=aKr z0 [(1,1)] iOc
abbrev y1:DO:=aKr x1 [(1,1),(2,1)] erO
def cI:Sq.CE:=⟨1,1,0,0,0,0,1,⟨#[118]⟩,false⟩
theorem aIN:x1=⟨[(1,1)],[⟨1,⟨#[97]⟩,[cI],[],[],[],[]⟩]⟩:=zQ
theorem aIO:y1=⟨[(1,1),(2,1)],[⟨1,⟨#[97]⟩,[cI],[],[],[],[]⟩,⟨1,⟨#[98]⟩,[],[],[],[],[]⟩]⟩:=zQ
theorem aBZ(h1:d.sn.length<=2)(h2:d.fs.length<=2)(h:∀f∈d.fs,f.bi=[]/\f.ta=[]/\f.tc=[]/\f.tm=[]/\f.ce.length<=1/\Sq.kQ f.ce):Dim d:=by
 refine⟨zO,zO,fun f hf=>?_,fun f hf=>?_⟩
 .obtain ⟨a,b,c,e,g,_⟩:=h f hf;exact⟨zO,by rw[a];exact yN,by rw[b];exact yN,by rw[c];exact yN,by rw[e];exact yN⟩
 .obtain ⟨_,_,c,e,_,r⟩:=h f hf;rw[show f=⟨f.pk,f.pn,f.ce,f.bi,f.ta,f.tc,f.tm⟩from rfl,c,e];exact⟨r,⟨(fun _ h=>nomatch h),(fun _ h=>nomatch h)⟩,⟨yN,yN⟩⟩
theorem aIP:Sq.kQ [cI]:=fun x hx=>by
 rw[mem_singleton.1 hx];unfold Sq.Cu Sq.fO cI;simp only;omega
theorem aKm:Sq.kQ []:=fun _ h=>by cases h
theorem aBe:Dim z0:=aBZ yN yN fun _ h=>by cases h
theorem aE2:Dim b0:=aBZ zD yN fun _ h=>by cases h
theorem aBf:Dim x1:=by
 rw[aIN];exact aBZ zD zD fun f hf=>by rw[mem_singleton.1 hf];exact⟨rfl,rfl,rfl,rfl,yM,aIP⟩
theorem aIQ:Dim y1:=by
 rw[aIO];refine aBZ zD zD fun f hf=>?_;rcases yH.1 hf with rfl|hf
 .exact ⟨rfl,rfl,rfl,rfl,yM,aIP⟩
 .rw [mem_singleton.1 hf];exact⟨rfl,rfl,rfl,rfl,yN,aKm⟩
theorem aBx:ak P G 10 [] [] (.ret (Am.bool true)) []:=by
 have ez:EF x1 erO=0:=zQ
 have a1:=aDr aBe (axW aw8 yN) aw8 yN (.inl rfl) rfl (aBX rfl) ayQ;have a2:=aDr aBf (axW aw9 yM) aw9 zD (.inr rfl) zQ (aEH rfl rfl zD) ez;have a3:=aAO aBe aw9 yM (fun _=>.inr rfl) (show EF z0 erO=181 by kernel_rfl) zD;have a4:=aAO aBf aw8 yN (fun _=>.inl rfl) (show EF x1 iOc=182 by kernel_rfl) zD;have a5:=aAO aBe axa yN (fun h=>by cases h) (show EF z0 zoO=170 by kernel_rfl) zD;have a6:=aAO aE2 axa yN (fun h=>by cases h) (show EF b0 zoO=180 by kernel_rfl) zD;have k1:=fG z0 aBe;rw[show F9 z0=0 by kernel_rfl]at k1;have k2:=fG b0 aE2;rw[show F9 b0=180 by kernel_rfl]at k2;have ec:=Go.yU.awI e0V ayS zD (fun _=>zD);rw[show jg e0V=0 by kernel_rfl]at ec;have en:=azg z0 [] [] (av7 e0V) 0 k1 ((ayC yO).out lVS) ((ayD yO).out lVS) ec trivial;have rd:=apv z0 k1 (azh z0 zS yO) trivial;have ho:=bV.aDq zoO (axW axa yN) fun h=>by cases h
 rw[show bV.lM zoO=170 by kernel_rfl]at ho;have dc:=Go.yU.awU [] zD;rw[show Go.yU.adl []=10 by kernel_rfl]at dc;have de:=azi 10 zD [] _ dc trivial;have hs:=Go.yU.zG (lsV []) (.mk _ _ _ _ (i64 _ rfl) yN yN (fun _ h=>by cases h)) (lsV []);rw[show Go.yU.sm (lsV []) (lsV [])=true by kernel_rfl]at hs;have m1:=av3 x1 x1 aBf aBf;rw[y15 rfl]at m1;have m2:=av3 x1 y1 aBf aIQ;rw[show decide (x1=y1)=false by kernel_rfl]at m2;refine ayg x1 y1 (x1.fs.getD 0 (Fx iOc)) (Fx iOc) (y1.fs.getD 1 (Fx iOc)) zQ zQ zQ zQ zQ zQ zQ (av7 e0V) (ayF 1 1 1 _ _ yO) (I9 a1 at7 (y29)) (I9 a2 (y29) erS) (I9 a3 at7 erS) a4 (I9 a5 at7 zoS) ((PD rd at7).out (aF.U1 lVS (y29))) (PD en at7) (PD ec e0S) (PD de (aF.nil 1)) (I9 a6 baS zoS) (PD ho zoS) (I9 hs (y29) lVS) (PD k1 at7) (PD k2 baS) m1 m2 ⟨fun _=>trivial,fun h=>?_⟩;rw[beq_self_eq_true]at h;cases h
end Go.Dc
namespace Go.Dc
open Go Go.Am Go.Proofs Go.eY Go.bH
open Go.yU (CV rR val Cy iB fA gT aaw adl)
variable {d:DO}
theorem aEJ(ha:avT d)(hs:smD d=true):ak P G 22 [kI d] [] (.ret (.bq [Cy (enX d),int (F9 d)])) []:=by
 have k:=aES hs;have h:=aBW ha ((ayj ha hs).dim zO).1 k.1 k.2 (aBC hs);unfold enX;by_cases e:F9 d=0
 .rw [yL e]at h |-;rw[e];exact h
 .rw [yK e]at h |-;have e2:F9 d=180:=by unfold F9 at e |-;split;(rename_i q;rw[yL q]at e;exact absurd rfl e);rfl
  rw[e2];exact h.out (aF.U1 (aF.nil 1) (y29))
theorem aH9{b:List UInt8}(ha:avT d):ak P G 5 [kI d,Cy b] [] (.ret (Am.bool true)) []:=by
 have f1:=aHI d ha;cases e1:smD d with
 |false=>rw[e1]at f1;exact aIU d b aBx f1 trivial
 |true =>
 rw[e1]at f1;by_cases hl:b.length<=2000
 .have hE:=aFz ha e1;have hF:=aEJ ha e1;have hD:=aFm b zO;have hR:=aEG b zO;have er:(ByteArray.toList (ByteArray.mk (toArray (enX d)))==ByteArray.toList (ByteArray.mk (toArray (enX d))))=true:=by rw[aCS];exact y15 rfl
  have fin:∀(p:DO)(g:Int),Dim p->ak P G 23 [Cy b] [] (.ret (.bq [kI p,int g])) []->ak P G 24 [Cy b] [] (.ret (.bq [kI p,int g])) []->ak P G 5 [kI d,Cy b] [] (.ret (Am.bool true)) []:=fun p g dm h1 h2 =>
   aIW d p b _ _ g zO aBx f1 hE hF h1 h2 (ZY p dm) ⟨fun _=>beq_self_eq_true g,fun z=>by rw[er]at z;cases z⟩
  by_cases q:aAw b
  .rw [yL q]at hD hR;obtain⟨w,_,ov,en⟩:=yU.axf zO q.1;exact fin _ _ (aFk w ov (by rw[en];omega)).1 hD hR
  .rw [yK q]at hD hR;exact fin ⟨[],[]⟩ _ aBe (hD.out (aF.U1 at7 (y29))) (hR.out (aF.U1 at7 (y29)))
 .exact aIV d b zO aBx f1 trivial
end Go.Dc
