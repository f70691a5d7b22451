import Derived.Test.YtdacbkmlfcjcgaaGreatDoorZ3
set_option maxRecDepth 100000
set_option linter.unusedSimpArgs false
set_option linter.unusedVariables false
open List
noncomputable section
namespace Go.Proofs.YtdacbkmlfcjcgaaGreatDoor
open Go Go.Am Go.ChangeShapes Go.WideShapes Go.RowKit
def jf1(P:Program)(f:FuncId)(fn:Func)(s:ChangeSpec)(c:OpenClaim):Bool:=c.wf (OpenSpec.ofChange s)&&laidOutB P&&mapsRowed P
def jf2(P:Program)(f:FuncId)(fn:Func)(s:ChangeSpec)(c:OpenClaim):Bool:=fn.params.all (P.readableRec ·)&&namedTie P c.named s.vars&&(c.stops==[])&&(P.stops==[])&&(c.knobs==[])&&(P.stopKnobs==[])
def jf3(P:Program)(f:FuncId)(fn:Func)(s:ChangeSpec)(c:OpenClaim):Bool:=(c.inPlace==P.inPlace f)
def jf4(P:Program)(f:FuncId)(fn:Func)(s:ChangeSpec)(c:OpenClaim):Bool:=(c.unfollowed==P.unfollowed f)&&(c.recurses==P.recurses f)
def jf5(P:Program)(f:FuncId)(fn:Func)(s:ChangeSpec)(c:OpenClaim):Bool:=(c.named==P.varsNamed f)
def jf6(P:Program)(f:FuncId)(fn:Func)(s:ChangeSpec)(c:OpenClaim):Bool:=(c.maps==(fn.params.toList++s.plain.varTypes P).any (P.mapsRec ·))&&(c.ifaces==(fn.params.toList++s.plain.varTypes P).any (P.ifacesRec ·))&&(c.mapsOut==P.mapsAmong fn.resultTypes.toList)&&(c.loops==(fn.params.toList++s.plain.varTypes P).any (P.loopsFrom ·))&&(c.wideKeys==(fn.params.toList++s.plain.varTypes P++fn.resultTypes.toList).any (P.wideKeysFrom ·))&&s.vars.all (P.varReadable ·)&&fn.resultTypes.all (fun t=>P.readableRec t&&decide (t<P.types.size))&&(c.ifacesOut==fn.resultTypes.toList.any (P.ifacesRec ·))&&(c.loopsOut==fn.resultTypes.toList.any (P.loopsFrom ·))
def jf7(P:Program)(f:FuncId)(fn:Func)(s:ChangeSpec)(c:OpenClaim):Bool:=(c.plainKeys==P.plainKeys)&&c.shortTexts.isNone&&P.stopsHeard&&P.mayEnter
def jf8(P:Program)(f:FuncId)(fn:Func)(s:ChangeSpec)(c:OpenClaim):Bool:=(c.lifted==P.liftsFinal)
def jf9(P:Program)(f:FuncId)(fn:Func)(s:ChangeSpec)(c:OpenClaim):Bool:=(P.make==some c.make)
def agQ(P:Program)(f:FuncId)(fn:Func)(s:ChangeSpec)(c:OpenClaim):Bool:=(c.kinds==(if c.domain.isEmpty then[]else fn.params.toList.map fun t=>match P.underlying t with|some (.int k)=>some k|_=>none))&&(c.pinned==c.pinnedBy)
def agR(P:Program)(f:FuncId)(fn:Func)(s:ChangeSpec)(c:OpenClaim):Bool:=(c.veiled==(fn.params.toList++s.plain.varTypes P++fn.resultTypes.toList).any (P.veiledRec ·))&&c.veiledFits P fn.params.toList (fn.params.toList++s.plain.varTypes P++fn.resultTypes.toList)
theorem Wd{P:Program}{f:FuncId}{fn:Func}{s:ChangeSpec}{c:OpenClaim}(h1:jf1 P f fn s c=true)(h2:jf2 P f fn s c=true)(h3:jf3 P f fn s c=true)(h4:jf4 P f fn s c=true)(h5:jf5 P f fn s c=true)(h6:jf6 P f fn s c=true)(h7:jf7 P f fn s c=true)(h8:jf8 P f fn s c=true)(h9:jf9 P f fn s c=true)(h10:agQ P f fn s c=true)(h11:agR P f fn s c=true):joinedFacts P f fn s c=true:=by
 unfold joinedFacts;simp only[jf1,jf2,jf3,jf4,jf5,jf6,jf7,jf8,jf9,agQ,agR,Bool.and_eq_true]at h1 h2 h3 h4 h5 h6 h7 h8 h9 h10 h11 |-;simp_all only[and_self];exact⟨⟨⟨⟨yO,h10.1⟩,yO⟩,yO⟩,yO⟩
end Go.Proofs.YtdacbkmlfcjcgaaGreatDoor
namespace Go.bH
open Go Go.Am Go.Proofs Go.eY
abbrev D:=Int×Int
def aQ(d:D):List AV:=[int d.1,int d.2]
def au(v:List D):List (List AV):=v.map aQ
def bB(v:List D):AV:=.sl 2 false (au v)
def eG(d:D):AV:=.agg (aQ d)
theorem ay(v:List D):(au v).length=v.length:=by simp[au]
theorem sN(a b:Int):[[AV.lit (Value.int IntKind.i64 a),AV.lit (Value.int IntKind.i64 b)]]=au [(a,b)]:=rfl
theorem iI(v:List D)(n:Nat):List.drop n (au v)=au (v.drop n):=by simp[au]
theorem gF(v:List D)(n:Nat):List.take n (au v)=au (v.take n):=by simp[au]
theorem bK(v:List D):∀c∈au v,c.all AV.fJ=true:=by
 intro c hc;obtain⟨d,_,rfl⟩:=yG.1 hc;rfl
theorem bJ(v:List D):∀c∈au v,AV.aM [] c=true:=by
 intro c hc;obtain⟨d,_,rfl⟩:=yG.1 hc;rfl
theorem dW(v:List D):List.take v.length (List.drop 0 (au v))=au v:=by rw[<- ay v];simp
def LW(n:Int):List AV:=[int n]
def ql(l:List Int):List (List AV):=l.map LW
theorem kD(l:List Int):(ql l).length=l.length:=by simp[ql]
theorem gy(a b:List D):au a++au b=au (a++b):=by simp[au]
def gQ(d:D):Bool:=decide (d.1>=0)&&decide (d.1<512)&&decide (d.2>=1)&&decide (d.2<=1048576)
theorem adQ(a b:Int)(h:(((a>=0)->(((a<512)->(((b>=1)->(decide (b<=1048576))=(gQ (a,b)))/\((¬b>=1)->(false)=(gQ (a,b)))))/\((¬a<512)->(false)=(gQ (a,b)))))/\((¬a>=0)->(false)=(gQ (a,b))))):Cq 154 [eG (a,b)] (Am.bool (gQ (a,b))):=by
 by_cases c1:(a>=0)
 .have h:=h.1 c1;by_cases c2:(a<512)
  .have h:=h.1 c2;by_cases c3:(b>=1)
   .have h:=h.1 c3;exact aA (aF.aI h) [kt (qT c1),kt (qT c2),kt (qT c3)]
   .have h:=h.2 c3;exact aA (aF.aI h) [kt (qT c1),kt (qT c2),kf (qF c3)]
  .have h:=h.2 c2;exact aA (aF.aI h) [kt (qT c1),kf (qF c2),kY]
 .have h:=h.2 c1;exact aA (aF.aI h) [kf (qF c1),kY,kY]
theorem adR(a b:Int):Cq 154 [eG (a,b)] (bool (gQ (a,b))):=adQ a b (by
 simp only[gQ];refine⟨fun h=>⟨fun h=>⟨fun h=>?_,fun h=>?_⟩,fun h=>?_⟩,fun h=>?_⟩<;>simp[*])
def jh(v:List D)(k:Nat):Bool:=match v[k]? with
 |some x=>gQ x&&(k==0||match v[k-1]? with|some y=>decide (y.1<x.1)|none=>false)
 |none=>true
def y9(v:List D):Nat->Nat->Bool
 |0,_=>true
 |n+1,k=>jh v k&&y9 v n (k+1)
def Cw(v:List D):Bool:=y9 v v.length 0
def eZ(v:List D):Int:=if Cw v=true then 0 else 120
def Ll(v:List D)(k:Nat):St:={ aL:=aC 31 [(0,bB v),(2,int 0),(5,bB v),(6,int v.length),(7,int k)],H:=[] }
theorem ae3(v:List D)(k:Nat)(hv:v.length<=1000000000)(ex:bF)(r:Int)(h:((((k:Int)<(v.length:Int))->(∃x2:D,(v[k]?=some x2)/\((((gQ (x2.1,x2.2))=true)->((((k:Int)>0)->(∃x6:D,((0:Int)<=(k:Int)-1/\v[Int.toNat ((k:Int)-1)]?=some x6)/\(((x2.1<=x6.1)->(bF.ret=ex)/\(120=r))/\((¬x2.1<=x6.1)->Rq 0 61 0 (sM 31 [(0,bB v),(2,int 0),(5,bB v),(6,int ↑v.length),(7,int ↑(k+1))] []) ex (sM 31 [(2,int r)] [])))))/\((¬(k:Int)>0)->Rq 0 61 0 (sM 31 [(0,bB v),(2,int 0),(5,bB v),(6,int ↑v.length),(7,int ↑(k+1))] []) ex (sM 31 [(2,int r)] []))))/\(((gQ (x2.1,x2.2))=false)->(bF.ret=ex)/\(120=r)))))/\((¬(k:Int)<(v.length:Int))->(bF.exit 0=ex)/\(0=r)))):Rq 0 61 0 (Ll v k) ex (sM 31 [(2,int r)] []):=by
 by_cases c1:((k:Int)<(v.length:Int))
 .have h:=h.1 c1;obtain⟨x2,o3,h⟩:=h;have fT:=(@adR x2.1 x2.2);let l1:List fP:=[kt (qT c1),ke (aQ x2) (au v) k (bG o3),kc [] fT];rcases Bool.eq_false_or_eq_true ((gQ (x2.1,x2.2)))with c4|c4
  .have h:=h.1 c4;have jw:=(yJ Bool.not (c4));by_cases c5:((k:Int)>0)
   .have h:=h.1 c5;obtain⟨x6,o7,h⟩:=h;let l2:List fP:=l1++[kf jw,kt (qT c5),kW 23 ((k:Int)-1) ((k:Int)-1),ko (bC.elem (aQ x6)),kp (show(0:Int)<=(k:Int)-1/\(au v)[Int.toNat ((k:Int)-1)]?=some (aQ x6)from(qU o7))];by_cases c8:(x2.1<=x6.1)
    .have h:=h.1 c8;obtain⟨eX,e1⟩:=h;exact bN.to ((show Rq 0 61 0 (Ll v k) bF.ret (sM 31 [(2,int 120)] [])from aG (l2++[kt (qT c8)]) (aB 31 [2]) 0)) eX (eB.aC ⟨rfl,(aF.int_eq e1),yO⟩)
    .have h:=h.2 c8;exact aJ (l2++[kf (qF c8),kW 30 (k+1) ↑(k+1)]) (aB 31 [0,2,5,6,7]) 0 h
   .have h:=h.2 c5;exact aJ (l1++[kf jw,kf (qF c5),kY,kW 30 (k+1) ↑(k+1)]) (aB 31 [0,2,5,6,7]) 0 h
  .have h:=h.2 c4;obtain⟨eX,e1⟩:=h;exact bN.to ((show Rq 0 61 0 (Ll v k) bF.ret (sM 31 [(2,int 120)] [])from aG (l1++[kt (show(!gQ (x2.1,x2.2))=true from(yJ Bool.not (c4))),kO]) (aB 31 [2]) 0)) eX (eB.aC ⟨rfl,(aF.int_eq e1),yO⟩)
 .have h:=h.2 c1;obtain⟨eX,e1⟩:=h;exact bN.to ((show Rq 0 61 0 (Ll v k) (bF.exit 0) (sM 31 [(2,int 0)] [])from aG [kf (qF c1)] (aB 31 [2]) 0)) eX (eB.aC ⟨rfl,(aF.int_eq e1),yO⟩)
theorem aa3(v:List D)(hv:v.length<=1000000000):∀n k,v.length-k=n->k<=v.length ->
 Rq 0 61 0 (Ll v k) (if y9 v n k=true then .exit 0 else .ret) { aL:=aC 31 [(2,int (if y9 v n k=true then 0 else 120))],H:=[] }:=by
 intro n
 induction n with
 |zero=>intro k hn hk;exact ae3 v k hv _ _ ⟨fun h=>absurd h zO,fun _=>⟨rfl,rfl⟩⟩
 |succ n ih =>
  intro k hn hk;have bg:k<v.length:=zO
  have hx:=yA bg;have nx:∀{b:Bool},jh v k=true->y9 v (n+1) k=y9 v n (k+1):=fun h=>by simp[y9,h]
  have bad:jh v k=false->y9 v (n+1) k=false:=fun h=>by simp[y9,h]
  refine ae3 v k hv _ _ ⟨fun h=>⟨v[k],hx,⟨fun hq=>⟨fun h0=>?_,fun h0=>?_⟩,fun hq=>?_⟩⟩,fun h=>absurd bg zO⟩
  .have hy:v[k-1]?=some (v[k-1]'zO):=yA zO;refine⟨v[k-1]'zO,⟨zO,by rw[show((k:Int)-1).toNat=k-1 by omega];exact hy⟩,⟨fun hl=>?_,fun hl=>?_⟩⟩
   .have hb:jh v k=false:=by simp only[jh,hx,hy];simp;exact fun _=>⟨zO,zO⟩
    rw[bad hb];exact⟨rfl,rfl⟩
   .have hb:jh v k=true:=by simp only[jh,hx,hy,Bool.and_eq_true];exact⟨hq,by simp;exact .inr zO⟩
    rw[nx (b:=true) hb];exact ih (k+1) zO zO
  .have hb:jh v k=true:=by simp only[jh,hx,Bool.and_eq_true];exact⟨hq,by simp;exact .inl zO⟩
   rw[nx (b:=true) hb];exact ih (k+1) zO zO
  .have hb:jh v k=false:=by simp only[jh,hx];simp[hq]
   rw[bad hb];exact⟨rfl,rfl⟩
theorem HZ(v:List D)(hv:v.length<=1000000000):Rq 0 61 0 (Ll v 0) (if Cw v=true then .exit 0 else .ret) { aL:=aC 31 [(2,int (if Cw v=true then 0 else 120))],H:=[] } :=
 aa3 v hv v.length 0 zO zO
theorem NM(v:List D)(hv:v.length<=1000000000)(h:(((Cw v=true)->(0:Int)=(eZ v))/\((¬Cw v=true)->(120:Int)=(eZ v)))):Cq 61 [bB v] (int (eZ v)):=by
 have bS:=lU (ay v);by_cases c1:(Cw v=true)
 .have h:=h.1 c1;exact aA (aF.int_eq h) [kv 6 bS,kl (rG [(1,1),(3,2),(8,23)]) 0 (show Rq 0 61 0 (sM 31 [(0,.sl 2 false (au v)),(2,int 0),(5,.sl 2 false (au v)),(6,int ↑v.length),(7,int 0)] []) (bF.exit 0) (sM 31 [(2,int 0)] [])from(by have h0:=(@HZ (v) zO);simp only[yL c1]at h0;exact h0))]
 .have h:=h.2 c1;exact aA (aF.int_eq h) [kv 6 bS,kl (rG [(1,1),(3,2),(8,23)]) 0 (show Rq 0 61 0 (sM 31 [(0,.sl 2 false (au v)),(2,int 0),(5,.sl 2 false (au v)),(6,int ↑v.length),(7,int 0)] []) bF.ret (sM 31 [(2,int 120)] [])from(by have h0:=(@HZ (v) zO);simp only[yK c1]at h0;exact h0))]
theorem fG(v:List D)(hv:v.length<=1000000000):Cq 61 [bB v] (int (eZ v)):=NM v hv ⟨fun h=>by simp[eZ,h],fun h=>by simp[eZ,h]⟩
def Ep(dev:Int)(l:List D):Bool:=l.any fun d=>decide (d.1=dev)
def gI(dev:Int):List D->Int
 |[]=>0
 |d::t=>if d.1=dev then d.2 else gI dev t
theorem Lm(dev:Int)(d:D)(t:List D):Ep dev (d::t)=(decide (d.1=dev)||Ep dev t):=rfl
theorem alZ(a b dev:Int)(h:True):ak P G 96 [eG (a,b),.ptr 0 0] [ah.box [int dev]] (aS.ret (Am.bool (decide (a=dev)))) [ah.box [int dev]]:=by
 exact aj []
theorem al0(a b dev:Int):ak P G 96 [eG (a,b),.ptr 0 0] [.box [int dev]] (.ret (bool (decide (a=dev)))) [.box [int dev]]:=alZ a b dev trivial
def IX(v:List D)(dev:Int)(k:Nat):St:={ aL:=aC 19 [(0,bB v),(1,.fn (.func 96) [] [.ptr 0 0]),(4,int 0),(6,bB v),(7,int v.length),(8,int k)],H:=[.box [int dev]] }
theorem ZI(v:List D)(dev:Int)(k:Nat)(hv:v.length<=1000000000)(ex:bF)(r:Int)(h:((((k:Int)<(v.length:Int))->(∃x2:D,(v[k]?=some x2)/\(((x2.1=dev)->(bF.ret=ex)/\(((k:Int):Int)=(r)))/\((¬x2.1=dev)->Rq 1 95 0 (sM 19 [(0,bB v),(1,.fn (Fn.func 96) [] [.ptr 0 0]),(4,int 0),(6,bB v),(7,int ↑v.length),(8,int ↑(k+1))] [.box [int dev]]) ex (sM 19 [(4,int r)] [.box [int dev]])))))/\((¬(k:Int)<(v.length:Int))->(bF.exit 0=ex)/\(0=r)))):Rq 1 95 0 (IX v dev k) ex (sM 19 [(4,int r)] [.box [int dev]]):=by
 by_cases c1:((k:Int)<(v.length:Int))
 .have h:=h.1 c1;obtain⟨x2,o3,h⟩:=h;have fT:=(@al0 x2.1 x2.2 (dev));let l1:List fP:=[kt (qT c1),ke (aQ x2) (au v) k (bG o3),kc [0] fT];by_cases c4:(x2.1=dev)
  .have h:=h.1 c4;obtain⟨eX,e1⟩:=h;exact bN.to ((show Rq 1 95 0 (IX v dev k) bF.ret (sM 19 [(4,int ↑k)] [.box [int dev]])from aG (l1++[kt (qT c4)]) (aB 19 [4]) 1)) eX (eB.aC ⟨rfl,(aF.int_eq e1),yO⟩)
  .have h:=h.2 c4;exact aJ (l1++[kf (qF c4),kW 18 (k+1) ↑(k+1)]) (aB 19 [0,1,4,6,7,8]) 1 h
 .have h:=h.2 c1;obtain⟨eX,e1⟩:=h;exact bN.to ((show Rq 1 95 0 (IX v dev k) (bF.exit 0) (sM 19 [(4,int 0)] [.box [int dev]])from aG [kf (qF c1)] (aB 19 [4]) 1)) eX (eB.aC ⟨rfl,(aF.int_eq e1),yO⟩)
def nE(dev:Int):Int->List D->Int
 |_,[] => -1
 |k,d::t=>if d.1=dev then k else nE dev (k+1) t
theorem Nc(v:List D)(dev:Int)(hv:v.length<=1000000000):∀n k,v.length-k=n->k<=v.length ->
 Rq 1 95 0 (IX v dev k) (if Ep dev (v.drop k)=true then .ret else .exit 0) { aL:=aC 19 [(4,int (if Ep dev (v.drop k)=true then nE dev k (v.drop k)else 0))],H:=[.box [int dev]] }:=by
 intro n
 induction n with
 |zero =>
  intro k hn hk;have e:v.drop k=[]:=drop_of_length_le zO;rw[e];exact ZI v dev k hv _ _ ⟨fun h=>absurd h zO,fun _=>⟨rfl,rfl⟩⟩
 |succ n ih =>
  intro k hn hk;have bg:k<v.length:=zO
  have e:=drop_eq_getElem_cons bg;refine ZI v dev k hv _ _ ⟨fun h=>⟨v[k],yA bg,⟨fun hq=>?_,fun hq=>?_⟩⟩,fun h=>absurd bg zO⟩
  .rw [e,Lm];simp[nE,hq]
  .have h1:Ep dev (v.drop k)=Ep dev (v.drop (k+1)):=by rw[e,Lm];simp[hq]
   have h2:nE dev k (v.drop k)=nE dev ((k+1:Nat):Int) (v.drop (k+1)):=by rw[e];simp[nE,hq]
   rw[h1,h2];exact ih (k+1) zO zO
theorem al1(v:List D)(dev:Int)(hv:v.length<=1000000000):Rq 1 95 0 (IX v dev 0) (if Ep dev v=true then .ret else .exit 0) { aL:=aC 19 [(4,int (if Ep dev v=true then nE dev 0 v else 0))],H:=[.box [int dev]] } :=
 Nc v dev hv _ 0 rfl zO
theorem apW(v:List D)(dev:Int)(hv:v.length<=1000000000)(h:(((Ep dev v=true)->True)/\((¬Ep dev v=true)->(-1:Int)=(nE dev 0 v)))):ak P G 95 [bB v,.fn (Fn.func 96) [] [.ptr 0 0]] [ah.box [int dev]] (aS.ret (int (nE dev 0 v))) [ah.box [int dev]]:=by
 have bS:=lU (ay v);by_cases c1:(Ep dev v=true)
 .have h:=h.1 c1;exact aj [kv 7 bS,kl (rG [(2,2),(5,1),(9,10)]) 1 (show Rq 1 95 0 (sM 19 [(0,.sl 2 false (au v)),(1,.fn (Fn.func 96) [] [.ptr 0 0]),(4,int 0),(6,.sl 2 false (au v)),(7,int ↑v.length),(8,int 0)] [.box [int dev]]) bF.ret (sM 19 [(4,int (nE dev 0 v))] [.box [int dev]])from(by have h0:=(@al1 (v) (dev) zO);simp only[yL c1]at h0;exact h0))]
 .have h:=h.2 c1;exact aA (aF.int_eq h) [kv 7 bS,kl (rG [(2,2),(5,1),(9,10)]) 1 (show Rq 1 95 0 (sM 19 [(0,.sl 2 false (au v)),(1,.fn (Fn.func 96) [] [.ptr 0 0]),(4,int 0),(6,.sl 2 false (au v)),(7,int ↑v.length),(8,int 0)] [.box [int dev]]) (bF.exit 0) (sM 19 [(4,int 0)] [.box [int dev]])from(by have h0:=(@al1 (v) (dev) zO);simp only[yK c1]at h0;exact h0))]
theorem qD{dev:Int}:∀{v:List D}{k:Int},Ep dev v=false->nE dev k v = -1
 |[],_,_=>rfl
 |d::t,k,h=>by
  simp only[Ep,any_cons,Bool.or_eq_false_iff,decide_eq_false_iff_not]at h;rw[nE,yK h.1];exact qD (by simpa[Ep]using h.2)
theorem apY(v:List D)(dev:Int)(hv:v.length<=1000000000):ak P G 95 [bB v,.fn (.func 96) [] [.ptr 0 0]] [.box [int dev]] (.ret (int (nE dev 0 v))) [.box [int dev]] :=
 apW v dev hv ⟨fun _=>trivial,fun h=>(qD (by simpa using h)).symm⟩
theorem apZ(v:List D)(dev:Int)(hv:v.length<=1000000000)(h:(((nE dev 0 v>=0)->(∃x2:D,((0:Int)<=nE dev 0 v/\v[Int.toNat (nE dev 0 v)]?=some x2)/\(x2.2:Int)=(gI dev v)))/\((¬nE dev 0 v>=0)->(0:Int)=(gI dev v)))):Cq 26 [bB v,int dev] (int (gI dev v)):=by
 have bS:=(@apY (v) (dev) zO);by_cases c1:(nE dev 0 v>=0)
 .have h:=h.1 c1;obtain⟨x2,o3,h⟩:=h;exact aA (aF.int_eq h) [kc [0] bS,kt (qT c1),ko (bC.elem (aQ x2)),kp (show(0:Int)<=nE dev 0 v/\(au v)[Int.toNat (nE dev 0 v)]?=some (aQ x2)from(qU o3))]
 .have h:=h.2 c1;exact aA (aF.int_eq h) [kc [0] bS,kf (qF c1)]
theorem aa4{dev:Int}:∀{v:List D}{k:Nat},(∃j d,nE dev k v=((k+j:Nat):Int)/\v[j]?=some d/\d.2=gI dev v)\/(nE dev k v = -1/\gI dev v=0)
 |[],k=>.inr ⟨rfl,rfl⟩
 |d::t,k=>by
  by_cases hq:d.1=dev
  .exact .inl ⟨0,d,by simp[nE,hq],rfl,by simp[gI,hq]⟩
  .rcases aa4 (dev:=dev) (v:=t) (k:=k+1)with⟨j,d',h1,h2,h3⟩|⟨h1,h2⟩
   .exact .inl ⟨j+1,d',by rw[nE,yK hq];push_cast at h1 |-;rw[h1];omega,by simpa using h2,by rw[gI,yK hq];exact h3⟩
   .exact .inr ⟨by rw[nE,yK hq];push_cast at h1;exact h1,by rw[gI,yK hq];exact h2⟩
theorem acj(v:List D)(dev:Int)(hv:v.length<=1000000000):Cq 26 [bB v,int dev] (int (gI dev v)):=by
 refine apZ v dev hv ?_;rcases aa4 (dev:=dev) (v:=v) (k:=0)with⟨j,d,h1,h2,h3⟩|⟨h1,h2⟩
 .have h1:nE dev 0 v=(j:Int):=by simpa using h1
  rw[h1];exact⟨fun _=>⟨d,⟨zO,by simpa using h2⟩,h3⟩,fun h=>absurd zO h⟩
 .have h1:nE dev 0 v = -1:=by simpa using h1
  rw[h1];exact⟨fun h=>absurd h zO,fun _=>h2.symm⟩
def cZ(v:List D)(d:D):Bool:=decide (d.2>=1)&&decide (d.2<=gI d.1 v)
theorem aa5(v:List D)(a b:Int)(hv:v.length<=1000000000)(h:(((b>=1)->(decide (b<=gI a v))=(cZ v (a,b)))/\((¬b>=1)->(false)=(cZ v (a,b))))):Cq 27 [bB v,eG (a,b)] (Am.bool (cZ v (a,b))):=by
 by_cases c1:(b>=1)
 .have h:=h.1 c1;exact aA (aF.aI h) [kt (qT c1),kc [] (@acj (v) (a) zO)]
 .have h:=h.2 c1;exact aA (aF.aI h) [kf (qF c1)]
theorem jX(v:List D)(a b:Int)(hv:v.length<=1000000000):Cq 27 [bB v,eG (a,b)] (bool (cZ v (a,b))) :=
 aa5 v a b hv (by simp only[cZ];exact⟨fun h=>by simp[h],fun h=>by simp[h]⟩)
end Go.bH
namespace Go.Dc
open Go Go.Am Go.Proofs Go.eY Go.bH
abbrev TL:=Int×Int×Int
def ze(t:TL):List AV:=[int t.1,int t.2.1,int t.2.2]
def lH(l:List TL):List (List AV):=l.map ze
def mF(l:List TL):AV:=.sl 3 false (lH l)
theorem dP(l:List TL):(lH l).length=l.length:=by simp[lH]
def Tf(d s:Int):Bool:=decide (0<=d)&&decide (d<512)&&decide (1<=s)&&decide (s<=1048576)
theorem aa2(d s:Int)(h:((((0:Int)<=d)->(((d<512)->((((1:Int)<=s)->(decide (s<=1048576))=(Tf d s))/\((¬(1:Int)<=s)->(false)=(Tf d s))))/\((¬d<512)->(false)=(Tf d s))))/\((¬(0:Int)<=d)->(false)=(Tf d s)))):Cq 201 [int d,int s] (Am.bool (Tf d s)):=by
 by_cases c1:((0:Int)<=d)
 .have h:=h.1 c1;by_cases c2:(d<512)
  .have h:=h.1 c2;by_cases c3:((1:Int)<=s)
   .have h:=h.1 c3;exact aA (aF.aI h) [kt (qT c1),kt (qT c2),kt (qT c3)]
   .have h:=h.2 c3;exact aA (aF.aI h) [kt (qT c1),kt (qT c2),kf (qF c3)]
  .have h:=h.2 c2;exact aA (aF.aI h) [kt (qT c1),kf (qF c2),kY]
 .have h:=h.2 c1;exact aA (aF.aI h) [kf (qF c1),kY,kY]
theorem OL(d s:Int):Cq 201 [int d,int s] (Am.bool (Tf d s)):=aa2 d s (by
 unfold Tf;refine⟨fun h1=>⟨fun h2=>⟨fun h3=>by simp[h1,h2,h3],fun h3=>by simp[h3]⟩,fun h2=>by simp[h2]⟩,fun h1=>by simp[h1]⟩)
def Xg:Int->List TL->Bool
 |_,[]=>true
 |last,t::l=>Tf t.1 t.2.1&&decide (last<t.1)&&Xg t.1 l
def vC(l:List TL):Int:=if Xg (-1) l=true then 0 else 150
def tkS(l:List TL)(last:Int)(k:Nat):St:={ aL:=aC 27 [(2,int 0),(3,int last),(6,mF l),(7,int l.length),(8,int k)],H:=[] }
theorem apU(l:List TL)(last:Int)(k:Nat)(hk:¬(k:Int)<(l.length:Int))(ex:bF)(s':St)(h:(bF.exit 0=ex)/\(sM 27 [(2,int 0)] []=s')):Rq 0 102 0 (tkS l last k) ex s':=by
 obtain⟨eX,eS⟩:=h;exact bN.to ((aG [kj ((k:Int)<l.length)] (aB 27 [2]) 0)) eX (eB.of_eq eS)
theorem apV(l:List TL)(last a b c:Int)(w:Bool)(k:Nat)(hl:l.length<=1000000)(hk:(k:Int)<(l.length:Int))(hx:l[k]?=some (a,b,c))(hW:Cq 201 [int a,int b] (Am.bool w))(ex:bF)(s':St)(h:((((w)=true)->(((a<=last)->(bF.ret=ex)/\(sM 27 [(2,int 150)] []=s'))/\((¬a<=last)->Rq 0 102 0 (sM 27 [(2,int 0),(3,int a),(6,.sl 3 false (lH l)),(7,int ↑l.length),(8,int ↑(k+1))] []) ex s')))/\(((w)=false)->(bF.ret=ex)/\(sM 27 [(2,int 150)] []=s')))):Rq 0 102 0 (tkS l last k) ex s':=by
 let l1:List fP:=[ki ((k:Int)<l.length),ke (ze (a,b,c)) (lH l) k (bG hx),kc [] hW];rcases Bool.eq_false_or_eq_true ((w))with c2|c2
 .have h:=h.1 c2;have x9:=(yJ Bool.not (c2));by_cases c3:(a<=last)
  .have h:=h.1 c3;obtain⟨eX,eS⟩:=h;exact bN.to ((aG (l1++[kf x9,kt (qT c3)]) (aB 27 [2]) 0)) eX (eB.of_eq eS)
  .have h:=h.2 c3;exact aJ (l1++[kf x9,kf (qF c3),kW 26 (k+1) ↑(k+1)]) (aB 27 [2,3,6,7,8]) 0 h
 .have h:=h.2 c2;obtain⟨eX,eS⟩:=h;exact bN.to ((aG (l1++[kt (show(!w)=true from(yJ Bool.not (c2))),kO]) (aB 27 [2]) 0)) eX (eB.of_eq eS)
theorem adP(l:List TL)(hl:l.length<=1000000):∀n k last,l.length-k=n->k<=l.length->Rq 0 102 0 (tkS l last k) (if Xg last (l.drop k)=true then .exit 0 else .ret) { aL:=aC 27 [(2,int (if Xg last (l.drop k)=true then 0 else 150))],H:=[] }:=by
 intro n
 induction n with
 |zero =>
  intro k last hk LB;rw[drop_of_length_le zO];exact apU l last k zO _ _ ⟨rfl,rfl⟩
 |succ n ih =>
  intro k last hk LB;have bg:k<l.length:=zO
  have hx:l[k]?=some (l[k].1,l[k].2.1,l[k].2.2):=yA bg;rw[drop_eq_getElem_cons bg];unfold Xg;refine apV l last _ _ _ (Tf l[k].1 l[k].2.1) k hl zO hx (OL _ _) _ _ ⟨fun hw=>⟨fun ha=>?_,fun ha=>?_⟩,fun hw=>?_⟩
  .grind
  .rw [hw,decide_eq_true zO];exact ih (k+1) _ zO zO
  .grind
theorem alX(l:List TL)(hL:Rq 0 102 0 (tkS l (-1) 0) (.exit 0) { aL:=aC 27 [(2,int 0)],H:=[] })(h:True):Cq 102 [mF l] (int 0):=by
 exact aj [kN 7 (dP l),kl (rG [(0,2),(4,2),(9,18)]) 0 hL]
theorem alY(l:List TL)(hL:Rq 0 102 0 (tkS l (-1) 0) .ret { aL:=aC 27 [(2,int 150)],H:=[] })(h:True):Cq 102 [mF l] (int 150):=by
 exact aj [kN 7 (dP l),kl (rG [(0,2),(4,2),(9,18)]) 0 hL]
theorem OA(l:List TL)(hl:l.length<=1000000):Cq 102 [mF l] (int (vC l)):=by
 have h:=adP l hl _ 0 (-1) rfl yN;rw[drop_zero]at h;unfold vC;by_cases e:Xg (-1) l=true
 .simp only[yL e]at h |-;exact alX l h trivial
 .simp only[yK e]at h |-;exact alY l h trivial
end Go.Dc
namespace Go.Am
open Go
open Go.ChangeMaps
section
variable {P:Program} {G:Nat->Option (List AV)} {V:View}
theorem getD_some{α:Type}{l:List α}{i:Nat}(h:i<l.length)(d:α):l.getD i d=l[i]:=by grind
end
end Go.Am
namespace Go.Am
open Go
section
variable {P:Program} {G:Nat->Option (List AV)}
theorem ak.Mq{f:FuncId}{args:List AV}{H H' H1:List ah}{x y:AV}{z:List (List AV)}{ps:List Prop}(h:ak P G f args H (.ret x) H')(ha:mR H' x z=some (y,H1,ps))(dG:gZ ps):ak P G f args H (.ret y) H1 :=
 fun V vs hH hG hr=>(h V vs hH hG hr).mono fun e w' he=>by
  obtain⟨V',rfl,k2,k3,k4,k5⟩:=he;cases e with
  |returned v =>
   obtain⟨V1,l1,l2,l3,l4,l5⟩:=sG (by rw[k4];exact ha) dG k3 k5;exact⟨V1,l1,k2.trans l3,l4,l2,l5⟩
  |panicked _=>exact k5.elim
  |outgrown=>exact k5.elim
theorem ak.BM{f:FuncId}{args:List AV}{H H' H3:List ah}{x:AV}{qs:List Prop}(h:ak P G f args H (.ret x) H')(hc:Vu H.length x H'=some (H3,qs))(hq:gZ qs):ak P G f args H (.ret x) H3 :=
 fun V vs hH hG hr=>(h V vs hH hG hr).mono fun e w' he=>by
  obtain⟨V',rfl,k2,k3,k4,k5⟩:=he;cases e with
  |returned v =>
   obtain⟨V3,n1,n2,n3,n4,n5⟩:=pJ (V0:=V) (by rw[k4];exact hc) hq (by rw[hH]) k2 k3 k5;exact⟨V3,n1,n2,n3,n4,n5⟩
  |panicked _=>exact k5.elim
  |outgrown=>exact k5.elim
end
def xP(x y:AV):Prop:=∀w M v,dR w M x v->dR w M y v
theorem xP.refl(x:AV):xP x x:=fun _ _ _ h=>h
theorem xP.nil(sz:Nat):xP (.lit (.slice none 0 0)) (.sl sz false []):=fun w M v h=>by
 cases h;exact .sl sz false [] none 0 0 0 (fun _ _=>undef) (fun h=>absurd rfl h) (fun h=>absurd rfl h) yM (fun h=>by cases h) (fun x hx=>by cases hx) (fun k j hk=>absurd hk (Nat.not_lt_zero _)) (fun k j hk=>absurd hk (Nat.not_lt_zero _)) (fun k j hk=>absurd hk (Nat.not_lt_zero _))
theorem aF.anK{sz:Nat}{t:Bool}{xs ys:List (List AV)}(hl:ys.length=xs.length)(iZ:∀y∈ys,y.length=sz)(h:∀k j,k<xs.length->j<sz->xP ((xs.getD k []).getD j .aP) ((ys.getD k []).getD j .aP)):aF (.sl sz t xs) (.sl sz false ys):=fun V v h9=>by
 have hp:=jF h9;cases hp with
 |sl _ _ _ A cap b o vs hA hb pK ht h1 hc ho hr =>
  have fF:ys≠[]->xs≠[]:=fun h1 h2=>h1 (eq_nil_of_length_eq_zero (by rw[hl,h2];rfl));have:dR V.w V.M (.sl sz false ys) (.slice A ys.length cap):=.sl sz false ys A cap b o vs (fun h=>hA (fF h)) (fun h=>hb (fF h)) zO (fun h=>by cases h) iZ (fun k j hk hj=>hc k j zO hj) (fun k j hk hj=>ho k j zO hj) (fun k j hk hj=>h k j zO hj _ _ _ (hr k j zO hj));rw[hl]at this;exact .pure _ _ this
theorem aF.aed(sz:Nat):aF (.lit (.slice none 0 0)) (.sl sz true []):=fun V v h=>by
 rw[bW h];exact .pure _ _ (.sl sz true [] none 0 0 0 (fun _ _=>undef) (fun h=>absurd rfl h) (fun h=>absurd rfl h) yM (fun _=>rfl) zS (fun k j hk=>absurd hk zS) (fun k j hk=>absurd hk zS) (fun k j hk=>absurd hk zS))
theorem ak.Zm{P:Program}{G:Nat->Option (List AV)}{f:FuncId}{args:List AV}{H H' H1:List ah}{cs ds:List AV}{z0:AV}{z:List (List AV)}{ps:List Prop}(h:ak P G f args H (.ret (.bq [.agg cs,z0])) H')(ha:vZ H' cs z=some (ds,H1,ps))(dG:gZ ps):ak P G f args H (.ret (.bq [.agg ds,z0])) H1 :=
 fun V vs hH hG hr=>(h V vs hH hG hr).mono fun e w' he=>by
  obtain⟨V',rfl,k2,k3,k4,k5⟩:=he;cases e with
  |returned v =>
   obtain⟨us,rfl,hu⟩:=GI k5;obtain⟨a,b,rfl⟩:∃a b,us=[a,b]:=by
    have:=hu.1
    match us,this with
    |[a,b],_=>exact⟨a,b,rfl⟩
   obtain⟨ws,rfl,hw⟩:=uO hu.head;obtain⟨V1,l1,l2,l3,l4,l5⟩:=nY (by rw[k4];exact ha) dG k3 hw;have hR:bR V1 [.agg ds,z0] [.agg ws.toArray,b]:=.cons (.agg ds ws l5.1 l5.2) (hu.tail.step l3);exact⟨V1,l1,k2.trans l3,l4,l2,.bq _ _ hR.1 hR.2⟩
  |panicked _=>exact k5.elim
  |outgrown=>exact k5.elim
end Go.Am
namespace Go.Sq
open Go Go.Am Go.Proofs Go.eY
def G(_:Nat):Option (List AV):=none
abbrev Rq(n f k:Nat)(s:St)(ex:bF)(s':St):Prop:=bN P G none n (vg P f k) s ex s'
abbrev Cq(f:Nat)(a:List AV)(x:AV):Prop:=ak P G f a [] (.ret x) []
theorem up{f:FuncId}{xs:List AV}{H:List ah}{out:aS}{H':List ah}(h:ak P G f xs H out H'):ak P eY.G f xs H out H':=fun V vs hH hG hr =>
 (h V vs hH ⟨hG.lt,hG.eP,hG.inj,hG.gW,fun g cs hg=>by cases hg⟩ hr).mono fun e w' ⟨V',a1,a2,a3,a4,a5⟩=>⟨V',a1,a2,⟨a3.lt,a3.eP,a3.inj,a3.gW,hG.gD a2⟩,a4,a5⟩
abbrev ID:=Int×Int×Int
structure CE where
 dv:Int
 sq:Int
 gU:Int
 ad:Int
 j6:Int
 aa:Int
 tm:Int
 vl:yP
 gn:Bool
 deriving DecidableEq
def aQ(c:CE):List AV:=[int c.dv,int c.sq,int c.gU,int c.ad,int c.j6,int c.aa,int c.tm,str c.vl,bool c.gn]
def au(v:List CE):List (List AV):=v.map aQ
def bZ(v:List CE):AV:=.sl 9 false (au v)
def nP(c:CE):AV:=.agg (aQ c)
abbrev oO(a b c:Int):AV:=.agg [int a,int b,int c]
def CE.id(c:CE):ID:=(c.dv,c.sq,c.gU)
def CE.after(c:CE):ID:=(c.ad,c.j6,c.aa)
theorem ay(v:List CE):(au v).length=v.length:=by simp[au]
theorem sF(v:List CE)(k:Nat):(au v)[k]?=(v[k]?).map aQ:=by simp[au]
theorem gy(a b:List CE):au a++au b=au (a++b):=by simp[au]
theorem sN(c:CE):[aQ c]=au [c]:=rfl
theorem Aw(a b c d e f t:Int)(s:yP)(g:Bool):[[AV.lit (Value.int IntKind.i64 a),AV.lit (Value.int IntKind.i64 b),AV.lit (Value.int IntKind.i64 c),AV.lit (Value.int IntKind.i64 d),AV.lit (Value.int IntKind.i64 e),AV.lit (Value.int IntKind.i64 f),AV.lit (Value.int IntKind.i64 t),AV.lit (Value.string s),AV.lit (Value.bool g)]]=au [⟨a,b,c,d,e,f,t,s,g⟩]:=rfl
theorem iI(v:List CE)(n:Nat):List.drop n (au v)=au (v.drop n):=by simp[au]
theorem gF(v:List CE)(n:Nat):List.take n (au v)=au (v.take n):=by simp[au]
theorem CW(v:List CE)(n:Nat)(c:CE):(au v).set n (aQ c)=au (v.set n c):=by simp[au,map_set]
theorem bK(v:List CE):∀c∈au v,c.all AV.fJ=true:=by
 intro c hc;obtain⟨d,_,rfl⟩:=yG.1 hc;rfl
theorem bJ(v:List CE):∀c∈au v,AV.aM [] c=true:=by
 intro c hc;obtain⟨d,_,rfl⟩:=yG.1 hc;rfl
theorem dW(v:List CE):List.take v.length (List.drop 0 (au v))=au v:=by rw[<- ay v];simp
theorem rC(a b:yP):(ByteArray.toList a==ByteArray.toList b)=decide (a=b):=by
 rw[ByteArray.toList_eq,ByteArray.toList_eq];by_cases h:a=b
 .subst h;simp
 .rw [decide_eq_false h];refine beq_eq_false_iff_ne.2 fun e=>h (ByteArray.ext (Array.toList_inj.1 e))
theorem tN(a b:yP):(a==b)=decide (a=b):=by
 obtain⟨⟨a⟩⟩:=a;obtain⟨⟨b⟩⟩:=b;show(a.toArray==b.toArray)=_;rw[Bool.eq_iff_iff];simp
end Go.Sq
namespace Go.Tx
open Go Go.Am Go.Proofs Go.eY
abbrev G:=eY.G
class Below(g:Nat->Option (List AV)):Prop where
 JZ:∀{f:FuncId}{xs:List AV}{H:List ah}{out:aS}{H':List ah},ak P g f xs H out H'->ak P G f xs H out H'
instance:Below Sq.G:=⟨Sq.up⟩
instance:Below eY.G:=⟨id⟩
theorem JZ{g:Nat->Option (List AV)}[b:Below g]{f:FuncId}{xs:List AV}{H:List ah}{out:aS}{H':List ah}(h:ak P g f xs H out H'):ak P G f xs H out H':=b.JZ h
structure MK where
 dv:Int
 sq:Int
 tm:Int
 fd:Int
 fs:Int
 fa:Int
 td:Int
 ts:Int
 ta:Int
 st:Int
 on:Bool
 deriving DecidableEq
def MK.eG(m:MK):Int×Int:=(m.dv,m.sq)
def aQ(m:MK):List AV:=[int m.dv,int m.sq,int m.tm,int m.fd,int m.fs,int m.fa,int m.td,int m.ts,int m.ta,int m.st,bool m.on]
def au(v:List MK):List (List AV):=v.map aQ
def oI(v:List MK):AV:=.sl 11 false (au v)
def EC(m:MK):AV:=.agg (aQ m)
abbrev Q9(a b:Int):AV:=.agg [int a,int b]
structure TE where
 cells:List Sq.CE
 bQ:List MK
 deriving DecidableEq
abbrev mG(t:TE):AV:=.agg [Sq.bZ t.cells,oI t.bQ]
theorem ay(v:List MK):(au v).length=v.length:=by simp[au]
theorem gy(a b:List MK):au a++au b=au (a++b):=by simp[au]
theorem sN(m:MK):[aQ m]=au [m]:=rfl
theorem Aw(a b c d e f g h i j:Int)(o:Bool):[[AV.lit (Value.int IntKind.i64 a),AV.lit (Value.int IntKind.i64 b),AV.lit (Value.int IntKind.i64 c),AV.lit (Value.int IntKind.i64 d),AV.lit (Value.int IntKind.i64 e),AV.lit (Value.int IntKind.i64 f),AV.lit (Value.int IntKind.i64 g),AV.lit (Value.int IntKind.i64 h),AV.lit (Value.int IntKind.i64 i),AV.lit (Value.int IntKind.i64 j),AV.lit (Value.bool o)]]=au [⟨a,b,c,d,e,f,g,h,i,j,o⟩]:=rfl
theorem iI(v:List MK)(n:Nat):List.drop n (au v)=au (v.drop n):=by simp[au]
theorem gF(v:List MK)(n:Nat):List.take n (au v)=au (v.take n):=by simp[au]
theorem bK(v:List MK):∀c∈au v,c.all AV.fJ=true:=by
 intro c hc;obtain⟨d,_,rfl⟩:=yG.1 hc;rfl
theorem bJ(v:List MK):∀c∈au v,AV.aM [] c=true:=by
 intro c hc;obtain⟨d,_,rfl⟩:=yG.1 hc;rfl
theorem dW(v:List MK):List.take v.length (List.drop 0 (au v))=au v:=by rw[<- ay v];simp
end Go.Tx
namespace Go.Bd
open Go Go.Am Go.Proofs Go.eY
structure BE where
 ky:yP
 dv:Int
 sq:Int
 tm:Int
 vl:yP
 deriving DecidableEq
def BE.eG(b:BE):Int×Int:=(b.dv,b.sq)
def aQ(b:BE):List AV:=[str b.ky,int b.dv,int b.sq,int b.tm,str b.vl]
def au(v:List BE):List (List AV):=v.map aQ
def iK(v:List BE):AV:=.sl 5 false (au v)
def oN(b:BE):AV:=.agg (aQ b)
abbrev Q9(a b:Int):AV:=.agg [int a,int b]
abbrev yT(f:Nat):AV:=.lit (.func (.func f) #[] #[])
theorem ay(v:List BE):(au v).length=v.length:=by simp[au]
theorem gy(a b:List BE):au a++au b=au (a++b):=by simp[au]
theorem sN(b:BE):[aQ b]=au [b]:=rfl
theorem Aw(k:yP)(a b c:Int)(s:yP):[[AV.lit (Value.string k),AV.lit (Value.int IntKind.i64 a),AV.lit (Value.int IntKind.i64 b),AV.lit (Value.int IntKind.i64 c),AV.lit (Value.string s)]]=au [⟨k,a,b,c,s⟩]:=rfl
theorem iI(v:List BE)(n:Nat):List.drop n (au v)=au (v.drop n):=by simp[au]
theorem gF(v:List BE)(n:Nat):List.take n (au v)=au (v.take n):=by simp[au]
theorem CW(v:List BE)(n:Nat)(b:BE):(au v).set n (aQ b)=au (v.set n b):=by simp[au,map_set]
theorem bK(v:List BE):∀c∈au v,c.all AV.fJ=true:=by
 intro c hc;obtain⟨d,_,rfl⟩:=yG.1 hc;rfl
theorem bJ(v:List BE):∀c∈au v,AV.aM [] c=true:=by
 intro c hc;obtain⟨d,_,rfl⟩:=yG.1 hc;rfl
theorem dW(v:List BE):List.take v.length (List.drop 0 (au v))=au v:=by rw[<- ay v];simp
theorem rC(a b:yP):(ByteArray.toList a==ByteArray.toList b)=decide (a=b):=by
 rw[ByteArray.toList_eq,ByteArray.toList_eq];by_cases h:a=b
 .subst h;simp
 .rw [decide_eq_false h];refine beq_eq_false_iff_ne.2 fun e=>h (ByteArray.ext (Array.toList_inj.1 e))
theorem tN(a b:yP):(a==b)=decide (a=b):=by
 obtain⟨⟨a⟩⟩:=a;obtain⟨⟨b⟩⟩:=b;show(a.toArray==b.toArray)=_;rw[Bool.eq_iff_iff];simp
end Go.Bd
namespace Go.Dc
open Go Go.Am Go.Proofs Go.eY Go.bH
def nE{α:Type}(p:α->Bool):Nat->List α->Int
 |_,[] => -1
 |k,b::t=>if p b=true then(k:Int)else nE p (k+1) t
theorem MX{α:Type}{p:α->Bool}:∀{v:List α}{k:Nat},decide (nE p k v>=0)=v.any p
 |[],_=>rfl
 |b::t,k=>by
  rw[any_cons,nE];cases hp:p b with
  |true=>rw[yL rfl,Bool.true_or];exact decide_eq_true zO
  |false=>rw[yK zD,Bool.false_or];exact MX
def dtt(x:TL):D:=(x.1,x.2.1)
def dtc(x:Sq.CE):D:=(x.dv,x.sq)
def dtb(x:Bd.BE):D:=(x.dv,x.sq)
def dtm(x:Tx.MK):D:=(x.dv,x.sq)
theorem ajO(x:TL):Cq 162 [.agg (ze x)] (eG (dtt x)):=aj []
theorem ajP(x:Sq.CE):Cq 157 [.agg (Sq.aQ x)] (eG (dtc x)):=aj []
theorem ajQ(x:Bd.BE):Cq 160 [.agg (Bd.aQ x)] (eG (dtb x)):=aj []
theorem ajR(x:Tx.MK):Cq 165 [.agg (Tx.aQ x)] (eG (dtm x)):=aj []
abbrev CvQ(s F A B I C:Nat):Prop:=(s=3/\F=161/\A=162/\B=246/\I=291/\C=245)\/(s=9/\F=156/\A=157/\B=240/\I=107/\C=239)\/(s=5/\F=159/\A=160/\B=244/\I=290/\C=243)\/(s=11/\F=164/\A=165/\B=251/\I=292/\C=250)
abbrev MZ(A:Nat)(v:List D):List ah:=[.box [bB v],.box [gP A]]
abbrev cfF(B:Nat):AV:=.fn (.func B) [] [.ptr 0 0,.ptr 1 0]
abbrev slF{α:Type}(E:α->List AV)(s:Nat)(l:List α):AV:=.sl s false (l.map E)
def ixF{α:Type}(E:α->List AV)(s A B:Nat)(l:List α)(v:List D)(k:Nat):St:={ aL:=aC 19 [(0,slF E s l),(1,cfF B),(4,int 0),(6,slF E s l),(7,int l.length),(8,int k)],H:=MZ A v }
structure CvW{α:Type}(E:α->List AV)(d:α->D)(s A B I:Nat):Prop where
 cl:∀(x:α)(v:List D),v.length<=1000000000->ak P G B [.agg (E x),.ptr 0 0,.ptr 1 0] (MZ A v) (.ret (Am.bool (!cZ v (d x)))) (MZ A v)
 n:∀(l:List α)(v:List D)(k:Nat)(x:α),l.length<=1000000->(k:Int)<(l.length:Int)->l[k]?=some x->ak P G B [.agg (E x),.ptr 0 0,.ptr 1 0] (MZ A v) (.ret (Am.bool false)) (MZ A v)->∀(ex:bF)(s':St),Rq 2 I 0 (ixF E s A B l v (k+1)) ex s'->Rq 2 I 0 (ixF E s A B l v k) ex s'
 y:∀(l:List α)(v:List D)(k:Nat)(x:α),l.length<=1000000->(k:Int)<(l.length:Int)->l[k]?=some x->ak P G B [.agg (E x),.ptr 0 0,.ptr 1 0] (MZ A v) (.ret (Am.bool true)) (MZ A v)->Rq 2 I 0 (ixF E s A B l v k) bF.ret (St.mk (aC 19 [(4,int ↑k)]) (MZ A v) [])
section
variable {α:Type} {E:α->List AV} {d:α->D} {s F A B I C:Nat} (q:CvQ s F A B I C) (w:CvW E d s A B I)
include q
theorem ajS(l:List α)(v:List D)(k:Nat)(hk:¬(k:Int)<(l.length:Int)):Rq 2 I 0 (ixF E s A B l v k) (bF.exit 0) (St.mk (aC 19 []) (MZ A v) []):=by
 rcases q with⟨rfl,rfl,rfl,rfl,rfl,rfl⟩|⟨rfl,rfl,rfl,rfl,rfl,rfl⟩|⟨rfl,rfl,rfl,rfl,rfl,rfl⟩|⟨rfl,rfl,rfl,rfl,rfl,rfl⟩<;>exact aG [kj ((k:Int)<l.length)] (aB 19 []) 2
theorem ifF(l:List α)(v:List D)(i:Int)(ex:bF)(s':St)(hL:Rq 2 I 0 (ixF E s A B l v 0) ex s')(h:(ex = .exit 0/\s'={ aL:=aC 19 [],H:=MZ A v }/\i = -1)\/(ex = .ret/\s'={ aL:=aC 19 [(4,int i)],H:=MZ A v })):ak P G I [slF E s l,cfF B] (MZ A v) (aS.ret (int i)) (MZ A v):=by
 rcases h with⟨rfl,rfl,rfl⟩|⟨rfl,rfl⟩<;>rcases q with⟨rfl,rfl,rfl,rfl,rfl,rfl⟩|⟨rfl,rfl,rfl,rfl,rfl,rfl⟩|⟨rfl,rfl,rfl,rfl,rfl,rfl⟩|⟨rfl,rfl,rfl,rfl,rfl,rfl⟩<;>exact aj [kN 7 (show(l.map E).length=l.length from length_map E),kl (rG [(2,2),(5,1),(9,10)]) 2 hL]
theorem coF(l:List α)(v:List D)(i:Int)(hI:ak P G I [slF E s l,cfF B] (MZ A v) (.ret (int i)) (MZ A v)):Cq F [slF E s l,bB v,gP A] (Am.bool !decide (i>=0)):=by
 have h:ak P G C [slF E s l,cfF B] (MZ A v) (aS.ret (Am.bool (decide (i>=0)))) (MZ A v):=by
  rcases q with⟨rfl,rfl,rfl,rfl,rfl,rfl⟩|⟨rfl,rfl,rfl,rfl,rfl,rfl⟩|⟨rfl,rfl,rfl,rfl,rfl,rfl⟩|⟨rfl,rfl,rfl,rfl,rfl,rfl⟩<;>exact aj [kc [0,1] hI]
 rcases q with⟨rfl,rfl,rfl,rfl,rfl,rfl⟩|⟨rfl,rfl,rfl,rfl,rfl,rfl⟩|⟨rfl,rfl,rfl,rfl,rfl,rfl⟩|⟨rfl,rfl,rfl,rfl,rfl,rfl⟩<;>exact aj [kc [0,1] h]
include w
theorem ajT(l:List α)(v:List D)(hl:l.length<=1000000)(hv:v.length<=1000000000):∀n k,l.length-k=n->k<=l.length->∃(i:Int)(ex:bF)(s':St),nE (fun x=>!cZ v (d x)) k (l.drop k)=i/\Rq 2 I 0 (ixF E s A B l v k) ex s'/\((ex = .exit 0/\s'={ aL:=aC 19 [],H:=MZ A v }/\i = -1)\/(ex = .ret/\s'={ aL:=aC 19 [(4,int i)],H:=MZ A v })):=by
 intro n
 induction n with
 |zero =>
  intro k hk LB;rw[drop_of_length_le zO];exact⟨_,_,_,rfl,ajS q l v k zO,.inl ⟨rfl,rfl,rfl⟩⟩
 |succ n ih =>
  intro k hk LB;have bg:k<l.length:=zO
  have hx:=yA bg;have hc:=w.cl l[k] v hv;rw[drop_eq_getElem_cons bg,nE];cases e:cZ v (d l[k])with
  |false =>
   rw[e]at hc;exact⟨k,_,_,zS,w.y l v k _ hl zO hx hc,.inr ⟨rfl,rfl⟩⟩
  |true =>
   rw[e]at hc;rw[yK zS];obtain⟨i,ex,s',h1,h2,h3⟩:=ih (k+1) zO zO;exact⟨i,ex,s',h1,w.n l v k _ hl zO hx hc _ _ h2,h3⟩
theorem M4(l:List α)(v:List D)(hl:l.length<=1000000)(hv:v.length<=1000000000):Cq F [slF E s l,bB v,gP A] (Am.bool (l.all fun x=>cZ v (d x))):=by
 obtain⟨i,ex,s',rfl,h2,h3⟩:=ajT q w l v hl hv _ 0 rfl yN;have h:=coF q l v _ (ifF q l v _ ex s' h2 h3);rw[drop_zero,MX,<- not_all_eq_any_not,Bool.not_not]at h;exact h
end
theorem cwt:CvW ze dtt 3 162 246 291 :=
 ⟨fun x v hv=>aj [kc [] (ajO x),kc [] (bH.jX v (dtt x).1 (dtt x).2 hv)],fun l v k x hl hk hx hC ex s' h=>aJ [ki ((k:Int)<l.length),ke (ze x) (l.map ze) k (bG hx),kc [0,1] hC,kY,kW 18 (k+1) ↑(k+1)] (aB 19 [0,1,4,6,7,8]) 2 h,fun l v k x hl hk hx hC=>aG [ki ((k:Int)<l.length),ke (ze x) (l.map ze) k (bG hx),kc [0,1] hC,kO] (aB 19 [4]) 2⟩
theorem cwc:CvW Sq.aQ dtc 9 157 240 107 :=
 ⟨fun x v hv=>aj [kc [] (ajP x),kc [] (bH.jX v (dtc x).1 (dtc x).2 hv)],fun l v k x hl hk hx hC ex s' h=>aJ [ki ((k:Int)<l.length),ke (Sq.aQ x) (l.map Sq.aQ) k (bG hx),kc [0,1] hC,kY,kW 18 (k+1) ↑(k+1)] (aB 19 [0,1,4,6,7,8]) 2 h,fun l v k x hl hk hx hC=>aG [ki ((k:Int)<l.length),ke (Sq.aQ x) (l.map Sq.aQ) k (bG hx),kc [0,1] hC,kO] (aB 19 [4]) 2⟩
theorem cwb:CvW Bd.aQ dtb 5 160 244 290 :=
 ⟨fun x v hv=>aj [kc [] (ajQ x),kc [] (bH.jX v (dtb x).1 (dtb x).2 hv)],fun l v k x hl hk hx hC ex s' h=>aJ [ki ((k:Int)<l.length),ke (Bd.aQ x) (l.map Bd.aQ) k (bG hx),kc [0,1] hC,kY,kW 18 (k+1) ↑(k+1)] (aB 19 [0,1,4,6,7,8]) 2 h,fun l v k x hl hk hx hC=>aG [ki ((k:Int)<l.length),ke (Bd.aQ x) (l.map Bd.aQ) k (bG hx),kc [0,1] hC,kO] (aB 19 [4]) 2⟩
theorem cwm:CvW Tx.aQ dtm 11 165 251 292 :=
 ⟨fun x v hv=>aj [kc [] (ajR x),kc [] (bH.jX v (dtm x).1 (dtm x).2 hv)],fun l v k x hl hk hx hC ex s' h=>aJ [ki ((k:Int)<l.length),ke (Tx.aQ x) (l.map Tx.aQ) k (bG hx),kc [0,1] hC,kY,kW 18 (k+1) ↑(k+1)] (aB 19 [0,1,4,6,7,8]) 2 h,fun l v k x hl hk hx hC=>aG [ki ((k:Int)<l.length),ke (Tx.aQ x) (l.map Tx.aQ) k (bG hx),kc [0,1] hC,kO] (aB 19 [4]) 2⟩
theorem afy(l:List TL)(v:List D)(hl:l.length<=1000000)(hv:v.length<=1000000000):Cq 161 [mF l,bB v,gP 162] (Am.bool (l.all fun x=>cZ v (dtt x))):=M4 (E:=ze) (d:=dtt) (s:=3) (F:=161) (A:=162) (B:=246) (I:=291) (C:=245) zD cwt l v hl hv
theorem X5(l:List Sq.CE)(v:List D)(hl:l.length<=1000000)(hv:v.length<=1000000000):Cq 156 [Sq.bZ l,bB v,gP 157] (Am.bool (l.all fun x=>cZ v (dtc x))):=M4 (E:=Sq.aQ) (d:=dtc) (s:=9) (F:=156) (A:=157) (B:=240) (I:=107) (C:=239) zD cwc l v hl hv
theorem afx(l:List Bd.BE)(v:List D)(hl:l.length<=1000000)(hv:v.length<=1000000000):Cq 159 [Bd.iK l,bB v,gP 160] (Am.bool (l.all fun x=>cZ v (dtb x))):=M4 (E:=Bd.aQ) (d:=dtb) (s:=5) (F:=159) (A:=160) (B:=244) (I:=290) (C:=243) zD cwb l v hl hv
theorem afz(l:List Tx.MK)(v:List D)(hl:l.length<=1000000)(hv:v.length<=1000000000):Cq 164 [Tx.oI l,bB v,gP 165] (Am.bool (l.all fun x=>cZ v (dtm x))):=M4 (E:=Tx.aQ) (d:=dtm) (s:=11) (F:=164) (A:=165) (B:=251) (I:=292) (C:=250) zD cwm l v hl hv
structure FD where
 pk:Int
 pn:yP
 ce:List Sq.CE
 bi:List Bd.BE
 ta:List TL
 tc:List Sq.CE
 tm:List Tx.MK
 deriving DecidableEq
def jB(f:FD):List AV:=[int f.pk,str f.pn,Sq.bZ f.ce,Bd.iK f.bi,mF f.ta,Sq.bZ f.tc,Tx.oI f.tm]
abbrev pt(k:Int)(n:yP):AV:=.agg [int k,str n]
theorem aiM(f:FD)(v:List D)(e:Int)(b:Bool)(hk:f.pk=1)(hc:f.ce.length<=1000000)(h2:f.bi.length<=1000000)(h3:f.ta.length<=1000000)(h4:f.tc.length<=1000000)(h5:f.tm.length<=1000000)(hS:Cq 155 [Sq.bZ f.ce] (int e))(hC:Cq 156 [Sq.bZ f.ce,bB v,gP 157] (Am.bool b))(r:Bool)(h:(((e=0)->((((b)=true)->((((↑(ByteArray.size f.pn):Int)<=64)->((↑(0+length f.bi+length f.ta+length f.tc+length f.tm):Int)==0)=(r))/\((¬(↑(ByteArray.size f.pn):Int)<=64)->(false)=(r))))/\(((b)=false)->(false)=(r))))/\((¬e=0)->(false)=(r)))):Cq 62 [.agg (jB f),bB v] (Am.bool r):=by
 have bS:(f.pk==1)=true:=(qT zO);by_cases c2:(e=0)
 .have h:=h.1 c2;let l1:List fP:=[kt bS,kc [] hS,kt (nW.2 c2),kc [] hC];rcases Bool.eq_false_or_eq_true ((b))with c3|c3
  .have h:=h.1 c3;by_cases c4:((↑(ByteArray.size f.pn):Int)<=64)
   .have h:=h.1 c4;exact aA (aF.aI h) (l1++[kt c3,kt (qT c4),kv 86 (show Am.aF (int (↑(length (Bd.au f.bi)):Int)) (int ↑(length f.bi))from(aF.of_eq (by simp only[Go.Bd.ay]))),kW 87 ((0:Int)+(↑(length f.bi):Int)) (↑(0+length f.bi):Int),kN 90 (dP f.ta),kW 91 ((↑(0+length f.bi):Int)+(↑(length f.ta):Int)) (↑(0+length f.bi+length f.ta):Int),kv 95 (show Am.aF (int (↑(length (Sq.au f.tc)):Int)) (int ↑(length f.tc))from(aF.of_eq (by simp only[Go.Sq.ay]))),kW 96 ((↑(0+length f.bi+length f.ta):Int)+(↑(length f.tc):Int)) (↑(0+length f.bi+length f.ta+length f.tc):Int),kv 100 (show Am.aF (int (↑(length (Tx.au f.tm)):Int)) (int ↑(length f.tm))from(aF.of_eq (by simp only[Go.Tx.ay]))),kW 101 ((↑(0+length f.bi+length f.ta+length f.tc):Int)+(↑(length f.tm):Int)) (↑(0+length f.bi+length f.ta+length f.tc+length f.tm):Int)])
   .have h:=h.2 c4;exact aA (aF.aI h) (l1++[kt c3,kf (qF c4)])
  .have h:=h.2 c3;exact aA (aF.aI h) (l1++[kf c3,kY])
 .have h:=h.2 c2;exact aA (aF.aI h) [kt bS,kc [] hS,kf (qN.2 c2),kY,kY]
theorem aiN(f:FD)(v:List D)(e:Int)(b:Bool)(hk:f.pk=2)(hc:f.ce.length<=1000000)(h2:f.bi.length<=1000000)(h3:f.ta.length<=1000000)(h4:f.tc.length<=1000000)(h5:f.tm.length<=1000000)(hS:Cq 158 [Bd.iK f.bi] (int e))(hC:Cq 159 [Bd.iK f.bi,bB v,gP 160] (Am.bool b))(r:Bool)(h:(((e=0)->((((b)=true)->((((↑(ByteArray.size f.pn):Int)<=64)->((↑(length f.ce+0+length f.ta+length f.tc+length f.tm):Int)==0)=(r))/\((¬(↑(ByteArray.size f.pn):Int)<=64)->(false)=(r))))/\(((b)=false)->(false)=(r))))/\((¬e=0)->(false)=(r)))):Cq 62 [.agg (jB f),bB v] (Am.bool r):=by
 let l1:List fP:=[kf (show(f.pk==1)=false from(qF zO)),kt (show(f.pk==2)=true from(qT zO)),kc [] hS];by_cases c3:(e=0)
 .have h:=h.1 c3;rcases Bool.eq_false_or_eq_true ((b))with c4|c4
  .have h:=h.1 c4;by_cases c5:((↑(ByteArray.size f.pn):Int)<=64)
   .have h:=h.1 c5;exact aA (aF.aI h) (l1++[kt (nW.2 c3),kc [] hC,kt c4,kt (qT c5),kv 83 (show Am.aF (int (↑(length (Sq.au f.ce)):Int)) (int ↑(length f.ce))from(aF.of_eq (by simp only[Go.Sq.ay]))),kW 87 ((↑(length f.ce):Int)+(0:Int)) (↑(length f.ce+0):Int),kN 90 (dP f.ta),kW 91 ((↑(length f.ce+0):Int)+(↑(length f.ta):Int)) (↑(length f.ce+0+length f.ta):Int),kv 95 (show Am.aF (int (↑(length (Sq.au f.tc)):Int)) (int ↑(length f.tc))from(aF.of_eq (by simp only[Go.Sq.ay]))),kW 96 ((↑(length f.ce+0+length f.ta):Int)+(↑(length f.tc):Int)) (↑(length f.ce+0+length f.ta+length f.tc):Int),kv 100 (show Am.aF (int (↑(length (Tx.au f.tm)):Int)) (int ↑(length f.tm))from(aF.of_eq (by simp only[Go.Tx.ay]))),kW 101 ((↑(length f.ce+0+length f.ta+length f.tc):Int)+(↑(length f.tm):Int)) (↑(length f.ce+0+length f.ta+length f.tc+length f.tm):Int)])
   .have h:=h.2 c5;exact aA (aF.aI h) (l1++[kt (nW.2 c3),kc [] hC,kt c4,kf (qF c5)])
  .have h:=h.2 c4;exact aA (aF.aI h) (l1++[kt (nW.2 c3),kc [] hC,kf c4,kY])
 .have h:=h.2 c3;exact aA (aF.aI h) (l1++[kf (qN.2 c3),kY,kY])
theorem aiO(f:FD)(v:List D)(e:Int)(b:Bool)(hk:f.pk=3)(hc:f.ce.length<=1000000)(h2:f.bi.length<=1000000)(h3:f.ta.length<=1000000)(h4:f.tc.length<=1000000)(h5:f.tm.length<=1000000)(hS:Cq 102 [mF f.ta] (int e))(hC:Cq 161 [mF f.ta,bB v,gP 162] (Am.bool b))(r:Bool)(h:(((e=0)->((((b)=true)->((((↑(ByteArray.size f.pn):Int)<=64)->((↑(length f.ce+length f.bi+0+length f.tc+length f.tm):Int)==0)=(r))/\((¬(↑(ByteArray.size f.pn):Int)<=64)->(false)=(r))))/\(((b)=false)->(false)=(r))))/\((¬e=0)->(false)=(r)))):Cq 62 [.agg (jB f),bB v] (Am.bool r):=by
 let l1:List fP:=[kf (show(f.pk==1)=false from(qF zO)),kf (show(f.pk==2)=false from(qF zO)),kt (show(f.pk==3)=true from(qT zO)),kc [] hS];by_cases c4:(e=0)
 .have h:=h.1 c4;rcases Bool.eq_false_or_eq_true ((b))with c5|c5
  .have h:=h.1 c5;by_cases c6:((↑(ByteArray.size f.pn):Int)<=64)
   .have h:=h.1 c6;exact aA (aF.aI h) (l1++[kt (nW.2 c4),kc [] hC,kt c5,kt (qT c6),kv 83 (show Am.aF (int (↑(length (Sq.au f.ce)):Int)) (int ↑(length f.ce))from(aF.of_eq (by simp only[Go.Sq.ay]))),kv 86 (show Am.aF (int (↑(length (Bd.au f.bi)):Int)) (int ↑(length f.bi))from(aF.of_eq (by simp only[Go.Bd.ay]))),kW 87 ((↑(length f.ce):Int)+(↑(length f.bi):Int)) (↑(length f.ce+length f.bi):Int),kW 91 ((↑(length f.ce+length f.bi):Int)+(0:Int)) (↑(length f.ce+length f.bi+0):Int),kv 95 (show Am.aF (int (↑(length (Sq.au f.tc)):Int)) (int ↑(length f.tc))from(aF.of_eq (by simp only[Go.Sq.ay]))),kW 96 ((↑(length f.ce+length f.bi+0):Int)+(↑(length f.tc):Int)) (↑(length f.ce+length f.bi+0+length f.tc):Int),kv 100 (show Am.aF (int (↑(length (Tx.au f.tm)):Int)) (int ↑(length f.tm))from(aF.of_eq (by simp only[Go.Tx.ay]))),kW 101 ((↑(length f.ce+length f.bi+0+length f.tc):Int)+(↑(length f.tm):Int)) (↑(length f.ce+length f.bi+0+length f.tc+length f.tm):Int)])
   .have h:=h.2 c6;exact aA (aF.aI h) (l1++[kt (nW.2 c4),kc [] hC,kt c5,kf (qF c6)])
  .have h:=h.2 c5;exact aA (aF.aI h) (l1++[kt (nW.2 c4),kc [] hC,kf c5,kY])
 .have h:=h.2 c4;exact aA (aF.aI h) (l1++[kf (qN.2 c4),kY,kY])
theorem aiP(f:FD)(v:List D)(e:Int)(b c:Bool)(hk:f.pk=4)(hc:f.ce.length<=1000000)(h2:f.bi.length<=1000000)(h3:f.ta.length<=1000000)(h4:f.tc.length<=1000000)(h5:f.tm.length<=1000000)(hS:Cq 163 [.agg [Sq.bZ f.tc,Tx.oI f.tm]] (int e))(hC:Cq 156 [Sq.bZ f.tc,bB v,gP 157] (Am.bool b))(hM:Cq 164 [Tx.oI f.tm,bB v,gP 165] (Am.bool c))(r:Bool)(h:(((e=0)->((((b)=true)->((((c)=true)->((((↑(ByteArray.size f.pn):Int)<=64)->((↑(length f.ce+length f.bi+length f.ta+0+0):Int)==0)=(r))/\((¬(↑(ByteArray.size f.pn):Int)<=64)->(false)=(r))))/\(((c)=false)->(false)=(r))))/\(((b)=false)->(false)=(r))))/\((¬e=0)->(false)=(r)))):Cq 62 [.agg (jB f),bB v] (Am.bool r):=by
 let l1:List fP:=[kf (show(f.pk==1)=false from(qF zO)),kf (show(f.pk==2)=false from(qF zO)),kf (show(f.pk==3)=false from(qF zO)),kt (show(f.pk==4)=true from(qT zO)),kc [] hS];by_cases c5:(e=0)
 .have h:=h.1 c5;let l2:List fP:=l1++[kt (nW.2 c5),kc [] hC];rcases Bool.eq_false_or_eq_true ((b))with c6|c6
  .have h:=h.1 c6;rcases Bool.eq_false_or_eq_true ((c))with c7|c7
   .have h:=h.1 c7;by_cases c8:((↑(ByteArray.size f.pn):Int)<=64)
    .have h:=h.1 c8;exact aA (aF.aI h) (l2++[kt c6,kc [] hM,kt c7,kt (qT c8),kv 83 (show Am.aF (int (↑(length (Sq.au f.ce)):Int)) (int ↑(length f.ce))from(aF.of_eq (by simp only[Go.Sq.ay]))),kv 86 (show Am.aF (int (↑(length (Bd.au f.bi)):Int)) (int ↑(length f.bi))from(aF.of_eq (by simp only[Go.Bd.ay]))),kW 87 ((↑(length f.ce):Int)+(↑(length f.bi):Int)) (↑(length f.ce+length f.bi):Int),kN 90 (dP f.ta),kW 91 ((↑(length f.ce+length f.bi):Int)+(↑(length f.ta):Int)) (↑(length f.ce+length f.bi+length f.ta):Int),kW 96 ((↑(length f.ce+length f.bi+length f.ta):Int)+(0:Int)) (↑(length f.ce+length f.bi+length f.ta+0):Int),kW 101 ((↑(length f.ce+length f.bi+length f.ta+0):Int)+(0:Int)) (↑(length f.ce+length f.bi+length f.ta+0+0):Int)])
    .have h:=h.2 c8;exact aA (aF.aI h) (l2++[kt c6,kc [] hM,kt c7,kf (qF c8)])
   .have h:=h.2 c7;exact aA (aF.aI h) (l2++[kt c6,kc [] hM,kf c7,kY])
  .have h:=h.2 c6;exact aA (aF.aI h) (l2++[kf c6,kY,kY])
 .have h:=h.2 c5;exact aA (aF.aI h) (l1++[kf (qN.2 c5),kY,kY,kY])
theorem aiQ(f:FD)(v:List D)(k1:¬f.pk=1)(k2:¬f.pk=2)(k3:¬f.pk=3)(k4:¬f.pk=4)(hc:f.ce.length<=1000000)(h2:f.bi.length<=1000000)(h3:f.ta.length<=1000000)(h4:f.tc.length<=1000000)(h5:f.tm.length<=1000000)(h:True):Cq 62 [.agg (jB f),bB v] (Am.bool false):=by
 exact aj [kf (show(f.pk==1)=false from(qF zO)),kf (show(f.pk==2)=false from(qF zO)),kf (show(f.pk==3)=false from(qF zO)),kf (qF zO),kY,kY]
structure DO where
 sn:List D
 fs:List FD
 deriving DecidableEq
def dA(l:List FD):List (List AV):=l.map jB
def Md(l:List FD):AV:=.sl 7 false (dA l)
def kI(d:DO):AV:=.agg [bB d.sn,Md d.fs]
theorem fE(l:List FD):(dA l).length=l.length:=by simp[dA]
theorem amM(d:DO)(hV:Cq 61 [bB d.sn] (int 120))(h:True):Cq 17 [kI d] (int 180):=by
 exact aj [kc [] hV,kO]
def dkS(d:DO)(k:Nat):St:={ aL:=aC 40 [(1,.ptr 0 0),(2,int 0),(10,Md d.fs),(11,int d.fs.length),(12,int k)],H:=[.box [bB d.sn,Md d.fs]] }
theorem amH(d:DO)(k:Nat)(hk:¬(k:Int)<(d.fs.length:Int))(h:True):Rq 0 17 0 (dkS d k) (bF.exit 0) (sM 40 [(2,int 0)] [.box [bB d.sn,Md d.fs]]):=by
 exact aG [kj ((k:Int)<(↑(length d.fs):Int))] (aB 40 [2]) 1
theorem amI(d:DO)(k:Nat)(f:FD)(hl:d.fs.length<=1000000)(hk:(k:Int)<(d.fs.length:Int))(hx:d.fs[k]?=some f)(hV:Cq 62 [.agg (jB f),bB d.sn] (Am.bool false))(h:True):Rq 0 17 0 (dkS d k) bF.ret (sM 40 [(2,int 180)] [.box [bB d.sn,Md d.fs]]):=by
 exact aG [ki ((k:Int)<(↑(length d.fs):Int)),ke (jB f) (dA d.fs) k (bG hx),kc [] hV,kO,kO] (aB 40 [2]) 1
theorem aiR(d:DO)(f:FD)(hl:d.fs.length<=1000000)(hk:(0:Int)<(d.fs.length:Int))(hx:d.fs[0]?=some f)(hV:Cq 62 [.agg (jB f),bB d.sn] (Am.bool true))(ex:bF)(s':St)(h:Rq 0 17 0 (sM 40 [(1,.ptr 0 0),(2,int 0),(10,.sl 7 false (dA d.fs)),(11,int ↑(length d.fs)),(12,int 1)] [.box [bB d.sn,.sl 7 false (dA d.fs)]]) ex s'):Rq 0 17 0 (dkS d 0) ex s':=by
 exact aJ [ki ((0:Int)<(↑(length d.fs):Int)),ke (jB f) (dA d.fs) (0:Int) (bG hx),kc [] hV,kY,kY,kY] (aB 40 [1,2,10,11,12]) 1 h
theorem aiT(d:DO)(k:Nat)(f g:FD)(c:Int)(hc:¬c>=0)(hl:d.fs.length<=1000000)(hk:((k+1:Nat):Int)<(d.fs.length:Int))(hx:d.fs[k+1]?=some f)(hy:d.fs[k]?=some g)(hV:Cq 62 [.agg (jB f),bB d.sn] (Am.bool true))(hP:∀g':FD,d.fs[k]?=some g'->Cq 45 [pt g'.pk g'.pn,pt f.pk f.pn] (int c))(ex:bF)(s':St)(h:(∃x3:FD,((0:Int)<=(↑(k+1):Int)-1/\d.fs[Int.toNat ((↑(k+1):Int)-1)]?=some x3)/\((d.fs[k]?=some x3)/\Rq 0 17 0 (sM 40 [(1,.ptr 0 0),(2,int 0),(10,.sl 7 false (dA d.fs)),(11,int ↑(length d.fs)),(12,int ↑(k+1+1))] [.box [bB d.sn,.sl 7 false (dA d.fs)]]) ex s'))):Rq 0 17 0 (dkS d (k+1)) ex s':=by
 obtain⟨x3,o4,h⟩:=h;obtain⟨o5,h⟩:=h;exact aJ [ki ((↑(k+1):Int)<(↑(length d.fs):Int)),ke (jB f) (dA d.fs) (↑(k+1):Int) (bG hx),kc [] hV,kY,ki ((↑(k+1):Int)>0),kW 29 ((↑(k+1):Int)-1) ((↑(k+1):Int)-1),ko (bC.elem (jB x3)),kp (show(0:Int)<=(↑(k+1):Int)-1/\(dA d.fs)[Int.toNat ((↑(k+1):Int)-1)]?=some (jB x3)from(qU o4)),kc [] (@hP (x3) o5),kj (c>=0),kW 39 ((↑(k+1):Int)+1) (↑(k+1+1):Int)] (aB 40 [1,2,10,11,12]) 1 h
theorem amJ(d:DO)(k:Nat)(f g:FD)(c:Int)(hc:c>=0)(hl:d.fs.length<=1000000)(hk:((k+1:Nat):Int)<(d.fs.length:Int))(hx:d.fs[k+1]?=some f)(hy:d.fs[k]?=some g)(hV:Cq 62 [.agg (jB f),bB d.sn] (Am.bool true))(hP:∀g':FD,d.fs[k]?=some g'->Cq 45 [pt g'.pk g'.pn,pt f.pk f.pn] (int c))(ex:bF)(s':St)(h:(∃x3:FD,((0:Int)<=(↑(k+1):Int)-1/\d.fs[Int.toNat ((↑(k+1):Int)-1)]?=some x3)/\((d.fs[k]?=some x3)/\(bF.ret=ex)/\(sM 40 [(2,int 180)] [.box [bB d.sn,.sl 7 false (dA d.fs)]]=s')))):Rq 0 17 0 (dkS d (k+1)) ex s':=by
 obtain⟨x3,o4,h⟩:=h;obtain⟨o5,h⟩:=h;obtain⟨eX,eS⟩:=h;exact bN.to ((aG [ki ((↑(k+1):Int)<(↑(length d.fs):Int)),ke (jB f) (dA d.fs) (↑(k+1):Int) (bG hx),kc [] hV,kY,ki ((↑(k+1):Int)>0),kW 29 ((↑(k+1):Int)-1) ((↑(k+1):Int)-1),ko (bC.elem (jB x3)),kp (show(0:Int)<=(↑(k+1):Int)-1/\(dA d.fs)[Int.toNat ((↑(k+1):Int)-1)]?=some (jB x3)from(qU o4)),kc [] (@hP (x3) o5),ki (c>=0)] (aB 40 [2]) 1)) eX (eB.of_eq eS)
theorem amK(d:DO)(hV:Cq 61 [bB d.sn] (int 0))(hL:Rq 0 17 0 (dkS d 0) (.exit 0) { aL:=aC 40 [(2,int 0)],H:=[.box [bB d.sn,Md d.fs]] })(h:True):Cq 17 [kI d] (int 0):=by
 exact aj [kc [] hV,kY,kN 11 (fE d.fs),kl (rG [(0,1),(3,7),(13,27)]) 1 hL]
theorem amL(d:DO)(hV:Cq 61 [bB d.sn] (int 0))(hL:Rq 0 17 0 (dkS d 0) .ret { aL:=aC 40 [(2,int 180)],H:=[.box [bB d.sn,Md d.fs]] })(h:True):Cq 17 [kI d] (int 180):=by
 exact aj [kc [] hV,kY,kN 11 (fE d.fs),kl (rG [(0,1),(3,7),(13,27)]) 1 hL]
end Go.Dc
namespace Go.yU
open Go Go.Am Go.Proofs Go.eY
inductive CV where
 |mk (k n:Int) (s:yP) (l:List CV)
instance:Inhabited CV:=⟨.mk 0 0 .empty []⟩
def CV.k:CV->Int|.mk k _ _ _=>k
def CV.n:CV->Int|.mk _ n _ _=>n
def CV.s:CV->yP|.mk _ _ s _=>s
def CV.l:CV->List CV|.mk _ _ _ l=>l
mutual
def CV.cells:CV->List AV
 |.mk k n s l=>[int k,int n,str s,.sl 4 false (iB l)]
def iB:List CV->List (List AV)
 |[]=>[]
 |v::l=>v.cells::iB l
end
def aQ(v:CV):List AV:=[int v.k,int v.n,str v.s,.sl 4 false (iB v.l)]
theorem aa6(v:CV):v.cells=aQ v:=by cases v;simp[CV.cells,aQ,CV.k,CV.n,CV.s,CV.l]
theorem lC:∀l:List CV,iB l=l.map aQ
 |[]=>by simp[iB]
 |v::l=>by simp[iB,lC l,aa6]
def val(v:CV):AV:=.agg (aQ v)
theorem fA(l:List CV):(iB l).length=l.length:=by simp[lC]
theorem avw(a b:List CV):iB a++iB b=iB (a++b):=by simp[lC]
theorem avx(v:CV):[aQ v]=iB [v]:=by simp[lC]
theorem aAN(v:List CV)(n:Nat):List.drop n (iB v)=iB (v.drop n):=by simp[lC]
theorem WV(v:List CV):∀c∈iB v,c.all AV.fJ=true:=by
 intro c hc;rw[lC]at hc;obtain⟨d,_,rfl⟩:=yG.1 hc;rfl
theorem axm(v:List CV):∀c∈iB v,AV.aM [] c=true:=by
 intro c hc;rw[lC]at hc;obtain⟨d,_,rfl⟩:=yG.1 hc;rfl
theorem aa7(v:List CV):List.take v.length (List.drop 0 (iB v))=iB v:=by rw[<- fA v];simp
theorem rC(a b:yP):(ByteArray.toList a==ByteArray.toList b)=decide (a=b):=by
 rw[ByteArray.toList_eq,ByteArray.toList_eq];by_cases h:a=b
 .subst h;simp
 .rw [decide_eq_false h];refine beq_eq_false_iff_ne.2 fun e=>h (ByteArray.ext (Array.toList_inj.1 e))
abbrev rR(k n:Int)(s:yP)(l:List CV):AV:=.agg [int k,int n,str s,.sl 4 false (iB l)]
theorem val_mk(k n:Int)(s:yP)(l:List CV):val (.mk k n s l)=rR k n s l:=rfl
abbrev u8(c:UInt8):AV:=.lit (.int .u8 c.toNat)
def aa8(c:UInt8):List AV:=[u8 c]
def jl(l:List UInt8):List (List AV):=l.map aa8
def Cy(l:List UInt8):AV:=.sl 1 false (jl l)
theorem eu(l:List UInt8):(jl l).length=l.length:=by simp[jl]
theorem j5(s:yP):∀c∈s.data.toList.map (fun c=>[AV.lit (Value.int IntKind.u8 (c.toNat:Int))]),AV.aM [] c=true:=by
 intro c hc;obtain⟨d,_,rfl⟩:=yG.1 hc;rfl
theorem jk(s:yP):∀c∈s.data.toList.map (fun c=>[AV.lit (Value.int IntKind.u8 (c.toNat:Int))]),c.all AV.fJ=true:=by
 intro c hc;obtain⟨d,_,rfl⟩:=yG.1 hc;rfl
theorem eD(s:yP):s.data.toList.length=s.size:=rfl
theorem SG(a b:List UInt8):jl a++jl b=jl (a++b):=by simp[jl]
theorem awx(v:List UInt8)(n:Nat):List.drop n (jl v)=jl (v.drop n):=by simp[jl]
theorem awy(v:List UInt8)(n:Nat):List.take n (jl v)=jl (v.take n):=by simp[jl]
theorem iC(v:List UInt8):∀c∈jl v,c.all AV.fJ=true:=by
 intro c hc;obtain⟨d,_,rfl⟩:=yG.1 hc;rfl
theorem dw(v:List UInt8):∀c∈jl v,AV.aM [] c=true:=by
 intro c hc;obtain⟨d,_,rfl⟩:=yG.1 hc;rfl
abbrev u64(n:Nat):AV:=.lit (.int .u64 n)
def dH(l:List UInt8):List ah:=[.box [Cy l]]
def aO:AV:=.qX 36 (int 10)
end Go.yU
namespace Go.bV
open Go Go.Am Go.Proofs Go.eY Go.bH Go.yU
structure OP where
 dv:Int
 sq:Int
 tm:Int
 cx:List D
 pk:Int
 pn:yP
 kd:Int
 f1:Int
 f2:Int
 f3:Int
 t1:Int
 t2:Int
 t3:Int
 ky:yP
 vl:yP
 n:Int
 on:Bool
 deriving DecidableEq
def jy(o:OP):List AV:=[int o.dv,int o.sq,int o.tm,bB o.cx,int o.pk,str o.pn,int o.kd,int o.f1,int o.f2,int o.f3,int o.t1,int o.t2,int o.t3,str o.ky,str o.vl,int o.n,bool o.on]
def op(o:OP):AV:=.agg (jy o)
def Ki(o:OP)(k:Int):AV:=.agg [int o.dv,int o.sq,int o.tm,bB o.cx,int o.pk,str o.pn,int k,int o.f1,int o.f2,int o.f3,int o.t1,int o.t2,int o.t3,str o.ky,str o.vl,int o.n,bool o.on]
theorem ag3(o:OP)(k:Int)(h:o.kd=k):Ki o k=op o:=by subst h;rfl
abbrev oO(a b c:Int):AV:=.agg [int a,int b,int c]
def JM(a b c:Int):Bool:=decide (a>=0)&&decide (a<512)&&decide (b>=1)&&decide (b<=1048576)&&decide (c>=0)&&decide (c<=63)
def iD(o:OP)(a b c:Int):Bool:=JM a b c&&(cZ o.cx (a,b)||(decide (a=o.dv)&&decide (b<o.sq)))
theorem adS(o:OP)(a b c:Int)(hc:o.cx.length<=1000000000)(h:(((a<0)->(false)=(iD o a b c))/\((¬a<0)->(((a>=512)->(false)=(iD o a b c))/\((¬a>=512)->(((b<1)->(false)=(iD o a b c))/\((¬b<1)->(((b>1048576)->(false)=(iD o a b c))/\((¬b>1048576)->(((c<0)->(false)=(iD o a b c))/\((¬c<0)->(((c>63)->(false)=(iD o a b c))/\((¬c>63)->((((cZ o.cx (a,b))=true)->(true)=(iD o a b c))/\(((cZ o.cx (a,b))=false)->(((a=o.dv)->(decide (b<o.sq))=(iD o a b c))/\((¬a=o.dv)->(false)=(iD o a b c)))))))))))))))))):Cq 403 [op o,oO a b c] (Am.bool (iD o a b c)):=by
 by_cases c1:(a<0)
 .have h:=h.1 c1;exact aA (aF.aI h) [kt (qT c1),kO,kO,kO,kO,kO]
 .have h:=h.2 c1;let l1:List fP:=[kf (qF c1)];by_cases c2:(a>=512)
  .have h:=h.1 c2;exact aA (aF.aI h) (l1++[kt (qT c2),kO,kO,kO,kO])
  .have h:=h.2 c2;let l2:List fP:=l1++[kf (qF c2)];by_cases c3:(b<1)
   .have h:=h.1 c3;exact aA (aF.aI h) (l2++[kt (qT c3),kO,kO,kO])
   .have h:=h.2 c3;let l3:List fP:=l2++[kf (qF c3)];by_cases c4:(b>1048576)
    .have h:=h.1 c4;exact aA (aF.aI h) (l3++[kt (qT c4),kO,kO])
    .have h:=h.2 c4;let l4:List fP:=l3++[kf (qF c4)];by_cases c5:(c<0)
     .have h:=h.1 c5;exact aA (aF.aI h) (l4++[kt (qT c5),kO])
     .have h:=h.2 c5;let l5:List fP:=l4++[kf (qF c5)];by_cases c6:(c>63)
      .have h:=h.1 c6;exact aA (aF.aI h) (l5++[kt (qT c6)])
      .have h:=h.2 c6;have bS:=(@Go.bH.jX o.cx (a) (b) zO);let l6:List fP:=l5++[kf (qF c6),kc [] bS];rcases Bool.eq_false_or_eq_true ((cZ o.cx (a,b)))with c7|c7
       .have h:=h.1 c7;exact aA (aF.aI h) (l6++[kt c7])
       .have h:=h.2 c7;by_cases c8:(a=o.dv)
        .have h:=h.1 c8;exact aA (aF.aI h) (l6++[kf c7,kt (nW.2 c8)])
        .have h:=h.2 c8;exact aA (aF.aI h) (l6++[kf c7,kf (qN.2 c8)])
theorem Er(o:OP)(a b c:Int)(hc:o.cx.length<=1000000000):Cq 403 [op o,oO a b c] (bool (iD o a b c)):=adS o a b c hc (by
 unfold iD JM
 repeat' (first|refine And.intro ?_ ?_|intro _)
 all_goals grind)
def mh(o:OP):Bool:=(decide (o.f1=0)&&decide (o.f2=0)&&decide (o.f3=0))||iD o o.f1 o.f2 o.f3
theorem aa9(o:OP)(hc:o.cx.length<=1000000000)(h:((((o.f1==0&&(o.f2==0&&o.f3==0))=true)->(true)=(mh o))/\(((o.f1==0&&(o.f2==0&&o.f3==0))=false)->(iD o o.f1 o.f2 o.f3)=(mh o)))):Cq 401 [op o] (Am.bool (mh o)):=by
 rcases Bool.eq_false_or_eq_true ((o.f1==0&&(o.f2==0&&o.f3==0)))with c1|c1
 .have h:=h.1 c1;exact aA (aF.aI h) [kt c1]
 .have h:=h.2 c1;exact aA (aF.aI h) [kf c1,kc [] (@Er (o) o.f1 o.f2 o.f3 zO)]
theorem Qp(o:OP)(hc:o.cx.length<=1000000000):Cq 401 [op o] (bool (mh o)):=aa9 o hc (by
 unfold mh;grind)
def dO(o:OP):Int->Bool
 |1=>mh o&&decide ((o.vl.size:Int)<=4096)
 |2=>iD o o.f1 o.f2 o.f3
 |3=>decide ((o.ky.size:Int)<=64)&&decide ((o.vl.size:Int)<=4096)
 |4=>decide ((o.ky.size:Int)<=64)
 |5=>decide (o.n>=-1125899906842624)&&decide (o.n<=1125899906842624)
 |6=>mh o&&decide ((o.vl.size:Int)>=1)&&decide ((o.vl.size:Int)<=64)
 |7=>iD o o.f1 o.f2 o.f3&&decide (o.n>=1)&&decide (o.n<=64-o.f3)
 |8=>iD o o.f1 o.f2 o.f3&&iD o o.t1 o.t2 o.t3&&decide (o.n>=0)&&decide (o.n<=15)
 |_=>false
theorem ap0(o:OP)(hc:o.cx.length<=1000000000)(h:((((mh o)=true)->(decide ((↑(ByteArray.size o.vl):Int)<=4096))=(dO o 1))/\(((mh o)=false)->(false)=(dO o 1)))):Cq 400 [op o] (Am.bool (dO o 1)):=by
 have bS:=(@Qp (o) zO);rcases Bool.eq_false_or_eq_true ((mh o))with c1|c1
 .have h:=h.1 c1;exact aA (aF.aI h) [kc [] bS,kt c1]
 .have h:=h.2 c1;exact aA (aF.aI h) [kc [] bS,kf c1]
theorem ap1(o:OP)(hc:o.cx.length<=1000000000)(h:True):Cq 402 [op o] (Am.bool (dO o 2)):=by
 exact aj [kc [] (@Er (o) o.f1 o.f2 o.f3 zO)]
theorem ap2(o:OP)(h:((((↑(ByteArray.size o.ky):Int)<=64)->(decide ((↑(ByteArray.size o.vl):Int)<=4096))=(dO o 3))/\((¬(↑(ByteArray.size o.ky):Int)<=64)->(false)=(dO o 3)))):Cq 404 [op o] (Am.bool (dO o 3)):=by
 by_cases c1:((↑(ByteArray.size o.ky):Int)<=64)
 .have h:=h.1 c1;exact aA (aF.aI h) [kt (qT c1)]
 .have h:=h.2 c1;exact aA (aF.aI h) [kf (qF c1)]
theorem ap3(o:OP)(h:True):Cq 405 [op o] (Am.bool (dO o 4)):=by
 exact aj []
theorem ap4(o:OP)(h:(((o.n>=(-1125899906842624:Int))->(decide (o.n<=1125899906842624))=(dO o 5))/\((¬o.n>=(-1125899906842624:Int))->(false)=(dO o 5)))):Cq 406 [op o] (Am.bool (dO o 5)):=by
 by_cases c1:(o.n>=(-1125899906842624:Int))
 .have h:=h.1 c1;exact aA (aF.aI h) [kt (qT c1)]
 .have h:=h.2 c1;exact aA (aF.aI h) [kf (qF c1)]
theorem ap5(o:OP)(hc:o.cx.length<=1000000000)(h:((((mh o)=true)->((((↑(ByteArray.size o.vl):Int)>=1)->(decide ((↑(ByteArray.size o.vl):Int)<=64))=(dO o 6))/\((¬(↑(ByteArray.size o.vl):Int)>=1)->(false)=(dO o 6))))/\(((mh o)=false)->(false)=(dO o 6)))):Cq 407 [op o] (Am.bool (dO o 6)):=by
 have bS:=(@Qp (o) zO);rcases Bool.eq_false_or_eq_true ((mh o))with c1|c1
 .have h:=h.1 c1;by_cases c2:((↑(ByteArray.size o.vl):Int)>=1)
  .have h:=h.1 c2;exact aA (aF.aI h) [kc [] bS,kt c1,kt (qT c2)]
  .have h:=h.2 c2;exact aA (aF.aI h) [kc [] bS,kt c1,kf (qF c2)]
 .have h:=h.2 c1;exact aA (aF.aI h) [kc [] bS,kf c1,kY]
theorem ap6(o:OP)(hc:o.cx.length<=1000000000)(h3 : -9223372036854775808<=o.f3/\o.f3<9223372036854775808)(h:((((iD o o.f1 o.f2 o.f3)=true)->(((o.n>=1)->(decide (o.n<=IntKind.wrap IntKind.i64 (64-o.f3)))=(dO o 7))/\((¬o.n>=1)->(false)=(dO o 7))))/\(((iD o o.f1 o.f2 o.f3)=false)->(false)=(dO o 7)))):Cq 408 [op o] (Am.bool (dO o 7)):=by
 have bS:=(@Er (o) o.f1 o.f2 o.f3 zO);rcases Bool.eq_false_or_eq_true ((iD o o.f1 o.f2 o.f3))with c1|c1
 .have h:=h.1 c1;by_cases c2:(o.n>=1)
  .have h:=h.1 c2;exact aA (aF.aI h) [kc [] bS,kt c1,kt (qT c2)]
  .have h:=h.2 c2;exact aA (aF.aI h) [kc [] bS,kt c1,kf (qF c2)]
 .have h:=h.2 c1;exact aA (aF.aI h) [kc [] bS,kf c1,kY]
theorem ap7(o:OP)(hc:o.cx.length<=1000000000)(h:((((iD o o.f1 o.f2 o.f3)=true)->((((iD o o.t1 o.t2 o.t3)=true)->(((o.n>=0)->(decide (o.n<=15))=(dO o 8))/\((¬o.n>=0)->(false)=(dO o 8))))/\(((iD o o.t1 o.t2 o.t3)=false)->(false)=(dO o 8))))/\(((iD o o.f1 o.f2 o.f3)=false)->(false)=(dO o 8)))):Cq 409 [op o] (Am.bool (dO o 8)):=by
 have bS:=(@Er (o) o.f1 o.f2 o.f3 zO);rcases Bool.eq_false_or_eq_true ((iD o o.f1 o.f2 o.f3))with c1|c1
 .have h:=h.1 c1;have fT:=(@Er (o) o.t1 o.t2 o.t3 zO);rcases Bool.eq_false_or_eq_true ((iD o o.t1 o.t2 o.t3))with c2|c2
  .have h:=h.1 c2;by_cases c3:(o.n>=0)
   .have h:=h.1 c3;exact aA (aF.aI h) [kc [] bS,kt c1,kc [] fT,kt c2,kt (qT c3)]
   .have h:=h.2 c3;exact aA (aF.aI h) [kc [] bS,kt c1,kc [] fT,kt c2,kf (qF c3)]
  .have h:=h.2 c2;exact aA (aF.aI h) [kc [] bS,kt c1,kc [] fT,kf c2,kY]
 .have h:=h.2 c1;exact aA (aF.aI h) [kc [] bS,kf c1,kY,kY]
theorem aoW(o:OP)(hc:o.cx.length<=1000000000):Cq 400 [op o] (bool (dO o 1)):=ap0 o hc (by simp only[dO];exact⟨fun h=>by simp[h],fun h=>by simp[h]⟩)
theorem aoX(o:OP)(hc:o.cx.length<=1000000000):Cq 402 [op o] (bool (dO o 2)):=ap1 o hc trivial
theorem aoY(o:OP):Cq 404 [op o] (bool (dO o 3)):=ap2 o (by simp only[dO];exact⟨fun h=>by simp[h],fun h=>by simp[h]⟩)
theorem aoZ(o:OP):Cq 405 [op o] (bool (dO o 4)):=ap3 o trivial
theorem ao0(o:OP):Cq 406 [op o] (bool (dO o 5)):=ap4 o (by simp only[dO];exact⟨fun h=>by simp[h],fun h=>by simp[h]⟩)
theorem ao1(o:OP)(hc:o.cx.length<=1000000000):Cq 407 [op o] (bool (dO o 6)):=ap5 o hc (by simp only[dO];exact⟨fun h=>⟨fun h2=>by simp[h,h2],fun h2=>by simp[h,h2]⟩,fun h=>by simp[h]⟩)
theorem WE{o:OP}{a b c:Int}(h:iD o a b c=true):0<=c/\c<=63:=by
 unfold iD JM at h;grind
theorem ao2(o:OP)(hc:o.cx.length<=1000000000)(h3 : -9223372036854775808<=o.f3/\o.f3<9223372036854775808):Cq 408 [op o] (bool (dO o 7)):=ap6 o hc h3 (by
 simp only[dO];refine⟨fun h=>?_,fun h=>by simp[h]⟩;have:=WE h;rw[Am.Gx zO zO];exact⟨fun h2=>by simp[h,h2],fun h2=>by simp[h,h2]⟩)
theorem ao3(o:OP)(hc:o.cx.length<=1000000000):Cq 409 [op o] (bool (dO o 8)):=ap7 o hc (by
 simp only[dO];exact⟨fun h=>⟨fun h1=>⟨fun h2=>by simp[h,h1,h2],fun h2=>by simp[h,h1,h2]⟩,fun h1=>by simp[h,h1]⟩,fun h=>by simp[h]⟩)
end Go.bV
namespace Go.Dc
open Go Go.Am Go.Proofs Go.eY Go.bH
theorem anr(a b:Int)(s t:yP)(x y z:Int)(hI:Cq 121 [int a,int b] (int x))(hS:Cq 122 [str s,str t] (int y))(hO:Cq 120 [.sl 1 true [[int x],[int y]]] (int z))(h:True):Cq 45 [pt a s,pt b t] (int z):=by
 have _:=h;exact aj [kc [] hI,kc [] hS,kc [] hO]
theorem afA(o:bV.OP)(v:List D)(e:Int)(hW:Cq 28 [bB o.cx,eG (o.dv,IntKind.wrap IntKind.i64 (o.sq-1))] (.bq [bB v,int e]))(r:List D)(h:(((e=0)->(v)=(r))/\((¬e=0)->o.cx=(r)))):Cq 361 [bV.op o] (bB r):=by
 by_cases c1:(e=0)
 .have h:=h.1 c1;have e1:=h;exact ak.out ((show Cq 361 [bV.op o] (.sl 2 false (au v))from aj [kc [] hW,kf (show(e != 0)=false from(yJ Bool.not (nW.2 c1)))])) (aF.GJ (yJ (List.map aQ) e1))
 .have h:=h.2 c1;have e1:=h;exact ak.out ((show Cq 361 [bV.op o] (.sl 2 false (au o.cx))from aj [kc [] hW,kt (show(e != 0)=true from(yJ Bool.not (qN.2 c1)))])) (aF.GJ (yJ (List.map aQ) e1))
theorem Dx(l:List FD)(k:Nat)(f:FD):(dA l).set k (jB f)=dA (l.set k f):=by simp[dA,map_set]
theorem fK(l:List FD):∀x∈dA l,AV.aM [] x=true:=by
 intro c hc;obtain⟨d,_,rfl⟩:=yG.1 hc;rfl
abbrev NY(c:List Sq.CE)(m:List Tx.MK):AV:=.agg [Sq.bZ c,Tx.oI m]
theorem ajU(l:List FD)(k g:Nat)(f:FD)(hk:k<l.length)(hx:l[k]?=some f)(x:List Sq.CE)(h:[ah.aN g 7 false (List.set (dA l) k [int f.pk,str f.pn,AV.sl 9 false (Sq.au x),AV.sl 5 false (Bd.au f.bi),AV.sl 3 false (lH f.ta),AV.sl 9 false (Sq.au f.tc),AV.sl 11 false (Tx.au f.tm)])]=[ah.aN g 7 false (dA (List.set l k (FD.mk f.pk f.pn x f.bi f.ta f.tc f.tm)))]):ak P G 356 [.jC 0 g k 2,Sq.bZ x,int 0] [ah.aN g 7 false (dA l)] (aS.ret (int 0)) [ah.aN g 7 false (dA (List.set l k (FD.mk f.pk f.pn x f.bi f.ta f.tc f.tm)))]:=by
 have bS:g=g:=(rfl);have eH:=h;exact ak.heap ((aj [kO,ko (bC.elem (jB f)),kp bS,kp bS,kp (show(dA l)[k]?=some (jB f)from(iN hx))])) eH
theorem ajV(l:List FD)(k g:Nat)(f:FD)(hk:k<l.length)(hx:l[k]?=some f)(x:List Sq.CE)(e:Int)(he:¬e=0)(h:True):ak P G 356 [.jC 0 g k 2,Sq.bZ x,int e] [ah.aN g 7 false (dA l)] (aS.ret (int e)) [ah.aN g 7 false (dA l)]:=by
 exact aj [kf (qF zO)]
theorem aei(l:List FD)(k g:Nat)(f:FD)(hk:k<l.length)(hx:l[k]?=some f)(x:List Sq.CE)(e:Int):ak P G 356 [.jC 0 g k 2,Sq.bZ x,int e] [.aN g 7 false (dA l)] (.ret (int e)) [.aN g 7 false (dA (if e=0 then l.set k { f with ce:=x }else l))]:=by
 by_cases he:e=0
 .subst he;rw[yL rfl];exact ajU l k g f hk hx x (by rw[<- Dx];rfl)
 .rw [yK he];exact ajV l k g f hk hx x e he trivial
theorem ajW(l:List FD)(k g:Nat)(f:FD)(hk:k<l.length)(hx:l[k]?=some f)(x:List Bd.BE)(h:[ah.aN g 7 false (List.set (dA l) k [int f.pk,str f.pn,AV.sl 9 false (Sq.au f.ce),AV.sl 5 false (Bd.au x),AV.sl 3 false (lH f.ta),AV.sl 9 false (Sq.au f.tc),AV.sl 11 false (Tx.au f.tm)])]=[ah.aN g 7 false (dA (List.set l k (FD.mk f.pk f.pn f.ce x f.ta f.tc f.tm)))]):ak P G 362 [.jC 0 g k 3,Bd.iK x,int 0] [ah.aN g 7 false (dA l)] (aS.ret (int 0)) [ah.aN g 7 false (dA (List.set l k (FD.mk f.pk f.pn f.ce x f.ta f.tc f.tm)))]:=by
 have bS:g=g:=(rfl);have eH:=h;exact ak.heap ((aj [kO,ko (bC.elem (jB f)),kp bS,kp bS,kp (show(dA l)[k]?=some (jB f)from(iN hx))])) eH
theorem ajX(l:List FD)(k g:Nat)(f:FD)(hk:k<l.length)(hx:l[k]?=some f)(x:List Bd.BE)(e:Int)(he:¬e=0)(h:True):ak P G 362 [.jC 0 g k 3,Bd.iK x,int e] [ah.aN g 7 false (dA l)] (aS.ret (int e)) [ah.aN g 7 false (dA l)]:=by
 exact aj [kf (qF zO)]
theorem aej(l:List FD)(k g:Nat)(f:FD)(hk:k<l.length)(hx:l[k]?=some f)(x:List Bd.BE)(e:Int):ak P G 362 [.jC 0 g k 3,Bd.iK x,int e] [.aN g 7 false (dA l)] (.ret (int e)) [.aN g 7 false (dA (if e=0 then l.set k { f with bi:=x }else l))]:=by
 by_cases he:e=0
 .subst he;rw[yL rfl];exact ajW l k g f hk hx x (by rw[<- Dx];rfl)
 .rw [yK he];exact ajX l k g f hk hx x e he trivial
theorem ajY(l:List FD)(k g:Nat)(f:FD)(hk:k<l.length)(hx:l[k]?=some f)(x:List TL)(h:[ah.aN g 7 false (List.set (dA l) k [int f.pk,str f.pn,AV.sl 9 false (Sq.au f.ce),AV.sl 5 false (Bd.au f.bi),AV.sl 3 false (lH x),AV.sl 9 false (Sq.au f.tc),AV.sl 11 false (Tx.au f.tm)])]=[ah.aN g 7 false (dA (List.set l k (FD.mk f.pk f.pn f.ce f.bi x f.tc f.tm)))]):ak P G 367 [.jC 0 g k 4,mF x,int 0] [ah.aN g 7 false (dA l)] (aS.ret (int 0)) [ah.aN g 7 false (dA (List.set l k (FD.mk f.pk f.pn f.ce f.bi x f.tc f.tm)))]:=by
 have bS:g=g:=(rfl);have eH:=h;exact ak.heap ((aj [kO,ko (bC.elem (jB f)),kp bS,kp bS,kp (show(dA l)[k]?=some (jB f)from(iN hx))])) eH
theorem ajZ(l:List FD)(k g:Nat)(f:FD)(hk:k<l.length)(hx:l[k]?=some f)(x:List TL)(e:Int)(he:¬e=0)(h:True):ak P G 367 [.jC 0 g k 4,mF x,int e] [ah.aN g 7 false (dA l)] (aS.ret (int e)) [ah.aN g 7 false (dA l)]:=by
 exact aj [kf (qF zO)]
theorem aj0(l:List FD)(k g:Nat)(f:FD)(hk:k<l.length)(hx:l[k]?=some f)(x:List TL)(e:Int):ak P G 367 [.jC 0 g k 4,mF x,int e] [.aN g 7 false (dA l)] (.ret (int e)) [.aN g 7 false (dA (if e=0 then l.set k { f with ta:=x }else l))]:=by
 by_cases he:e=0
 .subst he;rw[yL rfl];exact ajY l k g f hk hx x (by rw[<- Dx];rfl)
 .rw [yK he];exact ajZ l k g f hk hx x e he trivial
theorem aj1(l:List FD)(k g:Nat)(f:FD)(hk:k<l.length)(hx:l[k]?=some f)(c:List Sq.CE)(m:List Tx.MK)(h:((∀(x:List AV),x∈List.set (dA l) k (dX (jB f) 5 (List.take (TypeInfo.size (Tables.types (Program.toTables P))[65]) (List.drop 0 [Sq.bZ c,Tx.oI m])))->AV.aM [] x=true)/\True)):ak P G 370 [.jC 0 g k 5,NY c m,int 0] [ah.aN g 7 false (dA l)] (aS.ret (int 0)) [ah.aN g 7 false (List.set (dA l) k (jB (FD.mk f.pk f.pn f.ce f.bi f.ta c m)))]:=by
 have bS:g=g:=(rfl);obtain⟨o1,h⟩:=h;exact aj [kO,ko (bC.elem (jB f)),kp bS,kp bS,kp (show(dA l)[k]?=some (jB f)from(iN hx)),kp o1]
theorem aj2(l:List FD)(k g:Nat)(f:FD)(hk:k<l.length)(hx:l[k]?=some f)(c:List Sq.CE)(m:List Tx.MK)(e:Int)(he:¬e=0)(h:True):ak P G 370 [.jC 0 g k 5,NY c m,int e] [ah.aN g 7 false (dA l)] (aS.ret (int e)) [ah.aN g 7 false (dA l)]:=by
 exact aj [kf (qF zO),kp (fK l)]
theorem af4(f:FD)(c:List Sq.CE)(m:List Tx.MK):dX (jB f) 5 (List.take (TypeInfo.size (Tables.types (Program.toTables P))[65]) (List.drop 0 [Sq.bZ c,Tx.oI m]))=jB { f with tc:=c,tm:=m }:=zQ
theorem Zd(l:List FD)(k g:Nat)(f:FD)(hk:k<l.length)(hx:l[k]?=some f)(c:List Sq.CE)(m:List Tx.MK)(e:Int):ak P G 370 [.jC 0 g k 5,NY c m,int e] [.aN g 7 false (dA l)] (.ret (int e)) [.aN g 7 false (dA (if e=0 then l.set k { f with tc:=c,tm:=m }else l))]:=by
 by_cases he:e=0
 .subst he;rw[yL rfl,<- Dx];exact aj1 l k g f hk hx c m ⟨by rw[af4,Dx];exact fK _,yO⟩
 .rw [yK he];exact aj2 l k g f hk hx c m e he trivial
theorem aj3(l:List FD)(k g:Nat)(f:FD)(hk:k<l.length)(hx:l[k]?=some f)(o:bV.OP)(x:List Sq.CE)(e:Int)(l2:List FD)(hF:Cq 355 [Sq.bZ f.ce,.agg [int o.dv,int o.sq,int 0,int o.f1,int o.f2,int o.f3,int o.tm,str o.vl,Am.bool false]] (.bq [Sq.bZ x,int e]))(hS:ak P G 356 [.jC 0 g k 2,Sq.bZ x,int e] [.aN g 7 false (dA l)] (.ret (int e)) [.aN g 7 false (dA l2)])(h:True):ak P G 354 [.jC 0 g k 0,bV.op o] [ah.aN g 7 false (dA l)] (aS.ret (int e)) [ah.aN g 7 false (dA l2)]:=by
 have bS:g=g:=(rfl);have Av:∀(x:List AV),x∈dA l2->AV.aM [] x=true:=(fK _);exact aj [ko (bC.elem (jB f)),kp bS,kp bS,kp bS,kp (show(dA l)[k]?=some (jB f)from(iN hx)),kc [] hF,kp bS,kp bS,kc [0] hS,kp Av,kp (fK l),kp Av]
theorem aiV(l:List FD)(k g:Nat)(f:FD)(hk:k<l.length)(hx:l[k]?=some f)(o:bV.OP)(x:List Sq.CE)(e:Int)(hF:Cq 355 [Sq.bZ f.ce,.agg [int o.dv,int o.sq,int 0,int o.f1,int o.f2,int o.f3,int o.tm,str o.vl,Am.bool false]] (.bq [Sq.bZ x,int e])):ak P G 354 [.jC 0 g k 0,bV.op o] [.aN g 7 false (dA l)] (.ret (int e)) [.aN g 7 false (dA (if e=0 then l.set k { f with ce:=x }else l))] :=
 aj3 l k g f hk hx o x e _ hF (aei l k g f hk hx x e) trivial
theorem aj4(l:List FD)(k g:Nat)(f:FD)(hk:k<l.length)(hx:l[k]?=some f)(o:bV.OP)(x:List Sq.CE)(e:Int)(l2:List FD)(hF:Cq 358 [Sq.bZ f.ce,.agg [int o.f1,int o.f2,int o.f3]] (.bq [Sq.bZ x,int e]))(hS:ak P G 356 [.jC 0 g k 2,Sq.bZ x,int e] [.aN g 7 false (dA l)] (.ret (int e)) [.aN g 7 false (dA l2)])(h:True):ak P G 357 [.jC 0 g k 0,bV.op o] [ah.aN g 7 false (dA l)] (aS.ret (int e)) [ah.aN g 7 false (dA l2)]:=by
 have bS:g=g:=(rfl);have Av:∀(x:List AV),x∈dA l2->AV.aM [] x=true:=(fK _);exact aj [ko (bC.elem (jB f)),kp bS,kp bS,kp bS,kp (show(dA l)[k]?=some (jB f)from(iN hx)),kc [] hF,kp bS,kp bS,kc [0] hS,kp Av,kp (fK l),kp Av]
theorem aiX(l:List FD)(k g:Nat)(f:FD)(hk:k<l.length)(hx:l[k]?=some f)(o:bV.OP)(x:List Sq.CE)(e:Int)(hF:Cq 358 [Sq.bZ f.ce,.agg [int o.f1,int o.f2,int o.f3]] (.bq [Sq.bZ x,int e])):ak P G 357 [.jC 0 g k 0,bV.op o] [.aN g 7 false (dA l)] (.ret (int e)) [.aN g 7 false (dA (if e=0 then l.set k { f with ce:=x }else l))] :=
 aj4 l k g f hk hx o x e _ hF (aei l k g f hk hx x e) trivial
theorem aj5(l:List FD)(k g:Nat)(f:FD)(hk:k<l.length)(hx:l[k]?=some f)(o:bV.OP)(x:List Bd.BE)(v:List D)(e:Int)(l2:List FD)(hN:Cq 361 [bV.op o] (bB v))(hF:Cq 360 [Bd.iK f.bi,bB v,.agg [str o.ky,int o.dv,int o.sq,int o.tm,str o.vl]] (.bq [Bd.iK x,int e]))(hS:ak P G 362 [.jC 0 g k 3,Bd.iK x,int e] [.aN g 7 false (dA l)] (.ret (int e)) [.aN g 7 false (dA l2)])(h:True):ak P G 359 [.jC 0 g k 0,bV.op o] [ah.aN g 7 false (dA l)] (aS.ret (int e)) [ah.aN g 7 false (dA l2)]:=by
 have bS:g=g:=(rfl);have qj:∀(x:List AV),x∈dA l2->AV.aM [] x=true:=(fK _);exact aj [ko (bC.elem (jB f)),kp bS,kp bS,kp bS,kp (show(dA l)[k]?=some (jB f)from(iN hx)),kc [] hN,kc [] hF,kp bS,kp bS,kc [0] hS,kp qj,kp (fK l),kp qj]
theorem aiZ(l:List FD)(k g:Nat)(f:FD)(hk:k<l.length)(hx:l[k]?=some f)(o:bV.OP)(x:List Bd.BE)(v:List D)(e:Int)(hN:Cq 361 [bV.op o] (bB v))(hF:Cq 360 [Bd.iK f.bi,bB v,.agg [str o.ky,int o.dv,int o.sq,int o.tm,str o.vl]] (.bq [Bd.iK x,int e])):ak P G 359 [.jC 0 g k 0,bV.op o] [.aN g 7 false (dA l)] (.ret (int e)) [.aN g 7 false (dA (if e=0 then l.set k { f with bi:=x }else l))] :=
 aj5 l k g f hk hx o x v e _ hN hF (aej l k g f hk hx x e) trivial
theorem aj6(l:List FD)(k g:Nat)(f:FD)(hk:k<l.length)(hx:l[k]?=some f)(o:bV.OP)(x:List Bd.BE)(v:List D)(e:Int)(l2:List FD)(hN:Cq 361 [bV.op o] (bB v))(hF:Cq 364 [Bd.iK f.bi,bB v,str o.ky] (.bq [Bd.iK x,int e]))(hS:ak P G 362 [.jC 0 g k 3,Bd.iK x,int e] [.aN g 7 false (dA l)] (.ret (int e)) [.aN g 7 false (dA l2)])(h:True):ak P G 363 [.jC 0 g k 0,bV.op o] [ah.aN g 7 false (dA l)] (aS.ret (int e)) [ah.aN g 7 false (dA l2)]:=by
 have bS:g=g:=(rfl);have qj:∀(x:List AV),x∈dA l2->AV.aM [] x=true:=(fK _);exact aj [ko (bC.elem (jB f)),kp bS,kp bS,kp bS,kp (show(dA l)[k]?=some (jB f)from(iN hx)),kc [] hN,kc [] hF,kp bS,kp bS,kc [0] hS,kp qj,kp (fK l),kp qj]
theorem ai1(l:List FD)(k g:Nat)(f:FD)(hk:k<l.length)(hx:l[k]?=some f)(o:bV.OP)(x:List Bd.BE)(v:List D)(e:Int)(hN:Cq 361 [bV.op o] (bB v))(hF:Cq 364 [Bd.iK f.bi,bB v,str o.ky] (.bq [Bd.iK x,int e])):ak P G 363 [.jC 0 g k 0,bV.op o] [.aN g 7 false (dA l)] (.ret (int e)) [.aN g 7 false (dA (if e=0 then l.set k { f with bi:=x }else l))] :=
 aj6 l k g f hk hx o x v e _ hN hF (aej l k g f hk hx x e) trivial
theorem aj7(l:List FD)(k g:Nat)(f:FD)(hk:k<l.length)(hx:l[k]?=some f)(o:bV.OP)(x:List TL)(e:Int)(l2:List FD)(hF:Cq 366 [mF f.ta,eG (o.dv,o.sq),int o.n] (.bq [mF x,int e]))(hS:ak P G 367 [.jC 0 g k 4,mF x,int e] [.aN g 7 false (dA l)] (.ret (int e)) [.aN g 7 false (dA l2)])(h:True):ak P G 365 [.jC 0 g k 0,bV.op o] [ah.aN g 7 false (dA l)] (aS.ret (int e)) [ah.aN g 7 false (dA l2)]:=by
 have bS:g=g:=(rfl);have Av:∀(x:List AV),x∈dA l2->AV.aM [] x=true:=(fK _);exact aj [ko (bC.elem (jB f)),kp bS,kp bS,kp bS,kp (show(dA l)[k]?=some (jB f)from(iN hx)),kc [] hF,kp bS,kp bS,kc [0] hS,kp Av,kp (fK l),kp Av]
theorem ajF(l:List FD)(k g:Nat)(f:FD)(hk:k<l.length)(hx:l[k]?=some f)(o:bV.OP)(x:List TL)(e:Int)(hF:Cq 366 [mF f.ta,eG (o.dv,o.sq),int o.n] (.bq [mF x,int e])):ak P G 365 [.jC 0 g k 0,bV.op o] [.aN g 7 false (dA l)] (.ret (int e)) [.aN g 7 false (dA (if e=0 then l.set k { f with ta:=x }else l))] :=
 aj7 l k g f hk hx o x e _ hF (aj0 l k g f hk hx x e) trivial
theorem aj8(l:List FD)(k g:Nat)(f:FD)(hk:k<l.length)(hx:l[k]?=some f)(o:bV.OP)(c:List Sq.CE)(m:List Tx.MK)(e:Int)(l2:List FD)(hF:Cq 369 [NY f.tc f.tm,eG (o.dv,o.sq),int o.tm,.agg [int o.f1,int o.f2,int o.f3],str o.vl] (.bq [NY c m,int e]))(hS:ak P G 370 [.jC 0 g k 5,NY c m,int e] [.aN g 7 false (dA l)] (.ret (int e)) [.aN g 7 false (dA l2)])(h:True):ak P G 368 [.jC 0 g k 0,bV.op o] [ah.aN g 7 false (dA l)] (aS.ret (int e)) [ah.aN g 7 false (dA l2)]:=by
 have bS:g=g:=(rfl);have Av:∀(x:List AV),x∈dA l2->AV.aM [] x=true:=(fK _);exact aj [ko (bC.elem (jB f)),kp bS,kp bS,kp bS,kp (show(dA l)[k]?=some (jB f)from(iN hx)),kc [] hF,kp bS,kp bS,kc [0] hS,kp Av,kp (fK l),kp Av]
theorem ajy(l:List FD)(k g:Nat)(f:FD)(hk:k<l.length)(hx:l[k]?=some f)(o:bV.OP)(c:List Sq.CE)(m:List Tx.MK)(e:Int)(hF:Cq 369 [NY f.tc f.tm,eG (o.dv,o.sq),int o.tm,.agg [int o.f1,int o.f2,int o.f3],str o.vl] (.bq [NY c m,int e])):ak P G 368 [.jC 0 g k 0,bV.op o] [.aN g 7 false (dA l)] (.ret (int e)) [.aN g 7 false (dA (if e=0 then l.set k { f with tc:=c,tm:=m }else l))] :=
 aj8 l k g f hk hx o c m e _ hF (Zd l k g f hk hx c m e) trivial
theorem aj9(l:List FD)(k g:Nat)(f:FD)(hk:k<l.length)(hx:l[k]?=some f)(o:bV.OP)(c:List Sq.CE)(m:List Tx.MK)(e:Int)(l2:List FD)(hF:Cq 372 [NY f.tc f.tm,.agg [int o.f1,int o.f2,int o.f3],int o.n] (.bq [NY c m,int e]))(hS:ak P G 370 [.jC 0 g k 5,NY c m,int e] [.aN g 7 false (dA l)] (.ret (int e)) [.aN g 7 false (dA l2)])(h:True):ak P G 371 [.jC 0 g k 0,bV.op o] [ah.aN g 7 false (dA l)] (aS.ret (int e)) [ah.aN g 7 false (dA l2)]:=by
 have bS:g=g:=(rfl);have Av:∀(x:List AV),x∈dA l2->AV.aM [] x=true:=(fK _);exact aj [ko (bC.elem (jB f)),kp bS,kp bS,kp bS,kp (show(dA l)[k]?=some (jB f)from(iN hx)),kc [] hF,kp bS,kp bS,kc [0] hS,kp Av,kp (fK l),kp Av]
theorem ajA(l:List FD)(k g:Nat)(f:FD)(hk:k<l.length)(hx:l[k]?=some f)(o:bV.OP)(c:List Sq.CE)(m:List Tx.MK)(e:Int)(hF:Cq 372 [NY f.tc f.tm,.agg [int o.f1,int o.f2,int o.f3],int o.n] (.bq [NY c m,int e])):ak P G 371 [.jC 0 g k 0,bV.op o] [.aN g 7 false (dA l)] (.ret (int e)) [.aN g 7 false (dA (if e=0 then l.set k { f with tc:=c,tm:=m }else l))] :=
 aj9 l k g f hk hx o c m e _ hF (Zd l k g f hk hx c m e) trivial
theorem akb(l:List FD)(k g:Nat)(f:FD)(hk:k<l.length)(hx:l[k]?=some f)(o:bV.OP)(c:List Sq.CE)(m:List Tx.MK)(e:Int)(l2:List FD)(hF:Cq 374 [NY f.tc f.tm,.agg [int o.dv,int o.sq,int o.tm,int o.f1,int o.f2,int o.f3,int o.t1,int o.t2,int o.t3,int o.n,Am.bool o.on]] (.bq [NY c m,int e]))(hS:ak P G 370 [.jC 0 g k 5,NY c m,int e] [.aN g 7 false (dA l)] (.ret (int e)) [.aN g 7 false (dA l2)])(h:True):ak P G 373 [.jC 0 g k 0,bV.op o] [ah.aN g 7 false (dA l)] (aS.ret (int e)) [ah.aN g 7 false (dA l2)]:=by
 have bS:g=g:=(rfl);have Av:∀(x:List AV),x∈dA l2->AV.aM [] x=true:=(fK _);exact aj [ko (bC.elem (jB f)),kp bS,kp bS,kp bS,kp (show(dA l)[k]?=some (jB f)from(iN hx)),kc [] hF,kp bS,kp bS,kc [0] hS,kp Av,kp (fK l),kp Av]
theorem ajC(l:List FD)(k g:Nat)(f:FD)(hk:k<l.length)(hx:l[k]?=some f)(o:bV.OP)(c:List Sq.CE)(m:List Tx.MK)(e:Int)(hF:Cq 374 [NY f.tc f.tm,.agg [int o.dv,int o.sq,int o.tm,int o.f1,int o.f2,int o.f3,int o.t1,int o.t2,int o.t3,int o.n,Am.bool o.on]] (.bq [NY c m,int e])):ak P G 373 [.jC 0 g k 0,bV.op o] [.aN g 7 false (dA l)] (.ret (int e)) [.aN g 7 false (dA (if e=0 then l.set k { f with tc:=c,tm:=m }else l))] :=
 akb l k g f hk hx o c m e _ hF (Zd l k g f hk hx c m e) trivial
theorem Pg(l:List FD):∀c∈dA l,c.all AV.fJ=true:=by
 intro c hc;obtain⟨d,_,rfl⟩:=yG.1 hc;rfl
theorem Ze(l:List FD)(f:FD):dA l++[jB f]=dA (l++[f]):=by simp[dA]
theorem TW(l:List FD)(f:FD):dA l++[[int f.pk,str f.pn,AV.sl 9 false (Sq.au f.ce),AV.sl 5 false (Bd.au f.bi),AV.sl 3 false (lH f.ta),AV.sl 9 false (Sq.au f.tc),AV.sl 11 false (Tx.au f.tm)]]=dA (l++[f]):=Ze l f
theorem amE(f:FD)(hT:Cq 118 [mF f.ta] (mF f.ta))(hC:Cq 116 [Sq.bZ f.ce] (Sq.bZ f.ce))(hB:Cq 117 [Bd.iK f.bi] (Bd.iK f.bi))(hX:Cq 116 [Sq.bZ f.tc] (Sq.bZ f.tc))(hM:Cq 119 [Tx.oI f.tm] (Tx.oI f.tm))(h:True):Cq 42 [.agg (jB f)] (.agg (jB f)):=by
 exact aj [kc [] hC,kc [] hB,kc [] hT,kc [] hX,kc [] hM]
def Xj(d:DO)(o:bV.OP)(v:List D)(k:Nat)(X:AV)(H:List ah):St:={ aL:=aC 109 [(2,.ptr 0 0),(3,.ptr 1 0),(4,.ptr 2 0),(5,int 0),(64,Md d.fs),(65,int d.fs.length),(66,int k)],H:=.box [bB d.sn,Md d.fs] :: .box (bV.jy o) :: .box [bB v,X]::H }
def apX(d:DO)(o:bV.OP)(v:List D)(X:AV)(H:List ah):St:={ aL:=aC 109 [(2,.ptr 0 0),(3,.ptr 1 0),(4,.ptr 2 0),(5,int 0)],H:=.box [bB d.sn,Md d.fs] :: .box (bV.jy o) :: .box [bB v,X]::H }
theorem ant(d:DO)(o:bV.OP)(v:List D)(f:FD)(hl:d.fs.length<=1000000)(hk:(0:Int)<(d.fs.length:Int))(hx:d.fs[0]?=some f)(hC:Cq 42 [.agg (jB f)] (.agg (jB f)))(ex:bF)(s':St)(h:Rq 0 12 0 (sM 109 [(2,.ptr 0 0),(3,.ptr 1 0),(4,.ptr 2 0),(5,int 0),(64,.sl 7 false (dA d.fs)),(65,int ↑(length d.fs)),(66,int 1)] [.box [bB d.sn,.sl 7 false (dA d.fs)],.box (bV.jy o),.box [bB v,.aU 4 0 0 1],.box [int f.pk,str f.pn,.sl 9 false (Sq.au f.ce),.sl 5 false (Bd.au f.bi),.sl 3 false (lH f.ta),.sl 9 false (Sq.au f.tc),.sl 11 false (Tx.au f.tm)],.aN 0 7 false [[int f.pk,str f.pn,.sl 9 false (Sq.au f.ce),.sl 5 false (Bd.au f.bi),.sl 3 false (lH f.ta),.sl 9 false (Sq.au f.tc),.sl 11 false (Tx.au f.tm)]]]) ex s'):Rq 0 12 0 (Xj d o v 0 aK []) ex s':=by
 exact aJ [ki ((0:Int)<(↑(length d.fs):Int)),ke (jB f) (dA d.fs) (0:Int) (bG hx),kc [] hC,Qx [int f.pk,str f.pn,AV.sl 9 false (Sq.au f.ce),AV.sl 5 false (Bd.au f.bi),AV.sl 3 false (lH f.ta),AV.sl 9 false (Sq.au f.tc),AV.sl 11 false (Tx.au f.tm)],vV 144] (aB 109 [2,3,4,5,64,65,66]) 5 h
theorem anu(d:DO)(o:bV.OP)(v:List D)(f:FD)(l:List FD)(k g:Nat)(LB:l.length=k)(hll:l.length<=1000000)(hl:d.fs.length<=1000000)(hk:(k:Int)<(d.fs.length:Int))(hx:d.fs[k]?=some f)(hC:Cq 42 [.agg (jB f)] (.agg (jB f)))(ex:bF)(s':St)(h:Rq 0 12 0 (sM 109 [(2,.ptr 0 0),(3,.ptr 1 0),(4,.ptr 2 0),(5,int 0),(64,.sl 7 false (dA d.fs)),(65,int ↑(length d.fs)),(66,int ↑(k+1))] [.box [bB d.sn,.sl 7 false (dA d.fs)],.box (bV.jy o),.box [bB v,.aU 4 (g+1) 0 (length l+1)],.aH,.aN (g+1) 7 false (dA l++[[int f.pk,str f.pn,.sl 9 false (Sq.au f.ce),.sl 5 false (Bd.au f.bi),.sl 3 false (lH f.ta),.sl 9 false (Sq.au f.tc),.sl 11 false (Tx.au f.tm)]])]) ex s'):Rq 0 12 0 (Xj d o v k (AV.aU 4 g 0 l.length) [ah.aH,ah.aN g 7 false (dA l)]) ex s':=by
 exact aJ [ki ((k:Int)<(↑(length d.fs):Int)),ke (jB f) (dA d.fs) k (bG hx),kc [] hC,kq g,kp (fE l).symm,vV ((length l+1)*144),kW 77 (k+1) ↑(k+1),kp (show ∀(x:List AV),x∈dA l++[[int f.pk,str f.pn,AV.sl 9 false (Sq.au f.ce),AV.sl 5 false (Bd.au f.bi),AV.sl 3 false (lH f.ta),AV.sl 9 false (Sq.au f.tc),AV.sl 11 false (Tx.au f.tm)]]->AV.aM [] x=true from(by exact(Am.dx (fK _) (Am.dM rfl Am.eU))))] (aB 109 [2,3,4,5,64,65,66]) 5 h
theorem akc(d:DO)(o:bV.OP)(v:List D)(k:Nat)(hk:¬(k:Int)<(d.fs.length:Int))(h:True):Rq 0 12 0 (Xj d o v k aK []) (bF.exit 0) (apX d o v aK []):=by
 exact aG [kj ((k:Int)<(↑(length d.fs):Int))] (aB 109 [2,3,4,5]) 3
theorem akd(d:DO)(o:bV.OP)(v:List D)(k g:Nat)(l:List FD)(hk:¬(k:Int)<(d.fs.length:Int))(h:True):Rq 0 12 0 (Xj d o v k (AV.aU 4 g 0 l.length) [ah.aH,ah.aN g 7 false (dA l)]) (bF.exit 0) (apX d o v (AV.aU 4 g 0 l.length) [ah.aH,ah.aN g 7 false (dA l)]):=by
 exact aG [kj ((k:Int)<(↑(length d.fs):Int))] (aB 109 [2,3,4,5]) 5
abbrev Ph:AV:=gP 44
abbrev zP(a:Int)(s:yP):ah:=.box [int a,str s]
def U8(i j:Nat):Int:=IntKind.wrap IntKind.i64 (Int.fdiv (↑(i+j):Int) (2^min (Int.toNat 1) (IntKind.bits IntKind.u64)))
theorem Ye{i j:Nat}(h:i+j<=1000000000000):U8 i j=(((i+j)/2:Nat):Int):=by
 have e:(2^min (Int.toNat 1) (IntKind.bits IntKind.u64):Int)=2:=zD
 unfold U8;rw[e,IntKind.wrap_i64,Int.fdiv_eq_ediv_of_nonneg _ zO];omega
theorem anv(f:FD)(a:Int)(s:yP)(c:Int)(hP:Cq 45 [pt f.pk f.pn,pt a s] (int c))(h:True):Cq 44 [.agg (jB f),pt a s] (int c):=by
 exact aj [kc [] hP]
def fbS(l:List FD)(g:Nat)(a:Int)(s:yP)(i j:Nat):St:={ aL:=aC 49 [(0,.aU 0 g 0 l.length),(2,Ph),(4,.ptr 1 0),(8,int l.length),(9,int i),(10,int j)],H:=[.aN g 7 false (dA l),zP a s] }
def fbX(l:List FD)(g:Nat)(a:Int)(s:yP)(i:Nat):St:={ aL:=aC 49 [(0,.aU 0 g 0 l.length),(2,Ph),(4,.ptr 1 0),(8,int l.length),(9,int i)],H:=[.aN g 7 false (dA l),zP a s] }
theorem anw(l:List FD)(g:Nat)(a:Int)(s:yP)(i j:Nat)(wQ:¬(i:Int)<(j:Int))(h:True):Rq 1 43 0 (fbS l g a s i j) (bF.exit 0) (fbX l g a s i):=by
 exact aG [kj ((i:Int)<j)] (aB 49 [0,2,4,8,9]) 2
theorem anx(l:List FD)(g:Nat)(a:Int)(s:yP)(i j m:Nat)(c:FD->Int)(hj:j<=l.length)(hv:l.length<=1000000000)(hm:U8 i j=(m:Int))(hm':IntKind.wrap IntKind.i64 (Int.fdiv (↑(i+j):Int) (2^min (Int.toNat 1) (IntKind.bits IntKind.u64)))=(m:Int))(bg:m<j)(hC:∀f:FD,Cq 44 [.agg (jB f),pt a s] (int (c f)))(ex:bF)(s':St)(h:((((i:Int)<(j:Int))->(∃x2:FD,(l[0+Int.toNat (U8 i j)]?=some x2)/\(((c x2<0)->Rq 1 43 0 (sM 49 [(0,.aU 0 g 0 l.length),(2,iL 44),(4,.ptr 1 0),(8,int ↑l.length),(9,int (U8 i j+1)),(10,int ↑j)] [.aN g 7 false (dA l),.box [int a,str s]]) ex s')/\((¬c x2<0)->Rq 1 43 0 (sM 49 [(0,.aU 0 g 0 l.length),(2,iL 44),(4,.ptr 1 0),(8,int ↑l.length),(9,int ↑i),(10,int (U8 i j))] [.aN g 7 false (dA l),.box [int a,str s]]) ex s'))))/\((¬(i:Int)<(j:Int))->(bF.exit 0=ex)/\(sM 49 [(0,.aU 0 g 0 l.length),(2,iL 44),(4,.ptr 1 0),(8,int ↑l.length),(9,int ↑i)] [.aN g 7 false (dA l),.box [int a,str s]]=s')))):Rq 1 43 0 (fbS l g a s i j) ex s':=by
 have x9:g=g:=(rfl);by_cases c1:((i:Int)<(j:Int))
 .have h:=h.1 c1;obtain⟨x2,o3,h⟩:=h;have OG:=(@hC (x2));let l1:List fP:=[kt (qT c1),kW 20 ((i:Int)+(j:Int)) (↑(i+j):Int),kv 21 (show Am.aF (AV.lit (Value.int IntKind.u64 (IntKind.wrap IntKind.u64 (↑(i+j):Int)))) (AV.lit (Value.int IntKind.u64 (↑(i+j):Int)))from(aF.zf zO zO rfl)),ko (bC.elem (jB x2)),kp (show(0:Int)<=(1:Int)from zO),kp x9,kp (show(0:Int)<=IntKind.wrap IntKind.i64 (Int.fdiv (↑(i+j):Int) (2^min (Int.toNat 1) (IntKind.bits IntKind.u64)))/\IntKind.wrap IntKind.i64 (Int.fdiv (↑(i+j):Int) (2^min (Int.toNat 1) (IntKind.bits IntKind.u64)))<(l.length:Int)from zO),kp x9,kp (show(dA l)[0+Int.toNat (IntKind.wrap IntKind.i64 (Int.fdiv (↑(i+j):Int) (2^min (Int.toNat 1) (IntKind.bits IntKind.u64))))]?=some (jB x2)from(iN o3)),kc [] OG];by_cases c4:(c x2<0)
  .have h:=h.1 c4;exact aJ (l1++[kt (qT c4),kW 33 (IntKind.wrap IntKind.i64 (Int.fdiv (↑(i+j):Int) (2^min (Int.toNat 1) (IntKind.bits IntKind.u64)))+1) (U8 i j+1)]) (aB 49 [0,2,4,8,9,10]) 2 h
  .have h:=h.2 c4;exact aJ (l1++[kf (qF c4)]) (aB 49 [0,2,4,8,9,10]) 2 h
 .have h:=h.2 c1;obtain⟨eX,eS⟩:=h;exact bN.to ((aG [kf (qF c1)] (aB 49 [0,2,4,8,9]) 2)) eX (eB.of_eq eS)
theorem ake(l:List FD)(g:Nat)(a:Int)(s:yP)(p:Nat)(hp:¬(p:Int)<(l.length:Int))(hv:l.length<=1000000000)(hL:Rq 1 43 0 (fbS l g a s 0 l.length) (.exit 0) (fbX l g a s p))(h:True):ak P G 43 [.aU 0 g 0 l.length,pt a s,Ph] [ah.aN g 7 false (dA l)] (aS.ret (AV.bq [int ↑p,Am.bool false])) [ah.aN g 7 false (dA l)]:=by
 exact aj [kq g,kl (rG [(1,1),(3,1),(5,3),(11,38)]) 2 hL,kj ((p:Int)<l.length),kp (fK l)]
theorem akf(l:List FD)(g:Nat)(a:Int)(s:yP)(p:Nat)(c:FD->Int)(hp:(p:Int)<(l.length:Int))(hv:l.length<=1000000000)(hC:∀f:FD,Cq 44 [.agg (jB f),pt a s] (int (c f)))(hL:Rq 1 43 0 (fbS l g a s 0 l.length) (.exit 0) (fbX l g a s p))(r:Bool)(h:(∃x2:FD,(l[0+p]?=some x2)/\(c x2==0)=(r))):ak P G 43 [.aU 0 g 0 l.length,pt a s,Ph] [ah.aN g 7 false (dA l)] (aS.ret (AV.bq [int ↑p,Am.bool r])) [ah.aN g 7 false (dA l)]:=by
 have bS:g=g:=(rfl);obtain⟨x2,o3,h⟩:=h;have e1:=h;exact ak.out ((show ak P G 43 [.aU 0 g 0 l.length,pt a s,Ph] [ah.aN g 7 false (dA l)] (aS.ret (AV.bq [int ↑p,Am.bool (c x2==0)])) [ah.aN g 7 false (dA l)]from aj [kp bS,kl (rG [(1,1),(3,1),(5,3),(11,38)]) 2 hL,ki ((p:Int)<l.length),ko (bC.elem (jB x2)),kp bS,kR (p:Int) (l.length:Int),kp bS,kp (show(dA l)[0+Int.toNat (p:Int)]?=some (jB x2)from(iN o3)),kc [] (@hC (x2)),kp (fK l)])) (aF.iM ⟨aF.refl _,(aF.aI e1),yO⟩)
def rV(c:FD->Int)(l:List FD):Nat:=(l.takeWhile fun f=>decide (c f<0)).length
theorem Rh(c:FD->Int)(l:List FD):rV c l<=l.length:=(takeWhile_sublist _).length_le
def Rc(c:FD->Int)(l:List FD):Prop:=∀m (h:m<l.length),c l[m]<0↔m<rV c l
theorem acC(l:List FD)(g:Nat)(a:Int)(s:yP)(c:FD->Int)(hv:l.length<=1000000000)(hs:Rc c l)(hC:∀f:FD,Cq 44 [.agg (jB f),pt a s] (int (c f))):∀n i j,j-i<=n->i<=rV c l->rV c l<=j->j<=l.length->Rq 1 43 0 (fbS l g a s i j) (.exit 0) (fbX l g a s (rV c l)):=by
 intro n;have he:∀i j,i<=rV c l->rV c l<=j->¬i<j->Rq 1 43 0 (fbS l g a s i j) (.exit 0) (fbX l g a s (rV c l)):=fun i j h1 h2 wQ=>by
  have:=anw l g a s i j zO trivial;rwa[show i=rV c l by omega]at this |-
 induction n with
 |zero=>intro i j hn h1 h2 h3;exact he i j h1 h2 zO
 |succ n ih =>
  intro i j hn h1 h2 h3;by_cases wQ:i<j
  .have hm:=Ye (i:=i) (j:=j) zO;refine anx l g a s i j ((i+j)/2) c h3 hv hm hm zO hC _ _ ⟨fun _=>?_,fun h=>absurd zO h⟩;have bg:(i+j)/2<l.length:=zO
   refine⟨l[(i+j)/2],?_,fun hq=>?_,fun hq=>?_⟩
   .rw [hm,Int.toNat_natCast,Nat.zero_add];exact yA bg
   .have:=(hs _ bg).1 hq;have nx:=ih ((i+j)/2+1) j zO zO h2 h3;rw[hm];exact nx
   .have:¬(i+j)/2<rV c l:=fun h=>hq ((hs _ bg).2 h);have nx:=ih i ((i+j)/2) zO h1 zO zO;rw[hm];exact nx
  .exact he i j h1 h2 wQ
theorem wX(l:List FD)(g:Nat)(a:Int)(s:yP)(c:FD->Int)(hv:l.length<=1000000000)(hs:Rc c l)(hC:∀f:FD,Cq 44 [.agg (jB f),pt a s] (int (c f))) :
 ak P G 43 [.aU 0 g 0 l.length,pt a s,Ph] [.aN g 7 false (dA l)] (.ret (.bq [int (rV c l),Am.bool ((l[rV c l]?).any fun f=>c f==0)])) [.aN g 7 false (dA l)]:=by
 have hp:=Rh c l;have hL:=acC l g a s c hv hs hC _ 0 l.length yM zO hp zO;rcases Nat.lt_or_ge (rV c l) l.length with h|h
 .rw [yA h];exact akf l g a s _ c zO hv hC hL _ ⟨l[rV c l],by rw[Nat.zero_add];exact yA h,rfl⟩
 .rw [getElem?_eq_none h];exact ake l g a s _ zO hv hL trivial
abbrev Xk:AV:=.fn (.func 40) [] [.ptr 0 0]
abbrev dB(d:DO):List ah:=[.box [bB d.sn,Md d.fs]]
theorem anz(x:D)(d:DO)(b:Bool)(hC:Cq 27 [bB d.sn,eG x] (Am.bool b))(h:True):ak P G 40 [eG x,.ptr 0 0] (dB d) (aS.ret (Am.bool !b)) (dB d):=by
 exact aj [kc [] hC]
theorem anA(x:D)(d:DO)(hv:d.sn.length<=1000000000):ak P G 40 [eG x,.ptr 0 0] (dB d) (.ret (Am.bool (!cZ d.sn x))) (dB d):=anz x d _ (bH.jX d.sn _ _ hv) trivial
def iuS(l:List D)(d:DO)(k:Nat):St:={ aL:=aC 19 [(0,bB l),(1,Xk),(4,int 0),(6,bB l),(7,int l.length),(8,int k)],H:=dB d }
theorem anB(l:List D)(d:DO)(k:Nat)(hk:¬(k:Int)<(l.length:Int))(h:True):Rq 1 95 0 (iuS l d k) (bF.exit 0) (St.mk (aC 19 []) (dB d) []):=by
 exact aG [kj ((k:Int)<l.length)] (aB 19 []) 1
theorem akg(l:List D)(d:DO)(k:Nat)(x y:Int)(hl:l.length<=1000000)(hk:(k:Int)<(l.length:Int))(hx:l[k]?=some (x,y))(hC:ak P G 40 [eG (x,y),.ptr 0 0] (dB d) (.ret (Am.bool false)) (dB d))(ex:bF)(s':St)(h:Rq 1 95 0 (sM 19 [(0,bB l),(1,.fn (Fn.func 40) [] [.ptr 0 0]),(4,int 0),(6,bB l),(7,int ↑l.length),(8,int ↑(k+1))] [.box [bB d.sn,.sl 7 false (dA d.fs)]]) ex s'):Rq 1 95 0 (iuS l d k) ex s':=by
 exact aJ [ki ((k:Int)<l.length),ke (aQ (x,y)) (au l) k (bG hx),kc [0] hC,kY,kW 18 (k+1) ↑(k+1)] (aB 19 [0,1,4,6,7,8]) 1 h
theorem anC(l:List D)(d:DO)(k:Nat)(x y:Int)(hl:l.length<=1000000)(hk:(k:Int)<(l.length:Int))(hx:l[k]?=some (x,y))(hC:ak P G 40 [eG (x,y),.ptr 0 0] (dB d) (.ret (Am.bool true)) (dB d))(h:True):Rq 1 95 0 (iuS l d k) bF.ret (St.mk (aC 19 [(4,int ↑k)]) (dB d) []):=by
 exact aG [ki ((k:Int)<l.length),ke (aQ (x,y)) (au l) k (bG hx),kc [0] hC,kO] (aB 19 [4]) 1
theorem akh(l:List D)(d:DO)(hL:Rq 1 95 0 (iuS l d 0) (.exit 0) { aL:=aC 19 [],H:=dB d })(h:True):ak P G 95 [bB l,Xk] (dB d) (aS.ret (int (-1))) (dB d):=by
 exact aj [kN 7 (Go.bH.ay l),kl (rG [(2,2),(5,1),(9,10)]) 1 hL]
theorem aki(l:List D)(d:DO)(k:Nat)(hL:Rq 1 95 0 (iuS l d 0) .ret { aL:=aC 19 [(4,int k)],H:=dB d })(h:True):ak P G 95 [bB l,Xk] (dB d) (aS.ret (int ↑k)) (dB d):=by
 exact aj [kN 7 (Go.bH.ay l),kl (rG [(2,2),(5,1),(9,10)]) 1 hL]
theorem anD(l:List D)(d:DO)(i:Int)(hI:ak P G 95 [bB l,Xk] (dB d) (.ret (int i)) (dB d))(h:True):ak P G 41 [bB l,Xk] (dB d) (aS.ret (Am.bool (decide (i>=0)))) (dB d):=by
 exact aj [kc [0] hI]
theorem anE(l:List D)(d:DO)(hl:l.length<=1000000)(hv:d.sn.length<=1000000000):∀n k,l.length-k=n->k<=l.length->(nE (fun x=>!cZ d.sn x) k (l.drop k) = -1/\Rq 1 95 0 (iuS l d k) (.exit 0) { aL:=aC 19 [],H:=dB d })\/∃j:Nat,nE (fun x=>!cZ d.sn x) k (l.drop k)=(j:Int)/\Rq 1 95 0 (iuS l d k) .ret { aL:=aC 19 [(4,int j)],H:=dB d }:=by
 intro n
 induction n with
 |zero =>
  intro k hk LB;rw[drop_of_length_le zO];exact .inl ⟨rfl,anB l d k zO yO⟩
 |succ n ih =>
  intro k hk LB;have bg:k<l.length:=zO
  have hx:=yA bg;have hc:=anA l[k] d hv;rw[drop_eq_getElem_cons bg,nE];cases e:cZ d.sn l[k]with
  |false =>
   rw[e]at hc;exact .inr ⟨k,zS,anC l d k _ _ hl zO hx hc yO⟩
  |true =>
   rw[e]at hc;rw[yK zS];rcases ih (k+1) zO zO with⟨h1,h2⟩|⟨j,h1,h2⟩
   .exact .inl ⟨h1,akg l d k _ _ hl zO hx hc _ _ h2⟩
   .exact .inr ⟨j,h1,akg l d k _ _ hl zO hx hc _ _ h2⟩
theorem aee(l:List D)(d:DO)(hl:l.length<=1000000)(hv:d.sn.length<=1000000000):ak P G 41 [bB l,Xk] (dB d) (.ret (Am.bool (l.any fun x=>!cZ d.sn x))) (dB d):=by
 have hi:∃i,i=nE (fun x=>!cZ d.sn x) 0 l/\ak P G 95 [bB l,Xk] (dB d) (.ret (int i)) (dB d):=by
  rcases anE l d hl hv _ 0 rfl yN with⟨h1,h2⟩|⟨j,h1,h2⟩
  .exact ⟨_,h1.symm,akh l d h2 yO⟩
  .exact ⟨_,h1.symm,aki l d j h2 yO⟩
 obtain⟨i,rfl,h⟩:=hi;have h:=anD l d _ h trivial;rw[MX]at h;exact h
end Go.Dc
namespace Go.OC
open Go Go.Am Go.Proofs Go.eY Go.Lib
theorem lX{P:Program}(w:World)(tS tR e:TypeId)(ht:P.underlying tS=some (.slice e))(size:Nat)(hz:∀w,(Go.sizeOf e).run P w = .ok size w)(a b:Addr)(la ca lb cb:Nat)(fF:a.block≠b.block)(tA tB:TypeId)(kA kB:Nat)(OD:w.shape? a.block=some (tA,kA))(NS:w.shape? b.block=some (tB,kB))(QA:kA≠0)(Q8:kB≠0)(hf:∀o,w.frozen? ⟨b.block,o,none⟩=false)(hb:b.spot=none) :
 (Extern.SlicesOverlaps.overlaps #[tS,tS] #[tR] #[.slice (some a) la ca,.slice (some b) lb cb]).run P w = .ok (.bool false) w:=by
 have hnb:(a.block != b.block)=true:=by simpa using fF
 have anF:(a.block==b.block)=false:=by simpa using fF
 have hfb:w.frozen? b=false:=by
  obtain⟨x,y,z⟩:=b;simp only at hb;subst hb;exact hf y
 have hfk:=hf kB;change Sem.run P (α:=Value) (do
  let some t:=(#[tS,tS]:Array TypeId)[0]?|stuck "slices.overlaps: no parameter types"
  let .slice elem <- underlying t|stuck "slices.overlaps: slice type expected"
  let size <- sizeOf elem
  match (some a:Option Addr),(some b:Option Addr)with
  |some a,some b =>
   if la=0\/lb=0\/size=0 then pure (Value.bool false)
   else if a.block != b.block&&(<- frozen a)&&(<- frozen b)then unsupported .addressObserved
   else do
    if a.block != b.block then do
     noView a;noView b
     if <- mayBeOne a b then return Value.bool ((<- choose (.extern "sameAddr.stringBytes" 2))==1)
    pure (Value.bool (a.block==b.block&&a.off<b.off+lb*size&&b.off<a.off+la*size))
  |_,_=>pure (Value.bool false)) w=_
 by_cases h0:la=0\/lb=0\/size=0
 .simp [run_underlying ht,hz,h0]
 .cases kB with
  |zero=>exact absurd rfl Q8
  |succ kB =>
   obtain⟨kA,rfl⟩:∃k,kA=k+1:=⟨kA-1,zO⟩;cases hfa:w.frozen? a<;>cases hfe:w.frozen? { block:=a.block,off:=kA+1 } <;>
   simp[run_underlying ht,hz,h0,hnb,anF,frozen,noView,viewAt,mayBeOne,stringish,shape,Sem.run,OD,NS,hfb,hfk,hfa,hfe]
theorem p9{P:Program}(w:World)(dT sT ty elem:TypeId)(sz:Nat)(b o dLen dCap:Nat)(a:Addr)(sLen sCap:Nat)(cs:List Value)(n:Nat)(hu:P.underlying dT=some (.slice elem))(hs:(P.info? elem).map (·.size)=some sz)(hm:n=Nat.min sLen dLen)(hn:cs.length=n*sz)(af5:∀j v,cs[j]?=some v->w.cell? (a.add j)=some v)(hc:∀j,j<cs.length->(w.cell? ⟨b,o+j,none⟩).isSome=true)(hf:∀j,j<cs.length->w.frozen? ⟨b,o+j,none⟩=false)(h1:∀v∈cs,v.oneCell'=true) :
 (Builtin.copy_ #[dT,sT] ty #[.slice (some ⟨b,o,none⟩) dLen dCap,.slice (some a) sLen sCap]).run P w = .ok (goInt n) (w.setCells b o cs):=by
 have hl:=run_loadCells_list (P:=P) w a cs af5;have fB:=run_storeCells_cells (P:=P) b o cs 0 w (by simpa using hc) (by simpa using hf) h1;cases hq:P.info? elem with
 |none=>simp[hq]at hs
 |some i =>
  have hi:i.size=sz:=by simpa[hq]using hs
  simp[Builtin.copy_,run_underlying hu,Builtin.lenOf,Builtin.firstCells,sizeOf,typeInfo,hq,hi,<- hm,<- hn,hl,fB]
def X8(F z:Nat):Prop:=∀ (b n c i vb vo vc:Nat) (cs vs:List Value) (w:World) (hi:i<n) (gY:n+1≤c) (Me:c≤9223372036854775807) (TF:vb≠b) (lG:cs.length=n * z) (Cv:vs.length=z) (jQ:∀ j v,cs[j]? = some v→w.cell? ⟨b,j,none⟩=some v) (Q7:∀ j,j<(n+1) * z→(w.cell? ⟨b,j,none⟩).isSome=true) (Qz:∀ j,w.frozen? ⟨b,j,none⟩=false) (Ev:∀ j v,vs[j]? = some v→w.cell? ⟨vb,vo+j,none⟩=some v) (Gy:∀ v∈cs,v.oneCell'=true) (Gz:∀ v∈vs,v.oneCell'=true) (tA tB:TypeId) (kA kB:Nat) (OD:w.shape? vb=some (tA,kA)) (NS:w.shape? b=some (tB,kB)) (QA:kA≠0) (Q8:kB≠0),Calls Tryz.prog F #[.slice (some ⟨b,0,none⟩) n c,.int .i64 i,.slice (some ⟨vb,vo,none⟩) 1 vc] w fun e w' =>
      e = .returned (.slice (some ⟨b,0,none⟩) (n+1) c)/\w'=(w.drew.setCells b ((i+1)*z) (cs.drop (i*z))).setCells b (i*z) vs
def M5(zB:Value)(z:Nat)(cs:List Value)(n i G:Nat):Array Value:=(cs.take (i*z)).toArray++Builtin.zeroCells zB.cells (n+1-i)++Builtin.zeroCells zB.cells (G-(n+1))
def Yb(F z tE B:Nat)(zB:Value):Prop:=∀ (b n c i vb vo vc:Nat) (cs vs:List Value) (w:World) (hi:i<n) (hnc:n≤c) (gY:c<n+1) (Ia:(n+1) * B≤140737488355328) (lG:cs.length=n * z) (Cv:vs.length=z) (jQ:∀ j v,cs[j]? = some v→w.cell? ⟨b,j,none⟩=some v) (Ev:∀ j v,vs[j]? = some v→w.cell? ⟨vb,vo+j,none⟩=some v) (Gy:∀ v∈cs,v.oneCell'=true) (Gz:∀ v∈vs,v.oneCell'=true),Calls Tryz.prog F #[.slice (some ⟨b,0,none⟩) n c,.int .i64 i,.slice (some ⟨vb,vo,none⟩) 1 vc] w fun e w' =>
      e = .returned (.slice (some ⟨w.heap.size,0,none⟩) (n+1) (grownCap w (n+1) c tE)) /\
      w'=(((w.alloc (.cells (M5 zB z cs n i (grownCap w (n+1) c tE)) tE)).drew.setCells w.heap.size (i*z) vs).drew).setCells w.heap.size ((i+1)*z) (cs.drop (i*z))
theorem KQ{zB:Value}{z:Nat}(hzB:zB.cells.size=z)(cs:List Value)(n i G:Nat)(lG:cs.length=n*z)(hi:i<n)(hG:n+1<=G):(M5 zB z cs n i G).size=G*z:=by
 have h2:(n+1-i)*z+i*z=(n+1)*z:=by rw[<- Nat.add_mul];congr 1;omega
 have h3:(G-(n+1))*z+(n+1)*z=G*z:=by rw[<- Nat.add_mul];congr 1;omega
 have h4:min i n=i:=zO
 simp[M5,Builtin.zeroCells,hzB,lG,h4];omega
theorem mO(b:Nat):∀(vs:List Value)(o:Nat)(w:World),(w.setCells b o vs).os=w.os/\(w.setCells b o vs).tape=w.tape/\(w.setCells b o vs).output=w.output/\(w.setCells b o vs).drawn=w.drawn/\(w.setCells b o vs).heap.size=w.heap.size/\∀i,i≠b->(w.setCells b o vs).heap[i]?=w.heap[i]?
 |[],_,_=>⟨rfl,rfl,rfl,rfl,rfl,fun _ _=>rfl⟩
 |v::r,o,w=>by
  obtain⟨h1,h2,h3,h4,h5,h6⟩:=mO b r (o+1) (w.setCell ⟨b,o,none⟩ v);rw[World.setCells];refine⟨h1,h2,h3,h4,by rw[h5];simp[World.setCell],fun i hi=>?_⟩;rw[h6 i hi];simp[World.setCell,Array.getElem?_modify,Ne.symm hi]
theorem mP(b:Nat):∀(vs:List Value)(o:Nat)(w:World){c:Array Value}{t:TypeId}{fr:Nat×Nat},w.heap[b]?=some (.cells c t fr)->∃c',(w.setCells b o vs).heap[b]?=some (.cells c' t fr)/\c'.size=c.size
 |[],_,_,c,_,_,h=>⟨c,h,rfl⟩
 |v::r,o,w,c,t,fr,h=>by
  rw[World.setCells];obtain⟨c1,h1,e1⟩:∃c1,(w.setCell ⟨b,o,none⟩ v).heap[b]?=some (.cells c1 t fr)/\c1.size=c.size:=by
   refine⟨_,by simp[World.setCell,Array.getElem?_modify,h];rfl,zS⟩
  obtain⟨c2,h2,e2⟩:=mP b r (o+1) _ h1;exact⟨c2,h2,e2.trans e1⟩
theorem RL(w:World)(o:Obj):(w.alloc o).heap.size=w.heap.size+1:=zS
theorem VE(w:World)(R:Array Value)(t:TypeId):(w.alloc (.cells R t)).heap[w.heap.size]?=some (.cells R t):=by
 show(w.heap.push _)[w.heap.size]?=_;rw[Array.getElem?_push_size]
theorem alloc_old(w:World)(o:Obj)(k:Nat)(hk:k<w.heap.size):(w.alloc o).heap[k]?=w.heap[k]? := by
 show(w.heap.push _)[k]?=_;rw[Array.getElem?_push_lt hk,Array.getElem?_eq_getElem hk]
theorem Pj{z:Nat}(hz:z=3\/z=5\/z=7\/z=11){V:View}{w':World}{bb cap g:Nat}{x y:List (List AV)}(hH:V.H=[.aN g z false x])(hG:aD G V)(hbb:bb=V.ρ 0\/V.w.heap.size<=bb)(h1:w'.os=V.w.os)(h2:w'.tape=V.w.tape)(h3:w'.output=V.w.output)(h4:V.w.heap.size<=w'.heap.size)(GH:V.w.drawn<=w'.drawn)(h6:∀i,i<V.w.heap.size->i≠V.ρ 0->w'.heap[i]?=V.w.heap[i]?){c:Array Value}{t:TypeId}(hbl:bb<w'.heap.size)(hh:w'.heap[bb]?=some (.cells c t (0,0)))(iZ:cap*z=c.size)(pK:y.length<=cap)(Zf:cap<=maxLen)(hy:∀r∈y,r.length=z)(hc:∀k j,k<y.length->j<z->∃v,c[k*z+j]?=some v/\v.oneCell'=true/\dI V ((y.getD k []).getD j .aP) v):xu G V [.aN (g+1) z false y] (.ret (.aU 0 (g+1) 0 y.length)) (.returned (.slice (some ⟨bb,0,none⟩) y.length cap)) w':=by
 have bL:V.H.length=1:=by rw[hH];rfl
 have hM:=hG.gW 0 _ (by rw[hH];rfl) rfl;have bg:=hG.lt 0 zO;have fB:Step V { w:=w',M:=fun z=>V.M z\/z=bb,H:=[.aN (g+1) z false y],ρ:=fun _=>bb }:={
  os:=h1
  tape:=h2
  output:=h3
  size:=h4
  drawn:=GH
  keep:=fun b hb hn=>⟨h6 b hb fun e=>hn 0 zO e.symm,⟨fun h=>h.elim id fun e=>(by
   rcases hbb with h'|h'
   .exact absurd (e.trans h').symm (hn 0 zO)
   .exact absurd hb zO),fun h=>.inl h⟩⟩
  data:=fun b hb hn=>⟨h6 b hb fun e=>hn (e▸hM),fun h=>h.elim hn fun e=>(by
   rcases hbb with h'|h'
   .exact hn ((e.trans h')▸hM)
   .exact absurd hb zO)⟩
  bL:=by rw[bL];exact Nat.le_refl _
  fresh:=fun id dU=>by
   have:id=0:=by have:id<1:=dU;omega
   subst this;rcases hbb with h'|h'
   .exact .inl ⟨by rw[bL];exact dU,h'⟩
   .exact .inr h'
  eP:=fun id dU=>by
   have:id=0:=zO
   subst this;unfold dL;rw[hH];exact .inl (Nat.lt_succ_self g) }
 refine⟨_,rfl,fB,?_,rfl,?_⟩
 .exact {
   lt:=fun id dU=>hbl
   eP:=fun id o ho=>by
    match id,ho with
    |0,ho =>
     injection ho with ho;subst ho;refine⟨t,c,hh,by (rcases hz with rfl|rfl|rfl|rfl<;>omega),hy,fun k j hk hj=>?_⟩;obtain⟨v,a1,a2,a3⟩:=hc k j hk hj;exact⟨v,a1,a2,a3.step fB⟩
   inj:=fun i j hi hj _=>by
    have:i<1:=hi;have:j<1:=hj;omega
   gW:=fun id o ho bA=>.inr rfl
   ng:=hG.gD fB }
 .exact .aU 0 (g+1) 0 y.length _ ⟨rfl,Nat.le_refl _,fun _=>⟨some ⟨bb,0,none⟩,cap,c,t,rfl,fun _=>by rw[Nat.zero_mul],pK,Zf,hh,by (rcases hz with rfl|rfl|rfl|rfl<;>omega)⟩⟩
theorem VG{x:List (List AV)}{b:List AV}{i k:Nat}(hi:i<=x.length)(hk:k<(x.take i++[b]++x.drop i).length) :
 (x.take i++[b]++x.drop i).getD k []=if k<i then x.getD k []else if k=i then b else x.getD (k-1) []:=by
 have hl:(x.take i).length=i:=by rw[length_take];omega
 simp only[yB];by_cases h1:k<i
 .grind
 .grind
set_option maxHeartbeats 2000000 in
theorem uL{F z tE B:Nat}{zB:Value}(hz:z=3\/z=5\/z=7\/z=11)(hB:B<=144)(hzB:zB.cells.size=z)(hS:X8 F z)(hg:Yb F z tE B zB)(x w:List (List AV))(b:List AV)(g i:Nat)(hb7:b.length=z)(hi:i<x.length)(hx:x.length<=1000000000):ak P G F [.aU 0 g 0 x.length,int i,.sl z false [b]] [.aN g z false (x++w)] (.ret (.aU 0 (g+1) 0 (x.take i++[b]++x.drop i).length)) [.aN (g+1) z false (x.take i++[b]++x.drop i)]:=by
 intro V vs hH hG hr;rw[callsIn_wide];obtain⟨v0,v1,v2,rfl⟩:∃v0 v1 v2,vs=[v0,v1,v2]:=by
  have:=hr.1
  match vs,this with
  |[a,b,c],_=>exact⟨a,b,c,rfl⟩
 have e1:=bW hr.tail.head;subst e1;have hs:=jF hr.tail.tail.head;have ho:=(wV hr.head).2;have hH0:V.H[0]?=some (.aN g z false (x++w)):=by rw[hH];rfl
 rw[hH0]at ho;obtain⟨A,cap,c,t,rfl,hA,uQ,Zf,kZ,Dy⟩:=ho.2 rfl;obtain⟨t',c',M6,aqy,akj,af6⟩:=hG.eP 0 _ hH0;rw[kZ]at M6;injection M6 with M6;injection M6 with ec et;subst ec et;have acD:∀r∈x,r.length=z:=fun r hr=>akj r (mem_append_left _ hr);have lT:∀k j,k<x.length->j<z->∃v,c[k*z+j]?=some v/\v.oneCell'=true/\dI V ((x.getD k []).getD j .aP) v:=fun k j hk hj=>by
  have:=af6 k j (by rw[yD];omega) hj;rwa[show(x++w).getD k []=x.getD k [] by rw[yB,yB,getElem?_append_left hk]]at this
 have akk:cap≠0:=zO
 rw[Nat.zero_add]at Dy;rw[hA akk,Nat.zero_mul];cases hs with
 |sl _ _ _ A2 cap2 vb vo f hA2 XB aqp ht2 aqz Zg ho2 Y7 =>
  have e2:=hA2 zS;subst e2;have hMb:=XB zS zO;have hM:=hG.gW 0 _ hH0 rfl;have fF:vb≠V.ρ 0:=fun e=>hMb (e▸hM);have hbw:=hG.lt 0 (by rw[hH];exact Nat.zero_lt_one);have aqA:=M7 (Zg 0 0 Nat.zero_lt_one zO);obtain⟨VS,hVS⟩:∃VS:List Value,VS=(List.range z).map (f 0):=⟨_,rfl⟩;obtain⟨CS,hCS⟩:∃CS:List Value,CS=c.toList.take (x.length*z):=⟨_,rfl⟩;have Cv:VS.length=z:=by rw[hVS];simp
  have lG:CS.length=x.length*z:=by rw[hCS,length_take,show c.toList.length=c.size from Array.length_toList];(rcases hz with rfl|rfl|rfl|rfl<;>omega)
  have hVg:∀j,j<z->VS[j]?=some (f 0 j):=fun j hj=>by rw[hVS];simp[hj]
  have hCg:∀j,j<x.length*z->CS[j]?=c[j]? := fun j hj=>by rw[hCS,getElem?_take,yL hj,Array.getElem?_toList]
  have Ev:∀j v,VS[j]?=some v->V.w.cell? ⟨vb,vo+j,none⟩=some v:=fun j v hj=>by
   have hj7:j<z:=by rw[<- Cv];exact(yC.1 hj).1
   rw[hVg j hj7]at hj;have h1:=Zg 0 j Nat.zero_lt_one hj7;rw[<- Option.some.inj hj];simpa using h1
  have jQ:∀j v,CS[j]?=some v->V.w.cell? ⟨V.ρ 0,j,none⟩=some v:=fun j v hj=>by
   have JN:j<x.length*z:=by rw[<- lG];exact(yC.1 hj).1
   rw[hCg j JN]at hj;simp only[World.cell?,kZ];exact hj
  have Gz:∀v∈VS,v.oneCell'=true:=fun v hv=>by
   rw[hVS]at hv;obtain⟨j,hj,rfl⟩:=yG.1 hv;exact ho2 0 j Nat.zero_lt_one (mem_range.1 hj)
  have Gy:∀v∈CS,v.oneCell'=true:=fun v hv=>by
   obtain⟨j,hj,e⟩:=getElem_of_mem hv;have hj':j<x.length*z:=zO
   obtain⟨u,hu,VH,_⟩:=lT (j/z) (j % z) (by (rcases hz with rfl|rfl|rfl|rfl<;>omega)) (Nat.mod_lt _ zO);rw[show j/z*z+j % z=j by (rcases hz with rfl|rfl|rfl|rfl<;>omega)]at hu;have:CS[j]?=some v:=by rw[yA hj,e]
   rw[hCg j hj',hu]at this;rw[<- Option.some.inj this];exact VH
  have hy:(x.take i++[b]++x.drop i).length=x.length+1:=by simp;omega
  have QV:∀r∈x.take i++[b]++x.drop i,r.length=z:=fun r hr=>by
   rcases yI.1 hr with hr|hr
   .grind
   .grind
  have Xl:(CS.drop (i*z)).length=(x.length-i)*z:=by rw[length_drop,lG,Nat.sub_mul]
  have fin:∀(W:World)(bb:Nat)(c1:Array Value)(t1:TypeId),W.heap[bb]?=some (.cells c1 t1 (0,0))->(∀j v,j<i*z->CS[j]?=some v->W.cell? ⟨bb,j,none⟩=some v)->(∀j (hj:j<z),W.cell? ⟨bb,i*z+j,none⟩=some (VS[j]'zO))->(∀j (hj:j<(CS.drop (i*z)).length),W.cell? ⟨bb,(i+1)*z+j,none⟩=some (CS.drop (i*z))[j]) ->
   ∀k j,k<(x.take i++[b]++x.drop i).length->j<z->∃v,c1[k*z+j]?=some v/\v.oneCell'=true/\dI V (((x.take i++[b]++x.drop i).getD k []).getD j .aP) v:=fun W bb c1 t1 hh k1 k2 k3 k j hk hj=>by
   have hW:∀q v,W.cell? ⟨bb,q,none⟩=some v->c1[q]?=some v:=fun q v h=>by
    simp only[World.cell?,hh]at h;exact h
   rw[VG zO hk];rw[hy]at hk;by_cases h1:k<i
   .rw [yL h1];obtain⟨u,hu,VH,VD⟩:=lT k j zO hj;exact⟨u,hW _ _ (k1 _ u (by (rcases hz with rfl|rfl|rfl|rfl<;>omega)) (by rw[hCg _ (by (rcases hz with rfl|rfl|rfl|rfl<;>omega))];exact hu)),VH,VD⟩
   .rw [yK h1];by_cases h2:k=i
    .subst h2;rw[yL rfl];refine⟨f 0 j,?_,ho2 0 j Nat.zero_lt_one hj,.pure _ _ (Y7 0 j Nat.zero_lt_one hj)⟩;rw[hW _ _ (k2 j hj)];have:=hVg j hj;rw[yA zO]at this;exact this
    .rw [yK h2];obtain⟨u,hu,VH,VD⟩:=lT (k-1) j zO hj;refine⟨u,?_,VH,VD⟩;have hq:(k-1)*z+j-i*z<(CS.drop (i*z)).length:=by rw[Xl];(rcases hz with rfl|rfl|rfl|rfl<;>omega)
     have:=k3 ((k-1)*z+j-i*z) hq;rw[show(i+1)*z+((k-1)*z+j-i*z)=k*z+j by (rcases hz with rfl|rfl|rfl|rfl<;>omega)]at this;rw[hW _ _ this];have hg:CS[(k-1)*z+j]?=some u:=by rw[hCg _ (by (rcases hz with rfl|rfl|rfl|rfl<;>omega))];exact hu
     rw[<- yA hq,getElem?_drop,show i*z+((k-1)*z+j-i*z)=(k-1)*z+j by (rcases hz with rfl|rfl|rfl|rfl<;>omega)];exact hg
  rcases Nat.lt_or_ge cap (x.length+1)with gY|gY
  .have FZ:=hg (V.ρ 0) x.length cap i vb vo cap2 CS VS V.w hi uQ gY (Nat.le_trans (Nat.mul_le_mul_left _ hB) zO) lG Cv jQ Ev Gy Gz;refine Calls.mono FZ fun e w' he=>?_;obtain⟨rfl,rfl⟩:=he;have hGn:x.length+1<=grownCap V.w (x.length+1) cap tE:=grownCap_ge V.w _ _ _;have hGm:=grownCap_le_maxLen V.w (x.length+1) cap tE (by unfold maxLen;omega);obtain⟨GG,hGG⟩:∃GG,GG=grownCap V.w (x.length+1) cap tE:=⟨_,rfl⟩;rw[<- hGG]at hGn hGm |-;have hRs:=KQ hzB _ _ _ _ lG hi hGn;have hRt:∀j v,j<i*z->CS[j]?=some v->(M5 zB z CS x.length i GG)[j]?=some v:=fun j v hj hv=>by
    rw[M5,Array.append_assoc,Array.getElem?_append_left (by rw[size_toArray,length_take];(rcases hz with rfl|rfl|rfl|rfl<;>omega)),getElem?_toArray,getElem?_take,yL hj,hv]
   obtain⟨oJ,yg⟩:∃oJ,oJ=M5 zB z CS x.length i GG:=⟨_,rfl⟩;rw[<- yg]at hRs hRt |-;obtain⟨W0,hW0⟩:∃W0,W0=V.w.alloc (.cells oJ tE):=⟨_,rfl⟩;have aqB:W0.heap.size=V.w.heap.size+1:=by rw[hW0];exact RL _ _
   have akl:W0.heap[V.w.heap.size]?=some (.cells oJ tE):=by rw[hW0];exact VE _ _ _
   have akm:∀j,W0.cell? ⟨V.w.heap.size,j,none⟩=oJ[j]? := fun j=>by simp only[World.cell?,akl];rfl
   have anG:∀k,k<V.w.heap.size->W0.heap[k]?=V.w.heap[k]? := fun k hk=>by rw[hW0];exact alloc_old _ _ _ hk
   have w1:W0.os=V.w.os:=by rw[hW0];rfl
   have w2:W0.tape=V.w.tape:=by rw[hW0];rfl
   have w3:W0.output=V.w.output:=by rw[hW0];rfl
   have w4:W0.drawn=V.w.drawn:=by rw[hW0];rfl
   rw[<- hW0];clear hW0 yg hGG FZ;obtain⟨a1,a2,a3,a4,a5,a6⟩:=mO V.w.heap.size VS (i*z) W0.drew;obtain⟨b1,b2,b3,b4,b5,b6⟩:=mO V.w.heap.size (CS.drop (i*z)) ((i+1)*z) ((W0.drew.setCells V.w.heap.size (i*z) VS).drew);obtain⟨d1,g1,s1⟩:=mP V.w.heap.size VS (i*z) W0.drew akl;obtain⟨d2,g2,s2⟩:=mP V.w.heap.size (CS.drop (i*z)) ((i+1)*z) ((W0.drew.setCells V.w.heap.size (i*z) VS).drew) g1;have IL:∀j,j<(x.length+1)*z->(W0.drew.cell? ⟨V.w.heap.size,j,none⟩).isSome=true:=fun j hj=>by
    have hj':j<oJ.size:=by (rcases hz with rfl|rfl|rfl|rfl<;>omega)
    show(W0.cell? _).isSome=true;rw[akm,Array.getElem?_eq_getElem hj'];rfl
   have RN:∀j,j<(x.length+1)*z->((W0.drew.setCells V.w.heap.size (i*z) VS).cell? ⟨V.w.heap.size,j,none⟩).isSome=true:=fun j hj =>
    isSome_setCells V.w.heap.size VS (i*z) W0.drew (fun k hk=>IL (i*z+k) (by rw[Cv]at hk;(rcases hz with rfl|rfl|rfl|rfl<;>omega))) j (IL j hj)
   rw[<- hy];refine Pj hz hH hG (.inr yM) ?_ ?_ ?_ ?_ ?_ ?_ ?_ g2 ?_ (by rw[hy];exact hGn) hGm QV ?_
   .rw [b1];show(W0.drew.setCells V.w.heap.size (i*z) VS).os=_;rw[a1];exact w1
   .rw [b2];show(W0.drew.setCells V.w.heap.size (i*z) VS).tape=_;rw[a2];exact w2
   .rw [b3];show(W0.drew.setCells V.w.heap.size (i*z) VS).output=_;rw[a3];exact w3
   .rw [b5];show _<=(W0.drew.setCells V.w.heap.size (i*z) VS).heap.size;rw[a5];show _<=W0.heap.size;omega
   .rw [b4];show _<=(W0.drew.setCells V.w.heap.size (i*z) VS).drawn+1;rw[a4];show _<=W0.drawn+1+1;omega
   .intro k hk _;rw[b6 k zO];show(W0.drew.setCells V.w.heap.size (i*z) VS).heap[k]?=_;rw[a6 k zO];exact anG k hk
   .rw [b5];show _<(W0.drew.setCells V.w.heap.size (i*z) VS).heap.size;rw[a5];show _<W0.heap.size;omega
   .rw [s2,s1];omega
   .refine fin _ _ d2 _ g2 (fun j v hj hv=>?_) (fun j hj=>?_) fun j hj=>?_
    .rw [World.cell?_setCells_out _ _ _ _ _ (fun _ _=>.inl (by show j<(i+1)*z;(rcases hz with rfl|rfl|rfl|rfl<;>omega)))];show(W0.drew.setCells V.w.heap.size (i*z) VS).cell? _=_;rw[World.cell?_setCells_out _ _ _ _ _ (fun _ _=>.inl hj)];show W0.cell? _=_;rw[akm];exact hRt j v hj hv
    .rw [World.cell?_setCells_out _ _ _ _ _ (fun _ _=>.inl (by show i*z+j<(i+1)*z;(rcases hz with rfl|rfl|rfl|rfl<;>omega)))];exact World.cell?_setCells_in V.w.heap.size VS (i*z) W0.drew (fun k hk=>IL (i*z+k) (by rw[Cv]at hk;(rcases hz with rfl|rfl|rfl|rfl<;>omega))) j zO
    .exact World.cell?_setCells_in V.w.heap.size (CS.drop (i*z)) ((i+1)*z) (W0.drew.setCells V.w.heap.size (i*z) VS).drew (fun k hk=>RN ((i+1)*z+k) (by rw[Xl]at hk;(rcases hz with rfl|rfl|rfl|rfl<;>omega))) j hj
  .have hvc:=Ev 0 _ (hVg 0 zO);obtain⟨tA,kA,OD,QA⟩:∃tA kA,V.w.shape? vb=some (tA,kA)/\kA≠0:=by
    unfold World.cell? at hvc;simp only at hvc;split at hvc
    .rename_i c2 t2 f2 hq;refine⟨t2,c2.size,by simp[World.shape?,hq],?_⟩;have:c2[vo]?=some (f 0 0):=by simpa using hvc
     have:=(Array.getElem?_eq_some_iff.1 this).1;omega
    .cases hvc
   have FZ:=hS (V.ρ 0) x.length cap i vb vo cap2 CS VS V.w hi gY (by unfold maxLen at Zf;omega) fF lG Cv jQ
    (fun j hj=>by simp only[World.cell?,kZ];show(c[j]?).isSome=true;rw[Array.getElem?_eq_getElem (by (rcases hz with rfl|rfl|rfl|rfl<;>omega))];rfl) (fun j=>by simp[World.frozen?,kZ]) Ev Gy Gz tA t kA c.size OD (by simp[World.shape?,kZ]) QA (by (rcases hz with rfl|rfl|rfl|rfl<;>omega))
   refine Calls.mono FZ fun e w' he=>?_;obtain⟨rfl,rfl⟩:=he;obtain⟨a1,a2,a3,a4,a5,a6⟩:=mO (V.ρ 0) (CS.drop (i*z)) ((i+1)*z) V.w.drew;obtain⟨b1,b2,b3,b4,b5,b6⟩:=mO (V.ρ 0) VS (i*z) (V.w.drew.setCells (V.ρ 0) ((i+1)*z) (CS.drop (i*z)));obtain⟨d1,g1,s1⟩:=mP (V.ρ 0) (CS.drop (i*z)) ((i+1)*z) V.w.drew kZ;obtain⟨d2,g2,s2⟩:=mP (V.ρ 0) VS (i*z) _ g1;have IL:∀j,j<(x.length+1)*z->(V.w.drew.cell? ⟨V.ρ 0,j,none⟩).isSome=true:=fun j hj=>by
    show(V.w.cell? ⟨V.ρ 0,j,none⟩).isSome=true;simp only[World.cell?,kZ];show(c[j]?).isSome=true;rw[Array.getElem?_eq_getElem (by (rcases hz with rfl|rfl|rfl|rfl<;>omega))];rfl
   have RN:∀j,j<(x.length+1)*z->((V.w.drew.setCells (V.ρ 0) ((i+1)*z) (CS.drop (i*z))).cell? ⟨V.ρ 0,j,none⟩).isSome=true:=fun j hj =>
    isSome_setCells (V.ρ 0) (CS.drop (i*z)) ((i+1)*z) V.w.drew (fun k hk=>IL ((i+1)*z+k) (by rw[Xl]at hk;(rcases hz with rfl|rfl|rfl|rfl<;>omega))) j (IL j hj)
   rw[<- hy];refine Pj hz hH hG (.inl rfl) ?_ ?_ ?_ ?_ ?_ ?_ ?_ g2 ?_ (by rw[hy];exact gY) Zf QV ?_
   .rw [b1,a1];rfl
   .rw [b2,a2];rfl
   .rw [b3,a3];rfl
   .rw [b5,a5];exact Nat.le_refl _
   .rw [b4,a4];show _<=V.w.drawn+1;omega
   .intro k hk fF;rw[b6 k fF,a6 k fF];rfl
   .rw [b5,a5];exact hbw
   .rw [s2,s1];exact Dy
   .refine fin _ _ d2 _ g2 (fun j v hj hv=>?_) (fun j hj=>?_) fun j hj=>?_
    .rw [World.cell?_setCells_out _ _ _ _ _ (fun _ _=>.inl hj),World.cell?_setCells_out _ _ _ _ _ (fun _ _=>.inl (by show j<(i+1)*z;(rcases hz with rfl|rfl|rfl|rfl<;>omega)))];exact jQ j v hv
    .exact World.cell?_setCells_in (V.ρ 0) VS (i*z) (V.w.drew.setCells (V.ρ 0) ((i+1)*z) (CS.drop (i*z))) (fun k hk=>RN (i*z+k) (by rw[Cv]at hk;(rcases hz with rfl|rfl|rfl|rfl<;>omega))) j zO
    .rw [World.cell?_setCells_out _ _ _ _ _ (fun _ _=>.inr (by show i*z+VS.length<=(i+1)*z+j;rw[Cv];(rcases hz with rfl|rfl|rfl|rfl<;>omega)))];exact World.cell?_setCells_in (V.ρ 0) (CS.drop (i*z)) ((i+1)*z) V.w.drew (fun k hk=>IL ((i+1)*z+k) (by rw[Xl]at hk;(rcases hz with rfl|rfl|rfl|rfl<;>omega))) j hj
theorem Mi{tS tE z:Nat}(hz:z=3\/z=5\/z=7\/z=11)(Iw:Tryz.prog.underlying tS=some (.slice tE))(iZ:(Tryz.prog.info? tE).map (·.size)=some z){b n c i vb vo vc:Nat}{cs vs:List Value}{w:World}(hi:i<n)(gY:n+1<=c)(Me:c<=9223372036854775807)(TF:vb≠b)(lG:cs.length=n*z)(Cv:vs.length=z)(jQ:∀j v,cs[j]?=some v->w.cell? ⟨b,j,none⟩=some v)(Q7:∀j,j<(n+1)*z->(w.cell? ⟨b,j,none⟩).isSome=true)(Qz:∀j,w.frozen? ⟨b,j,none⟩=false)(Ev:∀j v,vs[j]?=some v->w.cell? ⟨vb,vo+j,none⟩=some v)(Gy:∀v∈cs,v.oneCell'=true)(Gz:∀v∈vs,v.oneCell'=true){tA tB:TypeId}{kA kB:Nat}(OD:w.shape? vb=some (tA,kA))(NS:w.shape? b=some (tB,kB))(QA:kA≠0)(Q8:kB≠0) :
 ¬((i:Int)=(n:Int))/\IntKind.i64.wrap ((i:Int)+1)=(i:Int)+1/\IntKind.i64.wrap ((n:Int)+1)=(n:Int)+1/\(0:Int)<=(i:Int)+1/\i<=n/\((i:Int)+1).toNat=i+1/\¬(c=i+1)/\(i:Int)<=(n:Int)+1/\¬(c=i)/\∃W1,W1=w.drew.setCells b ((i+1)*z) (cs.drop (i*z))/\(∀ty dc sc,(Builtin.copy_ #[tS,tS] ty #[.slice (some ⟨b,(i+1)*z,none⟩) (n-i) dc,.slice (some ⟨b,i*z,none⟩) (n+1-i) sc]).run Tryz.prog w.drew = .ok (goInt ((n-i:Nat):Int)) (W1))/\(∀(W:World),(∀x,W.cell? x=W1.cell? x)->(∀x,W.frozen? x=W1.frozen? x)->∀ty dc,(Builtin.copy_ #[tS,tS] ty #[.slice (some ⟨b,i*z,none⟩) (n+1-i) dc,.slice (some ⟨vb,vo,none⟩) 1 vc]).run Tryz.prog W = .ok (goInt 1) (W.setCells b (i*z) vs)):=by
 have jw:¬((i:Int)=(n:Int)):=zO
 have OE:IntKind.i64.wrap ((i:Int)+1)=(i:Int)+1:=by rw[IntKind.wrap_i64];omega
 have hw2:IntKind.i64.wrap ((n:Int)+1)=(n:Int)+1:=by rw[IntKind.wrap_i64];omega
 have Xl:(cs.drop (i*z)).length=(n-i)*z:=by rw[length_drop,lG,Nat.sub_mul]
 have Mf:(0:Int)<=(i:Int)+1:=zO
 have vN:i<=n:=zO
 have X9:((i:Int)+1).toNat=i+1:=zO
 have XB:¬(c=i+1):=zO
 have Ya:(i:Int)<=(n:Int)+1:=zO
 have hb4:¬(c=i):=zO
 have J2:∀ty dc sc,(Builtin.copy_ #[tS,tS] ty #[.slice (some ⟨b,(i+1)*z,none⟩) (n-i) dc,.slice (some ⟨b,i*z,none⟩) (n+1-i) sc]).run Tryz.prog w.drew = .ok (goInt ((n-i:Nat):Int)) (w.drew.setCells b ((i+1)*z) (cs.drop (i*z))):=fun ty dc sc =>
  p9 w.drew _ _ ty tE z b ((i+1)*z) (n-i) dc ⟨b,i*z,none⟩ (n+1-i) sc (cs.drop (i*z)) (n-i) Iw iZ (by simp only[Nat.min_def];split<;>omega) Xl
   (fun j v hj=>by rw[Addr.add_lit];exact jQ (i*z+j) v (by rwa[getElem?_drop]at hj))
   (fun j hj=>by rw[Xl]at hj;exact Q7 _ (by (rcases hz with rfl|rfl|rfl|rfl<;>omega))) (fun j hj=>Qz _) (fun v hv=>Gy v (mem_of_mem_drop hv))
 obtain⟨W1,KF⟩:∃W1,W1=w.drew.setCells b ((i+1)*z) (cs.drop (i*z)):=⟨_,rfl⟩;have anH:∀k,k<(n+1)*z->(W1.cell? ⟨b,k,none⟩).isSome=true:=fun k hk=>by
  rw[KF];exact isSome_setCells b _ _ _ (fun j hj=>by rw[Xl]at hj;exact Q7 _ (by (rcases hz with rfl|rfl|rfl|rfl<;>omega))) _ (Q7 k hk)
 have Mh:∀(W:World),(∀x,W.cell? x=W1.cell? x)->(∀x,W.frozen? x=W1.frozen? x)->∀ty dc,(Builtin.copy_ #[tS,tS] ty #[.slice (some ⟨b,i*z,none⟩) (n+1-i) dc,.slice (some ⟨vb,vo,none⟩) 1 vc]).run Tryz.prog W = .ok (goInt 1) (W.setCells b (i*z) vs):=fun W hWc hWf ty dc =>
  p9 W _ _ ty tE z b (i*z) (n+1-i) dc ⟨vb,vo,none⟩ 1 vc vs 1 Iw iZ (by simp only[Nat.min_def];split<;>omega) zO
   (fun j v hj=>by
    rw[Addr.add_lit,hWc,KF,World.cell?_setCells_out b _ _ _ _ (fun h _=>absurd h TF)];exact Ev j v hj)
   (fun j hj=>by rw[hWc];exact anH _ (by (rcases hz with rfl|rfl|rfl|rfl<;>omega))) (fun j hj=>by rw[hWf,KF,World.frozen?_setCells];exact Qz _) Gz
 rw[<- KF]at J2;exact⟨jw,OE,hw2,Mf,vN,X9,XB,Ya,hb4,W1,KF,J2,Mh⟩
theorem TG{tS tE z B:Nat}{zB:Value}(hz:z=3\/z=5\/z=7\/z=11)(hB:B=24\/B=56\/B=88\/B=144)(Iw:Tryz.prog.underlying tS=some (.slice tE))(iZ:(Tryz.prog.info? tE).map (·.size)=some z)(NS:(Tryz.prog.info? tE).map (fun i=>(i.size,i.bytes,i.zero))=some (z,B,some zB))(hzB:zB.cells.size=z){b n c i vb vo vc:Nat}{cs vs:List Value}{w:World}(hi:i<n)(hnc:n<=c)(gY:c<n+1)(Ia:(n+1)*B<=140737488355328)(lG:cs.length=n*z)(Cv:vs.length=z)(jQ:∀j v,cs[j]?=some v->w.cell? ⟨b,j,none⟩=some v)(Ev:∀j v,vs[j]?=some v->w.cell? ⟨vb,vo+j,none⟩=some v)(Gy:∀v∈cs,v.oneCell'=true)(Gz:∀v∈vs,v.oneCell'=true) :
 ∃G oJ,G=grownCap w (n+1) c tE/\oJ=M5 zB z cs n i G/\¬((i:Int)=(n:Int))/\(c:Int)<(n:Int)+1/\¬(G=i)/\¬(G=i+1)/\¬(c=i)/\IntKind.i64.wrap ((i:Int)+1)=(i:Int)+1/\(0:Int)<=(i:Int)+1/\i<=n/\((i:Int)+1).toNat=i+1/\(i:Int)<=(n:Int)/\n+1<=G/\G<=9223372036854775807/\(∀ty,(Builtin.append_ #[tS,3] ty #[.slice (some ⟨b,0,none⟩) i c,.int .i64 ((n:Int)+1-(i:Int))]).run Tryz.prog w =
  .ok (.slice (some ⟨w.heap.size,0,none⟩) (n+1) (G)) (w.drew.alloc (.cells oJ tE)))/\(∀(W:World),(∀x,W.cell? x=(w.drew.alloc (.cells oJ tE)).cell? x)->(∀x,W.frozen? x=(w.drew.alloc (.cells oJ tE)).frozen? x)->∀ty dc,(Builtin.copy_ #[tS,tS] ty #[.slice (some ⟨w.heap.size,i*z,none⟩) (n+1-i) dc,.slice (some ⟨vb,vo,none⟩) 1 vc]).run Tryz.prog W = .ok (goInt 1) (W.setCells w.heap.size (i*z) vs))/\(∀(W:World),(∀x,W.cell? x=((w.drew.alloc (.cells oJ tE)).setCells w.heap.size (i*z) vs).cell? x)->(∀x,W.frozen? x=((w.drew.alloc (.cells oJ tE)).setCells w.heap.size (i*z) vs).frozen? x)->∀ty dc sc,(Builtin.copy_ #[tS,tS] ty #[.slice (some ⟨w.heap.size,(i+1)*z,none⟩) (n-i) dc,.slice (some ⟨b,i*z,none⟩) (n-i) sc]).run Tryz.prog W = .ok (goInt ((n-i:Nat):Int)) (W.setCells w.heap.size ((i+1)*z) (cs.drop (i*z)))):=by
 have jw:¬((i:Int)=(n:Int)):=zO
 have x9:(c:Int)<(n:Int)+1:=zO
 obtain⟨i0,hj0,QC,hzb,bS⟩:∃i0,Tryz.prog.info? tE=some i0/\i0.size=z/\i0.bytes=B/\i0.zero=some zB:=by simp_all
 have hbw:b<w.heap.size:=block_lt_of_cell (jQ 0 _ (yA (by (rcases hz with rfl|rfl|rfl|rfl<;>omega))));have hvw:=block_lt_of_cell (Ev 0 _ (yA zO));have hkk:(n:Int)+1-(i:Int)=((n+1-i:Nat):Int):=zO
 have hik:i+(n+1-i)=n+1:=zO
 have Zh:(Builtin.firstCells i0.size i (.slice (some ⟨b,0,none⟩) i c)).run Tryz.prog w.drew = .ok (cs.take (i*z)).toArray w.drew:=by
  rw[QC];exact run_firstCells_some w.drew z i ⟨b,0,none⟩ i c (cs.take (i*z)) (by rw[length_take];(rcases hz with rfl|rfl|rfl|rfl<;>omega)) (fun j v hj=>by
   rw[Addr.add_lit,Nat.zero_add];rw[getElem?_take]at hj;split at hj
   .exact jQ j v hj
   .cases hj)
 have Xf:∀ty,(Builtin.append_ #[tS,3] ty #[.slice (some ⟨b,0,none⟩) i c,.int .i64 ((n:Int)+1-(i:Int))]).run Tryz.prog w =
  .ok (.slice (some ⟨w.heap.size,0,none⟩) (n+1) (grownCap w (n+1) c tE)) (w.drew.alloc (.cells (M5 zB z cs n i (grownCap w (n+1) c tE)) tE)):=fun ty=>by
  have h:=Lib.run_append_grow_zeros w tS 3 ty tE i0 zB .i64 .i64 Iw Tryz.underlying3 hj0 bS (some ⟨b,0,none⟩) i c (cs.take (i*z)) Zh (n+1-i) zO zO zO (by (rcases hB with rfl|rfl|rfl|rfl<;>omega)) (by rw[hzb];(rcases hB with rfl|rfl|rfl|rfl<;>omega)) (by rw[hzb,hik];exact growslice_fits gY Ia);rw[hik]at h;rw[hkk];exact h
 obtain⟨G,hG⟩:∃G,G=grownCap w (n+1) c tE:=⟨_,rfl⟩;have hGn:n+1<=G:=by rw[hG];exact grownCap_ge w _ _ _
 have Yd:G<=9223372036854775807:=by
  have:=grownCap_le_maxLen w (n+1) c tE (by unfold maxLen;(rcases hB with rfl|rfl|rfl|rfl<;>omega));rw[<- hG]at this;unfold maxLen at this;omega
 obtain⟨oJ,yg⟩:∃oJ:Array Value,oJ=M5 zB z cs n i G:=⟨_,rfl⟩;rw[<- hG]at Xf;rw[<- yg]at Xf;have hRl:oJ.size=G*z:=by rw[yg];exact KQ hzB cs n i G lG hi hGn
 obtain⟨W1,KF⟩:∃W1,W1=w.drew.alloc (.cells oJ tE):=⟨_,rfl⟩;rw[<- KF]at Xf;have hN:∀j,j<(n+1)*z->(W1.cell? ⟨w.heap.size,j,none⟩).isSome=true:=fun j hj=>by
  rw[KF,World.cell?_alloc_at (w:=w.drew) oJ _ w.heap.size j rfl,Array.getElem?_eq_getElem (by (rcases hz with rfl|rfl|rfl|rfl<;>omega))];rfl
 have hNf:∀j,W1.frozen? ⟨w.heap.size,j,none⟩=false:=fun j=>by rw[KF];exact World.frozen?_alloc_at (w:=w.drew) oJ _ w.heap.size j rfl
 have hOb:∀j v,w.cell? ⟨b,j,none⟩=some v->W1.cell? ⟨b,j,none⟩=some v:=fun j v h=>by rw[KF,World.cell?_alloc_past (w:=w.drew) _ b j hbw];exact h
 have hOv:∀j v,w.cell? ⟨vb,j,none⟩=some v->W1.cell? ⟨vb,j,none⟩=some v:=fun j v h=>by rw[KF,World.cell?_alloc_past (w:=w.drew) _ vb j hvw];exact h
 have Mj:∀(W:World),(∀x,W.cell? x=W1.cell? x)->(∀x,W.frozen? x=W1.frozen? x)->∀ty dc,(Builtin.copy_ #[tS,tS] ty #[.slice (some ⟨w.heap.size,i*z,none⟩) (n+1-i) dc,.slice (some ⟨vb,vo,none⟩) 1 vc]).run Tryz.prog W = .ok (goInt 1) (W.setCells w.heap.size (i*z) vs):=fun W hWc hWf ty dc =>
  p9 W _ _ ty tE z w.heap.size (i*z) (n+1-i) dc ⟨vb,vo,none⟩ 1 vc vs 1 Iw iZ (by simp only[Nat.min_def];split<;>omega) zO
   (fun j v hj=>by rw[Addr.add_lit,hWc];exact hOv _ v (Ev j v hj))
   (fun j hj=>by rw[hWc];exact hN _ (by (rcases hz with rfl|rfl|rfl|rfl<;>omega))) (fun j hj=>by rw[hWf];exact hNf _) Gz
 have hGi:¬(G=i):=zO
 have Yc:¬(G=i+1):=zO
 have hci:¬(c=i):=zO
 have hbN:b≠w.heap.size:=zO
 have Xl:(cs.drop (i*z)).length=(n-i)*z:=by rw[length_drop,lG,Nat.sub_mul]
 have ED:∀(W:World),(∀x,W.cell? x=(W1.setCells w.heap.size (i*z) vs).cell? x)->(∀x,W.frozen? x=(W1.setCells w.heap.size (i*z) vs).frozen? x)->∀ty dc sc,(Builtin.copy_ #[tS,tS] ty #[.slice (some ⟨w.heap.size,(i+1)*z,none⟩) (n-i) dc,.slice (some ⟨b,i*z,none⟩) (n-i) sc]).run Tryz.prog W = .ok (goInt ((n-i:Nat):Int)) (W.setCells w.heap.size ((i+1)*z) (cs.drop (i*z))):=fun W hWc hWf ty dc sc =>
  p9 W _ _ ty tE z w.heap.size ((i+1)*z) (n-i) dc ⟨b,i*z,none⟩ (n-i) sc (cs.drop (i*z)) (n-i) Iw iZ (by simp only[Nat.min_def];split<;>omega) Xl
   (fun j v hj=>by
    rw[Addr.add_lit,hWc,World.cell?_setCells_out _ _ _ _ _ (fun h _=>absurd h hbN)];exact hOb _ v (jQ (i*z+j) v (by rwa[getElem?_drop]at hj)))
   (fun j hj=>by rw[Xl]at hj;rw[hWc];exact isSome_setCells _ _ _ _ (fun t ht=>hN _ (by (rcases hz with rfl|rfl|rfl|rfl<;>omega))) _ (hN _ (by (rcases hz with rfl|rfl|rfl|rfl<;>omega))))
   (fun j hj=>by rw[hWf,World.frozen?_setCells];exact hNf _) (fun v hv=>Gy v (mem_of_mem_drop hv))
 subst KF;have OE:IntKind.i64.wrap ((i:Int)+1)=(i:Int)+1:=by rw[IntKind.wrap_i64];omega
 have Mf:(0:Int)<=(i:Int)+1:=zO
 have vN:i<=n:=zO
 have X9:((i:Int)+1).toNat=i+1:=zO
 have Ya:(i:Int)<=(n:Int):=zO
 exact⟨G,oJ,hG,yg,jw,x9,hGi,Yc,hci,OE,Mf,vN,X9,Ya,hGn,Yd,Xf,Mj,ED⟩
end Go.OC
namespace Go.Dc
open Go Go.Am Go.Proofs Go.eY Go.Lib Go.OC
set_option maxHeartbeats 4000000 in
theorem pz:OC.X8 46 7:=by
 intro b n c i vb vo vc cs vs w hi gY Me TF lG Cv jQ Q7 Qz Ev Gy Gz tA tB kA kB OD NS QA Q8;have iZ:(Tryz.prog.info? 67).map (·.size)=some 7:=zQ
 have hov:∀lb cb o,(callFunc 123 #[.slice (some ⟨vb,vo,none⟩) 1 vc,.slice (some ⟨b,o,none⟩) lb cb]).run Tryz.prog w = .ok (.value (.bool false)) w:=fun lb cb o=>by
  rw[run_callFunc_extern Tryz.func123 zQ zQ zQ (e:=Extern.SlicesOverlaps.overlaps #[23,23] #[4]) zQ,
   lX w 23 4 67 Tryz.underlying23 7 Tryz.sizeOf67 ⟨vb,vo,none⟩ ⟨b,o,none⟩ 1 vc lb cb TF tA tB kA kB OD NS QA Q8 Qz rfl]
  rfl
 have mixed:Tryz.prog.follows .mixedOrders=true:=zQ
 obtain⟨jw,OE,hw2,Mf,vN,X9,XB,Ya,hb4,W1,KF,J2,Mh⟩:=Mi (vc:=vc) (tS:=23) (tE:=67) (z:=7) zD Tryz.underlying23 iZ hi gY Me TF lG Cv jQ Q7 Qz Ev Gy Gz OD NS QA Q8
 go_enter Tryz.func46,Tryz.ntmps46
 go_wp2_with (simp only[hov])
 go_region_law_o (refine step_copy_runI rfl _ _ 23 23 rfl _ _ (by simp[Act.eval,Act.put]) (by simp[Act.eval,Act.put]) (J2 _ _ _) ?_)
 go_wp2_with (at_builtin;refine wpList_copy_runI _ rfl _ _ 23 23 rfl _ _ rfl rfl (Mh _ (fun _=>rfl) (fun _=>rfl) _ _) ?_)
 go_ret
 first|exact⟨rfl,rfl⟩|exact⟨rfl,by rw[KF]⟩
abbrev zB:Value:=.agg #[.int .i64 0,.string ⟨#[]⟩,.slice none 0 0,.slice none 0 0,.slice none 0 0,.slice none 0 0,.slice none 0 0]
set_option maxHeartbeats 4000000 in
theorem sU:OC.Yb 46 7 67 144 zB:=by
 intro b n c i vb vo vc cs vs w hi hnc gY Ia lG Cv jQ Ev Gy Gz;have iZ:(Tryz.prog.info? 67).map (·.size)=some 7:=zQ
 have mixed:Tryz.prog.follows .mixedOrders=true:=zQ
 obtain⟨G,oJ,hG,yg,jw,x9,hGi,Yc,hci,OE,Mf,vN,X9,Ya,hGn,Yd,Xf,Mj,ED⟩:=TG (vc:=vc) (tS:=23) (tE:=67) (z:=7) (B:=144) (zB:=zB) zD zD Tryz.underlying23 iZ zQ rfl hi hnc gY Ia lG Cv jQ Ev Gy Gz;rw[<- hG,<- yg];have hE1:∀x,((w.alloc (.cells oJ 67)).drew).cell? x=(w.drew.alloc (.cells oJ 67)).cell? x:=fun x=>rfl;have hE2:∀x,((w.alloc (.cells oJ 67)).drew).frozen? x=(w.drew.alloc (.cells oJ 67)).frozen? x:=fun x=>rfl;have Ko:∀x,(((w.alloc (.cells oJ 67)).drew.setCells w.heap.size (i*7) vs).drew).cell? x=((w.drew.alloc (.cells oJ 67)).setCells w.heap.size (i*7) vs).cell? x:=fun x=>rfl;have hF2:∀x,(((w.alloc (.cells oJ 67)).drew.setCells w.heap.size (i*7) vs).drew).frozen? x=((w.drew.alloc (.cells oJ 67)).setCells w.heap.size (i*7) vs).frozen? x:=fun x=>rfl;clear yg hG
 go_enter Tryz.func46,Tryz.ntmps46
 go_wp2_with (first
  |(at_builtin;refine Lib.wpList_append_run _ rfl _ _ _ _ rfl _ _ rfl rfl _ _ (Xf _) ?_)
  |(at_builtin;refine wpList_copy_runI _ rfl _ _ 23 23 rfl _ _ rfl rfl (Mj _ hE1 hE2 _ _) ?_)
  |(at_builtin;refine wpList_copy_runI _ rfl _ _ 23 23 rfl _ _ rfl rfl (ED _ (fun _=>rfl) (fun _=>rfl) _ _ _) ?_))
 go_region_law_o (refine step_copy_runI rfl _ _ 23 23 rfl (.slice (some ⟨w.heap.size,(i+1)*7,none⟩) (n-i) (G-(i+1))) (.slice (some ⟨b,i*7,none⟩) (n-i) (c-i)) (by simp[Act.eval,Act.put]) (by simp[Act.eval,Act.put]) (ED _ Ko hF2 3 (G-(i+1)) (c-i)) ?_)
 go_wp2
 go_ret
 exact⟨rfl,rfl⟩
end Go.Dc
namespace Go.Dc
open Go Go.Am Go.Proofs Go.eY Go.Lib
theorem uL(x:List (List AV))(b:List AV)(g i:Nat)(hb7:b.length=7)(hi:i<x.length)(hx:x.length<=1000000000):ak P G 46 [.aU 0 g 0 x.length,int i,.sl 7 false [b]] [.aN g 7 false x] (.ret (.aU 0 (g+1) 0 (x.take i++[b]++x.drop i).length)) [.aN (g+1) 7 false (x.take i++[b]++x.drop i)]:=by
 have h:=OC.uL (F:=46) (z:=7) (tE:=67) (B:=144) (zB:=zB) zD zD rfl pz sU x [] b g i hb7 hi hx;rwa[append_nil]at h
end Go.Dc
namespace Go.Dc
open Go Go.Am Go.Proofs Go.eY Go.bH
theorem anI(l:List FD)(g:Nat)(b:FD)(hl:l.length<=1000000)(out:aS)(H':List ah)(h:(aS.ret (AV.aU 0 (g+1) 0 (length (l++[b])))=out)/\([ah.aN (g+1) 7 false (dA (l++[b]))]=H')):ak P G 46 [.aU 0 g 0 l.length,int ↑l.length,.sl 7 false [jB b]] [ah.aN g 7 false (dA l)] out H':=by
 have bS:g=g:=(rfl);obtain⟨e1,eH⟩:=h;exact ak.heap (e1▸((aj [kp bS,Ga (l.length:Int) (l.length:Int) (l.length:Int),kY,kp bS,kt (show((l.length:Int)==(l.length:Int))=true from(qT zO)),ko (bC.hp (some 25) (AV.aU 0 (g+1) 0 (length (l++[b]))) [ah.aN (g+1) 7 false (dA (l++[b]))]),kp (show Am.aF (AV.aU 0 (g+1) 0 (length l+1)) (AV.aU 0 (g+1) 0 (length (l++[b])))from(aF.of_eq (by simp[fE,fK]))),kp (show Am.HSub [ah.aN (g+1) 7 false (dA l++[[int b.pk,str b.pn,AV.sl 9 false (Sq.au b.ce),AV.sl 5 false (Bd.au b.bi),AV.sl 3 false (lH b.ta),AV.sl 9 false (Sq.au b.tc),AV.sl 11 false (Tx.au b.tm)]])] [ah.aN (g+1) 7 false (dA (l++[b]))]from(⟨.inl (by simp only[Int.toNat_natCast,TW]),yO⟩)),kp bS,kp (fE l).symm,vV ((length l+1)*144)]))) eH
theorem anJ(b:FD)(out:aS)(H':List ah)(h:(aS.ret (AV.aU 0 0 0 1)=out)/\([ah.aN 0 7 false [[int b.pk,str b.pn,AV.sl 9 false (Sq.au b.ce),AV.sl 5 false (Bd.au b.bi),AV.sl 3 false (lH b.ta),AV.sl 9 false (Sq.au b.tc),AV.sl 11 false (Tx.au b.tm)]]]=H')):ak P G 46 [.sl 7 true [],int 0,.sl 7 false [jB b]] [] out H':=by
 obtain⟨e1,eH⟩:=h;exact ak.heap (e1▸((aj [Ga (0:Int) (0:Int) (0:Int),kY,kO,Qx [int b.pk,str b.pn,AV.sl 9 false (Sq.au b.ce),AV.sl 5 false (Bd.au b.bi),AV.sl 3 false (lH b.ta),AV.sl 9 false (Sq.au b.tc),AV.sl 11 false (Tx.au b.tm)],vV 144]))) eH
theorem af7(l:List FD)(g i:Nat)(b:FD)(hi:i<=l.length)(hl:l.length<=1000000):ak P G 46 [.aU 0 g 0 l.length,int i,.sl 7 false [jB b]] [.aN g 7 false (dA l)] (.ret (.aU 0 (g+1) 0 (l.take i++[b]++l.drop i).length)) [.aN (g+1) 7 false (dA (l.take i++[b]++l.drop i))]:=by
 rcases Nat.lt_or_ge i l.length with h|h
 .have k:=uL (dA l) (jB b) g i rfl (by rw[fE];exact h) (by rw[fE];omega);have e:(dA l).take i++[jB b]++(dA l).drop i=dA (l.take i++[b]++l.drop i):=by simp[dA]
  rw[e,fE,fE]at k;exact k
 .obtain rfl:i=l.length:=zO
  rw[take_length,drop_length,append_nil];exact anI l g b hl _ _ ⟨rfl,rfl⟩
theorem af8(b:FD):ak P G 46 [.sl 7 true [],int 0,.sl 7 false [jB b]] [] (.ret (.aU 0 0 0 1)) [.aN 0 7 false (dA [b])]:=anJ b _ _ ⟨rfl,rfl⟩
def Fx(o:bV.OP):FD:=⟨o.pk,o.pn,[],[],[],[],[]⟩
theorem Zi(o:bV.OP):aF (.sl 7 true [[int o.pk,str o.pn,aK,aK,aK,aK,aK]]) (.sl 7 false [jB (Fx o)]) :=
 aF.anK rfl (fun y hy=>by rw[mem_singleton.1 hy];rfl) fun k j hk hj=>by
  obtain rfl:k=0:=by have:k<1:=hk;omega
  match j,hj with
  |0,_=>exact xP.refl _
  |1,_=>exact xP.refl _
  |2,_=>exact xP.nil 9
  |3,_=>exact xP.nil 5
  |4,_=>exact xP.nil 3
  |5,_=>exact xP.nil 9
  |6,_=>exact xP.nil 11
theorem af9(l:List FD)(g i:Nat)(o:bV.OP)(hi:i<=l.length)(hl:l.length<=1000000):ak P G 46 [.aU 0 g 0 l.length,int i,.sl 7 true [[int o.pk,str o.pn,aK,aK,aK,aK,aK]]] [.aN g 7 false (dA l)] (.ret (.aU 0 (g+1) 0 (l.take i++[Fx o]++l.drop i).length)) [.aN (g+1) 7 false (dA (l.take i++[Fx o]++l.drop i))] :=
 ak.qp (af7 l g i (Fx o) hi hl) ⟨aF.refl _,aF.refl _,Zi o,yO⟩
theorem aga(o:bV.OP):ak P G 46 [aK,int 0,.sl 7 true [[int o.pk,str o.pn,aK,aK,aK,aK,aK]]] [] (.ret (.aU 0 0 0 1)) [.aN 0 7 false (dA [Fx o])] :=
 ak.qp (af8 (Fx o)) ⟨aF.aed 7,aF.refl _,Zi o,yO⟩
def zE:AV:=.lit (.agg #[.nilFunc])
abbrev EfF(F:Nat):Prop:=F=354\/F=357\/F=359\/F=363\/F=365\/F=368\/F=371\/F=373
theorem anL{F:Nat}(hq:EfF F)(d:DO)(o:bV.OP)(v:List D)(l l2:List FD)(g i:Nat)(e:Int)(hs:1<=o.sq)(hs2:o.sq<=1048576)(hi:i<l.length)(hl:l.length<=1000000)(hK:Cq 17 [kI d] (int 0))(hO:Cq 25 [bV.op o] (int 0))(hV:Cq 27 [bB d.sn,eG (o.dv,o.sq)] (Am.bool false))(hA:Cq 26 [bB d.sn,int o.dv] (int (o.sq-1)))(hF:ak P G 41 [bB o.cx,Xk] (dB d) (.ret (Am.bool false)) (dB d))(hW:Cq 28 [bB d.sn,eG (o.dv,o.sq)] (.bq [bB v,int 0]))(hL:Rq 0 12 0 (Xj d o v 0 aK []) (.exit 0) (apX d o v (.aU 4 g 0 l.length) [.aH,.aN g 7 false (dA l)]))(hB:ak P G 43 [.aU 0 g 0 l.length,pt o.pk o.pn,Ph] [.aN g 7 false (dA l)] (.ret (.bq [int i,Am.bool true])) [.aN g 7 false (dA l)])(hM:bT P 3 oK (.int .i64 o.kd) zE (.agg [gP F]) true)(hE:ak P G F [.jC 0 g (0+i) 0,bV.op o] [.aN g 7 false (dA l)] (.ret (int e)) [.aN g 7 false (dA l2)])(out:aS)(H':List ah)(h:(aS.ret (AV.bq [AV.agg [bB v,AV.aU 4 g 0 l.length],int 0])=out)/\([ah.box [bB d.sn,AV.sl 7 false (dA d.fs)],ah.box (bV.jy o),ah.box [bB v,AV.aU 4 g 0 l.length],ah.aH,ah.aN g 7 false (dA l2)]=H')):ak P G 12 [kI d,bV.op o] [] out H':=by
 have Bb:∀(x:List AV),x∈dA l->AV.aM [] x=true:=(fK _);obtain⟨e1,eH⟩:=h;let x0:AV:=.agg [gP F];rcases hq with rfl|rfl|rfl|rfl|rfl|rfl|rfl|rfl<;>exact ak.heap (e1▸((aj [kc [] hK,kY,kc [] hO,kY,kc [] hV,kY,kc [] hA,kW 41 (o.sq-1) (o.sq-1),kf (show(o.sq-1 != o.sq-1)=false from(yJ Bool.not (qT zO))),kc [0] hF,kY,kc [] hW,kY,kN 65 (fE d.fs),kl (rG [(0,2),(6,58),(67,42)]) 3 hL,kc [4] hB,kp Bb,kp Bb,kY,ko (bC.lJ x0 true),kp hM,kq g,kR (i:Int) (l.length:Int),kc [4] hE,kp (fK l2),kp Bb]))) eH
theorem ace{F:Nat}(hq:EfF F)(d:DO)(o:bV.OP)(v:List D)(l m l2:List FD)(g i:Nat)(e:Int)(hs:1<=o.sq)(hs2:o.sq<=1048576)(hi:i<m.length)(hl:l.length<=1000000)(hm:m.length<=1000001)(hK:Cq 17 [kI d] (int 0))(hO:Cq 25 [bV.op o] (int 0))(hV:Cq 27 [bB d.sn,eG (o.dv,o.sq)] (Am.bool false))(hA:Cq 26 [bB d.sn,int o.dv] (int (o.sq-1)))(hF:ak P G 41 [bB o.cx,Xk] (dB d) (.ret (Am.bool false)) (dB d))(hW:Cq 28 [bB d.sn,eG (o.dv,o.sq)] (.bq [bB v,int 0]))(hL:Rq 0 12 0 (Xj d o v 0 aK []) (.exit 0) (apX d o v (.aU 4 g 0 l.length) [.aH,.aN g 7 false (dA l)]))(hB:ak P G 43 [.aU 0 g 0 l.length,pt o.pk o.pn,Ph] [.aN g 7 false (dA l)] (.ret (.bq [int i,Am.bool false])) [.aN g 7 false (dA l)])(hI:ak P G 46 [.aU 0 g 0 l.length,int i,.sl 7 true [[int o.pk,str o.pn,aK,aK,aK,aK,aK]]] [.aN g 7 false (dA l)] (.ret (.aU 0 (g+1) 0 m.length)) [.aN (g+1) 7 false (dA m)])(hM:bT P 3 oK (.int .i64 o.kd) zE (.agg [gP F]) true)(hE:ak P G F [.jC 0 (g+1) (0+i) 0,bV.op o] [.aN (g+1) 7 false (dA m)] (.ret (int e)) [.aN (g+1) 7 false (dA l2)])(out:aS)(H':List ah)(h:(aS.ret (AV.bq [AV.agg [bB v,AV.aU 4 (g+1) 0 m.length],int 0])=out)/\([ah.box [bB d.sn,AV.sl 7 false (dA d.fs)],ah.box (bV.jy o),ah.box [bB v,AV.aU 4 (g+1) 0 m.length],ah.aH,ah.aN (g+1) 7 false (dA l2)]=H')):ak P G 12 [kI d,bV.op o] [] out H':=by
 have Bb:∀(x:List AV),x∈dA l->AV.aM [] x=true:=(fK _);have Pk:∀(x:List AV),x∈dA m->AV.aM [] x=true:=(fK _);obtain⟨e1,eH⟩:=h;let x0:AV:=.agg [gP F];rcases hq with rfl|rfl|rfl|rfl|rfl|rfl|rfl|rfl<;>exact ak.heap (e1▸((aj [kc [] hK,kY,kc [] hO,kY,kc [] hV,kY,kc [] hA,kW 41 (o.sq-1) (o.sq-1),kf (show(o.sq-1 != o.sq-1)=false from(yJ Bool.not (qT zO))),kc [0] hF,kY,kc [] hW,kY,kN 65 (fE d.fs),kl (rG [(0,2),(6,58),(67,42)]) 3 hL,kc [4] hB,kp Bb,kp Bb,kO,kc [4] hI,ko (bC.lJ x0 true),kp Pk,kp Bb,kp hM,kp (show g+1=g+1 from(rfl)),kR (i:Int) (m.length:Int),kc [4] hE,kp (fK l2),kp Pk]))) eH
theorem anM{F:Nat}(hq:EfF F)(d:DO)(o:bV.OP)(v:List D)(m l2:List FD)(e:Int)(hs:1<=o.sq)(hs2:o.sq<=1048576)(hm:m.length=1)(hK:Cq 17 [kI d] (int 0))(hO:Cq 25 [bV.op o] (int 0))(hV:Cq 27 [bB d.sn,eG (o.dv,o.sq)] (Am.bool false))(hA:Cq 26 [bB d.sn,int o.dv] (int (o.sq-1)))(hF:ak P G 41 [bB o.cx,Xk] (dB d) (.ret (Am.bool false)) (dB d))(hW:Cq 28 [bB d.sn,eG (o.dv,o.sq)] (.bq [bB v,int 0]))(hL:Rq 0 12 0 (Xj d o v 0 aK []) (.exit 0) (apX d o v aK []))(hB:Cq 43 [aK,pt o.pk o.pn,Ph] (.bq [int 0,Am.bool false]))(hI:ak P G 46 [aK,int 0,.sl 7 true [[int o.pk,str o.pn,aK,aK,aK,aK,aK]]] [] (.ret (.aU 0 0 0 1)) [.aN 0 7 false (dA m)])(hM:bT P 3 oK (.int .i64 o.kd) zE (.agg [gP F]) true)(hE:ak P G F [.jC 0 0 0 0,bV.op o] [.aN 0 7 false (dA m)] (.ret (int e)) [.aN 0 7 false (dA l2)])(out:aS)(H':List ah)(h:(aS.ret (AV.bq [AV.agg [bB v,AV.aU 3 0 0 1],int 0])=out)/\([ah.box [bB d.sn,AV.sl 7 false (dA d.fs)],ah.box (bV.jy o),ah.box [bB v,AV.aU 3 0 0 1],ah.aN 0 7 false (dA l2)]=H')):ak P G 12 [kI d,bV.op o] [] out H':=by
 have M8:∀(x:List AV),x∈dA m->AV.aM [] x=true:=(fK _);obtain⟨e1,eH⟩:=h;let x0:AV:=.agg [gP F];rcases hq with rfl|rfl|rfl|rfl|rfl|rfl|rfl|rfl<;>exact ak.heap (e1▸((aj [kc [] hK,kY,kc [] hO,kY,kc [] hV,kY,kc [] hA,kW 41 (o.sq-1) (o.sq-1),kf (show(o.sq-1 != o.sq-1)=false from(yJ Bool.not (qT zO))),kc [0] hF,kY,kc [] hW,kY,kN 65 (fE d.fs),kl (rG [(0,2),(6,58),(67,42)]) 3 hL,kc [] hB,kO,kc [] hI,ko (bC.lJ x0 true),kp M8,kp hM,kq 0,kR (0:Int) (1:Int),kc [3] hE,kp (fK l2),kp M8]))) eH
def Rf:AV:=.agg [aK,aK]
theorem anc(d:DO)(o:bV.OP)(e:Int)(he:¬e=0)(hK:Cq 17 [kI d] (int e))(h:True):Cq 12 [kI d,bV.op o] (.bq [Rf,int e]):=by
 exact aj [kc [] hK,kt (yJ Bool.not (qF zO))]
theorem anb(d:DO)(o:bV.OP)(e:Int)(he:¬e=0)(hK:Cq 17 [kI d] (int 0))(hO:Cq 25 [bV.op o] (int e))(h:True):Cq 12 [kI d,bV.op o] (.bq [Rf,int e]):=by
 exact aj [kc [] hK,kY,kc [] hO,kt (yJ Bool.not (qF zO))]
theorem am8(d:DO)(o:bV.OP)(hK:Cq 17 [kI d] (int 0))(hO:Cq 25 [bV.op o] (int 0))(hV:Cq 27 [bB d.sn,eG (o.dv,o.sq)] (Am.bool true))(e:Int)(h:182=e):Cq 12 [kI d,bV.op o] (.bq [Rf,int e]):=by
 have e1:=h;exact ak.out ((show Cq 12 [kI d,bV.op o] (.bq [.agg [aK,aK],int 182])from aj [kc [] hK,kY,kc [] hO,kY,kc [] hV,kO])) (aF.iM ⟨aF.refl _,(aF.int_eq e1),yO⟩)
theorem ana(d:DO)(o:bV.OP)(n:Int)(hs:1<=o.sq)(hs2:o.sq<=1048576)(hn:¬n=o.sq-1)(hK:Cq 17 [kI d] (int 0))(hO:Cq 25 [bV.op o] (int 0))(hV:Cq 27 [bB d.sn,eG (o.dv,o.sq)] (Am.bool false))(hA:Cq 26 [bB d.sn,int o.dv] (int n))(e:Int)(h:181=e):Cq 12 [kI d,bV.op o] (.bq [Rf,int e]):=by
 have e1:=h;exact ak.out ((show Cq 12 [kI d,bV.op o] (.bq [.agg [aK,aK],int 181])from aj [kc [] hK,kY,kc [] hO,kY,kc [] hV,kY,kc [] hA,kW 41 (o.sq-1) (o.sq-1),kt (show(n != o.sq-1)=true from(yJ Bool.not (qF zO))),kO])) (aF.iM ⟨aF.refl _,(aF.int_eq e1),yO⟩)
theorem am9(d:DO)(o:bV.OP)(n:Int)(hs:1<=o.sq)(hs2:o.sq<=1048576)(hn:n=o.sq-1)(hK:Cq 17 [kI d] (int 0))(hO:Cq 25 [bV.op o] (int 0))(hV:Cq 27 [bB d.sn,eG (o.dv,o.sq)] (Am.bool false))(hA:Cq 26 [bB d.sn,int o.dv] (int n))(hF:ak P G 41 [bB o.cx,Xk] (dB d) (.ret (Am.bool true)) (dB d))(e:Int)(h:181=e):Cq 12 [kI d,bV.op o] (.bq [Rf,int e]):=by
 have e1:=h;exact ak.out ((show Cq 12 [kI d,bV.op o] (.bq [.agg [aK,aK],int 181])from aj [kc [] hK,kY,kc [] hO,kY,kc [] hV,kY,kc [] hA,kW 41 (o.sq-1) (o.sq-1),kf (show(n != o.sq-1)=false from(yJ Bool.not (qT zO))),kc [0] hF,kO])) (aF.iM ⟨aF.refl _,(aF.int_eq e1),yO⟩)
theorem Zj(d:DO)(o:bV.OP)(v:List D)(hl:d.fs.length<=1000000)(hC:∀f∈d.fs,Cq 42 [.agg (jB f)] (.agg (jB f))):∀n k g,d.fs.length-k=n->k<=d.fs.length->∃g',Rq 0 12 0 (Xj d o v k (.aU 4 g 0 (d.fs.take k).length) [.aH,.aN g 7 false (dA (d.fs.take k))]) (.exit 0) (apX d o v (.aU 4 g' 0 d.fs.length) [.aH,.aN g' 7 false (dA d.fs)]):=by
 intro n
 induction n with
 |zero =>
  intro k g hk LB;obtain rfl:k=d.fs.length:=zO
  rw[take_length];exact⟨g,akd d o v _ g d.fs zO yO⟩
 |succ n ih =>
  intro k g hk LB;have bg:k<d.fs.length:=zO
  have hx:=yA bg;obtain⟨g',nx⟩:=ih (k+1) (g+1) zO zO;have ht:d.fs.take (k+1)=d.fs.take k++[d.fs[k]]:=by rw[take_append_getElem]
  rw[ht,yD,<- TW]at nx;have hlk:(d.fs.take k).length=k:=by rw[length_take];omega
  exact⟨g',anu d o v d.fs[k] (d.fs.take k) k g hlk zO hl zO hx (hC _ (getElem_mem _)) _ _ nx⟩
theorem acE(d:DO)(o:bV.OP)(v:List D)(hl:d.fs.length<=1000000)(hC:∀f∈d.fs,Cq 42 [.agg (jB f)] (.agg (jB f)))(fF:d.fs≠[]):∃g',Rq 0 12 0 (Xj d o v 0 aK []) (.exit 0) (apX d o v (.aU 4 g' 0 d.fs.length) [.aH,.aN g' 7 false (dA d.fs)]):=by
 have h0:=length_pos_iff.2 fF;have hx:=yA h0;obtain⟨g',nx⟩:=Zj d o v hl hC _ 1 0 rfl zO;have ht:d.fs.take 1=[d.fs[0]]:=by
  have:=(take_append_getElem h0).symm;simpa using this
 rw[ht]at nx;refine⟨g',ant d o v d.fs[0] hl zO hx (hC _ (getElem_mem _)) _ _ (bN.acz nx ?_)⟩;exact⟨.inl rfl,.inl rfl,.inl rfl,.inr yO,.inl rfl,yO⟩
theorem Zk(d:DO)(o:bV.OP)(v:List D)(h:d.fs=[]):Rq 0 12 0 (Xj d o v 0 aK []) (.exit 0) (apX d o v aK []):=akc d o v 0 (by rw[h];simp) trivial
theorem Zl{d:DO}{o:bV.OP}{v:List D}{l2:List FD}{g n:Nat}{a b c:ah}(hn:n=l2.length)(h:ak P G 12 [kI d,bV.op o] [] (.ret (.bq [.agg [bB v,.aU 4 g 0 n],int 0])) [a,b,c,.aH,.aN g 7 false (dA l2)]):Cq 12 [kI d,bV.op o] (.bq [kI ⟨v,l2⟩,int 0]):=by
 subst hn;exact(h.Zm (z:=dA l2) (ds:=[bB v,Md l2]) (H1:=[a,b,c,.aH,.aN g 7 true (dA l2)]) (ps:=[g=g,List.take l2.length (List.drop 0 (dA l2))=dA l2,(dA l2).length=l2.length,∀c∈dA l2,c.all AV.fJ=true]) rfl ⟨rfl,by rw[drop_zero,take_of_length_le (by rw[fE];exact Nat.le_refl _)],fE l2,Pg l2,yO⟩).BM (H3:=[]) (qs:=[]) rfl trivial
structure Fit(d:DO)(o:bV.OP)(v:List D):Prop where
 s1:1<=o.sq
 s2:o.sq<=1048576
 len:d.fs.length<=1000000
 K:Cq 17 [kI d] (int 0)
 O:Cq 25 [bV.op o] (int 0)
 V:Cq 27 [bB d.sn,eG (o.dv,o.sq)] (Am.bool false)
 A:Cq 26 [bB d.sn,int o.dv] (int (o.sq-1))
 F:ak P G 41 [bB o.cx,Xk] (dB d) (.ret (Am.bool false)) (dB d)
 W:Cq 28 [bB d.sn,eG (o.dv,o.sq)] (.bq [bB v,int 0])
abbrev lpA(d:DO)(o:bV.OP)(v:List D)(l:List FD)(g:Nat):Prop:=Rq 0 12 0 (Xj d o v 0 aK []) (.exit 0) (apX d o v (.aU 4 g 0 l.length) [.aH,.aN g 7 false (dA l)])
abbrev mgA(o:bV.OP)(F:Nat):Prop:=bT P 3 oK (.int .i64 o.kd) zE (.agg [gP F]) true
structure Yv(F:Nat):Prop where
 b:∀(d:DO)(o:bV.OP)(v:List D)(l l2:List FD)(g i:Nat)(e:Int),Fit d o v->i<l.length->l2.length=l.length->l.length<=1000000->lpA d o v l g->ak P G 43 [.aU 0 g 0 l.length,pt o.pk o.pn,Ph] [.aN g 7 false (dA l)] (.ret (.bq [int i,Am.bool true])) [.aN g 7 false (dA l)]->mgA o F->ak P G F [.jC 0 g (0+i) 0,bV.op o] [.aN g 7 false (dA l)] (.ret (int e)) [.aN g 7 false (dA l2)]->Cq 12 [kI d,bV.op o] (.bq [kI ⟨v,l2⟩,int 0])
 c:∀(d:DO)(o:bV.OP)(v:List D)(l m l2:List FD)(g i:Nat)(e:Int),Fit d o v->i<m.length->l2.length=m.length->l.length<=1000000->m.length<=1000001->lpA d o v l g->ak P G 43 [.aU 0 g 0 l.length,pt o.pk o.pn,Ph] [.aN g 7 false (dA l)] (.ret (.bq [int i,Am.bool false])) [.aN g 7 false (dA l)]->ak P G 46 [.aU 0 g 0 l.length,int i,.sl 7 true [[int o.pk,str o.pn,aK,aK,aK,aK,aK]]] [.aN g 7 false (dA l)] (.ret (.aU 0 (g+1) 0 m.length)) [.aN (g+1) 7 false (dA m)]->mgA o F->ak P G F [.jC 0 (g+1) (0+i) 0,bV.op o] [.aN (g+1) 7 false (dA m)] (.ret (int e)) [.aN (g+1) 7 false (dA l2)]->Cq 12 [kI d,bV.op o] (.bq [kI ⟨v,l2⟩,int 0])
 z:∀(d:DO)(o:bV.OP)(v:List D)(m l2:List FD)(e:Int),Fit d o v->m.length=1->l2.length=1->Rq 0 12 0 (Xj d o v 0 aK []) (.exit 0) (apX d o v aK [])->Cq 43 [aK,pt o.pk o.pn,Ph] (.bq [int 0,Am.bool false])->ak P G 46 [aK,int 0,.sl 7 true [[int o.pk,str o.pn,aK,aK,aK,aK,aK]]] [] (.ret (.aU 0 0 0 1)) [.aN 0 7 false (dA m)]->mgA o F->ak P G F [.jC 0 0 0 0,bV.op o] [.aN 0 7 false (dA m)] (.ret (int e)) [.aN 0 7 false (dA l2)]->Cq 12 [kI d,bV.op o] (.bq [kI ⟨v,l2⟩,int 0])
theorem acF{d:DO}{o:bV.OP}{v:List D}{l2:List FD}{a b c:ah}(hn:l2.length=1)(h:ak P G 12 [kI d,bV.op o] [] (.ret (.bq [.agg [bB v,.aU 3 0 0 1],int 0])) [a,b,c,.aN 0 7 false (dA l2)]):Cq 12 [kI d,bV.op o] (.bq [kI ⟨v,l2⟩,int 0]) :=
 (h.Zm (z:=dA l2) (ds:=[bB v,Md l2]) (H1:=[a,b,c,.aN 0 7 true (dA l2)]) (ps:=[0=0,List.take 1 (List.drop 0 (dA l2))=dA l2,(dA l2).length=1,∀c∈dA l2,c.all AV.fJ=true]) rfl ⟨rfl,by rw[drop_zero,take_of_length_le (by rw[fE,hn];exact Nat.le_refl _)],by rw[fE,hn],Pg l2,yO⟩).BM (H3:=[]) (qs:=[]) rfl trivial
theorem apK{F:Nat}(hq:EfF F):Yv F where
 b d o v l l2 g i e f hi hl hn hL hB hM hE:=Zl hl.symm (anL hq d o v l l2 g i e f.s1 f.s2 hi hn f.K f.O f.V f.A f.F f.W hL hB hM hE _ _ ⟨rfl,rfl⟩)
 c d o v l m l2 g i e f hi hl hn hm hL hB hI hM hE:=Zl hl.symm (ace hq d o v l m l2 g i e f.s1 f.s2 hi hn hm f.K f.O f.V f.A f.F f.W hL hB hI hM hE _ _ ⟨rfl,rfl⟩)
 z d o v m l2 e f hm hl hL hB hI hM hE:=acF hl (anM hq d o v m l2 e f.s1 f.s2 hm f.K f.O f.V f.A f.F f.W hL hB hI hM hE _ _ ⟨rfl,rfl⟩)
theorem am0:Yv 354:=apK zD
theorem am1:Yv 357:=apK zD
theorem am2:Yv 359:=apK zD
theorem am3:Yv 363:=apK zD
theorem am4:Yv 365:=apK zD
theorem am5:Yv 368:=apK zD
theorem am6:Yv 371:=apK zD
theorem am7:Yv 373:=apK zD
def Ig(c:FD->Int)(ef:FD->FD)(o:bV.OP)(l:List FD):List FD :=
 if(l[rV c l]?).any (fun f=>c f==0)=true then l.set (rV c l) (ef (l.getD (rV c l) (Fx o)))else l.take (rV c l)++[ef (Fx o)]++l.drop (rV c l)
theorem Yw{F:Nat}(K:Yv F){d:DO}{o:bV.OP}{v:List D}(f:Fit d o v)(c:FD->Int)(ef:FD->FD)(hM:mgA o F)(hs:Rc c d.fs)(hA:∀f:FD,Cq 44 [.agg (jB f),pt o.pk o.pn] (int (c f)))(hz:Cq 43 [aK,pt o.pk o.pn,Ph] (.bq [int 0,Am.bool false]))(hC:∀f∈d.fs,Cq 42 [.agg (jB f)] (.agg (jB f)))(hE:∀(l:List FD)(g i:Nat)(h:i<l.length),l[i]∈d.fs\/l[i]=Fx o->∃e,ak P G F [.jC 0 g i 0,bV.op o] [.aN g 7 false (dA l)] (.ret (int e)) [.aN g 7 false (dA (l.set i (ef l[i])))]) :
 Cq 12 [kI d,bV.op o] (.bq [kI ⟨v,Ig c ef o d.fs⟩,int 0]):=by
 by_cases h0:d.fs=[]
 .have e:Ig c ef o d.fs=[ef (Fx o)]:=by rw[h0];rfl
  rw[e];obtain⟨e1,h1⟩:=hE [Fx o] 0 0 zS (.inr rfl);exact K.z d o v [Fx o] _ e1 f rfl rfl (Zk d o v h0) hz (aga o) hM h1
 .obtain ⟨g,hL⟩:=acE d o v f.len hC h0;have hB:=wX d.fs g o.pk o.pn c (by have:=f.len;omega) hs hA;have hp:=Rh c d.fs;unfold Ig;cases hb:(d.fs[rV c d.fs]?).any (fun f=>c f==0)with
  |true =>
   rw[hb]at hB;rw[yL rfl];have bg:rV c d.fs<d.fs.length:=by
    rcases Nat.lt_or_ge (rV c d.fs) d.fs.length with h|h
    .exact h
    .rw [getElem?_eq_none h]at hb;cases hb
   obtain⟨e1,h1⟩:=hE d.fs g _ bg (.inl (getElem_mem _));rw[yB,yA bg,Option.getD_some];exact K.b d o v d.fs _ g _ e1 f bg (by rw[length_set]) f.len hL hB hM (by rw[Nat.zero_add];exact h1)
  |false =>
   rw[hb]at hB;rw[yK zD];have hI:=af9 d.fs g (rV c d.fs) o hp f.len;have hml:(d.fs.take (rV c d.fs)++[Fx o]++d.fs.drop (rV c d.fs)).length=d.fs.length+1:=by simp;omega
   have htl:(d.fs.take (rV c d.fs)).length=rV c d.fs:=by rw[length_take];omega
   have hgz:(d.fs.take (rV c d.fs)++[Fx o]++d.fs.drop (rV c d.fs))[rV c d.fs]'zO=Fx o:=by
    simp only[append_assoc];rw[getElem_append_right zO];simp[htl]
   obtain⟨e1,h1⟩:=hE (d.fs.take (rV c d.fs)++[Fx o]++d.fs.drop (rV c d.fs)) (g+1) (rV c d.fs) zO (.inr hgz);have pF:(d.fs.take (rV c d.fs)++[Fx o]++d.fs.drop (rV c d.fs)).set (rV c d.fs) (ef (d.fs.take (rV c d.fs)++[Fx o]++d.fs.drop (rV c d.fs))[rV c d.fs])=d.fs.take (rV c d.fs)++[ef (Fx o)]++d.fs.drop (rV c d.fs):=by
    rw[hgz,append_assoc,set_append_right _ _ zO,htl,Nat.sub_self];simp
   rw[pF]at h1;have hl2:(d.fs.take (rV c d.fs)++[ef (Fx o)]++d.fs.drop (rV c d.fs)).length=d.fs.length+1:=by simp;omega
   have:=f.len;exact K.c d o v d.fs _ _ g _ e1 f zO zO f.len zO hL hB hI hM (by rw[Nat.zero_add];exact h1)
end Go.Dc
namespace Go.bV
open Go Go.Am Go.Proofs Go.eY Go.bH Go.yU
def IY(a b:List D)(k:Nat):St:={ aL:=aC 26 [(0,bB a),(1,bB b),(4,bool false),(11,bB a),(12,int a.length),(13,int k)],H:=[] }
theorem ZK(a b:List D)(k:Nat)(ha:a.length<=1000000000)(hb:b.length=a.length)(ex:bF)(r:Bool)(h:((((k:Int)<(a.length:Int))->(∃x2:D,(a[k]?=some x2)/\(∃x4:D,(b[k]?=some x4)/\((((x2.1==x4.1&&x2.2==x4.2)=true)->Rq 0 65 0 (sM 26 [(0,bB a),(1,bB b),(4,Am.bool false),(11,bB a),(12,int ↑a.length),(13,int ↑(k+1))] []) ex (sM 26 [(4,Am.bool r)] []))/\(((x2.1==x4.1&&x2.2==x4.2)=false)->(bF.ret=ex)/\((false)=(r)))))))/\((¬(k:Int)<(a.length:Int))->(bF.exit 0=ex)/\((false)=(r))))):Rq 0 65 0 (IY a b k) ex (sM 26 [(4,Am.bool r)] []):=by
 by_cases c1:((k:Int)<(a.length:Int))
 .have h:=h.1 c1;obtain⟨x2,o3,h⟩:=h;obtain⟨x4,o5,h⟩:=h;let l1:List fP:=[kt (qT c1),ko (bC.elem (bH.aQ x2)),ko (bC.elem (bH.aQ x4)),kp (show(0:Int)<=(k:Int)/\(au a)[Int.toNat (k:Int)]?=some (bH.aQ x2)from(bG o3)),kp (show(0:Int)<=(k:Int)/\(au b)[Int.toNat (k:Int)]?=some (bH.aQ x4)from(bG o5))];rcases Bool.eq_false_or_eq_true ((x2.1==x4.1&&x2.2==x4.2))with c6|c6
  .have h:=h.1 c6;exact aJ (l1++[kf (yJ Bool.not (c6)),kW 25 (k+1) ↑(k+1)]) (aB 26 [0,1,4,11,12,13]) 0 h
  .have h:=h.2 c6;obtain⟨eX,e1⟩:=h;exact bN.to ((show Rq 0 65 0 (IY a b k) bF.ret (sM 26 [(4,Am.bool false)] [])from aG (l1++[kt (show(!(x2.1==x4.1&&x2.2==x4.2))=true from(yJ Bool.not (c6)))]) (aB 26 [4]) 0)) eX (eB.aC ⟨rfl,(aF.aI e1),yO⟩)
 .have h:=h.2 c1;obtain⟨eX,e1⟩:=h;exact bN.to ((show Rq 0 65 0 (IY a b k) (bF.exit 0) (sM 26 [(4,Am.bool false)] [])from aG [kf (qF c1)] (aB 26 [4]) 0)) eX (eB.aC ⟨rfl,(aF.aI e1),yO⟩)
theorem Nf(a b:List D)(ha:a.length<=1000000000)(hb:b.length=a.length):∀n k,a.length-k=n->k<=a.length ->
 Rq 0 65 0 (IY a b k) (if a.drop k=b.drop k then .exit 0 else .ret) { aL:=aC 26 [(4,bool false)],H:=[] }:=by
 intro n
 induction n with
 |zero =>
  intro k hn hk;have e:a.drop k=b.drop k:=by rw[drop_of_length_le zO,drop_of_length_le zO]
  exact ZK a b k ha hb _ _ ⟨fun h=>absurd h zO,fun _=>⟨by rw[yL e],rfl⟩⟩
 |succ n ih =>
  intro k hn hk;have bg:k<a.length:=zO
  have oL:k<b.length:=zO
  have e1:=drop_eq_getElem_cons bg;have e2:=drop_eq_getElem_cons oL;refine ZK a b k ha hb _ _ ⟨fun h=>⟨a[k],yA bg,b[k],yA oL,⟨fun hq=>?_,fun hq=>?_⟩⟩,fun h=>absurd bg zO⟩
  .have hab:a[k]=b[k]:=by simp at hq;exact Prod.ext hq.1 hq.2
   have h2:=ih (k+1) zO zO;by_cases hd:a.drop (k+1)=b.drop (k+1)
   .rw [yL hd]at h2;rw[yL (by rw[e1,e2,hab,hd])];exact h2
   .rw [yK hd]at h2;rw[yK (by rw[e1,e2,hab];exact fun h=>hd (List.cons.inj h).2)];exact h2
  .have fF:¬a.drop k=b.drop k:=by
    rw[e1,e2];intro he;injection he with h1 _;rw[h1]at hq;simp at hq
   rw[yK fF];exact⟨rfl,rfl⟩
theorem amb(a b:List D)(ha:a.length<=1000000000)(hb:b.length=a.length):Rq 0 65 0 (IY a b 0) (if a=b then .exit 0 else .ret) { aL:=aC 26 [(4,bool false)],H:=[] } :=
 Nf a b ha hb _ 0 rfl zO
theorem aqi(a b:List D)(ha:a.length<=1000000000)(h:((((a.length:Int)=(b.length:Int))->(((a=b)->(true)=(decide (a=b)))/\((¬a=b)->(false)=(decide (a=b)))))/\((¬(a.length:Int)=(b.length:Int))->(false)=(decide (a=b))))):Cq 65 [bB a,bB b] (Am.bool (decide (a=b))):=by
 have bS:=lU (Go.bH.ay a);have fT:=lU (Go.bH.ay b);by_cases c1:((a.length:Int)=(b.length:Int))
 .have h:=h.1 c1;have jw:=(yJ Bool.not (nW.2 c1));by_cases c2:(a=b)
  .have h:=h.1 c2;exact aA (aF.aI h) [kv 7 bS,kv 9 fT,kf jw,kv 12 bS,kl (rG [(2,2),(5,6),(14,12)]) 0 (show Rq 0 65 0 (sM 26 [(0,.sl 2 false (au a)),(1,.sl 2 false (au b)),(4,Am.bool false),(11,.sl 2 false (au a)),(12,int ↑a.length),(13,int 0)] []) (bF.exit 0) (sM 26 [(4,Am.bool false)] [])from(by have h0:=(@amb (a) (b) zO zO);simp only[yL c2]at h0;exact h0))]
  .have h:=h.2 c2;exact aA (aF.aI h) [kv 7 bS,kv 9 fT,kf jw,kv 12 bS,kl (rG [(2,2),(5,6),(14,12)]) 0 (show Rq 0 65 0 (sM 26 [(0,.sl 2 false (au a)),(1,.sl 2 false (au b)),(4,Am.bool false),(11,.sl 2 false (au a)),(12,int ↑a.length),(13,int 0)] []) bF.ret (sM 26 [(4,Am.bool false)] [])from(by have h0:=(@amb (a) (b) zO zO);simp only[yK c2]at h0;exact h0))]
 .have h:=h.2 c1;exact aA (aF.aI h) [kv 7 bS,kv 9 fT,kt (yJ Bool.not (qN.2 c1))]
theorem aqj(a b:List D)(ha:a.length<=1000000000):Cq 65 [bB a,bB b] (bool (decide (a=b))):=by
 refine aqi a b ha ?_;constructor
 .simp
 .grind
theorem tN(a b:yP):(a==b)=decide (a=b):=by
 obtain⟨⟨a⟩⟩:=a;obtain⟨⟨b⟩⟩:=b;show(a.toArray==b.toArray)=_;rw[Bool.eq_iff_iff];simp
theorem bool_beq(a b:Bool):(a==b)=decide (a=b):=by cases a<;>cases b<;>rfl
def UN(a b:OP):Bool:=(decide (a.dv=b.dv)&&decide (a.sq=b.sq))&&decide (a.tm=b.tm)&&decide (a.cx=b.cx)&&(decide (a.pk=b.pk)&&decide (a.pn=b.pn))&&decide (a.kd=b.kd)&&(decide (a.f1=b.f1)&&decide (a.f2=b.f2)&&decide (a.f3=b.f3)) &&
 (decide (a.t1=b.t1)&&decide (a.t2=b.t2)&&decide (a.t3=b.t3))&&decide (a.ky=b.ky)&&decide (a.vl=b.vl)&&decide (a.n=b.n)&&decide (a.on=b.on)
theorem Qs(a b:OP):UN a b=decide (a=b):=by
 cases a;cases b;simp only[UN,OP.mk.injEq,Bool.decide_and,Bool.and_assoc]
theorem E9(a b:OP)(ha:a.cx.length<=1000000000)(v:Bool)(h:((((a.dv==b.dv&&a.sq==b.sq)=true)->(((a.tm=b.tm)->(((a.cx=b.cx)->((((a.pk==b.pk&&a.pn==b.pn)=true)->(((a.kd=b.kd)->((((a.f1==b.f1&&(a.f2==b.f2&&a.f3==b.f3))=true)->((((a.t1==b.t1&&(a.t2==b.t2&&a.t3==b.t3))=true)->(((a.ky=b.ky)->(((a.vl=b.vl)->(((a.n=b.n)->(a.on==b.on)=(v))/\((¬a.n=b.n)->(false)=(v))))/\((¬a.vl=b.vl)->(false)=(v))))/\((¬a.ky=b.ky)->(false)=(v))))/\(((a.t1==b.t1&&(a.t2==b.t2&&a.t3==b.t3))=false)->(false)=(v))))/\(((a.f1==b.f1&&(a.f2==b.f2&&a.f3==b.f3))=false)->(false)=(v))))/\((¬a.kd=b.kd)->(false)=(v))))/\(((a.pk==b.pk&&a.pn==b.pn)=false)->(false)=(v))))/\((¬a.cx=b.cx)->(false)=(v))))/\((¬a.tm=b.tm)->(false)=(v))))/\(((a.dv==b.dv&&a.sq==b.sq)=false)->(false)=(v)))):Cq 93 [op a,op b] (Am.bool v):=by
 rcases Bool.eq_false_or_eq_true ((a.dv==b.dv&&a.sq==b.sq))with c1|c1
 .have h:=h.1 c1;by_cases c2:(a.tm=b.tm)
  .have h:=h.1 c2;have bS:=(@aqj a.cx b.cx zO);let l1:List fP:=[kt c1,kt (nW.2 c2),kc [] bS];by_cases c3:(a.cx=b.cx)
   .have h:=h.1 c3;let l2:List fP:=l1++[kt (qT c3)];rcases Bool.eq_false_or_eq_true ((a.pk==b.pk&&a.pn==b.pn))with c4|c4
    .have h:=h.1 c4;by_cases c5:(a.kd=b.kd)
     .have h:=h.1 c5;let l3:List fP:=l2++[kt c4,kt (nW.2 c5)];rcases Bool.eq_false_or_eq_true ((a.f1==b.f1&&(a.f2==b.f2&&a.f3==b.f3)))with c6|c6
      .have h:=h.1 c6;rcases Bool.eq_false_or_eq_true ((a.t1==b.t1&&(a.t2==b.t2&&a.t3==b.t3)))with c7|c7
       .have h:=h.1 c7;let l4:List fP:=l3++[kt c6,kt c7,kv 57 (show Am.aF (Am.bool (ByteArray.toList a.ky==ByteArray.toList b.ky)) (Am.bool (decide (a.ky=b.ky)))from(aF.of_eq (by simp only[Go.yU.rC])))];by_cases c8:(a.ky=b.ky)
        .have h:=h.1 c8;let l5:List fP:=l4++[kt (qT c8),kv 64 (show Am.aF (Am.bool (ByteArray.toList a.vl==ByteArray.toList b.vl)) (Am.bool (decide (a.vl=b.vl)))from(aF.of_eq (by simp only[Go.yU.rC])))];by_cases c9:(a.vl=b.vl)
         .have h:=h.1 c9;by_cases G9:(a.n=b.n)
          .have h:=h.1 G9;exact aA (aF.aI h) (l5++[kt (qT c9),kt (nW.2 G9)])
          .have h:=h.2 G9;exact aA (aF.aI h) (l5++[kt (qT c9),kf (qN.2 G9)])
         .have h:=h.2 c9;exact aA (aF.aI h) (l5++[kf (qF c9),kY])
        .have h:=h.2 c8;exact aA (aF.aI h) (l4++[kf (qF c8),kY,kY])
       .have h:=h.2 c7;exact aA (aF.aI h) (l3++[kt c6,kf c7,kY,kY,kY])
      .have h:=h.2 c6;exact aA (aF.aI h) (l3++[kf c6,kY,kY,kY,kY])
     .have h:=h.2 c5;exact aA (aF.aI h) (l2++[kt c4,kf (qN.2 c5),kY,kY,kY,kY,kY])
    .have h:=h.2 c4;exact aA (aF.aI h) (l2++[kf c4,kY,kY,kY,kY,kY,kY])
   .have h:=h.2 c3;exact aA (aF.aI h) (l1++[kf (qF c3),kY,kY,kY,kY,kY,kY,kY])
  .have h:=h.2 c2;exact aA (aF.aI h) [kt c1,kf (qN.2 c2),kY,kY,kY,kY,kY,kY,kY,kY]
 .have h:=h.2 c1;exact aA (aF.aI h) [kf c1,kY,kY,kY,kY,kY,kY,kY,kY,kY]
theorem zG(a b:OP)(ha:a.cx.length<=1000000000):Cq 93 [op a,op b] (bool (decide (a=b))):=E9 a b ha _ (by
 rw[<- Qs];unfold UN
 repeat' (first|refine And.intro ?_ ?_|intro _)
 all_goals simp_all[tN,bool_beq])
def Kj:OP:=⟨0,0,0,[],0,.empty,0,0,0,0,0,0,0,.empty,.empty,0,false⟩
def mQ(o:OP):Int->OP
 |1=>{ Kj with t1:=o.t1,t2:=o.t2,t3:=o.t3,ky:=o.ky,n:=o.n,on:=o.on }
 |2=>{ Kj with t1:=o.t1,t2:=o.t2,t3:=o.t3,ky:=o.ky,vl:=o.vl,n:=o.n,on:=o.on }
 |3=>{ Kj with f1:=o.f1,f2:=o.f2,f3:=o.f3,t1:=o.t1,t2:=o.t2,t3:=o.t3,n:=o.n,on:=o.on }
 |4=>{ Kj with f1:=o.f1,f2:=o.f2,f3:=o.f3,t1:=o.t1,t2:=o.t2,t3:=o.t3,vl:=o.vl,n:=o.n,on:=o.on }
 |5=>{ Kj with f1:=o.f1,f2:=o.f2,f3:=o.f3,t1:=o.t1,t2:=o.t2,t3:=o.t3,ky:=o.ky,vl:=o.vl,on:=o.on }
 |6=>{ Kj with t1:=o.t1,t2:=o.t2,t3:=o.t3,ky:=o.ky,n:=o.n,on:=o.on }
 |7=>{ Kj with t1:=o.t1,t2:=o.t2,t3:=o.t3,ky:=o.ky,vl:=o.vl,on:=o.on }
 |_=>{ Kj with ky:=o.ky,vl:=o.vl }
theorem ac8(o:OP)(h:True):Cq 94 [Ki o 1] (op (mQ o 1)):=by
 exact ak.out ((show Cq 94 [Ki o 1] (.agg [int 0,int 0,int 0,aK,int 0,str (ByteArray.mk #[]),int 0,int 0,int 0,int 0,int o.t1,int o.t2,int o.t3,str o.ky,str (ByteArray.mk #[]),int o.n,Am.bool o.on])from aj [kY,kY,kY,kO,kO])) (aF.qo ⟨aF.refl _,aF.refl _,aF.refl _,(aF.nil _),aF.refl _,aF.refl _,aF.refl _,aF.refl _,aF.refl _,aF.refl _,aF.refl _,aF.refl _,aF.refl _,aF.refl _,aF.refl _,aF.refl _,aF.refl _,yO⟩)
theorem ac9(o:OP)(h:True):Cq 94 [Ki o 2] (op (mQ o 2)):=by
 exact ak.out ((show Cq 94 [Ki o 2] (.agg [int 0,int 0,int 0,aK,int 0,str (ByteArray.mk #[]),int 0,int 0,int 0,int 0,int o.t1,int o.t2,int o.t3,str o.ky,str o.vl,int o.n,Am.bool o.on])from aj [kY,kY,kY,kY,kY,kO])) (aF.qo ⟨aF.refl _,aF.refl _,aF.refl _,(aF.nil _),aF.refl _,aF.refl _,aF.refl _,aF.refl _,aF.refl _,aF.refl _,aF.refl _,aF.refl _,aF.refl _,aF.refl _,aF.refl _,aF.refl _,aF.refl _,yO⟩)
theorem ada(o:OP)(h:True):Cq 94 [Ki o 3] (op (mQ o 3)):=by
 exact ak.out ((show Cq 94 [Ki o 3] (.agg [int 0,int 0,int 0,aK,int 0,str (ByteArray.mk #[]),int 0,int o.f1,int o.f2,int o.f3,int o.t1,int o.t2,int o.t3,str (ByteArray.mk #[]),str (ByteArray.mk #[]),int o.n,Am.bool o.on])from aj [kY,kY,kY,kY,kY,kY,kO])) (aF.qo ⟨aF.refl _,aF.refl _,aF.refl _,(aF.nil _),aF.refl _,aF.refl _,aF.refl _,aF.refl _,aF.refl _,aF.refl _,aF.refl _,aF.refl _,aF.refl _,aF.refl _,aF.refl _,aF.refl _,aF.refl _,yO⟩)
theorem adb(o:OP)(h:True):Cq 94 [Ki o 4] (op (mQ o 4)):=by
 exact ak.out ((show Cq 94 [Ki o 4] (.agg [int 0,int 0,int 0,aK,int 0,str (ByteArray.mk #[]),int 0,int o.f1,int o.f2,int o.f3,int o.t1,int o.t2,int o.t3,str (ByteArray.mk #[]),str o.vl,int o.n,Am.bool o.on])from aj [kY,kY,kY,kY,kY,kY,kY,kO])) (aF.qo ⟨aF.refl _,aF.refl _,aF.refl _,(aF.nil _),aF.refl _,aF.refl _,aF.refl _,aF.refl _,aF.refl _,aF.refl _,aF.refl _,aF.refl _,aF.refl _,aF.refl _,aF.refl _,aF.refl _,aF.refl _,yO⟩)
theorem ade(o:OP)(h:True):Cq 94 [Ki o 5] (op (mQ o 5)):=by
 exact ak.out ((show Cq 94 [Ki o 5] (.agg [int 0,int 0,int 0,aK,int 0,str (ByteArray.mk #[]),int 0,int o.f1,int o.f2,int o.f3,int o.t1,int o.t2,int o.t3,str o.ky,str o.vl,int 0,Am.bool o.on])from aj [kY,kY,kO])) (aF.qo ⟨aF.refl _,aF.refl _,aF.refl _,(aF.nil _),aF.refl _,aF.refl _,aF.refl _,aF.refl _,aF.refl _,aF.refl _,aF.refl _,aF.refl _,aF.refl _,aF.refl _,aF.refl _,aF.refl _,aF.refl _,yO⟩)
theorem adf(o:OP)(h:True):Cq 94 [Ki o 6] (op (mQ o 6)):=by
 exact ak.out ((show Cq 94 [Ki o 6] (.agg [int 0,int 0,int 0,aK,int 0,str (ByteArray.mk #[]),int 0,int 0,int 0,int 0,int o.t1,int o.t2,int o.t3,str o.ky,str (ByteArray.mk #[]),int o.n,Am.bool o.on])from aj [kY,kY,kY,kY,kO])) (aF.qo ⟨aF.refl _,aF.refl _,aF.refl _,(aF.nil _),aF.refl _,aF.refl _,aF.refl _,aF.refl _,aF.refl _,aF.refl _,aF.refl _,aF.refl _,aF.refl _,aF.refl _,aF.refl _,aF.refl _,aF.refl _,yO⟩)
theorem adg(o:OP)(h:True):Cq 94 [Ki o 7] (op (mQ o 7)):=by
 exact ak.out ((show Cq 94 [Ki o 7] (.agg [int 0,int 0,int 0,aK,int 0,str (ByteArray.mk #[]),int 0,int 0,int 0,int 0,int o.t1,int o.t2,int o.t3,str o.ky,str o.vl,int 0,Am.bool o.on])from aj [kY,kO])) (aF.qo ⟨aF.refl _,aF.refl _,aF.refl _,(aF.nil _),aF.refl _,aF.refl _,aF.refl _,aF.refl _,aF.refl _,aF.refl _,aF.refl _,aF.refl _,aF.refl _,aF.refl _,aF.refl _,aF.refl _,aF.refl _,yO⟩)
theorem adh(o:OP)(h:True):Cq 94 [Ki o 8] (op (mQ o 8)):=by
 exact ak.out ((show Cq 94 [Ki o 8] (.agg [int 0,int 0,int 0,aK,int 0,str (ByteArray.mk #[]),int 0,int 0,int 0,int 0,int 0,int 0,int 0,str o.ky,str o.vl,int 0,Am.bool false])from aj [kO])) (aF.qo ⟨aF.refl _,aF.refl _,aF.refl _,(aF.nil _),aF.refl _,aF.refl _,aF.refl _,aF.refl _,aF.refl _,aF.refl _,aF.refl _,aF.refl _,aF.refl _,aF.refl _,aF.refl _,aF.refl _,aF.refl _,yO⟩)
end Go.bV
namespace Go.yU
open Go Go.Am Go.Proofs Go.eY
mutual
def wf:CV->Bool
 |.mk k n s l=>if k=1 then decide (s = .empty)&&decide (l.length=0)else if k=2 then decide (n=0)&&decide (l.length=0)else if k=3 then decide (n=0)&&decide (s = .empty)&&Lb l else false
def Lb:List CV->Bool
 |[]=>true
 |v::l=>wf v&&Lb l
end
mutual
def dp:CV->Nat
 |.mk k _ _ l=>if k=3 then JO l+1 else 0
def JO:List CV->Nat
 |[]=>0
 |v::l=>max (dp v) (JO l)
end
theorem CV.ind{p:CV->Prop}(h:∀k n s l,(∀x∈l,p x)->p (.mk k n s l))(v:CV):p v :=
 CV.rec (motive_1:=p) (motive_2:=fun l=>∀x∈l,p x) (fun k n s l ih=>h k n s l ih) (fun _ hx=>by cases hx) (fun a l ha hl x hx=>by
  rcases yH.1 hx with rfl|hx
  .exact ha
  .exact hl x hx) v
inductive QG:CV->Prop
 |mk (k n:Int) (s:yP) (l:List CV) (hn : -9223372036854775808<=n/\n<9223372036854775808) (hs:s.size<=9223372036854775807) (hl:l.length<=9223372036854775807) (h:∀x∈l,QG x):QG (.mk k n s l)
theorem Sr{l:List CV}{x:CV}(h:x∈l):dp x<=JO l:=by
 induction l with
 |nil=>cases h
 |cons a l ih =>
  simp only[JO];rcases yH.1 h with rfl|h
  .omega
  .have:=ih h;omega
theorem empty_eq:({ data:=#[] }:yP)=ByteArray.empty:=rfl
def Es(v:CV):Prop:=Cq 210 [val v] (.bq [int (if wf v=true then dp v else 0),bool (wf v)])
theorem WQ(n:Int)(s:yP)(l:List CV)(a:Int)(b:Bool)(h:(((s=ByteArray.mk #[])->(((n=0)->((((l.length:Int)=0)->(0=a)/\((true)=(b)))/\((¬(l.length:Int)=0)->(0=a)/\((false)=(b)))))/\((¬n=0)->((((l.length:Int)=0)->(0=a)/\((true)=(b)))/\((¬(l.length:Int)=0)->(0=a)/\((false)=(b)))))))/\((¬s=ByteArray.mk #[])->(((n=0)->(0=a)/\((false)=(b)))/\((¬n=0)->(0=a)/\((false)=(b))))))):Cq 210 [rR 1 n s l] (.bq [int a,Am.bool b]):=by
 have bS:Am.aF (Am.bool (ByteArray.toList s==ByteArray.toList (ByteArray.mk #[]))) (Am.bool (decide (s=ByteArray.mk #[]))):=(aF.of_eq (by simp only[rC]));by_cases c1:(s=ByteArray.mk #[])
 .have h:=h.1 c1;have fT:=lU (fA l);let l1:List fP:=[kv 11 bS,kt (qT c1),kv 15 fT];by_cases c2:(n=0)
  .have h:=h.1 c2;have jw:(0:Int)<=(1:Int)/\(1:Int)<(4:Int):=zO;let l2:List fP:=l1++[kt (nW.2 c2),kv 24 fT,kt (nW.2 c2),kv 33 bS,kY,kY,kp jw];by_cases c3:((l.length:Int)=0)
   .have h:=h.1 c3;obtain⟨e1,e2⟩:=h;exact ak.out ((show Cq 210 [rR 1 n s l] (.bq [int 0,Am.bool true])from aj (l2++[kf (show(!(l.length:Int)==0)=false from(yJ Bool.not (nW.2 c3))),kO]))) (aF.iM ⟨(aF.int_eq e1),(aF.aI e2),yO⟩)
   .have h:=h.2 c3;obtain⟨e1,e2⟩:=h;exact ak.out ((show Cq 210 [rR 1 n s l] (.bq [int 0,Am.bool false])from aj (l2++[kt (show(!(l.length:Int)==0)=true from(yJ Bool.not (qN.2 c3)))]))) (aF.iM ⟨(aF.int_eq e1),(aF.aI e2),yO⟩)
  .have h:=h.2 c2;have jw:(0:Int)<=(1:Int)/\(1:Int)<(4:Int):=zO;let l3:List fP:=l1++[kf (qN.2 c2),kf (qN.2 c2),kY,kY,kp jw];by_cases c4:((l.length:Int)=0)
   .have h:=h.1 c4;obtain⟨e1,e2⟩:=h;exact ak.out ((show Cq 210 [rR 1 n s l] (.bq [int 0,Am.bool true])from aj (l3++[kf (show(!(l.length:Int)==0)=false from(yJ Bool.not (nW.2 c4))),kO]))) (aF.iM ⟨(aF.int_eq e1),(aF.aI e2),yO⟩)
   .have h:=h.2 c4;obtain⟨e1,e2⟩:=h;exact ak.out ((show Cq 210 [rR 1 n s l] (.bq [int 0,Am.bool false])from aj (l3++[kt (show(!(l.length:Int)==0)=true from(yJ Bool.not (qN.2 c4)))]))) (aF.iM ⟨(aF.int_eq e1),(aF.aI e2),yO⟩)
 .have h:=h.2 c1;by_cases c5:(n=0)
  .have h:=h.1 c5;obtain⟨e1,e2⟩:=h;exact ak.out ((show Cq 210 [rR 1 n s l] (.bq [int 0,Am.bool false])from aj [kv 11 bS,kf (qF c1),kt (nW.2 c5),kN 24 (fA l),kt (nW.2 c5),kv 33 bS,kY,kY,kR (1:Int) (4:Int),kO])) (aF.iM ⟨(aF.int_eq e1),(aF.aI e2),yO⟩)
  .have h:=h.2 c5;obtain⟨e1,e2⟩:=h;exact ak.out ((show Cq 210 [rR 1 n s l] (.bq [int 0,Am.bool false])from aj [kv 11 bS,kf (qF c1),kf (qN.2 c5),kf (qN.2 c5),kY,kY,kR (1:Int) (4:Int),kO])) (aF.iM ⟨(aF.int_eq e1),(aF.aI e2),yO⟩)
theorem WR(n:Int)(s:yP)(l:List CV)(a:Int)(b:Bool)(h:(((s=ByteArray.mk #[])->(((n=0)->((((l.length:Int)=0)->(0=a)/\((true)=(b)))/\((¬(l.length:Int)=0)->(0=a)/\((false)=(b)))))/\((¬n=0)->(0=a)/\((false)=(b)))))/\((¬s=ByteArray.mk #[])->(((n=0)->((((l.length:Int)=0)->(0=a)/\((true)=(b)))/\((¬(l.length:Int)=0)->(0=a)/\((false)=(b)))))/\((¬n=0)->(0=a)/\((false)=(b))))))):Cq 210 [rR 2 n s l] (.bq [int a,Am.bool b]):=by
 have bS:Am.aF (Am.bool (ByteArray.toList s==ByteArray.toList (ByteArray.mk #[]))) (Am.bool (decide (s=ByteArray.mk #[]))):=(aF.of_eq (by simp only[rC]));by_cases c1:(s=ByteArray.mk #[])
 .have h:=h.1 c1;have fT:=lU (fA l);let l1:List fP:=[kv 11 bS,kt (qT c1),kv 15 fT];by_cases c2:(n=0)
  .have h:=h.1 c2;let l2:List fP:=l1++[kt (nW.2 c2),kv 24 fT,kt (nW.2 c2),kv 33 bS,kY,kY,kR (2:Int) (4:Int)];by_cases c3:((l.length:Int)=0)
   .have h:=h.1 c3;obtain⟨e1,e2⟩:=h;exact ak.out ((show Cq 210 [rR 2 n s l] (.bq [int 0,Am.bool true])from aj (l2++[kf (show(!(l.length:Int)==0)=false from(yJ Bool.not (nW.2 c3))),kO]))) (aF.iM ⟨(aF.int_eq e1),(aF.aI e2),yO⟩)
   .have h:=h.2 c3;obtain⟨e1,e2⟩:=h;exact ak.out ((show Cq 210 [rR 2 n s l] (.bq [int 0,Am.bool false])from aj (l2++[kt (show(!(l.length:Int)==0)=true from(yJ Bool.not (qN.2 c3)))]))) (aF.iM ⟨(aF.int_eq e1),(aF.aI e2),yO⟩)
  .have h:=h.2 c2;obtain⟨e1,e2⟩:=h;exact ak.out ((show Cq 210 [rR 2 n s l] (.bq [int 0,Am.bool false])from aj (l1++[kf (qN.2 c2),kf (qN.2 c2),kY,kY,kR (2:Int) (4:Int),kO]))) (aF.iM ⟨(aF.int_eq e1),(aF.aI e2),yO⟩)
 .have h:=h.2 c1;have fT:=lU (fA l);let l3:List fP:=[kv 11 bS,kf (qF c1)];by_cases c4:(n=0)
  .have h:=h.1 c4;let l4:List fP:=l3++[kt (nW.2 c4),kv 24 fT,kt (nW.2 c4),kv 33 bS,kY,kY,kR (2:Int) (4:Int)];by_cases c5:((l.length:Int)=0)
   .have h:=h.1 c5;obtain⟨e1,e2⟩:=h;exact ak.out ((show Cq 210 [rR 2 n s l] (.bq [int 0,Am.bool true])from aj (l4++[kf (show(!(l.length:Int)==0)=false from(yJ Bool.not (nW.2 c5))),kO]))) (aF.iM ⟨(aF.int_eq e1),(aF.aI e2),yO⟩)
   .have h:=h.2 c5;obtain⟨e1,e2⟩:=h;exact ak.out ((show Cq 210 [rR 2 n s l] (.bq [int 0,Am.bool false])from aj (l4++[kt (show(!(l.length:Int)==0)=true from(yJ Bool.not (qN.2 c5)))]))) (aF.iM ⟨(aF.int_eq e1),(aF.aI e2),yO⟩)
  .have h:=h.2 c4;obtain⟨e1,e2⟩:=h;exact ak.out ((show Cq 210 [rR 2 n s l] (.bq [int 0,Am.bool false])from aj (l3++[kf (qN.2 c4),kf (qN.2 c4),kY,kY,kR (2:Int) (4:Int),kO]))) (aF.iM ⟨(aF.int_eq e1),(aF.aI e2),yO⟩)
theorem WS(k n:Int)(s:yP)(l:List CV)(hk:k<1\/3<k)(h:(((s=ByteArray.mk #[])->(((n=0)->(((k<1)->True)/\((¬k<1)->True)))/\((¬n=0)->(((k<1)->True)/\((¬k<1)->True)))))/\((¬s=ByteArray.mk #[])->(((n=0)->(((k<1)->True)/\((¬k<1)->True)))/\((¬n=0)->(((k<1)->True)/\((¬k<1)->True))))))):Cq 210 [rR k n s l] (.bq [int 0,Am.bool false]):=by
 have bS:Am.aF (Am.bool (ByteArray.toList s==ByteArray.toList (ByteArray.mk #[]))) (Am.bool (decide (s=ByteArray.mk #[]))):=(aF.of_eq (by simp only[rC]));let l1:List fP:=[kv 11 bS];by_cases c1:(s=ByteArray.mk #[])
 .have h:=h.1 c1;have fT:=lU (fA l);let l2:List fP:=l1++[kt (qT c1),kv 15 fT];by_cases c2:(n=0)
  .have h:=h.1 c2;let l3:List fP:=l2++[kt (nW.2 c2),kv 24 fT,kt (nW.2 c2),kv 33 bS];by_cases c3:(k<1)
   .have h:=h.1 c3;exact aj (l3++[kt (qT c3),kO,kO])
   .have h:=h.2 c3;exact aj (l3++[kf (qF c3),ki (k>3),kO])
  .have h:=h.2 c2;by_cases c5:(k<1)
   .have h:=h.1 c5;exact aj (l2++[kf (qN.2 c2),kf (qN.2 c2),kt (qT c5),kO,kO])
   .have h:=h.2 c5;exact aj (l2++[kf (qN.2 c2),kf (qN.2 c2),kf (qF c5),ki (k>3),kO])
 .have h:=h.2 c1;have fT:=lU (fA l);let l4:List fP:=l1++[kf (qF c1)];by_cases c7:(n=0)
  .have h:=h.1 c7;let l5:List fP:=l4++[kt (nW.2 c7),kv 24 fT,kt (nW.2 c7),kv 33 bS];by_cases c8:(k<1)
   .have h:=h.1 c8;exact aj (l5++[kt (qT c8),kO,kO])
   .have h:=h.2 c8;exact aj (l5++[kf (qF c8),ki (k>3),kO])
  .have h:=h.2 c7;by_cases G9:(k<1)
   .have h:=h.1 G9;exact aj (l4++[kf (qN.2 c7),kf (qN.2 c7),kt (qT G9),kO,kO])
   .have h:=h.2 G9;exact aj (l4++[kf (qN.2 c7),kf (qN.2 c7),kf (qF G9),ki (k>3),kO])
def Lx(l:List CV)(d:Int)(i:Nat):St:={ aL:=aC 74 [(2,int d),(3,bool false),(55,.sl 4 false (iB l)),(56,int l.length),(57,int i)],H:=[] }
theorem ad1(l:List CV)(d:Int)(i:Nat)(hi:l.length<=i)(h:True):Rq 0 210 0 (Lx l d i) (bF.exit 0) (sM 74 [(2,int d),(3,Am.bool false)] []):=by
 exact aG [kj ((i:Int)<l.length)] (aB 74 [2,3]) 0
theorem abm(l:List CV)(d i:Nat)(x:CV)(hi:i<l.length)(hl:l.length<=9223372036854775807)(hx:l[i]?=some x)(hd:dp x<=1000000)(hv:Cq 210 [val x] (.bq [int (if wf x=true then dp x else 0),bool (wf x)]))(ex:bF)(a:Int)(b:Bool)(h:((((wf x)=true)->Rq 0 210 0 (sM 74 [(2,int (if(if wf x=true then(↑(dp x):Int)else 0)>(d:Int)then if wf x=true then(↑(dp x):Int)else 0 else(d:Int))),(3,Am.bool false),(55,.sl 4 false (iB l)),(56,int ↑l.length),(57,int ↑(i+1))] []) ex (sM 74 [(2,int a),(3,Am.bool b)] []))/\(((wf x)=false)->(bF.ret=ex)/\(0=a)/\((false)=(b))))):Rq 0 210 0 (Lx l (d:Int) i) ex (sM 74 [(2,int a),(3,Am.bool b)] []):=by
 have bS:decide ((i:Int)<(l.length:Int))=true:=(qT zO);have fT:(0:Int)<=(i:Int)/\(iB l)[Int.toNat (i:Int)]?=some (aQ x):=(by rw[lC];exact bG hx);rcases Bool.eq_false_or_eq_true ((wf x))with c2|c2
 .have h:=h.1 c2;exact aJ [kt bS,ko (bC.elem (aQ x)),kp fT,kc [] hv,kf (yJ Bool.not (c2)),kW 71 (i+1) ↑(i+1)] (aB 74 [2,3,55,56,57]) 0 h
 .have h:=h.2 c2;obtain⟨eX,e1,e2⟩:=h;exact bN.to ((show Rq 0 210 0 (Lx l (d:Int) i) bF.ret (sM 74 [(2,int 0),(3,Am.bool false)] [])from aG [kt bS,ko (bC.elem (aQ x)),kp fT,kc [] hv,kt (show(!wf x)=true from(yJ Bool.not (c2)))] (aB 74 [2,3]) 0)) eX (eB.aC ⟨rfl,(aF.int_eq e1),rfl,(aF.aI e2),yO⟩)
theorem WT(n:Int)(s:yP)(l:List CV)(a:Int)(b:Bool)(hl:l.length<=9223372036854775807)(hd:JO l<=1000000)(hL:Rq 0 210 0 (Lx l 0 0) (if Lb l=true then .exit 0 else .ret) { aL:=aC 74 [(2,int (if Lb l=true then JO l else 0)),(3,bool false)],H:=[] })(h:(((s=ByteArray.mk #[])->(((n=0)->(((Lb l=true)->(((↑(JO l+1):Int):Int)=(a))/\((true)=(b)))/\((¬Lb l=true)->(0=a)/\((false)=(b)))))/\((¬n=0)->(0=a)/\((false)=(b)))))/\((¬s=ByteArray.mk #[])->(((n=0)->(0=a)/\((false)=(b)))/\((¬n=0)->(0=a)/\((false)=(b))))))):Cq 210 [rR 3 n s l] (.bq [int a,Am.bool b]):=by
 have bS:Am.aF (Am.bool (ByteArray.toList s==ByteArray.toList (ByteArray.mk #[]))) (Am.bool (decide (s=ByteArray.mk #[]))):=(aF.of_eq (by simp only[rC]));by_cases c1:(s=ByteArray.mk #[])
 .have h:=h.1 c1;have fT:=lU (fA l);let l1:List fP:=[kv 11 bS,kt (qT c1),kv 15 fT];by_cases c2:(n=0)
  .have h:=h.1 c2;let l2:List fP:=l1++[kt (nW.2 c2),kv 24 fT,kt (nW.2 c2),kv 33 bS,kY,kY,kR (3:Int) (4:Int),kf (yJ Bool.not (qT c1)),kY,kv 56 fT];by_cases c3:(Lb l=true)
   .have h:=h.1 c3;obtain⟨e1,e2⟩:=h;exact ak.out ((show Cq 210 [rR 3 n s l] (.bq [int ↑(JO l+1),Am.bool true])from aj (l2++[kl (rG [(0,2),(4,51),(58,16)]) 0 (show Rq 0 210 0 (sM 74 [(2,int 0),(3,Am.bool false),(55,.sl 4 false (iB l)),(56,int ↑l.length),(57,int 0)] []) (bF.exit 0) (sM 74 [(2,int ↑(JO l)),(3,Am.bool false)] [])from(by have h0:=hL;simp only[yL c3]at h0;exact h0)),kW 73 ((↑(JO l):Int)+1) (↑(JO l+1):Int)]))) (aF.iM ⟨(aF.int_eq e1),(aF.aI e2),yO⟩)
   .have h:=h.2 c3;obtain⟨e1,e2⟩:=h;exact ak.out ((show Cq 210 [rR 3 n s l] (.bq [int 0,Am.bool false])from aj (l2++[kl (rG [(0,2),(4,51),(58,16)]) 0 (show Rq 0 210 0 (sM 74 [(2,int 0),(3,Am.bool false),(55,.sl 4 false (iB l)),(56,int ↑l.length),(57,int 0)] []) bF.ret (sM 74 [(2,int 0),(3,Am.bool false)] [])from(by have h0:=hL;simp only[yK c3]at h0;exact h0))]))) (aF.iM ⟨(aF.int_eq e1),(aF.aI e2),yO⟩)
  .have h:=h.2 c2;obtain⟨e1,e2⟩:=h;exact ak.out ((show Cq 210 [rR 3 n s l] (.bq [int 0,Am.bool false])from aj (l1++[kf (qN.2 c2),kf (qN.2 c2),kY,kY,kR (3:Int) (4:Int),kO]))) (aF.iM ⟨(aF.int_eq e1),(aF.aI e2),yO⟩)
 .have h:=h.2 c1;by_cases c4:(n=0)
  .have h:=h.1 c4;obtain⟨e1,e2⟩:=h;exact ak.out ((show Cq 210 [rR 3 n s l] (.bq [int 0,Am.bool false])from aj [kv 11 bS,kf (qF c1),kt (nW.2 c4),kN 24 (fA l),kt (nW.2 c4),kv 33 bS,kY,kY,kR (3:Int) (4:Int),kt (show(!decide (s=ByteArray.mk #[]))=true from(yJ Bool.not (qF c1)))])) (aF.iM ⟨(aF.int_eq e1),(aF.aI e2),yO⟩)
  .have h:=h.2 c4;obtain⟨e1,e2⟩:=h;exact ak.out ((show Cq 210 [rR 3 n s l] (.bq [int 0,Am.bool false])from aj [kv 11 bS,kf (qF c1),kf (qN.2 c4),kf (qN.2 c4),kY,kY,kR (3:Int) (4:Int),kO])) (aF.iM ⟨(aF.int_eq e1),(aF.aI e2),yO⟩)
theorem abn(l:List CV)(hl:l.length<=9223372036854775807)(hd:JO l<=1000000)(hv:∀x∈l,Es x):∀(m i d:Nat),l.length-i=m->i<=l.length->d<=1000000 ->
 Rq 0 210 0 (Lx l d i) (if Lb (l.drop i)=true then .exit 0 else .ret) { aL:=aC 74 [(2,int (if Lb (l.drop i)=true then((max d (JO (l.drop i)):Nat):Int)else 0)),(3,bool false)],H:=[] }:=by
 intro m
 induction m with
 |zero =>
  intro i d hm hi hd';rw[drop_of_length_le zO];simp only[Lb,JO,if_true,Nat.max_zero];exact ad1 l d i zO trivial
 |succ m ih =>
  intro i d hm hi hd';have bg:i<l.length:=zO
  have hx:=yA bg;have zI:=getElem_mem bg;have hdx:=Sr zI;have e:=drop_eq_getElem_cons bg;refine abm l d i l[i] bg hl hx zO (hv _ zI) _ _ _ ⟨fun h=>?_,fun h=>?_⟩
  .have:=ih (i+1) (max d (dp l[i])) zO zO zO;rw[e];simp only[Lb,JO,h,Bool.true_and,if_true];have e2:(if((dp l[i]:Nat):Int)>(d:Int)then((dp l[i]:Nat):Int)else(d:Int))=((max d (dp l[i]):Nat):Int):=by
    split<;>omega
   rw[e2];unfold Lx at this;rw[show max d (max (dp l[i]) (JO (l.drop (i+1))))=max (max d (dp l[i])) (JO (l.drop (i+1))) by omega];exact this
  .rw [e];simp only[Lb,h,Bool.false_and,Bool.false_eq_true,if_false];exact⟨yO,yO,yO⟩
theorem abo(v:CV):QG v->dp v<=1000001->Es v:=by
 refine CV.ind (p:=fun v=>QG v->dp v<=1000001->Es v) (fun k n s l ih dK hd=>?_) v;cases dK with
 |mk _ _ _ _ hn hs hl jH =>
  unfold Es;rw[val_mk];by_cases h1:k=1
  .subst h1;have e:((if wf (.mk 1 n s l)=true then dp (.mk 1 n s l)else 0:Nat):Int)=0:=by simp[dp]
   have e':(if wf (.mk 1 n s l)=true then((dp (.mk 1 n s l):Nat):Int)else 0)=0:=by simp[dp]
   rw[e'];have ew:wf (.mk 1 n s l)=(decide (s = .empty)&&decide (l.length=0)):=by simp[wf]
   rw[ew];have T:s = .empty->(l.length:Int)=0->(0:Int)=0/\true=(decide (s = .empty)&&decide (l.length=0)):=fun a b=>⟨rfl,by rw[decide_eq_true a,decide_eq_true zO];rfl⟩;have F1:s = .empty->¬(l.length:Int)=0->(0:Int)=0/\false=(decide (s = .empty)&&decide (l.length=0)):=fun a b=>⟨rfl,by rw[decide_eq_true a,decide_eq_false zO];rfl⟩;have F2:¬s = .empty->(0:Int)=0/\false=(decide (s = .empty)&&decide (l.length=0)):=fun a=>⟨rfl,by rw[decide_eq_false a];rfl⟩;exact WQ n s l _ _ ⟨fun a=>⟨fun _=>⟨T a,F1 a⟩,fun _=>⟨T a,F1 a⟩⟩,fun a=>⟨fun _=>F2 a,fun _=>F2 a⟩⟩
  .by_cases h2:k=2
   .subst h2;have e':(if wf (.mk 2 n s l)=true then((dp (.mk 2 n s l):Nat):Int)else 0)=0:=by simp[dp]
    rw[e'];have ew:wf (.mk 2 n s l)=(decide (n=0)&&decide (l.length=0)):=by simp[wf]
    rw[ew];have T:n=0->(l.length:Int)=0->(0:Int)=0/\true=(decide (n=0)&&decide (l.length=0)):=fun a b=>⟨rfl,by rw[decide_eq_true a,decide_eq_true zO];rfl⟩;have F1:n=0->¬(l.length:Int)=0->(0:Int)=0/\false=(decide (n=0)&&decide (l.length=0)):=fun a b=>⟨rfl,by rw[decide_eq_true a,decide_eq_false zO];rfl⟩;have F2:¬n=0->(0:Int)=0/\false=(decide (n=0)&&decide (l.length=0)):=fun a=>⟨rfl,by rw[decide_eq_false a];rfl⟩;exact WR n s l _ _ ⟨fun _=>⟨fun a=>⟨T a,F1 a⟩,F2⟩,fun _=>⟨fun a=>⟨T a,F1 a⟩,F2⟩⟩
   .by_cases h3:k=3
    .subst h3;have hd3:JO l<=1000000:=by simp only[dp,if_true]at hd;omega
     have hL:=abn l hl hd3 (fun x hx=>ih x hx (jH x hx) (by have:=Sr hx;omega)) l.length 0 0 zO zO zO;rw[drop_zero,Nat.zero_max]at hL;have ew:wf (.mk 3 n s l)=(decide (n=0)&&decide (s = .empty)&&Lb l):=by simp[wf]
     have ed:dp (.mk 3 n s l)=JO l+1:=by simp[dp]
     rw[ew,ed];refine WT n s l _ _ hl hd3 hL ⟨fun hs=>⟨fun hn=>⟨fun hw=>?_,fun hw=>?_⟩,fun hn=>?_⟩,fun hs=>⟨fun hn=>?_,fun hn=>?_⟩⟩ <;>
      (rw[empty_eq]at hs;simp[hn,hs])<;>(try simp[hw])
    .have e:wf (.mk k n s l)=false:=by simp[wf,h1,h2,h3]
     rw[e];simp only[Bool.false_eq_true,if_false];exact WS k n s l zO zS
end Go.yU
namespace Go.bV
open Go Go.Am Go.Proofs Go.eY Go.bH Go.yU
theorem WV(l:List CV):∀x∈iB l,x.all AV.fJ=true:=by
 intro x hx;rw[lC]at hx;obtain⟨v,_,rfl⟩:=yG.1 hx;cases v;rfl
def hd(l:List CV):CV:=l.headD default
def at_(l:List CV)(i:Nat):CV:=(l.drop i).headD default
def rb(l:List CV):List ah:=[.box [.sl 4 false (iB l)]]
theorem aBO(a b:List UInt8)(h:(decide (ByteArray.mk (toArray a)=ByteArray.mk (toArray b)))=(decide (a=b))):ak P G 88 [Cy a,Cy b] [] (aS.ret (Am.bool (decide (a=b)))) []:=by
 have e1:=h;exact aA (aF.aI e1) [ko (bC.bytes (ByteArray.mk (toArray a))),ko (bC.bytes (ByteArray.mk (toArray b))),kp (show jl a=List.map (fun(c:UInt8)=>[AV.lit (Value.int IntKind.u8 (↑(UInt8.toNat c):Int))]) (Array.toList (Array.mk a))from(rfl)),kp (show jl b=List.map (fun(c:UInt8)=>[AV.lit (Value.int IntKind.u8 (↑(UInt8.toNat c):Int))]) (Array.toList (Array.mk b))from(rfl)),kv 9 (show Am.aF (Am.bool (ByteArray.toList (ByteArray.mk (toArray a))==ByteArray.toList (ByteArray.mk (toArray b)))) (Am.bool (decide (ByteArray.mk (toArray a)=ByteArray.mk (toArray b))))from(aF.of_eq (by simp only[Go.yU.rC])))] zQ
theorem aBP(a b:List UInt8):ak P G 88 [Cy a,Cy b] [] (.ret (bool (decide (a=b)))) []:=aBO a b (by
 have:(ByteArray.mk a.toArray=ByteArray.mk b.toArray)↔a=b:=zS
 simp[this])
theorem CX(x:Int)(h:(x != x)=(false)):Cq 216 [int x] (Am.bool false):=by
 exact aA (aF.aI h) []
theorem QX(x y v:Int)(hx:Cq 216 [int x] (bool false))(hy:Cq 216 [int y] (bool false))(h:(((x<y)->(-1:Int)=(v))/\((¬x<y)->(((x>y)->1=v)/\((¬x>y)->0=v))))):Cq 121 [int x,int y] (int v):=by
 let l1:List fP:=[kc [] hx,kc [] hy,kY,kY];by_cases c1:(x<y)
 .have h:=h.1 c1;exact aA (aF.int_eq h) (l1++[kt (qT c1)])
 .have h:=h.2 c1;by_cases c2:(x>y)
  .have h:=h.1 c2;exact aA (aF.int_eq h) (l1++[kf (qF c1),kt (qT c2)])
  .have h:=h.2 c2;exact aA (aF.int_eq h) (l1++[kf (qF c1),kf (qF c2)])
def gJ(x y:Int):Int:=if x<y then -1 else if x>y then 1 else 0
theorem wZ(x y:Int):Cq 121 [int x,int y] (int (gJ x y)):=QX x y _ (CX x zS) (CX y zS) (by
 unfold gJ;grind)
def Ar:List Int->Int
 |[]=>0
 |x::t=>if x=0 then Ar t else x
def H7(l:List Int)(k:Nat):St:={ aL:=aC 18 [(2,int 0),(3,int 0),(6,.sl 1 true (ql l)),(7,int l.length),(8,int k)],H:=[] }
theorem XZ(l:List Int)(k:Nat)(hl:l.length<=1000000)(ex:bF)(r:Int)(h:((((k:Int)<(l.length:Int))->(∃x2:Int,(l[k]?=some x2)/\(((x2=0)->Rq 0 120 0 (sM 18 [(2,int 0),(3,int 0),(6,.sl 1 true (ql l)),(7,int ↑l.length),(8,int ↑(k+1))] []) ex (sM 18 [(2,int r),(3,int 0)] []))/\((¬x2=0)->(bF.ret=ex)/\((x2:Int)=(r))))))/\((¬(k:Int)<(l.length:Int))->(bF.exit 0=ex)/\(0=r)))):Rq 0 120 0 (H7 l k) ex (sM 18 [(2,int r),(3,int 0)] []):=by
 by_cases c1:((k:Int)<(l.length:Int))
 .have h:=h.1 c1;obtain⟨x2,o3,h⟩:=h;have bS:(0:Int)<=(k:Int)/\(ql l)[Int.toNat (k:Int)]?=some (LW x2):=(bG o3);by_cases c4:(x2=0)
  .have h:=h.1 c4;exact aJ [kt (qT c1),ko (bC.elem (LW x2)),kp bS,kf (yJ Bool.not (nW.2 c4)),kW 16 (k+1) ↑(k+1)] (aB 18 [2,3,6,7,8]) 0 h
  .have h:=h.2 c4;obtain⟨eX,e1⟩:=h;exact bN.to ((show Rq 0 120 0 (H7 l k) bF.ret (sM 18 [(2,int x2),(3,int 0)] [])from aG [kt (qT c1),ko (bC.elem (LW x2)),kp bS,kt (show(x2 != 0)=true from(yJ Bool.not (qN.2 c4)))] (aB 18 [2,3]) 0)) eX (eB.aC ⟨rfl,(aF.int_eq e1),rfl,aF.refl _,yO⟩)
 .have h:=h.2 c1;obtain⟨eX,e1⟩:=h;exact bN.to ((show Rq 0 120 0 (H7 l k) (bF.exit 0) (sM 18 [(2,int 0),(3,int 0)] [])from aG [kf (qF c1)] (aB 18 [2,3]) 0)) eX (eB.aC ⟨rfl,(aF.int_eq e1),rfl,aF.refl _,yO⟩)
theorem Gw(l:List Int)(hl:l.length<=1000000):∀(m k:Nat),l.length-k=m->k<=l.length->Rq 0 120 0 (H7 l k) (if Ar (l.drop k)=0 then .exit 0 else .ret) { aL:=aC 18 [(2,int (Ar (l.drop k))),(3,int 0)],H:=[] }:=by
 intro m
 induction m with
 |zero =>
  intro k hm hk;have e:l.drop k=[]:=drop_of_length_le zO;rw[e];exact XZ l k hl _ _ ⟨fun h=>absurd h zO,fun _=>⟨rfl,rfl⟩⟩
 |succ m ih =>
  intro k hm hk;have bg:k<l.length:=zO
  have e:=drop_eq_getElem_cons bg;refine XZ l k hl _ _ ⟨fun _=>⟨l[k],yA bg,⟨fun h0=>?_,fun h0=>?_⟩⟩,fun h=>absurd bg zO⟩
  .have:Ar (l.drop k)=Ar (l.drop (k+1)):=by rw[e,Ar,yL h0]
   rw[this];exact ih (k+1) zO zO
  .have:Ar (l.drop k)=l[k]:=by rw[e,Ar,yK h0]
   rw[this,yK h0];exact⟨rfl,rfl⟩
theorem ab0(l:List Int)(r:Int)(hL:Rq 0 120 0 (H7 l 0) (if r=0 then .exit 0 else .ret) { aL:=aC 18 [(2,int r),(3,int 0)],H:=[] })(h:(((r=0)->0=r)/\((¬r=0)->True))):Cq 120 [.sl 1 true (ql l)] (int r):=by
 have bS:=lU (Go.bH.kD l);by_cases c1:(r=0)
 .have h:=h.1 c1;exact aA (aF.int_eq h) [kv 7 bS,kl (rG [(0,2),(4,2),(9,9)]) 0 (show Rq 0 120 0 (sM 18 [(2,int 0),(3,int 0),(6,.sl 1 true (ql l)),(7,int ↑l.length),(8,int 0)] []) (bF.exit 0) (sM 18 [(2,int r),(3,int 0)] [])from(by have h0:=hL;simp only[yL c1]at h0;exact h0))]
 .have h:=h.2 c1;exact aj [kv 7 bS,kl (rG [(0,2),(4,2),(9,9)]) 0 (show Rq 0 120 0 (sM 18 [(2,int 0),(3,int 0),(6,.sl 1 true (ql l)),(7,int ↑l.length),(8,int 0)] []) bF.ret (sM 18 [(2,int r),(3,int 0)] [])from(by have h0:=hL;simp only[yK c1]at h0;exact h0))]
end Go.bV
namespace Go.Bd
open Go Go.Am Go.Proofs Go.eY
def Dz(a b:yP):Bool:=Op.bytesLess (ByteArray.toList a) (ByteArray.toList b)
def oq(a b:yP):Int:=if Dz a b=true then -1 else if a=b then 0 else 1
def gJ(x y:Int):Int:=if x<y then -1 else if x>y then 1 else 0
def thn(a b:Int):Int:=if a=0 then b else a
theorem agc(a:yP)(r:Bool)(h:(!ByteArray.toList a==ByteArray.toList a)=(r)):ak P G 217 [str a] [] (aS.ret (Am.bool r)) []:=by
 have e1:=h;exact aA (aF.aI e1) [] zQ
theorem agd(a:Int)(r:Bool)(h:(a != a)=(r)):ak P G 216 [int a] [] (aS.ret (Am.bool r)) []:=by
 have e1:=h;exact aA (aF.aI e1) [] zQ
theorem Zn(a:yP):ak P G 217 [str a] [] (.ret (bool false)) []:=agc a _ zS
theorem Zo(a:Int):ak P G 216 [int a] [] (.ret (bool false)) []:=agd a _ zS
theorem agf(a b:yP)(r:Int)(h:((((Op.bytesLess (ByteArray.toList a) (ByteArray.toList b))=true)->(-1:Int)=(r))/\(((Op.bytesLess (ByteArray.toList a) (ByteArray.toList b))=false)->((((Op.bytesLess (ByteArray.toList a) (ByteArray.toList b)||ByteArray.toList a==ByteArray.toList b)=true)->(0:Int)=(r))/\(((Op.bytesLess (ByteArray.toList a) (ByteArray.toList b)||ByteArray.toList a==ByteArray.toList b)=false)->(1:Int)=(r)))))):ak P G 122 [str a,str b] [] (aS.ret (int r)) []:=by
 have bS:=(@Go.Bd.Zn (a));have fT:=(@Go.Bd.Zn (b));rcases Bool.eq_false_or_eq_true ((Op.bytesLess (ByteArray.toList a) (ByteArray.toList b)))with c1|c1
 .have h:=h.1 c1;have e1:=h;exact aA (aF.int_eq e1) [kc [] bS,kc [] fT,kf (Eq.refl false),kf (Eq.refl false),kt c1] zQ
 .have h:=h.2 c1;rcases Bool.eq_false_or_eq_true ((Op.bytesLess (ByteArray.toList a) (ByteArray.toList b)||ByteArray.toList a==ByteArray.toList b))with c2|c2
  .have h:=h.1 c2;have e1:=h;exact aA (aF.int_eq e1) [kc [] bS,kc [] fT,kf (Eq.refl false),kf (Eq.refl false),kf c1,kf (show(!(Op.bytesLess (ByteArray.toList a) (ByteArray.toList b)||ByteArray.toList a==ByteArray.toList b))=false from(yJ Bool.not (c2)))] zQ
  .have h:=h.2 c2;have e1:=h;exact aA (aF.int_eq e1) [kc [] bS,kc [] fT,kf (Eq.refl false),kf (Eq.refl false),kf c1,kt (show(!(Op.bytesLess (ByteArray.toList a) (ByteArray.toList b)||ByteArray.toList a==ByteArray.toList b))=true from(yJ Bool.not (c2)))] zQ
theorem RO(a b:Int)(r:Int)(h:(((a<b)->(-1:Int)=(r))/\((¬a<b)->(((a>b)->(1:Int)=(r))/\((¬a>b)->(0:Int)=(r)))))):ak P G 121 [int a,int b] [] (aS.ret (int r)) []:=by
 have bS:=(@Go.Bd.Zo (a));have fT:=(@Go.Bd.Zo (b));by_cases c1:(a<b)
 .have h:=h.1 c1;have e1:=h;exact aA (aF.int_eq e1) [kc [] bS,kc [] fT,kf (Eq.refl false),kf (Eq.refl false),kt (decide_eq_true c1)] zQ
 .have h:=h.2 c1;by_cases c2:(a>b)
  .have h:=h.1 c2;have e1:=h;exact aA (aF.int_eq e1) [kc [] bS,kc [] fT,kf (Eq.refl false),kf (Eq.refl false),kf (decide_eq_false c1),kt (decide_eq_true c2)] zQ
  .have h:=h.2 c2;have e1:=h;exact aA (aF.int_eq e1) [kc [] bS,kc [] fT,kf (Eq.refl false),kf (Eq.refl false),kf (decide_eq_false c1),kf (decide_eq_false c2)] zQ
theorem Zp(a b:yP):ak P G 122 [str a,str b] [] (.ret (int (oq a b))) []:=agf a b _ (by
 rw[rC];unfold oq Dz;cases h:Op.bytesLess (ByteArray.toList a) (ByteArray.toList b)<;>by_cases e:a=b<;>simp[e])
theorem Cc(a b:Int):ak P G 121 [int a,int b] [] (.ret (int (gJ a b))) []:=RO a b _ (by unfold gJ;grind)
theorem agh(f:Nat)(h:True):ak P G 288 [yT f] [] (aS.ret (AV.fn (Fn.func 305) [] [AV.ptr 0 0])) [ah.box [yT f]]:=by
 have _:=h;exact aj [] zQ
theorem agi(f:Nat)(h:True):ak P G 205 [yT f] [] (aS.ret (AV.fn (Fn.func 270) [] [AV.ptr 0 0])) [ah.box [yT f]]:=by
 have _:=h;exact aj [] zQ
abbrev fS(f:Nat):AV:=.fn (.func 305) [] [.iG [yT f]]
abbrev fI(f:Nat):AV:=.fn (.func 270) [] [.iG [yT f]]
theorem agj(f:Nat):ak P G 288 [yT f] [] (.ret (fS f)) []:=ak.Zq (agh f yO) rfl
theorem Zr(f:Nat):ak P G 205 [yT f] [] (.ret (fI f)) []:=ak.Zq (agi f yO) rfl
theorem anP(a:BE)(h:True):ak P G 289 [oN a] [] (aS.ret (str (BE.ky a))) []:=by
 have _:=h;exact aj [] zQ
theorem ako(a:BE)(h:True):ak P G 207 [oN a] [] (aS.ret (int (BE.dv a))) []:=by
 have _:=h;exact aj [] zQ
theorem akp(a:BE)(h:True):ak P G 208 [oN a] [] (aS.ret (int (BE.sq a))) []:=by
 have _:=h;exact aj [] zQ
theorem akq(a b:BE)(h0:∀a,ak P G 289 [oN a] [] (.ret (str a.ky)) [])(h:True):ak P G 305 [oN a,oN b,AV.iG [yT 289]] [] (aS.ret (int (oq (BE.ky a) (BE.ky b)))) []:=by
 have _:=h;exact aj [kc [] (@h0 (a)),kc [] (@h0 (b)),kc [] (@Go.Bd.Zp (BE.ky a) (BE.ky b))] zQ
theorem akr(a b:BE)(h0:∀a,ak P G 207 [oN a] [] (.ret (int a.dv)) [])(h:True):ak P G 270 [oN a,oN b,AV.iG [yT 207]] [] (aS.ret (int (gJ (BE.dv a) (BE.dv b)))) []:=by
 have _:=h;exact aj [kc [] (@h0 (a)),kc [] (@h0 (b)),kc [] (@Go.Bd.Cc (BE.dv a) (BE.dv b))] zQ
theorem aks(a b:BE)(h0:∀a,ak P G 208 [oN a] [] (.ret (int a.sq)) [])(h:True):ak P G 270 [oN a,oN b,AV.iG [yT 208]] [] (aS.ret (int (gJ (BE.sq a) (BE.sq b)))) []:=by
 have _:=h;exact aj [kc [] (@h0 (a)),kc [] (@h0 (b)),kc [] (@Go.Bd.Cc (BE.sq a) (BE.sq b))] zQ
theorem akt(a b:BE):ak P G 305 [oN a,oN b,.iG [yT 289]] [] (.ret (int (oq a.ky b.ky))) []:=akq a b (fun a=>anP a yO) trivial
theorem aku(a b:BE):ak P G 270 [oN a,oN b,.iG [yT 207]] [] (.ret (int (gJ a.dv b.dv))) []:=akr a b (fun a=>ako a yO) trivial
theorem akv(a b:BE):ak P G 270 [oN a,oN b,.iG [yT 208]] [] (.ret (int (gJ a.sq b.sq))) []:=aks a b (fun a=>akp a yO) trivial
abbrev Pm(x y z:AV):AV:=.sl 1 true [[x],[y],[z]]
abbrev byF(x y z:AV):AV:=.fn (.func 269) [] [.iG [Pm x y z]]
theorem anQ(x y z:AV)(h:True):ak P G 204 [Pm x y z] [] (aS.ret (AV.fn (Fn.func 269) [] [AV.ptr 0 0])) [ah.box [Pm x y z]]:=by
 have _:=h;exact aj [] zQ
abbrev xK:AV:=fS 289
abbrev xD:AV:=fI 207
abbrev xQ:AV:=fI 208
def b1S(x y z:AV)(a b:BE)(k:Nat):St:={ aL:=aC 23 [(0,oN a),(1,oN b),(2,.iG [Pm x y z]),(3,.ptr 0 0),(4,.ptr 1 0),(5,int 0),(9,Pm x y z),(10,int 3),(11,int k)],H:=[.box (aQ a),.box (aQ b)] }
def b1E(a b:BE)(r:Int):St:={ aL:=aC 23 [(5,int r)],H:=[.box (aQ a),.box (aQ b)] }
def gM(a b:BE):Int:=thn (oq a.ky b.ky) (thn (gJ a.dv b.dv) (gJ a.sq b.sq))
theorem aek(a b:BE)(ex:bF)(r:Int)(h:(((oq (BE.ky a) (BE.ky b)=(0:Int))->bN P G none 0 (vg P 269 0) (St.mk (aC 23 [(0,AV.agg [str (BE.ky a),int (BE.dv a),int (BE.sq a),int (BE.tm a),str (BE.vl a)]),(1,AV.agg [str (BE.ky b),int (BE.dv b),int (BE.sq b),int (BE.tm b),str (BE.vl b)]),(2,AV.iG [AV.sl 1 true [[AV.fn (Fn.func 305) [] [AV.iG [AV.lit (Value.func (Fn.func 289) (Array.mk []) (Array.mk []))]]],[AV.fn (Fn.func 270) [] [AV.iG [AV.lit (Value.func (Fn.func 207) (Array.mk []) (Array.mk []))]]],[AV.fn (Fn.func 270) [] [AV.iG [AV.lit (Value.func (Fn.func 208) (Array.mk []) (Array.mk []))]]]]]),(3,AV.ptr 0 0),(4,AV.ptr 1 0),(5,int 0),(9,AV.sl 1 true [[AV.fn (Fn.func 305) [] [AV.iG [AV.lit (Value.func (Fn.func 289) (Array.mk []) (Array.mk []))]]],[AV.fn (Fn.func 270) [] [AV.iG [AV.lit (Value.func (Fn.func 207) (Array.mk []) (Array.mk []))]]],[AV.fn (Fn.func 270) [] [AV.iG [AV.lit (Value.func (Fn.func 208) (Array.mk []) (Array.mk []))]]]]),(10,int 3),(11,int 1)]) [ah.box [str (BE.ky a),int (BE.dv a),int (BE.sq a),int (BE.tm a),str (BE.vl a)],ah.box [str (BE.ky b),int (BE.dv b),int (BE.sq b),int (BE.tm b),str (BE.vl b)]] []) ex (b1E a b r))/\((¬oq (BE.ky a) (BE.ky b)=(0:Int))->(bF.ret=ex)/\((oq (BE.ky a) (BE.ky b):Int)=(r))))):bN P G none 0 (vg P 269 0) (b1S xK xD xQ a b 0) ex (b1E a b r):=by
 have bS:(0:Int)<=(0:Int)/\[[xK],[xD],[xQ]][Int.toNat (↑0:Int)]?=some [AV.fn (Fn.func 305) [] [AV.iG [AV.lit (Value.func (Fn.func 289) (Array.mk []) (Array.mk []))]]]:=(⟨zD,rfl⟩);have fT:=(@Go.Bd.akt (a) (b));by_cases c1:(oq (BE.ky a) (BE.ky b)=(0:Int))
 .have h:=h.1 c1;exact aJ [kt (Eq.refl true),ko (bC.elem [AV.fn (Fn.func 305) [] [AV.iG [AV.lit (Value.func (Fn.func 289) (Array.mk []) (Array.mk []))]]]),kp bS,kc [] fT,kf (show(oq (BE.ky a) (BE.ky b)!=0)=false from(yJ Bool.not (beq_iff_eq.2 c1)))] (aB 23 [0,1,2,3,4,5,9,10,11]) 2 h zQ
 .have h:=h.2 c1;obtain⟨eX,e1⟩:=h;exact bN.to ((show bN P G none 0 (vg P 269 0) (b1S xK xD xQ a b 0) bF.ret (St.mk (aC 23 [(5,int (oq (BE.ky a) (BE.ky b)))]) [ah.box [str (BE.ky a),int (BE.dv a),int (BE.sq a),int (BE.tm a),str (BE.vl a)],ah.box [str (BE.ky b),int (BE.dv b),int (BE.sq b),int (BE.tm b),str (BE.vl b)]] [])from aG [kt (Eq.refl true),ko (bC.elem [AV.fn (Fn.func 305) [] [AV.iG [AV.lit (Value.func (Fn.func 289) (Array.mk []) (Array.mk []))]]]),kp bS,kc [] fT,kt (show(oq (BE.ky a) (BE.ky b)!=0)=true from(yJ Bool.not (beq_eq_false_iff_ne.2 c1)))] (aB 23 [5]) 2 zQ)) eX (eB.aC ⟨rfl,(aF.int_eq e1),yO⟩)
theorem ael(a b:BE)(ex:bF)(r:Int)(h:(((gJ (BE.dv a) (BE.dv b)=(0:Int))->bN P G none 0 (vg P 269 0) (St.mk (aC 23 [(0,AV.agg [str (BE.ky a),int (BE.dv a),int (BE.sq a),int (BE.tm a),str (BE.vl a)]),(1,AV.agg [str (BE.ky b),int (BE.dv b),int (BE.sq b),int (BE.tm b),str (BE.vl b)]),(2,AV.iG [AV.sl 1 true [[AV.fn (Fn.func 305) [] [AV.iG [AV.lit (Value.func (Fn.func 289) (Array.mk []) (Array.mk []))]]],[AV.fn (Fn.func 270) [] [AV.iG [AV.lit (Value.func (Fn.func 207) (Array.mk []) (Array.mk []))]]],[AV.fn (Fn.func 270) [] [AV.iG [AV.lit (Value.func (Fn.func 208) (Array.mk []) (Array.mk []))]]]]]),(3,AV.ptr 0 0),(4,AV.ptr 1 0),(5,int 0),(9,AV.sl 1 true [[AV.fn (Fn.func 305) [] [AV.iG [AV.lit (Value.func (Fn.func 289) (Array.mk []) (Array.mk []))]]],[AV.fn (Fn.func 270) [] [AV.iG [AV.lit (Value.func (Fn.func 207) (Array.mk []) (Array.mk []))]]],[AV.fn (Fn.func 270) [] [AV.iG [AV.lit (Value.func (Fn.func 208) (Array.mk []) (Array.mk []))]]]]),(10,int 3),(11,int 2)]) [ah.box [str (BE.ky a),int (BE.dv a),int (BE.sq a),int (BE.tm a),str (BE.vl a)],ah.box [str (BE.ky b),int (BE.dv b),int (BE.sq b),int (BE.tm b),str (BE.vl b)]] []) ex (b1E a b r))/\((¬gJ (BE.dv a) (BE.dv b)=(0:Int))->(bF.ret=ex)/\((gJ (BE.dv a) (BE.dv b):Int)=(r))))):bN P G none 0 (vg P 269 0) (b1S xK xD xQ a b 1) ex (b1E a b r):=by
 have bS:(0:Int)<=(1:Int)/\[[xK],[xD],[xQ]][Int.toNat (↑1:Int)]?=some [AV.fn (Fn.func 270) [] [AV.iG [AV.lit (Value.func (Fn.func 207) (Array.mk []) (Array.mk []))]]]:=(⟨zD,rfl⟩);have fT:=(@Go.Bd.aku (a) (b));by_cases c1:(gJ (BE.dv a) (BE.dv b)=(0:Int))
 .have h:=h.1 c1;exact aJ [kt (Eq.refl true),ko (bC.elem [AV.fn (Fn.func 270) [] [AV.iG [AV.lit (Value.func (Fn.func 207) (Array.mk []) (Array.mk []))]]]),kp bS,kc [] fT,kf (show(gJ (BE.dv a) (BE.dv b)!=0)=false from(yJ Bool.not (beq_iff_eq.2 c1)))] (aB 23 [0,1,2,3,4,5,9,10,11]) 2 h zQ
 .have h:=h.2 c1;obtain⟨eX,e1⟩:=h;exact bN.to ((show bN P G none 0 (vg P 269 0) (b1S xK xD xQ a b 1) bF.ret (St.mk (aC 23 [(5,int (gJ (BE.dv a) (BE.dv b)))]) [ah.box [str (BE.ky a),int (BE.dv a),int (BE.sq a),int (BE.tm a),str (BE.vl a)],ah.box [str (BE.ky b),int (BE.dv b),int (BE.sq b),int (BE.tm b),str (BE.vl b)]] [])from aG [kt (Eq.refl true),ko (bC.elem [AV.fn (Fn.func 270) [] [AV.iG [AV.lit (Value.func (Fn.func 207) (Array.mk []) (Array.mk []))]]]),kp bS,kc [] fT,kt (show(gJ (BE.dv a) (BE.dv b)!=0)=true from(yJ Bool.not (beq_eq_false_iff_ne.2 c1)))] (aB 23 [5]) 2 zQ)) eX (eB.aC ⟨rfl,(aF.int_eq e1),yO⟩)
theorem aem(a b:BE)(ex:bF)(r:Int)(h:(((gJ (BE.sq a) (BE.sq b)=(0:Int))->bN P G none 0 (vg P 269 0) (St.mk (aC 23 [(0,AV.agg [str (BE.ky a),int (BE.dv a),int (BE.sq a),int (BE.tm a),str (BE.vl a)]),(1,AV.agg [str (BE.ky b),int (BE.dv b),int (BE.sq b),int (BE.tm b),str (BE.vl b)]),(2,AV.iG [AV.sl 1 true [[AV.fn (Fn.func 305) [] [AV.iG [AV.lit (Value.func (Fn.func 289) (Array.mk []) (Array.mk []))]]],[AV.fn (Fn.func 270) [] [AV.iG [AV.lit (Value.func (Fn.func 207) (Array.mk []) (Array.mk []))]]],[AV.fn (Fn.func 270) [] [AV.iG [AV.lit (Value.func (Fn.func 208) (Array.mk []) (Array.mk []))]]]]]),(3,AV.ptr 0 0),(4,AV.ptr 1 0),(5,int 0),(9,AV.sl 1 true [[AV.fn (Fn.func 305) [] [AV.iG [AV.lit (Value.func (Fn.func 289) (Array.mk []) (Array.mk []))]]],[AV.fn (Fn.func 270) [] [AV.iG [AV.lit (Value.func (Fn.func 207) (Array.mk []) (Array.mk []))]]],[AV.fn (Fn.func 270) [] [AV.iG [AV.lit (Value.func (Fn.func 208) (Array.mk []) (Array.mk []))]]]]),(10,int 3),(11,int 3)]) [ah.box [str (BE.ky a),int (BE.dv a),int (BE.sq a),int (BE.tm a),str (BE.vl a)],ah.box [str (BE.ky b),int (BE.dv b),int (BE.sq b),int (BE.tm b),str (BE.vl b)]] []) ex (b1E a b r))/\((¬gJ (BE.sq a) (BE.sq b)=(0:Int))->(bF.ret=ex)/\((gJ (BE.sq a) (BE.sq b):Int)=(r))))):bN P G none 0 (vg P 269 0) (b1S xK xD xQ a b 2) ex (b1E a b r):=by
 have bS:(0:Int)<=(2:Int)/\[[xK],[xD],[xQ]][Int.toNat (↑2:Int)]?=some [AV.fn (Fn.func 270) [] [AV.iG [AV.lit (Value.func (Fn.func 208) (Array.mk []) (Array.mk []))]]]:=(⟨zD,rfl⟩);have fT:=(@Go.Bd.akv (a) (b));by_cases c1:(gJ (BE.sq a) (BE.sq b)=(0:Int))
 .have h:=h.1 c1;exact aJ [kt (Eq.refl true),ko (bC.elem [AV.fn (Fn.func 270) [] [AV.iG [AV.lit (Value.func (Fn.func 208) (Array.mk []) (Array.mk []))]]]),kp bS,kc [] fT,kf (show(gJ (BE.sq a) (BE.sq b)!=0)=false from(yJ Bool.not (beq_iff_eq.2 c1)))] (aB 23 [0,1,2,3,4,5,9,10,11]) 2 h zQ
 .have h:=h.2 c1;obtain⟨eX,e1⟩:=h;exact bN.to ((show bN P G none 0 (vg P 269 0) (b1S xK xD xQ a b 2) bF.ret (St.mk (aC 23 [(5,int (gJ (BE.sq a) (BE.sq b)))]) [ah.box [str (BE.ky a),int (BE.dv a),int (BE.sq a),int (BE.tm a),str (BE.vl a)],ah.box [str (BE.ky b),int (BE.dv b),int (BE.sq b),int (BE.tm b),str (BE.vl b)]] [])from aG [kt (Eq.refl true),ko (bC.elem [AV.fn (Fn.func 270) [] [AV.iG [AV.lit (Value.func (Fn.func 208) (Array.mk []) (Array.mk []))]]]),kp bS,kc [] fT,kt (show(gJ (BE.sq a) (BE.sq b)!=0)=true from(yJ Bool.not (beq_eq_false_iff_ne.2 c1)))] (aB 23 [5]) 2 zQ)) eX (eB.aC ⟨rfl,(aF.int_eq e1),yO⟩)
theorem akw(a b:BE)(ex:bF)(r:Int)(h:(bF.exit 0=ex)/\((0:Int)=(r))):bN P G none 0 (vg P 269 0) (b1S xK xD xQ a b 3) ex (b1E a b r):=by
 obtain⟨eX,e1⟩:=h;exact bN.to ((show bN P G none 0 (vg P 269 0) (b1S xK xD xQ a b 3) (bF.exit 0) (St.mk (aC 23 [(5,int 0)]) [ah.box [str (BE.ky a),int (BE.dv a),int (BE.sq a),int (BE.tm a),str (BE.vl a)],ah.box [str (BE.ky b),int (BE.dv b),int (BE.sq b),int (BE.tm b),str (BE.vl b)]] [])from aG [kf (Eq.refl false)] (aB 23 [5]) 2 zQ)) eX (eB.aC ⟨rfl,(aF.int_eq e1),yO⟩)
theorem Zt(a b:BE):bN P G none 0 (vg P 269 0) (b1S xK xD xQ a b 0) (if gM a b=0 then .exit 0 else .ret) (b1E a b (gM a b)):=by
 unfold gM thn;by_cases h1:oq a.ky b.ky=0
 .rw [yL h1];refine aek a b _ _ ⟨fun _=>?_,fun h=>absurd h1 h⟩;by_cases h2:gJ a.dv b.dv=0
  .rw [yL h2];refine ael a b _ _ ⟨fun _=>?_,fun h=>absurd h2 h⟩;by_cases h3:gJ a.sq b.sq=0
   .refine aem a b _ _ ⟨fun _=>?_,fun h=>absurd h3 h⟩;rw[yL h3,h3];exact akw a b _ _ ⟨rfl,rfl⟩
   .rw [yK h3];exact aem a b _ _ ⟨fun h=>absurd h h3,fun _=>⟨rfl,rfl⟩⟩
  .rw [yK h2,yK h2];exact ael a b _ _ ⟨fun h=>absurd h h2,fun _=>⟨rfl,rfl⟩⟩
 .rw [yK h1,yK h1];exact aek a b _ _ ⟨fun h=>absurd h h1,fun _=>⟨rfl,rfl⟩⟩
theorem akx(a b:BE)(r:Int)(h:(((gM a b=(0:Int))->(0:Int)=(r))/\((¬gM a b=(0:Int))->(gM a b:Int)=(r)))):ak P G 269 [oN a,oN b,AV.iG [Pm xK xD xQ]] [] (aS.ret (int r)) []:=by
 by_cases c1:(gM a b=(0:Int))
 .have h:=h.1 c1;have e1:=h;exact aA (aF.int_eq e1) [kl [6,7,8,12,13,14,15,16,17,18,19,20,21,22] 2 (show bN P G none 0 (vg P 269 0) (St.mk (aC 23 [(0,AV.agg [str (BE.ky a),int (BE.dv a),int (BE.sq a),int (BE.tm a),str (BE.vl a)]),(1,AV.agg [str (BE.ky b),int (BE.dv b),int (BE.sq b),int (BE.tm b),str (BE.vl b)]),(2,AV.iG [AV.sl 1 true [[AV.fn (Fn.func 305) [] [AV.iG [AV.lit (Value.func (Fn.func 289) (Array.mk []) (Array.mk []))]]],[AV.fn (Fn.func 270) [] [AV.iG [AV.lit (Value.func (Fn.func 207) (Array.mk []) (Array.mk []))]]],[AV.fn (Fn.func 270) [] [AV.iG [AV.lit (Value.func (Fn.func 208) (Array.mk []) (Array.mk []))]]]]]),(3,AV.ptr 0 0),(4,AV.ptr 1 0),(5,int 0),(9,AV.sl 1 true [[AV.fn (Fn.func 305) [] [AV.iG [AV.lit (Value.func (Fn.func 289) (Array.mk []) (Array.mk []))]]],[AV.fn (Fn.func 270) [] [AV.iG [AV.lit (Value.func (Fn.func 207) (Array.mk []) (Array.mk []))]]],[AV.fn (Fn.func 270) [] [AV.iG [AV.lit (Value.func (Fn.func 208) (Array.mk []) (Array.mk []))]]]]),(10,int 3),(11,int 0)]) [ah.box [str (BE.ky a),int (BE.dv a),int (BE.sq a),int (BE.tm a),str (BE.vl a)],ah.box [str (BE.ky b),int (BE.dv b),int (BE.sq b),int (BE.tm b),str (BE.vl b)]] []) (bF.exit 0) (St.mk (aC 23 [(5,int (gM a b))]) [ah.box [str (BE.ky a),int (BE.dv a),int (BE.sq a),int (BE.tm a),str (BE.vl a)],ah.box [str (BE.ky b),int (BE.dv b),int (BE.sq b),int (BE.tm b),str (BE.vl b)]] [])from(by have h0:=(@Go.Bd.Zt (a) (b));simp only[yL c1]at h0;exact h0))] zQ
 .have h:=h.2 c1;have e1:=h;exact aA (aF.int_eq e1) [kl [6,7,8,12,13,14,15,16,17,18,19,20,21,22] 2 (show bN P G none 0 (vg P 269 0) (St.mk (aC 23 [(0,AV.agg [str (BE.ky a),int (BE.dv a),int (BE.sq a),int (BE.tm a),str (BE.vl a)]),(1,AV.agg [str (BE.ky b),int (BE.dv b),int (BE.sq b),int (BE.tm b),str (BE.vl b)]),(2,AV.iG [AV.sl 1 true [[AV.fn (Fn.func 305) [] [AV.iG [AV.lit (Value.func (Fn.func 289) (Array.mk []) (Array.mk []))]]],[AV.fn (Fn.func 270) [] [AV.iG [AV.lit (Value.func (Fn.func 207) (Array.mk []) (Array.mk []))]]],[AV.fn (Fn.func 270) [] [AV.iG [AV.lit (Value.func (Fn.func 208) (Array.mk []) (Array.mk []))]]]]]),(3,AV.ptr 0 0),(4,AV.ptr 1 0),(5,int 0),(9,AV.sl 1 true [[AV.fn (Fn.func 305) [] [AV.iG [AV.lit (Value.func (Fn.func 289) (Array.mk []) (Array.mk []))]]],[AV.fn (Fn.func 270) [] [AV.iG [AV.lit (Value.func (Fn.func 207) (Array.mk []) (Array.mk []))]]],[AV.fn (Fn.func 270) [] [AV.iG [AV.lit (Value.func (Fn.func 208) (Array.mk []) (Array.mk []))]]]]),(10,int 3),(11,int 0)]) [ah.box [str (BE.ky a),int (BE.dv a),int (BE.sq a),int (BE.tm a),str (BE.vl a)],ah.box [str (BE.ky b),int (BE.dv b),int (BE.sq b),int (BE.tm b),str (BE.vl b)]] []) bF.ret (St.mk (aC 23 [(5,int (gM a b))]) [ah.box [str (BE.ky a),int (BE.dv a),int (BE.sq a),int (BE.tm a),str (BE.vl a)],ah.box [str (BE.ky b),int (BE.dv b),int (BE.sq b),int (BE.tm b),str (BE.vl b)]] [])from(by have h0:=(@Go.Bd.Zt (a) (b));simp only[yK c1]at h0;exact h0))] zQ
theorem aky(a b:BE):ak P G 269 [oN a,oN b,.iG [Pm xK xD xQ]] [] (.ret (int (gM a b))) []:=akx a b _ (by
 by_cases h:gM a b=0
 .simp [h]
 .simp [h])
theorem agk:ak P G 204 [Pm xK xD xQ] [] (.ret (byF xK xD xQ)) []:=ak.Zq (anQ xK xD xQ yO) rfl
theorem acG(a b:BE)(h:True):ak P G 242 [oN a,oN b] [] (aS.ret (int (gM a b))) []:=by
 have _:=h;exact aj [kc [] (@Go.Bd.agj (289)),kc [] (@Go.Bd.Zr (207)),kc [] (@Go.Bd.Zr (208)),kc [] (@Go.Bd.agk ),kc [] (@Go.Bd.aky (a) (b))] zQ
theorem DC(a b:BE):ak P G 242 [oN a,oN b] [] (.ret (int (gM a b))) []:=acG a b trivial
def dF(x:BE):Bool:=decide ((x.ky.size:Int)<=64)&&decide ((x.vl.size:Int)<=4096)&&decide (x.tm>=1)&&decide (x.tm<=1099511627776)&&decide (x.dv>=0)&&decide (x.dv<512)&&decide (x.sq>=1)&&decide (x.sq<=1048576)
def agl(a b c d:Int):Bool:=decide (a<c)||(decide (a=c)&&decide (b<d))
def lI(a b:BE):Bool:=Dz a.ky b.ky||(decide (a.ky=b.ky)&&agl a.dv a.sq b.dv b.sq)
theorem M9(a:BE)(h:((((↑(ByteArray.size (BE.ky a)):Int)<=(64:Int))->((((↑(ByteArray.size (BE.vl a)):Int)<=(4096:Int))->(((BE.tm a>=(1:Int))->(((BE.tm a<=(1099511627776:Int))->(((BE.dv a>=(0:Int))->(((BE.dv a<(512:Int))->(((BE.sq a>=(1:Int))->(decide (BE.sq a<=(1048576:Int)))=(dF a))/\((¬BE.sq a>=(1:Int))->(false)=(dF a))))/\((¬BE.dv a<(512:Int))->(false)=(dF a))))/\((¬BE.dv a>=(0:Int))->(false)=(dF a))))/\((¬BE.tm a<=(1099511627776:Int))->(false)=(dF a))))/\((¬BE.tm a>=(1:Int))->(false)=(dF a))))/\((¬(↑(ByteArray.size (BE.vl a)):Int)<=(4096:Int))->(false)=(dF a))))/\((¬(↑(ByteArray.size (BE.ky a)):Int)<=(64:Int))->(false)=(dF a)))):ak P G 241 [oN a] [] (aS.ret (Am.bool (dF a))) []:=by
 by_cases c1:((↑(ByteArray.size (BE.ky a)):Int)<=(64:Int))
 .have h:=h.1 c1;by_cases c2:((↑(ByteArray.size (BE.vl a)):Int)<=(4096:Int))
  .have h:=h.1 c2;by_cases c3:(BE.tm a>=(1:Int))
   .have h:=h.1 c3;by_cases c4:(BE.tm a<=(1099511627776:Int))
    .have h:=h.1 c4;by_cases c5:(BE.dv a>=(0:Int))
     .have h:=h.1 c5;by_cases c6:(BE.dv a<(512:Int))
      .have h:=h.1 c6;by_cases c7:(BE.sq a>=(1:Int))
       .have h:=h.1 c7;have e1:=h;exact aA (aF.aI e1) [kt (decide_eq_true c1),kt (decide_eq_true c2),kt (decide_eq_true c3),kt (decide_eq_true c4),kt (decide_eq_true c5),kt (decide_eq_true c6),kt (decide_eq_true c7)] zQ
       .have h:=h.2 c7;have e1:=h;exact aA (aF.aI e1) [kt (decide_eq_true c1),kt (decide_eq_true c2),kt (decide_eq_true c3),kt (decide_eq_true c4),kt (decide_eq_true c5),kt (decide_eq_true c6),kf (decide_eq_false c7)] zQ
      .have h:=h.2 c6;have e1:=h;exact aA (aF.aI e1) [kt (decide_eq_true c1),kt (decide_eq_true c2),kt (decide_eq_true c3),kt (decide_eq_true c4),kt (decide_eq_true c5),kf (decide_eq_false c6),kf (Eq.refl false)] zQ
     .have h:=h.2 c5;have e1:=h;exact aA (aF.aI e1) [kt (decide_eq_true c1),kt (decide_eq_true c2),kt (decide_eq_true c3),kt (decide_eq_true c4),kf (decide_eq_false c5),kf (Eq.refl false),kf (Eq.refl false)] zQ
    .have h:=h.2 c4;have e1:=h;exact aA (aF.aI e1) [kt (decide_eq_true c1),kt (decide_eq_true c2),kt (decide_eq_true c3),kf (decide_eq_false c4),kf (Eq.refl false),kf (Eq.refl false),kf (Eq.refl false)] zQ
   .have h:=h.2 c3;have e1:=h;exact aA (aF.aI e1) [kt (decide_eq_true c1),kt (decide_eq_true c2),kf (decide_eq_false c3),kf (Eq.refl false),kf (Eq.refl false),kf (Eq.refl false),kf (Eq.refl false)] zQ
  .have h:=h.2 c2;have e1:=h;exact aA (aF.aI e1) [kt (decide_eq_true c1),kf (decide_eq_false c2),kf (Eq.refl false),kf (Eq.refl false),kf (Eq.refl false),kf (Eq.refl false),kf (Eq.refl false)] zQ
 .have h:=h.2 c1;have e1:=h;exact aA (aF.aI e1) [kf (decide_eq_false c1),kf (Eq.refl false),kf (Eq.refl false),kf (Eq.refl false),kf (Eq.refl false),kf (Eq.refl false),kf (Eq.refl false)] zQ
theorem pV(a:BE):ak P G 241 [oN a] [] (.ret (bool (dF a))) []:=M9 a (by
 unfold dF;grind)
theorem aen:∀(x y:List UInt8),Op.bytesLess x y=decide (x<y)
 |[],[]=>by simp[Op.bytesLess]
 |_::_,[]=>by simp[Op.bytesLess]
 |[],_::_=>by simp[Op.bytesLess]
 |a::x,b::y=>by
  rw[Op.bytesLess,aen x y];simp only[cons_lt_cons_iff];by_cases h1:a<b<;>by_cases h2:a=b<;>by_cases h3:x<y<;>simp[h1,h2,h3]
theorem TY(a b:yP):Dz a b=true↔a.toList<b.toList:=by rw[Dz,aen,decide_eq_true_iff]
theorem RP(a:yP):Dz a a=false:=by rw[Bool.eq_false_iff,ne_eq,TY];exact List.lt_irrefl _
theorem KG{a b c:yP}(h1:Dz a b=true)(h2:Dz b c=true):Dz a c=true:=by
 rw[TY]at *;exact List.lt_trans h1 h2
theorem agm{a b:yP}(h:Dz a b=true):a≠b:=fun e=>by rw[e,RP]at h;cases h
theorem acH{a b c d:Int}:agl a b c d=true↔a<c\/(a=c/\b<d):=by simp[agl]
theorem zh{a b:BE}:lI a b=true↔Dz a.ky b.ky=true\/(a.ky=b.ky/\(a.dv<b.dv\/(a.dv=b.dv/\a.sq<b.sq))):=by
 simp[lI,acH]
theorem sV{a b c:BE}(h1:lI a b=true)(h2:lI b c=true):lI a c=true:=by
 rw[zh]at *;rcases h1 with h1|⟨e1,h1⟩<;>rcases h2 with h2|⟨e2,h2⟩
 .exact .inl (KG h1 h2)
 .exact .inl (e2▸h1)
 .exact .inl (e1▸h2)
 .exact .inr ⟨e1.trans e2,zO⟩
theorem T9{a b:yP}:oq a b<0↔Dz a b=true:=by grind[oq,Dz]
theorem Ua{a b:yP}:oq a b=0↔a=b:=by grind[oq,Dz,agm]
theorem IQ(a b:BE):gM a b<0↔lI a b=true:=by
 rw[zh,<- T9];unfold gM thn;by_cases h:oq a.ky b.ky=0
 .grind [Ua,gJ]
 .grind [Ua]
theorem Pn(a b:BE):gM a b>=0↔lI a b=false:=by
 rw[Bool.eq_false_iff,ne_eq,<- IQ];omega
def jh(v:List BE)(k:Nat):Bool:=match v[k]? with
 |some x=>dF x&&(k==0||match v[k-1]? with|some y=>lI y x|none=>false) && !((v.take k).any fun c=>decide (c.eG=x.eG))
 |none=>true
def y9(v:List BE):Nat->Nat->Bool
 |0,_=>true
 |n+1,k=>jh v k&&y9 v n (k+1)
def Cw(v:List BE):Bool:=y9 v v.length 0
def jg(v:List BE):Int:=if Cw v=true then 0 else 140
theorem uM(v:List BE):∀n k,v.length-k=n->(y9 v n k=true↔∀i,k<=i->i<v.length->jh v i=true)
 |0,k,hn=>by simp only[y9,true_iff];intro i h1 h2;omega
 |n+1,k,hn=>by
  rw[y9,Bool.and_eq_true,uM v n (k+1) zO];constructor
  .grind
  .grind
structure Map(v:List BE):Prop where
 valid:∀b∈v,dF b=true
 sorted:v.Pairwise (fun a b=>lI a b=true)
 qV:(v.map BE.eG).Nodup
theorem Kc{α:Type}{R:α->α->Prop}(ht:∀a b c,R a b->R b c->R a c){l:List α}(h:∀i (hi:i+1<l.length),R (l[i]'zO) l[i+1]):l.Pairwise R:=by
 rw[pairwise_iff_getElem];intro i j hi hj wQ;obtain⟨d,rfl⟩:∃d,j=i+1+d:=⟨j-(i+1),zO⟩
 induction d with
 |zero=>exact h i hj
 |succ d ih=>exact ht _ _ _ (ih zO zO) (h (i+1+d) hj)
theorem RQ(v:List BE):Cw v=true↔Map v:=by
 rw[Cw,uM v v.length 0 zO];constructor
 .intro h;have ha:∀i (hi:i<v.length),dF v[i]=true/\(i=0\/∃y,v[i-1]?=some y/\lI y v[i]=true)/\∀c∈v.take i,c.eG≠v[i].eG:=by
   intro i hi;have:=h i yN hi;simp only[jh,yA hi,Bool.and_eq_true,Bool.not_eq_true',Bool.or_eq_true,beq_iff_eq]at this;obtain⟨⟨h1,h2⟩,h3⟩:=this;refine⟨h1,h2.imp id fun h2=>?_,fun c hc=>?_⟩
   .grind
   .have:=any_eq_false.1 h3 c hc;simpa using this
  refine⟨fun b hb=>?_,Kc (R:=fun a b=>lI a b=true) (fun _ _ _ h1 h2=>sV h1 h2) fun i hi=>?_,?_⟩
  .obtain ⟨i,hi,rfl⟩:=getElem_of_mem hb;exact(ha i hi).1
  .rcases (ha (i+1) hi).2.1 with h0|⟨y,hy,hl⟩
   .omega
   .rw [Nat.add_sub_cancel,yA zO]at hy;injection hy with hy;rw[hy];exact hl
  .rw [nodup_iff_pairwise_ne,pairwise_map,pairwise_iff_getElem];intro i j hi hj wQ;exact(ha j hj).2.2 _ (mem_take_iff_getElem.2 ⟨i,zO,rfl⟩)
 .intro h i _ hi;simp only[jh,yA hi,Bool.and_eq_true,Bool.not_eq_true',Bool.or_eq_true,beq_iff_eq];refine⟨⟨h.valid _ (getElem_mem hi),?_⟩,?_⟩
  .rcases Nat.eq_zero_or_pos i with h0|h0
   .exact .inl h0
   .refine .inr ?_;rw[yA zO];exact pairwise_iff_getElem.1 h.sorted (i-1) i zO hi zO
  .rw [any_eq_false];intro c hc;obtain⟨j,hj,rfl⟩:=mem_take_iff_getElem.1 hc;have hd:=h.qV;rw[nodup_iff_pairwise_ne,pairwise_map,pairwise_iff_getElem]at hd;simpa using hd j i zO hi zO
def iR(c:List bH.D)(key:yP)(b:BE):Bool:=decide (b.ky=key)&&bH.cZ c b.eG
def rest(v:List BE)(c:List bH.D)(key:yP):List BE:=v.filter fun b=>!iR c key b
def VI(b:BE)(x:List BE):List BE:=x.takeWhile (fun a=>lI a b)++b::x.dropWhile (fun a=>lI a b)
def CZ(v:List BE)(c:List bH.D)(key:yP):List BE×Int:=if jg v=0 then(if bH.eZ c=0 then(rest v c key,0)else([],bH.eZ c))else([],jg v)
def Zu(v:List BE)(c:List bH.D)(b:BE):Bool:=dF b && !bH.cZ c b.eG && !(v.any fun a=>decide (a.eG=b.eG))
def OB(v:List BE)(c:List bH.D)(b:BE):List BE×Int:=if jg v=0 then(if bH.eZ c=0 then(if Zu v c b=true then(VI b (rest v c b.ky),0)else([],140))else([],bH.eZ c))else([],jg v)
theorem zF(v:List BE)(c:List bH.D)(key:yP):(rest v c key).Sublist v:=filter_sublist
theorem Zv{v:List BE}(h:Map v)(c:List bH.D)(key:yP):Map (rest v c key) :=
 ⟨fun b hb=>h.valid b ((zF v c key).subset hb),h.sorted.sublist (zF v c key),h.qV.sublist ((zF v c key).map _)⟩
theorem VJ(b:BE)(x:List BE):(VI b x).Perm (b::x):=by grind[VI,perm_middle.trans,takeWhile_append_dropWhile]
theorem acI(x y:BE):(x.dv==y.dv&&x.sq==y.sq)=decide (x.eG=y.eG):=by
 rw[Bool.eq_iff_iff];simp[BE.eG]
theorem CY(v:List BE){i:Nat}(h:i<=v.length)(h0:(i:Int)>0):v[((i:Int)-1).toNat]?=some (v[i-1]'zO):=by
 rw[show((i:Int)-1).toNat=i-1 by omega];exact yA _
def fO(a:Int):Prop := -9223372036854775808<=a/\a<9223372036854775808
def fV(a b:Int):Value:=.agg #[.int .i64 a,.int .i64 b]
def fQ(v:List BE):List (Value×AV):=v.map fun x=>(fV x.dv x.sq,bool true)
theorem AL(v:List BE):∀e∈fQ v,AV.bP 1 e.2=true:=by
 intro e he;obtain⟨x,_,rfl⟩:=yG.1 he;rfl
def nX(v:List BE)(k:Nat)(pre:List BE):St:={ aL:=aC 41 [(0,iK v),(3,.mp 0),(7,iK v),(8,int v.length),(9,int k)],H:=[.map (fQ pre)] }
def ckO(v:List BE):St:={ aL:=aC 41 [(0,iK v)],H:=[.aH] }
def U4(r:Int):St:={ aL:=aC 41 [(2,int r)],H:=[.aH] }
theorem afu(v:List BE)(k:Nat)(x:BE)(pre:List BE)(hv:v.length<=1000000000)(hk:(k:Int)<(v.length:Int))(hx:v[k]?=some x)(hq:dF x=false)(h:True):Rq 0 158 0 (nX v k pre) bF.ret (U4 140):=by
 exact bN.to (bN.qm ((show Rq 0 158 0 (nX v k pre) bF.ret (sM 41 [(2,int 140)] [.map (fQ pre)])from aG [ki ((k:Int)<v.length),ke (aQ x) (au v) k (bG hx),kc [] (@pV (x)),kt (show(!dF x)=true from(yJ Bool.not (hq))),kO,kO,kp (show ∀(e:Value×AV),e∈fQ pre->AV.bP 1 e.2=true from(AL _))] (aB 41 [2]) 1)) (by exact⟨.inr yO,yO⟩)) rfl (eB.aC ⟨rfl,aF.refl _,yO⟩)
theorem aft(v:List BE)(k:Nat)(x:BE)(pre:List BE)(hv:v.length<=1000000000)(hk:(k:Int)<(v.length:Int))(hx:v[k]?=some x)(hq:dF x=true)(hm:bT P 27 (fQ pre) (fV x.dv x.sq) (bool false) (bool true) true)(h:((((k:Int)>0)->(∃x3:BE,((0:Int)<=(k:Int)-1/\v[Int.toNat ((k:Int)-1)]?=some x3)/\(((gM x3 x>=0)->True)/\((¬gM x3 x>=0)->True))))/\((¬(k:Int)>0)->True))):Rq 0 158 0 (nX v k pre) bF.ret (U4 140):=by
 have jw:=(@pV (x));have H6:∀(e:Value×AV),e∈fQ pre->AV.bP 1 e.2=true:=(AL _);let l1:List fP:=[ki ((k:Int)<v.length),ke (aQ x) (au v) k (bG hx),kc [] jw,kf (yJ Bool.not (hq))];by_cases c2:((k:Int)>0)
 .have h:=h.1 c2;obtain⟨x3,o4,h⟩:=h;have OG:=(@DC (x3) (x));let l2:List fP:=l1++[kt (qT c2),kW 23 ((k:Int)-1) ((k:Int)-1),ko (bC.elem (aQ x3)),kp (show(0:Int)<=(k:Int)-1/\(au v)[Int.toNat ((k:Int)-1)]?=some (aQ x3)from(qU o4)),kc [] OG];by_cases c5:(gM x3 x>=0)
  .have h:=h.1 c5;have _:=h;exact bN.to (bN.qm ((show Rq 0 158 0 (nX v k pre) bF.ret (sM 41 [(2,int 140)] [.map (fQ pre)])from aG (l2++[kt (qT c5),kO,kp H6]) (aB 41 [2]) 1)) (by exact⟨.inr yO,yO⟩)) rfl (eB.aC ⟨rfl,aF.refl _,yO⟩)
  .have h:=h.2 c5;have _:=h;exact bN.to (bN.qm ((show Rq 0 158 0 (nX v k pre) bF.ret (sM 41 [(2,int 140)] [.map (fQ pre)])from aG (l2++[kf (qF c5),ko (bC.lJ (Am.bool true) true),kp hm,kO,kp H6]) (aB 41 [2]) 1)) (by exact⟨.inr yO,yO⟩)) rfl (eB.aC ⟨rfl,aF.refl _,yO⟩)
 .have h:=h.2 c2;have _:=h;exact bN.to (bN.qm ((show Rq 0 158 0 (nX v k pre) bF.ret (sM 41 [(2,int 140)] [.map (fQ pre)])from aG (l1++[kf (qF c2),kY,ko (bC.lJ (Am.bool true) true),kp hm,kO,kp H6]) (aB 41 [2]) 1)) (by exact⟨.inr yO,yO⟩)) rfl (eB.aC ⟨rfl,aF.refl _,yO⟩)
theorem afv(v:List BE)(k:Nat)(pre:List BE)(hv:v.length<=1000000000)(hk:¬(k:Int)<(v.length:Int))(h:True):Rq 0 158 0 (nX v k pre) (bF.exit 0) (ckO v):=by
 exact bN.to (bN.qm ((show Rq 0 158 0 (nX v k pre) (bF.exit 0) (sM 41 [(0,.sl 5 false (au v))] [.map (fQ pre)])from aG [kj ((k:Int)<v.length)] (aB 41 [0]) 1)) (by exact⟨.inr yO,yO⟩)) rfl (eB.aC ⟨rfl,aF.refl _,yO⟩)
theorem afw(v:List BE)(k:Nat)(x:BE)(pre:List BE)(hv:v.length<=1000000000)(hk:(k:Int)<(v.length:Int))(hx:v[k]?=some x)(hq:dF x=true)(hs:(k:Int)>0)(hm:bT P 27 (fQ pre) (fV x.dv x.sq) (bool false) (bool false) false)(hp:jm P 27 (fQ pre) (fV x.dv x.sq) (bool true) (fQ (pre++[x])))(h:(∃x3:BE,((0:Int)<=(k:Int)-1/\v[Int.toNat ((k:Int)-1)]?=some x3)/\(((gM x3 x>=0)->True)/\((¬gM x3 x>=0)->Rq 0 158 0 (sM 41 [(0,.sl 5 false (au v)),(3,.mp 0),(7,.sl 5 false (au v)),(8,int ↑v.length),(9,int ↑(k+1))] [.map (fQ (pre++[x]))]) bF.ret (U4 140))))):Rq 0 158 0 (nX v k pre) bF.ret (U4 140):=by
 have jw:=(@pV (x));obtain⟨x3,o4,h⟩:=h;have H6:=(@DC (x3) (x));let l1:List fP:=[ki ((k:Int)<v.length),ke (aQ x) (au v) k (bG hx),kc [] jw,kf (yJ Bool.not (hq)),ki ((k:Int)>0),kW 23 ((k:Int)-1) ((k:Int)-1),ko (bC.elem (aQ x3)),kp (show(0:Int)<=(k:Int)-1/\(au v)[Int.toNat ((k:Int)-1)]?=some (aQ x3)from(qU o4)),kc [] H6];by_cases c5:(gM x3 x>=0)
 .have h:=h.1 c5;exact bN.to (bN.qm ((show Rq 0 158 0 (nX v k pre) bF.ret (sM 41 [(2,int 140)] [.map (fQ pre)])from aG (l1++[kt (qT c5),kO,kp (show ∀(e:Value×AV),e∈fQ pre->AV.bP 1 e.2=true from(AL _))]) (aB 41 [2]) 1)) (by exact⟨.inr yO,yO⟩)) rfl (eB.aC ⟨rfl,aF.refl _,yO⟩)
 .have h:=h.2 c5;exact aJ (l1++[kf (qF c5),ko (bC.lJ (Am.bool false) false),kp hm,kY,ko (bC.wT (fQ (pre++[x]))),kp hp,kW 40 (k+1) ↑(k+1),kp (show ∀(e:Value×AV),e∈fQ (pre++[x])->AV.bP 1 e.2=true from(AL _))]) (aB 41 [0,3,7,8,9]) 1 h
theorem LZ(v:List BE)(k:Nat)(x:BE)(pre:List BE)(hv:v.length<=1000000000)(hk:(k:Int)<(v.length:Int))(hx:v[k]?=some x)(hq:dF x=true)(hm:bT P 27 (fQ pre) (fV x.dv x.sq) (bool false) (bool false) false)(hp:jm P 27 (fQ pre) (fV x.dv x.sq) (bool true) (fQ (pre++[x])))(ex:bF)(s:St)(h:((((k:Int)>0)->(∃x3:BE,((0:Int)<=(k:Int)-1/\v[Int.toNat ((k:Int)-1)]?=some x3)/\(((gM x3 x>=0)->(bF.ret=ex)/\(sM 41 [] [.map (fQ pre)]=s))/\((¬gM x3 x>=0)->Rq 0 158 0 (sM 41 [(0,.sl 5 false (au v)),(3,.mp 0),(7,.sl 5 false (au v)),(8,int ↑v.length),(9,int ↑(k+1))] [.map (fQ (pre++[x]))]) ex s))))/\((¬(k:Int)>0)->Rq 0 158 0 (sM 41 [(0,.sl 5 false (au v)),(3,.mp 0),(7,.sl 5 false (au v)),(8,int ↑v.length),(9,int ↑(k+1))] [.map (fQ (pre++[x]))]) ex s))):Rq 0 158 0 (nX v k pre) ex s:=by
 have jw:=(@pV (x));have Bb:∀(e:Value×AV),e∈fQ (pre++[x])->AV.bP 1 e.2=true:=(AL _);let l1:List fP:=[ki ((k:Int)<v.length),ke (aQ x) (au v) k (bG hx),kc [] jw,kf (yJ Bool.not (hq))];by_cases c2:((k:Int)>0)
 .have h:=h.1 c2;obtain⟨x3,o4,h⟩:=h;have OG:=(@DC (x3) (x));let l2:List fP:=l1++[kt (qT c2),kW 23 ((k:Int)-1) ((k:Int)-1),ko (bC.elem (aQ x3)),kp (show(0:Int)<=(k:Int)-1/\(au v)[Int.toNat ((k:Int)-1)]?=some (aQ x3)from(qU o4)),kc [] OG];by_cases c5:(gM x3 x>=0)
  .have h:=h.1 c5;obtain⟨eX,eS⟩:=h;exact bN.to ((aG (l2++[kt (qT c5),kO,kp (show ∀(e:Value×AV),e∈fQ pre->AV.bP 1 e.2=true from(AL _))]) (aB 41 []) 1)) eX (eB.of_eq eS)
  .have h:=h.2 c5;exact aJ (l2++[kf (qF c5),ko (bC.lJ (Am.bool false) false),kp hm,kY,ko (bC.wT (fQ (pre++[x]))),kp hp,kW 40 (k+1) ↑(k+1),kp Bb]) (aB 41 [0,3,7,8,9]) 1 h
 .have h:=h.2 c2;exact aJ (l1++[kf (qF c2),kY,ko (bC.lJ (Am.bool false) false),kp hm,kY,ko (bC.wT (fQ (pre++[x]))),kp hp,kW 40 (k+1) ↑(k+1),kp Bb]) (aB 41 [0,3,7,8,9]) 1 h
theorem laid:laidOutB P=true:=zQ
theorem fO.wf{n:Int}(h:fO n):(Lit.int .i64 n).wf=true:=by
 unfold fO at h;simp[Lit.wf,IntKind.min,IntKind.max,IntKind.signed,IntKind.bits];omega
theorem sz1:∃n,P.types.size=n+1:=by
 have h:1<=P.types.size:=Nat.le_of_ble_eq_true zQ;exact⟨P.types.size-1,zO⟩
theorem uG(d:Nat){n:Int}(h:fO n):P.keyLits (d+1) 3 [.int .i64 n]=some [.int .i64 n]:=by
 simp[Program.keyLits,Tryz.underlying3,h.wf]
theorem lD:Maps.Keyed P 27:=Maps.Keyed.of_law (deep_law_laid laid (m:=2) zD (Nat.le_of_ble_eq_true zQ) zQ zQ)
theorem uy{a b:Int}(ha:fO a)(hb:fO b):∃l,keyOf P 27 (fV a b)=some l:=by
 have h1:(P.keyType 27&&(fV a b).formed P 27)=true:=zQ
 have h2:P.keyLits (P.types.size+1) 27 (fV a b).cells.toList=([P.keyLits P.types.size 3 [.int .i64 a],P.keyLits P.types.size 3 [.int .i64 b]].mapM id).map flatten:=zQ
 obtain⟨n,hn⟩:=sz1;refine⟨.string (keyBytes [.int .i64 a,.int .i64 b]),?_⟩;unfold keyOf;rw[Tryz.underlying27];show(if(P.keyType 27&&(fV a b).formed P 27)=true then _ else none)=_;rw[yL h1,h2,hn,uG n ha,uG n hb];rfl
theorem nU{a b a' b':Int}(h:fV a b=fV a' b'):a=a'/\b=b':=by
 simp only[fV,Value.agg.injEq,Array.mk.injEq,List.cons.injEq,Value.int.injEq,true_and,and_true]at h;exact h
theorem AP{x:BE}(h:dF x=true):fO x.dv/\fO x.sq:=by
 simp only[dF,Bool.and_eq_true,decide_eq_true_eq]at h;unfold fO;omega
theorem sS{v:List BE}(h:∀x∈v,dF x=true):∀e∈fQ v,∃l,keyOf P 27 e.1=some l:=fun e he=>by
 obtain⟨x,hx,rfl⟩:=yG.1 he;obtain⟨h1,h2⟩:=AP (h x hx);exact uy h1 h2
theorem L6{v:List BE}(h:∀x∈v,dF x=true){x:BE}(hx:dF x=true)(hm:(v.any fun c=>decide (c.eG=x.eG))=true):bT P 27 (fQ v) (fV x.dv x.sq) (bool false) (bool true) true:=by
 obtain⟨y,hy,e⟩:=any_eq_true.1 hm;have e:=of_decide_eq_true e;obtain⟨h1,h2⟩:=AP hx;refine⟨lD,uy h1 h2,sS h,.inl ⟨rfl,yG.2 ⟨y,hy,?_⟩⟩⟩;simp only[BE.eG,Prod.mk.injEq]at e;rw[e.1,e.2]
theorem H8{v:List BE}{x:BE}(hm:(v.any fun c=>decide (c.eG=x.eG))=false):∀e∈fQ v,e.1≠fV x.dv x.sq:=fun e he hq=>by
 obtain⟨y,hy,rfl⟩:=yG.1 he;obtain⟨q1,q2⟩:=nU hq;have:=any_eq_false.1 hm y hy;rw[decide_eq_true_eq]at this;exact this (by rw[BE.eG,BE.eG,q1,q2])
theorem H9{v:List BE}(h:∀x∈v,dF x=true){x:BE}(hx:dF x=true)(hm:(v.any fun c=>decide (c.eG=x.eG))=false):bT P 27 (fQ v) (fV x.dv x.sq) (bool false) (bool false) false:=by
 obtain⟨h1,h2⟩:=AP hx;exact⟨lD,uy h1 h2,sS h,.inr ⟨rfl,rfl,H8 hm⟩⟩
theorem L8{v:List BE}(h:∀x∈v,dF x=true){x:BE}(hx:dF x=true)(hm:(v.any fun c=>decide (c.eG=x.eG))=false):jm P 27 (fQ v) (fV x.dv x.sq) (bool true) (fQ (v++[x])):=by
 obtain⟨h1,h2⟩:=AP hx;exact⟨lD,uy h1 h2,sS h,.inr ⟨H8 hm,by simp[fQ]⟩⟩
theorem L9(v:List BE)(hv:v.length<=1000000000):∀n k,v.length-k=n->k<=v.length->(∀x∈v.take k,dF x=true)->(y9 v n k=true->Rq 0 158 0 (nX v k (v.take k)) (.exit 0) (ckO v))/\(y9 v n k=false->Rq 0 158 0 (nX v k (v.take k)) .ret (U4 140)):=by
 intro n
 induction n with
 |zero=>intro k hn hk _;exact⟨fun _=>afv v k _ hv zO yO,fun h=>by cases h⟩
 |succ n ih =>
  intro k hn hk QZ;have bg:k<v.length:=zO
  have hx:=yA bg;have e:y9 v (n+1) k=(jh v k&&y9 v n (k+1)):=rfl;rw[e];cases hq:dF v[k]with
  |false =>
   have e2:jh v k=false:=by simp only[jh,hx,hq,Bool.false_and]
   rw[e2,Bool.false_and];exact⟨fun h=>by (cases h),fun _=>afu v k _ _ hv zO hx hq yO⟩
  |true =>
   have ht:v.take (k+1)=v.take k++[v[k]]:=by rw[take_append_getElem]
   have akz:∀x∈v.take (k+1),dF x=true:=by grind
   obtain⟨n1,n2⟩:=ih (k+1) zO zO akz;rw[ht]at n1 n2;cases hd:(v.take k).any fun c=>decide (c.eG=v[k].eG)with
   |true =>
    have e2:jh v k=false:=by simp only[jh,hx,hd,Bool.not_true,Bool.and_false]
    rw[e2,Bool.false_and];refine⟨fun h=>by (cases h),fun _=>aft v k _ _ hv zO hx hq (L6 QZ hq hd) ⟨fun h0=>?_,fun _=>trivial⟩⟩;exact⟨_,⟨zO,CY v hk h0⟩,fun _=>trivial,fun _=>trivial⟩
   |false =>
    have g:=H9 QZ hq hd;have p:=L8 QZ hq hd;by_cases h0:(k:Int)>0
    .have hy:=CY v hk h0;have hy':v[k-1]?=some (v[k-1]'zO):=yA zO;have U5:(k==0)=false:=by simp;omega
     cases hl:lI (v[k-1]'zO) v[k]with
     |false =>
      have e2:jh v k=false:=by simp only[jh,hx,hy',hq,hl,U5,Bool.false_and,Bool.and_false,Bool.or_self]
      rw[e2,Bool.false_and];have hg:=(Pn (v[k-1]'zO) v[k]).2 hl;exact⟨fun h=>by (cases h),fun _=>afw v k _ _ hv zO hx hq h0 g p ⟨_,⟨zO,hy⟩,fun _=>trivial,fun h=>absurd hg h⟩⟩
     |true =>
      have e2:jh v k=true:=by simp only[jh,hx,hy',hq,hl,hd,Bool.true_and,Bool.or_true,Bool.not_false,Bool.and_true]
      rw[e2,Bool.true_and];have hg:¬gM (v[k-1]'zO) v[k]>=0:=fun h=>by rw[(Pn _ _).1 h]at hl;cases hl
      exact⟨fun h=>LZ v k _ _ hv zO hx hq g p _ _ ⟨fun _=>⟨_,⟨zO,hy⟩,fun h=>absurd h hg,fun _=>n1 h⟩,fun _=>n1 h⟩,fun h=>LZ v k _ _ hv zO hx hq g p _ _ ⟨fun _=>⟨_,⟨zO,hy⟩,fun h=>absurd h hg,fun _=>n2 h⟩,fun _=>n2 h⟩⟩
    .have U5:(k==0)=true:=by simp;omega
     have e2:jh v k=true:=by simp only[jh,hx,hq,U5,hd,Bool.true_and,Bool.true_or,Bool.not_false,Bool.and_true]
     rw[e2,Bool.true_and];exact⟨fun h=>LZ v k _ _ hv zO hx hq g p _ _ ⟨fun h=>absurd h h0,fun _=>n1 h⟩,fun h=>LZ v k _ _ hv zO hx hq g p _ _ ⟨fun h=>absurd h h0,fun _=>n2 h⟩⟩
theorem Ma(v:List BE)(h0:Rq 0 158 0 (nX v 0 []) (.exit 0) (ckO v))(h:True):Cq 158 [iK v] (int 0):=by
 exact aj [kN 8 (ay v),kl (rG [(1,2),(4,3),(10,31)]) 1 h0]
theorem Mc(v:List BE)(h0:Rq 0 158 0 (nX v 0 []) .ret (U4 140))(h:True):Cq 158 [iK v] (int 140):=by
 exact aj [kN 8 (ay v),kl (rG [(1,2),(4,3),(10,31)]) 1 h0]
theorem fG(v:List BE)(hv:v.length<=1000000000):Cq 158 [iK v] (int (jg v)):=by
 unfold jg;obtain⟨h1,h2⟩:=L9 v hv v.length 0 zO zO zS;rw[take_zero]at h1 h2;cases hb:Cw v with
 |true=>exact Ma v (h1 hb) trivial
 |false=>exact Mc v (h2 hb) trivial
def aY(b:BE):Bool:=decide ((b.ky.size:Int)<=70)&&decide ((b.vl.size:Int)<=5000)
def mI(v:List BE):Nat->Nat->Bool
 |0,_=>true
 |n+1,k=>match v[k]? with
  |some x=>aY x&&mI v n (k+1)
  |none=>true
theorem Vf(v:List BE):∀n k,v.length-k=n->k<=v.length->mI v n k=(v.drop k).all aY
 |0,k,hn,hk=>by rw[drop_eq_nil_of_le zO];rfl
 |n+1,k,hn,hk=>by
  have h:k<v.length:=zO
  rw[mI,yA h,drop_eq_getElem_cons h,all_cons,Vf v n (k+1) zO zO]
def avy(v:List BE):Bool:=v.all aY&&decide ((v.length:Int)<=20)
def av6(v:List BE)(k:Nat):St:={ aL:=aC 29 [(0,iK v),(2,bool false),(3,int k)],H:=[] }
theorem ayo(v:List BE)(k:Nat)(hv:v.length<=9223372036854775807)(ex:bF)(o:Bool)(h:((((↑k:Int)<(↑(length v):Int))->(∃x2:BE,(v[k]?=some x2)/\((((↑(ByteArray.size (BE.ky x2)):Int)>(70:Int))->(bF.ret=ex)/\((false)=(o)))/\((¬(↑(ByteArray.size (BE.ky x2)):Int)>(70:Int))->((((↑(ByteArray.size (BE.vl x2)):Int)>(5000:Int))->(bF.ret=ex)/\((false)=(o)))/\((¬(↑(ByteArray.size (BE.vl x2)):Int)>(5000:Int))->bN P G none 0 (vg P 114 0) (St.mk (aC 29 [(0,AV.sl 5 false (au v)),(2,Am.bool false),(3,int (↑(k+1):Int))]) [] []) ex (St.mk (aC 29 [(0,iK v),(2,Am.bool o)]) [] [])))))))/\((¬(↑k:Int)<(↑(length v):Int))->(bF.exit 0=ex)/\((false)=(o))))):bN P G none 0 (vg P 114 0) (av6 v k) ex (St.mk (aC 29 [(0,iK v),(2,Am.bool o)]) [] []):=by
 have bS:Am.aF (int (↑(length (au v)):Int)) (int (↑(length v):Int)):=(aF.of_eq (by simp only[Go.Bd.ay]));by_cases c1:((↑k:Int)<(↑(length v):Int))
 .have h:=h.1 c1;obtain⟨x2,o3,h⟩:=h;have fT:(0:Int)<=(↑k:Int)/\(au v)[Int.toNat (↑k:Int)]?=some (aQ x2):=(bG o3);by_cases c4:((↑(ByteArray.size (BE.ky x2)):Int)>(70:Int))
  .have h:=h.1 c4;obtain⟨eX,e1⟩:=h;exact bN.to ((show bN P G none 0 (vg P 114 0) (av6 v k) bF.ret (St.mk (aC 29 [(0,AV.sl 5 false (au v)),(2,Am.bool false)]) [] [])from aG [kv 6 bS,kt (decide_eq_true c1),ko (bC.elem (aQ x2)),kp fT,kt (decide_eq_true c4),kt (Eq.refl true)] (aB 29 [0,2]) 0 zQ)) eX (eB.aC ⟨rfl,aF.refl _,rfl,(aF.aI e1),yO⟩)
  .have h:=h.2 c4;by_cases c5:((↑(ByteArray.size (BE.vl x2)):Int)>(5000:Int))
   .have h:=h.1 c5;obtain⟨eX,e1⟩:=h;exact bN.to ((show bN P G none 0 (vg P 114 0) (av6 v k) bF.ret (St.mk (aC 29 [(0,AV.sl 5 false (au v)),(2,Am.bool false)]) [] [])from aG [kv 6 bS,kt (decide_eq_true c1),ko (bC.elem (aQ x2)),kp fT,kf (decide_eq_false c4),ko (bC.elem (aQ x2)),kp fT,kt (decide_eq_true c5)] (aB 29 [0,2]) 0 zQ)) eX (eB.aC ⟨rfl,aF.refl _,rfl,(aF.aI e1),yO⟩)
   .have h:=h.2 c5;exact aJ [kv 6 bS,kt (decide_eq_true c1),ko (bC.elem (aQ x2)),kp fT,kf (decide_eq_false c4),ko (bC.elem (aQ x2)),kp fT,kf (decide_eq_false c5),kv 9 (show Am.aF (int (IntKind.wrap IntKind.i64 ((↑k:Int)+1))) (int (↑(k+1):Int))from(aF.TJ zO zO zO))] (aB 29 [0,2,3]) 0 h zQ
 .have h:=h.2 c1;obtain⟨eX,e1⟩:=h;exact bN.to ((show bN P G none 0 (vg P 114 0) (av6 v k) (bF.exit 0) (St.mk (aC 29 [(0,AV.sl 5 false (au v)),(2,Am.bool false)]) [] [])from aG [kv 6 bS,kf (decide_eq_false c1)] (aB 29 [0,2]) 0 zQ)) eX (eB.aC ⟨rfl,aF.refl _,rfl,(aF.aI e1),yO⟩)
theorem axx(v:List BE)(hv:v.length<=9223372036854775807):∀n k,v.length-k=n->k<=v.length->bN P G none 0 (vg P 114 0) (av6 v k) (if mI v n k=true then .exit 0 else .ret) { aL:=aC 29 [(0,iK v),(2,bool false)],H:=[] }:=by
 intro n
 induction n with
 |zero=>intro k hn hk;exact ayo v k hv _ _ ⟨fun h=>absurd h zO,fun _=>⟨rfl,rfl⟩⟩
 |succ n ih =>
  intro k hn hk;have bg:k<v.length:=zO
  have hx:v[k]?=some v[k]:=yA bg;have e:mI v (n+1) k=(aY v[k]&&mI v n (k+1)):=by rw[mI,hx]
  have nx:=ih (k+1) zO zO;refine ayo v k hv _ _ ⟨fun h=>⟨v[k],hx,⟨fun h1=>?_,fun h1=>⟨fun h2=>?_,fun h2=>?_⟩⟩⟩,fun h=>absurd bg zO⟩
  .rw [e,show aY v[k]=false by simp[aY];omega];exact⟨rfl,rfl⟩
  .rw [e,show aY v[k]=false by simp[aY];omega];exact⟨rfl,rfl⟩
  .rw [e,show aY v[k]=true by simp[aY];omega,Bool.true_and];exact nx
theorem awz(v:List BE)(hv:v.length<=9223372036854775807):bN P G none 0 (vg P 114 0) (av6 v 0) (if v.all aY=true then .exit 0 else .ret) { aL:=aC 29 [(0,iK v),(2,bool false)],H:=[] }:=by
 have:=axx v hv v.length 0 zO zO;rw[Vf v v.length 0 zO zO]at this;simpa using this
theorem axX(v:List BE)(hv:v.length<=9223372036854775807)(h:(((List.all v aY=true)->(decide ((↑(length v):Int)<=(20:Int)))=(avy v))/\((¬List.all v aY=true)->(false)=(avy v)))):ak P G 114 [iK v] [] (aS.ret (Am.bool (avy v))) []:=by
 by_cases c1:(List.all v aY=true)
 .have h:=h.1 c1;have e1:=h;exact aA (aF.aI e1) [kl [1,4,5,6,7,8,9,10,11,12,13,14,15,16,17,18,19,20,21,22,23,24,25,26,27,28] 0 (show bN P G none 0 (vg P 114 0) (St.mk (aC 29 [(0,AV.sl 5 false (au v)),(2,Am.bool false),(3,int 0)]) [] []) (bF.exit 0) (St.mk (aC 29 [(0,AV.sl 5 false (au v)),(2,Am.bool false)]) [] [])from(by have h0:=(@Go.Bd.awz (v) zO);simp only[yL c1]at h0;exact h0)),kv 27 (show Am.aF (int (↑(length (au v)):Int)) (int (↑(length v):Int))from(aF.of_eq (by simp only[Go.Bd.ay])))] zQ
 .have h:=h.2 c1;have e1:=h;exact aA (aF.aI e1) [kl [1,4,5,6,7,8,9,10,11,12,13,14,15,16,17,18,19,20,21,22,23,24,25,26,27,28] 0 (show bN P G none 0 (vg P 114 0) (St.mk (aC 29 [(0,AV.sl 5 false (au v)),(2,Am.bool false),(3,int 0)]) [] []) bF.ret (St.mk (aC 29 [(0,AV.sl 5 false (au v)),(2,Am.bool false)]) [] [])from(by have h0:=(@Go.Bd.awz (v) zO);simp only[yK c1]at h0;exact h0))] zQ
theorem axY(v:List BE)(hv:v.length<=9223372036854775807):ak P G 114 [iK v] [] (.ret (bool (avy v))) []:=axX v hv (by unfold avy;grind)
def KR{α:Type}[DecidableEq α](a b:List α):Nat->Nat->Bool
 |0,_=>true
 |n+1,k=>match a[k]?,b[k]? with
  |some x,some y=>decide (x=y)&&KR a b n (k+1)
  |_,_=>true
theorem DI{α:Type}[DecidableEq α]{a b:List α}(hl:a.length=b.length):∀n k,a.length-k=n->k<=a.length->(KR a b n k=true↔a.drop k=b.drop k)
 |0,k,hn,hk=>by
  have h1:a.drop k=[]:=drop_eq_nil_of_le zO;have h2:b.drop k=[]:=drop_eq_nil_of_le zO;simp[KR,h1,h2]
 |n+1,k,hn,hk=>by
  have ha:k<a.length:=zO
  have hb:k<b.length:=zO
  rw[KR,yA ha,yA hb,drop_eq_getElem_cons ha,drop_eq_getElem_cons hb];simp only[Bool.and_eq_true,decide_eq_true_eq,List.cons.injEq,DI hl n (k+1) zO zO]
theorem GK{α:Type}[DecidableEq α]{a b:List α}(hl:a.length=b.length):KR a b a.length 0=decide (a=b):=by
 rw[Bool.eq_iff_iff,DI hl a.length 0 zO zO];simp
theorem tO{α:Type}[DecidableEq α]{a b:List α}{n k:Nat}{x y:α}(ha:a[k]?=some x)(hb:b[k]?=some y):KR a b (n+1) k=(decide (x=y)&&KR a b n (k+1)):=by rw[KR,ha,hb]
abbrev Po(i j:Nat):AV:=.fn (.func 378) [] [.ptr i 0,.ptr j 0]
abbrev smF(i:Nat):AV:=.fn (.func 375) [] [.ptr i 0]
theorem afA(c:List bH.D)(k:yP)(b:BE)(hc:c.length<=1000000000)(r:Bool)(h:((((ByteArray.toList b.ky==ByteArray.toList k)=true)->(bH.cZ c (b.2,b.3))=(r))/\(((ByteArray.toList b.ky==ByteArray.toList k)=false)->(false)=(r)))):ak P G 378 [oN b,.ptr 0 0,.ptr 1 0] [ah.box [str k],ah.box [bH.bB c]] (aS.ret (Am.bool r)) [ah.box [str k],ah.box [bH.bB c]]:=by
 rcases Bool.eq_false_or_eq_true ((ByteArray.toList b.ky==ByteArray.toList k))with c1|c1
 .have h:=h.1 c1;exact aA (aF.aI h) [kt c1,kc [] (@Go.bH.jX (c) (b.2) (b.3) zO)]
 .have h:=h.2 c1;exact aA (aF.aI h) [kf c1]
theorem anR(b c:BE)(r:Bool)(h:(b.dv==c.dv&&b.sq==c.sq)=(r)):ak P G 375 [oN b,.ptr 0 0] [ah.box (aQ c)] (aS.ret (Am.bool r)) [ah.box (aQ c)]:=by
 exact aA (aF.aI h) []
theorem agn(c:List bH.D)(k:yP)(b:BE)(hc:c.length<=1000000000):ak P G 378 [oN b,.ptr 0 0,.ptr 1 0] [.box [str k],.box [bH.bB c]] (.ret (bool (iR c k b))) [.box [str k],.box [bH.bB c]]:=afA c k b hc _ (by
 rw[rC];refine⟨fun h=>?_,fun h=>?_⟩
 .rw [iR,h,Bool.true_and];rfl
 .rw [iR,h,Bool.false_and])
theorem anS(b c:BE):ak P G 375 [oN b,.ptr 0 0] [.box (aQ c)] (.ret (bool (decide (b.eG=c.eG)))) [.box (aQ c)]:=anR b c _ (acI b c)
def ixS(v:List BE)(b:BE)(k:Nat):St:={ aL:=aC 19 [(0,iK v),(1,smF 0),(4,int 0),(6,iK v),(7,int v.length),(8,int k)],H:=[.box (aQ b)] }
theorem aep(v:List BE)(b:BE)(k:Nat)(hv:v.length<=1000000000)(ex:bF)(r:Int)(h:((((k:Int)<(v.length:Int))->(∃x2:BE,(v[k]?=some x2)/\(((x2.eG=b.eG)->(bF.ret=ex)/\(((k:Int):Int)=(r)))/\((¬x2.eG=b.eG)->Rq 1 290 0 (sM 19 [(0,.sl 5 false (au v)),(1,.fn (Fn.func 375) [] [.ptr 0 0]),(4,int 0),(6,.sl 5 false (au v)),(7,int ↑v.length),(8,int ↑(k+1))] [.box [str b.ky,int b.dv,int b.sq,int b.tm,str b.vl]]) ex (sM 19 [(4,int r)] [.box (aQ b)])))))/\((¬(k:Int)<(v.length:Int))->(bF.exit 0=ex)/\(0=r)))):Rq 1 290 0 (ixS v b k) ex (sM 19 [(4,int r)] [.box (aQ b)]):=by
 by_cases c1:((k:Int)<(v.length:Int))
 .have h:=h.1 c1;obtain⟨x2,o3,h⟩:=h;have fT:=(@anS (x2) (b));let l1:List fP:=[kt (qT c1),ke (aQ x2) (au v) k (bG o3),kc [0] fT];by_cases c4:(x2.eG=b.eG)
  .have h:=h.1 c4;obtain⟨eX,e1⟩:=h;exact bN.to ((show Rq 1 290 0 (ixS v b k) bF.ret (sM 19 [(4,int ↑k)] [.box [str b.ky,int b.dv,int b.sq,int b.tm,str b.vl]])from aG (l1++[kt (qT c4)]) (aB 19 [4]) 1)) eX (eB.aC ⟨rfl,(aF.int_eq e1),yO⟩)
  .have h:=h.2 c4;exact aJ (l1++[kf (qF c4),kW 18 (k+1) ↑(k+1)]) (aB 19 [0,1,4,6,7,8]) 1 h
 .have h:=h.2 c1;obtain⟨eX,e1⟩:=h;exact bN.to ((show Rq 1 290 0 (ixS v b k) (bF.exit 0) (sM 19 [(4,int 0)] [.box [str b.ky,int b.dv,int b.sq,int b.tm,str b.vl]])from aG [kf (qF c1)] (aB 19 [4]) 1)) eX (eB.aC ⟨rfl,(aF.int_eq e1),yO⟩)
def ixO(v:List BE)(c:List bH.D)(y:yP)(k:Nat):St:={ aL:=aC 19 [(0,.aU 0 0 0 v.length),(1,Po 1 2),(4,int 0),(6,.aU 0 0 0 v.length),(7,int v.length),(8,int k)],H:=[.aN 0 5 false (au v),.box [str y],.box [bH.bB c]] }
theorem aer(v:List BE)(c:List bH.D)(y:yP)(k:Nat)(hv:v.length<=1000000000)(hc:c.length<=1000000000)(ex:bF)(r:Int)(h:((((k:Int)<(v.length:Int))->(∃x2:BE,(v[0+k]?=some x2)/\((((iR c y x2)=true)->(bF.ret=ex)/\(((k:Int):Int)=(r)))/\(((iR c y x2)=false)->Rq 3 290 0 (sM 19 [(0,.aU 0 0 0 v.length),(1,.fn (Fn.func 378) [] [.ptr 1 0,.ptr 2 0]),(4,int 0),(6,.aU 0 0 0 v.length),(7,int ↑v.length),(8,int ↑(k+1))] [.aN 0 5 false (au v),.box [str y],.box [.sl 2 false (bH.au c)]]) ex (sM 19 [(4,int r)] [.aN 0 5 false (au v),.box [str y],.box [bH.bB c]])))))/\((¬(k:Int)<(v.length:Int))->(bF.exit 0=ex)/\(0=r)))):Rq 3 290 0 (ixO v c y k) ex (sM 19 [(4,int r)] [.aN 0 5 false (au v),.box [str y],.box [bH.bB c]]):=by
 have bS:0=0:=(rfl);by_cases c1:((k:Int)<(v.length:Int))
 .have h:=h.1 c1;obtain⟨x2,o3,h⟩:=h;have x9:=(@agn (c) (y) (x2) zO);let l1:List fP:=[kt (qT c1),ko (bC.elem (aQ x2)),kp bS,kR (k:Int) (v.length:Int),kp bS,kp (show(au v)[0+Int.toNat (k:Int)]?=some (aQ x2)from(iN o3)),kc [1,2] x9];rcases Bool.eq_false_or_eq_true ((iR c y x2))with c4|c4
  .have h:=h.1 c4;obtain⟨eX,e1⟩:=h;exact bN.to ((show Rq 3 290 0 (ixO v c y k) bF.ret (sM 19 [(4,int ↑k)] [.aN 0 5 false (au v),.box [str y],.box [.sl 2 false (bH.au c)]])from aG (l1++[kt c4]) (aB 19 [4]) 3)) eX (eB.aC ⟨rfl,(aF.int_eq e1),yO⟩)
  .have h:=h.2 c4;exact aJ (l1++[kf c4,kW 18 (k+1) ↑(k+1)]) (aB 19 [0,1,4,6,7,8]) 3 h
 .have h:=h.2 c1;obtain⟨eX,e1⟩:=h;exact bN.to ((show Rq 3 290 0 (ixO v c y k) (bF.exit 0) (sM 19 [(4,int 0)] [.aN 0 5 false (au v),.box [str y],.box [.sl 2 false (bH.au c)]])from aG [kf (qF c1)] (aB 19 [4]) 3)) eX (eB.aC ⟨rfl,(aF.int_eq e1),yO⟩)
theorem Yi(v:List BE)(hv:v.length<=1000000000)(fF:¬au v=[])(h:True):ak P G 117 [iK v] [] (aS.ret (AV.aU 0 0 0 v.length)) [ah.aN 0 5 false (au v)]:=by
 exact aj [kp (show au v≠[]from zO),kY,kv 7 (show Am.aF (AV.aU 0 0 0 (0+length (au v))) (AV.aU 0 0 0 v.length)from(aF.of_eq (by simp[ay,bJ,bK,dW]))),kp fF,vV ((0+length (au v))*56) (by simp only[yD,yE,length_nil,length_map,ay,bJ,bK,dW]<;>omega)]
def Bc(i j:Nat):Int:=IntKind.wrap IntKind.i64 (Int.fdiv (↑(i+j):Int) (2^min (Int.toNat 1) (IntKind.bits IntKind.u64)))
theorem Ms{i j:Nat}(h:i+j<=1000000000000):Bc i j=(((i+j)/2:Nat):Int):=by
 have e:(2^min (Int.toNat 1) (IntKind.bits IntKind.u64):Int)=2:=zD
 unfold Bc;rw[e,IntKind.wrap_i64,Int.fdiv_eq_ediv_of_nonneg _ zO];omega
def Yg(v w:List BE)(b:BE)(i j:Nat):St:={ aL:=aC 49 [(0,.aU 0 0 0 v.length),(2,yT 242),(4,.ptr 1 0),(8,int v.length),(9,int i),(10,int j)],H:=[.aN 0 5 false (au (v++w)),.box (aQ b)] }
theorem afH(v w:List BE)(b:BE)(i j m:Nat)(hj:j<=v.length)(hv:v.length<=1000000000)(hm:Bc i j=(m:Int))(hm':IntKind.wrap IntKind.i64 (Int.fdiv (↑(i+j):Int) (2^min (Int.toNat 1) (IntKind.bits IntKind.u64)))=(m:Int))(bg:m<j)(ex:bF)(s:St)(h:((((i:Int)<(j:Int))->(∃x2:BE,((v++w)[0+Int.toNat (Bc i j)]?=some x2)/\(((gM x2 b<0)->Rq 1 376 0 (sM 49 [(0,.aU 0 0 0 v.length),(2,iL 242),(4,.ptr 1 0),(8,int ↑v.length),(9,int (Bc i j+1)),(10,int ↑j)] [.aN 0 5 false (au (v++w)),.box [str b.ky,int b.dv,int b.sq,int b.tm,str b.vl]]) ex s)/\((¬gM x2 b<0)->Rq 1 376 0 (sM 49 [(0,.aU 0 0 0 v.length),(2,iL 242),(4,.ptr 1 0),(8,int ↑v.length),(9,int ↑i),(10,int (Bc i j))] [.aN 0 5 false (au (v++w)),.box [str b.ky,int b.dv,int b.sq,int b.tm,str b.vl]]) ex s))))/\((¬(i:Int)<(j:Int))->(bF.exit 0=ex)/\(sM 49 [(0,.aU 0 0 0 v.length),(2,iL 242),(4,.ptr 1 0),(8,int ↑v.length),(9,int ↑i)] [.aN 0 5 false (au (v++w)),.box [str b.ky,int b.dv,int b.sq,int b.tm,str b.vl]]=s)))):Rq 1 376 0 (Yg v w b i j) ex s:=by
 have x9:0=0:=(rfl);by_cases c1:((i:Int)<(j:Int))
 .have h:=h.1 c1;obtain⟨x2,o3,h⟩:=h;have OG:=(@DC (x2) (b));let l1:List fP:=[kt (qT c1),kW 20 ((i:Int)+(j:Int)) (↑(i+j):Int),kv 21 (show Am.aF (AV.lit (Value.int IntKind.u64 (IntKind.wrap IntKind.u64 (↑(i+j):Int)))) (AV.lit (Value.int IntKind.u64 (↑(i+j):Int)))from(aF.zf zO zO rfl)),ko (bC.elem (aQ x2)),kp (show(0:Int)<=(1:Int)from zO),kp x9,kp (show(0:Int)<=IntKind.wrap IntKind.i64 (Int.fdiv (↑(i+j):Int) (2^min (Int.toNat 1) (IntKind.bits IntKind.u64)))/\IntKind.wrap IntKind.i64 (Int.fdiv (↑(i+j):Int) (2^min (Int.toNat 1) (IntKind.bits IntKind.u64)))<(v.length:Int)from zO),kp x9,kp (show(au (v++w))[0+Int.toNat (IntKind.wrap IntKind.i64 (Int.fdiv (↑(i+j):Int) (2^min (Int.toNat 1) (IntKind.bits IntKind.u64))))]?=some (aQ x2)from(iN o3)),kc [] OG];by_cases c4:(gM x2 b<0)
  .have h:=h.1 c4;exact aJ (l1++[kt (qT c4),kW 33 (IntKind.wrap IntKind.i64 (Int.fdiv (↑(i+j):Int) (2^min (Int.toNat 1) (IntKind.bits IntKind.u64)))+1) (Bc i j+1)]) (aB 49 [0,2,4,8,9,10]) 2 h
  .have h:=h.2 c4;exact aJ (l1++[kf (qF c4)]) (aB 49 [0,2,4,8,9,10]) 2 h
 .have h:=h.2 c1;obtain⟨eX,eS⟩:=h;exact bN.to ((aG [kf (qF c1)] (aB 49 [0,2,4,8,9]) 2)) eX (eB.of_eq eS)
def nE(p:BE->Bool):Nat->List BE->Int
 |_,[] => -1
 |k,b::t=>if p b=true then(k:Int)else nE p (k+1) t
theorem qD{p:BE->Bool}:∀{v:List BE}{k:Nat},v.any p=false->nE p k v = -1
 |[],_,_=>rfl
 |b::t,k,h=>by
  simp only[any_cons,Bool.or_eq_false_iff]at h;rw[nE,yK (by rw[h.1];decide)];exact qD h.2
theorem IW{p:BE->Bool}:∀{v:List BE}{k:Nat},v.any p=true->∃j b,nE p k v=((k+j:Nat):Int)/\v[j]?=some b/\p b=true/\∀a∈v.take j,p a=false
 |[],_,h=>by cases h
 |b::t,k,h=>by
  cases hp:p b with
  |true=>exact⟨0,b,by rw[nE,yL hp];rfl,rfl,hp,zS⟩
  |false =>
   simp only[any_cons,hp,Bool.false_or]at h;obtain⟨j,c,h1,h2,h3,h4⟩:=IW (k:=k+1) h;refine⟨j+1,c,by rw[nE,yK (by rw[hp];decide),h1];omega,by simpa using h2,h3,fun a ha=>?_⟩;rw[take_succ_cons]at ha;rcases yH.1 ha with rfl|ha
   .exact hp
   .exact h4 a ha
theorem Zx(v:List BE)(b:BE)(hv:v.length<=1000000000):∀n k,v.length-k=n->k<=v.length->Rq 1 290 0 (ixS v b k) (if(v.drop k).any (fun a=>decide (a.eG=b.eG))=true then .ret else .exit 0) { aL:=aC 19 [(4,int (if(v.drop k).any (fun a=>decide (a.eG=b.eG))=true then nE (fun a=>decide (a.eG=b.eG)) k (v.drop k)else 0))],H:=[.box (aQ b)] }:=by
 intro n
 induction n with
 |zero =>
  intro k hn hk;rw[drop_eq_nil_of_le zO];exact aep v b k hv _ _ ⟨fun h=>absurd h zO,fun _=>⟨rfl,rfl⟩⟩
 |succ n ih =>
  intro k hn hk;have bg:k<v.length:=zO
  have nx:=ih (k+1) zO zO;rw[drop_eq_getElem_cons bg,any_cons,nE];refine aep v b k hv _ _ ⟨fun h=>⟨v[k],yA bg,⟨fun hq=>?_,fun hq=>?_⟩⟩,fun h=>absurd bg zO⟩
  .simp [hq]
  .simp only[decide_eq_false hq,Bool.false_or];rw[yK (show ¬false=true by decide)];exact nx
theorem Zy(v:List BE)(c:List bH.D)(y:yP)(hv:v.length<=1000000000)(hc:c.length<=1000000000):∀n k,v.length-k=n->k<=v.length->Rq 3 290 0 (ixO v c y k) (if(v.drop k).any (iR c y)=true then .ret else .exit 0) { aL:=aC 19 [(4,int (if(v.drop k).any (iR c y)=true then nE (iR c y) k (v.drop k)else 0))],H:=[.aN 0 5 false (au v),.box [str y],.box [bH.bB c]] }:=by
 intro n
 induction n with
 |zero =>
  intro k hn hk;rw[drop_eq_nil_of_le zO];exact aer v c y k hv hc _ _ ⟨fun h=>absurd h zO,fun _=>⟨rfl,rfl⟩⟩
 |succ n ih =>
  intro k hn hk;have bg:k<v.length:=zO
  have nx:=ih (k+1) zO zO;rw[drop_eq_getElem_cons bg,any_cons,nE];refine aer v c y k hv hc _ _ ⟨fun h=>⟨v[k],by rw[Nat.zero_add];exact yA bg,⟨fun hq=>?_,fun hq=>?_⟩⟩,fun h=>absurd bg zO⟩
  .simp [hq]
  .simp only[hq,Bool.false_or];rw[yK (show ¬false=true by decide)];exact nx
theorem aes(v:List BE)(b:BE)(hv:v.length<=1000000000):Rq 1 290 0 (ixS v b 0) (if v.any (fun a=>decide (a.eG=b.eG))=true then .ret else .exit 0) { aL:=aC 19 [(4,int (if v.any (fun a=>decide (a.eG=b.eG))=true then nE (fun a=>decide (a.eG=b.eG)) 0 v else 0))],H:=[.box (aQ b)] }:=Zx v b hv _ 0 rfl zO
theorem aeu(v:List BE)(c:List bH.D)(y:yP)(hv:v.length<=1000000000)(hc:c.length<=1000000000):Rq 3 290 0 (ixO v c y 0) (if v.any (iR c y)=true then .ret else .exit 0) { aL:=aC 19 [(4,int (if v.any (iR c y)=true then nE (iR c y) 0 v else 0))],H:=[.aN 0 5 false (au v),.box [str y],.box [bH.bB c]] }:=Zy v c y hv hc _ 0 rfl zO
theorem akA(v:List BE)(b:BE)(hv:v.length<=1000000000)(r:Int)(h:((((any v fun(a:BE)=>decide (a.eG=b.eG))=true)->(nE (fun(a:BE)=>decide (a.eG=b.eG)) 0 v:Int)=(r))/\((¬(any v fun(a:BE)=>decide (a.eG=b.eG))=true)->(-1:Int)=(r)))):ak P G 290 [iK v,smF 0] [ah.box (aQ b)] (aS.ret (int r)) [ah.box (aQ b)]:=by
 have bS:=lU (ay v);by_cases c1:((any v fun(a:BE)=>decide (a.eG=b.eG))=true)
 .have h:=h.1 c1;exact aA (aF.int_eq h) [kv 7 bS,kl (rG [(2,2),(5,1),(9,10)]) 1 (show Rq 1 290 0 (sM 19 [(0,.sl 5 false (au v)),(1,.fn (Fn.func 375) [] [.ptr 0 0]),(4,int 0),(6,.sl 5 false (au v)),(7,int ↑v.length),(8,int 0)] [.box [str b.ky,int b.dv,int b.sq,int b.tm,str b.vl]]) bF.ret (sM 19 [(4,int (nE (fun(a:BE)=>decide (a.eG=b.eG)) 0 v))] [.box [str b.ky,int b.dv,int b.sq,int b.tm,str b.vl]])from(by have h0:=(@aes (v) (b) zO);simp only[yL c1]at h0;exact h0))]
 .have h:=h.2 c1;exact aA (aF.int_eq h) [kv 7 bS,kl (rG [(2,2),(5,1),(9,10)]) 1 (show Rq 1 290 0 (sM 19 [(0,.sl 5 false (au v)),(1,.fn (Fn.func 375) [] [.ptr 0 0]),(4,int 0),(6,.sl 5 false (au v)),(7,int ↑v.length),(8,int 0)] [.box [str b.ky,int b.dv,int b.sq,int b.tm,str b.vl]]) (bF.exit 0) (sM 19 [(4,int 0)] [.box [str b.ky,int b.dv,int b.sq,int b.tm,str b.vl]])from(by have h0:=(@aes (v) (b) zO);simp only[yK c1]at h0;exact h0))]
theorem akB(v:List BE)(c:List bH.D)(y:yP)(hv:v.length<=1000000000)(hc:c.length<=1000000000)(r:Int)(h:(((any v (iR c y)=true)->(nE (iR c y) 0 v:Int)=(r))/\((¬any v (iR c y)=true)->(-1:Int)=(r)))):ak P G 290 [.aU 0 0 0 v.length,Po 1 2] [ah.aN 0 5 false (au v),ah.box [str y],ah.box [bH.bB c]] (aS.ret (int r)) [ah.aN 0 5 false (au v),ah.box [str y],ah.box [bH.bB c]]:=by
 have bS:0=0:=(rfl);by_cases c1:(any v (iR c y)=true)
 .have h:=h.1 c1;exact aA (aF.int_eq h) [kp bS,kl (rG [(2,2),(5,1),(9,10)]) 3 (show Rq 3 290 0 (sM 19 [(0,.aU 0 0 0 v.length),(1,.fn (Fn.func 378) [] [.ptr 1 0,.ptr 2 0]),(4,int 0),(6,.aU 0 0 0 v.length),(7,int ↑v.length),(8,int 0)] [.aN 0 5 false (au v),.box [str y],.box [.sl 2 false (bH.au c)]]) bF.ret (sM 19 [(4,int (nE (iR c y) 0 v))] [.aN 0 5 false (au v),.box [str y],.box [.sl 2 false (bH.au c)]])from(by have h0:=(@aeu (v) (c) (y) zO zO);simp only[yL c1]at h0;exact h0))]
 .have h:=h.2 c1;exact aA (aF.int_eq h) [kp bS,kl (rG [(2,2),(5,1),(9,10)]) 3 (show Rq 3 290 0 (sM 19 [(0,.aU 0 0 0 v.length),(1,.fn (Fn.func 378) [] [.ptr 1 0,.ptr 2 0]),(4,int 0),(6,.aU 0 0 0 v.length),(7,int ↑v.length),(8,int 0)] [.aN 0 5 false (au v),.box [str y],.box [.sl 2 false (bH.au c)]]) (bF.exit 0) (sM 19 [(4,int 0)] [.aN 0 5 false (au v),.box [str y],.box [.sl 2 false (bH.au c)]])from(by have h0:=(@aeu (v) (c) (y) zO zO);simp only[yK c1]at h0;exact h0))]
end Go.Bd
