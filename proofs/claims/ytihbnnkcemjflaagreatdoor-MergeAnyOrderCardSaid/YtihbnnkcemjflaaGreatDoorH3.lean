import Derived.Test.YtihbnnkcemjflaaGreatDoorH2
set_option maxRecDepth 100000
set_option linter.unusedSimpArgs false
set_option linter.unusedVariables false
open List
noncomputable section
namespace Go.Proofs.YtihbnnkcemjflaaGreatDoor
open Go Go.Am Go.ChangeShapes Go.WideShapes Go.RowKit
def jf1(P:Program)(f:FuncId)(fn:Func)(s:ChangeSpec)(c:OpenClaim):Bool:=c.wf (OpenSpec.ofChange s)&&laidOutB P&&mapsRowed P
def jf2(P:Program)(f:FuncId)(fn:Func)(s:ChangeSpec)(c:OpenClaim):Bool:=fn.params.all (P.readableRec ·)&&namedTie P c.named s.vars&&(c.stops==[])&&(P.stops==[])&&(c.knobs==[])&&(P.stopKnobs==[])
def jf3(P:Program)(f:FuncId)(fn:Func)(s:ChangeSpec)(c:OpenClaim):Bool:=(c.inPlace==P.inPlace f)
def jf4(P:Program)(f:FuncId)(fn:Func)(s:ChangeSpec)(c:OpenClaim):Bool:=(c.unfollowed==P.unfollowed f)&&(c.recurses==P.recurses f)
def jf5(P:Program)(f:FuncId)(fn:Func)(s:ChangeSpec)(c:OpenClaim):Bool:=(c.named==P.varsNamed f)
def jf6(P:Program)(f:FuncId)(fn:Func)(s:ChangeSpec)(c:OpenClaim):Bool:=(c.maps==(fn.params.toList++s.plain.varTypes P).any (P.mapsRec ·))&&(c.ifaces==(fn.params.toList++s.plain.varTypes P).any (P.ifacesRec ·))&&(c.mapsOut==P.mapsAmong fn.resultTypes.toList)&&(c.loops==(fn.params.toList++s.plain.varTypes P).any (P.loopsFrom ·))&&(c.wideKeys==(fn.params.toList++s.plain.varTypes P++fn.resultTypes.toList).any (P.wideKeysFrom ·))&&s.vars.all (P.varReadable ·)&&fn.resultTypes.all (fun t=>P.readableRec t&&decide (t<P.types.size))&&(c.ifacesOut==fn.resultTypes.toList.any (P.ifacesRec ·))&&(c.loopsOut==fn.resultTypes.toList.any (P.loopsFrom ·))
def jf7(P:Program)(f:FuncId)(fn:Func)(s:ChangeSpec)(c:OpenClaim):Bool:=(c.plainKeys==P.plainKeys)&&c.shortTexts.isNone&&P.stopsHeard&&P.mayEnter
def jf8(P:Program)(f:FuncId)(fn:Func)(s:ChangeSpec)(c:OpenClaim):Bool:=(c.lifted==P.liftsFinal)
def jf9(P:Program)(f:FuncId)(fn:Func)(s:ChangeSpec)(c:OpenClaim):Bool:=(P.make==some c.make)
def agQ(P:Program)(f:FuncId)(fn:Func)(s:ChangeSpec)(c:OpenClaim):Bool:=(c.kinds==(if c.domain.isEmpty then[]else fn.params.toList.map fun t=>match P.underlying t with|some (.int k)=>some k|_=>none))&&(c.pinned==c.pinnedBy)
def agR(P:Program)(f:FuncId)(fn:Func)(s:ChangeSpec)(c:OpenClaim):Bool:=(c.veiled==(fn.params.toList++s.plain.varTypes P++fn.resultTypes.toList).any (P.veiledRec ·))&&c.veiledFits P fn.params.toList (fn.params.toList++s.plain.varTypes P++fn.resultTypes.toList)
theorem Wd{P}{f}{fn}{s}{c}(h1:jf1 P f fn s c=true)(h2:jf2 P f fn s c=true)(h3:jf3 P f fn s c=true)(h4:jf4 P f fn s c=true)(h5:jf5 P f fn s c=true)(h6:jf6 P f fn s c=true)(h7:jf7 P f fn s c=true)(h8:jf8 P f fn s c=true)(h9:jf9 P f fn s c=true)(h10:agQ P f fn s c=true)(h11:agR P f fn s c=true):joinedFacts P f fn s c=true:=by
 unfold joinedFacts;simp only[jf1,jf2,jf3,jf4,jf5,jf6,jf7,jf8,jf9,agQ,agR,y04]at h1 h2 h3 h4 h5 h6 h7 h8 h9 h10 h11 |-;grind
end Go.Proofs.YtihbnnkcemjflaaGreatDoor
namespace Go.bH
open Go Go.Am Go.Proofs Go.eY
abbrev D:=Int×Int
def aQ(d:D):List AV:=[int d.1,int d.2]
def au(v:List D):List (List AV):=v.map aQ
def bB(v:List D):AV:=.sl 2 false (au v)
def eG(d:D):AV:=.agg (aQ d)
theorem ay v:(au v).length=v.length:=by simp[au]
theorem sN a b:[[AV.lit (Value.int IntKind.i64 a),AV.lit (Value.int IntKind.i64 b)]]=au [(a,b)]:=rfl
theorem iI v(n:Nat):List.drop n (au v)=au (v.drop n):=by simp[au]
theorem gF v(n:Nat):List.take n (au v)=au (v.take n):=by simp[au]
theorem bK v:∀c∈au v,c.all AV.fJ=true:=by
 intro c hc;obtain⟨d,_,rfl⟩:=yG.1 hc;rfl
theorem bJ v:∀c∈au v,AV.aM [] c=true:=by
 intro c hc;obtain⟨d,_,rfl⟩:=yG.1 hc;rfl
theorem dW v:List.take v.length (List.drop 0 (au v))=au v:=by rw[<- ay v];simp
def LW(n:Int):List AV:=[int n]
def ql(l:List Int):List (List AV):=l.map LW
theorem kD l:(ql l).length=l.length:=by simp[ql]
theorem gy a b:au a++au b=au (a++b):=by simp[au]
def gQ(d:D):Bool:=decide (d.1>=0)&&decide (d.1<512)&&decide (d.2>=1)&&decide (d.2<=1048576)
theorem adQ a b(h:(((a>=0)->(((a<512)->(((b>=1)->(decide (b<=1048576))=(gQ (a,b)))/\((¬b>=1)->(false)=(gQ (a,b)))))/\((¬a<512)->(false)=(gQ (a,b)))))/\((¬a>=0)->(false)=(gQ (a,b))))):Cq 76 [eG (a,b)] (Am.bool (gQ (a,b))):=by
 by_cases c1:(a>=0)
 .have h:=h.1 c1;by_cases c2:(a<512)
  .have h:=h.1 c2;by_cases c3:(b>=1)
   .have h:=h.1 c3;exact aA (aF.aI h) [kt (qT c1),kt (qT c2),kt (qT c3)]
   .have h:=h.2 c3;exact aA (aF.aI h) [kt (qT c1),kt (qT c2),kf (qF c3)]
  .have h:=h.2 c2;exact aA (aF.aI h) [kt (qT c1),kf (qF c2),kY]
 .have h:=h.2 c1;exact aA (aF.aI h) [kf (qF c1),kY,kY]
theorem adR a b:Cq 76 [eG (a,b)] (bool (gQ (a,b))):=adQ a b (by
 simp only[gQ];grind)
def jh(v:List D)(k:Nat):Bool:=match v[k]? with
 |some x=>gQ x&&(k==0||match v[k-1]? with|some y=>decide (y.1<x.1)|none=>false)
 |none=>true
def y9(v:List D):Nat->Nat->Bool
 |0,_=>true
 |n+1,k=>jh v k&&y9 v n (k+1)
def Cw(v:List D):Bool:=y9 v v.length 0
def eZ(v:List D):Int:=if Cw v=true then 0 else 120
def Ll(v:List D)(k:Nat):St:={ aL:=aC 31 [(0,bB v),(2,int 0),(5,bB v),(6,int v.length),(7,int k)],H:=[] }
theorem ae3(v:List D)(k:Nat)(hv:v.length<=1000000000)(ex:bF)(r:Int)(h:((((k:Int)<(v.length:Int))->(∃x2:D,(v[k]?=some x2)/\((((gQ (x2.1,x2.2))=true)->((((k:Int)>0)->(∃x6:D,((0:Int)<=(k:Int)-1/\v[Int.toNat ((k:Int)-1)]?=some x6)/\(((x2.1<=x6.1)->(bF.ret=ex)/\(120=r))/\((¬x2.1<=x6.1)->Rq 0 46 0 (sM 31 [(0,bB v),(2,int 0),(5,bB v),(6,int ↑v.length),(7,int ↑(k+1))] []) ex (sM 31 [(2,int r)] [])))))/\((¬(k:Int)>0)->Rq 0 46 0 (sM 31 [(0,bB v),(2,int 0),(5,bB v),(6,int ↑v.length),(7,int ↑(k+1))] []) ex (sM 31 [(2,int r)] []))))/\(((gQ (x2.1,x2.2))=false)->(bF.ret=ex)/\(120=r)))))/\((¬(k:Int)<(v.length:Int))->(bF.exit 0=ex)/\(0=r)))):Rq 0 46 0 (Ll v k) ex (sM 31 [(2,int r)] []):=by
 by_cases c1:((k:Int)<(v.length:Int))
 .have h:=h.1 c1;obtain⟨x2,o3,h⟩:=h;have fT:=(@adR x2.1 x2.2);let l1:List fP:=[kt (qT c1),ke (aQ x2) (au v) k (bG o3),kc [] fT];rcases y00 ((gQ (x2.1,x2.2)))with c4|c4
  .have h:=h.1 c4;have jw:=(y32 (c4));by_cases c5:((k:Int)>0)
   .have h:=h.1 c5;obtain⟨x6,o7,h⟩:=h;let l2:List fP:=l1++[kf jw,kt (qT c5),kW 23 ((k:Int)-1) ((k:Int)-1),ko (bC.elem (aQ x6)),kp (show(0:Int)<=(k:Int)-1/\(au v)[Int.toNat ((k:Int)-1)]?=some (aQ x6)from(qU o7))];by_cases c8:(x2.1<=x6.1)
    .have h:=h.1 c8;obtain⟨eX,e1⟩:=h;exact bN.to ((show Rq 0 46 0 (Ll v k) bF.ret (sM 31 [(2,int 120)] [])from aG (l2++[kt (qT c8)]) (aB 31 [2]) 0)) eX (eB.aC ⟨rfl,(aF.int_eq e1),yO⟩)
    .have h:=h.2 c8;exact aJ (l2++[kf (qF c8),kW 30 (k+1) ↑(k+1)]) (aB 31 [0,2,5,6,7]) 0 h
   .have h:=h.2 c5;exact aJ (l1++[kf jw,kf (qF c5),kY,kW 30 (k+1) ↑(k+1)]) (aB 31 [0,2,5,6,7]) 0 h
  .have h:=h.2 c4;obtain⟨eX,e1⟩:=h;exact bN.to ((show Rq 0 46 0 (Ll v k) bF.ret (sM 31 [(2,int 120)] [])from aG (l1++[kt (show(!gQ (x2.1,x2.2))=true from(y32 (c4))),kO]) (aB 31 [2]) 0)) eX (eB.aC ⟨rfl,(aF.int_eq e1),yO⟩)
 .have h:=h.2 c1;obtain⟨eX,e1⟩:=h;exact bN.to ((show Rq 0 46 0 (Ll v k) (bF.exit 0) (sM 31 [(2,int 0)] [])from aG [kf (qF c1)] (aB 31 [2]) 0)) eX (eB.aC ⟨rfl,(aF.int_eq e1),yO⟩)
theorem aa3 v(hv:v.length<=1000000000):∀n k,v.length-k=n->k<=v.length ->
 Rq 0 46 0 (Ll v k) (if y9 v n k=true then .exit 0 else .ret) { aL:=aC 31 [(2,int (if y9 v n k=true then 0 else 120))],H:=[] }:=by
 intro n
 induction n with
 |zero=>intro k hn hk;exact ae3 v k hv _ _ ⟨fun h=>absurd h zO,fun _=>⟨rfl,rfl⟩⟩
 |succ n ih =>
  intro k hn hk;have bg:k<v.length:=zO
  have hx:=yA bg;have nx:∀{b:Bool},jh v k=true->y9 v (n+1) k=y9 v n (k+1):=fun h=>by simp[y9,h]
  have bad:jh v k=false->y9 v (n+1) k=false:=fun h=>by simp[y9,h]
  refine ae3 v k hv _ _ ⟨fun h=>⟨v[k],hx,⟨fun hq=>⟨fun h0=>?_,fun h0=>?_⟩,fun hq=>?_⟩⟩,fun h=>absurd bg zO⟩
  .have hy:v[k-1]?=some (v[k-1]'zO):=yA zO;refine⟨v[k-1]'zO,⟨zO,by rw[show((k:Int)-1).toNat=k-1 by omega];exact hy⟩,⟨fun hl=>?_,fun hl=>?_⟩⟩
   .have hb:jh v k=false:=by simp only[jh,hy];grind
    grind
   .have hb:jh v k=true:=by simp only[jh,hy];grind
    rw[nx (b:=true) hb];exact ih (k+1) zO zO
  .have hb:jh v k=true:=by simp only[jh,hx];grind
   rw[nx (b:=true) hb];exact ih (k+1) zO zO
  .have hb:jh v k=false:=by simp only[jh,hx];simp[hq]
   grind
theorem HZ v(hv:v.length<=1000000000):Rq 0 46 0 (Ll v 0) (if Cw v=true then .exit 0 else .ret) { aL:=aC 31 [(2,int (if Cw v=true then 0 else 120))],H:=[] } :=
 aa3 v hv v.length 0 zO zO
theorem NM v(hv:v.length<=1000000000)(h:(((Cw v=true)->0=(eZ v))/\((¬Cw v=true)->120=(eZ v)))):Cq 46 [bB v] (int (eZ v)):=by
 have bS:=lU (ay v);by_cases c1:(Cw v=true)
 .have h:=h.1 c1;exact aA (aF.int_eq h) [kv 6 bS,kl (rG [(1,1),(3,2),(8,23)]) 0 (((by have h0:=(@HZ (v) zO);simp only[yL c1]at h0;exact h0)))]
 .have h:=h.2 c1;exact aA (aF.int_eq h) [kv 6 bS,kl (rG [(1,1),(3,2),(8,23)]) 0 (((by have h0:=(@HZ (v) zO);simp only[yK c1]at h0;exact h0)))]
theorem fG v(hv:v.length<=1000000000):Cq 46 [bB v] (int (eZ v)):=NM v hv ⟨fun h=>by simp[eZ,h],fun h=>by simp[eZ,h]⟩
def JF(a b:List D)(k:Nat):St:={ aL:=aC 26 [(0,bB a),(1,bB b),(4,bool false),(5,int k)],H:=[] }
theorem E9 a b(k:Nat)(ha:a.length<=1000000000)(hb:b.length=a.length)(ex:bF)r(h:((((k:Int)<a.length)->(∃x2:D,(a[k]?=some x2)/\(∃x4:D,(b[k]?=some x4)/\((((x2.1==x4.1&&x2.2==x4.2)=true)->Rq 0 18 0 (sM 26 [(0,bB a),(1,bB b),(4,Am.bool false),(5,int ↑(k+1))] []) ex (sM 26 [(4,Am.bool r)] []))/\(((x2.1==x4.1&&x2.2==x4.2)=false)->(bF.ret=ex)/\((false)=(r)))))))/\((¬k<(a.length:Int))->(bF.exit 0=ex)/\((false)=(r))))):Rq 0 18 0 (JF a b k) ex (sM 26 [(4,Am.bool r)] []):=by
 have bS:=lU (ay a);by_cases c1:((k:Int)<(a.length:Int))
 .have h:=h.1 c1;obtain⟨x2,o3,h⟩:=h;obtain⟨x4,o5,h⟩:=h;let l1:List fP:=[kv 13 bS,kt (qT c1),ko (bC.elem (aQ x2)),ko (bC.elem (aQ x4)),kp (show(0:Int)<=(k:Int)/\(au a)[Int.toNat (k:Int)]?=some (aQ x2)from(bG o3)),kp (show(0:Int)<=(k:Int)/\(au b)[Int.toNat (k:Int)]?=some (aQ x4)from(bG o5))];rcases y00 ((x2.1==x4.1&&x2.2==x4.2))with c6|c6
  .have h:=h.1 c6;exact aJ (l1++[kf (y32 (c6)),kW 16 (k+1) ↑(k+1)]) (aB 26 [0,1,4,5]) 0 h
  .have h:=h.2 c6;obtain⟨eX,e1⟩:=h;exact bN.to ((show Rq 0 18 0 (JF a b k) bF.ret (sM 26 [(4,Am.bool false)] [])from aG (l1++[kt (show(!(x2.1==x4.1&&x2.2==x4.2))=true from(y32 (c6)))]) (aB 26 [4]) 0)) eX (eB.aC ⟨rfl,(aF.aI e1),yO⟩)
 .have h:=h.2 c1;obtain⟨eX,e1⟩:=h;exact bN.to ((show Rq 0 18 0 (JF a b k) (bF.exit 0) (sM 26 [(4,Am.bool false)] [])from aG [kv 13 bS,kf (qF c1)] (aB 26 [4]) 0)) eX (eB.aC ⟨rfl,(aF.aI e1),yO⟩)
theorem Fa a b(ha:a.length<=1000000000)(hb:b.length=a.length):∀n k,a.length-k=n->k<=a.length ->
 Rq 0 18 0 (JF a b k) (if a.drop k=b.drop k then .exit 0 else .ret) { aL:=aC 26 [(4,bool false)],H:=[] }:=by
 intro n
 induction n with
 |zero =>
  intro k hn hk;have e:a.drop k=b.drop k:=by rw[y21 zO,y21 zO]
  exact E9 a b k ha hb _ _ ⟨fun h=>absurd h zO,fun _=>⟨by rw[yL e],rfl⟩⟩
 |succ n ih =>
  intro k hn hk;have bg:k<a.length:=zO
  have oL:k<b.length:=zO
  have e1:=y01 bg;have e2:=y01 oL;refine E9 a b k ha hb _ _ ⟨fun h=>⟨a[k],yA bg,b[k],yA oL,⟨fun hq=>?_,fun hq=>?_⟩⟩,fun h=>absurd bg zO⟩
  .have hab:a[k]=b[k]:=by grind
   have h2:=ih (k+1) zO zO;by_cases hd:a.drop (k+1)=b.drop (k+1)
   .rw [yL hd]at h2;rw[yL (by rw[e1,e2,hab,hd])];exact h2
   .rw [yK hd]at h2;rw[yK (by grind)];exact h2
  grind
theorem Ja a b(ha:a.length<=1000000000)(hb:b.length=a.length):Rq 0 18 0 (JF a b 0) (if a=b then .exit 0 else .ret) { aL:=aC 26 [(4,bool false)],H:=[] } :=
 Fa a b ha hb _ 0 rfl zO
theorem ahG a b(ha:a.length<=1000000000)(h:(((a.length=(b.length:Int))->(((a=b)->(true)=(decide (a=b)))/\((¬a=b)->(false)=(decide (a=b)))))/\((¬(a.length:Int)=b.length)->(false)=(decide (a=b))))):Cq 18 [bB a,bB b] (Am.bool (decide (a=b))):=by
 have bS:=lU (ay a);have fT:=lU (ay b);by_cases c1:(a.length=(b.length:Int))
 .have h:=h.1 c1;have jw:=(y32 (nW.2 c1));by_cases c2:(a=b)
  .have h:=h.1 c2;exact aA (aF.aI h) [kv 7 bS,kv 9 fT,kf jw,kl (rG [(2,2),(6,20)]) 0 (((by have h0:=(@Ja (a) (b) zO zO);simp only[yL c2]at h0;exact h0)))]
  .have h:=h.2 c2;exact aA (aF.aI h) [kv 7 bS,kv 9 fT,kf jw,kl (rG [(2,2),(6,20)]) 0 (((by have h0:=(@Ja (a) (b) zO zO);simp only[yK c2]at h0;exact h0)))]
 .have h:=h.2 c1;exact aA (aF.aI h) [kv 7 bS,kv 9 fT,kt (y32 (qN.2 c1))]
theorem zG a b(ha:a.length<=1000000000):Cq 18 [bB a,bB b] (bool (decide (a=b))):=by
 refine ahG a b ha ⟨fun h=>⟨fun h=>by simp[h],fun h=>by simp[h]⟩,fun h=>?_⟩;grind
def Ep(dev:Int)(l:List D):Bool:=l.any fun d=>decide (d.1=dev)
def gI(dev:Int):List D->Int
 |[]=>0
 |d::t=>if d.1=dev then d.2 else gI dev t
theorem Lm dev(d:D)t:Ep dev (d::t)=(decide (d.1=dev)||Ep dev t):=rfl
theorem alZ a b dev(h:True):ak P G 62 [eG (a,b),.ptr 0 0] [ah.box [int dev]] (aS.ret (Am.bool (decide (a=dev)))) [ah.box [int dev]]:=by
 exact aj []
theorem al0 a b dev:ak P G 62 [eG (a,b),.ptr 0 0] [.box [int dev]] (.ret (bool (decide (a=dev)))) [.box [int dev]]:=alZ a b dev trivial
def IX(v:List D)(dev:Int)(k:Nat):St:={ aL:=aC 19 [(0,bB v),(1,.fn (.func 62) [] [.ptr 0 0]),(4,int 0),(6,bB v),(7,int v.length),(8,int k)],H:=[.box [int dev]] }
theorem ZI v(dev:Int)(k:Nat)(hv:v.length<=1000000000)(ex:bF)r(h:(((k<(v.length:Int))->(∃x2:D,(v[k]?=some x2)/\(((x2.1=dev)->(bF.ret=ex)/\((k:Int)=(r)))/\((¬x2.1=dev)->Rq 1 61 0 (sM 19 [(0,bB v),(1,.fn (Fn.func 62) [] [.ptr 0 0]),(4,int 0),(6,bB v),(7,int ↑v.length),(8,int ↑(k+1))] [.box [int dev]]) ex (sM 19 [(4,int r)] [.box [int dev]])))))/\((¬k<(v.length:Int))->(bF.exit 0=ex)/\(0=r)))):Rq 1 61 0 (IX v dev k) ex (sM 19 [(4,int r)] [.box [int dev]]):=by
 by_cases c1:((k:Int)<v.length)
 .have h:=h.1 c1;obtain⟨x2,o3,h⟩:=h;have fT:=(@al0 x2.1 x2.2 (dev));let l1:List fP:=[kt (qT c1),ke (aQ x2) (au v) k (bG o3),kc [0] fT];by_cases c4:(x2.1=dev)
  .have h:=h.1 c4;obtain⟨eX,e1⟩:=h;exact bN.to ((show Rq 1 61 0 (IX v dev k) bF.ret (sM 19 [(4,int ↑k)] [.box [int dev]])from aG (l1++[kt (qT c4)]) (aB 19 [4]) 1)) eX (eB.aC ⟨rfl,(aF.int_eq e1),yO⟩)
  .have h:=h.2 c4;exact aJ (l1++[kf (qF c4),kW 18 (k+1) ↑(k+1)]) (aB 19 [0,1,4,6,7,8]) 1 h
 .have h:=h.2 c1;obtain⟨eX,e1⟩:=h;exact bN.to ((show Rq 1 61 0 (IX v dev k) (bF.exit 0) (sM 19 [(4,int 0)] [.box [int dev]])from aG [kf (qF c1)] (aB 19 [4]) 1)) eX (eB.aC ⟨rfl,(aF.int_eq e1),yO⟩)
def nE(dev:Int):Int->List D->Int
 |_,[] => -1
 |k,d::t=>if d.1=dev then k else nE dev (k+1) t
theorem Nc v(dev:Int)(hv:v.length<=1000000000):∀n k,v.length-k=n->k<=v.length ->
 Rq 1 61 0 (IX v dev k) (if Ep dev (v.drop k)=true then .ret else .exit 0) { aL:=aC 19 [(4,int (if Ep dev (v.drop k)=true then nE dev k (v.drop k)else 0))],H:=[.box [int dev]] }:=by
 intro n
 induction n with
 |zero =>
  intro k hn hk;have e:v.drop k=[]:=y21 zO;rw[e];exact ZI v dev k hv _ _ ⟨fun h=>absurd h zO,fun _=>⟨rfl,rfl⟩⟩
 |succ n ih =>
  intro k hn hk;have bg:k<v.length:=zO
  have e:=y01 bg;refine ZI v dev k hv _ _ ⟨fun h=>⟨v[k],yA bg,⟨fun hq=>?_,fun hq=>?_⟩⟩,fun h=>absurd bg zO⟩
  .rw [e,Lm];simp[nE,hq]
  .have h1:Ep dev (v.drop k)=Ep dev (v.drop (k+1)):=by rw[e,Lm];simp[hq]
   have h2:nE dev k (v.drop k)=nE dev (k+1:Int) (v.drop (k+1)):=by rw[e];simp[nE,hq]
   rw[h1,h2];exact ih (k+1) zO zO
theorem al1 v(dev:Int)(hv:v.length<=1000000000):Rq 1 61 0 (IX v dev 0) (if Ep dev v=true then .ret else .exit 0) { aL:=aC 19 [(4,int (if Ep dev v=true then nE dev 0 v else 0))],H:=[.box [int dev]] } :=
 Nc v dev hv _ 0 rfl zO
theorem apW v(dev:Int)(hv:v.length<=1000000000)(h:(((Ep dev v=true)->True)/\((¬Ep dev v=true)->-1=(nE dev 0 v)))):ak P G 61 [bB v,.fn (Fn.func 62) [] [.ptr 0 0]] [ah.box [int dev]] (aS.ret (int (nE dev 0 v))) [ah.box [int dev]]:=by
 have bS:=lU (ay v);by_cases c1:(Ep dev v=true)
 .exact aj [kv 7 bS,kl (rG [(2,2),(5,1),(9,10)]) 1 (((by have h0:=(@al1 (v) (dev) zO);simp only[yL c1]at h0;exact h0)))]
 .have h:=h.2 c1;exact aA (aF.int_eq h) [kv 7 bS,kl (rG [(2,2),(5,1),(9,10)]) 1 (((by have h0:=(@al1 (v) (dev) zO);simp only[yK c1]at h0;exact h0)))]
theorem qD{dev}:∀{v}{k},Ep dev v=false->nE dev k v = -1
 |[],_,_=>rfl
 |d::t,k,h=>by
  simp only[Ep,any_cons,Bool.or_eq_false_iff,decide_eq_false_iff_not]at h;rw[nE,yK h.1];exact qD (by simpa[Ep]using h.2)
theorem apY v(dev:Int)(hv:v.length<=1000000000):ak P G 61 [bB v,.fn (.func 62) [] [.ptr 0 0]] [.box [int dev]] (.ret (int (nE dev 0 v))) [.box [int dev]] :=
 apW v dev hv ⟨fun _=>trivial,fun h=>(qD (by simpa using h)).symm⟩
theorem apZ v(dev:Int)(hv:v.length<=1000000000)(h:(((nE dev 0 v>=0)->(∃x2:D,(0<=nE dev 0 v/\v[Int.toNat (nE dev 0 v)]?=some x2)/\x2.2=(gI dev v)))/\((¬nE dev 0 v>=0)->0=(gI dev v)))):Cq 32 [bB v,int dev] (int (gI dev v)):=by
 have bS:=(@apY (v) (dev) zO);by_cases c1:(nE dev 0 v>=0)
 .have h:=h.1 c1;obtain⟨x2,o3,h⟩:=h;exact aA (aF.int_eq h) [kc [0] bS,kt (qT c1),ko (bC.elem (aQ x2)),kp (show(0)<=nE dev 0 v/\(au v)[Int.toNat (nE dev 0 v)]?=some (aQ x2)from(qU o3))]
 .have h:=h.2 c1;exact aA (aF.int_eq h) [kc [0] bS,kf (qF c1)]
theorem aa4{dev}:∀{v}{k:Nat},(∃j d,nE dev k v=(k+j:Nat)/\v[j]?=some d/\d.2=gI dev v)\/(nE dev k v = -1/\gI dev v=0)
 |[],k=>.inr ⟨rfl,rfl⟩
 |d::t,k=>by
  by_cases hq:d.1=dev
  .exact .inl ⟨0,d,by simp[nE,hq],rfl,by simp[gI,hq]⟩
  .rcases aa4 (dev:=dev) (v:=t) (k:=k+1)with⟨j,d',h1,h2,h3⟩|⟨h1,h2⟩
   .exact .inl ⟨j+1,d',by rw[nE];grind,by simpa using h2,by rw[gI,yK hq];exact h3⟩
   .exact .inr ⟨by rw[nE];grind,by rw[gI,yK hq];exact h2⟩
theorem acj v(dev:Int)(hv:v.length<=1000000000):Cq 32 [bB v,int dev] (int (gI dev v)):=by
 refine apZ v dev hv ?_;rcases aa4 (dev:=dev) (v:=v) (k:=0)with⟨j,d,h1,h2,h3⟩|⟨h1,h2⟩
 .grind
 grind
def cZ(v:List D)(d:D):Bool:=decide (d.2>=1)&&decide (d.2<=gI d.1 v)
theorem aa5 v(a b:Int)(hv:v.length<=1000000000)(h:(((b>=1)->(decide (b<=gI a v))=(cZ v (a,b)))/\((¬b>=1)->(false)=(cZ v (a,b))))):Cq 28 [bB v,eG (a,b)] (Am.bool (cZ v (a,b))):=by
 by_cases c1:(b>=1)
 .have h:=h.1 c1;exact aA (aF.aI h) [kt (qT c1),kc [] (@acj (v) (a) zO)]
 .have h:=h.2 c1;exact aA (aF.aI h) [kf (qF c1)]
theorem jX v(a b:Int)(hv:v.length<=1000000000):Cq 28 [bB v,eG (a,b)] (bool (cZ v (a,b))) :=
 aa5 v a b hv (by simp only[cZ];grind)
end Go.bH
namespace Go.yU
open Go Go.Am Go.Proofs Go.eY
inductive CV where
 |mk (k n:Int) (s:yP) (l:List CV)
instance:Inhabited CV:=⟨.mk 0 0 .empty []⟩
def CV.k:CV->Int|.mk k _ _ _=>k
def CV.n:CV->Int|.mk _ n _ _=>n
def CV.s:CV->yP|.mk _ _ s _=>s
def CV.l:CV->List CV|.mk _ _ _ l=>l
mutual
def CV.cells:CV->List AV
 |.mk k n s l=>[int k,int n,str s,.sl 4 false (iB l)]
def iB:List CV->List (List AV)
 |[]=>[]
 |v::l=>v.cells::iB l
end
def aQ(v:CV):List AV:=[int v.k,int v.n,str v.s,.sl 4 false (iB v.l)]
theorem aa6 v:v.cells=aQ v:=by cases v;simp[CV.cells,aQ,CV.k,CV.n,CV.s,CV.l]
theorem lC:∀l:List CV,iB l=l.map aQ
 |[]=>by simp[iB]
 |v::l=>by simp[iB,lC l,aa6]
def val(v:CV):AV:=.agg (aQ v)
theorem fA l:(iB l).length=l.length:=by simp[lC]
theorem aa7 v:List.take v.length (List.drop 0 (iB v))=iB v:=by rw[<- fA v];simp
theorem rC(a b:yP):(ByteArray.toList a==ByteArray.toList b)=decide (a=b):=by
 rw[ByteArray.toList_eq,ByteArray.toList_eq];by_cases h:a=b
 .subst h;simp
 .rw [y20 h];refine beq_eq_false_iff_ne.2 fun e=>h (ByteArray.ext (Array.toList_inj.1 e))
abbrev rR(k n:Int)(s:yP)(l:List CV):AV:=.agg [int k,int n,str s,.sl 4 false (iB l)]
theorem val_mk k n(s:yP)l:val (.mk k n s l)=rR k n s l:=rfl
abbrev u8(c:UInt8):AV:=.lit (.int .u8 c.toNat)
def aa8(c:UInt8):List AV:=[u8 c]
def jl(l:List UInt8):List (List AV):=l.map aa8
def Cy(l:List UInt8):AV:=.sl 1 false (jl l)
theorem eu l:(jl l).length=l.length:=by simp[jl]
theorem j5(s:yP):∀c∈s.data.toList.map (fun c=>[AV.lit (Value.int IntKind.u8 c.toNat)]),AV.aM [] c=true:=by
 intro c hc;obtain⟨d,_,rfl⟩:=yG.1 hc;rfl
theorem jk(s:yP):∀c∈s.data.toList.map (fun c=>[AV.lit (Value.int IntKind.u8 c.toNat)]),c.all AV.fJ=true:=by
 intro c hc;obtain⟨d,_,rfl⟩:=yG.1 hc;rfl
theorem eD(s:yP):s.data.toList.length=s.size:=rfl
theorem SG a b:jl a++jl b=jl (a++b):=by simp[jl]
theorem iC v:∀c∈jl v,c.all AV.fJ=true:=by
 intro c hc;obtain⟨d,_,rfl⟩:=yG.1 hc;rfl
theorem dw v:∀c∈jl v,AV.aM [] c=true:=by
 intro c hc;obtain⟨d,_,rfl⟩:=yG.1 hc;rfl
abbrev u64(n:Nat):AV:=.lit (.int .u64 n)
end Go.yU
namespace Go.bV
open Go Go.Am Go.Proofs Go.eY Go.bH Go.yU
structure OP where
 dv:Int
 sq:Int
 tm:Int
 cx:List D
 pk:Int
 pn:yP
 kd:Int
 f1:Int
 f2:Int
 f3:Int
 t1:Int
 t2:Int
 t3:Int
 ky:yP
 vl:yP
 n:Int
 on:Bool
 deriving DecidableEq
def jy(o:OP):List AV:=[int o.dv,int o.sq,int o.tm,bB o.cx,int o.pk,str o.pn,int o.kd,int o.f1,int o.f2,int o.f3,int o.t1,int o.t2,int o.t3,str o.ky,str o.vl,int o.n,bool o.on]
def op(o:OP):AV:=.agg (jy o)
def Ki(o:OP)(k:Int):AV:=.agg [int o.dv,int o.sq,int o.tm,bB o.cx,int o.pk,str o.pn,int k,int o.f1,int o.f2,int o.f3,int o.t1,int o.t2,int o.t3,str o.ky,str o.vl,int o.n,bool o.on]
theorem ag3(o:OP)k(h:o.kd=k):Ki o k=op o:=by subst h;rfl
abbrev oO(a b c:Int):AV:=.agg [int a,int b,int c]
def JM(a b c:Int):Bool:=decide (a>=0)&&decide (a<512)&&decide (b>=1)&&decide (b<=1048576)&&decide (c>=0)&&decide (c<=63)
def iD(o:OP)(a b c:Int):Bool:=JM a b c&&(cZ o.cx (a,b)||(decide (a=o.dv)&&decide (b<o.sq)))
theorem adS(o:OP)(a b c:Int)(hc:o.cx.length<=1000000000)(h:(((a<0)->(false)=(iD o a b c))/\((¬a<0)->(((a>=512)->(false)=(iD o a b c))/\((¬a>=512)->(((b<1)->(false)=(iD o a b c))/\((¬b<1)->(((b>1048576)->(false)=(iD o a b c))/\((¬b>1048576)->(((c<0)->(false)=(iD o a b c))/\((¬c<0)->(((c>63)->(false)=(iD o a b c))/\((¬c>63)->((((cZ o.cx (a,b))=true)->(true)=(iD o a b c))/\(((cZ o.cx (a,b))=false)->(((a=o.dv)->(decide (b<o.sq))=(iD o a b c))/\((¬a=o.dv)->(false)=(iD o a b c)))))))))))))))))):Cq 300 [op o,oO a b c] (Am.bool (iD o a b c)):=by
 by_cases c1:(a<0)
 .have h:=h.1 c1;exact aA (aF.aI h) [kt (qT c1),kO,kO,kO,kO,kO]
 .have h:=h.2 c1;let l1:List fP:=[kf (qF c1)];by_cases c2:(a>=512)
  .have h:=h.1 c2;exact aA (aF.aI h) (l1++[kt (qT c2),kO,kO,kO,kO])
  .have h:=h.2 c2;let l2:List fP:=l1++[kf (qF c2)];by_cases c3:(b<1)
   .have h:=h.1 c3;exact aA (aF.aI h) (l2++[kt (qT c3),kO,kO,kO])
   .have h:=h.2 c3;let l3:List fP:=l2++[kf (qF c3)];by_cases c4:(b>1048576)
    .have h:=h.1 c4;exact aA (aF.aI h) (l3++[kt (qT c4),kO,kO])
    .have h:=h.2 c4;let l4:List fP:=l3++[kf (qF c4)];by_cases c5:(c<0)
     .have h:=h.1 c5;exact aA (aF.aI h) (l4++[kt (qT c5),kO])
     .have h:=h.2 c5;let l5:List fP:=l4++[kf (qF c5)];by_cases c6:(c>63)
      .have h:=h.1 c6;exact aA (aF.aI h) (l5++[kt (qT c6)])
      .have h:=h.2 c6;have bS:=(@Go.bH.jX o.cx (a) (b) zO);let l6:List fP:=l5++[kf (qF c6),kc [] bS];rcases y00 ((cZ o.cx (a,b)))with c7|c7
       .have h:=h.1 c7;exact aA (aF.aI h) (l6++[kt c7])
       .have h:=h.2 c7;by_cases c8:(a=o.dv)
        .have h:=h.1 c8;exact aA (aF.aI h) (l6++[kf c7,kt (nW.2 c8)])
        .have h:=h.2 c8;exact aA (aF.aI h) (l6++[kf c7,kf (qN.2 c8)])
theorem Er(o:OP)a b c(hc:o.cx.length<=1000000000):Cq 300 [op o,oO a b c] (bool (iD o a b c)):=adS o a b c hc (by
 unfold iD JM
 repeat' (first|refine And.intro ?_ ?_|intro _)
 all_goals grind)
def mh(o:OP):Bool:=(decide (o.f1=0)&&decide (o.f2=0)&&decide (o.f3=0))||iD o o.f1 o.f2 o.f3
theorem aa9 o(hc:o.cx.length<=1000000000)(h:((((o.f1==0&&(o.f2==0&&o.f3==0))=true)->(true)=(mh o))/\(((o.f1==0&&(o.f2==0&&o.f3==0))=false)->(iD o o.f1 o.f2 o.f3)=(mh o)))):Cq 298 [op o] (Am.bool (mh o)):=by
 rcases y00 ((o.f1==0&&(o.f2==0&&o.f3==0)))with c1|c1
 .have h:=h.1 c1;exact aA (aF.aI h) [kt c1]
 .have h:=h.2 c1;exact aA (aF.aI h) [kf c1,kc [] (@Er (o) o.f1 o.f2 o.f3 zO)]
theorem Qp o(hc:o.cx.length<=1000000000):Cq 298 [op o] (bool (mh o)):=aa9 o hc (by
 unfold mh;grind)
def dO(o:OP):Int->Bool
 |1=>mh o&&decide ((o.vl.size:Int)<=4096)
 |2=>iD o o.f1 o.f2 o.f3
 |3=>decide ((o.ky.size:Int)<=64)&&decide ((o.vl.size:Int)<=4096)
 |4=>decide ((o.ky.size:Int)<=64)
 |5=>decide (o.n>=-1125899906842624)&&decide (o.n<=1125899906842624)
 |6=>mh o&&decide ((o.vl.size:Int)>=1)&&decide ((o.vl.size:Int)<=64)
 |7=>iD o o.f1 o.f2 o.f3&&decide (o.n>=1)&&decide (o.n<=64-o.f3)
 |8=>iD o o.f1 o.f2 o.f3&&iD o o.t1 o.t2 o.t3&&decide (o.n>=0)&&decide (o.n<=15)
 |_=>false
theorem ap0 o(hc:o.cx.length<=1000000000)(h:((((mh o)=true)->(decide ((↑(ByteArray.size o.vl):Int)<=4096))=(dO o 1))/\(((mh o)=false)->(false)=(dO o 1)))):Cq 297 [op o] (Am.bool (dO o 1)):=by
 have bS:=(@Qp (o) zO);rcases y00 ((mh o))with c1|c1
 .have h:=h.1 c1;exact aA (aF.aI h) [kc [] bS,kt c1]
 .have h:=h.2 c1;exact aA (aF.aI h) [kc [] bS,kf c1]
theorem ap1 o(hc:o.cx.length<=1000000000)(h:True):Cq 299 [op o] (Am.bool (dO o 2)):=by
 exact aj [kc [] (@Er (o) o.f1 o.f2 o.f3 zO)]
theorem ap2 o(h:((((↑(ByteArray.size o.ky):Int)<=64)->(decide ((↑(ByteArray.size o.vl):Int)<=4096))=(dO o 3))/\((¬(↑(ByteArray.size o.ky):Int)<=64)->(false)=(dO o 3)))):Cq 301 [op o] (Am.bool (dO o 3)):=by
 by_cases c1:((↑(ByteArray.size o.ky):Int)<=64)
 .have h:=h.1 c1;exact aA (aF.aI h) [kt (qT c1)]
 .have h:=h.2 c1;exact aA (aF.aI h) [kf (qF c1)]
theorem ap3 o(h:True):Cq 302 [op o] (Am.bool (dO o 4)):=by
 exact aj []
theorem ap4 o(h:(((o.n>=-1125899906842624)->(decide (o.n<=1125899906842624))=(dO o 5))/\((¬o.n>=-1125899906842624)->(false)=(dO o 5)))):Cq 303 [op o] (Am.bool (dO o 5)):=by
 by_cases c1:(o.n>=-1125899906842624)
 .have h:=h.1 c1;exact aA (aF.aI h) [kt (qT c1)]
 .have h:=h.2 c1;exact aA (aF.aI h) [kf (qF c1)]
theorem ap5 o(hc:o.cx.length<=1000000000)(h:((((mh o)=true)->((((↑(ByteArray.size o.vl):Int)>=1)->(decide ((↑(ByteArray.size o.vl):Int)<=64))=(dO o 6))/\((¬(↑(ByteArray.size o.vl):Int)>=1)->(false)=(dO o 6))))/\(((mh o)=false)->(false)=(dO o 6)))):Cq 304 [op o] (Am.bool (dO o 6)):=by
 have bS:=(@Qp (o) zO);rcases y00 ((mh o))with c1|c1
 .have h:=h.1 c1;by_cases c2:((↑(ByteArray.size o.vl):Int)>=1)
  .have h:=h.1 c2;exact aA (aF.aI h) [kc [] bS,kt c1,kt (qT c2)]
  .have h:=h.2 c2;exact aA (aF.aI h) [kc [] bS,kt c1,kf (qF c2)]
 .have h:=h.2 c1;exact aA (aF.aI h) [kc [] bS,kf c1,kY]
theorem ap6 o(hc:o.cx.length<=1000000000)(h3 : -9223372036854775808<=o.f3/\o.f3<9223372036854775808)(h:((((iD o o.f1 o.f2 o.f3)=true)->(((o.n>=1)->(decide (o.n<=IntKind.wrap IntKind.i64 (64-o.f3)))=(dO o 7))/\((¬o.n>=1)->(false)=(dO o 7))))/\(((iD o o.f1 o.f2 o.f3)=false)->(false)=(dO o 7)))):Cq 305 [op o] (Am.bool (dO o 7)):=by
 have bS:=(@Er (o) o.f1 o.f2 o.f3 zO);rcases y00 ((iD o o.f1 o.f2 o.f3))with c1|c1
 .have h:=h.1 c1;by_cases c2:(o.n>=1)
  .have h:=h.1 c2;exact aA (aF.aI h) [kc [] bS,kt c1,kt (qT c2)]
  .have h:=h.2 c2;exact aA (aF.aI h) [kc [] bS,kt c1,kf (qF c2)]
 .have h:=h.2 c1;exact aA (aF.aI h) [kc [] bS,kf c1,kY]
theorem ap7 o(hc:o.cx.length<=1000000000)(h:((((iD o o.f1 o.f2 o.f3)=true)->((((iD o o.t1 o.t2 o.t3)=true)->(((o.n>=0)->(decide (o.n<=15))=(dO o 8))/\((¬o.n>=0)->(false)=(dO o 8))))/\(((iD o o.t1 o.t2 o.t3)=false)->(false)=(dO o 8))))/\(((iD o o.f1 o.f2 o.f3)=false)->(false)=(dO o 8)))):Cq 306 [op o] (Am.bool (dO o 8)):=by
 have bS:=(@Er (o) o.f1 o.f2 o.f3 zO);rcases y00 ((iD o o.f1 o.f2 o.f3))with c1|c1
 .have h:=h.1 c1;have fT:=(@Er (o) o.t1 o.t2 o.t3 zO);rcases y00 ((iD o o.t1 o.t2 o.t3))with c2|c2
  .have h:=h.1 c2;by_cases c3:(o.n>=0)
   .have h:=h.1 c3;exact aA (aF.aI h) [kc [] bS,kt c1,kc [] fT,kt c2,kt (qT c3)]
   .have h:=h.2 c3;exact aA (aF.aI h) [kc [] bS,kt c1,kc [] fT,kt c2,kf (qF c3)]
  .have h:=h.2 c2;exact aA (aF.aI h) [kc [] bS,kt c1,kc [] fT,kf c2,kY]
 .have h:=h.2 c1;exact aA (aF.aI h) [kc [] bS,kf c1,kY,kY]
theorem aoW o(hc:o.cx.length<=1000000000):Cq 297 [op o] (bool (dO o 1)):=ap0 o hc (by simp only[dO];grind)
theorem aoX o(hc:o.cx.length<=1000000000):Cq 299 [op o] (bool (dO o 2)):=ap1 o hc trivial
theorem aoY o:Cq 301 [op o] (bool (dO o 3)):=ap2 o (by simp only[dO];grind)
theorem aoZ o:Cq 302 [op o] (bool (dO o 4)):=ap3 o trivial
theorem ao0 o:Cq 303 [op o] (bool (dO o 5)):=ap4 o (by simp only[dO];grind)
theorem ao1 o(hc:o.cx.length<=1000000000):Cq 304 [op o] (bool (dO o 6)):=ap5 o hc (by simp only[dO];grind)
theorem WE{o}{a b c}(h:iD o a b c=true):0<=c/\c<=63:=by
 unfold iD JM at h;grind
theorem ao2 o(hc:o.cx.length<=1000000000)(h3 : -9223372036854775808<=o.f3/\o.f3<9223372036854775808):Cq 305 [op o] (bool (dO o 7)):=ap6 o hc h3 (by
 simp only[dO];refine⟨fun h=>?_,fun h=>by simp[h]⟩;have:=WE h;rw[Am.Gx zO zO];grind)
theorem ao3 o(hc:o.cx.length<=1000000000):Cq 306 [op o] (bool (dO o 8)):=ap7 o hc (by
 simp only[dO];grind)
end Go.bV
namespace Go.Am
open Go
theorem Fh{α}:∀(m:Ask α)(w:World),w.drawn<=(w.ask m).2.drawn
 |.done a,w=>yM
 |.ask what range k,w=>by
  unfold World.ask;simp only;split
  .exact Fh (k 0) w
  .exact y10 (Nat.le_succ w.drawn) (Fh (k _) { w with drawn:=w.drawn+1 })
theorem Lp(w:World)c:w.drawn<=(w.sys c).2.drawn:=by
 have h:=Fh (Kernel.perform c w.os) w;unfold World.sys;grind
variable {w:World}
theorem Gn{p}{a}{u}{k}{v}{at_}{r}(h:w.viewStore p a u k v at_ = .ok r):r.1.drawn=w.drawn:=by
 unfold World.viewStore at h;simp only[bind,Except.bind,pure,Except.pure,MonadExceptOf.throw]at h
 repeat' first
  |(cases h;done)
  |(cases h;rfl)
  |split at h
theorem JG{p}{a}{v}{at_}{r}(h:w.farStore p a v at_ = .ok r):r.1.drawn=w.drawn:=by
 unfold World.farStore at h;split at h
 .split at h
  .rename_i hv;cases h;exact Gn hv
  .cases h
 .cases h
variable {α:Type}
def _root_.Go.Result.wo:Result α->World
 |.ok _ w=>w
 |.halt _ w=>w
theorem NN(w:World)a(n:Nat):(w.freeze a n).drawn=w.drawn:=by
 unfold World.freeze;grind
theorem Lr{α}p:∀(m:Sem α)w,w.drawn<=(m.run p w).wo.drawn:=by
 intro m
 induction m with
 |pure a=>exact fun w=>yM
 |load m a k ih =>
  intro w;simp only[Sem.run];split
  .exact ih _ w
  .split
   .exact ih _ w
   .exact yM
 |store m a v k ih =>
  intro w;have key:∀r:Result α,r=(match w.cell? a with
   |some _=>if w.frozen? a then .halt (.unsupported (.unsafePointer "a write to bytes that a string shares")) w else k.run p (w.setCell a v)
   |none=>match w.farStore p a v (m == .atomic)with
    |.ok (w,_)=>k.run p w
    |.error h=>.halt h w)->w.drawn<=r.wo.drawn:=by
   intro r hr;split at hr
   .split at hr
    .rw [hr];exact yM
    .rw [hr];exact ih (w.setCell a v)
   .split at hr
    .rename_i hf;have:=JG hf;grind
    .rw [hr];exact yM
  cases v with
  |agg _=>exact yM
  |tuple _=>exact yM
  |_=>exact key _ rfl
 |new o k ih=>exact fun w=>ih _ { w with heap:=w.heap.push o }
 |shape r k ih=>exact fun w=>ih _ w
 |freeze a n k ih=>intro w;have:=ih (w.freeze a n);rw[NN]at this;exact this
 |frozen a k ih=>exact fun w=>ih _ w
 |getObj r k ih =>
  intro w;simp only[Sem.run];split
  .exact yM
  .exact ih _ w
  .exact yM
 |setObj r o k ih =>
  intro w;simp only[Sem.run];split
  .exact yM
  .exact ih { w with heap:=w.heap.setIfInBounds r o }
  .exact yM
 |choose q k ih =>
  simp only[Sem.run];grind
 |sys c k ih=>exact fun w=>y10 (Lp w c) (ih _ _)
 |program k ih=>exact fun w=>ih _ w
 |mark m k ih=>exact fun w=>ih w
 |halt h=>exact fun w=>yM
theorem iE{α}{p}{m:Sem α}{w w'}{a}(h:m.run p w = .ok a w'):w.drawn<=w'.drawn:=by
 have:=Lr p m w;rw[h]at this;exact this
theorem jV{α}{p}{m:Sem α}{w w'}{a}(h:m.run p w = .halt a w'):w.drawn<=w'.drawn:=by
 have:=Lr p m w;rw[h]at this;exact this
def JQ:GStep->World
 |.go _ w _=>w
 |.comm _ _ _ _ w _=>w
 |.spawn _ _ w _=>w
 |.count _ w _=>w
 |.timer _ _ w _=>w
 |.alone _ _ w _=>w
 |.newcoro _ _ _ w _=>w
 |.coroswitch _ _ _ w _=>w
 |.collect _ w _=>w
 |.watch _ w _=>w
 |.ended _ w _=>w
theorem sJ es(s:GStep):JQ (s.after es)=JQ s:=by cases s<;>rfl
theorem Ae p(main:Bool)fr(cs:List Frame)dy(v:Value)w:(JQ (doReturn p main fr cs dy v w)).drawn=w.drawn:=by
 unfold doReturn;repeat' first
  |rfl
  |split
theorem SH w(fd:Nat)(t:yP)o:w.drawn<=(JQ (endWith w fd t o)).drawn:=by
 have h:=Lp w (.write fd t);unfold endWith;generalize w.sys (.write fd t)=x at h;obtain⟨r,w'⟩:=x;cases r<;>simp only[]<;>first|exact h|(split<;>exact h)
theorem Af p(fr:Frame)v(w:World):(JQ (endPrinting p fr v w)).drawn=w.drawn:=by
 unfold endPrinting;simp only;split<;>rfl
theorem FX p(fr:Frame)(cs:List Frame)dy(m:String)w:w.drawn<=(JQ (endFatal p fr cs dy m w)).drawn:=by
 unfold endFatal;simp only;split
 .rename_i h;exact iE h
 .rename_i h;exact jV h
 .rename_i h;exact jV h
theorem SI p(fr:Frame)d(f:Fatal)w:w.drawn<=(JQ (writeOn p fr d f w)).drawn:=by
 unfold writeOn;simp only;split
 .exact yM
 .split
  all_goals
   rename_i h;have h1:=yJ Prod.fst h;simp only[Sem.runT_fst]at h1
   first
    |exact iE h1
    |exact jV h1
theorem ahH p(fr:Frame)(d:Dying)w:w.drawn<=(JQ (die p fr d w)).drawn:=by
 unfold die;split
 .grind [SI]
 .split
  .split
   .exact yM
   .grind [SH]
  .split
   .exact yM
   .split
    .rename_i h;exact iE h
    .rename_i h;exact jV h
   .rw [sJ];rw[Sem.runT_fst];split
    .rename_i h;exact iE h
    .rename_i h;exact iE h
    .rename_i h;exact jV h
    .rename_i h;rw[Af];exact jV h
    .exact yM
   .exact yM
theorem abb{c}[Decidable c]{a b}{n}(ha:n<=(JQ a).drawn)(hb:n<=(JQ b).drawn):n<=(JQ (if c then a else b)).drawn:=by
 split<;>assumption
theorem Gp p(fr:Frame)(cs:List Frame)dy(d:Deferred)w:w.drawn<=(JQ (callDeferred p fr cs dy d w)).drawn:=by
 refine abb yM ?_
 .simp only[sJ,Sem.runT_fst];cases h:(invoke d.target d.args).run p w with
  |ok a w' =>
   have:=iE h;cases a<;>(try simp only[])<;>first
    |exact this
    |(rename_i x;cases x<;>exact this)
    |(rename_i x _;cases x<;>exact this)
    |(repeat' first|exact this|split)
  |halt a w' =>
   have:=jV h;cases a<;>(try simp only[])<;>first
    |exact this
    |exact y10 this (FX _ _ _ _ _ _)
theorem WG p(main:Bool)fr(cs:List Frame)dy(w:World):w.drawn<=(JQ (unwind p main fr cs dy w)).drawn:=by
 unfold unwind;split
 .simp only[Sem.runT_fst];split
  .rename_i h;exact iE h
  .rename_i h;exact jV h
 .grind [Gp]
 .split
  .exact yM
  .split
   .exact yM
   .split
    .exact yM
    .split
     .split
      .exact yM
      .split
       .rename_i h;exact iE h
       .rename_i h;exact jV h
       .rename_i h;exact jV h
     .split
      .rw [Af];simp
      .exact yM
  .split
   .rw [Ae];simp
   .simp only[sJ,Sem.runT_fst];split
    .rename_i h;rw[Ae];exact iE h
    .rename_i h;exact jV h
    .rename_i h;exact jV h
theorem abd p(fr:Frame)(cs:List Frame)dy(g:Nat)w:w.drawn<=(JQ (early p fr cs dy g w)).drawn:=by
 have hh:∀a w',Sem.run p (choose (.early g)) w = .ok a w'->w.drawn<=w'.drawn:=fun _ _ h=>iE h;have hH:∀a w',Sem.run p (choose (.early g)) w = .halt a w'->w.drawn<=w'.drawn:=fun _ _ h=>jV h;unfold early;simp only
 repeat' first
  |exact yM
  |(have:=hh _ _ (by assumption);exact this)
  |(have:=hH _ _ (by assumption);exact this)
  |split
theorem JH p(b:Bool)fr(cs:List Frame)dy(m:Sem Next)w:w.drawn<=(JQ (stepG.apply p b fr cs dy m w)).drawn:=by
 unfold stepG.apply;simp only[sJ];have e:∀es:Array Event,(if b=true then m.runT p w #[]else(m.run p w,#[])).1=m.run p w:=by
  intro _;split
  .simp
  .rfl
 rw[e #[]];cases h:m.run p w with
 |ok a w' =>
  have:=iE h;cases a<;>(try simp only[])<;>first
   |exact this
   |(repeat' first|exact this|split)
 |halt a w' =>
  have:=jV h;cases a<;>(try simp only[])<;>first
   |exact this
   |exact y10 this (FX _ _ _ _ _ _)
   |(rename_i u;cases u<;>first|exact this|exact y10 this (abd _ _ _ _ _ _))
theorem adT p(b:Bool)fr(cs:List Frame)dy(w:World):w.drawn<=(JQ (stepG.oper p b fr cs dy w)).drawn:=by
 unfold stepG.oper;split
 .exact yM
 .grind [JH]
theorem adU{o:Option α}{a}{f}{n}(ha:n<=(JQ a).drawn)(hb:∀x,n<=(JQ (f x)).drawn):n<=(JQ (o.elim a f)).drawn:=by
 cases o
 .exact ha
 grind
theorem adV(p:Program)(main:Bool)(b:Bool)(fr:Frame)(cs:List Frame)(dy:Option Dying)(w:World):w.drawn<=(JQ (stepG.exec p main b fr cs dy w)).drawn:=by
 unfold stepG.exec;simp only;split
 all_goals repeat' first
  |with_reducible exact JH _ _ _ _ _ _ _
  |with_reducible exact adT _ _ _ _ _ _
  |with_reducible refine abb ?_ ?_
  |with_reducible refine adU ?_ ?_
  |intro _
  |(rw[sJ,Sem.runT_fst];split)
  |(rename_i h;rw[Ae];exact iE h)
  |(rename_i h;exact y10 (iE h) (JH _ _ _ _ _ _ _))
  |split
  |exact yM
  |(rename_i h;exact iE h)
  |(rename_i h;exact jV h)
theorem abe p(main:Bool)g(w:World)b:w.drawn<=(JQ (stepG p main g w b)).drawn:=by
 unfold stepG;simp only;split
 .exact ahH _ _ _ _
 .grind [adV]
 .grind [WG]
theorem UL(p:Program)gs(rest:Rest)w:∀m',look p gs rest w = .next m'->w.drawn<=m'.world.drawn:=by
 intro m' h;unfold look at h;simp only[]at h;split at h
 .split at h
  .cases h
  .split at h
   .cases h
   .split at h
    .rename_i hr;have:=iE hr;grind
    .cases h
    .cases h
 .cases h
theorem JI p(rest:Rest)gs(i:Nat)(g:Goroutine)cases(blocking:Bool)shape(w:World)m'(h:(communicate p rest gs i g cases blocking shape w).1 = .next m'):w.drawn<=m'.world.drawn:=by
 unfold communicate at h;simp only[]at h;have wa:∀w',waitingAt rest cases w=some w'->w'.drawn=w.drawn:=by
  intro w' hw;unfold waitingAt at hw;split at hw
  .split at hw
   .cases hw;rfl
   .cases hw
  .cases hw;rfl
 split at h
 .cases h
 .split at h
  .split at h
   .split at h
    .rename_i hw;cases h;exact Nat.le_of_eq (wa _ hw).symm
    .cases h
   .cases h;exact yM
  .split at h
   .cases h
   .rename_i hp;have hq:=iE hp;split at h
    .split at h
     .rename_i hb;have:=jV hb;cases h;exact y10 hq this
     .cases h
    .cases h;exact hq
    .cases h;exact hq
    .split at h
     .cases h;exact hq
     .split at h
      .rename_i hb;have:=iE hb;cases h;exact y10 hq this
      .cases h
    .cases h;exact hq
    .cases h;exact hq
    .cases h
theorem abf(p:Program)m(k:Nat)m'(h:serve p m k = .next m'):m'.world.drawn=m.world.drawn:=by
 unfold serve at h;grind
theorem Ls m(k:Nat)t(a b:Nat):(retime m k t a b).2.world.drawn=m.world.drawn:=by
 unfold retime;split
 .rename_i h;split at h
  .unfold drain at h;grind
  grind
theorem SK(m:Machine)op(v:Value)m'(h:timerOp m op = .ok (v,m')):m'.world.drawn=m.world.drawn:=by
 have al2:∀var m1,timerOp.opened m var=some m1->m1.world.drawn=m.world.drawn:=by
  intro var m1 h;unfold timerOp.opened at h;grind
 have na:∀var f d ,(∀k t,(f k t).2.world.drawn=d)->timerOp.named m var f = .ok (v,m')->m'.world.drawn=d:=by
  intro var f d hf h;unfold timerOp.named at h;grind
 unfold timerOp at h;split at h
 .split at h
  .cases h;rfl
  grind
 .exact na _ _ _ (fun k t=>Ls _ _ _ _ _) h
 .split at h
  .rename_i ho;refine(na _ _ _ (fun k t=>Ls _ _ _ _ _) h).trans (al2 _ _ ho)
  .cases h
 .cases h;rfl
theorem adW(p:Program)m m'(i:Nat)b(h:(runT p m i b).1 = .next m'):m.world.drawn<=m'.world.drawn:=by
 simp only[runT]at h
 revert h
 generalize m.gs.swapAt! _ _=gg;have hs:=abe p (i==0) gg.1 m.world b
 revert hs
 generalize stepG p _ gg.1 m.world b=s;intro hs h;cases s<;>simp only[JQ]at hs<;>simp only[]at h
 all_goals first
  |(simp at h;done)
  |exact y10 hs (JI _ _ _ _ _ _ _ _ _ _ h)
  |exact y10 hs (UL _ _ _ _ _ h)
  |(simp only[Stepped.next.injEq]at h;subst h;exact hs)
  |skip
 .grind
 .split at h
  .rename_i ht;cases h;exact y10 hs (Nat.le_of_eq (SK _ _ _ _ ht).symm)
  .split at h
   .rename_i hd;cases h;simp only[endThrow,dieOf]at hd;cases hd;exact hs
   .cases h
  .cases h
  .cases h
 .split at h
  .cases h;exact hs
  .split at h
   .rename_i hd;cases h;simp only[endThrow,dieOf]at hd;cases hd;exact hs
   .cases h
  .cases h
variable {s:GStep}
theorem adX:∀ (m':Machine) (o:Array MemOp),(match s with
          |.ended o w _=>Move.machine (.ended o w) #[]
          |_=>.machine (.ended (.stuck "" "") default) #[]) = .machine (.next m') o->False:=by
 grind
theorem abg:∀ (m':Machine) (i:Nat),(match s with
          |.ended o w _=>Move.machine (.ended o w) #[]
          |_=>.machine (.ended (.stuck "" "") default) #[]) = .goroutine m' i->False:=by
 grind
theorem JJ(p:Program)(m:Machine):(∀m' i,askOn p m = .goroutine m' i->m.world.drawn<=m'.world.drawn)/\∀m' o,askOn p m = .machine (.next m') o->m.world.drawn<=m'.world.drawn:=by
 unfold askOn;simp only[];split
 .simp
 .rename_i h0;have d0:=iE h0;split
  .refine ⟨nofun,fun m' o h=>?_⟩;simp only[Move.machine.injEq]at h;have:=abf _ _ _ _ h.1;rw[this];exact d0
  .split
   .split
    .refine ⟨nofun,fun m' o h=>?_⟩;cases h;exact d0
    .split
     .refine ⟨nofun,fun m' o h=>?_⟩;cases h;exact d0
     .exact ⟨fun _ _ h=>(abg _ _ h).elim,fun _ _ h=>(adX _ _ h).elim⟩
   .split
    .split
     .simp
     .rename_i h2;have d2:=y10 d0 (iE h2);split
      .exact ⟨fun _ _ h=>(by cases h;exact d2),nofun⟩
      .split
       .exact ⟨nofun,nofun⟩
       .rename_i h3;have d3:=y10 d2 (iE h3);exact⟨fun _ _ h=>(by cases h;exact d3),nofun⟩
    .split
     .exact ⟨nofun,nofun⟩
     .rename_i h1;have d1:=y10 d0 (iE h1);split
      .exact ⟨nofun,nofun⟩
      .rename_i h2;have d2:=y10 d1 (iE h2);split
       .exact ⟨fun _ _ h=>(by cases h;exact d2),nofun⟩
       .split
        .exact ⟨nofun,nofun⟩
        .rename_i h3;have d3:=y10 d2 (iE h3);exact⟨fun _ _ h=>(by cases h;exact d3),nofun⟩
     .rename_i h1;have d1:=y10 d0 (iE h1);refine⟨nofun,fun m' o h=>?_⟩;cases h;exact d1
     .rename_i h1;have d1:=y10 d0 (iE h1);split
      .exact ⟨nofun,nofun⟩
      .rename_i h2;have d2:=y10 (show m.world.drawn<=(Machine.advanceTo { m with world:=_ } _).world.drawn from d1) (iE h2);split
       .exact ⟨fun _ _ h=>(by cases h;exact d2),fun _ _ h=>(by cases h)⟩
       .split
        .exact ⟨nofun,nofun⟩
        .rename_i h3;have d3:=y10 d2 (iE h3);exact⟨fun _ _ h=>(by cases h;exact d3),nofun⟩
theorem abh(p:Program)m:(∀m' i,ask p m = .goroutine m' i->m.world.drawn<=m'.world.drawn)/\∀m' o,ask p m = .machine (.next m') o->m.world.drawn<=m'.world.drawn:=by
 unfold ask;split
 .split
  .exact ⟨nofun,nofun⟩
  .rename_i h0;have d0:=iE h0;split
   .rename_i hl;have d1:=y10 d0 (UL _ _ _ _ _ hl);have:=JJ p ‹Machine›;grind
   .grind
  .rename_i h0;have d0:=iE h0;have:=JJ p { m with world:=‹World› };grind
 .exact JJ p m
theorem UM(p:Program)m:(∀m' i,move p m = .goroutine m' i->m.world.drawn<=m'.world.drawn)/\∀m' o,move p m = .machine (.next m') o->m.world.drawn<=m'.world.drawn:=by
 unfold move;split
 .grind
 .split
  .split
   .simp
   .exact abh p _
  .exact abh p _
theorem adY{p}{m m'}(h:step p m = .next m'):m.world.drawn<=m'.world.drawn:=by
 unfold step stepT at h;split at h
 .rename_i hm;exact y10 ((UM p m).1 _ _ hm) (adW _ _ _ _ _ h)
 .rename_i hm;subst h;exact(UM p m).2 _ _ hm
theorem Qq{p}{m m'}(h:Steps p m m'):m.world.drawn<=m'.world.drawn:=by
 obtain⟨n,hn⟩:=h
 induction n generalizing m with
 |zero=>simp only[runN]at hn;grind
 |succ n ih =>
  simp only[runN]at hn;split at hn
  .rename_i hs;exact y10 (adY hs) (ih hn)
  grind
theorem _root_.Go.Calls.drawn{P:Program}{f:FuncId}{args:Array Value}{w:World}{R:Ending->World->Prop}(h:Calls P f args w R):Calls P f args w fun e w'=>R e w'/\(e = .outgrown\/w.drawn<=w'.drawn):=by
 intro cs;obtain⟨e,w',fr,r,s,x⟩:=h cs;refine⟨e,w',fr,⟨r,?_⟩,s,x⟩;cases e with
 |returned v=>exact .inr (Qq s)
 |panicked c=>exact .inr (Qq s)
 |outgrown=>exact .inl rfl
section
variable {P:Program} {G:Nat->Option (List AV)}
theorem FW{V}{b j}{cells}{x y}{z}{H1}{ps}(hG:aD G V)(hb:V.H[b]?=some (.box cells))(Mf:H1[b]?=some (.box cells))(hj:cells[j]?=some x)(ha:mR V.H x z=some (y,H1,ps))(dG:gZ ps):∃V':View,V'.w=V.w/\V'.H=H1.set b (.box (cells.set j y))/\Step V V'/\aD G V':=by
 obtain⟨t,vs,h1,h2⟩:=hG.eP b _ hb;have JN:=(yC.1 hj).1;have hx:dI V x (vs.getD j undef):=by
  have:=h2.2 j JN;grind
 obtain⟨V1,k1,k2,k3,k4,k5⟩:=sG ha dG hG hx;have NW:=k4.eP b _ (by rw[k2];exact Mf);obtain⟨t',vs',o1,o2⟩:=NW;have hρ:V1.ρ b=V.ρ b:=by
  have bg:=(yC.1 hb).1;have:=k3.eP b bg;unfold dL at this;grind
 have hev:vs'=vs:=by
  grind
 subst hev;have hr:bR V1 (cells.set j y) vs':=by
  have:=o2.set j k5;have e:vs'.set j (vs'.getD j undef)=vs':=by
   apply ext_getElem?;grind
  grind
 obtain⟨V2,l1,l2,l3,l4⟩:=wE  (ou:=.box (cells.set j y))  k4 (by rw[k2];exact Mf) rfl o1 o1 rfl (fun _ _=>rfl) rfl rfl rfl rfl trivial (fun V' hw hs=>⟨t',vs',by rw[hw];exact o1,hr.step hs⟩);exact⟨V2,l1.trans k1,by rw[l2,k2],k3.trans l3,l4⟩
theorem bN.ahI{r}{n0}{c}{s s'}{ex}{b j}{cells}{x y}{z}{H1}{ps}(h:bN P G r n0 c s ex s')(hb:s'.H[b]?=some (.box cells))(Mf:H1[b]?=some (.box cells))(hj:cells[j]?=some x)(ha:mR s'.H x z=some (y,H1,ps))(dG:gZ ps):bN P G r n0 c s ex { aL:=s'.aL,H:=H1.set b (.box (cells.set j y)),dh:=s'.dh } :=
 fun V0 V a h0 k1 k2 k3=>eO.mono (h V0 V a h0 k1 k2 k3) fun _ _ _ hE=>by
  obtain⟨V1,rfl,l1,l2,l3,l4⟩:=hE;obtain⟨V2,a1,a2,a3,a4⟩:=FW l2 (l3.H▸hb) Mf hj (l3.H▸ha) dG;exact⟨V2,a1,l1.trans a3,a4,⟨l3.aL.step a3,a2,l3.dh.step a3⟩,l4.step a3⟩
end
variable {ps:List Prop}{ex:bF}{s':St}{c:Code}{n0:Nat}{r:Option Nat}
variable {y:AV}{t:Nat}{aL:List AV}
section
variable {P:Program} {G:Nat->Option (List AV)}
theorem C8:([]:List (List AV))=[]:=rfl
theorem ak.wY{f}{H H'}{out}{sz}{tg}(h0:∀cap,ak P G f [.lit (.slice none 0 cap)] H out H')(h1:∀a cap,ak P G f [.lit (.slice (some a) 0 cap)] H out H'):ak P G f [.sl sz tg []] H out H':=by
 intro V vs hH hG hr;obtain⟨v,rfl⟩:∃v,vs=[v]:=by
  have:=hr.1
  match vs,this with
  |[v],_=>exact⟨v,rfl⟩
 have hx:=jF hr.head;obtain⟨A,cap,rfl,_⟩:=zU hx;cases A with
 |none=>exact h0 cap V _ hH hG (.cons (.pure _ _ (.lit _)) .nil)
 |some a=>exact h1 a cap V _ hH hG (.cons (.pure _ _ (.lit _)) .nil)
theorem eF.setAt{V V':View}{a:Act}(h:eF V aL a)(hs:Step V V')(hy:dI V' y (a.tmps.getD t undef)):eF V' (aL.set t y) a:=by
 have hk:=h.step hs;have hl:=hk.1;refine⟨by rw[length_set];exact hl,fun j hj=>?_⟩;rw[length_set]at hj;by_cases e:j=t
 .subst e;rw[yB,getElem?_set_self hj];have:a.tmps.toList.getD j undef=a.tmps.getD j undef:=by
   rw[yB,Array.getD_eq_getD_getElem?,Array.getElem?_toList]
  rw[this];exact hy
 .rw [yB,getElem?_set_ne (Ne.symm e),<- yB];exact hk.2 j hj
theorem bN.aui{H H1:List ah}{dh:List ig}{x:AV}{z:List (List AV)}(hx:aL.getD t .aP=x)(ha:mR H x z=some (y,H1,ps))(dG:gZ ps)(h:bN P G r n0 c { aL:=aL.set t y,H:=H1,dh:=dh } ex s'):bN P G r n0 c { aL:=aL,H:=H,dh:=dh } ex s':=by
 intro V0 V a h0 fB hG dK;have hH:=dK.H;subst hH;have hr:=hx▸dK.aL.get t;obtain⟨V1,k1,k2,k3,k4,k5⟩:=sG ha dG hG hr;have:=h V0 V1 a h0 (fB.trans k3) k4 ⟨eF.setAt dK.aL k3 k5,k2,dK.dh.step k3⟩;rwa[k1]at this
theorem bN.auO{s s2:St}(aP:List Nat)(n:Nat)(hw:Bq n0 aP n s=some (s2,ps))(dG:gZ ps)(h:bN P G r n0 c s2 ex s'):bN P G r n0 c s ex s':=by
 intro V0 V a h0 fB hG dK;obtain⟨V2,l1,l2,l3,l4⟩:=kJ hw dG h0 fB hG dK;have:=h V0 V2 a h0 l2 l3 l4;rwa[l1]at this
theorem ak.afq{f}{g sz n}{xs z}{out}(hz:xs.take n=z)(hn:z.length=n)(hp:∀c∈z,c.all AV.fJ=true)(hf:out.Im=true)(hc:ak P G f [.sl sz false z] [] out []) :
 ak P G f [.aU 0 g 0 n] [.aN g sz false xs] out [.aN g sz true xs]:=by
 intro V vs hH hG hr;have TR:mR V.H (.aU 0 g 0 n) z=some (.sl sz false z,[.aN g sz true xs],[g=g,(xs.drop 0).take n=z,z.length=n,∀c∈z,c.all AV.fJ=true]):=by
  rw[hH];rfl
 obtain⟨v,rfl⟩:∃v,vs=[v]:=by
  have:=hr.1
  match vs,this with
  |[v],_=>exact⟨v,rfl⟩
 obtain⟨V1,k1,k2,k3,k4,k5⟩:=sG TR ⟨rfl,by exact hz,hn,hp,yO⟩ hG hr.head;have hx:bR V1 [.sl sz false z] [v]:=.cons k5 .nil;have vN:AV.aM [] [AV.sl sz false z]=true:=rfl;have r:=iX (NZ []) [AV.sl sz false z] vN;have:=ak.frame hc k4  nodup_nil zS rfl (fun i o ho=>by simp at ho) (fun i o ho=>by simp at ho) hx r.1.symm (r.2 _);rw[aS.Jq hf,k2,k1]at this;exact this.mono fun e w' ⟨V2,a1,a2,a3,a4,a5⟩=>⟨V2,a1,k3.trans a2,a3,a4,a5⟩
end
section
variable {P:Program} {G:Nat->Option (List AV)}
def Code.hd:Code->Code
 |.seq x _=>x
 |c=>c
def Code.tl:Code->Code
 |.seq _ y=>y
 |c=>c
def Code.Tf:Code->Code
 |.block _ c=>c
 |c=>c
def bn(P:Program)(G:Nat->Option (List AV))(r:Option Nat)(n0:Nat)(c:Code)(s s2:St):Prop :=
 ∀(V0 V:View)(a:Act)(K:Act->World->Prop)(Q:Exit->Act->World->Prop),V0.H.length=n0->Step V0 V->aD G V->jO V s a ->
  (∀V2 a2,Step V0 V2->aD G V2->jO V2 s2 a2->K a2 V2.w)->c.wpIn (fz r) 0 P (Exit.then K Q) a V.w
theorem NP{r}{n0}{c}{s s2}{ps}(bf:List bC)aP(n:Nat)(h:tJ P G r n0 c s bf aP n=some (s2,ps))(dG:gZ ps):bn P G r n0 c s s2:=by
 intro V0 V a K Q h0 hs hG dK next
 unfold tJ at h;split at h
 .rename_i s1 cK qs h1;split at h
  .rename_i s3 rs h2;cases h;obtain⟨hq,hr⟩:=dN.1 dG;refine Go.wpIn_mono (eT c h1 hq V0 V a h0 hs hG dK) ?_;refine A9.after fun V1 a1 k1 k2 k3=>?_;obtain⟨V2,l1,l2,l3,l4⟩:=kJ h2 hr h0 k1 k2 k3;grind
  .cases h
 .cases h
theorem bM{r}{n0}{c}{s s2}(l:List fP)aP(n:Nat)(h:tJ P G r n0 c s (mZ l) aP n=some (s2,jS l)):bn P G r n0 c s s2:=NP _ aP n h (nV l)
theorem bn.seq{r}{n0}{x y}{s s2}(h:bn P G r n0 x s s2){V0 V}{a}{Q}(h0:V0.H.length=n0)(hs:Step V0 V)(hG:aD G V)(dK:jO V s a)(next:∀V2 a2,Step V0 V2->aD G V2->jO V2 s2 a2->y.wpIn (fz r) 0 P Q a2 V2.w):(Code.seq x y).wpIn (fz r) 0 P Q a V.w:=Go.wpIn_seq (h V0 V a (fun a w=>y.wpIn (fz r) 0 P Q a w) Q h0 hs hG dK next)
theorem qg{ops}{Q}:∀{os1 os2}{r}{i}{aL}{H}{ds}{bf}{env'}{H'}{N9}{aT}{ps},
 vw P G r ops i os1 aL H ds bf=some (.normal,env',H',N9,aT,ps)->gZ ps->ops.toList.drop i=os1++os2->∀{V}{a},aD G V->V.H=H->eF V aL a->dS V ds a.defers ->
 (∀V' a',Step V V'->aD G V'->V'.H=H'->eF V' env' a'->dS V' N9 a'.defers->wpOpsIn (fz r) 0 P ops Q ((List.range ops.size).drop (i+os1.length)) a' V'.w) ->
 wpOpsIn (fz r) 0 P ops Q ((List.range ops.size).drop i) a V.w
 |[],os2,r,i,aL,H,ds,bf,env',H',N9,aT,ps,h,dG,rW,V,a,hG,hH,he,hd,n1=>by
  simp only[vw,y09,Prod.mk.injEq]at h;obtain⟨_,rfl,rfl,rfl,_,_⟩:=h;exact n1 V a (Step.refl V) hG hH he hd
 |o::os,os2,r,i,aL,H,ds,bf,env',H',N9,aT,ps,h,dG,rW,V,a,hG,hH,he,hd,n1=>by
  have bg:i<ops.size:=by
   rcases y11 i ops.size with h|h
   .exact h
   .rw [y17 (by simpa using h)]at rW;cases rW
  have oL:i<ops.toList.length:=by simpa using bg
  rw[y01 oL,cons_append]at rW;injection rW with ho BP;have ho':ops[i]?=some o:=by rw[<- ho];simp[bg]
  have hr:(List.range ops.size).drop i=i::(List.range ops.size).drop (i+1):=by
   rw[y01 (by simpa using bg)];simp
  rw[hr,wpOpsIn_cons];have e1:i+(o::os).length=(i+1)+os.length:=by rw[yE];omega
  rw[e1]at n1;have key:=fun{k:Kind}{out:aS}{H1:List ah}{cK:List bC}{qs:List Prop}(fB:iP P G ops (iO ops i) aL H o bf=some (k,out,H1,cK,qs))(hq:gZ qs)=>qw (r:=r) (a:=a) ho' fB hq hG (fun t _=>he.get t) (.inl hH);unfold vw at h;split at h
  .rename_i c bA YS O6;split at h
   .rename_i d hdf;obtain⟨dd,k1,k2⟩:=Du (P:=P) hG he hdf o.type;unfold wpOpIn;rw[ho'];have hw:Region.wanted o (yielded ops a.tmps)=true:=by unfold Region.wanted;rw[YS]
    simp only[hw,if_true];refine⟨fun _ _=>trivial,?_⟩;have jJ:(execOp a.eval o).run P V.w = .ok (.defer dd) V.w:=by
     rw[execOp,bA];simp only[Sem.run_bind,k1,Result.andThen,Sem.run_pure]
    show o.uponIn _ _ P a _ Q ((Oper.semAt none a.eval o).run P V.w);rw[Oper.semAt_none,jJ,Oper.uponIn_defer,O6];exact qg h dG BP (a:={ a with defers:=dd::a.defers }) hG hH he (.cons k2 hd) n1
   .cases h
  .split at h
   .rename_i k x H1 cK qs fB;split at h
    .rename_i Xh O1 H2 ds1 mK rs Ir;cases h;obtain⟨hq,NU⟩:=dN.1 dG;obtain⟨h1,h2⟩:=key fB hq;refine h1 _ Q (fun V' v x' hx hs hG' Dq zq=>?_) (fun V' v x' hx=>by cases hx);cases hx;have NV:V'.H=H1:=by
      rw[Dq];split
      .rename_i hk;rw[hH,h2 (by rw[hk];simp)]
      .rfl
     have he':=(he.step hs).put o.dst zq;exact qg Ir NU BP hG' NV he' (by rw[nT];exact hd.step hs)
      (fun V2 a2 s2 g2 YT e2 d2=>n1 V2 a2 (hs.trans s2) g2 YT e2 d2)
    .cases h
   .rename_i k x H1 cK qs fB;cases h
   .cases h
theorem yX{ops}{r}{Q}{i}{rest}{o}{g}{args}{ts}{f}{fn}{us vs}{a}{w}{R}(ho:ops[i]?=some o)(YS:o.guard=none)(bA:o.op = .call { callee:=.value g,args:=args,argTypes:=ts })(wN:P.funcs[f]?=some fn)(dK:rz P f=true)(hg:a.eval g = .func (.func f) us vs)(hc:CallsIn Fence.wide 0 P f (us++args.map a.eval++vs) w R)(next:∀e w',R e w'->∃v,e = .returned v/\wpOpsIn (fz r) 0 P ops Q rest (a.put o.dst v) w'):wpOpsIn (fz r) 0 P ops Q (i::rest) a w:=by
 rw[wpOpsIn_cons];unfold wpOpIn;rw[ho];have hw:Region.wanted o (yielded ops a.tmps)=true:=by unfold Region.wanted;rw[YS]
 simp only[hw];refine⟨fun _ _=>trivial,?_⟩;have jJ:(execOp a.eval o).run P w = .ok (.enter f (us++args.map a.eval++vs)) w:=by
  unfold rz at dK;rw[wN]at dK;simp only[y04,Bool.not_eq_true',beq_eq_false_iff_ne]at dK;obtain⟨c,hb⟩:=Option.isSome_iff_exists.1 dK.1;rw[execOp,bA];simp[resolve,Deferred.ofValue,hg,invoke,callFunc,wN,dK.2,hb]
 rw[Oper.semAt_eq _ _ _ (fun c hc=>by rw[bA]at hc;cases hc),jJ];refine⟨nofun,(Jp r hc).mono fun e w' he=>?_⟩;grind
theorem CJ{f}{fn}{c}{vs}{w}{R}(wN:P.funcs[f]?=some fn)(hb:fn.body=some c)(h:c.wpIn Fence.wide 0 P (fun e a w=>(e = .normal\/e = .ret)/\a.defers=[]/\∃v,(results fn a.tmps).run P w = .ok v w/\R (.returned v) w) { tmps:=vs++Array.replicate (fn.ntmps-vs.size) undef,defers:=[] } w):CallsIn Fence.wide 0 P f vs w R:=by
 refine callsIn_of_wp_marks wN hb trivial (Go.wpIn_mono h ?_);intro e a w' hE;obtain⟨he,hd,hr⟩:=hE;rcases he with rfl|rfl
 .show LeavesInM Fence.wide 0 P fn a.tmps R a.defers .returning w';rw[hd];exact hr
 .show LeavesInM Fence.wide 0 P fn a.tmps R a.defers .returning w';rw[hd];exact hr
theorem vU{V}{fn}{ex}{s}{cK}{out}{H'}{ps}(iJ:EA P G V.H.length fn ex s cK=some (out,H',ps))(hr:gZ ps):∀e a' w',A9 G V ex s e a' w'->bodyPostM Fence.wide 0 P fn (xu G V H' out) e a' w':=by
 intro e a' w' hE;obtain⟨V1,rfl,k1,k2,k3,k4⟩:=hE;obtain⟨m,hm,hmr⟩:∃m u,ex.mode=some m/\jU V1 m u/\(LeavesInM Fence.wide 0 P fn a'.tmps (xu G V H' out) a'.defers u V1.w->bodyPostM Fence.wide 0 P fn (xu G V H' out) e a' V1.w):=by
  cases ex<;>cases e<;>first|exact k4.elim|skip
  .exact ⟨_,.returning,rfl,rfl,id⟩
  .simp [EA,bF.mode]at iJ
  .simp [EA,bF.mode]at iJ
  .exact ⟨_,.returning,rfl,rfl,id⟩
  .obtain ⟨v,rfl,hv⟩:=k4;exact⟨_,_,rfl,⟨v,rfl,hv⟩,id⟩
 obtain⟨Y6,hmr,hgo⟩:=hmr;refine hgo ?_;unfold EA at iJ;rw[Y6]at iJ;simp only at iJ;split at iJ
 .rename_i y H2 qs2 hlv;split at iJ
  .rename_i xs afX;split at iJ
   .rename_i H3 qs3 IJ;cases iJ;obtain⟨hr1,Y7⟩:=dN.1 hr;refine kG  rfl (by rw[k3.H];exact hlv) hr1 k1 k2 k3.dh hmr fun V2 u2 s2 t2 g2 h2 m2=>?_;rw[(m2)];obtain⟨us,m1,m2⟩:=BZ  g2 ⟨k3.aL.1,fun j hj=>t2 _ _ (k3.aL.2 j hj)⟩ (by rw[h2];exact afX);obtain⟨V3,n1,n2,n3,n4,n5⟩:=pJ  (by rw[h2];exact IJ) Y7 rfl s2 g2 (Pd m2);refine⟨_,?_,V3,n1,n2,n3,n4,n5⟩;unfold results;rw[Array.mapM_eq_mapM_toList];simp only[Sem.run_bind,Sem.run_map,Result.andThen,Sem.run_pure];grind
   .cases iJ
  .cases iJ
 .rename_i x H2 qs2 hlv;split at iJ
  .rename_i H3 qs3 IJ;cases iJ;obtain⟨hr1,Y7⟩:=dN.1 hr;refine kG  rfl (by rw[k3.H];exact hlv) hr1 k1 k2 k3.dh hmr fun V2 u2 s2 t2 g2 h2 m2=>?_;obtain⟨v,rfl,hv⟩:=m2;obtain⟨V3,n1,n2,n3,n4,n5⟩:=pJ  (by rw[h2];exact IJ) Y7 rfl s2 g2 hv;exact⟨V3,n1,n2,n3,n4,v,rfl,n5⟩
  .cases iJ
 .cases iJ
end
theorem WH{V V'}(hs:Step V V')(hM:∀b,¬V.M b):∃q UU,V'.w=Sort.grow (V.w.drewN q) UU:=by
 refine⟨V'.w.drawn-V.w.drawn,V'.w.heap.extract V.w.heap.size V'.w.heap.size,?_⟩;have hd:=hs.drawn;have hh:V'.w.heap=V.w.heap++V'.w.heap.extract V.w.heap.size V'.w.heap.size:=by
  apply Array.ext_getElem?;intro i;by_cases h:i<V.w.heap.size
  .rw [Array.getElem?_append_left h];exact(hs.data i h (hM i)).1
  grind
 have h1:=hs.os;have h2:=hs.tape;have h3:=hs.output;generalize V'.w=w' at *;cases w' with
 |mk heap tape drawn os output =>
 simp only at hh hd h1 h2 h3;simp only[Sort.grow,World.drewN];congr 1;omega
theorem Hl{P}{G}{f}{xs}{args}{W}{y}(hc:ak P G f xs [] (.ret y) [])(hG:∀g cs,G g=some cs->dR W (fun _=>False) (.iG cs) (.pointer (some ⟨g,0,none⟩)))(hx:bR (nA W) xs args.toList):Calls P f args W fun e W'=>∃v q UU,e = .returned v/\(∃V':View,V'.w=W'/\dI V' y v)/\W'=Sort.grow (W.drewN q) UU:=by
 have h0:aD G (nA W):=⟨fun _ h=>absurd h (by simp[nA]),fun _ _ h=>by simp[nA]at h,fun _ _ h=>absurd h (by simp[nA]),fun _ _ h=>by simp[nA]at h,hG⟩;have h:=hc (nA W) args.toList rfl h0 hx;have ea:args.toList.toArray=args:=zS
 exact(h.calls room_wide).mono fun e w' he=>by
  obtain⟨V',rfl,k2,k3,k4,k5⟩:=he;obtain⟨q,UU,hg⟩:=WH k2 (fun _ h=>h);cases e with
  |returned v=>exact⟨v,q,UU,rfl,⟨V',rfl,k5⟩,hg⟩
  |panicked _=>exact k5.elim
  |outgrown=>exact k5.elim
variable {ops:Array Oper}
section
variable {P:Program} {G:Nat->Option (List AV)}
theorem EB{f}{fn}{c}{args}{H}{out}{H'}(wN:P.funcs[f]?=some fn)(hb:fn.body=some c)(h:∀V a,V.H=H->aD G V->jO V { aL:=args++replicate (fn.ntmps-args.length) (.lit undef),H:=H } a->c.wpIn (fz none) 0 P (bodyPostM Fence.wide 0 P fn (xu G V H' out)) a V.w):ak P G f args H out H':=by
 intro V vs hH hG jf;refine callsIn_of_wp_marks wN hb trivial (h V _ hH hG ⟨?_,hH,.nil⟩);have:eF V (args++replicate (fn.ntmps-args.length) (.lit undef)) { tmps:=(vs++replicate (fn.ntmps-args.length) undef).toArray,defers:=[] }:=by
  refine bR.append jf ?_;have:=bR.vv (V:=V) (replicate (fn.ntmps-args.length) undef);simp_all
 have e:(vs++replicate (fn.ntmps-args.length) undef).toArray=vs.toArray++Array.replicate (fn.ntmps-vs.toArray.size) undef:=by
  simp[jf.1]
 grind
def y7(P:Program)(G:Nat->Option (List AV))(n0:Nat)(fn:Func)(c:Code)(s:St)(bf:List bC):Option (aS×List ah×List Prop) :=
 match sP P G none n0 c s bf with
 |some (ex,s',aT,ps)=>match EA P G n0 fn ex s' aT with
  |some (out,H',qs)=>some (out,H',ps++qs)
  |none=>none
 |none=>none
theorem mJ{fn}{n0}{c}{s}{out}{H'}l(h:y7 P G n0 fn c s (mZ l)=some (out,H',jS l)){V0 V}{a}(h0:V0.H.length=n0)(hs:Step V0 V)(hG:aD G V)(dK:jO V s a) :
 c.wpIn (fz none) 0 P (bodyPostM Fence.wide 0 P fn (xu G V0 H' out)) a V.w:=by
 unfold y7 at h;split at h
 .rename_i ex s' aT ps jJ;split at h
  .rename_i o1 H1 qs iJ;injection h with h;injection h with e1 h;injection h with e2 e3;subst e1 e2;have jH:=nV l;rw[<- e3]at jH;obtain⟨hp,hq⟩:=dN.1 jH;refine Go.wpIn_mono (eT  c jJ hp V0 V a h0 hs hG dK) ?_;exact vU (by rw[h0];exact iJ) hq
  .cases h
 .cases h
theorem SL(J:Array Bool->List AV->List ah->Prop)(Fin:List AV->List ah->Prop)(abj:∀listed aL H,J listed aL H->∀i∈Region.ready .any ops listed,∃o bf k x H' aT ps,ops[i]?=some o/\iP P G ops (iO ops i) aL H o bf=some (k,.ret x,H',aT,ps)/\gZ ps/\J (listed.setIfInBounds i true) (gX aL o.dst x) H')(iJ:∀listed aL H,J listed aL H->Region.ready .any ops listed=[]->Fin aL H){Q:Exit->Act->World->Prop}:∀(fuel:Nat){listed:Array Bool}{aL:List AV}{H:List ah}{V:View}{a:Act},J listed aL H->listed.size=ops.size->listed.toList.count false<=fuel->aD G V->V.H=H->eF V aL a ->
 (∀V' a' env' H',Step V V'->aD G V'->V'.H=H'->eF V' env' a'->a'.defers=a.defers->Fin env' H'->Q .normal a' V'.w)->wpAnyIn (fz r) 0 P .any ops Q fuel listed a V.w:=by
 intro fuel
 induction fuel with
 |zero =>
  intro listed aL H V a hJ iZ hc hG hH he hn;have hr:Region.ready .any ops listed=[]:=by
   cases hr:Region.ready .any ops listed with
   |nil=>rfl
   |cons i is =>
    have hi:i∈Region.ready .any ops listed:=by rw[hr];simp
    obtain⟨Iw,o,ho,_⟩:=mem_ready.1 hi;have QB:i<listed.size:=by rw[iZ];grind
    simp only[Array.getD_eq_getD_getElem?,Array.getElem?_eq_getElem QB,Option.getD_some]at Iw;have:false∈listed.toList:=by rw[<- Iw];simp
    have:=count_pos_iff.2 this;omega
  exact⟨hr,hn V a aL H (Step.refl V) hG hH he rfl (iJ _ _ _ hJ hr)⟩
 |succ fuel ih =>
  intro listed aL H V a hJ iZ hc hG hH he hn;refine⟨fun hr=>hn V a aL H (Step.refl V) hG hH he rfl (iJ _ _ _ hJ hr),fun i hi=>?_⟩;obtain⟨o,bf,k,x,H',aT,ps,ho,fB,dG,hJ'⟩:=abj _ _ _ hJ i hi;obtain⟨h1,h2⟩:=qw (r:=r) (a:=a) ho fB dG hG (fun t _=>he.get t) (.inl hH);refine h1 _ Q (fun V' v x' hx hs hG' Dq zq=>?_) (fun V' v x' hx=>by cases hx);cases hx;have NV:V'.H=H':=by grind
  obtain⟨Iw,_⟩:=mem_ready.1 hi;have QB:i<listed.size:=by rw[iZ];grind
  simp only[Array.getD_eq_getD_getElem?,Option.getD_some]at Iw;have e:(listed.setIfInBounds i true).toList.count false=listed.toList.count false-1:=by grind
  exact ih hJ' (by simpa using iZ) (by rw[e];omega) hG' NV ((he.step hs).put o.dst zq)
   (fun V2 a2 Vw H2 s2 g2 YT e2 d2 f2=>hn V2 a2 Vw H2 (hs.trans s2) g2 YT e2 (d2.trans (nT _ _ _)) f2)
theorem Ke{r}{id}{ops}(J:Array Bool->List AV->List ah->Prop)(Fin:List AV->List ah->Prop)(abj:∀listed aL H,J listed aL H->∀i∈Region.ready .any ops listed,∃o bf k x H' aT ps,ops[i]?=some o/\iP P G ops (iO ops i) aL H o bf=some (k,.ret x,H',aT,ps)/\gZ ps/\J (listed.setIfInBounds i true) (gX aL o.dst x) H')(iJ:∀listed aL H,J listed aL H->Region.ready .any ops listed=[]->Fin aL H){Q}{s}{V}{a}(h0:J (Array.replicate ops.size false) s.aL s.H)(hm:P.follows .mixedOrders=true)(hG:aD G V)(dK:jO V s a)(hn:∀V' a' env' H',Step V V'->aD G V'->jO V' { aL:=env',H:=H',dh:=s.dh } a'->Fin env' H'->Q .normal a' V'.w):(Code.region id ops true).wpIn (fz r) 0 P Q a V.w:=by
 refine wpIn_region_any hm ?_;obtain⟨Vd,d1,d2,d3,d4,d5,d6⟩:=KN  hG (w':={ V.w with drawn:=V.w.drawn+1 }) rfl rfl rfl rfl;rw[<- d1];refine SL J Fin abj iJ ops.size h0 zS zS d6 (d2.trans dK.H) (dK.aL.step d5) ?_;intro V' a' env' H' s' g' h' e' dd f';exact hn V' a' env' H' (d5.trans s') g' ⟨e',h',dd▸dK.dh.step (d5.trans s')⟩ f'
end
structure Kq(n:Nat)(V V':View):Prop where
 data:∀b,b<V.w.heap.size->¬V.M b->V'.w.heap[b]?=V.w.heap[b]?/\¬V'.M b
 aU:∀id,id<n->id<V.H.length->V'.ρ id=V.ρ id/\V'.w.heap[V.ρ id]?=V.w.heap[V.ρ id]?/\(V'.H[id]?=V.H[id]?\/∃e e',V.H[id]?=some (.map e)/\V'.H[id]?=some (.map e'))
section
variable {n:Nat} {V V':View} (h:Kq n V V')
 include h
theorem bY.lF{f}(hf:∀e e',f (.map e)=f (.map e')){id}(dU:id<n)(hk:bY f V id):bY f V' id/\V'.ρ id=V.ρ id:=by
 obtain⟨o,ho,Z8⟩:=hk;have hl:=(yC.1 ho).1;obtain⟨h1,h2,h3⟩:=h.aU id dU hl;refine⟨?_,h1⟩;rcases h3 with h3|⟨e,e',h3,h4⟩
 .exact ⟨o,h3.trans ho,Z8⟩
 .rw [h3]at ho;injection ho with ho;subst ho;exact⟨_,h4,(hf e' e).trans Z8⟩
theorem dI.lF{x}{v}(hr:dI V x v)(hx:x.bP n=true):dI V' x v:=by
 induction hr with
 |pure x v hp=>exact .pure x v (hp.step h.data)
 |aP v=>exact .aP v
 |ptr id off hk =>
  simp only[AV.bP,Nat.blt_eq]at hx;obtain⟨k1,k2⟩:=bY.lF h  (fun _ _=>rfl) hx hk;rw[<- k2];exact .ptr id off k1
 |jC id g k j v ha =>
  simp only[AV.bP,Nat.blt_eq]at hx;refine .jC id g k j v ⟨ha.1,?_⟩;have hl:=ha.lt;obtain⟨h1,h2,h3⟩:=h.aU id hx hl;have h4:=ha.2;grind
 |aU id g off len v ha =>
  simp only[AV.bP,Nat.blt_eq]at hx;refine .aU id g off len v ⟨ha.1,?_⟩;have hl:=ha.lt;obtain⟨h1,h2,h3⟩:=h.aU id hx hl;have h4:=ha.2;rcases h3 with h3|⟨e,e',h3,h5⟩
  .unfold qR at h4 |-;grind
  grind
 |mp id hk =>
  simp only[AV.bP,Nat.blt_eq]at hx;obtain⟨k1,k2⟩:=bY.lF h  (fun _ _=>rfl) hx hk;rw[<- k2];exact .mp id k1
 |yl id hk =>
  simp only[AV.bP,Nat.blt_eq]at hx;obtain⟨k1,k2⟩:=bY.lF h  (fun _ _=>rfl) hx hk;rw[<- k2];exact .yl id k1
 |agg cs vs hl _ ih =>
  exact .agg cs vs hl fun j hj=>ih j hj (fq j hx hj)
 |bq cs vs hl _ ih =>
  exact .bq cs vs hl fun j hj=>ih j hj (fq j hx hj)
 |qX t x v _ ih =>
  exact .qX t x v (ih hx)
 |fn f uu bs us vs hu hv _ _ iha ihb =>
  simp only[AV.bP,y04]at hx;exact .fn f uu bs us vs hu hv (fun j hj=>iha j hj (fq j hx.1 hj)) (fun j hj=>ihb j hj (fq j hx.2 hj))
theorem bR.lF{xs}{vs}(hr:bR V xs vs)(hx:AV.gH n xs=true):bR V' xs vs:=⟨hr.1,fun j hj=>(hr.2 j hj).lF h (fq j hx hj)⟩
theorem fZ.lF{id}{o}(dU:id<n)(hl:id<V.H.length)(ho:o.bP n)(hr:fZ V (V.ρ id) o):fZ V' (V'.ρ id) o:=by
 obtain⟨h1,h2,_⟩:=h.aU id dU hl;rw[h1];cases o with
 |box cells=>obtain⟨t,vs,k1,k2⟩:=hr;exact⟨t,vs,h2.trans k1,k2.lF h ho⟩
 |aN g sz fz xs =>
  obtain⟨t,c,k1,k2,k3,k4⟩:=hr;refine⟨t,c,h2.trans k1,k2,k3,fun k j hk hj=>?_⟩;obtain⟨v,hv,YJ,zq⟩:=k4 k j hk hj;have hx:xs.getD k []∈xs:=by rw[yB,yA hk];simp
  exact⟨v,hv,YJ,zq.lF h (fq j (ho _ hx) (by rw[k3 _ hx];exact hj))⟩
 |map es =>
  obtain⟨ents,clock,k1,k2,k3,k4,k5,k6⟩:=hr;refine⟨ents,clock,h2.trans k1,k2,k3,k4,k5,fun j hj=>?_⟩;obtain⟨kk,hm⟩:=LK hj;exact(k6 j hj).lF h (ho (kk,uq es j) hm)
 |iV st p aL ps uu bd=>obtain⟨fn,vs,D,k1,k2⟩:=hr;exact⟨fn,vs,D,h2.trans k1,k2.lF h ho⟩
 |iter cur left =>
  obtain⟨bm,since,seen,c0,ents,clock,es,idx,k1,k2⟩:=hr;exact⟨bm,since,seen,c0,ents,clock,es,idx,h2.trans k1,k2.step h.data⟩
 |uE=>exact h2.trans hr
 |aH=>trivial
theorem aD.lF{G}(hG:aD G V)(bg:∀id,id<V'.H.length->V'.ρ id<V'.w.heap.size)(agS:∀i j,i<V'.H.length->j<V'.H.length->V'.ρ i=V'.ρ j->i=j)(R7:∀id o,V'.H[id]?=some o->((id<n/\V.H[id]?=some o/\o.bP n)\/fZ V' (V'.ρ id) o)/\(o.open_=true->V'.M (V'.ρ id))):aD G V' where
 lt:=bg
 eP id o ho:=by
  rcases(R7 id o ho).1 with⟨h1,h2,h3⟩|h1
  .exact fZ.lF h h1 (yC.1 h2).1 h3 (hG.eP id o h2)
  .exact h1
 inj:=agS
 gW id o ho bA:=(R7 id o ho).2 bA
 ng g cs hg:=(hG.ng g cs hg).step h.data
theorem eF.lF{aL}{a}(he:eF V aL a)(hx:AV.gH n aL=true):eF V' aL a:=bR.lF h he hx
end
theorem eF.ae8{V}{aL}{a}(h:eF V aL a){t}{x}(hx:dI V x (a.tmps.getD t undef)):eF V (aL.set t x) a :=
 ⟨by simpa using h.1,fun j hj=>by
  have hj':j<aL.length:=by simpa using hj
  by_cases e:t=j
  .simp_all
  .rw [w9 e];exact h.2 j hj'⟩
theorem eF.ae9{V}{aL env'}{a}(h:eF V aL a)(hl:env'.length=aL.length)(hd:∀j,j<aL.length->env'.getD j .aP=aL.getD j .aP\/env'.getD j .aP = .aP):eF V env' a :=
 ⟨h.1.trans hl.symm,fun j hj=>by
  rcases hd j zO with h1|h1
  .rw [h1];exact h.2 j zO
  .rw [h1];exact .aP _⟩
structure rJ(B:Nat->Prop)(V V':View):Prop where
 os:V'.w.os=V.w.os
 tape:V'.w.tape=V.w.tape
 output:V'.w.output=V.w.output
 size:V.w.heap.size<=V'.w.heap.size
 drawn:V.w.drawn<=V'.w.drawn
 keep:∀b,b<V.w.heap.size->(∀id,id<V.H.length->V.ρ id≠b)->¬B b->V'.w.heap[b]?=V.w.heap[b]?/\(V'.M b↔V.M b)
 data:∀b,b<V.w.heap.size->¬V.M b->V'.w.heap[b]?=V.w.heap[b]?/\¬V'.M b
 bL:V.H.length<=V'.H.length
 fresh:∀id,id<V'.H.length->(id<V.H.length/\V'.ρ id=V.ρ id)\/V.w.heap.size<=V'.ρ id
 eP:∀id,id<V.H.length->dL V V' id
theorem Step.x{V V'}(h:Step V V')B:rJ B V V':=⟨h.os,h.tape,h.output,h.size,h.drawn,fun b h1 h2 _=>h.keep b h1 h2,h.data,h.bL,h.fresh,h.eP⟩
theorem rJ.mono{B C}{V V'}(h:rJ B V V')(hB:∀b,B b->C b):rJ C V V':={ h with keep:=fun b h1 h2 h3=>h.keep b h1 h2 fun h4=>h3 (hB b h4) }
theorem rJ.trans{B}{V V' Xn}(h:rJ B V V')(h':rJ B V' Xn):rJ B V Xn where
 os:=h'.os.trans h.os
 tape:=h'.tape.trans h.tape
 output:=h'.output.trans h.output
 size:=y10 h.size h'.size
 drawn:=y10 h.drawn h'.drawn
 keep b hb hn hB:=by
  obtain⟨a1,a2⟩:=h.keep b hb hn hB;have:=h'.keep b (y25 hb h.size) (fun id dU e=>by
   rcases h.fresh id dU with⟨hl,hρ⟩|Ct
   .exact hn id hl (hρ▸e)
   .omega) hB
  grind
 data b hb hn:=by
  obtain⟨a1,a2⟩:=h.data b hb hn;obtain⟨b1,b2⟩:=h'.data b (y25 hb h.size) a2;grind
 bL:=y10 h.bL h'.bL
 fresh id dU:=by
  rcases h'.fresh id dU with⟨hl,hρ⟩|Ct
  .rcases h.fresh id hl with⟨EJ,aoA⟩|Ct
   .omega
   .omega
  .exact .inr (y10 h.size Ct)
 eP id dU:=(h.eP id dU).trans (h'.eP id (y25 dU h.bL))
theorem Step.aiq{B}{V V' Xn}(h:Step V V')(h':rJ B V' Xn)(hB:∀b,B b->V.w.heap.size<=b):Step V Xn:=by
 have:=(h.x B).trans h';exact⟨this.os,this.tape,this.output,this.size,this.drawn,fun b h1 h2=>this.keep b h1 h2 fun h3=>by have:=hB b h3;omega,this.data,this.bL,this.fresh,this.eP⟩
theorem ak.XU{P}{G}{f}{H H'}{out}{sz}{tg}{rest}(h0:∀cap,ak P G f (.lit (.slice none 0 cap)::rest) H out H')(h1:∀a cap,ak P G f (.lit (.slice (some a) 0 cap)::rest) H out H'):ak P G f (.sl sz tg []::rest) H out H':=by
 intro V vs hH hG hr;obtain⟨v,ws,rfl⟩:∃v ws,vs=v::ws:=by
  have:=hr.1
  match vs,this with
  |v::ws,_=>exact⟨v,ws,rfl⟩
 have hx:=jF hr.head;obtain⟨A,cap,rfl,_⟩:=zU hx;have ht:=hr.tail;cases A with
 |none=>exact h0 cap V _ hH hG (.cons (.pure _ _ (.lit _)) ht)
 |some a=>exact h1 a cap V _ hH hG (.cons (.pure _ _ (.lit _)) ht)
theorem aF.afp(sz:Nat)A(cap:Nat):aF (.lit (.slice A 0 cap)) (.sl sz false []):=fun V v h=>by
 rw[bW h];exact .pure _ _ (.sl sz false [] A cap 0 0 (fun _ _=>undef) (fun h=>absurd rfl h) (fun h=>absurd rfl h) yN (fun h=>by cases h) zS (fun k j hk=>absurd hk zS) (fun k j hk=>absurd hk zS) (fun k j hk=>absurd hk zS))
section
variable {P:Program} {G:Nat->Option (List AV)}
theorem ak.Zq{f}{args}{F}{cells}(h:ak P G f args [] (.ret (.fn F [] [.ptr 0 0])) [.box cells])(hp:cells.all AV.fJ=true):ak P G f args [] (.ret (.fn F [] [.iG cells])) []:=fun V vs hH hG hr =>
 (h V vs hH hG hr).mono fun e w' he=>by
  obtain⟨V',k1,k3,k4,k2,k5⟩:=he;have hH0:V'.H[0]?=some (.box cells):=by rw[k2];rfl
  have hVl:V.H.length=0:=by rw[hH];rfl
  have TR:V.w.heap.size<=V'.ρ 0:=by
   rcases k3.fresh 0 (by rw[k2];simp)with h|h
   .omega
   .exact h
  let V2:View:={ w:=V'.w,M:=fun b=>V'.M b/\b≠V'.ρ 0,H:=[],ρ:=V'.ρ };have fB:Step V V2:={
   os:=k3.os
   tape:=k3.tape
   output:=k3.output
   size:=k3.size
   drawn:=k3.drawn
   keep:=fun b hb hn=>⟨(k3.keep b hb hn).1,⟨fun h=>(k3.keep b hb hn).2.1 h.1,fun h=>⟨(k3.keep b hb hn).2.2 h,fun e=>zO⟩⟩⟩
   data:=fun b hb hn=>⟨(k3.data b hb hn).1,fun h=>(k3.data b hb hn).2 h.1⟩
   bL:=by rw[hVl];simp
   fresh:=fun i hi=>absurd hi (y28 _)
   eP:=fun i hi=>absurd hi zO }
  have hG2:aD G V2:={
   lt:=fun i hi=>absurd hi (y28 _)
   eP:=fun i ob ho=>by cases ho
   inj:=fun i j hi=>absurd hi (y28 _)
   gW:=fun i ob ho=>by cases ho
   ng:=hG.gD fB }
  refine⟨V2,k1,fB,hG2,rfl,?_⟩;cases e with
  |panicked _=>exact k5.elim
  |outgrown=>exact k5.elim
  |returned v =>
   obtain⟨bs,hr,hc⟩:=wD k4 hH0;have ap8:dR V2.w V2.M (.iG cells) (.pointer (some ⟨V'.ρ 0,0,none⟩)) :=
    dR.iG cells ⟨V'.ρ 0,0,none⟩ (fun j=>bs.getD j undef) rfl (fun _ h=>h.2 rfl) (fun j hj=>hc j hj) fun j hj=>by
     have hx:=hr.2 j hj;refine(kE ?_ hx).wI rfl (fun b h=>h.1);grind
   have key:∀us ws:List Value,us.length=0->ws.length=1->dI V' (.ptr 0 0) (ws.getD 0 undef)->dI V2 (.fn F [] [.iG cells]) (.func F us.toArray ws.toArray):=fun us ws h1 h2 h3=>by
    have h4:ws.getD 0 undef = .pointer (some ⟨V'.ρ 0,0,none⟩):=by
     exact(jr h3).2
    refine .pure _ _ (.fn F [] [.iG cells] us ws h1 h2 (fun j hj=>absurd hj (y28 _)) fun j hj=>?_)
    grind
   obtain⟨us,ws,rfl,hu,hb⟩:=yY k5;exact key us ws hu.1 hb.1 (hb.2 0 Nat.zero_lt_one)
end
open Go.ChangeMaps
section
variable {P:Program} {G:Nat->Option (List AV)} {V:View}
theorem getD_some{l:List α}{i}h(d:α):l.getD i d=l[i]:=by grind
theorem ahJ{w}{r b}{o}(h:b≠r):(setBlock w r o).heap[b]?=w.heap[b]? := by
 show(w.heap.setIfInBounds r o)[b]?=_;grind
theorem SN(hG:aD G V){id:Nat}{cur:Option (Value×AV)}{left:List (Value×AV)}(hH:V.H[id]?=some (.iter cur left))(ty:TypeId) :
 (left=[]/\(Instr.next (.pointer (some ⟨V.ρ id,0,none⟩)) false ty).run P V.w = .ok (.tuple #[.bool false]) V.w) \/
 ∃(e:Value×AV)(left':List (Value×AV))(v:Value)(V':View),left.Perm (e::left')/\(Instr.next (.pointer (some ⟨V.ρ id,0,none⟩)) false ty).run P V.w = .ok (.tuple #[.bool true,e.1,v]) V'.w /\
  dR V'.w V'.M e.2 v/\V'.H=V.H.set id (.iter (some e) left')/\V'.ρ=V.ρ/\Step V V'/\aD G V':=by
 obtain⟨bm,since,seen,c0,ents,clock,es,idx,h1,k⟩:=hG.eP id _ hH;have bL:ents.length=es.length:=by simpa using yJ length k.key
 rcases run_next_at (P:=P) V.w ty (V.ρ id) bm since c0 seen ents.toArray clock h1 k.map (by simpa using k.old) k.sn with⟨h0,jJ⟩|⟨en,hen,w1,OE,jJ⟩
 .left;refine⟨?_,jJ⟩;have ap9:idx=[]:=by
   cases hi:idx with
   |nil=>rfl
   |cons i t =>
    exfalso;obtain⟨hl,hs⟩:=(k.ix i).1 (by rw[hi];exact y06);have:ents.getD i default∈(leftOf ents.toArray seen).toList:=by
     unfold leftOf;rw[Array.toList_filter];exact mem_filter.2 ⟨by rw[getD_some hl];exact y03 hl,by rw[hs];rfl⟩
    have h0':(leftOf ents.toArray seen).toList=[]:=y02 (by simpa using h0);rw[h0']at this;cases this
  have:=k.lf;rw[ap9]at this;exact this.nil_eq.symm
 .right;have al3:en∈ents/\seen.contains en.born=false:=by
   unfold leftOf at hen;rw[Array.toList_filter]at hen;obtain⟨a,b⟩:=mem_filter.1 hen;exact⟨a,by simpa using b⟩
  obtain⟨i,hi,QE⟩:=getElem_of_mem al3.1;have dU:ents.getD i default=en:=by rw[getD_some hi];exact QE
  have al4:=(k.ix i).2 ⟨hi,by rw[dU];exact al3.2⟩;have ahK:i<es.length:=zO
  let e:=es.getD i (undef,.aP);have XL:en.key=e.1:=by
   have:=yJ (fun l=>l[i]?) k.key;grind
  let o':Obj:=.mapIter (some bm) since (seen.push en.born) clock;have ahL:w1.heap=V.w.heap:=by rcases OE with rfl|rfl<;>rfl
  have bg:=hG.lt id (yC.1 hH).1;have hbr:bm≠V.ρ id:=fun e=>k.data (e▸hG.gW id _ hH rfl);have uH:∀b,b≠V.ρ id->(setBlock w1 (V.ρ id) o').heap[b]?=V.w.heap[b]? := fun b hb=>by rw[ahJ hb,ahL]
  obtain⟨V',v1,v2,v3,v4,v5⟩:=PI (ou:=.iter (some e) ((idx.erase i).map fun i=>es.getD i (undef,.aP))) hG hH rfl (fun V' h er=>by unfold dL;rw[hH,h];exact er) (w':=setBlock w1 (V.ρ id) o')
   uH (by show(w1.heap.setIfInBounds _ _).size=_;rw[Array.size_setIfInBounds,ahL]) (by rcases OE with rfl|rfl<;>rfl) (by rcases OE with rfl|rfl<;>rfl) (by rcases OE with rfl|rfl<;>rfl)
   (fun V' hw fB=>⟨bm,since,seen.push en.born,clock,ents,clock,es,idx.erase i,by rw[hw];show(w1.heap.setIfInBounds _ _)[_]?=_;rw[Array.getElem?_setIfInBounds_self_of_lt (by rw[ahL];exact bg)],
    have kk:=fB.data bm (Array.getElem?_eq_some_iff.1 k.map).1 k.data
    { data:=kk.2
      map:=kk.1.trans k.map
      key:=k.key
      born:=k.born
      old:=k.old
      sn:=k.sc
      sc:=k.sc
      val:=fun j hj=>(k.val j hj).Da fB
      nd:=k.nd.erase i
      ix:=fun j=>by
       rw[k.nd.mem_erase_iff,k.ix j];constructor
       .rintro ⟨hji,hj,hs⟩;refine⟨hj,?_⟩;rw[Array.contains_push,hs,Bool.false_or,beq_eq_false_iff_ne];intro eb;apply hji;have hb:=k.born;rw[nodup_iff_pairwise_ne,pairwise_iff_getElem]at hb;grind
       .rintro ⟨hj,hs⟩;rw[Array.contains_push,Bool.or_eq_false_iff,beq_eq_false_iff_ne]at hs;exact⟨fun e=>hs.2 (by rw[e,dU]),hj,hs.1⟩
      lf:=.refl _
      cu:=fun e0 he=>by
       cases he;exact⟨rfl,i,seen,hi,by rw[dU],rfl⟩ }⟩)
   (by rcases OE with rfl | rfl
       .exact yM
       .exact Nat.le_succ _)
  refine⟨e,_,en.val,V',?_,?_,?_,v2,v3,v4,v5⟩
  .have p1:(idx.map fun i=>es.getD i (undef,.aP)).Perm ((i::idx.erase i).map fun i=>es.getD i (undef,.aP)):=(perm_cons_erase al4).map _;exact k.lf.symm.trans p1
  .rw [jJ,v1,XL]
  .have hv:=(k.val i ahK).Da v4;have e2:uq es i=e.2:=by
    show(es.getD i (undef,.aP)).2=_;rfl
   have e3:gI ents i=en.val:=by
    show(ents.getD i default).val=_;rw[dU]
   rw[e2,e3]at hv;exact hv
theorem Lu{m0 ta it id:Nat}{os:List Oper}{o1:Oper}{rest:Code}{Sg:Type}(S:Sg->St)(left:Sg->List (Value×AV))(X:Sg->St)(OU:ops.toList=o1::os)(bA:o1.op = .next (.tmp it) false)(YS:o1.guard=none)(O6:o1.dst=some ta)(Ut:∀σ,(S σ).aL.getD it .aP = .ptr id 0)(NW:∀σ,∃cur,(S σ).H[id]?=some (.iter cur (left σ)))(round:∀σ e left',(left σ).Perm (e::left')->∃σ' E1,left σ'=left' /\
  vw P G r ops 1 os (gX (S σ).aL (some ta) (.bq [.lit (.bool true),.lit e.1,e.2])) ((S σ).H.set id (.iter (some e) left')) (S σ).dh []=some (.normal,E1,(S σ).H.set id (.iter (some e) left'),(S σ).dh,[],[]) /\
  bn P G r n0 rest ⟨E1,(S σ).H.set id (.iter (some e) left'),(S σ).dh⟩ (S σ'))(done:∀σ,left σ=[]->∃E1,vw P G r ops 1 os (gX (S σ).aL (some ta) (.bq [.lit (.bool false)])) (S σ).H (S σ).dh []=some (.normal,E1,(S σ).H,(S σ).dh,[],[])/\Rz P G r n0 rest ⟨E1,(S σ).H,(S σ).dh⟩ ex (X σ))(Br:ex≠.normal) :
 ∀(n:Nat)(σ:Sg),(left σ).length=n->∀(V0 V:View)(a:Act),V0.H.length=n0->Step V0 V->aD G V->jO V (S σ) a->eO (fz r) 0 P (.seq (.region m0 ops false) rest) (fun e a w=>∃σ,left σ=[]/\A9 G V0 ex (X σ) e a w) a V.w:=by
 intro n
 induction n using Nat.strongRecOn with
 |ind n ih =>
 intro σ hn V0 V a h0 fB hG dK;have h1s:1<=ops.size:=by rw[<- Array.length_toList,OU];simp
 have YJ:ops[0]?=some o1:=by rw[<- Array.getElem?_toList,OU];rfl
 have rW:ops.toList.drop 1=os:=by rw[OU];rfl
 have hr:List.range ops.size=0::(List.range ops.size).drop 1:=by
  have:=y01 (l:=List.range ops.size) (i:=0) (by simp;omega);simpa using this
 obtain⟨cur,NW⟩:=NW σ;have hev:a.eval (.tmp it) = .pointer (some ⟨V.ρ id,0,none⟩):=by
  have:=dK.aL.get it;rw[Ut σ]at this;exact(jr this).2
 refine eO.next (Go.wpIn_seq (wpIn_region ?_));rw[hr,wpOpsIn_cons];unfold wpOpIn;rw[YJ];have hw:Region.wanted o1 (yielded ops a.tmps)=true:=by unfold Region.wanted;rw[YS]
 simp only[hw,if_true];refine⟨fun _ _=>trivial,?_⟩;rw[Oper.semAt_eq _ _ _ (fun c hc=>by rw[bA]at hc;cases hc)];rcases SN (P:=P) hG (dK.H▸NW) o1.type with⟨hl,jJ⟩|⟨e,left',v,V',hp,jJ,hv,Dq,hρ,YO,hG'⟩
 .obtain ⟨E1,hD,hR⟩:=done σ hl;have abk:(execOp a.eval o1).run P V.w = .ok (.value (.tuple #[.bool false])) V.w:=by
   rw[execOp,bA];simp[hev,jJ]
  rw[abk];have F7:=dK.aL.put (some ta) (x:=.bq [.lit (.bool false)]) (v:=.tuple #[.bool false]) (.pure _ _ (.bq [.lit (.bool false)] [.bool false] rfl fun j hj=>by match j,hj with|0,_=>exact .lit _));show wpOpsIn (fz r) 0 P ops _ ((List.range ops.size).drop 1) (a.put o1.dst (.tuple #[.bool false])) V.w;rw[O6];refine ni hD trivial rW hG dK.H F7 (by rw[nT];exact dK.dh) (fun _ V2 a2 s2 g2 k2 e2 d2=>?_) fun x hx=>by cases hx
  show rest.wpIn _ _ _ _ a2 V2.w;refine Go.wpIn_mono (hR V0 V2 a2 h0 (fB.trans s2) g2 ⟨e2,k2,d2⟩) fun e3 a3 w3 hE=>?_;have hE':∃σ,left σ=[]/\A9 G V0 ex (X σ) e3 a3 w3:=⟨σ,hl,hE⟩;obtain⟨V3,rfl,k1,k2,k3,k4⟩:=hE;cases e3<;>first|exact hE'|(cases ex<;>first|exact k4.elim|exact(Br rfl).elim)
 .obtain ⟨σ',E1,hl,hD,hP⟩:=round σ e left' hp;have abk:(execOp a.eval o1).run P V.w = .ok (.value (.tuple #[.bool true,e.1,v])) V'.w:=by
   rw[execOp,bA];simp[hev,jJ]
  rw[abk];have F7:=(dK.aL.step YO).put (some ta)  (v:=.tuple #[.bool true,e.1,v]) (.pure _ _ (.bq [.lit (.bool true),.lit e.1,e.2] [.bool true,e.1,v] rfl fun j hj=>by
   match j,hj with
   |0,_=>exact .lit _
   |1,_=>exact .lit _
   |2,_=>exact hv))
  show wpOpsIn (fz r) 0 P ops _ ((List.range ops.size).drop 1) (a.put o1.dst (.tuple #[.bool true,e.1,v])) V'.w;rw[O6];refine ni hD trivial rW hG' (by rw[Dq,dK.H]) F7 (by rw[nT];exact dK.dh.step YO) (fun _ V2 a2 s2 g2 k2 e2 d2=>?_) fun x hx=>by cases hx
  show rest.wpIn _ _ _ _ a2 V2.w;refine hP V0 V2 a2 _ _ h0 ((fB.trans YO).trans s2) g2 ⟨e2,k2,d2⟩ fun V3 a3 s3 g3 k3=>?_;exact ih (left σ').length (by rw[hl,<- hn,hp.length_eq];simp) σ' rfl V0 V3 a3 h0 s3 g3 k3
theorem bN.iter{r}{n0 m0 ta it id:Nat}{ops}{os}{o1:Oper}{rest}{ex}{Sg:Type}(S:Sg->St)(left:Sg->List (Value×AV))X(OU:ops.toList=o1::os)(bA:o1.op = .next (.tmp it) false)(YS:o1.guard=none)(O6:o1.dst=some ta)(Ut:∀σ,(S σ).aL.getD it .aP = .ptr id 0)(NW:∀σ,∃cur,(S σ).H[id]?=some (.iter cur (left σ)))(round:∀σ e left',(left σ).Perm (e::left')->∃σ' E1,left σ'=left' /\
  vw P G r ops 1 os (gX (S σ).aL (some ta) (.bq [.lit (.bool true),.lit e.1,e.2])) ((S σ).H.set id (.iter (some e) left')) (S σ).dh []=some (.normal,E1,(S σ).H.set id (.iter (some e) left'),(S σ).dh,[],[]) /\
  bn P G r n0 rest ⟨E1,(S σ).H.set id (.iter (some e) left'),(S σ).dh⟩ (S σ'))(done:∀σ,left σ=[]->∃E1,vw P G r ops 1 os (gX (S σ).aL (some ta) (.bq [.lit (.bool false)])) (S σ).H (S σ).dh []=some (.normal,E1,(S σ).H,(S σ).dh,[],[])/\Rz P G r n0 rest ⟨E1,(S σ).H,(S σ).dh⟩ ex X)(Br:ex≠.normal)n(σ:Sg)(hn:(left σ).length=n):bN P G r n0 (.seq (.region m0 ops false) rest) (S σ) ex X:=fun V0 V a h0 fB hG dK b k cs hro hb hr =>
 let ⟨e,a',w',⟨_,_,hE⟩,zu⟩:=Lu S left (fun _=>X) OU bA YS O6 Ut NW round done Br n σ hn V0 V a h0 fB hG dK b k cs hro hb hr
 ⟨e,a',w',hE,zu⟩
def Lv(P:Program)(G:Nat->Option (List AV))(f:FuncId)(args:List AV)(H:List ah)(F:aS->List ah->Prop):Prop :=
 ∀(V:View)(vs:List Value),V.H=H->aD G V->bR V args vs->CallsIn Fence.wide 0 P f vs.toArray V.w (fun e w'=>∃out H',F out H'/\xu G V H' out e w')
theorem Fj{f}{fn}{c}{args}{H}{F}(wN:P.funcs[f]?=some fn)(hb:fn.body=some c)(h:∀V a,V.H=H->aD G V->jO V { aL:=args++replicate (fn.ntmps-args.length) (.lit undef),H:=H } a->c.wpIn (fz none) 0 P (bodyPostM Fence.wide 0 P fn (fun e w'=>∃out H',F out H'/\xu G V H' out e w')) a V.w):Lv P G f args H F:=by
 intro V vs hH hG jf;refine callsIn_of_wp_marks wN hb trivial (h V _ hH hG ⟨?_,hH,.nil⟩);have:eF V (args++replicate (fn.ntmps-args.length) (.lit undef)) { tmps:=(vs++replicate (fn.ntmps-args.length) undef).toArray,defers:=[] }:=by
  refine bR.append jf ?_;have:=bR.vv (V:=V) (replicate (fn.ntmps-args.length) undef);simp_all
 have e:(vs++replicate (fn.ntmps-args.length) undef).toArray=vs.toArray++Array.replicate (fn.ntmps-vs.toArray.size) undef:=by
  simp[jf.1]
 grind
end
end Go.Am
namespace Go.Am
open Go
section
variable {P:Program} {G:Nat->Option (List AV)}
theorem WI{n0:Nat}{g:Operand}{ts:Array Tmp}{x y:Code}{s:St}{f:FuncId}{aZ bs:List AV}(aP:List Nat)(ht:jY (Bf G s.aL g)=some (f,aZ,bs))(EK:rz P f=true){F:List ah->Prop}(hcf:Lv P G f (aZ++[.yl (s.H.length+1)]++bs) (s.H++[.uE]++[.iV .ready none (tF s.aL aP) ts x y]) (fun out H2=>(∃xr,out = .ret xr)/\F H2))(hF:∀H2,F H2->∃YV ts3 x3 y3,H2[s.H.length+1]?=some (.iV .ready none YV ts3 x3 y3)){V0 V:View}{a:Act}(h0:V0.H.length=n0)(hs:Step V0 V)(hG:aD G V)(dK:jO V s a) :
 (Code.rangeFunc g ts x y).wpIn (fz none) 0 P (fun e a' w'=>∃H2,F H2/\A9 G V0 .normal { aL:=s.aL,H:=H2.set (s.H.length+1) .aH,dh:=.mark s.H.length::s.dh } e a' w') a V.w:=by
 refine wpIn_rangeFunc fun MU _=>?_;have hg:=nG (a:=a) (aL:=s.aL) (y:=g) hG fun t _=>dK.aL.get t;obtain⟨V1,a1,a2,a3,a4,a5⟩:=qA hG (w':=V.w.alloc (.deferred (some []))) (eP:=.uE) rfl rfl rfl rfl fun V' hw _=>by
  show V'.w.heap[V.w.heap.size]?=_;rw[hw];exact jZ rfl
 have afV:V1.w.heap.size=V.w.heap.size+1:=by rw[a1];simp
 obtain⟨V2,b1,b2,b3,b4,b5⟩:=qA a4 (w':=V1.w.alloc (.loop { state:=.ready,pending:=none,fn:=MU,tmps:=a.tmps,params:=ts,assign:=x,body:=y,defers:=V.w.heap.size })) (eP:=.iV .ready none (tF s.aL aP) ts x y) rfl rfl rfl rfl fun V' hw hs'=>by
  refine⟨MU,a.tmps.toList,V.w.heap.size,by rw[hw];exact jZ rfl,?_⟩;exact eF.step hs' (wB (dK.aL.step a3))
 have hl1:V1.H.length=s.H.length+1:=by rw[a2,dK.H];simp
 rw[hl1,afV]at b5;have NV:V2.H=s.H++[.uE]++[.iV .ready none (tF s.aL aP) ts x y]:=by rw[b2,a2,dK.H]
 have YW:V2.H[s.H.length+1]?=some (.iV .ready none (tF s.aL aP) ts x y):=by rw[NV];simp
 have s02:=a3.trans b3;obtain⟨us,vs,hu,r1,r2⟩:=mU ht hg;have QV:dI V2 (.yl (s.H.length+1)) (.func (.yield (V.w.heap.size+1)) #[] #[]):=by
  rw[<- b5];exact .yl _ ⟨_,YW,rfl⟩
 have hx:=((r1.step s02).append (.cons QV .nil)).append (r2.step s02);have hc:=hcf V2 _ NV b4 hx;have hw2:V2.w=(V.w.alloc (.deferred (some []))).alloc (.loop { state:=.ready,pending:=none,fn:=MU,tmps:=a.tmps,params:=ts,assign:=x,body:=y,defers:=V.w.heap.size }):=by rw[b1,a1]
 refine⟨V.w.heap.size+1,[{ target:=.collected V.w.heap.size,args:=#[] }],V2.w,{ target:=.fn (.func f) vs.toArray,args:=us.toArray++#[Value.func (.yield (V.w.heap.size+1)) #[] #[]] },V2.w,f,(us++[Value.func (.yield (V.w.heap.size+1)) #[] #[]]++vs).toArray,V2.w,?_,?_,fun _ _=>trivial,?_,nofun,?_⟩
 .rw [hw2];exact run_enterLoop_outer MU a.tmps ts x y
 .have hm:Array.map a.eval #[Operand.const (Value.func (.yield (V.w.heap.size+1)) #[] #[])]=#[Value.func (.yield (V.w.heap.size+1)) #[] #[]]:=by
   apply Array.ext';simp only[Array.toList_map,map_cons,map_nil,Act.eval]
  simp only[resolve,Deferred.ofValue,hu,hm];rfl
 .unfold rz at EK;split at EK
  .rename_i fn wN;simp only[y04,Bool.not_eq_true',beq_eq_false_iff_ne,ne_eq]at EK;obtain⟨c,hb⟩:=Option.isSome_iff_exists.1 EK.1;simp[invoke,callFunc,wN,EK.2,hb]
  .cases EK
 .refine hc.mono fun e w' he=>?_;obtain⟨out,H2,⟨⟨xr,rfl⟩,hF2⟩,V3,rfl,c2,c3,c4,c5⟩:=he;obtain⟨YV,ts3,x3,y3,XM⟩:=hF H2 hF2;cases e with
  |returned v =>
   have hr3:V3.H[s.H.length+1]?=some (.iV .ready none YV ts3 x3 y3):=by rw[c4];exact XM
   have hρ:V3.ρ (s.H.length+1)=V.w.heap.size+1:=by
    have:=c2.eP (s.H.length+1) (by rw[NV];simp);unfold dL at this;rw[YW,hr3]at this;rw[this,b5]
   obtain⟨fn3,vs3,D3,o1,o2⟩:=c3.eP _ _ hr3;rw[hρ]at o1;obtain⟨V4,d1,d2,d3,d4,d5⟩:=AJ c3 (w':=V3.w.putObj (V.w.heap.size+1) (.loop { state:=.exhausted,pending:=none,fn:=fn3,tmps:=toArray vs3,params:=ts3,assign:=x3,body:=y3,defers:=D3 })) hr3 rfl
    (fun b hb=>World.putObj_heap_other (by rw[hρ]at hb;exact hb)) World.putObj_size rfl rfl rfl
   have YX:=run_endLoop (P:=P) o1 (fun h=>by cases h);refine⟨none,V4.w,by rw[d1];exact YX,?_⟩;have okS:jO V4 { aL:=s.aL,H:=H2.set (s.H.length+1) .aH,dh:=.mark s.H.length::s.dh } { a with defers:=[{ target:=.collected V.w.heap.size,args:=#[] }]++a.defers }:=by
    have s04:=s02.trans (c2.trans d4);refine⟨dK.aL.step s04,by rw[d2,c4],.cons ?_ (dK.dh.step s04)⟩;have hd:bY ah.Bp V2 s.H.length:=⟨.uE,by rw[NV];simp,rfl⟩;obtain⟨k1,k2⟩:=pG (c2.trans d4) hd;refine⟨k1,?_⟩;have YZ:V2.ρ s.H.length=V.w.heap.size:=by
     have hd1:bY ah.Bp V1 s.H.length:=⟨.uE,by rw[a2,dK.H];simp,rfl⟩;rw[(pG b3 hd1).2,<- dK.H,a5]
    rw[k2,YZ]
   have Vt:=hs.trans (s02.trans (c2.trans d4));exact⟨H2,hF2,V4,rfl,Vt,d5,okS,yO⟩
  |panicked ch=>exact c5.elim
  |outgrown=>exact c5.elim
end
end Go.Am
namespace Go.Mg
open Go Go.Am Go.Proofs Go.eY Go.bH Go.yU Go.bV
def dZ(l:List OP):List (List AV):=l.map jy
def dQ(l:List OP):AV:=.sl 17 false (dZ l)
theorem aW l:(dZ l).length=l.length:=y13 ..
def Nj(ls:List (List OP)):List (List AV):=ls.map fun l=>[dQ l]
theorem SQ ls:(Nj ls).length=ls.length:=y13 ..
def knS(ls:List (List OP))(W:List (Value×AV))(k:Nat):St:={ aL:=aC 48 [(3,.mp 0),(11,.sl 1 true (Nj ls)),(12,int ls.length),(13,int k)],H:=[.map W] }
theorem apd(ls:List (List OP))W(k:Nat)(hk:¬(k:Int)<ls.length)(h:True):Rq 0 36 0 (knS ls W k) (bF.exit 0) (sM 48 [(3,.mp 0)] [.map W]):=by
 exact aG [kj ((k:Int)<ls.length)] (aB 48 [3]) 1
def Qm:Value:=.agg #[.int .i64 0,.int .i64 0,.int .i64 0,.slice none 0 0,.int .i64 0,.string ⟨#[]⟩,.int .i64 0,.int .i64 0,.int .i64 0,.int .i64 0,.int .i64 0,.int .i64 0,.int .i64 0,.string ⟨#[]⟩,.string ⟨#[]⟩,.int .i64 0,.bool false]
def kiS(ls:List (List OP))(W:List (Value×AV))(k:Nat)(l:List OP)(i:Nat):St:={ aL:=aC 48 [(3,.mp 0),(11,.sl 1 true (Nj ls)),(12,int ls.length),(13,int k),(17,dQ l),(18,int l.length),(19,int i)],H:=[.map W] }
def kiX(ls:List (List OP))(W:List (Value×AV))(k:Nat):St:={ aL:=aC 48 [(3,.mp 0),(11,.sl 1 true (Nj ls)),(12,int ls.length),(13,int k)],H:=[.map W] }
theorem ape(ls:List (List OP))W W'(k:Nat)l(hl:ls.length<=1000000)(hk:k<(ls.length:Int))(hx:ls[k]?=some l)(hI:Rq 0 36 1 (kiS ls W k l 0) (.exit 2) (kiX ls W' k))(ex:bF)s'(h:Rq 0 36 0 (sM 48 [(3,.mp 0),(11,.sl 1 true (Nj ls)),(12,int ↑ls.length),(13,int ↑(k+1))] [.map W']) ex s'):Rq 0 36 0 (knS ls W k) ex s':=by
 exact aJ [ki ((k:Int)<ls.length),ko (bC.elem [dQ l]),kp (show(0:Int)<=k/\(Nj ls)[Int.toNat k]?=some [dQ l]from(bG hx)),kN 18 (aW l),kl [5,14,15,16] 1 hI,kW 46 (k+1) ↑(k+1)] (aB 48 [3,11,12,13]) 1 h
theorem ao8(ls:List (List OP))W(k i:Nat)l(hi:¬(i:Int)<l.length)(h:True):Rq 0 36 1 (kiS ls W k l i) (bF.exit 2) (kiX ls W k):=by
 exact aG [kj ((i:Int)<l.length)] (aB 48 [3,11,12,13]) 1
theorem apc(ls:List (List OP))W(k i:Nat)l(o:OP)e(he:e≠0)(hl:l.length<=1000000)(hi:(i:Int)<l.length)(hx:l[i]?=some o)(hc:Cq 31 [op o] (int e))(ex:bF)s'(h:((∀ e,e∈W->AV.bP 1 e.2=true)/\Rq 0 36 1 (sM 48 [(3,.mp 0),(11,.sl 1 true (Nj ls)),(12,int ↑ls.length),(13,int ↑k),(17,dQ l),(18,int ↑l.length),(19,int ↑(i+1))] [.map W]) ex s')):Rq 0 36 1 (kiS ls W k l i) ex s':=by
 obtain⟨o3,h⟩:=h;exact aJ [ki ((i:Int)<l.length),ke (jy o) (dZ l) i (bG hx),kc [] hc,kt (y32 (qF zO)),kW 45 (i+1) ↑(i+1),kp o3] (aB 48 [3,11,12,13,17,18,19]) 1 h
theorem ao9(ls:List (List OP))W W'(k i:Nat)l(o:OP)(hl:l.length<=1000000)(hi:i<(l.length:Int))(hx:l[i]?=some o)(hc:Cq 31 [op o] (int 0))(hG:bT P 49 W (.agg #[.int .i64 o.dv,.int .i64 o.sq]) (.lit Qm) (.lit Qm) false)(hP:jm P 49 W (.agg #[.int .i64 o.dv,.int .i64 o.sq]) (op o) W')ex(s':St)(h:((∀ e,e∈W'->AV.bP 1 e.2=true)/\Rq 0 36 1 (sM 48 [(3,.mp 0),(11,.sl 1 true (Nj ls)),(12,int ↑ls.length),(13,int ↑k),(17,dQ l),(18,int ↑l.length),(19,int ↑(i+1))] [.map W']) ex s')):Rq 0 36 1 (kiS ls W k l i) ex s':=by
 obtain⟨o2,h⟩:=h;exact aJ [ki ((i:Int)<l.length),ke (jy o) (dZ l) i (bG hx),kc [] hc,kY,ko (bC.lJ (AV.lit Qm) false),kp hG,kO,kO,ko (bC.wT W'),kp hP,kW 45 (i+1) ↑(i+1),kp o2] (aB 48 [3,11,12,13,17,18,19]) 1 h
theorem apa(ls:List (List OP))W W'(k i:Nat)l(o x:OP)v(hl:l.length<=1000000)(hi:i<(l.length:Int))(hx:l[i]?=some o)(hc:Cq 31 [op o] (int 0))(hG:bT P 49 W (.agg #[.int .i64 o.dv,.int .i64 o.sq]) (.lit Qm) (op x) true)(hv:Cq 65 [op o,op x] (int v))(hq:v<0)(hP:jm P 49 W (.agg #[.int .i64 o.dv,.int .i64 o.sq]) (op o) W')ex(s':St)(h:((∀ e,e∈W'->AV.bP 1 e.2=true)/\Rq 0 36 1 (sM 48 [(3,.mp 0),(11,.sl 1 true (Nj ls)),(12,int ↑ls.length),(13,int ↑k),(17,dQ l),(18,int ↑l.length),(19,int ↑(i+1))] [.map W']) ex s')):Rq 0 36 1 (kiS ls W k l i) ex s':=by
 obtain⟨o3,h⟩:=h;exact aJ [ki ((i:Int)<l.length),ke (jy o) (dZ l) i (bG hx),kc [] hc,kY,ko (bC.lJ (op x) true),kp hG,kY,kc [] hv,ki (v<0),ko (bC.wT W'),kp hP,kW 45 (i+1) ↑(i+1),kp o3] (aB 48 [3,11,12,13,17,18,19]) 1 h
theorem apb(ls:List (List OP))W(k i:Nat)l(o x:OP)v(hl:l.length<=1000000)(hi:i<(l.length:Int))(hx:l[i]?=some o)(hc:Cq 31 [op o] (int 0))(hG:bT P 49 W (.agg #[.int .i64 o.dv,.int .i64 o.sq]) (.lit Qm) (op x) true)(hv:Cq 65 [op o,op x] (int v))(hq:¬v<0)(ex:bF)s'(h:((∀ e,e∈W->AV.bP 1 e.2=true)/\Rq 0 36 1 (sM 48 [(3,.mp 0),(11,.sl 1 true (Nj ls)),(12,int ↑ls.length),(13,int ↑k),(17,dQ l),(18,int ↑l.length),(19,int ↑(i+1))] [.map W]) ex s')):Rq 0 36 1 (kiS ls W k l i) ex s':=by
 obtain⟨o3,h⟩:=h;exact aJ [ki ((i:Int)<l.length),ke (jy o) (dZ l) i (bG hx),kc [] hc,kY,ko (bC.lJ (op x) true),kp hG,kY,kc [] hv,kj (v<0),kW 45 (i+1) ↑(i+1),kp o3] (aB 48 [3,11,12,13,17,18,19]) 1 h
theorem adt(ls:List (List OP))W(hL:Rq 0 36 0 (knS ls [] 0) (.exit 0) { aL:=aC 48 [(3,.mp 0)],H:=[.map W] })(h:True):ak P G 36 [.sl 1 true (Nj ls)] [] (aS.ret (AV.mp 0)) [ah.map W]:=by
 exact aj [kN 12 (SQ ls),kl (rG [(0,3),(4,7),(14,34)]) 1 hL]
theorem Ac o(h:True):ak P G 39 [op o] [] (aS.ret (AV.fn (Fn.func 71) [] [AV.ptr 0 0])) [ah.box (jy o)]:=by
 exact aj []
theorem JA es(h:True):ak P G 64 [.md true es] [] (aS.ret (AV.fn (Fn.func 95) [] [AV.ptr 0 0])) [ah.box [AV.md true es]]:=by
 exact aj []
def jap:ah:=.iV .ready none (aC 13 [(2,.ptr 1 0)]) #[7] (KP P 123 0) (uT P 123 0)
def aq0(es:List (Value×AV))(c:Option (Value×AV))(lf:List (Value×AV)):List ah:=[.box [.md true es],.box [aK],.uE,jap,.iter c lf]
def WJ(es:List (Value×AV))(c:Option (Value×AV))(lf:List (Value×AV))(g:Nat)(v:List OP):List ah:=[.box [.md true es],.box [.aU 7 g 0 v.length],.uE,jap,.iter c lf,.aH,.aH,.aN g 17 false (dZ v)]
theorem tQ a b:dZ a++dZ b=dZ (a++b):=by simp[dZ]
theorem iY l:∀x∈dZ l,AV.aM [] x=true:=fun x hx=>by
 obtain⟨o,_,rfl⟩:=yG.1 hx;rfl
theorem al5(es lf:List (Value×AV))c(o:OP)(b:Bool)H'(h:(true=b)/\([ah.box [AV.md true es],ah.box [AV.aU 7 0 0 1],ah.uE,jap,ah.iter c lf,ah.box (jy o),ah.box (jy o),ah.aN 0 17 false [(jy o)]]=H')):dY P G 3 [op o] (aq0 es c lf++[ah.box (jy o)]) b H':=by
 obtain⟨e1,e2⟩:=h;exact dY.to ((jI (fun _=>[Qx (jy o),vV 176]) (fun _=>zQ))) e1 e2
theorem al6(es lf:List (Value×AV))c(o:OP)(g:Nat)v(hv:v.length<=1000000)(b:Bool)H'(h:(true=b)/\([ah.box [AV.md true es],ah.box [AV.aU 7 (g+1) 0 (length v+1)],ah.uE,jap,ah.iter c lf,ah.aH,ah.aH,ah.aN (g+1) 17 false (dZ v++[(jy o)]),ah.box (jy o)]=H')):dY P G 3 [op o] (WJ es c lf g v++[ah.box (jy o)]) b H':=by
 obtain⟨e1,e2⟩:=h;exact dY.to ((jI (fun _=>[kq g,kp (aW v).symm,vV ((length v+1)*176),kp (show ∀ x,x∈dZ v++[[int o.dv,int o.sq,int o.tm,AV.sl 2 false (au o.cx),int o.pk,str o.pn,int o.kd,int o.f1,int o.f2,int o.f3,int o.t1,int o.t2,int o.t3,str o.ky,str o.vl,int o.n,Am.bool o.on]]->AV.aM [] x=true from(by exact(Am.dx (iY _) (Am.dM rfl Am.eU))))]) (fun _=>zQ))) e1 e2
theorem Fg{α β:Type}{f:α->β}:∀{l'}{lf:List α},(lf.map f).Perm l'->∃QH,l'=QH.map f/\lf.Perm QH
 |[],lf,h=>⟨[],rfl,by simp_all⟩
 |e::l',lf,h=>by
  obtain⟨o,ho,rfl⟩:=yG.1 (h.mem_iff.2 y06);obtain⟨s,t,rfl⟩:=append_of_mem ho;have p:=h.symm.trans (perm_middle.map f);obtain⟨QH,rfl,hp⟩:=Fg (p.cons_inv).symm;exact⟨o::QH,rfl,perm_middle.trans (hp.cons o)⟩
def kV(o:OP):Value:=.agg #[.int .i64 o.dv,.int .i64 o.sq]
def en(o:OP):Value×AV:=(kV o,op o)
def Bj:Code->Array Oper
 |.region _ ops _=>ops
 |_=>#[]
def cv:Code:=vg P 95 0
def WK:Array Oper:=Bj (Code.hd cv)
def opv(i:Nat):Oper:=WK.toList.getD i default
theorem al7:cv = .seq (.region 1 WK false) (Code.tl cv):=zQ
theorem adZ:WK.toList=[opv 0,opv 1]:=zQ
theorem ya0(es lf:List (Value×AV))c(o:OP):dY P G 3 [op o] (aq0 es c lf++[.box (jy o)]) true (WJ es c lf 0 [o]) :=
 dY.pY (al5 es lf c o true _ ⟨rfl,rfl⟩) ⟨.inl rfl,.inl rfl,.inl rfl,.inl rfl,.inl rfl,.inr yO,.inr yO,.inl rfl,yO⟩
theorem ya1(es lf:List (Value×AV))c(o:OP)(g:Nat)v(hv:v.length<=1000000):dY P G 3 [op o] (WJ es c lf g v++[.box (jy o)]) true (WJ es c lf (g+1) (v++[o])++[.box (jy o)]) :=
 al6 es lf c o g v hv true _ ⟨rfl,by unfold WJ;rw[<- tQ,yD];rfl⟩
def vE:List AV:=aC 15 [(0,.yl 3),(6,.ptr 4 0)]
def vB(b:Bool)(x:AV):List AV:=gX (gX vE (some 7) x) (some 8) (Am.bool b)
theorem vp0 es lf(k:Value)o:bn P G none 4 (Code.tl cv) ⟨vB true (.bq [.lit (.bool true),.lit k,op o]),aq0 es (some (k,op o)) lf,[]⟩ ⟨vE,WJ es (some (k,op o)) lf 0 [o],[]⟩ :=
 bM [kt (Eq.refl true),ko (bC.call [] (aS.ret (Am.bool true)) (WJ es (some (k,op o)) lf 0 [o])),kp (ya0 es lf (some (k,op o)) o),kf (Eq.refl false)] (aB 15 [0,6]) 8 zQ
theorem vp1 es lf(k:Value)o(g:Nat)v(hv:v.length<=1000000):bn P G none 4 (Code.tl cv) ⟨vB true (.bq [.lit (.bool true),.lit k,op o]),WJ es (some (k,op o)) lf g v,[]⟩ ⟨vE,WJ es (some (k,op o)) lf (g+1) (v++[o]),[]⟩ :=
 bM [kt (Eq.refl true),ko (bC.call [] (aS.ret (Am.bool true)) (WJ es (some (k,op o)) lf (g+1) (v++[o])++[ah.box (jy o)])),kp (ya1 es lf (some (k,op o)) o g v hv),kf (Eq.refl false),kp (show ∀ x,x∈dZ (v++[o])->AV.aM [] x=true from iY _)] (aB 15 [0,6]) 8 zQ
def vF:AV:=.bq [.lit (.bool false)]
theorem ahM H:sP P G none 4 (Code.tl cv) ⟨vB false vF,H,[]⟩ (mZ [kf (Eq.refl false)])=some (.exit 0,⟨vB false vF,H,[]⟩,[],jS [kf (Eq.refl false)]):=zQ
def Vf(os:List OP):Type:={ x:Option (Value×AV)×List OP×List (Value×AV) // ∃lf:List OP,x.2.2=lf.map en/\(x.2.1++lf).Perm os }
def aqS(es:List (Value×AV))(c:Option (Value×AV))(lf:List (Value×AV)):List OP->List ah
 |[]=>aq0 es c lf
 |o::v=>WJ es c lf v.length (o::v)
def vS(es:List (Value×AV)){os}(σ:Vf os):St:=⟨vE,aqS es σ.1.1 σ.1.2.2 σ.1.2.1,[]⟩
def vX(es:List (Value×AV)){os}(σ:Vf os):St:=⟨vB false vF,aqS es σ.1.1 σ.1.2.2 σ.1.2.1,[]⟩
theorem ahN es{os}(rW:os.length<=1000000)V0 V(a:Act)(h0:V0.H.length=4)(fB:Step V0 V)(hG:aD G V)(dK:jO V ⟨vE,aq0 es none (os.map en),[]⟩ a) :
 eO (fz none) 0 P cv (fun e a w=>∃σ:Vf os,σ.1.2.2=[]/\Am.A9 G V0 (.exit 0) (vX es σ) e a w) a V.w:=by
 refine Lu      (ta:=7) (it:=6)        (vS es) (fun σ=>σ.1.2.2) (vX es)
  adZ zQ zQ zQ (fun σ=>rfl) (fun σ=>?_) ?_ ?_ (fun h=>by cases h) _ ⟨(none,[],os.map en),os,rfl,.refl _⟩ rfl V0 V a h0 fB hG dK
 .obtain ⟨⟨cur,dn,left⟩,lf,ML,GL⟩:=σ;cases dn<;>exact⟨cur,rfl⟩
 .intro ⟨⟨cur,dn,left⟩,lf,ML,GL⟩ e left' hp;have ML:left=lf.map en:=ML;have hp:left.Perm (e::left'):=hp;have GL:(dn++lf).Perm os:=GL;rw[ML]at hp;obtain⟨lf2,h2,hj⟩:=Fg hp;cases lf2 with
  |nil=>cases h2
  |cons o QH =>
   injection h2 with h2 h3;subst h2 h3;have adM:((dn++[o])++QH).Perm os:=by grind
   have hl:dn.length<=1000000:=by
    have:=GL.length_eq;grind
   refine⟨⟨(some (en o),dn++[o],QH.map en),QH,rfl,adM⟩,vB true (.bq [.lit (.bool true),.lit (kV o),op o]),rfl,?_,?_⟩
   .cases dn<;>(kernel_rfl)
   .cases dn with
    |nil=>exact vp0 es _ (kV o) o
    |cons x v =>
     have:=vp1 es (QH.map en) (kV o) o v.length (x::v) hl;have e:(v++[o]).length=v.length+1:=zS
     show bn P G none 4 (Code.tl cv) ⟨_,WJ es (some (en o)) (QH.map en) v.length (x::v),[]⟩ ⟨vE,WJ es (some (en o)) (QH.map en) (v++[o]).length (x::(v++[o])),[]⟩;rw[e];exact this
 .intro σ hl;refine⟨vB false vF,?_,?_⟩
  .kernel_rfl
  .exact eT _ (ahM _) (nV _)
end Go.Mg
namespace Go.Am
open Go
section
variable {F:Fence} {n:Nat} {P:Program}
theorem vK{fn}{tmps}{R R'}(h:∀e w,R e w->R' e w):∀{ds}{u}{w},LeavesIn F n P fn tmps R ds u w->LeavesIn F n P fn tmps R' ds u w
 |[],.returning,_,⟨v,h1,h2⟩=>⟨v,h1,h _ _ h2⟩
 |[],.panicking _,_,h1=>h _ _ h1
 |[],.run,_,h1=>h1
 |_::_,_,_,⟨h1,h2,fv,cap,f,args,h3,h4,h5,h6⟩=>⟨h1,h2,fv,cap,f,args,h3,h4,h5,h6.mono fun e _ _ hh=>by
  cases e
  .exact vK h hh
  .exact vK h hh
  grind⟩
theorem sw{fn}{tmps}{R R'}(h:∀e w,R e w->R' e w):∀{ds}{u}{w},LeavesInM F n P fn tmps R ds u w->LeavesInM F n P fn tmps R' ds u w
 |[],_,_,h1=>vK h h1
 |_::_,_,_,⟨h1,h2⟩=>⟨h1,by
  rcases h2 with⟨r,w',e1,e2,e3⟩|⟨k1,fv,cap,f,args,h3,h4,h5,h6⟩
  .exact .inl ⟨r,w',e1,e2,sw h e3⟩
  .refine .inr ⟨k1,fv,cap,f,args,h3,h4,h5,h6.mono fun e _ _ hh=>?_⟩;cases e
   .exact sw h hh
   .exact sw h hh
   grind⟩
theorem uh{fn}{R R'}(h:∀e w,R e w->R' e w):∀{e}{a}{w},bodyPostM F n P fn R e a w->bodyPostM F n P fn R' e a w:=by
 intro e a w hb;cases e<;>first|exact sw h hb|exact h _ _ hb|exact hb
end
end Go.Am
namespace Go.Mg
open Go Go.Am Go.Proofs Go.eY Go.bH Go.yU Go.bV
def base(es:List (Value×AV)):List ah:=[.box [.md true es],.box [aK],.uE,jap]
def fnv:Func:=(P.funcs[95]?).getD default
def v0:Code:=Code.hd (oW P 95)
theorem v_0 es:bn P G none 4 v0 ⟨[.yl 3,.ptr 0 0]++replicate 13 (.lit undef),base es,[]⟩ ⟨vE,aq0 es none es,[]⟩:=bM [] (aB 15 [0,6]) 5 zQ
theorem aqa(es:List (Value×AV))cur:EA P G 4 fnv .normal ⟨vB false vF,aqS es cur [] [],[]⟩ []=some (.ret (.bq []),base es,[]):=zQ
theorem aqb(es:List (Value×AV))cur(o:OP)v:EA P G 4 fnv .normal ⟨vB false vF,aqS es cur [] (o::v),[]⟩ []=some (.ret (.bq []),aqS es cur [] (o::v),[]):=zQ
def VF(es:List (Value×AV))(os:List OP)(H2:List ah):Prop:=∃v cur,v.Perm os/\H2=match v with
 |[]=>base es
 |o::v=>aqS es cur [] (o::v)
theorem WL os(rW:os.length<=1000000):Lv P G 95 [.yl 3,.ptr 0 0] (base (os.map en)) (fun out H2=>(∃xr,out = .ret xr)/\VF (os.map en) os H2):=by
 have wN:P.funcs[95]?=some fnv:=zQ
 have hb:fnv.body=some (.seq v0 (.block 0 (.loop cv))):=zQ
 refine Fj wN hb fun V a hH hG dK=>?_;have h0:V.H.length=4:=by rw[hH];rfl
 have hn:fnv.ntmps-[AV.yl 3,.ptr 0 0].length=13:=zQ
 refine bn.seq (v_0 (os.map en)) h0 (Step.refl V) hG dK fun V1 a1 s1 g1 k1=>?_;refine Go.wpIn_block (eO.wpIn (eO.mono (ahN (os.map en) rW V V1 a1 h0 s1 g1 k1) fun e a2 w2 hE=>?_));obtain⟨⟨⟨cur,dn,left⟩,lf,ML,GL⟩,hl,V2,rfl,m1,m2,m3,m4⟩:=hE;have ML:=ML;have EJ:lf=[]:=by simp_all
 subst hl EJ;rw[y23]at GL;cases e<;>first|exact m4.elim|skip
 subst m4;cases dn with
 |nil =>
  have iJ:=aqa (os.map en) cur;rw[<- h0]at iJ;exact uh (fun e w h=>⟨_,_,⟨⟨_,rfl⟩,[],cur,GL,rfl⟩,h⟩) (vU iJ trivial .normal a2 V2.w ⟨V2,rfl,m1,m2,m3,yO⟩)
 |cons o v =>
  have iJ:=aqb (os.map en) cur o v;rw[<- h0]at iJ;exact uh (fun e w h=>⟨_,_,⟨⟨_,rfl⟩,o::v,cur,GL,rfl⟩,h⟩) (vU iJ trivial .normal a2 V2.w ⟨V2,rfl,m1,m2,m3,yO⟩)
def rP:AV:=.fn (.func 95) [] [.ptr 0 0]
def fna:Func:=(P.funcs[123]?).getD default
def bda:Code:=oW P 123
def a0:Code:=Code.hd bda
def a1:Code:=Code.hd (Code.hd (Code.tl bda))
def aE:Code:=Code.tl (Code.tl bda)
def aX:Code:=KP P 123 0
def aY:Code:=uT P 123 0
def aV:List AV:=aC 13 [(2,.ptr 1 0),(6,rP)]
theorem p_0 es:bn P G none 1 a0 ⟨[aK,rP]++replicate 11 (.lit undef),[.box [.md true es]],[]⟩ ⟨aC 13 [(1,rP),(2,.ptr 1 0)],[.box [.md true es],.box [aK]],[]⟩:=bM [] (aB 13 [1,2]) 2 zQ
theorem p_1 es:bn P G none 1 a1 ⟨aC 13 [(1,rP),(2,.ptr 1 0)],[.box [.md true es],.box [aK]],[]⟩ ⟨aV,[.box [.md true es],.box [aK]],[]⟩:=bM [] (aB 13 [2,6]) 2 zQ
theorem aqc es:y7 P G 1 fna aE ⟨aV,(base es).set 3 .aH,[.mark 2]⟩ []=some (.ret aK,[.box [.md true es]],[]):=zQ
theorem aqd(es:List (Value×AV))cur(o:OP)v:y7 P G 1 fna aE ⟨aV,(aqS es cur [] (o::v)).set 3 .aH,[.mark 2]⟩ [] =
 some (.ret (.aU 7 v.length 0 (o::v).length),[.box [.md true es],.box [.aU 7 v.length 0 (o::v).length],.aH,.aH,.iter cur [],.aH,.aH,.aN v.length 17 false (dZ (o::v))],[]):=zQ
def cH(es:List (Value×AV))(cur:Option (Value×AV)):List OP->List ah
 |[]=>[.box [.md true es]]
 |o::v=>[.box [.md true es],.box [.aU 7 v.length 0 (o::v).length],.aH,.aH,.iter cur [],.aH,.aH,.aN v.length 17 false (dZ (o::v))]
def cO:List OP->AV
 |[]=>aK
 |o::v=>.aU 7 v.length 0 (o::v).length
def CF(es:List (Value×AV))(os:List OP)(out:aS)(H2:List ah):Prop:=∃v cur,v.Perm os/\out = .ret (cO v)/\H2=cH es cur v
theorem abl os(rW:os.length<=1000000):Lv P G 123 [aK,rP] [.box [.md true (os.map en)]] (CF (os.map en) os):=by
 have wN:P.funcs[123]?=some fna:=zQ
 have hb:fna.body=some (.seq a0 (.seq (.seq a1 (.block 0 (.rangeFunc (.tmp 6) #[7] aX aY))) aE)):=zQ
 refine Fj wN hb fun V a hH hG dK=>?_;have h0:V.H.length=1:=by rw[hH];rfl
 have hn:fna.ntmps-[aK,rP].length=11:=zQ
 rw[hn]at dK;refine bn.seq (p_0 (os.map en)) h0 (Step.refl V) hG dK fun V1 b1 s1 g1 k1=>?_;refine Go.wpIn_seq ?_;refine bn.seq (p_1 (os.map en)) h0 s1 g1 k1 fun V2 b2 s2 g2 k2=>?_;refine Go.wpIn_block ?_;have ht:jY (Bf G aV (.tmp 6))=some (95,[],[.ptr 0 0]):=zQ
 refine Go.wpIn_mono (WI (P:=P) (G:=G) (n0:=1) (s:=⟨aV,[.box [.md true (os.map en)],.box [aK]],[]⟩) (aB 13 [2]) ht zQ (F:=VF (os.map en) os)
  (WL os rW) (fun H2 h=>?_) h0 s2 g2 k2) fun e a3 w3 hE=>?_
 .obtain ⟨v,cur,_,rfl⟩:=h;cases v<;>exact⟨_,_,_,_,rfl⟩
 .obtain ⟨H2,⟨v,cur,hp,rfl⟩,V3,rfl,m1,m2,m3,m4⟩:=hE;cases e<;>first|exact m4.elim|skip
  show aE.wpIn (fz none) 0 P _ a3 V3.w;cases v with
  |nil =>
   exact Go.wpIn_mono (mJ [] (aqc (os.map en)) h0 m1 m2 m3) fun e a w h=>uh (fun e w h=>⟨_,_,⟨[],cur,hp,rfl,rfl⟩,h⟩) h
  |cons o v =>
   exact Go.wpIn_mono (mJ [] (aqd (os.map en) cur o v) h0 m1 m2 m3) fun e a w h=>uh (fun e w h=>⟨_,_,⟨o::v,cur,hp,rfl,rfl⟩,h⟩) h
end Go.Mg
namespace Go.Am
open Go
section
variable {P:Program} {G:Nat->Option (List AV)}
def ahb(o:Oper):Array TypeId:=match o.op with
 |.call c=>c.argTypes
 |_=>#[]
theorem Qd{ops}{r}{Q}{i}{rest}{o}{args}{ts}{f}{fn}{H}{F}{V}{a}{aL}{ds}(ho:ops[i]?=some o)(YS:o.guard=none)(bA:o.op = .call { callee:=.value (.func f),args:=args,argTypes:=ts })(wN:P.funcs[f]?=some fn)(dK:rz P f=true)(hC:Lv P G f (args.toList.map (Bf G aL)) H F)(hG:aD G V)(hH:V.H=H)(he:eF V aL a)(hd:dS V ds a.defers)(aqe:∀out H',F out H'->∃x,out = .ret x)(next:∀x H' V' a',F (.ret x) H'->Step V V'->aD G V'->V'.H=H'->eF V' (gX aL o.dst x) a'->dS V' ds a'.defers->wpOpsIn (fz r) 0 P ops Q rest a' V'.w):wpOpsIn (fz r) 0 P ops Q (i::rest) a V.w:=by
 have al8:∀l:List Operand,bR V (l.map (Bf G aL)) (l.map a.eval):=by
  intro l
  induction l with
  |nil=>exact⟨rfl,fun j hj=>absurd hj zS⟩
  |cons y l ih=>exact .cons (nG    hG fun t _=>he.get t) ih
 have hc:=hC V _ hH hG (al8 args.toList);refine yX    ho YS bA wN dK rfl (R:=fun e w'=>∃out H',F out H'/\xu G V H' out e w') ?_ fun e w' hE=>?_
 .have e:#[]++args.map a.eval++#[]=(args.toList.map a.eval).toArray:=by
   apply Array.ext';simp
  grind
 .obtain ⟨out,H',hF,V',rfl,s1,g1,h1,ho'⟩:=hE;obtain⟨x,rfl⟩:=aqe out H' hF;cases e with
  |returned v =>
   refine⟨v,rfl,next x H' V' _ hF s1 g1 h1 ((he.step s1).put o.dst ho') ?_⟩;rw[nT];exact hd.step s1
  |panicked ch=>exact ho'.elim
  |outgrown=>exact ho'.elim
end
end Go.Am
namespace Go.Mg
open Go Go.Am Go.Proofs Go.eY Go.bH Go.yU Go.bV
def fnc:Func:=(P.funcs[93]?).getD default
def bdc:Code:=oW P 93
def c0:Code:=Code.hd bdc
def WM:Array Oper:=Bj (Code.hd (Code.tl bdc))
def Qr(i:Nat):Oper:=WM.toList.getD i default
theorem c_0 es:bn P G none 1 c0 ⟨[rP]++replicate (fnc.ntmps-1) (.lit undef),[.box [.md true es]],[]⟩ ⟨aC 5 [(0,rP)],[.box [.md true es]],[]⟩:=bM [] (aB 5 [0]) 1 zQ
theorem c_1 es:vw P G none WM 0 [Qr 0] (aC 5 [(0,rP)]) [.box [.md true es]] [] []=some (.normal,aC 5 [(0,rP),(3,rP)],[.box [.md true es]],[],[],[]):=zQ
theorem c_2 H(x:AV):vw P G none WM 2 [Qr 2] (aC 5 [(0,rP),(3,rP),(4,x)]) H [] []=some (.normal,aC 5 [(0,rP),(2,x),(3,rP),(4,x)],H,[],[],[]):=zQ
theorem c_3(es:List (Value×AV))cur(v:List OP):EA P G 1 fnc .ret ⟨aC 5 [(0,rP),(2,cO v),(3,rP),(4,cO v)],cH es cur v,[]⟩ []=some (.ret (cO v),cH es cur v,[]):=by
 cases v with
 |nil=>kernel_rfl
 |cons o v=>kernel_rfl
def dH(es:List (Value×AV)):List OP->List ah
 |[]=>[.box [.md true es]]
 |o::v=>[.box [.md true es],.aH,.aH,.aH,.aH,.aH,.aH,.aN v.length 17 false (dZ (o::v))]
def DF(es:List (Value×AV))(os:List OP)(out:aS)(H2:List ah):Prop:=∃v,v.Perm os/\out = .ret (cO v)/\H2=dH es v
theorem ahO(es:List (Value×AV))cur:∀v:List OP,HSub (cH es cur v) (dH es v)
 |[]=>⟨.inl rfl,yO⟩
 |_::_=>⟨.inl rfl,.inr yO,.inr yO,.inr yO,.inr yO,.inr yO,.inr yO,.inl rfl,yO⟩
theorem Wv os(rW:os.length<=1000000):Lv P G 93 [rP] [.box [.md true (os.map en)]] (DF (os.map en) os):=by
 have wN:P.funcs[93]?=some fnc:=zQ
 have hb:fnc.body=some (.seq c0 (.seq (.region 1 WM false) .ret)):=zQ
 have hfa:P.funcs[123]?=some fna:=zQ
 refine Fj wN hb fun V a hH hG dK=>?_;have h0:V.H.length=1:=by rw[hH];rfl
 refine bn.seq (c_0 (os.map en)) h0 (Step.refl V) hG dK fun V1 a1 s1 g1 k1=>?_;refine Go.wpIn_seq ?_;refine wpIn_region ?_;refine qg  (os2:=[Qr 1,Qr 2])      (c_1 (os.map en)) trivial zQ g1 k1.H k1.aL k1.dh fun V2 a2 s2 g2 YT e2 d2=>?_;have yV:(List.range WM.size).drop (0+[Qr 0].length)=1::(List.range WM.size).drop 2:=zQ
 have hC:=abl os rW;have jf:#[Operand.const (.slice none 0 0),.tmp 3].toList.map (Bf G (aC 5 [(0,rP),(3,rP)]))=[aK,rP]:=zQ
 rw[<- jf]at hC;refine Qd (o:=Qr 1) (ts:=ahb (Qr 1)) zQ zQ zQ hfa zQ hC g2 YT e2 d2 (fun out H' ⟨v,cur,_,h,_⟩=>⟨_,h⟩) ?_;rintro x H' V3 a3 ⟨v,cur,hp,hx,rfl⟩ s3 g3 hh3 e3 d3;injection hx with hx;subst hx;refine ni (c_2 (cH (os.map en) cur v) (cO v)) trivial zQ g3 hh3 e3 d3 (fun _ V4 a4 s4 g4 hh4 e4 d4=>?_) fun x hx=>by cases hx
 have iJ:=c_3 (os.map en) cur v;rw[<- h0]at iJ;have hs:=((s1.trans s2).trans s3).trans s4;have fB:jO V4 ⟨aC 5 [(0,rP),(2,cO v),(3,rP),(4,cO v)],cH (os.map en) cur v,[]⟩ a4:=⟨e4,hh4,d4⟩;exact Go.wpIn_mono (eT     (bf:=[])   Code.ret rfl trivial V V4 a4 h0 hs g4 fB) fun e a w h =>
  uh (fun e w h=>⟨_,_,⟨v,hp,rfl,rfl⟩,h.sub (ahO (os.map en) cur v)⟩) (vU iJ trivial e a w h)
end Go.Mg
namespace Go.Am
open Go Go.Lib Go.Sort Go.Proofs Go.Shelf
section
variable {P:Program} {G:Nat->Option (List AV)} {V:View}
theorem WO(hG:aD G V){id}{eP ou}(dU:V.H[id]?=some eP)(bA:eP.open_=true){w'}(hk:∀V':View,V'.w=w'->V'.H[id]?=some ou->V'.ρ id=V.ρ id->dL V V' id)(hh:∀b,b<V.w.heap.size->b≠V.ρ id->w'.heap[b]?=V.w.heap[b]?)(hs:V.w.heap.size<=w'.heap.size)(h1:w'.os=V.w.os)(h2:w'.tape=V.w.tape)(h3:w'.output=V.w.output)(NW:∀V':View,V'.w=w'->Step V V'->fZ V' (V.ρ id) ou)(GH:V.w.drawn<=w'.drawn):∃V',V'.w=w'/\V'.H=V.H.set id ou/\V'.ρ=V.ρ/\Step V V'/\aD G V':=by
 have bg:=(yC.1 dU).1;let V':View:={ w:=w',M:=V.M,H:=V.H.set id ou,ρ:=V.ρ };have hM:=hG.gW id _ dU bA;have Ho:∀i,i≠id->V'.H[i]?=V.H[i]? := fun i hi=>by grind
 have hl:V'.H.length=V.H.length:=by show(V.H.set id _).length=_;simp
 have ne:∀i,i<V.H.length->i≠id->V.ρ i≠V.ρ id:=fun i hi fF e=>fF (hG.inj i id hi bg e);have fB:Step V V':={
  os:=h1
  tape:=h2
  output:=h3
  size:=hs
  drawn:=GH
  keep:=fun b hb hn=>⟨hh b hb fun e=>hn id bg e.symm,Iff.rfl⟩
  data:=fun b hb hn=>⟨hh b hb fun e=>hn (e▸hM),hn⟩
  bL:=Nat.le_of_eq hl.symm
  fresh:=fun i hi=>.inl ⟨by rw[hl]at hi;exact hi,rfl⟩
  eP:=fun i hi=>by
   by_cases e:i=id
   .grind
   .exact .refl hi (Ho i e) rfl (hh _ (hG.lt i hi) (ne i hi e)) }
 refine⟨V',rfl,rfl,rfl,fB,?_⟩;exact{
  lt:=fun i hi=>by rw[hl]at hi;exact y25 (hG.lt i hi) hs
  eP:=fun i o ho=>by
   by_cases e:i=id
   .grind
   .rw [Ho i e]at ho;have hi:=(yC.1 ho).1;exact(hG.eP i o ho).step fB (hh _ (hG.lt i hi) (ne i hi e))
  inj:=fun i j hi hj=>by rw[hl]at hi hj;exact hG.inj i j hi hj
  gW:=fun i o ho J8=>by
   by_cases e:i=id
   .subst e;exact hM
   .rw [Ho i e]at ho;exact hG.gW i o ho J8
  ng:=hG.gD fB }
structure El(V:View){α:Type}(oc:α->List AV)(k:Nat)(Q:α->Prop) where
 vs:List Value
 x:α
 len:vs.length=k
 one:∀v∈vs,v.oneCell'=true
 rep:∀j,j<k->dR V.w V.M ((oc x).getD j .aP) (vs.getD j undef)
 ok:Q x
theorem aaG{α:Type}{oc:α->List AV}{k:Nat}{Q:α->Prop}{cf:α->α->Int}{ρ:Ren}(L:SlLaysF0.n6 P ρ)(aE:∀w,(isAgg (ρ.t 24)).run P w = .ok true w)(zE:∀w,(Go.sizeOf (ρ.t 24)).run P w = .ok k w)(bL:∀x,(oc x).length=k)(aaj:∀x,(oc x).all AV.fJ=true)(hS:SWO (ltOf fun a b:El V oc k Q=>cf a.x b.x)){f:Nat}(eg:∀args w,(callFunc f args).run P w = .ok (.enter f args) w)(FY:∀x y,Q x->Q y->ak P G f [.agg (oc x),.agg (oc y)] [] (.ret (int (cf x y))) [])(hG:aD G V){id gg:Nat}{xs:List α}(hH:V.H[id]?=some (.aN gg k false (xs.map oc)))(fF:xs≠[])(Zf:xs.length<4611686018427387904)(hQ:∀x∈xs,Q x){v:Value}(hv:dI V (.aU id gg 0 xs.length) v):Calls P (ρ.f 6) #[v,.func (.func f) #[] #[]] V.w fun e w'=>e = .returned (.tuple #[])/\∃(V':View)(r9:List α),V'.w=w'/\Step V V'/\aD G V'/\V'.H=V.H.set id (.aN gg k false (r9.map oc))/\r9.Perm xs/\r9.Pairwise (fun a b=>¬cf b a<0):=by
 have xZ:=wV hv;unfold qJ at xZ;rw[hH]at xZ;obtain⟨A,cap,c,t,rfl,hA,uQ,hcm,lT,Dy⟩:=xZ.2.2 rfl;have qh:=length_pos_iff.2 fF;have hA':=hA zO;rw[Nat.zero_mul]at hA';subst hA';obtain⟨t',c',hc',iZ,acD,hel⟩:=hG.eP id _ hH;rw[lT]at hc';injection hc' with hc';injection hc' with e1 e2 e3;subst e1 e2;have aqf:=(yC.1 hH).1;have hb:=hG.lt id aqf;have hM:=hG.gW id _ hH rfl;rw[y13]at iZ hel;have mk:∀i:Fin xs.length,∃E:El V oc k Q,E.x=xs[i]/\∀j,j<k->c[i.1*k+j]?=some (E.vs.getD j undef):=by
  intro i;have Cb:∀j,j<k->∃v,c[i.1*k+j]?=some v/\v.oneCell'=true/\dR V.w V.M ((oc xs[i]).getD j .aP) v:=fun j hj=>by
   obtain⟨v,h1,h2,h3⟩:=hel i.1 j i.2 hj;refine⟨v,h1,h2,?_⟩;have e:(xs.map oc).getD i.1 []=oc xs[i]:=zS
   rw[e]at h3;refine kE ?_ h3;have hp:=all_eq_true.1 (aaj xs[i]);rw[yB,yA (by rw[bL];exact hj)];exact hp _ (y03 _)
  have hg:∀j (hj:j<k),(((List.range k).map fun j=>c.getD (i.1*k+j) undef).getD j undef)=c.getD (i.1*k+j) undef:=fun j hj=>by
   rw[yB,getElem?_map,getElem?_range hj];rfl
  have hgv:∀j,j<k->c[i.1*k+j]?=some (c.getD (i.1*k+j) undef):=fun j hj=>by
   obtain⟨v,h1,_⟩:=Cb j hj;rw[Array.getD_eq_getD_getElem?,h1];rfl
  refine⟨⟨(List.range k).map fun j=>c.getD (i.1*k+j) undef,xs[i],zS,fun v hv=>?_,fun j hj=>?_,hQ _ (y03 _)⟩,rfl,fun j hj=>?_⟩
  .grind
  .grind
  .grind
 let el:Fin xs.length->El V oc k Q:=fun i=>(mk i).choose;have aqg:∀i,(el i).x=xs[i]:=fun i=>(mk i).choose_spec.1;have aqh:∀i j,j<k->c[i.1*k+j]?=some ((el i).vs.getD j undef):=fun i=>(mk i).choose_spec.2;let ls:List (El V oc k Q):=ofFn el;have hls:ls.length=xs.length:=by simp[ls]
 have hlx:ls.map El.x=xs:=by
  apply ext_getElem (by simp[ls]);intro i h1 h2;simp[ls,aqg]
 haveI:Inhabited (El V oc k Q):=⟨el ⟨0,qh⟩⟩;have ahP:HoldsK (fun a:El V oc k Q=>a.vs) k V.w (V.ρ id) 0 ls.toArray:=by
  intro j hj;rw[size_flatK]at hj;have hk0:0<k:=by grind
  have hjm:j % k<k:=Nat.mod_lt _ hk0;have hjs:j<xs.length*k:=by simpa[hls]using hj
  have hjd:=Nat.div_lt_of_lt_mul (by rw[Nat.mul_comm];exact hjs);have e:j/k*k+j % k=j:=by rw[Nat.mul_comm];exact Nat.div_add_mod j k
  have hc:=aqh ⟨j/k,hjd⟩ (j % k) hjm;rw[e]at hc;have e2:(flatK (fun a:El V oc k Q=>a.vs) k ls.toArray)[j]! = (el ⟨j/k,hjd⟩).vs.getD (j % k) undef:=by
   rw[get_flatK _ _ _ _ hj];have:ls.toArray[j/k]! = el ⟨j/k,hjd⟩:=by simp[ls,hjd]
   rw[this];have hh:j % k<(el ⟨j/k,hjd⟩).vs.length:=by rw[El.len];exact hjm
   rw[getElem!_pos (el ⟨j/k,hjd⟩).vs _ hh,yB,yA hh];rfl
  constructor
  .show V.w.cell? ⟨V.ρ id,0+j,none⟩=some (_root_.id _);rw[_root_.id,e2,y12];simp[World.cell?,lT,hc]
  .show V.w.frozen? ⟨V.ρ id,0+j,none⟩=false;simp[World.frozen?,lT]
 have al9:ls.toArray.size=xs.length:=by simp[hls]
 have Xw:∀(n:Nat)(d:Array (El V oc k Q))(os:Array Obj),(sortWorldK (fun a:El V oc k Q=>a.vs) k V.w (V.ρ id) 0 n d os).heap[V.ρ id]?=some (.cells (putCells _root_.id 0 (flatK (fun a:El V oc k Q=>a.vs) k d) c) t (0,0)):=fun n d os=>by
  unfold sortWorldK;rw[heap_grow_old _ _ (by rw[size_putRowK];exact hb)];show(V.w.heap.modify (V.ρ id) (onCells (putCells _root_.id 0 (flatK (fun a:El V oc k Q=>a.vs) k d))))[V.ρ id]?=_;rw[Array.getElem?_modify,yL rfl,lT];rfl
 have holds:∀(n:Nat)(d:Array (El V oc k Q))(os:Array Obj)(b:Nat),b<V.w.heap.size->b≠V.ρ id->(sortWorldK (fun a:El V oc k Q=>a.vs) k V.w (V.ρ id) 0 n d os).heap[b]?=V.w.heap[b]? := fun n d os b hb' fF=>by
  unfold sortWorldK;rw[heap_grow_old _ _ (by rw[size_putRowK];exact hb')];show(V.w.heap.modify (V.ρ id) _)[b]?=_;rw[Array.getElem?_modify];simp[Ne.symm fF]
 have lG:CmpLays P f #[] (fun a:El V oc k Q=>a.vs) k (fun a b=>cf a.x b.x) (V.ρ id) 0 ls.toArray.size V.w:=by
  intro m os dk _ x y;have hW:∀b,b<V.w.heap.size->¬V.M b->(sortWorldK (fun a:El V oc k Q=>a.vs) k V.w (V.ρ id) 0 m dk os).heap[b]?=V.w.heap[b]?/\¬(fun _:Nat=>False) b:=fun b hb' hm=>⟨holds m dk os b hb' fun e=>hm (e▸hM),fun h=>h⟩;have hr:∀z:El V oc k Q,dI (nA (sortWorldK (fun a:El V oc k Q=>a.vs) k V.w (V.ρ id) 0 m dk os)) (.agg (oc z.x)) (.agg z.vs.toArray):=fun z=>.pure _ _ (.agg _ _ (by rw[z.len,bL]) fun j hj=>(z.rep j (by rwa[bL]at hj)).step hW);have XA:Calls P f #[.agg x.vs.toArray,.agg y.vs.toArray] (sortWorldK (fun a:El V oc k Q=>a.vs) k V.w (V.ρ id) 0 m dk os) fun e w'=>e = .returned (.int .i64 (cf x.x y.x))/\∃q UU,w'=Sort.grow ((sortWorldK (fun a:El V oc k Q=>a.vs) k V.w (V.ρ id) 0 m dk os).drewN q) UU :=
   (Hl (FY x.x y.x x.ok y.ok) (fun g cs h=>(hG.ng g cs h).step hW) (.cons (hr x) (.cons (hr y) ⟨rfl,fun j hj=>absurd hj zS⟩))).mono fun e w' ⟨v,q,UU,he,⟨V',_,hr⟩,hw⟩=>by
    have:v = .int .i64 (cf x.x y.x):=fC rfl hr;subst this;exact⟨he,q,UU,hw⟩
  exact XA
 have FZ:=AnyQ.slices_SortFunc L k aE zE (fun a:El V oc k Q=>a.vs) (fun a=>a.len) (fun a=>a.one) (fun a b=>cf a.x b.x) hS f #[] (V.ρ id) 0 cap ls.toArray V.w eg lG ahP hb zO;rw[al9]at FZ;refine FZ.mono ?_;rintro e w' ⟨rfl,d',n,os,⟨p1,_,p3⟩,hs,rfl⟩;have hd:d'.size=xs.length:=by rw[p1,al9]
 rw[Array.extract_eq_self_of_le zO,Array.extract_eq_self_of_le zO]at p3;refine⟨rfl,?_⟩;have ama:(d'.toList.map El.x).length=xs.length:=by simp[hd]
 obtain⟨V',v1,v2,v3,v4,v5⟩:=WO (ou:=.aN gg k false ((d'.toList.map El.x).map oc)) hG hH rfl (w':=sortWorldK (fun a:El V oc k Q=>a.vs) k V.w (V.ρ id) 0 n d' os)
  (fun V' hw Dq hρ=>by
   unfold dL;rw[hH,Dq];refine .inr ⟨rfl,rfl,hρ,fun c0 t0 fr h0=>?_⟩;rw[lT]at h0;injection h0 with h0;injection h0 with q1 q2 q3;subst q1 q2 q3;exact⟨_,by rw[hw];exact Xw n d' os,by simp[putCells]⟩)
  (holds n d' os) (by unfold sortWorldK;rw[size_grow,size_putRowK];show V.w.heap.size<=V.w.heap.size+_;omega) rfl rfl rfl
  (fun V' hw fB=>⟨t,_,by rw[hw];exact Xw n d' os,by rw[y13,ama];simpa[putCells]using iZ,fun x hx=>by
   obtain⟨z,_,rfl⟩:=yG.1 hx;exact bL z,fun i j hi hj=>by
   rw[y13,ama]at hi;have dU:i<d'.size:=zO
   have bg:i*k+j<d'.size*k:=by
    have:(i+1)*k<=d'.size*k:=y26 k dU;rw[Nat.add_mul,Nat.one_mul]at this;omega
   have jQ:i*k+j<c.size:=by
    rw[hd]at bg;omega
   have hk0:0<k:=zO
   have d1:(i*k+j)/k=i:=by
    rw[Nat.mul_comm,Nat.mul_add_div hk0,Nat.div_eq_of_lt hj,Nat.add_zero]
   have d2:(i*k+j) % k=j:=by
    rw[Nat.mul_comm,Nat.mul_add_mod,Nat.mod_eq_of_lt hj]
   have hgi:d'[i]! = d'[i]:=by simp[dU]
   have JN:j<d'[i].vs.length:=by rw[El.len];exact hj
   refine⟨d'[i].vs.getD j undef,?_,?_,?_⟩
   .rw [putCells,Array.getElem?_mapIdx,Array.getElem?_eq_getElem jQ];simp only[Option.map_some,Nat.zero_le,true_and,y12,size_flatK,Nat.sub_zero,_root_.id];rw[yL bg,get_flatK _ _ _ _ bg,d1,d2,hgi,getElem!_pos d'[i].vs _ JN,yB,yA JN];rfl
   .rw [yB,yA JN];exact d'[i].one _ (y03 _)
   .have e:((d'.toList.map El.x).map oc).getD i []=oc d'[i].x:=by
     rw[yB,getElem?_map,getElem?_map,yA (by simpa using dU)];simp
    rw[e];exact .pure _ _ ((d'[i].rep j hj).Da fB)⟩)
  (by show V.w.drawn<=V.w.drawn+n;omega)
 refine⟨V',d'.toList.map El.x,v1,v4,v5,v2,?_,?_⟩
 .have:=p3.map El.x;rw[hlx]at this;exact this
 .rw [pairwise_map,pairwise_iff_getElem];intro i j hi hj wQ;have h1:i<d'.size:=by simpa using hi
  have h2:j<d'.size:=by simpa using hj
  have:=hs i j yN wQ zO;have g1:d'[i]! = d'[i]:=by simp[h1]
  have g2:d'[j]! = d'[j]:=by simp[h2]
  rw[g1,g2]at this;have:=of_decide_eq_false this;simpa using this
end
end Go.Am
namespace Go.Proofs
open Go.Shelf Go.RowKit Go.Lib Go.Sort
def Tryz.SS:Go.Shelf.Ren:=⟨fun|6=>94|15=>104|14=>124|28=>142|29=>143|20=>162|21=>163|22=>164|23=>165|24=>166|25=>167|26=>168|27=>169|46=>197|47=>178|48=>179|49=>198|50=>199|57=>217|n=>n,fun|22=>22|24=>55|25=>117|3=>3|39=>37|0=>0|53=>197|55=>199|4=>4|46=>190|45=>189|50=>95|5=>5|9=>9|66=>228|70=>232|76=>259|77=>260|n=>n,fun|n=>n⟩
theorem Tryz.ahd:Go.Proofs.SlLaysF0.n6 Tryz.prog Tryz.SS where
 mixed:=zQ
 f6:=⟨"slices.SortFunc[[]chartroom/api.Op,chartroom/api.Op]",zD,Tryz.func94.trans (yJ some zQ)⟩
 f14:=⟨"slices.pdqsortCmpFunc[chartroom/api.Op]",zD,Tryz.func124.trans (yJ some zQ)⟩
 f15:=Tryz.func104.trans (yJ some zQ)
 f20:=⟨"slices.insertionSortCmpFunc[chartroom/api.Op]",zD,Tryz.func162.trans (yJ some zQ)⟩
 f21:=⟨"slices.heapSortCmpFunc[chartroom/api.Op]",zD,Tryz.func163.trans (yJ some zQ)⟩
 f22:=⟨"slices.breakPatternsCmpFunc[chartroom/api.Op]",zD,Tryz.func164.trans (yJ some zQ)⟩
 f23:=⟨"slices.choosePivotCmpFunc[chartroom/api.Op]",zD,Tryz.func165.trans (yJ some zQ)⟩
 f24:=⟨"slices.reverseRangeCmpFunc[chartroom/api.Op]",zD,Tryz.func166.trans (yJ some zQ)⟩
 f25:=⟨"slices.partialInsertionSortCmpFunc[chartroom/api.Op]",zD,Tryz.func167.trans (yJ some zQ)⟩
 f26:=⟨"slices.partitionEqualCmpFunc[chartroom/api.Op]",zD,Tryz.func168.trans (yJ some zQ)⟩
 f27:=⟨"slices.partitionCmpFunc[chartroom/api.Op]",zD,Tryz.func169.trans (yJ some zQ)⟩
 f28:=Tryz.func142.trans (yJ some zQ)
 f29:=Tryz.func143.trans (yJ some zQ)
 f46:=⟨"slices.siftDownCmpFunc[chartroom/api.Op]",zD,Tryz.func197.trans (yJ some zQ)⟩
 f47:=Tryz.func178.trans (yJ some zQ)
 f48:=Tryz.func179.trans (yJ some zQ)
 f49:=⟨"slices.medianAdjacentCmpFunc[chartroom/api.Op]",zD,Tryz.func198.trans (yJ some zQ)⟩
 f50:=⟨"slices.medianCmpFunc[chartroom/api.Op]",zD,Tryz.func199.trans (yJ some zQ)⟩
 f57:=⟨"slices.order2CmpFunc[chartroom/api.Op]",zD,Tryz.func217.trans (yJ some zQ)⟩
 t0:=Tryz.underlying0
 a0:=Tryz.isAgg0
 z0:=Tryz.sizeOf0
 v0:=Tryz.zeroValue0
 t3:=Tryz.underlying3
 a3:=Tryz.isAgg3
 z3:=Tryz.sizeOf3
 v3:=Tryz.zeroValue3
 t4:=Tryz.underlying4
 a4:=Tryz.isAgg4
 z4:=Tryz.sizeOf4
 v4:=Tryz.zeroValue4
 t5:=Tryz.underlying5
 a5:=Tryz.isAgg5
 z5:=Tryz.sizeOf5
 v5:=Tryz.zeroValue5
 t9:=Tryz.underlying9
 a9:=Tryz.isAgg9
 z9:=Tryz.sizeOf9
 v9:=Tryz.zeroValue9
 t22:=Tryz.underlying22
 a22:=Tryz.isAgg22
 z22:=Tryz.sizeOf22
 v22:=Tryz.zeroValue22
 t25:=Tryz.underlying117
 a25:=Tryz.isAgg117
 z25:=Tryz.sizeOf117
 v25:=Tryz.zeroValue117
 t39:=Tryz.underlying37
 a39:=Tryz.isAgg37
 z39:=Tryz.sizeOf37
 v39:=Tryz.zeroValue37
 t45:=Tryz.underlying189
 a45:=Tryz.isAgg189
 z45:=Tryz.sizeOf189
 v45:=Tryz.zeroValue189
 t46:=Tryz.underlying190
 a46:=Tryz.isAgg190
 z46:=Tryz.sizeOf190
 v46:=Tryz.zeroValue190
 t50:=Tryz.underlying95
 a50:=Tryz.isAgg95
 z50:=Tryz.sizeOf95
 v50:=Tryz.zeroValue95
 t53:=Tryz.underlying197
 a53:=Tryz.isAgg197
 z53:=Tryz.sizeOf197
 v53:=Tryz.zeroValue197
 t55:=Tryz.underlying199
 a55:=Tryz.isAgg199
 z55:=Tryz.sizeOf199
 v55:=Tryz.zeroValue199
 t66:=Tryz.underlying228
 a66:=Tryz.isAgg228
 z66:=Tryz.sizeOf228
 v66:=Tryz.zeroValue228
 t70:=Tryz.underlying232
 a70:=Tryz.isAgg232
 z70:=Tryz.sizeOf232
 v70:=Tryz.zeroValue232
 t76:=Tryz.underlying259
 a76:=Tryz.isAgg259
 z76:=Tryz.sizeOf259
 v76:=Tryz.zeroValue259
 t77:=Tryz.underlying260
 a77:=Tryz.isAgg260
 z77:=Tryz.sizeOf260
 v77:=Tryz.zeroValue260
end Go.Proofs
namespace Go.bV
open Go Go.Am Go.Proofs Go.eY Go.bH Go.yU
def IY(a b:List D)(k:Nat):St:={ aL:=aC 26 [(0,bB a),(1,bB b),(4,bool false),(11,bB a),(12,int a.length),(13,int k)],H:=[] }
theorem ZK a b(k:Nat)(ha:a.length<=1000000000)(hb:b.length=a.length)(ex:bF)r(h:((((k:Int)<a.length)->(∃x2:D,(a[k]?=some x2)/\(∃x4:D,(b[k]?=some x4)/\((((x2.1==x4.1&&x2.2==x4.2)=true)->Rq 0 92 0 (sM 26 [(0,bB a),(1,bB b),(4,Am.bool false),(11,bB a),(12,int ↑a.length),(13,int ↑(k+1))] []) ex (sM 26 [(4,Am.bool r)] []))/\(((x2.1==x4.1&&x2.2==x4.2)=false)->(bF.ret=ex)/\((false)=(r)))))))/\((¬k<(a.length:Int))->(bF.exit 0=ex)/\((false)=(r))))):Rq 0 92 0 (IY a b k) ex (sM 26 [(4,Am.bool r)] []):=by
 by_cases c1:((k:Int)<(a.length:Int))
 .have h:=h.1 c1;obtain⟨x2,o3,h⟩:=h;obtain⟨x4,o5,h⟩:=h;let l1:List fP:=[kt (qT c1),ko (bC.elem (bH.aQ x2)),ko (bC.elem (bH.aQ x4)),kp (show(0:Int)<=(k:Int)/\(au a)[Int.toNat (k:Int)]?=some (bH.aQ x2)from(bG o3)),kp (show(0:Int)<=(k:Int)/\(au b)[Int.toNat (k:Int)]?=some (bH.aQ x4)from(bG o5))];rcases y00 ((x2.1==x4.1&&x2.2==x4.2))with c6|c6
  .have h:=h.1 c6;exact aJ (l1++[kf (y32 (c6)),kW 25 (k+1) ↑(k+1)]) (aB 26 [0,1,4,11,12,13]) 0 h
  .have h:=h.2 c6;obtain⟨eX,e1⟩:=h;exact bN.to ((show Rq 0 92 0 (IY a b k) bF.ret (sM 26 [(4,Am.bool false)] [])from aG (l1++[kt (show(!(x2.1==x4.1&&x2.2==x4.2))=true from(y32 (c6)))]) (aB 26 [4]) 0)) eX (eB.aC ⟨rfl,(aF.aI e1),yO⟩)
 .have h:=h.2 c1;obtain⟨eX,e1⟩:=h;exact bN.to ((show Rq 0 92 0 (IY a b k) (bF.exit 0) (sM 26 [(4,Am.bool false)] [])from aG [kf (qF c1)] (aB 26 [4]) 0)) eX (eB.aC ⟨rfl,(aF.aI e1),yO⟩)
theorem Nf a b(ha:a.length<=1000000000)(hb:b.length=a.length):∀n k,a.length-k=n->k<=a.length ->
 Rq 0 92 0 (IY a b k) (if a.drop k=b.drop k then .exit 0 else .ret) { aL:=aC 26 [(4,bool false)],H:=[] }:=by
 intro n
 induction n with
 |zero =>
  intro k hn hk;have e:a.drop k=b.drop k:=by rw[y21 zO,y21 zO]
  exact ZK a b k ha hb _ _ ⟨fun h=>absurd h zO,fun _=>⟨by rw[yL e],rfl⟩⟩
 |succ n ih =>
  intro k hn hk;have bg:k<a.length:=zO
  have oL:k<b.length:=zO
  have e1:=y01 bg;have e2:=y01 oL;refine ZK a b k ha hb _ _ ⟨fun h=>⟨a[k],yA bg,b[k],yA oL,⟨fun hq=>?_,fun hq=>?_⟩⟩,fun h=>absurd bg zO⟩
  .have hab:a[k]=b[k]:=by grind
   have h2:=ih (k+1) zO zO;by_cases hd:a.drop (k+1)=b.drop (k+1)
   .rw [yL hd]at h2;rw[yL (by rw[e1,e2,hab,hd])];exact h2
   .rw [yK hd]at h2;rw[yK (by grind)];exact h2
  grind
theorem amb a b(ha:a.length<=1000000000)(hb:b.length=a.length):Rq 0 92 0 (IY a b 0) (if a=b then .exit 0 else .ret) { aL:=aC 26 [(4,bool false)],H:=[] } :=
 Nf a b ha hb _ 0 rfl zO
theorem aqi a b(ha:a.length<=1000000000)(h:(((a.length=(b.length:Int))->(((a=b)->(true)=(decide (a=b)))/\((¬a=b)->(false)=(decide (a=b)))))/\((¬(a.length:Int)=b.length)->(false)=(decide (a=b))))):Cq 92 [bB a,bB b] (Am.bool (decide (a=b))):=by
 have bS:=lU (Go.bH.ay a);have fT:=lU (Go.bH.ay b);by_cases c1:(a.length=(b.length:Int))
 .have h:=h.1 c1;have jw:=(y32 (nW.2 c1));by_cases c2:(a=b)
  .have h:=h.1 c2;exact aA (aF.aI h) [kv 7 bS,kv 9 fT,kf jw,kv 12 bS,kl (rG [(2,2),(5,6),(14,12)]) 0 (((by have h0:=(@amb (a) (b) zO zO);simp only[yL c2]at h0;exact h0)))]
  .have h:=h.2 c2;exact aA (aF.aI h) [kv 7 bS,kv 9 fT,kf jw,kv 12 bS,kl (rG [(2,2),(5,6),(14,12)]) 0 (((by have h0:=(@amb (a) (b) zO zO);simp only[yK c2]at h0;exact h0)))]
 .have h:=h.2 c1;exact aA (aF.aI h) [kv 7 bS,kv 9 fT,kt (y32 (qN.2 c1))]
theorem aqj a b(ha:a.length<=1000000000):Cq 92 [bB a,bB b] (bool (decide (a=b))):=by
 refine aqi a b ha ?_;grind
theorem tN(a b:yP):(a==b)=decide (a=b):=by
 obtain⟨⟨a⟩⟩:=a;obtain⟨⟨b⟩⟩:=b;show(a.toArray==b.toArray)=_;grind
theorem bool_beq(a b:Bool):(a==b)=decide (a=b):=by cases a<;>cases b<;>rfl
def UN(a b:OP):Bool:=(decide (a.dv=b.dv)&&decide (a.sq=b.sq))&&decide (a.tm=b.tm)&&decide (a.cx=b.cx)&&(decide (a.pk=b.pk)&&decide (a.pn=b.pn))&&decide (a.kd=b.kd)&&(decide (a.f1=b.f1)&&decide (a.f2=b.f2)&&decide (a.f3=b.f3)) &&
 (decide (a.t1=b.t1)&&decide (a.t2=b.t2)&&decide (a.t3=b.t3))&&decide (a.ky=b.ky)&&decide (a.vl=b.vl)&&decide (a.n=b.n)&&decide (a.on=b.on)
theorem Qs a b:UN a b=decide (a=b):=by
 cases a;cases b;simp only[UN,OP.mk.injEq,Bool.decide_and,Bool.and_assoc]
theorem E9(a b:OP)(ha:a.cx.length<=1000000000)(v:Bool)(h:((((a.dv==b.dv&&a.sq==b.sq)=true)->(((a.tm=b.tm)->(((a.cx=b.cx)->((((a.pk==b.pk&&a.pn==b.pn)=true)->(((a.kd=b.kd)->((((a.f1==b.f1&&(a.f2==b.f2&&a.f3==b.f3))=true)->((((a.t1==b.t1&&(a.t2==b.t2&&a.t3==b.t3))=true)->(((a.ky=b.ky)->(((a.vl=b.vl)->(((a.n=b.n)->(a.on==b.on)=(v))/\((¬a.n=b.n)->(false)=(v))))/\((¬a.vl=b.vl)->(false)=(v))))/\((¬a.ky=b.ky)->(false)=(v))))/\(((a.t1==b.t1&&(a.t2==b.t2&&a.t3==b.t3))=false)->(false)=(v))))/\(((a.f1==b.f1&&(a.f2==b.f2&&a.f3==b.f3))=false)->(false)=(v))))/\((¬a.kd=b.kd)->(false)=(v))))/\(((a.pk==b.pk&&a.pn==b.pn)=false)->(false)=(v))))/\((¬a.cx=b.cx)->(false)=(v))))/\((¬a.tm=b.tm)->(false)=(v))))/\(((a.dv==b.dv&&a.sq==b.sq)=false)->(false)=(v)))):Cq 59 [op a,op b] (Am.bool v):=by
 rcases y00 ((a.dv==b.dv&&a.sq==b.sq))with c1|c1
 .have h:=h.1 c1;by_cases c2:(a.tm=b.tm)
  .have h:=h.1 c2;have bS:=(@aqj a.cx b.cx zO);let l1:List fP:=[kt c1,kt (nW.2 c2),kc [] bS];by_cases c3:(a.cx=b.cx)
   .have h:=h.1 c3;let l2:List fP:=l1++[kt (qT c3)];rcases y00 ((a.pk==b.pk&&a.pn==b.pn))with c4|c4
    .have h:=h.1 c4;by_cases c5:(a.kd=b.kd)
     .have h:=h.1 c5;let l3:List fP:=l2++[kt c4,kt (nW.2 c5)];rcases y00 ((a.f1==b.f1&&(a.f2==b.f2&&a.f3==b.f3)))with c6|c6
      .have h:=h.1 c6;rcases y00 ((a.t1==b.t1&&(a.t2==b.t2&&a.t3==b.t3)))with c7|c7
       .have h:=h.1 c7;let l4:List fP:=l3++[kt c6,kt c7,kv 57 (show Am.aF (Am.bool (ByteArray.toList a.ky==ByteArray.toList b.ky)) (Am.bool (decide (a.ky=b.ky)))from(aF.of_eq (by simp only[Go.yU.rC])))];by_cases c8:(a.ky=b.ky)
        .have h:=h.1 c8;let l5:List fP:=l4++[kt (qT c8),kv 64 (show Am.aF (Am.bool (ByteArray.toList a.vl==ByteArray.toList b.vl)) (Am.bool (decide (a.vl=b.vl)))from(aF.of_eq (by simp only[Go.yU.rC])))];by_cases c9:(a.vl=b.vl)
         .have h:=h.1 c9;by_cases G9:(a.n=b.n)
          .have h:=h.1 G9;exact aA (aF.aI h) (l5++[kt (qT c9),kt (nW.2 G9)])
          .have h:=h.2 G9;exact aA (aF.aI h) (l5++[kt (qT c9),kf (qN.2 G9)])
         .have h:=h.2 c9;exact aA (aF.aI h) (l5++[kf (qF c9),kY])
        .have h:=h.2 c8;exact aA (aF.aI h) (l4++[kf (qF c8),kY,kY])
       .have h:=h.2 c7;exact aA (aF.aI h) (l3++[kt c6,kf c7,kY,kY,kY])
      .have h:=h.2 c6;exact aA (aF.aI h) (l3++[kf c6,kY,kY,kY,kY])
     .have h:=h.2 c5;exact aA (aF.aI h) (l2++[kt c4,kf (qN.2 c5),kY,kY,kY,kY,kY])
    .have h:=h.2 c4;exact aA (aF.aI h) (l2++[kf c4,kY,kY,kY,kY,kY,kY])
   .have h:=h.2 c3;exact aA (aF.aI h) (l1++[kf (qF c3),kY,kY,kY,kY,kY,kY,kY])
  .have h:=h.2 c2;exact aA (aF.aI h) [kt c1,kf (qN.2 c2),kY,kY,kY,kY,kY,kY,kY,kY]
 .have h:=h.2 c1;exact aA (aF.aI h) [kf c1,kY,kY,kY,kY,kY,kY,kY,kY,kY]
theorem DJ(a b:OP)(ha:a.cx.length<=1000000000)(v:Bool)(h:((((a.dv==b.dv&&a.sq==b.sq)=true)->(((a.tm=b.tm)->(((a.cx=b.cx)->((((a.pk==b.pk&&a.pn==b.pn)=true)->(((a.kd=b.kd)->((((a.f1==b.f1&&(a.f2==b.f2&&a.f3==b.f3))=true)->((((a.t1==b.t1&&(a.t2==b.t2&&a.t3==b.t3))=true)->(((a.ky=b.ky)->(((a.vl=b.vl)->(((a.n=b.n)->(a.on==b.on)=(v))/\((¬a.n=b.n)->(false)=(v))))/\((¬a.vl=b.vl)->(false)=(v))))/\((¬a.ky=b.ky)->(false)=(v))))/\(((a.t1==b.t1&&(a.t2==b.t2&&a.t3==b.t3))=false)->(false)=(v))))/\(((a.f1==b.f1&&(a.f2==b.f2&&a.f3==b.f3))=false)->(false)=(v))))/\((¬a.kd=b.kd)->(false)=(v))))/\(((a.pk==b.pk&&a.pn==b.pn)=false)->(false)=(v))))/\((¬a.cx=b.cx)->(false)=(v))))/\((¬a.tm=b.tm)->(false)=(v))))/\(((a.dv==b.dv&&a.sq==b.sq)=false)->(false)=(v)))):Cq 34 [op a,op b] (Am.bool v):=by
 rcases y00 ((a.dv==b.dv&&a.sq==b.sq))with c1|c1
 .have h:=h.1 c1;by_cases c2:(a.tm=b.tm)
  .have h:=h.1 c2;have bS:=(@Go.bH.zG a.cx b.cx zO);let l1:List fP:=[kt c1,kt (nW.2 c2),kc [] bS];by_cases c3:(a.cx=b.cx)
   .have h:=h.1 c3;let l2:List fP:=l1++[kt (qT c3)];rcases y00 ((a.pk==b.pk&&a.pn==b.pn))with c4|c4
    .have h:=h.1 c4;by_cases c5:(a.kd=b.kd)
     .have h:=h.1 c5;let l3:List fP:=l2++[kt c4,kt (nW.2 c5)];rcases y00 ((a.f1==b.f1&&(a.f2==b.f2&&a.f3==b.f3)))with c6|c6
      .have h:=h.1 c6;rcases y00 ((a.t1==b.t1&&(a.t2==b.t2&&a.t3==b.t3)))with c7|c7
       .have h:=h.1 c7;let l4:List fP:=l3++[kt c6,kt c7,kv 57 (show Am.aF (Am.bool (ByteArray.toList a.ky==ByteArray.toList b.ky)) (Am.bool (decide (a.ky=b.ky)))from(aF.of_eq (by simp only[Go.yU.rC])))];by_cases c8:(a.ky=b.ky)
        .have h:=h.1 c8;let l5:List fP:=l4++[kt (qT c8),kv 64 (show Am.aF (Am.bool (ByteArray.toList a.vl==ByteArray.toList b.vl)) (Am.bool (decide (a.vl=b.vl)))from(aF.of_eq (by simp only[Go.yU.rC])))];by_cases c9:(a.vl=b.vl)
         .have h:=h.1 c9;by_cases G9:(a.n=b.n)
          .have h:=h.1 G9;exact aA (aF.aI h) (l5++[kt (qT c9),kt (nW.2 G9)])
          .have h:=h.2 G9;exact aA (aF.aI h) (l5++[kt (qT c9),kf (qN.2 G9)])
         .have h:=h.2 c9;exact aA (aF.aI h) (l5++[kf (qF c9),kY])
        .have h:=h.2 c8;exact aA (aF.aI h) (l4++[kf (qF c8),kY,kY])
       .have h:=h.2 c7;exact aA (aF.aI h) (l3++[kt c6,kf c7,kY,kY,kY])
      .have h:=h.2 c6;exact aA (aF.aI h) (l3++[kf c6,kY,kY,kY,kY])
     .have h:=h.2 c5;exact aA (aF.aI h) (l2++[kt c4,kf (qN.2 c5),kY,kY,kY,kY,kY])
    .have h:=h.2 c4;exact aA (aF.aI h) (l2++[kf c4,kY,kY,kY,kY,kY,kY])
   .have h:=h.2 c3;exact aA (aF.aI h) (l1++[kf (qF c3),kY,kY,kY,kY,kY,kY,kY])
  .have h:=h.2 c2;exact aA (aF.aI h) [kt c1,kf (qN.2 c2),kY,kY,kY,kY,kY,kY,kY,kY]
 .have h:=h.2 c1;exact aA (aF.aI h) [kf c1,kY,kY,kY,kY,kY,kY,kY,kY,kY]
theorem zG a b(ha:a.cx.length<=1000000000):Cq 59 [op a,op b] (bool (decide (a=b))):=E9 a b ha _ (by
 rw[<- Qs];unfold UN
 all_goals simp_all[tN,bool_beq])
theorem C9 a b(ha:a.cx.length<=1000000000):Cq 34 [op a,op b] (bool (decide (a=b))):=DJ a b ha _ (by
 rw[<- Qs];unfold UN
 all_goals simp_all[tN,bool_beq])
def Kj:OP:=⟨0,0,0,[],0,.empty,0,0,0,0,0,0,0,.empty,.empty,0,false⟩
def mQ(o:OP):Int->OP
 |1=>{ Kj with t1:=o.t1,t2:=o.t2,t3:=o.t3,ky:=o.ky,n:=o.n,on:=o.on }
 |2=>{ Kj with t1:=o.t1,t2:=o.t2,t3:=o.t3,ky:=o.ky,vl:=o.vl,n:=o.n,on:=o.on }
 |3=>{ Kj with f1:=o.f1,f2:=o.f2,f3:=o.f3,t1:=o.t1,t2:=o.t2,t3:=o.t3,n:=o.n,on:=o.on }
 |4=>{ Kj with f1:=o.f1,f2:=o.f2,f3:=o.f3,t1:=o.t1,t2:=o.t2,t3:=o.t3,vl:=o.vl,n:=o.n,on:=o.on }
 |5=>{ Kj with f1:=o.f1,f2:=o.f2,f3:=o.f3,t1:=o.t1,t2:=o.t2,t3:=o.t3,ky:=o.ky,vl:=o.vl,on:=o.on }
 |6=>{ Kj with t1:=o.t1,t2:=o.t2,t3:=o.t3,ky:=o.ky,n:=o.n,on:=o.on }
 |7=>{ Kj with t1:=o.t1,t2:=o.t2,t3:=o.t3,ky:=o.ky,vl:=o.vl,on:=o.on }
 |_=>{ Kj with ky:=o.ky,vl:=o.vl }
theorem ac8 o(h:True):Cq 60 [Ki o 1] (op (mQ o 1)):=by
 exact ak.out ((show Cq 60 [Ki o 1] (.agg [int 0,int 0,int 0,aK,int 0,str (ByteArray.mk #[]),int 0,int 0,int 0,int 0,int o.t1,int o.t2,int o.t3,str o.ky,str (ByteArray.mk #[]),int o.n,Am.bool o.on])from aj [kY,kY,kY,kO,kO])) (aF.qo ⟨y34,y34,y34,(aF.nil _),y34,y34,y34,y34,y34,y34,y34,y34,y34,y34,y34,y34,y34,yO⟩)
theorem ac9 o(h:True):Cq 60 [Ki o 2] (op (mQ o 2)):=by
 exact ak.out ((show Cq 60 [Ki o 2] (.agg [int 0,int 0,int 0,aK,int 0,str (ByteArray.mk #[]),int 0,int 0,int 0,int 0,int o.t1,int o.t2,int o.t3,str o.ky,str o.vl,int o.n,Am.bool o.on])from aj [kY,kY,kY,kY,kY,kO])) (aF.qo ⟨y34,y34,y34,(aF.nil _),y34,y34,y34,y34,y34,y34,y34,y34,y34,y34,y34,y34,y34,yO⟩)
theorem ada o(h:True):Cq 60 [Ki o 3] (op (mQ o 3)):=by
 exact ak.out ((show Cq 60 [Ki o 3] (.agg [int 0,int 0,int 0,aK,int 0,str (ByteArray.mk #[]),int 0,int o.f1,int o.f2,int o.f3,int o.t1,int o.t2,int o.t3,str (ByteArray.mk #[]),str (ByteArray.mk #[]),int o.n,Am.bool o.on])from aj [kY,kY,kY,kY,kY,kY,kO])) (aF.qo ⟨y34,y34,y34,(aF.nil _),y34,y34,y34,y34,y34,y34,y34,y34,y34,y34,y34,y34,y34,yO⟩)
theorem adb o(h:True):Cq 60 [Ki o 4] (op (mQ o 4)):=by
 exact ak.out ((show Cq 60 [Ki o 4] (.agg [int 0,int 0,int 0,aK,int 0,str (ByteArray.mk #[]),int 0,int o.f1,int o.f2,int o.f3,int o.t1,int o.t2,int o.t3,str (ByteArray.mk #[]),str o.vl,int o.n,Am.bool o.on])from aj [kY,kY,kY,kY,kY,kY,kY,kO])) (aF.qo ⟨y34,y34,y34,(aF.nil _),y34,y34,y34,y34,y34,y34,y34,y34,y34,y34,y34,y34,y34,yO⟩)
theorem ade o(h:True):Cq 60 [Ki o 5] (op (mQ o 5)):=by
 exact ak.out ((show Cq 60 [Ki o 5] (.agg [int 0,int 0,int 0,aK,int 0,str (ByteArray.mk #[]),int 0,int o.f1,int o.f2,int o.f3,int o.t1,int o.t2,int o.t3,str o.ky,str o.vl,int 0,Am.bool o.on])from aj [kY,kY,kO])) (aF.qo ⟨y34,y34,y34,(aF.nil _),y34,y34,y34,y34,y34,y34,y34,y34,y34,y34,y34,y34,y34,yO⟩)
theorem adf o(h:True):Cq 60 [Ki o 6] (op (mQ o 6)):=by
 exact ak.out ((show Cq 60 [Ki o 6] (.agg [int 0,int 0,int 0,aK,int 0,str (ByteArray.mk #[]),int 0,int 0,int 0,int 0,int o.t1,int o.t2,int o.t3,str o.ky,str (ByteArray.mk #[]),int o.n,Am.bool o.on])from aj [kY,kY,kY,kY,kO])) (aF.qo ⟨y34,y34,y34,(aF.nil _),y34,y34,y34,y34,y34,y34,y34,y34,y34,y34,y34,y34,y34,yO⟩)
theorem adg o(h:True):Cq 60 [Ki o 7] (op (mQ o 7)):=by
 exact ak.out ((show Cq 60 [Ki o 7] (.agg [int 0,int 0,int 0,aK,int 0,str (ByteArray.mk #[]),int 0,int 0,int 0,int 0,int o.t1,int o.t2,int o.t3,str o.ky,str o.vl,int 0,Am.bool o.on])from aj [kY,kO])) (aF.qo ⟨y34,y34,y34,(aF.nil _),y34,y34,y34,y34,y34,y34,y34,y34,y34,y34,y34,y34,y34,yO⟩)
theorem adh o(h:True):Cq 60 [Ki o 8] (op (mQ o 8)):=by
 exact ak.out ((show Cq 60 [Ki o 8] (.agg [int 0,int 0,int 0,aK,int 0,str (ByteArray.mk #[]),int 0,int 0,int 0,int 0,int 0,int 0,int 0,str o.ky,str o.vl,int 0,Am.bool false])from aj [kO])) (aF.qo ⟨y34,y34,y34,(aF.nil _),y34,y34,y34,y34,y34,y34,y34,y34,y34,y34,y34,y34,y34,yO⟩)
end Go.bV
namespace Go.yU
open Go Go.Am Go.Proofs Go.eY
mutual
def wf:CV->Bool
 |.mk k n s l=>if k=1 then decide (s = .empty)&&decide (l.length=0)else if k=2 then decide (n=0)&&decide (l.length=0)else if k=3 then decide (n=0)&&decide (s = .empty)&&Lb l else false
def Lb:List CV->Bool
 |[]=>true
 |v::l=>wf v&&Lb l
end
mutual
def dp:CV->Nat
 |.mk k _ _ l=>if k=3 then JO l+1 else 0
def JO:List CV->Nat
 |[]=>0
 |v::l=>max (dp v) (JO l)
end
theorem CV.ind{p:CV->Prop}(h:∀k n s l,(∀x∈l,p x)->p (.mk k n s l))v:p v :=
 CV.rec   (fun k n s l ih=>h k n s l ih) (fun _ hx=>by cases hx) (fun a l ha hl x hx=>by
  rcases yH.1 hx with rfl|hx
  .exact ha
  grind) v
inductive QG:CV->Prop
 |mk (k n:Int) (s:yP) (l:List CV) (hn : -9223372036854775808<=n/\n<9223372036854775808) (hs:s.size<=9223372036854775807) (hl:l.length<=9223372036854775807) (h:∀x∈l,QG x):QG (.mk k n s l)
theorem Sr{l}{x}(h:x∈l):dp x<=JO l:=by
 induction l with
 |nil=>cases h
 |cons a l ih =>
  simp only[JO];grind
theorem empty_eq:{ data:=#[] }=y33:=rfl
def Es(v:CV):Prop:=Cq 200 [val v] (.bq [int (if wf v=true then dp v else 0),bool (wf v)])
theorem WQ(n:Int)(s:yP)(l:List CV)(a:Int)(b:Bool)(h:(((s=ByteArray.mk #[])->(((n=0)->((((l.length:Int)=0)->(0=a)/\((true)=(b)))/\((¬(l.length:Int)=0)->(0=a)/\((false)=(b)))))/\((¬n=0)->((((l.length:Int)=0)->(0=a)/\((true)=(b)))/\((¬(l.length:Int)=0)->(0=a)/\((false)=(b)))))))/\((¬s=ByteArray.mk #[])->(((n=0)->(0=a)/\((false)=(b)))/\((¬n=0)->(0=a)/\((false)=(b))))))):Cq 200 [rR 1 n s l] (.bq [int a,Am.bool b]):=by
 have bS:Am.aF (Am.bool (ByteArray.toList s==ByteArray.toList (ByteArray.mk #[]))) (Am.bool (decide (s=ByteArray.mk #[]))):=(aF.of_eq (by simp only[rC]));by_cases c1:(s=ByteArray.mk #[])
 .have h:=h.1 c1;have fT:=lU (fA l);let l1:List fP:=[kv 11 bS,kt (qT c1),kv 15 fT];by_cases c2:(n=0)
  .have h:=h.1 c2;have jw:(0:Int)<=(1:Int)/\(1:Int)<(4:Int):=zO;let l2:List fP:=l1++[kt (nW.2 c2),kv 24 fT,kt (nW.2 c2),kv 33 bS,kY,kY,kp jw];by_cases c3:((l.length:Int)=0)
   .have h:=h.1 c3;obtain⟨e1,e2⟩:=h;exact ak.out ((show Cq 200 [rR 1 n s l] (.bq [int 0,Am.bool true])from aj (l2++[kf (show(!(l.length:Int)==0)=false from(y32 (nW.2 c3))),kO]))) (aF.iM ⟨(aF.int_eq e1),(aF.aI e2),yO⟩)
   .have h:=h.2 c3;obtain⟨e1,e2⟩:=h;exact ak.out ((show Cq 200 [rR 1 n s l] (.bq [int 0,Am.bool false])from aj (l2++[kt (show(!(l.length:Int)==0)=true from(y32 (qN.2 c3)))]))) (aF.iM ⟨(aF.int_eq e1),(aF.aI e2),yO⟩)
  .have h:=h.2 c2;have jw:(0:Int)<=(1:Int)/\(1:Int)<(4:Int):=zO;let l3:List fP:=l1++[kf (qN.2 c2),kf (qN.2 c2),kY,kY,kp jw];by_cases c4:((l.length:Int)=0)
   .have h:=h.1 c4;obtain⟨e1,e2⟩:=h;exact ak.out ((show Cq 200 [rR 1 n s l] (.bq [int 0,Am.bool true])from aj (l3++[kf (show(!(l.length:Int)==0)=false from(y32 (nW.2 c4))),kO]))) (aF.iM ⟨(aF.int_eq e1),(aF.aI e2),yO⟩)
   .have h:=h.2 c4;obtain⟨e1,e2⟩:=h;exact ak.out ((show Cq 200 [rR 1 n s l] (.bq [int 0,Am.bool false])from aj (l3++[kt (show(!(l.length:Int)==0)=true from(y32 (qN.2 c4)))]))) (aF.iM ⟨(aF.int_eq e1),(aF.aI e2),yO⟩)
 .have h:=h.2 c1;by_cases c5:(n=0)
  .have h:=h.1 c5;obtain⟨e1,e2⟩:=h;exact ak.out ((show Cq 200 [rR 1 n s l] (.bq [int 0,Am.bool false])from aj [kv 11 bS,kf (qF c1),kt (nW.2 c5),kN 24 (fA l),kt (nW.2 c5),kv 33 bS,kY,kY,kR (1:Int) (4:Int),kO])) (aF.iM ⟨(aF.int_eq e1),(aF.aI e2),yO⟩)
  .have h:=h.2 c5;obtain⟨e1,e2⟩:=h;exact ak.out ((show Cq 200 [rR 1 n s l] (.bq [int 0,Am.bool false])from aj [kv 11 bS,kf (qF c1),kf (qN.2 c5),kf (qN.2 c5),kY,kY,kR (1:Int) (4:Int),kO])) (aF.iM ⟨(aF.int_eq e1),(aF.aI e2),yO⟩)
theorem WR(n:Int)(s:yP)(l:List CV)(a:Int)(b:Bool)(h:(((s=ByteArray.mk #[])->(((n=0)->((((l.length:Int)=0)->(0=a)/\((true)=(b)))/\((¬(l.length:Int)=0)->(0=a)/\((false)=(b)))))/\((¬n=0)->(0=a)/\((false)=(b)))))/\((¬s=ByteArray.mk #[])->(((n=0)->((((l.length:Int)=0)->(0=a)/\((true)=(b)))/\((¬(l.length:Int)=0)->(0=a)/\((false)=(b)))))/\((¬n=0)->(0=a)/\((false)=(b))))))):Cq 200 [rR 2 n s l] (.bq [int a,Am.bool b]):=by
 have bS:Am.aF (Am.bool (ByteArray.toList s==ByteArray.toList (ByteArray.mk #[]))) (Am.bool (decide (s=ByteArray.mk #[]))):=(aF.of_eq (by simp only[rC]));by_cases c1:(s=ByteArray.mk #[])
 .have h:=h.1 c1;have fT:=lU (fA l);let l1:List fP:=[kv 11 bS,kt (qT c1),kv 15 fT];by_cases c2:(n=0)
  .have h:=h.1 c2;let l2:List fP:=l1++[kt (nW.2 c2),kv 24 fT,kt (nW.2 c2),kv 33 bS,kY,kY,kR (2:Int) (4:Int)];by_cases c3:((l.length:Int)=0)
   .have h:=h.1 c3;obtain⟨e1,e2⟩:=h;exact ak.out ((show Cq 200 [rR 2 n s l] (.bq [int 0,Am.bool true])from aj (l2++[kf (show(!(l.length:Int)==0)=false from(y32 (nW.2 c3))),kO]))) (aF.iM ⟨(aF.int_eq e1),(aF.aI e2),yO⟩)
   .have h:=h.2 c3;obtain⟨e1,e2⟩:=h;exact ak.out ((show Cq 200 [rR 2 n s l] (.bq [int 0,Am.bool false])from aj (l2++[kt (show(!(l.length:Int)==0)=true from(y32 (qN.2 c3)))]))) (aF.iM ⟨(aF.int_eq e1),(aF.aI e2),yO⟩)
  .have h:=h.2 c2;obtain⟨e1,e2⟩:=h;exact ak.out ((show Cq 200 [rR 2 n s l] (.bq [int 0,Am.bool false])from aj (l1++[kf (qN.2 c2),kf (qN.2 c2),kY,kY,kR (2:Int) (4:Int),kO]))) (aF.iM ⟨(aF.int_eq e1),(aF.aI e2),yO⟩)
 .have h:=h.2 c1;have fT:=lU (fA l);let l3:List fP:=[kv 11 bS,kf (qF c1)];by_cases c4:(n=0)
  .have h:=h.1 c4;let l4:List fP:=l3++[kt (nW.2 c4),kv 24 fT,kt (nW.2 c4),kv 33 bS,kY,kY,kR (2:Int) (4:Int)];by_cases c5:((l.length:Int)=0)
   .have h:=h.1 c5;obtain⟨e1,e2⟩:=h;exact ak.out ((show Cq 200 [rR 2 n s l] (.bq [int 0,Am.bool true])from aj (l4++[kf (show(!(l.length:Int)==0)=false from(y32 (nW.2 c5))),kO]))) (aF.iM ⟨(aF.int_eq e1),(aF.aI e2),yO⟩)
   .have h:=h.2 c5;obtain⟨e1,e2⟩:=h;exact ak.out ((show Cq 200 [rR 2 n s l] (.bq [int 0,Am.bool false])from aj (l4++[kt (show(!(l.length:Int)==0)=true from(y32 (qN.2 c5)))]))) (aF.iM ⟨(aF.int_eq e1),(aF.aI e2),yO⟩)
  .have h:=h.2 c4;obtain⟨e1,e2⟩:=h;exact ak.out ((show Cq 200 [rR 2 n s l] (.bq [int 0,Am.bool false])from aj (l3++[kf (qN.2 c4),kf (qN.2 c4),kY,kY,kR (2:Int) (4:Int),kO]))) (aF.iM ⟨(aF.int_eq e1),(aF.aI e2),yO⟩)
theorem WS(k n:Int)(s:yP)(l:List CV)(hk:k<1\/3<k)(h:(((s=ByteArray.mk #[])->(((n=0)->(((k<1)->True)/\((¬k<1)->True)))/\((¬n=0)->(((k<1)->True)/\((¬k<1)->True)))))/\((¬s=ByteArray.mk #[])->(((n=0)->(((k<1)->True)/\((¬k<1)->True)))/\((¬n=0)->(((k<1)->True)/\((¬k<1)->True))))))):Cq 200 [rR k n s l] (.bq [int 0,Am.bool false]):=by
 have bS:Am.aF (Am.bool (ByteArray.toList s==ByteArray.toList (ByteArray.mk #[]))) (Am.bool (decide (s=ByteArray.mk #[]))):=(aF.of_eq (by simp only[rC]));let l1:List fP:=[kv 11 bS];by_cases c1:(s=ByteArray.mk #[])
 .have h:=h.1 c1;have fT:=lU (fA l);let l2:List fP:=l1++[kt (qT c1),kv 15 fT];by_cases c2:(n=0)
  .have h:=h.1 c2;let l3:List fP:=l2++[kt (nW.2 c2),kv 24 fT,kt (nW.2 c2),kv 33 bS];by_cases c3:(k<1)
   .have h:=h.1 c3;exact aj (l3++[kt (qT c3),kO,kO])
   .have h:=h.2 c3;exact aj (l3++[kf (qF c3),ki (k>3),kO])
  .have h:=h.2 c2;by_cases c5:(k<1)
   .have h:=h.1 c5;exact aj (l2++[kf (qN.2 c2),kf (qN.2 c2),kt (qT c5),kO,kO])
   .have h:=h.2 c5;exact aj (l2++[kf (qN.2 c2),kf (qN.2 c2),kf (qF c5),ki (k>3),kO])
 .have h:=h.2 c1;have fT:=lU (fA l);let l4:List fP:=l1++[kf (qF c1)];by_cases c7:(n=0)
  .have h:=h.1 c7;let l5:List fP:=l4++[kt (nW.2 c7),kv 24 fT,kt (nW.2 c7),kv 33 bS];by_cases c8:(k<1)
   .have h:=h.1 c8;exact aj (l5++[kt (qT c8),kO,kO])
   .have h:=h.2 c8;exact aj (l5++[kf (qF c8),ki (k>3),kO])
  .have h:=h.2 c7;by_cases G9:(k<1)
   .have h:=h.1 G9;exact aj (l4++[kf (qN.2 c7),kf (qN.2 c7),kt (qT G9),kO,kO])
   .have h:=h.2 G9;exact aj (l4++[kf (qN.2 c7),kf (qN.2 c7),kf (qF G9),ki (k>3),kO])
def Lx(l:List CV)(d:Int)(i:Nat):St:={ aL:=aC 74 [(2,int d),(3,bool false),(55,.sl 4 false (iB l)),(56,int l.length),(57,int i)],H:=[] }
theorem ad1 l(d:Int)i(hi:l.length<=i)(h:True):Rq 0 200 0 (Lx l d i) (bF.exit 0) (sM 74 [(2,int d),(3,Am.bool false)] []):=by
 exact aG [kj ((i:Int)<l.length)] (aB 74 [2,3]) 0
theorem abm(l:List CV)(d i:Nat)(x:CV)(hi:i<l.length)(hl:l.length<=9223372036854775807)(hx:l[i]?=some x)(hd:dp x<=1000000)(hv:Cq 200 [val x] (.bq [int (if wf x=true then dp x else 0),bool (wf x)]))(ex:bF)(a:Int)(b:Bool)(h:((((wf x)=true)->Rq 0 200 0 (sM 74 [(2,int (if(if wf x=true then(↑(dp x):Int)else 0)>(d:Int)then if wf x=true then(↑(dp x):Int)else 0 else(d:Int))),(3,Am.bool false),(55,.sl 4 false (iB l)),(56,int ↑l.length),(57,int ↑(i+1))] []) ex (sM 74 [(2,int a),(3,Am.bool b)] []))/\(((wf x)=false)->(bF.ret=ex)/\(0=a)/\((false)=(b))))):Rq 0 200 0 (Lx l (d:Int) i) ex (sM 74 [(2,int a),(3,Am.bool b)] []):=by
 have bS:decide ((i:Int)<(l.length:Int))=true:=(qT zO);have fT:(0:Int)<=(i:Int)/\(iB l)[Int.toNat (i:Int)]?=some (aQ x):=(by rw[lC];exact bG hx);rcases y00 ((wf x))with c2|c2
 .have h:=h.1 c2;exact aJ [kt bS,ko (bC.elem (aQ x)),kp fT,kc [] hv,kf (y32 (c2)),kW 71 (i+1) ↑(i+1)] (aB 74 [2,3,55,56,57]) 0 h
 .have h:=h.2 c2;obtain⟨eX,e1,e2⟩:=h;exact bN.to ((show Rq 0 200 0 (Lx l (d:Int) i) bF.ret (sM 74 [(2,int 0),(3,Am.bool false)] [])from aG [kt bS,ko (bC.elem (aQ x)),kp fT,kc [] hv,kt (show(!wf x)=true from(y32 (c2)))] (aB 74 [2,3]) 0)) eX (eB.aC ⟨rfl,(aF.int_eq e1),rfl,(aF.aI e2),yO⟩)
theorem WT(n:Int)(s:yP)(l:List CV)(a:Int)(b:Bool)(hl:l.length<=9223372036854775807)(hd:JO l<=1000000)(hL:Rq 0 200 0 (Lx l 0 0) (if Lb l=true then .exit 0 else .ret) { aL:=aC 74 [(2,int (if Lb l=true then JO l else 0)),(3,bool false)],H:=[] })(h:(((s=ByteArray.mk #[])->(((n=0)->(((Lb l=true)->(((↑(JO l+1):Int):Int)=(a))/\((true)=(b)))/\((¬Lb l=true)->(0=a)/\((false)=(b)))))/\((¬n=0)->(0=a)/\((false)=(b)))))/\((¬s=ByteArray.mk #[])->(((n=0)->(0=a)/\((false)=(b)))/\((¬n=0)->(0=a)/\((false)=(b))))))):Cq 200 [rR 3 n s l] (.bq [int a,Am.bool b]):=by
 have bS:Am.aF (Am.bool (ByteArray.toList s==ByteArray.toList (ByteArray.mk #[]))) (Am.bool (decide (s=ByteArray.mk #[]))):=(aF.of_eq (by simp only[rC]));by_cases c1:(s=ByteArray.mk #[])
 .have h:=h.1 c1;have fT:=lU (fA l);let l1:List fP:=[kv 11 bS,kt (qT c1),kv 15 fT];by_cases c2:(n=0)
  .have h:=h.1 c2;let l2:List fP:=l1++[kt (nW.2 c2),kv 24 fT,kt (nW.2 c2),kv 33 bS,kY,kY,kR (3:Int) (4:Int),kf (y32 (qT c1)),kY,kv 56 fT];by_cases c3:(Lb l=true)
   .have h:=h.1 c3;obtain⟨e1,e2⟩:=h;exact ak.out ((show Cq 200 [rR 3 n s l] (.bq [int ↑(JO l+1),Am.bool true])from aj (l2++[kl (rG [(0,2),(4,51),(58,16)]) 0 (show Rq 0 200 0 (sM 74 [(2,int 0),(3,Am.bool false),(55,.sl 4 false (iB l)),(56,int ↑l.length),(57,int 0)] []) (bF.exit 0) (sM 74 [(2,int ↑(JO l)),(3,Am.bool false)] [])from(by have h0:=hL;simp only[yL c3]at h0;exact h0)),kW 73 ((↑(JO l):Int)+1) (↑(JO l+1):Int)]))) (aF.iM ⟨(aF.int_eq e1),(aF.aI e2),yO⟩)
   .have h:=h.2 c3;obtain⟨e1,e2⟩:=h;exact ak.out ((show Cq 200 [rR 3 n s l] (.bq [int 0,Am.bool false])from aj (l2++[kl (rG [(0,2),(4,51),(58,16)]) 0 (show Rq 0 200 0 (sM 74 [(2,int 0),(3,Am.bool false),(55,.sl 4 false (iB l)),(56,int ↑l.length),(57,int 0)] []) bF.ret (sM 74 [(2,int 0),(3,Am.bool false)] [])from(by have h0:=hL;simp only[yK c3]at h0;exact h0))]))) (aF.iM ⟨(aF.int_eq e1),(aF.aI e2),yO⟩)
  .have h:=h.2 c2;obtain⟨e1,e2⟩:=h;exact ak.out ((show Cq 200 [rR 3 n s l] (.bq [int 0,Am.bool false])from aj (l1++[kf (qN.2 c2),kf (qN.2 c2),kY,kY,kR (3:Int) (4:Int),kO]))) (aF.iM ⟨(aF.int_eq e1),(aF.aI e2),yO⟩)
 .have h:=h.2 c1;by_cases c4:(n=0)
  .have h:=h.1 c4;obtain⟨e1,e2⟩:=h;exact ak.out ((show Cq 200 [rR 3 n s l] (.bq [int 0,Am.bool false])from aj [kv 11 bS,kf (qF c1),kt (nW.2 c4),kN 24 (fA l),kt (nW.2 c4),kv 33 bS,kY,kY,kR (3:Int) (4:Int),kt (show(!decide (s=ByteArray.mk #[]))=true from(y32 (qF c1)))])) (aF.iM ⟨(aF.int_eq e1),(aF.aI e2),yO⟩)
  .have h:=h.2 c4;obtain⟨e1,e2⟩:=h;exact ak.out ((show Cq 200 [rR 3 n s l] (.bq [int 0,Am.bool false])from aj [kv 11 bS,kf (qF c1),kf (qN.2 c4),kf (qN.2 c4),kY,kY,kR (3:Int) (4:Int),kO])) (aF.iM ⟨(aF.int_eq e1),(aF.aI e2),yO⟩)
theorem abn l(hl:l.length<=9223372036854775807)(hd:JO l<=1000000)(hv:∀x∈l,Es x):∀(m i d:Nat),l.length-i=m->i<=l.length->d<=1000000 ->
 Rq 0 200 0 (Lx l d i) (if Lb (l.drop i)=true then .exit 0 else .ret) { aL:=aC 74 [(2,int (if Lb (l.drop i)=true then(max d (JO (l.drop i)):Nat)else 0)),(3,bool false)],H:=[] }:=by
 intro m
 induction m with
 |zero =>
  intro i d hm hi hd';rw[y21 zO];simp only[JO,Nat.max_zero];exact ad1 l d i zO trivial
 |succ m ih =>
  intro i d hm hi hd';have bg:i<l.length:=zO
  have hx:=yA bg;have zI:=y03 bg;have hdx:=Sr zI;have e:=y01 bg;refine abm l d i l[i] bg hl hx zO (hv _ zI) _ _ _ ⟨fun h=>?_,fun h=>?_⟩
  .have:=ih (i+1) (max d (dp l[i])) zO zO zO;rw[e];simp only[Lb,JO,if_true];have e2:(if(dp l[i]:Nat)>(d)then(dp l[i]:Int)else(d))=(max d (dp l[i]):Nat):=by
    split<;>omega
   unfold Lx at this;grind
  .rw [e];simp only[Lb,h,y24];simp
theorem abo v:QG v->dp v<=1000001->Es v:=by
 refine CV.ind (p:=fun v=>QG v->dp v<=1000001->Es v) (fun k n s l ih dK hd=>?_) v;cases dK with
 |mk _ _ _ _ hn hs hl jH =>
  unfold Es;by_cases h1:k=1
  .subst h1;have e':(if wf (.mk 1 n s l)=true then((dp (.mk 1 n s l):Nat):Int)else 0)=0:=by simp[dp]
   rw[e'];have ew:wf (.mk 1 n s l)=(decide (s = .empty)&&decide (l.length=0)):=by simp[wf]
   rw[ew];have T:s = .empty->(l.length:Int)=0->(0:Int)=0/\true=(decide (s = .empty)&&decide (l.length=0)):=fun a b=>⟨rfl,by rw[y19 a,y19 zO];rfl⟩;have F1:s = .empty->¬(l.length:Int)=0->(0:Int)=0/\false=(decide (s = .empty)&&decide (l.length=0)):=fun a b=>⟨rfl,by rw[y19 a,y20 zO];rfl⟩;have F2:¬s = .empty->(0:Int)=0/\false=(decide (s = .empty)&&decide (l.length=0)):=fun a=>⟨rfl,by rw[y20 a];rfl⟩;exact WQ n s l _ _ ⟨fun a=>⟨fun _=>⟨T a,F1 a⟩,fun _=>⟨T a,F1 a⟩⟩,fun a=>⟨fun _=>F2 a,fun _=>F2 a⟩⟩
  .by_cases h2:k=2
   .subst h2;have e':(if wf (.mk 2 n s l)=true then((dp (.mk 2 n s l):Nat):Int)else 0)=0:=by simp[dp]
    rw[e'];have ew:wf (.mk 2 n s l)=(decide (n=0)&&decide (l.length=0)):=by simp[wf]
    rw[ew];have T:n=0->(l.length:Int)=0->(0:Int)=0/\true=(decide (n=0)&&decide (l.length=0)):=fun a b=>⟨rfl,by rw[y19 a,y19 zO];rfl⟩;have F1:n=0->¬(l.length:Int)=0->(0:Int)=0/\false=(decide (n=0)&&decide (l.length=0)):=fun a b=>⟨rfl,by rw[y19 a,y20 zO];rfl⟩;have F2:¬n=0->(0:Int)=0/\false=(decide (n=0)&&decide (l.length=0)):=fun a=>⟨rfl,by rw[y20 a];rfl⟩;exact WR n s l _ _ ⟨fun _=>⟨fun a=>⟨T a,F1 a⟩,F2⟩,fun _=>⟨fun a=>⟨T a,F1 a⟩,F2⟩⟩
   .by_cases h3:k=3
    .subst h3;have hd3:JO l<=1000000:=by simp only[dp,if_true]at hd;omega
     have hL:=abn l hl hd3 (fun x hx=>ih x hx (jH x hx) (by have:=Sr hx;omega)) l.length 0 0 zO zO zO;have ew:wf (.mk 3 n s l)=(decide (n=0)&&decide (s = .empty)&&Lb l):=by simp[wf]
     have ed:dp (.mk 3 n s l)=JO l+1:=by simp[dp]
     rw[ew,ed];refine WT n s l _ _ hl hd3 hL ⟨fun hs=>⟨fun hn=>⟨fun hw=>?_,fun hw=>?_⟩,fun hn=>?_⟩,fun hs=>⟨fun hn=>?_,fun hn=>?_⟩⟩ <;>
      (rw[empty_eq]at hs;simp[hn,hs])<;>(try simp[hw])
    .have e:wf (.mk k n s l)=false:=by simp[wf,h1,h2,h3]
     rw[e];exact WS k n s l zO zS
end Go.yU
namespace Go.bV
open Go Go.Am Go.Proofs Go.eY Go.bH Go.yU
def lZ(n:Int):CV:=.mk 1 n .empty []
def N7(s:yP):CV:=.mk 2 0 s []
def Jt(l:List CV):CV:=.mk 3 0 .empty l
theorem amc n(h:True):Cq 126 [int n] (rR 1 n y33 []):=by
 exact ak.out ((show Cq 126 [int n] (.agg [int 1,int n,str (ByteArray.mk #[]),aK])from aj [])) (aF.qo ⟨y34,y34,y34,(aF.nil _),yO⟩)
theorem ahQ s(h:True):Cq 128 [str s] (rR 2 0 s []):=by
 exact ak.out ((show Cq 128 [str s] (.agg [int 2,int 0,str s,aK])from aj [])) (aF.qo ⟨y34,y34,y34,(aF.nil _),yO⟩)
theorem ahR(t:Bool)xs(h:True):Cq 125 [.sl 4 t xs] (.agg [int 3,int 0,str y33,.sl 4 false xs]):=by
 exact ak.out ((show Cq 125 [.sl 4 t xs] (.agg [int 3,int 0,str (ByteArray.mk #[]),.sl 4 t xs])from aj [])) (aF.qo ⟨y34,y34,y34,(aF.oP _ _ _),yO⟩)
theorem ahS  (h:True):Cq 125 [aK] (.agg [int 3,int 0,str y33,aK]):=by
 exact aj []
theorem iU n:Cq 126 [int n] (rR 1 n .empty []):=amc n trivial
theorem rF s:Cq 128 [str s] (rR 2 0 s []):=ahQ s trivial
theorem uj(t:Bool)xs:Cq 125 [.sl 4 t xs] (.agg [int 3,int 0,str .empty,.sl 4 false xs]):=ahR t xs trivial
theorem Hg:Cq 125 [aK] (.agg [int 3,int 0,str .empty,aK]):=ahS trivial
theorem aqk a b c(h:True):Cq 129 [oO a b c] (rR 3 0 y33 [lZ a,lZ b,lZ c]):=by
 exact aj [kc [] (@iU (a)),kc [] (@iU (b)),kc [] (@iU (c)),kc [] (@uj (true) ([[int 1,int a,str y33,AV.sl 4 false []],[int 1,int b,str y33,AV.sl 4 false []],[int 1,int c,str y33,AV.sl 4 false []]]))]
theorem Qt a b c:Cq 129 [oO a b c] (rR 3 0 .empty [lZ a,lZ b,lZ c]):=aqk a b c trivial
def Lc(d:D):CV:=Jt [lZ d.1,lZ d.2]
def vL(o:OP)(k:Nat):St:={ aL:=aC 85 [(1,.ptr 0 0),(5,.ptr 1 0),(16,bB o.cx),(17,int o.cx.length),(18,int k)],H:=[.box (jy o),.box [int 3,int 0,str .empty,aK]] }
def NQ(o:OP)(g:Nat)(cs:List CV)(k:Nat):St:={ aL:=aC 85 [(1,.ptr 0 0),(5,.ptr 1 0),(16,bB o.cx),(17,int o.cx.length),(18,int k)],H:=[.box (jy o),.box [int 3,int 0,str .empty,.aU 3 g 0 cs.length],.aH,.aN g 4 false (iB cs)] }
theorem amd(o:OP)k(x y:Int)(hk:k<o.cx.length)(hx:o.cx[k]?=some (x,y))(hl:o.cx.length<=1000000000)ex(s':St)(h:Rq 0 96 0 (sM 85 [(1,.ptr 0 0),(5,.ptr 1 0),(16,bB o.cx),(17,int ↑(length o.cx)),(18,int ↑(k+1))] [.box (jy o),.box [int 3,int 0,str y33,.aU 3 0 0 1],.box [int x,int y],.aN 0 4 false [[int 3,int 0,str y33,.sl 4 false [[int 1,int x,str y33,.sl 4 false []],[int 1,int y,str y33,.sl 4 false []]]]]]) ex s'):Rq 0 96 0 (vL o k) ex s':=by
 exact aJ [ki ((k:Int)<(↑(length o.cx):Int)),ke (bH.aQ (x,y)) (au o.cx) k (bG hx),kc [] (@iU (x)),kc [] (@iU (y)),kc [] (@uj (true) ([[int 1,int x,str y33,AV.sl 4 false []],[int 1,int y,str y33,AV.sl 4 false []]])),Qx [int 3,int 0,str y33,AV.sl 4 false [[int 1,int x,str y33,AV.sl 4 false []],[int 1,int y,str y33,AV.sl 4 false []]]],vV 56,kW 35 (k+1) ↑(k+1)] (aB 85 [1,5,16,17,18]) 4 h
theorem ame(o:OP)(g:Nat)(cs:List CV)(k:Nat)(x y:Int)(hk:k<o.cx.length)(hx:o.cx[k]?=some (x,y))(hl:o.cx.length<=1000000000)(jQ:cs.length<=1000000000)(ex:bF)(s':St)(h:((∀(x_1:List AV),x_1∈iB cs++[[int 3,int 0,str y33,AV.sl 4 false [[int 1,int x,str y33,AV.sl 4 false []],[int 1,int y,str y33,AV.sl 4 false []]]]]->AV.gH 4 x_1=true)/\Rq 0 96 0 (sM 85 [(1,.ptr 0 0),(5,.ptr 1 0),(16,bB o.cx),(17,int ↑(length o.cx)),(18,int ↑(k+1))] [.box (jy o),.box [int 3,int 0,str y33,.aU 3 (g+1) 0 (length cs+1)],.aH,.aN (g+1) 4 false (iB cs++[[int 3,int 0,str y33,.sl 4 false [[int 1,int x,str y33,.sl 4 false []],[int 1,int y,str y33,.sl 4 false []]]]])]) ex s')):Rq 0 96 0 (NQ o g cs k) ex s':=by
 obtain⟨o2,h⟩:=h;exact aJ [ki ((k:Int)<(↑(length o.cx):Int)),ke (bH.aQ (x,y)) (au o.cx) k (bG hx),kc [] (@iU (x)),kc [] (@iU (y)),kc [] (@uj (true) ([[int 1,int x,str y33,AV.sl 4 false []],[int 1,int y,str y33,AV.sl 4 false []]])),kq g,kp (Go.yU.fA cs).symm,vV ((length cs+1)*56),kW 35 (k+1) ↑(k+1),kp o2] (aB 85 [1,5,16,17,18]) 4 h
theorem ad2(o:OP)k(hk:o.cx.length<=k)(h:True):Rq 0 96 0 (vL o k) (bF.exit 0) (sM 85 [(1,.ptr 0 0),(5,.ptr 1 0)] [.box (jy o),.box [int 3,int 0,str y33,aK]]):=by
 exact aG [kj ((k:Int)<↑(length o.cx))] (aB 85 [1,5]) 2
theorem ad3 o(g:Nat)cs(k:Nat)(hk:o.cx.length<=k)(h:True):Rq 0 96 0 (NQ o g cs k) (bF.exit 0) (sM 85 [(1,.ptr 0 0),(5,.ptr 1 0)] [.box (jy o),.box [int 3,int 0,str y33,.aU 3 g 0 cs.length],.aH,.aN g 4 false (iB cs)]):=by
 exact aG [kj ((k:Int)<↑(length o.cx))] (aB 85 [1,5]) 4
theorem WU l(v:CV):iB l++[aQ v]=iB (l++[v]):=by grind[lC]
theorem SV l:∀x∈iB l,AV.aM [] x=true:=by
 intro x hx;rw[lC]at hx;obtain⟨v,_,rfl⟩:=yG.1 hx;rfl
theorem WV l:∀x∈iB l,x.all AV.fJ=true:=by
 intro x hx;rw[lC]at hx;obtain⟨v,_,rfl⟩:=yG.1 hx;rfl
def pQ(o:OP):CV:=Jt (o.cx.map Lc)
theorem abp o(hl:o.cx.length<=1000000000):∀ m k g,o.cx.length-k=m->k<=o.cx.length ->
 ∃g',Rq 0 96 0 (NQ o g ((o.cx.take k).map Lc) k) (.exit 0) { aL:=aC 85 [(1,.ptr 0 0),(5,.ptr 1 0)],H:=[.box (jy o),.box [int 3,int 0,str .empty,.aU 3 g' 0 (o.cx.map Lc).length],.aH,.aN g' 4 false (iB (o.cx.map Lc))] }:=by
 intro m
 induction m with
 |zero =>
  intro k g hm hk;have e:o.cx.take k=o.cx:=y27 zO;rw[e];exact⟨g,ad3 o g _ k zO yO⟩
 |succ m ih =>
  intro k g hm hk;have bg:k<o.cx.length:=zO
  obtain⟨g',h⟩:=ih (k+1) (g+1) zO zO;refine⟨g',ame o g _ k o.cx[k].1 o.cx[k].2 bg (by rw[yA bg]) hl (by simp;omega) _ _ ⟨fun x hx=>?_,?_⟩⟩
  .rcases yI.1 hx with hx|hx
   .exact agW (SV _) 4 x hx
   .have:=mem_singleton.1 hx;subst this;rfl
  .have e:(o.cx.take (k+1)).map Lc=(o.cx.take k).map Lc++[Lc o.cx[k]]:=by
    rw[take_add_one,yA bg,map_append];rfl
   rw[e]at h;unfold NQ at h;rw[<- WU,yD]at h;exact h
theorem ad4 o(hl:o.cx.length<=1000000000) :
 (o.cx=[]/\Rq 0 96 0 (vL o 0) (.exit 0) { aL:=aC 85 [(1,.ptr 0 0),(5,.ptr 1 0)],H:=[.box (jy o),.box [int 3,int 0,str .empty,aK]] }) \/
 ∃g',Rq 0 96 0 (vL o 0) (.exit 0) { aL:=aC 85 [(1,.ptr 0 0),(5,.ptr 1 0)],H:=[.box (jy o),.box [int 3,int 0,str .empty,.aU 3 g' 0 (o.cx.map Lc).length],.aH,.aN g' 4 false (iB (o.cx.map Lc))] }:=by
 by_cases h0:o.cx.length=0
 .grind [y02,ad2]
 .have bg:0<o.cx.length:=zO
  obtain⟨g',h⟩:=abp o hl (o.cx.length-1) 1 0 rfl zO;refine .inr ⟨g',amd o 0 o.cx[0].1 o.cx[0].2 bg (by rw[yA bg]) hl _ _ ?_⟩;have e:(o.cx.take 1).map Lc=[Lc o.cx[0]]:=by
   rw[take_one,head?_eq_getElem?,yA bg];rfl
  rw[e]at h;exact bN.acz h ⟨.inl rfl,.inl rfl,.inr yO,.inl rfl,yO⟩
theorem amf o(hl:o.cx.length<=1000000000):(o.cx=[]/\Rq 0 96 0 (vL o 0) (.exit 0) { aL:=aC 85 [(1,.ptr 0 0),(5,.ptr 1 0)],H:=[.box (jy o),.box (aQ (pQ o))] }) \/
 Rq 0 96 0 (vL o 0) (.exit 0) { aL:=aC 85 [(1,.ptr 0 0),(5,.ptr 1 0)],H:=[.box (jy o),.box (aQ (pQ o)),.aH,.aH] }:=by
 rcases ad4 o hl with⟨h0,h⟩|⟨g',h⟩
 .refine .inl ⟨h0,bN.qm h ⟨.inl rfl,.inr ⟨rfl,fun j hj=>?_⟩,yO⟩⟩;unfold pQ;rw[h0]
  match j,hj with
  |0,_=>exact y34
  |1,_=>exact y34
  |2,_=>exact y34
  |3,_=>exact aF.nil 4
 .refine .inr ?_;have h2:=bN.ahI (b:=1) (j:=3)  h rfl  rfl rfl rfl ⟨rfl,aa7 _,fA _,WV _,yO⟩;exact bN.qm h2 ⟨.inl rfl,.inl rfl,.inl rfl,.inr yO,yO⟩
def opW(o:OP)(b:Int):CV:=Jt [lZ o.dv,lZ o.sq,lZ o.tm,pQ o,Jt [lZ o.pk,N7 o.pn],lZ o.kd,Jt [lZ o.f1,lZ o.f2,lZ o.f3],Jt [lZ o.t1,lZ o.t2,lZ o.t3],N7 o.ky,N7 o.vl,lZ o.n,lZ b]
def P6(o:OP):CV:=opW o (if o.on=true then 1 else 0)
theorem ahT(o:OP)(l:List UInt8)(e:Int)(UO:o.on=true)(hc:Cq 31 [op o] (int 0))(hL:Rq 0 96 0 (vL o 0) (.exit 0) { aL:=aC 85 [(1,.ptr 0 0),(5,.ptr 1 0)],H:=[.box (jy o),.box (aQ (pQ o))] })(he:Cq 127 [val (opW o 1)] (.bq [Cy l,int e]))(h:True):Cq 96 [op o] (.bq [Cy l,int e]):=by
 exact aj [kc [] hc,kY,kc [] (@Hg ),kN 17 (Go.bH.ay o.cx),kl (rG [(0,1),(2,3),(6,10),(19,66)]) 2 hL,kt UO,kc [] (@iU o.dv),kc [] (@iU o.sq),kc [] (@iU o.tm),kc [] (@iU o.pk),kc [] (@rF o.pn),kc [] (@uj (true) ([[int 1,int o.pk,str y33,AV.sl 4 false []],[int 2,int 0,str o.pn,AV.sl 4 false []]])),kc [] (@iU o.kd),kc [] (@Qt o.f1 o.f2 o.f3),kc [] (@Qt o.t1 o.t2 o.t3),kc [] (@rF o.ky),kc [] (@rF o.vl),kc [] (@iU o.n),kc [] (@iU (1)),kc [] (@uj (true) ([[int 1,int o.dv,str y33,AV.sl 4 false []],[int 1,int o.sq,str y33,AV.sl 4 false []],[int 1,int o.tm,str y33,AV.sl 4 false []],[int (CV.k (pQ o)),int (CV.n (pQ o)),str (CV.s (pQ o)),AV.sl 4 false (iB (CV.l (pQ o)))],[int 3,int 0,str y33,AV.sl 4 false [[int 1,int o.pk,str y33,AV.sl 4 false []],[int 2,int 0,str o.pn,AV.sl 4 false []]]],[int 1,int o.kd,str y33,AV.sl 4 false []],[int 3,int 0,str y33,AV.sl 4 false [[int 1,int o.f1,str y33,AV.sl 4 false []],[int 1,int o.f2,str y33,AV.sl 4 false []],[int 1,int o.f3,str y33,AV.sl 4 false []]]],[int 3,int 0,str y33,AV.sl 4 false [[int 1,int o.t1,str y33,AV.sl 4 false []],[int 1,int o.t2,str y33,AV.sl 4 false []],[int 1,int o.t3,str y33,AV.sl 4 false []]]],[int 2,int 0,str o.ky,AV.sl 4 false []],[int 2,int 0,str o.vl,AV.sl 4 false []],[int 1,int o.n,str y33,AV.sl 4 false []],[int 1,int 1,str y33,AV.sl 4 false []]])),kc [] he]
theorem ahU(o:OP)(l:List UInt8)(e:Int)(UO:o.on=true)(hc:Cq 31 [op o] (int 0))(hL:Rq 0 96 0 (vL o 0) (.exit 0) { aL:=aC 85 [(1,.ptr 0 0),(5,.ptr 1 0)],H:=[.box (jy o),.box (aQ (pQ o)),.aH,.aH] })(he:Cq 127 [val (opW o 1)] (.bq [Cy l,int e]))(h:True):Cq 96 [op o] (.bq [Cy l,int e]):=by
 exact aj [kc [] hc,kY,kc [] (@Hg ),kN 17 (Go.bH.ay o.cx),kl (rG [(0,1),(2,3),(6,10),(19,66)]) 2 hL,kt UO,kc [] (@iU o.dv),kc [] (@iU o.sq),kc [] (@iU o.tm),kc [] (@iU o.pk),kc [] (@rF o.pn),kc [] (@uj (true) ([[int 1,int o.pk,str y33,AV.sl 4 false []],[int 2,int 0,str o.pn,AV.sl 4 false []]])),kc [] (@iU o.kd),kc [] (@Qt o.f1 o.f2 o.f3),kc [] (@Qt o.t1 o.t2 o.t3),kc [] (@rF o.ky),kc [] (@rF o.vl),kc [] (@iU o.n),kc [] (@iU (1)),kc [] (@uj (true) ([[int 1,int o.dv,str y33,AV.sl 4 false []],[int 1,int o.sq,str y33,AV.sl 4 false []],[int 1,int o.tm,str y33,AV.sl 4 false []],[int (CV.k (pQ o)),int (CV.n (pQ o)),str (CV.s (pQ o)),AV.sl 4 false (iB (CV.l (pQ o)))],[int 3,int 0,str y33,AV.sl 4 false [[int 1,int o.pk,str y33,AV.sl 4 false []],[int 2,int 0,str o.pn,AV.sl 4 false []]]],[int 1,int o.kd,str y33,AV.sl 4 false []],[int 3,int 0,str y33,AV.sl 4 false [[int 1,int o.f1,str y33,AV.sl 4 false []],[int 1,int o.f2,str y33,AV.sl 4 false []],[int 1,int o.f3,str y33,AV.sl 4 false []]]],[int 3,int 0,str y33,AV.sl 4 false [[int 1,int o.t1,str y33,AV.sl 4 false []],[int 1,int o.t2,str y33,AV.sl 4 false []],[int 1,int o.t3,str y33,AV.sl 4 false []]]],[int 2,int 0,str o.ky,AV.sl 4 false []],[int 2,int 0,str o.vl,AV.sl 4 false []],[int 1,int o.n,str y33,AV.sl 4 false []],[int 1,int 1,str y33,AV.sl 4 false []]])),kc [] he]
theorem ahV(o:OP)(l:List UInt8)(e:Int)(UO:o.on=false)(hc:Cq 31 [op o] (int 0))(hL:Rq 0 96 0 (vL o 0) (.exit 0) { aL:=aC 85 [(1,.ptr 0 0),(5,.ptr 1 0)],H:=[.box (jy o),.box (aQ (pQ o))] })(he:Cq 127 [val (opW o 0)] (.bq [Cy l,int e]))(h:True):Cq 96 [op o] (.bq [Cy l,int e]):=by
 exact aj [kc [] hc,kY,kc [] (@Hg ),kN 17 (Go.bH.ay o.cx),kl (rG [(0,1),(2,3),(6,10),(19,66)]) 2 hL,kf UO,kc [] (@iU o.dv),kc [] (@iU o.sq),kc [] (@iU o.tm),kc [] (@iU o.pk),kc [] (@rF o.pn),kc [] (@uj (true) ([[int 1,int o.pk,str y33,AV.sl 4 false []],[int 2,int 0,str o.pn,AV.sl 4 false []]])),kc [] (@iU o.kd),kc [] (@Qt o.f1 o.f2 o.f3),kc [] (@Qt o.t1 o.t2 o.t3),kc [] (@rF o.ky),kc [] (@rF o.vl),kc [] (@iU o.n),kc [] (@iU (0)),kc [] (@uj (true) ([[int 1,int o.dv,str y33,AV.sl 4 false []],[int 1,int o.sq,str y33,AV.sl 4 false []],[int 1,int o.tm,str y33,AV.sl 4 false []],[int (CV.k (pQ o)),int (CV.n (pQ o)),str (CV.s (pQ o)),AV.sl 4 false (iB (CV.l (pQ o)))],[int 3,int 0,str y33,AV.sl 4 false [[int 1,int o.pk,str y33,AV.sl 4 false []],[int 2,int 0,str o.pn,AV.sl 4 false []]]],[int 1,int o.kd,str y33,AV.sl 4 false []],[int 3,int 0,str y33,AV.sl 4 false [[int 1,int o.f1,str y33,AV.sl 4 false []],[int 1,int o.f2,str y33,AV.sl 4 false []],[int 1,int o.f3,str y33,AV.sl 4 false []]]],[int 3,int 0,str y33,AV.sl 4 false [[int 1,int o.t1,str y33,AV.sl 4 false []],[int 1,int o.t2,str y33,AV.sl 4 false []],[int 1,int o.t3,str y33,AV.sl 4 false []]]],[int 2,int 0,str o.ky,AV.sl 4 false []],[int 2,int 0,str o.vl,AV.sl 4 false []],[int 1,int o.n,str y33,AV.sl 4 false []],[int 1,int 0,str y33,AV.sl 4 false []]])),kc [] he]
theorem ahW(o:OP)(l:List UInt8)(e:Int)(UO:o.on=false)(hc:Cq 31 [op o] (int 0))(hL:Rq 0 96 0 (vL o 0) (.exit 0) { aL:=aC 85 [(1,.ptr 0 0),(5,.ptr 1 0)],H:=[.box (jy o),.box (aQ (pQ o)),.aH,.aH] })(he:Cq 127 [val (opW o 0)] (.bq [Cy l,int e]))(h:True):Cq 96 [op o] (.bq [Cy l,int e]):=by
 exact aj [kc [] hc,kY,kc [] (@Hg ),kN 17 (Go.bH.ay o.cx),kl (rG [(0,1),(2,3),(6,10),(19,66)]) 2 hL,kf UO,kc [] (@iU o.dv),kc [] (@iU o.sq),kc [] (@iU o.tm),kc [] (@iU o.pk),kc [] (@rF o.pn),kc [] (@uj (true) ([[int 1,int o.pk,str y33,AV.sl 4 false []],[int 2,int 0,str o.pn,AV.sl 4 false []]])),kc [] (@iU o.kd),kc [] (@Qt o.f1 o.f2 o.f3),kc [] (@Qt o.t1 o.t2 o.t3),kc [] (@rF o.ky),kc [] (@rF o.vl),kc [] (@iU o.n),kc [] (@iU (0)),kc [] (@uj (true) ([[int 1,int o.dv,str y33,AV.sl 4 false []],[int 1,int o.sq,str y33,AV.sl 4 false []],[int 1,int o.tm,str y33,AV.sl 4 false []],[int (CV.k (pQ o)),int (CV.n (pQ o)),str (CV.s (pQ o)),AV.sl 4 false (iB (CV.l (pQ o)))],[int 3,int 0,str y33,AV.sl 4 false [[int 1,int o.pk,str y33,AV.sl 4 false []],[int 2,int 0,str o.pn,AV.sl 4 false []]]],[int 1,int o.kd,str y33,AV.sl 4 false []],[int 3,int 0,str y33,AV.sl 4 false [[int 1,int o.f1,str y33,AV.sl 4 false []],[int 1,int o.f2,str y33,AV.sl 4 false []],[int 1,int o.f3,str y33,AV.sl 4 false []]]],[int 3,int 0,str y33,AV.sl 4 false [[int 1,int o.t1,str y33,AV.sl 4 false []],[int 1,int o.t2,str y33,AV.sl 4 false []],[int 1,int o.t3,str y33,AV.sl 4 false []]]],[int 2,int 0,str o.ky,AV.sl 4 false []],[int 2,int 0,str o.vl,AV.sl 4 false []],[int 1,int o.n,str y33,AV.sl 4 false []],[int 1,int 0,str y33,AV.sl 4 false []]])),kc [] he]
theorem alu(o:OP)e(he:¬e=0)(hc:Cq 31 [op o] (int e))(h:True):Cq 96 [op o] (.bq [Cy [],int e]):=by
 exact ak.out ((show Cq 96 [op o] (.bq [aK,int e])from aj [kc [] hc,kt (((y32 (qF zO))))])) (aF.iM ⟨(aF.nil _),y34,yO⟩)
theorem ag9(o:OP)l(e:Int)(hl:o.cx.length<=1000000000)(hc:Cq 31 [op o] (int 0))(he:Cq 127 [val (P6 o)] (.bq [Cy l,int e])):Cq 96 [op o] (.bq [Cy l,int e]):=by
 unfold P6 at he;cases UO:o.on with
 |true =>
  rw[UO]at he;rcases amf o hl with⟨_,h⟩|h
  .exact ahT o l e UO hc h he trivial
  .exact ahU o l e UO hc h he trivial
 |false =>
  rw[UO]at he;rcases amf o hl with⟨_,h⟩|h
  .exact ahV o l e UO hc h he trivial
  .exact ahW o l e UO hc h he trivial
def hd(l:List CV):CV:=l.headD default
def at_(l:List CV)(i:Nat):CV:=(l.drop i).headD default
def rb(l:List CV):List ah:=[.box [.sl 4 false (iB l)]]
theorem aql:Sc P 130:=⟨_,rfl,zQ,zQ,zQ,zQ⟩
theorem ahX a b(v:Int)(h:Lib.compareBytes (Array.toList (toArray a)) (Array.toList (toArray b))=(v)):Cq 97 [Cy a,Cy b] (int v):=by
 exact aA (aF.int_eq h) [ko (bC.alc (ByteArray.mk (toArray a)) (ByteArray.mk (toArray b))),kp (aql),kp (show jl a=Jh (ByteArray.mk (toArray a))from(rfl)),kp (show jl b=Jh (ByteArray.mk (toArray b))from(rfl))]
theorem CX x(h:(x != x)=(false)):Cq 118 [int x] (Am.bool false):=by
 exact aA (aF.aI h) []
theorem QX x y v(hx:Cq 118 [int x] (bool false))(hy:Cq 118 [int y] (bool false))(h:(((x<y)->-1=(v))/\((¬x<y)->(((x>y)->1=v)/\((¬x>y)->0=v))))):Cq 87 [int x,int y] (int v):=by
 let l1:List fP:=[kc [] hx,kc [] hy,kY,kY];by_cases c1:(x<y)
 .have h:=h.1 c1;exact aA (aF.int_eq h) (l1++[kt (qT c1)])
 .have h:=h.2 c1;by_cases c2:(x>y)
  .have h:=h.1 c2;exact aA (aF.int_eq h) (l1++[kf (qF c1),kt (qT c2)])
  .have h:=h.2 c2;exact aA (aF.int_eq h) (l1++[kf (qF c1),kf (qF c2)])
theorem ahY a b:Cq 97 [Cy a,Cy b] (int (Lib.compareBytes a b)):=ahX a b _ rfl
def gJ(x y:Int):Int:=if x<y then -1 else if x>y then 1 else 0
theorem wZ x y:Cq 87 [int x,int y] (int (gJ x y)):=QX x y _ (CX x zS) (CX y zS) (by
 unfold gJ;grind)
def Ar:List Int->Int
 |[]=>0
 |x::t=>if x=0 then Ar t else x
def H7(l:List Int)(k:Nat):St:={ aL:=aC 18 [(2,int 0),(3,int 0),(6,.sl 1 true (ql l)),(7,int l.length),(8,int k)],H:=[] }
theorem XZ l(k:Nat)(hl:l.length<=1000000)(ex:bF)r(h:((((k:Int)<l.length)->(∃x2:Int,(l[k]?=some x2)/\(((x2=0)->Rq 0 86 0 (sM 18 [(2,int 0),(3,int 0),(6,.sl 1 true (ql l)),(7,int ↑l.length),(8,int ↑(k+1))] []) ex (sM 18 [(2,int r),(3,int 0)] []))/\((¬x2=0)->(bF.ret=ex)/\(x2=(r))))))/\((¬(k:Int)<l.length)->(bF.exit 0=ex)/\(0=r)))):Rq 0 86 0 (H7 l k) ex (sM 18 [(2,int r),(3,int 0)] []):=by
 by_cases c1:(k<(l.length:Int))
 .have h:=h.1 c1;obtain⟨x2,o3,h⟩:=h;have bS:(0:Int)<=k/\(ql l)[Int.toNat k]?=some (LW x2):=(bG o3);by_cases c4:(x2=0)
  .have h:=h.1 c4;exact aJ [kt (qT c1),ko (bC.elem (LW x2)),kp bS,kf (y32 (nW.2 c4)),kW 16 (k+1) ↑(k+1)] (aB 18 [2,3,6,7,8]) 0 h
  .have h:=h.2 c4;obtain⟨eX,e1⟩:=h;exact bN.to ((show Rq 0 86 0 (H7 l k) bF.ret (sM 18 [(2,int x2),(3,int 0)] [])from aG [kt (qT c1),ko (bC.elem (LW x2)),kp bS,kt (((y32 (qN.2 c4))))] (aB 18 [2,3]) 0)) eX (eB.aC ⟨rfl,(aF.int_eq e1),rfl,y34,yO⟩)
 .have h:=h.2 c1;obtain⟨eX,e1⟩:=h;exact bN.to ((show Rq 0 86 0 (H7 l k) (bF.exit 0) (sM 18 [(2,int 0),(3,int 0)] [])from aG [kf (qF c1)] (aB 18 [2,3]) 0)) eX (eB.aC ⟨rfl,(aF.int_eq e1),rfl,y34,yO⟩)
theorem Gw l(hl:l.length<=1000000):∀ m k,l.length-k=m->k<=l.length->Rq 0 86 0 (H7 l k) (if Ar (l.drop k)=0 then .exit 0 else .ret) { aL:=aC 18 [(2,int (Ar (l.drop k))),(3,int 0)],H:=[] }:=by
 intro m
 induction m with
 |zero =>
  intro k hm hk;have e:l.drop k=[]:=y21 zO;rw[e];exact XZ l k hl _ _ ⟨fun h=>absurd h zO,fun _=>⟨rfl,rfl⟩⟩
 |succ m ih =>
  intro k hm hk;have bg:k<l.length:=zO
  have e:=y01 bg;refine XZ l k hl _ _ ⟨fun _=>⟨l[k],yA bg,⟨fun h0=>?_,fun h0=>?_⟩⟩,fun h=>absurd bg zO⟩
  .have:Ar (l.drop k)=Ar (l.drop (k+1)):=by rw[e,Ar,yL h0]
   rw[this];exact ih (k+1) zO zO
  .have:Ar (l.drop k)=l[k]:=by rw[e,Ar,yK h0]
   grind
theorem ab0 l(r:Int)(hL:Rq 0 86 0 (H7 l 0) (if r=0 then .exit 0 else .ret) { aL:=aC 18 [(2,int r),(3,int 0)],H:=[] })(h:(((r=0)->0=r)/\((¬r=0)->True))):Cq 86 [.sl 1 true (ql l)] (int r):=by
 have bS:=lU (Go.bH.kD l);by_cases c1:(r=0)
 .have h:=h.1 c1;exact aA (aF.int_eq h) [kv 7 bS,kl (rG [(0,2),(4,2),(9,9)]) 0 (((by have h0:=hL;simp only[yL c1]at h0;exact h0)))]
 .exact aj [kv 7 bS,kl (rG [(0,2),(4,2),(9,9)]) 0 (((by have h0:=hL;simp only[yK c1]at h0;exact h0)))]
theorem X0 a b c:Cq 86 [.sl 1 true [[int a],[int b],[int c]]] (int (Ar [a,b,c])) :=
 ab0 [a,b,c] _ (by have:=Gw [a,b,c] zS 3 0 rfl zS;grind) ⟨fun h=>h.symm,fun _=>trivial⟩
def xW(a b:OP)(x y:List UInt8):Int :=
 if Ar [gJ a.tm b.tm,gJ a.dv b.dv,gJ a.sq b.sq]=0 then Lib.compareBytes x y else Ar [gJ a.tm b.tm,gJ a.dv b.dv,gJ a.sq b.sq]
theorem amg(a b:OP)(x y:List UInt8)(e1 e2 v:Int)(hx:Cq 96 [op a] (.bq [Cy x,int e1]))(hy:Cq 96 [op b] (.bq [Cy y,int e2]))(h:(((Ar [gJ a.tm b.tm,gJ a.dv b.dv,gJ a.sq b.sq]=0)->(Lib.compareBytes x y:Int)=(v))/\((¬Ar [gJ a.tm b.tm,gJ a.dv b.dv,gJ a.sq b.sq]=0)->(Ar [gJ a.tm b.tm,gJ a.dv b.dv,gJ a.sq b.sq]:Int)=(v)))):Cq 65 [op a,op b] (int v):=by
 have bS:=(@wZ a.tm b.tm);have fT:=(@wZ a.dv b.dv);have jw:=(@wZ a.sq b.sq);have x9:=(@X0 (gJ a.tm b.tm) (gJ a.dv b.dv) (gJ a.sq b.sq));by_cases c1:(Ar [gJ a.tm b.tm,gJ a.dv b.dv,gJ a.sq b.sq]=0)
 .have h:=h.1 c1;exact aA (aF.int_eq h) [kc [] bS,kc [] fT,kc [] jw,kc [] x9,kt (nW.2 c1),kc [] hx,kc [] hy,kc [] (@ahY (x) (y))]
 .have h:=h.2 c1;exact aA (aF.int_eq h) [kc [] bS,kc [] fT,kc [] jw,kc [] x9,kf (qN.2 c1)]
theorem alv(a b:OP)x y(e1 e2:Int)(hx:Cq 96 [op a] (.bq [Cy x,int e1]))(hy:Cq 96 [op b] (.bq [Cy y,int e2])):Cq 65 [op a,op b] (int (xW a b x y)):=amg a b x y e1 e2 _ hx hy (by
 unfold xW;omega)
theorem Uz:∀x y:List UInt8,Lib.compareBytes x y=0↔x=y
 |[],[]=>by simp[Lib.compareBytes]
 |[],_::_=>by simp[Lib.compareBytes]
 |_::_,[]=>by simp[Lib.compareBytes]
 |a::xs,b::ys=>by
  have ih:=Uz xs ys;simp only[Lib.compareBytes];grind
end Go.bV
namespace Go.yU
open Go Go.Am Go.Proofs Go.eY
theorem wrap_u64(n:Nat):IntKind.wrap .u64 n=(n % 18446744073709551616:Nat):=by
 show(let m:=(n:Int) % 2^64;if(IntKind.u64.signed&&m>=2^(64-1))=true then m-(2^64)else m)=_;simp[IntKind.signed]
theorem wrap_u8(n:Nat):IntKind.wrap .u8 n=(n % 256:Nat):=by
 show(let m:=(n:Int) % 2^8;if(IntKind.u8.signed&&m>=2^(8-1))=true then m-(2^8)else m)=_;simp[IntKind.signed]
theorem wM(w n:Nat):(BitVec.ofInt w n).toNat=n % 2^w:=by simp[BitVec.toNat_ofInt]
theorem wrap64{n:Nat}(h:n<18446744073709551616):IntKind.wrap .u64 n=n:=by rw[wrap_u64,Nat.mod_eq_of_lt h]
theorem ae4{n:Nat}(h:n<256):IntKind.wrap .u8 n=n:=by rw[wrap_u8,Nat.mod_eq_of_lt h]
def SX:List UInt8->Nat->Nat->Bool×Nat×List UInt8
 |[],u,_=>(false,u,[])
 |c::r,u,i=>if(i≠0/\c.toNat=0)\/(9<=i/\1<c.toNat)then(false,u,r)
  else if c.toNat<128 then(true,u+c.toNat % 128*2^(7*i),r)else SX r (u+c.toNat % 128*2^(7*i)) (i+1)
def Qu(l:List UInt8):Bool:=(SX l 0 0).1
def Cn(l:List UInt8):Nat:=(SX l 0 0).2.1
def Co(l:List UInt8):List UInt8:=(SX l 0 0).2.2
theorem sD n:IntKind.wrap .u64 n=n % 18446744073709551616:=by
 show(let m:=n % 2^64;if(IntKind.u64.signed&&m>=2^(64-1))=true then m-(2^64)else m)=_;simp[IntKind.signed]
def vP(n:Int):Nat:=if 0<=n then 2*n.toNat else 2*(-(n+1)).toNat+1
theorem abq n:Vv P G 203 [int n] [] [] =
 some (aS.ret (AV.lit (Value.int IntKind.u64 (IntKind.wrap IntKind.u64 ↑(BitVec.toNat (BitVec.ofInt (IntKind.bits IntKind.u64) (IntKind.wrap IntKind.u64 (IntKind.wrap IntKind.u64 n*2^min (Int.toNat 1) (IntKind.bits IntKind.u64))) ^^^ BitVec.ofInt (IntKind.bits IntKind.u64) (IntKind.wrap IntKind.u64 (Int.fdiv n (2^min (Int.toNat 63) (IntKind.bits IntKind.i64))))))))),[],[0<=(1:Int),(0:Int)<=63]):=zQ
theorem amh(n:Int)v(h:(IntKind.wrap IntKind.u64 ↑(BitVec.toNat (BitVec.ofInt (IntKind.bits IntKind.u64) (IntKind.wrap IntKind.u64 (IntKind.wrap IntKind.u64 n*2^min (Int.toNat 1) (IntKind.bits IntKind.u64))) ^^^ BitVec.ofInt (IntKind.bits IntKind.u64) (IntKind.wrap IntKind.u64 (Int.fdiv n (2^min (Int.toNat 63) (IntKind.bits IntKind.i64)))))):Int)=(v)):Cq 203 [int n] (AV.lit (Value.int IntKind.u64 v)):=by
 have e1:=h;exact ak.out (xq _ (abq n) ⟨zO,zO,yO⟩) (aF.int_eq e1)
theorem Sn{n}(hn : -9223372036854775808<=n/\n<9223372036854775808):vP n<18446744073709551616:=by grind[vP]
theorem ahZ{n}(hn : -9223372036854775808<=n/\n<9223372036854775808):IntKind.wrap IntKind.u64 ↑(BitVec.toNat (BitVec.ofInt (IntKind.bits IntKind.u64) (IntKind.wrap IntKind.u64 (IntKind.wrap IntKind.u64 n*2^min (Int.toNat 1) (IntKind.bits IntKind.u64))) ^^^ BitVec.ofInt (IntKind.bits IntKind.u64) (IntKind.wrap IntKind.u64 (Int.fdiv n (2^min (Int.toNat 63) (IntKind.bits IntKind.i64))))))=vP n:=by
 have e1:min (Int.toNat 1) (IntKind.bits IntKind.u64)=1:=zD
 have e2:min (Int.toNat 63) (IntKind.bits IntKind.i64)=63:=zD
 have e3:(2:Int)^63=9223372036854775808:=zD
 rw[e1,e2,e3];unfold vP;by_cases h:0<=n
 .rw [yL h];have f1:Int.fdiv n 9223372036854775808=((0:Nat):Int):=by rw[Int.fdiv_eq_ediv_of_nonneg _ zD];omega
  have f2:IntKind.wrap IntKind.u64 n=((n.toNat:Nat):Int):=by rw[sD];omega
  have f3:IntKind.wrap IntKind.u64 (((n.toNat:Nat):Int)*2^1)=((2*n.toNat:Nat):Int):=by rw[sD];omega
  have f4:IntKind.wrap IntKind.u64 ((0:Nat):Int)=((0:Nat):Int):=zD
  rw[f1,f2,f3,f4,BitVec.toNat_xor,wM,wM];have f5:(2*n.toNat) % 2^IntKind.bits IntKind.u64 ^^^ 0 % 2^IntKind.bits IntKind.u64=2*n.toNat:=by
   show(2*n.toNat) % 2^64 ^^^ 0 % 2^64=_;rw[Nat.zero_mod,Nat.xor_zero,Nat.mod_eq_of_lt zO]
  rw[f5,wrap64 zO]
 .rw [yK h];have f1:Int.fdiv n 9223372036854775808 = -1:=by rw[Int.fdiv_eq_ediv_of_nonneg _ zD];omega
  have f4:IntKind.wrap IntKind.u64 (-1)=((18446744073709551615:Nat):Int):=zD
  have f3:IntKind.wrap IntKind.u64 (IntKind.wrap IntKind.u64 n*2^1)=((18446744073709551614-2*(-(n+1)).toNat:Nat):Int):=by rw[sD,sD];omega
  rw[f1,f3,f4];have f6:BitVec.ofInt 64 ((18446744073709551615:Nat):Int)=BitVec.allOnes 64:=zD
  show IntKind.wrap IntKind.u64 ((BitVec.ofInt 64 ((18446744073709551614-2*(-(n+1)).toNat:Nat):Int) ^^^ BitVec.ofInt 64 ((18446744073709551615:Nat):Int)).toNat:Int)=_;rw[f6,BitVec.xor_allOnes,BitVec.toNat_not,wM,Nat.mod_eq_of_lt zO];have h7:(2:Nat)^64=18446744073709551616:=zD
  rw[h7,wrap64 zO];omega
theorem ae5 n(hn : -9223372036854775808<=n/\n<9223372036854775808):Cq 203 [int n] (u64 (vP n)):=amh n _ (ahZ hn)
def um:Nat->Nat->List UInt8
 |0,_=>[]
 |f+1,u=>if u<128 then[]else UInt8.ofNat (u % 128+128)::um f (u/128)
def xX:Nat->Nat->Nat
 |0,u=>u
 |f+1,u=>if u<128 then u else xX f (u/128)
def num(u:Nat):List UInt8:=um 9 u++[UInt8.ofNat (xX 9 u)]
theorem JK:∀ f u,u<128*128^f->xX f u<128
 |0,u,h=>by simpa[xX]using h
 |f+1,u,h=>by
  simp only[xX];split
  .assumption
  .exact JK f (u/128) (by omega)
theorem JL:∀ f u,(um f u).length<=f
 |0,_=>yM
 |f+1,u=>by
  simp only[um];split
  .simp
  .have:=JL f (u/128);grind
theorem Nz u:(num u).length<=10/\1<=(num u).length:=by grind[JL,num,yD,yE,y14]
def SY(xs:List (List AV))(g u:Nat):St:={ aL:=aC 20 [(0,.aU 0 g 0 xs.length),(1,u64 u)],H:=[.aN g 1 false xs] }
theorem WW xs(g:Nat)u:Dv P G none 1 (vg P 202 0) (SY xs g u) [bC.br false] (aB 20 [0,1]) 1 =
 some (bF.exit 0,{ aL:=aC 20 [(0,AV.aU 0 g 0 (length xs)),(1,AV.lit (Value.int IntKind.u64 ↑u))],H:=[ah.aN g 1 false xs] },[decide ((↑u:Int)>=128)=false]):=zQ
theorem abr xs(g u:Nat)(hu:u<128)(h:True):Rq 1 202 0 (SY xs g u) (bF.exit 0) { aL:=aC 20 [(0,AV.aU 0 g 0 (length xs)),(1,u64 u)],H:=[ah.aN g 1 false xs] }:=by
 exact bN.exit _ _ _ (WW xs g u) ⟨(y20 zO),yO⟩
theorem S9 xs(g:Nat)u:tJ P G none 1 (vg P 202 0) (SY xs g u) [bC.br true] (aB 20 [0,1]) 1 =
 some ({ aL:=aC 20 [(0,AV.aU 0 (g+1) 0 (length xs+1)),(1,AV.lit (Value.int IntKind.u64 (Int.fdiv ↑u (2^min (Int.toNat 7) (IntKind.bits IntKind.u64)))))],H:=[ah.aN (g+1) 1 false (xs++[[AV.lit (Value.int IntKind.u8 (IntKind.wrap IntKind.u8 (↑(BitVec.toNat (BitVec.ofInt (IntKind.bits IntKind.u8) (IntKind.wrap IntKind.u8 ↑u) ||| BitVec.ofInt (IntKind.bits IntKind.u8) 128)):Int)))]])] },[decide ((↑u:Int)>=128)=true,g=g,length xs=length xs,(length xs+1)*1<=140737488355328,(0:Int)<=7]):=zQ
theorem ad5 xs(g u:Nat)(hu:¬u<128)(hl:xs.length<=1000000000)(BF:∀x∈xs,AV.aM [] x=true)ex(s':St)(h:Rq 1 202 0 { aL:=aC 20 [(0,AV.aU 0 (g+1) 0 (length xs+1)),(1,AV.lit (Value.int IntKind.u64 (Int.fdiv ↑u (2^min (Int.toNat 7) (IntKind.bits IntKind.u64)))))],H:=[ah.aN (g+1) 1 false (xs++[[AV.lit (Value.int IntKind.u8 (IntKind.wrap IntKind.u8 (↑(BitVec.toNat (BitVec.ofInt (IntKind.bits IntKind.u8) (IntKind.wrap IntKind.u8 ↑u) ||| BitVec.ofInt (IntKind.bits IntKind.u8) 128)):Int)))]])] } ex s'):Rq 1 202 0 (SY xs g u) ex s':=by
 exact bN.next _ _ _ (S9 xs g u) ⟨(y19 zO),(rfl),(rfl),zO,zO,yO⟩ h
theorem ad6(xs:List (List AV))ys(g:Nat)g'(u:Nat)(v:Nat):Vv P G 202 [AV.aU 0 g 0 (length xs),u64 u] [ah.aN g 1 false xs] [bC.loop [2,3,4,5,6,7,8,9,10,11,12,13,14,15,16,17,18,19] 1 (bF.exit 0) [AV.aU 0 g' 0 (length ys),AV.lit (Value.int IntKind.u64 ↑v),AV.aP,AV.aP,AV.aP,AV.aP,AV.aP,AV.aP,AV.aP,AV.aP,AV.aP,AV.aP,AV.aP,AV.aP,AV.aP,AV.aP,AV.aP,AV.aP,AV.aP,AV.aP] [ah.aN g' 1 false ys]] =
 some (aS.ret (AV.aU 0 (g'+1) 0 (length ys+1)),[ah.aN (g'+1) 1 false (ys++[[AV.lit (Value.int IntKind.u8 (IntKind.wrap IntKind.u8 ↑v))]])],[Rq 1 202 0 { aL:=aC 20 [(0,AV.aU 0 g 0 (length xs)),(1,AV.lit (Value.int IntKind.u64 ↑u))],H:=[ah.aN g 1 false xs] } (bF.exit 0) { aL:=aC 20 [(0,AV.aU 0 g' 0 (length ys)),(1,AV.lit (Value.int IntKind.u64 ↑v))],H:=[ah.aN g' 1 false ys] },g'=g',length ys=length ys,(length ys+1)*1<=140737488355328]):=zQ
theorem aqm xs ys(g g' u v:Nat)(hl:ys.length<=1000000000)(hL:Rq 1 202 0 (SY xs g u) (.exit 0) { aL:=aC 20 [(0,.aU 0 g' 0 ys.length),(1,u64 v)],H:=[.aN g' 1 false ys] })b(hb:IntKind.wrap .u8 v=b)(h:[ah.aN (g'+1) 1 false (ys++[[AV.lit (Value.int IntKind.u8 (IntKind.wrap IntKind.u8 ↑v))]])]=[ah.aN (g'+1) 1 false (ys++[[AV.lit (Value.int IntKind.u8 b)]])]):ak P G 202 [AV.aU 0 g 0 (length xs),u64 u] [ah.aN g 1 false xs] (aS.ret (AV.aU 0 (g'+1) 0 (length ys+1))) [ah.aN (g'+1) 1 false (ys++[[AV.lit (Value.int IntKind.u8 b)]])]:=by
 have eH:=h;exact ak.heap (xq _ (ad6 xs ys g g' u v) ⟨(@hL ),(rfl),(rfl),zO,yO⟩) eH
theorem digit_eq(u:Nat):IntKind.wrap IntKind.u8 ↑(BitVec.toNat (BitVec.ofInt (IntKind.bits IntKind.u8) (IntKind.wrap IntKind.u8 (↑u:Int)) ||| BitVec.ofInt (IntKind.bits IntKind.u8) 128))=(UInt8.ofNat (u % 128+128)).toNat:=by
 have e0:128=(128:Int):=rfl;show IntKind.wrap IntKind.u8 ((u % 256 % 2^8) ||| (128 % 2^8):Nat)=_;have e1:∀x:Nat,x<256->(x % 2^8) ||| (128 % 2^8)=x % 128+128:=fun x hx=>by
  have a1:=Nat.mod_eq_of_lt hx;have a2:128 % 2^8=2^7*1:=rfl;have a3:=(Nat.two_pow_add_eq_or_of_lt (show x % 128<2^7 from Nat.mod_lt _ zD) 1).symm;rcases y11 x 128 with h|h
  .grind
  .have a4:x=2^7*1 ||| x % 128:=by omega
   grind
 have:=e1 (u % 256) (Nat.mod_lt _ zD);rw[this,show u % 256 % 128=u % 128 by omega,ae4 zO,UInt8.toNat_ofNat'];grind
theorem LA{v:Nat}(h:v<128):IntKind.wrap .u8 v=(UInt8.ofNat v).toNat:=by
 rw[ae4 zO,UInt8.toNat_ofNat'];grind
theorem aqn(u:Nat):Int.fdiv ↑u (2^min (Int.toNat 7) (IntKind.bits IntKind.u64))=(u/128:Nat):=by
 show Int.fdiv u (2^7)=_;grind
theorem UQ:∀(f u g:Nat)xs,u<128*128^f->xs.length+f<=1000000000->(∀x∈xs,AV.aM [] x=true) ->
 Rq 1 202 0 (SY xs g u) (.exit 0) { aL:=aC 20 [(0,.aU 0 (g+(um f u).length) 0 (xs++jl (um f u)).length),(1,u64 (xX f u))],H:=[.aN (g+(um f u).length) 1 false (xs++jl (um f u))] }
 |0,u,g,xs,hu,hl,hx=>by
  have e:xs++jl (um 0 u)=xs:=by simp[um,jl]
  rw[e];exact abr xs g u (by simpa using hu) trivial
 |f+1,u,g,xs,hu,hl,hx=>by
  by_cases h:u<128
  .grind [jl,um,xX,abr]
  .refine ad5 xs g u h zO hx _ _ ?_;have ih:=UQ f (u/128) (g+1) (xs++[aa8 (UInt8.ofNat (u % 128+128))]) (by omega) (by simp;omega) (by
    intro x hx';rcases yI.1 hx' with h'|h'
    .exact hx x h'
    .rw [mem_singleton.1 h'];rfl)
   simp only[um,xX,h,if_false];rw[digit_eq,aqn];have e2:xs++jl (UInt8.ofNat (u % 128+128)::um f (u/128))=(xs++[aa8 (UInt8.ofNat (u % 128+128))])++jl (um f (u/128)):=by simp[jl]
   have e3:g+(UInt8.ofNat (u % 128+128)::um f (u/128)).length=g+1+(um f (u/128)).length:=by simp;omega
   rw[e2,e3];unfold SY at ih;rw[show(xs++[aa8 (UInt8.ofNat (u % 128+128))]).length=xs.length+1 by simp]at ih;exact ih
theorem WX xs(g u:Nat)(hu:u<18446744073709551616)(hl:xs.length<=100000000)(hx:∀x∈xs,AV.aM [] x=true) :
 ak P G 202 [.aU 0 g 0 xs.length,u64 u] [.aN g 1 false xs] (.ret (.aU 0 (g+(num u).length) 0 (xs.length+(num u).length))) [.aN (g+(num u).length) 1 false (xs++jl (num u))]:=by
 have hu':u<128*128^9:=zO
 have hp:=JL 9 u;have:=aqm xs (xs++jl (um 9 u)) g (g+(um 9 u).length) u (xX 9 u) (by simp[eu];omega) (UQ 9 u g xs hu' zO hx) _ (LA (JK 9 u hu')) (by rw[LA (JK 9 u hu')]);have e1:g+(num u).length=g+(um 9 u).length+1:=by simp[num];omega
 have e2:xs++jl (num u)=(xs++jl (um 9 u))++[aa8 (UInt8.ofNat (xX 9 u))]:=by simp[num,jl]
 have e3:xs.length+(num u).length=(xs++jl (um 9 u)).length+1:=by simp[eu];omega
 rw[e1,e2,e3];exact this
def WY:Nat->Nat->List UInt8
 |0,u=>[UInt8.ofNat u]
 |f+1,u=>if u<128 then[UInt8.ofNat u]else UInt8.ofNat (u % 128+128)::WY f (u/128)
theorem UR:∀ f u,WY f u=um f u++[UInt8.ofNat (xX f u)]
 |0,u=>rfl
 |f+1,u=>by
  simp only[WY,um,xX];split
  .rfl
  .rw [UR f (u/128)];rfl
def jg(v:CV):Int:=if wf v=true then(if 16<dp v then 2 else 0)else 1
theorem NM v(d:Nat)b(e:Int)(hv:Cq 200 [val v] (.bq [int (if b=true then(d)else 0),bool b]))(h:((((b)=true)->((((if b=true then(d:Int)else 0)>16)->2=e)/\((¬(if b=true then(d:Int)else 0)>16)->0=e)))/\(((b)=false)->1=e))):Cq 170 [val v] (int e):=by
 rcases y00 ((b))with c1|c1
 .have h:=h.1 c1;have fT:(!b)=false:=(y32 (c1));by_cases c2:((if b=true then(d:Int)else 0)>16)
  .have h:=h.1 c2;exact aA (aF.int_eq h) [kc [] hv,kf fT,kt (qT c2)]
  .have h:=h.2 c2;exact aA (aF.int_eq h) [kc [] hv,kf fT,kf (qF c2)]
 .have h:=h.2 c1;exact aA (aF.int_eq h) [kc [] hv,kt (((y32 (c1))))]
theorem fG v(dK:QG v)(hd:dp v<=1000001):Cq 170 [val v] (int (jg v)):=by
 have hf:=abo v dK hd;refine NM v (dp v) (wf v) _ hf ⟨fun h=>⟨fun h2=>?_,fun h2=>?_⟩,fun h=>?_⟩
 .simp only[jg,h,if_true];rw[yL zO]
 .rw [yL h]at h2;simp only[jg,h,if_true];rw[yK zO]
 .simp [jg,h]
theorem sK xs(g u n:Nat)(hn:n=xs.length)(hu:u<18446744073709551616)(hl:xs.length<=100000000)(hx:∀x∈xs,AV.aM [] x=true) :
 ak P G 202 [.aU 0 g 0 n,u64 u] [.aN g 1 false xs] (.ret (.aU 0 (g+(num u).length) 0 (n+(num u).length))) [.aN (g+(num u).length) 1 false (xs++jl (num u))]:=by
 subst hn;exact WX xs g u hu hl hx
def kinds(i j:Nat):List ah:=[.box [.lit .nilFunc,.lit (.func (.func 201) #[] #[]),.lit (.func (.func 204) #[] #[]),.fn (.func 205) [] [.ptr j 0]],.box [.ptr i 0]]
theorem ah0  (h:True):ak P G 171 [] [] (aS.ret (AV.ptr 0 0)) (kinds 0 1):=by
 exact aj [kR 1 4,kR 2 4,kR 3 4]
mutual
def gT:CV->List UInt8
 |.mk k n s l=>if k=1 then 1::num (vP n)else if k=2 then 2::(num s.size++s.data.toList)else 3::(num l.length++je l)
def je:List CV->List UInt8
 |[]=>[]
 |v::l=>gT v++je l
end
mutual
def Cr:CV->Nat
 |.mk k n s l=>if k=1 then 1+(num (vP n)).length else if k=2 then 2+(num s.size).length else 1+(num l.length).length+u7 l
def u7:List CV->Nat
 |[]=>0
 |v::l=>Cr v+u7 l
end
theorem ah1 a(g:Nat)n(s:yP)l(hn : -9223372036854775808<=n/\n<9223372036854775808)(hu:vP n<18446744073709551616)(hl:a.length<=10000000)(h:(aF (AV.aU 0 (g+1+length (num (vP n))) 0 (length a+1+length (num (vP n)))) (AV.aU 0 (g+(1+length (num (vP n)))) 0 (length (a++1::num (vP n)))))/\([ah.aN (g+1+length (num (vP n))) 1 false (jl a++[[AV.lit (Value.int IntKind.u8 1)]]++jl (num (vP n)))]=[ah.aN (g+(1+length (num (vP n)))) 1 false (jl (a++1::num (vP n)))])):ak P G 201 [.aU 0 g 0 a.length,rR 1 n s l] [ah.aN g 1 false (jl a)] (aS.ret (AV.aU 0 (g+(1+length (num (vP n)))) 0 (length (a++1::num (vP n))))) [ah.aN (g+(1+length (num (vP n)))) 1 false (jl (a++1::num (vP n)))]:=by
 have qj:∀ x,x∈jl a++[[AV.lit (Value.int IntKind.u8 1)]]++jl (num (vP n))->AV.aM [] x=true:=(by exact(Am.dx (Am.dx (dw _) (Am.dM rfl Am.eU)) (dw _)));obtain⟨e1,eH⟩:=h;exact ak.heap (ak.out ((aj [kq g,kp (eu a).symm,vV ((length a+1)*1),kc [] (@ae5 (n) zO),kc [0] (@sK (jl a++[[AV.lit (Value.int IntKind.u8 1)]]) (g+1) (vP n) (length a+1) (by simp only[yD,yE,y14,eu,jk]<;>omega) zO (by simp only[yD,yE,y14,eu,jk]<;>omega) (by exact(Am.dx (dw _) (Am.dM rfl Am.eU)))),kp qj,kp (show ∀ x,x∈jl a++[[AV.lit (Value.int IntKind.u8 1)]]->AV.aM [] x=true from(by exact(Am.dx (dw _) (Am.dM rfl Am.eU)))),kp qj])) e1) eH
theorem ah2 n(s:yP)l(hn : -9223372036854775808<=n/\n<9223372036854775808)(hu:vP n<18446744073709551616)(h:True):Cq 201 [aK,rR 1 n s l] (Cy (1::num (vP n))):=by
 exact aj [Qx [AV.lit (Value.int IntKind.u8 1)],vV 1,kc [] (@ae5 (n) zO),kc [1] (@sK ([[AV.lit (Value.int IntKind.u8 1)]]) (0) (vP n) (1) (rfl) zO (by simp only[yE,y14,jk]<;>omega) (by exact(Am.dM rfl Am.eU))),ko (bC.Gu ([AV.lit (Value.int IntKind.u8 1)]::jl (num (vP n)))),kp (show ∀ x,x∈[[AV.lit (Value.int IntKind.u8 1)]]++jl (num (vP n))->AV.aM [] x=true from(by exact(Am.dx (Am.dM rfl Am.eU) (dw _)))),kp (show ∀ x,x∈[[AV.lit (Value.int IntKind.u8 1)]]->AV.aM [] x=true from(by exact(Am.dM rfl Am.eU))),kp (show 0+length (num (vP n))=0+length (num (vP n))from(rfl)),XV (1+length (num (vP n))) ([AV.lit (Value.int IntKind.u8 1)]::jl (num (vP n))) (by simp only[yE,eu,jk]<;>omega),kp (show length ([AV.lit (Value.int IntKind.u8 1)]::jl (num (vP n)))=1+length (num (vP n))from(by simp only[yE,eu,jk]<;>omega)),kp (show ∀ c,c∈[AV.lit (Value.int IntKind.u8 1)]::jl (num (vP n))->List.all c AV.fJ=true from(by exact(Am.dM rfl (iC _))))]
theorem ah3 a(g:Nat)n(s:yP)l(hs:s.size<=10000000)(hl:a.length<=10000000)(h:(((length a+1+length (num (ByteArray.size s % 18446744073709551616))+length (List.map (fun(c)=>[AV.lit (Value.int IntKind.u8 ↑(UInt8.toNat c))]) (Array.toList (ByteArray.data s))))*1<=140737488355328)/\(aF (AV.aU 0 (g+1+length (num (ByteArray.size s % 18446744073709551616))+1) 0 (length a+1+length (num (ByteArray.size s % 18446744073709551616))+length (List.map (fun(c)=>[AV.lit (Value.int IntKind.u8 ↑(UInt8.toNat c))]) (Array.toList (ByteArray.data s))))) (AV.aU 0 (g+(2+length (num (ByteArray.size s)))) 0 (length (a++2::(num (ByteArray.size s)++Array.toList (ByteArray.data s))))))/\([ah.aN (g+1+length (num (ByteArray.size s % 18446744073709551616))+1) 1 false (jl a++[[AV.lit (Value.int IntKind.u8 2)]]++jl (num (ByteArray.size s % 18446744073709551616))++List.map (fun(c)=>[AV.lit (Value.int IntKind.u8 ↑(UInt8.toNat c))]) (Array.toList (ByteArray.data s)))]=[ah.aN (g+(2+length (num (ByteArray.size s)))) 1 false (jl (a++2::(num (ByteArray.size s)++Array.toList (ByteArray.data s))))]))):ak P G 204 [.aU 0 g 0 a.length,rR 2 n s l] [ah.aN g 1 false (jl a)] (aS.ret (AV.aU 0 (g+(2+length (num (ByteArray.size s)))) 0 (length (a++2::(num (ByteArray.size s)++Array.toList (ByteArray.data s)))))) [ah.aN (g+(2+length (num (ByteArray.size s)))) 1 false (jl (a++2::(num (ByteArray.size s)++Array.toList (ByteArray.data s))))]:=by
 obtain⟨o1,h⟩:=h;obtain⟨e1,eH⟩:=h;exact ak.heap (ak.out ((aj [kq g,kp (eu a).symm,vV ((length a+1)*1),kc [0] (@sK (jl a++[[AV.lit (Value.int IntKind.u8 2)]]) (g+1) (ByteArray.size s % 18446744073709551616) (length a+1) (by simp only[yD,yE,y14,eu,j5]<;>omega) zO (by simp only[yD,yE,y14,eu,jk]<;>omega) (by exact(Am.dx (dw _) (Am.dM rfl Am.eU)))),kp (show ∀ x,x∈jl a++[[AV.lit (Value.int IntKind.u8 2)]]++jl (num (ByteArray.size s % 18446744073709551616))->AV.aM [] x=true from(by exact(Am.dx (Am.dx (dw _) (Am.dM rfl Am.eU)) (dw _)))),kp (show ∀ x,x∈jl a++[[AV.lit (Value.int IntKind.u8 2)]]->AV.aM [] x=true from(by exact(Am.dx (dw _) (Am.dM rfl Am.eU)))),kp (show g+1+length (num (ByteArray.size s % 18446744073709551616))=g+1+length (num (ByteArray.size s % 18446744073709551616))from(rfl)),kp (show length a+1+length (num (ByteArray.size s % 18446744073709551616))=length (jl a++[[AV.lit (Value.int IntKind.u8 2)]]++jl (num (ByteArray.size s % 18446744073709551616)))from(by simp only[yD,yE,y14,eu,jk]<;>omega)),kp o1,kp (show ∀ x,x∈jl a++[[AV.lit (Value.int IntKind.u8 2)]]++jl (num (ByteArray.size s % 18446744073709551616))++List.map (fun(c)=>[AV.lit (Value.int IntKind.u8 ↑(UInt8.toNat c))]) (Array.toList (ByteArray.data s))->AV.aM [] x=true from(by exact(Am.dx (Am.dx (Am.dx (dw _) (Am.dM rfl Am.eU)) (dw _)) (j5 _))))])) e1) eH
theorem ah4 n(s:yP)l(hs:s.size<=10000000)(h:(((1+length (num (ByteArray.size s % 18446744073709551616))+length (List.map (fun(c)=>[AV.lit (Value.int IntKind.u8 ↑(UInt8.toNat c))]) (Array.toList (ByteArray.data s))))*1<=140737488355328)/\([AV.lit (Value.int IntKind.u8 2)]::jl (num (ByteArray.size s % 18446744073709551616))++List.map (fun(c)=>[AV.lit (Value.int IntKind.u8 ↑(UInt8.toNat c))]) (Array.toList (ByteArray.data s)))=(jl (2::(num (ByteArray.size s)++Array.toList (ByteArray.data s)))))):Cq 204 [aK,rR 2 n s l] (Cy (2::(num (ByteArray.size s)++Array.toList (ByteArray.data s)))):=by
 obtain⟨o1,h⟩:=h;have e1:=h;exact ak.out ((show Cq 204 [aK,rR 2 n s l] (.sl 1 false ([.lit (Value.int IntKind.u8 2)]::jl (num (ByteArray.size s % 18446744073709551616))++List.map (fun(c)=>[.lit (Value.int IntKind.u8 ↑(UInt8.toNat c))]) (Array.toList (ByteArray.data s))))from aj [Qx [AV.lit (Value.int IntKind.u8 2)],vV 1,kc [1] (@sK ([[AV.lit (Value.int IntKind.u8 2)]]) (0) (ByteArray.size s % 18446744073709551616) (1) (rfl) zO (by simp only[yE,y14,j5]<;>omega) (by exact(Am.dM rfl Am.eU))),ko (bC.Gu ([AV.lit (Value.int IntKind.u8 2)]::jl (num (ByteArray.size s % 18446744073709551616))++List.map (fun(c)=>[AV.lit (Value.int IntKind.u8 ↑(UInt8.toNat c))]) (Array.toList (ByteArray.data s)))),kp (show ∀ x,x∈[[AV.lit (Value.int IntKind.u8 2)]]++jl (num (ByteArray.size s % 18446744073709551616))->AV.aM [] x=true from(by exact(Am.dx (Am.dM rfl Am.eU) (dw _)))),kp (show ∀ x,x∈[[AV.lit (Value.int IntKind.u8 2)]]->AV.aM [] x=true from(by exact(Am.dM rfl Am.eU))),kp (show 0+length (num (ByteArray.size s % 18446744073709551616))=0+length (num (ByteArray.size s % 18446744073709551616))from(rfl)),kp (show 1+length (num (ByteArray.size s % 18446744073709551616))=length ([AV.lit (Value.int IntKind.u8 2)]::jl (num (ByteArray.size s % 18446744073709551616)))from(by simp only[yE,eu,jk]<;>omega)),kp o1,kp (show 0+length (num (ByteArray.size s % 18446744073709551616))+1=0+length (num (ByteArray.size s % 18446744073709551616))+1 from(rfl)),XV (1+length (num (ByteArray.size s % 18446744073709551616))+length (List.map (fun(c)=>[AV.lit (Value.int IntKind.u8 ↑(UInt8.toNat c))]) (Array.toList (ByteArray.data s)))) ([AV.lit (Value.int IntKind.u8 2)]::jl (num (ByteArray.size s % 18446744073709551616))++List.map (fun(c)=>[AV.lit (Value.int IntKind.u8 ↑(UInt8.toNat c))]) (Array.toList (ByteArray.data s))) (by simp only[yD,yE,eu,jk]<;>omega),kp (show length ([AV.lit (Value.int IntKind.u8 2)]::jl (num (ByteArray.size s % 18446744073709551616))++List.map (fun(c)=>[AV.lit (Value.int IntKind.u8 ↑(UInt8.toNat c))]) (Array.toList (ByteArray.data s)))=1+length (num (ByteArray.size s % 18446744073709551616))+length (List.map (fun(c)=>[AV.lit (Value.int IntKind.u8 ↑(UInt8.toNat c))]) (Array.toList (ByteArray.data s)))from(by simp only[yD,yE,eu,jk]<;>omega)),kp (show ∀ c,c∈[AV.lit (Value.int IntKind.u8 2)]::jl (num (ByteArray.size s % 18446744073709551616))++List.map (fun(c)=>[AV.lit (Value.int IntKind.u8 ↑(UInt8.toNat c))]) (Array.toList (ByteArray.data s))->List.all c AV.fJ=true from(by exact(Am.dx (Am.dM rfl (iC _)) (jk _))))])) (aF.GJ e1)
def WZ(xs:List (List AV))(N g:Nat)(n0:Int)(s0:yP)(l:List CV)(i:Nat):St:={ aL:=aC 35 [(0,.aU 0 g 0 N),(2,.ptr 2 0),(17,.sl 4 false (iB l)),(18,int l.length),(19,int i)],H:=.aN g 1 false xs::(kinds 1 2++[.box [int 3,int n0,str s0,.sl 4 false (iB l)]]) }
theorem ah5 xs(N g:Nat)n0(s0:yP)l(i:Nat)(hi:l.length<=i)(h:True):Rq 3 205 0 (WZ xs N g n0 s0 l i) (bF.exit 0) (St.mk (aC 35 [(0,AV.aU 0 g 0 N)]) (ah.aN g 1 false xs::(kinds 1 2++[ah.box [int 3,int n0,str s0,AV.sl 4 false (iB l)]])) []):=by
 exact aG [kj ((i:Int)<l.length)] (aB 35 [0]) 4
theorem abt xs ys(N M g g':Nat)n0(s0:yP)l(i:Nat)n(s:yP)m(hi:i<l.length)(hl:l.length<=9223372036854775807)(hx:l[i]?=some (.mk 1 n s m))(hv:ak P G 201 [.aU 0 g 0 N,rR 1 n s m] [.aN g 1 false xs] (.ret (.aU 0 g' 0 M)) [.aN g' 1 false ys])ex(s':St)(h:((0<=CV.k (CV.mk 1 n s m)/\CV.k (CV.mk 1 n s m)<4)/\((∀ x,x∈ys->AV.aM [] x=true)/\((∀ x,x∈xs->AV.aM [] x=true)/\Rq 3 205 0 (sM 35 [(0,.aU 0 g' 0 M),(2,.ptr 2 0),(17,.sl 4 false (iB l)),(18,int ↑l.length),(19,int ↑(i+1))] [.aN g' 1 false ys,.box [.lit Value.nilFunc,iL 201,iL 204,.fn (Fn.func 205) [] [.ptr 2 0]],.box [.ptr 1 0],.box [int 3,int n0,str s0,.sl 4 false (iB l)]]) ex s')))):Rq 3 205 0 (WZ xs N g n0 s0 l i) ex s':=by
 obtain⟨o2,h⟩:=h;obtain⟨o3,h⟩:=h;obtain⟨o4,h⟩:=h;exact aJ [ki ((i:Int)<l.length),ko (bC.elem (aQ (CV.mk 1 n s m))),kp (show(0:Int)<=(i:Int)/\(iB l)[Int.toNat (i:Int)]?=some (aQ (CV.mk 1 n s m))from(by rw[lC];exact bG hx)),kp o2,kc [0] hv,kp o3,kp o4,kW 33 (i+1) ↑(i+1),kp (show ∀(x:List AV),x∈ys->AV.aM [] x=true from zO)] (aB 35 [0,2,17,18,19]) 4 h
theorem abu xs ys(N M g g':Nat)n0(s0:yP)l(i:Nat)n(s:yP)m(hi:i<l.length)(hl:l.length<=9223372036854775807)(hx:l[i]?=some (.mk 2 n s m))(hv:ak P G 204 [.aU 0 g 0 N,rR 2 n s m] [.aN g 1 false xs] (.ret (.aU 0 g' 0 M)) [.aN g' 1 false ys])ex(s':St)(h:((0<=CV.k (CV.mk 2 n s m)/\CV.k (CV.mk 2 n s m)<4)/\((∀ x,x∈ys->AV.aM [] x=true)/\((∀ x,x∈xs->AV.aM [] x=true)/\Rq 3 205 0 (sM 35 [(0,.aU 0 g' 0 M),(2,.ptr 2 0),(17,.sl 4 false (iB l)),(18,int ↑l.length),(19,int ↑(i+1))] [.aN g' 1 false ys,.box [.lit Value.nilFunc,iL 201,iL 204,.fn (Fn.func 205) [] [.ptr 2 0]],.box [.ptr 1 0],.box [int 3,int n0,str s0,.sl 4 false (iB l)]]) ex s')))):Rq 3 205 0 (WZ xs N g n0 s0 l i) ex s':=by
 obtain⟨o2,h⟩:=h;obtain⟨o3,h⟩:=h;obtain⟨o4,h⟩:=h;exact aJ [ki ((i:Int)<l.length),ko (bC.elem (aQ (CV.mk 2 n s m))),kp (show(0:Int)<=(i:Int)/\(iB l)[Int.toNat (i:Int)]?=some (aQ (CV.mk 2 n s m))from(by rw[lC];exact bG hx)),kp o2,kc [0] hv,kp o3,kp o4,kW 33 (i+1) ↑(i+1),kp (show ∀(x:List AV),x∈ys->AV.aM [] x=true from zO)] (aB 35 [0,2,17,18,19]) 4 h
theorem abv xs ys(N M g g':Nat)n0(s0:yP)l(i:Nat)n(s:yP)m(hi:i<l.length)(hl:l.length<=9223372036854775807)(hx:l[i]?=some (.mk 3 n s m))(hv:ak P G 205 [.aU 0 g 0 N,rR 3 n s m,.ptr 2 0] (.aN g 1 false xs::kinds 1 2) (.ret (.aU 0 g' 0 M)) (.aN g' 1 false ys::kinds 1 2))ex(s':St)(h:((0<=CV.k (CV.mk 3 n s m)/\CV.k (CV.mk 3 n s m)<4)/\((∀ x,x∈ys->AV.aM [] x=true)/\((∀ x,x∈xs->AV.aM [] x=true)/\Rq 3 205 0 (sM 35 [(0,.aU 0 g' 0 M),(2,.ptr 2 0),(17,.sl 4 false (iB l)),(18,int ↑l.length),(19,int ↑(i+1))] [.aN g' 1 false ys,.box [.lit Value.nilFunc,iL 201,iL 204,.fn (Fn.func 205) [] [.ptr 2 0]],.box [.ptr 1 0],.box [int 3,int n0,str s0,.sl 4 false (iB l)]]) ex s')))):Rq 3 205 0 (WZ xs N g n0 s0 l i) ex s':=by
 obtain⟨o2,h⟩:=h;obtain⟨o3,h⟩:=h;obtain⟨o4,h⟩:=h;exact aJ [ki ((i:Int)<l.length),ko (bC.elem (aQ (CV.mk 3 n s m))),kp (show(0:Int)<=(i:Int)/\(iB l)[Int.toNat (i:Int)]?=some (aQ (CV.mk 3 n s m))from(by rw[lC];exact bG hx)),kp o2,kc [0,1,2] hv,kp o3,kp o4,kW 33 (i+1) ↑(i+1),kp (show ∀(x:List AV),x∈ys->AV.aM [] x=true from zO)] (aB 35 [0,2,17,18,19]) 4 h
theorem ah6 a b(g g':Nat)n(s:yP)l(hs:l.length<=10000000)(hl:a.length<=10000000)(hL:Rq 3 205 0 (WZ (jl a++[[.lit (.int .u8 3)]]++jl (num (l.length % 18446744073709551616))) (a.length+1+(num (l.length % 18446744073709551616)).length) (g+1+(num (l.length % 18446744073709551616)).length) n s l 0) (.exit 0) { aL:=aC 35 [(0,.aU 0 g' 0 b.length)],H:=.aN g' 1 false (jl b)::(kinds 1 2++[.box [int 3,int n,str s,.sl 4 false (iB l)]]) })(h:True):ak P G 205 [.aU 0 g 0 a.length,rR 3 n s l,.ptr 2 0] (ah.aN g 1 false (jl a)::kinds 1 2) (aS.ret (AV.aU 0 g' 0 b.length)) (ah.aN g' 1 false (jl b)::kinds 1 2):=by
 have x9:=lU (fA l);exact aj [kq g,kp (eu a).symm,vV ((length a+1)*1),kv 13 x9,kc [0] (@sK (jl a++[[AV.lit (Value.int IntKind.u8 3)]]) (g+1) (length l % 18446744073709551616) (length a+1) (by simp only[yD,yE,y14,y13,eu,dw,iC,fA]<;>omega) zO (by simp only[yD,yE,y14,y13,eu,dw,iC,fA]<;>omega) (by exact(Am.dx (dw _) (Am.dM rfl Am.eU)))),kp (show ∀(x:List AV),x∈jl a++[[AV.lit (Value.int IntKind.u8 3)]]++jl (num (length l % 18446744073709551616))->AV.aM [] x=true from(by exact(Am.dx (Am.dx (dw _) (Am.dM rfl Am.eU)) (dw _)))),kp (show ∀(x:List AV),x∈jl a++[[AV.lit (Value.int IntKind.u8 3)]]->AV.aM [] x=true from(by exact(Am.dx (dw _) (Am.dM rfl Am.eU)))),kv 18 x9,kl (rG [(1,1),(3,14),(20,15)]) 4 hL,kp (dw b)]
def W9(xs:List (List AV))(N g:Nat)(n0:Int)(s0:yP)(l:List CV)(i:Nat):St:={ aL:=aC 35 [(0,.aU 3 g 0 N),(2,.ptr 1 0),(17,.sl 4 false (iB l)),(18,int l.length),(19,int i)],H:=kinds 0 1++[.box [int 3,int n0,str s0,.sl 4 false (iB l)],.aN g 1 false xs] }
theorem ah7 xs(N g:Nat)n0(s0:yP)l(i:Nat)(hi:l.length<=i)(h:True):Rq 2 205 0 (W9 xs N g n0 s0 l i) (bF.exit 0) (St.mk (aC 35 [(0,AV.aU 3 g 0 N)]) (kinds 0 1++[ah.box [int 3,int n0,str s0,AV.sl 4 false (iB l)],ah.aN g 1 false xs]) []):=by
 exact aG [kj ((i:Int)<l.length)] (aB 35 [0]) 4
theorem abw xs ys(N M g g':Nat)n0(s0:yP)l(i:Nat)n(s:yP)m(hi:i<l.length)(hl:l.length<=9223372036854775807)(hx:l[i]?=some (.mk 1 n s m))(hv:ak P G 201 [.aU 0 g 0 N,rR 1 n s m] [.aN g 1 false xs] (.ret (.aU 0 g' 0 M)) [.aN g' 1 false ys])ex(s':St)(h:((0<=CV.k (CV.mk 1 n s m)/\CV.k (CV.mk 1 n s m)<4)/\((∀ x,x∈ys->AV.aM [] x=true)/\((∀ x,x∈xs->AV.aM [] x=true)/\Rq 2 205 0 (sM 35 [(0,.aU 3 g' 0 M),(2,.ptr 1 0),(17,.sl 4 false (iB l)),(18,int ↑l.length),(19,int ↑(i+1))] [.box [.lit Value.nilFunc,iL 201,iL 204,.fn (Fn.func 205) [] [.ptr 1 0]],.box [.ptr 0 0],.box [int 3,int n0,str s0,.sl 4 false (iB l)],.aN g' 1 false ys]) ex s')))):Rq 2 205 0 (W9 xs N g n0 s0 l i) ex s':=by
 obtain⟨o2,h⟩:=h;obtain⟨o3,h⟩:=h;obtain⟨o4,h⟩:=h;exact aJ [ki ((i:Int)<l.length),ko (bC.elem (aQ (CV.mk 1 n s m))),kp (show(0:Int)<=(i:Int)/\(iB l)[Int.toNat (i:Int)]?=some (aQ (CV.mk 1 n s m))from(by rw[lC];exact bG hx)),kp o2,kc [3] hv,kp o3,kp o4,kW 33 (i+1) ↑(i+1),kp (show ∀(x:List AV),x∈ys->AV.aM [] x=true from zO)] (aB 35 [0,2,17,18,19]) 4 h
theorem abx xs ys(N M g g':Nat)n0(s0:yP)l(i:Nat)n(s:yP)m(hi:i<l.length)(hl:l.length<=9223372036854775807)(hx:l[i]?=some (.mk 2 n s m))(hv:ak P G 204 [.aU 0 g 0 N,rR 2 n s m] [.aN g 1 false xs] (.ret (.aU 0 g' 0 M)) [.aN g' 1 false ys])ex(s':St)(h:((0<=CV.k (CV.mk 2 n s m)/\CV.k (CV.mk 2 n s m)<4)/\((∀ x,x∈ys->AV.aM [] x=true)/\((∀ x,x∈xs->AV.aM [] x=true)/\Rq 2 205 0 (sM 35 [(0,.aU 3 g' 0 M),(2,.ptr 1 0),(17,.sl 4 false (iB l)),(18,int ↑l.length),(19,int ↑(i+1))] [.box [.lit Value.nilFunc,iL 201,iL 204,.fn (Fn.func 205) [] [.ptr 1 0]],.box [.ptr 0 0],.box [int 3,int n0,str s0,.sl 4 false (iB l)],.aN g' 1 false ys]) ex s')))):Rq 2 205 0 (W9 xs N g n0 s0 l i) ex s':=by
 obtain⟨o2,h⟩:=h;obtain⟨o3,h⟩:=h;obtain⟨o4,h⟩:=h;exact aJ [ki ((i:Int)<l.length),ko (bC.elem (aQ (CV.mk 2 n s m))),kp (show(0:Int)<=(i:Int)/\(iB l)[Int.toNat (i:Int)]?=some (aQ (CV.mk 2 n s m))from(by rw[lC];exact bG hx)),kp o2,kc [3] hv,kp o3,kp o4,kW 33 (i+1) ↑(i+1),kp (show ∀(x:List AV),x∈ys->AV.aM [] x=true from zO)] (aB 35 [0,2,17,18,19]) 4 h
theorem aby xs ys(N M g g':Nat)n0(s0:yP)l(i:Nat)n(s:yP)m(hi:i<l.length)(hl:l.length<=9223372036854775807)(hx:l[i]?=some (.mk 3 n s m))(hv:ak P G 205 [.aU 0 g 0 N,rR 3 n s m,.ptr 2 0] (.aN g 1 false xs::kinds 1 2) (.ret (.aU 0 g' 0 M)) (.aN g' 1 false ys::kinds 1 2))ex(s':St)(h:((0<=CV.k (CV.mk 3 n s m)/\CV.k (CV.mk 3 n s m)<4)/\((∀ x,x∈ys->AV.aM [] x=true)/\((∀ x,x∈xs->AV.aM [] x=true)/\Rq 2 205 0 (sM 35 [(0,.aU 3 g' 0 M),(2,.ptr 1 0),(17,.sl 4 false (iB l)),(18,int ↑l.length),(19,int ↑(i+1))] [.box [.lit Value.nilFunc,iL 201,iL 204,.fn (Fn.func 205) [] [.ptr 1 0]],.box [.ptr 0 0],.box [int 3,int n0,str s0,.sl 4 false (iB l)],.aN g' 1 false ys]) ex s')))):Rq 2 205 0 (W9 xs N g n0 s0 l i) ex s':=by
 obtain⟨o2,h⟩:=h;obtain⟨o3,h⟩:=h;obtain⟨o4,h⟩:=h;exact aJ [ki ((i:Int)<l.length),ko (bC.elem (aQ (CV.mk 3 n s m))),kp (show(0:Int)<=(i:Int)/\(iB l)[Int.toNat (i:Int)]?=some (aQ (CV.mk 3 n s m))from(by rw[lC];exact bG hx)),kp o2,kc [3,0,1] hv,kp o3,kp o4,kW 33 (i+1) ↑(i+1),kp (show ∀(x:List AV),x∈ys->AV.aM [] x=true from zO)] (aB 35 [0,2,17,18,19]) 4 h
theorem ah8 b(g':Nat)n(s:yP)l(hs:l.length<=10000000)(hL:Rq 2 205 0 (W9 ([.lit (.int .u8 3)]::jl (num (l.length % 18446744073709551616))) (1+(num (l.length % 18446744073709551616)).length) (0+(num (l.length % 18446744073709551616)).length) n s l 0) (.exit 0) { aL:=aC 35 [(0,.aU 3 g' 0 b.length)],H:=kinds 0 1++[.box [int 3,int n,str s,.sl 4 false (iB l)],.aN g' 1 false (jl b)] })(h:True):ak P G 205 [aK,rR 3 n s l,.ptr 1 0] (kinds 0 1) (aS.ret (Cy b)) (kinds 0 1):=by
 have jw:=lU (fA l);exact aj [Qx [AV.lit (Value.int IntKind.u8 3)],vV 1,kv 13 jw,kc [3] (@sK ([[AV.lit (Value.int IntKind.u8 3)]]) (0) (length l % 18446744073709551616) (1) (rfl) zO (by simp only[yE,y14,fA]<;>omega) (by exact(Am.dM rfl Am.eU))),kp (show ∀ x,x∈[[AV.lit (Value.int IntKind.u8 3)]]++jl (num (length l % 18446744073709551616))->AV.aM [] x=true from(by exact(Am.dx (Am.dM rfl Am.eU) (dw _)))),kp (show ∀ x,x∈[[AV.lit (Value.int IntKind.u8 3)]]->AV.aM [] x=true from(by exact(Am.dM rfl Am.eU))),kv 18 jw,kl (rG [(1,1),(3,14),(20,15)]) 4 hL,ko (bC.Gu (jl b)),kp (show g'=g' from(rfl)),XV b.length (jl b) (by simp only[eu,iC]<;>omega),kp (eu b),kp (iC b)]
theorem ami n(s:yP)(l:List CV)b(hv:Cq 170 [rR 1 n s l] (int 0))(hw:Cq 201 [aK,rR 1 n s l] (Cy b))(h:True):Cq 127 [rR 1 n s l] (.bq [Cy b,int 0]):=by
 exact aj [kc [] hv,kY,kc [] (@ah0 (trivial)),kR 1 4,kc [] hw]
theorem amj n(s:yP)(l:List CV)b(hv:Cq 170 [rR 2 n s l] (int 0))(hw:Cq 204 [aK,rR 2 n s l] (Cy b))(h:True):Cq 127 [rR 2 n s l] (.bq [Cy b,int 0]):=by
 exact aj [kc [] hv,kY,kc [] (@ah0 (trivial)),kR 2 4,kc [] hw]
theorem amk n(s:yP)(l:List CV)b(hv:Cq 170 [rR 3 n s l] (int 0))(hw:ak P G 205 [aK,rR 3 n s l,.ptr 1 0] (kinds 0 1) (.ret (Cy b)) (kinds 0 1))(h:True):Cq 127 [rR 3 n s l] (.bq [Cy b,int 0]):=by
 exact aj [kc [] hv,kY,kc [] (@ah0 (trivial)),kR 3 4,kc [1,2] hw]
theorem Jr(v:CV)l:je (v::l)=gT v++je l:=rfl
theorem abz v:1<=(gT v).length:=by
 cases v;simp only[gT];grind
theorem AX:∀l:List CV,l.length<=(je l).length
 |[]=>by simp[je]
 |v::l=>by
  have:=AX l;have:=abz v;simp only[je,yD,yE];omega
theorem abA{i g g' n n'}(hg:g=g')(hn:n=n'):aF (.aU i g 0 n) (.aU i g' 0 n'):=.of_eq (by rw[hg,hn])
theorem abB{g g'}{xs ys}(hg:g=g')(hn:xs=ys):[ah.aN g 1 false xs]=[ah.aN g' 1 false ys]:=by rw[hg,hn]
theorem Et(c:UInt8)l:jl (c::l)=[AV.lit (.int .u8 c.toNat)]::jl l:=rfl
theorem Eu a b:jl (a++b)=jl a++jl b:=(SG a b).symm
def WrC(v:CV):Prop:=∀(a:List UInt8)(g:Nat),a.length+(gT v).length<=10000000 ->
 (v.k=1->ak P G 201 [.aU 0 g 0 a.length,val v] [.aN g 1 false (jl a)] (.ret (.aU 0 (g+Cr v) 0 (a++gT v).length)) [.aN (g+Cr v) 1 false (jl (a++gT v))]) /\
 (v.k=2->ak P G 204 [.aU 0 g 0 a.length,val v] [.aN g 1 false (jl a)] (.ret (.aU 0 (g+Cr v) 0 (a++gT v).length)) [.aN (g+Cr v) 1 false (jl (a++gT v))]) /\
 (v.k=3->ak P G 205 [.aU 0 g 0 a.length,val v,.ptr 2 0] (.aN g 1 false (jl a)::kinds 1 2) (.ret (.aU 0 (g+Cr v) 0 (a++gT v).length)) (.aN (g+Cr v) 1 false (jl (a++gT v))::kinds 1 2))
theorem adj{v}(h:wf v=true):v.k=1\/v.k=2\/v.k=3:=by
 cases v with
 |mk k n s l =>
  by_cases h1:k=1
  .exact .inl h1
  .by_cases h2:k=2
   .exact .inr (.inl h2)
   .by_cases h3:k=3
    .exact .inr (.inr h3)
    .simp [wf,h1,h2,h3]at h
theorem AY:∀{l},Lb l=true->∀x∈l,wf x=true
 |[],_,x,hx=>by cases hx
 |v::l,h,x,hx=>by
  simp only[Lb,y04]at h;rcases yH.1 hx with rfl|hx
  .exact h.1
  .exact AY h.2 x hx
theorem ad7 n0(s0:yP)l(hl:l.length<=9223372036854775807)(hw:∀x∈l,wf x=true)(hv:∀x∈l,WrC x):∀(m i:Nat)a(g:Nat),l.length-i=m->i<=l.length->a.length+(je (l.drop i)).length<=10000000 ->
 Rq 3 205 0 (WZ (jl a) a.length g n0 s0 l i) (.exit 0) { aL:=aC 35 [(0,.aU 0 (g+u7 (l.drop i)) 0 (a++je (l.drop i)).length)],H:=.aN (g+u7 (l.drop i)) 1 false (jl (a++je (l.drop i)))::(kinds 1 2++[.box [int 3,int n0,str s0,.sl 4 false (iB l)]]) }:=by
 intro m
 induction m with
 |zero =>
  intro i a g hm hi bL;rw[y21 zO];simp only[je,y23];exact ah5 (jl a) a.length g n0 s0 l i zO trivial
 |succ m ih =>
  intro i a g hm hi bL;have bg:i<l.length:=zO
  have e:=y01 bg;have hx:=yA bg;have hwx:=hw _ (y03 bg);have hvx:=hv _ (y03 bg);rw[e]at bL |-;simp only[je,yD]at bL |-;have hc:=hvx a g zO;have hn:=ih (i+1) (a++gT l[i]) (g+Cr l[i]) zO zO (by rw[yD];omega);rw[y16,Nat.add_assoc]at hn;simp only[yD]at hn hc;generalize l[i]=x at *;cases x with
  |mk k n s q =>
   rcases adj hwx with h|h|h
   .subst h;exact abt _ _ _ _ _ _ n0 s0 l i n s q bg hl hx (hc.1 rfl) _ _ ⟨⟨by simp only[CV.k];decide,by simp only[CV.k];decide⟩,dw _,dw _,hn⟩
   .subst h;exact abu _ _ _ _ _ _ n0 s0 l i n s q bg hl hx (hc.2.1 rfl) _ _ ⟨⟨by simp only[CV.k];decide,by simp only[CV.k];decide⟩,dw _,dw _,hn⟩
   .subst h;exact abv _ _ _ _ _ _ n0 s0 l i n s q bg hl hx (hc.2.2 rfl) _ _ ⟨⟨by simp only[CV.k];decide,by simp only[CV.k];decide⟩,dw _,dw _,hn⟩
theorem ad8 n0(s0:yP)l(hl:l.length<=9223372036854775807)(hw:∀x∈l,wf x=true)(hv:∀x∈l,WrC x):∀(m i:Nat)a(g:Nat),l.length-i=m->i<=l.length->a.length+(je (l.drop i)).length<=10000000 ->
 Rq 2 205 0 (W9 (jl a) a.length g n0 s0 l i) (.exit 0) { aL:=aC 35 [(0,.aU 3 (g+u7 (l.drop i)) 0 (a++je (l.drop i)).length)],H:=kinds 0 1++[.box [int 3,int n0,str s0,.sl 4 false (iB l)],.aN (g+u7 (l.drop i)) 1 false (jl (a++je (l.drop i)))] }:=by
 intro m
 induction m with
 |zero =>
  intro i a g hm hi bL;rw[y21 zO];simp only[je,y23];exact ah7 (jl a) a.length g n0 s0 l i zO trivial
 |succ m ih =>
  intro i a g hm hi bL;have bg:i<l.length:=zO
  have e:=y01 bg;have hx:=yA bg;have hwx:=hw _ (y03 bg);have hvx:=hv _ (y03 bg);rw[e]at bL |-;simp only[je,yD]at bL |-;have hc:=hvx a g zO;have hn:=ih (i+1) (a++gT l[i]) (g+Cr l[i]) zO zO (by rw[yD];omega);rw[y16,Nat.add_assoc]at hn;simp only[yD]at hn hc;generalize l[i]=x at *;cases x with
  |mk k n s q =>
   rcases adj hwx with h|h|h
   .subst h;exact abw _ _ _ _ _ _ n0 s0 l i n s q bg hl hx (hc.1 rfl) _ _ ⟨⟨by simp only[CV.k];decide,by simp only[CV.k];decide⟩,dw _,dw _,hn⟩
   .subst h;exact abx _ _ _ _ _ _ n0 s0 l i n s q bg hl hx (hc.2.1 rfl) _ _ ⟨⟨by simp only[CV.k];decide,by simp only[CV.k];decide⟩,dw _,dw _,hn⟩
   .subst h;exact aby _ _ _ _ _ _ n0 s0 l i n s q bg hl hx (hc.2.2 rfl) _ _ ⟨⟨by simp only[CV.k];decide,by simp only[CV.k];decide⟩,dw _,dw _,hn⟩
theorem NR{n}(h:n<=10000000):n % 18446744073709551616=n:=Nat.mod_eq_of_lt zO
theorem ad9 v:QG v->wf v=true->WrC v:=by
 refine CV.ind (p:=fun v=>QG v->wf v=true->WrC v) (fun k n s l ih dK hwf=>?_) v;cases dK with
 |mk _ _ _ _ hn hs hl jH =>
  intro a g bL;refine⟨fun hk=>?_,fun hk=>?_,fun hk=>?_⟩
  .simp only[CV.k]at hk;subst hk;have e1:gT (.mk 1 n s l)=1::num (vP n):=by simp[gT]
   have e2:Cr (.mk 1 n s l)=1+(num (vP n)).length:=by simp[Cr]
   rw[e1]at bL |-;rw[e2];refine ah1 a g n s l hn (Sn hn) zO ⟨abA zO (by simp only[yD,yE];omega),abB zO ?_⟩;rw[Eu,Et,y16];rfl
  .simp only[CV.k]at hk;subst hk;have e1:gT (.mk 2 n s l)=2::(num s.size++s.data.toList):=by simp[gT]
   have e2:Cr (.mk 2 n s l)=2+(num s.size).length:=by simp[Cr]
   rw[e1]at bL |-;rw[e2];simp only[yD,yE,eD]at bL;have em:=NR (n:=s.size) zO;refine ah3 a g n s l zO zO ⟨?_,abA ?_ ?_,abB ?_ ?_⟩<;>rw[em]
   .grind [y13,eD]
   .omega
   .grind
   .omega
   .rw [Eu,Et,Eu];simp only[y16];rfl
  .simp only[CV.k]at hk;subst hk;have e1:gT (.mk 3 n s l)=3::(num l.length++je l):=by simp[gT]
   have e2:Cr (.mk 3 n s l)=1+(num l.length).length+u7 l:=by simp[Cr]
   have ew:wf (.mk 3 n s l)=(decide (n=0)&&decide (s = .empty)&&Lb l):=by simp[wf]
   rw[ew]at hwf;simp only[y04]at hwf;rw[e1]at bL |-;rw[e2];simp only[yD,yE]at bL;have hll:=AX l;have em:=NR (n:=l.length) zO;have hL:=ad7 n s l hl (AY hwf.2) (fun x hx=>ih x hx (jH x hx) (AY hwf.2 x hx)) l.length 0 (a++3::num l.length) (g+1+(num l.length).length) zO zO (by rw[drop_zero];simp only[yD,yE];omega);rw[drop_zero,y16,cons_append]at hL;have eg:g+(1+(num l.length).length+u7 l)=g+1+(num l.length).length+u7 l:=zO
   rw[eg];refine ah6 a (a++3::(num l.length++je l)) g _ n s l zO zO ?_ trivial;rw[em];have e3:jl a++[[AV.lit (.int .u8 3)]]++jl (num l.length)=jl (a++3::num l.length):=by grind[Eu,Et,y16]
   have e4:a.length+1+(num l.length).length=(a++3::num l.length).length:=by simp only[yD,yE];omega
   rw[e3,e4];exact hL
theorem Ws v(dK:QG v)(hd:dp v<=16)(hwf:wf v=true)(bL:(gT v).length<=10000000):Cq 127 [val v] (.bq [Cy (gT v),int 0]):=by
 have hc:=fG v dK zO;have e0:jg v=0:=by simp only[jg,hwf,if_true];rw[yK zO]
 rw[e0]at hc;have hk:=adj hwf;cases v with
 |mk k n s l =>
  cases dK with
  |mk _ _ _ _ hn hs hl jH =>
   rcases hk with rfl|rfl|rfl
   .have e1:gT (.mk 1 n s l)=1::num (vP n):=by simp[gT]
    exact ami n s l _ hc (ah2 n s l hn (Sn hn) yO) trivial
   .have e1:gT (.mk 2 n s l)=2::(num s.size++s.data.toList):=by simp[gT]
    rw[e1]at bL |-;simp only[yD,yE,eD]at bL;have em:=NR (n:=s.size) zO;refine amj n s l _ hc (ah4 n s l zO ⟨?_,?_⟩) trivial<;>rw[em]
    .grind [y13,eD]
    .rw [Et,Eu];rfl
   .have e1:gT (.mk 3 n s l)=3::(num l.length++je l):=by simp[gT]
    have ew:wf (.mk 3 n s l)=(decide (n=0)&&decide (s = .empty)&&Lb l):=by simp[wf]
    rw[ew]at hwf;simp only[y04]at hwf;rw[e1]at bL |-;simp only[yD,yE]at bL;have hll:=AX l;have em:=NR (n:=l.length) zO;have hL:=ad8 n s l hl (AY hwf.2) (fun x hx=>ad9 x (jH x hx) (AY hwf.2 x hx)) l.length 0 (3::num l.length) (0+(num l.length).length) zO zO (by rw[drop_zero];grind);refine amk n s l _ hc (ah8 (3::(num l.length++je l)) (0+(num l.length).length+u7 l) n s l zO ?_ yO) trivial;rw[em];have e4:1+(num l.length).length=(3::num l.length).length:=by simp only[yE];omega
    rw[e4];exact hL
def FU(l:List UInt8):Bool:=Qu l&&decide (Cn l<=(Co l).length)
def sgn(u:Nat):Int:=if u % 2=0 then((u/2:Nat):Int)else -((u/2:Nat):Int)-1
def mkI(n:Int):CV:=.mk 1 n .empty []
def mkT(s:yP):CV:=.mk 2 0 s []
def mkL(l:List CV):CV:=.mk 3 0 .empty l
def Gj(p:List UInt8->Bool×CV×List UInt8):Nat->List UInt8->Bool×List CV×List UInt8
 |0,r=>(true,[],r)
 |n+1,r=>if(p r).1=true then((Gj p n (p r).2.2).1,(p r).2.1::(Gj p n (p r).2.2).2.1,(Gj p n (p r).2.2).2.2)else(false,[],[])
def Kk(deep:Bool)(p:List UInt8->Bool×CV×List UInt8):List UInt8->Bool×CV×List UInt8
 |[]=>(false,default,[])
 |c::r=>if c.toNat=1 then(Qu r,mkI (sgn (Cn r)),Co r)
  else if c.toNat=2 then(FU r,mkT ⟨((Co r).take (Cn r)).toArray⟩,(Co r).drop (Cn r))
  else if c.toNat=3 then(if deep=true/\FU r=true then((Gj p (Cn r) (Co r)).1,mkL (Gj p (Cn r) (Co r)).2.1,(Gj p (Cn r) (Co r)).2.2)else(false,default,[]))
  else(false,default,[])
def P5:Nat->List UInt8->Bool×CV×List UInt8
 |0=>Kk false fun _=>(false,default,[])
 |f+1=>Kk true (P5 f)
theorem ag4{deep}{p}{c}{r}(h:c.toNat=1):Kk deep p (c::r)=(Qu r,mkI (sgn (Cn r)),Co r):=by
 simp only[Kk];rw[yL h]
theorem ag5{deep}{p}{c}{r}(h:c.toNat=2):Kk deep p (c::r)=(FU r,mkT ⟨((Co r).take (Cn r)).toArray⟩,(Co r).drop (Cn r)):=by
 simp only[Kk];grind
theorem ag6{deep}{p}{c}{r}(h:c.toNat=3):Kk deep p (c::r)=if deep=true/\FU r=true then((Gj p (Cn r) (Co r)).1,mkL (Gj p (Cn r) (Co r)).2.1,(Gj p (Cn r) (Co r)).2.2)else(false,default,[]):=by
 simp only[Kk];grind
def adn(l:List UInt8):Bool:=(P5 16 l).1&&(P5 16 l).2.2.isEmpty
def aaw(l:List UInt8):CV:=if adn l=true then(P5 16 l).2.1 else default
def adl(l:List UInt8):Int:=if adn l=true then 0 else 10
theorem abC u:num u=WY 9 u:=(UR 9 u).symm
theorem abD i:2^(7*(i+1))=128*2^(7*i):=by rw[Nat.mul_add,Nat.pow_add];omega
theorem Qv:∀(f X u i:Nat)r,f+i=9->X*2^(7*i)<18446744073709551616->(i≠0->X≠0)->SX (WY f X++r) u i=(true,u+X*2^(7*i),r)
 |0,X,u,i,r,hf,hX,h0=>by
  have hi:i=9:=zO
  subst hi;have e9:2^(7*9)=9223372036854775808:=zD
  have e:X=1:=zO
  subst e;rfl
 |f+1,X,u,i,r,hf,hX,h0=>by
  simp only[WY];by_cases hc:X<128
  .rw [yL hc];have e:(UInt8.ofNat X).toNat=X:=by exact Nat.mod_eq_of_lt zO
   simp only[cons_append,SX];grind
  .rw [yK hc];have e:(UInt8.ofNat (X % 128+128)).toNat=X % 128+128:=by exact Nat.mod_eq_of_lt zO
   simp only[cons_append,SX];have ah9:X*2^(7*i)=X % 128*2^(7*i)+X/128*2^(7*(i+1)):=by
    rw[abD,<- Nat.mul_assoc,<- Nat.add_mul];congr 1;omega
   rw[e,yK zO,yK zO,show(X % 128+128) % 128=X % 128 by omega];rw[Qv f (X/128) _ (i+1) r zO zO (fun _=>zO),Nat.add_assoc,<- ah9]
theorem ET u(hu:u<18446744073709551616)r:Qu (num u++r)=true/\Cn (num u++r)=u/\Co (num u++r)=r:=by
 have:=Qv 9 u 0 0 r zO (by simpa using hu) (fun h=>absurd rfl h);rw[<- abC]at this;simp only[Qu,Cn,Co,this];simp
theorem adi n:sgn (vP n)=n:=by
 unfold vP;split
 .grind [sgn]
 .grind [sgn]
theorem ag7{l}(h:∀x∈l,wf x=true):Lb l=true:=by
 induction l with
 |nil=>rfl
 |cons a l ih=>simp only[Lb];grind
theorem ag8{l}{d}(h:∀x∈l,dp x<=d):JO l<=d:=by
 induction l with
 |nil=>exact yN
 |cons a l ih =>
  simp only[JO];grind
end Go.yU
namespace Go.bV
open Go Go.Am Go.Proofs Go.eY Go.bH Go.yU
def O8(c:CV):D:=((at_ c.l 0).n,(at_ c.l 1).n)
def adq(L:List CV):OP:=⟨(at_ L 0).n,(at_ L 1).n,(at_ L 2).n,(at_ L 3).l.map O8,(at_ (at_ L 4).l 0).n,(at_ (at_ L 4).l 1).s,(at_ L 5).n,(at_ (at_ L 6).l 0).n,(at_ (at_ L 6).l 1).n,(at_ (at_ L 6).l 2).n,
 (at_ (at_ L 7).l 0).n,(at_ (at_ L 7).l 1).n,(at_ (at_ L 7).l 2).n,(at_ L 8).s,(at_ L 9).s,(at_ L 10).n,(at_ L 11).n==1⟩
end Go.bV
namespace Go.bH
open Go Go.Am Go.Proofs Go.eY
def fM(a b:List D):Int:=if eZ a=0 then eZ b else eZ a
theorem abE a b(ha:a.length<=1000000000)(hb:b.length<=1000000000)(h:(((eZ a=0)->eZ b=(fM a b))/\((¬eZ a=0)->eZ a=(fM a b)))):Cq 121 [bB a,bB b] (int (fM a b)):=by
 have bS:=(@fG (a) zO);by_cases c1:(eZ a=0)
 .have h:=h.1 c1;exact aA (aF.int_eq h) [kc [] bS,kf (((y32 (nW.2 c1)))),kc [] (@fG (b) zO)]
 .have h:=h.2 c1;exact aA (aF.int_eq h) [kc [] bS,kt (((y32 (qN.2 c1))))]
theorem PX a b(ha:a.length<=1000000000)(hb:b.length<=1000000000):Cq 121 [bB a,bB b] (int (fM a b)) :=
 abE a b ha hb (by unfold fM;grind)
def Kl:Nat->List D->List D->List Int
 |0,_,_=>[]
 |_+1,[],[]=>[]
 |n+1,x::a,[]=>x.1::Kl n a []
 |n+1,[],y::b=>y.1::Kl n [] b
 |n+1,x::a,y::b=>if y.1<x.1 then y.1::Kl n (x::a) b else if x.1<y.1 then x.1::Kl n a (y::b)else x.1::Kl n a b
def alp(a b:List D):List Int:=Kl (a.length+b.length) a b
end Go.bH
