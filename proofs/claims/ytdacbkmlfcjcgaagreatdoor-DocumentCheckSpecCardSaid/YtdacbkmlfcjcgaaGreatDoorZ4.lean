import Derived.Test.YtdacbkmlfcjcgaaGreatDoorZ3
set_option maxRecDepth 100000
set_option linter.unusedSimpArgs false
set_option linter.unusedVariables false
open List
noncomputable section
namespace Go.Proofs.YtdacbkmlfcjcgaaGreatDoor
open Go Go.Am Go.ChangeShapes Go.WideShapes Go.RowKit
def jf1(P:Program)(f:FuncId)(fn:Func)(s:ChangeSpec)(c:OpenClaim):Bool:=c.wf (OpenSpec.ofChange s)&&laidOutB P&&mapsRowed P
def jf2(P:Program)(f:FuncId)(fn:Func)(s:ChangeSpec)(c:OpenClaim):Bool:=fn.params.all (P.readableRec ·)&&namedTie P c.named s.vars&&(c.stops==[])&&(P.stops==[])&&(c.knobs==[])&&(P.stopKnobs==[])
def jf3(P:Program)(f:FuncId)(fn:Func)(s:ChangeSpec)(c:OpenClaim):Bool:=(c.inPlace==P.inPlace f)
def jf4(P:Program)(f:FuncId)(fn:Func)(s:ChangeSpec)(c:OpenClaim):Bool:=(c.unfollowed==P.unfollowed f)&&(c.recurses==P.recurses f)
def jf5(P:Program)(f:FuncId)(fn:Func)(s:ChangeSpec)(c:OpenClaim):Bool:=(c.named==P.varsNamed f)
def jf6(P:Program)(f:FuncId)(fn:Func)(s:ChangeSpec)(c:OpenClaim):Bool:=(c.maps==(fn.params.toList++s.plain.varTypes P).any (P.mapsRec ·))&&(c.ifaces==(fn.params.toList++s.plain.varTypes P).any (P.ifacesRec ·))&&(c.mapsOut==P.mapsAmong fn.resultTypes.toList)&&(c.loops==(fn.params.toList++s.plain.varTypes P).any (P.loopsFrom ·))&&(c.wideKeys==(fn.params.toList++s.plain.varTypes P++fn.resultTypes.toList).any (P.wideKeysFrom ·))&&s.vars.all (P.varReadable ·)&&fn.resultTypes.all (fun t=>P.readableRec t&&decide (t<P.types.size))&&(c.ifacesOut==fn.resultTypes.toList.any (P.ifacesRec ·))&&(c.loopsOut==fn.resultTypes.toList.any (P.loopsFrom ·))
def jf7(P:Program)(f:FuncId)(fn:Func)(s:ChangeSpec)(c:OpenClaim):Bool:=(c.plainKeys==P.plainKeys)&&c.shortTexts.isNone&&P.stopsHeard&&P.mayEnter
def jf8(P:Program)(f:FuncId)(fn:Func)(s:ChangeSpec)(c:OpenClaim):Bool:=(c.lifted==P.liftsFinal)
def jf9(P:Program)(f:FuncId)(fn:Func)(s:ChangeSpec)(c:OpenClaim):Bool:=(P.make==some c.make)
def agQ(P:Program)(f:FuncId)(fn:Func)(s:ChangeSpec)(c:OpenClaim):Bool:=(c.kinds==(if c.domain.isEmpty then[]else fn.params.toList.map fun t=>match P.underlying t with|some (.int k)=>some k|_=>none))&&(c.pinned==c.pinnedBy)
def agR(P:Program)(f:FuncId)(fn:Func)(s:ChangeSpec)(c:OpenClaim):Bool:=(c.veiled==(fn.params.toList++s.plain.varTypes P++fn.resultTypes.toList).any (P.veiledRec ·))&&c.veiledFits P fn.params.toList (fn.params.toList++s.plain.varTypes P++fn.resultTypes.toList)
theorem Wd{P}{f}{fn}{s}{c}(h1:jf1 P f fn s c=true)(h2:jf2 P f fn s c=true)(h3:jf3 P f fn s c=true)(h4:jf4 P f fn s c=true)(h5:jf5 P f fn s c=true)(h6:jf6 P f fn s c=true)(h7:jf7 P f fn s c=true)(h8:jf8 P f fn s c=true)(h9:jf9 P f fn s c=true)(h10:agQ P f fn s c=true)(h11:agR P f fn s c=true):joinedFacts P f fn s c=true:=by
 unfold joinedFacts;simp only[jf1,jf2,jf3,jf4,jf5,jf6,jf7,jf8,jf9,agQ,agR,y04]at h1 h2 h3 h4 h5 h6 h7 h8 h9 h10 h11 |-;grind
end Go.Proofs.YtdacbkmlfcjcgaaGreatDoor
namespace Go.bH
open Go Go.Am Go.Proofs Go.eY
abbrev D:=Int×Int
def aQ(d:D):List AV:=[int d.1,int d.2]
def au(v:List D):List (List AV):=v.map aQ
def bB(v:List D):AV:=.sl 2 false (au v)
def eG(d:D):AV:=.agg (aQ d)
theorem ay v:(au v).length=v.length:=by simp[au]
theorem sN a b:[[AV.lit (Value.int IntKind.i64 a),AV.lit (Value.int IntKind.i64 b)]]=au [(a,b)]:=rfl
theorem iI v(n:Nat):List.drop n (au v)=au (v.drop n):=by simp[au]
theorem gF v(n:Nat):List.take n (au v)=au (v.take n):=by simp[au]
theorem bK v:∀c∈au v,c.all AV.fJ=true:=by
 intro c hc;obtain⟨d,_,rfl⟩:=yG.1 hc;rfl
theorem bJ v:∀c∈au v,AV.aM [] c=true:=by
 intro c hc;obtain⟨d,_,rfl⟩:=yG.1 hc;rfl
theorem dW v:List.take v.length (List.drop 0 (au v))=au v:=by rw[<- ay v];simp
def LW(n:Int):List AV:=[int n]
def ql(l:List Int):List (List AV):=l.map LW
theorem kD l:(ql l).length=l.length:=by simp[ql]
theorem aBH(a:Int):[[AV.lit (Value.int IntKind.i64 a)]]=ql [a]:=rfl
theorem aAz(a b:List Int):ql a++ql b=ql (a++b):=by simp[ql]
theorem gy a b:au a++au b=au (a++b):=by simp[au]
theorem az1(l:List Int):∀c∈ql l,c.all AV.fJ=true:=by
 intro c hc;obtain⟨d,_,rfl⟩:=yG.1 hc;rfl
theorem aBG(l:List Int):∀c∈ql l,AV.aM [] c=true:=by
 intro c hc;obtain⟨d,_,rfl⟩:=yG.1 hc;rfl
theorem aBI(l:List Int):List.take l.length (List.drop 0 (ql l))=ql l:=by rw[<- kD l];simp
def gQ(d:D):Bool:=decide (d.1>=0)&&decide (d.1<512)&&decide (d.2>=1)&&decide (d.2<=1048576)
theorem adQ(a b:Int)(h:(((a>=0)->(((a<512)->(((b>=1)->(decide (b<=1048576))=(gQ (a,b)))/\((¬b>=1)->(false)=(gQ (a,b)))))/\((¬a<512)->(false)=(gQ (a,b)))))/\((¬a>=0)->(false)=(gQ (a,b))))):Cq 154 [eG (a,b)] (Am.bool (gQ (a,b))):=by
 by_cases c1:(a>=0)
 .have h:=h.1 c1;by_cases c2:(a<512)
  .have h:=h.1 c2;by_cases c3:(b>=1)
   .have h:=h.1 c3;exact aA (aF.aI h) [kt (qT c1),kt (qT c2),kt (qT c3)]
   .have h:=h.2 c3;exact aA (aF.aI h) [kt (qT c1),kt (qT c2),kf (qF c3)]
  .have h:=h.2 c2;exact aA (aF.aI h) [kt (qT c1),kf (qF c2),kY]
 .have h:=h.2 c1;exact aA (aF.aI h) [kf (qF c1),kY,kY]
theorem adR(a b:Int):Cq 154 [eG (a,b)] (bool (gQ (a,b))):=adQ a b (by
 simp only[gQ];refine⟨fun h=>⟨fun h=>⟨fun h=>?_,fun h=>?_⟩,fun h=>?_⟩,fun h=>?_⟩<;>simp[*])
theorem aDP(a b:Int)(h:(((a>=0)->(((a<512)->(((b>=1)->(decide (b<=1048576))=(gQ (a,b)))/\((¬b>=1)->(false)=(gQ (a,b)))))/\((¬a<512)->(false)=(gQ (a,b)))))/\((¬a>=0)->(false)=(gQ (a,b))))):Cq 125 [eG (a,b)] (Am.bool (gQ (a,b))):=by
 by_cases c1:(a>=0)
 .have h:=h.1 c1;by_cases c2:(a<512)
  .have h:=h.1 c2;by_cases c3:(b>=1)
   .have h:=h.1 c3;exact aA (aF.aI h) [kt (qT c1),kt (qT c2),kt (qT c3)]
   .have h:=h.2 c3;exact aA (aF.aI h) [kt (qT c1),kt (qT c2),kf (qF c3)]
  .have h:=h.2 c2;exact aA (aF.aI h) [kt (qT c1),kf (qF c2),kY]
 .have h:=h.2 c1;exact aA (aF.aI h) [kf (qF c1),kY,kY]
theorem aBB(a b:Int):Cq 125 [eG (a,b)] (bool (gQ (a,b))):=aDP a b (by
 simp only[gQ];refine⟨fun h=>⟨fun h=>⟨fun h=>?_,fun h=>?_⟩,fun h=>?_⟩,fun h=>?_⟩<;>simp[*])
def jh(v:List D)(k:Nat):Bool:=match v[k]? with
 |some x=>gQ x&&(k==0||match v[k-1]? with|some y=>decide (y.1<x.1)|none=>false)
 |none=>true
def y9(v:List D):Nat->Nat->Bool
 |0,_=>true
 |n+1,k=>jh v k&&y9 v n (k+1)
def Cw(v:List D):Bool:=y9 v v.length 0
def eZ(v:List D):Int:=if Cw v=true then 0 else 120
def Ll(v:List D)(k:Nat):St:={ aL:=aC 31 [(0,bB v),(2,int 0),(5,bB v),(6,int v.length),(7,int k)],H:=[] }
theorem ae3(v:List D)(k:Nat)(hv:v.length<=1000000000)(ex:bF)(r:Int)(h:((((k:Int)<(v.length:Int))->(∃x2:D,(v[k]?=some x2)/\((((gQ (x2.1,x2.2))=true)->((((k:Int)>0)->(∃x6:D,((0:Int)<=(k:Int)-1/\v[Int.toNat ((k:Int)-1)]?=some x6)/\(((x2.1<=x6.1)->(bF.ret=ex)/\(120=r))/\((¬x2.1<=x6.1)->Rq 0 61 0 (sM 31 [(0,bB v),(2,int 0),(5,bB v),(6,int ↑v.length),(7,int ↑(k+1))] []) ex (sM 31 [(2,int r)] [])))))/\((¬(k:Int)>0)->Rq 0 61 0 (sM 31 [(0,bB v),(2,int 0),(5,bB v),(6,int ↑v.length),(7,int ↑(k+1))] []) ex (sM 31 [(2,int r)] []))))/\(((gQ (x2.1,x2.2))=false)->(bF.ret=ex)/\(120=r)))))/\((¬(k:Int)<(v.length:Int))->(bF.exit 0=ex)/\(0=r)))):Rq 0 61 0 (Ll v k) ex (sM 31 [(2,int r)] []):=by
 by_cases c1:((k:Int)<(v.length:Int))
 .have h:=h.1 c1;obtain⟨x2,o3,h⟩:=h;have fT:=(@adR x2.1 x2.2);let l1:List fP:=[kt (qT c1),ke (aQ x2) (au v) k (bG o3),kc [] fT];rcases y00 ((gQ (x2.1,x2.2)))with c4|c4
  .have h:=h.1 c4;have jw:=(y27 (c4));by_cases c5:((k:Int)>0)
   .have h:=h.1 c5;obtain⟨x6,o7,h⟩:=h;let l2:List fP:=l1++[kf jw,kt (qT c5),kW 23 ((k:Int)-1) ((k:Int)-1),ko (bC.elem (aQ x6)),kp (show(0:Int)<=(k:Int)-1/\(au v)[Int.toNat ((k:Int)-1)]?=some (aQ x6)from(qU o7))];by_cases c8:(x2.1<=x6.1)
    .have h:=h.1 c8;obtain⟨eX,e1⟩:=h;exact bN.to ((show Rq 0 61 0 (Ll v k) bF.ret (sM 31 [(2,int 120)] [])from aG (l2++[kt (qT c8)]) (aB 31 [2]) 0)) eX (eB.aC ⟨rfl,(aF.int_eq e1),yO⟩)
    .have h:=h.2 c8;exact aJ (l2++[kf (qF c8),kW 30 (k+1) ↑(k+1)]) (aB 31 [0,2,5,6,7]) 0 h
   .have h:=h.2 c5;exact aJ (l1++[kf jw,kf (qF c5),kY,kW 30 (k+1) ↑(k+1)]) (aB 31 [0,2,5,6,7]) 0 h
  .have h:=h.2 c4;obtain⟨eX,e1⟩:=h;exact bN.to ((show Rq 0 61 0 (Ll v k) bF.ret (sM 31 [(2,int 120)] [])from aG (l1++[kt (show(!gQ (x2.1,x2.2))=true from(y27 (c4))),kO]) (aB 31 [2]) 0)) eX (eB.aC ⟨rfl,(aF.int_eq e1),yO⟩)
 .have h:=h.2 c1;obtain⟨eX,e1⟩:=h;exact bN.to ((show Rq 0 61 0 (Ll v k) (bF.exit 0) (sM 31 [(2,int 0)] [])from aG [kf (qF c1)] (aB 31 [2]) 0)) eX (eB.aC ⟨rfl,(aF.int_eq e1),yO⟩)
theorem aa3(v:List D)(hv:v.length<=1000000000):∀n k,v.length-k=n->k<=v.length ->
 Rq 0 61 0 (Ll v k) (if y9 v n k=true then .exit 0 else .ret) { aL:=aC 31 [(2,int (if y9 v n k=true then 0 else 120))],H:=[] }:=by
 intro n
 induction n with
 |zero=>intro k hn hk;exact ae3 v k hv _ _ ⟨fun h=>absurd h zO,fun _=>⟨rfl,rfl⟩⟩
 |succ n ih =>
  intro k hn hk;have bg:k<v.length:=zO
  have hx:=yA bg;have nx:∀{b:Bool},jh v k=true->y9 v (n+1) k=y9 v n (k+1):=fun h=>by simp[y9,h]
  have bad:jh v k=false->y9 v (n+1) k=false:=fun h=>by simp[y9,h]
  refine ae3 v k hv _ _ ⟨fun h=>⟨v[k],hx,⟨fun hq=>⟨fun h0=>?_,fun h0=>?_⟩,fun hq=>?_⟩⟩,fun h=>absurd bg zO⟩
  .have hy:v[k-1]?=some (v[k-1]'zO):=yA zO;refine⟨v[k-1]'zO,⟨zO,by rw[show((k:Int)-1).toNat=k-1 by omega];exact hy⟩,⟨fun hl=>?_,fun hl=>?_⟩⟩
   .have hb:jh v k=false:=by simp only[jh,hx,hy];simp;exact fun _=>⟨zO,zO⟩
    rw[bad hb];exact⟨rfl,rfl⟩
   .have hb:jh v k=true:=by simp only[jh,hx,hy,y04];exact⟨hq,by simp;exact .inr zO⟩
    rw[nx (b:=true) hb];exact ih (k+1) zO zO
  .have hb:jh v k=true:=by simp only[jh,hx,y04];exact⟨hq,by simp;exact .inl zO⟩
   rw[nx (b:=true) hb];exact ih (k+1) zO zO
  .have hb:jh v k=false:=by simp only[jh,hx];simp[hq]
   rw[bad hb];exact⟨rfl,rfl⟩
theorem HZ(v:List D)(hv:v.length<=1000000000):Rq 0 61 0 (Ll v 0) (if Cw v=true then .exit 0 else .ret) { aL:=aC 31 [(2,int (if Cw v=true then 0 else 120))],H:=[] } :=
 aa3 v hv v.length 0 zO zO
theorem NM(v:List D)(hv:v.length<=1000000000)(h:(((Cw v=true)->(0:Int)=(eZ v))/\((¬Cw v=true)->(120:Int)=(eZ v)))):Cq 61 [bB v] (int (eZ v)):=by
 have bS:=lU (ay v);by_cases c1:(Cw v=true)
 .have h:=h.1 c1;exact aA (aF.int_eq h) [kv 6 bS,kl (rG [(1,1),(3,2),(8,23)]) 0 (show Rq 0 61 0 (sM 31 [(0,.sl 2 false (au v)),(2,int 0),(5,.sl 2 false (au v)),(6,int ↑v.length),(7,int 0)] []) (bF.exit 0) (sM 31 [(2,int 0)] [])from(by have h0:=(@HZ (v) zO);simp only[yL c1]at h0;exact h0))]
 .have h:=h.2 c1;exact aA (aF.int_eq h) [kv 6 bS,kl (rG [(1,1),(3,2),(8,23)]) 0 (show Rq 0 61 0 (sM 31 [(0,.sl 2 false (au v)),(2,int 0),(5,.sl 2 false (au v)),(6,int ↑v.length),(7,int 0)] []) bF.ret (sM 31 [(2,int 120)] [])from(by have h0:=(@HZ (v) zO);simp only[yK c1]at h0;exact h0))]
theorem fG(v:List D)(hv:v.length<=1000000000):Cq 61 [bB v] (int (eZ v)):=NM v hv ⟨fun h=>by simp[eZ,h],fun h=>by simp[eZ,h]⟩
def aAu(v:List D)(k:Nat):St:={ aL:=aC 34 [(0,bB v),(2,int 0),(3,int k)],H:=[] }
theorem aDQ(v:List D)(k:Nat)(hv:v.length<=1000000000)(ex:bF)(r:Int)(h:((((k:Int)<(v.length:Int))->(∃x2:D,(v[k]?=some x2)/\((((gQ (x2.1,x2.2))=true)->((((k:Int)>0)->(∃x6:D,((0:Int)<=(k:Int)-1/\v[Int.toNat ((k:Int)-1)]?=some x6)/\(((x2.1<=x6.1)->(bF.ret=ex)/\(120=r))/\((¬x2.1<=x6.1)->Rq 0 63 0 (sM 34 [(0,bB v),(2,int 0),(3,int ↑(k+1))] []) ex (sM 34 [(2,int r)] [])))))/\((¬(k:Int)>0)->Rq 0 63 0 (sM 34 [(0,bB v),(2,int 0),(3,int ↑(k+1))] []) ex (sM 34 [(2,int r)] []))))/\(((gQ (x2.1,x2.2))=false)->(bF.ret=ex)/\(120=r)))))/\((¬(k:Int)<(v.length:Int))->(bF.exit 0=ex)/\(0=r)))):Rq 0 63 0 (aAu v k) ex (sM 34 [(2,int r)] []):=by
 have bS:=lU (ay v);by_cases c1:((k:Int)<(v.length:Int))
 .have h:=h.1 c1;obtain⟨x2,o3,h⟩:=h;have fT:(0:Int)<=(k:Int)/\(au v)[Int.toNat (k:Int)]?=some (aQ x2):=(bG o3);have jw:=(@aBB x2.1 x2.2);let l1:List fP:=[kv 6 bS,kt (qT c1),ko (bC.elem (aQ x2)),kp fT,kc [] jw];rcases y00 ((gQ (x2.1,x2.2)))with c4|c4
  .have h:=h.1 c4;have x9:=(y27 (c4));by_cases c5:((k:Int)>0)
   .have h:=h.1 c5;obtain⟨x6,o7,h⟩:=h;let l2:List fP:=l1++[kf x9,kt (qT c5),ko (bC.elem (aQ x2)),kp fT,kW 27 ((k:Int)-1) ((k:Int)-1),ko (bC.elem (aQ x6)),kp (show(0:Int)<=(k:Int)-1/\(au v)[Int.toNat ((k:Int)-1)]?=some (aQ x6)from(qU o7))];by_cases c8:(x2.1<=x6.1)
    .have h:=h.1 c8;obtain⟨eX,e1⟩:=h;exact bN.to ((show Rq 0 63 0 (aAu v k) bF.ret (sM 34 [(2,int 120)] [])from aG (l2++[kt (qT c8)]) (aB 34 [2]) 0)) eX (eB.aC ⟨rfl,(aF.int_eq e1),yO⟩)
    .have h:=h.2 c8;exact aJ (l2++[kf (qF c8),kW 9 (k+1) ↑(k+1)]) (aB 34 [0,2,3]) 0 h
   .have h:=h.2 c5;exact aJ (l1++[kf x9,kf (qF c5),kY,kW 9 (k+1) ↑(k+1)]) (aB 34 [0,2,3]) 0 h
  .have h:=h.2 c4;obtain⟨eX,e1⟩:=h;exact bN.to ((show Rq 0 63 0 (aAu v k) bF.ret (sM 34 [(2,int 120)] [])from aG (l1++[kt (show(!gQ (x2.1,x2.2))=true from(y27 (c4))),kO]) (aB 34 [2]) 0)) eX (eB.aC ⟨rfl,(aF.int_eq e1),yO⟩)
 .have h:=h.2 c1;obtain⟨eX,e1⟩:=h;exact bN.to ((show Rq 0 63 0 (aAu v k) (bF.exit 0) (sM 34 [(2,int 0)] [])from aG [kv 6 bS,kf (qF c1)] (aB 34 [2]) 0)) eX (eB.aC ⟨rfl,(aF.int_eq e1),yO⟩)
theorem aCO(v:List D)(hv:v.length<=1000000000):∀n k,v.length-k=n->k<=v.length ->
 Rq 0 63 0 (aAu v k) (if y9 v n k=true then .exit 0 else .ret) { aL:=aC 34 [(2,int (if y9 v n k=true then 0 else 120))],H:=[] }:=by
 intro n
 induction n with
 |zero=>intro k hn hk;exact aDQ v k hv _ _ ⟨fun h=>absurd h zO,fun _=>⟨rfl,rfl⟩⟩
 |succ n ih =>
  intro k hn hk;have bg:k<v.length:=zO
  have hx:=yA bg;have nx:∀{b:Bool},jh v k=true->y9 v (n+1) k=y9 v n (k+1):=fun h=>by simp[y9,h]
  have bad:jh v k=false->y9 v (n+1) k=false:=fun h=>by simp[y9,h]
  refine aDQ v k hv _ _ ⟨fun h=>⟨v[k],hx,⟨fun hq=>⟨fun h0=>?_,fun h0=>?_⟩,fun hq=>?_⟩⟩,fun h=>absurd bg zO⟩
  .have hy:v[k-1]?=some (v[k-1]'zO):=yA zO;refine⟨v[k-1]'zO,⟨zO,by rw[show((k:Int)-1).toNat=k-1 by omega];exact hy⟩,⟨fun hl=>?_,fun hl=>?_⟩⟩
   .have hb:jh v k=false:=by simp only[jh,hx,hy];simp;exact fun _=>⟨zO,zO⟩
    rw[bad hb];exact⟨rfl,rfl⟩
   .have hb:jh v k=true:=by simp only[jh,hx,hy,y04];exact⟨hq,by simp;exact .inr zO⟩
    rw[nx (b:=true) hb];exact ih (k+1) zO zO
  .have hb:jh v k=true:=by simp only[jh,hx,y04];exact⟨hq,by simp;exact .inl zO⟩
   rw[nx (b:=true) hb];exact ih (k+1) zO zO
  .have hb:jh v k=false:=by simp only[jh,hx];simp[hq]
   rw[bad hb];exact⟨rfl,rfl⟩
theorem aAM(v:List D)(hv:v.length<=1000000000):Rq 0 63 0 (aAu v 0) (if Cw v=true then .exit 0 else .ret) { aL:=aC 34 [(2,int (if Cw v=true then 0 else 120))],H:=[] } :=
 aCO v hv v.length 0 zO zO
theorem aDR(v:List D)(hv:v.length<=1000000000)(h:(((Cw v=true)->(0:Int)=(eZ v))/\((¬Cw v=true)->(120:Int)=(eZ v)))):Cq 63 [bB v] (int (eZ v)):=by
 by_cases c1:(Cw v=true)
 .have h:=h.1 c1;exact aA (aF.int_eq h) [kl (rG [(1,1),(4,30)]) 0 (show Rq 0 63 0 (sM 34 [(0,.sl 2 false (au v)),(2,int 0),(3,int 0)] []) (bF.exit 0) (sM 34 [(2,int 0)] [])from(by have h0:=(@aAM (v) zO);simp only[yL c1]at h0;exact h0))]
 .have h:=h.2 c1;exact aA (aF.int_eq h) [kl (rG [(1,1),(4,30)]) 0 (show Rq 0 63 0 (sM 34 [(0,.sl 2 false (au v)),(2,int 0),(3,int 0)] []) bF.ret (sM 34 [(2,int 120)] [])from(by have h0:=(@aAM (v) zO);simp only[yK c1]at h0;exact h0))]
theorem axh(v:List D)(hv:v.length<=1000000000):Cq 63 [bB v] (int (eZ v)):=aDR v hv ⟨fun h=>by simp[eZ,h],fun h=>by simp[eZ,h]⟩
def JF(a b:List D)(k:Nat):St:={ aL:=aC 26 [(0,bB a),(1,bB b),(4,bool false),(5,int k)],H:=[] }
theorem E9(a b:List D)(k:Nat)(ha:a.length<=1000000000)(hb:b.length=a.length)(ex:bF)(r:Bool)(h:((((k:Int)<(a.length:Int))->(∃x2:D,(a[k]?=some x2)/\(∃x4:D,(b[k]?=some x4)/\((((x2.1==x4.1&&x2.2==x4.2)=true)->Rq 0 29 0 (sM 26 [(0,bB a),(1,bB b),(4,Am.bool false),(5,int ↑(k+1))] []) ex (sM 26 [(4,Am.bool r)] []))/\(((x2.1==x4.1&&x2.2==x4.2)=false)->(bF.ret=ex)/\((false)=(r)))))))/\((¬(k:Int)<(a.length:Int))->(bF.exit 0=ex)/\((false)=(r))))):Rq 0 29 0 (JF a b k) ex (sM 26 [(4,Am.bool r)] []):=by
 have bS:=lU (ay a);by_cases c1:((k:Int)<(a.length:Int))
 .have h:=h.1 c1;obtain⟨x2,o3,h⟩:=h;obtain⟨x4,o5,h⟩:=h;let l1:List fP:=[kv 13 bS,kt (qT c1),ko (bC.elem (aQ x2)),ko (bC.elem (aQ x4)),kp (show(0:Int)<=(k:Int)/\(au a)[Int.toNat (k:Int)]?=some (aQ x2)from(bG o3)),kp (show(0:Int)<=(k:Int)/\(au b)[Int.toNat (k:Int)]?=some (aQ x4)from(bG o5))];rcases y00 ((x2.1==x4.1&&x2.2==x4.2))with c6|c6
  .have h:=h.1 c6;exact aJ (l1++[kf (y27 (c6)),kW 16 (k+1) ↑(k+1)]) (aB 26 [0,1,4,5]) 0 h
  .have h:=h.2 c6;obtain⟨eX,e1⟩:=h;exact bN.to ((show Rq 0 29 0 (JF a b k) bF.ret (sM 26 [(4,Am.bool false)] [])from aG (l1++[kt (show(!(x2.1==x4.1&&x2.2==x4.2))=true from(y27 (c6)))]) (aB 26 [4]) 0)) eX (eB.aC ⟨rfl,(aF.aI e1),yO⟩)
 .have h:=h.2 c1;obtain⟨eX,e1⟩:=h;exact bN.to ((show Rq 0 29 0 (JF a b k) (bF.exit 0) (sM 26 [(4,Am.bool false)] [])from aG [kv 13 bS,kf (qF c1)] (aB 26 [4]) 0)) eX (eB.aC ⟨rfl,(aF.aI e1),yO⟩)
theorem Fa(a b:List D)(ha:a.length<=1000000000)(hb:b.length=a.length):∀n k,a.length-k=n->k<=a.length ->
 Rq 0 29 0 (JF a b k) (if a.drop k=b.drop k then .exit 0 else .ret) { aL:=aC 26 [(4,bool false)],H:=[] }:=by
 intro n
 induction n with
 |zero =>
  intro k hn hk;have e:a.drop k=b.drop k:=by rw[y17 zO,y17 zO]
  exact E9 a b k ha hb _ _ ⟨fun h=>absurd h zO,fun _=>⟨by rw[yL e],rfl⟩⟩
 |succ n ih =>
  intro k hn hk;have bg:k<a.length:=zO
  have oL:k<b.length:=zO
  have e1:=y01 bg;have e2:=y01 oL;refine E9 a b k ha hb _ _ ⟨fun h=>⟨a[k],yA bg,b[k],yA oL,⟨fun hq=>?_,fun hq=>?_⟩⟩,fun h=>absurd bg zO⟩
  .have hab:a[k]=b[k]:=by simp at hq;exact Prod.ext hq.1 hq.2
   have h2:=ih (k+1) zO zO;by_cases hd:a.drop (k+1)=b.drop (k+1)
   .rw [yL hd]at h2;rw[yL (by rw[e1,e2,hab,hd])];exact h2
   .rw [yK hd]at h2;rw[yK (by rw[e1,e2,hab];exact fun h=>hd (List.cons.inj h).2)];exact h2
  .have fF:¬a.drop k=b.drop k:=by
    rw[e1,e2];intro he;injection he with h1 _;rw[h1]at hq;simp at hq
   rw[yK fF];exact⟨rfl,rfl⟩
theorem Ja(a b:List D)(ha:a.length<=1000000000)(hb:b.length=a.length):Rq 0 29 0 (JF a b 0) (if a=b then .exit 0 else .ret) { aL:=aC 26 [(4,bool false)],H:=[] } :=
 Fa a b ha hb _ 0 rfl zO
theorem ahG(a b:List D)(ha:a.length<=1000000000)(h:((((a.length:Int)=(b.length:Int))->(((a=b)->(true)=(decide (a=b)))/\((¬a=b)->(false)=(decide (a=b)))))/\((¬(a.length:Int)=(b.length:Int))->(false)=(decide (a=b))))):Cq 29 [bB a,bB b] (Am.bool (decide (a=b))):=by
 have bS:=lU (ay a);have fT:=lU (ay b);by_cases c1:((a.length:Int)=(b.length:Int))
 .have h:=h.1 c1;have jw:=(y27 (nW.2 c1));by_cases c2:(a=b)
  .have h:=h.1 c2;exact aA (aF.aI h) [kv 7 bS,kv 9 fT,kf jw,kl (rG [(2,2),(6,20)]) 0 (show Rq 0 29 0 (sM 26 [(0,.sl 2 false (au a)),(1,.sl 2 false (au b)),(4,Am.bool false),(5,int 0)] []) (bF.exit 0) (sM 26 [(4,Am.bool false)] [])from(by have h0:=(@Ja (a) (b) zO zO);simp only[yL c2]at h0;exact h0))]
  .have h:=h.2 c2;exact aA (aF.aI h) [kv 7 bS,kv 9 fT,kf jw,kl (rG [(2,2),(6,20)]) 0 (show Rq 0 29 0 (sM 26 [(0,.sl 2 false (au a)),(1,.sl 2 false (au b)),(4,Am.bool false),(5,int 0)] []) bF.ret (sM 26 [(4,Am.bool false)] [])from(by have h0:=(@Ja (a) (b) zO zO);simp only[yK c2]at h0;exact h0))]
 .have h:=h.2 c1;exact aA (aF.aI h) [kv 7 bS,kv 9 fT,kt (y27 (qN.2 c1))]
theorem zG(a b:List D)(ha:a.length<=1000000000):Cq 29 [bB a,bB b] (bool (decide (a=b))):=by
 refine ahG a b ha ⟨fun h=>⟨fun h=>by simp[h],fun h=>by simp[h]⟩,fun h=>?_⟩;have:a≠b:=fun e=>h (by rw[e]);simp[this]
def Ep(dev:Int)(l:List D):Bool:=l.any fun d=>decide (d.1=dev)
def gI(dev:Int):List D->Int
 |[]=>0
 |d::t=>if d.1=dev then d.2 else gI dev t
theorem Lm dev(d:D)t:Ep dev (d::t)=(decide (d.1=dev)||Ep dev t):=rfl
theorem aCv{dev:Int}:∀{l:List D},Ep dev l=false->gI dev l=0
 |[],_=>rfl
 |d::t,h=>by
  simp only[Ep,any_cons,Bool.or_eq_false_iff,decide_eq_false_iff_not]at h;rw[gI,yK h.1];exact aCv (by simpa[Ep]using h.2)
def aBN(v:List D)(dev:Int)(k:Nat):St:={ aL:=aC 24 [(0,bB v),(1,int dev),(4,int 0),(5,int k)],H:=[] }
theorem aF5(v:List D)(dev:Int)(k:Nat)(hv:v.length<=1000000000)(ex:bF)(r:Int)(h:((((k:Int)<(v.length:Int))->(∃x2:D,(v[k]?=some x2)/\(((x2.1=dev)->(bF.ret=ex)/\((x2.2:Int)=(r)))/\((¬x2.1=dev)->Rq 0 130 0 (sM 24 [(0,bB v),(1,int dev),(4,int 0),(5,int ↑(k+1))] []) ex (sM 24 [(4,int r)] [])))))/\((¬(k:Int)<(v.length:Int))->(bF.exit 0=ex)/\(0=r)))):Rq 0 130 0 (aBN v dev k) ex (sM 24 [(4,int r)] []):=by
 have bS:=lU (ay v);by_cases c1:((k:Int)<(v.length:Int))
 .have h:=h.1 c1;obtain⟨x2,o3,h⟩:=h;have fT:(0:Int)<=(k:Int)/\(au v)[Int.toNat (k:Int)]?=some (aQ x2):=(bG o3);let l1:List fP:=[kv 8 bS,kt (qT c1),ko (bC.elem (aQ x2)),kp fT];by_cases c4:(x2.1=dev)
  .have h:=h.1 c4;obtain⟨eX,e1⟩:=h;exact bN.to ((show Rq 0 130 0 (aBN v dev k) bF.ret (sM 24 [(4,int x2.2)] [])from aG (l1++[kt (nW.2 c4),ko (bC.elem (aQ x2)),kp fT]) (aB 24 [4]) 0)) eX (eB.aC ⟨rfl,(aF.int_eq e1),yO⟩)
  .have h:=h.2 c4;exact aJ (l1++[kf (qN.2 c4),kW 11 (k+1) ↑(k+1)]) (aB 24 [0,1,4,5]) 0 h
 .have h:=h.2 c1;obtain⟨eX,e1⟩:=h;exact bN.to ((show Rq 0 130 0 (aBN v dev k) (bF.exit 0) (sM 24 [(4,int 0)] [])from aG [kv 8 bS,kf (qF c1)] (aB 24 [4]) 0)) eX (eB.aC ⟨rfl,(aF.int_eq e1),yO⟩)
theorem aDS(v:List D)(dev:Int)(hv:v.length<=1000000000):∀n k,v.length-k=n->k<=v.length ->
 Rq 0 130 0 (aBN v dev k) (if Ep dev (v.drop k)=true then .ret else .exit 0) { aL:=aC 24 [(4,int (gI dev (v.drop k)))],H:=[] }:=by
 intro n
 induction n with
 |zero =>
  intro k hn hk;have e:v.drop k=[]:=y17 zO;rw[e];exact aF5 v dev k hv _ _ ⟨fun h=>absurd h zO,fun _=>⟨rfl,rfl⟩⟩
 |succ n ih =>
  intro k hn hk;have bg:k<v.length:=zO
  have e:=y01 bg;refine aF5 v dev k hv _ _ ⟨fun h=>⟨v[k],yA bg,⟨fun hq=>?_,fun hq=>?_⟩⟩,fun h=>absurd bg zO⟩
  .rw [e,Lm];simp[gI,hq]
  .have h1:Ep dev (v.drop k)=Ep dev (v.drop (k+1)):=by rw[e,Lm];simp[hq]
   have h2:gI dev (v.drop k)=gI dev (v.drop (k+1)):=by rw[e];simp[gI,hq]
   rw[h1,h2];exact ih (k+1) zO zO
theorem aF6(v:List D)(dev:Int)(hv:v.length<=1000000000):Rq 0 130 0 (aBN v dev 0) (if Ep dev v=true then .ret else .exit 0) { aL:=aC 24 [(4,int (gI dev v))],H:=[] } :=
 aDS v dev hv _ 0 rfl zO
theorem aIo(v:List D)(dev:Int)(hv:v.length<=1000000000)(h:(((Ep dev v=true)->True)/\((¬Ep dev v=true)->(0:Int)=(gI dev v)))):Cq 130 [bB v,int dev] (int (gI dev v)):=by
 by_cases c1:(Ep dev v=true)
 .have h:=h.1 c1;exact aj [kl (rG [(2,2),(6,18)]) 0 (show Rq 0 130 0 (sM 24 [(0,.sl 2 false (au v)),(1,int dev),(4,int 0),(5,int 0)] []) bF.ret (sM 24 [(4,int (gI dev v))] [])from(by have h0:=(@aF6 (v) (dev) zO);simp only[yL c1]at h0;exact h0))]
 .have h:=h.2 c1;exact aA (aF.int_eq h) [kl (rG [(2,2),(6,18)]) 0 (show Rq 0 130 0 (sM 24 [(0,.sl 2 false (au v)),(1,int dev),(4,int 0),(5,int 0)] []) (bF.exit 0) (sM 24 [(4,int (gI dev v))] [])from(by have h0:=(@aF6 (v) (dev) zO);simp only[yK c1]at h0;exact h0))]
theorem aIp(v:List D)(dev:Int)(hv:v.length<=1000000000):Cq 130 [bB v,int dev] (int (gI dev v)) :=
 aIo v dev hv ⟨fun _=>trivial,fun h=>(aCv (by simpa using h)).symm⟩
theorem alZ(a b dev:Int)(h:True):ak P G 96 [eG (a,b),.ptr 0 0] [ah.box [int dev]] (aS.ret (Am.bool (decide (a=dev)))) [ah.box [int dev]]:=by
 exact aj []
theorem al0(a b dev:Int):ak P G 96 [eG (a,b),.ptr 0 0] [.box [int dev]] (.ret (bool (decide (a=dev)))) [.box [int dev]]:=alZ a b dev trivial
def IX(v:List D)(dev:Int)(k:Nat):St:={ aL:=aC 19 [(0,bB v),(1,.fn (.func 96) [] [.ptr 0 0]),(4,int 0),(6,bB v),(7,int v.length),(8,int k)],H:=[.box [int dev]] }
theorem ZI(v:List D)(dev:Int)(k:Nat)(hv:v.length<=1000000000)(ex:bF)(r:Int)(h:((((k:Int)<(v.length:Int))->(∃x2:D,(v[k]?=some x2)/\(((x2.1=dev)->(bF.ret=ex)/\(((k:Int):Int)=(r)))/\((¬x2.1=dev)->Rq 1 95 0 (sM 19 [(0,bB v),(1,.fn (Fn.func 96) [] [.ptr 0 0]),(4,int 0),(6,bB v),(7,int ↑v.length),(8,int ↑(k+1))] [.box [int dev]]) ex (sM 19 [(4,int r)] [.box [int dev]])))))/\((¬(k:Int)<(v.length:Int))->(bF.exit 0=ex)/\(0=r)))):Rq 1 95 0 (IX v dev k) ex (sM 19 [(4,int r)] [.box [int dev]]):=by
 by_cases c1:((k:Int)<(v.length:Int))
 .have h:=h.1 c1;obtain⟨x2,o3,h⟩:=h;have fT:=(@al0 x2.1 x2.2 (dev));let l1:List fP:=[kt (qT c1),ke (aQ x2) (au v) k (bG o3),kc [0] fT];by_cases c4:(x2.1=dev)
  .have h:=h.1 c4;obtain⟨eX,e1⟩:=h;exact bN.to ((show Rq 1 95 0 (IX v dev k) bF.ret (sM 19 [(4,int ↑k)] [.box [int dev]])from aG (l1++[kt (qT c4)]) (aB 19 [4]) 1)) eX (eB.aC ⟨rfl,(aF.int_eq e1),yO⟩)
  .have h:=h.2 c4;exact aJ (l1++[kf (qF c4),kW 18 (k+1) ↑(k+1)]) (aB 19 [0,1,4,6,7,8]) 1 h
 .have h:=h.2 c1;obtain⟨eX,e1⟩:=h;exact bN.to ((show Rq 1 95 0 (IX v dev k) (bF.exit 0) (sM 19 [(4,int 0)] [.box [int dev]])from aG [kf (qF c1)] (aB 19 [4]) 1)) eX (eB.aC ⟨rfl,(aF.int_eq e1),yO⟩)
def nE(dev:Int):Int->List D->Int
 |_,[] => -1
 |k,d::t=>if d.1=dev then k else nE dev (k+1) t
theorem Nc(v:List D)(dev:Int)(hv:v.length<=1000000000):∀n k,v.length-k=n->k<=v.length ->
 Rq 1 95 0 (IX v dev k) (if Ep dev (v.drop k)=true then .ret else .exit 0) { aL:=aC 19 [(4,int (if Ep dev (v.drop k)=true then nE dev k (v.drop k)else 0))],H:=[.box [int dev]] }:=by
 intro n
 induction n with
 |zero =>
  intro k hn hk;have e:v.drop k=[]:=y17 zO;rw[e];exact ZI v dev k hv _ _ ⟨fun h=>absurd h zO,fun _=>⟨rfl,rfl⟩⟩
 |succ n ih =>
  intro k hn hk;have bg:k<v.length:=zO
  have e:=y01 bg;refine ZI v dev k hv _ _ ⟨fun h=>⟨v[k],yA bg,⟨fun hq=>?_,fun hq=>?_⟩⟩,fun h=>absurd bg zO⟩
  .rw [e,Lm];simp[nE,hq]
  .have h1:Ep dev (v.drop k)=Ep dev (v.drop (k+1)):=by rw[e,Lm];simp[hq]
   have h2:nE dev k (v.drop k)=nE dev ((k+1:Nat):Int) (v.drop (k+1)):=by rw[e];simp[nE,hq]
   rw[h1,h2];exact ih (k+1) zO zO
theorem al1(v:List D)(dev:Int)(hv:v.length<=1000000000):Rq 1 95 0 (IX v dev 0) (if Ep dev v=true then .ret else .exit 0) { aL:=aC 19 [(4,int (if Ep dev v=true then nE dev 0 v else 0))],H:=[.box [int dev]] } :=
 Nc v dev hv _ 0 rfl zO
theorem apW(v:List D)(dev:Int)(hv:v.length<=1000000000)(h:(((Ep dev v=true)->True)/\((¬Ep dev v=true)->(-1:Int)=(nE dev 0 v)))):ak P G 95 [bB v,.fn (Fn.func 96) [] [.ptr 0 0]] [ah.box [int dev]] (aS.ret (int (nE dev 0 v))) [ah.box [int dev]]:=by
 have bS:=lU (ay v);by_cases c1:(Ep dev v=true)
 .have h:=h.1 c1;exact aj [kv 7 bS,kl (rG [(2,2),(5,1),(9,10)]) 1 (show Rq 1 95 0 (sM 19 [(0,.sl 2 false (au v)),(1,.fn (Fn.func 96) [] [.ptr 0 0]),(4,int 0),(6,.sl 2 false (au v)),(7,int ↑v.length),(8,int 0)] [.box [int dev]]) bF.ret (sM 19 [(4,int (nE dev 0 v))] [.box [int dev]])from(by have h0:=(@al1 (v) (dev) zO);simp only[yL c1]at h0;exact h0))]
 .have h:=h.2 c1;exact aA (aF.int_eq h) [kv 7 bS,kl (rG [(2,2),(5,1),(9,10)]) 1 (show Rq 1 95 0 (sM 19 [(0,.sl 2 false (au v)),(1,.fn (Fn.func 96) [] [.ptr 0 0]),(4,int 0),(6,.sl 2 false (au v)),(7,int ↑v.length),(8,int 0)] [.box [int dev]]) (bF.exit 0) (sM 19 [(4,int 0)] [.box [int dev]])from(by have h0:=(@al1 (v) (dev) zO);simp only[yK c1]at h0;exact h0))]
theorem qD{dev}:∀{v}{k},Ep dev v=false->nE dev k v = -1
 |[],_,_=>rfl
 |d::t,k,h=>by
  simp only[Ep,any_cons,Bool.or_eq_false_iff,decide_eq_false_iff_not]at h;rw[nE,yK h.1];exact qD (by simpa[Ep]using h.2)
theorem apY(v:List D)(dev:Int)(hv:v.length<=1000000000):ak P G 95 [bB v,.fn (.func 96) [] [.ptr 0 0]] [.box [int dev]] (.ret (int (nE dev 0 v))) [.box [int dev]] :=
 apW v dev hv ⟨fun _=>trivial,fun h=>(qD (by simpa using h)).symm⟩
theorem apZ(v:List D)(dev:Int)(hv:v.length<=1000000000)(h:(((nE dev 0 v>=0)->(∃x2:D,((0:Int)<=nE dev 0 v/\v[Int.toNat (nE dev 0 v)]?=some x2)/\(x2.2:Int)=(gI dev v)))/\((¬nE dev 0 v>=0)->(0:Int)=(gI dev v)))):Cq 26 [bB v,int dev] (int (gI dev v)):=by
 have bS:=(@apY (v) (dev) zO);by_cases c1:(nE dev 0 v>=0)
 .have h:=h.1 c1;obtain⟨x2,o3,h⟩:=h;exact aA (aF.int_eq h) [kc [0] bS,kt (qT c1),ko (bC.elem (aQ x2)),kp (show(0:Int)<=nE dev 0 v/\(au v)[Int.toNat (nE dev 0 v)]?=some (aQ x2)from(qU o3))]
 .have h:=h.2 c1;exact aA (aF.int_eq h) [kc [0] bS,kf (qF c1)]
theorem aa4{dev}:∀{v}{k:Nat},(∃j d,nE dev k v=(k+j:Nat)/\v[j]?=some d/\d.2=gI dev v)\/(nE dev k v = -1/\gI dev v=0)
 |[],k=>.inr ⟨rfl,rfl⟩
 |d::t,k=>by
  by_cases hq:d.1=dev
  .exact .inl ⟨0,d,by simp[nE,hq],rfl,by simp[gI,hq]⟩
  .rcases aa4 (dev:=dev) (v:=t) (k:=k+1)with⟨j,d',h1,h2,h3⟩|⟨h1,h2⟩
   .exact .inl ⟨j+1,d',by rw[nE];grind,by simpa using h2,by rw[gI,yK hq];exact h3⟩
   .exact .inr ⟨by rw[nE];grind,by rw[gI,yK hq];exact h2⟩
theorem acj(v:List D)(dev:Int)(hv:v.length<=1000000000):Cq 26 [bB v,int dev] (int (gI dev v)):=by
 refine apZ v dev hv ?_;rcases aa4 (dev:=dev) (v:=v) (k:=0)with⟨j,d,h1,h2,h3⟩|⟨h1,h2⟩
 .have h1:nE dev 0 v=(j:Int):=by simpa using h1
  rw[h1];exact⟨fun _=>⟨d,⟨zO,by simpa using h2⟩,h3⟩,fun h=>absurd zO h⟩
 .have h1:nE dev 0 v = -1:=by simpa using h1
  rw[h1];exact⟨fun h=>absurd h zO,fun _=>h2.symm⟩
def cZ(v:List D)(d:D):Bool:=decide (d.2>=1)&&decide (d.2<=gI d.1 v)
theorem aa5(v:List D)(a b:Int)(hv:v.length<=1000000000)(h:(((b>=1)->(decide (b<=gI a v))=(cZ v (a,b)))/\((¬b>=1)->(false)=(cZ v (a,b))))):Cq 27 [bB v,eG (a,b)] (Am.bool (cZ v (a,b))):=by
 by_cases c1:(b>=1)
 .have h:=h.1 c1;exact aA (aF.aI h) [kt (qT c1),kc [] (@acj (v) (a) zO)]
 .have h:=h.2 c1;exact aA (aF.aI h) [kf (qF c1)]
theorem aCP(v:List D)(a b:Int)(hv:v.length<=1000000000)(h:(((b>=1)->(decide (b<=gI a v))=(cZ v (a,b)))/\((¬b>=1)->(false)=(cZ v (a,b))))):Cq 48 [bB v,eG (a,b)] (Am.bool (cZ v (a,b))):=by
 by_cases c1:(b>=1)
 .have h:=h.1 c1;exact aA (aF.aI h) [kt (qT c1),kc [] (@aIp (v) (a) zO)]
 .have h:=h.2 c1;exact aA (aF.aI h) [kf (qF c1)]
theorem jX(v:List D)(a b:Int)(hv:v.length<=1000000000):Cq 27 [bB v,eG (a,b)] (bool (cZ v (a,b))) :=
 aa5 v a b hv (by simp only[cZ];exact⟨fun h=>by simp[h],fun h=>by simp[h]⟩)
theorem avU(v:List D)(a b:Int)(hv:v.length<=1000000000):Cq 48 [bB v,eG (a,b)] (bool (cZ v (a,b))) :=
 aCP v a b hv (by simp only[cZ];exact⟨fun h=>by simp[h],fun h=>by simp[h]⟩)
end Go.bH
namespace Go.Dc
open Go Go.Am Go.Proofs Go.eY Go.bH
abbrev TL:=Int×Int×Int
def ze(t:TL):List AV:=[int t.1,int t.2.1,int t.2.2]
def lH(l:List TL):List (List AV):=l.map ze
def mF(l:List TL):AV:=.sl 3 false (lH l)
theorem dP l:(lH l).length=l.length:=by simp[lH]
def Tf(d s:Int):Bool:=decide (0<=d)&&decide (d<512)&&decide (1<=s)&&decide (s<=1048576)
theorem aa2(d s:Int)(h:((((0:Int)<=d)->(((d<512)->((((1:Int)<=s)->(decide (s<=1048576))=(Tf d s))/\((¬(1:Int)<=s)->(false)=(Tf d s))))/\((¬d<512)->(false)=(Tf d s))))/\((¬(0:Int)<=d)->(false)=(Tf d s)))):Cq 201 [int d,int s] (Am.bool (Tf d s)):=by
 by_cases c1:((0:Int)<=d)
 .have h:=h.1 c1;by_cases c2:(d<512)
  .have h:=h.1 c2;by_cases c3:((1:Int)<=s)
   .have h:=h.1 c3;exact aA (aF.aI h) [kt (qT c1),kt (qT c2),kt (qT c3)]
   .have h:=h.2 c3;exact aA (aF.aI h) [kt (qT c1),kt (qT c2),kf (qF c3)]
  .have h:=h.2 c2;exact aA (aF.aI h) [kt (qT c1),kf (qF c2),kY]
 .have h:=h.2 c1;exact aA (aF.aI h) [kf (qF c1),kY,kY]
theorem OL(d s:Int):Cq 201 [int d,int s] (Am.bool (Tf d s)):=aa2 d s (by
 unfold Tf;refine⟨fun h1=>⟨fun h2=>⟨fun h3=>by simp[h1,h2,h3],fun h3=>by simp[h3]⟩,fun h2=>by simp[h2]⟩,fun h1=>by simp[h1]⟩)
def Xg:Int->List TL->Bool
 |_,[]=>true
 |last,t::l=>Tf t.1 t.2.1&&decide (last<t.1)&&Xg t.1 l
def vC(l:List TL):Int:=if Xg (-1) l=true then 0 else 150
def tkS(l:List TL)(last:Int)(k:Nat):St:={ aL:=aC 27 [(2,int 0),(3,int last),(6,mF l),(7,int l.length),(8,int k)],H:=[] }
theorem apU(l:List TL)(last:Int)(k:Nat)(hk:¬(k:Int)<(l.length:Int))(ex:bF)(s':St)(h:(bF.exit 0=ex)/\(sM 27 [(2,int 0)] []=s')):Rq 0 102 0 (tkS l last k) ex s':=by
 obtain⟨eX,eS⟩:=h;exact bN.to ((aG [kj ((k:Int)<l.length)] (aB 27 [2]) 0)) eX (eB.of_eq eS)
theorem apV(l:List TL)(last a b c:Int)(w:Bool)(k:Nat)(hl:l.length<=1000000)(hk:(k:Int)<(l.length:Int))(hx:l[k]?=some (a,b,c))(hW:Cq 201 [int a,int b] (Am.bool w))(ex:bF)(s':St)(h:((((w)=true)->(((a<=last)->(bF.ret=ex)/\(sM 27 [(2,int 150)] []=s'))/\((¬a<=last)->Rq 0 102 0 (sM 27 [(2,int 0),(3,int a),(6,.sl 3 false (lH l)),(7,int ↑l.length),(8,int ↑(k+1))] []) ex s')))/\(((w)=false)->(bF.ret=ex)/\(sM 27 [(2,int 150)] []=s')))):Rq 0 102 0 (tkS l last k) ex s':=by
 let l1:List fP:=[ki ((k:Int)<l.length),ke (ze (a,b,c)) (lH l) k (bG hx),kc [] hW];rcases y00 ((w))with c2|c2
 .have h:=h.1 c2;have x9:=(y27 (c2));by_cases c3:(a<=last)
  .have h:=h.1 c3;obtain⟨eX,eS⟩:=h;exact bN.to ((aG (l1++[kf x9,kt (qT c3)]) (aB 27 [2]) 0)) eX (eB.of_eq eS)
  .have h:=h.2 c3;exact aJ (l1++[kf x9,kf (qF c3),kW 26 (k+1) ↑(k+1)]) (aB 27 [2,3,6,7,8]) 0 h
 .have h:=h.2 c2;obtain⟨eX,eS⟩:=h;exact bN.to ((aG (l1++[kt (show(!w)=true from(y27 (c2))),kO]) (aB 27 [2]) 0)) eX (eB.of_eq eS)
theorem adP(l:List TL)(hl:l.length<=1000000):∀n k last,l.length-k=n->k<=l.length->Rq 0 102 0 (tkS l last k) (if Xg last (l.drop k)=true then .exit 0 else .ret) { aL:=aC 27 [(2,int (if Xg last (l.drop k)=true then 0 else 150))],H:=[] }:=by
 intro n
 induction n with
 |zero =>
  intro k last hk LB;rw[y17 zO];exact apU l last k zO _ _ ⟨rfl,rfl⟩
 |succ n ih =>
  intro k last hk LB;have bg:k<l.length:=zO
  have hx:l[k]?=some (l[k].1,l[k].2.1,l[k].2.2):=yA bg;rw[y01 bg];unfold Xg;refine apV l last _ _ _ (Tf l[k].1 l[k].2.1) k hl zO hx (OL _ _) _ _ ⟨fun hw=>⟨fun ha=>?_,fun ha=>?_⟩,fun hw=>?_⟩
  .grind
  .rw [hw,y15 zO];exact ih (k+1) _ zO zO
  .grind
theorem alX(l:List TL)(hL:Rq 0 102 0 (tkS l (-1) 0) (.exit 0) { aL:=aC 27 [(2,int 0)],H:=[] })(h:True):Cq 102 [mF l] (int 0):=by
 exact aj [kN 7 (dP l),kl (rG [(0,2),(4,2),(9,18)]) 0 hL]
theorem alY(l:List TL)(hL:Rq 0 102 0 (tkS l (-1) 0) .ret { aL:=aC 27 [(2,int 150)],H:=[] })(h:True):Cq 102 [mF l] (int 150):=by
 exact aj [kN 7 (dP l),kl (rG [(0,2),(4,2),(9,18)]) 0 hL]
theorem OA(l:List TL)(hl:l.length<=1000000):Cq 102 [mF l] (int (vC l)):=by
 have h:=adP l hl _ 0 (-1) rfl yN;rw[drop_zero]at h;unfold vC;by_cases e:Xg (-1) l=true
 .simp only[yL e]at h |-;exact alX l h trivial
 .simp only[yK e]at h |-;exact alY l h trivial
end Go.Dc
namespace Go.Am
open Go
theorem Fh{α}:∀(m:Ask α)(w:World),w.drawn<=(w.ask m).2.drawn
 |.done a,w=>yM
 |.ask what range k,w=>by
  unfold World.ask;simp only;split
  .exact Fh (k 0) w
  .exact y07 (Nat.le_succ w.drawn) (Fh (k _) { w with drawn:=w.drawn+1 })
theorem Lp(w:World)c:w.drawn<=(w.sys c).2.drawn:=by
 have h:=Fh (Kernel.perform c w.os) w;unfold World.sys;grind
variable {w:World}
theorem Gn{p}{a}{u}{k}{v}{at_}{r}(h:w.viewStore p a u k v at_ = .ok r):r.1.drawn=w.drawn:=by
 unfold World.viewStore at h;simp only[bind,Except.bind,pure,Except.pure,MonadExceptOf.throw]at h
 repeat' first
  |(cases h;done)
  |(cases h;rfl)
  |split at h
theorem JG{p}{a}{v}{at_}{r}(h:w.farStore p a v at_ = .ok r):r.1.drawn=w.drawn:=by
 unfold World.farStore at h;split at h
 .split at h
  .rename_i hv;cases h;exact Gn hv
  .cases h
 .cases h
variable {α:Type}
def _root_.Go.Result.aMh:Result α->World
 |.ok _ w=>w
 |.halt _ w=>w
theorem NN(w:World)a(n:Nat):(w.freeze a n).drawn=w.drawn:=by
 unfold World.freeze;grind
theorem Lr(p:Program):∀(m:Sem α)(w:World),w.drawn<=(m.run p w).aMh.drawn:=by
 intro m
 induction m with
 |pure a=>exact fun w=>yM
 |load m a k ih =>
  intro w;simp only[Sem.run];split
  .exact ih _ w
  .split
   .exact ih _ w
   .exact yM
 |store m a v k ih =>
  intro w;have key:∀r:Result α,r=(match w.cell? a with
   |some _=>if w.frozen? a then .halt (.unsupported (.unsafePointer "a write to bytes that a string shares")) w else k.run p (w.setCell a v)
   |none=>match w.farStore p a v (m == .atomic)with
    |.ok (w,_)=>k.run p w
    |.error h=>.halt h w)->w.drawn<=r.aMh.drawn:=by
   intro r hr;split at hr
   .split at hr
    .rw [hr];exact yM
    .rw [hr];exact ih (w.setCell a v)
   .split at hr
    .rename_i hf;have:=JG hf;rw[hr];exact y07 (Nat.le_of_eq this.symm) (ih _)
    .rw [hr];exact yM
  cases v with
  |agg _=>exact yM
  |tuple _=>exact yM
  |_=>exact key _ rfl
 |new o k ih=>exact fun w=>ih _ { w with heap:=w.heap.push o }
 |shape r k ih=>exact fun w=>ih _ w
 |freeze a n k ih=>intro w;have:=ih (w.freeze a n);rw[NN]at this;exact this
 |frozen a k ih=>exact fun w=>ih _ w
 |getObj r k ih =>
  intro w;simp only[Sem.run];split
  .exact yM
  .exact ih _ w
  .exact yM
 |setObj r o k ih =>
  intro w;simp only[Sem.run];split
  .exact yM
  .exact ih { w with heap:=w.heap.setIfInBounds r o }
  .exact yM
 |choose q k ih =>
  intro w;simp only[Sem.run];split
  .exact ih _ w
  .exact y07 (Nat.le_succ _) (ih _ { w with drawn:=w.drawn+1 })
 |sys c k ih=>exact fun w=>y07 (Lp w c) (ih _ _)
 |program k ih=>exact fun w=>ih _ w
 |mark m k ih=>exact fun w=>ih w
 |halt h=>exact fun w=>yM
theorem iE{α}{p}{m:Sem α}{w w'}{a}(h:m.run p w = .ok a w'):w.drawn<=w'.drawn:=by
 have:=Lr p m w;rw[h]at this;exact this
theorem jV{α}{p}{m:Sem α}{w w'}{a}(h:m.run p w = .halt a w'):w.drawn<=w'.drawn:=by
 have:=Lr p m w;rw[h]at this;exact this
def JQ:GStep->World
 |.go _ w _=>w
 |.comm _ _ _ _ w _=>w
 |.spawn _ _ w _=>w
 |.count _ w _=>w
 |.timer _ _ w _=>w
 |.alone _ _ w _=>w
 |.newcoro _ _ _ w _=>w
 |.coroswitch _ _ _ w _=>w
 |.collect _ w _=>w
 |.watch _ w _=>w
 |.ended _ w _=>w
theorem sJ es(s:GStep):JQ (s.after es)=JQ s:=by cases s<;>rfl
theorem Ae p(main:Bool)fr(cs:List Frame)dy(v:Value)w:(JQ (doReturn p main fr cs dy v w)).drawn=w.drawn:=by
 unfold doReturn;repeat' first
  |rfl
  |split
theorem SH w(fd:Nat)(t:yP)o:w.drawn<=(JQ (endWith w fd t o)).drawn:=by
 have h:=Lp w (.write fd t);unfold endWith;generalize w.sys (.write fd t)=x at h;obtain⟨r,w'⟩:=x;cases r<;>simp only[]<;>first|exact h|(split<;>exact h)
theorem Af p(fr:Frame)v(w:World):(JQ (endPrinting p fr v w)).drawn=w.drawn:=by
 unfold endPrinting;simp only;split<;>rfl
theorem FX p(fr:Frame)(cs:List Frame)dy(m:String)w:w.drawn<=(JQ (endFatal p fr cs dy m w)).drawn:=by
 unfold endFatal;simp only;split
 .rename_i h;exact iE h
 .rename_i h;exact jV h
 .rename_i h;exact jV h
theorem SI p(fr:Frame)d(f:Fatal)w:w.drawn<=(JQ (writeOn p fr d f w)).drawn:=by
 unfold writeOn;simp only;split
 .exact yM
 .split
  all_goals
   rename_i h;have h1:=yJ Prod.fst h;simp only[Sem.runT_fst]at h1
   first
    |exact iE h1
    |exact jV h1
theorem ahH p(fr:Frame)(d:Dying)w:w.drawn<=(JQ (die p fr d w)).drawn:=by
 unfold die;split
 .grind [SI]
 .split
  .split
   .exact yM
   .grind [SH]
  .split
   .exact yM
   .split
    .rename_i h;exact iE h
    .rename_i h;exact jV h
   .rw [sJ];rw[Sem.runT_fst];split
    .rename_i h;exact iE h
    .rename_i h;exact iE h
    .rename_i h;exact jV h
    .rename_i h;rw[Af];exact jV h
    .exact yM
   .exact yM
theorem abb{c}[Decidable c]{a b}{n}(ha:n<=(JQ a).drawn)(hb:n<=(JQ b).drawn):n<=(JQ (if c then a else b)).drawn:=by
 split<;>assumption
theorem Gp p(fr:Frame)(cs:List Frame)dy(d:Deferred)w:w.drawn<=(JQ (callDeferred p fr cs dy d w)).drawn:=by
 refine abb yM ?_
 .simp only[sJ,Sem.runT_fst];cases h:(invoke d.target d.args).run p w with
  |ok a w' =>
   have:=iE h;cases a<;>(try simp only[])<;>first
    |exact this
    |(rename_i x;cases x<;>exact this)
    |(rename_i x _;cases x<;>exact this)
    |(repeat' first|exact this|split)
  |halt a w' =>
   have:=jV h;cases a<;>(try simp only[])<;>first
    |exact this
    |exact y07 this (FX _ _ _ _ _ _)
theorem WG p(main:Bool)fr(cs:List Frame)dy(w:World):w.drawn<=(JQ (unwind p main fr cs dy w)).drawn:=by
 unfold unwind;split
 .simp only[Sem.runT_fst];split
  .rename_i h;exact iE h
  .rename_i h;exact jV h
 .grind [Gp]
 .split
  .exact yM
  .split
   .exact yM
   .split
    .exact yM
    .split
     .split
      .exact yM
      .split
       .rename_i h;exact iE h
       .rename_i h;exact jV h
       .rename_i h;exact jV h
     .split
      .rw [Af];simp
      .exact yM
  .split
   .rw [Ae];simp
   .simp only[sJ,Sem.runT_fst];split
    .rename_i h;rw[Ae];exact iE h
    .rename_i h;exact jV h
    .rename_i h;exact jV h
theorem abd p(fr:Frame)(cs:List Frame)dy(g:Nat)w:w.drawn<=(JQ (early p fr cs dy g w)).drawn:=by
 have hh:∀a w',Sem.run p (choose (.early g)) w = .ok a w'->w.drawn<=w'.drawn:=fun _ _ h=>iE h;have hH:∀a w',Sem.run p (choose (.early g)) w = .halt a w'->w.drawn<=w'.drawn:=fun _ _ h=>jV h;unfold early;simp only
 repeat' first
  |exact yM
  |(have:=hh _ _ (by assumption);exact this)
  |(have:=hH _ _ (by assumption);exact this)
  |split
theorem JH p(b:Bool)fr(cs:List Frame)dy(m:Sem Next)w:w.drawn<=(JQ (stepG.apply p b fr cs dy m w)).drawn:=by
 unfold stepG.apply;simp only[sJ];have e:∀es:Array Event,(if b=true then m.runT p w #[]else(m.run p w,#[])).1=m.run p w:=by
  intro _;split
  .simp
  .rfl
 rw[e #[]];cases h:m.run p w with
 |ok a w' =>
  have:=iE h;cases a<;>(try simp only[])<;>first
   |exact this
   |(repeat' first|exact this|split)
 |halt a w' =>
  have:=jV h;cases a<;>(try simp only[])<;>first
   |exact this
   |exact y07 this (FX _ _ _ _ _ _)
   |(rename_i u;cases u<;>first|exact this|exact y07 this (abd _ _ _ _ _ _))
theorem adT p(b:Bool)fr(cs:List Frame)dy(w:World):w.drawn<=(JQ (stepG.oper p b fr cs dy w)).drawn:=by
 unfold stepG.oper;split
 .exact yM
 .grind [JH]
theorem adU{o:Option α}{a}{f}{n}(ha:n<=(JQ a).drawn)(hb:∀x,n<=(JQ (f x)).drawn):n<=(JQ (o.elim a f)).drawn:=by
 cases o
 .exact ha
 grind
theorem adV(p:Program)(main:Bool)(b:Bool)(fr:Frame)(cs:List Frame)(dy:Option Dying)(w:World):w.drawn<=(JQ (stepG.exec p main b fr cs dy w)).drawn:=by
 unfold stepG.exec;simp only;split
 all_goals repeat' first
  |with_reducible exact JH _ _ _ _ _ _ _
  |with_reducible exact adT _ _ _ _ _ _
  |with_reducible refine abb ?_ ?_
  |with_reducible refine adU ?_ ?_
  |intro _
  |(rw[sJ,Sem.runT_fst];split)
  |(rename_i h;rw[Ae];exact iE h)
  |(rename_i h;exact y07 (iE h) (JH _ _ _ _ _ _ _))
  |split
  |exact yM
  |(rename_i h;exact iE h)
  |(rename_i h;exact jV h)
theorem abe p(main:Bool)g(w:World)b:w.drawn<=(JQ (stepG p main g w b)).drawn:=by
 unfold stepG;simp only;split
 .exact ahH _ _ _ _
 .grind [adV]
 .grind [WG]
theorem UL(p:Program)gs(rest:Rest)w:∀m',look p gs rest w = .next m'->w.drawn<=m'.world.drawn:=by
 intro m' h;unfold look at h;simp only[]at h;split at h
 .split at h
  .cases h
  .split at h
   .cases h
   .split at h
    .rename_i hr;have:=iE hr;grind
    .cases h
    .cases h
 .cases h
theorem JI p(rest:Rest)gs(i:Nat)(g:Goroutine)cases(blocking:Bool)shape(w:World)m'(h:(communicate p rest gs i g cases blocking shape w).1 = .next m'):w.drawn<=m'.world.drawn:=by
 unfold communicate at h;simp only[]at h;have wa:∀w',waitingAt rest cases w=some w'->w'.drawn=w.drawn:=by
  intro w' hw;unfold waitingAt at hw;split at hw
  .split at hw
   .cases hw;rfl
   .cases hw
  .cases hw;rfl
 split at h
 .cases h
 .split at h
  .split at h
   .split at h
    .rename_i hw;cases h;exact Nat.le_of_eq (wa _ hw).symm
    .cases h
   .cases h;exact yM
  .split at h
   .cases h
   .rename_i hp;have hq:=iE hp;split at h
    .split at h
     .rename_i hb;have:=jV hb;cases h;exact y07 hq this
     .cases h
    .cases h;exact hq
    .cases h;exact hq
    .split at h
     .cases h;exact hq
     .split at h
      .rename_i hb;have:=iE hb;cases h;exact y07 hq this
      .cases h
    .cases h;exact hq
    .cases h;exact hq
    .cases h
theorem abf(p:Program)m(k:Nat)m'(h:serve p m k = .next m'):m'.world.drawn=m.world.drawn:=by
 unfold serve at h;grind
theorem Ls m(k:Nat)t(a b:Nat):(retime m k t a b).2.world.drawn=m.world.drawn:=by
 unfold retime;split
 .rename_i h;split at h
  .unfold drain at h;grind
  grind
theorem SK(m:Machine)op(v:Value)m'(h:timerOp m op = .ok (v,m')):m'.world.drawn=m.world.drawn:=by
 have al2:∀var m1,timerOp.opened m var=some m1->m1.world.drawn=m.world.drawn:=by
  intro var m1 h;unfold timerOp.opened at h;grind
 have na:∀var f d ,(∀k t,(f k t).2.world.drawn=d)->timerOp.named m var f = .ok (v,m')->m'.world.drawn=d:=by
  intro var f d hf h;unfold timerOp.named at h;grind
 unfold timerOp at h;split at h
 .split at h
  .cases h;rfl
  grind
 .exact na _ _ _ (fun k t=>Ls _ _ _ _ _) h
 .split at h
  .rename_i ho;refine(na _ _ _ (fun k t=>Ls _ _ _ _ _) h).trans (al2 _ _ ho)
  .cases h
 .cases h;rfl
theorem adW(p:Program)m m'(i:Nat)b(h:(runT p m i b).1 = .next m'):m.world.drawn<=m'.world.drawn:=by
 simp only[runT]at h
 revert h
 generalize m.gs.swapAt! _ _=gg;have hs:=abe p (i==0) gg.1 m.world b
 revert hs
 generalize stepG p _ gg.1 m.world b=s;intro hs h;cases s<;>simp only[JQ]at hs<;>simp only[]at h
 all_goals first
  |(simp at h;done)
  |exact y07 hs (JI _ _ _ _ _ _ _ _ _ _ h)
  |exact y07 hs (UL _ _ _ _ _ h)
  |(simp only[Stepped.next.injEq]at h;subst h;exact hs)
  |skip
 .grind
 .split at h
  .rename_i ht;cases h;exact y07 hs (Nat.le_of_eq (SK _ _ _ _ ht).symm)
  .split at h
   .rename_i hd;cases h;simp only[endThrow,dieOf]at hd;cases hd;exact hs
   .cases h
  .cases h
  .cases h
 .split at h
  .cases h;exact hs
  .split at h
   .rename_i hd;cases h;simp only[endThrow,dieOf]at hd;cases hd;exact hs
   .cases h
  .cases h
variable {s:GStep}
theorem adX:∀ (m':Machine) (o:Array MemOp),(match s with
          |.ended o w _=>Move.machine (.ended o w) #[]
          |_=>.machine (.ended (.stuck "" "") default) #[]) = .machine (.next m') o->False:=by
 grind
theorem abg:∀ (m':Machine) (i:Nat),(match s with
          |.ended o w _=>Move.machine (.ended o w) #[]
          |_=>.machine (.ended (.stuck "" "") default) #[]) = .goroutine m' i->False:=by
 grind
theorem JJ(p:Program)(m:Machine):(∀m' i,askOn p m = .goroutine m' i->m.world.drawn<=m'.world.drawn)/\∀m' o,askOn p m = .machine (.next m') o->m.world.drawn<=m'.world.drawn:=by
 unfold askOn;simp only[];split
 .simp
 .rename_i h0;have d0:=iE h0;split
  .refine ⟨nofun,fun m' o h=>?_⟩;simp only[Move.machine.injEq]at h;have:=abf _ _ _ _ h.1;rw[this];exact d0
  .split
   .split
    .refine ⟨nofun,fun m' o h=>?_⟩;cases h;exact d0
    .split
     .refine ⟨nofun,fun m' o h=>?_⟩;cases h;exact d0
     .exact ⟨fun _ _ h=>(abg _ _ h).elim,fun _ _ h=>(adX _ _ h).elim⟩
   .split
    .split
     .simp
     .rename_i h2;have d2:=y07 d0 (iE h2);split
      .exact ⟨fun _ _ h=>(by cases h;exact d2),nofun⟩
      .split
       .exact ⟨nofun,nofun⟩
       .rename_i h3;have d3:=y07 d2 (iE h3);exact⟨fun _ _ h=>(by cases h;exact d3),nofun⟩
    .split
     .exact ⟨nofun,nofun⟩
     .rename_i h1;have d1:=y07 d0 (iE h1);split
      .exact ⟨nofun,nofun⟩
      .rename_i h2;have d2:=y07 d1 (iE h2);split
       .exact ⟨fun _ _ h=>(by cases h;exact d2),nofun⟩
       .split
        .exact ⟨nofun,nofun⟩
        .rename_i h3;have d3:=y07 d2 (iE h3);exact⟨fun _ _ h=>(by cases h;exact d3),nofun⟩
     .rename_i h1;have d1:=y07 d0 (iE h1);refine⟨nofun,fun m' o h=>?_⟩;cases h;exact d1
     .rename_i h1;have d1:=y07 d0 (iE h1);split
      .exact ⟨nofun,nofun⟩
      .rename_i h2;have d2:=y07 (show m.world.drawn<=(Machine.advanceTo { m with world:=_ } _).world.drawn from d1) (iE h2);split
       .exact ⟨fun _ _ h=>(by cases h;exact d2),fun _ _ h=>(by cases h)⟩
       .split
        .exact ⟨nofun,nofun⟩
        .rename_i h3;have d3:=y07 d2 (iE h3);exact⟨fun _ _ h=>(by cases h;exact d3),nofun⟩
theorem abh(p:Program)m:(∀m' i,ask p m = .goroutine m' i->m.world.drawn<=m'.world.drawn)/\∀m' o,ask p m = .machine (.next m') o->m.world.drawn<=m'.world.drawn:=by
 unfold ask;split
 .split
  .exact ⟨nofun,nofun⟩
  .rename_i h0;have d0:=iE h0;split
   .rename_i hl;have d1:=y07 d0 (UL _ _ _ _ _ hl);have:=JJ p ‹Machine›;grind
   .grind
  .rename_i h0;have d0:=iE h0;have:=JJ p { m with world:=‹World› };grind
 .exact JJ p m
theorem UM(p:Program)m:(∀m' i,move p m = .goroutine m' i->m.world.drawn<=m'.world.drawn)/\∀m' o,move p m = .machine (.next m') o->m.world.drawn<=m'.world.drawn:=by
 unfold move;split
 .grind
 .split
  .split
   .simp
   .exact abh p _
  .exact abh p _
theorem adY{p}{m m'}(h:step p m = .next m'):m.world.drawn<=m'.world.drawn:=by
 unfold step stepT at h;split at h
 .rename_i hm;exact y07 ((UM p m).1 _ _ hm) (adW _ _ _ _ _ h)
 .rename_i hm;subst h;exact(UM p m).2 _ _ hm
theorem Qq{p}{m m'}(h:Steps p m m'):m.world.drawn<=m'.world.drawn:=by
 obtain⟨n,hn⟩:=h
 induction n generalizing m with
 |zero=>simp only[runN]at hn;grind
 |succ n ih =>
  simp only[runN]at hn;split at hn
  .rename_i hs;exact y07 (adY hs) (ih hn)
  grind
theorem _root_.Go.Calls.drawn{P:Program}{f:FuncId}{args:Array Value}{w:World}{R:Ending->World->Prop}(h:Calls P f args w R):Calls P f args w fun e w'=>R e w'/\(e = .outgrown\/w.drawn<=w'.drawn):=by
 intro cs;obtain⟨e,w',fr,r,s,x⟩:=h cs;refine⟨e,w',fr,⟨r,?_⟩,s,x⟩;cases e with
 |returned v=>exact .inr (Qq s)
 |panicked c=>exact .inr (Qq s)
 |outgrown=>exact .inl rfl
open Go.ChangeMaps
section
variable {P:Program} {G:Nat->Option (List AV)} {V:View}
theorem getD_some{l:List α}{i}h(d:α):l.getD i d=l[i]:=by grind
end
end Go.Am
namespace Go.Am
open Go
section
variable {P:Program} {G:Nat->Option (List AV)}
theorem ak.BM{f}{args}{H H' H3}{x}{qs}(h:ak P G f args H (.ret x) H')(hc:Vu H.length x H'=some (H3,qs))(hq:gZ qs):ak P G f args H (.ret x) H3 :=
 fun V vs hH hG hr=>(h V vs hH hG hr).mono fun e w' he=>by
  obtain⟨V',rfl,k2,k3,k4,k5⟩:=he;cases e with
  |returned v =>
   obtain⟨V3,n1,n2,n3,n4,n5⟩:=pJ  (by rw[k4];exact hc) hq (by rw[hH]) k2 k3 k5;exact⟨V3,n1,n2,n3,n4,n5⟩
  |panicked _=>exact k5.elim
  |outgrown=>exact k5.elim
end
def xP(x y:AV):Prop:=∀w M v,dR w M x v->dR w M y v
theorem xP.refl x:xP x x:=fun _ _ _ h=>h
theorem xP.nil sz:xP (.lit (.slice none 0 0)) (.sl sz false []):=fun w M v h=>by
 cases h;exact .sl sz false [] none 0 0 0 (fun _ _=>undef) (fun h=>absurd rfl h) (fun h=>absurd rfl h) yM (fun h=>by cases h) (fun x hx=>by cases hx) (fun k j hk=>absurd hk (y24 _)) (fun k j hk=>absurd hk (y24 _)) (fun k j hk=>absurd hk (y24 _))
theorem aF.anK{sz}{t}{xs ys}(hl:ys.length=xs.length)(iZ:∀y∈ys,y.length=sz)(h:∀k j,k<xs.length->j<sz->xP ((xs.getD k []).getD j .aP) ((ys.getD k []).getD j .aP)):aF (.sl sz t xs) (.sl sz false ys):=fun V v h9=>by
 have hp:=jF h9;cases hp with
 |sl _ _ _ A cap b o vs hA hb pK ht h1 hc ho hr =>
  have fF:ys≠[]->xs≠[]:=fun h1 h2=>h1 (y02 (by rw[hl,h2];rfl));have:dR V.w V.M (.sl sz false ys) (.slice A ys.length cap):=.sl sz false ys A cap b o vs (fun h=>hA (fF h)) (fun h=>hb (fF h)) zO (fun h=>by cases h) iZ (fun k j hk hj=>hc k j zO hj) (fun k j hk hj=>ho k j zO hj) (fun k j hk hj=>h k j zO hj _ _ _ (hr k j zO hj));rw[hl]at this;exact .pure _ _ this
theorem aF.aed sz:aF (.lit (.slice none 0 0)) (.sl sz true []):=fun V v h=>by
 rw[bW h];exact .pure _ _ (.sl sz true [] none 0 0 0 (fun _ _=>undef) (fun h=>absurd rfl h) (fun h=>absurd rfl h) yM (fun _=>rfl) zS (fun k j hk=>absurd hk zS) (fun k j hk=>absurd hk zS) (fun k j hk=>absurd hk zS))
theorem ak.Zm{P}{G}{f}{args}{H H' H1}{cs ds}{z0}{z}{ps}(h:ak P G f args H (.ret (.bq [.agg cs,z0])) H')(ha:vZ H' cs z=some (ds,H1,ps))(dG:gZ ps):ak P G f args H (.ret (.bq [.agg ds,z0])) H1 :=
 fun V vs hH hG hr=>(h V vs hH hG hr).mono fun e w' he=>by
  obtain⟨V',rfl,k2,k3,k4,k5⟩:=he;cases e with
  |returned v =>
   obtain⟨us,rfl,hu⟩:=GI k5;obtain⟨a,b,rfl⟩:∃a b,us=[a,b]:=by
    have:=hu.1
    match us,this with
    |[a,b],_=>exact⟨a,b,rfl⟩
   obtain⟨ws,rfl,hw⟩:=uO hu.head;obtain⟨V1,l1,l2,l3,l4,l5⟩:=nY (by rw[k4];exact ha) dG k3 hw;have hR:bR V1 [.agg ds,z0] [.agg ws.toArray,b]:=.cons (.agg ds ws l5.1 l5.2) (hu.tail.step l3);exact⟨V1,l1,k2.trans l3,l4,l2,.bq _ _ hR.1 hR.2⟩
  |panicked _=>exact k5.elim
  |outgrown=>exact k5.elim
end Go.Am
namespace Go.Sq
open Go Go.Am Go.Proofs Go.eY
def G(_:Nat):Option (List AV):=none
abbrev Rq(n f k:Nat)(s:St)(ex:bF)(s':St):Prop:=bN P G none n (vg P f k) s ex s'
abbrev Cq(f:Nat)(a:List AV)(x:AV):Prop:=ak P G f a [] (.ret x) []
theorem up{f}{xs}{H}{out}{H'}(h:ak P G f xs H out H'):ak P eY.G f xs H out H':=fun V vs hH hG hr =>
 (h V vs hH ⟨hG.lt,hG.eP,hG.inj,hG.gW,fun g cs hg=>by cases hg⟩ hr).mono fun e w' ⟨V',a1,a2,a3,a4,a5⟩=>⟨V',a1,a2,⟨a3.lt,a3.eP,a3.inj,a3.gW,hG.gD a2⟩,a4,a5⟩
abbrev ID:=Int×Int×Int
structure CE where
 dv:Int
 sq:Int
 gU:Int
 ad:Int
 j6:Int
 aa:Int
 tm:Int
 vl:yP
 gn:Bool
 deriving DecidableEq
def aQ(c:CE):List AV:=[int c.dv,int c.sq,int c.gU,int c.ad,int c.j6,int c.aa,int c.tm,str c.vl,bool c.gn]
def au(v:List CE):List (List AV):=v.map aQ
def bZ(v:List CE):AV:=.sl 9 false (au v)
def nP(c:CE):AV:=.agg (aQ c)
abbrev oO(a b c:Int):AV:=.agg [int a,int b,int c]
def CE.id(c:CE):ID:=(c.dv,c.sq,c.gU)
def CE.after(c:CE):ID:=(c.ad,c.j6,c.aa)
theorem ay v:(au v).length=v.length:=by simp[au]
theorem sF v(k:Nat):(au v)[k]?=(v[k]?).map aQ:=by simp[au]
theorem gy a b:au a++au b=au (a++b):=by simp[au]
theorem sN c:[aQ c]=au [c]:=rfl
theorem Aw a b c d e f t(s:yP)g:[[AV.lit (Value.int IntKind.i64 a),AV.lit (Value.int IntKind.i64 b),AV.lit (Value.int IntKind.i64 c),AV.lit (Value.int IntKind.i64 d),AV.lit (Value.int IntKind.i64 e),AV.lit (Value.int IntKind.i64 f),AV.lit (Value.int IntKind.i64 t),AV.lit (Value.string s),AV.lit (Value.bool g)]]=au [⟨a,b,c,d,e,f,t,s,g⟩]:=rfl
theorem iI v(n:Nat):List.drop n (au v)=au (v.drop n):=by simp[au]
theorem gF v(n:Nat):List.take n (au v)=au (v.take n):=by simp[au]
theorem CW v(n:Nat)c:(au v).set n (aQ c)=au (v.set n c):=by simp[au]
theorem bK v:∀c∈au v,c.all AV.fJ=true:=by
 intro c hc;obtain⟨d,_,rfl⟩:=yG.1 hc;rfl
theorem bJ v:∀c∈au v,AV.aM [] c=true:=by
 intro c hc;obtain⟨d,_,rfl⟩:=yG.1 hc;rfl
theorem dW v:List.take v.length (List.drop 0 (au v))=au v:=by rw[<- ay v];simp
def st1(s:yP):List AV:=[str s]
def zB(l:List yP):List (List AV):=l.map st1
def strs(l:List yP):AV:=.sl 1 false (zB l)
theorem vo(v:List yP):(zB v).length=v.length:=by simp[zB]
theorem awF(a b:List yP):zB a++zB b=zB (a++b):=by simp[zB]
theorem aBm(s:yP):[[AV.lit (Value.string s)]]=zB [s]:=rfl
theorem awo(v:List yP):∀c∈zB v,c.all AV.fJ=true:=by
 intro c hc;obtain⟨d,_,rfl⟩:=yG.1 hc;rfl
theorem awv(v:List yP):∀c∈zB v,AV.aM [] c=true:=by
 intro c hc;obtain⟨d,_,rfl⟩:=yG.1 hc;rfl
theorem aw4(v:List yP):List.take v.length (List.drop 0 (zB v))=zB v:=by rw[<- vo v];simp
theorem rC(a b:yP):(ByteArray.toList a==ByteArray.toList b)=decide (a=b):=by
 rw[ByteArray.toList_eq,ByteArray.toList_eq];by_cases h:a=b
 .subst h;simp
 .rw [y16 h];refine beq_eq_false_iff_ne.2 fun e=>h (ByteArray.ext (Array.toList_inj.1 e))
theorem tN(a b:yP):(a==b)=decide (a=b):=by
 obtain⟨⟨a⟩⟩:=a;obtain⟨⟨b⟩⟩:=b;show(a.toArray==b.toArray)=_;grind
end Go.Sq
namespace Go.Tx
open Go Go.Am Go.Proofs Go.eY
abbrev G:=eY.G
class Below(g:Nat->Option (List AV)):Prop where
 JZ:∀{f:FuncId}{xs:List AV}{H:List ah}{out:aS}{H':List ah},ak P g f xs H out H'->ak P G f xs H out H'
instance:Below Sq.G:=⟨Sq.up⟩
instance:Below eY.G:=⟨id⟩
theorem JZ{g}[b:Below g]{f}{xs}{H}{out}{H'}(h:ak P g f xs H out H'):ak P G f xs H out H':=b.JZ h
structure MK where
 dv:Int
 sq:Int
 tm:Int
 fd:Int
 fs:Int
 fa:Int
 td:Int
 ts:Int
 ta:Int
 st:Int
 on:Bool
 deriving DecidableEq
def MK.eG(m:MK):Int×Int:=(m.dv,m.sq)
def MK.frm(m:MK):Sq.ID:=(m.fd,m.fs,m.fa)
def MK.upto(m:MK):Sq.ID:=(m.td,m.ts,m.ta)
def aQ(m:MK):List AV:=[int m.dv,int m.sq,int m.tm,int m.fd,int m.fs,int m.fa,int m.td,int m.ts,int m.ta,int m.st,bool m.on]
def au(v:List MK):List (List AV):=v.map aQ
def oI(v:List MK):AV:=.sl 11 false (au v)
def EC(m:MK):AV:=.agg (aQ m)
structure TE where
 cells:List Sq.CE
 bQ:List MK
 deriving DecidableEq
abbrev mG(t:TE):AV:=.agg [Sq.bZ t.cells,oI t.bQ]
theorem ay v:(au v).length=v.length:=by simp[au]
theorem gy a b:au a++au b=au (a++b):=by simp[au]
theorem sN m:[aQ m]=au [m]:=rfl
theorem Aw(a b c d e f g h i j:Int)o:[[AV.lit (Value.int IntKind.i64 a),AV.lit (Value.int IntKind.i64 b),AV.lit (Value.int IntKind.i64 c),AV.lit (Value.int IntKind.i64 d),AV.lit (Value.int IntKind.i64 e),AV.lit (Value.int IntKind.i64 f),AV.lit (Value.int IntKind.i64 g),AV.lit (Value.int IntKind.i64 h),AV.lit (Value.int IntKind.i64 i),AV.lit (Value.int IntKind.i64 j),AV.lit (Value.bool o)]]=au [⟨a,b,c,d,e,f,g,h,i,j,o⟩]:=rfl
theorem iI v(n:Nat):List.drop n (au v)=au (v.drop n):=by simp[au]
theorem gF v(n:Nat):List.take n (au v)=au (v.take n):=by simp[au]
theorem bK v:∀c∈au v,c.all AV.fJ=true:=by
 intro c hc;obtain⟨d,_,rfl⟩:=yG.1 hc;rfl
theorem bJ v:∀c∈au v,AV.aM [] c=true:=by
 intro c hc;obtain⟨d,_,rfl⟩:=yG.1 hc;rfl
theorem dW v:List.take v.length (List.drop 0 (au v))=au v:=by rw[<- ay v];simp
end Go.Tx
namespace Go.Bd
open Go Go.Am Go.Proofs Go.eY
structure BE where
 ky:yP
 dv:Int
 sq:Int
 tm:Int
 vl:yP
 deriving DecidableEq
def BE.eG(b:BE):Int×Int:=(b.dv,b.sq)
def aQ(b:BE):List AV:=[str b.ky,int b.dv,int b.sq,int b.tm,str b.vl]
def au(v:List BE):List (List AV):=v.map aQ
def iK(v:List BE):AV:=.sl 5 false (au v)
def oN(b:BE):AV:=.agg (aQ b)
abbrev Q9(a b:Int):AV:=.agg [int a,int b]
abbrev yT(f:Nat):AV:=.lit (.func (.func f) #[] #[])
theorem ay v:(au v).length=v.length:=by simp[au]
theorem sF(v:List BE)(k:Nat):(au v)[k]?=(v[k]?).map aQ:=by simp[au]
theorem gy a b:au a++au b=au (a++b):=by simp[au]
theorem sN b:[aQ b]=au [b]:=rfl
theorem Aw(k:yP)a b c(s:yP):[[AV.lit (Value.string k),AV.lit (Value.int IntKind.i64 a),AV.lit (Value.int IntKind.i64 b),AV.lit (Value.int IntKind.i64 c),AV.lit (Value.string s)]]=au [⟨k,a,b,c,s⟩]:=rfl
theorem iI v(n:Nat):List.drop n (au v)=au (v.drop n):=by simp[au]
theorem gF v(n:Nat):List.take n (au v)=au (v.take n):=by simp[au]
theorem CW v(n:Nat)b:(au v).set n (aQ b)=au (v.set n b):=by simp[au]
theorem bK v:∀c∈au v,c.all AV.fJ=true:=by
 intro c hc;obtain⟨d,_,rfl⟩:=yG.1 hc;rfl
theorem bJ v:∀c∈au v,AV.aM [] c=true:=by
 intro c hc;obtain⟨d,_,rfl⟩:=yG.1 hc;rfl
theorem dW v:List.take v.length (List.drop 0 (au v))=au v:=by rw[<- ay v];simp
def st1(s:yP):List AV:=[str s]
def zB(l:List yP):List (List AV):=l.map st1
def strs(l:List yP):AV:=.sl 1 false (zB l)
theorem vo(v:List yP):(zB v).length=v.length:=by simp[zB]
theorem awF(a b:List yP):zB a++zB b=zB (a++b):=by simp[zB]
theorem aBm(s:yP):[[AV.lit (Value.string s)]]=zB [s]:=rfl
theorem aAn(v:List yP)(n:Nat):List.drop n (zB v)=zB (v.drop n):=by simp[zB]
theorem axk(v:List yP)(n:Nat):List.take n (zB v)=zB (v.take n):=by simp[zB]
theorem awo(v:List yP):∀c∈zB v,c.all AV.fJ=true:=by
 intro c hc;obtain⟨d,_,rfl⟩:=yG.1 hc;rfl
theorem awv(v:List yP):∀c∈zB v,AV.aM [] c=true:=by
 intro c hc;obtain⟨d,_,rfl⟩:=yG.1 hc;rfl
theorem aw4(v:List yP):List.take v.length (List.drop 0 (zB v))=zB v:=by rw[<- vo v];simp
theorem rC(a b:yP):(ByteArray.toList a==ByteArray.toList b)=decide (a=b):=by
 rw[ByteArray.toList_eq,ByteArray.toList_eq];by_cases h:a=b
 .subst h;simp
 .rw [y16 h];refine beq_eq_false_iff_ne.2 fun e=>h (ByteArray.ext (Array.toList_inj.1 e))
theorem tN(a b:yP):(a==b)=decide (a=b):=by
 obtain⟨⟨a⟩⟩:=a;obtain⟨⟨b⟩⟩:=b;show(a.toArray==b.toArray)=_;rw[Bool.eq_iff_iff];simp
end Go.Bd
namespace Go.Dc
open Go Go.Am Go.Proofs Go.eY Go.bH
def nE{α:Type}(p:α->Bool):Nat->List α->Int
 |_,[] => -1
 |k,b::t=>if p b=true then(k:Int)else nE p (k+1) t
theorem MX{α}{p}:∀{v:List α}{k},decide (nE p k v>=0)=v.any p
 |[],_=>rfl
 |b::t,k=>by
  rw[any_cons,nE];cases hp:p b with
  |true=>rw[yL rfl];simp
  |false=>exact MX
def dtt(x:TL):D:=(x.1,x.2.1)
def dtc(x:Sq.CE):D:=(x.dv,x.sq)
def dtb(x:Bd.BE):D:=(x.dv,x.sq)
def dtm(x:Tx.MK):D:=(x.dv,x.sq)
theorem ajO(x:TL):Cq 162 [.agg (ze x)] (eG (dtt x)):=aj []
theorem ajP(x:Sq.CE):Cq 157 [.agg (Sq.aQ x)] (eG (dtc x)):=aj []
theorem ajQ(x:Bd.BE):Cq 160 [.agg (Bd.aQ x)] (eG (dtb x)):=aj []
theorem ajR(x:Tx.MK):Cq 165 [.agg (Tx.aQ x)] (eG (dtm x)):=aj []
abbrev CvQ(s F A B I C:Nat):Prop:=(s=3/\F=161/\A=162/\B=246/\I=291/\C=245)\/(s=9/\F=156/\A=157/\B=240/\I=107/\C=239)\/(s=5/\F=159/\A=160/\B=244/\I=290/\C=243)\/(s=11/\F=164/\A=165/\B=251/\I=292/\C=250)
abbrev MZ(A:Nat)(v:List D):List ah:=[.box [bB v],.box [gP A]]
abbrev cfF(B:Nat):AV:=.fn (.func B) [] [.ptr 0 0,.ptr 1 0]
abbrev slF{α:Type}(E:α->List AV)(s:Nat)(l:List α):AV:=.sl s false (l.map E)
def ixF{α}(E:α->List AV)(s A B:Nat)(l:List α)(v:List D)(k:Nat):St:={ aL:=aC 19 [(0,slF E s l),(1,cfF B),(4,int 0),(6,slF E s l),(7,int l.length),(8,int k)],H:=MZ A v }
structure CvW{α:Type}(E:α->List AV)(d:α->D)(s A B I:Nat):Prop where
 cl:∀(x:α)(v:List D),v.length<=1000000000->ak P G B [.agg (E x),.ptr 0 0,.ptr 1 0] (MZ A v) (.ret (Am.bool (!cZ v (d x)))) (MZ A v)
 n:∀(l:List α)(v:List D)(k:Nat)(x:α),l.length<=1000000->(k:Int)<(l.length:Int)->l[k]?=some x->ak P G B [.agg (E x),.ptr 0 0,.ptr 1 0] (MZ A v) (.ret (Am.bool false)) (MZ A v)->∀(ex:bF)(s':St),Rq 2 I 0 (ixF E s A B l v (k+1)) ex s'->Rq 2 I 0 (ixF E s A B l v k) ex s'
 y:∀(l:List α)(v:List D)(k:Nat)(x:α),l.length<=1000000->(k:Int)<(l.length:Int)->l[k]?=some x->ak P G B [.agg (E x),.ptr 0 0,.ptr 1 0] (MZ A v) (.ret (Am.bool true)) (MZ A v)->Rq 2 I 0 (ixF E s A B l v k) bF.ret (St.mk (aC 19 [(4,int ↑k)]) (MZ A v) [])
section
variable {α:Type} {E:α->List AV} {d:α->D} {s F A B I C:Nat} (q:CvQ s F A B I C) (w:CvW E d s A B I)
include q
theorem ajS(l:List α)v(k:Nat)(hk:¬k<(l.length:Int)):Rq 2 I 0 (ixF E s A B l v k) (bF.exit 0) (St.mk (aC 19 []) (MZ A v) []):=by
 rcases q with⟨rfl,rfl,rfl,rfl,rfl,rfl⟩|⟨rfl,rfl,rfl,rfl,rfl,rfl⟩|⟨rfl,rfl,rfl,rfl,rfl,rfl⟩|⟨rfl,rfl,rfl,rfl,rfl,rfl⟩<;>exact aG [kj ((k:Int)<l.length)] (aB 19 []) 2
theorem ifF l(v:List D)i(ex:bF)s'(hL:Rq 2 I 0 (ixF E s A B l v 0) ex s')(h:(ex = .exit 0/\s'={ aL:=aC 19 [],H:=MZ A v }/\i = -1)\/(ex = .ret/\s'={ aL:=aC 19 [(4,int i)],H:=MZ A v })):ak P G I [slF E s l,cfF B] (MZ A v) (aS.ret (int i)) (MZ A v):=by
 rcases h with⟨rfl,rfl,rfl⟩|⟨rfl,rfl⟩<;>rcases q with⟨rfl,rfl,rfl,rfl,rfl,rfl⟩|⟨rfl,rfl,rfl,rfl,rfl,rfl⟩|⟨rfl,rfl,rfl,rfl,rfl,rfl⟩|⟨rfl,rfl,rfl,rfl,rfl,rfl⟩<;>exact aj [kN 7 (show(l.map E).length=l.length from y10 E),kl (rG [(2,2),(5,1),(9,10)]) 2 hL]
theorem coF l(v:List D)i(hI:ak P G I [slF E s l,cfF B] (MZ A v) (.ret (int i)) (MZ A v)):Cq F [slF E s l,bB v,gP A] (Am.bool !decide (i>=0)):=by
 have h:ak P G C [slF E s l,cfF B] (MZ A v) (aS.ret (Am.bool (decide (i>=0)))) (MZ A v):=by
  rcases q with⟨rfl,rfl,rfl,rfl,rfl,rfl⟩|⟨rfl,rfl,rfl,rfl,rfl,rfl⟩|⟨rfl,rfl,rfl,rfl,rfl,rfl⟩|⟨rfl,rfl,rfl,rfl,rfl,rfl⟩<;>exact aj [kc [0,1] hI]
 rcases q with⟨rfl,rfl,rfl,rfl,rfl,rfl⟩|⟨rfl,rfl,rfl,rfl,rfl,rfl⟩|⟨rfl,rfl,rfl,rfl,rfl,rfl⟩|⟨rfl,rfl,rfl,rfl,rfl,rfl⟩<;>exact aj [kc [0,1] h]
include w
theorem ajT(l:List α)v(hl:l.length<=1000000)(hv:v.length<=1000000000):∀n k,l.length-k=n->k<=l.length->∃(i:Int)(ex:bF)(s':St),nE (fun x=>!cZ v (d x)) k (l.drop k)=i/\Rq 2 I 0 (ixF E s A B l v k) ex s'/\((ex = .exit 0/\s'={ aL:=aC 19 [],H:=MZ A v }/\i = -1)\/(ex = .ret/\s'={ aL:=aC 19 [(4,int i)],H:=MZ A v })):=by
 intro n
 induction n with
 |zero =>
  intro k hk LB;rw[y17 zO];exact⟨_,_,_,rfl,ajS q l v k zO,.inl ⟨rfl,rfl,rfl⟩⟩
 |succ n ih =>
  intro k hk LB;have bg:k<l.length:=zO
  have hx:=yA bg;have hc:=w.cl l[k] v hv;rw[y01 bg,nE];cases e:cZ v (d l[k])with
  |false =>
   rw[e]at hc;exact⟨k,_,_,zS,w.y l v k _ hl zO hx hc,.inr ⟨rfl,rfl⟩⟩
  |true =>
   rw[e]at hc;obtain⟨i,ex,s',h1,h2,h3⟩:=ih (k+1) zO zO;exact⟨i,ex,s',h1,w.n l v k _ hl zO hx hc _ _ h2,h3⟩
theorem M4(l:List α)v(hl:l.length<=1000000)(hv:v.length<=1000000000):Cq F [slF E s l,bB v,gP A] (Am.bool (l.all fun x=>cZ v (d x))):=by
 obtain⟨i,ex,s',rfl,h2,h3⟩:=ajT q w l v hl hv _ 0 rfl yN;have h:=coF q l v _ (ifF q l v _ ex s' h2 h3);rw[MX,<- not_all_eq_any_not,Bool.not_not]at h;exact h
end
theorem cwt:CvW ze dtt 3 162 246 291 :=
 ⟨fun x v hv=>aj [kc [] (ajO x),kc [] (bH.jX v (dtt x).1 (dtt x).2 hv)],fun l v k x hl hk hx hC ex s' h=>aJ [ki ((k:Int)<l.length),ke (ze x) (l.map ze) k (bG hx),kc [0,1] hC,kY,kW 18 (k+1) ↑(k+1)] (aB 19 [0,1,4,6,7,8]) 2 h,fun l v k x hl hk hx hC=>aG [ki ((k:Int)<l.length),ke (ze x) (l.map ze) k (bG hx),kc [0,1] hC,kO] (aB 19 [4]) 2⟩
theorem cwc:CvW Sq.aQ dtc 9 157 240 107 :=
 ⟨fun x v hv=>aj [kc [] (ajP x),kc [] (bH.jX v (dtc x).1 (dtc x).2 hv)],fun l v k x hl hk hx hC ex s' h=>aJ [ki ((k:Int)<l.length),ke (Sq.aQ x) (l.map Sq.aQ) k (bG hx),kc [0,1] hC,kY,kW 18 (k+1) ↑(k+1)] (aB 19 [0,1,4,6,7,8]) 2 h,fun l v k x hl hk hx hC=>aG [ki ((k:Int)<l.length),ke (Sq.aQ x) (l.map Sq.aQ) k (bG hx),kc [0,1] hC,kO] (aB 19 [4]) 2⟩
theorem cwb:CvW Bd.aQ dtb 5 160 244 290 :=
 ⟨fun x v hv=>aj [kc [] (ajQ x),kc [] (bH.jX v (dtb x).1 (dtb x).2 hv)],fun l v k x hl hk hx hC ex s' h=>aJ [ki ((k:Int)<l.length),ke (Bd.aQ x) (l.map Bd.aQ) k (bG hx),kc [0,1] hC,kY,kW 18 (k+1) ↑(k+1)] (aB 19 [0,1,4,6,7,8]) 2 h,fun l v k x hl hk hx hC=>aG [ki ((k:Int)<l.length),ke (Bd.aQ x) (l.map Bd.aQ) k (bG hx),kc [0,1] hC,kO] (aB 19 [4]) 2⟩
theorem cwm:CvW Tx.aQ dtm 11 165 251 292 :=
 ⟨fun x v hv=>aj [kc [] (ajR x),kc [] (bH.jX v (dtm x).1 (dtm x).2 hv)],fun l v k x hl hk hx hC ex s' h=>aJ [ki ((k:Int)<l.length),ke (Tx.aQ x) (l.map Tx.aQ) k (bG hx),kc [0,1] hC,kY,kW 18 (k+1) ↑(k+1)] (aB 19 [0,1,4,6,7,8]) 2 h,fun l v k x hl hk hx hC=>aG [ki ((k:Int)<l.length),ke (Tx.aQ x) (l.map Tx.aQ) k (bG hx),kc [0,1] hC,kO] (aB 19 [4]) 2⟩
theorem afy(l:List TL)(v:List D)(hl:l.length<=1000000)(hv:v.length<=1000000000):Cq 161 [mF l,bB v,gP 162] (Am.bool (l.all fun x=>cZ v (dtt x))):=M4 (E:=ze) (d:=dtt) (s:=3) (F:=161) (A:=162) (B:=246) (I:=291) (C:=245) zD cwt l v hl hv
theorem X5(l:List Sq.CE)(v:List D)(hl:l.length<=1000000)(hv:v.length<=1000000000):Cq 156 [Sq.bZ l,bB v,gP 157] (Am.bool (l.all fun x=>cZ v (dtc x))):=M4 (E:=Sq.aQ) (d:=dtc) (s:=9) (F:=156) (A:=157) (B:=240) (I:=107) (C:=239) zD cwc l v hl hv
theorem afx(l:List Bd.BE)(v:List D)(hl:l.length<=1000000)(hv:v.length<=1000000000):Cq 159 [Bd.iK l,bB v,gP 160] (Am.bool (l.all fun x=>cZ v (dtb x))):=M4 (E:=Bd.aQ) (d:=dtb) (s:=5) (F:=159) (A:=160) (B:=244) (I:=290) (C:=243) zD cwb l v hl hv
theorem afz(l:List Tx.MK)(v:List D)(hl:l.length<=1000000)(hv:v.length<=1000000000):Cq 164 [Tx.oI l,bB v,gP 165] (Am.bool (l.all fun x=>cZ v (dtm x))):=M4 (E:=Tx.aQ) (d:=dtm) (s:=11) (F:=164) (A:=165) (B:=251) (I:=292) (C:=250) zD cwm l v hl hv
structure FD where
 pk:Int
 pn:yP
 ce:List Sq.CE
 bi:List Bd.BE
 ta:List TL
 tc:List Sq.CE
 tm:List Tx.MK
 deriving DecidableEq
def jB(f:FD):List AV:=[int f.pk,str f.pn,Sq.bZ f.ce,Bd.iK f.bi,mF f.ta,Sq.bZ f.tc,Tx.oI f.tm]
abbrev pt(k:Int)(n:yP):AV:=.agg [int k,str n]
theorem aiM(f:FD)(v:List D)(e:Int)(b:Bool)(hk:f.pk=1)(hc:f.ce.length<=1000000)(h2:f.bi.length<=1000000)(h3:f.ta.length<=1000000)(h4:f.tc.length<=1000000)(h5:f.tm.length<=1000000)(hS:Cq 155 [Sq.bZ f.ce] (int e))(hC:Cq 156 [Sq.bZ f.ce,bB v,gP 157] (Am.bool b))(r:Bool)(h:(((e=0)->((((b)=true)->((((↑(ByteArray.size f.pn):Int)<=64)->((↑(0+length f.bi+length f.ta+length f.tc+length f.tm):Int)==0)=(r))/\((¬(↑(ByteArray.size f.pn):Int)<=64)->(false)=(r))))/\(((b)=false)->(false)=(r))))/\((¬e=0)->(false)=(r)))):Cq 62 [.agg (jB f),bB v] (Am.bool r):=by
 have bS:(f.pk==1)=true:=(qT zO);by_cases c2:(e=0)
 .have h:=h.1 c2;let l1:List fP:=[kt bS,kc [] hS,kt (nW.2 c2),kc [] hC];rcases y00 ((b))with c3|c3
  .have h:=h.1 c3;by_cases c4:((↑(ByteArray.size f.pn):Int)<=64)
   .have h:=h.1 c4;exact aA (aF.aI h) (l1++[kt c3,kt (qT c4),kv 86 (show Am.aF (int (↑(length (Bd.au f.bi)):Int)) (int ↑(length f.bi))from(aF.of_eq (by simp only[Go.Bd.ay]))),kW 87 ((0:Int)+(↑(length f.bi):Int)) (↑(0+length f.bi):Int),kN 90 (dP f.ta),kW 91 ((↑(0+length f.bi):Int)+(↑(length f.ta):Int)) (↑(0+length f.bi+length f.ta):Int),kv 95 (show Am.aF (int (↑(length (Sq.au f.tc)):Int)) (int ↑(length f.tc))from(aF.of_eq (by simp only[Go.Sq.ay]))),kW 96 ((↑(0+length f.bi+length f.ta):Int)+(↑(length f.tc):Int)) (↑(0+length f.bi+length f.ta+length f.tc):Int),kv 100 (show Am.aF (int (↑(length (Tx.au f.tm)):Int)) (int ↑(length f.tm))from(aF.of_eq (by simp only[Go.Tx.ay]))),kW 101 ((↑(0+length f.bi+length f.ta+length f.tc):Int)+(↑(length f.tm):Int)) (↑(0+length f.bi+length f.ta+length f.tc+length f.tm):Int)])
   .have h:=h.2 c4;exact aA (aF.aI h) (l1++[kt c3,kf (qF c4)])
  .have h:=h.2 c3;exact aA (aF.aI h) (l1++[kf c3,kY])
 .have h:=h.2 c2;exact aA (aF.aI h) [kt bS,kc [] hS,kf (qN.2 c2),kY,kY]
theorem aiN(f:FD)(v:List D)(e:Int)(b:Bool)(hk:f.pk=2)(hc:f.ce.length<=1000000)(h2:f.bi.length<=1000000)(h3:f.ta.length<=1000000)(h4:f.tc.length<=1000000)(h5:f.tm.length<=1000000)(hS:Cq 158 [Bd.iK f.bi] (int e))(hC:Cq 159 [Bd.iK f.bi,bB v,gP 160] (Am.bool b))(r:Bool)(h:(((e=0)->((((b)=true)->((((↑(ByteArray.size f.pn):Int)<=64)->((↑(length f.ce+0+length f.ta+length f.tc+length f.tm):Int)==0)=(r))/\((¬(↑(ByteArray.size f.pn):Int)<=64)->(false)=(r))))/\(((b)=false)->(false)=(r))))/\((¬e=0)->(false)=(r)))):Cq 62 [.agg (jB f),bB v] (Am.bool r):=by
 let l1:List fP:=[kf (show(f.pk==1)=false from(qF zO)),kt (show(f.pk==2)=true from(qT zO)),kc [] hS];by_cases c3:(e=0)
 .have h:=h.1 c3;rcases y00 ((b))with c4|c4
  .have h:=h.1 c4;by_cases c5:((↑(ByteArray.size f.pn):Int)<=64)
   .have h:=h.1 c5;exact aA (aF.aI h) (l1++[kt (nW.2 c3),kc [] hC,kt c4,kt (qT c5),kv 83 (show Am.aF (int (↑(length (Sq.au f.ce)):Int)) (int ↑(length f.ce))from(aF.of_eq (by simp only[Go.Sq.ay]))),kW 87 ((↑(length f.ce):Int)+(0:Int)) (↑(length f.ce+0):Int),kN 90 (dP f.ta),kW 91 ((↑(length f.ce+0):Int)+(↑(length f.ta):Int)) (↑(length f.ce+0+length f.ta):Int),kv 95 (show Am.aF (int (↑(length (Sq.au f.tc)):Int)) (int ↑(length f.tc))from(aF.of_eq (by simp only[Go.Sq.ay]))),kW 96 ((↑(length f.ce+0+length f.ta):Int)+(↑(length f.tc):Int)) (↑(length f.ce+0+length f.ta+length f.tc):Int),kv 100 (show Am.aF (int (↑(length (Tx.au f.tm)):Int)) (int ↑(length f.tm))from(aF.of_eq (by simp only[Go.Tx.ay]))),kW 101 ((↑(length f.ce+0+length f.ta+length f.tc):Int)+(↑(length f.tm):Int)) (↑(length f.ce+0+length f.ta+length f.tc+length f.tm):Int)])
   .have h:=h.2 c5;exact aA (aF.aI h) (l1++[kt (nW.2 c3),kc [] hC,kt c4,kf (qF c5)])
  .have h:=h.2 c4;exact aA (aF.aI h) (l1++[kt (nW.2 c3),kc [] hC,kf c4,kY])
 .have h:=h.2 c3;exact aA (aF.aI h) (l1++[kf (qN.2 c3),kY,kY])
theorem aiO(f:FD)(v:List D)(e:Int)(b:Bool)(hk:f.pk=3)(hc:f.ce.length<=1000000)(h2:f.bi.length<=1000000)(h3:f.ta.length<=1000000)(h4:f.tc.length<=1000000)(h5:f.tm.length<=1000000)(hS:Cq 102 [mF f.ta] (int e))(hC:Cq 161 [mF f.ta,bB v,gP 162] (Am.bool b))(r:Bool)(h:(((e=0)->((((b)=true)->((((↑(ByteArray.size f.pn):Int)<=64)->((↑(length f.ce+length f.bi+0+length f.tc+length f.tm):Int)==0)=(r))/\((¬(↑(ByteArray.size f.pn):Int)<=64)->(false)=(r))))/\(((b)=false)->(false)=(r))))/\((¬e=0)->(false)=(r)))):Cq 62 [.agg (jB f),bB v] (Am.bool r):=by
 let l1:List fP:=[kf (show(f.pk==1)=false from(qF zO)),kf (show(f.pk==2)=false from(qF zO)),kt (show(f.pk==3)=true from(qT zO)),kc [] hS];by_cases c4:(e=0)
 .have h:=h.1 c4;rcases y00 ((b))with c5|c5
  .have h:=h.1 c5;by_cases c6:((↑(ByteArray.size f.pn):Int)<=64)
   .have h:=h.1 c6;exact aA (aF.aI h) (l1++[kt (nW.2 c4),kc [] hC,kt c5,kt (qT c6),kv 83 (show Am.aF (int (↑(length (Sq.au f.ce)):Int)) (int ↑(length f.ce))from(aF.of_eq (by simp only[Go.Sq.ay]))),kv 86 (show Am.aF (int (↑(length (Bd.au f.bi)):Int)) (int ↑(length f.bi))from(aF.of_eq (by simp only[Go.Bd.ay]))),kW 87 ((↑(length f.ce):Int)+(↑(length f.bi):Int)) (↑(length f.ce+length f.bi):Int),kW 91 ((↑(length f.ce+length f.bi):Int)+(0:Int)) (↑(length f.ce+length f.bi+0):Int),kv 95 (show Am.aF (int (↑(length (Sq.au f.tc)):Int)) (int ↑(length f.tc))from(aF.of_eq (by simp only[Go.Sq.ay]))),kW 96 ((↑(length f.ce+length f.bi+0):Int)+(↑(length f.tc):Int)) (↑(length f.ce+length f.bi+0+length f.tc):Int),kv 100 (show Am.aF (int (↑(length (Tx.au f.tm)):Int)) (int ↑(length f.tm))from(aF.of_eq (by simp only[Go.Tx.ay]))),kW 101 ((↑(length f.ce+length f.bi+0+length f.tc):Int)+(↑(length f.tm):Int)) (↑(length f.ce+length f.bi+0+length f.tc+length f.tm):Int)])
   .have h:=h.2 c6;exact aA (aF.aI h) (l1++[kt (nW.2 c4),kc [] hC,kt c5,kf (qF c6)])
  .have h:=h.2 c5;exact aA (aF.aI h) (l1++[kt (nW.2 c4),kc [] hC,kf c5,kY])
 .have h:=h.2 c4;exact aA (aF.aI h) (l1++[kf (qN.2 c4),kY,kY])
theorem aiP(f:FD)(v:List D)(e:Int)(b c:Bool)(hk:f.pk=4)(hc:f.ce.length<=1000000)(h2:f.bi.length<=1000000)(h3:f.ta.length<=1000000)(h4:f.tc.length<=1000000)(h5:f.tm.length<=1000000)(hS:Cq 163 [.agg [Sq.bZ f.tc,Tx.oI f.tm]] (int e))(hC:Cq 156 [Sq.bZ f.tc,bB v,gP 157] (Am.bool b))(hM:Cq 164 [Tx.oI f.tm,bB v,gP 165] (Am.bool c))(r:Bool)(h:(((e=0)->((((b)=true)->((((c)=true)->((((↑(ByteArray.size f.pn):Int)<=64)->((↑(length f.ce+length f.bi+length f.ta+0+0):Int)==0)=(r))/\((¬(↑(ByteArray.size f.pn):Int)<=64)->(false)=(r))))/\(((c)=false)->(false)=(r))))/\(((b)=false)->(false)=(r))))/\((¬e=0)->(false)=(r)))):Cq 62 [.agg (jB f),bB v] (Am.bool r):=by
 let l1:List fP:=[kf (show(f.pk==1)=false from(qF zO)),kf (show(f.pk==2)=false from(qF zO)),kf (show(f.pk==3)=false from(qF zO)),kt (show(f.pk==4)=true from(qT zO)),kc [] hS];by_cases c5:(e=0)
 .have h:=h.1 c5;let l2:List fP:=l1++[kt (nW.2 c5),kc [] hC];rcases y00 ((b))with c6|c6
  .have h:=h.1 c6;rcases y00 ((c))with c7|c7
   .have h:=h.1 c7;by_cases c8:((↑(ByteArray.size f.pn):Int)<=64)
    .have h:=h.1 c8;exact aA (aF.aI h) (l2++[kt c6,kc [] hM,kt c7,kt (qT c8),kv 83 (show Am.aF (int (↑(length (Sq.au f.ce)):Int)) (int ↑(length f.ce))from(aF.of_eq (by simp only[Go.Sq.ay]))),kv 86 (show Am.aF (int (↑(length (Bd.au f.bi)):Int)) (int ↑(length f.bi))from(aF.of_eq (by simp only[Go.Bd.ay]))),kW 87 ((↑(length f.ce):Int)+(↑(length f.bi):Int)) (↑(length f.ce+length f.bi):Int),kN 90 (dP f.ta),kW 91 ((↑(length f.ce+length f.bi):Int)+(↑(length f.ta):Int)) (↑(length f.ce+length f.bi+length f.ta):Int),kW 96 ((↑(length f.ce+length f.bi+length f.ta):Int)+(0:Int)) (↑(length f.ce+length f.bi+length f.ta+0):Int),kW 101 ((↑(length f.ce+length f.bi+length f.ta+0):Int)+(0:Int)) (↑(length f.ce+length f.bi+length f.ta+0+0):Int)])
    .have h:=h.2 c8;exact aA (aF.aI h) (l2++[kt c6,kc [] hM,kt c7,kf (qF c8)])
   .have h:=h.2 c7;exact aA (aF.aI h) (l2++[kt c6,kc [] hM,kf c7,kY])
  .have h:=h.2 c6;exact aA (aF.aI h) (l2++[kf c6,kY,kY])
 .have h:=h.2 c5;exact aA (aF.aI h) (l1++[kf (qN.2 c5),kY,kY,kY])
theorem aiQ(f:FD)(v:List D)(k1:¬f.pk=1)(k2:¬f.pk=2)(k3:¬f.pk=3)(k4:¬f.pk=4)(hc:f.ce.length<=1000000)(h2:f.bi.length<=1000000)(h3:f.ta.length<=1000000)(h4:f.tc.length<=1000000)(h5:f.tm.length<=1000000)(h:True):Cq 62 [.agg (jB f),bB v] (Am.bool false):=by
 exact aj [kf (show(f.pk==1)=false from(qF zO)),kf (show(f.pk==2)=false from(qF zO)),kf (show(f.pk==3)=false from(qF zO)),kf (qF zO),kY,kY]
structure DO where
 sn:List D
 fs:List FD
 deriving DecidableEq
def dA(l:List FD):List (List AV):=l.map jB
def Md(l:List FD):AV:=.sl 7 false (dA l)
def kI(d:DO):AV:=.agg [bB d.sn,Md d.fs]
theorem fE l:(dA l).length=l.length:=by simp[dA]
theorem amM(d:DO)(hV:Cq 61 [bB d.sn] (int 120))(h:True):Cq 17 [kI d] (int 180):=by
 exact aj [kc [] hV,kO]
def dkS(d:DO)(k:Nat):St:={ aL:=aC 40 [(1,.ptr 0 0),(2,int 0),(10,Md d.fs),(11,int d.fs.length),(12,int k)],H:=[.box [bB d.sn,Md d.fs]] }
theorem amH(d:DO)(k:Nat)(hk:¬(k:Int)<(d.fs.length:Int))(h:True):Rq 0 17 0 (dkS d k) (bF.exit 0) (sM 40 [(2,int 0)] [.box [bB d.sn,Md d.fs]]):=by
 exact aG [kj ((k:Int)<(↑(length d.fs):Int))] (aB 40 [2]) 1
theorem amI(d:DO)(k:Nat)(f:FD)(hl:d.fs.length<=1000000)(hk:(k:Int)<(d.fs.length:Int))(hx:d.fs[k]?=some f)(hV:Cq 62 [.agg (jB f),bB d.sn] (Am.bool false))(h:True):Rq 0 17 0 (dkS d k) bF.ret (sM 40 [(2,int 180)] [.box [bB d.sn,Md d.fs]]):=by
 exact aG [ki ((k:Int)<(↑(length d.fs):Int)),ke (jB f) (dA d.fs) k (bG hx),kc [] hV,kO,kO] (aB 40 [2]) 1
theorem aiR(d:DO)(f:FD)(hl:d.fs.length<=1000000)(hk:(0:Int)<(d.fs.length:Int))(hx:d.fs[0]?=some f)(hV:Cq 62 [.agg (jB f),bB d.sn] (Am.bool true))(ex:bF)(s':St)(h:Rq 0 17 0 (sM 40 [(1,.ptr 0 0),(2,int 0),(10,.sl 7 false (dA d.fs)),(11,int ↑(length d.fs)),(12,int 1)] [.box [bB d.sn,.sl 7 false (dA d.fs)]]) ex s'):Rq 0 17 0 (dkS d 0) ex s':=by
 exact aJ [ki ((0:Int)<(↑(length d.fs):Int)),ke (jB f) (dA d.fs) (0:Int) (bG hx),kc [] hV,kY,kY,kY] (aB 40 [1,2,10,11,12]) 1 h
theorem aiT(d:DO)(k:Nat)(f g:FD)(c:Int)(hc:¬c>=0)(hl:d.fs.length<=1000000)(hk:((k+1:Nat):Int)<(d.fs.length:Int))(hx:d.fs[k+1]?=some f)(hy:d.fs[k]?=some g)(hV:Cq 62 [.agg (jB f),bB d.sn] (Am.bool true))(hP:∀g':FD,d.fs[k]?=some g'->Cq 45 [pt g'.pk g'.pn,pt f.pk f.pn] (int c))(ex:bF)(s':St)(h:(∃x3:FD,((0:Int)<=(↑(k+1):Int)-1/\d.fs[Int.toNat ((↑(k+1):Int)-1)]?=some x3)/\((d.fs[k]?=some x3)/\Rq 0 17 0 (sM 40 [(1,.ptr 0 0),(2,int 0),(10,.sl 7 false (dA d.fs)),(11,int ↑(length d.fs)),(12,int ↑(k+1+1))] [.box [bB d.sn,.sl 7 false (dA d.fs)]]) ex s'))):Rq 0 17 0 (dkS d (k+1)) ex s':=by
 obtain⟨x3,o4,h⟩:=h;obtain⟨o5,h⟩:=h;exact aJ [ki ((↑(k+1):Int)<(↑(length d.fs):Int)),ke (jB f) (dA d.fs) (↑(k+1):Int) (bG hx),kc [] hV,kY,ki ((↑(k+1):Int)>0),kW 29 ((↑(k+1):Int)-1) ((↑(k+1):Int)-1),ko (bC.elem (jB x3)),kp (show(0:Int)<=(↑(k+1):Int)-1/\(dA d.fs)[Int.toNat ((↑(k+1):Int)-1)]?=some (jB x3)from(qU o4)),kc [] (@hP (x3) o5),kj (c>=0),kW 39 ((↑(k+1):Int)+1) (↑(k+1+1):Int)] (aB 40 [1,2,10,11,12]) 1 h
theorem amJ(d:DO)(k:Nat)(f g:FD)(c:Int)(hc:c>=0)(hl:d.fs.length<=1000000)(hk:((k+1:Nat):Int)<(d.fs.length:Int))(hx:d.fs[k+1]?=some f)(hy:d.fs[k]?=some g)(hV:Cq 62 [.agg (jB f),bB d.sn] (Am.bool true))(hP:∀g':FD,d.fs[k]?=some g'->Cq 45 [pt g'.pk g'.pn,pt f.pk f.pn] (int c))(ex:bF)(s':St)(h:(∃x3:FD,((0:Int)<=(↑(k+1):Int)-1/\d.fs[Int.toNat ((↑(k+1):Int)-1)]?=some x3)/\((d.fs[k]?=some x3)/\(bF.ret=ex)/\(sM 40 [(2,int 180)] [.box [bB d.sn,.sl 7 false (dA d.fs)]]=s')))):Rq 0 17 0 (dkS d (k+1)) ex s':=by
 obtain⟨x3,o4,h⟩:=h;obtain⟨o5,h⟩:=h;obtain⟨eX,eS⟩:=h;exact bN.to ((aG [ki ((↑(k+1):Int)<(↑(length d.fs):Int)),ke (jB f) (dA d.fs) (↑(k+1):Int) (bG hx),kc [] hV,kY,ki ((↑(k+1):Int)>0),kW 29 ((↑(k+1):Int)-1) ((↑(k+1):Int)-1),ko (bC.elem (jB x3)),kp (show(0:Int)<=(↑(k+1):Int)-1/\(dA d.fs)[Int.toNat ((↑(k+1):Int)-1)]?=some (jB x3)from(qU o4)),kc [] (@hP (x3) o5),ki (c>=0)] (aB 40 [2]) 1)) eX (eB.of_eq eS)
theorem amK(d:DO)(hV:Cq 61 [bB d.sn] (int 0))(hL:Rq 0 17 0 (dkS d 0) (.exit 0) { aL:=aC 40 [(2,int 0)],H:=[.box [bB d.sn,Md d.fs]] })(h:True):Cq 17 [kI d] (int 0):=by
 exact aj [kc [] hV,kY,kN 11 (fE d.fs),kl (rG [(0,1),(3,7),(13,27)]) 1 hL]
theorem amL(d:DO)(hV:Cq 61 [bB d.sn] (int 0))(hL:Rq 0 17 0 (dkS d 0) .ret { aL:=aC 40 [(2,int 180)],H:=[.box [bB d.sn,Md d.fs]] })(h:True):Cq 17 [kI d] (int 180):=by
 exact aj [kc [] hV,kY,kN 11 (fE d.fs),kl (rG [(0,1),(3,7),(13,27)]) 1 hL]
end Go.Dc
namespace Go.yU
open Go Go.Am Go.Proofs Go.eY
inductive CV where
 |mk (k n:Int) (s:yP) (l:List CV)
instance:Inhabited CV:=⟨.mk 0 0 .empty []⟩
def CV.k:CV->Int|.mk k _ _ _=>k
def CV.n:CV->Int|.mk _ n _ _=>n
def CV.s:CV->yP|.mk _ _ s _=>s
def CV.l:CV->List CV|.mk _ _ _ l=>l
mutual
def CV.cells:CV->List AV
 |.mk k n s l=>[int k,int n,str s,.sl 4 false (iB l)]
def iB:List CV->List (List AV)
 |[]=>[]
 |v::l=>v.cells::iB l
end
def aQ(v:CV):List AV:=[int v.k,int v.n,str v.s,.sl 4 false (iB v.l)]
theorem aa6 v:v.cells=aQ v:=by cases v;simp[CV.cells,aQ,CV.k,CV.n,CV.s,CV.l]
theorem lC:∀l:List CV,iB l=l.map aQ
 |[]=>by simp[iB]
 |v::l=>by simp[iB,lC l,aa6]
def val(v:CV):AV:=.agg (aQ v)
theorem fA l:(iB l).length=l.length:=by simp[lC]
theorem avw(a b:List CV):iB a++iB b=iB (a++b):=by simp[lC]
theorem WV(v:List CV):∀c∈iB v,c.all AV.fJ=true:=by
 intro c hc;rw[lC]at hc;obtain⟨d,_,rfl⟩:=yG.1 hc;rfl
theorem CF(v:List CV):∀c∈iB v,AV.aM [] c=true:=by
 intro c hc;rw[lC]at hc;obtain⟨d,_,rfl⟩:=yG.1 hc;rfl
theorem aa7 v:List.take v.length (List.drop 0 (iB v))=iB v:=by rw[<- fA v];simp
theorem rC(a b:yP):(ByteArray.toList a==ByteArray.toList b)=decide (a=b):=by
 rw[ByteArray.toList_eq,ByteArray.toList_eq];by_cases h:a=b
 .subst h;simp
 .rw [y16 h];refine beq_eq_false_iff_ne.2 fun e=>h (ByteArray.ext (Array.toList_inj.1 e))
abbrev rR(k n:Int)(s:yP)(l:List CV):AV:=.agg [int k,int n,str s,.sl 4 false (iB l)]
theorem val_mk k n(s:yP)l:val (.mk k n s l)=rR k n s l:=rfl
abbrev u8(c:UInt8):AV:=.lit (.int .u8 c.toNat)
def aa8(c:UInt8):List AV:=[u8 c]
def jl(l:List UInt8):List (List AV):=l.map aa8
def Cy(l:List UInt8):AV:=.sl 1 false (jl l)
theorem eu l:(jl l).length=l.length:=by simp[jl]
theorem iC v:∀c∈jl v,c.all AV.fJ=true:=by
 intro c hc;obtain⟨d,_,rfl⟩:=yG.1 hc;rfl
theorem dw v:∀c∈jl v,AV.aM [] c=true:=by
 intro c hc;obtain⟨d,_,rfl⟩:=yG.1 hc;rfl
abbrev u64(n:Nat):AV:=.lit (.int .u64 n)
def dH(l:List UInt8):List ah:=[.box [Cy l]]
def aO:AV:=.qX 36 (int 10)
end Go.yU
namespace Go.bV
open Go Go.Am Go.Proofs Go.eY Go.bH Go.yU
structure OP where
 dv:Int
 sq:Int
 tm:Int
 cx:List D
 pk:Int
 pn:yP
 kd:Int
 f1:Int
 f2:Int
 f3:Int
 t1:Int
 t2:Int
 t3:Int
 ky:yP
 vl:yP
 n:Int
 on:Bool
 deriving DecidableEq
def jy(o:OP):List AV:=[int o.dv,int o.sq,int o.tm,bB o.cx,int o.pk,str o.pn,int o.kd,int o.f1,int o.f2,int o.f3,int o.t1,int o.t2,int o.t3,str o.ky,str o.vl,int o.n,bool o.on]
def op(o:OP):AV:=.agg (jy o)
def Ki(o:OP)(k:Int):AV:=.agg [int o.dv,int o.sq,int o.tm,bB o.cx,int o.pk,str o.pn,int k,int o.f1,int o.f2,int o.f3,int o.t1,int o.t2,int o.t3,str o.ky,str o.vl,int o.n,bool o.on]
theorem ag3(o:OP)k(h:o.kd=k):Ki o k=op o:=by subst h;rfl
abbrev oO(a b c:Int):AV:=.agg [int a,int b,int c]
def JM(a b c:Int):Bool:=decide (a>=0)&&decide (a<512)&&decide (b>=1)&&decide (b<=1048576)&&decide (c>=0)&&decide (c<=63)
def iD(o:OP)(a b c:Int):Bool:=JM a b c&&(cZ o.cx (a,b)||(decide (a=o.dv)&&decide (b<o.sq)))
theorem adS(o:OP)(a b c:Int)(hc:o.cx.length<=1000000000)(h:(((a<0)->(false)=(iD o a b c))/\((¬a<0)->(((a>=512)->(false)=(iD o a b c))/\((¬a>=512)->(((b<1)->(false)=(iD o a b c))/\((¬b<1)->(((b>1048576)->(false)=(iD o a b c))/\((¬b>1048576)->(((c<0)->(false)=(iD o a b c))/\((¬c<0)->(((c>63)->(false)=(iD o a b c))/\((¬c>63)->((((cZ o.cx (a,b))=true)->(true)=(iD o a b c))/\(((cZ o.cx (a,b))=false)->(((a=o.dv)->(decide (b<o.sq))=(iD o a b c))/\((¬a=o.dv)->(false)=(iD o a b c)))))))))))))))))):Cq 403 [op o,oO a b c] (Am.bool (iD o a b c)):=by
 by_cases c1:(a<0)
 .have h:=h.1 c1;exact aA (aF.aI h) [kt (qT c1),kO,kO,kO,kO,kO]
 .have h:=h.2 c1;let l1:List fP:=[kf (qF c1)];by_cases c2:(a>=512)
  .have h:=h.1 c2;exact aA (aF.aI h) (l1++[kt (qT c2),kO,kO,kO,kO])
  .have h:=h.2 c2;let l2:List fP:=l1++[kf (qF c2)];by_cases c3:(b<1)
   .have h:=h.1 c3;exact aA (aF.aI h) (l2++[kt (qT c3),kO,kO,kO])
   .have h:=h.2 c3;let l3:List fP:=l2++[kf (qF c3)];by_cases c4:(b>1048576)
    .have h:=h.1 c4;exact aA (aF.aI h) (l3++[kt (qT c4),kO,kO])
    .have h:=h.2 c4;let l4:List fP:=l3++[kf (qF c4)];by_cases c5:(c<0)
     .have h:=h.1 c5;exact aA (aF.aI h) (l4++[kt (qT c5),kO])
     .have h:=h.2 c5;let l5:List fP:=l4++[kf (qF c5)];by_cases c6:(c>63)
      .have h:=h.1 c6;exact aA (aF.aI h) (l5++[kt (qT c6)])
      .have h:=h.2 c6;have bS:=(@Go.bH.jX o.cx (a) (b) zO);let l6:List fP:=l5++[kf (qF c6),kc [] bS];rcases y00 ((cZ o.cx (a,b)))with c7|c7
       .have h:=h.1 c7;exact aA (aF.aI h) (l6++[kt c7])
       .have h:=h.2 c7;by_cases c8:(a=o.dv)
        .have h:=h.1 c8;exact aA (aF.aI h) (l6++[kf c7,kt (nW.2 c8)])
        .have h:=h.2 c8;exact aA (aF.aI h) (l6++[kf c7,kf (qN.2 c8)])
theorem Er(o:OP)(a b c:Int)(hc:o.cx.length<=1000000000):Cq 403 [op o,oO a b c] (bool (iD o a b c)):=adS o a b c hc (by
 unfold iD JM
 repeat' (first|refine And.intro ?_ ?_|intro _)
 all_goals grind)
def mh(o:OP):Bool:=(decide (o.f1=0)&&decide (o.f2=0)&&decide (o.f3=0))||iD o o.f1 o.f2 o.f3
theorem aa9(o:OP)(hc:o.cx.length<=1000000000)(h:((((o.f1==0&&(o.f2==0&&o.f3==0))=true)->(true)=(mh o))/\(((o.f1==0&&(o.f2==0&&o.f3==0))=false)->(iD o o.f1 o.f2 o.f3)=(mh o)))):Cq 401 [op o] (Am.bool (mh o)):=by
 rcases y00 ((o.f1==0&&(o.f2==0&&o.f3==0)))with c1|c1
 .have h:=h.1 c1;exact aA (aF.aI h) [kt c1]
 .have h:=h.2 c1;exact aA (aF.aI h) [kf c1,kc [] (@Er (o) o.f1 o.f2 o.f3 zO)]
theorem Qp(o:OP)(hc:o.cx.length<=1000000000):Cq 401 [op o] (bool (mh o)):=aa9 o hc (by
 unfold mh;grind)
def dO(o:OP):Int->Bool
 |1=>mh o&&decide ((o.vl.size:Int)<=4096)
 |2=>iD o o.f1 o.f2 o.f3
 |3=>decide ((o.ky.size:Int)<=64)&&decide ((o.vl.size:Int)<=4096)
 |4=>decide ((o.ky.size:Int)<=64)
 |5=>decide (o.n>=-1125899906842624)&&decide (o.n<=1125899906842624)
 |6=>mh o&&decide ((o.vl.size:Int)>=1)&&decide ((o.vl.size:Int)<=64)
 |7=>iD o o.f1 o.f2 o.f3&&decide (o.n>=1)&&decide (o.n<=64-o.f3)
 |8=>iD o o.f1 o.f2 o.f3&&iD o o.t1 o.t2 o.t3&&decide (o.n>=0)&&decide (o.n<=15)
 |_=>false
theorem ap0(o:OP)(hc:o.cx.length<=1000000000)(h:((((mh o)=true)->(decide ((↑(ByteArray.size o.vl):Int)<=4096))=(dO o 1))/\(((mh o)=false)->(false)=(dO o 1)))):Cq 400 [op o] (Am.bool (dO o 1)):=by
 have bS:=(@Qp (o) zO);rcases y00 ((mh o))with c1|c1
 .have h:=h.1 c1;exact aA (aF.aI h) [kc [] bS,kt c1]
 .have h:=h.2 c1;exact aA (aF.aI h) [kc [] bS,kf c1]
theorem ap1(o:OP)(hc:o.cx.length<=1000000000)(h:True):Cq 402 [op o] (Am.bool (dO o 2)):=by
 exact aj [kc [] (@Er (o) o.f1 o.f2 o.f3 zO)]
theorem aoW(o:OP)(hc:o.cx.length<=1000000000):Cq 400 [op o] (bool (dO o 1)):=ap0 o hc (by simp only[dO];exact⟨fun h=>by simp[h],fun h=>by simp[h]⟩)
theorem aoX(o:OP)(hc:o.cx.length<=1000000000):Cq 402 [op o] (bool (dO o 2)):=ap1 o hc trivial
end Go.bV
namespace Go.Dc
open Go Go.Am Go.Proofs Go.eY Go.bH
theorem anr(a b:Int)(s t:yP)(x y z:Int)(hI:Cq 121 [int a,int b] (int x))(hS:Cq 122 [str s,str t] (int y))(hO:Cq 120 [.sl 1 true [[int x],[int y]]] (int z))(h:True):Cq 45 [pt a s,pt b t] (int z):=by
 have _:=h;exact aj [kc [] hI,kc [] hS,kc [] hO]
theorem Dx l(k:Nat)f:(dA l).set k (jB f)=dA (l.set k f):=by simp[dA]
theorem fK l:∀x∈dA l,AV.aM [] x=true:=by
 intro c hc;obtain⟨d,_,rfl⟩:=yG.1 hc;rfl
theorem ajU(l:List FD)(k g:Nat)(f:FD)(hk:k<l.length)(hx:l[k]?=some f)(x:List Sq.CE)(h:[ah.aN g 7 false (List.set (dA l) k [int f.pk,str f.pn,AV.sl 9 false (Sq.au x),AV.sl 5 false (Bd.au f.bi),AV.sl 3 false (lH f.ta),AV.sl 9 false (Sq.au f.tc),AV.sl 11 false (Tx.au f.tm)])]=[ah.aN g 7 false (dA (List.set l k (FD.mk f.pk f.pn x f.bi f.ta f.tc f.tm)))]):ak P G 356 [.jC 0 g k 2,Sq.bZ x,int 0] [ah.aN g 7 false (dA l)] (aS.ret (int 0)) [ah.aN g 7 false (dA (List.set l k (FD.mk f.pk f.pn x f.bi f.ta f.tc f.tm)))]:=by
 have bS:g=g:=(rfl);have eH:=h;exact ak.heap ((aj [kO,ko (bC.elem (jB f)),kp bS,kp bS,kp (show(dA l)[k]?=some (jB f)from(iN hx))])) eH
theorem ajV(l:List FD)(k g:Nat)(f:FD)(hk:k<l.length)(hx:l[k]?=some f)(x:List Sq.CE)(e:Int)(he:¬e=0)(h:True):ak P G 356 [.jC 0 g k 2,Sq.bZ x,int e] [ah.aN g 7 false (dA l)] (aS.ret (int e)) [ah.aN g 7 false (dA l)]:=by
 exact aj [kf (qF zO)]
theorem aei(l:List FD)(k g:Nat)(f:FD)(hk:k<l.length)(hx:l[k]?=some f)(x:List Sq.CE)(e:Int):ak P G 356 [.jC 0 g k 2,Sq.bZ x,int e] [.aN g 7 false (dA l)] (.ret (int e)) [.aN g 7 false (dA (if e=0 then l.set k { f with ce:=x }else l))]:=by
 by_cases he:e=0
 .subst he;rw[yL rfl];exact ajU l k g f hk hx x (by rw[<- Dx];rfl)
 .rw [yK he];exact ajV l k g f hk hx x e he trivial
theorem aj3(l:List FD)(k g:Nat)(f:FD)(hk:k<l.length)(hx:l[k]?=some f)(o:bV.OP)(x:List Sq.CE)(e:Int)(l2:List FD)(hF:Cq 355 [Sq.bZ f.ce,.agg [int o.dv,int o.sq,int 0,int o.f1,int o.f2,int o.f3,int o.tm,str o.vl,Am.bool false]] (.bq [Sq.bZ x,int e]))(hS:ak P G 356 [.jC 0 g k 2,Sq.bZ x,int e] [.aN g 7 false (dA l)] (.ret (int e)) [.aN g 7 false (dA l2)])(h:True):ak P G 354 [.jC 0 g k 0,bV.op o] [ah.aN g 7 false (dA l)] (aS.ret (int e)) [ah.aN g 7 false (dA l2)]:=by
 have bS:g=g:=(rfl);have Av:∀(x:List AV),x∈dA l2->AV.aM [] x=true:=(fK _);exact aj [ko (bC.elem (jB f)),kp bS,kp bS,kp bS,kp (show(dA l)[k]?=some (jB f)from(iN hx)),kc [] hF,kp bS,kp bS,kc [0] hS,kp Av,kp (fK l),kp Av]
theorem aiV(l:List FD)(k g:Nat)(f:FD)(hk:k<l.length)(hx:l[k]?=some f)(o:bV.OP)(x:List Sq.CE)(e:Int)(hF:Cq 355 [Sq.bZ f.ce,.agg [int o.dv,int o.sq,int 0,int o.f1,int o.f2,int o.f3,int o.tm,str o.vl,Am.bool false]] (.bq [Sq.bZ x,int e])):ak P G 354 [.jC 0 g k 0,bV.op o] [.aN g 7 false (dA l)] (.ret (int e)) [.aN g 7 false (dA (if e=0 then l.set k { f with ce:=x }else l))] :=
 aj3 l k g f hk hx o x e _ hF (aei l k g f hk hx x e) trivial
theorem aj4(l:List FD)(k g:Nat)(f:FD)(hk:k<l.length)(hx:l[k]?=some f)(o:bV.OP)(x:List Sq.CE)(e:Int)(l2:List FD)(hF:Cq 358 [Sq.bZ f.ce,.agg [int o.f1,int o.f2,int o.f3]] (.bq [Sq.bZ x,int e]))(hS:ak P G 356 [.jC 0 g k 2,Sq.bZ x,int e] [.aN g 7 false (dA l)] (.ret (int e)) [.aN g 7 false (dA l2)])(h:True):ak P G 357 [.jC 0 g k 0,bV.op o] [ah.aN g 7 false (dA l)] (aS.ret (int e)) [ah.aN g 7 false (dA l2)]:=by
 have bS:g=g:=(rfl);have Av:∀(x:List AV),x∈dA l2->AV.aM [] x=true:=(fK _);exact aj [ko (bC.elem (jB f)),kp bS,kp bS,kp bS,kp (show(dA l)[k]?=some (jB f)from(iN hx)),kc [] hF,kp bS,kp bS,kc [0] hS,kp Av,kp (fK l),kp Av]
theorem aiX(l:List FD)(k g:Nat)(f:FD)(hk:k<l.length)(hx:l[k]?=some f)(o:bV.OP)(x:List Sq.CE)(e:Int)(hF:Cq 358 [Sq.bZ f.ce,.agg [int o.f1,int o.f2,int o.f3]] (.bq [Sq.bZ x,int e])):ak P G 357 [.jC 0 g k 0,bV.op o] [.aN g 7 false (dA l)] (.ret (int e)) [.aN g 7 false (dA (if e=0 then l.set k { f with ce:=x }else l))] :=
 aj4 l k g f hk hx o x e _ hF (aei l k g f hk hx x e) trivial
theorem Pg l:∀c∈dA l,c.all AV.fJ=true:=by
 intro c hc;obtain⟨d,_,rfl⟩:=yG.1 hc;rfl
theorem Ze l(f:FD):dA l++[jB f]=dA (l++[f]):=by simp[dA]
theorem TW l(f:FD):dA l++[[int f.pk,str f.pn,AV.sl 9 false (Sq.au f.ce),AV.sl 5 false (Bd.au f.bi),AV.sl 3 false (lH f.ta),AV.sl 9 false (Sq.au f.tc),AV.sl 11 false (Tx.au f.tm)]]=dA (l++[f]):=Ze l f
theorem amE(f:FD)(hT:Cq 118 [mF f.ta] (mF f.ta))(hC:Cq 116 [Sq.bZ f.ce] (Sq.bZ f.ce))(hB:Cq 117 [Bd.iK f.bi] (Bd.iK f.bi))(hX:Cq 116 [Sq.bZ f.tc] (Sq.bZ f.tc))(hM:Cq 119 [Tx.oI f.tm] (Tx.oI f.tm))(h:True):Cq 42 [.agg (jB f)] (.agg (jB f)):=by
 exact aj [kc [] hC,kc [] hB,kc [] hT,kc [] hX,kc [] hM]
def Xj(d:DO)(o:bV.OP)(v:List D)(k:Nat)(X:AV)(H:List ah):St:={ aL:=aC 109 [(2,.ptr 0 0),(3,.ptr 1 0),(4,.ptr 2 0),(5,int 0),(64,Md d.fs),(65,int d.fs.length),(66,int k)],H:=.box [bB d.sn,Md d.fs] :: .box (bV.jy o) :: .box [bB v,X]::H }
def apX(d:DO)(o:bV.OP)(v:List D)(X:AV)(H:List ah):St:={ aL:=aC 109 [(2,.ptr 0 0),(3,.ptr 1 0),(4,.ptr 2 0),(5,int 0)],H:=.box [bB d.sn,Md d.fs] :: .box (bV.jy o) :: .box [bB v,X]::H }
theorem ant(d:DO)(o:bV.OP)(v:List D)(f:FD)(hl:d.fs.length<=1000000)(hk:(0:Int)<(d.fs.length:Int))(hx:d.fs[0]?=some f)(hC:Cq 42 [.agg (jB f)] (.agg (jB f)))(ex:bF)(s':St)(h:Rq 0 12 0 (sM 109 [(2,.ptr 0 0),(3,.ptr 1 0),(4,.ptr 2 0),(5,int 0),(64,.sl 7 false (dA d.fs)),(65,int ↑(length d.fs)),(66,int 1)] [.box [bB d.sn,.sl 7 false (dA d.fs)],.box (bV.jy o),.box [bB v,.aU 4 0 0 1],.box [int f.pk,str f.pn,.sl 9 false (Sq.au f.ce),.sl 5 false (Bd.au f.bi),.sl 3 false (lH f.ta),.sl 9 false (Sq.au f.tc),.sl 11 false (Tx.au f.tm)],.aN 0 7 false [[int f.pk,str f.pn,.sl 9 false (Sq.au f.ce),.sl 5 false (Bd.au f.bi),.sl 3 false (lH f.ta),.sl 9 false (Sq.au f.tc),.sl 11 false (Tx.au f.tm)]]]) ex s'):Rq 0 12 0 (Xj d o v 0 aK []) ex s':=by
 exact aJ [ki ((0:Int)<(↑(length d.fs):Int)),ke (jB f) (dA d.fs) (0:Int) (bG hx),kc [] hC,Qx [int f.pk,str f.pn,AV.sl 9 false (Sq.au f.ce),AV.sl 5 false (Bd.au f.bi),AV.sl 3 false (lH f.ta),AV.sl 9 false (Sq.au f.tc),AV.sl 11 false (Tx.au f.tm)],vV 144] (aB 109 [2,3,4,5,64,65,66]) 5 h
theorem anu(d:DO)(o:bV.OP)(v:List D)(f:FD)(l:List FD)(k g:Nat)(LB:l.length=k)(hll:l.length<=1000000)(hl:d.fs.length<=1000000)(hk:(k:Int)<(d.fs.length:Int))(hx:d.fs[k]?=some f)(hC:Cq 42 [.agg (jB f)] (.agg (jB f)))(ex:bF)(s':St)(h:Rq 0 12 0 (sM 109 [(2,.ptr 0 0),(3,.ptr 1 0),(4,.ptr 2 0),(5,int 0),(64,.sl 7 false (dA d.fs)),(65,int ↑(length d.fs)),(66,int ↑(k+1))] [.box [bB d.sn,.sl 7 false (dA d.fs)],.box (bV.jy o),.box [bB v,.aU 4 (g+1) 0 (length l+1)],.aH,.aN (g+1) 7 false (dA l++[[int f.pk,str f.pn,.sl 9 false (Sq.au f.ce),.sl 5 false (Bd.au f.bi),.sl 3 false (lH f.ta),.sl 9 false (Sq.au f.tc),.sl 11 false (Tx.au f.tm)]])]) ex s'):Rq 0 12 0 (Xj d o v k (AV.aU 4 g 0 l.length) [ah.aH,ah.aN g 7 false (dA l)]) ex s':=by
 exact aJ [ki ((k:Int)<(↑(length d.fs):Int)),ke (jB f) (dA d.fs) k (bG hx),kc [] hC,kq g,kp (fE l).symm,vV ((length l+1)*144),kW 77 (k+1) ↑(k+1),kp (show ∀(x:List AV),x∈dA l++[[int f.pk,str f.pn,AV.sl 9 false (Sq.au f.ce),AV.sl 5 false (Bd.au f.bi),AV.sl 3 false (lH f.ta),AV.sl 9 false (Sq.au f.tc),AV.sl 11 false (Tx.au f.tm)]]->AV.aM [] x=true from(by exact(Am.dx (fK _) (Am.dM rfl Am.eU))))] (aB 109 [2,3,4,5,64,65,66]) 5 h
theorem akc(d:DO)(o:bV.OP)(v:List D)(k:Nat)(hk:¬(k:Int)<(d.fs.length:Int))(h:True):Rq 0 12 0 (Xj d o v k aK []) (bF.exit 0) (apX d o v aK []):=by
 exact aG [kj ((k:Int)<(↑(length d.fs):Int))] (aB 109 [2,3,4,5]) 3
theorem akd(d:DO)(o:bV.OP)(v:List D)(k g:Nat)(l:List FD)(hk:¬(k:Int)<(d.fs.length:Int))(h:True):Rq 0 12 0 (Xj d o v k (AV.aU 4 g 0 l.length) [ah.aH,ah.aN g 7 false (dA l)]) (bF.exit 0) (apX d o v (AV.aU 4 g 0 l.length) [ah.aH,ah.aN g 7 false (dA l)]):=by
 exact aG [kj ((k:Int)<(↑(length d.fs):Int))] (aB 109 [2,3,4,5]) 5
abbrev Ph:AV:=gP 44
abbrev zP(a:Int)(s:yP):ah:=.box [int a,str s]
def U8(i j:Nat):Int:=IntKind.wrap IntKind.i64 (Int.fdiv (↑(i+j):Int) (2^min (Int.toNat 1) (IntKind.bits IntKind.u64)))
theorem Ye{i j}(h:i+j<=1000000000000):U8 i j=((i+j)/2:Nat):=by
 have e:(2^min (Int.toNat 1) (IntKind.bits IntKind.u64):Int)=2:=zD
 unfold U8;rw[e,IntKind.wrap_i64,Int.fdiv_eq_ediv_of_nonneg _ zO];omega
theorem anv(f:FD)(a:Int)(s:yP)(c:Int)(hP:Cq 45 [pt f.pk f.pn,pt a s] (int c))(h:True):Cq 44 [.agg (jB f),pt a s] (int c):=by
 exact aj [kc [] hP]
def fbS(l:List FD)(g:Nat)(a:Int)(s:yP)(i j:Nat):St:={ aL:=aC 49 [(0,.aU 0 g 0 l.length),(2,Ph),(4,.ptr 1 0),(8,int l.length),(9,int i),(10,int j)],H:=[.aN g 7 false (dA l),zP a s] }
def fbX(l:List FD)(g:Nat)(a:Int)(s:yP)(i:Nat):St:={ aL:=aC 49 [(0,.aU 0 g 0 l.length),(2,Ph),(4,.ptr 1 0),(8,int l.length),(9,int i)],H:=[.aN g 7 false (dA l),zP a s] }
theorem anw(l:List FD)(g:Nat)(a:Int)(s:yP)(i j:Nat)(wQ:¬(i:Int)<(j:Int))(h:True):Rq 1 43 0 (fbS l g a s i j) (bF.exit 0) (fbX l g a s i):=by
 exact aG [kj ((i:Int)<j)] (aB 49 [0,2,4,8,9]) 2
theorem anx(l:List FD)(g:Nat)(a:Int)(s:yP)(i j m:Nat)(c:FD->Int)(hj:j<=l.length)(hv:l.length<=1000000000)(hm:U8 i j=(m:Int))(hm':IntKind.wrap IntKind.i64 (Int.fdiv (↑(i+j):Int) (2^min (Int.toNat 1) (IntKind.bits IntKind.u64)))=(m:Int))(bg:m<j)(hC:∀f:FD,Cq 44 [.agg (jB f),pt a s] (int (c f)))(ex:bF)(s':St)(h:((((i:Int)<(j:Int))->(∃x2:FD,(l[0+Int.toNat (U8 i j)]?=some x2)/\(((c x2<0)->Rq 1 43 0 (sM 49 [(0,.aU 0 g 0 l.length),(2,iL 44),(4,.ptr 1 0),(8,int ↑l.length),(9,int (U8 i j+1)),(10,int ↑j)] [.aN g 7 false (dA l),.box [int a,str s]]) ex s')/\((¬c x2<0)->Rq 1 43 0 (sM 49 [(0,.aU 0 g 0 l.length),(2,iL 44),(4,.ptr 1 0),(8,int ↑l.length),(9,int ↑i),(10,int (U8 i j))] [.aN g 7 false (dA l),.box [int a,str s]]) ex s'))))/\((¬(i:Int)<(j:Int))->(bF.exit 0=ex)/\(sM 49 [(0,.aU 0 g 0 l.length),(2,iL 44),(4,.ptr 1 0),(8,int ↑l.length),(9,int ↑i)] [.aN g 7 false (dA l),.box [int a,str s]]=s')))):Rq 1 43 0 (fbS l g a s i j) ex s':=by
 have x9:g=g:=(rfl);by_cases c1:((i:Int)<(j:Int))
 .have h:=h.1 c1;obtain⟨x2,o3,h⟩:=h;have OG:=(@hC (x2));let l1:List fP:=[kt (qT c1),kW 20 ((i:Int)+(j:Int)) (↑(i+j):Int),kv 21 (show Am.aF (AV.lit (Value.int IntKind.u64 (IntKind.wrap IntKind.u64 (↑(i+j):Int)))) (AV.lit (Value.int IntKind.u64 (↑(i+j):Int)))from(aF.zf zO zO rfl)),ko (bC.elem (jB x2)),kp (show(0:Int)<=(1:Int)from zO),kp x9,kp (show(0:Int)<=IntKind.wrap IntKind.i64 (Int.fdiv (↑(i+j):Int) (2^min (Int.toNat 1) (IntKind.bits IntKind.u64)))/\IntKind.wrap IntKind.i64 (Int.fdiv (↑(i+j):Int) (2^min (Int.toNat 1) (IntKind.bits IntKind.u64)))<(l.length:Int)from zO),kp x9,kp (show(dA l)[0+Int.toNat (IntKind.wrap IntKind.i64 (Int.fdiv (↑(i+j):Int) (2^min (Int.toNat 1) (IntKind.bits IntKind.u64))))]?=some (jB x2)from(iN o3)),kc [] OG];by_cases c4:(c x2<0)
  .have h:=h.1 c4;exact aJ (l1++[kt (qT c4),kW 33 (IntKind.wrap IntKind.i64 (Int.fdiv (↑(i+j):Int) (2^min (Int.toNat 1) (IntKind.bits IntKind.u64)))+1) (U8 i j+1)]) (aB 49 [0,2,4,8,9,10]) 2 h
  .have h:=h.2 c4;exact aJ (l1++[kf (qF c4)]) (aB 49 [0,2,4,8,9,10]) 2 h
 .have h:=h.2 c1;obtain⟨eX,eS⟩:=h;exact bN.to ((aG [kf (qF c1)] (aB 49 [0,2,4,8,9]) 2)) eX (eB.of_eq eS)
theorem ake(l:List FD)(g:Nat)(a:Int)(s:yP)(p:Nat)(hp:¬(p:Int)<(l.length:Int))(hv:l.length<=1000000000)(hL:Rq 1 43 0 (fbS l g a s 0 l.length) (.exit 0) (fbX l g a s p))(h:True):ak P G 43 [.aU 0 g 0 l.length,pt a s,Ph] [ah.aN g 7 false (dA l)] (aS.ret (AV.bq [int ↑p,Am.bool false])) [ah.aN g 7 false (dA l)]:=by
 exact aj [kq g,kl (rG [(1,1),(3,1),(5,3),(11,38)]) 2 hL,kj ((p:Int)<l.length),kp (fK l)]
theorem akf(l:List FD)(g:Nat)(a:Int)(s:yP)(p:Nat)(c:FD->Int)(hp:(p:Int)<(l.length:Int))(hv:l.length<=1000000000)(hC:∀f:FD,Cq 44 [.agg (jB f),pt a s] (int (c f)))(hL:Rq 1 43 0 (fbS l g a s 0 l.length) (.exit 0) (fbX l g a s p))(r:Bool)(h:(∃x2:FD,(l[0+p]?=some x2)/\(c x2==0)=(r))):ak P G 43 [.aU 0 g 0 l.length,pt a s,Ph] [ah.aN g 7 false (dA l)] (aS.ret (AV.bq [int ↑p,Am.bool r])) [ah.aN g 7 false (dA l)]:=by
 have bS:g=g:=(rfl);obtain⟨x2,o3,h⟩:=h;have e1:=h;exact ak.out ((show ak P G 43 [.aU 0 g 0 l.length,pt a s,Ph] [ah.aN g 7 false (dA l)] (aS.ret (AV.bq [int ↑p,Am.bool (c x2==0)])) [ah.aN g 7 false (dA l)]from aj [kp bS,kl (rG [(1,1),(3,1),(5,3),(11,38)]) 2 hL,ki ((p:Int)<l.length),ko (bC.elem (jB x2)),kp bS,kR (p:Int) (l.length:Int),kp bS,kp (show(dA l)[0+Int.toNat (p:Int)]?=some (jB x2)from(iN o3)),kc [] (@hC (x2)),kp (fK l)])) (aF.iM ⟨y29,(aF.aI e1),yO⟩)
def rV(c:FD->Int)(l:List FD):Nat:=(l.takeWhile fun f=>decide (c f<0)).length
theorem Rh(c:FD->Int)l:rV c l<=l.length:=(takeWhile_sublist _).length_le
def Rc(c:FD->Int)(l:List FD):Prop:=∀m (h:m<l.length),c l[m]<0↔m<rV c l
theorem acC(l:List FD)(g:Nat)(a:Int)(s:yP)(c:FD->Int)(hv:l.length<=1000000000)(hs:Rc c l)(hC:∀f:FD,Cq 44 [.agg (jB f),pt a s] (int (c f))):∀n i j,j-i<=n->i<=rV c l->rV c l<=j->j<=l.length->Rq 1 43 0 (fbS l g a s i j) (.exit 0) (fbX l g a s (rV c l)):=by
 intro n;have he:∀i j,i<=rV c l->rV c l<=j->¬i<j->Rq 1 43 0 (fbS l g a s i j) (.exit 0) (fbX l g a s (rV c l)):=fun i j h1 h2 wQ=>by
  have:=anw l g a s i j zO trivial;rwa[show i=rV c l by omega]at this |-
 induction n with
 |zero=>intro i j hn h1 h2 h3;exact he i j h1 h2 zO
 |succ n ih =>
  intro i j hn h1 h2 h3;by_cases wQ:i<j
  .have hm:=Ye (i:=i) (j:=j) zO;refine anx l g a s i j ((i+j)/2) c h3 hv hm hm zO hC _ _ ⟨fun _=>?_,fun h=>absurd zO h⟩;have bg:(i+j)/2<l.length:=zO
   refine⟨l[(i+j)/2],?_,fun hq=>?_,fun hq=>?_⟩
   .rw [hm,y26,y09];exact yA bg
   .have:=(hs _ bg).1 hq;have nx:=ih ((i+j)/2+1) j zO zO h2 h3;rw[hm];exact nx
   .have:¬(i+j)/2<rV c l:=fun h=>hq ((hs _ bg).2 h);have nx:=ih i ((i+j)/2) zO h1 zO zO;rw[hm];exact nx
  .exact he i j h1 h2 wQ
theorem wX(l:List FD)(g:Nat)(a:Int)(s:yP)(c:FD->Int)(hv:l.length<=1000000000)(hs:Rc c l)(hC:∀f:FD,Cq 44 [.agg (jB f),pt a s] (int (c f))) :
 ak P G 43 [.aU 0 g 0 l.length,pt a s,Ph] [.aN g 7 false (dA l)] (.ret (.bq [int (rV c l),Am.bool ((l[rV c l]?).any fun f=>c f==0)])) [.aN g 7 false (dA l)]:=by
 have hp:=Rh c l;have hL:=acC l g a s c hv hs hC _ 0 l.length yM zO hp zO;rcases y08 (rV c l) l.length with h|h
 .rw [yA h];exact akf l g a s _ c zO hv hC hL _ ⟨l[rV c l],by rw[y09];exact yA h,rfl⟩
 .rw [getElem?_eq_none h];exact ake l g a s _ zO hv hL trivial
abbrev Xk:AV:=.fn (.func 40) [] [.ptr 0 0]
abbrev dB(d:DO):List ah:=[.box [bB d.sn,Md d.fs]]
theorem anz(x:D)(d:DO)(b:Bool)(hC:Cq 27 [bB d.sn,eG x] (Am.bool b))(h:True):ak P G 40 [eG x,.ptr 0 0] (dB d) (aS.ret (Am.bool !b)) (dB d):=by
 exact aj [kc [] hC]
theorem anA(x:D)(d:DO)(hv:d.sn.length<=1000000000):ak P G 40 [eG x,.ptr 0 0] (dB d) (.ret (Am.bool (!cZ d.sn x))) (dB d):=anz x d _ (bH.jX d.sn _ _ hv) trivial
def iuS(l:List D)(d:DO)(k:Nat):St:={ aL:=aC 19 [(0,bB l),(1,Xk),(4,int 0),(6,bB l),(7,int l.length),(8,int k)],H:=dB d }
theorem anB(l:List D)(d:DO)(k:Nat)(hk:¬(k:Int)<(l.length:Int))(h:True):Rq 1 95 0 (iuS l d k) (bF.exit 0) (St.mk (aC 19 []) (dB d) []):=by
 exact aG [kj ((k:Int)<l.length)] (aB 19 []) 1
theorem akg(l:List D)(d:DO)(k:Nat)(x y:Int)(hl:l.length<=1000000)(hk:(k:Int)<(l.length:Int))(hx:l[k]?=some (x,y))(hC:ak P G 40 [eG (x,y),.ptr 0 0] (dB d) (.ret (Am.bool false)) (dB d))(ex:bF)(s':St)(h:Rq 1 95 0 (sM 19 [(0,bB l),(1,.fn (Fn.func 40) [] [.ptr 0 0]),(4,int 0),(6,bB l),(7,int ↑l.length),(8,int ↑(k+1))] [.box [bB d.sn,.sl 7 false (dA d.fs)]]) ex s'):Rq 1 95 0 (iuS l d k) ex s':=by
 exact aJ [ki ((k:Int)<l.length),ke (aQ (x,y)) (au l) k (bG hx),kc [0] hC,kY,kW 18 (k+1) ↑(k+1)] (aB 19 [0,1,4,6,7,8]) 1 h
theorem anC(l:List D)(d:DO)(k:Nat)(x y:Int)(hl:l.length<=1000000)(hk:(k:Int)<(l.length:Int))(hx:l[k]?=some (x,y))(hC:ak P G 40 [eG (x,y),.ptr 0 0] (dB d) (.ret (Am.bool true)) (dB d))(h:True):Rq 1 95 0 (iuS l d k) bF.ret (St.mk (aC 19 [(4,int ↑k)]) (dB d) []):=by
 exact aG [ki ((k:Int)<l.length),ke (aQ (x,y)) (au l) k (bG hx),kc [0] hC,kO] (aB 19 [4]) 1
theorem akh(l:List D)(d:DO)(hL:Rq 1 95 0 (iuS l d 0) (.exit 0) { aL:=aC 19 [],H:=dB d })(h:True):ak P G 95 [bB l,Xk] (dB d) (aS.ret (int (-1))) (dB d):=by
 exact aj [kN 7 (Go.bH.ay l),kl (rG [(2,2),(5,1),(9,10)]) 1 hL]
theorem aki(l:List D)(d:DO)(k:Nat)(hL:Rq 1 95 0 (iuS l d 0) .ret { aL:=aC 19 [(4,int k)],H:=dB d })(h:True):ak P G 95 [bB l,Xk] (dB d) (aS.ret (int ↑k)) (dB d):=by
 exact aj [kN 7 (Go.bH.ay l),kl (rG [(2,2),(5,1),(9,10)]) 1 hL]
theorem anD(l:List D)(d:DO)(i:Int)(hI:ak P G 95 [bB l,Xk] (dB d) (.ret (int i)) (dB d))(h:True):ak P G 41 [bB l,Xk] (dB d) (aS.ret (Am.bool (decide (i>=0)))) (dB d):=by
 exact aj [kc [0] hI]
theorem anE(l:List D)(d:DO)(hl:l.length<=1000000)(hv:d.sn.length<=1000000000):∀n k,l.length-k=n->k<=l.length->(nE (fun x=>!cZ d.sn x) k (l.drop k) = -1/\Rq 1 95 0 (iuS l d k) (.exit 0) { aL:=aC 19 [],H:=dB d })\/∃j:Nat,nE (fun x=>!cZ d.sn x) k (l.drop k)=(j:Int)/\Rq 1 95 0 (iuS l d k) .ret { aL:=aC 19 [(4,int j)],H:=dB d }:=by
 intro n
 induction n with
 |zero =>
  intro k hk LB;rw[y17 zO];exact .inl ⟨rfl,anB l d k zO yO⟩
 |succ n ih =>
  intro k hk LB;have bg:k<l.length:=zO
  have hx:=yA bg;have hc:=anA l[k] d hv;rw[y01 bg,nE];cases e:cZ d.sn l[k]with
  |false =>
   rw[e]at hc;exact .inr ⟨k,zS,anC l d k _ _ hl zO hx hc yO⟩
  |true =>
   rw[e]at hc;rw[yK zS];rcases ih (k+1) zO zO with⟨h1,h2⟩|⟨j,h1,h2⟩
   .exact .inl ⟨h1,akg l d k _ _ hl zO hx hc _ _ h2⟩
   .exact .inr ⟨j,h1,akg l d k _ _ hl zO hx hc _ _ h2⟩
theorem aee(l:List D)(d:DO)(hl:l.length<=1000000)(hv:d.sn.length<=1000000000):ak P G 41 [bB l,Xk] (dB d) (.ret (Am.bool (l.any fun x=>!cZ d.sn x))) (dB d):=by
 have hi:∃i,i=nE (fun x=>!cZ d.sn x) 0 l/\ak P G 95 [bB l,Xk] (dB d) (.ret (int i)) (dB d):=by
  rcases anE l d hl hv _ 0 rfl yN with⟨h1,h2⟩|⟨j,h1,h2⟩
  .exact ⟨_,h1.symm,akh l d h2 yO⟩
  .exact ⟨_,h1.symm,aki l d j h2 yO⟩
 obtain⟨i,rfl,h⟩:=hi;have h:=anD l d _ h trivial;rw[MX]at h;exact h
end Go.Dc
namespace Go.Dc
open Go Go.Am Go.Proofs Go.eY Go.bH
theorem anI(l:List FD)(g:Nat)(b:FD)(hl:l.length<=1000000)(out:aS)(H':List ah)(h:(aS.ret (AV.aU 0 (g+1) 0 (length (l++[b])))=out)/\([ah.aN (g+1) 7 false (dA (l++[b]))]=H')):ak P G 46 [.aU 0 g 0 l.length,int ↑l.length,.sl 7 false [jB b]] [ah.aN g 7 false (dA l)] out H':=by
 have bS:g=g:=(rfl);obtain⟨e1,eH⟩:=h;exact ak.heap (e1▸((aj [kp bS,Ga (l.length:Int) (l.length:Int) (l.length:Int),kY,kp bS,kt (show((l.length:Int)==(l.length:Int))=true from(qT zO)),ko (bC.hp (some 25) (AV.aU 0 (g+1) 0 (length (l++[b]))) [ah.aN (g+1) 7 false (dA (l++[b]))]),kp (show Am.aF (AV.aU 0 (g+1) 0 (length l+1)) (AV.aU 0 (g+1) 0 (length (l++[b])))from(aF.of_eq (by simp[fE,fK]))),kp (show Am.HSub [ah.aN (g+1) 7 false (dA l++[[int b.pk,str b.pn,AV.sl 9 false (Sq.au b.ce),AV.sl 5 false (Bd.au b.bi),AV.sl 3 false (lH b.ta),AV.sl 9 false (Sq.au b.tc),AV.sl 11 false (Tx.au b.tm)]])] [ah.aN (g+1) 7 false (dA (l++[b]))]from(⟨.inl (by simp only[y26,TW]),yO⟩)),kp bS,kp (fE l).symm,vV ((length l+1)*144)]))) eH
theorem anJ(b:FD)(out:aS)(H':List ah)(h:(aS.ret (AV.aU 0 0 0 1)=out)/\([ah.aN 0 7 false [[int b.pk,str b.pn,AV.sl 9 false (Sq.au b.ce),AV.sl 5 false (Bd.au b.bi),AV.sl 3 false (lH b.ta),AV.sl 9 false (Sq.au b.tc),AV.sl 11 false (Tx.au b.tm)]]]=H')):ak P G 46 [.sl 7 true [],int 0,.sl 7 false [jB b]] [] out H':=by
 obtain⟨e1,eH⟩:=h;exact ak.heap (e1▸((aj [Ga (0:Int) (0:Int) (0:Int),kY,kO,Qx [int b.pk,str b.pn,AV.sl 9 false (Sq.au b.ce),AV.sl 5 false (Bd.au b.bi),AV.sl 3 false (lH b.ta),AV.sl 9 false (Sq.au b.tc),AV.sl 11 false (Tx.au b.tm)],vV 144]))) eH
theorem af8(b:FD):ak P G 46 [.sl 7 true [],int 0,.sl 7 false [jB b]] [] (.ret (.aU 0 0 0 1)) [.aN 0 7 false (dA [b])]:=anJ b _ _ ⟨rfl,rfl⟩
def Fx(o:bV.OP):FD:=⟨o.pk,o.pn,[],[],[],[],[]⟩
theorem Zi o:aF (.sl 7 true [[int o.pk,str o.pn,aK,aK,aK,aK,aK]]) (.sl 7 false [jB (Fx o)]) :=
 aF.anK rfl (fun y hy=>by rw[mem_singleton.1 hy];rfl) fun k j hk hj=>by
  obtain rfl:k=0:=by have:k<1:=hk;omega
  match j,hj with
  |0,_=>exact xP.refl _
  |1,_=>exact xP.refl _
  |2,_=>exact xP.nil 9
  |3,_=>exact xP.nil 5
  |4,_=>exact xP.nil 3
  |5,_=>exact xP.nil 9
  |6,_=>exact xP.nil 11
theorem aga(o:bV.OP):ak P G 46 [aK,int 0,.sl 7 true [[int o.pk,str o.pn,aK,aK,aK,aK,aK]]] [] (.ret (.aU 0 0 0 1)) [.aN 0 7 false (dA [Fx o])] :=
 ak.qp (af8 (Fx o)) ⟨aF.aed 7,y29,Zi o,yO⟩
def zE:AV:=.lit (.agg #[.nilFunc])
abbrev EfF(F:Nat):Prop:=F=354\/F=357\/F=359\/F=363\/F=365\/F=368\/F=371\/F=373
variable {F:Nat}
theorem anL(hq:EfF F)(d:DO)(o:bV.OP)(v:List D)(l l2:List FD)(g i:Nat)(e:Int)(hs:1<=o.sq)(hs2:o.sq<=1048576)(hi:i<l.length)(hl:l.length<=1000000)(hK:Cq 17 [kI d] (int 0))(hO:Cq 25 [bV.op o] (int 0))(hV:Cq 27 [bB d.sn,eG (o.dv,o.sq)] (Am.bool false))(hA:Cq 26 [bB d.sn,int o.dv] (int (o.sq-1)))(hF:ak P G 41 [bB o.cx,Xk] (dB d) (.ret (Am.bool false)) (dB d))(hW:Cq 28 [bB d.sn,eG (o.dv,o.sq)] (.bq [bB v,int 0]))(hL:Rq 0 12 0 (Xj d o v 0 aK []) (.exit 0) (apX d o v (.aU 4 g 0 l.length) [.aH,.aN g 7 false (dA l)]))(hB:ak P G 43 [.aU 0 g 0 l.length,pt o.pk o.pn,Ph] [.aN g 7 false (dA l)] (.ret (.bq [int i,Am.bool true])) [.aN g 7 false (dA l)])(hM:bT P 3 oK (.int .i64 o.kd) zE (.agg [gP F]) true)(hE:ak P G F [.jC 0 g (0+i) 0,bV.op o] [.aN g 7 false (dA l)] (.ret (int e)) [.aN g 7 false (dA l2)])(out:aS)(H':List ah)(h:(aS.ret (AV.bq [AV.agg [bB v,AV.aU 4 g 0 l.length],int 0])=out)/\([ah.box [bB d.sn,AV.sl 7 false (dA d.fs)],ah.box (bV.jy o),ah.box [bB v,AV.aU 4 g 0 l.length],ah.aH,ah.aN g 7 false (dA l2)]=H')):ak P G 12 [kI d,bV.op o] [] out H':=by
 have Bb:∀(x:List AV),x∈dA l->AV.aM [] x=true:=(fK _);obtain⟨e1,eH⟩:=h;let x0:AV:=.agg [gP F];rcases hq with rfl|rfl|rfl|rfl|rfl|rfl|rfl|rfl<;>exact ak.heap (e1▸((aj [kc [] hK,kY,kc [] hO,kY,kc [] hV,kY,kc [] hA,kW 41 (o.sq-1) (o.sq-1),kf (show(o.sq-1 != o.sq-1)=false from(y27 (qT zO))),kc [0] hF,kY,kc [] hW,kY,kN 65 (fE d.fs),kl (rG [(0,2),(6,58),(67,42)]) 3 hL,kc [4] hB,kp Bb,kp Bb,kY,ko (bC.lJ x0 true),kp hM,kq g,kR (i:Int) (l.length:Int),kc [4] hE,kp (fK l2),kp Bb]))) eH
theorem ace(hq:EfF F)(d:DO)(o:bV.OP)(v:List D)(l m l2:List FD)(g i:Nat)(e:Int)(hs:1<=o.sq)(hs2:o.sq<=1048576)(hi:i<m.length)(hl:l.length<=1000000)(hm:m.length<=1000001)(hK:Cq 17 [kI d] (int 0))(hO:Cq 25 [bV.op o] (int 0))(hV:Cq 27 [bB d.sn,eG (o.dv,o.sq)] (Am.bool false))(hA:Cq 26 [bB d.sn,int o.dv] (int (o.sq-1)))(hF:ak P G 41 [bB o.cx,Xk] (dB d) (.ret (Am.bool false)) (dB d))(hW:Cq 28 [bB d.sn,eG (o.dv,o.sq)] (.bq [bB v,int 0]))(hL:Rq 0 12 0 (Xj d o v 0 aK []) (.exit 0) (apX d o v (.aU 4 g 0 l.length) [.aH,.aN g 7 false (dA l)]))(hB:ak P G 43 [.aU 0 g 0 l.length,pt o.pk o.pn,Ph] [.aN g 7 false (dA l)] (.ret (.bq [int i,Am.bool false])) [.aN g 7 false (dA l)])(hI:ak P G 46 [.aU 0 g 0 l.length,int i,.sl 7 true [[int o.pk,str o.pn,aK,aK,aK,aK,aK]]] [.aN g 7 false (dA l)] (.ret (.aU 0 (g+1) 0 m.length)) [.aN (g+1) 7 false (dA m)])(hM:bT P 3 oK (.int .i64 o.kd) zE (.agg [gP F]) true)(hE:ak P G F [.jC 0 (g+1) (0+i) 0,bV.op o] [.aN (g+1) 7 false (dA m)] (.ret (int e)) [.aN (g+1) 7 false (dA l2)])(out:aS)(H':List ah)(h:(aS.ret (AV.bq [AV.agg [bB v,AV.aU 4 (g+1) 0 m.length],int 0])=out)/\([ah.box [bB d.sn,AV.sl 7 false (dA d.fs)],ah.box (bV.jy o),ah.box [bB v,AV.aU 4 (g+1) 0 m.length],ah.aH,ah.aN (g+1) 7 false (dA l2)]=H')):ak P G 12 [kI d,bV.op o] [] out H':=by
 have Bb:∀(x:List AV),x∈dA l->AV.aM [] x=true:=(fK _);have Pk:∀(x:List AV),x∈dA m->AV.aM [] x=true:=(fK _);obtain⟨e1,eH⟩:=h;let x0:AV:=.agg [gP F];rcases hq with rfl|rfl|rfl|rfl|rfl|rfl|rfl|rfl<;>exact ak.heap (e1▸((aj [kc [] hK,kY,kc [] hO,kY,kc [] hV,kY,kc [] hA,kW 41 (o.sq-1) (o.sq-1),kf (show(o.sq-1 != o.sq-1)=false from(y27 (qT zO))),kc [0] hF,kY,kc [] hW,kY,kN 65 (fE d.fs),kl (rG [(0,2),(6,58),(67,42)]) 3 hL,kc [4] hB,kp Bb,kp Bb,kO,kc [4] hI,ko (bC.lJ x0 true),kp Pk,kp Bb,kp hM,kp (show g+1=g+1 from(rfl)),kR (i:Int) (m.length:Int),kc [4] hE,kp (fK l2),kp Pk]))) eH
theorem anM(hq:EfF F)(d:DO)(o:bV.OP)(v:List D)(m l2:List FD)(e:Int)(hs:1<=o.sq)(hs2:o.sq<=1048576)(hm:m.length=1)(hK:Cq 17 [kI d] (int 0))(hO:Cq 25 [bV.op o] (int 0))(hV:Cq 27 [bB d.sn,eG (o.dv,o.sq)] (Am.bool false))(hA:Cq 26 [bB d.sn,int o.dv] (int (o.sq-1)))(hF:ak P G 41 [bB o.cx,Xk] (dB d) (.ret (Am.bool false)) (dB d))(hW:Cq 28 [bB d.sn,eG (o.dv,o.sq)] (.bq [bB v,int 0]))(hL:Rq 0 12 0 (Xj d o v 0 aK []) (.exit 0) (apX d o v aK []))(hB:Cq 43 [aK,pt o.pk o.pn,Ph] (.bq [int 0,Am.bool false]))(hI:ak P G 46 [aK,int 0,.sl 7 true [[int o.pk,str o.pn,aK,aK,aK,aK,aK]]] [] (.ret (.aU 0 0 0 1)) [.aN 0 7 false (dA m)])(hM:bT P 3 oK (.int .i64 o.kd) zE (.agg [gP F]) true)(hE:ak P G F [.jC 0 0 0 0,bV.op o] [.aN 0 7 false (dA m)] (.ret (int e)) [.aN 0 7 false (dA l2)])(out:aS)(H':List ah)(h:(aS.ret (AV.bq [AV.agg [bB v,AV.aU 3 0 0 1],int 0])=out)/\([ah.box [bB d.sn,AV.sl 7 false (dA d.fs)],ah.box (bV.jy o),ah.box [bB v,AV.aU 3 0 0 1],ah.aN 0 7 false (dA l2)]=H')):ak P G 12 [kI d,bV.op o] [] out H':=by
 have M8:∀(x:List AV),x∈dA m->AV.aM [] x=true:=(fK _);obtain⟨e1,eH⟩:=h;let x0:AV:=.agg [gP F];rcases hq with rfl|rfl|rfl|rfl|rfl|rfl|rfl|rfl<;>exact ak.heap (e1▸((aj [kc [] hK,kY,kc [] hO,kY,kc [] hV,kY,kc [] hA,kW 41 (o.sq-1) (o.sq-1),kf (show(o.sq-1 != o.sq-1)=false from(y27 (qT zO))),kc [0] hF,kY,kc [] hW,kY,kN 65 (fE d.fs),kl (rG [(0,2),(6,58),(67,42)]) 3 hL,kc [] hB,kO,kc [] hI,ko (bC.lJ x0 true),kp M8,kp hM,kq 0,kR (0:Int) (1:Int),kc [3] hE,kp (fK l2),kp M8]))) eH
def Rf:AV:=.agg [aK,aK]
theorem anc(d:DO)(o:bV.OP)(e:Int)(he:¬e=0)(hK:Cq 17 [kI d] (int e))(h:True):Cq 12 [kI d,bV.op o] (.bq [Rf,int e]):=by
 exact aj [kc [] hK,kt (y27 (qF zO))]
theorem anb(d:DO)(o:bV.OP)(e:Int)(he:¬e=0)(hK:Cq 17 [kI d] (int 0))(hO:Cq 25 [bV.op o] (int e))(h:True):Cq 12 [kI d,bV.op o] (.bq [Rf,int e]):=by
 exact aj [kc [] hK,kY,kc [] hO,kt (y27 (qF zO))]
theorem am8(d:DO)(o:bV.OP)(hK:Cq 17 [kI d] (int 0))(hO:Cq 25 [bV.op o] (int 0))(hV:Cq 27 [bB d.sn,eG (o.dv,o.sq)] (Am.bool true))(e:Int)(h:182=e):Cq 12 [kI d,bV.op o] (.bq [Rf,int e]):=by
 have e1:=h;exact ak.out ((show Cq 12 [kI d,bV.op o] (.bq [.agg [aK,aK],int 182])from aj [kc [] hK,kY,kc [] hO,kY,kc [] hV,kO])) (aF.iM ⟨y29,(aF.int_eq e1),yO⟩)
theorem ana(d:DO)(o:bV.OP)(n:Int)(hs:1<=o.sq)(hs2:o.sq<=1048576)(hn:¬n=o.sq-1)(hK:Cq 17 [kI d] (int 0))(hO:Cq 25 [bV.op o] (int 0))(hV:Cq 27 [bB d.sn,eG (o.dv,o.sq)] (Am.bool false))(hA:Cq 26 [bB d.sn,int o.dv] (int n))(e:Int)(h:181=e):Cq 12 [kI d,bV.op o] (.bq [Rf,int e]):=by
 have e1:=h;exact ak.out ((show Cq 12 [kI d,bV.op o] (.bq [.agg [aK,aK],int 181])from aj [kc [] hK,kY,kc [] hO,kY,kc [] hV,kY,kc [] hA,kW 41 (o.sq-1) (o.sq-1),kt (show(n != o.sq-1)=true from(y27 (qF zO))),kO])) (aF.iM ⟨y29,(aF.int_eq e1),yO⟩)
theorem am9(d:DO)(o:bV.OP)(n:Int)(hs:1<=o.sq)(hs2:o.sq<=1048576)(hn:n=o.sq-1)(hK:Cq 17 [kI d] (int 0))(hO:Cq 25 [bV.op o] (int 0))(hV:Cq 27 [bB d.sn,eG (o.dv,o.sq)] (Am.bool false))(hA:Cq 26 [bB d.sn,int o.dv] (int n))(hF:ak P G 41 [bB o.cx,Xk] (dB d) (.ret (Am.bool true)) (dB d))(e:Int)(h:181=e):Cq 12 [kI d,bV.op o] (.bq [Rf,int e]):=by
 have e1:=h;exact ak.out ((show Cq 12 [kI d,bV.op o] (.bq [.agg [aK,aK],int 181])from aj [kc [] hK,kY,kc [] hO,kY,kc [] hV,kY,kc [] hA,kW 41 (o.sq-1) (o.sq-1),kf (show(n != o.sq-1)=false from(y27 (qT zO))),kc [0] hF,kO])) (aF.iM ⟨y29,(aF.int_eq e1),yO⟩)
theorem Zj(d:DO)(o:bV.OP)(v:List D)(hl:d.fs.length<=1000000)(hC:∀f∈d.fs,Cq 42 [.agg (jB f)] (.agg (jB f))):∀n k g,d.fs.length-k=n->k<=d.fs.length->∃g',Rq 0 12 0 (Xj d o v k (.aU 4 g 0 (d.fs.take k).length) [.aH,.aN g 7 false (dA (d.fs.take k))]) (.exit 0) (apX d o v (.aU 4 g' 0 d.fs.length) [.aH,.aN g' 7 false (dA d.fs)]):=by
 intro n
 induction n with
 |zero =>
  intro k g hk LB;obtain rfl:k=d.fs.length:=zO
  rw[take_length];exact⟨g,akd d o v _ g d.fs zO yO⟩
 |succ n ih =>
  intro k g hk LB;have bg:k<d.fs.length:=zO
  have hx:=yA bg;obtain⟨g',nx⟩:=ih (k+1) (g+1) zO zO;have ht:d.fs.take (k+1)=d.fs.take k++[d.fs[k]]:=by rw[take_append_getElem]
  rw[ht,yD,<- TW]at nx;have hlk:(d.fs.take k).length=k:=by rw[y18];omega
  exact⟨g',anu d o v d.fs[k] (d.fs.take k) k g hlk zO hl zO hx (hC _ (y03 _)) _ _ nx⟩
theorem acE(d:DO)(o:bV.OP)(v:List D)(hl:d.fs.length<=1000000)(hC:∀f∈d.fs,Cq 42 [.agg (jB f)] (.agg (jB f)))(fF:d.fs≠[]):∃g',Rq 0 12 0 (Xj d o v 0 aK []) (.exit 0) (apX d o v (.aU 4 g' 0 d.fs.length) [.aH,.aN g' 7 false (dA d.fs)]):=by
 have h0:=length_pos_iff.2 fF;have hx:=yA h0;obtain⟨g',nx⟩:=Zj d o v hl hC _ 1 0 rfl zO;have ht:d.fs.take 1=[d.fs[0]]:=by
  have:=(take_append_getElem h0).symm;simpa using this
 rw[ht]at nx;refine⟨g',ant d o v d.fs[0] hl zO hx (hC _ (y03 _)) _ _ (bN.acz nx ?_)⟩;exact⟨.inl rfl,.inl rfl,.inl rfl,.inr yO,.inl rfl,yO⟩
theorem Zk(d:DO)(o:bV.OP)(v:List D)(h:d.fs=[]):Rq 0 12 0 (Xj d o v 0 aK []) (.exit 0) (apX d o v aK []):=akc d o v 0 (by rw[h];simp) trivial
variable {a b c:ah}{l2:List FD}{v:List D}{o:bV.OP}{d:DO}
theorem Zl{g n:Nat}(hn:n=l2.length)(h:ak P G 12 [kI d,bV.op o] [] (.ret (.bq [.agg [bB v,.aU 4 g 0 n],int 0])) [a,b,c,.aH,.aN g 7 false (dA l2)]):Cq 12 [kI d,bV.op o] (.bq [kI ⟨v,l2⟩,int 0]):=by
 subst hn;exact(h.Zm (z:=dA l2) (ds:=[bB v,Md l2]) (H1:=[a,b,c,.aH,.aN g 7 true (dA l2)]) (ps:=[g=g,List.take l2.length (List.drop 0 (dA l2))=dA l2,(dA l2).length=l2.length,∀c∈dA l2,c.all AV.fJ=true]) rfl ⟨rfl,by rw[drop_zero,y23 (by rw[fE];exact yM)],fE l2,Pg l2,yO⟩).BM (H3:=[]) (qs:=[]) rfl trivial
structure Fit(d:DO)(o:bV.OP)(v:List D):Prop where
 s1:1<=o.sq
 s2:o.sq<=1048576
 len:d.fs.length<=1000000
 K:Cq 17 [kI d] (int 0)
 O:Cq 25 [bV.op o] (int 0)
 V:Cq 27 [bB d.sn,eG (o.dv,o.sq)] (Am.bool false)
 A:Cq 26 [bB d.sn,int o.dv] (int (o.sq-1))
 F:ak P G 41 [bB o.cx,Xk] (dB d) (.ret (Am.bool false)) (dB d)
 W:Cq 28 [bB d.sn,eG (o.dv,o.sq)] (.bq [bB v,int 0])
abbrev lpA(d:DO)(o:bV.OP)(v:List D)(l:List FD)(g:Nat):Prop:=Rq 0 12 0 (Xj d o v 0 aK []) (.exit 0) (apX d o v (.aU 4 g 0 l.length) [.aH,.aN g 7 false (dA l)])
abbrev mgA(o:bV.OP)(F:Nat):Prop:=bT P 3 oK (.int .i64 o.kd) zE (.agg [gP F]) true
structure Yv(F:Nat):Prop where
 b:∀(d:DO)(o:bV.OP)(v:List D)(l l2:List FD)(g i:Nat)(e:Int),Fit d o v->i<l.length->l2.length=l.length->l.length<=1000000->lpA d o v l g->ak P G 43 [.aU 0 g 0 l.length,pt o.pk o.pn,Ph] [.aN g 7 false (dA l)] (.ret (.bq [int i,Am.bool true])) [.aN g 7 false (dA l)]->mgA o F->ak P G F [.jC 0 g (0+i) 0,bV.op o] [.aN g 7 false (dA l)] (.ret (int e)) [.aN g 7 false (dA l2)]->Cq 12 [kI d,bV.op o] (.bq [kI ⟨v,l2⟩,int 0])
 c:∀(d:DO)(o:bV.OP)(v:List D)(l m l2:List FD)(g i:Nat)(e:Int),Fit d o v->i<m.length->l2.length=m.length->l.length<=1000000->m.length<=1000001->lpA d o v l g->ak P G 43 [.aU 0 g 0 l.length,pt o.pk o.pn,Ph] [.aN g 7 false (dA l)] (.ret (.bq [int i,Am.bool false])) [.aN g 7 false (dA l)]->ak P G 46 [.aU 0 g 0 l.length,int i,.sl 7 true [[int o.pk,str o.pn,aK,aK,aK,aK,aK]]] [.aN g 7 false (dA l)] (.ret (.aU 0 (g+1) 0 m.length)) [.aN (g+1) 7 false (dA m)]->mgA o F->ak P G F [.jC 0 (g+1) (0+i) 0,bV.op o] [.aN (g+1) 7 false (dA m)] (.ret (int e)) [.aN (g+1) 7 false (dA l2)]->Cq 12 [kI d,bV.op o] (.bq [kI ⟨v,l2⟩,int 0])
 z:∀(d:DO)(o:bV.OP)(v:List D)(m l2:List FD)(e:Int),Fit d o v->m.length=1->l2.length=1->Rq 0 12 0 (Xj d o v 0 aK []) (.exit 0) (apX d o v aK [])->Cq 43 [aK,pt o.pk o.pn,Ph] (.bq [int 0,Am.bool false])->ak P G 46 [aK,int 0,.sl 7 true [[int o.pk,str o.pn,aK,aK,aK,aK,aK]]] [] (.ret (.aU 0 0 0 1)) [.aN 0 7 false (dA m)]->mgA o F->ak P G F [.jC 0 0 0 0,bV.op o] [.aN 0 7 false (dA m)] (.ret (int e)) [.aN 0 7 false (dA l2)]->Cq 12 [kI d,bV.op o] (.bq [kI ⟨v,l2⟩,int 0])
theorem acF(hn:l2.length=1)(h:ak P G 12 [kI d,bV.op o] [] (.ret (.bq [.agg [bB v,.aU 3 0 0 1],int 0])) [a,b,c,.aN 0 7 false (dA l2)]):Cq 12 [kI d,bV.op o] (.bq [kI ⟨v,l2⟩,int 0]) :=
 (h.Zm (z:=dA l2) (ds:=[bB v,Md l2]) (H1:=[a,b,c,.aN 0 7 true (dA l2)]) (ps:=[0=0,List.take 1 (List.drop 0 (dA l2))=dA l2,(dA l2).length=1,∀c∈dA l2,c.all AV.fJ=true]) rfl ⟨rfl,by rw[drop_zero,y23 (by rw[fE,hn];exact yM)],by rw[fE,hn],Pg l2,yO⟩).BM (H3:=[]) (qs:=[]) rfl trivial
theorem apK{F}(hq:EfF F):Yv F where
 b d o v l l2 g i e f hi hl hn hL hB hM hE:=Zl hl.symm (anL hq d o v l l2 g i e f.s1 f.s2 hi hn f.K f.O f.V f.A f.F f.W hL hB hM hE _ _ ⟨rfl,rfl⟩)
 c d o v l m l2 g i e f hi hl hn hm hL hB hI hM hE:=Zl hl.symm (ace hq d o v l m l2 g i e f.s1 f.s2 hi hn hm f.K f.O f.V f.A f.F f.W hL hB hI hM hE _ _ ⟨rfl,rfl⟩)
 z d o v m l2 e f hm hl hL hB hI hM hE:=acF hl (anM hq d o v m l2 e f.s1 f.s2 hm f.K f.O f.V f.A f.F f.W hL hB hI hM hE _ _ ⟨rfl,rfl⟩)
theorem am0:Yv 354:=apK zD
theorem am1:Yv 357:=apK zD
end Go.Dc
namespace Go.bV
open Go Go.Am Go.Proofs Go.eY Go.bH Go.yU
def IY(a b:List D)(k:Nat):St:={ aL:=aC 26 [(0,bB a),(1,bB b),(4,bool false),(11,bB a),(12,int a.length),(13,int k)],H:=[] }
theorem ZK(a b:List D)(k:Nat)(ha:a.length<=1000000000)(hb:b.length=a.length)(ex:bF)(r:Bool)(h:((((k:Int)<(a.length:Int))->(∃x2:D,(a[k]?=some x2)/\(∃x4:D,(b[k]?=some x4)/\((((x2.1==x4.1&&x2.2==x4.2)=true)->Rq 0 65 0 (sM 26 [(0,bB a),(1,bB b),(4,Am.bool false),(11,bB a),(12,int ↑a.length),(13,int ↑(k+1))] []) ex (sM 26 [(4,Am.bool r)] []))/\(((x2.1==x4.1&&x2.2==x4.2)=false)->(bF.ret=ex)/\((false)=(r)))))))/\((¬(k:Int)<(a.length:Int))->(bF.exit 0=ex)/\((false)=(r))))):Rq 0 65 0 (IY a b k) ex (sM 26 [(4,Am.bool r)] []):=by
 by_cases c1:((k:Int)<(a.length:Int))
 .have h:=h.1 c1;obtain⟨x2,o3,h⟩:=h;obtain⟨x4,o5,h⟩:=h;let l1:List fP:=[kt (qT c1),ko (bC.elem (bH.aQ x2)),ko (bC.elem (bH.aQ x4)),kp (show(0:Int)<=(k:Int)/\(au a)[Int.toNat (k:Int)]?=some (bH.aQ x2)from(bG o3)),kp (show(0:Int)<=(k:Int)/\(au b)[Int.toNat (k:Int)]?=some (bH.aQ x4)from(bG o5))];rcases y00 ((x2.1==x4.1&&x2.2==x4.2))with c6|c6
  .have h:=h.1 c6;exact aJ (l1++[kf (y27 (c6)),kW 25 (k+1) ↑(k+1)]) (aB 26 [0,1,4,11,12,13]) 0 h
  .have h:=h.2 c6;obtain⟨eX,e1⟩:=h;exact bN.to ((show Rq 0 65 0 (IY a b k) bF.ret (sM 26 [(4,Am.bool false)] [])from aG (l1++[kt (show(!(x2.1==x4.1&&x2.2==x4.2))=true from(y27 (c6)))]) (aB 26 [4]) 0)) eX (eB.aC ⟨rfl,(aF.aI e1),yO⟩)
 .have h:=h.2 c1;obtain⟨eX,e1⟩:=h;exact bN.to ((show Rq 0 65 0 (IY a b k) (bF.exit 0) (sM 26 [(4,Am.bool false)] [])from aG [kf (qF c1)] (aB 26 [4]) 0)) eX (eB.aC ⟨rfl,(aF.aI e1),yO⟩)
theorem Nf(a b:List D)(ha:a.length<=1000000000)(hb:b.length=a.length):∀n k,a.length-k=n->k<=a.length ->
 Rq 0 65 0 (IY a b k) (if a.drop k=b.drop k then .exit 0 else .ret) { aL:=aC 26 [(4,bool false)],H:=[] }:=by
 intro n
 induction n with
 |zero =>
  intro k hn hk;have e:a.drop k=b.drop k:=by rw[y17 zO,y17 zO]
  exact ZK a b k ha hb _ _ ⟨fun h=>absurd h zO,fun _=>⟨by rw[yL e],rfl⟩⟩
 |succ n ih =>
  intro k hn hk;have bg:k<a.length:=zO
  have oL:k<b.length:=zO
  have e1:=y01 bg;have e2:=y01 oL;refine ZK a b k ha hb _ _ ⟨fun h=>⟨a[k],yA bg,b[k],yA oL,⟨fun hq=>?_,fun hq=>?_⟩⟩,fun h=>absurd bg zO⟩
  .have hab:a[k]=b[k]:=by simp at hq;exact Prod.ext hq.1 hq.2
   have h2:=ih (k+1) zO zO;by_cases hd:a.drop (k+1)=b.drop (k+1)
   .rw [yL hd]at h2;rw[yL (by rw[e1,e2,hab,hd])];exact h2
   .rw [yK hd]at h2;rw[yK (by rw[e1,e2,hab];exact fun h=>hd (List.cons.inj h).2)];exact h2
  .have fF:¬a.drop k=b.drop k:=by
    rw[e1,e2];intro he;injection he with h1 _;rw[h1]at hq;simp at hq
   rw[yK fF];exact⟨rfl,rfl⟩
theorem amb(a b:List D)(ha:a.length<=1000000000)(hb:b.length=a.length):Rq 0 65 0 (IY a b 0) (if a=b then .exit 0 else .ret) { aL:=aC 26 [(4,bool false)],H:=[] } :=
 Nf a b ha hb _ 0 rfl zO
theorem aqi(a b:List D)(ha:a.length<=1000000000)(h:((((a.length:Int)=(b.length:Int))->(((a=b)->(true)=(decide (a=b)))/\((¬a=b)->(false)=(decide (a=b)))))/\((¬(a.length:Int)=(b.length:Int))->(false)=(decide (a=b))))):Cq 65 [bB a,bB b] (Am.bool (decide (a=b))):=by
 have bS:=lU (Go.bH.ay a);have fT:=lU (Go.bH.ay b);by_cases c1:((a.length:Int)=(b.length:Int))
 .have h:=h.1 c1;have jw:=(y27 (nW.2 c1));by_cases c2:(a=b)
  .have h:=h.1 c2;exact aA (aF.aI h) [kv 7 bS,kv 9 fT,kf jw,kv 12 bS,kl (rG [(2,2),(5,6),(14,12)]) 0 (show Rq 0 65 0 (sM 26 [(0,.sl 2 false (au a)),(1,.sl 2 false (au b)),(4,Am.bool false),(11,.sl 2 false (au a)),(12,int ↑a.length),(13,int 0)] []) (bF.exit 0) (sM 26 [(4,Am.bool false)] [])from(by have h0:=(@amb (a) (b) zO zO);simp only[yL c2]at h0;exact h0))]
  .have h:=h.2 c2;exact aA (aF.aI h) [kv 7 bS,kv 9 fT,kf jw,kv 12 bS,kl (rG [(2,2),(5,6),(14,12)]) 0 (show Rq 0 65 0 (sM 26 [(0,.sl 2 false (au a)),(1,.sl 2 false (au b)),(4,Am.bool false),(11,.sl 2 false (au a)),(12,int ↑a.length),(13,int 0)] []) bF.ret (sM 26 [(4,Am.bool false)] [])from(by have h0:=(@amb (a) (b) zO zO);simp only[yK c2]at h0;exact h0))]
 .have h:=h.2 c1;exact aA (aF.aI h) [kv 7 bS,kv 9 fT,kt (y27 (qN.2 c1))]
theorem aqj(a b:List D)(ha:a.length<=1000000000):Cq 65 [bB a,bB b] (bool (decide (a=b))):=by
 refine aqi a b ha ?_;constructor
 .simp
 .grind
theorem tN(a b:yP):(a==b)=decide (a=b):=by
 obtain⟨⟨a⟩⟩:=a;obtain⟨⟨b⟩⟩:=b;show(a.toArray==b.toArray)=_;rw[Bool.eq_iff_iff];simp
theorem bool_beq(a b:Bool):(a==b)=decide (a=b):=by cases a<;>cases b<;>rfl
def UN(a b:OP):Bool:=(decide (a.dv=b.dv)&&decide (a.sq=b.sq))&&decide (a.tm=b.tm)&&decide (a.cx=b.cx)&&(decide (a.pk=b.pk)&&decide (a.pn=b.pn))&&decide (a.kd=b.kd)&&(decide (a.f1=b.f1)&&decide (a.f2=b.f2)&&decide (a.f3=b.f3)) &&
 (decide (a.t1=b.t1)&&decide (a.t2=b.t2)&&decide (a.t3=b.t3))&&decide (a.ky=b.ky)&&decide (a.vl=b.vl)&&decide (a.n=b.n)&&decide (a.on=b.on)
theorem Qs a b:UN a b=decide (a=b):=by
 cases a;cases b;simp only[UN,OP.mk.injEq,Bool.decide_and,Bool.and_assoc]
theorem E9(a b:OP)(ha:a.cx.length<=1000000000)(v:Bool)(h:((((a.dv==b.dv&&a.sq==b.sq)=true)->(((a.tm=b.tm)->(((a.cx=b.cx)->((((a.pk==b.pk&&a.pn==b.pn)=true)->(((a.kd=b.kd)->((((a.f1==b.f1&&(a.f2==b.f2&&a.f3==b.f3))=true)->((((a.t1==b.t1&&(a.t2==b.t2&&a.t3==b.t3))=true)->(((a.ky=b.ky)->(((a.vl=b.vl)->(((a.n=b.n)->(a.on==b.on)=(v))/\((¬a.n=b.n)->(false)=(v))))/\((¬a.vl=b.vl)->(false)=(v))))/\((¬a.ky=b.ky)->(false)=(v))))/\(((a.t1==b.t1&&(a.t2==b.t2&&a.t3==b.t3))=false)->(false)=(v))))/\(((a.f1==b.f1&&(a.f2==b.f2&&a.f3==b.f3))=false)->(false)=(v))))/\((¬a.kd=b.kd)->(false)=(v))))/\(((a.pk==b.pk&&a.pn==b.pn)=false)->(false)=(v))))/\((¬a.cx=b.cx)->(false)=(v))))/\((¬a.tm=b.tm)->(false)=(v))))/\(((a.dv==b.dv&&a.sq==b.sq)=false)->(false)=(v)))):Cq 93 [op a,op b] (Am.bool v):=by
 rcases y00 ((a.dv==b.dv&&a.sq==b.sq))with c1|c1
 .have h:=h.1 c1;by_cases c2:(a.tm=b.tm)
  .have h:=h.1 c2;have bS:=(@aqj a.cx b.cx zO);let l1:List fP:=[kt c1,kt (nW.2 c2),kc [] bS];by_cases c3:(a.cx=b.cx)
   .have h:=h.1 c3;let l2:List fP:=l1++[kt (qT c3)];rcases y00 ((a.pk==b.pk&&a.pn==b.pn))with c4|c4
    .have h:=h.1 c4;by_cases c5:(a.kd=b.kd)
     .have h:=h.1 c5;let l3:List fP:=l2++[kt c4,kt (nW.2 c5)];rcases y00 ((a.f1==b.f1&&(a.f2==b.f2&&a.f3==b.f3)))with c6|c6
      .have h:=h.1 c6;rcases y00 ((a.t1==b.t1&&(a.t2==b.t2&&a.t3==b.t3)))with c7|c7
       .have h:=h.1 c7;let l4:List fP:=l3++[kt c6,kt c7,kv 57 (show Am.aF (Am.bool (ByteArray.toList a.ky==ByteArray.toList b.ky)) (Am.bool (decide (a.ky=b.ky)))from(aF.of_eq (by simp only[Go.yU.rC])))];by_cases c8:(a.ky=b.ky)
        .have h:=h.1 c8;let l5:List fP:=l4++[kt (qT c8),kv 64 (show Am.aF (Am.bool (ByteArray.toList a.vl==ByteArray.toList b.vl)) (Am.bool (decide (a.vl=b.vl)))from(aF.of_eq (by simp only[Go.yU.rC])))];by_cases c9:(a.vl=b.vl)
         .have h:=h.1 c9;by_cases G9:(a.n=b.n)
          .have h:=h.1 G9;exact aA (aF.aI h) (l5++[kt (qT c9),kt (nW.2 G9)])
          .have h:=h.2 G9;exact aA (aF.aI h) (l5++[kt (qT c9),kf (qN.2 G9)])
         .have h:=h.2 c9;exact aA (aF.aI h) (l5++[kf (qF c9),kY])
        .have h:=h.2 c8;exact aA (aF.aI h) (l4++[kf (qF c8),kY,kY])
       .have h:=h.2 c7;exact aA (aF.aI h) (l3++[kt c6,kf c7,kY,kY,kY])
      .have h:=h.2 c6;exact aA (aF.aI h) (l3++[kf c6,kY,kY,kY,kY])
     .have h:=h.2 c5;exact aA (aF.aI h) (l2++[kt c4,kf (qN.2 c5),kY,kY,kY,kY,kY])
    .have h:=h.2 c4;exact aA (aF.aI h) (l2++[kf c4,kY,kY,kY,kY,kY,kY])
   .have h:=h.2 c3;exact aA (aF.aI h) (l1++[kf (qF c3),kY,kY,kY,kY,kY,kY,kY])
  .have h:=h.2 c2;exact aA (aF.aI h) [kt c1,kf (qN.2 c2),kY,kY,kY,kY,kY,kY,kY,kY]
 .have h:=h.2 c1;exact aA (aF.aI h) [kf c1,kY,kY,kY,kY,kY,kY,kY,kY,kY]
theorem zG(a b:OP)(ha:a.cx.length<=1000000000):Cq 93 [op a,op b] (bool (decide (a=b))):=E9 a b ha _ (by
 rw[<- Qs];unfold UN
 repeat' (first|refine And.intro ?_ ?_|intro _)
 all_goals simp_all[tN,bool_beq])
def Kj:OP:=⟨0,0,0,[],0,.empty,0,0,0,0,0,0,0,.empty,.empty,0,false⟩
def mQ(o:OP):Int->OP
 |1=>{ Kj with t1:=o.t1,t2:=o.t2,t3:=o.t3,ky:=o.ky,n:=o.n,on:=o.on }
 |2=>{ Kj with t1:=o.t1,t2:=o.t2,t3:=o.t3,ky:=o.ky,vl:=o.vl,n:=o.n,on:=o.on }
 |3=>{ Kj with f1:=o.f1,f2:=o.f2,f3:=o.f3,t1:=o.t1,t2:=o.t2,t3:=o.t3,n:=o.n,on:=o.on }
 |4=>{ Kj with f1:=o.f1,f2:=o.f2,f3:=o.f3,t1:=o.t1,t2:=o.t2,t3:=o.t3,vl:=o.vl,n:=o.n,on:=o.on }
 |5=>{ Kj with f1:=o.f1,f2:=o.f2,f3:=o.f3,t1:=o.t1,t2:=o.t2,t3:=o.t3,ky:=o.ky,vl:=o.vl,on:=o.on }
 |6=>{ Kj with t1:=o.t1,t2:=o.t2,t3:=o.t3,ky:=o.ky,n:=o.n,on:=o.on }
 |7=>{ Kj with t1:=o.t1,t2:=o.t2,t3:=o.t3,ky:=o.ky,vl:=o.vl,on:=o.on }
 |_=>{ Kj with ky:=o.ky,vl:=o.vl }
theorem ac8(o:OP)(h:True):Cq 94 [Ki o 1] (op (mQ o 1)):=by
 exact ak.out ((show Cq 94 [Ki o 1] (.agg [int 0,int 0,int 0,aK,int 0,str (ByteArray.mk #[]),int 0,int 0,int 0,int 0,int o.t1,int o.t2,int o.t3,str o.ky,str (ByteArray.mk #[]),int o.n,Am.bool o.on])from aj [kY,kY,kY,kO,kO])) (aF.qo ⟨y29,y29,y29,(aF.nil _),y29,y29,y29,y29,y29,y29,y29,y29,y29,y29,y29,y29,y29,yO⟩)
theorem ac9(o:OP)(h:True):Cq 94 [Ki o 2] (op (mQ o 2)):=by
 exact ak.out ((show Cq 94 [Ki o 2] (.agg [int 0,int 0,int 0,aK,int 0,str (ByteArray.mk #[]),int 0,int 0,int 0,int 0,int o.t1,int o.t2,int o.t3,str o.ky,str o.vl,int o.n,Am.bool o.on])from aj [kY,kY,kY,kY,kY,kO])) (aF.qo ⟨y29,y29,y29,(aF.nil _),y29,y29,y29,y29,y29,y29,y29,y29,y29,y29,y29,y29,y29,yO⟩)
end Go.bV
namespace Go.yU
open Go Go.Am Go.Proofs Go.eY
mutual
def wf:CV->Bool
 |.mk k n s l=>if k=1 then decide (s = .empty)&&decide (l.length=0)else if k=2 then decide (n=0)&&decide (l.length=0)else if k=3 then decide (n=0)&&decide (s = .empty)&&Lb l else false
def Lb:List CV->Bool
 |[]=>true
 |v::l=>wf v&&Lb l
end
theorem CV.ind{p:CV->Prop}(h:∀k n s l,(∀x∈l,p x)->p (.mk k n s l))v:p v :=
 CV.rec   (fun k n s l ih=>h k n s l ih) (fun _ hx=>by cases hx) (fun a l ha hl x hx=>by
  rcases yH.1 hx with rfl|hx
  .exact ha
  grind) v
end Go.yU
namespace Go.bV
open Go Go.Am Go.Proofs Go.eY Go.bH Go.yU
theorem WU l(v:CV):iB l++[aQ v]=iB (l++[v]):=by grind[lC]
def hd(l:List CV):CV:=l.headD default
def at_(l:List CV)(i:Nat):CV:=(l.drop i).headD default
theorem CX(x:Int)(h:(x != x)=(false)):Cq 216 [int x] (Am.bool false):=by
 exact aA (aF.aI h) []
theorem QX(x y v:Int)(hx:Cq 216 [int x] (bool false))(hy:Cq 216 [int y] (bool false))(h:(((x<y)->(-1:Int)=(v))/\((¬x<y)->(((x>y)->1=v)/\((¬x>y)->0=v))))):Cq 121 [int x,int y] (int v):=by
 let l1:List fP:=[kc [] hx,kc [] hy,kY,kY];by_cases c1:(x<y)
 .have h:=h.1 c1;exact aA (aF.int_eq h) (l1++[kt (qT c1)])
 .have h:=h.2 c1;by_cases c2:(x>y)
  .have h:=h.1 c2;exact aA (aF.int_eq h) (l1++[kf (qF c1),kt (qT c2)])
  .have h:=h.2 c2;exact aA (aF.int_eq h) (l1++[kf (qF c1),kf (qF c2)])
def gJ(x y:Int):Int:=if x<y then -1 else if x>y then 1 else 0
theorem wZ(x y:Int):Cq 121 [int x,int y] (int (gJ x y)):=QX x y _ (CX x zS) (CX y zS) (by
 unfold gJ;grind)
def Ar:List Int->Int
 |[]=>0
 |x::t=>if x=0 then Ar t else x
def H7(l:List Int)(k:Nat):St:={ aL:=aC 18 [(2,int 0),(3,int 0),(6,.sl 1 true (ql l)),(7,int l.length),(8,int k)],H:=[] }
theorem XZ(l:List Int)(k:Nat)(hl:l.length<=1000000)(ex:bF)(r:Int)(h:((((k:Int)<(l.length:Int))->(∃x2:Int,(l[k]?=some x2)/\(((x2=0)->Rq 0 120 0 (sM 18 [(2,int 0),(3,int 0),(6,.sl 1 true (ql l)),(7,int ↑l.length),(8,int ↑(k+1))] []) ex (sM 18 [(2,int r),(3,int 0)] []))/\((¬x2=0)->(bF.ret=ex)/\((x2:Int)=(r))))))/\((¬(k:Int)<(l.length:Int))->(bF.exit 0=ex)/\(0=r)))):Rq 0 120 0 (H7 l k) ex (sM 18 [(2,int r),(3,int 0)] []):=by
 by_cases c1:((k:Int)<(l.length:Int))
 .have h:=h.1 c1;obtain⟨x2,o3,h⟩:=h;have bS:(0:Int)<=(k:Int)/\(ql l)[Int.toNat (k:Int)]?=some (LW x2):=(bG o3);by_cases c4:(x2=0)
  .have h:=h.1 c4;exact aJ [kt (qT c1),ko (bC.elem (LW x2)),kp bS,kf (y27 (nW.2 c4)),kW 16 (k+1) ↑(k+1)] (aB 18 [2,3,6,7,8]) 0 h
  .have h:=h.2 c4;obtain⟨eX,e1⟩:=h;exact bN.to ((show Rq 0 120 0 (H7 l k) bF.ret (sM 18 [(2,int x2),(3,int 0)] [])from aG [kt (qT c1),ko (bC.elem (LW x2)),kp bS,kt (show(x2 != 0)=true from(y27 (qN.2 c4)))] (aB 18 [2,3]) 0)) eX (eB.aC ⟨rfl,(aF.int_eq e1),rfl,y29,yO⟩)
 .have h:=h.2 c1;obtain⟨eX,e1⟩:=h;exact bN.to ((show Rq 0 120 0 (H7 l k) (bF.exit 0) (sM 18 [(2,int 0),(3,int 0)] [])from aG [kf (qF c1)] (aB 18 [2,3]) 0)) eX (eB.aC ⟨rfl,(aF.int_eq e1),rfl,y29,yO⟩)
theorem Gw(l:List Int)(hl:l.length<=1000000):∀(m k:Nat),l.length-k=m->k<=l.length->Rq 0 120 0 (H7 l k) (if Ar (l.drop k)=0 then .exit 0 else .ret) { aL:=aC 18 [(2,int (Ar (l.drop k))),(3,int 0)],H:=[] }:=by
 intro m
 induction m with
 |zero =>
  intro k hm hk;have e:l.drop k=[]:=y17 zO;rw[e];exact XZ l k hl _ _ ⟨fun h=>absurd h zO,fun _=>⟨rfl,rfl⟩⟩
 |succ m ih =>
  intro k hm hk;have bg:k<l.length:=zO
  have e:=y01 bg;refine XZ l k hl _ _ ⟨fun _=>⟨l[k],yA bg,⟨fun h0=>?_,fun h0=>?_⟩⟩,fun h=>absurd bg zO⟩
  .have:Ar (l.drop k)=Ar (l.drop (k+1)):=by rw[e,Ar,yL h0]
   rw[this];exact ih (k+1) zO zO
  .have:Ar (l.drop k)=l[k]:=by rw[e,Ar,yK h0]
   rw[this,yK h0];exact⟨rfl,rfl⟩
theorem ab0(l:List Int)(r:Int)(hL:Rq 0 120 0 (H7 l 0) (if r=0 then .exit 0 else .ret) { aL:=aC 18 [(2,int r),(3,int 0)],H:=[] })(h:(((r=0)->0=r)/\((¬r=0)->True))):Cq 120 [.sl 1 true (ql l)] (int r):=by
 have bS:=lU (Go.bH.kD l);by_cases c1:(r=0)
 .have h:=h.1 c1;exact aA (aF.int_eq h) [kv 7 bS,kl (rG [(0,2),(4,2),(9,9)]) 0 (show Rq 0 120 0 (sM 18 [(2,int 0),(3,int 0),(6,.sl 1 true (ql l)),(7,int ↑l.length),(8,int 0)] []) (bF.exit 0) (sM 18 [(2,int r),(3,int 0)] [])from(by have h0:=hL;simp only[yL c1]at h0;exact h0))]
 .have h:=h.2 c1;exact aj [kv 7 bS,kl (rG [(0,2),(4,2),(9,9)]) 0 (show Rq 0 120 0 (sM 18 [(2,int 0),(3,int 0),(6,.sl 1 true (ql l)),(7,int ↑l.length),(8,int 0)] []) bF.ret (sM 18 [(2,int r),(3,int 0)] [])from(by have h0:=hL;simp only[yK c1]at h0;exact h0))]
end Go.bV
namespace Go.Bd
open Go Go.Am Go.Proofs Go.eY
def Dz(a b:yP):Bool:=Op.bytesLess (ByteArray.toList a) (ByteArray.toList b)
def oq(a b:yP):Int:=if Dz a b=true then -1 else if a=b then 0 else 1
def gJ(x y:Int):Int:=if x<y then -1 else if x>y then 1 else 0
def thn(a b:Int):Int:=if a=0 then b else a
theorem agc(a:yP)(r:Bool)(h:(!ByteArray.toList a==ByteArray.toList a)=(r)):Cq 217 [str a] (Am.bool r):=by
 have e1:=h;exact aA (aF.aI e1) [] zQ
theorem agd(a:Int)(r:Bool)(h:(a != a)=(r)):Cq 216 [int a] (Am.bool r):=by
 have e1:=h;exact aA (aF.aI e1) [] zQ
theorem Zn(a:yP):Cq 217 [str a] (bool false):=agc a _ zS
theorem Zo(a:Int):Cq 216 [int a] (bool false):=agd a _ zS
theorem agf(a b:yP)(r:Int)(h:((((Op.bytesLess (ByteArray.toList a) (ByteArray.toList b))=true)->(-1:Int)=(r))/\(((Op.bytesLess (ByteArray.toList a) (ByteArray.toList b))=false)->((((Op.bytesLess (ByteArray.toList a) (ByteArray.toList b)||ByteArray.toList a==ByteArray.toList b)=true)->(0:Int)=(r))/\(((Op.bytesLess (ByteArray.toList a) (ByteArray.toList b)||ByteArray.toList a==ByteArray.toList b)=false)->(1:Int)=(r)))))):Cq 122 [str a,str b] (int r):=by
 have bS:=(@Go.Bd.Zn (a));have fT:=(@Go.Bd.Zn (b));rcases y00 ((Op.bytesLess (ByteArray.toList a) (ByteArray.toList b)))with c1|c1
 .have h:=h.1 c1;have e1:=h;exact aA (aF.int_eq e1) [kc [] bS,kc [] fT,kf (Eq.refl false),kf (Eq.refl false),kt c1] zQ
 .have h:=h.2 c1;rcases y00 ((Op.bytesLess (ByteArray.toList a) (ByteArray.toList b)||ByteArray.toList a==ByteArray.toList b))with c2|c2
  .have h:=h.1 c2;have e1:=h;exact aA (aF.int_eq e1) [kc [] bS,kc [] fT,kf (Eq.refl false),kf (Eq.refl false),kf c1,kf (show(!(Op.bytesLess (ByteArray.toList a) (ByteArray.toList b)||ByteArray.toList a==ByteArray.toList b))=false from(y27 (c2)))] zQ
  .have h:=h.2 c2;have e1:=h;exact aA (aF.int_eq e1) [kc [] bS,kc [] fT,kf (Eq.refl false),kf (Eq.refl false),kf c1,kt (show(!(Op.bytesLess (ByteArray.toList a) (ByteArray.toList b)||ByteArray.toList a==ByteArray.toList b))=true from(y27 (c2)))] zQ
theorem RO(a b:Int)(r:Int)(h:(((a<b)->(-1:Int)=(r))/\((¬a<b)->(((a>b)->(1:Int)=(r))/\((¬a>b)->(0:Int)=(r)))))):Cq 121 [int a,int b] (int r):=by
 have bS:=(@Go.Bd.Zo (a));have fT:=(@Go.Bd.Zo (b));by_cases c1:(a<b)
 .have h:=h.1 c1;have e1:=h;exact aA (aF.int_eq e1) [kc [] bS,kc [] fT,kf (Eq.refl false),kf (Eq.refl false),kt (y15 c1)] zQ
 .have h:=h.2 c1;by_cases c2:(a>b)
  .have h:=h.1 c2;have e1:=h;exact aA (aF.int_eq e1) [kc [] bS,kc [] fT,kf (Eq.refl false),kf (Eq.refl false),kf (y16 c1),kt (y15 c2)] zQ
  .have h:=h.2 c2;have e1:=h;exact aA (aF.int_eq e1) [kc [] bS,kc [] fT,kf (Eq.refl false),kf (Eq.refl false),kf (y16 c1),kf (y16 c2)] zQ
theorem Zp(a b:yP):Cq 122 [str a,str b] (int (oq a b)):=agf a b _ (by
 rw[rC];unfold oq Dz;cases h:Op.bytesLess (ByteArray.toList a) (ByteArray.toList b)<;>by_cases e:a=b<;>simp[e])
theorem Cc(a b:Int):Cq 121 [int a,int b] (int (gJ a b)):=RO a b _ (by unfold gJ;grind)
theorem agh(f:Nat)(h:True):ak P G 288 [yT f] [] (aS.ret (AV.fn (Fn.func 305) [] [AV.ptr 0 0])) [ah.box [yT f]]:=by
 have _:=h;exact aj [] zQ
theorem agi(f:Nat)(h:True):ak P G 205 [yT f] [] (aS.ret (AV.fn (Fn.func 270) [] [AV.ptr 0 0])) [ah.box [yT f]]:=by
 have _:=h;exact aj [] zQ
abbrev fS(f:Nat):AV:=.fn (.func 305) [] [.iG [yT f]]
abbrev fI(f:Nat):AV:=.fn (.func 270) [] [.iG [yT f]]
theorem agj(f:Nat):Cq 288 [yT f] (fS f):=ak.Zq (agh f yO) rfl
theorem Zr(f:Nat):Cq 205 [yT f] (fI f):=ak.Zq (agi f yO) rfl
theorem anP(a:BE)(h:True):Cq 289 [oN a] (str (BE.ky a)):=by
 have _:=h;exact aj [] zQ
theorem amF(a:BE)(h:True):Cq 206 [oN a] (int (BE.tm a)):=by
 have _:=h;exact aj [] zQ
theorem ako(a:BE)(h:True):Cq 207 [oN a] (int (BE.dv a)):=by
 have _:=h;exact aj [] zQ
theorem akp(a:BE)(h:True):Cq 208 [oN a] (int (BE.sq a)):=by
 have _:=h;exact aj [] zQ
theorem akq(a b:BE)(h0:∀a,Cq 289 [oN a] (str a.ky))(h:True):Cq 305 [oN a,oN b,AV.iG [yT 289]] (int (oq (BE.ky a) (BE.ky b))):=by
 have _:=h;exact aj [kc [] (@h0 (a)),kc [] (@h0 (b)),kc [] (@Go.Bd.Zp (BE.ky a) (BE.ky b))] zQ
theorem aIq(a b:BE)(h0:∀a,Cq 206 [oN a] (int a.tm))(h:True):Cq 270 [oN a,oN b,AV.iG [yT 206]] (int (gJ (BE.tm a) (BE.tm b))):=by
 have _:=h;exact aj [kc [] (@h0 (a)),kc [] (@h0 (b)),kc [] (@Go.Bd.Cc (BE.tm a) (BE.tm b))] zQ
theorem akr(a b:BE)(h0:∀a,Cq 207 [oN a] (int a.dv))(h:True):Cq 270 [oN a,oN b,AV.iG [yT 207]] (int (gJ (BE.dv a) (BE.dv b))):=by
 have _:=h;exact aj [kc [] (@h0 (a)),kc [] (@h0 (b)),kc [] (@Go.Bd.Cc (BE.dv a) (BE.dv b))] zQ
theorem aks(a b:BE)(h0:∀a,Cq 208 [oN a] (int a.sq))(h:True):Cq 270 [oN a,oN b,AV.iG [yT 208]] (int (gJ (BE.sq a) (BE.sq b))):=by
 have _:=h;exact aj [kc [] (@h0 (a)),kc [] (@h0 (b)),kc [] (@Go.Bd.Cc (BE.sq a) (BE.sq b))] zQ
theorem akt(a b:BE):Cq 305 [oN a,oN b,.iG [yT 289]] (int (oq a.ky b.ky)):=akq a b (fun a=>anP a yO) trivial
theorem aIr(a b:BE):Cq 270 [oN a,oN b,.iG [yT 206]] (int (gJ a.tm b.tm)):=aIq a b (fun a=>amF a yO) trivial
theorem aku(a b:BE):Cq 270 [oN a,oN b,.iG [yT 207]] (int (gJ a.dv b.dv)):=akr a b (fun a=>ako a yO) trivial
theorem akv(a b:BE):Cq 270 [oN a,oN b,.iG [yT 208]] (int (gJ a.sq b.sq)):=aks a b (fun a=>akp a yO) trivial
abbrev Pm(x y z:AV):AV:=.sl 1 true [[x],[y],[z]]
abbrev byF(x y z:AV):AV:=.fn (.func 269) [] [.iG [Pm x y z]]
theorem anQ(x y z:AV)(h:True):ak P G 204 [Pm x y z] [] (aS.ret (AV.fn (Fn.func 269) [] [AV.ptr 0 0])) [ah.box [Pm x y z]]:=by
 have _:=h;exact aj [] zQ
abbrev xK:AV:=fS 289
abbrev xD:AV:=fI 207
abbrev xQ:AV:=fI 208
abbrev xT:AV:=fI 206
def b1S(x y z:AV)(a b:BE)(k:Nat):St:={ aL:=aC 23 [(0,oN a),(1,oN b),(2,.iG [Pm x y z]),(3,.ptr 0 0),(4,.ptr 1 0),(5,int 0),(9,Pm x y z),(10,int 3),(11,int k)],H:=[.box (aQ a),.box (aQ b)] }
def b1E(a b:BE)(r:Int):St:={ aL:=aC 23 [(5,int r)],H:=[.box (aQ a),.box (aQ b)] }
def gM(a b:BE):Int:=thn (oq a.ky b.ky) (thn (gJ a.dv b.dv) (gJ a.sq b.sq))
def zC(a b:BE):Int:=thn (gJ a.tm b.tm) (thn (gJ a.dv b.dv) (gJ a.sq b.sq))
theorem aek(a b:BE)(ex:bF)(r:Int)(h:(((oq (BE.ky a) (BE.ky b)=(0:Int))->Rq 0 269 0 (sM 23 [(0,.agg [str (BE.ky a),int (BE.dv a),int (BE.sq a),int (BE.tm a),str (BE.vl a)]),(1,.agg [str (BE.ky b),int (BE.dv b),int (BE.sq b),int (BE.tm b),str (BE.vl b)]),(2,AV.iG [.sl 1 true [[.fn (Fn.func 305) [] [AV.iG [AV.lit (Value.func (Fn.func 289) (Array.mk []) (Array.mk []))]]],[.fn (Fn.func 270) [] [AV.iG [AV.lit (Value.func (Fn.func 207) (Array.mk []) (Array.mk []))]]],[.fn (Fn.func 270) [] [AV.iG [AV.lit (Value.func (Fn.func 208) (Array.mk []) (Array.mk []))]]]]]),(3,.ptr 0 0),(4,.ptr 1 0),(5,int 0),(9,.sl 1 true [[.fn (Fn.func 305) [] [AV.iG [AV.lit (Value.func (Fn.func 289) (Array.mk []) (Array.mk []))]]],[.fn (Fn.func 270) [] [AV.iG [AV.lit (Value.func (Fn.func 207) (Array.mk []) (Array.mk []))]]],[.fn (Fn.func 270) [] [AV.iG [AV.lit (Value.func (Fn.func 208) (Array.mk []) (Array.mk []))]]]]),(10,int 3),(11,int 1)] [.box [str (BE.ky a),int (BE.dv a),int (BE.sq a),int (BE.tm a),str (BE.vl a)],.box [str (BE.ky b),int (BE.dv b),int (BE.sq b),int (BE.tm b),str (BE.vl b)]]) ex (b1E a b r))/\((¬oq (BE.ky a) (BE.ky b)=(0:Int))->(bF.ret=ex)/\((oq (BE.ky a) (BE.ky b):Int)=(r))))):Rq 0 269 0 (b1S xK xD xQ a b 0) ex (b1E a b r):=by
 have bS:(0:Int)<=(0:Int)/\[[xK],[xD],[xQ]][Int.toNat (↑0:Int)]?=some [AV.fn (Fn.func 305) [] [AV.iG [AV.lit (Value.func (Fn.func 289) (Array.mk []) (Array.mk []))]]]:=(⟨zD,rfl⟩);have fT:=(@Go.Bd.akt (a) (b));by_cases c1:(oq (BE.ky a) (BE.ky b)=(0:Int))
 .have h:=h.1 c1;exact aJ [kt (Eq.refl true),ko (bC.elem [AV.fn (Fn.func 305) [] [AV.iG [AV.lit (Value.func (Fn.func 289) (Array.mk []) (Array.mk []))]]]),kp bS,kc [] fT,kf (show(oq (BE.ky a) (BE.ky b)!=0)=false from(y27 (beq_iff_eq.2 c1)))] (aB 23 [0,1,2,3,4,5,9,10,11]) 2 h zQ
 .have h:=h.2 c1;obtain⟨eX,e1⟩:=h;exact bN.to ((show Rq 0 269 0 (b1S xK xD xQ a b 0) bF.ret (sM 23 [(5,int (oq (BE.ky a) (BE.ky b)))] [.box [str (BE.ky a),int (BE.dv a),int (BE.sq a),int (BE.tm a),str (BE.vl a)],.box [str (BE.ky b),int (BE.dv b),int (BE.sq b),int (BE.tm b),str (BE.vl b)]])from aG [kt (Eq.refl true),ko (bC.elem [AV.fn (Fn.func 305) [] [AV.iG [AV.lit (Value.func (Fn.func 289) (Array.mk []) (Array.mk []))]]]),kp bS,kc [] fT,kt (show(oq (BE.ky a) (BE.ky b)!=0)=true from(y27 (beq_eq_false_iff_ne.2 c1)))] (aB 23 [5]) 2 zQ)) eX (eB.aC ⟨rfl,(aF.int_eq e1),yO⟩)
theorem ael(a b:BE)(ex:bF)(r:Int)(h:(((gJ (BE.dv a) (BE.dv b)=(0:Int))->Rq 0 269 0 (sM 23 [(0,.agg [str (BE.ky a),int (BE.dv a),int (BE.sq a),int (BE.tm a),str (BE.vl a)]),(1,.agg [str (BE.ky b),int (BE.dv b),int (BE.sq b),int (BE.tm b),str (BE.vl b)]),(2,AV.iG [.sl 1 true [[.fn (Fn.func 305) [] [AV.iG [AV.lit (Value.func (Fn.func 289) (Array.mk []) (Array.mk []))]]],[.fn (Fn.func 270) [] [AV.iG [AV.lit (Value.func (Fn.func 207) (Array.mk []) (Array.mk []))]]],[.fn (Fn.func 270) [] [AV.iG [AV.lit (Value.func (Fn.func 208) (Array.mk []) (Array.mk []))]]]]]),(3,.ptr 0 0),(4,.ptr 1 0),(5,int 0),(9,.sl 1 true [[.fn (Fn.func 305) [] [AV.iG [AV.lit (Value.func (Fn.func 289) (Array.mk []) (Array.mk []))]]],[.fn (Fn.func 270) [] [AV.iG [AV.lit (Value.func (Fn.func 207) (Array.mk []) (Array.mk []))]]],[.fn (Fn.func 270) [] [AV.iG [AV.lit (Value.func (Fn.func 208) (Array.mk []) (Array.mk []))]]]]),(10,int 3),(11,int 2)] [.box [str (BE.ky a),int (BE.dv a),int (BE.sq a),int (BE.tm a),str (BE.vl a)],.box [str (BE.ky b),int (BE.dv b),int (BE.sq b),int (BE.tm b),str (BE.vl b)]]) ex (b1E a b r))/\((¬gJ (BE.dv a) (BE.dv b)=(0:Int))->(bF.ret=ex)/\((gJ (BE.dv a) (BE.dv b):Int)=(r))))):Rq 0 269 0 (b1S xK xD xQ a b 1) ex (b1E a b r):=by
 have bS:(0:Int)<=(1:Int)/\[[xK],[xD],[xQ]][Int.toNat (↑1:Int)]?=some [AV.fn (Fn.func 270) [] [AV.iG [AV.lit (Value.func (Fn.func 207) (Array.mk []) (Array.mk []))]]]:=(⟨zD,rfl⟩);have fT:=(@Go.Bd.aku (a) (b));by_cases c1:(gJ (BE.dv a) (BE.dv b)=(0:Int))
 .have h:=h.1 c1;exact aJ [kt (Eq.refl true),ko (bC.elem [AV.fn (Fn.func 270) [] [AV.iG [AV.lit (Value.func (Fn.func 207) (Array.mk []) (Array.mk []))]]]),kp bS,kc [] fT,kf (show(gJ (BE.dv a) (BE.dv b)!=0)=false from(y27 (beq_iff_eq.2 c1)))] (aB 23 [0,1,2,3,4,5,9,10,11]) 2 h zQ
 .have h:=h.2 c1;obtain⟨eX,e1⟩:=h;exact bN.to ((show Rq 0 269 0 (b1S xK xD xQ a b 1) bF.ret (sM 23 [(5,int (gJ (BE.dv a) (BE.dv b)))] [.box [str (BE.ky a),int (BE.dv a),int (BE.sq a),int (BE.tm a),str (BE.vl a)],.box [str (BE.ky b),int (BE.dv b),int (BE.sq b),int (BE.tm b),str (BE.vl b)]])from aG [kt (Eq.refl true),ko (bC.elem [AV.fn (Fn.func 270) [] [AV.iG [AV.lit (Value.func (Fn.func 207) (Array.mk []) (Array.mk []))]]]),kp bS,kc [] fT,kt (show(gJ (BE.dv a) (BE.dv b)!=0)=true from(y27 (beq_eq_false_iff_ne.2 c1)))] (aB 23 [5]) 2 zQ)) eX (eB.aC ⟨rfl,(aF.int_eq e1),yO⟩)
theorem aem(a b:BE)(ex:bF)(r:Int)(h:(((gJ (BE.sq a) (BE.sq b)=(0:Int))->Rq 0 269 0 (sM 23 [(0,.agg [str (BE.ky a),int (BE.dv a),int (BE.sq a),int (BE.tm a),str (BE.vl a)]),(1,.agg [str (BE.ky b),int (BE.dv b),int (BE.sq b),int (BE.tm b),str (BE.vl b)]),(2,AV.iG [.sl 1 true [[.fn (Fn.func 305) [] [AV.iG [AV.lit (Value.func (Fn.func 289) (Array.mk []) (Array.mk []))]]],[.fn (Fn.func 270) [] [AV.iG [AV.lit (Value.func (Fn.func 207) (Array.mk []) (Array.mk []))]]],[.fn (Fn.func 270) [] [AV.iG [AV.lit (Value.func (Fn.func 208) (Array.mk []) (Array.mk []))]]]]]),(3,.ptr 0 0),(4,.ptr 1 0),(5,int 0),(9,.sl 1 true [[.fn (Fn.func 305) [] [AV.iG [AV.lit (Value.func (Fn.func 289) (Array.mk []) (Array.mk []))]]],[.fn (Fn.func 270) [] [AV.iG [AV.lit (Value.func (Fn.func 207) (Array.mk []) (Array.mk []))]]],[.fn (Fn.func 270) [] [AV.iG [AV.lit (Value.func (Fn.func 208) (Array.mk []) (Array.mk []))]]]]),(10,int 3),(11,int 3)] [.box [str (BE.ky a),int (BE.dv a),int (BE.sq a),int (BE.tm a),str (BE.vl a)],.box [str (BE.ky b),int (BE.dv b),int (BE.sq b),int (BE.tm b),str (BE.vl b)]]) ex (b1E a b r))/\((¬gJ (BE.sq a) (BE.sq b)=(0:Int))->(bF.ret=ex)/\((gJ (BE.sq a) (BE.sq b):Int)=(r))))):Rq 0 269 0 (b1S xK xD xQ a b 2) ex (b1E a b r):=by
 have bS:(0:Int)<=(2:Int)/\[[xK],[xD],[xQ]][Int.toNat (↑2:Int)]?=some [AV.fn (Fn.func 270) [] [AV.iG [AV.lit (Value.func (Fn.func 208) (Array.mk []) (Array.mk []))]]]:=(⟨zD,rfl⟩);have fT:=(@Go.Bd.akv (a) (b));by_cases c1:(gJ (BE.sq a) (BE.sq b)=(0:Int))
 .have h:=h.1 c1;exact aJ [kt (Eq.refl true),ko (bC.elem [AV.fn (Fn.func 270) [] [AV.iG [AV.lit (Value.func (Fn.func 208) (Array.mk []) (Array.mk []))]]]),kp bS,kc [] fT,kf (show(gJ (BE.sq a) (BE.sq b)!=0)=false from(y27 (beq_iff_eq.2 c1)))] (aB 23 [0,1,2,3,4,5,9,10,11]) 2 h zQ
 .have h:=h.2 c1;obtain⟨eX,e1⟩:=h;exact bN.to ((show Rq 0 269 0 (b1S xK xD xQ a b 2) bF.ret (sM 23 [(5,int (gJ (BE.sq a) (BE.sq b)))] [.box [str (BE.ky a),int (BE.dv a),int (BE.sq a),int (BE.tm a),str (BE.vl a)],.box [str (BE.ky b),int (BE.dv b),int (BE.sq b),int (BE.tm b),str (BE.vl b)]])from aG [kt (Eq.refl true),ko (bC.elem [AV.fn (Fn.func 270) [] [AV.iG [AV.lit (Value.func (Fn.func 208) (Array.mk []) (Array.mk []))]]]),kp bS,kc [] fT,kt (show(gJ (BE.sq a) (BE.sq b)!=0)=true from(y27 (beq_eq_false_iff_ne.2 c1)))] (aB 23 [5]) 2 zQ)) eX (eB.aC ⟨rfl,(aF.int_eq e1),yO⟩)
theorem akw(a b:BE)(ex:bF)(r:Int)(h:(bF.exit 0=ex)/\((0:Int)=(r))):Rq 0 269 0 (b1S xK xD xQ a b 3) ex (b1E a b r):=by
 obtain⟨eX,e1⟩:=h;exact bN.to ((show Rq 0 269 0 (b1S xK xD xQ a b 3) (bF.exit 0) (sM 23 [(5,int 0)] [.box [str (BE.ky a),int (BE.dv a),int (BE.sq a),int (BE.tm a),str (BE.vl a)],.box [str (BE.ky b),int (BE.dv b),int (BE.sq b),int (BE.tm b),str (BE.vl b)]])from aG [kf (Eq.refl false)] (aB 23 [5]) 2 zQ)) eX (eB.aC ⟨rfl,(aF.int_eq e1),yO⟩)
theorem aF7(a b:BE)(ex:bF)(r:Int)(h:(((gJ (BE.tm a) (BE.tm b)=(0:Int))->Rq 0 269 0 (sM 23 [(0,.agg [str (BE.ky a),int (BE.dv a),int (BE.sq a),int (BE.tm a),str (BE.vl a)]),(1,.agg [str (BE.ky b),int (BE.dv b),int (BE.sq b),int (BE.tm b),str (BE.vl b)]),(2,AV.iG [.sl 1 true [[.fn (Fn.func 270) [] [AV.iG [AV.lit (Value.func (Fn.func 206) (Array.mk []) (Array.mk []))]]],[.fn (Fn.func 270) [] [AV.iG [AV.lit (Value.func (Fn.func 207) (Array.mk []) (Array.mk []))]]],[.fn (Fn.func 270) [] [AV.iG [AV.lit (Value.func (Fn.func 208) (Array.mk []) (Array.mk []))]]]]]),(3,.ptr 0 0),(4,.ptr 1 0),(5,int 0),(9,.sl 1 true [[.fn (Fn.func 270) [] [AV.iG [AV.lit (Value.func (Fn.func 206) (Array.mk []) (Array.mk []))]]],[.fn (Fn.func 270) [] [AV.iG [AV.lit (Value.func (Fn.func 207) (Array.mk []) (Array.mk []))]]],[.fn (Fn.func 270) [] [AV.iG [AV.lit (Value.func (Fn.func 208) (Array.mk []) (Array.mk []))]]]]),(10,int 3),(11,int 1)] [.box [str (BE.ky a),int (BE.dv a),int (BE.sq a),int (BE.tm a),str (BE.vl a)],.box [str (BE.ky b),int (BE.dv b),int (BE.sq b),int (BE.tm b),str (BE.vl b)]]) ex (b1E a b r))/\((¬gJ (BE.tm a) (BE.tm b)=(0:Int))->(bF.ret=ex)/\((gJ (BE.tm a) (BE.tm b):Int)=(r))))):Rq 0 269 0 (b1S xT xD xQ a b 0) ex (b1E a b r):=by
 have bS:(0:Int)<=(0:Int)/\[[xT],[xD],[xQ]][Int.toNat (↑0:Int)]?=some [AV.fn (Fn.func 270) [] [AV.iG [AV.lit (Value.func (Fn.func 206) (Array.mk []) (Array.mk []))]]]:=(⟨zD,rfl⟩);have fT:=(@Go.Bd.aIr (a) (b));by_cases c1:(gJ (BE.tm a) (BE.tm b)=(0:Int))
 .have h:=h.1 c1;exact aJ [kt (Eq.refl true),ko (bC.elem [AV.fn (Fn.func 270) [] [AV.iG [AV.lit (Value.func (Fn.func 206) (Array.mk []) (Array.mk []))]]]),kp bS,kc [] fT,kf (show(gJ (BE.tm a) (BE.tm b)!=0)=false from(y27 (beq_iff_eq.2 c1)))] (aB 23 [0,1,2,3,4,5,9,10,11]) 2 h zQ
 .have h:=h.2 c1;obtain⟨eX,e1⟩:=h;exact bN.to ((show Rq 0 269 0 (b1S xT xD xQ a b 0) bF.ret (sM 23 [(5,int (gJ (BE.tm a) (BE.tm b)))] [.box [str (BE.ky a),int (BE.dv a),int (BE.sq a),int (BE.tm a),str (BE.vl a)],.box [str (BE.ky b),int (BE.dv b),int (BE.sq b),int (BE.tm b),str (BE.vl b)]])from aG [kt (Eq.refl true),ko (bC.elem [AV.fn (Fn.func 270) [] [AV.iG [AV.lit (Value.func (Fn.func 206) (Array.mk []) (Array.mk []))]]]),kp bS,kc [] fT,kt (show(gJ (BE.tm a) (BE.tm b)!=0)=true from(y27 (beq_eq_false_iff_ne.2 c1)))] (aB 23 [5]) 2 zQ)) eX (eB.aC ⟨rfl,(aF.int_eq e1),yO⟩)
theorem aF8(a b:BE)(ex:bF)(r:Int)(h:(((gJ (BE.dv a) (BE.dv b)=(0:Int))->Rq 0 269 0 (sM 23 [(0,.agg [str (BE.ky a),int (BE.dv a),int (BE.sq a),int (BE.tm a),str (BE.vl a)]),(1,.agg [str (BE.ky b),int (BE.dv b),int (BE.sq b),int (BE.tm b),str (BE.vl b)]),(2,AV.iG [.sl 1 true [[.fn (Fn.func 270) [] [AV.iG [AV.lit (Value.func (Fn.func 206) (Array.mk []) (Array.mk []))]]],[.fn (Fn.func 270) [] [AV.iG [AV.lit (Value.func (Fn.func 207) (Array.mk []) (Array.mk []))]]],[.fn (Fn.func 270) [] [AV.iG [AV.lit (Value.func (Fn.func 208) (Array.mk []) (Array.mk []))]]]]]),(3,.ptr 0 0),(4,.ptr 1 0),(5,int 0),(9,.sl 1 true [[.fn (Fn.func 270) [] [AV.iG [AV.lit (Value.func (Fn.func 206) (Array.mk []) (Array.mk []))]]],[.fn (Fn.func 270) [] [AV.iG [AV.lit (Value.func (Fn.func 207) (Array.mk []) (Array.mk []))]]],[.fn (Fn.func 270) [] [AV.iG [AV.lit (Value.func (Fn.func 208) (Array.mk []) (Array.mk []))]]]]),(10,int 3),(11,int 2)] [.box [str (BE.ky a),int (BE.dv a),int (BE.sq a),int (BE.tm a),str (BE.vl a)],.box [str (BE.ky b),int (BE.dv b),int (BE.sq b),int (BE.tm b),str (BE.vl b)]]) ex (b1E a b r))/\((¬gJ (BE.dv a) (BE.dv b)=(0:Int))->(bF.ret=ex)/\((gJ (BE.dv a) (BE.dv b):Int)=(r))))):Rq 0 269 0 (b1S xT xD xQ a b 1) ex (b1E a b r):=by
 have bS:(0:Int)<=(1:Int)/\[[xT],[xD],[xQ]][Int.toNat (↑1:Int)]?=some [AV.fn (Fn.func 270) [] [AV.iG [AV.lit (Value.func (Fn.func 207) (Array.mk []) (Array.mk []))]]]:=(⟨zD,rfl⟩);have fT:=(@Go.Bd.aku (a) (b));by_cases c1:(gJ (BE.dv a) (BE.dv b)=(0:Int))
 .have h:=h.1 c1;exact aJ [kt (Eq.refl true),ko (bC.elem [AV.fn (Fn.func 270) [] [AV.iG [AV.lit (Value.func (Fn.func 207) (Array.mk []) (Array.mk []))]]]),kp bS,kc [] fT,kf (show(gJ (BE.dv a) (BE.dv b)!=0)=false from(y27 (beq_iff_eq.2 c1)))] (aB 23 [0,1,2,3,4,5,9,10,11]) 2 h zQ
 .have h:=h.2 c1;obtain⟨eX,e1⟩:=h;exact bN.to ((show Rq 0 269 0 (b1S xT xD xQ a b 1) bF.ret (sM 23 [(5,int (gJ (BE.dv a) (BE.dv b)))] [.box [str (BE.ky a),int (BE.dv a),int (BE.sq a),int (BE.tm a),str (BE.vl a)],.box [str (BE.ky b),int (BE.dv b),int (BE.sq b),int (BE.tm b),str (BE.vl b)]])from aG [kt (Eq.refl true),ko (bC.elem [AV.fn (Fn.func 270) [] [AV.iG [AV.lit (Value.func (Fn.func 207) (Array.mk []) (Array.mk []))]]]),kp bS,kc [] fT,kt (show(gJ (BE.dv a) (BE.dv b)!=0)=true from(y27 (beq_eq_false_iff_ne.2 c1)))] (aB 23 [5]) 2 zQ)) eX (eB.aC ⟨rfl,(aF.int_eq e1),yO⟩)
theorem aF9(a b:BE)(ex:bF)(r:Int)(h:(((gJ (BE.sq a) (BE.sq b)=(0:Int))->Rq 0 269 0 (sM 23 [(0,.agg [str (BE.ky a),int (BE.dv a),int (BE.sq a),int (BE.tm a),str (BE.vl a)]),(1,.agg [str (BE.ky b),int (BE.dv b),int (BE.sq b),int (BE.tm b),str (BE.vl b)]),(2,AV.iG [.sl 1 true [[.fn (Fn.func 270) [] [AV.iG [AV.lit (Value.func (Fn.func 206) (Array.mk []) (Array.mk []))]]],[.fn (Fn.func 270) [] [AV.iG [AV.lit (Value.func (Fn.func 207) (Array.mk []) (Array.mk []))]]],[.fn (Fn.func 270) [] [AV.iG [AV.lit (Value.func (Fn.func 208) (Array.mk []) (Array.mk []))]]]]]),(3,.ptr 0 0),(4,.ptr 1 0),(5,int 0),(9,.sl 1 true [[.fn (Fn.func 270) [] [AV.iG [AV.lit (Value.func (Fn.func 206) (Array.mk []) (Array.mk []))]]],[.fn (Fn.func 270) [] [AV.iG [AV.lit (Value.func (Fn.func 207) (Array.mk []) (Array.mk []))]]],[.fn (Fn.func 270) [] [AV.iG [AV.lit (Value.func (Fn.func 208) (Array.mk []) (Array.mk []))]]]]),(10,int 3),(11,int 3)] [.box [str (BE.ky a),int (BE.dv a),int (BE.sq a),int (BE.tm a),str (BE.vl a)],.box [str (BE.ky b),int (BE.dv b),int (BE.sq b),int (BE.tm b),str (BE.vl b)]]) ex (b1E a b r))/\((¬gJ (BE.sq a) (BE.sq b)=(0:Int))->(bF.ret=ex)/\((gJ (BE.sq a) (BE.sq b):Int)=(r))))):Rq 0 269 0 (b1S xT xD xQ a b 2) ex (b1E a b r):=by
 have bS:(0:Int)<=(2:Int)/\[[xT],[xD],[xQ]][Int.toNat (↑2:Int)]?=some [AV.fn (Fn.func 270) [] [AV.iG [AV.lit (Value.func (Fn.func 208) (Array.mk []) (Array.mk []))]]]:=(⟨zD,rfl⟩);have fT:=(@Go.Bd.akv (a) (b));by_cases c1:(gJ (BE.sq a) (BE.sq b)=(0:Int))
 .have h:=h.1 c1;exact aJ [kt (Eq.refl true),ko (bC.elem [AV.fn (Fn.func 270) [] [AV.iG [AV.lit (Value.func (Fn.func 208) (Array.mk []) (Array.mk []))]]]),kp bS,kc [] fT,kf (show(gJ (BE.sq a) (BE.sq b)!=0)=false from(y27 (beq_iff_eq.2 c1)))] (aB 23 [0,1,2,3,4,5,9,10,11]) 2 h zQ
 .have h:=h.2 c1;obtain⟨eX,e1⟩:=h;exact bN.to ((show Rq 0 269 0 (b1S xT xD xQ a b 2) bF.ret (sM 23 [(5,int (gJ (BE.sq a) (BE.sq b)))] [.box [str (BE.ky a),int (BE.dv a),int (BE.sq a),int (BE.tm a),str (BE.vl a)],.box [str (BE.ky b),int (BE.dv b),int (BE.sq b),int (BE.tm b),str (BE.vl b)]])from aG [kt (Eq.refl true),ko (bC.elem [AV.fn (Fn.func 270) [] [AV.iG [AV.lit (Value.func (Fn.func 208) (Array.mk []) (Array.mk []))]]]),kp bS,kc [] fT,kt (show(gJ (BE.sq a) (BE.sq b)!=0)=true from(y27 (beq_eq_false_iff_ne.2 c1)))] (aB 23 [5]) 2 zQ)) eX (eB.aC ⟨rfl,(aF.int_eq e1),yO⟩)
theorem aIs(a b:BE)(ex:bF)(r:Int)(h:(bF.exit 0=ex)/\((0:Int)=(r))):Rq 0 269 0 (b1S xT xD xQ a b 3) ex (b1E a b r):=by
 obtain⟨eX,e1⟩:=h;exact bN.to ((show Rq 0 269 0 (b1S xT xD xQ a b 3) (bF.exit 0) (sM 23 [(5,int 0)] [.box [str (BE.ky a),int (BE.dv a),int (BE.sq a),int (BE.tm a),str (BE.vl a)],.box [str (BE.ky b),int (BE.dv b),int (BE.sq b),int (BE.tm b),str (BE.vl b)]])from aG [kf (Eq.refl false)] (aB 23 [5]) 2 zQ)) eX (eB.aC ⟨rfl,(aF.int_eq e1),yO⟩)
theorem Zt(a b:BE):Rq 0 269 0 (b1S xK xD xQ a b 0) (if gM a b=0 then .exit 0 else .ret) (b1E a b (gM a b)):=by
 unfold gM thn;by_cases h1:oq a.ky b.ky=0
 .rw [yL h1];refine aek a b _ _ ⟨fun _=>?_,fun h=>absurd h1 h⟩;by_cases h2:gJ a.dv b.dv=0
  .rw [yL h2];refine ael a b _ _ ⟨fun _=>?_,fun h=>absurd h2 h⟩;by_cases h3:gJ a.sq b.sq=0
   .refine aem a b _ _ ⟨fun _=>?_,fun h=>absurd h3 h⟩;rw[yL h3,h3];exact akw a b _ _ ⟨rfl,rfl⟩
   .rw [yK h3];exact aem a b _ _ ⟨fun h=>absurd h h3,fun _=>⟨rfl,rfl⟩⟩
  .rw [yK h2,yK h2];exact ael a b _ _ ⟨fun h=>absurd h h2,fun _=>⟨rfl,rfl⟩⟩
 .rw [yK h1,yK h1];exact aek a b _ _ ⟨fun h=>absurd h h1,fun _=>⟨rfl,rfl⟩⟩
theorem akx(a b:BE)(r:Int)(h:(((gM a b=(0:Int))->(0:Int)=(r))/\((¬gM a b=(0:Int))->(gM a b:Int)=(r)))):Cq 269 [oN a,oN b,AV.iG [Pm xK xD xQ]] (int r):=by
 by_cases c1:(gM a b=(0:Int))
 .have h:=h.1 c1;have e1:=h;exact aA (aF.int_eq e1) [kl [6,7,8,12,13,14,15,16,17,18,19,20,21,22] 2 (show Rq 0 269 0 (sM 23 [(0,.agg [str (BE.ky a),int (BE.dv a),int (BE.sq a),int (BE.tm a),str (BE.vl a)]),(1,.agg [str (BE.ky b),int (BE.dv b),int (BE.sq b),int (BE.tm b),str (BE.vl b)]),(2,AV.iG [.sl 1 true [[.fn (Fn.func 305) [] [AV.iG [AV.lit (Value.func (Fn.func 289) (Array.mk []) (Array.mk []))]]],[.fn (Fn.func 270) [] [AV.iG [AV.lit (Value.func (Fn.func 207) (Array.mk []) (Array.mk []))]]],[.fn (Fn.func 270) [] [AV.iG [AV.lit (Value.func (Fn.func 208) (Array.mk []) (Array.mk []))]]]]]),(3,.ptr 0 0),(4,.ptr 1 0),(5,int 0),(9,.sl 1 true [[.fn (Fn.func 305) [] [AV.iG [AV.lit (Value.func (Fn.func 289) (Array.mk []) (Array.mk []))]]],[.fn (Fn.func 270) [] [AV.iG [AV.lit (Value.func (Fn.func 207) (Array.mk []) (Array.mk []))]]],[.fn (Fn.func 270) [] [AV.iG [AV.lit (Value.func (Fn.func 208) (Array.mk []) (Array.mk []))]]]]),(10,int 3),(11,int 0)] [.box [str (BE.ky a),int (BE.dv a),int (BE.sq a),int (BE.tm a),str (BE.vl a)],.box [str (BE.ky b),int (BE.dv b),int (BE.sq b),int (BE.tm b),str (BE.vl b)]]) (bF.exit 0) (sM 23 [(5,int (gM a b))] [.box [str (BE.ky a),int (BE.dv a),int (BE.sq a),int (BE.tm a),str (BE.vl a)],.box [str (BE.ky b),int (BE.dv b),int (BE.sq b),int (BE.tm b),str (BE.vl b)]])from(by have h0:=(@Go.Bd.Zt (a) (b));simp only[yL c1]at h0;exact h0))] zQ
 .have h:=h.2 c1;have e1:=h;exact aA (aF.int_eq e1) [kl [6,7,8,12,13,14,15,16,17,18,19,20,21,22] 2 (show Rq 0 269 0 (sM 23 [(0,.agg [str (BE.ky a),int (BE.dv a),int (BE.sq a),int (BE.tm a),str (BE.vl a)]),(1,.agg [str (BE.ky b),int (BE.dv b),int (BE.sq b),int (BE.tm b),str (BE.vl b)]),(2,AV.iG [.sl 1 true [[.fn (Fn.func 305) [] [AV.iG [AV.lit (Value.func (Fn.func 289) (Array.mk []) (Array.mk []))]]],[.fn (Fn.func 270) [] [AV.iG [AV.lit (Value.func (Fn.func 207) (Array.mk []) (Array.mk []))]]],[.fn (Fn.func 270) [] [AV.iG [AV.lit (Value.func (Fn.func 208) (Array.mk []) (Array.mk []))]]]]]),(3,.ptr 0 0),(4,.ptr 1 0),(5,int 0),(9,.sl 1 true [[.fn (Fn.func 305) [] [AV.iG [AV.lit (Value.func (Fn.func 289) (Array.mk []) (Array.mk []))]]],[.fn (Fn.func 270) [] [AV.iG [AV.lit (Value.func (Fn.func 207) (Array.mk []) (Array.mk []))]]],[.fn (Fn.func 270) [] [AV.iG [AV.lit (Value.func (Fn.func 208) (Array.mk []) (Array.mk []))]]]]),(10,int 3),(11,int 0)] [.box [str (BE.ky a),int (BE.dv a),int (BE.sq a),int (BE.tm a),str (BE.vl a)],.box [str (BE.ky b),int (BE.dv b),int (BE.sq b),int (BE.tm b),str (BE.vl b)]]) bF.ret (sM 23 [(5,int (gM a b))] [.box [str (BE.ky a),int (BE.dv a),int (BE.sq a),int (BE.tm a),str (BE.vl a)],.box [str (BE.ky b),int (BE.dv b),int (BE.sq b),int (BE.tm b),str (BE.vl b)]])from(by have h0:=(@Go.Bd.Zt (a) (b));simp only[yK c1]at h0;exact h0))] zQ
theorem aky(a b:BE):Cq 269 [oN a,oN b,.iG [Pm xK xD xQ]] (int (gM a b)):=akx a b _ (by
 by_cases h:gM a b=0
 .simp [h]
 .simp [h])
theorem agk:Cq 204 [Pm xK xD xQ] (byF xK xD xQ):=ak.Zq (anQ xK xD xQ yO) rfl
theorem aDT(a b:BE):Rq 0 269 0 (b1S xT xD xQ a b 0) (if zC a b=0 then .exit 0 else .ret) (b1E a b (zC a b)):=by
 unfold zC thn;by_cases h1:gJ a.tm b.tm=0
 .rw [yL h1];refine aF7 a b _ _ ⟨fun _=>?_,fun h=>absurd h1 h⟩;by_cases h2:gJ a.dv b.dv=0
  .rw [yL h2];refine aF8 a b _ _ ⟨fun _=>?_,fun h=>absurd h2 h⟩;by_cases h3:gJ a.sq b.sq=0
   .refine aF9 a b _ _ ⟨fun _=>?_,fun h=>absurd h3 h⟩;rw[yL h3,h3];exact aIs a b _ _ ⟨rfl,rfl⟩
   .rw [yK h3];exact aF9 a b _ _ ⟨fun h=>absurd h h3,fun _=>⟨rfl,rfl⟩⟩
  .rw [yK h2,yK h2];exact aF8 a b _ _ ⟨fun h=>absurd h h2,fun _=>⟨rfl,rfl⟩⟩
 .rw [yK h1,yK h1];exact aF7 a b _ _ ⟨fun h=>absurd h h1,fun _=>⟨rfl,rfl⟩⟩
theorem aIt(a b:BE)(r:Int)(h:(((zC a b=(0:Int))->(0:Int)=(r))/\((¬zC a b=(0:Int))->(zC a b:Int)=(r)))):Cq 269 [oN a,oN b,AV.iG [Pm xT xD xQ]] (int r):=by
 by_cases c1:(zC a b=(0:Int))
 .have h:=h.1 c1;have e1:=h;exact aA (aF.int_eq e1) [kl [6,7,8,12,13,14,15,16,17,18,19,20,21,22] 2 (show Rq 0 269 0 (sM 23 [(0,.agg [str (BE.ky a),int (BE.dv a),int (BE.sq a),int (BE.tm a),str (BE.vl a)]),(1,.agg [str (BE.ky b),int (BE.dv b),int (BE.sq b),int (BE.tm b),str (BE.vl b)]),(2,AV.iG [.sl 1 true [[.fn (Fn.func 270) [] [AV.iG [AV.lit (Value.func (Fn.func 206) (Array.mk []) (Array.mk []))]]],[.fn (Fn.func 270) [] [AV.iG [AV.lit (Value.func (Fn.func 207) (Array.mk []) (Array.mk []))]]],[.fn (Fn.func 270) [] [AV.iG [AV.lit (Value.func (Fn.func 208) (Array.mk []) (Array.mk []))]]]]]),(3,.ptr 0 0),(4,.ptr 1 0),(5,int 0),(9,.sl 1 true [[.fn (Fn.func 270) [] [AV.iG [AV.lit (Value.func (Fn.func 206) (Array.mk []) (Array.mk []))]]],[.fn (Fn.func 270) [] [AV.iG [AV.lit (Value.func (Fn.func 207) (Array.mk []) (Array.mk []))]]],[.fn (Fn.func 270) [] [AV.iG [AV.lit (Value.func (Fn.func 208) (Array.mk []) (Array.mk []))]]]]),(10,int 3),(11,int 0)] [.box [str (BE.ky a),int (BE.dv a),int (BE.sq a),int (BE.tm a),str (BE.vl a)],.box [str (BE.ky b),int (BE.dv b),int (BE.sq b),int (BE.tm b),str (BE.vl b)]]) (bF.exit 0) (sM 23 [(5,int (zC a b))] [.box [str (BE.ky a),int (BE.dv a),int (BE.sq a),int (BE.tm a),str (BE.vl a)],.box [str (BE.ky b),int (BE.dv b),int (BE.sq b),int (BE.tm b),str (BE.vl b)]])from(by have h0:=(@Go.Bd.aDT (a) (b));simp only[yL c1]at h0;exact h0))] zQ
 .have h:=h.2 c1;have e1:=h;exact aA (aF.int_eq e1) [kl [6,7,8,12,13,14,15,16,17,18,19,20,21,22] 2 (show Rq 0 269 0 (sM 23 [(0,.agg [str (BE.ky a),int (BE.dv a),int (BE.sq a),int (BE.tm a),str (BE.vl a)]),(1,.agg [str (BE.ky b),int (BE.dv b),int (BE.sq b),int (BE.tm b),str (BE.vl b)]),(2,AV.iG [.sl 1 true [[.fn (Fn.func 270) [] [AV.iG [AV.lit (Value.func (Fn.func 206) (Array.mk []) (Array.mk []))]]],[.fn (Fn.func 270) [] [AV.iG [AV.lit (Value.func (Fn.func 207) (Array.mk []) (Array.mk []))]]],[.fn (Fn.func 270) [] [AV.iG [AV.lit (Value.func (Fn.func 208) (Array.mk []) (Array.mk []))]]]]]),(3,.ptr 0 0),(4,.ptr 1 0),(5,int 0),(9,.sl 1 true [[.fn (Fn.func 270) [] [AV.iG [AV.lit (Value.func (Fn.func 206) (Array.mk []) (Array.mk []))]]],[.fn (Fn.func 270) [] [AV.iG [AV.lit (Value.func (Fn.func 207) (Array.mk []) (Array.mk []))]]],[.fn (Fn.func 270) [] [AV.iG [AV.lit (Value.func (Fn.func 208) (Array.mk []) (Array.mk []))]]]]),(10,int 3),(11,int 0)] [.box [str (BE.ky a),int (BE.dv a),int (BE.sq a),int (BE.tm a),str (BE.vl a)],.box [str (BE.ky b),int (BE.dv b),int (BE.sq b),int (BE.tm b),str (BE.vl b)]]) bF.ret (sM 23 [(5,int (zC a b))] [.box [str (BE.ky a),int (BE.dv a),int (BE.sq a),int (BE.tm a),str (BE.vl a)],.box [str (BE.ky b),int (BE.dv b),int (BE.sq b),int (BE.tm b),str (BE.vl b)]])from(by have h0:=(@Go.Bd.aDT (a) (b));simp only[yK c1]at h0;exact h0))] zQ
theorem aIu(a b:BE):Cq 269 [oN a,oN b,.iG [Pm xT xD xQ]] (int (zC a b)):=aIt a b _ (by
 by_cases h:zC a b=0
 .simp [h]
 .simp [h])
theorem aGN:Cq 204 [Pm xT xD xQ] (byF xT xD xQ):=ak.Zq (anQ xT xD xQ yO) rfl
theorem acG(a b:BE)(h:True):Cq 242 [oN a,oN b] (int (gM a b)):=by
 have _:=h;exact aj [kc [] (@Go.Bd.agj (289)),kc [] (@Go.Bd.Zr (207)),kc [] (@Go.Bd.Zr (208)),kc [] (@Go.Bd.agk ),kc [] (@Go.Bd.aky (a) (b))] zQ
theorem aDU(a b:BE)(h:True):Cq 106 [oN a,oN b] (int (zC a b)):=by
 have _:=h;exact aj [kc [] (@Go.Bd.Zr (206)),kc [] (@Go.Bd.Zr (207)),kc [] (@Go.Bd.Zr (208)),kc [] (@Go.Bd.aGN ),kc [] (@Go.Bd.aIu (a) (b))] zQ
theorem DC(a b:BE):Cq 242 [oN a,oN b] (int (gM a b)):=acG a b trivial
theorem aDy(a b:BE):Cq 106 [oN a,oN b] (int (zC a b)):=aDU a b trivial
def dF(x:BE):Bool:=decide ((x.ky.size:Int)<=64)&&decide ((x.vl.size:Int)<=4096)&&decide (x.tm>=1)&&decide (x.tm<=1099511627776)&&decide (x.dv>=0)&&decide (x.dv<512)&&decide (x.sq>=1)&&decide (x.sq<=1048576)
def agl(a b c d:Int):Bool:=decide (a<c)||(decide (a=c)&&decide (b<d))
def lI(a b:BE):Bool:=Dz a.ky b.ky||(decide (a.ky=b.ky)&&agl a.dv a.sq b.dv b.sq)
def CS(a b:BE):Bool:=decide (a.tm>b.tm)||(decide (a.tm=b.tm)&&agl b.dv b.sq a.dv a.sq)
theorem M9(a:BE)(h:((((↑(ByteArray.size (BE.ky a)):Int)<=(64:Int))->((((↑(ByteArray.size (BE.vl a)):Int)<=(4096:Int))->(((BE.tm a>=(1:Int))->(((BE.tm a<=(1099511627776:Int))->(((BE.dv a>=(0:Int))->(((BE.dv a<(512:Int))->(((BE.sq a>=(1:Int))->(decide (BE.sq a<=(1048576:Int)))=(dF a))/\((¬BE.sq a>=(1:Int))->(false)=(dF a))))/\((¬BE.dv a<(512:Int))->(false)=(dF a))))/\((¬BE.dv a>=(0:Int))->(false)=(dF a))))/\((¬BE.tm a<=(1099511627776:Int))->(false)=(dF a))))/\((¬BE.tm a>=(1:Int))->(false)=(dF a))))/\((¬(↑(ByteArray.size (BE.vl a)):Int)<=(4096:Int))->(false)=(dF a))))/\((¬(↑(ByteArray.size (BE.ky a)):Int)<=(64:Int))->(false)=(dF a)))):Cq 241 [oN a] (Am.bool (dF a)):=by
 by_cases c1:((↑(ByteArray.size (BE.ky a)):Int)<=(64:Int))
 .have h:=h.1 c1;by_cases c2:((↑(ByteArray.size (BE.vl a)):Int)<=(4096:Int))
  .have h:=h.1 c2;by_cases c3:(BE.tm a>=(1:Int))
   .have h:=h.1 c3;by_cases c4:(BE.tm a<=(1099511627776:Int))
    .have h:=h.1 c4;by_cases c5:(BE.dv a>=(0:Int))
     .have h:=h.1 c5;by_cases c6:(BE.dv a<(512:Int))
      .have h:=h.1 c6;by_cases c7:(BE.sq a>=(1:Int))
       .have h:=h.1 c7;have e1:=h;exact aA (aF.aI e1) [kt (y15 c1),kt (y15 c2),kt (y15 c3),kt (y15 c4),kt (y15 c5),kt (y15 c6),kt (y15 c7)] zQ
       .have h:=h.2 c7;have e1:=h;exact aA (aF.aI e1) [kt (y15 c1),kt (y15 c2),kt (y15 c3),kt (y15 c4),kt (y15 c5),kt (y15 c6),kf (y16 c7)] zQ
      .have h:=h.2 c6;have e1:=h;exact aA (aF.aI e1) [kt (y15 c1),kt (y15 c2),kt (y15 c3),kt (y15 c4),kt (y15 c5),kf (y16 c6),kf (Eq.refl false)] zQ
     .have h:=h.2 c5;have e1:=h;exact aA (aF.aI e1) [kt (y15 c1),kt (y15 c2),kt (y15 c3),kt (y15 c4),kf (y16 c5),kf (Eq.refl false),kf (Eq.refl false)] zQ
    .have h:=h.2 c4;have e1:=h;exact aA (aF.aI e1) [kt (y15 c1),kt (y15 c2),kt (y15 c3),kf (y16 c4),kf (Eq.refl false),kf (Eq.refl false),kf (Eq.refl false)] zQ
   .have h:=h.2 c3;have e1:=h;exact aA (aF.aI e1) [kt (y15 c1),kt (y15 c2),kf (y16 c3),kf (Eq.refl false),kf (Eq.refl false),kf (Eq.refl false),kf (Eq.refl false)] zQ
  .have h:=h.2 c2;have e1:=h;exact aA (aF.aI e1) [kt (y15 c1),kf (y16 c2),kf (Eq.refl false),kf (Eq.refl false),kf (Eq.refl false),kf (Eq.refl false),kf (Eq.refl false)] zQ
 .have h:=h.2 c1;have e1:=h;exact aA (aF.aI e1) [kf (y16 c1),kf (Eq.refl false),kf (Eq.refl false),kf (Eq.refl false),kf (Eq.refl false),kf (Eq.refl false),kf (Eq.refl false)] zQ
theorem aAO(a:BE)(h:((((↑(ByteArray.size (BE.ky a)):Int)<=(64:Int))->((((↑(ByteArray.size (BE.vl a)):Int)<=(4096:Int))->(((BE.tm a>=(1:Int))->(((BE.tm a<=(1099511627776:Int))->(((BE.dv a>=(0:Int))->(((BE.dv a<(512:Int))->(((BE.sq a>=(1:Int))->(decide (BE.sq a<=(1048576:Int)))=(dF a))/\((¬BE.sq a>=(1:Int))->(false)=(dF a))))/\((¬BE.dv a<(512:Int))->(false)=(dF a))))/\((¬BE.dv a>=(0:Int))->(false)=(dF a))))/\((¬BE.tm a<=(1099511627776:Int))->(false)=(dF a))))/\((¬BE.tm a>=(1:Int))->(false)=(dF a))))/\((¬(↑(ByteArray.size (BE.vl a)):Int)<=(4096:Int))->(false)=(dF a))))/\((¬(↑(ByteArray.size (BE.ky a)):Int)<=(64:Int))->(false)=(dF a)))):Cq 224 [oN a] (Am.bool (dF a)):=by
 by_cases c1:((↑(ByteArray.size (BE.ky a)):Int)<=(64:Int))
 .have h:=h.1 c1;by_cases c2:((↑(ByteArray.size (BE.vl a)):Int)<=(4096:Int))
  .have h:=h.1 c2;by_cases c3:(BE.tm a>=(1:Int))
   .have h:=h.1 c3;by_cases c4:(BE.tm a<=(1099511627776:Int))
    .have h:=h.1 c4;by_cases c5:(BE.dv a>=(0:Int))
     .have h:=h.1 c5;by_cases c6:(BE.dv a<(512:Int))
      .have h:=h.1 c6;by_cases c7:(BE.sq a>=(1:Int))
       .have h:=h.1 c7;have e1:=h;exact aA (aF.aI e1) [kt (y15 c1),kt (y15 c2),kt (y15 c3),kt (y15 c4),kt (y15 c5),kt (y15 c6),kt (y15 c7)] zQ
       .have h:=h.2 c7;have e1:=h;exact aA (aF.aI e1) [kt (y15 c1),kt (y15 c2),kt (y15 c3),kt (y15 c4),kt (y15 c5),kt (y15 c6),kf (y16 c7)] zQ
      .have h:=h.2 c6;have e1:=h;exact aA (aF.aI e1) [kt (y15 c1),kt (y15 c2),kt (y15 c3),kt (y15 c4),kt (y15 c5),kf (y16 c6),kf (Eq.refl false)] zQ
     .have h:=h.2 c5;have e1:=h;exact aA (aF.aI e1) [kt (y15 c1),kt (y15 c2),kt (y15 c3),kt (y15 c4),kf (y16 c5),kf (Eq.refl false),kf (Eq.refl false)] zQ
    .have h:=h.2 c4;have e1:=h;exact aA (aF.aI e1) [kt (y15 c1),kt (y15 c2),kt (y15 c3),kf (y16 c4),kf (Eq.refl false),kf (Eq.refl false),kf (Eq.refl false)] zQ
   .have h:=h.2 c3;have e1:=h;exact aA (aF.aI e1) [kt (y15 c1),kt (y15 c2),kf (y16 c3),kf (Eq.refl false),kf (Eq.refl false),kf (Eq.refl false),kf (Eq.refl false)] zQ
  .have h:=h.2 c2;have e1:=h;exact aA (aF.aI e1) [kt (y15 c1),kf (y16 c2),kf (Eq.refl false),kf (Eq.refl false),kf (Eq.refl false),kf (Eq.refl false),kf (Eq.refl false)] zQ
 .have h:=h.2 c1;have e1:=h;exact aA (aF.aI e1) [kf (y16 c1),kf (Eq.refl false),kf (Eq.refl false),kf (Eq.refl false),kf (Eq.refl false),kf (Eq.refl false),kf (Eq.refl false)] zQ
theorem pV(a:BE):Cq 241 [oN a] (bool (dF a)):=M9 a (by
 unfold dF;grind)
theorem avK(a:BE):Cq 224 [oN a] (bool (dF a)):=aAO a (by
 unfold dF;grind)
theorem aGO(a b c d:Int)(r:Bool)(h:(((a<c)->(true)=(r))/\((¬a<c)->(((a=c)->(decide (b<d))=(r))/\((¬a=c)->(false)=(r)))))):Cq 276 [Q9 a b,Q9 c d] (Am.bool r):=by
 by_cases c1:(a<c)
 .have h:=h.1 c1;have e1:=h;exact aA (aF.aI e1) [kt (y15 c1)] zQ
 .have h:=h.2 c1;by_cases c2:(a=c)
  .have h:=h.1 c2;have e1:=h;exact aA (aF.aI e1) [kf (y16 c1),kt (beq_iff_eq.2 c2)] zQ
  .have h:=h.2 c2;have e1:=h;exact aA (aF.aI e1) [kf (y16 c1),kf (beq_eq_false_iff_ne.2 c2)] zQ
theorem aDV(a b c d:Int):Cq 276 [Q9 a b,Q9 c d] (bool (agl a b c d)):=aGO a b c d _ (by
 unfold agl;grind)
theorem aGP(a b:BE)(r:Bool)(h:((((Op.bytesLess (ByteArray.toList (BE.ky a)) (ByteArray.toList (BE.ky b)))=true)->(true)=(r))/\(((Op.bytesLess (ByteArray.toList (BE.ky a)) (ByteArray.toList (BE.ky b)))=false)->((((ByteArray.toList (BE.ky a)==ByteArray.toList (BE.ky b))=true)->(agl (BE.dv a) (BE.sq a) (BE.dv b) (BE.sq b))=(r))/\(((ByteArray.toList (BE.ky a)==ByteArray.toList (BE.ky b))=false)->(false)=(r)))))):Cq 226 [oN a,oN b] (Am.bool r):=by
 rcases y00 ((Op.bytesLess (ByteArray.toList (BE.ky a)) (ByteArray.toList (BE.ky b))))with c1|c1
 .have h:=h.1 c1;have e1:=h;exact aA (aF.aI e1) [kt c1] zQ
 .have h:=h.2 c1;rcases y00 ((ByteArray.toList (BE.ky a)==ByteArray.toList (BE.ky b)))with c2|c2
  .have h:=h.1 c2;have e1:=h;exact aA (aF.aI e1) [kf c1,kt c2,kc [] (@Go.Bd.aDV (BE.dv a) (BE.sq a) (BE.dv b) (BE.sq b))] zQ
  .have h:=h.2 c2;have e1:=h;exact aA (aF.aI e1) [kf c1,kf c2] zQ
theorem aAP(a b:BE):Cq 226 [oN a,oN b] (bool (lI a b)):=aGP a b _ (by
 rw[rC];unfold lI Dz;grind)
theorem aGQ(a b:BE)(r:Bool)(h:(((BE.tm a>BE.tm b)->(true)=(r))/\((¬BE.tm a>BE.tm b)->(((BE.tm a=BE.tm b)->(agl (BE.dv b) (BE.sq b) (BE.dv a) (BE.sq a))=(r))/\((¬BE.tm a=BE.tm b)->(false)=(r)))))):Cq 237 [oN a,oN b] (Am.bool r):=by
 by_cases c1:(BE.tm a>BE.tm b)
 .have h:=h.1 c1;have e1:=h;exact aA (aF.aI e1) [kt (y15 c1)] zQ
 .have h:=h.2 c1;by_cases c2:(BE.tm a=BE.tm b)
  .have h:=h.1 c2;have e1:=h;exact aA (aF.aI e1) [kf (y16 c1),kt (beq_iff_eq.2 c2),kc [] (@Go.Bd.aDV (BE.dv b) (BE.sq b) (BE.dv a) (BE.sq a))] zQ
  .have h:=h.2 c2;have e1:=h;exact aA (aF.aI e1) [kf (y16 c1),kf (beq_eq_false_iff_ne.2 c2)] zQ
theorem aGR(a b:BE):Cq 237 [oN a,oN b] (bool (CS a b)):=aGQ a b _ (by
 unfold CS;grind)
theorem aen:∀ x y,Op.bytesLess x y=decide (x<y)
 |[],[]=>by simp[Op.bytesLess]
 |_::_,[]=>by simp[Op.bytesLess]
 |[],_::_=>by simp[Op.bytesLess]
 |a::x,b::y=>by
  rw[Op.bytesLess,aen x y];simp only[cons_lt_cons_iff];grind
variable {a b:yP}
theorem asJ(h:a.toList=b.toList):a=b:=by
 rw[ByteArray.toList_eq,ByteArray.toList_eq]at h;exact ByteArray.ext (Array.toList_inj.1 h)
theorem TY a b:Dz a b=true↔a.toList<b.toList:=by rw[Dz,aen,decide_eq_true_iff]
theorem RP a:Dz a a=false:=by rw[Bool.eq_false_iff,ne_eq,TY];simp
theorem KG{a b c}(h1:Dz a b=true)(h2:Dz b c=true):Dz a c=true:=by
 rw[TY]at *;grind
theorem aCQ(h1:Dz a b=true):Dz b a=false:=by
 rw[Bool.eq_false_iff];intro h2;have:=KG h1 h2;rw[RP]at this;cases this
theorem arO a b:Dz a b=true\/a=b\/Dz b a=true:=by
 rw[TY,TY];by_cases h1:a.toList<b.toList
 .exact .inl h1
 .by_cases h2:b.toList<a.toList
  .exact .inr (.inr h2)
  .grind [asJ,List.le_antisymm,List.not_lt]
theorem agm{a b}(h:Dz a b=true):a≠b:=fun e=>by rw[e,RP]at h;cases h
theorem acH{a b c d}:agl a b c d=true↔a<c\/(a=c/\b<d):=by simp[agl]
theorem zh{a b}:lI a b=true↔Dz a.ky b.ky=true\/(a.ky=b.ky/\(a.dv<b.dv\/(a.dv=b.dv/\a.sq<b.sq))):=by
 simp[lI,acH]
theorem T9{a b}:oq a b<0↔Dz a b=true:=by grind[oq,Dz]
theorem Ua{a b}:oq a b=0↔a=b:=by grind[oq,Dz,agm]
theorem IQ a b:gM a b<0↔lI a b=true:=by
 rw[zh,<- T9];unfold gM thn;by_cases h:oq a.ky b.ky=0
 .grind [Ua,gJ]
 .grind [Ua]
theorem Pn a b:gM a b>=0↔lI a b=false:=by
 rw[Bool.eq_false_iff,ne_eq,<- IQ];omega
def jh(v:List BE)(k:Nat):Bool:=match v[k]? with
 |some x=>dF x&&(k==0||match v[k-1]? with|some y=>lI y x|none=>false) && !((v.take k).any fun c=>decide (c.eG=x.eG))
 |none=>true
def y9(v:List BE):Nat->Nat->Bool
 |0,_=>true
 |n+1,k=>jh v k&&y9 v n (k+1)
def Cw(v:List BE):Bool:=y9 v v.length 0
def jg(v:List BE):Int:=if Cw v=true then 0 else 140
theorem uM v:∀n k,v.length-k=n->(y9 v n k=true↔∀i,k<=i->i<v.length->jh v i=true)
 |0,k,hn=>by simp only[y9,true_iff];omega
 |n+1,k,hn=>by
  rw[y9,y04,uM v n (k+1) zO];grind
def awV(v:List BE)(i:Nat):St:={ aL:=aC 50 [(0,iK v),(3,int i)],H:=[] }
def rcO:St:={ aL:=aC 50 [],H:=[] }
def rcI(v:List BE)(i k:Nat):St:={ aL:=aC 50 [(0,iK v),(3,int i),(4,int k)],H:=[] }
def rcX(v:List BE)(i:Nat):St:={ aL:=aC 50 [(0,iK v),(3,int i)],H:=[] }
def rcR(r:Int):St:={ aL:=aC 50 [(2,int r)],H:=[] }
theorem aGa(v:List BE)(i k:Nat)(x y:BE)(hv:v.length<=1000000000)(hi:i<v.length)(hk:(k:Int)<(i:Int))(hx:v[k]?=some x)(hy:v[i]?=some y)(hq:(x.dv==y.dv&&x.sq==y.sq)=false)(ex:bF)(s:St)(h:Rq 0 169 1 (sM 50 [(0,.sl 5 false (au v)),(3,int (↑i:Int)),(4,int (↑(k+1):Int))] []) ex s):Rq 0 169 1 (rcI v i k) ex s:=by
 exact aJ [kt (show decide ((↑k:Int)<(↑i:Int))=true from(y15 zO)),ko (bC.elem (aQ x)),ko (bC.elem (aQ y)),kp (show(0:Int)<=(↑k:Int)/\(au v)[Int.toNat (↑k:Int)]?=some (aQ x)from(bG hx)),kp (show(0:Int)<=(↑i:Int)/\(au v)[Int.toNat (↑i:Int)]?=some (aQ y)from(bG hy)),kf hq,kv 38 (show Am.aF (int (IntKind.wrap IntKind.i64 ((↑k:Int)+1))) (int (↑(k+1):Int))from(aF.TJ zO zO zO))] (aB 50 [0,3,4]) 0 h zQ
theorem aIv(v:List BE)(i k:Nat)(x y:BE)(hv:v.length<=1000000000)(hk:(k:Int)<(i:Int))(hx:v[k]?=some x)(hy:v[i]?=some y)(hq:(x.dv==y.dv&&x.sq==y.sq)=true)(h:True):Rq 0 169 1 (rcI v i k) bF.ret (rcR 140):=by
 have _:=h;exact aG [kt (show decide ((↑k:Int)<(↑i:Int))=true from(y15 zO)),ko (bC.elem (aQ x)),ko (bC.elem (aQ y)),kp (show(0:Int)<=(↑k:Int)/\(au v)[Int.toNat (↑k:Int)]?=some (aQ x)from(bG hx)),kp (show(0:Int)<=(↑i:Int)/\(au v)[Int.toNat (↑i:Int)]?=some (aQ y)from(bG hy)),kt hq] (aB 50 [2]) 0 zQ
theorem aIw(v:List BE)(i k:Nat)(hk:¬(k:Int)<(i:Int))(h:True):Rq 0 169 1 (rcI v i k) (bF.exit 2) (rcX v i):=by
 have _:=h;exact aG [kf (show decide ((↑k:Int)<(↑i:Int))=false from(y16 zO))] (aB 50 [0,3]) 0 zQ
def aAQ(v:List BE)(x:BE):Nat->Nat->Bool
 |0,_=>true
 |n+1,k=>match v[k]? with
  |some y=>!decide (y.eG=x.eG)&&aAQ v x n (k+1)
  |none=>true
theorem aBO(v:List BE)(x:BE)(i:Nat)(hi:i<=v.length):∀n k,i-k=n->k<=i->(aAQ v x n k=true↔∀c∈(v.take i).drop k,c.eG≠x.eG)
 |0,k,hn,hk=>by
  rw[y14 (by rw[y18];omega)];simp[aAQ]
 |n+1,k,hn,hk=>by
  have h:k<(v.take i).length:=by rw[y18];omega
  have h':k<v.length:=zO
  rw[aAQ,yA h',y01 h];simp only[y04,Bool.not_eq_true',decide_eq_false_iff_not,yH,forall_eq_or_imp,aBO v x i hi n (k+1) zO zO,getElem_take]
theorem aDW(v:List BE)(x:BE)(i:Nat)(hi:i<=v.length):aAQ v x i 0 = !((v.take i).any fun c=>decide (c.eG=x.eG)):=by
 rw[Bool.eq_iff_iff,aBO v x i hi i 0 zO zO];simp
theorem acI(x y:BE):(x.dv==y.dv&&x.sq==y.sq)=decide (x.eG=y.eG):=by
 rw[Bool.eq_iff_iff];simp[BE.eG]
theorem aAL(v:List BE)(i:Nat)(hv:v.length<=1000000000)(hi:i<v.length):∀n k,i-k=n->k<=i->(aAQ v v[i] n k=true->Rq 0 169 1 (rcI v i k) (.exit 2) (rcX v i))/\(aAQ v v[i] n k=false->Rq 0 169 1 (rcI v i k) .ret (rcR 140)):=by
 intro n
 induction n with
 |zero=>intro k hn hk;exact⟨fun _=>aIw v i k zO yO,fun h=>absurd h (by simp[aAQ])⟩
 |succ n ih =>
  intro k hn hk;have bg:k<v.length:=zO
  have hx:v[k]?=some v[k]:=yA bg;have hy:v[i]?=some v[i]:=yA hi;obtain⟨ih1,ih2⟩:=ih (k+1) zO zO;have e:aAQ v v[i] (n+1) k=(!decide (v[k].eG=v[i].eG)&&aAQ v v[i] n (k+1)):=by rw[aAQ,hx]
  rw[e];cases hd:decide (v[k].eG=v[i].eG)with
  |true=>exact⟨fun h=>by simp at h,fun _=>aIv v i k _ _ hv zO hx hy (by rw[acI,hd]) yO⟩
  |false =>
   rw[Bool.not_false,Bool.true_and];exact⟨fun h=>aGa v i k _ _ hv hi zO hx hy (by rw[acI,hd]) _ _ (ih1 h),fun h=>aGa v i k _ _ hv hi zO hx hy (by rw[acI,hd]) _ _ (ih2 h)⟩
theorem aIx(v:List BE)(i:Nat)(x:BE)(hv:v.length<=1000000000)(hk:(i:Int)<(v.length:Int))(h0:Rq 0 169 1 (rcI v i 0) (.exit 2) (rcX v i))(hx:v[i]?=some x)(hq:dF x=true)(ex:bF)(s:St)(hs:¬(i:Int)>0)(h:Rq 0 169 0 (sM 50 [(0,.sl 5 false (au v)),(3,int (↑(i+1):Int))] []) ex s):Rq 0 169 0 (awV v i) ex s:=by
 exact aJ [kv 7 (show Am.aF (int (↑(length (au v)):Int)) (int (↑(length v):Int))from(aF.of_eq (by simp only[Go.Bd.ay]))),kt (show decide ((↑i:Int)<(↑(length v):Int))=true from(y15 zO)),ko (bC.elem (aQ x)),kp (show(0:Int)<=(↑i:Int)/\(au v)[Int.toNat (↑i:Int)]?=some (aQ x)from(bG hx)),kc [] (@Go.Bd.avK (x)),kf (show(!dF x)=false from(y27 (hq))),kf (show decide ((↑i:Int)>(0:Int))=false from(y16 zO)),kf (Eq.refl false),kl [5,6,7,8,11,12,13,14,15,16,17,18,19,20,21,22,23,24,25,26,27,28,29,30,31,32,33] 0 (@h0 ),kv 10 (show Am.aF (int (IntKind.wrap IntKind.i64 ((↑i:Int)+1))) (int (↑(i+1):Int))from(aF.TJ zO zO zO))] (aB 50 [0,3]) 0 h zQ
theorem aIy(v:List BE)(i:Nat)(x:BE)(hv:v.length<=1000000000)(hk:(i:Int)<(v.length:Int))(h0:Rq 0 169 1 (rcI v i 0) (.exit 2) (rcX v i))(hx:v[i]?=some x)(hq:dF x=true)(hs:(i:Int)>0)(ex:bF)(s:St)(h:(∃x3:BE,((0:Int)<=(↑i:Int)-1/\v[Int.toNat ((↑i:Int)-1)]?=some x3)/\((((lI x3 x)=true)->Rq 0 169 0 (sM 50 [(0,.sl 5 false (au v)),(3,int (↑(i+1):Int))] []) ex s)/\(((lI x3 x)=false)->(bF.ret=ex)/\(sM 50 [] []=s))))):Rq 0 169 0 (awV v i) ex s:=by
 have bS:Am.aF (int (↑(length (au v)):Int)) (int (↑(length v):Int)):=(aF.of_eq (by simp only[Go.Bd.ay]));have fT:decide ((↑i:Int)<(↑(length v):Int))=true:=(y15 zO);have jw:(0:Int)<=(↑i:Int)/\(au v)[Int.toNat (↑i:Int)]?=some (aQ x):=(bG hx);have x9:=(@Go.Bd.avK (x));have Av:(!dF x)=false:=(y27 (hq));have qj:decide ((↑i:Int)>(0:Int))=true:=(y15 zO);have OG:Am.aF (int (IntKind.wrap IntKind.i64 ((↑i:Int)-1))) (int ((↑i:Int)-1)):=(aF.TJ zO zO rfl);obtain⟨x3,o4,h⟩:=h;have H6:(0:Int)<=(↑i:Int)-1/\(au v)[Int.toNat ((↑i:Int)-1)]?=some (aQ x3):=(qU o4);have Qy:=(@Go.Bd.aAP (x3) (x));rcases y00 ((lI x3 x))with c5|c5
 .have h:=h.1 c5;exact aJ [kv 7 bS,kt fT,ko (bC.elem (aQ x)),kp jw,kc [] x9,kf Av,kt qj,kv 23 OG,ko (bC.elem (aQ x3)),ko (bC.elem (aQ x)),kp H6,kp jw,kc [] Qy,kf (show(!lI x3 x)=false from(y27 (c5))),kl [5,6,7,8,11,12,13,14,15,16,17,18,19,20,21,22,23,24,25,26,27,28,29,30,31,32,33] 0 (@h0 ),kv 10 (show Am.aF (int (IntKind.wrap IntKind.i64 ((↑i:Int)+1))) (int (↑(i+1):Int))from(aF.TJ zO zO zO))] (aB 50 [0,3]) 0 h zQ
 .have h:=h.2 c5;obtain⟨eX,eS⟩:=h;exact bN.to ((show Rq 0 169 0 (awV v i) bF.ret (sM 50 [] [])from aG [kv 7 bS,kt fT,ko (bC.elem (aQ x)),kp jw,kc [] x9,kf Av,kt qj,kv 23 OG,ko (bC.elem (aQ x3)),ko (bC.elem (aQ x)),kp H6,kp jw,kc [] Qy,kt (show(!lI x3 x)=true from(y27 (c5)))] (aB 50 []) 0 zQ)) eX (eB.of_eq eS)
theorem aIz(v:List BE)(i:Nat)(x:BE)(hv:v.length<=1000000000)(hk:(i:Int)<(v.length:Int))(hx:v[i]?=some x)(hq:dF x=false)(h:True):Rq 0 169 0 (awV v i) bF.ret (rcR 140):=by
 have _:=h;exact aG [kv 7 (show Am.aF (int (↑(length (au v)):Int)) (int (↑(length v):Int))from(aF.of_eq (by simp only[Go.Bd.ay]))),kt (show decide ((↑i:Int)<(↑(length v):Int))=true from(y15 zO)),ko (bC.elem (aQ x)),kp (show(0:Int)<=(↑i:Int)/\(au v)[Int.toNat (↑i:Int)]?=some (aQ x)from(bG hx)),kc [] (@Go.Bd.avK (x)),kt (show(!dF x)=true from(y27 (hq))),kt (Eq.refl true)] (aB 50 [2]) 0 zQ
theorem aKO(v:List BE)(i:Nat)(x:BE)(hv:v.length<=1000000000)(hk:(i:Int)<(v.length:Int))(h0:Rq 0 169 1 (rcI v i 0) (.exit 2) (rcX v i))(hx:v[i]?=some x)(hq:dF x=true)(hs:(i:Int)>0)(h:(∃x3:BE,((0:Int)<=(↑i:Int)-1/\v[Int.toNat ((↑i:Int)-1)]?=some x3)/\((((lI x3 x)=true)->Rq 0 169 0 (sM 50 [(0,.sl 5 false (au v)),(3,int (↑(i+1):Int))] []) bF.ret (rcR 140))/\(((lI x3 x)=false)->True)))):Rq 0 169 0 (awV v i) bF.ret (rcR 140):=by
 have bS:Am.aF (int (↑(length (au v)):Int)) (int (↑(length v):Int)):=(aF.of_eq (by simp only[Go.Bd.ay]));have fT:decide ((↑i:Int)<(↑(length v):Int))=true:=(y15 zO);have jw:(0:Int)<=(↑i:Int)/\(au v)[Int.toNat (↑i:Int)]?=some (aQ x):=(bG hx);have x9:=(@Go.Bd.avK (x));have Av:(!dF x)=false:=(y27 (hq));have qj:decide ((↑i:Int)>(0:Int))=true:=(y15 zO);have OG:Am.aF (int (IntKind.wrap IntKind.i64 ((↑i:Int)-1))) (int ((↑i:Int)-1)):=(aF.TJ zO zO rfl);obtain⟨x3,o4,h⟩:=h;have H6:(0:Int)<=(↑i:Int)-1/\(au v)[Int.toNat ((↑i:Int)-1)]?=some (aQ x3):=(qU o4);have Qy:=(@Go.Bd.aAP (x3) (x));rcases y00 ((lI x3 x))with c5|c5
 .have h:=h.1 c5;exact aJ [kv 7 bS,kt fT,ko (bC.elem (aQ x)),kp jw,kc [] x9,kf Av,kt qj,kv 23 OG,ko (bC.elem (aQ x3)),ko (bC.elem (aQ x)),kp H6,kp jw,kc [] Qy,kf (show(!lI x3 x)=false from(y27 (c5))),kl [5,6,7,8,11,12,13,14,15,16,17,18,19,20,21,22,23,24,25,26,27,28,29,30,31,32,33] 0 (@h0 ),kv 10 (show Am.aF (int (IntKind.wrap IntKind.i64 ((↑i:Int)+1))) (int (↑(i+1):Int))from(aF.TJ zO zO zO))] (aB 50 [0,3]) 0 h zQ
 .have h:=h.2 c5;have _:=h;exact aG [kv 7 bS,kt fT,ko (bC.elem (aQ x)),kp jw,kc [] x9,kf Av,kt qj,kv 23 OG,ko (bC.elem (aQ x3)),ko (bC.elem (aQ x)),kp H6,kp jw,kc [] Qy,kt (show(!lI x3 x)=true from(y27 (c5)))] (aB 50 [2]) 0 zQ
theorem aKP(v:List BE)(i:Nat)(hv:v.length<=1000000000)(hk:(i:Int)<(v.length:Int))(h0:Rq 0 169 1 (rcI v i 0) .ret (rcR 140))(h:(∃x2:BE,(v[i]?=some x2)/\((((dF x2)=true)->((((↑i:Int)>(0:Int))->(∃x6:BE,((0:Int)<=(↑i:Int)-1/\v[Int.toNat ((↑i:Int)-1)]?=some x6)/\((((lI x6 x2)=true)->True)/\(((lI x6 x2)=false)->True))))/\((¬(↑i:Int)>(0:Int))->True)))/\(((dF x2)=false)->True)))):Rq 0 169 0 (awV v i) bF.ret (rcR 140):=by
 have bS:Am.aF (int (↑(length (au v)):Int)) (int (↑(length v):Int)):=(aF.of_eq (by simp only[Go.Bd.ay]));have fT:decide ((↑i:Int)<(↑(length v):Int))=true:=(y15 zO);have hz9:=(@h0 );obtain⟨x2,o3,h⟩:=h;have jw:(0:Int)<=(↑i:Int)/\(au v)[Int.toNat (↑i:Int)]?=some (aQ x2):=(bG o3);have x9:=(@Go.Bd.avK (x2));rcases y00 ((dF x2))with c4|c4
 .have h:=h.1 c4;have Av:(!dF x2)=false:=(y27 (c4));by_cases c5:((↑i:Int)>(0:Int))
  .have h:=h.1 c5;have qj:Am.aF (int (IntKind.wrap IntKind.i64 ((↑i:Int)-1))) (int ((↑i:Int)-1)):=(aF.TJ zO zO rfl);obtain⟨x6,o7,h⟩:=h;have OG:(0:Int)<=(↑i:Int)-1/\(au v)[Int.toNat ((↑i:Int)-1)]?=some (aQ x6):=(qU o7);have H6:=(@Go.Bd.aAP (x6) (x2));rcases y00 ((lI x6 x2))with c8|c8
   .have h:=h.1 c8;have _:=h;exact aG [kv 7 bS,kt fT,ko (bC.elem (aQ x2)),kp jw,kc [] x9,kf Av,kt (y15 c5),kv 23 qj,ko (bC.elem (aQ x6)),ko (bC.elem (aQ x2)),kp OG,kp jw,kc [] H6,kf (show(!lI x6 x2)=false from(y27 (c8))),kl [5,6,7,8,11,12,13,14,15,16,17,18,19,20,21,22,23,24,25,26,27,28,29,30,31,32,33] 0 hz9] (aB 50 [2]) 0 zQ
   .have h:=h.2 c8;have _:=h;exact aG [kv 7 bS,kt fT,ko (bC.elem (aQ x2)),kp jw,kc [] x9,kf Av,kt (y15 c5),kv 23 qj,ko (bC.elem (aQ x6)),ko (bC.elem (aQ x2)),kp OG,kp jw,kc [] H6,kt (show(!lI x6 x2)=true from(y27 (c8)))] (aB 50 [2]) 0 zQ
  .have h:=h.2 c5;have _:=h;exact aG [kv 7 bS,kt fT,ko (bC.elem (aQ x2)),kp jw,kc [] x9,kf Av,kf (y16 c5),kf (Eq.refl false),kl [5,6,7,8,11,12,13,14,15,16,17,18,19,20,21,22,23,24,25,26,27,28,29,30,31,32,33] 0 hz9] (aB 50 [2]) 0 zQ
 .have h:=h.2 c4;have _:=h;exact aG [kv 7 bS,kt fT,ko (bC.elem (aQ x2)),kp jw,kc [] x9,kt (show(!dF x2)=true from(y27 (c4))),kt (Eq.refl true)] (aB 50 [2]) 0 zQ
theorem aKQ(v:List BE)(i:Nat)(hv:v.length<=1000000000)(hk:¬(i:Int)<(v.length:Int))(h:True):Rq 0 169 0 (awV v i) (bF.exit 0) rcO:=by
 have _:=h;exact aG [kv 7 (show Am.aF (int (↑(length (au v)):Int)) (int (↑(length v):Int))from(aF.of_eq (by simp only[Go.Bd.ay]))),kf (show decide ((↑i:Int)<(↑(length v):Int))=false from(y16 zO))] (aB 50 []) 0 zQ
theorem CY(v:List BE){i}(h:i<=v.length)(h0:(i:Int)>0):v[((i:Int)-1).toNat]?=some (v[i-1]'zO):=by
 rw[show((i:Int)-1).toNat=i-1 by omega];simp
theorem aCw(v:List BE)(hv:v.length<=1000000000):∀n i,v.length-i=n->i<=v.length->(y9 v n i=true->Rq 0 169 0 (awV v i) (.exit 0) rcO)/\(y9 v n i=false->Rq 0 169 0 (awV v i) .ret (rcR 140)):=by
 intro n
 induction n with
 |zero=>intro i hn hk;exact⟨fun _=>aKQ v i hv zO yO,fun h=>by cases h⟩
 |succ n ih =>
  intro i hn hk;have bg:i<v.length:=zO
  have hx:v[i]?=some v[i]:=yA bg;obtain⟨n1,n2⟩:=ih (i+1) zO zO;obtain⟨i1,i2⟩:=aAL v i hv bg i 0 zO zO;have e:y9 v (n+1) i=(jh v i&&y9 v n (i+1)):=rfl;rw[aDW v v[i] i zO]at i1 i2;rw[e];by_cases h0:(i:Int)>0
  .have hy:=CY v hk h0;have hy':v[i-1]?=some (v[i-1]'zO):=yA zO;have U5:(i==0)=false:=by simp;omega
   cases hq:dF v[i]with
   |false =>
    have e2:jh v i=false:=by simp only[jh,hx,hq,Bool.false_and]
    rw[e2,Bool.false_and];exact⟨fun h=>by (cases h),fun _=>aIz v i _ hv zO hx hq yO⟩
   |true =>
    cases hd:(v.take i).any fun c=>decide (c.eG=v[i].eG)with
    |true =>
     rw[hd]at i2;have e2:jh v i=false:=by simp only[jh,hx,hd,Bool.not_true,Bool.and_false]
     rw[e2,Bool.false_and];exact⟨fun h=>by (cases h),fun _=>aKP v i hv zO (i2 rfl) ⟨v[i],hx,⟨fun _=>⟨fun _=>⟨_,⟨zO,hy⟩,fun _=>trivial,fun _=>trivial⟩,fun _=>trivial⟩,fun _=>trivial⟩⟩⟩
    |false =>
     rw[hd]at i1;cases hl:lI (v[i-1]'zO) v[i]with
     |false =>
      have e2:jh v i=false:=by simp only[jh,hx,hy',hq,hl,U5,Bool.false_and,Bool.and_false,Bool.or_self]
      rw[e2,Bool.false_and];exact⟨fun h=>by (cases h),fun _=>aKO v i _ hv zO (i1 rfl) hx hq h0 ⟨_,⟨zO,hy⟩,fun h=>(by rw[hl]at h;cases h),fun _=>trivial⟩⟩
     |true =>
      have e2:jh v i=true:=by simp only[jh,hx,hy',hq,hl,hd,Bool.true_and,Bool.or_true,Bool.not_false,Bool.and_true]
      rw[e2,Bool.true_and];exact⟨fun h=>aIy v i _ hv zO (i1 rfl) hx hq h0 _ _ ⟨_,⟨zO,hy⟩,fun _=>n1 h,fun h=>(by rw[hl]at h;cases h)⟩,fun h=>aIy v i _ hv zO (i1 rfl) hx hq h0 _ _ ⟨_,⟨zO,hy⟩,fun _=>n2 h,fun h=>(by rw[hl]at h;cases h)⟩⟩
  .have U5:(i==0)=true:=by simp;omega
   have ht:v.take i=[]:=by rw[show i=0 by omega];rfl
   rw[ht]at i1;cases hq:dF v[i]with
   |false =>
    have e2:jh v i=false:=by simp only[jh,hx,hq,Bool.false_and]
    rw[e2,Bool.false_and];exact⟨fun h=>by (cases h),fun _=>aIz v i _ hv zO hx hq yO⟩
   |true =>
    have e2:jh v i=true:=by simp only[jh,hx,hq,U5,ht,any_nil,Bool.true_and,Bool.true_or,Bool.not_false,Bool.and_true]
    rw[e2,Bool.true_and];exact⟨fun h=>aIx v i _ hv zO (i1 rfl) hx hq _ _ h0 (n1 h),fun h=>aIx v i _ hv zO (i1 rfl) hx hq _ _ h0 (n2 h)⟩
theorem aIA(v:List BE)(hv:v.length<=1000000000)(hb:Cw v=true):Rq 0 169 0 (awV v 0) (.exit 0) rcO:=(aCw v hv v.length 0 zO zO).1 hb
theorem aIB(v:List BE)(hv:v.length<=1000000000)(hb:Cw v=false):Rq 0 169 0 (awV v 0) .ret (rcR 140):=(aCw v hv v.length 0 zO zO).2 hb
theorem aDX(v:List BE)(h0:Rq 0 169 0 (awV v 0) (.exit 0) rcO)(h:True):Cq 169 [iK v] (int 0):=by
 have _:=h;exact aj [kl [1,2,4,5,6,7,8,9,10,11,12,13,14,15,16,17,18,19,20,21,22,23,24,25,26,27,28,29,30,31,32,33,34,35,36,37,38,39,40,41,42,43,44,45,46,47,48,49] 0 (@h0 )] zQ
theorem aDY(v:List BE)(h0:Rq 0 169 0 (awV v 0) .ret (rcR 140))(h:True):Cq 169 [iK v] (int 140):=by
 have _:=h;exact aj [kl [1,2,4,5,6,7,8,9,10,11,12,13,14,15,16,17,18,19,20,21,22,23,24,25,26,27,28,29,30,31,32,33,34,35,36,37,38,39,40,41,42,43,44,45,46,47,48,49] 0 (@h0 )] zQ
theorem axh(v:List BE)(hv:v.length<=1000000000):Cq 169 [iK v] (int (jg v)):=by
 unfold jg;cases hb:Cw v with
 |true=>exact aDX v (aIA v hv hb) trivial
 |false=>exact aDY v (aIB v hv hb) trivial
def fO(a:Int):Prop := -9223372036854775808<=a/\a<9223372036854775808
def fV(a b:Int):Value:=.agg #[.int .i64 a,.int .i64 b]
def fQ(v:List BE):List (Value×AV):=v.map fun x=>(fV x.dv x.sq,bool true)
theorem AL v:∀e∈fQ v,AV.bP 1 e.2=true:=by
 intro e he;obtain⟨x,_,rfl⟩:=yG.1 he;rfl
def nX(v:List BE)(k:Nat)(pre:List BE):St:={ aL:=aC 41 [(0,iK v),(3,.mp 0),(7,iK v),(8,int v.length),(9,int k)],H:=[.map (fQ pre)] }
def ckO(v:List BE):St:={ aL:=aC 41 [(0,iK v)],H:=[.aH] }
def U4(r:Int):St:={ aL:=aC 41 [(2,int r)],H:=[.aH] }
theorem afu(v:List BE)(k:Nat)(x:BE)(pre:List BE)(hv:v.length<=1000000000)(hk:(k:Int)<(v.length:Int))(hx:v[k]?=some x)(hq:dF x=false)(h:True):Rq 0 158 0 (nX v k pre) bF.ret (U4 140):=by
 exact bN.to (bN.qm ((show Rq 0 158 0 (nX v k pre) bF.ret (sM 41 [(2,int 140)] [.map (fQ pre)])from aG [ki ((k:Int)<v.length),ke (aQ x) (au v) k (bG hx),kc [] (@pV (x)),kt (show(!dF x)=true from(y27 (hq))),kO,kO,kp (show ∀(e:Value×AV),e∈fQ pre->AV.bP 1 e.2=true from(AL _))] (aB 41 [2]) 1)) (by exact⟨.inr yO,yO⟩)) rfl (eB.aC ⟨rfl,y29,yO⟩)
theorem aft(v:List BE)(k:Nat)(x:BE)(pre:List BE)(hv:v.length<=1000000000)(hk:(k:Int)<(v.length:Int))(hx:v[k]?=some x)(hq:dF x=true)(hm:bT P 27 (fQ pre) (fV x.dv x.sq) (bool false) (bool true) true)(h:((((k:Int)>0)->(∃x3:BE,((0:Int)<=(k:Int)-1/\v[Int.toNat ((k:Int)-1)]?=some x3)/\(((gM x3 x>=0)->True)/\((¬gM x3 x>=0)->True))))/\((¬(k:Int)>0)->True))):Rq 0 158 0 (nX v k pre) bF.ret (U4 140):=by
 have jw:=(@pV (x));have H6:∀(e:Value×AV),e∈fQ pre->AV.bP 1 e.2=true:=(AL _);let l1:List fP:=[ki ((k:Int)<v.length),ke (aQ x) (au v) k (bG hx),kc [] jw,kf (y27 (hq))];by_cases c2:((k:Int)>0)
 .have h:=h.1 c2;obtain⟨x3,o4,h⟩:=h;have OG:=(@DC (x3) (x));let l2:List fP:=l1++[kt (qT c2),kW 23 ((k:Int)-1) ((k:Int)-1),ko (bC.elem (aQ x3)),kp (show(0:Int)<=(k:Int)-1/\(au v)[Int.toNat ((k:Int)-1)]?=some (aQ x3)from(qU o4)),kc [] OG];by_cases c5:(gM x3 x>=0)
  .have h:=h.1 c5;have _:=h;exact bN.to (bN.qm ((show Rq 0 158 0 (nX v k pre) bF.ret (sM 41 [(2,int 140)] [.map (fQ pre)])from aG (l2++[kt (qT c5),kO,kp H6]) (aB 41 [2]) 1)) (by exact⟨.inr yO,yO⟩)) rfl (eB.aC ⟨rfl,y29,yO⟩)
  .have h:=h.2 c5;have _:=h;exact bN.to (bN.qm ((show Rq 0 158 0 (nX v k pre) bF.ret (sM 41 [(2,int 140)] [.map (fQ pre)])from aG (l2++[kf (qF c5),ko (bC.lJ (Am.bool true) true),kp hm,kO,kp H6]) (aB 41 [2]) 1)) (by exact⟨.inr yO,yO⟩)) rfl (eB.aC ⟨rfl,y29,yO⟩)
 .have h:=h.2 c2;have _:=h;exact bN.to (bN.qm ((show Rq 0 158 0 (nX v k pre) bF.ret (sM 41 [(2,int 140)] [.map (fQ pre)])from aG (l1++[kf (qF c2),kY,ko (bC.lJ (Am.bool true) true),kp hm,kO,kp H6]) (aB 41 [2]) 1)) (by exact⟨.inr yO,yO⟩)) rfl (eB.aC ⟨rfl,y29,yO⟩)
theorem afv(v:List BE)(k:Nat)(pre:List BE)(hv:v.length<=1000000000)(hk:¬(k:Int)<(v.length:Int))(h:True):Rq 0 158 0 (nX v k pre) (bF.exit 0) (ckO v):=by
 exact bN.to (bN.qm ((show Rq 0 158 0 (nX v k pre) (bF.exit 0) (sM 41 [(0,.sl 5 false (au v))] [.map (fQ pre)])from aG [kj ((k:Int)<v.length)] (aB 41 [0]) 1)) (by exact⟨.inr yO,yO⟩)) rfl (eB.aC ⟨rfl,y29,yO⟩)
theorem afw(v:List BE)(k:Nat)(x:BE)(pre:List BE)(hv:v.length<=1000000000)(hk:(k:Int)<(v.length:Int))(hx:v[k]?=some x)(hq:dF x=true)(hs:(k:Int)>0)(hm:bT P 27 (fQ pre) (fV x.dv x.sq) (bool false) (bool false) false)(hp:jm P 27 (fQ pre) (fV x.dv x.sq) (bool true) (fQ (pre++[x])))(h:(∃x3:BE,((0:Int)<=(k:Int)-1/\v[Int.toNat ((k:Int)-1)]?=some x3)/\(((gM x3 x>=0)->True)/\((¬gM x3 x>=0)->Rq 0 158 0 (sM 41 [(0,.sl 5 false (au v)),(3,.mp 0),(7,.sl 5 false (au v)),(8,int ↑v.length),(9,int ↑(k+1))] [.map (fQ (pre++[x]))]) bF.ret (U4 140))))):Rq 0 158 0 (nX v k pre) bF.ret (U4 140):=by
 have jw:=(@pV (x));obtain⟨x3,o4,h⟩:=h;have H6:=(@DC (x3) (x));let l1:List fP:=[ki ((k:Int)<v.length),ke (aQ x) (au v) k (bG hx),kc [] jw,kf (y27 (hq)),ki ((k:Int)>0),kW 23 ((k:Int)-1) ((k:Int)-1),ko (bC.elem (aQ x3)),kp (show(0:Int)<=(k:Int)-1/\(au v)[Int.toNat ((k:Int)-1)]?=some (aQ x3)from(qU o4)),kc [] H6];by_cases c5:(gM x3 x>=0)
 .have h:=h.1 c5;exact bN.to (bN.qm ((show Rq 0 158 0 (nX v k pre) bF.ret (sM 41 [(2,int 140)] [.map (fQ pre)])from aG (l1++[kt (qT c5),kO,kp (show ∀(e:Value×AV),e∈fQ pre->AV.bP 1 e.2=true from(AL _))]) (aB 41 [2]) 1)) (by exact⟨.inr yO,yO⟩)) rfl (eB.aC ⟨rfl,y29,yO⟩)
 .have h:=h.2 c5;exact aJ (l1++[kf (qF c5),ko (bC.lJ (Am.bool false) false),kp hm,kY,ko (bC.wT (fQ (pre++[x]))),kp hp,kW 40 (k+1) ↑(k+1),kp (show ∀(e:Value×AV),e∈fQ (pre++[x])->AV.bP 1 e.2=true from(AL _))]) (aB 41 [0,3,7,8,9]) 1 h
theorem LZ(v:List BE)(k:Nat)(x:BE)(pre:List BE)(hv:v.length<=1000000000)(hk:(k:Int)<(v.length:Int))(hx:v[k]?=some x)(hq:dF x=true)(hm:bT P 27 (fQ pre) (fV x.dv x.sq) (bool false) (bool false) false)(hp:jm P 27 (fQ pre) (fV x.dv x.sq) (bool true) (fQ (pre++[x])))(ex:bF)(s:St)(h:((((k:Int)>0)->(∃x3:BE,((0:Int)<=(k:Int)-1/\v[Int.toNat ((k:Int)-1)]?=some x3)/\(((gM x3 x>=0)->(bF.ret=ex)/\(sM 41 [] [.map (fQ pre)]=s))/\((¬gM x3 x>=0)->Rq 0 158 0 (sM 41 [(0,.sl 5 false (au v)),(3,.mp 0),(7,.sl 5 false (au v)),(8,int ↑v.length),(9,int ↑(k+1))] [.map (fQ (pre++[x]))]) ex s))))/\((¬(k:Int)>0)->Rq 0 158 0 (sM 41 [(0,.sl 5 false (au v)),(3,.mp 0),(7,.sl 5 false (au v)),(8,int ↑v.length),(9,int ↑(k+1))] [.map (fQ (pre++[x]))]) ex s))):Rq 0 158 0 (nX v k pre) ex s:=by
 have jw:=(@pV (x));have Bb:∀(e:Value×AV),e∈fQ (pre++[x])->AV.bP 1 e.2=true:=(AL _);let l1:List fP:=[ki ((k:Int)<v.length),ke (aQ x) (au v) k (bG hx),kc [] jw,kf (y27 (hq))];by_cases c2:((k:Int)>0)
 .have h:=h.1 c2;obtain⟨x3,o4,h⟩:=h;have OG:=(@DC (x3) (x));let l2:List fP:=l1++[kt (qT c2),kW 23 ((k:Int)-1) ((k:Int)-1),ko (bC.elem (aQ x3)),kp (show(0:Int)<=(k:Int)-1/\(au v)[Int.toNat ((k:Int)-1)]?=some (aQ x3)from(qU o4)),kc [] OG];by_cases c5:(gM x3 x>=0)
  .have h:=h.1 c5;obtain⟨eX,eS⟩:=h;exact bN.to ((aG (l2++[kt (qT c5),kO,kp (show ∀(e:Value×AV),e∈fQ pre->AV.bP 1 e.2=true from(AL _))]) (aB 41 []) 1)) eX (eB.of_eq eS)
  .have h:=h.2 c5;exact aJ (l2++[kf (qF c5),ko (bC.lJ (Am.bool false) false),kp hm,kY,ko (bC.wT (fQ (pre++[x]))),kp hp,kW 40 (k+1) ↑(k+1),kp Bb]) (aB 41 [0,3,7,8,9]) 1 h
 .have h:=h.2 c2;exact aJ (l1++[kf (qF c2),kY,ko (bC.lJ (Am.bool false) false),kp hm,kY,ko (bC.wT (fQ (pre++[x]))),kp hp,kW 40 (k+1) ↑(k+1),kp Bb]) (aB 41 [0,3,7,8,9]) 1 h
theorem laid:laidOutB P=true:=zQ
theorem fO.wf{n}(h:fO n):(Lit.int .i64 n).wf=true:=by
 unfold fO at h;simp[Lit.wf,IntKind.min,IntKind.signed,IntKind.bits];omega
theorem sz1:∃n,P.types.size=n+1:=by
 have h:1<=P.types.size:=Nat.le_of_ble_eq_true zQ;simp
theorem uG d{n}(h:fO n):P.keyLits (d+1) 3 [.int .i64 n]=some [.int .i64 n]:=by
 simp[Program.keyLits,h.wf]
theorem lD:Maps.Keyed P 27:=Maps.Keyed.of_law (deep_law_laid laid (m:=2) zD (Nat.le_of_ble_eq_true zQ) zQ zQ)
theorem uy{a b:Int}(ha:fO a)(hb:fO b):∃l,keyOf P 27 (fV a b)=some l:=by
 have h1:(P.keyType 27&&(fV a b).formed P 27)=true:=zQ
 have h2:P.keyLits (P.types.size+1) 27 (fV a b).cells.toList=([P.keyLits P.types.size 3 [.int .i64 a],P.keyLits P.types.size 3 [.int .i64 b]].mapM id).map flatten:=zQ
 obtain⟨n,hn⟩:=sz1;refine⟨.string (keyBytes [.int .i64 a,.int .i64 b]),?_⟩;unfold keyOf;rw[Tryz.underlying27];show(if(P.keyType 27&&(fV a b).formed P 27)=true then _ else none)=_;rw[yL h1,h2,hn,uG n ha,uG n hb];rfl
theorem nU{a b a' b'}(h:fV a b=fV a' b'):a=a'/\b=b':=by
 simp only[fV,Value.agg.injEq,Array.mk.injEq,List.cons.injEq,Value.int.injEq,true_and,and_true]at h;exact h
theorem AP{x}(h:dF x=true):fO x.dv/\fO x.sq:=by
 simp only[dF,y04,y05]at h;unfold fO;omega
variable {v:List BE}
theorem sS(h:∀x∈v,dF x=true):∀e∈fQ v,∃l,keyOf P 27 e.1=some l:=fun e he=>by
 obtain⟨x,hx,rfl⟩:=yG.1 he;obtain⟨h1,h2⟩:=AP (h x hx);exact uy h1 h2
variable {x:BE}
theorem L6(h:∀x∈v,dF x=true)(hx:dF x=true)(hm:(v.any fun c=>decide (c.eG=x.eG))=true):bT P 27 (fQ v) (fV x.dv x.sq) (bool false) (bool true) true:=by
 obtain⟨y,hy,e⟩:=any_eq_true.1 hm;have e:=of_decide_eq_true e;obtain⟨h1,h2⟩:=AP hx;refine⟨lD,uy h1 h2,sS h,.inl ⟨rfl,yG.2 ⟨y,hy,?_⟩⟩⟩;simp only[BE.eG,Prod.mk.injEq]at e;rw[e.1,e.2]
theorem H8{v}(hm:(v.any fun c=>decide (c.eG=x.eG))=false):∀e∈fQ v,e.1≠fV x.dv x.sq:=fun e he hq=>by
 obtain⟨y,hy,rfl⟩:=yG.1 he;obtain⟨q1,q2⟩:=nU hq;have:=any_eq_false.1 hm y hy;rw[y05]at this;exact this (by rw[BE.eG,BE.eG,q1,q2])
theorem H9(h:∀x∈v,dF x=true)(hx:dF x=true)(hm:(v.any fun c=>decide (c.eG=x.eG))=false):bT P 27 (fQ v) (fV x.dv x.sq) (bool false) (bool false) false:=by
 obtain⟨h1,h2⟩:=AP hx;exact⟨lD,uy h1 h2,sS h,.inr ⟨rfl,rfl,H8 hm⟩⟩
theorem L8(h:∀x∈v,dF x=true)(hx:dF x=true)(hm:(v.any fun c=>decide (c.eG=x.eG))=false):jm P 27 (fQ v) (fV x.dv x.sq) (bool true) (fQ (v++[x])):=by
 obtain⟨h1,h2⟩:=AP hx;exact⟨lD,uy h1 h2,sS h,.inr ⟨H8 hm,by simp[fQ]⟩⟩
theorem L9(v:List BE)(hv:v.length<=1000000000):∀n k,v.length-k=n->k<=v.length->(∀x∈v.take k,dF x=true)->(y9 v n k=true->Rq 0 158 0 (nX v k (v.take k)) (.exit 0) (ckO v))/\(y9 v n k=false->Rq 0 158 0 (nX v k (v.take k)) .ret (U4 140)):=by
 intro n
 induction n with
 |zero=>intro k hn hk _;exact⟨fun _=>afv v k _ hv zO yO,fun h=>by cases h⟩
 |succ n ih =>
  intro k hn hk QZ;have bg:k<v.length:=zO
  have hx:=yA bg;have e:y9 v (n+1) k=(jh v k&&y9 v n (k+1)):=rfl;rw[e];cases hq:dF v[k]with
  |false =>
   have e2:jh v k=false:=by simp only[jh,hx,hq,Bool.false_and]
   rw[e2,Bool.false_and];exact⟨fun h=>by (cases h),fun _=>afu v k _ _ hv zO hx hq yO⟩
  |true =>
   have ht:v.take (k+1)=v.take k++[v[k]]:=by rw[take_append_getElem]
   have akz:∀x∈v.take (k+1),dF x=true:=by grind
   obtain⟨n1,n2⟩:=ih (k+1) zO zO akz;rw[ht]at n1 n2;cases hd:(v.take k).any fun c=>decide (c.eG=v[k].eG)with
   |true =>
    have e2:jh v k=false:=by simp only[jh,hx,hd,Bool.not_true,Bool.and_false]
    rw[e2,Bool.false_and];refine⟨fun h=>by (cases h),fun _=>aft v k _ _ hv zO hx hq (L6 QZ hq hd) ⟨fun h0=>?_,fun _=>trivial⟩⟩;exact⟨_,⟨zO,CY v hk h0⟩,fun _=>trivial,fun _=>trivial⟩
   |false =>
    have g:=H9 QZ hq hd;have p:=L8 QZ hq hd;by_cases h0:(k:Int)>0
    .have hy:=CY v hk h0;have hy':v[k-1]?=some (v[k-1]'zO):=yA zO;have U5:(k==0)=false:=by simp;omega
     cases hl:lI (v[k-1]'zO) v[k]with
     |false =>
      have e2:jh v k=false:=by simp only[jh,hx,hy',hq,hl,U5,Bool.false_and,Bool.and_false,Bool.or_self]
      rw[e2,Bool.false_and];have hg:=(Pn (v[k-1]'zO) v[k]).2 hl;exact⟨fun h=>by (cases h),fun _=>afw v k _ _ hv zO hx hq h0 g p ⟨_,⟨zO,hy⟩,fun _=>trivial,fun h=>absurd hg h⟩⟩
     |true =>
      have e2:jh v k=true:=by simp only[jh,hx,hy',hq,hl,hd,Bool.true_and,Bool.or_true,Bool.not_false,Bool.and_true]
      rw[e2,Bool.true_and];have hg:¬gM (v[k-1]'zO) v[k]>=0:=fun h=>by rw[(Pn _ _).1 h]at hl;cases hl
      exact⟨fun h=>LZ v k _ _ hv zO hx hq g p _ _ ⟨fun _=>⟨_,⟨zO,hy⟩,fun h=>absurd h hg,fun _=>n1 h⟩,fun _=>n1 h⟩,fun h=>LZ v k _ _ hv zO hx hq g p _ _ ⟨fun _=>⟨_,⟨zO,hy⟩,fun h=>absurd h hg,fun _=>n2 h⟩,fun _=>n2 h⟩⟩
    .have U5:(k==0)=true:=by simp;omega
     have e2:jh v k=true:=by simp only[jh,hx,hq,U5,hd,Bool.true_and,Bool.true_or,Bool.not_false,Bool.and_true]
     rw[e2,Bool.true_and];exact⟨fun h=>LZ v k _ _ hv zO hx hq g p _ _ ⟨fun h=>absurd h h0,fun _=>n1 h⟩,fun h=>LZ v k _ _ hv zO hx hq g p _ _ ⟨fun h=>absurd h h0,fun _=>n2 h⟩⟩
theorem Ma(v:List BE)(h0:Rq 0 158 0 (nX v 0 []) (.exit 0) (ckO v))(h:True):Cq 158 [iK v] (int 0):=by
 exact aj [kN 8 (ay v),kl (rG [(1,2),(4,3),(10,31)]) 1 h0]
theorem Mc(v:List BE)(h0:Rq 0 158 0 (nX v 0 []) .ret (U4 140))(h:True):Cq 158 [iK v] (int 140):=by
 exact aj [kN 8 (ay v),kl (rG [(1,2),(4,3),(10,31)]) 1 h0]
theorem fG(v:List BE)(hv:v.length<=1000000000):Cq 158 [iK v] (int (jg v)):=by
 unfold jg;obtain⟨h1,h2⟩:=L9 v hv v.length 0 zO zO zS;rw[take_zero]at h1 h2;cases hb:Cw v with
 |true=>exact Ma v (h1 hb) trivial
 |false=>exact Mc v (h2 hb) trivial
def aY(b:BE):Bool:=decide ((b.ky.size:Int)<=70)&&decide ((b.vl.size:Int)<=5000)
def mI(v:List BE):Nat->Nat->Bool
 |0,_=>true
 |n+1,k=>match v[k]? with
  |some x=>aY x&&mI v n (k+1)
  |none=>true
theorem Vf(v:List BE):∀n k,v.length-k=n->k<=v.length->mI v n k=(v.drop k).all aY
 |0,k,hn,hk=>by rw[y14 zO];rfl
 |n+1,k,hn,hk=>by
  have h:k<v.length:=zO
  rw[mI,yA h,y01 h,all_cons,Vf v n (k+1) zO zO]
def avy(v:List BE):Bool:=v.all aY&&decide ((v.length:Int)<=20)
def av6(v:List BE)(k:Nat):St:={ aL:=aC 29 [(0,iK v),(2,bool false),(3,int k)],H:=[] }
theorem ayo(v:List BE)(k:Nat)(hv:v.length<=9223372036854775807)(ex:bF)(o:Bool)(h:((((↑k:Int)<(↑(length v):Int))->(∃x2:BE,(v[k]?=some x2)/\((((↑(ByteArray.size (BE.ky x2)):Int)>(70:Int))->(bF.ret=ex)/\((false)=(o)))/\((¬(↑(ByteArray.size (BE.ky x2)):Int)>(70:Int))->((((↑(ByteArray.size (BE.vl x2)):Int)>(5000:Int))->(bF.ret=ex)/\((false)=(o)))/\((¬(↑(ByteArray.size (BE.vl x2)):Int)>(5000:Int))->Rq 0 114 0 (sM 29 [(0,.sl 5 false (au v)),(2,Am.bool false),(3,int (↑(k+1):Int))] []) ex (sM 29 [(0,iK v),(2,Am.bool o)] [])))))))/\((¬(↑k:Int)<(↑(length v):Int))->(bF.exit 0=ex)/\((false)=(o))))):Rq 0 114 0 (av6 v k) ex (sM 29 [(0,iK v),(2,Am.bool o)] []):=by
 have bS:Am.aF (int (↑(length (au v)):Int)) (int (↑(length v):Int)):=(aF.of_eq (by simp only[Go.Bd.ay]));by_cases c1:((↑k:Int)<(↑(length v):Int))
 .have h:=h.1 c1;obtain⟨x2,o3,h⟩:=h;have fT:(0:Int)<=(↑k:Int)/\(au v)[Int.toNat (↑k:Int)]?=some (aQ x2):=(bG o3);by_cases c4:((↑(ByteArray.size (BE.ky x2)):Int)>(70:Int))
  .have h:=h.1 c4;obtain⟨eX,e1⟩:=h;exact bN.to ((show Rq 0 114 0 (av6 v k) bF.ret (sM 29 [(0,.sl 5 false (au v)),(2,Am.bool false)] [])from aG [kv 6 bS,kt (y15 c1),ko (bC.elem (aQ x2)),kp fT,kt (y15 c4),kt (Eq.refl true)] (aB 29 [0,2]) 0 zQ)) eX (eB.aC ⟨rfl,y29,rfl,(aF.aI e1),yO⟩)
  .have h:=h.2 c4;by_cases c5:((↑(ByteArray.size (BE.vl x2)):Int)>(5000:Int))
   .have h:=h.1 c5;obtain⟨eX,e1⟩:=h;exact bN.to ((show Rq 0 114 0 (av6 v k) bF.ret (sM 29 [(0,.sl 5 false (au v)),(2,Am.bool false)] [])from aG [kv 6 bS,kt (y15 c1),ko (bC.elem (aQ x2)),kp fT,kf (y16 c4),ko (bC.elem (aQ x2)),kp fT,kt (y15 c5)] (aB 29 [0,2]) 0 zQ)) eX (eB.aC ⟨rfl,y29,rfl,(aF.aI e1),yO⟩)
   .have h:=h.2 c5;exact aJ [kv 6 bS,kt (y15 c1),ko (bC.elem (aQ x2)),kp fT,kf (y16 c4),ko (bC.elem (aQ x2)),kp fT,kf (y16 c5),kv 9 (show Am.aF (int (IntKind.wrap IntKind.i64 ((↑k:Int)+1))) (int (↑(k+1):Int))from(aF.TJ zO zO zO))] (aB 29 [0,2,3]) 0 h zQ
 .have h:=h.2 c1;obtain⟨eX,e1⟩:=h;exact bN.to ((show Rq 0 114 0 (av6 v k) (bF.exit 0) (sM 29 [(0,.sl 5 false (au v)),(2,Am.bool false)] [])from aG [kv 6 bS,kf (y16 c1)] (aB 29 [0,2]) 0 zQ)) eX (eB.aC ⟨rfl,y29,rfl,(aF.aI e1),yO⟩)
theorem axx(v:List BE)(hv:v.length<=9223372036854775807):∀n k,v.length-k=n->k<=v.length->Rq 0 114 0 (av6 v k) (if mI v n k=true then .exit 0 else .ret) { aL:=aC 29 [(0,iK v),(2,bool false)],H:=[] }:=by
 intro n
 induction n with
 |zero=>intro k hn hk;exact ayo v k hv _ _ ⟨fun h=>absurd h zO,fun _=>⟨rfl,rfl⟩⟩
 |succ n ih =>
  intro k hn hk;have bg:k<v.length:=zO
  have hx:v[k]?=some v[k]:=yA bg;have e:mI v (n+1) k=(aY v[k]&&mI v n (k+1)):=by rw[mI,hx]
  have nx:=ih (k+1) zO zO;refine ayo v k hv _ _ ⟨fun h=>⟨v[k],hx,⟨fun h1=>?_,fun h1=>⟨fun h2=>?_,fun h2=>?_⟩⟩⟩,fun h=>absurd bg zO⟩
  .rw [e,show aY v[k]=false by simp[aY];omega];exact⟨rfl,rfl⟩
  .rw [e,show aY v[k]=false by simp[aY];omega];exact⟨rfl,rfl⟩
  .rw [e,show aY v[k]=true by simp[aY];omega,Bool.true_and];exact nx
theorem awz(v:List BE)(hv:v.length<=9223372036854775807):Rq 0 114 0 (av6 v 0) (if v.all aY=true then .exit 0 else .ret) { aL:=aC 29 [(0,iK v),(2,bool false)],H:=[] }:=by
 have:=axx v hv v.length 0 zO zO;rw[Vf v v.length 0 zO zO]at this;simpa using this
theorem axX(v:List BE)(hv:v.length<=9223372036854775807)(h:(((List.all v aY=true)->(decide ((↑(length v):Int)<=(20:Int)))=(avy v))/\((¬List.all v aY=true)->(false)=(avy v)))):Cq 114 [iK v] (Am.bool (avy v)):=by
 by_cases c1:(List.all v aY=true)
 .have h:=h.1 c1;have e1:=h;exact aA (aF.aI e1) [kl [1,4,5,6,7,8,9,10,11,12,13,14,15,16,17,18,19,20,21,22,23,24,25,26,27,28] 0 (show Rq 0 114 0 (sM 29 [(0,.sl 5 false (au v)),(2,Am.bool false),(3,int 0)] []) (bF.exit 0) (sM 29 [(0,.sl 5 false (au v)),(2,Am.bool false)] [])from(by have h0:=(@Go.Bd.awz (v) zO);simp only[yL c1]at h0;exact h0)),kv 27 (show Am.aF (int (↑(length (au v)):Int)) (int (↑(length v):Int))from(aF.of_eq (by simp only[Go.Bd.ay])))] zQ
 .have h:=h.2 c1;have e1:=h;exact aA (aF.aI e1) [kl [1,4,5,6,7,8,9,10,11,12,13,14,15,16,17,18,19,20,21,22,23,24,25,26,27,28] 0 (show Rq 0 114 0 (sM 29 [(0,.sl 5 false (au v)),(2,Am.bool false),(3,int 0)] []) bF.ret (sM 29 [(0,.sl 5 false (au v)),(2,Am.bool false)] [])from(by have h0:=(@Go.Bd.awz (v) zO);simp only[yK c1]at h0;exact h0))] zQ
theorem axY(v:List BE)(hv:v.length<=9223372036854775807):Cq 114 [iK v] (bool (avy v)):=axX v hv (by unfold avy;grind)
theorem aeo(a b:BE):((a.ky==b.ky&&(a.dv==b.dv&&(a.sq==b.sq&&(a.tm==b.tm&&a.vl==b.vl))))=true)↔a=b:=by
 rw[tN,tN];cases a;cases b;simp
def KR{α:Type}[DecidableEq α](a b:List α):Nat->Nat->Bool
 |0,_=>true
 |n+1,k=>match a[k]?,b[k]? with
  |some x,some y=>decide (x=y)&&KR a b n (k+1)
  |_,_=>true
theorem DI{α}[DecidableEq α]{a b:List α}(hl:a.length=b.length):∀n k,a.length-k=n->k<=a.length->(KR a b n k=true↔a.drop k=b.drop k)
 |0,k,hn,hk=>by
  have h1:a.drop k=[]:=y14 zO;have h2:b.drop k=[]:=y14 zO;simp[KR,h1,h2]
 |n+1,k,hn,hk=>by
  have ha:k<a.length:=zO
  have hb:k<b.length:=zO
  rw[KR,yA ha,yA hb,y01 ha,y01 hb];simp only[y04,y05,List.cons.injEq,DI hl n (k+1) zO zO]
theorem GK{α}[DecidableEq α]{a b:List α}(hl:a.length=b.length):KR a b a.length 0=decide (a=b):=by
 rw[Bool.eq_iff_iff,DI hl a.length 0 zO zO];simp
theorem tO{α}[DecidableEq α]{a b}{n k}{x y:α}(ha:a[k]?=some x)(hb:b[k]?=some y):KR a b (n+1) k=(decide (x=y)&&KR a b n (k+1)):=by rw[KR,ha,hb]
def IU(a b:List BE)(k:Nat):St:={ aL:=aC 26 [(0,iK a),(1,iK b),(4,bool false),(5,int k)],H:=[] }
theorem Zw(a b:List BE)(k:Nat)(hl:a.length=b.length)(hv:b.length<=1000000000)(ex:bF)(o:Bool)(h:((((↑k:Int)<(↑(length a):Int))->(∃x2:BE,(a[k]?=some x2)/\(∃x4:BE,(b[k]?=some x4)/\((((BE.ky x2==BE.ky x4&&(BE.dv x2==BE.dv x4&&(BE.sq x2==BE.sq x4&&(BE.tm x2==BE.tm x4&&BE.vl x2==BE.vl x4))))=true)->Rq 0 99 0 (sM 26 [(0,.sl 5 false (au a)),(1,.sl 5 false (au b)),(4,Am.bool false),(5,int (↑(k+1):Int))] []) ex (sM 26 [(4,Am.bool o)] []))/\(((BE.ky x2==BE.ky x4&&(BE.dv x2==BE.dv x4&&(BE.sq x2==BE.sq x4&&(BE.tm x2==BE.tm x4&&BE.vl x2==BE.vl x4))))=false)->(bF.ret=ex)/\((false)=(o)))))))/\((¬(↑k:Int)<(↑(length a):Int))->(bF.exit 0=ex)/\((false)=(o))))):Rq 0 99 0 (IU a b k) ex (sM 26 [(4,Am.bool o)] []):=by
 have bS:Am.aF (int (↑(length (au a)):Int)) (int (↑(length a):Int)):=(aF.of_eq (by simp only[Go.Bd.ay]));by_cases c1:((↑k:Int)<(↑(length a):Int))
 .have h:=h.1 c1;obtain⟨x2,o3,h⟩:=h;have fT:(0:Int)<=(↑k:Int)/\(au a)[Int.toNat (↑k:Int)]?=some (aQ x2):=(bG o3);obtain⟨x4,o5,h⟩:=h;have jw:(0:Int)<=(↑k:Int)/\(au b)[Int.toNat (↑k:Int)]?=some (aQ x4):=(bG o5);rcases y00 ((BE.ky x2==BE.ky x4&&(BE.dv x2==BE.dv x4&&(BE.sq x2==BE.sq x4&&(BE.tm x2==BE.tm x4&&BE.vl x2==BE.vl x4)))))with c6|c6
  .have h:=h.1 c6;exact aJ [kv 13 bS,kt (y15 c1),ko (bC.elem (aQ x2)),ko (bC.elem (aQ x4)),kp fT,kp jw,kf (show(!(BE.ky x2==BE.ky x4&&(BE.dv x2==BE.dv x4&&(BE.sq x2==BE.sq x4&&(BE.tm x2==BE.tm x4&&BE.vl x2==BE.vl x4)))))=false from(y27 (c6))),kv 16 (show Am.aF (int (IntKind.wrap IntKind.i64 ((↑k:Int)+1))) (int (↑(k+1):Int))from(aF.TJ zO zO zO))] (aB 26 [0,1,4,5]) 0 h zQ
  .have h:=h.2 c6;obtain⟨eX,e1⟩:=h;exact bN.to ((show Rq 0 99 0 (IU a b k) bF.ret (sM 26 [(4,Am.bool false)] [])from aG [kv 13 bS,kt (y15 c1),ko (bC.elem (aQ x2)),ko (bC.elem (aQ x4)),kp fT,kp jw,kt (show(!(BE.ky x2==BE.ky x4&&(BE.dv x2==BE.dv x4&&(BE.sq x2==BE.sq x4&&(BE.tm x2==BE.tm x4&&BE.vl x2==BE.vl x4)))))=true from(y27 (c6)))] (aB 26 [4]) 0 zQ)) eX (eB.aC ⟨rfl,(aF.aI e1),yO⟩)
 .have h:=h.2 c1;obtain⟨eX,e1⟩:=h;exact bN.to ((show Rq 0 99 0 (IU a b k) (bF.exit 0) (sM 26 [(4,Am.bool false)] [])from aG [kv 13 bS,kf (y16 c1)] (aB 26 [4]) 0 zQ)) eX (eB.aC ⟨rfl,(aF.aI e1),yO⟩)
theorem Na(a b:List BE)(hl:a.length=b.length)(hv:b.length<=1000000000):∀n k,a.length-k=n->k<=a.length->Rq 0 99 0 (IU a b k) (if KR a b n k=true then .exit 0 else .ret) { aL:=aC 26 [(4,bool false)],H:=[] }:=by
 intro n
 induction n with
 |zero=>intro k hn hk;exact Zw a b k hl hv _ _ ⟨fun h=>absurd h zO,fun _=>⟨rfl,rfl⟩⟩
 |succ n ih =>
  intro k hn hk;have bg:k<a.length:=zO
  have hx:a[k]?=some a[k]:=yA bg;have hy:b[k]?=some (b[k]'zO):=yA zO;refine Zw a b k hl hv _ _ ⟨fun h=>⟨a[k],hx,b[k]'zO,hy,⟨fun hq=>?_,fun hq=>?_⟩⟩,fun h=>absurd bg zO⟩
  .rw [tO hx hy,y15 ((aeo _ _).1 hq),Bool.true_and];exact ih (k+1) zO zO
  .rw [tO hx hy,y16 (fun e=>by rw[(aeo _ _).2 e]at hq;cases hq)];exact⟨rfl,rfl⟩
theorem IV(a b:List BE)(hl:a.length=b.length)(hv:b.length<=1000000000):Rq 0 99 0 (IU a b 0) (if a=b then .exit 0 else .ret) { aL:=aC 26 [(4,bool false)],H:=[] }:=by
 have:=Na a b hl hv a.length 0 zO zO;rw[GK hl]at this;simpa using this
theorem DJ(a b:List BE)(ha:a.length<=1000000000)(hb:b.length<=1000000000)(h:((((↑(length a):Int)=(↑(length b):Int))->(((a=b)->(true)=(decide (a=b)))/\((¬a=b)->(false)=(decide (a=b)))))/\((¬(↑(length a):Int)=(↑(length b):Int))->(false)=(decide (a=b))))):Cq 99 [iK a,iK b] (Am.bool (decide (a=b))):=by
 have bS:Am.aF (int (↑(length (au a)):Int)) (int (↑(length a):Int)):=(aF.of_eq (by simp only[Go.Bd.ay]));have fT:Am.aF (int (↑(length (au b)):Int)) (int (↑(length b):Int)):=(aF.of_eq (by simp only[Go.Bd.ay]));by_cases c1:((↑(length a):Int)=(↑(length b):Int))
 .have h:=h.1 c1;have jw:((↑(length a):Int)!=(↑(length b):Int))=false:=(y27 (beq_iff_eq.2 c1));by_cases c2:(a=b)
  .have h:=h.1 c2;have e1:=h;exact aA (aF.aI e1) [kv 7 bS,kv 9 fT,kf jw,kl [2,3,6,7,8,9,10,11,12,13,14,15,16,17,18,19,20,21,22,23,24,25] 0 (show Rq 0 99 0 (sM 26 [(0,.sl 5 false (au a)),(1,.sl 5 false (au b)),(4,Am.bool false),(5,int 0)] []) (bF.exit 0) (sM 26 [(4,Am.bool false)] [])from(by have h0:=(@Go.Bd.IV (a) (b) zO zO);simp only[yL c2]at h0;exact h0))] zQ
  .have h:=h.2 c2;have e1:=h;exact aA (aF.aI e1) [kv 7 bS,kv 9 fT,kf jw,kl [2,3,6,7,8,9,10,11,12,13,14,15,16,17,18,19,20,21,22,23,24,25] 0 (show Rq 0 99 0 (sM 26 [(0,.sl 5 false (au a)),(1,.sl 5 false (au b)),(4,Am.bool false),(5,int 0)] []) bF.ret (sM 26 [(4,Am.bool false)] [])from(by have h0:=(@Go.Bd.IV (a) (b) zO zO);simp only[yK c2]at h0;exact h0))] zQ
 .have h:=h.2 c1;have e1:=h;exact aA (aF.aI e1) [kv 7 bS,kv 9 fT,kt (show((↑(length a):Int)!=(↑(length b):Int))=true from(y27 (beq_eq_false_iff_ne.2 c1)))] zQ
theorem C9(a b:List BE)(ha:a.length<=1000000000)(hb:b.length<=1000000000):Cq 99 [iK a,iK b] (bool (decide (a=b))):=DJ a b ha hb (by
 have:a.length≠b.length->a≠b:=fun h e=>h (by rw[e]);grind)
abbrev smF(i:Nat):AV:=.fn (.func 375) [] [.ptr i 0]
def nE(p:BE->Bool):Nat->List BE->Int
 |_,[] => -1
 |k,b::t=>if p b=true then(k:Int)else nE p (k+1) t
def Pp:BE:=⟨⟨#[]⟩,0,0,0,⟨#[]⟩⟩
open Go.Lib
end Go.Bd
namespace Go.Dc
open Go Go.Am Go.Proofs Go.eY Go.bH
def U7(a b:Int)(s t:yP):Int:=bV.Ar [bV.gJ a b,Bd.oq s t]
theorem akK(x y:Int):Cq 120 [.sl 1 true [[int x],[int y]]] (int (bV.Ar [x,y])) :=
 bV.ab0 [x,y] _ (by have:=bV.Gw [x,y] zS 2 0 rfl zS;exact this) ⟨fun h=>h.symm,fun _=>trivial⟩
theorem X6(a b:Int)(s t:yP):Cq 45 [pt a s,pt b t] (int (U7 a b s t)) :=
 anr a b s t _ _ _ (bV.wZ a b) (Bd.Zp s t) (akK _ _) trivial
theorem amY(f:FD)(a:Int)(s:yP):Cq 44 [.agg (jB f),pt a s] (int (U7 f.pk a f.pn s)):=anv f a s _ (X6 f.pk a f.pn s) trivial
theorem ajG{a b}{s t}:U7 a b s t<0↔a<b\/(a=b/\Bd.Dz s t=true):=by
 unfold U7 bV.Ar bV.gJ;have h:=Bd.T9 (a:=s) (b:=t);simp only[bV.Ar];grind
theorem TN{c}:∀{l},(l.Pairwise fun x y=>c y<0->c x<0)->Rc c l
 |[],_=>fun m h=>absurd h zS
 |a::t,hs=>fun m h=>by
  rw[pairwise_cons]at hs;by_cases hl:c a<0
  .have e:rV c (a::t)=rV c t+1:=by simp[rV,hl]
   rw[e];cases m with
   |zero=>simp[hl]
   |succ m =>
    have:=TN hs.2 m (by simpa using h);grind
  .have e:rV c (a::t)=0:=by simp[rV,hl]
   grind
end Go.Dc
namespace Go.Sq
open Go Go.Am Go.Proofs Go.eY
def JM(a b c:Int):Bool:=decide (a>=0)&&decide (a<512)&&decide (b>=1)&&decide (b<=1048576)&&decide (c>=0)&&decide (c<=63)
def Pp(a b c:Int):Bool:=decide (a=0)&&decide (b=0)&&decide (c=0)
def dF(x:CE):Bool:=JM x.dv x.sq x.gU&&(Pp x.ad x.j6 x.aa||JM x.ad x.j6 x.aa)&&decide (x.tm>=1)&&decide (x.tm<=1099511627776)&&decide ((x.vl.size:Int)<=4096)
theorem akL(a b c:Int)(h:(((a>=(0:Int))->(((a<(512:Int))->(((b>=(1:Int))->(((b<=(1048576:Int))->(((c>=(0:Int))->(decide (c<=(63:Int)))=(JM a b c))/\((¬c>=(0:Int))->(false)=(JM a b c))))/\((¬b<=(1048576:Int))->(false)=(JM a b c))))/\((¬b>=(1:Int))->(false)=(JM a b c))))/\((¬a<(512:Int))->(false)=(JM a b c))))/\((¬a>=(0:Int))->(false)=(JM a b c)))):ak P G 301 [oO a b c] [] (aS.ret (Am.bool (JM a b c))) []:=by
 by_cases c1:(a>=(0:Int))
 .have h:=h.1 c1;by_cases c2:(a<(512:Int))
  .have h:=h.1 c2;by_cases c3:(b>=(1:Int))
   .have h:=h.1 c3;by_cases c4:(b<=(1048576:Int))
    .have h:=h.1 c4;by_cases c5:(c>=(0:Int))
     .have h:=h.1 c5;have e1:=h;exact aA (aF.aI e1) [kt (y15 c1),kt (y15 c2),kt (y15 c3),kt (y15 c4),kt (y15 c5)] zQ
     .have h:=h.2 c5;have e1:=h;exact aA (aF.aI e1) [kt (y15 c1),kt (y15 c2),kt (y15 c3),kt (y15 c4),kf (y16 c5)] zQ
    .have h:=h.2 c4;have e1:=h;exact aA (aF.aI e1) [kt (y15 c1),kt (y15 c2),kt (y15 c3),kf (y16 c4),kf (Eq.refl false)] zQ
   .have h:=h.2 c3;have e1:=h;exact aA (aF.aI e1) [kt (y15 c1),kt (y15 c2),kf (y16 c3),kf (Eq.refl false),kf (Eq.refl false)] zQ
  .have h:=h.2 c2;have e1:=h;exact aA (aF.aI e1) [kt (y15 c1),kf (y16 c2),kf (Eq.refl false),kf (Eq.refl false),kf (Eq.refl false)] zQ
 .have h:=h.2 c1;have e1:=h;exact aA (aF.aI e1) [kf (y16 c1),kf (Eq.refl false),kf (Eq.refl false),kf (Eq.refl false),kf (Eq.refl false)] zQ
theorem aew(a b c:Int):ak P G 301 [oO a b c] [] (.ret (bool (JM a b c))) []:=akL a b c (by unfold JM;grind)
theorem aGS(a b c:Int)(h:(((a>=(0:Int))->(((a<(512:Int))->(((b>=(1:Int))->(((b<=(1048576:Int))->(((c>=(0:Int))->(decide (c<=(63:Int)))=(JM a b c))/\((¬c>=(0:Int))->(false)=(JM a b c))))/\((¬b<=(1048576:Int))->(false)=(JM a b c))))/\((¬b>=(1:Int))->(false)=(JM a b c))))/\((¬a<(512:Int))->(false)=(JM a b c))))/\((¬a>=(0:Int))->(false)=(JM a b c)))):ak P G 273 [oO a b c] [] (aS.ret (Am.bool (JM a b c))) []:=by
 by_cases c1:(a>=(0:Int))
 .have h:=h.1 c1;by_cases c2:(a<(512:Int))
  .have h:=h.1 c2;by_cases c3:(b>=(1:Int))
   .have h:=h.1 c3;by_cases c4:(b<=(1048576:Int))
    .have h:=h.1 c4;by_cases c5:(c>=(0:Int))
     .have h:=h.1 c5;have e1:=h;exact aA (aF.aI e1) [kt (y15 c1),kt (y15 c2),kt (y15 c3),kt (y15 c4),kt (y15 c5)] zQ
     .have h:=h.2 c5;have e1:=h;exact aA (aF.aI e1) [kt (y15 c1),kt (y15 c2),kt (y15 c3),kt (y15 c4),kf (y16 c5)] zQ
    .have h:=h.2 c4;have e1:=h;exact aA (aF.aI e1) [kt (y15 c1),kt (y15 c2),kt (y15 c3),kf (y16 c4),kf (Eq.refl false)] zQ
   .have h:=h.2 c3;have e1:=h;exact aA (aF.aI e1) [kt (y15 c1),kt (y15 c2),kf (y16 c3),kf (Eq.refl false),kf (Eq.refl false)] zQ
  .have h:=h.2 c2;have e1:=h;exact aA (aF.aI e1) [kt (y15 c1),kf (y16 c2),kf (Eq.refl false),kf (Eq.refl false),kf (Eq.refl false)] zQ
 .have h:=h.2 c1;have e1:=h;exact aA (aF.aI e1) [kf (y16 c1),kf (Eq.refl false),kf (Eq.refl false),kf (Eq.refl false),kf (Eq.refl false)] zQ
theorem aDZ(a b c:Int):ak P G 273 [oO a b c] [] (.ret (bool (JM a b c))) []:=aGS a b c (by unfold JM;grind)
theorem M9(x:CE)(h:((((JM (CE.dv x) (CE.sq x) (CE.gU x))=true)->((((CE.ad x==0&&(CE.j6 x==0&&CE.aa x==0))=true)->(((CE.tm x>=(1:Int))->(((CE.tm x<=(1099511627776:Int))->(decide ((↑(ByteArray.size (CE.vl x)):Int)<=(4096:Int)))=(dF x))/\((¬CE.tm x<=(1099511627776:Int))->(false)=(dF x))))/\((¬CE.tm x>=(1:Int))->(false)=(dF x))))/\(((CE.ad x==0&&(CE.j6 x==0&&CE.aa x==0))=false)->((((JM (CE.ad x) (CE.j6 x) (CE.aa x))=true)->(((CE.tm x>=(1:Int))->(((CE.tm x<=(1099511627776:Int))->(decide ((↑(ByteArray.size (CE.vl x)):Int)<=(4096:Int)))=(dF x))/\((¬CE.tm x<=(1099511627776:Int))->(false)=(dF x))))/\((¬CE.tm x>=(1:Int))->(false)=(dF x))))/\(((JM (CE.ad x) (CE.j6 x) (CE.aa x))=false)->(false)=(dF x))))))/\(((JM (CE.dv x) (CE.sq x) (CE.gU x))=false)->(false)=(dF x)))):ak P G 284 [nP x] [] (aS.ret (Am.bool (dF x))) []:=by
 have bS:=(@Go.Sq.aew (CE.dv x) (CE.sq x) (CE.gU x));have fT:=(@Go.Sq.aew (CE.ad x) (CE.j6 x) (CE.aa x));rcases y00 ((JM (CE.dv x) (CE.sq x) (CE.gU x)))with c1|c1
 .have h:=h.1 c1;rcases y00 ((CE.ad x==0&&(CE.j6 x==0&&CE.aa x==0)))with c2|c2
  .have h:=h.1 c2;by_cases c3:(CE.tm x>=(1:Int))
   .have h:=h.1 c3;by_cases c4:(CE.tm x<=(1099511627776:Int))
    .have h:=h.1 c4;have e1:=h;exact aA (aF.aI e1) [kc [] bS,kt c1,kt c2,kt (Eq.refl true),kt (y15 c3),kt (y15 c4)] zQ
    .have h:=h.2 c4;have e1:=h;exact aA (aF.aI e1) [kc [] bS,kt c1,kt c2,kt (Eq.refl true),kt (y15 c3),kf (y16 c4)] zQ
   .have h:=h.2 c3;have e1:=h;exact aA (aF.aI e1) [kc [] bS,kt c1,kt c2,kt (Eq.refl true),kf (y16 c3),kf (Eq.refl false)] zQ
  .have h:=h.2 c2;rcases y00 ((JM (CE.ad x) (CE.j6 x) (CE.aa x)))with c5|c5
   .have h:=h.1 c5;by_cases c6:(CE.tm x>=(1:Int))
    .have h:=h.1 c6;by_cases c7:(CE.tm x<=(1099511627776:Int))
     .have h:=h.1 c7;have e1:=h;exact aA (aF.aI e1) [kc [] bS,kt c1,kf c2,kc [] fT,kt c5,kt (y15 c6),kt (y15 c7)] zQ
     .have h:=h.2 c7;have e1:=h;exact aA (aF.aI e1) [kc [] bS,kt c1,kf c2,kc [] fT,kt c5,kt (y15 c6),kf (y16 c7)] zQ
    .have h:=h.2 c6;have e1:=h;exact aA (aF.aI e1) [kc [] bS,kt c1,kf c2,kc [] fT,kt c5,kf (y16 c6),kf (Eq.refl false)] zQ
   .have h:=h.2 c5;have e1:=h;exact aA (aF.aI e1) [kc [] bS,kt c1,kf c2,kc [] fT,kf c5,kf (Eq.refl false),kf (Eq.refl false)] zQ
 .have h:=h.2 c1;have e1:=h;exact aA (aF.aI e1) [kc [] bS,kf c1,kf (Eq.refl false),kf (Eq.refl false),kf (Eq.refl false)] zQ
theorem pV(x:CE):ak P G 284 [nP x] [] (.ret (bool (dF x))) []:=M9 x (by
 simp only[dF,Pp];grind)
theorem aAO(x:CE)(h:((((JM (CE.dv x) (CE.sq x) (CE.gU x))=true)->((((CE.ad x==0&&(CE.j6 x==0&&CE.aa x==0))=true)->(((CE.tm x>=(1:Int))->(((CE.tm x<=(1099511627776:Int))->(decide ((↑(ByteArray.size (CE.vl x)):Int)<=(4096:Int)))=(dF x))/\((¬CE.tm x<=(1099511627776:Int))->(false)=(dF x))))/\((¬CE.tm x>=(1:Int))->(false)=(dF x))))/\(((CE.ad x==0&&(CE.j6 x==0&&CE.aa x==0))=false)->((((JM (CE.ad x) (CE.j6 x) (CE.aa x))=true)->(((CE.tm x>=(1:Int))->(((CE.tm x<=(1099511627776:Int))->(decide ((↑(ByteArray.size (CE.vl x)):Int)<=(4096:Int)))=(dF x))/\((¬CE.tm x<=(1099511627776:Int))->(false)=(dF x))))/\((¬CE.tm x>=(1:Int))->(false)=(dF x))))/\(((JM (CE.ad x) (CE.j6 x) (CE.aa x))=false)->(false)=(dF x))))))/\(((JM (CE.dv x) (CE.sq x) (CE.gU x))=false)->(false)=(dF x)))):ak P G 295 [nP x] [] (aS.ret (Am.bool (dF x))) []:=by
 have bS:=(@Go.Sq.aDZ (CE.dv x) (CE.sq x) (CE.gU x));have fT:=(@Go.Sq.aDZ (CE.ad x) (CE.j6 x) (CE.aa x));rcases y00 ((JM (CE.dv x) (CE.sq x) (CE.gU x)))with c1|c1
 .have h:=h.1 c1;rcases y00 ((CE.ad x==0&&(CE.j6 x==0&&CE.aa x==0)))with c2|c2
  .have h:=h.1 c2;by_cases c3:(CE.tm x>=(1:Int))
   .have h:=h.1 c3;by_cases c4:(CE.tm x<=(1099511627776:Int))
    .have h:=h.1 c4;have e1:=h;exact aA (aF.aI e1) [kc [] bS,kt c1,kt c2,kt (Eq.refl true),kt (y15 c3),kt (y15 c4)] zQ
    .have h:=h.2 c4;have e1:=h;exact aA (aF.aI e1) [kc [] bS,kt c1,kt c2,kt (Eq.refl true),kt (y15 c3),kf (y16 c4)] zQ
   .have h:=h.2 c3;have e1:=h;exact aA (aF.aI e1) [kc [] bS,kt c1,kt c2,kt (Eq.refl true),kf (y16 c3),kf (Eq.refl false)] zQ
  .have h:=h.2 c2;rcases y00 ((JM (CE.ad x) (CE.j6 x) (CE.aa x)))with c5|c5
   .have h:=h.1 c5;by_cases c6:(CE.tm x>=(1:Int))
    .have h:=h.1 c6;by_cases c7:(CE.tm x<=(1099511627776:Int))
     .have h:=h.1 c7;have e1:=h;exact aA (aF.aI e1) [kc [] bS,kt c1,kf c2,kc [] fT,kt c5,kt (y15 c6),kt (y15 c7)] zQ
     .have h:=h.2 c7;have e1:=h;exact aA (aF.aI e1) [kc [] bS,kt c1,kf c2,kc [] fT,kt c5,kt (y15 c6),kf (y16 c7)] zQ
    .have h:=h.2 c6;have e1:=h;exact aA (aF.aI e1) [kc [] bS,kt c1,kf c2,kc [] fT,kt c5,kf (y16 c6),kf (Eq.refl false)] zQ
   .have h:=h.2 c5;have e1:=h;exact aA (aF.aI e1) [kc [] bS,kt c1,kf c2,kc [] fT,kf c5,kf (Eq.refl false),kf (Eq.refl false)] zQ
 .have h:=h.2 c1;have e1:=h;exact aA (aF.aI e1) [kc [] bS,kf c1,kf (Eq.refl false),kf (Eq.refl false),kf (Eq.refl false)] zQ
theorem avK(x:CE):ak P G 295 [nP x] [] (.ret (bool (dF x))) []:=aAO x (by
 simp only[dF,Pp];grind)
def Kn(a b:CE):Bool:=decide (a.tm>b.tm)||(decide (a.tm=b.tm)&&(decide (a.dv>b.dv)||(decide (a.dv=b.dv)&&(decide (a.sq>b.sq)||(decide (a.sq=b.sq)&&decide (a.gU>b.gU))))))
theorem aKR(a b:CE)(h:(((CE.tm a=CE.tm b)->(((CE.dv a=CE.dv b)->(((CE.sq a=CE.sq b)->(decide (CE.gU a>CE.gU b))=(Kn a b))/\((¬CE.sq a=CE.sq b)->(decide (CE.sq a>CE.sq b))=(Kn a b))))/\((¬CE.dv a=CE.dv b)->(decide (CE.dv a>CE.dv b))=(Kn a b))))/\((¬CE.tm a=CE.tm b)->(decide (CE.tm a>CE.tm b))=(Kn a b)))):ak P G 297 [nP a,nP b] [] (aS.ret (Am.bool (Kn a b))) []:=by
 by_cases c1:(CE.tm a=CE.tm b)
 .have h:=h.1 c1;have bS:(CE.tm a != CE.tm b)=false:=(y27 (beq_iff_eq.2 c1));by_cases c2:(CE.dv a=CE.dv b)
  .have h:=h.1 c2;have fT:(CE.dv a != CE.dv b)=false:=(y27 (beq_iff_eq.2 c2));by_cases c3:(CE.sq a=CE.sq b)
   .have h:=h.1 c3;have e1:=h;exact aA (aF.aI e1) [kf bS,kf fT,kf (show(CE.sq a != CE.sq b)=false from(y27 (beq_iff_eq.2 c3)))] zQ
   .have h:=h.2 c3;have e1:=h;exact aA (aF.aI e1) [kf bS,kf fT,kt (show(CE.sq a != CE.sq b)=true from(y27 (beq_eq_false_iff_ne.2 c3)))] zQ
  .have h:=h.2 c2;have e1:=h;exact aA (aF.aI e1) [kf bS,kt (show(CE.dv a != CE.dv b)=true from(y27 (beq_eq_false_iff_ne.2 c2)))] zQ
 .have h:=h.2 c1;have e1:=h;exact aA (aF.aI e1) [kt (show(CE.tm a != CE.tm b)=true from(y27 (beq_eq_false_iff_ne.2 c1)))] zQ
theorem aKL(a b:CE):ak P G 297 [nP a,nP b] [] (.ret (bool (Kn a b))) []:=aKR a b (by
 simp only[Kn];grind)
theorem aw3(v:List CE)(h:(decide ((↑(length v):Int)<=(40:Int)))=(decide (length v<=40))):ak P G 113 [bZ v] [] (aS.ret (Am.bool (decide (length v<=40)))) []:=by
 have e1:=h;exact aA (aF.aI e1) [kv 4 (show Am.aF (int (↑(length (au v)):Int)) (int (↑(length v):Int))from(aF.of_eq (by simp only[Go.Sq.ay])))] zQ
theorem alz(v:List CE):ak P G 113 [bZ v] [] (.ret (bool (decide (v.length<=40)))) []:=aw3 v (by simp;omega)
def vM(a b c:Int)(x:CE):Bool:=x.dv==a&&(x.sq==b&&x.gU==c)
def fI(p:CE->Bool)(v:List CE):Nat->Nat->Option Nat
 |0,_=>none
 |n+1,k=>match v[k]? with
  |some c=>if p c=true then some k else fI p v n (k+1)
  |none=>none
def fX(p:CE->Bool)(v:List CE):Option Nat:=fI p v v.length 0
theorem agv{p}{v}{k n}{c}(h:v[k]?=some c)(hp:p c=true):fI p v (n+1) k=some k:=by simp[fI,h,hp]
theorem akM{p}{v}{k n}{c}(h:v[k]?=some c)(hp:p c=false):fI p v (n+1) k=fI p v n (k+1):=by simp[fI,h,hp]
def U2:Option Nat->Int×Bool
 |some k=>(k,true)
 |none=>(0,false)
def av6(v:List CE)(a b c:Int)(k:Nat):St:={ aL:=aC 21 [(0,bZ v),(1,oO a b c),(3,.ptr 0 0),(4,int 0),(5,bool false),(6,int k)],H:=[.box [int a,int b,int c]] }
theorem ayo(v:List CE)(a b c:Int)(k:Nat)(hv:v.length<=1000000000)(ex:bF)(r:Int)(o:Bool)(h:((((↑k:Int)<(↑(length v):Int))->(∃x2:CE,(v[k]?=some x2)/\((((CE.dv x2==a&&(CE.sq x2==b&&CE.gU x2==c))=true)->(bF.ret=ex)/\(((↑k:Int):Int)=(r))/\((true)=(o)))/\(((CE.dv x2==a&&(CE.sq x2==b&&CE.gU x2==c))=false)->bN P G none 0 (vg P 223 0) (sM 21 [(0,.sl 9 false (au v)),(1,.agg [int a,int b,int c]),(3,.ptr 0 0),(4,int 0),(5,Am.bool false),(6,int (↑(k+1):Int))] [.box [int a,int b,int c]]) ex (sM 21 [(4,int r),(5,Am.bool o)] [.box [int a,int b,int c]])))))/\((¬(↑k:Int)<(↑(length v):Int))->(bF.exit 0=ex)/\((0:Int)=(r))/\((false)=(o))))):bN P G none 0 (vg P 223 0) (av6 v a b c k) ex (sM 21 [(4,int r),(5,Am.bool o)] [.box [int a,int b,int c]]):=by
 have bS:Am.aF (int (↑(length (au v)):Int)) (int (↑(length v):Int)):=(aF.of_eq (by simp only[Go.Sq.ay]));by_cases c1:((↑k:Int)<(↑(length v):Int))
 .have h:=h.1 c1;obtain⟨x2,o3,h⟩:=h;have fT:(0:Int)<=(↑k:Int)/\(au v)[Int.toNat (↑k:Int)]?=some (aQ x2):=(bG o3);rcases y00 ((CE.dv x2==a&&(CE.sq x2==b&&CE.gU x2==c)))with c4|c4
  .have h:=h.1 c4;obtain⟨eX,e1,e2⟩:=h;exact bN.to ((show bN P G none 0 (vg P 223 0) (av6 v a b c k) bF.ret (sM 21 [(4,int (↑k:Int)),(5,Am.bool true)] [.box [int a,int b,int c]])from aG [kv 9 bS,kt (y15 c1),ko (bC.elem (aQ x2)),kp fT,kt c4] (aB 21 [4,5]) 1 zQ)) eX (eB.aC ⟨rfl,(aF.int_eq e1),rfl,(aF.aI e2),yO⟩)
  .have h:=h.2 c4;exact aJ [kv 9 bS,kt (y15 c1),ko (bC.elem (aQ x2)),kp fT,kf c4,kv 12 (show Am.aF (int (IntKind.wrap IntKind.i64 ((↑k:Int)+1))) (int (↑(k+1):Int))from(aF.TJ zO zO zO))] (aB 21 [0,1,3,4,5,6]) 1 h zQ
 .have h:=h.2 c1;obtain⟨eX,e1,e2⟩:=h;exact bN.to ((show bN P G none 0 (vg P 223 0) (av6 v a b c k) (bF.exit 0) (sM 21 [(4,int 0),(5,Am.bool false)] [.box [int a,int b,int c]])from aG [kv 9 bS,kf (y16 c1)] (aB 21 [4,5]) 1 zQ)) eX (eB.aC ⟨rfl,(aF.int_eq e1),rfl,(aF.aI e2),yO⟩)
theorem axx(v:List CE)(a b c:Int)(hv:v.length<=1000000000):∀n k,v.length-k=n->k<=v.length->bN P G none 0 (vg P 223 0) (av6 v a b c k) (if(fI (vM a b c) v n k).isSome=true then .ret else .exit 0)
 { aL:=aC 21 [(4,int (U2 (fI (vM a b c) v n k)).1),(5,bool (U2 (fI (vM a b c) v n k)).2)],H:=[.box [int a,int b,int c]] }:=by
 intro n
 induction n with
 |zero=>intro k hn hk;exact ayo v a b c k hv _ _ _ ⟨fun h=>absurd h zO,fun _=>⟨rfl,rfl,rfl⟩⟩
 |succ n ih =>
  intro k hn hk;have bg:k<v.length:=zO
  have hx:v[k]?=some v[k]:=yA bg;refine ayo v a b c k hv _ _ _ ⟨fun h=>⟨v[k],hx,⟨fun hq=>?_,fun hq=>?_⟩⟩,fun h=>absurd bg zO⟩
  .rw [agv (p:=vM a b c) hx hq];exact⟨rfl,rfl,rfl⟩
  .rw [akM (p:=vM a b c) hx hq];exact ih (k+1) zO zO
theorem awz(v:List CE)(a b c:Int)(hv:v.length<=1000000000):bN P G none 0 (vg P 223 0) (av6 v a b c 0) (if(fX (vM a b c) v).isSome=true then .ret else .exit 0)
 { aL:=aC 21 [(4,int (U2 (fX (vM a b c) v)).1),(5,bool (U2 (fX (vM a b c) v)).2)],H:=[.box [int a,int b,int c]] }:=axx v a b c hv v.length 0 zO zO
theorem aFm(v:List CE)(a b c:Int)(r:Int)(o:Bool)(hv:v.length<=1000000000)(h:(((Option.isSome (fX (vM a b c) v)=true)->((Prod.fst (U2 (fX (vM a b c) v)):Int)=(r))/\((Prod.snd (U2 (fX (vM a b c) v)))=(o)))/\((¬Option.isSome (fX (vM a b c) v)=true)->((0:Int)=(r))/\((false)=(o))))):ak P G 223 [bZ v,oO a b c] [] (aS.ret (AV.bq [int r,Am.bool o])) []:=by
 by_cases c1:(Option.isSome (fX (vM a b c) v)=true)
 .have h:=h.1 c1;obtain⟨e1,e2⟩:=h;exact ak.out ((show ak P G 223 [bZ v,oO a b c] [] (aS.ret (AV.bq [int (Prod.fst (U2 (fX (vM a b c) v))),Am.bool (Prod.snd (U2 (fX (vM a b c) v)))])) []from aj [kl [2,7,8,9,10,11,12,13,14,15,16,17,18,19,20] 1 (show bN P G none 0 (vg P 223 0) (sM 21 [(0,.sl 9 false (au v)),(1,.agg [int a,int b,int c]),(3,.ptr 0 0),(4,int 0),(5,Am.bool false),(6,int 0)] [.box [int a,int b,int c]]) bF.ret (sM 21 [(4,int (Prod.fst (U2 (fX (vM a b c) v)))),(5,Am.bool (Prod.snd (U2 (fX (vM a b c) v))))] [.box [int a,int b,int c]])from(by have h0:=(@Go.Sq.awz (v) (a) (b) (c) zO);simp only[yL c1]at h0;exact h0))] zQ)) (aF.iM ⟨(aF.int_eq e1),(aF.aI e2),yO⟩)
 .have h:=h.2 c1;obtain⟨e1,e2⟩:=h;exact ak.out ((show ak P G 223 [bZ v,oO a b c] [] (aS.ret (AV.bq [int 0,Am.bool false])) []from aj [kl [2,7,8,9,10,11,12,13,14,15,16,17,18,19,20] 1 (show bN P G none 0 (vg P 223 0) (sM 21 [(0,.sl 9 false (au v)),(1,.agg [int a,int b,int c]),(3,.ptr 0 0),(4,int 0),(5,Am.bool false),(6,int 0)] [.box [int a,int b,int c]]) (bF.exit 0) (sM 21 [(4,int (Prod.fst (U2 (fX (vM a b c) v)))),(5,Am.bool (Prod.snd (U2 (fX (vM a b c) v))))] [.box [int a,int b,int c]])from(by have h0:=(@Go.Sq.awz (v) (a) (b) (c) zO);simp only[yK c1]at h0;exact h0))] zQ)) (aF.iM ⟨(aF.int_eq e1),(aF.aI e2),yO⟩)
theorem aFa(v:List CE)(a b c:Int)(hv:v.length<=1000000000):ak P G 223 [bZ v,oO a b c] [] (.ret (.bq [int (U2 (fX (vM a b c) v)).1,bool (U2 (fX (vM a b c) v)).2])) []:=by
 refine aFm v a b c _ _ hv ?_;cases h:fX (vM a b c) v<;>simp[U2]
theorem an1(x:CE)(a b c:Int)(h:True):ak P G 108 [nP x,AV.ptr 0 0] [ah.box [int a,int b,int c]] (aS.ret (Am.bool (vM a b c x))) [ah.box [int a,int b,int c]]:=by
 have _:=h;exact aj [] zQ
def IX(v:List CE)(a b c:Int)(k:Nat):St:={ aL:=aC 19 [(0,bZ v),(1,.fn (.func 108) [] [.ptr 0 0]),(4,int 0),(6,bZ v),(7,int v.length),(8,int k)],H:=[.box [int a,int b,int c]] }
theorem ZI(v:List CE)(a b c:Int)(k:Nat)(hv:v.length<=1000000000)(hp:∀x:CE,ak P G 108 [nP x,.ptr 0 0] [.box [int a,int b,int c]] (.ret (bool (vM a b c x))) [.box [int a,int b,int c]])(ex:bF)(r:Int)(h:((((↑k:Int)<(↑(length v):Int))->(∃x2:CE,(v[k]?=some x2)/\((((vM a b c x2)=true)->(bF.ret=ex)/\(((↑k:Int):Int)=(r)))/\(((vM a b c x2)=false)->bN P G none 1 (vg P 107 0) (sM 19 [(0,.sl 9 false (au v)),(1,.fn (Fn.func 108) [] [.ptr 0 0]),(4,int 0),(6,.sl 9 false (au v)),(7,int (↑(length v):Int)),(8,int (↑(k+1):Int))] [.box [int a,int b,int c]]) ex (sM 19 [(4,int r)] [.box [int a,int b,int c]])))))/\((¬(↑k:Int)<(↑(length v):Int))->(bF.exit 0=ex)/\((0:Int)=(r))))):bN P G none 1 (vg P 107 0) (IX v a b c k) ex (sM 19 [(4,int r)] [.box [int a,int b,int c]]):=by
 by_cases c1:((↑k:Int)<(↑(length v):Int))
 .have h:=h.1 c1;obtain⟨x2,o3,h⟩:=h;have bS:(0:Int)<=(↑k:Int)/\(au v)[Int.toNat (↑k:Int)]?=some (aQ x2):=(bG o3);have fT:=(@hp (x2));rcases y00 ((vM a b c x2))with c4|c4
  .have h:=h.1 c4;obtain⟨eX,e1⟩:=h;exact bN.to ((show bN P G none 1 (vg P 107 0) (IX v a b c k) bF.ret (sM 19 [(4,int (↑k:Int))] [.box [int a,int b,int c]])from aG [kt (y15 c1),ko (bC.elem (aQ x2)),kp bS,kc [0] fT,kt c4] (aB 19 [4]) 1 zQ)) eX (eB.aC ⟨rfl,(aF.int_eq e1),yO⟩)
  .have h:=h.2 c4;exact aJ [kt (y15 c1),ko (bC.elem (aQ x2)),kp bS,kc [0] fT,kf c4,kv 18 (show Am.aF (int (IntKind.wrap IntKind.i64 ((↑k:Int)+1))) (int (↑(k+1):Int))from(aF.TJ zO zO zO))] (aB 19 [0,1,4,6,7,8]) 1 h zQ
 .have h:=h.2 c1;obtain⟨eX,e1⟩:=h;exact bN.to ((show bN P G none 1 (vg P 107 0) (IX v a b c k) (bF.exit 0) (sM 19 [(4,int 0)] [.box [int a,int b,int c]])from aG [kf (y16 c1)] (aB 19 [4]) 1 zQ)) eX (eB.aC ⟨rfl,(aF.int_eq e1),yO⟩)
def nE:Option Nat->Int
 |some k=>k
 |none => -1
theorem Nc(v:List CE)(a b c:Int)(hv:v.length<=1000000000):∀n k,v.length-k=n->k<=v.length->bN P G none 1 (vg P 107 0) (IX v a b c k) (if(fI (vM a b c) v n k).isSome=true then .ret else .exit 0)
 { aL:=aC 19 [(4,int (match fI (vM a b c) v n k with|some j=>(j:Int)|none=>0))],H:=[.box [int a,int b,int c]] }:=by
 have hp:∀x:CE,ak P G 108 [nP x,.ptr 0 0] [.box [int a,int b,int c]] (.ret (bool (vM a b c x))) [.box [int a,int b,int c]]:=fun x=>an1 x a b c trivial;intro n
 induction n with
 |zero=>intro k hn hk;exact ZI v a b c k hv hp _ _ ⟨fun h=>absurd h zO,fun _=>⟨rfl,rfl⟩⟩
 |succ n ih =>
  intro k hn hk;have bg:k<v.length:=zO
  have hx:v[k]?=some v[k]:=yA bg;refine ZI v a b c k hv hp _ _ ⟨fun h=>⟨v[k],hx,⟨fun hq=>?_,fun hq=>?_⟩⟩,fun h=>absurd bg zO⟩
  .rw [agv (p:=vM a b c) hx hq];exact⟨rfl,rfl⟩
  .rw [akM (p:=vM a b c) hx hq];exact ih (k+1) zO zO
theorem ZJ(v:List CE)(a b c:Int)(hv:v.length<=1000000000):bN P G none 1 (vg P 107 0) (IX v a b c 0) (if(fX (vM a b c) v).isSome=true then .ret else .exit 0)
 { aL:=aC 19 [(4,int (match fX (vM a b c) v with|some j=>(j:Int)|none=>0))],H:=[.box [int a,int b,int c]] }:=Nc v a b c hv v.length 0 zO zO
theorem akN(v:List CE)(a b c:Int)(r:Int)(hv:v.length<=1000000000)(h:(((Option.isSome (fX (vM a b c) v)=true)->(match fX (vM a b c) v with
|some j=>(↑j:Int)
|none=>0:Int)=(r))/\((¬Option.isSome (fX (vM a b c) v)=true)->(-1:Int)=(r)))):ak P G 107 [bZ v,AV.fn (Fn.func 108) [] [AV.ptr 0 0]] [ah.box [int a,int b,int c]] (aS.ret (int r)) [ah.box [int a,int b,int c]]:=by
 have bS:Am.aF (int (↑(length (au v)):Int)) (int (↑(length v):Int)):=(aF.of_eq (by simp only[Go.Sq.ay]));by_cases c1:(Option.isSome (fX (vM a b c) v)=true)
 .have h:=h.1 c1;have e1:=h;exact aA (aF.int_eq e1) [kv 7 bS,kl [2,3,5,9,10,11,12,13,14,15,16,17,18] 1 (show bN P G none 1 (vg P 107 0) (sM 19 [(0,.sl 9 false (au v)),(1,.fn (Fn.func 108) [] [.ptr 0 0]),(4,int 0),(6,.sl 9 false (au v)),(7,int (↑(length v):Int)),(8,int 0)] [.box [int a,int b,int c]]) bF.ret
 (St.mk
  (aC 19
   [(4,
    int
     (match fX (vM a b c) v with
     |some j=>(↑j:Int)
     |none=>0))])
  [ah.box [int a,int b,int c]] [])from(by have h0:=(@Go.Sq.ZJ (v) (a) (b) (c) zO);simp only[yL c1]at h0;exact h0))] zQ
 .have h:=h.2 c1;have e1:=h;exact aA (aF.int_eq e1) [kv 7 bS,kl [2,3,5,9,10,11,12,13,14,15,16,17,18] 1 (show bN P G none 1 (vg P 107 0) (sM 19 [(0,.sl 9 false (au v)),(1,.fn (Fn.func 108) [] [.ptr 0 0]),(4,int 0),(6,.sl 9 false (au v)),(7,int (↑(length v):Int)),(8,int 0)] [.box [int a,int b,int c]]) (bF.exit 0)
 (St.mk
  (aC 19
   [(4,
    int
     (match fX (vM a b c) v with
     |some j=>(↑j:Int)
     |none=>0))])
  [ah.box [int a,int b,int c]] [])from(by have h0:=(@Go.Sq.ZJ (v) (a) (b) (c) zO);simp only[yK c1]at h0;exact h0))] zQ
theorem akO(v:List CE)(a b c:Int)(hv:v.length<=1000000000):ak P G 107 [bZ v,.fn (.func 108) [] [.ptr 0 0]] [.box [int a,int b,int c]] (.ret (int (nE (fX (vM a b c) v)))) [.box [int a,int b,int c]]:=by grind[akN,fX,vM,nE]
theorem agw(v:List CE)(a b c:Int)(r:Int)(o:Bool)(n:Int)(hv:v.length<=1000000000)(hx:ak P G 107 [bZ v,.fn (.func 108) [] [.ptr 0 0]] [.box [int a,int b,int c]] (.ret (int n)) [.box [int a,int b,int c]])(h:((if(0:Int)>n then 0 else n:Int)=(r))/\((decide (n>=(0:Int)))=(o))):ak P G 34 [bZ v,oO a b c] [] (aS.ret (AV.bq [int r,Am.bool o])) []:=by
 obtain⟨e1,e2⟩:=h;exact ak.out ((show ak P G 34 [bZ v,oO a b c] [] (aS.ret (AV.bq [int (if(0:Int)>n then 0 else n),Am.bool (decide (n>=(0:Int)))])) []from aj [kc [0] (@hx )] zQ)) (aF.iM ⟨(aF.int_eq e1),(aF.aI e2),yO⟩)
theorem wX(v:List CE)(a b c:Int)(hv:v.length<=1000000000):ak P G 34 [bZ v,oO a b c] [] (.ret (.bq [int (U2 (fX (vM a b c) v)).1,bool (U2 (fX (vM a b c) v)).2])) []:=by
 refine agw v a b c _ _ _ hv (akO v a b c hv) ?_;cases h:fX (vM a b c) v with
 |none=>simp[nE,U2]
 |some j=>simp[nE,U2];omega
end Go.Sq
