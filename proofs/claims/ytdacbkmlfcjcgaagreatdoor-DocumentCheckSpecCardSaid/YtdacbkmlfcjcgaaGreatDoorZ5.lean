import Derived.Test.YtdacbkmlfcjcgaaGreatDoorZ4
import Derived.Test.YtdacbkmlfcjcgaaGreatDoorChecked
set_option maxRecDepth 100000
set_option linter.unusedSimpArgs false
set_option linter.unusedVariables false
open List
noncomputable section
namespace Go.Sq
open Go Go.Am Go.Proofs Go.eY
theorem Uc(a b:CE):((a.dv==b.dv&&(a.sq==b.sq&&(a.gU==b.gU&&(a.ad==b.ad&&(a.j6==b.j6&&(a.aa==b.aa&&(a.tm==b.tm&&(a.vl==b.vl&&a.gn==b.gn))))))))=true)↔a=b:=by
 rw[tN];cases a;cases b;simp
def IU(a b:List CE)(k:Nat):St:={ aL:=aC 26 [(0,bZ a),(1,bZ b),(4,bool false),(5,int k)],H:=[] }
theorem Zw(a b:List CE)(k:Nat)(hl:a.length=b.length)(hv:b.length<=1000000000)(ex:bF)(o:Bool)(h:((((↑k:Int)<(↑(length a):Int))->(∃x2:CE,(a[k]?=some x2)/\(∃x4:CE,(b[k]?=some x4)/\((((CE.dv x2==CE.dv x4&&(CE.sq x2==CE.sq x4&&(CE.gU x2==CE.gU x4&&(CE.ad x2==CE.ad x4&&(CE.j6 x2==CE.j6 x4&&(CE.aa x2==CE.aa x4&&(CE.tm x2==CE.tm x4&&(CE.vl x2==CE.vl x4&&CE.gn x2==CE.gn x4))))))))=true)->bN P G none 0 (vg P 98 0) (sM 26 [(0,.sl 9 false (au a)),(1,.sl 9 false (au b)),(4,Am.bool false),(5,int (↑(k+1):Int))] []) ex (sM 26 [(4,Am.bool o)] []))/\(((CE.dv x2==CE.dv x4&&(CE.sq x2==CE.sq x4&&(CE.gU x2==CE.gU x4&&(CE.ad x2==CE.ad x4&&(CE.j6 x2==CE.j6 x4&&(CE.aa x2==CE.aa x4&&(CE.tm x2==CE.tm x4&&(CE.vl x2==CE.vl x4&&CE.gn x2==CE.gn x4))))))))=false)->(bF.ret=ex)/\((false)=(o)))))))/\((¬(↑k:Int)<(↑(length a):Int))->(bF.exit 0=ex)/\((false)=(o))))):bN P G none 0 (vg P 98 0) (IU a b k) ex (sM 26 [(4,Am.bool o)] []):=by
 have bS:Am.aF (int (↑(length (au a)):Int)) (int (↑(length a):Int)):=(aF.of_eq (by simp only[Go.Sq.ay]));by_cases c1:((↑k:Int)<(↑(length a):Int))
 .have h:=h.1 c1;obtain⟨x2,o3,h⟩:=h;have fT:(0:Int)<=(↑k:Int)/\(au a)[Int.toNat (↑k:Int)]?=some (aQ x2):=(bG o3);obtain⟨x4,o5,h⟩:=h;have jw:(0:Int)<=(↑k:Int)/\(au b)[Int.toNat (↑k:Int)]?=some (aQ x4):=(bG o5);rcases y00 ((CE.dv x2==CE.dv x4&&(CE.sq x2==CE.sq x4&&(CE.gU x2==CE.gU x4&&(CE.ad x2==CE.ad x4&&(CE.j6 x2==CE.j6 x4&&(CE.aa x2==CE.aa x4&&(CE.tm x2==CE.tm x4&&(CE.vl x2==CE.vl x4&&CE.gn x2==CE.gn x4)))))))))with c6|c6
  .have h:=h.1 c6;exact aJ [kv 13 bS,kt (y15 c1),ko (bC.elem (aQ x2)),ko (bC.elem (aQ x4)),kp fT,kp jw,kf (show(!(CE.dv x2==CE.dv x4&&(CE.sq x2==CE.sq x4&&(CE.gU x2==CE.gU x4&&(CE.ad x2==CE.ad x4&&(CE.j6 x2==CE.j6 x4&&(CE.aa x2==CE.aa x4&&(CE.tm x2==CE.tm x4&&(CE.vl x2==CE.vl x4&&CE.gn x2==CE.gn x4)))))))))=false from(y27 (c6))),kv 16 (show Am.aF (int (IntKind.wrap IntKind.i64 ((↑k:Int)+1))) (int (↑(k+1):Int))from(aF.TJ zO zO zO))] (aB 26 [0,1,4,5]) 0 h zQ
  .have h:=h.2 c6;obtain⟨eX,e1⟩:=h;exact bN.to ((show bN P G none 0 (vg P 98 0) (IU a b k) bF.ret (sM 26 [(4,Am.bool false)] [])from aG [kv 13 bS,kt (y15 c1),ko (bC.elem (aQ x2)),ko (bC.elem (aQ x4)),kp fT,kp jw,kt (show(!(CE.dv x2==CE.dv x4&&(CE.sq x2==CE.sq x4&&(CE.gU x2==CE.gU x4&&(CE.ad x2==CE.ad x4&&(CE.j6 x2==CE.j6 x4&&(CE.aa x2==CE.aa x4&&(CE.tm x2==CE.tm x4&&(CE.vl x2==CE.vl x4&&CE.gn x2==CE.gn x4)))))))))=true from(y27 (c6)))] (aB 26 [4]) 0 zQ)) eX (eB.aC ⟨rfl,(aF.aI e1),yO⟩)
 .have h:=h.2 c1;obtain⟨eX,e1⟩:=h;exact bN.to ((show bN P G none 0 (vg P 98 0) (IU a b k) (bF.exit 0) (sM 26 [(4,Am.bool false)] [])from aG [kv 13 bS,kf (y16 c1)] (aB 26 [4]) 0 zQ)) eX (eB.aC ⟨rfl,(aF.aI e1),yO⟩)
def IY(a b:List CE)(k:Nat):St:={ aL:=aC 26 [(0,bZ a),(1,bZ b),(4,bool false),(11,bZ a),(12,int a.length),(13,int k)],H:=[] }
theorem ZK(a b:List CE)(k:Nat)(hl:a.length=b.length)(hv:b.length<=1000000000)(ex:bF)(o:Bool)(h:((((↑k:Int)<(↑(length a):Int))->(∃x2:CE,(a[k]?=some x2)/\(∃x4:CE,(b[k]?=some x4)/\((((CE.dv x2==CE.dv x4&&(CE.sq x2==CE.sq x4&&(CE.gU x2==CE.gU x4&&(CE.ad x2==CE.ad x4&&(CE.j6 x2==CE.j6 x4&&(CE.aa x2==CE.aa x4&&(CE.tm x2==CE.tm x4&&(CE.vl x2==CE.vl x4&&CE.gn x2==CE.gn x4))))))))=true)->bN P G none 0 (vg P 68 0) (sM 26 [(0,.sl 9 false (au a)),(1,.sl 9 false (au b)),(4,Am.bool false),(11,.sl 9 false (au a)),(12,int (↑(length a):Int)),(13,int (↑(k+1):Int))] []) ex (sM 26 [(4,Am.bool o)] []))/\(((CE.dv x2==CE.dv x4&&(CE.sq x2==CE.sq x4&&(CE.gU x2==CE.gU x4&&(CE.ad x2==CE.ad x4&&(CE.j6 x2==CE.j6 x4&&(CE.aa x2==CE.aa x4&&(CE.tm x2==CE.tm x4&&(CE.vl x2==CE.vl x4&&CE.gn x2==CE.gn x4))))))))=false)->(bF.ret=ex)/\((false)=(o)))))))/\((¬(↑k:Int)<(↑(length a):Int))->(bF.exit 0=ex)/\((false)=(o))))):bN P G none 0 (vg P 68 0) (IY a b k) ex (sM 26 [(4,Am.bool o)] []):=by
 by_cases c1:((↑k:Int)<(↑(length a):Int))
 .have h:=h.1 c1;obtain⟨x2,o3,h⟩:=h;have bS:(0:Int)<=(↑k:Int)/\(au a)[Int.toNat (↑k:Int)]?=some (aQ x2):=(bG o3);obtain⟨x4,o5,h⟩:=h;have fT:(0:Int)<=(↑k:Int)/\(au b)[Int.toNat (↑k:Int)]?=some (aQ x4):=(bG o5);rcases y00 ((CE.dv x2==CE.dv x4&&(CE.sq x2==CE.sq x4&&(CE.gU x2==CE.gU x4&&(CE.ad x2==CE.ad x4&&(CE.j6 x2==CE.j6 x4&&(CE.aa x2==CE.aa x4&&(CE.tm x2==CE.tm x4&&(CE.vl x2==CE.vl x4&&CE.gn x2==CE.gn x4)))))))))with c6|c6
  .have h:=h.1 c6;exact aJ [kt (y15 c1),ko (bC.elem (aQ x2)),ko (bC.elem (aQ x4)),kp bS,kp fT,kf (show(!(CE.dv x2==CE.dv x4&&(CE.sq x2==CE.sq x4&&(CE.gU x2==CE.gU x4&&(CE.ad x2==CE.ad x4&&(CE.j6 x2==CE.j6 x4&&(CE.aa x2==CE.aa x4&&(CE.tm x2==CE.tm x4&&(CE.vl x2==CE.vl x4&&CE.gn x2==CE.gn x4)))))))))=false from(y27 (c6))),kv 25 (show Am.aF (int (IntKind.wrap IntKind.i64 ((↑k:Int)+1))) (int (↑(k+1):Int))from(aF.TJ zO zO zO))] (aB 26 [0,1,4,11,12,13]) 0 h zQ
  .have h:=h.2 c6;obtain⟨eX,e1⟩:=h;exact bN.to ((show bN P G none 0 (vg P 68 0) (IY a b k) bF.ret (sM 26 [(4,Am.bool false)] [])from aG [kt (y15 c1),ko (bC.elem (aQ x2)),ko (bC.elem (aQ x4)),kp bS,kp fT,kt (show(!(CE.dv x2==CE.dv x4&&(CE.sq x2==CE.sq x4&&(CE.gU x2==CE.gU x4&&(CE.ad x2==CE.ad x4&&(CE.j6 x2==CE.j6 x4&&(CE.aa x2==CE.aa x4&&(CE.tm x2==CE.tm x4&&(CE.vl x2==CE.vl x4&&CE.gn x2==CE.gn x4)))))))))=true from(y27 (c6)))] (aB 26 [4]) 0 zQ)) eX (eB.aC ⟨rfl,(aF.aI e1),yO⟩)
 .have h:=h.2 c1;obtain⟨eX,e1⟩:=h;exact bN.to ((show bN P G none 0 (vg P 68 0) (IY a b k) (bF.exit 0) (sM 26 [(4,Am.bool false)] [])from aG [kf (y16 c1)] (aB 26 [4]) 0 zQ)) eX (eB.aC ⟨rfl,(aF.aI e1),yO⟩)
def KR{α:Type}[DecidableEq α](a b:List α):Nat->Nat->Bool
 |0,_=>true
 |n+1,k=>match a[k]?,b[k]? with
  |some x,some y=>decide (x=y)&&KR a b n (k+1)
  |_,_=>true
theorem DI{α}[DecidableEq α]{a b:List α}(hl:a.length=b.length):∀n k,a.length-k=n->k<=a.length->(KR a b n k=true↔a.drop k=b.drop k)
 |0,k,hn,hk=>by
  have h1:a.drop k=[]:=y14 zO;have h2:b.drop k=[]:=y14 zO;simp[KR,h1,h2]
 |n+1,k,hn,hk=>by
  have ha:k<a.length:=zO
  have hb:k<b.length:=zO
  rw[KR,yA ha,yA hb,y01 ha,y01 hb];simp only[y04,y05,List.cons.injEq,DI hl n (k+1) zO zO]
theorem GK{α}[DecidableEq α]{a b:List α}(hl:a.length=b.length):KR a b a.length 0=decide (a=b):=by
 rw[Bool.eq_iff_iff,DI hl a.length 0 zO zO];simp
theorem tO{α}[DecidableEq α]{a b}{n k}{x y:α}(ha:a[k]?=some x)(hb:b[k]?=some y):KR a b (n+1) k=(decide (x=y)&&KR a b n (k+1)):=by rw[KR,ha,hb]
theorem Na(a b:List CE)(hl:a.length=b.length)(hv:b.length<=1000000000):∀n k,a.length-k=n->k<=a.length->bN P G none 0 (vg P 98 0) (IU a b k) (if KR a b n k=true then .exit 0 else .ret) { aL:=aC 26 [(4,bool false)],H:=[] }:=by
 intro n
 induction n with
 |zero=>intro k hn hk;exact Zw a b k hl hv _ _ ⟨fun h=>absurd h zO,fun _=>⟨rfl,rfl⟩⟩
 |succ n ih =>
  intro k hn hk;have bg:k<a.length:=zO
  have hx:a[k]?=some a[k]:=yA bg;have hy:b[k]?=some (b[k]'zO):=yA zO;refine Zw a b k hl hv _ _ ⟨fun h=>⟨a[k],hx,b[k]'zO,hy,⟨fun hq=>?_,fun hq=>?_⟩⟩,fun h=>absurd bg zO⟩
  .rw [tO hx hy,y15 ((Uc _ _).1 hq),Bool.true_and];exact ih (k+1) zO zO
  .rw [tO hx hy,y16 (fun e=>by rw[(Uc _ _).2 e]at hq;cases hq)];exact⟨rfl,rfl⟩
theorem IV(a b:List CE)(hl:a.length=b.length)(hv:b.length<=1000000000):bN P G none 0 (vg P 98 0) (IU a b 0) (if a=b then .exit 0 else .ret) { aL:=aC 26 [(4,bool false)],H:=[] }:=by
 have:=Na a b hl hv a.length 0 zO zO;rw[GK hl]at this;simpa using this
theorem Nf(a b:List CE)(hl:a.length=b.length)(hv:b.length<=1000000000):∀n k,a.length-k=n->k<=a.length->bN P G none 0 (vg P 68 0) (IY a b k) (if KR a b n k=true then .exit 0 else .ret) { aL:=aC 26 [(4,bool false)],H:=[] }:=by
 intro n
 induction n with
 |zero=>intro k hn hk;exact ZK a b k hl hv _ _ ⟨fun h=>absurd h zO,fun _=>⟨rfl,rfl⟩⟩
 |succ n ih =>
  intro k hn hk;have bg:k<a.length:=zO
  have hx:a[k]?=some a[k]:=yA bg;have hy:b[k]?=some (b[k]'zO):=yA zO;refine ZK a b k hl hv _ _ ⟨fun h=>⟨a[k],hx,b[k]'zO,hy,⟨fun hq=>?_,fun hq=>?_⟩⟩,fun h=>absurd bg zO⟩
  .rw [tO hx hy,y15 ((Uc _ _).1 hq),Bool.true_and];exact ih (k+1) zO zO
  .rw [tO hx hy,y16 (fun e=>by rw[(Uc _ _).2 e]at hq;cases hq)];exact⟨rfl,rfl⟩
theorem ZL(a b:List CE)(hl:a.length=b.length)(hv:b.length<=1000000000):bN P G none 0 (vg P 68 0) (IY a b 0) (if a=b then .exit 0 else .ret) { aL:=aC 26 [(4,bool false)],H:=[] }:=by
 have:=Nf a b hl hv a.length 0 zO zO;rw[GK hl]at this;simpa using this
theorem DJ(a b:List CE)(hv:b.length<=1000000000)(o:Bool)(h:((((↑(length a):Int)=(↑(length b):Int))->(((a=b)->(true)=(o))/\((¬a=b)->(false)=(o))))/\((¬(↑(length a):Int)=(↑(length b):Int))->(false)=(o)))):ak P G 98 [bZ a,bZ b] [] (aS.ret (Am.bool o)) []:=by
 have bS:Am.aF (int (↑(length (au a)):Int)) (int (↑(length a):Int)):=(aF.of_eq (by simp only[Go.Sq.ay]));have fT:Am.aF (int (↑(length (au b)):Int)) (int (↑(length b):Int)):=(aF.of_eq (by simp only[Go.Sq.ay]));by_cases c1:((↑(length a):Int)=(↑(length b):Int))
 .have h:=h.1 c1;have jw:((↑(length a):Int)!=(↑(length b):Int))=false:=(y27 (beq_iff_eq.2 c1));by_cases c2:(a=b)
  .have h:=h.1 c2;have e1:=h;exact aA (aF.aI e1) [kv 7 bS,kv 9 fT,kf jw,kl [2,3,6,7,8,9,10,11,12,13,14,15,16,17,18,19,20,21,22,23,24,25] 0 (show bN P G none 0 (vg P 98 0) (sM 26 [(0,.sl 9 false (au a)),(1,.sl 9 false (au b)),(4,Am.bool false),(5,int 0)] []) (bF.exit 0) (sM 26 [(4,Am.bool false)] [])from(by have h0:=(@Go.Sq.IV (a) (b) zO zO);simp only[yL c2]at h0;exact h0))] zQ
  .have h:=h.2 c2;have e1:=h;exact aA (aF.aI e1) [kv 7 bS,kv 9 fT,kf jw,kl [2,3,6,7,8,9,10,11,12,13,14,15,16,17,18,19,20,21,22,23,24,25] 0 (show bN P G none 0 (vg P 98 0) (sM 26 [(0,.sl 9 false (au a)),(1,.sl 9 false (au b)),(4,Am.bool false),(5,int 0)] []) bF.ret (sM 26 [(4,Am.bool false)] [])from(by have h0:=(@Go.Sq.IV (a) (b) zO zO);simp only[yK c2]at h0;exact h0))] zQ
 .have h:=h.2 c1;have e1:=h;exact aA (aF.aI e1) [kv 7 bS,kv 9 fT,kt (show((↑(length a):Int)!=(↑(length b):Int))=true from(y27 (beq_eq_false_iff_ne.2 c1)))] zQ
theorem C9(a b:List CE)(ha:a.length<=1000000000)(hv:b.length<=1000000000):ak P G 98 [bZ a,bZ b] [] (.ret (bool (decide (a=b)))) []:=DJ a b hv _ (by
 by_cases h:a=b
 .subst h;simp
 .simp [h]
 )
def vi0(v:List CE)(k:Nat):St:={ aL:=aC 21 [(2,aK),(5,bZ v),(6,int v.length),(7,int k)],H:=[] }
def vi1(v:List CE)(k:Nat)(x:CE)(l:List yP):St:={ aL:=aC 21 [(2,.aU 1 (l.length-1) 0 l.length),(5,bZ v),(6,int v.length),(7,int k)],H:=[.box (aQ x),.aN (l.length-1) 1 false (zB l)] }
theorem aDG(v:List CE)(k:Nat)(hv:v.length<=1000000000)(ex:bF)(s':St)(h:((((↑k:Int)<(↑(length v):Int))->(∃x2:CE,(v[k]?=some x2)/\((((CE.gn x2)=true)->bN P G none 0 (vg P 142 0) (sM 21 [(2,aK),(5,.sl 9 false (au v)),(6,int (↑(length v):Int)),(7,int (↑(k+1):Int))] []) ex s')/\(((CE.gn x2)=false)->bN P G none 0 (vg P 142 0) (sM 21 [(2,AV.aU 1 0 0 (length [CE.vl x2])),(5,.sl 9 false (au v)),(6,int (↑(length v):Int)),(7,int (↑(k+1):Int))] [.box [int (CE.dv x2),int (CE.sq x2),int (CE.gU x2),int (CE.ad x2),int (CE.j6 x2),int (CE.aa x2),int (CE.tm x2),str (CE.vl x2),Am.bool (CE.gn x2)],ah.aN 0 1 false (zB [CE.vl x2])]) ex s'))))/\((¬(↑k:Int)<(↑(length v):Int))->(bF.exit 0=ex)/\(sM 21 [(2,aK)] []=s')))):bN P G none 0 (vg P 142 0) (vi0 v k) ex s':=by
 by_cases c1:((↑k:Int)<(↑(length v):Int))
 .have h:=h.1 c1;obtain⟨x2,o3,h⟩:=h;have bS:(0:Int)<=(↑k:Int)/\(au v)[Int.toNat (↑k:Int)]?=some (aQ x2):=(bG o3);rcases y00 ((CE.gn x2))with c4|c4
  .have h:=h.1 c4;exact aJ [kt (y15 c1),ko (bC.elem (aQ x2)),kp bS,kf (show(!CE.gn x2)=false from(y27 (c4))),kv 19 (show Am.aF (int (IntKind.wrap IntKind.i64 ((↑k:Int)+1))) (int (↑(k+1):Int))from(aF.TJ zO zO zO))] (aB 21 [2,5,6,7]) 0 h zQ
  .have h:=h.2 c4;exact aJ [kt (y15 c1),ko (bC.elem (aQ x2)),kp bS,kt (show(!CE.gn x2)=true from(y27 (c4))),kp (show[[str (CE.vl x2)]]≠[]from zS),kp (show 16<=140737488355328 from zO),kv 19 (show Am.aF (int (IntKind.wrap IntKind.i64 ((↑k:Int)+1))) (int (↑(k+1):Int))from(aF.TJ zO zO zO))] (aB 21 [2,5,6,7]) 2 h zQ
 .have h:=h.2 c1;obtain⟨eX,eS⟩:=h;exact bN.to ((show bN P G none 0 (vg P 142 0) (vi0 v k) (bF.exit 0) (sM 21 [(2,aK)] [])from aG [kf (y16 c1)] (aB 21 [2]) 0 zQ)) eX (eB.of_eq eS)
theorem aF1(v:List CE)(k:Nat)(x:CE)(l:List yP)(hv:v.length<=1000000000)(hl:l.length<=1000000000)(ex:bF)(s':St)(h:((((↑k:Int)<(↑(length v):Int))->(∃x2:CE,(v[k]?=some x2)/\((((CE.gn x2)=true)->bN P G none 0 (vg P 142 0) (sM 21 [(2,AV.aU 1 (length l-1) 0 (length l)),(5,.sl 9 false (au v)),(6,int (↑(length v):Int)),(7,int (↑(k+1):Int))] [.box [int (CE.dv x),int (CE.sq x),int (CE.gU x),int (CE.ad x),int (CE.j6 x),int (CE.aa x),int (CE.tm x),str (CE.vl x),Am.bool (CE.gn x)],ah.aN (length l-1) 1 false (zB l)]) ex s')/\(((CE.gn x2)=false)->bN P G none 0 (vg P 142 0) (sM 21 [(2,AV.aU 1 (length l-1+1) 0 (length (l++[CE.vl x2]))),(5,.sl 9 false (au v)),(6,int (↑(length v):Int)),(7,int (↑(k+1):Int))] [.box [int (CE.dv x),int (CE.sq x),int (CE.gU x),int (CE.ad x),int (CE.j6 x),int (CE.aa x),int (CE.tm x),str (CE.vl x),Am.bool (CE.gn x)],ah.aN (length l-1+1) 1 false (zB (l++[CE.vl x2]))]) ex s'))))/\((¬(↑k:Int)<(↑(length v):Int))->(bF.exit 0=ex)/\(sM 21 [(2,AV.aU 1 (length l-1) 0 (length l))] [.box [int (CE.dv x),int (CE.sq x),int (CE.gU x),int (CE.ad x),int (CE.j6 x),int (CE.aa x),int (CE.tm x),str (CE.vl x),Am.bool (CE.gn x)],ah.aN (length l-1) 1 false (zB l)]=s')))):bN P G none 0 (vg P 142 0) (vi1 v k x l) ex s':=by
 by_cases c1:((↑k:Int)<(↑(length v):Int))
 .have h:=h.1 c1;obtain⟨x2,o3,h⟩:=h;have bS:(0:Int)<=(↑k:Int)/\(au v)[Int.toNat (↑k:Int)]?=some (aQ x2):=(bG o3);rcases y00 ((CE.gn x2))with c4|c4
  .have h:=h.1 c4;exact aJ [kt (y15 c1),ko (bC.elem (aQ x2)),kp bS,kf (show(!CE.gn x2)=false from(y27 (c4))),kv 19 (show Am.aF (int (IntKind.wrap IntKind.i64 ((↑k:Int)+1))) (int (↑(k+1):Int))from(aF.TJ zO zO zO)),kp (show ∀(x:List AV),x∈zB l->AV.aM [] x=true from(Go.Sq.awv _))] (aB 21 [2,5,6,7]) 2 h zQ
  .have h:=h.2 c4;exact aJ [kt (y15 c1),ko (bC.elem (aQ x2)),kp bS,kt (show(!CE.gn x2)=true from(y27 (c4))),ko (bC.hp (some 18) (AV.aU 1 (length l-1+1) 0 (length (l++[CE.vl x2]))) [ah.box [int (CE.dv x),int (CE.sq x),int (CE.gU x),int (CE.ad x),int (CE.j6 x),int (CE.aa x),int (CE.tm x),str (CE.vl x),Am.bool (CE.gn x)],ah.aN (length l-1+1) 1 false (zB (l++[CE.vl x2])),ah.box [int (CE.dv x2),int (CE.sq x2),int (CE.gU x2),int (CE.ad x2),int (CE.j6 x2),int (CE.aa x2),int (CE.tm x2),str (CE.vl x2),Am.bool (CE.gn x2)]]),kp (show Am.aF (AV.aU 1 (length l-1+1) 0 (length l+1)) (AV.aU 1 (length l-1+1) 0 (length (l++[CE.vl x2])))from(aF.of_eq (by simp[Go.Sq.vo,Go.Sq.awv]))),kp (show Am.HSub [ah.box [int (CE.dv x),int (CE.sq x),int (CE.gU x),int (CE.ad x),int (CE.j6 x),int (CE.aa x),int (CE.tm x),str (CE.vl x),Am.bool (CE.gn x)],ah.aN (length l-1+1) 1 false (zB l++[[str (CE.vl x2)]]),ah.box [int (CE.dv x2),int (CE.sq x2),int (CE.gU x2),int (CE.ad x2),int (CE.j6 x2),int (CE.aa x2),int (CE.tm x2),str (CE.vl x2),Am.bool (CE.gn x2)]] [ah.box [int (CE.dv x),int (CE.sq x),int (CE.gU x),int (CE.ad x),int (CE.j6 x),int (CE.aa x),int (CE.tm x),str (CE.vl x),Am.bool (CE.gn x)],ah.aN (length l-1+1) 1 false (zB (l++[CE.vl x2])),ah.box [int (CE.dv x2),int (CE.sq x2),int (CE.gU x2),int (CE.ad x2),int (CE.j6 x2),int (CE.aa x2),int (CE.tm x2),str (CE.vl x2),Am.bool (CE.gn x2)]]from(⟨.inl rfl,.inl (by simp only[Go.Sq.awF,Go.Sq.aBm]),.inl rfl,yO⟩)),kp (show length l-1=length l-1 from(rfl)),kp (show length l=length (zB l)from((Go.Sq.vo _).symm)),kp (show(length l+1)*16<=140737488355328 from zO),kv 19 (show Am.aF (int (IntKind.wrap IntKind.i64 ((↑k:Int)+1))) (int (↑(k+1):Int))from(aF.TJ zO zO zO)),kp (show ∀(x:List AV),x∈zB (l++[CE.vl x2])->AV.aM [] x=true from(Go.Sq.awv _))] (aB 21 [2,5,6,7]) 2 h zQ
 .have h:=h.2 c1;obtain⟨eX,eS⟩:=h;exact bN.to ((show bN P G none 0 (vg P 142 0) (vi1 v k x l) (bF.exit 0) (sM 21 [(2,AV.aU 1 (length l-1) 0 (length l))] [.box [int (CE.dv x),int (CE.sq x),int (CE.gU x),int (CE.ad x),int (CE.j6 x),int (CE.aa x),int (CE.tm x),str (CE.vl x),Am.bool (CE.gn x)],ah.aN (length l-1) 1 false (zB l)])from aG [kf (y16 c1)] (aB 21 [2]) 2 zQ)) eX (eB.of_eq eS)
def rv0(v:List CE)(k:Nat):St:={ aL:=aC 27 [(0,bZ v),(2,aK),(3,.sl 1 true []),(4,int k)],H:=[] }
def rv1(v:List CE)(k:Nat)(l:List yP):St:={ aL:=aC 27 [(0,bZ v),(2,aK),(3,.aU 0 (l.length-1) 0 l.length),(4,int k)],H:=[.aN (l.length-1) 1 false (zB l)] }
theorem aF2(v:List CE)(k:Nat)(hv:v.length<=1000000000)(ex:bF)(s':St)(h:((((↑k:Int)<(↑(length v):Int))->(∃x2:CE,(v[k]?=some x2)/\((((CE.gn x2)=true)->bN P G none 0 (vg P 149 0) (sM 27 [(0,.sl 9 false (au v)),(2,aK),(3,.sl 1 true []),(4,int (↑(k+1):Int))] []) ex s')/\(((CE.gn x2)=false)->bN P G none 0 (vg P 149 0) (sM 27 [(0,.sl 9 false (au v)),(2,aK),(3,AV.aU 0 0 0 (length [CE.vl x2])),(4,int (↑(k+1):Int))] [ah.aN 0 1 false (zB [CE.vl x2])]) ex s'))))/\((¬(↑k:Int)<(↑(length v):Int))->(bF.exit 0=ex)/\(sM 27 [(3,.sl 1 true [])] []=s')))):bN P G none 0 (vg P 149 0) (rv0 v k) ex s':=by
 have bS:Am.aF (int (↑(length (au v)):Int)) (int (↑(length v):Int)):=(aF.of_eq (by simp only[Go.Sq.ay]));by_cases c1:((↑k:Int)<(↑(length v):Int))
 .have h:=h.1 c1;obtain⟨x2,o3,h⟩:=h;have fT:(0:Int)<=(↑k:Int)/\(au v)[Int.toNat (↑k:Int)]?=some (aQ x2):=(bG o3);rcases y00 ((CE.gn x2))with c4|c4
  .have h:=h.1 c4;exact aJ [kv 8 bS,kt (y15 c1),ko (bC.elem (aQ x2)),kp fT,kf (show(!CE.gn x2)=false from(y27 (c4))),kv 11 (show Am.aF (int (IntKind.wrap IntKind.i64 ((↑k:Int)+1))) (int (↑(k+1):Int))from(aF.TJ zO zO zO))] (aB 27 [0,2,3,4]) 0 h zQ
  .have h:=h.2 c4;exact aJ [kv 8 bS,kt (y15 c1),ko (bC.elem (aQ x2)),kp fT,kt (show(!CE.gn x2)=true from(y27 (c4))),ko (bC.elem (aQ x2)),kp fT,kp (show[[str (CE.vl x2)]]≠[]from zS),kp (show 16<=140737488355328 from zO),kv 11 (show Am.aF (int (IntKind.wrap IntKind.i64 ((↑k:Int)+1))) (int (↑(k+1):Int))from(aF.TJ zO zO zO))] (aB 27 [0,2,3,4]) 1 h zQ
 .have h:=h.2 c1;obtain⟨eX,eS⟩:=h;exact bN.to ((show bN P G none 0 (vg P 149 0) (rv0 v k) (bF.exit 0) (sM 27 [(3,.sl 1 true [])] [])from aG [kv 8 bS,kf (y16 c1)] (aB 27 [3]) 0 zQ)) eX (eB.of_eq eS)
theorem aF3(v:List CE)(k:Nat)(l:List yP)(hv:v.length<=1000000000)(hl:l.length<=1000000000)(ex:bF)(s':St)(h:((((↑k:Int)<(↑(length v):Int))->(∃x2:CE,(v[k]?=some x2)/\((((CE.gn x2)=true)->bN P G none 0 (vg P 149 0) (sM 27 [(0,.sl 9 false (au v)),(2,aK),(3,AV.aU 0 (length l-1) 0 (length l)),(4,int (↑(k+1):Int))] [ah.aN (length l-1) 1 false (zB l)]) ex s')/\(((CE.gn x2)=false)->bN P G none 0 (vg P 149 0) (sM 27 [(0,.sl 9 false (au v)),(2,aK),(3,AV.aU 0 (length l-1+1) 0 (length (l++[CE.vl x2]))),(4,int (↑(k+1):Int))] [ah.aN (length l-1+1) 1 false (zB (l++[CE.vl x2]))]) ex s'))))/\((¬(↑k:Int)<(↑(length v):Int))->(bF.exit 0=ex)/\(sM 27 [(3,AV.aU 0 (length l-1) 0 (length l))] [ah.aN (length l-1) 1 false (zB l)]=s')))):bN P G none 0 (vg P 149 0) (rv1 v k l) ex s':=by
 have bS:Am.aF (int (↑(length (au v)):Int)) (int (↑(length v):Int)):=(aF.of_eq (by simp only[Go.Sq.ay]));by_cases c1:((↑k:Int)<(↑(length v):Int))
 .have h:=h.1 c1;obtain⟨x2,o3,h⟩:=h;have fT:(0:Int)<=(↑k:Int)/\(au v)[Int.toNat (↑k:Int)]?=some (aQ x2):=(bG o3);rcases y00 ((CE.gn x2))with c4|c4
  .have h:=h.1 c4;exact aJ [kv 8 bS,kt (y15 c1),ko (bC.elem (aQ x2)),kp fT,kf (show(!CE.gn x2)=false from(y27 (c4))),kv 11 (show Am.aF (int (IntKind.wrap IntKind.i64 ((↑k:Int)+1))) (int (↑(k+1):Int))from(aF.TJ zO zO zO))] (aB 27 [0,2,3,4]) 1 h zQ
  .have h:=h.2 c4;exact aJ [kv 8 bS,kt (y15 c1),ko (bC.elem (aQ x2)),kp fT,kt (show(!CE.gn x2)=true from(y27 (c4))),ko (bC.elem (aQ x2)),ko (bC.hp (some 25) (AV.aU 0 (length l-1+1) 0 (length (l++[CE.vl x2]))) [ah.aN (length l-1+1) 1 false (zB (l++[CE.vl x2]))]),kp fT,kp (show Am.aF (AV.aU 0 (length l-1+1) 0 (length l+1)) (AV.aU 0 (length l-1+1) 0 (length (l++[CE.vl x2])))from(aF.of_eq (by simp[Go.Sq.vo,Go.Sq.awv]))),kp (show Am.HSub [ah.aN (length l-1+1) 1 false (zB l++[[str (CE.vl x2)]])] [ah.aN (length l-1+1) 1 false (zB (l++[CE.vl x2]))]from(⟨.inl (by simp only[Go.Sq.awF,Go.Sq.aBm]),yO⟩)),kp (show length l-1=length l-1 from(rfl)),kp (show length l=length (zB l)from((Go.Sq.vo _).symm)),kp (show(length l+1)*16<=140737488355328 from zO),kv 11 (show Am.aF (int (IntKind.wrap IntKind.i64 ((↑k:Int)+1))) (int (↑(k+1):Int))from(aF.TJ zO zO zO))] (aB 27 [0,2,3,4]) 1 h zQ
 .have h:=h.2 c1;obtain⟨eX,eS⟩:=h;exact bN.to ((show bN P G none 0 (vg P 149 0) (rv1 v k l) (bF.exit 0) (sM 27 [(3,AV.aU 0 (length l-1) 0 (length l))] [ah.aN (length l-1) 1 false (zB l)])from aG [kv 8 bS,kf (y16 c1)] (aB 27 [3]) 1 zQ)) eX (eB.of_eq eS)
theorem Yi(v:List CE)(fF:au v≠[])(hv:v.length<=1000000)(h:(((au v=[])->([])=(au v))/\((¬au v=[])->True))):ak P G 116 [bZ v] [] (aS.ret (bZ v)) []:=by
 have bS:au v≠[]:=zO;by_cases c1:(au v=[])
 .have h:=h.1 c1;have e1:=h;exact ak.out ((show ak P G 116 [bZ v] [] (aS.ret (AV.sl 9 true [])) []from aj [kp bS,kf (Eq.refl false),ko (bC.LV),kp c1] zQ)) (aF.GJ e1)
 .have h:=h.2 c1;have _:=h;exact aj [kp bS,kf (Eq.refl false),kv 7 (show Am.aF (AV.aU 0 0 0 (0+length (au v))) (AV.aU 0 0 0 (length v))from(aF.of_eq (by simp[Go.Sq.ay,Go.Sq.dW,Go.Sq.bK,Go.Sq.bJ]))),ko (bC.Gu (au v)),kp c1,kp (show(0+length (au v))*80<=140737488355328 from(by simp only[yD,yE,y11,y10,Go.Sq.ay,Go.Sq.dW,Go.Sq.bK,Go.Sq.bJ]<;>omega)),kp (show 0=0 from(rfl)),kp (show List.take (length v) (List.drop 0 (au v))=au v from(Go.Sq.dW _)),kp (show length (au v)=length v from(Go.Sq.ay _)),kp (show ∀(c:List AV),c∈au v->List.all c AV.fJ=true from(Go.Sq.bK _))] zQ
def vis(v:List CE):List yP:=(v.filter fun c=>!c.gn).map CE.vl
theorem azY(c:CE)(v:List CE):vis (c::v)=(if c.gn=true then[]else[c.vl])++vis v:=by
 cases h:c.gn<;>simp[vis,h]
theorem azZ(v:List CE):(vis v).length<=v.length:=by
 rw[vis,y10];exact length_filter_le _ _
def viF(x:CE)(t:List yP):St:={ aL:=aC 21 [(2,if t=[]then aK else .aU 1 (t.length-1) 0 t.length)],H:=if t=[]then[]else[.box (aQ x),.aN (t.length-1) 1 false (zB t)] }
def rvF(t:List yP):St:={ aL:=aC 27 [(3,if t=[]then .sl 1 true []else .aU 0 (t.length-1) 0 t.length)],H:=if t=[]then[]else[.aN (t.length-1) 1 false (zB t)] }
theorem aBJ(v:List CE)(x:CE)(hv:v.length<=10000000):∀n k (l:List yP),v.length-k=n->l≠[]->l.length<=k->k<=v.length->bN P G none 0 (vg P 142 0) (vi1 v k x l) (.exit 0) (viF x (l++vis (v.drop k))):=by
 intro n
 induction n with
 |zero =>
  intro k l hn hl hlk hk;refine aF1 v k x l zO zO _ _ ⟨fun h=>absurd h zO,fun _=>⟨rfl,?_⟩⟩;rw[y14 zO];simp[viF,vis,hl,aQ]
 |succ n ih =>
  intro k l hn hl hlk hk;have bg:k<v.length:=zO
  have hx:v[k]?=some v[k]:=yA bg;rw[y01 bg,azY];refine aF1 v k x l zO zO _ _ ⟨fun h=>⟨v[k],hx,⟨fun hq=>?_,fun hq=>?_⟩⟩,fun h=>absurd bg zO⟩
  .rw [yL hq,nil_append];exact ih (k+1) l zO hl zO zO
  .rw [yK (by rw[hq];decide),<- y13];have e:l.length-1+1=(l++[v[k].vl]).length-1:=by
    have:=length_pos_iff.2 hl;rw[yD,length_singleton];omega
   rw[e];exact ih (k+1) (l++[v[k].vl]) zO zS (by rw[yD,length_singleton];omega) zO
theorem aDH(v:List CE)(hv:v.length<=10000000):∀n k,v.length-k=n->k<=v.length->∃x,bN P G none 0 (vg P 142 0) (vi0 v k) (.exit 0) (viF x (vis (v.drop k))):=by
 intro n
 induction n with
 |zero =>
  intro k hn hk;refine⟨⟨0,0,0,0,0,0,0,.empty,false⟩,aDG v k zO _ _ ⟨fun h=>absurd h zO,fun _=>⟨rfl,?_⟩⟩⟩;rw[y14 zO];simp[viF,vis]
 |succ n ih =>
  intro k hn hk;have bg:k<v.length:=zO
  have hx:v[k]?=some v[k]:=yA bg;rw[y01 bg,azY];cases hg:v[k].gn with
  |true =>
   obtain⟨x,h⟩:=ih (k+1) zO zO;exact⟨x,aDG v k zO _ _ ⟨fun _=>⟨v[k],hx,⟨fun _=>h,fun hq=>absurd (hg.symm.trans hq) zD⟩⟩,fun h=>absurd bg zO⟩⟩
  |false =>
   refine⟨v[k],aDG v k zO _ _ ⟨fun _=>⟨v[k],hx,⟨fun hq=>absurd (hg.symm.trans hq) zD,fun _=>?_⟩⟩,fun h=>absurd bg zO⟩⟩;rw[yK zD];by_cases hk0:k=0
   .exact aBJ v v[k] hv n (k+1) [v[k].vl] zO zS zS zO
   .exact aBJ v v[k] hv n (k+1) [v[k].vl] zO zS zS zO
theorem aDI(v:List CE)(hv:v.length<=10000000):∀n k (l:List yP),v.length-k=n->l≠[]->l.length<=k->k<=v.length->bN P G none 0 (vg P 149 0) (rv1 v k l) (.exit 0) (rvF (l++vis (v.drop k))):=by
 intro n
 induction n with
 |zero =>
  intro k l hn hl hlk hk;refine aF3 v k l zO zO _ _ ⟨fun h=>absurd h zO,fun _=>⟨rfl,?_⟩⟩;rw[y14 zO];simp[rvF,vis,hl]
 |succ n ih =>
  intro k l hn hl hlk hk;have bg:k<v.length:=zO
  have hx:v[k]?=some v[k]:=yA bg;rw[y01 bg,azY];refine aF3 v k l zO zO _ _ ⟨fun h=>⟨v[k],hx,⟨fun hq=>?_,fun hq=>?_⟩⟩,fun h=>absurd bg zO⟩
  .rw [yL hq,nil_append];exact ih (k+1) l zO hl zO zO
  .rw [yK (by rw[hq];decide),<- y13];have e:l.length-1+1=(l++[v[k].vl]).length-1:=by
    have:=length_pos_iff.2 hl;rw[yD,length_singleton];omega
   rw[e];exact ih (k+1) (l++[v[k].vl]) zO zS (by rw[yD,length_singleton];omega) zO
theorem aDJ(v:List CE)(hv:v.length<=10000000):∀n k,v.length-k=n->k<=v.length->bN P G none 0 (vg P 149 0) (rv0 v k) (.exit 0) (rvF (vis (v.drop k))):=by
 intro n
 induction n with
 |zero =>
  intro k hn hk;refine aF2 v k zO _ _ ⟨fun h=>absurd h zO,fun _=>⟨rfl,?_⟩⟩;rw[y14 zO];simp[rvF,vis]
 |succ n ih =>
  intro k hn hk;have bg:k<v.length:=zO
  have hx:v[k]?=some v[k]:=yA bg;rw[y01 bg,azY];refine aF2 v k zO _ _ ⟨fun _=>⟨v[k],hx,⟨fun hq=>?_,fun hq=>?_⟩⟩,fun h=>absurd bg zO⟩
  .rw [yL hq,nil_append];exact ih (k+1) zO zO
  .rw [yK (by rw[hq];decide)];exact aDI v hv n (k+1) [v[k].vl] zO zS zS zO
theorem aIc(v:List CE)(x:CE)(t:List yP)(hv:v.length<=10000000)(ht:t.length<=10000000)(hL:bN P G none 0 (vg P 142 0) (vi0 v 0) (.exit 0) { aL:=aC 21 [(2,if t=[]then aK else .aU 1 (t.length-1) 0 t.length)],H:=if t=[]then[]else[.box (aQ x),.aN (t.length-1) 1 false (zB t)] })(h:(((t=[])->([])=(t))/\((¬t=[])->True))):ak P G 142 [bZ v] [] (aS.ret (strs t)) []:=by
 have bS:Am.aF (int (↑(length (au v)):Int)) (int (↑(length v):Int)):=(aF.of_eq (by simp only[Go.Sq.ay]));by_cases c1:(t=[])
 .have h:=h.1 c1;have e1:=h;exact ak.out ((show ak P G 142 [bZ v] [] (aS.ret aK) []from aj [kv 6 bS,kl [0,1,3,4,8,9,10,11,12,13,14,15,16,17,18,19,20] 0 (show bN P G none 0 (vg P 142 0) (sM 21 [(2,aK),(5,.sl 9 false (au v)),(6,int (↑(length v):Int)),(7,int 0)] []) (bF.exit 0) (sM 21 [(2,aK)] [])from(by have h0:=(@hL );simp only[yL c1]at h0;exact h0))] zQ)) (aF.nil_eq (yJ (List.map st1) e1))
 .have h:=h.2 c1;have _:=h;exact aj [kv 6 bS,kl [0,1,3,4,8,9,10,11,12,13,14,15,16,17,18,19,20] 0 (show bN P G none 0 (vg P 142 0) (sM 21 [(2,aK),(5,.sl 9 false (au v)),(6,int (↑(length v):Int)),(7,int 0)] []) (bF.exit 0) (sM 21 [(2,AV.aU 1 (length t-1) 0 (length t))] [.box [int (CE.dv x),int (CE.sq x),int (CE.gU x),int (CE.ad x),int (CE.j6 x),int (CE.aa x),int (CE.tm x),str (CE.vl x),Am.bool (CE.gn x)],ah.aN (length t-1) 1 false (zB t)])from(by have h0:=(@hL );simp only[yK c1]at h0;exact h0)),ko (bC.Gu (zB t)),kp (show length t-1=length t-1 from(rfl)),kp (show List.take (length t) (List.drop 0 (zB t))=zB t from(Go.Sq.aw4 _)),kp (show length (zB t)=length t from(Go.Sq.vo _)),kp (show ∀(c:List AV),c∈zB t->List.all c AV.fJ=true from(Go.Sq.awo _))] zQ
theorem aId(v:List CE)(hv:v.length<=10000000):ak P G 142 [bZ v] [] (.ret (strs (vis v))) []:=by
 obtain⟨x,h⟩:=aDH v hv v.length 0 zO zO;rw[drop_zero]at h;refine aIc v x (vis v) hv (by have:=azZ v;omega) h ?_;exact⟨fun h=>h.symm,fun _=>trivial⟩
theorem aGD(v:List CE)(t:List yP)(hv:v.length<=10000000)(ht:t.length<=10000000)(hL:bN P G none 0 (vg P 149 0) (rv0 v 0) (.exit 0) { aL:=aC 27 [(3,if t=[]then .sl 1 true []else .aU 0 (t.length-1) 0 t.length)],H:=if t=[]then[]else[.aN (t.length-1) 1 false (zB t)] })(h:(((t=[])->([])=(zB t))/\((¬t=[])->True))):ak P G 149 [bZ v] [] (aS.ret (strs t)) []:=by
 by_cases c1:(t=[])
 .have h:=h.1 c1;have e1:=h;exact ak.out ((show ak P G 149 [bZ v] [] (aS.ret (AV.sl 1 true [])) []from aj [kl [1,5,6,7,8,9,10,11,12,13,14,15,16,17,18,19,20,21,22,23,24,25,26] 0 (show bN P G none 0 (vg P 149 0) (sM 27 [(0,.sl 9 false (au v)),(2,aK),(3,.sl 1 true []),(4,int 0)] []) (bF.exit 0) (sM 27 [(3,.sl 1 true [])] [])from(by have h0:=(@hL );simp only[yL c1]at h0;exact h0))] zQ)) (aF.GJ e1)
 .have h:=h.2 c1;have _:=h;exact aj [kl [1,5,6,7,8,9,10,11,12,13,14,15,16,17,18,19,20,21,22,23,24,25,26] 0 (show bN P G none 0 (vg P 149 0) (sM 27 [(0,.sl 9 false (au v)),(2,aK),(3,.sl 1 true []),(4,int 0)] []) (bF.exit 0) (sM 27 [(3,AV.aU 0 (length t-1) 0 (length t))] [ah.aN (length t-1) 1 false (zB t)])from(by have h0:=(@hL );simp only[yK c1]at h0;exact h0)),ko (bC.Gu (zB t)),kp (show length t-1=length t-1 from(rfl)),kp (show List.take (length t) (List.drop 0 (zB t))=zB t from(Go.Sq.aw4 _)),kp (show length (zB t)=length t from(Go.Sq.vo _)),kp (show ∀(c:List AV),c∈zB t->List.all c AV.fJ=true from(Go.Sq.awo _))] zQ
theorem aGj(v:List CE)(hv:v.length<=10000000):ak P G 149 [bZ v] [] (.ret (strs (vis v))) []:=by
 have h:=aDJ v hv v.length 0 zO zO;rw[drop_zero]at h;refine aGD v (vis v) hv (by have:=azZ v;omega) h ?_;exact⟨fun h=>by rw[h];rfl,fun _=>trivial⟩
theorem akP(a b:List CE)(ha:a.length<=1000000000)(hv:b.length<=1000000000)(o:Bool)(h:((((↑(length a):Int)=(↑(length b):Int))->(((a=b)->(true)=(o))/\((¬a=b)->(false)=(o))))/\((¬(↑(length a):Int)=(↑(length b):Int))->(false)=(o)))):ak P G 68 [bZ a,bZ b] [] (aS.ret (Am.bool o)) []:=by
 have bS:Am.aF (int (↑(length (au a)):Int)) (int (↑(length a):Int)):=(aF.of_eq (by simp only[Go.Sq.ay]));have fT:Am.aF (int (↑(length (au b)):Int)) (int (↑(length b):Int)):=(aF.of_eq (by simp only[Go.Sq.ay]));by_cases c1:((↑(length a):Int)=(↑(length b):Int))
 .have h:=h.1 c1;have jw:((↑(length a):Int)!=(↑(length b):Int))=false:=(y27 (beq_iff_eq.2 c1));by_cases c2:(a=b)
  .have h:=h.1 c2;have e1:=h;exact aA (aF.aI e1) [kv 7 bS,kv 9 fT,kf jw,kv 12 bS,kl [2,3,5,6,7,8,9,10,14,15,16,17,18,19,20,21,22,23,24,25] 0 (show bN P G none 0 (vg P 68 0) (sM 26 [(0,.sl 9 false (au a)),(1,.sl 9 false (au b)),(4,Am.bool false),(11,.sl 9 false (au a)),(12,int (↑(length a):Int)),(13,int 0)] []) (bF.exit 0) (sM 26 [(4,Am.bool false)] [])from(by have h0:=(@Go.Sq.ZL (a) (b) zO zO);simp only[yL c2]at h0;exact h0))] zQ
  .have h:=h.2 c2;have e1:=h;exact aA (aF.aI e1) [kv 7 bS,kv 9 fT,kf jw,kv 12 bS,kl [2,3,5,6,7,8,9,10,14,15,16,17,18,19,20,21,22,23,24,25] 0 (show bN P G none 0 (vg P 68 0) (sM 26 [(0,.sl 9 false (au a)),(1,.sl 9 false (au b)),(4,Am.bool false),(11,.sl 9 false (au a)),(12,int (↑(length a):Int)),(13,int 0)] []) bF.ret (sM 26 [(4,Am.bool false)] [])from(by have h0:=(@Go.Sq.ZL (a) (b) zO zO);simp only[yK c2]at h0;exact h0))] zQ
 .have h:=h.2 c1;have e1:=h;exact aA (aF.aI e1) [kv 7 bS,kv 9 fT,kt (show((↑(length a):Int)!=(↑(length b):Int))=true from(y27 (beq_eq_false_iff_ne.2 c1)))] zQ
theorem ais(a b:List CE)(ha:a.length<=1000000000)(hv:b.length<=1000000000):ak P G 68 [bZ a,bZ b] [] (.ret (bool (decide (a=b)))) []:=akP a b ha hv _ (by
 by_cases h:a=b
 .subst h;simp
 .simp [h])
theorem akQ(cap:Nat):ak P G 116 [.lit (.slice none 0 cap)] [] (.ret (bZ [])) [] :=
 ak.out (show ak P G 116 [.lit (.slice none 0 cap)] [] (.ret aK) []from aj [kt (Eq.refl true)] zQ) (aF.nil 9)
theorem akR(a:Addr)(cap:Nat):ak P G 116 [.lit (.slice (some a) 0 cap)] [] (.ret (bZ [])) [] :=
 ak.out (show ak P G 116 [.lit (.slice (some a) 0 cap)] [] (.ret (.sl 9 true [])) []from aj [kf (Eq.refl false),ko .LV,kp (rfl:([]:List (List AV))=[])] zQ) (aF.oP 9 true [])
theorem uJ(v:List CE)(hv:v.length<=1000000):ak P G 116 [bZ v] [] (.ret (bZ v)) []:=by
 cases v with
 |nil=>exact ak.wY akQ akR
 |cons c v=>exact Yi (c::v) (by simp[au]) hv ⟨fun h=>by simp[au]at h,fun _=>trivial⟩
def aBK(l:List CE)(c:CE)(k:Nat):St:={ aL:=aC 31 [(0,bZ l),(3,.ptr 0 0),(4,bool false),(5,int k)],H:=[.box (aQ c)] }
theorem aKI(l:List CE)(c:CE)(k:Nat)(hk:l.length<k)(hv:l.length<=1000000)(h:True):bN P G none 0 (vg P 296 0) (aBK l c k) (bF.exit 0) (sM 31 [(4,Am.bool false)] [.box (aQ c)]):=by
 have _:=h;exact aG [kv 10 (show Am.aF (int (↑(length (au l)):Int)) (int (↑(length l):Int))from(aF.of_eq (by simp only[Go.Sq.ay]))),kf (show decide ((↑k:Int)<=(↑(length l):Int))=false from(y16 zO))] (aB 31 [4]) 1 zQ
theorem aKJ(l:List CE)(c:CE)(k:Nat)(hk:k<=l.length)(hv:l.length<=1000000)(hz:(c.ad==0&&(c.j6==0&&c.aa==0))=true)(h:True):bN P G none 0 (vg P 296 0) (aBK l c k) bF.ret (sM 31 [(4,Am.bool true)] [.box (aQ c)]):=by
 have _:=h;exact aG [kv 10 (show Am.aF (int (↑(length (au l)):Int)) (int (↑(length l):Int))from(aF.of_eq (by simp only[Go.Sq.ay]))),kt (show decide ((↑k:Int)<=(↑(length l):Int))=true from(y15 zO)),kt hz] (aB 31 [4]) 1 zQ
theorem aKK(l:List CE)(c:CE)(k:Nat)(hk:k<=l.length)(hv:l.length<=1000000)(hz:(c.ad==0&&(c.j6==0&&c.aa==0))=false)(hf:ak P G 223 [bZ l,oO c.ad c.j6 c.aa] [] (.ret (.bq [int 0,bool false])) [])(h:True):bN P G none 0 (vg P 296 0) (aBK l c k) bF.ret (sM 31 [(4,Am.bool false)] [.box (aQ c)]):=by
 have _:=h;exact aG [kv 10 (show Am.aF (int (↑(length (au l)):Int)) (int (↑(length l):Int))from(aF.of_eq (by simp only[Go.Sq.ay]))),kt (show decide ((↑k:Int)<=(↑(length l):Int))=true from(y15 zO)),kf hz,kc [] (@hf ),kt (Eq.refl true)] (aB 31 [4]) 1 zQ
theorem aIe(l:List CE)(c y:CE)(k j:Nat)(hk:k<=l.length)(hv:l.length<=1000000)(hz:(c.ad==0&&(c.j6==0&&c.aa==0))=false)(hy:l[j]?=some y)(hf:ak P G 223 [bZ l,oO c.ad c.j6 c.aa] [] (.ret (.bq [int j,bool true])) [])(ex:bF)(s':St)(h:bN P G none 0 (vg P 296 0) (sM 31 [(0,.sl 9 false (au l)),(3,.ptr 0 0),(4,Am.bool false),(5,int (↑(k+1):Int))] [.box [int (CE.dv y),int (CE.sq y),int (CE.gU y),int (CE.ad y),int (CE.j6 y),int (CE.aa y),int (CE.tm y),str (CE.vl y),Am.bool (CE.gn y)]]) ex s'):bN P G none 0 (vg P 296 0) (aBK l c k) ex s':=by
 exact aJ [kv 10 (show Am.aF (int (↑(length (au l)):Int)) (int (↑(length l):Int))from(aF.of_eq (by simp only[Go.Sq.ay]))),kt (show decide ((↑k:Int)<=(↑(length l):Int))=true from(y15 zO)),kf hz,kc [] (@hf ),kf (Eq.refl false),ko (bC.elem (aQ y)),kp (show(0:Int)<=(↑j:Int)/\(au l)[Int.toNat (↑j:Int)]?=some (aQ y)from(bG hy)),kv 13 (show Am.aF (int (IntKind.wrap IntKind.i64 ((↑k:Int)+1))) (int (↑(k+1):Int))from(aF.TJ zO zO zO))] (aB 31 [0,3,4,5]) 1 h zQ
def Oq(l:List CE):Nat->CE->Bool
 |0,_=>false
 |n+1,c=>if(c.ad==0&&(c.j6==0&&c.aa==0))=true then true else match fX (vM c.ad c.j6 c.aa) l with
  |some j=>match l[j]? with
   |some y=>Oq l n y
   |none=>false
  |none=>false
def Tt(l:List CE)(c:CE):Bool:=Oq l (l.length+1) c
theorem ZM{p}{v}:∀{n k j},fI p v n k=some j->∃y,v[j]?=some y/\p y=true
 |0,_,_,h=>by cases h
 |n+1,k,j,h=>by
  rw[fI]at h;split at h
  .split at h
   .grind
   .exact ZM h
  .cases h
theorem QU{p}{v}{j}(h:fX p v=some j):∃y,v[j]?=some y/\p y=true:=ZM h
theorem aE9(l:List CE)(hv:l.length<=1000000):∀n k c,l.length+1-k=n->k<=l.length+1->∃c',bN P G none 0 (vg P 296 0) (aBK l c k) .ret { aL:=aC 31 [(4,bool (Oq l n c))],H:=[.box (aQ c')] } \/
 (Oq l n c=false/\bN P G none 0 (vg P 296 0) (aBK l c k) (.exit 0) { aL:=aC 31 [(4,bool false)],H:=[.box (aQ c')] }):=by
 intro n
 induction n with
 |zero=>intro k c hn hk;exact⟨c,.inr ⟨rfl,aKI l c k zO hv yO⟩⟩
 |succ n ih =>
  intro k c hn hk;rw[Oq];by_cases hz:(c.ad==0&&(c.j6==0&&c.aa==0))=true
  .rw [yL hz];exact⟨c,.inl (aKJ l c k zO hv hz yO)⟩
  .rw [yK hz];have hz':(c.ad==0&&(c.j6==0&&c.aa==0))=false:=by simpa using hz
   have hf:=aFa l c.ad c.j6 c.aa zO;cases hx:fX (vM c.ad c.j6 c.aa) l with
   |none =>
    rw[hx]at hf;exact⟨c,.inl (aKK l c k zO hv hz' hf yO)⟩
   |some j =>
    rw[hx]at hf;obtain⟨y,hy,_⟩:=QU hx;simp only[hy];obtain⟨c',h⟩:=ih (k+1) y zO zO;exact⟨c',h.imp (fun h=>aIe l c y k j zO hv hz' hy hf _ _ h) (fun h=>⟨h.1,aIe l c y k j zO hv hz' hy hf _ _ h.2⟩)⟩
theorem aGE(l:List CE)(c x:CE)(o:Bool)(hv:l.length<=1000000)(hL:bN P G none 0 (vg P 296 0) (aBK l c 0) .ret { aL:=aC 31 [(4,bool o)],H:=[.box (aQ x)] })(h:True):ak P G 296 [bZ l,nP c] [] (aS.ret (Am.bool o)) []:=by
 have _:=h;exact aj [kl [1,2,6,7,8,9,10,11,12,13,14,15,16,17,18,19,20,21,22,23,24,25,26,27,28,29,30] 1 (@hL )] zQ
theorem aGF(l:List CE)(c x:CE)(hv:l.length<=1000000)(hL:bN P G none 0 (vg P 296 0) (aBK l c 0) (.exit 0) { aL:=aC 31 [(4,bool false)],H:=[.box (aQ x)] })(h:True):ak P G 296 [bZ l,nP c] [] (aS.ret (Am.bool false)) []:=by
 have _:=h;exact aj [kl [1,2,6,7,8,9,10,11,12,13,14,15,16,17,18,19,20,21,22,23,24,25,26,27,28,29,30] 1 (@hL )] zQ
theorem aGG(l:List CE)(c:CE)(hv:l.length<=1000000):ak P G 296 [bZ l,nP c] [] (.ret (bool (Tt l c))) []:=by
 obtain⟨x,h|⟨h1,h2⟩⟩:=aE9 l hv (l.length+1) 0 c zO zO
 .exact aGE l c x _ hv h trivial
 .rw [Tt,h1];exact aGF l c x hv h2 trivial
def aCL(l:List CE)(k:Nat):St:={ aL:=aC 90 [(0,bZ l),(2,bool false),(3,int k)],H:=[] }
def aBL(l:List CE)(k i:Nat):St:={ aL:=aC 90 [(0,bZ l),(2,bool false),(3,int k),(4,int i)],H:=[] }
theorem aIf(l:List CE)(x:CE)(k i:Nat)(hx:l[k]?=some x)(hv:l.length<=1000000)(hk:k<=1000000)(hi:i<=k)(ex:bF)(s':St)(h:((((↑i:Int)<(↑k:Int))->(∃x2:CE,(l[i]?=some x2)/\((((CE.dv x==CE.dv x2&&(CE.sq x==CE.sq x2&&CE.gU x==CE.gU x2))=true)->(bF.ret=ex)/\(sM 90 [(0,.sl 9 false (au l)),(2,Am.bool false),(3,int (↑k:Int))] []=s'))/\(((CE.dv x==CE.dv x2&&(CE.sq x==CE.sq x2&&CE.gU x==CE.gU x2))=false)->(((CE.dv x=CE.dv x2)->(((CE.sq x=CE.sq x2)->(((CE.tm x=CE.tm x2)->bN P G none 0 (vg P 274 1) (sM 90 [(0,.sl 9 false (au l)),(2,Am.bool false),(3,int (↑k:Int)),(4,int (↑(i+1):Int))] []) ex s')/\((¬CE.tm x=CE.tm x2)->(bF.ret=ex)/\(sM 90 [(0,.sl 9 false (au l)),(2,Am.bool false),(3,int (↑k:Int))] []=s'))))/\((¬CE.sq x=CE.sq x2)->bN P G none 0 (vg P 274 1) (sM 90 [(0,.sl 9 false (au l)),(2,Am.bool false),(3,int (↑k:Int)),(4,int (↑(i+1):Int))] []) ex s')))/\((¬CE.dv x=CE.dv x2)->bN P G none 0 (vg P 274 1) (sM 90 [(0,.sl 9 false (au l)),(2,Am.bool false),(3,int (↑k:Int)),(4,int (↑(i+1):Int))] []) ex s'))))))/\((¬(↑i:Int)<(↑k:Int))->(bF.exit 2=ex)/\(sM 90 [(0,.sl 9 false (au l)),(2,Am.bool false),(3,int (↑k:Int))] []=s')))):bN P G none 0 (vg P 274 1) (aBL l k i) ex s':=by
 have bS:(0:Int)<=(↑k:Int)/\(au l)[Int.toNat (↑k:Int)]?=some (aQ x):=(bG hx);by_cases c1:((↑i:Int)<(↑k:Int))
 .have h:=h.1 c1;obtain⟨x2,o3,h⟩:=h;have fT:(0:Int)<=(↑i:Int)/\(au l)[Int.toNat (↑i:Int)]?=some (aQ x2):=(bG o3);rcases y00 ((CE.dv x==CE.dv x2&&(CE.sq x==CE.sq x2&&CE.gU x==CE.gU x2)))with c4|c4
  .have h:=h.1 c4;obtain⟨eX,eS⟩:=h;exact bN.to ((show bN P G none 0 (vg P 274 1) (aBL l k i) bF.ret (sM 90 [(0,.sl 9 false (au l)),(2,Am.bool false),(3,int (↑k:Int))] [])from aG [kt (y15 c1),ko (bC.elem (aQ x)),ko (bC.elem (aQ x2)),kp bS,kp fT,kt c4,kt (Eq.refl true)] (aB 90 [0,2,3]) 0 zQ)) eX (eB.of_eq eS)
  .have h:=h.2 c4;by_cases c5:(CE.dv x=CE.dv x2)
   .have h:=h.1 c5;by_cases c6:(CE.sq x=CE.sq x2)
    .have h:=h.1 c6;by_cases c7:(CE.tm x=CE.tm x2)
     .have h:=h.1 c7;exact aJ [kt (y15 c1),ko (bC.elem (aQ x)),ko (bC.elem (aQ x2)),kp bS,kp fT,kf c4,ko (bC.elem (aQ x)),ko (bC.elem (aQ x2)),kp bS,kp fT,kt (beq_iff_eq.2 c5),ko (bC.elem (aQ x)),ko (bC.elem (aQ x2)),kp bS,kp fT,kt (beq_iff_eq.2 c6),ko (bC.elem (aQ x)),ko (bC.elem (aQ x2)),kp bS,kp fT,kf (show(CE.tm x != CE.tm x2)=false from(y27 (beq_iff_eq.2 c7))),kv 22 (show Am.aF (int (IntKind.wrap IntKind.i64 ((↑i:Int)+1))) (int (↑(i+1):Int))from(aF.TJ zO zO zO))] (aB 90 [0,2,3,4]) 0 h zQ
     .have h:=h.2 c7;obtain⟨eX,eS⟩:=h;exact bN.to ((show bN P G none 0 (vg P 274 1) (aBL l k i) bF.ret (sM 90 [(0,.sl 9 false (au l)),(2,Am.bool false),(3,int (↑k:Int))] [])from aG [kt (y15 c1),ko (bC.elem (aQ x)),ko (bC.elem (aQ x2)),kp bS,kp fT,kf c4,ko (bC.elem (aQ x)),ko (bC.elem (aQ x2)),kp bS,kp fT,kt (beq_iff_eq.2 c5),ko (bC.elem (aQ x)),ko (bC.elem (aQ x2)),kp bS,kp fT,kt (beq_iff_eq.2 c6),ko (bC.elem (aQ x)),ko (bC.elem (aQ x2)),kp bS,kp fT,kt (show(CE.tm x != CE.tm x2)=true from(y27 (beq_eq_false_iff_ne.2 c7)))] (aB 90 [0,2,3]) 0 zQ)) eX (eB.of_eq eS)
    .have h:=h.2 c6;exact aJ [kt (y15 c1),ko (bC.elem (aQ x)),ko (bC.elem (aQ x2)),kp bS,kp fT,kf c4,ko (bC.elem (aQ x)),ko (bC.elem (aQ x2)),kp bS,kp fT,kt (beq_iff_eq.2 c5),ko (bC.elem (aQ x)),ko (bC.elem (aQ x2)),kp bS,kp fT,kf (beq_eq_false_iff_ne.2 c6),kf (Eq.refl false),kv 22 (show Am.aF (int (IntKind.wrap IntKind.i64 ((↑i:Int)+1))) (int (↑(i+1):Int))from(aF.TJ zO zO zO))] (aB 90 [0,2,3,4]) 0 h zQ
   .have h:=h.2 c5;exact aJ [kt (y15 c1),ko (bC.elem (aQ x)),ko (bC.elem (aQ x2)),kp bS,kp fT,kf c4,ko (bC.elem (aQ x)),ko (bC.elem (aQ x2)),kp bS,kp fT,kf (beq_eq_false_iff_ne.2 c5),kf (Eq.refl false),kf (Eq.refl false),kv 22 (show Am.aF (int (IntKind.wrap IntKind.i64 ((↑i:Int)+1))) (int (↑(i+1):Int))from(aF.TJ zO zO zO))] (aB 90 [0,2,3,4]) 0 h zQ
 .have h:=h.2 c1;obtain⟨eX,eS⟩:=h;exact bN.to ((show bN P G none 0 (vg P 274 1) (aBL l k i) (bF.exit 2) (sM 90 [(0,.sl 9 false (au l)),(2,Am.bool false),(3,int (↑k:Int))] [])from aG [kf (y16 c1)] (aB 90 [0,2,3]) 0 zQ)) eX (eB.of_eq eS)
theorem aGH(l:List CE)(x:CE)(k:Nat)(hx:l[k]?=some x)(bg:k<l.length)(hv:l.length<=1000000)(hb:ak P G 295 [nP x] [] (.ret (bool false)) [])(h:True):bN P G none 0 (vg P 274 0) (aCL l k) bF.ret (sM 90 [(0,bZ l),(2,Am.bool false)] []):=by
 have _:=h;exact aG [kv 8 (show Am.aF (int (↑(length (au l)):Int)) (int (↑(length l):Int))from(aF.of_eq (by simp only[Go.Sq.ay]))),kt (show decide ((↑k:Int)<(↑(length l):Int))=true from(y15 zO)),ko (bC.elem (aQ x)),kp (show(0:Int)<=(↑k:Int)/\(au l)[Int.toNat (↑k:Int)]?=some (aQ x)from(bG hx)),kc [] (@hb ),kt (Eq.refl true)] (aB 90 [0,2]) 0 zQ
theorem aGI(l:List CE)(x:CE)(k:Nat)(hx:l[k]?=some x)(bg:k<l.length)(hv:l.length<=1000000)(hb:ak P G 295 [nP x] [] (.ret (bool true)) [])(hL:bN P G none 0 (vg P 274 1) (aBL l k 0) .ret { aL:=aC 90 [(0,bZ l),(2,bool false),(3,int k)],H:=[] })(h:True):bN P G none 0 (vg P 274 0) (aCL l k) bF.ret (sM 90 [(0,bZ l),(2,Am.bool false)] []):=by
 have _:=h;exact aG [kv 8 (show Am.aF (int (↑(length (au l)):Int)) (int (↑(length l):Int))from(aF.of_eq (by simp only[Go.Sq.ay]))),kt (show decide ((↑k:Int)<(↑(length l):Int))=true from(y15 zO)),ko (bC.elem (aQ x)),kp (show(0:Int)<=(↑k:Int)/\(au l)[Int.toNat (↑k:Int)]?=some (aQ x)from(bG hx)),kc [] (@hb ),kf (Eq.refl false),kl [6,7,8,9,12,13,14,15,16,17] 0 (@hL )] (aB 90 [0,2]) 0 zQ
theorem aIg(l:List CE)(x:CE)(k:Nat)(hx:l[k]?=some x)(bg:k<l.length)(hv:l.length<=1000000)(hb:ak P G 295 [nP x] [] (.ret (bool true)) [])(hL:bN P G none 0 (vg P 274 1) (aBL l k 0) (.exit 2) { aL:=aC 90 [(0,bZ l),(2,bool false),(3,int k)],H:=[] })(ex:bF)(s':St)(h:bN P G none 0 (vg P 274 0) (sM 90 [(0,.sl 9 false (au l)),(2,Am.bool false),(3,int (↑(k+1):Int))] []) ex s'):bN P G none 0 (vg P 274 0) (aCL l k) ex s':=by
 exact aJ [kv 8 (show Am.aF (int (↑(length (au l)):Int)) (int (↑(length l):Int))from(aF.of_eq (by simp only[Go.Sq.ay]))),kt (show decide ((↑k:Int)<(↑(length l):Int))=true from(y15 zO)),ko (bC.elem (aQ x)),kp (show(0:Int)<=(↑k:Int)/\(au l)[Int.toNat (↑k:Int)]?=some (aQ x)from(bG hx)),kc [] (@hb ),kf (Eq.refl false),kl [6,7,8,9,12,13,14,15,16,17] 0 (@hL ),kv 11 (show Am.aF (int (IntKind.wrap IntKind.i64 ((↑k:Int)+1))) (int (↑(k+1):Int))from(aF.TJ zO zO zO))] (aB 90 [0,2,3]) 0 h zQ
theorem aGJ(l:List CE)(k:Nat)(bg:l.length<=k)(hv:l.length<=1000000)(h:True):bN P G none 0 (vg P 274 0) (aCL l k) (bF.exit 0) (sM 90 [(0,bZ l),(2,Am.bool false)] []):=by
 have _:=h;exact aG [kv 8 (show Am.aF (int (↑(length (au l)):Int)) (int (↑(length l):Int))from(aF.of_eq (by simp only[Go.Sq.ay]))),kf (show decide ((↑k:Int)<(↑(length l):Int))=false from(y16 zO))] (aB 90 [0,2]) 0 zQ
def kP(x y:CE):Bool:=(x.dv==y.dv&&(x.sq==y.sq&&x.gU==y.gU))||(decide (x.dv=y.dv)&&decide (x.sq=y.sq) && !decide (x.tm=y.tm))
def clN(l:List CE)(x:CE):Nat->Nat->Bool
 |0,_=>false
 |n+1,i=>match l[i]? with
  |some y=>kP x y||clN l x n (i+1)
  |none=>false
theorem aFb(l:List CE)(x:CE)(k:Nat)(hx:l[k]?=some x)(hv:l.length<=1000000):∀n i,k-i=n->i<=k->bN P G none 0 (vg P 274 1) (aBL l k i) (if clN l x n i=true then .ret else .exit 2) { aL:=aC 90 [(0,bZ l),(2,bool false),(3,int k)],H:=[] }:=by
 have bg:=(yC.1 hx).1;intro n
 induction n with
 |zero=>intro i hn hi;exact aIf l x k i hx hv zO hi _ _ ⟨fun h=>absurd h zO,fun _=>⟨rfl,rfl⟩⟩
 |succ n ih =>
  intro i hn hi;have O4:i<l.length:=zO
  have hy:l[i]?=some l[i]:=yA O4;have e:clN l x (n+1) i=(kP x l[i]||clN l x n (i+1)):=by rw[clN,hy]
  have nx:kP x l[i]=false->bN P G none 0 (vg P 274 1) (aBL l k (i+1)) (if clN l x (n+1) i=true then .ret else .exit 2) { aL:=aC 90 [(0,bZ l),(2,bool false),(3,int k)],H:=[] }:=fun h=>by
   rw[e,h,Bool.false_or];exact ih (i+1) zO zO
  have st:kP x l[i]=true->bF.ret=(if clN l x (n+1) i=true then .ret else .exit 2):=fun h=>by
   rw[e,h];rfl
  refine aIf l x k i hx hv zO hi _ _ ⟨fun _=>⟨l[i],hy,⟨fun hq=>⟨st (by simp[kP,hq]),rfl⟩,fun hq=>⟨fun h1=>⟨fun h2=>⟨fun h3=>nx (by simp[kP,hq,h3]),fun h3=>⟨st (by simp[kP,h1,h2,h3]),rfl⟩⟩,fun h2=>nx (by simp[kP,hq,h2])⟩,fun h1=>nx (by simp[kP,hq,h1])⟩⟩⟩,fun h=>absurd h zO⟩
def okC(l:List CE)(k:Nat)(x:CE):Bool:=dF x && !clN l x k 0
def foN(l:List CE):Nat->Nat->Bool
 |0,_=>true
 |n+1,k=>match l[k]? with
  |some x=>okC l k x&&foN l n (k+1)
  |none=>true
theorem aFc(l:List CE)(hv:l.length<=1000000):∀n k,l.length-k=n->k<=l.length->bN P G none 0 (vg P 274 0) (aCL l k) (if foN l n k=true then .exit 0 else .ret) { aL:=aC 90 [(0,bZ l),(2,bool false)],H:=[] }:=by
 intro n
 induction n with
 |zero=>intro k hn hk;exact aGJ l k zO hv trivial
 |succ n ih =>
  intro k hn hk;have bg:k<l.length:=zO
  have hx:l[k]?=some l[k]:=yA bg;have hb:=avK l[k];have hL:=aFb l l[k] k hx hv k 0 zO zO;have e:foN l (n+1) k=(okC l k l[k]&&foN l n (k+1)):=by rw[foN,hx]
  cases hv1:dF l[k]with
  |false =>
   rw[hv1]at hb;rw[e,show okC l k l[k]=false by simp[okC,hv1]];exact aGH l l[k] k hx bg hv hb trivial
  |true =>
   rw[hv1]at hb;cases hc:clN l l[k] k 0 with
   |true =>
    rw[hc]at hL;rw[e,show okC l k l[k]=false by simp[okC,hc]];exact aGI l l[k] k hx bg hv hb hL trivial
   |false =>
    rw[hc]at hL;rw[e,show okC l k l[k]=true by simp[okC,hc,hv1],Bool.true_and];exact aIg l l[k] k hx bg hv hb hL _ _ (ih (k+1) zO zO)
theorem aDK(l:List CE)(hv:l.length<=1000000):bN P G none 0 (vg P 274 0) (aCL l 0) (if foN l l.length 0=true then .exit 0 else .ret) { aL:=aC 90 [(0,bZ l),(2,bool false)],H:=[] }:=aFc l hv l.length 0 zO zO
def aDL(l:List CE)(k:Nat):St:={ aL:=aC 90 [(0,bZ l),(2,bool false),(5,int k)],H:=[] }
theorem aIh(l:List CE)(k:Nat)(hv:l.length<=1000000)(ex:bF)(s':St)(h:((((↑k:Int)<(↑(length l):Int))->(∃x2:CE,(l[k]?=some x2)/\((((Tt l x2)=true)->bN P G none 0 (vg P 274 2) (sM 90 [(0,.sl 9 false (au l)),(2,Am.bool false),(5,int (↑(k+1):Int))] []) ex s')/\(((Tt l x2)=false)->(bF.ret=ex)/\(sM 90 [(2,Am.bool false)] []=s')))))/\((¬(↑k:Int)<(↑(length l):Int))->(bF.exit 4=ex)/\(sM 90 [(2,Am.bool false)] []=s')))):bN P G none 0 (vg P 274 2) (aDL l k) ex s':=by
 have bS:Am.aF (int (↑(length (au l)):Int)) (int (↑(length l):Int)):=(aF.of_eq (by simp only[Go.Sq.ay]));by_cases c1:((↑k:Int)<(↑(length l):Int))
 .have h:=h.1 c1;obtain⟨x2,o3,h⟩:=h;have fT:(0:Int)<=(↑k:Int)/\(au l)[Int.toNat (↑k:Int)]?=some (aQ x2):=(bG o3);have jw:=(@Go.Sq.aGG (l) (x2) zO);rcases y00 ((Tt l x2))with c4|c4
  .have h:=h.1 c4;exact aJ [kv 79 bS,kt (y15 c1),ko (bC.elem (aQ x2)),kp fT,kc [] jw,kf (show(!Tt l x2)=false from(y27 (c4))),kv 82 (show Am.aF (int (IntKind.wrap IntKind.i64 ((↑k:Int)+1))) (int (↑(k+1):Int))from(aF.TJ zO zO zO))] (aB 90 [0,2,5]) 0 h zQ
  .have h:=h.2 c4;obtain⟨eX,eS⟩:=h;exact bN.to ((show bN P G none 0 (vg P 274 2) (aDL l k) bF.ret (sM 90 [(2,Am.bool false)] [])from aG [kv 79 bS,kt (y15 c1),ko (bC.elem (aQ x2)),kp fT,kc [] jw,kt (show(!Tt l x2)=true from(y27 (c4)))] (aB 90 [2]) 0 zQ)) eX (eB.of_eq eS)
 .have h:=h.2 c1;obtain⟨eX,eS⟩:=h;exact bN.to ((show bN P G none 0 (vg P 274 2) (aDL l k) (bF.exit 4) (sM 90 [(2,Am.bool false)] [])from aG [kv 79 bS,kf (y16 c1)] (aB 90 [2]) 0 zQ)) eX (eB.of_eq eS)
def roN(l:List CE):Nat->Nat->Bool
 |0,_=>true
 |n+1,k=>match l[k]? with
  |some x=>Tt l x&&roN l n (k+1)
  |none=>true
theorem aFd(l:List CE)(hv:l.length<=1000000):∀n k,l.length-k=n->k<=l.length->bN P G none 0 (vg P 274 2) (aDL l k) (if roN l n k=true then .exit 4 else .ret) { aL:=aC 90 [(2,bool false)],H:=[] }:=by
 intro n
 induction n with
 |zero=>intro k hn hk;exact aIh l k hv _ _ ⟨fun h=>absurd h zO,fun _=>⟨rfl,rfl⟩⟩
 |succ n ih =>
  intro k hn hk;have bg:k<l.length:=zO
  have hx:l[k]?=some l[k]:=yA bg;have e:roN l (n+1) k=(Tt l l[k]&&roN l n (k+1)):=by rw[roN,hx]
  refine aIh l k hv _ _ ⟨fun _=>⟨l[k],hx,⟨fun hq=>?_,fun hq=>?_⟩⟩,fun h=>absurd h zO⟩
  .rw [e,hq,Bool.true_and];exact ih (k+1) zO zO
  .rw [e,hq];exact⟨rfl,rfl⟩
theorem aDM(l:List CE)(hv:l.length<=1000000):bN P G none 0 (vg P 274 2) (aDL l 0) (if roN l l.length 0=true then .exit 4 else .ret) { aL:=aC 90 [(2,bool false)],H:=[] }:=aFd l hv l.length 0 zO zO
theorem aFe(l:List CE)(hv:l.length<=1000000)(o:Bool)(h:(((foN l (length l) 0=true)->(((roN l (length l) 0=true)->(true)=(o))/\((¬roN l (length l) 0=true)->(false)=(o))))/\((¬foN l (length l) 0=true)->(false)=(o)))):ak P G 274 [bZ l] [] (aS.ret (Am.bool o)) []:=by
 by_cases c1:(foN l (length l) 0=true)
 .have h:=h.1 c1;have bS:bN P G none 0 (vg P 274 0) (sM 90 [(0,.sl 9 false (au l)),(2,Am.bool false),(3,int 0)] []) (bF.exit 0) (sM 90 [(0,.sl 9 false (au l)),(2,Am.bool false)] []):=(by have h0:=(@Go.Sq.aDK (l) zO);simp only[yL c1]at h0;exact h0);by_cases c2:(roN l (length l) 0=true)
  .have h:=h.1 c2;have e1:=h;exact aA (aF.aI e1) [kl [1,4,5,6,7,8,9,10,11,12,13,14,15,16,17,18,19,20,21,22,23,24,25,26,27,28,29,30,31,32,33,34,35,36,37,38,39,40,41,42,43,44,45,46,47,48,49,50,51,52,53,54,55,56,57,58,59,60,61,62,63,64,65,66,67,68,69,70,71,72,73,74,75,76,77,78,79,80,81,82,83,84,85,86,87,88,89] 0 bS,kl [] 0 (show bN P G none 0 (vg P 274 2) (sM 90 [(0,.sl 9 false (au l)),(2,Am.bool false),(5,int 0)] []) (bF.exit 4) (sM 90 [(2,Am.bool false)] [])from(by have h0:=(@Go.Sq.aDM (l) zO);simp only[yL c2]at h0;exact h0))] zQ
  .have h:=h.2 c2;have e1:=h;exact aA (aF.aI e1) [kl [1,4,5,6,7,8,9,10,11,12,13,14,15,16,17,18,19,20,21,22,23,24,25,26,27,28,29,30,31,32,33,34,35,36,37,38,39,40,41,42,43,44,45,46,47,48,49,50,51,52,53,54,55,56,57,58,59,60,61,62,63,64,65,66,67,68,69,70,71,72,73,74,75,76,77,78,79,80,81,82,83,84,85,86,87,88,89] 0 bS,kl [] 0 (show bN P G none 0 (vg P 274 2) (sM 90 [(0,.sl 9 false (au l)),(2,Am.bool false),(5,int 0)] []) bF.ret (sM 90 [(2,Am.bool false)] [])from(by have h0:=(@Go.Sq.aDM (l) zO);simp only[yK c2]at h0;exact h0))] zQ
 .have h:=h.2 c1;have e1:=h;exact aA (aF.aI e1) [kl [1,4,5,6,7,8,9,10,11,12,13,14,15,16,17,18,19,20,21,22,23,24,25,26,27,28,29,30,31,32,33,34,35,36,37,38,39,40,41,42,43,44,45,46,47,48,49,50,51,52,53,54,55,56,57,58,59,60,61,62,63,64,65,66,67,68,69,70,71,72,73,74,75,76,77,78,79,80,81,82,83,84,85,86,87,88,89] 0 (show bN P G none 0 (vg P 274 0) (sM 90 [(0,.sl 9 false (au l)),(2,Am.bool false),(3,int 0)] []) bF.ret (sM 90 [(0,.sl 9 false (au l)),(2,Am.bool false)] [])from(by have h0:=(@Go.Sq.aDK (l) zO);simp only[yK c1]at h0;exact h0))] zQ
def sO(l:List CE):Bool:=foN l l.length 0&&roN l l.length 0
def aCd(l ch:List CE)(a b c:Int)(k j:Nat):St:={ aL:=aC 83 [(0,bZ l),(3,.ptr 0 0),(4,aK),(5,bZ ch),(6,int k),(7,int j)],H:=[.box [int a,int b,int c]] }
theorem aIi(l ch:List CE)(x:CE)(a b c:Int)(k j:Nat)(hx:l[k]?=some x)(hv:l.length<=1000000)(hc:ch.length<=1000000)(hj:j<=ch.length)(ex:bF)(s':St)(h:((((↑j:Int)<(↑(length ch):Int))->(∃x2:CE,(ch[j]?=some x2)/\((((Kn x2 x)=true)->bN P G none 0 (vg P 275 1) (sM 83 [(0,.sl 9 false (au l)),(3,.ptr 0 0),(4,aK),(5,.sl 9 false (au ch)),(6,int (↑k:Int)),(7,int (↑(j+1):Int))] [.box [int a,int b,int c]]) ex s')/\(((Kn x2 x)=false)->(bF.exit 2=ex)/\(sM 83 [(0,.sl 9 false (au l)),(3,.ptr 0 0),(4,aK),(5,.sl 9 false (au ch)),(6,int (↑k:Int)),(7,int (↑j:Int))] [.box [int a,int b,int c]]=s')))))/\((¬(↑j:Int)<(↑(length ch):Int))->(bF.exit 2=ex)/\(sM 83 [(0,.sl 9 false (au l)),(3,.ptr 0 0),(4,aK),(5,.sl 9 false (au ch)),(6,int (↑k:Int)),(7,int (↑j:Int))] [.box [int a,int b,int c]]=s')))):bN P G none 0 (vg P 275 1) (aCd l ch a b c k j) ex s':=by
 have bS:Am.aF (int (↑(length (au ch)):Int)) (int (↑(length ch):Int)):=(aF.of_eq (by simp only[Go.Sq.ay]));have jw:(0:Int)<=(↑k:Int)/\(au l)[Int.toNat (↑k:Int)]?=some (aQ x):=(bG hx);by_cases c1:((↑j:Int)<(↑(length ch):Int))
 .have h:=h.1 c1;obtain⟨x2,o3,h⟩:=h;have fT:(0:Int)<=(↑j:Int)/\(au ch)[Int.toNat (↑j:Int)]?=some (aQ x2):=(bG o3);have x9:=(@Go.Sq.aKL (x2) (x));rcases y00 ((Kn x2 x))with c4|c4
  .have h:=h.1 c4;exact aJ [kv 27 bS,kt (y15 c1),ko (bC.elem (aQ x2)),ko (bC.elem (aQ x)),kp fT,kp jw,kc [] x9,kt c4,kv 41 (show Am.aF (int (IntKind.wrap IntKind.i64 ((↑j:Int)+1))) (int (↑(j+1):Int))from(aF.TJ zO zO zO))] (aB 83 [0,3,4,5,6,7]) 1 h zQ
  .have h:=h.2 c4;obtain⟨eX,eS⟩:=h;exact bN.to ((show bN P G none 0 (vg P 275 1) (aCd l ch a b c k j) (bF.exit 2) (sM 83 [(0,.sl 9 false (au l)),(3,.ptr 0 0),(4,aK),(5,.sl 9 false (au ch)),(6,int (↑k:Int)),(7,int (↑j:Int))] [.box [int a,int b,int c]])from aG [kv 27 bS,kt (y15 c1),ko (bC.elem (aQ x2)),ko (bC.elem (aQ x)),kp fT,kp jw,kc [] x9,kf c4] (aB 83 [0,3,4,5,6,7]) 1 zQ)) eX (eB.of_eq eS)
 .have h:=h.2 c1;obtain⟨eX,eS⟩:=h;exact bN.to ((show bN P G none 0 (vg P 275 1) (aCd l ch a b c k j) (bF.exit 2) (sM 83 [(0,.sl 9 false (au l)),(3,.ptr 0 0),(4,aK),(5,.sl 9 false (au ch)),(6,int (↑k:Int)),(7,int (↑j:Int))] [.box [int a,int b,int c]])from aG [kv 27 bS,kf (y16 c1),kf (Eq.refl false)] (aB 83 [0,3,4,5,6,7]) 1 zQ)) eX (eB.of_eq eS)
def aBM(l:List CE)(a b c:Int)(k:Nat)(ch:List CE):St:={ aL:=aC 83 [(0,bZ l),(3,.ptr 0 0),(4,aK),(5,bZ ch),(6,int k)],H:=[.box [int a,int b,int c]] }
theorem aGK(l ch:List CE)(a b c:Int)(k:Nat)(hk:l.length<=k)(h:True):bN P G none 0 (vg P 275 0) (aBM l a b c k ch) (bF.exit 0) (sM 83 [(0,bZ l),(4,aK),(5,bZ ch)] [.box [int a,int b,int c]]):=by
 have _:=h;exact aG [kv 14 (show Am.aF (int (↑(length (au l)):Int)) (int (↑(length l):Int))from(aF.of_eq (by simp only[Go.Sq.ay]))),kf (show decide ((↑k:Int)<(↑(length l):Int))=false from(y16 zO))] (aB 83 [0,4,5]) 1 zQ
theorem aFf(l ch:List CE)(x:CE)(a b c:Int)(k:Nat)(hx:l[k]?=some x)(bg:k<l.length)(hv:l.length<=1000000)(fF:(x.ad==a&&(x.j6==b&&x.aa==c))=false)(ex:bF)(s':St)(h:bN P G none 0 (vg P 275 0) (sM 83 [(0,.sl 9 false (au l)),(3,.ptr 0 0),(4,aK),(5,.sl 9 false (au ch)),(6,int (↑(k+1):Int))] [.box [int a,int b,int c]]) ex s'):bN P G none 0 (vg P 275 0) (aBM l a b c k ch) ex s':=by
 exact aJ [kv 14 (show Am.aF (int (↑(length (au l)):Int)) (int (↑(length l):Int))from(aF.of_eq (by simp only[Go.Sq.ay]))),kt (show decide ((↑k:Int)<(↑(length l):Int))=true from(y15 zO)),ko (bC.elem (aQ x)),kp (show(0:Int)<=(↑k:Int)/\(au l)[Int.toNat (↑k:Int)]?=some (aQ x)from(bG hx)),kt (show(!(CE.ad x==a&&(CE.j6 x==b&&CE.aa x==c)))=true from(y27 (fF))),kv 17 (show Am.aF (int (IntKind.wrap IntKind.i64 ((↑k:Int)+1))) (int (↑(k+1):Int))from(aF.TJ zO zO zO))] (aB 83 [0,3,4,5,6]) 1 h zQ
theorem aGL(l ch:List CE)(x:CE)(a b c:Int)(k j:Nat)(hx:l[k]?=some x)(bg:k<l.length)(hv:l.length<=1000000)(hc:ch.length<=1000000)(hj:j<=ch.length)(heq:(x.ad==a&&(x.j6==b&&x.aa==c))=true)(hL:bN P G none 0 (vg P 275 1) (aCd l ch a b c k 0) (.exit 2) (aCd l ch a b c k j))(ex:bF)(s':St)(h:(((au (List.take j ch)=[])->bN P G none 0 (vg P 275 0) (sM 83 [(0,.sl 9 false (au l)),(3,.ptr 0 0),(4,aK),(5,AV.aU 1 1 0 (1+length (List.drop j ch))),(6,int (↑(k+1):Int))] [.box [int a,int b,int c],ah.aN 1 9 false ([int (CE.dv x),int (CE.sq x),int (CE.gU x),int (CE.ad x),int (CE.j6 x),int (CE.aa x),int (CE.tm x),str (CE.vl x),Am.bool (CE.gn x)]::au (List.drop j ch))]) ex s')/\((¬au (List.take j ch)=[])->bN P G none 0 (vg P 275 0) (sM 83 [(0,.sl 9 false (au l)),(3,.ptr 0 0),(4,aK),(5,AV.aU 1 2 0 (length (List.take j ch++[CE.mk (CE.dv x) (CE.sq x) (CE.gU x) (CE.ad x) (CE.j6 x) (CE.aa x) (CE.tm x) (CE.vl x) (CE.gn x)])+length (List.drop j ch))),(6,int (↑(k+1):Int))] [.box [int a,int b,int c],ah.aN 2 9 false (au (List.take j ch++[CE.mk (CE.dv x) (CE.sq x) (CE.gU x) (CE.ad x) (CE.j6 x) (CE.aa x) (CE.tm x) (CE.vl x) (CE.gn x)]++List.drop j ch))]) ex s'))):bN P G none 0 (vg P 275 0) (aBM l a b c k ch) ex s':=by
 have bS:Am.aF (int (↑(length (au l)):Int)) (int (↑(length l):Int)):=(aF.of_eq (by simp only[y26,Go.Sq.ay]));have fT:decide ((↑k:Int)<(↑(length l):Int))=true:=(y15 zO);have jw:(0:Int)<=(↑k:Int)/\(au l)[Int.toNat (↑k:Int)]?=some (aQ x):=(bG hx);have x9:(!(CE.ad x==a&&(CE.j6 x==b&&CE.aa x==c)))=false:=(y27 (heq));have Av:=(@hL );have qj:Am.aF (AV.sl 9 false (List.drop 0 (List.take (Int.toNat (↑j:Int)) (au ch)))) (AV.sl 9 false (au (List.take j ch))):=(aF.of_eq (by simp only[y26,drop_zero,Go.Sq.gF]));have OG:(0:Int)<=(0:Int)/\(0:Int)<=(↑j:Int)/\(↑j:Int)<=(↑(length (au ch)):Int):=(by rw[Go.Sq.ay];omega);have M8:0=0:=(rfl);have Pk:1=1:=(rfl);by_cases c2:(au (List.take j ch)=[])
 .have h:=h.1 c2;exact aJ [kv 14 bS,kt fT,ko (bC.elem (aQ x)),kp jw,kf x9,kl [12,13,14,15,18,19,20,21,22,23,24] 1 Av,kv 45 qj,ko (bC.LV),ko (bC.elem (aQ x)),kp OG,kp c2,kp jw,kp (show[[int (CE.dv x),int (CE.sq x),int (CE.gU x),int (CE.ad x),int (CE.j6 x),int (CE.aa x),int (CE.tm x),str (CE.vl x),Am.bool (CE.gn x)]]≠[]from zS),kp (show 80<=140737488355328 from zO),kv 57 (show Am.aF (AV.sl 9 false (List.drop (Int.toNat (↑j:Int)) (List.take (Int.toNat (↑(length (au ch)):Int)) (au ch)))) (AV.sl 9 false (au (List.drop j ch)))from(aF.of_eq (by simp only[y26,take_length,Go.Sq.ay,Go.Sq.gF,Go.Sq.iI]))),kp (show(0:Int)<=(↑j:Int)/\(↑j:Int)<=(↑(length (au ch)):Int)/\(↑(length (au ch)):Int)<=(↑(length (au ch)):Int)from(by rw[Go.Sq.ay];omega)),kv 58 (show Am.aF (AV.aU 1 1 0 (1+length (au (List.drop j ch)))) (AV.aU 1 1 0 (1+length (List.drop j ch)))from(aF.of_eq (by simp only[y26,Go.Sq.ay]))),kp M8,kp Pk,kp (show(1+length (au (List.drop j ch)))*80<=140737488355328 from(by simp only[yD,yE,y11,y10,Go.Sq.ay,length_drop,y18]<;>omega)),kv 17 (show Am.aF (int (IntKind.wrap IntKind.i64 ((↑k:Int)+1))) (int (↑(k+1):Int))from(aF.TJ zO zO zO))] (aB 83 [0,3,4,5,6]) 2 h zQ
 .have h:=h.2 c2;exact aJ [kv 14 bS,kt fT,ko (bC.elem (aQ x)),kp jw,kf x9,kl [12,13,14,15,18,19,20,21,22,23,24] 1 Av,kv 45 qj,kp OG,kv 46 (show Am.aF (AV.aU 1 0 0 (0+length (au (List.take j ch)))) (AV.aU 1 0 0 (length (List.take j ch)))from(aF.of_eq (by simp[Go.Sq.ay,length_drop,y18]))),ko (bC.elem (aQ x)),ko (bC.hp (some 53) (AV.aU 1 1 0 (length (List.take j ch++[CE.mk (CE.dv x) (CE.sq x) (CE.gU x) (CE.ad x) (CE.j6 x) (CE.aa x) (CE.tm x) (CE.vl x) (CE.gn x)]))) [ah.box [int a,int b,int c],ah.aN 1 9 false (au (List.take j ch++[CE.mk (CE.dv x) (CE.sq x) (CE.gU x) (CE.ad x) (CE.j6 x) (CE.aa x) (CE.tm x) (CE.vl x) (CE.gn x)]))]),kp c2,kp (show(0+length (au (List.take j ch)))*80<=140737488355328 from(by simp only[yD,yE,y11,y10,Go.Sq.ay,length_drop,y18]<;>omega)),kp jw,kp (show Am.aF (AV.aU 1 1 0 (length (List.take j ch)+1)) (AV.aU 1 1 0 (length (List.take j ch++[CE.mk (CE.dv x) (CE.sq x) (CE.gU x) (CE.ad x) (CE.j6 x) (CE.aa x) (CE.tm x) (CE.vl x) (CE.gn x)])))from(aF.of_eq (by simp[Go.Sq.ay,length_drop,y18]))),kp (show Am.HSub [ah.box [int a,int b,int c],ah.aN 1 9 false (au (List.take j ch)++[[int (CE.dv x),int (CE.sq x),int (CE.gU x),int (CE.ad x),int (CE.j6 x),int (CE.aa x),int (CE.tm x),str (CE.vl x),Am.bool (CE.gn x)]])] [ah.box [int a,int b,int c],ah.aN 1 9 false (au (List.take j ch++[CE.mk (CE.dv x) (CE.sq x) (CE.gU x) (CE.ad x) (CE.j6 x) (CE.aa x) (CE.tm x) (CE.vl x) (CE.gn x)]))]from(⟨.inl rfl,.inl (by simp only[y26,Go.Sq.gy,Go.Sq.Aw]),yO⟩)),kp M8,kp (show length (List.take j ch)=length (au (List.take j ch))from((Go.Sq.ay _).symm)),kp (show(length (List.take j ch)+1)*80<=140737488355328 from(by simp only[yD,yE,y11,y10,Go.Sq.ay,length_drop,y18]<;>omega)),kv 57 (show Am.aF (AV.sl 9 false (List.drop (Int.toNat (↑j:Int)) (List.take (Int.toNat (↑(length (au ch)):Int)) (au ch)))) (AV.sl 9 false (au (List.drop j ch)))from(aF.of_eq (by simp only[y26,take_length,Go.Sq.ay,Go.Sq.gF,Go.Sq.iI]))),ko (bC.hp (some 58) (AV.aU 1 2 0 (length (List.take j ch++[CE.mk (CE.dv x) (CE.sq x) (CE.gU x) (CE.ad x) (CE.j6 x) (CE.aa x) (CE.tm x) (CE.vl x) (CE.gn x)])+length (List.drop j ch))) [ah.box [int a,int b,int c],ah.aN 2 9 false (au (List.take j ch++[CE.mk (CE.dv x) (CE.sq x) (CE.gU x) (CE.ad x) (CE.j6 x) (CE.aa x) (CE.tm x) (CE.vl x) (CE.gn x)]++List.drop j ch))]),kp (show(0:Int)<=(↑j:Int)/\(↑j:Int)<=(↑(length (au ch)):Int)/\(↑(length (au ch)):Int)<=(↑(length (au ch)):Int)from(by rw[Go.Sq.ay];omega)),kp (show Am.aF (AV.aU 1 2 0 (length (List.take j ch++[CE.mk (CE.dv x) (CE.sq x) (CE.gU x) (CE.ad x) (CE.j6 x) (CE.aa x) (CE.tm x) (CE.vl x) (CE.gn x)])+length (au (List.drop j ch)))) (AV.aU 1 2 0 (length (List.take j ch++[CE.mk (CE.dv x) (CE.sq x) (CE.gU x) (CE.ad x) (CE.j6 x) (CE.aa x) (CE.tm x) (CE.vl x) (CE.gn x)])+length (List.drop j ch)))from(aF.of_eq (by simp only[y26,Go.Sq.ay]))),kp (show Am.HSub [ah.box [int a,int b,int c],ah.aN 2 9 false (au (List.take j ch++[CE.mk (CE.dv x) (CE.sq x) (CE.gU x) (CE.ad x) (CE.j6 x) (CE.aa x) (CE.tm x) (CE.vl x) (CE.gn x)])++au (List.drop j ch))] [ah.box [int a,int b,int c],ah.aN 2 9 false (au (List.take j ch++[CE.mk (CE.dv x) (CE.sq x) (CE.gU x) (CE.ad x) (CE.j6 x) (CE.aa x) (CE.tm x) (CE.vl x) (CE.gn x)]++List.drop j ch))]from(⟨.inl rfl,.inl (by simp only[y26,Go.Sq.gy]),yO⟩)),kp Pk,kp (show length (List.take j ch++[CE.mk (CE.dv x) (CE.sq x) (CE.gU x) (CE.ad x) (CE.j6 x) (CE.aa x) (CE.tm x) (CE.vl x) (CE.gn x)])=length (au (List.take j ch++[CE.mk (CE.dv x) (CE.sq x) (CE.gU x) (CE.ad x) (CE.j6 x) (CE.aa x) (CE.tm x) (CE.vl x) (CE.gn x)]))from((Go.Sq.ay _).symm)),kp (show(length (List.take j ch++[CE.mk (CE.dv x) (CE.sq x) (CE.gU x) (CE.ad x) (CE.j6 x) (CE.aa x) (CE.tm x) (CE.vl x) (CE.gn x)])+length (au (List.drop j ch)))*80<=140737488355328 from(by simp only[yD,yE,y11,y10,Go.Sq.ay,length_drop,y18]<;>omega)),kv 17 (show Am.aF (int (IntKind.wrap IntKind.i64 ((↑k:Int)+1))) (int (↑(k+1):Int))from(aF.TJ zO zO zO))] (aB 83 [0,3,4,5,6]) 2 h zQ
theorem aF4(l ys:List CE)(a b c:Int)(k g n:Nat)(xs:List (List AV))(wR:xs=au ys)(hn:n=ys.length){ex:bF}{s':St}(h:bN P G none 0 (vg P 275 0) (aBM l a b c k ys) ex s') :
 bN P G none 0 (vg P 275 0) { aL:=aC 83 [(0,bZ l),(3,.ptr 0 0),(4,aK),(5,.aU 1 g 0 n),(6,int k)],H:=[.box [int a,int b,int c],.aN g 9 false xs] } ex s':=by
 subst wR hn;refine bN.aui (t:=5) (z:=au ys) (y:=bZ ys) (H1:=[.box [int a,int b,int c],.aN g 9 true (au ys)]) (ps:=_) rfl rfl ?_ ?_
 .exact ⟨rfl,dW ys,ay ys,bK ys,yO⟩
 .exact bN.auO [] 1 (s2:=aBM l a b c k ys) (ps:=_) rfl trivial h
def bo0(l ch:List CE)(a b c:Int)(k:Nat):St:={ aL:=aC 83 [(0,bZ l),(4,aK),(5,bZ ch),(9,.sl 9 true []),(10,int k)],H:=[.box [int a,int b,int c]] }
def bo1(l ch:List CE)(a b c:Int)(k g:Nat)(t:List CE):St:={ aL:=aC 83 [(0,bZ l),(4,aK),(5,bZ ch),(9,.aU 1 g 0 t.length),(10,int k)],H:=[.box [int a,int b,int c],.aN g 9 false (au t)] }
theorem aFg(l ch:List CE)(a b c:Int)(k:Nat)(hk:ch.length<=k)(h:True):bN P G none 0 (vg P 275 2) (bo0 l ch a b c k) (bF.exit 4) (sM 83 [(4,aK),(9,.sl 9 true [])] [.box [int a,int b,int c]]):=by
 have _:=h;exact aG [kv 62 (show Am.aF (int (↑(length (au ch)):Int)) (int (↑(length ch):Int))from(aF.of_eq (by simp only[Go.Sq.ay]))),kf (show decide ((↑k:Int)<(↑(length ch):Int))=false from(y16 zO))] (aB 83 [4,9]) 1 zQ
theorem aFh(l ch:List CE)(a b c:Int)(k g:Nat)(t:List CE)(hk:ch.length<=k)(h:True):bN P G none 0 (vg P 275 2) (bo1 l ch a b c k g t) (bF.exit 4) (sM 83 [(4,aK),(9,AV.aU 1 g 0 (length t))] [.box [int a,int b,int c],ah.aN g 9 false (au t)]):=by
 have _:=h;exact aG [kv 62 (show Am.aF (int (↑(length (au ch)):Int)) (int (↑(length ch):Int))from(aF.of_eq (by simp only[Go.Sq.ay]))),kf (show decide ((↑k:Int)<(↑(length ch):Int))=false from(y16 zO))] (aB 83 [4,9]) 2 zQ
theorem aIj(l ch:List CE)(y:CE)(ys:List CE)(a b c:Int)(k:Nat)(hy:ch[k]?=some y)(bg:k<ch.length)(hc:ch.length<=1000000)(hl:ys.length<=1000000)(hb:ak P G 275 [bZ l,oO y.dv y.sq y.gU] [] (.ret (bZ ys)) [])(ex:bF)(s':St)(h:bN P G none 0 (vg P 275 2) (sM 83 [(0,.sl 9 false (au l)),(4,aK),(5,.sl 9 false (au ch)),(9,AV.aU 1 1 0 (1+length ys)),(10,int (↑(k+1):Int))] [.box [int a,int b,int c],ah.aN 1 9 false ([int (CE.dv y),int (CE.sq y),int (CE.gU y),int (CE.ad y),int (CE.j6 y),int (CE.aa y),int (CE.tm y),str (CE.vl y),Am.bool (CE.gn y)]::au ys)]) ex s'):bN P G none 0 (vg P 275 2) (bo0 l ch a b c k) ex s':=by
 have jw:(0:Int)<=(↑k:Int)/\(au ch)[Int.toNat (↑k:Int)]?=some (aQ y):=(bG hy);exact aJ [kv 62 (show Am.aF (int (↑(length (au ch)):Int)) (int (↑(length ch):Int))from(aF.of_eq (by simp only[y26,Go.Sq.ay]))),kt (show decide ((↑k:Int)<(↑(length ch):Int))=true from(y15 zO)),ko (bC.elem (aQ y)),ko (bC.elem (aQ y)),kp jw,kp (show[[int (CE.dv y),int (CE.sq y),int (CE.gU y),int (CE.ad y),int (CE.j6 y),int (CE.aa y),int (CE.tm y),str (CE.vl y),Am.bool (CE.gn y)]]≠[]from zS),kp (show 80<=140737488355328 from zO),kp jw,kc [] (@hb ),kv 81 (show Am.aF (AV.aU 1 1 0 (1+length (au ys))) (AV.aU 1 1 0 (1+length ys))from(aF.of_eq (by simp only[y26,Go.Sq.ay]))),kp (show 0=0 from(rfl)),kp (show 1=1 from(rfl)),kp (show(1+length (au ys))*80<=140737488355328 from(by simp only[yD,yE,y11,y10,Go.Sq.ay]<;>omega)),kv 65 (show Am.aF (int (IntKind.wrap IntKind.i64 ((↑k:Int)+1))) (int (↑(k+1):Int))from(aF.TJ zO zO zO))] (aB 83 [0,4,5,9,10]) 2 h zQ
theorem aIk(l ch:List CE)(y:CE)(ys t:List CE)(a b c:Int)(k g:Nat)(ht:t.length<=1000000000)(hy:ch[k]?=some y)(bg:k<ch.length)(hc:ch.length<=1000000)(hl:ys.length<=1000000)(hb:ak P G 275 [bZ l,oO y.dv y.sq y.gU] [] (.ret (bZ ys)) [])(ex:bF)(s':St)(h:bN P G none 0 (vg P 275 2) (sM 83 [(0,.sl 9 false (au l)),(4,aK),(5,.sl 9 false (au ch)),(9,AV.aU 1 (g+1+1) 0 (length (t++[CE.mk (CE.dv y) (CE.sq y) (CE.gU y) (CE.ad y) (CE.j6 y) (CE.aa y) (CE.tm y) (CE.vl y) (CE.gn y)])+length ys)),(10,int (↑(k+1):Int))] [.box [int a,int b,int c],ah.aN (g+1+1) 9 false (au (t++[CE.mk (CE.dv y) (CE.sq y) (CE.gU y) (CE.ad y) (CE.j6 y) (CE.aa y) (CE.tm y) (CE.vl y) (CE.gn y)]++ys))]) ex s'):bN P G none 0 (vg P 275 2) (bo1 l ch a b c k g t) ex s':=by
 have jw:(0:Int)<=(↑k:Int)/\(au ch)[Int.toNat (↑k:Int)]?=some (aQ y):=(bG hy);exact aJ [kv 62 (show Am.aF (int (↑(length (au ch)):Int)) (int (↑(length ch):Int))from(aF.of_eq (by simp only[y26,Go.Sq.ay]))),kt (show decide ((↑k:Int)<(↑(length ch):Int))=true from(y15 zO)),ko (bC.elem (aQ y)),ko (bC.hp (some 72) (AV.aU 1 (g+1) 0 (length (t++[CE.mk (CE.dv y) (CE.sq y) (CE.gU y) (CE.ad y) (CE.j6 y) (CE.aa y) (CE.tm y) (CE.vl y) (CE.gn y)]))) [ah.box [int a,int b,int c],ah.aN (g+1) 9 false (au (t++[CE.mk (CE.dv y) (CE.sq y) (CE.gU y) (CE.ad y) (CE.j6 y) (CE.aa y) (CE.tm y) (CE.vl y) (CE.gn y)]))]),ko (bC.elem (aQ y)),kp jw,kp (show Am.aF (AV.aU 1 (g+1) 0 (length t+1)) (AV.aU 1 (g+1) 0 (length (t++[CE.mk (CE.dv y) (CE.sq y) (CE.gU y) (CE.ad y) (CE.j6 y) (CE.aa y) (CE.tm y) (CE.vl y) (CE.gn y)])))from(aF.of_eq (by simp[Go.Sq.ay,yD,Go.Sq.bJ]))),kp (show Am.HSub [ah.box [int a,int b,int c],ah.aN (g+1) 9 false (au t++[[int (CE.dv y),int (CE.sq y),int (CE.gU y),int (CE.ad y),int (CE.j6 y),int (CE.aa y),int (CE.tm y),str (CE.vl y),Am.bool (CE.gn y)]])] [ah.box [int a,int b,int c],ah.aN (g+1) 9 false (au (t++[CE.mk (CE.dv y) (CE.sq y) (CE.gU y) (CE.ad y) (CE.j6 y) (CE.aa y) (CE.tm y) (CE.vl y) (CE.gn y)]))]from(⟨.inl rfl,.inl (by simp only[y26,Go.Sq.gy,Go.Sq.Aw]),yO⟩)),kp (show g=g from(rfl)),kp (show length t=length (au t)from((Go.Sq.ay _).symm)),kp (show(length t+1)*80<=140737488355328 from zO),kp jw,kc [] (@hb ),ko (bC.hp (some 81) (AV.aU 1 (g+1+1) 0 (length (t++[CE.mk (CE.dv y) (CE.sq y) (CE.gU y) (CE.ad y) (CE.j6 y) (CE.aa y) (CE.tm y) (CE.vl y) (CE.gn y)])+length ys)) [ah.box [int a,int b,int c],ah.aN (g+1+1) 9 false (au (t++[CE.mk (CE.dv y) (CE.sq y) (CE.gU y) (CE.ad y) (CE.j6 y) (CE.aa y) (CE.tm y) (CE.vl y) (CE.gn y)]++ys))]),kp (show Am.aF (AV.aU 1 (g+1+1) 0 (length (t++[CE.mk (CE.dv y) (CE.sq y) (CE.gU y) (CE.ad y) (CE.j6 y) (CE.aa y) (CE.tm y) (CE.vl y) (CE.gn y)])+length (au ys))) (AV.aU 1 (g+1+1) 0 (length (t++[CE.mk (CE.dv y) (CE.sq y) (CE.gU y) (CE.ad y) (CE.j6 y) (CE.aa y) (CE.tm y) (CE.vl y) (CE.gn y)])+length ys))from(aF.of_eq (by simp only[y26,Go.Sq.ay]))),kp (show Am.HSub [ah.box [int a,int b,int c],ah.aN (g+1+1) 9 false (au (t++[CE.mk (CE.dv y) (CE.sq y) (CE.gU y) (CE.ad y) (CE.j6 y) (CE.aa y) (CE.tm y) (CE.vl y) (CE.gn y)])++au ys)] [ah.box [int a,int b,int c],ah.aN (g+1+1) 9 false (au (t++[CE.mk (CE.dv y) (CE.sq y) (CE.gU y) (CE.ad y) (CE.j6 y) (CE.aa y) (CE.tm y) (CE.vl y) (CE.gn y)]++ys))]from(⟨.inl rfl,.inl (by simp only[y26,Go.Sq.gy]),yO⟩)),kp (show g+1=g+1 from(rfl)),kp (show length (t++[CE.mk (CE.dv y) (CE.sq y) (CE.gU y) (CE.ad y) (CE.j6 y) (CE.aa y) (CE.tm y) (CE.vl y) (CE.gn y)])=length (au (t++[CE.mk (CE.dv y) (CE.sq y) (CE.gU y) (CE.ad y) (CE.j6 y) (CE.aa y) (CE.tm y) (CE.vl y) (CE.gn y)]))from((Go.Sq.ay _).symm)),kp (show(length (t++[CE.mk (CE.dv y) (CE.sq y) (CE.gU y) (CE.ad y) (CE.j6 y) (CE.aa y) (CE.tm y) (CE.vl y) (CE.gn y)])+length (au ys))*80<=140737488355328 from(by simp only[yD,yE,y11,y10,Go.Sq.ay,yD,Go.Sq.bJ]<;>omega)),kv 65 (show Am.aF (int (IntKind.wrap IntKind.i64 ((↑k:Int)+1))) (int (↑(k+1):Int))from(aF.TJ zO zO zO))] (aB 83 [0,4,5,9,10]) 2 h zQ
theorem aIl(l ch:List CE)(a b c:Int)(hv:l.length<=1000000)(hc:ch.length<=1000000)(hL:bN P G none 0 (vg P 275 0) (aBM l a b c 0 []) (.exit 0) { aL:=aC 83 [(0,bZ l),(4,aK),(5,bZ ch)],H:=[.box [int a,int b,int c]] })(hM:bN P G none 0 (vg P 275 2) (bo0 l ch a b c 0) (.exit 4) { aL:=aC 83 [(4,aK),(9,.sl 9 true [])],H:=[.box [int a,int b,int c]] })(h:True):ak P G 275 [bZ l,oO a b c] [] (aS.ret (bZ [])) []:=by
 have _:=h;exact ak.out ((show ak P G 275 [bZ l,oO a b c] [] (aS.ret (AV.sl 9 true [])) []from aj [kl [1,2,7,8,9,10,11,12,13,14,15,16,17,18,19,20,21,22,23,24,25,26,27,28,29,30,31,32,33,34,35,36,37,38,39,40,41,42,43,44,45,46,47,48,49,50,51,52,53,54,55,56,57,58,59,60,61,62,63,64,65,66,67,68,69,70,71,72,73,74,75,76,77,78,79,80,81,82] 1 (show bN P G none 0 (vg P 275 0) (sM 83 [(0,.sl 9 false (au l)),(3,.ptr 0 0),(4,aK),(5,.sl 9 true []),(6,int 0)] [.box [int a,int b,int c]]) (bF.exit 0) (sM 83 [(0,.sl 9 false (au l)),(4,aK),(5,.sl 9 false (au ch))] [.box [int a,int b,int c]])from(bN.pre (@hL ) (eB.aC ⟨rfl,y29,rfl,y29,rfl,y29,rfl,aF.oP _ _ _,rfl,y29,yO⟩))),kl [59] 1 (@hM )] zQ)) (aF.oP _ _ _)
theorem aIm(l ch t:List CE)(a b c:Int)(g:Nat)(hv:l.length<=1000000)(hc:ch.length<=1000000)(ht:t.length<=1000000000)(hL:bN P G none 0 (vg P 275 0) (aBM l a b c 0 []) (.exit 0) { aL:=aC 83 [(0,bZ l),(4,aK),(5,bZ ch)],H:=[.box [int a,int b,int c]] })(hM:bN P G none 0 (vg P 275 2) (bo0 l ch a b c 0) (.exit 4) { aL:=aC 83 [(4,aK),(9,.aU 1 g 0 t.length)],H:=[.box [int a,int b,int c],.aN g 9 false (au t)] })(h:True):ak P G 275 [bZ l,oO a b c] [] (aS.ret (bZ t)) []:=by
 have _:=h;exact aj [kl [1,2,7,8,9,10,11,12,13,14,15,16,17,18,19,20,21,22,23,24,25,26,27,28,29,30,31,32,33,34,35,36,37,38,39,40,41,42,43,44,45,46,47,48,49,50,51,52,53,54,55,56,57,58,59,60,61,62,63,64,65,66,67,68,69,70,71,72,73,74,75,76,77,78,79,80,81,82] 1 (show bN P G none 0 (vg P 275 0) (sM 83 [(0,.sl 9 false (au l)),(3,.ptr 0 0),(4,aK),(5,.sl 9 true []),(6,int 0)] [.box [int a,int b,int c]]) (bF.exit 0) (sM 83 [(0,.sl 9 false (au l)),(4,aK),(5,.sl 9 false (au ch))] [.box [int a,int b,int c]])from(bN.pre (@hL ) (eB.aC ⟨rfl,y29,rfl,y29,rfl,y29,rfl,aF.oP _ _ _,rfl,y29,yO⟩))),kl [59] 1 (@hM ),ko (bC.Gu (au t)),kp (show g=g from(rfl)),kp (show List.take (length t) (List.drop 0 (au t))=au t from(Go.Sq.dW _)),kp (show length (au t)=length t from(Go.Sq.ay _)),kp (show ∀(c:List AV),c∈au t->List.all c AV.fJ=true from(Go.Sq.bK _))] zQ
def VK(x:CE)(ch:List CE):List CE:=ch.takeWhile (fun y=>Kn y x)++x::ch.dropWhile (fun y=>Kn y x)
theorem Ud(x:CE)ch:(VK x ch).length=ch.length+1:=by
 have:=yJ length (takeWhile_append_dropWhile (p:=fun y=>Kn y x) (l:=ch));simp only[VK,yD,yE]at this |-;omega
theorem aCu{α:Type}(p:α->Bool):∀l:List α,l.take (l.takeWhile p).length=l.takeWhile p
 |[]=>rfl
 |x::l=>by
  rw[takeWhile_cons];split
  .simp [aCu p l]
  .rfl
theorem drop_tw{α:Type}(p:α->Bool):∀l:List α,l.drop (l.takeWhile p).length=l.dropWhile p
 |[]=>rfl
 |x::l=>by
  rw[takeWhile_cons,dropWhile_cons];split
  .simp [drop_tw p l]
  .rfl
theorem aFi(l ch:List CE)(x:CE)(a b c:Int)(k:Nat)(hx:l[k]?=some x)(hv:l.length<=1000000)(hc:ch.length<=1000000):∀n j,ch.length-j=n->j<=ch.length ->
 Rq 0 275 1 (aCd l ch a b c k j) (.exit 2) (aCd l ch a b c k (j+((ch.drop j).takeWhile (fun y=>Kn y x)).length)):=by
 intro n
 induction n with
 |zero =>
  intro j hn hj;refine aIi l ch x a b c k j hx hv hc hj _ _ ⟨fun h=>absurd h zO,fun _=>⟨rfl,?_⟩⟩;rw[y14 zO];rfl
 |succ n ih =>
  intro j hn hj;have bg:j<ch.length:=zO
  have hy:ch[j]?=some ch[j]:=yA bg;refine aIi l ch x a b c k j hx hv hc hj _ _ ⟨fun _=>⟨ch[j],hy,⟨fun hq=>?_,fun hq=>⟨rfl,?_⟩⟩⟩,fun h=>absurd h zO⟩
  .rw [y01 bg,takeWhile_cons,yL hq,yE,show j+(((ch.drop (j+1)).takeWhile (fun y=>Kn y x)).length+1)=(j+1)+((ch.drop (j+1)).takeWhile (fun y=>Kn y x)).length by omega];exact ih (j+1) zO zO
  .rw [y01 bg,takeWhile_cons,yK (by rw[hq];decide)];rfl
def Pt(a b c:Int)(x:CE):Bool:=x.ad==a&&(x.j6==b&&x.aa==c)
def DK(a b c:Int):List CE->List CE->List CE
 |[],acc=>acc
 |x::r,acc=>DK a b c r (if Pt a b c x=true then VK x acc else acc)
theorem KS a b c:∀r acc,(DK a b c r acc).length<=r.length+acc.length
 |[],acc=>by simp[DK]
 |x::r,acc=>by
  rw[DK];have:=KS a b c r (if Pt a b c x=true then VK x acc else acc);split at this<;>(try rw[Ud]at this)<;>simp only[yE]<;>rename_i h<;>simp only[h,if_true,if_false,y20]at this|-<;> (try rw[Ud]at this)<;>omega
def oZ(l:List CE)(a b c:Int):List CE:=DK a b c l []
theorem Oj l(a b c:Int):(oZ l a b c).length<=l.length:=by have:=KS a b c l [];simpa[oZ]using this
theorem aFj(l:List CE)(a b c:Int)(hv:l.length<=1000000):∀n k ch,l.length-k=n->k<=l.length->ch.length<=k ->
 Rq 0 275 0 (aBM l a b c k ch) (.exit 0) { aL:=aC 83 [(0,bZ l),(4,aK),(5,bZ (DK a b c (l.drop k) ch))],H:=[.box [int a,int b,int c]] }:=by
 intro n
 induction n with
 |zero =>
  intro k ch hn hk hc;rw[y14 zO];exact aGK l ch a b c k zO trivial
 |succ n ih =>
  intro k ch hn hk hc;have bg:k<l.length:=zO
  have hx:l[k]?=some l[k]:=yA bg;rw[y01 bg,DK];cases hq:Pt a b c l[k]with
  |false =>
   rw[yK zD];exact aFf l ch l[k] a b c k hx bg hv hq _ _ (ih (k+1) ch zO zO zO)
  |true =>
   rw[yL rfl];have hj:(ch.takeWhile (fun y=>Kn y l[k])).length<=ch.length:=(takeWhile_sublist _).length_le;have hL:=aFi l ch l[k] a b c k hx hv zO ch.length 0 zO zO;rw[drop_zero,y09]at hL;have next:=ih (k+1) (VK l[k] ch) zO zO (by rw[Ud];omega)
   refine aGL l ch l[k] a b c k _ hx bg hv zO hj hq hL _ _ ?_;rw[aCu,drop_tw];refine⟨fun h=>?_,fun h=>?_⟩
   .have h0:ch.takeWhile (fun y=>Kn y l[k])=[]:=by simpa[au]using h
    exact aF4 l (VK l[k] ch) a b c (k+1) 1 _ _ (by simp[VK,h0,au,aQ]) (by simp[VK,h0];omega) next
   .exact aF4 l (VK l[k] ch) a b c (k+1) 2 _ _ (by simp[VK]) (by simp[VK];omega) next
def bX(l:List CE):Nat->Int->Int->Int->List CE
 |0,_,_,_=>[]
 |n+1,a,b,c=>(oZ l a b c).flatMap fun y=>y::bX l n y.dv y.sq y.gU
def Deep(l:List CE):Nat->Int->Int->Int->Prop
 |0,_,_,_=>False
 |n+1,a,b,c=>(bX l (n+1) a b c).length<=1000000/\∀y∈oZ l a b c,Deep l n y.dv y.sq y.gU
theorem Deep.len{l}:∀{n}{a b c},Deep l n a b c->(bX l n a b c).length<=1000000
 |0,_,_,_,h=>h.elim
 |_+1,_,_,_,h=>h.1
theorem Deep.Td{l}{n}{a b c}(h:Deep l (n+1) a b c){y}(hy:y∈oZ l a b c):Deep l n y.dv y.sq y.gU:=h.2 y hy
theorem aDN(l ch:List CE)(a b c:Int)(rec:CE->List CE)(hc:ch.length<=1000000)(hb:∀y∈ch,(rec y).length<=1000000/\Cq 275 [bZ l,oO y.dv y.sq y.gU] (bZ (rec y))):∀n k g t,ch.length-k=n->k<=ch.length->t.length+((ch.drop k).flatMap fun y=>y::rec y).length<=1000000000 ->
 ∃g',Rq 0 275 2 (bo1 l ch a b c k g t) (.exit 4) { aL:=aC 83 [(4,aK),(9,.aU 1 g' 0 (t++(ch.drop k).flatMap fun y=>y::rec y).length)],H:=[.box [int a,int b,int c],.aN g' 9 false (au (t++(ch.drop k).flatMap fun y=>y::rec y))] }:=by
 intro n
 induction n with
 |zero =>
  intro k g t hn hk ht;rw[y14 zO];rw[flatMap_nil,y19];exact⟨g,aFh l ch a b c k g t zO yO⟩
 |succ n ih =>
  intro k g t hn hk ht;have bg:k<ch.length:=zO
  have hy:ch[k]?=some ch[k]:=yA bg;obtain⟨h1,h2⟩:=hb _ (y03 bg);rw[y01 bg]at ht |-;rw[flatMap_cons]at ht |-;have e:t++(ch[k]::rec ch[k]++(ch.drop (k+1)).flatMap fun y=>y::rec y)=(t++[ch[k]]++rec ch[k])++(ch.drop (k+1)).flatMap fun y=>y::rec y:=zS
  simp only[yD,yE]at ht;obtain⟨g',h⟩:=ih (k+1) (g+1+1) (t++[ch[k]]++rec ch[k]) zO zO (by simp only[yD,yE,y11];omega);rw[<- e]at h;refine⟨g',aIk l ch ch[k] (rec ch[k]) t a b c k g zO hy bg hc h1 h2 _ _ ?_⟩;have e2:(t++[ch[k]]).length+(rec ch[k]).length=(t++[ch[k]]++rec ch[k]).length:=by simp only[yD]
  rw[show(CE.mk ch[k].dv ch[k].sq ch[k].gU ch[k].ad ch[k].j6 ch[k].aa ch[k].tm ch[k].vl ch[k].gn)=ch[k]from rfl,e2];exact h
theorem aDO(l:List CE)(a b c:Int)(hv:l.length<=1000000)(rec:CE->List CE)(hb:∀y∈oZ l a b c,(rec y).length<=1000000/\Cq 275 [bZ l,oO y.dv y.sq y.gU] (bZ (rec y)))(ht:((oZ l a b c).flatMap fun y=>y::rec y).length<=1000000) :
 Cq 275 [bZ l,oO a b c] (bZ ((oZ l a b c).flatMap fun y=>y::rec y)):=by
 have hL:=aFj l a b c hv l.length 0 [] zO zO zS;rw[drop_zero]at hL;have LB:=Oj l a b c;change bN P G none 0 _ _ _ { aL:=aC 83 [(0,bZ l),(4,aK),(5,bZ (oZ l a b c))],H:=[.box [int a,int b,int c]] }at hL;generalize oZ l a b c=ch at *;cases ch with
 |nil=>exact aIl l [] a b c hv zS hL (aFg l [] a b c 0 zS yO) trivial
 |cons y r =>
  obtain⟨h1,h2⟩:=hb y zS;rw[flatMap_cons]at ht;simp only[yD,yE]at ht;obtain⟨g',h⟩:=aDN l (y::r) a b c rec zO hb r.length 1 1 ([y]++rec y) zS zS (by simp only[yD,yE,y11,drop_succ_cons,drop_zero];omega);have e:([y]++rec y)++((y::r).drop 1).flatMap (fun y=>y::rec y)=(y::r).flatMap fun y=>y::rec y:=zS
  rw[e]at h;refine aIm l (y::r) _ a b c g' hv zO (by rw[flatMap_cons];simp only[yD,yE];omega) hL (aIj l (y::r) y (rec y) a b c 0 rfl zS zO h1 h2 _ _ ?_) trivial;have e2:1+(rec y).length=([y]++rec y).length:=by simp;omega
  rw[e2];exact h
theorem aFk(l:List CE)(hv:l.length<=1000000):∀n a b c,Deep l n a b c->Cq 275 [bZ l,oO a b c] (bZ (bX l n a b c)):=by
 intro n
 induction n with
 |zero=>intro a b c h;exact h.elim
 |succ n ih =>
  intro a b c h;exact aDO l a b c hv (fun y=>bX l n y.dv y.sq y.gU) (fun y hy=>⟨(h.Td hy).len,ih _ _ _ (h.Td hy)⟩) h.1
end Go.Sq
namespace Go.Sq
open Go Go.Am
theorem Hq{a b}:Kn a b=true↔a.tm>b.tm\/a.tm=b.tm/\(a.dv>b.dv\/a.dv=b.dv/\(a.sq>b.sq\/a.sq=b.sq/\a.gU>b.gU)):=by
 simp[Kn]
theorem vQ a:Kn a a=false:=by
 rw[Bool.eq_false_iff];intro h;rw[Hq]at h;omega
theorem gt_trans{a b c}(h:Kn a b=true)(k:Kn b c=true):Kn a c=true:=by
 rw[Hq]at *;omega
theorem Oe{a b}(h:a.id≠b.id):Kn a b=true\/Kn b a=true:=by
 simp only[Hq];by_cases h1:a.tm=b.tm<;>by_cases h2:a.dv=b.dv<;>by_cases h3:a.sq=b.sq<;>by_cases h4:a.gU=b.gU
 all_goals first|omega|exact absurd (by simp[CE.id,h2,h3,h4]) h
abbrev F4(l:List CE):Prop:=l.Pairwise fun a b=>Kn a b=true
theorem F4.ext:∀{l m},F4 l->F4 m->(∀x,x∈l↔x∈m)->l=m
 |[],[],_,_,_=>rfl
 |[],y::m,_,_,h=>absurd ((h y).2 zS) zS
 |x::l,[],_,_,h=>absurd ((h x).1 zS) zS
 |x::l,y::m,hl,hm,h=>by
  obtain⟨h1,h2⟩:=pairwise_cons.1 hl;obtain⟨k1,k2⟩:=pairwise_cons.1 hm;have exy:x=y:=by
   rcases yH.1 ((h x).1 zS)with e|e
   .exact e
   .rcases yH.1 ((h y).2 zS)with e'|e'
    .exact e'.symm
    .have:=gt_trans (h1 y e') (k1 x e);rw[vQ]at this;grind
  subst exy;have nx:x∉l:=fun hx=>by have:=h1 x hx;rw[vQ]at this;grind
  have nm:x∉m:=fun hx=>by have:=k1 x hx;rw[vQ]at this;grind
  rw[F4.ext h2 k2 fun z=>?_];grind
theorem F4.Fp{l}(h:F4 l):l.Nodup:=h.imp fun{a b} hab e=>by subst e;rw[vQ]at hab;cases hab
theorem Ng{x y}{ch}:y∈VK x ch↔y=x\/y∈ch:=by
 have:=takeWhile_append_dropWhile (p:=fun y=>Kn y x) (l:=ch);constructor
 .intro h;rcases yI.1 h with h|h
  .grind
  .grind
 .rintro (rfl|h)
  .exact mem_append_right _ zS
  .rw [<- this]at h;rcases yI.1 h with h|h
   .exact mem_append_left _ h
   .exact mem_append_right _ (yF _ h)
theorem Pv{x}:∀{ch},F4 ch->(∀y∈ch,y.id≠x.id)->F4 (VK x ch)
 |[],_,_=>by simp[VK]
 |y::ch,h,hd=>by
  obtain⟨h1,h2⟩:=pairwise_cons.1 h;cases hg:Kn y x with
  |true =>
   have e:VK x (y::ch)=y::VK x ch:=by simp[VK,hg]
   rw[e];refine pairwise_cons.2 ⟨fun z hz=>?_,Pv h2 fun z hz=>hd z (yF _ hz)⟩;rcases Ng.1 hz with rfl|hz
   .exact hg
   grind
  |false =>
   have e:VK x (y::ch)=x::y::ch:=by simp[VK,hg]
   rw[e];have hxy:=(Oe (hd y zS)).resolve_left (by rw[hg];decide);refine pairwise_cons.2 ⟨fun z hz=>?_,h⟩;rcases yH.1 hz with rfl|hz
   .exact hxy
   .grind [gt_trans]
abbrev Ids(l:List CE):Prop:=l.Pairwise fun a b=>a.id≠b.id
theorem xw a b c:∀r acc,Ids r->(∀x∈r,∀y∈acc,y.id≠x.id)->F4 acc->F4 (DK a b c r acc)/\∀y,y∈DK a b c r acc↔y∈acc\/(y∈r/\Pt a b c y=true)
 |[],acc,_,_,h=>⟨h,fun y=>by simp[DK]⟩
 |x::r,acc,hi,hd,h=>by
  obtain⟨i1,i2⟩:=pairwise_cons.1 hi;rw[DK];cases hk:Pt a b c x with
  |true =>
   rw[yL rfl];obtain⟨k1,k2⟩:=xw a b c r (VK x acc) i2 (fun z hz y hy=>by
    rcases Ng.1 hy with rfl|hy
    .exact i1 z hz
    grind) (Pv h fun y hy=>hd x zS y hy)
   refine⟨k1,fun y=>?_⟩;rw[k2,Ng];grind
  |false =>
   obtain⟨k1,k2⟩:=xw a b c r acc i2 (fun z hz y hy=>hd z (yF _ hz) y hy) h;grind
theorem Kt{l}(h:Ids l)a b c:F4 (oZ l a b c):=(xw a b c l [] h zS .nil).1
theorem jc{l}(h:Ids l){a b c}{y}:y∈oZ l a b c↔y∈l/\y.after=(a,b,c):=by
 rw[oZ,(xw a b c l [] h zS .nil).2];simp[Pt,CE.after]
open Go.Proofs Go.eY
def agx(c:CE):List AV:=[int c.tm,int c.dv,int c.sq,int c.gU]
theorem acK(c:CE)(h:True):Cq 287 [nP c] (.agg (agx c)):=by
 exact aj []
theorem Ue(c:CE):Cq 287 [nP c] (.agg [int c.tm,int c.dv,int c.sq,int c.gU]):=acK c trivial
theorem akS(a:Int)(h:True):Cq 216 [int a] (Am.bool (a != a)):=by
 exact aj []
theorem aex(a:Int):Cq 216 [int a] (bool false):=by grind[akS]
def lW(a b:Int):Int:=if a<b then -1 else if b<a then 1 else 0
theorem RO(a b:Int)(r:Int)(h:(((a<b)->(-1:Int)=(r))/\((¬a<b)->(((a>b)->1=r)/\((¬a>b)->0=r))))):Cq 121 [int a,int b] (int r):=by
 have bS:=(@aex (a));have fT:=(@aex (b));let l1:List fP:=[kc [] bS,kc [] fT,kY,kY];by_cases c1:(a<b)
 .have h:=h.1 c1;exact aA (aF.int_eq h) (l1++[kt (qT c1)])
 .have h:=h.2 c1;by_cases c2:(a>b)
  .have h:=h.1 c2;exact aA (aF.int_eq h) (l1++[kf (qF c1),kt (qT c2)])
  .have h:=h.2 c2;exact aA (aF.int_eq h) (l1++[kf (qF c1),kf (qF c2)])
theorem Cc(a b:Int):Cq 121 [int a,int b] (int (lW a b)):=RO a b _ (by
 unfold lW;grind)
abbrev IZ(a b c d:Int):AV:=.sl 1 true [[int a],[int b],[int c],[int d]]
def RU(a b c d a' b' c' d':Int)(k:Nat):St:={ aL:=aC 39 [(0,IZ a b c d),(1,IZ a' b' c' d'),(2,.lit (.func (.func 121) #[] #[])),(6,int 0),(11,IZ a b c d),(12,int 4),(13,int k)],H:=[] }
theorem cf4(a b c d a' b' c' d':Int)(ex:bF)(s':St)(h:(bF.exit 0=ex)/\(sM 39 [(0,.sl 1 true [[int a],[int b],[int c],[int d]]),(1,.sl 1 true [[int a'],[int b'],[int c'],[int d']]),(6,int 0)] []=s')):Rq 0 304 0 (RU a b c d a' b' c' d' 4) ex s':=by
 obtain⟨eX,eS⟩:=h;exact bN.to ((aG [kY] (aB 39 [0,1,6]) 0)) eX (eB.of_eq eS)
theorem cf3(a b c d a' b' c' d':Int)(ex:bF)(s':St)(h:(((lW d d'=0)->Rq 0 304 0 (sM 39 [(0,.sl 1 true [[int a],[int b],[int c],[int d]]),(1,.sl 1 true [[int a'],[int b'],[int c'],[int d']]),(2,iL 121),(6,int 0),(11,.sl 1 true [[int a],[int b],[int c],[int d]]),(12,int 4),(13,int 4)] []) ex s')/\((¬lW d d'=0)->(bF.ret=ex)/\(sM 39 [(0,.sl 1 true [[int a],[int b],[int c],[int d]]),(1,.sl 1 true [[int a'],[int b'],[int c'],[int d']]),(6,int (lW d d'))] []=s')))):Rq 0 304 0 (RU a b c d a' b' c' d' 3) ex s':=by
 have jw:=(@Cc (d) (d'));let l1:List fP:=[kO,ko (bC.elem [int d]),kp (show(0:Int)<=(3:Int)/\[[int a],[int b],[int c],[int d]][Int.toNat (3:Int)]?=some [int d]from(⟨zD,rfl⟩)),kY,ko (bC.elem [int d']),kp (show(0:Int)<=(3:Int)/\[[int a'],[int b'],[int c'],[int d']][Int.toNat (3:Int)]?=some [int d']from(⟨zD,rfl⟩)),kc [] jw];by_cases c1:(lW d d'=0)
 .have h:=h.1 c1;exact aJ (l1++[kf (y27 (nW.2 c1))]) (aB 39 [0,1,2,6,11,12,13]) 0 h
 .have h:=h.2 c1;obtain⟨eX,eS⟩:=h;exact bN.to ((aG (l1++[kt (show(lW d d' != 0)=true from(y27 (qN.2 c1)))]) (aB 39 [0,1,6]) 0)) eX (eB.of_eq eS)
theorem cf2(a b c d a' b' c' d':Int)(ex:bF)(s':St)(h:(((lW c c'=0)->Rq 0 304 0 (sM 39 [(0,.sl 1 true [[int a],[int b],[int c],[int d]]),(1,.sl 1 true [[int a'],[int b'],[int c'],[int d']]),(2,iL 121),(6,int 0),(11,.sl 1 true [[int a],[int b],[int c],[int d]]),(12,int 4),(13,int 3)] []) ex s')/\((¬lW c c'=0)->(bF.ret=ex)/\(sM 39 [(0,.sl 1 true [[int a],[int b],[int c],[int d]]),(1,.sl 1 true [[int a'],[int b'],[int c'],[int d']]),(6,int (lW c c'))] []=s')))):Rq 0 304 0 (RU a b c d a' b' c' d' 2) ex s':=by
 have jw:=(@Cc (c) (c'));let l1:List fP:=[kO,ko (bC.elem [int c]),kp (show(0:Int)<=(2:Int)/\[[int a],[int b],[int c],[int d]][Int.toNat (2:Int)]?=some [int c]from(⟨zD,rfl⟩)),kY,ko (bC.elem [int c']),kp (show(0:Int)<=(2:Int)/\[[int a'],[int b'],[int c'],[int d']][Int.toNat (2:Int)]?=some [int c']from(⟨zD,rfl⟩)),kc [] jw];by_cases c1:(lW c c'=0)
 .have h:=h.1 c1;exact aJ (l1++[kf (y27 (nW.2 c1))]) (aB 39 [0,1,2,6,11,12,13]) 0 h
 .have h:=h.2 c1;obtain⟨eX,eS⟩:=h;exact bN.to ((aG (l1++[kt (show(lW c c' != 0)=true from(y27 (qN.2 c1)))]) (aB 39 [0,1,6]) 0)) eX (eB.of_eq eS)
theorem cf1(a b c d a' b' c' d':Int)(ex:bF)(s':St)(h:(((lW b b'=0)->Rq 0 304 0 (sM 39 [(0,.sl 1 true [[int a],[int b],[int c],[int d]]),(1,.sl 1 true [[int a'],[int b'],[int c'],[int d']]),(2,iL 121),(6,int 0),(11,.sl 1 true [[int a],[int b],[int c],[int d]]),(12,int 4),(13,int 2)] []) ex s')/\((¬lW b b'=0)->(bF.ret=ex)/\(sM 39 [(0,.sl 1 true [[int a],[int b],[int c],[int d]]),(1,.sl 1 true [[int a'],[int b'],[int c'],[int d']]),(6,int (lW b b'))] []=s')))):Rq 0 304 0 (RU a b c d a' b' c' d' 1) ex s':=by
 have jw:=(@Cc (b) (b'));let l1:List fP:=[kO,ko (bC.elem [int b]),kp (show(0:Int)<=(1:Int)/\[[int a],[int b],[int c],[int d]][Int.toNat (1:Int)]?=some [int b]from(⟨zD,rfl⟩)),kY,ko (bC.elem [int b']),kp (show(0:Int)<=(1:Int)/\[[int a'],[int b'],[int c'],[int d']][Int.toNat (1:Int)]?=some [int b']from(⟨zD,rfl⟩)),kc [] jw];by_cases c1:(lW b b'=0)
 .have h:=h.1 c1;exact aJ (l1++[kf (y27 (nW.2 c1))]) (aB 39 [0,1,2,6,11,12,13]) 0 h
 .have h:=h.2 c1;obtain⟨eX,eS⟩:=h;exact bN.to ((aG (l1++[kt (show(lW b b' != 0)=true from(y27 (qN.2 c1)))]) (aB 39 [0,1,6]) 0)) eX (eB.of_eq eS)
theorem cf0(a b c d a' b' c' d':Int)(ex:bF)(s':St)(h:(((lW a a'=0)->Rq 0 304 0 (sM 39 [(0,.sl 1 true [[int a],[int b],[int c],[int d]]),(1,.sl 1 true [[int a'],[int b'],[int c'],[int d']]),(2,iL 121),(6,int 0),(11,.sl 1 true [[int a],[int b],[int c],[int d]]),(12,int 4),(13,int 1)] []) ex s')/\((¬lW a a'=0)->(bF.ret=ex)/\(sM 39 [(0,.sl 1 true [[int a],[int b],[int c],[int d]]),(1,.sl 1 true [[int a'],[int b'],[int c'],[int d']]),(6,int (lW a a'))] []=s')))):Rq 0 304 0 (RU a b c d a' b' c' d' 0) ex s':=by
 have jw:=(@Cc (a) (a'));let l1:List fP:=[kO,ko (bC.elem [int a]),kp (show(0:Int)<=(0:Int)/\[[int a],[int b],[int c],[int d]][Int.toNat (0:Int)]?=some [int a]from(⟨zD,rfl⟩)),kY,ko (bC.elem [int a']),kp (show(0:Int)<=(0:Int)/\[[int a'],[int b'],[int c'],[int d']][Int.toNat (0:Int)]?=some [int a']from(⟨zD,rfl⟩)),kc [] jw];by_cases c1:(lW a a'=0)
 .have h:=h.1 c1;exact aJ (l1++[kf (y27 (nW.2 c1))]) (aB 39 [0,1,2,6,11,12,13]) 0 h
 .have h:=h.2 c1;obtain⟨eX,eS⟩:=h;exact bN.to ((aG (l1++[kt (show(lW a a' != 0)=true from(y27 (qN.2 c1)))]) (aB 39 [0,1,6]) 0)) eX (eB.of_eq eS)
def wP(a b c d a' b' c' d':Int):Int:=if lW a a'=0 then(if lW b b'=0 then(if lW c c'=0 then lW d d' else lW c c')else lW b b')else lW a a'
def cfE(a b c d a' b' c' d':Int)(r:Int):St:={ aL:=aC 39 [(0,IZ a b c d),(1,IZ a' b' c' d'),(6,int r)],H:=[] }
theorem agy(a b c d a' b' c' d':Int):Rq 0 304 0 (RU a b c d a' b' c' d' 0) (if wP a b c d a' b' c' d'=0 then .exit 0 else .ret) (cfE a b c d a' b' c' d' (wP a b c d a' b' c' d')):=by
 unfold wP;by_cases h1:lW a a'=0
 .rw [yL h1];by_cases h2:lW b b'=0
  .rw [yL h2];by_cases h3:lW c c'=0
   .rw [yL h3];refine cf0 a b c d a' b' c' d' _ _ ⟨fun _=>cf1 a b c d a' b' c' d' _ _ ⟨fun _=>cf2 a b c d a' b' c' d' _ _ ⟨fun _=>cf3 a b c d a' b' c' d' _ _ ⟨fun h4=>cf4 a b c d a' b' c' d' _ _ ?_,fun h4=>?_⟩,fun h=>absurd h3 h⟩,fun h=>absurd h2 h⟩,fun h=>absurd h1 h⟩
    .rw [yL h4,h4];exact⟨rfl,rfl⟩
    .rw [yK h4];exact⟨rfl,rfl⟩
   .rw [yK h3,yK h3];exact cf0 a b c d a' b' c' d' _ _ ⟨fun _=>cf1 a b c d a' b' c' d' _ _ ⟨fun _=>cf2 a b c d a' b' c' d' _ _ ⟨fun h=>absurd h h3,fun _=>⟨rfl,rfl⟩⟩,fun h=>absurd h2 h⟩,fun h=>absurd h1 h⟩
  .rw [yK h2,yK h2];exact cf0 a b c d a' b' c' d' _ _ ⟨fun _=>cf1 a b c d a' b' c' d' _ _ ⟨fun h=>absurd h h2,fun _=>⟨rfl,rfl⟩⟩,fun h=>absurd h1 h⟩
 .rw [yK h1,yK h1];exact cf0 a b c d a' b' c' d' _ _ ⟨fun h=>absurd h h1,fun _=>⟨rfl,rfl⟩⟩
theorem akT(a b c d a' b' c' d':Int)(r:Int)(hL:Rq 0 304 0 (RU a b c d a' b' c' d' 0) (if wP a b c d a' b' c' d'=0 then .exit 0 else .ret) { aL:=aC 39 [(0,IZ a b c d),(1,IZ a' b' c' d'),(6,int (wP a b c d a' b' c' d'))],H:=[] })(h:(((wP a b c d a' b' c' d'=0)->0=r)/\((¬wP a b c d a' b' c' d'=0)->(wP a b c d a' b' c' d':Int)=(r)))):Cq 304 [IZ a b c d,IZ a' b' c' d',.lit (Value.func (Fn.func 121) #[] #[])] (int r):=by
 by_cases c1:(wP a b c d a' b' c' d'=0)
 .have h:=h.1 c1;exact aA (aF.int_eq h) [kl (rG [(3,3),(7,4),(14,25)]) 0 (show Rq 0 304 0 (sM 39 [(0,.sl 1 true [[int a],[int b],[int c],[int d]]),(1,.sl 1 true [[int a'],[int b'],[int c'],[int d']]),(2,iL 121),(6,int 0),(11,.sl 1 true [[int a],[int b],[int c],[int d]]),(12,int ↑(length [[int a],[int b],[int c],[int d]])),(13,int 0)] []) (bF.exit 0) (sM 39 [(0,.sl 1 true [[int a],[int b],[int c],[int d]]),(1,.sl 1 true [[int a'],[int b'],[int c'],[int d']]),(6,int (wP a b c d a' b' c' d'))] [])from(by have h0:=hL;simp only[yL c1]at h0;exact h0)),kY]
 .have h:=h.2 c1;exact aA (aF.int_eq h) [kl (rG [(3,3),(7,4),(14,25)]) 0 (show Rq 0 304 0 (sM 39 [(0,.sl 1 true [[int a],[int b],[int c],[int d]]),(1,.sl 1 true [[int a'],[int b'],[int c'],[int d']]),(2,iL 121),(6,int 0),(11,.sl 1 true [[int a],[int b],[int c],[int d]]),(12,int ↑(length [[int a],[int b],[int c],[int d]])),(13,int 0)] []) bF.ret (sM 39 [(0,.sl 1 true [[int a],[int b],[int c],[int d]]),(1,.sl 1 true [[int a'],[int b'],[int c'],[int d']]),(6,int (wP a b c d a' b' c' d'))] [])from(by have h0:=hL;simp only[yK c1]at h0;exact h0))]
theorem aey(a b c d a' b' c' d':Int):Cq 304 [IZ a b c d,IZ a' b' c' d',.lit (.func (.func 121) #[] #[])] (int (wP a b c d a' b' c' d')):=akT a b c d a' b' c' d' _ (agy a b c d a' b' c' d') ⟨fun h=>h.symm,fun _=>rfl⟩
end Go.Sq
namespace Go.Proofs
open Go.Shelf Go.RowKit Go.Lib Go.Sort
def Tryz.RV:Go.Shelf.Ren:=⟨fun|6=>302|15=>300|14=>318|28=>316|29=>317|20=>324|21=>325|22=>326|23=>327|24=>328|25=>329|26=>330|27=>331|46=>333|47=>320|48=>321|49=>334|50=>335|57=>336|n=>n,fun|22=>60|24=>79|25=>349|3=>3|39=>178|0=>0|53=>273|55=>260|4=>4|46=>352|45=>351|50=>76|5=>5|9=>9|66=>359|70=>362|76=>369|77=>370|n=>n,fun|n=>n⟩
theorem Tryz.ae7:Go.Proofs.SlLaysF0.n6 Tryz.prog Tryz.RV where
 mixed:=zQ
 f6:=⟨"slices.SortFunc[[]chartroom/api.Cell,chartroom/api.Cell]",zD,Tryz.func302.trans (yJ some zQ)⟩
 f14:=⟨"slices.pdqsortCmpFunc[chartroom/api.Cell]",zD,Tryz.func318.trans (yJ some zQ)⟩
 f15:=Tryz.func300.trans (yJ some zQ)
 f20:=⟨"slices.insertionSortCmpFunc[chartroom/api.Cell]",zD,Tryz.func324.trans (yJ some zQ)⟩
 f21:=⟨"slices.heapSortCmpFunc[chartroom/api.Cell]",zD,Tryz.func325.trans (yJ some zQ)⟩
 f22:=⟨"slices.breakPatternsCmpFunc[chartroom/api.Cell]",zD,Tryz.func326.trans (yJ some zQ)⟩
 f23:=⟨"slices.choosePivotCmpFunc[chartroom/api.Cell]",zD,Tryz.func327.trans (yJ some zQ)⟩
 f24:=⟨"slices.reverseRangeCmpFunc[chartroom/api.Cell]",zD,Tryz.func328.trans (yJ some zQ)⟩
 f25:=⟨"slices.partialInsertionSortCmpFunc[chartroom/api.Cell]",zD,Tryz.func329.trans (yJ some zQ)⟩
 f26:=⟨"slices.partitionEqualCmpFunc[chartroom/api.Cell]",zD,Tryz.func330.trans (yJ some zQ)⟩
 f27:=⟨"slices.partitionCmpFunc[chartroom/api.Cell]",zD,Tryz.func331.trans (yJ some zQ)⟩
 f28:=Tryz.func316.trans (yJ some zQ)
 f29:=Tryz.func317.trans (yJ some zQ)
 f46:=⟨"slices.siftDownCmpFunc[chartroom/api.Cell]",zD,Tryz.func333.trans (yJ some zQ)⟩
 f47:=Tryz.func320.trans (yJ some zQ)
 f48:=Tryz.func321.trans (yJ some zQ)
 f49:=⟨"slices.medianAdjacentCmpFunc[chartroom/api.Cell]",zD,Tryz.func334.trans (yJ some zQ)⟩
 f50:=⟨"slices.medianCmpFunc[chartroom/api.Cell]",zD,Tryz.func335.trans (yJ some zQ)⟩
 f57:=⟨"slices.order2CmpFunc[chartroom/api.Cell]",zD,Tryz.func336.trans (yJ some zQ)⟩
 t0:=Tryz.underlying0
 a0:=Tryz.isAgg0
 z0:=Tryz.sizeOf0
 v0:=Tryz.zeroValue0
 t3:=Tryz.underlying3
 a3:=Tryz.isAgg3
 z3:=Tryz.sizeOf3
 v3:=Tryz.zeroValue3
 t4:=Tryz.underlying4
 a4:=Tryz.isAgg4
 z4:=Tryz.sizeOf4
 v4:=Tryz.zeroValue4
 t5:=Tryz.underlying5
 a5:=Tryz.isAgg5
 z5:=Tryz.sizeOf5
 v5:=Tryz.zeroValue5
 t9:=Tryz.underlying9
 a9:=Tryz.isAgg9
 z9:=Tryz.sizeOf9
 v9:=Tryz.zeroValue9
 t22:=Tryz.underlying60
 a22:=Tryz.isAgg60
 z22:=Tryz.sizeOf60
 v22:=Tryz.zeroValue60
 t25:=Tryz.underlying349
 a25:=Tryz.isAgg349
 z25:=Tryz.sizeOf349
 v25:=Tryz.zeroValue349
 t39:=Tryz.underlying178
 a39:=Tryz.isAgg178
 z39:=Tryz.sizeOf178
 v39:=Tryz.zeroValue178
 t45:=Tryz.underlying351
 a45:=Tryz.isAgg351
 z45:=Tryz.sizeOf351
 v45:=Tryz.zeroValue351
 t46:=Tryz.underlying352
 a46:=Tryz.isAgg352
 z46:=Tryz.sizeOf352
 v46:=Tryz.zeroValue352
 t50:=Tryz.underlying76
 a50:=Tryz.isAgg76
 z50:=Tryz.sizeOf76
 v50:=Tryz.zeroValue76
 t53:=Tryz.underlying273
 a53:=Tryz.isAgg273
 z53:=Tryz.sizeOf273
 v53:=Tryz.zeroValue273
 t55:=Tryz.underlying260
 a55:=Tryz.isAgg260
 z55:=Tryz.sizeOf260
 v55:=Tryz.zeroValue260
 t66:=Tryz.underlying359
 a66:=Tryz.isAgg359
 z66:=Tryz.sizeOf359
 v66:=Tryz.zeroValue359
 t70:=Tryz.underlying362
 a70:=Tryz.isAgg362
 z70:=Tryz.sizeOf362
 v70:=Tryz.zeroValue362
 t76:=Tryz.underlying369
 a76:=Tryz.isAgg369
 z76:=Tryz.sizeOf369
 v76:=Tryz.zeroValue369
 t77:=Tryz.underlying370
 a77:=Tryz.isAgg370
 z77:=Tryz.sizeOf370
 v77:=Tryz.zeroValue370
end Go.Proofs
namespace Go.Sq
open Go Go.Am Go.Proofs Go.eY
def qd(c:CE):List Value:=[.int .i64 c.dv,.int .i64 c.sq,.int .i64 c.gU,.int .i64 c.ad,.int .i64 c.j6,.int .i64 c.aa,.int .i64 c.tm,.string c.vl,.bool c.gn]
theorem Ta V(c:CE):dI V (nP c) (.agg (qd c).toArray):=.agg (aQ c) (qd c) rfl fun j hj=>by
 have:j<9:=hj
 match j,this with
 |0,_=>exact .pure _ _ (.lit _)
 |1,_=>exact .pure _ _ (.lit _)
 |2,_=>exact .pure _ _ (.lit _)
 |3,_=>exact .pure _ _ (.lit _)
 |4,_=>exact .pure _ _ (.lit _)
 |5,_=>exact .pure _ _ (.lit _)
 |6,_=>exact .pure _ _ (.lit _)
 |7,_=>exact .pure _ _ (.lit _)
 |8,_=>exact .pure _ _ (.lit _)
def Bj:Code->Array Oper
 |.region _ o _=>o
 |_=>#[]
def iy:Array Oper:=Bj (Code.hd (Code.tl (oW P 303)))
def I4(ops:Array Oper):List (List Nat):=ops.toList.map fun o=>((o.after.toList.filter (Region.binds .any)).map (·.on)).eraseDups
theorem ZN:I4 iy=[[],[],[0,1],[],[],[3,4,2],[],[],[6,2,5,0,1,7],[7,5,8,0,1,2,3,4,6]]:=zQ
theorem RX{ops}{listed}{i}(h:i∈Region.ready .any ops listed):listed.getD i true=false/\i<ops.size/\∀j∈(I4 ops).getD i [],listed.getD j false=true:=by
 obtain⟨h1,o,ho,h2⟩:=mem_ready.1 h;have bg:=(Array.getElem?_eq_some_iff.1 ho).1;refine⟨h1,bg,fun j hj=>?_⟩;unfold I4 at hj;rw[yB,getElem?_map]at hj;have:ops.toList[i]?=some o:=by simpa using ho
 rw[this]at hj;simp only[Option.map_some,Option.getD_some,mem_eraseDups,yG]at hj;grind
def sv(c:CE):List AV:=[int c.tm,int c.dv,int c.sq,int c.gU]
def z4:ah:=.box [int 0,int 0,int 0,int 0]
def bx(l:Bool)(c:CE):ah:=if l=true then .box (sv c)else z4
def GN:AV:=.lit undef
def fU(x y:CE)(e6 e7 e8 e9 qO oU oV qP:AV):List AV:=[nP x,nP y,.iG [gP 287],.ptr 0 0,.ptr 1 0,int 0,e6,e7,e8,e9,qO,oU,oV,qP,GN,GN,GN,GN]
structure J41(x y:CE)(listed:Array Bool)(aL:List AV)(H:List ah):Prop where
 ex:∃l0 l1 l2 l3 l4 l5 l6 l7 l8 l9 e6 e7 e8 e9 qO oU oV qP T,listed=#[l0,l1,l2,l3,l4,l5,l6,l7,l8,l9]/\aL=fU x y e6 e7 e8 e9 qO oU oV qP/\H = .box (aQ x) :: .box (aQ y)::T /\
  (l0=true->e8=gP 287)/\(l1=true->e9=nP x)/\(l2=true->qO = .agg (sv x))/\(l3=true->oU=gP 287)/\(l4=true->oV=nP y)/\(l5=true->qP = .agg (sv y))/\(l6=false\/l7=false->l8=false)/\(l8=false->l9=false) /\
  ((l6=false/\l7=false/\T=[])\/(l6=true/\l7=false/\e6 = .ptr 2 0/\T=[z4])\/(l6=false/\l7=true/\e7 = .ptr 2 0/\T=[z4]) \/
    (l6=true/\l7=true/\((e6 = .ptr 2 0/\e7 = .ptr 3 0/\T=[bx l8 x,bx l9 y])\/(e6 = .ptr 3 0/\e7 = .ptr 2 0/\T=[bx l9 y,bx l8 x]))))
def jP(i:Nat):Oper:=iy.toList.getD i default
theorem agz(x y:CE):∀listed aL H,J41 x y listed aL H->∀i∈Region.ready .any iy listed,∃o bf k z H' aT ps,iy[i]?=some o/\iP P G iy (iO iy i) aL H o bf=some (k,.ret z,H',aT,ps)/\gZ ps/\J41 x y (listed.setIfInBounds i true) (gX aL o.dst z) H':=by
 intro listed aL H hJ i hi;obtain⟨h1,h2,h3⟩:=RX hi;rw[ZN]at h3;obtain⟨l0,l1,l2,l3,l4,l5,l6,l7,l8,l9,e6,e7,e8,e9,qO,oU,oV,qP,T,rfl,rfl,rfl,k0,k1,k2,k3,k4,k5,kb,kc,kT⟩:=hJ.ex;have iZ:iy.size=10:=zQ
 have an2:i<10:=zO
 have hcx:=Ue x;have hcy:=Ue y;have b8:=kb;have b9:=kc
 match i,an2 with
 |0,_ =>
  exact⟨jP 0,[],.free,gP 287,_,[],[],zQ,(by kernel_rfl:iP P G iy (iO iy 0) (fU x y e6 e7 e8 e9 qO oU oV qP) (.box (aQ x) :: .box (aQ y)::T) (jP 0) []=some (.free,.ret (gP 287),(.box (aQ x) :: .box (aQ y)::T),[],[])),yO,⟨_,_,_,_,_,_,_,_,_,_,e6,e7,gP 287,e9,qO,oU,oV,qP,T,rfl,(by kernel_rfl:gX (fU x y e6 e7 e8 e9 qO oU oV qP) (jP 0).dst (gP 287)=(fU x y e6 e7 (gP 287) e9 qO oU oV qP)),rfl,fun _=>rfl,k1,k2,k3,k4,k5,kb,kc,kT⟩⟩
 |1,_ =>
  exact⟨jP 1,[],.read,nP x,_,[],[],zQ,(by kernel_rfl:iP P G iy (iO iy 1) (fU x y e6 e7 e8 e9 qO oU oV qP) (.box (aQ x) :: .box (aQ y)::T) (jP 1) []=some (.read,.ret (nP x),(.box (aQ x) :: .box (aQ y)::T),[],[])),yO,⟨_,_,_,_,_,_,_,_,_,_,e6,e7,e8,nP x,qO,oU,oV,qP,T,rfl,(by kernel_rfl:gX (fU x y e6 e7 e8 e9 qO oU oV qP) (jP 1).dst (nP x)=(fU x y e6 e7 e8 (nP x) qO oU oV qP)),rfl,k0,fun _=>rfl,k2,k3,k4,k5,kb,kc,kT⟩⟩
 |2,_ =>
  obtain rfl:=k0 (h3 0 zD);obtain rfl:=k1 (h3 1 zD);exact⟨jP 2,[.call [] (.ret (.agg (sv x))) []],.free,.agg (sv x),_,[],[Cq 287 [nP x] (.agg (sv x))],zQ,(by kernel_rfl:iP P G iy (iO iy 2) (fU x y e6 e7 (gP 287) (nP x) qO oU oV qP) (.box (aQ x) :: .box (aQ y)::T) (jP 2) [.call [] (.ret (.agg (sv x))) []]=some (.free,.ret (.agg (sv x)),(.box (aQ x) :: .box (aQ y)::T),[],[Cq 287 [nP x] (.agg (sv x))])),⟨hcx,yO⟩,⟨_,_,_,_,_,_,_,_,_,_,e6,e7,(gP 287),(nP x),(.agg (sv x)),oU,oV,qP,T,rfl,(by kernel_rfl:gX (fU x y e6 e7 (gP 287) (nP x) qO oU oV qP) (jP 2).dst (.agg (sv x))=(fU x y e6 e7 (gP 287) (nP x) (.agg (sv x)) oU oV qP)),rfl,fun _=>rfl,fun _=>rfl,fun _=>rfl,k3,k4,k5,kb,kc,kT⟩⟩
 |3,_ =>
  exact⟨jP 3,[],.free,gP 287,_,[],[],zQ,(by kernel_rfl:iP P G iy (iO iy 3) (fU x y e6 e7 e8 e9 qO oU oV qP) (.box (aQ x) :: .box (aQ y)::T) (jP 3) []=some (.free,.ret (gP 287),(.box (aQ x) :: .box (aQ y)::T),[],[])),yO,⟨_,_,_,_,_,_,_,_,_,_,e6,e7,e8,e9,qO,gP 287,oV,qP,T,rfl,(by kernel_rfl:gX (fU x y e6 e7 e8 e9 qO oU oV qP) (jP 3).dst (gP 287)=(fU x y e6 e7 e8 e9 qO (gP 287) oV qP)),rfl,k0,k1,k2,fun _=>rfl,k4,k5,kb,kc,kT⟩⟩
 |4,_ =>
  exact⟨jP 4,[],.read,nP y,_,[],[],zQ,(by kernel_rfl:iP P G iy (iO iy 4) (fU x y e6 e7 e8 e9 qO oU oV qP) (.box (aQ x) :: .box (aQ y)::T) (jP 4) []=some (.read,.ret (nP y),(.box (aQ x) :: .box (aQ y)::T),[],[])),yO,⟨_,_,_,_,_,_,_,_,_,_,e6,e7,e8,e9,qO,oU,nP y,qP,T,rfl,(by kernel_rfl:gX (fU x y e6 e7 e8 e9 qO oU oV qP) (jP 4).dst (nP y)=(fU x y e6 e7 e8 e9 qO oU (nP y) qP)),rfl,k0,k1,k2,k3,fun _=>rfl,k5,kb,kc,kT⟩⟩
 |5,_ =>
  obtain rfl:=k3 (h3 3 zD);obtain rfl:=k4 (h3 4 zD);exact⟨jP 5,[.call [] (.ret (.agg (sv y))) []],.free,.agg (sv y),_,[],[Cq 287 [nP y] (.agg (sv y))],zQ,(by kernel_rfl:iP P G iy (iO iy 5) (fU x y e6 e7 e8 e9 qO (gP 287) (nP y) qP) (.box (aQ x) :: .box (aQ y)::T) (jP 5) [.call [] (.ret (.agg (sv y))) []]=some (.free,.ret (.agg (sv y)),(.box (aQ x) :: .box (aQ y)::T),[],[Cq 287 [nP y] (.agg (sv y))])),⟨hcy,yO⟩,⟨_,_,_,_,_,_,_,_,_,_,e6,e7,e8,e9,qO,(gP 287),(nP y),(.agg (sv y)),T,rfl,(by kernel_rfl:gX (fU x y e6 e7 e8 e9 qO (gP 287) (nP y) qP) (jP 5).dst (.agg (sv y))=(fU x y e6 e7 e8 e9 qO (gP 287) (nP y) (.agg (sv y)))),rfl,k0,k1,k2,fun _=>rfl,fun _=>rfl,fun _=>rfl,kb,kc,kT⟩⟩
 |6,_ =>
  have hf:=h1;subst hf;rcases kT with⟨_,q,rfl⟩|⟨p,q,r,rfl⟩|⟨p,q,r,rfl⟩|⟨p,q,_⟩
  .exact ⟨jP 6,[],.lK,.ptr 2 0,_,[],[],zQ,(by kernel_rfl:iP P G iy (iO iy 6) (fU x y e6 e7 e8 e9 qO oU oV qP) [.box (aQ x),.box (aQ y)] (jP 6) []=some (.lK,.ret (.ptr 2 0),[.box (aQ x),.box (aQ y),z4],[],[])),yO,⟨_,_,_,_,_,_,_,_,_,_,(.ptr 2 0),e7,e8,e9,qO,oU,oV,qP,_,rfl,(by kernel_rfl:gX (fU x y e6 e7 e8 e9 qO oU oV qP) (jP 6).dst (.ptr 2 0)=(fU x y (.ptr 2 0) e7 e8 e9 qO oU oV qP)),rfl,k0,k1,k2,k3,k4,k5,fun _=>b8 (.inl rfl),b9,.inr (.inl ⟨rfl,q,rfl,rfl⟩)⟩⟩
  .cases p
  .subst r q;have e8:=b8 (.inl rfl);have e9:=b9 e8;subst e8 e9;exact⟨jP 6,[],.lK,.ptr 3 0,_,[],[],zQ,(by kernel_rfl:iP P G iy (iO iy 6) (fU x y e6 (.ptr 2 0) e8 e9 qO oU oV qP) [.box (aQ x),.box (aQ y),z4] (jP 6) []=some (.lK,.ret (.ptr 3 0),[.box (aQ x),.box (aQ y),z4,z4],[],[])),yO,⟨_,_,_,_,_,_,_,_,_,_,(.ptr 3 0),(.ptr 2 0),e8,e9,qO,oU,oV,qP,_,rfl,(by kernel_rfl:gX (fU x y e6 (.ptr 2 0) e8 e9 qO oU oV qP) (jP 6).dst (.ptr 3 0)=(fU x y (.ptr 3 0) (.ptr 2 0) e8 e9 qO oU oV qP)),rfl,k0,k1,k2,k3,k4,k5,fun _=>rfl,fun _=>rfl,.inr (.inr (.inr ⟨rfl,rfl,.inr ⟨rfl,rfl,rfl⟩⟩))⟩⟩
  .cases p
 |7,_ =>
  have hf:=h1;subst hf;rcases kT with⟨_,q,rfl⟩|⟨p,q,r,rfl⟩|⟨p,q,r,rfl⟩|⟨p,q,_⟩
  .exact ⟨jP 7,[],.lK,.ptr 2 0,_,[],[],zQ,(by kernel_rfl:iP P G iy (iO iy 7) (fU x y e6 e7 e8 e9 qO oU oV qP) [.box (aQ x),.box (aQ y)] (jP 7) []=some (.lK,.ret (.ptr 2 0),[.box (aQ x),.box (aQ y),z4],[],[])),yO,⟨_,_,_,_,_,_,_,_,_,_,e6,(.ptr 2 0),e8,e9,qO,oU,oV,qP,_,rfl,(by kernel_rfl:gX (fU x y e6 e7 e8 e9 qO oU oV qP) (jP 7).dst (.ptr 2 0)=(fU x y e6 (.ptr 2 0) e8 e9 qO oU oV qP)),rfl,k0,k1,k2,k3,k4,k5,fun _=>b8 (.inr rfl),b9,.inr (.inr (.inl ⟨by assumption,rfl,rfl,rfl⟩))⟩⟩
  .subst r p;have e8:=b8 (.inr rfl);have e9:=b9 e8;subst e8 e9;exact⟨jP 7,[],.lK,.ptr 3 0,_,[],[],zQ,(by kernel_rfl:iP P G iy (iO iy 7) (fU x y (.ptr 2 0) e7 e8 e9 qO oU oV qP) [.box (aQ x),.box (aQ y),z4] (jP 7) []=some (.lK,.ret (.ptr 3 0),[.box (aQ x),.box (aQ y),z4,z4],[],[])),yO,⟨_,_,_,_,_,_,_,_,_,_,(.ptr 2 0),(.ptr 3 0),e8,e9,qO,oU,oV,qP,_,rfl,(by kernel_rfl:gX (fU x y (.ptr 2 0) e7 e8 e9 qO oU oV qP) (jP 7).dst (.ptr 3 0)=(fU x y (.ptr 2 0) (.ptr 3 0) e8 e9 qO oU oV qP)),rfl,k0,k1,k2,k3,k4,k5,fun _=>rfl,fun _=>rfl,.inr (.inr (.inr ⟨rfl,rfl,.inl ⟨rfl,rfl,rfl⟩⟩))⟩⟩
  .cases q
  .cases q
 |8,_ =>
  have hf:=h1;subst hf;have t6:=h3 6 zD;have t7:=h3 7 zD;obtain rfl:=k2 (h3 2 zD);subst t6 t7;rcases kT with⟨p,_⟩|⟨_,q,_⟩|⟨p,_⟩|⟨_,_,⟨rfl,rfl,rfl⟩|⟨rfl,rfl,rfl⟩⟩
  .cases p
  .cases q
  .cases p
  .exact ⟨jP 8,[],.lK,GN,_,[],[],zQ,(by kernel_rfl:iP P G iy (iO iy 8) (fU x y (.ptr 2 0) (.ptr 3 0) e8 e9 (.agg (sv x)) oU oV qP) [.box (aQ x),.box (aQ y),bx false x,bx l9 y] (jP 8) []=some (.lK,.ret GN,[.box (aQ x),.box (aQ y),bx true x,bx l9 y],[],[])),yO,⟨_,_,_,_,_,_,_,_,_,_,(.ptr 2 0),(.ptr 3 0),e8,e9,(.agg (sv x)),oU,oV,qP,_,rfl,(by kernel_rfl:gX (fU x y (.ptr 2 0) (.ptr 3 0) e8 e9 (.agg (sv x)) oU oV qP) (jP 8).dst GN=(fU x y (.ptr 2 0) (.ptr 3 0) e8 e9 (.agg (sv x)) oU oV qP)),rfl,k0,k1,fun _=>rfl,k3,k4,k5,fun h=>(by rcases h with h|h<;>cases h),nofun,.inr (.inr (.inr ⟨rfl,rfl,.inl ⟨rfl,rfl,rfl⟩⟩))⟩⟩
  .exact ⟨jP 8,[],.lK,GN,_,[],[],zQ,(by kernel_rfl:iP P G iy (iO iy 8) (fU x y (.ptr 3 0) (.ptr 2 0) e8 e9 (.agg (sv x)) oU oV qP) [.box (aQ x),.box (aQ y),bx l9 y,bx false x] (jP 8) []=some (.lK,.ret GN,[.box (aQ x),.box (aQ y),bx l9 y,bx true x],[],[])),yO,⟨_,_,_,_,_,_,_,_,_,_,(.ptr 3 0),(.ptr 2 0),e8,e9,(.agg (sv x)),oU,oV,qP,_,rfl,(by kernel_rfl:gX (fU x y (.ptr 3 0) (.ptr 2 0) e8 e9 (.agg (sv x)) oU oV qP) (jP 8).dst GN=(fU x y (.ptr 3 0) (.ptr 2 0) e8 e9 (.agg (sv x)) oU oV qP)),rfl,k0,k1,fun _=>rfl,k3,k4,k5,fun h=>(by rcases h with h|h<;>cases h),nofun,.inr (.inr (.inr ⟨rfl,rfl,.inr ⟨rfl,rfl,rfl⟩⟩))⟩⟩
 |9,_ =>
  have hf:=h1;subst hf;have t6:=h3 6 zD;have t7:=h3 7 zD;obtain rfl:=k5 (h3 5 zD);subst t6 t7;have t8:=h3 8 zD;subst t8;rcases kT with⟨p,_⟩|⟨_,q,_⟩|⟨p,_⟩|⟨_,_,⟨rfl,rfl,rfl⟩|⟨rfl,rfl,rfl⟩⟩
  .cases p
  .cases q
  .cases p
  .exact ⟨jP 9,[],.lK,GN,_,[],[],zQ,(by kernel_rfl:iP P G iy (iO iy 9) (fU x y (.ptr 2 0) (.ptr 3 0) e8 e9 qO oU oV (.agg (sv y))) [.box (aQ x),.box (aQ y),bx true x,bx false y] (jP 9) []=some (.lK,.ret GN,[.box (aQ x),.box (aQ y),bx true x,bx true y],[],[])),yO,⟨_,_,_,_,_,_,_,_,_,_,(.ptr 2 0),(.ptr 3 0),e8,e9,qO,oU,oV,(.agg (sv y)),_,rfl,(by kernel_rfl:gX (fU x y (.ptr 2 0) (.ptr 3 0) e8 e9 qO oU oV (.agg (sv y))) (jP 9).dst GN=(fU x y (.ptr 2 0) (.ptr 3 0) e8 e9 qO oU oV (.agg (sv y)))),rfl,k0,k1,k2,k3,k4,fun _=>rfl,kb,nofun,.inr (.inr (.inr ⟨rfl,rfl,.inl ⟨rfl,rfl,rfl⟩⟩))⟩⟩
  .exact ⟨jP 9,[],.lK,GN,_,[],[],zQ,(by kernel_rfl:iP P G iy (iO iy 9) (fU x y (.ptr 3 0) (.ptr 2 0) e8 e9 qO oU oV (.agg (sv y))) [.box (aQ x),.box (aQ y),bx false y,bx true x] (jP 9) []=some (.lK,.ret GN,[.box (aQ x),.box (aQ y),bx true y,bx true x],[],[])),yO,⟨_,_,_,_,_,_,_,_,_,_,(.ptr 3 0),(.ptr 2 0),e8,e9,qO,oU,oV,(.agg (sv y)),_,rfl,(by kernel_rfl:gX (fU x y (.ptr 3 0) (.ptr 2 0) e8 e9 qO oU oV (.agg (sv y))) (jP 9).dst GN=(fU x y (.ptr 3 0) (.ptr 2 0) e8 e9 qO oU oV (.agg (sv y)))),rfl,k0,k1,k2,k3,k4,fun _=>rfl,kb,nofun,.inr (.inr (.inr ⟨rfl,rfl,.inr ⟨rfl,rfl,rfl⟩⟩))⟩⟩
 |n+10,h=>omega
theorem RY{ops}{listed}(hr:Region.ready .any ops listed=[])(iZ:listed.size=ops.size){i}(hi:i<ops.size)(h:∀j∈(I4 ops).getD i [],listed.getD j false=true):listed.getD i true=true:=by
 cases hl:listed.getD i true with
 |true=>rfl
 |false =>
  have:i∈Region.ready .any ops listed:=mem_ready.2 ⟨hl,ops[i],by simp[hi],fun e he hb=>by
   refine h e.on ?_;unfold I4;rw[yB,getElem?_map];have:ops.toList[i]?=some ops[i]:=by simp[hi]
   rw[this];simp only[Option.map_some,Option.getD_some,mem_eraseDups,yG];grind⟩
  grind
def ZO(x y:CE)(p q:AV):List AV:=fU x y p q (gP 287) (nP x) (.agg (sv x)) (gP 287) (nP y) (.agg (sv y))
def aez(x y:CE)(aL:List AV)(H:List ah):Prop :=
 (aL=ZO x y (.ptr 2 0) (.ptr 3 0)/\H=[.box (aQ x),.box (aQ y),.box (sv x),.box (sv y)])\/(aL=ZO x y (.ptr 3 0) (.ptr 2 0)/\H=[.box (aQ x),.box (aQ y),.box (sv y),.box (sv x)])
theorem akU x y:∀listed aL H,J41 x y listed aL H->Region.ready .any iy listed=[]->aez x y aL H:=by
 intro listed aL H hJ hr;obtain⟨l0,l1,l2,l3,l4,l5,l6,l7,l8,l9,e6,e7,e8,e9,qO,oU,oV,qP,T,rfl,rfl,rfl,k0,k1,k2,k3,k4,k5,kb,kc,kT⟩:=hJ.ex;have iZ:iy.size=10:=zQ
 have key:=fun(i:Nat)(hi:i<10)=>RY (i:=i) hr (by rw[iZ];rfl) (by rw[iZ];exact hi);rw[ZN]at key;obtain rfl:l0=true:=key 0 zD (fun j hj=>by cases hj);obtain rfl:l1=true:=key 1 zD (fun j hj=>by cases hj);obtain rfl:l3=true:=key 3 zD (fun j hj=>by cases hj);obtain rfl:l4=true:=key 4 zD (fun j hj=>by cases hj);obtain rfl:l6=true:=key 6 zD (fun j hj=>by cases hj);obtain rfl:l7=true:=key 7 zD (fun j hj=>by cases hj);obtain rfl:l2=true:=key 2 zD (fun j hj=>by
  have:j=0\/j=1:=by simpa using hj
  rcases this with rfl|rfl<;>rfl)
 obtain rfl:l5=true:=key 5 zD (fun j hj=>by
  have:j=3\/j=4\/j=2:=by simpa using hj
  rcases this with rfl|rfl|rfl<;>rfl)
 obtain rfl:l8=true:=key 8 zD (fun j hj=>by
  have:j=6\/j=2\/j=5\/j=0\/j=1\/j=7:=by simpa using hj
  rcases this with rfl|rfl|rfl|rfl|rfl|rfl<;>rfl)
 obtain rfl:l9=true:=key 9 zD (fun j hj=>by
  have:j=7\/j=5\/j=8\/j=0\/j=1\/j=2\/j=3\/j=4\/j=6:=by simpa using hj
  rcases this with rfl|rfl|rfl|rfl|rfl|rfl|rfl|rfl|rfl<;>rfl)
 obtain rfl:=k0 rfl;obtain rfl:=k1 rfl;obtain rfl:=k2 rfl;obtain rfl:=k3 rfl;obtain rfl:=k4 rfl;obtain rfl:=k5 rfl;rcases kT with⟨p,_⟩|⟨_,q,_⟩|⟨p,_⟩|⟨_,_,⟨rfl,rfl,rfl⟩|⟨rfl,rfl,rfl⟩⟩
 .cases p
 .cases q
 .cases p
 .exact .inl ⟨rfl,rfl⟩
 .exact .inr ⟨rfl,rfl⟩
def acL:Func:=(P.funcs[303]?).getD default
def akV:Code:=Code.tl (Code.tl (oW P 303))
def akW(x y:CE):St:={ aL:=fU x y GN GN GN GN GN GN GN GN,H:=[.box (aQ x),.box (aQ y)] }
theorem an3(x y:CE):bn P G none 0 (Code.hd (oW P 303)) { aL:=[nP x,nP y,.iG [gP 287]]++replicate (acL.ntmps-3) (.lit undef),H:=[] } (akW x y):=bM [] [] 2 zQ
def cfD(x y:CE):Int:=IntKind.i64.wrap (0-wP x.tm x.dv x.sq x.gU y.tm y.dv y.sq y.gU)
theorem ZP x y(p q:AV)H(h:(p = .ptr 2 0/\q = .ptr 3 0/\H=[.box (aQ x),.box (aQ y),.box (sv x),.box (sv y)])\/(p = .ptr 3 0/\q = .ptr 2 0/\H=[.box (aQ x),.box (aQ y),.box (sv y),.box (sv x)])) :
 y7 P G 0 acL akV ⟨ZO x y p q,H,[]⟩ (mZ [kc [] (aey x.tm x.dv x.sq x.gU y.tm y.dv y.sq y.gU)])=some (.ret (int (cfD x y)),[],jS [kc [] (aey x.tm x.dv x.sq x.gU y.tm y.dv y.sq y.gU)]):=by
 rcases h with⟨rfl,rfl,rfl⟩|⟨rfl,rfl,rfl⟩
 .kernel_rfl
 .kernel_rfl
theorem ae6(x y:CE):Cq 303 [nP x,nP y,.iG [gP 287]] (int (cfD x y)):=by
 have wN:P.funcs[303]?=some acL:=zQ
 have hb:acL.body=some (.seq (Code.hd (oW P 303)) (.seq (.region 1 iy true) akV)):=zQ
 refine EB wN hb fun V a hH hG dK=>?_;have h0:V.H.length=0:=by rw[hH];rfl
 refine bn.seq (an3 x y) h0 (Step.refl V) hG dK fun V1 a1 s1 g1 k1=>?_;refine Go.wpIn_seq (Ke (J41 x y) (aez x y) (agz x y) (akU x y) (s:=akW x y) ?_ zQ g1 k1 fun V2 a2 Vw H2 s2 g2 k2 f2=>?_)
 .exact ⟨_,_,_,_,_,_,_,_,_,_,_,_,_,_,_,_,_,_,[],(by kernel_rfl:Array.replicate iy.size false=#[false,false,false,false,false,false,false,false,false,false]),rfl,rfl,fun h=>(by cases h),fun h=>(by cases h),fun h=>(by cases h),fun h=>(by cases h),fun h=>(by cases h),fun h=>(by cases h),fun _=>rfl,fun _=>rfl,.inl ⟨rfl,rfl,rfl⟩⟩
 .rcases f2 with⟨rfl,rfl⟩|⟨rfl,rfl⟩
  .exact mJ _ (ZP x y _ _ _ (.inl ⟨rfl,rfl,rfl⟩)) h0 (s1.trans s2) g2 k2
  .exact mJ _ (ZP x y _ _ _ (.inr ⟨rfl,rfl,rfl⟩)) h0 (s1.trans s2) g2 k2
open Go.Lib Go.Sort
theorem pR(W:World)(sb:Nat)(fB:W.cell? ⟨sb,0,none⟩=some (.func (.func 287) #[] #[])):dI (nA W) (.iG [gP 287]) (.pointer (some ⟨sb,0,none⟩)) :=
 .pure _ _ (.iG [gP 287] ⟨sb,0,none⟩ (fun _=>.func (.func 287) #[] #[]) rfl (fun _ h=>h) (fun j hj=>by
  have:j=0:=by have:j<1:=hj;omega
  subst this;exact fB) (fun j hj=>by
  have:j=0:=by have:j<1:=hj;omega
  subst this;exact .lit _))
theorem QI(x y:CE)(sb:Nat)(W:World)(fB:W.cell? ⟨sb,0,none⟩=some (.func (.func 287) #[] #[])):Calls Tryz.prog 303 #[.agg (qd x).toArray,.agg (qd y).toArray,.pointer (some ⟨sb,0,none⟩)] W fun e w'=>e = .returned (.int .i64 (cfD x y))/\∃q UU,w'=Sort.grow (W.drewN q) UU :=
 (Hl (ae6 x y) (fun g cs h=>by cases h) (.cons (Ta _ x) (.cons (Ta _ y) (.cons (pR W sb fB) .nil)))).mono fun e w' ⟨v,q,UU,he,⟨V',_,hr⟩,hw⟩=>by
  have:v = .int .i64 (cfD x y):=fC rfl hr;subst this;exact⟨he,q,UU,hw⟩
theorem abF a b c d a' b' c' d':wP a b c d a' b' c' d' = -1\/wP a b c d a' b' c' d'=0\/wP a b c d a' b' c' d'=1:=by grind[wP,lW]
theorem Tc x y:ltOf cfD x y=Kn x y:=by
 unfold ltOf cfD;have h1:=abF x.tm x.dv x.sq x.gU y.tm y.dv y.sq y.gU;have h2:wP x.tm x.dv x.sq x.gU y.tm y.dv y.sq y.gU=1↔Kn x y=true:=by grind[Hq,wP,lW]
 rw[Bool.eq_iff_iff,<- h2];rcases h1 with h|h|h<;>rw[h]<;>decide
theorem swo:SWO (ltOf cfD) where
 irrefl x:=by rw[Tc];exact vQ x
 trans x y z:=by simp only[Tc];exact gt_trans
 ntrans x y z:=by
  simp only[Tc,Bool.eq_false_iff,ne_eq,Hq];omega
instance:Inhabited CE:=⟨⟨0,0,0,0,0,0,0,y28,false⟩⟩
structure JR(w:World)(v:Value)(b:Nat)(l:List CE)(cap:Nat)(c:Array Value)(t:TypeId):Prop where
 val:v = .slice (some ⟨b,0,none⟩) l.length cap
 mo:w.heap[b]?=some (.cells c t (0,0))
 le:l.length<=cap
 max:cap<=maxLen
 size:cap*9=c.size
 cell:∀k x j,l[k]?=some x->j<9->c[k*9+j]?=some ((qd x).getD j undef)
theorem Hr x:(qd x).length=9:=rfl
theorem Ht x:∀v∈qd x,v.oneCell'=true:=by
 intro v hv;simp only[qd,yH,y12,or_false]at hv;rcases hv with h|h|h|h|h|h|h|h|h<;>subst h<;>rfl
theorem JR.holds{w}{v}{b cap}{l}{c}{t}(h:JR w v b l cap c t):HoldsK qd 9 w b 0 l.toArray:=by
 intro j hj;rw[size_flatK]at hj;have hj9:j % 9<9:=Nat.mod_lt _ zD;have hk:j/9<l.length:=by grind
 have e:j/9*9+j % 9=j:=zO
 have hc:=h.cell (j/9) l[j/9] (j % 9) (yA hk) hj9;rw[e]at hc;have e2:(flatK qd 9 l.toArray)[j]! = (qd l[j/9]).getD (j % 9) undef:=by
  rw[get_flatK _ _ _ _ hj];have:l.toArray[j/9]! = l[j/9]:=by simp[hk]
  have hh:j % 9<(qd l[j/9]).length:=by exact hj9
  grind
 constructor
 .rw[e2];simp[World.cell?,h.mo,hc]
 .simp[World.frozen?,h.mo]
structure Ah(w:World)(b:Nat)(w':World):Prop where
 os:w'.os=w.os
 tape:w'.tape=w.tape
 output:w'.output=w.output
 size:w.heap.size<=w'.heap.size
 drawn:w.drawn<=w'.drawn
 keep:∀i,i<w.heap.size->i≠b->w'.heap[i]?=w.heap[i]?
theorem JU(aQ:Value->Value)(off:Nat)d c:(putCells aQ off d c).size=c.size:=by simp[putCells]
theorem Hu w(b n:Nat)(dk:Array CE)os:Ah w b (sortWorldK qd 9 w b 0 n dk os):=by
 refine⟨rfl,rfl,rfl,?_,by show w.drawn<=w.drawn+n;omega,fun i hi fF=>?_⟩
 .unfold sortWorldK;rw[size_grow,size_putRowK];simp
 .unfold sortWorldK;rw[heap_grow_old _ _ (by rw[size_putRowK];exact hi)];show(w.heap.modify b _)[i]?=_;grind
theorem JV{w}{v}{b cap}{l l'}{c}{t}(h:JR w v b l cap c t)(n:Nat)os(hl:l'.length=l.length):∃c',JR (sortWorldK qd 9 w b 0 n l'.toArray os) v b l' cap c' t:=by
 have hb:=(Array.getElem?_eq_some_iff.1 h.mo).1;refine⟨putCells id 0 (flatK qd 9 l'.toArray) c,by rw[hl];exact h.val,?_,by rw[hl];exact h.le,h.max,by rw[JU];exact h.size,fun k x j hk hj=>?_⟩
 .unfold sortWorldK;rw[heap_grow_old _ _ (by rw[size_putRowK];exact hb)];show(w.heap.modify b (onCells (putCells id 0 (flatK qd 9 l'.toArray))))[b]?=_;rw[Array.getElem?_modify,yL rfl,h.mo];rfl
 .have LB:=(yC.1 hk).1;have hx:=(yC.1 hk).2;have bg:k*9+j<l'.toArray.size*9:=by grind
  have jQ:k*9+j<c.size:=by
   have:=h.le;have:=h.size;omega
  rw[putCells,Array.getElem?_mapIdx,Array.getElem?_eq_getElem jQ];simp only[Option.map_some,Nat.zero_le,true_and,y09,size_flatK,Nat.sub_zero];rw[get_flatK _ _ _ _ bg,show(k*9+j)/9=k by omega];have:l'.toArray[k]! = x:=by simp[LB,hx]
  have hh:j<(qd x).length:=by exact hj
  grind
theorem QJ(w:World)(v:Value)(b sb cap:Nat)(l:List CE)(c:Array Value)(t:TypeId)(h:JR w v b l cap c t)(bL:l.length<=1000000)(fB:w.cell? ⟨sb,0,none⟩=some (.func (.func 287) #[] #[]))(fF:sb≠b) :
 Calls Tryz.prog 302 #[v,.func (.func 303) #[] #[.pointer (some ⟨sb,0,none⟩)]] w fun e w'=>e = .returned (.tuple #[])/\Ah w b w'/\∃l' c',l'.Perm l/\l'.Pairwise (fun x y=>Kn y x=false)/\JR w' v b l' cap c' t:=by
 have hb:b<w.heap.size:=(Array.getElem?_eq_some_iff.1 h.mo).1;have NS:sb<w.heap.size:=World.block_lt_of_cell? w _ fB;have eg:∀args w,(callFunc 303 args).run Tryz.prog w = .ok (.enter 303 args) w:=enters_of Tryz.func303 zQ rfl;have FY:CmpLays Tryz.prog 303 #[.pointer (some ⟨sb,0,none⟩)] qd 9 cfD b 0 l.toArray.size w:=fun m os dk _ x y =>
  QI x y sb _ (by
   unfold sortWorldK;rw[cell?_grow _ _ _ (by rw[size_putRowK];exact NS),cell?_putRowK_other _ _ _ _ _ _ _ fF];exact fB)
 have FZ:=AnyQ.slices_SortFunc Tryz.ae7 9 Tryz.isAgg79 Tryz.sizeOf79 qd Hr Ht cfD swo 303 #[.pointer (some ⟨sb,0,none⟩)] b 0 cap l.toArray w eg FY h.holds hb (by simp;omega);rw[h.val];have e1:l.toArray.size=l.length:=zS
 rw[e1]at FZ;refine FZ.mono ?_;rintro e w' ⟨rfl,d',n,os,⟨p1,_,p3⟩,hs,rfl⟩;have hd:d'.size=l.length:=by rw[p1,e1]
 have e2:d'.toList.toArray=d':=zS
 rw[Array.extract_eq_self_of_le zO,Array.extract_eq_self_of_le zO]at p3;refine⟨rfl,?_,d'.toList,?_⟩
 .exact Hu w b n d' os
 .have:=JV h n os (l':=d'.toList) (by simpa using hd);rw[e2]at this;obtain⟨c',hk⟩:=this;refine⟨c',by simpa using p3,?_,by rw[<- h.val];exact hk⟩;rw[pairwise_iff_getElem];intro i j hi hj wQ;have h1:i<d'.size:=by simpa using hi
  have h2:j<d'.size:=by simpa using hj
  have:=hs i j yN wQ zO;rw[Tc]at this;have g1:d'[i]! = d'[i]:=by simp[h1]
  have g2:d'[j]! = d'[j]:=by simp[h2]
  rw[g1,g2]at this;simpa using this
end Go.Sq
namespace Go.Sq
open Go Go.Am Go.Proofs Go.eY
theorem aia  (h:True):Cq 317 [.lit (Value.int IntKind.u64 0)] (int 0):=by
 exact aj [kY,kY,kY]
theorem aib  (h:True):Cq 300 [.lit (Value.int IntKind.u64 0)] (int 0):=by
 exact aj [kY,kc [] (@aia (trivial))]
theorem aic  (h:True):Rq 1 324 0 (sM 53 [(0,aK),(1,int 0),(2,int 0),(3,.fn (Fn.func 303) [] [.ptr 0 0]),(8,int 1)] [.box [gP 287]]) (bF.exit 0) (sM 53 [(0,aK)] [.box [gP 287]]):=by
 exact aG [kY] (aB 53 [0]) 1
theorem aie  (h:True):ak P G 324 [aK,int 0,int 0,.fn (Fn.func 303) [] [.ptr 0 0]] [ah.box [gP 287]] (aS.ret (AV.bq [])) [ah.box [gP 287]]:=by
 exact aj [kl (rG [(4,4),(9,44)]) 1 (@aic (trivial))]
theorem aif  (h:True):Rq 1 318 0 (sM 148 [(0,aK),(1,int 0),(2,int 0),(3,int 0),(4,.fn (Fn.func 303) [] [.ptr 0 0]),(10,Am.bool true),(11,Am.bool true)] [.box [gP 287]]) bF.ret (sM 148 [(0,aK)] [.box [gP 287]]):=by
 exact aG [kO,kc [0] (@aie (trivial))] (aB 148 [0]) 1
theorem aii  (h:True):ak P G 318 [aK,int 0,int 0,int 0,.fn (Fn.func 303) [] [.ptr 0 0]] [ah.box [gP 287]] (aS.ret (AV.bq [])) [ah.box [gP 287]]:=by
 exact aj [kl (rG [(5,5),(12,136)]) 1 (@aif (trivial))]
theorem aij  (h:True):ak P G 302 [aK,.fn (Fn.func 303) [] [.ptr 0 0]] [ah.box [gP 287]] (aS.ret (AV.bq [])) [ah.box [gP 287]]:=by
 exact aj [kc [] (@aib (trivial)),kc [0] (@aii (trivial))]
theorem Xt  (h:True):Cq 286 [aK,gP 287] (.bq []):=by
 exact aj [kc [0] (@aij (trivial))]
open Go.Lib Go.Sort
theorem JR.alloc{w}{v}{b cap}{l}{c}{t}(h:JR w v b l cap c t)o:JR (w.alloc o) v b l cap c t:=by
 have hb:=(Array.getElem?_eq_some_iff.1 h.mo).1;exact{ h with mo:=by rw[alloc_eq_grow,heap_grow_old _ _ hb];exact h.mo }
theorem Ah.alloc{w}{o}{b}{w'}(h:Ah (w.alloc o) b w'):Ah w b w' where
 os:=h.os
 tape:=h.tape
 output:=h.output
 size:=y07 (by rw[alloc_eq_grow,size_grow];omega) h.size
 drawn:=h.drawn
 keep i hi fF:=by
  rw[h.keep i (by rw[alloc_eq_grow,size_grow];omega) fF,alloc_eq_grow,heap_grow_old _ _ hi]
theorem QK(w:World)(v:Value)(b cap:Nat)(l:List CE)(c:Array Value)(t:TypeId)(h:JR w v b l cap c t)(bL:l.length<=1000000) :
 Calls Tryz.prog 286 #[v,.func (.func 287) #[] #[]] w fun e w'=>e = .returned (.tuple #[])/\Ah w b w'/\∃l' c',l'.Perm l/\l'.Pairwise (fun x y=>Kn y x=false)/\JR w' v b l' cap c' t:=by
 have hb:b<w.heap.size:=(Array.getElem?_eq_some_iff.1 h.mo).1;have h40:=QJ (w.alloc (.cells #[.func (.func 287) #[] #[]] 333)) v b w.heap.size cap l c t (h.alloc _) bL (by unfold World.cell? World.alloc;simp only[Array.getElem?_push_size];rfl) zO;rw[h.val]at h40 |-
 go_enter Tryz.func286,Tryz.ntmps286
 go_wp2_with (go_at_call 302;refine h40.mono ?_;rintro e w' ⟨rfl,k1,k2⟩)
 go_end0
 exact⟨rfl,k1.alloc,k2⟩
end Go.Sq
namespace Go.Sq
open Go Go.Am Go.Proofs Go.eY
def xL(a b c:Int):Value:=.agg #[.int .i64 a,.int .i64 b,.int .i64 c]
def fV(a b:Int):Value:=.agg #[.int .i64 a,.int .i64 b]
theorem laid:laidOutB P=true:=zQ
theorem qQ:Maps.Keyed P 31:=Maps.Keyed.of_law (deep_law_laid laid (m:=2) zD (Nat.le_of_ble_eq_true zQ) zQ zQ)
theorem lD:Maps.Keyed P 27:=Maps.Keyed.of_law (deep_law_laid laid (m:=2) zD (Nat.le_of_ble_eq_true zQ) zQ zQ)
def fO(n:Int):Prop := -9223372036854775808<=n/\n<9223372036854775808
theorem fO.wf{n}(h:fO n):(Lit.int .i64 n).wf=true:=by
 unfold fO at h;simp[Lit.wf,IntKind.min,IntKind.signed,IntKind.bits];omega
theorem uG d{n}(h:fO n):P.keyLits (d+1) 3 [.int .i64 n]=some [.int .i64 n]:=by
 simp[Program.keyLits,h.wf]
theorem sz1:∃n,P.types.size=n+1:=by
 have h:1<=P.types.size:=Nat.le_of_ble_eq_true zQ;simp
variable {a b c:Int}
theorem BD(ha:fO a)(hb:fO b)(hc:fO c):∃l,keyOf P 31 (xL a b c)=some l:=by
 have h1:(P.keyType 31&&(xL a b c).formed P 31)=true:=zQ
 have h2:P.keyLits (P.types.size+1) 31 (xL a b c).cells.toList=([P.keyLits P.types.size 3 [.int .i64 a],P.keyLits P.types.size 3 [.int .i64 b],P.keyLits P.types.size 3 [.int .i64 c]].mapM id).map flatten:=zQ
 obtain⟨n,hn⟩:=sz1;refine⟨.string (keyBytes [.int .i64 a,.int .i64 b,.int .i64 c]),?_⟩;unfold keyOf;rw[Tryz.underlying31];show(if(P.keyType 31&&(xL a b c).formed P 31)=true then _ else none)=_;rw[yL h1,h2,hn,uG n ha,uG n hb,uG n hc];rfl
theorem uy(ha:fO a)(hb:fO b):∃l,keyOf P 27 (fV a b)=some l:=by
 have h1:(P.keyType 27&&(fV a b).formed P 27)=true:=zQ
 have h2:P.keyLits (P.types.size+1) 27 (fV a b).cells.toList=([P.keyLits P.types.size 3 [.int .i64 a],P.keyLits P.types.size 3 [.int .i64 b]].mapM id).map flatten:=zQ
 obtain⟨n,hn⟩:=sz1;refine⟨.string (keyBytes [.int .i64 a,.int .i64 b]),?_⟩;unfold keyOf;rw[Tryz.underlying27];show(if(P.keyType 27&&(fV a b).formed P 27)=true then _ else none)=_;rw[yL h1,h2,hn,uG n ha,uG n hb];rfl
structure Fe where
 a:Int
 b:Int
 c:Int
 v:Value
 mo:Nat
 l:List CE
def Fe.id(f:Fe):ID:=(f.a,f.b,f.c)
def Fe.key(f:Fe):Value:=xL f.a f.b f.c
def gV(fs:List Fe):List (Value×AV):=fs.map fun f=>(f.key,.lit f.v)
theorem Gq{a b c a' b' c'}(h:xL a b c=xL a' b' c'):(a,b,c)=(a',b',c'):=by
 obtain⟨rfl,rfl,rfl⟩:=h;rfl
structure jA(V:View)(T:ID->Prop)(fs:List Fe):Prop where
 Td:∀f∈fs,T f.id->∃cap c t,JR V.w f.v f.mo f.l cap c t
 mt:∀f∈fs,T f.id->V.M f.mo
 off:∀f∈fs,T f.id->∀i,i<V.H.length->V.ρ i≠f.mo
 nS:∀f∈fs,∀g∈fs,T f.id->T g.id->f.mo=g.mo->f.id=g.id
def QL(T:ID->Prop)(fs:List Fe)(b:Nat):Prop:=∃f∈fs,T f.id/\f.mo=b
theorem JR.lt{w}{v}{b cap}{l}{c}{t}(h:JR w v b l cap c t):b<w.heap.size:=(Array.getElem?_eq_some_iff.1 h.mo).1
theorem jA.lt{V}{T}{fs}(h:jA V T fs){f}(hf:f∈fs)(ht:T f.id):f.mo<V.w.heap.size:=by
 obtain⟨cap,c,t,hk⟩:=h.Td f hf ht;exact hk.lt
theorem JR.JW{w w'}{v}{b cap}{l}{c}{t}(h:JR w v b l cap c t)(hs:w'.heap[b]?=w.heap[b]?):JR w' v b l cap c t:={ h with mo:=hs.trans h.mo }
theorem jA.step{V V'}{T}{fs}(h:jA V T fs)(hs:Step V V'):jA V' T fs where
 Td f hf ht:=by
  obtain⟨cap,c,t,hk⟩:=h.Td f hf ht;exact⟨cap,c,t,hk.JW (hs.keep _ hk.lt (h.off f hf ht)).1⟩
 mt f hf ht:=(hs.keep _ (h.lt hf ht) (h.off f hf ht)).2.2 (h.mt f hf ht)
 off f hf ht i hi:=by
  have:=h.lt hf ht;rcases hs.fresh i hi with⟨h1,h2⟩|h1
  .rw [h2];exact h.off f hf ht i h1
  .omega
 nS:=h.nS
theorem jA.mono{V}{T T'}{fs}(h:jA V T fs)(hT:∀z,T' z->T z):jA V T' fs :=
 ⟨fun f hf ht=>h.Td f hf (hT _ ht),fun f hf ht=>h.mt f hf (hT _ ht),fun f hf ht=>h.off f hf (hT _ ht),fun f hf g hg h1 h2=>h.nS f hf g hg (hT _ h1) (hT _ h2)⟩
theorem jA.told{V V'}{T}{fs}(h:jA V T fs)(hw:V'.w=V.w)(hM:∀f∈fs,T f.id->V'.M f.mo)(hρ:∀i,i<V'.H.length->∃j,j<V.H.length/\V'.ρ i=V.ρ j):jA V' T fs where
 Td f hf ht:=by rw[hw];exact h.Td f hf ht
 mt:=hM
 off f hf ht i hi:=by
  obtain⟨j,hj,e⟩:=hρ i hi;rw[e];exact h.off f hf ht j hj
 nS:=h.nS
structure LC(fs:List Fe):Prop where
 Fp:(fs.map Fe.id).Nodup
 iV:∀f∈fs,fO f.a/\fO f.b/\fO f.c
variable {fs:List Fe}
theorem Cz(h:LC fs):∀e∈gV fs,∃l,keyOf P 31 e.1=some l:=by
 intro e he;obtain⟨f,hf,rfl⟩:=yG.1 he;obtain⟨h1,h2,h3⟩:=h.iV f hf;exact BD h1 h2 h3
variable {f:Fe}
theorem Te(h:LC fs)(hf:f∈fs):bT P 31 (gV fs) (xL f.a f.b f.c) aK (.lit f.v) true:=by
 obtain⟨h1,h2,h3⟩:=h.iV f hf;exact⟨qQ,BD h1 h2 h3,Cz h,.inl ⟨rfl,yG.2 ⟨f,hf,rfl⟩⟩⟩
theorem N8(h:LC fs)(ha:fO a)(hb:fO b)(hc:fO c)(hn:∀f∈fs,f.id≠(a,b,c)):bT P 31 (gV fs) (xL a b c) aK aK false :=
 ⟨qQ,BD ha hb hc,Cz h,.inr ⟨rfl,rfl,fun e he=>by
  obtain⟨f,hf,rfl⟩:=yG.1 he;exact fun hq=>hn f hf (Gq hq)⟩⟩
def fnB:AV:=.fn (.func 285) [] [.ptr 2 0,.ptr 0 0,.ptr 5 0]
def HB(es:List (Value×AV))(g n:Nat)(xs:List (List AV)):List ah:=[.box [.aU 6 g 0 n],.map es,.box [.mp 1],.aH,.aH,.box [fnB],.aN g 9 false xs]
def HN(es:List (Value×AV)):List ah:=[.box [aK],.map es,.box [.mp 1],.aH,.aH,.box [fnB]]
def enB(a b c:Int):List AV:=[oO a b c,.ptr 2 0,.ptr 0 0,.ptr 5 0]++replicate 24 (.lit undef)
def nR(l:List (Nat×AV)):List AV:=aC 28 ([(1,.ptr 2 0),(2,.ptr 0 0),(3,.ptr 5 0)]++l)
def C30:Code:=oW P 285
def c0:Code:=Code.hd C30
def c1:Code:=Code.hd (Code.tl C30)
def c2:Code:=Code.hd (Code.tl (Code.tl C30))
def c3:Code:=Code.hd (Code.tl (Code.tl (Code.tl C30)))
def Xa:Code:=vg P 285 0
def c4:Code:=Code.hd Xa
def cIf:Code:=Code.hd (Code.tl Xa)
def cB:Code:=Code.Tf (Code.hd (Code.tl (Code.tl Xa)))
def c8:Code:=Code.tl (Code.tl (Code.tl Xa))
def c5:Code:=Code.hd cB
def c6:Code:=Code.hd (Code.tl cB)
def c7:Code:=Code.tl (Code.tl cB)
theorem Xu:Xa = .seq c4 (.seq cIf (.seq (.block 1 (.seq c5 (.seq c6 c7))) c8)):=zQ
def F3:Array Oper:=Bj c2
def LD:Array Oper:=Bj c7
theorem aml:c2 = .region 2 F3 false:=zQ
theorem amm:c7 = .region 7 LD false:=zQ
section
variable (es:List (Value×AV)) (g n:Nat) (xs:List (List AV)) (a b c:Int) (ks:List CE) (k:Nat) (x:CE)
theorem p0b:bn P G none 7 c0 ⟨enB a b c,HB es g n xs,[]⟩ ⟨(enB a b c).set 4 (.ptr 7 0),HB es g n xs++[.box [int a,int b,int c]],[]⟩:=bM [] [] 8 zQ
theorem p1b(v:Value)(ok:Bool)(h:bT P 31 es (xL a b c) aK (.lit v) ok)(LG:∀e∈es,e.2.bP 7=true)(wR:∀x∈xs,AV.aM [] x=true):bn P G none 7 c1 ⟨(enB a b c).set 4 (.ptr 7 0),HB es g n xs++[.box [int a,int b,int c]],[]⟩ ⟨nR [(5,.lit v)],HB es g n xs,[]⟩:=bM [ko (.lJ (.lit v) ok),kp h,kp LG,kp wR] (aB 28 [1,2,3,5]) 7 zQ
theorem p2b:bn P G none 7 c2 ⟨nR [(5,aK)],HB es g n xs,[]⟩ ⟨nR [(5,aK)],HB es g n xs,[]⟩:=bM [kc [] (Xt yO)] (aB 28 [1,2,3,5]) 7 zQ
theorem amn:bn P G none 7 c3 ⟨nR [(5,aK)],HB es g n xs,[]⟩ ⟨nR [(13,aK),(14,int 0),(15,int 0)],HB es g n xs,[]⟩:=bM [] (aB 28 [1,2,3,13,14,15]) 7 zQ
theorem amo:bn P G none 7 c3 ⟨nR [(5,bZ ks)],HB es g n xs,[]⟩ ⟨nR [(13,bZ ks),(14,int (au ks).length),(15,int 0)],HB es g n xs,[]⟩:=bM [] (aB 28 [1,2,3,13,14,15]) 7 zQ
theorem p4b(m:Int)(bg:decide (k<m)=true):bn P G none 7 c4 ⟨nR [(13,bZ ks),(14,int m),(15,int k)],HB es g n xs,[]⟩ ⟨nR [(13,bZ ks),(14,int m),(15,int k),(16,bool true)],HB es g n xs,[]⟩:=by
 have h:bn P G none 7 c4 ⟨nR [(13,bZ ks),(14,int m),(15,int k)],HB es g n xs,[]⟩ ⟨nR [(13,bZ ks),(14,int m),(15,int k),(16,bool (decide (k<m)))],HB es g n xs,[]⟩:=bM [] (aB 28 [1,2,3,13,14,15,16]) 7 zQ;grind
theorem pIb m:bn P G none 7 cIf ⟨nR [(13,bZ ks),(14,int m),(15,int k),(16,bool true)],HB es g n xs,[]⟩ ⟨nR [(13,bZ ks),(14,int m),(15,int k)],HB es g n xs,[]⟩:=bM [kt (Eq.refl true)] (aB 28 [1,2,3,13,14,15]) 7 zQ
theorem p5b m(h:(0:Int)<=k/\(au ks)[(k:Int).toNat]?=some (aQ x)):bn P G none 7 c5 ⟨nR [(13,bZ ks),(14,int m),(15,int k)],HB es g n xs,[]⟩ ⟨nR [(7,.ptr 7 0),(13,bZ ks),(14,int m),(15,int k)],HB es g n xs++[.box (aQ x)],[]⟩:=bM [ko (.elem (aQ x)),kp h] (aB 28 [1,2,3,7,13,14,15]) 8 zQ
theorem pEb(m:Int)y(Ct:decide (k<m)=false):bN P G none 7 Xa ⟨nR [(13,y),(14,int m),(15,int k)],HB es g n xs,[]⟩ (.exit 0) ⟨aC 28 [],HB es g n xs,[]⟩:=aG [kf Ct] (aB 28 []) 7
theorem p8b m(hk:k<1000000):bn P G none 7 c8 ⟨nR [(13,bZ ks),(14,int m),(15,int k)],HB es g n xs,[]⟩ ⟨nR [(13,bZ ks),(14,int m),(15,int (k+1:Nat))],HB es g n xs,[]⟩:=by
 have h:bn P G none 7 c8 ⟨nR [(13,bZ ks),(14,int m),(15,int k)],HB es g n xs,[]⟩ ⟨nR [(13,bZ ks),(14,int m),(15,int (IntKind.wrap .i64 (k+1)))],HB es g n xs,[]⟩:=bM [] (aB 28 [1,2,3,13,14,15]) 7 zQ;have e:IntKind.wrap .i64 (k+1)=(k+1:Int):=by
  simp[IntKind.wrap,IntKind.bits];omega
 grind
theorem p0n:bn P G none 6 c0 ⟨enB a b c,HN es,[]⟩ ⟨(enB a b c).set 4 (.ptr 6 0),HN es++[.box [int a,int b,int c]],[]⟩:=bM [] [] 7 zQ
theorem p1n(v:Value)(ok:Bool)(h:bT P 31 es (xL a b c) aK (.lit v) ok)(LG:∀e∈es,e.2.bP 6=true):bn P G none 6 c1 ⟨(enB a b c).set 4 (.ptr 6 0),HN es++[.box [int a,int b,int c]],[]⟩ ⟨nR [(5,.lit v)],HN es,[]⟩:=bM [ko (.lJ (.lit v) ok),kp h,kp LG] (aB 28 [1,2,3,5]) 6 zQ
theorem p2n:bn P G none 6 c2 ⟨nR [(5,aK)],HN es,[]⟩ ⟨nR [(5,aK)],HN es,[]⟩:=bM [kc [] (Xt yO)] (aB 28 [1,2,3,5]) 6 zQ
theorem amq:bn P G none 6 c3 ⟨nR [(5,aK)],HN es,[]⟩ ⟨nR [(13,aK),(14,int 0),(15,int 0)],HN es,[]⟩:=bM [] (aB 28 [1,2,3,13,14,15]) 6 zQ
theorem amr:bn P G none 6 c3 ⟨nR [(5,bZ ks)],HN es,[]⟩ ⟨nR [(13,bZ ks),(14,int (au ks).length),(15,int 0)],HN es,[]⟩:=bM [] (aB 28 [1,2,3,13,14,15]) 6 zQ
theorem p4n(m:Int)(bg:decide (k<m)=true):bn P G none 6 c4 ⟨nR [(13,bZ ks),(14,int m),(15,int k)],HN es,[]⟩ ⟨nR [(13,bZ ks),(14,int m),(15,int k),(16,bool true)],HN es,[]⟩:=by
 have h:bn P G none 6 c4 ⟨nR [(13,bZ ks),(14,int m),(15,int k)],HN es,[]⟩ ⟨nR [(13,bZ ks),(14,int m),(15,int k),(16,bool (decide (k<m)))],HN es,[]⟩:=bM [] (aB 28 [1,2,3,13,14,15,16]) 6 zQ;grind
theorem pIn m:bn P G none 6 cIf ⟨nR [(13,bZ ks),(14,int m),(15,int k),(16,bool true)],HN es,[]⟩ ⟨nR [(13,bZ ks),(14,int m),(15,int k)],HN es,[]⟩:=bM [kt (Eq.refl true)] (aB 28 [1,2,3,13,14,15]) 6 zQ
theorem p5n m(h:(0:Int)<=k/\(au ks)[(k:Int).toNat]?=some (aQ x)):bn P G none 6 c5 ⟨nR [(13,bZ ks),(14,int m),(15,int k)],HN es,[]⟩ ⟨nR [(7,.ptr 6 0),(13,bZ ks),(14,int m),(15,int k)],HN es++[.box (aQ x)],[]⟩:=bM [ko (.elem (aQ x)),kp h] (aB 28 [1,2,3,7,13,14,15]) 7 zQ
theorem pEn(m:Int)y(Ct:decide (k<m)=false):bN P G none 6 Xa ⟨nR [(13,y),(14,int m),(15,int k)],HN es,[]⟩ (.exit 0) ⟨aC 28 [],HN es,[]⟩:=aG [kf Ct] (aB 28 []) 6
theorem p6b m(hn:n=xs.length)(hm:(n+1)*80<=140737488355328):bn P G none 7 c6 ⟨nR [(7,.ptr 7 0),(13,bZ ks),(14,int m),(15,int k)],HB es g n xs++[.box (aQ x)],[]⟩ ⟨nR [(7,.ptr 7 0),(13,bZ ks),(14,int m),(15,int k)],HB es (g+1) (n+1) (xs++[aQ x])++[.box (aQ x)],[]⟩:=bM [kp (rfl:g=g),kp hn,kp hm] (aB 28 [1,2,3,7,13,14,15]) 8 zQ
theorem p6n m:bn P G none 6 c6 ⟨nR [(7,.ptr 6 0),(13,bZ ks),(14,int m),(15,int k)],HN es++[.box (aQ x)],[]⟩ ⟨nR [(7,.ptr 6 0),(13,bZ ks),(14,int m),(15,int k)],[.box [.aU 7 0 0 1],.map es,.box [.mp 1],.aH,.aH,.box [fnB],.box (aQ x),.aN 0 9 false [aQ x]],[]⟩:=bM [kp (show[aQ x]≠[] by simp),kp (show 1*80<=140737488355328 by decide)] (aB 28 [1,2,3,7,13,14,15]) 8 zQ
end
theorem JR.rep{w}{M}{v}{b cap}{l}{c}{t}(h:JR w v b l cap c t)(hM:¬M b):dR w M (bZ l) v:=by
 have hv:v = .slice (some ⟨b,0,none⟩) (au l).length cap:=by rw[ay];exact h.val
 rw[hv];have hel:∀k,k<(au l).length->∃x,l[k]?=some x/\(au l).getD k []=aQ x:=fun k hk=>by
  rw[ay]at hk;exact⟨l[k],yA hk,by rw[yB,sF,yA hk];rfl⟩
 refine .sl 9 false (au l) (some ⟨b,0,none⟩) cap b 0 (fun k j=>((l[k]?).map fun x=>(qd x).getD j undef).getD undef) (fun _=>rfl) (fun _ _=>hM) (by rw[ay];exact h.le) (fun h=>by cases h) ?_ ?_ ?_ ?_
 .intro x hx;obtain⟨y,_,rfl⟩:=yG.1 hx;rfl
 .intro k j hk hj;obtain⟨x,hx,_⟩:=hel k hk;rw[hx];simp[World.cell?,h.mo,h.cell k x j hx hj]
 .intro k j hk hj;obtain⟨x,hx,_⟩:=hel k hk;rw[hx];refine Ht x _ ?_;have hj':=hj;show(qd x).getD j undef∈qd x;rw[yB,yA hj'];grind
 .intro k j hk hj;obtain⟨x,hx,he⟩:=hel k hk;rw[hx,he];have hj':=hj
  match j,hj' with
  |0,_=>exact .lit _
  |1,_=>exact .lit _
  |2,_=>exact .lit _
  |3,_=>exact .lit _
  |4,_=>exact .lit _
  |5,_=>exact .lit _
  |6,_=>exact .lit _
  |7,_=>exact .lit _
  |8,_=>exact .lit _
def LH:Oper:=F3.toList.getD 1 default
def ams:Func:=(P.funcs[286]?).getD default
variable {V:View}
theorem Xv{a:Act}{T:ID->Prop}{H:List ah}(hG:aD G V)(dK:jO V ⟨nR [(5,.lit f.v)],H,[]⟩ a)(BF:∀(i:Nat)(o:ah),H[i]?=some o->o.bP H.length)(h6:5<H.length)(hF:jA V T fs)(hR:LC fs)(hf:f∈fs)(ht:T f.id)(bL:f.l.length<=1000000){K:Act->World->Prop}{Q:Exit->Act->World->Prop}(next:∀V' a' ks,ks.Perm f.l->ks.Pairwise (fun x y=>Kn y x=false)->rJ (fun b=>b=f.mo) V V'->aD G V'->jO V' ⟨nR [(5,bZ ks)],H,[]⟩ a'->jA V' (fun z=>T z/\z≠f.id) fs->K a' V'.w):c2.wpIn (fz none) 0 P (Exit.then K Q) a V.w:=by
 rw[aml];refine wpIn_region ?_;have hH:V.H=H:=dK.H;refine qg (os1:=[F3.toList.getD 0 default]) (os2:=[LH]) (i:=0) (aL:=nR [(5,.lit f.v)]) (H:=H) (ds:=[]) (bf:=[]) (env':=nR [(5,.lit f.v),(11,.lit f.v)]) (H':=H) (N9:=[]) (aT:=[]) (ps:=[]) (r:=none) zQ trivial zQ hG hH dK.aL dK.dh ?_;intro V1 a1 s1 g1 hh1 e1 d1;have yV:(List.range F3.size).drop (0+[F3.toList.getD 0 default].length)=[1]:=zQ
 rw[yV];have Ko:=hF.step s1;obtain⟨cap,c,t,hk⟩:=Ko.Td f hf ht;have hM:=Ko.mt f hf ht;have Oa:=Ko.off f hf ht;have h11:a1.tmps.getD 11 undef=f.v:=bW (e1.get 11);have jf:#[]++#[Operand.tmp 11,Operand.func 287].map a1.eval++#[]=#[f.v,.func (.func 287) #[] #[]]:=by
  have e1:a1.eval (.tmp 11)=f.v:=h11;have e2:a1.eval (.func 287) = .func (.func 287) #[] #[]:=rfl;simp[e1,e2]
 refine yX (o:=LH) (g:=.func 286) (f:=286) (fn:=ams) (us:=#[]) (vs:=#[]) (args:=#[.tmp 11,.func 287]) (ts:=#[60,333]) zQ zQ zQ zQ zQ rfl (by rw[jf];exact callsIn_wide.2 (QK V1.w f.v f.mo cap f.l c t hk bL)) ?_;rintro e w' ⟨rfl,uH,ks,c',hp,Ob,hk'⟩;refine⟨_,rfl,?_⟩;show K (a1.put LH.dst (.tuple #[])) w';have Xw:f.mo<V1.w.heap.size:=hk.lt;have hn:V1.H.length=H.length:=by rw[hh1]
 have hal:Kq V1.H.length V1 ⟨w',fun b=>V1.M b/\b≠f.mo,V1.H,V1.ρ⟩:=⟨fun b hb hnm=>by
  have fF:b≠f.mo:=fun e=>hnm (e▸hM);exact⟨uH.keep b hb fF,fun h=>hnm h.1⟩,fun id dU _=>⟨rfl,uH.keep _ (g1.lt id dU) (Oa id dU),.inl rfl⟩⟩
 refine next ⟨w',fun b=>V1.M b/\b≠f.mo,V1.H,V1.ρ⟩ _ ks hp Ob ?_ ?_ ?_ ?_
 .refine (s1.x _).trans ⟨uH.os,uH.tape,uH.output,uH.size,uH.drawn,fun b hb hn hB=>⟨uH.keep b hb hB,⟨fun h=>h.1,fun h=>⟨h,hB⟩⟩⟩,hal.data,yM,fun id dU=>.inl ⟨dU,rfl⟩,fun id dU=>?_⟩;exact .refl dU rfl rfl (uH.keep _ (g1.lt id dU) (Oa id dU))
 .refine aD.lF hal g1 (fun id dU=>y21 (g1.lt id dU) uH.size) g1.inj fun id o ho=>⟨.inl ⟨(yC.1 ho).1,ho,?_⟩,fun bA=>⟨g1.gW id o ho bA,Oa id (yC.1 ho).1⟩⟩;rw[hn];exact BF id o (by rw[<- hh1];exact ho)
 .refine ⟨?_,hh1,by rw[nT];have:=d1;cases UW:a1.defers with|nil=>exact .nil|cons d l=>rw[UW]at this;cases this⟩;have h1:eF ⟨w',fun b=>V1.M b/\b≠f.mo,V1.H,V1.ρ⟩ (nR [(5,.lit f.v),(11,.lit f.v)]) a1:=eF.lF hal e1 (by
   rw[hn];have h5:Nat.blt 5 H.length=true:=Nat.ble_eq_true_of_le h6;have h2:Nat.blt 2 H.length=true:=Nat.ble_eq_true_of_le zO;have h0:Nat.blt 0 H.length=true:=Nat.ble_eq_true_of_le zO;simp[nR,aC,vk,List.range,List.range.loop,AV.gH,AV.bP];omega)
  have h2:=h1.ae8 (t:=5) (x:=bZ ks) (by
   have h5:a1.tmps.getD 5 undef=f.v:=bW (e1.get 5);rw[h5];exact .pure _ _ (hk'.rep fun h=>h.2 rfl))
  have h3:=h2.put LH.dst (x:=.aP) (v:=.tuple #[]) (.aP _);refine eF.ae9 h3 zQ fun j hj=>?_;have QM:j<28:=by
   have:(gX ((nR [(5,AV.lit f.v),(11,AV.lit f.v)]).set 5 (bZ ks)) LH.dst AV.aP).length=28:=zQ
   omega
  by_cases h11:j=11
  .subst h11;exact .inr zQ
  .left;have:∀j,j<28->j≠11->(nR [(5,bZ ks)]).getD j .aP=(gX ((nR [(5,AV.lit f.v),(11,AV.lit f.v)]).set 5 (bZ ks)) (some 12) AV.aP).getD j .aP:=by
    intro j hj fF;have:j∈List.range 28:=mem_range.2 hj;simp only[List.range,List.range.loop,yH,y12,or_false]at this;rcases this with rfl|rfl|rfl|rfl|rfl|rfl|rfl|rfl|rfl|rfl|rfl|rfl|rfl|rfl|rfl|rfl|rfl|rfl|rfl|rfl|rfl|rfl|rfl|rfl|rfl|rfl|rfl|rfl<;>first|rfl|exact absurd rfl fF
   rw[show LH.dst=some 12 by kernel_rfl];exact this j QM h11
 .refine ⟨fun g hg hT=>?_,fun g hg hT=>?_,fun g hg hT=>?_,fun g hg g' hg' h1 h2=>Ko.nS g hg g' hg' h1.1 h2.1⟩
  .obtain ⟨cap,c,t,Oc⟩:=Ko.Td g hg hT.1;have fF:g.mo≠f.mo:=fun e=>hT.2 (Ko.nS g hg f hf hT.1 ht e);exact⟨cap,c,t,Oc.JW (uH.keep _ Oc.lt fF)⟩
  .exact ⟨Ko.mt g hg hT.1,fun e=>hT.2 (Ko.nS g hg f hf hT.1 ht e)⟩
  .exact Ko.off g hg hT.1
theorem Xx es(g n:Nat)xs(LG:∀e∈es,e.2.bP 7=true)(wR:∀x∈xs,AV.gH 7 x=true):∀(i:Nat)o,(HB es g n xs)[i]?=some o->o.bP 7:=by
 intro i o h;have hi:=(yC.1 h).1
 match i,hi with
 |0,_=>injection h with h;subst h;rfl
 |1,_=>injection h with h;subst h;exact LG
 |2,_=>injection h with h;subst h;rfl
 |3,_=>injection h with h;subst h;trivial
 |4,_=>injection h with h;subst h;trivial
 |5,_=>injection h with h;subst h;rfl
 |6,_=>injection h with h;subst h;exact wR
theorem uI fs(n:Nat):∀e∈gV fs,e.2.bP n=true:=by
 intro e he;obtain⟨f,_,rfl⟩:=yG.1 he;rfl
theorem BG v(n:Nat):∀x∈au v,AV.gH n x=true:=by
 intro x hx;obtain⟨y,_,rfl⟩:=yG.1 hx;rfl
def View.cut(V:View)(m:Nat):View:={ V with H:=V.H.take m }
theorem Kr(V:View)m:Kq m V (V.cut m):=⟨fun b _ h=>⟨rfl,h⟩,fun id h1 _=>⟨rfl,rfl,.inl (by show(V.H.take m)[id]?=_;grind)⟩⟩
theorem CB{V}{m}(hG:aD G V)(BF:∀ i(o:ah),i<m->V.H[i]?=some o->o.bP m):aD G (V.cut m):=by
 have hl:∀i,i<(V.cut m).H.length->i<m/\i<V.H.length:=fun i hi=>by
  have:i<(V.H.take m).length:=hi;grind
 refine aD.lF (Kr V m) hG (fun id dU=>hG.lt id (hl id dU).2) (fun i j hi hj e=>hG.inj i j (hl i hi).2 (hl j hj).2 e) fun id o ho=>?_;have bg:=hl id (yC.1 ho).1;have ho':V.H[id]?=some o:=by
  have:(V.H.take m)[id]?=some o:=ho;grind
 exact⟨.inl ⟨bg.1,ho',BF id o bg.1 ho'⟩,hG.gW id o ho'⟩
theorem CG{V0 V}{m}(hs:Step V0 V)(hm:V0.H.length<=m):Step V0 (V.cut m) where
 os:=hs.os
 tape:=hs.tape
 output:=hs.output
 size:=hs.size
 drawn:=hs.drawn
 keep:=hs.keep
 data:=hs.data
 bL:=by
  show _<=(V.H.take m).length;rw[y18];have:=hs.bL;omega
 fresh id dU:=hs.fresh id (by
  have:id<(V.H.take m).length:=dU;grind)
 eP id dU:=by
  have h:=hs.eP id dU;unfold dL at h |-;have e:(V.cut m).H[id]?=V.H[id]? := by show(V.H.take m)[id]?=_;grind
  rw[e];exact h
theorem Ai{B}{V V'}(h:rJ B V V'){id off}{v}(hr:dI V (.ptr id off) v){cs cs'}(hb:V.H[id]?=some (.box cs))(hb':V'.H[id]?=some (.box cs')):dI V' (.ptr id off) v:=by
 obtain⟨_,rfl⟩:=jr hr;have ho:=h.eP id (yC.1 hb).1;unfold dL at ho;rw[hb,hb']at ho;have e:=ho;rw[<- e];exact .ptr id off ⟨_,hb',rfl⟩
theorem Od{B}{V V'}(h:rJ B V V'){sz}{t}{xs}{v}(hr:dI V (.sl sz t xs) v):dI V' (.sl sz t xs) v:=.pure _ _ ((jF hr).step h.data)
structure QN(l:List CE)(fs:List Fe):Prop where
 iw:∀f∈fs,Ids f.l
 mem:∀f∈fs,∀x,x∈f.l↔x∈l/\x.after=f.id
 len:∀f∈fs,f.l.length<=1000000
 all:∀x∈l,∃f∈fs,f.id=x.after
 iV:∀x∈l,fO x.dv/\fO x.sq/\fO x.gU
theorem QN.oZ{l}{fs}(h:QN l fs)(hI:Ids l){f}(hf:f∈fs){ks}(hp:ks.Perm f.l)(hs:ks.Pairwise (fun x y=>Kn y x=false)):ks=oZ l f.a f.b f.c:=by
 have hi:=(Perm.pairwise_iff (fun{a b} h=>fun e=>h e.symm) hp).2 (h.iw f hf);have hd:F4 ks:=(hs.and hi).imp fun{a b} h=>by
  rcases Oe h.2 with h1|h1
  .exact h1
  .grind
 exact hd.ext (Kt hI f.a f.b f.c) fun x=>by
  rw[hp.mem_iff,h.mem f hf,jc hI];rfl
theorem QN.none{l}{fs}(h:QN l fs)(hI:Ids l){a b c}(hn:∀f∈fs,f.id≠(a,b,c)):Sq.oZ l a b c=[]:=by
 cases hk:Sq.oZ l a b c with
 |nil=>rfl
 |cons y r =>
  have hy:y∈Sq.oZ l a b c:=by rw[hk];simp
  obtain⟨h1,h2⟩:=(jc hI).1 hy;obtain⟨f,hf,e⟩:=h.all y h1;grind
def mq(v:List CE):List ID:=v.map CE.id
def jG(b:Nat):Value:=.pointer (some ⟨b,0,none⟩)
def Gr(l:List CE)(fs:List Fe)(n:Nat)(a b c:Int):Prop:=∀(V:View)(T:ID->Prop)(acc:List CE)(g:Nat),aD G V->V.H=HB (gV fs) g acc.length (au acc)->jA V T fs ->
 (T (a,b,c)/\∀z∈mq (bX l n a b c),T z)->((a,b,c)::mq (bX l n a b c)).Nodup->acc.length+(bX l n a b c).length<=1000000 ->
 CallsIn Fence.wide 0 P 285 #[xL a b c,jG (V.ρ 2),jG (V.ρ 0),jG (V.ρ 5)] V.w fun e w'=>e = .returned (.tuple #[])/\∃V' g',V'.w=w'/\rJ (QL T fs) V V'/\aD G V'/\V'.H=HB (gV fs) g' (acc++bX l n a b c).length (au (acc++bX l n a b c)) /\
  jA V' (fun z=>T z/\z≠(a,b,c)/\z∉mq (bX l n a b c)) fs
def op7:Oper:=LD.toList.getD 3 default
def JX:Func:=(P.funcs[285]?).getD default
theorem Xy{V}{a b c}{v}(h:dI V (oO a b c) v):v=xL a b c:=fC rfl h
theorem Tg{v:Value}(h:dI V fnB v):v = .func (.func 285) #[] #[jG (V.ρ 2),jG (V.ρ 0),jG (V.ρ 5)]:=by
 obtain⟨us,vs,rfl,h1,h2⟩:=yY h;have e1:=length_eq_zero_iff.1 h1.1;obtain⟨x,y,z,rfl⟩:∃x y z,vs=[x,y,z]:=by
  have:=h2.1
  match vs,this with
  |[x,y,z],_=>exact⟨x,y,z,rfl⟩
 subst e1;obtain⟨_,k1⟩:=jr (h2.2 0 zD);obtain⟨_,k2⟩:=jr (h2.2 1 zD);obtain⟨_,k3⟩:=jr (h2.2 2 zD);have k1:x=jG (V.ρ 2):=k1;have k2:y=jG (V.ρ 0):=k2;have k3:z=jG (V.ρ 5):=k3;rw[k1,k2,k3]
theorem Xz{l:List CE}{fs:List Fe}{V0 V:View}{a:Act}{T:ID->Prop}{ks acc:List CE}{x:CE}{n g k:Nat}{m:Int}(h0:V0.H.length<=7)(hs:Step V0 V)(hG:aD G V)(dK:jO V ⟨nR [(7,.ptr 7 0),(13,bZ ks),(14,int m),(15,int k)],HB (gV fs) g acc.length (au acc)++[.box (aQ x)],[]⟩ a)(hF:jA V T fs)(hB:Gr l fs n x.dv x.sq x.gU)(hT:T x.id/\∀z∈mq (bX l n x.dv x.sq x.gU),T z)(hn:(x.id::mq (bX l n x.dv x.sq x.gU)).Nodup)(bL:acc.length+(bX l n x.dv x.sq x.gU).length<=1000000){Q:Exit->Act->World->Prop}(next:∀V' a' g',rJ (QL T fs) V0 V'->aD G V'->jO V' ⟨nR [(13,bZ ks),(14,int m),(15,int k)],HB (gV fs) g' (acc++bX l n x.dv x.sq x.gU).length (au (acc++bX l n x.dv x.sq x.gU)),[]⟩ a' ->
  jA V' (fun z=>T z/\z≠x.id/\z∉mq (bX l n x.dv x.sq x.gU)) fs->Q .normal a' V'.w):c7.wpIn (fz none) 0 P Q a V.w:=by
 rw[amm];refine wpIn_region ?_;have hH:V.H=HB (gV fs) g acc.length (au acc)++[.box (aQ x)]:=dK.H;refine qg (os1:=[LD.toList.getD 0 default,LD.toList.getD 1 default,LD.toList.getD 2 default]) (os2:=[op7]) (i:=0) (aL:=nR [(7,.ptr 7 0),(13,bZ ks),(14,int m),(15,int k)]) (H:=HB (gV fs) g acc.length (au acc)++[.box (aQ x)]) (ds:=[]) (bf:=[])
  (env':=nR [(7,.ptr 7 0),(13,bZ ks),(14,int m),(15,int k),(23,fnB),(24,.ptr 7 0),(25,oO x.dv x.sq x.gU)]) (H':=HB (gV fs) g acc.length (au acc)++[.box (aQ x)]) (N9:=[]) (aT:=[]) (ps:=[]) (r:=none) zQ trivial zQ hG hH dK.aL dK.dh ?_
 intro V1 a1 s1 g1 hh1 e1 d1;have yV:(List.range LD.size).drop (0+[LD.toList.getD 0 default,LD.toList.getD 1 default,LD.toList.getD 2 default].length)=[3]:=zQ
 rw[yV];have Ko:=hF.step s1;have h23:a1.eval (.tmp 23) = .func (.func 285) #[] #[jG (V1.ρ 2),jG (V1.ρ 0),jG (V1.ρ 5)]:=Tg (e1.get 23);have h25:a1.eval (.tmp 25)=xL x.dv x.sq x.gU:=Xy (e1.get 25);have BF:∀(i:Nat)(o:ah),i<7->V1.H[i]?=some o->o.bP 7:=fun i o hi ho=>by
  rw[hh1,getElem?_append_left (by exact hi)]at ho;exact Xx _ _ _ _ (uI fs 7) (BG acc 7) i o ho
 have gc:=CB (m:=7) g1 BF;have hc:(V1.cut 7).H=HB (gV fs) g acc.length (au acc):=by show V1.H.take 7=_;rw[hh1];rfl
 have hFc:jA (V1.cut 7) T fs:=Ko.told rfl Ko.mt fun i hi=>⟨i,by
  have:i<(V1.H.take 7).length:=hi;rw[y18]at this;omega,rfl⟩
 have XA:=hB (V1.cut 7) T acc g gc hc hFc hT hn bL;have jf:#[]++#[Operand.tmp 25].map a1.eval++#[jG (V1.ρ 2),jG (V1.ρ 0),jG (V1.ρ 5)]=#[xL x.dv x.sq x.gU,jG (V1.ρ 2),jG (V1.ρ 0),jG (V1.ρ 5)]:=by simp[h25]
 refine yX (o:=op7) (g:=.tmp 23) (f:=285) (fn:=JX) (us:=#[]) (vs:=#[jG (V1.ρ 2),jG (V1.ρ 0),jG (V1.ρ 5)]) (args:=#[.tmp 25]) (ts:=#[31]) zQ zQ zQ zQ zQ h23 (by rw[jf];exact XA) ?_;rintro e w' ⟨rfl,V',g',rfl,k1,k2,k3,k4⟩;refine⟨_,rfl,?_⟩;show Q .normal (a1.put op7.dst (.tuple #[])) V'.w;have ec:eF (V1.cut 7) (nR [(13,bZ ks),(14,int m),(15,int k)]) a1:=eF.lF (Kr V1 7) (e1.ae9 zQ fun j hj=>by
  have QM:j∈List.range 28:=mem_range.2 hj;simp only[List.range,List.range.loop,yH,y12,or_false]at QM;rcases QM with rfl|rfl|rfl|rfl|rfl|rfl|rfl|rfl|rfl|rfl|rfl|rfl|rfl|rfl|rfl|rfl|rfl|rfl|rfl|rfl|rfl|rfl|rfl|rfl|rfl|rfl|rfl|rfl<;>first|exact .inr rfl|exact .inl rfl) zQ
 have XB:(V1.cut 7).H[2]?=some (.box [.mp 1]):=by rw[hc];rfl
 have Ti:(V1.cut 7).H[0]?=some (.box [.aU 6 g 0 acc.length]):=by rw[hc];rfl
 have hb5:(V1.cut 7).H[5]?=some (.box [fnB]):=by rw[hc];rfl
 refine next V' _ g' (((CG (hs.trans s1) zO).x _).trans k1) k2 ⟨?_,k3,by rw[nT];have:=d1;cases UW:a1.defers with|nil=>exact .nil|cons d l=>rw[UW]at this;cases this⟩ k4
 have e2:eF V' (nR [(13,bZ ks),(14,int m),(15,int k)]) a1:=⟨ec.1,fun j hj=>by
  have hr:=ec.2 j hj;have QM:j∈List.range 28:=mem_range.2 hj;simp only[List.range,List.range.loop,yH,y12,or_false]at QM;rcases QM with rfl|rfl|rfl|rfl|rfl|rfl|rfl|rfl|rfl|rfl|rfl|rfl|rfl|rfl|rfl|rfl|rfl|rfl|rfl|rfl|rfl|rfl|rfl|rfl|rfl|rfl|rfl|rfl<;>first|exact .aP _|skip
  .exact Ai k1 hr XB (by rw[k3];rfl)
  .exact Ai k1 hr Ti (by rw[k3];rfl)
  .exact Ai k1 hr hb5 (by rw[k3];rfl)
  .exact Od k1 hr
  .rw [bW hr];exact .pure _ _ (.lit _)
  .rw [bW hr];exact .pure _ _ (.lit _)⟩
 have e3:=e2.put op7.dst (x:=.aP) (v:=.tuple #[]) (.aP _);exact e3
theorem wS v w:mq (v++w)=mq v++mq w:=by simp[mq]
theorem BH(x:CE)w:mq (x::w)=x.id::mq w:=rfl
def nC(l:List CE)(n:Nat)(ks:List CE)(k:Nat):List CE:=(ks.drop k).flatMap fun y=>y::bX l n y.dv y.sq y.gU
theorem Ku l(n:Nat)ks(k:Nat)(h:ks.length<=k):nC l n ks k=[]:=by unfold nC;rw[y14 h];rfl
theorem Og l(n:Nat)ks(k:Nat)h:nC l n ks k=(ks[k]::bX l n ks[k].dv ks[k].sq ks[k].gU)++nC l n ks (k+1):=by grind[nC,y01]
theorem Aj{T T'}{fs}(h:∀z,T' z->T z):∀b,QL T' fs b->QL T fs b:=fun _ ⟨f,hf,ht,e⟩=>⟨f,hf,h _ ht,e⟩
theorem Oh{l}{fs}{n}{ks}(Ew:ks.length<=1000000)(IH:∀y∈ks,Gr l fs n y.dv y.sq y.gU){Q}:∀(d k:Nat),ks.length-k=d->k<=ks.length->∀ V(a:Act)T(acc:List CE)g,
 aD G V->jO V ⟨nR [(13,bZ ks),(14,int ks.length),(15,int k)],HB (gV fs) g acc.length (au acc),[]⟩ a->jA V T fs->(∀z∈mq (nC l n ks k),T z)->(mq (nC l n ks k)).Nodup->acc.length+(nC l n ks k).length<=1000000 ->
 (∀V' a' g',rJ (QL T fs) V V'->aD G V'->jO V' ⟨aC 28 [],HB (gV fs) g' (acc++nC l n ks k).length (au (acc++nC l n ks k)),[]⟩ a'->jA V' (fun z=>T z/\z∉mq (nC l n ks k)) fs->Q (.exit 0) a' V'.w)->eO (fz none) 0 P Xa Q a V.w:=by
 intro d
 induction d with
 |zero =>
  intro k hd hk V a T acc g hG dK hF hT hN bL next
  have h0:V.H.length=7:=by rw[dK.H];rfl
  refine eO.mono (pEb (gV fs) g acc.length (au acc) k ks.length (bZ ks) (y16 zO) V V a h0 (Step.refl V) hG dK) ?_;rintro e a' w' ⟨V',rfl,k1,k2,k3,k4⟩;have hr:=Ku l n ks k zO;rw[hr]at next
  cases e<;>first|exact k4.elim|skip
  rename_i i;obtain rfl:i=0:=k4;refine next V' a' g (k1.x _) k2 ?_ ((hF.step k1).mono fun z h=>h.1)
  rw[y19];exact k3
 |succ d ih =>
  intro k hd hk V a T acc g hG dK hF hT hN bL next
  have bg:k<ks.length:=zO
  have hx:=yA bg;have hr:=Og l n ks k bg;have QO:=y03 bg;generalize hxe:ks[k]=x at *;have h0:V.H.length=7:=by rw[dK.H];rfl
  rw[hr]at hT hN bL next
  rw[wS,BH]at hT hN;obtain⟨n1,n2,n3⟩:=nodup_append.1 hN;have aik:acc.length+1+(bX l n x.dv x.sq x.gU).length+(nC l n ks (k+1)).length<=1000000:=by grind
  refine eO.next ?_;show Xa.wpIn (fz none) 0 P _ a V.w;rw[Xu];refine bn.seq (p4b (gV fs) g acc.length (au acc) ks k ks.length (y15 zO)) h0 (Step.refl V) hG dK fun V1 a1 s1 g1 k1=>?_;refine bn.seq (pIb (gV fs) g acc.length (au acc) ks k ks.length) h0 s1 g1 k1 fun V2 a2 s2 g2 k2=>?_;refine Go.wpIn_seq (Go.wpIn_block ?_);refine bn.seq (p5b (gV fs) g acc.length (au acc) ks k x ks.length ⟨zO,by rw[y26,sF,hx];rfl⟩) h0 s2 g2 k2 fun V3 a3 s3 g3 k3=>?_;refine bn.seq (p6b (gV fs) g acc.length (au acc) ks k x ks.length (ay acc).symm zO) h0 s3 g3 k3 fun V4 a4 s4 g4 k4=>?_;have e1:acc.length+1=(acc++[x]).length:=zS
  have e2:au acc++[aQ x]=au (acc++[x]):=by rw[sN,gy]
  rw[e1,e2]at k4;refine Xz (Nat.le_of_eq h0) s4 g4 k4 (hF.step s4) (IH x QO) ⟨hT _ zS,fun z hz=>hT z (by simp[hz])⟩ n1 (by rw[<- e1];omega) fun V5 a5 g5 s5 g5' k5 f5=>?_;show c8.wpIn (fz none) 0 P _ a5 V5.w;have h05:V5.H.length=7:=by rw[k5.H];rfl
  refine p8b (gV fs) g5 (acc++[x]++bX l n x.dv x.sq x.gU).length (au (acc++[x]++bX l n x.dv x.sq x.gU)) ks k ks.length zO V5 V5 a5 _ _ h05 (Step.refl V5) g5' k5 fun V6 a6 s6 g6 k6=>?_;have e3:acc++[x]++bX l n x.dv x.sq x.gU++nC l n ks (k+1)=acc++(x::bX l n x.dv x.sq x.gU++nC l n ks (k+1)):=zS
  refine ih (k+1) zO zO V6 a6 (fun z=>T z/\z≠x.id/\z∉mq (bX l n x.dv x.sq x.gU)) (acc++[x]++bX l n x.dv x.sq x.gU) g5 g6 k6 (f5.step s6) (fun z hz=>?_) n2 (by simp only[yD,yE,y11];omega) fun V7 a7 g7 s7 g7' k7 f7=>?_
  .refine ⟨hT z (by simp[hz]),fun e=>?_,fun hm=>?_⟩
   .exact n3 x.id zS z hz e.symm
   .exact n3 z (by simp[hm]) z hz rfl
  .rw [e3]at k7;refine next V7 a7 g7 ((s5.trans (s6.x _)).trans (s7.mono (Aj fun z h=>h.1))) g7' k7 (f7.mono fun z h=>?_)
   rw[wS,BH]at h;simp only[yI,yH,not_or]at h;exact⟨⟨h.1,h.2.1.1,h.2.1.2⟩,h.2.2⟩
theorem Oi tmps(w:World):(results JX tmps).run P w = .ok (.tuple #[]) w:=by
 have h:JX.results=#[]:=zQ
 unfold results;simp_all
theorem Tj{V}{a b c}{H}(hH:V.H=H)(h2:bY ah.vR V 2)(h0:bY ah.vR V 0)(h5:bY ah.vR V 5) :
 jO V ⟨enB a b c,H,[]⟩ { tmps:=#[xL a b c,jG (V.ρ 2),jG (V.ρ 0),jG (V.ρ 5)]++Array.replicate (JX.ntmps-4) undef,defers:=[] }:=by
 have hn:JX.ntmps=28:=zQ
 refine⟨?_,hH,.nil⟩;have h1:bR V [oO a b c,.ptr 2 0,.ptr 0 0,.ptr 5 0] [xL a b c,jG (V.ρ 2),jG (V.ρ 0),jG (V.ρ 5)] :=
  .cons (.agg _ [.int .i64 a,.int .i64 b,.int .i64 c] rfl fun j hj=>by
   have:=hj
   match j,this with
   |0,_=>exact .pure _ _ (.lit _)
   |1,_=>exact .pure _ _ (.lit _)
   |2,_=>exact .pure _ _ (.lit _)) (.cons (.ptr 2 0 h2) (.cons (.ptr 0 0 h0) (.cons (.ptr 5 0 h5) .nil)))
 have h2:eF V (enB a b c) { tmps:=([xL a b c,jG (V.ρ 2),jG (V.ρ 0),jG (V.ρ 5)]++replicate 24 undef).toArray,defers:=[] }:=by
  refine bR.append h1 ?_;have:=bR.vv (V:=V) (replicate 24 undef);simp_all
 have e:([xL a b c,jG (V.ρ 2),jG (V.ρ 0),jG (V.ρ 5)]++replicate 24 undef).toArray=#[xL a b c,jG (V.ρ 2),jG (V.ρ 0),jG (V.ρ 5)]++Array.replicate (28-4) undef:=by
  simp
 grind
theorem Hw{a:ID}{l}(h:(a::l).Nodup):l.Nodup/\a∉l:=⟨(nodup_cons.1 h).2,(nodup_cons.1 h).1⟩
variable {l:List CE}
theorem XC(hL:QN l fs)(hI:Ids l)(hR:LC fs)(hv:l.length<=1000000):∀n a b c,Deep l n a b c->fO a->fO b->fO c->Gr l fs n a b c:=by
 intro n
 induction n with
 |zero=>intro a b c h;exact h.elim
 |succ n ih =>
  intro a b c hD ha hb hc V T acc g hG hH hF hT hN bL;have h0:V.H.length=7:=by rw[hH];rfl
  have kb:∀i cs,(HB (gV fs) g acc.length (au acc))[i]?=some (.box cs)->bY ah.vR V i:=fun i cs h=>⟨_,by rw[hH];exact h,rfl⟩;have wN:P.funcs[285]?=some JX:=zQ
  have XD:JX.body=some (.seq c0 (.seq c1 (.seq c2 (.seq c3 (.block 0 (.loop Xa)))))):=zQ
  refine CJ wN XD ?_;refine bn.seq (p0b (gV fs) g acc.length (au acc) a b c) h0 (Step.refl V) hG (Tj hH (kb 2 _ rfl) (kb 0 _ rfl) (kb 5 _ rfl)) fun V1 a1 s1 g1 k1=>?_;have Ew:nC l n (oZ l a b c) 0=bX l (n+1) a b c:=by unfold nC;rw[drop_zero];rfl
  by_cases NT:∃f∈fs,f.id=(a,b,c)
  .obtain ⟨f,hf,hfi⟩:=NT;obtain⟨rfl,rfl,rfl⟩:f.a=a/\f.b=b/\f.c=c:=by
    have:(f.a,f.b,f.c)=(a,b,c):=hfi;simpa using this
   refine bn.seq (p1b (gV fs) g acc.length (au acc) f.a f.b f.c f.v true (Te hR hf) (uI fs 7) (bJ acc)) h0 s1 g1 k1 fun V2 a2 s2 g2 k2=>?_;refine Go.wpIn_seq (Xv g2 k2 (Xx _ _ _ _ (uI fs 7) (BG acc 7)) (by show 5<7;decide) (hF.step s2) hR hf hT.1 (hL.len f hf) fun V3 a3 ks hp Ob s3 g3 k3 f3=>?_);obtain rfl:=hL.oZ hI hf hp Ob;have h03:V3.H.length=7:=by rw[k3.H];rfl
   refine bn.seq (amo (gV fs) g acc.length (au acc) (oZ l f.a f.b f.c)) h03 (Step.refl V3) g3 k3 fun V4 a4 s4 g4 k4=>?_;refine Go.wpIn_block (eO.wpIn ?_);obtain⟨n1,n2⟩:=Hw hN;have LB:=Oj l f.a f.b f.c;rw[ay]at k4;refine Oh (l:=l) (fs:=fs) (n:=n) (ks:=oZ l f.a f.b f.c) zO (fun y hy=>?_) _ 0 rfl yN V4 a4 (fun z=>T z/\z≠f.id) acc g g4 k4 (f3.step s4) (by
    rw[Ew];exact fun z hz=>⟨hT.2 z hz,fun e=>n2 (by rw[e]at hz;exact hz)⟩) (by rw[Ew];exact n1) (by rw[Ew];exact bL) ?_
   .obtain ⟨r1,r2,r3⟩:=hL.iV y ((jc hI).1 hy).1;exact ih _ _ _ (hD.Td hy) r1 r2 r3
   .rw [Ew];intro V5 a5 g5 s5 g5' k5 f5;refine⟨.inl rfl,?_,_,Oi _ _,rfl,V5,g5,rfl,?_,g5',k5.H,f5.mono fun z h=>⟨⟨h.1,h.2.1⟩,h.2.2⟩⟩
    .have:=k5.dh;cases UW:a5.defers with
     |nil=>rfl
     |cons d l=>rw[UW]at this;cases this
    .exact ((s2.x _).trans (s3.mono fun b hb=>⟨f,hf,hT.1,hb.symm⟩)).trans ((s4.x _).trans (s5.mono (Aj fun z h=>h.1)))
  .have xY:∀f∈fs,f.id≠(a,b,c):=fun f hf e=>NT ⟨f,hf,e⟩;have hk0:=hL.none hI xY;have Ti:bX l (n+1) a b c=[]:=by rw[bX,hk0];rfl
   refine bn.seq (p1b (gV fs) g acc.length (au acc) a b c (.slice none 0 0) false (N8 hR ha hb hc xY) (uI fs 7) (bJ acc)) h0 s1 g1 k1 fun V2 a2 s2 g2 k2=>?_;refine bn.seq (p2b (gV fs) g acc.length (au acc)) h0 s2 g2 k2 fun V3 a3 s3 g3 k3=>?_;refine bn.seq (amn (gV fs) g acc.length (au acc)) h0 s3 g3 k3 fun V4 a4 s4 g4 k4=>?_;refine Go.wpIn_block (eO.wpIn ?_);refine eO.mono (pEb (gV fs) g acc.length (au acc) 0 0 aK zD V V4 a4 h0 s4 g4 k4) ?_;rintro e a' w' ⟨V',rfl,k1,k2,k3,k4⟩;cases e<;>first|exact k4.elim|skip
   rename_i i;obtain rfl:i=0:=k4;rw[Ti];refine⟨.inl rfl,?_,_,Oi _ _,rfl,V',g,rfl,k1.x _,k2,by rw[y19];exact k3.H,(hF.step k1).mono fun z h=>h.1⟩;have:=k3.dh;cases UW:a'.defers with
   |nil=>rfl
   |cons d l=>rw[UW]at this;cases this
def Tk(i:Nat):Nat:=if i=6 then 7 else if i=7 then 6 else i
def Ol(V:View)(H:List ah):View:={ V with H:=H,ρ:=fun i=>V.ρ (Tk i) }
theorem abG(fs:List Fe)σ:(gV fs).map (fun e=>(e.1,e.2.jv σ))=gV fs:=by
 unfold gV;rw[map_map];congr 1
def H1(es:List (Value×AV))(x:CE):List ah:=[.box [.aU 7 0 0 1],.map es,.box [.mp 1],.aH,.aH,.box [fnB],.box (aQ x),.aN 0 9 false [aQ x]]
def H2(es:List (Value×AV))(x:CE):List ah:=HB es 0 1 [aQ x]++[.box (aQ x)]
theorem Tm{V}{fs}{x}(hH:V.H=H1 (gV fs) x):Lk (Ol V (H2 (gV fs) x)) V Tk where
 w:=rfl
 M _:=Iff.rfl
 ρ _ _:=rfl
 eP i o ho:=by
  rw[hH];have hi:=(yC.1 ho).1
  match i,hi with
  |0,_=>injection ho with ho;subst ho;rfl
  |1,_ =>
   injection ho with ho;subst ho;show some (ah.map (gV fs))=some (ah.map _);rw[abG]
  |2,_=>injection ho with ho;subst ho;rfl
  |3,_=>injection ho with ho;subst ho;rfl
  |4,_=>injection ho with ho;subst ho;rfl
  |5,_=>injection ho with ho;subst ho;rfl
  |6,_=>injection ho with ho;subst ho;rfl
  |7,_=>injection ho with ho;subst ho;rfl
theorem afa fs(x:CE):∀(i:Nat)o,(H2 (gV fs) x)[i]?=some o->o.bP 8:=by
 intro i o ho;have hi:=(yC.1 ho).1
 match i,hi with
 |0,_=>injection ho with ho;subst ho;rfl
 |1,_=>injection ho with ho;subst ho;exact uI fs 8
 |2,_=>injection ho with ho;subst ho;rfl
 |3,_=>injection ho with ho;subst ho;trivial
 |4,_=>injection ho with ho;subst ho;trivial
 |5,_=>injection ho with ho;subst ho;rfl
 |6,_=>injection ho with ho;subst ho;exact BG [x] 8
 |7,_=>injection ho with ho;subst ho;rfl
theorem UY{V}{fs}{x}(hH:V.H=H1 (gV fs) x)(hG:aD G V):aD G (Ol V (H2 (gV fs) x)):=by
 refine aD.Kv (Tm hH) hG (afa fs x) fun i j hi hj e=>?_;unfold Tk at e
 grind
theorem XE{V}{fs}{x}{a}{ks}{m}{k:Nat}(hH:V.H=H1 (gV fs) x)(he:eF V (nR [(7,.ptr 6 0),(13,bZ ks),(14,int m),(15,int k)]) a) :
 eF (Ol V (H2 (gV fs) x)) (nR [(7,.ptr 7 0),(13,bZ ks),(14,int m),(15,int k)]) a:=by
 refine bR.Kv (Tm hH) zQ ?_;have e:AV.kH Tk (nR [(7,.ptr 7 0),(13,bZ ks),(14,int m),(15,int k)])=nR [(7,.ptr 6 0),(13,bZ ks),(14,int m),(15,int k)]:=zQ
 exact he
theorem UZ{V0 V}{fs}{x}(h0:V0.H=HN (gV fs))(hH:V.H=H1 (gV fs) x)(hs:Step V0 V):Step V0 (Ol V (H2 (gV fs) x)):=by
 have hn:V0.H.length=6:=by rw[h0];rfl
 have amt:∀i,i<6->Tk i=i:=fun i hi=>by unfold Tk;grind
 refine⟨hs.os,hs.tape,hs.output,hs.size,hs.drawn,hs.keep,hs.data,?_,fun id dU=>?_,fun id dU=>?_⟩
 .rw [hn];show 6<=8;decide
 .have aqw:id<8:=dU;by_cases h6:id<6
  .have:=hs.fresh id (by rw[hH];show id<8;omega);show(id<V0.H.length/\V.ρ (Tk id)=V0.ρ id)\/_<=V.ρ (Tk id);grind
  .right;have h7:6<=Tk id/\Tk id<8:=by (unfold Tk;grind)
   rcases hs.fresh (Tk id) (by rw[hH];show Tk id<8;omega)with⟨h1,_⟩|h1
   .omega
   .exact h1
 .rw [hn]at dU;have h:=hs.eP id (by rw[hn];exact dU);unfold dL at h |-;rw[h0]at h |-;rw[hH]at h;match id,dU with
  |0,_=>exact h
  |1,_=>exact h
  |2,_=>exact h
  |3,_=>exact h
  |4,_=>exact h
  |5,_=>exact h
def afb(l:List CE)(fs:List Fe)(n:Nat)(a b c:Int):Prop:=∀(V:View)(T:ID->Prop),aD G V->V.H=HN (gV fs)->jA V T fs ->
 (T (a,b,c)/\∀z∈mq (bX l n a b c),T z)->((a,b,c)::mq (bX l n a b c)).Nodup->(bX l n a b c).length<=1000000 ->
 CallsIn Fence.wide 0 P 285 #[xL a b c,jG (V.ρ 2),jG (V.ρ 0),jG (V.ρ 5)] V.w fun e w'=>e = .returned (.tuple #[])/\∃V',V'.w=w'/\rJ (QL T fs) V V'/\aD G V' /\
  ((bX l n a b c=[]/\V'.H=HN (gV fs))\/bX l n a b c≠[]/\∃g',V'.H=HB (gV fs) g' (bX l n a b c).length (au (bX l n a b c)))
theorem abH(hL:QN l fs)(hI:Ids l)(hR:LC fs)(hv:l.length<=1000000)(n:Nat)(a b c:Int)(hD:Deep l (n+1) a b c)(ha:fO a)(hb:fO b)(hc:fO c):afb l fs (n+1) a b c:=by
 intro V T hG hH hF hT hN bL;have h0:V.H.length=6:=by rw[hH];rfl
 have kb:∀i cs,(HN (gV fs))[i]?=some (.box cs)->bY ah.vR V i:=fun i cs h=>⟨_,by rw[hH];exact h,rfl⟩;have wN:P.funcs[285]?=some JX:=zQ
 have XD:JX.body=some (.seq c0 (.seq c1 (.seq c2 (.seq c3 (.block 0 (.loop Xa)))))):=zQ
 have nid:∀(i:Nat)(o:ah),(HN (gV fs))[i]?=some o->o.bP (HN (gV fs)).length:=by
  intro i o ho;have hi:i<6:=(yC.1 ho).1
  match i,hi with
  |0,_=>injection ho with ho;subst ho;rfl
  |1,_=>injection ho with ho;subst ho;exact uI fs 6
  |2,_=>injection ho with ho;subst ho;rfl
  |3,_=>injection ho with ho;subst ho;trivial
  |4,_=>injection ho with ho;subst ho;trivial
  |5,_=>injection ho with ho;subst ho;rfl
 have nod:∀{V:View}{s:St}{a:Act},jO V s a->s.dh=[]->a.defers=[]:=fun{V s a} k e=>by
  have:=k.dh;rw[e]at this;cases UW:a.defers with
  |nil=>rfl
  |cons d l=>rw[UW]at this;cases this
 refine CJ wN XD ?_;refine bn.seq (p0n (gV fs) a b c) h0 (Step.refl V) hG (Tj hH (kb 2 _ rfl) (kb 0 _ rfl) (kb 5 _ rfl)) fun V1 a1 s1 g1 k1=>?_;have Ew:nC l n (oZ l a b c) 0=bX l (n+1) a b c:=by unfold nC;rw[drop_zero];rfl
 by_cases NT:∃f∈fs,f.id=(a,b,c)
 .obtain ⟨f,hf,hfi⟩:=NT;obtain⟨rfl,rfl,rfl⟩:f.a=a/\f.b=b/\f.c=c:=by
   have:(f.a,f.b,f.c)=(a,b,c):=hfi;simpa using this
  refine bn.seq (p1n (gV fs) f.a f.b f.c f.v true (Te hR hf) (uI fs 6)) h0 s1 g1 k1 fun V2 a2 s2 g2 k2=>?_;refine Go.wpIn_seq (Xv g2 k2 nid (by show 5<6;decide) (hF.step s2) hR hf hT.1 (hL.len f hf) fun V3 a3 ks hp Ob s3 g3 k3 f3=>?_);obtain rfl:=hL.oZ hI hf hp Ob;have LB:=Oj l f.a f.b f.c;have abI:∀y∈oZ l f.a f.b f.c,Gr l fs n y.dv y.sq y.gU:=fun y hy=>by
   obtain⟨r1,r2,r3⟩:=hL.iV y ((jc hI).1 hy).1;exact XC hL hI hR hv n _ _ _ (hD.Td hy) r1 r2 r3
  obtain⟨nd1,nd2⟩:=Hw hN;have hB:∀b,b=f.mo->QL T fs b:=fun b hb=>⟨f,hf,hT.1,hb.symm⟩;have hT1:∀z∈mq (bX l (n+1) f.a f.b f.c),T z/\z≠f.id:=fun z hz=>⟨hT.2 z hz,fun e=>nd2 (by rw[e]at hz;exact hz)⟩;generalize bX l (n+1) f.a f.b f.c=bl at *;generalize oZ l f.a f.b f.c=ks at *;have h03:V3.H.length=6:=by rw[k3.H];rfl
  refine bn.seq (amr (gV fs) ks) h03 (Step.refl V3) g3 k3 fun V4 a4 s4 g4 k4=>?_;rw[ay]at k4;refine Go.wpIn_block (eO.wpIn ?_);have f4:=f3.step s4;have h04:V4.H.length=6:=by rw[k4.H];rfl
  have sx:rJ (QL T fs) V V4:=((s2.x _).trans (s3.mono hB)).trans (s4.x _);rcases Nat.eq_zero_or_pos ks.length with hz|qh
  .have Ti:bl=[]:=by rw[<- Ew];exact Ku l n ks 0 zO
   refine eO.mono (pEn (gV fs) 0 ks.length (bZ ks) (by rw[hz];decide) V4 V4 a4 h04 (Step.refl V4) g4 k4) ?_;rintro e a' w' ⟨V',rfl,q1,q2,q3,q4⟩;cases e<;>first|exact q4.elim|skip
   rename_i i;obtain rfl:i=0:=q4;exact⟨.inl rfl,nod q3 rfl,_,Oi _ _,rfl,V',rfl,sx.trans (q1.x _),q2,.inl ⟨Ti,q3.H⟩⟩
  .have hx:ks[0]?=some ks[0]:=yA qh;have hr:=Og l n ks 0 qh;have QO:ks[0]∈ks:=y03 qh;generalize hxe:ks[0]=x at *;rw[Ew]at hr;rw[hr]at bL hT1 nd1;rw[wS,BH]at hT1 nd1;obtain⟨n1,n2,n3⟩:=nodup_append.1 nd1;have aik:1+(bX l n x.dv x.sq x.gU).length+(nC l n ks (0+1)).length<=1000000:=by
    simp only[yD,yE]at bL;omega
   refine eO.next ?_;show Xa.wpIn (fz none) 0 P _ a4 V4.w;rw[Xu];refine bn.seq (p4n (gV fs) ks 0 ks.length (y15 zO)) h04 (Step.refl V4) g4 k4 fun V5 a5 s5 g5 k5=>?_;refine bn.seq (pIn (gV fs) ks 0 ks.length) h04 s5 g5 k5 fun V6 a6 s6 g6 k6=>?_;refine Go.wpIn_seq (Go.wpIn_block ?_);refine bn.seq (p5n (gV fs) ks 0 x ks.length ⟨zD,by rw[y26,sF,hx];rfl⟩) h04 s6 g6 k6 fun V7 a7 s7 g7 k7=>?_;refine bn.seq (p6n (gV fs) ks 0 x ks.length) h04 s7 g7 k7 fun V8 a8 s8 g8 k8=>?_;have hH8:V8.H=H1 (gV fs) x:=k8.H;have gs:=UY hH8 g8;have ss:=UZ k4.H hH8 s8;have ks8:jO (Ol V8 (H2 (gV fs) x)) ⟨nR [(7,.ptr 7 0),(13,bZ ks),(14,int ks.length),(15,int (0:Nat))],HB (gV fs) 0 [x].length (au [x])++[.box (aQ x)],[]⟩ a8:=⟨XE hH8 k8.aL,rfl,by
    have:=nod k8 rfl;rw[this];exact .nil⟩
   refine Xz (V0:=V4) zO ss gs ks8 (f4.step ss) (abI x QO) ⟨hT1 _ zS,fun z hz=>hT1 z (by simp[hz])⟩ n1 (by show 1+_<=_;omega) fun V9 a9 g9 s9 g9' k9 f9=>?_;show c8.wpIn (fz none) 0 P _ a9 V9.w;have h09:V9.H.length=7:=by rw[k9.H];rfl
   refine p8b (gV fs) g9 ([x]++bX l n x.dv x.sq x.gU).length (au ([x]++bX l n x.dv x.sq x.gU)) ks 0 ks.length zO V9 V9 a9 _ _ h09 (Step.refl V9) g9' k9 fun Va aa sa ga ka=>?_;refine Oh (l:=l) (fs:=fs) (n:=n) (ks:=ks) zO abI _ (0+1) rfl qh Va aa (fun z=>(T z/\z≠f.id)/\z≠x.id/\z∉mq (bX l n x.dv x.sq x.gU)) ([x]++bX l n x.dv x.sq x.gU) g9 ga ka (f9.step sa) (fun z hz=>?_) n2 (by simp only[yD,yE,y11];omega) ?_
   .refine ⟨hT1 z (by simp[hz]),fun e=>?_,fun hm=>?_⟩
    .exact n3 x.id zS z hz e.symm
    .exact n3 z (by simp[hm]) z hz rfl
   .intro Vb ab gb sb gb' kb' fb;have e3:[x]++bX l n x.dv x.sq x.gU++nC l n ks (0+1)=bl:=by rw[hr];simp
    rw[e3]at kb';refine⟨.inl rfl,nod kb' rfl,_,Oi _ _,rfl,Vb,rfl,?_,gb',.inr ⟨by rw[hr];simp,gb,kb'.H⟩⟩;exact((sx.trans (s9.mono (Aj fun z h=>h.1))).trans (sa.x _)).trans (sb.mono (Aj fun z h=>h.1.1))
 .have xY:∀f∈fs,f.id≠(a,b,c):=fun f hf e=>NT ⟨f,hf,e⟩;have hk0:=hL.none hI xY;have Ti:bX l (n+1) a b c=[]:=by rw[bX,hk0];rfl
  refine bn.seq (p1n (gV fs) a b c (.slice none 0 0) false (N8 hR ha hb hc xY) (uI fs 6)) h0 s1 g1 k1 fun V2 a2 s2 g2 k2=>?_;refine bn.seq (p2n (gV fs)) h0 s2 g2 k2 fun V3 a3 s3 g3 k3=>?_;refine bn.seq (amq (gV fs)) h0 s3 g3 k3 fun V4 a4 s4 g4 k4=>?_;refine Go.wpIn_block (eO.wpIn ?_);refine eO.mono (pEn (gV fs) 0 0 aK zD V V4 a4 h0 s4 g4 k4) ?_;rintro e a' w' ⟨V',rfl,q1,q2,q3,q4⟩;cases e<;>first|exact q4.elim|skip
  rename_i i;obtain rfl:i=0:=q4;exact⟨.inl rfl,nod q3 rfl,_,Oi _ _,rfl,V',rfl,q1.x _,q2,.inl ⟨Ti,q3.H⟩⟩
def C13:Code:=oW P 238
def Qw:Code:=vg P 238 0
def a0:Code:=Code.hd C13
def a1:Code:=Code.hd (Code.tl C13)
def a2:Code:=Code.hd (Code.tl (Code.tl C13))
def a3:Code:=Code.hd (Code.hd (Code.tl (Code.tl (Code.tl C13))))
def aR:Code:=Code.tl (Code.tl (Code.tl (Code.tl C13)))
def a13:Code:=Code.hd aR
def a14:Code:=Code.hd (Code.tl aR)
def a15:Code:=Code.hd (Code.tl (Code.tl aR))
def aE:Code:=Code.tl (Code.tl (Code.tl aR))
def q4:Code:=Code.hd Qw
def qI:Code:=Code.hd (Code.tl Qw)
def qB:Code:=Code.Tf (Code.hd (Code.tl (Code.tl Qw)))
def q12:Code:=Code.tl (Code.tl (Code.tl Qw))
def q5:Code:=Code.hd qB
def q6:Code:=Code.hd (Code.tl qB)
def q7:Code:=Code.hd (Code.hd (Code.tl (Code.tl qB)))
def q8:Code:=Code.hd (Code.tl (Code.hd (Code.tl (Code.tl qB))))
def q9:Code:=Code.tl (Code.tl (Code.hd (Code.tl (Code.tl qB))))
def q10:Code:=Code.hd (Code.tl (Code.tl (Code.tl qB)))
def q11:Code:=Code.tl (Code.tl (Code.tl (Code.tl qB)))
theorem afc:Qw = .seq q4 (.seq qI (.seq (.block 1 (.seq q5 (.seq q6 (.seq (.seq q7 (.seq q8 q9)) (.seq q10 q11))))) q12)):=zQ
def HO(es kn tm:List (Value×AV)):List ah:=[.box [aK],.map es,.box [.mp 1],.map kn,.map tm]
def qE(cs:List CE)(k:Nat)(l:List (Nat×AV)):List AV:=aC 77 ([(0,bZ cs),(2,.ptr 0 0),(4,.ptr 2 0),(5,.mp 3),(6,.mp 4),(15,bZ cs),(16,int cs.length),(17,int k)]++l)
def dt(x:CE):List AV:=[int x.dv,int x.sq]
section
variable (es kn tm:List (Value×AV)) (cs:List CE) (k i n:Nat) (x:CE) (t:Int) (ok b:Bool) (xs:List (List AV))
theorem b4(bg:k<cs.length):bn P G none 5 q4 ⟨qE cs k [],HO es kn tm,[]⟩ ⟨qE cs k [(18,bool true)],HO es kn tm,[]⟩:=by
 have h:bn P G none 5 q4 ⟨qE cs k [],HO es kn tm,[]⟩ ⟨qE cs k [(18,bool (decide ((k:Int)<cs.length)))],HO es kn tm,[]⟩:=bM [] (aB 77 [0,2,4,5,6,15,16,17,18]) 5 zQ;grind
theorem bI:bn P G none 5 qI ⟨qE cs k [(18,bool true)],HO es kn tm,[]⟩ ⟨qE cs k [],HO es kn tm,[]⟩:=bM [kt (Eq.refl true)] (aB 77 [0,2,4,5,6,15,16,17]) 5 zQ
theorem bE(Ct:cs.length<=k):bN P G none 5 Qw ⟨qE cs k [],HO es kn tm,[]⟩ (.exit 0) ⟨qE cs k [],HO es kn tm,[]⟩:=aG [kf (qF (by omega:¬(k:Int)<cs.length))] (aB 77 [0,2,4,5,6,15,16,17]) 5
theorem b5(h:(0:Int)<=k/\(au cs)[(k:Int).toNat]?=some (aQ x)):bn P G none 5 q5 ⟨qE cs k [],HO es kn tm,[]⟩ ⟨qE cs k [(8,.ptr 5 0)],HO es kn tm++[.box (aQ x)],[]⟩:=bM [ko (.elem (aQ x)),kp h] (aB 77 [0,2,4,5,6,15,16,17,8]) 6 zQ
theorem b6:bn P G none 5 q6 ⟨qE cs k [(8,.ptr 5 0)],HO es kn tm++[.box (aQ x)],[]⟩ ⟨qE cs k [(8,.ptr 5 0),(9,.ptr 6 0)],HO es kn tm++[.box (aQ x),.box (dt x)],[]⟩:=bM [] (aB 77 [0,2,4,5,6,15,16,17,8,9]) 7 zQ
theorem b7(h:bT P 27 tm (fV x.dv x.sq) (int 0) (int t) ok):bn P G none 5 q7 ⟨qE cs k [(8,.ptr 5 0),(9,.ptr 6 0)],HO es kn tm++[.box (aQ x),.box (dt x)],[]⟩ ⟨qE cs k [(8,.ptr 5 0),(9,.ptr 6 0),(10,int t)],HO es kn tm++[.box (aQ x),.box (dt x)],[]⟩:=bM [ko (.lJ (int t) ok),kp h] (aB 77 [0,2,4,5,6,15,16,17,8,9,10]) 7 zQ
theorem b8a(hv:Cq 284 [nP x] (bool false)):bn P G none 5 q8 ⟨qE cs k [(8,.ptr 5 0),(9,.ptr 6 0),(10,int t)],HO es kn tm++[.box (aQ x),.box (dt x)],[]⟩ ⟨qE cs k [(8,.ptr 5 0),(9,.ptr 6 0),(49,bool true)],HO es kn tm++[.box (aQ x),.box (dt x)],[]⟩ :=
 bM [kc [] hv,kt (rfl:(!false)=true),kt (Eq.refl true)] (aB 77 [0,2,4,5,6,15,16,17,8,9,49]) 7 zQ
theorem b8b(hv:Cq 284 [nP x] (bool true))(h:bT P 31 kn (xL x.dv x.sq x.gU) (bool false) (bool true) ok):bn P G none 5 q8 ⟨qE cs k [(8,.ptr 5 0),(9,.ptr 6 0),(10,int t)],HO es kn tm++[.box (aQ x),.box (dt x)],[]⟩ ⟨qE cs k [(8,.ptr 5 0),(9,.ptr 6 0),(49,bool true)],HO es kn tm++[.box (aQ x),.box (dt x)],[]⟩ :=
 bM [kc [] hv,kf (rfl:(!true)=false),ko (.lJ (bool true) ok),kp h,kt (Eq.refl true)] (aB 77 [0,2,4,5,6,15,16,17,8,9,49]) 7 zQ
theorem b8c(hv:Cq 284 [nP x] (bool true))(h:bT P 31 kn (xL x.dv x.sq x.gU) (bool false) (bool false) ok)(ht:(t != 0)=false):bn P G none 5 q8 ⟨qE cs k [(8,.ptr 5 0),(9,.ptr 6 0),(10,int t)],HO es kn tm++[.box (aQ x),.box (dt x)],[]⟩ ⟨qE cs k [(8,.ptr 5 0),(9,.ptr 6 0),(49,bool false)],HO es kn tm++[.box (aQ x),.box (dt x)],[]⟩ :=
 bM [kc [] hv,kf (rfl:(!true)=false),ko (.lJ (bool false) ok),kp h,kf (Eq.refl false),kf ht] (aB 77 [0,2,4,5,6,15,16,17,8,9,49]) 7 zQ
theorem b8d(hv:Cq 284 [nP x] (bool true))(h:bT P 31 kn (xL x.dv x.sq x.gU) (bool false) (bool false) ok)(ht:(t != 0)=true):bn P G none 5 q8 ⟨qE cs k [(8,.ptr 5 0),(9,.ptr 6 0),(10,int t)],HO es kn tm++[.box (aQ x),.box (dt x)],[]⟩ ⟨qE cs k [(8,.ptr 5 0),(9,.ptr 6 0),(49,bool (t != x.tm))],HO es kn tm++[.box (aQ x),.box (dt x)],[]⟩ :=
 bM [kc [] hv,kf (rfl:(!true)=false),ko (.lJ (bool false) ok),kp h,kf (Eq.refl false),kt ht] (aB 77 [0,2,4,5,6,15,16,17,8,9,49]) 7 zQ
theorem b9:bn P G none 5 q9 ⟨qE cs k [(8,.ptr 5 0),(9,.ptr 6 0),(49,bool false)],HO es kn tm++[.box (aQ x),.box (dt x)],[]⟩ ⟨qE cs k [(8,.ptr 5 0),(9,.ptr 6 0)],HO es kn tm++[.box (aQ x),.box (dt x)],[]⟩:=bM [kf (Eq.refl false)] (aB 77 [0,2,4,5,6,15,16,17,8,9]) 7 zQ
theorem b10(kn' tm':List (Value×AV))(h1:jm P 31 kn (xL x.dv x.sq x.gU) (bool true) kn')(h2:jm P 27 tm (fV x.dv x.sq) (int x.tm) tm'):bn P G none 5 q10 ⟨qE cs k [(8,.ptr 5 0),(9,.ptr 6 0)],HO es kn tm++[.box (aQ x),.box (dt x)],[]⟩ ⟨qE cs k [(8,.ptr 5 0)],HO es kn' tm'++[.box (aQ x),.box (dt x)],[]⟩ :=
 bM [ko (.wT kn'),ko (.wT tm'),kp h1,kp h2] (aB 77 [0,2,4,5,6,15,16,17,8]) 7 zQ
theorem amu(uz:List (Value×AV))(h:Ey P 31 es (xL x.ad x.j6 x.aa) aK aK i uz)(hi:i<uz.length):bn P G none 7 q11 ⟨qE cs k [(8,.ptr 5 0)],HO es kn tm++[.box (aQ x),.box (dt x)],[]⟩ ⟨qE cs k [],HO (CK uz i (.aU 7 0 0 1)) kn tm++[.box (aQ x),.box (dt x),.aN 0 9 false [aQ x]],[]⟩ :=
 bM [ko (.afd aK i uz),kp h,kp (show[aQ x]≠[] by simp),kp (show 1*80<=140737488355328 by decide),kp hi] (aB 77 [0,2,4,5,6,15,16,17]) 8 zQ
theorem amv(uz:List (Value×AV))(h:Ey P 31 es (xL x.ad x.j6 x.aa) aK (.aU 7 0 0 n) i uz)(hn:n=xs.length)(hm:(n+1)*80<=140737488355328)(hi:i<uz.length):bn P G none 8 q11 ⟨qE cs k [(8,.ptr 5 0)],HO es kn tm++[.box (aQ x),.box (dt x)]++[.aN 0 9 false xs],[]⟩ ⟨qE cs k [],HO (CK uz i (.aU 7 1 0 (n+1))) kn tm++[.box (aQ x),.box (dt x),.aN 1 9 false (xs++[aQ x])],[]⟩ :=
 bM [ko (.afd (.aU 7 0 0 n) i uz),kp h,kp (rfl:0=0),kp hn,kp hm,kp hi] (aB 77 [0,2,4,5,6,15,16,17]) 8 zQ
theorem b12(hk:k<1000000):bn P G none 5 q12 ⟨qE cs k [],HO es kn tm,[]⟩ ⟨qE cs (k+1) [],HO es kn tm,[]⟩:=by
 have h:bn P G none 5 q12 ⟨qE cs k [],HO es kn tm,[]⟩ ⟨aC 77 [(0,bZ cs),(2,.ptr 0 0),(4,.ptr 2 0),(5,.mp 3),(6,.mp 4),(15,bZ cs),(16,int cs.length),(17,int (IntKind.wrap .i64 (k+1)))],HO es kn tm,[]⟩:=bM [] (aB 77 [0,2,4,5,6,15,16,17]) 5 zQ;have e:IntKind.wrap .i64 (k+1)=(k+1:Nat):=by
  simp[IntKind.wrap,IntKind.bits];omega
 rw[e]at h;exact h
end
def ALL(_:ID):Prop:=True
theorem wU us:(gV us).length=us.length:=by simp[gV]
def uo(us:List Fe)(f:Fe)(y:AV)(bs:List Fe):List (Value×AV):=gV us++(f.key,y)::gV bs
theorem LJ us(f:Fe)bs:uo us f (.lit f.v) bs=gV (us++f::bs):=by simp[uo,gV]
theorem yZ us(f:Fe)(y z:AV)bs:(uo us f y bs).map (·.1)=(uo us f z bs).map (·.1):=by simp[uo]
theorem CO us(f:Fe)(y:AV)bs:(uo us f y bs).length=us.length+(bs.length+1):=by simp[uo,gV]
theorem Hy us(f:Fe)(y:AV)bs(j:Nat):uq (uo us f y bs) j=if j=us.length then y else uq (uo us f (.lit f.v) bs) j:=by
 unfold uq uo;split
 .grind [getElem?_append_right,wU]
 .rcases y08 j us.length with hl|hl
  .grind [getElem?_append_left,wU]
  .grind [getElem?_append_right,wU]
theorem Kw us(f:Fe)bs(j:Nat):(∃v,uq (uo us f (.lit f.v) bs) j = .lit v)\/us.length+(bs.length+1)<=j:=by
 rw[LJ];rcases y08 j (gV (us++f::bs)).length with h|h
 .obtain⟨k,hm⟩:=LK h;obtain⟨g,_,hg⟩:=yG.1 hm;grind
 .rw[wU]at h;grind
theorem Om us(f:Fe)(y z:AV)bs:CK (uo us f y bs) us.length z=uo us f z bs:=by
 unfold CK uo;have:=(wU us).symm;apply ext_getElem?;grind
def vv(l:List (Value×AV)):Prop:=∀e∈l,∃v,e.2 = .lit v
theorem CP{l}(h:vv l)n:∀e∈l,e.2.bP n=true:=fun e he=>by
 obtain⟨v,hv⟩:=h e he;rw[hv];rfl
theorem abJ{V}{w}{v}{b cap}{l}{c}{t}{g}(h:JR w v b l cap c t)(hw:V.w=w):fZ V b (.aN g 9 false (au l)):=by
 subst hw;refine⟨t,c,h.mo,by rw[ay,<- h.size];exact y22 _ h.le,fun x hx=>?_,fun k j hk hj=>?_⟩
 .obtain ⟨y,_,rfl⟩:=yG.1 hx;rfl
 .rw [ay]at hk;have hx:=yA hk;refine⟨_,h.cell k l[k] j hx hj,?_,?_⟩
  .have hj':=hj;refine Ht l[k] _ ?_;rw[yB,yA hj'];grind
  .have e:(au l).getD k []=aQ l[k]:=by rw[yB,sF,hx];rfl
   rw[e]
   match j,hj with
   |0,_=>exact .pure _ _ (.lit _)
   |1,_=>exact .pure _ _ (.lit _)
   |2,_=>exact .pure _ _ (.lit _)
   |3,_=>exact .pure _ _ (.lit _)
   |4,_=>exact .pure _ _ (.lit _)
   |5,_=>exact .pure _ _ (.lit _)
   |6,_=>exact .pure _ _ (.lit _)
   |7,_=>exact .pure _ _ (.lit _)
   |8,_=>exact .pure _ _ (.lit _)
def focus(V:View)(b:Nat)(H:List ah):View:={ V with H:=H,ρ:=fun i=>if i=7 then b else V.ρ i }
def HF(es kn tm:List (Value×AV))(o5 o6:ah)(g:Nat)(l:List CE):List ah:=HO es kn tm++[o5,o6,.aN g 9 false (au l)]
theorem Fq{V}{us bs}{f}{y}{kn tm}{o5 o6}{l}{g b}(hH:V.H=HO (gV (us++f::bs)) kn tm++[o5,o6]):Kq 7 V (focus V b (HF (uo us f y bs) kn tm o5 o6 g l)):=by
 refine⟨fun _ _ h=>⟨rfl,h⟩,fun id h1 h2=>⟨yK zO,rfl,?_⟩⟩;rw[hH]
 match id,h1 with
 |0,_=>exact .inl rfl
 |1,_=>exact .inr ⟨_,_,rfl,rfl⟩
 |2,_=>exact .inl rfl
 |3,_=>exact .inl rfl
 |4,_=>exact .inl rfl
 |5,_=>exact .inl rfl
 |6,_=>exact .inl rfl
theorem QS{us bs:List Fe}{kn tm:List (Value×AV)}{x:CE}(hG:aD G V)(hH:V.H=HO (gV (us++f::bs)) kn tm++[.box (aQ x),.box (dt x)])(hF:jA V ALL (us++f::bs))(hkn:vv kn)(htm:vv tm) :
 aD G (focus V f.mo (HF (uo us f (.aU 7 0 0 f.l.length) bs) kn tm (.box (aQ x)) (.box (dt x)) 0 f.l)):=by
 have hf:f∈us++f::bs:=zS
 obtain⟨cap,c,t,hk⟩:=hF.Td f hf trivial;have Oa:=hF.off f hf trivial;have hM:=hF.mt f hf trivial;have h7:V.H.length=7:=by rw[hH];rfl
 have h8:(focus V f.mo (HF (uo us f (.aU 7 0 0 f.l.length) bs) kn tm (.box (aQ x)) (.box (dt x)) 0 f.l)).H.length=8:=rfl;have hal:=Fq (y:=.aU 7 0 0 f.l.length) (l:=f.l) (g:=0) (b:=f.mo) hH;refine aD.lF hal hG (fun id dU=>?_) (fun i j hi hj e=>?_) fun id o ho=>?_
 .show (if id=7 then f.mo else V.ρ id)<V.w.heap.size;split
  .exact hk.lt
  .exact hG.lt id zO
 .have e':(if i=7 then f.mo else V.ρ i)=(if j=7 then f.mo else V.ρ j):=e;rw[h8]at hi hj;split at e'<;>split at e'
  .omega
  .exact absurd e'.symm (Oa j zO)
  .exact absurd e' (Oa i zO)
  .exact hG.inj i j zO zO e'
 .have hi:=(yC.1 ho).1;have mt:∀i o,V.H[i]?=some o->i≠7->o.open_=true->(focus V f.mo (HF (uo us f (.aU 7 0 0 f.l.length) bs) kn tm (.box (aQ x)) (.box (dt x)) 0 f.l)).M ((focus V f.mo (HF (uo us f (.aU 7 0 0 f.l.length) bs) kn tm (.box (aQ x)) (.box (dt x)) 0 f.l)).ρ i):=fun i o h fF bA=>by
   show V.M (if i=7 then f.mo else V.ρ i);rw[yK fF];exact hG.gW i o h bA
  have keep:∀i o,i<7->V.H[i]?=some o->o.bP 7->((i<7/\V.H[i]?=some o/\o.bP 7)\/fZ (focus V f.mo (HF (uo us f (.aU 7 0 0 f.l.length) bs) kn tm (.box (aQ x)) (.box (dt x)) 0 f.l)) ((focus V f.mo (HF (uo us f (.aU 7 0 0 f.l.length) bs) kn tm (.box (aQ x)) (.box (dt x)) 0 f.l)).ρ i) o)/\(o.open_=true->(focus V f.mo (HF (uo us f (.aU 7 0 0 f.l.length) bs) kn tm (.box (aQ x)) (.box (dt x)) 0 f.l)).M ((focus V f.mo (HF (uo us f (.aU 7 0 0 f.l.length) bs) kn tm (.box (aQ x)) (.box (dt x)) 0 f.l)).ρ i)):=fun i o hi h h2=>⟨.inl ⟨hi,h,h2⟩,mt i o h zO⟩
  match id,hi with
  |0,_=>injection ho with ho;subst ho;exact keep 0 _ zD (by rw[hH];rfl) rfl
  |1,_ =>
   injection ho with ho;subst ho;refine⟨.inr ?_,fun _=>mt 1 (.map (gV (us++f::bs))) (by rw[hH];rfl) zD rfl⟩;obtain⟨ents,clock,k1,k2,k3,k4,k5,k6⟩:=hG.eP 1 (.map (gV (us++f::bs))) (by rw[hH];rfl);rw[<- LJ]at k2 k3 k6;refine⟨ents,clock,k1,k2.trans (yZ us f _ _ bs),by rw[yZ us f _ (.lit f.v) bs];exact k3,k4,k5,fun j hj=>?_⟩;rw[CO]at hj k6;rw[Hy];split
   .rename_i e;have hr:=k6 j hj;rw[Hy,yL e]at hr;rw[bW hr];refine .aU 7 0 0 f.l.length f.v ⟨by rw[hk.val];rfl,?_⟩;show 0<=0/\(0=0->qR _ 7 9 0 f.l.length f.v);exact⟨yM,fun _=>⟨_,cap,c,t,hk.val,fun _=>rfl,hk.le,hk.max,hk.mo,by rw[y09];exact hk.size⟩⟩
   .rcases Kw us f bs j with⟨v,hv⟩|h
    .have hr:=k6 j hj;rw[hv]at hr |-;rw[bW hr];exact .pure _ _ (.lit _)
    .omega
  |2,_=>injection ho with ho;subst ho;exact keep 2 _ zD (by rw[hH];rfl) rfl
  |3,_=>injection ho with ho;subst ho;exact keep 3 _ zD (by rw[hH];rfl) (CP hkn 7)
  |4,_=>injection ho with ho;subst ho;exact keep 4 _ zD (by rw[hH];rfl) (CP htm 7)
  |5,_=>injection ho with ho;subst ho;exact keep 5 _ zD (by rw[hH];rfl) rfl
  |6,_=>injection ho with ho;subst ho;exact keep 6 _ zD (by rw[hH];rfl) rfl
  |7,_ =>
   injection ho with ho;subst ho;exact⟨.inr (abJ hk rfl),fun _=>hM⟩
theorem unfocus{V}{us bs}{f}{kn tm}{o5 o6}{g}{l}(hG:aD G V)(hH:V.H=HF (uo us f (.aU 7 g 0 l.length) bs) kn tm o5 o6 g l)(hF:jA V ALL (us++bs))(hkn:vv kn)(htm:vv tm)(hl:l≠[]) :
 ∃v,aD G { V with H:=HO (gV (us++⟨f.a,f.b,f.c,v,V.ρ 7,l⟩::bs)) kn tm }/\jA { V with H:=HO (gV (us++⟨f.a,f.b,f.c,v,V.ρ 7,l⟩::bs)) kn tm } ALL (us++⟨f.a,f.b,f.c,v,V.ρ 7,l⟩::bs) /\
  Kq 5 V { V with H:=HO (gV (us++⟨f.a,f.b,f.c,v,V.ρ 7,l⟩::bs)) kn tm }:=by
 have h8:V.H.length=8:=by rw[hH];rfl
 obtain⟨ents,clock,k1,k2,k3,k4,k5,k6⟩:=hG.eP 1 (.map (uo us f (.aU 7 g 0 l.length) bs)) (by rw[hH];rfl);have bL:us.length<(uo us f (.aU 7 g 0 l.length) bs).length:=by rw[CO];omega
 have hr:=k6 us.length bL;rw[Hy,yL rfl]at hr;generalize hv:gI ents us.length=v at hr;refine⟨v,?_⟩;have xZ:=(wV hr).2;rw[hH]at xZ;have xZ:=xZ.2 rfl;obtain⟨A,cap,c,t,rfl,o1,o2,o3,o4,o5'⟩:=xZ;obtain⟨t',c',a1,a2,a3,a4⟩:=hG.eP 7 (.aN g 9 false (au l)) (by rw[hH];rfl);rw[o4]at a1;injection a1 with a1;injection a1 with e1 e2 e3;subst e1 e2;rw[ay]at a2;have hc0:cap≠0:=by grind
 have abI:JR V.w (.slice A l.length cap) (V.ρ 7) l cap c t:=by
  refine⟨by rw[o1 hc0],o4,o2,o3,by rw[y09]at o5';exact o5',fun k x j hk hj=>?_⟩;have LB:=(yC.1 hk).1;obtain⟨u,u1,_,u3⟩:=a4 k j (by rw[ay];exact LB) hj;have e:(au l).getD k []=aQ x:=by rw[yB,sF,hk];rfl
  rw[e]at u3;rw[u1];congr 1
  match j,hj with
  |0,_=>exact bW u3
  |1,_=>exact bW u3
  |2,_=>exact bW u3
  |3,_=>exact bW u3
  |4,_=>exact bW u3
  |5,_=>exact bW u3
  |6,_=>exact bW u3
  |7,_=>exact bW u3
  |8,_=>exact bW u3
 generalize hvv:Value.slice A l.length cap=v at *;have hM7:=hG.gW 7 (.aN g 9 false (au l)) (by rw[hH];rfl) rfl;have hal:Kq 5 V { V with H:=HO (gV (us++⟨f.a,f.b,f.c,v,V.ρ 7,l⟩::bs)) kn tm }:=by
  refine⟨fun _ _ h=>⟨rfl,h⟩,fun id h1 h2=>⟨rfl,rfl,?_⟩⟩;show(HO (gV (us++⟨f.a,f.b,f.c,v,V.ρ 7,l⟩::bs)) kn tm)[id]?=V.H[id]?\/∃e e',V.H[id]?=some (.map e)/\(HO (gV (us++⟨f.a,f.b,f.c,v,V.ρ 7,l⟩::bs)) kn tm)[id]?=some (.map e');rw[hH]
  match id,h1 with
  |0,_=>exact .inl rfl
  |1,_=>exact .inr ⟨_,_,rfl,rfl⟩
  |2,_=>exact .inl rfl
  |3,_=>exact .inl rfl
  |4,_=>exact .inl rfl
 refine⟨aD.lF hal hG (fun id dU=>hG.lt id (by have:id<5:=dU;omega)) (fun i j hi hj e=>hG.inj i j (by have:i<5:=hi;omega) (by have:j<5:=hj;omega) e) fun id o ho=>?_,?_,hal⟩
 .have hi:id<5:=(yC.1 ho).1;have keep:∀i o,i<5->V.H[i]?=some o->o.bP 5->((i<5/\V.H[i]?=some o/\o.bP 5)\/fZ { V with H:=HO (gV (us++⟨f.a,f.b,f.c,v,V.ρ 7,l⟩::bs)) kn tm } (V.ρ i) o)/\(o.open_=true->V.M (V.ρ i)):=fun i o hi h h2=>⟨.inl ⟨hi,h,h2⟩,fun bA=>hG.gW i o h bA⟩
  match id,hi with
  |0,_=>injection ho with ho;subst ho;exact keep 0 _ zD (by rw[hH];rfl) rfl
  |1,_ =>
   injection ho with ho;subst ho;refine⟨.inr ?_,fun _=>hG.gW 1 (.map (uo us f (.aU 7 g 0 l.length) bs)) (by rw[hH];rfl) rfl⟩;have ef:gV (us++⟨f.a,f.b,f.c,v,V.ρ 7,l⟩::bs)=uo us f (.lit v) bs:=by simp[uo,gV,Fe.key]
   rw[ef];refine⟨ents,clock,k1,k2.trans (yZ us f _ _ bs),by rw[yZ us f _ (.aU 7 g 0 l.length) bs];exact k3,k4,k5,fun j hj=>?_⟩;rw[CO]at hj k6;rw[Hy];split
   .rename_i e;rw[e,hv];exact .pure _ _ (.lit _)
   .rename_i fF;rcases Kw us f bs j with⟨u,hu⟩|h
    .have hr:=k6 j hj;rw[Hy,yK fF,hu]at hr;rw[hu,bW hr];exact .pure _ _ (.lit _)
    .omega
  |2,_=>injection ho with ho;subst ho;exact keep 2 _ zD (by rw[hH];rfl) rfl
  |3,_=>injection ho with ho;subst ho;exact keep 3 _ zD (by rw[hH];rfl) (CP hkn 5)
  |4,_=>injection ho with ho;subst ho;exact keep 4 _ zD (by rw[hH];rfl) (CP htm 5)
 .have mem:∀q,q∈us++(⟨f.a,f.b,f.c,v,V.ρ 7,l⟩:Fe)::bs->q=⟨f.a,f.b,f.c,v,V.ρ 7,l⟩\/q∈us++bs:=fun q hq=>by
   rcases yI.1 hq with h|h
   .exact .inr (mem_append_left _ h)
   .rcases yH.1 h with h|h
    .exact .inl h
    .exact .inr (mem_append_right _ h)
  refine⟨fun q hq _=>?_,fun q hq _=>?_,fun q hq _ i hi=>?_,fun q hq r hr _ _ e=>?_⟩
  .rcases mem q hq with rfl|h
   .exact ⟨cap,c,t,abI⟩
   .exact hF.Td q h trivial
  .rcases mem q hq with rfl|h
   .exact hM7
   .exact hF.mt q h trivial
  .have hi5:i<5:=hi;rcases mem q hq with rfl|h
   .intro e;have:=hG.inj i 7 zO zO e;omega
   .exact hF.off q h trivial i zO
  .rcases mem q hq with rfl|h<;>rcases mem r hr with rfl|h'
   .rfl
   .exact absurd e (hF.off r h' trivial 7 zO)
   .exact absurd e.symm (hF.off q h trivial 7 zO)
   .exact hF.nS q h r h' trivial trivial e
end Go.Sq
namespace Go.Sq
open Go Go.Am
theorem pq{α:Type}[DecidableEq α]:∀{L l:List α},L.Nodup->(∀x∈L,x∈l)->L.length<=l.length
 |[],_,_,_=>yN
 |x::L,l,h,hs=>by
  obtain⟨h1,h2⟩:=nodup_cons.1 h;have:=pq  h2 fun y hy=>(mem_erase_of_ne (fun e:y=x=>h1 (by rw[<- e];exact hy))).2 (hs y (yF _ hy));grind
theorem LM{l}{x}:∀{n i},i+n<=l.length->(clN l x n i=false↔∀j y,i<=j->j<i+n->l[j]?=some y->kP x y=false)
 |0,i,_=>by simp[clN];omega
 |n+1,i,h=>by
  have hi:l[i]?=some (l[i]'zO):=yA zO;rw[clN,hi];simp only[Bool.or_eq_false_iff,LM (l:=l)  (n:=n) (i:=i+1) zO];grind
theorem Tn{l}:∀{n k},k+n=l.length->(foN l n k=true↔∀j x,k<=j->l[j]?=some x->okC l j x=true)
 |0,k,h=>by
  simp only[foN];grind
 |n+1,k,h=>by
  have hi:l[k]?=some (l[k]'zO):=yA zO;rw[foN,hi];simp only[y04,Tn (l:=l) (n:=n) (k:=k+1) zO];grind
structure Ok(l:List CE):Prop where
 valid:∀x∈l,dF x=true
 nS:l.Pairwise fun y x=>kP x y=false
theorem afe{l}:foN l l.length 0=true↔Ok l:=by
 rw[Tn zO];constructor
 .intro h;refine⟨fun x hx=>?_,pairwise_iff_getElem.2 fun i j hi hj wQ=>?_⟩
  .obtain ⟨j,hj⟩:=mem_iff_getElem?.1 hx;have:=h j x zO hj;simp only[okC,y04]at this;grind
  .have:=h j l[j] zO (yA hj);simp only[okC,y04,Bool.not_eq_true']at this;exact(LM zO).1 this.2 i l[i] zO zO (yA hi)
 .intro h j x _ hx;obtain⟨hj,rfl⟩:=yC.1 hx;simp only[okC,y04,Bool.not_eq_true'];refine⟨h.valid _ (y03 hj),(LM zO).2 fun i y _ hi hy=>?_⟩;obtain⟨hi',rfl⟩:=yC.1 hy;exact pairwise_iff_getElem.1 h.nS i j hi' hj zO
theorem Oo{x y}(h:kP x y=false):y.id≠x.id:=fun e=>by
 simp only[CE.id,Prod.mk.injEq]at e;simp[kP,e.1,e.2.1,e.2.2]at h
theorem Ok.iw{l}(h:Ok l):Ids l:=h.nS.imp fun{_ _} h=>Oo h
theorem Ok.one{l}(h:Ok l){x y}(hx:x∈l)(hy:y∈l)(e:x.id=y.id):x=y:=by
 obtain⟨i,hi,rfl⟩:=getElem_of_mem hx;obtain⟨j,hj,rfl⟩:=getElem_of_mem hy;rcases Nat.lt_trichotomy i j with h'|h'|h'
 .exact absurd e (pairwise_iff_getElem.1 h.iw i j hi hj h')
 .subst h';rfl
 .exact absurd e.symm (pairwise_iff_getElem.1 h.iw j i hj hi h')
theorem XF{x}(h:dF x=true):x.id≠(0,0,0):=fun e=>by
 simp only[CE.id,Prod.mk.injEq]at e;simp[dF,JM,e.2.1]at h
theorem Ok.id0{l}(h:Ok l){x}(hx:x∈l):x.id≠(0,0,0):=XF (h.valid x hx)
def CQ(l:List CE):Nat->CE->Prop
 |0,c=>c.after=(0,0,0)
 |n+1,c=>∃p∈l,p.id=c.after/\CQ l n p
theorem Gs{l}(h:Ok l):∀{n m}{c},CQ l n c->CQ l m c->n=m
 |0,0,_,_,_=>rfl
 |0,m+1,c,h1,⟨p,hp,e,_⟩=>absurd (e.trans h1) (h.id0 hp)
 |n+1,0,c,⟨p,hp,e,_⟩,h1=>absurd (e.trans h1) (h.id0 hp)
 |n+1,m+1,c,⟨p,hp,e,h1⟩,⟨q,hq,e',h2⟩=>by
  obtain rfl:=h.one hp hq (e.trans e'.symm);rw[Gs h h1 h2]
theorem Ky{l}(h:Ok l):∀{n}{c},c∈l->CQ l n c->∃L:List CE,L.length=n+1/\L.Nodup/\(∀x∈L,x∈l)/\∀x∈L,∃k,k<=n/\CQ l k x
 |0,c,hc,h1=>⟨[c],rfl,zS,by simpa using hc,fun x hx=>⟨0,yM,by rw[mem_singleton.1 hx];exact h1⟩⟩
 |n+1,c,hc,⟨p,hp,e,h1⟩=>by
  obtain⟨L,a1,a2,a3,a4⟩:=Ky h hp h1;have lG:CQ l (n+1) c:=⟨p,hp,e,h1⟩;refine⟨c::L,by simp[a1],nodup_cons.2 ⟨fun hx=>?_,a2⟩,fun x hx=>?_,fun x hx=>?_⟩
  .obtain ⟨k,hk,hl⟩:=a4 c hx;have:=Gs h hl lG;omega
  .grind
  .grind
theorem QT{l}(h:Ok l){n}{c}(hc:c∈l)(hl:CQ l n c):n<l.length:=by
 obtain⟨L,a1,a2,a3,_⟩:=Ky h hc hl;have:=pq a2 a3;omega
theorem Tp{p}{v}:∀{n k},k+n=v.length->fI p v n k=none->∀x j,k<=j->v[j]?=some x->p x=false
 |0,k,h,_,x,j,hj,hx=>by have:=(yC.1 hx).1;omega
 |n+1,k,h,h0,x,j,hj,hx=>by
  have hi:v[k]?=some (v[k]'zO):=yA zO;rw[fI,hi]at h0;simp only at h0;split at h0
  .cases h0
  .by_cases e:j=k
   .grind
   .exact Tp zO h0 x j zO hx
theorem abK{p}{v}(h:fX p v=none):∀x∈v,p x=false:=fun x hx=>by
 obtain⟨j,hj⟩:=mem_iff_getElem?.1 hx;exact Tp zO h x j zO hj
theorem Tq{a b c}{x}:vM a b c x=true↔x.id=(a,b,c):=by simp[vM,CE.id]
theorem Kz{l}(h:Ok l):∀{n}{c},Oq l n c=true↔∃m,m<n/\CQ l m c
 |0,c=>by simp[Oq]
 |n+1,c=>by
  rw[Oq];by_cases hz:(c.ad==0&&(c.j6==0&&c.aa==0))=true
  .rw [yL hz];simp only[true_iff];refine⟨0,zO,?_⟩;simp only[y04,beq_iff_eq]at hz;simp[CQ,CE.after,hz]
  .rw [yK hz];have hz':c.after≠(0,0,0):=fun e=>hz (by simp only[CE.after,Prod.mk.injEq]at e;simp[e]);cases hx:fX (vM c.ad c.j6 c.aa) l with
   |none =>
    simp only[y20,false_iff];rintro⟨m,_,hm⟩;cases m with
    |zero=>exact hz' hm
    |succ m =>
     obtain⟨p,hp,e,_⟩:=hm;have:=abK hx p hp;rw[Bool.eq_false_iff]at this;exact this (Tq.2 e)
   |some j =>
    obtain⟨y,hy,hpy⟩:=QU hx;simp only[hy];have QV:=mem_of_getElem? hy;have ey:=Tq.1 hpy;rw[Kz h ];constructor
    .rintro ⟨m,hm,hl⟩;exact⟨m+1,zO,y,QV,ey,hl⟩
    .rintro ⟨m,hm,hl⟩;cases m with
     |zero=>exact absurd hl hz'
     |succ m =>
      obtain⟨p,hp,e,hl⟩:=hl;obtain rfl:=h.one QV hp (ey.trans e.symm);grind
theorem Ot{l}(h:Ok l){c}(hc:c∈l):Tt l c=true↔∃m,CQ l m c:=by
 rw[Tt,Kz h];exact⟨fun⟨m,_,hm⟩=>⟨m,hm⟩,fun⟨m,hm⟩=>⟨m,by have:=QT h hc hm;omega,hm⟩⟩
theorem Tv{l}:∀{n k},k+n=l.length->(roN l n k=true↔∀j x,k<=j->l[j]?=some x->Tt l x=true)
 |0,k,h=>by
  simp only[roN];grind
 |n+1,k,h=>by
  have hi:l[k]?=some (l[k]'zO):=yA zO;rw[roN,hi];simp only[y04,Tv (l:=l) (n:=n) (k:=k+1) zO];grind
theorem Ak{l}:sO l=true↔Ok l/\∀x∈l,∃m,CQ l m x:=by
 rw[sO,y04,afe,Tv zO];constructor
 .rintro ⟨h,h'⟩;refine⟨h,fun x hx=>?_⟩;obtain⟨j,hj⟩:=mem_iff_getElem?.1 hx;exact(Ot h hx).1 (h' j x zO hj)
 .rintro ⟨h,h'⟩;exact⟨h,fun j x _ hx=>(Ot h (mem_of_getElem? hx)).2 (h' x (mem_of_getElem? hx))⟩
theorem jW{l}{n}{a b c}{z}:z∈bX l (n+1) a b c↔∃y∈oZ l a b c,z=y\/z∈bX l n y.dv y.sq y.gU:=by grind[bX]
theorem Hz{l}(h:Ids l):∀{n}{a b c}{z},z∈bX l n a b c->z∈l
 |0,_,_,_,_,hz=>by cases hz
 |n+1,a,b,c,z,hz=>by
  obtain⟨y,hy,rfl|hz⟩:=jW.1 hz
  .grind [jc]
  .exact Hz h hz
def Tw(l:List CE):Nat->CE->CE->Prop
 |0,z,y=>z=y
 |k+1,z,y=>∃p∈l,p.id=z.after/\Tw l k p y
theorem Tw.one{l}(h:Ok l):∀{k}{z y y'},Tw l k z y->Tw l k z y'->y=y'
 |0,_,_,_,h1,h2=>h1.symm.trans h2
 |k+1,z,y,y',⟨p,hp,e,h1⟩,⟨q,hq,e',h2⟩=>by
  obtain rfl:=h.one hp hq (e.trans e'.symm);exact Tw.one h h1 h2
theorem Tw.CQ{l}{m}:∀{k}{z y},Tw l k z y->Sq.CQ l m y->Sq.CQ l (m+k) z
 |0,_,_,h1,h2=>by cases h1;exact h2
 |k+1,z,y,⟨p,hp,e,h1⟩,h2=>⟨p,hp,e,Tw.CQ h1 h2⟩
theorem Tw.HV{l}{y y'}(hy:y∈l)(e:y.id=y'.after):∀{k}{z},Tw l k z y'->Tw l (k+1) z y
 |0,_,h1=>by cases h1;exact⟨y,hy,e,rfl⟩
 |k+1,z,⟨p,hp,e',h1⟩=>⟨p,hp,e',Tw.HV hy e h1⟩
theorem Al{l}(h:Ids l):∀{n}{y z},y∈l->z∈bX l n y.dv y.sq y.gU->∃k,Tw l (k+1) z y
 |0,_,_,_,hz=>by cases hz
 |n+1,y,z,hy,hz=>by
  obtain⟨y',hy',hz⟩:=jW.1 hz;obtain⟨h1,h2⟩:=(jc h).1 hy';have e:=h2.symm;rcases hz with rfl|hz
  .exact ⟨0,y,hy,e,rfl⟩
  .obtain ⟨k,hk⟩:=Al h h1 hz;exact⟨k+1,hk.HV hy e⟩
theorem Ou{l}(h:Ids l){m}{x y}(hx:x∈l)(hl:CQ l m x)(hy:y∈oZ l x.dv x.sq x.gU):CQ l (m+1) y :=
 ⟨x,hx,((jc h).1 hy).2.symm,hl⟩
theorem y5{l}(h:Ok l):∀{n}{a b c}{m},(∀y∈oZ l a b c,CQ l m y)->(bX l n a b c).Nodup
 |0,_,_,_,_,_=>by simp[bX]
 |n+1,a,b,c,m,hm=>by
  have tree:∀{y z},y∈l->z=y\/z∈bX l n y.dv y.sq y.gU->∃k,Tw l k z y:=fun{y z} hy hz=>by
   rcases hz with rfl|hz
   .exact ⟨0,rfl⟩
   .obtain ⟨k,hk⟩:=Al h.iw hy hz;grind
  rw[bX,Nodup,pairwise_flatMap];refine⟨fun y hy=>?_,?_⟩
  .have QV:=((jc h.iw).1 hy).1;refine nodup_cons.2 ⟨fun hz=>?_,y5 h  fun z hz=>Ou h.iw QV (hm y hy) hz⟩;obtain⟨k,hk⟩:=Al h.iw QV hz;have:=Gs h (hk.CQ (hm y hy)) (hm y hy);omega
  .refine (Kt h.iw a b c).Fp.imp_of_mem fun{y y'} hy hy' fF z hz z' hz' e=>?_;subst e;obtain⟨k,hk⟩:=tree ((jc h.iw).1 hy).1 (yH.1 hz);obtain⟨k',hk'⟩:=tree ((jc h.iw).1 hy').1 (yH.1 hz');have:=Gs h (hk.CQ (hm y hy)) (hk'.CQ (hm y' hy'));obtain rfl:k=k':=zO
   exact fF (hk.one h hk')
theorem vT{l}(h:Ids l){y}(hy:y∈oZ l 0 0 0):CQ l 0 y:=((jc h).1 hy).2
def arE(l:List CE):List CE:=bX l (l.length+1) 0 0 0
variable {l:List CE}
theorem Ao(h:Ok l):(arE l).Nodup:=y5 h fun _ hy=>vT h.iw hy
theorem KA{l}(h:Ok l){n}{a b c}{m}(hm:∀y∈oZ l a b c,CQ l m y):(bX l n a b c).length<=l.length :=
 pq (y5 h hm) fun _ hz=>Hz h.iw hz
theorem Tz{l}(h:Ok l)(hv:l.length<=1000000):∀{n m}{x},x∈l->CQ l m x->l.length<=n+m->Deep l n x.dv x.sq x.gU
 |0,m,x,hx,hl,hn=>by have:=QT h hx hl;omega
 |n+1,m,x,hx,hl,hn=>by
  have hk:∀y∈oZ l x.dv x.sq x.gU,CQ l (m+1) y:=fun y hy=>Ou h.iw hx hl hy;exact⟨by have:=KA h (n:=n+1) hk;omega,fun y hy=>Tz h hv ((jc h.iw).1 hy).1 (hk y hy) zO⟩
theorem XG{l}(h:Ok l)(hv:l.length<=1000000):Deep l (l.length+1) 0 0 0 :=
 ⟨by have:=KA h (n:=l.length+1)  fun _ hy=>vT h.iw hy;omega,fun y hy=>Tz h hv ((jc h.iw).1 hy).1 (vT h.iw hy) zO⟩
theorem Fu{l}(h:Ids l){p z}(hz:z∈l)(e:z.after=p.id):∀{n}{a b c},p∈bX l n a b c->z∈bX l (n+1) a b c
 |0,_,_,_,hp=>by cases hp
 |n+1,a,b,c,hp=>by
  obtain⟨y,hy,rfl|hp⟩:=jW.1 hp
  .exact jW.2 ⟨p,hy,.inr (jW.2 ⟨z,(jc h).2 ⟨hz,e⟩,.inl rfl⟩)⟩
  .exact jW.2 ⟨y,hy,.inr (Fu h hz e hp)⟩
theorem Ov{l}(h:Ids l):∀{n}{a b c}{z},z∈bX l n a b c->z∈bX l (n+1) a b c
 |0,_,_,_,_,hz=>by cases hz
 |n+1,a,b,c,z,hz=>by
  obtain⟨y,hy,rfl|hz⟩:=jW.1 hz
  .grind [jW]
  .exact jW.2 ⟨y,hy,.inr (Ov h hz)⟩
theorem below_le{l}(h:Ids l){n m}(hnm:n<=m){a b c}{z}(hz:z∈bX l n a b c):z∈bX l m a b c:=by
 induction hnm with
 |refl=>exact hz
 |step _ ih=>exact Ov h ih
theorem CR{l}(h:Ids l):∀{m}{z},z∈l->CQ l m z->z∈bX l (m+1) 0 0 0
 |0,z,hz,hl=>jW.2 ⟨z,(jc h).2 ⟨hz,hl⟩,.inl rfl⟩
 |m+1,z,hz,⟨p,hp,e,hl⟩=>Fu h hz e.symm (CR h hp hl)
theorem rT(h:Ok l){z:CE}:z∈arE l↔z∈l/\∃m,CQ l m z:=by
 constructor
 .intro hz;refine⟨Hz h.iw hz,?_⟩;obtain⟨y,hy,rfl|hz⟩:=jW.1 hz
  .exact ⟨0,vT h.iw hy⟩
  .obtain ⟨k,hk⟩:=Al h.iw ((jc h.iw).1 hy).1 hz;exact⟨_,hk.CQ (vT h.iw hy)⟩
 .rintro ⟨hz,m,hm⟩;exact below_le h.iw (by have:=QT h hz hm;omega) (CR h.iw hz hm)
theorem Ok.Fp{l}(h:Ok l):l.Nodup:=h.iw.imp fun{_ _} h e=>h (by rw[e])
theorem abL(h:Ok l):(arE l).length=l.length↔∀x∈l,∃m,CQ l m x:=by
 constructor
 .intro he x hx;refine Classical.byContradiction fun hn=>?_;have xY:x∉arE l:=fun hx'=>hn ((rT h).1 hx').2;have:=pq (l:=l.erase x) (Ao h) fun z hz=>(mem_erase_of_ne (fun e:z=x=>xY (e▸hz))).2 ((rT h).1 hz).1;rw[length_erase_of_mem hx]at this;have:=length_pos_of_mem hx;omega
 .intro ha;have h1:=pq (Ao h) fun z hz=>((rT h).1 hz).1;have h2:=pq (l:=arE l) h.Fp fun z hz=>(rT h).2 ⟨hz,ha z hz⟩;omega
def F5(l:List CE):Int:=if sO l=true then 0 else 130
def BI(l:List CE):List CE:=if sO l=true then arE l else[]
open Go.Proofs Go.eY
theorem aFl(l:List CE)(hv:l.length<=1000000):ak P G 274 [bZ l] [] (.ret (bool (sO l))) []:=aFe l hv _ (by
 unfold sO;grind)
theorem aKM(l:List CE)(r:List CE)(hf:ak P G 274 [bZ l] [] (.ret (bool true)) [])(hb:ak P G 275 [bZ l,oO 0 0 0] [] (.ret (bZ r)) [])(h:True):ak P G 222 [bZ l] [] (aS.ret (AV.bq [bZ r,int 0])) []:=by
 have _:=h;exact aj [kc [] (@hf ),kf (Eq.refl false),kc [] (@hb )] zQ
theorem aKN(l:List CE)(hf:ak P G 274 [bZ l] [] (.ret (bool false)) [])(h:True):ak P G 222 [bZ l] [] (aS.ret (AV.bq [bZ [],int 130])) []:=by
 have _:=h;exact ak.out ((show ak P G 222 [bZ l] [] (aS.ret (AV.bq [aK,int 130])) []from aj [kc [] (@hf ),kt (Eq.refl true)] zQ)) (aF.iM ⟨(aF.nil _),y29,yO⟩)
theorem aGM(l:List CE)(hv:l.length<=1000000):ak P G 222 [bZ l] [] (.ret (.bq [bZ (BI l),int (F5 l)])) []:=by
 have hf:=aFl l hv;unfold BI F5;cases h:sO l with
 |false=>rw[h]at hf;exact aKN l hf trivial
 |true =>
  rw[h]at hf;exact aKM l _ hf (aFk l hv _ 0 0 0 (XG (Ak.1 h).1 hv)) trivial
theorem Ow l:(BI l).length<=l.length:=by
 unfold BI;split
 .rename_i h;have ok:=(Ak.1 h).1;exact pq (Ao ok) fun z hz=>((rT ok).1 hz).1
 simp
def jg(l:List CE):Int:=if F5 l=0/\BI l=l then 0 else 130
theorem aIn(l r:List CE)(e:Int)(b:Bool)(ho:ak P G 222 [bZ l] [] (.ret (.bq [bZ r,int e])) [])(hs:ak P G 98 [bZ r,bZ l] [] (.ret (bool b)) [])(o:Int)(h:(((e=(0:Int))->((((b)=true)->(0:Int)=(o))/\(((b)=false)->(130:Int)=(o))))/\((¬e=(0:Int))->(130:Int)=(o)))):ak P G 167 [bZ l] [] (aS.ret (int o)) []:=by
 have bS:=(@ho );have jw:=(@hs );by_cases c1:(e=(0:Int))
 .have h:=h.1 c1;have fT:(e != 0)=false:=(y27 (beq_iff_eq.2 c1));rcases y00 ((b))with c2|c2
  .have h:=h.1 c2;have e1:=h;exact aA (aF.int_eq e1) [kc [] bS,kf fT,kc [] jw,kf (show(!b)=false from(y27 (c2)))] zQ
  .have h:=h.2 c2;have e1:=h;exact aA (aF.int_eq e1) [kc [] bS,kf fT,kc [] jw,kt (show(!b)=true from(y27 (c2)))] zQ
 .have h:=h.2 c1;have e1:=h;exact aA (aF.int_eq e1) [kc [] bS,kt (show(e != 0)=true from(y27 (beq_eq_false_iff_ne.2 c1))),kt (Eq.refl true)] zQ
theorem aAM(l:List CE)(hv:l.length<=1000000):ak P G 167 [bZ l] [] (.ret (int (jg l))) []:=by
 refine aIn l _ _ _ (aGM l hv) (C9 (BI l) l (by have:=Ow l;omega) zO) _ ?_;unfold jg;grind
def A8(l:List CE)(c:CE):Int:=if jg l≠0 then jg l else if c.gn=true then 130 else F5 (l++[c])
def rU(l:List CE)(c:CE):List CE:=if jg l≠0 then[]else if c.gn=true then[]else BI (l++[c])
def mY(l:List CE)(j:Nat):List CE:=l.modify j fun x=>{ x with gn:=true }
theorem BJ{l}{j}{x}(h:l[j]?=some x):mY l j=l.set j { x with gn:=true }:=by
 unfold mY;apply ext_getElem?;grind
def Ox(l:List CE)(a b c:Int):Int:=if jg l≠0 then jg l else match fX (vM a b c) l with
 |some _=>0
 |none=>130
def Ez(l:List CE)(a b c:Int):List CE:=if jg l≠0 then[]else match fX (vM a b c) l with
 |some j=>mY l j
 |none=>[]
def Cu(x:CE):Prop:=(fO x.dv/\fO x.sq/\fO x.gU)/\fO x.ad/\fO x.j6/\fO x.aa
def CU(v:List CE):List (Value×AV):=v.map fun x=>(xL x.dv x.sq x.gU,bool true)
def Ap(ts:List (Int×Int×Int)):List (Value×AV):=ts.map fun e=>(fV e.1 e.2.1,int e.2.2)
theorem abM v:vv (CU v):=fun e he=>by
 obtain⟨x,_,rfl⟩:=yG.1 he;simp
theorem abN ts:vv (Ap ts):=fun e he=>by
 obtain⟨x,_,rfl⟩:=yG.1 he;simp
theorem nU{a b a' b'}(h:fV a b=fV a' b'):a=a'/\b=b':=by
 simp only[fV,Value.agg.injEq,Array.mk.injEq,List.cons.injEq,Value.int.injEq,true_and,and_true]at h;exact h
structure HY(v:List CE)(fs:List Fe)(ts:List (Int×Int×Int)):Prop where
 ok:Ok v
 iV:∀x∈v,Cu x
 JY:LC fs
 QW:∀f∈fs,f.l=v.filter (fun x=>decide (x.after=f.id))/\f.l≠[]
 abO:∀x∈v,∃f∈fs,f.id=x.after
 Xb:∀e∈ts,∃x∈v,(x.dv,x.sq,x.tm)=e
 ts2:∀x∈v,(x.dv,x.sq,x.tm)∈ts
variable {v:List CE}
theorem LP(h:∀x∈v,Cu x):∀e∈CU v,∃l,keyOf P 31 e.1=some l:=fun e he=>by
 obtain⟨x,hx,rfl⟩:=yG.1 he;obtain⟨⟨h1,h2,h3⟩,_⟩:=h x hx;exact BD h1 h2 h3
variable {ts:List (Int×Int×Int)}
theorem Gt(h:∀x∈v,Cu x)(h1:∀e∈ts,∃x∈v,(x.dv,x.sq,x.tm)=e):∀e∈Ap ts,∃l,keyOf P 27 e.1=some l:=fun e he=>by
 obtain⟨q,hq,rfl⟩:=yG.1 he;obtain⟨x,hx,rfl⟩:=h1 q hq;obtain⟨⟨h1,h2,h3⟩,_⟩:=h x hx;exact uy h1 h2
variable {x:CE}
theorem aff(h:∀x∈v,Cu x)(hx:Cu x)(hm:∃y∈v,y.id=x.id):bT P 31 (CU v) (xL x.dv x.sq x.gU) (bool false) (bool true) true:=by
 obtain⟨y,hy,e⟩:=hm;obtain⟨⟨h1,h2,h3⟩,_⟩:=hx;refine⟨qQ,BD h1 h2 h3,LP h,.inl ⟨rfl,yG.2 ⟨y,hy,?_⟩⟩⟩;simp only[CE.id,Prod.mk.injEq]at e;rw[e.1,e.2.1,e.2.2]
theorem LQ(h:∀x∈v,Cu x)(hx:Cu x)(hm:∀y∈v,y.id≠x.id):bT P 31 (CU v) (xL x.dv x.sq x.gU) (bool false) (bool false) false:=by
 obtain⟨⟨h1,h2,h3⟩,_⟩:=hx;exact⟨qQ,BD h1 h2 h3,LP h,.inr ⟨rfl,rfl,fun e he hq=>by
  obtain⟨y,hy,rfl⟩:=yG.1 he;exact hm y hy (Gq hq)⟩⟩
theorem afg(h:∀x∈v,Cu x)(hx:Cu x)(hm:∀y∈v,y.id≠x.id):jm P 31 (CU v) (xL x.dv x.sq x.gU) (bool true) (CU (v++[x])):=by
 obtain⟨⟨h1,h2,h3⟩,_⟩:=hx;exact⟨qQ,BD h1 h2 h3,LP h,.inr ⟨fun e he hq=>by
  obtain⟨y,hy,rfl⟩:=yG.1 he;exact hm y hy (Gq hq),by simp[CU]⟩⟩
theorem afh(h:∀x∈v,Cu x)(h1:∀e∈ts,∃x∈v,(x.dv,x.sq,x.tm)=e)(hx:Cu x){t:Int}(hm:(x.dv,x.sq,t)∈ts):bT P 27 (Ap ts) (fV x.dv x.sq) (int 0) (int t) true :=
 ⟨lD,uy hx.1.1 hx.1.2.1,Gt h h1,.inl ⟨rfl,yG.2 ⟨_,hm,rfl⟩⟩⟩
theorem abP(h:∀x∈v,Cu x)(h1:∀e∈ts,∃x∈v,(x.dv,x.sq,x.tm)=e)(hx:Cu x)(hm:∀t,(x.dv,x.sq,t)∉ts):bT P 27 (Ap ts) (fV x.dv x.sq) (int 0) (int 0) false :=
 ⟨lD,uy hx.1.1 hx.1.2.1,Gt h h1,.inr ⟨rfl,rfl,fun e he hq=>by
  obtain⟨q,hq',rfl⟩:=yG.1 he;obtain⟨q1,q2⟩:=nU hq;exact hm q.2.2 (by rw[<- q1,<- q2];exact hq')⟩⟩
theorem afi(h:∀x∈v,Cu x)(h1:∀e∈ts,∃x∈v,(x.dv,x.sq,x.tm)=e)(hx:Cu x)(hm:∀t,(x.dv,x.sq,t)∈ts->t=x.tm) :
 ∃Fv,jm P 27 (Ap ts) (fV x.dv x.sq) (int x.tm) (Ap Fv)/\(∀e∈Fv,e∈ts\/e=(x.dv,x.sq,x.tm))/\(∀e∈ts,e∈Fv)/\(x.dv,x.sq,x.tm)∈Fv:=by
 by_cases vN:(x.dv,x.sq,x.tm)∈ts
 .obtain ⟨us,bs,e⟩:=append_of_mem vN;refine⟨ts,⟨lD,uy hx.1.1 hx.1.2.1,Gt h h1,.inl ⟨Ap us,Ap bs,int x.tm,?_,?_⟩⟩,fun e he=>.inl he,fun e he=>he,vN⟩
  .rw [e];simp[Ap]
  .rw [e];simp[Ap]
 .refine ⟨ts++[(x.dv,x.sq,x.tm)],⟨lD,uy hx.1.1 hx.1.2.1,Gt h h1,.inr ⟨fun e he hq=>?_,by simp[Ap]⟩⟩,fun e he=>by simpa using he,fun e he=>mem_append_left _ he,zS⟩;obtain⟨q,hq',rfl⟩:=yG.1 he;obtain⟨q1,q2⟩:=nU hq;have:=hm q.2.2 (by rw[<- q1,<- q2];exact hq');exact vN (by rw[<- this,<- q1,<- q2];exact hq')
variable {f:Fe}{us bs:List Fe}
theorem abQ(h:LC (us++f::bs))(y:AV):Ey P 31 (uo us f y bs) (xL f.a f.b f.c) aK y us.length (uo us f y bs):=by
 have hf:f∈us++f::bs:=zS
 obtain⟨h1,h2,h3⟩:=h.iV f hf;refine⟨qQ,BD h1 h2 h3,fun e he=>?_,.inl ⟨gV us,gV bs,rfl,(wU us).symm,rfl⟩⟩;have:e.1∈(uo us f y bs).map (·.1):=yG.2 ⟨e,he,rfl⟩;rw[yZ us f y (.lit f.v) bs,LJ]at this;obtain⟨e',he',hq⟩:=yG.1 this;rw[<- hq];exact Cz h e' he'
theorem XH{fs:List Fe}(h:LC fs){a b c:Int}(ha:fO a)(hb:fO b)(hc:fO c)(hn:∀f∈fs,f.id≠(a,b,c))(v:Value)(mo:Nat)(l:List CE):Ey P 31 (gV fs) (xL a b c) aK aK fs.length (uo fs ⟨a,b,c,v,mo,l⟩ aK []) :=
 ⟨qQ,BD ha hb hc,Cz h,.inr ⟨fun e he=>by
  obtain⟨f,hf,rfl⟩:=yG.1 he;exact fun hq=>hn f hf (Gq hq),rfl,(wU fs).symm,by simp[uo,gV,Fe.key]⟩⟩
theorem abR{v}{x}(h:Ok v)(hv:dF x=true)(hi:∀y∈v,y.id≠x.id)(ht:∀y∈v,y.dv=x.dv->y.sq=x.sq->y.tm=x.tm):Ok (v++[x]) where
 valid y hy:=by
  rcases yI.1 hy with h'|h'
  .exact h.valid y h'
  .grind
 nS:=pairwise_append.2 ⟨h.nS,zS,fun y hy z hz=>by
  have h1:=hi y hy;simp only[CE.id,ne_eq]at h1;unfold kP;grind⟩
theorem aea{v}(h:Ok v){x y}(hx:x∈v)(hy:y∈v)(h1:x.dv=y.dv)(h2:x.sq=y.sq):x.tm=y.tm:=by
 have key:∀{a b},kP b a=false->a.dv=b.dv->a.sq=b.sq->a.tm=b.tm:=fun{a b} hc e1 e2=>by
  unfold kP at hc;grind
 obtain⟨i,hi,rfl⟩:=getElem_of_mem hx;obtain⟨j,hj,rfl⟩:=getElem_of_mem hy;rcases Nat.lt_trichotomy i j with h'|h'|h'
 .exact key (pairwise_iff_getElem.1 h.nS i j hi hj h') h1 h2
 .subst h';rfl
 .exact (key (pairwise_iff_getElem.1 h.nS j i hj hi h') h1.symm h2.symm).symm
theorem XI{x}(h:dF x=true):x.tm≠0:=fun e=>by
 simp[dF,e]at h
theorem XJ{Fv:List (Int×Int×Int)}(h:HY v (us++f::bs) ts)(hx:Cu x)(dK:Ok (v++[x]))(he:f.id=x.after)(w:Value)(mo:Nat)(h1:∀e∈Fv,e∈ts\/e=(x.dv,x.sq,x.tm))(h2:∀e∈ts,e∈Fv)(h3:(x.dv,x.sq,x.tm)∈Fv) :
 HY (v++[x]) (us++⟨f.a,f.b,f.c,w,mo,f.l++[x]⟩::bs) Fv:=by
 have dU:(⟨f.a,f.b,f.c,w,mo,f.l++[x]⟩:Fe).id=f.id:=rfl;have iw:(us++(⟨f.a,f.b,f.c,w,mo,f.l++[x]⟩:Fe)::bs).map Fe.id=(us++f::bs).map Fe.id:=by simp[Fe.id]
 have mem:∀q,q∈us++(⟨f.a,f.b,f.c,w,mo,f.l++[x]⟩:Fe)::bs->q=⟨f.a,f.b,f.c,w,mo,f.l++[x]⟩\/(q∈us++f::bs/\q.id≠f.id):=fun q hq=>by
  have wO:=h.JY.Fp;grind
 have hf:f∈us++f::bs:=zS
 refine⟨dK,fun y hy=>?_,⟨by rw[iw];exact h.JY.Fp,fun q hq=>?_⟩,fun q hq=>?_,fun y hy=>?_,fun e he'=>?_,fun y hy=>?_⟩
 .rcases yI.1 hy with h'|h'
  .exact h.iV y h'
  .grind
 .rcases mem q hq with rfl|⟨h',_⟩
  .exact h.JY.iV f hf
  .exact h.JY.iV q h'
 .rcases mem q hq with rfl|⟨h',fF⟩
  .refine ⟨?_,zS⟩;show f.l++[x]=_;rw[filter_append,dU,<- (h.QW f hf).1];simp[he]
  .rw [filter_append];have:[x].filter (fun x=>decide (x.after=q.id))=[]:=by grind
   rw[this,y19];exact h.QW q h'
 .rcases yI.1 hy with h'|h'
  .obtain ⟨q,hq,e⟩:=h.abO y h';grind
  .grind
 .rcases h1 e he' with h'|h'
  .obtain ⟨y,hy,e'⟩:=h.Xb e h';exact⟨y,mem_append_left _ hy,e'⟩
  .grind
 .rcases yI.1 hy with h'|h'
  .exact h2 _ (h.ts2 y h')
  .grind
theorem abS{v}{fs}{ts Fv}{x}(h:HY v fs ts)(hx:Cu x)(dK:Ok (v++[x]))(hn:∀f∈fs,f.id≠x.after)w(mo:Nat)(h1:∀e∈Fv,e∈ts\/e=(x.dv,x.sq,x.tm))(h2:∀e∈ts,e∈Fv)(h3:(x.dv,x.sq,x.tm)∈Fv) :
 HY (v++[x]) (fs++⟨x.ad,x.j6,x.aa,w,mo,[x]⟩::[]) Fv:=by
 have dU:(⟨x.ad,x.j6,x.aa,w,mo,[x]⟩:Fe).id=x.after:=rfl;refine⟨dK,fun y hy=>?_,⟨?_,fun q hq=>?_⟩,fun q hq=>?_,fun y hy=>?_,fun e he'=>?_,fun y hy=>?_⟩
 .rcases yI.1 hy with h'|h'
  .exact h.iV y h'
  .grind
 .rw [map_append];refine nodup_append.2 ⟨h.JY.Fp,zS,fun z hz z' hz' e=>?_⟩;grind
 .rcases yI.1 hq with h'|h'
  .exact h.JY.iV q h'
  .rw [mem_singleton.1 h'];exact hx.2
 .rcases yI.1 hq with h'|h'
  .rw [filter_append];have:[x].filter (fun x=>decide (x.after=q.id))=[]:=by grind
   rw[this,y19];exact h.QW q h'
  .rw [mem_singleton.1 h'];refine⟨?_,zS⟩;rw[filter_append];have:v.filter (fun y=>decide (y.after=x.after))=[]:=by
    rw[filter_eq_nil_iff];intro y hy;obtain⟨f,hf,e⟩:=h.abO y hy;grind
   grind
 .rcases yI.1 hy with h'|h'
  .obtain ⟨q,hq,e⟩:=h.abO y h';grind
  .grind
 .rcases h1 e he' with h'|h'
  .obtain ⟨y,hy,e'⟩:=h.Xb e h';grind
  .grind
 .rcases yI.1 hy with h'|h'
  .exact h2 _ (h.ts2 y h')
  .grind
theorem HY.link{v}{fs}{ts}(h:HY v fs ts)(hv:v.length<=1000000):QN v fs where
 iw f hf:=by rw[(h.QW f hf).1];exact h.ok.iw.filter _
 mem f hf x:=by rw[(h.QW f hf).1];simp
 len f hf:=by
  rw[(h.QW f hf).1];grind
 all:=h.abO
 iV x hx:=(h.iV x hx).1
theorem step0{V0 V V2}{b}{H H3}(h0:V0.H=[])(s:Step V0 V)(t:Step (focus V b H) V2)(hb:V0.w.heap.size<=b)(hH:∀i,i<H.length->i=7\/i<V.H.length)(h3:H3.length<=V2.H.length) :
 Step V0 { V2 with H:=H3 }/\∀i,i<V2.H.length->V0.w.heap.size<=V2.ρ i:=by
 have n0:∀i,¬i<V0.H.length:=fun i h=>by grind
 have f1:∀i,i<V.H.length->V0.w.heap.size<=V.ρ i:=fun i hi=>(s.fresh i hi).resolve_left fun h=>n0 i h.1;have f2:∀i,i<H.length->V0.w.heap.size<=(focus V b H).ρ i:=fun i hi=>by
  show _<=if i=7 then b else V.ρ i;grind
 have f3:∀i,i<V2.H.length->V0.w.heap.size<=V2.ρ i:=fun i hi=>by
  rcases t.fresh i hi with⟨h1,h2⟩|h1
  .rw [h2];exact f2 i h1
  .exact y07 s.size h1
 refine⟨⟨t.os.trans s.os,t.tape.trans s.tape,t.output.trans s.output,y07 s.size t.size,y07 s.drawn t.drawn,fun c hc _=>?_,fun c hc hM=>?_,by rw[h0];simp,fun i hi=>.inr (f3 i (y21 hi h3)),fun i hi=>absurd hi (n0 i)⟩,f3⟩
 .have k1:=s.keep c hc fun i hi=>absurd hi (n0 i);have k2:=t.keep c (y21 hc s.size) fun i hi e=>by
   have:=f2 i hi;omega
  exact⟨k2.1.trans k1.1,k2.2.trans k1.2⟩
 .have k1:=s.data c hc hM;have k2:=t.data c (y21 hc s.size) k1.2;exact⟨k2.1.trans k1.1,k2.2⟩
theorem afj{V0 V2}{H3}(h0:V0.H=[])(t:Step V0 V2)(h3:H3.length<=V2.H.length):Step V0 { V2 with H:=H3 }/\∀i,i<V2.H.length->V0.w.heap.size<=V2.ρ i:=by
 have n0:∀i,¬i<V0.H.length:=fun i h=>by grind
 have f3:∀i,i<V2.H.length->V0.w.heap.size<=V2.ρ i:=fun i hi=>(t.fresh i hi).resolve_left fun h=>n0 i h.1;exact⟨⟨t.os,t.tape,t.output,t.size,t.drawn,t.keep,t.data,by rw[h0];simp,fun i hi=>.inr (f3 i (y21 hi h3)),fun i hi=>absurd hi (n0 i)⟩,f3⟩
def afk(cs:List CE)(k:Nat):List AV:=(qE cs k [(8,.ptr 5 0),(9,.ptr 6 0),(49,bool true)]).set 3 (int 130)
theorem b9r es kn tm(cs:List CE)k(x:CE):sP P G none 0 q9 ⟨qE cs k [(8,.ptr 5 0),(9,.ptr 6 0),(49,bool true)],HO es kn tm++[.box (aQ x),.box (dt x)],[]⟩ (mZ [kt (Eq.refl true)])=some (.ret,⟨afk cs k,HO es kn tm++[.box (aQ x),.box (dt x)],[]⟩,[],jS [kt (Eq.refl true)]):=zQ
theorem XK cs(k:Nat):AV.gH 5 (qE cs k [])=true:=zQ
theorem abT cs(k:Nat):AV.gH 7 (qE cs k [(8,.ptr 5 0)])=true:=zQ
theorem abU{V0 V}{a}{cs v}{k}{fs}{ts Fv}{kn tm}{x}(h0:V0.H=[])(hs:Step V0 V)(hG:aD G V)(dK:jO V ⟨qE cs k [(8,.ptr 5 0)],HO (gV fs) kn tm++[.box (aQ x),.box (dt x)],[]⟩ a)(hF:jA V ALL fs)(hb:∀f∈fs,V0.w.heap.size<=f.mo)(hI:HY v fs ts)(hv:v.length<=1000000)(hx:Cu x)(abV:Ok (v++[x]))(hkn:vv kn)(htm:vv tm)(h1:∀e∈Fv,e∈ts\/e=(x.dv,x.sq,x.tm))(h2:∀e∈ts,e∈Fv)(h3:(x.dv,x.sq,x.tm)∈Fv){Q}(next:∀V' a' Xc,Step V0 V'->aD G V'->jO V' ⟨qE cs k [],HO (gV Xc) kn tm,[]⟩ a'->jA V' ALL Xc->(∀f∈Xc,V0.w.heap.size<=f.mo)->HY (v++[x]) Xc Fv->Q .normal a' V'.w):q11.wpIn (fz none) 0 P (Exit.then (fun a w=>Q .normal a w) Q) a V.w:=by
 have nod:∀{V:View}{s:St}{a:Act},jO V s a->s.dh=[]->a.defers=[]:=fun{V s a} k e=>by
  have:=k.dh;rw[e]at this;cases UW:a.defers with
  |nil=>rfl
  |cons d l=>rw[UW]at this;cases this
 have hH:=dK.H;have h7:V.H.length=7:=by rw[hH];rfl
 by_cases NT:∃f∈fs,f.id=x.after
 .obtain ⟨f,hf,hfi⟩:=NT;obtain⟨us,bs,rfl⟩:=append_of_mem hf;have XL:xL x.ad x.j6 x.aa=xL f.a f.b f.c:=by
   have:(f.a,f.b,f.c)=(x.ad,x.j6,x.aa):=hfi;simp only[Prod.mk.injEq]at this;rw[this.1,this.2.1,this.2.2]
  have gf:=QS hG hH hF hkn htm;have al:=Fq (y:=.aU 7 0 0 f.l.length) (l:=f.l) (g:=0) (b:=f.mo) hH;have hfl:=(hI.QW f hf).1;have bL:f.l.length<=1000000:=by
   rw[hfl];have:=length_filter_le (fun x:CE=>decide (x.after=f.id)) v;omega
  have he:=abQ hI.JY (.aU 7 0 0 f.l.length);rw[<- XL]at he;refine amv (uo us f (.aU 7 0 0 f.l.length) bs) kn tm cs k us.length f.l.length x (au f.l) (uo us f (.aU 7 0 0 f.l.length) bs) he (ay f.l).symm zO (by rw[CO];omega)
   (focus V f.mo (HF (uo us f (.aU 7 0 0 f.l.length) bs) kn tm (.box (aQ x)) (.box (dt x)) 0 f.l)) (focus V f.mo (HF (uo us f (.aU 7 0 0 f.l.length) bs) kn tm (.box (aQ x)) (.box (dt x)) 0 f.l)) a _ _ rfl (Step.refl _) gf
   ⟨eF.lF al dK.aL (abT cs k),rfl,by rw[nod dK rfl];exact .nil⟩ fun V2 a2 s2 g2 k2=>?_
  have XM:V2.H=HF (uo us f (.aU 7 1 0 (f.l++[x]).length) bs) kn tm (.box (aQ x)) (.box (dt x)) 1 (f.l++[x]):=by
   rw[k2.H];show HO (CK (uo us f (.aU 7 0 0 f.l.length) bs) us.length (.aU 7 1 0 (f.l.length+1))) kn tm++[.box (aQ x),.box (dt x),.aN 1 9 false (au f.l++[aQ x])]=_;rw[Om,show f.l.length+1=(f.l++[x]).length by simp,sN,gy];rfl
  have hFu:jA (focus V f.mo (HF (uo us f (.aU 7 0 0 f.l.length) bs) kn tm (.box (aQ x)) (.box (dt x)) 0 f.l)) ALL (us++bs):=by
   have hm:∀q∈us++bs,q∈us++f::bs:=fun q hq=>by
    rcases yI.1 hq with h|h
    .exact mem_append_left _ h
    .exact mem_append_right _ (yF _ h)
   have wO:=hI.JY.Fp;rw[map_append,map_cons]at wO;obtain⟨n1,n2,n3⟩:=nodup_append.1 wO;obtain⟨n4,n5⟩:=nodup_cons.1 n2;have fF:∀q∈us++bs,q.id≠f.id:=fun q hq e=>by
    rcases yI.1 hq with h|h
    .exact n3 q.id (yG.2 ⟨q,h,rfl⟩) f.id zS e
    .exact n4 (by rw[<- e];exact yG.2 ⟨q,h,rfl⟩)
   refine⟨fun q hq _=>hF.Td q (hm q hq) yO,fun q hq _=>hF.mt q (hm q hq) yO,fun q hq _ i hi=>?_,fun q hq r hr _ _ e=>hF.nS q (hm q hq) r (hm r hr) trivial trivial e⟩;show(if i=7 then f.mo else V.ρ i)≠q.mo;have hi8:i<8:=hi;split
   .exact fun e=>fF q hq (hF.nS f hf q (hm q hq) trivial trivial e).symm
   .exact hF.off q (hm q hq) trivial i zO
  obtain⟨w,u1,u2,u3⟩:=unfocus g2 XM (hFu.step s2) hkn htm zS;obtain⟨st,fr⟩:=step0 (H3:=HO (gV (us++⟨f.a,f.b,f.c,w,V2.ρ 7,f.l++[x]⟩::bs)) kn tm) h0 hs s2 (hb f hf) (fun i hi=>by
   have:i<8:=hi;omega) (by rw[XM];show 5<=8;decide)
  refine next { V2 with H:=HO (gV (us++⟨f.a,f.b,f.c,w,V2.ρ 7,f.l++[x]⟩::bs)) kn tm } a2 _ st u1 ⟨eF.lF u3 k2.aL (XK cs k),rfl,by rw[nod k2 rfl];exact .nil⟩ u2 (fun q hq=>?_) (XJ hI hx abV hfi w _ h1 h2 h3)
  rcases yI.1 hq with h|h
  .exact hb q (mem_append_left _ h)
  .rcases yH.1 h with rfl|h
   .exact fr 7 (by rw[XM];show 7<8;decide)
   .exact hb q (mem_append_right _ (yF _ h))
 .have xY:∀f∈fs,f.id≠x.after:=fun f hf e=>NT ⟨f,hf,e⟩;have he:=XH hI.JY hx.2.1 hx.2.2.1 hx.2.2.2 xY (.slice none 0 0) 0 [];refine amu (gV fs) kn tm cs k fs.length x (uo fs ⟨x.ad,x.j6,x.aa,.slice none 0 0,0,[]⟩ aK []) he (by rw[CO];omega) V V a _ _ h7 (Step.refl _) hG dK fun V2 a2 s2 g2 k2=>?_;have XM:V2.H=HF (uo fs ⟨x.ad,x.j6,x.aa,.slice none 0 0,0,[]⟩ (.aU 7 0 0 [x].length) []) kn tm (.box (aQ x)) (.box (dt x)) 0 [x]:=by
   rw[k2.H];show HO (CK (uo fs ⟨x.ad,x.j6,x.aa,.slice none 0 0,0,[]⟩ aK []) fs.length (.aU 7 0 0 1)) kn tm++[.box (aQ x),.box (dt x),.aN 0 9 false [aQ x]]=_;rw[Om];rfl
  obtain⟨w,u1,u2,u3⟩:=unfocus (us:=fs) (bs:=[]) g2 XM (by rw[y19];exact hF.step s2) hkn htm zS;obtain⟨st,fr⟩:=afj (H3:=HO (gV (fs++⟨x.ad,x.j6,x.aa,w,V2.ρ 7,[x]⟩::[])) kn tm) h0 (hs.trans s2) (by rw[XM];show 5<=8;decide);refine next { V2 with H:=HO (gV (fs++⟨x.ad,x.j6,x.aa,w,V2.ρ 7,[x]⟩::[])) kn tm } a2 _ st u1 ⟨eF.lF u3 k2.aL (XK cs k),rfl,by rw[nod k2 rfl];exact .nil⟩ u2 (fun q hq=>?_) (abS hI hx abV xY w _ h1 h2 h3)
  rcases yI.1 hq with h|h
  .exact hb q h
  .rw [mem_singleton.1 h];exact fr 7 (by rw[XM];show 7<8;decide)
variable {cs:List CE}
theorem XO{V0:View}(h0:V0.H=[])(jQ:cs.length<=1000000)(hR:∀x∈cs,Cu x){Q:Exit->Act->World->Prop}(bad:¬Ok cs->∀es kn tm k x a' w',Am.A9 G V0 .ret ⟨afk cs k,HO es kn tm++[.box (aQ x),.box (dt x)],[]⟩ .ret a' w'->Q .ret a' w')(good:Ok cs->∀V' a' Xc Fv,Step V0 V'->aD G V'->jO V' ⟨qE cs cs.length [],HO (gV Xc) (CU cs) (Ap Fv),[]⟩ a'->jA V' ALL Xc->(∀f∈Xc,V0.w.heap.size<=f.mo)->HY cs Xc Fv->Q (.exit 0) a' V'.w) :
 ∀(d k:Nat),cs.length-k=d->k<=cs.length->∀(V:View)(a:Act)(fs:List Fe)(ts:List (Int×Int×Int)),Step V0 V->aD G V->jO V ⟨qE cs k [],HO (gV fs) (CU (cs.take k)) (Ap ts),[]⟩ a->jA V ALL fs->(∀f∈fs,V0.w.heap.size<=f.mo)->HY (cs.take k) fs ts ->
 eO (fz none) 0 P Qw Q a V.w:=by
 intro d
 induction d with
 |zero =>
  intro k hd hk V a fs ts hs hG dK hF hb hI;obtain rfl:k=cs.length:=zO
  have h5:V.H.length=5:=by rw[dK.H];rfl
  refine eO.mono (bE (gV fs) (CU (cs.take cs.length)) (Ap ts) cs cs.length yM V V a h5 (Step.refl V) hG dK) ?_;rintro e a' w' ⟨V',rfl,k1,k2,k3,k4⟩;cases e<;>first|exact k4.elim|skip
  rename_i i;obtain rfl:i=0:=k4;rw[take_length]at k3 hI;exact good hI.ok V' a' fs ts (hs.trans k1) k2 k3 (hF.step k1) hb hI
 |succ d ih =>
  intro k hd hk V a fs ts hs hG dK hF hb hI;have bg:k<cs.length:=zO
  have hx:=yA bg;have QO:=y03 bg;have htk:=(take_append_getElem bg).symm;have jH:cs.take k++(cs[k]::cs.drop (k+1))=cs:=by rw[<- y01 bg,take_append_drop]
  generalize hxe:cs[k]=x at *;generalize hve:cs.take k=v at *;have Cv:v.length<=1000000:=by rw[<- hve,y18];omega
  have hxR:=hR x QO;have h5:V.H.length=5:=by rw[dK.H];rfl
  refine eO.next ?_;show Qw.wpIn (fz none) 0 P _ a V.w;rw[afc];refine bn.seq (b4 (gV fs) (CU v) (Ap ts) cs k bg) h5 (Step.refl V) hG dK fun V1 a1 s1 g1 k1=>?_;refine bn.seq (bI (gV fs) (CU v) (Ap ts) cs k) h5 s1 g1 k1 fun V2 a2 s2 g2 k2=>?_;refine Go.wpIn_seq (Go.wpIn_block ?_);refine bn.seq (b5 (gV fs) (CU v) (Ap ts) cs k x ⟨zO,by rw[y26,sF,hx];rfl⟩) h5 s2 g2 k2 fun V3 a3 s3 g3 k3=>?_;refine bn.seq (b6 (gV fs) (CU v) (Ap ts) cs k x) h5 s3 g3 k3 fun V4 a4 s4 g4 k4=>?_;refine Go.wpIn_seq ?_;obtain⟨t,ok,BK,ail⟩:∃t ok,bT P 27 (Ap ts) (fV x.dv x.sq) (int 0) (int t) ok/\((t≠0/\(x.dv,x.sq,t)∈ts)\/(t=0/\∀t,(x.dv,x.sq,t)∉ts)):=by
   by_cases h:∃t,(x.dv,x.sq,t)∈ts
   .obtain ⟨t,ht⟩:=h;refine⟨t,true,afh hI.iV hI.Xb hxR ht,.inl ⟨?_,ht⟩⟩;obtain⟨z,hz,e⟩:=hI.Xb _ ht;have:=XI (hI.ok.valid z hz);simp only[Prod.mk.injEq]at e;rw[<- e.2.2];exact this
   .exact ⟨0,false,abP hI.iV hI.Xb hxR fun t ht=>h ⟨t,ht⟩,.inr ⟨rfl,fun t ht=>h ⟨t,ht⟩⟩⟩
  refine bn.seq (b7 (gV fs) (CU v) (Ap ts) cs k x t ok BK) h5 s4 g4 k4 fun V5 a5 s5 g5 k5=>?_;have XP:¬Ok cs->∀(V6:View)(a6:Act),Step V0 V6->aD G V6->jO V6 ⟨qE cs k [(8,.ptr 5 0),(9,.ptr 6 0),(49,bool true)],HO (gV fs) (CU v) (Ap ts)++[.box (aQ x),.box (dt x)],[]⟩ a6->∀(K:Act->World->Prop)(Q2:Exit->Act->World->Prop),(∀a w,Q .ret a w->Q2 .ret a w)->q9.wpIn (fz none) 0 P (Exit.then K Q2) a6 V6.w:=by
   intro xY V6 a6 s6 g6 k6 K Q2 hQ;refine Go.wpIn_mono (eT (r:=none) q9 (b9r (gV fs) (CU v) (Ap ts) cs k x) (nV _) V0 V6 a6 (by rw[h0];rfl) s6 g6 k6) ?_;intro e a' w' hE;obtain⟨V',e1,e2,e3,e4,e5⟩:=hE;cases e<;>first|exact e5.elim|skip
   exact hQ _ _ (bad xY _ _ _ _ _ _ _ ⟨V',e1,e2,e3,e4,e5⟩)
  have XQ:(∀y∈v,y.id≠x.id)->dF x=true->(∀t',(x.dv,x.sq,t')∈ts->t'=x.tm)->∀(V6:View)(a6:Act),Step V V6->aD G V6->jO V6 ⟨qE cs k [(8,.ptr 5 0),(9,.ptr 6 0),(49,bool false)],HO (gV fs) (CU v) (Ap ts)++[.box (aQ x),.box (dt x)],[]⟩ a6 ->
   q9.wpIn (fz none) 0 P (Exit.then (fun a w=>(Code.seq q10 q11).wpIn (fz none) 0 P (Exit.inBlock 1 (Exit.then (q12.wpIn (fz none) 0 P (Exit.then (eO (fz none) 0 P Qw Q) Q)) (Exit.then (eO (fz none) 0 P Qw Q) Q))) a w) (Exit.inBlock 1 (Exit.then (q12.wpIn (fz none) 0 P (Exit.then (eO (fz none) 0 P Qw Q) Q)) (Exit.then (eO (fz none) 0 P Qw Q) Q)))) a6 V6.w:=by
   intro dU hv htm V6 a6 s6 g6 k6;have abV:=abR hI.ok hv dU fun y hy e1 e2=>by
    have:=hI.ts2 y hy;rw[e1,e2]at this;exact htm _ this
   obtain⟨Fv,m1,m2,m3,m4⟩:=afi hI.iV hI.Xb hxR htm;refine b9 (gV fs) (CU v) (Ap ts) cs k x V V6 a6 _ _ h5 s6 g6 k6 fun V7 a7 s7 g7 k7=>?_;refine bn.seq (b10 (gV fs) (CU v) (Ap ts) cs k x (CU (v++[x])) (Ap Fv) (afg hI.iV hxR dU) m1) h5 s7 g7 k7 fun V8 a8 s8 g8 k8=>?_;refine Go.wpIn_mono (abU (Q:=Exit.inBlock 1 (Exit.then (q12.wpIn (fz none) 0 P (Exit.then (eO (fz none) 0 P Qw Q) Q)) (Exit.then (eO (fz none) 0 P Qw Q) Q))) h0 (hs.trans s8) g8 k8 (hF.step s8) hb hI Cv hxR abV (abM _) (abN _) m2 m3 m4 fun V9 a9 Xc s9 g9 k9 f9 b9' i9=>?_) fun e a w h=>by cases e<;>exact h
   show q12.wpIn (fz none) 0 P (Exit.then (eO (fz none) 0 P Qw Q) Q) a9 V9.w;have h59:V9.H.length=5:=by rw[k9.H];rfl
   refine b12 (gV Xc) (CU (v++[x])) (Ap Fv) cs k zO V9 V9 a9 _ _ h59 (Step.refl V9) g9 k9 fun Va aa sa ga ka=>?_;refine ih (k+1) zO zO Va aa Xc Fv (s9.trans sa) ga ?_ (f9.step sa) b9' ?_
   .rw [htk];exact ka
   .rw [htk];exact i9
  cases hv:dF x with
  |false =>
   refine bn.seq (b8a (gV fs) (CU v) (Ap ts) cs k x t (by rw[<- hv];exact pV x)) h5 s5 g5 k5 fun V6 a6 s6 g6 k6=>?_;exact XP (fun h=>by rw[h.valid x QO]at hv;cases hv) V6 a6 (hs.trans s6) g6 k6 _ _ fun a w h=>h
  |true =>
   have hvc:Cq 284 [nP x] (bool true):=by rw[<- hv];exact pV x
   by_cases dU:∃y∈v,y.id=x.id
   .refine bn.seq (b8b (gV fs) (CU v) (Ap ts) cs k x t true hvc (aff hI.iV hxR dU)) h5 s5 g5 k5 fun V6 a6 s6 g6 k6=>?_;refine XP (fun h=>?_) V6 a6 (hs.trans s6) g6 k6 _ _ fun a w h=>h;obtain⟨y,hy,e⟩:=dU;rw[<- jH]at h;exact Oo ((pairwise_append.1 h.nS).2.2 y hy x zS) e
   .have Oy:∀y∈v,y.id≠x.id:=fun y hy e=>dU ⟨y,hy,e⟩;rcases ail with⟨ht0,amw⟩|⟨rfl,ain⟩
    .obtain ⟨z,hz,ez⟩:=hI.Xb _ amw;simp only[Prod.mk.injEq]at ez;by_cases hte:t=x.tm
     .refine bn.seq (b8d (gV fs) (CU v) (Ap ts) cs k x t false hvc (LQ hI.iV hxR Oy) (by simpa using ht0)) h5 s5 g5 k5 fun V6 a6 s6 g6 k6=>?_;rw[show(t != x.tm)=false by simp[hte]]at k6;refine XQ Oy hv (fun t' ht'=>?_) V6 a6 s6 g6 k6;obtain⟨y,hy,ey⟩:=hI.Xb _ ht';simp only[Prod.mk.injEq]at ey;have:=aea hI.ok hy hz (ey.1.trans ez.1.symm) (ey.2.1.trans ez.2.1.symm);rw[<- hte,<- ey.2.2,<- ez.2.2];exact this
     .refine bn.seq (b8d (gV fs) (CU v) (Ap ts) cs k x t false hvc (LQ hI.iV hxR Oy) (by simpa using ht0)) h5 s5 g5 k5 fun V6 a6 s6 g6 k6=>?_;rw[show(t != x.tm)=true by simpa using hte]at k6;refine XP (fun h=>?_) V6 a6 (hs.trans s6) g6 k6 _ _ fun a w h=>h;have:=aea h (x:=z) (y:=x) (by rw[<- jH];exact mem_append_left _ hz) QO ez.1 ez.2.1;exact hte (by rw[<- ez.2.2];exact this)
    .refine bn.seq (b8c (gV fs) (CU v) (Ap ts) cs k x 0 false hvc (LQ hI.iV hxR Oy) rfl) h5 s5 g5 k5 fun V6 a6 s6 g6 k6=>?_;exact XQ Oy hv (fun t' ht'=>absurd ht' (ain t')) V6 a6 s6 g6 k6
def Oz:Func:=(P.funcs[238]?).getD default
def Bl:Array Oper:=Bj a15
def LU:Oper:=Bl.toList.getD 2 default
theorem aio:a15 = .region 15 Bl false:=zQ
section
variable (cs:List CE) (es kn tm:List (Value×AV)) (g n:Nat) (xs:List (List AV))
theorem o0:bn P G none 0 a0 ⟨[bZ cs]++replicate 76 (.lit undef),[],[]⟩ ⟨aC 77 [(0,bZ cs),(2,.ptr 0 0)],[.box [aK]],[]⟩:=bM [] (aB 77 [0,2]) 1 zQ
theorem o1:bn P G none 0 a1 ⟨aC 77 [(0,bZ cs),(2,.ptr 0 0)],[.box [aK]],[]⟩ ⟨aC 77 [(0,bZ cs),(2,.ptr 0 0),(4,.ptr 2 0)],[.box [aK],.map [],.box [.mp 1]],[]⟩:=bM [] (aB 77 [0,2,4]) 3 zQ
theorem o2:bn P G none 0 a2 ⟨aC 77 [(0,bZ cs),(2,.ptr 0 0),(4,.ptr 2 0)],[.box [aK],.map [],.box [.mp 1]],[]⟩ ⟨aC 77 [(0,bZ cs),(2,.ptr 0 0),(4,.ptr 2 0),(5,.mp 3),(6,.mp 4)],HO [] [] [],[]⟩:=bM [] (aB 77 [0,2,4,5,6]) 5 zQ
theorem o3:bn P G none 0 a3 ⟨aC 77 [(0,bZ cs),(2,.ptr 0 0),(4,.ptr 2 0),(5,.mp 3),(6,.mp 4)],HO [] [] [],[]⟩ ⟨qE cs 0 [],HO [] [] [],[]⟩ :=
 bM [kv 16 (show aF (int (au cs).length) (int cs.length)from aF.of_eq (by rw[ay]))] (aB 77 [0,2,4,5,6,15,16,17]) 5 zQ
theorem o13:bn P G none 5 a13 ⟨qE cs n [],HO es kn tm,[]⟩ ⟨aC 77 [(0,bZ cs),(2,.ptr 0 0),(4,.ptr 2 0),(11,.ptr 5 0)],HO es kn tm++[.box [.lit .nilFunc]],[]⟩:=bM [] (aB 77 [0,2,4,11]) 6 zQ
theorem o14:bn P G none 6 a14 ⟨aC 77 [(0,bZ cs),(2,.ptr 0 0),(4,.ptr 2 0),(11,.ptr 5 0)],HO es kn tm++[.box [.lit .nilFunc]],[]⟩ ⟨aC 77 [(0,bZ cs),(2,.ptr 0 0),(11,.ptr 5 0)],HN es,[]⟩ :=
 bM [ko (.hp none (.lit undef) (HN es)),kp (aF.refl (.lit undef)),kp (show HSub (HO es kn tm++[.box [fnB]]) (HN es)from⟨.inl rfl,.inl rfl,.inl rfl,.inr yO,.inr yO,.inl rfl,yO⟩)] (aB 77 [0,2,11]) 6 zQ
theorem o15:vw P G none Bl 0 [Bl.toList.getD 0 default,Bl.toList.getD 1 default] (aC 77 [(0,bZ cs),(2,.ptr 0 0),(11,.ptr 5 0)]) (HN es) [] [] =
 some (.normal,aC 77 [(0,bZ cs),(2,.ptr 0 0),(11,.ptr 5 0),(68,fnB),(69,oO 0 0 0)],HN es,[],[],[]):=zQ
theorem oB(k:Nat)x:EA P G 0 Oz .ret ⟨afk cs k,HO es kn tm++[.box (aQ x),.box (dt x)],[]⟩ []=some (.ret (.bq [aK,int 130]),[],[]):=zQ
theorem oN1(h:((0:Int)!=(au cs).length)=true):y7 P G 0 Oz aE ⟨aC 77 [(0,bZ cs),(2,.ptr 0 0)],HN es,[]⟩ (mZ [kt h])=some (.ret (.bq [aK,int 130]),[],jS [kt h]):=zQ
theorem oN0(h:((0:Int)!=(au cs).length)=false):y7 P G 0 Oz aE ⟨aC 77 [(0,bZ cs),(2,.ptr 0 0)],HN es,[]⟩ (mZ [kf h])=some (.ret (.bq [aK,int 0]),[],jS [kf h]):=zQ
theorem oE1(h:((n:Int)!=(au cs).length)=true):y7 P G 0 Oz aE ⟨aC 77 [(0,bZ cs),(2,.ptr 0 0)],HB es g n xs,[]⟩ (mZ [kp (Eq.refl g),kt h])=some (.ret (.bq [aK,int 130]),[],jS [kp (Eq.refl g),kt h]):=zQ
theorem oE0(h:((n:Int)!=(au cs).length)=false)(h1:List.take n (List.drop 0 xs)=xs)(h2:xs.length=n)(h3:∀c∈xs,c.all AV.fJ=true):y7 P G 0 Oz aE ⟨aC 77 [(0,bZ cs),(2,.ptr 0 0)],HB es g n xs,[]⟩ (mZ [kp (Eq.refl g),kf h,ko (.fz (some 76) xs),kp (Eq.refl g),kp h1,kp h2,kp h3])=some (.ret (.bq [.sl 9 false xs,int 0]),[],jS [kp (Eq.refl g),kf h,ko (.fz (some 76) xs),kp (Eq.refl g),kp h1,kp h2,kp h3]):=zQ
end
def F6(cs:List CE):AV:=if sO cs=true then(if arE cs=[]then .bq [aK,int 0]else .bq [bZ (arE cs),int 0])else .bq [aK,int 130]
theorem Aq(h:Ok cs):sO cs=true↔(arE cs).length=cs.length:=by grind[Ak,abL]
theorem abW V:jA V ALL []:=⟨fun _ h=>absurd h y12,fun _ h=>absurd h y12,fun _ h=>absurd h y12,fun _ h=>absurd h y12⟩
theorem XR:HY (cs.take 0) [] [] :=
 ⟨⟨fun _ h=>absurd h y12,.nil⟩,fun _ h=>absurd h y12,⟨.nil,fun _ h=>absurd h y12⟩,fun _ h=>absurd h y12,fun _ h=>absurd h y12,fun _ h=>absurd h y12,fun _ h=>absurd h y12⟩
theorem afl:fO 0:=by unfold fO;decide
theorem U0(cs:List CE)(jQ:cs.length<=1000000)(hR:∀x∈cs,Cu x):Cq 238 [bZ cs] (F6 cs):=by
 have wN:P.funcs[238]?=some Oz:=zQ
 have hb:Oz.body=some (.seq a0 (.seq a1 (.seq a2 (.seq (.seq a3 (.block 0 (.loop Qw))) (.seq a13 (.seq a14 (.seq a15 aE))))))):=zQ
 refine EB wN hb fun V a hH hG dK=>?_;have h0:V.H.length=0:=by rw[hH];rfl
 have hn:Oz.ntmps-[bZ cs].length=76:=zQ
 rw[hn]at dK;refine bn.seq (o0 cs) h0 (Step.refl V) hG dK fun V1 a1' s1 g1 k1=>?_;refine bn.seq (o1 cs) h0 s1 g1 k1 fun V2 a2' s2 g2 k2=>?_;refine bn.seq (o2 cs) h0 s2 g2 k2 fun V3 a3' s3 g3 k3=>?_;refine Go.wpIn_seq ?_;refine bn.seq (o3 cs) h0 s3 g3 k3 fun V4 a4' s4 g4 k4=>?_;refine Go.wpIn_block (eO.wpIn ?_);refine XO hH jQ hR (fun xY es kn tm k x a' w' hE=>?_) (fun Xd V5 a5 fs ts s5 g5 k5 f5 b5 i5=>?_) _ 0 rfl yN V4 a4' [] [] s4 g4 k4 (abW V4) (fun _ h=>absurd h y12) XR
 .have e:F6 cs = .bq [aK,int 130]:=by
   unfold F6;rw[yK fun h=>xY (Ak.1 h).1]
  rw[e];have iJ:=oB cs es kn tm k x;rw[<- h0]at iJ;exact vU iJ trivial _ _ _ hE
 .show (Code.seq a13 (.seq a14 (.seq a15 aE))).wpIn (fz none) 0 P _ a5 V5.w;have h5:V5.H.length=5:=by rw[k5.H];rfl
  refine bn.seq (o13 cs (gV fs) (CU cs) (Ap ts) cs.length) h5 (Step.refl V5) g5 k5 fun V6 a6 s6 g6 k6=>?_;have h6:V6.H.length=6:=by rw[k6.H];rfl
  refine bn.seq (o14 cs (gV fs) (CU cs) (Ap ts)) h6 (Step.refl V6) g6 k6 fun V7 a7 s7 g7 k7=>?_;refine Go.wpIn_seq ?_;rw[aio];refine wpIn_region ?_;have hH7:V7.H=HN (gV fs):=k7.H;refine qg (os1:=[Bl.toList.getD 0 default,Bl.toList.getD 1 default]) (os2:=[LU]) (i:=0) (bf:=[]) (aT:=[]) (ps:=[]) (r:=none) (o15 cs (gV fs)) trivial zQ g7 hH7 k7.aL k7.dh ?_;intro V8 a8 s8 g8 hh8 e8 d8;have yV:(List.range Bl.size).drop (0+[Bl.toList.getD 0 default,Bl.toList.getD 1 default].length)=[2]:=zQ
  rw[yV];have f8:=((f5.step s6).step s7).step s8;have h68:a8.eval (.tmp 68) = .func (.func 285) #[] #[jG (V8.ρ 2),jG (V8.ρ 0),jG (V8.ρ 5)]:=Tg (e8.get 68);have h69:a8.eval (.tmp 69)=xL 0 0 0:=Xy (e8.get 69);have hdp:=XG Xd jQ;have wO:((0,0,0)::mq (arE cs)).Nodup:=by
   refine nodup_cons.2 ⟨fun h=>?_,?_⟩
   .obtain ⟨z,hz,e⟩:=yG.1 h;exact Xd.id0 ((rT Xd).1 hz).1 e
   .have h1:=Ao Xd;unfold mq;exact pairwise_map.2 (Pairwise.imp_of_mem (fun{x y} hx hy fF e=>fF (Xd.one ((rT Xd).1 hx).1 ((rT Xd).1 hy).1 e)) h1)
  have aip:=abH (i5.link jQ) Xd.iw i5.JY jQ cs.length 0 0 0 hdp afl afl afl V8 ALL g8 hh8 f8 ⟨yO,fun _ _=>trivial⟩ wO (by have:=hdp.len;omega);have jf:#[]++#[Operand.tmp 69].map a8.eval++#[jG (V8.ρ 2),jG (V8.ρ 0),jG (V8.ρ 5)]=#[xL 0 0 0,jG (V8.ρ 2),jG (V8.ρ 0),jG (V8.ρ 5)]:=by simp[h69]
  refine yX (o:=LU) (g:=.tmp 68) (f:=285) (fn:=JX) (us:=#[]) (vs:=#[jG (V8.ρ 2),jG (V8.ρ 0),jG (V8.ρ 5)]) (args:=#[.tmp 69]) (ts:=#[31]) zQ zQ zQ zQ zQ h68 (by rw[jf];exact aip) ?_;rintro e w' ⟨rfl,V9,rfl,s9,g9,y8⟩;refine⟨_,rfl,?_⟩;show aE.wpIn (fz none) 0 P _ (a8.put LU.dst (.tuple #[])) V9.w;have hs5:Step V V9:=((((s5.trans s6).trans s7).trans s8)).aiq s9 fun b hb=>by
   obtain⟨f,hf,_,e⟩:=hb;rw[<- e];exact b5 f hf
  have air:(a8.put LU.dst (.tuple #[])).defers=[]:=by
   rw[nT];cases UW:a8.defers with
   |nil=>rfl
   |cons d l=>rw[UW]at d8;cases d8
  have hz:(arE cs).length=(bX cs (cs.length+1) 0 0 0).length:=rfl;have F7:∀(lv:AV),V9.H[0]?=some (.box [lv])->eF V9 (aC 77 [(0,bZ cs),(2,.ptr 0 0)]) (a8.put LU.dst (.tuple #[])):=fun lv hlv=>by
   have h1:eF V9 (aC 77 [(0,bZ cs),(2,.ptr 0 0)]) a8:=by
    have ed:eF V8 (aC 77 [(0,bZ cs),(2,.ptr 0 0)]) a8:=by
     refine e8.ae9 zQ fun j hj=>?_;have afm:j<77:=by
      have:(aC 77 [(0,bZ cs),(2,AV.ptr 0 0),(11,.ptr 5 0),(68,fnB),(69,oO 0 0 0)]).length=77:=zQ
      omega
     by_cases h0':j=0
     .subst h0';exact .inl rfl
     .by_cases h2':j=2
      .subst h2';exact .inl rfl
      .right;unfold aC;rw[yB,getElem?_map,getElem?_range afm];simp[vk,Ne.symm h0',Ne.symm h2']
    refine⟨ed.1,fun j hj=>?_⟩;have afm:j<77:=by
     have:(aC 77 [(0,bZ cs),(2,AV.ptr 0 0)]).length=77:=zQ
     omega
    have hr:=ed.2 j hj;by_cases h0':j=0
    .subst h0';exact Od s9 hr
    .by_cases h2':j=2
     .subst h2';exact Ai s9 hr (by rw[hh8];rfl) hlv
     .have:(aC 77 [(0,bZ cs),(2,AV.ptr 0 0)]).getD j .aP = .aP:=by
       unfold aC;rw[yB,getElem?_map,getElem?_range afm];simp[vk,Ne.symm h0',Ne.symm h2']
      rw[this];exact .aP _
   have:=h1.put LU.dst (x:=.aP) (v:=.tuple #[]) (.aP _);rw[show LU.dst=some 70 by kernel_rfl]at this |-;exact this
  rcases y8 with⟨afn,hH9⟩|⟨fF,g',hH9⟩
  .have jH:arE cs=[]:=afn;have k9:jO V9 ⟨aC 77 [(0,bZ cs),(2,.ptr 0 0)],HN (gV fs),[]⟩ (a8.put LU.dst (.tuple #[])):=⟨F7 aK (by rw[hH9];rfl),hH9,by rw[air];exact .nil⟩;by_cases bS:cs.length=0
   .have e:F6 cs = .bq [aK,int 0]:=by
     unfold F6;rw[yL ((Aq Xd).2 (by rw[jH,bS];rfl)),yL jH]
    rw[e];exact mJ _ (oN0 cs (gV fs) (by rw[ay,bS];rfl)) h0 hs5 g9 k9
   .have e:F6 cs = .bq [aK,int 130]:=by
     unfold F6;rw[yK fun h=>bS (by have:=(Aq Xd).1 h;rw[jH]at this;exact this.symm)]
    rw[e];exact mJ _ (oN1 cs (gV fs) (by rw[ay];simp;omega)) h0 hs5 g9 k9
  .have afo:arE cs≠[]:=fF;have k9:jO V9 ⟨aC 77 [(0,bZ cs),(2,.ptr 0 0)],HB (gV fs) g' (arE cs).length (au (arE cs)),[]⟩ (a8.put LU.dst (.tuple #[])):=⟨F7 _ (by rw[hH9];rfl),hH9,by rw[air];exact .nil⟩;by_cases hl:(arE cs).length=cs.length
   .have e:F6 cs = .bq [.sl 9 false (au (arE cs)),int 0]:=by
     unfold F6;rw[yL ((Aq Xd).2 hl),yK afo];rfl
    rw[e];exact mJ _ (oE0 cs (gV fs) g' (arE cs).length (au (arE cs)) (by rw[ay,hl];simp) (dW _) (ay _) (bK _)) h0 hs5 g9 k9
   .have e:F6 cs = .bq [aK,int 130]:=by
     unfold F6;rw[yK fun h=>hl ((Aq Xd).1 h)]
    rw[e];exact mJ _ (oE1 cs (gV fs) g' (arE cs).length (au (arE cs)) (by rw[ay];simp;omega)) h0 hs5 g9 k9
theorem wW(cs:List CE)(jQ:cs.length<=1000000)(hR:∀x∈cs,Cu x):Cq 238 [bZ cs] (.bq [bZ (BI cs),int (F5 cs)]):=by
 refine ak.out (U0 cs jQ hR) ?_;unfold F6 BI F5;by_cases hf:sO cs=true
 .rw [yL hf,yL hf,yL hf];split
  .rename_i h;rw[h];exact aF.U1 (aF.nil 9) (y29)
  .exact y29
 .rw [yK hf,yK hf,yK hf];exact aF.U1 (aF.nil 9) (y29)
def kQ(l:List CE):Prop:=∀x∈l,Cu x
theorem amx(l r:List CE)(e:Int)(b:Bool)(ho:Cq 238 [bZ l] (.bq [bZ r,int e]))(hs:Cq 68 [bZ r,bZ l] (bool b))(o:Int)(h:(((e=0)->((((b)=true)->(e:Int)=(o))/\(((b)=false)->130=o)))/\((¬e=0)->(e:Int)=(o)))):Cq 155 [bZ l] (int o):=by
 by_cases c1:(e=0)
 .have h:=h.1 c1;rcases y00 ((b))with c2|c2
  .have h:=h.1 c2;exact aA (aF.int_eq h) [kc [] ho,kt (nW.2 c1),kc [] hs,kf (y27 (c2))]
  .have h:=h.2 c2;exact aA (aF.int_eq h) [kc [] ho,kt (nW.2 c1),kc [] hs,kt (y27 (c2))]
 .have h:=h.2 c1;exact aA (aF.int_eq h) [kc [] ho,kf (qN.2 c1),kY]
theorem abX l:F5 l=0\/F5 l=130:=by unfold F5;simp
theorem HZ(l:List CE)(hv:l.length<=1000000)(hR:kQ l):Cq 155 [bZ l] (int (jg l)):=by
 refine amx l _ _ _ (wW l hv hR) (ais (BI l) l (by have:=Ow l;omega) zO) _ ?_;have:=abX l;unfold jg;grind
theorem amy(l:List CE)(c:CE)(e:Int)(he:e≠0)(hc:Cq 155 [bZ l] (int e))(h:True):Cq 355 [bZ l,nP c] (.bq [bZ [],int e]):=by
 exact ak.out ((show Cq 355 [bZ l,nP c] (.bq [aK,int e])from aj [kc [] hc,kt (show(e != 0)=true from(y27 (qF zO)))])) (aF.iM ⟨(aF.nil _),y29,yO⟩)
theorem amz(l:List CE)(c:CE)(hg:c.gn=true)(hc:Cq 155 [bZ l] (int 0))(h:True):Cq 355 [bZ l,nP c] (.bq [bZ [],int 130]):=by
 exact ak.out ((show Cq 355 [bZ l,nP c] (.bq [aK,int 130])from aj [kc [] hc,kY,kt hg])) (aF.iM ⟨(aF.nil _),y29,yO⟩)
theorem ait(l:List CE)(fF:¬au l=[])(hv:l.length<=1000000)(h:True):ak P G 116 [bZ l] [] (aS.ret (AV.aU 0 0 0 l.length)) [ah.aN 0 9 false (au l)]:=by
 exact aj [kp (show au l≠[]from zO),kY,kv 7 (show Am.aF (AV.aU 0 0 0 (0+length (au l))) (AV.aU 0 0 0 l.length)from(aF.of_eq (by simp[ay,dW]))),kp fF,vV ((0+length (au l))*80) (by simp only[yD,yE,y11,y10,ay,dW]<;>omega)]
theorem amA(l r:List CE)(c:CE)(e:Int)(fF:¬au l=[])(hv:l.length<=1000000)(hg:c.gn=false)(hc:Cq 155 [bZ l] (int 0))(lG:ak P G 116 [bZ l] [] (.ret (.aU 0 0 0 l.length)) [.aN 0 9 false (au l)])(ho:ak P G 238 [.aU 0 1 0 (l.length+1)] [.aN 1 9 false (au l++[[int c.dv,int c.sq,int c.gU,int c.ad,int c.j6,int c.aa,int c.tm,str c.vl,bool c.gn]])] (.ret (.bq [bZ r,int e])) [.aN 1 9 true (au l++[[int c.dv,int c.sq,int c.gU,int c.ad,int c.j6,int c.aa,int c.tm,str c.vl,bool c.gn]])])(h:True):Cq 355 [bZ l,nP c] (.bq [bZ r,int e]):=by
 have H6:∀(x:List AV),x∈au l++[[int c.dv,int c.sq,int c.gU,int c.ad,int c.j6,int c.aa,int c.tm,str c.vl,Am.bool c.gn]]->AV.aM [] x=true:=(by exact(Am.dx (bJ _) (Am.dM rfl Am.eU)));exact aj [kc [] hc,kY,kf hg,kc [] lG,kp (bJ l),kq 0,kp (ay l).symm,vV ((length l+1)*80),kc [1] ho,kp H6,kp H6]
theorem aiu(r:List CE)(c:CE)(e:Int)(cap:Nat)(hg:c.gn=false)(hc:Cq 155 [.lit (.slice none 0 cap)] (int 0))(lG:Cq 116 [.lit (.slice none 0 cap)] (.lit (.slice none 0 0)))(ho:ak P G 238 [.aU 0 0 0 1] [.aN 0 9 false [[int c.dv,int c.sq,int c.gU,int c.ad,int c.j6,int c.aa,int c.tm,str c.vl,bool c.gn]]] (.ret (.bq [bZ r,int e])) [.aN 0 9 true [[int c.dv,int c.sq,int c.gU,int c.ad,int c.j6,int c.aa,int c.tm,str c.vl,bool c.gn]]])(h:True):Cq 355 [.lit (Value.slice none 0 cap),nP c] (.bq [bZ r,int e]):=by
 have qj:∀(x:List AV),x∈[[int c.dv,int c.sq,int c.gU,int c.ad,int c.j6,int c.aa,int c.tm,str c.vl,Am.bool c.gn]]->AV.aM [] x=true:=(by exact(Am.dM rfl Am.eU));exact aj [kc [] hc,kY,kf hg,kc [] lG,Qx [int c.dv,int c.sq,int c.gU,int c.ad,int c.j6,int c.aa,int c.tm,str c.vl,Am.bool c.gn],vV 80,kc [1] ho,kp qj,kp qj]
theorem aiv(r:List CE)(c:CE)(e:Int)(cap:Nat)(a:Addr)(hg:c.gn=false)(hc:Cq 155 [.lit (.slice (some a) 0 cap)] (int 0))(lG:Cq 116 [.lit (.slice (some a) 0 cap)] (.sl 9 true []))(ho:ak P G 238 [.aU 0 0 0 1] [.aN 0 9 false [[int c.dv,int c.sq,int c.gU,int c.ad,int c.j6,int c.aa,int c.tm,str c.vl,bool c.gn]]] (.ret (.bq [bZ r,int e])) [.aN 0 9 true [[int c.dv,int c.sq,int c.gU,int c.ad,int c.j6,int c.aa,int c.tm,str c.vl,bool c.gn]]])(h:True):Cq 355 [.lit (Value.slice (some a) 0 cap),nP c] (.bq [bZ r,int e]):=by
 have qj:∀(x:List AV),x∈[[int c.dv,int c.sq,int c.gU,int c.ad,int c.j6,int c.aa,int c.tm,str c.vl,Am.bool c.gn]]->AV.aM [] x=true:=(by exact(Am.dM rfl Am.eU));exact aj [kc [] hc,kY,kf hg,kc [] lG,Qx [int c.dv,int c.sq,int c.gU,int c.ad,int c.j6,int c.aa,int c.tm,str c.vl,Am.bool c.gn],vV 80,kc [1] ho,kp qj,kp qj]
theorem amB(l:List CE)(a b c:Int)(e:Int)(he:e≠0)(hc:Cq 155 [bZ l] (int e))(h:True):Cq 358 [bZ l,oO a b c] (.bq [bZ [],int e]):=by
 exact ak.out ((show Cq 358 [bZ l,oO a b c] (.bq [aK,int e])from aj [kc [] hc,kt (show(e != 0)=true from(y27 (qF zO)))])) (aF.iM ⟨(aF.nil _),y29,yO⟩)
theorem amC(l:List CE)(a b c:Int)(hc:Cq 155 [bZ l] (int 0))(hf:Cq 34 [bZ l,oO a b c] (.bq [int 0,bool false]))(h:True):Cq 358 [bZ l,oO a b c] (.bq [bZ [],int 130]):=by
 exact ak.out ((show Cq 358 [bZ l,oO a b c] (.bq [aK,int 130])from aj [kc [] hc,kY,kc [] hf,kO])) (aF.iM ⟨(aF.nil _),y29,yO⟩)
theorem amD(l:List CE)(x:CE)(a b c:Int)(j:Nat)(hv:l.length<=1000000)(fF:¬au l=[])(hj:j<l.length)(hx:l[j]?=some x)(hc:Cq 155 [bZ l] (int 0))(hf:Cq 34 [bZ l,oO a b c] (.bq [int j,bool true]))(lG:ak P G 116 [bZ l] [] (.ret (.aU 0 0 0 l.length)) [.aN 0 9 false (au l)])(r:AV)(h:((∀(x:List AV),x∈au l->AV.aM [] x=true)/\(∃x2:CE,(l[0+Int.toNat (j:Int)]?=some x2)/\((List.take l.length (List.drop 0 (List.set (au l) (0+Int.toNat (j:Int)) [int x2.dv,int x2.sq,int x2.gU,int x2.ad,int x2.j6,int x2.aa,int x2.tm,str x2.vl,Am.bool true]))=List.set (au l) (0+Int.toNat (j:Int)) [int x2.dv,int x2.sq,int x2.gU,int x2.ad,int x2.j6,int x2.aa,int x2.tm,str x2.vl,Am.bool true])/\((length (List.set (au l) (0+Int.toNat (j:Int)) [int x2.dv,int x2.sq,int x2.gU,int x2.ad,int x2.j6,int x2.aa,int x2.tm,str x2.vl,Am.bool true])=length l)/\((∀(c:List AV),c∈List.set (au l) (0+Int.toNat (j:Int)) [int x2.dv,int x2.sq,int x2.gU,int x2.ad,int x2.j6,int x2.aa,int x2.tm,str x2.vl,Am.bool true]->List.all c AV.fJ=true)/\aF (AV.bq [AV.sl 9 false (List.set (au l) (0+Int.toNat (j:Int)) [int x2.dv,int x2.sq,int x2.gU,int x2.ad,int x2.j6,int x2.aa,int x2.tm,str x2.vl,Am.bool true]),int 0]) (AV.bq [r,int 0]))))))):Cq 358 [bZ l,oO a b c] (.bq [r,int 0]):=by
 have x9:0=0:=(rfl);obtain⟨o1,h⟩:=h;obtain⟨x2,o3,h⟩:=h;obtain⟨o4,h⟩:=h;obtain⟨o5,h⟩:=h;obtain⟨o6,h⟩:=h;have e1:=h;exact ak.out ((aj [kc [] hc,kY,kc [] hf,kY,kc [] lG,ko (bC.elem (aQ x2)),ko (bC.Gu (List.set (au l) (0+Int.toNat (j:Int)) [int x2.dv,int x2.sq,int x2.gU,int x2.ad,int x2.j6,int x2.aa,int x2.tm,str x2.vl,Am.bool true])),kp o1,kp x9,kR (j:Int) (l.length:Int),kp x9,kp x9,kp (show(au l)[0+Int.toNat (j:Int)]?=some (aQ x2)from(iN o3)),kp x9,kp o4,kp o5,kp o6])) e1
theorem XT(l:List CE)(fF:l≠[])(hv:l.length<=1000000):ak P G 116 [bZ l] [] (.ret (.aU 0 0 0 l.length)) [.aN 0 9 false (au l)]:=ait l (fun h=>fF (by simpa[au]using h)) hv trivial
theorem abY(cap:Nat):Cq 116 [.lit (.slice none 0 cap)] aK:=aj [kO]
theorem abZ(a:Addr)(cap:Nat):Cq 116 [.lit (.slice (some a) 0 cap)] (.sl 9 true []):=aj [kY,ko .LV,kp (rfl:([]:List (List AV))=[])]
theorem TA(A:Option Addr)(cap:Nat)(h:Cq 155 [bZ []] (int 0)):Cq 155 [.lit (.slice A 0 cap)] (int 0) :=
 h.args rfl fun j hj=>by
  have:j<1:=hj;obtain rfl:j=0:=zO
  exact aF.afp 9 A cap
theorem kQ.HV{l}{c}(h:kQ l)(hc:Cu c):kQ (l++[c]):=fun x hx=>by
 rcases yI.1 hx with h'|h'
 .exact h x h'
 .grind
theorem KC(l:List CE)(c:CE)(hv:l.length<=999999)(hR:kQ l)(hc:Cu c):Cq 355 [bZ l,nP c] (.bq [bZ (rU l c),int (A8 l c)]):=by
 have hk:=HZ l zO hR;by_cases h0:jg l=0
 .rw [h0]at hk;by_cases hg:c.gn=true
  .have e1:rU l c=[]:=by simp[rU,h0,hg]
   have e2:A8 l c=130:=by simp[A8,h0,hg]
   rw[e1,e2];exact amz l c hg hk trivial
  .have e1:rU l c=BI (l++[c]):=by simp[rU,h0,hg]
   have e2:A8 l c=F5 (l++[c]):=by simp[A8,h0,hg]
   rw[e1,e2];have hg':c.gn=false:=by simpa using hg
   have ho:=wW (l++[c]) (by rw[yD,length_singleton];omega) (hR.HV hc);have hp:=bK (l++[c]);have hn:=ay (l++[c]);rw[yD,length_singleton]at hn;have he:au (l++[c])=au l++[aQ c]:=by simp[au]
   rw[bZ,he]at ho;rw[he]at hp hn;have ho':∀g,ak P G 238 [.aU 0 g 0 (l.length+1)] [.aN g 9 false (au l++[aQ c])] (.ret (.bq [bZ (BI (l++[c])),int (F5 (l++[c]))])) [.aN g 9 true (au l++[aQ c])]:=fun g =>
    ak.afq (by rw[<- hn,take_length]) hn hp rfl ho
   cases l with
   |nil=>exact ak.XU (fun cap=>aiu _ c _ cap hg' (TA none cap hk) (abY cap) (ho' 0) yO) (fun a cap=>aiv _ c _ cap a hg' (TA (some a) cap hk) (abZ a cap) (ho' 0) yO)
   |cons x l=>exact amA (x::l) _ c _ (by simp[au]) zO hg' hk (XT (x::l) zS zO) (ho' 1) trivial
 .have e1:rU l c=[]:=by simp[rU,h0]
  have e2:A8 l c=jg l:=by simp[A8,h0]
  rw[e1,e2];exact amy l c _ h0 hk trivial
theorem aiw(l:List CE)(a b c:Int)(hv:l.length<=1000000)(hR:kQ l):Cq 358 [bZ l,oO a b c] (.bq [bZ (Ez l a b c),int (Ox l a b c)]):=by
 have hc:=HZ l hv hR;by_cases h0:jg l=0
 .rw [h0]at hc;have hf:=wX l a b c zO;cases hx:fX (vM a b c) l with
  |none =>
   rw[hx]at hf;have e1:Ez l a b c=[]:=by simp[Ez,h0,hx]
   have e2:Ox l a b c=130:=by simp[Ox,h0,hx]
   rw[e1,e2];exact amC l a b c hc hf trivial
  |some j =>
   rw[hx]at hf;obtain⟨x,hj,_⟩:=QU hx;have bg:=(yC.1 hj).1;have fF:l≠[]:=fun h=>by rw[h]at bg;simp at bg
   have e1:Ez l a b c=l.set j { x with gn:=true }:=by simp[Ez,h0,hx,BJ hj]
   have e2:Ox l a b c=0:=by simp[Ox,h0,hx]
   rw[e1,e2];have hs:∀n,n=j->List.set (au l) n [int x.dv,int x.sq,int x.gU,int x.ad,int x.j6,int x.aa,int x.tm,str x.vl,bool true]=au (l.set j { x with gn:=true }):=fun n hn=>by
    subst hn;exact CW l n { x with gn:=true }
   have hl:(l.set j { x with gn:=true }).length=l.length:=length_set;refine amD l x a b c j hv (fun h=>fF (by simpa[au]using h)) bg hj hc hf (XT l fF hv) (bZ (l.set j { x with gn:=true })) ⟨bJ l,x,by rw[y26,y09];exact hj,?_⟩;rw[hs (0+(j:Int).toNat) (by rw[y26,y09])];exact⟨by rw[drop_zero,<- hl,<- ay,take_length],by rw[ay,hl],bK _,y29⟩
 .have e1:Ez l a b c=[]:=by simp[Ez,h0]
  have e2:Ox l a b c=jg l:=by simp[Ox,h0]
  rw[e1,e2];exact amB l a b c _ h0 hc trivial
end Go.Sq
