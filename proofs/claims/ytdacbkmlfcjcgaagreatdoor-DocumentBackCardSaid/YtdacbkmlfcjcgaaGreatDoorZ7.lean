import Derived.Test.YtdacbkmlfcjcgaaGreatDoorZ6
set_option maxRecDepth 100000
set_option linter.unusedSimpArgs false
set_option linter.unusedVariables false
open List
noncomputable section
namespace Go.Tx
open Go Go.Am Go.Proofs Go.eY
open Go.Sq (CE nP bZ oO vM fX U2 kQ jg)
abbrev a1F(i:Nat):AV:=.fn (.func 383) [] [.ptr i 0]
theorem Yf(x y:MK):(x.dv==y.dv&&x.sq==y.sq)=decide (x.eG=y.eG):=by
 rw[Bool.eq_iff_iff];simp[MK.eG]
theorem amU(x m:MK)(r:Bool)(h:(x.dv==m.dv&&x.sq==m.sq)=(r)):ak P G 383 [EC x,.ptr 0 0] [ah.box (aQ m)] (aS.ret (Am.bool r)) [ah.box (aQ m)]:=by
 exact aA (aF.aI h) []
theorem amV(x m:MK):ak P G 383 [EC x,.ptr 0 0] [.box (aQ m)] (.ret (bool (decide (x.eG=m.eG)))) [.box (aQ m)]:=amU x m _ (Yf x m)
def aiS(v:List MK)(m:MK)(k:Nat):St:={ aL:=aC 19 [(0,oI v),(1,a1F 0),(4,int 0),(6,oI v),(7,int v.length),(8,int k)],H:=[.box (aQ m)] }
theorem afG(v:List MK)(m:MK)(k:Nat)(hv:v.length<=1000000000)(ex:bF)(r:Int)(h:((((k:Int)<(v.length:Int))->(∃x2:MK,(v[k]?=some x2)/\(((x2.eG=m.eG)->(bF.ret=ex)/\(((k:Int):Int)=(r)))/\((¬x2.eG=m.eG)->Rq 1 292 0 (sM 19 [(0,.sl 11 false (au v)),(1,.fn (Fn.func 383) [] [.ptr 0 0]),(4,int 0),(6,.sl 11 false (au v)),(7,int ↑v.length),(8,int ↑(k+1))] [.box [int m.dv,int m.sq,int m.tm,int m.fd,int m.fs,int m.fa,int m.td,int m.ts,int m.ta,int m.st,Am.bool m.on]]) ex (sM 19 [(4,int r)] [.box (aQ m)])))))/\((¬(k:Int)<(v.length:Int))->(bF.exit 0=ex)/\(0=r)))):Rq 1 292 0 (aiS v m k) ex (sM 19 [(4,int r)] [.box (aQ m)]):=by
 by_cases c1:((k:Int)<(v.length:Int))
 .have h:=h.1 c1;obtain⟨x2,o3,h⟩:=h;have fT:=(@amV (x2) (m));let l1:List fP:=[kt (qT c1),ke (aQ x2) (au v) k (bG o3),kc [0] fT];by_cases c4:(x2.eG=m.eG)
  .have h:=h.1 c4;obtain⟨eX,e1⟩:=h;exact bN.to ((show Rq 1 292 0 (aiS v m k) bF.ret (sM 19 [(4,int ↑k)] [.box [int m.dv,int m.sq,int m.tm,int m.fd,int m.fs,int m.fa,int m.td,int m.ts,int m.ta,int m.st,Am.bool m.on]])from aG (l1++[kt (qT c4)]) (aB 19 [4]) 1)) eX (eB.aC ⟨rfl,(aF.int_eq e1),yO⟩)
  .have h:=h.2 c4;exact aJ (l1++[kf (qF c4),kW 18 (k+1) ↑(k+1)]) (aB 19 [0,1,4,6,7,8]) 1 h
 .have h:=h.2 c1;obtain⟨eX,e1⟩:=h;exact bN.to ((show Rq 1 292 0 (aiS v m k) (bF.exit 0) (sM 19 [(4,int 0)] [.box [int m.dv,int m.sq,int m.tm,int m.fd,int m.fs,int m.fa,int m.td,int m.ts,int m.ta,int m.st,Am.bool m.on]])from aG [kf (qF c1)] (aB 19 [4]) 1)) eX (eB.aC ⟨rfl,(aF.int_eq e1),yO⟩)
theorem acd(v:List MK)(m:MK)(hv:v.length<=1000000000):∀n k,v.length-k=n->k<=v.length->∃j:Nat,Rq 1 292 0 (aiS v m k) (if(v.drop k).any (fun a=>decide (a.eG=m.eG))=true then .ret else .exit 0) { aL:=aC 19 [(4,int j)],H:=[.box (aQ m)] }:=by
 intro n
 induction n with
 |zero =>
  intro k hn hk;rw[drop_eq_nil_of_le zO];exact⟨0,afG v m k hv _ _ ⟨fun h=>absurd h zO,fun _=>⟨rfl,rfl⟩⟩⟩
 |succ n ih =>
  intro k hn hk;have bg:k<v.length:=zO
  obtain⟨j,nx⟩:=ih (k+1) zO zO;rw[drop_eq_getElem_cons bg,any_cons];cases hd:decide (v[k].eG=m.eG)with
  |true =>
   rw[Bool.true_or];exact⟨k,afG v m k hv _ _ ⟨fun h=>⟨v[k],yA bg,⟨fun _=>⟨rfl,rfl⟩,fun hq=>by simp[of_decide_eq_true hd]at hq⟩⟩,fun h=>absurd bg zO⟩⟩
  |false =>
   rw[Bool.false_or];exact⟨j,afG v m k hv _ _ ⟨fun h=>⟨v[k],yA bg,⟨fun hq=>absurd hq (of_decide_eq_false hd),fun _=>nx⟩⟩,fun h=>absurd bg zO⟩⟩
theorem amW(v:List MK)(m:MK)(j:Nat)(hL:Rq 1 292 0 (aiS v m 0) .ret { aL:=aC 19 [(4,int j)],H:=[.box (aQ m)] })(h:True):ak P G 292 [oI v,a1F 0] [ah.box (aQ m)] (aS.ret (int ↑j)) [ah.box (aQ m)]:=by
 exact aj [kN 7 (ay v),kl (rG [(2,2),(5,1),(9,10)]) 1 hL]
theorem amX(v:List MK)(m:MK)(j:Nat)(hL:Rq 1 292 0 (aiS v m 0) (.exit 0) { aL:=aC 19 [(4,int j)],H:=[.box (aQ m)] })(h:True):ak P G 292 [oI v,a1F 0] [ah.box (aQ m)] (aS.ret (int (-1))) [ah.box (aQ m)]:=by
 exact aj [kN 7 (ay v),kl (rG [(2,2),(5,1),(9,10)]) 1 hL]
theorem ace(v:List MK)(m:MK)(i:Int)(h0:ak P G 292 [oI v,a1F 0] [.box (aQ m)] (.ret (int i)) [.box (aQ m)])(r:Bool)(h:(decide (i>=0))=(r)):ak P G 250 [oI v,a1F 0] [ah.box (aQ m)] (aS.ret (Am.bool r)) [ah.box (aQ m)]:=by
 exact aA (aF.aI h) [kc [0] h0]
theorem ajp(v:List MK)(m:MK)(hv:v.length<=1000000000):ak P G 250 [oI v,a1F 0] [.box (aQ m)] (.ret (bool (v.any fun a=>decide (a.eG=m.eG)))) [.box (aQ m)]:=by
 obtain⟨j,h0⟩:=acd v m hv _ 0 rfl zO;rw[drop_zero]at h0;cases h:v.any fun a=>decide (a.eG=m.eG)with
 |true=>rw[h,yL rfl]at h0;exact ace v m _ (amW v m j h0 yO) _ zS
 |false=>rw[h,yK zD]at h0;exact ace v m _ (amX v m j h0 yO) _ zS
abbrev yT(f:Nat):AV:=.lit (.func (.func f) #[] #[])
def Bc(i j:Nat):Int:=IntKind.wrap IntKind.i64 (Int.fdiv (↑(i+j):Int) (2^min (Int.toNat 1) (IntKind.bits IntKind.u64)))
theorem Ms{i j:Nat}(h:i+j<=1000000000000):Bc i j=(((i+j)/2:Nat):Int):=by
 have e:(2^min (Int.toNat 1) (IntKind.bits IntKind.u64):Int)=2:=zD
 unfold Bc;rw[e,IntKind.wrap_i64,Int.fdiv_eq_ediv_of_nonneg _ zO];omega
def Yg(v:List MK)(m:MK)(i j:Nat):St:={ aL:=aC 49 [(0,oI v),(2,yT 249),(4,.ptr 0 0),(8,int v.length),(9,int i),(10,int j)],H:=[.box (aQ m)] }
def bsX(v:List MK)(m:MK)(p:Nat):St:={ aL:=aC 49 [(0,oI v),(2,yT 249),(4,.ptr 0 0),(8,int v.length),(9,int p)],H:=[.box (aQ m)] }
theorem afH(v:List MK)(b:MK)(i j m:Nat)(hj:j<=v.length)(hv:v.length<=1000000000)(hm:Bc i j=(m:Int))(hm':IntKind.wrap IntKind.i64 (Int.fdiv (↑(i+j):Int) (2^min (Int.toNat 1) (IntKind.bits IntKind.u64)))=(m:Int))(bg:m<j)(ex:bF)(s:St)(h:((((i:Int)<(j:Int))->(∃x2:MK,((0:Int)<=Bc i j/\v[Int.toNat (Bc i j)]?=some x2)/\(((yc x2 b<0)->Rq 0 384 0 (sM 49 [(0,.sl 11 false (au v)),(2,iL 249),(4,.ptr 0 0),(8,int ↑v.length),(9,int (Bc i j+1)),(10,int ↑j)] [.box [int b.dv,int b.sq,int b.tm,int b.fd,int b.fs,int b.fa,int b.td,int b.ts,int b.ta,int b.st,Am.bool b.on]]) ex s)/\((¬yc x2 b<0)->Rq 0 384 0 (sM 49 [(0,.sl 11 false (au v)),(2,iL 249),(4,.ptr 0 0),(8,int ↑v.length),(9,int ↑i),(10,int (Bc i j))] [.box [int b.dv,int b.sq,int b.tm,int b.fd,int b.fs,int b.fa,int b.td,int b.ts,int b.ta,int b.st,Am.bool b.on]]) ex s))))/\((¬(i:Int)<(j:Int))->(bF.exit 0=ex)/\(sM 49 [(0,.sl 11 false (au v)),(2,iL 249),(4,.ptr 0 0),(8,int ↑v.length),(9,int ↑i)] [.box [int b.dv,int b.sq,int b.tm,int b.fd,int b.fs,int b.fa,int b.td,int b.ts,int b.ta,int b.st,Am.bool b.on]]=s)))):Rq 0 384 0 (Yg v b i j) ex s:=by
 by_cases c1:((i:Int)<(j:Int))
 .have h:=h.1 c1;obtain⟨x2,o3,h⟩:=h;have Av:=(@wW (x2) (b));let l1:List fP:=[kt (qT c1),kW 20 ((i:Int)+(j:Int)) (↑(i+j):Int),kv 21 (show Am.aF (AV.lit (Value.int IntKind.u64 (IntKind.wrap IntKind.u64 (↑(i+j):Int)))) (AV.lit (Value.int IntKind.u64 (↑(i+j):Int)))from(aF.zf zO zO rfl)),ko (bC.elem (aQ x2)),kp (show(0:Int)<=(1:Int)from zO),kp (show(0:Int)<=IntKind.wrap IntKind.i64 (Int.fdiv (↑(i+j):Int) (2^min (Int.toNat 1) (IntKind.bits IntKind.u64)))/\(au v)[Int.toNat (IntKind.wrap IntKind.i64 (Int.fdiv (↑(i+j):Int) (2^min (Int.toNat 1) (IntKind.bits IntKind.u64))))]?=some (aQ x2)from(qU o3)),kc [] Av];by_cases c4:(yc x2 b<0)
  .have h:=h.1 c4;exact aJ (l1++[kt (qT c4),kW 33 (IntKind.wrap IntKind.i64 (Int.fdiv (↑(i+j):Int) (2^min (Int.toNat 1) (IntKind.bits IntKind.u64)))+1) (Bc i j+1)]) (aB 49 [0,2,4,8,9,10]) 1 h
  .have h:=h.2 c4;exact aJ (l1++[kf (qF c4)]) (aB 49 [0,2,4,8,9,10]) 1 h
 .have h:=h.2 c1;obtain⟨eX,eS⟩:=h;exact bN.to ((aG [kf (qF c1)] (aB 49 [0,2,4,8,9]) 1)) eX (eB.of_eq eS)
theorem afI(v:List MK)(b:MK)(i j:Nat)(wQ:¬(i:Int)<(j:Int))(h:True):Rq 0 384 0 (Yg v b i j) (bF.exit 0) (bsX v b i):=by
 exact aG [kj ((i:Int)<j)] (aB 49 [0,2,4,8,9]) 1
theorem OH(v:List MK)(b:MK)(p:Nat)(hp:p<=v.length)(hv:v.length<=1000000000)(hL:Rq 0 384 0 (Yg v b 0 v.length) (.exit 0) (bsX v b p))(r:Bool)(h:((((p:Int)<(v.length:Int))->(∃x2:MK,(v[p]?=some x2)/\(yc x2 b==0)=(r)))/\((¬(p:Int)<(v.length:Int))->(false)=(r)))):Cq 384 [oI v,EC b,yT 249] (.bq [int ↑p,Am.bool r]):=by
 let l1:List fP:=[kN 13 (ay v),kl (rG [(1,1),(3,1),(5,3),(11,38)]) 1 hL];by_cases c1:((p:Int)<(v.length:Int))
 .have h:=h.1 c1;obtain⟨x2,o3,h⟩:=h;have e1:=h;exact ak.out ((show Cq 384 [oI v,EC b,yT 249] (.bq [int ↑p,Am.bool (yc x2 b==0)])from aj (l1++[kt (qT c1),ke (aQ x2) (au v) p (bG o3),kc [] (@wW (x2) (b))]))) (aF.iM ⟨aF.refl _,(aF.aI e1),yO⟩)
 .have h:=h.2 c1;have e1:=h;exact ak.out ((show Cq 384 [oI v,EC b,yT 249] (.bq [int ↑p,Am.bool false])from aj (l1++[kf (qF c1)]))) (aF.iM ⟨aF.refl _,(aF.aI e1),yO⟩)
theorem Rb(x:List MK)(b:MK)(i:Int)(hi:i=(x.length:Int))(hx:x.length<=1000000000)(h:True):ak P G 385 [.aU 0 0 0 x.length,int i,.sl 11 true [aQ b]] [ah.aN 0 11 false (au x)] (aS.ret (oI (x++[b]))) [ah.aH]:=by
 have bS:0=0:=(rfl);exact ak.pY ((show ak P G 385 [.aU 0 0 0 x.length,int i,.sl 11 true [aQ b]] [ah.aN 0 11 false (au x)] (aS.ret (AV.sl 11 false (au (x++[MK.mk b.dv b.sq b.tm b.fd b.fs b.fa b.td b.ts b.ta b.st b.on])))) [ah.aN 1 11 true (au (x++[MK.mk b.dv b.sq b.tm b.fd b.fs b.fa b.td b.ts b.ta b.st b.on]))]from aj [kp bS,Ga i (x.length:Int) (x.length:Int),kY,kp bS,kt (show(i==(x.length:Int))=true from(qT zO)),ko (bC.hp (some 25) (AV.aU 0 1 0 (length (x++[MK.mk b.dv b.sq b.tm b.fd b.fs b.fa b.td b.ts b.ta b.st b.on]))) [ah.aN 1 11 false (au (x++[MK.mk b.dv b.sq b.tm b.fd b.fs b.fa b.td b.ts b.ta b.st b.on]))]),ko (bC.Gu (au (x++[MK.mk b.dv b.sq b.tm b.fd b.fs b.fa b.td b.ts b.ta b.st b.on]))),kp (show Am.aF (AV.aU 0 1 0 (length x+1)) (AV.aU 0 1 0 (length (x++[MK.mk b.dv b.sq b.tm b.fd b.fs b.fa b.td b.ts b.ta b.st b.on])))from(aF.of_eq (by simp[bJ,bK,dW,ay]))),kp (show Am.HSub [ah.aN 1 11 false (au x++[[int b.dv,int b.sq,int b.tm,int b.fd,int b.fs,int b.fa,int b.td,int b.ts,int b.ta,int b.st,Am.bool b.on]])] [ah.aN 1 11 false (au (x++[MK.mk b.dv b.sq b.tm b.fd b.fs b.fa b.td b.ts b.ta b.st b.on]))]from(⟨.inl (by simp only[gy,Aw]),yO⟩)),kp bS,kp (ay x).symm,vV ((length x+1)*88),kq 1,kp (show List.take (length (x++[MK.mk b.dv b.sq b.tm b.fd b.fs b.fa b.td b.ts b.ta b.st b.on])) (List.drop 0 (au (x++[MK.mk b.dv b.sq b.tm b.fd b.fs b.fa b.td b.ts b.ta b.st b.on])))=au (x++[MK.mk b.dv b.sq b.tm b.fd b.fs b.fa b.td b.ts b.ta b.st b.on])from(dW _)),kp (show length (au (x++[MK.mk b.dv b.sq b.tm b.fd b.fs b.fa b.td b.ts b.ta b.st b.on]))=length (x++[MK.mk b.dv b.sq b.tm b.fd b.fs b.fa b.td b.ts b.ta b.st b.on])from(ay _)),kp (show ∀(c:List AV),c∈au (x++[MK.mk b.dv b.sq b.tm b.fd b.fs b.fa b.td b.ts b.ta b.st b.on])->List.all c AV.fJ=true from(bK _))])) (by exact⟨.inr yO,yO⟩)
theorem Yh(x:List MK)(b:MK)(i:Int)(hi:i=(x.length:Int))(hx:x.length<=1000000000)(h:True):Cq 385 [.sl 11 true (au x),int i,.sl 11 true [aQ b]] (oI (x++[b])):=by
 exact aj [kv 12 (show Am.aF (AV.sl 11 true (List.drop (Int.toNat i) (List.take (Int.toNat (↑(length (au x)):Int)) (au x)))) (AV.sl 11 true (List.drop (Int.toNat i) (List.take (Int.toNat (x.length:Int)) (au x))))from(aF.of_eq (by simp only[ay]))),Ga i (↑(length (au x)):Int) (↑(length (au x)):Int) (by rw[ay];omega),kY,kN 19 (ay x),kt (show(i==(x.length:Int))=true from(qT zO)),ko (bC.hp (some 25) (AV.aU 0 0 0 (length (x++[MK.mk b.dv b.sq b.tm b.fd b.fs b.fa b.td b.ts b.ta b.st b.on]))) [ah.aN 0 11 false (au (x++[MK.mk b.dv b.sq b.tm b.fd b.fs b.fa b.td b.ts b.ta b.st b.on]))]),ko (bC.Gu (au (x++[MK.mk b.dv b.sq b.tm b.fd b.fs b.fa b.td b.ts b.ta b.st b.on]))),kp (show Am.aF (AV.aU 0 0 0 (length (au x)+1)) (AV.aU 0 0 0 (length (x++[MK.mk b.dv b.sq b.tm b.fd b.fs b.fa b.td b.ts b.ta b.st b.on])))from(aF.of_eq (by simp[bJ,bK,ay,dW]))),kp (show Am.HSub [ah.aN 0 11 false (au x++[[int b.dv,int b.sq,int b.tm,int b.fd,int b.fs,int b.fa,int b.td,int b.ts,int b.ta,int b.st,Am.bool b.on]])] [ah.aN 0 11 false (au (x++[MK.mk b.dv b.sq b.tm b.fd b.fs b.fa b.td b.ts b.ta b.st b.on]))]from(⟨.inl (by simp only[gy,Aw]),yO⟩)),Qx [int b.dv,int b.sq,int b.tm,int b.fd,int b.fs,int b.fa,int b.td,int b.ts,int b.ta,int b.st,Am.bool b.on],vV ((length (au x)+1)*88) (by simp only[yD,yE,length_nil,length_map,bJ,bK,ay,dW]<;>omega),kq 0,kp (show List.take (length (x++[MK.mk b.dv b.sq b.tm b.fd b.fs b.fa b.td b.ts b.ta b.st b.on])) (List.drop 0 (au (x++[MK.mk b.dv b.sq b.tm b.fd b.fs b.fa b.td b.ts b.ta b.st b.on])))=au (x++[MK.mk b.dv b.sq b.tm b.fd b.fs b.fa b.td b.ts b.ta b.st b.on])from(dW _)),kp (show length (au (x++[MK.mk b.dv b.sq b.tm b.fd b.fs b.fa b.td b.ts b.ta b.st b.on]))=length (x++[MK.mk b.dv b.sq b.tm b.fd b.fs b.fa b.td b.ts b.ta b.st b.on])from(ay _)),kp (show ∀(c:List AV),c∈au (x++[MK.mk b.dv b.sq b.tm b.fd b.fs b.fa b.td b.ts b.ta b.st b.on])->List.all c AV.fJ=true from(bK _))]
theorem KC(x:List MK)(b:MK)(i:Nat)(hi:i<=x.length)(hx:x.length<=1000000000):ak P G 385 [.aU 0 0 0 x.length,int i,.sl 11 true [aQ b]] [.aN 0 11 false (au x)] (.ret (oI (x.take i++[b]++x.drop i))) [.aH]:=by
 rcases Nat.lt_or_ge i x.length with h|h
 .have:=Ra x [] b i h hx;rwa[append_nil]at this
 .have e:i=x.length:=zO
  subst e;rw[take_length,drop_length,append_nil];exact Rb x b _ rfl hx trivial
theorem Yi(v:List MK)(hv:v.length<=1000000000)(fF:¬au v=[])(h:True):ak P G 119 [oI v] [] (aS.ret (AV.aU 0 0 0 v.length)) [ah.aN 0 11 false (au v)]:=by
 exact aj [kp (show au v≠[]from zO),kY,kv 7 (show Am.aF (AV.aU 0 0 0 (0+length (au v))) (AV.aU 0 0 0 v.length)from(aF.of_eq (by simp[ay,bJ,bK,dW]))),kp fF,vV ((0+length (au v))*88) (by simp only[yD,yE,length_nil,length_map,ay,bJ,bK,dW]<;>omega)]
theorem Yj(n:Nat)(h:aF (aK) (AV.sl 11 true [])):Cq 119 [.lit (Value.slice none 0 n)] (.sl 11 true []):=by
 have e1:=h;exact ak.out ((aj [kO])) e1
theorem Yk(a:Addr)(n:Nat)(h:True):Cq 119 [.lit (Value.slice (some a) 0 n)] (.sl 11 true []):=by
 exact aj [kY,ko (bC.LV),kp (Am.C8)]
theorem afJ(sz:Nat):aF (.lit (.slice none 0 0)) (.sl sz true []):=fun V v h=>by
 rw[bW h];exact .pure _ _ (.sl sz true [] none 0 0 0 (fun _ _=>undef) (fun h=>absurd rfl h) (fun h=>absurd rfl h) yM (fun _=>rfl) (fun x hx=>by cases hx) (fun k j hk=>absurd hk (Nat.not_lt_zero _)) (fun k j hk=>absurd hk (Nat.not_lt_zero _)) fun k j hk=>absurd hk (Nat.not_lt_zero _))
theorem Mt:Cq 119 [oI []] (.sl 11 true []):=ak.wY (fun cap=>Yj cap (afJ 11)) fun a cap=>Yk a cap trivial
theorem uJ(v:List MK)(hv:v.length<=1000000000)(fF:v≠[]):ak P G 119 [oI v] [] (.ret (.aU 0 0 0 v.length)) [.aN 0 11 false (au v)]:=Yi v hv (fun h=>fF (by simpa[au]using h)) trivial
def uD(m:MK)(v:List MK):Nat:=(v.takeWhile fun a=>nD a m).length
theorem Mv(m:MK)(v:List MK):uD m v<=v.length:=(takeWhile_sublist _).length_le
theorem zh{a b:MK}:nD a b=true↔a.tm<b.tm\/a.tm=b.tm/\(a.dv<b.dv\/a.dv=b.dv/\a.sq<b.sq):=by
 unfold nD;grind
theorem sV{a b c:MK}(h:nD a b=true)(k:nD b c=true):nD a c=true:=by
 rw[zh]at *;omega
theorem Mw{b:MK}:∀{v:List MK}(_:v.Pairwise fun a c=>nD a c=true){m:Nat}(hm:m<v.length),nD v[m] b=true↔m<uD b v
 |[],_,m,hm=>absurd hm zS
 |a::t,hs,m,hm=>by
  rw[pairwise_cons]at hs;cases hl:nD a b with
  |true =>
   have e:uD b (a::t)=uD b t+1:=by simp[uD,hl]
   rw[e];cases m with
   |zero=>simp[hl]
   |succ m =>
    have:=Mw hs.2 (b:=b) (m:=m) (by simpa using hm);simpa using this
  |false =>
   have e:uD b (a::t)=0:=by simp[uD,hl]
   rw[e];cases m with
   |zero=>simp[hl]
   |succ m =>
    have bg:m<t.length:=by simpa using hm
    have h1:=hs.1 t[m] (getElem_mem _);simp only[getElem_cons_succ,Nat.not_lt_zero,iff_false];intro h2;rw[sV h1 h2]at hl;cases hl
theorem Mx(v:List MK)(b:MK)(hv:v.length<=1000000000)(hs:v.Pairwise fun a c=>nD a c=true):∀n i j,j-i<=n->i<=uD b v->uD b v<=j->j<=v.length->Rq 0 384 0 (Yg v b i j) (.exit 0) (bsX v b (uD b v)):=by
 intro n;have he:∀i j,i<=uD b v->uD b v<=j->¬i<j->Rq 0 384 0 (Yg v b i j) (.exit 0) (bsX v b (uD b v)):=fun i j h1 h2 wQ=>by
  have:=afI v b i j zO trivial;rwa[show i=uD b v by omega]at this |-
 induction n with
 |zero=>intro i j hn h1 h2 h3;exact he i j h1 h2 zO
 |succ n ih =>
  intro i j hn h1 h2 h3;by_cases wQ:i<j
  .have hm:=Ms (i:=i) (j:=j) zO;refine afH v b i j ((i+j)/2) h3 hv hm hm zO _ _ ⟨fun _=>?_,fun h=>absurd zO h⟩;have bg:(i+j)/2<v.length:=zO
   refine⟨v[(i+j)/2],?_,fun hq=>?_,fun hq=>?_⟩
   .grind [Int.toNat_natCast,yA]
   .have:=(Mw hs bg).1 ((LX _ _).1 hq);have nx:=ih ((i+j)/2+1) j zO zO h2 h3;rw[hm];exact nx
   .have:¬(i+j)/2<uD b v:=fun h=>hq ((LX _ _).2 ((Mw hs bg).2 h));have nx:=ih i ((i+j)/2) zO h1 zO zO;rw[hm];exact nx
  .exact he i j h1 h2 wQ
theorem Yl(v:List MK)(b:MK)(hv:v.length<=1000000000)(hs:v.Pairwise fun a c=>nD a c=true):∃r,Cq 384 [oI v,EC b,yT 249] (.bq [int (uD b v),bool r]):=by
 have hp:=Mv b v;have hL:=Mx v b hv hs _ 0 v.length yM zO hp zO;rcases Nat.lt_or_ge (uD b v) v.length with h|h
 .exact ⟨yc v[uD b v] b==0,OH v b _ hp hv hL _ ⟨fun _=>⟨v[uD b v],yA h,rfl⟩,fun h'=>absurd zO h'⟩⟩
 .exact ⟨false,OH v b _ hp hv hL _ ⟨fun h'=>absurd h' zO,fun _=>rfl⟩⟩
theorem ajq(t:TE)(m:MK)(e:Int)(he:e≠0)(hc:Cq 163 [mG t] (int e))(h:True):Cq 374 [mG t,EC m] (.bq [mG zT,int e]):=by
 exact ak.out ((show Cq 374 [mG t,EC m] (.bq [.agg [aK,aK],int e])from aj [kc [] hc,kt (show(e != 0)=true from(yJ Bool.not (qF zO)))])) (aF.iM ⟨(aF.qo ⟨(aF.nil _),(aF.nil _),yO⟩),aF.refl _,yO⟩)
theorem ajr(t:TE)(m:MK)(hc:Cq 163 [mG t] (int 0))(hi:Cq 248 [bZ t.cells,EC m] (bool false))(h:True):Cq 374 [mG t,EC m] (.bq [mG zT,int 160]):=by
 exact ak.out ((show Cq 374 [mG t,EC m] (.bq [.agg [aK,aK],int 160])from aj [kc [] hc,kY,kc [] hi,kO,kO])) (aF.iM ⟨(aF.qo ⟨(aF.nil _),(aF.nil _),yO⟩),aF.refl _,yO⟩)
theorem ajs(t:TE)(m:MK)(hc:Cq 163 [mG t] (int 0))(hi:Cq 248 [bZ t.cells,EC m] (bool true))(hF:ak P G 250 [oI t.bQ,a1F 0] [.box (aQ m)] (.ret (bool true)) [.box (aQ m)])(h:True):Cq 374 [mG t,EC m] (.bq [mG zT,int 160]):=by
 exact ak.out ((show Cq 374 [mG t,EC m] (.bq [.agg [aK,aK],int 160])from aj [kc [] hc,kY,kc [] hi,kY,kc [1] hF,kO])) (aF.iM ⟨(aF.qo ⟨(aF.nil _),(aF.nil _),yO⟩),aF.refl _,yO⟩)
theorem ajt(t:TE)(m:MK)(p:Nat)(f:Bool)(r:List MK)(hc:Cq 163 [mG t] (int 0))(hi:Cq 248 [bZ t.cells,EC m] (bool true))(hF:ak P G 250 [oI t.bQ,a1F 0] [.box (aQ m)] (.ret (bool false)) [.box (aQ m)])(hB:Cq 384 [oI t.bQ,EC m,yT 249] (.bq [int p,bool f]))(hC:ak P G 119 [oI t.bQ] [] (.ret (.aU 0 0 0 t.bQ.length)) [.aN 0 11 false (au t.bQ)])(hI:ak P G 385 [.aU 0 0 0 t.bQ.length,int p,.sl 11 true [aQ m]] [.aN 0 11 false (au t.bQ)] (.ret (oI r)) [.aH])(h:True):Cq 374 [mG t,EC m] (.bq [.agg [bZ t.cells,oI r],int 0]):=by
 have qj:∀(x:List AV),x∈au t.bQ->AV.aM [] x=true:=(bJ _);exact aj [kc [] hc,kY,kc [] hi,kY,kc [1] hF,kY,kc [] hB,kc [] hC,kp qj,kc [3] hI,kp qj]
theorem aju(t:TE)(m:MK)(f:Bool)(r:List MK)(hc:Cq 163 [mG t] (int 0))(hi:Cq 248 [bZ t.cells,EC m] (bool true))(hF:ak P G 250 [oI t.bQ,a1F 0] [.box (aQ m)] (.ret (bool false)) [.box (aQ m)])(hB:Cq 384 [oI t.bQ,EC m,yT 249] (.bq [int 0,bool f]))(hC:Cq 119 [oI t.bQ] (.sl 11 true []))(hI:Cq 385 [.sl 11 true [],int 0,.sl 11 true [aQ m]] (oI r))(h:True):Cq 374 [mG t,EC m] (.bq [.agg [bZ t.cells,oI r],int 0]):=by
 exact aj [kc [] hc,kY,kc [] hi,kY,kc [1] hF,kY,kc [] hB,kc [] hC,kc [] hI]
end Go.Tx
namespace Go.Sq
open Go Go.Am Go.Proofs Go.eY
theorem Ym{l:List CE}{x:CE}(h:x∈BI l):x∈l:=by
 unfold BI at h;split at h
 .rename_i hf;exact((rT (Ak.1 hf).1).1 h).1
 .cases h
theorem kQ.ord{l:List CE}(h:kQ l):kQ (BI l):=fun x hx=>h x (Ym hx)
theorem Ib(l:List CE)(c:CE):(rU l c).length<=l.length+1:=by
 unfold rU;split
 .simp
 .split
  .simp
  .have:=Ow (l++[c]);simpa using this
theorem Yn(l:List CE)(a b c:Int):(Ez l a b c).length<=l.length:=by
 unfold Ez;split
 .simp
 .split
  .unfold mY;simp
  .simp
end Go.Sq
namespace Go.Sq
open Go Go.Am
theorem Yo(l:List CE):sO l=true/\F5 l=0/\BI l=arE l\/sO l=false/\F5 l=130/\BI l=[]:=by
 unfold F5 BI;cases h:sO l
 .right;exact⟨rfl,rfl,rfl⟩
 .left;exact⟨rfl,rfl,rfl⟩
theorem aqI{l:List CE}:jg l=0↔sO l=true/\arE l=l:=by
 unfold jg;rcases Yo l with⟨h1,h2,h3⟩|⟨h1,h2,h3⟩
 .rw [h2,h3];simp[h1]
 .rw [h2];simp[h1]
open Go.Proofs Go.eY
theorem Vj(l:List CE)(c:CE):A8 l c=0/\jg l=0/\sO (l++[c])=true/\rU l c=arE (l++[c])\/A8 l c≠0/\rU l c=[]:=by
 unfold A8 rU;by_cases h0:jg l=0
 .by_cases hg:c.gn=true
  .right;simp[h0,hg]
  .rcases Yo (l++[c])with⟨f1,f2,f3⟩|⟨f1,f2,f3⟩
   .left;simp[h0,hg,f1,f2,f3]
   .right;simp[h0,hg,f2,f3]
 .right;simp[h0]
end Go.Sq
namespace Go.Tx
open Go Go.Am Go.Proofs Go.eY
open Go.Sq (CE nP bZ oO vM fX U2 kQ Cu jg A8 rU mY)
theorem uM{l:List CE}{v:List MK}:∀{n k:Nat},k+n=v.length->(y9 l v n k=true↔∀j,k<=j->j<v.length->jh l v j=true)
 |0,k,h=>by
  simp only[y9,true_iff];intro j h1 h2;omega
 |n+1,k,h=>by
  simp only[y9,Bool.and_eq_true,uM (l:=l) (v:=v) (n:=n) (k:=k+1) zO];constructor
  .grind
  .grind
structure OkV(l:List CE)(v:List MK):Prop where
 isM:∀m∈v,F8 l m=true
 sorted:v.Pairwise fun a b=>nD a b=true
 qV:v.Pairwise fun a b=>a.eG≠b.eG
theorem TK{l:List CE}{v:List MK}:Cw l v=true↔OkV l v:=by
 unfold Cw;rw[uM zO];constructor
 .intro h;have at_:∀j (hj:j<v.length),F8 l v[j]=true/\(0<j->nD (v[j-1]'zO) v[j]=true)/\∀i (hi:i<j),(v[i]'zO).eG≠v[j].eG:=fun j hj=>by
   have:=h j zO hj;unfold jh at this;rw[yA hj]at this;simp only[Bool.and_eq_true,Bool.or_eq_true,beq_iff_eq,Bool.not_eq_true']at this;obtain⟨h1,h2,h3⟩:=this;refine⟨h1,fun h0=>?_,fun i hi e=>?_⟩
   .grind
   .have:=any_eq_false.1 h3 (v[i]'zO) (by
     have:(v.take j)[i]'(by rw[length_take];omega)=v[i]'zO:=getElem_take;rw[<- this];exact getElem_mem _)
    simp[e]at this
  refine⟨fun m hm=>?_,pairwise_iff_getElem.2 fun i j hi hj wQ=>?_,pairwise_iff_getElem.2 fun i j hi hj wQ=>(at_ j hj).2.2 i wQ⟩
  .obtain ⟨j,hj,rfl⟩:=getElem_of_mem hm;exact(at_ j hj).1
  .have key:∀d i (hi:i+d+1<v.length),nD (v[i]'zO) (v[i+d+1])=true:=by
    intro d
    induction d with
    |zero =>
     intro i hi;have:=(at_ (i+1) zO).2.1 zO;simpa using this
    |succ d ih =>
     intro i hi;have h1:=ih i zO;have h2:=(at_ (i+(d+1)+1) zO).2.1 zO;exact sV h1 (by simpa[Nat.add_assoc]using h2)
   have:=key (j-i-1) i zO;simpa[show i+(j-i-1)+1=j by omega]using this
 .intro h j _ hj;unfold jh;rw[yA hj];simp only[Bool.and_eq_true,Bool.or_eq_true,beq_iff_eq,Bool.not_eq_true'];refine⟨h.isM _ (getElem_mem hj),?_,?_⟩
  .rcases Nat.eq_zero_or_pos j with h0|h0
   .exact .inl h0
   .right;rw[yA (show j-1<v.length by omega)];exact pairwise_iff_getElem.1 h.sorted (j-1) j zO hj zO
  .rw [any_eq_false];intro m hm;obtain⟨i,hi,rfl⟩:=getElem_of_mem hm;rw[length_take]at hi;rw[getElem_take];have:=pairwise_iff_getElem.1 h.qV i j zO hj zO;simpa using this
structure Val(t:TE):Prop where
 cells:jg t.cells=0
 one:∀c∈t.cells,c.vl.size=1
 bQ:OkV t.cells t.bQ
theorem Yp{t:TE}:vC t=0↔Val t:=by
 unfold vC;by_cases h0:jg t.cells=0
 .rw [yK (by simpa using h0)];cases ha:t.cells.all Ba with
  |false =>
   rw[yK zD];refine⟨nofun,fun h=>?_⟩;have:t.cells.all Ba=true:=all_eq_true.2 fun c hc=>by unfold Ba;simpa using h.one c hc
   rw[ha]at this;cases this
  |true =>
   rw[yL rfl];have h1:∀c∈t.cells,c.vl.size=1:=fun c hc=>by
    have:=all_eq_true.1 ha c hc;unfold Ba at this;simpa using this
   cases hb:Cw t.cells t.bQ with
   |true=>rw[yL rfl];exact⟨fun _=>⟨h0,h1,TK.1 hb⟩,fun _=>rfl⟩
   |false =>
    refine⟨fun h=>by simp at h,fun h=>?_⟩;rw[TK.2 h.bQ]at hb;cases hb
 .rw [yL h0];exact⟨fun h=>absurd h h0,fun h=>absurd h.cells h0⟩
theorem GA{l:List CE}{c:CE}(h:kQ l)(hc:Cu c):kQ (rU l c):=by
 unfold rU;split
 .exact fun x hx=>by cases hx
 .split
  .exact fun x hx=>by cases hx
  .exact (h.HV hc).ord
theorem afK{dv sq tm:Int}{k:Nat}{i:Sq.ID}{s:yP}(h1:fO dv)(h2:fO sq)(hk:k<=64)(h3:fO i.1)(h4:fO i.2.1)(h5:fO i.2.2):Cu (U9 dv sq tm k i s) :=
 ⟨⟨h1,h2,by show Sq.fO (k:Int);unfold Sq.fO;omega⟩,h3,h4,h5⟩
theorem acf(t:TE)(dv sq tm:Int)(s:yP)(h1:fO dv)(h2:fO sq)(hs:s.size<=64):∀n k (a b c:Int) (l:List CE),s.size-k=n->k<=s.size->l.length+n<=990000->kQ l->fO a->fO b->fO c ->
 ((TI dv sq tm s n k (a,b,c) l).2=0->Rq 0 369 0 (Ml t dv sq tm a b c s l k) (.exit 0) (tyO t (TI dv sq tm s n k (a,b,c) l).1)) /\
 ((TI dv sq tm s n k (a,b,c) l).2≠0->Rq 0 369 0 (Ml t dv sq tm a b c s l k) .ret (tyX (TI dv sq tm s n k (a,b,c) l).2)):=by
 intro n
 induction n with
 |zero=>intro k a b c l hn hk hl hO ha hb hc;exact⟨fun _=>amP t dv sq tm a b c s l k zO yO,fun h=>absurd rfl h⟩
 |succ n ih =>
  intro k a b c l hn hk hl hO ha hb hc;have hC:Cu (U9 dv sq tm k (a,b,c) s):=afK h1 h2 zO ha hb hc;have hi:=JZ (Sq.KC l (U9 dv sq tm k (a,b,c) s) zO hO hC);have bL:=Sq.Ib l (U9 dv sq tm k (a,b,c) s);rw[TI];by_cases he:A8 l (U9 dv sq tm k (a,b,c) s)=0
  .rw [yK (by simpa using he)];rw[he]at hi;obtain⟨n1,n2⟩:=ih (k+1) dv sq k (rU l (U9 dv sq tm k (a,b,c) s)) zO zO zO (GA hO hC) h1 h2 (by unfold fO;omega);exact⟨fun h=>aji t dv sq tm a b c s l _ k zO hs hi _ _ (n1 h),fun h=>aji t dv sq tm a b c s l _ k zO hs hi _ _ (n2 h)⟩
  .rw [yL he];have hz:rU l (U9 dv sq tm k (a,b,c) s)=[]:=by
    rcases Sq.Vj l (U9 dv sq tm k (a,b,c) s)with h|h
    .exact absurd h.1 he
    .exact h.2
   rw[hz]at hi;exact⟨fun h=>absurd h he,fun _=>amQ t dv sq tm a b c s l k _ he zO hs hi yO⟩
theorem afL(t:TE)(dv sq tm a b c:Int)(s:yP)(hl:X4 t)(hO:OkT t)(h1:fO dv)(h2:fO sq)(ha:fO a)(hb:fO b)(hc:fO c) :
 Cq 369 [mG t,Q9 dv sq,int tm,oO a b c,str s] (.bq [mG (Ve t dv sq tm (a,b,c) s).1,int (Ve t dv sq tm (a,b,c) s).2]):=by
 have hk:=fG t hl hO;have hlc:=hl.cells;unfold Ve;by_cases h0:vC t=0
 .rw [yK (by simpa using h0)];rw[h0]at hk;by_cases hs:s.size<1\/s.size>64
  .rw [yL hs];exact afD t dv sq tm a b c s hs hk ⟨fun _=>trivial,fun _=>trivial⟩
  .rw [yK hs];obtain⟨n1,n2⟩:=acf t dv sq tm s h1 h2 zO s.size 0 a b c t.cells zO zO zO hO.cells ha hb hc;by_cases he:(TI dv sq tm s s.size 0 (a,b,c) t.cells).2=0
   .rw [yL he];exact afF t dv sq tm a b c s _ zO zO hk (n1 he) trivial
   .rw [yK he];exact afE t dv sq tm a b c s _ zO zO hk (n2 he) trivial
 .rw [yL h0];exact afC t dv sq tm a b c s _ h0 hk trivial
theorem Ic(l:List CE)(j:Nat):(mY l j).length=l.length:=by unfold Sq.mY;simp
theorem Ie{a b c:Int}:∀{n k:Nat}{l r:List CE},vY a b c n k l=some r->r.length=l.length
 |0,_,_,_,h=>by simp[vY]at h;rw[h]
 |n+1,k,l,r,h=>by
  rw[vY]at h;split at h
  .rw [Ie h,Ic]
  .cases h
theorem acg(t:TE)(a b c nn:Int)(hn:nn<=64)(m:Nat)(hm:m<=900000):∀d k (l:List CE),nn.toNat-k=d->k<=nn.toNat->l.length=m ->
 (∀r,vY a b c d k l=some r->Rq 0 372 0 (cuS t a b c nn m l k) (.exit 0) (cuO t a b c m r))/\(vY a b c d k l=none->Rq 0 372 0 (cuS t a b c nn m l k) .ret cuX):=by
 intro d
 induction d with
 |zero=>intro k l hd hk hl;exact⟨fun r h=>by cases h;exact amR t a b c nn m l k zO yO,fun h=>by cases h⟩
 |succ d ih =>
  intro k l hd hk hl;have hf:=wX l a b (wr c k) zO;rw[vY];cases hx:fX (vM a b (wr c k)) l with
  |none =>
   rw[hx]at hf;exact⟨fun r h=>(by cases h),fun _=>amS t a b c nn m l k zO hn hl _ hf yO⟩
  |some j =>
   rw[hx]at hf;obtain⟨x,hj,_⟩:=Sq.QU hx;have bg:=(yC.1 hj).1;obtain⟨n1,n2⟩:=ih (k+1) (mY l j) zO zO (by rw[Ic];exact hl);rw[Sq.BJ hj]at n1 n2;show(∀r,vY a b c d (k+1) (mY l j)=some r->_)/\(vY a b c d (k+1) (mY l j)=none->_);rw[Sq.BJ hj];exact⟨fun r h=>ajj t a b c nn m l k j x zO hn hl hj zO zO hf _ _ (n1 r h),fun h=>ajj t a b c nn m l k j x zO hn hl hj zO zO hf _ _ (n2 h)⟩
theorem ajv(t:TE)(a b c n:Int)(hl:X4 t)(hO:OkT t):Cq 372 [mG t,oO a b c,int n] (.bq [mG (Vg t (a,b,c) n).1,int (Vg t (a,b,c) n).2]):=by
 have hk:=fG t hl hO;have hlc:=hl.cells;unfold Vg;by_cases h0:vC t=0
 .rw [yK (by simpa using h0)];rw[h0]at hk;by_cases hs:n<1\/n>64
  .rw [yL hs];exact ajl t a b c n hs hk ⟨fun _=>trivial,fun _=>trivial⟩
  .rw [yK hs];by_cases fF:t.cells=[]
   .have hf:=wX [] a b (wr c 0) zS;have e:vY a b c n.toNat 0 t.cells=none:=by
     rw[fF,show n.toNat=(n.toNat-1)+1 by omega,vY];rfl
    show ak P G _ _ _ (.ret (.bq [mG (match vY a b c n.toNat 0 t.cells with|some l=>((⟨l,t.bQ⟩,0):TE×Int)|none=>(zT,160)).1,int (match vY a b c n.toNat 0 t.cells with|some l=>((⟨l,t.bQ⟩,0):TE×Int)|none=>(zT,160)).2])) [];rw[e];exact ajm t a b c n zO zO hk (by rw[fF];exact JZ (Sq.uJ [] zS)) (amT t a b c n zO zO _ hf yO) trivial
   .obtain ⟨n1,n2⟩:=acg t a b c n zO t.cells.length zO n.toNat 0 t.cells zO zO rfl;have lG:=JZ (Sq.XT t.cells fF zO);show ak P G _ _ _ (.ret (.bq [mG (match vY a b c n.toNat 0 t.cells with|some l=>((⟨l,t.bQ⟩,0):TE×Int)|none=>(zT,160)).1,int (match vY a b c n.toNat 0 t.cells with|some l=>((⟨l,t.bQ⟩,0):TE×Int)|none=>(zT,160)).2])) [];cases hr:vY a b c n.toNat 0 t.cells with
    |none=>exact ajn t a b c n zO zO hk lG (n2 hr) ⟨Sq.bJ _,yO⟩
    |some r=>exact ajo t a b c n r zO zO (Ie hr) hk lG (n1 r hr) trivial
 .rw [yL h0];exact ajk t a b c n _ h0 hk trivial
def Vk(t:TE)(m:MK):TE×Int :=
 if vC t≠0 then(zT,vC t)else if F8 t.cells m=false then(zT,160)else if(t.bQ.any fun a=>decide (a.eG=m.eG))=true then(zT,160)else
  (⟨t.cells,t.bQ.take (uD m t.bQ)++[m]++t.bQ.drop (uD m t.bQ)⟩,0)
theorem ajw(t:TE)(m:MK)(hl:X4 t)(hO:OkT t):Cq 374 [mG t,EC m] (.bq [mG (Vk t m).1,int (Vk t m).2]):=by
 have hk:=fG t hl hO;have hlc:=hl.cells;have hlm:=hl.bQ;have hi:=LY t.cells m zO;have hF:=ajp t.bQ m zO;unfold Vk;by_cases h0:vC t=0
 .rw [yK (by simpa using h0)];rw[h0]at hk;cases hm:F8 t.cells m with
  |false=>rw[hm]at hi;rw[yL rfl];exact ajr t m hk hi trivial
  |true =>
   rw[hm]at hi;rw[yK zD];cases hd:t.bQ.any fun a=>decide (a.eG=m.eG)with
   |true=>rw[hd]at hF;rw[yL rfl];exact ajs t m hk hi hF trivial
   |false =>
    rw[hd]at hF;rw[yK zD];have hV:=(Yp.1 h0).bQ;obtain⟨f,hB⟩:=Yl t.bQ m zO hV.sorted;by_cases fF:t.bQ=[]
    .have hp:uD m t.bQ=0:=by rw[fF];rfl
     rw[hp]at hB;rw[hp,fF];have hI:=Yh [] m 0 rfl zS trivial;exact aju t m f _ hk hi hF hB (by rw[fF];exact Mt) hI trivial
    .exact ajt t m _ f _ hk hi hF hB (uJ t.bQ zO fF) (KC t.bQ m _ (Mv _ _) zO) trivial
 .rw [yL h0];exact ajq t m _ h0 hk trivial
end Go.Tx
namespace Go.Dc
open Go Go.Am Go.Proofs Go.eY Go.bH
def fzS(a:Int)(s:yP)(i j:Int):St:={ aL:=aC 49 [(0,aK),(2,Ph),(4,.ptr 0 0),(8,int 0),(9,int i),(10,int j)],H:=[zP a s] }
def fzX(a:Int)(s:yP)(i:Int):St:={ aL:=aC 49 [(0,aK),(2,Ph),(4,.ptr 0 0),(8,int 0),(9,int i)],H:=[zP a s] }
theorem anN(a:Int)(s:yP)(i j:Int)(wQ:¬i<j)(h:True):Rq 0 43 0 (fzS a s i j) (bF.exit 0) (fzX a s i):=by
 exact aG [kj (i<j)] (aB 49 [0,2,4,8,9]) 1
theorem anO(a:Int)(s:yP)(hL:Rq 0 43 0 (fzS a s 0 0) (.exit 0) (fzX a s 0))(h:True):Cq 43 [aK,pt a s,Ph] (.bq [int 0,Am.bool false]):=by
 exact aj [kl (rG [(1,1),(3,1),(5,3),(11,38)]) 1 hL,kY]
theorem amZ(a:Int)(s:yP):Cq 43 [aK,pt a s,Ph] (.bq [int 0,Am.bool false]):=anO a s (anN a s 0 0 zO yO) trivial
theorem eWf{n:Int}(h : -9223372036854775808<=n/\n<9223372036854775808):(Lit.int .i64 n).wf=true:=by
 simp[Lit.wf,IntKind.min,IntKind.max,IntKind.signed,IntKind.bits];omega
theorem agb:Maps.Keyed P 3:=Maps.int_keyed Tryz.underlying3
theorem akn{a:Int}(h : -9223372036854775808<=a/\a<9223372036854775808):∃l,keyOf P 3 (.int .i64 a)=some l:=⟨_,Maps.keyOf_int_mk Tryz.underlying3 (eWf h)⟩
theorem uV{k:Int}{x:AV}(hm:((.int .i64 k:Value),x)∈oK)(hk : -9223372036854775808<=k/\k<9223372036854775808):bT P 3 oK (.int .i64 k) zE x true :=
 ⟨agb,akn hk,fun e he=>by
  simp only[oK,yH,not_mem_nil,or_false]at he;rcases he with rfl|rfl|rfl|rfl|rfl|rfl|rfl|rfl<;>exact akn zO,.inl ⟨rfl,hm⟩⟩
theorem eg1:bT P 3 oK (.int .i64 1) zE (.agg [gP 354]) true:=uV (by simp[oK]) zO
theorem eg2:bT P 3 oK (.int .i64 2) zE (.agg [gP 357]) true:=uV (by simp[oK]) zO
theorem eg3:bT P 3 oK (.int .i64 3) zE (.agg [gP 359]) true:=uV (by simp[oK]) zO
theorem eg4:bT P 3 oK (.int .i64 4) zE (.agg [gP 363]) true:=uV (by simp[oK]) zO
theorem eg5:bT P 3 oK (.int .i64 5) zE (.agg [gP 365]) true:=uV (by simp[oK]) zO
theorem eg6:bT P 3 oK (.int .i64 6) zE (.agg [gP 368]) true:=uV (by simp[oK]) zO
theorem eg7:bT P 3 oK (.int .i64 7) zE (.agg [gP 371]) true:=uV (by simp[oK]) zO
theorem eg8:bT P 3 oK (.int .i64 8) zE (.agg [gP 373]) true:=uV (by simp[oK]) zO
end Go.Dc
namespace Go.bH
open Go Go.Am
theorem uM{v:List D}:∀n k,k+n=v.length->(y9 v n k=true↔(∀j,k<=j->∀x,v[j]?=some x->gQ x=true/\(j=0\/∃y,v[j-1]?=some y/\y.1<x.1)))
 |0,k,h=>by
  simp only[y9,true_iff];intro j hj x hx;rw[getElem?_eq_none zO]at hx;cases hx
 |n+1,k,h=>by
  have ih:=uM (v:=v) n (k+1) zO;have bg:k<v.length:=zO
  simp only[y9,Bool.and_eq_true];rw[ih];have hx:=yA bg;have hat:jh v k=true↔(gQ v[k]=true/\(k=0\/∃y,v[k-1]?=some y/\y.1<v[k].1)):=by
   simp only[jh,hx,Bool.and_eq_true,Bool.or_eq_true,beq_iff_eq];refine and_congr_right fun _=>or_congr_right ?_;cases hy:v[k-1]? with
   |none=>simp
   |some y=>simp
  rw[hat];constructor
  .grind
  .intro h';exact⟨h' k yM _ hx,fun j hj=>h' j zO⟩
theorem KE{tk:Int->Int->Int}(a b:List D):(dD tk a b).length<=a.length+b.length :=
 Nat.le_trans (length_filterMap_le _ _) (AU _ a b)
end Go.bH
namespace Go.Dc
open Go Go.Am Go.Proofs Go.eY Go.bH
theorem za{l:List FD}{i:Nat}(h:i<l.length)(e:Int)(a:FD):(if e=0 then l.set i a else l)=l.set i (if e=0 then a else l[i]):=by
 by_cases q:e=0
 .rw [yL q,yL q]
 .simp_all
abbrev EfC(F:Nat)(o:bV.OP)(ef:FD->FD)(f:FD):Prop:=∀(l:List FD)(g i:Nat)(h:i<l.length),l[i]=f->∃e,ak P G F [.jC 0 g i 0,bV.op o] [.aN g 7 false (dA l)] (.ret (int e)) [.aN g 7 false (dA (l.set i (ef l[i])))]
def KD(o:bV.OP):Sq.CE:=⟨o.dv,o.sq,0,o.f1,o.f2,o.f3,o.tm,o.vl,false⟩
def ef1(o:bV.OP)(f:FD):FD:=if Sq.A8 f.ce (KD o)=0 then{ f with ce:=Sq.rU f.ce (KD o) }else f
def ef2(o:bV.OP)(f:FD):FD:=if Sq.Ox f.ce o.f1 o.f2 o.f3=0 then{ f with ce:=Sq.Ez f.ce o.f1 o.f2 o.f3 }else f
theorem aec{o:bV.OP}(h:bV.Fw o):Sq.Cu (KD o):=⟨⟨h.dv,h.sq,by show Sq.fO 0;unfold Sq.fO;omega⟩,h.f1,h.f2,h.f3⟩
theorem aiU{o:bV.OP}{f:FD}(ho:bV.Fw o)(hl:f.ce.length<=999999)(hr:Sq.kQ f.ce):EfC 354 o (ef1 o) f:=fun l g i h e=>by
 subst e;have k:=aiV l i g l[i] h (yA h) o _ _ (Sq.up (Sq.KC l[i].ce (KD o) hl hr (aec ho)));rw[za h]at k;exact⟨_,k⟩
theorem aiW{o:bV.OP}{f:FD}(hl:f.ce.length<=1000000)(hr:Sq.kQ f.ce):EfC 357 o (ef2 o) f:=fun l g i h e=>by
 subst e;have k:=aiX l i g l[i] h (yA h) o _ _ (Sq.up (Sq.aiw l[i].ce o.f1 o.f2 o.f3 hl hr));rw[za h]at k;exact⟨_,k⟩
def Q5(o:bV.OP):List D:=if fM o.cx [(o.dv,o.sq-1)]=0 then uK o.cx [(o.dv,o.sq-1)]else o.cx
theorem Au(o:bV.OP)(hc:o.cx.length<=1000000)(h1:1<=o.sq)(h2:o.sq<=1048576):Cq 361 [bV.op o] (bB (Q5 o)):=by
 have hw:IntKind.wrap IntKind.i64 (bV.OP.sq o-1)=o.sq-1:=Gx zO zO;have h:=bH.Q6 o.cx o.dv (o.sq-1) zO;refine afA o _ _ (by rw[hw];exact h) _ ⟨fun h=>by unfold Q5;rw[yL h],fun h=>by unfold Q5;rw[yK h]⟩
theorem TD(o:bV.OP):(Q5 o).length<=o.cx.length+1:=by
 unfold Q5;split
 .grind [uK,KE]
 .omega
def ef3(o:bV.OP)(f:FD):FD:=if(Bd.OB f.bi (Q5 o) ⟨o.ky,o.dv,o.sq,o.tm,o.vl⟩).2=0 then{ f with bi:=(Bd.OB f.bi (Q5 o) ⟨o.ky,o.dv,o.sq,o.tm,o.vl⟩).1 }else f
def ef4(o:bV.OP)(f:FD):FD:=if(Bd.CZ f.bi (Q5 o) o.ky).2=0 then{ f with bi:=(Bd.CZ f.bi (Q5 o) o.ky).1 }else f
theorem aiY{o:bV.OP}{f:FD}(hc:o.cx.length<=1000000)(h1:1<=o.sq)(h2:o.sq<=1048576)(hl:f.bi.length<=1000000):EfC 359 o (ef3 o) f:=fun l g i h e=>by
 subst e;have hk:=TD o;have k:=aiZ l i g l[i] h (yA h) o _ _ _ (Au o hc h1 h2) (Bd.afB l[i].bi (Q5 o) ⟨o.ky,o.dv,o.sq,o.tm,o.vl⟩ zO zO);rw[za h]at k;exact⟨_,k⟩
theorem ai0{o:bV.OP}{f:FD}(hc:o.cx.length<=1000000)(h1:1<=o.sq)(h2:o.sq<=1048576)(hl:f.bi.length<=1000000):EfC 363 o (ef4 o) f:=fun l g i h e=>by
 subst e;have hk:=TD o;have k:=ai1 l i g l[i] h (yA h) o _ _ _ (Au o hc h1 h2) (Bd.X7 l[i].bi (Q5 o) o.ky zO zO);rw[za h]at k;exact⟨_,k⟩
end Go.Dc
namespace Go.Dt
open Go Go.Am Go.Proofs Go.eY Go.Lib Go.OC
set_option maxHeartbeats 4000000 in
theorem pz:OC.X8 382 3:=by
 intro b n c i vb vo vc cs vs w hi gY Me TF lG Cv jQ Q7 Qz Ev Gy Gz tA tB kA kB OD NS QA Q8;have iZ:(Tryz.prog.info? 113).map (·.size)=some 3:=zQ
 have hov:∀lb cb o,(callFunc 390 #[.slice (some ⟨vb,vo,none⟩) 1 vc,.slice (some ⟨b,o,none⟩) lb cb]).run Tryz.prog w = .ok (.value (.bool false)) w:=fun lb cb o=>by
  rw[run_callFunc_extern Tryz.func390 zQ zQ zQ (e:=Extern.SlicesOverlaps.overlaps #[62,62] #[4]) zQ,
   lX w 62 4 113 Tryz.underlying62 3 Tryz.sizeOf113 ⟨vb,vo,none⟩ ⟨b,o,none⟩ 1 vc lb cb TF tA tB kA kB OD NS QA Q8 Qz rfl]
  rfl
 have mixed:Tryz.prog.follows .mixedOrders=true:=zQ
 obtain⟨jw,OE,hw2,Mf,vN,X9,XB,Ya,hb4,W1,KF,J2,Mh⟩:=Mi (vc:=vc) (tS:=62) (tE:=113) (z:=3) zD Tryz.underlying62 iZ hi gY Me TF lG Cv jQ Q7 Qz Ev Gy Gz OD NS QA Q8
 go_enter Tryz.func382,Tryz.ntmps382
 go_wp2_with (simp only[hov])
 go_region_law_o (refine step_copy_runI rfl _ _ 62 62 rfl _ _ (by simp[Act.eval,Act.put]) (by simp[Act.eval,Act.put]) (J2 _ _ _) ?_)
 go_wp2_with (at_builtin;refine wpList_copy_runI _ rfl _ _ 62 62 rfl _ _ rfl rfl (Mh _ (fun _=>rfl) (fun _=>rfl) _ _) ?_)
 go_ret
 first|exact⟨rfl,rfl⟩|exact⟨rfl,by rw[KF]⟩
abbrev zB:Value:=.agg #[.int .i64 0,.int .i64 0,.int .i64 0]
set_option maxHeartbeats 4000000 in
theorem sU:OC.Yb 382 3 113 24 zB:=by
 intro b n c i vb vo vc cs vs w hi hnc gY Ia lG Cv jQ Ev Gy Gz;have iZ:(Tryz.prog.info? 113).map (·.size)=some 3:=zQ
 have mixed:Tryz.prog.follows .mixedOrders=true:=zQ
 obtain⟨G,oJ,hG,yg,jw,x9,hGi,Yc,hci,OE,Mf,vN,X9,Ya,hGn,Yd,Xf,Mj,ED⟩:=TG (vc:=vc) (tS:=62) (tE:=113) (z:=3) (B:=24) (zB:=zB) zD zD Tryz.underlying62 iZ zQ rfl hi hnc gY Ia lG Cv jQ Ev Gy Gz;rw[<- hG,<- yg];have hE1:∀x,((w.alloc (.cells oJ 113)).drew).cell? x=(w.drew.alloc (.cells oJ 113)).cell? x:=fun x=>rfl;have hE2:∀x,((w.alloc (.cells oJ 113)).drew).frozen? x=(w.drew.alloc (.cells oJ 113)).frozen? x:=fun x=>rfl;have Ko:∀x,(((w.alloc (.cells oJ 113)).drew.setCells w.heap.size (i*3) vs).drew).cell? x=((w.drew.alloc (.cells oJ 113)).setCells w.heap.size (i*3) vs).cell? x:=fun x=>rfl;have hF2:∀x,(((w.alloc (.cells oJ 113)).drew.setCells w.heap.size (i*3) vs).drew).frozen? x=((w.drew.alloc (.cells oJ 113)).setCells w.heap.size (i*3) vs).frozen? x:=fun x=>rfl;clear yg hG
 go_enter Tryz.func382,Tryz.ntmps382
 go_wp2_with (first
  |(at_builtin;refine Lib.wpList_append_run _ rfl _ _ _ _ rfl _ _ rfl rfl _ _ (Xf _) ?_)
  |(at_builtin;refine wpList_copy_runI _ rfl _ _ 62 62 rfl _ _ rfl rfl (Mj _ hE1 hE2 _ _) ?_)
  |(at_builtin;refine wpList_copy_runI _ rfl _ _ 62 62 rfl _ _ rfl rfl (ED _ (fun _=>rfl) (fun _=>rfl) _ _ _) ?_))
 go_region_law_o (refine step_copy_runI rfl _ _ 62 62 rfl (.slice (some ⟨w.heap.size,(i+1)*3,none⟩) (n-i) (G-(i+1))) (.slice (some ⟨b,i*3,none⟩) (n-i) (c-i)) (by simp[Act.eval,Act.put]) (by simp[Act.eval,Act.put]) (ED _ Ko hF2 3 (G-(i+1)) (c-i)) ?_)
 go_wp2
 go_ret
 exact⟨rfl,rfl⟩
end Go.Dt
namespace Go.Dt
open Go Go.Am Go.Proofs Go.eY Go.Lib
theorem uL(x:List (List AV))(b:List AV)(g i:Nat)(hb7:b.length=3)(hi:i<x.length)(hx:x.length<=1000000000):ak P G 382 [.aU 0 g 0 x.length,int i,.sl 3 false [b]] [.aN g 3 false x] (.ret (.aU 0 (g+1) 0 (x.take i++[b]++x.drop i).length)) [.aN (g+1) 3 false (x.take i++[b]++x.drop i)]:=by
 have h:=OC.uL (F:=382) (z:=3) (tE:=113) (B:=24) (zB:=zB) zD zD rfl pz sU x [] b g i hb7 hi hx;rwa[append_nil]at h
end Go.Dt
namespace Go.Dc
open Go Go.Am Go.Proofs Go.eY Go.bH
abbrev plF:AV:=.fn (.func 389) [] [.ptr 0 0]
abbrev J3:ah:=.box [gP 381]
def tbS(l:List TL)(a:Int)(i j:Nat):St:={ aL:=aC 49 [(0,mF l),(1,int a),(2,plF),(8,int l.length),(9,int i),(10,int j)],H:=[J3] }
def tbX(l:List TL)(a:Int)(i:Nat):St:={ aL:=aC 49 [(0,mF l),(1,int a),(2,plF),(8,int l.length),(9,int i)],H:=[J3] }
def nQ(c:TL->Int)(l:List TL):Nat:=(l.takeWhile fun f=>decide (c f<0)).length
theorem Mk(c:TL->Int)(l:List TL):nQ c l<=l.length:=(takeWhile_sublist _).length_le
def TH(c:TL->Int)(l:List TL):Prop:=∀m (h:m<l.length),c l[m]<0↔m<nQ c l
theorem ai2(t:TL)(h:True):Cq 381 [.agg (ze t)] (int t.1):=by
 exact aj []
theorem ai3(t:TL)(a r:Int)(hD:Cq 381 [.agg (ze t)] (int t.1))(hC:Cq 121 [int t.1,int a] (int r))(h:True):ak P G 389 [.agg (ze t),int a,.ptr 0 0] [J3] (aS.ret (int r)) [J3]:=by
 exact aj [kc [] hD,kc [] hC]
theorem amN(l:List TL)(a:Int)(i j:Nat)(wQ:¬(i:Int)<(j:Int))(h:True):Rq 1 388 0 (tbS l a i j) (bF.exit 0) (tbX l a i):=by
 exact aG [kj ((i:Int)<j)] (aB 49 [0,1,2,8,9]) 1
theorem amO(l:List TL)(a:Int)(i j m:Nat)(c:TL->Int)(hj:j<=l.length)(hv:l.length<=1000000000)(hm:U8 i j=(m:Int))(hm':IntKind.wrap IntKind.i64 (Int.fdiv (↑(i+j):Int) (2^min (Int.toNat 1) (IntKind.bits IntKind.u64)))=(m:Int))(bg:m<j)(hC:∀f:TL,ak P G 389 [.agg (ze f),int a,.ptr 0 0] [J3] (.ret (int (c f))) [J3])(ex:bF)(s':St)(h:((((i:Int)<(j:Int))->(∃x2:TL,((0:Int)<=U8 i j/\l[Int.toNat (U8 i j)]?=some x2)/\(((c x2<0)->Rq 1 388 0 (sM 49 [(0,.sl 3 false (lH l)),(1,int a),(2,.fn (Fn.func 389) [] [.ptr 0 0]),(8,int ↑l.length),(9,int (U8 i j+1)),(10,int ↑j)] [.box [iL 381]]) ex s')/\((¬c x2<0)->Rq 1 388 0 (sM 49 [(0,.sl 3 false (lH l)),(1,int a),(2,.fn (Fn.func 389) [] [.ptr 0 0]),(8,int ↑l.length),(9,int ↑i),(10,int (U8 i j))] [.box [iL 381]]) ex s'))))/\((¬(i:Int)<(j:Int))->(bF.exit 0=ex)/\(sM 49 [(0,.sl 3 false (lH l)),(1,int a),(2,.fn (Fn.func 389) [] [.ptr 0 0]),(8,int ↑l.length),(9,int ↑i)] [.box [iL 381]]=s')))):Rq 1 388 0 (tbS l a i j) ex s':=by
 by_cases c1:((i:Int)<(j:Int))
 .have h:=h.1 c1;obtain⟨x2,o3,h⟩:=h;have Av:=(@hC (x2));let l1:List fP:=[kt (qT c1),kW 20 ((i:Int)+(j:Int)) (↑(i+j):Int),kv 21 (show Am.aF (AV.lit (Value.int IntKind.u64 (IntKind.wrap IntKind.u64 (↑(i+j):Int)))) (AV.lit (Value.int IntKind.u64 (↑(i+j):Int)))from(aF.zf zO zO rfl)),ko (bC.elem (ze x2)),kp (show(0:Int)<=(1:Int)from zO),kp (show(0:Int)<=IntKind.wrap IntKind.i64 (Int.fdiv (↑(i+j):Int) (2^min (Int.toNat 1) (IntKind.bits IntKind.u64)))/\(lH l)[Int.toNat (IntKind.wrap IntKind.i64 (Int.fdiv (↑(i+j):Int) (2^min (Int.toNat 1) (IntKind.bits IntKind.u64))))]?=some (ze x2)from(qU o3)),kc [0] Av];by_cases c4:(c x2<0)
  .have h:=h.1 c4;exact aJ (l1++[kt (qT c4),kW 33 (IntKind.wrap IntKind.i64 (Int.fdiv (↑(i+j):Int) (2^min (Int.toNat 1) (IntKind.bits IntKind.u64)))+1) (U8 i j+1)]) (aB 49 [0,1,2,8,9,10]) 1 h
  .have h:=h.2 c4;exact aJ (l1++[kf (qF c4)]) (aB 49 [0,1,2,8,9,10]) 1 h
 .have h:=h.2 c1;obtain⟨eX,eS⟩:=h;exact bN.to ((aG [kf (qF c1)] (aB 49 [0,1,2,8,9]) 1)) eX (eB.of_eq eS)
theorem ai4(l:List TL)(a:Int)(p:Nat)(hp:¬(p:Int)<(l.length:Int))(hv:l.length<=1000000000)(hL:Rq 1 388 0 (tbS l a 0 l.length) (.exit 0) (tbX l a p))(h:True):ak P G 388 [mF l,int a,plF] [J3] (aS.ret (AV.bq [int ↑p,Am.bool false])) [J3]:=by
 exact aj [kN 13 (dP l),kl (rG [(3,5),(11,38)]) 1 hL,kj ((p:Int)<l.length)]
theorem ai5(l:List TL)(a:Int)(p:Nat)(c:TL->Int)(hp:(p:Int)<(l.length:Int))(hv:l.length<=1000000000)(hC:∀f:TL,ak P G 389 [.agg (ze f),int a,.ptr 0 0] [J3] (.ret (int (c f))) [J3])(hL:Rq 1 388 0 (tbS l a 0 l.length) (.exit 0) (tbX l a p))(r:Bool)(h:(∃x2:TL,(l[p]?=some x2)/\(c x2==0)=(r))):ak P G 388 [mF l,int a,plF] [J3] (aS.ret (AV.bq [int ↑p,Am.bool r])) [J3]:=by
 obtain⟨x2,o3,h⟩:=h;have e1:=h;exact ak.out ((show ak P G 388 [mF l,int a,plF] [J3] (aS.ret (AV.bq [int ↑p,Am.bool (c x2==0)])) [ah.box [iL 381]]from aj [kN 13 (dP l),kl (rG [(3,5),(11,38)]) 1 hL,ki ((p:Int)<l.length),ke (ze x2) (lH l) p (bG o3),kc [0] (@hC (x2))])) (aF.iM ⟨aF.refl _,(aF.aI e1),yO⟩)
theorem ab8(l:List TL)(a:Int)(c:TL->Int)(hv:l.length<=1000000000)(hs:TH c l)(hC:∀f:TL,ak P G 389 [.agg (ze f),int a,.ptr 0 0] [J3] (.ret (int (c f))) [J3]):∀n i j,j-i<=n->i<=nQ c l->nQ c l<=j->j<=l.length->Rq 1 388 0 (tbS l a i j) (.exit 0) (tbX l a (nQ c l)):=by
 intro n;have he:∀i j,i<=nQ c l->nQ c l<=j->¬i<j->Rq 1 388 0 (tbS l a i j) (.exit 0) (tbX l a (nQ c l)):=fun i j h1 h2 wQ=>by
  have:=amN l a i j zO trivial;rwa[show i=nQ c l by omega]at this |-
 induction n with
 |zero=>intro i j hn h1 h2 h3;exact he i j h1 h2 zO
 |succ n ih =>
  intro i j hn h1 h2 h3;by_cases wQ:i<j
  .have hm:=Ye (i:=i) (j:=j) zO;refine amO l a i j ((i+j)/2) c h3 hv hm hm zO hC _ _ ⟨fun _=>?_,fun h=>absurd zO h⟩;have bg:(i+j)/2<l.length:=zO
   refine⟨l[(i+j)/2],?_,fun hq=>?_,fun hq=>?_⟩
   .grind [Int.toNat_natCast,yA]
   .have:=(hs _ bg).1 hq;have nx:=ih ((i+j)/2+1) j zO zO h2 h3;rw[hm];exact nx
   .have:¬(i+j)/2<nQ c l:=fun h=>hq ((hs _ bg).2 h);have nx:=ih i ((i+j)/2) zO h1 zO zO;rw[hm];exact nx
  .exact he i j h1 h2 wQ
theorem ab9(l:List TL)(a:Int)(c:TL->Int)(hv:l.length<=1000000000)(hs:TH c l)(hC:∀f:TL,ak P G 389 [.agg (ze f),int a,.ptr 0 0] [J3] (.ret (int (c f))) [J3]) :
 ak P G 388 [mF l,int a,plF] [J3] (.ret (.bq [int (nQ c l),Am.bool ((l[nQ c l]?).any fun f=>c f==0)])) [J3]:=by
 have hp:=Mk c l;have hL:=ab8 l a c hv hs hC _ 0 l.length yM zO hp zO;rcases Nat.lt_or_ge (nQ c l) l.length with h|h
 .rw [yA h];exact ai5 l a _ c zO hv hC hL _ ⟨l[nQ c l],yA h,rfl⟩
 .rw [getElem?_eq_none h];exact ai4 l a _ zO hv hL trivial
theorem ai6(l:List TL)(a:Int)(p:Nat)(r:Bool)(hB:ak P G 388 [mF l,int a,plF] [J3] (.ret (.bq [int p,Am.bool r])) [J3])(h:True):Cq 380 [mF l,int a,gP 381] (.bq [int ↑p,Am.bool r]):=by
 exact aj [kc [0] hB]
theorem ai7(v:List TL)(hv:v.length<=1000000000)(fF:¬lH v=[])(h:True):ak P G 118 [mF v] [] (aS.ret (AV.aU 0 0 0 v.length)) [ah.aN 0 3 false (lH v)]:=by
 exact aj [kp (show lH v≠[]from zO),kY,kv 7 (show Am.aF (AV.aU 0 0 0 (0+length (lH v))) (AV.aU 0 0 0 v.length)from(aF.of_eq (by simp[dP,pW,sQ]))),kp fF,vV ((0+length (lH v))*24) (by simp only[yD,yE,length_nil,length_map,dP,pW,sQ]<;>omega)]
theorem ai8(n:Nat)(h:aF (aK) (AV.sl 3 true [])):Cq 118 [.lit (Value.slice none 0 n)] (.sl 3 true []):=by
 have e1:=h;exact ak.out ((aj [kO])) e1
theorem ai9(a:Addr)(n:Nat)(h:True):Cq 118 [.lit (Value.slice (some a) 0 n)] (.sl 3 true []):=by
 exact aj [kY,ko (bC.LV),kp (Am.C8)]
theorem aja(l:List TL)(g:Nat)(b:TL)(hl:l.length<=1000000)(out:aS)(H':List ah)(h:(aS.ret (AV.aU 0 (g+1) 0 (length l+1))=out)/\([ah.aN (g+1) 3 false (lH l++[[int b.1,int (Prod.fst b.2),int (Prod.snd b.2)]])]=H')):ak P G 382 [.aU 0 g 0 l.length,int ↑l.length,.sl 3 false [ze b]] [ah.aN g 3 false (lH l)] out H':=by
 have bS:g=g:=(rfl);obtain⟨e1,eH⟩:=h;exact ak.heap (e1▸((aj [kp bS,Ga (l.length:Int) (l.length:Int) (l.length:Int),kY,kp bS,kt (show((l.length:Int)==(l.length:Int))=true from(qT zO)),kp bS,kp (dP l).symm,vV ((length l+1)*24)]))) eH
theorem ajb(b:TL)(out:aS)(H':List ah)(h:(aS.ret (AV.aU 0 0 0 1)=out)/\([ah.aN 0 3 false [[int b.1,int (Prod.fst b.2),int (Prod.snd b.2)]]]=H')):ak P G 382 [.sl 3 true [],int 0,.sl 3 false [ze b]] [] out H':=by
 obtain⟨e1,eH⟩:=h;exact ak.heap (e1▸((aj [Ga (0:Int) (0:Int) (0:Int),kY,kO,Qx [int b.1,int (Prod.fst b.2),int (Prod.snd b.2)],vV 24]))) eH
theorem ajc(l:List TL)(d s n e:Int)(he:e≠0)(hK:Cq 102 [mF l] (int e))(h:True):Cq 366 [mF l,eG (d,s),int n] (.bq [aK,int e]):=by
 exact aj [kc [] hK,kt (yJ Bool.not (qF zO))]
theorem ajd(l:List TL)(d s n:Int)(hK:Cq 102 [mF l] (int 0))(hW:Cq 201 [int d,int s] (Am.bool false))(out:aS)(H':List ah)(h:(aS.ret (AV.bq [aK,int 150])=out)/\([]=H')):ak P G 366 [mF l,eG (d,s),int n] [] out H':=by
 obtain⟨e1,eH⟩:=h;exact ak.heap (e1▸((aj [kc [] hK,kY,kc [] hW,kO]))) eH
theorem aje(l r:List TL)(d s n:Int)(p:Nat)(hl:l.length<=1000000)(hr:r.length<=1000001)(hp:p<=l.length)(hK:Cq 102 [mF l] (int 0))(hW:Cq 201 [int d,int s] (Am.bool true))(hP:Cq 380 [mF l,int d,gP 381] (.bq [int p,Am.bool false]))(hC:ak P G 118 [mF l] [] (.ret (.aU 0 0 0 l.length)) [.aN 0 3 false (lH l)])(hI:ak P G 382 [.aU 0 0 0 l.length,int p,.sl 3 true [[int d,int s,int n]]] [.aN 0 3 false (lH l)] (.ret (.aU 0 1 0 r.length)) [.aN 1 3 false (lH r)])(out:aS)(H':List ah)(h:(aS.ret (AV.bq [AV.aU 1 1 0 r.length,int 0])=out)/\([ah.box [int d,int s],ah.aN 1 3 false (lH r)]=H')):ak P G 366 [mF l,eG (d,s),int n] [] out H':=by
 have Av:∀(x:List AV),x∈lH l->AV.aM [] x=true:=(pW _);obtain⟨e1,eH⟩:=h;exact ak.heap (e1▸((aj [kc [] hK,kY,kc [] hW,kY,kc [] hP,kc [] hC,kp Av,kO,kc [1] hI,kp (pW r),kp Av]))) eH
theorem ajf(l r:List TL)(d s n:Int)(hK:Cq 102 [mF l] (int 0))(hW:Cq 201 [int d,int s] (Am.bool true))(hP:Cq 380 [mF l,int d,gP 381] (.bq [int 0,Am.bool false]))(hC:Cq 118 [mF l] (.sl 3 true []))(hI:ak P G 382 [.sl 3 true [],int 0,.sl 3 true [[int d,int s,int n]]] [] (.ret (.aU 0 0 0 1)) [.aN 0 3 false (lH r)])(out:aS)(H':List ah)(h:(aS.ret (AV.bq [AV.aU 1 0 0 1,int 0])=out)/\([ah.box [int d,int s],ah.aN 0 3 false (lH r)]=H')):ak P G 366 [mF l,eG (d,s),int n] [] out H':=by
 obtain⟨e1,eH⟩:=h;exact ak.heap (e1▸((aj [kc [] hK,kY,kc [] hW,kY,kc [] hP,kc [] hC,kO,kc [] hI,kp (pW r)]))) eH
theorem ajg(l:List TL)(d s n:Int)(p:Nat)(t:TL)(hl:l.length<=1000000)(hp:(p:Int)<(l.length:Int))(ht:l[0+p]?=some t)(hs:t.2.1>=s)(hK:Cq 102 [mF l] (int 0))(hW:Cq 201 [int d,int s] (Am.bool true))(hP:Cq 380 [mF l,int d,gP 381] (.bq [int p,Am.bool true]))(hC:ak P G 118 [mF l] [] (.ret (.aU 0 0 0 l.length)) [.aN 0 3 false (lH l)])(out:aS)(H':List ah)(h:(aS.ret (AV.bq [aK,int 182])=out)/\([]=H')):ak P G 366 [mF l,eG (d,s),int n] [] out H':=by
 have qj:0=0:=(rfl);obtain⟨e1,eH⟩:=h;exact ak.heap (e1▸((aj [kc [] hK,kY,kc [] hW,kY,kc [] hP,kc [] hC,kp (pW l),kY,ko (bC.elem (ze t)),kp qj,kR (p:Int) (l.length:Int),kp qj,kp qj,kp (show(lH l)[0+Int.toNat (p:Int)]?=some (ze t)from(iN ht)),ki (Prod.fst t.2>=s)]))) eH
theorem ajh(l:List TL)(d s n:Int)(p:Nat)(t:TL)(hl:l.length<=1000000)(hp:(p:Int)<(l.length:Int))(ht:l[0+p]?=some t)(hz:(List.set (lH l) (0+p) [int t.1,int s,int t.2.2])[0+p]?=some [int t.1,int s,int t.2.2])(hs:¬t.2.1>=s)(hK:Cq 102 [mF l] (int 0))(hW:Cq 201 [int d,int s] (Am.bool true))(hP:Cq 380 [mF l,int d,gP 381] (.bq [int p,Am.bool true]))(hC:ak P G 118 [mF l] [] (.ret (.aU 0 0 0 l.length)) [.aN 0 3 false (lH l)])(out:aS)(H':List ah)(h:(aS.ret (AV.bq [AV.aU 1 0 0 l.length,int 0])=out)/\([ah.box [int d,int s],ah.aN 0 3 false (List.set (List.set (lH l) (0+Int.toNat (p:Int)) [int t.1,int s,int (Prod.snd t.2)]) (0+Int.toNat (p:Int)) [int t.1,int s,int (IntKind.wrap IntKind.i64 (Prod.snd t.2+n))])]=H')):ak P G 366 [mF l,eG (d,s),int n] [] out H':=by
 have qj:0=0:=(rfl);have OG:(0:Int)<=(p:Int)/\(p:Int)<(l.length:Int):=zO;have H6:(lH l)[0+Int.toNat (p:Int)]?=some (ze t):=(iN ht);obtain⟨e1,eH⟩:=h;exact ak.heap (e1▸((aj [kc [] hK,kY,kc [] hW,kY,kc [] hP,kc [] hC,kp (pW l),kY,ko (bC.elem (ze t)),kp qj,kp OG,kp qj,kp qj,kp H6,kj (Prod.fst t.2>=s),ko (bC.elem (ze t)),ko (bC.elem [int t.1,int s,int (Prod.snd t.2)]),ko (bC.elem [int t.1,int s,int (Prod.snd t.2)]),kp qj,kp OG,kp qj,kp qj,kp H6,kp qj,kp OG,kp qj,kp qj,kp hz,kp qj,kp OG,kp qj,kp qj,kp hz]))) eH
abbrev Gb(f:FD):Tx.TE:=⟨f.tc,f.tm⟩
def MB(f:FD)(r:Tx.TE×Int):FD:=if r.2=0 then{ f with tc:=r.1.cells,tm:=r.1.bQ }else f
def mkO(o:bV.OP):Tx.MK:=⟨o.dv,o.sq,o.tm,o.f1,o.f2,o.f3,o.t1,o.t2,o.t3,o.n,o.on⟩
def ef6(o:bV.OP)(f:FD):FD:=MB f (Tx.Ve (Gb f) o.dv o.sq o.tm (o.f1,o.f2,o.f3) o.vl)
def ef7(o:bV.OP)(f:FD):FD:=MB f (Tx.Vg (Gb f) (o.f1,o.f2,o.f3) o.n)
def ef8(o:bV.OP)(f:FD):FD:=MB f (Tx.Vk (Gb f) (mkO o))
theorem ajx{o:bV.OP}{f:FD}(ho:bV.Fw o)(hr:Q0 f):EfC 368 o (ef6 o) f:=fun l g i h e=>by
 subst e;have k:=ajy l i g l[i] h (yA h) o _ _ _ (Tx.afL (Gb l[i]) o.dv o.sq o.tm o.f1 o.f2 o.f3 o.vl hr.lt hr.tx ho.dv ho.sq ho.f1 ho.f2 ho.f3);rw[za h]at k;exact⟨_,k⟩
theorem ajz{o:bV.OP}{f:FD}(hr:Q0 f):EfC 371 o (ef7 o) f:=fun l g i h e=>by
 subst e;have k:=ajA l i g l[i] h (yA h) o _ _ _ (Tx.ajv (Gb l[i]) o.f1 o.f2 o.f3 o.n hr.lt hr.tx);rw[za h]at k;exact⟨_,k⟩
theorem ajB{o:bV.OP}{f:FD}(hr:Q0 f):EfC 373 o (ef8 o) f:=fun l g i h e=>by
 subst e;have k:=ajC l i g l[i] h (yA h) o _ _ _ (Tx.ajw (Gb l[i]) (mkO o) hr.lt hr.tx);rw[za h]at k;exact⟨_,k⟩
end Go.Dc
namespace Go.Am
open Go
theorem ak.Yt{P:Program}{G:Nat->Option (List AV)}{f:FuncId}{args:List AV}{H H' H1:List ah}{xs ys:List AV}{z:List (List AV)}{ps:List Prop}(h:ak P G f args H (.ret (.bq xs)) H')(ha:vZ H' xs z=some (ys,H1,ps))(dG:gZ ps):ak P G f args H (.ret (.bq ys)) H1 :=
 fun V vs hH hG hr=>(h V vs hH hG hr).mono fun e w' he=>by
  obtain⟨V',rfl,k2,k3,k4,k5⟩:=he;cases e with
  |returned v =>
   obtain⟨us,rfl,hu⟩:=GI k5;obtain⟨V1,l1,l2,l3,l4,l5⟩:=nY (by rw[k4];exact ha) dG k3 hu;exact⟨V1,l1,k2.trans l3,l4,l2,.bq ys us l5.1 l5.2⟩
  |panicked _=>exact k5.elim
  |outgrown=>exact k5.elim
end Go.Am
namespace Go.Dc
open Go Go.Am Go.Proofs Go.eY Go.bH
def cD(d:Int)(t:TL):Int:=bV.gJ t.1 d
theorem ajD(d:Int)(t:TL):cD d t<0↔t.1<d:=by
 unfold cD bV.gJ;split
 .omega
 .omega
theorem Yq:∀{l:List TL}{x:Int},Xg x l=true->∀t∈l,x<t.1
 |[],_,_,_,h=>by cases h
 |u::l,x,hk,t,h=>by
  simp only[Xg,Bool.and_eq_true,decide_eq_true_eq]at hk;rcases yH.1 h with rfl|h
  .exact hk.1.2
  .have:=Yq hk.2 t h;omega
theorem OI(d:Int):∀{l:List TL}{x:Int},Xg x l=true->TH (cD d) l
 |[],_,_=>fun m h=>absurd h (Nat.not_lt_zero m)
 |u::l,x,hk=>by
  simp only[Xg,Bool.and_eq_true,decide_eq_true_eq]at hk;have ih:=OI d hk.2;intro m h;unfold nQ;by_cases hu:cD d u<0
  .rw [takeWhile_cons_of_pos (by simpa using hu)];cases m with
   |zero=>exact⟨fun _=>zS,fun _=>hu⟩
   |succ m =>
    have:=ih m (by simpa using h);simp only[getElem_cons_succ,yE,Nat.add_lt_add_iff_right];exact this
  .rw [takeWhile_cons_of_neg (by simpa using hu)];refine⟨fun h'=>?_,fun h'=>absurd h' (Nat.not_lt_zero m)⟩;refine absurd h' ?_;cases m with
   |zero=>exact hu
   |succ m =>
    have hm:m<l.length:=by simpa using h
    have:=Yq hk.2 _ (getElem_mem hm);rw[ajD]at hu |-;simp only[getElem_cons_succ];omega
theorem Yr(l:List TL)(d:Int)(hl:l.length<=1000000)(hs:TH (cD d) l):Cq 380 [mF l,int d,gP 381] (.bq [int (nQ (cD d) l),Am.bool ((l[nQ (cD d) l]?).any fun f=>cD d f==0)]) :=
 ai6 l d _ _ (ab9 l d (cD d) zO hs fun t=>ai3 t d _ (ai2 t yO) (bV.wZ t.1 d) yO) trivial
theorem afM:Cq 118 [mF []] (.sl 3 true []):=ak.wY (fun cap=>ai8 cap (aF.aed 3)) fun a cap=>ai9 a cap trivial
theorem TM(d s n:Int):aF (.sl 3 true [[int d,int s,int n]]) (.sl 3 false [ze (d,s,n)]):=aF.oP 3 true _
theorem afN(l:List TL)(g p:Nat)(d s n:Int)(hp:p<=l.length)(hl:l.length<=1000000):ak P G 382 [.aU 0 g 0 l.length,int p,.sl 3 true [[int d,int s,int n]]] [.aN g 3 false (lH l)] (.ret (.aU 0 (g+1) 0 (l.take p++[(d,s,n)]++l.drop p).length)) [.aN (g+1) 3 false (lH (l.take p++[(d,s,n)]++l.drop p))]:=by
 have main:ak P G 382 [.aU 0 g 0 l.length,int p,.sl 3 false [ze (d,s,n)]] [.aN g 3 false (lH l)] (.ret (.aU 0 (g+1) 0 (l.take p++[(d,s,n)]++l.drop p).length)) [.aN (g+1) 3 false (lH (l.take p++[(d,s,n)]++l.drop p))]:=by
  rcases Nat.lt_or_ge p l.length with h|h
  .have k:=Go.Dt.uL (lH l) (ze (d,s,n)) g p rfl (by rw[dP];exact h) (by rw[dP];omega);have e:(lH l).take p++[ze (d,s,n)]++(lH l).drop p=lH (l.take p++[(d,s,n)]++l.drop p):=by simp[lH]
   rw[e,dP,dP]at k;exact k
  .obtain rfl:p=l.length:=zO
   rw[take_length,drop_length,append_nil];exact aja l g (d,s,n) hl _ _ ⟨zS,by simp[lH,ze]⟩
 exact ak.qp main ⟨aF.refl _,aF.refl _,TM d s n,yO⟩
theorem afO(d s n:Int):ak P G 382 [.sl 3 true [],int 0,.sl 3 true [[int d,int s,int n]]] [] (.ret (.aU 0 0 0 1)) [.aN 0 3 false (lH [(d,s,n)])] :=
 ak.qp (ajb (d,s,n) _ _ ⟨rfl,rfl⟩) ⟨aF.refl _,aF.refl _,TM d s n,yO⟩
theorem MC{l r:List TL}{d s n:Int}{g k:Nat}{a:ah}(hk:k=r.length)(h:ak P G 366 [mF l,eG (d,s),int n] [] (.ret (.bq [.aU 1 g 0 k,int 0])) [a,.aN g 3 false (lH r)]):Cq 366 [mF l,eG (d,s),int n] (.bq [mF r,int 0]):=by
 subst hk;exact(h.Yt (z:=lH r) (ys:=[mF r,int 0]) (H1:=[a,.aN g 3 true (lH r)]) (ps:=[g=g,List.take r.length (List.drop 0 (lH r))=lH r,(lH r).length=r.length,∀c∈lH r,c.all AV.fJ=true]) rfl ⟨rfl,by rw[drop_zero,take_of_length_le (by rw[dP];exact Nat.le_refl _)],dP r,sQ r,yO⟩).BM (H3:=[]) (qs:=[]) rfl trivial
def OJ(l:List TL)(d s n:Int):List TL×Int :=
 if Xg (-1) l=true then
  if Tf d s=true then
   if(l[nQ (cD d) l]?).any (fun f=>cD d f==0)=true then
    if(l.getD (nQ (cD d) l) (0,0,0)).2.1>=s then([],182)else(l.set (nQ (cD d) l) ((l.getD (nQ (cD d) l) (0,0,0)).1,s,IntKind.wrap IntKind.i64 ((l.getD (nQ (cD d) l) (0,0,0)).2.2+n)),0)
   else(l.take (nQ (cD d) l)++[(d,s,n)]++l.drop (nQ (cD d) l),0)
  else([],150)
 else([],150)
theorem afP(l:List TL)(d s n:Int)(hl:l.length<=1000000):Cq 366 [mF l,eG (d,s),int n] (.bq [mF (OJ l d s n).1,int (OJ l d s n).2]):=by
 have hK:=OA l hl;have hW:=OL d s;unfold OJ;unfold vC at hK;by_cases hk:Xg (-1) l=true
 .rw [yL hk]at hK |-;by_cases hw:Tf d s=true
  .rw [yL hw];rw[hw]at hW;have hP:=Yr l d hl (OI d hk);have Yu:=Mk (cD d) l;by_cases hz:l=[]
   .subst hz;exact MC (r:=[(d,s,n)]) rfl (ajf [] [(d,s,n)] d s n hK hW hP afM (afO d s n) _ _ ⟨rfl,rfl⟩)
   .have hC:=ai7 l zO (fun h=>hz (by simpa[lH]using h)) trivial;cases hb:(l[nQ (cD d) l]?).any (fun f=>cD d f==0)with
    |false =>
     rw[yK zD];rw[hb]at hP;have hI:=afN l 0 (nQ (cD d) l) d s n Yu hl;exact MC rfl (aje l _ d s n _ hl (by simp;omega) Yu hK hW hP hC hI _ _ ⟨rfl,rfl⟩)
    |true =>
     rw[yL rfl];rw[hb]at hP;have bg:nQ (cD d) l<l.length:=by grind
     have ht:l[0+nQ (cD d) l]?=some (l.getD (nQ (cD d) l) (0,0,0)):=by
      rw[Nat.zero_add,yB,yA bg,Option.getD_some]
     generalize l.getD (nQ (cD d) l) (0,0,0)=t at ht |-;by_cases hs:t.2.1>=s
     .rw [yL hs];exact ak.out (ajg l d s n _ t hl zO ht hs hK hW hP hC _ _ ⟨rfl,rfl⟩) (aF.U1 (aF.nil 3) (aF.refl _))
     .rw [yK hs];refine MC (g:=0) (k:=l.length) (a:=.box [int d,int s]) (by rw[length_set]) (ajh l d s n _ t hl zO ht ?_ hs hK hW hP hC _ _ ⟨rfl,?_⟩)
      .rw [Nat.zero_add,getElem?_set_self (by rw[dP];exact bg)]
      .rw [Int.toNat_natCast,Nat.zero_add,set_set];simp[lH,ze,map_set]
  .rw [yK hw];rw[Bool.eq_false_iff.2 hw]at hW;exact ak.out (ajd l d s n hK hW _ _ ⟨rfl,rfl⟩) (aF.U1 (aF.nil 3) (aF.refl _))
 .rw [yK hk]at hK |-;exact ak.out (ajc l d s n 150 zD hK yO) (aF.U1 (aF.nil 3) (aF.refl _))
def ef5(o:bV.OP)(f:FD):FD:=if(OJ f.ta o.dv o.sq o.n).2=0 then{ f with ta:=(OJ f.ta o.dv o.sq o.n).1 }else f
theorem ajE{o:bV.OP}{f:FD}(hl:f.ta.length<=1000000):EfC 365 o (ef5 o) f:=fun l g i h e=>by
 subst e;have k:=ajF l i g l[i] h (yA h) o _ _ (afP l[i].ta o.dv o.sq o.n hl);rw[za h]at k;exact⟨_,k⟩
def cO(o:bV.OP)(f:FD):Int:=U7 f.pk o.pk f.pn o.pn
theorem uN{F:Nat}(K:Yv F){d:DO}{o:bV.OP}{v:List D}(f:Fit d o v)(hd:Dim d)(hs:Rc (cO o) d.fs)(hM:mgA o F)(ef:FD->FD)(hE:∀x,x∈d.fs\/x=Fx o->EfC F o ef x) :
 Cq 12 [kI d,bV.op o] (.bq [kI ⟨v,Ig (cO o) ef o d.fs⟩,int 0]) :=
 Yw K f (cO o) ef hM hs (fun x=>amY x o.pk o.pn) (amZ o.pk o.pn) (fun x hx=>XY x (hd.len x hx)) fun _ g i h hx=>hE _ hx _ g i h rfl
def Gc(o:bV.OP):FD->FD :=
 if o.kd=1 then ef1 o else if o.kd=2 then ef2 o else if o.kd=3 then ef3 o else if o.kd=4 then ef4 o else if o.kd=5 then ef5 o else if o.kd=6 then ef6 o else if o.kd=7 then ef7 o else ef8 o
theorem Yx(o:bV.OP):Q0 (Fx o):=⟨(fun _ h=>by cases h),⟨(fun _ h=>by cases h),(fun _ h=>by cases h)⟩,⟨Nat.zero_le _,Nat.zero_le _⟩⟩
theorem OM{a b c:Int}{s t u:yP}(h1:U7 a b s t<0)(h2:U7 b c t u<0):U7 a c s u<0:=by
 rw[ajG]at *;rcases h1 with h1|⟨rfl,h1⟩
 .rcases h2 with h2|⟨rfl,h2⟩
  .exact .inl zO
  .exact .inl h1
 .rcases h2 with h2|⟨rfl,h2⟩
  .exact .inl h2
  .exact .inr ⟨rfl,Bd.KG h1 h2⟩
theorem Yy{v:List D}:∀{l:List FD}{g:FD},Xe v (some g) l=true->∀x∈l,U7 g.pk x.pk g.pn x.pn<0
 |[],_,_,_,h=>by cases h
 |u::l,g,hk,x,h=>by
  simp only[Xe,Bool.and_eq_true,decide_eq_true_eq]at hk;rcases yH.1 h with rfl|h
  .exact hk.1.2
  .exact OM hk.1.2 (Yy hk.2 x h)
theorem OO{v:List D}:∀{l:List FD}{q:Option FD},Xe v q l=true->l.Pairwise fun x y=>U7 x.pk y.pk x.pn y.pn<0
 |[],_,_=>Pairwise.nil
 |u::l,q,hk=>by
  simp only[Xe,Bool.and_eq_true]at hk;exact Pairwise.cons (Yy hk.2) (OO hk.2)
theorem Yz{v:List D}{l:List FD}{q:Option FD}(o:bV.OP)(h:Xe v q l=true):Rc (cO o) l:=TN ((OO h).imp fun h1 h2=>OM h1 h2)
theorem ach{d:DO}{o:bV.OP}{v:List D}(f:Fit d o v)(hd:Dim d)(hs:Rc (cO o) d.fs)(ho:bV.Fw o)(hc:o.cx.length<=1000000)(hk:1<=o.kd/\o.kd<=8)(hl:∀x∈d.fs,x.ce.length<=999999) :
 Cq 12 [kI d,bV.op o] (.bq [kI ⟨v,Ig (cO o) (Gc o) o d.fs⟩,int 0]):=by
 have hr:∀x,x∈d.fs\/x=Fx o->Q0 x:=fun x hx=>hx.elim (hd.iV x) fun e=>e▸Yx o;have hn:∀x,x∈d.fs\/x=Fx o->XW x:=fun x hx=>hx.elim (hd.len x) fun e=>e▸⟨Nat.zero_le _,Nat.zero_le _,Nat.zero_le _,Nat.zero_le _,Nat.zero_le _⟩;have hq:∀x,x∈d.fs\/x=Fx o->x.ce.length<=999999:=fun x hx=>hx.elim (hl x) fun e=>e▸Nat.zero_le _;have y8:o.kd=1\/o.kd=2\/o.kd=3\/o.kd=4\/o.kd=5\/o.kd=6\/o.kd=7\/o.kd=8:=zO
 have hg:∀{F:Nat}{k:Int},o.kd=k->bT P 3 oK (.int .i64 k) zE (.agg [gP F]) true->mgA o F:=fun e h=>by unfold mgA;rw[e];exact h
 rcases y8 with e|e|e|e|e|e|e|e
 .rw [show Gc o=ef1 o by simp[Gc,e]];exact uN am0 f hd hs (hg e eg1) (ef1 o) fun x hx=>aiU ho (hq x hx) (hr x hx).ce
 .rw [show Gc o=ef2 o by simp[Gc,e]];exact uN am1 f hd hs (hg e eg2) (ef2 o) fun x hx=>aiW (hn x hx).ce (hr x hx).ce
 .rw [show Gc o=ef3 o by simp[Gc,e]];exact uN am2 f hd hs (hg e eg3) (ef3 o) fun x hx=>aiY hc f.s1 f.s2 (hn x hx).bi
 .rw [show Gc o=ef4 o by simp[Gc,e]];exact uN am3 f hd hs (hg e eg4) (ef4 o) fun x hx=>ai0 hc f.s1 f.s2 (hn x hx).bi
 .rw [show Gc o=ef5 o by simp[Gc,e]];exact uN am4 f hd hs (hg e eg5) (ef5 o) fun x hx=>ajE (hn x hx).ta
 .rw [show Gc o=ef6 o by simp[Gc,e]];exact uN am5 f hd hs (hg e eg6) (ef6 o) fun x hx=>ajx ho (hr x hx)
 .rw [show Gc o=ef7 o by simp[Gc,e]];exact uN am6 f hd hs (hg e eg7) (ef7 o) fun x hx=>ajz (hr x hx)
 .rw [show Gc o=ef8 o by simp[Gc,e]];exact uN am7 f hd hs (hg e eg8) (ef8 o) fun x hx=>ajB (hr x hx)
end Go.Dc
namespace Go.Dc
open Go Go.Am Go.Proofs Go.eY Go.bH
def EF(d:DO)(o:bV.OP):Int :=
 if F9 d=0 then
  if bV.lM o=0 then
   if cZ d.sn (o.dv,o.sq)=true then 182
   else if gI o.dv d.sn=o.sq-1 then(if(o.cx.any fun x=>!cZ d.sn x)=true then 181 else 0)else 181
  else bV.lM o
 else F9 d
def afQ(d:DO)(o:bV.OP):DO:=⟨uK d.sn [(o.dv,o.sq)],Ig (cO o) (Gc o) o d.fs⟩
theorem TP{d:DO}(h:F9 d=0):Cw d.sn=true/\Xe d.sn none d.fs=true:=by
 unfold F9 at h;by_cases e:Cw d.sn=true/\Xe d.sn none d.fs=true
 .exact e
 .rw [yK e]at h;exact absurd h zD
theorem aci{o:bV.OP}(h:bV.lM o=0):bV.rM o=true:=by
 unfold bV.lM at h;by_cases e:bV.rM o=true
 .exact e
 .simp [e]at h
theorem Ih{o:bV.OP}(h:bV.lM o=0):gQ (o.dv,o.sq)=true/\1<=o.kd/\o.kd<=8:=by
 have:=aci h;simp only[bV.rM,bV.qW,Bool.and_eq_true,decide_eq_true_eq]at this;exact⟨this.1.1.1.1.1.1.1,this.1.1.2,this.1.2⟩
theorem YA{d:DO}{o:bV.OP}(hd:Dim d)(hn:bV.Okn o)(hc:o.cx.length<=1000000)(hq:bV.lM o=0->1<=o.sq/\o.sq<=1048576)(h:EF d o≠0) :
 Cq 12 [kI d,bV.op o] (.bq [Rf,int (EF d o)]):=by
 have hK:=fG d hd;have hO:=bV.fG o hn;have hV:=bH.jX d.sn o.dv o.sq (by have:=hd.sn;omega);have hA:=bH.acj d.sn o.dv (by have:=hd.sn;omega);have hF:=aee o.cx d hc (by have:=hd.sn;omega);unfold EF at h |-;by_cases h1:F9 d=0
 .rw [yL h1]at h |-;rw[h1]at hK;by_cases h2:bV.lM o=0
  .rw [yL h2]at h |-;rw[h2]at hO;by_cases h3:cZ d.sn (o.dv,o.sq)=true
   .rw [yL h3];rw[h3]at hV;exact am8 d o hK hO hV _ rfl
   .rw [yK h3]at h |-;rw[Bool.eq_false_iff.2 h3]at hV;by_cases h4:gI o.dv d.sn=o.sq-1
    .rw [yL h4]at h |-;by_cases h5:(o.cx.any fun x=>!cZ d.sn x)=true
     .rw [yL h5];rw[h5]at hF;exact am9 d o _ (hq h2).1 (hq h2).2 h4 hK hO hV hA hF _ rfl
     .rw [yK h5]at h;exact absurd rfl h
    .rw [yK h4];exact ana d o _ (hq h2).1 (hq h2).2 h4 hK hO hV hA _ rfl
  .rw [yK h2];exact anb d o _ h2 hK hO trivial
 .rw [yK h1];exact anc d o _ h1 hK trivial
theorem YB{d:DO}{o:bV.OP}(hd:Dim d)(hn:bV.Okn o)(ho:bV.Fw o)(hc:o.cx.length<=1000000)(hl:∀x∈d.fs,x.ce.length<=999999)(hq:1<=o.sq/\o.sq<=1048576)(hw:fM d.sn [(o.dv,o.sq)]=0)(h:EF d o=0) :
 Cq 12 [kI d,bV.op o] (.bq [kI (afQ d o),int 0]):=by
 have hK:=fG d hd;have hO:=bV.fG o hn;have hV:=bH.jX d.sn o.dv o.sq (by have:=hd.sn;omega);have hA:=bH.acj d.sn o.dv (by have:=hd.sn;omega);have hF:=aee o.cx d hc (by have:=hd.sn;omega);have hW:=bH.Q6 d.sn o.dv o.sq (by have:=hd.sn;omega);unfold EF at h;by_cases h1:F9 d=0
 .rw [yL h1]at h;rw[h1]at hK;by_cases h2:bV.lM o=0
  .rw [yL h2]at h;rw[h2]at hO;by_cases h3:cZ d.sn (o.dv,o.sq)=true
   .grind
   .rw [yK h3]at h;rw[Bool.eq_false_iff.2 h3]at hV;by_cases h4:gI o.dv d.sn=o.sq-1
    .rw [yL h4]at h;rw[h4]at hA;by_cases h5:(o.cx.any fun x=>!cZ d.sn x)=true
     .rw [yL h5]at h;exact absurd h zD
     .rw [Bool.eq_false_iff.2 h5]at hF;rw[hw]at hW;exact ach ⟨hq.1,hq.2,hd.fs,hK,hO,hV,hA,hF,hW⟩ hd (Yz o (TP h1).2) ho hc (Ih h2).2 hl
    .rw [yK h4]at h;exact absurd h zD
  .rw [yK h2]at h;exact absurd h h2
 .rw [yK h1]at h;exact absurd h h1
theorem TQ{a b:Int}(h:gQ (a,b)=true):(0<=a/\a<512)/\1<=b/\b<=1048576:=by
 simp only[gQ,Bool.and_eq_true,decide_eq_true_eq]at h;omega
theorem YC{x:D}(h:gQ x=true):eZ [x]=0:=by
 unfold eZ Cw;simp[y9,jh,h]
theorem acn{v:List D}{x:D}(h:Cw v=true)(hx:gQ x=true):fM v [x]=0:=by
 unfold fM;rw[yL (by unfold eZ;rw[yL h])];exact YC hx
theorem Vl{d:DO}{o:bV.OP}(hd:Dim d)(hn:bV.Okn o)(ho:bV.Fw o)(hc:o.cx.length<=1000000)(hl:∀x∈d.fs,x.ce.length<=999999) :
 Cq 12 [kI d,bV.op o] (if EF d o=0 then .bq [kI (afQ d o),int 0]else .bq [Rf,int (EF d o)]):=by
 by_cases h:EF d o=0
 .rw [yL h];have h1:F9 d=0:=by
   by_cases e:F9 d=0
   .exact e
   .unfold EF at h;rw[yK e]at h;exact h
  have h2:bV.lM o=0:=by
   by_cases e:bV.lM o=0
   .exact e
   .unfold EF at h;rw[yL h1,yK e]at h;exact h
  have hq:=Ih h2;exact YB hd hn ho hc hl (TQ hq.1).2 (acn (TP h1).1 hq.1) h
 .rw [yK h];exact YA hd hn hc (fun h2=>(TQ (Ih h2).1).2) h
def Bn(d:DO)(o:bV.OP):DO:=if EF d o=0 then afQ d o else⟨[],[]⟩
theorem YD(l:List TL)(d s n:Int):(OJ l d s n).1.length<=l.length+1:=by
 unfold OJ;have:=Mk (cD d) l;split
 .split
  .split
   .split
    .simp
    .simp
   .simp;omega
  .simp
 .simp
theorem OQ{c:FD->Int}{ef:FD->FD}{o:bV.OP}{l:List FD}{x:FD}(h:x∈Ig c ef o l):x∈l\/∃y,(y∈l\/y=Fx o)/\x=ef y:=by
 unfold Ig at h;split at h
 .rename_i hb;have bg:rV c l<l.length:=by
   rcases Nat.lt_or_ge (rV c l) l.length with h|h
   .exact h
   .rw [getElem?_eq_none h]at hb;cases hb
  rcases mem_or_eq_of_mem_set h with h|h
  .exact .inl h
  .refine .inr ⟨_,.inl ?_,h⟩;rw[yB,yA bg,Option.getD_some];exact getElem_mem bg
 .simp only[yI,mem_singleton]at h;rcases h with(h|h)|h
  .exact .inl (mem_of_mem_take h)
  .exact .inr ⟨_,.inr rfl,h⟩
  .exact .inl (mem_of_mem_drop h)
theorem YE(c:FD->Int)(ef:FD->FD)(o:bV.OP)(l:List FD):(Ig c ef o l).length<=l.length+1:=by
 unfold Ig;have:=Rh c l;split
 .rw [length_set];omega
 .simp;omega
theorem VL(v:List Bd.BE)(c:List D)(k:yP):(Bd.CZ v c k).1.length<=v.length:=by
 unfold Bd.CZ;split
 .split
  .exact (Bd.zF v c k).length_le
  .exact Nat.zero_le _
 .exact Nat.zero_le _
theorem ZQ(v:List Bd.BE)(c:List D)(b:Bd.BE):(Bd.OB v c b).1.length<=v.length+1:=by
 unfold Bd.OB;split
 .split
  .split
   .have h:=(Bd.VJ b (Bd.rest v c b.ky)).length_eq;have:=(Bd.zF v c b.ky).length_le;simp only[yE]at h;show(Bd.VI b (Bd.rest v c b.ky)).length<=v.length+1;omega
   .exact Nat.zero_le _
  .exact Nat.zero_le _
 .exact Nat.zero_le _
structure yu(n:Nat)(f:FD):Prop where
 ce:f.ce.length<=n
 bi:f.bi.length<=n
 ta:f.ta.length<=n
theorem yu.mono{n m:Nat}{f:FD}(h:yu n f)(hm:n<=m):yu m f:=⟨by have:=h.ce;omega,by have:=h.bi;omega,by have:=h.ta;omega⟩
theorem acM{n:Nat}{o:bV.OP}{f:FD}(h:yu n f):yu (n+1) (ef1 o f):=by
 unfold ef1;split
 .exact ⟨by have:=Sq.Ib f.ce (KD o);have:=h.ce;show(Sq.rU f.ce (KD o)).length<=n+1;omega,by have:=h.bi;show f.bi.length<=n+1;omega,by have:=h.ta;show f.ta.length<=n+1;omega⟩
 .exact h.mono zO
theorem acN{n:Nat}{o:bV.OP}{f:FD}(h:yu n f):yu (n+1) (ef2 o f):=by
 unfold ef2;split
 .exact ⟨by have:=Sq.Yn f.ce o.f1 o.f2 o.f3;have:=h.ce;show(Sq.Ez f.ce o.f1 o.f2 o.f3).length<=n+1;omega,by have:=h.bi;show f.bi.length<=n+1;omega,by have:=h.ta;show f.ta.length<=n+1;omega⟩
 .exact h.mono zO
theorem acO{n:Nat}{o:bV.OP}{f:FD}(h:yu n f):yu (n+1) (ef3 o f):=by
 unfold ef3;split
 .exact ⟨by have:=h.ce;show f.ce.length<=n+1;omega,by have:=ZQ f.bi (Q5 o) ⟨o.ky,o.dv,o.sq,o.tm,o.vl⟩;have:=h.bi;show(Bd.OB f.bi (Q5 o) ⟨o.ky,o.dv,o.sq,o.tm,o.vl⟩).1.length<=n+1;omega,by have:=h.ta;show f.ta.length<=n+1;omega⟩
 .exact h.mono zO
theorem acP{n:Nat}{o:bV.OP}{f:FD}(h:yu n f):yu (n+1) (ef4 o f):=by
 unfold ef4;split
 .exact ⟨by have:=h.ce;show f.ce.length<=n+1;omega,by have:=VL f.bi (Q5 o) o.ky;have:=h.bi;show(Bd.CZ f.bi (Q5 o) o.ky).1.length<=n+1;omega,by have:=h.ta;show f.ta.length<=n+1;omega⟩
 .exact h.mono zO
theorem acQ{n:Nat}{o:bV.OP}{f:FD}(h:yu n f):yu (n+1) (ef5 o f):=by
 unfold ef5;split
 .exact ⟨by have:=h.ce;show f.ce.length<=n+1;omega,by have:=h.bi;show f.bi.length<=n+1;omega,by have:=YD f.ta o.dv o.sq o.n;have:=h.ta;show(OJ f.ta o.dv o.sq o.n).1.length<=n+1;omega⟩
 .exact h.mono zO
theorem I5{n:Nat}{f:FD}{r:Tx.TE×Int}(h:yu n f):yu n (MB f r):=by
 unfold MB;split
 .exact ⟨h.ce,h.bi,h.ta⟩
 .exact h
theorem acR{n:Nat}{o:bV.OP}{f:FD}(h:yu n f):yu (n+1) (Gc o f):=by
 unfold Gc;split
 .exact acM h
 split
 .exact acN h
 split
 .exact acO h
 split
 .exact acP h
 split
 .exact acQ h
 split
 .exact (I5 h).mono zO
 split
 .exact (I5 h).mono zO
 .exact (I5 h).mono zO
structure agA(n:Nat)(d:DO):Prop where
 fs:d.fs.length<=n
 all:∀f∈d.fs,yu n f
theorem VN{n:Nat}{d:DO}{o:bV.OP}(h:agA n d):agA (n+1) (Bn d o):=by
 unfold Bn;split
 .refine ⟨?_,fun f hf=>?_⟩
  .have:=YE (cO o) (Gc o) o d.fs;have:=h.fs;show(Ig (cO o) (Gc o) o d.fs).length<=n+1;omega
  .rcases OQ hf with hf|⟨y,hy,rfl⟩
   .exact (h.all f hf).mono zO
   .refine acR ?_;rcases hy with hy|rfl
    .exact h.all y hy
    .exact ⟨Nat.zero_le _,Nat.zero_le _,Nat.zero_le _⟩
 .exact ⟨Nat.zero_le _,fun f hf=>by cases hf⟩
theorem GA{l:List Sq.CE}{c:Sq.CE}(h:Sq.kQ l)(hc:Sq.Cu c):Sq.kQ (Sq.rU l c):=by
 unfold Sq.rU;split
 .exact fun _ h=>by cases h
 .split
  .exact fun _ h=>by cases h
  .exact (h.HV hc).ord
theorem agB{o:bV.OP}{f:FD}(ho:bV.Fw o)(h:Sq.kQ f.ce):Sq.kQ (ef1 o f).ce:=by
 unfold ef1;split
 .exact GA h (aec ho)
 .exact h
theorem acS{l:List Sq.CE}{a b c:Int}(h:Sq.kQ l):Sq.kQ (Sq.Ez l a b c):=by
 unfold Sq.Ez;split
 .exact fun _ h=>by cases h
 .split
  .rename_i j _;intro x hx;obtain⟨i,hi,rfl⟩:=mem_iff_getElem.1 hx;unfold Sq.mY at hi |-;rw[length_modify]at hi;have:=h _ (getElem_mem hi);rw[getElem_modify];split
   .exact this
   .exact this
  .exact fun _ h=>by cases h
theorem agC{o:bV.OP}{f:FD}(h:Sq.kQ f.ce):Sq.kQ (ef2 o f).ce:=by
 unfold ef2;split
 .exact acS h
 .exact h
theorem VO{l:List Sq.CE}{j:Nat}(h:Sq.kQ l):Sq.kQ (Sq.mY l j):=fun x hx=>by
 obtain⟨i,hi,rfl⟩:=mem_iff_getElem.1 hx;unfold Sq.mY at hi |-;rw[length_modify]at hi;have:=h _ (getElem_mem hi);rw[getElem_modify];split
 .exact this
 .exact this
theorem Uf{a b c:Int}:∀{n k:Nat}{l r:List Sq.CE},Tx.vY a b c n k l=some r->Sq.kQ l->Sq.kQ r
 |0,_,_,_,h,ho=>by simp only[Tx.vY,Option.some.injEq]at h;exact h▸ho
 |n+1,k,l,r,h,ho=>by
  rw[Tx.vY]at h;split at h
  .exact Uf h (VO ho)
  .cases h
theorem ZR{dv sq tm:Int}{s:yP}(h1:Sq.fO dv)(h2:Sq.fO sq):∀(n k:Nat)(i:Sq.ID)(l:List Sq.CE),k+n<=64->Sq.fO i.1->Sq.fO i.2.1->Sq.fO i.2.2->Sq.kQ l->(Tx.TI dv sq tm s n k i l).1.length<=l.length+n/\Sq.kQ (Tx.TI dv sq tm s n k i l).1
 |0,_,_,_,_,_,_,_,h=>⟨Nat.le_refl _,h⟩
 |n+1,k,i,l,hk,a,b,c,h=>by
  rw[Tx.TI];split
  .exact ⟨Nat.zero_le _,nofun⟩
  .have hq:Sq.fO (k:Int):=by unfold Sq.fO;omega
   obtain⟨p,q⟩:=ZR h1 h2 n (k+1) (dv,sq,(k:Int)) (Sq.rU l (Tx.U9 dv sq tm k i s)) zO h1 h2 hq (GA h ⟨⟨h1,h2,hq⟩,a,b,c⟩);exact⟨by have:=Sq.Ib l (Tx.U9 dv sq tm k i s);omega,q⟩
structure Bg(n m:Nat)(t:Tx.TE):Prop where
 tc:t.cells.length<=n
 tm:t.bQ.length<=m
 ok:Tx.OkT t
theorem Nh(n m:Nat):Bg n m Tx.zT:=⟨Nat.zero_le _,Nat.zero_le _,⟨(fun _ h=>by cases h),(fun _ h=>by cases h)⟩⟩
theorem agD{n m:Nat}{t:Tx.TE}{dv sq tm:Int}{i:Sq.ID}{s:yP}(h1:Sq.fO dv)(h2:Sq.fO sq)(a:Sq.fO i.1)(b:Sq.fO i.2.1)(c:Sq.fO i.2.2)(h:Bg n m t):Bg (n+64) (m+1) (Tx.Ve t dv sq tm i s).1:=by
 unfold Tx.Ve;split
 .exact Nh _ _
 split
 .exact Nh _ _
 .rename_i hs;obtain⟨p,q⟩:=ZR (s:=s) (tm:=tm) h1 h2 s.size 0 i t.cells zO a b c h.ok.cells;have:=h.tc;split
  .exact ⟨by show(Tx.TI dv sq tm s s.size 0 i t.cells).1.length<=_;omega,Nat.le_succ_of_le h.tm,⟨q,h.ok.bQ⟩⟩
  .exact Nh _ _
theorem agE{n m:Nat}{t:Tx.TE}{i:Sq.ID}{k:Int}(h:Bg n m t):Bg (n+64) (m+1) (Tx.Vg t i k).1:=by
 unfold Tx.Vg;split
 .exact Nh _ _
 split
 .exact Nh _ _
 split
 .rename_i l hl;have:=h.tc;exact⟨by have:=Tx.Ie hl;show l.length<=_;omega,Nat.le_succ_of_le h.tm,⟨Uf hl h.ok.cells,h.ok.bQ⟩⟩
 .exact Nh _ _
theorem agF{n m:Nat}{t:Tx.TE}{x:Tx.MK}(hx:Tx.OkM x)(h:Bg n m t):Bg (n+64) (m+1) (Tx.Vk t x).1:=by
 unfold Tx.Vk;split
 .exact Nh _ _
 split
 .exact Nh _ _
 split
 .exact Nh _ _
 .have:=Tx.Mv x t.bQ;have h2:=h.tm;refine⟨Nat.le_trans h.tc zO,?_,⟨h.ok.cells,fun y hy=>?_⟩⟩
  .simp;omega
  .simp only[yI,mem_singleton]at hy;rcases hy with(hy|rfl)|hy
   .exact h.ok.bQ y (mem_of_mem_take hy)
   .exact hx
   .exact h.ok.bQ y (mem_of_mem_drop hy)
theorem RZ{n m:Nat}{f:FD}{r:Tx.TE×Int}(h:Bg n m (Gb f))(hr:Bg (n+64) (m+1) r.1):Bg (n+64) (m+1) (Gb (MB f r)):=by
 unfold MB;split
 .exact hr
 .exact ⟨Nat.le_trans h.tc zO,Nat.le_succ_of_le h.tm,h.ok⟩
theorem akX{o:bV.OP}(h:bV.Fw o):Tx.OkM (mkO o):=⟨h.dv,h.sq,h.tm,h.f1,h.f2,h.f3,h.t1,h.t2,h.t3,h.n⟩
theorem agG(o:bV.OP)(f:FD):Gb (ef1 o f)=Gb f:=by grind[ef1]
theorem agH(o:bV.OP)(f:FD):Gb (ef2 o f)=Gb f:=by grind[ef2]
theorem ZT(o:bV.OP)(f:FD):Gb (ef3 o f)=Gb f/\(ef3 o f).ce=f.ce:=by grind[ef3]
theorem ZU(o:bV.OP)(f:FD):Gb (ef4 o f)=Gb f/\(ef4 o f).ce=f.ce:=by grind[ef4]
theorem ZV(o:bV.OP)(f:FD):Gb (ef5 o f)=Gb f/\(ef5 o f).ce=f.ce:=by grind[ef5]
theorem Ni(f:FD)(r:Tx.TE×Int):(MB f r).ce=f.ce:=by grind[MB]
theorem Bg.up{n m:Nat}{t:Tx.TE}(h:Bg n m t):Bg (n+64) (m+1) t:=⟨Nat.le_trans h.tc zO,Nat.le_succ_of_le h.tm,h.ok⟩
theorem aeA{n m:Nat}{o:bV.OP}{f:FD}(ho:bV.Fw o)(h:Bg n m (Gb f))(hc:Sq.kQ f.ce):Bg (n+64) (m+1) (Gb (Gc o f))/\Sq.kQ (Gc o f).ce:=by
 unfold Gc;split
 .exact ⟨agG o f▸h.up,agB ho hc⟩
 split
 .exact ⟨agH o f▸h.up,agC hc⟩
 split
 .exact ⟨(ZT o f).1▸h.up,(ZT o f).2▸hc⟩
 split
 .exact ⟨(ZU o f).1▸h.up,(ZU o f).2▸hc⟩
 split
 .exact ⟨(ZV o f).1▸h.up,(ZV o f).2▸hc⟩
 split
 .exact ⟨RZ h (agD ho.dv ho.sq ho.f1 ho.f2 ho.f3 h),by unfold ef6;rw[Ni];exact hc⟩
 split
 .grind [RZ,agE,ef7,Ni]
 .grind [RZ,agF,akX,ef8,Ni]
theorem VP(v:List D)(x:D):(uK v [x]).length<=v.length+1:=by
 unfold uK;split
 .exact KE _ _
 .exact Nat.zero_le _
structure SmD(n:Nat)(d:DO):Prop where
 few:agA n d
 sn:d.sn.length<=n
 tx:∀f∈d.fs,Bg (64*n) n (Gb f)/\Sq.kQ f.ce
theorem aeB(n:Nat):SmD n ⟨[],[]⟩:=⟨⟨Nat.zero_le _,nofun⟩,Nat.zero_le _,nofun⟩
theorem ZW{n:Nat}{d:DO}{o:bV.OP}(ho:bV.Fw o)(h:SmD n d):SmD (n+1) (Bn d o):=by
 refine⟨VN h.few,?_,?_⟩
 .unfold Bn;split
  .have:=VP d.sn (o.dv,o.sq);have:=h.sn;show(uK d.sn [(o.dv,o.sq)]).length<=n+1;omega
  .exact Nat.zero_le _
 .unfold Bn;have e:64*(n+1)=64*n+64:=zO
  rw[e];split
  .intro f hf;rcases OQ hf with hf|⟨y,hy,rfl⟩
   .exact ⟨(h.tx f hf).1.up,(h.tx f hf).2⟩
   .rcases hy with hy|rfl
    .exact aeA ho (h.tx y hy).1 (h.tx y hy).2
    .exact aeA ho ⟨Nat.zero_le _,Nat.zero_le _,(Yx o).tx⟩ (Yx o).ce
  .simp
theorem SmD.dim{n:Nat}{d:DO}(h:SmD n d)(hn:n<=10000):Dim d/\∀x∈d.fs,x.ce.length<=999999:=by
 refine⟨⟨by have:=h.sn;omega,by have:=h.few.fs;omega,fun f hf=>?_,fun f hf=>?_⟩,fun f hf=>by have:=(h.few.all f hf).ce;omega⟩
 .have a:=h.few.all f hf;have b:=(h.tx f hf).1;have h1:=a.ce;have h2:=a.bi;have h3:=a.ta;have h4:f.tc.length<=64*n:=b.tc;have h5:f.tm.length<=n:=b.tm;exact⟨zO,zO,zO,zO,zO⟩
 .have b:=h.tx f hf;have h4:f.tc.length<=64*n:=b.1.tc;have h5:f.tm.length<=n:=b.1.tm;exact⟨b.2,b.1.ok,⟨by show f.tc.length<=_;omega,by show f.tm.length<=_;omega⟩⟩
end Go.Dc
namespace Go.Dc
open Go Go.Am Go.Proofs Go.eY Go.bH
theorem arL{f:FD}{v:List D}(h:f.pk=1):U6 f v=true↔Sq.jg f.ce=0/\(∀x∈f.ce,cZ v (dtc x)=true)/\f.bi.length+f.ta.length+f.tc.length+f.tm.length=0/\f.pn.size<=64:=by simp[U6,h,and_assoc]
theorem arM{f:FD}{v:List D}(h:f.pk=2):U6 f v=true↔Bd.jg f.bi=0/\(∀x∈f.bi,cZ v (dtb x)=true)/\f.ce.length+f.ta.length+f.tc.length+f.tm.length=0/\f.pn.size<=64:=by simp[U6,h,and_assoc]
theorem asb{f:FD}{v:List D}(h:f.pk=3):U6 f v=true↔vC f.ta=0/\(∀x∈f.ta,cZ v (dtt x)=true)/\f.ce.length+f.bi.length+f.tc.length+f.tm.length=0/\f.pn.size<=64:=by simp[U6,h,and_assoc]
theorem arC{f:FD}{v:List D}(h:f.pk=4):U6 f v=true↔Tx.vC ⟨f.tc,f.tm⟩=0/\(∀x∈f.tc,cZ v (dtc x)=true)/\(∀x∈f.tm,cZ v (dtm x)=true)/\f.ce.length+f.bi.length+f.ta.length=0/\f.pn.size<=64:=by simp[U6,h,and_assoc]
theorem asQ{f:FD}{v:List D}(h:U6 f v=true):f.pk=1\/f.pk=2\/f.pk=3\/f.pk=4:=by
 unfold U6 at h;by_cases h1:f.pk=1
 .exact .inl h1
 by_cases h2:f.pk=2
 .exact .inr (.inl h2)
 by_cases h3:f.pk=3
 .exact .inr (.inr (.inl h3))
 by_cases h4:f.pk=4
 .exact .inr (.inr (.inr h4))
 simp[h1,h2,h3,h4]at h
end Go.Dc
namespace Go.bV
open Go Go.Am Go.Proofs Go.eY Go.bH Go.yU
def atN(o:OP):Bool:=decide ((o.cx.length:Int)<=600)&&decide ((o.ky.size:Int)+o.vl.size+o.pn.size<=20000)
theorem aw3(o:OP)(h1:o.ky.size<=1000000000000000)(h2:o.vl.size<=1000000000000000)(h3:o.pn.size<=1000000000000000)(b:Bool)(h:((((↑(length (au (OP.cx o))):Int)<=(600:Int))->(decide ((↑(ByteArray.size (OP.ky o)+ByteArray.size (OP.vl o)+ByteArray.size (OP.pn o)):Int)<=(20000:Int)))=(b))/\((¬(↑(length (au (OP.cx o))):Int)<=(600:Int))->(false)=(b)))):ak P G 38 [op o] [] (aS.ret (Am.bool b)) []:=by
 by_cases c1:((↑(length (au (OP.cx o))):Int)<=(600:Int))
 .have h:=h.1 c1;have e1:=h;exact aA (aF.aI e1) [kt (decide_eq_true c1),kv 14 (show Am.aF (int (IntKind.wrap IntKind.i64 ((↑(ByteArray.size (OP.ky o)):Int)+(↑(ByteArray.size (OP.vl o)):Int)))) (int (↑(ByteArray.size (OP.ky o)+ByteArray.size (OP.vl o)):Int))from(aF.TJ zO zO zO)),kv 19 (show Am.aF (int (IntKind.wrap IntKind.i64 ((↑(ByteArray.size (OP.ky o)+ByteArray.size (OP.vl o)):Int)+(↑(ByteArray.size (OP.pn o)):Int)))) (int (↑(ByteArray.size (OP.ky o)+ByteArray.size (OP.vl o)+ByteArray.size (OP.pn o)):Int))from(aF.TJ zO zO zO))] zQ
 .have h:=h.2 c1;have e1:=h;exact aA (aF.aI e1) [kf (decide_eq_false c1)] zQ
def azI(o:OP):Prop:=o.ky.size<=1000000000000000/\o.vl.size<=1000000000000000/\o.pn.size<=1000000000000000
theorem alz(o:OP)(h:azI o):ak P G 38 [op o] [] (.ret (bool (atN o))) []:=by
 refine aw3 o h.1 h.2.1 h.2.2 _ ⟨fun h1=>?_,fun h1=>?_⟩
 .rw [ay]at h1;simp only[atN,h1,decide_true,Bool.true_and,Int.natCast_add]
 .rw [ay]at h1;simp only[atN,h1,decide_false,Bool.false_and]
end Go.bV
namespace Go.Dc
open Go Go.Am Go.Proofs Go.eY Go.bH
abbrev ltF(x y:FD):Prop:=U7 x.pk y.pk x.pn y.pn<0
theorem ars{v:List D}:∀{l:List FD}{q:Option FD},Xe v q l=true↔(∀f∈l,U6 f v=true)/\l.Pairwise ltF/\∀g,q=some g->∀x∈l,ltF g x
 |[],q=>by simp[Xe]
 |u::l,q=>by
  constructor
  .intro h;have hp:=OO h;have h':=h;simp only[Xe,Bool.and_eq_true]at h';have ih:=(ars (l:=l) (q:=some u)).1 h'.2;refine⟨fun f hf=>?_,hp,fun g e x hx=>?_⟩
   .rcases yH.1 hf with rfl|hf
    .exact h'.1.1
    .exact ih.1 f hf
   .subst e;exact Yy h x hx
  .rintro ⟨h1,h2,h3⟩;have h2':=pairwise_cons.1 h2;simp only[Xe,Bool.and_eq_true];refine⟨⟨h1 u zS,?_⟩,ars.2 ⟨fun f hf=>h1 f (by simp[hf]),h2'.2,fun g e x hx=>by injection e with e;exact e▸h2'.1 x hx⟩⟩;cases q with
   |none=>rfl
   |some g=>exact decide_eq_true (h3 g rfl u zS)
theorem arD{d:DO}:F9 d=0↔Cw d.sn=true/\(∀f∈d.fs,U6 f d.sn=true)/\d.fs.Pairwise ltF:=by
 have hq:=ars (v:=d.sn) (l:=d.fs) (q:=none);unfold F9;constructor
 .intro h;by_cases e:Cw d.sn=true/\Xe d.sn none d.fs=true
  .have k:=hq.1 e.2;exact⟨e.1,k.1,k.2.1⟩
  .rw [yK e]at h;cases h
 .rintro ⟨h1,h2,h3⟩;rw[yL ⟨h1,hq.2 ⟨h2,h3,fun g e=>by cases e⟩⟩]
open Go.yU (CV)
open Go.Sq (CE)
open Go.Bd (BE)
open Go.Tx (MK)
def CF(n:Int):CV:=.mk 1 n .empty []
def wdV(s:yP):CV:=.mk 2 0 s []
def lsV(l:List CV):CV:=.mk 3 0 .empty l
def flV(b:Bool):CV:=CF (if b then 1 else 0)
def ceV(c:CE):CV:=lsV [CF c.dv,CF c.sq,CF c.gU,CF c.ad,CF c.j6,CF c.aa,CF c.tm,wdV c.vl,flV c.gn]
def biV(b:BE):CV:=lsV [wdV b.ky,CF b.dv,CF b.sq,CF b.tm,wdV b.vl]
def taV(t:TL):CV:=lsV [CF t.1,CF t.2.1,CF t.2.2]
def maV(m:MK):CV:=lsV [CF m.dv,CF m.sq,CF m.tm,CF m.fd,CF m.fs,CF m.fa,CF m.td,CF m.ts,CF m.ta,CF m.st,flV m.on]
def dtV(x:D):CV:=lsV [CF x.1,CF x.2]
def coV(f:FD):CV:=if f.pk=1 then lsV (f.ce.map ceV)else if f.pk=2 then lsV (f.bi.map biV)else if f.pk=3 then lsV (f.ta.map taV)else lsV [lsV (f.tc.map ceV),lsV (f.tm.map maV)]
def fdV(f:FD):CV:=lsV [CF f.pk,wdV f.pn,coV f]
def auy(d:DO):CV:=lsV [lsV (d.sn.map dtV),lsV (d.fs.map fdV)]
def nth(v:CV)(i:Nat):CV:=v.l.getD i (.mk 0 0 .empty [])
def ceR(v:CV):CE:=⟨(nth v 0).n,(nth v 1).n,(nth v 2).n,(nth v 3).n,(nth v 4).n,(nth v 5).n,(nth v 6).n,(nth v 7).s,decide ((nth v 8).n=1)⟩
def biR(v:CV):BE:=⟨(nth v 0).s,(nth v 1).n,(nth v 2).n,(nth v 3).n,(nth v 4).s⟩
def taR(v:CV):TL:=((nth v 0).n,(nth v 1).n,(nth v 2).n)
def maR(v:CV):MK:=⟨(nth v 0).n,(nth v 1).n,(nth v 2).n,(nth v 3).n,(nth v 4).n,(nth v 5).n,(nth v 6).n,(nth v 7).n,(nth v 8).n,(nth v 9).n,decide ((nth v 10).n=1)⟩
def dtR(v:CV):D:=((nth v 0).n,(nth v 1).n)
def fdR(v:CV):FD :=
 ⟨(nth v 0).n,(nth v 1).s,if (nth v 0).n=1 then (nth v 2).l.map ceR else [],if (nth v 0).n=2 then (nth v 2).l.map biR else [],if (nth v 0).n=3 then (nth v 2).l.map taR else [],
   if(nth v 0).n=4 then(nth (nth v 2) 0).l.map ceR else[],if(nth v 0).n=4 then(nth (nth v 2) 1).l.map maR else[]⟩
def avJ(v:CV):DO:=⟨(nth v 0).l.map dtR,(nth v 1).l.map fdR⟩
theorem aA2(b:Bool):decide ((flV b).n=1)=b:=by cases b<;>rfl
theorem aBy(c:CE):ceR (ceV c)=c:=by
 have:=aA2 c.gn;cases c;unfold ceR;simp only[Sq.CE.mk.injEq];exact⟨rfl,rfl,rfl,rfl,rfl,rfl,rfl,rfl,this⟩
theorem aBQ(b:BE):biR (biV b)=b:=rfl
theorem aBR(t:TL):taR (taV t)=t:=rfl
theorem aBS(m:MK):maR (maV m)=m:=by
 have:=aA2 m.on;cases m;unfold maR;simp only[Tx.MK.mk.injEq];exact⟨rfl,rfl,rfl,rfl,rfl,rfl,rfl,rfl,rfl,rfl,this⟩
theorem aBT(x:D):dtR (dtV x)=x:=rfl
theorem awF{α β:Type}{f:α->β}{g:β->α}(h:∀x,g (f x)=x)(l:List α):(l.map f).map g=l:=by
 rw[map_map];exact(map_congr_left fun x _=>h x).trans (map_id l)
theorem aBU{f:FD}{v:List D}(h:U6 f v=true):fdR (fdV f)=f:=by
 have nl:∀{α:Type}{l:List α},l.length=0->l=[]:=fun h=>length_eq_zero_iff.1 h;obtain⟨pk,pn,ce,bi,ta,tc,tm⟩:=f;rcases asQ h with e|e|e|e<;>simp only at e<;>subst e
 .have k:=((arL rfl).1 h).2.2.1;simp only at k;have z1:bi=[]:=nl zO;have z2:ta=[]:=nl zO;have z3:tc=[]:=nl zO;have z4:tm=[]:=nl zO;subst z1 z2 z3 z4;show(⟨1,pn,(ce.map ceV).map ceR,[],[],[],[]⟩:FD)=_;rw[awF aBy]
 .have k:=((arM rfl).1 h).2.2.1;simp only at k;have z1:ce=[]:=nl zO;have z2:ta=[]:=nl zO;have z3:tc=[]:=nl zO;have z4:tm=[]:=nl zO;subst z1 z2 z3 z4;show(⟨2,pn,[],(bi.map biV).map biR,[],[],[]⟩:FD)=_;rw[awF aBQ]
 .have k:=((asb rfl).1 h).2.2.1;simp only at k;have z1:ce=[]:=nl zO;have z2:bi=[]:=nl zO;have z3:tc=[]:=nl zO;have z4:tm=[]:=nl zO;subst z1 z2 z3 z4;show(⟨3,pn,[],[],(ta.map taV).map taR,[],[]⟩:FD)=_;rw[awF aBR]
 .have k:=((arC rfl).1 h).2.2.2.1;simp only at k;have z1:ce=[]:=nl zO;have z2:bi=[]:=nl zO;have z3:ta=[]:=nl zO;subst z1 z2 z3;show(⟨4,pn,[],[],[],(tc.map ceV).map ceR,(tm.map maV).map maR⟩:FD)=_;rw[awF aBy,awF aBS]
theorem aAu{d:DO}(h:F9 d=0):avJ (auy d)=d:=by
 have hf:=(arD.1 h).2.1;have h1:(nth (auy d) 0).l.map dtR=d.sn:=awF aBT _;have h2:(nth (auy d) 1).l.map fdR=d.fs:=by
  show(d.fs.map fdV).map fdR=d.fs;rw[map_map];exact(map_congr_left fun x hx=>aBU (hf x hx)).trans (map_id _)
 unfold avJ;rw[h1,h2]
theorem aA3{d e:DO}(h:F9 d=0)(k:F9 e=0)(q:auy d=auy e):d=e:=by rw[<- aAu h,q,aAu k]
end Go.Dc
namespace Go.Dc
open Go Go.Am Go.Proofs Go.eY Go.bH
open Go.bV (OP op)
open Go.yU (CV rR val Cy iB fA)
theorem aCI(n:Int)(h:True):Cq 55 [int n] (rR 1 n ByteArray.empty []):=by
 have _:=h;exact ak.out ((show Cq 55 [int n] (.agg [int 1,int n,str (ByteArray.mk #[]),aK])from aj [])) (aF.qo ⟨aF.refl _,aF.refl _,aF.refl _,(aF.nil _),yO⟩)
theorem aCJ(s:yP)(h:True):Cq 56 [str s] (rR 2 0 s []):=by
 have _:=h;exact ak.out ((show Cq 56 [str s] (.agg [int 2,int 0,str s,aK])from aj [])) (aF.qo ⟨aF.refl _,aF.refl _,aF.refl _,(aF.nil _),yO⟩)
theorem azd(t:Bool)(xs:List (List AV))(h:True):Cq 53 [.sl 4 t xs] (.agg [int 3,int 0,str ByteArray.empty,.sl 4 false xs]):=by
 have _:=h;exact ak.out ((show Cq 53 [.sl 4 t xs] (.agg [int 3,int 0,str (ByteArray.mk #[]),.sl 4 t xs])from aj [])) (aF.qo ⟨aF.refl _,aF.refl _,aF.refl _,(aF.oP _ _ _),yO⟩)
theorem aze  (h:True):Cq 53 [aK] (.agg [int 3,int 0,str ByteArray.empty,aK]):=by
 have _:=h;exact aj []
theorem aAv(n:Int):Cq 55 [int n] (rR 1 n .empty []):=aCI n trivial
theorem aBw(s:yP):Cq 56 [str s] (rR 2 0 s []):=aCJ s trivial
theorem azf(t:Bool)(xs:List (List AV)):Cq 53 [.sl 4 t xs] (.agg [int 3,int 0,str .empty,.sl 4 false xs]):=azd t xs trivial
theorem aw6:Cq 53 [aK] (.agg [int 3,int 0,str .empty,aK]):=aze trivial
def azK:List AV:=[int 0,int 0,str .empty,aK]
def azL:List AV:=[int 3,int 0,str .empty,aK]
def a0S(f:AV)(s k:Nat)(xs:List (List AV)):St:={ aL:=aC 25 [(1,f),(4,.ptr 0 0),(5,.ptr 1 0),(9,.sl s false xs),(10,int xs.length),(11,int k)],H:=[.box azK,.box azL] }
theorem aye(f:AV)(h:True):Rq 0 73 0 (a0S f 2 0 []) (bF.exit 0) (sM 25 [(4,.ptr 0 0),(5,.ptr 1 0)] [.box azK,.box azL]):=by
 have _:=h;exact aG [kY] (aB 25 [4,5]) 2
theorem ayC  (h:True):Cq 73 [bB [],gP 74] (.agg azL):=by
 have _:=h;exact aj [kc [] (@aw6 ),kl (rG [(0,1),(2,2),(6,3),(12,13)]) 2 (@aye (iL 74) (trivial))]
theorem ayf(f:AV)(h:True):Rq 0 76 0 (a0S f 7 0 []) (bF.exit 0) (sM 25 [(4,.ptr 0 0),(5,.ptr 1 0)] [.box azK,.box azL]):=by
 have _:=h;exact aG [kY] (aB 25 [4,5]) 2
theorem ayD  (h:True):Cq 76 [Md [],gP 77] (.agg azL):=by
 have _:=h;exact aj [kc [] (@aw6 ),kl (rG [(0,1),(2,2),(6,3),(12,13)]) 2 (@ayf (iL 77) (trivial))]
theorem aCK(d:DO)(e:Int)(he:¬e=0)(hC:Cq 17 [kI d] (int e))(h:True):Cq 21 [kI d] (.bq [aK,int e]):=by
 have _:=h;exact aj [kc [] hC,kt (show(e != 0)=true from(yJ Bool.not (qF zO)))]
theorem azg(d:DO)(s f:List CV)(b:List UInt8)(e:Int)(hC:Cq 17 [kI d] (int 0))(hs:Cq 73 [bB d.sn,gP 74] (rR 3 0 .empty s))(hf:Cq 76 [Md d.fs,gP 77] (rR 3 0 .empty f))(hE:Cq 37 [rR 3 0 .empty [lsV s,lsV f]] (.bq [Cy b,int e]))(h:True):Cq 21 [kI d] (.bq [Cy b,int e]):=by
 have _:=h;exact aj [kc [] hC,kY,kc [] hs,kc [] hf,kc [] (@azf (true) ([[int 3,int 0,str ByteArray.empty,AV.sl 4 false (iB s)],[int 3,int 0,str ByteArray.empty,AV.sl 4 false (iB f)]])),kc [] hE]
def rdX(d:DO):St:={ aL:=aC 50 [(2,.ptr 1 0)],H:=[.box [bB d.sn,Md d.fs],.box azL] }
def rd0(d:DO)(k:Nat):St:={ aL:=aC 50 [(2,.ptr 1 0),(17,Md d.fs),(18,int d.fs.length),(19,int k)],H:=[.box [bB d.sn,Md d.fs],.box azL] }
theorem azh(d:DO)(hk:¬(0:Int)<(d.fs.length:Int))(h:True):Rq 0 15 0 (rd0 d 0) (bF.exit 0) (rdX d):=by
 have _:=h;exact aG [kj ((0:Int)<(↑(length d.fs):Int))] (aB 50 [2]) 2
theorem apv(d:DO)(hC:Cq 17 [kI d] (int 0))(hL:Rq 0 15 0 (rd0 d 0) (.exit 0) (rdX d))(h:True):Cq 15 [kI d] (.bq [.agg azL,int 0]):=by
 have _:=h;exact aj [kc [] hC,kY,kc [] (@aw6 ),kN 18 (fE d.fs),kl (rG [(0,2),(3,14),(20,30)]) 2 hL]
theorem azi(e:Int)(he:¬e=0)(b:List UInt8)(v:CV)(hC:Cq 82 [Cy b] (.bq [val v,int e]))(h:True):Cq 23 [Cy b] (.bq [Rf,int e]):=by
 have _:=h;exact aj [kc [] hC,kt (show(e != 0)=true from(yJ Bool.not (qF zO)))]
def ayE(a b c:Int)(s t:yP):OP:=⟨a,b,c,[],1,s,1,0,0,0,0,0,0,.empty,t,0,false⟩
theorem ayF(a b c:Int)(s t:yP)(h:True):Cq 36 [int a,int b,int c,str s,str t] (op (ayE a b c s t)):=by
 have _:=h;exact ak.out ((show Cq 36 [int a,int b,int c,str s,str t] (.agg [int a,int b,int c,aK,int 1,str s,int 1,int 0,int 0,int 0,int 0,int 0,int 0,str (ByteArray.mk #[]),str t,int 0,Am.bool false])from aj [])) (aF.qo ⟨aF.refl _,aF.refl _,aF.refl _,(aF.nil _),aF.refl _,aF.refl _,aF.refl _,aF.refl _,aF.refl _,aF.refl _,aF.refl _,aF.refl _,aF.refl _,aF.refl _,aF.refl _,aF.refl _,aF.refl _,yO⟩)
end Go.Dc
namespace Go.Dc
open Go Go.Am Go.Proofs Go.eY Go.bH
open Go.bV (OP op jy)
open Go.yU (CV rR Cy val)
def erO:OP:=⟨2,1,2,[(1,1)],1,⟨#[98]⟩,2,1,1,0,0,0,0,.empty,.empty,0,false⟩
def zoO:OP:=⟨0,0,0,[],0,.empty,0,0,0,0,0,0,0,.empty,.empty,0,false⟩
abbrev iOc:OP:=ayE 1 1 1 ⟨#[97]⟩ ⟨#[118]⟩
def erL:List AV:=[int 2,int 1,int 2,.sl 2 true [[int 1,int 1]],int 1,str ⟨#[98]⟩,int 2,int 1,int 1,int 0,int 0,int 0,int 0,str .empty,str .empty,int 0,Am.bool false]
def zoL:List AV:=[int 0,int 0,int 0,aK,int 0,str .empty,int 0,int 0,int 0,int 0,int 0,int 0,int 0,str .empty,str .empty,int 0,Am.bool false]
def baL:AV:=.agg [.sl 2 true [[int (-1),int 0]],aK]
theorem ayg(x y:DO)(f1 g1 g2:FD)(hx:x.fs[0]?=some f1)(hy:y.fs[1]?=some g2)(lx:x.fs.length=1)(ly:y.fs.length=2)(lc:f1.ce.length=1)(lg:g2.ce.length=0)(ls:y.sn.length=2)(b:List UInt8)(c1:Cq 36 [int 1,int 1,int 1,str ⟨#[97]⟩,str ⟨#[118]⟩] (op iOc))(a1:Cq 12 [Rf,op iOc] (.bq [kI x,int 0]))(a2:Cq 12 [kI x,.agg erL] (.bq [kI y,int 0]))(a3:Cq 12 [Rf,.agg erL] (.bq [Rf,int 181]))(a4:Cq 12 [kI x,op iOc] (.bq [Rf,int 182]))(a5:Cq 12 [Rf,.agg zoL] (.bq [Rf,int 170]))(r:Cq 15 [Rf] (.bq [rR 3 0 .empty [],int 0]))(e:Cq 21 [Rf] (.bq [Cy b,int 0]))(ce:Cq 37 [.agg [int 3,int 0,str .empty,.sl 4 true [[int 3,int 0,str .empty,aK],[int 3,int 0,str .empty,aK]]]] (.bq [Cy b,int 0]))(d:Cq 23 [aK] (.bq [Rf,int 10]))(a6:Cq 12 [baL,.agg zoL] (.bq [Rf,int 180]))(o:Cq 25 [.agg zoL] (int 170))(s:Cq 20 [rR 3 0 .empty [],.agg [int 3,int 0,str .empty,aK]] (Am.bool true))(k1:Cq 17 [Rf] (int 0))(k2:Cq 17 [baL] (int 180))(m1:Cq 19 [kI x,kI x] (Am.bool true))(m2:Cq 19 [kI x,kI y] (Am.bool false))(h:((((ByteArray.toList (ByteArray.mk (toArray b))==ByteArray.toList (ByteArray.mk (toArray b)))=true)->True)/\(((ByteArray.toList (ByteArray.mk (toArray b))==ByteArray.toList (ByteArray.mk (toArray b)))=false)->(false)=(true)))):Cq 10 [] (Am.bool true):=by
 have aln:yU.jl b=List.map (fun(c:UInt8)=>[AV.lit (Value.int IntKind.u8 (↑(UInt8.toNat c):Int))]) (Array.toList (Array.mk b)):=(rfl);let l1:List fP:=[kc [] c1,kc [] a1,kc [] a2,kc [] a3,kc [] c1,kc [] a4,kc [] a5,kc [] r,kc [] e,kc [] ce,kc [] d,kc [] a6,kO,kN 98 (fE x.fs),kt (show((↑(length x.fs):Int)==1)=true from(qT zO)),ke (jB f1) (dA x.fs) (0:Int) (bG hx),kv 107 (show Am.aF (int (↑(length (Sq.au f1.ce)):Int)) (int ↑(length f1.ce))from(aF.of_eq (by simp only[Go.Sq.ay]))),kt (show((↑(length f1.ce):Int)==1)=true from(qT zO)),kO,kN 117 (fE y.fs),kt (show((↑(length y.fs):Int)==2)=true from(qT zO)),ke (jB g2) (dA y.fs) (1:Int) (bG hy),kv 126 (show Am.aF (int (↑(length (Sq.au g2.ce)):Int)) (int ↑(length g2.ce))from(aF.of_eq (by simp only[Go.Sq.ay]))),kt (show((↑(length g2.ce):Int)==0)=true from(qT zO)),kN 132 (Go.bH.ay y.sn),kt (show((↑(length y.sn):Int)==2)=true from(qT zO)),kO,kO,kO,kc [] o,kO,kO,kc [] s,kO,kO,kO,ko (bC.bytes (ByteArray.mk (toArray b))),ko (bC.bytes (ByteArray.mk (toArray b))),kp aln,kp aln];rcases Bool.eq_false_or_eq_true ((ByteArray.toList (ByteArray.mk (toArray b))==ByteArray.toList (ByteArray.mk (toArray b))))with c6|c6
 .have h:=h.1 c6;have _:=h;exact aj (l1++[kt c6,kO,kO,kc [] k1,kO,kc [] k2,kO,kc [] m1,kO,kc [] m2])
 .have h:=h.2 c6;exact aA (aF.aI h) (l1++[kf c6,kY,kY,kY,kY,kY])
end Go.Dc
namespace Go.Dc
open Go Go.Am Go.Proofs Go.eY Go.bH
open Go.yU (CV rR val Cy jl iB fA)
theorem aCL(d o:DO)(raw:List UInt8)(hS:Cq 10 [] (Am.bool true))(h1:Cq 11 [kI d,aK] (Am.bool false))(h:True):Cq 8 [kI d,kI o,Cy raw] (Am.bool true):=by
 have _:=h;exact aj [kc [] hS,kY,kc [] h1,kO,kO,kO]
theorem aCM(d o:DO)(raw:List UInt8)(hS:Cq 10 [] (Am.bool true))(h1:Cq 11 [kI d,aK] (Am.bool true))(h2:Cq 11 [kI o,aK] (Am.bool false))(h:True):Cq 8 [kI d,kI o,Cy raw] (Am.bool true):=by
 have _:=h;exact aj [kc [] hS,kY,kc [] h1,kY,kc [] h2,kO,kO]
theorem aCN(d o:DO)(raw:List UInt8)(hr:raw.length<=9223372036854775807)(hl:(raw.length:Int)>2000)(hS:Cq 10 [] (Am.bool true))(h1:Cq 11 [kI d,aK] (Am.bool true))(h2:Cq 11 [kI o,aK] (Am.bool true))(h:True):Cq 8 [kI d,kI o,Cy raw] (Am.bool true):=by
 have _:=h;exact aj [kc [] hS,kY,kc [] h1,kY,kc [] h2,kY,kN 29 (Go.yU.eu raw),ki ((raw.length:Int)>2000)]
theorem aBV(d o:DO)(raw:List UInt8)(hr:raw.length<=2000)(hS:Cq 10 [] (Am.bool true))(h1:Cq 11 [kI d,aK] (Am.bool true))(h2:Cq 11 [kI o,aK] (Am.bool true))(x c:List UInt8)(e f:Int)(he:¬e=0)(hE:Cq 21 [kI d] (.bq [Cy x,int e]))(hF:Cq 21 [kI o] (.bq [Cy c,int f]))(hK:Cq 17 [kI d] (int e))(g:Int)(hg:¬g=0)(hR:Cq 23 [Cy raw] (.bq [kI ⟨[],[]⟩,int g]))(h:(((((e==0)==(e==0))=true)->True)/\((((e==0)==(e==0))=false)->(false)=(true)))):Cq 8 [kI d,kI o,Cy raw] (Am.bool true):=by
 let l1:List fP:=[kc [] hS,kY,kc [] h1,kY,kc [] h2,kY,kN 29 (Go.yU.eu raw),kj ((raw.length:Int)>2000),kc [] hE,kc [] hF,kc [] hK];rcases Bool.eq_false_or_eq_true (((e==0)==(e==0)))with c2|c2
 .have h:=h.1 c2;have _:=h;exact aj (l1++[kf (show(!(e==0)==(e==0))=false from(yJ Bool.not (c2))),kf (show(e==0)=false from(qF zO)),kc [] hR,kt (show(g != 0)=true from(yJ Bool.not (qF zO))),kO])
 .have h:=h.2 c2;exact aA (aF.aI h) (l1++[kt (show(!(e==0)==(e==0))=true from(yJ Bool.not (c2)))])
theorem aBW(d o:DO)(raw:List UInt8)(hr:raw.length<=2000)(hS:Cq 10 [] (Am.bool true))(h1:Cq 11 [kI d,aK] (Am.bool true))(h2:Cq 11 [kI o,aK] (Am.bool true))(x c:List UInt8)(e f:Int)(he:¬e=0)(hE:Cq 21 [kI d] (.bq [Cy x,int e]))(hF:Cq 21 [kI o] (.bq [Cy c,int f]))(hK:Cq 17 [kI d] (int e))(y:DO)(hR:Cq 23 [Cy raw] (.bq [kI y,int 0]))(hG:Cq 21 [kI y] (.bq [Cy raw,int 0]))(h:(((((e==0)==(e==0))=true)->(ByteArray.toList (ByteArray.mk (toArray raw))==ByteArray.toList (ByteArray.mk (toArray raw)))=(true))/\((((e==0)==(e==0))=false)->(false)=(true)))):Cq 8 [kI d,kI o,Cy raw] (Am.bool true):=by
 have M8:jl raw=List.map (fun(c:UInt8)=>[AV.lit (Value.int IntKind.u8 (↑(UInt8.toNat c):Int))]) (Array.toList (Array.mk raw)):=(rfl);let l1:List fP:=[kc [] hS,kY,kc [] h1,kY,kc [] h2,kY,kN 29 (Go.yU.eu raw),kj ((raw.length:Int)>2000),kc [] hE,kc [] hF,kc [] hK];rcases Bool.eq_false_or_eq_true (((e==0)==(e==0)))with c2|c2
 .have h:=h.1 c2;exact aA (aF.aI h) (l1++[kf (show(!(e==0)==(e==0))=false from(yJ Bool.not (c2))),kf (show(e==0)=false from(qF zO)),kc [] hR,kY,kc [] hG,kO,ko (bC.bytes (ByteArray.mk (toArray raw))),ko (bC.bytes (ByteArray.mk (toArray raw))),kp M8,kp M8])
 .have h:=h.2 c2;exact aA (aF.aI h) (l1++[kt (show(!(e==0)==(e==0))=true from(yJ Bool.not (c2)))])
theorem aBX(d o:DO)(raw:List UInt8)(hr:raw.length<=2000)(hS:Cq 10 [] (Am.bool true))(h1:Cq 11 [kI d,aK] (Am.bool true))(h2:Cq 11 [kI o,aK] (Am.bool true))(x c:List UInt8)(f:Int)(hf:¬f=0)(hE:Cq 21 [kI d] (.bq [Cy x,int 0]))(hF:Cq 21 [kI o] (.bq [Cy c,int f]))(hK:Cq 17 [kI d] (int 0))(hD:Cq 23 [Cy x] (.bq [kI d,int 0]))(hT:Cq 19 [kI d,kI d] (Am.bool true))(g:Int)(hg:¬g=0)(hR:Cq 23 [Cy raw] (.bq [kI ⟨[],[]⟩,int g]))(h:True):Cq 8 [kI d,kI o,Cy raw] (Am.bool true):=by
 have _:=h;exact aj [kc [] hS,kY,kc [] h1,kY,kc [] h2,kY,kN 29 (Go.yU.eu raw),kj ((raw.length:Int)>2000),kc [] hE,kc [] hF,kc [] hK,kY,kO,kc [] hD,kY,kc [] hT,kY,kf (show(f==0)=false from(qF zO)),kY,kc [] hR,kt (show(g != 0)=true from(yJ Bool.not (qF zO))),kO]
theorem aBY(d o:DO)(raw:List UInt8)(hr:raw.length<=2000)(hS:Cq 10 [] (Am.bool true))(h1:Cq 11 [kI d,aK] (Am.bool true))(h2:Cq 11 [kI o,aK] (Am.bool true))(x c:List UInt8)(f:Int)(hf:¬f=0)(hE:Cq 21 [kI d] (.bq [Cy x,int 0]))(hF:Cq 21 [kI o] (.bq [Cy c,int f]))(hK:Cq 17 [kI d] (int 0))(hD:Cq 23 [Cy x] (.bq [kI d,int 0]))(hT:Cq 19 [kI d,kI d] (Am.bool true))(y:DO)(hR:Cq 23 [Cy raw] (.bq [kI y,int 0]))(hG:Cq 21 [kI y] (.bq [Cy raw,int 0]))(h:(ByteArray.toList (ByteArray.mk (toArray raw))==ByteArray.toList (ByteArray.mk (toArray raw)))=(true)):Cq 8 [kI d,kI o,Cy raw] (Am.bool true):=by
 have Pk:jl raw=List.map (fun(c:UInt8)=>[AV.lit (Value.int IntKind.u8 (↑(UInt8.toNat c):Int))]) (Array.toList (Array.mk raw)):=(rfl);exact aA (aF.aI h) [kc [] hS,kY,kc [] h1,kY,kc [] h2,kY,kN 29 (Go.yU.eu raw),kj ((raw.length:Int)>2000),kc [] hE,kc [] hF,kc [] hK,kY,kO,kc [] hD,kY,kc [] hT,kY,kf (show(f==0)=false from(qF zO)),kY,kc [] hR,kY,kc [] hG,kO,ko (bC.bytes (ByteArray.mk (toArray raw))),ko (bC.bytes (ByteArray.mk (toArray raw))),kp Pk,kp Pk]
theorem aBZ(d o:DO)(raw:List UInt8)(hr:raw.length<=2000)(hS:Cq 10 [] (Am.bool true))(h1:Cq 11 [kI d,aK] (Am.bool true))(h2:Cq 11 [kI o,aK] (Am.bool true))(x c:List UInt8)(q:Bool)(hE:Cq 21 [kI d] (.bq [Cy x,int 0]))(hF:Cq 21 [kI o] (.bq [Cy c,int 0]))(hK:Cq 17 [kI d] (int 0))(hD:Cq 23 [Cy x] (.bq [kI d,int 0]))(hT:Cq 19 [kI d,kI d] (Am.bool true))(hU:Cq 19 [kI d,kI o] (Am.bool q))(g:Int)(hg:¬g=0)(hR:Cq 23 [Cy raw] (.bq [kI ⟨[],[]⟩,int g]))(h:(((((ByteArray.toList (ByteArray.mk (toArray x))==ByteArray.toList (ByteArray.mk (toArray c)))==q)=true)->True)/\((((ByteArray.toList (ByteArray.mk (toArray x))==ByteArray.toList (ByteArray.mk (toArray c)))==q)=false)->(false)=(true)))):Cq 8 [kI d,kI o,Cy raw] (Am.bool true):=by
 let l1:List fP:=[kc [] hS,kY,kc [] h1,kY,kc [] h2,kY,kN 29 (Go.yU.eu raw),kj ((raw.length:Int)>2000),kc [] hE,kc [] hF,kc [] hK,kY,kO,kc [] hD,kY,kc [] hT,kY,kO,ko (bC.bytes (ByteArray.mk (toArray x))),ko (bC.bytes (ByteArray.mk (toArray c))),kp (show jl x=List.map (fun(c:UInt8)=>[AV.lit (Value.int IntKind.u8 (↑(UInt8.toNat c):Int))]) (Array.toList (Array.mk x))from(rfl)),kp (show jl c=List.map (fun(c:UInt8)=>[AV.lit (Value.int IntKind.u8 (↑(UInt8.toNat c):Int))]) (Array.toList (Array.mk c))from(rfl)),kc [] hU];rcases Bool.eq_false_or_eq_true (((ByteArray.toList (ByteArray.mk (toArray x))==ByteArray.toList (ByteArray.mk (toArray c)))==q))with c2|c2
 .have h:=h.1 c2;have _:=h;exact aj (l1++[kf (show(!(ByteArray.toList (ByteArray.mk (toArray x))==ByteArray.toList (ByteArray.mk (toArray c)))==q)=false from(yJ Bool.not (c2))),kc [] hR,kt (show(g != 0)=true from(yJ Bool.not (qF zO))),kO])
 .have h:=h.2 c2;exact aA (aF.aI h) (l1++[kt (show(!(ByteArray.toList (ByteArray.mk (toArray x))==ByteArray.toList (ByteArray.mk (toArray c)))==q)=true from(yJ Bool.not (c2)))])
theorem aB0(d o:DO)(raw:List UInt8)(hr:raw.length<=2000)(hS:Cq 10 [] (Am.bool true))(h1:Cq 11 [kI d,aK] (Am.bool true))(h2:Cq 11 [kI o,aK] (Am.bool true))(x c:List UInt8)(q:Bool)(hE:Cq 21 [kI d] (.bq [Cy x,int 0]))(hF:Cq 21 [kI o] (.bq [Cy c,int 0]))(hK:Cq 17 [kI d] (int 0))(hD:Cq 23 [Cy x] (.bq [kI d,int 0]))(hT:Cq 19 [kI d,kI d] (Am.bool true))(hU:Cq 19 [kI d,kI o] (Am.bool q))(y:DO)(hR:Cq 23 [Cy raw] (.bq [kI y,int 0]))(hG:Cq 21 [kI y] (.bq [Cy raw,int 0]))(h:(((((ByteArray.toList (ByteArray.mk (toArray x))==ByteArray.toList (ByteArray.mk (toArray c)))==q)=true)->(ByteArray.toList (ByteArray.mk (toArray raw))==ByteArray.toList (ByteArray.mk (toArray raw)))=(true))/\((((ByteArray.toList (ByteArray.mk (toArray x))==ByteArray.toList (ByteArray.mk (toArray c)))==q)=false)->(false)=(true)))):Cq 8 [kI d,kI o,Cy raw] (Am.bool true):=by
 have aal:jl raw=List.map (fun(c:UInt8)=>[AV.lit (Value.int IntKind.u8 (↑(UInt8.toNat c):Int))]) (Array.toList (Array.mk raw)):=(rfl);let l1:List fP:=[kc [] hS,kY,kc [] h1,kY,kc [] h2,kY,kN 29 (Go.yU.eu raw),kj ((raw.length:Int)>2000),kc [] hE,kc [] hF,kc [] hK,kY,kO,kc [] hD,kY,kc [] hT,kY,kO,ko (bC.bytes (ByteArray.mk (toArray x))),ko (bC.bytes (ByteArray.mk (toArray c))),kp (show jl x=List.map (fun(c:UInt8)=>[AV.lit (Value.int IntKind.u8 (↑(UInt8.toNat c):Int))]) (Array.toList (Array.mk x))from(rfl)),kp (show jl c=List.map (fun(c:UInt8)=>[AV.lit (Value.int IntKind.u8 (↑(UInt8.toNat c):Int))]) (Array.toList (Array.mk c))from(rfl)),kc [] hU];rcases Bool.eq_false_or_eq_true (((ByteArray.toList (ByteArray.mk (toArray x))==ByteArray.toList (ByteArray.mk (toArray c)))==q))with c2|c2
 .have h:=h.1 c2;exact aA (aF.aI h) (l1++[kf (show(!(ByteArray.toList (ByteArray.mk (toArray x))==ByteArray.toList (ByteArray.mk (toArray c)))==q)=false from(yJ Bool.not (c2))),kc [] hR,kY,kc [] hG,kO,ko (bC.bytes (ByteArray.mk (toArray raw))),ko (bC.bytes (ByteArray.mk (toArray raw))),kp aal,kp aal])
 .have h:=h.2 c2;exact aA (aF.aI h) (l1++[kt (show(!(ByteArray.toList (ByteArray.mk (toArray x))==ByteArray.toList (ByteArray.mk (toArray c)))==q)=true from(yJ Bool.not (c2)))])
end Go.Dc
namespace Go.Dc
open Go Go.Am Go.Proofs Go.eY Go.bH
open Go.yU (CV rR val Cy iB fA)
theorem aCO(a b:Int)(t:yP)(x:CV)(ys:List CV)(hl:ys.length<=1000000000)(h0:(ys.length:Int)>0)(hx:ys[0]?=some x)(h:[ah.box [int a,int b,str t,AV.sl 4 false (List.drop 1 (List.take (Int.toNat (ys.length:Int)) (iB ys)))]]=[ah.box [int a,int b,str t,AV.sl 4 false (iB (List.drop 1 ys))]]):ak P G 84 [.ptr 0 0] [ah.box [int a,int b,str t,AV.sl 4 false (iB ys)]] (aS.ret (AV.agg [int x.k,int x.n,str x.s,AV.sl 4 false (iB x.l)])) [ah.box [int a,int b,str t,AV.sl 4 false (iB (List.drop 1 ys))]]:=by
 have eH:=h;exact ak.heap ((show ak P G 84 [.ptr 0 0] [ah.box [int a,int b,str t,AV.sl 4 false (iB ys)]] (aS.ret (AV.agg [int x.k,int x.n,str x.s,AV.sl 4 false (iB x.l)])) [ah.box [int a,int b,str t,AV.sl 4 false (List.drop 1 (List.take (Int.toNat (ys.length:Int)) (iB ys)))]]from aj [kN 8 (Go.yU.fA ys),ki ((ys.length:Int)>0),ko (bC.elem (yU.aQ x)),kp (show(0:Int)<=(0:Int)/\(iB ys)[Int.toNat 0]?=some (yU.aQ x)from(by rw[Go.yU.lC];exact bG hx)),kv 23 (show Am.aF (AV.sl 4 false (List.drop 1 (List.take (Int.toNat (↑(length (iB ys)):Int)) (iB ys)))) (AV.sl 4 false (List.drop 1 (List.take (Int.toNat (ys.length:Int)) (iB ys))))from(aF.of_eq (by simp only[Go.yU.fA]))),Ga (1:Int) (↑(length (iB ys)):Int) (↑(length (iB ys)):Int) (by rw[Go.yU.fA];omega)])) eH
theorem aCP(a b:Int)(t:yP)(h:True):ak P G 84 [.ptr 0 0] [ah.box [int a,int b,str t,AV.sl 4 false (iB [])]] (aS.ret (AV.agg azK)) [ah.box [int a,int b,str t,AV.sl 4 false (iB [])]]:=by
 have _:=h;exact aj [kY]
abbrev rb(v:CV)(k:Nat):ah:=.box [int v.k,int v.n,str v.s,.sl 4 false (iB (v.l.drop k))]
theorem aB1(v x:CV)(k:Nat)(hN:ak P G 84 [.ptr 0 0] [rb v k] (.ret (.agg [int x.k,int x.n,str x.s,.sl 4 false (iB x.l)])) [rb v (k+1)])(h:True):ak P G 186 [.ptr 0 0] [rb v k] (aS.ret (int x.n)) [rb v (k+1)]:=by
 have _:=h;exact aj [kc [0] hN]
theorem aB2(v x:CV)(k:Nat)(hN:ak P G 84 [.ptr 0 0] [rb v k] (.ret (.agg [int x.k,int x.n,str x.s,.sl 4 false (iB x.l)])) [rb v (k+1)])(h:True):ak P G 187 [.ptr 0 0] [rb v k] (aS.ret (str x.s)) [rb v (k+1)]:=by
 have _:=h;exact aj [kc [0] hN]
theorem aB3(v:CV)(k:Nat)(x y:Int)(h1:ak P G 186 [.ptr 0 0] [rb v k] (.ret (int x)) [rb v (k+1)])(h2:ak P G 186 [.ptr 0 0] [rb v (k+1)] (.ret (int y)) [rb v (k+1+1)])(h:True):ak P G 85 [.ptr 0 0] [rb v k] (aS.ret (AV.agg [int x,int y])) [rb v (k+1+1)]:=by
 have _:=h;exact aj [kc [0] h1,kc [0] h2]
theorem aqk(v:CV)(k:Nat)(x y z:Int)(h1:ak P G 85 [.ptr 0 0] [rb v k] (.ret (.agg [int x,int y])) [rb v (k+1+1)])(h2:ak P G 186 [.ptr 0 0] [rb v (k+1+1)] (.ret (int z)) [rb v (k+1+1+1)])(h:True):ak P G 262 [.ptr 0 0] [rb v k] (aS.ret (AV.agg [int x,int y,int z])) [rb v (k+1+1+1)]:=by
 have _:=h;exact aj [kc [0] h1,kc [0] h2]
theorem aB4(v:CV)(a b c d e f g h':Int)(s:yP)(h1:ak P G 262 [.ptr 0 0] [rb v 0] (.ret (.agg [int a,int b,int c])) [rb v 3])(h2:ak P G 262 [.ptr 0 0] [rb v 3] (.ret (.agg [int d,int e,int f])) [rb v 6])(h3:ak P G 186 [.ptr 0 0] [rb v 6] (.ret (int g)) [rb v 7])(h4:ak P G 187 [.ptr 0 0] [rb v 7] (.ret (str s)) [rb v 8])(h5:ak P G 186 [.ptr 0 0] [rb v 8] (.ret (int h')) [rb v 9])(h:True):ak P G 189 [.ptr 0 0] [rb v 0] (aS.ret (AV.agg [int a,int b,int c,int d,int e,int f,int g,str s,Am.bool (h'==1)])) [rb v 9]:=by
 have _:=h;exact aj [kc [0] h1,kc [0] h2,kc [0] h3,kc [0] h4,kc [0] h5]
theorem aB5(v:CV)(a b c:Int)(s t:yP)(h1:ak P G 187 [.ptr 0 0] [rb v 0] (.ret (str s)) [rb v 1])(h2:ak P G 85 [.ptr 0 0] [rb v 1] (.ret (.agg [int a,int b])) [rb v 3])(h3:ak P G 186 [.ptr 0 0] [rb v 3] (.ret (int c)) [rb v 4])(h4:ak P G 187 [.ptr 0 0] [rb v 4] (.ret (str t)) [rb v 5])(h:True):ak P G 191 [.ptr 0 0] [rb v 0] (aS.ret (AV.agg [str s,int a,int b,int c,str t])) [rb v 5]:=by
 have _:=h;exact aj [kc [0] h1,kc [0] h2,kc [0] h3,kc [0] h4]
theorem aB6(v:CV)(a b c:Int)(h2:ak P G 85 [.ptr 0 0] [rb v 0] (.ret (.agg [int a,int b])) [rb v 2])(h3:ak P G 186 [.ptr 0 0] [rb v 2] (.ret (int c)) [rb v 3])(h:True):ak P G 193 [.ptr 0 0] [rb v 0] (aS.ret (AV.agg [int a,int b,int c])) [rb v 3]:=by
 have _:=h;exact aj [kc [0] h2,kc [0] h3]
theorem aB7(v:CV)(a b c d e f g h' i j k:Int)(h1:ak P G 85 [.ptr 0 0] [rb v 0] (.ret (.agg [int a,int b])) [rb v 2])(h2:ak P G 186 [.ptr 0 0] [rb v 2] (.ret (int c)) [rb v 3])(h3:ak P G 262 [.ptr 0 0] [rb v 3] (.ret (.agg [int d,int e,int f])) [rb v 6])(h4:ak P G 262 [.ptr 0 0] [rb v 6] (.ret (.agg [int g,int h',int i])) [rb v 9])(h5:ak P G 186 [.ptr 0 0] [rb v 9] (.ret (int j)) [rb v 10])(h6:ak P G 186 [.ptr 0 0] [rb v 10] (.ret (int k)) [rb v 11])(h:True):ak P G 195 [.ptr 0 0] [rb v 0] (aS.ret (AV.agg [int a,int b,int c,int d,int e,int f,int g,int h',int i,int j,Am.bool (k==1)])) [rb v 11]:=by
 have _:=h;exact aj [kc [0] h1,kc [0] h2,kc [0] h3,kc [0] h4,kc [0] h5,kc [0] h6]
end Go.Dc
namespace Go.Dc
open Go Go.Am Go.Proofs Go.eY Go.bH
open Go.yU (CV rR val Cy iB fA)
abbrev aDm(v:CV):ah:=.box [int v.k,int v.n,str v.s,.sl 4 false (iB v.l)]
def ea0(v:CV)(F k:Nat):St:={ aL:=aC 25 [(1,gP F),(4,aK),(8,.sl 4 false (iB v.l)),(9,int v.l.length),(10,int k)],H:=[aDm v] }
abbrev eaH(v:CV)(s:Nat)(xs:List (List AV))(g:Nat):List ah:=[aDm v,.aH,.aH,.aN g s false xs]
def ea1(v:CV)(F k s:Nat)(xs:List (List AV))(g:Nat):St:={ aL:=aC 25 [(1,gP F),(4,.aU 3 g 0 xs.length),(8,.sl 4 false (iB v.l)),(9,int v.l.length),(10,int k)],H:=eaH v s xs g }
abbrev EaQ(s A:Nat):Prop:=(s=2/\A=83)\/(s=7/\A=86)\/(s=9/\A=188)\/(s=5/\A=190)\/(s=3/\A=192)\/(s=11/\A=194)
structure EaW{α:Type}(E:α->List AV)(R:CV->α)(s A F n:Nat):Prop where
 y:∀(v x:CV)(k:Nat),(k:Int)<v.l.length->v.l[k]?=some x->ak P G F [.ptr 0 0] [rb x 0] (.ret (.agg (E (R x)))) [rb x n]->∀(ex:bF)(s':St),Rq 0 A 0 (ea1 v F (k+1) s [E (R x)] 0) ex s'->v.l.length<=1000000->Rq 0 A 0 (ea0 v F k) ex s'
 n:∀(v x:CV)(k:Nat)(xs:List α)(g:Nat),(k:Int)<v.l.length->v.l[k]?=some x->ak P G F [.ptr 0 0] [rb x 0] (.ret (.agg (E (R x)))) [rb x n]->∀(ex:bF)(s':St),Rq 0 A 0 (ea1 v F (k+1) s ((xs++[R x]).map E) (g+1)) ex s'->v.l.length<=1000000->xs.length<=1000000->Rq 0 A 0 (ea1 v F k s (xs.map E) g) ex s'
 p:∀(l:List α),∀c∈l.map E,AV.aM [] c=true/\c.all AV.fJ=true
theorem aAd{v x:CV}{n s:Nat}{xs:List (List AV)}:HSub [aDm v,aDm x,rb x n,.aN 0 s false xs] (eaH v s xs 0):=⟨.inl rfl,.inr yO,.inr yO,.inl rfl,yO⟩
theorem awH{α:Type}(E:α->List AV)(v:CV)(F k s:Nat)(xs:List α)(y:α)(g:Nat):ea1 v F k s ((xs++[y]).map E) (g+1)={ aL:=aC 25 [(1,gP F),(4,.aU 3 (g+1) 0 ((xs.map E).length+1)),(8,.sl 4 false (iB v.l)),(9,int v.l.length),(10,int k)],H:=eaH v s (xs.map E++[E y]) (g+1) }:=by
 unfold ea1;rw[map_append,yD];rfl
theorem atD{α:Type}{E:α->List AV}(h:∀x,AV.aM [] (E x)=true/\(E x).all AV.fJ=true)(l:List α):∀c∈l.map E,AV.aM [] c=true/\c.all AV.fJ=true:=fun c hc=>by
 obtain⟨x,_,rfl⟩:=yG.1 hc;exact h x
abbrev eaI(v x:CV)(k:Nat)(hk:(k:Int)<v.l.length)(hx:v.l[k]?=some x):List fP:=[ki ((k:Int)<v.l.length),ko (bC.elem (yU.aQ x)),kp (show(0:Int)<=(k:Int)/\(iB v.l)[Int.toNat (k:Int)]?=some (yU.aQ x)from(by rw[yU.lC];exact bG hx))]
theorem aCQ:EaW bH.aQ dtR 2 83 85 2 where
 y v x k hk hx hF _ _ h ha:=aJ (eaI v x k hk hx++[kc [2] hF,Qx (bH.aQ (dtR x)),vV 16,kW 23 (k+1) ↑(k+1)]) (aB 25 [1,4,8,9,10]) 4 (h.acz (aAd (x:=x) (n:=2)))
 n v x k xs g hk hx hF _ _ h ha hc:=aJ (eaI v x k hk hx++[kc [5] hF,kq g,kp (show(xs.map bH.aQ).length=(xs.map bH.aQ).length from rfl),vV (((xs.map bH.aQ).length+1)*16) (by rw[length_map];omega),kW 23 (k+1) ↑(k+1),kp (show ∀y∈xs.map bH.aQ++[bH.aQ (dtR x)],AV.aM [] y=true from fun y hy=>(atD (fun _=>⟨rfl,rfl⟩) (xs++[dtR x]) y (by rw[map_append];exact hy)).1)]) (aB 25 [1,4,8,9,10]) 4 (by rw[awH]at h;exact h)
 p:=atD fun _=>⟨rfl,rfl⟩
theorem aCR:EaW jB fdR 7 86 87 3 where
 y v x k hk hx hF _ _ h ha:=aJ (eaI v x k hk hx++[kc [2] hF,Qx (jB (fdR x)),vV 144,kW 23 (k+1) ↑(k+1)]) (aB 25 [1,4,8,9,10]) 4 (h.acz (aAd (x:=x) (n:=3)))
 n v x k xs g hk hx hF _ _ h ha hc:=aJ (eaI v x k hk hx++[kc [5] hF,kq g,kp (show(xs.map jB).length=(xs.map jB).length from rfl),vV (((xs.map jB).length+1)*144) (by rw[length_map];omega),kW 23 (k+1) ↑(k+1),kp (show ∀y∈xs.map jB++[jB (fdR x)],AV.aM [] y=true from fun y hy=>(atD (fun _=>⟨rfl,rfl⟩) (xs++[fdR x]) y (by rw[map_append];exact hy)).1)]) (aB 25 [1,4,8,9,10]) 4 (by rw[awH]at h;exact h)
 p:=atD fun _=>⟨rfl,rfl⟩
theorem aCS:EaW Sq.aQ ceR 9 188 189 9 where
 y v x k hk hx hF _ _ h ha:=aJ (eaI v x k hk hx++[kc [2] hF,Qx (Sq.aQ (ceR x)),vV 80,kW 23 (k+1) ↑(k+1)]) (aB 25 [1,4,8,9,10]) 4 (h.acz (aAd (x:=x) (n:=9)))
 n v x k xs g hk hx hF _ _ h ha hc:=aJ (eaI v x k hk hx++[kc [5] hF,kq g,kp (show(xs.map Sq.aQ).length=(xs.map Sq.aQ).length from rfl),vV (((xs.map Sq.aQ).length+1)*80) (by rw[length_map];omega),kW 23 (k+1) ↑(k+1),kp (show ∀y∈xs.map Sq.aQ++[Sq.aQ (ceR x)],AV.aM [] y=true from fun y hy=>(atD (fun _=>⟨rfl,rfl⟩) (xs++[ceR x]) y (by rw[map_append];exact hy)).1)]) (aB 25 [1,4,8,9,10]) 4 (by rw[awH]at h;exact h)
 p:=atD fun _=>⟨rfl,rfl⟩
theorem aCT:EaW Bd.aQ biR 5 190 191 5 where
 y v x k hk hx hF _ _ h ha:=aJ (eaI v x k hk hx++[kc [2] hF,Qx (Bd.aQ (biR x)),vV 56,kW 23 (k+1) ↑(k+1)]) (aB 25 [1,4,8,9,10]) 4 (h.acz (aAd (x:=x) (n:=5)))
 n v x k xs g hk hx hF _ _ h ha hc:=aJ (eaI v x k hk hx++[kc [5] hF,kq g,kp (show(xs.map Bd.aQ).length=(xs.map Bd.aQ).length from rfl),vV (((xs.map Bd.aQ).length+1)*56) (by rw[length_map];omega),kW 23 (k+1) ↑(k+1),kp (show ∀y∈xs.map Bd.aQ++[Bd.aQ (biR x)],AV.aM [] y=true from fun y hy=>(atD (fun _=>⟨rfl,rfl⟩) (xs++[biR x]) y (by rw[map_append];exact hy)).1)]) (aB 25 [1,4,8,9,10]) 4 (by rw[awH]at h;exact h)
 p:=atD fun _=>⟨rfl,rfl⟩
theorem aCU:EaW ze taR 3 192 193 3 where
 y v x k hk hx hF _ _ h ha:=aJ (eaI v x k hk hx++[kc [2] hF,Qx (ze (taR x)),vV 24,kW 23 (k+1) ↑(k+1)]) (aB 25 [1,4,8,9,10]) 4 (h.acz (aAd (x:=x) (n:=3)))
 n v x k xs g hk hx hF _ _ h ha hc:=aJ (eaI v x k hk hx++[kc [5] hF,kq g,kp (show(xs.map ze).length=(xs.map ze).length from rfl),vV (((xs.map ze).length+1)*24) (by rw[length_map];omega),kW 23 (k+1) ↑(k+1),kp (show ∀y∈xs.map ze++[ze (taR x)],AV.aM [] y=true from fun y hy=>(atD (fun _=>⟨rfl,rfl⟩) (xs++[taR x]) y (by rw[map_append];exact hy)).1)]) (aB 25 [1,4,8,9,10]) 4 (by rw[awH]at h;exact h)
 p:=atD fun _=>⟨rfl,rfl⟩
theorem aCV:EaW Tx.aQ maR 11 194 195 11 where
 y v x k hk hx hF _ _ h ha:=aJ (eaI v x k hk hx++[kc [2] hF,Qx (Tx.aQ (maR x)),vV 88,kW 23 (k+1) ↑(k+1)]) (aB 25 [1,4,8,9,10]) 4 (h.acz (aAd (x:=x) (n:=11)))
 n v x k xs g hk hx hF _ _ h ha hc:=aJ (eaI v x k hk hx++[kc [5] hF,kq g,kp (show(xs.map Tx.aQ).length=(xs.map Tx.aQ).length from rfl),vV (((xs.map Tx.aQ).length+1)*88) (by rw[length_map];omega),kW 23 (k+1) ↑(k+1),kp (show ∀y∈xs.map Tx.aQ++[Tx.aQ (maR x)],AV.aM [] y=true from fun y hy=>(atD (fun _=>⟨rfl,rfl⟩) (xs++[maR x]) y (by rw[map_append];exact hy)).1)]) (aB 25 [1,4,8,9,10]) 4 (by rw[awH]at h;exact h)
 p:=atD fun _=>⟨rfl,rfl⟩
section
variable {α:Type} {E:α->List AV} {R:CV->α} {s A F n:Nat} (q:EaQ s A) (w:EaW E R s A F n)
include q
theorem aB8(v:CV)(k:Nat)(hk:¬(k:Int)<v.l.length):Rq 0 A 0 (ea0 v F k) (.exit 0) { aL:=aC 25 [(4,aK)],H:=[aDm v] }:=by
 rcases q with⟨rfl,rfl⟩|⟨rfl,rfl⟩|⟨rfl,rfl⟩|⟨rfl,rfl⟩|⟨rfl,rfl⟩|⟨rfl,rfl⟩<;>exact aG [kj ((k:Int)<v.l.length)] (aB 25 [4]) 1
theorem aB9(v:CV)(k:Nat)(xs:List (List AV))(g:Nat)(hk:¬(k:Int)<v.l.length):Rq 0 A 0 (ea1 v F k s xs g) (.exit 0) { aL:=aC 25 [(4,.aU 3 g 0 xs.length)],H:=eaH v s xs g }:=by
 rcases q with⟨rfl,rfl⟩|⟨rfl,rfl⟩|⟨rfl,rfl⟩|⟨rfl,rfl⟩|⟨rfl,rfl⟩|⟨rfl,rfl⟩<;>exact aG [kj ((k:Int)<v.l.length)] (aB 25 [4]) 4
theorem aCa(v:CV)(hL:Rq 0 A 0 (ea0 v F 0) (.exit 0) { aL:=aC 25 [(4,aK)],H:=[aDm v] }):Cq A [val v,gP F] aK:=by
 rcases q with⟨rfl,rfl⟩|⟨rfl,rfl⟩|⟨rfl,rfl⟩|⟨rfl,rfl⟩|⟨rfl,rfl⟩|⟨rfl,rfl⟩<;>exact aj [kN 9 (fA v.l),kl (rG [(0,1),(2,2),(5,3),(11,14)]) 1 hL]
theorem aCb(v:CV)(xs:List (List AV))(g:Nat)(hL:Rq 0 A 0 (ea0 v F 0) (.exit 0) { aL:=aC 25 [(4,.aU 3 g 0 xs.length)],H:=eaH v s xs g }):ak P G A [val v,gP F] [] (.ret (.aU 3 g 0 xs.length)) (eaH v s xs g):=by
 rcases q with⟨rfl,rfl⟩|⟨rfl,rfl⟩|⟨rfl,rfl⟩|⟨rfl,rfl⟩|⟨rfl,rfl⟩|⟨rfl,rfl⟩<;>exact aj [kN 9 (fA v.l),kl (rG [(0,1),(2,2),(5,3),(11,14)]) 1 hL]
include w
theorem aCW(v:CV)(hl:v.l.length<=500000)(hF:∀x∈v.l,ak P G F [.ptr 0 0] [rb x 0] (.ret (.agg (E (R x)))) [rb x n]):∀m k xs g,v.l.length-k=m->k<=v.l.length->xs.length<=k->∃g',Rq 0 A 0 (ea1 v F k s (xs.map E) g) (.exit 0) { aL:=aC 25 [(4,.aU 3 g' 0 ((xs++(v.l.drop k).map R).map E).length)],H:=eaH v s ((xs++(v.l.drop k).map R).map E) g' }:=by
 intro m
 induction m with
 |zero =>
  intro k xs g hn hk hc;rw[drop_of_length_le zO,map_nil,append_nil];exact⟨g,aB9 q v k _ g zO⟩
 |succ m ih =>
  intro k xs g hn hk hc;have bg:k<v.l.length:=zO
  obtain⟨g',nx⟩:=ih (k+1) (xs++[R v.l[k]]) (g+1) zO zO (by rw[yD];exact Nat.succ_le_succ hc);refine⟨g',?_⟩;rw[drop_eq_getElem_cons bg,map_cons,append_cons];exact w.n v v.l[k] k xs g zO (yA bg) (hF _ (getElem_mem bg)) _ _ nx zO zO
theorem aAO(v:CV)(hl:v.l.length<=500000)(hF:∀x∈v.l,ak P G F [.ptr 0 0] [rb x 0] (.ret (.agg (E (R x)))) [rb x n]):Cq A [val v,gP F] (.sl s false ((v.l.map R).map E)):=by
 by_cases h0:v.l=[]
 .have h:=(aCa (F:=F) q v (aB8 q v 0 (by rw[h0];simp))).out (aF.nil s);rw[h0];exact h
 .have h1:0<v.l.length:=length_pos_iff.2 h0;obtain⟨g',h⟩:=aCW q w v hl hF _ 1 [R v.l[0]] 0 rfl zO yM;have e:[R v.l[0]]++(v.l.drop 1).map R=v.l.map R:=by
   conv=>rhs;rw[<- drop_zero (l:=v.l),drop_eq_getElem_cons h1]
   rfl
  rw[e]at h;have h2:=aCb q v _ g' (w.y v v.l[0] 0 zO (yA h1) (hF _ (getElem_mem h1)) _ _ h zO);have hp:=w.p (v.l.map R);exact(h2.Mq (z:=(v.l.map R).map E) (y:=.sl s false ((v.l.map R).map E)) (H1:=[aDm v,.aH,.aH,.aN g' s true ((v.l.map R).map E)]) (ps:=[g'=g',List.take ((v.l.map R).map E).length (List.drop 0 ((v.l.map R).map E))=(v.l.map R).map E,((v.l.map R).map E).length=((v.l.map R).map E).length,∀c∈(v.l.map R).map E,c.all AV.fJ=true]) rfl ⟨rfl,by rw[drop_zero,take_of_length_le yM],rfl,fun c hc=>(hp c hc).2,yO⟩).BM (H3:=[]) (qs:=[]) rfl trivial
end
end Go.Dc
namespace Go.Dc
open Go Go.Am Go.Proofs Go.eY Go.bH
open Go.yU (CV rR val Cy jl iB fA)
theorem aCX(v w:CV)(pk:Int)(pn:yP)(ys:List Sq.CE)(hk:pk=1)(h1:ak P G 186 [.ptr 0 0] [rb v 0] (.ret (int pk)) [rb v 1])(h2:ak P G 187 [.ptr 0 0] [rb v 1] (.ret (str pn)) [rb v 2])(h3:ak P G 84 [.ptr 0 0] [rb v 2] (.ret (val w)) [rb v 3])(hE:Cq 188 [val w,gP 189] (Sq.bZ ys))(h:True):ak P G 87 [.ptr 0 0] [rb v 0] (aS.ret (AV.agg [int pk,str pn,Sq.bZ ys,aK,aK,aK,aK])) [rb v 3]:=by
 have _:=h;exact aj [kc [0] h1,kc [0] h2,kc [0] h3,kt (show(pk==1)=true from(qT zO)),kc [] hE]
theorem aCY(v w:CV)(pk:Int)(pn:yP)(ys:List Bd.BE)(hk:pk=2)(h1:ak P G 186 [.ptr 0 0] [rb v 0] (.ret (int pk)) [rb v 1])(h2:ak P G 187 [.ptr 0 0] [rb v 1] (.ret (str pn)) [rb v 2])(h3:ak P G 84 [.ptr 0 0] [rb v 2] (.ret (val w)) [rb v 3])(hE:Cq 190 [val w,gP 191] (Bd.iK ys))(h:True):ak P G 87 [.ptr 0 0] [rb v 0] (aS.ret (AV.agg [int pk,str pn,aK,Bd.iK ys,aK,aK,aK])) [rb v 3]:=by
 have _:=h;exact aj [kc [0] h1,kc [0] h2,kc [0] h3,kf (show(pk==1)=false from(qF zO)),kt (show(pk==2)=true from(qT zO)),kc [] hE]
theorem aCZ(v w:CV)(pk:Int)(pn:yP)(ys:List TL)(hk:pk=3)(h1:ak P G 186 [.ptr 0 0] [rb v 0] (.ret (int pk)) [rb v 1])(h2:ak P G 187 [.ptr 0 0] [rb v 1] (.ret (str pn)) [rb v 2])(h3:ak P G 84 [.ptr 0 0] [rb v 2] (.ret (val w)) [rb v 3])(hE:Cq 192 [val w,gP 193] (mF ys))(h:True):ak P G 87 [.ptr 0 0] [rb v 0] (aS.ret (AV.agg [int pk,str pn,aK,aK,mF ys,aK,aK])) [rb v 3]:=by
 have _:=h;exact aj [kc [0] h1,kc [0] h2,kc [0] h3,kf (show(pk==1)=false from(qF zO)),kf (show(pk==2)=false from(qF zO)),kt (show(pk==3)=true from(qT zO)),kc [] hE]
theorem aC0(v w a b:CV)(pk:Int)(pn:yP)(ys:List Sq.CE)(zs:List Tx.MK)(hk:pk=4)(h1:ak P G 186 [.ptr 0 0] [rb v 0] (.ret (int pk)) [rb v 1])(h2:ak P G 187 [.ptr 0 0] [rb v 1] (.ret (str pn)) [rb v 2])(h3:ak P G 84 [.ptr 0 0] [rb v 2] (.ret (val w)) [rb v 3])(h4:ak P G 84 [.ptr 0 0] [rb w 0] (.ret (val a)) [rb w 1])(h5:ak P G 84 [.ptr 0 0] [rb w 1] (.ret (val b)) [rb w 2])(hE:Cq 188 [val a,gP 189] (Sq.bZ ys))(hM:Cq 194 [val b,gP 195] (Tx.oI zs))(h:True):ak P G 87 [.ptr 0 0] [rb v 0] (aS.ret (AV.agg [int pk,str pn,aK,aK,aK,Sq.bZ ys,Tx.oI zs])) [rb v 3]:=by
 have _:=h;exact aj [kc [0] h1,kc [0] h2,kc [0] h3,kf (show(pk==1)=false from(qF zO)),kf (show(pk==2)=false from(qF zO)),kf (show(pk==3)=false from(qF zO)),kt (show(pk==4)=true from(qT zO)),kc [3] h4,kc [] hE,kc [3] h5,kc [] hM]
theorem aC1(v w:CV)(pk:Int)(pn:yP)(k1:¬pk=1)(k2:¬pk=2)(k3:¬pk=3)(k4:¬pk=4)(h1:ak P G 186 [.ptr 0 0] [rb v 0] (.ret (int pk)) [rb v 1])(h2:ak P G 187 [.ptr 0 0] [rb v 1] (.ret (str pn)) [rb v 2])(h3:ak P G 84 [.ptr 0 0] [rb v 2] (.ret (val w)) [rb v 3])(h:True):ak P G 87 [.ptr 0 0] [rb v 0] (aS.ret (AV.agg [int pk,str pn,aK,aK,aK,aK,aK])) [rb v 3]:=by
 have _:=h;exact aj [kc [0] h1,kc [0] h2,kc [0] h3,kf (show(pk==1)=false from(qF zO)),kf (show(pk==2)=false from(qF zO)),kf (show(pk==3)=false from(qF zO)),kf (show(pk==4)=false from(qF zO))]
theorem aC2(b:List UInt8)(v s f:CV)(d:DO)(x:AV)(e:Int)(he:¬e=0)(hC:Cq 82 [Cy b] (.bq [val v,int 0]))(h1:ak P G 84 [.ptr 0 0] [rb v 0] (.ret (val s)) [rb v 1])(h2:Cq 83 [val s,gP 85] (bB d.sn))(h3:ak P G 84 [.ptr 0 0] [rb v 1] (.ret (val f)) [rb v 2])(h4:Cq 86 [val f,gP 87] (Md d.fs))(h5:Cq 21 [kI d] (.bq [aK,int e]))(h:True):Cq 23 [Cy b] (.bq [.agg [aK,aK],int 180]):=by
 have _:=h;exact aj [kc [] hC,kY,kc [2] h1,kc [] h2,kc [2] h3,kc [] h4,kc [] h5,kt (show(e != 0)=true from(yJ Bool.not (qF zO))),kO]
theorem aC3(b c:List UInt8)(v s f:CV)(d:DO)(hC:Cq 82 [Cy b] (.bq [val v,int 0]))(h1:ak P G 84 [.ptr 0 0] [rb v 0] (.ret (val s)) [rb v 1])(h2:Cq 83 [val s,gP 85] (bB d.sn))(h3:ak P G 84 [.ptr 0 0] [rb v 1] (.ret (val f)) [rb v 2])(h4:Cq 86 [val f,gP 87] (Md d.fs))(h5:Cq 21 [kI d] (.bq [Cy c,int 0]))(h6:Cq 88 [Cy b,Cy c] (Am.bool false))(h:True):Cq 23 [Cy b] (.bq [.agg [aK,aK],int 180]):=by
 have _:=h;exact aj [kc [] hC,kY,kc [2] h1,kc [] h2,kc [2] h3,kc [] h4,kc [] h5,kY,kc [] h6,kO]
theorem aC4(b c:List UInt8)(v s f:CV)(d:DO)(hC:Cq 82 [Cy b] (.bq [val v,int 0]))(h1:ak P G 84 [.ptr 0 0] [rb v 0] (.ret (val s)) [rb v 1])(h2:Cq 83 [val s,gP 85] (bB d.sn))(h3:ak P G 84 [.ptr 0 0] [rb v 1] (.ret (val f)) [rb v 2])(h4:Cq 86 [val f,gP 87] (Md d.fs))(h5:Cq 21 [kI d] (.bq [Cy c,int 0]))(h6:Cq 88 [Cy b,Cy c] (Am.bool true))(h:True):Cq 23 [Cy b] (.bq [kI d,int 0]):=by
 have _:=h;exact aj [kc [] hC,kY,kc [2] h1,kc [] h2,kc [2] h3,kc [] h4,kc [] h5,kY,kc [] h6,kY]
end Go.Dc
namespace Go.Dc
open Go Go.Am Go.Proofs Go.eY Go.bH
open Go.yU (CV rR val Cy iB fA avw avx)
def aH0:List ah:=[.box azK,.box azL]
def aH1(cs:List CV)(g:Nat):List ah:=[.box azK,.box [int 3,int 0,str .empty,.aU 3 g 0 cs.length],.aH,.aN g 4 false (iB cs)]
def aDn{α:Type}(E:α->List AV)(s F:Nat)(l:List α)(k:Nat)(H:List ah):St:={ aL:=aC 25 [(1,gP F),(4,.ptr 0 0),(5,.ptr 1 0),(9,slF E s l),(10,int l.length),(11,int k)],H:=H }
abbrev aDo(H:List ah):St:={ aL:=aC 25 [(4,.ptr 0 0),(5,.ptr 1 0)],H:=H }
theorem aw4(n:Nat)(l:List CV):∀c∈iB l,AV.gH n c=true:=fun c hc=>agW (yU.axm l) n c hc
theorem atC(cs:List CV)(v:CV):iB cs++[v.cells]=iB (cs++[v]):=by rw[<- avw];rfl
theorem awV(cs:List CV)(v:CV)(g:Nat):aH1 (cs++[v]) (g+1)=[.box azK,.box [int 3,int 0,str .empty,.aU 3 (g+1) 0 (cs.length+1)],.aH,.aN (g+1) 4 false (iB cs++[v.cells])]:=by
 unfold aH1;rw[atC,yD];rfl
abbrev AlQ(s A:Nat):Prop:=(s=2/\A=73)\/(s=7/\A=76)\/(s=9/\A=172)\/(s=5/\A=146)\/(s=3/\A=175)\/(s=11/\A=177)
structure AlW{α:Type}(E:α->List AV)(V:α->CV)(s A F:Nat):Prop where
 y:∀(l:List α)(k:Nat)(x:α),(k:Int)<l.length->l[k]?=some x->Cq F [.agg (E x)] (val (V x))->∀(ex:bF)(s':St),Rq 0 A 0 (aDn E s F l (k+1) (aH1 [V x] 0)) ex s'->l.length<=1000000->Rq 0 A 0 (aDn E s F l k aH0) ex s'
 n:∀(l:List α)(k:Nat)(x:α)(cs:List CV)(g:Nat),(k:Int)<l.length->l[k]?=some x->Cq F [.agg (E x)] (val (V x))->∀(ex:bF)(s':St),Rq 0 A 0 (aDn E s F l (k+1) (aH1 (cs++[V x]) (g+1))) ex s'->l.length<=1000000->cs.length<=1000000->Rq 0 A 0 (aDn E s F l k (aH1 cs g)) ex s'
theorem aAP{V:CV}{x:List AV}:HSub [.box azK,.box [int 3,int 0,str .empty,.aU 3 0 0 1],.box x,.aN 0 4 false [V.cells]] (aH1 [V] 0):=⟨.inl rfl,.inl rfl,.inr yO,.inl rfl,yO⟩
theorem aC5:AlW bH.aQ dtV 2 73 74 where
 y l k x hk hx hF _ _ h ha:=aJ [ki ((k:Int)<l.length),ke (bH.aQ x) (l.map bH.aQ) k (bG hx),kc [] hF,Qx (dtV x).cells,vV 56,kW 23 (k+1) ↑(k+1)] (aB 25 [1,4,5,9,10,11]) 4 (h.acz (aAP (x:=bH.aQ x)))
 n l k x cs g hk hx hF _ _ h ha hc:=aJ [ki ((k:Int)<l.length),ke (bH.aQ x) (l.map bH.aQ) k (bG hx),kc [] hF,kq g,kp (fA cs).symm,vV ((cs.length+1)*56),kW 23 (k+1) ↑(k+1),kp (show ∀y∈iB cs++[(dtV x).cells],AV.gH 4 y=true from atC cs (dtV x)▸aw4 4 _)] (aB 25 [1,4,5,9,10,11]) 4 (by rw[awV]at h;exact h)
theorem aC6:AlW jB fdV 7 76 77 where
 y l k x hk hx hF _ _ h ha:=aJ [ki ((k:Int)<l.length),ke (jB x) (l.map jB) k (bG hx),kc [] hF,Qx (fdV x).cells,vV 56,kW 23 (k+1) ↑(k+1)] (aB 25 [1,4,5,9,10,11]) 4 (h.acz (aAP (x:=jB x)))
 n l k x cs g hk hx hF _ _ h ha hc:=aJ [ki ((k:Int)<l.length),ke (jB x) (l.map jB) k (bG hx),kc [] hF,kq g,kp (fA cs).symm,vV ((cs.length+1)*56),kW 23 (k+1) ↑(k+1),kp (show ∀y∈iB cs++[(fdV x).cells],AV.gH 4 y=true from atC cs (fdV x)▸aw4 4 _)] (aB 25 [1,4,5,9,10,11]) 4 (by rw[awV]at h;exact h)
theorem aC7:AlW Sq.aQ ceV 9 172 173 where
 y l k x hk hx hF _ _ h ha:=aJ [ki ((k:Int)<l.length),ke (Sq.aQ x) (l.map Sq.aQ) k (bG hx),kc [] hF,Qx (ceV x).cells,vV 56,kW 23 (k+1) ↑(k+1)] (aB 25 [1,4,5,9,10,11]) 4 (h.acz (aAP (x:=Sq.aQ x)))
 n l k x cs g hk hx hF _ _ h ha hc:=aJ [ki ((k:Int)<l.length),ke (Sq.aQ x) (l.map Sq.aQ) k (bG hx),kc [] hF,kq g,kp (fA cs).symm,vV ((cs.length+1)*56),kW 23 (k+1) ↑(k+1),kp (show ∀y∈iB cs++[(ceV x).cells],AV.gH 4 y=true from atC cs (ceV x)▸aw4 4 _)] (aB 25 [1,4,5,9,10,11]) 4 (by rw[awV]at h;exact h)
theorem aC8:AlW Bd.aQ biV 5 146 174 where
 y l k x hk hx hF _ _ h ha:=aJ [ki ((k:Int)<l.length),ke (Bd.aQ x) (l.map Bd.aQ) k (bG hx),kc [] hF,Qx (biV x).cells,vV 56,kW 23 (k+1) ↑(k+1)] (aB 25 [1,4,5,9,10,11]) 4 (h.acz (aAP (x:=Bd.aQ x)))
 n l k x cs g hk hx hF _ _ h ha hc:=aJ [ki ((k:Int)<l.length),ke (Bd.aQ x) (l.map Bd.aQ) k (bG hx),kc [] hF,kq g,kp (fA cs).symm,vV ((cs.length+1)*56),kW 23 (k+1) ↑(k+1),kp (show ∀y∈iB cs++[(biV x).cells],AV.gH 4 y=true from atC cs (biV x)▸aw4 4 _)] (aB 25 [1,4,5,9,10,11]) 4 (by rw[awV]at h;exact h)
theorem aC9:AlW ze taV 3 175 176 where
 y l k x hk hx hF _ _ h ha:=aJ [ki ((k:Int)<l.length),ke (ze x) (l.map ze) k (bG hx),kc [] hF,Qx (taV x).cells,vV 56,kW 23 (k+1) ↑(k+1)] (aB 25 [1,4,5,9,10,11]) 4 (h.acz (aAP (x:=ze x)))
 n l k x cs g hk hx hF _ _ h ha hc:=aJ [ki ((k:Int)<l.length),ke (ze x) (l.map ze) k (bG hx),kc [] hF,kq g,kp (fA cs).symm,vV ((cs.length+1)*56),kW 23 (k+1) ↑(k+1),kp (show ∀y∈iB cs++[(taV x).cells],AV.gH 4 y=true from atC cs (taV x)▸aw4 4 _)] (aB 25 [1,4,5,9,10,11]) 4 (by rw[awV]at h;exact h)
theorem aDa:AlW Tx.aQ maV 11 177 178 where
 y l k x hk hx hF _ _ h ha:=aJ [ki ((k:Int)<l.length),ke (Tx.aQ x) (l.map Tx.aQ) k (bG hx),kc [] hF,Qx (maV x).cells,vV 56,kW 23 (k+1) ↑(k+1)] (aB 25 [1,4,5,9,10,11]) 4 (h.acz (aAP (x:=Tx.aQ x)))
 n l k x cs g hk hx hF _ _ h ha hc:=aJ [ki ((k:Int)<l.length),ke (Tx.aQ x) (l.map Tx.aQ) k (bG hx),kc [] hF,kq g,kp (fA cs).symm,vV ((cs.length+1)*56),kW 23 (k+1) ↑(k+1),kp (show ∀y∈iB cs++[(maV x).cells],AV.gH 4 y=true from atC cs (maV x)▸aw4 4 _)] (aB 25 [1,4,5,9,10,11]) 4 (by rw[awV]at h;exact h)
section
variable {α:Type} {E:α->List AV} {V:α->CV} {s A F:Nat} (q:AlQ s A) (w:AlW E V s A F)
include q
theorem aCc(l:List α)(k:Nat)(hk:¬(k:Int)<l.length):Rq 0 A 0 (aDn E s F l k aH0) (.exit 0) (aDo aH0):=by
 rcases q with⟨rfl,rfl⟩|⟨rfl,rfl⟩|⟨rfl,rfl⟩|⟨rfl,rfl⟩|⟨rfl,rfl⟩|⟨rfl,rfl⟩<;>exact aG [kj ((k:Int)<l.length)] (aB 25 [4,5]) 2
theorem aCd(l:List α)(k:Nat)(cs:List CV)(g:Nat)(hk:¬(k:Int)<l.length):Rq 0 A 0 (aDn E s F l k (aH1 cs g)) (.exit 0) (aDo (aH1 cs g)):=by
 rcases q with⟨rfl,rfl⟩|⟨rfl,rfl⟩|⟨rfl,rfl⟩|⟨rfl,rfl⟩|⟨rfl,rfl⟩|⟨rfl,rfl⟩<;>exact aG [kj ((k:Int)<l.length)] (aB 25 [4,5]) 4
end
end Go.Dc
namespace Go.Dc
open Go Go.Am Go.Proofs Go.eY Go.bH
open Go.yU (CV rR val Cy iB fA)
def its(l:List Int):List (List AV):=l.map fun n=>[int n]
def n0S(t:Bool)(l:List Int)(k:Nat):St:={ aL:=aC 18 [(2,aK),(5,.sl 1 t (its l)),(6,int l.length),(7,int k)],H:=[] }
def n1S(t:Bool)(l:List Int)(cs:List CV)(g k:Nat):St:={ aL:=aC 18 [(2,.aU 0 g 0 cs.length),(5,.sl 1 t (its l)),(6,int l.length),(7,int k)],H:=[.aN g 4 false (iB cs)] }
theorem aAw(l:List Int):(its l).length=l.length:=by simp[its]
theorem aDb(t:Bool)(l:List Int)(k:Nat)(x:Int)(ha:l.length<=1000)(hk:(k:Int)<(l.length:Int))(hx:l[k]?=some x)(ex:bF)(s':St)(h:Rq 0 75 0 (sM 18 [(2,.aU 0 0 0 1),(5,.sl 1 t (its l)),(6,int ↑l.length),(7,int ↑(k+1))] [.aN 0 4 false [[int 1,int x,str ByteArray.empty,.sl 4 false []]]]) ex s'):Rq 0 75 0 (n0S t l k) ex s':=by
 exact aJ [ki ((k:Int)<l.length),ko (bC.elem [int x]),kp (show(0:Int)<=(k:Int)/\(its l)[Int.toNat (k:Int)]?=some [int x]from(bG hx)),kc [] (@aAv (x)),Qx [int 1,int x,str ByteArray.empty,AV.sl 4 false []],vV 56,kW 16 (k+1) ↑(k+1)] (aB 18 [2,5,6,7]) 1 h
theorem aDc(t:Bool)(l:List Int)(cs:List CV)(g k:Nat)(x:Int)(ha:l.length<=1000)(hc:cs.length<=1000)(hk:(k:Int)<(l.length:Int))(hx:l[k]?=some x)(ex:bF)(s':St)(h:Rq 0 75 0 (sM 18 [(2,.aU 0 (g+1) 0 (length cs+1)),(5,.sl 1 t (its l)),(6,int ↑l.length),(7,int ↑(k+1))] [.aN (g+1) 4 false (iB cs++[[int 1,int x,str ByteArray.empty,.sl 4 false []]])]) ex s'):Rq 0 75 0 (n1S t l cs g k) ex s':=by
 exact aJ [ki ((k:Int)<l.length),ko (bC.elem [int x]),kp (show(0:Int)<=(k:Int)/\(its l)[Int.toNat (k:Int)]?=some [int x]from(bG hx)),kc [] (@aAv (x)),kq g,kp (Go.yU.fA cs).symm,vV ((length cs+1)*56),kW 16 (k+1) ↑(k+1)] (aB 18 [2,5,6,7]) 1 h
theorem aDd(t:Bool)(l:List Int)(cs:List CV)(g k:Nat)(hk:¬(k:Int)<(l.length:Int))(h:True):Rq 0 75 0 (n1S t l cs g k) (bF.exit 0) (sM 18 [(2,.aU 0 g 0 cs.length)] [.aN g 4 false (iB cs)]):=by
 have _:=h;exact aG [kj ((k:Int)<l.length)] (aB 18 [2]) 1
theorem aDe(t:Bool)(l:List Int)(cs:List CV)(g:Nat)(hL:Rq 0 75 0 (n0S t l 0) (.exit 0) { aL:=aC 18 [(2,.aU 0 g 0 cs.length)],H:=[.aN g 4 false (iB cs)] })(h:True):ak P G 75 [.sl 1 t (its l)] [] (aS.ret (AV.aU 0 g 0 cs.length)) [ah.aN g 4 false (iB cs)]:=by
 have _:=h;exact aj [kN 6 (aAw l),kl (rG [(0,2),(3,2),(8,10)]) 0 hL]
end Go.Dc
namespace Go.Am
open Go
theorem ak.aBH{P:Program}{G:Nat->Option (List AV)}{f:FuncId}{args:List AV}{H H' H1:List ah}{cs ds:List AV}{z:List (List AV)}{ps:List Prop}(h:ak P G f args H (.ret (.agg cs)) H')(ha:vZ H' cs z=some (ds,H1,ps))(dG:gZ ps):ak P G f args H (.ret (.agg ds)) H1 :=
 fun V vs hH hG hr=>(h V vs hH hG hr).mono fun e w' he=>by
  obtain⟨V',rfl,k2,k3,k4,k5⟩:=he;cases e with
  |returned v =>
   obtain⟨ws,rfl,hw⟩:=uO k5;obtain⟨V1,l1,l2,l3,l4,l5⟩:=nY (by rw[k4];exact ha) dG k3 hw;exact⟨V1,l1,k2.trans l3,l4,l2,.agg ds ws l5.1 l5.2⟩
  |panicked _=>exact k5.elim
  |outgrown=>exact k5.elim
end Go.Am
namespace Go.Dc
open Go Go.Am Go.Proofs Go.eY Go.bH
open Go.yU (CV rR val Cy iB fA avw avx)
section
variable {α:Type} {E:α->List AV} {V:α->CV} {s A F:Nat} (q:AlQ s A) (w:AlW E V s A F)
include q
theorem aDf(l:List α)(cs:List CV)(g:Nat)(hL:Rq 0 A 0 (aDn E s F l 0 aH0) (.exit 0) (aDo (aH1 cs g))):Cq A [slF E s l,gP F] (val (lsV cs)):=by
 rcases q with⟨rfl,rfl⟩|⟨rfl,rfl⟩|⟨rfl,rfl⟩|⟨rfl,rfl⟩|⟨rfl,rfl⟩|⟨rfl,rfl⟩<;>exact aj [kc [] aw6,kN 10 (show(l.map E).length=l.length from length_map E),kl (rG [(0,1),(2,2),(6,3),(12,13)]) 2 hL,ko (bC.fz (some 24) (iB cs)),kq g,kp (show List.take cs.length (List.drop 0 (iB cs))=iB cs from yU.aa7 cs),kp (fA cs),kp (yU.WV cs)]
theorem aDg(hL:Rq 0 A 0 (aDn E s F [] 0 aH0) (.exit 0) (aDo aH0)):Cq A [slF E s [],gP F] (.agg azL):=by
 rcases q with⟨rfl,rfl⟩|⟨rfl,rfl⟩|⟨rfl,rfl⟩|⟨rfl,rfl⟩|⟨rfl,rfl⟩|⟨rfl,rfl⟩<;>exact aj [kc [] aw6,kl (rG [(0,1),(2,2),(6,3),(12,13)]) 2 hL]
include w
theorem aDh(l:List α)(hl:l.length<=500000)(hF:∀x∈l,Cq F [.agg (E x)] (val (V x))):∀n k cs g,l.length-k=n->k<=l.length->cs.length<=k->∃g',Rq 0 A 0 (aDn E s F l k (aH1 cs g)) (.exit 0) (aDo (aH1 (cs++(l.drop k).map V) g')):=by
 intro n
 induction n with
 |zero =>
  intro k cs g hn hk hc;rw[drop_of_length_le zO,map_nil,append_nil];exact⟨g,aCd q l k cs g zO⟩
 |succ n ih =>
  intro k cs g hn hk hc;have bg:k<l.length:=zO
  obtain⟨g',nx⟩:=ih (k+1) (cs++[V l[k]]) (g+1) zO zO (by rw[yD];exact Nat.succ_le_succ hc);refine⟨g',?_⟩;rw[drop_eq_getElem_cons bg,map_cons,append_cons];exact w.n l k _ cs g zO (yA bg) (hF _ (getElem_mem bg)) _ _ nx zO zO
theorem aAQ(l:List α)(hl:l.length<=500000)(hF:∀x∈l,Cq F [.agg (E x)] (val (V x))):Cq A [slF E s l,gP F] (val (lsV (l.map V))):=by
 cases l with
 |nil=>exact(aDg q (aCc q [] 0 zS)).out (aF.qo ⟨aF.refl _,aF.refl _,aF.refl _,aF.nil 4,yO⟩)
 |cons x l =>
  obtain⟨g',h⟩:=aDh q w (x::l) hl hF _ 1 [V x] 0 rfl zS yM;exact aDf q (x::l) (V x::l.map V) g' (w.y (x::l) 0 x (by rw[yE];omega) rfl (hF x (mem_cons_self ..)) _ _ h zO)
end
theorem aDi(t:Bool)(l:List Int)(hl:l.length<=900):∀n k cs g,l.length-k=n->k<=l.length->cs.length<=k->∃g',bN P G none 0 (vg P 75 0) (n1S t l cs g k) (.exit 0) { aL:=aC 18 [(2,.aU 0 g' 0 (cs++(l.drop k).map CF).length)],H:=[.aN g' 4 false (iB (cs++(l.drop k).map CF))] }:=by
 intro n
 induction n with
 |zero =>
  intro k cs g hn hk hc;rw[drop_of_length_le zO,map_nil,append_nil];exact⟨g,aDd t l cs g k zO yO⟩
 |succ n ih =>
  intro k cs g hn hk hc;have bg:k<l.length:=zO
  obtain⟨g',nx⟩:=ih (k+1) (cs++[CF l[k]]) (g+1) zO zO (by rw[yD];exact Nat.succ_le_succ hc);refine⟨g',?_⟩;rw[drop_eq_getElem_cons bg,map_cons,append_cons];refine aDc t l cs g k l[k] zO zO zO (yA bg) _ _ ?_;unfold n1S at nx;rw[yD,<- atC]at nx;exact nx
theorem aA5(t:Bool)(x:Int)(l:List Int)(hl:l.length<=800):∃g,ak P G 75 [.sl 1 t (its (x::l))] [] (.ret (.aU 0 g 0 (l.length+1))) [.aN g 4 false (iB ((x::l).map CF))]:=by
 obtain⟨g,h⟩:=aDi t (x::l) (by simp;omega) _ 1 [CF x] 0 rfl zS yM;have h0:=aDb t (x::l) 0 x (by rw[yE];omega) (by rw[yE];omega) rfl _ _ h;have h1:=aDe t (x::l) ((x::l).map CF) g h0 trivial;rw[length_map]at h1;exact⟨g,h1⟩
theorem aBI(x:Int)(l:List Int)(hl:l.length<=800):Cq 75 [.sl 1 true (its (x::l))] (.sl 4 false (iB ((x::l).map CF))):=by
 obtain⟨g,h⟩:=aA5 true x l hl;exact(h.Mq (z:=iB ((x::l).map CF)) (y:=.sl 4 false (iB ((x::l).map CF))) (H1:=[.aN g 4 true (iB ((x::l).map CF))]) (ps:=[g=g,List.take (l.length+1) (List.drop 0 (iB ((x::l).map CF)))=iB ((x::l).map CF),(iB ((x::l).map CF)).length=l.length+1,∀c∈iB ((x::l).map CF),c.all AV.fJ=true]) rfl ⟨rfl,by rw[drop_zero,take_of_length_le (by simp[fA])],by simp[fA],yU.WV _,yO⟩).BM (H3:=[]) (qs:=[]) rfl trivial
end Go.Dc
namespace Go.Dc
open Go Go.Am Go.Proofs Go.eY Go.bH
open Go.yU (CV rR val Cy iB fA)
open Go.Sq (CE)
open Go.Bd (BE)
open Go.Tx (MK)
theorem aDj(xs:List (List AV))(g n:Nat)(h:((∀(x:List AV),x∈xs->AV.gH (length [ah.aN g 4 false xs]) x=true)/\True)):ak P G 53 [.aU 0 g 0 n] [ah.aN g 4 false xs] (aS.ret (AV.agg [int 3,int 0,str ByteArray.empty,AV.aU 0 g 0 n])) [ah.aN g 4 false xs]:=by
 obtain⟨o1,h⟩:=h;have _:=h;exact aj [kp o1]
theorem aDk  (h:True):Cq 253 [Am.bool true] (int 1):=by
 have _:=h;exact aj [kO]
theorem aDl  (h:True):Cq 253 [Am.bool false] (int 0):=by
 have _:=h;exact aj [kY]
theorem aCe(b:Bool):Cq 253 [Am.bool b] (int (if b then 1 else 0)):=by cases b;exact aDl trivial;exact aDk trivial
theorem aCf(x:D)(hN:Cq 75 [.sl 1 true [[int x.1],[int x.2]]] (.sl 4 false (iB [CF x.1,CF x.2])))(h:True):Cq 74 [.agg (aQ x)] (val (dtV x)):=by
 have _:=h;exact aj [kc [] hN,kc [] (@azf (false) ([[int 1,int x.1,str ByteArray.empty,AV.sl 4 false []],[int 1,int x.2,str ByteArray.empty,AV.sl 4 false []]]))]
theorem aCg(x:TL)(hN:Cq 75 [.sl 1 true [[int x.1],[int x.2.1],[int x.2.2]]] (.sl 4 false (iB [CF x.1,CF x.2.1,CF x.2.2])))(h:True):Cq 176 [.agg (ze x)] (val (taV x)):=by
 have _:=h;exact aj [kc [] hN,kc [] (@azf (false) ([[int 1,int x.1,str ByteArray.empty,AV.sl 4 false []],[int 1,int (Prod.fst x.2),str ByteArray.empty,AV.sl 4 false []],[int 1,int (Prod.snd x.2),str ByteArray.empty,AV.sl 4 false []]]))]
theorem aCh(m:MK)(n:Int)(hf:Cq 253 [Am.bool m.on] (int n))(hN:Cq 75 [.sl 1 true [[int m.dv],[int m.sq],[int m.tm],[int m.fd],[int m.fs],[int m.fa],[int m.td],[int m.ts],[int m.ta],[int m.st],[int n]]] (.sl 4 false (iB [CF m.dv,CF m.sq,CF m.tm,CF m.fd,CF m.fs,CF m.fa,CF m.td,CF m.ts,CF m.ta,CF m.st,CF n])))(h:True):Cq 178 [.agg (Tx.aQ m)] (val (lsV [CF m.dv,CF m.sq,CF m.tm,CF m.fd,CF m.fs,CF m.fa,CF m.td,CF m.ts,CF m.ta,CF m.st,CF n])):=by
 have _:=h;exact aj [kc [] hf,kc [] hN,kc [] (@azf (false) ([[int 1,int m.dv,str ByteArray.empty,AV.sl 4 false []],[int 1,int m.sq,str ByteArray.empty,AV.sl 4 false []],[int 1,int m.tm,str ByteArray.empty,AV.sl 4 false []],[int 1,int m.fd,str ByteArray.empty,AV.sl 4 false []],[int 1,int m.fs,str ByteArray.empty,AV.sl 4 false []],[int 1,int m.fa,str ByteArray.empty,AV.sl 4 false []],[int 1,int m.td,str ByteArray.empty,AV.sl 4 false []],[int 1,int m.ts,str ByteArray.empty,AV.sl 4 false []],[int 1,int m.ta,str ByteArray.empty,AV.sl 4 false []],[int 1,int m.st,str ByteArray.empty,AV.sl 4 false []],[int 1,int n,str ByteArray.empty,AV.sl 4 false []]]))]
theorem aCi(b:BE)(h:True):Cq 174 [.agg (Bd.aQ b)] (val (biV b)):=by
 have _:=h;exact aj [kc [] (@aBw b.ky),kc [] (@aAv b.dv),kc [] (@aAv b.sq),kc [] (@aAv b.tm),kc [] (@aBw b.vl),kc [] (@azf (true) ([[int 2,int 0,str b.ky,AV.sl 4 false []],[int 1,int b.dv,str ByteArray.empty,AV.sl 4 false []],[int 1,int b.sq,str ByteArray.empty,AV.sl 4 false []],[int 1,int b.tm,str ByteArray.empty,AV.sl 4 false []],[int 2,int 0,str b.vl,AV.sl 4 false []]]))]
theorem aCj(c:CE)(g:Nat)(n:Int)(l:List CV)(hl:l.length=7)(hf:Cq 253 [Am.bool c.gn] (int n))(hN:ak P G 75 [.sl 1 true [[int c.dv],[int c.sq],[int c.gU],[int c.ad],[int c.j6],[int c.aa],[int c.tm]]] [] (.ret (.aU 0 g 0 7)) [.aN g 4 false (iB l)])(hO:ak P G 53 [.aU 0 (g+1) 0 9] [.aN (g+1) 4 false (iB l++[[int 2,int 0,str c.vl,.sl 4 false []],[int 1,int n,str .empty,.sl 4 false []]])] (.ret (.agg [int 3,int 0,str .empty,.aU 0 (g+1) 0 9])) [.aN (g+1) 4 false (iB l++[[int 2,int 0,str c.vl,.sl 4 false []],[int 1,int n,str .empty,.sl 4 false []]])])(x:AV)(H':List ah)(h:(aF (AV.agg [int 3,int 0,str ByteArray.empty,AV.aU 2 (g+1) 0 9]) (x))/\([ah.box [int c.dv,int c.sq,int c.gU,int c.ad,int c.j6,int c.aa,int c.tm,str c.vl,Am.bool c.gn],ah.box [int 3,int 0,str ByteArray.empty,AV.aU 2 (g+1) 0 9],ah.aN (g+1) 4 false (iB l++[[int 2,int 0,str c.vl,AV.sl 4 false []],[int 1,int n,str ByteArray.empty,AV.sl 4 false []]])]=H')):ak P G 173 [.agg (Sq.aQ c)] [] (aS.ret x) H':=by
 have hz9:∀(x:List AV),x∈iB l++[[int 2,int 0,str c.vl,AV.sl 4 false []],[int 1,int n,str ByteArray.empty,AV.sl 4 false []]]->AV.aM [] x=true:=(by exact(Am.dx (Go.yU.axm _) (Am.dM rfl (Am.dM rfl Am.eU))));obtain⟨e1,eH⟩:=h;exact ak.heap (ak.out ((show ak P G 173 [.agg (Sq.aQ c)] [] (aS.ret (AV.agg [int 3,int 0,str ByteArray.empty,AV.aU 2 (g+1) 0 9])) [ah.box [int c.dv,int c.sq,int c.gU,int c.ad,int c.j6,int c.aa,int c.tm,str c.vl,Am.bool c.gn],ah.box [int 3,int 0,str ByteArray.empty,AV.aU 2 (g+1) 0 9],ah.aN (g+1) 4 false (iB l++[[int 2,int 0,str c.vl,AV.sl 4 false []],[int 1,int n,str ByteArray.empty,AV.sl 4 false []]])]from aj [kc [] hN,kp (Go.yU.axm l),kc [] (@aBw c.vl),kc [] hf,kc [] (@aAv (n)),kq g,kp (show 7=length (iB l)from(by simp only[yD,yE,length_nil,length_map,Go.yU.fA,Go.yU.WV,Go.yU.axm,Go.yU.aa7]<;>omega)),vV 504,kc [2] hO,kp hz9,kp hz9])) e1) eH
theorem aCk(f:FD)(v:CV)(hk:f.pk=1)(h1:Cq 172 [Sq.bZ f.ce,gP 173] (val v))(h:True):Cq 78 [.agg (jB f)] (val v):=by
 have _:=h;exact aj [kt (show(f.pk==1)=true from(qT zO)),kc [] h1]
theorem aCl(f:FD)(v:CV)(hk:f.pk=2)(h1:Cq 146 [Bd.iK f.bi,gP 174] (val v))(h:True):Cq 78 [.agg (jB f)] (val v):=by
 have _:=h;exact aj [kf (show(f.pk==1)=false from(qF zO)),kt (show(f.pk==2)=true from(qT zO)),kc [] h1]
theorem aCm(f:FD)(v:CV)(hk:f.pk=3)(h1:Cq 175 [mF f.ta,gP 176] (val v))(h:True):Cq 78 [.agg (jB f)] (val v):=by
 have _:=h;exact aj [kf (show(f.pk==1)=false from(qF zO)),kf (show(f.pk==2)=false from(qF zO)),kt (show(f.pk==3)=true from(qT zO)),kc [] h1]
theorem aCn(f:FD)(v w:List CV)(h1:¬f.pk=1)(h2:¬f.pk=2)(h3:¬f.pk=3)(hc:Cq 172 [Sq.bZ f.tc,gP 173] (rR 3 0 .empty v))(hm:Cq 177 [Tx.oI f.tm,gP 178] (rR 3 0 .empty w))(h:True):Cq 78 [.agg (jB f)] (val (lsV [lsV v,lsV w])):=by
 have _:=h;exact aj [kf (show(f.pk==1)=false from(qF zO)),kf (show(f.pk==2)=false from(qF zO)),kf (show(f.pk==3)=false from(qF zO)),kc [] hc,kc [] hm,kc [] (@azf (true) ([[int 3,int 0,str ByteArray.empty,AV.sl 4 false (iB v)],[int 3,int 0,str ByteArray.empty,AV.sl 4 false (iB w)]]))]
theorem aCo(f:FD)(v:CV)(hc:Cq 78 [.agg (jB f)] (.agg [int v.k,int v.n,str v.s,.sl 4 false (iB v.l)]))(h:True):Cq 77 [.agg (jB f)] (.agg [int 3,int 0,str ByteArray.empty,.sl 4 false [[int 1,int f.pk,str ByteArray.empty,.sl 4 false []],[int 2,int 0,str f.pn,.sl 4 false []],[int v.k,int v.n,str v.s,.sl 4 false (iB v.l)]]]):=by
 have _:=h;exact aj [kc [] (@aAv f.pk),kc [] (@aBw f.pn),kc [] hc,kc [] (@azf (true) ([[int 1,int f.pk,str ByteArray.empty,AV.sl 4 false []],[int 2,int 0,str f.pn,AV.sl 4 false []],[int v.k,int v.n,str v.s,AV.sl 4 false (iB v.l)]]))]
end Go.Dc
namespace Go.Dc
open Go Go.Am Go.Proofs Go.eY Go.bH
open Go.yU (CV rR val Cy iB fA QG av7 gT jg dp JO wf Lb)
open Go.Sq (CE)
open Go.Bd (BE)
open Go.Tx (MK)
theorem aA6(x:Int)(l:List Int)(hl:l.length<=800){y:List (List AV)}(h:its (x::l)=y):Cq 75 [.sl 1 true y] (.sl 4 false (iB ((x::l).map CF))):=h▸aBI x l hl
theorem aCp(x:D):Cq 74 [.agg (bH.aQ x)] (val (dtV x)):=aCf x (aA6 x.1 [x.2] zS rfl) trivial
theorem aCq(x:TL):Cq 176 [.agg (ze x)] (val (taV x)):=aCg x (aA6 x.1 [x.2.1,x.2.2] zS rfl) trivial
theorem aCr(m:MK):Cq 178 [.agg (Tx.aQ m)] (val (maV m)):=aCh m _ (aCe m.on) (aA6 m.dv [m.sq,m.tm,m.fd,m.fs,m.fa,m.td,m.ts,m.ta,m.st,if m.on then 1 else 0] zS rfl) trivial
theorem aCs(b:BE):Cq 174 [.agg (Bd.aQ b)] (val (biV b)):=aCi b trivial
theorem aCt(c:CE):Cq 173 [.agg (Sq.aQ c)] (val (ceV c)):=by
 obtain⟨g,hN⟩:=aA5 true c.dv [c.sq,c.gU,c.ad,c.j6,c.aa,c.tm] zS;let l:List CV:=[c.dv,c.sq,c.gU,c.ad,c.j6,c.aa,c.tm].map CF;have e:iB l++[[int 2,int 0,str c.vl,.sl 4 false []],[int 1,int (if c.gn then 1 else 0),str .empty,.sl 4 false []]]=iB (l++[wdV c.vl,flV c.gn]):=by rw[<- yU.avw];rfl
 have hO:=aDj (iB (l++[wdV c.vl,flV c.gn])) (g+1) 9 ⟨aw4 _ _,yO⟩;rw[<- e]at hO;have h:=aCj c g _ l rfl (aCe c.gn) hN hO _ _ ⟨aF.refl _,rfl⟩;rw[e]at h;exact(h.aBH (z:=iB (l++[wdV c.vl,flV c.gn])) (ds:=[int 3,int 0,str .empty,.sl 4 false (iB (l++[wdV c.vl,flV c.gn]))]) (H1:=[.box (Sq.aQ c),.box [int 3,int 0,str .empty,.aU 2 (g+1) 0 9],.aN (g+1) 4 true (iB (l++[wdV c.vl,flV c.gn]))]) (ps:=[g+1=g+1,List.take 9 (List.drop 0 (iB (l++[wdV c.vl,flV c.gn])))=iB (l++[wdV c.vl,flV c.gn]),(iB (l++[wdV c.vl,flV c.gn])).length=9,∀u∈iB (l++[wdV c.vl,flV c.gn]),u.all AV.fJ=true]) rfl ⟨rfl,rfl,rfl,yU.WV _,yO⟩).BM (H3:=[]) (qs:=[]) rfl trivial
theorem aAF(l:List CE)(h:l.length<=500000):Cq 172 [Sq.bZ l,gP 173] (val (lsV (l.map ceV))):=aAQ (E:=Sq.aQ) (V:=ceV) zD aC7 l h fun x _=>aCt x
theorem aCu(f:FD)(h:XW f)(hs:f.ce.length<=500000/\f.bi.length<=500000/\f.ta.length<=500000/\f.tc.length<=500000/\f.tm.length<=500000):Cq 78 [.agg (jB f)] (val (coV f)):=by
 unfold coV;by_cases h1:f.pk=1
 .rw [yL h1];exact aCk f _ h1 (aAF _ hs.1) trivial
 .rw [yK h1];by_cases h2:f.pk=2
  .rw [yL h2];exact aCl f _ h2 (aAQ (E:=Bd.aQ) (V:=biV) zD aC8 f.bi hs.2.1 fun x _=>aCs x) trivial
  .rw [yK h2];by_cases h3:f.pk=3
   .rw [yL h3];exact aCm f _ h3 (aAQ (E:=ze) (V:=taV) zD aC9 f.ta hs.2.2.1 fun x _=>aCq x) trivial
   .rw [yK h3];exact aCn f _ _ h1 h2 h3 (aAF _ hs.2.2.2.1) (aAQ (E:=Tx.aQ) (V:=maV) zD aDa f.tm hs.2.2.2.2 fun x _=>aCr x) trivial
theorem aCv(f:FD)(h:XW f)(hs:f.ce.length<=500000/\f.bi.length<=500000/\f.ta.length<=500000/\f.tc.length<=500000/\f.tm.length<=500000):Cq 77 [.agg (jB f)] (val (fdV f)):=by
 have e:val (fdV f) = .agg [int 3,int 0,str .empty,.sl 4 false [[int 1,int f.pk,str .empty,.sl 4 false []],[int 2,int 0,str f.pn,.sl 4 false []],[int (coV f).k,int (coV f).n,str (coV f).s,.sl 4 false (iB (coV f).l)]]]:=by
  show AV.agg [int 3,int 0,str .empty,.sl 4 false [(CF f.pk).cells,(wdV f.pn).cells,(coV f).cells]]=_;rw[yU.aa6 (coV f)];rfl
 rw[e];exact aCo f (coV f) (aCu f h hs) trivial
theorem awn{α:Type}{f:α->CV}(h:∀x,wf (f x)=true):∀l:List α,Lb (l.map f)=true
 |[]=>rfl
 |x::l=>by rw[map_cons,Lb,h x,awn h l];rfl
theorem avL{l:List CV}(h:Lb l=true):wf (lsV l)=true:=by simp[lsV,wf,h]
theorem aAe(n:Int):wf (CF n)=true:=by simp[CF,wf]
theorem aA7(s:yP):wf (wdV s)=true:=by simp[wdV,wf]
theorem aBz(c:CE):wf (ceV c)=true:=avL (by simp[Lb,aAe,aA7,flV])
theorem aCw(f:FD):wf (coV f)=true:=by
 unfold coV;split
 .exact avL (awn aBz _)
 .split
  .exact avL (awn (fun x=>avL (by simp[Lb,aAe,aA7])) _)
  .split
   .exact avL (awn (fun x=>avL (by simp[Lb,aAe])) _)
   .exact avL (by simp[Lb,avL (awn aBz f.tc),avL (awn (f:=maV) (fun x=>avL (by simp[Lb,aAe,flV])) f.tm)])
theorem aAh(d:DO):wf (auy d)=true:=avL (by simp[Lb,avL (awn (f:=dtV) (fun x=>avL (by simp[Lb,aAe])) d.sn),avL (awn (f:=fdV) (fun x=>avL (by simp[Lb,aAe,aA7,aCw])) d.fs)])
theorem awo{α:Type}{f:α->CV}{n:Nat}(h:∀x,dp (f x)<=n):∀l:List α,JO (l.map f)<=n
 |[]=>Nat.zero_le _
 |x::l=>by rw[map_cons,JO];exact Nat.max_le.2 ⟨h x,awo h l⟩
theorem avU{l:List CV}{n:Nat}(h:JO l<=n):dp (lsV l)<=n+1:=by simp only[lsV,dp,if_true];omega
theorem aBA(c:CE):dp (ceV c)<=1:=avU (by simp[JO,dp,CF,wdV,flV])
theorem aCx(f:FD):dp (coV f)<=3:=by
 unfold coV;split
 .exact Nat.le_succ_of_le (avU (awo aBA _))
 .split
  .exact Nat.le_succ_of_le (avU (awo (n:=1) (fun x=>avU (by simp[JO,dp,CF,wdV])) _))
  .split
   .exact Nat.le_succ_of_le (avU (awo (n:=1) (fun x=>avU (by simp[JO,dp,CF])) _))
   .refine avU ?_;have h1:=avU (awo aBA f.tc);have h2:=avU (awo (n:=1) (f:=maV) (fun x=>avU (by simp[JO,dp,CF,flV])) f.tm);simp only[JO];omega
theorem az3(d:DO):dp (auy d)<=6:=by
 refine avU ?_;have h1:=avU (awo (n:=1) (f:=dtV) (fun x=>avU (by simp[JO,dp,CF])) d.sn);have h2:=avU (awo (n:=4) (f:=fdV) (fun x=>avU (by have:=aCx x;simp only[JO,dp,CF,wdV];simp;omega)) d.fs);simp only[JO];omega
theorem aAG(d:DO):jg (auy d)=0:=by
 unfold jg;have:=az3 d;rw[yL (aAh d),yK zO]
theorem aA8(d:DO):av7 (auy d)=gT (auy d):=by unfold av7;rw[yL (aAG d)]
theorem aua{n:Int}(h:bV.Sv n):QG (CF n):=.mk _ _ _ _ h yN yN (fun _ h=>by cases h)
theorem aAx{s:yP}(h:s.size<=pU):QG (wdV s):=.mk _ _ _ _ ⟨zD,zD⟩ h yN (fun _ h=>by cases h)
theorem aw5{l:List CV}(h:l.length<=pU)(k:∀x∈l,QG x):QG (lsV l):=.mk _ _ _ _ ⟨zD,zD⟩ yN h k
theorem axd{α:Type}{f:α->CV}{l:List α}(h:l.length<=pU)(k:∀x∈l,QG (f x)):QG (lsV (l.map f)):=aw5 (by rw[length_map];exact h) fun x hx=>by
 obtain⟨y,hy,rfl⟩:=yG.1 hx;exact k y hy
theorem aA9(b:Bool):bV.Sv (if b then 1 else 0):=by cases b<;>exact⟨zD,zD⟩
theorem aBa{c:CE}(h:Sq.Cu c/\bV.Sv c.tm/\c.vl.size<=pU):QG (ceV c):=by
 obtain⟨⟨⟨a1,a2,a3⟩,b1,b2,b3⟩,t,v⟩:=h;refine aw5 (by simp only[yE,length_nil];decide) fun x hx=>?_;simp only[yH,not_mem_nil,or_false]at hx;rcases hx with rfl|rfl|rfl|rfl|rfl|rfl|rfl|rfl|rfl
 .exact aua a1
 .exact aua a2
 .exact aua a3
 .exact aua b1
 .exact aua b2
 .exact aua b3
 .exact aua t
 .exact aAx v
 .exact aua (aA9 _)
theorem aBJ{m:MK}(h:Tx.OkM m):QG (maV m):=by
 obtain⟨a1,a2,a3,a4,a5,a6,a7,a8,a9,b1⟩:=h;refine aw5 (by simp only[yE,length_nil];decide) fun x hx=>?_;simp only[yH,not_mem_nil,or_false]at hx;rcases hx with rfl|rfl|rfl|rfl|rfl|rfl|rfl|rfl|rfl|rfl|rfl
 all_goals first|exact aua (aA9 _)|exact aua (by assumption)
theorem azY{d:DO}(h:avT d):QG (auy d):=by
 refine aw5 (by simp only[yE,length_nil];decide) fun x hx=>?_;simp only[yH,not_mem_nil,or_false]at hx;rcases hx with rfl|rfl
 .refine axd h.ls fun x hx=>aw5 (by simp only[yE,length_nil];decide) fun y hy=>?_;simp only[yH,not_mem_nil,or_false]at hy;rcases hy with rfl|rfl
  .exact aua (h.rs x hx).1
  .exact aua (h.rs x hx).2
 .refine axd h.lf fun f hf=>aw5 (by simp only[yE,length_nil];decide) fun y hy=>?_;have k:=h.rf f hf;simp only[yH,not_mem_nil,or_false]at hy;rcases hy with rfl|rfl|rfl
  .exact aua k.pk
  .exact aAx k.pn
  .unfold coV;split
   .exact axd k.lc fun x hx=>aBa (k.rc x hx)
   .split
    .refine axd k.lb fun x hx=>aw5 (by simp only[yE,length_nil];decide) fun y hy=>?_;obtain⟨⟨b1,b2,b3⟩,b4,b5⟩:=k.rb x hx;simp only[yH,not_mem_nil,or_false]at hy;rcases hy with rfl|rfl|rfl|rfl|rfl
     all_goals first|exact aAx (by assumption)|exact aua (by assumption)
    .split
     .refine axd k.la fun x hx=>aw5 (by simp only[yE,length_nil];decide) fun y hy=>?_;obtain⟨b1,b2,b3⟩:=k.ra x hx;simp only[yH,not_mem_nil,or_false]at hy;rcases hy with rfl|rfl|rfl
      all_goals exact aua (by assumption)
     .refine aw5 (by simp only[yE,length_nil];decide) fun y hy=>?_;simp only[yH,not_mem_nil,or_false]at hy;rcases hy with rfl|rfl
      .exact axd k.lt fun x hx=>aBa (k.rt x hx)
      .exact axd k.lm fun x hx=>aBJ (k.rm x hx)
theorem aAy{d:DO}(ha:avT d)(dm:Dim d)(h5:d.sn.length<=500000/\d.fs.length<=500000)(hs:∀f∈d.fs,f.ce.length<=500000/\f.bi.length<=500000/\f.ta.length<=500000/\f.tc.length<=500000/\f.tm.length<=500000)(hl:F9 d=0->(gT (auy d)).length<=10000000) :
 ak P G 21 [kI d] [] (.ret (if F9 d=0 then .bq [Cy (gT (auy d)),int 0]else .bq [aK,int 180])) []:=by
 have hK:=fG d dm;by_cases h:F9 d=0
 .rw [yL h];rw[h]at hK;have hE:=yU.awI (auy d) (azY ha) (by have:=az3 d;omega) fun _=>hl h;rw[aA8,aAG]at hE;exact azg d (d.sn.map dtV) (d.fs.map fdV) _ 0 hK (aAQ (E:=bH.aQ) (V:=dtV) zD aC5 d.sn h5.1 fun x _=>aCp x) (aAQ (E:=jB) (V:=fdV) zD aC6 d.fs h5.2 fun f hf=>aCv f (dm.len f hf) (hs f hf)) hE trivial
 .rw [yK h];have e:F9 d=180:=by unfold F9 at h |-;split;(rename_i k;rw[yL k]at h;exact absurd rfl h);rfl
  rw[e]at hK;exact aCK d 180 zD hK trivial
end Go.Dc
namespace Go.Dc
open Go Go.Am Go.Proofs Go.eY Go.bH
open Go.bV (OP op jy)
theorem ayT(f:FD)(h:((((↑(length f.tc):Int)<=40)->(decide ((↑(length f.tm):Int)<=12))=(decide (length f.tc<=40/\length f.tm<=12)))/\((¬(↑(length f.tc):Int)<=40)->(false)=(decide (length f.tc<=40/\length f.tm<=12))))):Cq 115 [Tx.mG (Gb f)] (Am.bool (decide (length f.tc<=40/\length f.tm<=12))):=by
 have bS:Am.aF (int (↑(length (Sq.au (Tx.TE.cells (Gb f)))):Int)) (int ↑(length f.tc)):=(aF.of_eq (by simp only[Go.Sq.ay]));by_cases c1:((↑(length f.tc):Int)<=40)
 .have h:=h.1 c1;exact aA (aF.aI h) [kv 5 bS,kt (qT c1),kv 10 (show Am.aF (int (↑(length (Tx.au (Tx.TE.bQ (Gb f)))):Int)) (int ↑(length f.tm))from(aF.of_eq (by simp only[Go.Tx.ay])))]
 .have h:=h.2 c1;exact aA (aF.aI h) [kv 5 bS,kf (qF c1)]
theorem ayU(f:FD):Cq 115 [Tx.mG (Gb f)] (Am.bool (decide (f.tc.length<=40/\f.tm.length<=12))):=ayT f (by grind)
def smF(f:FD):Bool:=decide (f.ce.length<=40)&&Bd.avy f.bi&&decide (f.ta.length<=20)&&decide (f.tc.length<=40/\f.tm.length<=12)
def fwS(d:DO)(k:Nat):St:={ aL:=aC 49 [(1,.ptr 0 0),(2,Am.bool false),(3,int k)],H:=[.box [bB d.sn,Md d.fs]] }
def fwX(d:DO):St:={ aL:=aC 49 [(1,.ptr 0 0),(2,Am.bool false)],H:=[.box [bB d.sn,Md d.fs]] }
theorem azv(d:DO)(k:Nat)(hk:¬(k:Int)<(d.fs.length:Int))(h:True):Rq 0 39 0 (fwS d k) (bF.exit 0) (fwX d):=by
 have _:=h;exact aG [kN 8 (fE d.fs),kj ((k:Int)<(↑(length d.fs):Int))] (aB 49 [1,2]) 1
theorem azw(d:DO)(k:Nat)(f:FD)(hl:d.fs.length<=9223372036854775807)(hk:(k:Int)<(d.fs.length:Int))(hx:d.fs[k]?=some f)(a b t:Bool)(ha:Cq 113 [Sq.bZ f.ce] (Am.bool a))(hb:Cq 114 [Bd.iK f.bi] (Am.bool b))(ht:Cq 115 [Tx.mG (Gb f)] (Am.bool t))(ex:bF)(s':St)(h:((((a)=true)->((((b)=true)->((((↑(length f.ta):Int)>20)->(bF.ret=ex)/\(sM 49 [(1,.ptr 0 0),(2,Am.bool false)] [.box [bB d.sn,.sl 7 false (dA d.fs)]]=s'))/\((¬(↑(length f.ta):Int)>20)->((((t)=true)->Rq 0 39 0 (sM 49 [(1,.ptr 0 0),(2,Am.bool false),(3,int ↑(k+1))] [.box [bB d.sn,.sl 7 false (dA d.fs)]]) ex s')/\(((t)=false)->(bF.ret=ex)/\(sM 49 [(1,.ptr 0 0),(2,Am.bool false)] [.box [bB d.sn,.sl 7 false (dA d.fs)]]=s'))))))/\(((b)=false)->(bF.ret=ex)/\(sM 49 [(1,.ptr 0 0),(2,Am.bool false)] [.box [bB d.sn,.sl 7 false (dA d.fs)]]=s'))))/\(((a)=false)->(bF.ret=ex)/\(sM 49 [(1,.ptr 0 0),(2,Am.bool false)] [.box [bB d.sn,.sl 7 false (dA d.fs)]]=s')))):Rq 0 39 0 (fwS d k) ex s':=by
 let l1:List fP:=[kN 8 (fE d.fs),ki ((k:Int)<(↑(length d.fs):Int)),ke (jB f) (dA d.fs) k (bG hx),kc [] ha];rcases Bool.eq_false_or_eq_true ((a))with c2|c2
 .have h:=h.1 c2;have Av:(!a)=false:=(yJ Bool.not (c2));rcases Bool.eq_false_or_eq_true ((b))with c3|c3
  .have h:=h.1 c3;let l2:List fP:=l1++[kf Av,kc [] hb,kf (show(!b)=false from(yJ Bool.not (c3))),kN 30 (dP f.ta)];by_cases c4:((↑(length f.ta):Int)>20)
   .have h:=h.1 c4;obtain⟨eX,eS⟩:=h;exact bN.to ((show Rq 0 39 0 (fwS d k) bF.ret (sM 49 [(1,.ptr 0 0),(2,Am.bool false)] [.box [.sl 2 false (au d.sn),.sl 7 false (dA d.fs)]])from aG (l2++[kt (qT c4),kO]) (aB 49 [1,2]) 1)) eX (eB.of_eq eS)
   .have h:=h.2 c4;rcases Bool.eq_false_or_eq_true ((t))with c5|c5
    .have h:=h.1 c5;exact aJ (l2++[kf (qF c4),kc [] ht,kf (show(!t)=false from(yJ Bool.not (c5))),kW 11 (k+1) ↑(k+1)]) (aB 49 [1,2,3]) 1 h
    .have h:=h.2 c5;obtain⟨eX,eS⟩:=h;exact bN.to ((show Rq 0 39 0 (fwS d k) bF.ret (sM 49 [(1,.ptr 0 0),(2,Am.bool false)] [.box [.sl 2 false (au d.sn),.sl 7 false (dA d.fs)]])from aG (l2++[kf (qF c4),kc [] ht,kt (show(!t)=true from(yJ Bool.not (c5)))]) (aB 49 [1,2]) 1)) eX (eB.of_eq eS)
  .have h:=h.2 c3;obtain⟨eX,eS⟩:=h;exact bN.to ((show Rq 0 39 0 (fwS d k) bF.ret (sM 49 [(1,.ptr 0 0),(2,Am.bool false)] [.box [.sl 2 false (au d.sn),.sl 7 false (dA d.fs)]])from aG (l1++[kf Av,kc [] hb,kt (show(!b)=true from(yJ Bool.not (c3))),kO,kO]) (aB 49 [1,2]) 1)) eX (eB.of_eq eS)
 .have h:=h.2 c2;obtain⟨eX,eS⟩:=h;exact bN.to ((show Rq 0 39 0 (fwS d k) bF.ret (sM 49 [(1,.ptr 0 0),(2,Am.bool false)] [.box [.sl 2 false (au d.sn),.sl 7 false (dA d.fs)]])from aG (l1++[kt (show(!a)=true from(yJ Bool.not (c2))),kO,kO,kO]) (aB 49 [1,2]) 1)) eX (eB.of_eq eS)
theorem azx(d:DO)(hL:Rq 0 39 0 (fwS d 0) (.exit 0) (fwX d))(b:Bool)(h:((((↑(length d.sn):Int)<=20)->(decide ((↑(length d.fs):Int)<=6))=(b))/\((¬(↑(length d.sn):Int)<=20)->(false)=(b)))):Cq 39 [kI d] (Am.bool b):=by
 let l1:List fP:=[kl (rG [(0,1),(4,45)]) 1 hL,kN 41 (Go.bH.ay d.sn)];by_cases c1:((↑(length d.sn):Int)<=20)
 .have h:=h.1 c1;exact aA (aF.aI h) (l1++[kt (qT c1),kN 46 (fE d.fs)])
 .have h:=h.2 c1;exact aA (aF.aI h) (l1++[kf (qF c1)])
theorem azy(d:DO)(hL:Rq 0 39 0 (fwS d 0) .ret (fwX d))(h:True):Cq 39 [kI d] (Am.bool false):=by
 have _:=h;exact aj [kl (rG [(0,1),(4,45)]) 1 hL]
def lwS(d:DO)(t:Bool)(l:List OP)(k:Nat):St:={ aL:=aC 19 [(2,.ptr 0 0),(4,Am.bool false),(7,.sl 17 t (l.map jy)),(8,int l.length),(9,int k)],H:=[.box [bB d.sn,Md d.fs]] }
def lwX(d:DO):St:={ aL:=aC 19 [(2,.ptr 0 0),(4,Am.bool false)],H:=[.box [bB d.sn,Md d.fs]] }
theorem azz(d:DO)(t:Bool)(l:List OP)(k:Nat)(hk:¬(k:Int)<(l.length:Int))(h:True):Rq 0 11 0 (lwS d t l k) (bF.exit 0) (lwX d):=by
 have _:=h;exact aG [kj ((k:Int)<l.length)] (aB 19 [2,4]) 1
theorem azA(d:DO)(t:Bool)(l:List OP)(k:Nat)(o:OP)(hl:l.length<=1000000)(hk:(k:Int)<(l.length:Int))(hx:l[k]?=some o)(hF:Cq 38 [op o] (Am.bool true))(ex:bF)(s':St)(h:Rq 0 11 0 (sM 19 [(2,.ptr 0 0),(4,Am.bool false),(7,.sl 17 t (List.map jy l)),(8,int ↑l.length),(9,int ↑(k+1))] [.box [bB d.sn,.sl 7 false (dA d.fs)]]) ex s'):Rq 0 11 0 (lwS d t l k) ex s':=by
 exact aJ [ki ((k:Int)<l.length),ke (jy o) (List.map jy l) k (bG hx),kc [] hF,kY,kW 16 (k+1) ↑(k+1)] (aB 19 [2,4,7,8,9]) 1 h
theorem azB(d:DO)(t:Bool)(l:List OP)(k:Nat)(o:OP)(hl:l.length<=1000000)(hk:(k:Int)<(l.length:Int))(hx:l[k]?=some o)(hF:Cq 38 [op o] (Am.bool false))(h:True):Rq 0 11 0 (lwS d t l k) bF.ret (lwX d):=by
 have _:=h;exact aG [ki ((k:Int)<l.length),ke (jy o) (List.map jy l) k (bG hx),kc [] hF,kO] (aB 19 [2,4]) 1
theorem azC(d:DO)(t:Bool)(l:List OP)(b:Bool)(hF:Cq 39 [kI d] (Am.bool b))(hL:Rq 0 11 0 (lwS d t l 0) (.exit 0) (lwX d))(h:True):Cq 11 [kI d,.sl 17 t (List.map jy l)] (Am.bool b):=by
 have _:=h;exact aj [kv 8 (show Am.aF (int (↑(length (List.map jy l)):Int)) (int ↑l.length)from(aF.of_eq (by simp only[length_map]))),kl (rG [(0,2),(3,1),(5,2),(10,9)]) 1 hL,kc [] hF]
theorem azD(d:DO)(t:Bool)(l:List OP)(hL:Rq 0 11 0 (lwS d t l 0) .ret (lwX d))(h:True):Cq 11 [kI d,.sl 17 t (List.map jy l)] (Am.bool false):=by
 have _:=h;exact aj [kv 8 (show Am.aF (int (↑(length (List.map jy l)):Int)) (int ↑l.length)from(aF.of_eq (by simp only[length_map]))),kl (rG [(0,2),(3,1),(5,2),(10,9)]) 1 hL]
theorem axN(d:DO)(h:avT d):∀n k,d.fs.length-k=n->k<=d.fs.length->bN P G none 0 (vg P 39 0) (fwS d k) (if(d.fs.drop k).all smF=true then .exit 0 else .ret) (fwX d):=by
 intro n
 induction n with
 |zero =>
  intro k h1 h2;rw[drop_of_length_le zO];exact azv d k zO trivial
 |succ n ih =>
  intro k h1 h2;have bg:k<d.fs.length:=zO
  have nx:=ih (k+1) zO zO;have hb:=(h.rf _ (getElem_mem bg)).lb;have no:smF d.fs[k]=false->(smF d.fs[k]&&(d.fs.drop (k+1)).all smF)=false:=fun e=>by rw[e,Bool.false_and]
  rw[drop_eq_getElem_cons bg,all_cons];refine azw d k d.fs[k] h.lf zO (yA bg) _ _ _ (Sq.up (Sq.alz d.fs[k].ce)) (Bd.axY _ hb) (ayU _) _ _ ⟨fun a=>⟨fun b=>⟨fun c=>?_,fun c=>⟨fun t=>?_,fun t=>?_⟩⟩,fun b=>?_⟩,fun a=>?_⟩
  .rw [no (by simp only[smF,a,b,Bool.true_and];rw[decide_eq_false zO];rfl)];exact⟨rfl,rfl⟩
  .rw [show smF d.fs[k]=true by simp only[smF,a,b,t,Bool.true_and,Bool.and_true];exact decide_eq_true zO,Bool.true_and];exact nx
  .rw [no (by simp only[smF,t,Bool.and_false])];exact⟨rfl,rfl⟩
  .rw [no (by simp only[smF,b,Bool.and_false,Bool.false_and])];exact⟨rfl,rfl⟩
  .rw [no (by simp only[smF,a,Bool.false_and])];exact⟨rfl,rfl⟩
def smD(d:DO):Bool:=d.fs.all smF&&decide (d.sn.length<=20/\d.fs.length<=6)
theorem ayi(d:DO)(h:avT d):ak P G 39 [kI d] [] (.ret (Am.bool (smD d))) []:=by
 have hL:=axN d h _ 0 rfl yN;rw[drop_zero]at hL;unfold smD;cases e:d.fs.all smF with
 |true =>
  rw[e,yL rfl]at hL;refine azx d hL _ ⟨fun a=>?_,fun a=>?_⟩<;>rw[Bool.true_and]<;>grind
 |false =>
  rw[e,yK zD]at hL;exact azy d hL trivial
theorem axO(d:DO)(t:Bool)(l:List OP)(hl:l.length<=1000000)(hs:∀o∈l,bV.azI o):∀n k,l.length-k=n->k<=l.length->bN P G none 0 (vg P 11 0) (lwS d t l k) (if(l.drop k).all bV.atN=true then .exit 0 else .ret) (lwX d):=by
 intro n
 induction n with
 |zero =>
  intro k h1 h2;rw[drop_of_length_le zO];exact azz d t l k zO trivial
 |succ n ih =>
  intro k h1 h2;have bg:k<l.length:=zO
  have nx:=ih (k+1) zO zO;have hF:=bV.alz l[k] (hs _ (getElem_mem bg));rw[drop_eq_getElem_cons bg,all_cons];cases e:bV.atN l[k]with
  |true =>
   rw[e]at hF;rw[Bool.true_and];exact azA d t l k l[k] hl zO (yA bg) hF _ _ nx
  |false =>
   rw[e]at hF;exact azB d t l k l[k] hl zO (yA bg) hF trivial
theorem ayV(d:DO)(t:Bool)(l:List OP)(hd:avT d)(hl:l.length<=1000000)(hs:∀o∈l,bV.azI o):ak P G 11 [kI d,.sl 17 t (l.map jy)] [] (.ret (Am.bool (l.all bV.atN&&smD d))) []:=by
 have hL:=axO d t l hl hs _ 0 rfl yN;rw[drop_zero]at hL;cases e:l.all bV.atN with
 |true =>
  rw[e,yL rfl]at hL;exact azC d t l _ (ayi d hd) hL trivial
 |false =>
  rw[e,yK zD]at hL;exact azD d t l hL trivial
theorem ayj{d:DO}(h:avT d)(hs:smD d=true):SmD 40 d:=by
 unfold smD smF at hs;simp only[Bool.and_eq_true,decide_eq_true_eq,all_eq_true]at hs;obtain⟨h1,h2,h3⟩:=hs;refine⟨⟨zO,fun f hf=>?_⟩,zO,fun f hf=>?_⟩
 .obtain ⟨⟨⟨a,b⟩,c⟩,_⟩:=h1 f hf;unfold Bd.avy at b;simp only[Bool.and_eq_true,decide_eq_true_eq]at b;exact⟨a,zO,zO⟩
 .obtain ⟨_,a,b⟩:=h1 f hf;have k:=h.rf f hf;exact⟨⟨by show f.tc.length<=_;omega,by show f.tm.length<=_;omega,⟨fun x hx=>(k.rt x hx).1,k.rm⟩⟩,fun x hx=>(k.rc x hx).1⟩
end Go.Dc
namespace Go.Dc
open Go Go.Am Go.Proofs Go.eY Go.bH
open Go.yU (CV gT je wf Lb Nz abz)
open Go.Sq (CE)
open Go.Bd (BE)
open Go.Tx (MK)
theorem eN(n:Int):(gT (CF n)).length<=11:=by
 have:=(Nz (yU.vP n)).1;simp only[CF,gT,if_true,yE];omega
theorem eW(s:yP):(gT (wdV s)).length<=11+s.size:=by
 have:=(Nz s.size).1;have e:s.data.toList.length=s.size:=rfl;have q:gT (wdV s)=2::(yU.num s.size++s.data.toList):=by simp[wdV,gT]
 rw[q,yE,yD,e];omega
theorem eL(l:List CV):(gT (lsV l)).length<=11+(je l).length:=by
 have:=(Nz l.length).1;have q:gT (lsV l)=3::(yU.num l.length++je l):=by simp[lsV,gT]
 rw[q,yE,yD];omega
theorem eC(v:CV)(l:List CV):(je (v::l)).length=(gT v).length+(je l).length:=by rw[je,yD]
theorem eM{α:Type}{f:α->CV}{K:Nat}:∀{l:List α},(∀x∈l,(gT (f x)).length<=K)->(je (l.map f)).length<=K*l.length
 |[],_=>Nat.zero_le _
 |x::l,h=>by
  have h1:=h x (mem_cons_self ..);have h2:=eM (l:=l) fun y hy=>h y (yF _ hy);rw[map_cons,eC,yE,Nat.mul_succ];omega
theorem eCe(c:CE):(gT (ceV c)).length<=121+c.vl.size:=by
 refine Nat.le_trans (eL _) ?_;have h1:=eN c.dv;have h2:=eN c.sq;have h3:=eN c.gU;have h4:=eN c.ad;have h5:=eN c.j6;have h6:=eN c.aa;have h7:=eN c.tm;have h8:=eW c.vl;have h9:(gT (flV c.gn)).length<=11:=eN _;have h0:(je []).length=0:=rfl;simp only[eC,h0];omega
theorem eBi(b:BE):(gT (biV b)).length<=66+b.ky.size+b.vl.size:=by
 refine Nat.le_trans (eL _) ?_;have h1:=eW b.ky;have h2:=eN b.dv;have h3:=eN b.sq;have h4:=eN b.tm;have h5:=eW b.vl;have h0:(je []).length=0:=rfl;simp only[eC,h0];omega
theorem eTa(t:TL):(gT (taV t)).length<=44:=by
 refine Nat.le_trans (eL _) ?_;have h1:=eN t.1;have h2:=eN t.2.1;have h3:=eN t.2.2;have h0:(je []).length=0:=rfl;simp only[eC,h0];omega
theorem eMa(m:MK):(gT (maV m)).length<=132:=by
 refine Nat.le_trans (eL _) ?_;have h1:=eN m.dv;have h2:=eN m.sq;have h3:=eN m.tm;have h4:=eN m.fd;have h5:=eN m.fs;have h6:=eN m.fa;have h7:=eN m.td;have h8:=eN m.ts;have h9:=eN m.ta;have h10:=eN m.st;have h11:(gT (flV m.on)).length<=11:=eN _;have h0:(je []).length=0:=rfl;simp only[eC,h0];omega
theorem eDt(x:D):(gT (dtV x)).length<=33:=by
 refine Nat.le_trans (eL _) ?_;have h1:=eN x.1;have h2:=eN x.2;have h0:(je []).length=0:=rfl;simp only[eC,h0];omega
theorem eFd(f:FD):(gT (fdV f)).length<=33+f.pn.size+(gT (coV f)).length:=by
 refine Nat.le_trans (eL _) ?_;have h1:=eN f.pk;have h2:=eW f.pn;have h0:(je []).length=0:=rfl;simp only[eC,h0];omega
theorem aCy(d:DO):(gT (auy d)).length<=33+(je (d.sn.map dtV)).length+(je (d.fs.map fdV)).length:=by
 refine Nat.le_trans (eL _) ?_;have h1:=eL (d.sn.map dtV);have h2:=eL (d.fs.map fdV);have h0:(je []).length=0:=rfl;simp only[eC,h0];omega
theorem aBb{l:List CE}(h:Sq.jg l=0):∀x∈l,x.vl.size<=4096:=fun x hx=>by
 have:=(Sq.Ak.1 (Sq.aqI.1 h).1).1.valid x hx;simp only[Sq.dF,Bool.and_eq_true,decide_eq_true_eq]at this;omega
theorem aAH{d:DO}(hs:smD d=true)(h:F9 d=0):(gT (auy d)).length<=10000000:=by
 unfold smD smF at hs;simp only[Bool.and_eq_true,decide_eq_true_eq,all_eq_true]at hs;obtain⟨h1,h2,h3⟩:=hs;have hv:=(arD.1 h).2.1;have hF:∀f∈d.fs,(gT (fdV f)).length<=200000:=fun f hf=>by
  obtain⟨⟨⟨a,b⟩,c⟩,e1,e2⟩:=h1 f hf;unfold Bd.avy Bd.aY at b;simp only[Bool.and_eq_true,decide_eq_true_eq,all_eq_true]at b;have k:=hv f hf;have hz:=eFd f;have hpn:f.pn.size<=64:=by rcases asQ k with e|e|e|e;exact((arL e).1 k).2.2.2;exact((arM e).1 k).2.2.2;exact((asb e).1 k).2.2.2;exact((arC e).1 k).2.2.2.2
  have hc:(gT (coV f)).length<=190000:=by
   unfold coV;rcases asQ k with e|e|e|e
   .rw [yL e];have q:=aBb ((arL e).1 k).1;have:=eM (f:=ceV) (K:=4300) (l:=f.ce) fun x hx=>by have:=eCe x;have:=q x hx;omega
    have:=eL (f.ce.map ceV);omega
   .rw [yK zO,yL e];have:=eM (f:=biV) (K:=5200) (l:=f.bi) fun x hx=>by have:=eBi x;have:=b.1 x hx;omega
    have:=eL (f.bi.map biV);omega
   .rw [yK zO,yK zO,yL e];have:=eM (f:=taV) (K:=44) (l:=f.ta) fun x _=>eTa x;have:=eL (f.ta.map taV);omega
   .rw [yK zO,yK zO,yK zO];have q:=aBb (Tx.Yp.1 ((arC e).1 k).1).cells;have m1:=eM (f:=ceV) (K:=4300) (l:=f.tc) fun x hx=>by have:=eCe x;have:=q x hx;omega
    have m2:=eM (f:=maV) (K:=132) (l:=f.tm) fun x _=>eMa x;have m3:=eL (f.tc.map ceV);have m4:=eL (f.tm.map maV);have m5:=eL [lsV (f.tc.map ceV),lsV (f.tm.map maV)];have h0:(je []).length=0:=rfl;simp only[eC,h0]at m5;omega
  omega
 have m1:=eM hF;have m2:=eM (f:=dtV) (l:=d.sn) fun x _=>eDt x;have:=aCy d;omega
end Go.Dc
namespace Go.Dc
open Go Go.Am Go.Proofs Go.eY Go.bH
open Go.yU (CV gT je wf Lb QG abz AX)
open Go.bV (Sv)
abbrev zC:CV:=.mk 0 0 .empty []
theorem aAi(v:CV)(i:Nat):nth v i∈v.l\/nth v i=zC:=by
 unfold nth;rw[yB];cases e:v.l[i]? with
 |none=>exact .inr rfl
 |some x=>exact .inl (mem_of_getElem? e)
theorem axn{v:CV}(h:wf v=true):(je v.l).length<=(gT v).length/\v.s.size<=(gT v).length/\Lb v.l=true:=by
 obtain⟨k,n,s,l⟩:=v;have hs:s.data.toList.length=s.size:=rfl;have nl:l.length=0->l=[]:=eq_nil_of_length_eq_zero;unfold wf at h;unfold gT;simp only[CV.l,CV.s];split at h
 .simp only[Bool.and_eq_true,decide_eq_true_eq]at h;rw[h.1,nl h.2];exact⟨Nat.zero_le _,Nat.zero_le _,rfl⟩
 .split at h
  .rename_i h1 h2;simp only[Bool.and_eq_true,decide_eq_true_eq]at h;rw[nl h.2,yK h1,yL h2];exact⟨Nat.zero_le _,by simp only[yE,yD,hs];omega,rfl⟩
  .split at h
   .rename_i h1 h2 h3;simp only[Bool.and_eq_true,decide_eq_true_eq]at h;rw[h.1.2,yK h1,yK h2];exact⟨by simp only[yE,yD];omega,Nat.zero_le _,h.2⟩
   .cases h
theorem AY:∀{l:List CV}{x:CV},Lb l=true->x∈l->wf x=true
 |y::l,x,h,hx=>by
  rw[Lb,Bool.and_eq_true]at h;rcases yH.1 hx with rfl|hx
  .exact h.1
  .exact AY h.2 hx
theorem axt:∀{l:List CV}{x:CV},x∈l->(gT x).length<=(je l).length
 |y::l,x,hx=>by
  rw[eC];rcases yH.1 hx with rfl|hx
  .omega
  .have:=axt hx;omega
theorem aAI{v:CV}(h:wf v=true)(i:Nat):(nth v i).s.size<=(gT v).length:=by
 rcases aAi v i with k|k
 .have:=(axn (AY (axn h).2.2 k)).2.1;have:=axt k;have:=(axn h).1;omega
 .rw [k];exact Nat.zero_le _
theorem az4{v:CV}(h:wf v=true)(i:Nat):(je (nth v i).l).length<=(gT v).length/\Lb (nth v i).l=true:=by
 rcases aAi v i with k|k
 .have hw:=axn (AY (axn h).2.2 k);have:=axt k;have:=(axn h).1;exact⟨zO,hw.2.2⟩
 .rw [k];exact⟨Nat.zero_le _,rfl⟩
theorem aBd{v:CV}(h:wf v=true)(i j:Nat):(je (nth (nth v i) j).l).length<=(gT v).length/\Lb (nth (nth v i) j).l=true:=by
 rcases aAi v i with k|k
 .have hw:=AY (axn h).2.2 k;have:=axt k;have:=(axn h).1;have:=az4 hw j;exact⟨zO,this.2⟩
 .have e:nth (nth v i) j=zC:=by rw[k];cases j<;>rfl
  rw[e];exact⟨Nat.zero_le _,rfl⟩
theorem eR{f:CV->CV}{K:Nat}:∀{l:List CV},Lb l=true->(∀x,wf x=true->(gT (f x)).length<=K*(gT x).length)->(je (l.map f)).length<=K*(je l).length
 |[],_,_=>Nat.zero_le _
 |x::l,h,k=>by
  rw[Lb,Bool.and_eq_true]at h;have h1:=k x h.1;have h2:=eR (l:=l) h.2 k;rw[map_cons,eC,eC,Nat.mul_add];omega
theorem rCe{x:CV}(h:wf x=true):(gT (ceV (ceR x))).length<=122*(gT x).length:=by
 have:=eCe (ceR x);have h1:(ceR x).vl.size<=_:=aAI h 7;have:=abz x;omega
theorem rBi{x:CV}(h:wf x=true):(gT (biV (biR x))).length<=68*(gT x).length:=by
 have:=eBi (biR x);have h1:(biR x).ky.size<=_:=aAI h 0;have h2:(biR x).vl.size<=_:=aAI h 4;have:=abz x;omega
theorem rLs{l:List CV}{α:Type}{r:CV->α}{f:α->CV}{K L:Nat}(hl:Lb l=true)(h:∀x,wf x=true->(gT (f (r x))).length<=K*(gT x).length)(hL:(je l).length<=L):(gT (lsV ((l.map r).map f))).length<=11+K*L:=by
 have h1:=eL ((l.map r).map f);rw[map_map]at h1 |-;have h2:=eR (f:=f∘r) hl h;have:=Nat.mul_le_mul_left K hL;omega
theorem rCo{x:CV}(h:wf x=true):(gT (coV (fdR x))).length<=33+254*(gT x).length:=by
 have a:=az4 h 2;unfold coV fdR;simp only;split
 .have:=rLs (r:=ceR) (f:=ceV) a.2 (fun x h=>rCe h) a.1;omega
 .split
  .have:=rLs (r:=biR) (f:=biV) a.2 (fun x h=>rBi h) a.1;omega
  .split
   .have:=rLs (f:=taV) (r:=taR) (K:=44) a.2 (fun x _=>by have:=eTa (taR x);have:=abz x;omega) a.1;omega
   .split
    .have b0:=aBd h 2 0;have b1:=aBd h 2 1;have m1:=rLs (r:=ceR) (f:=ceV) b0.2 (fun x h=>rCe h) b0.1;have m2:=rLs (f:=maV) (r:=maR) (K:=132) b1.2 (fun x _=>by have:=eMa (maR x);have:=abz x;omega) b1.1;refine Nat.le_trans (eL _) ?_;have h0:(je []).length=0:=rfl;simp only[eC,h0];omega
    .refine Nat.le_trans (m:=33) ?_ zO;refine Nat.le_trans (eL _) ?_;have h0:(je []).length=0:=rfl;have h1:=eL [];simp only[eC,h0,map_nil]at h1 |-;omega
theorem rFd{x:CV}(h:wf x=true):(gT (fdV (fdR x))).length<=330*(gT x).length:=by
 have:=eFd (fdR x);have h1:(fdR x).pn.size<=_:=aAI h 1;have:=rCo h;have:=abz x;omega
theorem aCz{v:CV}(h:wf v=true):(gT (auy (avJ v))).length<=33+363*(gT v).length:=by
 have a:=az4 h 0;have b:=az4 h 1;have h1:=aCy (avJ v);have h2:=rLs (f:=dtV) (r:=dtR) (K:=33) a.2 (fun x _=>by have:=eDt (dtR x);have:=abz x;omega) a.1;have h3:=eR (f:=fdV∘fdR) b.2 (fun x h=>rFd h);have h4:=eR (f:=dtV∘dtR) (K:=33) a.2 (fun x _=>by have:=eDt (dtR x);have:=abz x;simp only[Function.comp];omega);simp only[avJ,map_map]at h1 |-;have:=a.1;have:=b.1;omega
theorem awt{v:CV}(h:QG v):Sv v.n/\v.s.size<=pU/\v.l.length<=pU/\∀x∈v.l,QG x:=by
 cases h with
 |mk k n s l hn hs hl hx=>exact⟨hn,hs,hl,hx⟩
theorem aCA:QG zC:=.mk _ _ _ _ ⟨zD,zD⟩ yN yN (fun _ h=>by cases h)
theorem awu{v:CV}(h:QG v)(i:Nat):QG (nth v i):=by
 rcases aAi v i with k|k
 .exact (awt h).2.2.2 _ k
 .rw [k];exact aCA
theorem nn{v:CV}(h:QG v)(i:Nat):Sv (nth v i).n:=(awt (awu h i)).1
theorem ns{v:CV}(h:QG v)(i:Nat):(nth v i).s.size<=pU:=(awt (awu h i)).2.1
theorem aBe{v:CV}(h:QG v):Sq.Cu (ceR v)/\Sv (ceR v).tm/\(ceR v).vl.size<=pU:=⟨⟨⟨nn h 0,nn h 1,nn h 2⟩,nn h 3,nn h 4,nn h 5⟩,nn h 6,ns h 7⟩
theorem az5{α:Type}{r:CV->α}{p:α->Prop}{v:CV}(h:QG v)(k:∀x,QG x->p (r x)):∀y∈v.l.map r,p y:=fun y hy=>by
 obtain⟨x,hx,rfl⟩:=yG.1 hy;exact k x ((awt h).2.2.2 x hx)
theorem az6{α:Type}{l:List α}{c:Prop}[Decidable c]{p:α->Prop}(h:∀y∈l,p y):∀y∈(if c then l else[]),p y:=by
 split
 .exact h
 .intro y hy;cases hy
theorem awv{α:Type}{l:List α}{c:Prop}[Decidable c]{n:Nat}(h:l.length<=n):(if c then l else[]).length<=n:=by
 split
 .exact h
 .exact Nat.zero_le _
theorem aBK{v:CV}(h:QG v):ayz (fdR v):=by
 have h2:=awu h 2;have l2:∀{α:Type}(r:CV->α),((nth v 2).l.map r).length<=pU:=fun r=>by rw[length_map];exact(awt h2).2.2.1
 have l3:∀{α:Type}(r:CV->α)(j:Nat),((nth (nth v 2) j).l.map r).length<=pU:=fun r j=>by rw[length_map];exact(awt (awu h2 j)).2.2.1
 exact⟨nn h 0,ns h 1,awv (l2 _),az6 (az5 h2 fun x hx=>aBe hx),awv (l2 _),az6 (az5 h2 fun x hx=>⟨⟨nn hx 1,nn hx 2,nn hx 3⟩,ns hx 0,ns hx 4⟩),awv (l2 _),az6 (az5 h2 fun x hx=>⟨nn hx 0,nn hx 1,nn hx 2⟩),awv (l3 _ 0),az6 (az5 (awu h2 0) fun x hx=>aBe hx),awv (l3 _ 1),az6 (az5 (awu h2 1) fun x hx=>⟨nn hx 0,nn hx 1,nn hx 2,nn hx 3,nn hx 4,nn hx 5,nn hx 6,nn hx 7,nn hx 8,nn hx 9⟩)⟩
theorem aAz{v:CV}(h:QG v):avT (avJ v):=by
 have h0:=awu h 0;have h1:=awu h 1;exact⟨by show(List.map _ _).length<=_;rw[length_map];exact(awt h0).2.2.1,az5 h0 fun x hx=>⟨nn hx 0,nn hx 1⟩,by show(List.map _ _).length<=_;rw[length_map];exact(awt h1).2.2.1,az5 h1 fun x hx=>aBK hx⟩
end Go.Dc
namespace Go.Dc
open Go Go.Am Go.Proofs Go.eY Go.bH
open Go.yU (CV rR val Cy jl iB fA QG gT je aaw adl)
theorem axk(v:CV)(k:Nat)(hl:v.l.length<=1000000000):ak P G 84 [.ptr 0 0] [rb v k] (.ret (val (nth v k))) [rb v (k+1)]:=by
 rcases Nat.lt_or_ge k v.l.length with h|h
 .have e:List.drop 1 (List.take (Int.toNat ((v.l.drop k).length:Int)) (iB (v.l.drop k)))=iB ((v.l.drop k).drop 1):=by
   rw[Int.toNat_natCast,<- fA,take_of_length_le yM,yU.aAN]
  have h1:=aCO v.k v.n v.s v.l[k] (v.l.drop k) (by rw[length_drop];omega) (by rw[length_drop];omega) (by rw[getElem?_drop,Nat.add_zero];exact yA h) (by rw[e]);rw[drop_drop]at h1;have e2:nth v k=v.l[k]:=by unfold nth;rw[yB,yA h];rfl
  rw[e2];exact h1
 .have h1:=aCP v.k v.n v.s trivial;have e:nth v k = .mk 0 0 .empty []:=by unfold nth;rw[yB,getElem?_eq_none h];rfl
  rw[e];have e1:rb v k = .box [int v.k,int v.n,str v.s,.sl 4 false (iB [])]:=by unfold rb;rw[drop_of_length_le h]
  have e2:rb v (k+1) = .box [int v.k,int v.n,str v.s,.sl 4 false (iB [])]:=by unfold rb;rw[drop_of_length_le zO]
  rw[e1,e2];exact h1.out (aF.qo ⟨aF.refl _,aF.refl _,aF.refl _,aF.nil 4,yO⟩)
section
variable {v:CV} (hl:v.l.length<=1000000000)
include hl
theorem axg(k:Nat):ak P G 186 [.ptr 0 0] [rb v k] (.ret (int (nth v k).n)) [rb v (k+1)]:=aB1 v _ k (axk v k hl) trivial
theorem aAJ(k:Nat):ak P G 187 [.ptr 0 0] [rb v k] (.ret (str (nth v k).s)) [rb v (k+1)]:=aB2 v _ k (axk v k hl) trivial
theorem aAo(k:Nat):ak P G 85 [.ptr 0 0] [rb v k] (.ret (.agg [int (nth v k).n,int (nth v (k+1)).n])) [rb v (k+2)]:=aB3 v k _ _ (axg hl k) (axg hl (k+1)) trivial
theorem Qt(k:Nat):ak P G 262 [.ptr 0 0] [rb v k] (.ret (.agg [int (nth v k).n,int (nth v (k+1)).n,int (nth v (k+2)).n])) [rb v (k+3)]:=aqk v k _ _ _ (aAo hl k) (axg hl (k+2)) trivial
theorem aCB:ak P G 189 [.ptr 0 0] [rb v 0] (.ret (.agg (Sq.aQ (ceR v)))) [rb v 9]:=aB4 v _ _ _ _ _ _ _ _ _ (Qt hl 0) (Qt hl 3) (axg hl 6) (aAJ hl 7) (axg hl 8) trivial
theorem aCC:ak P G 191 [.ptr 0 0] [rb v 0] (.ret (.agg (Bd.aQ (biR v)))) [rb v 5]:=aB5 v _ _ _ _ _ (aAJ hl 0) (aAo hl 1) (axg hl 3) (aAJ hl 4) trivial
theorem aCD:ak P G 193 [.ptr 0 0] [rb v 0] (.ret (.agg (ze (taR v)))) [rb v 3]:=aB6 v _ _ _ (aAo hl 0) (axg hl 2) trivial
theorem aCE:ak P G 195 [.ptr 0 0] [rb v 0] (.ret (.agg (Tx.aQ (maR v)))) [rb v 11]:=aB7 v _ _ _ _ _ _ _ _ _ _ _ (aAo hl 0) (axg hl 2) (Qt hl 3) (Qt hl 6) (axg hl 9) (axg hl 10) trivial
end
def Sh:Nat->CV->Prop
 |0,_=>True
 |n+1,v=>v.l.length<=500000/\∀x∈v.l,Sh n x
theorem az7{n:Nat}{v:CV}(h:Sh (n+1) v)(k:Nat):Sh n (nth v k):=by
 unfold nth;rw[yB];cases e:v.l[k]? with
 |none =>
  cases n with
  |zero=>trivial
  |succ n=>exact⟨Nat.zero_le _,fun _ h=>by cases h⟩
 |some x=>exact h.2 x (mem_of_getElem? e)
theorem aww{n:Nat}{v:CV}(h:Sh (n+1) v):v.l.length<=1000000000:=by have:=h.1;omega
theorem aAp{v:CV}(h:Sh 2 v):Cq 188 [val v,gP 189] (Sq.bZ (v.l.map ceR)):=aAO zD aCS v h.1 fun x hx=>aCB (aww (h.2 x hx))
theorem aCF{v:CV}(h:Sh 4 v):ak P G 87 [.ptr 0 0] [rb v 0] (.ret (.agg (jB (fdR v)))) [rb v 3]:=by
 have l:=aww h;have h1:=axg l 0;have h2:=aAJ l 1;have h3:=axk v 2 l;have hw:=az7 h 2;have hw2:Sh 2 (nth v 2):=⟨hw.1,fun x hx=>⟨(hw.2 x hx).1,fun _ _=>trivial⟩⟩;have out:∀{a b c d e f g:AV}{a' b' c' d' e' f' g':AV},aF c c'->aF d d'->aF e e'->aF f f'->aF g g'->a=a'->b=b'->aF (.agg [a,b,c,d,e,f,g]) (.agg [a',b',c',d',e',f',g']):=fun h1 h2 h3 h4 h5 h6 h7=>by
  subst h6 h7;exact aF.qo ⟨aF.refl _,aF.refl _,h1,h2,h3,h4,h5,yO⟩
 unfold fdR jB;by_cases k1:(nth v 0).n=1
 .simp only[k1,if_true,show ¬(1:Int)=2 by decide,show ¬(1:Int)=3 by decide,show ¬(1:Int)=4 by decide,if_false];exact(aCX v _ _ _ _ rfl (k1▸h1) h2 h3 (aAp hw2) yO).out (out (aF.refl _) (aF.nil 5) (aF.nil 3) (aF.nil 9) (aF.nil 11) rfl rfl)
 by_cases k2:(nth v 0).n=2
 .simp only[k2,if_true,show ¬(2:Int)=1 by decide,show ¬(2:Int)=3 by decide,show ¬(2:Int)=4 by decide,if_false];have hb:Cq 190 [val (nth v 2),gP 191] (Bd.iK ((nth v 2).l.map biR)):=aAO zD aCT _ hw2.1 fun x hx=>aCC (aww (hw2.2 x hx));exact(aCY v _ _ _ _ rfl (k2▸h1) h2 h3 hb yO).out (out (aF.nil 9) (aF.refl _) (aF.nil 3) (aF.nil 9) (aF.nil 11) rfl rfl)
 by_cases k3:(nth v 0).n=3
 .simp only[k3,if_true,show ¬(3:Int)=1 by decide,show ¬(3:Int)=2 by decide,show ¬(3:Int)=4 by decide,if_false];have hb:Cq 192 [val (nth v 2),gP 193] (mF ((nth v 2).l.map taR)):=aAO zD aCU _ hw2.1 fun x hx=>aCD (aww (hw2.2 x hx));exact(aCZ v _ _ _ _ rfl (k3▸h1) h2 h3 hb yO).out (out (aF.nil 9) (aF.nil 5) (aF.refl _) (aF.nil 9) (aF.nil 11) rfl rfl)
 by_cases k4:(nth v 0).n=4
 .simp only[k4,if_true,show ¬(4:Int)=1 by decide,show ¬(4:Int)=2 by decide,show ¬(4:Int)=3 by decide,if_false];have g0:=az7 hw 0;have g1:=az7 hw 1;have hb:Cq 194 [val (nth (nth v 2) 1),gP 195] (Tx.oI ((nth (nth v 2) 1).l.map maR)):=aAO zD aCV _ g1.1 fun x hx=>aCE (aww (g1.2 x hx));exact(aC0 v _ _ _ _ _ _ _ rfl (k4▸h1) h2 h3 (axk _ 0 (aww hw)) (axk _ 1 (aww hw)) (aAp g0) hb yO).out (out (aF.nil 9) (aF.nil 5) (aF.nil 3) (aF.refl _) (aF.refl _) rfl rfl)
 .simp only[yK k1,yK k2,yK k3,yK k4];exact(aC1 v _ _ _ k1 k2 k3 k4 h1 h2 h3 yO).out (out (aF.nil 9) (aF.nil 5) (aF.nil 3) (aF.nil 9) (aF.nil 11) rfl rfl)
theorem aBB:∀(n:Nat){v:CV},yU.wf v=true->(gT v).length<=500000->Sh n v
 |0,_,_,_=>trivial
 |n+1,v,h,hl=>by
  have b:=axn h;exact⟨by have:=yU.AX v.l;omega,fun x hx=>aBB n (AY b.2.2 hx) (by have:=axt hx;omega)⟩
theorem aCG{v:CV}(h:yU.wf v=true)(ho:QG v)(hl:(gT v).length<=20000):Dim (avJ v)/\((avJ v).sn.length<=20000/\(avJ v).fs.length<=20000)/\∀f∈(avJ v).fs,f.ce.length<=20000/\f.bi.length<=20000/\f.ta.length<=20000/\f.tc.length<=20000/\f.tm.length<=20000:=by
 have ha:=aAz ho;have a0:=az4 h 0;have a1:=az4 h 1;have l0:(avJ v).sn.length<=20000:=by show(List.map _ _).length<=_;rw[length_map];have:=yU.AX (nth v 0).l;omega
 have l1:(avJ v).fs.length<=20000:=by show(List.map _ _).length<=_;rw[length_map];have:=yU.AX (nth v 1).l;omega
 have hs:∀f∈(avJ v).fs,f.ce.length<=20000/\f.bi.length<=20000/\f.ta.length<=20000/\f.tc.length<=20000/\f.tm.length<=20000:=fun f hf=>by
  obtain⟨x,hx,rfl⟩:=yG.1 hf;have hw:=AY a1.2 hx;have hm:=axt hx;have c2:=(az4 hw 2).1;have l2:∀{α:Type}(r:CV->α),((nth x 2).l.map r).length<=20000:=fun r=>by rw[length_map];have:=yU.AX (nth x 2).l;omega
  have l3:∀{α:Type}(r:CV->α)(j:Nat),((nth (nth x 2) j).l.map r).length<=20000:=fun r j=>by rw[length_map];have:=yU.AX (nth (nth x 2) j).l;have:=(aBd hw 2 j).1;omega
  exact⟨awv (l2 _),awv (l2 _),awv (l2 _),awv (l3 _ 0),awv (l3 _ 1)⟩
 refine⟨⟨zO,zO,fun f hf=>?_,fun f hf=>?_⟩,⟨l0,l1⟩,hs⟩
 .obtain ⟨b1,b2,b3,b4,b5⟩:=hs f hf;exact⟨zO,zO,zO,zO,zO⟩
 .have k:=ha.rf f hf;obtain⟨b1,b2,b3,b4,b5⟩:=hs f hf;exact⟨fun x hx=>(k.rc x hx).1,⟨fun x hx=>(k.rt x hx).1,k.rm⟩,⟨by show f.tc.length<=_;omega,by show f.tm.length<=_;omega⟩⟩
def aAK(b:List UInt8):Prop:=adl b=0/\F9 (avJ (aaw b))=0/\gT (auy (avJ (aaw b)))=b
instance (b:List UInt8):Decidable (aAK b):=Classical.propDecidable _
theorem aBf(b:List UInt8)(hl:b.length<=1000000000)(hq:adl b=0->Sh 6 (aaw b)/\Dim (avJ (aaw b))/\((avJ (aaw b)).sn.length<=500000/\(avJ (aaw b)).fs.length<=500000)/\(∀f∈(avJ (aaw b)).fs,f.ce.length<=500000/\f.bi.length<=500000/\f.ta.length<=500000/\f.tc.length<=500000/\f.tm.length<=500000)/\(F9 (avJ (aaw b))=0->(gT (auy (avJ (aaw b)))).length<=10000000)):ak P G 23 [Cy b] [] (.ret (if aAK b then .bq [kI (avJ (aaw b)),int 0]else .bq [Rf,int (if adl b=0 then 180 else adl b)])) []:=by
 have hC:=yU.awU b hl;by_cases h:adl b=0
 .rw [h]at hC;obtain⟨w,dpv,ov,en⟩:=yU.axr hl h;obtain⟨sh,dm,n1,hs,hx⟩:=hq h;have hE:=aAy (aAz ov) dm n1 hs hx;have s0:=az7 sh 0;have s1:=az7 sh 1;have h1:=axk (aaw b) 0 (aww sh);have h3:=axk (aaw b) 1 (aww sh);have h2:Cq 83 [val (nth (aaw b) 0),gP 85] (bB (avJ (aaw b)).sn):=aAO zD aCQ _ s0.1 fun x hx=>aAo (aww (s0.2 x hx)) 0;have h4:Cq 86 [val (nth (aaw b) 1),gP 87] (Md (avJ (aaw b)).fs):=aAO zD aCR _ s1.1 fun x hx=>aCF ⟨(s1.2 x hx).1,(s1.2 x hx).2⟩;by_cases k:F9 (avJ (aaw b))=0
  .rw [yL k]at hE;have hb:=bV.aBP b (gT (auy (avJ (aaw b))));by_cases q:gT (auy (avJ (aaw b)))=b
   .rw [yL ⟨h,k,q⟩];rw[decide_eq_true q.symm]at hb;exact aC4 b _ _ _ _ _ hC h1 h2 h3 h4 hE hb trivial
   .rw [yK fun z=>q z.2.2,yL h];rw[decide_eq_false fun z=>q z.symm]at hb;exact aC3 b _ _ _ _ _ hC h1 h2 h3 h4 hE hb trivial
  .rw [yK k]at hE;rw[yK fun z=>k z.2.1,yL h];exact aC2 b _ _ _ _ aK 180 zD hC h1 h2 h3 h4 hE trivial
 .rw [yK fun z=>h z.1,yK h];exact azi _ h b _ hC trivial
theorem aBL(b:List UInt8)(hl:b.length<=20000):ak P G 23 [Cy b] [] (.ret (if aAK b then .bq [kI (avJ (aaw b)),int 0]else .bq [Rf,int (if adl b=0 then 180 else adl b)])) []:=aBf b zO fun h=>by
 obtain⟨w,dpv,ov,en⟩:=yU.axr zO h;have le:(gT (aaw b)).length<=20000:=by rw[en];exact hl
 obtain⟨dm,⟨n1,n2⟩,hs⟩:=aCG w ov le;exact⟨aBB 6 w zO,dm,⟨zO,zO⟩,fun f hf=>by obtain⟨b1,b2,b3,b4,b5⟩:=hs f hf;exact⟨zO,zO,zO,zO,zO⟩,fun _=>by have:=aCz w;omega⟩
theorem aAf{n:Nat}{l:List CV}(h:l.length<=500000)(k:∀x∈l,Sh n x):Sh (n+1) (lsV l):=⟨h,k⟩
theorem aAA:∀(n:Nat){v:CV},v.l=[]->Sh n v
 |0,_,_=>trivial
 |n+1,v,h=>⟨by rw[h];exact Nat.zero_le _,fun x hx=>by rw[h]at hx;cases hx⟩
theorem axu{α:Type}{f:α->CV}{n:Nat}{l:List α}(h:l.length<=500000)(k:∀x,Sh n (f x)):Sh (n+1) (lsV (l.map f)):=aAf (by rw[length_map];exact h) fun x hx=>by
 obtain⟨y,_,rfl⟩:=yG.1 hx;exact k y
theorem aAq{n:Nat}{l:List CV}(h:l.length<=500000)(k:∀x∈l,x.l=[]):Sh (n+1) (lsV l):=aAf h fun x hx=>aAA n (k x hx)
theorem aBC(n:Nat)(c:Sq.CE):Sh (n+1) (ceV c):=aAq zS (by simp[CF,wdV,flV,CV.l])
theorem aCH{f:FD}(h:f.ce.length<=500000/\f.bi.length<=500000/\f.ta.length<=500000/\f.tc.length<=500000/\f.tm.length<=500000)(n:Nat):Sh (n+3) (coV f):=by
 unfold coV;split
 .exact axu h.1 fun c=>aBC _ c
 .split
  .exact axu h.2.1 fun c=>aAq zS (by simp[CF,wdV,CV.l])
  .split
   .exact axu h.2.2.1 fun c=>aAq zS (by simp[CF,CV.l])
   .refine aAf zS fun x hx=>?_;simp only[yH,not_mem_nil,or_false]at hx;rcases hx with rfl|rfl
    .exact axu h.2.2.2.1 fun c=>aBC _ c
    .exact axu h.2.2.2.2 fun c=>aAq zS (by simp[CF,flV,CV.l])
theorem aBM{d:DO}(h5:d.sn.length<=500000/\d.fs.length<=500000)(hs:∀f∈d.fs,f.ce.length<=500000/\f.bi.length<=500000/\f.ta.length<=500000/\f.tc.length<=500000/\f.tm.length<=500000):Sh 6 (auy d):=by
 refine aAf zS fun x hx=>?_;simp only[yH,not_mem_nil,or_false]at hx;rcases hx with rfl|rfl
 .exact axu h5.1 fun c=>aAq zS (by simp[CF,CV.l])
 .refine aAf (by rw[length_map];exact h5.2) fun x hx=>?_;obtain⟨f,hf,rfl⟩:=yG.1 hx;refine aAf zS fun x hx=>?_;simp only[yH,not_mem_nil,or_false]at hx;rcases hx with rfl|rfl|rfl
  .exact aAA _ rfl
  .exact aAA _ rfl
  .exact aCH (hs f hf) 0
theorem aBN{d:DO}(ha:avT d)(dm:Dim d)(h5:d.sn.length<=500000/\d.fs.length<=500000)(hs:∀f∈d.fs,f.ce.length<=500000/\f.bi.length<=500000/\f.ta.length<=500000/\f.tc.length<=500000/\f.tm.length<=500000)(hl:(gT (auy d)).length<=10000000)(hk:F9 d=0):ak P G 23 [Cy (gT (auy d))] [] (.ret (.bq [kI d,int 0])) []:=by
 obtain⟨e1,e2⟩:=yU.adk (auy d) (aAh d) (azY ha) (by have:=az3 d;omega);have e3:=aAu hk;have h:=aBf (gT (auy d)) zO fun _=>by rw[e1,e3];exact⟨aBM h5 hs,dm,h5,hs,fun _=>hl⟩
 rw[yL ⟨e2,by rw[e1,e3];exact hk,by rw[e1,e3]⟩,e1,e3]at h;exact h
end Go.Dc
namespace Go.Dc
open Go Go.Am Go.Proofs Go.eY Go.bH
open Go.Bd (BE)
open Go.Tx (MK)
def eqS{α:Type}(E:α->List AV)(s:Nat)(a b:List α)(k:Nat):St:={ aL:=aC 26 [(0,slF E s a),(1,slF E s b),(4,Am.bool false),(11,slF E s a),(12,int a.length),(13,int k)],H:=[] }
abbrev eqX:St:={ aL:=aC 26 [(4,Am.bool false)],H:=[] }
abbrev EqQ(s F:Nat):Prop:=(s=3/\F=70)\/(s=5/\F=69)\/(s=11/\F=71)
structure EqW{α:Type}(E:α->List AV)(s F:Nat)(c:α->α->Bool):Prop where
 y:∀(a b:List α)(k:Nat)(x y:α),(k:Int)<a.length->a[k]?=some x->b[k]?=some y->c x y=true->∀(ex:bF)(s':St),Rq 0 F 0 (eqS E s a b (k+1)) ex s'->a.length<=1000000000->Rq 0 F 0 (eqS E s a b k) ex s'
 n:∀(a b:List α)(k:Nat)(x y:α),(k:Int)<a.length->a[k]?=some x->b[k]?=some y->c x y=false->Rq 0 F 0 (eqS E s a b k) .ret eqX
 i:∀x y,c x y=true↔x=y
abbrev eqI{α:Type}(E:α->List AV)(a b:List α)(k:Nat)(x y:α)(hk:(k:Int)<a.length)(hx:a[k]?=some x)(hy:b[k]?=some y):List fP:=[ki ((k:Int)<a.length),ko (bC.elem (E x)),ko (bC.elem (E y)),kp (show(0:Int)<=(k:Int)/\(List.map E a)[Int.toNat (k:Int)]?=some (E x)from(bG hx)),kp (show(0:Int)<=(k:Int)/\(List.map E b)[Int.toNat (k:Int)]?=some (E y)from(bG hy))]
theorem azj:EqW ze 3 70 (fun x y:TL=>x.1==y.1&&(x.2.1==y.2.1&&x.2.2==y.2.2)) where
 y a b k x y hk hx hy hc _ _ h ha:=aJ (eqI ze a b k x y hk hx hy++[kf (yJ Bool.not hc),kW 25 (k+1) ↑(k+1)]) (aB 26 [0,1,4,11,12,13]) 0 h
 n a b k x y hk hx hy hc:=aG (eqI ze a b k x y hk hx hy++[kt (yJ Bool.not hc)]) (aB 26 [4]) 0
 i x y:=by cases x;cases y;simp[Sq.tN,bV.bool_beq,Prod.ext_iff]
theorem azk:EqW Bd.aQ 5 69 (fun x y:BE=>x.ky==y.ky&&(x.dv==y.dv&&(x.sq==y.sq&&(x.tm==y.tm&&x.vl==y.vl)))) where
 y a b k x y hk hx hy hc _ _ h ha:=aJ (eqI Bd.aQ a b k x y hk hx hy++[kf (yJ Bool.not hc),kW 25 (k+1) ↑(k+1)]) (aB 26 [0,1,4,11,12,13]) 0 h
 n a b k x y hk hx hy hc:=aG (eqI Bd.aQ a b k x y hk hx hy++[kt (yJ Bool.not hc)]) (aB 26 [4]) 0
 i x y:=by cases x;cases y;simp[Sq.tN,bV.bool_beq]
theorem azl:EqW Tx.aQ 11 71 (fun x y:MK=>x.dv==y.dv&&(x.sq==y.sq&&(x.tm==y.tm&&(x.fd==y.fd&&(x.fs==y.fs&&(x.fa==y.fa&&(x.td==y.td&&(x.ts==y.ts&&(x.ta==y.ta&&(x.st==y.st&&x.on==y.on)))))))))) where
 y a b k x y hk hx hy hc _ _ h ha:=aJ (eqI Tx.aQ a b k x y hk hx hy++[kf (yJ Bool.not hc),kW 25 (k+1) ↑(k+1)]) (aB 26 [0,1,4,11,12,13]) 0 h
 n a b k x y hk hx hy hc:=aG (eqI Tx.aQ a b k x y hk hx hy++[kt (yJ Bool.not hc)]) (aB 26 [4]) 0
 i x y:=by cases x;cases y;simp[Sq.tN,bV.bool_beq]
section
variable {α:Type} {E:α->List AV} {s F:Nat} {c:α->α->Bool} (q:EqQ s F) (w:EqW E s F c)
include q
theorem ayG(a b:List α)(k:Nat)(hk:¬(k:Int)<a.length):Rq 0 F 0 (eqS E s a b k) (.exit 0) eqX:=by
 rcases q with⟨rfl,rfl⟩|⟨rfl,rfl⟩|⟨rfl,rfl⟩<;>exact aG [kj ((k:Int)<a.length)] (aB 26 [4]) 0
theorem ayH(a b:List α)(hl:a.length=b.length)(ex:bF)(o:Bool)(hL:Rq 0 F 0 (eqS E s a b 0) ex eqX)(h:(ex = .exit 0/\o=true)\/(ex = .ret/\o=false)):Cq F [slF E s a,slF E s b] (Am.bool o):=by
 rcases h with⟨rfl,rfl⟩|⟨rfl,rfl⟩<;>rcases q with⟨rfl,rfl⟩|⟨rfl,rfl⟩|⟨rfl,rfl⟩<;>exact aj [kN 7 (show(a.map E).length=a.length from length_map E),kN 9 (show(b.map E).length=b.length from length_map E),kf (show((a.length:Int)!=(b.length:Int))=false from yJ Bool.not (qT zO)),kN 12 (show(a.map E).length=a.length from length_map E),kl (rG [(2,2),(5,6),(14,12)]) 0 hL]
theorem ayI(a b:List α)(hl:¬a.length=b.length):Cq F [slF E s a,slF E s b] (Am.bool false):=by
 rcases q with⟨rfl,rfl⟩|⟨rfl,rfl⟩|⟨rfl,rfl⟩<;>exact aj [kN 7 (show(a.map E).length=a.length from length_map E),kN 9 (show(b.map E).length=b.length from length_map E),kt (show((a.length:Int)!=(b.length:Int))=true from yJ Bool.not (qF zO))]
include w
theorem ayJ[DecidableEq α](a b:List α)(ha:a.length<=1000000000)(hl:a.length=b.length):∀n k,a.length-k=n->k<=a.length->Rq 0 F 0 (eqS E s a b k) (if a.drop k=b.drop k then .exit 0 else .ret) eqX:=by
 intro n
 induction n with
 |zero =>
  intro k hn hk;rw[yL (by rw[drop_of_length_le zO,drop_of_length_le zO])];exact ayG q a b k zO
 |succ n ih =>
  intro k hn hk;have h1:k<a.length:=zO
  have h2:k<b.length:=zO
  have hx:=yA h1;have hy:=yA h2;have e:(a.drop k=b.drop k)=(a[k]=b[k]/\a.drop (k+1)=b.drop (k+1)):=by
   rw[drop_eq_getElem_cons h1,drop_eq_getElem_cons h2,List.cons.injEq]
  by_cases he:a[k]=b[k]
  .have nx:=ih (k+1) zO zO;simp only[e,he,true_and];exact w.y a b k _ _ zO hx hy ((w.i _ _).2 he) _ _ nx ha
  .rw [yK (by rw[e];exact fun h=>he h.1)];exact w.n a b k _ _ zO hx hy (Bool.eq_false_iff.2 fun h=>he ((w.i _ _).1 h))
theorem aw7[DecidableEq α](a b:List α)(ha:a.length<=1000000000):Cq F [slF E s a,slF E s b] (Am.bool (decide (a=b))):=by
 by_cases hl:a.length=b.length
 .have h:=ayJ q w a b ha hl _ 0 rfl yN;rw[drop_zero,drop_zero]at h;refine ayH q a b hl _ _ h ?_;by_cases e:a=b
  .rw [yL e];exact .inl ⟨rfl,decide_eq_true e⟩
  .rw [yK e];exact .inr ⟨rfl,decide_eq_false e⟩
 .rw [decide_eq_false fun e=>hl (by rw[e])];exact ayI q a b hl
end
theorem ayK(a b:List TL)(ha:a.length<=1000000000):Cq 70 [mF a,mF b] (Am.bool (decide (a=b))):=aw7 zD azj a b ha
theorem ayL(a b:List BE)(ha:a.length<=1000000000):Cq 69 [Bd.iK a,Bd.iK b] (Am.bool (decide (a=b))):=aw7 zD azk a b ha
theorem ayM(a b:List MK)(ha:a.length<=1000000000):Cq 71 [Tx.oI a,Tx.oI b] (Am.bool (decide (a=b))):=aw7 zD azl a b ha
theorem ayN(f g:FD)(b1 b2 b3 b4 b5:Bool)(h1:Cq 68 [Sq.bZ f.ce,Sq.bZ g.ce] (Am.bool b1))(h2:Cq 69 [Bd.iK f.bi,Bd.iK g.bi] (Am.bool b2))(h3:Cq 70 [mF f.ta,mF g.ta] (Am.bool b3))(h4:Cq 68 [Sq.bZ f.tc,Sq.bZ g.tc] (Am.bool b4))(h5:Cq 71 [Tx.oI f.tm,Tx.oI g.tm] (Am.bool b5))(o:Bool)(h:((((f.pk==g.pk&&f.pn==g.pn)=true)->((((b1)=true)->((((b2)=true)->((((b3)=true)->((((b4)=true)->(b5)=(o))/\(((b4)=false)->(false)=(o))))/\(((b3)=false)->(false)=(o))))/\(((b2)=false)->(false)=(o))))/\(((b1)=false)->(false)=(o))))/\(((f.pk==g.pk&&f.pn==g.pn)=false)->(false)=(o)))):Cq 67 [.agg (jB f),.agg (jB g)] (Am.bool o):=by
 rcases Bool.eq_false_or_eq_true ((f.pk==g.pk&&f.pn==g.pn))with c1|c1
 .have h:=h.1 c1;rcases Bool.eq_false_or_eq_true ((b1))with c2|c2
  .have h:=h.1 c2;let l1:List fP:=[kt c1,kc [] h1,kt c2,kc [] h2];rcases Bool.eq_false_or_eq_true ((b2))with c3|c3
   .have h:=h.1 c3;rcases Bool.eq_false_or_eq_true ((b3))with c4|c4
    .have h:=h.1 c4;rcases Bool.eq_false_or_eq_true ((b4))with c5|c5
     .have h:=h.1 c5;exact aA (aF.aI h) (l1++[kt c3,kc [] h3,kt c4,kc [] h4,kt c5,kc [] h5])
     .have h:=h.2 c5;exact aA (aF.aI h) (l1++[kt c3,kc [] h3,kt c4,kc [] h4,kf c5])
    .have h:=h.2 c4;exact aA (aF.aI h) (l1++[kt c3,kc [] h3,kf c4,kY])
   .have h:=h.2 c3;exact aA (aF.aI h) (l1++[kf c3,kY,kY])
  .have h:=h.2 c2;exact aA (aF.aI h) [kt c1,kc [] h1,kf c2,kY,kY,kY]
 .have h:=h.2 c1;exact aA (aF.aI h) [kf c1,kY,kY,kY,kY]
def seS(a b:List FD)(k:Nat):St:={ aL:=aC 32 [(0,Md a),(1,Md b),(2,gP 67),(6,Am.bool false),(15,Md a),(16,int a.length),(17,int k)],H:=[] }
abbrev seX:St:={ aL:=aC 32 [(6,Am.bool false)],H:=[] }
theorem azm(a b:List FD)(k:Nat)(x y:FD)(ha:a.length<=1000000000)(hk:(k:Int)<(a.length:Int))(hx:a[k]?=some x)(hy:b[k]?=some y)(hF:Cq 67 [.agg (jB x),.agg (jB y)] (Am.bool true))(ex:bF)(s':St)(h:Rq 0 66 0 (sM 32 [(0,.sl 7 false (dA a)),(1,.sl 7 false (dA b)),(2,iL 67),(6,Am.bool false),(15,.sl 7 false (dA a)),(16,int ↑a.length),(17,int ↑(k+1))] []) ex s'):Rq 0 66 0 (seS a b k) ex s':=by
 exact aJ [ki ((k:Int)<a.length),ko (bC.elem (jB x)),ko (bC.elem (jB y)),kp (show(0:Int)<=(k:Int)/\(dA a)[Int.toNat (k:Int)]?=some (jB x)from(bG hx)),kp (show(0:Int)<=(k:Int)/\(dA b)[Int.toNat (k:Int)]?=some (jB y)from(bG hy)),kc [] hF,kY,kW 31 (k+1) ↑(k+1)] (aB 32 [0,1,2,6,15,16,17]) 0 h
theorem azn(a b:List FD)(k:Nat)(x y:FD)(ha:a.length<=1000000000)(hk:(k:Int)<(a.length:Int))(hx:a[k]?=some x)(hy:b[k]?=some y)(hF:Cq 67 [.agg (jB x),.agg (jB y)] (Am.bool false))(h:True):Rq 0 66 0 (seS a b k) bF.ret seX:=by
 have _:=h;exact aG [ki ((k:Int)<a.length),ko (bC.elem (jB x)),ko (bC.elem (jB y)),kp (show(0:Int)<=(k:Int)/\(dA a)[Int.toNat (k:Int)]?=some (jB x)from(bG hx)),kp (show(0:Int)<=(k:Int)/\(dA b)[Int.toNat (k:Int)]?=some (jB y)from(bG hy)),kc [] hF,kO] (aB 32 [6]) 0
theorem azo(a b:List FD)(k:Nat)(hk:¬(k:Int)<(a.length:Int))(h:True):Rq 0 66 0 (seS a b k) (bF.exit 0) seX:=by
 have _:=h;exact aG [kj ((k:Int)<a.length)] (aB 32 [6]) 0
theorem azp(a b:List FD)(hl:a.length=b.length)(hL:Rq 0 66 0 (seS a b 0) (.exit 0) seX)(h:True):Cq 66 [Md a,Md b,gP 67] (Am.bool true):=by
 have bS:=lU (fE a);have _:=h;exact aj [kv 11 bS,kN 13 (fE b),kf (show((a.length:Int)!=(b.length:Int))=false from(yJ Bool.not (qT zO))),kv 16 bS,kl (rG [(3,3),(7,8),(18,14)]) 0 hL]
theorem azq(a b:List FD)(hl:a.length=b.length)(hL:Rq 0 66 0 (seS a b 0) .ret seX)(h:True):Cq 66 [Md a,Md b,gP 67] (Am.bool false):=by
 have bS:=lU (fE a);have _:=h;exact aj [kv 11 bS,kN 13 (fE b),kf (show((a.length:Int)!=(b.length:Int))=false from(yJ Bool.not (qT zO))),kv 16 bS,kl (rG [(3,3),(7,8),(18,14)]) 0 hL]
theorem azr(a b:List FD)(hl:¬a.length=b.length)(h:True):Cq 66 [Md a,Md b,gP 67] (Am.bool false):=by
 have _:=h;exact aj [kN 11 (fE a),kN 13 (fE b),kt (show((a.length:Int)!=(b.length:Int))=true from(yJ Bool.not (qF zO)))]
theorem azs(a b:DO)(o:Bool)(h1:Cq 65 [bB a.sn,bB b.sn] (Am.bool true))(h2:Cq 66 [Md a.fs,Md b.fs,gP 67] (Am.bool o))(h:True):Cq 19 [kI a,kI b] (Am.bool o):=by
 have _:=h;exact aj [kc [] h1,kO,kc [] h2]
theorem azt(a b:DO)(h1:Cq 65 [bB a.sn,bB b.sn] (Am.bool false))(h:True):Cq 19 [kI a,kI b] (Am.bool false):=by
 have _:=h;exact aj [kc [] h1,kY]
end Go.Dc
namespace Go.Dc
open Go Go.Am Go.Proofs Go.eY Go.bH
theorem ayO(f g:FD)(hf:XW f)(hg:XW g):ak P G 67 [.agg (jB f),.agg (jB g)] [] (.ret (Am.bool (decide (f=g)))) []:=by
 have l1:=hf.ce;have l2:=hg.ce;have l3:=hf.tc;have l4:=hg.tc;have e:decide (f=g)=((f.pk==g.pk&&f.pn==g.pn)&&(decide (f.ce=g.ce)&&(decide (f.bi=g.bi)&&(decide (f.ta=g.ta)&&(decide (f.tc=g.tc)&&decide (f.tm=g.tm)))))):=by
  cases f;cases g;rw[Bool.eq_iff_iff];simp[FD.mk.injEq,Sq.tN];grind
 refine ayN f g _ _ _ _ _ (Sq.up (Sq.ais f.ce g.ce zO zO)) (ayL f.bi g.bi (by have:=hf.bi;omega)) (ayK f.ta g.ta (by have:=hf.ta;omega)) (Sq.up (Sq.ais f.tc g.tc zO zO)) (ayM f.tm g.tm (by have:=hf.tm;omega)) _ ?_;rw[e];refine⟨fun a=>?_,fun a=>by rw[a];rfl⟩;rw[a,Bool.true_and];refine⟨fun b=>?_,fun b=>by rw[b];rfl⟩;rw[b,Bool.true_and];refine⟨fun b=>?_,fun b=>by rw[b];rfl⟩;rw[b,Bool.true_and];refine⟨fun b=>?_,fun b=>by rw[b];rfl⟩;rw[b,Bool.true_and];exact⟨fun b=>by rw[b];rfl,fun b=>by rw[b];rfl⟩
theorem azu(a b:List FD)(ha:a.length<=1000000000)(hl:a.length=b.length)(fa:∀f∈a,XW f)(fb:∀f∈b,XW f):∀n k,a.length-k=n->k<=a.length->bN P G none 0 (vg P 66 0) (seS a b k) (if a.drop k=b.drop k then .exit 0 else .ret) seX:=by
 intro n
 induction n with
 |zero =>
  intro k hn hk;rw[yL (by rw[drop_of_length_le zO,drop_of_length_le zO])];exact azo a b k zO trivial
 |succ n ih =>
  intro k hn hk;have h1:k<a.length:=zO
  have h2:k<b.length:=zO
  have hx:=yA h1;have hy:=yA h2;have e:(a.drop k=b.drop k)=(a[k]=b[k]/\a.drop (k+1)=b.drop (k+1)):=by
   rw[drop_eq_getElem_cons h1,drop_eq_getElem_cons h2,List.cons.injEq]
  have hc:=ayO a[k] b[k] (fa _ (getElem_mem h1)) (fb _ (getElem_mem h2));by_cases he:a[k]=b[k]
  .have nx:=ih (k+1) zO zO;rw[decide_eq_true he]at hc;simp only[e,he,true_and];exact azm a b k _ _ ha zO hx hy hc _ _ nx
  .rw [decide_eq_false he]at hc;rw[yK (by rw[e];exact fun h=>he h.1)];exact azn a b k _ _ ha zO hx hy hc trivial
theorem av3(a b:DO)(ha:Dim a)(hb:Dim b):ak P G 19 [kI a,kI b] [] (.ret (Am.bool (decide (a=b)))) []:=by
 have hs:=bV.aqj a.sn b.sn (by have:=ha.sn;omega);have e:(a=b)=(a.sn=b.sn/\a.fs=b.fs):=by
  cases a;cases b;rw[DO.mk.injEq]
 by_cases h:a.sn=b.sn
 .rw [decide_eq_true h]at hs;refine azs a b _ hs ?_ trivial;simp only[e,h,true_and];have l:=ha.fs;by_cases hl:a.fs.length=b.fs.length
  .have h9:=azu a.fs b.fs zO hl ha.len hb.len _ 0 rfl yN;rw[drop_zero,drop_zero]at h9;by_cases q:a.fs=b.fs
   .rw [yL q]at h9;rw[decide_eq_true q];exact azp _ _ hl h9 trivial
   .rw [yK q]at h9;rw[decide_eq_false q];exact azq _ _ hl h9 trivial
  .rw [decide_eq_false fun q=>hl (by rw[q])];exact azr _ _ hl trivial
 .rw [decide_eq_false h]at hs;rw[decide_eq_false (by rw[e];exact fun q=>h q.1)];exact azt a b hs trivial
open Go.bV (OP op jy Sv Fw Okn)
open Go.yU (CV rR Cy val QG av7 jg)
theorem PD{f:FuncId}{x y:AV}{out:aS}(h:ak P G f [y] [] out [])(hs:aF x y):ak P G f [x] [] out []:=ak.qp h (xs:=[x]) ⟨hs,yO⟩
theorem I9{f:FuncId}{x y x' y':AV}{out:aS}(h:ak P G f [x',y'] [] out [])(h1:aF x x')(h2:aF y y'):ak P G f [x,y] [] out []:=ak.qp h (xs:=[x,y]) ⟨h1,h2,yO⟩
theorem at7:aF Rf (kI ⟨[],[]⟩):=aF.qo ⟨aF.nil 2,aF.nil 7,yO⟩
theorem lVS:aF (.agg azL) (val (lsV [])):=aF.qo ⟨aF.refl _,aF.refl _,aF.refl _,aF.nil 4,yO⟩
abbrev z0:DO:=⟨[],[]⟩
abbrev x0:DO:=afQ z0 iOc
abbrev y0:DO:=afQ x0 erO
abbrev b0:DO:=⟨[(-1,0)],[]⟩
theorem i64(n:Int)(h:(decide (-9223372036854775808<=n)&&decide (n<9223372036854775808))=true):Sv n:=by
 simp only[Bool.and_eq_true,decide_eq_true_eq]at h;exact h
theorem ayh{o:OP}(h:EF z0 o=0)(ho:Fw o):SmD 1 (afQ z0 o):=by
 have:=ZW ho (aeB 0);unfold Bn at this;rwa[yL h]at this
theorem aw8:Fw iOc:=⟨i64 _ rfl,i64 _ rfl,i64 _ rfl,(fun _ h=>by cases h),i64 _ rfl,i64 _ rfl,i64 _ rfl,i64 _ rfl,i64 _ rfl,i64 _ rfl,i64 _ rfl,i64 _ rfl,i64 _ rfl⟩
theorem aw9:Fw erO:=⟨i64 _ rfl,i64 _ rfl,i64 _ rfl,(fun x h=>by rw[mem_singleton.1 h];exact⟨i64 _ rfl,i64 _ rfl⟩),i64 _ rfl,i64 _ rfl,i64 _ rfl,i64 _ rfl,i64 _ rfl,i64 _ rfl,i64 _ rfl,i64 _ rfl,i64 _ rfl⟩
theorem axa:Fw zoO:=⟨i64 _ rfl,i64 _ rfl,i64 _ rfl,(fun _ h=>by cases h),i64 _ rfl,i64 _ rfl,i64 _ rfl,i64 _ rfl,i64 _ rfl,i64 _ rfl,i64 _ rfl,i64 _ rfl,i64 _ rfl⟩
theorem axW{o:OP}(h:Fw o)(hc:o.cx.length<=1):Okn o:=⟨zO,h.kd,h.f3⟩
theorem awp{d:DO}{o:OP}{n:Nat}(h:SmD n d)(hn:n<=2)(ho:Fw o)(hc:o.cx.length<=1):ak P G 12 [kI d,op o] [] (.ret (if EF d o=0 then .bq [kI (afQ d o),int 0]else .bq [Rf,int (EF d o)])) []:=Vl (h.dim zO).1 (axW ho hc) ho zO (h.dim zO).2
theorem erS:aF (.agg erL) (op erO):=aF.qo ⟨aF.refl _,aF.refl _,aF.refl _,aF.oP 2 true _,aF.refl _,aF.refl _,aF.refl _,aF.refl _,aF.refl _,aF.refl _,aF.refl _,aF.refl _,aF.refl _,aF.refl _,aF.refl _,aF.refl _,aF.refl _,yO⟩
theorem zoS:aF (.agg zoL) (op zoO):=aF.qo ⟨aF.refl _,aF.refl _,aF.refl _,aF.nil 2,aF.refl _,aF.refl _,aF.refl _,aF.refl _,aF.refl _,aF.refl _,aF.refl _,aF.refl _,aF.refl _,aF.refl _,aF.refl _,aF.refl _,aF.refl _,yO⟩
theorem baS:aF baL (kI b0):=aF.qo ⟨aF.oP 2 true _,aF.nil 7,yO⟩
theorem ayP:SmD 1 b0:=⟨⟨Nat.zero_le _,fun _ h=>by cases h⟩,Nat.le_refl _,fun _ h=>by cases h⟩
theorem ayQ:EF z0 iOc=0:=zQ
theorem ayR:EF x0 erO=0:=zQ
abbrev e0V:CV:=lsV [lsV [],lsV []]
theorem ayS:QG e0V:=by
 have h:QG (lsV []):=.mk _ _ _ _ (i64 _ rfl) yN yN (fun _ h=>by cases h);refine .mk _ _ _ _ (i64 _ rfl) yN zD fun v hv=>?_;rcases yH.1 hv with rfl|hv
 .exact h
 .rw [mem_singleton.1 hv];exact h
theorem e0S:aF (.agg [int 3,int 0,str .empty,.sl 4 true [[int 3,int 0,str .empty,aK],[int 3,int 0,str .empty,aK]]]) (val e0V) :=
 aF.qo ⟨aF.refl _,aF.refl _,aF.refl _,aF.anK rfl (fun y hy=>by rcases yH.1 hy with rfl|hy;rfl;rw[mem_singleton.1 hy];rfl) (fun k j hk hj=>by
  match k,hk,j,hj with
  |0,_,0,_|0,_,1,_|0,_,2,_|1,_,0,_|1,_,1,_|1,_,2,_=>exact xP.refl _
  |0,_,3,_|1,_,3,_=>exact xP.nil 4),yO⟩
theorem atx:ak P G 10 [] [] (.ret (Am.bool true)) []:=by
 have s1:=ayh ayQ aw8;have s2:SmD 2 y0:=by
  have:=ZW aw9 s1;unfold Bn at this;rwa[yL ayR]at this
 have a1:=awp (aeB 0) zO aw8 yN;rw[yL ayQ]at a1;have a2:=awp s1 zO aw9 yM;rw[yL ayR]at a2;have a3:=awp (aeB 0) zO aw9 yM;rw[show EF z0 erO=181 by kernel_rfl,yK zD]at a3;have a4:=awp s1 zO aw8 yN;rw[show EF x0 iOc=182 by kernel_rfl,yK zD]at a4;have a5:=awp (aeB 0) zO axa yN;rw[show EF z0 zoO=170 by kernel_rfl,yK zD]at a5;have a6:=awp ayP zO axa yN;rw[show EF b0 zoO=180 by kernel_rfl,yK zD]at a6;have k1:=fG z0 ((aeB 0).dim zO).1;rw[show F9 z0=0 by kernel_rfl]at k1;have k2:=fG b0 (ayP.dim zO).1;rw[show F9 b0=180 by kernel_rfl]at k2;have ec:=Go.yU.awI e0V ayS zD (fun _=>zD);rw[show jg e0V=0 by kernel_rfl]at ec;have en:=azg z0 [] [] (av7 e0V) 0 k1 ((ayC yO).out lVS) ((ayD yO).out lVS) ec trivial;have rd:=apv z0 k1 (azh z0 zS yO) trivial;have ho:=bV.fG zoO (axW axa yN);rw[show bV.lM zoO=170 by kernel_rfl]at ho;have dc:=Go.yU.awU [] zD;rw[show Go.yU.adl []=10 by kernel_rfl]at dc;have de:=azi 10 zD [] _ dc trivial;have hs:=Go.yU.zG (lsV []) (.mk _ _ _ _ (i64 _ rfl) yN yN (fun _ h=>by cases h)) (lsV []);rw[show Go.yU.sm (lsV []) (lsV [])=true by kernel_rfl]at hs;have m1:=av3 x0 x0 (s1.dim zO).1 (s1.dim zO).1;rw[decide_eq_true rfl]at m1;have m2:=av3 x0 y0 (s1.dim zO).1 (s2.dim zO).1;rw[show decide (x0=y0)=false by kernel_rfl]at m2;refine ayg x0 y0 (x0.fs.getD 0 (Fx iOc)) (Fx iOc) (y0.fs.getD 1 (Fx iOc)) zQ zQ zQ zQ zQ zQ zQ (av7 e0V) (ayF 1 1 1 _ _ yO) (I9 a1 at7 (aF.refl _)) (I9 a2 (aF.refl _) erS) (I9 a3 at7 erS) a4 (I9 a5 at7 zoS) ((PD rd at7).out (aF.U1 lVS (aF.refl _))) (PD en at7) (PD ec e0S) (PD de (aF.nil 1)) (I9 a6 baS zoS) (PD ho zoS) (I9 hs (aF.refl _) lVS) (PD k1 at7) (PD k2 baS) m1 m2 ⟨fun _=>trivial,fun h=>?_⟩;rw[beq_self_eq_true]at h;cases h
end Go.Dc
namespace Go.Dc
open Go Go.Am Go.Proofs Go.eY Go.bH
open Go.yU (CV rR val Cy jl iB fA gT aaw adl)
theorem aBD(d:DO)(ha:avT d):ak P G 11 [kI d,aK] [] (.ret (Am.bool (smD d))) []:=by
 have h:=ayV d true [] ha zS (fun _ h=>by cases h);exact I9 h (aF.refl _) (aF.aed 17)
theorem aBE{d:DO}(h:smD d=true):(d.sn.length<=500000/\d.fs.length<=500000)/\∀f∈d.fs,f.ce.length<=500000/\f.bi.length<=500000/\f.ta.length<=500000/\f.tc.length<=500000/\f.tm.length<=500000:=by
 unfold smD smF at h;simp only[Bool.and_eq_true,decide_eq_true_eq,all_eq_true]at h;refine⟨zO,fun f hf=>?_⟩;obtain⟨⟨⟨a,b⟩,c⟩,e⟩:=h.1 f hf;unfold Bd.avy at b;simp only[Bool.and_eq_true,decide_eq_true_eq]at b;omega
def enX(d:DO):List UInt8:=if F9 d=0 then gT (auy d)else[]
theorem aBg{d:DO}(ha:avT d)(hs:smD d=true):ak P G 21 [kI d] [] (.ret (.bq [Cy (enX d),int (F9 d)])) []:=by
 have k:=aBE hs;have h:=aAy ha ((ayj ha hs).dim zO).1 k.1 k.2 (aAH hs);unfold enX;by_cases e:F9 d=0
 .rw [yL e]at h |-;rw[e];exact h
 .rw [yK e]at h |-;have e2:F9 d=180:=by unfold F9 at e |-;split;(rename_i q;rw[yL q]at e;exact absurd rfl e);rfl
  rw[e2];exact h.out (aF.U1 (aF.nil 1) (aF.refl _))
theorem aBF(x c:List UInt8):(ByteArray.toList (ByteArray.mk (toArray x))==ByteArray.toList (ByteArray.mk (toArray c)))=decide (x=c):=by
 rw[yU.rC];simp
theorem aBx{d o:DO}(ha:avT d)(hb:avT o)(h:F9 d=0)(k:F9 o=0):enX d=enX o↔d=o:=by
 unfold enX;rw[yL h,yL k];refine⟨fun e=>aA3 h k (yU.aBv (aAh d) (aAh o) (azY ha) (azY hb) (by have:=az3 d;omega) (by have:=az3 o;omega) e),fun e=>by rw[e]⟩
theorem aBG{d o:DO}{raw:List UInt8}(ha:avT d)(hb:avT o)(hr:raw.length<=9223372036854775807):ak P G 8 [kI d,kI o,Cy raw] [] (.ret (Am.bool true)) []:=by
 have f1:=aBD d ha;have f2:=aBD o hb;cases e1:smD d with
 |false=>rw[e1]at f1;exact aCL d o raw atx f1 trivial
 |true =>
 rw[e1]at f1;cases e2:smD o with
 |false=>rw[e2]at f2;exact aCM d o raw atx f1 f2 trivial
 |true =>
 rw[e2]at f2;by_cases hl:raw.length<=2000
 .have hE:=aBg ha e1;have hF:=aBg hb e2;have dd:=((ayj ha e1).dim zO).1;have dO:=((ayj hb e2).dim zO).1;have hK:=fG d dd;have hR:=aBL raw zO;have eb:∀g:Bool,(((g==g)=true->True)/\((g==g)=false->false=true)):=fun g=>⟨fun _=>trivial,fun h=>by simp at h⟩;have er:(ByteArray.toList (ByteArray.mk (toArray raw))==ByteArray.toList (ByteArray.mk (toArray raw)))=true:=by rw[aBF];exact decide_eq_true rfl
  have eb2:∀g:Bool,(((g==g)=true->(ByteArray.toList (ByteArray.mk (toArray raw))==ByteArray.toList (ByteArray.mk (toArray raw)))=true)/\((g==g)=false->false=true)):=fun g=>⟨fun _=>er,fun h=>by simp at h⟩;have hB:(∃g:Int,¬g=0/\ak P G 23 [Cy raw] [] (.ret (.bq [kI ⟨[],[]⟩,int g])) [])\/∃y:DO,ak P G 23 [Cy raw] [] (.ret (.bq [kI y,int 0])) []/\ak P G 21 [kI y] [] (.ret (.bq [Cy raw,int 0])) []:=by
   by_cases q:aAK raw
   .rw [yL q]at hR;obtain⟨w,_,ov,en⟩:=yU.axr zO q.1;obtain⟨dm,⟨n1,n2⟩,hs⟩:=aCG w ov (by rw[en];omega);have hG:=aAy (aAz ov) dm ⟨zO,zO⟩ (fun f hf=>by obtain⟨b1,b2,b3,b4,b5⟩:=hs f hf;exact⟨zO,zO,zO,zO,zO⟩) (fun _=>by have:=aCz w;rw[en]at this;omega);rw[yL q.2.1,q.2.2]at hG;exact .inr ⟨_,hR,hG⟩
   .rw [yK q]at hR;refine .inl ⟨_,?_,hR.out (aF.U1 at7 (aF.refl _))⟩;split
    .decide
    .assumption
  by_cases h0:F9 d=0
  .have k:=aBE e1;have hD:=aBN ha dd k.1 k.2 (aAH e1 h0) h0;have hT:=av3 d d dd dd;rw[decide_eq_true rfl]at hT;rw[h0]at hE hK;have hx:enX d=gT (auy d):=yL h0;rw[<- hx]at hD;by_cases h1:F9 o=0
   .rw [h1]at hF;have hU:=av3 d o dd dO;have eq:((ByteArray.toList (ByteArray.mk (toArray (enX d)))==ByteArray.toList (ByteArray.mk (toArray (enX o))))==decide (d=o))=true:=by
     rw[aBF,beq_iff_eq,decide_eq_decide];exact aBx ha hb h0 h1
    rcases hB with⟨g,hg,hR⟩|⟨y,hR,hG⟩
    .exact aBZ d o raw hl atx f1 f2 _ _ _ hE hF hK hD hT hU g hg hR ⟨fun _=>trivial,fun h=>by rw[eq]at h;cases h⟩
    .exact aB0 d o raw hl atx f1 f2 _ _ _ hE hF hK hD hT hU y hR hG ⟨fun _=>er,fun h=>by rw[eq]at h;cases h⟩
   .rcases hB with⟨g,hg,hR⟩|⟨y,hR,hG⟩
    .exact aBX d o raw hl atx f1 f2 _ _ _ h1 hE hF hK hD hT g hg hR trivial
    .exact aBY d o raw hl atx f1 f2 _ _ _ h1 hE hF hK hD hT y hR hG er
  .rcases hB with⟨g,hg,hR⟩|⟨y,hR,hG⟩
   .exact aBV d o raw hl atx f1 f2 _ _ _ _ h0 hE hF hK g hg hR (eb _)
   .exact aBW d o raw hl atx f1 f2 _ _ _ _ h0 hE hF hK y hR hG (eb2 _)
 .exact aCN d o raw hr zO atx f1 f2 trivial
end Go.Dc
