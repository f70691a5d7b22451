import Derived.Test.YtdacbkmlfcjcgaaGreatDoorG6
set_option maxRecDepth 100000
set_option linter.unusedSimpArgs false
set_option linter.unusedVariables false
open List
noncomputable section
namespace Go.Tx
open Go Go.Am Go.Proofs Go.eY Go.Lib Go.OC
set_option maxHeartbeats 4000000 in
theorem pz:OC.X8 385 11:=by
 intro b n c i vb vo vc cs vs w hi gY Me TF lG Cv jQ Q7 Qz Ev Gy Gz tA tB kA kB OD NS QA Q8;have iZ:(Tryz.prog.info? 116).map (·.size)=some 11:=zQ
 have hov:∀lb cb o,(callFunc 392 #[.slice (some ⟨vb,vo,none⟩) 1 vc,.slice (some ⟨b,o,none⟩) lb cb]).run Tryz.prog w = .ok (.value (.bool false)) w:=fun lb cb o=>by
  rw[run_callFunc_extern Tryz.func392 zQ zQ zQ (e:=Extern.SlicesOverlaps.overlaps #[63,63] #[4]) zQ,
   lX w 63 4 116 Tryz.underlying63 11 Tryz.sizeOf116 ⟨vb,vo,none⟩ ⟨b,o,none⟩ 1 vc lb cb TF tA tB kA kB OD NS QA Q8 Qz rfl]
  rfl
 have mixed:Tryz.prog.follows .mixedOrders=true:=zQ
 obtain⟨jw,OE,hw2,Mf,vN,X9,XB,Ya,hb4,W1,KF,J2,Mh⟩:=Mi (vc:=vc) (tS:=63) (tE:=116) (z:=11) zD Tryz.underlying63 iZ hi gY Me TF lG Cv jQ Q7 Qz Ev Gy Gz OD NS QA Q8
 go_enter Tryz.func385,Tryz.ntmps385
 go_wp2_with (simp only[hov])
 go_region_law_o (refine step_copy_runI rfl _ _ 63 63 rfl _ _ (by simp[Act.eval,Act.put]) (by simp[Act.eval,Act.put]) (J2 _ _ _) ?_)
 go_wp2_with (at_builtin;refine wpList_copy_runI _ rfl _ _ 63 63 rfl _ _ rfl rfl (Mh _ (fun _=>rfl) (fun _=>rfl) _ _) ?_)
 go_ret
 first|exact⟨rfl,rfl⟩|exact⟨rfl,by rw[KF]⟩
abbrev zB:Value:=.agg #[.int .i64 0,.int .i64 0,.int .i64 0,.int .i64 0,.int .i64 0,.int .i64 0,.int .i64 0,.int .i64 0,.int .i64 0,.int .i64 0,.bool false]
set_option maxHeartbeats 4000000 in
theorem sU:OC.Yb 385 11 116 88 zB:=by
 intro b n c i vb vo vc cs vs w hi hnc gY Ia lG Cv jQ Ev Gy Gz;have iZ:(Tryz.prog.info? 116).map (·.size)=some 11:=zQ
 have mixed:Tryz.prog.follows .mixedOrders=true:=zQ
 obtain⟨G,oJ,hG,yg,jw,x9,hGi,Yc,hci,OE,Mf,vN,X9,Ya,hGn,Yd,Xf,Mj,ED⟩:=TG (vc:=vc) (tS:=63) (tE:=116) (z:=11) (B:=88) (zB:=zB) zD zD Tryz.underlying63 iZ zQ rfl hi hnc gY Ia lG Cv jQ Ev Gy Gz;rw[<- hG,<- yg];have hE1:∀x,((w.alloc (.cells oJ 116)).drew).cell? x=(w.drew.alloc (.cells oJ 116)).cell? x:=fun x=>rfl;have hE2:∀x,((w.alloc (.cells oJ 116)).drew).frozen? x=(w.drew.alloc (.cells oJ 116)).frozen? x:=fun x=>rfl;have Ko:∀x,(((w.alloc (.cells oJ 116)).drew.setCells w.heap.size (i*11) vs).drew).cell? x=((w.drew.alloc (.cells oJ 116)).setCells w.heap.size (i*11) vs).cell? x:=fun x=>rfl;have hF2:∀x,(((w.alloc (.cells oJ 116)).drew.setCells w.heap.size (i*11) vs).drew).frozen? x=((w.drew.alloc (.cells oJ 116)).setCells w.heap.size (i*11) vs).frozen? x:=fun x=>rfl;clear yg hG
 go_enter Tryz.func385,Tryz.ntmps385
 go_wp2_with (first
  |(at_builtin;refine Lib.wpList_append_run _ rfl _ _ _ _ rfl _ _ rfl rfl _ _ (Xf _) ?_)
  |(at_builtin;refine wpList_copy_runI _ rfl _ _ 63 63 rfl _ _ rfl rfl (Mj _ hE1 hE2 _ _) ?_)
  |(at_builtin;refine wpList_copy_runI _ rfl _ _ 63 63 rfl _ _ rfl rfl (ED _ (fun _=>rfl) (fun _=>rfl) _ _ _) ?_))
 go_region_law_o (refine step_copy_runI rfl _ _ 63 63 rfl (.slice (some ⟨w.heap.size,(i+1)*11,none⟩) (n-i) (G-(i+1))) (.slice (some ⟨b,i*11,none⟩) (n-i) (c-i)) (by simp[Act.eval,Act.put]) (by simp[Act.eval,Act.put]) (ED _ Ko hF2 3 (G-(i+1)) (c-i)) ?_)
 go_wp2
 go_ret
 exact⟨rfl,rfl⟩
end Go.Tx
namespace Go.Tx
open Go Go.Am Go.Proofs Go.eY Go.Lib
theorem Ra(x w:List MK)(b:MK)(i:Nat)(hi:i<x.length)(hx:x.length<=1000000000):ak P G 385 [.aU 0 0 0 x.length,int i,.sl 11 true [aQ b]] [.aN 0 11 false (au (x++w))] (.ret (oI (x.take i++[b]++x.drop i))) [.aH]:=by
 have e:(au x).take i++[aQ b]++(au x).drop i=au (x.take i++[b]++x.drop i):=by simp[au]
 have h:=OC.uL (F:=385) (z:=11) (tE:=116) (B:=88) (zB:=zB) zD zD rfl pz sU (au x) (au w) (aQ b) 0 i rfl (by rw[ay];exact hi) (by rw[ay];exact hx);rw[e,ay,gy]at h;exact((ak.qp (xs:=[.aU 0 0 0 x.length,int i,.sl 11 true [aQ b]]) h ⟨aF.refl _,aF.refl _,aF.oP _ _ _,yO⟩).Mq (z:=au (x.take i++[b]++x.drop i)) rfl ⟨rfl,take_of_length_le yM,rfl,bK _,yO⟩).pY ⟨.inr yO,yO⟩
end Go.Tx
namespace Go.Tx
open Go Go.Am Go.Proofs Go.eY
open Go.Sq (CE nP bZ oO vM fX U2 kQ jg)
abbrev a1F(i:Nat):AV:=.fn (.func 383) [] [.ptr i 0]
theorem Yf(x y:MK):(x.dv==y.dv&&x.sq==y.sq)=decide (x.eG=y.eG):=by
 rw[Bool.eq_iff_iff];simp[MK.eG]
theorem amU(x m:MK)(r:Bool)(h:(x.dv==m.dv&&x.sq==m.sq)=(r)):ak P G 383 [EC x,.ptr 0 0] [ah.box (aQ m)] (aS.ret (Am.bool r)) [ah.box (aQ m)]:=by
 exact aA (aF.aI h) []
theorem amV(x m:MK):ak P G 383 [EC x,.ptr 0 0] [.box (aQ m)] (.ret (bool (decide (x.eG=m.eG)))) [.box (aQ m)]:=amU x m _ (Yf x m)
def aiS(v:List MK)(m:MK)(k:Nat):St:={ aL:=aC 19 [(0,oI v),(1,a1F 0),(4,int 0),(6,oI v),(7,int v.length),(8,int k)],H:=[.box (aQ m)] }
theorem afG(v:List MK)(m:MK)(k:Nat)(hv:v.length<=1000000000)(ex:bF)(r:Int)(h:((((k:Int)<(v.length:Int))->(∃x2:MK,(v[k]?=some x2)/\(((x2.eG=m.eG)->(bF.ret=ex)/\(((k:Int):Int)=(r)))/\((¬x2.eG=m.eG)->Rq 1 292 0 (sM 19 [(0,.sl 11 false (au v)),(1,.fn (Fn.func 383) [] [.ptr 0 0]),(4,int 0),(6,.sl 11 false (au v)),(7,int ↑v.length),(8,int ↑(k+1))] [.box [int m.dv,int m.sq,int m.tm,int m.fd,int m.fs,int m.fa,int m.td,int m.ts,int m.ta,int m.st,Am.bool m.on]]) ex (sM 19 [(4,int r)] [.box (aQ m)])))))/\((¬(k:Int)<(v.length:Int))->(bF.exit 0=ex)/\(0=r)))):Rq 1 292 0 (aiS v m k) ex (sM 19 [(4,int r)] [.box (aQ m)]):=by
 by_cases c1:((k:Int)<(v.length:Int))
 .have h:=h.1 c1;obtain⟨x2,o3,h⟩:=h;have fT:=(@amV (x2) (m));let l1:List fP:=[kt (qT c1),ke (aQ x2) (au v) k (bG o3),kc [0] fT];by_cases c4:(x2.eG=m.eG)
  .have h:=h.1 c4;obtain⟨eX,e1⟩:=h;exact bN.to ((show Rq 1 292 0 (aiS v m k) bF.ret (sM 19 [(4,int ↑k)] [.box [int m.dv,int m.sq,int m.tm,int m.fd,int m.fs,int m.fa,int m.td,int m.ts,int m.ta,int m.st,Am.bool m.on]])from aG (l1++[kt (qT c4)]) (aB 19 [4]) 1)) eX (eB.aC ⟨rfl,(aF.int_eq e1),yO⟩)
  .have h:=h.2 c4;exact aJ (l1++[kf (qF c4),kW 18 (k+1) ↑(k+1)]) (aB 19 [0,1,4,6,7,8]) 1 h
 .have h:=h.2 c1;obtain⟨eX,e1⟩:=h;exact bN.to ((show Rq 1 292 0 (aiS v m k) (bF.exit 0) (sM 19 [(4,int 0)] [.box [int m.dv,int m.sq,int m.tm,int m.fd,int m.fs,int m.fa,int m.td,int m.ts,int m.ta,int m.st,Am.bool m.on]])from aG [kf (qF c1)] (aB 19 [4]) 1)) eX (eB.aC ⟨rfl,(aF.int_eq e1),yO⟩)
theorem acd(v:List MK)(m:MK)(hv:v.length<=1000000000):∀n k,v.length-k=n->k<=v.length->∃j:Nat,Rq 1 292 0 (aiS v m k) (if(v.drop k).any (fun a=>decide (a.eG=m.eG))=true then .ret else .exit 0) { aL:=aC 19 [(4,int j)],H:=[.box (aQ m)] }:=by
 intro n
 induction n with
 |zero =>
  intro k hn hk;rw[drop_eq_nil_of_le zO];exact⟨0,afG v m k hv _ _ ⟨fun h=>absurd h zO,fun _=>⟨rfl,rfl⟩⟩⟩
 |succ n ih =>
  intro k hn hk;have bg:k<v.length:=zO
  obtain⟨j,nx⟩:=ih (k+1) zO zO;rw[drop_eq_getElem_cons bg,any_cons];cases hd:decide (v[k].eG=m.eG)with
  |true =>
   rw[Bool.true_or];exact⟨k,afG v m k hv _ _ ⟨fun h=>⟨v[k],yA bg,⟨fun _=>⟨rfl,rfl⟩,fun hq=>by simp[of_decide_eq_true hd]at hq⟩⟩,fun h=>absurd bg zO⟩⟩
  |false =>
   rw[Bool.false_or];exact⟨j,afG v m k hv _ _ ⟨fun h=>⟨v[k],yA bg,⟨fun hq=>absurd hq (of_decide_eq_false hd),fun _=>nx⟩⟩,fun h=>absurd bg zO⟩⟩
theorem amW(v:List MK)(m:MK)(j:Nat)(hL:Rq 1 292 0 (aiS v m 0) .ret { aL:=aC 19 [(4,int j)],H:=[.box (aQ m)] })(h:True):ak P G 292 [oI v,a1F 0] [ah.box (aQ m)] (aS.ret (int ↑j)) [ah.box (aQ m)]:=by
 exact aj [kN 7 (ay v),kl (rG [(2,2),(5,1),(9,10)]) 1 hL]
theorem amX(v:List MK)(m:MK)(j:Nat)(hL:Rq 1 292 0 (aiS v m 0) (.exit 0) { aL:=aC 19 [(4,int j)],H:=[.box (aQ m)] })(h:True):ak P G 292 [oI v,a1F 0] [ah.box (aQ m)] (aS.ret (int (-1))) [ah.box (aQ m)]:=by
 exact aj [kN 7 (ay v),kl (rG [(2,2),(5,1),(9,10)]) 1 hL]
theorem ace(v:List MK)(m:MK)(i:Int)(h0:ak P G 292 [oI v,a1F 0] [.box (aQ m)] (.ret (int i)) [.box (aQ m)])(r:Bool)(h:(decide (i>=0))=(r)):ak P G 250 [oI v,a1F 0] [ah.box (aQ m)] (aS.ret (Am.bool r)) [ah.box (aQ m)]:=by
 exact aA (aF.aI h) [kc [0] h0]
theorem ajp(v:List MK)(m:MK)(hv:v.length<=1000000000):ak P G 250 [oI v,a1F 0] [.box (aQ m)] (.ret (bool (v.any fun a=>decide (a.eG=m.eG)))) [.box (aQ m)]:=by
 obtain⟨j,h0⟩:=acd v m hv _ 0 rfl zO;rw[drop_zero]at h0;cases h:v.any fun a=>decide (a.eG=m.eG)with
 |true=>rw[h,yL rfl]at h0;exact ace v m _ (amW v m j h0 yO) _ zS
 |false=>rw[h,yK zD]at h0;exact ace v m _ (amX v m j h0 yO) _ zS
abbrev yT(f:Nat):AV:=.lit (.func (.func f) #[] #[])
def Bc(i j:Nat):Int:=IntKind.wrap IntKind.i64 (Int.fdiv (↑(i+j):Int) (2^min (Int.toNat 1) (IntKind.bits IntKind.u64)))
theorem Ms{i j:Nat}(h:i+j<=1000000000000):Bc i j=(((i+j)/2:Nat):Int):=by
 have e:(2^min (Int.toNat 1) (IntKind.bits IntKind.u64):Int)=2:=zD
 unfold Bc;rw[e,IntKind.wrap_i64,Int.fdiv_eq_ediv_of_nonneg _ zO];omega
def Yg(v:List MK)(m:MK)(i j:Nat):St:={ aL:=aC 49 [(0,oI v),(2,yT 249),(4,.ptr 0 0),(8,int v.length),(9,int i),(10,int j)],H:=[.box (aQ m)] }
def bsX(v:List MK)(m:MK)(p:Nat):St:={ aL:=aC 49 [(0,oI v),(2,yT 249),(4,.ptr 0 0),(8,int v.length),(9,int p)],H:=[.box (aQ m)] }
theorem afH(v:List MK)(b:MK)(i j m:Nat)(hj:j<=v.length)(hv:v.length<=1000000000)(hm:Bc i j=(m:Int))(hm':IntKind.wrap IntKind.i64 (Int.fdiv (↑(i+j):Int) (2^min (Int.toNat 1) (IntKind.bits IntKind.u64)))=(m:Int))(bg:m<j)(ex:bF)(s:St)(h:((((i:Int)<(j:Int))->(∃x2:MK,((0:Int)<=Bc i j/\v[Int.toNat (Bc i j)]?=some x2)/\(((yc x2 b<0)->Rq 0 384 0 (sM 49 [(0,.sl 11 false (au v)),(2,iL 249),(4,.ptr 0 0),(8,int ↑v.length),(9,int (Bc i j+1)),(10,int ↑j)] [.box [int b.dv,int b.sq,int b.tm,int b.fd,int b.fs,int b.fa,int b.td,int b.ts,int b.ta,int b.st,Am.bool b.on]]) ex s)/\((¬yc x2 b<0)->Rq 0 384 0 (sM 49 [(0,.sl 11 false (au v)),(2,iL 249),(4,.ptr 0 0),(8,int ↑v.length),(9,int ↑i),(10,int (Bc i j))] [.box [int b.dv,int b.sq,int b.tm,int b.fd,int b.fs,int b.fa,int b.td,int b.ts,int b.ta,int b.st,Am.bool b.on]]) ex s))))/\((¬(i:Int)<(j:Int))->(bF.exit 0=ex)/\(sM 49 [(0,.sl 11 false (au v)),(2,iL 249),(4,.ptr 0 0),(8,int ↑v.length),(9,int ↑i)] [.box [int b.dv,int b.sq,int b.tm,int b.fd,int b.fs,int b.fa,int b.td,int b.ts,int b.ta,int b.st,Am.bool b.on]]=s)))):Rq 0 384 0 (Yg v b i j) ex s:=by
 by_cases c1:((i:Int)<(j:Int))
 .have h:=h.1 c1;obtain⟨x2,o3,h⟩:=h;have Av:=(@wW (x2) (b));let l1:List fP:=[kt (qT c1),kW 20 ((i:Int)+(j:Int)) (↑(i+j):Int),kv 21 (show Am.aF (AV.lit (Value.int IntKind.u64 (IntKind.wrap IntKind.u64 (↑(i+j):Int)))) (AV.lit (Value.int IntKind.u64 (↑(i+j):Int)))from(aF.zf zO zO rfl)),ko (bC.elem (aQ x2)),kp (show(0:Int)<=(1:Int)from zO),kp (show(0:Int)<=IntKind.wrap IntKind.i64 (Int.fdiv (↑(i+j):Int) (2^min (Int.toNat 1) (IntKind.bits IntKind.u64)))/\(au v)[Int.toNat (IntKind.wrap IntKind.i64 (Int.fdiv (↑(i+j):Int) (2^min (Int.toNat 1) (IntKind.bits IntKind.u64))))]?=some (aQ x2)from(qU o3)),kc [] Av];by_cases c4:(yc x2 b<0)
  .have h:=h.1 c4;exact aJ (l1++[kt (qT c4),kW 33 (IntKind.wrap IntKind.i64 (Int.fdiv (↑(i+j):Int) (2^min (Int.toNat 1) (IntKind.bits IntKind.u64)))+1) (Bc i j+1)]) (aB 49 [0,2,4,8,9,10]) 1 h
  .have h:=h.2 c4;exact aJ (l1++[kf (qF c4)]) (aB 49 [0,2,4,8,9,10]) 1 h
 .have h:=h.2 c1;obtain⟨eX,eS⟩:=h;exact bN.to ((aG [kf (qF c1)] (aB 49 [0,2,4,8,9]) 1)) eX (eB.of_eq eS)
theorem afI(v:List MK)(b:MK)(i j:Nat)(wQ:¬(i:Int)<(j:Int))(h:True):Rq 0 384 0 (Yg v b i j) (bF.exit 0) (bsX v b i):=by
 exact aG [kj ((i:Int)<j)] (aB 49 [0,2,4,8,9]) 1
theorem OH(v:List MK)(b:MK)(p:Nat)(hp:p<=v.length)(hv:v.length<=1000000000)(hL:Rq 0 384 0 (Yg v b 0 v.length) (.exit 0) (bsX v b p))(r:Bool)(h:((((p:Int)<(v.length:Int))->(∃x2:MK,(v[p]?=some x2)/\(yc x2 b==0)=(r)))/\((¬(p:Int)<(v.length:Int))->(false)=(r)))):Cq 384 [oI v,EC b,yT 249] (.bq [int ↑p,Am.bool r]):=by
 let l1:List fP:=[kN 13 (ay v),kl (rG [(1,1),(3,1),(5,3),(11,38)]) 1 hL];by_cases c1:((p:Int)<(v.length:Int))
 .have h:=h.1 c1;obtain⟨x2,o3,h⟩:=h;have e1:=h;exact ak.out ((show Cq 384 [oI v,EC b,yT 249] (.bq [int ↑p,Am.bool (yc x2 b==0)])from aj (l1++[kt (qT c1),ke (aQ x2) (au v) p (bG o3),kc [] (@wW (x2) (b))]))) (aF.iM ⟨aF.refl _,(aF.aI e1),yO⟩)
 .have h:=h.2 c1;have e1:=h;exact ak.out ((show Cq 384 [oI v,EC b,yT 249] (.bq [int ↑p,Am.bool false])from aj (l1++[kf (qF c1)]))) (aF.iM ⟨aF.refl _,(aF.aI e1),yO⟩)
theorem Rb(x:List MK)(b:MK)(i:Int)(hi:i=(x.length:Int))(hx:x.length<=1000000000)(h:True):ak P G 385 [.aU 0 0 0 x.length,int i,.sl 11 true [aQ b]] [ah.aN 0 11 false (au x)] (aS.ret (oI (x++[b]))) [ah.aH]:=by
 have bS:0=0:=(rfl);exact ak.pY ((show ak P G 385 [.aU 0 0 0 x.length,int i,.sl 11 true [aQ b]] [ah.aN 0 11 false (au x)] (aS.ret (AV.sl 11 false (au (x++[MK.mk b.dv b.sq b.tm b.fd b.fs b.fa b.td b.ts b.ta b.st b.on])))) [ah.aN 1 11 true (au (x++[MK.mk b.dv b.sq b.tm b.fd b.fs b.fa b.td b.ts b.ta b.st b.on]))]from aj [kp bS,Ga i (x.length:Int) (x.length:Int),kY,kp bS,kt (show(i==(x.length:Int))=true from(qT zO)),ko (bC.hp (some 25) (AV.aU 0 1 0 (length (x++[MK.mk b.dv b.sq b.tm b.fd b.fs b.fa b.td b.ts b.ta b.st b.on]))) [ah.aN 1 11 false (au (x++[MK.mk b.dv b.sq b.tm b.fd b.fs b.fa b.td b.ts b.ta b.st b.on]))]),ko (bC.Gu (au (x++[MK.mk b.dv b.sq b.tm b.fd b.fs b.fa b.td b.ts b.ta b.st b.on]))),kp (show Am.aF (AV.aU 0 1 0 (length x+1)) (AV.aU 0 1 0 (length (x++[MK.mk b.dv b.sq b.tm b.fd b.fs b.fa b.td b.ts b.ta b.st b.on])))from(aF.of_eq (by simp[bJ,bK,dW,ay]))),kp (show Am.HSub [ah.aN 1 11 false (au x++[[int b.dv,int b.sq,int b.tm,int b.fd,int b.fs,int b.fa,int b.td,int b.ts,int b.ta,int b.st,Am.bool b.on]])] [ah.aN 1 11 false (au (x++[MK.mk b.dv b.sq b.tm b.fd b.fs b.fa b.td b.ts b.ta b.st b.on]))]from(⟨.inl (by simp only[gy,Aw]),yO⟩)),kp bS,kp (ay x).symm,vV ((length x+1)*88),kq 1,kp (show List.take (length (x++[MK.mk b.dv b.sq b.tm b.fd b.fs b.fa b.td b.ts b.ta b.st b.on])) (List.drop 0 (au (x++[MK.mk b.dv b.sq b.tm b.fd b.fs b.fa b.td b.ts b.ta b.st b.on])))=au (x++[MK.mk b.dv b.sq b.tm b.fd b.fs b.fa b.td b.ts b.ta b.st b.on])from(dW _)),kp (show length (au (x++[MK.mk b.dv b.sq b.tm b.fd b.fs b.fa b.td b.ts b.ta b.st b.on]))=length (x++[MK.mk b.dv b.sq b.tm b.fd b.fs b.fa b.td b.ts b.ta b.st b.on])from(ay _)),kp (show ∀(c:List AV),c∈au (x++[MK.mk b.dv b.sq b.tm b.fd b.fs b.fa b.td b.ts b.ta b.st b.on])->List.all c AV.fJ=true from(bK _))])) (by exact⟨.inr yO,yO⟩)
theorem Yh(x:List MK)(b:MK)(i:Int)(hi:i=(x.length:Int))(hx:x.length<=1000000000)(h:True):Cq 385 [.sl 11 true (au x),int i,.sl 11 true [aQ b]] (oI (x++[b])):=by
 exact aj [kv 12 (show Am.aF (AV.sl 11 true (List.drop (Int.toNat i) (List.take (Int.toNat (↑(length (au x)):Int)) (au x)))) (AV.sl 11 true (List.drop (Int.toNat i) (List.take (Int.toNat (x.length:Int)) (au x))))from(aF.of_eq (by simp only[ay]))),Ga i (↑(length (au x)):Int) (↑(length (au x)):Int) (by rw[ay];omega),kY,kN 19 (ay x),kt (show(i==(x.length:Int))=true from(qT zO)),ko (bC.hp (some 25) (AV.aU 0 0 0 (length (x++[MK.mk b.dv b.sq b.tm b.fd b.fs b.fa b.td b.ts b.ta b.st b.on]))) [ah.aN 0 11 false (au (x++[MK.mk b.dv b.sq b.tm b.fd b.fs b.fa b.td b.ts b.ta b.st b.on]))]),ko (bC.Gu (au (x++[MK.mk b.dv b.sq b.tm b.fd b.fs b.fa b.td b.ts b.ta b.st b.on]))),kp (show Am.aF (AV.aU 0 0 0 (length (au x)+1)) (AV.aU 0 0 0 (length (x++[MK.mk b.dv b.sq b.tm b.fd b.fs b.fa b.td b.ts b.ta b.st b.on])))from(aF.of_eq (by simp[bJ,bK,ay,dW]))),kp (show Am.HSub [ah.aN 0 11 false (au x++[[int b.dv,int b.sq,int b.tm,int b.fd,int b.fs,int b.fa,int b.td,int b.ts,int b.ta,int b.st,Am.bool b.on]])] [ah.aN 0 11 false (au (x++[MK.mk b.dv b.sq b.tm b.fd b.fs b.fa b.td b.ts b.ta b.st b.on]))]from(⟨.inl (by simp only[gy,Aw]),yO⟩)),Qx [int b.dv,int b.sq,int b.tm,int b.fd,int b.fs,int b.fa,int b.td,int b.ts,int b.ta,int b.st,Am.bool b.on],vV ((length (au x)+1)*88) (by simp only[yD,yE,length_nil,length_map,bJ,bK,ay,dW]<;>omega),kq 0,kp (show List.take (length (x++[MK.mk b.dv b.sq b.tm b.fd b.fs b.fa b.td b.ts b.ta b.st b.on])) (List.drop 0 (au (x++[MK.mk b.dv b.sq b.tm b.fd b.fs b.fa b.td b.ts b.ta b.st b.on])))=au (x++[MK.mk b.dv b.sq b.tm b.fd b.fs b.fa b.td b.ts b.ta b.st b.on])from(dW _)),kp (show length (au (x++[MK.mk b.dv b.sq b.tm b.fd b.fs b.fa b.td b.ts b.ta b.st b.on]))=length (x++[MK.mk b.dv b.sq b.tm b.fd b.fs b.fa b.td b.ts b.ta b.st b.on])from(ay _)),kp (show ∀(c:List AV),c∈au (x++[MK.mk b.dv b.sq b.tm b.fd b.fs b.fa b.td b.ts b.ta b.st b.on])->List.all c AV.fJ=true from(bK _))]
theorem KC(x:List MK)(b:MK)(i:Nat)(hi:i<=x.length)(hx:x.length<=1000000000):ak P G 385 [.aU 0 0 0 x.length,int i,.sl 11 true [aQ b]] [.aN 0 11 false (au x)] (.ret (oI (x.take i++[b]++x.drop i))) [.aH]:=by
 rcases Nat.lt_or_ge i x.length with h|h
 .have:=Ra x [] b i h hx;rwa[append_nil]at this
 .have e:i=x.length:=zO
  subst e;rw[take_length,drop_length,append_nil];exact Rb x b _ rfl hx trivial
theorem Yi(v:List MK)(hv:v.length<=1000000000)(fF:¬au v=[])(h:True):ak P G 119 [oI v] [] (aS.ret (AV.aU 0 0 0 v.length)) [ah.aN 0 11 false (au v)]:=by
 exact aj [kp (show au v≠[]from zO),kY,kv 7 (show Am.aF (AV.aU 0 0 0 (0+length (au v))) (AV.aU 0 0 0 v.length)from(aF.of_eq (by simp[ay,bJ,bK,dW]))),kp fF,vV ((0+length (au v))*88) (by simp only[yD,yE,length_nil,length_map,ay,bJ,bK,dW]<;>omega)]
theorem Yj(n:Nat)(h:aF (aK) (AV.sl 11 true [])):Cq 119 [.lit (Value.slice none 0 n)] (.sl 11 true []):=by
 have e1:=h;exact ak.out ((aj [kO])) e1
theorem Yk(a:Addr)(n:Nat)(h:True):Cq 119 [.lit (Value.slice (some a) 0 n)] (.sl 11 true []):=by
 exact aj [kY,ko (bC.LV),kp (Am.C8)]
theorem afJ(sz:Nat):aF (.lit (.slice none 0 0)) (.sl sz true []):=fun V v h=>by
 rw[bW h];exact .pure _ _ (.sl sz true [] none 0 0 0 (fun _ _=>undef) (fun h=>absurd rfl h) (fun h=>absurd rfl h) yM (fun _=>rfl) (fun x hx=>by cases hx) (fun k j hk=>absurd hk (Nat.not_lt_zero _)) (fun k j hk=>absurd hk (Nat.not_lt_zero _)) fun k j hk=>absurd hk (Nat.not_lt_zero _))
theorem Mt:Cq 119 [oI []] (.sl 11 true []):=ak.wY (fun cap=>Yj cap (afJ 11)) fun a cap=>Yk a cap trivial
theorem uJ(v:List MK)(hv:v.length<=1000000000)(fF:v≠[]):ak P G 119 [oI v] [] (.ret (.aU 0 0 0 v.length)) [.aN 0 11 false (au v)]:=Yi v hv (fun h=>fF (by simpa[au]using h)) trivial
def uD(m:MK)(v:List MK):Nat:=(v.takeWhile fun a=>nD a m).length
theorem Mv(m:MK)(v:List MK):uD m v<=v.length:=(takeWhile_sublist _).length_le
theorem zh{a b:MK}:nD a b=true↔a.tm<b.tm\/a.tm=b.tm/\(a.dv<b.dv\/a.dv=b.dv/\a.sq<b.sq):=by
 unfold nD;grind
theorem sV{a b c:MK}(h:nD a b=true)(k:nD b c=true):nD a c=true:=by
 rw[zh]at *;omega
theorem Mw{b:MK}:∀{v:List MK}(_:v.Pairwise fun a c=>nD a c=true){m:Nat}(hm:m<v.length),nD v[m] b=true↔m<uD b v
 |[],_,m,hm=>absurd hm zS
 |a::t,hs,m,hm=>by
  rw[pairwise_cons]at hs;cases hl:nD a b with
  |true =>
   have e:uD b (a::t)=uD b t+1:=by simp[uD,hl]
   rw[e];cases m with
   |zero=>simp[hl]
   |succ m =>
    have:=Mw hs.2 (b:=b) (m:=m) (by simpa using hm);simpa using this
  |false =>
   have e:uD b (a::t)=0:=by simp[uD,hl]
   rw[e];cases m with
   |zero=>simp[hl]
   |succ m =>
    have bg:m<t.length:=by simpa using hm
    have h1:=hs.1 t[m] (getElem_mem _);simp only[getElem_cons_succ,Nat.not_lt_zero,iff_false];intro h2;rw[sV h1 h2]at hl;cases hl
theorem Mx(v:List MK)(b:MK)(hv:v.length<=1000000000)(hs:v.Pairwise fun a c=>nD a c=true):∀n i j,j-i<=n->i<=uD b v->uD b v<=j->j<=v.length->Rq 0 384 0 (Yg v b i j) (.exit 0) (bsX v b (uD b v)):=by
 intro n;have he:∀i j,i<=uD b v->uD b v<=j->¬i<j->Rq 0 384 0 (Yg v b i j) (.exit 0) (bsX v b (uD b v)):=fun i j h1 h2 wQ=>by
  have:=afI v b i j zO trivial;rwa[show i=uD b v by omega]at this |-
 induction n with
 |zero=>intro i j hn h1 h2 h3;exact he i j h1 h2 zO
 |succ n ih =>
  intro i j hn h1 h2 h3;by_cases wQ:i<j
  .have hm:=Ms (i:=i) (j:=j) zO;refine afH v b i j ((i+j)/2) h3 hv hm hm zO _ _ ⟨fun _=>?_,fun h=>absurd zO h⟩;have bg:(i+j)/2<v.length:=zO
   refine⟨v[(i+j)/2],?_,fun hq=>?_,fun hq=>?_⟩
   .grind [Int.toNat_natCast,yA]
   .have:=(Mw hs bg).1 ((LX _ _).1 hq);have nx:=ih ((i+j)/2+1) j zO zO h2 h3;rw[hm];exact nx
   .have:¬(i+j)/2<uD b v:=fun h=>hq ((LX _ _).2 ((Mw hs bg).2 h));have nx:=ih i ((i+j)/2) zO h1 zO zO;rw[hm];exact nx
  .exact he i j h1 h2 wQ
theorem Yl(v:List MK)(b:MK)(hv:v.length<=1000000000)(hs:v.Pairwise fun a c=>nD a c=true):∃r,Cq 384 [oI v,EC b,yT 249] (.bq [int (uD b v),bool r]):=by
 have hp:=Mv b v;have hL:=Mx v b hv hs _ 0 v.length yM zO hp zO;rcases Nat.lt_or_ge (uD b v) v.length with h|h
 .exact ⟨yc v[uD b v] b==0,OH v b _ hp hv hL _ ⟨fun _=>⟨v[uD b v],yA h,rfl⟩,fun h'=>absurd zO h'⟩⟩
 .exact ⟨false,OH v b _ hp hv hL _ ⟨fun h'=>absurd h' zO,fun _=>rfl⟩⟩
theorem ajq(t:TE)(m:MK)(e:Int)(he:e≠0)(hc:Cq 163 [mG t] (int e))(h:True):Cq 374 [mG t,EC m] (.bq [mG zT,int e]):=by
 exact ak.out ((show Cq 374 [mG t,EC m] (.bq [.agg [aK,aK],int e])from aj [kc [] hc,kt (show(e != 0)=true from(yJ Bool.not (qF zO)))])) (aF.iM ⟨(aF.qo ⟨(aF.nil _),(aF.nil _),yO⟩),aF.refl _,yO⟩)
theorem ajr(t:TE)(m:MK)(hc:Cq 163 [mG t] (int 0))(hi:Cq 248 [bZ t.cells,EC m] (bool false))(h:True):Cq 374 [mG t,EC m] (.bq [mG zT,int 160]):=by
 exact ak.out ((show Cq 374 [mG t,EC m] (.bq [.agg [aK,aK],int 160])from aj [kc [] hc,kY,kc [] hi,kO,kO])) (aF.iM ⟨(aF.qo ⟨(aF.nil _),(aF.nil _),yO⟩),aF.refl _,yO⟩)
theorem ajs(t:TE)(m:MK)(hc:Cq 163 [mG t] (int 0))(hi:Cq 248 [bZ t.cells,EC m] (bool true))(hF:ak P G 250 [oI t.bQ,a1F 0] [.box (aQ m)] (.ret (bool true)) [.box (aQ m)])(h:True):Cq 374 [mG t,EC m] (.bq [mG zT,int 160]):=by
 exact ak.out ((show Cq 374 [mG t,EC m] (.bq [.agg [aK,aK],int 160])from aj [kc [] hc,kY,kc [] hi,kY,kc [1] hF,kO])) (aF.iM ⟨(aF.qo ⟨(aF.nil _),(aF.nil _),yO⟩),aF.refl _,yO⟩)
theorem ajt(t:TE)(m:MK)(p:Nat)(f:Bool)(r:List MK)(hc:Cq 163 [mG t] (int 0))(hi:Cq 248 [bZ t.cells,EC m] (bool true))(hF:ak P G 250 [oI t.bQ,a1F 0] [.box (aQ m)] (.ret (bool false)) [.box (aQ m)])(hB:Cq 384 [oI t.bQ,EC m,yT 249] (.bq [int p,bool f]))(hC:ak P G 119 [oI t.bQ] [] (.ret (.aU 0 0 0 t.bQ.length)) [.aN 0 11 false (au t.bQ)])(hI:ak P G 385 [.aU 0 0 0 t.bQ.length,int p,.sl 11 true [aQ m]] [.aN 0 11 false (au t.bQ)] (.ret (oI r)) [.aH])(h:True):Cq 374 [mG t,EC m] (.bq [.agg [bZ t.cells,oI r],int 0]):=by
 have qj:∀(x:List AV),x∈au t.bQ->AV.aM [] x=true:=(bJ _);exact aj [kc [] hc,kY,kc [] hi,kY,kc [1] hF,kY,kc [] hB,kc [] hC,kp qj,kc [3] hI,kp qj]
theorem aju(t:TE)(m:MK)(f:Bool)(r:List MK)(hc:Cq 163 [mG t] (int 0))(hi:Cq 248 [bZ t.cells,EC m] (bool true))(hF:ak P G 250 [oI t.bQ,a1F 0] [.box (aQ m)] (.ret (bool false)) [.box (aQ m)])(hB:Cq 384 [oI t.bQ,EC m,yT 249] (.bq [int 0,bool f]))(hC:Cq 119 [oI t.bQ] (.sl 11 true []))(hI:Cq 385 [.sl 11 true [],int 0,.sl 11 true [aQ m]] (oI r))(h:True):Cq 374 [mG t,EC m] (.bq [.agg [bZ t.cells,oI r],int 0]):=by
 exact aj [kc [] hc,kY,kc [] hi,kY,kc [1] hF,kY,kc [] hB,kc [] hC,kc [] hI]
end Go.Tx
namespace Go.Sq
open Go Go.Am Go.Proofs Go.eY
theorem Ym{l:List CE}{x:CE}(h:x∈BI l):x∈l:=by
 unfold BI at h;split at h
 .rename_i hf;exact((rT (Ak.1 hf).1).1 h).1
 .cases h
theorem kQ.ord{l:List CE}(h:kQ l):kQ (BI l):=fun x hx=>h x (Ym hx)
theorem Vi(l:List CE)(h:l.length<=1000000000):Cq 98 [bZ l,bZ l] (bool true):=by
 have:=C9 l l h h;rwa[decide_eq_true rfl]at this
theorem Ib(l:List CE)(c:CE):(rU l c).length<=l.length+1:=by
 unfold rU;split
 .simp
 .split
  .simp
  .have:=Ow (l++[c]);simpa using this
theorem Yn(l:List CE)(a b c:Int):(Ez l a b c).length<=l.length:=by
 unfold Ez;split
 .simp
 .split
  .unfold mY;simp
  .simp
end Go.Sq
namespace Go.Sq
open Go Go.Am
theorem arG{x y:CE}:kP x y=kP y x:=by
 unfold kP;rw[Bool.eq_iff_iff];grind
theorem Ok.perm{l m:List CE}(h:Ok l)(hp:l.Perm m):Ok m :=
 ⟨fun x hx=>h.valid x (hp.mem_iff.2 hx),(Perm.pairwise_iff (fun{a b} h=>by rw[arG];exact h) hp).1 h.nS⟩
theorem ara{l m:List CE}(h:∀x,x∈l↔x∈m):∀{n:Nat}{c:CE},CQ l n c↔CQ m n c
 |0,c=>Iff.rfl
 |n+1,c=>⟨fun⟨p,hp,e,k⟩=>⟨p,(h p).1 hp,e,(ara h).1 k⟩,fun⟨p,hp,e,k⟩=>⟨p,(h p).2 hp,e,(ara h).2 k⟩⟩
theorem arf{l m:List CE}(hp:l.Perm m):sO l=sO m:=by
 rw[Bool.eq_iff_iff,Ak,Ak];have hm:∀x,x∈l↔x∈m:=fun x=>hp.mem_iff;constructor
 .rintro ⟨h1,h2⟩;exact⟨h1.perm hp,fun x hx=>by
   obtain⟨n,hn⟩:=h2 x ((hm x).2 hx);exact⟨n,(ara hm).1 hn⟩⟩
 .rintro ⟨h1,h2⟩;exact⟨h1.perm hp.symm,fun x hx=>by
   obtain⟨n,hn⟩:=h2 x ((hm x).1 hx);exact⟨n,(ara hm).2 hn⟩⟩
theorem arv{l m:List CE}(h:Ok l)(hp:l.Perm m):arE l=arE m:=by
 unfold arE;rw[hp.length_eq];exact arh h.iw (h.perm hp).iw (fun x=>hp.mem_iff) _ _ _ _
theorem aqK{l:List CE}(h:sO l=true):(arE l).Perm l:=by
 obtain⟨h1,h2⟩:=Ak.1 h;refine(perm_ext_iff_of_nodup (Ao h1) h1.Fp).2 fun x=>?_;rw[rT h1];exact⟨fun h=>h.1,fun h=>⟨h,h2 x h⟩⟩
theorem Yo(l:List CE):sO l=true/\F5 l=0/\BI l=arE l\/sO l=false/\F5 l=130/\BI l=[]:=by
 unfold F5 BI;cases h:sO l
 .right;exact⟨rfl,rfl,rfl⟩
 .left;exact⟨rfl,rfl,rfl⟩
theorem arb{l:List CE}(h:sO l=true):sO (arE l)=true/\arE (arE l)=arE l/\jg (arE l)=0:=by
 have hp:=aqK h;have h1:sO (arE l)=true:=by rw[arf hp];exact h
 have h2:=arv (Ak.1 h1).1 hp;refine⟨h1,h2,?_⟩;unfold jg F5 BI;rw[yL h1,yL h1,yL ⟨rfl,h2⟩]
theorem aqI{l:List CE}:jg l=0↔sO l=true/\arE l=l:=by
 unfold jg;rcases Yo l with⟨h1,h2,h3⟩|⟨h1,h2,h3⟩
 .rw [h2,h3];simp[h1]
 .rw [h2];simp[h1]
theorem aqL{α β:Type}{f g:α->List β}:∀{l:List α},(∀x∈l,f x=g x)->l.flatMap f=l.flatMap g
 |[],_=>rfl
 |x::l,h=>by rw[flatMap_cons,flatMap_cons,h x zS,aqL fun y hy=>h y (yF _ hy)]
structure More(l:List CE)(c:CE):Prop where
 fl:sO l=true
 fm:sO (l++[c])=true
theorem More.okm{l:List CE}{c:CE}(h:More l c):Ok (l++[c]):=(Ak.1 h.fm).1
theorem More.ne{l:List CE}{c:CE}(h:More l c):∀y∈l,y.id≠c.id:=fun y hy e=>by
 have:=(pairwise_append.1 h.okm.iw).2.2 y hy c zS;exact this e
theorem More.leaf{l:List CE}{c:CE}(h:More l c):∀y∈l++[c],y.after≠c.id:=fun y hy e=>by
 have hc0:=h.okm.id0 (x:=c) zS;rcases yI.1 hy with hy|hy
 .obtain ⟨n,hn⟩:=(Ak.1 h.fl).2 y hy;cases n with
  |zero=>exact hc0 (e.symm.trans hn)
  |succ n =>
   obtain⟨p,hp,e',_⟩:=hn;exact h.ne p hp (e'.trans e)
 .rw [mem_singleton.1 hy]at e;obtain⟨n,hn⟩:=(Ak.1 h.fm).2 c zS;cases n with
  |zero=>exact hc0 (e.symm.trans hn)
  |succ n =>
   have hn':=hn;obtain⟨p,hp,e',hl⟩:=hn;have:p=c:=h.okm.one hp zS (e'.trans e);rw[this]at hl;have:=Gs h.okm hl hn';omega
theorem More.parent{l:List CE}{c:CE}(h:More l c):c.after=(0,0,0)\/∃p∈l,p.id=c.after:=by
 obtain⟨n,hn⟩:=(Ak.1 h.fm).2 c zS;cases n with
 |zero=>exact .inl hn
 |succ n =>
  obtain⟨p,hp,e,_⟩:=hn;rcases yI.1 hp with hp|hp
  .exact .inr ⟨p,hp,e⟩
  .rw [mem_singleton.1 hp]at e;exact absurd e.symm (h.leaf c zS)
open Go.Proofs Go.eY
theorem Vj(l:List CE)(c:CE):A8 l c=0/\jg l=0/\sO (l++[c])=true/\rU l c=arE (l++[c])\/A8 l c≠0/\rU l c=[]:=by
 unfold A8 rU;by_cases h0:jg l=0
 .by_cases hg:c.gn=true
  .right;simp[h0,hg]
  .rcases Yo (l++[c])with⟨f1,f2,f3⟩|⟨f1,f2,f3⟩
   .left;simp[h0,hg,f1,f2,f3]
   .right;simp[h0,hg,f2,f3]
 .right;simp[h0]
end Go.Sq
namespace Go.Sq
open Go Go.Am
structure Alike(g:CE->CE):Prop where
 dv:∀x,(g x).dv=x.dv
 sq:∀x,(g x).sq=x.sq
 gU:∀x,(g x).gU=x.gU
 ad:∀x,(g x).ad=x.ad
 j6:∀x,(g x).j6=x.j6
 aa:∀x,(g x).aa=x.aa
 tm:∀x,(g x).tm=x.tm
 vl:∀x,(g x).vl=x.vl
section
variable {g:CE->CE} (h:Alike g)
 include h
theorem Alike.id(x:CE):(g x).id=x.id:=by simp only[CE.id,h.dv,h.sq,h.gU]
theorem Alike.after(x:CE):(g x).after=x.after:=by simp only[CE.after,h.ad,h.j6,h.aa]
theorem Alike.valid(x:CE):dF (g x)=dF x:=by simp only[dF,h.dv,h.sq,h.gU,h.ad,h.j6,h.aa,h.tm,h.vl]
theorem Alike.gt(x y:CE):Kn (g x) (g y)=Kn x y:=by simp only[Kn,h.dv,h.sq,h.gU,h.tm]
theorem Alike.kP(x y:CE):Sq.kP (g x) (g y)=Sq.kP x y:=by simp only[Sq.kP,h.dv,h.sq,h.gU,h.tm]
theorem Alike.ok{l:List CE}:Ok (l.map g)↔Ok l:=by
 constructor
 .intro k;refine⟨fun x hx=>?_,?_⟩
  .rw [<- h.valid];exact k.valid _ (yG.2 ⟨x,hx,rfl⟩)
  .have:=pairwise_map.1 k.nS;exact this.imp fun{a b} q=>by rw[h.kP]at q;exact q
 .intro k;refine⟨fun x hx=>?_,?_⟩
  .obtain ⟨y,hy,rfl⟩:=yG.1 hx;rw[h.valid];exact k.valid y hy
  .exact pairwise_map.2 (k.nS.imp fun{a b} q=>by rw[h.kP];exact q)
theorem Alike.CQ{l:List CE}:∀{n:Nat}{c:CE},Sq.CQ (l.map g) n (g c)↔Sq.CQ l n c
 |0,c=>by show(g c).after=_↔_;rw[h.after];rfl
 |n+1,c=>by
  constructor
  .rintro ⟨p,hp,e,k⟩;obtain⟨q,hq,rfl⟩:=yG.1 hp;rw[h.id,h.after]at e;exact⟨q,hq,e,Alike.CQ.1 k⟩
  .rintro ⟨p,hp,e,k⟩;exact⟨g p,yG.2 ⟨p,hp,rfl⟩,by rw[h.id,h.after];exact e,Alike.CQ.2 k⟩
theorem Alike.forms(l:List CE):sO (l.map g)=sO l:=by
 rw[Bool.eq_iff_iff,Ak,Ak,h.ok];constructor
 .rintro ⟨k1,k2⟩;refine⟨k1,fun x hx=>?_⟩;obtain⟨m,hm⟩:=k2 (g x) (yG.2 ⟨x,hx,rfl⟩);exact⟨m,h.CQ.1 hm⟩
 .rintro ⟨k1,k2⟩;refine⟨k1,fun x hx=>?_⟩;obtain⟨y,hy,rfl⟩:=yG.1 hx;obtain⟨m,hm⟩:=k2 y hy;exact⟨m,h.CQ.2 hm⟩
theorem Alike.oZ{l:List CE}(hl:Ids l)(i j k:Int):Sq.oZ (l.map g) i j k=(Sq.oZ l i j k).map g:=by
 have hm:Ids (l.map g):=pairwise_map.2 (hl.imp fun{a b} q=>by rw[h.id,h.id];exact q);refine(Kt hm i j k).ext (pairwise_map.2 ((Kt hl i j k).imp fun{a b} q=>by rw[h.gt];exact q)) fun x=>?_;rw[jc hm,yG,yG];constructor
 .rintro ⟨⟨y,hy,rfl⟩,e⟩;rw[h.after]at e;exact⟨y,(jc hl).2 ⟨hy,e⟩,rfl⟩
 .rintro ⟨y,hy,rfl⟩;obtain⟨k1,k2⟩:=(jc hl).1 hy;exact⟨⟨y,k1,rfl⟩,by rw[h.after];exact k2⟩
theorem Alike.below{l:List CE}(hl:Ids l):∀n i j k,bX (l.map g) n i j k=(bX l n i j k).map g
 |0,_,_,_=>rfl
 |n+1,i,j,k=>by
  rw[bX,bX,h.oZ hl,map_flatMap,flatMap_map];refine aqL fun y _=>?_;rw[h.dv,h.sq,h.gU,Alike.below hl n,map_cons]
theorem Alike.all{l:List CE}(hl:Ids l):Sq.arE (l.map g)=(Sq.arE l).map g:=by
 unfold Sq.arE;rw[h.below hl,length_map]
theorem Alike.chk{l:List CE}(hc:jg l=0):jg (l.map g)=0:=by
 obtain⟨h1,h2⟩:=aqI.1 hc;refine aqI.2 ⟨by rw[h.forms];exact h1,?_⟩;rw[h.all (Ak.1 h1).1.iw,h2]
end
def ers(i:ID)(x:CE):CE:=if x.id=i then{ x with gn:=true }else x
theorem aqH(i:ID):Alike (ers i):=by
 constructor<;>(intro x;unfold ers;split<;>rfl)
theorem ark{i j k:Int}{l:List CE}{m:Nat}(h:fX (vM i j k) l=some m):∃x,l[m]?=some x/\x.id=(i,j,k):=by
 obtain⟨x,h1,h2⟩:=QU h;exact⟨x,h1,Tq.1 h2⟩
theorem aqP{i j k:Int}{l:List CE}{m:Nat}(hl:Ids l)(h:fX (vM i j k) l=some m):mY l m=l.map (ers (i,j,k)):=by
 obtain⟨x,h1,h2⟩:=ark h;unfold mY;apply ext_getElem?;intro n;rw[getElem?_modify,getElem?_map];by_cases e:m=n
 .subst e;rw[h1];simp[ers,h2]
 .cases hn:l[n]? with
  |none=>simp[e]
  |some y =>
   have hy:y.id≠(i,j,k):=fun hy=>by
    obtain⟨l1,q1⟩:=yC.1 h1;obtain⟨l2,q2⟩:=yC.1 hn;rcases Nat.lt_trichotomy m n with h'|h'|h'
    .exact pairwise_iff_getElem.1 hl m n l1 l2 h' (by rw[q1,q2,h2,hy])
    .exact e h'
    .exact pairwise_iff_getElem.1 hl n m l2 l1 h' (by rw[q1,q2,h2,hy])
   simp[e,ers,hy]
theorem ar3{i j k:Int}{l:List CE}{x:CE}(hx:x∈l)(e:x.id=(i,j,k)):∃m,fX (vM i j k) l=some m:=by
 cases h:fX (vM i j k) l with
 |some m=>exact⟨m,rfl⟩
 |none =>
  have:=abK h x hx;rw[Tq.2 e]at this;cases this
theorem asI{l:List CE}{i j k:Int}(hc:jg l=0):(Ox l i j k=0/\Ez l i j k=l.map (ers (i,j,k))/\∃m,fX (vM i j k) l=some m)\/(Ox l i j k=130/\Ez l i j k=[]/\fX (vM i j k) l=none):=by
 obtain⟨h1,h2⟩:=aqI.1 hc;unfold Ox Ez;cases h:fX (vM i j k) l with
 |none=>right;simp[hc]
 |some m =>
  left;refine⟨by simp[hc],?_,m,rfl⟩;simp only[hc,ne_eq,not_true_eq_false,if_false];exact aqP (Ak.1 h1).1.iw h
end Go.Sq
namespace Go.Tx
open Go Go.Am Go.Proofs Go.eY
open Go.Sq (CE nP bZ oO vM fX U2 kQ Cu jg A8 rU mY)
theorem uM{l:List CE}{v:List MK}:∀{n k:Nat},k+n=v.length->(y9 l v n k=true↔∀j,k<=j->j<v.length->jh l v j=true)
 |0,k,h=>by
  simp only[y9,true_iff];intro j h1 h2;omega
 |n+1,k,h=>by
  simp only[y9,Bool.and_eq_true,uM (l:=l) (v:=v) (n:=n) (k:=k+1) zO];constructor
  .grind
  .grind
structure OkV(l:List CE)(v:List MK):Prop where
 isM:∀m∈v,F8 l m=true
 sorted:v.Pairwise fun a b=>nD a b=true
 qV:v.Pairwise fun a b=>a.eG≠b.eG
theorem TK{l:List CE}{v:List MK}:Cw l v=true↔OkV l v:=by
 unfold Cw;rw[uM zO];constructor
 .intro h;have at_:∀j (hj:j<v.length),F8 l v[j]=true/\(0<j->nD (v[j-1]'zO) v[j]=true)/\∀i (hi:i<j),(v[i]'zO).eG≠v[j].eG:=fun j hj=>by
   have:=h j zO hj;unfold jh at this;rw[yA hj]at this;simp only[Bool.and_eq_true,Bool.or_eq_true,beq_iff_eq,Bool.not_eq_true']at this;obtain⟨h1,h2,h3⟩:=this;refine⟨h1,fun h0=>?_,fun i hi e=>?_⟩
   .grind
   .have:=any_eq_false.1 h3 (v[i]'zO) (by
     have:(v.take j)[i]'(by rw[length_take];omega)=v[i]'zO:=getElem_take;rw[<- this];exact getElem_mem _)
    simp[e]at this
  refine⟨fun m hm=>?_,pairwise_iff_getElem.2 fun i j hi hj wQ=>?_,pairwise_iff_getElem.2 fun i j hi hj wQ=>(at_ j hj).2.2 i wQ⟩
  .obtain ⟨j,hj,rfl⟩:=getElem_of_mem hm;exact(at_ j hj).1
  .have key:∀d i (hi:i+d+1<v.length),nD (v[i]'zO) (v[i+d+1])=true:=by
    intro d
    induction d with
    |zero =>
     intro i hi;have:=(at_ (i+1) zO).2.1 zO;simpa using this
    |succ d ih =>
     intro i hi;have h1:=ih i zO;have h2:=(at_ (i+(d+1)+1) zO).2.1 zO;exact sV h1 (by simpa[Nat.add_assoc]using h2)
   have:=key (j-i-1) i zO;simpa[show i+(j-i-1)+1=j by omega]using this
 .intro h j _ hj;unfold jh;rw[yA hj];simp only[Bool.and_eq_true,Bool.or_eq_true,beq_iff_eq,Bool.not_eq_true'];refine⟨h.isM _ (getElem_mem hj),?_,?_⟩
  .rcases Nat.eq_zero_or_pos j with h0|h0
   .exact .inl h0
   .right;rw[yA (show j-1<v.length by omega)];exact pairwise_iff_getElem.1 h.sorted (j-1) j zO hj zO
  .rw [any_eq_false];intro m hm;obtain⟨i,hi,rfl⟩:=getElem_of_mem hm;rw[length_take]at hi;rw[getElem_take];have:=pairwise_iff_getElem.1 h.qV i j zO hj zO;simpa using this
structure Val(t:TE):Prop where
 cells:jg t.cells=0
 one:∀c∈t.cells,c.vl.size=1
 bQ:OkV t.cells t.bQ
theorem Yp{t:TE}:vC t=0↔Val t:=by
 unfold vC;by_cases h0:jg t.cells=0
 .rw [yK (by simpa using h0)];cases ha:t.cells.all Ba with
  |false =>
   rw[yK zD];refine⟨nofun,fun h=>?_⟩;have:t.cells.all Ba=true:=all_eq_true.2 fun c hc=>by unfold Ba;simpa using h.one c hc
   rw[ha]at this;cases this
  |true =>
   rw[yL rfl];have h1:∀c∈t.cells,c.vl.size=1:=fun c hc=>by
    have:=all_eq_true.1 ha c hc;unfold Ba at this;simpa using this
   cases hb:Cw t.cells t.bQ with
   |true=>rw[yL rfl];exact⟨fun _=>⟨h0,h1,TK.1 hb⟩,fun _=>rfl⟩
   |false =>
    refine⟨fun h=>by simp at h,fun h=>?_⟩;rw[TK.2 h.bQ]at hb;cases hb
 .rw [yL h0];exact⟨fun h=>absurd h h0,fun h=>absurd h.cells h0⟩
theorem GA{l:List CE}{c:CE}(h:kQ l)(hc:Cu c):kQ (rU l c):=by
 unfold rU;split
 .exact fun x hx=>by cases hx
 .split
  .exact fun x hx=>by cases hx
  .exact (h.HV hc).ord
theorem afK{dv sq tm:Int}{k:Nat}{i:Sq.ID}{s:yP}(h1:fO dv)(h2:fO sq)(hk:k<=64)(h3:fO i.1)(h4:fO i.2.1)(h5:fO i.2.2):Cu (U9 dv sq tm k i s) :=
 ⟨⟨h1,h2,by show Sq.fO (k:Int);unfold Sq.fO;omega⟩,h3,h4,h5⟩
theorem acf(t:TE)(dv sq tm:Int)(s:yP)(h1:fO dv)(h2:fO sq)(hs:s.size<=64):∀n k (a b c:Int) (l:List CE),s.size-k=n->k<=s.size->l.length+n<=990000->kQ l->fO a->fO b->fO c ->
 ((TI dv sq tm s n k (a,b,c) l).2=0->Rq 0 369 0 (Ml t dv sq tm a b c s l k) (.exit 0) (tyO t (TI dv sq tm s n k (a,b,c) l).1)) /\
 ((TI dv sq tm s n k (a,b,c) l).2≠0->Rq 0 369 0 (Ml t dv sq tm a b c s l k) .ret (tyX (TI dv sq tm s n k (a,b,c) l).2)):=by
 intro n
 induction n with
 |zero=>intro k a b c l hn hk hl hO ha hb hc;exact⟨fun _=>amP t dv sq tm a b c s l k zO yO,fun h=>absurd rfl h⟩
 |succ n ih =>
  intro k a b c l hn hk hl hO ha hb hc;have hC:Cu (U9 dv sq tm k (a,b,c) s):=afK h1 h2 zO ha hb hc;have hi:=JZ (Sq.KC l (U9 dv sq tm k (a,b,c) s) zO hO hC);have bL:=Sq.Ib l (U9 dv sq tm k (a,b,c) s);rw[TI];by_cases he:A8 l (U9 dv sq tm k (a,b,c) s)=0
  .rw [yK (by simpa using he)];rw[he]at hi;obtain⟨n1,n2⟩:=ih (k+1) dv sq k (rU l (U9 dv sq tm k (a,b,c) s)) zO zO zO (GA hO hC) h1 h2 (by unfold fO;omega);exact⟨fun h=>aji t dv sq tm a b c s l _ k zO hs hi _ _ (n1 h),fun h=>aji t dv sq tm a b c s l _ k zO hs hi _ _ (n2 h)⟩
  .rw [yL he];have hz:rU l (U9 dv sq tm k (a,b,c) s)=[]:=by
    rcases Sq.Vj l (U9 dv sq tm k (a,b,c) s)with h|h
    .exact absurd h.1 he
    .exact h.2
   rw[hz]at hi;exact⟨fun h=>absurd h he,fun _=>amQ t dv sq tm a b c s l k _ he zO hs hi yO⟩
theorem afL(t:TE)(dv sq tm a b c:Int)(s:yP)(hl:X4 t)(hO:OkT t)(h1:fO dv)(h2:fO sq)(ha:fO a)(hb:fO b)(hc:fO c) :
 Cq 369 [mG t,Q9 dv sq,int tm,oO a b c,str s] (.bq [mG (Ve t dv sq tm (a,b,c) s).1,int (Ve t dv sq tm (a,b,c) s).2]):=by
 have hk:=fG t hl hO;have hlc:=hl.cells;unfold Ve;by_cases h0:vC t=0
 .rw [yK (by simpa using h0)];rw[h0]at hk;by_cases hs:s.size<1\/s.size>64
  .rw [yL hs];exact afD t dv sq tm a b c s hs hk ⟨fun _=>trivial,fun _=>trivial⟩
  .rw [yK hs];obtain⟨n1,n2⟩:=acf t dv sq tm s h1 h2 zO s.size 0 a b c t.cells zO zO zO hO.cells ha hb hc;by_cases he:(TI dv sq tm s s.size 0 (a,b,c) t.cells).2=0
   .rw [yL he];exact afF t dv sq tm a b c s _ zO zO hk (n1 he) trivial
   .rw [yK he];exact afE t dv sq tm a b c s _ zO zO hk (n2 he) trivial
 .rw [yL h0];exact afC t dv sq tm a b c s _ h0 hk trivial
theorem Ic(l:List CE)(j:Nat):(mY l j).length=l.length:=by unfold Sq.mY;simp
theorem Ie{a b c:Int}:∀{n k:Nat}{l r:List CE},vY a b c n k l=some r->r.length=l.length
 |0,_,_,_,h=>by simp[vY]at h;rw[h]
 |n+1,k,l,r,h=>by
  rw[vY]at h;split at h
  .rw [Ie h,Ic]
  .cases h
theorem acg(t:TE)(a b c nn:Int)(hn:nn<=64)(m:Nat)(hm:m<=900000):∀d k (l:List CE),nn.toNat-k=d->k<=nn.toNat->l.length=m ->
 (∀r,vY a b c d k l=some r->Rq 0 372 0 (cuS t a b c nn m l k) (.exit 0) (cuO t a b c m r))/\(vY a b c d k l=none->Rq 0 372 0 (cuS t a b c nn m l k) .ret cuX):=by
 intro d
 induction d with
 |zero=>intro k l hd hk hl;exact⟨fun r h=>by cases h;exact amR t a b c nn m l k zO yO,fun h=>by cases h⟩
 |succ d ih =>
  intro k l hd hk hl;have hf:=wX l a b (wr c k) zO;rw[vY];cases hx:fX (vM a b (wr c k)) l with
  |none =>
   rw[hx]at hf;exact⟨fun r h=>(by cases h),fun _=>amS t a b c nn m l k zO hn hl _ hf yO⟩
  |some j =>
   rw[hx]at hf;obtain⟨x,hj,_⟩:=Sq.QU hx;have bg:=(yC.1 hj).1;obtain⟨n1,n2⟩:=ih (k+1) (mY l j) zO zO (by rw[Ic];exact hl);rw[Sq.BJ hj]at n1 n2;show(∀r,vY a b c d (k+1) (mY l j)=some r->_)/\(vY a b c d (k+1) (mY l j)=none->_);rw[Sq.BJ hj];exact⟨fun r h=>ajj t a b c nn m l k j x zO hn hl hj zO zO hf _ _ (n1 r h),fun h=>ajj t a b c nn m l k j x zO hn hl hj zO zO hf _ _ (n2 h)⟩
theorem ajv(t:TE)(a b c n:Int)(hl:X4 t)(hO:OkT t):Cq 372 [mG t,oO a b c,int n] (.bq [mG (Vg t (a,b,c) n).1,int (Vg t (a,b,c) n).2]):=by
 have hk:=fG t hl hO;have hlc:=hl.cells;unfold Vg;by_cases h0:vC t=0
 .rw [yK (by simpa using h0)];rw[h0]at hk;by_cases hs:n<1\/n>64
  .rw [yL hs];exact ajl t a b c n hs hk ⟨fun _=>trivial,fun _=>trivial⟩
  .rw [yK hs];by_cases fF:t.cells=[]
   .have hf:=wX [] a b (wr c 0) zS;have e:vY a b c n.toNat 0 t.cells=none:=by
     rw[fF,show n.toNat=(n.toNat-1)+1 by omega,vY];rfl
    show ak P G _ _ _ (.ret (.bq [mG (match vY a b c n.toNat 0 t.cells with|some l=>((⟨l,t.bQ⟩,0):TE×Int)|none=>(zT,160)).1,int (match vY a b c n.toNat 0 t.cells with|some l=>((⟨l,t.bQ⟩,0):TE×Int)|none=>(zT,160)).2])) [];rw[e];exact ajm t a b c n zO zO hk (by rw[fF];exact JZ (Sq.uJ [] zS)) (amT t a b c n zO zO _ hf yO) trivial
   .obtain ⟨n1,n2⟩:=acg t a b c n zO t.cells.length zO n.toNat 0 t.cells zO zO rfl;have lG:=JZ (Sq.XT t.cells fF zO);show ak P G _ _ _ (.ret (.bq [mG (match vY a b c n.toNat 0 t.cells with|some l=>((⟨l,t.bQ⟩,0):TE×Int)|none=>(zT,160)).1,int (match vY a b c n.toNat 0 t.cells with|some l=>((⟨l,t.bQ⟩,0):TE×Int)|none=>(zT,160)).2])) [];cases hr:vY a b c n.toNat 0 t.cells with
    |none=>exact ajn t a b c n zO zO hk lG (n2 hr) ⟨Sq.bJ _,yO⟩
    |some r=>exact ajo t a b c n r zO zO (Ie hr) hk lG (n1 r hr) trivial
 .rw [yL h0];exact ajk t a b c n _ h0 hk trivial
def Vk(t:TE)(m:MK):TE×Int :=
 if vC t≠0 then(zT,vC t)else if F8 t.cells m=false then(zT,160)else if(t.bQ.any fun a=>decide (a.eG=m.eG))=true then(zT,160)else
  (⟨t.cells,t.bQ.take (uD m t.bQ)++[m]++t.bQ.drop (uD m t.bQ)⟩,0)
theorem ajw(t:TE)(m:MK)(hl:X4 t)(hO:OkT t):Cq 374 [mG t,EC m] (.bq [mG (Vk t m).1,int (Vk t m).2]):=by
 have hk:=fG t hl hO;have hlc:=hl.cells;have hlm:=hl.bQ;have hi:=LY t.cells m zO;have hF:=ajp t.bQ m zO;unfold Vk;by_cases h0:vC t=0
 .rw [yK (by simpa using h0)];rw[h0]at hk;cases hm:F8 t.cells m with
  |false=>rw[hm]at hi;rw[yL rfl];exact ajr t m hk hi trivial
  |true =>
   rw[hm]at hi;rw[yK zD];cases hd:t.bQ.any fun a=>decide (a.eG=m.eG)with
   |true=>rw[hd]at hF;rw[yL rfl];exact ajs t m hk hi hF trivial
   |false =>
    rw[hd]at hF;rw[yK zD];have hV:=(Yp.1 h0).bQ;obtain⟨f,hB⟩:=Yl t.bQ m zO hV.sorted;by_cases fF:t.bQ=[]
    .have hp:uD m t.bQ=0:=by rw[fF];rfl
     rw[hp]at hB;rw[hp,fF];have hI:=Yh [] m 0 rfl zS trivial;exact aju t m f _ hk hi hF hB (by rw[fF];exact Mt) hI trivial
    .exact ajt t m _ f _ hk hi hF hB (uJ t.bQ zO fF) (KC t.bQ m _ (Mv _ _) zO) trivial
 .rw [yL h0];exact ajq t m _ h0 hk trivial
end Go.Tx
namespace Go.Tx
open Go Go.Am Go.Proofs Go.eY
open Go.Sq (CE nP bZ oO vM fX U2 kQ Cu jg)
structure avv where
 kd:Int
 tm:Int
 n:Int
 dv:Int
 sq:Int
 a:Int
 b:Int
 c:Int
 s:yP
 m:MK
def edR(t:TE)(e:avv):TE×Int:=if e.kd=0 then Ve t e.dv e.sq e.tm (e.a,e.b,e.c) e.s else if e.kd=1 then Vg t (e.a,e.b,e.c) e.n else Vk t e.m
end Go.Tx
namespace Go.Tx
open Go Go.Am Go.Proofs Go.eY
open Go.Sq (CE nP bZ oO vM fX U2 kQ Cu jg A8 rU sO Ok Ids CQ arE kP More ers mY)
def tyL(dv sq tm:Int)(s:yP):Nat->Nat->Sq.ID->List CE
 |0,_,_=>[]
 |n+1,k,i=>U9 dv sq tm k i s::tyL dv sq tm s n (k+1) (dv,sq,(k:Int))
theorem arP{dv sq tm:Int}{s:yP}:∀{n k:Nat}{i:Sq.ID},∀x∈tyL dv sq tm s n k i,x.dv=dv/\x.sq=sq/\x.tm=tm/\x.gn=false
 |0,_,_,x,hx=>by cases hx
 |n+1,k,i,x,hx=>by
  rcases yH.1 hx with rfl|hx
  .exact ⟨rfl,rfl,rfl,rfl⟩
  .exact arP x hx
theorem arl{l:List CE}{c:CE}(hg:c.gn=false):A8 l c=0↔jg l=0/\sO (l++[c])=true:=by
 rcases Sq.Vj l c with⟨h1,h2,h3,_⟩|⟨h1,_⟩
 .exact ⟨fun _=>⟨h2,h3⟩,fun _=>h1⟩
 .refine ⟨fun h=>absurd h h1,fun⟨h2,h3⟩=>?_⟩;unfold Sq.A8 Sq.F5;simp[h2,hg,h3]
theorem arQ{l:List CE}{c:CE}(h:A8 l c=0):rU l c=arE (l++[c]):=by
 rcases Sq.Vj l c with⟨_,_,_,h4⟩|⟨h1,_⟩
 .exact h4
 .exact absurd h h1
theorem arI{l m:List CE}(h:∀x∈l,x∈m):∀{n:Nat}{c:CE},CQ l n c->CQ m n c
 |0,_,k=>k
 |n+1,_,⟨p,hp,e,k⟩=>⟨p,h p hp,e,arI h k⟩
theorem ar7{l l':List CE}{c:CE}(h:More l c)(h':sO l'=true)(hs:∀x∈l,x∈l')(hc:∀y∈l',y∉l->kP c y=false):sO (l'++[c])=true:=by
 obtain⟨o1,o2⟩:=Sq.Ak.1 h';have hm:=h.okm;have cl:∀y∈l',kP c y=false:=fun y hy=>by
  by_cases QV:y∈l
  .exact (pairwise_append.1 hm.nS).2.2 y QV c zS
  .exact hc y hy QV
 refine Sq.Ak.2 ⟨⟨fun x hx=>?_,?_⟩,fun x hx=>?_⟩
 .rcases yI.1 hx with hx|hx
  .exact o1.valid x hx
  .exact hm.valid x (mem_append_right _ hx)
 .refine pairwise_append.2 ⟨o1.nS,pairwise_singleton _ _,fun a ha b hb=>?_⟩;rw[mem_singleton.1 hb];exact cl a ha
 .rcases yI.1 hx with hx|hx
  .obtain ⟨n,hn⟩:=o2 x hx;exact⟨n,arI (fun y hy=>mem_append_left _ hy) hn⟩
  .rw [mem_singleton.1 hx];rcases h.parent with e|⟨p,hp,e⟩
   .exact ⟨0,e⟩
   .obtain ⟨n,hn⟩:=o2 p (hs p hp);exact⟨n+1,p,mem_append_left _ (hs p hp),e,arI (fun y hy=>mem_append_left _ hy) hn⟩
theorem asH{dv sq tm:Int}{s:yP}:∀{n k:Nat}{i:Sq.ID}{l l':List CE},jg l=0->(TI dv sq tm s n k i l).2=0->jg l'=0->(∀x∈l,x∈l')->(∀c∈tyL dv sq tm s n k i,∀y∈l',y∉l->kP c y=false) ->
 TI dv sq tm s n k i l'=(arE (l'++tyL dv sq tm s n k i),0)/\sO (l'++tyL dv sq tm s n k i)=true
 |0,k,i,l,l',_,_,h',_,_=>by
  obtain⟨f1,f2⟩:=Sq.aqI.1 h';refine⟨?_,by simpa[tyL]using f1⟩;simp[TI,tyL,f2]
 |n+1,k,i,l,l',h,ht,h',hs,hc=>by
  rw[TI]at ht;split at ht
  .rename_i fF;exact absurd ht fF
  .rename_i h0;have h0:A8 l (U9 dv sq tm k i s)=0:=by simpa using h0
   obtain⟨_,f1⟩:=(arl (c:=U9 dv sq tm k i s) rfl).1 h0;have hM:More l (U9 dv sq tm k i s):=⟨(Sq.aqI.1 h).1,f1⟩;have f2:=ar7 hM (Sq.aqI.1 h').1 hs (hc _ (mem_cons_self ..));have h1:=(arl (l:=l') (c:=U9 dv sq tm k i s) rfl).2 ⟨h',f2⟩;rw[arQ h0]at ht;have mem1:∀{x},x∈arE (l++[U9 dv sq tm k i s])↔x∈l\/x=U9 dv sq tm k i s:=fun{x}=>by rw[(Sq.aqK f1).mem_iff];simp
   have mem2:∀{x},x∈arE (l'++[U9 dv sq tm k i s])↔x∈l'\/x=U9 dv sq tm k i s:=fun{x}=>by rw[(Sq.aqK f2).mem_iff];simp
   obtain⟨a1,a2⟩:=asH (l':=arE (l'++[U9 dv sq tm k i s])) (Sq.arb f1).2.2 ht (Sq.arb f2).2.2 (fun x hx=>mem2.2 ((mem1.1 hx).imp (hs x) id)) (fun c hcm y hy hn=>by
    rcases mem2.1 hy with hy|hy
    .exact hc c (yF _ hcm) y hy fun QV=>hn (mem1.2 (.inl QV))
    .exact absurd (mem1.2 (.inr hy)) hn)
   have hp:(arE (l'++[U9 dv sq tm k i s])++tyL dv sq tm s n (k+1) (dv,sq,(k:Int))).Perm (l'++tyL dv sq tm s (n+1) k i):=by
    have:=(Sq.aqK f2).append_right (tyL dv sq tm s n (k+1) (dv,sq,(k:Int)));rw[append_assoc]at this;exact this
   have f3:sO (l'++tyL dv sq tm s (n+1) k i)=true:=by rw[<- Sq.arf hp];exact a2
   refine⟨?_,f3⟩;rw[TI,yK (by simpa using h1),arQ h1,a1,Sq.arv (Sq.Ak.1 a2).1 hp]
theorem ar8{dv sq tm:Int}{s:yP}{n k:Nat}{i:Sq.ID}{l:List CE}(h:jg l=0)(ht:(TI dv sq tm s n k i l).2=0):TI dv sq tm s n k i l=(arE (l++tyL dv sq tm s n k i),0)/\sO (l++tyL dv sq tm s n k i)=true :=
 asH h ht h (fun _ hx=>hx) fun _ _ _ hy hn=>absurd hy hn
def Vu(a b c:Int):Nat->Nat->CE->CE
 |0,_,x=>x
 |n+1,k,x=>Vu a b c n (k+1) (ers (a,b,wr c k) x)
theorem aqR{a b c:Int}:∀{n k:Nat},Sq.Alike (Vu a b c n k)
 |0,_=>⟨fun _=>rfl,fun _=>rfl,fun _=>rfl,fun _=>rfl,fun _=>rfl,fun _=>rfl,fun _=>rfl,fun _=>rfl⟩
 |n+1,k=>by
  have h:=Sq.aqH (a,b,wr c k);have k:=aqR (a:=a) (b:=b) (c:=c) (n:=n) (k:=k+1);constructor<;>intro x<;>simp only[Vu]
  .rw [k.dv,h.dv]
  .rw [k.sq,h.sq]
  .rw [k.gU,h.gU]
  .rw [k.ad,h.ad]
  .rw [k.j6,h.j6]
  .rw [k.aa,h.aa]
  .rw [k.tm,h.tm]
  .rw [k.vl,h.vl]
def ar9(a b c:Int)(n k:Nat)(l:List CE):Prop:=∀j,j<n->∃x∈l,x.id=(a,b,wr c (k+j))
theorem arJ{a b c:Int}:∀{n k:Nat}{l:List CE},Ids l->(ar9 a b c n k l->vY a b c n k l=some (l.map (Vu a b c n k)))/\∀{r},vY a b c n k l=some r->ar9 a b c n k l
 |0,k,l,_=>⟨fun _=>by simp[vY,Vu],fun _ j hj=>absurd hj zO⟩
 |n+1,k,l,hl=>by
  have ha:=Sq.aqH (a,b,wr c k);have hl2:Ids (l.map (ers (a,b,wr c k))):=pairwise_map.2 (hl.imp fun{x y} q=>by rw[ha.id,ha.id];exact q);obtain⟨i1,i2⟩:=arJ (a:=a) (b:=b) (c:=c) (n:=n) (k:=k+1) hl2;constructor
  .intro h;obtain⟨x,hx,e⟩:=h 0 zO;obtain⟨m,hm⟩:=Sq.ar3 hx e;have hm:fX (vM a b (wr c k)) l=some m:=hm;rw[vY,hm];show vY a b c n (k+1) (mY l m)=_;rw[Sq.aqP hl hm,i1 fun j hj=>?_,map_map]
   .rfl
   .obtain ⟨y,hy,e⟩:=h (j+1) zO;exact⟨_,yG.2 ⟨y,hy,rfl⟩,by rw[ha.id,e,show k+1+j=k+(j+1) by omega]⟩
  .intro r h j hj;rw[vY]at h;split at h
   .rename_i m hm;rw[Sq.aqP hl hm]at h;cases j with
    |zero =>
     obtain⟨x,hx,e⟩:=Sq.ark hm;exact⟨x,mem_of_getElem? hx,e⟩
    |succ j =>
     obtain⟨y,hy,e⟩:=i2 h j zO;obtain⟨x,hx,rfl⟩:=yG.1 hy;exact⟨x,hx,by rw[ha.id]at e;rw[e,show k+1+j=k+(j+1) by omega]⟩
   .cases h
def arx(m:MK)(v:List MK):List MK:=v.take (uD m v)++[m]++v.drop (uD m v)
theorem aqV(m:MK)(v:List MK):(arx m v).Perm (m::v):=by
 unfold arx;have:(v.take (uD m v)++[m]++v.drop (uD m v)).Perm (m::(v.take (uD m v)++v.drop (uD m v))):=by
  rw[append_assoc];exact perm_middle
 rw[take_append_drop]at this;exact this
theorem asj{a b:MK}(h:a.eG≠b.eG):nD a b=true\/nD b a=true:=by
 rw[zh,zh];simp only[MK.eG,ne_eq,Prod.mk.injEq,not_and]at h;by_cases e:a.dv=b.dv
 .have:=h e;omega
 .omega
theorem arz{m:MK}{v:List MK}(h:v.Pairwise fun a c=>nD a c=true)(hd:∀a∈v,a.eG≠m.eG):(arx m v).Pairwise fun a c=>nD a c=true:=by
 have h1:∀a∈v.take (uD m v),nD a m=true:=fun a ha=>by
  obtain⟨j,hj,rfl⟩:=getElem_of_mem ha;rw[length_take]at hj;rw[getElem_take];exact(Mw h zO).2 zO
 have h2:∀a∈v.drop (uD m v),nD m a=true:=fun a ha=>by
  obtain⟨j,hj,rfl⟩:=getElem_of_mem ha;rw[length_drop]at hj;rw[getElem_drop];have bg:uD m v+j<v.length:=zO
  rcases asj (hd _ (getElem_mem bg))with k|k
  .have:=(Mw h bg).1 k;omega
  .exact k
 have hs:=h;rw[<- take_append_drop (uD m v) v]at hs;obtain⟨s1,s2,s3⟩:=pairwise_append.1 hs;unfold arx;refine pairwise_append.2 ⟨pairwise_append.2 ⟨s1,pairwise_singleton _ _,fun a ha b hb=>?_⟩,s2,fun a ha b hb=>?_⟩
 .rw [mem_singleton.1 hb];exact h1 a ha
 .rcases yI.1 ha with ha|ha
  .exact s3 a ha b hb
  .rw [mem_singleton.1 ha];exact h2 b hb
theorem asl{l:List CE}{m:MK}{v:List MK}(h:OkV l v)(hm:F8 l m=true)(hd:∀a∈v,a.eG≠m.eG):OkV l (arx m v):=by
 refine⟨fun a ha=>?_,arz h.sorted hd,?_⟩
 .rcases yH.1 ((aqV m v).mem_iff.1 ha)with rfl|ha
  .exact hm
  .exact h.isM a ha
 .have:(m::v).Pairwise fun a b=>a.eG≠b.eG:=pairwise_cons.2 ⟨fun a ha e=>hd a ha e.symm,h.qV⟩;exact(Perm.pairwise_iff (fun{a b} h e=>h e.symm) (aqV m v)).2 this
theorem arA{l:List CE}{m:MK}:F8 l m=true↔(∃x∈l,x.id=m.frm)/\(∃x∈l,x.id=m.upto)/\(bH.gQ (m.dv,m.sq)&&decide (m.tm>=1)&&decide (m.tm<=1099511627776)&&decide (m.st>=0)&&decide (m.st<16))=true:=by
 have key:∀i j k:Int,(fX (vM i j k) l).isSome=true↔∃x∈l,x.id=(i,j,k):=fun i j k=>by
  constructor
  .intro h;obtain⟨m,hm⟩:=Option.isSome_iff_exists.1 h;obtain⟨x,hx,e⟩:=Sq.ark hm;exact⟨x,mem_of_getElem? hx,e⟩
  .rintro ⟨x,hx,e⟩;obtain⟨m,hm⟩:=Sq.ar3 hx e;rw[hm];rfl
 unfold F8 MK.frm MK.upto;rw[<- key,<- key];simp only[Bool.and_eq_true];constructor
 .rintro ⟨⟨⟨⟨⟨⟨h1,h2⟩,h3⟩,h4⟩,h5⟩,h6⟩,h7⟩;exact⟨h1,h2,⟨⟨⟨h3,h4⟩,h5⟩,h6⟩,h7⟩
 .rintro ⟨h1,h2,⟨⟨⟨h3,h4⟩,h5⟩,h6⟩,h7⟩;exact⟨⟨⟨⟨⟨⟨h1,h2⟩,h3⟩,h4⟩,h5⟩,h6⟩,h7⟩
theorem asn{l l':List CE}{m:MK}(h:∀x∈l,∃y∈l',y.id=x.id)(hm:F8 l m=true):F8 l' m=true:=by
 obtain⟨⟨x,hx,e⟩,⟨x',hx',e'⟩,k⟩:=arA.1 hm;obtain⟨y,hy,e2⟩:=h x hx;obtain⟨y',hy',e2'⟩:=h x' hx';exact arA.2 ⟨⟨y,hy,e2.trans e⟩,⟨y',hy',e2'.trans e'⟩,k⟩
theorem OkV.up{l l':List CE}{v:List MK}(h:OkV l v)(hs:∀x∈l,∃y∈l',y.id=x.id):OkV l' v:=⟨fun m hm=>asn hs (h.isM m hm),h.sorted,h.qV⟩
def TL(e:avv):List CE:=tyL e.dv e.sq e.tm e.s e.s.size 0 (e.a,e.b,e.c)
def CF(e:avv):CE->CE:=Vu e.a e.b e.c e.n.toNat 0
def aso(t:TE)(e:avv):Prop:=(1<=e.s.size/\e.s.size<=64)/\(TI e.dv e.sq e.tm e.s e.s.size 0 (e.a,e.b,e.c) t.cells).2=0
def asK(t:TE)(e:avv):Prop:=(1<=e.n/\e.n<=64)/\ar9 e.a e.b e.c e.n.toNat 0 t.cells
def asq(t:TE)(e:avv):Prop:=F8 t.cells e.m=true/\∀a∈t.bQ,a.eG≠e.m.eG
theorem arB(e:avv):Sq.Alike (CF e):=aqR
theorem Val.chk{t:TE}(h:Val t):vC t=0:=Yp.2 h
theorem Val.iw{t:TE}(h:Val t):Ids t.cells:=(Sq.Ak.1 (Sq.aqI.1 h.cells).1).1.iw
theorem asL{t:TE}{e:avv}(hV:Val t)(h:aso t e):Ve t e.dv e.sq e.tm (e.a,e.b,e.c) e.s=(⟨(TI e.dv e.sq e.tm e.s e.s.size 0 (e.a,e.b,e.c) t.cells).1,t.bQ⟩,0):=by
 obtain⟨⟨h1,h2⟩,h3⟩:=h;unfold Ve;rw[yK (by simpa using hV.chk),yK zO,yL h3]
theorem asM{t:TE}{e:avv}(hV:Val t)(h:asK t e):Vg t (e.a,e.b,e.c) e.n=(⟨t.cells.map (CF e),t.bQ⟩,0):=by
 obtain⟨⟨h1,h2⟩,h3⟩:=h;unfold Vg;rw[yK (by simpa using hV.chk),yK zO,(arJ hV.iw).1 h3];rfl
theorem asN{t:TE}{e:avv}(hV:Val t)(h:asq t e):Vk t e.m=(⟨t.cells,arx e.m t.bQ⟩,0):=by
 obtain⟨h1,h2⟩:=h;unfold Vk;rw[yK (by simpa using hV.chk),yK (by rw[h1];decide),yK]
 .rfl
 .intro hc;obtain⟨a,ha,e⟩:=any_eq_true.1 hc;exact h2 a ha (of_decide_eq_true e)
theorem arn{t:TE}{e:avv}(h:(edR t e).2=0):Val t/\(e.kd=0/\aso t e/\edR t e=(⟨arE (t.cells++TL e),t.bQ⟩,0)\/e.kd≠0/\e.kd=1/\asK t e/\edR t e=(⟨t.cells.map (CF e),t.bQ⟩,0)\/e.kd≠0/\e.kd≠1/\asq t e/\edR t e=(⟨t.cells,arx e.m t.bQ⟩,0)):=by
 have hv:vC t=0:=by
  unfold edR at h;split at h
  .unfold Ve at h;split at h
   .rename_i hc;exact absurd h hc
   .rename_i hc;simpa using hc
  .split at h
   .unfold Vg at h;split at h
    .rename_i hc;exact absurd h hc
    .rename_i hc;simpa using hc
   .unfold Vk at h;split at h
    .rename_i hc;exact absurd h hc
    .rename_i hc;simpa using hc
 have hV:=Yp.1 hv;refine⟨hV,?_⟩;by_cases h0:e.kd=0
 .have e1:edR t e=Ve t e.dv e.sq e.tm (e.a,e.b,e.c) e.s:=by unfold edR;rw[yL h0]
  rw[e1]at h |-;have hT:aso t e:=by
   unfold Ve at h;rw[yK (by simpa using hv)]at h;split at h
   .cases h
   .rename_i hs;split at h
    .rename_i ht;exact⟨zO,ht⟩
    .rename_i ht;exact absurd h ht
  refine .inl ⟨h0,hT,?_⟩;rw[asL hV hT,(ar8 hV.cells hT.2).1];rfl
 .by_cases h1:e.kd=1
  .have e1:edR t e=Vg t (e.a,e.b,e.c) e.n:=by unfold edR;rw[yK h0,yL h1]
   rw[e1]at h |-;have hC:asK t e:=by
    unfold Vg at h;rw[yK (by simpa using hv)]at h;split at h
    .cases h
    .rename_i hs;split at h
     .rename_i hr;exact⟨zO,(arJ hV.iw).2 hr⟩
     .cases h
   exact .inr (.inl ⟨h0,h1,hC,asM hV hC⟩)
  .have e1:edR t e=Vk t e.m:=by unfold edR;rw[yK h0,yK h1]
   rw[e1]at h |-;have hA:asq t e:=by
    unfold Vk at h;rw[yK (by simpa using hv)]at h;split at h
    .cases h
    .rename_i hs;split at h
     .cases h
     .rename_i ha;refine⟨by simpa using hs,fun a hm e=>ha (any_eq_true.2 ⟨a,hm,decide_eq_true e⟩)⟩
   exact .inr (.inr ⟨h0,h1,hA,asN hV hA⟩)
theorem arR{dv sq tm:Int}{s:yP}:∀{n k:Nat}{i:Sq.ID},k+n=s.size->∀x∈tyL dv sq tm s n k i,x.vl.size=1
 |0,_,_,_,x,hx=>by cases hx
 |n+1,k,i,h,x,hx=>by
  rcases yH.1 hx with rfl|hx
  .show (s.extract k (k+1)).size=1;rw[ByteArray.size_extract];omega
  .exact arR zO x hx
theorem asO{t:TE}{e:avv}(hV:Val t)(h:aso t e):Val ⟨arE (t.cells++TL e),t.bQ⟩/\sO (t.cells++TL e)=true:=by
 obtain⟨a1,a2⟩:=ar8 hV.cells h.2;refine⟨⟨(Sq.arb a2).2.2,fun c hc=>?_,hV.bQ.up fun x hx=>⟨x,(Sq.aqK a2).mem_iff.2 (mem_append_left _ hx),rfl⟩⟩,a2⟩;rcases yI.1 ((Sq.aqK a2).mem_iff.1 hc)with hc|hc
 .exact hV.one c hc
 .exact arR zO c hc
theorem asr{t:TE}{g:CE->CE}(hg:Sq.Alike g)(hV:Val t):Val ⟨t.cells.map g,t.bQ⟩:=by
 refine⟨hg.chk hV.cells,fun c hc=>?_,hV.bQ.up fun x hx=>⟨g x,yG.2 ⟨x,hx,rfl⟩,hg.id x⟩⟩;obtain⟨x,hx,rfl⟩:=yG.1 hc;rw[hg.vl];exact hV.one x hx
theorem asP{t:TE}{e:avv}(hV:Val t)(h:asq t e):Val ⟨t.cells,arx e.m t.bQ⟩:=⟨hV.cells,hV.one,asl hV.bQ h.1 h.2⟩
theorem arK{t:TE}{e:avv}(h:(edR t e).2=0):Val (edR t e).1:=by
 obtain⟨hV,⟨_,h1,e1⟩|⟨_,_,h1,e1⟩|⟨_,_,h1,e1⟩⟩:=arn h
 .rw [e1];exact(asO hV h1).1
 .rw [e1];exact asr aqR hV
 .rw [e1];exact asP hV h1
end Go.Tx
namespace Go.Dc
open Go Go.Am Go.Proofs Go.eY Go.bH
def fzS(a:Int)(s:yP)(i j:Int):St:={ aL:=aC 49 [(0,aK),(2,Ph),(4,.ptr 0 0),(8,int 0),(9,int i),(10,int j)],H:=[zP a s] }
def fzX(a:Int)(s:yP)(i:Int):St:={ aL:=aC 49 [(0,aK),(2,Ph),(4,.ptr 0 0),(8,int 0),(9,int i)],H:=[zP a s] }
theorem anN(a:Int)(s:yP)(i j:Int)(wQ:¬i<j)(h:True):Rq 0 43 0 (fzS a s i j) (bF.exit 0) (fzX a s i):=by
 exact aG [kj (i<j)] (aB 49 [0,2,4,8,9]) 1
theorem anO(a:Int)(s:yP)(hL:Rq 0 43 0 (fzS a s 0 0) (.exit 0) (fzX a s 0))(h:True):Cq 43 [aK,pt a s,Ph] (.bq [int 0,Am.bool false]):=by
 exact aj [kl (rG [(1,1),(3,1),(5,3),(11,38)]) 1 hL,kY]
theorem amZ(a:Int)(s:yP):Cq 43 [aK,pt a s,Ph] (.bq [int 0,Am.bool false]):=anO a s (anN a s 0 0 zO yO) trivial
theorem eWf{n:Int}(h : -9223372036854775808<=n/\n<9223372036854775808):(Lit.int .i64 n).wf=true:=by
 simp[Lit.wf,IntKind.min,IntKind.max,IntKind.signed,IntKind.bits];omega
theorem agb:Maps.Keyed P 3:=Maps.int_keyed Tryz.underlying3
theorem akn{a:Int}(h : -9223372036854775808<=a/\a<9223372036854775808):∃l,keyOf P 3 (.int .i64 a)=some l:=⟨_,Maps.keyOf_int_mk Tryz.underlying3 (eWf h)⟩
theorem uV{k:Int}{x:AV}(hm:((.int .i64 k:Value),x)∈oK)(hk : -9223372036854775808<=k/\k<9223372036854775808):bT P 3 oK (.int .i64 k) zE x true :=
 ⟨agb,akn hk,fun e he=>by
  simp only[oK,yH,not_mem_nil,or_false]at he;rcases he with rfl|rfl|rfl|rfl|rfl|rfl|rfl|rfl<;>exact akn zO,.inl ⟨rfl,hm⟩⟩
theorem eg1:bT P 3 oK (.int .i64 1) zE (.agg [gP 354]) true:=uV (by simp[oK]) zO
theorem eg2:bT P 3 oK (.int .i64 2) zE (.agg [gP 357]) true:=uV (by simp[oK]) zO
theorem eg3:bT P 3 oK (.int .i64 3) zE (.agg [gP 359]) true:=uV (by simp[oK]) zO
theorem eg4:bT P 3 oK (.int .i64 4) zE (.agg [gP 363]) true:=uV (by simp[oK]) zO
theorem eg5:bT P 3 oK (.int .i64 5) zE (.agg [gP 365]) true:=uV (by simp[oK]) zO
theorem eg6:bT P 3 oK (.int .i64 6) zE (.agg [gP 368]) true:=uV (by simp[oK]) zO
theorem eg7:bT P 3 oK (.int .i64 7) zE (.agg [gP 371]) true:=uV (by simp[oK]) zO
theorem eg8:bT P 3 oK (.int .i64 8) zE (.agg [gP 373]) true:=uV (by simp[oK]) zO
end Go.Dc
namespace Go.bH
open Go Go.Am
structure Ok(v:List D):Prop where
 qV:∀d∈v,gQ d=true
 sorted:v.Pairwise fun p q=>p.1<q.1
theorem ji{d:D}:gQ d=true↔0<=d.1/\d.1<512/\1<=d.2/\d.2<=1048576:=by
 simp only[gQ,Bool.and_eq_true,decide_eq_true_eq];omega
theorem uM{v:List D}:∀n k,k+n=v.length->(y9 v n k=true↔(∀j,k<=j->∀x,v[j]?=some x->gQ x=true/\(j=0\/∃y,v[j-1]?=some y/\y.1<x.1)))
 |0,k,h=>by
  simp only[y9,true_iff];intro j hj x hx;rw[getElem?_eq_none zO]at hx;cases hx
 |n+1,k,h=>by
  have ih:=uM (v:=v) n (k+1) zO;have bg:k<v.length:=zO
  simp only[y9,Bool.and_eq_true];rw[ih];have hx:=yA bg;have hat:jh v k=true↔(gQ v[k]=true/\(k=0\/∃y,v[k-1]?=some y/\y.1<v[k].1)):=by
   simp only[jh,hx,Bool.and_eq_true,Bool.or_eq_true,beq_iff_eq];refine and_congr_right fun _=>or_congr_right ?_;cases hy:v[k-1]? with
   |none=>simp
   |some y=>simp
  rw[hat];constructor
  .grind
  .intro h';exact⟨h' k yM _ hx,fun j hj=>h' j zO⟩
theorem RQ{v:List D}:Cw v=true↔Ok v:=by
 unfold Cw;rw[uM v.length 0 zO];constructor
 .intro h;refine⟨fun d hd=>?_,?_⟩
  .obtain ⟨j,hj⟩:=mem_iff_getElem?.1 hd;exact(h j yN d hj).1
  .rw [pairwise_iff_getElem];have step:∀j (h1:j+1<v.length),(v[j]'zO).1<v[j+1].1:=fun j h1=>by
    rcases(h (j+1) yN _ (yA h1)).2 with h0|⟨y,hy,bg⟩
    .omega
    .grind
   have all:∀m i (h1:i+m+1<v.length),(v[i]'zO).1<(v[i+m+1]).1:=by
    intro m
    induction m with
    |zero=>intro i h1;exact step i h1
    |succ m ih=>intro i h1;exact Int.lt_trans (ih i zO) (step (i+m+1) zO)
   intro i j hi hj wQ;have:=all (j-i-1) i zO;have e:i+(j-i-1)+1=j:=zO
   simpa only[e]using this
 .intro h j _ x hx;refine⟨h.qV x (mem_of_getElem? hx),?_⟩;by_cases h0:j=0
  .exact .inl h0
  .right;obtain⟨h1,h2⟩:=yC.1 hx;refine⟨v[j-1]'zO,yA zO,?_⟩;have:=(pairwise_iff_getElem.1 h.sorted) (j-1) j zO h1 zO;rw[h2]at this;exact this
theorem Ok.tail{d:D}{v:List D}(h:Ok (d::v)):Ok v:=⟨fun x hx=>h.qV x (yF _ hx),(pairwise_cons.1 h.sorted).2⟩
theorem Ok.lt{d:D}{v:List D}(h:Ok (d::v)):∀x∈v,d.1<x.1:=(pairwise_cons.1 h.sorted).1
theorem EZ{dev:Int}{d:D}{v:List D}(h:d.1≠dev):gI dev (d::v)=gI dev v:=yK h
theorem u6{dev:Int}:∀{v:List D},(∀d∈v,d.1≠dev)->gI dev v=0
 |[],_=>rfl
 |d::v,h=>by rw[gI,yK (h d zS)];exact u6 fun x hx=>h x (yF _ hx)
theorem qc{v:List D}(h:Ok v):∀d∈v,gI d.1 v=d.2:=by
 induction v with
 |nil=>simp
 |cons x v ih =>
  intro d hd;rcases yH.1 hd with rfl|hd
  .rw [gI,yL rfl]
  .rw [gI,yK (by have:=h.lt d hd;omega)];exact ih h.tail d hd
theorem UD{v:List D}(h:Ok v){dev:Int}(hp:gI dev v≠0):∃d∈v,d.1=dev/\d.2=gI dev v:=by
 by_cases hd:∃d∈v,d.1=dev
 .obtain ⟨d,hd,rfl⟩:=hd;exact⟨d,hd,rfl,(qc h d hd).symm⟩
 .exact absurd (u6 fun d hm e=>hd ⟨d,hm,e⟩) hp
theorem mg{v:List D}(h:Ok v)(dev:Int):0<=gI dev v/\gI dev v<=1048576:=by
 by_cases hp:gI dev v=0
 .omega
 .obtain ⟨d,hd,_,he⟩:=UD h hp;have:=ji.1 (h.qV d hd);omega
theorem Ej:∀n (a b:List D),a.length+b.length<=n->Ok a->Ok b ->
 (qM n a b).Pairwise (fun p q=>p.1<q.1)/\(∀p∈qM n a b,(∃q∈a,q.1=p.1)\/(∃q∈b,q.1=p.1))/\(∀p∈qM n a b,p.2.1=gI p.1 a/\p.2.2=gI p.1 b) /\
 (∀q∈a,∃p∈qM n a b,p.1=q.1)/\(∀q∈b,∃p∈qM n a b,p.1=q.1):=by
 intro n
 induction n with
 |zero =>
  intro a b hn ha hb;have ea:a=[]:=eq_nil_of_length_eq_zero zO;have eb:b=[]:=eq_nil_of_length_eq_zero zO;subst ea eb;simp[qM]
 |succ n ih =>
  intro a b hn ha hb
  match a,b,hn,ha,hb with
  |[],[],_,_,_=>simp[qM]
  |x::a,[],hn,ha,hb =>
   obtain⟨i1,i2,i3,i4,_⟩:=ih a [] (by simp at hn |-;omega) ha.tail hb;have low:∀p∈qM n a [],x.1<p.1:=fun p hp=>by
    rcases i2 p hp with⟨q,hq,e⟩|⟨q,hq,_⟩
    .have:=ha.lt q hq;omega
    .cases hq
   simp only[qM];refine⟨pairwise_cons.2 ⟨low,i1⟩,fun p hp=>?_,fun p hp=>?_,fun q hq=>?_,fun q hq=>(by cases hq)⟩
   .grind
   .rcases yH.1 hp with rfl|hp
    .exact ⟨by rw[qc ha x zS],rfl⟩
    .have fF:x.1≠p.1:=by have:=low p hp;omega
     rw[EZ fF];exact i3 p hp
   .rcases yH.1 hq with rfl|hq
    .exact ⟨_,mem_cons_self,rfl⟩
    .obtain ⟨p,h1,h2⟩:=i4 q hq;exact⟨p,yF _ h1,h2⟩
  |[],y::b,hn,ha,hb =>
   obtain⟨i1,i2,i3,_,i5⟩:=ih [] b (by simp at hn |-;omega) ha hb.tail;have low:∀p∈qM n [] b,y.1<p.1:=fun p hp=>by
    rcases i2 p hp with⟨q,hq,_⟩|⟨q,hq,e⟩
    .cases hq
    .have:=hb.lt q hq;omega
   simp only[qM];refine⟨pairwise_cons.2 ⟨low,i1⟩,fun p hp=>?_,fun p hp=>?_,fun q hq=>(by cases hq),fun q hq=>?_⟩
   .rcases yH.1 hp with rfl|hp
    .exact .inr ⟨y,zS,rfl⟩
    .exact (i2 p hp).imp id (fun⟨q,h1,h2⟩=>⟨q,yF _ h1,h2⟩)
   .rcases yH.1 hp with rfl|hp
    .exact ⟨rfl,by rw[qc hb y zS]⟩
    .have fF:y.1≠p.1:=by have:=low p hp;omega
     refine⟨(i3 p hp).1,?_⟩;rw[EZ fF];exact(i3 p hp).2
   .rcases yH.1 hq with rfl|hq
    .exact ⟨_,mem_cons_self,rfl⟩
    .obtain ⟨p,h1,h2⟩:=i5 q hq;exact⟨p,yF _ h1,h2⟩
  |x::a,y::b,hn,ha,hb =>
   simp only[qM];by_cases h1:x.1<y.1
   .rw [yL h1];obtain⟨i1,i2,i3,i4,i5⟩:=ih a (y::b) (by simp at hn |-;omega) ha.tail hb;have low:∀p∈qM n a (y::b),x.1<p.1:=fun p hp=>by
     rcases i2 p hp with⟨q,hq,e⟩|⟨q,hq,e⟩
     .have:=ha.lt q hq;omega
     .rcases yH.1 hq with rfl|hq
      .omega
      .have:=hb.lt q hq;omega
    refine⟨pairwise_cons.2 ⟨low,i1⟩,fun p hp=>?_,fun p hp=>?_,fun q hq=>?_,fun q hq=>?_⟩
    .rcases yH.1 hp with rfl|hp
     .exact .inl ⟨x,zS,rfl⟩
     .exact (i2 p hp).imp (fun⟨q,h1,h2⟩=>⟨q,yF _ h1,h2⟩) id
    .rcases yH.1 hp with rfl|hp
     .refine ⟨by rw[qc ha x zS],?_⟩;rw[u6 fun q hq=>?_];rcases yH.1 hq with rfl|hq
      .simp only;omega
      .have:=hb.lt q hq;simp only;omega
     .have fF:x.1≠p.1:=by have:=low p hp;omega
      refine⟨?_,(i3 p hp).2⟩;rw[EZ fF];exact(i3 p hp).1
    .rcases yH.1 hq with rfl|hq
     .exact ⟨_,mem_cons_self,rfl⟩
     .obtain ⟨p,k1,k2⟩:=i4 q hq;exact⟨p,yF _ k1,k2⟩
    .obtain ⟨p,k1,k2⟩:=i5 q hq;exact⟨p,yF _ k1,k2⟩
   .rw [yK h1];by_cases h2:y.1<x.1
    .rw [yL h2];obtain⟨i1,i2,i3,i4,i5⟩:=ih (x::a) b (by simp at hn |-;omega) ha hb.tail;have low:∀p∈qM n (x::a) b,y.1<p.1:=fun p hp=>by
      rcases i2 p hp with⟨q,hq,e⟩|⟨q,hq,e⟩
      .rcases yH.1 hq with rfl|hq
       .omega
       .have:=ha.lt q hq;omega
      .have:=hb.lt q hq;omega
     refine⟨pairwise_cons.2 ⟨low,i1⟩,fun p hp=>?_,fun p hp=>?_,fun q hq=>?_,fun q hq=>?_⟩
     .rcases yH.1 hp with rfl|hp
      .exact .inr ⟨y,zS,rfl⟩
      .exact (i2 p hp).imp id (fun⟨q,h1,h2⟩=>⟨q,yF _ h1,h2⟩)
     .rcases yH.1 hp with rfl|hp
      .refine ⟨?_,by rw[qc hb y zS]⟩;rw[u6 fun q hq=>?_];rcases yH.1 hq with rfl|hq
       .simp only;omega
       .have:=ha.lt q hq;simp only;omega
      .have fF:y.1≠p.1:=by have:=low p hp;omega
       refine⟨(i3 p hp).1,?_⟩;rw[EZ fF];exact(i3 p hp).2
     .obtain ⟨p,k1,k2⟩:=i4 q hq;exact⟨p,yF _ k1,k2⟩
     .rcases yH.1 hq with rfl|hq
      .exact ⟨_,mem_cons_self,rfl⟩
      .obtain ⟨p,k1,k2⟩:=i5 q hq;exact⟨p,yF _ k1,k2⟩
    .rw [yK h2];have hxy:x.1=y.1:=zO
     obtain⟨i1,i2,i3,i4,i5⟩:=ih a b (by simp at hn |-;omega) ha.tail hb.tail;have low:∀p∈qM n a b,x.1<p.1:=fun p hp=>by
      rcases i2 p hp with⟨q,hq,e⟩|⟨q,hq,e⟩
      .have:=ha.lt q hq;omega
      .have:=hb.lt q hq;omega
     refine⟨pairwise_cons.2 ⟨low,i1⟩,fun p hp=>?_,fun p hp=>?_,fun q hq=>?_,fun q hq=>?_⟩
     .rcases yH.1 hp with rfl|hp
      .exact .inl ⟨x,zS,rfl⟩
      .exact (i2 p hp).imp (fun⟨q,h1,h2⟩=>⟨q,yF _ h1,h2⟩) (fun⟨q,h1,h2⟩=>⟨q,yF _ h1,h2⟩)
     .rcases yH.1 hp with rfl|hp
      .refine ⟨by rw[qc ha x zS],?_⟩;simp only;rw[hxy,qc hb y zS]
      .have fF:x.1≠p.1:=by have:=low p hp;omega
       have apf:y.1≠p.1:=by have:=low p hp;omega
       rw[EZ fF,EZ apf];exact i3 p hp
     .rcases yH.1 hq with rfl|hq
      .exact ⟨_,mem_cons_self,rfl⟩
      .obtain ⟨p,k1,k2⟩:=i4 q hq;exact⟨p,yF _ k1,k2⟩
     .rcases yH.1 hq with rfl|hq
      .exact ⟨_,mem_cons_self,hxy⟩
      .obtain ⟨p,k1,k2⟩:=i5 q hq;exact⟨p,yF _ k1,k2⟩
theorem E5:∀n (a b:List D),Kl n a b=(qM n a b).map (·.1)
 |0,_,_=>rfl
 |_+1,[],[]=>rfl
 |n+1,x::a,[]=>by simp only[Kl,qM,map_cons,E5 n a []]
 |n+1,[],y::b=>by simp only[Kl,qM,map_cons,E5 n [] b]
 |n+1,x::a,y::b=>by
  simp only[Kl,qM];by_cases h1:x.1<y.1
  .have h2:¬y.1<x.1:=zO
   simp only[yL h1,yK h2,map_cons,E5 n a (y::b)]
  .by_cases h2:y.1<x.1
   .simp only[yK h1,yL h2,map_cons,E5 n (x::a) b]
   .simp only[yK h1,yK h2,map_cons,E5 n a b]
structure Rule(tk:Int->Int->Int):Prop where
 zero:tk 0 0=0
 lo:∀x y,0<=x->0<=y->0<=tk x y
 hi:∀x y,x<=1048576->y<=1048576->tk x y<=1048576
theorem Qf:Rule fu:=⟨rfl,fun x y _ _=>by unfold fu;split<;>omega,fun x y _ _=>by unfold fu;split<;>omega⟩
theorem E8{tk:Int->Int->Int}{a b:List D}(ha:Ok a)(hb:Ok b){d:D}(h:d∈dD tk a b) :
 d.2=tk (gI d.1 a) (gI d.1 b)/\d.2>0/\((∃q∈a,q.1=d.1)\/(∃q∈b,q.1=d.1)):=by
 obtain⟨p,hp,he⟩:=mem_filterMap.1 h;obtain⟨_,i2,i3,_,_⟩:=Ej _ a b yM ha hb;unfold lV at he;split at he
 .grind
 .cases he
theorem NH{tk:Int->Int->Int}{a b:List D}(ha:Ok a)(hb:Ok b):(dD tk a b).Pairwise fun p q=>p.1<q.1:=by
 obtain⟨i1,_⟩:=Ej _ a b yM ha hb;unfold dD;rw[pairwise_filterMap];refine i1.imp ?_;intro p q hpq d hd c hc;unfold lV at hd hc;split at hd<;>split at hc
 .grind
 all_goals first|(cases hc;done)|(cases hd;done)
theorem Qg{tk:Int->Int->Int}(hr:Rule tk){a b:List D}(ha:Ok a)(hb:Ok b):Ok (dD tk a b):=by
 refine⟨fun d hd=>?_,NH ha hb⟩;obtain⟨h1,h2,h3⟩:=E8 ha hb hd;rw[ji];have r1:=mg ha d.1;have r2:=mg hb d.1;have:=hr.hi _ _ r1.2 r2.2;rcases h3 with⟨q,hq,e⟩|⟨q,hq,e⟩
 .have:=ji.1 (ha.qV q hq);omega
 .have:=ji.1 (hb.qV q hq);omega
theorem aaK{tk:Int->Int->Int}(hr:Rule tk){a b:List D}(ha:Ok a)(hb:Ok b)(dev:Int):gI dev (dD tk a b)=tk (gI dev a) (gI dev b):=by
 obtain⟨_,i2,i3,i4,i5⟩:=Ej _ a b yM ha hb;have r1:=mg ha dev;have r2:=mg hb dev;by_cases vN:(∃q∈a,q.1=dev)\/(∃q∈b,q.1=dev)
 .obtain ⟨p,hp,hpd⟩:∃p∈qM (a.length+b.length) a b,p.1=dev:=by
   rcases vN with⟨q,hq,rfl⟩|⟨q,hq,rfl⟩
   .exact i4 q hq
   .exact i5 q hq
  subst hpd;obtain⟨e1,e2⟩:=i3 p hp;by_cases qh:tk p.2.1 p.2.2>0
  .have hm:(p.1,tk p.2.1 p.2.2)∈dD tk a b:=mem_filterMap.2 ⟨p,hp,yL qh⟩;rw[qc (Qg hr ha hb) _ hm,<- e1,<- e2]
  .have h0:=hr.lo _ _ r1.1 r2.1;rw[<- e1,<- e2]at h0 |-;have hz:tk p.2.1 p.2.2=0:=zO
   rw[hz];refine u6 fun d hd e=>?_;obtain⟨h1,h2,_⟩:=E8 ha hb hd;rw[e,<- e1,<- e2]at h1;omega
 .have z1:=u6 fun d hd e=>vN (.inl ⟨d,hd,e⟩);have z2:=u6 fun d hd e=>vN (.inr ⟨d,hd,e⟩);rw[z1,z2,hr.zero];refine u6 fun d hd e=>?_;obtain⟨_,_,h3⟩:=E8 ha hb hd;rw[e]at h3;exact vN h3
theorem KE{tk:Int->Int->Int}(a b:List D):(dD tk a b).length<=a.length+b.length :=
 Nat.le_trans (length_filterMap_le _ _) (AU _ a b)
theorem Ab{α β:Type}{f g:α->Option β}:∀{l:List α},(∀x∈l,f x=g x)->l.filterMap f=l.filterMap g
 |[],_=>rfl
 |x::l,h=>by
  have h1:=h x zS;have h2:=Ab (l:=l) fun y hy=>h y (yF _ hy);rw[filterMap_cons,filterMap_cons,h1,h2]
theorem Lg{a b:List D}(ha:Ok a)(hb:Ok b):aar a b=dD fu a b:=by
 unfold aar dD alp;rw[E5,filterMap_map];obtain⟨_,i2,i3,_,_⟩:=Ej _ a b yM ha hb;refine Ab fun p hp=>?_;obtain⟨e1,e2⟩:=i3 p hp;show aaq a b p.1=lV fu p;unfold aaq lV;rw[<- e1,<- e2];have qh:fu p.2.1 p.2.2>0:=by
  have r1:=mg ha p.1;have r2:=mg hb p.1;rcases i2 p hp with⟨q,hq,e⟩|⟨q,hq,e⟩
  .have:=qc ha q hq;have:=ji.1 (ha.qV q hq);rw[<- e]at r1 r2 e1 e2;unfold fu;split<;>omega
  .have:=qc hb q hq;have:=ji.1 (hb.qV q hq);rw[<- e]at r1 r2 e1 e2;unfold fu;split<;>omega
 rw[yL qh];rfl
theorem zh{a b:List D}(ha:Ok a)(hb:Ok b):aas a b=true↔∃dev,gI dev a<gI dev b:=by
 obtain⟨_,_,i3,_,i5⟩:=Ej _ a b yM ha hb;unfold aas aeL;rw[any_eq_true];constructor
 .grind
 .grind [mg,UD]
end Go.bH
namespace Go.Dc
open Go Go.Am Go.Proofs Go.eY Go.bH
theorem za{l:List FD}{i:Nat}(h:i<l.length)(e:Int)(a:FD):(if e=0 then l.set i a else l)=l.set i (if e=0 then a else l[i]):=by
 by_cases q:e=0
 .rw [yL q,yL q]
 .simp_all
abbrev EfC(F:Nat)(o:bV.OP)(ef:FD->FD)(f:FD):Prop:=∀(l:List FD)(g i:Nat)(h:i<l.length),l[i]=f->∃e,ak P G F [.jC 0 g i 0,bV.op o] [.aN g 7 false (dA l)] (.ret (int e)) [.aN g 7 false (dA (l.set i (ef l[i])))]
def KD(o:bV.OP):Sq.CE:=⟨o.dv,o.sq,0,o.f1,o.f2,o.f3,o.tm,o.vl,false⟩
def ef1(o:bV.OP)(f:FD):FD:=if Sq.A8 f.ce (KD o)=0 then{ f with ce:=Sq.rU f.ce (KD o) }else f
def ef2(o:bV.OP)(f:FD):FD:=if Sq.Ox f.ce o.f1 o.f2 o.f3=0 then{ f with ce:=Sq.Ez f.ce o.f1 o.f2 o.f3 }else f
theorem aec{o:bV.OP}(h:bV.Fw o):Sq.Cu (KD o):=⟨⟨h.dv,h.sq,by show Sq.fO 0;unfold Sq.fO;omega⟩,h.f1,h.f2,h.f3⟩
theorem aiU{o:bV.OP}{f:FD}(ho:bV.Fw o)(hl:f.ce.length<=999999)(hr:Sq.kQ f.ce):EfC 354 o (ef1 o) f:=fun l g i h e=>by
 subst e;have k:=aiV l i g l[i] h (yA h) o _ _ (Sq.up (Sq.KC l[i].ce (KD o) hl hr (aec ho)));rw[za h]at k;exact⟨_,k⟩
theorem aiW{o:bV.OP}{f:FD}(hl:f.ce.length<=1000000)(hr:Sq.kQ f.ce):EfC 357 o (ef2 o) f:=fun l g i h e=>by
 subst e;have k:=aiX l i g l[i] h (yA h) o _ _ (Sq.up (Sq.aiw l[i].ce o.f1 o.f2 o.f3 hl hr));rw[za h]at k;exact⟨_,k⟩
def Q5(o:bV.OP):List D:=if fM o.cx [(o.dv,o.sq-1)]=0 then uK o.cx [(o.dv,o.sq-1)]else o.cx
theorem Au(o:bV.OP)(hc:o.cx.length<=1000000)(h1:1<=o.sq)(h2:o.sq<=1048576):Cq 361 [bV.op o] (bB (Q5 o)):=by
 have hw:IntKind.wrap IntKind.i64 (bV.OP.sq o-1)=o.sq-1:=Gx zO zO;have h:=bH.Q6 o.cx o.dv (o.sq-1) zO;refine afA o _ _ (by rw[hw];exact h) _ ⟨fun h=>by unfold Q5;rw[yL h],fun h=>by unfold Q5;rw[yK h]⟩
theorem TD(o:bV.OP):(Q5 o).length<=o.cx.length+1:=by
 unfold Q5;split
 .grind [uK,KE]
 .omega
def ef3(o:bV.OP)(f:FD):FD:=if(Bd.OB f.bi (Q5 o) ⟨o.ky,o.dv,o.sq,o.tm,o.vl⟩).2=0 then{ f with bi:=(Bd.OB f.bi (Q5 o) ⟨o.ky,o.dv,o.sq,o.tm,o.vl⟩).1 }else f
def ef4(o:bV.OP)(f:FD):FD:=if(Bd.CZ f.bi (Q5 o) o.ky).2=0 then{ f with bi:=(Bd.CZ f.bi (Q5 o) o.ky).1 }else f
theorem aiY{o:bV.OP}{f:FD}(hc:o.cx.length<=1000000)(h1:1<=o.sq)(h2:o.sq<=1048576)(hl:f.bi.length<=1000000):EfC 359 o (ef3 o) f:=fun l g i h e=>by
 subst e;have hk:=TD o;have k:=aiZ l i g l[i] h (yA h) o _ _ _ (Au o hc h1 h2) (Bd.afB l[i].bi (Q5 o) ⟨o.ky,o.dv,o.sq,o.tm,o.vl⟩ zO zO);rw[za h]at k;exact⟨_,k⟩
theorem ai0{o:bV.OP}{f:FD}(hc:o.cx.length<=1000000)(h1:1<=o.sq)(h2:o.sq<=1048576)(hl:f.bi.length<=1000000):EfC 363 o (ef4 o) f:=fun l g i h e=>by
 subst e;have hk:=TD o;have k:=ai1 l i g l[i] h (yA h) o _ _ _ (Au o hc h1 h2) (Bd.X7 l[i].bi (Q5 o) o.ky zO zO);rw[za h]at k;exact⟨_,k⟩
end Go.Dc
namespace Go.Dt
open Go Go.Am Go.Proofs Go.eY Go.Lib Go.OC
set_option maxHeartbeats 4000000 in
theorem pz:OC.X8 382 3:=by
 intro b n c i vb vo vc cs vs w hi gY Me TF lG Cv jQ Q7 Qz Ev Gy Gz tA tB kA kB OD NS QA Q8;have iZ:(Tryz.prog.info? 113).map (·.size)=some 3:=zQ
 have hov:∀lb cb o,(callFunc 390 #[.slice (some ⟨vb,vo,none⟩) 1 vc,.slice (some ⟨b,o,none⟩) lb cb]).run Tryz.prog w = .ok (.value (.bool false)) w:=fun lb cb o=>by
  rw[run_callFunc_extern Tryz.func390 zQ zQ zQ (e:=Extern.SlicesOverlaps.overlaps #[62,62] #[4]) zQ,
   lX w 62 4 113 Tryz.underlying62 3 Tryz.sizeOf113 ⟨vb,vo,none⟩ ⟨b,o,none⟩ 1 vc lb cb TF tA tB kA kB OD NS QA Q8 Qz rfl]
  rfl
 have mixed:Tryz.prog.follows .mixedOrders=true:=zQ
 obtain⟨jw,OE,hw2,Mf,vN,X9,XB,Ya,hb4,W1,KF,J2,Mh⟩:=Mi (vc:=vc) (tS:=62) (tE:=113) (z:=3) zD Tryz.underlying62 iZ hi gY Me TF lG Cv jQ Q7 Qz Ev Gy Gz OD NS QA Q8
 go_enter Tryz.func382,Tryz.ntmps382
 go_wp2_with (simp only[hov])
 go_region_law_o (refine step_copy_runI rfl _ _ 62 62 rfl _ _ (by simp[Act.eval,Act.put]) (by simp[Act.eval,Act.put]) (J2 _ _ _) ?_)
 go_wp2_with (at_builtin;refine wpList_copy_runI _ rfl _ _ 62 62 rfl _ _ rfl rfl (Mh _ (fun _=>rfl) (fun _=>rfl) _ _) ?_)
 go_ret
 first|exact⟨rfl,rfl⟩|exact⟨rfl,by rw[KF]⟩
abbrev zB:Value:=.agg #[.int .i64 0,.int .i64 0,.int .i64 0]
set_option maxHeartbeats 4000000 in
theorem sU:OC.Yb 382 3 113 24 zB:=by
 intro b n c i vb vo vc cs vs w hi hnc gY Ia lG Cv jQ Ev Gy Gz;have iZ:(Tryz.prog.info? 113).map (·.size)=some 3:=zQ
 have mixed:Tryz.prog.follows .mixedOrders=true:=zQ
 obtain⟨G,oJ,hG,yg,jw,x9,hGi,Yc,hci,OE,Mf,vN,X9,Ya,hGn,Yd,Xf,Mj,ED⟩:=TG (vc:=vc) (tS:=62) (tE:=113) (z:=3) (B:=24) (zB:=zB) zD zD Tryz.underlying62 iZ zQ rfl hi hnc gY Ia lG Cv jQ Ev Gy Gz;rw[<- hG,<- yg];have hE1:∀x,((w.alloc (.cells oJ 113)).drew).cell? x=(w.drew.alloc (.cells oJ 113)).cell? x:=fun x=>rfl;have hE2:∀x,((w.alloc (.cells oJ 113)).drew).frozen? x=(w.drew.alloc (.cells oJ 113)).frozen? x:=fun x=>rfl;have Ko:∀x,(((w.alloc (.cells oJ 113)).drew.setCells w.heap.size (i*3) vs).drew).cell? x=((w.drew.alloc (.cells oJ 113)).setCells w.heap.size (i*3) vs).cell? x:=fun x=>rfl;have hF2:∀x,(((w.alloc (.cells oJ 113)).drew.setCells w.heap.size (i*3) vs).drew).frozen? x=((w.drew.alloc (.cells oJ 113)).setCells w.heap.size (i*3) vs).frozen? x:=fun x=>rfl;clear yg hG
 go_enter Tryz.func382,Tryz.ntmps382
 go_wp2_with (first
  |(at_builtin;refine Lib.wpList_append_run _ rfl _ _ _ _ rfl _ _ rfl rfl _ _ (Xf _) ?_)
  |(at_builtin;refine wpList_copy_runI _ rfl _ _ 62 62 rfl _ _ rfl rfl (Mj _ hE1 hE2 _ _) ?_)
  |(at_builtin;refine wpList_copy_runI _ rfl _ _ 62 62 rfl _ _ rfl rfl (ED _ (fun _=>rfl) (fun _=>rfl) _ _ _) ?_))
 go_region_law_o (refine step_copy_runI rfl _ _ 62 62 rfl (.slice (some ⟨w.heap.size,(i+1)*3,none⟩) (n-i) (G-(i+1))) (.slice (some ⟨b,i*3,none⟩) (n-i) (c-i)) (by simp[Act.eval,Act.put]) (by simp[Act.eval,Act.put]) (ED _ Ko hF2 3 (G-(i+1)) (c-i)) ?_)
 go_wp2
 go_ret
 exact⟨rfl,rfl⟩
end Go.Dt
namespace Go.Dt
open Go Go.Am Go.Proofs Go.eY Go.Lib
theorem uL(x:List (List AV))(b:List AV)(g i:Nat)(hb7:b.length=3)(hi:i<x.length)(hx:x.length<=1000000000):ak P G 382 [.aU 0 g 0 x.length,int i,.sl 3 false [b]] [.aN g 3 false x] (.ret (.aU 0 (g+1) 0 (x.take i++[b]++x.drop i).length)) [.aN (g+1) 3 false (x.take i++[b]++x.drop i)]:=by
 have h:=OC.uL (F:=382) (z:=3) (tE:=113) (B:=24) (zB:=zB) zD zD rfl pz sU x [] b g i hb7 hi hx;rwa[append_nil]at h
end Go.Dt
namespace Go.Dc
open Go Go.Am Go.Proofs Go.eY Go.bH
abbrev plF:AV:=.fn (.func 389) [] [.ptr 0 0]
abbrev J3:ah:=.box [gP 381]
def tbS(l:List TL)(a:Int)(i j:Nat):St:={ aL:=aC 49 [(0,mF l),(1,int a),(2,plF),(8,int l.length),(9,int i),(10,int j)],H:=[J3] }
def tbX(l:List TL)(a:Int)(i:Nat):St:={ aL:=aC 49 [(0,mF l),(1,int a),(2,plF),(8,int l.length),(9,int i)],H:=[J3] }
def nQ(c:TL->Int)(l:List TL):Nat:=(l.takeWhile fun f=>decide (c f<0)).length
theorem Mk(c:TL->Int)(l:List TL):nQ c l<=l.length:=(takeWhile_sublist _).length_le
def TH(c:TL->Int)(l:List TL):Prop:=∀m (h:m<l.length),c l[m]<0↔m<nQ c l
theorem ai2(t:TL)(h:True):Cq 381 [.agg (ze t)] (int t.1):=by
 exact aj []
theorem ai3(t:TL)(a r:Int)(hD:Cq 381 [.agg (ze t)] (int t.1))(hC:Cq 121 [int t.1,int a] (int r))(h:True):ak P G 389 [.agg (ze t),int a,.ptr 0 0] [J3] (aS.ret (int r)) [J3]:=by
 exact aj [kc [] hD,kc [] hC]
theorem amN(l:List TL)(a:Int)(i j:Nat)(wQ:¬(i:Int)<(j:Int))(h:True):Rq 1 388 0 (tbS l a i j) (bF.exit 0) (tbX l a i):=by
 exact aG [kj ((i:Int)<j)] (aB 49 [0,1,2,8,9]) 1
theorem amO(l:List TL)(a:Int)(i j m:Nat)(c:TL->Int)(hj:j<=l.length)(hv:l.length<=1000000000)(hm:U8 i j=(m:Int))(hm':IntKind.wrap IntKind.i64 (Int.fdiv (↑(i+j):Int) (2^min (Int.toNat 1) (IntKind.bits IntKind.u64)))=(m:Int))(bg:m<j)(hC:∀f:TL,ak P G 389 [.agg (ze f),int a,.ptr 0 0] [J3] (.ret (int (c f))) [J3])(ex:bF)(s':St)(h:((((i:Int)<(j:Int))->(∃x2:TL,((0:Int)<=U8 i j/\l[Int.toNat (U8 i j)]?=some x2)/\(((c x2<0)->Rq 1 388 0 (sM 49 [(0,.sl 3 false (lH l)),(1,int a),(2,.fn (Fn.func 389) [] [.ptr 0 0]),(8,int ↑l.length),(9,int (U8 i j+1)),(10,int ↑j)] [.box [iL 381]]) ex s')/\((¬c x2<0)->Rq 1 388 0 (sM 49 [(0,.sl 3 false (lH l)),(1,int a),(2,.fn (Fn.func 389) [] [.ptr 0 0]),(8,int ↑l.length),(9,int ↑i),(10,int (U8 i j))] [.box [iL 381]]) ex s'))))/\((¬(i:Int)<(j:Int))->(bF.exit 0=ex)/\(sM 49 [(0,.sl 3 false (lH l)),(1,int a),(2,.fn (Fn.func 389) [] [.ptr 0 0]),(8,int ↑l.length),(9,int ↑i)] [.box [iL 381]]=s')))):Rq 1 388 0 (tbS l a i j) ex s':=by
 by_cases c1:((i:Int)<(j:Int))
 .have h:=h.1 c1;obtain⟨x2,o3,h⟩:=h;have Av:=(@hC (x2));let l1:List fP:=[kt (qT c1),kW 20 ((i:Int)+(j:Int)) (↑(i+j):Int),kv 21 (show Am.aF (AV.lit (Value.int IntKind.u64 (IntKind.wrap IntKind.u64 (↑(i+j):Int)))) (AV.lit (Value.int IntKind.u64 (↑(i+j):Int)))from(aF.zf zO zO rfl)),ko (bC.elem (ze x2)),kp (show(0:Int)<=(1:Int)from zO),kp (show(0:Int)<=IntKind.wrap IntKind.i64 (Int.fdiv (↑(i+j):Int) (2^min (Int.toNat 1) (IntKind.bits IntKind.u64)))/\(lH l)[Int.toNat (IntKind.wrap IntKind.i64 (Int.fdiv (↑(i+j):Int) (2^min (Int.toNat 1) (IntKind.bits IntKind.u64))))]?=some (ze x2)from(qU o3)),kc [0] Av];by_cases c4:(c x2<0)
  .have h:=h.1 c4;exact aJ (l1++[kt (qT c4),kW 33 (IntKind.wrap IntKind.i64 (Int.fdiv (↑(i+j):Int) (2^min (Int.toNat 1) (IntKind.bits IntKind.u64)))+1) (U8 i j+1)]) (aB 49 [0,1,2,8,9,10]) 1 h
  .have h:=h.2 c4;exact aJ (l1++[kf (qF c4)]) (aB 49 [0,1,2,8,9,10]) 1 h
 .have h:=h.2 c1;obtain⟨eX,eS⟩:=h;exact bN.to ((aG [kf (qF c1)] (aB 49 [0,1,2,8,9]) 1)) eX (eB.of_eq eS)
theorem ai4(l:List TL)(a:Int)(p:Nat)(hp:¬(p:Int)<(l.length:Int))(hv:l.length<=1000000000)(hL:Rq 1 388 0 (tbS l a 0 l.length) (.exit 0) (tbX l a p))(h:True):ak P G 388 [mF l,int a,plF] [J3] (aS.ret (AV.bq [int ↑p,Am.bool false])) [J3]:=by
 exact aj [kN 13 (dP l),kl (rG [(3,5),(11,38)]) 1 hL,kj ((p:Int)<l.length)]
theorem ai5(l:List TL)(a:Int)(p:Nat)(c:TL->Int)(hp:(p:Int)<(l.length:Int))(hv:l.length<=1000000000)(hC:∀f:TL,ak P G 389 [.agg (ze f),int a,.ptr 0 0] [J3] (.ret (int (c f))) [J3])(hL:Rq 1 388 0 (tbS l a 0 l.length) (.exit 0) (tbX l a p))(r:Bool)(h:(∃x2:TL,(l[p]?=some x2)/\(c x2==0)=(r))):ak P G 388 [mF l,int a,plF] [J3] (aS.ret (AV.bq [int ↑p,Am.bool r])) [J3]:=by
 obtain⟨x2,o3,h⟩:=h;have e1:=h;exact ak.out ((show ak P G 388 [mF l,int a,plF] [J3] (aS.ret (AV.bq [int ↑p,Am.bool (c x2==0)])) [ah.box [iL 381]]from aj [kN 13 (dP l),kl (rG [(3,5),(11,38)]) 1 hL,ki ((p:Int)<l.length),ke (ze x2) (lH l) p (bG o3),kc [0] (@hC (x2))])) (aF.iM ⟨aF.refl _,(aF.aI e1),yO⟩)
theorem ab8(l:List TL)(a:Int)(c:TL->Int)(hv:l.length<=1000000000)(hs:TH c l)(hC:∀f:TL,ak P G 389 [.agg (ze f),int a,.ptr 0 0] [J3] (.ret (int (c f))) [J3]):∀n i j,j-i<=n->i<=nQ c l->nQ c l<=j->j<=l.length->Rq 1 388 0 (tbS l a i j) (.exit 0) (tbX l a (nQ c l)):=by
 intro n;have he:∀i j,i<=nQ c l->nQ c l<=j->¬i<j->Rq 1 388 0 (tbS l a i j) (.exit 0) (tbX l a (nQ c l)):=fun i j h1 h2 wQ=>by
  have:=amN l a i j zO trivial;rwa[show i=nQ c l by omega]at this |-
 induction n with
 |zero=>intro i j hn h1 h2 h3;exact he i j h1 h2 zO
 |succ n ih =>
  intro i j hn h1 h2 h3;by_cases wQ:i<j
  .have hm:=Ye (i:=i) (j:=j) zO;refine amO l a i j ((i+j)/2) c h3 hv hm hm zO hC _ _ ⟨fun _=>?_,fun h=>absurd zO h⟩;have bg:(i+j)/2<l.length:=zO
   refine⟨l[(i+j)/2],?_,fun hq=>?_,fun hq=>?_⟩
   .grind [Int.toNat_natCast,yA]
   .have:=(hs _ bg).1 hq;have nx:=ih ((i+j)/2+1) j zO zO h2 h3;rw[hm];exact nx
   .have:¬(i+j)/2<nQ c l:=fun h=>hq ((hs _ bg).2 h);have nx:=ih i ((i+j)/2) zO h1 zO zO;rw[hm];exact nx
  .exact he i j h1 h2 wQ
theorem ab9(l:List TL)(a:Int)(c:TL->Int)(hv:l.length<=1000000000)(hs:TH c l)(hC:∀f:TL,ak P G 389 [.agg (ze f),int a,.ptr 0 0] [J3] (.ret (int (c f))) [J3]) :
 ak P G 388 [mF l,int a,plF] [J3] (.ret (.bq [int (nQ c l),Am.bool ((l[nQ c l]?).any fun f=>c f==0)])) [J3]:=by
 have hp:=Mk c l;have hL:=ab8 l a c hv hs hC _ 0 l.length yM zO hp zO;rcases Nat.lt_or_ge (nQ c l) l.length with h|h
 .rw [yA h];exact ai5 l a _ c zO hv hC hL _ ⟨l[nQ c l],yA h,rfl⟩
 .rw [getElem?_eq_none h];exact ai4 l a _ zO hv hL trivial
theorem ai6(l:List TL)(a:Int)(p:Nat)(r:Bool)(hB:ak P G 388 [mF l,int a,plF] [J3] (.ret (.bq [int p,Am.bool r])) [J3])(h:True):Cq 380 [mF l,int a,gP 381] (.bq [int ↑p,Am.bool r]):=by
 exact aj [kc [0] hB]
theorem ai7(v:List TL)(hv:v.length<=1000000000)(fF:¬lH v=[])(h:True):ak P G 118 [mF v] [] (aS.ret (AV.aU 0 0 0 v.length)) [ah.aN 0 3 false (lH v)]:=by
 exact aj [kp (show lH v≠[]from zO),kY,kv 7 (show Am.aF (AV.aU 0 0 0 (0+length (lH v))) (AV.aU 0 0 0 v.length)from(aF.of_eq (by simp[dP,pW,sQ]))),kp fF,vV ((0+length (lH v))*24) (by simp only[yD,yE,length_nil,length_map,dP,pW,sQ]<;>omega)]
theorem ai8(n:Nat)(h:aF (aK) (AV.sl 3 true [])):Cq 118 [.lit (Value.slice none 0 n)] (.sl 3 true []):=by
 have e1:=h;exact ak.out ((aj [kO])) e1
theorem ai9(a:Addr)(n:Nat)(h:True):Cq 118 [.lit (Value.slice (some a) 0 n)] (.sl 3 true []):=by
 exact aj [kY,ko (bC.LV),kp (Am.C8)]
theorem aja(l:List TL)(g:Nat)(b:TL)(hl:l.length<=1000000)(out:aS)(H':List ah)(h:(aS.ret (AV.aU 0 (g+1) 0 (length l+1))=out)/\([ah.aN (g+1) 3 false (lH l++[[int b.1,int (Prod.fst b.2),int (Prod.snd b.2)]])]=H')):ak P G 382 [.aU 0 g 0 l.length,int ↑l.length,.sl 3 false [ze b]] [ah.aN g 3 false (lH l)] out H':=by
 have bS:g=g:=(rfl);obtain⟨e1,eH⟩:=h;exact ak.heap (e1▸((aj [kp bS,Ga (l.length:Int) (l.length:Int) (l.length:Int),kY,kp bS,kt (show((l.length:Int)==(l.length:Int))=true from(qT zO)),kp bS,kp (dP l).symm,vV ((length l+1)*24)]))) eH
theorem ajb(b:TL)(out:aS)(H':List ah)(h:(aS.ret (AV.aU 0 0 0 1)=out)/\([ah.aN 0 3 false [[int b.1,int (Prod.fst b.2),int (Prod.snd b.2)]]]=H')):ak P G 382 [.sl 3 true [],int 0,.sl 3 false [ze b]] [] out H':=by
 obtain⟨e1,eH⟩:=h;exact ak.heap (e1▸((aj [Ga (0:Int) (0:Int) (0:Int),kY,kO,Qx [int b.1,int (Prod.fst b.2),int (Prod.snd b.2)],vV 24]))) eH
theorem ajc(l:List TL)(d s n e:Int)(he:e≠0)(hK:Cq 102 [mF l] (int e))(h:True):Cq 366 [mF l,eG (d,s),int n] (.bq [aK,int e]):=by
 exact aj [kc [] hK,kt (yJ Bool.not (qF zO))]
theorem ajd(l:List TL)(d s n:Int)(hK:Cq 102 [mF l] (int 0))(hW:Cq 201 [int d,int s] (Am.bool false))(out:aS)(H':List ah)(h:(aS.ret (AV.bq [aK,int 150])=out)/\([]=H')):ak P G 366 [mF l,eG (d,s),int n] [] out H':=by
 obtain⟨e1,eH⟩:=h;exact ak.heap (e1▸((aj [kc [] hK,kY,kc [] hW,kO]))) eH
theorem aje(l r:List TL)(d s n:Int)(p:Nat)(hl:l.length<=1000000)(hr:r.length<=1000001)(hp:p<=l.length)(hK:Cq 102 [mF l] (int 0))(hW:Cq 201 [int d,int s] (Am.bool true))(hP:Cq 380 [mF l,int d,gP 381] (.bq [int p,Am.bool false]))(hC:ak P G 118 [mF l] [] (.ret (.aU 0 0 0 l.length)) [.aN 0 3 false (lH l)])(hI:ak P G 382 [.aU 0 0 0 l.length,int p,.sl 3 true [[int d,int s,int n]]] [.aN 0 3 false (lH l)] (.ret (.aU 0 1 0 r.length)) [.aN 1 3 false (lH r)])(out:aS)(H':List ah)(h:(aS.ret (AV.bq [AV.aU 1 1 0 r.length,int 0])=out)/\([ah.box [int d,int s],ah.aN 1 3 false (lH r)]=H')):ak P G 366 [mF l,eG (d,s),int n] [] out H':=by
 have Av:∀(x:List AV),x∈lH l->AV.aM [] x=true:=(pW _);obtain⟨e1,eH⟩:=h;exact ak.heap (e1▸((aj [kc [] hK,kY,kc [] hW,kY,kc [] hP,kc [] hC,kp Av,kO,kc [1] hI,kp (pW r),kp Av]))) eH
theorem ajf(l r:List TL)(d s n:Int)(hK:Cq 102 [mF l] (int 0))(hW:Cq 201 [int d,int s] (Am.bool true))(hP:Cq 380 [mF l,int d,gP 381] (.bq [int 0,Am.bool false]))(hC:Cq 118 [mF l] (.sl 3 true []))(hI:ak P G 382 [.sl 3 true [],int 0,.sl 3 true [[int d,int s,int n]]] [] (.ret (.aU 0 0 0 1)) [.aN 0 3 false (lH r)])(out:aS)(H':List ah)(h:(aS.ret (AV.bq [AV.aU 1 0 0 1,int 0])=out)/\([ah.box [int d,int s],ah.aN 0 3 false (lH r)]=H')):ak P G 366 [mF l,eG (d,s),int n] [] out H':=by
 obtain⟨e1,eH⟩:=h;exact ak.heap (e1▸((aj [kc [] hK,kY,kc [] hW,kY,kc [] hP,kc [] hC,kO,kc [] hI,kp (pW r)]))) eH
theorem ajg(l:List TL)(d s n:Int)(p:Nat)(t:TL)(hl:l.length<=1000000)(hp:(p:Int)<(l.length:Int))(ht:l[0+p]?=some t)(hs:t.2.1>=s)(hK:Cq 102 [mF l] (int 0))(hW:Cq 201 [int d,int s] (Am.bool true))(hP:Cq 380 [mF l,int d,gP 381] (.bq [int p,Am.bool true]))(hC:ak P G 118 [mF l] [] (.ret (.aU 0 0 0 l.length)) [.aN 0 3 false (lH l)])(out:aS)(H':List ah)(h:(aS.ret (AV.bq [aK,int 182])=out)/\([]=H')):ak P G 366 [mF l,eG (d,s),int n] [] out H':=by
 have qj:0=0:=(rfl);obtain⟨e1,eH⟩:=h;exact ak.heap (e1▸((aj [kc [] hK,kY,kc [] hW,kY,kc [] hP,kc [] hC,kp (pW l),kY,ko (bC.elem (ze t)),kp qj,kR (p:Int) (l.length:Int),kp qj,kp qj,kp (show(lH l)[0+Int.toNat (p:Int)]?=some (ze t)from(iN ht)),ki (Prod.fst t.2>=s)]))) eH
theorem ajh(l:List TL)(d s n:Int)(p:Nat)(t:TL)(hl:l.length<=1000000)(hp:(p:Int)<(l.length:Int))(ht:l[0+p]?=some t)(hz:(List.set (lH l) (0+p) [int t.1,int s,int t.2.2])[0+p]?=some [int t.1,int s,int t.2.2])(hs:¬t.2.1>=s)(hK:Cq 102 [mF l] (int 0))(hW:Cq 201 [int d,int s] (Am.bool true))(hP:Cq 380 [mF l,int d,gP 381] (.bq [int p,Am.bool true]))(hC:ak P G 118 [mF l] [] (.ret (.aU 0 0 0 l.length)) [.aN 0 3 false (lH l)])(out:aS)(H':List ah)(h:(aS.ret (AV.bq [AV.aU 1 0 0 l.length,int 0])=out)/\([ah.box [int d,int s],ah.aN 0 3 false (List.set (List.set (lH l) (0+Int.toNat (p:Int)) [int t.1,int s,int (Prod.snd t.2)]) (0+Int.toNat (p:Int)) [int t.1,int s,int (IntKind.wrap IntKind.i64 (Prod.snd t.2+n))])]=H')):ak P G 366 [mF l,eG (d,s),int n] [] out H':=by
 have qj:0=0:=(rfl);have OG:(0:Int)<=(p:Int)/\(p:Int)<(l.length:Int):=zO;have H6:(lH l)[0+Int.toNat (p:Int)]?=some (ze t):=(iN ht);obtain⟨e1,eH⟩:=h;exact ak.heap (e1▸((aj [kc [] hK,kY,kc [] hW,kY,kc [] hP,kc [] hC,kp (pW l),kY,ko (bC.elem (ze t)),kp qj,kp OG,kp qj,kp qj,kp H6,kj (Prod.fst t.2>=s),ko (bC.elem (ze t)),ko (bC.elem [int t.1,int s,int (Prod.snd t.2)]),ko (bC.elem [int t.1,int s,int (Prod.snd t.2)]),kp qj,kp OG,kp qj,kp qj,kp H6,kp qj,kp OG,kp qj,kp qj,kp hz,kp qj,kp OG,kp qj,kp qj,kp hz]))) eH
abbrev Gb(f:FD):Tx.TE:=⟨f.tc,f.tm⟩
def MB(f:FD)(r:Tx.TE×Int):FD:=if r.2=0 then{ f with tc:=r.1.cells,tm:=r.1.bQ }else f
def mkO(o:bV.OP):Tx.MK:=⟨o.dv,o.sq,o.tm,o.f1,o.f2,o.f3,o.t1,o.t2,o.t3,o.n,o.on⟩
def ef6(o:bV.OP)(f:FD):FD:=MB f (Tx.Ve (Gb f) o.dv o.sq o.tm (o.f1,o.f2,o.f3) o.vl)
def ef7(o:bV.OP)(f:FD):FD:=MB f (Tx.Vg (Gb f) (o.f1,o.f2,o.f3) o.n)
def ef8(o:bV.OP)(f:FD):FD:=MB f (Tx.Vk (Gb f) (mkO o))
theorem ajx{o:bV.OP}{f:FD}(ho:bV.Fw o)(hr:Q0 f):EfC 368 o (ef6 o) f:=fun l g i h e=>by
 subst e;have k:=ajy l i g l[i] h (yA h) o _ _ _ (Tx.afL (Gb l[i]) o.dv o.sq o.tm o.f1 o.f2 o.f3 o.vl hr.lt hr.tx ho.dv ho.sq ho.f1 ho.f2 ho.f3);rw[za h]at k;exact⟨_,k⟩
theorem ajz{o:bV.OP}{f:FD}(hr:Q0 f):EfC 371 o (ef7 o) f:=fun l g i h e=>by
 subst e;have k:=ajA l i g l[i] h (yA h) o _ _ _ (Tx.ajv (Gb l[i]) o.f1 o.f2 o.f3 o.n hr.lt hr.tx);rw[za h]at k;exact⟨_,k⟩
theorem ajB{o:bV.OP}{f:FD}(hr:Q0 f):EfC 373 o (ef8 o) f:=fun l g i h e=>by
 subst e;have k:=ajC l i g l[i] h (yA h) o _ _ _ (Tx.ajw (Gb l[i]) (mkO o) hr.lt hr.tx);rw[za h]at k;exact⟨_,k⟩
end Go.Dc
namespace Go.Am
open Go
theorem ak.Yt{P:Program}{G:Nat->Option (List AV)}{f:FuncId}{args:List AV}{H H' H1:List ah}{xs ys:List AV}{z:List (List AV)}{ps:List Prop}(h:ak P G f args H (.ret (.bq xs)) H')(ha:vZ H' xs z=some (ys,H1,ps))(dG:gZ ps):ak P G f args H (.ret (.bq ys)) H1 :=
 fun V vs hH hG hr=>(h V vs hH hG hr).mono fun e w' he=>by
  obtain⟨V',rfl,k2,k3,k4,k5⟩:=he;cases e with
  |returned v =>
   obtain⟨us,rfl,hu⟩:=GI k5;obtain⟨V1,l1,l2,l3,l4,l5⟩:=nY (by rw[k4];exact ha) dG k3 hu;exact⟨V1,l1,k2.trans l3,l4,l2,.bq ys us l5.1 l5.2⟩
  |panicked _=>exact k5.elim
  |outgrown=>exact k5.elim
end Go.Am
namespace Go.Dc
open Go Go.Am Go.Proofs Go.eY Go.bH
def cD(d:Int)(t:TL):Int:=bV.gJ t.1 d
theorem ajD(d:Int)(t:TL):cD d t<0↔t.1<d:=by
 unfold cD bV.gJ;split
 .omega
 .omega
theorem Yq:∀{l:List TL}{x:Int},Xg x l=true->∀t∈l,x<t.1
 |[],_,_,_,h=>by cases h
 |u::l,x,hk,t,h=>by
  simp only[Xg,Bool.and_eq_true,decide_eq_true_eq]at hk;rcases yH.1 h with rfl|h
  .exact hk.1.2
  .have:=Yq hk.2 t h;omega
theorem OI(d:Int):∀{l:List TL}{x:Int},Xg x l=true->TH (cD d) l
 |[],_,_=>fun m h=>absurd h (Nat.not_lt_zero m)
 |u::l,x,hk=>by
  simp only[Xg,Bool.and_eq_true,decide_eq_true_eq]at hk;have ih:=OI d hk.2;intro m h;unfold nQ;by_cases hu:cD d u<0
  .rw [takeWhile_cons_of_pos (by simpa using hu)];cases m with
   |zero=>exact⟨fun _=>zS,fun _=>hu⟩
   |succ m =>
    have:=ih m (by simpa using h);simp only[getElem_cons_succ,yE,Nat.add_lt_add_iff_right];exact this
  .rw [takeWhile_cons_of_neg (by simpa using hu)];refine⟨fun h'=>?_,fun h'=>absurd h' (Nat.not_lt_zero m)⟩;refine absurd h' ?_;cases m with
   |zero=>exact hu
   |succ m =>
    have hm:m<l.length:=by simpa using h
    have:=Yq hk.2 _ (getElem_mem hm);rw[ajD]at hu |-;simp only[getElem_cons_succ];omega
theorem Yr(l:List TL)(d:Int)(hl:l.length<=1000000)(hs:TH (cD d) l):Cq 380 [mF l,int d,gP 381] (.bq [int (nQ (cD d) l),Am.bool ((l[nQ (cD d) l]?).any fun f=>cD d f==0)]) :=
 ai6 l d _ _ (ab9 l d (cD d) zO hs fun t=>ai3 t d _ (ai2 t yO) (bV.wZ t.1 d) yO) trivial
theorem afM:Cq 118 [mF []] (.sl 3 true []):=ak.wY (fun cap=>ai8 cap (aF.aed 3)) fun a cap=>ai9 a cap trivial
theorem TM(d s n:Int):aF (.sl 3 true [[int d,int s,int n]]) (.sl 3 false [ze (d,s,n)]):=aF.oP 3 true _
theorem afN(l:List TL)(g p:Nat)(d s n:Int)(hp:p<=l.length)(hl:l.length<=1000000):ak P G 382 [.aU 0 g 0 l.length,int p,.sl 3 true [[int d,int s,int n]]] [.aN g 3 false (lH l)] (.ret (.aU 0 (g+1) 0 (l.take p++[(d,s,n)]++l.drop p).length)) [.aN (g+1) 3 false (lH (l.take p++[(d,s,n)]++l.drop p))]:=by
 have main:ak P G 382 [.aU 0 g 0 l.length,int p,.sl 3 false [ze (d,s,n)]] [.aN g 3 false (lH l)] (.ret (.aU 0 (g+1) 0 (l.take p++[(d,s,n)]++l.drop p).length)) [.aN (g+1) 3 false (lH (l.take p++[(d,s,n)]++l.drop p))]:=by
  rcases Nat.lt_or_ge p l.length with h|h
  .have k:=Go.Dt.uL (lH l) (ze (d,s,n)) g p rfl (by rw[dP];exact h) (by rw[dP];omega);have e:(lH l).take p++[ze (d,s,n)]++(lH l).drop p=lH (l.take p++[(d,s,n)]++l.drop p):=by simp[lH]
   rw[e,dP,dP]at k;exact k
  .obtain rfl:p=l.length:=zO
   rw[take_length,drop_length,append_nil];exact aja l g (d,s,n) hl _ _ ⟨zS,by simp[lH,ze]⟩
 exact ak.qp main ⟨aF.refl _,aF.refl _,TM d s n,yO⟩
theorem afO(d s n:Int):ak P G 382 [.sl 3 true [],int 0,.sl 3 true [[int d,int s,int n]]] [] (.ret (.aU 0 0 0 1)) [.aN 0 3 false (lH [(d,s,n)])] :=
 ak.qp (ajb (d,s,n) _ _ ⟨rfl,rfl⟩) ⟨aF.refl _,aF.refl _,TM d s n,yO⟩
theorem MC{l r:List TL}{d s n:Int}{g k:Nat}{a:ah}(hk:k=r.length)(h:ak P G 366 [mF l,eG (d,s),int n] [] (.ret (.bq [.aU 1 g 0 k,int 0])) [a,.aN g 3 false (lH r)]):Cq 366 [mF l,eG (d,s),int n] (.bq [mF r,int 0]):=by
 subst hk;exact(h.Yt (z:=lH r) (ys:=[mF r,int 0]) (H1:=[a,.aN g 3 true (lH r)]) (ps:=[g=g,List.take r.length (List.drop 0 (lH r))=lH r,(lH r).length=r.length,∀c∈lH r,c.all AV.fJ=true]) rfl ⟨rfl,by rw[drop_zero,take_of_length_le (by rw[dP];exact Nat.le_refl _)],dP r,sQ r,yO⟩).BM (H3:=[]) (qs:=[]) rfl trivial
def OJ(l:List TL)(d s n:Int):List TL×Int :=
 if Xg (-1) l=true then
  if Tf d s=true then
   if(l[nQ (cD d) l]?).any (fun f=>cD d f==0)=true then
    if(l.getD (nQ (cD d) l) (0,0,0)).2.1>=s then([],182)else(l.set (nQ (cD d) l) ((l.getD (nQ (cD d) l) (0,0,0)).1,s,IntKind.wrap IntKind.i64 ((l.getD (nQ (cD d) l) (0,0,0)).2.2+n)),0)
   else(l.take (nQ (cD d) l)++[(d,s,n)]++l.drop (nQ (cD d) l),0)
  else([],150)
 else([],150)
theorem afP(l:List TL)(d s n:Int)(hl:l.length<=1000000):Cq 366 [mF l,eG (d,s),int n] (.bq [mF (OJ l d s n).1,int (OJ l d s n).2]):=by
 have hK:=OA l hl;have hW:=OL d s;unfold OJ;unfold vC at hK;by_cases hk:Xg (-1) l=true
 .rw [yL hk]at hK |-;by_cases hw:Tf d s=true
  .rw [yL hw];rw[hw]at hW;have hP:=Yr l d hl (OI d hk);have Yu:=Mk (cD d) l;by_cases hz:l=[]
   .subst hz;exact MC (r:=[(d,s,n)]) rfl (ajf [] [(d,s,n)] d s n hK hW hP afM (afO d s n) _ _ ⟨rfl,rfl⟩)
   .have hC:=ai7 l zO (fun h=>hz (by simpa[lH]using h)) trivial;cases hb:(l[nQ (cD d) l]?).any (fun f=>cD d f==0)with
    |false =>
     rw[yK zD];rw[hb]at hP;have hI:=afN l 0 (nQ (cD d) l) d s n Yu hl;exact MC rfl (aje l _ d s n _ hl (by simp;omega) Yu hK hW hP hC hI _ _ ⟨rfl,rfl⟩)
    |true =>
     rw[yL rfl];rw[hb]at hP;have bg:nQ (cD d) l<l.length:=by grind
     have ht:l[0+nQ (cD d) l]?=some (l.getD (nQ (cD d) l) (0,0,0)):=by
      rw[Nat.zero_add,yB,yA bg,Option.getD_some]
     generalize l.getD (nQ (cD d) l) (0,0,0)=t at ht |-;by_cases hs:t.2.1>=s
     .rw [yL hs];exact ak.out (ajg l d s n _ t hl zO ht hs hK hW hP hC _ _ ⟨rfl,rfl⟩) (aF.U1 (aF.nil 3) (aF.refl _))
     .rw [yK hs];refine MC (g:=0) (k:=l.length) (a:=.box [int d,int s]) (by rw[length_set]) (ajh l d s n _ t hl zO ht ?_ hs hK hW hP hC _ _ ⟨rfl,?_⟩)
      .rw [Nat.zero_add,getElem?_set_self (by rw[dP];exact bg)]
      .rw [Int.toNat_natCast,Nat.zero_add,set_set];simp[lH,ze,map_set]
  .rw [yK hw];rw[Bool.eq_false_iff.2 hw]at hW;exact ak.out (ajd l d s n hK hW _ _ ⟨rfl,rfl⟩) (aF.U1 (aF.nil 3) (aF.refl _))
 .rw [yK hk]at hK |-;exact ak.out (ajc l d s n 150 zD hK yO) (aF.U1 (aF.nil 3) (aF.refl _))
def ef5(o:bV.OP)(f:FD):FD:=if(OJ f.ta o.dv o.sq o.n).2=0 then{ f with ta:=(OJ f.ta o.dv o.sq o.n).1 }else f
theorem ajE{o:bV.OP}{f:FD}(hl:f.ta.length<=1000000):EfC 365 o (ef5 o) f:=fun l g i h e=>by
 subst e;have k:=ajF l i g l[i] h (yA h) o _ _ (afP l[i].ta o.dv o.sq o.n hl);rw[za h]at k;exact⟨_,k⟩
def cO(o:bV.OP)(f:FD):Int:=U7 f.pk o.pk f.pn o.pn
theorem uN{F:Nat}(K:Yv F){d:DO}{o:bV.OP}{v:List D}(f:Fit d o v)(hd:Dim d)(hs:Rc (cO o) d.fs)(hM:mgA o F)(ef:FD->FD)(hE:∀x,x∈d.fs\/x=Fx o->EfC F o ef x) :
 Cq 12 [kI d,bV.op o] (.bq [kI ⟨v,Ig (cO o) ef o d.fs⟩,int 0]) :=
 Yw K f (cO o) ef hM hs (fun x=>amY x o.pk o.pn) (amZ o.pk o.pn) (fun x hx=>XY x (hd.len x hx)) fun _ g i h hx=>hE _ hx _ g i h rfl
def Gc(o:bV.OP):FD->FD :=
 if o.kd=1 then ef1 o else if o.kd=2 then ef2 o else if o.kd=3 then ef3 o else if o.kd=4 then ef4 o else if o.kd=5 then ef5 o else if o.kd=6 then ef6 o else if o.kd=7 then ef7 o else ef8 o
theorem Yx(o:bV.OP):Q0 (Fx o):=⟨(fun _ h=>by cases h),⟨(fun _ h=>by cases h),(fun _ h=>by cases h)⟩,⟨Nat.zero_le _,Nat.zero_le _⟩⟩
theorem OM{a b c:Int}{s t u:yP}(h1:U7 a b s t<0)(h2:U7 b c t u<0):U7 a c s u<0:=by
 rw[ajG]at *;rcases h1 with h1|⟨rfl,h1⟩
 .rcases h2 with h2|⟨rfl,h2⟩
  .exact .inl zO
  .exact .inl h1
 .rcases h2 with h2|⟨rfl,h2⟩
  .exact .inl h2
  .exact .inr ⟨rfl,Bd.KG h1 h2⟩
theorem Yy{v:List D}:∀{l:List FD}{g:FD},Xe v (some g) l=true->∀x∈l,U7 g.pk x.pk g.pn x.pn<0
 |[],_,_,_,h=>by cases h
 |u::l,g,hk,x,h=>by
  simp only[Xe,Bool.and_eq_true,decide_eq_true_eq]at hk;rcases yH.1 h with rfl|h
  .exact hk.1.2
  .exact OM hk.1.2 (Yy hk.2 x h)
theorem OO{v:List D}:∀{l:List FD}{q:Option FD},Xe v q l=true->l.Pairwise fun x y=>U7 x.pk y.pk x.pn y.pn<0
 |[],_,_=>Pairwise.nil
 |u::l,q,hk=>by
  simp only[Xe,Bool.and_eq_true]at hk;exact Pairwise.cons (Yy hk.2) (OO hk.2)
theorem Yz{v:List D}{l:List FD}{q:Option FD}(o:bV.OP)(h:Xe v q l=true):Rc (cO o) l:=TN ((OO h).imp fun h1 h2=>OM h1 h2)
theorem ach{d:DO}{o:bV.OP}{v:List D}(f:Fit d o v)(hd:Dim d)(hs:Rc (cO o) d.fs)(ho:bV.Fw o)(hc:o.cx.length<=1000000)(hk:1<=o.kd/\o.kd<=8)(hl:∀x∈d.fs,x.ce.length<=999999) :
 Cq 12 [kI d,bV.op o] (.bq [kI ⟨v,Ig (cO o) (Gc o) o d.fs⟩,int 0]):=by
 have hr:∀x,x∈d.fs\/x=Fx o->Q0 x:=fun x hx=>hx.elim (hd.iV x) fun e=>e▸Yx o;have hn:∀x,x∈d.fs\/x=Fx o->XW x:=fun x hx=>hx.elim (hd.len x) fun e=>e▸⟨Nat.zero_le _,Nat.zero_le _,Nat.zero_le _,Nat.zero_le _,Nat.zero_le _⟩;have hq:∀x,x∈d.fs\/x=Fx o->x.ce.length<=999999:=fun x hx=>hx.elim (hl x) fun e=>e▸Nat.zero_le _;have y8:o.kd=1\/o.kd=2\/o.kd=3\/o.kd=4\/o.kd=5\/o.kd=6\/o.kd=7\/o.kd=8:=zO
 have hg:∀{F:Nat}{k:Int},o.kd=k->bT P 3 oK (.int .i64 k) zE (.agg [gP F]) true->mgA o F:=fun e h=>by unfold mgA;rw[e];exact h
 rcases y8 with e|e|e|e|e|e|e|e
 .rw [show Gc o=ef1 o by simp[Gc,e]];exact uN am0 f hd hs (hg e eg1) (ef1 o) fun x hx=>aiU ho (hq x hx) (hr x hx).ce
 .rw [show Gc o=ef2 o by simp[Gc,e]];exact uN am1 f hd hs (hg e eg2) (ef2 o) fun x hx=>aiW (hn x hx).ce (hr x hx).ce
 .rw [show Gc o=ef3 o by simp[Gc,e]];exact uN am2 f hd hs (hg e eg3) (ef3 o) fun x hx=>aiY hc f.s1 f.s2 (hn x hx).bi
 .rw [show Gc o=ef4 o by simp[Gc,e]];exact uN am3 f hd hs (hg e eg4) (ef4 o) fun x hx=>ai0 hc f.s1 f.s2 (hn x hx).bi
 .rw [show Gc o=ef5 o by simp[Gc,e]];exact uN am4 f hd hs (hg e eg5) (ef5 o) fun x hx=>ajE (hn x hx).ta
 .rw [show Gc o=ef6 o by simp[Gc,e]];exact uN am5 f hd hs (hg e eg6) (ef6 o) fun x hx=>ajx ho (hr x hx)
 .rw [show Gc o=ef7 o by simp[Gc,e]];exact uN am6 f hd hs (hg e eg7) (ef7 o) fun x hx=>ajz (hr x hx)
 .rw [show Gc o=ef8 o by simp[Gc,e]];exact uN am7 f hd hs (hg e eg8) (ef8 o) fun x hx=>ajB (hr x hx)
def EF(d:DO)(o:bV.OP):Int :=
 if F9 d=0 then
  if bV.lM o=0 then
   if cZ d.sn (o.dv,o.sq)=true then 182
   else if gI o.dv d.sn=o.sq-1 then(if(o.cx.any fun x=>!cZ d.sn x)=true then 181 else 0)else 181
  else bV.lM o
 else F9 d
def afQ(d:DO)(o:bV.OP):DO:=⟨uK d.sn [(o.dv,o.sq)],Ig (cO o) (Gc o) o d.fs⟩
theorem TP{d:DO}(h:F9 d=0):Cw d.sn=true/\Xe d.sn none d.fs=true:=by
 unfold F9 at h;by_cases e:Cw d.sn=true/\Xe d.sn none d.fs=true
 .exact e
 .rw [yK e]at h;exact absurd h zD
theorem aci{o:bV.OP}(h:bV.lM o=0):bV.rM o=true:=by
 unfold bV.lM at h;by_cases e:bV.rM o=true
 .exact e
 .simp [e]at h
theorem Ih{o:bV.OP}(h:bV.lM o=0):gQ (o.dv,o.sq)=true/\1<=o.kd/\o.kd<=8:=by
 have:=aci h;simp only[bV.rM,bV.qW,Bool.and_eq_true,decide_eq_true_eq]at this;exact⟨this.1.1.1.1.1.1.1,this.1.1.2,this.1.2⟩
theorem YA{d:DO}{o:bV.OP}(hd:Dim d)(hn:bV.Okn o)(hc:o.cx.length<=1000000)(hq:bV.lM o=0->1<=o.sq/\o.sq<=1048576)(h:EF d o≠0) :
 Cq 12 [kI d,bV.op o] (.bq [Rf,int (EF d o)]):=by
 have hK:=fG d hd;have hO:=bV.fG o hn;have hV:=bH.jX d.sn o.dv o.sq (by have:=hd.sn;omega);have hA:=bH.acj d.sn o.dv (by have:=hd.sn;omega);have hF:=aee o.cx d hc (by have:=hd.sn;omega);unfold EF at h |-;by_cases h1:F9 d=0
 .rw [yL h1]at h |-;rw[h1]at hK;by_cases h2:bV.lM o=0
  .rw [yL h2]at h |-;rw[h2]at hO;by_cases h3:cZ d.sn (o.dv,o.sq)=true
   .rw [yL h3];rw[h3]at hV;exact am8 d o hK hO hV _ rfl
   .rw [yK h3]at h |-;rw[Bool.eq_false_iff.2 h3]at hV;by_cases h4:gI o.dv d.sn=o.sq-1
    .rw [yL h4]at h |-;by_cases h5:(o.cx.any fun x=>!cZ d.sn x)=true
     .rw [yL h5];rw[h5]at hF;exact am9 d o _ (hq h2).1 (hq h2).2 h4 hK hO hV hA hF _ rfl
     .rw [yK h5]at h;exact absurd rfl h
    .rw [yK h4];exact ana d o _ (hq h2).1 (hq h2).2 h4 hK hO hV hA _ rfl
  .rw [yK h2];exact anb d o _ h2 hK hO trivial
 .rw [yK h1];exact anc d o _ h1 hK trivial
theorem YB{d:DO}{o:bV.OP}(hd:Dim d)(hn:bV.Okn o)(ho:bV.Fw o)(hc:o.cx.length<=1000000)(hl:∀x∈d.fs,x.ce.length<=999999)(hq:1<=o.sq/\o.sq<=1048576)(hw:fM d.sn [(o.dv,o.sq)]=0)(h:EF d o=0) :
 Cq 12 [kI d,bV.op o] (.bq [kI (afQ d o),int 0]):=by
 have hK:=fG d hd;have hO:=bV.fG o hn;have hV:=bH.jX d.sn o.dv o.sq (by have:=hd.sn;omega);have hA:=bH.acj d.sn o.dv (by have:=hd.sn;omega);have hF:=aee o.cx d hc (by have:=hd.sn;omega);have hW:=bH.Q6 d.sn o.dv o.sq (by have:=hd.sn;omega);unfold EF at h;by_cases h1:F9 d=0
 .rw [yL h1]at h;rw[h1]at hK;by_cases h2:bV.lM o=0
  .rw [yL h2]at h;rw[h2]at hO;by_cases h3:cZ d.sn (o.dv,o.sq)=true
   .grind
   .rw [yK h3]at h;rw[Bool.eq_false_iff.2 h3]at hV;by_cases h4:gI o.dv d.sn=o.sq-1
    .rw [yL h4]at h;rw[h4]at hA;by_cases h5:(o.cx.any fun x=>!cZ d.sn x)=true
     .rw [yL h5]at h;exact absurd h zD
     .rw [Bool.eq_false_iff.2 h5]at hF;rw[hw]at hW;exact ach ⟨hq.1,hq.2,hd.fs,hK,hO,hV,hA,hF,hW⟩ hd (Yz o (TP h1).2) ho hc (Ih h2).2 hl
    .rw [yK h4]at h;exact absurd h zD
  .rw [yK h2]at h;exact absurd h h2
 .rw [yK h1]at h;exact absurd h h1
theorem TQ{a b:Int}(h:gQ (a,b)=true):(0<=a/\a<512)/\1<=b/\b<=1048576:=by
 simp only[gQ,Bool.and_eq_true,decide_eq_true_eq]at h;omega
theorem YC{x:D}(h:gQ x=true):eZ [x]=0:=by
 unfold eZ Cw;simp[y9,jh,h]
theorem acn{v:List D}{x:D}(h:Cw v=true)(hx:gQ x=true):fM v [x]=0:=by
 unfold fM;rw[yL (by unfold eZ;rw[yL h])];exact YC hx
theorem Vl{d:DO}{o:bV.OP}(hd:Dim d)(hn:bV.Okn o)(ho:bV.Fw o)(hc:o.cx.length<=1000000)(hl:∀x∈d.fs,x.ce.length<=999999) :
 Cq 12 [kI d,bV.op o] (if EF d o=0 then .bq [kI (afQ d o),int 0]else .bq [Rf,int (EF d o)]):=by
 by_cases h:EF d o=0
 .rw [yL h];have h1:F9 d=0:=by
   by_cases e:F9 d=0
   .exact e
   .unfold EF at h;rw[yK e]at h;exact h
  have h2:bV.lM o=0:=by
   by_cases e:bV.lM o=0
   .exact e
   .unfold EF at h;rw[yL h1,yK e]at h;exact h
  have hq:=Ih h2;exact YB hd hn ho hc hl (TQ hq.1).2 (acn (TP h1).1 hq.1) h
 .rw [yK h];exact YA hd hn hc (fun h2=>(TQ (Ih h2).1).2) h
def Bn(d:DO)(o:bV.OP):DO:=if EF d o=0 then afQ d o else⟨[],[]⟩
theorem YD(l:List TL)(d s n:Int):(OJ l d s n).1.length<=l.length+1:=by
 unfold OJ;have:=Mk (cD d) l;split
 .split
  .split
   .split
    .simp
    .simp
   .simp;omega
  .simp
 .simp
theorem OQ{c:FD->Int}{ef:FD->FD}{o:bV.OP}{l:List FD}{x:FD}(h:x∈Ig c ef o l):x∈l\/∃y,(y∈l\/y=Fx o)/\x=ef y:=by
 unfold Ig at h;split at h
 .rename_i hb;have bg:rV c l<l.length:=by
   rcases Nat.lt_or_ge (rV c l) l.length with h|h
   .exact h
   .rw [getElem?_eq_none h]at hb;cases hb
  rcases mem_or_eq_of_mem_set h with h|h
  .exact .inl h
  .refine .inr ⟨_,.inl ?_,h⟩;rw[yB,yA bg,Option.getD_some];exact getElem_mem bg
 .simp only[yI,mem_singleton]at h;rcases h with(h|h)|h
  .exact .inl (mem_of_mem_take h)
  .exact .inr ⟨_,.inr rfl,h⟩
  .exact .inl (mem_of_mem_drop h)
theorem YE(c:FD->Int)(ef:FD->FD)(o:bV.OP)(l:List FD):(Ig c ef o l).length<=l.length+1:=by
 unfold Ig;have:=Rh c l;split
 .rw [length_set];omega
 .simp;omega
theorem VL(v:List Bd.BE)(c:List D)(k:yP):(Bd.CZ v c k).1.length<=v.length:=by
 unfold Bd.CZ;split
 .split
  .exact (Bd.zF v c k).length_le
  .exact Nat.zero_le _
 .exact Nat.zero_le _
theorem ZQ(v:List Bd.BE)(c:List D)(b:Bd.BE):(Bd.OB v c b).1.length<=v.length+1:=by
 unfold Bd.OB;split
 .split
  .split
   .have h:=(Bd.VJ b (Bd.rest v c b.ky)).length_eq;have:=(Bd.zF v c b.ky).length_le;simp only[yE]at h;show(Bd.VI b (Bd.rest v c b.ky)).length<=v.length+1;omega
   .exact Nat.zero_le _
  .exact Nat.zero_le _
 .exact Nat.zero_le _
structure yu(n:Nat)(f:FD):Prop where
 ce:f.ce.length<=n
 bi:f.bi.length<=n
 ta:f.ta.length<=n
theorem yu.mono{n m:Nat}{f:FD}(h:yu n f)(hm:n<=m):yu m f:=⟨by have:=h.ce;omega,by have:=h.bi;omega,by have:=h.ta;omega⟩
theorem acM{n:Nat}{o:bV.OP}{f:FD}(h:yu n f):yu (n+1) (ef1 o f):=by
 unfold ef1;split
 .exact ⟨by have:=Sq.Ib f.ce (KD o);have:=h.ce;show(Sq.rU f.ce (KD o)).length<=n+1;omega,by have:=h.bi;show f.bi.length<=n+1;omega,by have:=h.ta;show f.ta.length<=n+1;omega⟩
 .exact h.mono zO
theorem acN{n:Nat}{o:bV.OP}{f:FD}(h:yu n f):yu (n+1) (ef2 o f):=by
 unfold ef2;split
 .exact ⟨by have:=Sq.Yn f.ce o.f1 o.f2 o.f3;have:=h.ce;show(Sq.Ez f.ce o.f1 o.f2 o.f3).length<=n+1;omega,by have:=h.bi;show f.bi.length<=n+1;omega,by have:=h.ta;show f.ta.length<=n+1;omega⟩
 .exact h.mono zO
theorem acO{n:Nat}{o:bV.OP}{f:FD}(h:yu n f):yu (n+1) (ef3 o f):=by
 unfold ef3;split
 .exact ⟨by have:=h.ce;show f.ce.length<=n+1;omega,by have:=ZQ f.bi (Q5 o) ⟨o.ky,o.dv,o.sq,o.tm,o.vl⟩;have:=h.bi;show(Bd.OB f.bi (Q5 o) ⟨o.ky,o.dv,o.sq,o.tm,o.vl⟩).1.length<=n+1;omega,by have:=h.ta;show f.ta.length<=n+1;omega⟩
 .exact h.mono zO
theorem acP{n:Nat}{o:bV.OP}{f:FD}(h:yu n f):yu (n+1) (ef4 o f):=by
 unfold ef4;split
 .exact ⟨by have:=h.ce;show f.ce.length<=n+1;omega,by have:=VL f.bi (Q5 o) o.ky;have:=h.bi;show(Bd.CZ f.bi (Q5 o) o.ky).1.length<=n+1;omega,by have:=h.ta;show f.ta.length<=n+1;omega⟩
 .exact h.mono zO
theorem acQ{n:Nat}{o:bV.OP}{f:FD}(h:yu n f):yu (n+1) (ef5 o f):=by
 unfold ef5;split
 .exact ⟨by have:=h.ce;show f.ce.length<=n+1;omega,by have:=h.bi;show f.bi.length<=n+1;omega,by have:=YD f.ta o.dv o.sq o.n;have:=h.ta;show(OJ f.ta o.dv o.sq o.n).1.length<=n+1;omega⟩
 .exact h.mono zO
theorem I5{n:Nat}{f:FD}{r:Tx.TE×Int}(h:yu n f):yu n (MB f r):=by
 unfold MB;split
 .exact ⟨h.ce,h.bi,h.ta⟩
 .exact h
theorem acR{n:Nat}{o:bV.OP}{f:FD}(h:yu n f):yu (n+1) (Gc o f):=by
 unfold Gc;split
 .exact acM h
 split
 .exact acN h
 split
 .exact acO h
 split
 .exact acP h
 split
 .exact acQ h
 split
 .exact (I5 h).mono zO
 split
 .exact (I5 h).mono zO
 .exact (I5 h).mono zO
structure agA(n:Nat)(d:DO):Prop where
 fs:d.fs.length<=n
 all:∀f∈d.fs,yu n f
theorem VN{n:Nat}{d:DO}{o:bV.OP}(h:agA n d):agA (n+1) (Bn d o):=by
 unfold Bn;split
 .refine ⟨?_,fun f hf=>?_⟩
  .have:=YE (cO o) (Gc o) o d.fs;have:=h.fs;show(Ig (cO o) (Gc o) o d.fs).length<=n+1;omega
  .rcases OQ hf with hf|⟨y,hy,rfl⟩
   .exact (h.all f hf).mono zO
   .refine acR ?_;rcases hy with hy|rfl
    .exact h.all y hy
    .exact ⟨Nat.zero_le _,Nat.zero_le _,Nat.zero_le _⟩
 .exact ⟨Nat.zero_le _,fun f hf=>by cases hf⟩
theorem GA{l:List Sq.CE}{c:Sq.CE}(h:Sq.kQ l)(hc:Sq.Cu c):Sq.kQ (Sq.rU l c):=by
 unfold Sq.rU;split
 .exact fun _ h=>by cases h
 .split
  .exact fun _ h=>by cases h
  .exact (h.HV hc).ord
theorem agB{o:bV.OP}{f:FD}(ho:bV.Fw o)(h:Sq.kQ f.ce):Sq.kQ (ef1 o f).ce:=by
 unfold ef1;split
 .exact GA h (aec ho)
 .exact h
theorem acS{l:List Sq.CE}{a b c:Int}(h:Sq.kQ l):Sq.kQ (Sq.Ez l a b c):=by
 unfold Sq.Ez;split
 .exact fun _ h=>by cases h
 .split
  .rename_i j _;intro x hx;obtain⟨i,hi,rfl⟩:=mem_iff_getElem.1 hx;unfold Sq.mY at hi |-;rw[length_modify]at hi;have:=h _ (getElem_mem hi);rw[getElem_modify];split
   .exact this
   .exact this
  .exact fun _ h=>by cases h
theorem agC{o:bV.OP}{f:FD}(h:Sq.kQ f.ce):Sq.kQ (ef2 o f).ce:=by
 unfold ef2;split
 .exact acS h
 .exact h
theorem VO{l:List Sq.CE}{j:Nat}(h:Sq.kQ l):Sq.kQ (Sq.mY l j):=fun x hx=>by
 obtain⟨i,hi,rfl⟩:=mem_iff_getElem.1 hx;unfold Sq.mY at hi |-;rw[length_modify]at hi;have:=h _ (getElem_mem hi);rw[getElem_modify];split
 .exact this
 .exact this
theorem Uf{a b c:Int}:∀{n k:Nat}{l r:List Sq.CE},Tx.vY a b c n k l=some r->Sq.kQ l->Sq.kQ r
 |0,_,_,_,h,ho=>by simp only[Tx.vY,Option.some.injEq]at h;exact h▸ho
 |n+1,k,l,r,h,ho=>by
  rw[Tx.vY]at h;split at h
  .exact Uf h (VO ho)
  .cases h
theorem ZR{dv sq tm:Int}{s:yP}(h1:Sq.fO dv)(h2:Sq.fO sq):∀(n k:Nat)(i:Sq.ID)(l:List Sq.CE),k+n<=64->Sq.fO i.1->Sq.fO i.2.1->Sq.fO i.2.2->Sq.kQ l->(Tx.TI dv sq tm s n k i l).1.length<=l.length+n/\Sq.kQ (Tx.TI dv sq tm s n k i l).1
 |0,_,_,_,_,_,_,_,h=>⟨Nat.le_refl _,h⟩
 |n+1,k,i,l,hk,a,b,c,h=>by
  rw[Tx.TI];split
  .exact ⟨Nat.zero_le _,nofun⟩
  .have hq:Sq.fO (k:Int):=by unfold Sq.fO;omega
   obtain⟨p,q⟩:=ZR h1 h2 n (k+1) (dv,sq,(k:Int)) (Sq.rU l (Tx.U9 dv sq tm k i s)) zO h1 h2 hq (GA h ⟨⟨h1,h2,hq⟩,a,b,c⟩);exact⟨by have:=Sq.Ib l (Tx.U9 dv sq tm k i s);omega,q⟩
structure Bg(n m:Nat)(t:Tx.TE):Prop where
 tc:t.cells.length<=n
 tm:t.bQ.length<=m
 ok:Tx.OkT t
theorem Nh(n m:Nat):Bg n m Tx.zT:=⟨Nat.zero_le _,Nat.zero_le _,⟨(fun _ h=>by cases h),(fun _ h=>by cases h)⟩⟩
theorem agD{n m:Nat}{t:Tx.TE}{dv sq tm:Int}{i:Sq.ID}{s:yP}(h1:Sq.fO dv)(h2:Sq.fO sq)(a:Sq.fO i.1)(b:Sq.fO i.2.1)(c:Sq.fO i.2.2)(h:Bg n m t):Bg (n+64) (m+1) (Tx.Ve t dv sq tm i s).1:=by
 unfold Tx.Ve;split
 .exact Nh _ _
 split
 .exact Nh _ _
 .rename_i hs;obtain⟨p,q⟩:=ZR (s:=s) (tm:=tm) h1 h2 s.size 0 i t.cells zO a b c h.ok.cells;have:=h.tc;split
  .exact ⟨by show(Tx.TI dv sq tm s s.size 0 i t.cells).1.length<=_;omega,Nat.le_succ_of_le h.tm,⟨q,h.ok.bQ⟩⟩
  .exact Nh _ _
theorem agE{n m:Nat}{t:Tx.TE}{i:Sq.ID}{k:Int}(h:Bg n m t):Bg (n+64) (m+1) (Tx.Vg t i k).1:=by
 unfold Tx.Vg;split
 .exact Nh _ _
 split
 .exact Nh _ _
 split
 .rename_i l hl;have:=h.tc;exact⟨by have:=Tx.Ie hl;show l.length<=_;omega,Nat.le_succ_of_le h.tm,⟨Uf hl h.ok.cells,h.ok.bQ⟩⟩
 .exact Nh _ _
theorem agF{n m:Nat}{t:Tx.TE}{x:Tx.MK}(hx:Tx.OkM x)(h:Bg n m t):Bg (n+64) (m+1) (Tx.Vk t x).1:=by
 unfold Tx.Vk;split
 .exact Nh _ _
 split
 .exact Nh _ _
 split
 .exact Nh _ _
 .have:=Tx.Mv x t.bQ;have h2:=h.tm;refine⟨Nat.le_trans h.tc zO,?_,⟨h.ok.cells,fun y hy=>?_⟩⟩
  .simp;omega
  .simp only[yI,mem_singleton]at hy;rcases hy with(hy|rfl)|hy
   .exact h.ok.bQ y (mem_of_mem_take hy)
   .exact hx
   .exact h.ok.bQ y (mem_of_mem_drop hy)
theorem RZ{n m:Nat}{f:FD}{r:Tx.TE×Int}(h:Bg n m (Gb f))(hr:Bg (n+64) (m+1) r.1):Bg (n+64) (m+1) (Gb (MB f r)):=by
 unfold MB;split
 .exact hr
 .exact ⟨Nat.le_trans h.tc zO,Nat.le_succ_of_le h.tm,h.ok⟩
theorem akX{o:bV.OP}(h:bV.Fw o):Tx.OkM (mkO o):=⟨h.dv,h.sq,h.tm,h.f1,h.f2,h.f3,h.t1,h.t2,h.t3,h.n⟩
theorem agG(o:bV.OP)(f:FD):Gb (ef1 o f)=Gb f:=by grind[ef1]
theorem agH(o:bV.OP)(f:FD):Gb (ef2 o f)=Gb f:=by grind[ef2]
theorem ZT(o:bV.OP)(f:FD):Gb (ef3 o f)=Gb f/\(ef3 o f).ce=f.ce:=by grind[ef3]
theorem ZU(o:bV.OP)(f:FD):Gb (ef4 o f)=Gb f/\(ef4 o f).ce=f.ce:=by grind[ef4]
theorem ZV(o:bV.OP)(f:FD):Gb (ef5 o f)=Gb f/\(ef5 o f).ce=f.ce:=by grind[ef5]
theorem Ni(f:FD)(r:Tx.TE×Int):(MB f r).ce=f.ce:=by grind[MB]
theorem Bg.up{n m:Nat}{t:Tx.TE}(h:Bg n m t):Bg (n+64) (m+1) t:=⟨Nat.le_trans h.tc zO,Nat.le_succ_of_le h.tm,h.ok⟩
theorem aeA{n m:Nat}{o:bV.OP}{f:FD}(ho:bV.Fw o)(h:Bg n m (Gb f))(hc:Sq.kQ f.ce):Bg (n+64) (m+1) (Gb (Gc o f))/\Sq.kQ (Gc o f).ce:=by
 unfold Gc;split
 .exact ⟨agG o f▸h.up,agB ho hc⟩
 split
 .exact ⟨agH o f▸h.up,agC hc⟩
 split
 .exact ⟨(ZT o f).1▸h.up,(ZT o f).2▸hc⟩
 split
 .exact ⟨(ZU o f).1▸h.up,(ZU o f).2▸hc⟩
 split
 .exact ⟨(ZV o f).1▸h.up,(ZV o f).2▸hc⟩
 split
 .exact ⟨RZ h (agD ho.dv ho.sq ho.f1 ho.f2 ho.f3 h),by unfold ef6;rw[Ni];exact hc⟩
 split
 .grind [RZ,agE,ef7,Ni]
 .grind [RZ,agF,akX,ef8,Ni]
theorem VP(v:List D)(x:D):(uK v [x]).length<=v.length+1:=by
 unfold uK;split
 .exact KE _ _
 .exact Nat.zero_le _
structure SmD(n:Nat)(d:DO):Prop where
 few:agA n d
 sn:d.sn.length<=n
 tx:∀f∈d.fs,Bg (64*n) n (Gb f)/\Sq.kQ f.ce
theorem aeB(n:Nat):SmD n ⟨[],[]⟩:=⟨⟨Nat.zero_le _,nofun⟩,Nat.zero_le _,nofun⟩
theorem ZW{n:Nat}{d:DO}{o:bV.OP}(ho:bV.Fw o)(h:SmD n d):SmD (n+1) (Bn d o):=by
 refine⟨VN h.few,?_,?_⟩
 .unfold Bn;split
  .have:=VP d.sn (o.dv,o.sq);have:=h.sn;show(uK d.sn [(o.dv,o.sq)]).length<=n+1;omega
  .exact Nat.zero_le _
 .unfold Bn;have e:64*(n+1)=64*n+64:=zO
  rw[e];split
  .intro f hf;rcases OQ hf with hf|⟨y,hy,rfl⟩
   .exact ⟨(h.tx f hf).1.up,(h.tx f hf).2⟩
   .rcases hy with hy|rfl
    .exact aeA ho (h.tx y hy).1 (h.tx y hy).2
    .exact aeA ho ⟨Nat.zero_le _,Nat.zero_le _,(Yx o).tx⟩ (Yx o).ce
  .simp
theorem SmD.dim{n:Nat}{d:DO}(h:SmD n d)(hn:n<=10000):Dim d/\∀x∈d.fs,x.ce.length<=999999:=by
 refine⟨⟨by have:=h.sn;omega,by have:=h.few.fs;omega,fun f hf=>?_,fun f hf=>?_⟩,fun f hf=>by have:=(h.few.all f hf).ce;omega⟩
 .have a:=h.few.all f hf;have b:=(h.tx f hf).1;have h1:=a.ce;have h2:=a.bi;have h3:=a.ta;have h4:f.tc.length<=64*n:=b.tc;have h5:f.tm.length<=n:=b.tm;exact⟨zO,zO,zO,zO,zO⟩
 .have b:=h.tx f hf;have h4:f.tc.length<=64*n:=b.1.tc;have h5:f.tm.length<=n:=b.1.tm;exact⟨b.2,b.1.ok,⟨by show f.tc.length<=_;omega,by show f.tm.length<=_;omega⟩⟩
end Go.Dc
namespace Go.Bd
open Go Go.Am Go.Proofs Go.eY
theorem aro{v:List BE}:jg v=0↔Map v:=by
 rw[<- RQ];unfold jg;cases Cw v<;>simp
theorem asu{l:List BE}{c:List bH.D}{b:BE}(h:(OB l c b).2=0):jg (OB l c b).1=0/\∀x∈(OB l c b).1,x=b\/x∈l:=by
 unfold OB at h |-;by_cases h0:jg l=0
 .rw [yL h0]at h |-;by_cases h1:bH.eZ c=0
  .rw [yL h1]at h |-;by_cases h2:Zu l c b=true
   .rw [yL h2];refine⟨aro.2 (asi (aro.1 h0) h2 _),fun x hx=>?_⟩;rcases yH.1 ((VJ b _).mem_iff.1 hx)with h|h
    .exact .inl h
    .exact .inr ((zF ..).subset h)
   .rw [yK h2]at h;cases h
  .rw [yK h1]at h;exact absurd h h1
 .rw [yK h0]at h;exact absurd h h0
theorem asa{l:List BE}{c:List bH.D}{k:yP}(h:(CZ l c k).2=0):jg (CZ l c k).1=0/\∀x∈(CZ l c k).1,x∈l:=by
 unfold CZ at h |-;by_cases h0:jg l=0
 .rw [yL h0]at h |-;by_cases h1:bH.eZ c=0
  .rw [yL h1];exact⟨aro.2 (Zv (aro.1 h0) _ _),fun x hx=>(zF ..).subset hx⟩
  .rw [yK h1]at h;exact absurd h h1
 .rw [yK h0]at h;exact absurd h h0
end Go.Bd
namespace Go.Sq
open Go Go.Am Go.Proofs Go.eY
theorem asv{l:List CE}{c:CE}(hg:c.gn=false)(h:A8 l c=0):jg (rU l c)=0/\∀x∈rU l c,x∈l\/x=c:=by
 obtain⟨h1,h2⟩:=(Tx.arl hg).1 h;have e:rU l c=arE (l++[c]):=by
  unfold rU;rw[yK (by simpa using h1),yK (by simp[hg])];rcases Yo (l++[c])with⟨_,_,e⟩|⟨e,_⟩
  .exact e
  .rw [h2]at e;cases e
 rw[e];exact⟨(arb h2).2.2,fun x hx=>by simpa using(aqK h2).mem_iff.1 hx⟩
theorem asw{l:List CE}{a b c:Int}(h:Ox l a b c=0):jg (Ez l a b c)=0/\∀x∈Ez l a b c,∃y∈l,x.dv=y.dv/\x.sq=y.sq:=by
 have hc:jg l=0:=by
  by_cases e:jg l=0
  .exact e
  .unfold Ox at h;rw[yL e]at h;exact h
 rcases asI (i:=a) (j:=b) (k:=c) hc with⟨_,e,_⟩|⟨e,_⟩
 .rw [e];refine⟨(aqH _).chk hc,fun x hx=>?_⟩;obtain⟨y,hy,rfl⟩:=yG.1 hx;exact⟨y,hy,(aqH _).dv y,(aqH _).sq y⟩
 .rw [e]at h;cases h
end Go.Sq
namespace Go.Dc
open Go Go.Am Go.Proofs Go.eY Go.bH
theorem ard:∀{l:List TL}{x:Int},Xg x l=true↔(∀t∈l,Tf t.1 t.2.1=true)/\(∀t∈l,x<t.1)/\(l.map (·.1)).Pairwise (·<·)
 |[],x=>by simp[Xg]
 |u::l,x=>by
  simp only[Xg,Bool.and_eq_true,decide_eq_true_eq,ard (l:=l) (x:=u.1),yH,map_cons,pairwise_cons,yG,forall_exists_index,and_imp,forall_apply_eq_imp_iff₂];constructor
  .rintro ⟨⟨h1,h2⟩,h3,h4,h5⟩;refine⟨fun t ht=>ht.elim (fun e=>e▸h1) (h3 t),fun t ht=>ht.elim (fun e=>e▸h2) fun ht=>Int.lt_trans h2 (h4 t ht),fun t ht=>h4 t ht,h5⟩
  .rintro ⟨h1,h2,h3,h4⟩;exact⟨⟨h1 u (.inl rfl),h2 u (.inl rfl)⟩,fun t ht=>h1 t (.inr ht),fun t ht=>h3 t ht,h4⟩
theorem asT{d:Int}{t:TL}(h:cD d t=0):t.1=d:=by
 unfold cD bV.gJ at h;split at h
 .cases h
 .split at h
  .cases h
  .omega
theorem asx{l:List TL}{d s n:Int}(h:(OJ l d s n).2=0):vC (OJ l d s n).1=0/\∀x∈(OJ l d s n).1,x∈l\/dtt x=(d,s):=by
 unfold OJ at h |-;by_cases h1:Xg (-1) l=true
 .rw [yL h1]at h |-;by_cases h2:Tf d s=true
  .rw [yL h2]at h |-;obtain⟨k1,k2,k3⟩:=ard.1 h1;have hm:=OI d h1;have hd:(-1:Int)<d:=by simp only[Tf,Bool.and_eq_true,decide_eq_true_eq]at h2;omega
   split at h
   .rename_i h3;rw[yL h3];split at h
    .cases h
    .rename_i h4;rw[yK h4];have bg:nQ (cD d) l<l.length:=by
      rcases Nat.lt_or_ge (nQ (cD d) l) l.length with h|h
      .exact h
      .rw [getElem?_eq_none h]at h3;cases h3
     rw[yA bg]at h3;have e:l[nQ (cD d) l].1=d:=asT (by simpa using h3);have g:l.getD (nQ (cD d) l) (0,0,0)=l[nQ (cD d) l]:=by rw[yB,yA bg];rfl
     rw[g];have em:(l.set (nQ (cD d) l) (l[nQ (cD d) l].1,s,IntKind.wrap IntKind.i64 (l[nQ (cD d) l].2.2+n))).map (·.1)=l.map (·.1):=by
      rw[map_set];refine ext_getElem? fun i=>?_;rw[getElem?_set];split
      .rename_i q;subst q;simp[bg]
      .rfl
     have hx:∀x∈l.set (nQ (cD d) l) (l[nQ (cD d) l].1,s,IntKind.wrap IntKind.i64 (l[nQ (cD d) l].2.2+n)),x∈l\/(x.1=d/\x.2.1=s):=fun x hx=>by
      rcases mem_or_eq_of_mem_set hx with h|rfl
      .exact .inl h
      .exact .inr ⟨e,rfl⟩
     refine⟨?_,fun x hx'=>(hx x hx').imp id fun q=>by show(x.1,x.2.1)=_;rw[q.1,q.2]⟩;unfold vC;rw[yL];refine ard.2 ⟨fun t ht=>?_,fun t ht=>?_,by rw[em];exact k3⟩
     .rcases hx t ht with q|⟨q1,q2⟩
      .exact k1 t q
      .rw [q1,q2];exact h2
     .rcases hx t ht with q|⟨q1,_⟩
      .exact k2 t q
      .rw [q1];exact hd
   .rename_i h3;rw[yK h3];have hx:∀x∈l.take (nQ (cD d) l)++[(d,s,n)]++l.drop (nQ (cD d) l),x∈l\/x=(d,s,n):=fun x hx=>by
     simp only[yI,mem_singleton]at hx;rcases hx with(h|h)|h
     .exact .inl (mem_of_mem_take h)
     .exact .inr h
     .exact .inl (mem_of_mem_drop h)
    refine⟨?_,fun x hx'=>(hx x hx').imp id fun q=>by rw[q];rfl⟩;unfold vC;rw[yL];refine ard.2 ⟨fun t ht=>?_,fun t ht=>?_,?_⟩
    .rcases hx t ht with q|q
     .exact k1 t q
     .rw [q];exact h2
    .rcases hx t ht with q|q
     .exact k2 t q
     .rw [q];exact hd
    .have hpw:=pairwise_iff_getElem.1 (pairwise_map.1 k3);have lo:∀t∈l.take (nQ (cD d) l),t.1<d:=fun t ht=>by
      obtain⟨i,hi,rfl⟩:=mem_iff_getElem.1 ht;rw[length_take]at hi;rw[getElem_take];exact(ajD d _).1 ((hm i zO).2 zO)
     have up:∀t∈l.drop (nQ (cD d) l),d<t.1:=fun t ht=>by
      obtain⟨i,hi,rfl⟩:=mem_iff_getElem.1 ht;rw[length_drop]at hi;rw[getElem_drop];have hp:nQ (cD d) l<l.length:=zO
      have h0:¬l[nQ (cD d) l].1<d:=fun h=>absurd ((hm _ hp).1 ((ajD d _).2 h)) (Nat.lt_irrefl _);have h1:l[nQ (cD d) l].1≠d:=fun e=>h3 (by
       rw[yA hp];simp[cD,bV.gJ,e])
      rcases Nat.eq_zero_or_pos i with rfl|hi0
      .simp only[Nat.add_zero];omega
      .have:=hpw (nQ (cD d) l) (nQ (cD d) l+i) hp zO zO;omega
     rw[map_append,map_append,pairwise_append,pairwise_append];refine⟨⟨?_,zS,?_⟩,?_,?_⟩
     .rw [map_take];exact k3.sublist (take_sublist _ _)
     .intro a ha b hb;obtain⟨t,ht,rfl⟩:=yG.1 ha;simp only[map_cons,map_nil,mem_singleton]at hb;subst hb;exact lo t ht
     .rw [map_drop];exact k3.sublist (drop_sublist _ _)
     .intro a ha b hb;obtain⟨t,ht,rfl⟩:=yG.1 hb;have hb:=up t ht;rcases yI.1 ha with ha|ha
      .obtain ⟨u,hu,rfl⟩:=yG.1 ha;exact Int.lt_trans (lo u hu) hb
      .simp only[map_cons,map_nil,mem_singleton]at ha;subst ha;exact hb
  .rw [yK h2]at h;cases h
 .rw [yK h1]at h;cases h
end Go.Dc
namespace Go.Tx
open Go Go.Am Go.Proofs Go.eY
theorem asy{t:TE}{dv sq tm:Int}{i:Sq.ID}{s:yP}(h:(Ve t dv sq tm i s).2=0):vC (Ve t dv sq tm i s).1=0/\(∀x∈(Ve t dv sq tm i s).1.cells,x∈t.cells\/(x.dv=dv/\x.sq=sq))/\(Ve t dv sq tm i s).1.bQ=t.bQ:=by
 have e:edR t ⟨0,tm,0,dv,sq,i.1,i.2.1,i.2.2,s,⟨0,0,0,0,0,0,0,0,0,0,false⟩⟩=Ve t dv sq tm i s:=rfl;rw[<- e]at h |-;refine⟨(arK h).chk,?_⟩;obtain⟨hV,⟨_,h1,e1⟩|⟨h0,_⟩|⟨h0,_⟩⟩:=arn h
 .rw [e1];refine⟨fun x hx=>?_,rfl⟩;rcases yI.1 ((Sq.aqK (ar8 hV.cells h1.2).2).mem_iff.1 hx)with h|h
  .exact .inl h
  .have:=arP x h;exact .inr ⟨this.1,this.2.1⟩
 .exact absurd rfl h0
 .exact absurd rfl h0
theorem asz{t:TE}{i:Sq.ID}{n:Int}(h:(Vg t i n).2=0):vC (Vg t i n).1=0/\(∀x∈(Vg t i n).1.cells,∃y∈t.cells,x.dv=y.dv/\x.sq=y.sq)/\(Vg t i n).1.bQ=t.bQ:=by
 have e:edR t ⟨1,0,n,0,0,i.1,i.2.1,i.2.2,ByteArray.empty,⟨0,0,0,0,0,0,0,0,0,0,false⟩⟩=Vg t i n:=rfl;rw[<- e]at h |-;refine⟨(arK h).chk,?_⟩;obtain⟨hV,⟨h0,_⟩|⟨_,_,h1,e1⟩|⟨_,h0,_⟩⟩:=arn h
 .cases h0
 .rw [e1];refine⟨fun x hx=>?_,rfl⟩;obtain⟨y,hy,rfl⟩:=yG.1 hx;exact⟨y,hy,(arB _).dv y,(arB _).sq y⟩
 .exact absurd rfl h0
theorem asA{t:TE}{m:MK}(h:(Vk t m).2=0):vC (Vk t m).1=0/\(Vk t m).1.cells=t.cells/\∀x∈(Vk t m).1.bQ,x∈t.bQ\/x=m:=by
 have e:edR t ⟨2,0,0,0,0,0,0,0,ByteArray.empty,m⟩=Vk t m:=rfl;rw[<- e]at h |-;refine⟨(arK h).chk,?_⟩;obtain⟨hV,⟨h0,_⟩|⟨_,h0,_⟩|⟨_,_,h1,e1⟩⟩:=arn h
 .cases h0
 .cases h0
 .rw [e1];refine⟨rfl,fun x hx=>?_⟩;rcases yH.1 ((aqV _ _).mem_iff.1 hx)with h|h
  .exact .inr h
  .exact .inl h
end Go.Tx
namespace Go.Dc
open Go Go.Am Go.Proofs Go.eY Go.bH
theorem arL{f:FD}{v:List D}(h:f.pk=1):U6 f v=true↔Sq.jg f.ce=0/\(∀x∈f.ce,cZ v (dtc x)=true)/\f.bi.length+f.ta.length+f.tc.length+f.tm.length=0/\f.pn.size<=64:=by simp[U6,h,and_assoc]
theorem arM{f:FD}{v:List D}(h:f.pk=2):U6 f v=true↔Bd.jg f.bi=0/\(∀x∈f.bi,cZ v (dtb x)=true)/\f.ce.length+f.ta.length+f.tc.length+f.tm.length=0/\f.pn.size<=64:=by simp[U6,h,and_assoc]
theorem asb{f:FD}{v:List D}(h:f.pk=3):U6 f v=true↔vC f.ta=0/\(∀x∈f.ta,cZ v (dtt x)=true)/\f.ce.length+f.bi.length+f.tc.length+f.tm.length=0/\f.pn.size<=64:=by simp[U6,h,and_assoc]
theorem arC{f:FD}{v:List D}(h:f.pk=4):U6 f v=true↔Tx.vC ⟨f.tc,f.tm⟩=0/\(∀x∈f.tc,cZ v (dtc x)=true)/\(∀x∈f.tm,cZ v (dtm x)=true)/\f.ce.length+f.bi.length+f.ta.length=0/\f.pn.size<=64:=by simp[U6,h,and_assoc]
theorem asQ{f:FD}{v:List D}(h:U6 f v=true):f.pk=1\/f.pk=2\/f.pk=3\/f.pk=4:=by
 unfold U6 at h;by_cases h1:f.pk=1
 .exact .inl h1
 by_cases h2:f.pk=2
 .exact .inr (.inl h2)
 by_cases h3:f.pk=3
 .exact .inr (.inr (.inl h3))
 by_cases h4:f.pk=4
 .exact .inr (.inr (.inr h4))
 simp[h1,h2,h3,h4]at h
theorem arp{f:FD}{v w:List D}(hu:∀y,cZ v y=true->cZ w y=true)(h:U6 f v=true):U6 f w=true:=by
 rcases asQ h with e|e|e|e
 .obtain ⟨a,b,c⟩:=(arL e).1 h;exact(arL e).2 ⟨a,fun x hx=>hu _ (b x hx),c⟩
 .obtain ⟨a,b,c⟩:=(arM e).1 h;exact(arM e).2 ⟨a,fun x hx=>hu _ (b x hx),c⟩
 .obtain ⟨a,b,c⟩:=(asb e).1 h;exact(asb e).2 ⟨a,fun x hx=>hu _ (b x hx),c⟩
 .obtain ⟨a,b,c,d⟩:=(arC e).1 h;exact(arC e).2 ⟨a,fun x hx=>hu _ (b x hx),fun x hx=>hu _ (c x hx),d⟩
theorem asR{o:bV.OP}{v:List D}(h:o.pk=1\/o.pk=2\/o.pk=3\/o.pk=4)(hp:o.pn.size<=64):U6 (Fx o) v=true:=by
 rcases h with e|e|e|e
 .exact (arL e).2 ⟨rfl,fun _ h=>(by cases h),rfl,hp⟩
 .exact (arM e).2 ⟨rfl,fun _ h=>(by cases h),rfl,hp⟩
 .exact (asb e).2 ⟨rfl,fun _ h=>(by cases h),rfl,hp⟩
 .exact (arC e).2 ⟨rfl,fun _ h=>(by cases h),fun _ h=>(by cases h),rfl,hp⟩
theorem arq{f:FD}{r:Tx.TE×Int}{w:List D}(hk:f.pk=4)(h:U6 f w=true)(hr:r.2=0->Tx.vC r.1=0/\(∀x∈r.1.cells,cZ w (dtc x)=true)/\∀x∈r.1.bQ,cZ w (dtm x)=true):U6 (MB f r) w=true:=by
 unfold MB;split
 .rename_i e;obtain⟨a,b,c⟩:=hr e;obtain⟨_,_,_,d⟩:=(arC hk).1 h;exact(arC (f:={ f with tc:=r.1.cells,tm:=r.1.bQ }) hk).2 ⟨a,b,c,d⟩
 .exact h
theorem asc{o:bV.OP}{f:FD}{w:List D}(hk:f.pk=bV.partOf o.kd)(h1:1<=o.kd)(h8:o.kd<=8)(hn:cZ w (o.dv,o.sq)=true)(h:U6 f w=true):U6 (Gc o f) w=true:=by
 have hc:o.kd=1\/o.kd=2\/o.kd=3\/o.kd=4\/o.kd=5\/o.kd=6\/o.kd=7\/o.kd=8:=zO
 rcases hc with e|e|e|e|e|e|e|e<;>rw[e]at hk
 .obtain ⟨a,b,c⟩:=(arL hk).1 h;rw[show Gc o=ef1 o by simp[Gc,e]];unfold ef1;split
  .rename_i q;obtain⟨k1,k2⟩:=Sq.asv (by rfl) q;exact(arL (f:={ f with ce:=Sq.rU f.ce (KD o) }) hk).2 ⟨k1,fun x hx=>(k2 x hx).elim (b x) fun e=>by rw[e];exact hn,c⟩
  .exact h
 .obtain ⟨a,b,c⟩:=(arL hk).1 h;rw[show Gc o=ef2 o by simp[Gc,e]];unfold ef2;split
  .rename_i q;obtain⟨k1,k2⟩:=Sq.asw q;refine(arL (f:={ f with ce:=Sq.Ez f.ce o.f1 o.f2 o.f3 }) hk).2 ⟨k1,fun x hx=>?_,c⟩;obtain⟨y,hy,e1,e2⟩:=k2 x hx;have:=b y hy;unfold dtc at this |-;rw[e1,e2];exact this
  .exact h
 .obtain ⟨a,b,c⟩:=(arM hk).1 h;rw[show Gc o=ef3 o by simp[Gc,e]];unfold ef3;split
  .rename_i q;obtain⟨k1,k2⟩:=Bd.asu q;exact(arM (f:={ f with bi:=(Bd.OB f.bi (Q5 o) ⟨o.ky,o.dv,o.sq,o.tm,o.vl⟩).1 }) hk).2 ⟨k1,fun x hx=>(k2 x hx).elim (fun e=>by rw[e];exact hn) (b x),c⟩
  .exact h
 .obtain ⟨a,b,c⟩:=(arM hk).1 h;rw[show Gc o=ef4 o by simp[Gc,e]];unfold ef4;split
  .rename_i q;obtain⟨k1,k2⟩:=Bd.asa q;exact(arM (f:={ f with bi:=(Bd.CZ f.bi (Q5 o) o.ky).1 }) hk).2 ⟨k1,fun x hx=>b x (k2 x hx),c⟩
  .exact h
 .obtain ⟨a,b,c⟩:=(asb hk).1 h;rw[show Gc o=ef5 o by simp[Gc,e]];unfold ef5;split
  .rename_i q;obtain⟨k1,k2⟩:=asx q;exact(asb (f:={ f with ta:=(OJ f.ta o.dv o.sq o.n).1 }) hk).2 ⟨k1,fun x hx=>(k2 x hx).elim (b x) fun e=>by rw[e];exact hn,c⟩
  .exact h
 .obtain ⟨a,b,c,d⟩:=(arC hk).1 h;rw[show Gc o=ef6 o by simp[Gc,e]];refine arq hk h fun q=>?_;obtain⟨k1,k2,k3⟩:=Tx.asy q;exact⟨k1,fun x hx=>(k2 x hx).elim (b x) fun e=>by unfold dtc;rw[e.1,e.2];exact hn,by rw[k3];exact c⟩
 .obtain ⟨a,b,c,d⟩:=(arC hk).1 h;rw[show Gc o=ef7 o by simp[Gc,e]];refine arq hk h fun q=>?_;obtain⟨k1,k2,k3⟩:=Tx.asz q;refine⟨k1,fun x hx=>?_,by rw[k3];exact c⟩;obtain⟨y,hy,e1,e2⟩:=k2 x hx;have:=b y hy;unfold dtc at this |-;rw[e1,e2];exact this
 .obtain ⟨a,b,c,d⟩:=(arC hk).1 h;rw[show Gc o=ef8 o by simp[Gc,e]];refine arq hk h fun q=>?_;obtain⟨k1,k2,k3⟩:=Tx.asA q;exact⟨k1,by rw[k2];exact b,fun x hx=>(k3 x hx).elim (c x) fun e=>by rw[e];exact hn⟩
end Go.Dc
namespace Go.Mg
open Go Go.Am Go.Proofs Go.eY Go.bH Go.yU Go.bV
def vO(o:OP):Bool:=decide (lM o=0)
def yR(W:List D)(o:OP):List D:=aar W [(o.dv,o.sq)]
theorem ug{o:OP}(h:vO o=true):gQ (o.dv,o.sq)=true/\Cw o.cx=true/\cZ o.cx (o.dv,o.sq)=false:=by
 have h1:=of_decide_eq_true h;unfold lM at h1;have h2:rM o=true:=by
  by_cases hc:rM o=true
  .exact hc
  .rw [yK hc]at h1;cases h1
 simp only[rM,qW,Bool.and_eq_true]at h2;exact⟨h2.1.1.1.1.1.1.1,h2.1.1.1.1.2,by simpa using h2.1.1.1.2⟩
theorem SC{o:OP}(h:vO o=true):Ok [(o.dv,o.sq)]:=⟨fun x hx=>by rw[mem_singleton.1 hx];exact(ug h).1,pairwise_singleton ..⟩
theorem adw{V:List D}{o:OP}(hV:Ok V)(h:vO o=true):Ok (yR V o):=by grind[yR,Lg,SC,Qg,Qf]
theorem Em{V:List D}{o:OP}(hV:Ok V)(h:vO o=true)(d:Int):bH.gI d (yR V o)=if o.dv=d then max o.sq (bH.gI d V)else bH.gI d V:=by
 unfold yR;have h0:=(mg hV d).1;have h1:=(ji.1 (ug h).1);rw[Lg hV (SC h),aaK Qf hV (SC h)];show fu _ (if o.dv=d then o.sq else 0)=_;unfold fu;simp only at h1;split<;>split<;>omega
end Go.Mg
namespace Go.Dc
open Go Go.Am Go.Proofs Go.eY Go.bH
abbrev ltF(x y:FD):Prop:=U7 x.pk y.pk x.pn y.pn<0
theorem ars{v:List D}:∀{l:List FD}{q:Option FD},Xe v q l=true↔(∀f∈l,U6 f v=true)/\l.Pairwise ltF/\∀g,q=some g->∀x∈l,ltF g x
 |[],q=>by simp[Xe]
 |u::l,q=>by
  constructor
  .intro h;have hp:=OO h;have h':=h;simp only[Xe,Bool.and_eq_true]at h';have ih:=(ars (l:=l) (q:=some u)).1 h'.2;refine⟨fun f hf=>?_,hp,fun g e x hx=>?_⟩
   .rcases yH.1 hf with rfl|hf
    .exact h'.1.1
    .exact ih.1 f hf
   .subst e;exact Yy h x hx
  .rintro ⟨h1,h2,h3⟩;have h2':=pairwise_cons.1 h2;simp only[Xe,Bool.and_eq_true];refine⟨⟨h1 u zS,?_⟩,ars.2 ⟨fun f hf=>h1 f (by simp[hf]),h2'.2,fun g e x hx=>by injection e with e;exact e▸h2'.1 x hx⟩⟩;cases q with
   |none=>rfl
   |some g=>exact decide_eq_true (h3 g rfl u zS)
theorem arD{d:DO}:F9 d=0↔Cw d.sn=true/\(∀f∈d.fs,U6 f d.sn=true)/\d.fs.Pairwise ltF:=by
 have hq:=ars (v:=d.sn) (l:=d.fs) (q:=none);unfold F9;constructor
 .intro h;by_cases e:Cw d.sn=true/\Xe d.sn none d.fs=true
  .have k:=hq.1 e.2;exact⟨e.1,k.1,k.2.1⟩
  .rw [yK e]at h;cases h
 .rintro ⟨h1,h2,h3⟩;rw[yL ⟨h1,hq.2 ⟨h2,h3,fun g e=>by cases e⟩⟩]
theorem asS{a b:Int}{s t:yP}(h1:¬U7 a b s t<0)(h2:U7 a b s t≠0):U7 b a t s<0:=by
 rw[ajG]at h1 |-;rw[ne_eq,asG]at h2;rcases Int.lt_trichotomy a b with h|h|h
 .exact absurd (.inl h) h1
 .subst h;rcases Bd.arO s t with k|k|k
  .exact absurd (.inr ⟨rfl,k⟩) h1
  .exact absurd ⟨rfl,k⟩ h2
  .exact .inr ⟨rfl,k⟩
 .exact .inl h
theorem aqW(f:FD)(r:Tx.TE×Int):(MB f r).pk=f.pk/\(MB f r).pn=f.pn:=by
 unfold MB;split<;>exact⟨rfl,rfl⟩
theorem ase(o:bV.OP)(f:FD):(Gc o f).pk=f.pk/\(Gc o f).pn=f.pn:=by
 unfold Gc
 repeat' split
 .unfold ef1;split<;>exact⟨rfl,rfl⟩
 .unfold ef2;split<;>exact⟨rfl,rfl⟩
 .unfold ef3;split<;>exact⟨rfl,rfl⟩
 .unfold ef4;split<;>exact⟨rfl,rfl⟩
 .unfold ef5;split<;>exact⟨rfl,rfl⟩
 .exact aqW _ _
 .exact aqW _ _
 .exact aqW _ _
theorem arY{o:bV.OP}{ef:FD->FD}{l:List FD}(he:∀f,(ef f).pk=f.pk/\(ef f).pn=f.pn)(h:l.Pairwise ltF):(Ig (cO o) ef o l).Pairwise ltF:=by
 have hm:Rc (cO o) l:=TN (h.imp fun h1 h2=>OM h1 h2);have uQ:=Rh (cO o) l;unfold Ig;split
 .rename_i hb;have bg:rV (cO o) l<l.length:=by
   rcases Nat.lt_or_ge (rV (cO o) l) l.length with h|h
   .exact h
   .rw [getElem?_eq_none h]at hb;cases hb
  have g:l.getD (rV (cO o) l) (Fx o)=l[rV (cO o) l]:=by rw[yB,yA bg];rfl
  rw[g];have hp:=pairwise_iff_getElem.1 h;refine pairwise_iff_getElem.2 fun i j hi hj wQ=>?_;rw[length_set]at hi hj;have hq:=hp i j hi hj wQ;rw[getElem_set,getElem_set];have h1:=he l[rV (cO o) l];unfold ltF at hq |-;split
  .rename_i e;rw[yK zO,h1.1,h1.2];subst e;exact hq
  .split
   .rename_i e;rw[h1.1,h1.2];subst e;exact hq
   .exact hq
 .rename_i hb;have hz:=he (Fx o);have lo:∀x∈l.take (rV (cO o) l),ltF x (ef (Fx o)):=fun x hx=>by
   obtain⟨i,hi,rfl⟩:=mem_iff_getElem.1 hx;rw[length_take]at hi;unfold ltF;rw[getElem_take,hz.1,hz.2];exact(hm i zO).2 zO
  have up:∀x∈l.drop (rV (cO o) l),ltF (ef (Fx o)) x:=fun x hx=>by
   obtain⟨i,hi,rfl⟩:=mem_iff_getElem.1 hx;rw[length_drop]at hi;have hp:rV (cO o) l<l.length:=zO
   have h0:¬cO o l[rV (cO o) l]<0:=fun h=>absurd ((hm _ hp).1 h) (Nat.lt_irrefl _);have h1:cO o l[rV (cO o) l]≠0:=fun e=>hb (by rw[yA hp];simp[e]);have h2:U7 o.pk l[rV (cO o) l].pk o.pn l[rV (cO o) l].pn<0:=asS h0 h1;unfold ltF;rw[getElem_drop,hz.1,hz.2];rcases Nat.eq_zero_or_pos i with rfl|hi0
   .exact h2
   .exact OM h2 (pairwise_iff_getElem.1 h (rV (cO o) l) (rV (cO o) l+i) hp zO zO)
  rw[pairwise_append,pairwise_append];refine⟨⟨h.sublist (take_sublist _ _),zS,fun a ha b hb=>by rw[mem_singleton.1 hb];exact lo a ha⟩,h.sublist (drop_sublist _ _),fun a ha b hb=>?_⟩;rcases yI.1 ha with ha|ha
  .exact OM (lo a ha) (up b hb)
  .rw [mem_singleton.1 ha];exact up b hb
theorem asf{v:List D}{o:bV.OP}(hv:Cw v=true)(ho:Mg.vO o=true):uK v [(o.dv,o.sq)]=Mg.yR v o:=by
 have h1:=RQ.1 hv;unfold uK Mg.yR;rw[yL (acn hv (Mg.ug ho).1),Lg h1 (Mg.SC ho)]
theorem o8{v:List D}{x:D}:cZ v x=true↔1<=x.2/\x.2<=gI x.1 v:=by simp[cZ]
theorem asB{d:DO}{o:bV.OP}(h:F9 d=0)(ho:Mg.vO o=true):F9 (afQ d o)=0/\(afQ d o).sn=Mg.yR d.sn o:=by
 obtain⟨h1,h2,h3⟩:=arD.1 h;have hj:=asf h1 ho;have hV:=RQ.1 h1;have he:(afQ d o).sn=Mg.yR d.sn o:=hj;have hat:=fun x=>Mg.Em hV ho x;have asg:=ji.1 (Mg.ug ho).1;have hup:∀y,cZ d.sn y=true->cZ (Mg.yR d.sn o) y=true:=fun y hy=>by
  rw[o8]at hy |-;rw[hat];split<;>omega
 have aah:cZ (Mg.yR d.sn o) (o.dv,o.sq)=true:=by
  rw[o8,hat];simp only[if_true]at asg |-;omega
 have hq:bV.lM o=0:=of_decide_eq_true ho;have hk:=aci hq;simp only[bV.rM,bV.aat,Bool.and_eq_true,decide_eq_true_eq]at hk;obtain⟨⟨⟨_,k1⟩,k8⟩,⟨⟨kp,kn⟩,_⟩,_⟩:=hk;have hpk:o.pk=1\/o.pk=2\/o.pk=3\/o.pk=4:=by
  rw[kp];unfold bV.partOf
  repeat' split
  .exact .inl rfl
  .exact .inr (.inl rfl)
  .exact .inr (.inr (.inl rfl))
  .exact .inr (.inr (.inr rfl))
  .omega
 refine⟨arD.2 ⟨?_,fun f hf=>?_,arY (ase o) h3⟩,he⟩
 .rw [he];exact RQ.2 (Mg.adw hV ho)
 .rw [he];have hf':f∈Ig (cO o) (Gc o) o d.fs:=hf;unfold Ig at hf';split at hf'
  .rename_i hb;have bg:rV (cO o) d.fs<d.fs.length:=by
    rcases Nat.lt_or_ge (rV (cO o) d.fs) d.fs.length with h|h
    .exact h
    .rw [getElem?_eq_none h]at hb;cases hb
   rcases mem_or_eq_of_mem_set hf' with h|rfl
   .exact arp hup (h2 f h)
   .rw [yA bg]at hb;have e0:cO o d.fs[rV (cO o) d.fs]=0:=by simpa using hb
    have e:=(asG.1 e0).1;rw[yB,yA bg,Option.getD_some];exact asc (e.trans kp) k1 k8 aah (arp hup (h2 _ (getElem_mem bg)))
  .simp only[yI,mem_singleton]at hf';rcases hf' with(h|rfl)|h
   .exact arp hup (h2 f (mem_of_mem_take h))
   .exact asc (show(Fx o).pk=_ from kp) k1 k8 aah (asR hpk zO)
   .exact arp hup (h2 f (mem_of_mem_drop h))
open Go.yU (CV)
open Go.Sq (CE)
open Go.Bd (BE)
open Go.Tx (MK)
def lsV(l:List CV):CV:=.mk 3 0 .empty l
end Go.Dc
namespace Go.Dc
open Go Go.Am Go.Proofs Go.eY Go.bH
open Go.bV (OP op)
open Go.yU (CV rR val Cy iB fA)
theorem azd(t:Bool)(xs:List (List AV))(h:True):Cq 53 [.sl 4 t xs] (.agg [int 3,int 0,str ByteArray.empty,.sl 4 false xs]):=by
 have _:=h;exact ak.out ((show Cq 53 [.sl 4 t xs] (.agg [int 3,int 0,str (ByteArray.mk #[]),.sl 4 t xs])from aj [])) (aF.qo ⟨aF.refl _,aF.refl _,aF.refl _,(aF.oP _ _ _),yO⟩)
theorem aze  (h:True):Cq 53 [aK] (.agg [int 3,int 0,str ByteArray.empty,aK]):=by
 have _:=h;exact aj []
theorem azf(t:Bool)(xs:List (List AV)):Cq 53 [.sl 4 t xs] (.agg [int 3,int 0,str .empty,.sl 4 false xs]):=azd t xs trivial
theorem aw6:Cq 53 [aK] (.agg [int 3,int 0,str .empty,aK]):=aze trivial
def azK:List AV:=[int 0,int 0,str .empty,aK]
def azL:List AV:=[int 3,int 0,str .empty,aK]
def a0S(f:AV)(s k:Nat)(xs:List (List AV)):St:={ aL:=aC 25 [(1,f),(4,.ptr 0 0),(5,.ptr 1 0),(9,.sl s false xs),(10,int xs.length),(11,int k)],H:=[.box azK,.box azL] }
theorem aye(f:AV)(h:True):Rq 0 73 0 (a0S f 2 0 []) (bF.exit 0) (sM 25 [(4,.ptr 0 0),(5,.ptr 1 0)] [.box azK,.box azL]):=by
 have _:=h;exact aG [kY] (aB 25 [4,5]) 2
theorem ayC  (h:True):Cq 73 [bB [],gP 74] (.agg azL):=by
 have _:=h;exact aj [kc [] (@aw6 ),kl (rG [(0,1),(2,2),(6,3),(12,13)]) 2 (@aye (iL 74) (trivial))]
theorem ayf(f:AV)(h:True):Rq 0 76 0 (a0S f 7 0 []) (bF.exit 0) (sM 25 [(4,.ptr 0 0),(5,.ptr 1 0)] [.box azK,.box azL]):=by
 have _:=h;exact aG [kY] (aB 25 [4,5]) 2
theorem ayD  (h:True):Cq 76 [Md [],gP 77] (.agg azL):=by
 have _:=h;exact aj [kc [] (@aw6 ),kl (rG [(0,1),(2,2),(6,3),(12,13)]) 2 (@ayf (iL 77) (trivial))]
theorem azg(d:DO)(s f:List CV)(b:List UInt8)(e:Int)(hC:Cq 17 [kI d] (int 0))(hs:Cq 73 [bB d.sn,gP 74] (rR 3 0 .empty s))(hf:Cq 76 [Md d.fs,gP 77] (rR 3 0 .empty f))(hE:Cq 37 [rR 3 0 .empty [lsV s,lsV f]] (.bq [Cy b,int e]))(h:True):Cq 21 [kI d] (.bq [Cy b,int e]):=by
 have _:=h;exact aj [kc [] hC,kY,kc [] hs,kc [] hf,kc [] (@azf (true) ([[int 3,int 0,str ByteArray.empty,AV.sl 4 false (iB s)],[int 3,int 0,str ByteArray.empty,AV.sl 4 false (iB f)]])),kc [] hE]
def rdX(d:DO):St:={ aL:=aC 50 [(2,.ptr 1 0)],H:=[.box [bB d.sn,Md d.fs],.box azL] }
def rd0(d:DO)(k:Nat):St:={ aL:=aC 50 [(2,.ptr 1 0),(17,Md d.fs),(18,int d.fs.length),(19,int k)],H:=[.box [bB d.sn,Md d.fs],.box azL] }
theorem azh(d:DO)(hk:¬(0:Int)<(d.fs.length:Int))(h:True):Rq 0 15 0 (rd0 d 0) (bF.exit 0) (rdX d):=by
 have _:=h;exact aG [kj ((0:Int)<(↑(length d.fs):Int))] (aB 50 [2]) 2
theorem apv(d:DO)(hC:Cq 17 [kI d] (int 0))(hL:Rq 0 15 0 (rd0 d 0) (.exit 0) (rdX d))(h:True):Cq 15 [kI d] (.bq [.agg azL,int 0]):=by
 have _:=h;exact aj [kc [] hC,kY,kc [] (@aw6 ),kN 18 (fE d.fs),kl (rG [(0,2),(3,14),(20,30)]) 2 hL]
theorem azi(e:Int)(he:¬e=0)(b:List UInt8)(v:CV)(hC:Cq 82 [Cy b] (.bq [val v,int e]))(h:True):Cq 23 [Cy b] (.bq [Rf,int e]):=by
 have _:=h;exact aj [kc [] hC,kt (show(e != 0)=true from(yJ Bool.not (qF zO)))]
def ayE(a b c:Int)(s t:yP):OP:=⟨a,b,c,[],1,s,1,0,0,0,0,0,0,.empty,t,0,false⟩
theorem ayF(a b c:Int)(s t:yP)(h:True):Cq 36 [int a,int b,int c,str s,str t] (op (ayE a b c s t)):=by
 have _:=h;exact ak.out ((show Cq 36 [int a,int b,int c,str s,str t] (.agg [int a,int b,int c,aK,int 1,str s,int 1,int 0,int 0,int 0,int 0,int 0,int 0,str (ByteArray.mk #[]),str t,int 0,Am.bool false])from aj [])) (aF.qo ⟨aF.refl _,aF.refl _,aF.refl _,(aF.nil _),aF.refl _,aF.refl _,aF.refl _,aF.refl _,aF.refl _,aF.refl _,aF.refl _,aF.refl _,aF.refl _,aF.refl _,aF.refl _,aF.refl _,aF.refl _,yO⟩)
end Go.Dc
namespace Go.Dc
open Go Go.Am Go.Proofs Go.eY Go.bH
open Go.bV (OP op jy)
open Go.yU (CV rR Cy val)
def erO:OP:=⟨2,1,2,[(1,1)],1,⟨#[98]⟩,2,1,1,0,0,0,0,.empty,.empty,0,false⟩
def zoO:OP:=⟨0,0,0,[],0,.empty,0,0,0,0,0,0,0,.empty,.empty,0,false⟩
abbrev iOc:OP:=ayE 1 1 1 ⟨#[97]⟩ ⟨#[118]⟩
def erL:List AV:=[int 2,int 1,int 2,.sl 2 true [[int 1,int 1]],int 1,str ⟨#[98]⟩,int 2,int 1,int 1,int 0,int 0,int 0,int 0,str .empty,str .empty,int 0,Am.bool false]
def zoL:List AV:=[int 0,int 0,int 0,aK,int 0,str .empty,int 0,int 0,int 0,int 0,int 0,int 0,int 0,str .empty,str .empty,int 0,Am.bool false]
def baL:AV:=.agg [.sl 2 true [[int (-1),int 0]],aK]
theorem ayg(x y:DO)(f1 g1 g2:FD)(hx:x.fs[0]?=some f1)(hy:y.fs[1]?=some g2)(lx:x.fs.length=1)(ly:y.fs.length=2)(lc:f1.ce.length=1)(lg:g2.ce.length=0)(ls:y.sn.length=2)(b:List UInt8)(c1:Cq 36 [int 1,int 1,int 1,str ⟨#[97]⟩,str ⟨#[118]⟩] (op iOc))(a1:Cq 12 [Rf,op iOc] (.bq [kI x,int 0]))(a2:Cq 12 [kI x,.agg erL] (.bq [kI y,int 0]))(a3:Cq 12 [Rf,.agg erL] (.bq [Rf,int 181]))(a4:Cq 12 [kI x,op iOc] (.bq [Rf,int 182]))(a5:Cq 12 [Rf,.agg zoL] (.bq [Rf,int 170]))(r:Cq 15 [Rf] (.bq [rR 3 0 .empty [],int 0]))(e:Cq 21 [Rf] (.bq [Cy b,int 0]))(ce:Cq 37 [.agg [int 3,int 0,str .empty,.sl 4 true [[int 3,int 0,str .empty,aK],[int 3,int 0,str .empty,aK]]]] (.bq [Cy b,int 0]))(d:Cq 23 [aK] (.bq [Rf,int 10]))(a6:Cq 12 [baL,.agg zoL] (.bq [Rf,int 180]))(o:Cq 25 [.agg zoL] (int 170))(s:Cq 20 [rR 3 0 .empty [],.agg [int 3,int 0,str .empty,aK]] (Am.bool true))(k1:Cq 17 [Rf] (int 0))(k2:Cq 17 [baL] (int 180))(m1:Cq 19 [kI x,kI x] (Am.bool true))(m2:Cq 19 [kI x,kI y] (Am.bool false))(h:((((ByteArray.toList (ByteArray.mk (toArray b))==ByteArray.toList (ByteArray.mk (toArray b)))=true)->True)/\(((ByteArray.toList (ByteArray.mk (toArray b))==ByteArray.toList (ByteArray.mk (toArray b)))=false)->(false)=(true)))):Cq 10 [] (Am.bool true):=by
 have aln:yU.jl b=List.map (fun(c:UInt8)=>[AV.lit (Value.int IntKind.u8 (↑(UInt8.toNat c):Int))]) (Array.toList (Array.mk b)):=(rfl);let l1:List fP:=[kc [] c1,kc [] a1,kc [] a2,kc [] a3,kc [] c1,kc [] a4,kc [] a5,kc [] r,kc [] e,kc [] ce,kc [] d,kc [] a6,kO,kN 98 (fE x.fs),kt (show((↑(length x.fs):Int)==1)=true from(qT zO)),ke (jB f1) (dA x.fs) (0:Int) (bG hx),kv 107 (show Am.aF (int (↑(length (Sq.au f1.ce)):Int)) (int ↑(length f1.ce))from(aF.of_eq (by simp only[Go.Sq.ay]))),kt (show((↑(length f1.ce):Int)==1)=true from(qT zO)),kO,kN 117 (fE y.fs),kt (show((↑(length y.fs):Int)==2)=true from(qT zO)),ke (jB g2) (dA y.fs) (1:Int) (bG hy),kv 126 (show Am.aF (int (↑(length (Sq.au g2.ce)):Int)) (int ↑(length g2.ce))from(aF.of_eq (by simp only[Go.Sq.ay]))),kt (show((↑(length g2.ce):Int)==0)=true from(qT zO)),kN 132 (Go.bH.ay y.sn),kt (show((↑(length y.sn):Int)==2)=true from(qT zO)),kO,kO,kO,kc [] o,kO,kO,kc [] s,kO,kO,kO,ko (bC.bytes (ByteArray.mk (toArray b))),ko (bC.bytes (ByteArray.mk (toArray b))),kp aln,kp aln];rcases Bool.eq_false_or_eq_true ((ByteArray.toList (ByteArray.mk (toArray b))==ByteArray.toList (ByteArray.mk (toArray b))))with c6|c6
 .have h:=h.1 c6;have _:=h;exact aj (l1++[kt c6,kO,kO,kc [] k1,kO,kc [] k2,kO,kc [] m1,kO,kc [] m2])
 .have h:=h.2 c6;exact aA (aF.aI h) (l1++[kf c6,kY,kY,kY,kY,kY])
end Go.Dc
namespace Go.Dc
open Go Go.Am Go.Proofs Go.eY Go.bH
def ta0(a:List TL)(k:Nat):St:={ aL:=aC 26 [(0,mF a),(1,mF a),(4,Am.bool false),(5,int k)],H:=[] }
theorem an7(a:List TL)(k:Nat)(x:TL)(hv:a.length<=1000000000)(hk:(k:Int)<(a.length:Int))(hx:a[k]?=some x)(ex:bF)(s':St)(h:((((x.1==x.1&&(Prod.fst x.2==Prod.fst x.2&&Prod.snd x.2==Prod.snd x.2))=true)->Rq 0 100 0 (sM 26 [(0,.sl 3 false (lH a)),(1,.sl 3 false (lH a)),(4,Am.bool false),(5,int ↑(k+1))] []) ex s')/\(((x.1==x.1&&(Prod.fst x.2==Prod.fst x.2&&Prod.snd x.2==Prod.snd x.2))=false)->(bF.ret=ex)/\(sM 26 [(4,Am.bool false)] []=s')))):Rq 0 100 0 (ta0 a k) ex s':=by
 have jw:(0:Int)<=(k:Int)/\(lH a)[Int.toNat (k:Int)]?=some (ze x):=(bG hx);let l1:List fP:=[kN 13 (dP a),ki ((k:Int)<a.length),ko (bC.elem (ze x)),ko (bC.elem (ze x)),kp jw,kp jw];rcases Bool.eq_false_or_eq_true ((x.1==x.1&&(Prod.fst x.2==Prod.fst x.2&&Prod.snd x.2==Prod.snd x.2)))with c2|c2
 .have h:=h.1 c2;exact aJ (l1++[kf (yJ Bool.not (c2)),kW 16 (k+1) ↑(k+1)]) (aB 26 [0,1,4,5]) 0 h
 .have h:=h.2 c2;obtain⟨eX,eS⟩:=h;exact bN.to ((aG (l1++[kt (show(!(x.1==x.1&&(Prod.fst x.2==Prod.fst x.2&&Prod.snd x.2==Prod.snd x.2)))=true from(yJ Bool.not (c2)))]) (aB 26 [4]) 0)) eX (eB.of_eq eS)
theorem an8(a:List TL)(k:Nat)(hk:¬(k:Int)<(a.length:Int))(h:True):Rq 0 100 0 (ta0 a k) (bF.exit 0) (sM 26 [(4,Am.bool false)] []):=by
 exact aG [kN 13 (dP a),kj ((k:Int)<a.length)] (aB 26 [4]) 0
theorem an9(a:List TL)(hL:Rq 0 100 0 (ta0 a 0) (.exit 0) { aL:=aC 26 [(4,Am.bool false)],H:=[] })(h:True):Cq 100 [mF a,mF a] (Am.bool true):=by
 have bS:=lU (dP a);exact aj [kv 7 bS,kv 9 bS,kf (show((a.length:Int)!=(a.length:Int))=false from(yJ Bool.not (qT zO))),kl (rG [(2,2),(6,20)]) 0 hL]
def sc0(a:List Sq.CE)(k:Nat):St:={ aL:=aC 26 [(0,Sq.bZ a),(1,Sq.bZ a),(4,Am.bool false),(5,int k)],H:=[] }
theorem aoa(a:List Sq.CE)(k:Nat)(x:Sq.CE)(hv:a.length<=1000000000)(hk:(k:Int)<(a.length:Int))(hx:a[k]?=some x)(ex:bF)(s':St)(h:((((x.dv==x.dv&&(x.sq==x.sq&&(x.gU==x.gU&&(x.ad==x.ad&&(x.j6==x.j6&&(x.aa==x.aa&&(x.tm==x.tm&&(x.vl==x.vl&&x.gn==x.gn))))))))=true)->Rq 0 200 0 (sM 26 [(0,.sl 9 false (Sq.au a)),(1,.sl 9 false (Sq.au a)),(4,Am.bool false),(5,int ↑(k+1))] []) ex s')/\(((x.dv==x.dv&&(x.sq==x.sq&&(x.gU==x.gU&&(x.ad==x.ad&&(x.j6==x.j6&&(x.aa==x.aa&&(x.tm==x.tm&&(x.vl==x.vl&&x.gn==x.gn))))))))=false)->(bF.ret=ex)/\(sM 26 [(4,Am.bool false)] []=s')))):Rq 0 200 0 (sc0 a k) ex s':=by
 have jw:(0:Int)<=(k:Int)/\(Sq.au a)[Int.toNat (k:Int)]?=some (Sq.aQ x):=(bG hx);let l1:List fP:=[kv 13 (show Am.aF (int (↑(length (Sq.au a)):Int)) (int ↑a.length)from(aF.of_eq (by simp only[Go.Sq.ay]))),ki ((k:Int)<a.length),ko (bC.elem (Sq.aQ x)),ko (bC.elem (Sq.aQ x)),kp jw,kp jw];rcases Bool.eq_false_or_eq_true ((x.dv==x.dv&&(x.sq==x.sq&&(x.gU==x.gU&&(x.ad==x.ad&&(x.j6==x.j6&&(x.aa==x.aa&&(x.tm==x.tm&&(x.vl==x.vl&&x.gn==x.gn)))))))))with c2|c2
 .have h:=h.1 c2;exact aJ (l1++[kf (yJ Bool.not (c2)),kW 16 (k+1) ↑(k+1)]) (aB 26 [0,1,4,5]) 0 h
 .have h:=h.2 c2;obtain⟨eX,eS⟩:=h;exact bN.to ((aG (l1++[kt (show(!(x.dv==x.dv&&(x.sq==x.sq&&(x.gU==x.gU&&(x.ad==x.ad&&(x.j6==x.j6&&(x.aa==x.aa&&(x.tm==x.tm&&(x.vl==x.vl&&x.gn==x.gn)))))))))=true from(yJ Bool.not (c2)))]) (aB 26 [4]) 0)) eX (eB.of_eq eS)
theorem aob(a:List Sq.CE)(k:Nat)(hk:¬(k:Int)<(a.length:Int))(h:True):Rq 0 200 0 (sc0 a k) (bF.exit 0) (sM 26 [(4,Am.bool false)] []):=by
 exact aG [kv 13 (show Am.aF (int (↑(length (Sq.au a)):Int)) (int ↑a.length)from(aF.of_eq (by simp only[Go.Sq.ay]))),kj ((k:Int)<a.length)] (aB 26 [4]) 0
theorem aoc(a:List Sq.CE)(hL:Rq 0 200 0 (sc0 a 0) (.exit 0) { aL:=aC 26 [(4,Am.bool false)],H:=[] })(h:True):Cq 200 [Sq.bZ a,Sq.bZ a] (Am.bool true):=by
 have bS:Am.aF (int (↑(length (Sq.au a)):Int)) (int ↑a.length):=(aF.of_eq (by simp only[Go.Sq.ay]));exact aj [kv 7 bS,kv 9 bS,kf (show((a.length:Int)!=(a.length:Int))=false from(yJ Bool.not (qT zO))),kl (rG [(2,2),(6,20)]) 0 hL]
abbrev sxB(t:Tx.TE):List ah:=[.box [Sq.bZ t.cells,Tx.oI t.bQ],.box [Sq.bZ t.cells,Tx.oI t.bQ]]
def sx0(t:Tx.TE)(k:Nat):St:={ aL:=aC 39 [(2,.ptr 0 0),(3,.ptr 1 0),(4,Am.bool false),(5,int k)],H:=sxB t }
theorem aod(t:Tx.TE)(k:Nat)(x:Tx.MK)(hv:t.bQ.length<=1000000000)(hk:(k:Int)<(t.bQ.length:Int))(hx:t.bQ[k]?=some x)(ex:bF)(s':St)(h:((((x.dv==x.dv&&(x.sq==x.sq&&(x.tm==x.tm&&(x.fd==x.fd&&(x.fs==x.fs&&(x.fa==x.fa&&(x.td==x.td&&(x.ts==x.ts&&(x.ta==x.ta&&(x.st==x.st&&x.on==x.on))))))))))=true)->Rq 0 101 0 (sM 39 [(2,.ptr 0 0),(3,.ptr 1 0),(4,Am.bool false),(5,int ↑(k+1))] [.box [.sl 9 false (Sq.au t.cells),.sl 11 false (Tx.au t.bQ)],.box [.sl 9 false (Sq.au t.cells),.sl 11 false (Tx.au t.bQ)]]) ex s')/\(((x.dv==x.dv&&(x.sq==x.sq&&(x.tm==x.tm&&(x.fd==x.fd&&(x.fs==x.fs&&(x.fa==x.fa&&(x.td==x.td&&(x.ts==x.ts&&(x.ta==x.ta&&(x.st==x.st&&x.on==x.on))))))))))=false)->(bF.ret=ex)/\(sM 39 [(4,Am.bool false)] [.box [.sl 9 false (Sq.au t.cells),.sl 11 false (Tx.au t.bQ)],.box [.sl 9 false (Sq.au t.cells),.sl 11 false (Tx.au t.bQ)]]=s')))):Rq 0 101 0 (sx0 t k) ex s':=by
 have jw:(0:Int)<=(k:Int)/\(Tx.au t.bQ)[Int.toNat (k:Int)]?=some (Tx.aQ x):=(bG hx);let l1:List fP:=[kv 24 (show Am.aF (int (↑(length (Tx.au t.bQ)):Int)) (int ↑(length t.bQ))from(aF.of_eq (by simp only[Go.Tx.ay]))),ki ((k:Int)<(↑(length t.bQ):Int)),ko (bC.elem (Tx.aQ x)),ko (bC.elem (Tx.aQ x)),kp jw,kp jw];rcases Bool.eq_false_or_eq_true ((x.dv==x.dv&&(x.sq==x.sq&&(x.tm==x.tm&&(x.fd==x.fd&&(x.fs==x.fs&&(x.fa==x.fa&&(x.td==x.td&&(x.ts==x.ts&&(x.ta==x.ta&&(x.st==x.st&&x.on==x.on)))))))))))with c2|c2
 .have h:=h.1 c2;exact aJ (l1++[kf (yJ Bool.not (c2)),kW 27 (k+1) ↑(k+1)]) (aB 39 [2,3,4,5]) 2 h
 .have h:=h.2 c2;obtain⟨eX,eS⟩:=h;exact bN.to ((aG (l1++[kt (show(!(x.dv==x.dv&&(x.sq==x.sq&&(x.tm==x.tm&&(x.fd==x.fd&&(x.fs==x.fs&&(x.fa==x.fa&&(x.td==x.td&&(x.ts==x.ts&&(x.ta==x.ta&&(x.st==x.st&&x.on==x.on)))))))))))=true from(yJ Bool.not (c2)))]) (aB 39 [4]) 2)) eX (eB.of_eq eS)
theorem aoe(t:Tx.TE)(k:Nat)(hk:¬(k:Int)<(t.bQ.length:Int))(h:True):Rq 0 101 0 (sx0 t k) (bF.exit 0) (St.mk (aC 39 [(4,Am.bool false)]) (sxB t) []):=by
 exact aG [kv 24 (show Am.aF (int (↑(length (Tx.au t.bQ)):Int)) (int ↑(length t.bQ))from(aF.of_eq (by simp only[Go.Tx.ay]))),kj ((k:Int)<(↑(length t.bQ):Int))] (aB 39 [4]) 2
theorem aof(t:Tx.TE)(hS:Cq 200 [Sq.bZ t.cells,Sq.bZ t.cells] (Am.bool true))(hL:Rq 0 101 0 (sx0 t 0) (.exit 0) { aL:=aC 39 [(4,Am.bool false)],H:=sxB t })(h:True):Cq 101 [Tx.mG t,Tx.mG t] (Am.bool true):=by
 have fT:Am.aF (int (↑(length (Tx.au t.bQ)):Int)) (int ↑(length t.bQ)):=(aF.of_eq (by simp only[Go.Tx.ay]));exact aj [kc [] hS,kY,kv 15 fT,kv 18 fT,kf (show((↑(length t.bQ):Int)!=(↑(length t.bQ):Int))=false from(yJ Bool.not (qT zO))),kl (rG [(0,2),(6,33)]) 2 hL]
theorem aog(f:FD)(h3:Cq 98 [Sq.bZ f.ce,Sq.bZ f.ce] (Am.bool true))(h4:Cq 99 [Bd.iK f.bi,Bd.iK f.bi] (Am.bool true))(h5:Cq 100 [mF f.ta,mF f.ta] (Am.bool true))(h6:Cq 101 [Tx.mG (Gb f),Tx.mG (Gb f)] (Am.bool true))(o:Bool)(h:((((f.pk==f.pk&&f.pn==f.pn)=true)->(true)=(o))/\(((f.pk==f.pk&&f.pn==f.pn)=false)->(false)=(o)))):Cq 30 [.agg (jB f),.agg (jB f)] (Am.bool o):=by
 rcases Bool.eq_false_or_eq_true ((f.pk==f.pk&&f.pn==f.pn))with c1|c1
 .have h:=h.1 c1;exact aA (aF.aI h) [kt c1,kc [] h3,kO,kc [] h4,kO,kc [] h5,kO,kc [] h6]
 .have h:=h.2 c1;exact aA (aF.aI h) [kf c1,kY,kY,kY]
open Go.Bd (BE)
open Go.Tx (MK)
def eqS{α:Type}(E:α->List AV)(s:Nat)(a b:List α)(k:Nat):St:={ aL:=aC 26 [(0,slF E s a),(1,slF E s b),(4,Am.bool false),(11,slF E s a),(12,int a.length),(13,int k)],H:=[] }
abbrev eqX:St:={ aL:=aC 26 [(4,Am.bool false)],H:=[] }
abbrev EqQ(s F:Nat):Prop:=(s=3/\F=70)\/(s=5/\F=69)\/(s=11/\F=71)
structure EqW{α:Type}(E:α->List AV)(s F:Nat)(c:α->α->Bool):Prop where
 y:∀(a b:List α)(k:Nat)(x y:α),(k:Int)<a.length->a[k]?=some x->b[k]?=some y->c x y=true->∀(ex:bF)(s':St),Rq 0 F 0 (eqS E s a b (k+1)) ex s'->a.length<=1000000000->Rq 0 F 0 (eqS E s a b k) ex s'
 n:∀(a b:List α)(k:Nat)(x y:α),(k:Int)<a.length->a[k]?=some x->b[k]?=some y->c x y=false->Rq 0 F 0 (eqS E s a b k) .ret eqX
 i:∀x y,c x y=true↔x=y
abbrev eqI{α:Type}(E:α->List AV)(a b:List α)(k:Nat)(x y:α)(hk:(k:Int)<a.length)(hx:a[k]?=some x)(hy:b[k]?=some y):List fP:=[ki ((k:Int)<a.length),ko (bC.elem (E x)),ko (bC.elem (E y)),kp (show(0:Int)<=(k:Int)/\(List.map E a)[Int.toNat (k:Int)]?=some (E x)from(bG hx)),kp (show(0:Int)<=(k:Int)/\(List.map E b)[Int.toNat (k:Int)]?=some (E y)from(bG hy))]
theorem azj:EqW ze 3 70 (fun x y:TL=>x.1==y.1&&(x.2.1==y.2.1&&x.2.2==y.2.2)) where
 y a b k x y hk hx hy hc _ _ h ha:=aJ (eqI ze a b k x y hk hx hy++[kf (yJ Bool.not hc),kW 25 (k+1) ↑(k+1)]) (aB 26 [0,1,4,11,12,13]) 0 h
 n a b k x y hk hx hy hc:=aG (eqI ze a b k x y hk hx hy++[kt (yJ Bool.not hc)]) (aB 26 [4]) 0
 i x y:=by cases x;cases y;simp[Sq.tN,bV.bool_beq,Prod.ext_iff]
theorem azk:EqW Bd.aQ 5 69 (fun x y:BE=>x.ky==y.ky&&(x.dv==y.dv&&(x.sq==y.sq&&(x.tm==y.tm&&x.vl==y.vl)))) where
 y a b k x y hk hx hy hc _ _ h ha:=aJ (eqI Bd.aQ a b k x y hk hx hy++[kf (yJ Bool.not hc),kW 25 (k+1) ↑(k+1)]) (aB 26 [0,1,4,11,12,13]) 0 h
 n a b k x y hk hx hy hc:=aG (eqI Bd.aQ a b k x y hk hx hy++[kt (yJ Bool.not hc)]) (aB 26 [4]) 0
 i x y:=by cases x;cases y;simp[Sq.tN,bV.bool_beq]
theorem azl:EqW Tx.aQ 11 71 (fun x y:MK=>x.dv==y.dv&&(x.sq==y.sq&&(x.tm==y.tm&&(x.fd==y.fd&&(x.fs==y.fs&&(x.fa==y.fa&&(x.td==y.td&&(x.ts==y.ts&&(x.ta==y.ta&&(x.st==y.st&&x.on==y.on)))))))))) where
 y a b k x y hk hx hy hc _ _ h ha:=aJ (eqI Tx.aQ a b k x y hk hx hy++[kf (yJ Bool.not hc),kW 25 (k+1) ↑(k+1)]) (aB 26 [0,1,4,11,12,13]) 0 h
 n a b k x y hk hx hy hc:=aG (eqI Tx.aQ a b k x y hk hx hy++[kt (yJ Bool.not hc)]) (aB 26 [4]) 0
 i x y:=by cases x;cases y;simp[Sq.tN,bV.bool_beq]
section
variable {α:Type} {E:α->List AV} {s F:Nat} {c:α->α->Bool} (q:EqQ s F) (w:EqW E s F c)
include q
theorem ayG(a b:List α)(k:Nat)(hk:¬(k:Int)<a.length):Rq 0 F 0 (eqS E s a b k) (.exit 0) eqX:=by
 rcases q with⟨rfl,rfl⟩|⟨rfl,rfl⟩|⟨rfl,rfl⟩<;>exact aG [kj ((k:Int)<a.length)] (aB 26 [4]) 0
theorem ayH(a b:List α)(hl:a.length=b.length)(ex:bF)(o:Bool)(hL:Rq 0 F 0 (eqS E s a b 0) ex eqX)(h:(ex = .exit 0/\o=true)\/(ex = .ret/\o=false)):Cq F [slF E s a,slF E s b] (Am.bool o):=by
 rcases h with⟨rfl,rfl⟩|⟨rfl,rfl⟩<;>rcases q with⟨rfl,rfl⟩|⟨rfl,rfl⟩|⟨rfl,rfl⟩<;>exact aj [kN 7 (show(a.map E).length=a.length from length_map E),kN 9 (show(b.map E).length=b.length from length_map E),kf (show((a.length:Int)!=(b.length:Int))=false from yJ Bool.not (qT zO)),kN 12 (show(a.map E).length=a.length from length_map E),kl (rG [(2,2),(5,6),(14,12)]) 0 hL]
theorem ayI(a b:List α)(hl:¬a.length=b.length):Cq F [slF E s a,slF E s b] (Am.bool false):=by
 rcases q with⟨rfl,rfl⟩|⟨rfl,rfl⟩|⟨rfl,rfl⟩<;>exact aj [kN 7 (show(a.map E).length=a.length from length_map E),kN 9 (show(b.map E).length=b.length from length_map E),kt (show((a.length:Int)!=(b.length:Int))=true from yJ Bool.not (qF zO))]
include w
theorem ayJ[DecidableEq α](a b:List α)(ha:a.length<=1000000000)(hl:a.length=b.length):∀n k,a.length-k=n->k<=a.length->Rq 0 F 0 (eqS E s a b k) (if a.drop k=b.drop k then .exit 0 else .ret) eqX:=by
 intro n
 induction n with
 |zero =>
  intro k hn hk;rw[yL (by rw[drop_of_length_le zO,drop_of_length_le zO])];exact ayG q a b k zO
 |succ n ih =>
  intro k hn hk;have h1:k<a.length:=zO
  have h2:k<b.length:=zO
  have hx:=yA h1;have hy:=yA h2;have e:(a.drop k=b.drop k)=(a[k]=b[k]/\a.drop (k+1)=b.drop (k+1)):=by
   rw[drop_eq_getElem_cons h1,drop_eq_getElem_cons h2,List.cons.injEq]
  by_cases he:a[k]=b[k]
  .have nx:=ih (k+1) zO zO;simp only[e,he,true_and];exact w.y a b k _ _ zO hx hy ((w.i _ _).2 he) _ _ nx ha
  .rw [yK (by rw[e];exact fun h=>he h.1)];exact w.n a b k _ _ zO hx hy (Bool.eq_false_iff.2 fun h=>he ((w.i _ _).1 h))
theorem aw7[DecidableEq α](a b:List α)(ha:a.length<=1000000000):Cq F [slF E s a,slF E s b] (Am.bool (decide (a=b))):=by
 by_cases hl:a.length=b.length
 .have h:=ayJ q w a b ha hl _ 0 rfl yN;rw[drop_zero,drop_zero]at h;refine ayH q a b hl _ _ h ?_;by_cases e:a=b
  .rw [yL e];exact .inl ⟨rfl,decide_eq_true e⟩
  .rw [yK e];exact .inr ⟨rfl,decide_eq_false e⟩
 .rw [decide_eq_false fun e=>hl (by rw[e])];exact ayI q a b hl
end
theorem ayK(a b:List TL)(ha:a.length<=1000000000):Cq 70 [mF a,mF b] (Am.bool (decide (a=b))):=aw7 zD azj a b ha
theorem ayL(a b:List BE)(ha:a.length<=1000000000):Cq 69 [Bd.iK a,Bd.iK b] (Am.bool (decide (a=b))):=aw7 zD azk a b ha
theorem ayM(a b:List MK)(ha:a.length<=1000000000):Cq 71 [Tx.oI a,Tx.oI b] (Am.bool (decide (a=b))):=aw7 zD azl a b ha
theorem ayN(f g:FD)(b1 b2 b3 b4 b5:Bool)(h1:Cq 68 [Sq.bZ f.ce,Sq.bZ g.ce] (Am.bool b1))(h2:Cq 69 [Bd.iK f.bi,Bd.iK g.bi] (Am.bool b2))(h3:Cq 70 [mF f.ta,mF g.ta] (Am.bool b3))(h4:Cq 68 [Sq.bZ f.tc,Sq.bZ g.tc] (Am.bool b4))(h5:Cq 71 [Tx.oI f.tm,Tx.oI g.tm] (Am.bool b5))(o:Bool)(h:((((f.pk==g.pk&&f.pn==g.pn)=true)->((((b1)=true)->((((b2)=true)->((((b3)=true)->((((b4)=true)->(b5)=(o))/\(((b4)=false)->(false)=(o))))/\(((b3)=false)->(false)=(o))))/\(((b2)=false)->(false)=(o))))/\(((b1)=false)->(false)=(o))))/\(((f.pk==g.pk&&f.pn==g.pn)=false)->(false)=(o)))):Cq 67 [.agg (jB f),.agg (jB g)] (Am.bool o):=by
 rcases Bool.eq_false_or_eq_true ((f.pk==g.pk&&f.pn==g.pn))with c1|c1
 .have h:=h.1 c1;rcases Bool.eq_false_or_eq_true ((b1))with c2|c2
  .have h:=h.1 c2;let l1:List fP:=[kt c1,kc [] h1,kt c2,kc [] h2];rcases Bool.eq_false_or_eq_true ((b2))with c3|c3
   .have h:=h.1 c3;rcases Bool.eq_false_or_eq_true ((b3))with c4|c4
    .have h:=h.1 c4;rcases Bool.eq_false_or_eq_true ((b4))with c5|c5
     .have h:=h.1 c5;exact aA (aF.aI h) (l1++[kt c3,kc [] h3,kt c4,kc [] h4,kt c5,kc [] h5])
     .have h:=h.2 c5;exact aA (aF.aI h) (l1++[kt c3,kc [] h3,kt c4,kc [] h4,kf c5])
    .have h:=h.2 c4;exact aA (aF.aI h) (l1++[kt c3,kc [] h3,kf c4,kY])
   .have h:=h.2 c3;exact aA (aF.aI h) (l1++[kf c3,kY,kY])
  .have h:=h.2 c2;exact aA (aF.aI h) [kt c1,kc [] h1,kf c2,kY,kY,kY]
 .have h:=h.2 c1;exact aA (aF.aI h) [kf c1,kY,kY,kY,kY]
def seS(a b:List FD)(k:Nat):St:={ aL:=aC 32 [(0,Md a),(1,Md b),(2,gP 67),(6,Am.bool false),(15,Md a),(16,int a.length),(17,int k)],H:=[] }
abbrev seX:St:={ aL:=aC 32 [(6,Am.bool false)],H:=[] }
theorem azm(a b:List FD)(k:Nat)(x y:FD)(ha:a.length<=1000000000)(hk:(k:Int)<(a.length:Int))(hx:a[k]?=some x)(hy:b[k]?=some y)(hF:Cq 67 [.agg (jB x),.agg (jB y)] (Am.bool true))(ex:bF)(s':St)(h:Rq 0 66 0 (sM 32 [(0,.sl 7 false (dA a)),(1,.sl 7 false (dA b)),(2,iL 67),(6,Am.bool false),(15,.sl 7 false (dA a)),(16,int ↑a.length),(17,int ↑(k+1))] []) ex s'):Rq 0 66 0 (seS a b k) ex s':=by
 exact aJ [ki ((k:Int)<a.length),ko (bC.elem (jB x)),ko (bC.elem (jB y)),kp (show(0:Int)<=(k:Int)/\(dA a)[Int.toNat (k:Int)]?=some (jB x)from(bG hx)),kp (show(0:Int)<=(k:Int)/\(dA b)[Int.toNat (k:Int)]?=some (jB y)from(bG hy)),kc [] hF,kY,kW 31 (k+1) ↑(k+1)] (aB 32 [0,1,2,6,15,16,17]) 0 h
theorem azn(a b:List FD)(k:Nat)(x y:FD)(ha:a.length<=1000000000)(hk:(k:Int)<(a.length:Int))(hx:a[k]?=some x)(hy:b[k]?=some y)(hF:Cq 67 [.agg (jB x),.agg (jB y)] (Am.bool false))(h:True):Rq 0 66 0 (seS a b k) bF.ret seX:=by
 have _:=h;exact aG [ki ((k:Int)<a.length),ko (bC.elem (jB x)),ko (bC.elem (jB y)),kp (show(0:Int)<=(k:Int)/\(dA a)[Int.toNat (k:Int)]?=some (jB x)from(bG hx)),kp (show(0:Int)<=(k:Int)/\(dA b)[Int.toNat (k:Int)]?=some (jB y)from(bG hy)),kc [] hF,kO] (aB 32 [6]) 0
theorem azo(a b:List FD)(k:Nat)(hk:¬(k:Int)<(a.length:Int))(h:True):Rq 0 66 0 (seS a b k) (bF.exit 0) seX:=by
 have _:=h;exact aG [kj ((k:Int)<a.length)] (aB 32 [6]) 0
theorem azp(a b:List FD)(hl:a.length=b.length)(hL:Rq 0 66 0 (seS a b 0) (.exit 0) seX)(h:True):Cq 66 [Md a,Md b,gP 67] (Am.bool true):=by
 have bS:=lU (fE a);have _:=h;exact aj [kv 11 bS,kN 13 (fE b),kf (show((a.length:Int)!=(b.length:Int))=false from(yJ Bool.not (qT zO))),kv 16 bS,kl (rG [(3,3),(7,8),(18,14)]) 0 hL]
theorem azq(a b:List FD)(hl:a.length=b.length)(hL:Rq 0 66 0 (seS a b 0) .ret seX)(h:True):Cq 66 [Md a,Md b,gP 67] (Am.bool false):=by
 have bS:=lU (fE a);have _:=h;exact aj [kv 11 bS,kN 13 (fE b),kf (show((a.length:Int)!=(b.length:Int))=false from(yJ Bool.not (qT zO))),kv 16 bS,kl (rG [(3,3),(7,8),(18,14)]) 0 hL]
theorem azr(a b:List FD)(hl:¬a.length=b.length)(h:True):Cq 66 [Md a,Md b,gP 67] (Am.bool false):=by
 have _:=h;exact aj [kN 11 (fE a),kN 13 (fE b),kt (show((a.length:Int)!=(b.length:Int))=true from(yJ Bool.not (qF zO)))]
theorem azs(a b:DO)(o:Bool)(h1:Cq 65 [bB a.sn,bB b.sn] (Am.bool true))(h2:Cq 66 [Md a.fs,Md b.fs,gP 67] (Am.bool o))(h:True):Cq 19 [kI a,kI b] (Am.bool o):=by
 have _:=h;exact aj [kc [] h1,kO,kc [] h2]
theorem azt(a b:DO)(h1:Cq 65 [bB a.sn,bB b.sn] (Am.bool false))(h:True):Cq 19 [kI a,kI b] (Am.bool false):=by
 have _:=h;exact aj [kc [] h1,kY]
end Go.Dc
namespace Go.Dc
open Go Go.Am Go.Proofs Go.eY Go.bH
theorem ayO(f g:FD)(hf:XW f)(hg:XW g):ak P G 67 [.agg (jB f),.agg (jB g)] [] (.ret (Am.bool (decide (f=g)))) []:=by
 have l1:=hf.ce;have l2:=hg.ce;have l3:=hf.tc;have l4:=hg.tc;have e:decide (f=g)=((f.pk==g.pk&&f.pn==g.pn)&&(decide (f.ce=g.ce)&&(decide (f.bi=g.bi)&&(decide (f.ta=g.ta)&&(decide (f.tc=g.tc)&&decide (f.tm=g.tm)))))):=by
  cases f;cases g;rw[Bool.eq_iff_iff];simp[FD.mk.injEq,Sq.tN];grind
 refine ayN f g _ _ _ _ _ (Sq.up (Sq.ais f.ce g.ce zO zO)) (ayL f.bi g.bi (by have:=hf.bi;omega)) (ayK f.ta g.ta (by have:=hf.ta;omega)) (Sq.up (Sq.ais f.tc g.tc zO zO)) (ayM f.tm g.tm (by have:=hf.tm;omega)) _ ?_;rw[e];refine⟨fun a=>?_,fun a=>by rw[a];rfl⟩;rw[a,Bool.true_and];refine⟨fun b=>?_,fun b=>by rw[b];rfl⟩;rw[b,Bool.true_and];refine⟨fun b=>?_,fun b=>by rw[b];rfl⟩;rw[b,Bool.true_and];refine⟨fun b=>?_,fun b=>by rw[b];rfl⟩;rw[b,Bool.true_and];exact⟨fun b=>by rw[b];rfl,fun b=>by rw[b];rfl⟩
theorem azu(a b:List FD)(ha:a.length<=1000000000)(hl:a.length=b.length)(fa:∀f∈a,XW f)(fb:∀f∈b,XW f):∀n k,a.length-k=n->k<=a.length->bN P G none 0 (vg P 66 0) (seS a b k) (if a.drop k=b.drop k then .exit 0 else .ret) seX:=by
 intro n
 induction n with
 |zero =>
  intro k hn hk;rw[yL (by rw[drop_of_length_le zO,drop_of_length_le zO])];exact azo a b k zO trivial
 |succ n ih =>
  intro k hn hk;have h1:k<a.length:=zO
  have h2:k<b.length:=zO
  have hx:=yA h1;have hy:=yA h2;have e:(a.drop k=b.drop k)=(a[k]=b[k]/\a.drop (k+1)=b.drop (k+1)):=by
   rw[drop_eq_getElem_cons h1,drop_eq_getElem_cons h2,List.cons.injEq]
  have hc:=ayO a[k] b[k] (fa _ (getElem_mem h1)) (fb _ (getElem_mem h2));by_cases he:a[k]=b[k]
  .have nx:=ih (k+1) zO zO;rw[decide_eq_true he]at hc;simp only[e,he,true_and];exact azm a b k _ _ ha zO hx hy hc _ _ nx
  .rw [decide_eq_false he]at hc;rw[yK (by rw[e];exact fun h=>he h.1)];exact azn a b k _ _ ha zO hx hy hc trivial
theorem av3(a b:DO)(ha:Dim a)(hb:Dim b):ak P G 19 [kI a,kI b] [] (.ret (Am.bool (decide (a=b)))) []:=by
 have hs:=bV.aqj a.sn b.sn (by have:=ha.sn;omega);have e:(a=b)=(a.sn=b.sn/\a.fs=b.fs):=by
  cases a;cases b;rw[DO.mk.injEq]
 by_cases h:a.sn=b.sn
 .rw [decide_eq_true h]at hs;refine azs a b _ hs ?_ trivial;simp only[e,h,true_and];have l:=ha.fs;by_cases hl:a.fs.length=b.fs.length
  .have h9:=azu a.fs b.fs zO hl ha.len hb.len _ 0 rfl yN;rw[drop_zero,drop_zero]at h9;by_cases q:a.fs=b.fs
   .rw [yL q]at h9;rw[decide_eq_true q];exact azp _ _ hl h9 trivial
   .rw [yK q]at h9;rw[decide_eq_false q];exact azq _ _ hl h9 trivial
  .rw [decide_eq_false fun q=>hl (by rw[q])];exact azr _ _ hl trivial
 .rw [decide_eq_false h]at hs;rw[decide_eq_false (by rw[e];exact fun q=>h q.1)];exact azt a b hs trivial
open Go.bV (OP op jy Sv Fw Okn)
open Go.yU (CV rR Cy val QG av7 jg)
theorem PD{f:FuncId}{x y:AV}{out:aS}(h:ak P G f [y] [] out [])(hs:aF x y):ak P G f [x] [] out []:=ak.qp h (xs:=[x]) ⟨hs,yO⟩
theorem I9{f:FuncId}{x y x' y':AV}{out:aS}(h:ak P G f [x',y'] [] out [])(h1:aF x x')(h2:aF y y'):ak P G f [x,y] [] out []:=ak.qp h (xs:=[x,y]) ⟨h1,h2,yO⟩
theorem at7:aF Rf (kI ⟨[],[]⟩):=aF.qo ⟨aF.nil 2,aF.nil 7,yO⟩
theorem lVS:aF (.agg azL) (val (lsV [])):=aF.qo ⟨aF.refl _,aF.refl _,aF.refl _,aF.nil 4,yO⟩
abbrev z0:DO:=⟨[],[]⟩
abbrev x0:DO:=afQ z0 iOc
abbrev y0:DO:=afQ x0 erO
abbrev b0:DO:=⟨[(-1,0)],[]⟩
theorem i64(n:Int)(h:(decide (-9223372036854775808<=n)&&decide (n<9223372036854775808))=true):Sv n:=by
 simp only[Bool.and_eq_true,decide_eq_true_eq]at h;exact h
theorem ayh{o:OP}(h:EF z0 o=0)(ho:Fw o):SmD 1 (afQ z0 o):=by
 have:=ZW ho (aeB 0);unfold Bn at this;rwa[yL h]at this
theorem aw8:Fw iOc:=⟨i64 _ rfl,i64 _ rfl,i64 _ rfl,(fun _ h=>by cases h),i64 _ rfl,i64 _ rfl,i64 _ rfl,i64 _ rfl,i64 _ rfl,i64 _ rfl,i64 _ rfl,i64 _ rfl,i64 _ rfl⟩
theorem aw9:Fw erO:=⟨i64 _ rfl,i64 _ rfl,i64 _ rfl,(fun x h=>by rw[mem_singleton.1 h];exact⟨i64 _ rfl,i64 _ rfl⟩),i64 _ rfl,i64 _ rfl,i64 _ rfl,i64 _ rfl,i64 _ rfl,i64 _ rfl,i64 _ rfl,i64 _ rfl,i64 _ rfl⟩
theorem axa:Fw zoO:=⟨i64 _ rfl,i64 _ rfl,i64 _ rfl,(fun _ h=>by cases h),i64 _ rfl,i64 _ rfl,i64 _ rfl,i64 _ rfl,i64 _ rfl,i64 _ rfl,i64 _ rfl,i64 _ rfl,i64 _ rfl⟩
theorem axW{o:OP}(h:Fw o)(hc:o.cx.length<=1):Okn o:=⟨zO,h.kd,h.f3⟩
theorem awp{d:DO}{o:OP}{n:Nat}(h:SmD n d)(hn:n<=2)(ho:Fw o)(hc:o.cx.length<=1):ak P G 12 [kI d,op o] [] (.ret (if EF d o=0 then .bq [kI (afQ d o),int 0]else .bq [Rf,int (EF d o)])) []:=Vl (h.dim zO).1 (axW ho hc) ho zO (h.dim zO).2
theorem erS:aF (.agg erL) (op erO):=aF.qo ⟨aF.refl _,aF.refl _,aF.refl _,aF.oP 2 true _,aF.refl _,aF.refl _,aF.refl _,aF.refl _,aF.refl _,aF.refl _,aF.refl _,aF.refl _,aF.refl _,aF.refl _,aF.refl _,aF.refl _,aF.refl _,yO⟩
theorem zoS:aF (.agg zoL) (op zoO):=aF.qo ⟨aF.refl _,aF.refl _,aF.refl _,aF.nil 2,aF.refl _,aF.refl _,aF.refl _,aF.refl _,aF.refl _,aF.refl _,aF.refl _,aF.refl _,aF.refl _,aF.refl _,aF.refl _,aF.refl _,aF.refl _,yO⟩
theorem baS:aF baL (kI b0):=aF.qo ⟨aF.oP 2 true _,aF.nil 7,yO⟩
theorem ayP:SmD 1 b0:=⟨⟨Nat.zero_le _,fun _ h=>by cases h⟩,Nat.le_refl _,fun _ h=>by cases h⟩
theorem ayQ:EF z0 iOc=0:=zQ
theorem ayR:EF x0 erO=0:=zQ
abbrev e0V:CV:=lsV [lsV [],lsV []]
theorem ayS:QG e0V:=by
 have h:QG (lsV []):=.mk _ _ _ _ (i64 _ rfl) yN yN (fun _ h=>by cases h);refine .mk _ _ _ _ (i64 _ rfl) yN zD fun v hv=>?_;rcases yH.1 hv with rfl|hv
 .exact h
 .rw [mem_singleton.1 hv];exact h
theorem e0S:aF (.agg [int 3,int 0,str .empty,.sl 4 true [[int 3,int 0,str .empty,aK],[int 3,int 0,str .empty,aK]]]) (val e0V) :=
 aF.qo ⟨aF.refl _,aF.refl _,aF.refl _,aF.anK rfl (fun y hy=>by rcases yH.1 hy with rfl|hy;rfl;rw[mem_singleton.1 hy];rfl) (fun k j hk hj=>by
  match k,hk,j,hj with
  |0,_,0,_|0,_,1,_|0,_,2,_|1,_,0,_|1,_,1,_|1,_,2,_=>exact xP.refl _
  |0,_,3,_|1,_,3,_=>exact xP.nil 4),yO⟩
theorem atx:ak P G 10 [] [] (.ret (Am.bool true)) []:=by
 have s1:=ayh ayQ aw8;have s2:SmD 2 y0:=by
  have:=ZW aw9 s1;unfold Bn at this;rwa[yL ayR]at this
 have a1:=awp (aeB 0) zO aw8 yN;rw[yL ayQ]at a1;have a2:=awp s1 zO aw9 yM;rw[yL ayR]at a2;have a3:=awp (aeB 0) zO aw9 yM;rw[show EF z0 erO=181 by kernel_rfl,yK zD]at a3;have a4:=awp s1 zO aw8 yN;rw[show EF x0 iOc=182 by kernel_rfl,yK zD]at a4;have a5:=awp (aeB 0) zO axa yN;rw[show EF z0 zoO=170 by kernel_rfl,yK zD]at a5;have a6:=awp ayP zO axa yN;rw[show EF b0 zoO=180 by kernel_rfl,yK zD]at a6;have k1:=fG z0 ((aeB 0).dim zO).1;rw[show F9 z0=0 by kernel_rfl]at k1;have k2:=fG b0 (ayP.dim zO).1;rw[show F9 b0=180 by kernel_rfl]at k2;have ec:=Go.yU.awI e0V ayS zD (fun _=>zD);rw[show jg e0V=0 by kernel_rfl]at ec;have en:=azg z0 [] [] (av7 e0V) 0 k1 ((ayC yO).out lVS) ((ayD yO).out lVS) ec trivial;have rd:=apv z0 k1 (azh z0 zS yO) trivial;have ho:=bV.fG zoO (axW axa yN);rw[show bV.lM zoO=170 by kernel_rfl]at ho;have dc:=Go.yU.awU [] zD;rw[show Go.yU.adl []=10 by kernel_rfl]at dc;have de:=azi 10 zD [] _ dc trivial;have hs:=Go.yU.zG (lsV []) (.mk _ _ _ _ (i64 _ rfl) yN yN (fun _ h=>by cases h)) (lsV []);rw[show Go.yU.sm (lsV []) (lsV [])=true by kernel_rfl]at hs;have m1:=av3 x0 x0 (s1.dim zO).1 (s1.dim zO).1;rw[decide_eq_true rfl]at m1;have m2:=av3 x0 y0 (s1.dim zO).1 (s2.dim zO).1;rw[show decide (x0=y0)=false by kernel_rfl]at m2;refine ayg x0 y0 (x0.fs.getD 0 (Fx iOc)) (Fx iOc) (y0.fs.getD 1 (Fx iOc)) zQ zQ zQ zQ zQ zQ zQ (av7 e0V) (ayF 1 1 1 _ _ yO) (I9 a1 at7 (aF.refl _)) (I9 a2 (aF.refl _) erS) (I9 a3 at7 erS) a4 (I9 a5 at7 zoS) ((PD rd at7).out (aF.U1 lVS (aF.refl _))) (PD en at7) (PD ec e0S) (PD de (aF.nil 1)) (I9 a6 baS zoS) (PD ho zoS) (I9 hs (aF.refl _) lVS) (PD k1 at7) (PD k2 baS) m1 m2 ⟨fun _=>trivial,fun h=>?_⟩;rw[beq_self_eq_true]at h;cases h
end Go.Dc
namespace Go.Dc
open Go Go.Am Go.Proofs Go.eY Go.bH
open Go.bV (OP op jy)
theorem ayT(f:FD)(h:((((↑(length f.tc):Int)<=40)->(decide ((↑(length f.tm):Int)<=12))=(decide (length f.tc<=40/\length f.tm<=12)))/\((¬(↑(length f.tc):Int)<=40)->(false)=(decide (length f.tc<=40/\length f.tm<=12))))):Cq 115 [Tx.mG (Gb f)] (Am.bool (decide (length f.tc<=40/\length f.tm<=12))):=by
 have bS:Am.aF (int (↑(length (Sq.au (Tx.TE.cells (Gb f)))):Int)) (int ↑(length f.tc)):=(aF.of_eq (by simp only[Go.Sq.ay]));by_cases c1:((↑(length f.tc):Int)<=40)
 .have h:=h.1 c1;exact aA (aF.aI h) [kv 5 bS,kt (qT c1),kv 10 (show Am.aF (int (↑(length (Tx.au (Tx.TE.bQ (Gb f)))):Int)) (int ↑(length f.tm))from(aF.of_eq (by simp only[Go.Tx.ay])))]
 .have h:=h.2 c1;exact aA (aF.aI h) [kv 5 bS,kf (qF c1)]
theorem ayU(f:FD):Cq 115 [Tx.mG (Gb f)] (Am.bool (decide (f.tc.length<=40/\f.tm.length<=12))):=ayT f (by grind)
def smF(f:FD):Bool:=decide (f.ce.length<=40)&&Bd.avy f.bi&&decide (f.ta.length<=20)&&decide (f.tc.length<=40/\f.tm.length<=12)
def fwS(d:DO)(k:Nat):St:={ aL:=aC 49 [(1,.ptr 0 0),(2,Am.bool false),(3,int k)],H:=[.box [bB d.sn,Md d.fs]] }
def fwX(d:DO):St:={ aL:=aC 49 [(1,.ptr 0 0),(2,Am.bool false)],H:=[.box [bB d.sn,Md d.fs]] }
theorem azv(d:DO)(k:Nat)(hk:¬(k:Int)<(d.fs.length:Int))(h:True):Rq 0 39 0 (fwS d k) (bF.exit 0) (fwX d):=by
 have _:=h;exact aG [kN 8 (fE d.fs),kj ((k:Int)<(↑(length d.fs):Int))] (aB 49 [1,2]) 1
theorem azw(d:DO)(k:Nat)(f:FD)(hl:d.fs.length<=9223372036854775807)(hk:(k:Int)<(d.fs.length:Int))(hx:d.fs[k]?=some f)(a b t:Bool)(ha:Cq 113 [Sq.bZ f.ce] (Am.bool a))(hb:Cq 114 [Bd.iK f.bi] (Am.bool b))(ht:Cq 115 [Tx.mG (Gb f)] (Am.bool t))(ex:bF)(s':St)(h:((((a)=true)->((((b)=true)->((((↑(length f.ta):Int)>20)->(bF.ret=ex)/\(sM 49 [(1,.ptr 0 0),(2,Am.bool false)] [.box [bB d.sn,.sl 7 false (dA d.fs)]]=s'))/\((¬(↑(length f.ta):Int)>20)->((((t)=true)->Rq 0 39 0 (sM 49 [(1,.ptr 0 0),(2,Am.bool false),(3,int ↑(k+1))] [.box [bB d.sn,.sl 7 false (dA d.fs)]]) ex s')/\(((t)=false)->(bF.ret=ex)/\(sM 49 [(1,.ptr 0 0),(2,Am.bool false)] [.box [bB d.sn,.sl 7 false (dA d.fs)]]=s'))))))/\(((b)=false)->(bF.ret=ex)/\(sM 49 [(1,.ptr 0 0),(2,Am.bool false)] [.box [bB d.sn,.sl 7 false (dA d.fs)]]=s'))))/\(((a)=false)->(bF.ret=ex)/\(sM 49 [(1,.ptr 0 0),(2,Am.bool false)] [.box [bB d.sn,.sl 7 false (dA d.fs)]]=s')))):Rq 0 39 0 (fwS d k) ex s':=by
 let l1:List fP:=[kN 8 (fE d.fs),ki ((k:Int)<(↑(length d.fs):Int)),ke (jB f) (dA d.fs) k (bG hx),kc [] ha];rcases Bool.eq_false_or_eq_true ((a))with c2|c2
 .have h:=h.1 c2;have Av:(!a)=false:=(yJ Bool.not (c2));rcases Bool.eq_false_or_eq_true ((b))with c3|c3
  .have h:=h.1 c3;let l2:List fP:=l1++[kf Av,kc [] hb,kf (show(!b)=false from(yJ Bool.not (c3))),kN 30 (dP f.ta)];by_cases c4:((↑(length f.ta):Int)>20)
   .have h:=h.1 c4;obtain⟨eX,eS⟩:=h;exact bN.to ((show Rq 0 39 0 (fwS d k) bF.ret (sM 49 [(1,.ptr 0 0),(2,Am.bool false)] [.box [.sl 2 false (au d.sn),.sl 7 false (dA d.fs)]])from aG (l2++[kt (qT c4),kO]) (aB 49 [1,2]) 1)) eX (eB.of_eq eS)
   .have h:=h.2 c4;rcases Bool.eq_false_or_eq_true ((t))with c5|c5
    .have h:=h.1 c5;exact aJ (l2++[kf (qF c4),kc [] ht,kf (show(!t)=false from(yJ Bool.not (c5))),kW 11 (k+1) ↑(k+1)]) (aB 49 [1,2,3]) 1 h
    .have h:=h.2 c5;obtain⟨eX,eS⟩:=h;exact bN.to ((show Rq 0 39 0 (fwS d k) bF.ret (sM 49 [(1,.ptr 0 0),(2,Am.bool false)] [.box [.sl 2 false (au d.sn),.sl 7 false (dA d.fs)]])from aG (l2++[kf (qF c4),kc [] ht,kt (show(!t)=true from(yJ Bool.not (c5)))]) (aB 49 [1,2]) 1)) eX (eB.of_eq eS)
  .have h:=h.2 c3;obtain⟨eX,eS⟩:=h;exact bN.to ((show Rq 0 39 0 (fwS d k) bF.ret (sM 49 [(1,.ptr 0 0),(2,Am.bool false)] [.box [.sl 2 false (au d.sn),.sl 7 false (dA d.fs)]])from aG (l1++[kf Av,kc [] hb,kt (show(!b)=true from(yJ Bool.not (c3))),kO,kO]) (aB 49 [1,2]) 1)) eX (eB.of_eq eS)
 .have h:=h.2 c2;obtain⟨eX,eS⟩:=h;exact bN.to ((show Rq 0 39 0 (fwS d k) bF.ret (sM 49 [(1,.ptr 0 0),(2,Am.bool false)] [.box [.sl 2 false (au d.sn),.sl 7 false (dA d.fs)]])from aG (l1++[kt (show(!a)=true from(yJ Bool.not (c2))),kO,kO,kO]) (aB 49 [1,2]) 1)) eX (eB.of_eq eS)
theorem azx(d:DO)(hL:Rq 0 39 0 (fwS d 0) (.exit 0) (fwX d))(b:Bool)(h:((((↑(length d.sn):Int)<=20)->(decide ((↑(length d.fs):Int)<=6))=(b))/\((¬(↑(length d.sn):Int)<=20)->(false)=(b)))):Cq 39 [kI d] (Am.bool b):=by
 let l1:List fP:=[kl (rG [(0,1),(4,45)]) 1 hL,kN 41 (Go.bH.ay d.sn)];by_cases c1:((↑(length d.sn):Int)<=20)
 .have h:=h.1 c1;exact aA (aF.aI h) (l1++[kt (qT c1),kN 46 (fE d.fs)])
 .have h:=h.2 c1;exact aA (aF.aI h) (l1++[kf (qF c1)])
theorem azy(d:DO)(hL:Rq 0 39 0 (fwS d 0) .ret (fwX d))(h:True):Cq 39 [kI d] (Am.bool false):=by
 have _:=h;exact aj [kl (rG [(0,1),(4,45)]) 1 hL]
def lwS(d:DO)(t:Bool)(l:List OP)(k:Nat):St:={ aL:=aC 19 [(2,.ptr 0 0),(4,Am.bool false),(7,.sl 17 t (l.map jy)),(8,int l.length),(9,int k)],H:=[.box [bB d.sn,Md d.fs]] }
def lwX(d:DO):St:={ aL:=aC 19 [(2,.ptr 0 0),(4,Am.bool false)],H:=[.box [bB d.sn,Md d.fs]] }
theorem azz(d:DO)(t:Bool)(l:List OP)(k:Nat)(hk:¬(k:Int)<(l.length:Int))(h:True):Rq 0 11 0 (lwS d t l k) (bF.exit 0) (lwX d):=by
 have _:=h;exact aG [kj ((k:Int)<l.length)] (aB 19 [2,4]) 1
theorem azA(d:DO)(t:Bool)(l:List OP)(k:Nat)(o:OP)(hl:l.length<=1000000)(hk:(k:Int)<(l.length:Int))(hx:l[k]?=some o)(hF:Cq 38 [op o] (Am.bool true))(ex:bF)(s':St)(h:Rq 0 11 0 (sM 19 [(2,.ptr 0 0),(4,Am.bool false),(7,.sl 17 t (List.map jy l)),(8,int ↑l.length),(9,int ↑(k+1))] [.box [bB d.sn,.sl 7 false (dA d.fs)]]) ex s'):Rq 0 11 0 (lwS d t l k) ex s':=by
 exact aJ [ki ((k:Int)<l.length),ke (jy o) (List.map jy l) k (bG hx),kc [] hF,kY,kW 16 (k+1) ↑(k+1)] (aB 19 [2,4,7,8,9]) 1 h
theorem azB(d:DO)(t:Bool)(l:List OP)(k:Nat)(o:OP)(hl:l.length<=1000000)(hk:(k:Int)<(l.length:Int))(hx:l[k]?=some o)(hF:Cq 38 [op o] (Am.bool false))(h:True):Rq 0 11 0 (lwS d t l k) bF.ret (lwX d):=by
 have _:=h;exact aG [ki ((k:Int)<l.length),ke (jy o) (List.map jy l) k (bG hx),kc [] hF,kO] (aB 19 [2,4]) 1
theorem azC(d:DO)(t:Bool)(l:List OP)(b:Bool)(hF:Cq 39 [kI d] (Am.bool b))(hL:Rq 0 11 0 (lwS d t l 0) (.exit 0) (lwX d))(h:True):Cq 11 [kI d,.sl 17 t (List.map jy l)] (Am.bool b):=by
 have _:=h;exact aj [kv 8 (show Am.aF (int (↑(length (List.map jy l)):Int)) (int ↑l.length)from(aF.of_eq (by simp only[length_map]))),kl (rG [(0,2),(3,1),(5,2),(10,9)]) 1 hL,kc [] hF]
theorem azD(d:DO)(t:Bool)(l:List OP)(hL:Rq 0 11 0 (lwS d t l 0) .ret (lwX d))(h:True):Cq 11 [kI d,.sl 17 t (List.map jy l)] (Am.bool false):=by
 have _:=h;exact aj [kv 8 (show Am.aF (int (↑(length (List.map jy l)):Int)) (int ↑l.length)from(aF.of_eq (by simp only[length_map]))),kl (rG [(0,2),(3,1),(5,2),(10,9)]) 1 hL]
theorem axN(d:DO)(h:avT d):∀n k,d.fs.length-k=n->k<=d.fs.length->bN P G none 0 (vg P 39 0) (fwS d k) (if(d.fs.drop k).all smF=true then .exit 0 else .ret) (fwX d):=by
 intro n
 induction n with
 |zero =>
  intro k h1 h2;rw[drop_of_length_le zO];exact azv d k zO trivial
 |succ n ih =>
  intro k h1 h2;have bg:k<d.fs.length:=zO
  have nx:=ih (k+1) zO zO;have hb:=(h.rf _ (getElem_mem bg)).lb;have no:smF d.fs[k]=false->(smF d.fs[k]&&(d.fs.drop (k+1)).all smF)=false:=fun e=>by rw[e,Bool.false_and]
  rw[drop_eq_getElem_cons bg,all_cons];refine azw d k d.fs[k] h.lf zO (yA bg) _ _ _ (Sq.up (Sq.alz d.fs[k].ce)) (Bd.axY _ hb) (ayU _) _ _ ⟨fun a=>⟨fun b=>⟨fun c=>?_,fun c=>⟨fun t=>?_,fun t=>?_⟩⟩,fun b=>?_⟩,fun a=>?_⟩
  .rw [no (by simp only[smF,a,b,Bool.true_and];rw[decide_eq_false zO];rfl)];exact⟨rfl,rfl⟩
  .rw [show smF d.fs[k]=true by simp only[smF,a,b,t,Bool.true_and,Bool.and_true];exact decide_eq_true zO,Bool.true_and];exact nx
  .rw [no (by simp only[smF,t,Bool.and_false])];exact⟨rfl,rfl⟩
  .rw [no (by simp only[smF,b,Bool.and_false,Bool.false_and])];exact⟨rfl,rfl⟩
  .rw [no (by simp only[smF,a,Bool.false_and])];exact⟨rfl,rfl⟩
def smD(d:DO):Bool:=d.fs.all smF&&decide (d.sn.length<=20/\d.fs.length<=6)
theorem ayi(d:DO)(h:avT d):ak P G 39 [kI d] [] (.ret (Am.bool (smD d))) []:=by
 have hL:=axN d h _ 0 rfl yN;rw[drop_zero]at hL;unfold smD;cases e:d.fs.all smF with
 |true =>
  rw[e,yL rfl]at hL;refine azx d hL _ ⟨fun a=>?_,fun a=>?_⟩<;>rw[Bool.true_and]<;>grind
 |false =>
  rw[e,yK zD]at hL;exact azy d hL trivial
theorem axO(d:DO)(t:Bool)(l:List OP)(hl:l.length<=1000000)(hs:∀o∈l,bV.azI o):∀n k,l.length-k=n->k<=l.length->bN P G none 0 (vg P 11 0) (lwS d t l k) (if(l.drop k).all bV.atN=true then .exit 0 else .ret) (lwX d):=by
 intro n
 induction n with
 |zero =>
  intro k h1 h2;rw[drop_of_length_le zO];exact azz d t l k zO trivial
 |succ n ih =>
  intro k h1 h2;have bg:k<l.length:=zO
  have nx:=ih (k+1) zO zO;have hF:=bV.alz l[k] (hs _ (getElem_mem bg));rw[drop_eq_getElem_cons bg,all_cons];cases e:bV.atN l[k]with
  |true =>
   rw[e]at hF;rw[Bool.true_and];exact azA d t l k l[k] hl zO (yA bg) hF _ _ nx
  |false =>
   rw[e]at hF;exact azB d t l k l[k] hl zO (yA bg) hF trivial
theorem ayV(d:DO)(t:Bool)(l:List OP)(hd:avT d)(hl:l.length<=1000000)(hs:∀o∈l,bV.azI o):ak P G 11 [kI d,.sl 17 t (l.map jy)] [] (.ret (Am.bool (l.all bV.atN&&smD d))) []:=by
 have hL:=axO d t l hl hs _ 0 rfl yN;rw[drop_zero]at hL;cases e:l.all bV.atN with
 |true =>
  rw[e,yL rfl]at hL;exact azC d t l _ (ayi d hd) hL trivial
 |false =>
  rw[e,yK zD]at hL;exact azD d t l hL trivial
theorem ayj{d:DO}(h:avT d)(hs:smD d=true):SmD 40 d:=by
 unfold smD smF at hs;simp only[Bool.and_eq_true,decide_eq_true_eq,all_eq_true]at hs;obtain⟨h1,h2,h3⟩:=hs;refine⟨⟨zO,fun f hf=>?_⟩,zO,fun f hf=>?_⟩
 .obtain ⟨⟨⟨a,b⟩,c⟩,_⟩:=h1 f hf;unfold Bd.avy at b;simp only[Bool.and_eq_true,decide_eq_true_eq]at b;exact⟨a,zO,zO⟩
 .obtain ⟨_,a,b⟩:=h1 f hf;have k:=h.rf f hf;exact⟨⟨by show f.tc.length<=_;omega,by show f.tm.length<=_;omega,⟨fun x hx=>(k.rt x hx).1,k.rm⟩⟩,fun x hx=>(k.rc x hx).1⟩
theorem axP{o:OP}(hp:bV.Fw o)(h:bV.atN o=true):bV.Okn o/\o.cx.length<=1000000:=by
 unfold bV.atN at h;simp only[Bool.and_eq_true,decide_eq_true_eq]at h;exact⟨⟨zO,hp.kd,hp.f3⟩,zO⟩
end Go.Dc
namespace Go.Dc
open Go Go.Am Go.Proofs Go.eY Go.bH
theorem acU(a:List TL)(hv:a.length<=1000000000):∀n k,a.length-k=n->k<=a.length->bN P G none 0 (vg P 100 0) (ta0 a k) (.exit 0) { aL:=aC 26 [(4,Am.bool false)],H:=[] }:=by
 intro n
 induction n with
 |zero=>exact fun k h1 h2=>an8 a k zO trivial
 |succ n ih =>
  intro k h1 h2;exact an7 a k a[k] hv zO (yA zO) _ _ ⟨fun _=>ih (k+1) zO zO,fun h=>by simp[Sq.tN]at h⟩
theorem acV(a:List Sq.CE)(hv:a.length<=1000000000):∀n k,a.length-k=n->k<=a.length->bN P G none 0 (vg P 200 0) (sc0 a k) (.exit 0) { aL:=aC 26 [(4,Am.bool false)],H:=[] }:=by
 intro n
 induction n with
 |zero=>exact fun k h1 h2=>aob a k zO trivial
 |succ n ih =>
  intro k h1 h2;exact aoa a k a[k] hv zO (yA zO) _ _ ⟨fun _=>ih (k+1) zO zO,fun h=>by simp[Sq.tN]at h⟩
theorem acW(t:Tx.TE)(hv:t.bQ.length<=1000000000):∀n k,t.bQ.length-k=n->k<=t.bQ.length->bN P G none 0 (vg P 101 0) (sx0 t k) (.exit 0) { aL:=aC 39 [(4,Am.bool false)],H:=sxB t }:=by
 intro n
 induction n with
 |zero=>exact fun k h1 h2=>aoe t k zO trivial
 |succ n ih =>
  intro k h1 h2;exact aod t k t.bQ[k] hv zO (yA zO) _ _ ⟨fun _=>ih (k+1) zO zO,fun h=>by simp[Sq.tN]at h⟩
theorem aok(f:FD)(h:XW f):ak P G 30 [.agg (jB f),.agg (jB f)] [] (.ret (Am.bool true)) []:=by
 obtain⟨h1,h2,h3,h4,h5⟩:=h;have a:=Sq.up (Sq.Vi f.ce zO);have b:=Bd.C9 f.bi f.bi zO zO;rw[decide_eq_true rfl]at b;have c:=an9 f.ta (acU f.ta zO _ 0 rfl yN) trivial;have d:=aoc f.tc (acV f.tc zO _ 0 rfl yN) trivial;have e:=aof (Gb f) d (acW (Gb f) (by show f.tm.length<=_;omega) _ 0 rfl yN) trivial;exact aog f a b c e true ⟨fun _=>rfl,fun h=>by simp[Sq.tN]at h⟩
end Go.Dc
namespace Go.Am
open Go
section
variable {P:Program} {G:Nat->Option (List AV)}
theorem Px{V:View}{b j:Nat}{cells:List AV}{x y:AV}(hG:aD G V)(hb:V.H[b]?=some (.box cells))(hj:cells[j]?=some x)(hxy:aF x y):∃V':View,V'.w=V.w/\V'.H=V.H.set b (.box (cells.set j y))/\Step V V'/\aD G V':=by
 obtain⟨t,vs,h1,h2⟩:=hG.eP b _ hb;have JN:=(yC.1 hj).1;have hx:dI V x (vs.getD j undef):=by
  have:=h2.2 j JN;rwa[show cells.getD j .aP=x by rw[yB,hj];rfl]at this
 have hr:bR V (cells.set j y) vs:=by
  have:=h2.set j (hxy V _ hx);have e:vs.set j (vs.getD j undef)=vs:=by
   apply ext_getElem?;intro i;rw[getElem?_set];split
   .rename_i e;subst e;have:j<vs.length:=by rw[h2.1];exact JN
    rw[yL this,yB,yA this];rfl
   .rfl
  rwa[e]at this
 obtain⟨V2,l1,l2,l3,l4⟩:=wE (eP:=.box cells) (ou:=.box (cells.set j y)) (w':=V.w) hG hb rfl h1 h1 rfl (fun _ _=>rfl) rfl rfl rfl rfl trivial (fun V' hw hs=>⟨t,vs,by rw[hw];exact h1,hr.step hs⟩);exact⟨V2,l1,l2,l3,l4⟩
theorem bN.ZX{r:Option Nat}{n0:Nat}{c:Code}{s s':St}{ex:bF}{b j:Nat}{cells:List AV}{x y:AV}(hb:s.H[b]?=some (.box cells))(hj:cells[j]?=some x)(hxy:aF x y)(h:bN P G r n0 c { aL:=s.aL,H:=s.H.set b (.box (cells.set j y)),dh:=s.dh } ex s'):bN P G r n0 c s ex s':=fun V0 V a h0 k1 k2 k3=>by
 obtain⟨V2,a1,a2,a3,a4⟩:=Px k2 (k3.H▸hb) hj hxy;rw[<- a1];exact h V0 V2 a h0 (k1.trans a3) a4 ⟨k3.aL.step a3,by rw[a2,k3.H],k3.dh.step a3⟩
end
end Go.Am
namespace Go.Dc
open Go Go.Am Go.Proofs Go.eY Go.bH
open Go.bV (OP)
theorem auA{d:DO}{o:OP}:EF d o=0↔F9 d=0/\bV.lM o=0/\gI o.dv d.sn=o.sq-1/\∀x∈o.cx,cZ d.sn x=true:=by
 have hc:(o.cx.any fun x=>!cZ d.sn x)=true↔¬∀x∈o.cx,cZ d.sn x=true:=by
  rw[any_eq_true];constructor
  .rintro ⟨x,hx,h⟩ k;rw[k x hx]at h;cases h
  .intro h;simp only[Classical.not_forall]at h;obtain⟨x,hx,h⟩:=h;exact⟨x,hx,by simpa using h⟩
 unfold EF;constructor
 .intro h;split at h
  .rename_i h1;split at h
   .rename_i h2;split at h
    .cases h
    .split at h
     .rename_i h4;split at h
      .cases h
      .rename_i h5;exact⟨h1,h2,h4,Classical.not_not.1 fun q=>h5 (hc.2 q)⟩
     .cases h
   .rename_i h2;exact absurd h h2
  .rename_i h1;exact absurd h h1
 .rintro ⟨h1,h2,h3,h4⟩;rw[yL h1,yL h2,yK (by rw[o8];simp only;omega),yL h3,yK (fun q=>hc.1 q h4)]
theorem awq{d:DO}{o:OP}(h:EF d o=0):EF (afQ d o) o=182:=by
 obtain⟨h1,h2,h3,_⟩:=auA.1 h;have ho:Mg.vO o=true:=decide_eq_true h2;obtain⟨k1,k2⟩:=asB h1 ho;have hV:=RQ.1 (arD.1 h1).1;have hd:=ji.1 (Mg.ug ho).1;simp only at hd;unfold EF;rw[yL k1,yL h2,yL];rw[k2,o8,Mg.Em hV ho];simp only[if_true];omega
end Go.Dc
namespace Go.Dc
open Go Go.Am Go.Proofs Go.eY Go.bH
open Go.bV (OP)
abbrev isP(o:OP)(f:FD):Prop:=f.pk=o.pk/\f.pn=o.pn
def fdO(l:List FD)(o:OP):FD:=(l.find? fun f=>decide (isP o f)).getD (Fx o)
theorem auz{l:List FD}(h:l.Pairwise ltF){x y:FD}(hx:x∈l)(hy:y∈l)(e:x.pk=y.pk/\x.pn=y.pn):x=y:=by
 obtain⟨i,hi,rfl⟩:=mem_iff_getElem.1 hx;obtain⟨j,hj,rfl⟩:=mem_iff_getElem.1 hy;have hp:=pairwise_iff_getElem.1 h;have no:∀{x y:FD},(x.pk=y.pk/\x.pn=y.pn)->ltF x y->False:=fun e h=>by
  rw[ltF,asG.2 e]at h;exact absurd h zD
 rcases Nat.lt_trichotomy i j with q|q|q
 .exact (no e (hp i j hi hj q)).elim
 .subst q;rfl
 .exact (no ⟨e.1.symm,e.2.symm⟩ (hp j i hj hi q)).elim
theorem atL{l:List FD}(h:l.Pairwise ltF){o:OP}{y:FD}(hy:y∈l)(hp:isP o y):fdO l o=y:=by
 unfold fdO;cases e:l.find? fun f=>decide (isP o f)with
 |none=>exact absurd (decide_eq_true hp) (find?_eq_none.1 e y hy)
 |some z =>
  have h3:isP o z:=by simpa using find?_some e
  exact auz h (mem_of_find?_eq_some e) hy ⟨h3.1.trans hp.1.symm,h3.2.trans hp.2.symm⟩
theorem auI{l:List FD}{o:OP}(h:∀y∈l,¬isP o y):fdO l o=Fx o:=by
 unfold fdO;rw[find?_eq_none.2 fun x hx=>by simpa using h x hx];rfl
theorem auJ{l:List FD}(h:l.Pairwise ltF)(o:OP):(fdO l o∈l/\isP o (fdO l o))\/((∀y∈l,¬isP o y)/\fdO l o=Fx o):=by
 by_cases k:∃y∈l,isP o y
 .obtain ⟨y,hy,hp⟩:=k;rw[atL h hy hp];exact .inl ⟨hy,hp⟩
 .have k':∀y∈l,¬isP o y:=fun y hy hp=>k ⟨y,hy,hp⟩;exact .inr ⟨k',auI k'⟩
theorem atM{l:List FD}(h:l.Pairwise ltF)(o:OP):isP o (fdO l o):=by
 rcases auJ h o with⟨_,k⟩|⟨_,k⟩
 .exact k
 .rw [k];exact⟨rfl,rfl⟩
theorem awr{o:OP}{ef:FD->FD}{l:List FD}(h:l.Pairwise ltF):∃A C B,l=A++(C++B)/\Ig (cO o) ef o l=A++ef (fdO l o)::B/\(∀x∈A,¬isP o x)/\(∀x∈B,¬isP o x)/\(C=[]\/∃y,C=[y]/\isP o y):=by
 have hm:Rc (cO o) l:=TN (h.imp fun h1 h2=>OM h1 h2);have uQ:=Rh (cO o) l;unfold Ig;by_cases hb:(l[rV (cO o) l]?).any (fun f=>cO o f==0)=true
 .rw [yL hb];have bg:rV (cO o) l<l.length:=by
   rcases Nat.lt_or_ge (rV (cO o) l) l.length with h|h
   .exact h
   .rw [getElem?_eq_none h]at hb;cases hb
  rw[yA bg]at hb;have e:isP o l[rV (cO o) l]:=asG.1 (show cO o l[rV (cO o) l]=0 by simpa using hb);have g:l.getD (rV (cO o) l) (Fx o)=l[rV (cO o) l]:=by rw[yB,yA bg];rfl
  rw[g,atL h (getElem_mem bg) e,set_eq_take_append_cons_drop,yL bg];have hs2:l=l.take (rV (cO o) l)++([l[rV (cO o) l]]++l.drop (rV (cO o) l+1)):=by rw[singleton_append,getElem_cons_drop,take_append_drop]
  have hp2:=h;rw[hs2,singleton_append,pairwise_append,pairwise_cons]at hp2;obtain⟨_,⟨q1,_⟩,q2⟩:=hp2;have no:∀{x y:FD},isP o x->isP o y->ltF x y->False:=fun a b h=>by
   rw[ltF,asG.2 ⟨a.1.trans b.1.symm,a.2.trans b.2.symm⟩]at h;exact absurd h zD
  exact⟨_,_,_,hs2,rfl,fun y hy q=>no q e (q2 y hy _ (mem_cons_self ..)),fun y hy q=>no e q (q1 y hy),.inr ⟨_,rfl,e⟩⟩
 .rw [yK hb];have xY:∀x∈l,¬isP o x:=fun x hx e=>by
   obtain⟨i,hi,rfl⟩:=mem_iff_getElem.1 hx;have e0:cO o l[i]=0:=asG.2 e;have Ct:¬i<rV (cO o) l:=fun q=>by
    have:=(hm i hi).2 q;omega
   have hp:rV (cO o) l<l.length:=zO
   have h0:¬cO o l[rV (cO o) l]<0:=fun h=>absurd ((hm _ hp).1 h) (Nat.lt_irrefl _);have h1:cO o l[rV (cO o) l]≠0:=fun e=>hb (by rw[yA hp];simp[e]);have h2:U7 o.pk l[rV (cO o) l].pk o.pn l[rV (cO o) l].pn<0:=asS h0 h1;rcases Nat.lt_or_eq_of_le (Nat.ge_of_not_lt Ct)with q|q
   .have h3:U7 o.pk l[i].pk o.pn l[i].pn<0:=OM h2 (pairwise_iff_getElem.1 h _ _ hp hi q);rw[asG.2 ⟨e.1.symm,e.2.symm⟩]at h3;exact absurd h3 zD
   .simp only[q]at h1;exact h1 e0
  rw[auI xY,append_assoc,singleton_append];exact⟨_,[],_,(take_append_drop (rV (cO o) l) l).symm,rfl,fun x hx=>xY x (mem_of_mem_take hx),fun x hx=>xY x (mem_of_mem_drop hx),.inl rfl⟩
end Go.Dc
namespace Go.Dc
open Go Go.Am Go.Proofs Go.eY Go.bH
open Go.bV (OP op jy)
theorem aws(o:OP)(y:FD):(y.pk==o.pk&&y.pn==o.pn)=decide (isP o y):=by
 rw[Bool.eq_iff_iff];simp[Sq.tN]
theorem av4{d x:DO}{o:OP}{e:Int}(hs:d.sn.length<=1000000000)(hl:o.cx.length<=1000000000):∀n k b,o.cx.length-k=n->k<=o.cx.length->bN P G none 0 (vg P 7 0) (s0S d o x e k b) (.exit 0) (s0X d o x e (b&&(o.cx.drop k).all (cZ d.sn))):=by
 intro n
 induction n with
 |zero =>
  intro k b h1 h2;rw[drop_of_length_le zO,all_nil,Bool.and_true];exact ay0 d o x e k b zO trivial
 |succ n ih =>
  intro k b h1 h2;have bg:k<o.cx.length:=zO
  rw[drop_eq_getElem_cons bg,all_cons];have hx:=yA bg;cases b with
  |true=>exact ay1 d o x e k _ _ _ hl zO hx (bH.jX d.sn o.cx[k].1 o.cx[k].2 hs) _ _ (ih (k+1) _ zO zO)
  |false=>exact ay2 d o x e k _ _ hl zO hx _ _ (ih (k+1) false zO zO)
section
variable {d x:DO} {o:OP} {A B C:List FD} {e:FD} (hd:d.fs=A++(C++B)) (hx:x.fs=A++e::B) (na:∀f∈A,¬isP o f) (nb:∀f∈B,¬isP o f) (hC:C=[]\/∃y,C=[y]/\isP o y) (he:isP o e) (hl:d.fs.length<=999999) (hf:∀f∈d.fs,XW f)
include hd
theorem ayW(j:Nat):d.fs[A.length+C.length+j]?=B[j]? := by
 rw[hd,getElem?_append_right zO,getElem?_append_right zO];congr 1;omega
theorem ayX{k:Nat}(h:k<A.length):d.fs[k]?=some A[k]:=by
 rw[hd,getElem?_append_left h,yA h]
theorem axQ:d.fs.length=A.length+C.length+B.length:=by rw[hd];simp;omega
include hl hC nb
theorem ayk{y:FD}{j k n:Nat}(m:Bool)(hj:B[j]?=some y)(hn:n=A.length+C.length+j\/(j=0/\n=A.length)):bN P G none 0 (vg P 7 2) (s2S d x o y k n m) (.exit 4) (s2S d x o y k (A.length+C.length+j) m):=by
 have l:=axQ hd;have JN:j<B.length:=by rcases Nat.lt_or_ge j B.length with h|h;exact h;rw[getElem?_eq_none h]at hj;cases hj
 have hy:(y.pk==o.pk&&y.pn==o.pn)=false:=by rw[aws];exact decide_eq_false (nb y (mem_of_getElem? hj))
 have h1:=ayB d x o y k (A.length+C.length+j) m y zO ((ayW hd j).trans hj) zO hy trivial;rcases hn with rfl|⟨rfl,rfl⟩
 .exact h1
 .rcases hC with rfl|⟨z,rfl,hz⟩
  .exact h1
  .have hz':d.fs[A.length]?=some z:=by rw[hd,getElem?_append_right yM];simp
   exact ay9 d x o y k A.length m z zO hz' zO (by rw[aws];exact decide_eq_true hz) _ _ h1
include hx hf
theorem axb:∀r j n,B.length-j=r->j<=B.length->(n=A.length+C.length+j\/(j=0/\n=A.length))->∃n',(n'=d.fs.length\/(B=[]/\n'=A.length))/\bN P G none 0 (vg P 7 1) (s1S d x o (A.length+1+j) n true) (.exit 2) (s1X d x o n' true):=by
 have l:=axQ hd;have lx:x.fs.length=A.length+1+B.length:=by rw[hx];simp;omega
 intro r
 induction r with
 |zero =>
  intro j n h1 h2 hn;refine⟨n,?_,ay7 d x o _ n true zO yO⟩;rcases hn with rfl|⟨rfl,rfl⟩
  .exact .inl zO
  .exact .inr ⟨eq_nil_of_length_eq_zero zO,rfl⟩
 |succ r ih =>
  intro j n h1 h2 hn;have JN:j<B.length:=zO
  have hj:=yA JN;obtain⟨n',k1,k2⟩:=ih (j+1) (A.length+C.length+(j+1)) zO zO (.inl rfl);refine⟨n',k1,?_⟩;have hxk:x.fs[A.length+1+j]?=some B[j]:=by
   rw[hx,getElem?_append_right zO,show A.length+1+j-A.length=j+1 by omega,getElem?_cons_succ];exact hj
  have hm:B[j]∈d.fs:=by rw[hd];simp[getElem_mem JN]
  exact ayA d x o B[j] B[j] (A.length+1+j) n (A.length+C.length+j) true zO zO hxk (by rw[aws];exact decide_eq_false (nb _ (getElem_mem JN))) (ayk hd nb hC hl true hj hn) zO ((ayW hd j).trans hj) zO (aok _ (hf _ hm)) _ _ k2
include na he
theorem ayl:∃n',(n'=d.fs.length\/(B=[]/\n'=A.length))/\∀r k,A.length-k=r->k<=A.length->bN P G none 0 (vg P 7 1) (s1S d x o k k false) (.exit 2) (s1X d x o n' true):=by
 have l:=axQ hd;have lx:x.fs.length=A.length+1+B.length:=by rw[hx];simp;omega
 obtain⟨n',k1,k2⟩:=axb hd hx nb hC hl hf _ 0 A.length rfl yN (.inr ⟨rfl,rfl⟩);refine⟨n',k1,fun r=>?_⟩;have hc:C.length<=1:=by rcases hC with rfl|⟨_,rfl,_⟩<;>simp
 induction r with
 |zero =>
  intro k h1 h2;obtain rfl:k=A.length:=zO
  exact ay8 d x o e A.length A.length false zO zO (by rw[hx,getElem?_append_right yM];simp) (by rw[aws];exact decide_eq_true he) _ _ k2
 |succ r ih =>
  intro k h1 h2;have hk:k<A.length:=zO
  have hp:(A[k].pk==o.pk&&A[k].pn==o.pn)=false:=by rw[aws];exact decide_eq_false (na _ (getElem_mem hk))
  have hm:A[k]∈d.fs:=by rw[hd];simp[getElem_mem hk]
  exact ayA d x o A[k] A[k] k k k false zO zO (by rw[hx,getElem?_append_left hk];exact yA hk) hp (ayB d x o A[k] k k false A[k] zO (ayX hd hk) zO hp yO) zO (ayX hd hk) zO (aok _ (hf _ hm)) _ _ (ih (k+1) zO zO)
omit hx hf na he in
theorem aym{n':Nat}(hn:n'=d.fs.length\/(B=[]/\n'=A.length)):bN P G none 0 (vg P 7 3) (s3S d x o n' true) (.exit 6) (s3S d x o d.fs.length true):=by
 have l:=axQ hd;have h1:=azb d x o d.fs.length true zO zO trivial;rcases hn with rfl|⟨rfl,rfl⟩
 .exact h1
 .rcases hC with rfl|⟨z,rfl,hz⟩
  .simp only[length_nil]at l;rw[<- show d.fs.length=A.length by omega];exact h1
  .have hz':d.fs[A.length]?=some z:=by rw[hd,getElem?_append_right yM];simp
   simp only[length_nil,length_singleton]at l;rw[show d.fs.length=A.length+1 by omega]at h1 |-;exact aza d x o A.length true z zO hz' zO (by rw[aws];exact decide_eq_true hz) _ _ h1
end
theorem ayn{d:DO}{o:OP}(hd:avT d)(ho:bV.Fw o)(hz:bV.azI o):ak P G 7 [kI d,op o] [] (.ret (Am.bool true)) []:=by
 have hF:=ayV d true [o] hd zS (fun x h=>by rw[mem_singleton.1 h];exact hz);cases hb:([o].all bV.atN&&smD d)with
 |false=>rw[hb]at hF;exact ay3 d o atx hF trivial
 |true =>
 rw[hb]at hF;simp only[all_cons,all_nil,Bool.and_true,Bool.and_eq_true]at hb;have sm:=ayj hd hb.2;obtain⟨on,oc⟩:=axP ho hb.1;have dm:=sm.dim zO;have hA:=Vl dm.1 on ho oc dm.2;have hK:=fG d dm.1;have hO:=bV.fG o on;have ls:=sm.sn;have hT:=bH.acj d.sn o.dv zO;by_cases he:EF d o=0
 .rw [yL he]at hA;obtain⟨q1,q2,q3,q4⟩:=auA.1 he;rw[q1]at hK;rw[q2]at hO;have hq:=Ih q2;have hr:=TQ hq.1;have sx:SmD 41 (afQ d o):=by
   have:=ZW ho sm;unfold Bn at this;rwa[yL he]at this
  have dx:=sx.dim zO;have hW:=bH.Q6 d.sn o.dv o.sq zO;rw[acn (TP q1).1 hq.1]at hW;have hA2:=Vl dx.1 on ho oc dx.2;rw[awq he,yK zD]at hA2;have hK2:=fG (afQ d o) dx.1;rw[(asB q1 (decide_eq_true q2)).1]at hK2;have hQ:=bH.zG (afQ d o).sn (afQ d o).sn (by have:=sx.sn;omega);rw[decide_eq_true rfl]at hQ;have h0:=av4 (d:=d) (x:=afQ d o) (o:=o) (e:=0) zO zO _ 0 (gI o.dv d.sn==o.sq-1) rfl yN;rw[drop_zero,all_eq_true.2 q4,Bool.and_true]at h0
  conv at h0=>rhs;rw[q3,beq_self_eq_true]
  have hp:=(arD.1 q1).2.2;obtain⟨A,C,B,k1,k2,k3,k4,k5⟩:=awr (o:=o) (ef:=Gc o) hp;have pe:=ase o (fdO d.fs o);have pp:=atM hp o;have hfl:d.fs.length<=999999:=by have:=sm.few.fs;omega
  obtain⟨n',l1,l2⟩:=ayl (x:=afQ d o) k1 k2 k3 k4 k5 ⟨pe.1.trans pp.1,pe.2.trans pp.2⟩ hfl dm.1.len;exact azc d (afQ d o) o _ n' _ hr.2.1 hr.2.2 atx hF hA hK hO hT h0 hW hA2 hQ hK2 (l2 _ 0 rfl yN) (aym k1 k4 k5 hfl l1) (beq_self_eq_true _)
 .rw [yK he]at hA;have e0:((false==(EF d o==0))=true->True)/\((false==(EF d o==0))=false->false=true):=⟨fun _=>trivial,fun h=>by simp[he]at h⟩;have nil:∀b,bN P G none 0 (vg P 7 0) (s0Z d o (EF d o) b) (.exit 0) (s0X d o ⟨[],[]⟩ (EF d o) (b&&o.cx.all (cZ d.sn))):=fun b=>by
   have h0:=av4 (d:=d) (x:=⟨[],[]⟩) (o:=o) (e:=EF d o) zO zO _ 0 b rfl yN;rw[drop_zero]at h0;refine bN.ZX (b:=2) (j:=0) (cells:=[aK,aK]) rfl rfl (aF.nil 2) ?_;exact bN.ZX (b:=2) (j:=1) (cells:=[bB [],aK]) rfl rfl (aF.nil 7) h0
  by_cases h1:F9 d=0
  .rw [h1]at hK;by_cases h2:bV.lM o=0
   .rw [h2]at hO;have hr:=TQ (Ih h2).1;have h3:=nil (gI o.dv d.sn==o.sq-1);have e3:(gI o.dv d.sn==o.sq-1&&o.cx.all (cZ d.sn))=false:=by
     refine Bool.eq_false_iff.2 fun h=>he (auA.2 ⟨h1,h2,?_⟩);simp only[Bool.and_eq_true,beq_iff_eq,all_eq_true]at h;exact h
    rw[e3]at h3;exact ay6 d o _ _ hr.2.1 hr.2.2 he atx hF hA hK hO hT h3 e0
   .exact ay5 d o _ _ he h2 atx hF hA hK hO (nil false) e0
  .exact ay4 d o _ _ he h1 atx hF hA hK (nil false) e0
end Go.Dc
