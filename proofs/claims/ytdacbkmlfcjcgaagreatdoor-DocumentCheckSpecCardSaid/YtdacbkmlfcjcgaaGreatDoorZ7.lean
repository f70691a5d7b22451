import Derived.Test.YtdacbkmlfcjcgaaGreatDoorZ6
set_option maxRecDepth 100000
set_option linter.unusedSimpArgs false
set_option linter.unusedVariables false
open List
noncomputable section
namespace Go.Tx
open Go Go.Am Go.Proofs Go.eY
open Go.Sq (CE nP bZ oO vM fX U2 kQ jg)
def aFo(s:Int):Int:=IntKind.wrap IntKind.u32 (1*2^min (Int.toNat s) (IntKind.bits IntKind.u32))
def aFp(x s:Int):Int:=IntKind.wrap IntKind.u32 ((BitVec.toNat (BitVec.ofInt (IntKind.bits IntKind.u32) x &&& ~~~BitVec.ofInt (IntKind.bits IntKind.u32) (aFo s)):Nat):Int)
def orB(x s:Int):Int:=IntKind.wrap IntKind.u32 ((BitVec.toNat (BitVec.ofInt (IntKind.bits IntKind.u32) x ||| BitVec.ofInt (IntKind.bits IntKind.u32) (aFo s)):Nat):Int)
def aA3(x s:Int)(o:Bool):Int:=if o=true then orB (aFp x s) s else aFp x s
def aIC(x:Int):Int:=IntKind.wrap IntKind.u32 ((BitVec.toNat (BitVec.ofInt (IntKind.bits IntKind.u32) x &&& BitVec.ofInt (IntKind.bits IntKind.u32) (IntKind.wrap IntKind.u32 (x-1))):Nat):Int)
theorem akF(x s:Int)(o:Bool)(hs:0<=s)(H':List ah)(h:((((o)=true)->[ah.box [AV.lit (Value.int IntKind.u32 (IntKind.wrap IntKind.u32 (↑(BitVec.toNat (BitVec.ofInt (IntKind.bits IntKind.u32) (IntKind.wrap IntKind.u32 (↑(BitVec.toNat (BitVec.ofInt (IntKind.bits IntKind.u32) x &&& ~~~BitVec.ofInt (IntKind.bits IntKind.u32) (IntKind.wrap IntKind.u32 (1*2^min (Int.toNat s) (IntKind.bits IntKind.u32))))):Int)) ||| BitVec.ofInt (IntKind.bits IntKind.u32) (IntKind.wrap IntKind.u32 (1*2^min (Int.toNat s) (IntKind.bits IntKind.u32))))):Int)))]]=H')/\(((o)=false)->[ah.box [AV.lit (Value.int IntKind.u32 (IntKind.wrap IntKind.u32 (↑(BitVec.toNat (BitVec.ofInt (IntKind.bits IntKind.u32) x &&& ~~~BitVec.ofInt (IntKind.bits IntKind.u32) (IntKind.wrap IntKind.u32 (1*2^min (Int.toNat s) (IntKind.bits IntKind.u32))))):Int)))]]=H'))):ak P G 278 [.ptr 0 0,int s,Am.bool o] [ah.box [u32 x]] (aS.ret (AV.bq [])) H':=by
 have bS:(0:Int)<=s:=zO;rcases y00 ((o))with c1|c1
 .have h:=h.1 c1;have eH:=h;exact ak.heap ((show ak P G 278 [.ptr 0 0,int s,Am.bool o] [ah.box [u32 x]] (aS.ret (AV.bq [])) [ah.box [AV.lit (Value.int IntKind.u32 (IntKind.wrap IntKind.u32 (↑(BitVec.toNat (BitVec.ofInt (IntKind.bits IntKind.u32) (IntKind.wrap IntKind.u32 (↑(BitVec.toNat (BitVec.ofInt (IntKind.bits IntKind.u32) x &&& ~~~BitVec.ofInt (IntKind.bits IntKind.u32) (IntKind.wrap IntKind.u32 (1*2^min (Int.toNat s) (IntKind.bits IntKind.u32))))):Int)) ||| BitVec.ofInt (IntKind.bits IntKind.u32) (IntKind.wrap IntKind.u32 (1*2^min (Int.toNat s) (IntKind.bits IntKind.u32))))):Int)))]]from aj [kp bS,kt c1,kp bS])) eH
 .have h:=h.2 c1;have eH:=h;exact ak.heap ((show ak P G 278 [.ptr 0 0,int s,Am.bool o] [ah.box [u32 x]] (aS.ret (AV.bq [])) [ah.box [AV.lit (Value.int IntKind.u32 (IntKind.wrap IntKind.u32 (↑(BitVec.toNat (BitVec.ofInt (IntKind.bits IntKind.u32) x &&& ~~~BitVec.ofInt (IntKind.bits IntKind.u32) (IntKind.wrap IntKind.u32 (1*2^min (Int.toNat s) (IntKind.bits IntKind.u32))))):Int)))]]from aj [kp bS,kf c1])) eH
theorem akI(x s:Int)(o:Bool)(hs:0<=s):ak P G 278 [.ptr 0 0,int s,bool o] [.box [u32 x]] (.ret (.bq [])) [.box [u32 (aA3 x s o)]]:=akF x s o hs _ ⟨fun h=>by rw[aA3,yL h];rfl,fun h=>by rw[aA3,h,yK zD];rfl⟩
def lsN(x:Int):St:={ aL:=aC 15 [(0,u32 x),(2,aK)],H:=[] }
def lsO(x:Int)(g:Nat)(l:List Int):St:={ aL:=aC 15 [(0,u32 x),(2,.aU 0 g 0 l.length)],H:=[.aN g 1 false (bH.ql l)] }
def aID:St:={ aL:=aC 15 [(2,aK)],H:=[] }
def aGT(g:Nat)(l:List Int):St:={ aL:=aC 15 [(2,.aU 0 g 0 l.length)],H:=[.aN g 1 false (bH.ql l)] }
theorem aIE(x:Int)(hx:x=0)(h:True):Rq 0 232 0 (lsN x) (bF.exit 0) aID:=by
 have _:=h;exact aG [kf (show(x != 0)=false from(y27 (qT zO)))] (aB 15 [2]) 0
theorem aIF(x:Int)(g:Nat)(l:List Int)(hx:x=0)(h:True):Rq 0 232 0 (lsO x g l) (bF.exit 0) (aGT g l):=by
 have _:=h;exact aG [kf (show(x != 0)=false from(y27 (qT zO)))] (aB 15 [2]) 1
theorem aKS(x k:Int)(hx:¬x=0)(hz:Cq 279 [u32 x] (int k))(ex:bF)(s':St)(h:Rq 0 232 0 (sM 15 [(0,.lit (Value.int IntKind.u32 (IntKind.wrap IntKind.u32 (↑(BitVec.toNat (BitVec.ofInt (IntKind.bits IntKind.u32) x &&& BitVec.ofInt (IntKind.bits IntKind.u32) (IntKind.wrap IntKind.u32 (x-1)))):Int)))),(2,.aU 0 0 0 (length [k]))] [.aN 0 1 false (bH.ql [k])]) ex s'):Rq 0 232 0 (lsN x) ex s':=by
 exact aJ [kt (show(x != 0)=true from(y27 (qF zO))),kc [] hz,Qx [int k],vV 8] (aB 15 [0,2]) 1 h
theorem aKT(x k:Int)(g:Nat)(l:List Int)(hl:l.length<=16)(hx:¬x=0)(hz:Cq 279 [u32 x] (int k))(ex:bF)(s':St)(h:Rq 0 232 0 (sM 15 [(0,.lit (Value.int IntKind.u32 (IntKind.wrap IntKind.u32 (↑(BitVec.toNat (BitVec.ofInt (IntKind.bits IntKind.u32) x &&& BitVec.ofInt (IntKind.bits IntKind.u32) (IntKind.wrap IntKind.u32 (x-1)))):Int)))),(2,.aU 0 (g+1) 0 (length (l++[k])))] [.aN (g+1) 1 false (bH.ql (l++[k]))]) ex s'):Rq 0 232 0 (lsO x g l) ex s':=by
 exact aJ [kt (show(x != 0)=true from(y27 (qF zO))),kc [] hz,ko (bC.hp (some 13) (AV.aU 0 (g+1) 0 (length (l++[k]))) [ah.aN (g+1) 1 false (bH.ql (l++[k]))]),kp (show Am.aF (AV.aU 0 (g+1) 0 (length l+1)) (AV.aU 0 (g+1) 0 (length (l++[k])))from(aF.of_eq (by simp[Go.bH.kD,Go.bH.aBG,Go.bH.az1]))),kp (show Am.HSub [ah.aN (g+1) 1 false (bH.ql l++[[int k]])] [ah.aN (g+1) 1 false (bH.ql (l++[k]))]from(⟨.inl (by simp only[Go.bH.aAz,Go.bH.aBH]),yO⟩)),kq g,kp (show length l=length (bH.ql l)from((Go.bH.kD _).symm)),vV ((length l+1)*8)] (aB 15 [0,2]) 1 h
theorem aGU(x:Int)(hL:Rq 0 232 0 (lsN x) (.exit 0) aID)(h:True):Cq 232 [u32 x] (.sl 1 false []):=by
 have _:=h;exact ak.out ((show Cq 232 [u32 x] aK from aj [kl (rG [(1,1),(3,12)]) 0 hL])) (aF.nil _)
theorem aGV(x:Int)(g:Nat)(l:List Int)(hL:Rq 0 232 0 (lsN x) (.exit 0) (aGT g l))(h:True):Cq 232 [u32 x] (ils l):=by
 have _:=h;exact aj [kl (rG [(1,1),(3,12)]) 0 hL,ko (bC.Gu (bH.ql l)),kq g,kp (show List.take l.length (List.drop 0 (bH.ql l))=bH.ql l from(Go.bH.aBI _)),kp (show length (bH.ql l)=length l from(Go.bH.kD _)),kp (show ∀(c:List AV),c∈bH.ql l->List.all c AV.fJ=true from(Go.bH.az1 _))]
structure aMi where
 m:MK
 f:Int
 t:Int
def aCx(v:aMi):List AV:=[int v.m.dv,int v.m.sq,int v.m.tm,int v.m.fd,int v.m.fs,int v.m.fa,int v.m.td,int v.m.ts,int v.m.ta,int v.m.st,bool v.m.on,int v.f,int v.t]
def encI(v:List aMi):List (List AV):=v.map aCx
theorem atC(v:List aMi):(encI v).length=v.length:=by simp[encI]
theorem aBP(a b:List aMi):encI a++encI b=encI (a++b):=by simp[encI]
theorem aFq(m:MK)(f t:Int):[[AV.lit (Value.int IntKind.i64 m.dv),AV.lit (Value.int IntKind.i64 m.sq),AV.lit (Value.int IntKind.i64 m.tm),AV.lit (Value.int IntKind.i64 m.fd),AV.lit (Value.int IntKind.i64 m.fs),AV.lit (Value.int IntKind.i64 m.fa),AV.lit (Value.int IntKind.i64 m.td),AV.lit (Value.int IntKind.i64 m.ts),AV.lit (Value.int IntKind.i64 m.ta),AV.lit (Value.int IntKind.i64 m.st),AV.lit (Value.bool m.on),AV.lit (Value.int IntKind.i64 f),AV.lit (Value.int IntKind.i64 t)]]=encI [⟨m,f,t⟩]:=rfl
theorem aBd(v:List aMi):∀c∈encI v,c.all AV.fJ=true:=by
 intro c hc;obtain⟨d,_,rfl⟩:=yG.1 hc;rfl
theorem aBQ(v:List aMi):∀c∈encI v,AV.aM [] c=true:=by
 intro c hc;obtain⟨d,_,rfl⟩:=yG.1 hc;rfl
theorem aD0(v:List aMi):List.take v.length (List.drop 0 (encI v))=encI v:=by rw[<- atC v];simp
abbrev ivA(v:List aMi):AV:=.sl 13 false (encI v)
def axw(l:List CE)(m:MK):aMi:=⟨m,(U2 (fX (vM m.fd m.fs m.fa) l)).1,(U2 (fX (vM m.td m.ts m.ta) l)).1⟩
def sdN(t:TE)(k:Nat):St:={ aL:=aC 42 [(1,.ptr 0 0),(3,.ptr 1 0),(11,oI t.bQ),(12,int t.bQ.length),(13,int k)],H:=[sbT t,.box [aK]] }
def sdO(t:TE)(k g:Nat)(v:List aMi):St:={ aL:=aC 42 [(1,.ptr 0 0),(3,.ptr 1 0),(11,oI t.bQ),(12,int t.bQ.length),(13,int k)],H:=[sbT t,.box [.aU 3 g 0 v.length],.aH,.aN g 13 false (encI v)] }
def aIG(t:TE):St:={ aL:=aC 42 [(1,.ptr 0 0),(3,.ptr 1 0)],H:=[sbT t,.box [aK]] }
def aGW(t:TE)(g:Nat)(v:List aMi):St:={ aL:=aC 42 [(1,.ptr 0 0),(3,.ptr 1 0)],H:=[sbT t,.box [.aU 3 g 0 v.length],.aH,.aN g 13 false (encI v)] }
def sdX(t:TE)(v:List aMi):St:={ aL:=aC 42 [(1,.ptr 0 0),(3,.ptr 1 0)],H:=[sbT t,.box [ivA v],.aH,.aH] }
theorem aIH(t:TE)(k:Nat)(hk:¬(k:Int)<(t.bQ.length:Int))(h:True):Rq 0 231 0 (sdN t k) (bF.exit 0) (aIG t):=by
 have _:=h;exact aG [kj ((k:Int)<(↑(length t.bQ):Int))] (aB 42 [1,3]) 2
theorem aII(t:TE)(k g:Nat)(v:List aMi)(hk:¬(k:Int)<(t.bQ.length:Int))(h:True):Rq 0 231 0 (sdO t k g v) (bF.exit 0) (aGW t g v):=by
 have _:=h;exact aG [kj ((k:Int)<(↑(length t.bQ):Int))] (aB 42 [1,3]) 4
theorem aKU(t:TE)(k:Nat)(m:MK)(f u:Int)(fb ub:Bool)(hk:(k:Int)<(t.bQ.length:Int))(hv:t.bQ.length<=1000000)(hm:t.bQ[k]?=some m)(hf:Cq 34 [bZ t.cells,oO m.fd m.fs m.fa] (.bq [int f,bool fb]))(hu:Cq 34 [bZ t.cells,oO m.td m.ts m.ta] (.bq [int u,bool ub]))(ex:bF)(s':St)(h:Rq 0 231 0 (sM 42 [(1,.ptr 0 0),(3,.ptr 1 0),(11,.sl 11 false (au t.bQ)),(12,int ↑(length t.bQ)),(13,int ↑(k+1))] [.box [.sl 9 false (Sq.au t.cells),.sl 11 false (au t.bQ)],.box [.aU 3 0 0 1],.box [int m.dv,int m.sq,int m.tm,int m.fd,int m.fs,int m.fa,int m.td,int m.ts,int m.ta,int m.st,Am.bool m.on],.aN 0 13 false (encI [aMi.mk m f u])]) ex s'):Rq 0 231 0 (sdN t k) ex s':=by
 exact aJ [ki ((k:Int)<(↑(length t.bQ):Int)),ke (aQ m) (au t.bQ) k (bG hm),kc [] hf,kc [] hu,Qx [int m.dv,int m.sq,int m.tm,int m.fd,int m.fs,int m.fa,int m.td,int m.ts,int m.ta,int m.st,Am.bool m.on,int f,int u],vV 104,kW 40 (k+1) ↑(k+1)] (aB 42 [1,3,11,12,13]) 4 h
theorem aKV(t:TE)(k g:Nat)(v:List aMi)(m:MK)(f u:Int)(fb ub:Bool)(hk:(k:Int)<(t.bQ.length:Int))(hv:t.bQ.length<=1000000)(hl:v.length<=1000000)(hm:t.bQ[k]?=some m)(hf:Cq 34 [bZ t.cells,oO m.fd m.fs m.fa] (.bq [int f,bool fb]))(hu:Cq 34 [bZ t.cells,oO m.td m.ts m.ta] (.bq [int u,bool ub]))(ex:bF)(s':St)(h:Rq 0 231 0 (sM 42 [(1,.ptr 0 0),(3,.ptr 1 0),(11,.sl 11 false (au t.bQ)),(12,int ↑(length t.bQ)),(13,int ↑(k+1))] [.box [.sl 9 false (Sq.au t.cells),.sl 11 false (au t.bQ)],.box [.aU 3 (g+1) 0 (length (v++[aMi.mk m f u]))],.aH,.aN (g+1) 13 false (encI (v++[aMi.mk m f u]))]) ex s'):Rq 0 231 0 (sdO t k g v) ex s':=by
 exact aJ [ki ((k:Int)<(↑(length t.bQ):Int)),ke (aQ m) (au t.bQ) k (bG hm),kc [] hf,kc [] hu,ko (bC.hp (some 39) (AV.aU 3 (g+1) 0 (length (v++[aMi.mk m f u]))) [ah.box [AV.sl 9 false (Sq.au t.cells),AV.sl 11 false (au t.bQ)],ah.box [AV.aU 3 g 0 v.length],ah.aH,ah.aN (g+1) 13 false (encI (v++[aMi.mk m f u])),ah.box [int m.dv,int m.sq,int m.tm,int m.fd,int m.fs,int m.fa,int m.td,int m.ts,int m.ta,int m.st,Am.bool m.on]]),kp (show Am.aF (AV.aU 3 (g+1) 0 (length v+1)) (AV.aU 3 (g+1) 0 (length (v++[aMi.mk m f u])))from(aF.of_eq (by simp[atC,aBQ,aBd]))),kp (show Am.HSub [ah.box [AV.sl 9 false (Sq.au t.cells),AV.sl 11 false (au t.bQ)],ah.box [AV.aU 3 g 0 v.length],ah.aH,ah.aN (g+1) 13 false (encI v++[[int m.dv,int m.sq,int m.tm,int m.fd,int m.fs,int m.fa,int m.td,int m.ts,int m.ta,int m.st,Am.bool m.on,int f,int u]]),ah.box [int m.dv,int m.sq,int m.tm,int m.fd,int m.fs,int m.fa,int m.td,int m.ts,int m.ta,int m.st,Am.bool m.on]] [ah.box [AV.sl 9 false (Sq.au t.cells),AV.sl 11 false (au t.bQ)],ah.box [AV.aU 3 g 0 v.length],ah.aH,ah.aN (g+1) 13 false (encI (v++[aMi.mk m f u])),ah.box [int m.dv,int m.sq,int m.tm,int m.fd,int m.fs,int m.fa,int m.td,int m.ts,int m.ta,int m.st,Am.bool m.on]]from(⟨.inl rfl,.inl rfl,.inl rfl,.inl (by simp only[aBP,aFq]),.inl rfl,yO⟩)),kq g,kp (atC v).symm,vV ((length v+1)*104),kW 40 (k+1) ↑(k+1),kp (show ∀(x:List AV),x∈encI (v++[aMi.mk m f u])->AV.aM [] x=true from(aBQ _))] (aB 42 [1,3,11,12,13]) 4 h
theorem aD1(t:TE)(hL:Rq 0 231 0 (sdN t 0) (.exit 0) (aIG t))(h:True):ak P G 231 [mG t] [] (aS.ret (AV.fn (Fn.func 277) [] [AV.ptr 0 0,AV.ptr 1 0])) [sbT t,ah.box [aK]]:=by
 have _:=h;exact aj [kN 12 (ay t.bQ),kl (rG [(0,1),(2,1),(4,7),(14,28)]) 2 hL]
theorem aD2(t:TE)(v:List aMi)(hL:Rq 0 231 0 (sdN t 0) (.exit 0) (sdX t v))(h:True):ak P G 231 [mG t] [] (aS.ret (AV.fn (Fn.func 277) [] [AV.ptr 0 0,AV.ptr 1 0])) [sbT t,ah.box [ivA v],ah.aH,ah.aH]:=by
 have _:=h;exact aj [kN 12 (ay t.bQ),kl (rG [(0,1),(2,1),(4,7),(14,28)]) 2 hL]
theorem acz{r:Option Nat}{n0:Nat}{c:Code}{s s':St}{K:List ah}{ex:bF}(hs:HSub s.H K)(h:bN P G r n0 c { aL:=s.aL,H:=K,dh:=s.dh } ex s'):bN P G r n0 c s ex s':=fun V0 V a h0 k1 k2 k3=>by
 obtain⟨V2,a1,a2,a3,a4,a5⟩:=wh k2 (k3.H▸hs);rw[<- a1];exact h V0 V2 a h0 (k1.trans a4) a5 ⟨k3.aL.step a4,a2,k3.dh.step a4⟩
theorem aD3{f:FuncId}{args:List AV}{F:Fn}{c0 c1:List AV}{rest:List ah}(h:ak P G f args [] (.ret (.fn F [] [.ptr 0 0,.ptr 1 0])) (.box c0 :: .box c1::rest))(hp:c0.all AV.fJ=true)(hq:c1.all AV.fJ=true):ak P G f args [] (.ret (.fn F [] [.iG c0,.iG c1])) []:=fun V vs hH hG hr =>
 (h V vs hH hG hr).mono fun e w' he=>by
  obtain⟨V',k1,k3,k4,k2,k5⟩:=he;have hH0:V'.H[0]?=some (.box c0):=by rw[k2];rfl
  have NV:V'.H[1]?=some (.box c1):=by rw[k2];rfl
  have hVl:V.H.length=0:=by rw[hH];rfl
  have TR:∀i,i<2->V.w.heap.size<=V'.ρ i:=fun i hi=>by
   rcases k3.fresh i (by rw[k2];simp;omega)with h|h
   .have:=h.1;omega
   .exact h
  let V2:View:={ w:=V'.w,M:=fun b=>V'.M b/\b≠V'.ρ 0/\b≠V'.ρ 1,H:=[],ρ:=V'.ρ };have fB:Step V V2:={
   os:=k3.os
   tape:=k3.tape
   output:=k3.output
   size:=k3.size
   drawn:=k3.drawn
   keep:=fun b hb hn=>⟨(k3.keep b hb hn).1,⟨fun h=>(k3.keep b hb hn).2.1 h.1,fun h=>⟨(k3.keep b hb hn).2.2 h,fun e=>by have:=TR 0 zO;omega,fun e=>by have:=TR 1 zO;omega⟩⟩⟩
   data:=fun b hb hn=>⟨(k3.data b hb hn).1,fun h=>(k3.data b hb hn).2 h.1⟩
   bL:=by rw[hVl];exact yN
   fresh:=fun i hi=>absurd hi (y24 _)
   eP:=fun i hi=>absurd hi zO }
  have hG2:aD G V2:={
   lt:=fun i hi=>absurd hi (y24 _)
   eP:=fun i ob ho=>by cases(show([]:List ah)[i]?=some ob from ho)
   inj:=fun i j hi=>absurd hi (y24 _)
   gW:=fun i ob ho=>by cases(show([]:List ah)[i]?=some ob from ho)
   ng:=hG.gD fB }
  refine⟨V2,k1,fB,hG2,rfl,?_⟩;cases e with
  |panicked _=>exact k5.elim
  |outgrown=>exact k5.elim
  |returned v =>
   have k5:dI V' (.fn F [] [.ptr 0 0,.ptr 1 0]) v:=k5;show dI V2 (.fn F [] [.iG c0,.iG c1]) v;have iG:∀{i:Nat}{cs:List AV},i<2->V'.H[i]?=some (.box cs)->cs.all AV.fJ=true->dR V2.w V2.M (.iG cs) (.pointer (some ⟨V'.ρ i,0,none⟩)):=fun{i cs} hi hb hpu=>by
    obtain⟨bs,hr,hc⟩:=wD k4 hb;refine dR.iG cs ⟨V'.ρ i,0,none⟩ (fun j=>bs.getD j undef) rfl (fun _ h=>?_) (fun j hj=>hc j hj) fun j hj=>?_
    .match i,hi with
     |0,_=>exact h.2.1 rfl
     |1,_=>exact h.2.2 rfl
    .have hx:=hr.2 j hj;refine(kE ?_ hx).wI rfl (fun b h=>h.1);rw[yB,yA hj];exact all_eq_true.1 hpu _ (y03 _)
   have key:∀us ws:List Value,us.length=0->ws.length=2->dI V' (.ptr 0 0) (ws.getD 0 undef)->dI V' (.ptr 1 0) (ws.getD 1 undef)->dI V2 (.fn F [] [.iG c0,.iG c1]) (.func F us.toArray ws.toArray):=fun us ws h1 h2 h3 h3'=>by
    have h4:ws.getD 0 undef = .pointer (some ⟨V'.ρ 0,0,none⟩):=(jr h3).2;have h5:ws.getD 1 undef = .pointer (some ⟨V'.ρ 1,0,none⟩):=(jr h3').2;refine .pure _ _ (.fn F [] [.iG c0,.iG c1] us ws h1 h2 (fun j hj=>absurd hj (y24 _)) fun j hj=>?_)
    match j,hj with
    |0,_=>rw[h4];exact iG zO hH0 hp
    |1,_=>rw[h5];exact iG zO NV hq
   obtain⟨us,ws,rfl,hu,hb⟩:=yY k5;exact key us ws hu.1 hb.1 (hb.2 0 zS) (hb.2 1 zS)
abbrev sfn(t:TE)(v:List aMi):AV:=.fn (.func 277) [] [.iG [bZ t.cells,oI t.bQ],.iG [ivA v]]
def az7(t:TE):List aMi:=t.bQ.map (axw t.cells)
theorem aD4(t:TE)(hc:t.cells.length<=1000000)(hv:t.bQ.length<=1000000):∀n k g v,t.bQ.length-k=n->k<=t.bQ.length->v.length=k->Rq 0 231 0 (sdO t k g v) (.exit 0) (sdX t (v++(t.bQ.drop k).map (axw t.cells))):=by
 intro n
 induction n with
 |zero =>
  intro k g v hn hk hl;rw[y14 zO,map_nil,y19];have h:=aII t k g v zO trivial;have e:mR (aGW t g v).H (.aU 3 g 0 v.length) (encI v)=some (ivA v,[sbT t,.box [.aU 3 g 0 v.length],.aH,.aN g 13 true (encI v)],[g=g,((encI v).drop 0).take v.length=encI v,(encI v).length=v.length,∀c∈encI v,c.all AV.fJ=true]):=rfl;have h1:=bN.ahI (j:=0) h (show(aGW t g v).H[1]?=some (.box [.aU 3 g 0 v.length])from rfl) (show[sbT t,.box [.aU 3 g 0 v.length],.aH,.aN g 13 true (encI v)][1]?=some (.box [.aU 3 g 0 v.length])from rfl) rfl e ⟨rfl,aD0 v,atC v,aBd v,yO⟩;exact bN.qm h1 ⟨.inl rfl,.inl rfl,.inl rfl,.inr yO,yO⟩
 |succ n ih =>
  intro k g v hn hk hl;have bg:k<t.bQ.length:=zO
  have hm:t.bQ[k]?=some t.bQ[k]:=yA bg;have nx:=ih (k+1) (g+1) (v++[axw t.cells t.bQ[k]]) zO zO (by simp;omega);rw[y01 bg,map_cons,show v++axw t.cells t.bQ[k]::(t.bQ.drop (k+1)).map (axw t.cells)=v++[axw t.cells t.bQ[k]]++(t.bQ.drop (k+1)).map (axw t.cells) by simp];exact aKV t k g v _ _ _ _ _ zO hv zO hm (wX t.cells _ _ _ zO) (wX t.cells _ _ _ zO) _ _ nx
theorem aD5(t:TE)(hc:t.cells.length<=1000000)(hv:t.bQ.length<=1000000):Cq 231 [mG t] (sfn t (az7 t)):=by
 unfold az7;by_cases fF:t.bQ=[]
 .have h:=aD1 t (aIH t 0 (by rw[fF];simp) yO) trivial;have h2:=aD3 h rfl rfl;rw[fF,map_nil];refine h2.out ?_;intro V v hr;obtain⟨us,vs,rfl,hu,hvv⟩:=yY hr;refine .fn _ _ _ us vs hu.1 hvv.1 hu.2 fun j hj=>?_;have h2:j<2:=hj
  match j,h2 with
  |0,_ =>
   exact hvv.2 0 zS
  |1,_ =>
   have h1:dI V (.iG [aK]) (vs.getD 1 undef):=hvv.2 1 zS;show dI V (.iG [ivA []]) (vs.getD 1 undef);generalize vs.getD 1 undef=w1 at h1 |-;have h3:=pR h1;cases h3 with
   |iG _ a ws hs hb lG Ii =>
    refine .pure _ _ (.iG _ a ws hs (fun _=>hb zS) lG fun j hj=>?_);obtain rfl:j=0:=by have:j<1:=hj;omega
    have:=Ii 0 zS;have h5:=aF.nil 13 V _ (.pure _ _ this);exact jF h5
 .have bg:0<t.bQ.length:=length_pos_iff.2 fF;have hm:t.bQ[0]?=some t.bQ[0]:=yA bg;have nx:=aD4 t hc hv _ 1 0 [axw t.cells t.bQ[0]] rfl zO rfl;have e:[axw t.cells t.bQ[0]]++(t.bQ.drop 1).map (axw t.cells)=t.bQ.map (axw t.cells):=by
   conv=>rhs;rw[<- drop_zero (l:=t.bQ),y01 bg]
   rfl
  rw[e]at nx;have h0:=aKU t 0 t.bQ[0] _ _ _ _ zO hv hm (wX t.cells _ _ _ zO) (wX t.cells _ _ _ zO) _ _ (acz (K:=[sbT t,.box [.aU 3 0 0 1],.aH,.aN 0 13 false (encI [axw t.cells t.bQ[0]])]) ⟨.inl rfl,.inl rfl,.inr yO,.inl rfl,yO⟩ nx);exact aD3 (aD2 t _ h0 yO) rfl rfl
def zT(p:Nat->Bool):Nat->Nat->List Int
 |0,_=>[]
 |m+1,s=>if p s=true then(s:Int)::zT p m (s+1)else zT p m (s+1)
theorem awH(p:Nat->Bool):∀m s,(zT p m s).length<=m
 |0,_=>yM
 |m+1,s=>by
  rw[zT];have:=awH p m (s+1);split
  .rw [yE];omega
  .omega
theorem aAc{p q:Nat->Bool}:∀{m s:Nat},(∀j,s<=j->j<s+m->p j=q j)->zT p m s=zT q m s
 |0,_,_=>rfl
 |m+1,s,h=>by
  rw[zT,zT,h s yM zO,aAc fun j h1 h2=>h j zO zO]
theorem aBR{p q:Nat->Bool}{k:Nat}(h1:∀j,j<k->p j=false)(h2:p k=true)(h3:∀j,j<=k->q j=false)(h4:∀j,k<j->q j=p j):∀{m s:Nat},s<=k->k<s+m->zT p m s=(k:Int)::zT q m s
 |0,s,h5,h6=>zO
 |m+1,s,h5,h6=>by
  by_cases e:s=k
  .subst e;rw[zT,zT,h2,yL rfl,h3 s yM,yK zD];congr 1;exact aAc fun j a b=>(h4 j zO).symm
  .rw [zT,zT,h1 s zO,yK zD,h3 s zO,yK zD];exact aBR h1 h2 h3 h4 zO zO
theorem aBe:∀n:Nat,0<n->∃k q,n=2^k*(2*q+1):=by
 intro n
 induction n using Nat.strongRecOn with
 |ind n ih =>
  intro hn;by_cases h2:n % 2=0
  .obtain ⟨k,q,h⟩:=ih (n/2) zO zO;refine⟨k+1,q,?_⟩;rw[Nat.pow_succ,Nat.mul_comm (2^k) 2,Nat.mul_assoc,<- h];omega
  .exact ⟨0,n/2,by simp;omega⟩
theorem aAR(q i:Nat):(2*q+1).testBit i=if i=0 then true else q.testBit (i-1):=by
 cases i with
 |zero=>simp
 |succ i=>rw[Nat.testBit_succ,show(2*q+1)/2=q by omega];simp
theorem aBn(q i:Nat):(2*q).testBit i=if i=0 then false else q.testBit (i-1):=by
 cases i with
 |zero=>simp
 |succ i=>rw[Nat.testBit_succ,show(2*q)/2=q by omega];simp
theorem aAo(k a j:Nat):(2^k*a).testBit j=if j<k then false else a.testBit (j-k):=by
 have:=Nat.testBit_two_pow_mul_add a (b:=0) (i:=k) (Nat.two_pow_pos k) j;simpa using this
theorem aD6(k q:Nat):(2^k*(2*q+1)) &&& (2^k*(2*q+1)-1)=2^k*(2*q):=by
 have e:2^k*(2*q+1)-1=2^k*(2*q)+(2^k-1):=by
  have:=Nat.two_pow_pos k;rw[Nat.mul_add];omega
 apply Nat.eq_of_testBit_eq;intro j;rw[Nat.testBit_and,e,Nat.testBit_two_pow_mul_add _ (by have:=Nat.two_pow_pos k;omega),aAo,aAo];by_cases h:j<k
 .simp [h]
 .simp only[h,if_false];rw[aAR,aBn];by_cases h0:j-k=0<;>simp[h0]
theorem and_neg(k q:Nat)(hn:2^k*(2*q+1)<2^32):(2^k*(2*q+1)) &&& (2^32-2^k*(2*q+1))=2^k:=by
 have hk:k<32:=by
  rcases y08 k 32 with h|h
  .exact h
  .have h1:2^32<=2^k:=Nat.pow_le_pow_right zD h;have h2:2^k*1<=2^k*(2*q+1):=Nat.mul_le_mul_left _ zO;omega
 have hp:2^32=2^k*(2*2^(31-k)):=by
  rw[<- Nat.pow_succ',<- Nat.pow_add];congr 1;omega
 have hq:q<2^(31-k):=by
  rw[hp]at hn;have:=Nat.lt_of_mul_lt_mul_left hn;omega
 have e:2^32-2^k*(2*q+1)=2^k*(2*(2^(31-k)-(q+1))+1):=by
  rw[hp,<- Nat.mul_sub];congr 1;omega
 apply Nat.eq_of_testBit_eq;intro j;rw[Nat.testBit_and,e,aAo,aAo,Nat.testBit_two_pow];by_cases h:j<k
 .simp [h];omega
 .simp only[h,if_false];rw[aAR,aAR];by_cases h0:j-k=0
  .have:k=j:=zO
   simp[this]
  .simp only[h0,if_false];rw[Nat.testBit_two_pow_sub_succ hq];have:¬k=j:=zO
   cases q.testBit (j-k-1)<;>simp[this]
theorem axl(n:Nat)(h:n<2^32):IntKind.wrap IntKind.u32 (n:Int)=(n:Int):=by
 simp only[IntKind.wrap,IntKind.bits,IntKind.signed,Bool.false_and];rw[yK zD];omega
theorem aCy{a b:Nat}(ha:a<2^32)(hb:b<2^32):BitVec.toNat (BitVec.ofInt (IntKind.bits IntKind.u32) (a:Int) &&& BitVec.ofInt (IntKind.bits IntKind.u32) (b:Int))=a &&& b:=by
 show BitVec.toNat (BitVec.ofInt 32 (a:Int) &&& BitVec.ofInt 32 (b:Int))=a &&& b;rw[BitVec.ofInt_natCast,BitVec.ofInt_natCast,BitVec.toNat_and,BitVec.toNat_ofNat,BitVec.toNat_ofNat,Nat.mod_eq_of_lt ha,Nat.mod_eq_of_lt hb]
theorem aBS(k q:Nat)(hn:2^k*(2*q+1)<2^32):aIC ((2^k*(2*q+1):Nat):Int)=((2^k*(2*q):Nat):Int):=by
 have qh:0<2^k*(2*q+1):=Nat.mul_pos (Nat.two_pow_pos k) zO;have e1:((2^k*(2*q+1):Nat):Int)-1=((2^k*(2*q+1)-1:Nat):Int):=zO
 unfold aIC;rw[e1,axl _ (show 2^k*(2*q+1)-1<2^32 by omega),aCy hn (show 2^k*(2*q+1)-1<2^32 by omega),aD6,axl];have:2^k*(2*q)<=2^k*(2*q+1):=Nat.mul_le_mul_left _ zO;omega
theorem aD7(k q:Nat)(hn:2^k*(2*q+1)<2^32):aua ((2^k*(2*q+1):Nat):Int)=((2^k:Nat):Int):=by
 have qh:0<2^k*(2*q+1):=Nat.mul_pos (Nat.two_pow_pos k) zO;have e1:IntKind.wrap IntKind.u32 (0-((2^k*(2*q+1):Nat):Int))=((2^32-2^k*(2*q+1):Nat):Int):=by
  generalize 2^k*(2*q+1)=n at hn qh;simp only[IntKind.wrap,IntKind.bits,IntKind.signed,Bool.false_and];rw[yK zD];omega
 unfold aua;rw[e1,aCy hn (show 2^32-2^k*(2*q+1)<2^32 by omega),and_neg k q hn,axl];have:2^k*1<=2^k*(2*q+1):=Nat.mul_le_mul_left _ zO;omega
theorem aGX(x:Int)(h0:(x==0)=false)(k:Nat)(p:Int)(hp:p=((2^k:Nat):Int))(hl:aua x=p)(hk:k<16):Cq 279 [u32 x] (int (k:Int)):=by
 rcases(show k=0\/k=1\/k=2\/k=3\/k=4\/k=5\/k=6\/k=7\/k=8\/k=9\/k=10\/k=11\/k=12\/k=13\/k=14\/k=15 by omega)with rfl|rfl|rfl|rfl|rfl|rfl|rfl|rfl|rfl|rfl|rfl|rfl|rfl|rfl|rfl|rfl
 .exact aKy x h0 (hl.trans (hp.trans zD))
 .exact aKz x h0 (hl.trans (hp.trans zD))
 .exact aKA x h0 (hl.trans (hp.trans zD))
 .exact aKB x h0 (hl.trans (hp.trans zD))
 .exact aKC x h0 (hl.trans (hp.trans zD))
 .exact aKD x h0 (hl.trans (hp.trans zD))
 .exact aKE x h0 (hl.trans (hp.trans zD))
 .exact aKF x h0 (hl.trans (hp.trans zD))
 .exact aKG x h0 (hl.trans (hp.trans zD))
 .exact aKH x h0 (hl.trans (hp.trans zD))
 .exact aH6 x h0 (hl.trans (hp.trans zD))
 .exact aH7 x h0 (hl.trans (hp.trans zD))
 .exact aH8 x h0 (hl.trans (hp.trans zD))
 .exact aH9 x h0 (hl.trans (hp.trans zD))
 .exact aIa x h0 (hl.trans (hp.trans zD))
 .exact aIb x h0 (hl.trans (hp.trans zD))
theorem aIJ(k q:Nat)(hn:2^k*(2*q+1)<65536):Cq 279 [u32 ((2^k*(2*q+1):Nat):Int)] (int (k:Int)):=by
 have hk:k<16:=by
  rcases y08 k 16 with h|h
  .exact h
  .have h1:2^16<=2^k:=Nat.pow_le_pow_right zD h;have h2:2^k*1<=2^k*(2*q+1):=Nat.mul_le_mul_left _ zO;omega
 have qh:0<2^k*(2*q+1):=Nat.mul_pos (Nat.two_pow_pos k) zO;have h0:(((2^k*(2*q+1):Nat):Int)==0)=false:=by simp only[beq_eq_false_iff_ne,ne_eq];omega
 have hl:=aD7 k q zO;exact aGX _ h0 k _ rfl hl hk
theorem aBT(k q:Nat)(hn:2^k*(2*q+1)<65536):zT (2^k*(2*q+1)).testBit 16 0=(k:Int)::zT (2^k*(2*q)).testBit 16 0:=by
 have hk:k<16:=by
  rcases y08 k 16 with h|h
  .exact h
  .have h1:2^16<=2^k:=Nat.pow_le_pow_right zD h;have h2:2^k*1<=2^k*(2*q+1):=Nat.mul_le_mul_left _ zO;omega
 refine aBR (k:=k) (fun j hj=>?_) ?_ (fun j hj=>?_) (fun j hj=>?_) zO zO
 .rw [aAo,yL hj]
 .rw [aAo,yK zO,Nat.sub_self,aAR,yL rfl]
 .rw [aAo];split
  .rfl
  .rw [show j-k=0 by omega,aBn,yL rfl]
 .rw [aAo,aAo,yK zO,yK zO,aAR,aBn,yK zO,yK zO]
theorem aAv:∀m s,zT (0:Nat).testBit m s=[]
 |0,_=>rfl
 |m+1,s=>by rw[zT,Nat.zero_testBit,yK zD,aAv m (s+1)]
theorem aD8:∀n:Nat,n<65536->∀g l,l.length+(zT n.testBit 16 0).length<=16->∃g',Rq 0 232 0 (lsO (n:Int) g l) (.exit 0) (aGT g' (l++zT n.testBit 16 0)):=by
 intro n
 induction n using Nat.strongRecOn with
 |ind n ih =>
  intro hn g l hl;rcases Nat.eq_zero_or_pos n with h0|h0
  .subst h0;rw[aAv,y19];exact⟨g,aIF 0 g l rfl yO⟩
  .obtain ⟨k,q,rfl⟩:=aBe n h0;have bg:2^k*(2*q)<2^k*(2*q+1):=Nat.mul_lt_mul_of_pos_left zO (Nat.two_pow_pos k);rw[aBT k q hn]at hl |-;obtain⟨g',nx⟩:=ih (2^k*(2*q)) bg zO (g+1) (l++[(k:Int)]) (by simp at hl |-;omega);refine⟨g',aKT _ (k:Int) g l (by simp at hl;omega) zO (aIJ k q hn) _ _ ?_⟩;rw[show l++(k:Int)::zT (2^k*(2*q)).testBit 16 0=l++[(k:Int)]++zT (2^k*(2*q)).testBit 16 0 by simp];rw[<- aBS k q zO]at nx;exact nx
theorem uj(n:Nat)(hn:n<65536):Cq 232 [u32 (n:Int)] (ils (zT n.testBit 16 0)):=by
 rcases Nat.eq_zero_or_pos n with h0|h0
 .subst h0;rw[aAv];exact aGU 0 (aIE 0 rfl yO) trivial
 .obtain ⟨k,q,rfl⟩:=aBe n h0;have bg:2^k*(2*q)<2^k*(2*q+1):=Nat.mul_lt_mul_of_pos_left zO (Nat.two_pow_pos k);have bL:=awH (2^k*(2*q+1)).testBit 16 0;rw[aBT k q hn]at bL |-;obtain⟨g',nx⟩:=aD8 (2^k*(2*q)) zO 0 [(k:Int)] (by simp at bL |-;omega);rw[<- aBS k q zO]at nx;exact aGV _ g' _ (aKS _ (k:Int) zO (aIJ k q hn) _ _ nx) trivial
theorem aCz(s:Nat)(hs:s<16):aFo (s:Int)=((2^s:Nat):Int):=by
 unfold aFo;rw[y26,show min s (IntKind.bits IntKind.u32)=s by show min s 32=s;omega,Int.one_mul];have h2:2^s<2^32:=Nat.pow_lt_pow_right zD zO;have:=axl (2^s) h2;simpa using this
theorem aFr(n s:Nat)(hn:n<65536)(hs:s<16):∃r:Nat,aFp (n:Int) (s:Int)=(r:Int)/\r<65536/\∀j,r.testBit j=(n.testBit j && !decide (s=j)):=by
 have h2:2^s<2^32:=Nat.pow_lt_pow_right zD zO;refine⟨(BitVec.ofNat 32 n &&& ~~~BitVec.ofNat 32 (2^s)).toNat,?_,?_,fun j=>?_⟩
 .unfold aFp;rw[aCz s hs];show IntKind.wrap IntKind.u32 ((BitVec.toNat (BitVec.ofInt 32 (n:Int) &&& ~~~BitVec.ofInt 32 ((2^s:Nat):Int)):Nat):Int)=_;rw[BitVec.ofInt_natCast,BitVec.ofInt_natCast];exact axl _ (BitVec.isLt _)
 .rw [BitVec.toNat_and];refine Nat.lt_of_le_of_lt Nat.and_le_left ?_;rw[BitVec.toNat_ofNat];exact Nat.lt_of_le_of_lt (Nat.mod_le _ _) hn
 .rw [BitVec.testBit_toNat,BitVec.getLsbD_and,BitVec.getLsbD_not,BitVec.getLsbD_ofNat,BitVec.getLsbD_ofNat,Nat.testBit_two_pow];by_cases hj:j<32
  .simp [hj]
  .have:n.testBit j=false:=Nat.testBit_lt_two_pow (y21 hn (by
    have:2^16<=2^j:=Nat.pow_le_pow_right zD zO;omega))
   simp[hj,this]
theorem aGY(n s:Nat)(hn:n<65536)(hs:s<16):∃r:Nat,orB (n:Int) (s:Int)=(r:Int)/\r<65536/\∀j,r.testBit j=(n.testBit j||decide (s=j)):=by
 have h2:2^s<2^32:=Nat.pow_lt_pow_right zD zO;have h16:2^s<2^16:=Nat.pow_lt_pow_right zD hs;have e:(BitVec.ofNat 32 n ||| BitVec.ofNat 32 (2^s)).toNat=n ||| 2^s:=by
  rw[BitVec.toNat_or,BitVec.toNat_ofNat,BitVec.toNat_ofNat,Nat.mod_eq_of_lt zO,Nat.mod_eq_of_lt h2]
 refine⟨n ||| 2^s,?_,?_,fun j=>?_⟩
 .unfold orB;rw[aCz s hs];show IntKind.wrap IntKind.u32 ((BitVec.toNat (BitVec.ofInt 32 (n:Int) ||| BitVec.ofInt 32 ((2^s:Nat):Int)):Nat):Int)=_;rw[BitVec.ofInt_natCast,BitVec.ofInt_natCast,<- e];exact axl _ (BitVec.isLt _)
 .exact Nat.or_lt_two_pow (n:=16) hn h16
 .rw [Nat.testBit_or,Nat.testBit_two_pow]
theorem aFs(n s:Nat)(o:Bool)(hn:n<65536)(hs:s<16):∃r:Nat,aA3 (n:Int) (s:Int) o=(r:Int)/\r<65536/\∀j,r.testBit j=if s=j then o else n.testBit j:=by
 obtain⟨r,h1,h2,h3⟩:=aFr n s hn hs;unfold aA3;cases o with
 |false =>
  rw[yK zD];refine⟨r,h1,h2,fun j=>?_⟩;rw[h3];by_cases e:s=j<;>simp[e]
 |true =>
  rw[yL rfl,h1];obtain⟨r',k1,k2,k3⟩:=aGY r s h2 hs;refine⟨r',k1,k2,fun j=>?_⟩;rw[k3,h3];by_cases e:s=j<;>simp[e]
def stN(i:Int):Int->List aMi->Int
 |x,[]=>x
 |x,v::r=>stN i (if v.f<=i/\i<=v.t then aA3 x v.m.st v.m.on else x) r
abbrev aKW(b:Nat):AV:=.fn (.func 278) [.ptr b 0] []
theorem aBo(t:TE)(i:Int):∀n s,stF t i n s=zT (fun s=>onF t.cells i (s:Int) false t.bQ) n s
 |0,_=>rfl
 |n+1,s=>by rw[stF,zT,aBo t i n (s+1)]
theorem aAi(t:TE)(i:Int):(aCc t i).length<=16:=by unfold aCc;rw[aBo];exact awH _ _ _
theorem aEa(t:TE)(i:Int)(s:Nat)(hc:t.cells.length<=1000000)(hv:t.bQ.length<=1000000):∀n k b,t.bQ.length-k=n->k<=t.bQ.length->Rq 0 235 1 (siN t i s b k) (.exit 2) (aHV t i s (onF t.cells i s b (t.bQ.drop k))):=by
 intro n
 induction n with
 |zero =>
  intro k b hn hk;rw[y14 zO];exact aHX t i s b k hc hv _ _ ⟨fun h=>absurd h zO,fun _=>⟨rfl,rfl⟩⟩
 |succ n ih =>
  intro k b hn hk;have bg:k<t.bQ.length:=zO
  have hx:t.bQ[k]?=some t.bQ[k]:=yA bg;rw[y01 bg,onF];refine aHX t i s b k hc hv _ _ ⟨fun _=>⟨_,hx,fun h1=>⟨fun h2=>?_,fun h2=>?_⟩,fun h1=>?_⟩,fun h=>absurd bg zO⟩
  .rw [yL ⟨h1,h2⟩];exact ih (k+1) _ zO zO
  .rw [yK (fun h=>by rw[h2]at h;cases h.2)];exact ih (k+1) _ zO zO
  .rw [yK (fun h=>h1 h.1)];exact ih (k+1) _ zO zO
theorem aEb(t:TE)(i:Int)(s g:Nat)(l:List Int)(hc:t.cells.length<=1000000)(hv:t.bQ.length<=1000000):∀n k b,t.bQ.length-k=n->k<=t.bQ.length->Rq 0 235 1 (siO t i s b k g l) (.exit 2) (aHW t i s (onF t.cells i s b (t.bQ.drop k)) g l):=by
 intro n
 induction n with
 |zero =>
  intro k b hn hk;rw[y14 zO];exact aHY t i s b k g l hc hv _ _ ⟨fun h=>absurd h zO,fun _=>⟨rfl,rfl⟩⟩
 |succ n ih =>
  intro k b hn hk;have bg:k<t.bQ.length:=zO
  have hx:t.bQ[k]?=some t.bQ[k]:=yA bg;rw[y01 bg,onF];refine aHY t i s b k g l hc hv _ _ ⟨fun _=>⟨_,hx,fun h1=>⟨fun h2=>?_,fun h2=>?_⟩,fun h1=>?_⟩,fun h=>absurd bg zO⟩
  .rw [yL ⟨h1,h2⟩];exact ih (k+1) _ zO zO
  .rw [yK (fun h=>by rw[h2]at h;cases h.2)];exact ih (k+1) _ zO zO
  .rw [yK (fun h=>h1 h.1)];exact ih (k+1) _ zO zO
theorem aEc(t:TE)(i:Int)(hc:t.cells.length<=1000000)(hv:t.bQ.length<=1000000):∀n s g l,16-s=n->s<=16->l.length<=s->∃g',Rq 0 235 0 (soO t i s g l) (.exit 0) (aE8 t g' (l++stF t i n s)):=by
 intro n
 induction n with
 |zero =>
  intro s g l hn hs hl;rw[stF,y19];exact⟨g,aH2 t i s g l zO yO⟩
 |succ n ih =>
  intro s g l hn hs hl;have hi:=aEb t i s g l hc hv _ 0 false rfl yN;rw[drop_zero]at hi;rw[stF];cases hb:onF t.cells i s false t.bQ with
  |true =>
   rw[yL rfl];rw[hb]at hi;obtain⟨g',nx⟩:=ih (s+1) (g+1) (l++[(s:Int)]) zO zO (by simp;omega);rw[show l++(s:Int)::stF t i n (s+1)=l++[(s:Int)]++stF t i n (s+1) by simp];exact⟨g',aH3 t i s true g l zO zO hi _ _ ⟨fun _=>nx,fun h=>(by cases h)⟩⟩
  |false =>
   rw[yK zD];rw[hb]at hi;obtain⟨g',nx⟩:=ih (s+1) g l zO zO zO;exact⟨g',aH3 t i s false g l zO zO hi _ _ ⟨fun h=>(by cases h),fun _=>nx⟩⟩
theorem aEd(t:TE)(i:Int)(hc:t.cells.length<=1000000)(hv:t.bQ.length<=1000000):∀n s,16-s=n->s<=16->(stF t i n s=[]/\Rq 0 235 0 (soN t i s) (.exit 0) (aGB t))\/∃g',Rq 0 235 0 (soN t i s) (.exit 0) (aE8 t g' (stF t i n s)):=by
 intro n
 induction n with
 |zero=>intro s hn hs;exact .inl ⟨rfl,aHZ t i s zO yO⟩
 |succ n ih =>
  intro s hn hs;have hi:=aEa t i s hc hv _ 0 false rfl yN;rw[drop_zero]at hi;rw[stF];cases hb:onF t.cells i s false t.bQ with
  |true =>
   rw[yL rfl];rw[hb]at hi;obtain⟨g',nx⟩:=aEc t i hc hv n (s+1) 0 [(s:Int)] zO zO zS;exact .inr ⟨g',aGC t i s true zO hi _ _ ⟨fun _=>nx,fun h=>(by cases h)⟩⟩
  |false =>
   rw[yK zD];rw[hb]at hi;rcases ih (s+1) zO zO with⟨e,nx⟩|⟨g',nx⟩
   .exact .inl ⟨e,aGC t i s false zO hi _ _ ⟨fun h=>(by cases h),fun _=>nx⟩⟩
   .exact .inr ⟨g',aGC t i s false zO hi _ _ ⟨fun h=>(by cases h),fun _=>nx⟩⟩
theorem aAS(t:TE)(i:Int)(hc:t.cells.length<=1000000)(hv:t.bQ.length<=1000000):Cq 235 [mG t,int i] (ils (aCc t i)):=by
 unfold aCc;rcases aEd t i hc hv 16 0 rfl zO with⟨e,h⟩|⟨g,h⟩
 .rw [e];exact aH4 t i h trivial
 .exact aH5 t i g _ h trivial
variable {m:MK}{l:List CE}
theorem aEe(h:F8 l m=true)(i:Int):((axw l m).f<=i/\i<=(axw l m).t)↔aAB l m i=true:=by
 unfold F8 at h;simp only[y04]at h;obtain⟨⟨⟨⟨⟨⟨h1,h2⟩,_⟩,_⟩,_⟩,_⟩,_⟩:=h;obtain⟨a,ha⟩:=Option.isSome_iff_exists.1 h1;obtain⟨b,hb⟩:=Option.isSome_iff_exists.1 h2;have e1:ixP l m.frm=(a:Int):=by show nE (fX (vM m.fd m.fs m.fa) l)=_;rw[ha];rfl
 have e2:ixP l m.upto=(b:Int):=by show nE (fX (vM m.td m.ts m.ta) l)=_;rw[hb];rfl
 have e3:(axw l m).f=(a:Int):=by show(U2 (fX (vM m.fd m.fs m.fa) l)).1=_;rw[ha];rfl
 have e4:(axw l m).t=(b:Int):=by show(U2 (fX (vM m.td m.ts m.ta) l)).1=_;rw[hb];rfl
 rw[aAB,e1,e2,e3,e4,y04,y05,y05]
theorem aCA(h:F8 l m=true):0<=m.st/\m.st<16:=by
 unfold F8 at h;simp only[y04,y05]at h;omega
theorem aBp(l:List CE)(i:Int):∀(ms:List MK)(n:Nat),(∀m∈ms,F8 l m=true)->n<65536->∃r:Nat,stN i (n:Int) (ms.map (axw l))=(r:Int)/\r<65536/\∀s,s<16->r.testBit s=onF l i (s:Int) (n.testBit s) ms
 |[],n,_,hn=>⟨n,rfl,hn,fun _ _=>rfl⟩
 |m::ms,n,hm,hn=>by
  have hk:=hm m zS;have fB:=aCA hk;obtain⟨s0,hs0⟩:∃s0:Nat,m.st=(s0:Int):=⟨m.st.toNat,zO⟩;rw[map_cons,stN];by_cases hc:aAB l m i=true
  .rw [yL ((aEe hk i).2 hc)];obtain⟨r,k1,k2,k3⟩:=aFs n s0 m.on hn zO;show ∃r:Nat,stN i (aA3 (n:Int) m.st m.on) (ms.map (axw l))=(r:Int)/\_;rw[hs0,k1];obtain⟨r',j1,j2,j3⟩:=aBp l i ms r (fun x hx=>hm x (yF _ hx)) k2;refine⟨r',j1,j2,fun s hs=>?_⟩;rw[j3 s hs,k3,onF];congr 1;by_cases e:s0=s
   .subst e;rw[yL rfl,yL ⟨hs0,hc⟩]
   .rw [yK e,yK (fun h=>e (by have:=h.1;omega))]
  .rw [yK (fun h=>hc ((aEe hk i).1 h))];obtain⟨r',j1,j2,j3⟩:=aBp l i ms n (fun x hx=>hm x (yF _ hx)) hn;refine⟨r',j1,j2,fun s hs=>?_⟩;rw[j3 s hs,onF,yK (fun h=>hc h.2)]
theorem aEf(t:TE)(i:Int)(h:Val t):∃r:Nat,stN i 0 (az7 t)=(r:Int)/\r<65536/\zT r.testBit 16 0=aCc t i:=by
 obtain⟨r,h1,h2,h3⟩:=aBp t.cells i t.bQ 0 h.bQ.isM zD;refine⟨r,h1,h2,?_⟩;unfold aCc;rw[aBo];refine aAc fun j _ hj=>?_;rw[h3 j zO,Nat.zero_testBit]
theorem aCe{t:TE}(h:Val t):∀y∈az7 t,0<=y.m.st:=fun y hy=>by
 obtain⟨m,hm,rfl⟩:=yG.1 hy;exact(aCA (h.bQ.isM m hm)).1
end Go.Tx
namespace Go.Am
open Go
variable {α:Type}
variable {ex:bF}{s s':St}{c:Code}{n0:Nat}{r:Option Nat}
variable {ps:List Prop}{z xs:List (List AV)}{y:AV}{b k j g sz:Nat}{V:View}
section
variable {P:Program} {G:Nat->Option (List AV)}
theorem aBU{cells:List AV}{x:AV}{H1:List ah}(hG:aD G V)(hb:V.H[b]?=some (.aN g sz false xs))(Mf:H1[b]?=some (.aN g sz false xs))(hk:xs[k]?=some cells)(hj:cells[j]?=some x)(ha:mR V.H x z=some (y,H1,ps))(dG:gZ ps):∃V':View,V'.w=V.w/\V'.H=H1.set b (.aN g sz false (xs.set k (cells.set j y)))/\Step V V'/\aD G V':=by
 obtain⟨t,c,h1,h2,h3,h4⟩:=hG.eP b _ hb;have LB:=(yC.1 hk).1;have JN:=(yC.1 hj).1;have lG:cells.length=sz:=h3 cells (mem_of_getElem? hk);have hjs:j<sz:=zO
 have exk:xs.getD k []=cells:=by rw[yB,hk];rfl
 have ejx:cells.getD j .aP=x:=by rw[yB,hj];rfl
 obtain⟨v0,hv0,rY,hx⟩:=h4 k j LB hjs;rw[exk,ejx]at hx;obtain⟨V1,k1,k2,k3,k4,k5⟩:=sG ha dG hG hx;have bg:=(yC.1 hb).1;have hρ:V1.ρ b=V.ρ b:=by
  have:=k3.eP b bg;unfold dL at this;rw[hb,k2,Mf]at this;rcases this with h|⟨_,_,h,_⟩
  .omega
  .exact h
 obtain⟨t',c',o1,o2,o3,o4⟩:=k4.eP b _ (by rw[k2];exact Mf);have hcc:c'=c:=by
  rw[hρ,k1,h1]at o1;injection o1 with o1;injection o1 with o1 o1';exact o1.symm
 subst hcc;have Vz:(xs.set k (cells.set j y)).length=xs.length:=length_set;obtain⟨V2,l1,l2,l3,l4⟩:=wE (eP:=.aN g sz false xs) (ou:=.aN g sz false (xs.set k (cells.set j y))) (w':=V1.w) k4 (by rw[k2];exact Mf) rfl o1 o1 rfl (fun _ _=>rfl) rfl rfl rfl rfl ⟨rfl,rfl,rfl⟩ (fun V' hw hs=>by
  refine⟨t',c',by rw[hw];exact o1,by rw[Vz];exact o2,fun q hq=>?_,fun k' j' hk' hj'=>?_⟩
  .rcases mem_or_eq_of_mem_set hq with h|h
   .exact o3 q h
   .rw [h,length_set];exact lG
  .rw [Vz]at hk';obtain⟨v,hv,hv1,hr⟩:=o4 k' j' hk' hj';by_cases ek:k=k'
   .subst ek;have e1:(xs.set k (cells.set j y)).getD k []=cells.set j y:=by rw[yB,getElem?_set_self hk'];rfl
    rw[e1];by_cases ej:j=j'
    .subst ej;have e2:(cells.set j y).getD j .aP=y:=by rw[yB,getElem?_set_self JN];rfl
     rw[e2];rw[hv0]at hv;cases hv;exact⟨v0,hv0,rY,k5.step hs⟩
    .have e2:(cells.set j y).getD j' .aP=(xs.getD k []).getD j' .aP:=by rw[exk,yB,yB,getElem?_set_ne ej]
     rw[e2];exact⟨v,hv,hv1,hr.step hs⟩
   .have e1:(xs.set k (cells.set j y)).getD k' []=xs.getD k' []:=by rw[yB,yB,getElem?_set_ne ek]
    rw[e1];exact⟨v,hv,hv1,hr.step hs⟩)
 exact⟨V2,l1.trans k1,by rw[l2,k2],k3.trans l3,l4⟩
theorem Px{cells:List AV}{x:AV}(hG:aD G V)(hb:V.H[b]?=some (.box cells))(hj:cells[j]?=some x)(hxy:aF x y):∃V':View,V'.w=V.w/\V'.H=V.H.set b (.box (cells.set j y))/\Step V V'/\aD G V':=by
 obtain⟨t,vs,h1,h2⟩:=hG.eP b _ hb;have JN:=(yC.1 hj).1;have hx:dI V x (vs.getD j undef):=by
  have:=h2.2 j JN;rwa[show cells.getD j .aP=x by rw[yB,hj];rfl]at this
 have hr:bR V (cells.set j y) vs:=by
  have:=h2.set j (hxy V _ hx);have e:vs.set j (vs.getD j undef)=vs:=by
   apply ext_getElem?;intro i;rw[getElem?_set];split
   .rename_i e;subst e;have:j<vs.length:=by rw[h2.1];exact JN
    rw[yL this,yB,yA this];rfl
   .rfl
  rwa[e]at this
 obtain⟨V2,l1,l2,l3,l4⟩:=wE (eP:=.box cells) (ou:=.box (cells.set j y)) (w':=V.w) hG hb rfl h1 h1 rfl (fun _ _=>rfl) rfl rfl rfl rfl trivial (fun V' hw hs=>⟨t,vs,by rw[hw];exact h1,hr.step hs⟩);exact⟨V2,l1,l2,l3,l4⟩
theorem bN.aBq{cells:List AV}{x:AV}(h:bN P G r n0 c s ex s')(hb:s'.H[b]?=some (.box cells))(hj:cells[j]?=some x)(hxy:aF x y):bN P G r n0 c s ex { aL:=s'.aL,H:=s'.H.set b (.box (cells.set j y)),dh:=s'.dh } :=
 fun V0 V a h0 k1 k2 k3=>eO.mono (h V0 V a h0 k1 k2 k3) fun _ _ _ hE=>by
  obtain⟨V1,rfl,l1,l2,l3,l4⟩:=hE;obtain⟨V2,a1,a2,a3,a4⟩:=Px l2 (l3.H▸hb) hj hxy;exact⟨V2,a1,l1.trans a3,a4,⟨l3.aL.step a3,by rw[a2,l3.H],l3.dh.step a3⟩,l4.step a3⟩
theorem aBV{cells:List AV}{x:AV}(hG:aD G V)(hb:V.H[b]?=some (.aN g sz false xs))(hk:xs[k]?=some cells)(hj:cells[j]?=some x)(hxy:aF x y) :
 ∃V':View,V'.w=V.w/\V'.H=V.H.set b (.aN g sz false (xs.set k (cells.set j y)))/\Step V V'/\aD G V':=by
 obtain⟨t,c,h1,h2,h3,h4⟩:=hG.eP b _ hb;have LB:=(yC.1 hk).1;have JN:=(yC.1 hj).1;have lG:cells.length=sz:=h3 cells (mem_of_getElem? hk);have exk:xs.getD k []=cells:=by rw[yB,hk];rfl
 have ejx:cells.getD j .aP=x:=by rw[yB,hj];rfl
 have Vz:(xs.set k (cells.set j y)).length=xs.length:=length_set;obtain⟨V2,l1,l2,l3,l4⟩:=wE (eP:=.aN g sz false xs) (ou:=.aN g sz false (xs.set k (cells.set j y))) (w':=V.w) hG hb rfl h1 h1 rfl (fun _ _=>rfl) rfl rfl rfl rfl ⟨rfl,rfl,rfl⟩ (fun V' hw hs=>by
  refine⟨t,c,by rw[hw];exact h1,by rw[Vz];exact h2,fun q hq=>?_,fun k' j' hk' hj'=>?_⟩
  .rcases mem_or_eq_of_mem_set hq with h|h
   .exact h3 q h
   .rw [h,length_set];exact lG
  .rw [Vz]at hk';obtain⟨v,hv,hv1,hr⟩:=h4 k' j' hk' hj';by_cases ek:k=k'
   .subst ek;have e1:(xs.set k (cells.set j y)).getD k []=cells.set j y:=by rw[yB,getElem?_set_self hk'];rfl
    rw[e1];by_cases ej:j=j'
    .subst ej;have e2:(cells.set j y).getD j .aP=y:=by rw[yB,getElem?_set_self JN];rfl
     rw[e2];rw[exk,ejx]at hr;exact⟨v,hv,hv1,(hxy _ _ hr).step hs⟩
    .have e2:(cells.set j y).getD j' .aP=(xs.getD k []).getD j' .aP:=by rw[exk,yB,yB,getElem?_set_ne ej]
     rw[e2];exact⟨v,hv,hv1,hr.step hs⟩
   .have e1:(xs.set k (cells.set j y)).getD k' []=xs.getD k' []:=by rw[yB,yB,getElem?_set_ne ek]
    rw[e1];exact⟨v,hv,hv1,hr.step hs⟩)
 exact⟨V2,l1,l2,l3,l4⟩
theorem bN.aiS{cells:List AV}{x:AV}(hb:s.H[b]?=some (.aN g sz false xs))(hk:xs[k]?=some cells)(hj:cells[j]?=some x)(hxy:aF x y)(h:bN P G r n0 c { aL:=s.aL,H:=s.H.set b (.aN g sz false (xs.set k (cells.set j y))),dh:=s.dh } ex s'):bN P G r n0 c s ex s':=fun V0 V a h0 k1 k2 k3=>by
 obtain⟨V2,a1,a2,a3,a4⟩:=aBV k2 (k3.H▸hb) hk hj hxy;rw[<- a1];exact h V0 V2 a h0 (k1.trans a3) a4 ⟨k3.aL.step a3,by rw[a2,k3.H],k3.dh.step a3⟩
theorem awt(l:List α)(a b:α)(n:Nat)(hn:n=l.length):(l++[a]).set n b=l++[b]:=by
 subst hn;rw[set_append_right _ _ yM,Nat.sub_self];rfl
theorem auy(l:List α)(a:α)(n:Nat)(hn:n=l.length):(l++[a])[n]?=some a:=by
 subst hn;simp
theorem bN.aCS{cells:List AV}{x:AV}{H1:List ah}(hb:s.H[b]?=some (.aN g sz false xs))(Mf:H1[b]?=some (.aN g sz false xs))(hk:xs[k]?=some cells)(hj:cells[j]?=some x)(ha:mR s.H x z=some (y,H1,ps))(dG:gZ ps)(h:bN P G r n0 c { aL:=s.aL,H:=H1.set b (.aN g sz false (xs.set k (cells.set j y))),dh:=s.dh } ex s'):bN P G r n0 c s ex s':=fun V0 V a h0 k1 k2 k3=>by
 obtain⟨V2,a1,a2,a3,a4⟩:=aBU k2 (k3.H▸hb) Mf hk hj (k3.H▸ha) dG;rw[<- a1];exact h V0 V2 a h0 (k1.trans a3) a4 ⟨k3.aL.step a3,a2,k3.dh.step a3⟩
theorem bN.aBr{s2:St}(σ:Nat->Nat)(hlow:∀i,i<n0->σ i=i)(hn:n0<=s2.H.length)(hup:∀i,n0<=i->i<s2.H.length->n0<=σ i)(agS:∀i j,i<s2.H.length->j<s2.H.length->σ i=σ j->i=j)(R7:∀i o,s2.H[i]?=some o->s.H[σ i]?=some (o.jv σ))(BF:∀(i:Nat)(o:ah),s2.H[i]?=some o->o.bP s2.H.length)(F7:AV.kH σ s2.aL=s.aL)(hi:AV.gH s2.H.length s2.aL=true)(hd:s.dh=[])(hd2:s2.dh=[])(h:bN P G r n0 c s2 ex s'):bN P G r n0 c s ex s':=fun V0 V a h0 k1 k2 k3=>by
 have hVH:V.H=s.H:=k3.H;let V':View:={ V with H:=s2.H,ρ:=fun i=>V.ρ (σ i) };have lk:Lk V' V σ:=⟨rfl,fun _=>Iff.rfl,fun _ _=>rfl,fun i o ho=>by rw[hVH];exact R7 i o ho⟩;have fB:Step V0 V':=by
  refine⟨k1.os,k1.tape,k1.output,k1.size,k1.drawn,k1.keep,k1.data,by show _<=s2.H.length;omega,fun id dU=>?_,fun id dU=>?_⟩
  .show (id<V0.H.length/\V.ρ (σ id)=V0.ρ id)\/_<=V.ρ (σ id);have dU:id<s2.H.length:=dU;by_cases bg:id<n0
   .rw [hlow id bg];refine k1.fresh id ?_;have:=(yC.1 (R7 id _ (yA dU))).1;rw[hlow id bg]at this;rw[hVH];exact this
   .right;have hs:=(yC.1 (R7 id _ (yA dU))).1;rcases k1.fresh (σ id) (by rw[hVH];exact hs)with⟨q1,_⟩|q
    .have:=hup id zO dU;omega
    .exact q
  .have q:=k1.eP id dU;have bg:id<n0:=zO
   have ano:id<s2.H.length:=zO
   have hr:=R7 id _ (yA ano);rw[hlow id bg]at hr;unfold dL at q |-;rw[hVH,hr]at q;show match V0.H[id]?,s2.H[id]? with|_,_=>_
   rw[yA ano];have hρ:V'.ρ id=V.ρ id:=by show V.ρ (σ id)=V.ρ id;rw[hlow id bg]
   cases hO:V0.H[id]? with
   |none=>rw[hO]at q;exact q.elim
   |some o =>
    rw[hO]at q;generalize s2.H[id]=o2 at q;cases o<;>cases o2<;>simp only[ah.jv]at q|-<;> first
     |exact q
     |(rw[hρ];exact q)
 have hG':aD G V':=aD.Kv lk k2 BF agS;refine h V0 V' a h0 fB hG' ⟨bR.Kv lk hi ?_,rfl,?_⟩
 .rw [F7];exact k3.aL
 .have:=k3.dh;rw[hd]at this;rw[hd2];generalize a.defers=dl at this;cases dl with
  |nil=>exact .nil
  |cons d l=>cases this
end
theorem Jq(σ:Nat->Nat)(h:∀c∈xs,AV.gH 0 c=true):xs.map (AV.kH σ)=xs:=by
 conv=>rhs;rw[<- map_id xs]
 exact map_congr_left fun c hc=>axf (p:=0) (fun i hi=>absurd hi (y24 _)) c (h c hc)
end Go.Am
namespace Go.Tx
open Go Go.Am Go.Proofs Go.eY
open Go.Sq (CE nP bZ oO vM fX U2 kQ jg)
open Go.yU (CV iB)
def aMd(x:Int):CV:=.mk 1 x y28 []
def aMj(s:yP):CV:=.mk 2 0 s []
def azL(l:List CV):CV:=.mk 3 0 y28 l
abbrev axm(s:yP)(ls:List Int):List (List AV):=[[int 2,int 0,str s,aK],[int 3,int 0,str y28,.sl 4 false (iB (ls.map aMd))]]
def jrR:ah:=.iV .ready none (aC 87 [(1,.ptr 1 0),(2,.ptr 2 0),(5,.ptr 3 0)]) #[22,23] (KP P 143 0) (uT P 143 0)
def hA(t:TE)(x:Int):List ah:=[jrR,sbT t,.box [int 3,int 0,str y28,aK],.box [u32 x]]
def hB(t:TE)(x:Int)(g:Nat)(rs:List CV)(s:yP)(ls:List Int):List ah:=[jrR,sbT t,.box [int 3,int 0,str y28,.aU 4 g 0 (rs.length+1)],.box [u32 x],.aN g 4 false (iB rs++[[int 3,int 0,str y28,.aU 5 0 0 2]]),.aN 0 4 false (axm s ls)]
def hC(t:TE)(x:Int)(g:Nat)(rs:List CV):List ah:=[jrR,sbT t,.box [int 3,int 0,str y28,.aU 4 g 0 rs.length],.box [u32 x],.aN g 4 false (iB rs)]
theorem aKX(t:TE)(x y:Int)(k:Nat)(c:CE)(hx:t.cells[k]?=some c)(hg:c.gn=true)(b:Bool)(H':List ah)(h:(true=b)/\([jrR,ah.box [AV.sl 9 false (Sq.au t.cells),AV.sl 11 false (au t.bQ)],ah.box [int 3,int 0,str y28,aK],ah.box [AV.lit (Value.int IntKind.u32 x)],ah.box [AV.lit (Value.int IntKind.u32 y)]]=H')):dY P G 0 [int ↑k,u32 y] (hA t x++[ah.box [u32 y]]) b H':=by
 obtain⟨e1,e2⟩:=h;exact dY.to ((show dY P G 0 [int ↑k,u32 y] (hA t x++[ah.box [u32 y]]) true [jrR,ah.box [AV.sl 9 false (Sq.au t.cells),AV.sl 11 false (au t.bQ)],ah.box [int 3,int 0,str y28,aK],ah.box [AV.lit (Value.int IntKind.u32 x)],ah.box [AV.lit (Value.int IntKind.u32 y)]]from jI (fun _=>[ke (Sq.aQ c) (Sq.au t.cells) k (bG hx),kt hg]) (fun _=>zQ))) e1 e2
theorem aKY(t:TE)(x y:Int)(g:Nat)(rs:List CV)(s:yP)(ls:List Int)(k:Nat)(c:CE)(hx:t.cells[k]?=some c)(hg:c.gn=true)(b:Bool)(H':List ah)(h:((∀(x_1:List AV),x_1∈axm s ls->AV.gH (length (hB t x g rs s ls++[ah.box [u32 y]])) x_1=true)/\(true=b)/\([jrR,ah.box [AV.sl 9 false (Sq.au t.cells),AV.sl 11 false (au t.bQ)],ah.box [int 3,int 0,str y28,AV.aU 4 g 0 (length rs+1)],ah.box [AV.lit (Value.int IntKind.u32 x)],ah.aN g 4 false (iB rs++[[int 3,int 0,str y28,AV.aU 5 0 0 2]]),ah.aN 0 4 false [[int 2,int 0,str s,aK],[int 3,int 0,str y28,AV.sl 4 false (iB (List.map aMd ls))]],ah.box [AV.lit (Value.int IntKind.u32 y)]]=H'))):dY P G 0 [int ↑k,u32 y] (hB t x g rs s ls++[ah.box [u32 y]]) b H':=by
 obtain⟨o1,h⟩:=h;obtain⟨e1,e2⟩:=h;exact dY.to ((show dY P G 0 [int ↑k,u32 y] (hB t x g rs s ls++[ah.box [u32 y]]) true [jrR,ah.box [AV.sl 9 false (Sq.au t.cells),AV.sl 11 false (au t.bQ)],ah.box [int 3,int 0,str y28,AV.aU 4 g 0 (length rs+1)],ah.box [AV.lit (Value.int IntKind.u32 x)],ah.aN g 4 false (iB rs++[[int 3,int 0,str y28,AV.aU 5 0 0 2]]),ah.aN 0 4 false [[int 2,int 0,str s,aK],[int 3,int 0,str y28,AV.sl 4 false (iB (List.map aMd ls))]],ah.box [AV.lit (Value.int IntKind.u32 y)]]from jI (fun _=>[ke (Sq.aQ c) (Sq.au t.cells) k (bG hx),kt hg,kp (show ∀(x_1:List AV),x_1∈iB rs++[[int 3,int 0,str y28,AV.aU 5 0 0 2]]->AV.gH (length (hB t x g rs s ls++[ah.box [u32 y]])) x_1=true from(by exact(Am.dx (Am.agW (Go.yU.CF _) _) (Am.dM rfl Am.eU)))),kp o1]) (fun _=>zQ))) e1 e2
theorem aKZ(t:TE)(x y:Int)(g:Nat)(rs:List CV)(s:yP)(ls:List Int)(k:Nat)(c:CE)(hr:rs.length<=1000000)(hx:t.cells[k]?=some c)(hg:c.gn=false)(he:y=x)(hs:s.size+c.vl.size<=9223372036854775807)(hL:(iB rs++[[int 3,int 0,str y28,.aU 5 0 0 2]])[0+Int.toNat (((rs.length+1:Nat):Int)-1)]?=some [int 3,int 0,str y28,.aU 5 0 0 2])(b:Bool)(H':List ah)(h:((∀(x_1:List AV),x_1∈List.set (axm s ls) (0+Int.toNat 0) (dX [int 2,int 0,str s,aK] (0+Field.offset #[Field.mk "Kind" 3 0 false "" "" 0,Field.mk "N" 3 1 false "" "" 8,Field.mk "S" 9 2 false "" "" 16,Field.mk "L" 41 3 false "" "" 32][2]) [str (s++c.vl)])->AV.gH (length (hB t x g rs s ls++[ah.box [u32 y]])) x_1=true)/\(true=b)/\([jrR,ah.box [AV.sl 9 false (Sq.au t.cells),AV.sl 11 false (au t.bQ)],ah.box [int 3,int 0,str y28,AV.aU 4 g 0 (length rs+1)],ah.box [AV.lit (Value.int IntKind.u32 x)],ah.aN g 4 false (iB rs++[[int 3,int 0,str y28,AV.aU 5 0 0 2]]),ah.aN 0 4 false [[int 2,int 0,str (s++c.vl),aK],[int 3,int 0,str y28,AV.sl 4 false (iB (List.map aMd ls))]],ah.box [AV.lit (Value.int IntKind.u32 y)]]=H'))):dY P G 0 [int ↑k,u32 y] (hB t x g rs s ls++[ah.box [u32 y]]) b H':=by
 have fT:g=g:=(rfl);have OG:0=0:=(rfl);have H6:(0:Int)<=(0:Int)/\(0:Int)<(2:Int):=zO;have Qy:(axm s ls)[0+Int.toNat 0]?=some [int 2,int 0,str s,aK]:=(rfl);obtain⟨o3,h⟩:=h;obtain⟨e1,e2⟩:=h;exact dY.to ((show dY P G 0 [int ↑k,u32 y] (hB t x g rs s ls++[ah.box [u32 y]]) true [jrR,ah.box [AV.sl 9 false (Sq.au t.cells),AV.sl 11 false (au t.bQ)],ah.box [int 3,int 0,str y28,AV.aU 4 g 0 (length rs+1)],ah.box [AV.lit (Value.int IntKind.u32 x)],ah.aN g 4 false (iB rs++[[int 3,int 0,str y28,AV.aU 5 0 0 2]]),ah.aN 0 4 false [[int 2,int 0,str (s++c.vl),aK],[int 3,int 0,str y28,AV.sl 4 false (iB (List.map aMd ls))]],ah.box [AV.lit (Value.int IntKind.u32 y)]]from jI (fun _=>[ke (Sq.aQ c) (Sq.au t.cells) k (bG hx),kf hg,kp fT,ki ((↑(length rs+1):Int)>0),kt (show(y==x)=true from(qT zO)),kW 44 ((↑(length rs+1):Int)-1) ((↑(length rs+1):Int)-1),ko (bC.elem [int 3,int 0,str y28,AV.aU 5 0 0 2]),ko (bC.elem [int 2,int 0,str s,aK]),ko (bC.elem [int 2,int 0,str s,aK]),kp fT,kp (show(0:Int)<=(↑(length rs+1):Int)-1/\(↑(length rs+1):Int)-1<(↑(length rs+1):Int)from zO),kp fT,kp fT,kp hL,kp OG,kp H6,kp OG,kp OG,kp Qy,kp (show(↑(ByteArray.size s+ByteArray.size c.vl):Int)<=9223372036854775807 from zO),kp OG,kp H6,kp OG,kp OG,kp Qy,kp (show ∀(x_1:List AV),x_1∈iB rs++[[int 3,int 0,str y28,AV.aU 5 0 0 2]]->AV.gH (length (hB t x g rs s ls++[ah.box [u32 y]])) x_1=true from(by exact(Am.dx (Am.agW (Go.yU.CF _) _) (Am.dM rfl Am.eU)))),kp o3]) (fun _=>zQ))) e1 e2
def rX(t:TE)(y:Int)(Hy:List ah)(c:CE)(l:List Int)(L:AV)(k:Nat)(K:List ah)(cid sid:Nat):St:={ aL:=aC 87 [(2,.ptr 2 0),(5,.ptr 3 0),(7,u32 y),(8,.ptr cid 0),(10,.ptr sid 0),(58,ils l),(59,int l.length),(60,int k)],H:=Hy++[.box (Sq.aQ c),.box [int 3,int 0,str y28,L]]++K }
def jrU:ah:=.iV .busy none (aC 87 [(1,.ptr 1 0),(2,.ptr 2 0),(5,.ptr 3 0)]) #[22,23] (KP P 143 0) (uT P 143 0)
def uA(t:TE)(x y:Int):List ah:=[jrU,sbT t,.box [int 3,int 0,str y28,aK],.box [u32 x],.box [u32 y]]
def uC(t:TE)(x:Int)(g:Nat)(rs:List CV)(y:Int):List ah:=[jrU,sbT t,.box [int 3,int 0,str y28,.aU 4 g 0 rs.length],.box [u32 x],.aN g 4 false (iB rs),.box [u32 y]]
theorem aIK(t:TE)(x y:Int)(c:CE)(l:List Int)(v:Int)(r:Option Nat)(hx:l[0]?=some v)(hl:l.length<=16)(ex:bF)(s':St)(h:((((0:Int)<(l.length:Int))->bN P G r 5 (vg P 143 0) (sM 87 [(2,.ptr 2 0),(5,.ptr 3 0),(7,.lit (Value.int IntKind.u32 y)),(8,.ptr 5 0),(10,.ptr 6 0),(58,.sl 1 false (bH.ql l)),(59,int ↑l.length),(60,int 1)] [jrU,.box [.sl 9 false (Sq.au t.cells),.sl 11 false (au t.bQ)],.box [int 3,int 0,str y28,aK],.box [.lit (Value.int IntKind.u32 x)],.box [.lit (Value.int IntKind.u32 y)],.box [int c.dv,int c.sq,int c.gU,int c.ad,int c.j6,int c.aa,int c.tm,str c.vl,Am.bool c.gn],.box [int 3,int 0,str y28,.aU 7 0 0 1],.aN 0 4 false [[int 1,int v,str (ByteArray.mk #[]),aK]]]) ex s')/\((¬(0:Int)<(l.length:Int))->(bF.exit 2=ex)/\(sM 87 [(2,.ptr 2 0),(5,.ptr 3 0),(7,.lit (Value.int IntKind.u32 y)),(8,.ptr 5 0),(10,.ptr 6 0)] [jrU,.box [.sl 9 false (Sq.au t.cells),.sl 11 false (au t.bQ)],.box [int 3,int 0,str y28,aK],.box [.lit (Value.int IntKind.u32 x)],.box [.lit (Value.int IntKind.u32 y)],.box [int c.dv,int c.sq,int c.gU,int c.ad,int c.j6,int c.aa,int c.tm,str c.vl,Am.bool c.gn],.box [int 3,int 0,str y28,aK]]=s')))):bN P G r 5 (vg P 143 0) (rX t y (uA t x y) c l aK 0 [] 5 6) ex s':=by
 by_cases c1:((0:Int)<(l.length:Int))
 .have h:=h.1 c1;exact aJ [kt (qT c1),ke (bH.LW v) (bH.ql l) (0:Int) (bG hx),Qx [int 1,int v,str (ByteArray.mk #[]),aK],vV 56] (aB 87 [2,5,7,8,10,58,59,60]) 8 h
 .have h:=h.2 c1;obtain⟨eX,eS⟩:=h;exact bN.to ((show bN P G r 5 (vg P 143 0) (rX t y (uA t x y) c l aK 0 [] 5 6) (bF.exit 2) (sM 87 [(2,.ptr 2 0),(5,.ptr 3 0),(7,.lit (Value.int IntKind.u32 y)),(8,.ptr 5 0),(10,.ptr 6 0)] [jrU,.box [.sl 9 false (Sq.au t.cells),.sl 11 false (au t.bQ)],.box [int 3,int 0,str y28,aK],.box [.lit (Value.int IntKind.u32 x)],.box [.lit (Value.int IntKind.u32 y)],.box [int c.dv,int c.sq,int c.gU,int c.ad,int c.j6,int c.aa,int c.tm,str c.vl,Am.bool c.gn],.box [int 3,int 0,str y28,aK]])from aG [kf (qF c1)] (aB 87 [2,5,7,8,10]) 7)) eX (eB.of_eq eS)
theorem aIL(t:TE)(x y:Int)(c:CE)(l:List Int)(v:Int)(r:Option Nat)(k g:Nat)(z:List CV)(hz:z.length<=16)(hx:l[k]?=some v)(hl:l.length<=16)(ex:bF)(s':St)(h:((((k:Int)<(l.length:Int))->bN P G r 5 (vg P 143 0) (sM 87 [(2,.ptr 2 0),(5,.ptr 3 0),(7,.lit (Value.int IntKind.u32 y)),(8,.ptr 5 0),(10,.ptr 6 0),(58,.sl 1 false (bH.ql l)),(59,int ↑l.length),(60,int ↑(k+1))] [jrU,.box [.sl 9 false (Sq.au t.cells),.sl 11 false (au t.bQ)],.box [int 3,int 0,str y28,aK],.box [.lit (Value.int IntKind.u32 x)],.box [.lit (Value.int IntKind.u32 y)],.box [int c.dv,int c.sq,int c.gU,int c.ad,int c.j6,int c.aa,int c.tm,str c.vl,Am.bool c.gn],.box [int 3,int 0,str y28,.aU 7 (g+1) 0 (length z+1)],.aN (g+1) 4 false (iB z++[[int 1,int v,str (ByteArray.mk #[]),aK]])]) ex s')/\((¬(k:Int)<(l.length:Int))->(bF.exit 2=ex)/\(sM 87 [(2,.ptr 2 0),(5,.ptr 3 0),(7,.lit (Value.int IntKind.u32 y)),(8,.ptr 5 0),(10,.ptr 6 0)] [jrU,.box [.sl 9 false (Sq.au t.cells),.sl 11 false (au t.bQ)],.box [int 3,int 0,str y28,aK],.box [.lit (Value.int IntKind.u32 x)],.box [.lit (Value.int IntKind.u32 y)],.box [int c.dv,int c.sq,int c.gU,int c.ad,int c.j6,int c.aa,int c.tm,str c.vl,Am.bool c.gn],.box [int 3,int 0,str y28,.aU 7 g 0 z.length],.aN g 4 false (iB z)]=s')))):bN P G r 5 (vg P 143 0) (rX t y (uA t x y) c l (AV.aU 7 g 0 z.length) k [ah.aN g 4 false (iB z)] 5 6) ex s':=by
 by_cases c1:((k:Int)<(l.length:Int))
 .have h:=h.1 c1;exact aJ [kt (qT c1),ke (bH.LW v) (bH.ql l) k (bG hx),kq g,kp (Go.yU.fA z).symm,vV ((length z+1)*56),kW 71 (k+1) ↑(k+1)] (aB 87 [2,5,7,8,10,58,59,60]) 8 h
 .have h:=h.2 c1;obtain⟨eX,eS⟩:=h;exact bN.to ((show bN P G r 5 (vg P 143 0) (rX t y (uA t x y) c l (AV.aU 7 g 0 z.length) k [ah.aN g 4 false (iB z)] 5 6) (bF.exit 2) (sM 87 [(2,.ptr 2 0),(5,.ptr 3 0),(7,.lit (Value.int IntKind.u32 y)),(8,.ptr 5 0),(10,.ptr 6 0)] [jrU,.box [.sl 9 false (Sq.au t.cells),.sl 11 false (au t.bQ)],.box [int 3,int 0,str y28,aK],.box [.lit (Value.int IntKind.u32 x)],.box [.lit (Value.int IntKind.u32 y)],.box [int c.dv,int c.sq,int c.gU,int c.ad,int c.j6,int c.aa,int c.tm,str c.vl,Am.bool c.gn],.box [int 3,int 0,str y28,.aU 7 g 0 z.length],.aN g 4 false (iB z)])from aG [kf (qF c1)] (aB 87 [2,5,7,8,10]) 8)) eX (eB.of_eq eS)
def inX(y:Int)(Hy:List ah)(c:CE)(l:List Int)(cid sid:Nat):St:={ aL:=aC 87 [(2,.ptr 2 0),(5,.ptr 3 0),(7,u32 y),(8,.ptr cid 0),(10,.ptr sid 0)],H:=Hy++[.box (Sq.aQ c),.box [int 3,int 0,str y28,.sl 4 false (iB (l.map aMd))]] }
theorem aK0(t:TE)(x y:Int)(l:List Int)(k:Nat)(c:CE)(hx:t.cells[k]?=some c)(hg:c.gn=false)(hl:l.length<=16)(hls:Cq 232 [u32 y] (ils l))(hI:∀r,bN P G r 5 (vg P 143 0) (rX t y (uA t x y) c l aK 0 [] 5 6) (.exit 2) (inX y (uA t x y) c l 5 6))(b:Bool)(H':List ah)(h:(true=b)/\([jrR,ah.box [AV.sl 9 false (Sq.au t.cells),AV.sl 11 false (au t.bQ)],ah.box [int 3,int 0,str y28,AV.aU 8 0 0 1],ah.box [AV.lit (Value.int IntKind.u32 y)],ah.box [AV.lit (Value.int IntKind.u32 y)],ah.box [int c.dv,int c.sq,int c.gU,int c.ad,int c.j6,int c.aa,int c.tm,str c.vl,Am.bool c.gn],ah.box [int 3,int 0,str y28,AV.sl 4 false (iB (List.map aMd l))],ah.aN 0 4 false [[int 2,int 0,str c.vl,aK],[int 3,int 0,str y28,AV.sl 4 false (iB (List.map aMd l))]],ah.aN 0 4 false [[int 3,int 0,str (ByteArray.mk #[]),AV.aU 7 0 0 2]]]=H')):dY P G 0 [int ↑k,u32 y] (hA t x++[ah.box [u32 y]]) b H':=by
 have qj:0=0:=(rfl);obtain⟨e1,e2⟩:=h;exact dY.to ((show dY P G 0 [int ↑k,u32 y] (hA t x++[ah.box [u32 y]]) true [jrR,ah.box [AV.sl 9 false (Sq.au t.cells),AV.sl 11 false (au t.bQ)],ah.box [int 3,int 0,str y28,AV.aU 8 0 0 1],ah.box [AV.lit (Value.int IntKind.u32 y)],ah.box [AV.lit (Value.int IntKind.u32 y)],ah.box [int c.dv,int c.sq,int c.gU,int c.ad,int c.j6,int c.aa,int c.tm,str c.vl,Am.bool c.gn],ah.box [int 3,int 0,str y28,AV.sl 4 false (iB (List.map aMd l))],ah.aN 0 4 false [[int 2,int 0,str c.vl,aK],[int 3,int 0,str y28,AV.sl 4 false (iB (List.map aMd l))]],ah.aN 0 4 false [[int 3,int 0,str (ByteArray.mk #[]),AV.aU 7 0 0 2]]]from jI (fun r=>[ke (Sq.aQ c) (Sq.au t.cells) k (bG hx),kf hg,kY,kY,kc [] hls,kv 59 (show Am.aF (int (↑(length (bH.ql l)):Int)) (int ↑l.length)from(aF.of_eq (by simp only[Go.bH.kD]))),kl (rG [(1,1),(6,1),(9,1),(22,19),(56,2)]) 7 (@hI (r)),ko (bC.aU),ko (bC.elem [int 0,int 0,str (ByteArray.mk #[]),aK]),ko (bC.LV),Qx [int 0,int 0,str (ByteArray.mk #[]),aK],vV 56,kp qj,kR (0:Int) (1:Int),kp qj,kp (show(oC (TypeInfo.size (Tables.types (Program.toTables P))[43]) 1 (dX (EP (List.map AV.lit (Array.toList (Value.cells (Value.agg #[Value.int IntKind.i64 0,Value.int IntKind.i64 0,Value.string (ByteArray.mk #[]),Value.slice none 0 0])))) (1*TypeInfo.size (Tables.types (Program.toTables P))[43])) (0*TypeInfo.size (Tables.types (Program.toTables P))[43]) (List.map AV.lit (Array.toList #[Value.int IntKind.i64 0,Value.int IntKind.i64 0,Value.string (ByteArray.mk #[]),Value.slice none 0 0]))))[0+Int.toNat (0:Int)]?=some [int 0,int 0,str (ByteArray.mk #[]),aK]from(rfl))]) (fun _=>zQ))) e1 e2
theorem aK1(t:TE)(x y:Int)(g:Nat)(rs:List CV)(l:List Int)(k:Nat)(c:CE)(hr:rs.length<=1000000)(hr0:0<rs.length)(hx:t.cells[k]?=some c)(hg:c.gn=false)(fF:¬y=x)(hl:l.length<=16)(hL:(iB rs++[[int 0,int 0,str (ByteArray.mk #[]),aK]])[0+Int.toNat ((rs.length:Nat):Int)]?=some [int 0,int 0,str (ByteArray.mk #[]),aK])(hls:Cq 232 [u32 y] (ils l))(hI:∀r,bN P G r 6 (vg P 143 0) (rX t y (uC t x g rs y) c l aK 0 [] 6 7) (.exit 2) (inX y (uC t x g rs y) c l 6 7))(b:Bool)(H':List ah)(h:(true=b)/\([jrR,ah.box [AV.sl 9 false (Sq.au t.cells),AV.sl 11 false (au t.bQ)],ah.box [int 3,int 0,str y28,AV.aU 4 (g+1) 0 (length rs+1)],ah.box [AV.lit (Value.int IntKind.u32 y)],ah.aN (g+1) 4 false (List.set (iB rs++[[int 0,int 0,str (ByteArray.mk #[]),aK]]) (0+Int.toNat (rs.length:Int)) [int 3,int 0,str (ByteArray.mk #[]),AV.aU 8 0 0 2]),ah.box [AV.lit (Value.int IntKind.u32 y)],ah.box [int c.dv,int c.sq,int c.gU,int c.ad,int c.j6,int c.aa,int c.tm,str c.vl,Am.bool c.gn],ah.box [int 3,int 0,str y28,AV.sl 4 false (iB (List.map aMd l))],ah.aN 0 4 false [[int 2,int 0,str c.vl,aK],[int 3,int 0,str y28,AV.sl 4 false (iB (List.map aMd l))]]]=H')):dY P G 0 [int ↑k,u32 y] (hC t x g rs++[ah.box [u32 y]]) b H':=by
 have fT:g=g:=(rfl);have Qy:g+1=g+1:=(rfl);obtain⟨e1,e2⟩:=h;exact dY.to ((show dY P G 0 [int ↑k,u32 y] (hC t x g rs++[ah.box [u32 y]]) true [jrR,ah.box [AV.sl 9 false (Sq.au t.cells),AV.sl 11 false (au t.bQ)],ah.box [int 3,int 0,str y28,AV.aU 4 (g+1) 0 (length rs+1)],ah.box [AV.lit (Value.int IntKind.u32 y)],ah.aN (g+1) 4 false (List.set (iB rs++[[int 0,int 0,str (ByteArray.mk #[]),aK]]) (0+Int.toNat (rs.length:Int)) [int 3,int 0,str (ByteArray.mk #[]),AV.aU 8 0 0 2]),ah.box [AV.lit (Value.int IntKind.u32 y)],ah.box [int c.dv,int c.sq,int c.gU,int c.ad,int c.j6,int c.aa,int c.tm,str c.vl,Am.bool c.gn],ah.box [int 3,int 0,str y28,AV.sl 4 false (iB (List.map aMd l))],ah.aN 0 4 false [[int 2,int 0,str c.vl,aK],[int 3,int 0,str y28,AV.sl 4 false (iB (List.map aMd l))]]]from jI (fun r=>[ke (Sq.aQ c) (Sq.au t.cells) k (bG hx),kf hg,kp fT,ki ((rs.length:Int)>0),kf (show(y==x)=false from(qF zO)),kc [] hls,kv 59 (show Am.aF (int (↑(length (bH.ql l)):Int)) (int ↑l.length)from(aF.of_eq (by simp only[Go.bH.kD]))),kl (rG [(1,1),(6,1),(9,1),(22,19),(56,2)]) 8 (@hI (r)),ko (bC.aU),ko (bC.elem [int 0,int 0,str (ByteArray.mk #[]),aK]),ko (bC.LV),kp fT,kp fT,kp (Go.yU.fA rs).symm,vV ((length rs+1)*56),kp Qy,kR (rs.length:Int) (↑(length rs+1):Int),kp Qy,kp hL]) (fun _=>zQ))) e1 e2
theorem aIM(t:TE)(x y:Int)(g0:Nat)(rs:List CV)(c:CE)(l:List Int)(v:Int)(r:Option Nat)(hx:l[0]?=some v)(hl:l.length<=16)(ex:bF)(s':St)(h:((((0:Int)<(l.length:Int))->bN P G r 6 (vg P 143 0) (sM 87 [(2,.ptr 2 0),(5,.ptr 3 0),(7,.lit (Value.int IntKind.u32 y)),(8,.ptr 6 0),(10,.ptr 7 0),(58,.sl 1 false (bH.ql l)),(59,int ↑l.length),(60,int 1)] [jrU,.box [.sl 9 false (Sq.au t.cells),.sl 11 false (au t.bQ)],.box [int 3,int 0,str y28,.aU 4 g0 0 rs.length],.box [.lit (Value.int IntKind.u32 x)],.aN g0 4 false (iB rs),.box [.lit (Value.int IntKind.u32 y)],.box [int c.dv,int c.sq,int c.gU,int c.ad,int c.j6,int c.aa,int c.tm,str c.vl,Am.bool c.gn],.box [int 3,int 0,str y28,.aU 8 0 0 1],.aN 0 4 false [[int 1,int v,str (ByteArray.mk #[]),aK]]]) ex s')/\((¬(0:Int)<(l.length:Int))->(bF.exit 2=ex)/\(sM 87 [(2,.ptr 2 0),(5,.ptr 3 0),(7,.lit (Value.int IntKind.u32 y)),(8,.ptr 6 0),(10,.ptr 7 0)] [jrU,.box [.sl 9 false (Sq.au t.cells),.sl 11 false (au t.bQ)],.box [int 3,int 0,str y28,.aU 4 g0 0 rs.length],.box [.lit (Value.int IntKind.u32 x)],.aN g0 4 false (iB rs),.box [.lit (Value.int IntKind.u32 y)],.box [int c.dv,int c.sq,int c.gU,int c.ad,int c.j6,int c.aa,int c.tm,str c.vl,Am.bool c.gn],.box [int 3,int 0,str y28,aK]]=s')))):bN P G r 6 (vg P 143 0) (rX t y (uC t x g0 rs y) c l aK 0 [] 6 7) ex s':=by
 by_cases c1:((0:Int)<(l.length:Int))
 .have h:=h.1 c1;exact aJ [kt (qT c1),ke (bH.LW v) (bH.ql l) (0:Int) (bG hx),Qx [int 1,int v,str (ByteArray.mk #[]),aK],vV 56] (aB 87 [2,5,7,8,10,58,59,60]) 9 h
 .have h:=h.2 c1;obtain⟨eX,eS⟩:=h;exact bN.to ((show bN P G r 6 (vg P 143 0) (rX t y (uC t x g0 rs y) c l aK 0 [] 6 7) (bF.exit 2) (sM 87 [(2,.ptr 2 0),(5,.ptr 3 0),(7,.lit (Value.int IntKind.u32 y)),(8,.ptr 6 0),(10,.ptr 7 0)] [jrU,.box [.sl 9 false (Sq.au t.cells),.sl 11 false (au t.bQ)],.box [int 3,int 0,str y28,.aU 4 g0 0 rs.length],.box [.lit (Value.int IntKind.u32 x)],.aN g0 4 false (iB rs),.box [.lit (Value.int IntKind.u32 y)],.box [int c.dv,int c.sq,int c.gU,int c.ad,int c.j6,int c.aa,int c.tm,str c.vl,Am.bool c.gn],.box [int 3,int 0,str y28,aK]])from aG [kf (qF c1)] (aB 87 [2,5,7,8,10]) 8)) eX (eB.of_eq eS)
theorem aIN(t:TE)(x y:Int)(g0:Nat)(rs:List CV)(c:CE)(l:List Int)(v:Int)(r:Option Nat)(k g:Nat)(z:List CV)(hz:z.length<=16)(hx:l[k]?=some v)(hl:l.length<=16)(ex:bF)(s':St)(h:((((k:Int)<(l.length:Int))->bN P G r 6 (vg P 143 0) (sM 87 [(2,.ptr 2 0),(5,.ptr 3 0),(7,.lit (Value.int IntKind.u32 y)),(8,.ptr 6 0),(10,.ptr 7 0),(58,.sl 1 false (bH.ql l)),(59,int ↑l.length),(60,int ↑(k+1))] [jrU,.box [.sl 9 false (Sq.au t.cells),.sl 11 false (au t.bQ)],.box [int 3,int 0,str y28,.aU 4 g0 0 rs.length],.box [.lit (Value.int IntKind.u32 x)],.aN g0 4 false (iB rs),.box [.lit (Value.int IntKind.u32 y)],.box [int c.dv,int c.sq,int c.gU,int c.ad,int c.j6,int c.aa,int c.tm,str c.vl,Am.bool c.gn],.box [int 3,int 0,str y28,.aU 8 (g+1) 0 (length z+1)],.aN (g+1) 4 false (iB z++[[int 1,int v,str (ByteArray.mk #[]),aK]])]) ex s')/\((¬(k:Int)<(l.length:Int))->(bF.exit 2=ex)/\(sM 87 [(2,.ptr 2 0),(5,.ptr 3 0),(7,.lit (Value.int IntKind.u32 y)),(8,.ptr 6 0),(10,.ptr 7 0)] [jrU,.box [.sl 9 false (Sq.au t.cells),.sl 11 false (au t.bQ)],.box [int 3,int 0,str y28,.aU 4 g0 0 rs.length],.box [.lit (Value.int IntKind.u32 x)],.aN g0 4 false (iB rs),.box [.lit (Value.int IntKind.u32 y)],.box [int c.dv,int c.sq,int c.gU,int c.ad,int c.j6,int c.aa,int c.tm,str c.vl,Am.bool c.gn],.box [int 3,int 0,str y28,.aU 8 g 0 z.length],.aN g 4 false (iB z)]=s')))):bN P G r 6 (vg P 143 0) (rX t y (uC t x g0 rs y) c l (AV.aU 8 g 0 z.length) k [ah.aN g 4 false (iB z)] 6 7) ex s':=by
 by_cases c1:((k:Int)<(l.length:Int))
 .have h:=h.1 c1;exact aJ [kt (qT c1),ke (bH.LW v) (bH.ql l) k (bG hx),kq g,kp (Go.yU.fA z).symm,vV ((length z+1)*56),kW 71 (k+1) ↑(k+1)] (aB 87 [2,5,7,8,10,58,59,60]) 9 h
 .have h:=h.2 c1;obtain⟨eX,eS⟩:=h;exact bN.to ((show bN P G r 6 (vg P 143 0) (rX t y (uC t x g0 rs y) c l (AV.aU 8 g 0 z.length) k [ah.aN g 4 false (iB z)] 6 7) (bF.exit 2) (sM 87 [(2,.ptr 2 0),(5,.ptr 3 0),(7,.lit (Value.int IntKind.u32 y)),(8,.ptr 6 0),(10,.ptr 7 0)] [jrU,.box [.sl 9 false (Sq.au t.cells),.sl 11 false (au t.bQ)],.box [int 3,int 0,str y28,.aU 4 g0 0 rs.length],.box [.lit (Value.int IntKind.u32 x)],.aN g0 4 false (iB rs),.box [.lit (Value.int IntKind.u32 y)],.box [int c.dv,int c.sq,int c.gU,int c.ad,int c.j6,int c.aa,int c.tm,str c.vl,Am.bool c.gn],.box [int 3,int 0,str y28,.aU 8 g 0 z.length],.aN g 4 false (iB z)])from aG [kf (qF c1)] (aB 87 [2,5,7,8,10]) 9)) eX (eB.of_eq eS)
def inN(y:Int)(Hy:List ah)(c:CE)(cid sid:Nat):St:={ aL:=aC 87 [(2,.ptr 2 0),(5,.ptr 3 0),(7,u32 y),(8,.ptr cid 0),(10,.ptr sid 0)],H:=Hy++[.box (Sq.aQ c),.box [int 3,int 0,str y28,aK]] }
theorem aIO(t:TE)(x y:Int)(c:CE)(l:List Int)(r:Option Nat)(hx:l.length=0)(h:True):bN P G r 5 (vg P 143 0) (rX t y (uA t x y) c l aK 0 [] 5 6) (bF.exit 2) (inN y (uA t x y) c 5 6):=by
 have _:=h;exact aG [kj ((0:Int)<l.length)] (aB 87 [2,5,7,8,10]) 7
theorem aIP(t:TE)(x y:Int)(g0:Nat)(rs:List CV)(c:CE)(l:List Int)(r:Option Nat)(hx:l.length=0)(h:True):bN P G r 6 (vg P 143 0) (rX t y (uC t x g0 rs y) c l aK 0 [] 6 7) (bF.exit 2) (inN y (uC t x g0 rs y) c 6 7):=by
 have _:=h;exact aG [kj ((0:Int)<l.length)] (aB 87 [2,5,7,8,10]) 8
def inP(y:Int)(Hy:List ah)(c:CE)(g:Nat)(z:List CV)(cid sid aid:Nat):St:={ aL:=aC 87 [(2,.ptr 2 0),(5,.ptr 3 0),(7,u32 y),(8,.ptr cid 0),(10,.ptr sid 0)],H:=Hy++[.box (Sq.aQ c),.box [int 3,int 0,str y28,.aU aid g 0 z.length],.aN g 4 false (iB z)] }
theorem aIQ(t:TE)(x y:Int)(c:CE)(l:List Int)(r:Option Nat)(k g:Nat)(z:List CV)(hx:l.length<=k)(h:True):bN P G r 5 (vg P 143 0) (rX t y (uA t x y) c l (AV.aU 7 g 0 z.length) k [ah.aN g 4 false (iB z)] 5 6) (bF.exit 2) (inP y (uA t x y) c g z 5 6 7):=by
 have _:=h;exact aG [kj ((k:Int)<l.length)] (aB 87 [2,5,7,8,10]) 8
theorem aIR(t:TE)(x y:Int)(g0:Nat)(rs:List CV)(c:CE)(l:List Int)(r:Option Nat)(k g:Nat)(z:List CV)(hx:l.length<=k)(h:True):bN P G r 6 (vg P 143 0) (rX t y (uC t x g0 rs y) c l (AV.aU 8 g 0 z.length) k [ah.aN g 4 false (iB z)] 6 7) (bF.exit 2) (inP y (uC t x g0 rs y) c g z 6 7 8):=by
 have _:=h;exact aG [kj ((k:Int)<l.length)] (aB 87 [2,5,7,8,10]) 9
theorem aEg(t:TE)(x y:Int)(c:CE)(l:List Int)(hl:l.length<=16)(r:Option Nat):∀d k g,l.length-k=d->k<=l.length->∃g',bN P G r 5 (vg P 143 0) (rX t y (uA t x y) c l (.aU 7 g 0 ((l.take k).map aMd).length) k [.aN g 4 false (iB ((l.take k).map aMd))] 5 6) (.exit 2) (inP y (uA t x y) c g' (l.map aMd) 5 6 7):=by
 intro d
 induction d with
 |zero =>
  intro k g hd hk;rw[y23 zO];exact⟨g,aIQ t x y c l r k g (l.map aMd) zO yO⟩
 |succ d ih =>
  intro k g hd hk;have bg:k<l.length:=zO
  have hx:l[k]?=some l[k]:=yA bg;obtain⟨g',nx⟩:=ih (k+1) (g+1) zO zO;have e:(l.take (k+1)).map aMd=(l.take k).map aMd++[aMd l[k]]:=by rw[take_succ_eq_append_getElem bg,map_append];rfl
  refine⟨g',aIL t x y c l l[k] r k g ((l.take k).map aMd) (by simp;omega) hx hl _ _ ⟨fun _=>?_,fun h=>absurd zO h⟩⟩;refine bN.aiS (b:=7) (k:=((l.take k).map aMd).length) (j:=3) rfl (auy _ _ _ (yU.fA _).symm) rfl (aF.afp 4 none 0) ?_;rw[awt _ _ _ _ (yU.fA _).symm];rw[e,yD,<- yU.avw]at nx;exact nx
theorem aEh(t:TE)(x y:Int)(g0:Nat)(rs:List CV)(c:CE)(l:List Int)(hl:l.length<=16)(r:Option Nat):∀d k g,l.length-k=d->k<=l.length->∃g',bN P G r 6 (vg P 143 0) (rX t y (uC t x g0 rs y) c l (.aU 8 g 0 ((l.take k).map aMd).length) k [.aN g 4 false (iB ((l.take k).map aMd))] 6 7) (.exit 2) (inP y (uC t x g0 rs y) c g' (l.map aMd) 6 7 8):=by
 intro d
 induction d with
 |zero =>
  intro k g hd hk;rw[y23 zO];exact⟨g,aIR t x y g0 rs c l r k g (l.map aMd) zO yO⟩
 |succ d ih =>
  intro k g hd hk;have bg:k<l.length:=zO
  have hx:l[k]?=some l[k]:=yA bg;obtain⟨g',nx⟩:=ih (k+1) (g+1) zO zO;have e:(l.take (k+1)).map aMd=(l.take k).map aMd++[aMd l[k]]:=by rw[take_succ_eq_append_getElem bg,map_append];rfl
  refine⟨g',aIN t x y g0 rs c l l[k] r k g ((l.take k).map aMd) (by simp;omega) hx hl _ _ ⟨fun _=>?_,fun h=>absurd zO h⟩⟩;refine bN.aiS (b:=8) (k:=((l.take k).map aMd).length) (j:=3) rfl (auy _ _ _ (yU.fA _).symm) rfl (aF.afp 4 none 0) ?_;rw[awt _ _ _ _ (yU.fA _).symm];rw[e,yD,<- yU.avw]at nx;exact nx
theorem az3(l:List CV):((iB l).drop 0).take l.length=iB l:=by
 rw[drop_zero,<- yU.fA l,take_length]
theorem aFt(t:TE)(x y:Int)(c:CE)(l:List Int)(hl:l.length<=16)(r:Option Nat):bN P G r 5 (vg P 143 0) (rX t y (uA t x y) c l aK 0 [] 5 6) (.exit 2) (inX y (uA t x y) c l 5 6):=by
 cases l with
 |nil =>
  have h:=aIO t x y c [] r rfl trivial;exact bN.aBq (b:=6) (j:=3) h rfl rfl (aF.afp 4 none 0)
 |cons v l =>
  obtain⟨g',h⟩:=aEg t x y c (v::l) hl r _ 1 0 rfl zS;have h0:=aIK t x y c (v::l) v r rfl hl _ _ ⟨fun _=>bN.aiS (b:=7) (k:=0) (j:=3) rfl rfl rfl (aF.afp 4 none 0) h,fun h=>absurd zS h⟩;have e:mR (inP y (uA t x y) c g' ((v::l).map aMd) 5 6 7).H (.aU 7 g' 0 ((v::l).map aMd).length) (iB ((v::l).map aMd))=some (.sl 4 false (iB ((v::l).map aMd)),uA t x y++[.box (Sq.aQ c),.box [int 3,int 0,str y28,.aU 7 g' 0 ((v::l).map aMd).length],.aN g' 4 true (iB ((v::l).map aMd))],[g'=g',((iB ((v::l).map aMd)).drop 0).take ((v::l).map aMd).length=iB ((v::l).map aMd),(iB ((v::l).map aMd)).length=((v::l).map aMd).length,∀c∈iB ((v::l).map aMd),c.all AV.fJ=true]):=rfl;have hp:gZ [g'=g',((iB ((v::l).map aMd)).drop 0).take ((v::l).map aMd).length=iB ((v::l).map aMd),(iB ((v::l).map aMd)).length=((v::l).map aMd).length,∀c∈iB ((v::l).map aMd),c.all AV.fJ=true]:=⟨rfl,az3 _,yU.fA _,yU.WV _,yO⟩;have h1:=bN.ahI (b:=6) (j:=3) (cells:=[int 3,int 0,str y28,.aU 7 g' 0 ((v::l).map aMd).length]) h0 rfl (H1:=uA t x y++[.box (Sq.aQ c),.box [int 3,int 0,str y28,.aU 7 g' 0 ((v::l).map aMd).length],.aN g' 4 true (iB ((v::l).map aMd))]) rfl rfl e hp;exact bN.cut 7 h1 (fun x h=>by cases h) rfl trivial
theorem aFu(t:TE)(x y:Int)(g0:Nat)(rs:List CV)(c:CE)(l:List Int)(hl:l.length<=16)(r:Option Nat):bN P G r 6 (vg P 143 0) (rX t y (uC t x g0 rs y) c l aK 0 [] 6 7) (.exit 2) (inX y (uC t x g0 rs y) c l 6 7):=by
 cases l with
 |nil =>
  have h:=aIP t x y g0 rs c [] r rfl trivial;exact bN.aBq (b:=7) (j:=3) h rfl rfl (aF.afp 4 none 0)
 |cons v l =>
  obtain⟨g',h⟩:=aEh t x y g0 rs c (v::l) hl r _ 1 0 rfl zS;have h0:=aIM t x y g0 rs c (v::l) v r rfl hl _ _ ⟨fun _=>bN.aiS (b:=8) (k:=0) (j:=3) rfl rfl rfl (aF.afp 4 none 0) h,fun h=>absurd zS h⟩;have e:mR (inP y (uC t x g0 rs y) c g' ((v::l).map aMd) 6 7 8).H (.aU 8 g' 0 ((v::l).map aMd).length) (iB ((v::l).map aMd))=some (.sl 4 false (iB ((v::l).map aMd)),uC t x g0 rs y++[.box (Sq.aQ c),.box [int 3,int 0,str y28,.aU 8 g' 0 ((v::l).map aMd).length],.aN g' 4 true (iB ((v::l).map aMd))],[g'=g',((iB ((v::l).map aMd)).drop 0).take ((v::l).map aMd).length=iB ((v::l).map aMd),(iB ((v::l).map aMd)).length=((v::l).map aMd).length,∀c∈iB ((v::l).map aMd),c.all AV.fJ=true]):=rfl;have hp:gZ [g'=g',((iB ((v::l).map aMd)).drop 0).take ((v::l).map aMd).length=iB ((v::l).map aMd),(iB ((v::l).map aMd)).length=((v::l).map aMd).length,∀c∈iB ((v::l).map aMd),c.all AV.fJ=true]:=⟨rfl,az3 _,yU.fA _,yU.WV _,yO⟩;have h1:=bN.ahI (b:=7) (j:=3) (cells:=[int 3,int 0,str y28,.aU 8 g' 0 ((v::l).map aMd).length]) h0 rfl (H1:=uC t x g0 rs y++[.box (Sq.aQ c),.box [int 3,int 0,str y28,.aU 8 g' 0 ((v::l).map aMd).length],.aN g' 4 true (iB ((v::l).map aMd))]) rfl rfl e hp;exact bN.cut 8 h1 (fun x h=>by cases h) rfl ⟨agW (yU.CF _) 8,yO⟩
def ouQ(t:TE)(v:List aMi)(n k:Nat)(H:List ah):St:={ aL:=aC 47 [(0,.yl 0),(1,.iG [bZ t.cells,oI t.bQ]),(2,.iG [ivA v]),(11,int n),(12,int k)],H:=H }
def aCf(H:List ah):St:={ aL:=aC 47 [],H:=H }
def piQ(t:TE)(v:List aMi)(n k:Nat)(H:List ah)(b:Nat)(x:Int)(j:Nat):St:={ aL:=aC 47 [(0,.yl 0),(1,.iG [bZ t.cells,oI t.bQ]),(2,.iG [ivA v]),(4,int k),(5,.ptr b 0),(6,aKW b),(11,int n),(12,int k),(16,ivA v),(17,int v.length),(18,int j)],H:=H++[.box [u32 x]] }
def aA4(t:TE)(v:List aMi)(n k:Nat)(H:List ah)(b:Nat)(x:Int):St:={ aL:=aC 47 [(0,.yl 0),(1,.iG [bZ t.cells,oI t.bQ]),(2,.iG [ivA v]),(4,int k),(5,.ptr b 0),(11,int n),(12,int k)],H:=H++[.box [u32 x]] }
def hA1(t:TE)(y:Int)(l:List Int)(c:CE):List ah:=[jrR,sbT t,.box [int 3,int 0,str y28,.aU 8 0 0 1],.box [u32 y],.box [u32 y],.box (Sq.aQ c),.box [int 3,int 0,str y28,.sl 4 false (iB (l.map aMd))],.aN 0 4 false (axm c.vl l),.aN 0 4 false [[int 3,int 0,str y28,.aU 7 0 0 2]]]
def hC1(t:TE)(y:Int)(g:Nat)(rs:List CV)(l:List Int)(c:CE):List ah:=[jrR,sbT t,.box [int 3,int 0,str y28,.aU 4 (g+1) 0 (rs.length+1)],.box [u32 y],.aN (g+1) 4 false (iB rs++[[int 3,int 0,str y28,.aU 8 0 0 2]]),.box [u32 y],.box (Sq.aQ c),.box [int 3,int 0,str y28,.sl 4 false (iB (l.map aMd))],.aN 0 4 false (axm c.vl l)]
theorem aIS(t:TE)(x0:Int)(v:List aMi)(n k:Nat)(x:Int)(j:Nat)(hj:¬(j:Int)<(v.length:Int))(h:True):Rq 4 277 1 (piQ t v n k (hA t x0) 4 x j) (bF.exit 2) (aA4 t v n k (hA t x0) 4 x):=by
 have _:=h;exact aG [kj ((j:Int)<v.length)] (aB 47 [0,1,2,4,5,11,12]) 5
theorem aIT(t:TE)(x0:Int)(v:List aMi)(n k:Nat)(x:Int)(j:Nat)(y:aMi)(hj:(j:Int)<(v.length:Int))(hv:v.length<=1000000)(hy:v[j]?=some y)(fB:0<=y.m.st)(ex:bF)(s:St)(h:(((aMi.f y<=(k:Int))->((((k:Int)<=aMi.t y)->Rq 4 277 1 (sM 47 [(0,.yl 0),(1,AV.iG [.sl 9 false (Sq.au t.cells),.sl 11 false (au t.bQ)]),(2,AV.iG [.sl 13 false (encI v)]),(4,int ↑k),(5,.ptr 4 0),(6,.fn (Fn.func 278) [.ptr 4 0] []),(11,int ↑n),(12,int ↑k),(16,.sl 13 false (encI v)),(17,int ↑v.length),(18,int ↑(j+1))] [jrR,.box [.sl 9 false (Sq.au t.cells),.sl 11 false (au t.bQ)],.box [int 3,int 0,str y28,aK],.box [.lit (Value.int IntKind.u32 x0)],.box [.lit (Value.int IntKind.u32 (aA3 x (MK.st (aMi.m y)) (MK.on (aMi.m y))))]]) ex s)/\((¬(k:Int)<=aMi.t y)->Rq 4 277 1 (sM 47 [(0,.yl 0),(1,AV.iG [.sl 9 false (Sq.au t.cells),.sl 11 false (au t.bQ)]),(2,AV.iG [.sl 13 false (encI v)]),(4,int ↑k),(5,.ptr 4 0),(6,.fn (Fn.func 278) [.ptr 4 0] []),(11,int ↑n),(12,int ↑k),(16,.sl 13 false (encI v)),(17,int ↑v.length),(18,int ↑(j+1))] [jrR,.box [.sl 9 false (Sq.au t.cells),.sl 11 false (au t.bQ)],.box [int 3,int 0,str y28,aK],.box [.lit (Value.int IntKind.u32 x0)],.box [.lit (Value.int IntKind.u32 x)]]) ex s)))/\((¬aMi.f y<=(k:Int))->Rq 4 277 1 (sM 47 [(0,.yl 0),(1,AV.iG [.sl 9 false (Sq.au t.cells),.sl 11 false (au t.bQ)]),(2,AV.iG [.sl 13 false (encI v)]),(4,int ↑k),(5,.ptr 4 0),(6,.fn (Fn.func 278) [.ptr 4 0] []),(11,int ↑n),(12,int ↑k),(16,.sl 13 false (encI v)),(17,int ↑v.length),(18,int ↑(j+1))] [jrR,.box [.sl 9 false (Sq.au t.cells),.sl 11 false (au t.bQ)],.box [int 3,int 0,str y28,aK],.box [.lit (Value.int IntKind.u32 x0)],.box [.lit (Value.int IntKind.u32 x)]]) ex s))):Rq 4 277 1 (piQ t v n k (hA t x0) 4 x j) ex s:=by
 let l1:List fP:=[ki ((j:Int)<v.length),ke (aCx y) (encI v) j (bG hy)];by_cases c2:(aMi.f y<=(k:Int))
 .have h:=h.1 c2;by_cases c3:((k:Int)<=aMi.t y)
  .have h:=h.1 c3;exact aJ (l1++[kt (qT c2),kt (qT c3),kc [4] (@akI (x) (MK.st (aMi.m y)) (MK.on (aMi.m y)) zO),kW 40 (j+1) ↑(j+1)]) (aB 47 [0,1,2,4,5,6,11,12,16,17,18]) 5 h
  .have h:=h.2 c3;exact aJ (l1++[kt (qT c2),kf (qF c3),kW 40 (j+1) ↑(j+1)]) (aB 47 [0,1,2,4,5,6,11,12,16,17,18]) 5 h
 .have h:=h.2 c2;exact aJ (l1++[kf (qF c2),kY,kW 40 (j+1) ↑(j+1)]) (aB 47 [0,1,2,4,5,6,11,12,16,17,18]) 5 h
theorem aIU(t:TE)(x0:Int)(g:Nat)(rs:List CV)(s0:yP)(ls:List Int)(v:List aMi)(n k:Nat)(x:Int)(j:Nat)(hj:¬(j:Int)<(v.length:Int))(h:True):Rq 4 277 1 (piQ t v n k (hB t x0 g rs s0 ls) 6 x j) (bF.exit 2) (aA4 t v n k (hB t x0 g rs s0 ls) 6 x):=by
 have _:=h;exact aG [kj ((j:Int)<v.length)] (aB 47 [0,1,2,4,5,11,12]) 7
theorem aIV(t:TE)(x0:Int)(g:Nat)(rs:List CV)(s0:yP)(ls:List Int)(v:List aMi)(n k:Nat)(x:Int)(j:Nat)(y:aMi)(hj:(j:Int)<(v.length:Int))(hv:v.length<=1000000)(hy:v[j]?=some y)(fB:0<=y.m.st)(ex:bF)(s:St)(h:(((aMi.f y<=(k:Int))->((((k:Int)<=aMi.t y)->((∀(x:List AV),x∈axm s0 ls->AV.gH 7 x=true)/\Rq 4 277 1 (sM 47 [(0,.yl 0),(1,AV.iG [.sl 9 false (Sq.au t.cells),.sl 11 false (au t.bQ)]),(2,AV.iG [.sl 13 false (encI v)]),(4,int ↑k),(5,.ptr 6 0),(6,.fn (Fn.func 278) [.ptr 6 0] []),(11,int ↑n),(12,int ↑k),(16,.sl 13 false (encI v)),(17,int ↑v.length),(18,int ↑(j+1))] [jrR,.box [.sl 9 false (Sq.au t.cells),.sl 11 false (au t.bQ)],.box [int 3,int 0,str y28,.aU 4 g 0 (length rs+1)],.box [.lit (Value.int IntKind.u32 x0)],.aN g 4 false (iB rs++[[int 3,int 0,str y28,.aU 5 0 0 2]]),.aN 0 4 false [[int 2,int 0,str s0,aK],[int 3,int 0,str y28,.sl 4 false (iB (List.map aMd ls))]],.box [.lit (Value.int IntKind.u32 (aA3 x (MK.st (aMi.m y)) (MK.on (aMi.m y))))]]) ex s))/\((¬(k:Int)<=aMi.t y)->((∀(x:List AV),x∈axm s0 ls->AV.gH 7 x=true)/\Rq 4 277 1 (sM 47 [(0,.yl 0),(1,AV.iG [.sl 9 false (Sq.au t.cells),.sl 11 false (au t.bQ)]),(2,AV.iG [.sl 13 false (encI v)]),(4,int ↑k),(5,.ptr 6 0),(6,.fn (Fn.func 278) [.ptr 6 0] []),(11,int ↑n),(12,int ↑k),(16,.sl 13 false (encI v)),(17,int ↑v.length),(18,int ↑(j+1))] [jrR,.box [.sl 9 false (Sq.au t.cells),.sl 11 false (au t.bQ)],.box [int 3,int 0,str y28,.aU 4 g 0 (length rs+1)],.box [.lit (Value.int IntKind.u32 x0)],.aN g 4 false (iB rs++[[int 3,int 0,str y28,.aU 5 0 0 2]]),.aN 0 4 false [[int 2,int 0,str s0,aK],[int 3,int 0,str y28,.sl 4 false (iB (List.map aMd ls))]],.box [.lit (Value.int IntKind.u32 x)]]) ex s))))/\((¬aMi.f y<=(k:Int))->((∀(x:List AV),x∈axm s0 ls->AV.gH 7 x=true)/\Rq 4 277 1 (sM 47 [(0,.yl 0),(1,AV.iG [.sl 9 false (Sq.au t.cells),.sl 11 false (au t.bQ)]),(2,AV.iG [.sl 13 false (encI v)]),(4,int ↑k),(5,.ptr 6 0),(6,.fn (Fn.func 278) [.ptr 6 0] []),(11,int ↑n),(12,int ↑k),(16,.sl 13 false (encI v)),(17,int ↑v.length),(18,int ↑(j+1))] [jrR,.box [.sl 9 false (Sq.au t.cells),.sl 11 false (au t.bQ)],.box [int 3,int 0,str y28,.aU 4 g 0 (length rs+1)],.box [.lit (Value.int IntKind.u32 x0)],.aN g 4 false (iB rs++[[int 3,int 0,str y28,.aU 5 0 0 2]]),.aN 0 4 false [[int 2,int 0,str s0,aK],[int 3,int 0,str y28,.sl 4 false (iB (List.map aMd ls))]],.box [.lit (Value.int IntKind.u32 x)]]) ex s)))):Rq 4 277 1 (piQ t v n k (hB t x0 g rs s0 ls) 6 x j) ex s:=by
 have Av:∀(x:List AV),x∈iB rs++[[int 3,int 0,str y28,AV.aU 5 0 0 2]]->AV.gH 7 x=true:=(by exact(Am.dx (Am.agW (Go.yU.CF _) _) (Am.dM rfl Am.eU)));let l1:List fP:=[ki ((j:Int)<v.length),ke (aCx y) (encI v) j (bG hy)];by_cases c2:(aMi.f y<=(k:Int))
 .have h:=h.1 c2;by_cases c3:((k:Int)<=aMi.t y)
  .have h:=h.1 c3;obtain⟨o4,h⟩:=h;exact aJ (l1++[kt (qT c2),kt (qT c3),kc [6] (@akI (x) (MK.st (aMi.m y)) (MK.on (aMi.m y)) zO),kW 40 (j+1) ↑(j+1),kp Av,kp o4]) (aB 47 [0,1,2,4,5,6,11,12,16,17,18]) 7 h
  .have h:=h.2 c3;obtain⟨o5,h⟩:=h;exact aJ (l1++[kt (qT c2),kf (qF c3),kW 40 (j+1) ↑(j+1),kp Av,kp o5]) (aB 47 [0,1,2,4,5,6,11,12,16,17,18]) 7 h
 .have h:=h.2 c2;obtain⟨o6,h⟩:=h;exact aJ (l1++[kf (qF c2),kY,kW 40 (j+1) ↑(j+1),kp Av,kp o6]) (aB 47 [0,1,2,4,5,6,11,12,16,17,18]) 7 h
theorem aIW(t:TE)(x0:Int)(g:Nat)(rs:List CV)(v:List aMi)(n k:Nat)(x:Int)(j:Nat)(hj:¬(j:Int)<(v.length:Int))(h:True):Rq 4 277 1 (piQ t v n k (hC t x0 g rs) 5 x j) (bF.exit 2) (aA4 t v n k (hC t x0 g rs) 5 x):=by
 have _:=h;exact aG [kj ((j:Int)<v.length)] (aB 47 [0,1,2,4,5,11,12]) 6
theorem aIX(t:TE)(x0:Int)(g:Nat)(rs:List CV)(v:List aMi)(n k:Nat)(x:Int)(j:Nat)(y:aMi)(hj:(j:Int)<(v.length:Int))(hv:v.length<=1000000)(hy:v[j]?=some y)(fB:0<=y.m.st)(ex:bF)(s:St)(h:(((aMi.f y<=(k:Int))->((((k:Int)<=aMi.t y)->Rq 4 277 1 (sM 47 [(0,.yl 0),(1,AV.iG [.sl 9 false (Sq.au t.cells),.sl 11 false (au t.bQ)]),(2,AV.iG [.sl 13 false (encI v)]),(4,int ↑k),(5,.ptr 5 0),(6,.fn (Fn.func 278) [.ptr 5 0] []),(11,int ↑n),(12,int ↑k),(16,.sl 13 false (encI v)),(17,int ↑v.length),(18,int ↑(j+1))] [jrR,.box [.sl 9 false (Sq.au t.cells),.sl 11 false (au t.bQ)],.box [int 3,int 0,str y28,.aU 4 g 0 rs.length],.box [.lit (Value.int IntKind.u32 x0)],.aN g 4 false (iB rs),.box [.lit (Value.int IntKind.u32 (aA3 x (MK.st (aMi.m y)) (MK.on (aMi.m y))))]]) ex s)/\((¬(k:Int)<=aMi.t y)->Rq 4 277 1 (sM 47 [(0,.yl 0),(1,AV.iG [.sl 9 false (Sq.au t.cells),.sl 11 false (au t.bQ)]),(2,AV.iG [.sl 13 false (encI v)]),(4,int ↑k),(5,.ptr 5 0),(6,.fn (Fn.func 278) [.ptr 5 0] []),(11,int ↑n),(12,int ↑k),(16,.sl 13 false (encI v)),(17,int ↑v.length),(18,int ↑(j+1))] [jrR,.box [.sl 9 false (Sq.au t.cells),.sl 11 false (au t.bQ)],.box [int 3,int 0,str y28,.aU 4 g 0 rs.length],.box [.lit (Value.int IntKind.u32 x0)],.aN g 4 false (iB rs),.box [.lit (Value.int IntKind.u32 x)]]) ex s)))/\((¬aMi.f y<=(k:Int))->Rq 4 277 1 (sM 47 [(0,.yl 0),(1,AV.iG [.sl 9 false (Sq.au t.cells),.sl 11 false (au t.bQ)]),(2,AV.iG [.sl 13 false (encI v)]),(4,int ↑k),(5,.ptr 5 0),(6,.fn (Fn.func 278) [.ptr 5 0] []),(11,int ↑n),(12,int ↑k),(16,.sl 13 false (encI v)),(17,int ↑v.length),(18,int ↑(j+1))] [jrR,.box [.sl 9 false (Sq.au t.cells),.sl 11 false (au t.bQ)],.box [int 3,int 0,str y28,.aU 4 g 0 rs.length],.box [.lit (Value.int IntKind.u32 x0)],.aN g 4 false (iB rs),.box [.lit (Value.int IntKind.u32 x)]]) ex s))):Rq 4 277 1 (piQ t v n k (hC t x0 g rs) 5 x j) ex s:=by
 have Av:∀(x:List AV),x∈iB rs->AV.gH 6 x=true:=(by exact(Am.agW (Go.yU.CF _) _));let l1:List fP:=[ki ((j:Int)<v.length),ke (aCx y) (encI v) j (bG hy)];by_cases c2:(aMi.f y<=(k:Int))
 .have h:=h.1 c2;by_cases c3:((k:Int)<=aMi.t y)
  .have h:=h.1 c3;exact aJ (l1++[kt (qT c2),kt (qT c3),kc [5] (@akI (x) (MK.st (aMi.m y)) (MK.on (aMi.m y)) zO),kW 40 (j+1) ↑(j+1),kp Av]) (aB 47 [0,1,2,4,5,6,11,12,16,17,18]) 6 h
  .have h:=h.2 c3;exact aJ (l1++[kt (qT c2),kf (qF c3),kW 40 (j+1) ↑(j+1),kp Av]) (aB 47 [0,1,2,4,5,6,11,12,16,17,18]) 6 h
 .have h:=h.2 c2;exact aJ (l1++[kf (qF c2),kY,kW 40 (j+1) ↑(j+1),kp Av]) (aB 47 [0,1,2,4,5,6,11,12,16,17,18]) 6 h
theorem aIY(t:TE)(x0:Int)(v:List aMi)(n k:Nat)(hk:¬(k:Int)<(n:Int))(h:True):Rq 4 277 0 (ouQ t v n k (hA t x0)) (bF.exit 0) (aCf (hA t x0)):=by
 have _:=h;exact aG [kj ((k:Int)<n)] (aB 47 []) 4
theorem aIZ(t:TE)(x0:Int)(g:Nat)(rs:List CV)(v:List aMi)(n k:Nat)(hk:¬(k:Int)<(n:Int))(h:True):Rq 4 277 0 (ouQ t v n k (hC t x0 g rs)) (bF.exit 0) (aCf (hC t x0 g rs)):=by
 have _:=h;exact aG [kj ((k:Int)<n)] (aB 47 []) 5
theorem aGb(t:TE)(x0:Int)(v:List aMi)(n k:Nat)(y:Int)(hk:(k:Int)<(n:Int))(hn:n<=1000000)(hI:Rq 4 277 1 (piQ t v n k (hA t x0) 4 0 0) (.exit 2) (aA4 t v n k (hA t x0) 4 y))(hy:dY P G 0 [int k,u32 y] (hA t x0++[.box [u32 y]]) true (hA t x0++[.box [u32 y]]))(ex:bF)(s:St)(h:Rq 4 277 0 (sM 47 [(0,.yl 0),(1,AV.iG [.sl 9 false (Sq.au t.cells),.sl 11 false (au t.bQ)]),(2,AV.iG [.sl 13 false (encI v)]),(11,int ↑n),(12,int ↑(k+1))] [jrR,.box [.sl 9 false (Sq.au t.cells),.sl 11 false (au t.bQ)],.box [int 3,int 0,str y28,aK],.box [.lit (Value.int IntKind.u32 x0)]]) ex s):Rq 4 277 0 (ouQ t v n k (hA t x0)) ex s:=by
 exact aJ [ki ((k:Int)<n),kN 17 (atC v),kl [13,14,15] 5 hI,ko (bC.call [] (aS.ret (Am.bool true)) (hA t x0++[ah.box [u32 y]])),kp hy,kY,kW 46 (k+1) ↑(k+1)] (aB 47 [0,1,2,11,12]) 4 h
theorem aI0(t:TE)(x0:Int)(v:List aMi)(n k:Nat)(y:Int)(l:List Int)(c:CE)(hk:(k:Int)<(n:Int))(hn:n<=1000000)(hI:Rq 4 277 1 (piQ t v n k (hA t x0) 4 0 0) (.exit 2) (aA4 t v n k (hA t x0) 4 y))(hy:dY P G 0 [int k,u32 y] (hA t x0++[.box [u32 y]]) true (hA1 t y l c))(ex:bF)(s:St)(h:Rq 4 277 0 (sM 47 [(0,.yl 0),(1,AV.iG [.sl 9 false (Sq.au t.cells),.sl 11 false (au t.bQ)]),(2,AV.iG [.sl 13 false (encI v)]),(11,int ↑n),(12,int ↑(k+1))] [jrR,.box [.sl 9 false (Sq.au t.cells),.sl 11 false (au t.bQ)],.box [int 3,int 0,str y28,.aU 8 0 0 1],.box [.lit (Value.int IntKind.u32 y)],.box [.lit (Value.int IntKind.u32 y)],.box [int c.dv,int c.sq,int c.gU,int c.ad,int c.j6,int c.aa,int c.tm,str c.vl,Am.bool c.gn],.box [int 3,int 0,str y28,.sl 4 false (iB (List.map aMd l))],.aN 0 4 false [[int 2,int 0,str c.vl,aK],[int 3,int 0,str y28,.sl 4 false (iB (List.map aMd l))]],.aN 0 4 false [[int 3,int 0,str y28,.aU 7 0 0 2]]]) ex s):Rq 4 277 0 (ouQ t v n k (hA t x0)) ex s:=by
 exact aJ [ki ((k:Int)<n),kN 17 (atC v),kl [13,14,15] 5 hI,ko (bC.call [] (aS.ret (Am.bool true)) (hA1 t y l c)),kp hy,kY,kW 46 (k+1) ↑(k+1)] (aB 47 [0,1,2,11,12]) 9 h
theorem aGc(t:TE)(x0:Int)(g:Nat)(rs:List CV)(s0:yP)(ls:List Int)(v:List aMi)(n k:Nat)(y:Int)(s1:yP)(hk:(k:Int)<(n:Int))(hn:n<=1000000)(hI:Rq 4 277 1 (piQ t v n k (hB t x0 g rs s0 ls) 6 0 0) (.exit 2) (aA4 t v n k (hB t x0 g rs s0 ls) 6 y))(hy:dY P G 0 [int k,u32 y] (hB t x0 g rs s0 ls++[.box [u32 y]]) true (hB t x0 g rs s1 ls++[.box [u32 y]]))(ex:bF)(s:St)(h:((∀(x:List AV),x∈axm s1 ls->AV.gH 6 x=true)/\Rq 4 277 0 (sM 47 [(0,.yl 0),(1,AV.iG [.sl 9 false (Sq.au t.cells),.sl 11 false (au t.bQ)]),(2,AV.iG [.sl 13 false (encI v)]),(11,int ↑n),(12,int ↑(k+1))] [jrR,.box [.sl 9 false (Sq.au t.cells),.sl 11 false (au t.bQ)],.box [int 3,int 0,str y28,.aU 4 g 0 (length rs+1)],.box [.lit (Value.int IntKind.u32 x0)],.aN g 4 false (iB rs++[[int 3,int 0,str y28,.aU 5 0 0 2]]),.aN 0 4 false [[int 2,int 0,str s1,aK],[int 3,int 0,str y28,.sl 4 false (iB (List.map aMd ls))]]]) ex s)):Rq 4 277 0 (ouQ t v n k (hB t x0 g rs s0 ls)) ex s:=by
 obtain⟨o2,h⟩:=h;exact aJ [ki ((k:Int)<n),kN 17 (atC v),kl [13,14,15] 7 hI,ko (bC.call [] (aS.ret (Am.bool true)) (hB t x0 g rs s1 ls++[ah.box [u32 y]])),kp hy,kY,kW 46 (k+1) ↑(k+1),kp (show ∀(x:List AV),x∈iB rs++[[int 3,int 0,str y28,AV.aU 5 0 0 2]]->AV.gH 6 x=true from(by exact(Am.dx (Am.agW (Go.yU.CF _) _) (Am.dM rfl Am.eU)))),kp o2] (aB 47 [0,1,2,11,12]) 6 h
theorem aI1(t:TE)(x0:Int)(g:Nat)(rs:List CV)(v:List aMi)(n k:Nat)(y:Int)(l:List Int)(c:CE)(hk:(k:Int)<(n:Int))(hn:n<=1000000)(hI:Rq 4 277 1 (piQ t v n k (hC t x0 g rs) 5 0 0) (.exit 2) (aA4 t v n k (hC t x0 g rs) 5 y))(hy:dY P G 0 [int k,u32 y] (hC t x0 g rs++[.box [u32 y]]) true (hC1 t y g rs l c))(ex:bF)(s:St)(h:Rq 4 277 0 (sM 47 [(0,.yl 0),(1,AV.iG [.sl 9 false (Sq.au t.cells),.sl 11 false (au t.bQ)]),(2,AV.iG [.sl 13 false (encI v)]),(11,int ↑n),(12,int ↑(k+1))] [jrR,.box [.sl 9 false (Sq.au t.cells),.sl 11 false (au t.bQ)],.box [int 3,int 0,str y28,.aU 4 (g+1) 0 (length rs+1)],.box [.lit (Value.int IntKind.u32 y)],.aN (g+1) 4 false (iB rs++[[int 3,int 0,str y28,.aU 8 0 0 2]]),.box [.lit (Value.int IntKind.u32 y)],.box [int c.dv,int c.sq,int c.gU,int c.ad,int c.j6,int c.aa,int c.tm,str c.vl,Am.bool c.gn],.box [int 3,int 0,str y28,.sl 4 false (iB (List.map aMd l))],.aN 0 4 false [[int 2,int 0,str c.vl,aK],[int 3,int 0,str y28,.sl 4 false (iB (List.map aMd l))]]]) ex s):Rq 4 277 0 (ouQ t v n k (hC t x0 g rs)) ex s:=by
 exact aJ [ki ((k:Int)<n),kN 17 (atC v),kl [13,14,15] 6 hI,ko (bC.call [] (aS.ret (Am.bool true)) (hC1 t y g rs l c)),kp hy,kY,kW 46 (k+1) ↑(k+1)] (aB 47 [0,1,2,11,12]) 9 h
theorem itA(t:TE)(v:List aMi)(hL:Rq 4 277 0 (ouQ t v t.cells.length 0 (hA t 0)) (.exit 0) (aCf (hA t 0)))(h:True):ak P G 277 [.yl 0,AV.iG [bZ t.cells,oI t.bQ],AV.iG [ivA v]] (hA t 0) (aS.ret (AV.bq [])) (hA t 0):=by
 have _:=h;exact aj [kv 11 (show Am.aF (int (↑(length (Sq.au t.cells)):Int)) (int ↑(length t.cells))from(aF.of_eq (by simp only[Go.Sq.ay]))),kl (rG [(3,8),(13,34)]) 4 hL]
theorem itC(t:TE)(v:List aMi)(x0:Int)(g:Nat)(rs:List CV)(hL:Rq 4 277 0 (ouQ t v t.cells.length 0 (hA t 0)) (.exit 0) (aCf (hC t x0 g rs)))(h:True):ak P G 277 [.yl 0,AV.iG [bZ t.cells,oI t.bQ],AV.iG [ivA v]] (hA t 0) (aS.ret (AV.bq [])) (hC t x0 g rs):=by
 have _:=h;exact aj [kv 11 (show Am.aF (int (↑(length (Sq.au t.cells)):Int)) (int ↑(length t.cells))from(aF.of_eq (by simp only[Go.Sq.ay]))),kl (rG [(3,8),(13,34)]) 4 hL]
theorem aI2(t:TE)(e:Int)(he:e≠0)(hc:Cq 163 [mG t] (int e))(o:aS)(H':List ah)(h:(aS.ret (AV.bq [AV.agg [int 0,int 0,str (ByteArray.mk #[]),aK],int e])=o)/\([]=H')):ak P G 143 [mG t] [] o H':=by
 obtain⟨e1,eH⟩:=h;exact ak.heap (e1▸((show Cq 143 [mG t] (.bq [.agg [int 0,int 0,str (ByteArray.mk #[]),aK],int e])from aj [kc [] hc,kt (show(e != 0)=true from(y27 (qF zO)))]))) eH
theorem aI3(t:TE)(v:List aMi)(hc:Cq 163 [mG t] (int 0))(hs:Cq 231 [mG t] (sfn t v))(hi:ak P G 277 [.yl 0,.iG [bZ t.cells,oI t.bQ],.iG [ivA v]] (hA t 0) (.ret (.bq [])) (hA t 0))(o:aS)(H':List ah)(h:(aS.ret (AV.bq [AV.agg [int 3,int 0,str y28,aK],int 0])=o)/\([]=H')):ak P G 143 [mG t] [] o H':=by
 obtain⟨e1,eH⟩:=h;exact ak.heap (e1▸((show Cq 143 [mG t] (.bq [.agg [int 3,int 0,str y28,aK],int 0])from aj [kc [] hc,kY,kc [] hs,ko (bC.range [0,3,4,6,7,8,9,10,11,12,13,14,15,16,17,18,19,20,21,22,23,24,25,26,27,28,29,30,31,32,33,34,35,36,37,38,39,40,41,42,43,44,45,46,47,48,49,50,51,52,53,54,55,56,57,58,59,60,61,62,63,64,65,66,67,68,69,70,71,72,73,74,75,76,77,78,79,80,81,82,83,84,85,86] 0 none bF.normal [] []),kc [4,0,1,2] hi]))) eH
theorem aI4(t:TE)(v:List aMi)(x0:Int)(g:Nat)(rs:List CV)(hc:Cq 163 [mG t] (int 0))(hs:Cq 231 [mG t] (sfn t v))(hi:ak P G 277 [.yl 0,.iG [bZ t.cells,oI t.bQ],.iG [ivA v]] (hA t 0) (.ret (.bq [])) (hC t x0 g rs))(o:aS)(H':List ah)(h:(aS.ret (AV.bq [AV.agg [int 3,int 0,str y28,AV.sl 4 false (iB rs)],int 0])=o)/\([]=H')):ak P G 143 [mG t] [] o H':=by
 obtain⟨e1,eH⟩:=h;exact ak.heap (e1▸((show Cq 143 [mG t] (.bq [.agg [int 3,int 0,str y28,.sl 4 false (iB rs)],int 0])from aj [kc [] hc,kY,kc [] hs,ko (bC.range [0,3,4,6,7,8,9,10,11,12,13,14,15,16,17,18,19,20,21,22,23,24,25,26,27,28,29,30,31,32,33,34,35,36,37,38,39,40,41,42,43,44,45,46,47,48,49,50,51,52,53,54,55,56,57,58,59,60,61,62,63,64,65,66,67,68,69,70,71,72,73,74,75,76,77,78,79,80,81,82,83,84,85,86] 0 none bF.normal [] []),kc [4,0,1,2] hi,ko (bC.fz (some 86) (iB rs)),kp (Go.yU.CF rs),kq g,kp (show List.take rs.length (List.drop 0 (iB rs))=iB rs from(Go.yU.aa7 _)),kp (Go.yU.fA rs),kp (Go.yU.WV rs)]))) eH
def prV(s:yP)(ls:List Int):CV:=azL [aMj s,azL (ls.map aMd)]
def rn(sty:Nat->List Int):List CE->Nat->Option (List CV×yP×List Int)->List CV
 |[],_,none=>[]
 |[],_,some (rs,s,ls)=>rs++[prV s ls]
 |c::l,k,st=>if c.gn=true then rn sty l (k+1) st else match st with
  |none=>rn sty l (k+1) (some ([],c.vl,sty k))
  |some (rs,s,ls)=>if sty k=ls then rn sty l (k+1) (some (rs,s++c.vl,ls))else rn sty l (k+1) (some (rs++[prV s ls],c.vl,sty k))
theorem aAT(p:Nat->Bool):∀m s i,((i:Nat):Int)∈zT p m s↔s<=i/\i<s+m/\p i=true
 |0,s,i=>by simp only[zT,y12,false_iff];omega
 |m+1,s,i=>by
  rw[zT];have ih:=aAT p m (s+1) i;by_cases h:p s=true
  .rw [yL h,yH,ih];constructor
   .rintro (e|⟨a,b,c⟩)
    .have e:i=s:=zO
     subst e;exact⟨yM,zO,h⟩
    .exact ⟨zO,zO,c⟩
   .rintro ⟨a,b,c⟩;by_cases e:i=s
    .left;rw[e]
    .right;exact⟨zO,zO,c⟩
  .rw [yK h,ih];constructor
   .rintro ⟨a,b,c⟩;exact⟨zO,zO,c⟩
   .rintro ⟨a,b,c⟩;have:i≠s:=fun e=>h (e▸c);exact⟨zO,zO,c⟩
theorem aEi{a b:Nat}(ha:a<65536)(hb:b<65536)(h:zT a.testBit 16 0=zT b.testBit 16 0):a=b:=by
 apply Nat.eq_of_testBit_eq;intro i;by_cases hi:i<16
 .have h1:=aAT a.testBit 16 0 i;have h2:=aAT b.testBit 16 0 i;rw[h]at h1;have h3:=h1.symm.trans h2;cases e1:a.testBit i<;>cases e2:b.testBit i<;>simp[e1,e2,hi]at h3 |-
 .have e:(65536:Nat)=2^16:=rfl;have h3:(65536:Nat)<=2^i:=by rw[e];exact Nat.pow_le_pow_right zD zO
  rw[Nat.testBit_lt_two_pow zO,Nat.testBit_lt_two_pow zO]
noncomputable abbrev lpI:Code:=vg P 277 1
noncomputable abbrev lpO:Code:=vg P 277 0
theorem avL(n:Nat)(s:yP)(ls:List Int):∀x∈axm s ls,AV.gH n x=true:=by
 intro x hx;simp only[yH,y12,or_false]at hx;rcases hx with rfl|rfl<;>rfl
theorem aFv(t:TE)(x0:Int)(v:List aMi)(n k:Nat)(hv:v.length<=1000000)(fB:∀y∈v,0<=y.m.st):∀d j x,v.length-j=d->j<=v.length->bN P G none 4 lpI (piQ t v n k (hA t x0) 4 x j) (.exit 2) (aA4 t v n k (hA t x0) 4 (stN (k:Int) x (v.drop j))):=by
 intro d
 induction d with
 |zero =>
  intro j x hd hj;rw[y14 zO];exact aIS t x0 v n k x j zO trivial
 |succ d ih =>
  intro j x hd hj;have bg:j<v.length:=zO
  have hy:v[j]?=some v[j]:=yA bg;rw[y01 bg,stN];refine aIT t x0 v n k x j v[j] zO hv hy (fB _ (y03 bg)) _ _ ⟨fun h1=>⟨fun h2=>?_,fun h2=>?_⟩,fun h1=>?_⟩
  .rw [yL ⟨h1,h2⟩];exact ih (j+1) _ zO zO
  .rw [yK (fun h=>h2 h.2)];exact ih (j+1) _ zO zO
  .rw [yK (fun h=>h1 h.1)];exact ih (j+1) _ zO zO
theorem aFw(t:TE)(x0:Int)(g:Nat)(rs:List CV)(s0:yP)(ls:List Int)(v:List aMi)(n k:Nat)(hv:v.length<=1000000)(fB:∀y∈v,0<=y.m.st):∀d j x,v.length-j=d->j<=v.length->bN P G none 4 lpI (piQ t v n k (hB t x0 g rs s0 ls) 6 x j) (.exit 2) (aA4 t v n k (hB t x0 g rs s0 ls) 6 (stN (k:Int) x (v.drop j))):=by
 intro d
 induction d with
 |zero =>
  intro j x hd hj;rw[y14 zO];exact aIU t x0 g rs s0 ls v n k x j zO trivial
 |succ d ih =>
  intro j x hd hj;have bg:j<v.length:=zO
  have hy:v[j]?=some v[j]:=yA bg;rw[y01 bg,stN];refine aIV t x0 g rs s0 ls v n k x j v[j] zO hv hy (fB _ (y03 bg)) _ _ ⟨fun h1=>⟨fun h2=>⟨avL _ _ _,?_⟩,fun h2=>⟨avL _ _ _,?_⟩⟩,fun h1=>⟨avL _ _ _,?_⟩⟩
  .rw [yL ⟨h1,h2⟩];exact ih (j+1) _ zO zO
  .rw [yK (fun h=>h2 h.2)];exact ih (j+1) _ zO zO
  .rw [yK (fun h=>h1 h.1)];exact ih (j+1) _ zO zO
theorem aFx(t:TE)(x0:Int)(g:Nat)(rs:List CV)(v:List aMi)(n k:Nat)(hv:v.length<=1000000)(fB:∀y∈v,0<=y.m.st):∀d j x,v.length-j=d->j<=v.length->bN P G none 4 lpI (piQ t v n k (hC t x0 g rs) 5 x j) (.exit 2) (aA4 t v n k (hC t x0 g rs) 5 (stN (k:Int) x (v.drop j))):=by
 intro d
 induction d with
 |zero =>
  intro j x hd hj;rw[y14 zO];exact aIW t x0 g rs v n k x j zO trivial
 |succ d ih =>
  intro j x hd hj;have bg:j<v.length:=zO
  have hy:v[j]?=some v[j]:=yA bg;rw[y01 bg,stN];refine aIX t x0 g rs v n k x j v[j] zO hv hy (fB _ (y03 bg)) _ _ ⟨fun h1=>⟨fun h2=>?_,fun h2=>?_⟩,fun h1=>?_⟩
  .rw [yL ⟨h1,h2⟩];exact ih (j+1) _ zO zO
  .rw [yK (fun h=>h2 h.2)];exact ih (j+1) _ zO zO
  .rw [yK (fun h=>h1 h.1)];exact ih (j+1) _ zO zO
theorem WU(rs:List CV)(s:yP)(ls:List Int):iB (rs++[prV s ls])=iB rs++[[int 3,int 0,str y28,.sl 4 false (iB [aMj s,azL (ls.map aMd)])]]:=by
 rw[<- yU.avw];simp only[prV,azL,iB,CV.cells]
theorem aBW(s:yP)(ls:List Int):iB [aMj s,azL (ls.map aMd)]=[[int 2,int 0,str s,.sl 4 false []],[int 3,int 0,str y28,.sl 4 false (iB (ls.map aMd))]]:=by
 simp only[aMj,azL,iB,CV.cells]
theorem az4{xs:List (List AV)}(h:∀c∈xs,AV.aM [] c=true)(σ:Nat->Nat):xs.map (AV.kH σ)=xs:=Jq σ (agW h 0)
variable {s':St}{ex:bF}{n k g:Nat}{v:List aMi}{rs:List CV}{t:TE}
theorem aGd{x:Int}{s:yP}{ls:List Int}(h:bN P G none 4 lpO (ouQ t v n k (hC t x g (rs++[prV s ls]))) ex s'):bN P G none 4 lpO (ouQ t v n k (hB t x g rs s ls)) ex s':=by
 refine bN.aiS (b:=5) (k:=0) (j:=3) (y:=.sl 4 false []) rfl rfl rfl (aF.afp 4 none 0) ?_;let z:=iB [aMj s,azL (ls.map aMd)];let H0:List ah:=[jrR,sbT t,.box [int 3,int 0,str y28,.aU 4 g 0 (rs.length+1)],.box [u32 x],.aN g 4 false (iB rs++[[int 3,int 0,str y28,.aU 5 0 0 2]])];have e:mR (H0++[.aN 0 4 false z]) (.aU 5 0 0 2) z=some (.sl 4 false z,H0++[.aN 0 4 true z],[(0:Nat)=0,(z.drop 0).take 2=z,z.length=2,∀c∈z,c.all AV.fJ=true]):=rfl;have hp:gZ [(0:Nat)=0,(z.drop 0).take 2=z,z.length=2,∀c∈z,c.all AV.fJ=true]:=⟨rfl,yU.aa7 [aMj s,azL (ls.map aMd)],yU.fA _,yU.WV _,yO⟩;have hs:bN P G none 4 lpO (ouQ t v n k (H0++[.aN 0 4 false z])) ex s':=by
  refine bN.aCS (b:=4) (k:=rs.length) (j:=3) (cells:=[int 3,int 0,str y28,.aU 5 0 0 2]) (x:=AV.aU 5 0 0 2) (y:=AV.sl 4 false z) (z:=z) (s:=ouQ t v n k (H0++[ah.aN 0 4 false z])) (H1:=H0++[ah.aN 0 4 true z]) rfl rfl (auy _ _ _ (yU.fA _).symm) rfl e hp ?_;refine bN.aBr (s2:=ouQ t v n k (hC t x g (rs++[prV s ls]))) (fun i=>i) (fun i _=>rfl) (by show 4<=5;decide) (fun i h _=>h) (fun i j _ _ h=>h) (fun i o ho=>?_) (fun i o ho=>?_) rfl rfl rfl rfl h
  .match i,ho with
   |0,ho=>cases ho;rfl
   |1,ho=>cases ho;rfl
   |2,ho=>cases ho;show _=some (ah.box [int 3,int 0,str y28,.aU 4 g 0 (rs++[prV s ls]).length]);rw[yD];rfl
   |3,ho=>cases ho;rfl
   |4,ho =>
    cases ho;show some (ah.aN g 4 false ((iB rs++[[int 3,int 0,str y28,.aU 5 0 0 2]]).set rs.length [int 3,int 0,str y28,.sl 4 false z]))=some (ah.aN g 4 false ((iB (rs++[prV s ls])).map (AV.kH fun i=>i)));rw[az4 (yU.CF _),awt _ _ _ _ (yU.fA _).symm,WU]
   |n+5,ho=>cases ho
  .match i,ho with
   |0,ho=>cases ho;show AV.gH _ _=true;rfl
   |1,ho=>cases ho;show AV.gH _ _=true;rfl
   |2,ho=>cases ho;show AV.gH _ _=true;rfl
   |3,ho=>cases ho;show AV.gH _ _=true;rfl
   |4,ho=>cases ho;exact agW (yU.CF _) _
   |n+5,ho=>cases ho
 have he:(ouQ t v n k (hB t x g rs s ls)).H.set 5 (.aN 0 4 false ((axm s ls).set 0 ([int 2,int 0,str s,aK].set 3 (.sl 4 false []))))=H0++[.aN 0 4 false z]:=by
  show H0++[_]=_;rw[show z=_ from aBW s ls];rfl
 have e2:({ aL:=(ouQ t v n k (hB t x g rs s ls)).aL,H:=(ouQ t v n k (hB t x g rs s ls)).H.set 5 (.aN 0 4 false ((axm s ls).set 0 ([int 2,int 0,str s,aK].set 3 (.sl 4 false [])))),dh:=(ouQ t v n k (hB t x g rs s ls)).dh }:St)=ouQ t v n k (H0++[.aN 0 4 false z]):=by
  rw[he];rfl
 exact e2▸hs
variable {c:CE}{l:List Int}{y:Int}
theorem aGZ(h:bN P G none 4 lpO (ouQ t v n k (hB t y 0 [] c.vl l)) ex s'):bN P G none 4 lpO (ouQ t v n k (hA1 t y l c)) ex s':=by
 refine bN.aBr (s2:=ouQ t v n k (hB t y 0 [] c.vl l)) (fun i=>if i=4 then 8 else if i=5 then 7 else i) (fun i hi=>by show(if i=4 then 8 else if i=5 then 7 else i)=i;rw[yK zO,yK zO]) (by show 4<=6;decide) (fun i h1 h2=>by show 4<=(if i=4 then 8 else if i=5 then 7 else i);split<;>(try split)<;>omega) (fun i j h1 h2 h=>by
  have h1:i<6:=h1;have h2:j<6:=h2;have h:(if i=4 then 8 else if i=5 then 7 else i)=(if j=4 then 8 else if j=5 then 7 else j):=h;split at h<;>split at h<;>(try split at h)<;>(try split at h)<;>omega) (fun i o ho=>?_) (fun i o ho=>?_) rfl rfl rfl rfl h
 .match i,ho with
  |0,ho=>cases ho;rfl
  |1,ho=>cases ho;rfl
  |2,ho=>cases ho;rfl
  |3,ho=>cases ho;rfl
  |4,ho=>cases ho;rfl
  |5,ho=>cases ho;rfl
  |n+6,ho=>cases ho
 .match i,ho with
  |0,ho=>cases ho;show AV.gH _ _=true;rfl
  |1,ho=>cases ho;show AV.gH _ _=true;rfl
  |2,ho=>cases ho;show AV.gH _ _=true;rfl
  |3,ho=>cases ho;show AV.gH _ _=true;rfl
  |4,ho =>
   cases ho;intro x hx;have hx:x∈[[int 3,int 0,str y28,AV.aU 5 0 0 2]]:=hx;simp only[yH,y12,or_false]at hx;subst hx;rfl
  |5,ho=>cases ho;exact avL _ _ _
  |n+6,ho=>cases ho
theorem aG0(h:bN P G none 4 lpO (ouQ t v n k (hB t y (g+1) rs c.vl l)) ex s'):bN P G none 4 lpO (ouQ t v n k (hC1 t y g rs l c)) ex s':=by
 refine bN.aBr (s2:=ouQ t v n k (hB t y (g+1) rs c.vl l)) (fun i=>if i=5 then 8 else i) (fun i hi=>by show(if i=5 then 8 else i)=i;rw[yK zO]) (by show 4<=6;decide) (fun i h1 h2=>by show 4<=(if i=5 then 8 else i);split<;>omega) (fun i j h1 h2 h=>by
  have h1:i<6:=h1;have h2:j<6:=h2;have h:(if i=5 then 8 else i)=(if j=5 then 8 else j):=h;split at h<;>split at h<;>omega) (fun i o ho=>?_) (fun i o ho=>?_) rfl rfl rfl rfl h
 .match i,ho with
  |0,ho=>cases ho;rfl
  |1,ho=>cases ho;rfl
  |2,ho=>cases ho;rfl
  |3,ho=>cases ho;rfl
  |4,ho =>
   cases ho;show some (ah.aN (g+1) 4 false (iB rs++[[int 3,int 0,str y28,.aU 8 0 0 2]]))=some (ah.aN (g+1) 4 false ((iB rs++[[int 3,int 0,str y28,.aU 5 0 0 2]]).map (AV.kH _)));rw[map_append,az4 (yU.CF _)];rfl
  |5,ho=>cases ho;rfl
  |n+6,ho=>cases ho
 .match i,ho with
  |0,ho=>cases ho;show AV.gH _ _=true;rfl
  |1,ho=>cases ho;show AV.gH _ _=true;rfl
  |2,ho=>cases ho;show AV.gH _ _=true;rfl
  |3,ho=>cases ho;show AV.gH _ _=true;rfl
  |4,ho =>
   cases ho;intro x hx;have hx:x∈iB rs++[[int 3,int 0,str y28,AV.aU 5 0 0 2]]:=hx;rcases yI.1 hx with hx|hx
   .exact agW (yU.CF _) _ x hx
   .simp only[yH,y12,or_false]at hx;subst hx;rfl
  |5,ho=>cases ho;exact avL _ _ _
  |n+6,ho=>cases ho
def axt(t:TE)(k:Nat):List Int:=aCc t (k:Int)
def aFy(t:TE):CV:=azL (rn (axt t) t.cells 0 none)
theorem aG1(t:TE)(h:Val t)(hc:t.cells.length<=900000)(hv:t.bQ.length<=900000):∀d k,t.cells.length-k=d->k<=t.cells.length->∀(r0 g:Nat)(rs:List CV)(s:yP),r0<65536->rs.length+1<=k->s.size<=k ->
 ∃(x':Int)(g':Nat),bN P G none 4 lpO (ouQ t (az7 t) t.cells.length k (hB t (r0:Int) g rs s (zT r0.testBit 16 0))) (.exit 0) (aCf (hC t x' g' (rn (axt t) (t.cells.drop k) k (some (rs,s,zT r0.testBit 16 0))))):=by
 have hlv:(az7 t).length<=1000000:=by unfold az7;rw[y10];omega
 intro d
 induction d with
 |zero =>
  intro k hd hk r0 g rs s h0 hr hs;rw[y14 zO];exact⟨_,g,aGd (aIZ t _ g _ _ _ k zO yO)⟩
 |succ d ih =>
  intro k hd hk r0 g rs s h0 hr hs;have bg:k<t.cells.length:=zO
  have hx:t.cells[k]?=some t.cells[k]:=yA bg;have rY:t.cells[k].vl.size=1:=h.one _ (y03 bg);obtain⟨r,e1,e2,e3⟩:=aEf t (k:Int) h;have hI:=aFw t (r0:Int) g rs s (zT r0.testBit 16 0) (az7 t) t.cells.length k hlv (aCe h) _ 0 0 rfl yN;rw[drop_zero,e1]at hI;have aEj:axt t k=zT r.testBit 16 0:=e3.symm;rw[y01 bg,rn];cases hg:t.cells[k].gn with
  |true =>
   rw[yL rfl];obtain⟨x',g',nx⟩:=ih (k+1) zO zO r0 g rs s h0 zO zO;have hy:=aKY t (r0:Int) (r:Int) g rs s (zT r0.testBit 16 0) k _ hx hg true (hB t (r0:Int) g rs s (zT r0.testBit 16 0)++[.box [u32 (r:Int)]]) ⟨avL _ _ _,rfl,rfl⟩;exact⟨x',g',aGc t _ g rs s _ _ _ k _ s zO zO hI hy _ _ ⟨avL _ _ _,nx⟩⟩
  |false =>
   rw[yK zD];by_cases he:r=r0
   .rw [yL (by rw[aEj,he])];subst he;obtain⟨x',g',nx⟩:=ih (k+1) zO zO r g rs (s++t.cells[k].vl) h0 zO (by rw[ByteArray.size_append];omega);have hy:=aKZ t (r:Int) (r:Int) g rs s (zT r.testBit 16 0) k _ zO hx hg rfl zO (by
     have e:0+Int.toNat (((rs.length+1:Nat):Int)-1)=rs.length:=zO
     rw[e];exact auy _ _ _ (yU.fA _).symm) true (hB t (r:Int) g rs (s++t.cells[k].vl) (zT r.testBit 16 0)++[.box [u32 (r:Int)]]) ⟨avL _ (s++t.cells[k].vl) _,rfl,rfl⟩
    exact⟨x',g',aGc t _ g rs s _ _ _ k _ (s++t.cells[k].vl) zO zO hI hy _ _ ⟨avL _ _ _,nx⟩⟩
   .rw [yK (by rw[aEj];exact fun e=>he (aEi e2 h0 e)),aEj];have bL:(rs++[prV s (zT r0.testBit 16 0)]).length=rs.length+1:=by rw[yD];rfl
    have hIC:=aFx t (r0:Int) g (rs++[prV s (zT r0.testBit 16 0)]) (az7 t) t.cells.length k hlv (aCe h) _ 0 0 rfl yN;rw[drop_zero,e1]at hIC;obtain⟨x',g',nx⟩:=ih (k+1) zO zO r (g+1) (rs++[prV s (zT r0.testBit 16 0)]) t.cells[k].vl e2 zO zO;have hy:=aK1 t (r0:Int) (r:Int) g (rs++[prV s (zT r0.testBit 16 0)]) (zT r.testBit 16 0) k _ zO zO hx hg zO (awH _ _ _) (auy _ _ _ (by rw[yU.fA];omega)) (uj r e2) (fun r2=>aFu t _ _ g _ _ _ (awH _ _ _) r2) true (hC1 t (r:Int) g (rs++[prV s (zT r0.testBit 16 0)]) (zT r.testBit 16 0) t.cells[k]) ⟨rfl,by
     rw[awt _ _ _ _ (by rw[yU.fA];omega)];rfl⟩
    exact⟨x',g',aGd (aI1 t _ g _ _ _ k _ _ _ zO zO hIC hy _ _ (aG0 nx))⟩
theorem aG2(t:TE)(h:Val t)(hc:t.cells.length<=900000)(hv:t.bQ.length<=900000):∀d k,t.cells.length-k=d->k<=t.cells.length ->
 (rn (axt t) (t.cells.drop k) k none=[]/\bN P G none 4 lpO (ouQ t (az7 t) t.cells.length k (hA t 0)) (.exit 0) (aCf (hA t 0))) \/
 ∃(x':Int)(g':Nat),bN P G none 4 lpO (ouQ t (az7 t) t.cells.length k (hA t 0)) (.exit 0) (aCf (hC t x' g' (rn (axt t) (t.cells.drop k) k none))):=by
 have hlv:(az7 t).length<=1000000:=by unfold az7;rw[y10];omega
 intro d
 induction d with
 |zero =>
  intro k hd hk;rw[y14 zO];exact .inl ⟨rfl,aIY t _ _ _ k zO yO⟩
 |succ d ih =>
  intro k hd hk;have bg:k<t.cells.length:=zO
  have hx:t.cells[k]?=some t.cells[k]:=yA bg;have rY:t.cells[k].vl.size=1:=h.one _ (y03 bg);obtain⟨r,e1,e2,e3⟩:=aEf t (k:Int) h;have hI:=aFv t 0 (az7 t) t.cells.length k hlv (aCe h) _ 0 0 rfl yN;rw[drop_zero,e1]at hI;have aEj:axt t k=zT r.testBit 16 0:=e3.symm;rw[y01 bg,rn];cases hg:t.cells[k].gn with
  |true =>
   rw[yL rfl];have hy:=aKX t 0 (r:Int) k _ hx hg true (hA t 0++[.box [u32 (r:Int)]]) ⟨rfl,rfl⟩;rcases ih (k+1) zO zO with⟨q1,q2⟩|⟨x',g',nx⟩
   .exact .inl ⟨q1,aGb t _ _ _ k _ zO zO hI hy _ _ q2⟩
   .exact .inr ⟨x',g',aGb t _ _ _ k _ zO zO hI hy _ _ nx⟩
  |false =>
   rw[yK zD];rw[aEj];obtain⟨x',g',nx⟩:=aG1 t h hc hv d (k+1) zO zO r 0 [] t.cells[k].vl e2 zS zO;have hy:=aK0 t 0 (r:Int) (zT r.testBit 16 0) k _ hx hg (awH _ _ _) (uj r e2) (fun r2=>aFt t _ _ _ _ (awH _ _ _) r2) true (hA1 t (r:Int) (zT r.testBit 16 0) t.cells[k]) ⟨rfl,rfl⟩;exact .inr ⟨x',g',aI0 t _ _ _ k _ _ _ zO zO hI hy _ _ (aGZ nx)⟩
def aB8(t:TE):CV:=if vC t=0 then aFy t else .mk 0 0 .empty []
theorem aEk(t:TE)(hl:X4 t)(hO:OkT t):Cq 143 [mG t] (.bq [yU.val (aB8 t),int (vC t)]):=by
 have hk:=fG t hl hO;have h1:=hl.cells;have h2:=hl.bQ;unfold aB8;by_cases h0:vC t=0
 .rw [yL h0,h0];rw[h0]at hk;have hs:=aD5 t zO zO;rcases aG2 t (Yp.1 h0) zO zO _ 0 rfl yN with⟨q1,q2⟩|⟨x',g',q⟩
  .rw [drop_zero]at q1;have:=aI3 t (az7 t) hk hs (itA t _ q2 yO) _ _ ⟨rfl,rfl⟩;unfold aFy;rw[q1];exact this.out (.U1 (.qo ⟨y29,y29,y29,aF.nil 4,yO⟩) (y29))
  .rw [drop_zero]at q;exact aI4 t (az7 t) x' g' _ hk hs (itC t _ x' g' _ q yO) _ _ ⟨rfl,rfl⟩
 .rw [yK h0];have:=aI2 t _ h0 hk _ _ ⟨rfl,rfl⟩;exact this.out (.U1 (.qo ⟨y29,y29,y29,aF.nil 4,yO⟩) (y29))
end Go.Tx
namespace Go.Dc
open Go Go.Am Go.Proofs Go.eY Go.bH
open Go.yU (CV rR val Cy iB fA)
open Go.Sq (CE)
open Go.Bd (BE)
abbrev sA(l:List yP):AV:=.sl 1 false (l.map fun s=>[str s])
abbrev aMk:AV:=gP 56
abbrev aMl:AV:=.fn (.func 145) [] [.ptr 0 0]
def vw0(l:List yP)(k:Nat):St:={ aL:=aC 25 [(1,aMk),(4,.ptr 0 0),(5,.ptr 1 0),(9,sA l),(10,int l.length),(11,int k)],H:=[.box azK,.box azL] }
def vw1(l:List yP)(g:Nat)(cs:List CV)(k:Nat):St:={ aL:=aC 25 [(1,aMk),(4,.ptr 0 0),(5,.ptr 1 0),(9,sA l),(10,int l.length),(11,int k)],H:=[.box azK,.box [int 3,int 0,str .empty,.aU 2 g 0 cs.length],.aN g 4 false (iB cs)] }
abbrev vwX(H:List ah):St:={ aL:=aC 25 [(4,.ptr 0 0),(5,.ptr 1 0)],H:=H }
theorem aI5(l:List yP)(k:Nat)(hk:¬(k:Int)<(l.length:Int))(h:True):Rq 0 141 0 (vw0 l k) (bF.exit 0) (vwX [ah.box azK,ah.box azL]):=by
 have _:=h;exact aG [kj ((k:Int)<l.length)] (aB 25 [4,5]) 2
theorem aK2(l:List yP)(g:Nat)(cs:List CV)(k:Nat)(hk:¬(k:Int)<(l.length:Int))(h:True):Rq 0 141 0 (vw1 l g cs k) (bF.exit 0) (vwX [ah.box azK,ah.box [int 3,int 0,str y28,AV.aU 2 g 0 cs.length],ah.aN g 4 false (iB cs)]):=by
 have _:=h;exact aG [kj ((k:Int)<l.length)] (aB 25 [4,5]) 3
theorem aI6(l:List yP)(k:Nat)(s:yP)(V:CV)(hl:l.length<=1000000)(hk:(k:Int)<(l.length:Int))(hx:l[k]?=some s)(hF:Cq 56 [str s] (val V))(ex:bF)(s':St)(h:Rq 0 141 0 (sM 25 [(1,iL 56),(4,.ptr 0 0),(5,.ptr 1 0),(9,.sl 1 false (List.map (fun(s:yP)=>[str s]) l)),(10,int ↑l.length),(11,int ↑(k+1))] [.box [int 0,int 0,str y28,aK],.box [int 3,int 0,str y28,.aU 2 0 0 1],.aN 0 4 false [[int V.k,int V.n,str V.s,.sl 4 false (iB V.l)]]]) ex s'):Rq 0 141 0 (vw0 l k) ex s':=by
 exact aJ [ki ((k:Int)<l.length),ko (bC.elem [str s]),kp (show(0:Int)<=(k:Int)/\(List.map (fun(s:yP)=>[str s]) l)[Int.toNat (k:Int)]?=some [str s]from(bG hx)),kc [] hF,Qx [int V.k,int V.n,str V.s,AV.sl 4 false (iB V.l)],vV 56,kW 23 (k+1) ↑(k+1)] (aB 25 [1,4,5,9,10,11]) 3 h
theorem aK3(l:List yP)(g:Nat)(cs:List CV)(k:Nat)(s:yP)(V:CV)(hl:l.length<=1000000)(hk:(k:Int)<(l.length:Int))(hx:l[k]?=some s)(hF:Cq 56 [str s] (val V))(hc:cs.length<=1000000)(ex:bF)(s':St)(h:Rq 0 141 0 (sM 25 [(1,iL 56),(4,.ptr 0 0),(5,.ptr 1 0),(9,.sl 1 false (List.map (fun(s:yP)=>[str s]) l)),(10,int ↑l.length),(11,int ↑(k+1))] [.box [int 0,int 0,str y28,aK],.box [int 3,int 0,str y28,.aU 2 (g+1) 0 (length cs+1)],.aN (g+1) 4 false (iB cs++[[int V.k,int V.n,str V.s,.sl 4 false (iB V.l)]])]) ex s'):Rq 0 141 0 (vw1 l g cs k) ex s':=by
 exact aJ [ki ((k:Int)<l.length),ko (bC.elem [str s]),kp (show(0:Int)<=(k:Int)/\(List.map (fun(s:yP)=>[str s]) l)[Int.toNat (k:Int)]?=some [str s]from(bG hx)),kc [] hF,kq g,kp (Go.yU.fA cs).symm,vV ((length cs+1)*56),kW 23 (k+1) ↑(k+1)] (aB 25 [1,4,5,9,10,11]) 3 h
theorem aK4(l:List yP)(cs:List CV)(hL:Rq 0 141 0 (vw0 l 0) (.exit 0) (vwX [.box azK,.box [int 3,int 0,str .empty,.sl 4 false (iB cs)]]))(h:True):Cq 141 [sA l,aMk] (rR 3 0 y28 cs):=by
 have _:=h;exact aj [kc [] (@aw6 ),kv 10 (show Am.aF (int (↑(length (List.map (fun(s:yP)=>[str s]) l)):Int)) (int ↑l.length)from(aF.of_eq (by simp only[y10]))),kl (rG [(0,1),(2,2),(6,3),(12,13)]) 2 hL]
def vs0(f:FD)(l:List yP)(k:Nat):St:={ aL:=aC 25 [(1,aMl),(4,.ptr 1 0),(5,.ptr 2 0),(9,sA l),(10,int l.length),(11,int k)],H:=[.box (jB f),.box azK,.box azL] }
def vs1(f:FD)(l:List yP)(g:Nat)(cs:List CV)(k:Nat):St:={ aL:=aC 25 [(1,aMl),(4,.ptr 1 0),(5,.ptr 2 0),(9,sA l),(10,int l.length),(11,int k)],H:=[.box (jB f),.box azK,.box [int 3,int 0,str .empty,.aU 3 g 0 cs.length],.aN g 4 false (iB cs)] }
abbrev vsX(H:List ah):St:={ aL:=aC 25 [(4,.ptr 1 0),(5,.ptr 2 0)],H:=H }
theorem aI7(f:FD)(l:List yP)(k:Nat)(hk:¬(k:Int)<(l.length:Int))(h:True):Rq 1 141 0 (vs0 f l k) (bF.exit 0) (vsX [ah.box (jB f),ah.box azK,ah.box azL]):=by
 have _:=h;exact aG [kj ((k:Int)<l.length)] (aB 25 [4,5]) 3
theorem aK5(f:FD)(l:List yP)(g:Nat)(cs:List CV)(k:Nat)(hk:¬(k:Int)<(l.length:Int))(h:True):Rq 1 141 0 (vs1 f l g cs k) (bF.exit 0) (vsX [ah.box (jB f),ah.box azK,ah.box [int 3,int 0,str y28,AV.aU 3 g 0 cs.length],ah.aN g 4 false (iB cs)]):=by
 have _:=h;exact aG [kj ((k:Int)<l.length)] (aB 25 [4,5]) 4
theorem aI8(f:FD)(l:List yP)(k:Nat)(s:yP)(V:CV)(hl:l.length<=1000000)(hk:(k:Int)<(l.length:Int))(hx:l[k]?=some s)(hF:ak P G 145 [str s,.ptr 0 0] [.box (jB f)] (.ret (val V)) [.box (jB f)])(ex:bF)(s':St)(h:Rq 1 141 0 (sM 25 [(1,.fn (Fn.func 145) [] [.ptr 0 0]),(4,.ptr 1 0),(5,.ptr 2 0),(9,.sl 1 false (List.map (fun(s:yP)=>[str s]) l)),(10,int ↑l.length),(11,int ↑(k+1))] [.box [int f.pk,str f.pn,.sl 9 false (Sq.au f.ce),.sl 5 false (Bd.au f.bi),.sl 3 false (lH f.ta),.sl 9 false (Sq.au f.tc),.sl 11 false (Tx.au f.tm)],.box [int 0,int 0,str y28,aK],.box [int 3,int 0,str y28,.aU 3 0 0 1],.aN 0 4 false [[int V.k,int V.n,str V.s,.sl 4 false (iB V.l)]]]) ex s'):Rq 1 141 0 (vs0 f l k) ex s':=by
 exact aJ [ki ((k:Int)<l.length),ko (bC.elem [str s]),kp (show(0:Int)<=(k:Int)/\(List.map (fun(s:yP)=>[str s]) l)[Int.toNat (k:Int)]?=some [str s]from(bG hx)),kc [0] hF,Qx [int V.k,int V.n,str V.s,AV.sl 4 false (iB V.l)],vV 56,kW 23 (k+1) ↑(k+1)] (aB 25 [1,4,5,9,10,11]) 4 h
theorem aK6(f:FD)(l:List yP)(g:Nat)(cs:List CV)(k:Nat)(s:yP)(V:CV)(hl:l.length<=1000000)(hk:(k:Int)<(l.length:Int))(hx:l[k]?=some s)(hF:ak P G 145 [str s,.ptr 0 0] [.box (jB f)] (.ret (val V)) [.box (jB f)])(hc:cs.length<=1000000)(ex:bF)(s':St)(h:Rq 1 141 0 (sM 25 [(1,.fn (Fn.func 145) [] [.ptr 0 0]),(4,.ptr 1 0),(5,.ptr 2 0),(9,.sl 1 false (List.map (fun(s:yP)=>[str s]) l)),(10,int ↑l.length),(11,int ↑(k+1))] [.box [int f.pk,str f.pn,.sl 9 false (Sq.au f.ce),.sl 5 false (Bd.au f.bi),.sl 3 false (lH f.ta),.sl 9 false (Sq.au f.tc),.sl 11 false (Tx.au f.tm)],.box [int 0,int 0,str y28,aK],.box [int 3,int 0,str y28,.aU 3 (g+1) 0 (length cs+1)],.aN (g+1) 4 false (iB cs++[[int V.k,int V.n,str V.s,.sl 4 false (iB V.l)]])]) ex s'):Rq 1 141 0 (vs1 f l g cs k) ex s':=by
 exact aJ [ki ((k:Int)<l.length),ko (bC.elem [str s]),kp (show(0:Int)<=(k:Int)/\(List.map (fun(s:yP)=>[str s]) l)[Int.toNat (k:Int)]?=some [str s]from(bG hx)),kc [0] hF,kq g,kp (Go.yU.fA cs).symm,vV ((length cs+1)*56),kW 23 (k+1) ↑(k+1)] (aB 25 [1,4,5,9,10,11]) 4 h
theorem aK7(f:FD)(l:List yP)(cs:List CV)(hL:Rq 1 141 0 (vs0 f l 0) (.exit 0) (vsX [.box (jB f),.box azK,.box [int 3,int 0,str .empty,.sl 4 false (iB cs)]]))(h:True):ak P G 141 [sA l,aMl] [ah.box (jB f)] (aS.ret (rR 3 0 y28 cs)) [ah.box (jB f)]:=by
 have _:=h;exact aj [kc [] (@aw6 ),kv 10 (show Am.aF (int (↑(length (List.map (fun(s:yP)=>[str s]) l)):Int)) (int ↑l.length)from(aF.of_eq (by simp only[y10]))),kl (rG [(0,1),(2,2),(6,3),(12,13)]) 3 hL]
theorem aK8(b:BE)(h:True):Cq 147 [.agg (Bd.aQ b)] (rR 2 0 b.vl []):=by
 have _:=h;exact aj [kc [] (@aCH b.vl)]
theorem aK9(f:FD)(s:yP)(vs:List BE)(hV:Cq 33 [Bd.iK f.bi,str s] (Bd.iK vs))(hA:Cq 146 [Bd.iK vs,gP 147] (val (lsV (vs.map fun b=>wdV b.vl))))(h:True):ak P G 145 [str s,.ptr 0 0] [ah.box (jB f)] (aS.ret (val (lsV [wdV s,lsV (List.map (fun(b:BE)=>wdV b.vl) vs)]))) [ah.box (jB f)]:=by
 have _:=h;exact aj [kc [] (@aCH (s)),kc [] hV,kc [] hA,kc [] (@azf (true) ([[int 2,int 0,str s,AV.sl 4 false []],[int (CV.k (lsV (List.map (fun(b:BE)=>wdV b.vl) vs))),int (CV.n (lsV (List.map (fun(b:BE)=>wdV b.vl) vs))),str (CV.s (lsV (List.map (fun(b:BE)=>wdV b.vl) vs))),AV.sl 4 false (iB (CV.l (lsV (List.map (fun(b:BE)=>wdV b.vl) vs))))]]))]
theorem aLa(f:FD)(h1:f.pk=1)(ks:List yP)(V:CV)(hV:Cq 142 [Sq.bZ f.ce] (sA ks))(hA:Cq 141 [sA ks,aMk] (val V))(h:True):Cq 54 [.agg (jB f)] (.bq [val V,int 0]):=by
 have _:=h;exact aj [kt (show(f.pk==1)=true from(qT zO)),kc [] hV,kc [] hA]
theorem aLb(f:FD)(h1:f.pk=3)(n e:Int)(hV:Cq 32 [mF f.ta] (.bq [int n,int e]))(h:True):Cq 54 [.agg (jB f)] (.bq [rR 1 n y28 [],int e]):=by
 have _:=h;exact aj [kf (show(f.pk==1)=false from(qF zO)),kt (show(f.pk==3)=true from(qT zO)),kc [] hV,kc [] (@aGr (n))]
theorem aLc(f:FD)(h1:f.pk=4)(V:CV)(e:Int)(hV:Cq 143 [Tx.mG (Gb f)] (.bq [val V,int e]))(h:True):Cq 54 [.agg (jB f)] (.bq [val V,int e]):=by
 have _:=h;exact aj [kf (show(f.pk==1)=false from(qF zO)),kf (show(f.pk==3)=false from(qF zO)),kt (show(f.pk==4)=true from(qT zO)),kc [] hV]
theorem aLd(f:FD)(h1:f.pk=2)(ks:List yP)(V:CV)(hV:Cq 144 [Bd.iK f.bi] (sA ks))(hA:ak P G 141 [sA ks,aMl] [.box (jB f)] (.ret (val V)) [.box (jB f)])(h:True):Cq 54 [.agg (jB f)] (.bq [val V,int 0]):=by
 have _:=h;exact aj [kf (show(f.pk==1)=false from(qF zO)),kf (show(f.pk==3)=false from(qF zO)),kf (show(f.pk==4)=false from(qF zO)),kc [] hV,kc [0] hA]
abbrev rdB(d:DO):ah:=.box [bB d.sn,Md d.fs]
def rr0(d:DO)(k:Nat):St:={ aL:=aC 50 [(2,.ptr 1 0),(17,Md d.fs),(18,int d.fs.length),(19,int k)],H:=[rdB d,.box azL] }
def rr1(d:DO)(g:Nat)(cs:List CV)(k:Nat):St:={ aL:=aC 50 [(2,.ptr 1 0),(17,Md d.fs),(18,int d.fs.length),(19,int k)],H:=[rdB d,.box [int 3,int 0,str .empty,.aU 4 g 0 cs.length],.aH,.aH,.aN g 4 false (iB cs)] }
theorem aI9(d:DO)(k:Nat)(hk:¬(k:Int)<(d.fs.length:Int))(h:True):Rq 0 15 0 (rr0 d k) (bF.exit 0) (sM 50 [(2,.ptr 1 0)] [rdB d,.box azL]):=by
 have _:=h;exact aG [kj ((k:Int)<(↑(length d.fs):Int))] (aB 50 [2]) 2
theorem aLe(d:DO)(g:Nat)(cs:List CV)(k:Nat)(hk:¬(k:Int)<(d.fs.length:Int))(h:True):Rq 0 15 0 (rr1 d g cs k) (bF.exit 0) (sM 50 [(2,.ptr 1 0)] [rdB d,.box [int 3,int 0,str y28,.aU 4 g 0 cs.length],.aH,.aH,.aN g 4 false (iB cs)]):=by
 have _:=h;exact aG [kj ((k:Int)<(↑(length d.fs):Int))] (aB 50 [2]) 5
theorem aJa(d:DO)(k:Nat)(x:FD)(V:CV)(hl:d.fs.length<=1000000)(hk:(k:Int)<(d.fs.length:Int))(hx:d.fs[k]?=some x)(hS:Cq 54 [.agg (jB x)] (.bq [val V,int 0]))(ex:bF)(s':St)(h:Rq 0 15 0 (sM 50 [(2,.ptr 1 0),(17,.sl 7 false (dA d.fs)),(18,int ↑(length d.fs)),(19,int ↑(k+1))] [.box [bB d.sn,.sl 7 false (dA d.fs)],.box [int 3,int 0,str y28,.aU 4 0 0 1],.box [int x.pk,str x.pn,.sl 9 false (Sq.au x.ce),.sl 5 false (Bd.au x.bi),.sl 3 false (lH x.ta),.sl 9 false (Sq.au x.tc),.sl 11 false (Tx.au x.tm)],.box [int V.k,int V.n,str V.s,.sl 4 false (iB V.l)],.aN 0 4 false [[int 3,int 0,str y28,.sl 4 false [[int 1,int x.pk,str y28,.sl 4 false []],[int 2,int 0,str x.pn,.sl 4 false []],[int V.k,int V.n,str V.s,.sl 4 false (iB V.l)]]]]]) ex s'):Rq 0 15 0 (rr0 d k) ex s':=by
 exact aJ [ki ((k:Int)<(↑(length d.fs):Int)),ke (jB x) (dA d.fs) k (bG hx),kc [] hS,kY,kc [] (@aGr x.pk),kc [] (@aCH x.pn),kc [] (@azf (true) ([[int 1,int x.pk,str y28,AV.sl 4 false []],[int 2,int 0,str x.pn,AV.sl 4 false []],[int V.k,int V.n,str V.s,AV.sl 4 false (iB V.l)]])),Qx [int 3,int 0,str y28,AV.sl 4 false [[int 1,int x.pk,str y28,AV.sl 4 false []],[int 2,int 0,str x.pn,AV.sl 4 false []],[int V.k,int V.n,str V.s,AV.sl 4 false (iB V.l)]]],vV 56,kW 48 (k+1) ↑(k+1)] (aB 50 [2,17,18,19]) 5 h
theorem aLf(d:DO)(g:Nat)(cs:List CV)(k:Nat)(x:FD)(V:CV)(hl:d.fs.length<=1000000)(hk:(k:Int)<(d.fs.length:Int))(hx:d.fs[k]?=some x)(hS:Cq 54 [.agg (jB x)] (.bq [val V,int 0]))(hc:cs.length<=1000000)(ex:bF)(s':St)(h:((∀(x_1:List AV),x_1∈iB cs++[[int 3,int 0,str y28,AV.sl 4 false [[int 1,int x.pk,str y28,AV.sl 4 false []],[int 2,int 0,str x.pn,AV.sl 4 false []],[int V.k,int V.n,str V.s,AV.sl 4 false (iB V.l)]]]]->AV.gH 5 x_1=true)/\Rq 0 15 0 (sM 50 [(2,.ptr 1 0),(17,.sl 7 false (dA d.fs)),(18,int ↑(length d.fs)),(19,int ↑(k+1))] [.box [bB d.sn,.sl 7 false (dA d.fs)],.box [int 3,int 0,str y28,.aU 4 (g+1) 0 (length cs+1)],.aH,.aH,.aN (g+1) 4 false (iB cs++[[int 3,int 0,str y28,.sl 4 false [[int 1,int x.pk,str y28,.sl 4 false []],[int 2,int 0,str x.pn,.sl 4 false []],[int V.k,int V.n,str V.s,.sl 4 false (iB V.l)]]]])]) ex s')):Rq 0 15 0 (rr1 d g cs k) ex s':=by
 obtain⟨o2,h⟩:=h;exact aJ [ki ((k:Int)<(↑(length d.fs):Int)),ke (jB x) (dA d.fs) k (bG hx),kc [] hS,kY,kc [] (@aGr x.pk),kc [] (@aCH x.pn),kc [] (@azf (true) ([[int 1,int x.pk,str y28,AV.sl 4 false []],[int 2,int 0,str x.pn,AV.sl 4 false []],[int V.k,int V.n,str V.s,AV.sl 4 false (iB V.l)]])),kq g,kp (Go.yU.fA cs).symm,vV ((length cs+1)*56),kW 48 (k+1) ↑(k+1),kp o2] (aB 50 [2,17,18,19]) 5 h
theorem aLg(d:DO)(cs:List CV)(hK:Cq 17 [kI d] (int 0))(hL:Rq 0 15 0 (rr0 d 0) (.exit 0) { aL:=aC 50 [(2,.ptr 1 0)],H:=[rdB d,.box [int 3,int 0,str .empty,.sl 4 false (iB cs)]] })(h:True):Cq 15 [kI d] (.bq [rR 3 0 y28 cs,int 0]):=by
 have _:=h;exact aj [kc [] hK,kY,kc [] (@aw6 ),kN 18 (fE d.fs),kl (rG [(0,2),(3,14),(20,30)]) 2 hL]
theorem aLh(d:DO)(e:Int)(he:¬e=0)(hK:Cq 17 [kI d] (int e))(h:True):Cq 15 [kI d] (.bq [.agg azK,int e]):=by
 have _:=h;exact aj [kc [] hK,kt (show(e != 0)=true from(y27 (qF zO)))]
end Go.Dc
namespace Go.Dc
open Go Go.Am Go.Proofs Go.eY Go.bH
theorem aJb(d s:Int)(b:Bool)(h:(((d>=0)->(((d<512)->(((s>=1)->(decide (s<=1048576))=(b))/\((¬s>=1)->(false)=(b))))/\((¬d<512)->(false)=(b))))/\((¬d>=0)->(false)=(b)))):Cq 227 [int d,int s] (Am.bool b):=by
 by_cases c1:(d>=0)
 .have h:=h.1 c1;by_cases c2:(d<512)
  .have h:=h.1 c2;by_cases c3:(s>=1)
   .have h:=h.1 c3;exact aA (aF.aI h) [kt (qT c1),kt (qT c2),kt (qT c3)]
   .have h:=h.2 c3;exact aA (aF.aI h) [kt (qT c1),kt (qT c2),kf (qF c3)]
  .have h:=h.2 c2;exact aA (aF.aI h) [kt (qT c1),kf (qF c2),kY]
 .have h:=h.2 c1;exact aA (aF.aI h) [kf (qF c1),kY,kY]
def qtS(l:List TL)(k:Nat):St:={ aL:=aC 40 [(0,mF l),(2,int 0),(3,int k)],H:=[] }
theorem aJc(l:List TL)(k:Nat)(hk:¬(k:Int)<(l.length:Int))(h:True):Rq 0 170 0 (qtS l k) (bF.exit 0) (sM 40 [(0,mF l),(2,int 0)] []):=by
 have _:=h;exact aG [kN 6 (dP l),kj ((k:Int)<l.length)] (aB 40 [0,2]) 0
theorem aJd(l:List TL)(k:Nat)(x:TL)(hl:l.length<=1000000)(hk:(k:Int)<(l.length:Int))(hx:l[k]?=some x)(hD:Cq 227 [int x.1,int x.2.1] (Am.bool false))(h:True):Rq 0 170 0 (qtS l k) bF.ret (sM 40 [(0,mF l),(2,int 150)] []):=by
 have jw:(0:Int)<=(k:Int)/\(lH l)[Int.toNat (k:Int)]?=some (ze x):=(bG hx);have _:=h;exact aG [kN 6 (dP l),ki ((k:Int)<l.length),ko (bC.elem (ze x)),ko (bC.elem (ze x)),kp jw,kp jw,kc [] hD,kO,kO] (aB 40 [0,2]) 0
theorem aLi(l:List TL)(x:TL)(hl:l.length<=1000000)(hk:(0:Int)<(l.length:Int))(hx:l[0]?=some x)(hD:Cq 227 [int x.1,int x.2.1] (Am.bool true))(ex:bF)(s':St)(h:Rq 0 170 0 (sM 40 [(0,.sl 3 false (lH l)),(2,int 0),(3,int 1)] []) ex s'):Rq 0 170 0 (qtS l 0) ex s':=by
 have jw:(0:Int)<=(0:Int)/\(lH l)[Int.toNat (0:Int)]?=some (ze x):=(bG hx);exact aJ [kN 6 (dP l),ki ((0:Int)<l.length),ko (bC.elem (ze x)),ko (bC.elem (ze x)),kp jw,kp jw,kc [] hD,kY,kY,kY] (aB 40 [0,2,3]) 0 h
theorem aLj(l:List TL)(k:Nat)(x y:TL)(hl:l.length<=1000000)(hk:((k+1:Nat):Int)<(l.length:Int))(hx:l[k+1]?=some x)(hy:l[k]?=some y)(hD:Cq 227 [int x.1,int x.2.1] (Am.bool true))(ex:bF)(s':St)(h:(∃x3:TL,((0:Int)<=(↑(k+1):Int)-1/\l[Int.toNat ((↑(k+1):Int)-1)]?=some x3)/\(((x3.1>=x.1)->(bF.ret=ex)/\(sM 40 [(0,.sl 3 false (lH l)),(2,int 150)] []=s'))/\((¬x3.1>=x.1)->Rq 0 170 0 (sM 40 [(0,.sl 3 false (lH l)),(2,int 0),(3,int ↑(k+1+1))] []) ex s')))):Rq 0 170 0 (qtS l (k+1)) ex s':=by
 have jw:(0:Int)<=(↑(k+1):Int)/\(lH l)[Int.toNat (↑(k+1):Int)]?=some (ze x):=(bG hx);obtain⟨x3,o4,h⟩:=h;let l1:List fP:=[kN 6 (dP l),ki ((↑(k+1):Int)<(l.length:Int)),ko (bC.elem (ze x)),ko (bC.elem (ze x)),kp jw,kp jw,kc [] hD,kY,ki ((↑(k+1):Int)>0),kW 28 ((↑(k+1):Int)-1) ((↑(k+1):Int)-1),ko (bC.elem (ze x3)),ko (bC.elem (ze x)),kp (show(0:Int)<=(↑(k+1):Int)-1/\(lH l)[Int.toNat ((↑(k+1):Int)-1)]?=some (ze x3)from(qU o4)),kp jw];by_cases c5:(x3.1>=x.1)
 .have h:=h.1 c5;obtain⟨eX,eS⟩:=h;exact bN.to ((show Rq 0 170 0 (qtS l (k+1)) bF.ret (sM 40 [(0,.sl 3 false (lH l)),(2,int 150)] [])from aG (l1++[kt (qT c5)]) (aB 40 [0,2]) 0)) eX (eB.of_eq eS)
 .have h:=h.2 c5;exact aJ (l1++[kf (qF c5),kW 9 ((↑(k+1):Int)+1) (↑(k+1+1):Int)]) (aB 40 [0,2,3]) 0 h
theorem aLk(l:List TL)(hL:Rq 0 170 0 (qtS l 0) (.exit 0) { aL:=aC 40 [(0,mF l),(2,int 0)],H:=[] })(h:True):Cq 170 [mF l] (int 0):=by
 have _:=h;exact aj [kl (rG [(1,1),(4,36)]) 0 hL]
theorem aLl(l:List TL)(hL:Rq 0 170 0 (qtS l 0) .ret { aL:=aC 40 [(0,mF l),(2,int 150)],H:=[] })(h:True):Cq 170 [mF l] (int 150):=by
 have _:=h;exact aj [kl (rG [(1,1),(4,36)]) 0 hL]
theorem aEl(a b c:Int)(h:True):Cq 252 [.agg [int a,int b,int c]] (eG (a,b)):=by
 have _:=h;exact aj []
def qcS(l:List Sq.CE)(v:List D)(k:Nat):St:={ aL:=aC 21 [(0,Sq.bZ l),(1,bB v),(4,Am.bool false),(5,int k)],H:=[] }
def qcX(l:List Sq.CE)(v:List D):St:={ aL:=aC 21 [(0,Sq.bZ l),(1,bB v),(4,Am.bool false)],H:=[] }
theorem aLm(l:List Sq.CE)(v:List D)(k:Nat)(hk:¬(k:Int)<(l.length:Int))(h:True):Rq 0 168 0 (qcS l v k) (bF.exit 0) (qcX l v):=by
 have _:=h;exact aG [kv 8 (show Am.aF (int (↑(length (Sq.au l)):Int)) (int ↑l.length)from(aF.of_eq (by simp only[Go.Sq.ay]))),kj ((k:Int)<l.length)] (aB 21 [0,1,4]) 0
theorem aLn(l:List Sq.CE)(v:List D)(k:Nat)(x:Sq.CE)(hl:l.length<=1000000)(hk:(k:Int)<(l.length:Int))(hx:l[k]?=some x)(hd:Cq 252 [.agg [int x.dv,int x.sq,int x.gU]] (eG (x.dv,x.sq)))(hC:Cq 48 [bB v,eG (x.dv,x.sq)] (Am.bool true))(ex:bF)(s':St)(h:Rq 0 168 0 (sM 21 [(0,.sl 9 false (Sq.au l)),(1,bB v),(4,Am.bool false),(5,int ↑(k+1))] []) ex s'):Rq 0 168 0 (qcS l v k) ex s':=by
 exact aJ [kv 8 (show Am.aF (int (↑(length (Sq.au l)):Int)) (int ↑l.length)from(aF.of_eq (by simp only[Go.Sq.ay]))),ki ((k:Int)<l.length),ke (Sq.aQ x) (Sq.au l) k (bG hx),kc [] hd,kc [] hC,kY,kW 11 (k+1) ↑(k+1)] (aB 21 [0,1,4,5]) 0 h
theorem aLo(l:List Sq.CE)(v:List D)(k:Nat)(x:Sq.CE)(hl:l.length<=1000000)(hk:(k:Int)<(l.length:Int))(hx:l[k]?=some x)(hd:Cq 252 [.agg [int x.dv,int x.sq,int x.gU]] (eG (x.dv,x.sq)))(hC:Cq 48 [bB v,eG (x.dv,x.sq)] (Am.bool false))(h:True):Rq 0 168 0 (qcS l v k) bF.ret (qcX l v):=by
 have _:=h;exact aG [kv 8 (show Am.aF (int (↑(length (Sq.au l)):Int)) (int ↑l.length)from(aF.of_eq (by simp only[Go.Sq.ay]))),ki ((k:Int)<l.length),ke (Sq.aQ x) (Sq.au l) k (bG hx),kc [] hd,kc [] hC,kO] (aB 21 [0,1,4]) 0
theorem aLp(l:List Sq.CE)(v:List D)(hL:Rq 0 168 0 (qcS l v 0) (.exit 0) (qcX l v))(h:True):Cq 168 [Sq.bZ l,bB v] (Am.bool true):=by
 have _:=h;exact aj [kl (rG [(2,2),(6,15)]) 0 hL]
theorem aLq(l:List Sq.CE)(v:List D)(hL:Rq 0 168 0 (qcS l v 0) .ret (qcX l v))(h:True):Cq 168 [Sq.bZ l,bB v] (Am.bool false):=by
 have _:=h;exact aj [kl (rG [(2,2),(6,15)]) 0 hL]
theorem aLr(f:FD)(b:Bool)(h:((((↑(length f.tc):Int)=0)->((↑(length f.tm):Int)==0)=(b))/\((¬(↑(length f.tc):Int)=0)->(false)=(b)))):Cq 166 [.agg [Sq.bZ f.tc,Tx.oI f.tm]] (Am.bool b):=by
 have bS:Am.aF (int (↑(length (Sq.au f.tc)):Int)) (int ↑(length f.tc)):=(aF.of_eq (by simp only[Go.Sq.ay]));by_cases c1:((↑(length f.tc):Int)=0)
 .have h:=h.1 c1;exact aA (aF.aI h) [kv 5 bS,kt (nW.2 c1),kv 10 (show Am.aF (int (↑(length (Tx.au f.tm)):Int)) (int ↑(length f.tm))from(aF.of_eq (by simp only[Go.Tx.ay])))]
 .have h:=h.2 c1;exact aA (aF.aI h) [kv 5 bS,kf (qN.2 c1)]
theorem aLs(a b:Int)(s t:yP)(r:Bool)(h:(((a<b)->(true)=(r))/\((¬a<b)->(((a=b)->(Op.bytesLess (ByteArray.toList s) (ByteArray.toList t))=(r))/\((¬a=b)->(false)=(r)))))):Cq 51 [pt a s,pt b t] (Am.bool r):=by
 by_cases c1:(a<b)
 .have h:=h.1 c1;exact aA (aF.aI h) [kt (qT c1)]
 .have h:=h.2 c1;by_cases c2:(a=b)
  .have h:=h.1 c2;exact aA (aF.aI h) [kf (qF c1),kt (nW.2 c2)]
  .have h:=h.2 c2;exact aA (aF.aI h) [kf (qF c1),kf (qN.2 c2)]
theorem aGe(d s:Int):Cq 227 [int d,int s] (Am.bool (Tf d s)):=aJb d s _ (by unfold Tf;grind)
abbrev qtX(l:List TL)(b:Bool):St:={ aL:=aC 40 [(0,mF l),(2,int (if b=true then 0 else 150))],H:=[] }
theorem aFz(l:List TL)(hl:l.length<=1000000):∀n k y,l.length-(k+1)=n->k<l.length->l[k]?=some y->Rq 0 170 0 (qtS l (k+1)) (if Xg y.1 (l.drop (k+1))=true then .exit 0 else .ret) (qtX l (Xg y.1 (l.drop (k+1)))):=by
 intro n
 induction n with
 |zero =>
  intro k y hn hk hy;rw[y17 zO];exact aJc l (k+1) zO trivial
 |succ n ih =>
  intro k y hn hk hy;have h1:k+1<l.length:=zO
  have hx:=yA h1;have hD:=aGe l[k+1].1 l[k+1].2.1;rw[y01 h1,Xg];cases hb:Tf l[k+1].1 l[k+1].2.1 with
  |false =>
   rw[hb]at hD;exact aJd l (k+1) _ hl zO hx hD trivial
  |true =>
   rw[hb]at hD;refine aLj l k _ y hl zO hx hy hD _ _ ⟨y,⟨zO,by rw[show Int.toNat (((k+1:Nat):Int)-1)=k by omega];exact hy⟩,fun h=>?_,fun h=>?_⟩
   .rw [y16 zO];exact⟨rfl,rfl⟩
   .rw [y15 zO,Bool.true_and,Bool.true_and];exact ih (k+1) _ zO h1 hx
theorem aFO(l:List TL)(hl:l.length<=1000000):Cq 170 [mF l] (int (vC l)):=by
 have h:Rq 0 170 0 (qtS l 0) (if Xg (-1) l=true then .exit 0 else .ret) (qtX l (Xg (-1) l)):=by
  cases l with
  |nil=>exact aJc [] 0 zS trivial
  |cons x l =>
   have hD:=aGe x.1 x.2.1;rw[Xg];cases hb:Tf x.1 x.2.1 with
   |false =>
    rw[hb]at hD;exact aJd (x::l) 0 x hl (by rw[yE];omega) rfl hD trivial
   |true =>
    rw[hb]at hD;have h0:0<=x.1:=by unfold Tf at hb;simp only[y04,y05]at hb;exact hb.1.1.1
    rw[y15 zO,Bool.true_and,Bool.true_and];exact aLi (x::l) x hl (by rw[yE];omega) rfl hD _ _ (aFz (x::l) hl _ 0 x rfl zS rfl)
 unfold vC;cases e:Xg (-1) l with
 |true=>rw[e]at h;exact aLk l h trivial
 |false=>rw[e]at h;exact aLl l h trivial
theorem aFA(l:List Sq.CE)(v:List D)(hl:l.length<=1000000)(hv:v.length<=1000000000):∀n k,l.length-k=n->k<=l.length->Rq 0 168 0 (qcS l v k) (if((l.drop k).all fun x=>cZ v (dtc x))=true then .exit 0 else .ret) (qcX l v):=by
 intro n
 induction n with
 |zero =>
  intro k hn hk;rw[y17 zO];exact aLm l v k zO trivial
 |succ n ih =>
  intro k hn hk;have h1:k<l.length:=zO
  have hC:=bH.avU v l[k].dv l[k].sq hv;rw[y01 h1,all_cons];cases hb:cZ v (dtc l[k])with
  |false =>
   rw[show cZ v (l[k].dv,l[k].sq)=false from hb]at hC;exact aLo l v k _ hl zO (yA h1) (aEl _ _ _ yO) hC trivial
  |true =>
   rw[show cZ v (l[k].dv,l[k].sq)=true from hb]at hC;rw[Bool.true_and];exact aLn l v k _ hl zO (yA h1) (aEl _ _ _ yO) hC _ _ (ih (k+1) zO zO)
theorem aBX(l:List Sq.CE)(v:List D)(hl:l.length<=1000000)(hv:v.length<=1000000000):Cq 168 [Sq.bZ l,bB v] (Am.bool (l.all fun x=>cZ v (dtc x))):=by
 have h:=aFA l v hl hv _ 0 rfl yN;rw[drop_zero]at h;cases e:(l.all fun x=>cZ v (dtc x))with
 |true=>rw[e]at h;exact aLp l v h trivial
 |false=>rw[e]at h;exact aLq l v h trivial
theorem aFB(f:FD):Cq 166 [.agg [Sq.bZ f.tc,Tx.oI f.tm]] (Am.bool (decide (f.tc.length+f.tm.length=0))):=aLr f _ ⟨fun h=>by rw[ab6];exact decide_eq_decide.2 zO,fun h=>(y16 zO).symm⟩
theorem aAP(a b:Int)(s t:yP):Cq 51 [pt a s,pt b t] (Am.bool (decide (U7 a b s t<0))):=aLs a b s t _ (by
 have h:=ajG (a:=a) (b:=b) (s:=s) (t:=t);refine⟨fun k=>(y15 (h.2 (.inl k))).symm,fun k=>⟨fun e=>?_,fun e=>?_⟩⟩
 .rw [Bool.eq_iff_iff,y05,h];exact⟨fun q=>.inr ⟨e,q⟩,fun q=>q.elim (fun q=>absurd q k) (·.2)⟩
 .exact (y16 fun q=>(h.1 q).elim k fun q=>e q.1).symm)
theorem aLt(l:List TL)(h:True):ak P G 103 [mF l] [] (aS.ret (AV.fn (Fn.func 202) [] [AV.ptr 0 0])) [ah.box [mF l]]:=by
 have _:=h;exact aj []
theorem aLu(l:List TL):ak P G 103 [mF l] [] (.ret (.fn (.func 202) [] [.ptr 0 0])) [.box [mF l]]:=aLt l trivial
theorem aLv(l:List TL)(e:Int)(he:¬e=0)(hK:Cq 102 [mF l] (int e))(h:True):Cq 32 [mF l] (.bq [int 0,int e]):=by
 have _:=h;exact aj [kc [] hK,kt (show(e != 0)=true from(y27 (qF zO)))]
def aCU:ah:=.iV .ready none (aC 17 [(2,.ptr 2 0)]) #[12] (KP P 32 0) (uT P 32 0)
def aMm(l:List TL)(n:Int):List ah:=[aCU,.box [mF l],.box [int n]]
theorem aLw(l:List TL)(n x:Int)(t:TL)(b:Bool)(H':List ah)(h:(true=b)/\([aCU,ah.box [AV.sl 3 false (lH l)],ah.box [int (IntKind.wrap IntKind.i64 (n+x))],ah.box [int t.1,int (Prod.fst t.2),int (Prod.snd t.2)]]=H')):dY P G 0 [int x] (aMm l n++[ah.box (ze t)]) b H':=by
 obtain⟨e1,e2⟩:=h;exact dY.to ((show dY P G 0 [int x] (aMm l n++[ah.box (ze t)]) true [aCU,ah.box [AV.sl 3 false (lH l)],ah.box [int (IntKind.wrap IntKind.i64 (n+x))],ah.box [int t.1,int (Prod.fst t.2),int (Prod.snd t.2)]]from jI (fun _=>[]) (fun _=>zQ))) e1 e2
def tvS(l:List TL)(n:Int)(k:Nat):St:={ aL:=aC 17 [(0,.yl 0),(5,mF l),(6,int l.length),(7,int k)],H:=aMm l n }
theorem aLx(l:List TL)(n:Int)(k:Nat)(hk:¬(k:Int)<(l.length:Int))(ex:bF)(s':St)(h:(bF.exit 0=ex)/\(sM 17 [] [aCU,.box [.sl 3 false (lH l)],.box [int n]]=s')):Rq 3 202 0 (tvS l n k) ex s':=by
 obtain⟨eX,eS⟩:=h;exact bN.to ((show Rq 3 202 0 (tvS l n k) (bF.exit 0) (sM 17 [] [aCU,.box [.sl 3 false (lH l)],.box [int n]])from aG [kj ((k:Int)<l.length)] (aB 17 []) 3)) eX (eB.of_eq eS)
theorem aLy(l:List TL)(n m:Int)(k:Nat)(x:TL)(hl:l.length<=1000000)(hk:(k:Int)<(l.length:Int))(hx:l[k]?=some x)(hy:dY P G 0 [int x.2.2] (aMm l n++[.box (ze x)]) true (aMm l m++[.box (ze x)]))(ex:bF)(s':St)(h:Rq 3 202 0 (sM 17 [(0,.yl 0),(5,.sl 3 false (lH l)),(6,int ↑l.length),(7,int ↑(k+1))] [aCU,.box [.sl 3 false (lH l)],.box [int m]]) ex s'):Rq 3 202 0 (tvS l n k) ex s':=by
 exact aJ [ki ((k:Int)<l.length),ko (bC.elem (ze x)),ko (bC.call [] (aS.ret (Am.bool true)) (aMm l m++[ah.box (ze x)])),kp (show(0:Int)<=(k:Int)/\(lH l)[Int.toNat (k:Int)]?=some (ze x)from(bG hx)),kp hy,kY,kW 16 (k+1) ↑(k+1)] (aB 17 [0,5,6,7]) 3 h
theorem aLz(l:List TL)(n:Int)(hL:Rq 3 202 0 (tvS l 0 0) (.exit 0) { aL:=aC 17 [],H:=aMm l n })(h:True):ak P G 202 [.yl 0,.ptr 1 0] (aMm l 0) (aS.ret (AV.bq [])) (aMm l n):=by
 have _:=h;exact aj [kN 6 (dP l),kl (rG [(1,4),(8,9)]) 3 hL]
theorem aLA(l:List TL)(n:Int)(hK:Cq 102 [mF l] (int 0))(hA:ak P G 202 [.yl 0,.ptr 1 0] (aMm l 0) (.ret (.bq [])) (aMm l n))(h:True):Cq 32 [mF l] (.bq [int n,int 0]):=by
 have _:=h;exact aj [kc [] hK,kY,kc [] (@aLu (l)),ko (bC.range [0,1,3,4,5,6,7,8,9,10,11,12,13,14,15,16] 0 none bF.normal [] []),kc [3,1,0] hA]
end Go.Dc
namespace Go.Dc
open Go Go.Am Go.Proofs Go.eY Go.bH
open Go.bV (OP)
def aC6:List TL->Int->Int
 |[],n=>n
 |t::l,n=>aC6 l (IntKind.wrap IntKind.i64 (n+t.2.2))
end Go.Dc
namespace Go.Dc
open Go Go.Am Go.Proofs Go.eY Go.bH
theorem aFC{l:List TL}(hl:l.length<=1000000):∀j k n,l.length-k=j->k<=l.length->bN P G none 3 (vg P 202 0) (tvS l n k) (.exit 0) { aL:=aC 17 [],H:=aMm l (aC6 (l.drop k) n) }:=by
 intro j
 induction j with
 |zero =>
  intro k n h1 h2;rw[y17 zO];exact aLx l n k zO _ _ ⟨rfl,rfl⟩
 |succ j ih =>
  intro k n h1 h2;have bg:k<l.length:=zO
  rw[y01 bg];exact aLy l n (IntKind.wrap .i64 (n+l[k].2.2)) k l[k] hl zO (yA bg) (aLw l n l[k].2.2 l[k] true _ ⟨rfl,rfl⟩) _ _ (ih (k+1) _ zO zO)
theorem aG3(l:List TL)(hl:l.length<=1000000):ak P G 32 [mF l] [] (.ret (.bq [int (if vC l=0 then aC6 l 0 else 0),int (vC l)])) []:=by
 have hK:=OA l hl;by_cases h:vC l=0
 .rw [h]at hK;rw[yL h,h];have hL:=aFC hl _ 0 0 rfl yN;rw[drop_zero]at hL;exact aLA l _ hK (aLz l _ hL yO) trivial
 .rw [yK h];exact aLv l _ h hK trivial
end Go.Dc
namespace Go.Bd
open Go Go.Am Go.Proofs Go.eY
def rv(v:List BE)(k:yP)(i:Nat)(l:List BE):St:={ aL:=aC 56 [(0,iK v),(1,str k),(5,iK l),(6,int i)],H:=[] }
def rvI(v:List BE)(k:yP)(i n:Nat)(l:List BE):St:={ aL:=aC 56 [(0,iK v),(1,str k),(5,iK l),(6,int i),(7,int n)],H:=[] }
def rvX(l:List BE):St:={ aL:=aC 56 [(5,iK l)],H:=[] }
theorem aGf(v:List BE)(k:yP)(i n m:Nat)(l:List BE)(x:BE)(hx:v[i]?=some x)(hi:i<v.length)(hv:v.length<=1000000000)(hl:l.length<=1000000000)(ex:bF)(h:((((n:Int)<(l.length:Int))->(∃x2:BE,(l[n]?=some x2)/\((((CS x x2)=true)->(bF.exit 2=ex)/\(((n:Int):Int)=((m:Int))))/\(((CS x x2)=false)->Rq 0 153 1 (sM 56 [(0,.sl 5 false (au v)),(1,str k),(5,.sl 5 false (au l)),(6,int ↑i),(7,int ↑(n+1))] []) ex (rvI v k i m l)))))/\((¬(n:Int)<(l.length:Int))->(bF.exit 2=ex)/\(((n:Int):Int)=((m:Int)))))):Rq 0 153 1 (rvI v k i n l) ex (rvI v k i m l):=by
 have bS:=lU (ay l);by_cases c1:((n:Int)<(l.length:Int))
 .have h:=h.1 c1;obtain⟨x2,o3,h⟩:=h;have x9:=(@aGR (x) (x2));let l1:List fP:=[kv 24 bS,kt (qT c1),ko (bC.elem (aQ x)),ko (bC.elem (aQ x2)),kp (show(0:Int)<=(i:Int)/\(au v)[Int.toNat (i:Int)]?=some (aQ x)from(bG hx)),kp (show(0:Int)<=(n:Int)/\(au l)[Int.toNat (n:Int)]?=some (aQ x2)from(bG o3)),kc [] x9];rcases y00 ((CS x x2))with c4|c4
  .have h:=h.1 c4;obtain⟨eX,e1⟩:=h;exact bN.to ((show Rq 0 153 1 (rvI v k i n l) (bF.exit 2) (sM 56 [(0,.sl 5 false (au v)),(1,str k),(5,.sl 5 false (au l)),(6,int ↑i),(7,int ↑n)] [])from aG (l1++[kf (show(!CS x x2)=false from(y27 (c4)))]) (aB 56 [0,1,5,6,7]) 0)) eX (eB.aC ⟨rfl,y29,rfl,y29,rfl,y29,rfl,y29,rfl,(aF.int_eq e1),yO⟩)
  .have h:=h.2 c4;exact aJ (l1++[kt (show(!CS x x2)=true from(y27 (c4))),kW 39 (n+1) ↑(n+1)]) (aB 56 [0,1,5,6,7]) 0 h
 .have h:=h.2 c1;obtain⟨eX,e1⟩:=h;exact bN.to ((show Rq 0 153 1 (rvI v k i n l) (bF.exit 2) (sM 56 [(0,.sl 5 false (au v)),(1,str k),(5,.sl 5 false (au l)),(6,int ↑i),(7,int ↑n)] [])from aG [kv 24 bS,kf (qF c1),kY] (aB 56 [0,1,5,6,7]) 0)) eX (eB.aC ⟨rfl,y29,rfl,y29,rfl,y29,rfl,y29,rfl,(aF.int_eq e1),yO⟩)
theorem aLB(v:List BE)(k:yP)(i:Nat)(l:List BE)(x:BE)(hv:v.length<=1000000000)(hi:(i:Int)<(v.length:Int))(hx:v[i]?=some x)(hq:(ByteArray.toList x.ky==ByteArray.toList k)=false)(ex:bF)(s:St)(h:Rq 0 153 0 (sM 56 [(0,.sl 5 false (au v)),(1,str k),(5,.sl 5 false (au l)),(6,int ↑(i+1))] []) ex s):Rq 0 153 0 (rv v k i l) ex s:=by
 exact aJ [kN 11 (ay v),ki ((i:Int)<v.length),ke (aQ x) (au v) i (bG hx),kt (show(!ByteArray.toList x.ky==ByteArray.toList k)=true from(y27 (hq))),kW 14 (i+1) ↑(i+1)] (aB 56 [0,1,5,6]) 0 h
theorem aLC(v:List BE)(k:yP)(i:Nat)(l:List BE)(hi:¬(i:Int)<(v.length:Int))(h:True):Rq 0 153 0 (rv v k i l) (bF.exit 0) (rvX l):=by
 have _:=h;exact aG [kN 11 (ay v),kj ((i:Int)<v.length)] (aB 56 [5]) 0
theorem aLD(v:List BE)(k:yP)(i n:Nat)(l:List BE)(x:BE)(hv:v.length<=1000000000)(hi:(i:Int)<(v.length:Int))(hx:v[i]?=some x)(hq:(ByteArray.toList x.ky==ByteArray.toList k)=true)(hl:l.length<=1000000000)(hn:n<=l.length)(hM:Rq 0 153 1 (rvI v k i 0 l) (.exit 2) (rvI v k i n l))(ex:bF)(s:St)(h:(((au (List.take n l)=[])->(((1+length (au (List.drop n l)))*56<=140737488355328)/\Rq 0 153 0 (sM 56 [(0,.sl 5 false (au v)),(1,str k),(5,.aU 0 1 0 (1+length (List.drop n l))),(6,int ↑(i+1))] [.aN 1 5 false ([str x.ky,int x.dv,int x.sq,int x.tm,str x.vl]::au (List.drop n l))]) ex s))/\((¬au (List.take n l)=[])->(((0+length (au (List.take n l)))*56<=140737488355328)/\(((length (List.take n l)+1)*56<=140737488355328)/\(((length (List.take n l)+1+length (au (List.drop n l)))*56<=140737488355328)/\Rq 0 153 0 (sM 56 [(0,.sl 5 false (au v)),(1,str k),(5,.aU 0 2 0 (length (List.take n l)+1+length (List.drop n l))),(6,int ↑(i+1))] [.aN 2 5 false (au (List.take n l)++[[str x.ky,int x.dv,int x.sq,int x.tm,str x.vl]]++au (List.drop n l))]) ex s)))))):Rq 0 153 0 (rv v k i l) ex s:=by
 have jw:(0:Int)<=(i:Int)/\(au v)[Int.toNat (i:Int)]?=some (aQ x):=(bG hx);have OG:(0:Int)<=(0:Int)/\(0:Int)<=(n:Int)/\(n:Int)<=(↑(length (au l)):Int):=(by rw[ay];omega);have M8:0=0:=(rfl);have Pk:1=1:=(rfl);let l1:List fP:=[kN 11 (ay v),ki ((i:Int)<v.length),ko (bC.elem (aQ x)),kp jw,kf (show(!ByteArray.toList x.ky==ByteArray.toList k)=false from(y27 (hq))),kl (rG [(9,4),(15,7)]) 0 hM,kv 43 (show Am.aF (AV.sl 5 false (List.drop 0 (List.take (Int.toNat (n:Int)) (au l)))) (AV.sl 5 false (au (List.take n l)))from(aF.of_eq (by simp only[gF,y26,drop_zero])))];by_cases c2:(au (List.take n l)=[])
 .have h:=h.1 c2;obtain⟨o3,h⟩:=h;exact aJ (l1++[ko (bC.LV),ko (bC.elem (aQ x)),kp OG,kp c2,kp jw,Qx [str x.ky,int x.dv,int x.sq,int x.tm,str x.vl],vV 56,kv 53 (show Am.aF (AV.sl 5 false (List.drop (Int.toNat (n:Int)) (List.take (Int.toNat (↑(length (au l)):Int)) (au l)))) (AV.sl 5 false (au (List.drop n l)))from(aF.of_eq (by simp only[ay,gF,iI,y26,take_length]))),Ga (n:Int) (↑(length (au l)):Int) (↑(length (au l)):Int) (by rw[ay];omega),kv 54 (show Am.aF (AV.aU 0 1 0 (1+length (au (List.drop n l)))) (AV.aU 0 1 0 (1+length (List.drop n l)))from(aF.of_eq (by simp only[ay,y26]))),kp M8,kp Pk,kp o3,kW 14 (i+1) ↑(i+1)]) (aB 56 [0,1,5,6]) 1 h
 .have h:=h.2 c2;obtain⟨o4,h⟩:=h;obtain⟨o5,h⟩:=h;obtain⟨o6,h⟩:=h;exact aJ (l1++[kp OG,kv 44 (show Am.aF (AV.aU 0 0 0 (0+length (au (List.take n l)))) (AV.aU 0 0 0 (length (List.take n l)))from(aF.of_eq (by simp[ay,bJ,bK,dW]))),ko (bC.elem (aQ x)),kp c2,kp o4,kp jw,kp M8,kp (show length (List.take n l)=length (au (List.take n l))from((ay _).symm)),kp o5,kv 53 (show Am.aF (AV.sl 5 false (List.drop (Int.toNat (n:Int)) (List.take (Int.toNat (↑(length (au l)):Int)) (au l)))) (AV.sl 5 false (au (List.drop n l)))from(aF.of_eq (by simp only[ay,gF,iI,y26,take_length]))),Ga (n:Int) (↑(length (au l)):Int) (↑(length (au l)):Int) (by rw[ay];omega),kv 54 (show Am.aF (AV.aU 0 2 0 (length (List.take n l)+1+length (au (List.drop n l)))) (AV.aU 0 2 0 (length (List.take n l)+1+length (List.drop n l)))from(aF.of_eq (by simp only[ay,y26]))),kp Pk,kp (show length (List.take n l)+1=length (au (List.take n l)++[[str x.ky,int x.dv,int x.sq,int x.tm,str x.vl]])from(by simp only[yD,yE,y11,y10,ay,bJ,bK,dW]<;>omega)),kp o6,kW 14 (i+1) ↑(i+1)]) (aB 56 [0,1,5,6]) 1 h
def rk(v:List BE)(i:Nat)(l:List yP):St:={ aL:=aC 64 [(0,iK v),(3,strs l),(4,int i)],H:=[] }
def rkI(v:List BE)(i n:Nat)(l:List yP):St:={ aL:=aC 64 [(0,iK v),(3,strs l),(4,int i),(5,int n)],H:=[] }
def rkX(l:List yP):St:={ aL:=aC 64 [(3,strs l)],H:=[] }
theorem aGg(v:List BE)(i n m:Nat)(l:List yP)(x:BE)(hx:v[i]?=some x)(hi:i<v.length)(hv:v.length<=1000000000)(hl:l.length<=1000000000)(ex:bF)(h:((((n:Int)<(l.length:Int))->(∃x2:yP,(l[n]?=some x2)/\((((Op.bytesLess (ByteArray.toList x2) (ByteArray.toList x.ky))=true)->Rq 0 152 1 (sM 64 [(0,.sl 5 false (au v)),(3,.sl 1 false (zB l)),(4,int ↑i),(5,int ↑(n+1))] []) ex (rkI v i m l))/\(((Op.bytesLess (ByteArray.toList x2) (ByteArray.toList x.ky))=false)->(bF.exit 2=ex)/\(((n:Int):Int)=((m:Int)))))))/\((¬(n:Int)<(l.length:Int))->(bF.exit 2=ex)/\(((n:Int):Int)=((m:Int)))))):Rq 0 152 1 (rkI v i n l) ex (rkI v i m l):=by
 have bS:=lU (vo l);by_cases c1:((n:Int)<(l.length:Int))
 .have h:=h.1 c1;obtain⟨x2,o3,h⟩:=h;let l1:List fP:=[kv 15 bS,kt (qT c1),ko (bC.elem (st1 x2)),ko (bC.elem (aQ x)),kp (show(0:Int)<=(n:Int)/\(zB l)[Int.toNat (n:Int)]?=some (st1 x2)from(bG o3)),kp (show(0:Int)<=(i:Int)/\(au v)[Int.toNat (i:Int)]?=some (aQ x)from(bG hx))];rcases y00 ((Op.bytesLess (ByteArray.toList x2) (ByteArray.toList x.ky)))with c4|c4
  .have h:=h.1 c4;exact aJ (l1++[kt c4,kW 30 (n+1) ↑(n+1)]) (aB 64 [0,3,4,5]) 0 h
  .have h:=h.2 c4;obtain⟨eX,e1⟩:=h;exact bN.to ((show Rq 0 152 1 (rkI v i n l) (bF.exit 2) (sM 64 [(0,.sl 5 false (au v)),(3,.sl 1 false (zB l)),(4,int ↑i),(5,int ↑n)] [])from aG (l1++[kf c4]) (aB 64 [0,3,4,5]) 0)) eX (eB.aC ⟨rfl,y29,rfl,y29,rfl,y29,rfl,(aF.int_eq e1),yO⟩)
 .have h:=h.2 c1;obtain⟨eX,e1⟩:=h;exact bN.to ((show Rq 0 152 1 (rkI v i n l) (bF.exit 2) (sM 64 [(0,.sl 5 false (au v)),(3,.sl 1 false (zB l)),(4,int ↑i),(5,int ↑n)] [])from aG [kv 15 bS,kf (qF c1),kY] (aB 64 [0,3,4,5]) 0)) eX (eB.aC ⟨rfl,y29,rfl,y29,rfl,y29,rfl,(aF.int_eq e1),yO⟩)
theorem aG4(v:List BE)(i:Nat)(l:List yP)(hi:¬(i:Int)<(v.length:Int))(h:True):Rq 0 152 0 (rk v i l) (bF.exit 0) (rkX l):=by
 have _:=h;exact aG [kN 9 (ay v),kj ((i:Int)<v.length)] (aB 64 [3]) 0
theorem aG5(v:List BE)(i n:Nat)(l:List yP)(x:BE)(hv:v.length<=1000000000)(hi:(i:Int)<(v.length:Int))(hx:v[i]?=some x)(hl:l.length<=1000000000)(hn:n<=l.length)(hM:Rq 0 152 1 (rkI v i 0 l) (.exit 2) (rkI v i n l))(ex:bF)(s:St)(h:((((n:Int)=(l.length:Int))->(((zB (List.take n l)=[])->(((1+length (zB (List.drop n l)))*16<=140737488355328)/\Rq 0 152 0 (sM 64 [(0,.sl 5 false (au v)),(3,.aU 0 1 0 (1+length (List.drop n l))),(4,int ↑(i+1))] [.aN 1 1 false ([str x.ky]::zB (List.drop n l))]) ex s))/\((¬zB (List.take n l)=[])->(((0+length (zB (List.take n l)))*16<=140737488355328)/\(((length (List.take n l)+1)*16<=140737488355328)/\(((length (List.take n l)+1+length (zB (List.drop n l)))*16<=140737488355328)/\Rq 0 152 0 (sM 64 [(0,.sl 5 false (au v)),(3,.aU 0 2 0 (length (List.take n l)+1+length (List.drop n l))),(4,int ↑(i+1))] [.aN 2 1 false (zB (List.take n l)++[[str x.ky]]++zB (List.drop n l))]) ex s))))))/\((¬(n:Int)=(l.length:Int))->(∃x8:yP,(l[n]?=some x8)/\((((ByteArray.toList x8==ByteArray.toList x.ky)=true)->Rq 0 152 0 (sM 64 [(0,.sl 5 false (au v)),(3,.sl 1 false (zB l)),(4,int ↑(i+1))] []) ex s)/\(((ByteArray.toList x8==ByteArray.toList x.ky)=false)->(((zB (List.take n l)=[])->(((1+length (zB (List.drop n l)))*16<=140737488355328)/\Rq 0 152 0 (sM 64 [(0,.sl 5 false (au v)),(3,.aU 0 1 0 (1+length (List.drop n l))),(4,int ↑(i+1))] [.aN 1 1 false ([str x.ky]::zB (List.drop n l))]) ex s))/\((¬zB (List.take n l)=[])->(((0+length (zB (List.take n l)))*16<=140737488355328)/\(((length (List.take n l)+1)*16<=140737488355328)/\(((length (List.take n l)+1+length (zB (List.drop n l)))*16<=140737488355328)/\Rq 0 152 0 (sM 64 [(0,.sl 5 false (au v)),(3,.aU 0 2 0 (length (List.take n l)+1+length (List.drop n l))),(4,int ↑(i+1))] [.aN 2 1 false (zB (List.take n l)++[[str x.ky]]++zB (List.drop n l))]) ex s))))))))))):Rq 0 152 0 (rk v i l) ex s:=by
 have OG:(0:Int)<=(i:Int)/\(au v)[Int.toNat (i:Int)]?=some (aQ x):=(bG hx);have M8:0=0:=(rfl);have Pk:1=1:=(rfl);have aal:length (List.take n l)=length (zB (List.take n l)):=((vo _).symm);let l1:List fP:=[kN 9 (ay v),ki ((i:Int)<v.length),kl [7,8,9,10] 0 hM,kN 33 (vo l)];by_cases c2:((n:Int)=(l.length:Int))
 .have h:=h.1 c2;have Av:Am.aF (AV.sl 1 false (List.drop 0 (List.take (Int.toNat (n:Int)) (zB l)))) (AV.sl 1 false (zB (List.take n l))):=(aF.of_eq (by simp only[axk,y26,drop_zero]));have qj:(0:Int)<=(0:Int)/\(0:Int)<=(n:Int)/\(n:Int)<=(↑(length (zB l)):Int):=(by rw[vo];omega);by_cases c3:(zB (List.take n l)=[])
  .have h:=h.1 c3;obtain⟨o4,h⟩:=h;exact aJ (l1++[kt (nW.2 c2),kO,kv 50 Av,ko (bC.LV),ko (bC.elem (aQ x)),kp qj,kp c3,kp OG,Qx [str x.ky],vV 16,kv 61 (show Am.aF (AV.sl 1 false (List.drop (Int.toNat (n:Int)) (List.take (Int.toNat (↑(length (zB l)):Int)) (zB l)))) (AV.sl 1 false (zB (List.drop n l)))from(aF.of_eq (by simp only[vo,axk,aAn,y26,take_length]))),Ga (n:Int) (↑(length (zB l)):Int) (↑(length (zB l)):Int) (by rw[vo];omega),kv 62 (show Am.aF (AV.aU 0 1 0 (1+length (zB (List.drop n l)))) (AV.aU 0 1 0 (1+length (List.drop n l)))from(aF.of_eq (by simp only[vo,y26]))),kp M8,kp Pk,kp o4,kW 12 (i+1) ↑(i+1)]) (aB 64 [0,3,4]) 1 h
  .have h:=h.2 c3;obtain⟨o5,h⟩:=h;obtain⟨o6,h⟩:=h;obtain⟨o7,h⟩:=h;exact aJ (l1++[kt (nW.2 c2),kO,kv 50 Av,kp qj,kv 51 (show Am.aF (AV.aU 0 0 0 (0+length (zB (List.take n l)))) (AV.aU 0 0 0 (length (List.take n l)))from(aF.of_eq (by simp[vo,awv,awo,aw4]))),ko (bC.elem (aQ x)),kp c3,kp o5,kp OG,kp M8,kp aal,kp o6,kv 61 (show Am.aF (AV.sl 1 false (List.drop (Int.toNat (n:Int)) (List.take (Int.toNat (↑(length (zB l)):Int)) (zB l)))) (AV.sl 1 false (zB (List.drop n l)))from(aF.of_eq (by simp only[vo,axk,aAn,y26,take_length]))),Ga (n:Int) (↑(length (zB l)):Int) (↑(length (zB l)):Int) (by rw[vo];omega),kv 62 (show Am.aF (AV.aU 0 2 0 (length (List.take n l)+1+length (zB (List.drop n l)))) (AV.aU 0 2 0 (length (List.take n l)+1+length (List.drop n l)))from(aF.of_eq (by simp only[vo,y26]))),kp Pk,kp (show length (List.take n l)+1=length (zB (List.take n l)++[[str x.ky]])from(by simp only[yD,yE,y11,y10,vo,awv,awo,aw4]<;>omega)),kp o7,kW 12 (i+1) ↑(i+1)]) (aB 64 [0,3,4]) 1 h
 .have h:=h.2 c2;have Av:Am.aF (AV.sl 1 false (List.drop 0 (List.take (Int.toNat (n:Int)) (zB l)))) (AV.sl 1 false (zB (List.take n l))):=(aF.of_eq (by simp only[axk,y26,drop_zero]));have qj:(0:Int)<=(0:Int)/\(0:Int)<=(n:Int)/\(n:Int)<=(↑(length (zB l)):Int):=(by rw[vo];omega);obtain⟨x8,o9,h⟩:=h;let l2:List fP:=l1++[kf (qN.2 c2),ko (bC.elem (st1 x8)),ko (bC.elem (aQ x)),kp (show(0:Int)<=(n:Int)/\(zB l)[Int.toNat (n:Int)]?=some (st1 x8)from(bG o9)),kp OG];rcases y00 ((ByteArray.toList x8==ByteArray.toList x.ky))with G9|G9
  .have h:=h.1 G9;exact aJ (l2++[kf (show(!ByteArray.toList x8==ByteArray.toList x.ky)=false from(y27 (G9))),kW 12 (i+1) ↑(i+1)]) (aB 64 [0,3,4]) 0 h
  .have h:=h.2 G9;have aJe:(!ByteArray.toList x8==ByteArray.toList x.ky)=true:=(y27 (G9));by_cases c11:(zB (List.take n l)=[])
   .have h:=h.1 c11;obtain⟨o12,h⟩:=h;exact aJ (l2++[kt aJe,kv 50 Av,ko (bC.LV),ko (bC.elem (aQ x)),kp qj,kp c11,kp OG,Qx [str x.ky],vV 16,kv 61 (show Am.aF (AV.sl 1 false (List.drop (Int.toNat (n:Int)) (List.take (Int.toNat (↑(length (zB l)):Int)) (zB l)))) (AV.sl 1 false (zB (List.drop n l)))from(aF.of_eq (by simp only[vo,axk,aAn,y26,take_length]))),Ga (n:Int) (↑(length (zB l)):Int) (↑(length (zB l)):Int) (by rw[vo];omega),kv 62 (show Am.aF (AV.aU 0 1 0 (1+length (zB (List.drop n l)))) (AV.aU 0 1 0 (1+length (List.drop n l)))from(aF.of_eq (by simp only[vo,y26]))),kp M8,kp Pk,kp o12,kW 12 (i+1) ↑(i+1)]) (aB 64 [0,3,4]) 1 h
   .have h:=h.2 c11;obtain⟨o13,h⟩:=h;obtain⟨o14,h⟩:=h;obtain⟨o15,h⟩:=h;exact aJ (l2++[kt aJe,kv 50 Av,kp qj,kv 51 (show Am.aF (AV.aU 0 0 0 (0+length (zB (List.take n l)))) (AV.aU 0 0 0 (length (List.take n l)))from(aF.of_eq (by simp[vo,awv,awo,aw4]))),ko (bC.elem (aQ x)),kp c11,kp o13,kp OG,kp M8,kp aal,kp o14,kv 61 (show Am.aF (AV.sl 1 false (List.drop (Int.toNat (n:Int)) (List.take (Int.toNat (↑(length (zB l)):Int)) (zB l)))) (AV.sl 1 false (zB (List.drop n l)))from(aF.of_eq (by simp only[vo,axk,aAn,y26,take_length]))),Ga (n:Int) (↑(length (zB l)):Int) (↑(length (zB l)):Int) (by rw[vo];omega),kv 62 (show Am.aF (AV.aU 0 2 0 (length (List.take n l)+1+length (zB (List.drop n l)))) (AV.aU 0 2 0 (length (List.take n l)+1+length (List.drop n l)))from(aF.of_eq (by simp only[vo,y26]))),kp Pk,kp (show length (List.take n l)+1=length (zB (List.take n l)++[[str x.ky]])from(by simp only[yD,yE,y11,y10,vo,awv,awo,aw4]<;>omega)),kp o15,kW 12 (i+1) ↑(i+1)]) (aB 64 [0,3,4]) 1 h
def rV(x:BE)(l:List BE):Nat:=(l.takeWhile fun a=>!CS x a).length
def az8(x:BE)(l:List BE):List BE:=l.take (rV x l)++[x]++l.drop (rV x l)
def aAf(k:yP):List BE->List BE->List BE
 |l,[]=>l
 |l,x::t=>aAf k (if x.ky=k then az8 x l else l) t
def atD(k:yP)(l:List yP):Nat:=(l.takeWhile fun a=>Dz a k).length
def aAx(k:yP)(l:List yP):List yP:=if l[atD k l]?=some k then l else l.take (atD k l)++[k]++l.drop (atD k l)
def aAC:List yP->List BE->List yP
 |l,[]=>l
 |l,x::t=>aAC (aAx x.ky l) t
theorem Rh(x:BE)(l:List BE):rV x l<=l.length:=(takeWhile_sublist _).length_le
theorem aBs(x:yP)(l:List yP):atD x l<=l.length:=(takeWhile_sublist _).length_le
theorem aBY(x:BE)(l:List BE):(az8 x l).length=l.length+1:=by
 have:=Rh x l;simp[az8];omega
theorem aEm(x:yP)(l:List yP):(aAx x l).length<=l.length+1:=by
 unfold aAx;have:=aBs x l;split
 .omega
 .simp;omega
theorem aEn(v:List BE)(k:yP)(i:Nat)(l:List BE)(hi:i<v.length)(hv:v.length<=1000000000)(hl:l.length<=1000000000):∀n j,l.length-j=n->j<=l.length->Rq 0 153 1 (rvI v k i j l) (.exit 2) (rvI v k i (j+((l.drop j).takeWhile fun a=>!CS v[i] a).length) l):=by
 have hx:v[i]?=some v[i]:=yA hi;intro n
 induction n with
 |zero =>
  intro j hn hk;rw[y14 zO];exact aGf v k i j _ l _ hx hi hv hl _ ⟨fun h=>absurd h zO,fun _=>⟨rfl,zS⟩⟩
 |succ n ih =>
  intro j hn hk;have bg:j<l.length:=zO
  have hy:l[j]?=some l[j]:=yA bg;have nx:=ih (j+1) zO zO;rw[y01 bg,takeWhile_cons];refine aGf v k i j _ l _ hx hi hv hl _ ⟨fun _=>⟨l[j],hy,⟨fun hm=>?_,fun hm=>?_⟩⟩,fun h=>absurd bg zO⟩
  .rw [yK (by rw[hm];decide)];exact⟨rfl,zS⟩
  .rw [yL (by rw[hm];rfl),yE];rw[show j+1+((l.drop (j+1)).takeWhile fun a=>!CS v[i] a).length=j+(((l.drop (j+1)).takeWhile fun a=>!CS v[i] a).length+1) by omega]at nx;exact nx
theorem aEo(v:List BE)(i:Nat)(l:List yP)(hi:i<v.length)(hv:v.length<=1000000000)(hl:l.length<=1000000000):∀n j,l.length-j=n->j<=l.length->Rq 0 152 1 (rkI v i j l) (.exit 2) (rkI v i (j+((l.drop j).takeWhile fun a=>Dz a v[i].ky).length) l):=by
 have hx:v[i]?=some v[i]:=yA hi;intro n
 induction n with
 |zero =>
  intro j hn hk;rw[y14 zO];exact aGg v i j _ l _ hx hi hv hl _ ⟨fun h=>absurd h zO,fun _=>⟨rfl,zS⟩⟩
 |succ n ih =>
  intro j hn hk;have bg:j<l.length:=zO
  have hy:l[j]?=some l[j]:=yA bg;have nx:=ih (j+1) zO zO;rw[y01 bg,takeWhile_cons];refine aGg v i j _ l _ hx hi hv hl _ ⟨fun _=>⟨l[j],hy,⟨fun hm=>?_,fun hm=>?_⟩⟩,fun h=>absurd bg zO⟩
  .rw [yL (show Dz l[j] v[i].ky=true from hm),yE];rw[show j+1+((l.drop (j+1)).takeWhile fun a=>Dz a v[i].ky).length=j+(((l.drop (j+1)).takeWhile fun a=>Dz a v[i].ky).length+1) by omega]at nx;exact nx
  .rw [yK (by unfold Dz;rw[hm];decide)];exact⟨rfl,zS⟩
variable {s':St}{ex:bF}
theorem aGh(v:List BE)(k:yP)(i:Nat)(ys:List BE)(g n:Nat)(xs:List (List AV))(wR:xs=au ys)(hn:n=ys.length)(h:Rq 0 153 0 (rv v k i ys) ex s') :
 Rq 0 153 0 { aL:=aC 56 [(0,iK v),(1,str k),(5,.aU 0 g 0 n),(6,int i)],H:=[.aN g 5 false xs] } ex s':=by
 subst wR hn;refine bN.aui (t:=5) (z:=au ys) (y:=iK ys) (H1:=[.aN g 5 true (au ys)]) (ps:=_) rfl rfl ?_ ?_
 .exact ⟨rfl,dW ys,ay ys,bK ys,yO⟩
 .exact bN.auO [] 0 (s2:=rv v k i ys) (ps:=_) rfl trivial h
theorem aGi(v:List BE)(i:Nat)(ys:List yP)(g n:Nat)(xs:List (List AV))(wR:xs=zB ys)(hn:n=ys.length)(h:Rq 0 152 0 (rk v i ys) ex s') :
 Rq 0 152 0 { aL:=aC 64 [(0,iK v),(3,.aU 0 g 0 n),(4,int i)],H:=[.aN g 1 false xs] } ex s':=by
 subst wR hn;refine bN.aui (t:=3) (z:=zB ys) (y:=strs ys) (H1:=[.aN g 1 true (zB ys)]) (ps:=_) rfl rfl ?_ ?_
 .exact ⟨rfl,aw4 ys,vo ys,awo ys,yO⟩
 .exact bN.auO [] 0 (s2:=rk v i ys) (ps:=_) rfl trivial h
theorem aFD(v:List BE)(k:yP)(hv:v.length<=10000000):∀n i (l:List BE),v.length-i=n->i<=v.length->l.length<=i->Rq 0 153 0 (rv v k i l) (.exit 0) (rvX (aAf k l (v.drop i))):=by
 intro n
 induction n with
 |zero =>
  intro i l hn hk _;rw[y14 zO];exact aLC v k i l zO trivial
 |succ n ih =>
  intro i l hn hk hl;have bg:i<v.length:=zO
  have hx:v[i]?=some v[i]:=yA bg;rw[y01 bg,aAf];by_cases he:v[i].ky=k
  .rw [yL he];have hM:=aEn v k i l bg zO zO _ 0 rfl zO;rw[drop_zero,y09]at hM;have hp:=Rh v[i] l;have nx:=ih (i+1) (az8 v[i] l) zO zO (by rw[aBY];omega);have hL:=aBY v[i] l;refine aLD v k i (rV v[i] l) l _ zO zO hx (by rw[rC,y15 he]) zO hp hM _ _ ⟨fun hq=>⟨?_,?_⟩,fun hq=>⟨?_,?_,?_,?_⟩⟩
   .rw [ay,length_drop];omega
   .have hq:l.take (rV v[i] l)=[]:=by simpa[au]using hq
    have e:az8 v[i] l=v[i]::l.drop (rV v[i] l):=by rw[az8,hq];rfl
    exact aGh v k (i+1) (az8 v[i] l) _ _ _ (by rw[e];rfl) (by rw[e,yE];omega) nx
   .rw [ay,y18];omega
   .rw [y18];omega
   .rw [ay,y18,length_drop];omega
   .exact aGh v k (i+1) (az8 v[i] l) _ _ _ (by rw[az8,<- gy,<- gy];rfl) (by rw[az8,yD,yD,length_singleton]) nx
  .rw [yK he];exact aLB v k i l _ zO zO hx (by rw[rC,y16 he]) _ _ (ih (i+1) l zO zO zO)
theorem aFE(v:List BE)(k:yP)(l:List BE)(h0:Rq 0 153 0 (rv v k 0 []) (.exit 0) (rvX l))(h:True):Cq 153 [iK v,str k] (iK l):=by
 have _:=h;exact aj [kl (rG [(2,3),(7,49)]) 0 (show Rq 0 153 0 (sM 56 [(0,.sl 5 false (au v)),(1,str k),(5,.sl 5 true []),(6,int 0)] []) (bF.exit 0) (sM 56 [(5,.sl 5 false (au l))] [])from(bN.pre h0 (eB.aC ⟨rfl,y29,rfl,y29,rfl,aF.oP _ _ _,rfl,y29,yO⟩)))]
theorem aEJ(v:List BE)(k:yP)(hv:v.length<=10000000):Cq 153 [iK v,str k] (iK (aAf k [] v)):=by
 have h:=aFD v k hv _ 0 [] rfl zO zS;rw[drop_zero]at h;exact aFE v k _ h trivial
theorem aEp(v:List BE)(i:Nat)(l:List yP)(hi:i<v.length)(hv:v.length<=10000000)(hl:l.length<=i){s:St}(nx:Rq 0 152 0 (rk v (i+1) (l.take (atD v[i].ky l)++[v[i].ky]++l.drop (atD v[i].ky l))) ex s) :
 (((zB (l.take (atD v[i].ky l))=[])->(((1+length (zB (l.drop (atD v[i].ky l))))*16<=140737488355328)/\Rq 0 152 0 (sM 64 [(0,.sl 5 false (au v)),(3,AV.aU 0 1 0 (1+length (List.drop (atD v[i].ky l) l))),(4,int (↑(i+1):Int))] [ah.aN 1 1 false ([str (BE.ky v[i])]::zB (List.drop (atD v[i].ky l) l))]) ex s))/\((¬zB (List.take (atD v[i].ky l) l)=[])->(((0+length (zB (List.take (atD v[i].ky l) l)))*16<=140737488355328)/\(((length (List.take (atD v[i].ky l) l)+1)*16<=140737488355328)/\(((length (List.take (atD v[i].ky l) l)+1+length (zB (List.drop (atD v[i].ky l) l)))*16<=140737488355328)/\Rq 0 152 0 (sM 64 [(0,.sl 5 false (au v)),(3,AV.aU 0 2 0 (length (List.take (atD v[i].ky l) l)+1+length (List.drop (atD v[i].ky l) l))),(4,int (↑(i+1):Int))] [ah.aN 2 1 false (zB (List.take (atD v[i].ky l) l)++[[str (BE.ky v[i])]]++zB (List.drop (atD v[i].ky l) l))]) ex s))))):=by
 have hp:=aBs v[i].ky l;refine⟨fun hq=>⟨?_,?_⟩,fun hq=>⟨?_,?_,?_,?_⟩⟩
 .rw [vo,length_drop];omega
 .have hq:l.take (atD v[i].ky l)=[]:=by simpa[zB]using hq
  rw[hq]at nx;exact aGi v (i+1) _ _ _ _ rfl (by simp;omega) nx
 .rw [vo,y18];omega
 .rw [y18];omega
 .rw [vo,y18,length_drop];omega
 .exact aGi v (i+1) _ _ _ _ (by rw[<- awF,<- awF];rfl) (by rw[yD,yD,length_singleton]) nx
theorem aBt(v:List BE)(hv:v.length<=10000000):∀n i (l:List yP),v.length-i=n->i<=v.length->l.length<=i->Rq 0 152 0 (rk v i l) (.exit 0) (rkX (aAC l (v.drop i))):=by
 intro n
 induction n with
 |zero =>
  intro i l hn hk _;rw[y14 zO];exact aG4 v i l zO trivial
 |succ n ih =>
  intro i l hn hk hl;have bg:i<v.length:=zO
  have hx:v[i]?=some v[i]:=yA bg;rw[y01 bg,aAC];have hM:=aEo v i l bg zO zO _ 0 rfl zO;rw[drop_zero,y09]at hM;have hp:=aBs v[i].ky l;have nx:=ih (i+1) (aAx v[i].ky l) zO zO (by have:=aEm v[i].ky l;omega);refine aG5 v i (atD v[i].ky l) l _ zO zO hx zO hp hM _ _ ⟨fun hq=>?_,fun hq=>?_⟩
  .have e:l[atD v[i].ky l]?=none:=getElem?_eq_none zO;rw[aAx,e,yK zS]at nx;rw[aAx,e,yK zS];exact aEp v i l bg hv hl nx
  .have e:l[atD v[i].ky l]?=some (l[atD v[i].ky l]'zO):=yA zO;refine⟨_,e,fun h=>?_,fun h=>?_⟩
   .rw [rC,decide_eq_true_iff]at h;rw[aAx,e,yL (by rw[h])]at nx;rw[aAx,e,yL (by rw[h])];exact nx
   .rw [rC,decide_eq_false_iff_not]at h;rw[aAx,e,yK (fun h'=>h (by injection h'))]at nx;rw[aAx,e,yK (fun h'=>h (by injection h'))];exact aEp v i l bg hv hl nx
theorem aFF(v:List BE)(l:List yP)(h0:Rq 0 152 0 (rk v 0 []) (.exit 0) (rkX l))(h:True):Cq 152 [iK v] (strs l):=by
 have _:=h;exact aj [kl (rG [(1,2),(5,59)]) 0 (show Rq 0 152 0 (sM 64 [(0,.sl 5 false (au v)),(3,.sl 1 true []),(4,int 0)] []) (bF.exit 0) (sM 64 [(3,.sl 1 false (zB l))] [])from(bN.pre h0 (eB.aC ⟨rfl,y29,rfl,aF.oP _ _ _,rfl,y29,yO⟩)))]
theorem aEK(v:List BE)(hv:v.length<=10000000):Cq 152 [iK v] (strs (aAC [] v)):=by
 have h:=aBt v hv _ 0 [] rfl zO zS;rw[drop_zero]at h;exact aFF v _ h trivial
variable {a b:BE}
theorem aAl:CS a b=true↔a.tm>b.tm\/(a.tm=b.tm/\(b.dv<a.dv\/(b.dv=a.dv/\b.sq<a.sq))):=by
 simp[CS,acH]
theorem aBf:CS a b=false↔¬(a.tm>b.tm\/(a.tm=b.tm/\(b.dv<a.dv\/(b.dv=a.dv/\b.sq<a.sq)))):=by
 rw[<- aAl,Bool.not_eq_true]
abbrev F4(l:List BE):Prop:=l.Pairwise fun a b=>CS b a=false
theorem aCV{e:BE}(h1:CS e a=true)(h2:CS b a=false):CS e b=true:=by
 rw[aAl]at *;rw[aBf]at h2;omega
theorem aCg(h1:CS a b=true):CS b a=false:=by
 rw[aAl]at h1;rw[aBf];omega
theorem aCC:∀(R S:List BE)(e:BE),(∀b∈R,CS e b=true)->mv (R++S) e=mv S e++R.reverse
 |[],S,e,_=>zS
 |y::R,S,e,h=>by
  rw[cons_append,mv,yL (h y (mem_cons_self ..)),aCC R S e fun b hb=>h b (yF _ hb)];simp
theorem aFG(A:List BE)(e:BE)(h:∀b∈A,CS e b=false):mv A.reverse e=A++[e]:=by
 rcases eq_nil_or_concat A with rfl|⟨t,y,rfl⟩
 .rfl
 .rw [concat_eq_append]at h |-;rw[reverse_append,reverse_singleton,singleton_append,mv,yK (by rw[h y zS];decide)];simp
variable {l:List BE}
theorem aAU(h:F4 l)(e:BE):(∀b∈l.take (rV e l),CS e b=false)/\∀b∈l.drop (rV e l),CS e b=true:=by
 induction l with
 |nil=>simp
 |cons a t ih =>
  rw[F4,pairwise_cons]at h;obtain⟨i1,i2⟩:=ih h.2;cases hm:CS e a with
  |true =>
   have:rV e (a::t)=0:=by simp[rV,hm]
   rw[this];refine⟨zS,fun b hb=>?_⟩;rcases yH.1 hb with rfl|hb
   .exact hm
   .exact aCV hm (h.1 b hb)
  |false =>
   have:rV e (a::t)=rV e t+1:=by simp[rV,hm]
   rw[this,take_succ_cons,drop_succ_cons];refine⟨fun b hb=>?_,i2⟩;rcases yH.1 hb with rfl|hb
   .exact hm
   .exact i1 b hb
theorem aG6(h:F4 l)(e:BE):mv l.reverse e=az8 e l:=by
 obtain⟨h1,h2⟩:=aAU h e
 conv=>lhs;rw[<- take_append_drop (rV e l) l,reverse_append]
 rw[aCC _ _ _ (fun b hb=>h2 b (by simpa using hb)),aFG _ _ h1,reverse_reverse];rfl
theorem aCW(e:BE)(l:List BE):(az8 e l).Perm (e::l):=by
 unfold az8;rw[y13,singleton_append];refine perm_middle.trans ?_;rw[take_append_drop]
theorem aCX(h:F4 l)(e:BE):F4 (az8 e l):=by
 obtain⟨h1,h2⟩:=aAU h e;unfold az8;rw[F4,y13,singleton_append,pairwise_append,pairwise_cons];refine⟨h.sublist (take_sublist _ _),⟨fun b hb=>aCg (h2 b hb),h.sublist (drop_sublist _ _)⟩,fun a ha b hb=>?_⟩;rcases yH.1 hb with rfl|hb
 .exact h1 a ha
 .have:F4 (l.take (rV e l)++l.drop (rV e l)):=by rw[take_append_drop];exact h
  exact(pairwise_append.1 this).2.2 a ha b hb
theorem aAI(k:yP):∀(v l:List BE),F4 l->srt l (fil k v)=aAf k l v/\F4 (aAf k l v)/\(aAf k l v).Perm (l++fil k v)
 |[],l,h=>⟨rfl,h,by simp[aAf,fil]⟩
 |b::t,l,h=>by
  rw[aAN,aAf];by_cases hk:b.ky=k
  .rw [yL hk,yL hk,singleton_append,srt,aG6 h];obtain⟨i1,i2,i3⟩:=aAI k t (az8 b l) (aCX h b);exact⟨i1,i2,i3.trans (((aCW b l).append_right _).trans (perm_middle (l₁:=l) (a:=b) (l₂:=fil k t)).symm)⟩
  .rw [yK hk,yK hk,nil_append];exact aAI k t l h
theorem aAg(k:yP)(v:List BE):srt [] (fil k v)=aAf k [] v:=(aAI k v [] Pairwise.nil).1
theorem aAr(k:yP)(v:List BE):(srt [] (fil k v)).Perm (fil k v):=by rw[aAg];exact(aAI k v [] Pairwise.nil).2.2
abbrev Asc(l:List yP):Prop:=l.Pairwise fun a b=>Dz a b=true
theorem aCY{l:List yP}(h:Asc l)(k:yP):(∀b∈l.take (atD k l),Dz b k=true)/\∀b∈l.drop (atD k l),b=k\/Dz k b=true:=by
 induction l with
 |nil=>simp
 |cons a t ih =>
  rw[Asc,pairwise_cons]at h;obtain⟨i1,i2⟩:=ih h.2;cases hm:Dz a k with
  |true =>
   have:atD k (a::t)=atD k t+1:=by simp[atD,hm]
   rw[this,take_succ_cons,drop_succ_cons];refine⟨fun b hb=>?_,i2⟩;rcases yH.1 hb with rfl|hb
   .exact hm
   .exact i1 b hb
  |false =>
   have:atD k (a::t)=0:=by simp[atD,hm]
   rw[this];have ha:a=k\/Dz k a=true:=by
    rcases arO a k with g|g|g
    .rw [hm]at g;cases g
    .exact .inl g
    .exact .inr g
   refine⟨zS,fun b hb=>?_⟩;rcases yH.1 hb with rfl|hb
   .exact ha
   .have hz:=h.1 b hb;rcases ha with rfl|ha
    .exact .inr hz
    .exact .inr (KG ha hz)
theorem aEq{l:List yP}(h:Asc l)(k:yP):Asc (aAx k l)/\∀a,a∈aAx k l↔a∈l\/a=k:=by
 obtain⟨h1,h2⟩:=aCY h k;unfold aAx;by_cases he:l[atD k l]?=some k
 .rw [yL he];exact⟨h,fun a=>⟨.inl,fun h=>h.elim id fun e=>e▸mem_of_getElem? he⟩⟩
 .rw [yK he];have h3:∀b∈l.drop (atD k l),Dz k b=true:=fun b hb=>by
   rcases h2 b hb with rfl|g
   .exfalso;have hl:Asc (l.drop (atD b l)):=h.sublist (drop_sublist _ _);cases hd:l.drop (atD b l)with
    |nil=>rw[hd]at hb;cases hb
    |cons a t =>
     have e:l[atD b l]?=some a:=by
      have:=yJ (fun x=>x[0]?) hd;simpa[getElem?_drop]using this
     rw[hd]at hb hl;rcases yH.1 hb with rfl|hb
     .exact he e
     .rw [Asc,pairwise_cons]at hl;have g1:=hl.1 b hb;rcases h2 a (by rw[hd];exact mem_cons_self ..)with rfl|g2
      .exact he e
      .rw [aCQ g1]at g2;cases g2
   .exact g
  refine⟨?_,fun a=>?_⟩
  .rw [Asc,y13,singleton_append,pairwise_append,pairwise_cons];refine⟨h.sublist (take_sublist _ _),⟨h3,h.sublist (drop_sublist _ _)⟩,fun a ha b hb=>?_⟩;rcases yH.1 hb with rfl|hb
   .exact h1 a ha
   .exact KG (h1 a ha) (h3 b hb)
  .have:a∈l↔a∈l.take (atD k l)\/a∈l.drop (atD k l):=by rw[<- yI,take_append_drop]
   rw[this,y13,yI,singleton_append,yH];constructor
   .rintro (g|g|g)
    .exact .inl (.inl g)
    .exact .inr g
    .exact .inl (.inr g)
   .rintro ((g|g)|g)
    .exact .inl g
    .exact .inr (.inr g)
    .exact .inr (.inl g)
theorem aAV:∀(v:List BE){l:List yP},Asc l->Asc (aAC l v)/\∀a,a∈aAC l v↔a∈l\/∃b∈v,b.ky=a
 |[],l,h=>⟨h,by simp[aAC]⟩
 |b::t,l,h=>by
  obtain⟨h1,h2⟩:=aEq h b.ky;obtain⟨i1,i2⟩:=aAV t h1;refine⟨i1,fun a=>?_⟩;rw[aAC,i2,h2];simp only[yH,exists_eq_or_imp];constructor
  .rintro ((g|g)|g)
   .exact .inl g
   .exact .inr (.inl g.symm)
   .exact .inr (.inr g)
  .rintro (g|g|g)
   .exact .inl (.inl g)
   .exact .inl (.inr g.symm)
   .exact .inr g
theorem aCZ{l:List yP}(h:Asc l):l.Nodup:=by
 rw[nodup_iff_pairwise_ne];exact h.imp fun{a b} g e=>by rw[e,RP]at g;cases g
theorem keys_perm(v:List BE):(aAC [] v).Perm (keysOf [] v):=by
 obtain⟨h1,h2⟩:=aAV v (l:=[]) Pairwise.nil;exact(perm_ext_iff_of_nodup (aCZ h1) (aAm v nodup_nil)).2 fun a=>by rw[h2,aAa]
theorem aFH(v:List BE)(hv:v.length<=1000)(hk:∀b∈v,b.ky.size<=maxLen):Cq 144 [iK v] (strs (aAC [] v)):=aGA v _ hv hk (keys_perm v) (aAV v Pairwise.nil).1
theorem aAK(v:List BE):(aAC [] v).length<=v.length:=by
 rw[(keys_perm v).length_eq];have:=aAb v [];simpa using this
end Go.Bd
namespace Go.Am
open Go
variable {y:AV}{b j:Nat}
section
variable {P:Program} {G:Nat->Option (List AV)}
theorem aBu{V:View}{cells:List AV}{x:AV}(hG:aD G V)(hb:V.H[b]?=some (.box cells))(hj:cells[j]?=some x)(hxy:aF x y):∃V':View,V'.w=V.w/\V'.H=V.H.set b (.box (cells.set j y))/\Step V V'/\aD G V':=by
 obtain⟨t,vs,h1,h2⟩:=hG.eP b _ hb;have JN:=(yC.1 hj).1;have hx:dI V x (vs.getD j undef):=by
  have:=h2.2 j JN;rwa[show cells.getD j .aP=x by rw[yB,hj];rfl]at this
 have hr:bR V (cells.set j y) vs:=by
  have:=h2.set j (hxy V _ hx);have e:vs.set j (vs.getD j undef)=vs:=by
   apply ext_getElem?;intro i;rw[getElem?_set];split
   .rename_i e;subst e;have:j<vs.length:=by rw[h2.1];exact JN
    rw[yL this,yB,yA this];rfl
   .rfl
  rwa[e]at this
 obtain⟨V2,l1,l2,l3,l4⟩:=wE (eP:=.box cells) (ou:=.box (cells.set j y)) (w':=V.w) hG hb rfl h1 h1 rfl (fun _ _=>rfl) rfl rfl rfl rfl trivial (fun V' hw hs=>⟨t,vs,by rw[hw];exact h1,hr.step hs⟩);exact⟨V2,l1,l2,l3,l4⟩
theorem bN.aFI{r:Option Nat}{n0:Nat}{c:Code}{s s':St}{ex:bF}{cells:List AV}{x:AV}(h:bN P G r n0 c s ex s')(hb:s'.H[b]?=some (.box cells))(hj:cells[j]?=some x)(hxy:aF x y):bN P G r n0 c s ex { aL:=s'.aL,H:=s'.H.set b (.box (cells.set j y)),dh:=s'.dh } :=
 fun V0 V a h0 k1 k2 k3=>eO.mono (h V0 V a h0 k1 k2 k3) fun _ _ _ hE=>by
  obtain⟨V1,rfl,l1,l2,l3,l4⟩:=hE;obtain⟨V2,a1,a2,a3,a4⟩:=aBu l2 (l3.H▸hb) hj hxy;exact⟨V2,a1,l1.trans a3,a4,⟨l3.aL.step a3,by rw[a2,l3.H],l3.dh.step a3⟩,l4.step a3⟩
end
end Go.Am
namespace Go.Dc
open Go Go.Am Go.Proofs Go.eY Go.bH
open Go.yU (CV rR val Cy iB fA)
open Go.Sq (CE)
open Go.Bd (BE)
theorem aBv{α:Type}{F lp e n0 n m b j:Nat}{l:List α}{V:α->CV}{S0:Nat->St}{S:Nat->List CV->Nat->St}{aL:List AV}(cl:AV->List AV)(Hb Hc:AV->List ah)(hl:l.length<=1000000)(b1:∀x H,(Hb x++H)[b]?=some (.box (cl x)))(b2:∀x,(cl x)[j]?=some x)(b3:∀x y H,(Hb x++H).set b (.box ((cl x).set j y))=Hb y++H)(b4:∀x,(Hb x).length=n)(c1:(Hc aK)[b]?=some (.box (cl aK)))(c3:∀y,(Hc aK).set b (.box ((cl aK).set j y))=Hc y)(IJ:∀g zs,∃ps,Bq n0 [] m { aL:=aL,H:=Hb (.sl 4 false zs)++[.aN g 4 true zs] }=some ({ aL:=aL,H:=Hc (.sl 4 false zs) },ps)/\gZ ps)(he0:¬((0:Nat):Int)<(l.length:Int)->bN P G none n0 (vg P F lp) (S0 0) (.exit e) { aL:=aL,H:=Hc aK })(he:∀(g:Nat)(xs:List CV)(k:Nat),¬(k:Int)<(l.length:Int)->bN P G none n0 (vg P F lp) (S g xs k) (.exit e) { aL:=aL,H:=Hb (.aU n g 0 xs.length)++[.aN g 4 false (iB xs)] })(U5:∀x,((0:Nat):Int)<(l.length:Int)->l[0]?=some x->∀(ex:bF)(s':St),bN P G none n0 (vg P F lp) (S 0 [V x] 1) ex s'->bN P G none n0 (vg P F lp) (S0 0) ex s')(hn:∀(g:Nat)(xs:List CV)(k:Nat)(x:α),(k:Int)<(l.length:Int)->l[k]?=some x->xs.length<=1000000->∀(ex:bF)(s':St),bN P G none n0 (vg P F lp) (S (g+1) (xs++[V x]) (k+1)) ex s'->bN P G none n0 (vg P F lp) (S g xs k) ex s') :
 bN P G none n0 (vg P F lp) (S0 0) (.exit e) { aL:=aL,H:=Hc (.sl 4 false (iB (l.map V))) }:=by
 by_cases h0:l.length=0
 .obtain rfl:=y02 h0;have h:=bN.aFI (he0 zS) c1 (b2 _) (aF.nil 4);rw[c3]at h;exact h
 .have bg:0<l.length:=zO
  have main:∀q k g,l.length-k=q->k<=l.length->∃g',bN P G none n0 (vg P F lp) (S g ((l.take k).map V) k) (.exit e) { aL:=aL,H:=Hb (.aU n g' 0 (l.map V).length)++[.aN g' 4 false (iB (l.map V))] }:=by
   intro q
   induction q with
   |zero =>
    intro k g h1 h2;rw[y23 zO];exact⟨g,he g _ k zO⟩
   |succ q ih =>
    intro k g h1 h2;have hk:k<l.length:=zO
    obtain⟨g',h⟩:=ih (k+1) (g+1) zO zO;refine⟨g',hn g _ k l[k] zO (yA hk) (by simp;omega) _ _ ?_⟩;rw[take_add_one,yA hk,map_append]at h;exact h
  obtain⟨g',h⟩:=main _ 1 0 rfl zO;rw[show(l.take 1).map V=[V l[0]] by rw[take_add_one,yA bg];rfl]at h;have h2:=U5 l[0] zO (yA bg) _ _ h;generalize l.map V=cs at h2 |-;have ha:∀(x:AV)(fz:Bool),(Hb x++[ah.aN g' 4 fz (iB cs)])[n]?=some (.aN g' 4 fz (iB cs)):=fun x fz=>by
   rw[getElem?_append_right (by rw[b4];exact yM),b4,Nat.sub_self];rfl
  have hs:∀x,(Hb x++[ah.aN g' 4 false (iB cs)]).set n (.aN g' 4 true (iB cs))=Hb x++[.aN g' 4 true (iB cs)]:=fun x=>by
   rw[set_append_right _ _ (by rw[b4];exact yM),b4,Nat.sub_self];rfl
  have h3:=bN.ahI (z:=iB cs) (y:=.sl 4 false (iB cs)) (H1:=Hb (.aU n g' 0 cs.length)++[.aN g' 4 true (iB cs)]) (ps:=[g'=g',((iB cs).drop 0).take cs.length=iB cs,(iB cs).length=cs.length,∀c∈iB cs,c.all AV.fJ=true]) h2 (b1 _ _) (b1 _ _) (b2 _)
   (by unfold mR;simp only[ha,hs]) ⟨rfl,yU.aa7 cs,fA cs,yU.WV cs,yO⟩
  rw[b3]at h3;obtain⟨ps,p1,p2⟩:=IJ g' (iB cs);exact h3.cut m (fun _ e=>by cases e) p1 p2
theorem aCk(cs:List CV)(v:CV):iB (cs++[v])=iB cs++[[int v.k,int v.n,str v.s,.sl 4 false (iB v.l)]]:=by
 rw[<- avJ];cases v;rfl
theorem aLE(v:CV):iB [v]=[[int v.k,int v.n,str v.s,.sl 4 false (iB v.l)]]:=by cases v;rfl
theorem aLF(l:List yP)(hl:l.length<=1000000):ak P G 141 [sA l,aMk] [] (.ret (val (lsV (l.map wdV)))) [] :=
 aK4 l (l.map wdV) (aBv (n:=2) (m:=2) (b:=1) (j:=3) (V:=wdV) (S0:=vw0 l) (S:=vw1 l) (fun x=>[int 3,int 0,str .empty,x]) (fun x=>[.box azK,.box [int 3,int 0,str .empty,x]]) (fun x=>[.box azK,.box [int 3,int 0,str .empty,x]]) hl (fun _ _=>rfl) (fun _=>rfl) (fun _ _ _=>rfl) (fun _=>rfl) rfl (fun _=>rfl) (fun _ _=>⟨_,rfl,yO⟩)
  (fun h=>aI5 l 0 h yO) (fun g cs k h=>aK2 l g cs k h yO)
  (fun x h1 h2 ex s' h=>aI6 l 0 x (wdV x) hl h1 h2 (aCH x) ex s' h)
  (fun g cs k x h1 h2 h3 ex s' h=>aK3 l g cs k x (wdV x) hl h1 h2 (aCH x) h3 ex s' (by unfold vw1 at h;rw[aCk,yD]at h;exact h))) trivial
theorem aLG(f:FD)(l:List yP)(V:yP->CV)(hl:l.length<=1000000)(hV:∀s∈l,ak P G 145 [str s,.ptr 0 0] [.box (jB f)] (.ret (val (V s))) [.box (jB f)]):ak P G 141 [sA l,aMl] [.box (jB f)] (.ret (val (lsV (l.map V)))) [.box (jB f)] :=
 aK7 f l (l.map V) (aBv (n:=3) (m:=3) (b:=2) (j:=3) (V:=V) (S0:=vs0 f l) (S:=vs1 f l) (fun x=>[int 3,int 0,str .empty,x]) (fun x=>[.box (jB f),.box azK,.box [int 3,int 0,str .empty,x]]) (fun x=>[.box (jB f),.box azK,.box [int 3,int 0,str .empty,x]]) hl (fun _ _=>rfl) (fun _=>rfl) (fun _ _ _=>rfl) (fun _=>rfl) rfl (fun _=>rfl) (fun _ _=>⟨_,rfl,yO⟩)
  (fun h=>aI7 f l 0 h yO) (fun g cs k h=>aK5 f l g cs k h yO)
  (fun x h1 h2 ex s' h=>aI8 f l 0 x (V x) hl h1 h2 (hV x (mem_of_getElem? h2)) ex s' (by unfold vs1 at h;rw[aLE]at h;exact h))
  (fun g cs k x h1 h2 h3 ex s' h=>aK6 f l g cs k x (V x) hl h1 h2 (hV x (mem_of_getElem? h2)) h3 ex s' (by unfold vs1 at h;rw[aCk,yD]at h;exact h))) trivial
def vlV(b:BE):CV:=wdV b.vl
theorem aLH:AlW Bd.aQ vlV 5 146 147 where
 y l k x hk hx hF _ _ h ha:=aJ [ki ((k:Int)<l.length),ke (Bd.aQ x) (l.map Bd.aQ) k (bG hx),kc [] hF,Qx (vlV x).cells,vV 56,kW 23 (k+1) ↑(k+1)] (aB 25 [1,4,5,9,10,11]) 4 (h.acz (aKm (x:=Bd.aQ x)))
 n l k x cs g hk hx hF _ _ h ha hc:=aJ [ki ((k:Int)<l.length),ke (Bd.aQ x) (l.map Bd.aQ) k (bG hx),kc [] hF,kq g,kp (fA cs).symm,vV ((cs.length+1)*56),kW 23 (k+1) ↑(k+1),kp (show ∀y∈iB cs++[(vlV x).cells],AV.gH 4 y=true from avJ cs (vlV x)▸aAE 4 _)] (aB 25 [1,4,5,9,10,11]) 4 (by rw[aDx]at h;exact h)
def kyV(f:FD)(k:yP):CV:=lsV [wdV k,lsV ((Bd.aAf k [] f.bi).map vlV)]
def shV(f:FD):CV:=if f.pk=1 then lsV ((Sq.vis f.ce).map wdV)else if f.pk=3 then nmV (aC6 f.ta 0)else if f.pk=4 then Tx.aB8 (Gb f)else lsV ((Bd.aAC [] f.bi).map (kyV f))
def Vo(d:DO):CV:=lsV (d.fs.map fun f=>lsV [nmV f.pk,wdV f.pn,shV f])
theorem azZ(v:List CE):(Sq.vis v).length<=v.length:=by
 induction v with
 |nil=>exact yM
 |cons c v ih=>rw[Sq.azY,yD,yE];split<;>simp<;>omega
theorem aFJ{f:FD}{v:List D}(h:U6 f v=true)(hl:XW f)(ht:Tx.X4 (Gb f))(hO:Tx.OkT (Gb f))(hb:f.bi.length<=20)(hk:∀b∈f.bi,b.ky.size<=maxLen):ak P G 54 [.agg (jB f)] [] (.ret (.bq [val (shV f),int 0])) []:=by
 unfold shV;rcases asQ h with e|e|e|e
 .rw [yL e];exact aLa f e _ _ (Sq.up (Sq.aId f.ce (by have:=hl.ce;omega))) (aLF _ (by have:=azZ f.ce;have:=hl.ce;omega)) trivial
 .rw [yK zO,yK zO,yK zO];have hK:=Bd.aFH f.bi zO hk;have hS:∀s,ak P G 145 [str s,.ptr 0 0] [.box (jB f)] (.ret (val (kyV f s))) [.box (jB f)]:=fun s=>by
   have hV:=Bd.aGu f.bi s hb;rw[Bd.aAg]at hV;have hn:(Bd.aAf s [] f.bi).length<=500000:=by
    have:=(Bd.aAr s f.bi).length_eq;rw[Bd.aAg]at this;have:=length_filter_le (fun b=>decide (b.ky=s)) f.bi;have e:(Bd.fil s f.bi).length<=f.bi.length:=by unfold Bd.fil;exact length_filter_le _ _
    omega
   exact aK9 f s _ hV (aKq (E:=Bd.aQ) (V:=vlV) zD aLH _ hn fun b _=>aK8 b yO) trivial
  exact aLd f e _ _ hK (aLG f _ (kyV f) (by have:=Bd.aAK f.bi;omega) fun s _=>hS s) trivial
 .rw [yK zO,yL e];have hT:=aG3 f.ta hl.ta;have hz:=((asb e).1 h).1;rw[hz,yL rfl]at hT;exact aLb f e _ _ hT trivial
 .rw [yK zO,yK zO,yL e];have hT:=Tx.aEk (Gb f) ht hO;have hz:Tx.vC (Gb f)=0:=((arC e).1 h).1;rw[hz]at hT;exact aLc f e _ _ hT trivial
variable {d:DO}
theorem rrI{f a:List AV}{V:CV}:HSub [rdB d,.box [int 3,int 0,str .empty,.aU 4 0 0 1],.box f,.box a,.aN 0 4 false [V.cells]] [rdB d,.box [int 3,int 0,str .empty,.aU 4 0 0 1],.aH,.aH,.aN 0 4 false (iB [V])]:=⟨.inl rfl,.inl rfl,.inr yO,.inr yO,.inl rfl,yO⟩
def shF(f:FD):CV:=lsV [nmV f.pk,wdV f.pn,shV f]
theorem axg(x:FD):(shF x).cells=[int 3,int 0,str .empty,.sl 4 false [[int 1,int x.pk,str .empty,.sl 4 false []],[int 2,int 0,str x.pn,.sl 4 false []],[int (shV x).k,int (shV x).n,str (shV x).s,.sl 4 false (iB (shV x).l)]]]:=by
 unfold shF;cases shV x;rfl
theorem aCF(dm:Dim d)(hb:∀f∈d.fs,f.bi.length<=20/\∀b∈f.bi,b.ky.size<=maxLen):ak P G 15 [kI d] [] (.ret (if F9 d=0 then .bq [val (Vo d),int 0]else .bq [.agg azK,int 180])) []:=by
 have hK:=fG d dm;by_cases h:F9 d=0
 .rw [yL h];rw[h]at hK;have hv:=(arD.1 h).2.1;have hS:∀f∈d.fs,ak P G 54 [.agg (jB f)] [] (.ret (.bq [val (shV f),int 0])) []:=fun f hf=>aFJ (hv f hf) (dm.len f hf) (dm.iV f hf).lt (dm.iV f hf).tx (hb f hf).1 (hb f hf).2;exact aLg d (d.fs.map shF) hK (aBv (n:=4) (m:=2) (b:=1) (j:=3) (V:=shF) (S0:=rr0 d) (S:=rr1 d) (fun x=>[int 3,int 0,str .empty,x]) (fun x=>[rdB d,.box [int 3,int 0,str .empty,x],.aH,.aH]) (fun x=>[rdB d,.box [int 3,int 0,str .empty,x]]) dm.fs (fun _ _=>rfl) (fun _=>rfl) (fun _ _ _=>rfl) (fun _=>rfl) rfl (fun _=>rfl) (fun _ _=>⟨_,rfl,yO⟩)
   (fun h=>aI9 d 0 h yO) (fun g cs k h=>aLe d g cs k h yO)
   (fun x h1 h2 ex s' h=>aJa d 0 x _ dm.fs h1 h2 (hS x (mem_of_getElem? h2)) ex s' (by have k:=h.acz (rrI (f:=jB x) (a:=[int (shV x).k,int (shV x).n,str (shV x).s,.sl 4 false (iB (shV x).l)]) (V:=shF x));rw[axg]at k;exact k))
   (fun g cs k x h1 h2 h3 ex s' h=>aLf d g cs k x _ dm.fs h1 h2 (hS x (mem_of_getElem? h2)) h3 ex s' ⟨axg x▸avJ cs (shF x)▸aAE 5 _,by unfold rr1 at h;rw[<- avJ,axg,yD]at h;exact h⟩)) trivial
 .rw [yK h];have e:F9 d=180:=by unfold F9 at h |-;split;(rename_i q;rw[yL q]at h;exact absurd rfl h);rfl
  rw[e]at hK;exact aLh d 180 zD hK trivial
end Go.Dc
namespace Go.Tx
open Go Go.Am Go.Proofs Go.eY
open Go.Sq (CE nP bZ oO vM fX U2 kQ jg)
open Go.yU (CV iB)
def stE(l:List yP):List (List AV):=l.map fun s=>[str s]
def aMn(l:List (List Int)):List (List AV):=l.map fun x=>[ils x]
theorem axo(l:List yP):(stE l).length=l.length:=by simp[stE]
theorem aAd(l:List (List Int)):(aMn l).length=l.length:=by simp[aMn]
theorem axp(l:List yP):∀c∈stE l,AV.aM [] c=true:=by
 intro c hc;obtain⟨d,_,rfl⟩:=yG.1 hc;rfl
theorem axq(l:List (List Int)):∀c∈aMn l,AV.aM [] c=true:=by
 intro c hc;obtain⟨d,_,rfl⟩:=yG.1 hc;rfl
theorem aBZ(l:List yP)(s:yP):stE l++[[str s]]=stE (l++[s]):=by simp[stE]
theorem aB0(l:List (List Int))(x:List Int):aMn l++[[ils x]]=aMn (l++[x]):=by simp[aMn]
abbrev aMo:ah:=.box [int 0,int 0,str (ByteArray.mk #[]),aK]
def aMp(t:TE)(k:Nat):St:={ aL:=aC 122 [(1,.ptr 0 0),(2,.ptr 1 0),(5,aK),(6,aK),(7,int k)],H:=[sbT t,aMo] }
def rAX(t:TE):St:={ aL:=aC 122 [(2,.ptr 1 0),(5,aK),(6,aK)],H:=[sbT t,aMo] }
def rB(t:TE)(k g:Nat)(ts:List yP)(s:yP)(g':Nat)(az:List (List Int))(ls:List Int):St:={ aL:=aC 122 [(1,.ptr 0 0),(2,.ptr 1 0),(5,.aU 2 g 0 (ts.length+1)),(6,.aU 3 g' 0 (az.length+1)),(7,int k)],H:=[sbT t,aMo,.aN g 1 false (stE ts++[[str s]]),.aN g' 1 false (aMn az++[[ils ls]])] }
def rBX(t:TE)(g:Nat)(ts:List yP)(g':Nat)(az:List (List Int)):St:={ aL:=aC 122 [(2,.ptr 1 0),(5,.aU 2 g 0 ts.length),(6,.aU 3 g' 0 az.length)],H:=[sbT t,aMo,.aN g 1 false (stE ts),.aN g' 1 false (aMn az)] }
theorem aLI(t:TE)(k:Nat)(hk:¬(k:Int)<(t.cells.length:Int))(h:True):Rq 0 151 0 (aMp t k) (bF.exit 0) (rAX t):=by
 have _:=h;exact aG [kv 23 (show Am.aF (int (↑(length (Sq.au t.cells)):Int)) (int ↑(length t.cells))from(aF.of_eq (by simp only[Go.Sq.ay]))),kj ((k:Int)<(↑(length t.cells):Int))] (aB 122 [2,5,6]) 2
theorem aJf(t:TE)(k:Nat)(c:CE)(hc:t.cells.length<=1000000)(hk:(k:Int)<(t.cells.length:Int))(hx:t.cells[k]?=some c)(hg:c.gn=true)(ex:bF)(s2:St)(h:Rq 0 151 0 (sM 122 [(1,.ptr 0 0),(2,.ptr 1 0),(5,aK),(6,aK),(7,int ↑(k+1))] [.box [.sl 9 false (Sq.au t.cells),.sl 11 false (au t.bQ)],.box [int 0,int 0,str (ByteArray.mk #[]),aK]]) ex s2):Rq 0 151 0 (aMp t k) ex s2:=by
 exact aJ [kv 23 (show Am.aF (int (↑(length (Sq.au t.cells)):Int)) (int ↑(length t.cells))from(aF.of_eq (by simp only[Go.Sq.ay]))),ki ((k:Int)<(↑(length t.cells):Int)),ke (Sq.aQ c) (Sq.au t.cells) k (bG hx),kt hg,kW 26 (k+1) ↑(k+1)] (aB 122 [1,2,5,6,7]) 2 h
theorem aLJ(t:TE)(k:Nat)(c:CE)(ls:List Int)(hc:t.cells.length<=1000000)(hk:(k:Int)<(t.cells.length:Int))(hx:t.cells[k]?=some c)(hg:c.gn=false)(fB:Cq 235 [mG t,int k] (ils ls))(ex:bF)(s2:St)(h:Rq 0 151 0 (sM 122 [(1,.ptr 0 0),(2,.ptr 1 0),(5,.aU 2 0 0 1),(6,.aU 3 0 0 1),(7,int ↑(k+1))] [.box [.sl 9 false (Sq.au t.cells),.sl 11 false (au t.bQ)],.box [int 0,int 0,str (ByteArray.mk #[]),aK],.aN 0 1 false [[str c.vl]],.aN 0 1 false [[.sl 1 false (bH.ql ls)]]]) ex s2):Rq 0 151 0 (aMp t k) ex s2:=by
 have jw:(0:Int)<=(k:Int)/\(Sq.au t.cells)[Int.toNat (k:Int)]?=some (Sq.aQ c):=(bG hx);exact aJ [kv 23 (show Am.aF (int (↑(length (Sq.au t.cells)):Int)) (int ↑(length t.cells))from(aF.of_eq (by simp only[Go.Sq.ay]))),ki ((k:Int)<(↑(length t.cells):Int)),ko (bC.elem (Sq.aQ c)),kp jw,kf hg,kc [] fB,kY,kY,ko (bC.elem (Sq.aQ c)),kp jw,Qx [str c.vl],vV 16,Qx [AV.sl 1 false (bH.ql ls)],vV 24,kW 26 (k+1) ↑(k+1)] (aB 122 [1,2,5,6,7]) 4 h
theorem aLK(t:TE)(k:Nat)(g:Nat)(ts:List yP)(s:yP)(g':Nat)(az:List (List Int))(l0:List Int)(hk:¬(k:Int)<(t.cells.length:Int))(ex:bF)(s2:St)(h:(bF.exit 0=ex)/\(sM 122 [(2,.ptr 1 0),(5,.aU 2 g 0 (length ts+1)),(6,.aU 3 g' 0 (length az+1))] [.box [.sl 9 false (Sq.au t.cells),.sl 11 false (au t.bQ)],.box [int 0,int 0,str (ByteArray.mk #[]),aK],.aN g 1 false (stE ts++[[str s]]),.aN g' 1 false (aMn az++[[.sl 1 false (bH.ql l0)]])]=s2)):Rq 0 151 0 (rB t k g ts s g' az l0) ex s2:=by
 obtain⟨eX,eS⟩:=h;exact bN.to ((show Rq 0 151 0 (rB t k g ts s g' az l0) (bF.exit 0) (sM 122 [(2,.ptr 1 0),(5,.aU 2 g 0 (length ts+1)),(6,.aU 3 g' 0 (length az+1))] [.box [.sl 9 false (Sq.au t.cells),.sl 11 false (au t.bQ)],.box [int 0,int 0,str (ByteArray.mk #[]),aK],.aN g 1 false (stE ts++[[str s]]),.aN g' 1 false (aMn az++[[.sl 1 false (bH.ql l0)]])])from aG [kv 23 (show Am.aF (int (↑(length (Sq.au t.cells)):Int)) (int ↑(length t.cells))from(aF.of_eq (by simp only[Go.Sq.ay]))),kj ((k:Int)<(↑(length t.cells):Int))] (aB 122 [2,5,6]) 4)) eX (eB.of_eq eS)
theorem aLL(t:TE)(k:Nat)(g:Nat)(ts:List yP)(s:yP)(g':Nat)(az:List (List Int))(l0:List Int)(c:CE)(hc:t.cells.length<=1000000)(hk:(k:Int)<(t.cells.length:Int))(hx:t.cells[k]?=some c)(hg:c.gn=true)(ex:bF)(s2:St)(h:Rq 0 151 0 (sM 122 [(1,.ptr 0 0),(2,.ptr 1 0),(5,.aU 2 g 0 (length ts+1)),(6,.aU 3 g' 0 (length az+1)),(7,int ↑(k+1))] [.box [.sl 9 false (Sq.au t.cells),.sl 11 false (au t.bQ)],.box [int 0,int 0,str (ByteArray.mk #[]),aK],.aN g 1 false (stE ts++[[str s]]),.aN g' 1 false (aMn az++[[.sl 1 false (bH.ql l0)]])]) ex s2):Rq 0 151 0 (rB t k g ts s g' az l0) ex s2:=by
 exact aJ [kv 23 (show Am.aF (int (↑(length (Sq.au t.cells)):Int)) (int ↑(length t.cells))from(aF.of_eq (by simp only[Go.Sq.ay]))),ki ((k:Int)<(↑(length t.cells):Int)),ke (Sq.aQ c) (Sq.au t.cells) k (bG hx),kt hg,kW 26 (k+1) ↑(k+1)] (aB 122 [1,2,5,6,7]) 4 h
theorem aLM(t:TE)(k:Nat)(g:Nat)(ts:List yP)(s:yP)(g':Nat)(az:List (List Int))(l0:List Int)(c:CE)(ls:List Int)(hc:t.cells.length<=1000000)(hk:(k:Int)<(t.cells.length:Int))(hts:ts.length<=1000000)(has:az.length=ts.length)(hx:t.cells[k]?=some c)(hg:c.gn=false)(hs:s.size+c.vl.size<=9223372036854775807)(hL1:(stE ts++[[str s]])[0+Int.toNat (((ts.length+1:Nat):Int)-1)]?=some [str s])(hL2:(aMn az++[[ils l0]])[0+Int.toNat (((ts.length+1:Nat):Int)-1)]?=some [ils l0])(fB:Cq 235 [mG t,int k] (ils ls))(Y2:Cq 236 [ils l0,ils ls] (bool true))(ex:bF)(s2:St)(h:Rq 0 151 0 (sM 122 [(1,.ptr 0 0),(2,.ptr 1 0),(5,.aU 2 g 0 (length ts+1)),(6,.aU 3 g' 0 (length az+1)),(7,int ↑(k+1))] [.box [.sl 9 false (Sq.au t.cells),.sl 11 false (au t.bQ)],.box [int 0,int 0,str (ByteArray.mk #[]),aK],.aN g 1 false (List.set (stE ts++[[str s]]) (0+Int.toNat ((↑(length ts+1):Int)-1)) [str (s++c.vl)]),.aN g' 1 false (aMn az++[[.sl 1 false (bH.ql l0)]])]) ex s2):Rq 0 151 0 (rB t k g ts s g' az l0) ex s2:=by
 have jw:(0:Int)<=(k:Int)/\(Sq.au t.cells)[Int.toNat (k:Int)]?=some (Sq.aQ c):=(bG hx);have Av:g=g:=(rfl);have OG:Am.aF (int (IntKind.wrap IntKind.i64 ((↑(length ts+1):Int)-1))) (int ((↑(length ts+1):Int)-1)):=(aF.TJ zO zO rfl);have H6:g'=g':=(rfl);have PW:(0:Int)<=(↑(length ts+1):Int)-1/\(↑(length ts+1):Int)-1<(↑(length ts+1):Int):=zO;exact aJ [kv 23 (show Am.aF (int (↑(length (Sq.au t.cells)):Int)) (int ↑(length t.cells))from(aF.of_eq (by simp only[Go.Sq.ay]))),ki ((k:Int)<(↑(length t.cells):Int)),ko (bC.elem (Sq.aQ c)),kp jw,kf hg,kc [] fB,kp Av,ki ((↑(length ts+1):Int)>0),kv 43 OG,ko (bC.elem [ils l0]),kp H6,kp (show(0:Int)<=(↑(length ts+1):Int)-1/\(↑(length ts+1):Int)-1<(↑(length az+1):Int)from zO),kp H6,kp hL2,kc [] Y2,kO,kv 51 OG,kv 54 OG,ko (bC.elem [str s]),ko (bC.elem (Sq.aQ c)),ko (bC.elem [str s]),kp Av,kp PW,kp Av,kp hL1,kp jw,kp (show(↑(ByteArray.size s+ByteArray.size c.vl):Int)<=9223372036854775807 from zO),kp Av,kp PW,kp Av,kp hL1,kW 26 (k+1) ↑(k+1)] (aB 122 [1,2,5,6,7]) 4 h
theorem aLN(t:TE)(k:Nat)(g:Nat)(ts:List yP)(s:yP)(g':Nat)(az:List (List Int))(l0:List Int)(c:CE)(ls:List Int)(hc:t.cells.length<=1000000)(hk:(k:Int)<(t.cells.length:Int))(hts:ts.length<=1000000)(has:az.length=ts.length)(hx:t.cells[k]?=some c)(hg:c.gn=false)(hL2:(aMn az++[[ils l0]])[0+Int.toNat (((ts.length+1:Nat):Int)-1)]?=some [ils l0])(fB:Cq 235 [mG t,int k] (ils ls))(Y2:Cq 236 [ils l0,ils ls] (bool false))(ex:bF)(s2:St)(h:Rq 0 151 0 (sM 122 [(1,.ptr 0 0),(2,.ptr 1 0),(5,.aU 2 (g+1) 0 (length ts+1+1)),(6,.aU 3 (g'+1) 0 (length az+1+1)),(7,int ↑(k+1))] [.box [.sl 9 false (Sq.au t.cells),.sl 11 false (au t.bQ)],.box [int 0,int 0,str (ByteArray.mk #[]),aK],.aN (g+1) 1 false (stE ts++[[str s]]++[[str c.vl]]),.aN (g'+1) 1 false (aMn az++[[.sl 1 false (bH.ql l0)]]++[[.sl 1 false (bH.ql ls)]])]) ex s2):Rq 0 151 0 (rB t k g ts s g' az l0) ex s2:=by
 have jw:(0:Int)<=(k:Int)/\(Sq.au t.cells)[Int.toNat (k:Int)]?=some (Sq.aQ c):=(bG hx);have Av:g=g:=(rfl);have H6:g'=g':=(rfl);exact aJ [kv 23 (show Am.aF (int (↑(length (Sq.au t.cells)):Int)) (int ↑(length t.cells))from(aF.of_eq (by simp only[Go.Sq.ay]))),ki ((k:Int)<(↑(length t.cells):Int)),ko (bC.elem (Sq.aQ c)),kp jw,kf hg,kc [] fB,kp Av,ki ((↑(length ts+1):Int)>0),kW 43 ((↑(length ts+1):Int)-1) ((↑(length ts+1):Int)-1),ko (bC.elem [ils l0]),kp H6,kp (show(0:Int)<=(↑(length ts+1):Int)-1/\(↑(length ts+1):Int)-1<(↑(length az+1):Int)from zO),kp H6,kp hL2,kc [] Y2,kY,ko (bC.elem (Sq.aQ c)),kp jw,kp Av,kp (show length ts+1=length (stE ts++[[str s]])from(by simp only[yD,yE,y11,y10,axo,aAd,axp,axq]<;>omega)),vV ((length ts+1+1)*16),kp H6,kp (show length az+1=length (aMn az++[[AV.sl 1 false (bH.ql l0)]])from(by simp only[yD,yE,y11,y10,axo,aAd,axp,axq]<;>omega)),vV ((length az+1+1)*24),kW 26 (k+1) ↑(k+1)] (aB 122 [1,2,5,6,7]) 4 h
def aMq(t:TE)(g:Nat)(ts:List yP)(g':Nat)(az:List (List Int)):List ah:=[sbT t,aMo,.aN g 1 false (stE ts),.aN g' 1 false (aMn az)]
abbrev aMr(L:AV):ah:=.box [int 3,int 0,str (ByteArray.mk #[]),L]
def aMs(t:TE)(g:Nat)(ts:List yP)(g':Nat)(az:List (List Int))(i:Nat)(L:AV)(K:List ah):St:={ aL:=aC 122 [(2,.ptr 1 0),(5,.aU 2 g 0 ts.length),(6,.aU 3 g' 0 az.length),(10,.ptr 4 0),(11,int i)],H:=aMq t g ts g' az++[aMr L]++K }
def rCX(t:TE)(g:Nat)(ts:List yP)(g':Nat)(az:List (List Int))(L:AV)(K:List ah):St:={ aL:=aC 122 [(2,.ptr 1 0),(10,.ptr 4 0)],H:=aMq t g ts g' az++[aMr L]++K }
def aMt(t:TE)(g:Nat)(ts:List yP)(g':Nat)(az:List (List Int))(i:Nat)(Lw:AV)(K:List ah)(lb:Nat)(L:AV)(k:Nat)(K2:List ah):St:={ aL:=aC 122 [(2,.ptr 1 0),(5,.aU 2 g 0 ts.length),(6,.aU 3 g' 0 az.length),(10,.ptr 4 0),(11,int i),(12,.ptr lb 0),(13,int k)],H:=aMq t g ts g' az++[aMr Lw]++K++[aMr L]++K2 }
def rDX(t:TE)(g:Nat)(ts:List yP)(g':Nat)(az:List (List Int))(i:Nat)(Lw:AV)(K:List ah)(lb:Nat)(L:AV)(K2:List ah):St:={ aL:=aC 122 [(2,.ptr 1 0),(5,.aU 2 g 0 ts.length),(6,.aU 3 g' 0 az.length),(10,.ptr 4 0),(11,int i),(12,.ptr lb 0)],H:=aMq t g ts g' az++[aMr Lw]++K++[aMr L]++K2 }
theorem aLO(t:TE)(g:Nat)(ts:List yP)(g':Nat)(az:List (List Int))(i:Nat)(ls:List Int)(x:Int)(hA:az[0+Int.toNat (i:Int)]?=some ls)(hi:i<ts.length)(has:az.length=ts.length)(hts:ts.length<=1000000)(hl:ls.length<=16)(hx:ls[0]?=some x)(ex:bF)(s2:St)(h:((((0:Int)<(ls.length:Int))->Rq 0 151 2 (sM 122 [(2,.ptr 1 0),(5,.aU 2 g 0 ts.length),(6,.aU 3 g' 0 az.length),(10,.ptr 4 0),(11,int ↑i),(12,.ptr 5 0),(13,int 1)] [.box [.sl 9 false (Sq.au t.cells),.sl 11 false (au t.bQ)],.box [int 0,int 0,str (ByteArray.mk #[]),aK],.aN g 1 false (stE ts),.aN g' 1 false (aMn az),.box [int 3,int 0,str (ByteArray.mk #[]),aK],.box [int 3,int 0,str (ByteArray.mk #[]),.aU 6 0 0 1],.aN 0 4 false [[int 1,int x,str (ByteArray.mk #[]),aK]]]) ex s2)/\((¬(0:Int)<(ls.length:Int))->(bF.exit 4=ex)/\(sM 122 [] [.box [.sl 9 false (Sq.au t.cells),.sl 11 false (au t.bQ)],.box [int 0,int 0,str (ByteArray.mk #[]),aK],.aN g 1 false (stE ts),.aN g' 1 false (aMn az),.box [int 3,int 0,str (ByteArray.mk #[]),aK],.box [int 3,int 0,str (ByteArray.mk #[]),aK]]=s2)))):Rq 0 151 2 (aMt t g ts g' az i aK [] 5 aK 0 []) ex s2:=by
 have bS:g'=g':=(rfl);have fT:(0:Int)<=(i:Int)/\(i:Int)<(az.length:Int):=zO;have jw:(aMn az)[0+Int.toNat (i:Int)]?=some [ils ls]:=(iN hA);let l1:List fP:=[ko (bC.elem [ils ls]),kp bS,kp fT,kp bS,kp jw,kv 91 (show Am.aF (int (↑(length (bH.ql ls)):Int)) (int ↑ls.length)from(aF.of_eq (by simp only[Go.bH.kD])))];by_cases c1:((0:Int)<(ls.length:Int))
 .have h:=h.1 c1;exact aJ (l1++[kt (qT c1),ko (bC.elem [ils ls]),ko (bC.elem (bH.LW x)),kp bS,kp fT,kp bS,kp jw,kp (show(0:Int)<=(0:Int)/\(bH.ql ls)[Int.toNat (0:Int)]?=some (bH.LW x)from(bG hx)),Qx [int 1,int x,str (ByteArray.mk #[]),aK],vV 56]) (aB 122 [2,5,6,10,11,12,13]) 7 h
 .have h:=h.2 c1;obtain⟨eX,eS⟩:=h;exact bN.to ((show Rq 0 151 2 (aMt t g ts g' az i aK [] 5 aK 0 []) (bF.exit 4) (sM 122 [] [.box [.sl 9 false (Sq.au t.cells),.sl 11 false (au t.bQ)],.box [int 0,int 0,str (ByteArray.mk #[]),aK],.aN g 1 false (stE ts),.aN g' 1 false (aMn az),.box [int 3,int 0,str (ByteArray.mk #[]),aK],.box [int 3,int 0,str (ByteArray.mk #[]),aK]])from aG (l1++[kf (qF c1)]) (aB 122 []) 6)) eX (eB.of_eq eS)
theorem aLP(t:TE)(g:Nat)(ts:List yP)(g':Nat)(az:List (List Int))(i:Nat)(ls:List Int)(hA:az[0+Int.toNat (i:Int)]?=some ls)(hi:i<ts.length)(has:az.length=ts.length)(hts:ts.length<=1000000)(hl:ls.length<=16)(hx:ls.length=0)(h:True):Rq 0 151 2 (aMt t g ts g' az i aK [] 5 aK 0 []) (bF.exit 4) (rDX t g ts g' az i aK [] 5 aK []):=by
 have bS:g'=g':=(rfl);have _:=h;exact aG [ko (bC.elem [ils ls]),kp bS,kR (i:Int) (az.length:Int),kp bS,kp (show(aMn az)[0+Int.toNat (i:Int)]?=some [ils ls]from(iN hA)),kv 91 (show Am.aF (int (↑(length (bH.ql ls)):Int)) (int ↑ls.length)from(aF.of_eq (by simp only[Go.bH.kD]))),kj ((0:Int)<ls.length)] (aB 122 [2,5,6,10,11,12]) 6
theorem aLQ(t:TE)(g:Nat)(ts:List yP)(g':Nat)(az:List (List Int))(i:Nat)(ls:List Int)(k:Nat)(x:Int)(g3:Nat)(z:List CV)(hA:az[0+Int.toNat (i:Int)]?=some ls)(hi:i<ts.length)(has:az.length=ts.length)(hts:ts.length<=1000000)(hl:ls.length<=16)(hz:z.length<=16)(hk:k<ls.length)(hx:ls[k]?=some x)(ex:bF)(s2:St)(h:Rq 0 151 2 (sM 122 [(2,.ptr 1 0),(5,.aU 2 g 0 ts.length),(6,.aU 3 g' 0 az.length),(10,.ptr 4 0),(11,int ↑i),(12,.ptr 5 0),(13,int ↑(k+1))] [.box [.sl 9 false (Sq.au t.cells),.sl 11 false (au t.bQ)],.box [int 0,int 0,str (ByteArray.mk #[]),aK],.aN g 1 false (stE ts),.aN g' 1 false (aMn az),.box [int 3,int 0,str (ByteArray.mk #[]),aK],.box [int 3,int 0,str (ByteArray.mk #[]),.aU 6 (g3+1) 0 (length z+1)],.aN (g3+1) 4 false (iB z++[[int 1,int x,str (ByteArray.mk #[]),aK]])]) ex s2):Rq 0 151 2 (aMt t g ts g' az i aK [] 5 (AV.aU 6 g3 0 z.length) k [ah.aN g3 4 false (iB z)]) ex s2:=by
 have bS:g'=g':=(rfl);have fT:(0:Int)<=(i:Int)/\(i:Int)<(az.length:Int):=zO;have jw:(aMn az)[0+Int.toNat (i:Int)]?=some [ils ls]:=(iN hA);exact aJ [ko (bC.elem [ils ls]),kp bS,kp fT,kp bS,kp jw,kv 91 (show Am.aF (int (↑(length (bH.ql ls)):Int)) (int ↑ls.length)from(aF.of_eq (by simp only[Go.bH.kD]))),ki ((k:Int)<ls.length),ko (bC.elem [ils ls]),ko (bC.elem (bH.LW x)),kp bS,kp fT,kp bS,kp jw,kp (show(0:Int)<=(k:Int)/\(bH.ql ls)[Int.toNat (k:Int)]?=some (bH.LW x)from(bG hx)),kq g3,kp (Go.yU.fA z).symm,vV ((length z+1)*56),kW 94 (k+1) ↑(k+1)] (aB 122 [2,5,6,10,11,12,13]) 7 h
theorem aLR(t:TE)(g:Nat)(ts:List yP)(g':Nat)(az:List (List Int))(i:Nat)(ls:List Int)(k:Nat)(g3:Nat)(z:List CV)(hA:az[0+Int.toNat (i:Int)]?=some ls)(hi:i<ts.length)(has:az.length=ts.length)(hts:ts.length<=1000000)(hl:ls.length<=16)(hk:ls.length<=k)(h:True):Rq 0 151 2 (aMt t g ts g' az i aK [] 5 (AV.aU 6 g3 0 z.length) k [ah.aN g3 4 false (iB z)]) (bF.exit 4) (rDX t g ts g' az i aK [] 5 (AV.aU 6 g3 0 z.length) [ah.aN g3 4 false (iB z)]):=by
 have bS:g'=g':=(rfl);have _:=h;exact aG [ko (bC.elem [ils ls]),kp bS,kR (i:Int) (az.length:Int),kp bS,kp (show(aMn az)[0+Int.toNat (i:Int)]?=some [ils ls]from(iN hA)),kv 91 (show Am.aF (int (↑(length (bH.ql ls)):Int)) (int ↑ls.length)from(aF.of_eq (by simp only[Go.bH.kD]))),kj ((k:Int)<ls.length)] (aB 122 [2,5,6,10,11,12]) 7
theorem aLS(t:TE)(g:Nat)(ts:List yP)(g':Nat)(az:List (List Int))(i:Nat)(ls:List Int)(s:yP)(hS:ts[0+Int.toNat (i:Int)]?=some s)(hi:i<ts.length)(hts:ts.length<=1000000)(hI:Rq 0 151 2 (aMt t g ts g' az i aK [] 5 aK 0 []) (.exit 4) (rDX t g ts g' az i aK [] 5 (.sl 4 false (iB (ls.map aMd))) []))(ex:bF)(s2:St)(h:Rq 0 151 1 (sM 122 [(2,.ptr 1 0),(5,.aU 2 g 0 ts.length),(6,.aU 3 g' 0 az.length),(10,.ptr 4 0),(11,int ↑(i+1))] [.box [.sl 9 false (Sq.au t.cells),.sl 11 false (au t.bQ)],.box [int 0,int 0,str (ByteArray.mk #[]),aK],.aN g 1 false (stE ts),.aN g' 1 false (aMn az),.box [int 3,int 0,str (ByteArray.mk #[]),.aU 6 0 0 1],.box [int 3,int 0,str (ByteArray.mk #[]),.sl 4 false (iB (List.map aMd ls))],.aN 0 4 false [[int 3,int 0,str (ByteArray.mk #[]),.sl 4 true [[int 2,int 0,str s,aK],[int 3,int 0,str (ByteArray.mk #[]),.sl 4 false (iB (List.map aMd ls))]]]]]) ex s2):Rq 0 151 1 (aMs t g ts g' az i aK []) ex s2:=by
 have bS:g=g:=(rfl);exact aJ [kp bS,ki ((i:Int)<ts.length),kl [79,80,81,82,85] 6 hI,ko (bC.elem [str s]),kp bS,kR (i:Int) (ts.length:Int),kp bS,kp (show(stE ts)[0+Int.toNat (i:Int)]?=some [str s]from(iN hS)),Qx [int 3,int 0,str (ByteArray.mk #[]),AV.sl 4 true [[int 2,int 0,str s,aK],[int 3,int 0,str (ByteArray.mk #[]),AV.sl 4 false (iB (List.map aMd ls))]]],vV 56,kW 84 (i+1) ↑(i+1)] (aB 122 [2,5,6,10,11]) 7 h
theorem aLT(t:TE)(g:Nat)(ts:List yP)(g':Nat)(az:List (List Int))(i:Nat)(g2:Nat)(rs:List CV)(ls:List Int)(x:Int)(hA:az[0+Int.toNat (i:Int)]?=some ls)(hi:i<ts.length)(has:az.length=ts.length)(hts:ts.length<=1000000)(hl:ls.length<=16)(hx:ls[0]?=some x)(ex:bF)(s2:St)(h:((((0:Int)<(ls.length:Int))->Rq 0 151 2 (sM 122 [(2,.ptr 1 0),(5,.aU 2 g 0 ts.length),(6,.aU 3 g' 0 az.length),(10,.ptr 4 0),(11,int ↑i),(12,.ptr 6 0),(13,int 1)] [.box [.sl 9 false (Sq.au t.cells),.sl 11 false (au t.bQ)],.box [int 0,int 0,str (ByteArray.mk #[]),aK],.aN g 1 false (stE ts),.aN g' 1 false (aMn az),.box [int 3,int 0,str (ByteArray.mk #[]),.aU 5 g2 0 rs.length],.aN g2 4 false (iB rs),.box [int 3,int 0,str (ByteArray.mk #[]),.aU 7 0 0 1],.aN 0 4 false [[int 1,int x,str (ByteArray.mk #[]),aK]]]) ex s2)/\((¬(0:Int)<(ls.length:Int))->(bF.exit 4=ex)/\(sM 122 [] [.box [.sl 9 false (Sq.au t.cells),.sl 11 false (au t.bQ)],.box [int 0,int 0,str (ByteArray.mk #[]),aK],.aN g 1 false (stE ts),.aN g' 1 false (aMn az),.box [int 3,int 0,str (ByteArray.mk #[]),.aU 5 g2 0 rs.length],.aN g2 4 false (iB rs),.box [int 3,int 0,str (ByteArray.mk #[]),aK]]=s2)))):Rq 0 151 2 (aMt t g ts g' az i (AV.aU 5 g2 0 rs.length) [ah.aN g2 4 false (iB rs)] 6 aK 0 []) ex s2:=by
 have bS:g'=g':=(rfl);have fT:(0:Int)<=(i:Int)/\(i:Int)<(az.length:Int):=zO;have jw:(aMn az)[0+Int.toNat (i:Int)]?=some [ils ls]:=(iN hA);let l1:List fP:=[ko (bC.elem [ils ls]),kp bS,kp fT,kp bS,kp jw,kv 91 (show Am.aF (int (↑(length (bH.ql ls)):Int)) (int ↑ls.length)from(aF.of_eq (by simp only[Go.bH.kD])))];by_cases c1:((0:Int)<(ls.length:Int))
 .have h:=h.1 c1;exact aJ (l1++[kt (qT c1),ko (bC.elem [ils ls]),ko (bC.elem (bH.LW x)),kp bS,kp fT,kp bS,kp jw,kp (show(0:Int)<=(0:Int)/\(bH.ql ls)[Int.toNat (0:Int)]?=some (bH.LW x)from(bG hx)),Qx [int 1,int x,str (ByteArray.mk #[]),aK],vV 56]) (aB 122 [2,5,6,10,11,12,13]) 8 h
 .have h:=h.2 c1;obtain⟨eX,eS⟩:=h;exact bN.to ((show Rq 0 151 2 (aMt t g ts g' az i (AV.aU 5 g2 0 rs.length) [ah.aN g2 4 false (iB rs)] 6 aK 0 []) (bF.exit 4) (sM 122 [] [.box [.sl 9 false (Sq.au t.cells),.sl 11 false (au t.bQ)],.box [int 0,int 0,str (ByteArray.mk #[]),aK],.aN g 1 false (stE ts),.aN g' 1 false (aMn az),.box [int 3,int 0,str (ByteArray.mk #[]),.aU 5 g2 0 rs.length],.aN g2 4 false (iB rs),.box [int 3,int 0,str (ByteArray.mk #[]),aK]])from aG (l1++[kf (qF c1)]) (aB 122 []) 7)) eX (eB.of_eq eS)
theorem aLU(t:TE)(g:Nat)(ts:List yP)(g':Nat)(az:List (List Int))(i:Nat)(g2:Nat)(rs:List CV)(ls:List Int)(hA:az[0+Int.toNat (i:Int)]?=some ls)(hi:i<ts.length)(has:az.length=ts.length)(hts:ts.length<=1000000)(hl:ls.length<=16)(hx:ls.length=0)(h:True):Rq 0 151 2 (aMt t g ts g' az i (AV.aU 5 g2 0 rs.length) [ah.aN g2 4 false (iB rs)] 6 aK 0 []) (bF.exit 4) (rDX t g ts g' az i (AV.aU 5 g2 0 rs.length) [ah.aN g2 4 false (iB rs)] 6 aK []):=by
 have bS:g'=g':=(rfl);have _:=h;exact aG [ko (bC.elem [ils ls]),kp bS,kR (i:Int) (az.length:Int),kp bS,kp (show(aMn az)[0+Int.toNat (i:Int)]?=some [ils ls]from(iN hA)),kv 91 (show Am.aF (int (↑(length (bH.ql ls)):Int)) (int ↑ls.length)from(aF.of_eq (by simp only[Go.bH.kD]))),kj ((0:Int)<ls.length)] (aB 122 [2,5,6,10,11,12]) 7
theorem aLV(t:TE)(g:Nat)(ts:List yP)(g':Nat)(az:List (List Int))(i:Nat)(g2:Nat)(rs:List CV)(ls:List Int)(k:Nat)(x:Int)(g3:Nat)(z:List CV)(hA:az[0+Int.toNat (i:Int)]?=some ls)(hi:i<ts.length)(has:az.length=ts.length)(hts:ts.length<=1000000)(hl:ls.length<=16)(hz:z.length<=16)(hk:k<ls.length)(hx:ls[k]?=some x)(ex:bF)(s2:St)(h:Rq 0 151 2 (sM 122 [(2,.ptr 1 0),(5,.aU 2 g 0 ts.length),(6,.aU 3 g' 0 az.length),(10,.ptr 4 0),(11,int ↑i),(12,.ptr 6 0),(13,int ↑(k+1))] [.box [.sl 9 false (Sq.au t.cells),.sl 11 false (au t.bQ)],.box [int 0,int 0,str (ByteArray.mk #[]),aK],.aN g 1 false (stE ts),.aN g' 1 false (aMn az),.box [int 3,int 0,str (ByteArray.mk #[]),.aU 5 g2 0 rs.length],.aN g2 4 false (iB rs),.box [int 3,int 0,str (ByteArray.mk #[]),.aU 7 (g3+1) 0 (length z+1)],.aN (g3+1) 4 false (iB z++[[int 1,int x,str (ByteArray.mk #[]),aK]])]) ex s2):Rq 0 151 2 (aMt t g ts g' az i (AV.aU 5 g2 0 rs.length) [ah.aN g2 4 false (iB rs)] 6 (AV.aU 7 g3 0 z.length) k [ah.aN g3 4 false (iB z)]) ex s2:=by
 have bS:g'=g':=(rfl);have fT:(0:Int)<=(i:Int)/\(i:Int)<(az.length:Int):=zO;have jw:(aMn az)[0+Int.toNat (i:Int)]?=some [ils ls]:=(iN hA);exact aJ [ko (bC.elem [ils ls]),kp bS,kp fT,kp bS,kp jw,kv 91 (show Am.aF (int (↑(length (bH.ql ls)):Int)) (int ↑ls.length)from(aF.of_eq (by simp only[Go.bH.kD]))),ki ((k:Int)<ls.length),ko (bC.elem [ils ls]),ko (bC.elem (bH.LW x)),kp bS,kp fT,kp bS,kp jw,kp (show(0:Int)<=(k:Int)/\(bH.ql ls)[Int.toNat (k:Int)]?=some (bH.LW x)from(bG hx)),kq g3,kp (Go.yU.fA z).symm,vV ((length z+1)*56),kW 94 (k+1) ↑(k+1)] (aB 122 [2,5,6,10,11,12,13]) 8 h
theorem aLW(t:TE)(g:Nat)(ts:List yP)(g':Nat)(az:List (List Int))(i:Nat)(g2:Nat)(rs:List CV)(ls:List Int)(k:Nat)(g3:Nat)(z:List CV)(hA:az[0+Int.toNat (i:Int)]?=some ls)(hi:i<ts.length)(has:az.length=ts.length)(hts:ts.length<=1000000)(hl:ls.length<=16)(hk:ls.length<=k)(h:True):Rq 0 151 2 (aMt t g ts g' az i (AV.aU 5 g2 0 rs.length) [ah.aN g2 4 false (iB rs)] 6 (AV.aU 7 g3 0 z.length) k [ah.aN g3 4 false (iB z)]) (bF.exit 4) (rDX t g ts g' az i (AV.aU 5 g2 0 rs.length) [ah.aN g2 4 false (iB rs)] 6 (AV.aU 7 g3 0 z.length) [ah.aN g3 4 false (iB z)]):=by
 have bS:g'=g':=(rfl);have _:=h;exact aG [ko (bC.elem [ils ls]),kp bS,kR (i:Int) (az.length:Int),kp bS,kp (show(aMn az)[0+Int.toNat (i:Int)]?=some [ils ls]from(iN hA)),kv 91 (show Am.aF (int (↑(length (bH.ql ls)):Int)) (int ↑ls.length)from(aF.of_eq (by simp only[Go.bH.kD]))),kj ((k:Int)<ls.length)] (aB 122 [2,5,6,10,11,12]) 8
theorem aLX(t:TE)(g:Nat)(ts:List yP)(g':Nat)(az:List (List Int))(i:Nat)(g2:Nat)(rs:List CV)(ls:List Int)(s:yP)(hS:ts[0+Int.toNat (i:Int)]?=some s)(hi:i<ts.length)(hts:ts.length<=1000000)(hr:rs.length<=1000000)(hI:Rq 0 151 2 (aMt t g ts g' az i (.aU 5 g2 0 rs.length) [.aN g2 4 false (iB rs)] 6 aK 0 []) (.exit 4) (rDX t g ts g' az i (.aU 5 g2 0 rs.length) [.aN g2 4 false (iB rs)] 6 (.sl 4 false (iB (ls.map aMd))) []))(ex:bF)(s2:St)(h:Rq 0 151 1 (sM 122 [(2,.ptr 1 0),(5,.aU 2 g 0 ts.length),(6,.aU 3 g' 0 az.length),(10,.ptr 4 0),(11,int ↑(i+1))] [.box [.sl 9 false (Sq.au t.cells),.sl 11 false (au t.bQ)],.box [int 0,int 0,str (ByteArray.mk #[]),aK],.aN g 1 false (stE ts),.aN g' 1 false (aMn az),.box [int 3,int 0,str (ByteArray.mk #[]),.aU 5 (g2+1) 0 (length rs+1)],.aN (g2+1) 4 false (iB rs++[[int 3,int 0,str (ByteArray.mk #[]),.sl 4 true [[int 2,int 0,str s,aK],[int 3,int 0,str (ByteArray.mk #[]),.sl 4 false (iB (List.map aMd ls))]]]])]) ex s2):Rq 0 151 1 (aMs t g ts g' az i (AV.aU 5 g2 0 rs.length) [ah.aN g2 4 false (iB rs)]) ex s2:=by
 have bS:g=g:=(rfl);exact aJ [kp bS,ki ((i:Int)<ts.length),kl [79,80,81,82,85] 7 hI,ko (bC.elem [str s]),kp bS,kR (i:Int) (ts.length:Int),kp bS,kp (show(stE ts)[0+Int.toNat (i:Int)]?=some [str s]from(iN hS)),kq g2,kp (Go.yU.fA rs).symm,vV ((length rs+1)*56),kW 84 (i+1) ↑(i+1),kp (axp ts),kp (axq az),kp (show ∀(x:List AV),x∈iB rs++[[int 3,int 0,str (ByteArray.mk #[]),AV.sl 4 true [[int 2,int 0,str s,aK],[int 3,int 0,str (ByteArray.mk #[]),AV.sl 4 false (iB (List.map aMd ls))]]]]->AV.gH 6 x=true from(by exact(Am.dx (Am.agW (Go.yU.CF _) _) (Am.dM rfl Am.eU))))] (aB 122 [2,5,6,10,11]) 6 h
theorem aLY(t:TE)(g:Nat)(ts:List yP)(g':Nat)(az:List (List Int))(i:Nat)(g2:Nat)(rs:List CV)(hi:ts.length<=i)(h:True):Rq 0 151 1 (aMs t g ts g' az i (AV.aU 5 g2 0 rs.length) [ah.aN g2 4 false (iB rs)]) (bF.exit 2) (rCX t g ts g' az (AV.aU 5 g2 0 rs.length) [ah.aN g2 4 false (iB rs)]):=by
 have _:=h;exact aG [kq g,kj ((i:Int)<ts.length)] (aB 122 [2,10]) 6
theorem aJg(t:TE)(e:Int)(he:e≠0)(hc:Cq 171 [mG t] (int e))(o:aS)(H':List ah)(h:(aS.ret (AV.bq [AV.agg [int 0,int 0,str (ByteArray.mk #[]),aK],int e])=o)/\([]=H')):ak P G 151 [mG t] [] o H':=by
 obtain⟨e1,eH⟩:=h;exact ak.heap (e1▸((show Cq 151 [mG t] (.bq [.agg [int 0,int 0,str (ByteArray.mk #[]),aK],int e])from aj [kc [] hc,kt (show(e != 0)=true from(y27 (qF zO)))]))) eH
theorem aJh(t:TE)(hc:Cq 171 [mG t] (int 0))(hL:Rq 0 151 0 (aMp t 0) (.exit 0) (rAX t))(hM:Rq 0 151 1 { aL:=aC 122 [(2,.ptr 1 0),(5,aK),(6,aK),(10,.ptr 2 0),(11,int 0)],H:=[sbT t,aMo,aMr aK] } (.exit 2) { aL:=aC 122 [(2,.ptr 1 0),(10,.ptr 2 0)],H:=[sbT t,aMo,aMr aK] })(o:aS)(H':List ah)(h:(aS.ret (AV.bq [AV.agg [int 3,int 0,str (ByteArray.mk #[]),aK],int 0])=o)/\([]=H')):ak P G 151 [mG t] [] o H':=by
 obtain⟨e1,eH⟩:=h;exact ak.heap (e1▸((show Cq 151 [mG t] (.bq [.agg [int 3,int 0,str (ByteArray.mk #[]),aK],int 0])from aj [kc [] hc,kY,kl (rG [(0,1),(3,2),(8,114)]) 2 hL,kl [78] 3 hM]))) eH
theorem aLZ(t:TE)(h:True):Rq 0 151 1 (sM 122 [(2,.ptr 1 0),(5,aK),(6,aK),(10,.ptr 2 0),(11,int 0)] [sbT t,aMo,aMr aK]) (bF.exit 2) (sM 122 [(2,.ptr 1 0),(10,.ptr 2 0)] [sbT t,aMo,aMr aK]):=by
 have _:=h;exact aG [kY] (aB 122 [2,10]) 3
theorem aJi(t:TE)(g:Nat)(ts:List yP)(g':Nat)(az:List (List Int))(g2:Nat)(rs:List CV)(hc:Cq 171 [mG t] (int 0))(hL:Rq 0 151 0 (aMp t 0) (.exit 0) (rBX t g ts g' az))(hM:Rq 0 151 1 (aMs t g ts g' az 0 aK []) (.exit 2) (rCX t g ts g' az (.aU 5 g2 0 rs.length) [.aN g2 4 false (iB rs)]))(o:aS)(H':List ah)(h:(aS.ret (AV.bq [AV.agg [int 3,int 0,str (ByteArray.mk #[]),AV.sl 4 false (iB rs)],int 0])=o)/\([]=H')):ak P G 151 [mG t] [] o H':=by
 obtain⟨e1,eH⟩:=h;exact ak.heap (e1▸((show Cq 151 [mG t] (.bq [.agg [int 3,int 0,str (ByteArray.mk #[]),.sl 4 false (iB rs)],int 0])from aj [kc [] hc,kY,kl (rG [(0,1),(3,2),(8,114)]) 2 hL,kl [78] 5 hM,ko (bC.fz (some 121) (iB rs)),kq g2,kp (show List.take rs.length (List.drop 0 (iB rs))=iB rs from(Go.yU.aa7 _)),kp (Go.yU.fA rs),kp (Go.yU.WV rs)]))) eH
end Go.Tx
namespace Go.Am
open Go
def aA5(x y:AV):Prop:=∀w M v,dR w M x v->dR w M y v
theorem aA5.refl(x:AV):aA5 x x:=fun _ _ _ h=>h
theorem aA5.nil(sz:Nat):aA5 (.lit (.slice none 0 0)) (.sl sz false []):=fun w M v h=>by
 cases h;exact .sl sz false [] none 0 0 0 (fun _ _=>undef) (fun h=>absurd rfl h) (fun h=>absurd rfl h) yM (fun h=>by cases h) (fun x hx=>by cases hx) (fun k j hk=>absurd hk (y24 _)) (fun k j hk=>absurd hk (y24 _)) (fun k j hk=>absurd hk (y24 _))
theorem aF.slP{sz:Nat}{t:Bool}{xs ys:List (List AV)}(hl:ys.length=xs.length)(iZ:∀y∈ys,y.length=sz)(h:∀k j,k<xs.length->j<sz->aA5 ((xs.getD k []).getD j .aP) ((ys.getD k []).getD j .aP)):aF (.sl sz t xs) (.sl sz false ys):=fun V v h9=>by
 have hp:=jF h9;cases hp with
 |sl _ _ _ A cap b o vs hA hb pK ht h1 hc ho hr =>
  have fF:ys≠[]->xs≠[]:=fun h1 h2=>h1 (y02 (by rw[hl,h2];rfl));have:dR V.w V.M (.sl sz false ys) (.slice A ys.length cap):=.sl sz false ys A cap b o vs (fun h=>hA (fF h)) (fun h=>hb (fF h)) zO (fun h=>by cases h) iZ (fun k j hk hj=>hc k j zO hj) (fun k j hk hj=>ho k j zO hj) (fun k j hk hj=>h k j zO hj _ _ _ (hr k j zO hj));rw[hl]at this;exact .pure _ _ this
end Go.Am
namespace Go.Tx
open Go Go.Am Go.Proofs Go.eY
open Go.Sq (CE nP bZ oO vM fX U2 kQ jg)
open Go.yU (CV iB)
theorem aB1(s:yP)(ls:List Int):aF (.sl 4 true [[int 2,int 0,str s,aK],[int 3,int 0,str y28,.sl 4 false (iB (ls.map aMd))]]) (.sl 4 false (iB [aMj s,azL (ls.map aMd)])):=by
 rw[aBW];refine aF.slP rfl (fun y hy=>?_) fun k j hk hj=>?_
 .simp only[yH,y12,or_false]at hy;rcases hy with rfl|rfl<;>rfl
 .match k,hk with
  |0,_=>match j,hj with
   |0,_=>exact aA5.refl _
   |1,_=>exact aA5.refl _
   |2,_=>exact aA5.refl _
   |3,_=>exact aA5.nil 4
  |1,_=>exact aA5.refl _
theorem aFK(t:TE)(g:Nat)(ts:List yP)(g':Nat)(az:List (List Int))(i:Nat)(ls:List Int)(hA:az[0+Int.toNat (i:Int)]?=some ls)(hi:i<ts.length)(haz:az.length=ts.length)(hts:ts.length<=1000000)(hl:ls.length<=16):∀d k g3,ls.length-k=d->k<=ls.length->∃g4,bN P G none 0 (vg P 151 2) (aMt t g ts g' az i aK [] 5 (.aU 6 g3 0 ((ls.take k).map aMd).length) k [.aN g3 4 false (iB ((ls.take k).map aMd))]) (.exit 4) (rDX t g ts g' az i aK [] 5 (.aU 6 g4 0 (ls.map aMd).length) [.aN g4 4 false (iB (ls.map aMd))]):=by
 intro d
 induction d with
 |zero =>
  intro k g3 hd hk;rw[y23 zO];exact⟨g3,aLR t g ts g' az i ls k g3 _ hA hi haz hts hl zO yO⟩
 |succ d ih =>
  intro k g3 hd hk;have bg:k<ls.length:=zO
  have hx:ls[k]?=some ls[k]:=yA bg;obtain⟨g4,nx⟩:=ih (k+1) (g3+1) zO zO;have e:(ls.take (k+1)).map aMd=(ls.take k).map aMd++[aMd ls[k]]:=by rw[take_succ_eq_append_getElem bg,map_append];rfl
  refine⟨g4,aLQ t g ts g' az i ls k ls[k] g3 _ hA hi haz hts hl (by simp;omega) bg hx _ _ ?_⟩;refine bN.aiS (b:=6) (k:=((ls.take k).map aMd).length) (j:=3) rfl (auy _ _ _ (yU.fA _).symm) rfl (aF.afp 4 none 0) ?_;rw[awt _ _ _ _ (yU.fA _).symm];rw[e,yD,<- yU.avw]at nx;exact nx
theorem aFL(t:TE)(g:Nat)(ts:List yP)(g':Nat)(az:List (List Int))(i g2:Nat)(rs:List CV)(ls:List Int)(hA:az[0+Int.toNat (i:Int)]?=some ls)(hi:i<ts.length)(haz:az.length=ts.length)(hts:ts.length<=1000000)(hl:ls.length<=16):∀d k g3,ls.length-k=d->k<=ls.length->∃g4,bN P G none 0 (vg P 151 2) (aMt t g ts g' az i (.aU 5 g2 0 rs.length) [.aN g2 4 false (iB rs)] 6 (.aU 7 g3 0 ((ls.take k).map aMd).length) k [.aN g3 4 false (iB ((ls.take k).map aMd))]) (.exit 4) (rDX t g ts g' az i (.aU 5 g2 0 rs.length) [.aN g2 4 false (iB rs)] 6 (.aU 7 g4 0 (ls.map aMd).length) [.aN g4 4 false (iB (ls.map aMd))]):=by
 intro d
 induction d with
 |zero =>
  intro k g3 hd hk;rw[y23 zO];exact⟨g3,aLW t g ts g' az i g2 rs ls k g3 _ hA hi haz hts hl zO yO⟩
 |succ d ih =>
  intro k g3 hd hk;have bg:k<ls.length:=zO
  have hx:ls[k]?=some ls[k]:=yA bg;obtain⟨g4,nx⟩:=ih (k+1) (g3+1) zO zO;have e:(ls.take (k+1)).map aMd=(ls.take k).map aMd++[aMd ls[k]]:=by rw[take_succ_eq_append_getElem bg,map_append];rfl
  refine⟨g4,aLV t g ts g' az i g2 rs ls k ls[k] g3 _ hA hi haz hts hl (by simp;omega) bg hx _ _ ?_⟩;refine bN.aiS (b:=7) (k:=((ls.take k).map aMd).length) (j:=3) rfl (auy _ _ _ (yU.fA _).symm) rfl (aF.afp 4 none 0) ?_;rw[awt _ _ _ _ (yU.fA _).symm];rw[e,yD,<- yU.avw]at nx;exact nx
theorem aG7(t:TE)(g:Nat)(ts:List yP)(g':Nat)(az:List (List Int))(i:Nat)(ls:List Int)(hA:az[0+Int.toNat (i:Int)]?=some ls)(hi:i<ts.length)(haz:az.length=ts.length)(hts:ts.length<=1000000)(hl:ls.length<=16):bN P G none 0 (vg P 151 2) (aMt t g ts g' az i aK [] 5 aK 0 []) (.exit 4) (rDX t g ts g' az i aK [] 5 (.sl 4 false (iB (ls.map aMd))) []):=by
 cases ls with
 |nil=>exact bN.aBq (b:=5) (j:=3) (aLP t g ts g' az i [] hA hi haz hts hl rfl yO) rfl rfl (aF.afp 4 none 0)
 |cons v l =>
  obtain⟨g4,h⟩:=aFK t g ts g' az i (v::l) hA hi haz hts hl _ 1 0 rfl zS;have h0:=aLO t g ts g' az i (v::l) v hA hi haz hts hl rfl _ _ ⟨fun _=>bN.aiS (b:=6) (k:=0) (j:=3) rfl rfl rfl (aF.afp 4 none 0) h,fun h=>absurd zS h⟩;let z:=iB ((v::l).map aMd);let HF:List ah:=aMq t g ts g' az++[aMr aK]++[]++[aMr (.aU 6 g4 0 ((v::l).map aMd).length)]++[.aN g4 4 true z];have e:mR (rDX t g ts g' az i aK [] 5 (.aU 6 g4 0 ((v::l).map aMd).length) [.aN g4 4 false z]).H (.aU 6 g4 0 ((v::l).map aMd).length) z=some (.sl 4 false z,HF,[g4=g4,(z.drop 0).take ((v::l).map aMd).length=z,z.length=((v::l).map aMd).length,∀c∈z,c.all AV.fJ=true]):=rfl;have hp:gZ [g4=g4,(z.drop 0).take ((v::l).map aMd).length=z,z.length=((v::l).map aMd).length,∀c∈z,c.all AV.fJ=true]:=⟨rfl,az3 _,yU.fA _,yU.WV _,yO⟩;have h1:=bN.ahI (b:=5) (j:=3) (cells:=[int 3,int 0,str (ByteArray.mk #[]),.aU 6 g4 0 ((v::l).map aMd).length]) h0 rfl (H1:=HF) rfl rfl e hp;exact bN.cut 6 h1 (fun x h=>by cases h) rfl ⟨axp _,axq _,yO⟩
theorem aG8(t:TE)(g:Nat)(ts:List yP)(g':Nat)(az:List (List Int))(i g2:Nat)(rs:List CV)(ls:List Int)(hA:az[0+Int.toNat (i:Int)]?=some ls)(hi:i<ts.length)(haz:az.length=ts.length)(hts:ts.length<=1000000)(hl:ls.length<=16):bN P G none 0 (vg P 151 2) (aMt t g ts g' az i (.aU 5 g2 0 rs.length) [.aN g2 4 false (iB rs)] 6 aK 0 []) (.exit 4) (rDX t g ts g' az i (.aU 5 g2 0 rs.length) [.aN g2 4 false (iB rs)] 6 (.sl 4 false (iB (ls.map aMd))) []):=by
 cases ls with
 |nil=>exact bN.aBq (b:=6) (j:=3) (aLU t g ts g' az i g2 rs [] hA hi haz hts hl rfl yO) rfl rfl (aF.afp 4 none 0)
 |cons v l =>
  obtain⟨g4,h⟩:=aFL t g ts g' az i g2 rs (v::l) hA hi haz hts hl _ 1 0 rfl zS;have h0:=aLT t g ts g' az i g2 rs (v::l) v hA hi haz hts hl rfl _ _ ⟨fun _=>bN.aiS (b:=7) (k:=0) (j:=3) rfl rfl rfl (aF.afp 4 none 0) h,fun h=>absurd zS h⟩;let z:=iB ((v::l).map aMd);let HF:List ah:=aMq t g ts g' az++[aMr (.aU 5 g2 0 rs.length)]++[.aN g2 4 false (iB rs)]++[aMr (.aU 7 g4 0 ((v::l).map aMd).length)]++[.aN g4 4 true z];have e:mR (rDX t g ts g' az i (.aU 5 g2 0 rs.length) [.aN g2 4 false (iB rs)] 6 (.aU 7 g4 0 ((v::l).map aMd).length) [.aN g4 4 false z]).H (.aU 7 g4 0 ((v::l).map aMd).length) z=some (.sl 4 false z,HF,[g4=g4,(z.drop 0).take ((v::l).map aMd).length=z,z.length=((v::l).map aMd).length,∀c∈z,c.all AV.fJ=true]):=rfl;have hp:gZ [g4=g4,(z.drop 0).take ((v::l).map aMd).length=z,z.length=((v::l).map aMd).length,∀c∈z,c.all AV.fJ=true]:=⟨rfl,az3 _,yU.fA _,yU.WV _,yO⟩;have h1:=bN.ahI (b:=6) (j:=3) (cells:=[int 3,int 0,str (ByteArray.mk #[]),.aU 7 g4 0 ((v::l).map aMd).length]) h0 rfl (H1:=HF) rfl rfl e hp;exact bN.cut 7 h1 (fun x h=>by cases h) rfl ⟨axp _,axq _,agW (yU.CF _) 7,yO⟩
def prs(ts:List yP)(az:List (List Int)):List CV:=zipWith prV ts az
variable {az:List (List Int)}{ts:List yP}
theorem aAX(h:az.length=ts.length):(prs ts az).length=ts.length:=by
 unfold prs;rw[length_zipWith];omega
variable {i:Nat}
theorem aB2(h:az.length=ts.length)(hi:i<ts.length):(prs ts az).take (i+1)=(prs ts az).take i++[prV ts[i] (az[i]'zO)]:=by
 rw[take_succ_eq_append_getElem (by rw[aAX h];exact hi)];unfold prs;rw[getElem_zipWith]
theorem aB3(h:az.length=ts.length)(s:yP)(ls:List Int):prs (ts++[s]) (az++[ls])=prs ts az++[prV s ls]:=by
 unfold prs;rw[zipWith_append h.symm];rfl
theorem el0{α:Type}{l:List α}(h:i<l.length):l[0+Int.toNat (i:Int)]?=some l[i]:=by
 rw[show 0+Int.toNat (i:Int)=i by omega];exact yA h
theorem aG9(t:TE)(g:Nat)(ts:List yP)(g':Nat)(az:List (List Int))(haz:az.length=ts.length)(hts:ts.length<=1000000)(hl:∀ls∈az,ls.length<=16):∀d i g2,ts.length-i=d->i<=ts.length->∃g3,bN P G none 0 (vg P 151 1) (aMs t g ts g' az i (.aU 5 g2 0 ((prs ts az).take i).length) [.aN g2 4 false (iB ((prs ts az).take i))]) (.exit 2) (rCX t g ts g' az (.aU 5 g3 0 (prs ts az).length) [.aN g3 4 false (iB (prs ts az))]):=by
 intro d
 induction d with
 |zero =>
  intro i g2 hd hi;rw[y23 (by rw[aAX haz];omega)];exact⟨g2,aLY t g ts g' az i g2 _ zO yO⟩
 |succ d ih =>
  intro i g2 hd hi;have bg:i<ts.length:=zO
  have hlz:i<az.length:=zO
  obtain⟨g3,nx⟩:=ih (i+1) (g2+1) zO zO;have hls:=hl az[i] (y03 hlz);refine⟨g3,aLX t g ts g' az i g2 ((prs ts az).take i) az[i] ts[i] (el0 bg) bg hts (by rw[y18];omega) (aG8 t g ts g' az i g2 _ az[i] (el0 hlz) bg haz hts hls) _ _ ?_⟩;refine bN.aiS (b:=5) (k:=((prs ts az).take i).length) (j:=3) rfl (auy _ _ _ (yU.fA _).symm) rfl (aB1 _ _) ?_;rw[awt _ _ _ _ (yU.fA _).symm];rw[aB2 haz bg,yD,WU]at nx;exact nx
theorem aJj(t:TE)(g:Nat)(ts:List yP)(g':Nat)(az:List (List Int))(haz:az.length=ts.length)(h0:0<ts.length)(hts:ts.length<=1000000)(hl:∀ls∈az,ls.length<=16):∃g3,bN P G none 0 (vg P 151 1) (aMs t g ts g' az 0 aK []) (.exit 2) (rCX t g ts g' az (.aU 5 g3 0 (prs ts az).length) [.aN g3 4 false (iB (prs ts az))]):=by
 have hz:0<az.length:=zO
 obtain⟨g3,nx⟩:=aG9 t g ts g' az haz hts hl _ 1 0 rfl zO;refine⟨g3,aLS t g ts g' az 0 az[0] ts[0] (el0 h0) h0 hts (aG7 t g ts g' az 0 az[0] (el0 hz) h0 haz hts (hl _ (y03 hz))) _ _ ?_⟩;have e:(prs ts az).take 1=[prV ts[0] az[0]]:=by
  have:=aB2 haz h0;rwa[take_zero,nil_append]at this
 have nx2:bN P G none 0 (vg P 151 1) (aMs t g ts g' az 1 (.aU 5 0 0 1) [.aN 0 4 false [[int 3,int 0,str y28,.sl 4 true [[int 2,int 0,str ts[0],aK],[int 3,int 0,str y28,.sl 4 false (iB (az[0].map aMd))]]]]]) (.exit 2) (rCX t g ts g' az (.aU 5 g3 0 (prs ts az).length) [.aN g3 4 false (iB (prs ts az))]):=by
  refine bN.aiS (b:=5) (k:=0) (j:=3) rfl rfl rfl (aB1 _ _) ?_;rw[e]at nx;have e2:iB [prV ts[0] az[0]]=[[int 3,int 0,str y28,.sl 4 false (iB [aMj ts[0],azL (az[0].map aMd)])]]:=by
   have:=WU [] ts[0] az[0];rw[nil_append]at this;rw[this];simp[iB]
  rw[e2]at nx;exact nx
 refine bN.aBr (s2:=aMs t g ts g' az 1 (.aU 5 0 0 1) [.aN 0 4 false [[int 3,int 0,str y28,.sl 4 true [[int 2,int 0,str ts[0],aK],[int 3,int 0,str y28,.sl 4 false (iB (az[0].map aMd))]]]]]) (fun i=>if i=5 then 6 else i) (fun i hi=>absurd hi (y24 _)) yN (fun i h1 h2=>yN) (fun i j h1 h2 h=>by
  have h1:i<6:=h1;have h2:j<6:=h2;have h:(if i=5 then 6 else i)=(if j=5 then 6 else j):=h;split at h<;>split at h<;>omega) (fun i o ho=>?_) (fun i o ho=>?_) rfl rfl rfl rfl nx2
 .match i,ho with
  |0,ho=>cases ho;rfl
  |1,ho=>cases ho;rfl
  |2,ho =>
   cases ho;show some (ah.aN g 1 false (stE ts))=some (ah.aN g 1 false ((stE ts).map (AV.kH _)));rw[az4 (axp _)]
  |3,ho =>
   cases ho;show some (ah.aN g' 1 false (aMn az))=some (ah.aN g' 1 false ((aMn az).map (AV.kH _)));rw[az4 (axq _)]
  |4,ho=>cases ho;rfl
  |5,ho=>cases ho;rfl
  |n+6,ho=>cases ho
 .match i,ho with
  |0,ho=>cases ho;show AV.gH _ _=true;rfl
  |1,ho=>cases ho;show AV.gH _ _=true;rfl
  |2,ho=>cases ho;exact agW (axp _) _
  |3,ho=>cases ho;exact agW (axq _) _
  |4,ho=>cases ho;show AV.gH _ _=true;rfl
  |5,ho =>
   cases ho;intro x hx;have hx:x∈[[int 3,int 0,str y28,AV.sl 4 true [[int 2,int 0,str ts[0],aK],[int 3,int 0,str y28,.sl 4 false (iB (az[0].map aMd))]]]]:=hx;simp only[yH,y12,or_false]at hx;subst hx;rfl
  |n+6,ho=>cases ho
theorem aFM(t:TE)(h:Val t)(hc:t.cells.length<=900000)(hv:t.bQ.length<=900000):∀d k,t.cells.length-k=d->k<=t.cells.length->∀(g:Nat)(ts:List yP)(s:yP)(g':Nat)(az:List (List Int))(l0:List Int),az.length=ts.length->ts.length+1<=k->s.size<=k->(∀ls∈az++[l0],ls.length<=16) ->
 ∃g2 ts2 g3 az2,bN P G none 0 (vg P 151 0) (rB t k g ts s g' az l0) (.exit 0) (rBX t g2 ts2 g3 az2)/\az2.length=ts2.length/\0<ts2.length/\ts2.length<=t.cells.length/\(∀ls∈az2,ls.length<=16)/\prs ts2 az2=rn (axt t) (t.cells.drop k) k (some (prs ts az,s,l0)):=by
 intro d
 induction d with
 |zero =>
  intro k hd hk g ts s g' az l0 haz hts hs hl;rw[y14 zO];refine⟨g,ts++[s],g',az++[l0],?_,by simp[haz],zS,by simp;omega,hl,aB3 haz s l0⟩;refine aLK t k g ts s g' az l0 zO _ _ ⟨rfl,?_⟩;unfold rBX;rw[<- aBZ,<- aB0,yD,yD];rfl
 |succ d ih =>
  intro k hd hk g ts s g' az l0 haz hts hs hl;have bg:k<t.cells.length:=zO
  have hx:t.cells[k]?=some t.cells[k]:=yA bg;have rY:t.cells[k].vl.size=1:=h.one _ (y03 bg);rw[y01 bg,rn];cases hg:t.cells[k].gn with
  |true =>
   rw[yL rfl];obtain⟨g2,ts2,g3,az2,nx,p⟩:=ih (k+1) zO zO g ts s g' az l0 haz zO zO hl;exact⟨g2,ts2,g3,az2,aLL t k g ts s g' az l0 _ zO zO hx hg _ _ nx,p⟩
  |false =>
   rw[yK zD];have fB:=aAS t (k:Int) zO zO;have hll:l0.length<=16:=hl l0 zS;have Y2:=aEZ l0 (axt t k) zO (by have:=aAi t (k:Int);unfold axt;omega);have hL2:(aMn az++[[ils l0]])[0+Int.toNat (((ts.length+1:Nat):Int)-1)]?=some [ils l0]:=by
    rw[show 0+Int.toNat (((ts.length+1:Nat):Int)-1)=ts.length by omega];exact auy _ _ _ (by rw[aAd];omega)
   by_cases he:axt t k=l0
   .rw [yL he];rw[y15 he.symm]at Y2;obtain⟨g2,ts2,g3,az2,nx,p⟩:=ih (k+1) zO zO g ts (s++t.cells[k].vl) g' az l0 haz zO (by rw[ByteArray.size_append];omega) hl;refine⟨g2,ts2,g3,az2,aLM t k g ts s g' az l0 _ (axt t k) zO zO zO haz hx hg zO (by
     rw[show 0+Int.toNat (((ts.length+1:Nat):Int)-1)=ts.length by omega];exact auy _ _ _ (by rw[axo])) hL2 fB Y2 _ _ ?_,p⟩
    have e:(stE ts++[[str s]]).set (0+Int.toNat (((ts.length+1:Nat):Int)-1)) [str (s++t.cells[k].vl)]=stE ts++[[str (s++t.cells[k].vl)]]:=by
     rw[show 0+Int.toNat (((ts.length+1:Nat):Int)-1)=ts.length by omega];exact awt _ _ _ _ (by rw[axo])
    first
     |exact nx
     |(rw[e];exact nx)
   .rw [yK he];rw[y16 (fun e=>he e.symm)]at Y2;obtain⟨g2,ts2,g3,az2,nx,p⟩:=ih (k+1) zO zO (g+1) (ts++[s]) t.cells[k].vl (g'+1) (az++[l0]) (axt t k) (by simp[haz]) (by simp;omega) zO (fun ls hls=>by
     rcases yI.1 hls with h1|h1
     .exact hl ls h1
     .rw [mem_singleton.1 h1];exact aAi t _)
    rw[aB3 haz]at p;refine⟨g2,ts2,g3,az2,aLN t k g ts s g' az l0 _ (axt t k) zO zO zO haz hx hg hL2 fB Y2 _ _ ?_,p⟩;unfold rB at nx;rw[<- aBZ,<- aB0,yD,yD]at nx;exact nx
theorem aFN(t:TE)(h:Val t)(hc:t.cells.length<=900000)(hv:t.bQ.length<=900000):∀d k,t.cells.length-k=d->k<=t.cells.length ->
 (rn (axt t) (t.cells.drop k) k none=[]/\bN P G none 0 (vg P 151 0) (aMp t k) (.exit 0) (rAX t)) \/
 ∃g2 ts2 g3 az2,bN P G none 0 (vg P 151 0) (aMp t k) (.exit 0) (rBX t g2 ts2 g3 az2)/\az2.length=ts2.length/\0<ts2.length/\ts2.length<=t.cells.length/\(∀ls∈az2,ls.length<=16)/\prs ts2 az2=rn (axt t) (t.cells.drop k) k none:=by
 intro d
 induction d with
 |zero =>
  intro k hd hk;rw[y14 zO];exact .inl ⟨rfl,aLI t k zO yO⟩
 |succ d ih =>
  intro k hd hk;have bg:k<t.cells.length:=zO
  have hx:t.cells[k]?=some t.cells[k]:=yA bg;have rY:t.cells[k].vl.size=1:=h.one _ (y03 bg);rw[y01 bg,rn];cases hg:t.cells[k].gn with
  |true =>
   rw[yL rfl];rcases ih (k+1) zO zO with⟨q1,q2⟩|⟨g2,ts2,g3,az2,nx,p⟩
   .exact .inl ⟨q1,aJf t k _ zO zO hx hg _ _ q2⟩
   .exact .inr ⟨g2,ts2,g3,az2,aJf t k _ zO zO hx hg _ _ nx,p⟩
  |false =>
   rw[yK zD];have fB:=aAS t (k:Int) zO zO;obtain⟨g2,ts2,g3,az2,nx,p⟩:=aFM t h hc hv d (k+1) zO zO 0 [] t.cells[k].vl 0 [] (axt t k) rfl zS zO (fun ls hls=>by
    rw[nil_append]at hls;rw[mem_singleton.1 hls];exact aAi t _)
   exact .inr ⟨g2,ts2,g3,az2,aLJ t k _ (axt t k) zO zO hx hg fB _ _ nx,p⟩
theorem aCD(t:TE)(hl:X4 t):ak P G 151 [mG t] [] (.ret (.bq [yU.val (aB8 t),int (vC t)])) []:=by
 have hk:=axh t hl;have h1:=hl.cells;have h2:=hl.bQ;unfold aB8;by_cases h0:vC t=0
 .rw [yL h0,h0];rw[h0]at hk;rcases aFN t (Yp.1 h0) zO zO _ 0 rfl yN with⟨q1,q2⟩|⟨g2,ts2,g3,az2,q,p1,p2,p3,p4,p5⟩
  .rw [drop_zero]at q1;have:=aJh t hk q2 (aLZ t yO) _ _ ⟨rfl,rfl⟩;unfold aFy;rw[q1];exact this.out (.U1 (.qo ⟨y29,y29,y29,aF.nil 4,yO⟩) (y29))
  .rw [drop_zero]at p5;obtain⟨g4,hM⟩:=aJj t g2 ts2 g3 az2 p1 p2 zO p4;have:=aJi t g2 ts2 g3 az2 g4 (prs ts2 az2) hk q hM _ _ ⟨rfl,rfl⟩;unfold aFy;rw[<- p5];exact this
 .rw [yK h0];have:=aJg t _ h0 hk _ _ ⟨rfl,rfl⟩;exact this.out (.U1 (.qo ⟨y29,y29,y29,aF.nil 4,yO⟩) (y29))
end Go.Tx
namespace Go.Dc
open Go Go.Am Go.Proofs Go.eY Go.bH
def vaS(i:Nat)(f:FD)(v:List D)(k:Nat):St:={ aL:=aC 179 [(1,bB v),(2,.ptr 0 0),(4,Am.bool false),(i,int k)],H:=[.box (jB f)] }
def vaX(f:FD)(v:List D):St:={ aL:=aC 179 [(1,bB v),(2,.ptr 0 0),(4,Am.bool false)],H:=[.box (jB f)] }
theorem aL0(f:FD)(v:List D)(hs:(f.pn.size:Int)>64)(h:True):Cq 64 [.agg (jB f),bB v] (Am.bool false):=by
 have _:=h;exact aj [ki ((↑(ByteArray.size f.pn):Int)>64)]
theorem aL1(f:FD)(v:List D)(hs:¬(f.pn.size:Int)>64)(hk:f.pk=1)(p b:Bool)(e:Int)(hP:Cq 166 [.agg [Sq.bZ f.tc,Tx.oI f.tm]] (Am.bool p))(hC:Cq 167 [Sq.bZ f.ce] (int e))(hL:Cq 168 [Sq.bZ f.ce,bB v] (Am.bool b))(r:Bool)(h:((((↑(length f.bi):Int)=0)->((((↑(length f.ta):Int)=0)->((((p)=true)->(((e=0)->(b)=(r))/\((¬e=0)->(false)=(r))))/\(((p)=false)->(false)=(r))))/\((¬(↑(length f.ta):Int)=0)->(false)=(r))))/\((¬(↑(length f.bi):Int)=0)->(false)=(r)))):Cq 64 [.agg (jB f),bB v] (Am.bool r):=by
 let l1:List fP:=[kj ((↑(ByteArray.size f.pn):Int)>64),kt (show(f.pk==1)=true from(qT zO)),kv 20 (show Am.aF (int (↑(length (Bd.au f.bi)):Int)) (int ↑(length f.bi))from(aF.of_eq (by simp only[Go.Bd.ay])))];by_cases c3:((↑(length f.bi):Int)=0)
 .have h:=h.1 c3;let l2:List fP:=l1++[kt (nW.2 c3),kN 25 (dP f.ta)];by_cases c4:((↑(length f.ta):Int)=0)
  .have h:=h.1 c4;rcases y00 ((p))with c5|c5
   .have h:=h.1 c5;by_cases c6:(e=0)
    .have h:=h.1 c6;exact aA (aF.aI h) (l2++[kt (nW.2 c4),kc [] hP,kt c5,kc [] hC,kt (nW.2 c6),kc [] hL])
    .have h:=h.2 c6;exact aA (aF.aI h) (l2++[kt (nW.2 c4),kc [] hP,kt c5,kc [] hC,kf (qN.2 c6)])
   .have h:=h.2 c5;exact aA (aF.aI h) (l2++[kt (nW.2 c4),kc [] hP,kf c5,kY])
  .have h:=h.2 c4;exact aA (aF.aI h) (l2++[kf (qN.2 c4),kY,kY])
 .have h:=h.2 c3;exact aA (aF.aI h) (l1++[kf (qN.2 c3),kY,kY,kY])
theorem aJk(f:FD)(v:List D)(k:Nat)(hk:¬(k:Int)<(f.bi.length:Int))(h:True):Rq 0 64 0 (vaS 5 f v k) (bF.exit 1) (vaX f v):=by
 have _:=h;exact aG [kv 50 (show Am.aF (int (↑(length (Bd.au f.bi)):Int)) (int ↑(length f.bi))from(aF.of_eq (by simp only[Go.Bd.ay]))),kj ((k:Int)<(↑(length f.bi):Int))] (aB 179 [1,2,4]) 1
theorem aJl(f:FD)(v:List D)(k:Nat)(x:Bd.BE)(hl:f.bi.length<=1000000)(hk:(k:Int)<(f.bi.length:Int))(hx:f.bi[k]?=some x)(hC:Cq 48 [bB v,eG (x.dv,x.sq)] (Am.bool true))(ex:bF)(s':St)(h:Rq 0 64 0 (sM 179 [(1,bB v),(2,.ptr 0 0),(4,Am.bool false),(5,int ↑(k+1))] [.box [int f.pk,str f.pn,.sl 9 false (Sq.au f.ce),.sl 5 false (Bd.au f.bi),.sl 3 false (lH f.ta),.sl 9 false (Sq.au f.tc),.sl 11 false (Tx.au f.tm)]]) ex s'):Rq 0 64 0 (vaS 5 f v k) ex s':=by
 exact aJ [kv 50 (show Am.aF (int (↑(length (Bd.au f.bi)):Int)) (int ↑(length f.bi))from(aF.of_eq (by simp only[Go.Bd.ay]))),ki ((k:Int)<(↑(length f.bi):Int)),ke (Bd.aQ x) (Bd.au f.bi) k (bG hx),kc [] hC,kY,kW 53 (k+1) ↑(k+1)] (aB 179 [1,2,4,5]) 1 h
theorem aJm(f:FD)(v:List D)(k:Nat)(x:Bd.BE)(hl:f.bi.length<=1000000)(hk:(k:Int)<(f.bi.length:Int))(hx:f.bi[k]?=some x)(hC:Cq 48 [bB v,eG (x.dv,x.sq)] (Am.bool false))(h:True):Rq 0 64 0 (vaS 5 f v k) bF.ret (vaX f v):=by
 have _:=h;exact aG [kv 50 (show Am.aF (int (↑(length (Bd.au f.bi)):Int)) (int ↑(length f.bi))from(aF.of_eq (by simp only[Go.Bd.ay]))),ki ((k:Int)<(↑(length f.bi):Int)),ke (Bd.aQ x) (Bd.au f.bi) k (bG hx),kc [] hC,kO] (aB 179 [1,2,4]) 1
theorem aJn(f:FD)(v:List D)(hs:¬(f.pn.size:Int)>64)(hk:f.pk=2)(hL:Rq 0 64 0 (vaS 5 f v 0) .ret (vaX f v))(h:True):Cq 64 [.agg (jB f),bB v] (Am.bool false):=by
 have _:=h;exact aj [kj ((↑(ByteArray.size f.pn):Int)>64),kf (show(f.pk==1)=false from(qF zO)),kt (show(f.pk==2)=true from(qT zO)),kl (rG [(0,1),(3,1),(6,173)]) 1 hL]
theorem aJo(f:FD)(v:List D)(hs:¬(f.pn.size:Int)>64)(hk:f.pk=2)(hL:Rq 0 64 0 (vaS 5 f v 0) (.exit 1) (vaX f v))(p:Bool)(e:Int)(hP:Cq 166 [.agg [Sq.bZ f.tc,Tx.oI f.tm]] (Am.bool p))(hC:Cq 169 [Bd.iK f.bi] (int e))(r:Bool)(h:((((↑(length f.ce):Int)=0)->((((↑(length f.ta):Int)=0)->((((p)=true)->(e==0)=(r))/\(((p)=false)->(false)=(r))))/\((¬(↑(length f.ta):Int)=0)->(false)=(r))))/\((¬(↑(length f.ce):Int)=0)->(false)=(r)))):Cq 64 [.agg (jB f),bB v] (Am.bool r):=by
 let l1:List fP:=[kj ((↑(ByteArray.size f.pn):Int)>64),kf (show(f.pk==1)=false from(qF zO)),kt (show(f.pk==2)=true from(qT zO)),kl (rG [(0,1),(3,1),(6,173)]) 1 hL,kv 65 (show Am.aF (int (↑(length (Sq.au f.ce)):Int)) (int ↑(length f.ce))from(aF.of_eq (by simp only[Go.Sq.ay])))];by_cases c4:((↑(length f.ce):Int)=0)
 .have h:=h.1 c4;let l2:List fP:=l1++[kt (nW.2 c4),kN 70 (dP f.ta)];by_cases c5:((↑(length f.ta):Int)=0)
  .have h:=h.1 c5;rcases y00 ((p))with c6|c6
   .have h:=h.1 c6;exact aA (aF.aI h) (l2++[kt (nW.2 c5),kc [] hP,kt c6,kc [] hC])
   .have h:=h.2 c6;exact aA (aF.aI h) (l2++[kt (nW.2 c5),kc [] hP,kf c6])
  .have h:=h.2 c5;exact aA (aF.aI h) (l2++[kf (qN.2 c5),kY])
 .have h:=h.2 c4;exact aA (aF.aI h) (l1++[kf (qN.2 c4),kY,kY])
theorem aL2(f:FD)(v:List D)(hs:¬(f.pn.size:Int)>64)(h1:¬f.pk=1)(h2:¬f.pk=2)(h3:¬f.pk=3)(h4:¬f.pk=4)(h:True):Cq 64 [.agg (jB f),bB v] (Am.bool false):=by
 have _:=h;exact aj [kj ((↑(ByteArray.size f.pn):Int)>64),kf (show(f.pk==1)=false from(qF zO)),kf (show(f.pk==2)=false from(qF zO)),kf (show(f.pk==3)=false from(qF zO)),kf (show(f.pk==4)=false from(qF zO))]
theorem aJp(f:FD)(v:List D)(k:Nat)(hk:¬(k:Int)<(f.ta.length:Int))(h:True):Rq 0 64 1 (vaS 6 f v k) (bF.exit 3) (vaX f v):=by
 have _:=h;exact aG [kN 89 (dP f.ta),kj ((k:Int)<(↑(length f.ta):Int))] (aB 179 [1,2,4]) 1
theorem aJq(f:FD)(v:List D)(k:Nat)(x:TL)(hl:f.ta.length<=1000000)(hk:(k:Int)<(f.ta.length:Int))(hx:f.ta[k]?=some x)(hC:Cq 48 [bB v,eG (x.1,x.2.1)] (Am.bool true))(ex:bF)(s':St)(h:Rq 0 64 1 (sM 179 [(1,bB v),(2,.ptr 0 0),(4,Am.bool false),(6,int ↑(k+1))] [.box [int f.pk,str f.pn,.sl 9 false (Sq.au f.ce),.sl 5 false (Bd.au f.bi),.sl 3 false (lH f.ta),.sl 9 false (Sq.au f.tc),.sl 11 false (Tx.au f.tm)]]) ex s'):Rq 0 64 1 (vaS 6 f v k) ex s':=by
 have jw:(0:Int)<=(k:Int)/\(lH f.ta)[Int.toNat (k:Int)]?=some (ze x):=(bG hx);exact aJ [kN 89 (dP f.ta),ki ((k:Int)<(↑(length f.ta):Int)),ko (bC.elem (ze x)),ko (bC.elem (ze x)),kp jw,kp jw,kc [] hC,kY,kW 92 (k+1) ↑(k+1)] (aB 179 [1,2,4,6]) 1 h
theorem aJr(f:FD)(v:List D)(k:Nat)(x:TL)(hl:f.ta.length<=1000000)(hk:(k:Int)<(f.ta.length:Int))(hx:f.ta[k]?=some x)(hC:Cq 48 [bB v,eG (x.1,x.2.1)] (Am.bool false))(h:True):Rq 0 64 1 (vaS 6 f v k) bF.ret (vaX f v):=by
 have jw:(0:Int)<=(k:Int)/\(lH f.ta)[Int.toNat (k:Int)]?=some (ze x):=(bG hx);have _:=h;exact aG [kN 89 (dP f.ta),ki ((k:Int)<(↑(length f.ta):Int)),ko (bC.elem (ze x)),ko (bC.elem (ze x)),kp jw,kp jw,kc [] hC,kO] (aB 179 [1,2,4]) 1
theorem aJs(f:FD)(v:List D)(hs:¬(f.pn.size:Int)>64)(hk:f.pk=3)(hL:Rq 0 64 1 (vaS 6 f v 0) .ret (vaX f v))(h:True):Cq 64 [.agg (jB f),bB v] (Am.bool false):=by
 have _:=h;exact aj [kj ((↑(ByteArray.size f.pn):Int)>64),kf (show(f.pk==1)=false from(qF zO)),kf (show(f.pk==2)=false from(qF zO)),kt (show(f.pk==3)=true from(qT zO)),kl (rG [(0,1),(3,1),(5,1),(7,172)]) 1 hL]
theorem aJt(f:FD)(v:List D)(hs:¬(f.pn.size:Int)>64)(hk:f.pk=3)(hL:Rq 0 64 1 (vaS 6 f v 0) (.exit 3) (vaX f v))(p:Bool)(e:Int)(hP:Cq 166 [.agg [Sq.bZ f.tc,Tx.oI f.tm]] (Am.bool p))(hC:Cq 170 [mF f.ta] (int e))(r:Bool)(h:((((↑(length f.ce):Int)=0)->((((↑(length f.bi):Int)=0)->((((p)=true)->(e==0)=(r))/\(((p)=false)->(false)=(r))))/\((¬(↑(length f.bi):Int)=0)->(false)=(r))))/\((¬(↑(length f.ce):Int)=0)->(false)=(r)))):Cq 64 [.agg (jB f),bB v] (Am.bool r):=by
 let l1:List fP:=[kj ((↑(ByteArray.size f.pn):Int)>64),kf (show(f.pk==1)=false from(qF zO)),kf (show(f.pk==2)=false from(qF zO)),kt (show(f.pk==3)=true from(qT zO)),kl (rG [(0,1),(3,1),(5,1),(7,172)]) 1 hL,kv 111 (show Am.aF (int (↑(length (Sq.au f.ce)):Int)) (int ↑(length f.ce))from(aF.of_eq (by simp only[Go.Sq.ay])))];by_cases c5:((↑(length f.ce):Int)=0)
 .have h:=h.1 c5;let l2:List fP:=l1++[kt (nW.2 c5),kv 116 (show Am.aF (int (↑(length (Bd.au f.bi)):Int)) (int ↑(length f.bi))from(aF.of_eq (by simp only[Go.Bd.ay])))];by_cases c6:((↑(length f.bi):Int)=0)
  .have h:=h.1 c6;rcases y00 ((p))with c7|c7
   .have h:=h.1 c7;exact aA (aF.aI h) (l2++[kt (nW.2 c6),kc [] hP,kt c7,kc [] hC])
   .have h:=h.2 c7;exact aA (aF.aI h) (l2++[kt (nW.2 c6),kc [] hP,kf c7])
  .have h:=h.2 c6;exact aA (aF.aI h) (l2++[kf (qN.2 c6),kY])
 .have h:=h.2 c5;exact aA (aF.aI h) (l1++[kf (qN.2 c5),kY,kY])
theorem aJu(f:FD)(v:List D)(k:Nat)(hk:¬(k:Int)<(f.tm.length:Int))(h:True):Rq 0 64 2 (vaS 7 f v k) (bF.exit 5) (vaX f v):=by
 have _:=h;exact aG [kv 136 (show Am.aF (int (↑(length (Tx.au f.tm)):Int)) (int ↑(length f.tm))from(aF.of_eq (by simp only[Go.Tx.ay]))),kj ((k:Int)<(↑(length f.tm):Int))] (aB 179 [1,2,4]) 1
theorem aJv(f:FD)(v:List D)(k:Nat)(x:Tx.MK)(hl:f.tm.length<=1000000)(hk:(k:Int)<(f.tm.length:Int))(hx:f.tm[k]?=some x)(hC:Cq 48 [bB v,eG (x.dv,x.sq)] (Am.bool true))(ex:bF)(s':St)(h:Rq 0 64 2 (sM 179 [(1,bB v),(2,.ptr 0 0),(4,Am.bool false),(7,int ↑(k+1))] [.box [int f.pk,str f.pn,.sl 9 false (Sq.au f.ce),.sl 5 false (Bd.au f.bi),.sl 3 false (lH f.ta),.sl 9 false (Sq.au f.tc),.sl 11 false (Tx.au f.tm)]]) ex s'):Rq 0 64 2 (vaS 7 f v k) ex s':=by
 exact aJ [kv 136 (show Am.aF (int (↑(length (Tx.au f.tm)):Int)) (int ↑(length f.tm))from(aF.of_eq (by simp only[Go.Tx.ay]))),ki ((k:Int)<(↑(length f.tm):Int)),ke (Tx.aQ x) (Tx.au f.tm) k (bG hx),kc [] hC,kY,kW 139 (k+1) ↑(k+1)] (aB 179 [1,2,4,7]) 1 h
theorem aJw(f:FD)(v:List D)(k:Nat)(x:Tx.MK)(hl:f.tm.length<=1000000)(hk:(k:Int)<(f.tm.length:Int))(hx:f.tm[k]?=some x)(hC:Cq 48 [bB v,eG (x.dv,x.sq)] (Am.bool false))(h:True):Rq 0 64 2 (vaS 7 f v k) bF.ret (vaX f v):=by
 have _:=h;exact aG [kv 136 (show Am.aF (int (↑(length (Tx.au f.tm)):Int)) (int ↑(length f.tm))from(aF.of_eq (by simp only[Go.Tx.ay]))),ki ((k:Int)<(↑(length f.tm):Int)),ke (Tx.aQ x) (Tx.au f.tm) k (bG hx),kc [] hC,kO] (aB 179 [1,2,4]) 1
theorem aJx(f:FD)(v:List D)(hs:¬(f.pn.size:Int)>64)(hk:f.pk=4)(hL:Rq 0 64 2 (vaS 7 f v 0) .ret (vaX f v))(h:True):Cq 64 [.agg (jB f),bB v] (Am.bool false):=by
 have _:=h;exact aj [kj ((↑(ByteArray.size f.pn):Int)>64),kf (show(f.pk==1)=false from(qF zO)),kf (show(f.pk==2)=false from(qF zO)),kf (show(f.pk==3)=false from(qF zO)),kt (show(f.pk==4)=true from(qT zO)),kl (rG [(0,1),(3,1),(5,2),(8,171)]) 1 hL]
theorem aJy(f:FD)(v:List D)(hs:¬(f.pn.size:Int)>64)(hk:f.pk=4)(hL:Rq 0 64 2 (vaS 7 f v 0) (.exit 5) (vaX f v))(b:Bool)(e:Int)(hC:Cq 171 [.agg [Sq.bZ f.tc,Tx.oI f.tm]] (int e))(hB:Cq 168 [Sq.bZ f.tc,bB v] (Am.bool b))(r:Bool)(h:((((↑(length f.ce):Int)=0)->((((↑(length f.bi):Int)=0)->((((↑(length f.ta):Int)=0)->(((e=0)->(b)=(r))/\((¬e=0)->(false)=(r))))/\((¬(↑(length f.ta):Int)=0)->(false)=(r))))/\((¬(↑(length f.bi):Int)=0)->(false)=(r))))/\((¬(↑(length f.ce):Int)=0)->(false)=(r)))):Cq 64 [.agg (jB f),bB v] (Am.bool r):=by
 let l1:List fP:=[kj ((↑(ByteArray.size f.pn):Int)>64),kf (show(f.pk==1)=false from(qF zO)),kf (show(f.pk==2)=false from(qF zO)),kf (show(f.pk==3)=false from(qF zO)),kt (show(f.pk==4)=true from(qT zO)),kl (rG [(0,1),(3,1),(5,2),(8,171)]) 1 hL,kv 152 (show Am.aF (int (↑(length (Sq.au f.ce)):Int)) (int ↑(length f.ce))from(aF.of_eq (by simp only[Go.Sq.ay])))];by_cases c6:((↑(length f.ce):Int)=0)
 .have h:=h.1 c6;let l2:List fP:=l1++[kt (nW.2 c6),kv 157 (show Am.aF (int (↑(length (Bd.au f.bi)):Int)) (int ↑(length f.bi))from(aF.of_eq (by simp only[Go.Bd.ay])))];by_cases c7:((↑(length f.bi):Int)=0)
  .have h:=h.1 c7;let l3:List fP:=l2++[kt (nW.2 c7),kN 163 (dP f.ta)];by_cases c8:((↑(length f.ta):Int)=0)
   .have h:=h.1 c8;by_cases c9:(e=0)
    .have h:=h.1 c9;exact aA (aF.aI h) (l3++[kt (nW.2 c8),kc [] hC,kt (nW.2 c9),kc [] hB])
    .have h:=h.2 c9;exact aA (aF.aI h) (l3++[kt (nW.2 c8),kc [] hC,kf (qN.2 c9)])
   .have h:=h.2 c8;exact aA (aF.aI h) (l3++[kf (qN.2 c8),kY])
  .have h:=h.2 c7;exact aA (aF.aI h) (l2++[kf (qN.2 c7),kY,kY])
 .have h:=h.2 c6;exact aA (aF.aI h) (l1++[kf (qN.2 c6),kY,kY,kY])
def rkS(d:DO)(k:Nat):St:={ aL:=aC 45 [(1,.ptr 0 0),(2,int 0),(3,int k)],H:=[.box [bB d.sn,Md d.fs]] }
abbrev rkX(d:DO)(n:Int):St:={ aL:=aC 45 [(1,.ptr 0 0),(2,int n)],H:=[.box [bB d.sn,Md d.fs]] }
theorem aG4(d:DO)(k:Nat)(hk:¬(k:Int)<(d.fs.length:Int))(h:True):Rq 0 18 0 (rkS d k) (bF.exit 0) (rkX d 0):=by
 have _:=h;exact aG [kN 11 (fE d.fs),kj ((k:Int)<(↑(length d.fs):Int))] (aB 45 [1,2]) 1
theorem aL3(d:DO)(k:Nat)(f:FD)(hl:d.fs.length<=1000000)(hk:(k:Int)<(d.fs.length:Int))(hx:d.fs[k]?=some f)(hV:Cq 64 [.agg (jB f),bB d.sn] (Am.bool false))(h:True):Rq 0 18 0 (rkS d k) bF.ret (rkX d 180):=by
 have _:=h;exact aG [kN 11 (fE d.fs),ki ((k:Int)<(↑(length d.fs):Int)),ke (jB f) (dA d.fs) k (bG hx),kc [] hV,kO,kO] (aB 45 [1,2]) 1
theorem aL4(d:DO)(f:FD)(hl:d.fs.length<=1000000)(hk:(0:Int)<(d.fs.length:Int))(hx:d.fs[0]?=some f)(hV:Cq 64 [.agg (jB f),bB d.sn] (Am.bool true))(ex:bF)(s':St)(h:Rq 0 18 0 (sM 45 [(1,.ptr 0 0),(2,int 0),(3,int 1)] [.box [bB d.sn,.sl 7 false (dA d.fs)]]) ex s'):Rq 0 18 0 (rkS d 0) ex s':=by
 exact aJ [kN 11 (fE d.fs),ki ((0:Int)<(↑(length d.fs):Int)),ke (jB f) (dA d.fs) (0:Int) (bG hx),kc [] hV,kY,kY,kY] (aB 45 [1,2,3]) 1 h
theorem aG5(d:DO)(k:Nat)(f g:FD)(b:Bool)(hl:d.fs.length<=1000000)(hk:((k+1:Nat):Int)<(d.fs.length:Int))(hx:d.fs[k+1]?=some f)(hy:d.fs[k]?=some g)(hV:Cq 64 [.agg (jB f),bB d.sn] (Am.bool true))(hP:∀g':FD,d.fs[k]?=some g'->Cq 51 [pt g'.pk g'.pn,pt f.pk f.pn] (Am.bool b))(ex:bF)(s':St)(h:(∃x3:FD,((0:Int)<=(↑(k+1):Int)-1/\d.fs[Int.toNat ((↑(k+1):Int)-1)]?=some x3)/\((d.fs[k]?=some x3)/\((((b)=true)->Rq 0 18 0 (sM 45 [(1,.ptr 0 0),(2,int 0),(3,int ↑(k+1+1))] [.box [bB d.sn,.sl 7 false (dA d.fs)]]) ex s')/\(((b)=false)->(bF.ret=ex)/\(sM 45 [(1,.ptr 0 0),(2,int 180)] [.box [bB d.sn,.sl 7 false (dA d.fs)]]=s')))))):Rq 0 18 0 (rkS d (k+1)) ex s':=by
 have jw:(0:Int)<=(↑(k+1):Int)/\(dA d.fs)[Int.toNat (↑(k+1):Int)]?=some (jB f):=(bG hx);obtain⟨x3,o4,h⟩:=h;obtain⟨o5,h⟩:=h;have H6:=(@hP (x3) o5);let l1:List fP:=[kN 11 (fE d.fs),ki ((↑(k+1):Int)<(↑(length d.fs):Int)),ko (bC.elem (jB f)),kp jw,kc [] hV,kY,ki ((↑(k+1):Int)>0),kW 31 ((↑(k+1):Int)-1) ((↑(k+1):Int)-1),ko (bC.elem (jB x3)),ko (bC.elem (jB f)),kp (show(0:Int)<=(↑(k+1):Int)-1/\(dA d.fs)[Int.toNat ((↑(k+1):Int)-1)]?=some (jB x3)from(qU o4)),kp jw,kc [] H6];rcases y00 ((b))with c6|c6
 .have h:=h.1 c6;exact aJ (l1++[kf (show(!b)=false from(y27 (c6))),kW 14 ((↑(k+1):Int)+1) (↑(k+1+1):Int)]) (aB 45 [1,2,3]) 1 h
 .have h:=h.2 c6;obtain⟨eX,eS⟩:=h;exact bN.to ((show Rq 0 18 0 (rkS d (k+1)) bF.ret (sM 45 [(1,.ptr 0 0),(2,int 180)] [.box [.sl 2 false (au d.sn),.sl 7 false (dA d.fs)]])from aG (l1++[kt (show(!b)=true from(y27 (c6)))]) (aB 45 [1,2]) 1)) eX (eB.of_eq eS)
theorem aL5(d:DO)(hV:Cq 63 [bB d.sn] (int 0))(hL:Rq 0 18 0 (rkS d 0) (.exit 0) (rkX d 0))(h:True):Cq 18 [kI d] (int 0):=by
 have _:=h;exact aj [kc [] hV,kY,kl (rG [(0,1),(4,41)]) 1 hL]
theorem aL6(d:DO)(hV:Cq 63 [bB d.sn] (int 0))(hL:Rq 0 18 0 (rkS d 0) .ret (rkX d 180))(h:True):Cq 18 [kI d] (int 180):=by
 have _:=h;exact aj [kc [] hV,kY,kl (rG [(0,1),(4,41)]) 1 hL]
theorem aL7(d:DO)(e:Int)(he:¬e=0)(hV:Cq 63 [bB d.sn] (int e))(h:True):Cq 18 [kI d] (int 180):=by
 have _:=h;exact aj [kc [] hV,kt (show(e != 0)=true from(y27 (qF zO)))]
theorem aBw{α:Type}{f:FD}{v:List D}{i lp e:Nat}{l:List α}{c:α->Bool}(he:∀k:Nat,¬(k:Int)<(l.length:Int)->Rq 0 64 lp (vaS i f v k) (.exit e) (vaX f v))(hn:∀(k:Nat) x,(k:Int)<(l.length:Int)->l[k]?=some x->c x=true->∀(ex:bF)(s':St),Rq 0 64 lp (vaS i f v (k+1)) ex s'->Rq 0 64 lp (vaS i f v k) ex s')(hx:∀(k:Nat) x,(k:Int)<(l.length:Int)->l[k]?=some x->c x=false->Rq 0 64 lp (vaS i f v k) .ret (vaX f v)):∀n k,l.length-k=n->k<=l.length->Rq 0 64 lp (vaS i f v k) (if(l.drop k).all c=true then .exit e else .ret) (vaX f v):=by
 intro n
 induction n with
 |zero =>
  intro k h1 h2;rw[y17 zO];exact he k zO
 |succ n ih =>
  intro k h1 h2;have bg:k<l.length:=zO
  rw[y01 bg,all_cons];cases hc:c l[k]with
  |true=>rw[Bool.true_and];exact hn k _ zO (yA bg) hc _ _ (ih (k+1) zO zO)
  |false=>exact hx k _ zO (yA bg) hc
theorem avK(f:FD)(v:List D)(h:XW f)(ht:Tx.X4 ⟨f.tc,f.tm⟩)(hv:v.length<=1000000000):Cq 64 [.agg (jB f),bB v] (Am.bool (U6 f v)):=by
 obtain⟨l1,l2,l3,l4,l5⟩:=h;by_cases hs:(f.pn.size:Int)>64
 .have e:U6 f v=false:=by unfold U6;rw[y16 (show ¬f.pn.size<=64 by omega),Bool.and_false]
  rw[e];exact aL0 f v hs trivial
 have e64:decide (f.pn.size<=64)=true:=y15 zO;have hP:=aFB f;by_cases k1:f.pk=1
 .refine aL1 f v hs k1 _ _ _ hP (Sq.up (Sq.aAM f.ce zO)) (aBX f.ce v l1 hv) _ ?_;unfold U6;rw[yL k1,e64];grind
 by_cases k2:f.pk=2
 .have hL:=aBw (f:=f) (v:=v) (i:=5) (lp:=0) (e:=1) (l:=f.bi) (c:=fun x=>cZ v (dtb x)) (fun k hk=>aJk f v k hk yO) (fun k x hk hx hc _ _ nx=>aJl f v k x l2 hk hx (hc▸bH.avU v x.dv x.sq hv) _ _ nx) (fun k x hk hx hc=>aJm f v k x l2 hk hx (hc▸bH.avU v x.dv x.sq hv) yO) _ 0 rfl yN;rw[drop_zero]at hL;unfold U6;rw[yK k1,yL k2,e64];cases hc:(f.bi.all fun x=>cZ v (dtb x))with
  |false=>rw[hc]at hL;rw[Bool.and_false];exact aJn f v hs k2 hL trivial
  |true =>
   rw[hc]at hL;refine aJo f v hs k2 hL _ _ hP (Bd.axh f.bi zO) _ ?_;grind
 by_cases k3:f.pk=3
 .have hL:=aBw (f:=f) (v:=v) (i:=6) (lp:=1) (e:=3) (l:=f.ta) (c:=fun x=>cZ v (dtt x)) (fun k hk=>aJp f v k hk yO) (fun k x hk hx hc _ _ nx=>aJq f v k x l3 hk hx (hc▸bH.avU v x.1 x.2.1 hv) _ _ nx) (fun k x hk hx hc=>aJr f v k x l3 hk hx (hc▸bH.avU v x.1 x.2.1 hv) yO) _ 0 rfl yN;rw[drop_zero]at hL;unfold U6;rw[yK k1,yK k2,yL k3,e64];cases hc:(f.ta.all fun x=>cZ v (dtt x))with
  |false=>rw[hc]at hL;rw[Bool.and_false];exact aJs f v hs k3 hL trivial
  |true =>
   rw[hc]at hL;refine aJt f v hs k3 hL _ _ hP (aFO f.ta zO) _ ?_;grind
 by_cases k4:f.pk=4
 .have hL:=aBw (f:=f) (v:=v) (i:=7) (lp:=2) (e:=5) (l:=f.tm) (c:=fun x=>cZ v (dtm x)) (fun k hk=>aJu f v k hk yO) (fun k x hk hx hc _ _ nx=>aJv f v k x l5 hk hx (hc▸bH.avU v x.dv x.sq hv) _ _ nx) (fun k x hk hx hc=>aJw f v k x l5 hk hx (hc▸bH.avU v x.dv x.sq hv) yO) _ 0 rfl yN;rw[drop_zero]at hL;unfold U6;rw[yK k1,yK k2,yK k3,yL k4,e64];cases hc:(f.tm.all fun x=>cZ v (dtm x))with
  |false=>rw[hc]at hL;rw[Bool.and_false];exact aJx f v hs k4 hL trivial
  |true =>
   rw[hc]at hL;refine aJy f v hs k4 hL _ _ (Tx.axh ⟨f.tc,f.tm⟩ ht) (aBX f.tc v l4 hv) _ ?_;grind
 .unfold U6;rw[yK k1,yK k2,yK k3,yK k4];exact aL2 f v hs k1 k2 k3 k4 trivial
theorem aBt(d:DO)(h:Dim d):∀n k,d.fs.length-k=n->k<=d.fs.length->Rq 0 18 0 (rkS d k) (if Xe d.sn (prv d.fs k) (d.fs.drop k)=true then .exit 0 else .ret) (rkX d (if Xe d.sn (prv d.fs k) (d.fs.drop k)=true then 0 else 180)):=by
 intro n
 induction n with
 |zero =>
  intro k h1 h2;have e:Xe d.sn (prv d.fs k) (d.fs.drop k)=true:=by rw[y17 zO];cases prv d.fs k<;>rfl
  rw[e];exact aG4 d k zO trivial
 |succ n ih =>
  intro k h1 h2;have bg:k<d.fs.length:=zO
  have hx:=yA bg;have hm:=y03 bg;have hV:=avK d.fs[k] d.sn (h.len _ hm) (h.iV _ hm).lt (by have:=h.sn;omega);have nx:=ih (k+1) zO zO;have hp:prv d.fs (k+1)=some d.fs[k]:=hx;rw[hp]at nx;rw[y01 bg];unfold Xe;cases e:U6 d.fs[k] d.sn with
  |false =>
   rw[e]at hV;simp only[Bool.false_and,y20,if_false];exact aL3 d k _ h.fs zO hx hV trivial
  |true =>
   rw[e]at hV
   match k,bg,hx,hV,nx with
   |0,bg,hx,hV,nx =>
    rw[show prv d.fs 0=none from rfl];simp only[Bool.true_and];exact aL4 d _ h.fs zO hx hV _ _ nx
   |k+1,bg,hx,hV,nx =>
    have hy:d.fs[k]?=some d.fs[k]:=yA zO;have hz:d.fs[Int.toNat (((k+1:Nat):Int)-1)]?=some d.fs[k]:=by
     rw[show Int.toNat (((k+1:Nat):Int)-1)=k by omega];exact hy
    have hq:prv d.fs (k+1)=some d.fs[k]:=hy;rw[hq];simp only[Bool.true_and];refine aG5 d k _ d.fs[k] (decide (U7 d.fs[k].pk d.fs[k+1].pk d.fs[k].pn d.fs[k+1].pn<0)) h.fs zO hx hy hV (fun g' hg=>?_) _ _ ⟨d.fs[k],⟨zO,hz⟩,hy,fun hc=>?_,fun hc=>?_⟩
    .rw [hy]at hg;cases hg;exact aAP d.fs[k].pk d.fs[k+1].pk d.fs[k].pn d.fs[k+1].pn
    .rw [hc,Bool.true_and];exact nx
    .rw [hc,Bool.false_and];exact⟨rfl,rfl⟩
theorem aA7(d:DO)(h:Dim d):Cq 18 [kI d] (int (F9 d)):=by
 have hK:=bH.axh d.sn (by have:=h.sn;omega);have hL:=aBt d h _ 0 rfl yN;rw[drop_zero,show prv d.fs 0=none from rfl]at hL;unfold eZ at hK;unfold F9;cases e:Cw d.sn with
 |false =>
  rw[e]at hK;simp only[y20,false_and,if_false]at hK |-;exact aL7 d _ zD hK trivial
 |true =>
  rw[e]at hK;simp only[true_and,if_true]at hK |-;cases q:Xe d.sn none d.fs with
  |true=>rw[q]at hL;exact aL5 d hK hL trivial
  |false=>rw[q]at hL;exact aL6 d hK hL trivial
open Go.yU (CV rR val Cy iB fA)
open Go.Sq (CE)
open Go.Bd (BE)
open Go.bV (aCa aAG az0)
def xvS(l:List TL)(n:Int)(k:Nat):St:={ aL:=aC 26 [(0,mF l),(5,int n),(6,int k)],H:=[] }
theorem aJz(l:List TL)(n:Int)(k:Nat)(hk:¬(k:Int)<(l.length:Int))(h:True):Rq 0 150 0 (xvS l n k) (bF.exit 0) (sM 26 [(5,int n)] []):=by
 have _:=h;exact aG [kN 14 (dP l),kj ((k:Int)<l.length)] (aB 26 [5]) 0
theorem aJA(l:List TL)(n:Int)(k:Nat)(x:TL)(hl:l.length<=1000000)(hk:(k:Int)<(l.length:Int))(hx:l[k]?=some x)(ex:bF)(s':St)(h:Rq 0 150 0 (sM 26 [(0,.sl 3 false (lH l)),(5,int (IntKind.wrap IntKind.i64 (n+Prod.snd x.2))),(6,int ↑(k+1))] []) ex s'):Rq 0 150 0 (xvS l n k) ex s':=by
 exact aJ [kN 14 (dP l),ki ((k:Int)<l.length),ke (ze x) (lH l) k (bG hx),kW 17 (k+1) ↑(k+1)] (aB 26 [0,5,6]) 0 h
theorem aJN(l:List TL)(n:Int)(hK:Cq 170 [mF l] (int 0))(hL:Rq 0 150 0 (xvS l 0 0) (.exit 0) { aL:=aC 26 [(5,int n)],H:=[] })(h:True):Cq 150 [mF l] (.bq [int n,int 0]):=by
 have _:=h;exact aj [kc [] hK,kY,kl (rG [(1,4),(7,19)]) 0 hL]
def xtS(l:List yP)(g:Nat)(cs:List CV)(k:Nat):St:={ aL:=aC 22 [(0,sA l),(2,.ptr 0 0),(3,.aU 1 g 0 cs.length),(4,int k)],H:=[.box azK,.aN g 4 false (iB cs)] }
abbrev xtE(x:AV):List AV:=aC 22 [(2,.ptr 0 0),(3,x)]
theorem aJC(l:List yP)(g:Nat)(cs:List CV)(k:Nat)(hk:¬(k:Int)<(l.length:Int))(h:True):Rq 0 148 0 (xtS l g cs k) (bF.exit 0) (St.mk (xtE (AV.aU 1 g 0 cs.length)) [ah.box azK,ah.aN g 4 false (iB cs)] []):=by
 have _:=h;exact aG [kv 8 (show Am.aF (int (↑(length (List.map (fun(s:yP)=>[str s]) l)):Int)) (int ↑l.length)from(aF.of_eq (by simp only[y10]))),kj ((k:Int)<l.length)] (aB 22 [2,3]) 2
theorem aJD(l:List yP)(g:Nat)(cs:List CV)(k:Nat)(s:yP)(hl:l.length<=1000000)(hk:(k:Int)<(l.length:Int))(hx:l[k]?=some s)(hc:cs.length<=1000000)(ex:bF)(s':St)(h:Rq 0 148 0 (sM 22 [(0,.sl 1 false (List.map (fun(s:yP)=>[str s]) l)),(2,.ptr 0 0),(3,.aU 1 (g+1) 0 (length cs+1)),(4,int ↑(k+1))] [.box [int 0,int 0,str y28,aK],.aN (g+1) 4 false (iB cs++[[int 2,int 0,str s,.sl 4 false []]])]) ex s'):Rq 0 148 0 (xtS l g cs k) ex s':=by
 exact aJ [kv 8 (show Am.aF (int (↑(length (List.map (fun(s:yP)=>[str s]) l)):Int)) (int ↑l.length)from(aF.of_eq (by simp only[y10]))),ki ((k:Int)<l.length),ko (bC.elem [str s]),kp (show(0:Int)<=(k:Int)/\(List.map (fun(s:yP)=>[str s]) l)[Int.toNat (k:Int)]?=some [str s]from(bG hx)),kc [] (@Go.bV.aAG (s)),kq g,kp (Go.yU.fA cs).symm,vV ((length cs+1)*56),kW 11 (k+1) ↑(k+1)] (aB 22 [0,2,3,4]) 2 h
theorem aJB(l:List yP)(cs:List CV)(hL:Rq 0 148 0 (xtS l 0 [] 0) (.exit 0) { aL:=xtE (.sl 4 false (iB cs)),H:=[.box azK] })(h:True):Cq 148 [sA l] (rR 3 0 y28 cs):=by
 have _:=h;exact aj [ko (bC.aU),kl (rG [(1,1),(5,17)]) 2 hL,kc [] (@Go.bV.az0 (false) (iB cs))]
abbrev xsA(ws:List yP):List (List AV):=ws.map fun s=>[str s]
def xiS(f:FD)(ks:List yP)(g:Nat)(cs:List CV)(i:Nat)(vs:List BE)(q:Nat)(ws:List yP)(j:Nat):St:={ aL:=aC 87 [(1,.ptr 0 0),(2,.ptr 1 0),(7,.aU 2 g 0 cs.length),(8,sA ks),(9,int i),(10,.aU 3 q 0 ws.length),(11,Bd.iK vs),(12,int j)],H:=[.box (jB f),.box azK,.aN g 4 false (iB cs),.aN q 1 false (xsA ws)] }
abbrev xiE(ks:List yP)(g n i:Nat)(x:AV):List AV:=aC 87 [(1,.ptr 0 0),(2,.ptr 1 0),(7,.aU 2 g 0 n),(8,sA ks),(9,int i),(10,x)]
theorem aJF(f:FD)(ks:List yP)(g:Nat)(cs:List CV)(i:Nat)(vs:List BE)(q:Nat)(ws:List yP)(j:Nat)(hj:¬(j:Int)<(vs.length:Int))(h:True):Rq 0 60 1 (xiS f ks g cs i vs q ws j) (bF.exit 3) (St.mk (xiE ks g cs.length i (AV.aU 3 q 0 ws.length)) [ah.box (jB f),ah.box azK,ah.aN g 4 false (iB cs),ah.aN q 1 false (xsA ws)] []):=by
 have _:=h;exact aG [kv 61 (show Am.aF (int (↑(length (Bd.au vs)):Int)) (int ↑vs.length)from(aF.of_eq (by simp only[Go.Bd.ay]))),kj ((j:Int)<vs.length)] (aB 87 [1,2,7,8,9,10]) 4
theorem aJG(f:FD)(ks:List yP)(g:Nat)(cs:List CV)(i:Nat)(vs:List BE)(q:Nat)(ws:List yP)(j:Nat)(x:BE)(hl:vs.length<=1000000)(hj:(j:Int)<(vs.length:Int))(hx:vs[j]?=some x)(hc:ws.length<=1000000)(ex:bF)(s':St)(h:Rq 0 60 1 (sM 87 [(1,.ptr 0 0),(2,.ptr 1 0),(7,.aU 2 g 0 cs.length),(8,.sl 1 false (List.map (fun(s:yP)=>[str s]) ks)),(9,int ↑i),(10,.aU 3 (q+1) 0 (length ws+1)),(11,.sl 5 false (Bd.au vs)),(12,int ↑(j+1))] [.box [int f.pk,str f.pn,.sl 9 false (Sq.au f.ce),.sl 5 false (Bd.au f.bi),.sl 3 false (lH f.ta),.sl 9 false (Sq.au f.tc),.sl 11 false (Tx.au f.tm)],.box [int 0,int 0,str y28,aK],.aN g 4 false (iB cs),.aN (q+1) 1 false (xsA ws++[[str x.vl]])]) ex s'):Rq 0 60 1 (xiS f ks g cs i vs q ws j) ex s':=by
 exact aJ [kv 61 (show Am.aF (int (↑(length (Bd.au vs)):Int)) (int ↑vs.length)from(aF.of_eq (by simp only[Go.Bd.ay]))),ki ((j:Int)<vs.length),ke (Bd.aQ x) (Bd.au vs) j (bG hx),kq q,kp (show length ws=length (xsA ws)from(by simp only[yD,yE,y11,y10]<;>omega)),vV ((length ws+1)*16),kW 64 (j+1) ↑(j+1)] (aB 87 [1,2,7,8,9,10,11,12]) 4 h
def xoS(f:FD)(ks:List yP)(g:Nat)(cs:List CV)(i:Nat):St:={ aL:=aC 87 [(1,.ptr 0 0),(2,.ptr 1 0),(7,.aU 2 g 0 cs.length),(8,sA ks),(9,int i)],H:=[.box (jB f),.box azK,.aN g 4 false (iB cs)] }
abbrev xoE(x:AV):List AV:=aC 87 [(2,.ptr 1 0),(7,x)]
theorem aJI(f:FD)(ks:List yP)(g:Nat)(cs:List CV)(i:Nat)(hi:¬(i:Int)<(ks.length:Int))(h:True):Rq 0 60 0 (xoS f ks g cs i) (bF.exit 1) (St.mk (xoE (AV.aU 2 g 0 cs.length)) [ah.box (jB f),ah.box azK,ah.aN g 4 false (iB cs)] []):=by
 have _:=h;exact aG [kv 47 (show Am.aF (int (↑(length (List.map (fun(s:yP)=>[str s]) ks)):Int)) (int ↑ks.length)from(aF.of_eq (by simp only[y10]))),kj ((i:Int)<ks.length)] (aB 87 [2,7]) 3
theorem aJJ(f:FD)(ks:List yP)(g:Nat)(cs:List CV)(i:Nat)(s:yP)(vs:List BE)(ws:List yP)(V:CV)(hl:ks.length<=1000000)(hi:(i:Int)<(ks.length:Int))(hx:ks[i]?=some s)(hc:cs.length<=1000000)(hV:Cq 153 [Bd.iK f.bi,str s] (Bd.iK vs))(hI:Rq 0 60 1 (xiS f ks g cs i vs 0 [] 0) (.exit 3) { aL:=xiE ks g cs.length i (sA ws),H:=[.box (jB f),.box azK,.aN g 4 false (iB cs)] })(hT:Cq 148 [sA ws] (val V))(ex:bF)(s':St)(h:Rq 0 60 0 (sM 87 [(1,.ptr 0 0),(2,.ptr 1 0),(7,.aU 2 (g+1) 0 (length cs+1)),(8,.sl 1 false (List.map (fun(s:yP)=>[str s]) ks)),(9,int ↑(i+1))] [.box [int f.pk,str f.pn,.sl 9 false (Sq.au f.ce),.sl 5 false (Bd.au f.bi),.sl 3 false (lH f.ta),.sl 9 false (Sq.au f.tc),.sl 11 false (Tx.au f.tm)],.box [int 0,int 0,str y28,aK],.aN (g+1) 4 false (iB cs++[[int 3,int 0,str y28,.sl 4 false [[int 2,int 0,str s,.sl 4 false []],[int V.k,int V.n,str V.s,.sl 4 false (iB V.l)]]]])]) ex s'):Rq 0 60 0 (xoS f ks g cs i) ex s':=by
 have jw:(0:Int)<=(i:Int)/\(List.map (fun(s:yP)=>[str s]) ks)[Int.toNat (i:Int)]?=some [str s]:=(bG hx);exact aJ [kv 47 (show Am.aF (int (↑(length (List.map (fun(s:yP)=>[str s]) ks)):Int)) (int ↑ks.length)from(aF.of_eq (by simp only[y10]))),ki ((i:Int)<ks.length),ko (bC.aU),ko (bC.elem [str s]),kp jw,kc [] hV,kl (rG [(45,4),(51,8)]) 4 hI,ko (bC.elem [str s]),kp jw,kc [] (@Go.bV.aAG (s)),kc [] hT,kc [] (@Go.bV.az0 (true) ([[int 2,int 0,str s,AV.sl 4 false []],[int V.k,int V.n,str V.s,AV.sl 4 false (iB V.l)]])),kq g,kp (Go.yU.fA cs).symm,vV ((length cs+1)*56),kW 50 (i+1) ↑(i+1)] (aB 87 [1,2,7,8,9]) 3 h
theorem aJL(f:FD)(h1:f.pk=2)(ks:List yP)(cs:List CV)(hK:Cq 152 [Bd.iK f.bi] (sA ks))(hL:Rq 0 60 0 (xoS f ks 0 [] 0) (.exit 1) { aL:=xoE (.sl 4 false (iB cs)),H:=[.box (jB f),.box azK] })(h:True):Cq 60 [.agg (jB f)] (rR 3 0 y28 cs):=by
 have _:=h;exact aj [kf (show(f.pk==1)=false from(qF zO)),kf (show(f.pk==3)=false from(qF zO)),kf (show(f.pk==4)=false from(qF zO)),ko (bC.aU),kc [] hK,kl (rG [(0,1),(3,4),(10,77)]) 3 hL,kc [] (@Go.bV.az0 (false) (iB cs))]
theorem aJK(f:FD)(h1:f.pk=1)(ks:List yP)(V:CV)(hV:Cq 149 [Sq.bZ f.ce] (sA ks))(hT:Cq 148 [sA ks] (val V))(h:True):Cq 60 [.agg (jB f)] (val V):=by
 have _:=h;exact aj [kt (show(f.pk==1)=true from(qT zO)),kc [] hV,kc [] hT]
theorem aJM(f:FD)(h1:f.pk=3)(n e:Int)(hV:Cq 150 [mF f.ta] (.bq [int n,int e]))(h:True):Cq 60 [.agg (jB f)] (rR 1 n y28 []):=by
 have _:=h;exact aj [kf (show(f.pk==1)=false from(qF zO)),kt (show(f.pk==3)=true from(qT zO)),kc [] hV,kc [] (@Go.bV.aCa (n))]
theorem aJO(f:FD)(h1:f.pk=4)(V:CV)(e:Int)(hV:Cq 151 [Tx.mG (Gb f)] (.bq [val V,int e]))(h:True):Cq 60 [.agg (jB f)] (val V):=by
 have _:=h;exact aj [kf (show(f.pk==1)=false from(qF zO)),kf (show(f.pk==3)=false from(qF zO)),kt (show(f.pk==4)=true from(qT zO)),kc [] hV]
def xrS(d:DO)(g:Nat)(cs:List CV)(k:Nat):St:={ aL:=aC 41 [(1,.ptr 0 0),(2,.ptr 1 0),(4,.aU 2 g 0 cs.length),(5,int k)],H:=[rdB d,.box azK,.aN g 4 false (iB cs)] }
abbrev xrE(x:AV):List AV:=aC 41 [(2,.ptr 1 0),(4,x)]
theorem aJQ(d:DO)(g:Nat)(cs:List CV)(k:Nat)(hk:¬(k:Int)<(d.fs.length:Int))(h:True):Rq 0 16 0 (xrS d g cs k) (bF.exit 0) (St.mk (xrE (AV.aU 2 g 0 cs.length)) [rdB d,ah.box azK,ah.aN g 4 false (iB cs)] []):=by
 have _:=h;exact aG [kN 15 (fE d.fs),kj ((k:Int)<(↑(length d.fs):Int))] (aB 41 [2,4]) 3
theorem aJR(d:DO)(g:Nat)(cs:List CV)(k:Nat)(x:FD)(V:CV)(hl:d.fs.length<=1000000)(hk:(k:Int)<(d.fs.length:Int))(hx:d.fs[k]?=some x)(hc:cs.length<=1000000)(hS:Cq 60 [.agg (jB x)] (val V))(ex:bF)(s':St)(h:((∀(x_1:List AV),x_1∈iB cs++[[int 3,int 0,str y28,AV.sl 4 false [[int 1,int x.pk,str y28,AV.sl 4 false []],[int 2,int 0,str x.pn,AV.sl 4 false []],[int V.k,int V.n,str V.s,AV.sl 4 false (iB V.l)]]]]->AV.gH 3 x_1=true)/\Rq 0 16 0 (sM 41 [(1,.ptr 0 0),(2,.ptr 1 0),(4,.aU 2 (g+1) 0 (length cs+1)),(5,int ↑(k+1))] [.box [bB d.sn,.sl 7 false (dA d.fs)],.box [int 0,int 0,str y28,aK],.aN (g+1) 4 false (iB cs++[[int 3,int 0,str y28,.sl 4 false [[int 1,int x.pk,str y28,.sl 4 false []],[int 2,int 0,str x.pn,.sl 4 false []],[int V.k,int V.n,str V.s,.sl 4 false (iB V.l)]]]])]) ex s')):Rq 0 16 0 (xrS d g cs k) ex s':=by
 obtain⟨o2,h⟩:=h;exact aJ [kN 15 (fE d.fs),ki ((k:Int)<(↑(length d.fs):Int)),ke (jB x) (dA d.fs) k (bG hx),kc [] (@Go.bV.aCa x.pk),kc [] (@Go.bV.aAG x.pn),kc [] hS,kc [] (@Go.bV.az0 (true) ([[int 1,int x.pk,str y28,AV.sl 4 false []],[int 2,int 0,str x.pn,AV.sl 4 false []],[int V.k,int V.n,str V.s,AV.sl 4 false (iB V.l)]])),kq g,kp (Go.yU.fA cs).symm,vV ((length cs+1)*56),kW 18 (k+1) ↑(k+1),kp o2] (aB 41 [1,2,4,5]) 3 h
theorem aJP(d:DO)(cs:List CV)(hK:Cq 18 [kI d] (int 0))(hL:Rq 0 16 0 (xrS d 0 [] 0) (.exit 0) { aL:=xrE (.sl 4 false (iB cs)),H:=[rdB d,.box azK] })(h:True):Cq 16 [kI d] (.bq [rR 3 0 y28 cs,int 0]):=by
 have _:=h;exact aj [kc [] hK,kY,ko (bC.aU),kl (rG [(0,1),(3,1),(6,35)]) 3 hL,kc [] (@Go.bV.az0 (false) (iB cs))]
theorem aJS(d:DO)(e:Int)(he:¬e=0)(hK:Cq 18 [kI d] (int e))(h:True):Cq 16 [kI d] (.bq [.agg azK,int 180]):=by
 have _:=h;exact aj [kc [] hK,kt (show(e != 0)=true from(y27 (qF zO)))]
end Go.Dc
