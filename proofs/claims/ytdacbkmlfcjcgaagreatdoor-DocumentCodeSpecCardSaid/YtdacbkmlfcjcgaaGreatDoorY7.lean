import Derived.Test.YtdacbkmlfcjcgaaGreatDoorY6
set_option maxRecDepth 100000
set_option linter.unusedSimpArgs false
set_option linter.unusedVariables false
open List
noncomputable section
namespace Go.Tx
open Go Go.Am Go.Proofs Go.eY
open Go.Sq (CE nP bZ oO vM fX U2 kQ jg)
def rcM(l:List CE)(v:List MK)(i:Nat):St:={ aL:=aC 81 [(1,.ptr 0 0),(5,int i)],H:=rbT l v }
def rcO(l:List CE)(v:List MK):St:={ aL:=aC 81 [(1,.ptr 0 0)],H:=rbT l v }
theorem aF2(l:List CE)(v:List MK)(i:Nat)(hk:¬(i:Int)<(v.length:Int))(h:True):Rq 0 171 1 (rcM l v i) (bF.exit 2) (rcO l v):=by
 have _:=h;exact aG [kv 31 (show Am.aF (int (↑(length (au v)):Int)) (int (↑(length v):Int))from(aF.of_eq (by simp only[Go.Tx.ay]))),kf (show decide ((↑i:Int)<(↑(length v):Int))=false from(y16 zO))] (aB 81 [1]) 1 zQ
theorem aF3(l:List CE)(v:List MK)(i:Nat)(x:MK)(hl:l.length<=1000000000)(hk:(i:Int)<(v.length:Int))(hv:v.length<=1000000000)(hx:v[i]?=some x)(hq:F8 l x=false)(h:True):Rq 0 171 1 (rcM l v i) bF.ret (rcR l v):=by
 have _:=h;exact aG [kv 31 (show Am.aF (int (↑(length (au v)):Int)) (int (↑(length v):Int))from(aF.of_eq (by simp only[Go.Tx.ay]))),kt (show decide ((↑i:Int)<(↑(length v):Int))=true from(y15 zO)),ko (bC.elem (aQ x)),kp (show(0:Int)<=(↑i:Int)/\(au v)[Int.toNat (↑i:Int)]?=some (aQ x)from(bG hx)),kc [] (@Go.Tx.azW (l) (x) zO),kt (show(!F8 l x)=true from(y27 (hq))),kt (Eq.refl true)] (aB 81 [1,2]) 1 zQ
theorem aF4(l:List CE)(v:List MK)(i:Nat)(x:MK)(hl:l.length<=1000000000)(hk:(i:Int)<(v.length:Int))(hv:v.length<=1000000000)(hx:v[i]?=some x)(hq:F8 l x=true)(hs:(i:Int)>0)(h0:Rq 0 171 2 (rcI l v i 0) (.exit 4) (rcX l v i))(h:(∃x3:MK,((0:Int)<=(↑i:Int)-1/\v[Int.toNat ((↑i:Int)-1)]?=some x3)/\((((nD x3 x)=true)->Rq 0 171 1 (sM 81 [(1,.ptr 0 0),(5,int (↑(i+1):Int))] [.box [.sl 9 false (Sq.au l),.sl 11 false (au v)]]) bF.ret (rcR l v))/\(((nD x3 x)=false)->True)))):Rq 0 171 1 (rcM l v i) bF.ret (rcR l v):=by
 have bS:Am.aF (int (↑(length (au v)):Int)) (int (↑(length v):Int)):=(aF.of_eq (by simp only[Go.Tx.ay]));have fT:decide ((↑i:Int)<(↑(length v):Int))=true:=(y15 zO);have jw:(0:Int)<=(↑i:Int)/\(au v)[Int.toNat (↑i:Int)]?=some (aQ x):=(bG hx);have x9:=(@Go.Tx.azW (l) (x) zO);have Av:(!F8 l x)=false:=(y27 (hq));have qj:decide ((↑i:Int)>(0:Int))=true:=(y15 zO);have OG:Am.aF (int (IntKind.wrap IntKind.i64 ((↑i:Int)-1))) (int ((↑i:Int)-1)):=(aF.TJ zO zO rfl);obtain⟨x3,o4,h⟩:=h;have H6:(0:Int)<=(↑i:Int)-1/\(au v)[Int.toNat ((↑i:Int)-1)]?=some (aQ x3):=(qU o4);have Qy:=(@Go.Tx.aAC (x3) (x));rcases y00 ((nD x3 x))with c5|c5
 .have h:=h.1 c5;exact aJ [kv 31 bS,kt fT,ko (bC.elem (aQ x)),kp jw,kc [] x9,kf Av,kt qj,kv 51 OG,ko (bC.elem (aQ x3)),ko (bC.elem (aQ x)),kp H6,kp jw,kc [] Qy,kf (show(!nD x3 x)=false from(y27 (c5))),kl [28,29,30,31,32,35,36,37,38,39,40,41,42,43,44,45,46,47,48,49,50,51,52,53,54,55,56,57,58,59,60,61,62] 1 (@h0 ),kv 34 (show Am.aF (int (IntKind.wrap IntKind.i64 ((↑i:Int)+1))) (int (↑(i+1):Int))from(aF.TJ zO zO zO))] (aB 81 [1,5]) 1 h zQ
 .have h:=h.2 c5;have _:=h;exact aG [kv 31 bS,kt fT,ko (bC.elem (aQ x)),kp jw,kc [] x9,kf Av,kt qj,kv 51 OG,ko (bC.elem (aQ x3)),ko (bC.elem (aQ x)),kp H6,kp jw,kc [] Qy,kt (show(!nD x3 x)=true from(y27 (c5)))] (aB 81 [1,2]) 1 zQ
theorem aEK(l:List CE)(v:List MK)(i:Nat)(x:MK)(hl:l.length<=1000000000)(hk:(i:Int)<(v.length:Int))(hv:v.length<=1000000000)(hx:v[i]?=some x)(hq:F8 l x=true)(hs:(i:Int)>0)(h0:Rq 0 171 2 (rcI l v i 0) (.exit 4) (rcX l v i))(ex:bF)(s:St)(h:(∃x3:MK,((0:Int)<=(↑i:Int)-1/\v[Int.toNat ((↑i:Int)-1)]?=some x3)/\((((nD x3 x)=true)->Rq 0 171 1 (sM 81 [(1,.ptr 0 0),(5,int (↑(i+1):Int))] [.box [.sl 9 false (Sq.au l),.sl 11 false (au v)]]) ex s)/\(((nD x3 x)=false)->(bF.ret=ex)/\(sM 81 [] [.box [.sl 9 false (Sq.au l),.sl 11 false (au v)]]=s))))):Rq 0 171 1 (rcM l v i) ex s:=by
 have bS:Am.aF (int (↑(length (au v)):Int)) (int (↑(length v):Int)):=(aF.of_eq (by simp only[Go.Tx.ay]));have fT:decide ((↑i:Int)<(↑(length v):Int))=true:=(y15 zO);have jw:(0:Int)<=(↑i:Int)/\(au v)[Int.toNat (↑i:Int)]?=some (aQ x):=(bG hx);have x9:=(@Go.Tx.azW (l) (x) zO);have Av:(!F8 l x)=false:=(y27 (hq));have qj:decide ((↑i:Int)>(0:Int))=true:=(y15 zO);have OG:Am.aF (int (IntKind.wrap IntKind.i64 ((↑i:Int)-1))) (int ((↑i:Int)-1)):=(aF.TJ zO zO rfl);obtain⟨x3,o4,h⟩:=h;have H6:(0:Int)<=(↑i:Int)-1/\(au v)[Int.toNat ((↑i:Int)-1)]?=some (aQ x3):=(qU o4);have Qy:=(@Go.Tx.aAC (x3) (x));rcases y00 ((nD x3 x))with c5|c5
 .have h:=h.1 c5;exact aJ [kv 31 bS,kt fT,ko (bC.elem (aQ x)),kp jw,kc [] x9,kf Av,kt qj,kv 51 OG,ko (bC.elem (aQ x3)),ko (bC.elem (aQ x)),kp H6,kp jw,kc [] Qy,kf (show(!nD x3 x)=false from(y27 (c5))),kl [28,29,30,31,32,35,36,37,38,39,40,41,42,43,44,45,46,47,48,49,50,51,52,53,54,55,56,57,58,59,60,61,62] 1 (@h0 ),kv 34 (show Am.aF (int (IntKind.wrap IntKind.i64 ((↑i:Int)+1))) (int (↑(i+1):Int))from(aF.TJ zO zO zO))] (aB 81 [1,5]) 1 h zQ
 .have h:=h.2 c5;obtain⟨eX,eS⟩:=h;exact bN.to ((show Rq 0 171 1 (rcM l v i) bF.ret (sM 81 [] [.box [.sl 9 false (Sq.au l),.sl 11 false (au v)]])from aG [kv 31 bS,kt fT,ko (bC.elem (aQ x)),kp jw,kc [] x9,kf Av,kt qj,kv 51 OG,ko (bC.elem (aQ x3)),ko (bC.elem (aQ x)),kp H6,kp jw,kc [] Qy,kt (show(!nD x3 x)=true from(y27 (c5)))] (aB 81 []) 1 zQ)) eX (eB.of_eq eS)
theorem aF5(l:List CE)(v:List MK)(i:Nat)(x:MK)(hl:l.length<=1000000000)(hk:(i:Int)<(v.length:Int))(hv:v.length<=1000000000)(hx:v[i]?=some x)(hq:F8 l x=true)(hs:(i:Int)>0)(h0:Rq 0 171 2 (rcI l v i 0) .ret (rcQ l v i))(h:(∃x3:MK,((0:Int)<=(↑i:Int)-1/\v[Int.toNat ((↑i:Int)-1)]?=some x3)/\((((nD x3 x)=true)->True)/\(((nD x3 x)=false)->True)))):Rq 0 171 1 (rcM l v i) bF.ret (rcR l v):=by
 have bS:Am.aF (int (↑(length (au v)):Int)) (int (↑(length v):Int)):=(aF.of_eq (by simp only[Go.Tx.ay]));have fT:decide ((↑i:Int)<(↑(length v):Int))=true:=(y15 zO);have jw:(0:Int)<=(↑i:Int)/\(au v)[Int.toNat (↑i:Int)]?=some (aQ x):=(bG hx);have x9:=(@Go.Tx.azW (l) (x) zO);have Av:(!F8 l x)=false:=(y27 (hq));have qj:decide ((↑i:Int)>(0:Int))=true:=(y15 zO);have OG:Am.aF (int (IntKind.wrap IntKind.i64 ((↑i:Int)-1))) (int ((↑i:Int)-1)):=(aF.TJ zO zO rfl);obtain⟨x3,o4,h⟩:=h;have H6:(0:Int)<=(↑i:Int)-1/\(au v)[Int.toNat ((↑i:Int)-1)]?=some (aQ x3):=(qU o4);have Qy:=(@Go.Tx.aAC (x3) (x));rcases y00 ((nD x3 x))with c5|c5
 .have h:=h.1 c5;have _:=h;exact aG [kv 31 bS,kt fT,ko (bC.elem (aQ x)),kp jw,kc [] x9,kf Av,kt qj,kv 51 OG,ko (bC.elem (aQ x3)),ko (bC.elem (aQ x)),kp H6,kp jw,kc [] Qy,kf (show(!nD x3 x)=false from(y27 (c5))),kl [28,29,30,31,32,35,36,37,38,39,40,41,42,43,44,45,46,47,48,49,50,51,52,53,54,55,56,57,58,59,60,61,62] 1 (@h0 )] (aB 81 [1,2]) 1 zQ
 .have h:=h.2 c5;have _:=h;exact aG [kv 31 bS,kt fT,ko (bC.elem (aQ x)),kp jw,kc [] x9,kf Av,kt qj,kv 51 OG,ko (bC.elem (aQ x3)),ko (bC.elem (aQ x)),kp H6,kp jw,kc [] Qy,kt (show(!nD x3 x)=true from(y27 (c5)))] (aB 81 [1,2]) 1 zQ
theorem aEL(l:List CE)(v:List MK)(i:Nat)(x:MK)(hl:l.length<=1000000000)(hk:(i:Int)<(v.length:Int))(hv:v.length<=1000000000)(hx:v[i]?=some x)(hq:F8 l x=true)(hs:¬(i:Int)>0)(h0:Rq 0 171 2 (rcI l v i 0) (.exit 4) (rcX l v i))(ex:bF)(s:St)(h:Rq 0 171 1 (sM 81 [(1,.ptr 0 0),(5,int (↑(i+1):Int))] [.box [.sl 9 false (Sq.au l),.sl 11 false (au v)]]) ex s):Rq 0 171 1 (rcM l v i) ex s:=by
 exact aJ [kv 31 (show Am.aF (int (↑(length (au v)):Int)) (int (↑(length v):Int))from(aF.of_eq (by simp only[Go.Tx.ay]))),kt (show decide ((↑i:Int)<(↑(length v):Int))=true from(y15 zO)),ko (bC.elem (aQ x)),kp (show(0:Int)<=(↑i:Int)/\(au v)[Int.toNat (↑i:Int)]?=some (aQ x)from(bG hx)),kc [] (@Go.Tx.azW (l) (x) zO),kf (show(!F8 l x)=false from(y27 (hq))),kf (show decide ((↑i:Int)>(0:Int))=false from(y16 zO)),kf (Eq.refl false),kl [28,29,30,31,32,35,36,37,38,39,40,41,42,43,44,45,46,47,48,49,50,51,52,53,54,55,56,57,58,59,60,61,62] 1 (@h0 ),kv 34 (show Am.aF (int (IntKind.wrap IntKind.i64 ((↑i:Int)+1))) (int (↑(i+1):Int))from(aF.TJ zO zO zO))] (aB 81 [1,5]) 1 h zQ
theorem aCq(l:List CE)(v:List MK)(hl:l.length<=1000000000)(hv:v.length<=1000000000):∀n i,v.length-i=n->i<=v.length->(y9 l v n i=true->Rq 0 171 1 (rcM l v i) (.exit 2) (rcO l v))/\(y9 l v n i=false->Rq 0 171 1 (rcM l v i) .ret (rcR l v)):=by
 intro n
 induction n with
 |zero=>intro i hn hk;exact⟨fun _=>aF2 l v i zO yO,fun h=>by cases h⟩
 |succ n ih =>
  intro i hn hk;have bg:i<v.length:=zO
  have hx:v[i]?=some v[i]:=yA bg;obtain⟨n1,n2⟩:=ih (i+1) zO zO;obtain⟨i1,i2⟩:=az8 l v i hv bg i 0 zO zO;rw[drop_zero]at i1 i2;have e:y9 l v (n+1) i=(jh l v i&&y9 l v n (i+1)):=rfl;rw[e];cases hq:F8 l v[i]with
  |false =>
   have e2:jh l v i=false:=by simp only[jh,hx,hq,Bool.false_and]
   rw[e2,Bool.false_and];exact⟨fun h=>by (cases h),fun _=>aF3 l v i _ hl zO hv hx hq (by first|trivial|grind)⟩
  |true =>
   by_cases h0:(i:Int)>0
   .have hy:=CY v hk h0;have hy':v[i-1]?=some (v[i-1]'zO):=yA zO;have U5:(i==0)=false:=by simp;omega
    cases hd:(v.take i).any fun c=>decide (c.eG=v[i].eG)with
    |true =>
     have e2:jh l v i=false:=by simp only[jh,hx,hd,Bool.not_true,Bool.and_false]
     rw[e2,Bool.false_and];exact⟨fun h=>by (cases h),fun _=>aF5 l v i _ hl zO hv hx hq h0 (i2 hd) ⟨_,⟨zO,hy⟩,fun _=>trivial,fun _=>trivial⟩⟩
    |false =>
     cases hl':nD (v[i-1]'zO) v[i]with
     |false =>
      have e2:jh l v i=false:=by simp only[jh,hx,hy',hq,hl',U5,Bool.false_and,Bool.and_false,Bool.or_self]
      rw[e2,Bool.false_and];exact⟨fun h=>by (cases h),fun _=>aF4 l v i _ hl zO hv hx hq h0 (i1 hd) ⟨_,⟨zO,hy⟩,fun h=>(by rw[hl']at h;cases h),fun _=>trivial⟩⟩
     |true =>
      have e2:jh l v i=true:=by simp only[jh,hx,hy',hq,hl',hd,Bool.true_and,Bool.or_true,Bool.not_false,Bool.and_true]
      rw[e2,Bool.true_and];exact⟨fun h=>aEK l v i _ hl zO hv hx hq h0 (i1 hd) _ _ ⟨_,⟨zO,hy⟩,fun _=>n1 h,fun h=>(by rw[hl']at h;cases h)⟩,fun h=>aEK l v i _ hl zO hv hx hq h0 (i1 hd) _ _ ⟨_,⟨zO,hy⟩,fun _=>n2 h,fun h=>(by rw[hl']at h;cases h)⟩⟩
   .have U5:(i==0)=true:=by simp;omega
    have ht:v.take i=[]:=by rw[show i=0 by omega];rfl
    rw[ht]at i1;have e2:jh l v i=true:=by simp only[jh,hx,hq,U5,ht,any_nil,Bool.true_and,Bool.true_or,Bool.not_false,Bool.and_true]
    rw[e2,Bool.true_and];exact⟨fun h=>aEL l v i _ hl zO hv hx hq h0 (i1 rfl) _ _ (n1 h),fun h=>aEL l v i _ hl zO hv hx hq h0 (i1 rfl) _ _ (n2 h)⟩
theorem aF6(t:TE)(e:Int)(he:e≠0)(hc:Cq 167 [bZ t.cells] (int e))(h:True):Cq 171 [mG t] (int e):=by
 have _:=h;exact aj [kc [] (@hc ),kt (show(e != 0)=true from(y27 (y16 zO)))] zQ
theorem aF7(t:TE)(hc:Cq 167 [bZ t.cells] (int 0))(hL:Rq 0 171 0 (awn t.cells t.bQ 0) .ret (rcR t.cells t.bQ))(h:True):Cq 171 [mG t] (int 160):=by
 have _:=h;exact aj [kc [] (@hc ),kf (Eq.refl false),kl [0,2,3,5,6,7,8,9,10,11,12,13,14,15,16,17,18,19,20,21,22,23,24,25,26,27,28,29,30,31,32,33,34,35,36,37,38,39,40,41,42,43,44,45,46,47,48,49,50,51,52,53,54,55,56,57,58,59,60,61,62,63,64,65,66,67,68,69,70,71,72,73,74,75,76,77,78,79,80] 1 (@hL )] zQ
theorem aF8(t:TE)(hc:Cq 167 [bZ t.cells] (int 0))(hL:Rq 0 171 0 (awn t.cells t.bQ 0) (.exit 0) (rcO t.cells t.bQ))(hM:Rq 0 171 1 (rcM t.cells t.bQ 0) (.exit 2) (rcO t.cells t.bQ))(h:True):Cq 171 [mG t] (int 0):=by
 have _:=h;exact aj [kc [] (@hc ),kf (Eq.refl false),kl [0,2,3,5,6,7,8,9,10,11,12,13,14,15,16,17,18,19,20,21,22,23,24,25,26,27,28,29,30,31,32,33,34,35,36,37,38,39,40,41,42,43,44,45,46,47,48,49,50,51,52,53,54,55,56,57,58,59,60,61,62,63,64,65,66,67,68,69,70,71,72,73,74,75,76,77,78,79,80] 1 (@hL ),kl [] 1 (@hM )] zQ
theorem aF9(t:TE)(hc:Cq 167 [bZ t.cells] (int 0))(hL:Rq 0 171 0 (awn t.cells t.bQ 0) (.exit 0) (rcO t.cells t.bQ))(hM:Rq 0 171 1 (rcM t.cells t.bQ 0) .ret (rcR t.cells t.bQ))(h:True):Cq 171 [mG t] (int 160):=by
 have _:=h;exact aj [kc [] (@hc ),kf (Eq.refl false),kl [0,2,3,5,6,7,8,9,10,11,12,13,14,15,16,17,18,19,20,21,22,23,24,25,26,27,28,29,30,31,32,33,34,35,36,37,38,39,40,41,42,43,44,45,46,47,48,49,50,51,52,53,54,55,56,57,58,59,60,61,62,63,64,65,66,67,68,69,70,71,72,73,74,75,76,77,78,79,80] 1 (@hL ),kl [] 1 (@hM )] zQ
theorem avK(t:TE)(hl:X4 t):Cq 171 [mG t] (int (vC t)):=by
 have hlc:=hl.cells;have hlm:=hl.bQ;have hc:=JZ (Sq.az9 t.cells zO);obtain⟨c1,c2⟩:=aCr t.cells t.bQ zO t.cells.length 0 zO zO;rw[drop_zero]at c1 c2;obtain⟨m1,m2⟩:=aCq t.cells t.bQ zO zO t.bQ.length 0 zO zO;unfold vC;by_cases h0:jg t.cells=0
 .rw [yK (by simpa using h0)];rw[h0]at hc;cases ha:t.cells.all Ba with
  |false=>rw[yK zD];exact aF7 t hc (c2 ha) trivial
  |true =>
   rw[yL rfl];cases hb:Cw t.cells t.bQ with
   |true=>rw[yL rfl];exact aF8 t hc (c1 ha) (m1 hb) trivial
   |false=>rw[yK zD];exact aF9 t hc (c1 ha) (m2 hb) trivial
 .rw [yL h0];exact aF6 t _ h0 hc trivial
end Go.Tx
namespace Go.Sq
open Go Go.Am Go.Proofs Go.eY
theorem Vi(l:List CE)(h:l.length<=1000000000):Cq 98 [bZ l,bZ l] (bool true):=by
 have:=C9 l l h h;rwa[y15 rfl]at this
end Go.Sq
namespace Go.Sq
open Go Go.Am
theorem Yo(l:List CE):sO l=true/\F5 l=0/\BI l=arE l\/sO l=false/\F5 l=130/\BI l=[]:=by
 unfold F5 BI;cases h:sO l
 .right;exact⟨rfl,rfl,rfl⟩
 .left;exact⟨rfl,rfl,rfl⟩
theorem aqI{l:List CE}:jg l=0↔sO l=true/\arE l=l:=by
 unfold jg;rcases Yo l with⟨h1,h2,h3⟩|⟨h1,h2,h3⟩
 .rw [h2,h3];simp[h1]
 .rw [h2];simp[h1]
open Go.Proofs Go.eY
end Go.Sq
namespace Go.Tx
open Go Go.Am Go.Proofs Go.eY
open Go.Sq (CE nP bZ oO vM fX U2 kQ Cu jg A8 rU mY)
theorem uM{l}{v}:∀{n k},k+n=v.length->(y9 l v n k=true↔∀j,k<=j->j<v.length->jh l v j=true)
 |0,k,h=>by
  simp only[y9,true_iff];omega
 |n+1,k,h=>by
  simp only[y9,y04,uM  (v:=v) (n:=n) (k:=k+1) zO];grind
structure OkV(l:List CE)(v:List MK):Prop where
 isM:∀m∈v,F8 l m=true
 sorted:v.Pairwise fun a b=>nD a b=true
 qV:v.Pairwise fun a b=>a.eG≠b.eG
theorem TK{l}{v}:Cw l v=true↔OkV l v:=by
 unfold Cw;rw[uM zO];constructor
 .intro h;have at_:∀j (hj:j<v.length),F8 l v[j]=true/\(0<j->nD (v[j-1]'zO) v[j]=true)/\∀i (hi:i<j),(v[i]'zO).eG≠v[j].eG:=fun j hj=>by
   have:=h j zO hj;unfold jh at this;rw[yA hj]at this;simp only[y04,Bool.or_eq_true,beq_iff_eq,Bool.not_eq_true']at this;obtain⟨h1,h2,h3⟩:=this;refine⟨h1,fun h0=>?_,fun i hi e=>?_⟩
   .grind
   .have:=any_eq_false.1 h3 (v[i]'zO) (by
     have:(v.take j)[i]'(by rw[y18];omega)=v[i]'zO:=getElem_take;rw[<- this];exact y03 _)
    simp[e]at this
  refine⟨fun m hm=>?_,pairwise_iff_getElem.2 fun i j hi hj wQ=>?_,pairwise_iff_getElem.2 fun i j hi hj wQ=>(at_ j hj).2.2 i wQ⟩
  .obtain ⟨j,hj,rfl⟩:=getElem_of_mem hm;exact(at_ j hj).1
  .have key:∀d i (hi:i+d+1<v.length),nD (v[i]'zO) (v[i+d+1])=true:=by
    intro d
    induction d with
    |zero =>
     intro i hi;have:=(at_ (i+1) zO).2.1 zO;simpa using this
    |succ d ih =>
     intro i hi;have h1:=ih i zO;have h2:=(at_ (i+(d+1)+1) zO).2.1 zO;exact sV h1 (by simpa[Nat.add_assoc]using h2)
   have:=key (j-i-1) i zO;simpa[show i+(j-i-1)+1=j by omega]using this
 .intro h j _ hj;unfold jh;rw[yA hj];simp only[y04,Bool.or_eq_true,beq_iff_eq,Bool.not_eq_true'];refine⟨h.isM _ (y03 hj),?_,?_⟩
  .rcases Nat.eq_zero_or_pos j with h0|h0
   .exact .inl h0
   .right;rw[yA (show j-1<v.length by omega)];exact pairwise_iff_getElem.1 h.sorted (j-1) j zO hj zO
  .rw [any_eq_false];intro m hm;obtain⟨i,hi,rfl⟩:=getElem_of_mem hm;rw[y18]at hi;rw[getElem_take];have:=pairwise_iff_getElem.1 h.qV i j zO hj zO;simpa using this
structure Val(t:TE):Prop where
 cells:jg t.cells=0
 one:∀c∈t.cells,c.vl.size=1
 bQ:OkV t.cells t.bQ
theorem Yp{t}:vC t=0↔Val t:=by
 unfold vC;by_cases h0:jg t.cells=0
 .rw [yK (by simpa using h0)];cases ha:t.cells.all Ba with
  |false =>
   refine⟨nofun,fun h=>?_⟩;have:t.cells.all Ba=true:=all_eq_true.2 fun c hc=>by unfold Ba;simpa using h.one c hc
   grind
  |true =>
   have h1:∀c∈t.cells,c.vl.size=1:=fun c hc=>by
    have:=all_eq_true.1 ha c hc;unfold Ba at this;grind
   cases hb:Cw t.cells t.bQ with
   |true=>exact⟨fun _=>⟨h0,h1,TK.1 hb⟩,fun _=>rfl⟩
   |false =>
    refine⟨fun h=>by simp at h,fun h=>?_⟩;rw[TK.2 h.bQ]at hb;cases hb
 .rw [yL h0];exact⟨fun h=>absurd h h0,fun h=>absurd h.cells h0⟩
end Go.Tx
namespace Go.Tx
open Go Go.Am Go.Proofs Go.eY
open Go.Sq (CE nP bZ oO vM fX U2 kQ Cu jg A8 rU sO Ok Ids CQ arE kP mY)
end Go.Tx
namespace Go.Dc
open Go Go.Am Go.Proofs Go.eY Go.bH
def fzS(a:Int)(s:yP)(i j:Int):St:={ aL:=aC 49 [(0,aK),(2,Ph),(4,.ptr 0 0),(8,int 0),(9,int i),(10,int j)],H:=[zP a s] }
def fzX(a:Int)(s:yP)(i:Int):St:={ aL:=aC 49 [(0,aK),(2,Ph),(4,.ptr 0 0),(8,int 0),(9,int i)],H:=[zP a s] }
theorem anN(a:Int)(s:yP)(i j:Int)(wQ:¬i<j)(h:True):Rq 0 43 0 (fzS a s i j) (bF.exit 0) (fzX a s i):=by
 exact aG [kj (i<j)] (aB 49 [0,2,4,8,9]) 1
theorem anO(a:Int)(s:yP)(hL:Rq 0 43 0 (fzS a s 0 0) (.exit 0) (fzX a s 0))(h:True):Cq 43 [aK,pt a s,Ph] (.bq [int 0,Am.bool false]):=by
 exact aj [kl (rG [(1,1),(3,1),(5,3),(11,38)]) 1 hL,kY]
theorem amZ(a:Int)(s:yP):Cq 43 [aK,pt a s,Ph] (.bq [int 0,Am.bool false]):=anO a s (anN a s 0 0 zO yO) trivial
theorem eWf{n}(h : -9223372036854775808<=n/\n<9223372036854775808):(Lit.int .i64 n).wf=true:=by
 simp[Lit.wf,IntKind.min,IntKind.signed,IntKind.bits];omega
theorem agb:Maps.Keyed P 3:=Maps.int_keyed Tryz.underlying3
theorem akn{a}(h : -9223372036854775808<=a/\a<9223372036854775808):∃l,keyOf P 3 (.int .i64 a)=some l:=⟨_,Maps.keyOf_int_mk Tryz.underlying3 (eWf h)⟩
theorem uV{k}{x}(hm:(.int .i64 k,x)∈oK)(hk : -9223372036854775808<=k/\k<9223372036854775808):bT P 3 oK (.int .i64 k) zE x true :=
 ⟨agb,akn hk,fun e he=>by
  simp only[oK,yH,y12,or_false]at he;rcases he with rfl|rfl|rfl|rfl|rfl|rfl|rfl|rfl<;>exact akn zO,.inl ⟨rfl,hm⟩⟩
theorem eg1:bT P 3 oK (.int .i64 1) zE (.agg [gP 354]) true:=uV (by simp[oK]) zO
theorem eg2:bT P 3 oK (.int .i64 2) zE (.agg [gP 357]) true:=uV (by simp[oK]) zO
end Go.Dc
namespace Go.bH
open Go Go.Am
theorem uM{v}:∀n k,k+n=v.length->(y9 v n k=true↔(∀j,k<=j->∀x,v[j]?=some x->gQ x=true/\(j=0\/∃y,v[j-1]?=some y/\y.1<x.1)))
 |0,k,h=>by
  simp only[y9];grind
 |n+1,k,h=>by
  have ih:=uM (v:=v) n (k+1) zO;have bg:k<v.length:=zO
  simp only[y9,y04];have hx:=yA bg;have hat:jh v k=true↔(gQ v[k]=true/\(k=0\/∃y,v[k-1]?=some y/\y.1<v[k].1)):=by
   simp only[jh,beq_iff_eq];grind
  grind
end Go.bH
namespace Go.Dc
open Go Go.Am Go.Proofs Go.eY Go.bH
theorem za{l:List FD}{i}h(e:Int)a:(if e=0 then l.set i a else l)=l.set i (if e=0 then a else l[i]):=by
 by_cases q:e=0
 .rw [yL q,yL q]
 .simp_all
abbrev EfC(F:Nat)(o:bV.OP)(ef:FD->FD)(f:FD):Prop:=∀(l:List FD)(g i:Nat)(h:i<l.length),l[i]=f->∃e,ak P G F [.jC 0 g i 0,bV.op o] [.aN g 7 false (dA l)] (.ret (int e)) [.aN g 7 false (dA (l.set i (ef l[i])))]
def KD(o:bV.OP):Sq.CE:=⟨o.dv,o.sq,0,o.f1,o.f2,o.f3,o.tm,o.vl,false⟩
def ef1(o:bV.OP)(f:FD):FD:=if Sq.A8 f.ce (KD o)=0 then{ f with ce:=Sq.rU f.ce (KD o) }else f
def ef2(o:bV.OP)(f:FD):FD:=if Sq.Ox f.ce o.f1 o.f2 o.f3=0 then{ f with ce:=Sq.Ez f.ce o.f1 o.f2 o.f3 }else f
theorem aec{o}(h:bV.Fw o):Sq.Cu (KD o):=⟨⟨h.dv,h.sq,by show Sq.fO 0;unfold Sq.fO;omega⟩,h.f1,h.f2,h.f3⟩
variable {f:FD}{o:bV.OP}
theorem aiU(ho:bV.Fw o)(hl:f.ce.length<=999999)(hr:Sq.kQ f.ce):EfC 354 o (ef1 o) f:=fun l g i h e=>by
 subst e;have k:=aiV l i g l[i] h (yA h) o _ _ (Sq.up (Sq.KC l[i].ce (KD o) hl hr (aec ho)));rw[za h]at k;exact⟨_,k⟩
theorem aiW(hl:f.ce.length<=1000000)(hr:Sq.kQ f.ce):EfC 357 o (ef2 o) f:=fun l g i h e=>by
 subst e;have k:=aiX l i g l[i] h (yA h) o _ _ (Sq.up (Sq.aiw l[i].ce o.f1 o.f2 o.f3 hl hr));rw[za h]at k;exact⟨_,k⟩
end Go.Dc
namespace Go.Dc
open Go Go.Am Go.Proofs Go.eY Go.bH
abbrev Gb(f:FD):Tx.TE:=⟨f.tc,f.tm⟩
end Go.Dc
namespace Go.Dc
open Go Go.Am Go.Proofs Go.eY Go.bH
def cO(o:bV.OP)(f:FD):Int:=U7 f.pk o.pk f.pn o.pn
theorem Yx o:Q0 (Fx o):=⟨(fun _ h=>by cases h),⟨(fun _ h=>by cases h),(fun _ h=>by cases h)⟩,⟨yN,yN⟩⟩
theorem OM{a b c}{s t u}(h1:U7 a b s t<0)(h2:U7 b c t u<0):U7 a c s u<0:=by
 rw[ajG]at *;rcases h1 with h1|⟨rfl,h1⟩
 .rcases h2 with h2|⟨rfl,h2⟩
  .exact .inl zO
  omega
 .rcases h2 with h2|⟨rfl,h2⟩
  .exact .inl h2
  .exact .inr ⟨rfl,Bd.KG h1 h2⟩
theorem Yy{v}:∀{l}{g},Xe v (some g) l=true->∀x∈l,U7 g.pk x.pk g.pn x.pn<0
 |[],_,_,_,h=>by cases h
 |u::l,g,hk,x,h=>by
  simp only[Xe,y04,y05]at hk;rcases yH.1 h with rfl|h
  .exact hk.1.2
  .exact OM hk.1.2 (Yy hk.2 x h)
theorem OO{v}:∀{l}{q},Xe v q l=true->l.Pairwise fun x y=>U7 x.pk y.pk x.pn y.pn<0
 |[],_,_=>Pairwise.nil
 |u::l,q,hk=>by
  simp only[Xe,y04]at hk;exact Pairwise.cons (Yy hk.2) (OO hk.2)
theorem Yz{v}{l}{q}o(h:Xe v q l=true):Rc (cO o) l:=TN ((OO h).imp fun h1 h2=>OM h1 h2)
end Go.Dc
namespace Go.Dc
open Go Go.Am Go.Proofs Go.eY Go.bH
def EF(d:DO)(o:bV.OP):Int :=
 if F9 d=0 then
  if bV.lM o=0 then
   if cZ d.sn (o.dv,o.sq)=true then 182
   else if gI o.dv d.sn=o.sq-1 then(if(o.cx.any fun x=>!cZ d.sn x)=true then 181 else 0)else 181
  else bV.lM o
 else F9 d
theorem TP{d}(h:F9 d=0):Cw d.sn=true/\Xe d.sn none d.fs=true:=by
 unfold F9 at h;grind
theorem aci{o}(h:bV.lM o=0):bV.rM o=true:=by
 unfold bV.lM at h;grind
theorem Ih{o}(h:bV.lM o=0):gQ (o.dv,o.sq)=true/\1<=o.kd/\o.kd<=8:=by
 have:=aci h;simp only[bV.rM,bV.qW,y04]at this;grind
theorem TQ{a b}(h:gQ (a,b)=true):(0<=a/\a<512)/\1<=b/\b<=1048576:=by
 simp only[gQ,y04,y05]at h;omega
structure yu(n:Nat)(f:FD):Prop where
 ce:f.ce.length<=n
 bi:f.bi.length<=n
 ta:f.ta.length<=n
structure agA(n:Nat)(d:DO):Prop where
 fs:d.fs.length<=n
 all:∀f∈d.fs,yu n f
structure Bg(n m:Nat)(t:Tx.TE):Prop where
 tc:t.cells.length<=n
 tm:t.bQ.length<=m
 ok:Tx.OkT t
structure SmD(n:Nat)(d:DO):Prop where
 few:agA n d
 sn:d.sn.length<=n
 tx:∀f∈d.fs,Bg (64*n) n (Gb f)/\Sq.kQ f.ce
theorem SmD.dim{n:Nat}{d:DO}(h:SmD n d)(hn:n<=10000):Dim d/\∀x∈d.fs,x.ce.length<=999999:=by
 refine⟨⟨by have:=h.sn;omega,by have:=h.few.fs;omega,fun f hf=>?_,fun f hf=>?_⟩,fun f hf=>by have:=(h.few.all f hf).ce;omega⟩
 .have a:=h.few.all f hf;have b:=(h.tx f hf).1;have h1:=a.ce;have h2:=a.bi;have h3:=a.ta;have h4:f.tc.length<=64*n:=b.tc;have h5:f.tm.length<=n:=b.tm;exact⟨zO,zO,zO,zO,zO⟩
 .have b:=h.tx f hf;have h4:f.tc.length<=64*n:=b.1.tc;have h5:f.tm.length<=n:=b.1.tm;exact⟨b.2,b.1.ok,⟨by show f.tc.length<=_;omega,by show f.tm.length<=_;omega⟩⟩
end Go.Dc
namespace Go.Dc
open Go Go.Am Go.Proofs Go.eY Go.bH
variable {v:List D}{f:FD}
theorem arL(h:f.pk=1):U6 f v=true↔Sq.jg f.ce=0/\(∀x∈f.ce,cZ v (dtc x)=true)/\f.bi.length+f.ta.length+f.tc.length+f.tm.length=0/\f.pn.size<=64:=by simp[U6,h,and_assoc]
theorem arM(h:f.pk=2):U6 f v=true↔Bd.jg f.bi=0/\(∀x∈f.bi,cZ v (dtb x)=true)/\f.ce.length+f.ta.length+f.tc.length+f.tm.length=0/\f.pn.size<=64:=by simp[U6,h,and_assoc]
theorem asb(h:f.pk=3):U6 f v=true↔vC f.ta=0/\(∀x∈f.ta,cZ v (dtt x)=true)/\f.ce.length+f.bi.length+f.tc.length+f.tm.length=0/\f.pn.size<=64:=by simp[U6,h,and_assoc]
theorem arC(h:f.pk=4):U6 f v=true↔Tx.vC ⟨f.tc,f.tm⟩=0/\(∀x∈f.tc,cZ v (dtc x)=true)/\(∀x∈f.tm,cZ v (dtm x)=true)/\f.ce.length+f.bi.length+f.ta.length=0/\f.pn.size<=64:=by simp[U6,h,and_assoc]
theorem asQ(h:U6 f v=true):f.pk=1\/f.pk=2\/f.pk=3\/f.pk=4:=by
 unfold U6 at h;by_cases h1:f.pk=1
 .exact .inl h1
 by_cases h2:f.pk=2
 .exact .inr (.inl h2)
 by_cases h3:f.pk=3
 .exact .inr (.inr (.inl h3))
 by_cases h4:f.pk=4
 .exact .inr (.inr (.inr h4))
 simp[h1,h2,h3,h4]at h
end Go.Dc
namespace Go.bV
open Go Go.Am Go.Proofs Go.eY Go.bH Go.yU
def atN(o:OP):Bool:=decide ((o.cx.length:Int)<=600)&&decide ((o.ky.size:Int)+o.vl.size+o.pn.size<=20000)
theorem aw3(o:OP)(h1:o.ky.size<=1000000000000000)(h2:o.vl.size<=1000000000000000)(h3:o.pn.size<=1000000000000000)(b:Bool)(h:((((↑(length (au (OP.cx o))):Int)<=(600:Int))->(decide ((↑(ByteArray.size (OP.ky o)+ByteArray.size (OP.vl o)+ByteArray.size (OP.pn o)):Int)<=(20000:Int)))=(b))/\((¬(↑(length (au (OP.cx o))):Int)<=(600:Int))->(false)=(b)))):ak P G 38 [op o] [] (aS.ret (Am.bool b)) []:=by
 by_cases c1:((↑(length (au (OP.cx o))):Int)<=(600:Int))
 .have h:=h.1 c1;have e1:=h;exact aA (aF.aI e1) [kt (y15 c1),kv 14 (show Am.aF (int (IntKind.wrap IntKind.i64 ((↑(ByteArray.size (OP.ky o)):Int)+(↑(ByteArray.size (OP.vl o)):Int)))) (int (↑(ByteArray.size (OP.ky o)+ByteArray.size (OP.vl o)):Int))from(aF.TJ zO zO zO)),kv 19 (show Am.aF (int (IntKind.wrap IntKind.i64 ((↑(ByteArray.size (OP.ky o)+ByteArray.size (OP.vl o)):Int)+(↑(ByteArray.size (OP.pn o)):Int)))) (int (↑(ByteArray.size (OP.ky o)+ByteArray.size (OP.vl o)+ByteArray.size (OP.pn o)):Int))from(aF.TJ zO zO zO))] zQ
 .have h:=h.2 c1;have e1:=h;exact aA (aF.aI e1) [kf (y16 c1)] zQ
def azI(o:OP):Prop:=o.ky.size<=1000000000000000/\o.vl.size<=1000000000000000/\o.pn.size<=1000000000000000
theorem alz(o:OP)(h:azI o):ak P G 38 [op o] [] (.ret (bool (atN o))) []:=by
 refine aw3 o h.1 h.2.1 h.2.2 _ ⟨fun h1=>?_,fun h1=>?_⟩
 .rw [ay]at h1;simp only[atN,h1,decide_true,Bool.true_and,Int.natCast_add]
 .rw [ay]at h1;simp only[atN,h1,decide_false,Bool.false_and]
end Go.bV
namespace Go.Dc
open Go Go.Am Go.Proofs Go.eY Go.bH
abbrev ltF(x y:FD):Prop:=U7 x.pk y.pk x.pn y.pn<0
theorem ars{v:List D}:∀{l:List FD}{q:Option FD},Xe v q l=true↔(∀f∈l,U6 f v=true)/\l.Pairwise ltF/\∀g,q=some g->∀x∈l,ltF g x
 |[],q=>by simp[Xe]
 |u::l,q=>by
  constructor
  .intro h;have hp:=OO h;have h':=h;simp only[Xe,y04]at h';have ih:=(ars (l:=l) (q:=some u)).1 h'.2;refine⟨fun f hf=>?_,hp,fun g e x hx=>?_⟩
   .rcases yH.1 hf with rfl|hf
    .exact h'.1.1
    .exact ih.1 f hf
   .subst e;exact Yy h x hx
  .rintro ⟨h1,h2,h3⟩;have h2':=pairwise_cons.1 h2;simp only[Xe,y04];refine⟨⟨h1 u zS,?_⟩,ars.2 ⟨fun f hf=>h1 f (by simp[hf]),h2'.2,fun g e x hx=>by injection e with e;exact e▸h2'.1 x hx⟩⟩;cases q with
   |none=>rfl
   |some g=>exact y15 (h3 g rfl u zS)
theorem arD{d:DO}:F9 d=0↔Cw d.sn=true/\(∀f∈d.fs,U6 f d.sn=true)/\d.fs.Pairwise ltF:=by
 have hq:=ars (v:=d.sn) (l:=d.fs) (q:=none);unfold F9;constructor
 .intro h;by_cases e:Cw d.sn=true/\Xe d.sn none d.fs=true
  .have k:=hq.1 e.2;exact⟨e.1,k.1,k.2.1⟩
  .rw [yK e]at h;cases h
 .rintro ⟨h1,h2,h3⟩;rw[yL ⟨h1,hq.2 ⟨h2,h3,fun g e=>by cases e⟩⟩]
open Go.yU (CV)
open Go.Sq (CE)
open Go.Bd (BE)
open Go.Tx (MK)
def zT(n:Int):CV:=.mk 1 n .empty []
def wdV(s:yP):CV:=.mk 2 0 s []
def lsV(l:List CV):CV:=.mk 3 0 .empty l
def flV(b:Bool):CV:=zT (if b then 1 else 0)
def ceV(c:CE):CV:=lsV [zT c.dv,zT c.sq,zT c.gU,zT c.ad,zT c.j6,zT c.aa,zT c.tm,wdV c.vl,flV c.gn]
def biV(b:BE):CV:=lsV [wdV b.ky,zT b.dv,zT b.sq,zT b.tm,wdV b.vl]
def taV(t:TL):CV:=lsV [zT t.1,zT t.2.1,zT t.2.2]
def maV(m:MK):CV:=lsV [zT m.dv,zT m.sq,zT m.tm,zT m.fd,zT m.fs,zT m.fa,zT m.td,zT m.ts,zT m.ta,zT m.st,flV m.on]
def dtV(x:D):CV:=lsV [zT x.1,zT x.2]
def coV(f:FD):CV:=if f.pk=1 then lsV (f.ce.map ceV)else if f.pk=2 then lsV (f.bi.map biV)else if f.pk=3 then lsV (f.ta.map taV)else lsV [lsV (f.tc.map ceV),lsV (f.tm.map maV)]
def fdV(f:FD):CV:=lsV [zT f.pk,wdV f.pn,coV f]
def awo(d:DO):CV:=lsV [lsV (d.sn.map dtV),lsV (d.fs.map fdV)]
def nth(v:CV)(i:Nat):CV:=v.l.getD i (.mk 0 0 .empty [])
def ceR(v:CV):CE:=⟨(nth v 0).n,(nth v 1).n,(nth v 2).n,(nth v 3).n,(nth v 4).n,(nth v 5).n,(nth v 6).n,(nth v 7).s,decide ((nth v 8).n=1)⟩
def biR(v:CV):BE:=⟨(nth v 0).s,(nth v 1).n,(nth v 2).n,(nth v 3).n,(nth v 4).s⟩
def taR(v:CV):TL:=((nth v 0).n,(nth v 1).n,(nth v 2).n)
def maR(v:CV):MK:=⟨(nth v 0).n,(nth v 1).n,(nth v 2).n,(nth v 3).n,(nth v 4).n,(nth v 5).n,(nth v 6).n,(nth v 7).n,(nth v 8).n,(nth v 9).n,decide ((nth v 10).n=1)⟩
def dtR(v:CV):D:=((nth v 0).n,(nth v 1).n)
def fdR(v:CV):FD :=
 ⟨(nth v 0).n,(nth v 1).s,if (nth v 0).n=1 then (nth v 2).l.map ceR else [],if (nth v 0).n=2 then (nth v 2).l.map biR else [],if (nth v 0).n=3 then (nth v 2).l.map taR else [],
   if(nth v 0).n=4 then(nth (nth v 2) 0).l.map ceR else[],if(nth v 0).n=4 then(nth (nth v 2) 1).l.map maR else[]⟩
def CS(v:CV):DO:=⟨(nth v 0).l.map dtR,(nth v 1).l.map fdR⟩
end Go.Dc
namespace Go.Dc
open Go Go.Am Go.Proofs Go.eY Go.bH
open Go.bV (OP op)
open Go.yU (CV rR val Cy iB fA)
theorem aIR(n:Int)(h:True):Cq 55 [int n] (rR 1 n y28 []):=by
 have _:=h;exact ak.out ((show Cq 55 [int n] (.agg [int 1,int n,str (ByteArray.mk #[]),aK])from aj [])) (aF.qo ⟨y29,y29,y29,(aF.nil _),yO⟩)
theorem aIS(s:yP)(h:True):Cq 56 [str s] (rR 2 0 s []):=by
 have _:=h;exact ak.out ((show Cq 56 [str s] (.agg [int 2,int 0,str s,aK])from aj [])) (aF.qo ⟨y29,y29,y29,(aF.nil _),yO⟩)
theorem azd(t:Bool)(xs:List (List AV))(h:True):Cq 53 [.sl 4 t xs] (.agg [int 3,int 0,str y28,.sl 4 false xs]):=by
 have _:=h;exact ak.out ((show Cq 53 [.sl 4 t xs] (.agg [int 3,int 0,str (ByteArray.mk #[]),.sl 4 t xs])from aj [])) (aF.qo ⟨y29,y29,y29,(aF.oP _ _ _),yO⟩)
theorem aze  (h:True):Cq 53 [aK] (.agg [int 3,int 0,str y28,aK]):=by
 have _:=h;exact aj []
theorem aBl(n:Int):Cq 55 [int n] (rR 1 n .empty []):=aIR n trivial
theorem aDC(s:yP):Cq 56 [str s] (rR 2 0 s []):=aIS s trivial
theorem azf(t:Bool)(xs:List (List AV)):Cq 53 [.sl 4 t xs] (.agg [int 3,int 0,str .empty,.sl 4 false xs]):=azd t xs trivial
theorem aw6:Cq 53 [aK] (.agg [int 3,int 0,str .empty,aK]):=aze trivial
def azK:List AV:=[int 0,int 0,str .empty,aK]
def azL:List AV:=[int 3,int 0,str .empty,aK]
def a0S(f:AV)(s k:Nat)(xs:List (List AV)):St:={ aL:=aC 25 [(1,f),(4,.ptr 0 0),(5,.ptr 1 0),(9,.sl s false xs),(10,int xs.length),(11,int k)],H:=[.box azK,.box azL] }
theorem aye(f:AV)(h:True):Rq 0 73 0 (a0S f 2 0 []) (bF.exit 0) (sM 25 [(4,.ptr 0 0),(5,.ptr 1 0)] [.box azK,.box azL]):=by
 have _:=h;exact aG [kY] (aB 25 [4,5]) 2
theorem ayC  (h:True):Cq 73 [bB [],gP 74] (.agg azL):=by
 have _:=h;exact aj [kc [] (@aw6 ),kl (rG [(0,1),(2,2),(6,3),(12,13)]) 2 (@aye (iL 74) (trivial))]
theorem ayf(f:AV)(h:True):Rq 0 76 0 (a0S f 7 0 []) (bF.exit 0) (sM 25 [(4,.ptr 0 0),(5,.ptr 1 0)] [.box azK,.box azL]):=by
 have _:=h;exact aG [kY] (aB 25 [4,5]) 2
theorem ayD  (h:True):Cq 76 [Md [],gP 77] (.agg azL):=by
 have _:=h;exact aj [kc [] (@aw6 ),kl (rG [(0,1),(2,2),(6,3),(12,13)]) 2 (@ayf (iL 77) (trivial))]
theorem aIT(d:DO)(e:Int)(he:¬e=0)(hC:Cq 17 [kI d] (int e))(h:True):Cq 21 [kI d] (.bq [aK,int e]):=by
 have _:=h;exact aj [kc [] hC,kt (show(e != 0)=true from(y27 (qF zO)))]
theorem azg(d:DO)(s f:List CV)(b:List UInt8)(e:Int)(hC:Cq 17 [kI d] (int 0))(hs:Cq 73 [bB d.sn,gP 74] (rR 3 0 .empty s))(hf:Cq 76 [Md d.fs,gP 77] (rR 3 0 .empty f))(hE:Cq 37 [rR 3 0 .empty [lsV s,lsV f]] (.bq [Cy b,int e]))(h:True):Cq 21 [kI d] (.bq [Cy b,int e]):=by
 have _:=h;exact aj [kc [] hC,kY,kc [] hs,kc [] hf,kc [] (@azf (true) ([[int 3,int 0,str y28,AV.sl 4 false (iB s)],[int 3,int 0,str y28,AV.sl 4 false (iB f)]])),kc [] hE]
def rdX(d:DO):St:={ aL:=aC 50 [(2,.ptr 1 0)],H:=[.box [bB d.sn,Md d.fs],.box azL] }
def rd0(d:DO)(k:Nat):St:={ aL:=aC 50 [(2,.ptr 1 0),(17,Md d.fs),(18,int d.fs.length),(19,int k)],H:=[.box [bB d.sn,Md d.fs],.box azL] }
theorem azh(d:DO)(hk:¬(0:Int)<(d.fs.length:Int))(h:True):Rq 0 15 0 (rd0 d 0) (bF.exit 0) (rdX d):=by
 have _:=h;exact aG [kj ((0:Int)<(↑(length d.fs):Int))] (aB 50 [2]) 2
theorem apv(d:DO)(hC:Cq 17 [kI d] (int 0))(hL:Rq 0 15 0 (rd0 d 0) (.exit 0) (rdX d))(h:True):Cq 15 [kI d] (.bq [.agg azL,int 0]):=by
 have _:=h;exact aj [kc [] hC,kY,kc [] (@aw6 ),kN 18 (fE d.fs),kl (rG [(0,2),(3,14),(20,30)]) 2 hL]
theorem azi(e:Int)(he:¬e=0)(b:List UInt8)(v:CV)(hC:Cq 82 [Cy b] (.bq [val v,int e]))(h:True):Cq 23 [Cy b] (.bq [Rf,int e]):=by
 have _:=h;exact aj [kc [] hC,kt (show(e != 0)=true from(y27 (qF zO)))]
def ayE(a b c:Int)(s t:yP):OP:=⟨a,b,c,[],1,s,1,0,0,0,0,0,0,.empty,t,0,false⟩
theorem ayF(a b c:Int)(s t:yP)(h:True):Cq 36 [int a,int b,int c,str s,str t] (op (ayE a b c s t)):=by
 have _:=h;exact ak.out ((show Cq 36 [int a,int b,int c,str s,str t] (.agg [int a,int b,int c,aK,int 1,str s,int 1,int 0,int 0,int 0,int 0,int 0,int 0,str (ByteArray.mk #[]),str t,int 0,Am.bool false])from aj [])) (aF.qo ⟨y29,y29,y29,(aF.nil _),y29,y29,y29,y29,y29,y29,y29,y29,y29,y29,y29,y29,y29,yO⟩)
end Go.Dc
namespace Go.Dc
open Go Go.Am Go.Proofs Go.eY Go.bH
open Go.bV (OP op jy)
open Go.yU (CV rR Cy val)
def erO:OP:=⟨2,1,2,[(1,1)],1,⟨#[98]⟩,2,1,1,0,0,0,0,.empty,.empty,0,false⟩
def zoO:OP:=⟨0,0,0,[],0,.empty,0,0,0,0,0,0,0,.empty,.empty,0,false⟩
abbrev iOc:OP:=ayE 1 1 1 ⟨#[97]⟩ ⟨#[118]⟩
def erL:List AV:=[int 2,int 1,int 2,.sl 2 true [[int 1,int 1]],int 1,str ⟨#[98]⟩,int 2,int 1,int 1,int 0,int 0,int 0,int 0,str .empty,str .empty,int 0,Am.bool false]
def zoL:List AV:=[int 0,int 0,int 0,aK,int 0,str .empty,int 0,int 0,int 0,int 0,int 0,int 0,int 0,str .empty,str .empty,int 0,Am.bool false]
def baL:AV:=.agg [.sl 2 true [[int (-1),int 0]],aK]
theorem ayg(x y:DO)(f1 g1 g2:FD)(hx:x.fs[0]?=some f1)(hy:y.fs[1]?=some g2)(lx:x.fs.length=1)(ly:y.fs.length=2)(lc:f1.ce.length=1)(lg:g2.ce.length=0)(ls:y.sn.length=2)(b:List UInt8)(c1:Cq 36 [int 1,int 1,int 1,str ⟨#[97]⟩,str ⟨#[118]⟩] (op iOc))(a1:Cq 12 [Rf,op iOc] (.bq [kI x,int 0]))(a2:Cq 12 [kI x,.agg erL] (.bq [kI y,int 0]))(a3:Cq 12 [Rf,.agg erL] (.bq [Rf,int 181]))(a4:Cq 12 [kI x,op iOc] (.bq [Rf,int 182]))(a5:Cq 12 [Rf,.agg zoL] (.bq [Rf,int 170]))(r:Cq 15 [Rf] (.bq [rR 3 0 .empty [],int 0]))(e:Cq 21 [Rf] (.bq [Cy b,int 0]))(ce:Cq 37 [.agg [int 3,int 0,str .empty,.sl 4 true [[int 3,int 0,str .empty,aK],[int 3,int 0,str .empty,aK]]]] (.bq [Cy b,int 0]))(d:Cq 23 [aK] (.bq [Rf,int 10]))(a6:Cq 12 [baL,.agg zoL] (.bq [Rf,int 180]))(o:Cq 25 [.agg zoL] (int 170))(s:Cq 20 [rR 3 0 .empty [],.agg [int 3,int 0,str .empty,aK]] (Am.bool true))(k1:Cq 17 [Rf] (int 0))(k2:Cq 17 [baL] (int 180))(m1:Cq 19 [kI x,kI x] (Am.bool true))(m2:Cq 19 [kI x,kI y] (Am.bool false))(h:((((ByteArray.toList (ByteArray.mk (toArray b))==ByteArray.toList (ByteArray.mk (toArray b)))=true)->True)/\(((ByteArray.toList (ByteArray.mk (toArray b))==ByteArray.toList (ByteArray.mk (toArray b)))=false)->(false)=(true)))):Cq 10 [] (Am.bool true):=by
 have aln:yU.jl b=List.map (fun(c:UInt8)=>[AV.lit (Value.int IntKind.u8 (↑(UInt8.toNat c):Int))]) (Array.toList (Array.mk b)):=(rfl);let l1:List fP:=[kc [] c1,kc [] a1,kc [] a2,kc [] a3,kc [] c1,kc [] a4,kc [] a5,kc [] r,kc [] e,kc [] ce,kc [] d,kc [] a6,kO,kN 98 (fE x.fs),kt (show((↑(length x.fs):Int)==1)=true from(qT zO)),ke (jB f1) (dA x.fs) (0:Int) (bG hx),kv 107 (show Am.aF (int (↑(length (Sq.au f1.ce)):Int)) (int ↑(length f1.ce))from(aF.of_eq (by simp only[Go.Sq.ay]))),kt (show((↑(length f1.ce):Int)==1)=true from(qT zO)),kO,kN 117 (fE y.fs),kt (show((↑(length y.fs):Int)==2)=true from(qT zO)),ke (jB g2) (dA y.fs) (1:Int) (bG hy),kv 126 (show Am.aF (int (↑(length (Sq.au g2.ce)):Int)) (int ↑(length g2.ce))from(aF.of_eq (by simp only[Go.Sq.ay]))),kt (show((↑(length g2.ce):Int)==0)=true from(qT zO)),kN 132 (Go.bH.ay y.sn),kt (show((↑(length y.sn):Int)==2)=true from(qT zO)),kO,kO,kO,kc [] o,kO,kO,kc [] s,kO,kO,kO,ko (bC.bytes (ByteArray.mk (toArray b))),ko (bC.bytes (ByteArray.mk (toArray b))),kp aln,kp aln];rcases y00 ((ByteArray.toList (ByteArray.mk (toArray b))==ByteArray.toList (ByteArray.mk (toArray b))))with c6|c6
 .have h:=h.1 c6;have _:=h;exact aj (l1++[kt c6,kO,kO,kc [] k1,kO,kc [] k2,kO,kc [] m1,kO,kc [] m2])
 .have h:=h.2 c6;exact aA (aF.aI h) (l1++[kf c6,kY,kY,kY,kY,kY])
end Go.Dc
namespace Go.Dc
open Go Go.Am Go.Proofs Go.eY Go.bH
open Go.yU (CV rR val Cy iB fA)
theorem aIU(d:DO)(b:List UInt8)(hS:Cq 10 [] (Am.bool true))(h1:Cq 11 [kI d,aK] (Am.bool false))(h:True):Cq 5 [kI d,Cy b] (Am.bool true):=by
 have _:=h;exact aj [kc [] hS,kY,kc [] h1,kO,kO]
theorem aIV(d:DO)(b:List UInt8)(hb:(b.length:Int)>2000)(hS:Cq 10 [] (Am.bool true))(h1:Cq 11 [kI d,aK] (Am.bool true))(h:True):Cq 5 [kI d,Cy b] (Am.bool true):=by
 have _:=h;exact aj [kc [] hS,kY,kc [] h1,kY,kv 20 (show Am.aF (int (↑(length (yU.jl b)):Int)) (int ↑b.length)from(aF.of_eq (by simp only[Go.yU.eu]))),ki ((b.length:Int)>2000)]
theorem aIW(d p:DO)(b x:List UInt8)(e g:Int)(hb:¬(b.length:Int)>2000)(hS:Cq 10 [] (Am.bool true))(h1:Cq 11 [kI d,aK] (Am.bool true))(hE:Cq 21 [kI d] (.bq [Cy x,int e]))(hF:Cq 22 [kI d] (.bq [Cy x,int e]))(hD:Cq 23 [Cy b] (.bq [kI p,int g]))(hR:Cq 24 [Cy b] (.bq [kI p,int g]))(hT:Cq 14 [kI p,kI p] (Am.bool true))(h:((((ByteArray.toList (ByteArray.mk (toArray x))==ByteArray.toList (ByteArray.mk (toArray x)))=true)->(g==g)=(true))/\(((ByteArray.toList (ByteArray.mk (toArray x))==ByteArray.toList (ByteArray.mk (toArray x)))=false)->(false)=(true)))):Cq 5 [kI d,Cy b] (Am.bool true):=by
 have Qy:yU.jl x=List.map (fun(c:UInt8)=>[AV.lit (Value.int IntKind.u8 (↑(UInt8.toNat c):Int))]) (Array.toList (Array.mk x)):=(rfl);let l1:List fP:=[kc [] hS,kY,kc [] h1,kY,kv 20 (show Am.aF (int (↑(length (yU.jl b)):Int)) (int ↑b.length)from(aF.of_eq (by simp only[Go.yU.eu]))),kj ((b.length:Int)>2000),kc [] hE,kc [] hF,kc [] hD,kc [] hR,ko (bC.bytes (ByteArray.mk (toArray x))),ko (bC.bytes (ByteArray.mk (toArray x))),kp Qy,kp Qy];rcases y00 ((ByteArray.toList (ByteArray.mk (toArray x))==ByteArray.toList (ByteArray.mk (toArray x))))with c2|c2
 .have h:=h.1 c2;exact aA (aF.aI h) (l1++[kt c2,kt (show(e==e)=true from(qT zO)),kc [] hT,kO])
 .have h:=h.2 c2;exact aA (aF.aI h) (l1++[kf c2,kY,kY])
end Go.Dc
namespace Go.Dc
open Go Go.Am Go.Proofs Go.eY Go.bH
def ta0(a:List TL)(k:Nat):St:={ aL:=aC 26 [(0,mF a),(1,mF a),(4,Am.bool false),(5,int k)],H:=[] }
theorem an7(a:List TL)(k:Nat)(x:TL)(hv:a.length<=1000000000)(hk:(k:Int)<(a.length:Int))(hx:a[k]?=some x)(ex:bF)(s':St)(h:((((x.1==x.1&&(Prod.fst x.2==Prod.fst x.2&&Prod.snd x.2==Prod.snd x.2))=true)->Rq 0 100 0 (sM 26 [(0,.sl 3 false (lH a)),(1,.sl 3 false (lH a)),(4,Am.bool false),(5,int ↑(k+1))] []) ex s')/\(((x.1==x.1&&(Prod.fst x.2==Prod.fst x.2&&Prod.snd x.2==Prod.snd x.2))=false)->(bF.ret=ex)/\(sM 26 [(4,Am.bool false)] []=s')))):Rq 0 100 0 (ta0 a k) ex s':=by
 have jw:(0:Int)<=(k:Int)/\(lH a)[Int.toNat (k:Int)]?=some (ze x):=(bG hx);let l1:List fP:=[kN 13 (dP a),ki ((k:Int)<a.length),ko (bC.elem (ze x)),ko (bC.elem (ze x)),kp jw,kp jw];rcases y00 ((x.1==x.1&&(Prod.fst x.2==Prod.fst x.2&&Prod.snd x.2==Prod.snd x.2)))with c2|c2
 .have h:=h.1 c2;exact aJ (l1++[kf (y27 (c2)),kW 16 (k+1) ↑(k+1)]) (aB 26 [0,1,4,5]) 0 h
 .have h:=h.2 c2;obtain⟨eX,eS⟩:=h;exact bN.to ((aG (l1++[kt (show(!(x.1==x.1&&(Prod.fst x.2==Prod.fst x.2&&Prod.snd x.2==Prod.snd x.2)))=true from(y27 (c2)))]) (aB 26 [4]) 0)) eX (eB.of_eq eS)
theorem an8(a:List TL)(k:Nat)(hk:¬(k:Int)<(a.length:Int))(h:True):Rq 0 100 0 (ta0 a k) (bF.exit 0) (sM 26 [(4,Am.bool false)] []):=by
 exact aG [kN 13 (dP a),kj ((k:Int)<a.length)] (aB 26 [4]) 0
theorem an9(a:List TL)(hL:Rq 0 100 0 (ta0 a 0) (.exit 0) { aL:=aC 26 [(4,Am.bool false)],H:=[] })(h:True):Cq 100 [mF a,mF a] (Am.bool true):=by
 have bS:=lU (dP a);exact aj [kv 7 bS,kv 9 bS,kf (show((a.length:Int)!=(a.length:Int))=false from(y27 (qT zO))),kl (rG [(2,2),(6,20)]) 0 hL]
def sc0(a:List Sq.CE)(k:Nat):St:={ aL:=aC 26 [(0,Sq.bZ a),(1,Sq.bZ a),(4,Am.bool false),(5,int k)],H:=[] }
theorem aoa(a:List Sq.CE)(k:Nat)(x:Sq.CE)(hv:a.length<=1000000000)(hk:(k:Int)<(a.length:Int))(hx:a[k]?=some x)(ex:bF)(s':St)(h:((((x.dv==x.dv&&(x.sq==x.sq&&(x.gU==x.gU&&(x.ad==x.ad&&(x.j6==x.j6&&(x.aa==x.aa&&(x.tm==x.tm&&(x.vl==x.vl&&x.gn==x.gn))))))))=true)->Rq 0 200 0 (sM 26 [(0,.sl 9 false (Sq.au a)),(1,.sl 9 false (Sq.au a)),(4,Am.bool false),(5,int ↑(k+1))] []) ex s')/\(((x.dv==x.dv&&(x.sq==x.sq&&(x.gU==x.gU&&(x.ad==x.ad&&(x.j6==x.j6&&(x.aa==x.aa&&(x.tm==x.tm&&(x.vl==x.vl&&x.gn==x.gn))))))))=false)->(bF.ret=ex)/\(sM 26 [(4,Am.bool false)] []=s')))):Rq 0 200 0 (sc0 a k) ex s':=by
 have jw:(0:Int)<=(k:Int)/\(Sq.au a)[Int.toNat (k:Int)]?=some (Sq.aQ x):=(bG hx);let l1:List fP:=[kv 13 (show Am.aF (int (↑(length (Sq.au a)):Int)) (int ↑a.length)from(aF.of_eq (by simp only[Go.Sq.ay]))),ki ((k:Int)<a.length),ko (bC.elem (Sq.aQ x)),ko (bC.elem (Sq.aQ x)),kp jw,kp jw];rcases y00 ((x.dv==x.dv&&(x.sq==x.sq&&(x.gU==x.gU&&(x.ad==x.ad&&(x.j6==x.j6&&(x.aa==x.aa&&(x.tm==x.tm&&(x.vl==x.vl&&x.gn==x.gn)))))))))with c2|c2
 .have h:=h.1 c2;exact aJ (l1++[kf (y27 (c2)),kW 16 (k+1) ↑(k+1)]) (aB 26 [0,1,4,5]) 0 h
 .have h:=h.2 c2;obtain⟨eX,eS⟩:=h;exact bN.to ((aG (l1++[kt (show(!(x.dv==x.dv&&(x.sq==x.sq&&(x.gU==x.gU&&(x.ad==x.ad&&(x.j6==x.j6&&(x.aa==x.aa&&(x.tm==x.tm&&(x.vl==x.vl&&x.gn==x.gn)))))))))=true from(y27 (c2)))]) (aB 26 [4]) 0)) eX (eB.of_eq eS)
theorem aob(a:List Sq.CE)(k:Nat)(hk:¬(k:Int)<(a.length:Int))(h:True):Rq 0 200 0 (sc0 a k) (bF.exit 0) (sM 26 [(4,Am.bool false)] []):=by
 exact aG [kv 13 (show Am.aF (int (↑(length (Sq.au a)):Int)) (int ↑a.length)from(aF.of_eq (by simp only[Go.Sq.ay]))),kj ((k:Int)<a.length)] (aB 26 [4]) 0
theorem aoc(a:List Sq.CE)(hL:Rq 0 200 0 (sc0 a 0) (.exit 0) { aL:=aC 26 [(4,Am.bool false)],H:=[] })(h:True):Cq 200 [Sq.bZ a,Sq.bZ a] (Am.bool true):=by
 have bS:Am.aF (int (↑(length (Sq.au a)):Int)) (int ↑a.length):=(aF.of_eq (by simp only[Go.Sq.ay]));exact aj [kv 7 bS,kv 9 bS,kf (show((a.length:Int)!=(a.length:Int))=false from(y27 (qT zO))),kl (rG [(2,2),(6,20)]) 0 hL]
abbrev sxB(t:Tx.TE):List ah:=[.box [Sq.bZ t.cells,Tx.oI t.bQ],.box [Sq.bZ t.cells,Tx.oI t.bQ]]
def sx0(t:Tx.TE)(k:Nat):St:={ aL:=aC 39 [(2,.ptr 0 0),(3,.ptr 1 0),(4,Am.bool false),(5,int k)],H:=sxB t }
theorem aod(t:Tx.TE)(k:Nat)(x:Tx.MK)(hv:t.bQ.length<=1000000000)(hk:(k:Int)<(t.bQ.length:Int))(hx:t.bQ[k]?=some x)(ex:bF)(s':St)(h:((((x.dv==x.dv&&(x.sq==x.sq&&(x.tm==x.tm&&(x.fd==x.fd&&(x.fs==x.fs&&(x.fa==x.fa&&(x.td==x.td&&(x.ts==x.ts&&(x.ta==x.ta&&(x.st==x.st&&x.on==x.on))))))))))=true)->Rq 0 101 0 (sM 39 [(2,.ptr 0 0),(3,.ptr 1 0),(4,Am.bool false),(5,int ↑(k+1))] [.box [.sl 9 false (Sq.au t.cells),.sl 11 false (Tx.au t.bQ)],.box [.sl 9 false (Sq.au t.cells),.sl 11 false (Tx.au t.bQ)]]) ex s')/\(((x.dv==x.dv&&(x.sq==x.sq&&(x.tm==x.tm&&(x.fd==x.fd&&(x.fs==x.fs&&(x.fa==x.fa&&(x.td==x.td&&(x.ts==x.ts&&(x.ta==x.ta&&(x.st==x.st&&x.on==x.on))))))))))=false)->(bF.ret=ex)/\(sM 39 [(4,Am.bool false)] [.box [.sl 9 false (Sq.au t.cells),.sl 11 false (Tx.au t.bQ)],.box [.sl 9 false (Sq.au t.cells),.sl 11 false (Tx.au t.bQ)]]=s')))):Rq 0 101 0 (sx0 t k) ex s':=by
 have jw:(0:Int)<=(k:Int)/\(Tx.au t.bQ)[Int.toNat (k:Int)]?=some (Tx.aQ x):=(bG hx);let l1:List fP:=[kv 24 (show Am.aF (int (↑(length (Tx.au t.bQ)):Int)) (int ↑(length t.bQ))from(aF.of_eq (by simp only[Go.Tx.ay]))),ki ((k:Int)<(↑(length t.bQ):Int)),ko (bC.elem (Tx.aQ x)),ko (bC.elem (Tx.aQ x)),kp jw,kp jw];rcases y00 ((x.dv==x.dv&&(x.sq==x.sq&&(x.tm==x.tm&&(x.fd==x.fd&&(x.fs==x.fs&&(x.fa==x.fa&&(x.td==x.td&&(x.ts==x.ts&&(x.ta==x.ta&&(x.st==x.st&&x.on==x.on)))))))))))with c2|c2
 .have h:=h.1 c2;exact aJ (l1++[kf (y27 (c2)),kW 27 (k+1) ↑(k+1)]) (aB 39 [2,3,4,5]) 2 h
 .have h:=h.2 c2;obtain⟨eX,eS⟩:=h;exact bN.to ((aG (l1++[kt (show(!(x.dv==x.dv&&(x.sq==x.sq&&(x.tm==x.tm&&(x.fd==x.fd&&(x.fs==x.fs&&(x.fa==x.fa&&(x.td==x.td&&(x.ts==x.ts&&(x.ta==x.ta&&(x.st==x.st&&x.on==x.on)))))))))))=true from(y27 (c2)))]) (aB 39 [4]) 2)) eX (eB.of_eq eS)
theorem aoe(t:Tx.TE)(k:Nat)(hk:¬(k:Int)<(t.bQ.length:Int))(h:True):Rq 0 101 0 (sx0 t k) (bF.exit 0) (St.mk (aC 39 [(4,Am.bool false)]) (sxB t) []):=by
 exact aG [kv 24 (show Am.aF (int (↑(length (Tx.au t.bQ)):Int)) (int ↑(length t.bQ))from(aF.of_eq (by simp only[Go.Tx.ay]))),kj ((k:Int)<(↑(length t.bQ):Int))] (aB 39 [4]) 2
theorem aof(t:Tx.TE)(hS:Cq 200 [Sq.bZ t.cells,Sq.bZ t.cells] (Am.bool true))(hL:Rq 0 101 0 (sx0 t 0) (.exit 0) { aL:=aC 39 [(4,Am.bool false)],H:=sxB t })(h:True):Cq 101 [Tx.mG t,Tx.mG t] (Am.bool true):=by
 have fT:Am.aF (int (↑(length (Tx.au t.bQ)):Int)) (int ↑(length t.bQ)):=(aF.of_eq (by simp only[Go.Tx.ay]));exact aj [kc [] hS,kY,kv 15 fT,kv 18 fT,kf (show((↑(length t.bQ):Int)!=(↑(length t.bQ):Int))=false from(y27 (qT zO))),kl (rG [(0,2),(6,33)]) 2 hL]
theorem aog(f:FD)(h3:Cq 98 [Sq.bZ f.ce,Sq.bZ f.ce] (Am.bool true))(h4:Cq 99 [Bd.iK f.bi,Bd.iK f.bi] (Am.bool true))(h5:Cq 100 [mF f.ta,mF f.ta] (Am.bool true))(h6:Cq 101 [Tx.mG (Gb f),Tx.mG (Gb f)] (Am.bool true))(o:Bool)(h:((((f.pk==f.pk&&f.pn==f.pn)=true)->(true)=(o))/\(((f.pk==f.pk&&f.pn==f.pn)=false)->(false)=(o)))):Cq 30 [.agg (jB f),.agg (jB f)] (Am.bool o):=by
 rcases y00 ((f.pk==f.pk&&f.pn==f.pn))with c1|c1
 .have h:=h.1 c1;exact aA (aF.aI h) [kt c1,kc [] h3,kO,kc [] h4,kO,kc [] h5,kO,kc [] h6]
 .have h:=h.2 c1;exact aA (aF.aI h) [kf c1,kY,kY,kY]
abbrev sdB(d:DO):List ah:=[.box [bB d.sn,Md d.fs],.box [bB d.sn,Md d.fs]]
def sd0(d:DO)(k:Nat):St:={ aL:=aC 40 [(2,.ptr 0 0),(3,.ptr 1 0),(4,Am.bool false),(5,int k)],H:=sdB d }
theorem aoh(d:DO)(k:Nat)(x:FD)(hv:d.fs.length<=1000000000)(hk:(k:Int)<(d.fs.length:Int))(hx:d.fs[k]?=some x)(hS:Cq 30 [.agg (jB x),.agg (jB x)] (Am.bool true))(ex:bF)(s':St)(h:Rq 0 14 0 (sM 40 [(2,.ptr 0 0),(3,.ptr 1 0),(4,Am.bool false),(5,int ↑(k+1))] [.box [bB d.sn,.sl 7 false (dA d.fs)],.box [bB d.sn,.sl 7 false (dA d.fs)]]) ex s'):Rq 0 14 0 (sd0 d k) ex s':=by
 have jw:(0:Int)<=(k:Int)/\(dA d.fs)[Int.toNat (k:Int)]?=some (jB x):=(bG hx);exact aJ [kN 24 (fE d.fs),ki ((k:Int)<(↑(length d.fs):Int)),ko (bC.elem (jB x)),ko (bC.elem (jB x)),kp jw,kp jw,kc [] hS,kY,kW 27 (k+1) ↑(k+1)] (aB 40 [2,3,4,5]) 2 h
theorem aoi(d:DO)(k:Nat)(hk:¬(k:Int)<(d.fs.length:Int))(h:True):Rq 0 14 0 (sd0 d k) (bF.exit 0) (St.mk (aC 40 [(4,Am.bool false)]) (sdB d) []):=by
 exact aG [kN 24 (fE d.fs),kj ((k:Int)<(↑(length d.fs):Int))] (aB 40 [4]) 2
theorem aoj(d:DO)(hS:Cq 29 [bB d.sn,bB d.sn] (Am.bool true))(hL:Rq 0 14 0 (sd0 d 0) (.exit 0) { aL:=aC 40 [(4,Am.bool false)],H:=sdB d })(h:True):Cq 14 [kI d,kI d] (Am.bool true):=by
 have fT:=lU (fE d.fs);exact aj [kc [] hS,kY,kv 15 fT,kv 18 fT,kf (show((↑(length d.fs):Int)!=(↑(length d.fs):Int))=false from(y27 (qT zO))),kl (rG [(0,2),(6,34)]) 2 hL]
open Go.yU (CV rR val Cy iB fA avw avx)
def aH0:List ah:=[.box azK,.box azL]
def aH1(cs:List CV)(g:Nat):List ah:=[.box azK,.box [int 3,int 0,str .empty,.aU 3 g 0 cs.length],.aH,.aN g 4 false (iB cs)]
def aKn{α:Type}(E:α->List AV)(s F:Nat)(l:List α)(k:Nat)(H:List ah):St:={ aL:=aC 25 [(1,gP F),(4,.ptr 0 0),(5,.ptr 1 0),(9,slF E s l),(10,int l.length),(11,int k)],H:=H }
abbrev aKo(H:List ah):St:={ aL:=aC 25 [(4,.ptr 0 0),(5,.ptr 1 0)],H:=H }
theorem awu(n:Nat)(l:List CV):∀c∈iB l,AV.gH n c=true:=fun c hc=>agW (yU.azX l) n c hc
theorem o9(cs:List CV)(v:CV):iB cs++[v.cells]=iB (cs++[v]):=by rw[<- avw];rfl
theorem axd(cs:List CV)(v:CV)(g:Nat):aH1 (cs++[v]) (g+1)=[.box azK,.box [int 3,int 0,str .empty,.aU 3 (g+1) 0 (cs.length+1)],.aH,.aN (g+1) 4 false (iB cs++[v.cells])]:=by
 unfold aH1;rw[o9,yD];rfl
abbrev AlQ(s A:Nat):Prop:=(s=2/\A=73)\/(s=7/\A=76)\/(s=9/\A=172)\/(s=5/\A=146)\/(s=3/\A=175)\/(s=11/\A=177)
structure AlW{α:Type}(E:α->List AV)(V:α->CV)(s A F:Nat):Prop where
 y:∀(l:List α)(k:Nat)(x:α),(k:Int)<l.length->l[k]?=some x->Cq F [.agg (E x)] (val (V x))->∀(ex:bF)(s':St),Rq 0 A 0 (aKn E s F l (k+1) (aH1 [V x] 0)) ex s'->l.length<=1000000->Rq 0 A 0 (aKn E s F l k aH0) ex s'
 n:∀(l:List α)(k:Nat)(x:α)(cs:List CV)(g:Nat),(k:Int)<l.length->l[k]?=some x->Cq F [.agg (E x)] (val (V x))->∀(ex:bF)(s':St),Rq 0 A 0 (aKn E s F l (k+1) (aH1 (cs++[V x]) (g+1))) ex s'->l.length<=1000000->cs.length<=1000000->Rq 0 A 0 (aKn E s F l k (aH1 cs g)) ex s'
theorem aB0{V:CV}{x:List AV}:HSub [.box azK,.box [int 3,int 0,str .empty,.aU 3 0 0 1],.box x,.aN 0 4 false [V.cells]] (aH1 [V] 0):=⟨.inl rfl,.inl rfl,.inr yO,.inl rfl,yO⟩
theorem aIX:AlW bH.aQ dtV 2 73 74 where
 y l k x hk hx hF _ _ h ha:=aJ [ki ((k:Int)<l.length),ke (bH.aQ x) (l.map bH.aQ) k (bG hx),kc [] hF,Qx (dtV x).cells,vV 56,kW 23 (k+1) ↑(k+1)] (aB 25 [1,4,5,9,10,11]) 4 (h.acz (aB0 (x:=bH.aQ x)))
 n l k x cs g hk hx hF _ _ h ha hc:=aJ [ki ((k:Int)<l.length),ke (bH.aQ x) (l.map bH.aQ) k (bG hx),kc [] hF,kq g,kp (fA cs).symm,vV ((cs.length+1)*56),kW 23 (k+1) ↑(k+1),kp (show ∀y∈iB cs++[(dtV x).cells],AV.gH 4 y=true from o9 cs (dtV x)▸awu 4 _)] (aB 25 [1,4,5,9,10,11]) 4 (by rw[axd]at h;exact h)
theorem aIY:AlW jB fdV 7 76 77 where
 y l k x hk hx hF _ _ h ha:=aJ [ki ((k:Int)<l.length),ke (jB x) (l.map jB) k (bG hx),kc [] hF,Qx (fdV x).cells,vV 56,kW 23 (k+1) ↑(k+1)] (aB 25 [1,4,5,9,10,11]) 4 (h.acz (aB0 (x:=jB x)))
 n l k x cs g hk hx hF _ _ h ha hc:=aJ [ki ((k:Int)<l.length),ke (jB x) (l.map jB) k (bG hx),kc [] hF,kq g,kp (fA cs).symm,vV ((cs.length+1)*56),kW 23 (k+1) ↑(k+1),kp (show ∀y∈iB cs++[(fdV x).cells],AV.gH 4 y=true from o9 cs (fdV x)▸awu 4 _)] (aB 25 [1,4,5,9,10,11]) 4 (by rw[axd]at h;exact h)
theorem aIZ:AlW Sq.aQ ceV 9 172 173 where
 y l k x hk hx hF _ _ h ha:=aJ [ki ((k:Int)<l.length),ke (Sq.aQ x) (l.map Sq.aQ) k (bG hx),kc [] hF,Qx (ceV x).cells,vV 56,kW 23 (k+1) ↑(k+1)] (aB 25 [1,4,5,9,10,11]) 4 (h.acz (aB0 (x:=Sq.aQ x)))
 n l k x cs g hk hx hF _ _ h ha hc:=aJ [ki ((k:Int)<l.length),ke (Sq.aQ x) (l.map Sq.aQ) k (bG hx),kc [] hF,kq g,kp (fA cs).symm,vV ((cs.length+1)*56),kW 23 (k+1) ↑(k+1),kp (show ∀y∈iB cs++[(ceV x).cells],AV.gH 4 y=true from o9 cs (ceV x)▸awu 4 _)] (aB 25 [1,4,5,9,10,11]) 4 (by rw[axd]at h;exact h)
theorem aI0:AlW Bd.aQ biV 5 146 174 where
 y l k x hk hx hF _ _ h ha:=aJ [ki ((k:Int)<l.length),ke (Bd.aQ x) (l.map Bd.aQ) k (bG hx),kc [] hF,Qx (biV x).cells,vV 56,kW 23 (k+1) ↑(k+1)] (aB 25 [1,4,5,9,10,11]) 4 (h.acz (aB0 (x:=Bd.aQ x)))
 n l k x cs g hk hx hF _ _ h ha hc:=aJ [ki ((k:Int)<l.length),ke (Bd.aQ x) (l.map Bd.aQ) k (bG hx),kc [] hF,kq g,kp (fA cs).symm,vV ((cs.length+1)*56),kW 23 (k+1) ↑(k+1),kp (show ∀y∈iB cs++[(biV x).cells],AV.gH 4 y=true from o9 cs (biV x)▸awu 4 _)] (aB 25 [1,4,5,9,10,11]) 4 (by rw[axd]at h;exact h)
theorem aI1:AlW ze taV 3 175 176 where
 y l k x hk hx hF _ _ h ha:=aJ [ki ((k:Int)<l.length),ke (ze x) (l.map ze) k (bG hx),kc [] hF,Qx (taV x).cells,vV 56,kW 23 (k+1) ↑(k+1)] (aB 25 [1,4,5,9,10,11]) 4 (h.acz (aB0 (x:=ze x)))
 n l k x cs g hk hx hF _ _ h ha hc:=aJ [ki ((k:Int)<l.length),ke (ze x) (l.map ze) k (bG hx),kc [] hF,kq g,kp (fA cs).symm,vV ((cs.length+1)*56),kW 23 (k+1) ↑(k+1),kp (show ∀y∈iB cs++[(taV x).cells],AV.gH 4 y=true from o9 cs (taV x)▸awu 4 _)] (aB 25 [1,4,5,9,10,11]) 4 (by rw[axd]at h;exact h)
theorem aI2:AlW Tx.aQ maV 11 177 178 where
 y l k x hk hx hF _ _ h ha:=aJ [ki ((k:Int)<l.length),ke (Tx.aQ x) (l.map Tx.aQ) k (bG hx),kc [] hF,Qx (maV x).cells,vV 56,kW 23 (k+1) ↑(k+1)] (aB 25 [1,4,5,9,10,11]) 4 (h.acz (aB0 (x:=Tx.aQ x)))
 n l k x cs g hk hx hF _ _ h ha hc:=aJ [ki ((k:Int)<l.length),ke (Tx.aQ x) (l.map Tx.aQ) k (bG hx),kc [] hF,kq g,kp (fA cs).symm,vV ((cs.length+1)*56),kW 23 (k+1) ↑(k+1),kp (show ∀y∈iB cs++[(maV x).cells],AV.gH 4 y=true from o9 cs (maV x)▸awu 4 _)] (aB 25 [1,4,5,9,10,11]) 4 (by rw[axd]at h;exact h)
section
variable {α:Type} {E:α->List AV} {V:α->CV} {s A F:Nat} (q:AlQ s A) (w:AlW E V s A F)
include q
theorem aGa(l:List α)(k:Nat)(hk:¬(k:Int)<l.length):Rq 0 A 0 (aKn E s F l k aH0) (.exit 0) (aKo aH0):=by
 rcases q with⟨rfl,rfl⟩|⟨rfl,rfl⟩|⟨rfl,rfl⟩|⟨rfl,rfl⟩|⟨rfl,rfl⟩|⟨rfl,rfl⟩<;>exact aG [kj ((k:Int)<l.length)] (aB 25 [4,5]) 2
theorem aGb(l:List α)(k:Nat)(cs:List CV)(g:Nat)(hk:¬(k:Int)<l.length):Rq 0 A 0 (aKn E s F l k (aH1 cs g)) (.exit 0) (aKo (aH1 cs g)):=by
 rcases q with⟨rfl,rfl⟩|⟨rfl,rfl⟩|⟨rfl,rfl⟩|⟨rfl,rfl⟩|⟨rfl,rfl⟩|⟨rfl,rfl⟩<;>exact aG [kj ((k:Int)<l.length)] (aB 25 [4,5]) 4
end
end Go.Dc
namespace Go.Dc
open Go Go.Am Go.Proofs Go.eY Go.bH
open Go.yU (CV rR val Cy iB fA)
def its(l:List Int):List (List AV):=l.map fun n=>[int n]
def n0S(t:Bool)(l:List Int)(k:Nat):St:={ aL:=aC 18 [(2,aK),(5,.sl 1 t (its l)),(6,int l.length),(7,int k)],H:=[] }
def n1S(t:Bool)(l:List Int)(cs:List CV)(g k:Nat):St:={ aL:=aC 18 [(2,.aU 0 g 0 cs.length),(5,.sl 1 t (its l)),(6,int l.length),(7,int k)],H:=[.aN g 4 false (iB cs)] }
theorem aBm(l:List Int):(its l).length=l.length:=by simp[its]
theorem aI3(t:Bool)(l:List Int)(k:Nat)(x:Int)(ha:l.length<=1000)(hk:(k:Int)<(l.length:Int))(hx:l[k]?=some x)(ex:bF)(s':St)(h:Rq 0 75 0 (sM 18 [(2,.aU 0 0 0 1),(5,.sl 1 t (its l)),(6,int ↑l.length),(7,int ↑(k+1))] [.aN 0 4 false [[int 1,int x,str y28,.sl 4 false []]]]) ex s'):Rq 0 75 0 (n0S t l k) ex s':=by
 exact aJ [ki ((k:Int)<l.length),ko (bC.elem [int x]),kp (show(0:Int)<=(k:Int)/\(its l)[Int.toNat (k:Int)]?=some [int x]from(bG hx)),kc [] (@aBl (x)),Qx [int 1,int x,str y28,AV.sl 4 false []],vV 56,kW 16 (k+1) ↑(k+1)] (aB 18 [2,5,6,7]) 1 h
theorem aI4(t:Bool)(l:List Int)(cs:List CV)(g k:Nat)(x:Int)(ha:l.length<=1000)(hc:cs.length<=1000)(hk:(k:Int)<(l.length:Int))(hx:l[k]?=some x)(ex:bF)(s':St)(h:Rq 0 75 0 (sM 18 [(2,.aU 0 (g+1) 0 (length cs+1)),(5,.sl 1 t (its l)),(6,int ↑l.length),(7,int ↑(k+1))] [.aN (g+1) 4 false (iB cs++[[int 1,int x,str y28,.sl 4 false []]])]) ex s'):Rq 0 75 0 (n1S t l cs g k) ex s':=by
 exact aJ [ki ((k:Int)<l.length),ko (bC.elem [int x]),kp (show(0:Int)<=(k:Int)/\(its l)[Int.toNat (k:Int)]?=some [int x]from(bG hx)),kc [] (@aBl (x)),kq g,kp (Go.yU.fA cs).symm,vV ((length cs+1)*56),kW 16 (k+1) ↑(k+1)] (aB 18 [2,5,6,7]) 1 h
theorem aI5(t:Bool)(l:List Int)(cs:List CV)(g k:Nat)(hk:¬(k:Int)<(l.length:Int))(h:True):Rq 0 75 0 (n1S t l cs g k) (bF.exit 0) (sM 18 [(2,.aU 0 g 0 cs.length)] [.aN g 4 false (iB cs)]):=by
 have _:=h;exact aG [kj ((k:Int)<l.length)] (aB 18 [2]) 1
theorem aI6(t:Bool)(l:List Int)(cs:List CV)(g:Nat)(hL:Rq 0 75 0 (n0S t l 0) (.exit 0) { aL:=aC 18 [(2,.aU 0 g 0 cs.length)],H:=[.aN g 4 false (iB cs)] })(h:True):ak P G 75 [.sl 1 t (its l)] [] (aS.ret (AV.aU 0 g 0 cs.length)) [ah.aN g 4 false (iB cs)]:=by
 have _:=h;exact aj [kN 6 (aBm l),kl (rG [(0,2),(3,2),(8,10)]) 0 hL]
end Go.Dc
namespace Go.Am
open Go
theorem ak.aE3{P:Program}{G:Nat->Option (List AV)}{f:FuncId}{args:List AV}{H H' H1:List ah}{cs ds:List AV}{z:List (List AV)}{ps:List Prop}(h:ak P G f args H (.ret (.agg cs)) H')(ha:vZ H' cs z=some (ds,H1,ps))(dG:gZ ps):ak P G f args H (.ret (.agg ds)) H1 :=
 fun V vs hH hG hr=>(h V vs hH hG hr).mono fun e w' he=>by
  obtain⟨V',rfl,k2,k3,k4,k5⟩:=he;cases e with
  |returned v =>
   obtain⟨ws,rfl,hw⟩:=uO k5;obtain⟨V1,l1,l2,l3,l4,l5⟩:=nY (by rw[k4];exact ha) dG k3 hw;exact⟨V1,l1,k2.trans l3,l4,l2,.agg ds ws l5.1 l5.2⟩
  |panicked _=>exact k5.elim
  |outgrown=>exact k5.elim
end Go.Am
namespace Go.Dc
open Go Go.Am Go.Proofs Go.eY Go.bH
open Go.yU (CV rR val Cy iB fA avw avx)
section
variable {α:Type} {E:α->List AV} {V:α->CV} {s A F:Nat} (q:AlQ s A) (w:AlW E V s A F)
include q
theorem aI7(l:List α)(cs:List CV)(g:Nat)(hL:Rq 0 A 0 (aKn E s F l 0 aH0) (.exit 0) (aKo (aH1 cs g))):Cq A [slF E s l,gP F] (val (lsV cs)):=by
 rcases q with⟨rfl,rfl⟩|⟨rfl,rfl⟩|⟨rfl,rfl⟩|⟨rfl,rfl⟩|⟨rfl,rfl⟩|⟨rfl,rfl⟩<;>exact aj [kc [] aw6,kN 10 (show(l.map E).length=l.length from y10 E),kl (rG [(0,1),(2,2),(6,3),(12,13)]) 2 hL,ko (bC.fz (some 24) (iB cs)),kq g,kp (show List.take cs.length (List.drop 0 (iB cs))=iB cs from yU.aa7 cs),kp (fA cs),kp (yU.WV cs)]
theorem aI8(hL:Rq 0 A 0 (aKn E s F [] 0 aH0) (.exit 0) (aKo aH0)):Cq A [slF E s [],gP F] (.agg azL):=by
 rcases q with⟨rfl,rfl⟩|⟨rfl,rfl⟩|⟨rfl,rfl⟩|⟨rfl,rfl⟩|⟨rfl,rfl⟩|⟨rfl,rfl⟩<;>exact aj [kc [] aw6,kl (rG [(0,1),(2,2),(6,3),(12,13)]) 2 hL]
include w
theorem aI9(l:List α)(hl:l.length<=500000)(hF:∀x∈l,Cq F [.agg (E x)] (val (V x))):∀n k cs g,l.length-k=n->k<=l.length->cs.length<=k->∃g',Rq 0 A 0 (aKn E s F l k (aH1 cs g)) (.exit 0) (aKo (aH1 (cs++(l.drop k).map V) g')):=by
 intro n
 induction n with
 |zero =>
  intro k cs g hn hk hc;rw[y17 zO,map_nil,y19];exact⟨g,aGb q l k cs g zO⟩
 |succ n ih =>
  intro k cs g hn hk hc;have bg:k<l.length:=zO
  obtain⟨g',nx⟩:=ih (k+1) (cs++[V l[k]]) (g+1) zO zO (by rw[yD];exact Nat.succ_le_succ hc);refine⟨g',?_⟩;rw[y01 bg,map_cons,append_cons];exact w.n l k _ cs g zO (yA bg) (hF _ (y03 bg)) _ _ nx zO zO
theorem aB1(l:List α)(hl:l.length<=500000)(hF:∀x∈l,Cq F [.agg (E x)] (val (V x))):Cq A [slF E s l,gP F] (val (lsV (l.map V))):=by
 cases l with
 |nil=>exact(aI8 q (aGa q [] 0 zS)).out (aF.qo ⟨y29,y29,y29,aF.nil 4,yO⟩)
 |cons x l =>
  obtain⟨g',h⟩:=aI9 q w (x::l) hl hF _ 1 [V x] 0 rfl zS yM;exact aI7 q (x::l) (V x::l.map V) g' (w.y (x::l) 0 x (by rw[yE];omega) rfl (hF x (mem_cons_self ..)) _ _ h zO)
end
theorem aJa(t:Bool)(l:List Int)(hl:l.length<=900):∀n k cs g,l.length-k=n->k<=l.length->cs.length<=k->∃g',Rq 0 75 0 (n1S t l cs g k) (.exit 0) { aL:=aC 18 [(2,.aU 0 g' 0 (cs++(l.drop k).map zT).length)],H:=[.aN g' 4 false (iB (cs++(l.drop k).map zT))] }:=by
 intro n
 induction n with
 |zero =>
  intro k cs g hn hk hc;rw[y17 zO,map_nil,y19];exact⟨g,aI5 t l cs g k zO yO⟩
 |succ n ih =>
  intro k cs g hn hk hc;have bg:k<l.length:=zO
  obtain⟨g',nx⟩:=ih (k+1) (cs++[zT l[k]]) (g+1) zO zO (by rw[yD];exact Nat.succ_le_succ hc);refine⟨g',?_⟩;rw[y01 bg,map_cons,append_cons];refine aI4 t l cs g k l[k] zO zO zO (yA bg) _ _ ?_;unfold n1S at nx;rw[yD,<- o9]at nx;exact nx
theorem aCz(t:Bool)(x:Int)(l:List Int)(hl:l.length<=800):∃g,ak P G 75 [.sl 1 t (its (x::l))] [] (.ret (.aU 0 g 0 (l.length+1))) [.aN g 4 false (iB ((x::l).map zT))]:=by
 obtain⟨g,h⟩:=aJa t (x::l) (by simp;omega) _ 1 [zT x] 0 rfl zS yM;have h0:=aI3 t (x::l) 0 x (by rw[yE];omega) (by rw[yE];omega) rfl _ _ h;have h1:=aI6 t (x::l) ((x::l).map zT) g h0 trivial;rw[y10]at h1;exact⟨g,h1⟩
theorem aE4(x:Int)(l:List Int)(hl:l.length<=800):Cq 75 [.sl 1 true (its (x::l))] (.sl 4 false (iB ((x::l).map zT))):=by
 obtain⟨g,h⟩:=aCz true x l hl;exact(h.Mq (z:=iB ((x::l).map zT)) (y:=.sl 4 false (iB ((x::l).map zT))) (H1:=[.aN g 4 true (iB ((x::l).map zT))]) (ps:=[g=g,List.take (l.length+1) (List.drop 0 (iB ((x::l).map zT)))=iB ((x::l).map zT),(iB ((x::l).map zT)).length=l.length+1,∀c∈iB ((x::l).map zT),c.all AV.fJ=true]) rfl ⟨rfl,by rw[drop_zero,y23 (by simp[fA])],by simp[fA],yU.WV _,yO⟩).BM (H3:=[]) (qs:=[]) rfl trivial
end Go.Dc
namespace Go.Dc
open Go Go.Am Go.Proofs Go.eY Go.bH
open Go.yU (CV rR val Cy iB fA)
open Go.Sq (CE)
open Go.Bd (BE)
open Go.Tx (MK)
theorem aJb(xs:List (List AV))(g n:Nat)(h:((∀(x:List AV),x∈xs->AV.gH (length [ah.aN g 4 false xs]) x=true)/\True)):ak P G 53 [.aU 0 g 0 n] [ah.aN g 4 false xs] (aS.ret (AV.agg [int 3,int 0,str y28,AV.aU 0 g 0 n])) [ah.aN g 4 false xs]:=by
 obtain⟨o1,h⟩:=h;have _:=h;exact aj [kp o1]
theorem aJc  (h:True):Cq 253 [Am.bool true] (int 1):=by
 have _:=h;exact aj [kO]
theorem aJd  (h:True):Cq 253 [Am.bool false] (int 0):=by
 have _:=h;exact aj [kY]
theorem aGc(b:Bool):Cq 253 [Am.bool b] (int (if b then 1 else 0)):=by cases b;exact aJd trivial;exact aJc trivial
theorem aGd(x:D)(hN:Cq 75 [.sl 1 true [[int x.1],[int x.2]]] (.sl 4 false (iB [zT x.1,zT x.2])))(h:True):Cq 74 [.agg (aQ x)] (val (dtV x)):=by
 have _:=h;exact aj [kc [] hN,kc [] (@azf (false) ([[int 1,int x.1,str y28,AV.sl 4 false []],[int 1,int x.2,str y28,AV.sl 4 false []]]))]
theorem aGe(x:TL)(hN:Cq 75 [.sl 1 true [[int x.1],[int x.2.1],[int x.2.2]]] (.sl 4 false (iB [zT x.1,zT x.2.1,zT x.2.2])))(h:True):Cq 176 [.agg (ze x)] (val (taV x)):=by
 have _:=h;exact aj [kc [] hN,kc [] (@azf (false) ([[int 1,int x.1,str y28,AV.sl 4 false []],[int 1,int (Prod.fst x.2),str y28,AV.sl 4 false []],[int 1,int (Prod.snd x.2),str y28,AV.sl 4 false []]]))]
theorem aGf(m:MK)(n:Int)(hf:Cq 253 [Am.bool m.on] (int n))(hN:Cq 75 [.sl 1 true [[int m.dv],[int m.sq],[int m.tm],[int m.fd],[int m.fs],[int m.fa],[int m.td],[int m.ts],[int m.ta],[int m.st],[int n]]] (.sl 4 false (iB [zT m.dv,zT m.sq,zT m.tm,zT m.fd,zT m.fs,zT m.fa,zT m.td,zT m.ts,zT m.ta,zT m.st,zT n])))(h:True):Cq 178 [.agg (Tx.aQ m)] (val (lsV [zT m.dv,zT m.sq,zT m.tm,zT m.fd,zT m.fs,zT m.fa,zT m.td,zT m.ts,zT m.ta,zT m.st,zT n])):=by
 have _:=h;exact aj [kc [] hf,kc [] hN,kc [] (@azf (false) ([[int 1,int m.dv,str y28,AV.sl 4 false []],[int 1,int m.sq,str y28,AV.sl 4 false []],[int 1,int m.tm,str y28,AV.sl 4 false []],[int 1,int m.fd,str y28,AV.sl 4 false []],[int 1,int m.fs,str y28,AV.sl 4 false []],[int 1,int m.fa,str y28,AV.sl 4 false []],[int 1,int m.td,str y28,AV.sl 4 false []],[int 1,int m.ts,str y28,AV.sl 4 false []],[int 1,int m.ta,str y28,AV.sl 4 false []],[int 1,int m.st,str y28,AV.sl 4 false []],[int 1,int n,str y28,AV.sl 4 false []]]))]
theorem aGg(b:BE)(h:True):Cq 174 [.agg (Bd.aQ b)] (val (biV b)):=by
 have _:=h;exact aj [kc [] (@aDC b.ky),kc [] (@aBl b.dv),kc [] (@aBl b.sq),kc [] (@aBl b.tm),kc [] (@aDC b.vl),kc [] (@azf (true) ([[int 2,int 0,str b.ky,AV.sl 4 false []],[int 1,int b.dv,str y28,AV.sl 4 false []],[int 1,int b.sq,str y28,AV.sl 4 false []],[int 1,int b.tm,str y28,AV.sl 4 false []],[int 2,int 0,str b.vl,AV.sl 4 false []]]))]
theorem aGh(c:CE)(g:Nat)(n:Int)(l:List CV)(hl:l.length=7)(hf:Cq 253 [Am.bool c.gn] (int n))(hN:ak P G 75 [.sl 1 true [[int c.dv],[int c.sq],[int c.gU],[int c.ad],[int c.j6],[int c.aa],[int c.tm]]] [] (.ret (.aU 0 g 0 7)) [.aN g 4 false (iB l)])(hO:ak P G 53 [.aU 0 (g+1) 0 9] [.aN (g+1) 4 false (iB l++[[int 2,int 0,str c.vl,.sl 4 false []],[int 1,int n,str .empty,.sl 4 false []]])] (.ret (.agg [int 3,int 0,str .empty,.aU 0 (g+1) 0 9])) [.aN (g+1) 4 false (iB l++[[int 2,int 0,str c.vl,.sl 4 false []],[int 1,int n,str .empty,.sl 4 false []]])])(x:AV)(H':List ah)(h:(aF (AV.agg [int 3,int 0,str y28,AV.aU 2 (g+1) 0 9]) (x))/\([ah.box [int c.dv,int c.sq,int c.gU,int c.ad,int c.j6,int c.aa,int c.tm,str c.vl,Am.bool c.gn],ah.box [int 3,int 0,str y28,AV.aU 2 (g+1) 0 9],ah.aN (g+1) 4 false (iB l++[[int 2,int 0,str c.vl,AV.sl 4 false []],[int 1,int n,str y28,AV.sl 4 false []]])]=H')):ak P G 173 [.agg (Sq.aQ c)] [] (aS.ret x) H':=by
 have hz9:∀(x:List AV),x∈iB l++[[int 2,int 0,str c.vl,AV.sl 4 false []],[int 1,int n,str y28,AV.sl 4 false []]]->AV.aM [] x=true:=(by exact(Am.dx (Go.yU.azX _) (Am.dM rfl (Am.dM rfl Am.eU))));obtain⟨e1,eH⟩:=h;exact ak.heap (ak.out ((show ak P G 173 [.agg (Sq.aQ c)] [] (aS.ret (AV.agg [int 3,int 0,str y28,AV.aU 2 (g+1) 0 9])) [ah.box [int c.dv,int c.sq,int c.gU,int c.ad,int c.j6,int c.aa,int c.tm,str c.vl,Am.bool c.gn],ah.box [int 3,int 0,str y28,AV.aU 2 (g+1) 0 9],ah.aN (g+1) 4 false (iB l++[[int 2,int 0,str c.vl,AV.sl 4 false []],[int 1,int n,str y28,AV.sl 4 false []]])]from aj [kc [] hN,kp (Go.yU.azX l),kc [] (@aDC c.vl),kc [] hf,kc [] (@aBl (n)),kq g,kp (show 7=length (iB l)from(by simp only[yD,yE,y11,y10,Go.yU.fA,Go.yU.WV,Go.yU.azX,Go.yU.aa7]<;>omega)),vV 504,kc [2] hO,kp hz9,kp hz9])) e1) eH
theorem aGi(f:FD)(v:CV)(hk:f.pk=1)(h1:Cq 172 [Sq.bZ f.ce,gP 173] (val v))(h:True):Cq 78 [.agg (jB f)] (val v):=by
 have _:=h;exact aj [kt (show(f.pk==1)=true from(qT zO)),kc [] h1]
theorem aGj(f:FD)(v:CV)(hk:f.pk=2)(h1:Cq 146 [Bd.iK f.bi,gP 174] (val v))(h:True):Cq 78 [.agg (jB f)] (val v):=by
 have _:=h;exact aj [kf (show(f.pk==1)=false from(qF zO)),kt (show(f.pk==2)=true from(qT zO)),kc [] h1]
theorem aGk(f:FD)(v:CV)(hk:f.pk=3)(h1:Cq 175 [mF f.ta,gP 176] (val v))(h:True):Cq 78 [.agg (jB f)] (val v):=by
 have _:=h;exact aj [kf (show(f.pk==1)=false from(qF zO)),kf (show(f.pk==2)=false from(qF zO)),kt (show(f.pk==3)=true from(qT zO)),kc [] h1]
theorem aGl(f:FD)(v w:List CV)(h1:¬f.pk=1)(h2:¬f.pk=2)(h3:¬f.pk=3)(hc:Cq 172 [Sq.bZ f.tc,gP 173] (rR 3 0 .empty v))(hm:Cq 177 [Tx.oI f.tm,gP 178] (rR 3 0 .empty w))(h:True):Cq 78 [.agg (jB f)] (val (lsV [lsV v,lsV w])):=by
 have _:=h;exact aj [kf (show(f.pk==1)=false from(qF zO)),kf (show(f.pk==2)=false from(qF zO)),kf (show(f.pk==3)=false from(qF zO)),kc [] hc,kc [] hm,kc [] (@azf (true) ([[int 3,int 0,str y28,AV.sl 4 false (iB v)],[int 3,int 0,str y28,AV.sl 4 false (iB w)]]))]
theorem aGm(f:FD)(v:CV)(hc:Cq 78 [.agg (jB f)] (.agg [int v.k,int v.n,str v.s,.sl 4 false (iB v.l)]))(h:True):Cq 77 [.agg (jB f)] (.agg [int 3,int 0,str y28,.sl 4 false [[int 1,int f.pk,str y28,.sl 4 false []],[int 2,int 0,str f.pn,.sl 4 false []],[int v.k,int v.n,str v.s,.sl 4 false (iB v.l)]]]):=by
 have _:=h;exact aj [kc [] (@aBl f.pk),kc [] (@aDC f.pn),kc [] hc,kc [] (@azf (true) ([[int 1,int f.pk,str y28,AV.sl 4 false []],[int 2,int 0,str f.pn,AV.sl 4 false []],[int v.k,int v.n,str v.s,AV.sl 4 false (iB v.l)]]))]
end Go.Dc
namespace Go.Dc
open Go Go.Am Go.Proofs Go.eY Go.bH
open Go.yU (CV rR val Cy iB fA QG av7 gT jg dp JO wf Lb)
open Go.Sq (CE)
open Go.Bd (BE)
open Go.Tx (MK)
theorem aCA(x:Int)(l:List Int)(hl:l.length<=800){y:List (List AV)}(h:its (x::l)=y):Cq 75 [.sl 1 true y] (.sl 4 false (iB ((x::l).map zT))):=h▸aE4 x l hl
theorem aGn(x:D):Cq 74 [.agg (bH.aQ x)] (val (dtV x)):=aGd x (aCA x.1 [x.2] zS rfl) trivial
theorem aGo(x:TL):Cq 176 [.agg (ze x)] (val (taV x)):=aGe x (aCA x.1 [x.2.1,x.2.2] zS rfl) trivial
theorem aGp(m:MK):Cq 178 [.agg (Tx.aQ m)] (val (maV m)):=aGf m _ (aGc m.on) (aCA m.dv [m.sq,m.tm,m.fd,m.fs,m.fa,m.td,m.ts,m.ta,m.st,if m.on then 1 else 0] zS rfl) trivial
theorem aGq(b:BE):Cq 174 [.agg (Bd.aQ b)] (val (biV b)):=aGg b trivial
theorem aGr(c:CE):Cq 173 [.agg (Sq.aQ c)] (val (ceV c)):=by
 obtain⟨g,hN⟩:=aCz true c.dv [c.sq,c.gU,c.ad,c.j6,c.aa,c.tm] zS;let l:List CV:=[c.dv,c.sq,c.gU,c.ad,c.j6,c.aa,c.tm].map zT;have e:iB l++[[int 2,int 0,str c.vl,.sl 4 false []],[int 1,int (if c.gn then 1 else 0),str .empty,.sl 4 false []]]=iB (l++[wdV c.vl,flV c.gn]):=by rw[<- yU.avw];rfl
 have hO:=aJb (iB (l++[wdV c.vl,flV c.gn])) (g+1) 9 ⟨awu _ _,yO⟩;rw[<- e]at hO;have h:=aGh c g _ l rfl (aGc c.gn) hN hO _ _ ⟨y29,rfl⟩;rw[e]at h;exact(h.aE3 (z:=iB (l++[wdV c.vl,flV c.gn])) (ds:=[int 3,int 0,str .empty,.sl 4 false (iB (l++[wdV c.vl,flV c.gn]))]) (H1:=[.box (Sq.aQ c),.box [int 3,int 0,str .empty,.aU 2 (g+1) 0 9],.aN (g+1) 4 true (iB (l++[wdV c.vl,flV c.gn]))]) (ps:=[g+1=g+1,List.take 9 (List.drop 0 (iB (l++[wdV c.vl,flV c.gn])))=iB (l++[wdV c.vl,flV c.gn]),(iB (l++[wdV c.vl,flV c.gn])).length=9,∀u∈iB (l++[wdV c.vl,flV c.gn]),u.all AV.fJ=true]) rfl ⟨rfl,rfl,rfl,yU.WV _,yO⟩).BM (H3:=[]) (qs:=[]) rfl trivial
theorem aBz(l:List CE)(h:l.length<=500000):Cq 172 [Sq.bZ l,gP 173] (val (lsV (l.map ceV))):=aB1 (E:=Sq.aQ) (V:=ceV) zD aIZ l h fun x _=>aGr x
theorem aGs(f:FD)(h:XW f)(hs:f.ce.length<=500000/\f.bi.length<=500000/\f.ta.length<=500000/\f.tc.length<=500000/\f.tm.length<=500000):Cq 78 [.agg (jB f)] (val (coV f)):=by
 unfold coV;by_cases h1:f.pk=1
 .rw [yL h1];exact aGi f _ h1 (aBz _ hs.1) trivial
 .rw [yK h1];by_cases h2:f.pk=2
  .rw [yL h2];exact aGj f _ h2 (aB1 (E:=Bd.aQ) (V:=biV) zD aI0 f.bi hs.2.1 fun x _=>aGq x) trivial
  .rw [yK h2];by_cases h3:f.pk=3
   .rw [yL h3];exact aGk f _ h3 (aB1 (E:=ze) (V:=taV) zD aI1 f.ta hs.2.2.1 fun x _=>aGo x) trivial
   .rw [yK h3];exact aGl f _ _ h1 h2 h3 (aBz _ hs.2.2.2.1) (aB1 (E:=Tx.aQ) (V:=maV) zD aI2 f.tm hs.2.2.2.2 fun x _=>aGp x) trivial
theorem aGt(f:FD)(h:XW f)(hs:f.ce.length<=500000/\f.bi.length<=500000/\f.ta.length<=500000/\f.tc.length<=500000/\f.tm.length<=500000):Cq 77 [.agg (jB f)] (val (fdV f)):=by
 have e:val (fdV f) = .agg [int 3,int 0,str .empty,.sl 4 false [[int 1,int f.pk,str .empty,.sl 4 false []],[int 2,int 0,str f.pn,.sl 4 false []],[int (coV f).k,int (coV f).n,str (coV f).s,.sl 4 false (iB (coV f).l)]]]:=by
  show AV.agg [int 3,int 0,str .empty,.sl 4 false [(zT f.pk).cells,(wdV f.pn).cells,(coV f).cells]]=_;rw[yU.aa6 (coV f)];rfl
 rw[e];exact aGm f (coV f) (aGs f h hs) trivial
theorem awv{α:Type}{f:α->CV}(h:∀x,wf (f x)=true):∀l:List α,Lb (l.map f)=true
 |[]=>rfl
 |x::l=>by rw[map_cons,Lb,h x,awv h l];rfl
variable {l:List CV}
theorem avL(h:Lb l=true):wf (lsV l)=true:=by simp[lsV,wf,h]
theorem aAu(n:Int):wf (zT n)=true:=by simp[zT,wf]
theorem aCB(s:yP):wf (wdV s)=true:=by simp[wdV,wf]
theorem aEM(c:CE):wf (ceV c)=true:=avL (by simp[Lb,aAu,aCB,flV])
theorem aGu(f:FD):wf (coV f)=true:=by
 unfold coV;split
 .exact avL (awv aEM _)
 .split
  .exact avL (awv (fun x=>avL (by simp[Lb,aAu,aCB])) _)
  .split
   .exact avL (awv (fun x=>avL (by simp[Lb,aAu])) _)
   .exact avL (by simp[Lb,avL (awv aEM f.tc),avL (awv (f:=maV) (fun x=>avL (by simp[Lb,aAu,flV])) f.tm)])
theorem aE5(d:DO):wf (awo d)=true:=avL (by simp[Lb,avL (awv (f:=dtV) (fun x=>avL (by simp[Lb,aAu])) d.sn),avL (awv (f:=fdV) (fun x=>avL (by simp[Lb,aAu,aCB,aGu])) d.fs)])
theorem aww{α:Type}{f:α->CV}{n:Nat}(h:∀x,dp (f x)<=n):∀l:List α,JO (l.map f)<=n
 |[]=>yN
 |x::l=>by rw[map_cons,JO];exact Nat.max_le.2 ⟨h x,aww h l⟩
theorem avU{n:Nat}(h:JO l<=n):dp (lsV l)<=n+1:=by simp only[lsV,dp,if_true];omega
theorem aEN(c:CE):dp (ceV c)<=1:=avU (by simp[JO,dp,zT,wdV,flV])
theorem aGv(f:FD):dp (coV f)<=3:=by
 unfold coV;split
 .exact Nat.le_succ_of_le (avU (aww aEN _))
 .split
  .exact Nat.le_succ_of_le (avU (aww (n:=1) (fun x=>avU (by simp[JO,dp,zT,wdV])) _))
  .split
   .exact Nat.le_succ_of_le (avU (aww (n:=1) (fun x=>avU (by simp[JO,dp,zT])) _))
   .refine avU ?_;have h1:=avU (aww aEN f.tc);have h2:=avU (aww (n:=1) (f:=maV) (fun x=>avU (by simp[JO,dp,zT,flV])) f.tm);simp only[JO];omega
theorem aBn(d:DO):dp (awo d)<=6:=by
 refine avU ?_;have h1:=avU (aww (n:=1) (f:=dtV) (fun x=>avU (by simp[JO,dp,zT])) d.sn);have h2:=avU (aww (n:=4) (f:=fdV) (fun x=>avU (by have:=aGv x;simp only[JO,dp,zT,wdV];simp;omega)) d.fs);simp only[JO];omega
theorem aAD(d:DO):jg (awo d)=0:=by
 unfold jg;have:=aBn d;rw[yL (aE5 d),yK zO]
theorem aAU(d:DO):av7 (awo d)=gT (awo d):=by unfold av7;rw[yL (aAD d)]
theorem atD{n:Int}(h:bV.Sv n):QG (zT n):=.mk _ _ _ _ h yN yN (fun _ h=>by cases h)
theorem aBo{s:yP}(h:s.size<=pU):QG (wdV s):=.mk _ _ _ _ ⟨zD,zD⟩ h yN (fun _ h=>by cases h)
theorem axi(h:l.length<=pU)(k:∀x∈l,QG x):QG (lsV l):=.mk _ _ _ _ ⟨zD,zD⟩ yN h k
theorem axj{α:Type}{f:α->CV}{l:List α}(h:l.length<=pU)(k:∀x∈l,QG (f x)):QG (lsV (l.map f)):=axi (by rw[y10];exact h) fun x hx=>by
 obtain⟨y,hy,rfl⟩:=yG.1 hx;exact k y hy
theorem aCC(b:Bool):bV.Sv (if b then 1 else 0):=by cases b<;>exact⟨zD,zD⟩
theorem aCD{c:CE}(h:Sq.Cu c/\bV.Sv c.tm/\c.vl.size<=pU):QG (ceV c):=by
 obtain⟨⟨⟨a1,a2,a3⟩,b1,b2,b3⟩,t,v⟩:=h;refine axi (by simp only[yE,y11];decide) fun x hx=>?_;simp only[yH,y12,or_false]at hx;rcases hx with rfl|rfl|rfl|rfl|rfl|rfl|rfl|rfl|rfl
 .exact atD a1
 .exact atD a2
 .exact atD a3
 .exact atD b1
 .exact atD b2
 .exact atD b3
 .exact atD t
 .exact aBo v
 .exact atD (aCC _)
theorem aE6{m:MK}(h:Tx.OkM m):QG (maV m):=by
 obtain⟨a1,a2,a3,a4,a5,a6,a7,a8,a9,b1⟩:=h;refine axi (by simp only[yE,y11];decide) fun x hx=>?_;simp only[yH,y12,or_false]at hx;rcases hx with rfl|rfl|rfl|rfl|rfl|rfl|rfl|rfl|rfl|rfl|rfl
 all_goals first|exact atD (aCC _)|exact atD (by assumption)
variable {d:DO}
theorem aBA(h:avT d):QG (awo d):=by
 refine axi (by simp only[yE,y11];decide) fun x hx=>?_;simp only[yH,y12,or_false]at hx;rcases hx with rfl|rfl
 .refine axj h.ls fun x hx=>axi (by simp only[yE,y11];decide) fun y hy=>?_;simp only[yH,y12,or_false]at hy;rcases hy with rfl|rfl
  .exact atD (h.rs x hx).1
  .exact atD (h.rs x hx).2
 .refine axj h.lf fun f hf=>axi (by simp only[yE,y11];decide) fun y hy=>?_;have k:=h.rf f hf;simp only[yH,y12,or_false]at hy;rcases hy with rfl|rfl|rfl
  .exact atD k.pk
  .exact aBo k.pn
  .unfold coV;split
   .exact axj k.lc fun x hx=>aCD (k.rc x hx)
   .split
    .refine axj k.lb fun x hx=>axi (by simp only[yE,y11];decide) fun y hy=>?_;obtain⟨⟨b1,b2,b3⟩,b4,b5⟩:=k.rb x hx;simp only[yH,y12,or_false]at hy;rcases hy with rfl|rfl|rfl|rfl|rfl
     all_goals first|exact aBo (by assumption)|exact atD (by assumption)
    .split
     .refine axj k.la fun x hx=>axi (by simp only[yE,y11];decide) fun y hy=>?_;obtain⟨b1,b2,b3⟩:=k.ra x hx;simp only[yH,y12,or_false]at hy;rcases hy with rfl|rfl|rfl
      all_goals exact atD (by assumption)
     .refine axi (by simp only[yE,y11];decide) fun y hy=>?_;simp only[yH,y12,or_false]at hy;rcases hy with rfl|rfl
      .exact axj k.lt fun x hx=>aCD (k.rt x hx)
      .exact axj k.lm fun x hx=>aE6 (k.rm x hx)
theorem aCE(ha:avT d)(dm:Dim d)(h5:d.sn.length<=500000/\d.fs.length<=500000)(hs:∀f∈d.fs,f.ce.length<=500000/\f.bi.length<=500000/\f.ta.length<=500000/\f.tc.length<=500000/\f.tm.length<=500000)(hl:F9 d=0->(gT (awo d)).length<=10000000) :
 Cq 21 [kI d] (if F9 d=0 then .bq [Cy (gT (awo d)),int 0]else .bq [aK,int 180]):=by
 have hK:=fG d dm;by_cases h:F9 d=0
 .rw [yL h];rw[h]at hK;have hE:=yU.awI (awo d) (aBA ha) (by have:=aBn d;omega) fun _=>hl h;rw[aAU,aAD]at hE;exact azg d (d.sn.map dtV) (d.fs.map fdV) _ 0 hK (aB1 (E:=bH.aQ) (V:=dtV) zD aIX d.sn h5.1 fun x _=>aGn x) (aB1 (E:=jB) (V:=fdV) zD aIY d.fs h5.2 fun f hf=>aGt f (dm.len f hf) (hs f hf)) hE trivial
 .rw [yK h];have e:F9 d=180:=by unfold F9 at h |-;split;(rename_i k;rw[yL k]at h;exact absurd rfl h);rfl
  rw[e]at hK;exact aIT d 180 zD hK trivial
end Go.Dc
namespace Go.Dc
open Go Go.Am Go.Proofs Go.eY Go.bH
open Go.yU (CV rR val Cy iB fA)
open Go.Sq (CE)
open Go.Bd (BE)
open Go.Tx (MK)
open Go.bV (vo aiS zB)
theorem aGw  (h:True):Cq 180 [Am.bool true] (int 1):=by
 have _:=h;exact aj [kO]
theorem aGx  (h:True):Cq 180 [Am.bool false] (int 0):=by
 have _:=h;exact aj [kY]
theorem aAE(b:Bool):Cq 180 [Am.bool b] (int (if b then 1 else 0)):=by cases b;exact aGx trivial;exact aGw trivial
def aDD(l:List CE):St:={ aL:=aC 58 [(0,Sq.bZ l),(2,.ptr 0 0),(3,.sl 4 true []),(4,int 0)],H:=[.box azK] }
def rvS(l:List CE)(g:Nat)(cs:List CV)(k:Nat):St:={ aL:=aC 58 [(0,Sq.bZ l),(2,.ptr 0 0),(3,.aU 2 g 0 cs.length),(4,int k)],H:=[.box azK,.aH,.aN g 4 false (iB cs)] }
theorem aGy(l:List CE)(h0:¬(0:Int)<(l.length:Int))(h:True):Rq 0 179 0 (aDD l) (bF.exit 0) (sM 58 [(2,.ptr 0 0),(3,.sl 4 true [])] [.box azK]):=by
 have _:=h;exact aG [kv 9 (show Am.aF (int (↑(length (Sq.au l)):Int)) (int ↑l.length)from(aF.of_eq (by simp only[Go.Sq.ay]))),kj ((0:Int)<l.length)] (aB 58 [2,3]) 1
theorem aJe(l:List CE)(g:Nat)(cs:List CV)(k:Nat)(h0:¬(k:Int)<(l.length:Int))(h:True):Rq 0 179 0 (rvS l g cs k) (bF.exit 0) (sM 58 [(2,.ptr 0 0),(3,.aU 2 g 0 cs.length)] [.box azK,.aH,.aN g 4 false (iB cs)]):=by
 have _:=h;exact aG [kv 9 (show Am.aF (int (↑(length (Sq.au l)):Int)) (int ↑l.length)from(aF.of_eq (by simp only[Go.Sq.ay]))),kj ((k:Int)<l.length)] (aB 58 [2,3]) 3
theorem aGz(l:List CE)(x:CE)(n:Int)(h0:(0:Int)<(l.length:Int))(hx:l[0]?=some x)(hb:Cq 180 [Am.bool x.gn] (int n))(hl:l.length<=1000000)(ex:bF)(s':St)(h:Rq 0 179 0 (sM 58 [(0,.sl 9 false (Sq.au l)),(2,.ptr 0 0),(3,.aU 2 0 0 1),(4,int 1)] [.box [int 0,int 0,str y28,aK],.box [int x.dv,int x.sq,int x.gU,int x.ad,int x.j6,int x.aa,int x.tm,str x.vl,Am.bool x.gn],.aN 0 4 false [[int 3,int 0,str y28,.sl 4 false [[int 1,int x.dv,str y28,.sl 4 false []],[int 1,int x.sq,str y28,.sl 4 false []],[int 1,int x.gU,str y28,.sl 4 false []],[int 1,int x.ad,str y28,.sl 4 false []],[int 1,int x.j6,str y28,.sl 4 false []],[int 1,int x.aa,str y28,.sl 4 false []],[int 1,int x.tm,str y28,.sl 4 false []],[int 2,int 0,str x.vl,.sl 4 false []],[int 1,int n,str y28,.sl 4 false []]]]]]) ex s'):Rq 0 179 0 (aDD l) ex s':=by
 exact aJ [kv 9 (show Am.aF (int (↑(length (Sq.au l)):Int)) (int ↑l.length)from(aF.of_eq (by simp only[Go.Sq.ay]))),ki ((0:Int)<l.length),ke (Sq.aQ x) (Sq.au l) (0:Int) (bG hx),kc [] (@Go.bV.vo x.dv),kc [] (@Go.bV.vo x.sq),kc [] (@Go.bV.vo x.gU),kc [] (@Go.bV.vo x.ad),kc [] (@Go.bV.vo x.j6),kc [] (@Go.bV.vo x.aa),kc [] (@Go.bV.vo x.tm),kc [] (@Go.bV.aiS x.vl),kc [] hb,kc [] (@Go.bV.vo (n)),kc [] (@Go.bV.zB (true) ([[int 1,int x.dv,str y28,AV.sl 4 false []],[int 1,int x.sq,str y28,AV.sl 4 false []],[int 1,int x.gU,str y28,AV.sl 4 false []],[int 1,int x.ad,str y28,AV.sl 4 false []],[int 1,int x.j6,str y28,AV.sl 4 false []],[int 1,int x.aa,str y28,AV.sl 4 false []],[int 1,int x.tm,str y28,AV.sl 4 false []],[int 2,int 0,str x.vl,AV.sl 4 false []],[int 1,int n,str y28,AV.sl 4 false []]])),Qx [int 3,int 0,str y28,AV.sl 4 false [[int 1,int x.dv,str y28,AV.sl 4 false []],[int 1,int x.sq,str y28,AV.sl 4 false []],[int 1,int x.gU,str y28,AV.sl 4 false []],[int 1,int x.ad,str y28,AV.sl 4 false []],[int 1,int x.j6,str y28,AV.sl 4 false []],[int 1,int x.aa,str y28,AV.sl 4 false []],[int 1,int x.tm,str y28,AV.sl 4 false []],[int 2,int 0,str x.vl,AV.sl 4 false []],[int 1,int n,str y28,AV.sl 4 false []]]],vV 56] (aB 58 [0,2,3,4]) 3 h
theorem aJf(l:List CE)(x:CE)(n:Int)(g:Nat)(cs:List CV)(k:Nat)(h0:(k:Int)<(l.length:Int))(hx:l[k]?=some x)(hb:Cq 180 [Am.bool x.gn] (int n))(hl:l.length<=1000000)(jQ:cs.length<=1000000)(ex:bF)(s':St)(h:((∀(x_1:List AV),x_1∈iB cs++[[int 3,int 0,str y28,AV.sl 4 false [[int 1,int x.dv,str y28,AV.sl 4 false []],[int 1,int x.sq,str y28,AV.sl 4 false []],[int 1,int x.gU,str y28,AV.sl 4 false []],[int 1,int x.ad,str y28,AV.sl 4 false []],[int 1,int x.j6,str y28,AV.sl 4 false []],[int 1,int x.aa,str y28,AV.sl 4 false []],[int 1,int x.tm,str y28,AV.sl 4 false []],[int 2,int 0,str x.vl,AV.sl 4 false []],[int 1,int n,str y28,AV.sl 4 false []]]]]->AV.gH 3 x_1=true)/\Rq 0 179 0 (sM 58 [(0,.sl 9 false (Sq.au l)),(2,.ptr 0 0),(3,.aU 2 (g+1) 0 (length cs+1)),(4,int ↑(k+1))] [.box [int 0,int 0,str y28,aK],.aH,.aN (g+1) 4 false (iB cs++[[int 3,int 0,str y28,.sl 4 false [[int 1,int x.dv,str y28,.sl 4 false []],[int 1,int x.sq,str y28,.sl 4 false []],[int 1,int x.gU,str y28,.sl 4 false []],[int 1,int x.ad,str y28,.sl 4 false []],[int 1,int x.j6,str y28,.sl 4 false []],[int 1,int x.aa,str y28,.sl 4 false []],[int 1,int x.tm,str y28,.sl 4 false []],[int 2,int 0,str x.vl,.sl 4 false []],[int 1,int n,str y28,.sl 4 false []]]]])]) ex s')):Rq 0 179 0 (rvS l g cs k) ex s':=by
 obtain⟨o2,h⟩:=h;exact aJ [kv 9 (show Am.aF (int (↑(length (Sq.au l)):Int)) (int ↑l.length)from(aF.of_eq (by simp only[Go.Sq.ay]))),ki ((k:Int)<l.length),ke (Sq.aQ x) (Sq.au l) k (bG hx),kc [] (@Go.bV.vo x.dv),kc [] (@Go.bV.vo x.sq),kc [] (@Go.bV.vo x.gU),kc [] (@Go.bV.vo x.ad),kc [] (@Go.bV.vo x.j6),kc [] (@Go.bV.vo x.aa),kc [] (@Go.bV.vo x.tm),kc [] (@Go.bV.aiS x.vl),kc [] hb,kc [] (@Go.bV.vo (n)),kc [] (@Go.bV.zB (true) ([[int 1,int x.dv,str y28,AV.sl 4 false []],[int 1,int x.sq,str y28,AV.sl 4 false []],[int 1,int x.gU,str y28,AV.sl 4 false []],[int 1,int x.ad,str y28,AV.sl 4 false []],[int 1,int x.j6,str y28,AV.sl 4 false []],[int 1,int x.aa,str y28,AV.sl 4 false []],[int 1,int x.tm,str y28,AV.sl 4 false []],[int 2,int 0,str x.vl,AV.sl 4 false []],[int 1,int n,str y28,AV.sl 4 false []]])),kq g,kp (Go.yU.fA cs).symm,vV ((length cs+1)*56),kW 12 (k+1) ↑(k+1),kp o2] (aB 58 [0,2,3,4]) 3 h
theorem aGA(l:List CE)(hL:Rq 0 179 0 (aDD l) (.exit 0) { aL:=aC 58 [(2,.ptr 0 0),(3,.sl 4 true [])],H:=[.box azK] })(h:True):Cq 179 [Sq.bZ l] (rR 3 0 y28 []):=by
 have _:=h;exact aj [kl (rG [(1,1),(5,53)]) 1 hL,kc [] (@Go.bV.zB (true) ([]))]
theorem aGB(l:List CE)(g:Nat)(cs:List CV)(hL:Rq 0 179 0 (aDD l) (.exit 0) { aL:=aC 58 [(2,.ptr 0 0),(3,.aU 2 g 0 cs.length)],H:=[.box azK,.aH,.aN g 4 false (iB cs)] })(h:True):Cq 179 [Sq.bZ l] (rR 3 0 y28 cs):=by
 have _:=h;exact aj [kl (rG [(1,1),(5,53)]) 1 hL,ko (bC.Gu (iB cs)),kq g,kp (show List.take cs.length (List.drop 0 (iB cs))=iB cs from(Go.yU.aa7 _)),kp (Go.yU.fA cs),kp (Go.yU.WV cs),kc [] (@Go.bV.zB (false) (iB cs))]
end Go.Dc
namespace Go.Dc
open Go Go.Am Go.Proofs Go.eY Go.bH
open Go.yU (CV rR val Cy iB fA)
open Go.Sq (CE)
open Go.Bd (BE)
open Go.Tx (MK)
open Go.bV (vo aiS zB aAF)
def aDE(f:FD):St:={ aL:=aC 148 [(1,.ptr 0 0),(2,.ptr 1 0),(3,.sl 4 true []),(4,int 0)],H:=[.box (jB f),.box azK] }
def rbS(f:FD)(g:Nat)(cs:List CV)(k:Nat):St:={ aL:=aC 148 [(1,.ptr 0 0),(2,.ptr 1 0),(3,.aU 3 g 0 cs.length),(4,int k)],H:=[.box (jB f),.box azK,.aH,.aN g 4 false (iB cs)] }
theorem aGC(f:FD)(h0:¬(0:Int)<(f.bi.length:Int))(h:True):Rq 0 80 0 (aDE f) (bF.exit 1) (sM 148 [(2,.ptr 1 0),(3,.sl 4 true [])] [.box (jB f),.box azK]):=by
 have _:=h;exact aG [kv 23 (show Am.aF (int (↑(length (Bd.au f.bi)):Int)) (int ↑(length f.bi))from(aF.of_eq (by simp only[Go.Bd.ay]))),kj ((0:Int)<(↑(length f.bi):Int))] (aB 148 [2,3]) 2
theorem aJg(f:FD)(g:Nat)(cs:List CV)(k:Nat)(h0:¬(k:Int)<(f.bi.length:Int))(h:True):Rq 0 80 0 (rbS f g cs k) (bF.exit 1) (sM 148 [(2,.ptr 1 0),(3,.aU 3 g 0 cs.length)] [.box (jB f),.box azK,.aH,.aN g 4 false (iB cs)]):=by
 have _:=h;exact aG [kv 23 (show Am.aF (int (↑(length (Bd.au f.bi)):Int)) (int ↑(length f.bi))from(aF.of_eq (by simp only[Go.Bd.ay]))),kj ((k:Int)<(↑(length f.bi):Int))] (aB 148 [2,3]) 4
theorem aGD(f:FD)(x:BE)(h0:(0:Int)<(f.bi.length:Int))(hx:f.bi[0]?=some x)(hl:f.bi.length<=1000000)(ex:bF)(s':St)(h:Rq 0 80 0 (sM 148 [(1,.ptr 0 0),(2,.ptr 1 0),(3,.aU 3 0 0 1),(4,int 1)] [.box [int f.pk,str f.pn,.sl 9 false (Sq.au f.ce),.sl 5 false (Bd.au f.bi),.sl 3 false (lH f.ta),.sl 9 false (Sq.au f.tc),.sl 11 false (Tx.au f.tm)],.box [int 0,int 0,str y28,aK],.box [str x.ky,int x.dv,int x.sq,int x.tm,str x.vl],.aN 0 4 false [[int 3,int 0,str y28,.sl 4 false [[int 2,int 0,str x.ky,.sl 4 false []],[int 1,int x.dv,str y28,.sl 4 false []],[int 1,int x.sq,str y28,.sl 4 false []],[int 1,int x.tm,str y28,.sl 4 false []],[int 2,int 0,str x.vl,.sl 4 false []]]]]]) ex s'):Rq 0 80 0 (aDE f) ex s':=by
 exact aJ [kv 23 (show Am.aF (int (↑(length (Bd.au f.bi)):Int)) (int ↑(length f.bi))from(aF.of_eq (by simp only[Go.Bd.ay]))),ki ((0:Int)<(↑(length f.bi):Int)),ke (Bd.aQ x) (Bd.au f.bi) (0:Int) (bG hx),kc [] (@Go.bV.aiS x.ky),kc [] (@Go.bV.vo x.dv),kc [] (@Go.bV.vo x.sq),kc [] (@Go.bV.vo x.tm),kc [] (@Go.bV.aiS x.vl),kc [] (@Go.bV.zB (true) ([[int 2,int 0,str x.ky,AV.sl 4 false []],[int 1,int x.dv,str y28,AV.sl 4 false []],[int 1,int x.sq,str y28,AV.sl 4 false []],[int 1,int x.tm,str y28,AV.sl 4 false []],[int 2,int 0,str x.vl,AV.sl 4 false []]])),Qx [int 3,int 0,str y28,AV.sl 4 false [[int 2,int 0,str x.ky,AV.sl 4 false []],[int 1,int x.dv,str y28,AV.sl 4 false []],[int 1,int x.sq,str y28,AV.sl 4 false []],[int 1,int x.tm,str y28,AV.sl 4 false []],[int 2,int 0,str x.vl,AV.sl 4 false []]]],vV 56] (aB 148 [1,2,3,4]) 4 h
theorem aJh(f:FD)(x:BE)(g:Nat)(cs:List CV)(k:Nat)(h0:(k:Int)<(f.bi.length:Int))(hx:f.bi[k]?=some x)(hl:f.bi.length<=1000000)(jQ:cs.length<=1000000)(ex:bF)(s':St)(h:((∀(x_1:List AV),x_1∈iB cs++[[int 3,int 0,str y28,AV.sl 4 false [[int 2,int 0,str x.ky,AV.sl 4 false []],[int 1,int x.dv,str y28,AV.sl 4 false []],[int 1,int x.sq,str y28,AV.sl 4 false []],[int 1,int x.tm,str y28,AV.sl 4 false []],[int 2,int 0,str x.vl,AV.sl 4 false []]]]]->AV.gH 4 x_1=true)/\Rq 0 80 0 (sM 148 [(1,.ptr 0 0),(2,.ptr 1 0),(3,.aU 3 (g+1) 0 (length cs+1)),(4,int ↑(k+1))] [.box [int f.pk,str f.pn,.sl 9 false (Sq.au f.ce),.sl 5 false (Bd.au f.bi),.sl 3 false (lH f.ta),.sl 9 false (Sq.au f.tc),.sl 11 false (Tx.au f.tm)],.box [int 0,int 0,str y28,aK],.aH,.aN (g+1) 4 false (iB cs++[[int 3,int 0,str y28,.sl 4 false [[int 2,int 0,str x.ky,.sl 4 false []],[int 1,int x.dv,str y28,.sl 4 false []],[int 1,int x.sq,str y28,.sl 4 false []],[int 1,int x.tm,str y28,.sl 4 false []],[int 2,int 0,str x.vl,.sl 4 false []]]]])]) ex s')):Rq 0 80 0 (rbS f g cs k) ex s':=by
 obtain⟨o2,h⟩:=h;exact aJ [kv 23 (show Am.aF (int (↑(length (Bd.au f.bi)):Int)) (int ↑(length f.bi))from(aF.of_eq (by simp only[Go.Bd.ay]))),ki ((k:Int)<(↑(length f.bi):Int)),ke (Bd.aQ x) (Bd.au f.bi) k (bG hx),kc [] (@Go.bV.aiS x.ky),kc [] (@Go.bV.vo x.dv),kc [] (@Go.bV.vo x.sq),kc [] (@Go.bV.vo x.tm),kc [] (@Go.bV.aiS x.vl),kc [] (@Go.bV.zB (true) ([[int 2,int 0,str x.ky,AV.sl 4 false []],[int 1,int x.dv,str y28,AV.sl 4 false []],[int 1,int x.sq,str y28,AV.sl 4 false []],[int 1,int x.tm,str y28,AV.sl 4 false []],[int 2,int 0,str x.vl,AV.sl 4 false []]])),kq g,kp (Go.yU.fA cs).symm,vV ((length cs+1)*56),kW 26 (k+1) ↑(k+1),kp o2] (aB 148 [1,2,3,4]) 4 h
theorem aE7(f:FD)(h1:f.pk=2)(hL:Rq 0 80 0 (aDE f) (.exit 1) { aL:=aC 148 [(2,.ptr 1 0),(3,.sl 4 true [])],H:=[.box (jB f),.box azK] })(h:True):Cq 80 [.agg (jB f)] (rR 3 0 y28 []):=by
 have _:=h;exact aj [kf (show(f.pk==1)=false from(qF zO)),kt (show(f.pk==2)=true from(qT zO)),kl (rG [(0,1),(5,143)]) 2 hL,kc [] (@Go.bV.zB (true) ([]))]
theorem aE8(f:FD)(g:Nat)(cs:List CV)(h1:f.pk=2)(hL:Rq 0 80 0 (aDE f) (.exit 1) { aL:=aC 148 [(2,.ptr 1 0),(3,.aU 3 g 0 cs.length)],H:=[.box (jB f),.box azK,.aH,.aN g 4 false (iB cs)] })(h:True):Cq 80 [.agg (jB f)] (rR 3 0 y28 cs):=by
 have _:=h;exact aj [kf (show(f.pk==1)=false from(qF zO)),kt (show(f.pk==2)=true from(qT zO)),kl (rG [(0,1),(5,143)]) 2 hL,ko (bC.Gu (iB cs)),kq g,kp (show List.take cs.length (List.drop 0 (iB cs))=iB cs from(Go.yU.aa7 _)),kp (Go.yU.fA cs),kp (Go.yU.WV cs),kc [] (@Go.bV.zB (false) (iB cs))]
def aDF(f:FD):St:={ aL:=aC 148 [(1,.ptr 0 0),(2,.ptr 1 0),(3,.sl 4 true []),(6,int 0)],H:=[.box (jB f),.box azK] }
def rtS(f:FD)(g:Nat)(cs:List CV)(k:Nat):St:={ aL:=aC 148 [(1,.ptr 0 0),(2,.ptr 1 0),(3,.aU 2 g 0 cs.length),(6,int k)],H:=[.box (jB f),.box azK,.aN g 4 false (iB cs)] }
theorem aGE(f:FD)(h0:¬(0:Int)<(f.ta.length:Int))(h:True):Rq 0 80 1 (aDF f) (bF.exit 3) (sM 148 [(2,.ptr 1 0),(3,.sl 4 true [])] [.box (jB f),.box azK]):=by
 have _:=h;exact aG [kN 59 (dP f.ta),kj ((0:Int)<(↑(length f.ta):Int))] (aB 148 [2,3]) 2
theorem aE9(f:FD)(g:Nat)(cs:List CV)(k:Nat)(h0:¬(k:Int)<(f.ta.length:Int))(h:True):Rq 0 80 1 (rtS f g cs k) (bF.exit 3) (sM 148 [(2,.ptr 1 0),(3,.aU 2 g 0 cs.length)] [.box (jB f),.box azK,.aN g 4 false (iB cs)]):=by
 have _:=h;exact aG [kN 59 (dP f.ta),kj ((k:Int)<(↑(length f.ta):Int))] (aB 148 [2,3]) 3
theorem aGF(f:FD)(x:TL)(h0:(0:Int)<(f.ta.length:Int))(hx:f.ta[0]?=some x)(hl:f.ta.length<=1000000)(ex:bF)(s':St)(h:Rq 0 80 1 (sM 148 [(1,.ptr 0 0),(2,.ptr 1 0),(3,.aU 2 0 0 1),(6,int 1)] [.box [int f.pk,str f.pn,.sl 9 false (Sq.au f.ce),.sl 5 false (Bd.au f.bi),.sl 3 false (lH f.ta),.sl 9 false (Sq.au f.tc),.sl 11 false (Tx.au f.tm)],.box [int 0,int 0,str y28,aK],.aN 0 4 false [[int 3,int 0,str y28,.sl 4 false [[int 1,int x.1,str y28,.sl 4 false []],[int 1,int (Prod.fst x.2),str y28,.sl 4 false []],[int 1,int (Prod.snd x.2),str y28,.sl 4 false []]]]]]) ex s'):Rq 0 80 1 (aDF f) ex s':=by
 have jw:(0:Int)<=(0:Int)/\(lH f.ta)[Int.toNat 0]?=some (ze x):=(bG hx);exact aJ [kN 59 (dP f.ta),ki ((0:Int)<(↑(length f.ta):Int)),ko (bC.elem (ze x)),ko (bC.elem (ze x)),ko (bC.elem (ze x)),kp jw,kp jw,kp jw,kc [] (@Go.bV.aAF x.1 (Prod.fst x.2) (Prod.snd x.2)),Qx [int 3,int 0,str y28,AV.sl 4 false [[int 1,int x.1,str y28,AV.sl 4 false []],[int 1,int (Prod.fst x.2),str y28,AV.sl 4 false []],[int 1,int (Prod.snd x.2),str y28,AV.sl 4 false []]]],vV 56] (aB 148 [1,2,3,6]) 3 h
theorem aFa(f:FD)(x:TL)(g:Nat)(cs:List CV)(k:Nat)(h0:(k:Int)<(f.ta.length:Int))(hx:f.ta[k]?=some x)(hl:f.ta.length<=1000000)(jQ:cs.length<=1000000)(ex:bF)(s':St)(h:Rq 0 80 1 (sM 148 [(1,.ptr 0 0),(2,.ptr 1 0),(3,.aU 2 (g+1) 0 (length cs+1)),(6,int ↑(k+1))] [.box [int f.pk,str f.pn,.sl 9 false (Sq.au f.ce),.sl 5 false (Bd.au f.bi),.sl 3 false (lH f.ta),.sl 9 false (Sq.au f.tc),.sl 11 false (Tx.au f.tm)],.box [int 0,int 0,str y28,aK],.aN (g+1) 4 false (iB cs++[[int 3,int 0,str y28,.sl 4 false [[int 1,int x.1,str y28,.sl 4 false []],[int 1,int (Prod.fst x.2),str y28,.sl 4 false []],[int 1,int (Prod.snd x.2),str y28,.sl 4 false []]]]])]) ex s'):Rq 0 80 1 (rtS f g cs k) ex s':=by
 have jw:(0:Int)<=(k:Int)/\(lH f.ta)[Int.toNat (k:Int)]?=some (ze x):=(bG hx);exact aJ [kN 59 (dP f.ta),ki ((k:Int)<(↑(length f.ta):Int)),ko (bC.elem (ze x)),ko (bC.elem (ze x)),ko (bC.elem (ze x)),kp jw,kp jw,kp jw,kc [] (@Go.bV.aAF x.1 (Prod.fst x.2) (Prod.snd x.2)),kq g,kp (Go.yU.fA cs).symm,vV ((length cs+1)*56),kW 62 (k+1) ↑(k+1)] (aB 148 [1,2,3,6]) 3 h
theorem aFb(f:FD)(h1:f.pk=3)(hL:Rq 0 80 1 (aDF f) (.exit 3) { aL:=aC 148 [(2,.ptr 1 0),(3,.sl 4 true [])],H:=[.box (jB f),.box azK] })(h:True):Cq 80 [.agg (jB f)] (rR 3 0 y28 []):=by
 have _:=h;exact aj [kf (show(f.pk==1)=false from(qF zO)),kf (show(f.pk==2)=false from(qF zO)),kt (show(f.pk==3)=true from(qT zO)),kl (rG [(0,1),(4,2),(7,141)]) 2 hL,kc [] (@Go.bV.zB (true) ([]))]
theorem aFc(f:FD)(g:Nat)(cs:List CV)(h1:f.pk=3)(hL:Rq 0 80 1 (aDF f) (.exit 3) { aL:=aC 148 [(2,.ptr 1 0),(3,.aU 2 g 0 cs.length)],H:=[.box (jB f),.box azK,.aN g 4 false (iB cs)] })(h:True):Cq 80 [.agg (jB f)] (rR 3 0 y28 cs):=by
 have _:=h;exact aj [kf (show(f.pk==1)=false from(qF zO)),kf (show(f.pk==2)=false from(qF zO)),kt (show(f.pk==3)=true from(qT zO)),kl (rG [(0,1),(4,2),(7,141)]) 2 hL,ko (bC.Gu (iB cs)),kq g,kp (show List.take cs.length (List.drop 0 (iB cs))=iB cs from(Go.yU.aa7 _)),kp (Go.yU.fA cs),kp (Go.yU.WV cs),kc [] (@Go.bV.zB (false) (iB cs))]
def aDG(f:FD):St:={ aL:=aC 148 [(1,.ptr 0 0),(2,.ptr 1 0),(3,.sl 4 true []),(7,int 0)],H:=[.box (jB f),.box azK] }
def rmS(f:FD)(g:Nat)(cs:List CV)(k:Nat):St:={ aL:=aC 148 [(1,.ptr 0 0),(2,.ptr 1 0),(3,.aU 3 g 0 cs.length),(7,int k)],H:=[.box (jB f),.box azK,.aH,.aN g 4 false (iB cs)] }
theorem aGG(f:FD)(h0:¬(0:Int)<(f.tm.length:Int))(h:True):Rq 0 80 2 (aDG f) (bF.exit 5) (sM 148 [(1,.ptr 0 0),(2,.ptr 1 0),(3,.sl 4 true [])] [.box (jB f),.box azK]):=by
 have _:=h;exact aG [kv 92 (show Am.aF (int (↑(length (Tx.au f.tm)):Int)) (int ↑(length f.tm))from(aF.of_eq (by simp only[Go.Tx.ay]))),kj ((0:Int)<(↑(length f.tm):Int))] (aB 148 [1,2,3]) 2
theorem aJi(f:FD)(g:Nat)(cs:List CV)(k:Nat)(h0:¬(k:Int)<(f.tm.length:Int))(h:True):Rq 0 80 2 (rmS f g cs k) (bF.exit 5) (sM 148 [(1,.ptr 0 0),(2,.ptr 1 0),(3,.aU 3 g 0 cs.length)] [.box (jB f),.box azK,.aH,.aN g 4 false (iB cs)]):=by
 have _:=h;exact aG [kv 92 (show Am.aF (int (↑(length (Tx.au f.tm)):Int)) (int ↑(length f.tm))from(aF.of_eq (by simp only[Go.Tx.ay]))),kj ((k:Int)<(↑(length f.tm):Int))] (aB 148 [1,2,3]) 4
theorem aGH(f:FD)(x:MK)(n:Int)(hb:Cq 180 [Am.bool x.on] (int n))(hN:Cq 79 [.sl 1 true [[int x.dv],[int x.sq],[int x.tm],[int x.fd],[int x.fs],[int x.fa],[int x.td],[int x.ts],[int x.ta],[int x.st],[int n]]] (.agg [int 3,int 0,str .empty,.sl 4 false (iB [zT x.dv,zT x.sq,zT x.tm,zT x.fd,zT x.fs,zT x.fa,zT x.td,zT x.ts,zT x.ta,zT x.st,zT n])]))(h0:(0:Int)<(f.tm.length:Int))(hx:f.tm[0]?=some x)(hl:f.tm.length<=1000000)(ex:bF)(s':St)(h:Rq 0 80 2 (sM 148 [(1,.ptr 0 0),(2,.ptr 1 0),(3,.aU 3 0 0 1),(7,int 1)] [.box [int f.pk,str f.pn,.sl 9 false (Sq.au f.ce),.sl 5 false (Bd.au f.bi),.sl 3 false (lH f.ta),.sl 9 false (Sq.au f.tc),.sl 11 false (Tx.au f.tm)],.box [int 0,int 0,str y28,aK],.box [int x.dv,int x.sq,int x.tm,int x.fd,int x.fs,int x.fa,int x.td,int x.ts,int x.ta,int x.st,Am.bool x.on],.aN 0 4 false [[int 3,int 0,str y28,.sl 4 false [[int 1,int x.dv,str y28,.sl 4 false []],[int 1,int x.sq,str y28,.sl 4 false []],[int 1,int x.tm,str y28,.sl 4 false []],[int 1,int x.fd,str y28,.sl 4 false []],[int 1,int x.fs,str y28,.sl 4 false []],[int 1,int x.fa,str y28,.sl 4 false []],[int 1,int x.td,str y28,.sl 4 false []],[int 1,int x.ts,str y28,.sl 4 false []],[int 1,int x.ta,str y28,.sl 4 false []],[int 1,int x.st,str y28,.sl 4 false []],[int 1,int n,str y28,.sl 4 false []]]]]]) ex s'):Rq 0 80 2 (aDG f) ex s':=by
 exact aJ [kv 92 (show Am.aF (int (↑(length (Tx.au f.tm)):Int)) (int ↑(length f.tm))from(aF.of_eq (by simp only[Go.Tx.ay]))),ki ((0:Int)<(↑(length f.tm):Int)),ke (Tx.aQ x) (Tx.au f.tm) (0:Int) (bG hx),kc [] hb,kc [] hN,Qx [int 3,int 0,str y28,AV.sl 4 false [[int 1,int x.dv,str y28,AV.sl 4 false []],[int 1,int x.sq,str y28,AV.sl 4 false []],[int 1,int x.tm,str y28,AV.sl 4 false []],[int 1,int x.fd,str y28,AV.sl 4 false []],[int 1,int x.fs,str y28,AV.sl 4 false []],[int 1,int x.fa,str y28,AV.sl 4 false []],[int 1,int x.td,str y28,AV.sl 4 false []],[int 1,int x.ts,str y28,AV.sl 4 false []],[int 1,int x.ta,str y28,AV.sl 4 false []],[int 1,int x.st,str y28,AV.sl 4 false []],[int 1,int n,str y28,AV.sl 4 false []]]],vV 56] (aB 148 [1,2,3,7]) 4 h
theorem aJj(f:FD)(x:MK)(n:Int)(hb:Cq 180 [Am.bool x.on] (int n))(hN:Cq 79 [.sl 1 true [[int x.dv],[int x.sq],[int x.tm],[int x.fd],[int x.fs],[int x.fa],[int x.td],[int x.ts],[int x.ta],[int x.st],[int n]]] (.agg [int 3,int 0,str .empty,.sl 4 false (iB [zT x.dv,zT x.sq,zT x.tm,zT x.fd,zT x.fs,zT x.fa,zT x.td,zT x.ts,zT x.ta,zT x.st,zT n])]))(g:Nat)(cs:List CV)(k:Nat)(h0:(k:Int)<(f.tm.length:Int))(hx:f.tm[k]?=some x)(hl:f.tm.length<=1000000)(jQ:cs.length<=1000000)(ex:bF)(s':St)(h:((∀(x_1:List AV),x_1∈iB cs++[[int 3,int 0,str y28,AV.sl 4 false [[int 1,int x.dv,str y28,AV.sl 4 false []],[int 1,int x.sq,str y28,AV.sl 4 false []],[int 1,int x.tm,str y28,AV.sl 4 false []],[int 1,int x.fd,str y28,AV.sl 4 false []],[int 1,int x.fs,str y28,AV.sl 4 false []],[int 1,int x.fa,str y28,AV.sl 4 false []],[int 1,int x.td,str y28,AV.sl 4 false []],[int 1,int x.ts,str y28,AV.sl 4 false []],[int 1,int x.ta,str y28,AV.sl 4 false []],[int 1,int x.st,str y28,AV.sl 4 false []],[int 1,int n,str y28,AV.sl 4 false []]]]]->AV.gH 4 x_1=true)/\Rq 0 80 2 (sM 148 [(1,.ptr 0 0),(2,.ptr 1 0),(3,.aU 3 (g+1) 0 (length cs+1)),(7,int ↑(k+1))] [.box [int f.pk,str f.pn,.sl 9 false (Sq.au f.ce),.sl 5 false (Bd.au f.bi),.sl 3 false (lH f.ta),.sl 9 false (Sq.au f.tc),.sl 11 false (Tx.au f.tm)],.box [int 0,int 0,str y28,aK],.aH,.aN (g+1) 4 false (iB cs++[[int 3,int 0,str y28,.sl 4 false [[int 1,int x.dv,str y28,.sl 4 false []],[int 1,int x.sq,str y28,.sl 4 false []],[int 1,int x.tm,str y28,.sl 4 false []],[int 1,int x.fd,str y28,.sl 4 false []],[int 1,int x.fs,str y28,.sl 4 false []],[int 1,int x.fa,str y28,.sl 4 false []],[int 1,int x.td,str y28,.sl 4 false []],[int 1,int x.ts,str y28,.sl 4 false []],[int 1,int x.ta,str y28,.sl 4 false []],[int 1,int x.st,str y28,.sl 4 false []],[int 1,int n,str y28,.sl 4 false []]]]])]) ex s')):Rq 0 80 2 (rmS f g cs k) ex s':=by
 obtain⟨o2,h⟩:=h;exact aJ [kv 92 (show Am.aF (int (↑(length (Tx.au f.tm)):Int)) (int ↑(length f.tm))from(aF.of_eq (by simp only[Go.Tx.ay]))),ki ((k:Int)<(↑(length f.tm):Int)),ke (Tx.aQ x) (Tx.au f.tm) k (bG hx),kc [] hb,kc [] hN,kq g,kp (Go.yU.fA cs).symm,vV ((length cs+1)*56),kW 95 (k+1) ↑(k+1),kp o2] (aB 148 [1,2,3,7]) 4 h
theorem aFd(f:FD)(h1:f.pk=4)(v:List CV)(hc:Cq 179 [Sq.bZ f.tc] (rR 3 0 .empty v))(hL:Rq 0 80 2 (aDG f) (.exit 5) { aL:=aC 148 [(1,.ptr 0 0),(2,.ptr 1 0),(3,.sl 4 true [])],H:=[.box (jB f),.box azK] })(h:True):Cq 80 [.agg (jB f)] (val (lsV [lsV v,lsV []])):=by
 have _:=h;exact aj [kf (show(f.pk==1)=false from(qF zO)),kf (show(f.pk==2)=false from(qF zO)),kf (show(f.pk==3)=false from(qF zO)),kt (show(f.pk==4)=true from(qT zO)),kl (rG [(0,1),(4,3),(8,140)]) 2 hL,kc [] hc,kc [] (@Go.bV.zB (true) ([])),kc [] (@Go.bV.zB (true) ([[int 3,int 0,str y28,AV.sl 4 false (iB v)],[int 3,int 0,str y28,AV.sl 4 false []]]))]
theorem aFe(f:FD)(g:Nat)(cs:List CV)(h1:f.pk=4)(v:List CV)(hc:Cq 179 [Sq.bZ f.tc] (rR 3 0 .empty v))(hL:Rq 0 80 2 (aDG f) (.exit 5) { aL:=aC 148 [(1,.ptr 0 0),(2,.ptr 1 0),(3,.aU 3 g 0 cs.length)],H:=[.box (jB f),.box azK,.aH,.aN g 4 false (iB cs)] })(h:True):Cq 80 [.agg (jB f)] (val (lsV [lsV v,lsV cs])):=by
 have _:=h;exact aj [kf (show(f.pk==1)=false from(qF zO)),kf (show(f.pk==2)=false from(qF zO)),kf (show(f.pk==3)=false from(qF zO)),kt (show(f.pk==4)=true from(qT zO)),kl (rG [(0,1),(4,3),(8,140)]) 2 hL,kc [] hc,ko (bC.Gu (iB cs)),kq g,kp (show List.take cs.length (List.drop 0 (iB cs))=iB cs from(Go.yU.aa7 _)),kp (Go.yU.fA cs),kp (Go.yU.WV cs),kc [] (@Go.bV.zB (false) (iB cs)),kc [] (@Go.bV.zB (true) ([[int 3,int 0,str y28,AV.sl 4 false (iB v)],[int 3,int 0,str y28,AV.sl 4 false (iB cs)]]))]
theorem aGI(f:FD)(v:CV)(h1:f.pk=1)(hc:Cq 179 [Sq.bZ f.ce] (val v))(h:True):Cq 80 [.agg (jB f)] (val v):=by
 have _:=h;exact aj [kt (show(f.pk==1)=true from(qT zO)),kc [] hc]
end Go.Dc
namespace Go.Dc
open Go Go.Am Go.Proofs Go.eY Go.bH
open Go.yU (CV rR val Cy iB fA)
open Go.Sq (CE)
open Go.Bd (BE)
open Go.Tx (MK)
theorem awF{α β:Type}{F lp e:Nat}{l:List α}{V:α->β}{S:Nat->List β->Nat->St}{X:Nat->List β->St}(hl:l.length<=1000000)(he:∀(g:Nat)(cs:List β)(k:Nat),¬(k:Int)<(l.length:Int)->bN P G none 0 (vg P F lp) (S g cs k) (.exit e) (X g cs))(hn:∀(g:Nat)(cs:List β)(k:Nat)(x:α),(k:Int)<(l.length:Int)->l[k]?=some x->cs.length<=1000000->∀(ex:bF)(s':St),bN P G none 0 (vg P F lp) (S (g+1) (cs++[V x]) (k+1)) ex s'->bN P G none 0 (vg P F lp) (S g cs k) ex s') :
 ∀(m k g:Nat),l.length-k=m->k<=l.length->∃g',bN P G none 0 (vg P F lp) (S g ((l.take k).map V) k) (.exit e) (X g' (l.map V)):=by
 intro m
 induction m with
 |zero =>
  intro k g hm hk;rw[y23 zO];exact⟨g,he g _ k zO⟩
 |succ m ih =>
  intro k g hm hk;have bg:k<l.length:=zO
  obtain⟨g',h⟩:=ih (k+1) (g+1) zO zO;refine⟨g',hn g _ k l[k] zO (yA bg) (by simp;omega) _ _ ?_⟩;rw[take_add_one,yA bg,map_append]at h;exact h
theorem az7(cs:List CV)(v:CV)(n:Nat):∀c∈iB cs++[v.cells],AV.gH n c=true:=o9 cs v▸awu n _
theorem aGJ{x:CE}:HSub [.box azK,.box (Sq.aQ x),.aN 0 4 false [(ceV x).cells]] [.box azK,.aH,.aN 0 4 false (iB [ceV x])]:=⟨.inl rfl,.inr yO,.inl rfl,yO⟩
theorem aCF(l:List CE)(hl:l.length<=1000000):ak P G 179 [Sq.bZ l] [] (.ret (val (lsV (l.map ceV)))) []:=by
 cases l with
 |nil=>exact aGA [] (aGy [] zS yO) trivial
 |cons y ys =>
  have hA:=awF (V:=ceV) (S:=rvS (y::ys)) (X:=fun g cs=>{ aL:=aC 58 [(2,.ptr 0 0),(3,.aU 2 g 0 cs.length)],H:=[.box azK,.aH,.aN g 4 false (iB cs)] }) hl (fun g cs k hk=>aJe _ g cs k hk yO) (fun g cs k x hk hx hc ex s' h=>aJf _ x _ g cs k hk hx (aAE x.gn) hl hc ex s' ⟨az7 cs (ceV x) 3,by
   unfold rvS at h;rw[<- o9,yD]at h;exact h⟩) _ 1 0 rfl zS
  obtain⟨g',h⟩:=hA;exact aGB _ g' _ (aGz _ y _ (by simp only[yE];omega) rfl (aAE y.gn) hl _ _ (h.acz aGJ)) trivial
theorem aCG(m:MK):ak P G 79 [.sl 1 true [[int m.dv],[int m.sq],[int m.tm],[int m.fd],[int m.fs],[int m.fa],[int m.td],[int m.ts],[int m.ta],[int m.st],[int (if m.on then 1 else 0)]]] [] (.ret (val (maV m))) []:=bV.aAG [m.dv,m.sq,m.tm,m.fd,m.fs,m.fa,m.td,m.ts,m.ta,m.st,if m.on then 1 else 0] zS
variable {V:CV}{a b:List AV}
theorem aEO{c x:List AV}:HSub [.box a,.box b,.box x,.aN 0 4 false [V.cells]] [.box a,.box b,.aH,.aN 0 4 false (iB [V])]:=⟨.inl rfl,.inl rfl,.inr yO,.inl rfl,yO⟩
theorem aGK:HSub [.box a,.box b,.aN 0 4 false [V.cells]] [.box a,.box b,.aN 0 4 false (iB [V])]:=⟨.inl rfl,.inl rfl,.inl rfl,yO⟩
theorem aGL(f:FD)(h1:f.pk=2)(hl:f.bi.length<=1000000):ak P G 80 [.agg (jB f)] [] (.ret (val (lsV (f.bi.map biV)))) []:=by
 by_cases h0:f.bi.length=0
 .rw [y02 h0];exact aE7 f h1 (aGC f zO yO) trivial
 .have bg:0<f.bi.length:=zO
  have hA:=awF (l:=f.bi) (V:=biV) (S:=rbS f) (X:=fun g cs=>{ aL:=aC 148 [(2,.ptr 1 0),(3,.aU 3 g 0 cs.length)],H:=[.box (jB f),.box azK,.aH,.aN g 4 false (iB cs)] }) hl (fun g cs k hk=>aJg f g cs k hk yO) (fun g cs k x hk hx hc ex s' h=>aJh f x g cs k hk hx hl hc ex s' ⟨az7 cs (biV x) 4,by
   unfold rbS at h;rw[<- o9,yD]at h;exact h⟩) _ 1 0 rfl zO
  obtain⟨g',h⟩:=hA;rw[show(f.bi.take 1).map biV=[biV f.bi[0]] by rw[take_add_one,yA bg];rfl]at h;exact aE8 f g' _ h1 (aGD f f.bi[0] zO (yA bg) hl _ _ (h.acz (aEO (c:=[])))) trivial
theorem aGM(f:FD)(h1:f.pk=3)(hl:f.ta.length<=1000000):ak P G 80 [.agg (jB f)] [] (.ret (val (lsV (f.ta.map taV)))) []:=by
 by_cases h0:f.ta.length=0
 .rw [y02 h0];exact aFb f h1 (aGE f zO yO) trivial
 .have bg:0<f.ta.length:=zO
  have hA:=awF (l:=f.ta) (V:=taV) (S:=rtS f) (X:=fun g cs=>{ aL:=aC 148 [(2,.ptr 1 0),(3,.aU 2 g 0 cs.length)],H:=[.box (jB f),.box azK,.aN g 4 false (iB cs)] }) hl (fun g cs k hk=>aE9 f g cs k hk yO) (fun g cs k x hk hx hc ex s' h=>aFa f x g cs k hk hx hl hc ex s' (by
   unfold rtS at h;rw[<- o9,yD]at h;exact h)) _ 1 0 rfl zO
  obtain⟨g',h⟩:=hA;rw[show(f.ta.take 1).map taV=[taV f.ta[0]] by rw[take_add_one,yA bg];rfl]at h;exact aFc f g' _ h1 (aGF f f.ta[0] zO (yA bg) hl _ _ (h.acz aGK)) trivial
theorem aGN(f:FD)(h1:f.pk=4)(hl:f.tm.length<=1000000)(hc:f.tc.length<=1000000):ak P G 80 [.agg (jB f)] [] (.ret (val (lsV [lsV (f.tc.map ceV),lsV (f.tm.map maV)]))) []:=by
 by_cases h0:f.tm.length=0
 .rw [y02 h0];exact aFd f h1 _ (aCF f.tc hc) (aGG f zO yO) trivial
 .have bg:0<f.tm.length:=zO
  have hA:=awF (l:=f.tm) (V:=maV) (S:=rmS f) (X:=fun g cs=>{ aL:=aC 148 [(1,.ptr 0 0),(2,.ptr 1 0),(3,.aU 3 g 0 cs.length)],H:=[.box (jB f),.box azK,.aH,.aN g 4 false (iB cs)] }) hl (fun g cs k hk=>aJi f g cs k hk yO) (fun g cs k x hk hx hc ex s' h=>aJj f x _ (aAE x.on) (aCG x) g cs k hk hx hl hc ex s' ⟨az7 cs (maV x) 4,by
   unfold rmS at h;rw[<- o9,yD]at h;exact h⟩) _ 1 0 rfl zO
  obtain⟨g',h⟩:=hA;rw[show(f.tm.take 1).map maV=[maV f.tm[0]] by rw[take_add_one,yA bg];rfl]at h;exact aFe f g' _ h1 _ (aCF f.tc hc) (aGH f f.tm[0] _ (aAE _) (aCG _) zO (yA bg) hl _ _ (h.acz (aEO (c:=[])))) trivial
theorem aFf(f:FD)(h:XW f)(hk:f.pk=1\/f.pk=2\/f.pk=3\/f.pk=4)(hs:f.ce.length<=500000/\f.bi.length<=500000/\f.ta.length<=500000/\f.tc.length<=500000/\f.tm.length<=500000):ak P G 80 [.agg (jB f)] [] (.ret (val (coV f))) []:=by
 unfold coV;rcases hk with e|e|e|e
 .rw [yL e];exact aGI f _ e (aCF f.ce zO) trivial
 .rw [yK zO,yL e];exact aGL f e zO
 .rw [yK zO,yK zO,yL e];exact aGM f e zO
 .rw [yK zO,yK zO,yK zO];exact aGN f e zO zO
end Go.Dc
namespace Go.Dc
open Go Go.Am Go.Proofs Go.eY Go.bH
open Go.yU (CV rR val Cy iB fA)
open Go.bV (vo aiS zB aAH)
def aDH(d:DO):St:={ aL:=aC 74 [(1,.ptr 0 0),(4,.sl 4 true []),(5,int 0)],H:=[.box [bB d.sn,.sl 7 false (dA d.fs)]] }
def rnS(d:DO)(g:Nat)(cs:List CV)(k:Nat):St:={ aL:=aC 74 [(1,.ptr 0 0),(4,.aU 1 g 0 cs.length),(5,int k)],H:=[.box [bB d.sn,.sl 7 false (dA d.fs)],.aN g 4 false (iB cs)] }
theorem aGO(d:DO)(h0:¬(0:Int)<(d.sn.length:Int))(h:True):Rq 0 22 0 (aDH d) (bF.exit 0) (sM 74 [(1,.ptr 0 0),(4,.sl 4 true [])] [.box [bB d.sn,.sl 7 false (dA d.fs)]]):=by
 have _:=h;exact aG [kN 16 (Go.bH.ay d.sn),kj ((0:Int)<(↑(length d.sn):Int))] (aB 74 [1,4]) 1
theorem aJk(d:DO)(g:Nat)(cs:List CV)(k:Nat)(h0:¬(k:Int)<(d.sn.length:Int))(h:True):Rq 0 22 0 (rnS d g cs k) (bF.exit 0) (sM 74 [(1,.ptr 0 0),(4,.aU 1 g 0 cs.length)] [.box [bB d.sn,.sl 7 false (dA d.fs)],.aN g 4 false (iB cs)]):=by
 have _:=h;exact aG [kN 16 (Go.bH.ay d.sn),kj ((k:Int)<(↑(length d.sn):Int))] (aB 74 [1,4]) 2
theorem aGP(d:DO)(x:D)(h0:(0:Int)<(d.sn.length:Int))(hx:d.sn[0]?=some x)(hl:d.sn.length<=1000000)(ex:bF)(s':St)(h:Rq 0 22 0 (sM 74 [(1,.ptr 0 0),(4,.aU 1 0 0 1),(5,int 1)] [.box [bB d.sn,.sl 7 false (dA d.fs)],.aN 0 4 false [[int 3,int 0,str y28,.sl 4 false [[int 1,int x.1,str y28,.sl 4 false []],[int 1,int x.2,str y28,.sl 4 false []]]]]]) ex s'):Rq 0 22 0 (aDH d) ex s':=by
 have jw:(0:Int)<=(0:Int)/\(au d.sn)[Int.toNat 0]?=some (aQ x):=(bG hx);exact aJ [kN 16 (Go.bH.ay d.sn),ki ((0:Int)<(↑(length d.sn):Int)),ko (bC.elem (aQ x)),ko (bC.elem (aQ x)),kp jw,kp jw,kc [] (@Go.bV.aAH x.1 x.2),Qx [int 3,int 0,str y28,AV.sl 4 false [[int 1,int x.1,str y28,AV.sl 4 false []],[int 1,int x.2,str y28,AV.sl 4 false []]]],vV 56] (aB 74 [1,4,5]) 2 h
theorem aJl(d:DO)(x:D)(g:Nat)(cs:List CV)(k:Nat)(h0:(k:Int)<(d.sn.length:Int))(hx:d.sn[k]?=some x)(hl:d.sn.length<=1000000)(jQ:cs.length<=1000000)(ex:bF)(s':St)(h:Rq 0 22 0 (sM 74 [(1,.ptr 0 0),(4,.aU 1 (g+1) 0 (length cs+1)),(5,int ↑(k+1))] [.box [bB d.sn,.sl 7 false (dA d.fs)],.aN (g+1) 4 false (iB cs++[[int 3,int 0,str y28,.sl 4 false [[int 1,int x.1,str y28,.sl 4 false []],[int 1,int x.2,str y28,.sl 4 false []]]]])]) ex s'):Rq 0 22 0 (rnS d g cs k) ex s':=by
 have jw:(0:Int)<=(k:Int)/\(au d.sn)[Int.toNat (k:Int)]?=some (aQ x):=(bG hx);exact aJ [kN 16 (Go.bH.ay d.sn),ki ((k:Int)<(↑(length d.sn):Int)),ko (bC.elem (aQ x)),ko (bC.elem (aQ x)),kp jw,kp jw,kc [] (@Go.bV.aAH x.1 x.2),kq g,kp (Go.yU.fA cs).symm,vV ((length cs+1)*56),kW 19 (k+1) ↑(k+1)] (aB 74 [1,4,5]) 2 h
end Go.Dc
namespace Go.Am
open Go
variable {b j:Nat}
variable {y:AV}{ex:bF}{s s':St}{c:Code}{n0:Nat}{r:Option Nat}
section
variable {P:Program} {G:Nat->Option (List AV)}
theorem bN.aBB{t:Nat}{x:AV}{z:List (List AV)}{H1:List ah}{ps:List Prop}(h:bN P G r n0 c s ex s')(hx:s'.aL.getD t .aP=x)(ha:mR s'.H x z=some (y,H1,ps))(dG:gZ ps):bN P G r n0 c s ex { aL:=s'.aL.set t y,H:=H1,dh:=s'.dh } :=
 fun V0 V a h0 k1 k2 k3=>eO.mono (h V0 V a h0 k1 k2 k3) fun _ _ _ hE=>by
  obtain⟨V1,rfl,l1,l2,l3,l4⟩:=hE;have hr:=hx▸l3.aL.get t;obtain⟨V2,a1,a2,a3,a4,a5⟩:=sG (l3.H▸ha) dG l2 hr;exact⟨V2,a1,l1.trans a3,a4,⟨eF.setAt l3.aL a3 a5,a2,l3.dh.step a3⟩,l4.step a3⟩
theorem Px{V:View}{cells:List AV}{x:AV}(hG:aD G V)(hb:V.H[b]?=some (.box cells))(hj:cells[j]?=some x)(hxy:aF x y):∃V':View,V'.w=V.w/\V'.H=V.H.set b (.box (cells.set j y))/\Step V V'/\aD G V':=by
 obtain⟨t,vs,h1,h2⟩:=hG.eP b _ hb;have JN:=(yC.1 hj).1;have hx:dI V x (vs.getD j undef):=by
  have:=h2.2 j JN;rwa[show cells.getD j .aP=x by rw[yB,hj];rfl]at this
 have hr:bR V (cells.set j y) vs:=by
  have:=h2.set j (hxy V _ hx);have e:vs.set j (vs.getD j undef)=vs:=by
   apply ext_getElem?;intro i;rw[getElem?_set];split
   .rename_i e;subst e;have:j<vs.length:=by rw[h2.1];exact JN
    rw[yL this,yB,yA this];rfl
   .rfl
  rwa[e]at this
 obtain⟨V2,l1,l2,l3,l4⟩:=wE (eP:=.box cells) (ou:=.box (cells.set j y)) (w':=V.w) hG hb rfl h1 h1 rfl (fun _ _=>rfl) rfl rfl rfl rfl trivial (fun V' hw hs=>⟨t,vs,by rw[hw];exact h1,hr.step hs⟩);exact⟨V2,l1,l2,l3,l4⟩
theorem bN.aFg{cells:List AV}{x:AV}(h:bN P G r n0 c s ex s')(hb:s'.H[b]?=some (.box cells))(hj:cells[j]?=some x)(hxy:aF x y):bN P G r n0 c s ex { aL:=s'.aL,H:=s'.H.set b (.box (cells.set j y)),dh:=s'.dh } :=
 fun V0 V a h0 k1 k2 k3=>eO.mono (h V0 V a h0 k1 k2 k3) fun _ _ _ hE=>by
  obtain⟨V1,rfl,l1,l2,l3,l4⟩:=hE;obtain⟨V2,a1,a2,a3,a4⟩:=Px l2 (l3.H▸hb) hj hxy;exact⟨V2,a1,l1.trans a3,a4,⟨l3.aL.step a3,by rw[a2,l3.H],l3.dh.step a3⟩,l4.step a3⟩
end
end Go.Am
namespace Go.Dc
open Go Go.Am Go.Proofs Go.eY Go.bH
open Go.yU (CV rR val Cy iB fA)
open Go.bV (vo aiS zB)
abbrev rnB(d:DO):ah:=.box [bB d.sn,.sl 7 false (dA d.fs)]
def aDI(d:DO)(L:List (List AV)):St:={ aL:=aC 74 [(1,.ptr 0 0),(4,.sl 4 false L),(6,.sl 4 true []),(7,int 0)],H:=[rnB d] }
def rnT(d:DO)(L:List (List AV))(g:Nat)(cs:List CV)(k:Nat):St:={ aL:=aC 74 [(1,.ptr 0 0),(4,.sl 4 false L),(6,.aU 2 g 0 cs.length),(7,int k)],H:=[rnB d,.aH,.aN g 4 false (iB cs)] }
theorem aFh(d:DO)(L:List (List AV))(h0:¬(0:Int)<(d.fs.length:Int))(h:True):Rq 0 22 1 (aDI d L) (bF.exit 2) (sM 74 [(4,.sl 4 false L),(6,.sl 4 true [])] [rnB d]):=by
 have _:=h;exact aG [kN 41 (fE d.fs),kj ((0:Int)<(↑(length d.fs):Int))] (aB 74 [4,6]) 1
theorem aGQ(d:DO)(L:List (List AV))(g:Nat)(cs:List CV)(k:Nat)(h0:¬(k:Int)<(d.fs.length:Int))(h:True):Rq 0 22 1 (rnT d L g cs k) (bF.exit 2) (sM 74 [(4,.sl 4 false L),(6,.aU 2 g 0 cs.length)] [rnB d,.aH,.aN g 4 false (iB cs)]):=by
 have _:=h;exact aG [kN 41 (fE d.fs),kj ((k:Int)<(↑(length d.fs):Int))] (aB 74 [4,6]) 3
theorem aFi(d:DO)(L:List (List AV))(x:FD)(V:CV)(h0:(0:Int)<(d.fs.length:Int))(hx:d.fs[0]?=some x)(hC:Cq 80 [.agg (jB x)] (val V))(hl:d.fs.length<=1000000)(ex:bF)(s':St)(h:Rq 0 22 1 (sM 74 [(1,.ptr 0 0),(4,.sl 4 false L),(6,.aU 2 0 0 1),(7,int 1)] [.box [bB d.sn,.sl 7 false (dA d.fs)],.box [int x.pk,str x.pn,.sl 9 false (Sq.au x.ce),.sl 5 false (Bd.au x.bi),.sl 3 false (lH x.ta),.sl 9 false (Sq.au x.tc),.sl 11 false (Tx.au x.tm)],.aN 0 4 false [[int 3,int 0,str y28,.sl 4 false [[int 1,int x.pk,str y28,.sl 4 false []],[int 2,int 0,str x.pn,.sl 4 false []],[int V.k,int V.n,str V.s,.sl 4 false (iB V.l)]]]]]) ex s'):Rq 0 22 1 (aDI d L) ex s':=by
 exact aJ [kN 41 (fE d.fs),ki ((0:Int)<(↑(length d.fs):Int)),ke (jB x) (dA d.fs) (0:Int) (bG hx),kc [] (@Go.bV.vo x.pk),kc [] (@Go.bV.aiS x.pn),kc [] hC,kc [] (@Go.bV.zB (true) ([[int 1,int x.pk,str y28,AV.sl 4 false []],[int 2,int 0,str x.pn,AV.sl 4 false []],[int V.k,int V.n,str V.s,AV.sl 4 false (iB V.l)]])),Qx [int 3,int 0,str y28,AV.sl 4 false [[int 1,int x.pk,str y28,AV.sl 4 false []],[int 2,int 0,str x.pn,AV.sl 4 false []],[int V.k,int V.n,str V.s,AV.sl 4 false (iB V.l)]]],vV 56] (aB 74 [1,4,6,7]) 3 h
theorem aGR(d:DO)(L:List (List AV))(x:FD)(V:CV)(g:Nat)(cs:List CV)(k:Nat)(h0:(k:Int)<(d.fs.length:Int))(hx:d.fs[k]?=some x)(hC:Cq 80 [.agg (jB x)] (val V))(hl:d.fs.length<=1000000)(jQ:cs.length<=1000000)(ex:bF)(s':St)(h:((∀(x_1:List AV),x_1∈iB cs++[[int 3,int 0,str y28,AV.sl 4 false [[int 1,int x.pk,str y28,AV.sl 4 false []],[int 2,int 0,str x.pn,AV.sl 4 false []],[int V.k,int V.n,str V.s,AV.sl 4 false (iB V.l)]]]]->AV.gH 3 x_1=true)/\Rq 0 22 1 (sM 74 [(1,.ptr 0 0),(4,.sl 4 false L),(6,.aU 2 (g+1) 0 (length cs+1)),(7,int ↑(k+1))] [.box [bB d.sn,.sl 7 false (dA d.fs)],.aH,.aN (g+1) 4 false (iB cs++[[int 3,int 0,str y28,.sl 4 false [[int 1,int x.pk,str y28,.sl 4 false []],[int 2,int 0,str x.pn,.sl 4 false []],[int V.k,int V.n,str V.s,.sl 4 false (iB V.l)]]]])]) ex s')):Rq 0 22 1 (rnT d L g cs k) ex s':=by
 obtain⟨o2,h⟩:=h;exact aJ [kN 41 (fE d.fs),ki ((k:Int)<(↑(length d.fs):Int)),ke (jB x) (dA d.fs) k (bG hx),kc [] (@Go.bV.vo x.pk),kc [] (@Go.bV.aiS x.pn),kc [] hC,kc [] (@Go.bV.zB (true) ([[int 1,int x.pk,str y28,AV.sl 4 false []],[int 2,int 0,str x.pn,AV.sl 4 false []],[int V.k,int V.n,str V.s,AV.sl 4 false (iB V.l)]])),kq g,kp (Go.yU.fA cs).symm,vV ((length cs+1)*56),kW 44 (k+1) ↑(k+1),kp o2] (aB 74 [1,4,6,7]) 3 h
theorem aGS(d:DO)(e:Int)(he:¬e=0)(hK:Cq 18 [kI d] (int e))(h:True):Cq 22 [kI d] (.bq [aK,int 180]):=by
 have _:=h;exact aj [kc [] hK,kt (show(e != 0)=true from(y27 (qF zO)))]
theorem aGT(d:DO)(L M:List CV)(b:List UInt8)(e:Int)(hK:Cq 18 [kI d] (int 0))(hA:Rq 0 22 0 (aDH d) (.exit 0) { aL:=aC 74 [(1,.ptr 0 0),(4,.sl 4 false (iB L))],H:=[rnB d] })(hB:Rq 0 22 1 (aDI d (iB L)) (.exit 2) { aL:=aC 74 [(4,.sl 4 false (iB L)),(6,.sl 4 false (iB M))],H:=[rnB d] })(hE:Cq 81 [val (lsV [lsV L,lsV M])] (.bq [Cy b,int e]))(h:True):Cq 22 [kI d] (.bq [Cy b,int e]):=by
 have _:=h;exact aj [kc [] hK,kY,kl (rG [(0,1),(2,2),(6,68)]) 1 hA,kl [37] 1 hB,kc [] (@Go.bV.zB (false) (iB L)),kc [] (@Go.bV.zB (false) (iB M)),kc [] (@Go.bV.zB (true) ([[int 3,int 0,str y28,AV.sl 4 false (iB L)],[int 3,int 0,str y28,AV.sl 4 false (iB M)]])),kc [] hE]
end Go.Dc
namespace Go.Dc
open Go Go.Am Go.Proofs Go.eY Go.bH
open Go.yU (CV rR val Cy iB fA)
theorem aJm(a b:Int)(t:yP)(x:CV)(ys:List CV)(hl:ys.length<=1000000000)(h0:(ys.length:Int)>0)(hx:ys[0]?=some x)(h:[ah.box [int a,int b,str t,AV.sl 4 false (List.drop 1 (List.take (Int.toNat (ys.length:Int)) (iB ys)))]]=[ah.box [int a,int b,str t,AV.sl 4 false (iB (List.drop 1 ys))]]):ak P G 84 [.ptr 0 0] [ah.box [int a,int b,str t,AV.sl 4 false (iB ys)]] (aS.ret (AV.agg [int x.k,int x.n,str x.s,AV.sl 4 false (iB x.l)])) [ah.box [int a,int b,str t,AV.sl 4 false (iB (List.drop 1 ys))]]:=by
 have eH:=h;exact ak.heap ((show ak P G 84 [.ptr 0 0] [ah.box [int a,int b,str t,AV.sl 4 false (iB ys)]] (aS.ret (AV.agg [int x.k,int x.n,str x.s,AV.sl 4 false (iB x.l)])) [ah.box [int a,int b,str t,AV.sl 4 false (List.drop 1 (List.take (Int.toNat (ys.length:Int)) (iB ys)))]]from aj [kN 8 (Go.yU.fA ys),ki ((ys.length:Int)>0),ko (bC.elem (yU.aQ x)),kp (show(0:Int)<=(0:Int)/\(iB ys)[Int.toNat 0]?=some (yU.aQ x)from(by rw[Go.yU.lC];exact bG hx)),kv 23 (show Am.aF (AV.sl 4 false (List.drop 1 (List.take (Int.toNat (↑(length (iB ys)):Int)) (iB ys)))) (AV.sl 4 false (List.drop 1 (List.take (Int.toNat (ys.length:Int)) (iB ys))))from(aF.of_eq (by simp only[Go.yU.fA]))),Ga (1:Int) (↑(length (iB ys)):Int) (↑(length (iB ys)):Int) (by rw[Go.yU.fA];omega)])) eH
theorem aJn(a b:Int)(t:yP)(h:True):ak P G 84 [.ptr 0 0] [ah.box [int a,int b,str t,AV.sl 4 false (iB [])]] (aS.ret (AV.agg azK)) [ah.box [int a,int b,str t,AV.sl 4 false (iB [])]]:=by
 have _:=h;exact aj [kY]
abbrev rb(v:CV)(k:Nat):ah:=.box [int v.k,int v.n,str v.s,.sl 4 false (iB (v.l.drop k))]
theorem aGU(v x:CV)(k:Nat)(hN:ak P G 84 [.ptr 0 0] [rb v k] (.ret (.agg [int x.k,int x.n,str x.s,.sl 4 false (iB x.l)])) [rb v (k+1)])(h:True):ak P G 186 [.ptr 0 0] [rb v k] (aS.ret (int x.n)) [rb v (k+1)]:=by
 have _:=h;exact aj [kc [0] hN]
theorem aGV(v x:CV)(k:Nat)(hN:ak P G 84 [.ptr 0 0] [rb v k] (.ret (.agg [int x.k,int x.n,str x.s,.sl 4 false (iB x.l)])) [rb v (k+1)])(h:True):ak P G 187 [.ptr 0 0] [rb v k] (aS.ret (str x.s)) [rb v (k+1)]:=by
 have _:=h;exact aj [kc [0] hN]
theorem aGW(v:CV)(k:Nat)(x y:Int)(h1:ak P G 186 [.ptr 0 0] [rb v k] (.ret (int x)) [rb v (k+1)])(h2:ak P G 186 [.ptr 0 0] [rb v (k+1)] (.ret (int y)) [rb v (k+1+1)])(h:True):ak P G 85 [.ptr 0 0] [rb v k] (aS.ret (AV.agg [int x,int y])) [rb v (k+1+1)]:=by
 have _:=h;exact aj [kc [0] h1,kc [0] h2]
theorem aqk(v:CV)(k:Nat)(x y z:Int)(h1:ak P G 85 [.ptr 0 0] [rb v k] (.ret (.agg [int x,int y])) [rb v (k+1+1)])(h2:ak P G 186 [.ptr 0 0] [rb v (k+1+1)] (.ret (int z)) [rb v (k+1+1+1)])(h:True):ak P G 262 [.ptr 0 0] [rb v k] (aS.ret (AV.agg [int x,int y,int z])) [rb v (k+1+1+1)]:=by
 have _:=h;exact aj [kc [0] h1,kc [0] h2]
theorem aGX(v:CV)(a b c d e f g h':Int)(s:yP)(h1:ak P G 262 [.ptr 0 0] [rb v 0] (.ret (.agg [int a,int b,int c])) [rb v 3])(h2:ak P G 262 [.ptr 0 0] [rb v 3] (.ret (.agg [int d,int e,int f])) [rb v 6])(h3:ak P G 186 [.ptr 0 0] [rb v 6] (.ret (int g)) [rb v 7])(h4:ak P G 187 [.ptr 0 0] [rb v 7] (.ret (str s)) [rb v 8])(h5:ak P G 186 [.ptr 0 0] [rb v 8] (.ret (int h')) [rb v 9])(h:True):ak P G 189 [.ptr 0 0] [rb v 0] (aS.ret (AV.agg [int a,int b,int c,int d,int e,int f,int g,str s,Am.bool (h'==1)])) [rb v 9]:=by
 have _:=h;exact aj [kc [0] h1,kc [0] h2,kc [0] h3,kc [0] h4,kc [0] h5]
theorem aGY(v:CV)(a b c:Int)(s t:yP)(h1:ak P G 187 [.ptr 0 0] [rb v 0] (.ret (str s)) [rb v 1])(h2:ak P G 85 [.ptr 0 0] [rb v 1] (.ret (.agg [int a,int b])) [rb v 3])(h3:ak P G 186 [.ptr 0 0] [rb v 3] (.ret (int c)) [rb v 4])(h4:ak P G 187 [.ptr 0 0] [rb v 4] (.ret (str t)) [rb v 5])(h:True):ak P G 191 [.ptr 0 0] [rb v 0] (aS.ret (AV.agg [str s,int a,int b,int c,str t])) [rb v 5]:=by
 have _:=h;exact aj [kc [0] h1,kc [0] h2,kc [0] h3,kc [0] h4]
theorem aGZ(v:CV)(a b c:Int)(h2:ak P G 85 [.ptr 0 0] [rb v 0] (.ret (.agg [int a,int b])) [rb v 2])(h3:ak P G 186 [.ptr 0 0] [rb v 2] (.ret (int c)) [rb v 3])(h:True):ak P G 193 [.ptr 0 0] [rb v 0] (aS.ret (AV.agg [int a,int b,int c])) [rb v 3]:=by
 have _:=h;exact aj [kc [0] h2,kc [0] h3]
theorem aG0(v:CV)(a b c d e f g h' i j k:Int)(h1:ak P G 85 [.ptr 0 0] [rb v 0] (.ret (.agg [int a,int b])) [rb v 2])(h2:ak P G 186 [.ptr 0 0] [rb v 2] (.ret (int c)) [rb v 3])(h3:ak P G 262 [.ptr 0 0] [rb v 3] (.ret (.agg [int d,int e,int f])) [rb v 6])(h4:ak P G 262 [.ptr 0 0] [rb v 6] (.ret (.agg [int g,int h',int i])) [rb v 9])(h5:ak P G 186 [.ptr 0 0] [rb v 9] (.ret (int j)) [rb v 10])(h6:ak P G 186 [.ptr 0 0] [rb v 10] (.ret (int k)) [rb v 11])(h:True):ak P G 195 [.ptr 0 0] [rb v 0] (aS.ret (AV.agg [int a,int b,int c,int d,int e,int f,int g,int h',int i,int j,Am.bool (k==1)])) [rb v 11]:=by
 have _:=h;exact aj [kc [0] h1,kc [0] h2,kc [0] h3,kc [0] h4,kc [0] h5,kc [0] h6]
abbrev aKp(v:CV):ah:=.box [int v.k,int v.n,str v.s,.sl 4 false (iB v.l)]
def ea0(v:CV)(F k:Nat):St:={ aL:=aC 25 [(1,gP F),(4,aK),(8,.sl 4 false (iB v.l)),(9,int v.l.length),(10,int k)],H:=[aKp v] }
abbrev eaH(v:CV)(s:Nat)(xs:List (List AV))(g:Nat):List ah:=[aKp v,.aH,.aH,.aN g s false xs]
def ea1(v:CV)(F k s:Nat)(xs:List (List AV))(g:Nat):St:={ aL:=aC 25 [(1,gP F),(4,.aU 3 g 0 xs.length),(8,.sl 4 false (iB v.l)),(9,int v.l.length),(10,int k)],H:=eaH v s xs g }
abbrev EaQ(s A:Nat):Prop:=(s=2/\A=83)\/(s=7/\A=86)\/(s=9/\A=188)\/(s=5/\A=190)\/(s=3/\A=192)\/(s=11/\A=194)
structure EaW{α:Type}(E:α->List AV)(R:CV->α)(s A F n:Nat):Prop where
 y:∀(v x:CV)(k:Nat),(k:Int)<v.l.length->v.l[k]?=some x->ak P G F [.ptr 0 0] [rb x 0] (.ret (.agg (E (R x)))) [rb x n]->∀(ex:bF)(s':St),Rq 0 A 0 (ea1 v F (k+1) s [E (R x)] 0) ex s'->v.l.length<=1000000->Rq 0 A 0 (ea0 v F k) ex s'
 n:∀(v x:CV)(k:Nat)(xs:List α)(g:Nat),(k:Int)<v.l.length->v.l[k]?=some x->ak P G F [.ptr 0 0] [rb x 0] (.ret (.agg (E (R x)))) [rb x n]->∀(ex:bF)(s':St),Rq 0 A 0 (ea1 v F (k+1) s ((xs++[R x]).map E) (g+1)) ex s'->v.l.length<=1000000->xs.length<=1000000->Rq 0 A 0 (ea1 v F k s (xs.map E) g) ex s'
 p:∀(l:List α),∀c∈l.map E,AV.aM [] c=true/\c.all AV.fJ=true
theorem aAv{v x:CV}{n s:Nat}{xs:List (List AV)}:HSub [aKp v,aKp x,rb x n,.aN 0 s false xs] (eaH v s xs 0):=⟨.inl rfl,.inr yO,.inr yO,.inl rfl,yO⟩
variable {α:Type}
theorem axe(E:α->List AV)(v:CV)(F k s:Nat)(xs:List α)(y:α)(g:Nat):ea1 v F k s ((xs++[y]).map E) (g+1)={ aL:=aC 25 [(1,gP F),(4,.aU 3 (g+1) 0 ((xs.map E).length+1)),(8,.sl 4 false (iB v.l)),(9,int v.l.length),(10,int k)],H:=eaH v s (xs.map E++[E y]) (g+1) }:=by
 unfold ea1;rw[map_append,yD];rfl
theorem atC{E:α->List AV}(h:∀x,AV.aM [] (E x)=true/\(E x).all AV.fJ=true)(l:List α):∀c∈l.map E,AV.aM [] c=true/\c.all AV.fJ=true:=fun c hc=>by
 obtain⟨x,_,rfl⟩:=yG.1 hc;exact h x
abbrev eaI(v x:CV)(k:Nat)(hk:(k:Int)<v.l.length)(hx:v.l[k]?=some x):List fP:=[ki ((k:Int)<v.l.length),ko (bC.elem (yU.aQ x)),kp (show(0:Int)<=(k:Int)/\(iB v.l)[Int.toNat (k:Int)]?=some (yU.aQ x)from(by rw[yU.lC];exact bG hx))]
theorem aJo:EaW bH.aQ dtR 2 83 85 2 where
 y v x k hk hx hF _ _ h ha:=aJ (eaI v x k hk hx++[kc [2] hF,Qx (bH.aQ (dtR x)),vV 16,kW 23 (k+1) ↑(k+1)]) (aB 25 [1,4,8,9,10]) 4 (h.acz (aAv (x:=x) (n:=2)))
 n v x k xs g hk hx hF _ _ h ha hc:=aJ (eaI v x k hk hx++[kc [5] hF,kq g,kp (show(xs.map bH.aQ).length=(xs.map bH.aQ).length from rfl),vV (((xs.map bH.aQ).length+1)*16) (by rw[y10];omega),kW 23 (k+1) ↑(k+1),kp (show ∀y∈xs.map bH.aQ++[bH.aQ (dtR x)],AV.aM [] y=true from fun y hy=>(atC (fun _=>⟨rfl,rfl⟩) (xs++[dtR x]) y (by rw[map_append];exact hy)).1)]) (aB 25 [1,4,8,9,10]) 4 (by rw[axe]at h;exact h)
 p:=atC fun _=>⟨rfl,rfl⟩
theorem aJp:EaW jB fdR 7 86 87 3 where
 y v x k hk hx hF _ _ h ha:=aJ (eaI v x k hk hx++[kc [2] hF,Qx (jB (fdR x)),vV 144,kW 23 (k+1) ↑(k+1)]) (aB 25 [1,4,8,9,10]) 4 (h.acz (aAv (x:=x) (n:=3)))
 n v x k xs g hk hx hF _ _ h ha hc:=aJ (eaI v x k hk hx++[kc [5] hF,kq g,kp (show(xs.map jB).length=(xs.map jB).length from rfl),vV (((xs.map jB).length+1)*144) (by rw[y10];omega),kW 23 (k+1) ↑(k+1),kp (show ∀y∈xs.map jB++[jB (fdR x)],AV.aM [] y=true from fun y hy=>(atC (fun _=>⟨rfl,rfl⟩) (xs++[fdR x]) y (by rw[map_append];exact hy)).1)]) (aB 25 [1,4,8,9,10]) 4 (by rw[axe]at h;exact h)
 p:=atC fun _=>⟨rfl,rfl⟩
theorem aJq:EaW Sq.aQ ceR 9 188 189 9 where
 y v x k hk hx hF _ _ h ha:=aJ (eaI v x k hk hx++[kc [2] hF,Qx (Sq.aQ (ceR x)),vV 80,kW 23 (k+1) ↑(k+1)]) (aB 25 [1,4,8,9,10]) 4 (h.acz (aAv (x:=x) (n:=9)))
 n v x k xs g hk hx hF _ _ h ha hc:=aJ (eaI v x k hk hx++[kc [5] hF,kq g,kp (show(xs.map Sq.aQ).length=(xs.map Sq.aQ).length from rfl),vV (((xs.map Sq.aQ).length+1)*80) (by rw[y10];omega),kW 23 (k+1) ↑(k+1),kp (show ∀y∈xs.map Sq.aQ++[Sq.aQ (ceR x)],AV.aM [] y=true from fun y hy=>(atC (fun _=>⟨rfl,rfl⟩) (xs++[ceR x]) y (by rw[map_append];exact hy)).1)]) (aB 25 [1,4,8,9,10]) 4 (by rw[axe]at h;exact h)
 p:=atC fun _=>⟨rfl,rfl⟩
theorem aJr:EaW Bd.aQ biR 5 190 191 5 where
 y v x k hk hx hF _ _ h ha:=aJ (eaI v x k hk hx++[kc [2] hF,Qx (Bd.aQ (biR x)),vV 56,kW 23 (k+1) ↑(k+1)]) (aB 25 [1,4,8,9,10]) 4 (h.acz (aAv (x:=x) (n:=5)))
 n v x k xs g hk hx hF _ _ h ha hc:=aJ (eaI v x k hk hx++[kc [5] hF,kq g,kp (show(xs.map Bd.aQ).length=(xs.map Bd.aQ).length from rfl),vV (((xs.map Bd.aQ).length+1)*56) (by rw[y10];omega),kW 23 (k+1) ↑(k+1),kp (show ∀y∈xs.map Bd.aQ++[Bd.aQ (biR x)],AV.aM [] y=true from fun y hy=>(atC (fun _=>⟨rfl,rfl⟩) (xs++[biR x]) y (by rw[map_append];exact hy)).1)]) (aB 25 [1,4,8,9,10]) 4 (by rw[axe]at h;exact h)
 p:=atC fun _=>⟨rfl,rfl⟩
theorem aJs:EaW ze taR 3 192 193 3 where
 y v x k hk hx hF _ _ h ha:=aJ (eaI v x k hk hx++[kc [2] hF,Qx (ze (taR x)),vV 24,kW 23 (k+1) ↑(k+1)]) (aB 25 [1,4,8,9,10]) 4 (h.acz (aAv (x:=x) (n:=3)))
 n v x k xs g hk hx hF _ _ h ha hc:=aJ (eaI v x k hk hx++[kc [5] hF,kq g,kp (show(xs.map ze).length=(xs.map ze).length from rfl),vV (((xs.map ze).length+1)*24) (by rw[y10];omega),kW 23 (k+1) ↑(k+1),kp (show ∀y∈xs.map ze++[ze (taR x)],AV.aM [] y=true from fun y hy=>(atC (fun _=>⟨rfl,rfl⟩) (xs++[taR x]) y (by rw[map_append];exact hy)).1)]) (aB 25 [1,4,8,9,10]) 4 (by rw[axe]at h;exact h)
 p:=atC fun _=>⟨rfl,rfl⟩
theorem aJt:EaW Tx.aQ maR 11 194 195 11 where
 y v x k hk hx hF _ _ h ha:=aJ (eaI v x k hk hx++[kc [2] hF,Qx (Tx.aQ (maR x)),vV 88,kW 23 (k+1) ↑(k+1)]) (aB 25 [1,4,8,9,10]) 4 (h.acz (aAv (x:=x) (n:=11)))
 n v x k xs g hk hx hF _ _ h ha hc:=aJ (eaI v x k hk hx++[kc [5] hF,kq g,kp (show(xs.map Tx.aQ).length=(xs.map Tx.aQ).length from rfl),vV (((xs.map Tx.aQ).length+1)*88) (by rw[y10];omega),kW 23 (k+1) ↑(k+1),kp (show ∀y∈xs.map Tx.aQ++[Tx.aQ (maR x)],AV.aM [] y=true from fun y hy=>(atC (fun _=>⟨rfl,rfl⟩) (xs++[maR x]) y (by rw[map_append];exact hy)).1)]) (aB 25 [1,4,8,9,10]) 4 (by rw[axe]at h;exact h)
 p:=atC fun _=>⟨rfl,rfl⟩
section
variable {α:Type} {E:α->List AV} {R:CV->α} {s A F n:Nat} (q:EaQ s A) (w:EaW E R s A F n)
include q
theorem aG1(v:CV)(k:Nat)(hk:¬(k:Int)<v.l.length):Rq 0 A 0 (ea0 v F k) (.exit 0) { aL:=aC 25 [(4,aK)],H:=[aKp v] }:=by
 rcases q with⟨rfl,rfl⟩|⟨rfl,rfl⟩|⟨rfl,rfl⟩|⟨rfl,rfl⟩|⟨rfl,rfl⟩|⟨rfl,rfl⟩<;>exact aG [kj ((k:Int)<v.l.length)] (aB 25 [4]) 1
theorem aG2(v:CV)(k:Nat)(xs:List (List AV))(g:Nat)(hk:¬(k:Int)<v.l.length):Rq 0 A 0 (ea1 v F k s xs g) (.exit 0) { aL:=aC 25 [(4,.aU 3 g 0 xs.length)],H:=eaH v s xs g }:=by
 rcases q with⟨rfl,rfl⟩|⟨rfl,rfl⟩|⟨rfl,rfl⟩|⟨rfl,rfl⟩|⟨rfl,rfl⟩|⟨rfl,rfl⟩<;>exact aG [kj ((k:Int)<v.l.length)] (aB 25 [4]) 4
theorem aG3(v:CV)(hL:Rq 0 A 0 (ea0 v F 0) (.exit 0) { aL:=aC 25 [(4,aK)],H:=[aKp v] }):Cq A [val v,gP F] aK:=by
 rcases q with⟨rfl,rfl⟩|⟨rfl,rfl⟩|⟨rfl,rfl⟩|⟨rfl,rfl⟩|⟨rfl,rfl⟩|⟨rfl,rfl⟩<;>exact aj [kN 9 (fA v.l),kl (rG [(0,1),(2,2),(5,3),(11,14)]) 1 hL]
theorem aG4(v:CV)(xs:List (List AV))(g:Nat)(hL:Rq 0 A 0 (ea0 v F 0) (.exit 0) { aL:=aC 25 [(4,.aU 3 g 0 xs.length)],H:=eaH v s xs g }):ak P G A [val v,gP F] [] (.ret (.aU 3 g 0 xs.length)) (eaH v s xs g):=by
 rcases q with⟨rfl,rfl⟩|⟨rfl,rfl⟩|⟨rfl,rfl⟩|⟨rfl,rfl⟩|⟨rfl,rfl⟩|⟨rfl,rfl⟩<;>exact aj [kN 9 (fA v.l),kl (rG [(0,1),(2,2),(5,3),(11,14)]) 1 hL]
include w
theorem aJu(v:CV)(hl:v.l.length<=500000)(hF:∀x∈v.l,ak P G F [.ptr 0 0] [rb x 0] (.ret (.agg (E (R x)))) [rb x n]):∀m k xs g,v.l.length-k=m->k<=v.l.length->xs.length<=k->∃g',Rq 0 A 0 (ea1 v F k s (xs.map E) g) (.exit 0) { aL:=aC 25 [(4,.aU 3 g' 0 ((xs++(v.l.drop k).map R).map E).length)],H:=eaH v s ((xs++(v.l.drop k).map R).map E) g' }:=by
 intro m
 induction m with
 |zero =>
  intro k xs g hn hk hc;rw[y17 zO,map_nil,y19];exact⟨g,aG2 q v k _ g zO⟩
 |succ m ih =>
  intro k xs g hn hk hc;have bg:k<v.l.length:=zO
  obtain⟨g',nx⟩:=ih (k+1) (xs++[R v.l[k]]) (g+1) zO zO (by rw[yD];exact Nat.succ_le_succ hc);refine⟨g',?_⟩;rw[y01 bg,map_cons,append_cons];exact w.n v v.l[k] k xs g zO (yA bg) (hF _ (y03 bg)) _ _ nx zO zO
theorem aB2(v:CV)(hl:v.l.length<=500000)(hF:∀x∈v.l,ak P G F [.ptr 0 0] [rb x 0] (.ret (.agg (E (R x)))) [rb x n]):Cq A [val v,gP F] (.sl s false ((v.l.map R).map E)):=by
 by_cases h0:v.l=[]
 .have h:=(aG3 (F:=F) q v (aG1 q v 0 (by rw[h0];simp))).out (aF.nil s);rw[h0];exact h
 .have h1:0<v.l.length:=length_pos_iff.2 h0;obtain⟨g',h⟩:=aJu q w v hl hF _ 1 [R v.l[0]] 0 rfl zO yM;have e:[R v.l[0]]++(v.l.drop 1).map R=v.l.map R:=by
   conv=>rhs;rw[<- drop_zero (l:=v.l),y01 h1]
   rfl
  rw[e]at h;have h2:=aG4 q v _ g' (w.y v v.l[0] 0 zO (yA h1) (hF _ (y03 h1)) _ _ h zO);have hp:=w.p (v.l.map R);exact(h2.Mq (z:=(v.l.map R).map E) (y:=.sl s false ((v.l.map R).map E)) (H1:=[aKp v,.aH,.aH,.aN g' s true ((v.l.map R).map E)]) (ps:=[g'=g',List.take ((v.l.map R).map E).length (List.drop 0 ((v.l.map R).map E))=(v.l.map R).map E,((v.l.map R).map E).length=((v.l.map R).map E).length,∀c∈(v.l.map R).map E,c.all AV.fJ=true]) rfl ⟨rfl,by rw[drop_zero,y23 yM],rfl,fun c hc=>(hp c hc).2,yO⟩).BM (H3:=[]) (qs:=[]) rfl trivial
end
end Go.Dc
namespace Go.Dc
open Go Go.Am Go.Proofs Go.eY Go.bH
open Go.yU (CV rR val Cy jl iB fA)
theorem aJv(v w:CV)(pk:Int)(pn:yP)(ys:List Sq.CE)(hk:pk=1)(h1:ak P G 186 [.ptr 0 0] [rb v 0] (.ret (int pk)) [rb v 1])(h2:ak P G 187 [.ptr 0 0] [rb v 1] (.ret (str pn)) [rb v 2])(h3:ak P G 84 [.ptr 0 0] [rb v 2] (.ret (val w)) [rb v 3])(hE:Cq 188 [val w,gP 189] (Sq.bZ ys))(h:True):ak P G 87 [.ptr 0 0] [rb v 0] (aS.ret (AV.agg [int pk,str pn,Sq.bZ ys,aK,aK,aK,aK])) [rb v 3]:=by
 have _:=h;exact aj [kc [0] h1,kc [0] h2,kc [0] h3,kt (show(pk==1)=true from(qT zO)),kc [] hE]
theorem aJw(v w:CV)(pk:Int)(pn:yP)(ys:List Bd.BE)(hk:pk=2)(h1:ak P G 186 [.ptr 0 0] [rb v 0] (.ret (int pk)) [rb v 1])(h2:ak P G 187 [.ptr 0 0] [rb v 1] (.ret (str pn)) [rb v 2])(h3:ak P G 84 [.ptr 0 0] [rb v 2] (.ret (val w)) [rb v 3])(hE:Cq 190 [val w,gP 191] (Bd.iK ys))(h:True):ak P G 87 [.ptr 0 0] [rb v 0] (aS.ret (AV.agg [int pk,str pn,aK,Bd.iK ys,aK,aK,aK])) [rb v 3]:=by
 have _:=h;exact aj [kc [0] h1,kc [0] h2,kc [0] h3,kf (show(pk==1)=false from(qF zO)),kt (show(pk==2)=true from(qT zO)),kc [] hE]
theorem aJx(v w:CV)(pk:Int)(pn:yP)(ys:List TL)(hk:pk=3)(h1:ak P G 186 [.ptr 0 0] [rb v 0] (.ret (int pk)) [rb v 1])(h2:ak P G 187 [.ptr 0 0] [rb v 1] (.ret (str pn)) [rb v 2])(h3:ak P G 84 [.ptr 0 0] [rb v 2] (.ret (val w)) [rb v 3])(hE:Cq 192 [val w,gP 193] (mF ys))(h:True):ak P G 87 [.ptr 0 0] [rb v 0] (aS.ret (AV.agg [int pk,str pn,aK,aK,mF ys,aK,aK])) [rb v 3]:=by
 have _:=h;exact aj [kc [0] h1,kc [0] h2,kc [0] h3,kf (show(pk==1)=false from(qF zO)),kf (show(pk==2)=false from(qF zO)),kt (show(pk==3)=true from(qT zO)),kc [] hE]
theorem aJy(v w a b:CV)(pk:Int)(pn:yP)(ys:List Sq.CE)(zs:List Tx.MK)(hk:pk=4)(h1:ak P G 186 [.ptr 0 0] [rb v 0] (.ret (int pk)) [rb v 1])(h2:ak P G 187 [.ptr 0 0] [rb v 1] (.ret (str pn)) [rb v 2])(h3:ak P G 84 [.ptr 0 0] [rb v 2] (.ret (val w)) [rb v 3])(h4:ak P G 84 [.ptr 0 0] [rb w 0] (.ret (val a)) [rb w 1])(h5:ak P G 84 [.ptr 0 0] [rb w 1] (.ret (val b)) [rb w 2])(hE:Cq 188 [val a,gP 189] (Sq.bZ ys))(hM:Cq 194 [val b,gP 195] (Tx.oI zs))(h:True):ak P G 87 [.ptr 0 0] [rb v 0] (aS.ret (AV.agg [int pk,str pn,aK,aK,aK,Sq.bZ ys,Tx.oI zs])) [rb v 3]:=by
 have _:=h;exact aj [kc [0] h1,kc [0] h2,kc [0] h3,kf (show(pk==1)=false from(qF zO)),kf (show(pk==2)=false from(qF zO)),kf (show(pk==3)=false from(qF zO)),kt (show(pk==4)=true from(qT zO)),kc [3] h4,kc [] hE,kc [3] h5,kc [] hM]
theorem aJz(v w:CV)(pk:Int)(pn:yP)(k1:¬pk=1)(k2:¬pk=2)(k3:¬pk=3)(k4:¬pk=4)(h1:ak P G 186 [.ptr 0 0] [rb v 0] (.ret (int pk)) [rb v 1])(h2:ak P G 187 [.ptr 0 0] [rb v 1] (.ret (str pn)) [rb v 2])(h3:ak P G 84 [.ptr 0 0] [rb v 2] (.ret (val w)) [rb v 3])(h:True):ak P G 87 [.ptr 0 0] [rb v 0] (aS.ret (AV.agg [int pk,str pn,aK,aK,aK,aK,aK])) [rb v 3]:=by
 have _:=h;exact aj [kc [0] h1,kc [0] h2,kc [0] h3,kf (show(pk==1)=false from(qF zO)),kf (show(pk==2)=false from(qF zO)),kf (show(pk==3)=false from(qF zO)),kf (show(pk==4)=false from(qF zO))]
theorem aJA(b:List UInt8)(v s f:CV)(d:DO)(x:AV)(e:Int)(he:¬e=0)(hC:Cq 82 [Cy b] (.bq [val v,int 0]))(h1:ak P G 84 [.ptr 0 0] [rb v 0] (.ret (val s)) [rb v 1])(h2:Cq 83 [val s,gP 85] (bB d.sn))(h3:ak P G 84 [.ptr 0 0] [rb v 1] (.ret (val f)) [rb v 2])(h4:Cq 86 [val f,gP 87] (Md d.fs))(h5:Cq 21 [kI d] (.bq [aK,int e]))(h:True):Cq 23 [Cy b] (.bq [.agg [aK,aK],int 180]):=by
 have _:=h;exact aj [kc [] hC,kY,kc [2] h1,kc [] h2,kc [2] h3,kc [] h4,kc [] h5,kt (show(e != 0)=true from(y27 (qF zO))),kO]
theorem aJB(b c:List UInt8)(v s f:CV)(d:DO)(hC:Cq 82 [Cy b] (.bq [val v,int 0]))(h1:ak P G 84 [.ptr 0 0] [rb v 0] (.ret (val s)) [rb v 1])(h2:Cq 83 [val s,gP 85] (bB d.sn))(h3:ak P G 84 [.ptr 0 0] [rb v 1] (.ret (val f)) [rb v 2])(h4:Cq 86 [val f,gP 87] (Md d.fs))(h5:Cq 21 [kI d] (.bq [Cy c,int 0]))(h6:Cq 88 [Cy b,Cy c] (Am.bool false))(h:True):Cq 23 [Cy b] (.bq [.agg [aK,aK],int 180]):=by
 have _:=h;exact aj [kc [] hC,kY,kc [2] h1,kc [] h2,kc [2] h3,kc [] h4,kc [] h5,kY,kc [] h6,kO]
theorem aJC(b c:List UInt8)(v s f:CV)(d:DO)(hC:Cq 82 [Cy b] (.bq [val v,int 0]))(h1:ak P G 84 [.ptr 0 0] [rb v 0] (.ret (val s)) [rb v 1])(h2:Cq 83 [val s,gP 85] (bB d.sn))(h3:ak P G 84 [.ptr 0 0] [rb v 1] (.ret (val f)) [rb v 2])(h4:Cq 86 [val f,gP 87] (Md d.fs))(h5:Cq 21 [kI d] (.bq [Cy c,int 0]))(h6:Cq 88 [Cy b,Cy c] (Am.bool true))(h:True):Cq 23 [Cy b] (.bq [kI d,int 0]):=by
 have _:=h;exact aj [kc [] hC,kY,kc [2] h1,kc [] h2,kc [2] h3,kc [] h4,kc [] h5,kY,kc [] h6,kY]
end Go.Dc
namespace Go.Dc
open Go Go.Am Go.Proofs Go.eY Go.bH
open Go.bV (OP op jy)
theorem ayT(f:FD)(h:((((↑(length f.tc):Int)<=40)->(decide ((↑(length f.tm):Int)<=12))=(decide (length f.tc<=40/\length f.tm<=12)))/\((¬(↑(length f.tc):Int)<=40)->(false)=(decide (length f.tc<=40/\length f.tm<=12))))):Cq 115 [Tx.mG (Gb f)] (Am.bool (decide (length f.tc<=40/\length f.tm<=12))):=by
 have bS:Am.aF (int (↑(length (Sq.au (Tx.TE.cells (Gb f)))):Int)) (int ↑(length f.tc)):=(aF.of_eq (by simp only[Go.Sq.ay]));by_cases c1:((↑(length f.tc):Int)<=40)
 .have h:=h.1 c1;exact aA (aF.aI h) [kv 5 bS,kt (qT c1),kv 10 (show Am.aF (int (↑(length (Tx.au (Tx.TE.bQ (Gb f)))):Int)) (int ↑(length f.tm))from(aF.of_eq (by simp only[Go.Tx.ay])))]
 .have h:=h.2 c1;exact aA (aF.aI h) [kv 5 bS,kf (qF c1)]
theorem ayU(f:FD):Cq 115 [Tx.mG (Gb f)] (Am.bool (decide (f.tc.length<=40/\f.tm.length<=12))):=ayT f (by grind)
def smF(f:FD):Bool:=decide (f.ce.length<=40)&&Bd.avy f.bi&&decide (f.ta.length<=20)&&decide (f.tc.length<=40/\f.tm.length<=12)
def fwS(d:DO)(k:Nat):St:={ aL:=aC 49 [(1,.ptr 0 0),(2,Am.bool false),(3,int k)],H:=[.box [bB d.sn,Md d.fs]] }
def fwX(d:DO):St:={ aL:=aC 49 [(1,.ptr 0 0),(2,Am.bool false)],H:=[.box [bB d.sn,Md d.fs]] }
theorem azv(d:DO)(k:Nat)(hk:¬(k:Int)<(d.fs.length:Int))(h:True):Rq 0 39 0 (fwS d k) (bF.exit 0) (fwX d):=by
 have _:=h;exact aG [kN 8 (fE d.fs),kj ((k:Int)<(↑(length d.fs):Int))] (aB 49 [1,2]) 1
theorem azw(d:DO)(k:Nat)(f:FD)(hl:d.fs.length<=9223372036854775807)(hk:(k:Int)<(d.fs.length:Int))(hx:d.fs[k]?=some f)(a b t:Bool)(ha:Cq 113 [Sq.bZ f.ce] (Am.bool a))(hb:Cq 114 [Bd.iK f.bi] (Am.bool b))(ht:Cq 115 [Tx.mG (Gb f)] (Am.bool t))(ex:bF)(s':St)(h:((((a)=true)->((((b)=true)->((((↑(length f.ta):Int)>20)->(bF.ret=ex)/\(sM 49 [(1,.ptr 0 0),(2,Am.bool false)] [.box [bB d.sn,.sl 7 false (dA d.fs)]]=s'))/\((¬(↑(length f.ta):Int)>20)->((((t)=true)->Rq 0 39 0 (sM 49 [(1,.ptr 0 0),(2,Am.bool false),(3,int ↑(k+1))] [.box [bB d.sn,.sl 7 false (dA d.fs)]]) ex s')/\(((t)=false)->(bF.ret=ex)/\(sM 49 [(1,.ptr 0 0),(2,Am.bool false)] [.box [bB d.sn,.sl 7 false (dA d.fs)]]=s'))))))/\(((b)=false)->(bF.ret=ex)/\(sM 49 [(1,.ptr 0 0),(2,Am.bool false)] [.box [bB d.sn,.sl 7 false (dA d.fs)]]=s'))))/\(((a)=false)->(bF.ret=ex)/\(sM 49 [(1,.ptr 0 0),(2,Am.bool false)] [.box [bB d.sn,.sl 7 false (dA d.fs)]]=s')))):Rq 0 39 0 (fwS d k) ex s':=by
 let l1:List fP:=[kN 8 (fE d.fs),ki ((k:Int)<(↑(length d.fs):Int)),ke (jB f) (dA d.fs) k (bG hx),kc [] ha];rcases y00 ((a))with c2|c2
 .have h:=h.1 c2;have Av:(!a)=false:=(y27 (c2));rcases y00 ((b))with c3|c3
  .have h:=h.1 c3;let l2:List fP:=l1++[kf Av,kc [] hb,kf (show(!b)=false from(y27 (c3))),kN 30 (dP f.ta)];by_cases c4:((↑(length f.ta):Int)>20)
   .have h:=h.1 c4;obtain⟨eX,eS⟩:=h;exact bN.to ((show Rq 0 39 0 (fwS d k) bF.ret (sM 49 [(1,.ptr 0 0),(2,Am.bool false)] [.box [.sl 2 false (au d.sn),.sl 7 false (dA d.fs)]])from aG (l2++[kt (qT c4),kO]) (aB 49 [1,2]) 1)) eX (eB.of_eq eS)
   .have h:=h.2 c4;rcases y00 ((t))with c5|c5
    .have h:=h.1 c5;exact aJ (l2++[kf (qF c4),kc [] ht,kf (show(!t)=false from(y27 (c5))),kW 11 (k+1) ↑(k+1)]) (aB 49 [1,2,3]) 1 h
    .have h:=h.2 c5;obtain⟨eX,eS⟩:=h;exact bN.to ((show Rq 0 39 0 (fwS d k) bF.ret (sM 49 [(1,.ptr 0 0),(2,Am.bool false)] [.box [.sl 2 false (au d.sn),.sl 7 false (dA d.fs)]])from aG (l2++[kf (qF c4),kc [] ht,kt (show(!t)=true from(y27 (c5)))]) (aB 49 [1,2]) 1)) eX (eB.of_eq eS)
  .have h:=h.2 c3;obtain⟨eX,eS⟩:=h;exact bN.to ((show Rq 0 39 0 (fwS d k) bF.ret (sM 49 [(1,.ptr 0 0),(2,Am.bool false)] [.box [.sl 2 false (au d.sn),.sl 7 false (dA d.fs)]])from aG (l1++[kf Av,kc [] hb,kt (show(!b)=true from(y27 (c3))),kO,kO]) (aB 49 [1,2]) 1)) eX (eB.of_eq eS)
 .have h:=h.2 c2;obtain⟨eX,eS⟩:=h;exact bN.to ((show Rq 0 39 0 (fwS d k) bF.ret (sM 49 [(1,.ptr 0 0),(2,Am.bool false)] [.box [.sl 2 false (au d.sn),.sl 7 false (dA d.fs)]])from aG (l1++[kt (show(!a)=true from(y27 (c2))),kO,kO,kO]) (aB 49 [1,2]) 1)) eX (eB.of_eq eS)
theorem azx(d:DO)(hL:Rq 0 39 0 (fwS d 0) (.exit 0) (fwX d))(b:Bool)(h:((((↑(length d.sn):Int)<=20)->(decide ((↑(length d.fs):Int)<=6))=(b))/\((¬(↑(length d.sn):Int)<=20)->(false)=(b)))):Cq 39 [kI d] (Am.bool b):=by
 let l1:List fP:=[kl (rG [(0,1),(4,45)]) 1 hL,kN 41 (Go.bH.ay d.sn)];by_cases c1:((↑(length d.sn):Int)<=20)
 .have h:=h.1 c1;exact aA (aF.aI h) (l1++[kt (qT c1),kN 46 (fE d.fs)])
 .have h:=h.2 c1;exact aA (aF.aI h) (l1++[kf (qF c1)])
theorem azy(d:DO)(hL:Rq 0 39 0 (fwS d 0) .ret (fwX d))(h:True):Cq 39 [kI d] (Am.bool false):=by
 have _:=h;exact aj [kl (rG [(0,1),(4,45)]) 1 hL]
def lwS(d:DO)(t:Bool)(l:List OP)(k:Nat):St:={ aL:=aC 19 [(2,.ptr 0 0),(4,Am.bool false),(7,.sl 17 t (l.map jy)),(8,int l.length),(9,int k)],H:=[.box [bB d.sn,Md d.fs]] }
def lwX(d:DO):St:={ aL:=aC 19 [(2,.ptr 0 0),(4,Am.bool false)],H:=[.box [bB d.sn,Md d.fs]] }
theorem azz(d:DO)(t:Bool)(l:List OP)(k:Nat)(hk:¬(k:Int)<(l.length:Int))(h:True):Rq 0 11 0 (lwS d t l k) (bF.exit 0) (lwX d):=by
 have _:=h;exact aG [kj ((k:Int)<l.length)] (aB 19 [2,4]) 1
theorem azA(d:DO)(t:Bool)(l:List OP)(k:Nat)(o:OP)(hl:l.length<=1000000)(hk:(k:Int)<(l.length:Int))(hx:l[k]?=some o)(hF:Cq 38 [op o] (Am.bool true))(ex:bF)(s':St)(h:Rq 0 11 0 (sM 19 [(2,.ptr 0 0),(4,Am.bool false),(7,.sl 17 t (List.map jy l)),(8,int ↑l.length),(9,int ↑(k+1))] [.box [bB d.sn,.sl 7 false (dA d.fs)]]) ex s'):Rq 0 11 0 (lwS d t l k) ex s':=by
 exact aJ [ki ((k:Int)<l.length),ke (jy o) (List.map jy l) k (bG hx),kc [] hF,kY,kW 16 (k+1) ↑(k+1)] (aB 19 [2,4,7,8,9]) 1 h
theorem azB(d:DO)(t:Bool)(l:List OP)(k:Nat)(o:OP)(hl:l.length<=1000000)(hk:(k:Int)<(l.length:Int))(hx:l[k]?=some o)(hF:Cq 38 [op o] (Am.bool false))(h:True):Rq 0 11 0 (lwS d t l k) bF.ret (lwX d):=by
 have _:=h;exact aG [ki ((k:Int)<l.length),ke (jy o) (List.map jy l) k (bG hx),kc [] hF,kO] (aB 19 [2,4]) 1
theorem azC(d:DO)(t:Bool)(l:List OP)(b:Bool)(hF:Cq 39 [kI d] (Am.bool b))(hL:Rq 0 11 0 (lwS d t l 0) (.exit 0) (lwX d))(h:True):Cq 11 [kI d,.sl 17 t (List.map jy l)] (Am.bool b):=by
 have _:=h;exact aj [kv 8 (show Am.aF (int (↑(length (List.map jy l)):Int)) (int ↑l.length)from(aF.of_eq (by simp only[y10]))),kl (rG [(0,2),(3,1),(5,2),(10,9)]) 1 hL,kc [] hF]
theorem azD(d:DO)(t:Bool)(l:List OP)(hL:Rq 0 11 0 (lwS d t l 0) .ret (lwX d))(h:True):Cq 11 [kI d,.sl 17 t (List.map jy l)] (Am.bool false):=by
 have _:=h;exact aj [kv 8 (show Am.aF (int (↑(length (List.map jy l)):Int)) (int ↑l.length)from(aF.of_eq (by simp only[y10]))),kl (rG [(0,2),(3,1),(5,2),(10,9)]) 1 hL]
theorem axN(d:DO)(h:avT d):∀n k,d.fs.length-k=n->k<=d.fs.length->Rq 0 39 0 (fwS d k) (if(d.fs.drop k).all smF=true then .exit 0 else .ret) (fwX d):=by
 intro n
 induction n with
 |zero =>
  intro k h1 h2;rw[y17 zO];exact azv d k zO trivial
 |succ n ih =>
  intro k h1 h2;have bg:k<d.fs.length:=zO
  have nx:=ih (k+1) zO zO;have hb:=(h.rf _ (y03 bg)).lb;have no:smF d.fs[k]=false->(smF d.fs[k]&&(d.fs.drop (k+1)).all smF)=false:=fun e=>by rw[e,Bool.false_and]
  rw[y01 bg,all_cons];refine azw d k d.fs[k] h.lf zO (yA bg) _ _ _ (Sq.up (Sq.alz d.fs[k].ce)) (Bd.axY _ hb) (ayU _) _ _ ⟨fun a=>⟨fun b=>⟨fun c=>?_,fun c=>⟨fun t=>?_,fun t=>?_⟩⟩,fun b=>?_⟩,fun a=>?_⟩
  .rw [no (by simp only[smF,a,b,Bool.true_and];rw[y16 zO];rfl)];exact⟨rfl,rfl⟩
  .rw [show smF d.fs[k]=true by simp only[smF,a,b,t,Bool.true_and,Bool.and_true];exact y15 zO,Bool.true_and];exact nx
  .rw [no (by simp only[smF,t,Bool.and_false])];exact⟨rfl,rfl⟩
  .rw [no (by simp only[smF,b,Bool.and_false,Bool.false_and])];exact⟨rfl,rfl⟩
  .rw [no (by simp only[smF,a,Bool.false_and])];exact⟨rfl,rfl⟩
def smD(d:DO):Bool:=d.fs.all smF&&decide (d.sn.length<=20/\d.fs.length<=6)
theorem ayi(d:DO)(h:avT d):Cq 39 [kI d] (Am.bool (smD d)):=by
 have hL:=axN d h _ 0 rfl yN;rw[drop_zero]at hL;unfold smD;cases e:d.fs.all smF with
 |true =>
  rw[e,yL rfl]at hL;refine azx d hL _ ⟨fun a=>?_,fun a=>?_⟩<;>rw[Bool.true_and]<;>grind
 |false =>
  rw[e,yK zD]at hL;exact azy d hL trivial
theorem axO(d:DO)(t:Bool)(l:List OP)(hl:l.length<=1000000)(hs:∀o∈l,bV.azI o):∀n k,l.length-k=n->k<=l.length->Rq 0 11 0 (lwS d t l k) (if(l.drop k).all bV.atN=true then .exit 0 else .ret) (lwX d):=by
 intro n
 induction n with
 |zero =>
  intro k h1 h2;rw[y17 zO];exact azz d t l k zO trivial
 |succ n ih =>
  intro k h1 h2;have bg:k<l.length:=zO
  have nx:=ih (k+1) zO zO;have hF:=bV.alz l[k] (hs _ (y03 bg));rw[y01 bg,all_cons];cases e:bV.atN l[k]with
  |true =>
   rw[e]at hF;rw[Bool.true_and];exact azA d t l k l[k] hl zO (yA bg) hF _ _ nx
  |false =>
   rw[e]at hF;exact azB d t l k l[k] hl zO (yA bg) hF trivial
theorem ayV(d:DO)(t:Bool)(l:List OP)(hd:avT d)(hl:l.length<=1000000)(hs:∀o∈l,bV.azI o):Cq 11 [kI d,.sl 17 t (l.map jy)] (Am.bool (l.all bV.atN&&smD d)):=by
 have hL:=axO d t l hl hs _ 0 rfl yN;rw[drop_zero]at hL;cases e:l.all bV.atN with
 |true =>
  rw[e,yL rfl]at hL;exact azC d t l _ (ayi d hd) hL trivial
 |false =>
  rw[e,yK zD]at hL;exact azD d t l hL trivial
theorem ayj{d:DO}(h:avT d)(hs:smD d=true):SmD 40 d:=by
 unfold smD smF at hs;simp only[y04,y05,all_eq_true]at hs;obtain⟨h1,h2,h3⟩:=hs;refine⟨⟨zO,fun f hf=>?_⟩,zO,fun f hf=>?_⟩
 .obtain ⟨⟨⟨a,b⟩,c⟩,_⟩:=h1 f hf;unfold Bd.avy at b;simp only[y04,y05]at b;exact⟨a,zO,zO⟩
 .obtain ⟨_,a,b⟩:=h1 f hf;have k:=h.rf f hf;exact⟨⟨by show f.tc.length<=_;omega,by show f.tm.length<=_;omega,⟨fun x hx=>(k.rt x hx).1,k.rm⟩⟩,fun x hx=>(k.rc x hx).1⟩
end Go.Dc
namespace Go.Dc
open Go Go.Am Go.Proofs Go.eY Go.bH
open Go.yU (CV gT je wf Lb Nz abz)
open Go.Sq (CE)
open Go.Bd (BE)
open Go.Tx (MK)
theorem eN(n:Int):(gT (zT n)).length<=11:=by
 have:=(Nz (yU.vP n)).1;simp only[zT,gT,if_true,yE];omega
theorem eW(s:yP):(gT (wdV s)).length<=11+s.size:=by
 have:=(Nz s.size).1;have e:s.data.toList.length=s.size:=rfl;have q:gT (wdV s)=2::(yU.num s.size++s.data.toList):=by simp[wdV,gT]
 rw[q,yE,yD,e];omega
theorem eL(l:List CV):(gT (lsV l)).length<=11+(je l).length:=by
 have:=(Nz l.length).1;have q:gT (lsV l)=3::(yU.num l.length++je l):=by simp[lsV,gT]
 rw[q,yE,yD];omega
theorem eC(v:CV)(l:List CV):(je (v::l)).length=(gT v).length+(je l).length:=by rw[je,yD]
theorem eM{α:Type}{f:α->CV}{K:Nat}:∀{l:List α},(∀x∈l,(gT (f x)).length<=K)->(je (l.map f)).length<=K*l.length
 |[],_=>yN
 |x::l,h=>by
  have h1:=h x (mem_cons_self ..);have h2:=eM (l:=l) fun y hy=>h y (yF _ hy);rw[map_cons,eC,yE,Nat.mul_succ];omega
theorem eCe(c:CE):(gT (ceV c)).length<=121+c.vl.size:=by
 refine y07 (eL _) ?_;have h1:=eN c.dv;have h2:=eN c.sq;have h3:=eN c.gU;have h4:=eN c.ad;have h5:=eN c.j6;have h6:=eN c.aa;have h7:=eN c.tm;have h8:=eW c.vl;have h9:(gT (flV c.gn)).length<=11:=eN _;have h0:(je []).length=0:=rfl;simp only[eC,h0];omega
theorem eBi(b:BE):(gT (biV b)).length<=66+b.ky.size+b.vl.size:=by
 refine y07 (eL _) ?_;have h1:=eW b.ky;have h2:=eN b.dv;have h3:=eN b.sq;have h4:=eN b.tm;have h5:=eW b.vl;have h0:(je []).length=0:=rfl;simp only[eC,h0];omega
theorem eTa(t:TL):(gT (taV t)).length<=44:=by
 refine y07 (eL _) ?_;have h1:=eN t.1;have h2:=eN t.2.1;have h3:=eN t.2.2;have h0:(je []).length=0:=rfl;simp only[eC,h0];omega
theorem eMa(m:MK):(gT (maV m)).length<=132:=by
 refine y07 (eL _) ?_;have h1:=eN m.dv;have h2:=eN m.sq;have h3:=eN m.tm;have h4:=eN m.fd;have h5:=eN m.fs;have h6:=eN m.fa;have h7:=eN m.td;have h8:=eN m.ts;have h9:=eN m.ta;have h10:=eN m.st;have h11:(gT (flV m.on)).length<=11:=eN _;have h0:(je []).length=0:=rfl;simp only[eC,h0];omega
theorem eDt(x:D):(gT (dtV x)).length<=33:=by
 refine y07 (eL _) ?_;have h1:=eN x.1;have h2:=eN x.2;have h0:(je []).length=0:=rfl;simp only[eC,h0];omega
theorem eFd(f:FD):(gT (fdV f)).length<=33+f.pn.size+(gT (coV f)).length:=by
 refine y07 (eL _) ?_;have h1:=eN f.pk;have h2:=eW f.pn;have h0:(je []).length=0:=rfl;simp only[eC,h0];omega
theorem aG5(d:DO):(gT (awo d)).length<=33+(je (d.sn.map dtV)).length+(je (d.fs.map fdV)).length:=by
 refine y07 (eL _) ?_;have h1:=eL (d.sn.map dtV);have h2:=eL (d.fs.map fdV);have h0:(je []).length=0:=rfl;simp only[eC,h0];omega
theorem aCH{l:List CE}(h:Sq.jg l=0):∀x∈l,x.vl.size<=4096:=fun x hx=>by
 have:=(Sq.Ak.1 (Sq.aqI.1 h).1).1.valid x hx;simp only[Sq.dF,y04,y05]at this;omega
theorem aBC{d:DO}(hs:smD d=true)(h:F9 d=0):(gT (awo d)).length<=10000000:=by
 unfold smD smF at hs;simp only[y04,y05,all_eq_true]at hs;obtain⟨h1,h2,h3⟩:=hs;have hv:=(arD.1 h).2.1;have hF:∀f∈d.fs,(gT (fdV f)).length<=200000:=fun f hf=>by
  obtain⟨⟨⟨a,b⟩,c⟩,e1,e2⟩:=h1 f hf;unfold Bd.avy Bd.aY at b;simp only[y04,y05,all_eq_true]at b;have k:=hv f hf;have hz:=eFd f;have hpn:f.pn.size<=64:=by rcases asQ k with e|e|e|e;exact((arL e).1 k).2.2.2;exact((arM e).1 k).2.2.2;exact((asb e).1 k).2.2.2;exact((arC e).1 k).2.2.2.2
  have hc:(gT (coV f)).length<=190000:=by
   unfold coV;rcases asQ k with e|e|e|e
   .rw [yL e];have q:=aCH ((arL e).1 k).1;have:=eM (f:=ceV) (K:=4300) (l:=f.ce) fun x hx=>by have:=eCe x;have:=q x hx;omega
    have:=eL (f.ce.map ceV);omega
   .rw [yK zO,yL e];have:=eM (f:=biV) (K:=5200) (l:=f.bi) fun x hx=>by have:=eBi x;have:=b.1 x hx;omega
    have:=eL (f.bi.map biV);omega
   .rw [yK zO,yK zO,yL e];have:=eM (f:=taV) (K:=44) (l:=f.ta) fun x _=>eTa x;have:=eL (f.ta.map taV);omega
   .rw [yK zO,yK zO,yK zO];have q:=aCH (Tx.Yp.1 ((arC e).1 k).1).cells;have m1:=eM (f:=ceV) (K:=4300) (l:=f.tc) fun x hx=>by have:=eCe x;have:=q x hx;omega
    have m2:=eM (f:=maV) (K:=132) (l:=f.tm) fun x _=>eMa x;have m3:=eL (f.tc.map ceV);have m4:=eL (f.tm.map maV);have m5:=eL [lsV (f.tc.map ceV),lsV (f.tm.map maV)];have h0:(je []).length=0:=rfl;simp only[eC,h0]at m5;omega
  omega
 have m1:=eM hF;have m2:=eM (f:=dtV) (l:=d.sn) fun x _=>eDt x;have:=aG5 d;omega
end Go.Dc
namespace Go.Dc
open Go Go.Am Go.Proofs Go.eY Go.bH
open Go.yU (CV gT je wf Lb QG abz AX)
open Go.bV (Sv)
abbrev zC:CV:=.mk 0 0 .empty []
theorem aAI(v:CV)(i:Nat):nth v i∈v.l\/nth v i=zC:=by
 unfold nth;rw[yB];cases e:v.l[i]? with
 |none=>exact .inr rfl
 |some x=>exact .inl (mem_of_getElem? e)
variable {v:CV}
theorem azY(h:wf v=true):(je v.l).length<=(gT v).length/\v.s.size<=(gT v).length/\Lb v.l=true:=by
 obtain⟨k,n,s,l⟩:=v;have hs:s.data.toList.length=s.size:=rfl;have nl:l.length=0->l=[]:=y02;unfold wf at h;unfold gT;simp only[CV.l,CV.s];split at h
 .simp only[y04,y05]at h;rw[h.1,nl h.2];exact⟨yN,yN,rfl⟩
 .split at h
  .rename_i h1 h2;simp only[y04,y05]at h;rw[nl h.2,yK h1,yL h2];exact⟨yN,by simp only[yE,yD,hs];omega,rfl⟩
  .split at h
   .rename_i h1 h2 h3;simp only[y04,y05]at h;rw[h.1.2,yK h1,yK h2];exact⟨by simp only[yE,yD];omega,yN,h.2⟩
   .cases h
theorem AY:∀{l:List CV}{x:CV},Lb l=true->x∈l->wf x=true
 |y::l,x,h,hx=>by
  rw[Lb,y04]at h;rcases yH.1 hx with rfl|hx
  .exact h.1
  .exact AY h.2 hx
theorem az4:∀{l:List CV}{x:CV},x∈l->(gT x).length<=(je l).length
 |y::l,x,hx=>by
  rw[eC];rcases yH.1 hx with rfl|hx
  .omega
  .have:=az4 hx;omega
theorem aBD(h:wf v=true)(i:Nat):(nth v i).s.size<=(gT v).length:=by
 rcases aAI v i with k|k
 .have:=(azY (AY (azY h).2.2 k)).2.1;have:=az4 k;have:=(azY h).1;omega
 .rw [k];exact yN
theorem aAd(h:wf v=true)(i:Nat):(je (nth v i).l).length<=(gT v).length/\Lb (nth v i).l=true:=by
 rcases aAI v i with k|k
 .have hw:=azY (AY (azY h).2.2 k);have:=az4 k;have:=(azY h).1;exact⟨zO,hw.2.2⟩
 .rw [k];exact⟨yN,rfl⟩
theorem aCI(h:wf v=true)(i j:Nat):(je (nth (nth v i) j).l).length<=(gT v).length/\Lb (nth (nth v i) j).l=true:=by
 rcases aAI v i with k|k
 .have hw:=AY (azY h).2.2 k;have:=az4 k;have:=(azY h).1;have:=aAd hw j;exact⟨zO,this.2⟩
 .have e:nth (nth v i) j=zC:=by rw[k];cases j<;>rfl
  rw[e];exact⟨yN,rfl⟩
theorem eR{f:CV->CV}{K:Nat}:∀{l:List CV},Lb l=true->(∀x,wf x=true->(gT (f x)).length<=K*(gT x).length)->(je (l.map f)).length<=K*(je l).length
 |[],_,_=>yN
 |x::l,h,k=>by
  rw[Lb,y04]at h;have h1:=k x h.1;have h2:=eR (l:=l) h.2 k;rw[map_cons,eC,eC,Nat.mul_add];omega
variable {x:CV}
theorem rCe(h:wf x=true):(gT (ceV (ceR x))).length<=122*(gT x).length:=by
 have:=eCe (ceR x);have h1:(ceR x).vl.size<=_:=aBD h 7;have:=abz x;omega
theorem rBi(h:wf x=true):(gT (biV (biR x))).length<=68*(gT x).length:=by
 have:=eBi (biR x);have h1:(biR x).ky.size<=_:=aBD h 0;have h2:(biR x).vl.size<=_:=aBD h 4;have:=abz x;omega
variable {α:Type}
theorem rLs{l:List CV}{r:CV->α}{f:α->CV}{K L:Nat}(hl:Lb l=true)(h:∀x,wf x=true->(gT (f (r x))).length<=K*(gT x).length)(hL:(je l).length<=L):(gT (lsV ((l.map r).map f))).length<=11+K*L:=by
 have h1:=eL ((l.map r).map f);rw[map_map]at h1 |-;have h2:=eR (f:=f∘r) hl h;have:=Nat.mul_le_mul_left K hL;omega
theorem rCo(h:wf x=true):(gT (coV (fdR x))).length<=33+254*(gT x).length:=by
 have a:=aAd h 2;unfold coV fdR;simp only;split
 .have:=rLs (r:=ceR) (f:=ceV) a.2 (fun x h=>rCe h) a.1;omega
 .split
  .have:=rLs (r:=biR) (f:=biV) a.2 (fun x h=>rBi h) a.1;omega
  .split
   .have:=rLs (f:=taV) (r:=taR) (K:=44) a.2 (fun x _=>by have:=eTa (taR x);have:=abz x;omega) a.1;omega
   .split
    .have b0:=aCI h 2 0;have b1:=aCI h 2 1;have m1:=rLs (r:=ceR) (f:=ceV) b0.2 (fun x h=>rCe h) b0.1;have m2:=rLs (f:=maV) (r:=maR) (K:=132) b1.2 (fun x _=>by have:=eMa (maR x);have:=abz x;omega) b1.1;refine y07 (eL _) ?_;have h0:(je []).length=0:=rfl;simp only[eC,h0];omega
    .refine Nat.le_trans (m:=33) ?_ zO;refine y07 (eL _) ?_;have h0:(je []).length=0:=rfl;have h1:=eL [];simp only[eC,h0,map_nil]at h1 |-;omega
theorem rFd(h:wf x=true):(gT (fdV (fdR x))).length<=330*(gT x).length:=by
 have:=eFd (fdR x);have h1:(fdR x).pn.size<=_:=aBD h 1;have:=rCo h;have:=abz x;omega
theorem aG6(h:wf v=true):(gT (awo (CS v))).length<=33+363*(gT v).length:=by
 have a:=aAd h 0;have b:=aAd h 1;have h1:=aG5 (CS v);have h2:=rLs (f:=dtV) (r:=dtR) (K:=33) a.2 (fun x _=>by have:=eDt (dtR x);have:=abz x;omega) a.1;have h3:=eR (f:=fdV∘fdR) b.2 (fun x h=>rFd h);have h4:=eR (f:=dtV∘dtR) (K:=33) a.2 (fun x _=>by have:=eDt (dtR x);have:=abz x;simp only[Function.comp];omega);simp only[CS,map_map]at h1 |-;have:=a.1;have:=b.1;omega
theorem awH(h:QG v):Sv v.n/\v.s.size<=pU/\v.l.length<=pU/\∀x∈v.l,QG x:=by
 cases h with
 |mk k n s l hn hs hl hx=>exact⟨hn,hs,hl,hx⟩
theorem aG7:QG zC:=.mk _ _ _ _ ⟨zD,zD⟩ yN yN (fun _ h=>by cases h)
theorem awV(h:QG v)(i:Nat):QG (nth v i):=by
 rcases aAI v i with k|k
 .exact (awH h).2.2.2 _ k
 .rw [k];exact aG7
theorem nn(h:QG v)(i:Nat):Sv (nth v i).n:=(awH (awV h i)).1
theorem ns(h:QG v)(i:Nat):(nth v i).s.size<=pU:=(awH (awV h i)).2.1
theorem aCJ(h:QG v):Sq.Cu (ceR v)/\Sv (ceR v).tm/\(ceR v).vl.size<=pU:=⟨⟨⟨nn h 0,nn h 1,nn h 2⟩,nn h 3,nn h 4,nn h 5⟩,nn h 6,ns h 7⟩
theorem aAe{r:CV->α}{p:α->Prop}(h:QG v)(k:∀x,QG x->p (r x)):∀y∈v.l.map r,p y:=fun y hy=>by
 obtain⟨x,hx,rfl⟩:=yG.1 hy;exact k x ((awH h).2.2.2 x hx)
variable {c:Prop}
theorem aAf{l:List α}[Decidable c]{p:α->Prop}(h:∀y∈l,p y):∀y∈(if c then l else[]),p y:=by
 split
 .exact h
 .intro y hy;cases hy
theorem aw4{l:List α}[Decidable c]{n:Nat}(h:l.length<=n):(if c then l else[]).length<=n:=by
 split
 .exact h
 .exact yN
theorem aFj(h:QG v):ayz (fdR v):=by
 have h2:=awV h 2;have l2:∀{α:Type}(r:CV->α),((nth v 2).l.map r).length<=pU:=fun r=>by rw[y10];exact(awH h2).2.2.1
 have l3:∀{α:Type}(r:CV->α)(j:Nat),((nth (nth v 2) j).l.map r).length<=pU:=fun r j=>by rw[y10];exact(awH (awV h2 j)).2.2.1
 exact⟨nn h 0,ns h 1,aw4 (l2 _),aAf (aAe h2 fun x hx=>aCJ hx),aw4 (l2 _),aAf (aAe h2 fun x hx=>⟨⟨nn hx 1,nn hx 2,nn hx 3⟩,ns hx 0,ns hx 4⟩),aw4 (l2 _),aAf (aAe h2 fun x hx=>⟨nn hx 0,nn hx 1,nn hx 2⟩),aw4 (l3 _ 0),aAf (aAe (awV h2 0) fun x hx=>aCJ hx),aw4 (l3 _ 1),aAf (aAe (awV h2 1) fun x hx=>⟨nn hx 0,nn hx 1,nn hx 2,nn hx 3,nn hx 4,nn hx 5,nn hx 6,nn hx 7,nn hx 8,nn hx 9⟩)⟩
theorem aBp(h:QG v):avT (CS v):=by
 have h0:=awV h 0;have h1:=awV h 1;exact⟨by show(List.map _ _).length<=_;rw[y10];exact(awH h0).2.2.1,aAe h0 fun x hx=>⟨nn hx 0,nn hx 1⟩,by show(List.map _ _).length<=_;rw[y10];exact(awH h1).2.2.1,aAe h1 fun x hx=>aFj hx⟩
end Go.Dc
namespace Go.Dc
open Go Go.Am Go.Proofs Go.eY Go.bH
open Go.yU (CV rR val Cy jl iB fA QG gT je aaw adl)
theorem azT(v:CV)(k:Nat)(hl:v.l.length<=1000000000):ak P G 84 [.ptr 0 0] [rb v k] (.ret (val (nth v k))) [rb v (k+1)]:=by
 rcases y08 k v.l.length with h|h
 .have e:List.drop 1 (List.take (Int.toNat ((v.l.drop k).length:Int)) (iB (v.l.drop k)))=iB ((v.l.drop k).drop 1):=by
   rw[y26,<- fA,y23 yM,yU.aB4]
  have h1:=aJm v.k v.n v.s v.l[k] (v.l.drop k) (by rw[length_drop];omega) (by rw[length_drop];omega) (by rw[getElem?_drop,Nat.add_zero];exact yA h) (by rw[e]);rw[drop_drop]at h1;have e2:nth v k=v.l[k]:=by unfold nth;rw[yB,yA h];rfl
  rw[e2];exact h1
 .have h1:=aJn v.k v.n v.s trivial;have e:nth v k = .mk 0 0 .empty []:=by unfold nth;rw[yB,getElem?_eq_none h];rfl
  rw[e];have e1:rb v k = .box [int v.k,int v.n,str v.s,.sl 4 false (iB [])]:=by unfold rb;rw[y17 h]
  have e2:rb v (k+1) = .box [int v.k,int v.n,str v.s,.sl 4 false (iB [])]:=by unfold rb;rw[y17 zO]
  rw[e1,e2];exact h1.out (aF.qo ⟨y29,y29,y29,aF.nil 4,yO⟩)
section
variable {v:CV} (hl:v.l.length<=1000000000)
include hl
theorem axn(k:Nat):ak P G 186 [.ptr 0 0] [rb v k] (.ret (int (nth v k).n)) [rb v (k+1)]:=aGU v _ k (azT v k hl) trivial
theorem aBE(k:Nat):ak P G 187 [.ptr 0 0] [rb v k] (.ret (str (nth v k).s)) [rb v (k+1)]:=aGV v _ k (azT v k hl) trivial
theorem aAV(k:Nat):ak P G 85 [.ptr 0 0] [rb v k] (.ret (.agg [int (nth v k).n,int (nth v (k+1)).n])) [rb v (k+2)]:=aGW v k _ _ (axn hl k) (axn hl (k+1)) trivial
theorem Qt(k:Nat):ak P G 262 [.ptr 0 0] [rb v k] (.ret (.agg [int (nth v k).n,int (nth v (k+1)).n,int (nth v (k+2)).n])) [rb v (k+3)]:=aqk v k _ _ _ (aAV hl k) (axn hl (k+2)) trivial
theorem aG8:ak P G 189 [.ptr 0 0] [rb v 0] (.ret (.agg (Sq.aQ (ceR v)))) [rb v 9]:=aGX v _ _ _ _ _ _ _ _ _ (Qt hl 0) (Qt hl 3) (axn hl 6) (aBE hl 7) (axn hl 8) trivial
theorem aG9:ak P G 191 [.ptr 0 0] [rb v 0] (.ret (.agg (Bd.aQ (biR v)))) [rb v 5]:=aGY v _ _ _ _ _ (aBE hl 0) (aAV hl 1) (axn hl 3) (aBE hl 4) trivial
theorem aHa:ak P G 193 [.ptr 0 0] [rb v 0] (.ret (.agg (ze (taR v)))) [rb v 3]:=aGZ v _ _ _ (aAV hl 0) (axn hl 2) trivial
theorem aHb:ak P G 195 [.ptr 0 0] [rb v 0] (.ret (.agg (Tx.aQ (maR v)))) [rb v 11]:=aG0 v _ _ _ _ _ _ _ _ _ _ _ (aAV hl 0) (axn hl 2) (Qt hl 3) (Qt hl 6) (axn hl 9) (axn hl 10) trivial
end
def Sh:Nat->CV->Prop
 |0,_=>True
 |n+1,v=>v.l.length<=500000/\∀x∈v.l,Sh n x
variable {v:CV}{n:Nat}
theorem aw5(h:Sh (n+1) v)(k:Nat):Sh n (nth v k):=by
 unfold nth;rw[yB];cases e:v.l[k]? with
 |none =>
  cases n with
  |zero=>trivial
  |succ n=>exact⟨yN,fun _ h=>by cases h⟩
 |some x=>exact h.2 x (mem_of_getElem? e)
theorem CF(h:Sh (n+1) v):v.l.length<=1000000000:=by have:=h.1;omega
theorem aAW(h:Sh 2 v):Cq 188 [val v,gP 189] (Sq.bZ (v.l.map ceR)):=aB2 zD aJq v h.1 fun x hx=>aG8 (CF (h.2 x hx))
theorem aHc(h:Sh 4 v):ak P G 87 [.ptr 0 0] [rb v 0] (.ret (.agg (jB (fdR v)))) [rb v 3]:=by
 have l:=CF h;have h1:=axn l 0;have h2:=aBE l 1;have h3:=azT v 2 l;have hw:=aw5 h 2;have hw2:Sh 2 (nth v 2):=⟨hw.1,fun x hx=>⟨(hw.2 x hx).1,fun _ _=>trivial⟩⟩;have out:∀{a b c d e f g:AV}{a' b' c' d' e' f' g':AV},aF c c'->aF d d'->aF e e'->aF f f'->aF g g'->a=a'->b=b'->aF (.agg [a,b,c,d,e,f,g]) (.agg [a',b',c',d',e',f',g']):=fun h1 h2 h3 h4 h5 h6 h7=>by
  subst h6 h7;exact aF.qo ⟨y29,y29,h1,h2,h3,h4,h5,yO⟩
 unfold fdR jB;by_cases k1:(nth v 0).n=1
 .simp only[k1,if_true,show ¬(1:Int)=2 by decide,show ¬(1:Int)=3 by decide,show ¬(1:Int)=4 by decide,if_false];exact(aJv v _ _ _ _ rfl (k1▸h1) h2 h3 (aAW hw2) yO).out (out (y29) (aF.nil 5) (aF.nil 3) (aF.nil 9) (aF.nil 11) rfl rfl)
 by_cases k2:(nth v 0).n=2
 .simp only[k2,if_true,show ¬(2:Int)=1 by decide,show ¬(2:Int)=3 by decide,show ¬(2:Int)=4 by decide,if_false];have hb:Cq 190 [val (nth v 2),gP 191] (Bd.iK ((nth v 2).l.map biR)):=aB2 zD aJr _ hw2.1 fun x hx=>aG9 (CF (hw2.2 x hx));exact(aJw v _ _ _ _ rfl (k2▸h1) h2 h3 hb yO).out (out (aF.nil 9) (y29) (aF.nil 3) (aF.nil 9) (aF.nil 11) rfl rfl)
 by_cases k3:(nth v 0).n=3
 .simp only[k3,if_true,show ¬(3:Int)=1 by decide,show ¬(3:Int)=2 by decide,show ¬(3:Int)=4 by decide,if_false];have hb:Cq 192 [val (nth v 2),gP 193] (mF ((nth v 2).l.map taR)):=aB2 zD aJs _ hw2.1 fun x hx=>aHa (CF (hw2.2 x hx));exact(aJx v _ _ _ _ rfl (k3▸h1) h2 h3 hb yO).out (out (aF.nil 9) (aF.nil 5) (y29) (aF.nil 9) (aF.nil 11) rfl rfl)
 by_cases k4:(nth v 0).n=4
 .simp only[k4,if_true,show ¬(4:Int)=1 by decide,show ¬(4:Int)=2 by decide,show ¬(4:Int)=3 by decide,if_false];have g0:=aw5 hw 0;have g1:=aw5 hw 1;have hb:Cq 194 [val (nth (nth v 2) 1),gP 195] (Tx.oI ((nth (nth v 2) 1).l.map maR)):=aB2 zD aJt _ g1.1 fun x hx=>aHb (CF (g1.2 x hx));exact(aJy v _ _ _ _ _ _ _ rfl (k4▸h1) h2 h3 (azT _ 0 (CF hw)) (azT _ 1 (CF hw)) (aAW g0) hb yO).out (out (aF.nil 9) (aF.nil 5) (aF.nil 3) (y29) (y29) rfl rfl)
 .simp only[yK k1,yK k2,yK k3,yK k4];exact(aJz v _ _ _ k1 k2 k3 k4 h1 h2 h3 yO).out (out (aF.nil 9) (aF.nil 5) (aF.nil 3) (aF.nil 9) (aF.nil 11) rfl rfl)
theorem aCL:∀(n:Nat){v:CV},yU.wf v=true->(gT v).length<=500000->Sh n v
 |0,_,_,_=>trivial
 |n+1,v,h,hl=>by
  have b:=azY h;exact⟨by have:=yU.AX v.l;omega,fun x hx=>aCL n (AY b.2.2 hx) (by have:=az4 hx;omega)⟩
theorem aFk(h:yU.wf v=true)(ho:QG v)(hl:(gT v).length<=20000):Dim (CS v)/\((CS v).sn.length<=20000/\(CS v).fs.length<=20000)/\∀f∈(CS v).fs,f.ce.length<=20000/\f.bi.length<=20000/\f.ta.length<=20000/\f.tc.length<=20000/\f.tm.length<=20000:=by
 have ha:=aBp ho;have a0:=aAd h 0;have a1:=aAd h 1;have l0:(CS v).sn.length<=20000:=by show(List.map _ _).length<=_;rw[y10];have:=yU.AX (nth v 0).l;omega
 have l1:(CS v).fs.length<=20000:=by show(List.map _ _).length<=_;rw[y10];have:=yU.AX (nth v 1).l;omega
 have hs:∀f∈(CS v).fs,f.ce.length<=20000/\f.bi.length<=20000/\f.ta.length<=20000/\f.tc.length<=20000/\f.tm.length<=20000:=fun f hf=>by
  obtain⟨x,hx,rfl⟩:=yG.1 hf;have hw:=AY a1.2 hx;have hm:=az4 hx;have c2:=(aAd hw 2).1;have l2:∀{α:Type}(r:CV->α),((nth x 2).l.map r).length<=20000:=fun r=>by rw[y10];have:=yU.AX (nth x 2).l;omega
  have l3:∀{α:Type}(r:CV->α)(j:Nat),((nth (nth x 2) j).l.map r).length<=20000:=fun r j=>by rw[y10];have:=yU.AX (nth (nth x 2) j).l;have:=(aCI hw 2 j).1;omega
  exact⟨aw4 (l2 _),aw4 (l2 _),aw4 (l2 _),aw4 (l3 _ 0),aw4 (l3 _ 1)⟩
 refine⟨⟨zO,zO,fun f hf=>?_,fun f hf=>?_⟩,⟨l0,l1⟩,hs⟩
 .obtain ⟨b1,b2,b3,b4,b5⟩:=hs f hf;exact⟨zO,zO,zO,zO,zO⟩
 .have k:=ha.rf f hf;obtain⟨b1,b2,b3,b4,b5⟩:=hs f hf;exact⟨fun x hx=>(k.rc x hx).1,⟨fun x hx=>(k.rt x hx).1,k.rm⟩,⟨by show f.tc.length<=_;omega,by show f.tm.length<=_;omega⟩⟩
def aAw(b:List UInt8):Prop:=adl b=0/\F9 (CS (aaw b))=0/\gT (awo (CS (aaw b)))=b
instance (b:List UInt8):Decidable (aAw b):=Classical.propDecidable _
theorem aFl(b:List UInt8)(hl:b.length<=1000000000)(hq:adl b=0->Sh 6 (aaw b)/\Dim (CS (aaw b))/\((CS (aaw b)).sn.length<=500000/\(CS (aaw b)).fs.length<=500000)/\(∀f∈(CS (aaw b)).fs,f.ce.length<=500000/\f.bi.length<=500000/\f.ta.length<=500000/\f.tc.length<=500000/\f.tm.length<=500000)/\(F9 (CS (aaw b))=0->(gT (awo (CS (aaw b)))).length<=10000000)):Cq 23 [Cy b] (if aAw b then .bq [kI (CS (aaw b)),int 0]else .bq [Rf,int (if adl b=0 then 180 else adl b)]):=by
 have hC:=yU.awU b hl;by_cases h:adl b=0
 .rw [h]at hC;obtain⟨w,dpv,ov,en⟩:=yU.axf hl h;obtain⟨sh,dm,n1,hs,hx⟩:=hq h;have hE:=aCE (aBp ov) dm n1 hs hx;have s0:=aw5 sh 0;have s1:=aw5 sh 1;have h1:=azT (aaw b) 0 (CF sh);have h3:=azT (aaw b) 1 (CF sh);have h2:Cq 83 [val (nth (aaw b) 0),gP 85] (bB (CS (aaw b)).sn):=aB2 zD aJo _ s0.1 fun x hx=>aAV (CF (s0.2 x hx)) 0;have h4:Cq 86 [val (nth (aaw b) 1),gP 87] (Md (CS (aaw b)).fs):=aB2 zD aJp _ s1.1 fun x hx=>aHc ⟨(s1.2 x hx).1,(s1.2 x hx).2⟩;by_cases k:F9 (CS (aaw b))=0
  .rw [yL k]at hE;have hb:=bV.aHd b (gT (awo (CS (aaw b))));by_cases q:gT (awo (CS (aaw b)))=b
   .rw [yL ⟨h,k,q⟩];rw[y15 q.symm]at hb;exact aJC b _ _ _ _ _ hC h1 h2 h3 h4 hE hb trivial
   .rw [yK fun z=>q z.2.2,yL h];rw[y16 fun z=>q z.symm]at hb;exact aJB b _ _ _ _ _ hC h1 h2 h3 h4 hE hb trivial
  .rw [yK k]at hE;rw[yK fun z=>k z.2.1,yL h];exact aJA b _ _ _ _ aK 180 zD hC h1 h2 h3 h4 hE trivial
 .rw [yK fun z=>h z.1,yK h];exact azi _ h b _ hC trivial
theorem aFm(b:List UInt8)(hl:b.length<=20000):Cq 23 [Cy b] (if aAw b then .bq [kI (CS (aaw b)),int 0]else .bq [Rf,int (if adl b=0 then 180 else adl b)]):=aFl b zO fun h=>by
 obtain⟨w,dpv,ov,en⟩:=yU.axf zO h;have le:(gT (aaw b)).length<=20000:=by rw[en];exact hl
 obtain⟨dm,⟨n1,n2⟩,hs⟩:=aFk w ov le;exact⟨aCL 6 w zO,dm,⟨zO,zO⟩,fun f hf=>by obtain⟨b1,b2,b3,b4,b5⟩:=hs f hf;exact⟨zO,zO,zO,zO,zO⟩,fun _=>by have:=aG6 w;omega⟩
end Go.Dc
namespace Go.Dc
open Go Go.Am Go.Proofs Go.eY Go.bH
open Go.yU (CV rR val Cy iB fA)
def nuS(v:CV)(m:Nat)(xs:List (List AV))(k:Nat):St:={ aL:=aC 31 [(1,int m),(2,.ptr 0 0),(5,.aU 1 0 0 m),(6,int k)],H:=[aKp v,.aN 0 1 false xs] }
abbrev nuX(v:CV)(m:Nat)(xs:List (List AV)):St:={ aL:=aC 31 [(5,.aU 1 0 0 m)],H:=[aKp v,.aN 0 1 false xs] }
theorem aJD(v:CV)(m:Nat)(xs:List (List AV))(k:Nat)(h0:¬(k:Int)<(m:Int))(h:True):Rq 0 91 0 (nuS v m xs k) (bF.exit 0) (nuX v m xs):=by
 have _:=h;exact aG [kj ((k:Int)<m),kY] (aB 31 [5]) 2
theorem aJE(v:CV)(m:Nat)(xs:List (List AV))(k:Nat)(h0:(k:Int)<(m:Int))(h1:¬(k:Int)<(v.l.length:Int))(h:True):Rq 0 91 0 (nuS v m xs k) (bF.exit 0) (nuX v m xs):=by
 have _:=h;exact aG [ki ((k:Int)<m),kN 16 (Go.yU.fA v.l),kj ((k:Int)<(↑(length v.l):Int))] (aB 31 [5]) 2
theorem aJF(v x:CV)(m:Nat)(xs:List (List AV))(k:Nat)(hm:xs.length=m)(hm':m<=1000)(h0:(k:Int)<(m:Int))(h1:(k:Int)<(v.l.length:Int))(hx:v.l[k]?=some x)(hl:v.l.length<=1000000000)(ex:bF)(s':St)(h:(∃x3:List AV,(xs[0+Int.toNat (k:Int)]?=some x3)/\Rq 0 91 0 (sM 31 [(1,int ↑m),(2,.ptr 0 0),(5,.aU 1 0 0 m),(6,int ↑(k+1))] [.box [int v.k,int v.n,str v.s,.sl 4 false (iB v.l)],.aN 0 1 false (List.set xs (0+Int.toNat (k:Int)) (int x.n::List.append._f [] PUnit.unit (List.drop 1 x3)))]) ex s')):Rq 0 91 0 (nuS v m xs k) ex s':=by
 have Av:0=0:=(rfl);obtain⟨x3,o4,h⟩:=h;exact aJ [ki ((k:Int)<m),kN 16 (Go.yU.fA v.l),ki ((k:Int)<(↑(length v.l):Int)),ko (bC.elem (yU.aQ x)),ko (bC.elem x3),kp (show(0:Int)<=(k:Int)/\(iB v.l)[Int.toNat (k:Int)]?=some (yU.aQ x)from(by rw[Go.yU.lC];exact bG hx)),kp Av,kR (k:Int) (m:Int),kp Av,kp o4,kW 20 (k+1) ↑(k+1)] (aB 31 [1,2,5,6]) 2 h
theorem aHe(v:CV)(xs:List (List AV))(hL:Rq 0 91 0 (nuS v 2 [[int 0],[int 0]] 0) (.exit 0) (nuX v 2 xs))(h:((List.take 2 (List.drop 0 xs)=xs)/\((length xs=2)/\((∀(c:List AV),c∈xs->List.all c AV.fJ=true)/\True)))):Cq 91 [val v,int 2] (.sl 1 false xs):=by
 obtain⟨o1,h⟩:=h;obtain⟨o2,h⟩:=h;obtain⟨o3,h⟩:=h;have _:=h;exact aj [kp (show(0:Int)<=(2:Int)/\(2:Int)<=(2:Int)/\(16:Int)<=(281474976710656:Int)/\(2:Int)<=(4611686018427387904:Int)from zO),kl (rG [(0,1),(3,2),(7,24)]) 2 hL,ko (bC.Gu xs),kq 0,kp o1,kp o2,kp o3]
theorem aHf(v:CV)(xs:List (List AV))(hL:Rq 0 91 0 (nuS v 3 [[int 0],[int 0],[int 0]] 0) (.exit 0) (nuX v 3 xs))(h:((List.take 3 (List.drop 0 xs)=xs)/\((length xs=3)/\((∀(c:List AV),c∈xs->List.all c AV.fJ=true)/\True)))):Cq 91 [val v,int 3] (.sl 1 false xs):=by
 obtain⟨o1,h⟩:=h;obtain⟨o2,h⟩:=h;obtain⟨o3,h⟩:=h;have _:=h;exact aj [kp (show(0:Int)<=(3:Int)/\(3:Int)<=(3:Int)/\(24:Int)<=(281474976710656:Int)/\(3:Int)<=(4611686018427387904:Int)from zO),kl (rG [(0,1),(3,2),(7,24)]) 2 hL,ko (bC.Gu xs),kq 0,kp o1,kp o2,kp o3]
theorem aHg(v:CV)(xs:List (List AV))(hL:Rq 0 91 0 (nuS v 5 [[int 0],[int 0],[int 0],[int 0],[int 0]] 0) (.exit 0) (nuX v 5 xs))(h:((List.take 5 (List.drop 0 xs)=xs)/\((length xs=5)/\((∀(c:List AV),c∈xs->List.all c AV.fJ=true)/\True)))):Cq 91 [val v,int 5] (.sl 1 false xs):=by
 obtain⟨o1,h⟩:=h;obtain⟨o2,h⟩:=h;obtain⟨o3,h⟩:=h;have _:=h;exact aj [kp (show(0:Int)<=(5:Int)/\(5:Int)<=(5:Int)/\(40:Int)<=(281474976710656:Int)/\(5:Int)<=(4611686018427387904:Int)from zO),kl (rG [(0,1),(3,2),(7,24)]) 2 hL,ko (bC.Gu xs),kq 0,kp o1,kp o2,kp o3]
theorem aHh(v:CV)(xs:List (List AV))(hL:Rq 0 91 0 (nuS v 9 [[int 0],[int 0],[int 0],[int 0],[int 0],[int 0],[int 0],[int 0],[int 0]] 0) (.exit 0) (nuX v 9 xs))(h:((List.take 9 (List.drop 0 xs)=xs)/\((length xs=9)/\((∀(c:List AV),c∈xs->List.all c AV.fJ=true)/\True)))):Cq 91 [val v,int 9] (.sl 1 false xs):=by
 obtain⟨o1,h⟩:=h;obtain⟨o2,h⟩:=h;obtain⟨o3,h⟩:=h;have _:=h;exact aj [kp (show(0:Int)<=(9:Int)/\(9:Int)<=(9:Int)/\(72:Int)<=(281474976710656:Int)/\(9:Int)<=(4611686018427387904:Int)from zO),kl (rG [(0,1),(3,2),(7,24)]) 2 hL,ko (bC.Gu xs),kq 0,kp o1,kp o2,kp o3]
theorem aFo(v:CV)(xs:List (List AV))(hL:Rq 0 91 0 (nuS v 11 [[int 0],[int 0],[int 0],[int 0],[int 0],[int 0],[int 0],[int 0],[int 0],[int 0],[int 0]] 0) (.exit 0) (nuX v 11 xs))(h:((List.take 11 (List.drop 0 xs)=xs)/\((length xs=11)/\((∀(c:List AV),c∈xs->List.all c AV.fJ=true)/\True)))):Cq 91 [val v,int 11] (.sl 1 false xs):=by
 obtain⟨o1,h⟩:=h;obtain⟨o2,h⟩:=h;obtain⟨o3,h⟩:=h;have _:=h;exact aj [kp (show(0:Int)<=(11:Int)/\(11:Int)<=(11:Int)/\(88:Int)<=(281474976710656:Int)/\(11:Int)<=(4611686018427387904:Int)from zO),kl (rG [(0,1),(3,2),(7,24)]) 2 hL,ko (bC.Gu xs),kq 0,kp o1,kp o2,kp o3]
theorem aJG(v:CV)(k:Nat)(h0:(k:Int)>=(v.l.length:Int))(h:True):Cq 90 [val v,int ↑k] (.agg azK):=by
 have _:=h;exact aj [kN 8 (Go.yU.fA v.l),ki ((k:Int)>=(↑(length v.l):Int))]
theorem aJH(v x:CV)(k:Nat)(h0:¬(k:Int)>=(v.l.length:Int))(hx:v.l[k]?=some x)(hl:v.l.length<=1000000000)(h:True):Cq 90 [val v,int ↑k] (val x):=by
 have _:=h;exact aj [kN 8 (Go.yU.fA v.l),kj ((k:Int)>=(↑(length v.l):Int)),ko (bC.elem (yU.aQ x)),kp (show(0:Int)<=(k:Int)/\(iB v.l)[Int.toNat (k:Int)]?=some (yU.aQ x)from(by rw[Go.yU.lC];exact bG hx))]
theorem aJI(v:CV)(k:Nat)(h0:(k:Int)>=(v.l.length:Int))(h:True):Cq 197 [val v,int ↑k] (str y28):=by
 have _:=h;exact aj [kN 8 (Go.yU.fA v.l),ki ((k:Int)>=(↑(length v.l):Int))]
theorem aJJ(v x:CV)(k:Nat)(h0:¬(k:Int)>=(v.l.length:Int))(hx:v.l[k]?=some x)(hl:v.l.length<=1000000000)(h:True):Cq 197 [val v,int ↑k] (str x.s):=by
 have _:=h;exact aj [kN 8 (Go.yU.fA v.l),kj ((k:Int)>=(↑(length v.l):Int)),ko (bC.elem (yU.aQ x)),kp (show(0:Int)<=(k:Int)/\(iB v.l)[Int.toNat (k:Int)]?=some (yU.aQ x)from(by rw[Go.yU.lC];exact bG hx))]
open Go.Sq (CE)
open Go.Bd (BE)
open Go.Tx (MK)
def aDL(v:CV):St:={ aL:=aC 58 [(1,.ptr 0 0),(3,.sl 9 true []),(4,int 0)],H:=[aKp v] }
def rqS(v:CV)(g:Nat)(xs:List CE)(k:Nat):St:={ aL:=aC 58 [(1,.ptr 0 0),(3,.aU 1 g 0 xs.length),(4,int k)],H:=[aKp v,.aN g 9 false (xs.map Sq.aQ)] }
theorem aHi(v:CV)(h0:¬(0:Int)<(v.l.length:Int))(h:True):Rq 0 198 0 (aDL v) (bF.exit 0) (sM 58 [(3,.sl 9 true [])] [aKp v]):=by
 have _:=h;exact aG [kN 10 (Go.yU.fA v.l),kj ((0:Int)<(↑(length v.l):Int))] (aB 58 [3]) 1
theorem aJK(v:CV)(g:Nat)(xs:List CE)(k:Nat)(h0:¬(k:Int)<(v.l.length:Int))(h:True):Rq 0 198 0 (rqS v g xs k) (bF.exit 0) (sM 58 [(3,.aU 1 g 0 xs.length)] [aKp v,.aN g 9 false (List.map Sq.aQ xs)]):=by
 have _:=h;exact aG [kN 10 (Go.yU.fA v.l),kj ((k:Int)<(↑(length v.l):Int))] (aB 58 [3]) 2
theorem aHj(v x:CV)(a b c d e f i y j:Int)(s:yP)(h0:(0:Int)<(v.l.length:Int))(hx:v.l[0]?=some x)(hN:Cq 91 [val x,int 9] (.sl 1 false [[int a],[int b],[int c],[int d],[int e],[int f],[int i],[int y],[int j]]))(hT:Cq 197 [val x,int 7] (str s))(hl:v.l.length<=1000000)(ex:bF)(s':St)(h:Rq 0 198 0 (sM 58 [(1,.ptr 0 0),(3,.aU 1 0 0 1),(4,int 1)] [.box [int v.k,int v.n,str v.s,.sl 4 false (iB v.l)],.aN 0 9 false [[int a,int b,int c,int d,int e,int f,int i,str s,Am.bool (j==1)]]]) ex s'):Rq 0 198 0 (aDL v) ex s':=by
 have jw:(0:Int)<=(0:Int)/\(iB v.l)[Int.toNat 0]?=some (yU.aQ x):=(by rw[Go.yU.lC];exact bG hx);exact aJ [kN 10 (Go.yU.fA v.l),ki ((0:Int)<(↑(length v.l):Int)),ko (bC.elem (yU.aQ x)),kp jw,kc [] hN,ko (bC.elem [int a]),ko (bC.elem [int b]),ko (bC.elem [int c]),ko (bC.elem [int d]),ko (bC.elem [int e]),ko (bC.elem [int f]),ko (bC.elem [int i]),ko (bC.elem (yU.aQ x)),kp (show(0:Int)<=(0:Int)/\[[int a],[int b],[int c],[int d],[int e],[int f],[int i],[int y],[int j]][Int.toNat 0]?=some [int a]from(⟨zD,rfl⟩)),kp (show(0:Int)<=(1:Int)/\[[int a],[int b],[int c],[int d],[int e],[int f],[int i],[int y],[int j]][Int.toNat 1]?=some [int b]from(⟨zD,rfl⟩)),kp (show(0:Int)<=(2:Int)/\[[int a],[int b],[int c],[int d],[int e],[int f],[int i],[int y],[int j]][Int.toNat 2]?=some [int c]from(⟨zD,rfl⟩)),kp (show(0:Int)<=(3:Int)/\[[int a],[int b],[int c],[int d],[int e],[int f],[int i],[int y],[int j]][Int.toNat 3]?=some [int d]from(⟨zD,rfl⟩)),kp (show(0:Int)<=(4:Int)/\[[int a],[int b],[int c],[int d],[int e],[int f],[int i],[int y],[int j]][Int.toNat 4]?=some [int e]from(⟨zD,rfl⟩)),kp (show(0:Int)<=(5:Int)/\[[int a],[int b],[int c],[int d],[int e],[int f],[int i],[int y],[int j]][Int.toNat 5]?=some [int f]from(⟨zD,rfl⟩)),kp (show(0:Int)<=(6:Int)/\[[int a],[int b],[int c],[int d],[int e],[int f],[int i],[int y],[int j]][Int.toNat 6]?=some [int i]from(⟨zD,rfl⟩)),kp jw,kc [] hT,ko (bC.elem [int j]),kp (show(0:Int)<=(8:Int)/\[[int a],[int b],[int c],[int d],[int e],[int f],[int i],[int y],[int j]][Int.toNat 8]?=some [int j]from(⟨zD,rfl⟩)),Qx [int a,int b,int c,int d,int e,int f,int i,str s,Am.bool (j==1)],vV 80] (aB 58 [1,3,4]) 2 h
theorem aJL(v x:CV)(a b c d e f i y j:Int)(s:yP)(g:Nat)(xs:List CE)(k:Nat)(h0:(k:Int)<(v.l.length:Int))(hx:v.l[k]?=some x)(hN:Cq 91 [val x,int 9] (.sl 1 false [[int a],[int b],[int c],[int d],[int e],[int f],[int i],[int y],[int j]]))(hT:Cq 197 [val x,int 7] (str s))(hl:v.l.length<=1000000)(hc:xs.length<=1000000)(ex:bF)(s':St)(h:Rq 0 198 0 (sM 58 [(1,.ptr 0 0),(3,.aU 1 (g+1) 0 (length xs+1)),(4,int ↑(k+1))] [.box [int v.k,int v.n,str v.s,.sl 4 false (iB v.l)],.aN (g+1) 9 false (List.map Sq.aQ xs++[[int a,int b,int c,int d,int e,int f,int i,str s,Am.bool (j==1)]])]) ex s'):Rq 0 198 0 (rqS v g xs k) ex s':=by
 have jw:(0:Int)<=(k:Int)/\(iB v.l)[Int.toNat (k:Int)]?=some (yU.aQ x):=(by rw[Go.yU.lC];exact bG hx);exact aJ [kN 10 (Go.yU.fA v.l),ki ((k:Int)<(↑(length v.l):Int)),ko (bC.elem (yU.aQ x)),kp jw,kc [] hN,ko (bC.elem [int a]),ko (bC.elem [int b]),ko (bC.elem [int c]),ko (bC.elem [int d]),ko (bC.elem [int e]),ko (bC.elem [int f]),ko (bC.elem [int i]),ko (bC.elem (yU.aQ x)),kp (show(0:Int)<=(0:Int)/\[[int a],[int b],[int c],[int d],[int e],[int f],[int i],[int y],[int j]][Int.toNat 0]?=some [int a]from(⟨zD,rfl⟩)),kp (show(0:Int)<=(1:Int)/\[[int a],[int b],[int c],[int d],[int e],[int f],[int i],[int y],[int j]][Int.toNat 1]?=some [int b]from(⟨zD,rfl⟩)),kp (show(0:Int)<=(2:Int)/\[[int a],[int b],[int c],[int d],[int e],[int f],[int i],[int y],[int j]][Int.toNat 2]?=some [int c]from(⟨zD,rfl⟩)),kp (show(0:Int)<=(3:Int)/\[[int a],[int b],[int c],[int d],[int e],[int f],[int i],[int y],[int j]][Int.toNat 3]?=some [int d]from(⟨zD,rfl⟩)),kp (show(0:Int)<=(4:Int)/\[[int a],[int b],[int c],[int d],[int e],[int f],[int i],[int y],[int j]][Int.toNat 4]?=some [int e]from(⟨zD,rfl⟩)),kp (show(0:Int)<=(5:Int)/\[[int a],[int b],[int c],[int d],[int e],[int f],[int i],[int y],[int j]][Int.toNat 5]?=some [int f]from(⟨zD,rfl⟩)),kp (show(0:Int)<=(6:Int)/\[[int a],[int b],[int c],[int d],[int e],[int f],[int i],[int y],[int j]][Int.toNat 6]?=some [int i]from(⟨zD,rfl⟩)),kp jw,kc [] hT,ko (bC.elem [int j]),kp (show(0:Int)<=(8:Int)/\[[int a],[int b],[int c],[int d],[int e],[int f],[int i],[int y],[int j]][Int.toNat 8]?=some [int j]from(⟨zD,rfl⟩)),kq g,kp (show length xs=length (List.map Sq.aQ xs)from(by simp only[yD,yE,y11,y10]<;>omega)),vV ((length xs+1)*80),kW 13 (k+1) ↑(k+1)] (aB 58 [1,3,4]) 2 h
theorem aHk(v:CV)(hL:Rq 0 198 0 (aDL v) (.exit 0) { aL:=aC 58 [(3,.sl 9 true [])],H:=[aKp v] })(h:True):Cq 198 [val v] (.sl 9 true []):=by
 have _:=h;exact aj [kl (rG [(0,1),(2,1),(5,53)]) 1 hL]
theorem aHl(v:CV)(g:Nat)(xs:List CE)(hL:Rq 0 198 0 (aDL v) (.exit 0) { aL:=aC 58 [(3,.aU 1 g 0 xs.length)],H:=[aKp v,.aN g 9 false (xs.map Sq.aQ)] })(h:((∀(c:List AV),c∈List.map Sq.aQ xs->List.all c AV.fJ=true)/\True)):Cq 198 [val v] (.sl 9 false (List.map Sq.aQ xs)):=by
 obtain⟨o1,h⟩:=h;have _:=h;exact aj [kl (rG [(0,1),(2,1),(5,53)]) 1 hL,ko (bC.Gu (List.map Sq.aQ xs)),kq g,XV xs.length (List.map Sq.aQ xs) (by simp only[yD,yE,y11,y10]<;>omega),kp (show length (List.map Sq.aQ xs)=length xs from(by simp only[yD,yE,y11,y10]<;>omega)),kp o1]
abbrev zFc:List AV:=[int 0,str .empty,aK,aK,aK,aK,aK]
abbrev aKq(k:Int)(s:yP)(a b c d e:AV):ah:=.box [int k,str s,a,b,c,d,e]
def aBF(v u:CV)(pk:Int)(pn:yP):St:={ aL:=aC 170 [(2,.ptr 1 0),(3,.ptr 2 0),(4,.ptr 3 0),(5,int 0)],H:=[aKp v,.box zFc,aKq pk pn aK aK aK aK aK,aKp u] }
def aDM(v u:CV)(pk:Int)(pn:yP)(g:Nat)(xs:List BE)(k:Nat):St:={ aL:=aC 170 [(2,.ptr 1 0),(3,.ptr 2 0),(4,.ptr 3 0),(5,int k)],H:=[aKp v,.box zFc,aKq pk pn aK (.aU 4 g 0 xs.length) aK aK aK,aKp u]++[.aN g 5 false (xs.map Bd.aQ)] }
abbrev aDN(v u:CV)(pk:Int)(pn:yP)(x:AV)(H:List ah):St:={ aL:=aC 170 [(2,.ptr 1 0),(3,.ptr 2 0)],H:=[aKp v,.box zFc,aKq pk pn aK x aK aK aK,aKp u]++H }
theorem aFp(v u:CV)(pk:Int)(pn:yP)(h0:¬(0:Int)<(u.l.length:Int))(h:True):Rq 0 92 0 (aBF v u pk pn) (bF.exit 1) (aDN v u pk pn aK []):=by
 have _:=h;exact aG [kN 34 (Go.yU.fA u.l),kj ((0:Int)<(↑(length u.l):Int))] (aB 170 [2,3]) 4
theorem aHm(v u:CV)(pk:Int)(pn:yP)(g:Nat)(xs:List BE)(k:Nat)(h0:¬(k:Int)<(u.l.length:Int))(h:True):Rq 0 92 0 (aDM v u pk pn g xs k) (bF.exit 1) (aDN v u pk pn (AV.aU 4 g 0 xs.length) [ah.aN g 5 false (List.map Bd.aQ xs)]):=by
 have _:=h;exact aG [kN 34 (Go.yU.fA u.l),kj ((k:Int)<(↑(length u.l):Int))] (aB 170 [2,3]) 5
theorem aFq(v u:CV)(pk:Int)(pn:yP)(x:CV)(y0 a b c y4:Int)(s t:yP)(h0:(0:Int)<(u.l.length:Int))(hx:u.l[0]?=some x)(hN:Cq 91 [val x,int 5] (.sl 1 false [[int y0],[int a],[int b],[int c],[int y4]]))(hT0:Cq 197 [val x,int 0] (str s))(hT4:Cq 197 [val x,int 4] (str t))(hl:u.l.length<=1000000)(ex:bF)(s':St)(h:Rq 0 92 0 (sM 170 [(2,.ptr 1 0),(3,.ptr 2 0),(4,.ptr 3 0),(5,int 1)] [.box [int v.k,int v.n,str v.s,.sl 4 false (iB v.l)],.box [int 0,str y28,aK,aK,aK,aK,aK],.box [int pk,str pn,aK,.aU 4 0 0 1,aK,aK,aK],.box [int u.k,int u.n,str u.s,.sl 4 false (iB u.l)],.aN 0 5 false [[str s,int a,int b,int c,str t]]]) ex s'):Rq 0 92 0 (aBF v u pk pn) ex s':=by
 have jw:(0:Int)<=(0:Int)/\(iB u.l)[Int.toNat 0]?=some (yU.aQ x):=(by rw[Go.yU.lC];exact bG hx);exact aJ [kN 34 (Go.yU.fA u.l),ki ((0:Int)<(↑(length u.l):Int)),ko (bC.elem (yU.aQ x)),kp jw,kc [] hN,ko (bC.elem (yU.aQ x)),kp jw,kc [] hT0,ko (bC.elem [int a]),ko (bC.elem [int b]),ko (bC.elem [int c]),ko (bC.elem (yU.aQ x)),kp (show(0:Int)<=(1:Int)/\[[int y0],[int a],[int b],[int c],[int y4]][Int.toNat 1]?=some [int a]from(⟨zD,rfl⟩)),kp (show(0:Int)<=(2:Int)/\[[int y0],[int a],[int b],[int c],[int y4]][Int.toNat 2]?=some [int b]from(⟨zD,rfl⟩)),kp (show(0:Int)<=(3:Int)/\[[int y0],[int a],[int b],[int c],[int y4]][Int.toNat 3]?=some [int c]from(⟨zD,rfl⟩)),kp jw,kc [] hT4,Qx [str s,int a,int b,int c,str t],vV 56] (aB 170 [2,3,4,5]) 5 h
theorem aHn(v u:CV)(pk:Int)(pn:yP)(x:CV)(y0 a b c y4:Int)(s t:yP)(g:Nat)(xs:List BE)(k:Nat)(h0:(k:Int)<(u.l.length:Int))(hx:u.l[k]?=some x)(hN:Cq 91 [val x,int 5] (.sl 1 false [[int y0],[int a],[int b],[int c],[int y4]]))(hT0:Cq 197 [val x,int 0] (str s))(hT4:Cq 197 [val x,int 4] (str t))(hl:u.l.length<=1000000)(hc:xs.length<=1000000)(ex:bF)(s':St)(h:Rq 0 92 0 (sM 170 [(2,.ptr 1 0),(3,.ptr 2 0),(4,.ptr 3 0),(5,int ↑(k+1))] [.box [int v.k,int v.n,str v.s,.sl 4 false (iB v.l)],.box [int 0,str y28,aK,aK,aK,aK,aK],.box [int pk,str pn,aK,.aU 4 (g+1) 0 (length xs+1),aK,aK,aK],.box [int u.k,int u.n,str u.s,.sl 4 false (iB u.l)],.aN (g+1) 5 false (List.map Bd.aQ xs++[[str s,int a,int b,int c,str t]])]) ex s'):Rq 0 92 0 (aDM v u pk pn g xs k) ex s':=by
 have jw:(0:Int)<=(k:Int)/\(iB u.l)[Int.toNat (k:Int)]?=some (yU.aQ x):=(by rw[Go.yU.lC];exact bG hx);exact aJ [kN 34 (Go.yU.fA u.l),ki ((k:Int)<(↑(length u.l):Int)),ko (bC.elem (yU.aQ x)),kp jw,kc [] hN,ko (bC.elem (yU.aQ x)),kp jw,kc [] hT0,ko (bC.elem [int a]),ko (bC.elem [int b]),ko (bC.elem [int c]),ko (bC.elem (yU.aQ x)),kp (show(0:Int)<=(1:Int)/\[[int y0],[int a],[int b],[int c],[int y4]][Int.toNat 1]?=some [int a]from(⟨zD,rfl⟩)),kp (show(0:Int)<=(2:Int)/\[[int y0],[int a],[int b],[int c],[int y4]][Int.toNat 2]?=some [int b]from(⟨zD,rfl⟩)),kp (show(0:Int)<=(3:Int)/\[[int y0],[int a],[int b],[int c],[int y4]][Int.toNat 3]?=some [int c]from(⟨zD,rfl⟩)),kp jw,kc [] hT4,kq g,kp (show length xs=length (List.map Bd.aQ xs)from(by simp only[yD,yE,y11,y10]<;>omega)),vV ((length xs+1)*56),kW 37 (k+1) ↑(k+1)] (aB 170 [2,3,4,5]) 5 h
def aBG(v u:CV)(pk:Int)(pn:yP):St:={ aL:=aC 170 [(2,.ptr 1 0),(3,.ptr 2 0),(4,.ptr 3 0),(7,int 0)],H:=[aKp v,.box zFc,aKq pk pn aK aK aK aK aK,aKp u] }
def aDO(v u:CV)(pk:Int)(pn:yP)(g:Nat)(xs:List TL)(k:Nat):St:={ aL:=aC 170 [(2,.ptr 1 0),(3,.ptr 2 0),(4,.ptr 3 0),(7,int k)],H:=[aKp v,.box zFc,aKq pk pn aK aK (.aU 4 g 0 xs.length) aK aK,aKp u]++[.aN g 3 false (xs.map ze)] }
abbrev aDP(v u:CV)(pk:Int)(pn:yP)(x:AV)(H:List ah):St:={ aL:=aC 170 [(2,.ptr 1 0),(3,.ptr 2 0)],H:=[aKp v,.box zFc,aKq pk pn aK aK x aK aK,aKp u]++H }
theorem aFr(v u:CV)(pk:Int)(pn:yP)(h0:¬(0:Int)<(u.l.length:Int))(h:True):Rq 0 92 1 (aBG v u pk pn) (bF.exit 3) (aDP v u pk pn aK []):=by
 have _:=h;exact aG [kN 77 (Go.yU.fA u.l),kj ((0:Int)<(↑(length u.l):Int))] (aB 170 [2,3]) 4
theorem aHo(v u:CV)(pk:Int)(pn:yP)(g:Nat)(xs:List TL)(k:Nat)(h0:¬(k:Int)<(u.l.length:Int))(h:True):Rq 0 92 1 (aDO v u pk pn g xs k) (bF.exit 3) (aDP v u pk pn (AV.aU 4 g 0 xs.length) [ah.aN g 3 false (List.map ze xs)]):=by
 have _:=h;exact aG [kN 77 (Go.yU.fA u.l),kj ((k:Int)<(↑(length u.l):Int))] (aB 170 [2,3]) 5
theorem aFs(v u:CV)(pk:Int)(pn:yP)(x:CV)(a b c:Int)(h0:(0:Int)<(u.l.length:Int))(hx:u.l[0]?=some x)(hN:Cq 91 [val x,int 3] (.sl 1 false [[int a],[int b],[int c]]))(hl:u.l.length<=1000000)(ex:bF)(s':St)(h:Rq 0 92 1 (sM 170 [(2,.ptr 1 0),(3,.ptr 2 0),(4,.ptr 3 0),(7,int 1)] [.box [int v.k,int v.n,str v.s,.sl 4 false (iB v.l)],.box [int 0,str y28,aK,aK,aK,aK,aK],.box [int pk,str pn,aK,aK,.aU 4 0 0 1,aK,aK],.box [int u.k,int u.n,str u.s,.sl 4 false (iB u.l)],.aN 0 3 false [[int a,int b,int c]]]) ex s'):Rq 0 92 1 (aBG v u pk pn) ex s':=by
 exact aJ [kN 77 (Go.yU.fA u.l),ki ((0:Int)<(↑(length u.l):Int)),ko (bC.elem (yU.aQ x)),kp (show(0:Int)<=(0:Int)/\(iB u.l)[Int.toNat 0]?=some (yU.aQ x)from(by rw[Go.yU.lC];exact bG hx)),kc [] hN,ko (bC.elem [int a]),ko (bC.elem [int b]),ko (bC.elem [int c]),kp (show(0:Int)<=(0:Int)/\[[int a],[int b],[int c]][Int.toNat 0]?=some [int a]from(⟨zD,rfl⟩)),kp (show(0:Int)<=(1:Int)/\[[int a],[int b],[int c]][Int.toNat 1]?=some [int b]from(⟨zD,rfl⟩)),kp (show(0:Int)<=(2:Int)/\[[int a],[int b],[int c]][Int.toNat 2]?=some [int c]from(⟨zD,rfl⟩)),Qx [int a,int b,int c],vV 24] (aB 170 [2,3,4,7]) 5 h
theorem aHp(v u:CV)(pk:Int)(pn:yP)(x:CV)(a b c:Int)(g:Nat)(xs:List TL)(k:Nat)(h0:(k:Int)<(u.l.length:Int))(hx:u.l[k]?=some x)(hN:Cq 91 [val x,int 3] (.sl 1 false [[int a],[int b],[int c]]))(hl:u.l.length<=1000000)(hc:xs.length<=1000000)(ex:bF)(s':St)(h:Rq 0 92 1 (sM 170 [(2,.ptr 1 0),(3,.ptr 2 0),(4,.ptr 3 0),(7,int ↑(k+1))] [.box [int v.k,int v.n,str v.s,.sl 4 false (iB v.l)],.box [int 0,str y28,aK,aK,aK,aK,aK],.box [int pk,str pn,aK,aK,.aU 4 (g+1) 0 (length xs+1),aK,aK],.box [int u.k,int u.n,str u.s,.sl 4 false (iB u.l)],.aN (g+1) 3 false (List.map ze xs++[[int a,int b,int c]])]) ex s'):Rq 0 92 1 (aDO v u pk pn g xs k) ex s':=by
 exact aJ [kN 77 (Go.yU.fA u.l),ki ((k:Int)<(↑(length u.l):Int)),ko (bC.elem (yU.aQ x)),kp (show(0:Int)<=(k:Int)/\(iB u.l)[Int.toNat (k:Int)]?=some (yU.aQ x)from(by rw[Go.yU.lC];exact bG hx)),kc [] hN,ko (bC.elem [int a]),ko (bC.elem [int b]),ko (bC.elem [int c]),kp (show(0:Int)<=(0:Int)/\[[int a],[int b],[int c]][Int.toNat 0]?=some [int a]from(⟨zD,rfl⟩)),kp (show(0:Int)<=(1:Int)/\[[int a],[int b],[int c]][Int.toNat 1]?=some [int b]from(⟨zD,rfl⟩)),kp (show(0:Int)<=(2:Int)/\[[int a],[int b],[int c]][Int.toNat 2]?=some [int c]from(⟨zD,rfl⟩)),kq g,kp (show length xs=length (List.map ze xs)from(by simp only[yD,yE,y11,y10]<;>omega)),vV ((length xs+1)*24),kW 80 (k+1) ↑(k+1)] (aB 170 [2,3,4,7]) 5 h
def aBH(v w u:CV)(pk:Int)(pn:yP)(C:List CE):St:={ aL:=aC 170 [(2,.ptr 1 0),(3,.ptr 2 0),(9,.ptr 4 0),(10,int 0)],H:=[aKp v,.box zFc,aKq pk pn aK aK aK (Sq.bZ C) aK,aKp w,aKp u] }
def aDQ(v w u:CV)(pk:Int)(pn:yP)(C:List CE)(g:Nat)(xs:List MK)(k:Nat):St:={ aL:=aC 170 [(2,.ptr 1 0),(3,.ptr 2 0),(9,.ptr 4 0),(10,int k)],H:=[aKp v,.box zFc,aKq pk pn aK aK aK (Sq.bZ C) (.aU 5 g 0 xs.length),aKp w,aKp u]++[.aN g 11 false (xs.map Tx.aQ)] }
abbrev aDR(v w u:CV)(pk:Int)(pn:yP)(C:List CE)(x:AV)(H:List ah):St:={ aL:=aC 170 [(2,.ptr 1 0),(3,.ptr 2 0)],H:=[aKp v,.box zFc,aKq pk pn aK aK aK (Sq.bZ C) x,aKp w,aKp u]++H }
theorem aFt(v w u:CV)(pk:Int)(pn:yP)(C:List CE)(h0:¬(0:Int)<(u.l.length:Int))(h:True):Rq 0 92 2 (aBH v w u pk pn C) (bF.exit 5) (aDR v w u pk pn C aK []):=by
 have _:=h;exact aG [kN 114 (Go.yU.fA u.l),kj ((0:Int)<(↑(length u.l):Int))] (aB 170 [2,3]) 5
theorem aHq(v w u:CV)(pk:Int)(pn:yP)(C:List CE)(g:Nat)(xs:List MK)(k:Nat)(h0:¬(k:Int)<(u.l.length:Int))(h:True):Rq 0 92 2 (aDQ v w u pk pn C g xs k) (bF.exit 5) (aDR v w u pk pn C (AV.aU 5 g 0 xs.length) [ah.aN g 11 false (List.map Tx.aQ xs)]):=by
 have _:=h;exact aG [kN 114 (Go.yU.fA u.l),kj ((k:Int)<(↑(length u.l):Int))] (aB 170 [2,3]) 6
theorem aFu(v w u:CV)(pk:Int)(pn:yP)(C:List CE)(x:CV)(a b c d e f i j k1 k2 k3:Int)(h0:(0:Int)<(u.l.length:Int))(hx:u.l[0]?=some x)(hN:Cq 91 [val x,int 11] (.sl 1 false [[int a],[int b],[int c],[int d],[int e],[int f],[int i],[int j],[int k1],[int k2],[int k3]]))(hl:u.l.length<=1000000)(ex:bF)(s':St)(h:Rq 0 92 2 (sM 170 [(2,.ptr 1 0),(3,.ptr 2 0),(9,.ptr 4 0),(10,int 1)] [.box [int v.k,int v.n,str v.s,.sl 4 false (iB v.l)],.box [int 0,str y28,aK,aK,aK,aK,aK],.box [int pk,str pn,aK,aK,aK,.sl 9 false (Sq.au C),.aU 5 0 0 1],.box [int w.k,int w.n,str w.s,.sl 4 false (iB w.l)],.box [int u.k,int u.n,str u.s,.sl 4 false (iB u.l)],.aN 0 11 false [[int a,int b,int c,int d,int e,int f,int i,int j,int k1,int k2,Am.bool (k3==1)]]]) ex s'):Rq 0 92 2 (aBH v w u pk pn C) ex s':=by
 exact aJ [kN 114 (Go.yU.fA u.l),ki ((0:Int)<(↑(length u.l):Int)),ko (bC.elem (yU.aQ x)),kp (show(0:Int)<=(0:Int)/\(iB u.l)[Int.toNat 0]?=some (yU.aQ x)from(by rw[Go.yU.lC];exact bG hx)),kc [] hN,ko (bC.elem [int a]),ko (bC.elem [int b]),ko (bC.elem [int c]),ko (bC.elem [int d]),ko (bC.elem [int e]),ko (bC.elem [int f]),ko (bC.elem [int i]),ko (bC.elem [int j]),ko (bC.elem [int k1]),ko (bC.elem [int k2]),ko (bC.elem [int k3]),kp (show(0:Int)<=(0:Int)/\[[int a],[int b],[int c],[int d],[int e],[int f],[int i],[int j],[int k1],[int k2],[int k3]][Int.toNat 0]?=some [int a]from(⟨zD,rfl⟩)),kp (show(0:Int)<=(1:Int)/\[[int a],[int b],[int c],[int d],[int e],[int f],[int i],[int j],[int k1],[int k2],[int k3]][Int.toNat 1]?=some [int b]from(⟨zD,rfl⟩)),kp (show(0:Int)<=(2:Int)/\[[int a],[int b],[int c],[int d],[int e],[int f],[int i],[int j],[int k1],[int k2],[int k3]][Int.toNat 2]?=some [int c]from(⟨zD,rfl⟩)),kp (show(0:Int)<=(3:Int)/\[[int a],[int b],[int c],[int d],[int e],[int f],[int i],[int j],[int k1],[int k2],[int k3]][Int.toNat 3]?=some [int d]from(⟨zD,rfl⟩)),kp (show(0:Int)<=(4:Int)/\[[int a],[int b],[int c],[int d],[int e],[int f],[int i],[int j],[int k1],[int k2],[int k3]][Int.toNat 4]?=some [int e]from(⟨zD,rfl⟩)),kp (show(0:Int)<=(5:Int)/\[[int a],[int b],[int c],[int d],[int e],[int f],[int i],[int j],[int k1],[int k2],[int k3]][Int.toNat 5]?=some [int f]from(⟨zD,rfl⟩)),kp (show(0:Int)<=(6:Int)/\[[int a],[int b],[int c],[int d],[int e],[int f],[int i],[int j],[int k1],[int k2],[int k3]][Int.toNat 6]?=some [int i]from(⟨zD,rfl⟩)),kp (show(0:Int)<=(7:Int)/\[[int a],[int b],[int c],[int d],[int e],[int f],[int i],[int j],[int k1],[int k2],[int k3]][Int.toNat 7]?=some [int j]from(⟨zD,rfl⟩)),kp (show(0:Int)<=(8:Int)/\[[int a],[int b],[int c],[int d],[int e],[int f],[int i],[int j],[int k1],[int k2],[int k3]][Int.toNat 8]?=some [int k1]from(⟨zD,rfl⟩)),kp (show(0:Int)<=(9:Int)/\[[int a],[int b],[int c],[int d],[int e],[int f],[int i],[int j],[int k1],[int k2],[int k3]][Int.toNat 9]?=some [int k2]from(⟨zD,rfl⟩)),kp (show(0:Int)<=(10:Int)/\[[int a],[int b],[int c],[int d],[int e],[int f],[int i],[int j],[int k1],[int k2],[int k3]][Int.toNat 10]?=some [int k3]from(⟨zD,rfl⟩)),Qx [int a,int b,int c,int d,int e,int f,int i,int j,int k1,int k2,Am.bool (k3==1)],vV 88] (aB 170 [2,3,9,10]) 6 h
theorem aHr(v w u:CV)(pk:Int)(pn:yP)(C:List CE)(x:CV)(a b c d e f i j k1 k2 k3:Int)(g:Nat)(xs:List MK)(k:Nat)(h0:(k:Int)<(u.l.length:Int))(hx:u.l[k]?=some x)(hN:Cq 91 [val x,int 11] (.sl 1 false [[int a],[int b],[int c],[int d],[int e],[int f],[int i],[int j],[int k1],[int k2],[int k3]]))(hl:u.l.length<=1000000)(hc:xs.length<=1000000)(ex:bF)(s':St)(h:Rq 0 92 2 (sM 170 [(2,.ptr 1 0),(3,.ptr 2 0),(9,.ptr 4 0),(10,int ↑(k+1))] [.box [int v.k,int v.n,str v.s,.sl 4 false (iB v.l)],.box [int 0,str y28,aK,aK,aK,aK,aK],.box [int pk,str pn,aK,aK,aK,.sl 9 false (Sq.au C),.aU 5 (g+1) 0 (length xs+1)],.box [int w.k,int w.n,str w.s,.sl 4 false (iB w.l)],.box [int u.k,int u.n,str u.s,.sl 4 false (iB u.l)],.aN (g+1) 11 false (List.map Tx.aQ xs++[[int a,int b,int c,int d,int e,int f,int i,int j,int k1,int k2,Am.bool (k3==1)]])]) ex s'):Rq 0 92 2 (aDQ v w u pk pn C g xs k) ex s':=by
 exact aJ [kN 114 (Go.yU.fA u.l),ki ((k:Int)<(↑(length u.l):Int)),ko (bC.elem (yU.aQ x)),kp (show(0:Int)<=(k:Int)/\(iB u.l)[Int.toNat (k:Int)]?=some (yU.aQ x)from(by rw[Go.yU.lC];exact bG hx)),kc [] hN,ko (bC.elem [int a]),ko (bC.elem [int b]),ko (bC.elem [int c]),ko (bC.elem [int d]),ko (bC.elem [int e]),ko (bC.elem [int f]),ko (bC.elem [int i]),ko (bC.elem [int j]),ko (bC.elem [int k1]),ko (bC.elem [int k2]),ko (bC.elem [int k3]),kp (show(0:Int)<=(0:Int)/\[[int a],[int b],[int c],[int d],[int e],[int f],[int i],[int j],[int k1],[int k2],[int k3]][Int.toNat 0]?=some [int a]from(⟨zD,rfl⟩)),kp (show(0:Int)<=(1:Int)/\[[int a],[int b],[int c],[int d],[int e],[int f],[int i],[int j],[int k1],[int k2],[int k3]][Int.toNat 1]?=some [int b]from(⟨zD,rfl⟩)),kp (show(0:Int)<=(2:Int)/\[[int a],[int b],[int c],[int d],[int e],[int f],[int i],[int j],[int k1],[int k2],[int k3]][Int.toNat 2]?=some [int c]from(⟨zD,rfl⟩)),kp (show(0:Int)<=(3:Int)/\[[int a],[int b],[int c],[int d],[int e],[int f],[int i],[int j],[int k1],[int k2],[int k3]][Int.toNat 3]?=some [int d]from(⟨zD,rfl⟩)),kp (show(0:Int)<=(4:Int)/\[[int a],[int b],[int c],[int d],[int e],[int f],[int i],[int j],[int k1],[int k2],[int k3]][Int.toNat 4]?=some [int e]from(⟨zD,rfl⟩)),kp (show(0:Int)<=(5:Int)/\[[int a],[int b],[int c],[int d],[int e],[int f],[int i],[int j],[int k1],[int k2],[int k3]][Int.toNat 5]?=some [int f]from(⟨zD,rfl⟩)),kp (show(0:Int)<=(6:Int)/\[[int a],[int b],[int c],[int d],[int e],[int f],[int i],[int j],[int k1],[int k2],[int k3]][Int.toNat 6]?=some [int i]from(⟨zD,rfl⟩)),kp (show(0:Int)<=(7:Int)/\[[int a],[int b],[int c],[int d],[int e],[int f],[int i],[int j],[int k1],[int k2],[int k3]][Int.toNat 7]?=some [int j]from(⟨zD,rfl⟩)),kp (show(0:Int)<=(8:Int)/\[[int a],[int b],[int c],[int d],[int e],[int f],[int i],[int j],[int k1],[int k2],[int k3]][Int.toNat 8]?=some [int k1]from(⟨zD,rfl⟩)),kp (show(0:Int)<=(9:Int)/\[[int a],[int b],[int c],[int d],[int e],[int f],[int i],[int j],[int k1],[int k2],[int k3]][Int.toNat 9]?=some [int k2]from(⟨zD,rfl⟩)),kp (show(0:Int)<=(10:Int)/\[[int a],[int b],[int c],[int d],[int e],[int f],[int i],[int j],[int k1],[int k2],[int k3]][Int.toNat 10]?=some [int k3]from(⟨zD,rfl⟩)),kq g,kp (show length xs=length (List.map Tx.aQ xs)from(by simp only[yD,yE,y11,y10]<;>omega)),vV ((length xs+1)*88),kW 117 (k+1) ↑(k+1)] (aB 170 [2,3,9,10]) 6 h
theorem aHs(v w:CV)(pn:yP)(e0:CV)(ys:List CE)(h0:Cq 90 [val v,int 0] (.agg [int e0.k,int 1,str e0.s,.sl 4 false (iB e0.l)]))(h1:Cq 197 [val v,int 1] (str pn))(h2:Cq 90 [val v,int 2] (val w))(hC:Cq 198 [val w] (Sq.bZ ys))(h:True):Cq 92 [val v] (.agg [int 1,str pn,Sq.bZ ys,aK,aK,aK,aK]):=by
 have _:=h;exact aj [kc [] h0,kc [] h1,kc [] h2,kO,kc [] hC]
theorem aHt(v w:CV)(pn:yP)(e0:CV)(ys:List BE)(h0:Cq 90 [val v,int 0] (.agg [int e0.k,int 2,str e0.s,.sl 4 false (iB e0.l)]))(h1:Cq 197 [val v,int 1] (str pn))(h2:Cq 90 [val v,int 2] (val w))(hL:Rq 0 92 0 (aBF v w 2 pn) (.exit 1) (aDN v w 2 pn (Bd.iK ys) []))(h:True):Cq 92 [val v] (.agg [int 2,str pn,aK,Bd.iK ys,aK,aK,aK]):=by
 have _:=h;exact aj [kc [] h0,kc [] h1,kc [] h2,kY,kO,kl (rG [(0,2),(6,164)]) 4 hL]
theorem aHu(v w:CV)(pn:yP)(e0:CV)(ys:List TL)(h0:Cq 90 [val v,int 0] (.agg [int e0.k,int 3,str e0.s,.sl 4 false (iB e0.l)]))(h1:Cq 197 [val v,int 1] (str pn))(h2:Cq 90 [val v,int 2] (val w))(hL:Rq 0 92 1 (aBG v w 3 pn) (.exit 3) (aDP v w 3 pn (mF ys) []))(h:True):Cq 92 [val v] (.agg [int 3,str pn,aK,aK,mF ys,aK,aK]):=by
 have _:=h;exact aj [kc [] h0,kc [] h1,kc [] h2,kY,kY,kO,kl (rG [(0,2),(5,2),(8,162)]) 4 hL]
theorem aHv(v w a u:CV)(pn:yP)(e0:CV)(ys:List CE)(zs:List MK)(h0:Cq 90 [val v,int 0] (.agg [int e0.k,int 4,str e0.s,.sl 4 false (iB e0.l)]))(h1:Cq 197 [val v,int 1] (str pn))(h2:Cq 90 [val v,int 2] (val w))(h3:Cq 90 [val w,int 0] (val a))(h4:Cq 90 [val w,int 1] (val u))(hC:Cq 198 [val a] (Sq.bZ ys))(hL:Rq 0 92 2 (aBH v w u 4 pn ys) (.exit 5) (aDR v w u 4 pn ys (Tx.oI zs) []))(h:True):Cq 92 [val v] (.agg [int 4,str pn,aK,aK,aK,Sq.bZ ys,Tx.oI zs]):=by
 have _:=h;exact aj [kc [] h0,kc [] h1,kc [] h2,kY,kY,kY,kO,kc [] h3,kc [] hC,kc [] h4,kl (rG [(0,2),(4,5),(11,159)]) 5 hL]
theorem aHw(v w:CV)(pk:Int)(pn:yP)(e0:CV)(k1:¬pk=1)(k2:¬pk=2)(k3:¬pk=3)(k4:¬pk=4)(h0:Cq 90 [val v,int 0] (.agg [int e0.k,int pk,str e0.s,.sl 4 false (iB e0.l)]))(h1:Cq 197 [val v,int 1] (str pn))(h2:Cq 90 [val v,int 2] (val w))(h:True):Cq 92 [val v] (.agg [int pk,str pn,aK,aK,aK,aK,aK]):=by
 have _:=h;exact aj [kc [] h0,kc [] h1,kc [] h2,kf (show(pk==1)=false from(qF zO)),kf (show(pk==2)=false from(qF zO)),kf (show(pk==3)=false from(qF zO)),kf (show(pk==4)=false from(qF zO))]
abbrev zDc:ah:=.box [aK,aK]
def aAX(b:List UInt8)(v s:CV):St:={ aL:=aC 87 [(0,Cy b),(2,.ptr 0 0),(4,.ptr 1 0),(6,.ptr 2 0),(7,.ptr 3 0),(8,int 0)],H:=[zDc,aKp v,zDc,aKp s] }
def aDT(b:List UInt8)(v s:CV)(g:Nat)(xs:List D)(k:Nat):St:={ aL:=aC 87 [(0,Cy b),(2,.ptr 0 0),(4,.ptr 1 0),(6,.ptr 2 0),(7,.ptr 3 0),(8,int k)],H:=[zDc,aKp v,.box [.aU 4 g 0 xs.length,aK],aKp s,.aN g 2 false (xs.map bH.aQ)] }
abbrev aCM(b:List UInt8)(v s:CV)(x:AV)(H:List ah):St:={ aL:=aC 87 [(0,Cy b),(2,.ptr 0 0),(4,.ptr 1 0),(6,.ptr 2 0)],H:=[zDc,aKp v,.box [x,aK],aKp s]++H }
theorem aFv(b:List UInt8)(v s:CV)(h0:¬(0:Int)<(s.l.length:Int))(h:True):Rq 0 24 0 (aAX b v s) (bF.exit 0) (aCM b v s aK []):=by
 have _:=h;exact aG [kN 29 (Go.yU.fA s.l),kj ((0:Int)<(↑(length s.l):Int))] (aB 87 [0,2,4,6]) 4
theorem aHx(b:List UInt8)(v s:CV)(g:Nat)(xs:List D)(k:Nat)(h0:¬(k:Int)<(s.l.length:Int))(h:True):Rq 0 24 0 (aDT b v s g xs k) (bF.exit 0) (aCM b v s (AV.aU 4 g 0 xs.length) [ah.aN g 2 false (List.map aQ xs)]):=by
 have _:=h;exact aG [kN 29 (Go.yU.fA s.l),kj ((k:Int)<(↑(length s.l):Int))] (aB 87 [0,2,4,6]) 5
theorem aFw(b:List UInt8)(v s x:CV)(a c:Int)(h0:(0:Int)<(s.l.length:Int))(hx:s.l[0]?=some x)(hN:Cq 91 [val x,int 2] (.sl 1 false [[int a],[int c]]))(hl:s.l.length<=1000000)(ex:bF)(s':St)(h:Rq 0 24 0 (sM 87 [(0,.sl 1 false (yU.jl b)),(2,.ptr 0 0),(4,.ptr 1 0),(6,.ptr 2 0),(7,.ptr 3 0),(8,int 1)] [.box [aK,aK],.box [int v.k,int v.n,str v.s,.sl 4 false (iB v.l)],.box [.aU 4 0 0 1,aK],.box [int s.k,int s.n,str s.s,.sl 4 false (iB s.l)],.aN 0 2 false [[int a,int c]]]) ex s'):Rq 0 24 0 (aAX b v s) ex s':=by
 exact aJ [kN 29 (Go.yU.fA s.l),ki ((0:Int)<(↑(length s.l):Int)),ko (bC.elem (yU.aQ x)),kp (show(0:Int)<=(0:Int)/\(iB s.l)[Int.toNat 0]?=some (yU.aQ x)from(by rw[Go.yU.lC];exact bG hx)),kc [] hN,ko (bC.elem [int a]),ko (bC.elem [int c]),kp (show(0:Int)<=(0:Int)/\[[int a],[int c]][Int.toNat 0]?=some [int a]from(⟨zD,rfl⟩)),kp (show(0:Int)<=(1:Int)/\[[int a],[int c]][Int.toNat 1]?=some [int c]from(⟨zD,rfl⟩)),Qx [int a,int c],vV 16] (aB 87 [0,2,4,6,7,8]) 5 h
theorem aHy(b:List UInt8)(v s x:CV)(a c:Int)(g:Nat)(xs:List D)(k:Nat)(h0:(k:Int)<(s.l.length:Int))(hx:s.l[k]?=some x)(hN:Cq 91 [val x,int 2] (.sl 1 false [[int a],[int c]]))(hl:s.l.length<=1000000)(hc:xs.length<=1000000)(ex:bF)(s':St)(h:Rq 0 24 0 (sM 87 [(0,.sl 1 false (yU.jl b)),(2,.ptr 0 0),(4,.ptr 1 0),(6,.ptr 2 0),(7,.ptr 3 0),(8,int ↑(k+1))] [.box [aK,aK],.box [int v.k,int v.n,str v.s,.sl 4 false (iB v.l)],.box [.aU 4 (g+1) 0 (length xs+1),aK],.box [int s.k,int s.n,str s.s,.sl 4 false (iB s.l)],.aN (g+1) 2 false (List.map aQ xs++[[int a,int c]])]) ex s'):Rq 0 24 0 (aDT b v s g xs k) ex s':=by
 exact aJ [kN 29 (Go.yU.fA s.l),ki ((k:Int)<(↑(length s.l):Int)),ko (bC.elem (yU.aQ x)),kp (show(0:Int)<=(k:Int)/\(iB s.l)[Int.toNat (k:Int)]?=some (yU.aQ x)from(by rw[Go.yU.lC];exact bG hx)),kc [] hN,ko (bC.elem [int a]),ko (bC.elem [int c]),kp (show(0:Int)<=(0:Int)/\[[int a],[int c]][Int.toNat 0]?=some [int a]from(⟨zD,rfl⟩)),kp (show(0:Int)<=(1:Int)/\[[int a],[int c]][Int.toNat 1]?=some [int c]from(⟨zD,rfl⟩)),kq g,kp (show length xs=length (List.map aQ xs)from(by simp only[yD,yE,y11,y10]<;>omega)),vV ((length xs+1)*16),kW 32 (k+1) ↑(k+1)] (aB 87 [0,2,4,6,7,8]) 5 h
def aAY(b:List UInt8)(v s f:CV)(sn:List D):St:={ aL:=aC 87 [(0,Cy b),(2,.ptr 0 0),(6,.ptr 2 0),(10,.ptr 4 0),(11,int 0)],H:=[zDc,aKp v,.box [bB sn,aK],aKp s,aKp f] }
def aDU(b:List UInt8)(v s f:CV)(sn:List D)(g:Nat)(xs:List FD)(k:Nat):St:={ aL:=aC 87 [(0,Cy b),(2,.ptr 0 0),(6,.ptr 2 0),(10,.ptr 4 0),(11,int k)],H:=[zDc,aKp v,.box [bB sn,.aU 5 g 0 xs.length],aKp s,aKp f,.aN g 7 false (xs.map jB)] }
abbrev aCN(b:List UInt8)(v s f:CV)(sn:List D)(x:AV)(H:List ah):St:={ aL:=aC 87 [(0,Cy b),(2,.ptr 0 0),(6,.ptr 2 0)],H:=[zDc,aKp v,.box [bB sn,x],aKp s,aKp f]++H }
theorem aFx(b:List UInt8)(v s f:CV)(sn:List D)(h0:¬(0:Int)<(f.l.length:Int))(h:True):Rq 0 24 1 (aAY b v s f sn) (bF.exit 2) (aCN b v s f sn aK []):=by
 have _:=h;exact aG [kN 56 (Go.yU.fA f.l),kj ((0:Int)<(↑(length f.l):Int))] (aB 87 [0,2,6]) 5
theorem aHz(b:List UInt8)(v s f:CV)(sn:List D)(g:Nat)(xs:List FD)(k:Nat)(h0:¬(k:Int)<(f.l.length:Int))(h:True):Rq 0 24 1 (aDU b v s f sn g xs k) (bF.exit 2) (aCN b v s f sn (AV.aU 5 g 0 xs.length) [ah.aN g 7 false (List.map jB xs)]):=by
 have _:=h;exact aG [kN 56 (Go.yU.fA f.l),kj ((k:Int)<(↑(length f.l):Int))] (aB 87 [0,2,6]) 6
theorem aFy(b:List UInt8)(v s f x:CV)(sn:List D)(y:FD)(h0:(0:Int)<(f.l.length:Int))(hx:f.l[0]?=some x)(hF:Cq 92 [val x] (.agg (jB y)))(hl:f.l.length<=1000000)(ex:bF)(s':St)(h:Rq 0 24 1 (sM 87 [(0,.sl 1 false (yU.jl b)),(2,.ptr 0 0),(6,.ptr 2 0),(10,.ptr 4 0),(11,int 1)] [.box [aK,aK],.box [int v.k,int v.n,str v.s,.sl 4 false (iB v.l)],.box [bB sn,.aU 5 0 0 1],.box [int s.k,int s.n,str s.s,.sl 4 false (iB s.l)],.box [int f.k,int f.n,str f.s,.sl 4 false (iB f.l)],.aN 0 7 false [[int y.pk,str y.pn,.sl 9 false (Sq.au y.ce),.sl 5 false (Bd.au y.bi),.sl 3 false (lH y.ta),.sl 9 false (Sq.au y.tc),.sl 11 false (Tx.au y.tm)]]]) ex s'):Rq 0 24 1 (aAY b v s f sn) ex s':=by
 exact aJ [kN 56 (Go.yU.fA f.l),ki ((0:Int)<(↑(length f.l):Int)),ko (bC.elem (yU.aQ x)),kp (show(0:Int)<=(0:Int)/\(iB f.l)[Int.toNat 0]?=some (yU.aQ x)from(by rw[Go.yU.lC];exact bG hx)),kc [] hF,Qx [int y.pk,str y.pn,AV.sl 9 false (Sq.au y.ce),AV.sl 5 false (Bd.au y.bi),AV.sl 3 false (lH y.ta),AV.sl 9 false (Sq.au y.tc),AV.sl 11 false (Tx.au y.tm)],vV 144] (aB 87 [0,2,6,10,11]) 6 h
theorem aHA(b:List UInt8)(v s f x:CV)(sn:List D)(y:FD)(g:Nat)(xs:List FD)(k:Nat)(h0:(k:Int)<(f.l.length:Int))(hx:f.l[k]?=some x)(hF:Cq 92 [val x] (.agg (jB y)))(hl:f.l.length<=1000000)(hc:xs.length<=1000000)(ex:bF)(s':St)(h:Rq 0 24 1 (sM 87 [(0,.sl 1 false (yU.jl b)),(2,.ptr 0 0),(6,.ptr 2 0),(10,.ptr 4 0),(11,int ↑(k+1))] [.box [aK,aK],.box [int v.k,int v.n,str v.s,.sl 4 false (iB v.l)],.box [bB sn,.aU 5 (g+1) 0 (length xs+1)],.box [int s.k,int s.n,str s.s,.sl 4 false (iB s.l)],.box [int f.k,int f.n,str f.s,.sl 4 false (iB f.l)],.aN (g+1) 7 false (List.map jB xs++[[int y.pk,str y.pn,.sl 9 false (Sq.au y.ce),.sl 5 false (Bd.au y.bi),.sl 3 false (lH y.ta),.sl 9 false (Sq.au y.tc),.sl 11 false (Tx.au y.tm)]])]) ex s'):Rq 0 24 1 (aDU b v s f sn g xs k) ex s':=by
 exact aJ [kN 56 (Go.yU.fA f.l),ki ((k:Int)<(↑(length f.l):Int)),ko (bC.elem (yU.aQ x)),kp (show(0:Int)<=(k:Int)/\(iB f.l)[Int.toNat (k:Int)]?=some (yU.aQ x)from(by rw[Go.yU.lC];exact bG hx)),kc [] hF,kq g,kp (show length xs=length (List.map jB xs)from(by simp only[yD,yE,y11,y10]<;>omega)),vV ((length xs+1)*144),kW 59 (k+1) ↑(k+1)] (aB 87 [0,2,6,10,11]) 6 h
theorem aHB(b:List UInt8)(v:CV)(e:Int)(he:¬e=0)(hC:Cq 89 [Cy b] (.bq [val v,int e]))(h:True):Cq 24 [Cy b] (.bq [.agg [aK,aK],int e]):=by
 have _:=h;exact aj [kc [] hC,kt (show(e != 0)=true from(y27 (qF zO)))]
theorem aHC(b c:List UInt8)(v s f:CV)(d:DO)(e:Int)(he:¬e=0)(hC:Cq 89 [Cy b] (.bq [val v,int 0]))(h1:Cq 90 [val v,int 0] (val s))(hA:Rq 0 24 0 (aAX b v s) (.exit 0) (aCM b v s (bB d.sn) []))(h2:Cq 90 [val v,int 1] (val f))(hB:Rq 0 24 1 (aAY b v s f d.sn) (.exit 2) (aCN b v s f d.sn (Md d.fs) []))(hE:Cq 22 [kI d] (.bq [Cy c,int e]))(h:True):Cq 24 [Cy b] (.bq [.agg [aK,aK],int 180]):=by
 have _:=h;exact aj [kc [] hC,kY,kc [] h1,kl (rG [(1,1),(3,1),(5,1),(9,78)]) 4 hA,kc [] h2,kl [4,51,52] 5 hB,kc [] hE,kt (show(e != 0)=true from(y27 (qF zO))),kO]
theorem aEP(x:AV)(b c:List UInt8)(v s f:CV)(d:DO)(hC:Cq 89 [Cy b] (.bq [val v,int 0]))(h1:Cq 90 [val v,int 0] (val s))(hA:Rq 0 24 0 (aAX b v s) (.exit 0) (aCM b v s (bB d.sn) []))(h2:Cq 90 [val v,int 1] (val f))(hB:Rq 0 24 1 (aAY b v s f d.sn) (.exit 2) (aCN b v s f d.sn (Md d.fs) []))(hE:Cq 22 [kI d] (.bq [Cy c,int 0]))(h:((((ByteArray.toList (ByteArray.mk (toArray c))==ByteArray.toList (ByteArray.mk (toArray b)))=true)->aF (AV.bq [AV.agg [bB d.sn,AV.sl 7 false (dA d.fs)],int 0]) (x))/\(((ByteArray.toList (ByteArray.mk (toArray c))==ByteArray.toList (ByteArray.mk (toArray b)))=false)->aF (AV.bq [AV.agg [aK,aK],int 180]) (x)))):Cq 24 [Cy b] x:=by
 let l1:List fP:=[kc [] hC,kY,kc [] h1,kl (rG [(1,1),(3,1),(5,1),(9,78)]) 4 hA,kc [] h2,kl [4,51,52] 5 hB,kc [] hE,kY,ko (bC.bytes (ByteArray.mk (toArray c))),ko (bC.bytes (ByteArray.mk (toArray b))),kp (show yU.jl c=List.map (fun(c:UInt8)=>[AV.lit (Value.int IntKind.u8 (↑(UInt8.toNat c):Int))]) (Array.toList (Array.mk c))from(rfl)),kp (show yU.jl b=List.map (fun(c:UInt8)=>[AV.lit (Value.int IntKind.u8 (↑(UInt8.toNat c):Int))]) (Array.toList (Array.mk b))from(rfl))];rcases y00 ((ByteArray.toList (ByteArray.mk (toArray c))==ByteArray.toList (ByteArray.mk (toArray b))))with c1|c1
 .have h:=h.1 c1;have e1:=h;exact ak.out ((show Cq 24 [Cy b] (.bq [.agg [.sl 2 false (au d.sn),.sl 7 false (dA d.fs)],int 0])from aj (l1++[kf (show(!ByteArray.toList (ByteArray.mk (toArray c))==ByteArray.toList (ByteArray.mk (toArray b)))=false from(y27 (c1)))]))) e1
 .have h:=h.2 c1;have e1:=h;exact ak.out ((show Cq 24 [Cy b] (.bq [.agg [aK,aK],int 180])from aj (l1++[kt (show(!ByteArray.toList (ByteArray.mk (toArray c))==ByteArray.toList (ByteArray.mk (toArray b)))=true from(y27 (c1)))]))) e1
variable {k:Nat}{v:CV}
theorem aBq(h:k<v.l.length):nth v k=v.l[k]:=by unfold nth;rw[yB,yA h];rfl
theorem aBr(h:¬k<v.l.length):nth v k = .mk 0 0 .empty []:=by unfold nth;rw[yB,getElem?_eq_none zO];rfl
def nuA(v:CV)(m k:Nat):List (List AV):=(List.range m).map fun i=>[int (if i<k then(nth v i).n else 0)]
theorem aBI(v:CV)(m k:Nat):(nuA v m k).length=m:=by simp[nuA]
theorem aAJ(v:CV)(m k i:Nat):(nuA v m k)[i]?=if i<m then some [int (if i<k then(nth v i).n else 0)]else none:=by
 unfold nuA;rw[getElem?_map];by_cases h:i<m
 .rw [getElem?_range h,yL h];rfl
 .rw [getElem?_eq_none (by simp;omega),yK h];rfl
variable {m:Nat}
theorem aDV:(nuA v m k).set k [int (nth v k).n]=nuA v m (k+1):=by
 apply ext_getElem?;intro i;rw[getElem?_set,aAJ,aAJ,aBI];by_cases e:k=i
 .subst e;rw[yL rfl,yL (Nat.lt_succ_self _)]
 .rw [yK e];by_cases h:i<k
  .rw [yL h,yL (by omega:i<k+1)]
  .rw [yK h,yK (by omega:¬i<k+1)]
theorem aDW(h:¬k<v.l.length):nuA v m k=nuA v m m:=by
 unfold nuA;refine map_congr_left fun i hi=>?_;rw[yL (mem_range.1 hi)];split
 .rfl
 .rw [aBr zO];rfl
theorem axo(v:CV)(m k:Nat):∀c∈nuA v m k,c.all AV.fJ=true:=fun c hc=>by obtain⟨i,_,rfl⟩:=yG.1 hc;rfl
theorem azZ(hl:v.l.length<=1000000000)(hm:m<=1000):∀n k,m-k=n->k<=m->Rq 0 91 0 (nuS v m (nuA v m k) k) (.exit 0) (nuX v m (nuA v m m)):=by
 intro n
 induction n with
 |zero =>
  intro k h1 h2;obtain rfl:k=m:=zO
  exact aJD v k _ k zO trivial
 |succ n ih =>
  intro k h1 h2;by_cases h:k<v.l.length
  .have nx:=ih (k+1) zO zO;refine aJF v v.l[k] m (nuA v m k) k (aBI v m k) hm zO zO (yA h) hl _ _ ⟨[int (if k<k then(nth v k).n else 0)],?_,?_⟩
   .rw [y09,y26,aAJ,yL zO]
   .rw [<- aDV,aBq h]at nx;rw[y09,y26];exact nx
  .rw [<- aDW h (m:=m)];exact aJE v m _ k zO zO trivial
section
variable {v:CV} (hl:v.l.length<=1000000000)
include hl
theorem aCO:Cq 91 [val v,int 2] (.sl 1 false [[int (nth v 0).n],[int (nth v 1).n]]):=aHe v (nuA v 2 2) (azZ hl zO 2 0 rfl zO) ⟨rfl,rfl,axo v 2 2,yO⟩
theorem aCP:Cq 91 [val v,int 3] (.sl 1 false [[int (nth v 0).n],[int (nth v 1).n],[int (nth v 2).n]]):=aHf v (nuA v 3 3) (azZ hl zO 3 0 rfl zO) ⟨rfl,rfl,axo v 3 3,yO⟩
theorem aCQ:Cq 91 [val v,int 5] (.sl 1 false [[int (nth v 0).n],[int (nth v 1).n],[int (nth v 2).n],[int (nth v 3).n],[int (nth v 4).n]]):=aHg v (nuA v 5 5) (azZ hl zO 5 0 rfl zO) ⟨rfl,rfl,axo v 5 5,yO⟩
theorem aCR:Cq 91 [val v,int 9] (.sl 1 false [[int (nth v 0).n],[int (nth v 1).n],[int (nth v 2).n],[int (nth v 3).n],[int (nth v 4).n],[int (nth v 5).n],[int (nth v 6).n],[int (nth v 7).n],[int (nth v 8).n]]):=aHh v (nuA v 9 9) (azZ hl zO 9 0 rfl zO) ⟨rfl,rfl,axo v 9 9,yO⟩
theorem aBJ:Cq 91 [val v,int 11] (.sl 1 false [[int (nth v 0).n],[int (nth v 1).n],[int (nth v 2).n],[int (nth v 3).n],[int (nth v 4).n],[int (nth v 5).n],[int (nth v 6).n],[int (nth v 7).n],[int (nth v 8).n],[int (nth v 9).n],[int (nth v 10).n]]):=aFo v (nuA v 11 11) (azZ hl zO 11 0 rfl zO) ⟨rfl,rfl,axo v 11 11,yO⟩
theorem aAx(k:Nat):Cq 90 [val v,int k] (val (nth v k)):=by
 by_cases h:k<v.l.length
 .rw [aBq h];exact aJH v _ k zO (yA h) hl trivial
 .rw [aBr h];exact(aJG v k zO yO).out (aF.qo ⟨y29,y29,y29,aF.nil 4,yO⟩)
theorem aAg(k:Nat):Cq 197 [val v,int k] (str (nth v k).s):=by
 by_cases h:k<v.l.length
 .rw [aBq h];exact aJJ v _ k zO (yA h) hl trivial
 .rw [aBr h];exact aJI v k zO trivial
end
theorem az0{α β:Type}{F lp e n b j sz:Nat}{l:List α}{V:α->β}{E:β->List AV}{S0:St}{S:Nat->List β->Nat->St}{aL:List AV}(cl:AV->List AV)(Hb:AV->List ah)(hl:l.length<=1000000)(hE:∀y,(E y).all AV.fJ=true)(b1:∀x H,(Hb x++H)[b]?=some (.box (cl x)))(b2:∀x,(cl x)[j]?=some x)(b3:∀x y H,(Hb x++H).set b (.box ((cl x).set j y))=Hb y++H)(b4:∀x,(Hb x).length=n)(IJ:∀g zs,∃ps,Bq 0 [] n { aL:=aL,H:=Hb (.sl sz false zs)++[.aN g sz true zs] }=some ({ aL:=aL,H:=Hb (.sl sz false zs) },ps)/\gZ ps)(he0:¬(0:Int)<(l.length:Int)->Rq 0 F lp S0 (.exit e) { aL:=aL,H:=Hb aK++[] })(he:∀(g:Nat)(xs:List β)(k:Nat),¬(k:Int)<(l.length:Int)->Rq 0 F lp (S g xs k) (.exit e) { aL:=aL,H:=Hb (.aU n g 0 xs.length)++[.aN g sz false (xs.map E)] })(U5:∀x,(0:Int)<(l.length:Int)->l[0]?=some x->∀(ex:bF)(s':St),Rq 0 F lp (S 0 [V x] 1) ex s'->Rq 0 F lp S0 ex s')(hn:∀(g:Nat)(xs:List β)(k:Nat)(x:α),(k:Int)<(l.length:Int)->l[k]?=some x->xs.length<=1000000->∀(ex:bF)(s':St),Rq 0 F lp (S (g+1) (xs++[V x]) (k+1)) ex s'->Rq 0 F lp (S g xs k) ex s') :
 Rq 0 F lp S0 (.exit e) { aL:=aL,H:=Hb (.sl sz false ((l.map V).map E)) }:=by
 by_cases h0:l.length=0
 .obtain rfl:=y02 h0;have h:=bN.aFg (he0 zS) (b1 _ _) (b2 _) (aF.nil sz);rw[y19 (Hb aK)]at h;have h':=h;rw[show((Hb aK).set b (.box ((cl aK).set j (.sl sz false []))))=Hb (.sl sz false []) by have:=b3 aK (.sl sz false []) [];rwa[y19,y19]at this]at h';exact h'
 .have bg:0<l.length:=zO
  obtain⟨g',h⟩:=awF (V:=V) (S:=S) hl he hn _ 1 0 rfl zO;rw[show(l.take 1).map V=[V l[0]] by rw[take_add_one,yA bg];rfl]at h;have h2:=U5 l[0] zO (yA bg) _ _ h;generalize hz:(l.map V).map E=zs at h2 |-;have bL:zs.length=(l.map V).length:=by rw[<- hz,y10]
  have ha:∀(x:AV)(fz:Bool),(Hb x++[ah.aN g' sz fz zs])[n]?=some (.aN g' sz fz zs):=fun x fz=>by
   rw[getElem?_append_right (by rw[b4];exact yM),b4,Nat.sub_self];rfl
  have hs:∀x,(Hb x++[ah.aN g' sz false zs]).set n (.aN g' sz true zs)=Hb x++[.aN g' sz true zs]:=fun x=>by
   rw[set_append_right _ _ (by rw[b4];exact yM),b4,Nat.sub_self];rfl
  have h3:=bN.ahI (z:=zs) (y:=.sl sz false zs) (H1:=Hb (.aU n g' 0 (l.map V).length)++[.aN g' sz true zs]) (ps:=[g'=g',(zs.drop 0).take (l.map V).length=zs,zs.length=(l.map V).length,∀c∈zs,c.all AV.fJ=true]) h2 (b1 _ _) (b1 _ _) (b2 _)
   (by unfold mR;simp only[ha,hs]) ⟨rfl,by rw[drop_zero,y23 zO],bL,fun c hc=>by rw[<- hz]at hc;obtain⟨y,_,rfl⟩:=yG.1 hc;exact hE y,yO⟩
  rw[b3]at h3;obtain⟨ps,p1,p2⟩:=IJ g' zs;exact h3.cut n (fun _ e=>by cases e) p1 p2
theorem aEQ(h:Sh 2 v):Cq 198 [val v] (Sq.bZ (v.l.map ceR)):=by
 have hl:v.l.length<=1000000:=by have:=h.1;omega
 have hx:∀x∈v.l,x.l.length<=1000000000:=fun x hx=>CF (h.2 x hx);by_cases h0:v.l.length=0
 .rw [y02 h0];exact(aHk v (aHi v zO yO) yO).out (aF.oP 9 true _)
 .have bg:0<v.l.length:=zO
  obtain⟨g',k⟩:=awF (l:=v.l) (V:=ceR) (S:=rqS v) (X:=fun g xs=>{ aL:=aC 58 [(3,.aU 1 g 0 xs.length)],H:=[aKp v,.aN g 9 false (xs.map Sq.aQ)] }) hl (fun g xs k hk=>aJK v g xs k hk yO) (fun g xs k x hk he hc ex s' nx=>by
   have hm:=hx x (mem_of_getElem? he);refine aJL v x _ _ _ _ _ _ _ _ _ _ g xs k hk he (aCR hm) (aAg hm 7) hl hc ex s' ?_;unfold rqS at nx;rw[map_append,yD]at nx;exact nx) _ 1 0 rfl zO
  rw[show(v.l.take 1).map ceR=[ceR v.l[0]] by rw[take_add_one,yA bg];rfl]at k;have hm:=hx v.l[0] (y03 bg);exact aHl v g' _ (aHj v _ _ _ _ _ _ _ _ _ _ _ zO (yA bg) (aCR hm) (aAg hm 7) hl _ _ k) ⟨fun c hc=>by obtain⟨y,_,rfl⟩:=yG.1 hc;rfl,yO⟩
section
variable (v w u:CV) (pk:Int) (pn:yP) (C:List CE) (h:Sh 2 u)
include h
theorem aHD:Rq 0 92 0 (aBF v u pk pn) (.exit 1) (aDN v u pk pn (Bd.iK (u.l.map biR)) []) :=
 az0 (n:=4) (b:=2) (j:=3) (V:=biR) (E:=Bd.aQ) (S:=aDM v u pk pn) (fun x=>[int pk,str pn,aK,x,aK,aK,aK]) (fun x=>[aKp v,.box zFc,aKq pk pn aK x aK aK aK,aKp u]) (by have:=h.1;omega) (fun _=>rfl) (fun _ _=>rfl) (fun _=>rfl) (fun _ _ _=>rfl) (fun _=>rfl) (fun _ _=>⟨_,rfl,yO⟩)
  (fun h0=>aFp v u pk pn h0 yO) (fun g xs k hk=>aHm v u pk pn g xs k hk yO)
  (fun x hk hx ex s' nx=>have hm:=CF (h.2 x (mem_of_getElem? hx));aFq v u pk pn x _ _ _ _ _ _ _ hk hx (aCQ hm) (aAg hm 0) (aAg hm 4) (by have:=h.1;omega) ex s' nx)
  (fun g xs k x hk hx hc ex s' nx=>have hm:=CF (h.2 x (mem_of_getElem? hx));aHn v u pk pn x _ _ _ _ _ _ _ g xs k hk hx (aCQ hm) (aAg hm 0) (aAg hm 4) (by have:=h.1;omega) hc ex s' (by unfold aDM at nx;rw[map_append,yD]at nx;exact nx))
theorem aHE:Rq 0 92 1 (aBG v u pk pn) (.exit 3) (aDP v u pk pn (mF (u.l.map taR)) []) :=
 az0 (n:=4) (b:=2) (j:=4) (V:=taR) (E:=ze) (S:=aDO v u pk pn) (fun x=>[int pk,str pn,aK,aK,x,aK,aK]) (fun x=>[aKp v,.box zFc,aKq pk pn aK aK x aK aK,aKp u]) (by have:=h.1;omega) (fun _=>rfl) (fun _ _=>rfl) (fun _=>rfl) (fun _ _ _=>rfl) (fun _=>rfl) (fun _ _=>⟨_,rfl,yO⟩)
  (fun h0=>aFr v u pk pn h0 yO) (fun g xs k hk=>aHo v u pk pn g xs k hk yO)
  (fun x hk hx ex s' nx=>have hm:=CF (h.2 x (mem_of_getElem? hx));aFs v u pk pn x _ _ _ hk hx (aCP hm) (by have:=h.1;omega) ex s' nx)
  (fun g xs k x hk hx hc ex s' nx=>have hm:=CF (h.2 x (mem_of_getElem? hx));aHp v u pk pn x _ _ _ g xs k hk hx (aCP hm) (by have:=h.1;omega) hc ex s' (by unfold aDO at nx;rw[map_append,yD]at nx;exact nx))
theorem aHF:Rq 0 92 2 (aBH v w u pk pn C) (.exit 5) (aDR v w u pk pn C (Tx.oI (u.l.map maR)) []) :=
 az0 (n:=5) (b:=2) (j:=6) (V:=maR) (E:=Tx.aQ) (S:=aDQ v w u pk pn C) (fun x=>[int pk,str pn,aK,aK,aK,Sq.bZ C,x]) (fun x=>[aKp v,.box zFc,aKq pk pn aK aK aK (Sq.bZ C) x,aKp w,aKp u]) (by have:=h.1;omega) (fun _=>rfl) (fun _ _=>rfl) (fun _=>rfl) (fun _ _ _=>rfl) (fun _=>rfl) (fun _ _=>⟨_,rfl,yO⟩)
  (fun h0=>aFt v w u pk pn C h0 yO) (fun g xs k hk=>aHq v w u pk pn C g xs k hk yO)
  (fun x hk hx ex s' nx=>have hm:=CF (h.2 x (mem_of_getElem? hx));aFu v w u pk pn C x _ _ _ _ _ _ _ _ _ _ _ hk hx (aBJ hm) (by have:=h.1;omega) ex s' nx)
  (fun g xs k x hk hx hc ex s' nx=>have hm:=CF (h.2 x (mem_of_getElem? hx));aHr v w u pk pn C x _ _ _ _ _ _ _ _ _ _ _ g xs k hk hx (aBJ hm) (by have:=h.1;omega) hc ex s' (by unfold aDQ at nx;rw[map_append,yD]at nx;exact nx))
end
theorem aER(h:Sh 4 v):Cq 92 [val v] (.agg (jB (fdR v))):=by
 have l:=CF h;have h0:=aAx l 0;have h1:=aAg l 1;have h2:=aAx l 2;have hw:=aw5 h 2;have hw2:Sh 2 (nth v 2):=⟨hw.1,fun x hx=>⟨(hw.2 x hx).1,fun _ _=>trivial⟩⟩;have out:∀{a b c d e f g:AV}{a' b' c' d' e' f' g':AV},aF c c'->aF d d'->aF e e'->aF f f'->aF g g'->a=a'->b=b'->aF (.agg [a,b,c,d,e,f,g]) (.agg [a',b',c',d',e',f',g']):=fun h1 h2 h3 h4 h5 h6 h7=>by
  subst h6 h7;exact aF.qo ⟨y29,y29,h1,h2,h3,h4,h5,yO⟩
 unfold fdR jB;by_cases k1:(nth v 0).n=1
 .simp only[k1,if_true,show ¬(1:Int)=2 by decide,show ¬(1:Int)=3 by decide,show ¬(1:Int)=4 by decide,if_false];exact(aHs v _ _ (nth v 0) _ (k1▸h0) h1 h2 (aEQ hw2) yO).out (out (y29) (aF.nil 5) (aF.nil 3) (aF.nil 9) (aF.nil 11) rfl rfl)
 by_cases k2:(nth v 0).n=2
 .simp only[k2,if_true,show ¬(2:Int)=1 by decide,show ¬(2:Int)=3 by decide,show ¬(2:Int)=4 by decide,if_false];exact(aHt v _ _ (nth v 0) _ (k2▸h0) h1 h2 (aHD v _ 2 _ hw2) yO).out (out (aF.nil 9) (y29) (aF.nil 3) (aF.nil 9) (aF.nil 11) rfl rfl)
 by_cases k3:(nth v 0).n=3
 .simp only[k3,if_true,show ¬(3:Int)=1 by decide,show ¬(3:Int)=2 by decide,show ¬(3:Int)=4 by decide,if_false];exact(aHu v _ _ (nth v 0) _ (k3▸h0) h1 h2 (aHE v _ 3 _ hw2) yO).out (out (aF.nil 9) (aF.nil 5) (y29) (aF.nil 9) (aF.nil 11) rfl rfl)
 by_cases k4:(nth v 0).n=4
 .simp only[k4,if_true,show ¬(4:Int)=1 by decide,show ¬(4:Int)=2 by decide,show ¬(4:Int)=3 by decide,if_false];have g0:=aw5 hw 0;have g1:=aw5 hw 1;exact(aHv v _ _ _ _ (nth v 0) _ _ (k4▸h0) h1 h2 (aAx (CF hw) 0) (aAx (CF hw) 1) (aEQ g0) (aHF v _ _ 4 _ _ g1) yO).out (out (aF.nil 9) (aF.nil 5) (aF.nil 3) (y29) (y29) rfl rfl)
 .simp only[yK k1,yK k2,yK k3,yK k4];exact(aHw v _ _ _ (nth v 0) k1 k2 k3 k4 h0 h1 h2 yO).out (out (aF.nil 9) (aF.nil 5) (aF.nil 3) (aF.nil 9) (aF.nil 11) rfl rfl)
section
variable (b:List UInt8) (v s f:CV) (sn:List D)
theorem aHG(h:Sh 2 s):Rq 0 24 0 (aAX b v s) (.exit 0) (aCM b v s (bB (s.l.map dtR)) []) :=
 az0 (n:=4) (b:=2) (j:=0) (V:=dtR) (E:=bH.aQ) (S:=aDT b v s) (fun x=>[x,aK]) (fun x=>[zDc,aKp v,.box [x,aK],aKp s]) (by have:=h.1;omega) (fun _=>rfl) (fun _ _=>rfl) (fun _=>rfl) (fun _ _ _=>rfl) (fun _=>rfl) (fun _ _=>⟨_,rfl,yO⟩)
  (fun h0=>aFv b v s h0 yO) (fun g xs k hk=>aHx b v s g xs k hk yO)
  (fun x hk hx ex s' nx=>have hm:=CF (h.2 x (mem_of_getElem? hx));aFw b v s x _ _ hk hx (aCO hm) (by have:=h.1;omega) ex s' nx)
  (fun g xs k x hk hx hc ex s' nx=>have hm:=CF (h.2 x (mem_of_getElem? hx));aHy b v s x _ _ g xs k hk hx (aCO hm) (by have:=h.1;omega) hc ex s' (by unfold aDT at nx;rw[map_append,yD]at nx;exact nx))
theorem aHH(h:Sh 5 f):Rq 0 24 1 (aAY b v s f sn) (.exit 2) (aCN b v s f sn (Md (f.l.map fdR)) []) :=
 az0 (n:=5) (b:=2) (j:=1) (V:=fdR) (E:=jB) (S:=aDU b v s f sn) (fun x=>[bB sn,x]) (fun x=>[zDc,aKp v,.box [bB sn,x],aKp s,aKp f]) (by have:=h.1;omega) (fun _=>rfl) (fun _ _=>rfl) (fun _=>rfl) (fun _ _ _=>rfl) (fun _=>rfl) (fun _ _=>⟨_,rfl,yO⟩)
  (fun h0=>aFx b v s f sn h0 yO) (fun g xs k hk=>aHz b v s f sn g xs k hk yO)
  (fun x hk hx ex s' nx=>aFy b v s f x sn _ hk hx (aER (h.2 x (mem_of_getElem? hx))) (by have:=h.1;omega) ex s' nx)
  (fun g xs k x hk hx hc ex s' nx=>aHA b v s f x sn _ g xs k hk hx (aER (h.2 x (mem_of_getElem? hx))) (by have:=h.1;omega) hc ex s' (by unfold aDU at nx;rw[map_append,yD]at nx;exact nx))
end
end Go.Dc
namespace Go.Dc
open Go Go.Am Go.Proofs Go.eY Go.bH
open Go.Bd (BE)
open Go.Tx (MK)
variable {α:Type}
def eqS(E:α->List AV)(s:Nat)(a b:List α)(k:Nat):St:={ aL:=aC 26 [(0,slF E s a),(1,slF E s b),(4,Am.bool false),(11,slF E s a),(12,int a.length),(13,int k)],H:=[] }
abbrev eqX:St:={ aL:=aC 26 [(4,Am.bool false)],H:=[] }
abbrev EqQ(s F:Nat):Prop:=(s=3/\F=70)\/(s=5/\F=69)\/(s=11/\F=71)
structure EqW{α:Type}(E:α->List AV)(s F:Nat)(c:α->α->Bool):Prop where
 y:∀(a b:List α)(k:Nat)(x y:α),(k:Int)<a.length->a[k]?=some x->b[k]?=some y->c x y=true->∀(ex:bF)(s':St),Rq 0 F 0 (eqS E s a b (k+1)) ex s'->a.length<=1000000000->Rq 0 F 0 (eqS E s a b k) ex s'
 n:∀(a b:List α)(k:Nat)(x y:α),(k:Int)<a.length->a[k]?=some x->b[k]?=some y->c x y=false->Rq 0 F 0 (eqS E s a b k) .ret eqX
 i:∀x y,c x y=true↔x=y
abbrev eqI(E:α->List AV)(a b:List α)(k:Nat)(x y:α)(hk:(k:Int)<a.length)(hx:a[k]?=some x)(hy:b[k]?=some y):List fP:=[ki ((k:Int)<a.length),ko (bC.elem (E x)),ko (bC.elem (E y)),kp (show(0:Int)<=(k:Int)/\(List.map E a)[Int.toNat (k:Int)]?=some (E x)from(bG hx)),kp (show(0:Int)<=(k:Int)/\(List.map E b)[Int.toNat (k:Int)]?=some (E y)from(bG hy))]
theorem azj:EqW ze 3 70 (fun x y:TL=>x.1==y.1&&(x.2.1==y.2.1&&x.2.2==y.2.2)) where
 y a b k x y hk hx hy hc _ _ h ha:=aJ (eqI ze a b k x y hk hx hy++[kf (y27 hc),kW 25 (k+1) ↑(k+1)]) (aB 26 [0,1,4,11,12,13]) 0 h
 n a b k x y hk hx hy hc:=aG (eqI ze a b k x y hk hx hy++[kt (y27 hc)]) (aB 26 [4]) 0
 i x y:=by cases x;cases y;simp[Sq.tN,bV.bool_beq,Prod.ext_iff]
theorem azk:EqW Bd.aQ 5 69 (fun x y:BE=>x.ky==y.ky&&(x.dv==y.dv&&(x.sq==y.sq&&(x.tm==y.tm&&x.vl==y.vl)))) where
 y a b k x y hk hx hy hc _ _ h ha:=aJ (eqI Bd.aQ a b k x y hk hx hy++[kf (y27 hc),kW 25 (k+1) ↑(k+1)]) (aB 26 [0,1,4,11,12,13]) 0 h
 n a b k x y hk hx hy hc:=aG (eqI Bd.aQ a b k x y hk hx hy++[kt (y27 hc)]) (aB 26 [4]) 0
 i x y:=by cases x;cases y;simp[Sq.tN,bV.bool_beq]
theorem azl:EqW Tx.aQ 11 71 (fun x y:MK=>x.dv==y.dv&&(x.sq==y.sq&&(x.tm==y.tm&&(x.fd==y.fd&&(x.fs==y.fs&&(x.fa==y.fa&&(x.td==y.td&&(x.ts==y.ts&&(x.ta==y.ta&&(x.st==y.st&&x.on==y.on)))))))))) where
 y a b k x y hk hx hy hc _ _ h ha:=aJ (eqI Tx.aQ a b k x y hk hx hy++[kf (y27 hc),kW 25 (k+1) ↑(k+1)]) (aB 26 [0,1,4,11,12,13]) 0 h
 n a b k x y hk hx hy hc:=aG (eqI Tx.aQ a b k x y hk hx hy++[kt (y27 hc)]) (aB 26 [4]) 0
 i x y:=by cases x;cases y;simp[Sq.tN,bV.bool_beq]
section
variable {α:Type} {E:α->List AV} {s F:Nat} {c:α->α->Bool} (q:EqQ s F) (w:EqW E s F c)
include q
theorem ayG(a b:List α)(k:Nat)(hk:¬(k:Int)<a.length):Rq 0 F 0 (eqS E s a b k) (.exit 0) eqX:=by
 rcases q with⟨rfl,rfl⟩|⟨rfl,rfl⟩|⟨rfl,rfl⟩<;>exact aG [kj ((k:Int)<a.length)] (aB 26 [4]) 0
theorem ayH(a b:List α)(hl:a.length=b.length)(ex:bF)(o:Bool)(hL:Rq 0 F 0 (eqS E s a b 0) ex eqX)(h:(ex = .exit 0/\o=true)\/(ex = .ret/\o=false)):Cq F [slF E s a,slF E s b] (Am.bool o):=by
 rcases h with⟨rfl,rfl⟩|⟨rfl,rfl⟩<;>rcases q with⟨rfl,rfl⟩|⟨rfl,rfl⟩|⟨rfl,rfl⟩<;>exact aj [kN 7 (show(a.map E).length=a.length from y10 E),kN 9 (show(b.map E).length=b.length from y10 E),kf (show((a.length:Int)!=(b.length:Int))=false from y27 (qT zO)),kN 12 (show(a.map E).length=a.length from y10 E),kl (rG [(2,2),(5,6),(14,12)]) 0 hL]
theorem ayI(a b:List α)(hl:¬a.length=b.length):Cq F [slF E s a,slF E s b] (Am.bool false):=by
 rcases q with⟨rfl,rfl⟩|⟨rfl,rfl⟩|⟨rfl,rfl⟩<;>exact aj [kN 7 (show(a.map E).length=a.length from y10 E),kN 9 (show(b.map E).length=b.length from y10 E),kt (show((a.length:Int)!=(b.length:Int))=true from y27 (qF zO))]
include w
theorem ayJ[DecidableEq α](a b:List α)(ha:a.length<=1000000000)(hl:a.length=b.length):∀n k,a.length-k=n->k<=a.length->Rq 0 F 0 (eqS E s a b k) (if a.drop k=b.drop k then .exit 0 else .ret) eqX:=by
 intro n
 induction n with
 |zero =>
  intro k hn hk;rw[yL (by rw[y17 zO,y17 zO])];exact ayG q a b k zO
 |succ n ih =>
  intro k hn hk;have h1:k<a.length:=zO
  have h2:k<b.length:=zO
  have hx:=yA h1;have hy:=yA h2;have e:(a.drop k=b.drop k)=(a[k]=b[k]/\a.drop (k+1)=b.drop (k+1)):=by
   rw[y01 h1,y01 h2,List.cons.injEq]
  by_cases he:a[k]=b[k]
  .have nx:=ih (k+1) zO zO;simp only[e,he,true_and];exact w.y a b k _ _ zO hx hy ((w.i _ _).2 he) _ _ nx ha
  .rw [yK (by rw[e];exact fun h=>he h.1)];exact w.n a b k _ _ zO hx hy (Bool.eq_false_iff.2 fun h=>he ((w.i _ _).1 h))
theorem aw7[DecidableEq α](a b:List α)(ha:a.length<=1000000000):Cq F [slF E s a,slF E s b] (Am.bool (decide (a=b))):=by
 by_cases hl:a.length=b.length
 .have h:=ayJ q w a b ha hl _ 0 rfl yN;rw[drop_zero,drop_zero]at h;refine ayH q a b hl _ _ h ?_;by_cases e:a=b
  .rw [yL e];exact .inl ⟨rfl,y15 e⟩
  .rw [yK e];exact .inr ⟨rfl,y16 e⟩
 .rw [y16 fun e=>hl (by rw[e])];exact ayI q a b hl
end
theorem ayK(a b:List TL)(ha:a.length<=1000000000):Cq 70 [mF a,mF b] (Am.bool (decide (a=b))):=aw7 zD azj a b ha
theorem ayL(a b:List BE)(ha:a.length<=1000000000):Cq 69 [Bd.iK a,Bd.iK b] (Am.bool (decide (a=b))):=aw7 zD azk a b ha
theorem ayM(a b:List MK)(ha:a.length<=1000000000):Cq 71 [Tx.oI a,Tx.oI b] (Am.bool (decide (a=b))):=aw7 zD azl a b ha
theorem ayN(f g:FD)(b1 b2 b3 b4 b5:Bool)(h1:Cq 68 [Sq.bZ f.ce,Sq.bZ g.ce] (Am.bool b1))(h2:Cq 69 [Bd.iK f.bi,Bd.iK g.bi] (Am.bool b2))(h3:Cq 70 [mF f.ta,mF g.ta] (Am.bool b3))(h4:Cq 68 [Sq.bZ f.tc,Sq.bZ g.tc] (Am.bool b4))(h5:Cq 71 [Tx.oI f.tm,Tx.oI g.tm] (Am.bool b5))(o:Bool)(h:((((f.pk==g.pk&&f.pn==g.pn)=true)->((((b1)=true)->((((b2)=true)->((((b3)=true)->((((b4)=true)->(b5)=(o))/\(((b4)=false)->(false)=(o))))/\(((b3)=false)->(false)=(o))))/\(((b2)=false)->(false)=(o))))/\(((b1)=false)->(false)=(o))))/\(((f.pk==g.pk&&f.pn==g.pn)=false)->(false)=(o)))):Cq 67 [.agg (jB f),.agg (jB g)] (Am.bool o):=by
 rcases y00 ((f.pk==g.pk&&f.pn==g.pn))with c1|c1
 .have h:=h.1 c1;rcases y00 ((b1))with c2|c2
  .have h:=h.1 c2;let l1:List fP:=[kt c1,kc [] h1,kt c2,kc [] h2];rcases y00 ((b2))with c3|c3
   .have h:=h.1 c3;rcases y00 ((b3))with c4|c4
    .have h:=h.1 c4;rcases y00 ((b4))with c5|c5
     .have h:=h.1 c5;exact aA (aF.aI h) (l1++[kt c3,kc [] h3,kt c4,kc [] h4,kt c5,kc [] h5])
     .have h:=h.2 c5;exact aA (aF.aI h) (l1++[kt c3,kc [] h3,kt c4,kc [] h4,kf c5])
    .have h:=h.2 c4;exact aA (aF.aI h) (l1++[kt c3,kc [] h3,kf c4,kY])
   .have h:=h.2 c3;exact aA (aF.aI h) (l1++[kf c3,kY,kY])
  .have h:=h.2 c2;exact aA (aF.aI h) [kt c1,kc [] h1,kf c2,kY,kY,kY]
 .have h:=h.2 c1;exact aA (aF.aI h) [kf c1,kY,kY,kY,kY]
def seS(a b:List FD)(k:Nat):St:={ aL:=aC 32 [(0,Md a),(1,Md b),(2,gP 67),(6,Am.bool false),(15,Md a),(16,int a.length),(17,int k)],H:=[] }
abbrev seX:St:={ aL:=aC 32 [(6,Am.bool false)],H:=[] }
theorem azm(a b:List FD)(k:Nat)(x y:FD)(ha:a.length<=1000000000)(hk:(k:Int)<(a.length:Int))(hx:a[k]?=some x)(hy:b[k]?=some y)(hF:Cq 67 [.agg (jB x),.agg (jB y)] (Am.bool true))(ex:bF)(s':St)(h:Rq 0 66 0 (sM 32 [(0,.sl 7 false (dA a)),(1,.sl 7 false (dA b)),(2,iL 67),(6,Am.bool false),(15,.sl 7 false (dA a)),(16,int ↑a.length),(17,int ↑(k+1))] []) ex s'):Rq 0 66 0 (seS a b k) ex s':=by
 exact aJ [ki ((k:Int)<a.length),ko (bC.elem (jB x)),ko (bC.elem (jB y)),kp (show(0:Int)<=(k:Int)/\(dA a)[Int.toNat (k:Int)]?=some (jB x)from(bG hx)),kp (show(0:Int)<=(k:Int)/\(dA b)[Int.toNat (k:Int)]?=some (jB y)from(bG hy)),kc [] hF,kY,kW 31 (k+1) ↑(k+1)] (aB 32 [0,1,2,6,15,16,17]) 0 h
theorem azn(a b:List FD)(k:Nat)(x y:FD)(ha:a.length<=1000000000)(hk:(k:Int)<(a.length:Int))(hx:a[k]?=some x)(hy:b[k]?=some y)(hF:Cq 67 [.agg (jB x),.agg (jB y)] (Am.bool false))(h:True):Rq 0 66 0 (seS a b k) bF.ret seX:=by
 have _:=h;exact aG [ki ((k:Int)<a.length),ko (bC.elem (jB x)),ko (bC.elem (jB y)),kp (show(0:Int)<=(k:Int)/\(dA a)[Int.toNat (k:Int)]?=some (jB x)from(bG hx)),kp (show(0:Int)<=(k:Int)/\(dA b)[Int.toNat (k:Int)]?=some (jB y)from(bG hy)),kc [] hF,kO] (aB 32 [6]) 0
theorem azo(a b:List FD)(k:Nat)(hk:¬(k:Int)<(a.length:Int))(h:True):Rq 0 66 0 (seS a b k) (bF.exit 0) seX:=by
 have _:=h;exact aG [kj ((k:Int)<a.length)] (aB 32 [6]) 0
theorem azp(a b:List FD)(hl:a.length=b.length)(hL:Rq 0 66 0 (seS a b 0) (.exit 0) seX)(h:True):Cq 66 [Md a,Md b,gP 67] (Am.bool true):=by
 have bS:=lU (fE a);have _:=h;exact aj [kv 11 bS,kN 13 (fE b),kf (show((a.length:Int)!=(b.length:Int))=false from(y27 (qT zO))),kv 16 bS,kl (rG [(3,3),(7,8),(18,14)]) 0 hL]
theorem azq(a b:List FD)(hl:a.length=b.length)(hL:Rq 0 66 0 (seS a b 0) .ret seX)(h:True):Cq 66 [Md a,Md b,gP 67] (Am.bool false):=by
 have bS:=lU (fE a);have _:=h;exact aj [kv 11 bS,kN 13 (fE b),kf (show((a.length:Int)!=(b.length:Int))=false from(y27 (qT zO))),kv 16 bS,kl (rG [(3,3),(7,8),(18,14)]) 0 hL]
theorem azr(a b:List FD)(hl:¬a.length=b.length)(h:True):Cq 66 [Md a,Md b,gP 67] (Am.bool false):=by
 have _:=h;exact aj [kN 11 (fE a),kN 13 (fE b),kt (show((a.length:Int)!=(b.length:Int))=true from(y27 (qF zO)))]
theorem azs(a b:DO)(o:Bool)(h1:Cq 65 [bB a.sn,bB b.sn] (Am.bool true))(h2:Cq 66 [Md a.fs,Md b.fs,gP 67] (Am.bool o))(h:True):Cq 19 [kI a,kI b] (Am.bool o):=by
 have _:=h;exact aj [kc [] h1,kO,kc [] h2]
theorem azt(a b:DO)(h1:Cq 65 [bB a.sn,bB b.sn] (Am.bool false))(h:True):Cq 19 [kI a,kI b] (Am.bool false):=by
 have _:=h;exact aj [kc [] h1,kY]
end Go.Dc
namespace Go.Dc
open Go Go.Am Go.Proofs Go.eY Go.bH
theorem ayO(f g:FD)(hf:XW f)(hg:XW g):ak P G 67 [.agg (jB f),.agg (jB g)] [] (.ret (Am.bool (decide (f=g)))) []:=by
 have l1:=hf.ce;have l2:=hg.ce;have l3:=hf.tc;have l4:=hg.tc;have e:decide (f=g)=((f.pk==g.pk&&f.pn==g.pn)&&(decide (f.ce=g.ce)&&(decide (f.bi=g.bi)&&(decide (f.ta=g.ta)&&(decide (f.tc=g.tc)&&decide (f.tm=g.tm)))))):=by
  cases f;cases g;rw[Bool.eq_iff_iff];simp[FD.mk.injEq,Sq.tN];grind
 refine ayN f g _ _ _ _ _ (Sq.up (Sq.ais f.ce g.ce zO zO)) (ayL f.bi g.bi (by have:=hf.bi;omega)) (ayK f.ta g.ta (by have:=hf.ta;omega)) (Sq.up (Sq.ais f.tc g.tc zO zO)) (ayM f.tm g.tm (by have:=hf.tm;omega)) _ ?_;rw[e];refine⟨fun a=>?_,fun a=>by rw[a];rfl⟩;rw[a,Bool.true_and];refine⟨fun b=>?_,fun b=>by rw[b];rfl⟩;rw[b,Bool.true_and];refine⟨fun b=>?_,fun b=>by rw[b];rfl⟩;rw[b,Bool.true_and];refine⟨fun b=>?_,fun b=>by rw[b];rfl⟩;rw[b,Bool.true_and];exact⟨fun b=>by rw[b];rfl,fun b=>by rw[b];rfl⟩
theorem azu(a b:List FD)(ha:a.length<=1000000000)(hl:a.length=b.length)(fa:∀f∈a,XW f)(fb:∀f∈b,XW f):∀n k,a.length-k=n->k<=a.length->bN P G none 0 (vg P 66 0) (seS a b k) (if a.drop k=b.drop k then .exit 0 else .ret) seX:=by
 intro n
 induction n with
 |zero =>
  intro k hn hk;rw[yL (by rw[y17 zO,y17 zO])];exact azo a b k zO trivial
 |succ n ih =>
  intro k hn hk;have h1:k<a.length:=zO
  have h2:k<b.length:=zO
  have hx:=yA h1;have hy:=yA h2;have e:(a.drop k=b.drop k)=(a[k]=b[k]/\a.drop (k+1)=b.drop (k+1)):=by
   rw[y01 h1,y01 h2,List.cons.injEq]
  have hc:=ayO a[k] b[k] (fa _ (y03 h1)) (fb _ (y03 h2));by_cases he:a[k]=b[k]
  .have nx:=ih (k+1) zO zO;rw[y15 he]at hc;simp only[e,he,true_and];exact azm a b k _ _ ha zO hx hy hc _ _ nx
  .rw [y16 he]at hc;rw[yK (by rw[e];exact fun h=>he h.1)];exact azn a b k _ _ ha zO hx hy hc trivial
theorem av3(a b:DO)(ha:Dim a)(hb:Dim b):ak P G 19 [kI a,kI b] [] (.ret (Am.bool (decide (a=b)))) []:=by
 have hs:=bV.aqj a.sn b.sn (by have:=ha.sn;omega);have e:(a=b)=(a.sn=b.sn/\a.fs=b.fs):=by
  cases a;cases b;rw[DO.mk.injEq]
 by_cases h:a.sn=b.sn
 .rw [y15 h]at hs;refine azs a b _ hs ?_ trivial;simp only[e,h,true_and];have l:=ha.fs;by_cases hl:a.fs.length=b.fs.length
  .have h9:=azu a.fs b.fs zO hl ha.len hb.len _ 0 rfl yN;rw[drop_zero,drop_zero]at h9;by_cases q:a.fs=b.fs
   .rw [yL q]at h9;rw[y15 q];exact azp _ _ hl h9 trivial
   .rw [yK q]at h9;rw[y16 q];exact azq _ _ hl h9 trivial
  .rw [y16 fun q=>hl (by rw[q])];exact azr _ _ hl trivial
 .rw [y16 h]at hs;rw[y16 (by rw[e];exact fun q=>h q.1)];exact azt a b hs trivial
open Go.bV (OP op jy Sv Fw Okn)
open Go.yU (CV rR Cy val QG av7 jg)
theorem PD{f}{x y}{out}(h:ak P G f [y] [] out [])(hs:aF x y):ak P G f [x] [] out []:=ak.qp h  ⟨hs,yO⟩
theorem I9{f}{x y x' y'}{out}(h:ak P G f [x',y'] [] out [])(h1:aF x x')(h2:aF y y'):ak P G f [x,y] [] out []:=ak.qp h  ⟨h1,h2,yO⟩
theorem at7:aF Rf (kI ⟨[],[]⟩):=aF.qo ⟨aF.nil 2,aF.nil 7,yO⟩
theorem lVS:aF (.agg azL) (val (lsV [])):=aF.qo ⟨y29,y29,y29,aF.nil 4,yO⟩
abbrev z0:DO:=⟨[],[]⟩
abbrev b0:DO:=⟨[(-1,0)],[]⟩
theorem i64(n:Int)(h:(decide (-9223372036854775808<=n)&&decide (n<9223372036854775808))=true):Sv n:=by
 simp only[y04,y05]at h;exact h
theorem aw8:Fw iOc:=⟨i64 _ rfl,i64 _ rfl,i64 _ rfl,(fun _ h=>by cases h),i64 _ rfl,i64 _ rfl,i64 _ rfl,i64 _ rfl,i64 _ rfl,i64 _ rfl,i64 _ rfl,i64 _ rfl,i64 _ rfl⟩
theorem aw9:Fw erO:=⟨i64 _ rfl,i64 _ rfl,i64 _ rfl,(fun x h=>by rw[mem_singleton.1 h];exact⟨i64 _ rfl,i64 _ rfl⟩),i64 _ rfl,i64 _ rfl,i64 _ rfl,i64 _ rfl,i64 _ rfl,i64 _ rfl,i64 _ rfl,i64 _ rfl,i64 _ rfl⟩
theorem axa:Fw zoO:=⟨i64 _ rfl,i64 _ rfl,i64 _ rfl,(fun _ h=>by cases h),i64 _ rfl,i64 _ rfl,i64 _ rfl,i64 _ rfl,i64 _ rfl,i64 _ rfl,i64 _ rfl,i64 _ rfl,i64 _ rfl⟩
theorem axW{o:OP}(h:Fw o)(hc:o.cx.length<=1):Okn o:=⟨zO,h.kd,h.f3⟩
theorem erS:aF (.agg erL) (op erO):=aF.qo ⟨y29,y29,y29,aF.oP 2 true _,y29,y29,y29,y29,y29,y29,y29,y29,y29,y29,y29,y29,y29,yO⟩
theorem zoS:aF (.agg zoL) (op zoO):=aF.qo ⟨y29,y29,y29,aF.nil 2,y29,y29,y29,y29,y29,y29,y29,y29,y29,y29,y29,y29,y29,yO⟩
theorem baS:aF baL (kI b0):=aF.qo ⟨aF.oP 2 true _,aF.nil 7,yO⟩
theorem ayQ:EF z0 iOc=0:=zQ
abbrev e0V:CV:=lsV [lsV [],lsV []]
theorem ayS:QG e0V:=by
 have h:QG (lsV []):=.mk _ _ _ _ (i64 _ rfl) yN yN (fun _ h=>by cases h);refine .mk _ _ _ _ (i64 _ rfl) yN zD fun v hv=>?_;rcases yH.1 hv with rfl|hv
 .exact h
 .rw [mem_singleton.1 hv];exact h
theorem e0S:aF (.agg [int 3,int 0,str .empty,.sl 4 true [[int 3,int 0,str .empty,aK],[int 3,int 0,str .empty,aK]]]) (val e0V) :=
 aF.qo ⟨y29,y29,y29,aF.anK rfl (fun y hy=>by rcases yH.1 hy with rfl|hy;rfl;rw[mem_singleton.1 hy];rfl) (fun k j hk hj=>by
  match k,hk,j,hj with
  |0,_,0,_|0,_,1,_|0,_,2,_|1,_,0,_|1,_,1,_|1,_,2,_=>exact xP.refl _
  |0,_,3,_|1,_,3,_=>exact xP.nil 4),yO⟩
end Go.Dc
namespace Go.Dc
open Go Go.Am Go.Proofs Go.eY Go.bH
open Go.yU (CV rR val Cy jl iB fA gT aaw adl)
theorem aHI(d:DO)(ha:avT d):ak P G 11 [kI d,aK] [] (.ret (Am.bool (smD d))) []:=by
 have h:=ayV d true [] ha zS (fun _ h=>by cases h);exact I9 h (y29) (aF.aed 17)
variable {d:DO}
theorem aES(h:smD d=true):(d.sn.length<=500000/\d.fs.length<=500000)/\∀f∈d.fs,f.ce.length<=500000/\f.bi.length<=500000/\f.ta.length<=500000/\f.tc.length<=500000/\f.tm.length<=500000:=by
 unfold smD smF at h;simp only[y04,y05,all_eq_true]at h;refine⟨zO,fun f hf=>?_⟩;obtain⟨⟨⟨a,b⟩,c⟩,e⟩:=h.1 f hf;unfold Bd.avy at b;simp only[y04,y05]at b;omega
def enX(d:DO):List UInt8:=if F9 d=0 then gT (awo d)else[]
theorem aFz(ha:avT d)(hs:smD d=true):ak P G 21 [kI d] [] (.ret (.bq [Cy (enX d),int (F9 d)])) []:=by
 have k:=aES hs;have h:=aCE ha ((ayj ha hs).dim zO).1 k.1 k.2 (aBC hs);unfold enX;by_cases e:F9 d=0
 .rw [yL e]at h |-;rw[e];exact h
 .rw [yK e]at h |-;have e2:F9 d=180:=by unfold F9 at e |-;split;(rename_i q;rw[yL q]at e;exact absurd rfl e);rfl
  rw[e2];exact h.out (aF.U1 (aF.nil 1) (y29))
theorem aCS(x c:List UInt8):(ByteArray.toList (ByteArray.mk (toArray x))==ByteArray.toList (ByteArray.mk (toArray c)))=decide (x=c):=by
 rw[yU.rC];simp
end Go.Dc
namespace Go.Dc
open Go Go.Am Go.Proofs Go.eY Go.bH
theorem aHJ(d s:Int)(b:Bool)(h:(((d>=0)->(((d<512)->(((s>=1)->(decide (s<=1048576))=(b))/\((¬s>=1)->(false)=(b))))/\((¬d<512)->(false)=(b))))/\((¬d>=0)->(false)=(b)))):Cq 227 [int d,int s] (Am.bool b):=by
 by_cases c1:(d>=0)
 .have h:=h.1 c1;by_cases c2:(d<512)
  .have h:=h.1 c2;by_cases c3:(s>=1)
   .have h:=h.1 c3;exact aA (aF.aI h) [kt (qT c1),kt (qT c2),kt (qT c3)]
   .have h:=h.2 c3;exact aA (aF.aI h) [kt (qT c1),kt (qT c2),kf (qF c3)]
  .have h:=h.2 c2;exact aA (aF.aI h) [kt (qT c1),kf (qF c2),kY]
 .have h:=h.2 c1;exact aA (aF.aI h) [kf (qF c1),kY,kY]
def qtS(l:List TL)(k:Nat):St:={ aL:=aC 40 [(0,mF l),(2,int 0),(3,int k)],H:=[] }
theorem aHK(l:List TL)(k:Nat)(hk:¬(k:Int)<(l.length:Int))(h:True):Rq 0 170 0 (qtS l k) (bF.exit 0) (sM 40 [(0,mF l),(2,int 0)] []):=by
 have _:=h;exact aG [kN 6 (dP l),kj ((k:Int)<l.length)] (aB 40 [0,2]) 0
theorem aHL(l:List TL)(k:Nat)(x:TL)(hl:l.length<=1000000)(hk:(k:Int)<(l.length:Int))(hx:l[k]?=some x)(hD:Cq 227 [int x.1,int x.2.1] (Am.bool false))(h:True):Rq 0 170 0 (qtS l k) bF.ret (sM 40 [(0,mF l),(2,int 150)] []):=by
 have jw:(0:Int)<=(k:Int)/\(lH l)[Int.toNat (k:Int)]?=some (ze x):=(bG hx);have _:=h;exact aG [kN 6 (dP l),ki ((k:Int)<l.length),ko (bC.elem (ze x)),ko (bC.elem (ze x)),kp jw,kp jw,kc [] hD,kO,kO] (aB 40 [0,2]) 0
theorem aJM(l:List TL)(x:TL)(hl:l.length<=1000000)(hk:(0:Int)<(l.length:Int))(hx:l[0]?=some x)(hD:Cq 227 [int x.1,int x.2.1] (Am.bool true))(ex:bF)(s':St)(h:Rq 0 170 0 (sM 40 [(0,.sl 3 false (lH l)),(2,int 0),(3,int 1)] []) ex s'):Rq 0 170 0 (qtS l 0) ex s':=by
 have jw:(0:Int)<=(0:Int)/\(lH l)[Int.toNat (0:Int)]?=some (ze x):=(bG hx);exact aJ [kN 6 (dP l),ki ((0:Int)<l.length),ko (bC.elem (ze x)),ko (bC.elem (ze x)),kp jw,kp jw,kc [] hD,kY,kY,kY] (aB 40 [0,2,3]) 0 h
theorem aJN(l:List TL)(k:Nat)(x y:TL)(hl:l.length<=1000000)(hk:((k+1:Nat):Int)<(l.length:Int))(hx:l[k+1]?=some x)(hy:l[k]?=some y)(hD:Cq 227 [int x.1,int x.2.1] (Am.bool true))(ex:bF)(s':St)(h:(∃x3:TL,((0:Int)<=(↑(k+1):Int)-1/\l[Int.toNat ((↑(k+1):Int)-1)]?=some x3)/\(((x3.1>=x.1)->(bF.ret=ex)/\(sM 40 [(0,.sl 3 false (lH l)),(2,int 150)] []=s'))/\((¬x3.1>=x.1)->Rq 0 170 0 (sM 40 [(0,.sl 3 false (lH l)),(2,int 0),(3,int ↑(k+1+1))] []) ex s')))):Rq 0 170 0 (qtS l (k+1)) ex s':=by
 have jw:(0:Int)<=(↑(k+1):Int)/\(lH l)[Int.toNat (↑(k+1):Int)]?=some (ze x):=(bG hx);obtain⟨x3,o4,h⟩:=h;let l1:List fP:=[kN 6 (dP l),ki ((↑(k+1):Int)<(l.length:Int)),ko (bC.elem (ze x)),ko (bC.elem (ze x)),kp jw,kp jw,kc [] hD,kY,ki ((↑(k+1):Int)>0),kW 28 ((↑(k+1):Int)-1) ((↑(k+1):Int)-1),ko (bC.elem (ze x3)),ko (bC.elem (ze x)),kp (show(0:Int)<=(↑(k+1):Int)-1/\(lH l)[Int.toNat ((↑(k+1):Int)-1)]?=some (ze x3)from(qU o4)),kp jw];by_cases c5:(x3.1>=x.1)
 .have h:=h.1 c5;obtain⟨eX,eS⟩:=h;exact bN.to ((show Rq 0 170 0 (qtS l (k+1)) bF.ret (sM 40 [(0,.sl 3 false (lH l)),(2,int 150)] [])from aG (l1++[kt (qT c5)]) (aB 40 [0,2]) 0)) eX (eB.of_eq eS)
 .have h:=h.2 c5;exact aJ (l1++[kf (qF c5),kW 9 ((↑(k+1):Int)+1) (↑(k+1+1):Int)]) (aB 40 [0,2,3]) 0 h
theorem aJO(l:List TL)(hL:Rq 0 170 0 (qtS l 0) (.exit 0) { aL:=aC 40 [(0,mF l),(2,int 0)],H:=[] })(h:True):Cq 170 [mF l] (int 0):=by
 have _:=h;exact aj [kl (rG [(1,1),(4,36)]) 0 hL]
theorem aJP(l:List TL)(hL:Rq 0 170 0 (qtS l 0) .ret { aL:=aC 40 [(0,mF l),(2,int 150)],H:=[] })(h:True):Cq 170 [mF l] (int 150):=by
 have _:=h;exact aj [kl (rG [(1,1),(4,36)]) 0 hL]
theorem aCT(a b c:Int)(h:True):Cq 252 [.agg [int a,int b,int c]] (eG (a,b)):=by
 have _:=h;exact aj []
def qcS(l:List Sq.CE)(v:List D)(k:Nat):St:={ aL:=aC 21 [(0,Sq.bZ l),(1,bB v),(4,Am.bool false),(5,int k)],H:=[] }
def qcX(l:List Sq.CE)(v:List D):St:={ aL:=aC 21 [(0,Sq.bZ l),(1,bB v),(4,Am.bool false)],H:=[] }
theorem aJQ(l:List Sq.CE)(v:List D)(k:Nat)(hk:¬(k:Int)<(l.length:Int))(h:True):Rq 0 168 0 (qcS l v k) (bF.exit 0) (qcX l v):=by
 have _:=h;exact aG [kv 8 (show Am.aF (int (↑(length (Sq.au l)):Int)) (int ↑l.length)from(aF.of_eq (by simp only[Go.Sq.ay]))),kj ((k:Int)<l.length)] (aB 21 [0,1,4]) 0
theorem aJR(l:List Sq.CE)(v:List D)(k:Nat)(x:Sq.CE)(hl:l.length<=1000000)(hk:(k:Int)<(l.length:Int))(hx:l[k]?=some x)(hd:Cq 252 [.agg [int x.dv,int x.sq,int x.gU]] (eG (x.dv,x.sq)))(hC:Cq 48 [bB v,eG (x.dv,x.sq)] (Am.bool true))(ex:bF)(s':St)(h:Rq 0 168 0 (sM 21 [(0,.sl 9 false (Sq.au l)),(1,bB v),(4,Am.bool false),(5,int ↑(k+1))] []) ex s'):Rq 0 168 0 (qcS l v k) ex s':=by
 exact aJ [kv 8 (show Am.aF (int (↑(length (Sq.au l)):Int)) (int ↑l.length)from(aF.of_eq (by simp only[Go.Sq.ay]))),ki ((k:Int)<l.length),ke (Sq.aQ x) (Sq.au l) k (bG hx),kc [] hd,kc [] hC,kY,kW 11 (k+1) ↑(k+1)] (aB 21 [0,1,4,5]) 0 h
theorem aJS(l:List Sq.CE)(v:List D)(k:Nat)(x:Sq.CE)(hl:l.length<=1000000)(hk:(k:Int)<(l.length:Int))(hx:l[k]?=some x)(hd:Cq 252 [.agg [int x.dv,int x.sq,int x.gU]] (eG (x.dv,x.sq)))(hC:Cq 48 [bB v,eG (x.dv,x.sq)] (Am.bool false))(h:True):Rq 0 168 0 (qcS l v k) bF.ret (qcX l v):=by
 have _:=h;exact aG [kv 8 (show Am.aF (int (↑(length (Sq.au l)):Int)) (int ↑l.length)from(aF.of_eq (by simp only[Go.Sq.ay]))),ki ((k:Int)<l.length),ke (Sq.aQ x) (Sq.au l) k (bG hx),kc [] hd,kc [] hC,kO] (aB 21 [0,1,4]) 0
theorem aJT(l:List Sq.CE)(v:List D)(hL:Rq 0 168 0 (qcS l v 0) (.exit 0) (qcX l v))(h:True):Cq 168 [Sq.bZ l,bB v] (Am.bool true):=by
 have _:=h;exact aj [kl (rG [(2,2),(6,15)]) 0 hL]
theorem aJU(l:List Sq.CE)(v:List D)(hL:Rq 0 168 0 (qcS l v 0) .ret (qcX l v))(h:True):Cq 168 [Sq.bZ l,bB v] (Am.bool false):=by
 have _:=h;exact aj [kl (rG [(2,2),(6,15)]) 0 hL]
theorem aJV(f:FD)(b:Bool)(h:((((↑(length f.tc):Int)=0)->((↑(length f.tm):Int)==0)=(b))/\((¬(↑(length f.tc):Int)=0)->(false)=(b)))):Cq 166 [.agg [Sq.bZ f.tc,Tx.oI f.tm]] (Am.bool b):=by
 have bS:Am.aF (int (↑(length (Sq.au f.tc)):Int)) (int ↑(length f.tc)):=(aF.of_eq (by simp only[Go.Sq.ay]));by_cases c1:((↑(length f.tc):Int)=0)
 .have h:=h.1 c1;exact aA (aF.aI h) [kv 5 bS,kt (nW.2 c1),kv 10 (show Am.aF (int (↑(length (Tx.au f.tm)):Int)) (int ↑(length f.tm))from(aF.of_eq (by simp only[Go.Tx.ay])))]
 .have h:=h.2 c1;exact aA (aF.aI h) [kv 5 bS,kf (qN.2 c1)]
theorem aJW(a b:Int)(s t:yP)(r:Bool)(h:(((a<b)->(true)=(r))/\((¬a<b)->(((a=b)->(Op.bytesLess (ByteArray.toList s) (ByteArray.toList t))=(r))/\((¬a=b)->(false)=(r)))))):Cq 51 [pt a s,pt b t] (Am.bool r):=by
 by_cases c1:(a<b)
 .have h:=h.1 c1;exact aA (aF.aI h) [kt (qT c1)]
 .have h:=h.2 c1;by_cases c2:(a=b)
  .have h:=h.1 c2;exact aA (aF.aI h) [kf (qF c1),kt (nW.2 c2)]
  .have h:=h.2 c2;exact aA (aF.aI h) [kf (qF c1),kf (qN.2 c2)]
def vaS(i:Nat)(f:FD)(v:List D)(k:Nat):St:={ aL:=aC 179 [(1,bB v),(2,.ptr 0 0),(4,Am.bool false),(i,int k)],H:=[.box (jB f)] }
def vaX(f:FD)(v:List D):St:={ aL:=aC 179 [(1,bB v),(2,.ptr 0 0),(4,Am.bool false)],H:=[.box (jB f)] }
end Go.Dc
