import Derived.Test.YtdacbkmlfcjcgaaGreatDoorY5
set_option maxRecDepth 100000
set_option linter.unusedSimpArgs false
set_option linter.unusedVariables false
open List
noncomputable section
namespace Go.Tx
open Go Go.Am Go.Proofs Go.eY
open Go.Sq (CE nP bZ oO vM fX U2 kQ jg)
def vC(t:TE):Int:=if jg t.cells≠0 then jg t.cells else if t.cells.all Ba=true then(if Cw t.cells t.bQ=true then 0 else 160)else 160
theorem fO.wf{n}(h:fO n):(Lit.int .i64 n).wf=true:=by
 unfold fO at h;simp[Lit.wf,IntKind.min,IntKind.signed,IntKind.bits];omega
theorem laid:laidOutB P=true:=zQ
theorem sz1:∃n,P.types.size=n+1:=by
 have h:1<=P.types.size:=Nat.le_of_ble_eq_true zQ;simp
theorem uG d{n}(h:fO n):P.keyLits (d+1) 3 [.int .i64 n]=some [.int .i64 n]:=by
 simp[Program.keyLits,h.wf]
theorem lD:Maps.Keyed P 27:=Maps.Keyed.of_law (deep_law_laid laid (m:=2) zD (Nat.le_of_ble_eq_true zQ) zQ zQ)
theorem uy{a b:Int}(ha:fO a)(hb:fO b):∃l,keyOf P 27 (fV a b)=some l:=by
 have h1:(P.keyType 27&&(fV a b).formed P 27)=true:=zQ
 have h2:P.keyLits (P.types.size+1) 27 (fV a b).cells.toList=([P.keyLits P.types.size 3 [.int .i64 a],P.keyLits P.types.size 3 [.int .i64 b]].mapM id).map flatten:=zQ
 obtain⟨n,hn⟩:=sz1;refine⟨.string (keyBytes [.int .i64 a,.int .i64 b]),?_⟩;unfold keyOf;rw[Tryz.underlying27];show(if(P.keyType 27&&(fV a b).formed P 27)=true then _ else none)=_;rw[yL h1,h2,hn,uG n ha,uG n hb];rfl
theorem nU{a b a' b'}(h:fV a b=fV a' b'):a=a'/\b=b':=by
 simp only[fV,Value.agg.injEq,Array.mk.injEq,List.cons.injEq,Value.int.injEq,true_and,and_true]at h;exact h
variable {v:List MK}
theorem sS(h:QY v):∀e∈fQ v,∃l,keyOf P 27 e.1=some l:=fun e he=>by
 obtain⟨x,hx,rfl⟩:=yG.1 he;exact uy (h x hx).dv (h x hx).sq
variable {x:MK}
theorem L6(h:QY v)(hx:OkM x)(hm:(v.any fun c=>decide (c.eG=x.eG))=true):bT P 27 (fQ v) (fV x.dv x.sq) (bool false) (bool true) true:=by
 obtain⟨y,hy,e⟩:=any_eq_true.1 hm;have e:=of_decide_eq_true e;refine⟨lD,uy hx.dv hx.sq,sS h,.inl ⟨rfl,yG.2 ⟨y,hy,?_⟩⟩⟩;simp only[MK.eG,Prod.mk.injEq]at e;rw[e.1,e.2]
theorem H8{v}(hm:(v.any fun c=>decide (c.eG=x.eG))=false):∀e∈fQ v,e.1≠fV x.dv x.sq:=fun e he hq=>by
 obtain⟨y,hy,rfl⟩:=yG.1 he;obtain⟨q1,q2⟩:=nU hq;have:=any_eq_false.1 hm y hy;rw[y05]at this;exact this (by rw[MK.eG,MK.eG,q1,q2])
theorem H9(h:QY v)(hx:OkM x)(hm:(v.any fun c=>decide (c.eG=x.eG))=false):bT P 27 (fQ v) (fV x.dv x.sq) (bool false) (bool false) false :=
 ⟨lD,uy hx.dv hx.sq,sS h,.inr ⟨rfl,rfl,H8 hm⟩⟩
theorem L8(h:QY v)(hx:OkM x)(hm:(v.any fun c=>decide (c.eG=x.eG))=false):jm P 27 (fQ v) (fV x.dv x.sq) (bool true) (fQ (v++[x])) :=
 ⟨lD,uy hx.dv hx.sq,sS h,.inr ⟨H8 hm,by simp[fQ]⟩⟩
theorem CY(v:List MK){i}(h:i<=v.length)(h0:(i:Int)>0):v[((i:Int)-1).toNat]?=some (v[i-1]'zO):=zS
theorem L9(l:List CE)(v:List MK)(hl:l.length<=1000000000)(hv:v.length<=1000000000)(hO:QY v):∀n k,v.length-k=n->k<=v.length->(y9 l v n k=true->Rq 0 163 0 (nX l v k (v.take k)) (.exit 0) ckO)/\(y9 l v n k=false->Rq 0 163 0 (nX l v k (v.take k)) .ret (U4 160)):=by
 intro n
 induction n with
 |zero=>intro k hn hk;exact⟨fun _=>afv l v k _ hv zO yO,fun h=>by cases h⟩
 |succ n ih =>
  intro k hn hk;have bg:k<v.length:=zO
  have hx:=yA bg;have e:y9 l v (n+1) k=(jh l v k&&y9 l v n (k+1)):=rfl;have QZ:QY (v.take k):=fun m hm=>hO m (mem_of_mem_take hm);have QO:=hO _ (y03 bg);rw[e];have ht:v.take (k+1)=v.take k++[v[k]]:=by rw[take_append_getElem]
  obtain⟨n1,n2⟩:=ih (k+1) zO zO;rw[ht]at n1 n2;cases hd:(v.take k).any fun c=>decide (c.eG=v[k].eG)with
  |true =>
   have e2:jh l v k=false:=by simp only[jh,hx,hd,Bool.not_true,Bool.and_false]
   rw[e2,Bool.false_and];exact⟨fun h=>by (cases h),fun _=>aft l v k _ _ hl hv zO hx (L6 QZ QO hd) (by first|trivial|grind)⟩
  |false =>
   have g:=H9 QZ QO hd;have p:=L8 QZ QO hd;cases hq:F8 l v[k]with
   |false =>
    have e2:jh l v k=false:=by simp only[jh,hx,hq,Bool.false_and]
    rw[e2,Bool.false_and];exact⟨fun h=>by (cases h),fun _=>afu l v k _ _ hl hv zO hx hq g (by first|trivial|grind)⟩
   |true =>
    by_cases h0:(k:Int)>0
    .have hy:=CY v hk h0;have hy':v[k-1]?=some (v[k-1]'zO):=yA zO;have U5:(k==0)=false:=by simp;omega
     cases hl':nD (v[k-1]'zO) v[k]with
     |false =>
      have e2:jh l v k=false:=by simp only[jh,hx,hy',hq,hl',U5,Bool.false_and,Bool.and_false,Bool.or_self]
      rw[e2,Bool.false_and];have hg:=(TB (v[k-1]'zO) v[k]).2 hl';exact⟨fun h=>by (cases h),fun _=>afw l v k _ _ hl hv zO hx hq h0 g p ⟨_,⟨zO,hy⟩,fun _=>trivial,fun h=>absurd hg h⟩⟩
     |true =>
      have e2:jh l v k=true:=by simp only[jh,hx,hy',hq,hl',hd,Bool.true_and,Bool.or_true,Bool.not_false,Bool.and_true]
      rw[e2,Bool.true_and];have hg:¬yc (v[k-1]'zO) v[k]>=0:=fun h=>by rw[(TB _ _).1 h]at hl';cases hl'
      exact⟨fun h=>LZ l v k _ _ hl hv zO hx hq g p _ _ ⟨fun _=>⟨_,⟨zO,hy⟩,fun h=>absurd h hg,fun _=>n1 h⟩,fun _=>n1 h⟩,fun h=>LZ l v k _ _ hl hv zO hx hq g p _ _ ⟨fun _=>⟨_,⟨zO,hy⟩,fun h=>absurd h hg,fun _=>n2 h⟩,fun _=>n2 h⟩⟩
    .have U5:(k==0)=true:=by simp;omega
     have e2:jh l v k=true:=by simp only[jh,hx,hq,U5,hd,Bool.true_and,Bool.true_or,Bool.not_false,Bool.and_true]
     rw[e2,Bool.true_and];exact⟨fun h=>LZ l v k _ _ hl hv zO hx hq g p _ _ ⟨fun h=>absurd h h0,fun _=>n1 h⟩,fun h=>LZ l v k _ _ hl hv zO hx hq g p _ _ ⟨fun h=>absurd h h0,fun _=>n2 h⟩⟩
theorem ab4(t:TE)(e:Int)(he:e≠0)(hc:Cq 155 [bZ t.cells] (int e))(h:True):Cq 163 [mG t] (int e):=by
 exact aj [kc [] hc,kt (y27 (qF zO))]
theorem ab5(t:TE)(hc:Cq 155 [bZ t.cells] (int 0))(hi:Cq 239 [bZ t.cells,.lit (.func (.func 247) #[] #[])] (bool true))(h:True):Cq 163 [mG t] (int 160):=by
 exact aj [kc [] hc,kY,kc [] hi,kO]
theorem Ma(t:TE)(hc:Cq 155 [bZ t.cells] (int 0))(hi:Cq 239 [bZ t.cells,.lit (.func (.func 247) #[] #[])] (bool false))(hL:Rq 0 163 0 (nX t.cells t.bQ 0 []) (.exit 0) ckO)(h:True):Cq 163 [mG t] (int 0):=by
 exact aj [kc [] hc,kY,kc [] hi,kY,kN 19 (ay t.bQ),kl (rG [(0,1),(2,2),(5,13),(21,34)]) 2 hL]
theorem Mc(t:TE)(hc:Cq 155 [bZ t.cells] (int 0))(hi:Cq 239 [bZ t.cells,.lit (.func (.func 247) #[] #[])] (bool false))(hL:Rq 0 163 0 (nX t.cells t.bQ 0 []) .ret (U4 160))(h:True):Cq 163 [mG t] (int 160):=by
 exact aj [kc [] hc,kY,kc [] hi,kY,kN 19 (ay t.bQ),kl (rG [(0,1),(2,2),(5,13),(21,34)]) 2 hL]
structure OkT(t:TE):Prop where
 cells:kQ t.cells
 bQ:QY t.bQ
structure X4(t:TE):Prop where
 cells:t.cells.length<=900000
 bQ:t.bQ.length<=900000
theorem fG(t:TE)(hl:X4 t)(hO:OkT t):Cq 163 [mG t] (int (vC t)):=by
 have hlc:=hl.cells;have hlm:=hl.bQ;have hc:=JZ (Sq.HZ t.cells zO hO.cells);have hi:=BL t.cells zO;unfold vC;by_cases h0:jg t.cells=0
 .rw [yK (by simpa using h0)];rw[h0]at hc;cases ha:t.cells.all Ba with
  |false =>
   rw[ha]at hi;rw[yK zD];exact ab5 t hc hi trivial
  |true =>
   rw[ha]at hi;rw[yL rfl];obtain⟨h1,h2⟩:=L9 t.cells t.bQ zO zO hO.bQ t.bQ.length 0 zO zO;rw[take_zero]at h1 h2;cases hb:Cw t.cells t.bQ with
   |true=>rw[yL rfl];exact Ma t hc hi (h1 hb) trivial
   |false=>rw[yK zD];exact Mc t hc hi (h2 hb) trivial
 .grind [ab4]
end Go.Tx
namespace Go.Dc
open Go Go.Am Go.Proofs Go.eY Go.bH
structure Q0(f:FD):Prop where
 ce:Sq.kQ f.ce
 tx:Tx.OkT ⟨f.tc,f.tm⟩
 lt:Tx.X4 ⟨f.tc,f.tm⟩
def U6(f:FD)(v:List D):Bool :=
 (if f.pk=1 then decide (Sq.jg f.ce=0)&&(f.ce.all fun x=>cZ v (dtc x))&&decide (f.bi.length+f.ta.length+f.tc.length+f.tm.length=0)
  else if f.pk=2 then decide (Bd.jg f.bi=0)&&(f.bi.all fun x=>cZ v (dtb x))&&decide (f.ce.length+f.ta.length+f.tc.length+f.tm.length=0)
  else if f.pk=3 then decide (vC f.ta=0)&&(f.ta.all fun x=>cZ v (dtt x))&&decide (f.ce.length+f.bi.length+f.tc.length+f.tm.length=0)
  else if f.pk=4 then decide (Tx.vC ⟨f.tc,f.tm⟩=0)&&(f.tc.all fun x=>cZ v (dtc x))&&(f.tm.all fun x=>cZ v (dtm x))&&decide (f.ce.length+f.bi.length+f.ta.length=0)
  else false)&&decide (f.pn.size<=64)
theorem ab6(n:Nat):((n:Int)==0)=decide (n=0):=by grind
theorem three{e:Int}{b}{n:Int}{z r}(h:(decide (e=0)&&b&&z&&decide (n<=64))=r):(((e=0)->(((b=true)->(((n<=64)->z=r)/\((¬n<=64)->false=r)))/\((b=false)->false=r)))/\((¬e=0)->false=r)):=by grind
theorem pV(f:FD)(v:List D)(h:XW f)(hr:Q0 f)(hv:v.length<=1000000000):Cq 62 [.agg (jB f),bB v] (Am.bool (U6 f v)):=by
 have hs:((f.pn.size:Int)<=64)=(f.pn.size<=64):=by simp only[eq_iff_iff];omega
 by_cases k1:f.pk=1
 .have e:U6 f v=(decide (Sq.jg f.ce=0)&&(f.ce.all fun x=>cZ v (dtc x))&&decide (0+f.bi.length+f.ta.length+f.tc.length+f.tm.length=0)&&decide ((f.pn.size:Int)<=64)):=by
   unfold U6;rw[yL k1,y09];simp only[hs]
  refine aiM f v _ _ k1 h.ce h.bi h.ta h.tc h.tm (Sq.up (Sq.HZ _ h.ce hr.ce)) (X5 _ v h.ce hv) _ (three ?_);rw[ab6,e]
 by_cases k2:f.pk=2
 .have e:U6 f v=(decide (Bd.jg f.bi=0)&&(f.bi.all fun x=>cZ v (dtb x))&&decide (f.ce.length+0+f.ta.length+f.tc.length+f.tm.length=0)&&decide ((f.pn.size:Int)<=64)):=by
   unfold U6;rw[yK k1,yL k2,Nat.add_zero];simp only[hs]
  refine aiN f v _ _ k2 h.ce h.bi h.ta h.tc h.tm (Bd.fG _ (by have:=h.bi;omega)) (afx _ v h.bi hv) _ (three ?_);rw[ab6,e]
 by_cases k3:f.pk=3
 .have e:U6 f v=(decide (vC f.ta=0)&&(f.ta.all fun x=>cZ v (dtt x))&&decide (f.ce.length+f.bi.length+0+f.tc.length+f.tm.length=0)&&decide ((f.pn.size:Int)<=64)):=by
   unfold U6;rw[yK k1,yK k2,yL k3,Nat.add_zero];simp only[hs]
  refine aiO f v _ _ k3 h.ce h.bi h.ta h.tc h.tm (OA _ h.ta) (afy _ v h.ta hv) _ (three ?_);rw[ab6,e]
 by_cases k4:f.pk=4
 .have e:U6 f v=(decide (Tx.vC ⟨f.tc,f.tm⟩=0)&&(f.tc.all fun x=>cZ v (dtc x))&&(f.tm.all fun x=>cZ v (dtm x))&&decide (f.ce.length+f.bi.length+f.ta.length+0+0=0)&&decide ((f.pn.size:Int)<=64)):=by
   unfold U6;rw[yK k1,yK k2,yK k3,yL k4,Nat.add_zero];simp only[hs]
  refine aiP f v _ _ _ k4 h.ce h.bi h.ta h.tc h.tm (Tx.fG ⟨f.tc,f.tm⟩ hr.lt hr.tx) (X5 _ v h.tc hv) (afz _ v h.tm hv) _ ?_;rw[ab6,e];refine⟨fun h1=>⟨fun h2=>⟨fun h3=>⟨fun h4=>by simp[h1,h2,h3,h4],fun h4=>by simp[h4]⟩,fun h3=>by simp[h3]⟩,fun h2=>by simp[h2]⟩,fun h1=>by simp[h1]⟩
 .have e:U6 f v=false:=by unfold U6;rw[yK k1,yK k2,yK k3,yK k4,Bool.false_and]
  rw[e];exact aiQ f v k1 k2 k3 k4 h.ce h.bi h.ta h.tc h.tm trivial
def Xe(v:List D):Option FD->List FD->Bool
 |_,[]=>true
 |q,f::l=>U6 f v&&(match q with|none=>true|some g=>decide (U7 g.pk f.pk g.pn f.pn<0))&&Xe v (some f) l
def F9(d:DO):Int:=if Cw d.sn=true/\Xe d.sn none d.fs=true then 0 else 180
structure Dim(d:DO):Prop where
 sn:d.sn.length<=1000000
 fs:d.fs.length<=1000000
 len:∀f∈d.fs,XW f
 iV:∀f∈d.fs,Q0 f
def prv(l:List FD):Nat->Option FD
 |0=>none
 |k+1=>l[k]?
abbrev dkR(d:DO)(k:Nat):Prop:=(Xe d.sn (prv d.fs k) (d.fs.drop k)=true/\Rq 0 17 0 (dkS d k) (.exit 0) { aL:=aC 40 [(2,int 0)],H:=[.box [bB d.sn,Md d.fs]] })\/(Xe d.sn (prv d.fs k) (d.fs.drop k)=false/\Rq 0 17 0 (dkS d k) .ret { aL:=aC 40 [(2,int 180)],H:=[.box [bB d.sn,Md d.fs]] })
theorem ab7(d:DO)(h:Dim d):∀n k,d.fs.length-k=n->k<=d.fs.length->dkR d k:=by
 intro n
 induction n with
 |zero =>
  intro k hk LB;refine .inl ⟨?_,amH d k zO yO⟩;rw[y17 zO];cases prv d.fs k<;>rfl
 |succ n ih =>
  intro k hk LB;have bg:k<d.fs.length:=zO
  have hx:=yA bg;have hm:d.fs[k]∈d.fs:=y03 _;have hV:=pV d.fs[k] d.sn (h.len _ hm) (h.iV _ hm) (by have:=h.sn;omega);have nx:=ih (k+1) zO zO;unfold dkR at nx |-;rw[y01 bg];have hp:prv d.fs (k+1)=some d.fs[k]:=hx;rw[hp]at nx;unfold Xe;cases e:U6 d.fs[k] d.sn with
  |false =>
   rw[e]at hV;exact .inr ⟨zS,amI d k _ h.fs zO hx hV yO⟩
  |true =>
   rw[e]at hV
   match k,hk,LB,bg,hx,hm,hV,nx with
   |0,_,_,bg,hx,hm,hV,nx =>
    rcases nx with⟨a,b⟩|⟨a,b⟩
    .exact .inl ⟨by rw[show prv d.fs 0=none from rfl,a];rfl,aiR d _ h.fs zO hx hV _ _ b⟩
    .exact .inr ⟨by rw[show prv d.fs 0=none from rfl,a];rfl,aiR d _ h.fs zO hx hV _ _ b⟩
   |k+1,_,_,bg,hx,hm,hV,nx =>
    have hy:d.fs[k]?=some d.fs[k]:=yA zO;have hz:d.fs[Int.toNat (((k+1:Nat):Int)-1)]?=some d.fs[k]:=zS
    have hP:∀g':FD,d.fs[k]?=some g'->Cq 45 [pt g'.pk g'.pn,pt d.fs[k+1].pk d.fs[k+1].pn] (int (U7 d.fs[k].pk d.fs[k+1].pk d.fs[k].pn d.fs[k+1].pn)):=fun g' hg=>by
     rw[hy]at hg;cases hg;exact X6 d.fs[k].pk d.fs[k+1].pk d.fs[k].pn d.fs[k+1].pn
    have hq:prv d.fs (k+1)=some d.fs[k]:=hy;rw[hq];by_cases hc:U7 d.fs[k].pk d.fs[k+1].pk d.fs[k].pn d.fs[k+1].pn<0
    .rcases nx with⟨a,b⟩|⟨a,b⟩
     .exact .inl ⟨by simp[hc,a],aiT d k _ d.fs[k] _ zO h.fs zO hx hy hV hP _ _ ⟨d.fs[k],⟨zO,hz⟩,hy,b⟩⟩
     .exact .inr ⟨by simp[a],aiT d k _ d.fs[k] _ zO h.fs zO hx hy hV hP _ _ ⟨d.fs[k],⟨zO,hz⟩,hy,b⟩⟩
    .exact .inr ⟨by simp[hc],amJ d k _ d.fs[k] _ zO h.fs zO hx hy hV hP _ _ ⟨d.fs[k],⟨zO,hz⟩,hy,rfl,rfl⟩⟩
theorem fG(d:DO)(h:Dim d):Cq 17 [kI d] (int (F9 d)):=by
 have hv:=bH.fG d.sn (by have:=h.sn;omega);unfold F9;by_cases e:Cw d.sn=true
 .rw [show eZ d.sn=0 by unfold eZ;rw[yL e]]at hv;have h1:=ab7 d h _ 0 rfl yN;unfold dkR at h1;rw[drop_zero]at h1;have hp:prv d.fs 0=none:=rfl;rw[hp]at h1;rcases h1 with⟨a,b⟩|⟨a,b⟩
  .grind [amK]
  .rw [yK (fun k=>by rw[a]at k;cases k.2)];exact amL d hv b trivial
 .rw [show eZ d.sn=120 by unfold eZ;rw[yK e]]at hv;rw[yK (fun k=>e k.1)];exact amM d hv trivial
end Go.Dc
namespace Go.yU
open Go Go.Am Go.Proofs Go.eY
theorem wrap_u64(n:Nat):IntKind.wrap .u64 n=(n % 18446744073709551616:Nat):=by
 show(let m:=(n:Int) % 2^64;if(IntKind.u64.signed&&m>=2^(64-1))=true then m-(2^64)else m)=_;simp[IntKind.signed]
theorem wrap_u8(n:Nat):IntKind.wrap .u8 n=(n % 256:Nat):=by
 show(let m:=(n:Int) % 2^8;if(IntKind.u8.signed&&m>=2^(8-1))=true then m-(2^8)else m)=_;simp[IntKind.signed]
theorem wM(w n:Nat):(BitVec.ofInt w n).toNat=n % 2^w:=by simp[BitVec.toNat_ofInt]
theorem wrap64{n:Nat}(h:n<18446744073709551616):IntKind.wrap .u64 n=n:=by rw[wrap_u64,Nat.mod_eq_of_lt h]
theorem ae4{n:Nat}(h:n<256):IntKind.wrap .u8 n=n:=by rw[wrap_u8,Nat.mod_eq_of_lt h]
def VF(u:Nat)(c:UInt8)(i:Nat):Int:=IntKind.wrap IntKind.u64 (↑(BitVec.toNat (BitVec.ofInt (IntKind.bits IntKind.u64) (↑u:Int) ||| BitVec.ofInt (IntKind.bits IntKind.u64) (IntKind.wrap IntKind.u64 (IntKind.wrap IntKind.u64 (IntKind.wrap IntKind.u8 (↑(BitVec.toNat (BitVec.ofInt (IntKind.bits IntKind.u8) (↑(UInt8.toNat c):Int) &&& BitVec.ofInt (IntKind.bits IntKind.u8) 127)):Int))*2^min (Int.toNat (7*(↑i:Int))) (IntKind.bits IntKind.u64))))):Int)
variable {u i:Nat}
theorem nH{c:Nat}(hu:u<2^(7*i))(hi:i<=9)(hc:i=9->c<=1):u+c % 128*2^(7*i)<2^(7*(i+1))/\u+c % 128*2^(7*i)<18446744073709551616:=by
 have h1:c % 128<128:=Nat.mod_lt _ zD;have h2:2^(7*(i+1))=128*2^(7*i):=by rw[Nat.mul_add,Nat.pow_add];omega
 have h3:u+c % 128*2^(7*i)<128*2^(7*i):=by
  have:=y22 (2^(7*i)) (show c % 128<=127 by omega);omega
 refine⟨by rw[h2];exact h3,?_⟩;rcases y25 hi with h|rfl
 .have:2^(7*(i+1))<=2^63:=Nat.pow_le_pow_right zD zO;rw[h2]at this;have:(2:Nat)^63<18446744073709551616:=zD
  omega
 .have:=hc rfl;have h5:(2:Nat)^(7*9)=9223372036854775808:=zD
  rw[h5]at hu |-;have:c % 128<=1:=zO
  omega
variable {c:UInt8}
theorem Sg(hu:u<2^(7*i))(hi:i<=9)(hc:i=9->c.toNat<=1):VF u c i=((u+c.toNat % 128*2^(7*i):Nat):Int):=by
 have pO:=(nH hu hi hc).2;have hc8:c.toNat<256:=c.toNat_lt;have e1:(BitVec.ofInt (IntKind.bits IntKind.u8) (↑c.toNat:Int) &&& BitVec.ofInt (IntKind.bits IntKind.u8) 127).toNat=c.toNat % 128:=by
  have:(127:Int)=((127:Nat):Int):=rfl;rw[BitVec.toNat_and,this,wM,wM];show(c.toNat % 2^8) &&& (127 % 2^8)=_;rw[Nat.mod_eq_of_lt (show c.toNat<2^8 by omega),Nat.mod_eq_of_lt (show 127<2^8 by decide)];exact Nat.and_two_pow_sub_one_eq_mod c.toNat 7
 have e2:(7*(i:Int)).toNat=7*i:=zO
 have e3:min (7*i) (IntKind.bits IntKind.u64)=7*i:=by show min (7*i) 64=_;omega
 unfold VF;rw[e1,e2,e3,ae4 (show c.toNat % 128<256 by omega),wrap64 (show c.toNat % 128<18446744073709551616 by omega)];have e4:((c.toNat % 128:Nat):Int)*2^(7*i)=((c.toNat % 128*2^(7*i):Nat):Int):=by push_cast;rfl
 rw[e4,wrap64 (show c.toNat % 128*2^(7*i)<18446744073709551616 by omega),BitVec.toNat_or,wM,wM];have e5:∀n,n<18446744073709551616->n % 2^IntKind.bits IntKind.u64=n:=fun n hn=>Nat.mod_eq_of_lt hn;rw[e5 _ zO,e5 _ zO];have e6:u ||| c.toNat % 128*2^(7*i)=u+c.toNat % 128*2^(7*i):=by
  have:=Nat.two_pow_add_eq_or_of_lt hu (c.toNat % 128);rw[Nat.or_comm,Nat.mul_comm,<- this];omega
 rw[e6,wrap64 pO]
theorem axZ(o:ah)(b:Bool)(out:aS)(h:((((b)=true)->aS.ret (AV.bq [])=out)/\(((b)=false)->aS.Ay (AV.qX 36 (int 10))=out))):ak P G 185 [AV.ptr 0 0,Am.bool b] [o] out [o]:=by
 rcases y00 ((b))with c1|c1
 .have h:=h.1 c1;have e1:=h;exact e1▸((show ak P G 185 [AV.ptr 0 0,Am.bool b] [o] (aS.ret (AV.bq [])) [o]from aj [kf (show(!b)=false from(y27 (c1)))] zQ))
 .have h:=h.2 c1;have e1:=h;exact e1▸((show ak P G 185 [AV.ptr 0 0,Am.bool b] [o] (aS.Ay (AV.qX 36 (int 10))) [o]from aj [kt (show(!b)=true from(y27 (c1)))] zQ))
theorem aV(o:ah)(b:Bool):ak P G 185 [.ptr 0 0,bool b] [o] (if b=true then .ret (.bq [])else .Ay aO) [o] :=
 axZ o b _ ⟨fun h=>by rw[yL h],fun h=>by rw[yK (by simp[h])];rfl⟩
theorem avW(xs:List (List AV))(n:Nat)(h:n<=xs.length)(hl:xs.length<=1000000000)(h:True):ak P G 258 [AV.ptr 0 0,int (↑n:Int)] [ah.box [AV.sl 1 false xs]] (aS.ret (AV.sl 1 false (List.take n xs))) [ah.box [AV.sl 1 false (List.drop n xs)]]:=by
 have _:=h;exact aj [kc [0] (show ak P G 185 [AV.ptr 0 0,Am.bool (decide ((↑n:Int)<=(↑(length xs):Int)))] [ah.box [AV.sl 1 false xs]] (aS.ret (AV.bq [])) [ah.box [AV.sl 1 false xs]]from(by have h0:=(@Go.yU.aV (ah.box [AV.sl 1 false xs]) (decide ((↑n:Int)<=(↑(length xs):Int))));simp only[yL (show decide ((↑n:Int)<=(↑(length xs):Int))=true from y15 zO)]at h0;exact h0)),kp (show(0:Int)<=(0:Int)/\(0:Int)<=(↑n:Int)/\(↑n:Int)<=(↑n:Int)/\(↑n:Int)<=(↑(length xs):Int)from zO),kv 28 (show Am.aF (AV.sl 1 false (List.drop (Int.toNat (↑n:Int)) (List.take (Int.toNat (↑(length xs):Int)) xs))) (AV.sl 1 false (List.drop n xs))from(aF.of_eq (by simp only[y26,take_length]))),kp (show(0:Int)<=(↑n:Int)/\(↑n:Int)<=(↑(length xs):Int)/\(↑(length xs):Int)<=(↑(length xs):Int)from zO)] zQ
theorem axy(xs:List (List AV))(n:Nat)(h:xs.length<n)(hl:xs.length<=1000000000)(h:True):ak P G 258 [AV.ptr 0 0,int (↑n:Int)] [ah.box [AV.sl 1 false xs]] (aS.Ay aO) [ah.box [AV.sl 1 false xs]]:=by
 have _:=h;exact aj [kc [0] (show ak P G 185 [AV.ptr 0 0,Am.bool (decide ((↑n:Int)<=(↑(length xs):Int)))] [ah.box [AV.sl 1 false xs]] (aS.Ay (AV.qX 36 (int 10))) [ah.box [AV.sl 1 false xs]]from(by have h0:=(@Go.yU.aV (ah.box [AV.sl 1 false xs]) (decide ((↑n:Int)<=(↑(length xs):Int))));simp only[yK (show ¬(decide ((↑n:Int)<=(↑(length xs):Int))=true)from Bool.eq_false_iff.1 (y16 zO))]at h0;exact h0))] zQ
theorem awC(l:List UInt8)(n:Nat)(h:n<=l.length)(hl:l.length<=1000000000):ak P G 258 [.ptr 0 0,int n] (dH l) (.ret (Cy (l.take n))) (dH (l.drop n)):=by
 have:=avW (jl l) n (by rw[eu];exact h) (by rw[eu];exact hl) trivial;rw[awy,awx]at this;exact this
theorem ax0(l:List UInt8)(n:Nat)(h:l.length<n)(hl:l.length<=1000000000):ak P G 258 [.ptr 0 0,int n] (dH l) (.Ay aO) (dH l) :=
 axy (jl l) n (by rw[eu];exact h) (by rw[eu];exact hl) trivial
theorem bO(x:AV)(r:List UInt8)(hl:r.length<=999999999):ak P G 258 [.ptr 0 0,int 1] [.box [.sl 1 false ([x]::jl r)]] (.ret (.sl 1 false [[x]])) (dH r) :=
 avW ([x]::jl r) 1 zS (by simp[eu];omega) trivial
def jD(c:UInt8)(r:List UInt8):List ah:=[.box [.sl 1 false ([u8 c]::jl r)]]
theorem avX:ak P G 258 [.ptr 0 0,int 1] (dH []) (.Ay aO) (dH []):=ax0 [] 1 zS zS
theorem awD(c:UInt8)(r:List UInt8)(hl:r.length<=999999999):ak P G 258 [.ptr 0 0,int 1] (jD c r) (.ret (.sl 1 false [[u8 c]])) (dH r):=awC (c::r) 1 zS (by simp;omega)
def avY(l:List UInt8)(u i:Nat):St:={ aL:=aC 38 [(0,.ptr 0 0),(2,u64 u),(3,int i)],H:=dH l }
theorem axz(u i:Nat)(ex:bF)(h:bF.Ay (AV.qX 36 (int 10))=ex):Rq 1 260 0 (avY [] u i) ex (St.mk (aC 38 [(2,u64 u)]) (dH []) []):=by
 have eX:=h;exact bN.to ((show Rq 1 260 0 (avY [] u i) (bF.Ay (AV.qX 36 (int 10))) (sM 38 [(2,AV.lit (Value.int IntKind.u64 (↑u:Int)))] [.box [.sl 1 false []]])from aG [kc [0] (@Go.yU.avX )] (aB 38 [2]) 1 zQ)) eX (eB.of_eq rfl)
def vE(c:UInt8)(r:List UInt8)(u i:Nat):St:={ aL:=aC 38 [(0,.ptr 0 0),(2,u64 u),(3,int i)],H:=jD c r }
theorem awE(c:UInt8)(r:List UInt8)(hl:r.length<=999999999)(u i:Nat)(hi:i<=9)(ex:bF)(v:Int)(o:ah)(h:((((↑i:Int)=(0:Int))->((((↑(UInt8.toNat c):Int)<(128:Int))->(bF.ret=ex)/\((VF u c i:Int)=(v))/\([ah.box [AV.sl 1 false (jl r)]]=[o]))/\((¬(↑(UInt8.toNat c):Int)<(128:Int))->Rq 1 260 0 (sM 38 [(0,.ptr 0 0),(2,AV.lit (Value.int IntKind.u64 (VF u c i))),(3,int (↑(i+1):Int))] [.box [.sl 1 false (jl r)]]) ex (sM 38 [(2,AV.lit (Value.int IntKind.u64 v))] [o]))))/\((¬(↑i:Int)=(0:Int))->((((↑(UInt8.toNat c):Int)=(0:Int))->(bF.Ay (AV.qX 36 (int 10))=ex)/\(((↑u:Int):Int)=(v))/\([ah.box [AV.sl 1 false (jl r)]]=[o]))/\((¬(↑(UInt8.toNat c):Int)=(0:Int))->((((↑i:Int)<(9:Int))->((((↑(UInt8.toNat c):Int)<(128:Int))->(bF.ret=ex)/\((VF u c i:Int)=(v))/\([ah.box [AV.sl 1 false (jl r)]]=[o]))/\((¬(↑(UInt8.toNat c):Int)<(128:Int))->Rq 1 260 0 (sM 38 [(0,.ptr 0 0),(2,AV.lit (Value.int IntKind.u64 (VF u c i))),(3,int (↑(i+1):Int))] [.box [.sl 1 false (jl r)]]) ex (sM 38 [(2,AV.lit (Value.int IntKind.u64 v))] [o]))))/\((¬(↑i:Int)<(9:Int))->((((↑(UInt8.toNat c):Int)<=(1:Int))->(bF.ret=ex)/\((VF u c i:Int)=(v))/\([ah.box [AV.sl 1 false (jl r)]]=[o]))/\((¬(↑(UInt8.toNat c):Int)<=(1:Int))->(bF.Ay (AV.qX 36 (int 10))=ex)/\(((↑u:Int):Int)=(v))/\([ah.box [AV.sl 1 false (jl r)]]=[o])))))))))):Rq 1 260 0 (vE c r u i) ex (sM 38 [(2,AV.lit (Value.int IntKind.u64 v))] [o]):=by
 have bS:=(@Go.yU.awD (c) (r) zO);have fT:(0:Int)<=(0:Int)/\[[u8 c]][Int.toNat 0]?=some [AV.lit (Value.int IntKind.u8 (↑(UInt8.toNat c):Int))]:=(⟨zD,rfl⟩);by_cases c1:((↑i:Int)=(0:Int))
 .have h:=h.1 c1;have jw:decide ((↑i:Int)<(9:Int))=true:=(y15 zO);have x9:ak P G 185 [AV.ptr 0 0,Am.bool true] [ah.box [AV.sl 1 false (jl r)]] (aS.ret (AV.bq [])) [ah.box [AV.sl 1 false (jl r)]]:=(by have h0:=(@Go.yU.aV (ah.box [AV.sl 1 false (jl r)]) (true));simp only[yL (show true=true from rfl)]at h0;exact h0);have Av:Am.aF (int (IntKind.wrap IntKind.i64 (7*(↑i:Int)))) (int (7*(↑i:Int))):=(aF.TJ zO zO rfl);have qj:(0:Int)<=7*(↑i:Int):=zO;by_cases c3:((↑(UInt8.toNat c):Int)<(128:Int))
  .have h:=h.1 c3;obtain⟨eX,e1,eH⟩:=h;exact bN.to ((show Rq 1 260 0 (vE c r u i) bF.ret (sM 38 [(2,AV.lit (Value.int IntKind.u64 (VF u c i)))] [.box [.sl 1 false (jl r)]])from aG [kc [0] bS,ko (bC.elem [AV.lit (Value.int IntKind.u8 (↑(UInt8.toNat c):Int))]),kp fT,kt (beq_iff_eq.2 c1),kt (Eq.refl true),kt jw,kc [0] x9,kv 32 Av,kp qj,kt (y15 c3)] (aB 38 [2]) 1 zQ)) eX (eB.af2 ⟨rfl,(aF.int_eq e1),yO⟩ eH)
  .have h:=h.2 c3;exact aJ [kc [0] bS,ko (bC.elem [AV.lit (Value.int IntKind.u8 (↑(UInt8.toNat c):Int))]),kp fT,kt (beq_iff_eq.2 c1),kt (Eq.refl true),kt jw,kc [0] x9,kv 32 Av,kp qj,kf (y16 c3),kv 6 (show Am.aF (int (IntKind.wrap IntKind.i64 ((↑i:Int)+1))) (int (↑(i+1):Int))from(aF.TJ zO zO zO))] (aB 38 [0,2,3]) 1 h zQ
 .have h:=h.2 c1;have x9:ak P G 185 [AV.ptr 0 0,Am.bool true] [ah.box [AV.sl 1 false (jl r)]] (aS.ret (AV.bq [])) [ah.box [AV.sl 1 false (jl r)]]:=(by have h0:=(@Go.yU.aV (ah.box [AV.sl 1 false (jl r)]) (true));simp only[yL (show true=true from rfl)]at h0;exact h0);have Av:Am.aF (int (IntKind.wrap IntKind.i64 (7*(↑i:Int)))) (int (7*(↑i:Int))):=(aF.TJ zO zO rfl);have qj:(0:Int)<=7*(↑i:Int):=zO;by_cases c4:((↑(UInt8.toNat c):Int)=(0:Int))
  .have h:=h.1 c4;obtain⟨eX,e1,eH⟩:=h;exact bN.to ((show Rq 1 260 0 (vE c r u i) (bF.Ay (AV.qX 36 (int 10))) (sM 38 [(2,AV.lit (Value.int IntKind.u64 (↑u:Int)))] [.box [.sl 1 false (jl r)]])from aG [kc [0] bS,ko (bC.elem [AV.lit (Value.int IntKind.u8 (↑(UInt8.toNat c):Int))]),kp fT,kf (beq_eq_false_iff_ne.2 c1),kf (show((↑(UInt8.toNat c):Int)!=0)=false from(y27 (beq_iff_eq.2 c4))),kc [0] (show ak P G 185 [AV.ptr 0 0,Am.bool false] [ah.box [AV.sl 1 false (jl r)]] (aS.Ay (AV.qX 36 (int 10))) [ah.box [AV.sl 1 false (jl r)]]from(by have h0:=(@Go.yU.aV (ah.box [AV.sl 1 false (jl r)]) (false));simp only[yK (show ¬(false=true)from Bool.eq_false_iff.1 (rfl))]at h0;exact h0))] (aB 38 [2]) 1 zQ)) eX (eB.af2 ⟨rfl,(aF.int_eq e1),yO⟩ eH)
  .have h:=h.2 c4;have hz9:((↑(UInt8.toNat c):Int)!=0)=true:=(y27 (beq_eq_false_iff_ne.2 c4));by_cases c5:((↑i:Int)<(9:Int))
   .have h:=h.1 c5;by_cases c6:((↑(UInt8.toNat c):Int)<(128:Int))
    .have h:=h.1 c6;obtain⟨eX,e1,eH⟩:=h;exact bN.to ((show Rq 1 260 0 (vE c r u i) bF.ret (sM 38 [(2,AV.lit (Value.int IntKind.u64 (VF u c i)))] [.box [.sl 1 false (jl r)]])from aG [kc [0] bS,ko (bC.elem [AV.lit (Value.int IntKind.u8 (↑(UInt8.toNat c):Int))]),kp fT,kf (beq_eq_false_iff_ne.2 c1),kt hz9,kt (y15 c5),kc [0] x9,kv 32 Av,kp qj,kt (y15 c6)] (aB 38 [2]) 1 zQ)) eX (eB.af2 ⟨rfl,(aF.int_eq e1),yO⟩ eH)
    .have h:=h.2 c6;exact aJ [kc [0] bS,ko (bC.elem [AV.lit (Value.int IntKind.u8 (↑(UInt8.toNat c):Int))]),kp fT,kf (beq_eq_false_iff_ne.2 c1),kt hz9,kt (y15 c5),kc [0] x9,kv 32 Av,kp qj,kf (y16 c6),kv 6 (show Am.aF (int (IntKind.wrap IntKind.i64 ((↑i:Int)+1))) (int (↑(i+1):Int))from(aF.TJ zO zO zO))] (aB 38 [0,2,3]) 1 h zQ
   .have h:=h.2 c5;by_cases c7:((↑(UInt8.toNat c):Int)<=(1:Int))
    .have h:=h.1 c7;obtain⟨eX,e1,eH⟩:=h;exact bN.to ((show Rq 1 260 0 (vE c r u i) bF.ret (sM 38 [(2,AV.lit (Value.int IntKind.u64 (VF u c i)))] [.box [.sl 1 false (jl r)]])from aG [kc [0] bS,ko (bC.elem [AV.lit (Value.int IntKind.u8 (↑(UInt8.toNat c):Int))]),kp fT,kf (beq_eq_false_iff_ne.2 c1),kt hz9,kf (y16 c5),kc [0] (show ak P G 185 [AV.ptr 0 0,Am.bool (decide ((↑(UInt8.toNat c):Int)<=(1:Int)))] [ah.box [AV.sl 1 false (jl r)]] (aS.ret (AV.bq [])) [ah.box [AV.sl 1 false (jl r)]]from(by have h0:=(@Go.yU.aV (ah.box [AV.sl 1 false (jl r)]) (decide ((↑(UInt8.toNat c):Int)<=(1:Int))));simp only[yL (show decide ((↑(UInt8.toNat c):Int)<=(1:Int))=true from y15 c7)]at h0;exact h0)),kv 32 Av,kp qj,kt (show decide ((↑(UInt8.toNat c):Int)<(128:Int))=true from(y15 zO))] (aB 38 [2]) 1 zQ)) eX (eB.af2 ⟨rfl,(aF.int_eq e1),yO⟩ eH)
    .have h:=h.2 c7;obtain⟨eX,e1,eH⟩:=h;exact bN.to ((show Rq 1 260 0 (vE c r u i) (bF.Ay (AV.qX 36 (int 10))) (sM 38 [(2,AV.lit (Value.int IntKind.u64 (↑u:Int)))] [.box [.sl 1 false (jl r)]])from aG [kc [0] bS,ko (bC.elem [AV.lit (Value.int IntKind.u8 (↑(UInt8.toNat c):Int))]),kp fT,kf (beq_eq_false_iff_ne.2 c1),kt hz9,kf (y16 c5),kc [0] (show ak P G 185 [AV.ptr 0 0,Am.bool (decide ((↑(UInt8.toNat c):Int)<=(1:Int)))] [ah.box [AV.sl 1 false (jl r)]] (aS.Ay (AV.qX 36 (int 10))) [ah.box [AV.sl 1 false (jl r)]]from(by have h0:=(@Go.yU.aV (ah.box [AV.sl 1 false (jl r)]) (decide ((↑(UInt8.toNat c):Int)<=(1:Int))));simp only[yK (show ¬(decide ((↑(UInt8.toNat c):Int)<=(1:Int))=true)from Bool.eq_false_iff.1 (y16 c7))]at h0;exact h0))] (aB 38 [2]) 1 zQ)) eX (eB.af2 ⟨rfl,(aF.int_eq e1),yO⟩ eH)
def SX:List UInt8->Nat->Nat->Bool×Nat×List UInt8
 |[],u,_=>(false,u,[])
 |c::r,u,i=>if(i≠0/\c.toNat=0)\/(9<=i/\1<c.toNat)then(false,u,r)
  else if c.toNat<128 then(true,u+c.toNat % 128*2^(7*i),r)else SX r (u+c.toNat % 128*2^(7*i)) (i+1)
theorem avz:∀(l:List UInt8)(u i:Nat),l.length<=1000000000->u<2^(7*i)->i<=9 ->
 Rq 1 260 0 (avY l u i) (if(SX l u i).1=true then .ret else .Ay aO) { aL:=aC 38 [(2,u64 (SX l u i).2.1)],H:=dH (SX l u i).2.2 }
 |[],u,i,_,_,_=>axz u i _ rfl
 |c::r,u,i,hl,hu,hi=>by
  have hl':r.length<=999999999:=by simp at hl;omega
  have hc8:c.toNat<256:=c.toNat_lt;have go:(i=9->c.toNat<=1)->¬(c.toNat<128)->¬(i≠0/\c.toNat=0)->Rq 1 260 0 { aL:=aC 38 [(0,AV.ptr 0 0),(2,AV.lit (Value.int IntKind.u64 (VF u c i))),(3,int (↑(i+1):Int))],H:=[ah.box [AV.sl 1 false (jl r)]] }
   (if(SX (c::r) u i).1=true then .ret else .Ay aO) { aL:=aC 38 [(2,u64 (SX (c::r) u i).2.1)],H:=dH (SX (c::r) u i).2.2 }:=fun h9 hc h0=>by
   have hi':i<=8:=by
    rcases y25 hi with h|h
    .omega
    .have:=h9 h;omega
   rw[Sg hu hi h9];have e:SX (c::r) u i=SX r (u+c.toNat % 128*2^(7*i)) (i+1):=by
    simp only[SX];rw[yK zO,yK hc]
   rw[e];exact avz r _ (i+1) zO (nH hu hi h9).1 zO
  have fin:(i=9->c.toNat<=1)->c.toNat<128->¬(i≠0/\c.toNat=0)->SX (c::r) u i=(true,u+c.toNat % 128*2^(7*i),r):=fun h9 hc h0=>by
   simp only[SX];rw[yK zO,yL hc]
  have bad:(i≠0/\c.toNat=0)\/(9<=i/\1<c.toNat)->SX (c::r) u i=(false,u,r):=fun h=>by
   simp only[SX];rw[yL h]
  refine awE c r hl' u i hi _ _ _ ⟨fun h0=>⟨fun hc=>?_,fun hc=>go zO zO zO⟩,fun h0=>⟨fun hz=>?_,fun hz=>⟨fun h9=>⟨fun hc=>?_,fun hc=>go zO zO zO⟩,fun h9=>⟨fun h1=>?_,fun h1=>?_⟩⟩⟩⟩
  .rw [fin zO zO zO];exact⟨rfl,Sg hu hi zO,rfl⟩
  .rw [bad (.inl zO)];exact⟨rfl,rfl,rfl⟩
  .rw [fin zO zO zO];exact⟨rfl,Sg hu hi zO,rfl⟩
  .rw [fin zO zO zO];exact⟨rfl,Sg hu hi zO,rfl⟩
  .rw [bad (.inr zO)];exact⟨rfl,rfl,rfl⟩
def Qu(l:List UInt8):Bool:=(SX l 0 0).1
def Cn(l:List UInt8):Nat:=(SX l 0 0).2.1
def Co(l:List UInt8):List UInt8:=(SX l 0 0).2.2
theorem axR(l:List UInt8)(hl:l.length<=1000000000):Rq 1 260 0 (avY l 0 0) (if Qu l=true then .ret else .Ay aO) { aL:=aC 38 [(2,u64 (Cn l))],H:=dH (Co l) } :=
 avz l 0 0 hl zS zO
theorem awG(l:List UInt8)(hl:l.length<=1000000000)(out:aS)(h:(((Qu l=true)->aS.ret (AV.lit (Value.int IntKind.u64 (↑(Cn l):Int)))=out)/\((¬Qu l=true)->aS.Ay (AV.qX 36 (int 10))=out))):ak P G 260 [AV.ptr 0 0] (dH l) out (dH (Co l)):=by
 by_cases c1:(Qu l=true)
 .have h:=h.1 c1;have e1:=h;exact e1▸((show ak P G 260 [AV.ptr 0 0] (dH l) (aS.ret (AV.lit (Value.int IntKind.u64 (↑(Cn l):Int)))) [ah.box [AV.sl 1 false (jl (Co l))]]from aj [kl [1,4,5,6,7,8,9,10,11,12,13,14,15,16,17,18,19,20,21,22,23,24,25,26,27,28,29,30,31,32,33,34,35,36,37] 1 (show Rq 1 260 0 (sM 38 [(0,.ptr 0 0),(2,AV.lit (Value.int IntKind.u64 0)),(3,int 0)] [.box [.sl 1 false (jl l)]]) bF.ret (sM 38 [(2,AV.lit (Value.int IntKind.u64 (↑(Cn l):Int)))] [.box [.sl 1 false (jl (Co l))]])from(by have h0:=(@Go.yU.axR (l) zO);simp only[yL c1]at h0;exact h0))] zQ))
 .have h:=h.2 c1;have e1:=h;exact e1▸((show ak P G 260 [AV.ptr 0 0] (dH l) (aS.Ay (AV.qX 36 (int 10))) [ah.box [AV.sl 1 false (jl (Co l))]]from aj [kl [1,4,5,6,7,8,9,10,11,12,13,14,15,16,17,18,19,20,21,22,23,24,25,26,27,28,29,30,31,32,33,34,35,36,37] 1 (show Rq 1 260 0 (sM 38 [(0,.ptr 0 0),(2,AV.lit (Value.int IntKind.u64 0)),(3,int 0)] [.box [.sl 1 false (jl l)]]) (bF.Ay (AV.qX 36 (int 10))) (sM 38 [(2,AV.lit (Value.int IntKind.u64 (↑(Cn l):Int)))] [.box [.sl 1 false (jl (Co l))]])from(by have h0:=(@Go.yU.axR (l) zO);simp only[yK c1]at h0;exact h0))] zQ))
theorem vB(l:List UInt8)(hl:l.length<=1000000000):ak P G 260 [.ptr 0 0] (dH l) (if Qu l=true then .ret (u64 (Cn l))else .Ay aO) (dH (Co l)) :=
 awG l hl _ ⟨fun h=>by rw[yL h],fun h=>by rw[yK h];rfl⟩
theorem sD n:IntKind.wrap .u64 n=n % 18446744073709551616:=by
 show(let m:=n % 2^64;if(IntKind.u64.signed&&m>=2^(64-1))=true then m-(2^64)else m)=_;simp[IntKind.signed]
def vP(n:Int):Nat:=if 0<=n then 2*n.toNat else 2*(-(n+1)).toNat+1
theorem abq(n:Int):Vv P G 213 [int n] [] [] =
 some (aS.ret (AV.lit (Value.int IntKind.u64 (IntKind.wrap IntKind.u64 (↑(BitVec.toNat (BitVec.ofInt (IntKind.bits IntKind.u64) (IntKind.wrap IntKind.u64 (IntKind.wrap IntKind.u64 n*2^min (Int.toNat 1) (IntKind.bits IntKind.u64))) ^^^ BitVec.ofInt (IntKind.bits IntKind.u64) (IntKind.wrap IntKind.u64 (Int.fdiv n (2^min (Int.toNat 63) (IntKind.bits IntKind.i64)))))):Int)))),[],[(0:Int)<=(1:Int),(0:Int)<=(63:Int)]):=zQ
theorem amh(n:Int)(v:Int)(h:(IntKind.wrap IntKind.u64 (↑(BitVec.toNat (BitVec.ofInt (IntKind.bits IntKind.u64) (IntKind.wrap IntKind.u64 (IntKind.wrap IntKind.u64 n*2^min (Int.toNat 1) (IntKind.bits IntKind.u64))) ^^^ BitVec.ofInt (IntKind.bits IntKind.u64) (IntKind.wrap IntKind.u64 (Int.fdiv n (2^min (Int.toNat 63) (IntKind.bits IntKind.i64)))))):Int):Int)=(v)):Cq 213 [int n] (AV.lit (Value.int IntKind.u64 v)):=by
 have e1:=h;exact ak.out (xq _ (abq n) ⟨zO,zO,yO⟩) (aF.int_eq e1)
theorem aB9(n:Int):Vv P G 257 [int n] [] [bC.br true] =
 some (aS.ret (AV.lit (Value.int IntKind.u64 (IntKind.wrap IntKind.u64 (2*IntKind.wrap IntKind.u64 n)))),[],[decide (n>=(0:Int))=true]):=zQ
theorem aCa(n:Int):Vv P G 257 [int n] [] [bC.br false,bC.val (some 9) (int (n+1)),bC.val (some 10) (int (0-(n+1)))] =
 some (aS.ret (AV.lit (Value.int IntKind.u64 (IntKind.wrap IntKind.u64 (IntKind.wrap IntKind.u64 (2*IntKind.wrap IntKind.u64 (0-(n+1)))+1)))),[],[decide (n>=(0:Int))=false,Am.aF (int (IntKind.wrap IntKind.i64 (n+1))) (int (n+1)),Am.aF (int (IntKind.wrap IntKind.i64 (0-(n+1)))) (int (0-(n+1)))]):=zQ
theorem aFO(n:Int)(hn : -9223372036854775808<=n/\n<9223372036854775808)(v:Int)(h:(((n>=(0:Int))->(IntKind.wrap IntKind.u64 (2*IntKind.wrap IntKind.u64 n):Int)=(v))/\((¬n>=(0:Int))->(IntKind.wrap IntKind.u64 (IntKind.wrap IntKind.u64 (2*IntKind.wrap IntKind.u64 (0-(n+1)))+1):Int)=(v)))):Cq 257 [int n] (AV.lit (Value.int IntKind.u64 v)):=by
 by_cases c1:(n>=(0:Int))
 .have h:=h.1 c1;have e1:=h;exact ak.out (xq _ (aB9 n) ⟨(y15 c1),yO⟩) (aF.int_eq e1)
 .have h:=h.2 c1;have e1:=h;exact ak.out (xq _ (aCa n) ⟨(y16 c1),aF.TJ zO zO rfl,aF.TJ zO zO rfl,yO⟩) (aF.int_eq e1)
theorem Sn{n}(hn : -9223372036854775808<=n/\n<9223372036854775808):vP n<18446744073709551616:=by grind[vP]
theorem ahZ{n}(hn : -9223372036854775808<=n/\n<9223372036854775808):IntKind.wrap IntKind.u64 ↑(BitVec.toNat (BitVec.ofInt (IntKind.bits IntKind.u64) (IntKind.wrap IntKind.u64 (IntKind.wrap IntKind.u64 n*2^min (Int.toNat 1) (IntKind.bits IntKind.u64))) ^^^ BitVec.ofInt (IntKind.bits IntKind.u64) (IntKind.wrap IntKind.u64 (Int.fdiv n (2^min (Int.toNat 63) (IntKind.bits IntKind.i64))))))=vP n:=by
 have e1:min (Int.toNat 1) (IntKind.bits IntKind.u64)=1:=zD
 have e2:min (Int.toNat 63) (IntKind.bits IntKind.i64)=63:=zD
 have e3:(2:Int)^63=9223372036854775808:=zD
 rw[e1,e2,e3];unfold vP;by_cases h:0<=n
 .rw [yL h];have f1:Int.fdiv n 9223372036854775808=((0:Nat):Int):=by rw[Int.fdiv_eq_ediv_of_nonneg _ zD];omega
  have f2:IntKind.wrap IntKind.u64 n=((n.toNat:Nat):Int):=by rw[sD];omega
  have f3:IntKind.wrap IntKind.u64 (((n.toNat:Nat):Int)*2^1)=((2*n.toNat:Nat):Int):=by rw[sD];omega
  have f4:IntKind.wrap IntKind.u64 ((0:Nat):Int)=((0:Nat):Int):=zD
  rw[f1,f2,f3,f4,BitVec.toNat_xor,wM,wM];have f5:(2*n.toNat) % 2^IntKind.bits IntKind.u64 ^^^ 0 % 2^IntKind.bits IntKind.u64=2*n.toNat:=by
   show(2*n.toNat) % 2^64 ^^^ 0 % 2^64=_;rw[Nat.zero_mod,Nat.xor_zero,Nat.mod_eq_of_lt zO]
  rw[f5,wrap64 zO]
 .rw [yK h];have f1:Int.fdiv n 9223372036854775808 = -1:=by rw[Int.fdiv_eq_ediv_of_nonneg _ zD];omega
  have f4:IntKind.wrap IntKind.u64 (-1)=((18446744073709551615:Nat):Int):=zD
  have f3:IntKind.wrap IntKind.u64 (IntKind.wrap IntKind.u64 n*2^1)=((18446744073709551614-2*(-(n+1)).toNat:Nat):Int):=by rw[sD,sD];omega
  rw[f1,f3,f4];have f6:BitVec.ofInt 64 ((18446744073709551615:Nat):Int)=BitVec.allOnes 64:=zD
  show IntKind.wrap IntKind.u64 ((BitVec.ofInt 64 ((18446744073709551614-2*(-(n+1)).toNat:Nat):Int) ^^^ BitVec.ofInt 64 ((18446744073709551615:Nat):Int)).toNat:Int)=_;rw[f6,BitVec.xor_allOnes,BitVec.toNat_not,wM,Nat.mod_eq_of_lt zO];have h7:(2:Nat)^64=18446744073709551616:=zD
  rw[h7,wrap64 zO];omega
theorem ae5(n:Int)(hn : -9223372036854775808<=n/\n<9223372036854775808):Cq 213 [int n] (u64 (vP n)):=amh n _ (ahZ hn)
theorem aFP(n:Int)(hn : -9223372036854775808<=n/\n<9223372036854775808):Cq 257 [int n] (u64 (vP n)):=by
 refine aFO n hn _ ⟨fun h=>?_,fun h=>?_⟩
 .grind [vP,sD]
 .unfold vP;rw[yK h];have e1:IntKind.wrap IntKind.i64 (n+1)=n+1:=Am.Gx zO zO;have e2:IntKind.wrap IntKind.i64 (0-(n+1))=0-(n+1):=Am.Gx zO zO;simp only[e1,e2,sD];omega
def um:Nat->Nat->List UInt8
 |0,_=>[]
 |f+1,u=>if u<128 then[]else UInt8.ofNat (u % 128+128)::um f (u/128)
def xX:Nat->Nat->Nat
 |0,u=>u
 |f+1,u=>if u<128 then u else xX f (u/128)
def num(u:Nat):List UInt8:=um 9 u++[UInt8.ofNat (xX 9 u)]
theorem JK:∀ f u,u<128*128^f->xX f u<128
 |0,u,h=>by simpa[xX]using h
 |f+1,u,h=>by
  simp only[xX];split
  .assumption
  .exact JK f (u/128) (by omega)
theorem JL:∀ f u,(um f u).length<=f
 |0,_=>yM
 |f+1,u=>by
  simp only[um];split
  .simp
  .have:=JL f (u/128);grind
theorem Nz u:(num u).length<=10/\1<=(num u).length:=by grind[JL,num,yD,yE,y11]
def SY(xs:List (List AV))(g u:Nat):St:={ aL:=aC 20 [(0,.aU 0 g 0 xs.length),(1,u64 u)],H:=[.aN g 1 false xs] }
theorem WW(xs:List (List AV))(g:Nat)(u:Nat):Dv P G none 1 (vg P 212 0) (SY xs g u) [bC.br false] (aB 20 [0,1]) 1 =
 some (bF.exit 0,{ aL:=aC 20 [(0,AV.aU 0 g 0 (length xs)),(1,AV.lit (Value.int IntKind.u64 (↑u:Int)))],H:=[ah.aN g 1 false xs] },[decide ((↑u:Int)>=(128:Int))=false]):=zQ
theorem abr(xs:List (List AV))(g u:Nat)(hu:u<128)(h:True):Rq 1 212 0 (SY xs g u) (bF.exit 0) { aL:=aC 20 [(0,AV.aU 0 g 0 (length xs)),(1,u64 u)],H:=[ah.aN g 1 false xs] }:=by
 exact bN.exit _ _ _ (WW xs g u) ⟨(y16 zO),yO⟩
theorem S9(xs:List (List AV))(g:Nat)(u:Nat):tJ P G none 1 (vg P 212 0) (SY xs g u) [bC.br true] (aB 20 [0,1]) 1 =
 some ({ aL:=aC 20 [(0,AV.aU 0 (g+1) 0 (length xs+1)),(1,AV.lit (Value.int IntKind.u64 (Int.fdiv (↑u:Int) (2^min (Int.toNat 7) (IntKind.bits IntKind.u64)))))],H:=[ah.aN (g+1) 1 false (xs++[[AV.lit (Value.int IntKind.u8 (IntKind.wrap IntKind.u8 (↑(BitVec.toNat (BitVec.ofInt (IntKind.bits IntKind.u8) (IntKind.wrap IntKind.u8 (↑u:Int)) ||| BitVec.ofInt (IntKind.bits IntKind.u8) 128)):Int)))]])] },[decide ((↑u:Int)>=(128:Int))=true,g=g,length xs=length xs,(length xs+1)*1<=140737488355328,(0:Int)<=(7:Int)]):=zQ
theorem ad5(xs:List (List AV))(g u:Nat)(hu:¬u<128)(hl:xs.length<=1000000000)(BF:∀x∈xs,AV.aM [] x=true)(ex:bF)(s':St)(h:Rq 1 212 0 { aL:=aC 20 [(0,AV.aU 0 (g+1) 0 (length xs+1)),(1,AV.lit (Value.int IntKind.u64 (Int.fdiv (↑u:Int) (2^min (Int.toNat 7) (IntKind.bits IntKind.u64)))))],H:=[ah.aN (g+1) 1 false (xs++[[AV.lit (Value.int IntKind.u8 (IntKind.wrap IntKind.u8 (↑(BitVec.toNat (BitVec.ofInt (IntKind.bits IntKind.u8) (IntKind.wrap IntKind.u8 (↑u:Int)) ||| BitVec.ofInt (IntKind.bits IntKind.u8) 128)):Int)))]])] } ex s'):Rq 1 212 0 (SY xs g u) ex s':=by
 exact bN.next _ _ _ (S9 xs g u) ⟨(y15 zO),(rfl),(rfl),zO,zO,yO⟩ h
theorem ad6(xs:List (List AV))(ys:List (List AV))(g:Nat)(g':Nat)(u:Nat)(v:Nat):Vv P G 212 [AV.aU 0 g 0 (length xs),u64 u] [ah.aN g 1 false xs] [bC.loop [2,3,4,5,6,7,8,9,10,11,12,13,14,15,16,17,18,19] 1 (bF.exit 0) [AV.aU 0 g' 0 (length ys),AV.lit (Value.int IntKind.u64 (↑v:Int)),AV.aP,AV.aP,AV.aP,AV.aP,AV.aP,AV.aP,AV.aP,AV.aP,AV.aP,AV.aP,AV.aP,AV.aP,AV.aP,AV.aP,AV.aP,AV.aP,AV.aP,AV.aP] [ah.aN g' 1 false ys]] =
 some (aS.ret (AV.aU 0 (g'+1) 0 (length ys+1)),[ah.aN (g'+1) 1 false (ys++[[AV.lit (Value.int IntKind.u8 (IntKind.wrap IntKind.u8 (↑v:Int)))]])],[Rq 1 212 0 { aL:=aC 20 [(0,AV.aU 0 g 0 (length xs)),(1,AV.lit (Value.int IntKind.u64 (↑u:Int)))],H:=[ah.aN g 1 false xs] } (bF.exit 0) { aL:=aC 20 [(0,AV.aU 0 g' 0 (length ys)),(1,AV.lit (Value.int IntKind.u64 (↑v:Int)))],H:=[ah.aN g' 1 false ys] },g'=g',length ys=length ys,(length ys+1)*1<=140737488355328]):=zQ
theorem aqm(xs ys:List (List AV))(g g' u v:Nat)(hl:ys.length<=1000000000)(hL:Rq 1 212 0 (SY xs g u) (.exit 0) { aL:=aC 20 [(0,.aU 0 g' 0 ys.length),(1,u64 v)],H:=[.aN g' 1 false ys] })(b:Int)(hb:IntKind.wrap .u8 (v:Int)=b)(h:[ah.aN (g'+1) 1 false (ys++[[AV.lit (Value.int IntKind.u8 (IntKind.wrap IntKind.u8 (↑v:Int)))]])]=[ah.aN (g'+1) 1 false (ys++[[AV.lit (Value.int IntKind.u8 b)]])]):ak P G 212 [AV.aU 0 g 0 (length xs),u64 u] [ah.aN g 1 false xs] (aS.ret (AV.aU 0 (g'+1) 0 (length ys+1))) [ah.aN (g'+1) 1 false (ys++[[AV.lit (Value.int IntKind.u8 b)]])]:=by
 have eH:=h;exact ak.heap (xq _ (ad6 xs ys g g' u v) ⟨(@hL ),(rfl),(rfl),zO,yO⟩) eH
theorem digit_eq(u:Nat):IntKind.wrap IntKind.u8 ↑(BitVec.toNat (BitVec.ofInt (IntKind.bits IntKind.u8) (IntKind.wrap IntKind.u8 (↑u:Int)) ||| BitVec.ofInt (IntKind.bits IntKind.u8) 128))=(UInt8.ofNat (u % 128+128)).toNat:=by
 have e0:128=(128:Int):=rfl;show IntKind.wrap IntKind.u8 ((u % 256 % 2^8) ||| (128 % 2^8):Nat)=_;have e1:∀x:Nat,x<256->(x % 2^8) ||| (128 % 2^8)=x % 128+128:=fun x hx=>by
  have a1:=Nat.mod_eq_of_lt hx;have a2:128 % 2^8=2^7*1:=rfl;have a3:=(Nat.two_pow_add_eq_or_of_lt (show x % 128<2^7 from Nat.mod_lt _ zD) 1).symm;rcases y08 x 128 with h|h
  .grind
  .have a4:x=2^7*1 ||| x % 128:=by omega
   grind
 have:=e1 (u % 256) (Nat.mod_lt _ zD);rw[this,show u % 256 % 128=u % 128 by omega,ae4 zO,UInt8.toNat_ofNat'];grind
theorem LA{v:Nat}(h:v<128):IntKind.wrap .u8 v=(UInt8.ofNat v).toNat:=by
 rw[ae4 zO,UInt8.toNat_ofNat'];grind
theorem aqn(u:Nat):Int.fdiv ↑u (2^min (Int.toNat 7) (IntKind.bits IntKind.u64))=(u/128:Nat):=by
 show Int.fdiv u (2^7)=_;grind
theorem UQ:∀(f u g:Nat)(xs:List (List AV)),u<128*128^f->xs.length+f<=1000000000->(∀x∈xs,AV.aM [] x=true) ->
 Rq 1 212 0 (SY xs g u) (.exit 0) { aL:=aC 20 [(0,.aU 0 (g+(um f u).length) 0 (xs++jl (um f u)).length),(1,u64 (xX f u))],H:=[.aN (g+(um f u).length) 1 false (xs++jl (um f u))] }
 |0,u,g,xs,hu,hl,hx=>by
  have e:xs++jl (um 0 u)=xs:=by simp[um,jl]
  rw[e];exact abr xs g u (by simpa using hu) trivial
 |f+1,u,g,xs,hu,hl,hx=>by
  by_cases h:u<128
  .grind [jl,um,xX,abr]
  .refine ad5 xs g u h zO hx _ _ ?_;have ih:=UQ f (u/128) (g+1) (xs++[aa8 (UInt8.ofNat (u % 128+128))]) (by rw[Nat.pow_succ]at hu;omega) (by simp;omega) (by
    intro x hx';rcases yI.1 hx' with h'|h'
    .exact hx x h'
    .rw [mem_singleton.1 h'];rfl)
   simp only[um,xX,h,if_false];rw[digit_eq,aqn];have e2:xs++jl (UInt8.ofNat (u % 128+128)::um f (u/128))=(xs++[aa8 (UInt8.ofNat (u % 128+128))])++jl (um f (u/128)):=by simp[jl]
   have e3:g+(UInt8.ofNat (u % 128+128)::um f (u/128)).length=g+1+(um f (u/128)).length:=by simp;omega
   rw[e2,e3];unfold SY at ih;rw[show(xs++[aa8 (UInt8.ofNat (u % 128+128))]).length=xs.length+1 by simp]at ih;exact ih
theorem WX(xs:List (List AV))(g u:Nat)(hu:u<18446744073709551616)(hl:xs.length<=100000000)(hx:∀x∈xs,AV.aM [] x=true) :
 ak P G 212 [.aU 0 g 0 xs.length,u64 u] [.aN g 1 false xs] (.ret (.aU 0 (g+(num u).length) 0 (xs.length+(num u).length))) [.aN (g+(num u).length) 1 false (xs++jl (num u))]:=by
 have hu':u<128*128^9:=zO
 have hp:=JL 9 u;have:=aqm xs (xs++jl (um 9 u)) g (g+(um 9 u).length) u (xX 9 u) (by simp[eu];omega) (UQ 9 u g xs hu' zO hx) _ (LA (JK 9 u hu')) (by rw[LA (JK 9 u hu')]);have e1:g+(num u).length=g+(um 9 u).length+1:=by simp[num];omega
 have e2:xs++jl (num u)=(xs++jl (um 9 u))++[aa8 (UInt8.ofNat (xX 9 u))]:=by simp[num,jl]
 have e3:xs.length+(num u).length=(xs++jl (um 9 u)).length+1:=by simp[num,eu];omega
 rw[e1,e2,e3];exact this
theorem aDa(u:Nat):Vv P G 256 [u64 u] [] [bC.br true] =
 some (aS.ret (AV.sl 1 true [[AV.lit (Value.int IntKind.u8 (IntKind.wrap IntKind.u8 (↑u:Int)))]]),[],[decide ((↑u:Int)<(128:Int))=true]):=zQ
theorem aEX(u:Nat)(hu:u<128)(b:Int)(hb:IntKind.wrap .u8 (u:Int)=b)(h:([[AV.lit (Value.int IntKind.u8 (IntKind.wrap IntKind.u8 (↑u:Int)))]])=([[AV.lit (Value.int IntKind.u8 b)]])):Cq 256 [u64 u] (AV.sl 1 false [[AV.lit (Value.int IntKind.u8 b)]]):=by
 have e1:=h;exact ak.out (xq _ (aDa u) ⟨(y15 zO),yO⟩) (aF.GJ e1)
theorem aDb(u:Nat)(r:List UInt8):Vv P G 256 [u64 u] [] [bC.br false,bC.call [] (aS.ret (Cy r)) [],bC.Gu ([AV.lit (Value.int IntKind.u8 (IntKind.wrap IntKind.u8 (IntKind.wrap IntKind.u64 ((↑(u % 128):Int)+128))))]::jl r)] =
 some (aS.ret (AV.sl 1 false ([AV.lit (Value.int IntKind.u8 (IntKind.wrap IntKind.u8 (IntKind.wrap IntKind.u64 ((↑(u % 128):Int)+128))))]::jl r)),[],[decide ((↑u:Int)<(128:Int))=false,(128:Int)≠(0:Int),(128:Int)≠(0:Int),Cq 256 [AV.lit (Value.int IntKind.u64 (IntKind.wrap IntKind.u64 (Int.tdiv (↑u:Int) 128)))] (AV.sl 1 false (jl r)),jl r≠[],(1+length (jl r))*1<=140737488355328,0=0,List.take (1+length (jl r)) ([AV.lit (Value.int IntKind.u8 (IntKind.wrap IntKind.u8 (IntKind.wrap IntKind.u64 (Int.tmod (↑u:Int) 128+128))))]::List.append._f [] PUnit.unit (jl r))=[AV.lit (Value.int IntKind.u8 (IntKind.wrap IntKind.u8 (IntKind.wrap IntKind.u64 ((↑(u % 128):Int)+128))))]::jl r,length ([AV.lit (Value.int IntKind.u8 (IntKind.wrap IntKind.u8 (IntKind.wrap IntKind.u64 ((↑(u % 128):Int)+128))))]::jl r)=1+length (jl r),∀(c:List AV),c∈[AV.lit (Value.int IntKind.u8 (IntKind.wrap IntKind.u8 (IntKind.wrap IntKind.u64 ((↑(u % 128):Int)+128))))]::jl r->List.all c AV.fJ=true]):=zQ
theorem aIa(u:Nat)(hu:¬u<128)(r:List UInt8)(hr:r.length<=1000)(hr0:¬jl r=[])(hv:Cq 256 [u64 (u/128 % 18446744073709551616)] (Cy r))(b:Int)(h:((List.take (1+length (jl r)) ([AV.lit (Value.int IntKind.u8 (IntKind.wrap IntKind.u8 (IntKind.wrap IntKind.u64 ((↑(u % 128):Int)+128))))]::jl r)=[AV.lit (Value.int IntKind.u8 (IntKind.wrap IntKind.u8 (IntKind.wrap IntKind.u64 ((↑(u % 128):Int)+128))))]::jl r)/\((length ([AV.lit (Value.int IntKind.u8 (IntKind.wrap IntKind.u8 (IntKind.wrap IntKind.u64 ((↑(u % 128):Int)+128))))]::jl r)=1+length (jl r))/\((∀(c:List AV),c∈[AV.lit (Value.int IntKind.u8 (IntKind.wrap IntKind.u8 (IntKind.wrap IntKind.u64 ((↑(u % 128):Int)+128))))]::jl r->List.all c AV.fJ=true)/\([AV.lit (Value.int IntKind.u8 (IntKind.wrap IntKind.u8 (IntKind.wrap IntKind.u64 ((↑(u % 128):Int)+128))))]::jl r)=([AV.lit (Value.int IntKind.u8 b)]::jl r))))):Cq 256 [u64 u] (AV.sl 1 false ([AV.lit (Value.int IntKind.u8 b)]::jl r)):=by
 obtain⟨o2,h⟩:=h;obtain⟨o3,h⟩:=h;obtain⟨o4,h⟩:=h;have e1:=h;exact ak.out (xq _ (aDb u r) ⟨(y16 zO),zO,zO,(@hv ),hr0,(by rw[eu];omega),(rfl),o2,o3,o4,yO⟩) (aF.GJ e1)
def WY:Nat->Nat->List UInt8
 |0,u=>[UInt8.ofNat u]
 |f+1,u=>if u<128 then[UInt8.ofNat u]else UInt8.ofNat (u % 128+128)::WY f (u/128)
theorem UR:∀ f u,WY f u=um f u++[UInt8.ofNat (xX f u)]
 |0,u=>rfl
 |f+1,u=>by
  simp only[WY,um,xX];split
  .rfl
  .rw [UR f (u/128)];rfl
theorem aCb(u:Nat):IntKind.wrap IntKind.u8 (IntKind.wrap IntKind.u64 ((↑(u % 128):Int)+128))=((UInt8.ofNat (u % 128+128)).toNat:Int):=by
 have e1:((↑(u % 128):Int)+128)=((u % 128+128:Nat):Int):=zO
 rw[e1,wrap64 zO,ae4 zO,UInt8.toNat_ofNat'];congr 1;exact(Nat.mod_eq_of_lt zO).symm
theorem aA7:∀(f u:Nat),f<=9->u<18446744073709551616->u<128*128^f->Cq 256 [u64 u] (Cy (WY f u))
 |0,u,hf,hu,h=>aEX u (by simpa using h) _ (LA (by simpa using h)) (by rw[LA (by simpa using h)])
 |f+1,u,hf,hu,h=>by
  simp only[WY];by_cases hc:u<128
  .rw [yL hc];exact aEX u hc _ (LA hc) (by rw[LA hc])
  .rw [yK hc];have ih:=aA7 f (u/128) zO zO (by rw[Nat.pow_succ]at h;omega);have hl:(WY f (u/128)).length<=10/\1<=(WY f (u/128)).length:=by grind[UR,JL]
   refine aIa u hc (WY f (u/128)) zO (fun e=>?_) (by rw[Nat.mod_eq_of_lt zO];exact ih) _ ⟨?_,?_,?_,?_⟩
   .have:=yJ length e;rw[eu]at this;simp only[y11]at this;omega
   .rw [y23 (by simp;omega)]
   .simp;omega
   .intro c hc';rcases yH.1 hc' with rfl|h'
    .rfl
    .exact iC _ c h'
   .rw [aCb]
theorem azU(u:Nat)(hu:u<18446744073709551616):Cq 256 [u64 u] (Cy (num u)):=by
 have:=aA7 9 u zO hu (by
  have:(128:Nat)*128^9=1180591620717411303424:=zD
  omega)
 rw[UR]at this;exact this
def jg(v:CV):Int:=if wf v=true then(if 16<dp v then 2 else 0)else 1
theorem NM(v:CV)(d:Nat)(b:Bool)(e:Int)(hv:Cq 210 [val v] (.bq [int (if b=true then(d:Int)else 0),bool b]))(h:((((b)=true)->((((if b=true then(d:Int)else 0)>16)->2=e)/\((¬(if b=true then(d:Int)else 0)>16)->0=e)))/\(((b)=false)->1=e))):Cq 111 [val v] (int e):=by
 rcases y00 ((b))with c1|c1
 .have h:=h.1 c1;have fT:(!b)=false:=(y27 (c1));by_cases c2:((if b=true then(d:Int)else 0)>16)
  .have h:=h.1 c2;exact aA (aF.int_eq h) [kc [] hv,kf fT,kt (qT c2)]
  .have h:=h.2 c2;exact aA (aF.int_eq h) [kc [] hv,kf fT,kf (qF c2)]
 .have h:=h.2 c1;exact aA (aF.int_eq h) [kc [] hv,kt (show(!b)=true from(y27 (c1)))]
theorem fG(v:CV)(dK:QG v)(hd:dp v<=1000001):Cq 111 [val v] (int (jg v)):=by
 have hf:=abo v dK hd;unfold Es at hf;refine NM v (dp v) (wf v) _ hf ⟨fun h=>⟨fun h2=>?_,fun h2=>?_⟩,fun h=>?_⟩
 .rw [yL h]at h2;simp only[jg,h,if_true];rw[yL zO]
 .rw [yL h]at h2;simp only[jg,h,if_true];rw[yK zO]
 .simp [jg,h]
theorem aIb(n:Int)(s:yP)(l:List CV)(b:Bool)(h:(((s=ByteArray.mk #[])->((l.length:Int)==0)=(b))/\((¬s=ByteArray.mk #[])->(false)=(b)))):Cq 254 [rR 1 n s l] (Am.bool b):=by
 have bS:Am.aF (Am.bool (ByteArray.toList s==ByteArray.toList (ByteArray.mk #[]))) (Am.bool (decide (s=ByteArray.mk #[]))):=(aF.of_eq (by simp only[rC]));by_cases c1:(s=ByteArray.mk #[])
 .have h:=h.1 c1;exact aA (aF.aI h) [kO,kv 10 bS,kt (qT c1),kN 14 (fA l)]
 .have h:=h.2 c1;exact aA (aF.aI h) [kO,kv 10 bS,kf (qF c1)]
theorem aIc(n:Int)(s:yP)(l:List CV)(b:Bool)(h:(((n=0)->((l.length:Int)==0)=(b))/\((¬n=0)->(false)=(b)))):Cq 254 [rR 2 n s l] (Am.bool b):=by
 by_cases c1:(n=0)
 .have h:=h.1 c1;exact aA (aF.aI h) [kY,kO,kt (nW.2 c1),kN 25 (fA l)]
 .have h:=h.2 c1;exact aA (aF.aI h) [kY,kO,kf (qN.2 c1)]
theorem aId(k n:Int)(s:yP)(l:List CV)(h1:k≠1)(h2:k≠2)(h3:k≠3)(h:True):Cq 254 [rR k n s l] (Am.bool false):=by
 have _:=h;exact aj [kf (show(k==1)=false from(qF zO)),kf (show(k==2)=false from(qF zO)),kf (show(k==3)=false from(qF zO))]
def av6(n:Int)(s:yP)(l:List CV)(i:Nat):St:={ aL:=aC 52 [(1,.ptr 0 0),(2,bool false),(3,int i)],H:=[.box [int 3,int n,str s,.sl 4 false (iB l)]] }
theorem aFQ(n:Int)(s:yP)(l:List CV)(i:Nat)(hi:l.length<=i)(h:True):Rq 0 254 0 (av6 n s l i) (bF.exit 1) (sM 52 [(1,.ptr 0 0),(2,Am.bool false)] [.box [int 3,int n,str s,.sl 4 false (iB l)]]):=by
 have _:=h;exact aG [kN 33 (fA l),kj ((i:Int)<l.length)] (aB 52 [1,2]) 1
theorem aEm(n:Int)(s:yP)(l:List CV)(i:Nat)(x:CV)(hi:i<l.length)(hl:l.length<=9223372036854775807)(hx:l[i]?=some x)(hv:Cq 254 [val x] (bool (wf x)))(ex:bF)(h:((((wf x)=true)->Rq 0 254 0 (sM 52 [(1,.ptr 0 0),(2,Am.bool false),(3,int ↑(i+1))] [.box [int 3,int n,str s,.sl 4 false (iB l)]]) ex (sM 52 [(1,.ptr 0 0),(2,Am.bool false)] [.box [int 3,int n,str s,.sl 4 false (iB l)]]))/\(((wf x)=false)->bF.ret=ex))):Rq 0 254 0 (av6 n s l i) ex (sM 52 [(1,.ptr 0 0),(2,Am.bool false)] [.box [int 3,int n,str s,.sl 4 false (iB l)]]):=by
 have bS:=lU (fA l);have fT:decide ((i:Int)<(l.length:Int))=true:=(qT zO);have jw:(0:Int)<=(i:Int)/\(iB l)[Int.toNat (i:Int)]?=some (aQ x):=(by rw[lC];exact bG hx);rcases y00 ((wf x))with c2|c2
 .have h:=h.1 c2;exact aJ [kv 33 bS,kt fT,ko (bC.elem (aQ x)),kp jw,kc [] hv,kf (show(!wf x)=false from(y27 (c2))),kW 36 (i+1) ↑(i+1)] (aB 52 [1,2,3]) 1 h
 .have h:=h.2 c2;have eX:=h;exact bN.to ((show Rq 0 254 0 (av6 n s l i) bF.ret (sM 52 [(1,.ptr 0 0),(2,Am.bool false)] [.box [int 3,int n,str s,.sl 4 false (iB l)]])from aG [kv 33 bS,kt fT,ko (bC.elem (aQ x)),kp jw,kc [] hv,kt (show(!wf x)=true from(y27 (c2)))] (aB 52 [1,2]) 1)) eX (eB.of_eq rfl)
theorem aIe(n:Int)(s:yP)(l:List CV)(b:Bool)(hL:Rq 0 254 0 (av6 n s l 0) (if Lb l=true then .exit 1 else .ret) { aL:=aC 52 [(1,.ptr 0 0),(2,bool false)],H:=[.box [int 3,int n,str s,.sl 4 false (iB l)]] })(h:(((Lb l=true)->(((n=0)->(decide (s=ByteArray.mk #[]))=(b))/\((¬n=0)->(false)=(b))))/\((¬Lb l=true)->(false)=(b)))):Cq 254 [rR 3 n s l] (Am.bool b):=by
 let l1:List fP:=[kY,kY,kO];by_cases c1:(Lb l=true)
 .have h:=h.1 c1;have bS:Rq 0 254 0 (sM 52 [(1,.ptr 0 0),(2,Am.bool false),(3,int 0)] [.box [int 3,int n,str s,.sl 4 false (iB l)]]) (bF.exit 1) (sM 52 [(1,.ptr 0 0),(2,Am.bool false)] [.box [int 3,int n,str s,.sl 4 false (iB l)]]):=(by have h0:=hL;simp only[yL c1]at h0;exact h0);let l2:List fP:=l1++[kl (rG [(0,1),(4,48)]) 1 bS];by_cases c2:(n=0)
  .have h:=h.1 c2;exact aA (aF.aI h) (l2++[kt (nW.2 c2),kv 50 (show Am.aF (Am.bool (ByteArray.toList s==ByteArray.toList (ByteArray.mk #[]))) (Am.bool (decide (s=ByteArray.mk #[])))from(aF.of_eq (by simp only[rC])))])
  .have h:=h.2 c2;exact aA (aF.aI h) (l2++[kf (qN.2 c2)])
 .have h:=h.2 c1;exact aA (aF.aI h) (l1++[kl (rG [(0,1),(4,48)]) 1 (show Rq 0 254 0 (sM 52 [(1,.ptr 0 0),(2,Am.bool false),(3,int 0)] [.box [int 3,int n,str s,.sl 4 false (iB l)]]) bF.ret (sM 52 [(1,.ptr 0 0),(2,Am.bool false)] [.box [int 3,int n,str s,.sl 4 false (iB l)]])from(by have h0:=hL;simp only[yK c1]at h0;exact h0))])
theorem aIf(k n:Int)(s:yP)(l:List CV)(h3:k≠3)(h:True):Cq 255 [rR k n s l] (int 0):=by
 have _:=h;exact aj [kt (show(k != 3)=true from(y27 (qF zO)))]
def aDc(n:Int)(s:yP)(l:List CV)(d:Int)(i:Nat):St:={ aL:=aC 25 [(1,.ptr 0 0),(3,int d),(4,int i)],H:=[.box [int 3,int n,str s,.sl 4 false (iB l)]] }
theorem aFR(n:Int)(s:yP)(l:List CV)(d:Int)(i:Nat)(hi:l.length<=i)(h:True):Rq 0 255 0 (aDc n s l d i) (bF.exit 0) (sM 25 [(3,int d)] [.box [int 3,int n,str s,.sl 4 false (iB l)]]):=by
 have _:=h;exact aG [kN 11 (fA l),kj ((i:Int)<l.length)] (aB 25 [3]) 1
theorem aEn(n:Int)(s:yP)(l:List CV)(d i:Nat)(x:CV)(hi:i<l.length)(hl:l.length<=9223372036854775807)(hx:l[i]?=some x)(hv:Cq 255 [val x] (int (dp x:Int)))(ex:bF)(s':St)(h:Rq 0 255 0 (sM 25 [(1,.ptr 0 0),(3,int (if(↑(dp x):Int)>(d:Int)then(↑(dp x):Int)else(d:Int))),(4,int ↑(i+1))] [.box [int 3,int n,str s,.sl 4 false (iB l)]]) ex s'):Rq 0 255 0 (aDc n s l (d:Int) i) ex s':=by
 exact aJ [kN 11 (fA l),ki ((i:Int)<l.length),ko (bC.elem (aQ x)),kp (show(0:Int)<=(i:Int)/\(iB l)[Int.toNat (i:Int)]?=some (aQ x)from(by rw[lC];exact bG hx)),kc [] hv,kW 14 (i+1) ↑(i+1)] (aB 25 [1,3,4]) 1 h
theorem aIg(n:Int)(s:yP)(l:List CV)(a:Int)(hd:JO l<=1000001)(hL:Rq 0 255 0 (aDc n s l 0 0) (.exit 0) { aL:=aC 25 [(3,int (JO l:Int))],H:=[.box [int 3,int n,str s,.sl 4 false (iB l)]] })(h:((↑(JO l+1):Int):Int)=(a)):Cq 255 [rR 3 n s l] (int a):=by
 exact aA (aF.int_eq h) [kY,kl (rG [(0,1),(2,1),(5,20)]) 1 hL,kW 24 ((↑(JO l):Int)+1) (↑(JO l+1):Int)]
theorem aAh(v:CV)(e:Int)(hd:dp v<=1000001)(hf:Cq 254 [val v] (bool (wf v)))(hv:Cq 255 [val v] (int (dp v:Int)))(h:((((wf v)=true)->((((↑(dp v):Int)>16)->2=e)/\((¬(↑(dp v):Int)>16)->0=e)))/\(((wf v)=false)->1=e))):Cq 181 [val v] (int e):=by
 rcases y00 ((wf v))with c1|c1
 .have h:=h.1 c1;have fT:(!wf v)=false:=(y27 (c1));by_cases c2:((↑(dp v):Int)>16)
  .have h:=h.1 c2;exact aA (aF.int_eq h) [kc [] hf,kf fT,kc [] hv,kt (qT c2)]
  .have h:=h.2 c2;exact aA (aF.int_eq h) [kc [] hf,kf fT,kc [] hv,kf (qF c2)]
 .have h:=h.2 c1;exact aA (aF.int_eq h) [kc [] hf,kt (show(!wf v)=true from(y27 (c1)))]
theorem axx(n:Int)(s:yP)(l:List CV)(hl:l.length<=9223372036854775807)(hv:∀x∈l,Cq 254 [val x] (bool (wf x))):∀(m i:Nat),l.length-i=m->i<=l.length ->
 Rq 0 254 0 (av6 n s l i) (if Lb (l.drop i)=true then .exit 1 else .ret) { aL:=aC 52 [(1,.ptr 0 0),(2,bool false)],H:=[.box [int 3,int n,str s,.sl 4 false (iB l)]] }:=by
 intro m
 induction m with
 |zero =>
  intro i hm hi;rw[y17 zO];simp only[Lb,if_true];exact aFQ n s l i zO trivial
 |succ m ih =>
  intro i hm hi;have bg:i<l.length:=zO
  have e:=y01 bg;refine aEm n s l i l[i] bg hl (yA bg) (hv _ (y03 bg)) _ ⟨fun h=>?_,fun h=>?_⟩
  .rw [e];simp only[Lb,h,Bool.true_and];exact ih (i+1) zO zO
  .rw [e];simp[Lb,h]
theorem aCc(v:CV):QG v->Cq 254 [val v] (bool (wf v)):=by
 refine CV.ind (p:=fun v=>QG v->Cq 254 [val v] (bool (wf v))) (fun k n s l ih dK=>?_) v;cases dK with
 |mk _ _ _ _ hn hs hl jH =>
  rw[val_mk];by_cases h1:k=1
  .subst h1;have ew:wf (.mk 1 n s l)=(decide (s = .empty)&&decide (l.length=0)):=by simp[wf]
   rw[ew];refine aIb n s l _ ⟨fun a=>?_,fun a=>?_⟩
   .rw [y15 (show s = .empty from a),Bool.true_and];by_cases h:l.length=0<;>simp[h]
   .rw [y16 (show ¬s = .empty from a)];rfl
  .by_cases h2:k=2
   .subst h2;have ew:wf (.mk 2 n s l)=(decide (n=0)&&decide (l.length=0)):=by simp[wf]
    rw[ew];refine aIc n s l _ ⟨fun a=>?_,fun a=>?_⟩
    .rw [y15 a,Bool.true_and];by_cases h:l.length=0<;>simp[h]
    .rw [y16 a];rfl
   .by_cases h3:k=3
    .subst h3;have ew:wf (.mk 3 n s l)=(decide (n=0)&&decide (s = .empty)&&Lb l):=by simp[wf]
     rw[ew];have hL:=axx n s l hl (fun x hx=>ih x hx (jH x hx)) l.length 0 zO zO;rw[drop_zero]at hL;refine aIe n s l _ hL ⟨fun hw=>⟨fun a=>?_,fun a=>?_⟩,fun hw=>?_⟩
     .rw [hw,y15 a];simp[empty_eq]
     .rw [y16 a];simp
     .rw [Bool.eq_false_iff.2 hw];simp
    .have e:wf (.mk k n s l)=false:=by simp[wf,h1,h2,h3]
     rw[e];exact aId k n s l h1 h2 h3 trivial
theorem aEo(n:Int)(s:yP)(l:List CV)(hl:l.length<=9223372036854775807)(hv:∀x∈l,Cq 255 [val x] (int (dp x:Int))):∀(m i d:Nat),l.length-i=m->i<=l.length ->
 Rq 0 255 0 (aDc n s l d i) (.exit 0) { aL:=aC 25 [(3,int ((max d (JO (l.drop i)):Nat):Int))],H:=[.box [int 3,int n,str s,.sl 4 false (iB l)]] }:=by
 intro m
 induction m with
 |zero =>
  intro i d hm hi;rw[y17 zO];simp only[JO,Nat.max_zero];exact aFR n s l d i zO trivial
 |succ m ih =>
  intro i d hm hi;have bg:i<l.length:=zO
  have e:=y01 bg;refine aEn n s l d i l[i] bg hl (yA bg) (hv _ (y03 bg)) _ _ ?_;have:=ih (i+1) (max d (dp l[i])) zO zO;rw[e];simp only[JO];have e2:(if((dp l[i]:Nat):Int)>(d:Int)then((dp l[i]:Nat):Int)else(d:Int))=((max d (dp l[i]):Nat):Int):=by
   split<;>omega
  rw[e2,show max d (max (dp l[i]) (JO (l.drop (i+1))))=max (max d (dp l[i])) (JO (l.drop (i+1))) by omega];unfold aDc at this;exact this
theorem aDd(v:CV):QG v->dp v<=1000001->Cq 255 [val v] (int (dp v:Int)):=by
 refine CV.ind (p:=fun v=>QG v->dp v<=1000001->Cq 255 [val v] (int (dp v:Int))) (fun k n s l ih dK hd=>?_) v;cases dK with
 |mk _ _ _ _ hn hs hl jH =>
  rw[val_mk];by_cases h3:k=3
  .subst h3;have hd3:JO l<=1000000:=by simp only[dp,if_true]at hd;omega
   have hL:=aEo n s l hl (fun x hx=>ih x hx (jH x hx) (by have:=Sr hx;omega)) l.length 0 0 zO zO;rw[drop_zero,Nat.zero_max]at hL;have ed:dp (.mk 3 n s l)=JO l+1:=by simp[dp]
   rw[ed];exact aIg n s l _ zO hL rfl
  .have e:dp (.mk k n s l)=0:=by simp[dp,h3]
   rw[e];exact aIf k n s l h3 trivial
theorem avK(v:CV)(dK:QG v)(hd:dp v<=1000001):Cq 181 [val v] (int (jg v)):=by
 refine aAh v _ hd (aCc v dK) (aDd v dK hd) ⟨fun h=>⟨fun h2=>?_,fun h2=>?_⟩,fun h=>?_⟩
 .simp only[jg,h,if_true];rw[yL zO]
 .simp only[jg,h,if_true];rw[yK zO]
 .simp [jg,h]
theorem sK(xs:List (List AV))(g u n:Nat)(hn:n=xs.length)(hu:u<18446744073709551616)(hl:xs.length<=100000000)(hx:∀x∈xs,AV.aM [] x=true) :
 ak P G 212 [.aU 0 g 0 n,u64 u] [.aN g 1 false xs] (.ret (.aU 0 (g+(num u).length) 0 (n+(num u).length))) [.aN (g+(num u).length) 1 false (xs++jl (num u))]:=by
 subst hn;exact WX xs g u hu hl hx
def kinds(i j:Nat):List ah:=[.box [.lit .nilFunc,.lit (.func (.func 211) #[] #[]),.lit (.func (.func 214) #[] #[]),.fn (.func 215) [] [.ptr j 0]],.box [.ptr i 0]]
theorem ah0  (h:True):ak P G 112 [] [] (aS.ret (AV.ptr 0 0)) (kinds 0 1):=by
 exact aj [kR (1:Int) (4:Int),kR (2:Int) (4:Int),kR (3:Int) (4:Int)]
mutual
def gT:CV->List UInt8
 |.mk k n s l=>if k=1 then 1::num (vP n)else if k=2 then 2::(num s.size++s.data.toList)else 3::(num l.length++je l)
def je:List CV->List UInt8
 |[]=>[]
 |v::l=>gT v++je l
end
mutual
def Cr:CV->Nat
 |.mk k n s l=>if k=1 then 1+(num (vP n)).length else if k=2 then 2+(num s.size).length else 1+(num l.length).length+u7 l
def u7:List CV->Nat
 |[]=>0
 |v::l=>Cr v+u7 l
end
theorem ah1(a:List UInt8)(g:Nat)(n:Int)(s:yP)(l:List CV)(hn : -9223372036854775808<=n/\n<9223372036854775808)(hu:vP n<18446744073709551616)(hl:a.length<=10000000)(h:(aF (AV.aU 0 (g+1+length (num (vP n))) 0 (length a+1+length (num (vP n)))) (AV.aU 0 (g+(1+length (num (vP n)))) 0 (length (a++1::num (vP n)))))/\([ah.aN (g+1+length (num (vP n))) 1 false (jl a++[[AV.lit (Value.int IntKind.u8 1)]]++jl (num (vP n)))]=[ah.aN (g+(1+length (num (vP n)))) 1 false (jl (a++1::num (vP n)))])):ak P G 211 [.aU 0 g 0 a.length,rR 1 n s l] [ah.aN g 1 false (jl a)] (aS.ret (AV.aU 0 (g+(1+length (num (vP n)))) 0 (length (a++1::num (vP n))))) [ah.aN (g+(1+length (num (vP n)))) 1 false (jl (a++1::num (vP n)))]:=by
 have qj:∀(x:List AV),x∈jl a++[[AV.lit (Value.int IntKind.u8 1)]]++jl (num (vP n))->AV.aM [] x=true:=(by exact(Am.dx (Am.dx (dw _) (Am.dM rfl Am.eU)) (dw _)));obtain⟨e1,eH⟩:=h;exact ak.heap (ak.out ((aj [kq g,kp (eu a).symm,vV ((length a+1)*1),kc [] (@ae5 (n) zO),kc [0] (@sK (jl a++[[AV.lit (Value.int IntKind.u8 1)]]) (g+1) (vP n) (length a+1) (by simp only[yD,yE,y11,y10,eu,dw,iC,eD,j5,jk]<;>omega) zO (by simp only[yD,yE,y11,y10,eu,dw,iC,eD,j5,jk]<;>omega) (by exact(Am.dx (dw _) (Am.dM rfl Am.eU)))),kp qj,kp (show ∀(x:List AV),x∈jl a++[[AV.lit (Value.int IntKind.u8 1)]]->AV.aM [] x=true from(by exact(Am.dx (dw _) (Am.dM rfl Am.eU)))),kp qj])) e1) eH
theorem ah2(n:Int)(s:yP)(l:List CV)(hn : -9223372036854775808<=n/\n<9223372036854775808)(hu:vP n<18446744073709551616)(h:True):Cq 211 [aK,rR 1 n s l] (Cy (1::num (vP n))):=by
 exact aj [Qx [AV.lit (Value.int IntKind.u8 1)],vV 1,kc [] (@ae5 (n) zO),kc [1] (@sK ([[AV.lit (Value.int IntKind.u8 1)]]) (0) (vP n) (1) (rfl) zO (by simp only[yD,yE,y11,y10,eu,dw,iC,eD,j5,jk]<;>omega) (by exact(Am.dM rfl Am.eU))),ko (bC.Gu ([AV.lit (Value.int IntKind.u8 1)]::jl (num (vP n)))),kp (show ∀(x:List AV),x∈[[AV.lit (Value.int IntKind.u8 1)]]++jl (num (vP n))->AV.aM [] x=true from(by exact(Am.dx (Am.dM rfl Am.eU) (dw _)))),kp (show ∀(x:List AV),x∈[[AV.lit (Value.int IntKind.u8 1)]]->AV.aM [] x=true from(by exact(Am.dM rfl Am.eU))),kp (show 0+length (num (vP n))=0+length (num (vP n))from(rfl)),XV (1+length (num (vP n))) ([AV.lit (Value.int IntKind.u8 1)]::jl (num (vP n))) (by simp only[yD,yE,y11,y10,eu,dw,iC,eD,j5,jk]<;>omega),kp (show length ([AV.lit (Value.int IntKind.u8 1)]::jl (num (vP n)))=1+length (num (vP n))from(by simp only[yD,yE,y11,y10,eu,dw,iC,eD,j5,jk]<;>omega)),kp (show ∀(c:List AV),c∈[AV.lit (Value.int IntKind.u8 1)]::jl (num (vP n))->List.all c AV.fJ=true from(by exact(Am.dM rfl (iC _))))]
theorem ah3(a:List UInt8)(g:Nat)(n:Int)(s:yP)(l:List CV)(hs:s.size<=10000000)(hl:a.length<=10000000)(h:(((length a+1+length (num (ByteArray.size s % 18446744073709551616))+length (List.map (fun(c:UInt8)=>[AV.lit (Value.int IntKind.u8 (↑(UInt8.toNat c):Int))]) (Array.toList (ByteArray.data s))))*1<=140737488355328)/\(aF (AV.aU 0 (g+1+length (num (ByteArray.size s % 18446744073709551616))+1) 0 (length a+1+length (num (ByteArray.size s % 18446744073709551616))+length (List.map (fun(c:UInt8)=>[AV.lit (Value.int IntKind.u8 (↑(UInt8.toNat c):Int))]) (Array.toList (ByteArray.data s))))) (AV.aU 0 (g+(2+length (num (ByteArray.size s)))) 0 (length (a++2::(num (ByteArray.size s)++Array.toList (ByteArray.data s))))))/\([ah.aN (g+1+length (num (ByteArray.size s % 18446744073709551616))+1) 1 false (jl a++[[AV.lit (Value.int IntKind.u8 2)]]++jl (num (ByteArray.size s % 18446744073709551616))++List.map (fun(c:UInt8)=>[AV.lit (Value.int IntKind.u8 (↑(UInt8.toNat c):Int))]) (Array.toList (ByteArray.data s)))]=[ah.aN (g+(2+length (num (ByteArray.size s)))) 1 false (jl (a++2::(num (ByteArray.size s)++Array.toList (ByteArray.data s))))]))):ak P G 214 [.aU 0 g 0 a.length,rR 2 n s l] [ah.aN g 1 false (jl a)] (aS.ret (AV.aU 0 (g+(2+length (num (ByteArray.size s)))) 0 (length (a++2::(num (ByteArray.size s)++Array.toList (ByteArray.data s)))))) [ah.aN (g+(2+length (num (ByteArray.size s)))) 1 false (jl (a++2::(num (ByteArray.size s)++Array.toList (ByteArray.data s))))]:=by
 obtain⟨o1,h⟩:=h;obtain⟨e1,eH⟩:=h;exact ak.heap (ak.out ((aj [kq g,kp (eu a).symm,vV ((length a+1)*1),kc [0] (@sK (jl a++[[AV.lit (Value.int IntKind.u8 2)]]) (g+1) (ByteArray.size s % 18446744073709551616) (length a+1) (by simp only[yD,yE,y11,y10,eu,dw,iC,eD,j5,jk]<;>omega) zO (by simp only[yD,yE,y11,y10,eu,dw,iC,eD,j5,jk]<;>omega) (by exact(Am.dx (dw _) (Am.dM rfl Am.eU)))),kp (show ∀(x:List AV),x∈jl a++[[AV.lit (Value.int IntKind.u8 2)]]++jl (num (ByteArray.size s % 18446744073709551616))->AV.aM [] x=true from(by exact(Am.dx (Am.dx (dw _) (Am.dM rfl Am.eU)) (dw _)))),kp (show ∀(x:List AV),x∈jl a++[[AV.lit (Value.int IntKind.u8 2)]]->AV.aM [] x=true from(by exact(Am.dx (dw _) (Am.dM rfl Am.eU)))),kp (show g+1+length (num (ByteArray.size s % 18446744073709551616))=g+1+length (num (ByteArray.size s % 18446744073709551616))from(rfl)),kp (show length a+1+length (num (ByteArray.size s % 18446744073709551616))=length (jl a++[[AV.lit (Value.int IntKind.u8 2)]]++jl (num (ByteArray.size s % 18446744073709551616)))from(by simp only[yD,yE,y11,y10,eu,dw,iC,eD,j5,jk]<;>omega)),kp o1,kp (show ∀(x:List AV),x∈jl a++[[AV.lit (Value.int IntKind.u8 2)]]++jl (num (ByteArray.size s % 18446744073709551616))++List.map (fun(c:UInt8)=>[AV.lit (Value.int IntKind.u8 (↑(UInt8.toNat c):Int))]) (Array.toList (ByteArray.data s))->AV.aM [] x=true from(by exact(Am.dx (Am.dx (Am.dx (dw _) (Am.dM rfl Am.eU)) (dw _)) (j5 _))))])) e1) eH
theorem ah4(n:Int)(s:yP)(l:List CV)(hs:s.size<=10000000)(h:(((1+length (num (ByteArray.size s % 18446744073709551616))+length (List.map (fun(c:UInt8)=>[AV.lit (Value.int IntKind.u8 (↑(UInt8.toNat c):Int))]) (Array.toList (ByteArray.data s))))*1<=140737488355328)/\([AV.lit (Value.int IntKind.u8 2)]::jl (num (ByteArray.size s % 18446744073709551616))++List.map (fun(c:UInt8)=>[AV.lit (Value.int IntKind.u8 (↑(UInt8.toNat c):Int))]) (Array.toList (ByteArray.data s)))=(jl (2::(num (ByteArray.size s)++Array.toList (ByteArray.data s)))))):Cq 214 [aK,rR 2 n s l] (Cy (2::(num (ByteArray.size s)++Array.toList (ByteArray.data s)))):=by
 obtain⟨o1,h⟩:=h;have e1:=h;exact ak.out ((show Cq 214 [aK,rR 2 n s l] (.sl 1 false ([.lit (Value.int IntKind.u8 2)]::jl (num (ByteArray.size s % 18446744073709551616))++List.map (fun(c:UInt8)=>[.lit (Value.int IntKind.u8 (↑(UInt8.toNat c):Int))]) (Array.toList (ByteArray.data s))))from aj [Qx [AV.lit (Value.int IntKind.u8 2)],vV 1,kc [1] (@sK ([[AV.lit (Value.int IntKind.u8 2)]]) (0) (ByteArray.size s % 18446744073709551616) (1) (rfl) zO (by simp only[yD,yE,y11,y10,eu,dw,iC,eD,j5,jk]<;>omega) (by exact(Am.dM rfl Am.eU))),ko (bC.Gu ([AV.lit (Value.int IntKind.u8 2)]::jl (num (ByteArray.size s % 18446744073709551616))++List.map (fun(c:UInt8)=>[AV.lit (Value.int IntKind.u8 (↑(UInt8.toNat c):Int))]) (Array.toList (ByteArray.data s)))),kp (show ∀(x:List AV),x∈[[AV.lit (Value.int IntKind.u8 2)]]++jl (num (ByteArray.size s % 18446744073709551616))->AV.aM [] x=true from(by exact(Am.dx (Am.dM rfl Am.eU) (dw _)))),kp (show ∀(x:List AV),x∈[[AV.lit (Value.int IntKind.u8 2)]]->AV.aM [] x=true from(by exact(Am.dM rfl Am.eU))),kp (show 0+length (num (ByteArray.size s % 18446744073709551616))=0+length (num (ByteArray.size s % 18446744073709551616))from(rfl)),kp (show 1+length (num (ByteArray.size s % 18446744073709551616))=length ([AV.lit (Value.int IntKind.u8 2)]::jl (num (ByteArray.size s % 18446744073709551616)))from(by simp only[yD,yE,y11,y10,eu,dw,iC,eD,j5,jk]<;>omega)),kp o1,kp (show 0+length (num (ByteArray.size s % 18446744073709551616))+1=0+length (num (ByteArray.size s % 18446744073709551616))+1 from(rfl)),XV (1+length (num (ByteArray.size s % 18446744073709551616))+length (List.map (fun(c:UInt8)=>[AV.lit (Value.int IntKind.u8 (↑(UInt8.toNat c):Int))]) (Array.toList (ByteArray.data s)))) ([AV.lit (Value.int IntKind.u8 2)]::jl (num (ByteArray.size s % 18446744073709551616))++List.map (fun(c:UInt8)=>[AV.lit (Value.int IntKind.u8 (↑(UInt8.toNat c):Int))]) (Array.toList (ByteArray.data s))) (by simp only[yD,yE,y11,y10,eu,dw,iC,eD,j5,jk]<;>omega),kp (show length ([AV.lit (Value.int IntKind.u8 2)]::jl (num (ByteArray.size s % 18446744073709551616))++List.map (fun(c:UInt8)=>[AV.lit (Value.int IntKind.u8 (↑(UInt8.toNat c):Int))]) (Array.toList (ByteArray.data s)))=1+length (num (ByteArray.size s % 18446744073709551616))+length (List.map (fun(c:UInt8)=>[AV.lit (Value.int IntKind.u8 (↑(UInt8.toNat c):Int))]) (Array.toList (ByteArray.data s)))from(by simp only[yD,yE,y11,y10,eu,dw,iC,eD,j5,jk]<;>omega)),kp (show ∀(c:List AV),c∈[AV.lit (Value.int IntKind.u8 2)]::jl (num (ByteArray.size s % 18446744073709551616))++List.map (fun(c:UInt8)=>[AV.lit (Value.int IntKind.u8 (↑(UInt8.toNat c):Int))]) (Array.toList (ByteArray.data s))->List.all c AV.fJ=true from(by exact(Am.dx (Am.dM rfl (iC _)) (jk _))))])) (aF.GJ e1)
def WZ(xs:List (List AV))(N g:Nat)(n0:Int)(s0:yP)(l:List CV)(i:Nat):St:={ aL:=aC 35 [(0,.aU 0 g 0 N),(2,.ptr 2 0),(17,.sl 4 false (iB l)),(18,int l.length),(19,int i)],H:=.aN g 1 false xs::(kinds 1 2++[.box [int 3,int n0,str s0,.sl 4 false (iB l)]]) }
theorem ah5(xs:List (List AV))(N g:Nat)(n0:Int)(s0:yP)(l:List CV)(i:Nat)(hi:l.length<=i)(h:True):Rq 3 215 0 (WZ xs N g n0 s0 l i) (bF.exit 0) (St.mk (aC 35 [(0,AV.aU 0 g 0 N)]) (ah.aN g 1 false xs::(kinds 1 2++[ah.box [int 3,int n0,str s0,AV.sl 4 false (iB l)]])) []):=by
 exact aG [kj ((i:Int)<l.length)] (aB 35 [0]) 4
theorem abt(xs ys:List (List AV))(N M g g':Nat)(n0:Int)(s0:yP)(l:List CV)(i:Nat)(n:Int)(s:yP)(m:List CV)(hi:i<l.length)(hl:l.length<=9223372036854775807)(hx:l[i]?=some (.mk 1 n s m))(hv:ak P G 211 [.aU 0 g 0 N,rR 1 n s m] [.aN g 1 false xs] (.ret (.aU 0 g' 0 M)) [.aN g' 1 false ys])(ex:bF)(s':St)(h:(((0:Int)<=CV.k (CV.mk 1 n s m)/\CV.k (CV.mk 1 n s m)<4)/\((∀(x:List AV),x∈ys->AV.aM [] x=true)/\((∀(x:List AV),x∈xs->AV.aM [] x=true)/\Rq 3 215 0 (sM 35 [(0,.aU 0 g' 0 M),(2,.ptr 2 0),(17,.sl 4 false (iB l)),(18,int ↑l.length),(19,int ↑(i+1))] [.aN g' 1 false ys,.box [.lit Value.nilFunc,iL 211,iL 214,.fn (Fn.func 215) [] [.ptr 2 0]],.box [.ptr 1 0],.box [int 3,int n0,str s0,.sl 4 false (iB l)]]) ex s')))):Rq 3 215 0 (WZ xs N g n0 s0 l i) ex s':=by
 obtain⟨o2,h⟩:=h;obtain⟨o3,h⟩:=h;obtain⟨o4,h⟩:=h;exact aJ [ki ((i:Int)<l.length),ko (bC.elem (aQ (CV.mk 1 n s m))),kp (show(0:Int)<=(i:Int)/\(iB l)[Int.toNat (i:Int)]?=some (aQ (CV.mk 1 n s m))from(by rw[lC];exact bG hx)),kp o2,kc [0] hv,kp o3,kp o4,kW 33 (i+1) ↑(i+1),kp (show ∀(x:List AV),x∈ys->AV.aM [] x=true from zO)] (aB 35 [0,2,17,18,19]) 4 h
theorem abu(xs ys:List (List AV))(N M g g':Nat)(n0:Int)(s0:yP)(l:List CV)(i:Nat)(n:Int)(s:yP)(m:List CV)(hi:i<l.length)(hl:l.length<=9223372036854775807)(hx:l[i]?=some (.mk 2 n s m))(hv:ak P G 214 [.aU 0 g 0 N,rR 2 n s m] [.aN g 1 false xs] (.ret (.aU 0 g' 0 M)) [.aN g' 1 false ys])(ex:bF)(s':St)(h:(((0:Int)<=CV.k (CV.mk 2 n s m)/\CV.k (CV.mk 2 n s m)<4)/\((∀(x:List AV),x∈ys->AV.aM [] x=true)/\((∀(x:List AV),x∈xs->AV.aM [] x=true)/\Rq 3 215 0 (sM 35 [(0,.aU 0 g' 0 M),(2,.ptr 2 0),(17,.sl 4 false (iB l)),(18,int ↑l.length),(19,int ↑(i+1))] [.aN g' 1 false ys,.box [.lit Value.nilFunc,iL 211,iL 214,.fn (Fn.func 215) [] [.ptr 2 0]],.box [.ptr 1 0],.box [int 3,int n0,str s0,.sl 4 false (iB l)]]) ex s')))):Rq 3 215 0 (WZ xs N g n0 s0 l i) ex s':=by
 obtain⟨o2,h⟩:=h;obtain⟨o3,h⟩:=h;obtain⟨o4,h⟩:=h;exact aJ [ki ((i:Int)<l.length),ko (bC.elem (aQ (CV.mk 2 n s m))),kp (show(0:Int)<=(i:Int)/\(iB l)[Int.toNat (i:Int)]?=some (aQ (CV.mk 2 n s m))from(by rw[lC];exact bG hx)),kp o2,kc [0] hv,kp o3,kp o4,kW 33 (i+1) ↑(i+1),kp (show ∀(x:List AV),x∈ys->AV.aM [] x=true from zO)] (aB 35 [0,2,17,18,19]) 4 h
theorem abv(xs ys:List (List AV))(N M g g':Nat)(n0:Int)(s0:yP)(l:List CV)(i:Nat)(n:Int)(s:yP)(m:List CV)(hi:i<l.length)(hl:l.length<=9223372036854775807)(hx:l[i]?=some (.mk 3 n s m))(hv:ak P G 215 [.aU 0 g 0 N,rR 3 n s m,.ptr 2 0] (.aN g 1 false xs::kinds 1 2) (.ret (.aU 0 g' 0 M)) (.aN g' 1 false ys::kinds 1 2))(ex:bF)(s':St)(h:(((0:Int)<=CV.k (CV.mk 3 n s m)/\CV.k (CV.mk 3 n s m)<4)/\((∀(x:List AV),x∈ys->AV.aM [] x=true)/\((∀(x:List AV),x∈xs->AV.aM [] x=true)/\Rq 3 215 0 (sM 35 [(0,.aU 0 g' 0 M),(2,.ptr 2 0),(17,.sl 4 false (iB l)),(18,int ↑l.length),(19,int ↑(i+1))] [.aN g' 1 false ys,.box [.lit Value.nilFunc,iL 211,iL 214,.fn (Fn.func 215) [] [.ptr 2 0]],.box [.ptr 1 0],.box [int 3,int n0,str s0,.sl 4 false (iB l)]]) ex s')))):Rq 3 215 0 (WZ xs N g n0 s0 l i) ex s':=by
 obtain⟨o2,h⟩:=h;obtain⟨o3,h⟩:=h;obtain⟨o4,h⟩:=h;exact aJ [ki ((i:Int)<l.length),ko (bC.elem (aQ (CV.mk 3 n s m))),kp (show(0:Int)<=(i:Int)/\(iB l)[Int.toNat (i:Int)]?=some (aQ (CV.mk 3 n s m))from(by rw[lC];exact bG hx)),kp o2,kc [0,1,2] hv,kp o3,kp o4,kW 33 (i+1) ↑(i+1),kp (show ∀(x:List AV),x∈ys->AV.aM [] x=true from zO)] (aB 35 [0,2,17,18,19]) 4 h
theorem ah6(a b:List UInt8)(g g':Nat)(n:Int)(s:yP)(l:List CV)(hs:l.length<=10000000)(hl:a.length<=10000000)(hL:Rq 3 215 0 (WZ (jl a++[[.lit (.int .u8 3)]]++jl (num (l.length % 18446744073709551616))) (a.length+1+(num (l.length % 18446744073709551616)).length) (g+1+(num (l.length % 18446744073709551616)).length) n s l 0) (.exit 0) { aL:=aC 35 [(0,.aU 0 g' 0 b.length)],H:=.aN g' 1 false (jl b)::(kinds 1 2++[.box [int 3,int n,str s,.sl 4 false (iB l)]]) })(h:True):ak P G 215 [.aU 0 g 0 a.length,rR 3 n s l,.ptr 2 0] (ah.aN g 1 false (jl a)::kinds 1 2) (aS.ret (AV.aU 0 g' 0 b.length)) (ah.aN g' 1 false (jl b)::kinds 1 2):=by
 have x9:=lU (fA l);exact aj [kq g,kp (eu a).symm,vV ((length a+1)*1),kv 13 x9,kc [0] (@sK (jl a++[[AV.lit (Value.int IntKind.u8 3)]]) (g+1) (length l % 18446744073709551616) (length a+1) (by simp only[yD,yE,y11,y10,eu,dw,iC,fA]<;>omega) zO (by simp only[yD,yE,y11,y10,eu,dw,iC,fA]<;>omega) (by exact(Am.dx (dw _) (Am.dM rfl Am.eU)))),kp (show ∀(x:List AV),x∈jl a++[[AV.lit (Value.int IntKind.u8 3)]]++jl (num (length l % 18446744073709551616))->AV.aM [] x=true from(by exact(Am.dx (Am.dx (dw _) (Am.dM rfl Am.eU)) (dw _)))),kp (show ∀(x:List AV),x∈jl a++[[AV.lit (Value.int IntKind.u8 3)]]->AV.aM [] x=true from(by exact(Am.dx (dw _) (Am.dM rfl Am.eU)))),kv 18 x9,kl (rG [(1,1),(3,14),(20,15)]) 4 hL,kp (dw b)]
def W9(xs:List (List AV))(N g:Nat)(n0:Int)(s0:yP)(l:List CV)(i:Nat):St:={ aL:=aC 35 [(0,.aU 3 g 0 N),(2,.ptr 1 0),(17,.sl 4 false (iB l)),(18,int l.length),(19,int i)],H:=kinds 0 1++[.box [int 3,int n0,str s0,.sl 4 false (iB l)],.aN g 1 false xs] }
theorem ah7(xs:List (List AV))(N g:Nat)(n0:Int)(s0:yP)(l:List CV)(i:Nat)(hi:l.length<=i)(h:True):Rq 2 215 0 (W9 xs N g n0 s0 l i) (bF.exit 0) (St.mk (aC 35 [(0,AV.aU 3 g 0 N)]) (kinds 0 1++[ah.box [int 3,int n0,str s0,AV.sl 4 false (iB l)],ah.aN g 1 false xs]) []):=by
 exact aG [kj ((i:Int)<l.length)] (aB 35 [0]) 4
theorem abw(xs ys:List (List AV))(N M g g':Nat)(n0:Int)(s0:yP)(l:List CV)(i:Nat)(n:Int)(s:yP)(m:List CV)(hi:i<l.length)(hl:l.length<=9223372036854775807)(hx:l[i]?=some (.mk 1 n s m))(hv:ak P G 211 [.aU 0 g 0 N,rR 1 n s m] [.aN g 1 false xs] (.ret (.aU 0 g' 0 M)) [.aN g' 1 false ys])(ex:bF)(s':St)(h:(((0:Int)<=CV.k (CV.mk 1 n s m)/\CV.k (CV.mk 1 n s m)<4)/\((∀(x:List AV),x∈ys->AV.aM [] x=true)/\((∀(x:List AV),x∈xs->AV.aM [] x=true)/\Rq 2 215 0 (sM 35 [(0,.aU 3 g' 0 M),(2,.ptr 1 0),(17,.sl 4 false (iB l)),(18,int ↑l.length),(19,int ↑(i+1))] [.box [.lit Value.nilFunc,iL 211,iL 214,.fn (Fn.func 215) [] [.ptr 1 0]],.box [.ptr 0 0],.box [int 3,int n0,str s0,.sl 4 false (iB l)],.aN g' 1 false ys]) ex s')))):Rq 2 215 0 (W9 xs N g n0 s0 l i) ex s':=by
 obtain⟨o2,h⟩:=h;obtain⟨o3,h⟩:=h;obtain⟨o4,h⟩:=h;exact aJ [ki ((i:Int)<l.length),ko (bC.elem (aQ (CV.mk 1 n s m))),kp (show(0:Int)<=(i:Int)/\(iB l)[Int.toNat (i:Int)]?=some (aQ (CV.mk 1 n s m))from(by rw[lC];exact bG hx)),kp o2,kc [3] hv,kp o3,kp o4,kW 33 (i+1) ↑(i+1),kp (show ∀(x:List AV),x∈ys->AV.aM [] x=true from zO)] (aB 35 [0,2,17,18,19]) 4 h
theorem abx(xs ys:List (List AV))(N M g g':Nat)(n0:Int)(s0:yP)(l:List CV)(i:Nat)(n:Int)(s:yP)(m:List CV)(hi:i<l.length)(hl:l.length<=9223372036854775807)(hx:l[i]?=some (.mk 2 n s m))(hv:ak P G 214 [.aU 0 g 0 N,rR 2 n s m] [.aN g 1 false xs] (.ret (.aU 0 g' 0 M)) [.aN g' 1 false ys])(ex:bF)(s':St)(h:(((0:Int)<=CV.k (CV.mk 2 n s m)/\CV.k (CV.mk 2 n s m)<4)/\((∀(x:List AV),x∈ys->AV.aM [] x=true)/\((∀(x:List AV),x∈xs->AV.aM [] x=true)/\Rq 2 215 0 (sM 35 [(0,.aU 3 g' 0 M),(2,.ptr 1 0),(17,.sl 4 false (iB l)),(18,int ↑l.length),(19,int ↑(i+1))] [.box [.lit Value.nilFunc,iL 211,iL 214,.fn (Fn.func 215) [] [.ptr 1 0]],.box [.ptr 0 0],.box [int 3,int n0,str s0,.sl 4 false (iB l)],.aN g' 1 false ys]) ex s')))):Rq 2 215 0 (W9 xs N g n0 s0 l i) ex s':=by
 obtain⟨o2,h⟩:=h;obtain⟨o3,h⟩:=h;obtain⟨o4,h⟩:=h;exact aJ [ki ((i:Int)<l.length),ko (bC.elem (aQ (CV.mk 2 n s m))),kp (show(0:Int)<=(i:Int)/\(iB l)[Int.toNat (i:Int)]?=some (aQ (CV.mk 2 n s m))from(by rw[lC];exact bG hx)),kp o2,kc [3] hv,kp o3,kp o4,kW 33 (i+1) ↑(i+1),kp (show ∀(x:List AV),x∈ys->AV.aM [] x=true from zO)] (aB 35 [0,2,17,18,19]) 4 h
theorem aby(xs ys:List (List AV))(N M g g':Nat)(n0:Int)(s0:yP)(l:List CV)(i:Nat)(n:Int)(s:yP)(m:List CV)(hi:i<l.length)(hl:l.length<=9223372036854775807)(hx:l[i]?=some (.mk 3 n s m))(hv:ak P G 215 [.aU 0 g 0 N,rR 3 n s m,.ptr 2 0] (.aN g 1 false xs::kinds 1 2) (.ret (.aU 0 g' 0 M)) (.aN g' 1 false ys::kinds 1 2))(ex:bF)(s':St)(h:(((0:Int)<=CV.k (CV.mk 3 n s m)/\CV.k (CV.mk 3 n s m)<4)/\((∀(x:List AV),x∈ys->AV.aM [] x=true)/\((∀(x:List AV),x∈xs->AV.aM [] x=true)/\Rq 2 215 0 (sM 35 [(0,.aU 3 g' 0 M),(2,.ptr 1 0),(17,.sl 4 false (iB l)),(18,int ↑l.length),(19,int ↑(i+1))] [.box [.lit Value.nilFunc,iL 211,iL 214,.fn (Fn.func 215) [] [.ptr 1 0]],.box [.ptr 0 0],.box [int 3,int n0,str s0,.sl 4 false (iB l)],.aN g' 1 false ys]) ex s')))):Rq 2 215 0 (W9 xs N g n0 s0 l i) ex s':=by
 obtain⟨o2,h⟩:=h;obtain⟨o3,h⟩:=h;obtain⟨o4,h⟩:=h;exact aJ [ki ((i:Int)<l.length),ko (bC.elem (aQ (CV.mk 3 n s m))),kp (show(0:Int)<=(i:Int)/\(iB l)[Int.toNat (i:Int)]?=some (aQ (CV.mk 3 n s m))from(by rw[lC];exact bG hx)),kp o2,kc [3,0,1] hv,kp o3,kp o4,kW 33 (i+1) ↑(i+1),kp (show ∀(x:List AV),x∈ys->AV.aM [] x=true from zO)] (aB 35 [0,2,17,18,19]) 4 h
theorem ah8(b:List UInt8)(g':Nat)(n:Int)(s:yP)(l:List CV)(hs:l.length<=10000000)(hL:Rq 2 215 0 (W9 ([.lit (.int .u8 3)]::jl (num (l.length % 18446744073709551616))) (1+(num (l.length % 18446744073709551616)).length) (0+(num (l.length % 18446744073709551616)).length) n s l 0) (.exit 0) { aL:=aC 35 [(0,.aU 3 g' 0 b.length)],H:=kinds 0 1++[.box [int 3,int n,str s,.sl 4 false (iB l)],.aN g' 1 false (jl b)] })(h:True):ak P G 215 [aK,rR 3 n s l,.ptr 1 0] (kinds 0 1) (aS.ret (Cy b)) (kinds 0 1):=by
 have jw:=lU (fA l);exact aj [Qx [AV.lit (Value.int IntKind.u8 3)],vV 1,kv 13 jw,kc [3] (@sK ([[AV.lit (Value.int IntKind.u8 3)]]) (0) (length l % 18446744073709551616) (1) (rfl) zO (by simp only[yD,yE,y11,y10,eu,dw,iC,fA]<;>omega) (by exact(Am.dM rfl Am.eU))),kp (show ∀(x:List AV),x∈[[AV.lit (Value.int IntKind.u8 3)]]++jl (num (length l % 18446744073709551616))->AV.aM [] x=true from(by exact(Am.dx (Am.dM rfl Am.eU) (dw _)))),kp (show ∀(x:List AV),x∈[[AV.lit (Value.int IntKind.u8 3)]]->AV.aM [] x=true from(by exact(Am.dM rfl Am.eU))),kv 18 jw,kl (rG [(1,1),(3,14),(20,15)]) 4 hL,ko (bC.Gu (jl b)),kp (show g'=g' from(rfl)),XV b.length (jl b) (by simp only[yD,yE,y11,y10,eu,dw,iC,fA]<;>omega),kp (eu b),kp (iC b)]
theorem axA(v:CV)(e:Int)(hv:Cq 111 [val v] (int e))(he:e≠0)(h:True):Cq 37 [val v] (.bq [aK,int e]):=by
 exact aj [kc [] hv,kt (y27 (qF zO))]
theorem ami(n:Int)(s:yP)(l:List CV)(b:List UInt8)(hv:Cq 111 [rR 1 n s l] (int 0))(hw:Cq 211 [aK,rR 1 n s l] (Cy b))(h:True):Cq 37 [rR 1 n s l] (.bq [Cy b,int 0]):=by
 exact aj [kc [] hv,kY,kc [] (@ah0 (trivial)),kR (1:Int) (4:Int),kc [] hw]
theorem amj(n:Int)(s:yP)(l:List CV)(b:List UInt8)(hv:Cq 111 [rR 2 n s l] (int 0))(hw:Cq 214 [aK,rR 2 n s l] (Cy b))(h:True):Cq 37 [rR 2 n s l] (.bq [Cy b,int 0]):=by
 exact aj [kc [] hv,kY,kc [] (@ah0 (trivial)),kR (2:Int) (4:Int),kc [] hw]
theorem amk(n:Int)(s:yP)(l:List CV)(b:List UInt8)(hv:Cq 111 [rR 3 n s l] (int 0))(hw:ak P G 215 [aK,rR 3 n s l,.ptr 1 0] (kinds 0 1) (.ret (Cy b)) (kinds 0 1))(h:True):Cq 37 [rR 3 n s l] (.bq [Cy b,int 0]):=by
 exact aj [kc [] hv,kY,kc [] (@ah0 (trivial)),kR (3:Int) (4:Int),kc [1,2] hw]
theorem Jr(v:CV)l:je (v::l)=gT v++je l:=rfl
theorem abz v:1<=(gT v).length:=by
 cases v;simp only[gT];grind
theorem AX:∀l:List CV,l.length<=(je l).length
 |[]=>by simp[je]
 |v::l=>by
  have:=AX l;have:=abz v;simp only[je,yD,yE];omega
theorem abA{i g g' n n'}(hg:g=g')(hn:n=n'):aF (.aU i g 0 n) (.aU i g' 0 n'):=.of_eq (by rw[hg,hn])
theorem abB{g g'}{xs ys}(hg:g=g')(hn:xs=ys):[ah.aN g 1 false xs]=[ah.aN g' 1 false ys]:=by rw[hg,hn]
theorem Et(c:UInt8)l:jl (c::l)=[AV.lit (.int .u8 c.toNat)]::jl l:=rfl
theorem Eu a b:jl (a++b)=jl a++jl b:=(SG a b).symm
def WrC(v:CV):Prop:=∀(a:List UInt8)(g:Nat),a.length+(gT v).length<=10000000 ->
 (v.k=1->ak P G 211 [.aU 0 g 0 a.length,val v] [.aN g 1 false (jl a)] (.ret (.aU 0 (g+Cr v) 0 (a++gT v).length)) [.aN (g+Cr v) 1 false (jl (a++gT v))]) /\
 (v.k=2->ak P G 214 [.aU 0 g 0 a.length,val v] [.aN g 1 false (jl a)] (.ret (.aU 0 (g+Cr v) 0 (a++gT v).length)) [.aN (g+Cr v) 1 false (jl (a++gT v))]) /\
 (v.k=3->ak P G 215 [.aU 0 g 0 a.length,val v,.ptr 2 0] (.aN g 1 false (jl a)::kinds 1 2) (.ret (.aU 0 (g+Cr v) 0 (a++gT v).length)) (.aN (g+Cr v) 1 false (jl (a++gT v))::kinds 1 2))
theorem adj{v}(h:wf v=true):v.k=1\/v.k=2\/v.k=3:=by
 cases v with
 |mk k n s l =>
  by_cases h1:k=1
  .exact .inl h1
  .by_cases h2:k=2
   .exact .inr (.inl h2)
   .by_cases h3:k=3
    .exact .inr (.inr h3)
    .simp [wf,h1,h2,h3]at h
theorem AY:∀{l},Lb l=true->∀x∈l,wf x=true
 |[],_,x,hx=>by cases hx
 |v::l,h,x,hx=>by
  simp only[Lb,y04]at h;rcases yH.1 hx with rfl|hx
  .exact h.1
  .exact AY h.2 x hx
theorem ad7(n0:Int)(s0:yP)(l:List CV)(hl:l.length<=9223372036854775807)(hw:∀x∈l,wf x=true)(hv:∀x∈l,WrC x):∀(m i:Nat)(a:List UInt8)(g:Nat),l.length-i=m->i<=l.length->a.length+(je (l.drop i)).length<=10000000 ->
 Rq 3 215 0 (WZ (jl a) a.length g n0 s0 l i) (.exit 0) { aL:=aC 35 [(0,.aU 0 (g+u7 (l.drop i)) 0 (a++je (l.drop i)).length)],H:=.aN (g+u7 (l.drop i)) 1 false (jl (a++je (l.drop i)))::(kinds 1 2++[.box [int 3,int n0,str s0,.sl 4 false (iB l)]]) }:=by
 intro m
 induction m with
 |zero =>
  intro i a g hm hi bL;rw[y17 zO];simp only[je,u7,Nat.add_zero,y19];exact ah5 (jl a) a.length g n0 s0 l i zO trivial
 |succ m ih =>
  intro i a g hm hi bL;have bg:i<l.length:=zO
  have e:=y01 bg;have hx:=yA bg;have hwx:=hw _ (y03 bg);have hvx:=hv _ (y03 bg);rw[e]at bL |-;simp only[je,u7,yD]at bL |-;have hc:=hvx a g zO;have hn:=ih (i+1) (a++gT l[i]) (g+Cr l[i]) zO zO (by rw[yD];omega);rw[y13,Nat.add_assoc]at hn;simp only[yD]at hn hc;generalize l[i]=x at *;cases x with
  |mk k n s q =>
   rcases adj hwx with h|h|h
   .simp only[CV.k]at h;subst h;exact abt _ _ _ _ _ _ n0 s0 l i n s q bg hl hx (hc.1 rfl) _ _ ⟨⟨by simp only[CV.k];decide,by simp only[CV.k];decide⟩,dw _,dw _,hn⟩
   .simp only[CV.k]at h;subst h;exact abu _ _ _ _ _ _ n0 s0 l i n s q bg hl hx (hc.2.1 rfl) _ _ ⟨⟨by simp only[CV.k];decide,by simp only[CV.k];decide⟩,dw _,dw _,hn⟩
   .simp only[CV.k]at h;subst h;exact abv _ _ _ _ _ _ n0 s0 l i n s q bg hl hx (hc.2.2 rfl) _ _ ⟨⟨by simp only[CV.k];decide,by simp only[CV.k];decide⟩,dw _,dw _,hn⟩
theorem ad8(n0:Int)(s0:yP)(l:List CV)(hl:l.length<=9223372036854775807)(hw:∀x∈l,wf x=true)(hv:∀x∈l,WrC x):∀(m i:Nat)(a:List UInt8)(g:Nat),l.length-i=m->i<=l.length->a.length+(je (l.drop i)).length<=10000000 ->
 Rq 2 215 0 (W9 (jl a) a.length g n0 s0 l i) (.exit 0) { aL:=aC 35 [(0,.aU 3 (g+u7 (l.drop i)) 0 (a++je (l.drop i)).length)],H:=kinds 0 1++[.box [int 3,int n0,str s0,.sl 4 false (iB l)],.aN (g+u7 (l.drop i)) 1 false (jl (a++je (l.drop i)))] }:=by
 intro m
 induction m with
 |zero =>
  intro i a g hm hi bL;rw[y17 zO];simp only[je,u7,Nat.add_zero,y19];exact ah7 (jl a) a.length g n0 s0 l i zO trivial
 |succ m ih =>
  intro i a g hm hi bL;have bg:i<l.length:=zO
  have e:=y01 bg;have hx:=yA bg;have hwx:=hw _ (y03 bg);have hvx:=hv _ (y03 bg);rw[e]at bL |-;simp only[je,u7,yD]at bL |-;have hc:=hvx a g zO;have hn:=ih (i+1) (a++gT l[i]) (g+Cr l[i]) zO zO (by rw[yD];omega);rw[y13,Nat.add_assoc]at hn;simp only[yD]at hn hc;generalize l[i]=x at *;cases x with
  |mk k n s q =>
   rcases adj hwx with h|h|h
   .simp only[CV.k]at h;subst h;exact abw _ _ _ _ _ _ n0 s0 l i n s q bg hl hx (hc.1 rfl) _ _ ⟨⟨by simp only[CV.k];decide,by simp only[CV.k];decide⟩,dw _,dw _,hn⟩
   .simp only[CV.k]at h;subst h;exact abx _ _ _ _ _ _ n0 s0 l i n s q bg hl hx (hc.2.1 rfl) _ _ ⟨⟨by simp only[CV.k];decide,by simp only[CV.k];decide⟩,dw _,dw _,hn⟩
   .simp only[CV.k]at h;subst h;exact aby _ _ _ _ _ _ n0 s0 l i n s q bg hl hx (hc.2.2 rfl) _ _ ⟨⟨by simp only[CV.k];decide,by simp only[CV.k];decide⟩,dw _,dw _,hn⟩
theorem NR{n}(h:n<=10000000):n % 18446744073709551616=n:=Nat.mod_eq_of_lt zO
theorem ad9 v:QG v->wf v=true->WrC v:=by
 refine CV.ind (p:=fun v=>QG v->wf v=true->WrC v) (fun k n s l ih dK hwf=>?_) v;cases dK with
 |mk _ _ _ _ hn hs hl jH =>
  intro a g bL;refine⟨fun hk=>?_,fun hk=>?_,fun hk=>?_⟩
  .simp only[CV.k]at hk;subst hk;have e1:gT (.mk 1 n s l)=1::num (vP n):=by simp[gT]
   have e2:Cr (.mk 1 n s l)=1+(num (vP n)).length:=by simp[Cr]
   rw[e1]at bL |-;rw[e2];refine ah1 a g n s l hn (Sn hn) zO ⟨abA zO (by simp only[yD,yE];omega),abB zO ?_⟩;rw[Eu,Et,y13];rfl
  .simp only[CV.k]at hk;subst hk;have e1:gT (.mk 2 n s l)=2::(num s.size++s.data.toList):=by simp[gT]
   have e2:Cr (.mk 2 n s l)=2+(num s.size).length:=by simp[Cr]
   rw[e1]at bL |-;rw[e2];simp only[yD,yE,eD]at bL;have em:=NR (n:=s.size) zO;refine ah3 a g n s l zO zO ⟨?_,abA ?_ ?_,abB ?_ ?_⟩<;>rw[em]
   .grind [y10,eD]
   .omega
   .grind
   .omega
   .rw [Eu,Et,Eu];simp only[y13];rfl
  .simp only[CV.k]at hk;subst hk;have e1:gT (.mk 3 n s l)=3::(num l.length++je l):=by simp[gT]
   have e2:Cr (.mk 3 n s l)=1+(num l.length).length+u7 l:=by simp[Cr]
   have ew:wf (.mk 3 n s l)=(decide (n=0)&&decide (s = .empty)&&Lb l):=by simp[wf]
   rw[ew]at hwf;simp only[y04]at hwf;rw[e1]at bL |-;rw[e2];simp only[yD,yE]at bL;have hll:=AX l;have em:=NR (n:=l.length) zO;have hL:=ad7 n s l hl (AY hwf.2) (fun x hx=>ih x hx (jH x hx) (AY hwf.2 x hx)) l.length 0 (a++3::num l.length) (g+1+(num l.length).length) zO zO (by rw[drop_zero];simp only[yD,yE];omega);rw[drop_zero,y13,cons_append]at hL;have eg:g+(1+(num l.length).length+u7 l)=g+1+(num l.length).length+u7 l:=zO
   rw[eg];refine ah6 a (a++3::(num l.length++je l)) g _ n s l zO zO ?_ trivial;rw[em];have e3:jl a++[[AV.lit (.int .u8 3)]]++jl (num l.length)=jl (a++3::num l.length):=by grind[Eu,Et,y13]
   have e4:a.length+1+(num l.length).length=(a++3::num l.length).length:=by simp only[yD,yE];omega
   rw[e3,e4];exact hL
theorem Ws(v:CV)(dK:QG v)(hd:dp v<=16)(hwf:wf v=true)(bL:(gT v).length<=10000000):Cq 37 [val v] (.bq [Cy (gT v),int 0]):=by
 have hc:=fG v dK zO;have e0:jg v=0:=by simp only[jg,hwf,if_true];rw[yK zO]
 rw[e0]at hc;have hk:=adj hwf;cases v with
 |mk k n s l =>
  cases dK with
  |mk _ _ _ _ hn hs hl jH =>
   simp only[CV.k]at hk;rcases hk with rfl|rfl|rfl
   .have e1:gT (.mk 1 n s l)=1::num (vP n):=by simp[gT]
    rw[e1];exact ami n s l _ hc (ah2 n s l hn (Sn hn) yO) trivial
   .have e1:gT (.mk 2 n s l)=2::(num s.size++s.data.toList):=by simp[gT]
    rw[e1]at bL |-;simp only[yD,yE,eD]at bL;have em:=NR (n:=s.size) zO;refine amj n s l _ hc (ah4 n s l zO ⟨?_,?_⟩) trivial<;>rw[em]
    .grind [y10,eD]
    .rw [Et,Eu];rfl
   .have e1:gT (.mk 3 n s l)=3::(num l.length++je l):=by simp[gT]
    have ew:wf (.mk 3 n s l)=(decide (n=0)&&decide (s = .empty)&&Lb l):=by simp[wf]
    rw[ew]at hwf;simp only[y04]at hwf;rw[e1]at bL |-;simp only[yD,yE]at bL;have hll:=AX l;have em:=NR (n:=l.length) zO;have hL:=ad8 n s l hl (AY hwf.2) (fun x hx=>ad9 x (jH x hx) (AY hwf.2 x hx)) l.length 0 (3::num l.length) (0+(num l.length).length) zO zO (by rw[drop_zero];simp only[yE];omega);rw[drop_zero,cons_append]at hL;refine amk n s l _ hc (ah8 (3::(num l.length++je l)) (0+(num l.length).length+u7 l) n s l zO ?_ yO) trivial;rw[em];have e4:1+(num l.length).length=(3::num l.length).length:=by simp only[yE];omega
    rw[e4];exact hL
theorem avM(v:CV)(dK:QG v)(hd:dp v<=1000001)(h:jg v≠0):Cq 37 [val v] (.bq [aK,int (jg v)]):=axA v _ (fG v dK hd) h trivial
def av7(v:CV):List UInt8:=if jg v=0 then gT v else[]
theorem ax1{v:CV}(h:jg v=0):wf v=true/\dp v<=16:=by
 unfold jg at h;split at h
 .next hw =>
  refine⟨hw,?_⟩;split at h
  .cases h
  .omega
 .cases h
theorem awI(v:CV)(dK:QG v)(hd:dp v<=1000001)(bL:jg v=0->(gT v).length<=10000000):Cq 37 [val v] (.bq [Cy (av7 v),int (jg v)]):=by
 by_cases h:jg v=0
 .grind [ax1,av7,Ws]
 .have:=avM v dK hd h;unfold av7;rw[yK h];exact ak.out this (.U1 (.nil 1) (.refl _))
mutual
def sm:CV->CV->Bool
 |.mk k n s l,.mk k' n' s' l'=>decide (k=k')&&decide (n=n')&&decide (s=s')&&smL l l'
def smL:List CV->List CV->Bool
 |[],[]=>true
 |a::l,b::m=>sm a b&&smL l m
 |[],_::_=>false
 |_::_,[]=>false
end
abbrev aqS:AV:=.lit (.func (.func 20) #[] #[])
theorem ax2(l m:List CV)(hn:l.length≠m.length)(h:True):Cq 72 [AV.sl 4 false (iB l),AV.sl 4 false (iB m),aqS] (Am.bool false):=by
 have _:=h;exact aj [kv 11 (show Am.aF (int (↑(length (iB l)):Int)) (int (↑(length l):Int))from(aF.of_eq (by simp only[Go.yU.fA]))),kv 13 (show Am.aF (int (↑(length (iB m)):Int)) (int (↑(length m):Int))from(aF.of_eq (by simp only[Go.yU.fA]))),kt (show((↑(length l):Int)!=(↑(length m):Int))=true from(y27 (y16 zO)))] zQ
def IY(l m:List CV)(i:Nat):St:={ aL:=aC 32 [(1,.sl 4 false (iB m)),(2,aqS),(6,bool false),(15,.sl 4 false (iB l)),(16,int l.length),(17,int i)],H:=[] }
theorem ax3(l m:List CV)(i:Nat)(hi:l.length<=i)(h:True):Rq 0 72 0 (IY l m i) (bF.exit 0) (sM 32 [(6,Am.bool false)] []):=by
 have _:=h;exact aG [kf (show decide ((↑i:Int)<(↑(length l):Int))=false from(y16 zO))] (aB 32 [6]) 0 zQ
theorem axB(l m:List CV)(i:Nat)(a b:CV)(c:Bool)(hi:i<l.length)(hl:l.length<=9223372036854775807)(ha:l[i]?=some a)(hb:m[i]?=some b)(hv:Cq 20 [val a,val b] (bool c))(ex:bF)(h:((((c)=true)->Rq 0 72 0 (sM 32 [(1,.sl 4 false (iB m)),(2,AV.lit (Value.func (Fn.func 20) (Array.mk []) (Array.mk []))),(6,Am.bool false),(15,.sl 4 false (iB l)),(16,int (↑(length l):Int)),(17,int (↑(i+1):Int))] []) ex (sM 32 [(6,Am.bool false)] []))/\(((c)=false)->bF.ret=ex))):Rq 0 72 0 (IY l m i) ex (sM 32 [(6,Am.bool false)] []):=by
 have bS:decide ((↑i:Int)<(↑(length l):Int))=true:=(y15 zO);have fT:(0:Int)<=(↑i:Int)/\(iB l)[Int.toNat (↑i:Int)]?=some (aQ a):=(by rw[Go.yU.lC];exact bG ha);have jw:(0:Int)<=(↑i:Int)/\(iB m)[Int.toNat (↑i:Int)]?=some (aQ b):=(by rw[Go.yU.lC];exact bG hb);have x9:=(@hv );rcases y00 ((c))with c2|c2
 .have h:=h.1 c2;exact aJ [kt bS,ko (bC.elem (aQ a)),ko (bC.elem (aQ b)),kp fT,kp jw,kc [] x9,kf (show(!c)=false from(y27 (c2))),kv 31 (show Am.aF (int (IntKind.wrap IntKind.i64 ((↑i:Int)+1))) (int (↑(i+1):Int))from(aF.TJ zO zO zO))] (aB 32 [1,2,6,15,16,17]) 0 h zQ
 .have h:=h.2 c2;have eX:=h;exact bN.to ((show Rq 0 72 0 (IY l m i) bF.ret (sM 32 [(6,Am.bool false)] [])from aG [kt bS,ko (bC.elem (aQ a)),ko (bC.elem (aQ b)),kp fT,kp jw,kc [] x9,kt (show(!c)=true from(y27 (c2)))] (aB 32 [6]) 0 zQ)) eX (eB.of_eq rfl)
theorem ayp(l m:List CV)(hn:l.length=m.length)(c b:Bool)(hL:Rq 0 72 0 (IY l m 0) (if c=true then .exit 0 else .ret) { aL:=aC 32 [(6,bool false)],H:=[] })(h:(((c=true)->(true)=(b))/\((¬c=true)->(false)=(b)))):Cq 72 [AV.sl 4 false (iB l),AV.sl 4 false (iB m),aqS] (Am.bool b):=by
 have bS:Am.aF (int (↑(length (iB l)):Int)) (int (↑(length l):Int)):=(aF.of_eq (by simp only[Go.yU.fA]));have fT:Am.aF (int (↑(length (iB m)):Int)) (int (↑(length m):Int)):=(aF.of_eq (by simp only[Go.yU.fA]));have jw:((↑(length l):Int)!=(↑(length m):Int))=false:=(y27 (y15 zO));by_cases c2:(c=true)
 .have h:=h.1 c2;have e1:=h;exact aA (aF.aI e1) [kv 11 bS,kv 13 fT,kf jw,kv 16 bS,kl [0,3,4,5,7,8,9,10,11,12,13,14,18,19,20,21,22,23,24,25,26,27,28,29,30,31] 0 (show Rq 0 72 0 (sM 32 [(1,.sl 4 false (iB m)),(2,AV.lit (Value.func (Fn.func 20) (Array.mk []) (Array.mk []))),(6,Am.bool false),(15,.sl 4 false (iB l)),(16,int (↑(length l):Int)),(17,int 0)] []) (bF.exit 0) (sM 32 [(6,Am.bool false)] [])from(by have h0:=(@hL );simp only[yL c2]at h0;exact h0))] zQ
 .have h:=h.2 c2;have e1:=h;exact aA (aF.aI e1) [kv 11 bS,kv 13 fT,kf jw,kv 16 bS,kl [0,3,4,5,7,8,9,10,11,12,13,14,18,19,20,21,22,23,24,25,26,27,28,29,30,31] 0 (show Rq 0 72 0 (sM 32 [(1,.sl 4 false (iB m)),(2,AV.lit (Value.func (Fn.func 20) (Array.mk []) (Array.mk []))),(6,Am.bool false),(15,.sl 4 false (iB l)),(16,int (↑(length l):Int)),(17,int 0)] []) bF.ret (sM 32 [(6,Am.bool false)] [])from(by have h0:=(@hL );simp only[yK c2]at h0;exact h0))] zQ
theorem E9(k n k' n':Int)(s s':yP)(l l':List CV)(r b:Bool)(hv:Cq 72 [.sl 4 false (iB l),.sl 4 false (iB l'),aqS] (bool r))(h:(((k=k')->(((n=n')->(((s=s')->(r)=(b))/\((¬s=s')->(false)=(b))))/\((¬n=n')->(false)=(b))))/\((¬k=k')->(false)=(b)))):Cq 20 [rR k n s l,rR k' n' s' l'] (Am.bool b):=by
 by_cases c1:(k=k')
 .have h:=h.1 c1;by_cases c2:(n=n')
  .have h:=h.1 c2;have bS:Am.aF (Am.bool (ByteArray.toList s==ByteArray.toList s')) (Am.bool (decide (s=s'))):=(aF.of_eq (by simp only[Go.yU.rC]));by_cases c3:(s=s')
   .have h:=h.1 c3;have e1:=h;exact aA (aF.aI e1) [kt (beq_iff_eq.2 c1),kt (beq_iff_eq.2 c2),kv 22 bS,kt (y15 c3),kc [] (@hv )] zQ
   .have h:=h.2 c3;have e1:=h;exact aA (aF.aI e1) [kt (beq_iff_eq.2 c1),kt (beq_iff_eq.2 c2),kv 22 bS,kf (y16 c3)] zQ
  .have h:=h.2 c2;have e1:=h;exact aA (aF.aI e1) [kt (beq_iff_eq.2 c1),kf (beq_eq_false_iff_ne.2 c2),kf (Eq.refl false)] zQ
 .have h:=h.2 c1;have e1:=h;exact aA (aF.aI e1) [kf (beq_eq_false_iff_ne.2 c1),kf (Eq.refl false),kf (Eq.refl false)] zQ
theorem aFS(n:Int)(s:yP)(l:List CV)(hn : -9223372036854775808<=n/\n<9223372036854775808)(hu:vP n<18446744073709551616)(h0:¬jl (num (vP n))=[])(h:(((1+length (jl (num (vP n))))*1<=140737488355328)/\True)):Cq 182 [rR 1 n s l] (Cy (1::num (vP n))):=by
 obtain⟨o1,h⟩:=h;have _:=h;exact aj [kt (Eq.refl true),kc [] (@Go.yU.aFP (n) zO),kc [] (@Go.yU.azU (vP n) zO),ko (bC.Gu ([AV.lit (Value.int IntKind.u8 1)]::jl (num (vP n)))),kp h0,kp o1,kp (show 0=0 from(rfl)),kp (show List.take (1+length (jl (num (vP n)))) (List.drop 0 ([AV.lit (Value.int IntKind.u8 1)]::jl (num (vP n))))=[AV.lit (Value.int IntKind.u8 1)]::jl (num (vP n))from(by rw[drop_zero,y23 (by simp only[yD,yE,y11,y10,Go.yU.eu,Go.yU.dw,Go.yU.iC]<;>omega)])),kp (show length ([AV.lit (Value.int IntKind.u8 1)]::jl (num (vP n)))=1+length (jl (num (vP n)))from(by simp only[yD,yE,y11,y10,Go.yU.eu,Go.yU.dw,Go.yU.iC]<;>omega)),kp (show ∀(c:List AV),c∈[AV.lit (Value.int IntKind.u8 1)]::jl (num (vP n))->List.all c AV.fJ=true from(by exact(Am.dM rfl (Go.yU.iC _))))] zQ
theorem aFT(n:Int)(s:yP)(l:List CV)(hs:s.size<=10000000)(h0:¬jl (num (s.size % 18446744073709551616))=[])(h:(((1+length (jl (num (ByteArray.size s % 18446744073709551616))))*1<=140737488355328)/\(((1+length (jl (num (ByteArray.size s % 18446744073709551616)))+length (List.map (fun(c:UInt8)=>[AV.lit (Value.int IntKind.u8 (↑(UInt8.toNat c):Int))]) (Array.toList (ByteArray.data s))))*1<=140737488355328)/\([AV.lit (Value.int IntKind.u8 2)]::jl (num (ByteArray.size s % 18446744073709551616))++List.map (fun(c:UInt8)=>[AV.lit (Value.int IntKind.u8 (↑(UInt8.toNat c):Int))]) (Array.toList (ByteArray.data s)))=(jl (2::(num (ByteArray.size s)++Array.toList (ByteArray.data s))))))):Cq 182 [rR 2 n s l] (Cy (2::(num (ByteArray.size s)++Array.toList (ByteArray.data s)))):=by
 obtain⟨o1,h⟩:=h;obtain⟨o2,h⟩:=h;have e1:=h;exact ak.out ((show Cq 182 [rR 2 n s l] (AV.sl 1 false ([AV.lit (Value.int IntKind.u8 2)]::jl (num (ByteArray.size s % 18446744073709551616))++List.map (fun(c:UInt8)=>[AV.lit (Value.int IntKind.u8 (↑(UInt8.toNat c):Int))]) (Array.toList (ByteArray.data s))))from aj [kf (Eq.refl false),kt (Eq.refl true),kc [] (@Go.yU.azU (ByteArray.size s % 18446744073709551616) zO),ko (bC.Gu ([AV.lit (Value.int IntKind.u8 2)]::jl (num (ByteArray.size s % 18446744073709551616))++List.map (fun(c:UInt8)=>[AV.lit (Value.int IntKind.u8 (↑(UInt8.toNat c):Int))]) (Array.toList (ByteArray.data s)))),kp h0,kp o1,kp (show 0=0 from(rfl)),kp (show 1+length (jl (num (ByteArray.size s % 18446744073709551616)))=length ([AV.lit (Value.int IntKind.u8 2)]::jl (num (ByteArray.size s % 18446744073709551616)))from(by simp only[yD,yE,y11,y10,Go.yU.eu,Go.yU.dw,Go.yU.iC,Go.yU.eD,Go.yU.j5,Go.yU.jk]<;>omega)),kp o2,kp (show 1=1 from(rfl)),kp (show List.take (1+length (jl (num (ByteArray.size s % 18446744073709551616)))+length (List.map (fun(c:UInt8)=>[AV.lit (Value.int IntKind.u8 (↑(UInt8.toNat c):Int))]) (Array.toList (ByteArray.data s)))) (List.drop 0 ([AV.lit (Value.int IntKind.u8 2)]::jl (num (ByteArray.size s % 18446744073709551616))++List.map (fun(c:UInt8)=>[AV.lit (Value.int IntKind.u8 (↑(UInt8.toNat c):Int))]) (Array.toList (ByteArray.data s))))=[AV.lit (Value.int IntKind.u8 2)]::jl (num (ByteArray.size s % 18446744073709551616))++List.map (fun(c:UInt8)=>[AV.lit (Value.int IntKind.u8 (↑(UInt8.toNat c):Int))]) (Array.toList (ByteArray.data s))from(by rw[drop_zero,y23 (by simp only[yD,yE,y11,y10,Go.yU.eu,Go.yU.dw,Go.yU.iC,Go.yU.eD,Go.yU.j5,Go.yU.jk]<;>omega)])),kp (show length ([AV.lit (Value.int IntKind.u8 2)]::jl (num (ByteArray.size s % 18446744073709551616))++List.map (fun(c:UInt8)=>[AV.lit (Value.int IntKind.u8 (↑(UInt8.toNat c):Int))]) (Array.toList (ByteArray.data s)))=1+length (jl (num (ByteArray.size s % 18446744073709551616)))+length (List.map (fun(c:UInt8)=>[AV.lit (Value.int IntKind.u8 (↑(UInt8.toNat c):Int))]) (Array.toList (ByteArray.data s)))from(by simp only[yD,yE,y11,y10,Go.yU.eu,Go.yU.dw,Go.yU.iC,Go.yU.eD,Go.yU.j5,Go.yU.jk]<;>omega)),kp (show ∀(c:List AV),c∈[AV.lit (Value.int IntKind.u8 2)]::jl (num (ByteArray.size s % 18446744073709551616))++List.map (fun(c:UInt8)=>[AV.lit (Value.int IntKind.u8 (↑(UInt8.toNat c):Int))]) (Array.toList (ByteArray.data s))->List.all c AV.fJ=true from(by exact(Am.dx (Am.dM rfl (Go.yU.iC _)) (Go.yU.jk _))))] zQ)) (aF.GJ e1)
def aDf(k n:Int)(s:yP)(l:List CV)(xs:List (List AV))(N g:Nat)(i:Nat):St:={ aL:=aC 50 [(1,.ptr 0 0),(3,.aU 1 g 0 N),(4,int i)],H:=[.box [int k,int n,str s,.sl 4 false (iB l)],.aN g 1 false xs] }
theorem aFU(k n:Int)(s:yP)(l:List CV)(xs:List (List AV))(N g i:Nat)(hi:l.length<=i)(h:True):Rq 0 182 0 (aDf k n s l xs N g i) (bF.exit 1) (sM 50 [(3,AV.aU 1 g 0 N)] [ah.aH,ah.aN g 1 false xs]):=by
 have _:=h;exact bN.to (bN.qm ((show Rq 0 182 0 (aDf k n s l xs N g i) (bF.exit 1) (sM 50 [(3,AV.aU 1 g 0 N)] [.box [int k,int n,str s,.sl 4 false (iB l)],ah.aN g 1 false xs])from aG [kv 37 (show Am.aF (int (↑(length (iB l)):Int)) (int (↑(length l):Int))from(aF.of_eq (by simp only[Go.yU.fA]))),kf (show decide ((↑i:Int)<(↑(length l):Int))=false from(y16 zO))] (aB 50 [3]) 2 zQ)) (by exact⟨.inr yO,.inl rfl,yO⟩)) rfl (eB.aC ⟨rfl,y29,yO⟩)
theorem aEp(k n:Int)(s:yP)(l:List CV)(xs:List (List AV))(N g i:Nat)(x:CV)(b:List UInt8)(hN:xs.length=N)(hN2:N<=10000000)(hb:b.length<=10000000)(hi:i<l.length)(hl:l.length<=9223372036854775807)(hx:l[i]?=some x)(h0:¬jl b=[])(hv:Cq 182 [val x] (Cy b))(ex:bF)(s':St)(h:Rq 0 182 0 (sM 50 [(1,.ptr 0 0),(3,AV.aU 1 (g+1) 0 (N+length (jl b))),(4,int (↑(i+1):Int))] [.box [int k,int n,str s,.sl 4 false (iB l)],ah.aN (g+1) 1 false (xs++jl b)]) ex s'):Rq 0 182 0 (aDf k n s l xs N g i) ex s':=by
 exact aJ [kv 37 (show Am.aF (int (↑(length (iB l)):Int)) (int (↑(length l):Int))from(aF.of_eq (by simp only[Go.yU.fA]))),kt (show decide ((↑i:Int)<(↑(length l):Int))=true from(y15 zO)),ko (bC.elem (aQ x)),kp (show(0:Int)<=(↑i:Int)/\(iB l)[Int.toNat (↑i:Int)]?=some (aQ x)from(by rw[Go.yU.lC];exact bG hx)),kc [] (@hv ),kp (show g=g from(rfl)),kp (show N=length xs from zO),kp (show(N+length (jl b))*1<=140737488355328 from(by simp only[yD,yE,y11,y10,Go.yU.eu,Go.yU.dw,Go.yU.iC]<;>omega)),kv 40 (show Am.aF (int (IntKind.wrap IntKind.i64 ((↑i:Int)+1))) (int (↑(i+1):Int))from(aF.TJ zO zO zO))] (aB 50 [1,3,4]) 2 h zQ
theorem aFV(k n:Int)(s:yP)(l:List CV)(b:List UInt8)(g:Nat)(h1:k≠1)(h2:k≠2)(hl:l.length<=10000000)(h0:¬jl (num (l.length % 18446744073709551616))=[])(hb:b.length<=10000000)(hL:Rq 0 182 0 (aDf k n s l ([.lit (.int .u8 3)]::jl (num (l.length % 18446744073709551616))) (1+(jl (num (l.length % 18446744073709551616))).length) 0 0) (.exit 1) { aL:=aC 50 [(3,.aU 1 g 0 b.length)],H:=[.aH,.aN g 1 false (jl b)] })(h:(((1+length (jl (num (length l % 18446744073709551616))))*1<=140737488355328)/\True)):Cq 182 [rR k n s l] (Cy b):=by
 obtain⟨o3,h⟩:=h;have _:=h;exact aj [kf (show(k==1)=false from(y16 zO)),kf (show(k==2)=false from(y16 zO)),kv 30 (show Am.aF (int (↑(length (iB l)):Int)) (int (↑(length l):Int))from(aF.of_eq (by simp only[Go.yU.fA]))),kc [] (@Go.yU.azU (length l % 18446744073709551616) zO),kp h0,kp o3,kl [0,2,5,6,7,8,9,10,11,12,13,14,15,16,17,18,19,20,21,22,23,24,25,26,27,28,29,30,31,32,33,34,35,36,37,38,39,40,41,42,43,44,45,46,47,48,49] 2 (@hL ),ko (bC.Gu (jl b)),kp (show g=g from(rfl)),kp (show List.take (length b) (List.drop 0 (jl b))=jl b from(by rw[drop_zero,y23 (by simp only[yD,yE,y11,y10,Go.yU.eu,Go.yU.dw,Go.yU.iC]<;>omega)])),kp (show length (jl b)=length b from(Go.yU.eu _)),kp (show ∀(c:List AV),c∈jl b->List.all c AV.fJ=true from(Go.yU.iC _))] zQ
theorem aDg(v:CV)(e:Int)(hv:Cq 181 [val v] (int e))(he:e≠0)(h:True):Cq 81 [val v] (AV.bq [aK,int e]):=by
 have _:=h;exact aj [kc [] (@hv ),kt (show(e != 0)=true from(y27 (y16 zO)))] zQ
theorem aEq(v:CV)(b:List UInt8)(hv:Cq 181 [val v] (int 0))(hw:Cq 182 [val v] (Cy b))(h:True):Cq 81 [val v] (AV.bq [Cy b,int 0]):=by
 have _:=h;exact aj [kc [] (@hv ),kf (Eq.refl false),kc [] (@hw )] zQ
theorem avZ:∀{l m:List CV},smL l m=true->l.length=m.length
 |[],[],_=>rfl
 |a::l,b::m,h=>by
  simp only[smL,y04]at h;simp only[yE,avZ h.2]
 |[],_::_,h=>by simp[smL]at h
 |_::_,[],h=>by simp[smL]at h
theorem avA{α:Type}{l:List α}(h:i<l.length):l.drop i=l[i]::l.drop (i+1):=y01 h
theorem Nf(l m:List CV)(hl:l.length<=9223372036854775807)(hlm:l.length=m.length)(hv:∀x∈l,∀y∈m,Cq 20 [val x,val y] (bool (sm x y))):∀(c i:Nat),l.length-i=c->i<=l.length ->
 Rq 0 72 0 (IY l m i) (if smL (l.drop i) (m.drop i)=true then .exit 0 else .ret) { aL:=aC 32 [(6,bool false)],H:=[] }:=by
 intro c
 induction c with
 |zero =>
  intro i hc hi;rw[y17 zO,y17 zO];simp only[smL,if_true];exact ax3 l m i zO trivial
 |succ c ih =>
  intro i hc hi;have bg:i<l.length:=zO
  have oL:i<m.length:=zO
  rw[avA bg,avA oL];refine axB l m i l[i] m[i] (sm l[i] m[i]) bg hl (yA bg) (yA oL) (hv _ (y03 bg) _ (y03 oL)) _ ⟨fun h=>?_,fun h=>?_⟩
  .simp only[smL,h,Bool.true_and];exact ih (i+1) zO zO
  .simp [smL,h]
theorem ax4:∀{l m:List CV},l.length≠m.length->smL l m=false:=fun h=>Bool.eq_false_iff.2 fun e=>h (avZ e)
theorem zG(a:CV):QG a->∀b:CV,Cq 20 [val a,val b] (bool (sm a b)):=by
 refine CV.ind (p:=fun a=>QG a->∀b:CV,Cq 20 [val a,val b] (bool (sm a b))) (fun k n s l ih dK b=>?_) a;cases dK with
 |mk _ _ _ _ hn hs hl jH =>
  cases b with
  |mk k' n' s' l' =>
   rw[val_mk,val_mk];have h31:Cq 72 [.sl 4 false (iB l),.sl 4 false (iB l'),aqS] (bool (smL l l')):=by
    by_cases hll:l.length=l'.length
    .have:=Nf l l' hl hll (fun x hx y _=>ih x hx (jH x hx) y) l.length 0 zO zO;rw[drop_zero,drop_zero]at this;exact ayp l l' hll _ _ this ⟨fun h=>h.symm,fun h=>(Bool.eq_false_iff.2 h).symm⟩
    .rw [ax4 hll];exact ax2 l l' hll trivial
   refine E9 k n k' n' s s' l l' _ _ h31 ⟨fun h1=>⟨fun h2=>⟨fun h3=>?_,fun h3=>?_⟩,fun h2=>?_⟩,fun h1=>?_⟩
   .simp [sm,h1,h2,h3]
   .simp [sm,h3]
   .simp [sm,h2]
   .simp [sm,h1]
theorem aAK{l:List UInt8}(h:1<=l.length):¬jl l=[]:=fun e=>by
 have:=yJ length e;rw[eu,y11]at this;omega
theorem aEr(k n:Int)(s:yP)(l:List CV)(hl:l.length<=9223372036854775807)(hv:∀x∈l,(gT x).length<=10000000->Cq 182 [val x] (Cy (gT x))):∀(c i:Nat)(a:List UInt8)(g:Nat),l.length-i=c->i<=l.length->a.length+(je (l.drop i)).length<=10000000 ->
 Rq 0 182 0 (aDf k n s l (jl a) a.length g i) (.exit 1) { aL:=aC 50 [(3,.aU 1 (g+(l.length-i)) 0 (a++je (l.drop i)).length)],H:=[.aH,.aN (g+(l.length-i)) 1 false (jl (a++je (l.drop i)))] }:=by
 intro c
 induction c with
 |zero =>
  intro i a g hc hi bL;rw[y17 zO,hc];simp only[je,y19,Nat.add_zero];exact aFU k n s l (jl a) a.length g i zO trivial
 |succ c ih =>
  intro i a g hc hi bL;have bg:i<l.length:=zO
  rw[avA bg]at bL |-;simp only[je,yD]at bL;refine aEp k n s l (jl a) a.length g i l[i] (gT l[i]) (eu a) zO zO bg hl (yA bg) (aAK (abz _)) (hv _ (y03 bg) zO) _ _ ?_;have:=ih (i+1) (a++gT l[i]) (g+1) zO zO (by rw[yD];omega);rw[eu,SG];simp only[je];rw[show g+(l.length-i)=g+1+(l.length-(i+1)) by omega,<- y13];rw[show a.length+(gT l[i]).length=(a++gT l[i]).length by rw[yD]];exact this
theorem aDh(v:CV):QG v->(gT v).length<=10000000->Cq 182 [val v] (Cy (gT v)):=by
 refine CV.ind (p:=fun v=>QG v->(gT v).length<=10000000->Cq 182 [val v] (Cy (gT v))) (fun k n s l ih dK bL=>?_) v;cases dK with
 |mk _ _ _ _ hn hs hl jH =>
  rw[val_mk];by_cases h1:k=1
  .subst h1;have e1:gT (.mk 1 n s l)=1::num (vP n):=by simp[gT]
   rw[e1];have:=Nz (vP n);exact aFS n s l hn (Sn hn) (aAK zO) ⟨by rw[eu];omega,yO⟩
  .by_cases h2:k=2
   .subst h2;have e1:gT (.mk 2 n s l)=2::(num s.size++s.data.toList):=by simp[gT]
    rw[e1]at bL |-;simp only[yD,yE,eD]at bL;have em:=NR (n:=s.size) zO;have:=Nz s.size;refine aFT n s l zO (aAK (by rw[em];omega)) ⟨?_,?_,?_⟩<;>rw[em]
    .rw [eu];omega
    .simp only[y10,eD,eu];omega
    .rw [Et,Eu];rfl
   .have e1:gT (.mk k n s l)=3::(num l.length++je l):=by simp[gT,h1,h2]
    rw[e1]at bL |-;simp only[yD,yE]at bL;have hll:=AX l;have em:=NR (n:=l.length) zO;have:=Nz l.length;have hL:=aEr k n s l hl (fun x hx=>ih x hx (jH x hx)) l.length 0 (3::num l.length) 0 zO zO (by rw[drop_zero];simp only[yE];omega);rw[drop_zero,cons_append]at hL;refine aFV k n s l (3::(num l.length++je l)) (0+(l.length-0)) h1 h2 zO (aAK (by rw[em];omega)) (by simp only[yD,yE];omega) ?_ ⟨by rw[em,eu];omega,yO⟩;rw[em];have e4:1+(jl (num l.length)).length=(3::num l.length).length:=by rw[eu];simp only[yE];omega
    rw[e4];exact hL
theorem aCd(v:CV)(dK:QG v)(hd:dp v<=1000001)(bL:jg v=0->(gT v).length<=10000000):Cq 81 [val v] (.bq [Cy (av7 v),int (jg v)]):=by
 have hc:=avK v dK hd;unfold av7;by_cases h:jg v=0
 .rw [yL h];rw[h]at hc |-;exact aEq v _ hc (aDh v dK (bL h)) trivial
 .rw [yK h];exact ak.out (aDg v _ hc h yO) (.U1 (.nil 1) (.refl _))
def rr(b:List UInt8)(gU:Nat)(bad:Bool):List ah:=[.box [Cy b,int gU,bool bad]]
theorem aDi(b:List UInt8)(i:Nat)(bad:Bool)(hi:b.length<=i)(h:True):ak P G 263 [AV.ptr 0 0] (rr b i bad) (aS.ret (u8 0)) (rr b i true):=by
 have _:=h;exact aj [kv 11 (show Am.aF (int (↑(length (jl b)):Int)) (int (↑(length b):Int))from(aF.of_eq (by simp only[Go.yU.eu]))),kt (show decide ((↑i:Int)>=(↑(length b):Int))=true from(y15 zO))] zQ
theorem aIh(b:List UInt8)(i:Nat)(bad:Bool)(c:UInt8)(hi:i<b.length)(hl:b.length<=1000000000)(hx:b[i]?=some c)(h:(∃x2:UInt8,((0:Int)<=(↑(i+1):Int)-1/\b[Int.toNat ((↑(i+1):Int)-1)]?=some x2)/\((↑(UInt8.toNat x2):Int):Int)=((↑(UInt8.toNat c):Int)))):ak P G 263 [AV.ptr 0 0] (rr b i bad) (aS.ret (u8 c)) (rr b (i+1) bad):=by
 obtain⟨x2,o3,h⟩:=h;have e1:=h;exact aA (aF.int_eq e1) [kv 11 (show Am.aF (int (↑(length (jl b)):Int)) (int (↑(length b):Int))from(aF.of_eq (by simp only[Go.yU.eu]))),kf (show decide ((↑i:Int)>=(↑(length b):Int))=false from(y16 zO)),kv 20 (show Am.aF (int (IntKind.wrap IntKind.i64 ((↑i:Int)+1))) (int (↑(i+1):Int))from(aF.TJ zO zO zO)),kv 31 (show Am.aF (int (IntKind.wrap IntKind.i64 ((↑(i+1):Int)-1))) (int ((↑(i+1):Int)-1))from(aF.TJ zO zO rfl)),ko (bC.elem (aa8 x2)),kp (show(0:Int)<=(↑(i+1):Int)-1/\(jl b)[Int.toNat ((↑(i+1):Int)-1)]?=some (aa8 x2)from(qU o3))] zQ
def aAl(b:List UInt8)(a u i:Nat):St:={ aL:=aC 43 [(0,.ptr 0 0),(2,u64 0),(3,u64 u),(4,int i)],H:=rr b a false }
theorem aFW(b:List UInt8)(a u i:Nat)(ha:b.length<=a)(hi:i<=9)(hu:u<18446744073709551616)(hu0:i=0->u=0)(h:((((↑i:Int)=(9:Int))->True)/\((¬(↑i:Int)=(9:Int))->((((↑i:Int)>(0:Int))->True)/\((¬(↑i:Int)>(0:Int))->(IntKind.wrap IntKind.u64 ((↑u:Int)+IntKind.wrap IntKind.u64 (0*2^min (Int.toNat (7*(↑i:Int))) (IntKind.bits IntKind.u64))):Int)=((↑0:Int))))))):Rq 1 264 0 (aAl b a u i) bF.ret (St.mk (aC 43 [(2,u64 0)]) (rr b a true) []):=by
 have bS:=(@Go.yU.aDi (b) (a) (false) zO (trivial));by_cases c1:((↑i:Int)=(9:Int))
 .have h:=h.1 c1;have _:=h;exact aG [kt (Eq.refl true),kc [0] bS,kt (beq_iff_eq.2 c1),kf (Eq.refl false),kt (show decide ((↑i:Int)>(0:Int))=true from(y15 zO)),kt (Eq.refl true)] (aB 43 [2]) 1 zQ
 .have h:=h.2 c1;by_cases c3:((↑i:Int)>(0:Int))
  .have h:=h.1 c3;have _:=h;exact aG [kt (Eq.refl true),kc [0] bS,kf (beq_eq_false_iff_ne.2 c1),kf (Eq.refl false),kt (y15 c3),kt (Eq.refl true)] (aB 43 [2]) 1 zQ
  .have h:=h.2 c3;have e1:=h;exact bN.to ((show Rq 1 264 0 (aAl b a u i) bF.ret (sM 43 [(2,AV.lit (Value.int IntKind.u64 (IntKind.wrap IntKind.u64 ((↑u:Int)+IntKind.wrap IntKind.u64 (0*2^min (Int.toNat (7*(↑i:Int))) (IntKind.bits IntKind.u64))))))] [.box [.sl 1 false (jl b),int (↑a:Int),Am.bool true]])from aG [kt (Eq.refl true),kc [0] bS,kf (beq_eq_false_iff_ne.2 c1),kf (Eq.refl false),kf (y16 c3),kf (Eq.refl false),kp (show(128:Int)≠(0:Int)from zO),kv 37 (show Am.aF (int (IntKind.wrap IntKind.i64 (7*(↑i:Int)))) (int (7*(↑i:Int)))from(aF.TJ zO zO rfl)),kp (show(0:Int)<=7*(↑i:Int)from zO),kt (Eq.refl true)] (aB 43 [2]) 1 zQ)) rfl (eB.aC ⟨rfl,(aF.int_eq e1),yO⟩)
theorem aAL(b:List UInt8)(a u i:Nat)(c:UInt8)(hv:ak P G 263 [.ptr 0 0] (rr b a false) (.ret (u8 c)) (rr b (a+1) false))(hi:i<=9)(ex:bF)(v:Int)(o:ah)(h:((((↑i:Int)=(9:Int))->((((↑(UInt8.toNat c):Int)>(1:Int))->(bF.ret=ex)/\((0:Int)=(v))/\([ah.box [AV.sl 1 false (jl b),int (↑(a+1):Int),Am.bool true]]=[o]))/\((¬(↑(UInt8.toNat c):Int)>(1:Int))->((((↑(UInt8.toNat c):Int)=(0:Int))->(bF.ret=ex)/\((0:Int)=(v))/\([ah.box [AV.sl 1 false (jl b),int (↑(a+1):Int),Am.bool true]]=[o]))/\((¬(↑(UInt8.toNat c):Int)=(0:Int))->(bF.ret=ex)/\((IntKind.wrap IntKind.u64 ((↑u:Int)+IntKind.wrap IntKind.u64 (IntKind.wrap IntKind.u64 (Int.tmod (↑(UInt8.toNat c):Int) 128)*2^min (Int.toNat (7*(↑i:Int))) (IntKind.bits IntKind.u64))):Int)=(v))/\([ah.box [AV.sl 1 false (jl b),int (↑(a+1):Int),Am.bool false]]=[o]))))))/\((¬(↑i:Int)=(9:Int))->((((↑i:Int)>(0:Int))->((((↑(UInt8.toNat c):Int)=(0:Int))->(bF.ret=ex)/\((0:Int)=(v))/\([ah.box [AV.sl 1 false (jl b),int (↑(a+1):Int),Am.bool true]]=[o]))/\((¬(↑(UInt8.toNat c):Int)=(0:Int))->((((↑(UInt8.toNat c):Int)<(128:Int))->(bF.ret=ex)/\((IntKind.wrap IntKind.u64 ((↑u:Int)+IntKind.wrap IntKind.u64 (IntKind.wrap IntKind.u64 (Int.tmod (↑(UInt8.toNat c):Int) 128)*2^min (Int.toNat (7*(↑i:Int))) (IntKind.bits IntKind.u64))):Int)=(v))/\([ah.box [AV.sl 1 false (jl b),int (↑(a+1):Int),Am.bool false]]=[o]))/\((¬(↑(UInt8.toNat c):Int)<(128:Int))->Rq 1 264 0 (sM 43 [(0,.ptr 0 0),(2,AV.lit (Value.int IntKind.u64 0)),(3,AV.lit (Value.int IntKind.u64 (IntKind.wrap IntKind.u64 ((↑u:Int)+IntKind.wrap IntKind.u64 (IntKind.wrap IntKind.u64 (Int.tmod (↑(UInt8.toNat c):Int) 128)*2^min (Int.toNat (7*(↑i:Int))) (IntKind.bits IntKind.u64)))))),(4,int (↑(i+1):Int))] [.box [.sl 1 false (jl b),int (↑(a+1):Int),Am.bool false]]) ex (sM 43 [(2,AV.lit (Value.int IntKind.u64 v))] [o]))))))/\((¬(↑i:Int)>(0:Int))->((((↑(UInt8.toNat c):Int)<(128:Int))->(bF.ret=ex)/\((IntKind.wrap IntKind.u64 ((↑u:Int)+IntKind.wrap IntKind.u64 (IntKind.wrap IntKind.u64 (Int.tmod (↑(UInt8.toNat c):Int) 128)*2^min (Int.toNat (7*(↑i:Int))) (IntKind.bits IntKind.u64))):Int)=(v))/\([ah.box [AV.sl 1 false (jl b),int (↑(a+1):Int),Am.bool false]]=[o]))/\((¬(↑(UInt8.toNat c):Int)<(128:Int))->Rq 1 264 0 (sM 43 [(0,.ptr 0 0),(2,AV.lit (Value.int IntKind.u64 0)),(3,AV.lit (Value.int IntKind.u64 (IntKind.wrap IntKind.u64 ((↑u:Int)+IntKind.wrap IntKind.u64 (IntKind.wrap IntKind.u64 (Int.tmod (↑(UInt8.toNat c):Int) 128)*2^min (Int.toNat (7*(↑i:Int))) (IntKind.bits IntKind.u64)))))),(4,int (↑(i+1):Int))] [.box [.sl 1 false (jl b),int (↑(a+1):Int),Am.bool false]]) ex (sM 43 [(2,AV.lit (Value.int IntKind.u64 v))] [o])))))))):Rq 1 264 0 (aAl b a u i) ex (sM 43 [(2,AV.lit (Value.int IntKind.u64 v))] [o]):=by
 have bS:=(@hv );by_cases c1:((↑i:Int)=(9:Int))
 .have h:=h.1 c1;by_cases c2:((↑(UInt8.toNat c):Int)>(1:Int))
  .have h:=h.1 c2;obtain⟨eX,e1,eH⟩:=h;exact bN.to ((show Rq 1 264 0 (aAl b a u i) bF.ret (sM 43 [(2,AV.lit (Value.int IntKind.u64 0))] [.box [.sl 1 false (jl b),int (↑(a+1):Int),Am.bool true]])from aG [kt (Eq.refl true),kc [0] bS,kt (beq_iff_eq.2 c1),kt (y15 c2),kt (Eq.refl true)] (aB 43 [2]) 1 zQ)) eX (eB.af2 ⟨rfl,(aF.int_eq e1),yO⟩ eH)
  .have h:=h.2 c2;have fT:decide ((↑i:Int)>(0:Int))=true:=(y15 zO);by_cases c4:((↑(UInt8.toNat c):Int)=(0:Int))
   .have h:=h.1 c4;obtain⟨eX,e1,eH⟩:=h;exact bN.to ((show Rq 1 264 0 (aAl b a u i) bF.ret (sM 43 [(2,AV.lit (Value.int IntKind.u64 0))] [.box [.sl 1 false (jl b),int (↑(a+1):Int),Am.bool true]])from aG [kt (Eq.refl true),kc [0] bS,kt (beq_iff_eq.2 c1),kf (y16 c2),kt fT,kt (beq_iff_eq.2 c4)] (aB 43 [2]) 1 zQ)) eX (eB.af2 ⟨rfl,(aF.int_eq e1),yO⟩ eH)
   .have h:=h.2 c4;obtain⟨eX,e1,eH⟩:=h;exact bN.to ((show Rq 1 264 0 (aAl b a u i) bF.ret (sM 43 [(2,AV.lit (Value.int IntKind.u64 (IntKind.wrap IntKind.u64 ((↑u:Int)+IntKind.wrap IntKind.u64 (IntKind.wrap IntKind.u64 (Int.tmod (↑(UInt8.toNat c):Int) 128)*2^min (Int.toNat (7*(↑i:Int))) (IntKind.bits IntKind.u64))))))] [.box [.sl 1 false (jl b),int (↑(a+1):Int),Am.bool false]])from aG [kt (Eq.refl true),kc [0] bS,kt (beq_iff_eq.2 c1),kf (y16 c2),kt fT,kf (beq_eq_false_iff_ne.2 c4),kp (show(128:Int)≠(0:Int)from zO),kv 37 (show Am.aF (int (IntKind.wrap IntKind.i64 (7*(↑i:Int)))) (int (7*(↑i:Int)))from(aF.TJ zO zO rfl)),kp (show(0:Int)<=7*(↑i:Int)from zO),kt (show decide ((↑(UInt8.toNat c):Int)<(128:Int))=true from(y15 zO))] (aB 43 [2]) 1 zQ)) eX (eB.af2 ⟨rfl,(aF.int_eq e1),yO⟩ eH)
 .have h:=h.2 c1;by_cases c6:((↑i:Int)>(0:Int))
  .have h:=h.1 c6;by_cases c7:((↑(UInt8.toNat c):Int)=(0:Int))
   .have h:=h.1 c7;obtain⟨eX,e1,eH⟩:=h;exact bN.to ((show Rq 1 264 0 (aAl b a u i) bF.ret (sM 43 [(2,AV.lit (Value.int IntKind.u64 0))] [.box [.sl 1 false (jl b),int (↑(a+1):Int),Am.bool true]])from aG [kt (Eq.refl true),kc [0] bS,kf (beq_eq_false_iff_ne.2 c1),kf (Eq.refl false),kt (y15 c6),kt (beq_iff_eq.2 c7)] (aB 43 [2]) 1 zQ)) eX (eB.af2 ⟨rfl,(aF.int_eq e1),yO⟩ eH)
   .have h:=h.2 c7;by_cases c8:((↑(UInt8.toNat c):Int)<(128:Int))
    .have h:=h.1 c8;obtain⟨eX,e1,eH⟩:=h;exact bN.to ((show Rq 1 264 0 (aAl b a u i) bF.ret (sM 43 [(2,AV.lit (Value.int IntKind.u64 (IntKind.wrap IntKind.u64 ((↑u:Int)+IntKind.wrap IntKind.u64 (IntKind.wrap IntKind.u64 (Int.tmod (↑(UInt8.toNat c):Int) 128)*2^min (Int.toNat (7*(↑i:Int))) (IntKind.bits IntKind.u64))))))] [.box [.sl 1 false (jl b),int (↑(a+1):Int),Am.bool false]])from aG [kt (Eq.refl true),kc [0] bS,kf (beq_eq_false_iff_ne.2 c1),kf (Eq.refl false),kt (y15 c6),kf (beq_eq_false_iff_ne.2 c7),kp (show(128:Int)≠(0:Int)from zO),kv 37 (show Am.aF (int (IntKind.wrap IntKind.i64 (7*(↑i:Int)))) (int (7*(↑i:Int)))from(aF.TJ zO zO rfl)),kp (show(0:Int)<=7*(↑i:Int)from zO),kt (y15 c8)] (aB 43 [2]) 1 zQ)) eX (eB.af2 ⟨rfl,(aF.int_eq e1),yO⟩ eH)
    .have h:=h.2 c8;exact aJ [kt (Eq.refl true),kc [0] bS,kf (beq_eq_false_iff_ne.2 c1),kf (Eq.refl false),kt (y15 c6),kf (beq_eq_false_iff_ne.2 c7),kp (show(128:Int)≠(0:Int)from zO),kv 37 (show Am.aF (int (IntKind.wrap IntKind.i64 (7*(↑i:Int)))) (int (7*(↑i:Int)))from(aF.TJ zO zO rfl)),kp (show(0:Int)<=7*(↑i:Int)from zO),kf (y16 c8),kv 12 (show Am.aF (int (IntKind.wrap IntKind.i64 ((↑i:Int)+1))) (int (↑(i+1):Int))from(aF.TJ zO zO zO))] (aB 43 [0,2,3,4]) 1 h zQ
  .have h:=h.2 c6;by_cases c9:((↑(UInt8.toNat c):Int)<(128:Int))
   .have h:=h.1 c9;obtain⟨eX,e1,eH⟩:=h;exact bN.to ((show Rq 1 264 0 (aAl b a u i) bF.ret (sM 43 [(2,AV.lit (Value.int IntKind.u64 (IntKind.wrap IntKind.u64 ((↑u:Int)+IntKind.wrap IntKind.u64 (IntKind.wrap IntKind.u64 (Int.tmod (↑(UInt8.toNat c):Int) 128)*2^min (Int.toNat (7*(↑i:Int))) (IntKind.bits IntKind.u64))))))] [.box [.sl 1 false (jl b),int (↑(a+1):Int),Am.bool false]])from aG [kt (Eq.refl true),kc [0] bS,kf (beq_eq_false_iff_ne.2 c1),kf (Eq.refl false),kf (y16 c6),kf (Eq.refl false),kp (show(128:Int)≠(0:Int)from zO),kv 37 (show Am.aF (int (IntKind.wrap IntKind.i64 (7*(↑i:Int)))) (int (7*(↑i:Int)))from(aF.TJ zO zO rfl)),kp (show(0:Int)<=7*(↑i:Int)from zO),kt (y15 c9)] (aB 43 [2]) 1 zQ)) eX (eB.af2 ⟨rfl,(aF.int_eq e1),yO⟩ eH)
   .have h:=h.2 c9;exact aJ [kt (Eq.refl true),kc [0] bS,kf (beq_eq_false_iff_ne.2 c1),kf (Eq.refl false),kf (y16 c6),kf (Eq.refl false),kp (show(128:Int)≠(0:Int)from zO),kv 37 (show Am.aF (int (IntKind.wrap IntKind.i64 (7*(↑i:Int)))) (int (7*(↑i:Int)))from(aF.TJ zO zO rfl)),kp (show(0:Int)<=7*(↑i:Int)from zO),kf (y16 c9),kv 12 (show Am.aF (int (IntKind.wrap IntKind.i64 ((↑i:Int)+1))) (int (↑(i+1):Int))from(aF.TJ zO zO zO))] (aB 43 [0,2,3,4]) 1 h zQ
theorem aCe(b:List UInt8)(a a' u:Nat)(bad:Bool)(hL:Rq 1 264 0 (aAl b a 0 0) .ret { aL:=aC 43 [(2,u64 u)],H:=rr b a' bad })(h:True):ak P G 264 [AV.ptr 0 0] (rr b a false) (aS.ret (u64 u)) (rr b a' bad):=by
 have _:=h;exact aj [kl [1,5,6,7,8,9,10,11,12,13,14,15,16,17,18,19,20,21,22,23,24,25,26,27,28,29,30,31,32,33,34,35,36,37,38,39,40,41,42] 1 (@hL )] zQ
theorem aBO(b:List UInt8)(i:Nat)(bad:Bool)(c:UInt8)(hl:b.length<=1000000000)(hx:b[i]?=some c):ak P G 263 [.ptr 0 0] (rr b i bad) (.ret (u8 c)) (rr b (i+1) bad):=by
 have hi:i<b.length:=by
  rcases y08 i b.length with h|h
  .exact h
  .rw [getElem?_eq_none h]at hx;cases hx
 exact aIh b i bad c hi hl hx ⟨c,⟨zO,by rw[show(((i+1:Nat):Int)-1).toNat=i by omega];exact hx⟩,rfl⟩
theorem aA8(hu:u<2^(7*i))(hi:i<=9)(hc:i=9->c.toNat<=1):IntKind.wrap IntKind.u64 ((↑u:Int)+IntKind.wrap IntKind.u64 (IntKind.wrap IntKind.u64 (Int.tmod (↑(UInt8.toNat c):Int) 128)*2^min (Int.toNat (7*(↑i:Int))) (IntKind.bits IntKind.u64)))=((u+c.toNat % 128*2^(7*i):Nat):Int):=by
 have pO:=(nH hu hi hc).2;have e2:(7*(i:Int)).toNat=7*i:=zO
 have e3:min (7*i) (IntKind.bits IntKind.u64)=7*i:=by show min (7*i) 64=_;omega
 have e1:Int.tmod (↑(UInt8.toNat c):Int) 128=((c.toNat % 128:Nat):Int):=rfl;rw[e1,e2,e3,wrap64 (show c.toNat % 128<18446744073709551616 by omega)];have e4:((c.toNat % 128:Nat):Int)*2^(7*i)=((c.toNat % 128*2^(7*i):Nat):Int):=by push_cast;rfl
 rw[e4,wrap64 (show c.toNat % 128*2^(7*i)<18446744073709551616 by omega),show((u:Int)+((c.toNat % 128*2^(7*i):Nat):Int))=((u+c.toNat % 128*2^(7*i):Nat):Int) by push_cast;rfl,wrap64 pO]
variable {r b:List UInt8}
theorem drop_cons{a:Nat}(h:b.drop a=c::r):b[a]?=some c/\b.drop (a+1)=r/\b.length=a+1+r.length:=by
 have h1:b[a]?=some c:=by
  have:=yJ (fun l=>l[0]?) h;simpa using this
 have h2:b.drop (a+1)=r:=by
  have:=yJ (List.drop 1) h;simpa[drop_drop,Nat.add_comm]using this
 refine⟨h1,h2,?_⟩;have:=yJ length h;simp at this;omega
theorem aBP(b:List UInt8)(hl:b.length<=1000000000):∀(l:List UInt8)(a u i:Nat),b.drop a=l->a<=b.length->u<2^(7*i)->i<=9 ->
 ∃a':Nat,a'<=b.length/\((SX l u i).1=true->b.drop a'=(SX l u i).2.2) /\
  Rq 1 264 0 (aAl b a u i) .ret { aL:=aC 43 [(2,u64 (if(SX l u i).1=true then(SX l u i).2.1 else 0))],H:=rr b a' (!(SX l u i).1) }
 |[],a,u,i,ha,hab,hu,hi=>by
  have bL:b.length<=a:=by
   have:=yJ length ha;simp at this;omega
  refine⟨a,hab,fun h=>by simp[SX]at h,?_⟩;refine aFW b a u i bL hi ?_ ?_ ⟨fun _=>trivial,fun _=>⟨fun _=>trivial,fun h=>?_⟩⟩
  .have:2^(7*i)<=2^63:=Nat.pow_le_pow_right zD zO;have e:(2:Nat)^63=9223372036854775808:=zD
   omega
  .intro h;subst h;simpa using hu
  .have hi0:i=0:=zO
   subst hi0;have hu0:u=0:=by simpa using hu
   subst hu0;rfl
 |c::r,a,u,i,ha,hab,hu,hi=>by
  obtain⟨hx,hd,bL⟩:=drop_cons ha;have hv:=aBO b a false c hl hx;have hc8:c.toNat<256:=c.toNat_lt;by_cases hbad:(i≠0/\c.toNat=0)\/(9<=i/\1<c.toNat)
  .have e:SX (c::r) u i=(false,u,r):=by simp only[SX];rw[yL hbad]
   rw[e];refine⟨a+1,zO,(fun h=>by cases h),?_⟩;refine aAL b a u i c hv hi _ 0 _ ⟨fun h9=>⟨fun h1=>⟨rfl,rfl,rfl⟩,fun h1=>⟨fun h0=>⟨rfl,rfl,rfl⟩,fun h0=>?_⟩⟩,fun h9=>⟨fun h0=>⟨fun hc=>⟨rfl,rfl,rfl⟩,fun hc=>⟨fun hc1=>?_,fun hc1=>?_⟩⟩,fun h0=>⟨fun hc=>?_,fun hc=>?_⟩⟩⟩<;>omega
  .have h9c:i=9->c.toNat<=1:=zO
   by_cases hc:c.toNat<128
   .have e:SX (c::r) u i=(true,u+c.toNat % 128*2^(7*i),r):=by simp only[SX];rw[yK hbad,yL hc]
    rw[e];refine⟨a+1,zO,fun _=>hd,?_⟩;have en:=aA8 hu hi h9c;refine aAL b a u i c hv hi _ _ _ ⟨fun h9=>⟨fun h1=>?_,fun h1=>⟨fun h0=>?_,fun h0=>⟨rfl,en,rfl⟩⟩⟩,fun h9=>⟨fun h0=>⟨fun hc=>?_,fun hc=>⟨fun hc1=>⟨rfl,en,rfl⟩,fun hc1=>?_⟩⟩,fun h0=>⟨fun hc=>⟨rfl,en,rfl⟩,fun hc=>?_⟩⟩⟩<;>omega
   .have e:SX (c::r) u i=SX r (u+c.toNat % 128*2^(7*i)) (i+1):=by
     simp only[SX];rw[yK hbad,yK hc]
    rw[e];have hi':i<=8:=zO
    obtain⟨a',h1,h2,h3⟩:=aBP b hl r (a+1) (u+c.toNat % 128*2^(7*i)) (i+1) hd zO (nH hu hi h9c).1 zO;refine⟨a',h1,h2,?_⟩;have en:=aA8 hu hi h9c;refine aAL b a u i c hv hi _ _ _ ⟨fun h9=>⟨fun h1=>?_,fun h1=>⟨fun h0=>?_,fun h0=>?_⟩⟩,fun h9=>⟨fun h0=>⟨fun hc=>?_,fun hc=>⟨fun hc1=>?_,fun hc1=>?_⟩⟩,fun h0=>⟨fun hc=>?_,fun hc=>?_⟩⟩⟩
    .omega
    .omega
    .omega
    .omega
    .omega
    .rw [en];exact h3
    .omega
    .rw [en];exact h3
theorem aCf(b:List UInt8)(a:Nat)(hl:b.length<=1000000000)(ha:a<=b.length):∃a':Nat,a'<=b.length/\(Qu (b.drop a)=true->b.drop a'=Co (b.drop a)) /\
 ak P G 264 [.ptr 0 0] (rr b a false) (.ret (u64 (if Qu (b.drop a)=true then Cn (b.drop a)else 0))) (rr b a' (!Qu (b.drop a))):=by
 obtain⟨a',h1,h2,h3⟩:=aBP b hl _ a 0 0 rfl ha zS zO;exact⟨a',h1,h2,aCe b a a' _ _ h3 yO⟩
theorem aJ5(a u:Nat):(((a+u:Nat):Int)-(u:Int)).toNat=a:=zO
theorem aIi(b:List UInt8)(a a1:Nat)(bad:Bool)(dep:Nat)(c:UInt8)(hn:ak P G 263 [.ptr 0 0] (rr b a false) (.ret (u8 c)) (rr b a1 bad))(h1:c.toNat≠1)(h2:c.toNat≠2)(h3:c.toNat≠3)(h:True):ak P G 196 [AV.ptr 0 0,int (↑dep:Int)] (rr b a false) (aS.ret (rR 0 0 y28 [])) (rr b a1 true):=by
 have _:=h;exact ak.out ((show ak P G 196 [AV.ptr 0 0,int (↑dep:Int)] (rr b a false) (aS.ret (AV.agg [int 0,int 0,str (ByteArray.mk #[]),aK])) [ah.box [AV.sl 1 false (jl b),int (↑a1:Int),Am.bool true]]from aj [kc [0] (@hn ),kf (show((↑(UInt8.toNat c):Int)==1)=false from(y16 zO)),kf (show((↑(UInt8.toNat c):Int)==2)=false from(y16 zO)),kf (show((↑(UInt8.toNat c):Int)==3)=false from(y16 zO))] zQ)) (aF.qo ⟨y29,y29,y29,(aF.nil _),yO⟩)
theorem aIj(b:List UInt8)(a a1 a2 u:Nat)(bad:Bool)(dep:Nat)(c:UInt8)(hn:ak P G 263 [.ptr 0 0] (rr b a false) (.ret (u8 c)) (rr b a1 false))(h1:c.toNat=1)(hu:ak P G 264 [.ptr 0 0] (rr b a1 false) (.ret (u64 u)) (rr b a2 bad))(v:Int)(h:(((Int.tmod (↑u:Int) 2=(1:Int))->(IntKind.wrap IntKind.i64 (IntKind.wrap IntKind.i64 (0-IntKind.wrap IntKind.i64 (IntKind.wrap IntKind.u64 (Int.tdiv (↑u:Int) 2)))-1):Int)=(v))/\((¬Int.tmod (↑u:Int) 2=(1:Int))->(IntKind.wrap IntKind.i64 (IntKind.wrap IntKind.u64 (Int.tdiv (↑u:Int) 2)):Int)=(v)))):ak P G 196 [AV.ptr 0 0,int (↑dep:Int)] (rr b a false) (aS.ret (rR 1 v y28 [])) (rr b a2 bad):=by
 have bS:=(@hn );have fT:((↑(UInt8.toNat c):Int)==1)=true:=(y15 zO);have jw:=(@hu );have x9:(2:Int)≠(0:Int):=zO;by_cases c2:(Int.tmod (↑u:Int) 2=(1:Int))
 .have h:=h.1 c2;have e1:=h;exact ak.out ((show ak P G 196 [AV.ptr 0 0,int (↑dep:Int)] (rr b a false) (aS.ret (AV.agg [int 1,int (IntKind.wrap IntKind.i64 (IntKind.wrap IntKind.i64 (0-IntKind.wrap IntKind.i64 (IntKind.wrap IntKind.u64 (Int.tdiv (↑u:Int) 2)))-1)),str (ByteArray.mk #[]),aK])) [ah.box [AV.sl 1 false (jl b),int (↑a2:Int),Am.bool bad]]from aj [kc [0] bS,kt fT,kc [0] jw,kp x9,kt (beq_iff_eq.2 c2),kp x9] zQ)) (aF.qo ⟨y29,(aF.int_eq e1),y29,(aF.nil _),yO⟩)
 .have h:=h.2 c2;have e1:=h;exact ak.out ((show ak P G 196 [AV.ptr 0 0,int (↑dep:Int)] (rr b a false) (aS.ret (AV.agg [int 1,int (IntKind.wrap IntKind.i64 (IntKind.wrap IntKind.u64 (Int.tdiv (↑u:Int) 2))),str (ByteArray.mk #[]),aK])) [ah.box [AV.sl 1 false (jl b),int (↑a2:Int),Am.bool bad]]from aj [kc [0] bS,kt fT,kc [0] jw,kp x9,kf (beq_eq_false_iff_ne.2 c2),kp x9] zQ)) (aF.qo ⟨y29,(aF.int_eq e1),y29,(aF.nil _),yO⟩)
theorem aIk(b:List UInt8)(a a1 a2 u:Nat)(dep:Nat)(c:UInt8)(hn:ak P G 263 [.ptr 0 0] (rr b a false) (.ret (u8 c)) (rr b a1 false))(h1:c.toNat=2)(hu:ak P G 264 [.ptr 0 0] (rr b a1 false) (.ret (u64 u)) (rr b a2 true))(h:True):ak P G 196 [AV.ptr 0 0,int (↑dep:Int)] (rr b a false) (aS.ret (rR 0 0 y28 [])) (rr b a2 true):=by
 have _:=h;exact ak.out ((show ak P G 196 [AV.ptr 0 0,int (↑dep:Int)] (rr b a false) (aS.ret (AV.agg [int 0,int 0,str (ByteArray.mk #[]),aK])) [ah.box [AV.sl 1 false (jl b),int (↑a2:Int),Am.bool true]]from aj [kc [0] (@hn ),kf (show((↑(UInt8.toNat c):Int)==1)=false from(y16 zO)),kt (show((↑(UInt8.toNat c):Int)==2)=true from(y15 zO)),kc [0] (@hu ),kt (Eq.refl true),kt (Eq.refl true)] zQ)) (aF.qo ⟨y29,y29,y29,(aF.nil _),yO⟩)
theorem aIl(b:List UInt8)(a a1 a2 u:Nat)(dep:Nat)(c:UInt8)(hn:ak P G 263 [.ptr 0 0] (rr b a false) (.ret (u8 c)) (rr b a1 false))(h1:c.toNat=2)(hu:ak P G 264 [.ptr 0 0] (rr b a1 false) (.ret (u64 u)) (rr b a2 false))(hl:b.length<=1000000000)(ha:a2<=b.length)(hb:b.length-a2<u)(h:True):ak P G 196 [AV.ptr 0 0,int (↑dep:Int)] (rr b a false) (aS.ret (rR 0 0 y28 [])) (rr b a2 true):=by
 have _:=h;exact ak.out ((show ak P G 196 [AV.ptr 0 0,int (↑dep:Int)] (rr b a false) (aS.ret (AV.agg [int 0,int 0,str (ByteArray.mk #[]),aK])) [ah.box [AV.sl 1 false (jl b),int (↑a2:Int),Am.bool true]]from aj [kc [0] (@hn ),kf (show((↑(UInt8.toNat c):Int)==1)=false from(y16 zO)),kt (show((↑(UInt8.toNat c):Int)==2)=true from(y15 zO)),kc [0] (@hu ),kf (Eq.refl false),kv 43 (show Am.aF (int (↑(length (jl b)):Int)) (int (↑(length b):Int))from(aF.of_eq (by simp only[Go.yU.eu]))),kv 48 (show Am.aF (int (IntKind.wrap IntKind.i64 ((↑(length b):Int)-(↑a2:Int)))) (int ((↑(length b):Int)-(↑a2:Int)))from(aF.TJ zO zO rfl)),kv 49 (show Am.aF (AV.lit (Value.int IntKind.u64 (IntKind.wrap IntKind.u64 ((↑(length b):Int)-(↑a2:Int))))) (AV.lit (Value.int IntKind.u64 ((↑(length b):Int)-(↑a2:Int))))from(aF.zf zO zO rfl)),kt (show decide ((↑u:Int)>(↑(length b):Int)-(↑a2:Int))=true from(y15 zO))] zQ)) (aF.qo ⟨y29,y29,y29,(aF.nil _),yO⟩)
theorem aJ6(b:List UInt8)(a a1 a2 u:Nat)(dep:Nat)(c:UInt8)(hn:ak P G 263 [.ptr 0 0] (rr b a false) (.ret (u8 c)) (rr b a1 false))(h1:c.toNat=2)(hu:ak P G 264 [.ptr 0 0] (rr b a1 false) (.ret (u64 u)) (rr b a2 false))(hl:b.length<=1000000000)(ha:a2<=b.length)(uQ:u<=b.length-a2)(h:True):ak P G 196 [AV.ptr 0 0,int (↑dep:Int)] (rr b a false) (aS.ret (rR 2 0 (ByteArray.mk (toArray (List.drop a2 (List.take (a2+u) b)))) [])) (rr b (a2+u) false):=by
 have Qy:Am.aF (int (IntKind.wrap IntKind.i64 (↑u:Int))) (int (↑u:Int)):=(aF.TJ zO zO rfl);have _:=h;exact ak.out ((show ak P G 196 [AV.ptr 0 0,int (↑dep:Int)] (rr b a false) (aS.ret (AV.agg [int 2,int 0,str (ByteArray.mk (toArray (List.drop a2 (List.take (a2+u) b)))),aK])) [ah.box [AV.sl 1 false (jl b),int (↑(a2+u):Int),Am.bool false]]from aj [kc [0] (@hn ),kf (show((↑(UInt8.toNat c):Int)==1)=false from(y16 zO)),kt (show((↑(UInt8.toNat c):Int)==2)=true from(y15 zO)),kc [0] (@hu ),kf (Eq.refl false),kv 43 (show Am.aF (int (↑(length (jl b)):Int)) (int (↑(length b):Int))from(aF.of_eq (by simp only[Go.yU.eu,y26]))),kv 48 (show Am.aF (int (IntKind.wrap IntKind.i64 ((↑(length b):Int)-(↑a2:Int)))) (int ((↑(length b):Int)-(↑a2:Int)))from(aF.TJ zO zO rfl)),kv 49 (show Am.aF (AV.lit (Value.int IntKind.u64 (IntKind.wrap IntKind.u64 ((↑(length b):Int)-(↑a2:Int))))) (AV.lit (Value.int IntKind.u64 ((↑(length b):Int)-(↑a2:Int))))from(aF.zf zO zO rfl)),kf (show decide ((↑u:Int)>(↑(length b):Int)-(↑a2:Int))=false from(y16 zO)),kv 62 Qy,kv 63 (show Am.aF (int (IntKind.wrap IntKind.i64 ((↑a2:Int)+(↑u:Int)))) (int (↑(a2+u):Int))from(aF.TJ zO zO zO)),kv 75 Qy,kv 76 (show Am.aF (int (IntKind.wrap IntKind.i64 ((↑(a2+u):Int)-(↑u:Int)))) (int ((↑(a2+u):Int)-(↑u:Int)))from(aF.TJ zO zO rfl)),kv 81 (show Am.aF (AV.sl 1 false (List.drop (Int.toNat ((↑(a2+u):Int)-(↑u:Int))) (List.take (Int.toNat (↑(a2+u):Int)) (jl b)))) (AV.sl 1 false (jl (List.drop a2 (List.take (a2+u) b))))from(aF.of_eq (by simp only[Go.yU.awx,Go.yU.awy,y26,Go.yU.aJ5]))),ko (bC.bytes (ByteArray.mk (toArray (List.drop a2 (List.take (a2+u) b))))),kp (show(0:Int)<=(↑(a2+u):Int)-(↑u:Int)/\(↑(a2+u):Int)-(↑u:Int)<=(↑(a2+u):Int)/\(↑(a2+u):Int)<=(↑(length (jl b)):Int)from(by rw[Go.yU.eu];omega)),kp (show jl (List.drop a2 (List.take (a2+u) b))=List.map (fun(c:UInt8)=>[AV.lit (Value.int IntKind.u8 (↑(UInt8.toNat c):Int))]) (Array.toList (Array.mk (List.drop a2 (List.take (a2+u) b))))from(rfl))] zQ)) (aF.qo ⟨y29,y29,y29,(aF.nil _),yO⟩)
theorem aIm(b:List UInt8)(a a1 a2 u:Nat)(dep:Nat)(c:UInt8)(hn:ak P G 263 [.ptr 0 0] (rr b a false) (.ret (u8 c)) (rr b a1 false))(h1:c.toNat=3)(hu:ak P G 264 [.ptr 0 0] (rr b a1 false) (.ret (u64 u)) (rr b a2 true))(h:True):ak P G 196 [AV.ptr 0 0,int (↑dep:Int)] (rr b a false) (aS.ret (rR 0 0 y28 [])) (rr b a2 true):=by
 have _:=h;exact ak.out ((show ak P G 196 [AV.ptr 0 0,int (↑dep:Int)] (rr b a false) (aS.ret (AV.agg [int 0,int 0,str (ByteArray.mk #[]),aK])) [ah.box [AV.sl 1 false (jl b),int (↑a2:Int),Am.bool true]]from aj [kc [0] (@hn ),kf (show((↑(UInt8.toNat c):Int)==1)=false from(y16 zO)),kf (show((↑(UInt8.toNat c):Int)==2)=false from(y16 zO)),kt (show((↑(UInt8.toNat c):Int)==3)=true from(y15 zO)),kc [0] (@hu ),kt (Eq.refl true),kt (Eq.refl true),kt (Eq.refl true)] zQ)) (aF.qo ⟨y29,y29,y29,(aF.nil _),yO⟩)
theorem aEY(b:List UInt8)(a a1 a2 u:Nat)(dep:Nat)(c:UInt8)(hn:ak P G 263 [.ptr 0 0] (rr b a false) (.ret (u8 c)) (rr b a1 false))(h1:c.toNat=3)(hu:ak P G 264 [.ptr 0 0] (rr b a1 false) (.ret (u64 u)) (rr b a2 false))(hl:b.length<=1000000000)(ha:a2<=b.length)(hb:b.length-a2<u\/dep=16)(h:((((↑u:Int)>(↑(length b):Int)-(↑a2:Int))->True)/\((¬(↑u:Int)>(↑(length b):Int)-(↑a2:Int))->True))):ak P G 196 [AV.ptr 0 0,int (↑dep:Int)] (rr b a false) (aS.ret (rR 0 0 y28 [])) (rr b a2 true):=by
 have bS:=(@hn );have fT:((↑(UInt8.toNat c):Int)==1)=false:=(y16 zO);have jw:((↑(UInt8.toNat c):Int)==2)=false:=(y16 zO);have x9:((↑(UInt8.toNat c):Int)==3)=true:=(y15 zO);have Av:=(@hu );have qj:Am.aF (int (↑(length (jl b)):Int)) (int (↑(length b):Int)):=(aF.of_eq (by simp only[Go.yU.eu]));have OG:Am.aF (int (IntKind.wrap IntKind.i64 ((↑(length b):Int)-(↑a2:Int)))) (int ((↑(length b):Int)-(↑a2:Int))):=(aF.TJ zO zO rfl);have H6:Am.aF (AV.lit (Value.int IntKind.u64 (IntKind.wrap IntKind.u64 ((↑(length b):Int)-(↑a2:Int))))) (AV.lit (Value.int IntKind.u64 ((↑(length b):Int)-(↑a2:Int)))):=(aF.zf zO zO rfl);by_cases c4:((↑u:Int)>(↑(length b):Int)-(↑a2:Int))
 .have h:=h.1 c4;have _:=h;exact ak.out ((show ak P G 196 [AV.ptr 0 0,int (↑dep:Int)] (rr b a false) (aS.ret (AV.agg [int 0,int 0,str (ByteArray.mk #[]),aK])) [ah.box [AV.sl 1 false (jl b),int (↑a2:Int),Am.bool true]]from aj [kc [0] bS,kf fT,kf jw,kt x9,kc [0] Av,kf (Eq.refl false),kv 98 qj,kv 103 OG,kv 104 H6,kt (y15 c4),kt (Eq.refl true)] zQ)) (aF.qo ⟨y29,y29,y29,(aF.nil _),yO⟩)
 .have h:=h.2 c4;have _:=h;exact ak.out ((show ak P G 196 [AV.ptr 0 0,int (↑dep:Int)] (rr b a false) (aS.ret (AV.agg [int 0,int 0,str (ByteArray.mk #[]),aK])) [ah.box [AV.sl 1 false (jl b),int (↑a2:Int),Am.bool true]]from aj [kc [0] bS,kf fT,kf jw,kt x9,kc [0] Av,kf (Eq.refl false),kv 98 qj,kv 103 OG,kv 104 H6,kf (y16 c4),kt (show((↑dep:Int)==16)=true from(y15 zO))] zQ)) (aF.qo ⟨y29,y29,y29,(aF.nil _),yO⟩)
def rl0(b:List UInt8)(dep a N:Nat):St:={ aL:=aC 142 [(0,.ptr 0 0),(1,int dep),(4,.ptr 1 0),(7,u64 N),(8,.ptr 2 0),(9,u64 0)],H:=rr b a false++[.box [int 0,int 0,str { data:=#[] },aK],.box [int 3,int 0,str { data:=#[] },aK]] }
def rl1(b:List UInt8)(dep a N i g:Nat)(bad:Bool)(vs:List CV):St:={ aL:=aC 142 [(0,.ptr 0 0),(1,int dep),(4,.ptr 1 0),(7,u64 N),(8,.ptr 2 0),(9,u64 i)],H:=rr b a bad++[.box [int 0,int 0,str { data:=#[] },aK],.box [int 3,int 0,str { data:=#[] },.aU 3 g 0 vs.length],.aN g 4 false (iB vs)] }
theorem aEs(b:List UInt8)(dep a N:Nat)(hN:N=0)(h:True):Rq 1 196 0 (rl0 b dep a N) (bF.exit 1) (St.mk (aC 142 [(4,AV.ptr 1 0),(8,AV.ptr 2 0)]) (rr b a false++[ah.box [int 0,int 0,str (ByteArray.mk #[]),aK],ah.box [int 3,int 0,str (ByteArray.mk #[]),aK]]) []):=by
 have _:=h;exact aG [kf (show decide ((↑0:Int)<(↑N:Int))=false from(y16 zO)),kf (Eq.refl false)] (aB 142 [4,8]) 3 zQ
theorem aA9(b:List UInt8)(dep a a' N:Nat)(bad:Bool)(hd:dep<16)(hN:0<N)(hN2:N<=1000000000)(v:CV)(hv:ak P G 196 [.ptr 0 0,int ((dep+1:Nat):Int)] (rr b a false) (.ret (val v)) (rr b a' bad))(ex:bF)(s':St)(h:Rq 1 196 0 (sM 142 [(0,.ptr 0 0),(1,int (↑dep:Int)),(4,.ptr 1 0),(7,AV.lit (Value.int IntKind.u64 (↑N:Int))),(8,.ptr 2 0),(9,AV.lit (Value.int IntKind.u64 1))] [.box [.sl 1 false (jl b),int (↑a':Int),Am.bool bad],.box [int 0,int 0,str (ByteArray.mk #[]),aK],.box [int 3,int 0,str (ByteArray.mk #[]),AV.aU 3 0 0 1],ah.aN 0 4 false [[int (CV.k v),int (CV.n v),str (CV.s v),.sl 4 false (iB (CV.l v))]]]) ex s'):Rq 1 196 0 (rl0 b dep a N) ex s':=by
 exact aJ [kt (show decide ((↑0:Int)<(↑N:Int))=true from(y15 zO)),kt (Eq.refl true),kv 132 (show Am.aF (int (IntKind.wrap IntKind.i64 ((↑dep:Int)+1))) (int (↑(dep+1):Int))from(aF.TJ zO zO zO)),kc [0] (@hv ),kp (show[[int (CV.k v),int (CV.n v),str (CV.s v),AV.sl 4 false (iB (CV.l v))]]≠[]from zS),kp (show 56<=140737488355328 from zO)] (aB 142 [0,1,4,7,8,9]) 4 h zQ
theorem aEt(b:List UInt8)(dep a N i g:Nat)(vs:List CV)(hN:N<=i)(h:True):Rq 1 196 0 (rl1 b dep a N i g false vs) (bF.exit 1) (St.mk (aC 142 [(4,AV.ptr 1 0),(8,AV.ptr 2 0)]) (rr b a false++[ah.box [int 0,int 0,str (ByteArray.mk #[]),aK],ah.box [int 3,int 0,str (ByteArray.mk #[]),AV.aU 3 g 0 (length vs)],ah.aN g 4 false (iB vs)]) []):=by
 have _:=h;exact aG [kf (show decide ((↑i:Int)<(↑N:Int))=false from(y16 zO)),kf (Eq.refl false)] (aB 142 [4,8]) 4 zQ
theorem aBQ(b:List UInt8)(dep a N i g:Nat)(vs:List CV)(h:((((↑i:Int)<(↑N:Int))->True)/\((¬(↑i:Int)<(↑N:Int))->True))):Rq 1 196 0 (rl1 b dep a N i g true vs) (bF.exit 1) (St.mk (aC 142 [(4,AV.ptr 1 0),(8,AV.ptr 2 0)]) (rr b a true++[ah.box [int 0,int 0,str (ByteArray.mk #[]),aK],ah.box [int 3,int 0,str (ByteArray.mk #[]),AV.aU 3 g 0 (length vs)],ah.aN g 4 false (iB vs)]) []):=by
 by_cases c1:((↑i:Int)<(↑N:Int))
 .have h:=h.1 c1;have _:=h;exact aG [kt (y15 c1),kf (Eq.refl false)] (aB 142 [4,8]) 4 zQ
 .have h:=h.2 c1;have _:=h;exact aG [kf (y16 c1),kf (Eq.refl false)] (aB 142 [4,8]) 4 zQ
theorem aBa(b:List UInt8)(dep a a' N i g:Nat)(bad:Bool)(vs:List CV)(hd:dep<16)(hN:i<N)(hN2:N<=1000000000)(Ev:vs.length<=1000000000)(v:CV)(hv:ak P G 196 [.ptr 0 0,int ((dep+1:Nat):Int)] (rr b a false) (.ret (val v)) (rr b a' bad))(ex:bF)(s':St)(h:Rq 1 196 0 (sM 142 [(0,.ptr 0 0),(1,int (↑dep:Int)),(4,.ptr 1 0),(7,AV.lit (Value.int IntKind.u64 (↑N:Int))),(8,.ptr 2 0),(9,AV.lit (Value.int IntKind.u64 (↑(i+1):Int)))] [.box [.sl 1 false (jl b),int (↑a':Int),Am.bool bad],.box [int 0,int 0,str (ByteArray.mk #[]),aK],.box [int 3,int 0,str (ByteArray.mk #[]),AV.aU 3 (g+1) 0 (length vs+1)],ah.aN (g+1) 4 false (iB vs++[[int (CV.k v),int (CV.n v),str (CV.s v),.sl 4 false (iB (CV.l v))]])]) ex s'):Rq 1 196 0 (rl1 b dep a N i g false vs) ex s':=by
 exact aJ [kt (show decide ((↑i:Int)<(↑N:Int))=true from(y15 zO)),kt (Eq.refl true),kv 132 (show Am.aF (int (IntKind.wrap IntKind.i64 ((↑dep:Int)+1))) (int (↑(dep+1):Int))from(aF.TJ zO zO zO)),kc [0] (@hv ),kp (show g=g from(rfl)),kp (show length vs=length (iB vs)from((Go.yU.fA _).symm)),kp (show(length vs+1)*56<=140737488355328 from zO),kv 127 (show Am.aF (AV.lit (Value.int IntKind.u64 (IntKind.wrap IntKind.u64 ((↑i:Int)+1)))) (AV.lit (Value.int IntKind.u64 (↑(i+1):Int)))from(aF.zf zO zO zO))] (aB 142 [0,1,4,7,8,9]) 4 h zQ
theorem aIn(b:List UInt8)(a a1 a2 u:Nat)(dep:Nat)(c:UInt8)(hn:ak P G 263 [.ptr 0 0] (rr b a false) (.ret (u8 c)) (rr b a1 false))(h1:c.toNat=3)(hu:ak P G 264 [.ptr 0 0] (rr b a1 false) (.ret (u64 u)) (rr b a2 false))(hl:b.length<=1000000000)(ha:a2<=b.length)(hd:dep<16)(uQ:u=0)(h:True):ak P G 196 [AV.ptr 0 0,int (↑dep:Int)] (rr b a false) (aS.ret (rR 3 0 y28 [])) (rr b a2 false):=by
 have _:=h;exact ak.out ((show ak P G 196 [AV.ptr 0 0,int (↑dep:Int)] (rr b a false) (aS.ret (AV.agg [int 3,int 0,str (ByteArray.mk #[]),aK])) [ah.box [AV.sl 1 false (jl b),int (↑a2:Int),Am.bool false]]from aj [kc [0] (@hn ),kf (show((↑(UInt8.toNat c):Int)==1)=false from(y16 zO)),kf (show((↑(UInt8.toNat c):Int)==2)=false from(y16 zO)),kt (show((↑(UInt8.toNat c):Int)==3)=true from(y15 zO)),kc [0] (@hu ),kf (Eq.refl false),kv 98 (show Am.aF (int (↑(length (jl b)):Int)) (int (↑(length b):Int))from(aF.of_eq (by simp only[Go.yU.eu]))),kv 103 (show Am.aF (int (IntKind.wrap IntKind.i64 ((↑(length b):Int)-(↑a2:Int)))) (int ((↑(length b):Int)-(↑a2:Int)))from(aF.TJ zO zO rfl)),kv 104 (show Am.aF (AV.lit (Value.int IntKind.u64 (IntKind.wrap IntKind.u64 ((↑(length b):Int)-(↑a2:Int))))) (AV.lit (Value.int IntKind.u64 ((↑(length b):Int)-(↑a2:Int))))from(aF.zf zO zO rfl)),kf (show decide ((↑u:Int)>(↑(length b):Int)-(↑a2:Int))=false from(y16 zO)),kf (show((↑dep:Int)==16)=false from(y16 zO)),kl [2,3,5,6,10,11,12,13,14,15,16,17,18,19,20,21,22,23,24,25,26,27,28,29,30,31,32,33,34,35,36,37,38,39,40,41,42,43,44,45,46,47,48,49,50,51,52,53,54,55,56,57,58,59,60,61,62,63,64,65,66,67,68,69,70,71,72,73,74,75,76,77,78,79,80,81,82,83,84,85,86,87,88,89,90,91,92,93,94,95,96,97,98,99,100,101,102,103,104,105,106,107,108,109,110,111,112,113,114,115,116,117,118,119,120,121,122,123,124,125,126,127,128,129,130,131,132,133,134,135,136,137,138,139,140,141] 3 (@Go.yU.aEs (b) (dep) (a2) (u) zO (trivial))] zQ)) (aF.qo ⟨y29,y29,y29,(aF.nil _),yO⟩)
theorem aIo(b:List UInt8)(a a1 a2 u:Nat)(dep:Nat)(c:UInt8)(hn:ak P G 263 [.ptr 0 0] (rr b a false) (.ret (u8 c)) (rr b a1 false))(h1:c.toNat=3)(hu:ak P G 264 [.ptr 0 0] (rr b a1 false) (.ret (u64 u)) (rr b a2 false))(hl:b.length<=1000000000)(ha:a2<=b.length)(hd:dep<16)(uQ:u<=b.length-a2)(vs:List CV)(a3 g:Nat)(bad:Bool)(hL:Rq 1 196 0 (rl0 b dep a2 u) (.exit 1) { aL:=aC 142 [(4,.ptr 1 0),(8,.ptr 2 0)],H:=rr b a3 bad++[.box [int 0,int 0,str { data:=#[] },aK],.box [int 3,int 0,str { data:=#[] },.aU 3 g 0 vs.length],.aN g 4 false (iB vs)] })(h:True):ak P G 196 [AV.ptr 0 0,int (↑dep:Int)] (rr b a false) (aS.ret (rR 3 0 y28 vs)) (rr b a3 bad):=by
 have _:=h;exact aj [kc [0] (@hn ),kf (show((↑(UInt8.toNat c):Int)==1)=false from(y16 zO)),kf (show((↑(UInt8.toNat c):Int)==2)=false from(y16 zO)),kt (show((↑(UInt8.toNat c):Int)==3)=true from(y15 zO)),kc [0] (@hu ),kf (Eq.refl false),kv 98 (show Am.aF (int (↑(length (jl b)):Int)) (int (↑(length b):Int))from(aF.of_eq (by simp only[Go.yU.eu]))),kv 103 (show Am.aF (int (IntKind.wrap IntKind.i64 ((↑(length b):Int)-(↑a2:Int)))) (int ((↑(length b):Int)-(↑a2:Int)))from(aF.TJ zO zO rfl)),kv 104 (show Am.aF (AV.lit (Value.int IntKind.u64 (IntKind.wrap IntKind.u64 ((↑(length b):Int)-(↑a2:Int))))) (AV.lit (Value.int IntKind.u64 ((↑(length b):Int)-(↑a2:Int))))from(aF.zf zO zO rfl)),kf (show decide ((↑u:Int)>(↑(length b):Int)-(↑a2:Int))=false from(y16 zO)),kf (show((↑dep:Int)==16)=false from(y16 zO)),kl [2,3,5,6,10,11,12,13,14,15,16,17,18,19,20,21,22,23,24,25,26,27,28,29,30,31,32,33,34,35,36,37,38,39,40,41,42,43,44,45,46,47,48,49,50,51,52,53,54,55,56,57,58,59,60,61,62,63,64,65,66,67,68,69,70,71,72,73,74,75,76,77,78,79,80,81,82,83,84,85,86,87,88,89,90,91,92,93,94,95,96,97,98,99,100,101,102,103,104,105,106,107,108,109,110,111,112,113,114,115,116,117,118,119,120,121,122,123,124,125,126,127,128,129,130,131,132,133,134,135,136,137,138,139,140,141] 3 (@hL ),ko (bC.fz (some 137) (iB vs)),kp (show g=g from(rfl)),kp (show List.take (length vs) (List.drop 0 (iB vs))=iB vs from(Go.yU.aa7 _)),kp (show length (iB vs)=length vs from(Go.yU.fA _)),kp (show ∀(c:List AV),c∈iB vs->List.all c AV.fJ=true from(Go.yU.WV _))] zQ
theorem aFX(b:List UInt8)(a':Nat)(v:CV)(bad:Bool)(e:Int)(hv:ak P G 196 [.ptr 0 0,int 0] (rr b 0 false) (.ret (val v)) (rr b a' bad))(hc:Cq 181 [val v] (int e))(x:List UInt8)(hw:Cq 182 [val v] (Cy x))(r:AV)(h:((((bad)=true)->aF (AV.bq [AV.agg [int 0,int 0,str (ByteArray.mk #[]),aK],int 10]) (r))/\(((bad)=false)->((((↑a':Int)=(↑(length b):Int))->(((e=(0:Int))->((((ByteArray.toList (ByteArray.mk (toArray x))==ByteArray.toList (ByteArray.mk (toArray b)))=true)->aF (AV.bq [AV.agg [int (CV.k v),int (CV.n v),str (CV.s v),AV.sl 4 false (iB (CV.l v))],int 0]) (r))/\(((ByteArray.toList (ByteArray.mk (toArray x))==ByteArray.toList (ByteArray.mk (toArray b)))=false)->aF (AV.bq [AV.agg [int 0,int 0,str (ByteArray.mk #[]),aK],int 10]) (r))))/\((¬e=(0:Int))->aF (AV.bq [AV.agg [int 0,int 0,str (ByteArray.mk #[]),aK],int 10]) (r))))/\((¬(↑a':Int)=(↑(length b):Int))->aF (AV.bq [AV.agg [int 0,int 0,str (ByteArray.mk #[]),aK],int 10]) (r)))))):Cq 89 [Cy b] r:=by
 have bS:=(@hv );have x9:=(@hc );have qj:=(@hw );have OG:jl x=List.map (fun(c:UInt8)=>[AV.lit (Value.int IntKind.u8 (↑(UInt8.toNat c):Int))]) (Array.toList (Array.mk x)):=(rfl);have H6:jl b=List.map (fun(c:UInt8)=>[AV.lit (Value.int IntKind.u8 (↑(UInt8.toNat c):Int))]) (Array.toList (Array.mk b)):=(rfl);rcases y00 ((bad))with c1|c1
 .have h:=h.1 c1;have e1:=h;exact ak.out ((show Cq 89 [Cy b] (AV.bq [AV.agg [int 0,int 0,str (ByteArray.mk #[]),aK],int 10])from aj [kc [1] bS,kt c1,kt (Eq.refl true),kt (Eq.refl true),kt (Eq.refl true)] zQ)) e1
 .have h:=h.2 c1;have fT:Am.aF (int (↑(length (jl b)):Int)) (int (↑(length b):Int)):=(aF.of_eq (by simp only[Go.yU.eu]));by_cases c2:((↑a':Int)=(↑(length b):Int))
  .have h:=h.1 c2;have jw:((↑a':Int)!=(↑(length b):Int))=false:=(y27 (beq_iff_eq.2 c2));by_cases c3:(e=(0:Int))
   .have h:=h.1 c3;have Av:(e != 0)=false:=(y27 (beq_iff_eq.2 c3));rcases y00 ((ByteArray.toList (ByteArray.mk (toArray x))==ByteArray.toList (ByteArray.mk (toArray b))))with c4|c4
    .have h:=h.1 c4;have e1:=h;exact ak.out ((show Cq 89 [Cy b] (AV.bq [AV.agg [int (CV.k v),int (CV.n v),str (CV.s v),AV.sl 4 false (iB (CV.l v))],int 0])from aj [kc [1] bS,kf c1,kv 21 fT,kf jw,kc [] x9,kf Av,kc [] qj,ko (bC.bytes (ByteArray.mk (toArray x))),ko (bC.bytes (ByteArray.mk (toArray b))),kp OG,kp H6,kf (show(!ByteArray.toList (ByteArray.mk (toArray x))==ByteArray.toList (ByteArray.mk (toArray b)))=false from(y27 (c4)))] zQ)) e1
    .have h:=h.2 c4;have e1:=h;exact ak.out ((show Cq 89 [Cy b] (AV.bq [AV.agg [int 0,int 0,str (ByteArray.mk #[]),aK],int 10])from aj [kc [1] bS,kf c1,kv 21 fT,kf jw,kc [] x9,kf Av,kc [] qj,ko (bC.bytes (ByteArray.mk (toArray x))),ko (bC.bytes (ByteArray.mk (toArray b))),kp OG,kp H6,kt (show(!ByteArray.toList (ByteArray.mk (toArray x))==ByteArray.toList (ByteArray.mk (toArray b)))=true from(y27 (c4)))] zQ)) e1
   .have h:=h.2 c3;have e1:=h;exact ak.out ((show Cq 89 [Cy b] (AV.bq [AV.agg [int 0,int 0,str (ByteArray.mk #[]),aK],int 10])from aj [kc [1] bS,kf c1,kv 21 fT,kf jw,kc [] x9,kt (show(e != 0)=true from(y27 (beq_eq_false_iff_ne.2 c3))),kt (Eq.refl true)] zQ)) e1
  .have h:=h.2 c2;have e1:=h;exact ak.out ((show Cq 89 [Cy b] (AV.bq [AV.agg [int 0,int 0,str (ByteArray.mk #[]),aK],int 10])from aj [kc [1] bS,kf c1,kv 21 fT,kt (show((↑a':Int)!=(↑(length b):Int))=true from(y27 (beq_eq_false_iff_ne.2 c2))),kt (Eq.refl true),kt (Eq.refl true)] zQ)) e1
theorem aub:∀(l:List UInt8)(u i:Nat),u<2^(7*i)->i<=9->(SX l u i).2.1<18446744073709551616/\(SX l u i).2.2.length<=l.length
 |[],u,i,hu,hi=>⟨by
  have:2^(7*i)<=2^63:=Nat.pow_le_pow_right zD zO;have:(2:Nat)^63<18446744073709551616:=zD
  show u<_;omega,yM⟩
 |c::r,u,i,hu,hi=>by
  have h0:u<18446744073709551616:=by
   have:2^(7*i)<=2^63:=Nat.pow_le_pow_right zD zO;have:(2:Nat)^63<18446744073709551616:=zD
   omega
  simp only[SX];split
  .exact ⟨h0,zS⟩
  .rename_i hn;have hf:=nH (c:=c.toNat) hu hi zO;split
   .exact ⟨hf.2,zS⟩
   .rename_i hc;have:=aub r (u+c.toNat % 128*2^(7*i)) (i+1) hf.1 zO;exact⟨this.1,by simp;omega⟩
theorem auc(l:List UInt8):Cn l<18446744073709551616:=(aub l 0 0 zS zO).1
theorem aue(l:List UInt8):(Co l).length<=l.length:=(aub l 0 0 zS zO).2
def FU(l:List UInt8):Bool:=Qu l&&decide (Cn l<=(Co l).length)
theorem awJ(l:List UInt8)(hl:l.length<=1000000000)(hr:(Co l).length<=1000000000)(hu:Cn l<18446744073709551616)(out:aS)(h:((((Qu l)=true)->((((↑(Cn l):Int)<=(↑(length (Co l) % 18446744073709551616):Int))->aS.ret (int (↑(Cn l):Int))=out)/\((¬(↑(Cn l):Int)<=(↑(length (Co l) % 18446744073709551616):Int))->aS.Ay (AV.qX 36 (int 10))=out)))/\(((Qu l)=false)->aS.Ay (AV.qX 36 (int 10))=out))):ak P G 261 [AV.ptr 0 0] (dH l) out (dH (Co l)):=by
 rcases y00 ((Qu l))with c1|c1
 .have h:=h.1 c1;have bS:ak P G 260 [AV.ptr 0 0] [ah.box [AV.sl 1 false (jl l)]] (aS.ret (AV.lit (Value.int IntKind.u64 (↑(Cn l):Int)))) [ah.box [AV.sl 1 false (jl (Co l))]]:=(by have h0:=(@Go.yU.vB (l) zO);simp only[yL (show Qu l=true from c1)]at h0;exact h0);have fT:Am.aF (int (↑(length (jl (Co l))):Int)) (int (↑(length (Co l)):Int)):=(aF.of_eq (by simp only[Go.yU.eu]));by_cases c2:((↑(Cn l):Int)<=(↑(length (Co l) % 18446744073709551616):Int))
  .have h:=h.1 c2;have e1:=h;exact e1▸((show ak P G 261 [AV.ptr 0 0] (dH l) (aS.ret (int (↑(Cn l):Int))) [ah.box [AV.sl 1 false (jl (Co l))]]from aj [kc [0] bS,kv 12 fT,kc [0] (show ak P G 185 [AV.ptr 0 0,Am.bool (decide ((↑(Cn l):Int)<=IntKind.wrap IntKind.u64 (↑(length (Co l)):Int)))] [ah.box [AV.sl 1 false (jl (Co l))]] (aS.ret (AV.bq [])) [ah.box [AV.sl 1 false (jl (Co l))]]from(by have h0:=(@Go.yU.aV (ah.box [AV.sl 1 false (jl (Co l))]) (decide ((↑(Cn l):Int)<=(↑(length (Co l) % 18446744073709551616):Int))));simp only[yL (show decide ((↑(Cn l):Int)<=(↑(length (Co l) % 18446744073709551616):Int))=true from y15 c2)]at h0;exact h0)),kv 17 (show Am.aF (int (IntKind.wrap IntKind.i64 (↑(Cn l):Int))) (int (↑(Cn l):Int))from(aF.TJ zO zO rfl))] zQ))
  .have h:=h.2 c2;have e1:=h;exact e1▸((show ak P G 261 [AV.ptr 0 0] (dH l) (aS.Ay (AV.qX 36 (int 10))) [ah.box [AV.sl 1 false (jl (Co l))]]from aj [kc [0] bS,kv 12 fT,kc [0] (show ak P G 185 [AV.ptr 0 0,Am.bool (decide ((↑(Cn l):Int)<=IntKind.wrap IntKind.u64 (↑(length (Co l)):Int)))] [ah.box [AV.sl 1 false (jl (Co l))]] (aS.Ay (AV.qX 36 (int 10))) [ah.box [AV.sl 1 false (jl (Co l))]]from(by have h0:=(@Go.yU.aV (ah.box [AV.sl 1 false (jl (Co l))]) (decide ((↑(Cn l):Int)<=(↑(length (Co l) % 18446744073709551616):Int))));simp only[yK (show ¬(decide ((↑(Cn l):Int)<=(↑(length (Co l) % 18446744073709551616):Int))=true)from Bool.eq_false_iff.1 (y16 c2))]at h0;exact h0))] zQ))
 .have h:=h.2 c1;have e1:=h;exact e1▸((show ak P G 261 [AV.ptr 0 0] (dH l) (aS.Ay (AV.qX 36 (int 10))) [ah.box [AV.sl 1 false (jl (Co l))]]from aj [kc [0] (show ak P G 260 [AV.ptr 0 0] [ah.box [AV.sl 1 false (jl l)]] (aS.Ay (AV.qX 36 (int 10))) [ah.box [AV.sl 1 false (jl (Co l))]]from(by have h0:=(@Go.yU.vB (l) zO);simp only[yK (show ¬(Qu l=true)from Bool.eq_false_iff.1 (c1))]at h0;exact h0))] zQ))
theorem jN(l:List UInt8)(hl:l.length<=1000000000):ak P G 261 [.ptr 0 0] (dH l) (if FU l=true then .ret (int (Cn l))else .Ay aO) (dH (Co l)):=by
 have h1:=aue l;refine awJ l hl zO (auc l) _ ⟨fun h=>⟨fun h2=>?_,fun h2=>?_⟩,fun h=>?_⟩
 .rw [yL (by simp only[FU,h,Bool.true_and,y05];omega)]
 .rw [yK (by simp only[FU,h,Bool.true_and,y05];omega)];rfl
 .rw [yK (by simp[FU,h])];rfl
theorem awK(u:Nat)(hu:u<18446744073709551616)(v:Int)(h:(IntKind.wrap IntKind.i64 (↑(BitVec.toNat (BitVec.ofInt (IntKind.bits IntKind.i64) (IntKind.wrap IntKind.i64 (Int.fdiv (↑u:Int) (2^min (Int.toNat 1) (IntKind.bits IntKind.u64)))) ^^^ BitVec.ofInt (IntKind.bits IntKind.i64) (IntKind.wrap IntKind.i64 (0-IntKind.wrap IntKind.i64 (IntKind.wrap IntKind.u64 (↑(BitVec.toNat (BitVec.ofInt (IntKind.bits IntKind.u64) (↑u:Int) &&& BitVec.ofInt (IntKind.bits IntKind.u64) 1)):Int)))))):Int):Int)=(v)):Cq 259 [u64 u] (int v):=by
 have e1:=h;exact aA (aF.int_eq e1) [kp (show(0:Int)<=(1:Int)from zO)] zQ
def sgn(u:Nat):Int:=if u % 2=0 then((u/2:Nat):Int)else -((u/2:Nat):Int)-1
theorem dn(n:Nat)(h:n<18446744073709551616):IntKind.wrap .i64 (n:Int)=if n<9223372036854775808 then(n:Int)else(n:Int)-18446744073709551616:=by
 show(let m:=(n:Int) % (2^64:Int);if(IntKind.i64.signed&&m>=(2^(64-1):Int))=true then m-(2^64:Int)else m)=_;have e:(n:Int) % (2^64:Int)=n:=by
  rw[show(2:Int)^64=18446744073709551616 from by decide];omega
 simp only[e,IntKind.signed,Bool.true_and,y05];rw[show(2:Int)^(64-1)=9223372036854775808 from by decide,show(2:Int)^64=18446744073709551616 from by decide];split<;>split<;>omega
theorem ax5(hu:u<18446744073709551616):IntKind.wrap IntKind.i64 (↑(BitVec.toNat (BitVec.ofInt (IntKind.bits IntKind.i64) (IntKind.wrap IntKind.i64 (Int.fdiv (↑u:Int) (2^min (Int.toNat 1) (IntKind.bits IntKind.u64)))) ^^^ BitVec.ofInt (IntKind.bits IntKind.i64) (IntKind.wrap IntKind.i64 (0-IntKind.wrap IntKind.i64 (IntKind.wrap IntKind.u64 (↑(BitVec.toNat (BitVec.ofInt (IntKind.bits IntKind.u64) (↑u:Int) &&& BitVec.ofInt (IntKind.bits IntKind.u64) 1)):Int)))))):Int)=sgn u:=by
 have e1:min (Int.toNat 1) (IntKind.bits IntKind.u64)=1:=zD
 have e2:Int.fdiv (u:Int) (2^1)=((u/2:Nat):Int):=by
  show Int.fdiv (u:Int) ((2:Nat):Int)=_;rw[Int.fdiv_eq_ediv_of_nonneg _ zD];omega
 have hb:u/2<9223372036854775808:=zO
 have e3:(BitVec.ofInt (IntKind.bits IntKind.u64) (u:Int) &&& BitVec.ofInt (IntKind.bits IntKind.u64) 1).toNat=u % 2:=by
  have:(1:Int)=((1:Nat):Int):=rfl;rw[BitVec.toNat_and,this,wM,wM];show(u % 2^64) &&& (1 % 2^64)=_;rw[Nat.mod_eq_of_lt (show u<2^64 by omega),Nat.mod_eq_of_lt (show 1<2^64 by decide)];exact Nat.and_two_pow_sub_one_eq_mod u 1
 rw[e1,e2,e3,dn (u/2) zO,yL hb,wrap64 (show u % 2<18446744073709551616 by omega),dn (u % 2) zO,yL zO];have e4:∀n:Nat,(BitVec.ofInt (IntKind.bits IntKind.i64) (n:Int)).toNat=n % 2^64:=fun n=>wM _ n;unfold sgn;rcases Nat.mod_two_eq_zero_or_one u with h|h
 .rw [h,yL rfl];have:IntKind.wrap IntKind.i64 (0-((0:Nat):Int))=((0:Nat):Int):=zD
  rw[this,BitVec.toNat_xor,e4,e4,Nat.mod_eq_of_lt (show u/2<2^64 by omega)];show IntKind.wrap IntKind.i64 (((u/2) ^^^ 0:Nat):Int)=_;rw[Nat.xor_zero,dn _ zO,yL hb]
 .rw [h,yK zD];have:IntKind.wrap IntKind.i64 (0-((1:Nat):Int)) = -1:=zD
  rw[this];have h5:BitVec.ofInt 64 (-1)=BitVec.allOnes 64:=zD
  show IntKind.wrap IntKind.i64 ((BitVec.ofInt 64 ((u/2:Nat):Int) ^^^ BitVec.ofInt 64 (-1)).toNat:Int)=_;rw[h5,BitVec.xor_allOnes,BitVec.toNat_not,wM,Nat.mod_eq_of_lt (show u/2<2^64 by omega)];have h7:(2:Nat)^64=18446744073709551616:=zD
  rw[h7,dn _ zO,yK zO];omega
theorem awL(u:Nat)(hu:u<18446744073709551616):Cq 259 [u64 u] (int (sgn u)):=awK u hu _ (ax5 hu)
theorem axC(dep:Nat)(h:True):ak P G 184 [AV.ptr 0 0,int (↑dep:Int)] (dH []) (aS.Ay aO) [ah.aH]:=by
 have _:=h;exact ak.pY ((show ak P G 184 [AV.ptr 0 0,int (↑dep:Int)] (dH []) (aS.Ay (AV.qX 36 (int 10))) [ah.box [AV.sl 1 false []]]from aj [kc [0] (@Go.yU.avX )] zQ)) (by exact⟨.inr yO,yO⟩)
theorem axD(dep:Nat)(c:UInt8)(r:List UInt8)(hl:r.length<=999999999)(hc:c.toNat<256)(h1:c.toNat≠1)(h2:c.toNat≠2)(h3:c.toNat≠3)(h:True):ak P G 184 [AV.ptr 0 0,int (↑dep:Int)] (jD c r) (aS.Ay aO) [ah.aH]:=by
 have _:=h;exact ak.pY ((show ak P G 184 [AV.ptr 0 0,int (↑dep:Int)] (jD c r) (aS.Ay (AV.qX 36 (int 10))) [ah.box [AV.sl 1 false (jl r)]]from aj [kc [0] (@Go.yU.bO (AV.lit (Value.int IntKind.u8 (↑(UInt8.toNat c):Int))) (r) zO),ko (bC.elem [AV.lit (Value.int IntKind.u8 (↑(UInt8.toNat c):Int))]),kp (show(0:Int)<=(0:Int)/\[[AV.lit (Value.int IntKind.u8 (↑(UInt8.toNat c):Int))]][Int.toNat 0]?=some [AV.lit (Value.int IntKind.u8 (↑(UInt8.toNat c):Int))]from(⟨zD,rfl⟩)),kv 9 (show Am.aF (int (IntKind.wrap IntKind.i64 (↑(UInt8.toNat c):Int))) (int (↑(UInt8.toNat c):Int))from(aF.TJ zO zO rfl)),kf (show((↑(UInt8.toNat c):Int)==1)=false from(y16 zO)),kf (show((↑(UInt8.toNat c):Int)==2)=false from(y16 zO)),kf (show((↑(UInt8.toNat c):Int)==3)=false from(y16 zO)),kc [0] (show ak P G 185 [AV.ptr 0 0,Am.bool false] [ah.box [AV.sl 1 false (jl r)]] (aS.Ay (AV.qX 36 (int 10))) [ah.box [AV.sl 1 false (jl r)]]from(by have h0:=(@Go.yU.aV (ah.box [AV.sl 1 false (jl r)]) (false));simp only[yK (show ¬(false=true)from Bool.eq_false_iff.1 (rfl))]at h0;exact h0))] zQ)) (by exact⟨.inr yO,yO⟩)
def mkI(n:Int):CV:=.mk 1 n .empty []
def mkT(s:yP):CV:=.mk 2 0 s []
def mkL(l:List CV):CV:=.mk 3 0 .empty l
theorem axE(dep:Nat)(r:List UInt8)(hl:r.length<=999999999)(hu:Cn r<18446744073709551616)(dK:Qu r=true)(h:True):ak P G 184 [AV.ptr 0 0,int (↑dep:Int)] (jD 1 r) (aS.ret (val (mkI (sgn (Cn r))))) (dH (Co r)):=by
 have _:=h;exact ak.out ((show ak P G 184 [AV.ptr 0 0,int (↑dep:Int)] (jD 1 r) (aS.ret (AV.agg [int 1,int (sgn (Cn r)),str (ByteArray.mk #[]),aK])) [ah.box [AV.sl 1 false (jl (Co r))]]from aj [kc [0] (@Go.yU.bO (AV.lit (Value.int IntKind.u8 1)) (r) zO),ko (bC.elem [AV.lit (Value.int IntKind.u8 1)]),kp (show(0:Int)<=(0:Int)/\[[AV.lit (Value.int IntKind.u8 1)]][Int.toNat 0]?=some [AV.lit (Value.int IntKind.u8 1)]from(⟨zD,rfl⟩)),kt (Eq.refl true),kc [0] (show ak P G 260 [AV.ptr 0 0] [ah.box [AV.sl 1 false (jl r)]] (aS.ret (AV.lit (Value.int IntKind.u64 (↑(Cn r):Int)))) [ah.box [AV.sl 1 false (jl (Co r))]]from(by have h0:=(@Go.yU.vB (r) zO);simp only[yL (show Qu r=true from dK)]at h0;exact h0)),kc [] (@Go.yU.awL (Cn r) zO)] zQ)) (aF.qo ⟨y29,y29,y29,(aF.nil _),yO⟩)
theorem av8(dep:Nat)(r:List UInt8)(hl:r.length<=999999999)(dK:Qu r=false)(h:True):ak P G 184 [AV.ptr 0 0,int (↑dep:Int)] (jD 1 r) (aS.Ay aO) [ah.aH]:=by
 have _:=h;exact ak.pY ((show ak P G 184 [AV.ptr 0 0,int (↑dep:Int)] (jD 1 r) (aS.Ay (AV.qX 36 (int 10))) [ah.box [AV.sl 1 false (jl (Co r))]]from aj [kc [0] (@Go.yU.bO (AV.lit (Value.int IntKind.u8 1)) (r) zO),ko (bC.elem [AV.lit (Value.int IntKind.u8 1)]),kp (show(0:Int)<=(0:Int)/\[[AV.lit (Value.int IntKind.u8 1)]][Int.toNat 0]?=some [AV.lit (Value.int IntKind.u8 1)]from(⟨zD,rfl⟩)),kt (Eq.refl true),kc [0] (show ak P G 260 [AV.ptr 0 0] [ah.box [AV.sl 1 false (jl r)]] (aS.Ay (AV.qX 36 (int 10))) [ah.box [AV.sl 1 false (jl (Co r))]]from(by have h0:=(@Go.yU.vB (r) zO);simp only[yK (show ¬(Qu r=true)from Bool.eq_false_iff.1 (dK))]at h0;exact h0))] zQ)) (by exact⟨.inr yO,yO⟩)
theorem axF(dep:Nat)(r:List UInt8)(hl:r.length<=999999999)(hu:Cn r<18446744073709551616)(hr:(Co r).length<=999999999)(dK:FU r=true)(uQ:Cn r<=(Co r).length)(h:True):ak P G 184 [AV.ptr 0 0,int (↑dep:Int)] (jD 2 r) (aS.ret (val (mkT (ByteArray.mk (toArray (List.take (Cn r) (Co r))))))) (dH (List.drop (Cn r) (Co r))):=by
 have _:=h;exact ak.out ((show ak P G 184 [AV.ptr 0 0,int (↑dep:Int)] (jD 2 r) (aS.ret (AV.agg [int 2,int 0,str (ByteArray.mk (toArray (List.take (Cn r) (Co r)))),aK])) [ah.box [AV.sl 1 false (jl (List.drop (Cn r) (Co r)))]]from aj [kc [0] (@Go.yU.bO (AV.lit (Value.int IntKind.u8 2)) (r) zO),ko (bC.elem [AV.lit (Value.int IntKind.u8 2)]),kp (show(0:Int)<=(0:Int)/\[[AV.lit (Value.int IntKind.u8 2)]][Int.toNat 0]?=some [AV.lit (Value.int IntKind.u8 2)]from(⟨zD,rfl⟩)),kf (Eq.refl false),kt (Eq.refl true),kc [0] (show ak P G 261 [AV.ptr 0 0] [ah.box [AV.sl 1 false (jl r)]] (aS.ret (int (↑(Cn r):Int))) [ah.box [AV.sl 1 false (jl (Co r))]]from(by have h0:=(@Go.yU.jN (r) zO);simp only[yL (show FU r=true from dK)]at h0;exact h0)),kc [0] (@Go.yU.awC (Co r) (Cn r) zO zO),ko (bC.bytes (ByteArray.mk (toArray (List.take (Cn r) (Co r))))),kp (show jl (List.take (Cn r) (Co r))=List.map (fun(c:UInt8)=>[AV.lit (Value.int IntKind.u8 (↑(UInt8.toNat c):Int))]) (Array.toList (Array.mk (List.take (Cn r) (Co r))))from(rfl))] zQ)) (aF.qo ⟨y29,y29,y29,(aF.nil _),yO⟩)
theorem av9(dep:Nat)(r:List UInt8)(hl:r.length<=999999999)(dK:FU r=false)(h:True):ak P G 184 [AV.ptr 0 0,int (↑dep:Int)] (jD 2 r) (aS.Ay aO) [ah.aH]:=by
 have _:=h;exact ak.pY ((show ak P G 184 [AV.ptr 0 0,int (↑dep:Int)] (jD 2 r) (aS.Ay (AV.qX 36 (int 10))) [ah.box [AV.sl 1 false (jl (Co r))]]from aj [kc [0] (@Go.yU.bO (AV.lit (Value.int IntKind.u8 2)) (r) zO),ko (bC.elem [AV.lit (Value.int IntKind.u8 2)]),kp (show(0:Int)<=(0:Int)/\[[AV.lit (Value.int IntKind.u8 2)]][Int.toNat 0]?=some [AV.lit (Value.int IntKind.u8 2)]from(⟨zD,rfl⟩)),kf (Eq.refl false),kt (Eq.refl true),kc [0] (show ak P G 261 [AV.ptr 0 0] [ah.box [AV.sl 1 false (jl r)]] (aS.Ay (AV.qX 36 (int 10))) [ah.box [AV.sl 1 false (jl (Co r))]]from(by have h0:=(@Go.yU.jN (r) zO);simp only[yK (show ¬(FU r=true)from Bool.eq_false_iff.1 (dK))]at h0;exact h0))] zQ)) (by exact⟨.inr yO,yO⟩)
def awc(dep:Nat)(rest:List UInt8)(N:Nat):St:={ aL:=aC 50 [(0,.ptr 0 0),(1,int dep),(4,.ptr 1 0),(36,int N),(37,int 0)],H:=[.box [Cy rest],.box [int 3,int 0,str { data:=#[] },aK]] }
def awd(dep:Nat)(rest:List UInt8)(N i g:Nat)(vs:List CV):St:={ aL:=aC 50 [(0,.ptr 0 0),(1,int dep),(4,.ptr 1 0),(36,int N),(37,int i)],H:=[.box [Cy rest],.box [int 3,int 0,str { data:=#[] },.aU 2 g 0 vs.length],.aN g 4 false (iB vs)] }
theorem awM(dep:Nat)(rest:List UInt8)(N:Nat)(hN:N=0)(h:True):Rq 1 184 0 (awc dep rest N) (bF.exit 1) (sM 50 [(4,.ptr 1 0)] [.box [Cy rest],.box [int 3,int 0,str (ByteArray.mk #[]),aK]]):=by
 have _:=h;exact aG [kf (show decide ((0:Int)<(↑N:Int))=false from(y16 zO))] (aB 50 [4]) 2 zQ
theorem axG(dep:Nat)(rest rest':List UInt8)(N:Nat)(hd:dep<16)(hN:0<N)(hN2:N<=1000000000)(v:CV)(hv:ak P G 184 [.ptr 0 0,int ((dep+1:Nat):Int)] (dH rest) (.ret (val v)) (dH rest'))(ex:bF)(s':St)(h:Rq 1 184 0 (sM 50 [(0,.ptr 0 0),(1,int (↑dep:Int)),(4,.ptr 1 0),(36,int (↑N:Int)),(37,int 1)] [.box [.sl 1 false (jl rest')],.box [int 3,int 0,str (ByteArray.mk #[]),AV.aU 2 0 0 1],ah.aN 0 4 false [[int (CV.k v),int (CV.n v),str (CV.s v),.sl 4 false (iB (CV.l v))]]]) ex s'):Rq 1 184 0 (awc dep rest N) ex s':=by
 exact aJ [kt (show decide ((0:Int)<(↑N:Int))=true from(y15 zO)),kv 43 (show Am.aF (int (IntKind.wrap IntKind.i64 ((↑dep:Int)+1))) (int (↑(dep+1):Int))from(aF.TJ zO zO zO)),kc [0] (@hv ),kp (show[[int (CV.k v),int (CV.n v),str (CV.s v),AV.sl 4 false (iB (CV.l v))]]≠[]from zS),kp (show 56<=140737488355328 from zO)] (aB 50 [0,1,4,36,37]) 3 h zQ
theorem awN(dep:Nat)(rest:List UInt8)(N:Nat)(hd:dep<16)(hN:0<N)(hN2:N<=1000000000)(hv:ak P G 184 [.ptr 0 0,int ((dep+1:Nat):Int)] (dH rest) (.Ay aO) [.aH])(h:True):Rq 1 184 0 (awc dep rest N) (bF.Ay aO) (sM 50 [] [ah.aH]):=by
 have _:=h;exact aG [kt (show decide ((0:Int)<(↑N:Int))=true from(y15 zO)),ko (bC.at_ 5),kv 43 (show Am.aF (int (IntKind.wrap IntKind.i64 ((↑dep:Int)+1))) (int (↑(dep+1):Int))from(aF.TJ zO zO zO)),kc [0] (@hv )] (aB 50 []) 1 zQ
theorem awO(dep:Nat)(rest:List UInt8)(N i g:Nat)(vs:List CV)(hN:N<=i)(h:True):Rq 1 184 0 (awd dep rest N i g vs) (bF.exit 1) (sM 50 [(4,.ptr 1 0)] [.box [Cy rest],.box [int 3,int 0,str (ByteArray.mk #[]),AV.aU 2 g 0 (length vs)],ah.aN g 4 false (iB vs)]):=by
 have _:=h;exact aG [kf (show decide ((↑i:Int)<(↑N:Int))=false from(y16 zO))] (aB 50 [4]) 3 zQ
theorem axH(dep:Nat)(rest rest':List UInt8)(N i g:Nat)(vs:List CV)(hd:dep<16)(hN:i<N)(hN2:N<=1000000000)(Ev:vs.length<=1000000000)(v:CV)(hv:ak P G 184 [.ptr 0 0,int ((dep+1:Nat):Int)] (dH rest) (.ret (val v)) (dH rest'))(ex:bF)(s':St)(h:Rq 1 184 0 (sM 50 [(0,.ptr 0 0),(1,int (↑dep:Int)),(4,.ptr 1 0),(36,int (↑N:Int)),(37,int (↑(i+1):Int))] [.box [.sl 1 false (jl rest')],.box [int 3,int 0,str (ByteArray.mk #[]),AV.aU 2 (g+1) 0 (length vs+1)],ah.aN (g+1) 4 false (iB vs++[[int (CV.k v),int (CV.n v),str (CV.s v),.sl 4 false (iB (CV.l v))]])]) ex s'):Rq 1 184 0 (awd dep rest N i g vs) ex s':=by
 exact aJ [kt (show decide ((↑i:Int)<(↑N:Int))=true from(y15 zO)),kv 43 (show Am.aF (int (IntKind.wrap IntKind.i64 ((↑dep:Int)+1))) (int (↑(dep+1):Int))from(aF.TJ zO zO zO)),kc [0] (@hv ),kp (show g=g from(rfl)),kp (show length vs=length (iB vs)from((Go.yU.fA _).symm)),kp (show(length vs+1)*56<=140737488355328 from zO),kv 48 (show Am.aF (int (IntKind.wrap IntKind.i64 ((↑i:Int)+1))) (int (↑(i+1):Int))from(aF.TJ zO zO zO))] (aB 50 [0,1,4,36,37]) 3 h zQ
theorem awP(dep:Nat)(rest:List UInt8)(N i g:Nat)(vs:List CV)(hd:dep<16)(hN:i<N)(hN2:N<=1000000000)(hv:ak P G 184 [.ptr 0 0,int ((dep+1:Nat):Int)] (dH rest) (.Ay aO) [.aH])(h:True):Rq 1 184 0 (awd dep rest N i g vs) (bF.Ay aO) (sM 50 [] [ah.aH]):=by
 have _:=h;exact aG [kt (show decide ((↑i:Int)<(↑N:Int))=true from(y15 zO)),ko (bC.at_ 5),kv 43 (show Am.aF (int (IntKind.wrap IntKind.i64 ((↑dep:Int)+1))) (int (↑(dep+1):Int))from(aF.TJ zO zO zO)),kc [0] (@hv )] (aB 50 []) 1 zQ
def Gj(p:List UInt8->Bool×CV×List UInt8):Nat->List UInt8->Bool×List CV×List UInt8
 |0,r=>(true,[],r)
 |n+1,r=>if(p r).1=true then((Gj p n (p r).2.2).1,(p r).2.1::(Gj p n (p r).2.2).2.1,(Gj p n (p r).2.2).2.2)else(false,[],[])
structure Reads(dep:Nat)(p:List UInt8->Bool×CV×List UInt8):Prop where
 call:∀l:List UInt8,l.length<=1000000000->ak P G 184 [.ptr 0 0,int (dep:Int)] (dH l) (if(p l).1=true then .ret (val (p l).2.1)else .Ay aO) [if(p l).1=true then .box [Cy (p l).2.2]else .aH]
 le:∀l,(p l).2.2.length<=l.length
theorem avB{p:List UInt8->Bool×CV×List UInt8}:∀(n:Nat)(r:List UInt8),(Gj p n r).1=true->(Gj p n r).2.1.length=n
 |0,_,_=>rfl
 |n+1,r,h=>by
  simp only[Gj]at h |-;split at h
  .rename_i hp;rw[yL hp];simp[avB n _ h]
  .cases h
theorem av0{p:List UInt8->Bool×CV×List UInt8}(hp:∀l,(p l).2.2.length<=l.length):∀(n:Nat)(r:List UInt8),(Gj p n r).2.2.length<=r.length
 |0,_=>yM
 |n+1,r=>by
  simp only[Gj];split
  .exact y07 (av0 hp n _) (hp r)
  .simp
theorem at5{dep:Nat}{p:List UInt8->Bool×CV×List UInt8}(hp:Reads (dep+1) p)(hd:dep<16)(N:Nat)(hN:N<=1000000000):∀(n i g:Nat)(vs:List CV)(rest:List UInt8),N-i=n->i<=N->vs.length=i->rest.length<=1000000000 ->
 Rq 1 184 0 (awd dep rest N i g vs) (if(Gj p n rest).1=true then .exit 1 else .Ay aO) { aL:=aC 50 [(4,if(Gj p n rest).1=true then .ptr 1 0 else .aP)],H:=if(Gj p n rest).1=true then
  [.box [Cy (Gj p n rest).2.2],.box [int 3,int 0,str { data:=#[] },.aU 2 (g+n) 0 (vs++(Gj p n rest).2.1).length],.aN (g+n) 4 false (iB (vs++(Gj p n rest).2.1))]else[.aH] }
 |0,i,g,vs,rest,hn,hi,Ev,hr=>by
  simp only[Gj,if_true,y19,Nat.add_zero];exact awO dep rest N i g vs zO trivial
 |n+1,i,g,vs,rest,hn,hi,Ev,hr=>by
  have hc:=hp.call rest hr;cases dK:(p rest).1 with
  |false =>
   rw[dK]at hc;simp only[Gj,dK,y20,if_false]at hc |-;exact awP dep rest N i g vs hd zO hN hc trivial
  |true =>
   rw[dK]at hc;simp only[Gj,dK,if_true]at hc |-;refine axH dep rest (p rest).2.2 N i g vs hd zO hN zO (p rest).2.1 hc _ _ ?_;have ih:=at5 hp hd N hN n (i+1) (g+1) (vs++[(p rest).2.1]) (p rest).2.2 zO zO (by simp[Ev]) (y07 (hp.le rest) hr);unfold awd at ih;rw[<- avw,<- avx,y13,singleton_append,Nat.add_assoc,Nat.add_comm 1 n]at ih;rw[show(vs++[(p rest).2.1]).length=vs.length+1 from by simp]at ih;exact ih
variable {p:List UInt8->Bool×CV×List UInt8}{dep:Nat}
theorem awe(hp:Reads (dep+1) p)(hd:dep<16)(n:Nat)(hN:n+1<=1000000000)(rest:List UInt8)(hr:rest.length<=1000000000) :
 Rq 1 184 0 (awc dep rest (n+1)) (if(Gj p (n+1) rest).1=true then .exit 1 else .Ay aO) { aL:=aC 50 [(4,if(Gj p (n+1) rest).1=true then .ptr 1 0 else .aP)],H:=if(Gj p (n+1) rest).1=true then
  [.box [Cy (Gj p (n+1) rest).2.2],.box [int 3,int 0,str { data:=#[] },.aU 2 n 0 (Gj p (n+1) rest).2.1.length],.aN n 4 false (iB (Gj p (n+1) rest).2.1)]else[.aH] }:=by
 have hc:=hp.call rest hr;cases dK:(p rest).1 with
 |false =>
  rw[dK]at hc;simp only[Gj,dK,y20,if_false]at hc |-;exact awN dep rest (n+1) hd zO hN hc trivial
 |true =>
  rw[dK]at hc;simp only[Gj,dK,if_true]at hc |-;refine axG dep rest (p rest).2.2 (n+1) hd zO hN (p rest).2.1 hc _ _ ?_;have ih:=at5 hp hd (n+1) hN n 1 0 [(p rest).2.1] (p rest).2.2 zO zO rfl (y07 (hp.le rest) hr);unfold awd at ih;rw[<- avx,y09]at ih;exact ih
theorem awQ(dep:Nat)(r:List UInt8)(hl:r.length<=999999999)(hd:dep=16)(h:True):ak P G 184 [AV.ptr 0 0,int (↑dep:Int)] (jD 3 r) (aS.Ay aO) [ah.aH]:=by
 have _:=h;exact ak.pY ((show ak P G 184 [AV.ptr 0 0,int (↑dep:Int)] (jD 3 r) (aS.Ay (AV.qX 36 (int 10))) [ah.box [AV.sl 1 false (jl r)]]from aj [kc [0] (@Go.yU.bO (AV.lit (Value.int IntKind.u8 3)) (r) zO),ko (bC.elem [AV.lit (Value.int IntKind.u8 3)]),kp (show(0:Int)<=(0:Int)/\[[AV.lit (Value.int IntKind.u8 3)]][Int.toNat 0]?=some [AV.lit (Value.int IntKind.u8 3)]from(⟨zD,rfl⟩)),kf (Eq.refl false),kf (Eq.refl false),kt (Eq.refl true),kc [0] (show ak P G 185 [AV.ptr 0 0,Am.bool (decide ((↑dep:Int)<(16:Int)))] [ah.box [AV.sl 1 false (jl r)]] (aS.Ay (AV.qX 36 (int 10))) [ah.box [AV.sl 1 false (jl r)]]from(by have h0:=(@Go.yU.aV (ah.box [AV.sl 1 false (jl r)]) (decide ((↑dep:Int)<(16:Int))));simp only[yK (show ¬(decide ((↑dep:Int)<(16:Int))=true)from Bool.eq_false_iff.1 (y16 zO))]at h0;exact h0))] zQ)) (by exact⟨.inr yO,yO⟩)
theorem awf(dep:Nat)(r:List UInt8)(hl:r.length<=999999999)(hd:dep<16)(dK:FU r=false)(h:True):ak P G 184 [AV.ptr 0 0,int (↑dep:Int)] (jD 3 r) (aS.Ay aO) [ah.aH]:=by
 have _:=h;exact ak.pY ((show ak P G 184 [AV.ptr 0 0,int (↑dep:Int)] (jD 3 r) (aS.Ay (AV.qX 36 (int 10))) [ah.box [AV.sl 1 false (jl (Co r))]]from aj [kc [0] (@Go.yU.bO (AV.lit (Value.int IntKind.u8 3)) (r) zO),ko (bC.elem [AV.lit (Value.int IntKind.u8 3)]),kp (show(0:Int)<=(0:Int)/\[[AV.lit (Value.int IntKind.u8 3)]][Int.toNat 0]?=some [AV.lit (Value.int IntKind.u8 3)]from(⟨zD,rfl⟩)),kf (Eq.refl false),kf (Eq.refl false),kt (Eq.refl true),kc [0] (show ak P G 185 [AV.ptr 0 0,Am.bool (decide ((↑dep:Int)<(16:Int)))] [ah.box [AV.sl 1 false (jl r)]] (aS.ret (AV.bq [])) [ah.box [AV.sl 1 false (jl r)]]from(by have h0:=(@Go.yU.aV (ah.box [AV.sl 1 false (jl r)]) (decide ((↑dep:Int)<(16:Int))));simp only[yL (show decide ((↑dep:Int)<(16:Int))=true from y15 zO)]at h0;exact h0)),kc [0] (show ak P G 261 [AV.ptr 0 0] [ah.box [AV.sl 1 false (jl r)]] (aS.Ay (AV.qX 36 (int 10))) [ah.box [AV.sl 1 false (jl (Co r))]]from(by have h0:=(@Go.yU.jN (r) zO);simp only[yK (show ¬(FU r=true)from Bool.eq_false_iff.1 (dK))]at h0;exact h0))] zQ)) (by exact⟨.inr yO,yO⟩)
theorem awR(dep:Nat)(r:List UInt8)(hl:r.length<=999999999)(hd:dep<16)(dK:FU r=true)(hu:Cn r=0)(h:True):ak P G 184 [AV.ptr 0 0,int (↑dep:Int)] (jD 3 r) (aS.ret (val (mkL []))) (dH (Co r)):=by
 have _:=h;exact ak.out ((show ak P G 184 [AV.ptr 0 0,int (↑dep:Int)] (jD 3 r) (aS.ret (AV.agg [int 3,int 0,str (ByteArray.mk #[]),aK])) [ah.box [AV.sl 1 false (jl (Co r))]]from aj [kc [0] (@Go.yU.bO (AV.lit (Value.int IntKind.u8 3)) (r) zO),ko (bC.elem [AV.lit (Value.int IntKind.u8 3)]),kp (show(0:Int)<=(0:Int)/\[[AV.lit (Value.int IntKind.u8 3)]][Int.toNat 0]?=some [AV.lit (Value.int IntKind.u8 3)]from(⟨zD,rfl⟩)),kf (Eq.refl false),kf (Eq.refl false),kt (Eq.refl true),kc [0] (show ak P G 185 [AV.ptr 0 0,Am.bool (decide ((↑dep:Int)<(16:Int)))] [ah.box [AV.sl 1 false (jl r)]] (aS.ret (AV.bq [])) [ah.box [AV.sl 1 false (jl r)]]from(by have h0:=(@Go.yU.aV (ah.box [AV.sl 1 false (jl r)]) (decide ((↑dep:Int)<(16:Int))));simp only[yL (show decide ((↑dep:Int)<(16:Int))=true from y15 zO)]at h0;exact h0)),kc [0] (show ak P G 261 [AV.ptr 0 0] [ah.box [AV.sl 1 false (jl r)]] (aS.ret (int (↑(Cn r):Int))) [ah.box [AV.sl 1 false (jl (Co r))]]from(by have h0:=(@Go.yU.jN (r) zO);simp only[yL (show FU r=true from dK)]at h0;exact h0)),kl [2,3,5,6,7,8,9,10,11,12,13,14,15,16,17,18,19,20,21,22,23,24,25,26,27,28,29,30,31,32,33,34,35,38,39,40,41,42,43,44,45,46,47,48,49] 2 (@Go.yU.awM (dep) (Co r) (Cn r) zO (trivial))] zQ)) (aF.qo ⟨y29,y29,y29,(aF.nil _),yO⟩)
theorem avN(dep n:Nat)(r r':List UInt8)(vs:List CV)(hl:r.length<=999999999)(hd:dep<16)(dK:FU r=true)(hu:Cn r=n+1)(bL:vs.length=n+1)(hN:n+1<=1000000000)(hL:Rq 1 184 0 (awc dep (Co r) (Cn r)) (.exit 1) { aL:=aC 50 [(4,.ptr 1 0)],H:=[.box [Cy r'],.box [int 3,int 0,str { data:=#[] },.aU 2 n 0 vs.length],.aN n 4 false (iB vs)] })(h:True):ak P G 184 [AV.ptr 0 0,int (↑dep:Int)] (jD 3 r) (aS.ret (val (mkL vs))) (dH r'):=by
 have _:=h;exact aj [kc [0] (@Go.yU.bO (AV.lit (Value.int IntKind.u8 3)) (r) zO),ko (bC.elem [AV.lit (Value.int IntKind.u8 3)]),kp (show(0:Int)<=(0:Int)/\[[AV.lit (Value.int IntKind.u8 3)]][Int.toNat 0]?=some [AV.lit (Value.int IntKind.u8 3)]from(⟨zD,rfl⟩)),kf (Eq.refl false),kf (Eq.refl false),kt (Eq.refl true),kc [0] (show ak P G 185 [AV.ptr 0 0,Am.bool (decide ((↑dep:Int)<(16:Int)))] [ah.box [AV.sl 1 false (jl r)]] (aS.ret (AV.bq [])) [ah.box [AV.sl 1 false (jl r)]]from(by have h0:=(@Go.yU.aV (ah.box [AV.sl 1 false (jl r)]) (decide ((↑dep:Int)<(16:Int))));simp only[yL (show decide ((↑dep:Int)<(16:Int))=true from y15 zO)]at h0;exact h0)),kc [0] (show ak P G 261 [AV.ptr 0 0] [ah.box [AV.sl 1 false (jl r)]] (aS.ret (int (↑(Cn r):Int))) [ah.box [AV.sl 1 false (jl (Co r))]]from(by have h0:=(@Go.yU.jN (r) zO);simp only[yL (show FU r=true from dK)]at h0;exact h0)),kl [2,3,5,6,7,8,9,10,11,12,13,14,15,16,17,18,19,20,21,22,23,24,25,26,27,28,29,30,31,32,33,34,35,38,39,40,41,42,43,44,45,46,47,48,49] 2 (@hL ),ko (bC.fz (some 49) (iB vs)),kp (show n=n from(rfl)),kp (show List.take (length vs) (List.drop 0 (iB vs))=iB vs from(Go.yU.aa7 _)),kp (show length (iB vs)=length vs from(Go.yU.fA _)),kp (show ∀(c:List AV),c∈iB vs->List.all c AV.fJ=true from(Go.yU.WV _))] zQ
theorem avC(dep n:Nat)(r:List UInt8)(hl:r.length<=999999999)(hd:dep<16)(dK:FU r=true)(hL:Rq 1 184 0 (awc dep (Co r) (Cn r)) (.Ay aO) { aL:=aC 50 [],H:=[.aH] })(h:True):ak P G 184 [AV.ptr 0 0,int (↑dep:Int)] (jD 3 r) (aS.Ay aO) [ah.aH]:=by
 have _:=h;exact aj [kc [0] (@Go.yU.bO (AV.lit (Value.int IntKind.u8 3)) (r) zO),ko (bC.elem [AV.lit (Value.int IntKind.u8 3)]),kp (show(0:Int)<=(0:Int)/\[[AV.lit (Value.int IntKind.u8 3)]][Int.toNat 0]?=some [AV.lit (Value.int IntKind.u8 3)]from(⟨zD,rfl⟩)),kf (Eq.refl false),kf (Eq.refl false),kt (Eq.refl true),kc [0] (show ak P G 185 [AV.ptr 0 0,Am.bool (decide ((↑dep:Int)<(16:Int)))] [ah.box [AV.sl 1 false (jl r)]] (aS.ret (AV.bq [])) [ah.box [AV.sl 1 false (jl r)]]from(by have h0:=(@Go.yU.aV (ah.box [AV.sl 1 false (jl r)]) (decide ((↑dep:Int)<(16:Int))));simp only[yL (show decide ((↑dep:Int)<(16:Int))=true from y15 zO)]at h0;exact h0)),kc [0] (show ak P G 261 [AV.ptr 0 0] [ah.box [AV.sl 1 false (jl r)]] (aS.ret (int (↑(Cn r):Int))) [ah.box [AV.sl 1 false (jl (Co r))]]from(by have h0:=(@Go.yU.jN (r) zO);simp only[yL (show FU r=true from dK)]at h0;exact h0)),kl [2,3,5,6,7,8,9,10,11,12,13,14,15,16,17,18,19,20,21,22,23,24,25,26,27,28,29,30,31,32,33,34,35,38,39,40,41,42,43,44,45,46,47,48,49] 2 (@hL )] zQ
def Kk(deep:Bool)(p:List UInt8->Bool×CV×List UInt8):List UInt8->Bool×CV×List UInt8
 |[]=>(false,default,[])
 |c::r=>if c.toNat=1 then(Qu r,mkI (sgn (Cn r)),Co r)
  else if c.toNat=2 then(FU r,mkT ⟨((Co r).take (Cn r)).toArray⟩,(Co r).drop (Cn r))
  else if c.toNat=3 then(if deep=true/\FU r=true then((Gj p (Cn r) (Co r)).1,mkL (Gj p (Cn r) (Co r)).2.1,(Gj p (Cn r) (Co r)).2.2)else(false,default,[]))
  else(false,default,[])
def P5:Nat->List UInt8->Bool×CV×List UInt8
 |0=>Kk false fun _=>(false,default,[])
 |f+1=>Kk true (P5 f)
variable {deep:Bool}
theorem av1(hp:∀l,(p l).2.2.length<=l.length):∀l,(Kk deep p l).2.2.length<=l.length
 |[]=>yM
 |c::r=>by
  have h1:=aue r;simp only[Kk];split
  .simp only[yE];omega
  .split
   .simp only[yE,length_drop];omega
   .split
    .split
     .have:=av0 hp (Cn r) (Co r);simp only[yE];omega
     .simp
    .simp
theorem avD(h:FU r=true):Cn r<=(Co r).length:=by
 simp only[FU,y04,y05]at h;exact h.2
theorem auh{d:UInt8}(h:c.toNat=d.toNat):c=d:=UInt8.toNat_inj.1 h
theorem ag4{deep}{p}{c}{r}(h:c.toNat=1):Kk deep p (c::r)=(Qu r,mkI (sgn (Cn r)),Co r):=by
 simp only[Kk];rw[yL h]
theorem ag5{deep}{p}{c}{r}(h:c.toNat=2):Kk deep p (c::r)=(FU r,mkT ⟨((Co r).take (Cn r)).toArray⟩,(Co r).drop (Cn r)):=by
 simp only[Kk];grind
theorem ag6{deep}{p}{c}{r}(h:c.toNat=3):Kk deep p (c::r)=if deep=true/\FU r=true then((Gj p (Cn r) (Co r)).1,mkL (Gj p (Cn r) (Co r)).2.1,(Gj p (Cn r) (Co r)).2.2)else(false,default,[]):=by
 simp only[Kk];grind
theorem ax6(h1:c.toNat≠1)(h2:c.toNat≠2)(h3:c.toNat≠3):Kk deep p (c::r)=(false,default,[]):=by
 simp only[Kk];rw[yK h1,yK h2,yK h3]
theorem at6(hp:deep=true->dep<16/\Reads (dep+1) p)(hd:deep=false->dep=16)(l:List UInt8)(hl:l.length<=1000000000) :
 ak P G 184 [.ptr 0 0,int (dep:Int)] (dH l) (if(Kk deep p l).1=true then .ret (val (Kk deep p l).2.1)else .Ay aO) [if(Kk deep p l).1=true then .box [Cy (Kk deep p l).2.2]else .aH]:=by
 cases l with
 |nil=>exact axC dep trivial
 |cons c r =>
  have hr:r.length<=999999999:=by simp at hl;omega
  have hR:=aue r;by_cases h1:c.toNat=1
  .have hc:c=1:=auh h1;rw[ag4 h1];subst hc;cases dK:Qu r with
   |true=>simp only[if_true];exact axE dep r hr (auc r) dK trivial
   |false=>simp only[y20,if_false];exact av8 dep r hr dK trivial
  .by_cases h2:c.toNat=2
   .have hc:c=2:=auh h2;rw[ag5 h2];subst hc;cases dK:FU r with
    |true=>simp only[if_true];exact axF dep r hr (auc r) zO dK (avD dK) trivial
    |false=>simp only[y20,if_false];exact av9 dep r hr dK trivial
   .by_cases h3:c.toNat=3
    .have hc:c=3:=auh h3;rw[ag6 h3];subst hc;cases deep with
     |false =>
      simp only[y20,false_and,if_false];exact awQ dep r hr (hd rfl) trivial
     |true =>
      obtain⟨awS,hp⟩:=hp rfl;cases dK:FU r with
      |false=>simp only[y20,and_false,if_false];exact awf dep r hr awS dK trivial
      |true =>
       simp only[and_self,if_true];have uQ:=avD dK;cases hu:Cn r with
       |zero =>
        simp only[Gj,if_true];exact awR dep r hr awS dK hu trivial
       |succ n =>
        have hL:=awe hp awS n zO (Co r) zO;cases hq:(Gj p (n+1) (Co r)).1 with
        |true =>
         rw[hq]at hL;simp only[if_true]at hL |-;exact avN dep n r _ _ hr awS dK hu (avB _ _ hq) zO (by rw[hu];exact hL) trivial
        |false =>
         rw[hq]at hL;simp only[y20,if_false]at hL |-;exact avC dep n r hr awS dK (by rw[hu];exact hL) trivial
    .rw [ax6 h1 h2 h3];simp only[if_false,y20];exact axD dep c r hr c.toNat_lt h1 h2 h3 trivial
theorem oH:∀(f dep:Nat),f+dep=16->Reads dep (P5 f)
 |0,dep,h=>⟨fun l hl=>at6 (fun h=>by cases h) (fun _=>zO) l hl,av1 fun _=>yN⟩
 |f+1,dep,h=>⟨fun l hl=>at6 (fun _=>⟨zO,oH f (dep+1) zO⟩) (fun h=>by cases h) l hl,av1 (oH f (dep+1) zO).le⟩
theorem awg(o0 o1 o2:ah):auj P G 183 [.ptr 0 0,.ptr 1 0] [o0,o1,o2] (.ret .aP) [.br false]=some ([o0,o1,o2],.ret .aP,[false=false]):=zQ
theorem axI(o0 o1 o2:ah):ank P G 183 [.ptr 0 0,.ptr 1 0] [o0,o1,o2] (.ret .aP) [o0,o1,o2] (.ret .aP):=vX _ (awg o0 o1 o2) ⟨rfl,yO⟩
theorem awh(a b c d e:AV)(o2:ah):auj P G 183 [.ptr 0 0,.ptr 1 0] [.box [a,b,c,d],.box [e],o2] (.Ay aO) [.br true]=some ([.box [int 0,int 0,str { data:=#[] },aK],.box [int 10],o2],.ret .aP,[true=true]):=zQ
theorem av2(a b c d e:AV)(o2:ah):ank P G 183 [.ptr 0 0,.ptr 1 0] [.box [a,b,c,d],.box [e],o2] (.Ay aO) [.box [int 0,int 0,str { data:=#[] },aK],.box [int 10],o2] (.ret .aP):=vX _ (awh a b c d e o2) ⟨rfl,yO⟩
theorem ax7(l r:List UInt8)(v:CV)(hr0:r.length=0)(hv:ak P G 184 [.ptr 0 0,int ((0:Nat):Int)] (dH l) (.ret (val v)) (dH r))(h:True):Cq 82 [Cy l] (AV.bq [val v,int 0]):=by
 have _:=h;exact aj [kc [2] (@hv ),kv 16 (show Am.aF (int (↑(length (jl r)):Int)) (int (↑(length r):Int))from(aF.of_eq (by simp only[Go.yU.eu]))),kc [2] (show ak P G 185 [AV.ptr 0 0,Am.bool ((↑(length r):Int)==0)] [ah.box [AV.sl 1 false (jl r)]] (aS.ret (AV.bq [])) [ah.box [AV.sl 1 false (jl r)]]from(by have h0:=(@Go.yU.aV (ah.box [AV.sl 1 false (jl r)]) ((↑(length r):Int)==0));simp only[yL (show((↑(length r):Int)==0)=true from y15 zO)]at h0;exact h0)),ko (bC.dcall (aS.ret AV.aP) [ah.box [int (CV.k v),int (CV.n v),str (CV.s v),AV.sl 4 false (iB (CV.l v))],ah.box [int 0],ah.box [AV.sl 1 false (jl r)]]),kp (@Go.yU.axI (ah.box [int (CV.k v),int (CV.n v),str (CV.s v),AV.sl 4 false (iB (CV.l v))]) (ah.box [int 0]) (ah.box [AV.sl 1 false (jl r)]))] zQ
theorem awT(l r:List UInt8)(v:CV)(hr0:0<r.length)(hv:ak P G 184 [.ptr 0 0,int ((0:Nat):Int)] (dH l) (.ret (val v)) (dH r))(h:True):Cq 82 [Cy l] (AV.bq [val default,int 10]):=by
 have _:=h;exact ak.out ((show Cq 82 [Cy l] (AV.bq [AV.agg [int 0,int 0,str (ByteArray.mk #[]),aK],int 10])from aj [kc [2] (@hv ),kv 16 (show Am.aF (int (↑(length (jl r)):Int)) (int (↑(length r):Int))from(aF.of_eq (by simp only[Go.yU.eu]))),kc [2] (show ak P G 185 [AV.ptr 0 0,Am.bool ((↑(length r):Int)==0)] [ah.box [AV.sl 1 false (jl r)]] (aS.Ay (AV.qX 36 (int 10))) [ah.box [AV.sl 1 false (jl r)]]from(by have h0:=(@Go.yU.aV (ah.box [AV.sl 1 false (jl r)]) ((↑(length r):Int)==0));simp only[yK (show ¬(((↑(length r):Int)==0)=true)from Bool.eq_false_iff.1 (y16 zO))]at h0;exact h0)),ko (bC.dcall (aS.ret AV.aP) [ah.box [int 0,int 0,str (ByteArray.mk #[]),aK],ah.box [int 10],ah.box [AV.sl 1 false (jl r)]]),kp (@Go.yU.av2 (int (CV.k v)) (int (CV.n v)) (str (CV.s v)) (AV.sl 4 false (iB (CV.l v))) (int 0) (ah.box [AV.sl 1 false (jl r)]))] zQ)) (aF.iM ⟨(aF.qo ⟨y29,y29,y29,(aF.nil _),yO⟩),y29,yO⟩)
theorem axJ(l:List UInt8)(hv:ak P G 184 [.ptr 0 0,int ((0:Nat):Int)] (dH l) (.Ay aO) [.aH])(h:True):Cq 82 [Cy l] (AV.bq [val default,int 10]):=by
 have _:=h;exact ak.out ((show Cq 82 [Cy l] (AV.bq [AV.agg [int 0,int 0,str (ByteArray.mk #[]),aK],int 10])from aj [kc [2] (@hv ),ko (bC.dcall (aS.ret AV.aP) [ah.box [int 0,int 0,str (ByteArray.mk #[]),aK],ah.box [int 10],ah.aH]),kp (@Go.yU.av2 (int 0) (int 0) (str (ByteArray.mk #[])) (aK) (int 0) (ah.aH))] zQ)) (aF.iM ⟨(aF.qo ⟨y29,y29,y29,(aF.nil _),yO⟩),y29,yO⟩)
def adn(l:List UInt8):Bool:=(P5 16 l).1&&(P5 16 l).2.2.isEmpty
def aaw(l:List UInt8):CV:=if adn l=true then(P5 16 l).2.1 else default
def adl(l:List UInt8):Int:=if adn l=true then 0 else 10
theorem awU(l:List UInt8)(hl:l.length<=1000000000):Cq 82 [Cy l] (.bq [val (aaw l),int (adl l)]):=by
 have hv:=(oH 16 0 zO).call l hl;cases dK:(P5 16 l).1 with
 |false =>
  rw[dK]at hv;simp only[y20,if_false]at hv;have hb:adn l=false:=by simp[adn,dK]
  simp only[aaw,adl,hb,y20,if_false];exact axJ l hv trivial
 |true =>
  rw[dK]at hv;simp only[if_true]at hv;cases hr:(P5 16 l).2.2 with
  |nil =>
   have hb:adn l=true:=by simp[adn,dK,hr]
   simp only[aaw,adl,hb,if_true];rw[hr]at hv;exact ax7 l [] _ rfl hv trivial
  |cons c r =>
   have hb:adn l=false:=by simp[adn,dK,hr]
   simp only[aaw,adl,hb,y20,if_false];exact awT l _ _ (by rw[hr];simp) hv trivial
theorem aBR(hu:u<18446744073709551616):(Int.tmod (↑u:Int) 2=(1:Int)->(IntKind.wrap IntKind.i64 (IntKind.wrap IntKind.i64 (0-IntKind.wrap IntKind.i64 (IntKind.wrap IntKind.u64 (Int.tdiv (↑u:Int) 2)))-1):Int)=sgn u)/\((¬Int.tmod (↑u:Int) 2=(1:Int))->(IntKind.wrap IntKind.i64 (IntKind.wrap IntKind.u64 (Int.tdiv (↑u:Int) 2)):Int)=sgn u):=by
 have e1:Int.tdiv (↑u:Int) 2=((u/2:Nat):Int):=rfl;have e2:Int.tmod (↑u:Int) 2=((u % 2:Nat):Int):=rfl;have e3:IntKind.wrap IntKind.u64 ((u/2:Nat):Int)=((u/2:Nat):Int):=wrap64 zO;have e4:IntKind.wrap IntKind.i64 ((u/2:Nat):Int)=((u/2:Nat):Int):=Gx zO zO;rw[e1,e2,e3,e4];unfold sgn;refine⟨fun h=>?_,fun h=>?_⟩
 .rw [yK zO,Gx (n:=0-((u/2:Nat):Int)) zO zO,Gx zO zO];omega
 .rw [yL zO]
def aAm(b:List UInt8)(dep:Nat)(p:List UInt8->Bool×CV×List UInt8):Prop:=∀a:Nat,a<=b.length->∃(a':Nat)(v:CV),a'<=b.length/\((p (b.drop a)).1=true->v=(p (b.drop a)).2.1/\b.drop a'=(p (b.drop a)).2.2) /\
 ak P G 196 [.ptr 0 0,int (dep:Int)] (rr b a false) (.ret (val v)) (rr b a' (!(p (b.drop a)).1))
theorem aBS{b:List UInt8}{dep:Nat}{p:List UInt8->Bool×CV×List UInt8}(hp:aAm b (dep+1) p)(hd:dep<16)(N:Nat)(hN:N<=1000000000):∀(n i g a:Nat)(vs:List CV),N-i=n->i<=N->vs.length=i->a<=b.length ->
 ∃(a' g':Nat)(ws:List CV),a'<=b.length/\((Gj p n (b.drop a)).1=true->ws=vs++(Gj p n (b.drop a)).2.1/\b.drop a'=(Gj p n (b.drop a)).2.2) /\
  Rq 1 196 0 (rl1 b dep a N i g false vs) (.exit 1) { aL:=aC 142 [(4,.ptr 1 0),(8,.ptr 2 0)],H:=rr b a' (!(Gj p n (b.drop a)).1)++[.box [int 0,int 0,str { data:=#[] },aK],.box [int 3,int 0,str { data:=#[] },.aU 3 g' 0 ws.length],.aN g' 4 false (iB ws)] }
 |0,i,g,a,vs,hn,hi,Ev,ha=>by
  refine⟨a,g,vs,ha,(fun _=>⟨(y19 vs).symm,rfl⟩),?_⟩;exact aEt b dep a N i g vs zO trivial
 |n+1,i,g,a,vs,hn,hi,Ev,ha=>by
  obtain⟨a1,v,h1,h2,h3⟩:=hp a ha;have e1:((iB vs++[[int (CV.k v),int (CV.n v),str (CV.s v),AV.sl 4 false (iB (CV.l v))]]):List (List AV))=iB (vs++[v]):=by rw[<- avw,<- avx];rfl
  have e2:vs.length+1=(vs++[v]).length:=zS
  cases dK:(p (b.drop a)).1 with
  |false =>
   rw[dK]at h3;refine⟨a1,g+1,vs++[v],h1,(fun h=>by simp[Gj,dK]at h),?_⟩;have e:(Gj p (n+1) (b.drop a)).1=false:=by simp[Gj,dK]
   rw[e];refine aBa b dep a a1 N i g true vs hd zO hN zO v h3 _ _ ?_;rw[e1,e2];exact aBQ b dep a1 N (i+1) (g+1) (vs++[v]) ⟨fun _=>trivial,fun _=>trivial⟩
  |true =>
   rw[dK]at h3;obtain⟨rfl,h5⟩:=h2 dK;obtain⟨a',g',ws,k1,k2,k3⟩:=aBS hp hd N hN n (i+1) (g+1) a1 (vs++[(p (b.drop a)).2.1]) zO zO (by simp[Ev]) h1;have e:Gj p (n+1) (b.drop a)=((Gj p n (p (b.drop a)).2.2).1,(p (b.drop a)).2.1::(Gj p n (p (b.drop a)).2.2).2.1,(Gj p n (p (b.drop a)).2.2).2.2):=by simp[Gj,dK]
   rw[h5]at k2 k3;rw[e];refine⟨a',g',ws,k1,(fun h=>?_),?_⟩
   .obtain ⟨q1,q2⟩:=k2 h;exact⟨by rw[q1,y13];rfl,q2⟩
   .refine aBa b dep a a1 N i g false vs hd zO hN zO _ h3 _ _ ?_;rw[e1,e2];exact k3
theorem aDk(hp:aAm b (dep+1) p)(hd:dep<16)(n:Nat)(hN:n+1<=1000000000)(a:Nat)(ha:a<=b.length) :
 ∃(a' g':Nat)(ws:List CV),a'<=b.length/\((Gj p (n+1) (b.drop a)).1=true->ws=(Gj p (n+1) (b.drop a)).2.1/\b.drop a'=(Gj p (n+1) (b.drop a)).2.2) /\
  Rq 1 196 0 (rl0 b dep a (n+1)) (.exit 1) { aL:=aC 142 [(4,.ptr 1 0),(8,.ptr 2 0)],H:=rr b a' (!(Gj p (n+1) (b.drop a)).1)++[.box [int 0,int 0,str { data:=#[] },aK],.box [int 3,int 0,str { data:=#[] },.aU 3 g' 0 ws.length],.aN g' 4 false (iB ws)] }:=by
 obtain⟨a1,v,h1,h2,h3⟩:=hp a ha;have e1:([[int (CV.k v),int (CV.n v),str (CV.s v),AV.sl 4 false (iB (CV.l v))]]:List (List AV))=iB [v]:=by rw[<- avx];rfl
 cases dK:(p (b.drop a)).1 with
 |false =>
  rw[dK]at h3;refine⟨a1,0,[v],h1,(fun h=>by simp[Gj,dK]at h),?_⟩;have e:(Gj p (n+1) (b.drop a)).1=false:=by simp[Gj,dK]
  rw[e];refine aA9 b dep a a1 (n+1) true hd zO hN v h3 _ _ ?_;rw[e1];exact aBQ b dep a1 (n+1) 1 0 [v] ⟨fun _=>trivial,fun _=>trivial⟩
 |true =>
  rw[dK]at h3;obtain⟨rfl,h5⟩:=h2 dK;obtain⟨a',g',ws,k1,k2,k3⟩:=aBS hp hd (n+1) hN n 1 0 a1 [(p (b.drop a)).2.1] zO zO rfl h1;have e:Gj p (n+1) (b.drop a)=((Gj p n (p (b.drop a)).2.2).1,(p (b.drop a)).2.1::(Gj p n (p (b.drop a)).2.2).2.1,(Gj p n (p (b.drop a)).2.2).2.2):=by simp[Gj,dK]
  rw[h5]at k2 k3;rw[e];refine⟨a',g',ws,k1,(fun h=>k2 h),?_⟩;refine aA9 b dep a a1 (n+1) false hd zO hN _ h3 _ _ ?_;rw[e1];exact k3
theorem aEZ(hl:b.length<=1000000000)(hp:deep=true->dep<16/\aAm b (dep+1) p)(hd:deep=false->dep=16):aAm b dep (Kk deep p):=by
 intro a ha;have awS:dep<=16:=by
  cases deep with
  |true=>have:=(hp rfl).1;omega
  |false=>have:=hd rfl;omega
 cases hb:b.drop a with
 |nil =>
  have bL:b.length<=a:=by
   have:=yJ length hb;simp at this;omega
  refine⟨a,.mk 0 0 .empty [],ha,(fun h=>by simp[Kk]at h),?_⟩;exact aIi b a a true dep 0 (aDi b a false bL yO) zD zD zD trivial
 |cons c r =>
  obtain⟨hx,GH,bL⟩:=drop_cons hb;have hn:=aBO b a false c hl hx;obtain⟨a2,k1,k2,k3⟩:=aCf b (a+1) hl zO;rw[GH]at k2 k3;have hU:=auc r;by_cases h1:c.toNat=1
  .rw [ag4 h1];cases dK:Qu r with
   |true =>
    rw[dK]at k3;refine⟨a2,mkI (sgn (Cn r)),k1,(fun _=>⟨rfl,k2 dK⟩),?_⟩;exact aIj b a (a+1) a2 (Cn r) false dep c hn h1 k3 _ (aBR hU)
   |false =>
    rw[dK]at k3;refine⟨a2,mkI (sgn 0),k1,(fun h=>by cases h),?_⟩;exact aIj b a (a+1) a2 0 true dep c hn h1 k3 _ (aBR zD)
  .by_cases h2:c.toNat=2
   .rw [ag5 h2];cases dK:Qu r with
    |false =>
     rw[dK]at k3;have e:FU r=false:=by simp[FU,dK]
     rw[e];exact⟨a2,.mk 0 0 .empty [],k1,(fun h=>by cases h),aIk b a (a+1) a2 _ dep c hn h2 k3 yO⟩
    |true =>
     rw[dK]at k3;have hd2:=k2 dK;have hrl:(Co r).length=b.length-a2:=by rw[<- hd2,length_drop]
     by_cases uQ:Cn r<=(Co r).length
     .have e:FU r=true:=by simp[FU,dK,uQ]
      rw[e];refine⟨a2+Cn r,mkT ⟨((Co r).take (Cn r)).toArray⟩,zO,(fun _=>⟨rfl,?_⟩),?_⟩
      .show b.drop (a2+Cn r)=(Co r).drop (Cn r);rw[<- hd2,drop_drop]
      .have:=aJ6 b a (a+1) a2 (Cn r) dep c hn h2 k3 hl k1 zO trivial;rw[drop_take,show a2+Cn r-a2=Cn r by omega,hd2]at this;exact this
     .have e:FU r=false:=by simp[FU,dK,uQ]
      rw[e];exact⟨a2,.mk 0 0 .empty [],k1,(fun h=>by cases h),aIl b a (a+1) a2 _ dep c hn h2 k3 hl k1 (by simp only[if_true];omega) yO⟩
   .by_cases h3:c.toNat=3
    .rw [ag6 h3];cases dK:Qu r with
     |false =>
      rw[dK]at k3;have e:FU r=false:=by simp[FU,dK]
      rw[yK (by rw[e];simp)];exact⟨a2,.mk 0 0 .empty [],k1,(fun h=>by cases h),aIm b a (a+1) a2 _ dep c hn h3 k3 yO⟩
     |true =>
      rw[dK]at k3;simp only[if_true]at k3;have hd2:=k2 dK;have hrl:(Co r).length=b.length-a2:=by rw[<- hd2,length_drop]
      by_cases uQ:Cn r<=(Co r).length
      .have e:FU r=true:=by simp[FU,dK,uQ]
       cases deep with
       |false =>
        rw[yK zS];exact⟨a2,.mk 0 0 .empty [],k1,(fun h=>by cases h),aEY b a (a+1) a2 _ dep c hn h3 k3 hl k1 (.inr (hd rfl)) ⟨fun _=>trivial,fun _=>trivial⟩⟩
       |true =>
        obtain⟨hdp,hpp⟩:=hp rfl;rw[yL ⟨rfl,e⟩];cases hu:Cn r with
        |zero =>
         refine⟨a2,mkL [],k1,(fun _=>⟨rfl,hd2⟩),?_⟩;rw[hu]at k3;exact aIn b a (a+1) a2 0 dep c hn h3 k3 hl k1 hdp rfl trivial
        |succ n =>
         obtain⟨a',g',ws,q1,q2,q3⟩:=aDk hpp hdp n zO a2 k1;rw[hd2]at q2 q3;refine⟨a',mkL ws,q1,(fun h=>⟨yJ mkL (q2 h).1,(q2 h).2⟩),?_⟩;rw[hu]at k3;exact aIo b a (a+1) a2 (n+1) dep c hn h3 k3 hl k1 hdp zO ws a' g' _ q3 trivial
      .have e:FU r=false:=by simp[FU,dK,uQ]
       rw[yK (by rw[e];simp)];exact⟨a2,.mk 0 0 .empty [],k1,(fun h=>by cases h),aEY b a (a+1) a2 _ dep c hn h3 k3 hl k1 (.inl zO) ⟨fun _=>trivial,fun _=>trivial⟩⟩
    .rw [ax6 h1 h2 h3];exact⟨a+1,.mk 0 0 .empty [],zO,(fun h=>by cases h),aIi b a (a+1) false dep c hn h1 h2 h3 yO⟩
theorem aE0{b:List UInt8}(hl:b.length<=1000000000):∀(f dep:Nat),f+dep=16->aAm b dep (P5 f)
 |0,dep,h=>aEZ hl (fun h=>by cases h) (fun _=>zO)
 |f+1,dep,h=>aEZ hl (fun _=>⟨zO,aE0 hl f (dep+1) zO⟩) (fun h=>by cases h)
theorem abC u:num u=WY 9 u:=(UR 9 u).symm
theorem ofNat_toNat(c:UInt8):UInt8.ofNat c.toNat=c:=UInt8.toNat_inj.1 (by rw[UInt8.toNat_ofNat'];exact Nat.mod_eq_of_lt c.toNat_lt)
theorem aBv{f:Nat}(h:u<128):WY f u=[UInt8.ofNat u]:=by
 cases f with
 |zero=>rfl
 |succ f=>simp only[WY];rw[yL h]
theorem abD i:2^(7*(i+1))=128*2^(7*i):=by rw[Nat.mul_add,Nat.pow_add];omega
theorem aAn:∀(l:List UInt8)(u i:Nat),i<=9->(SX l u i).1=true->∃X:Nat,(SX l u i).2.1=u+X*2^(7*i)/\l=WY (9-i) X++(SX l u i).2.2/\(i≠0->X≠0)
 |[],u,i,hi,h=>by simp[SX]at h
 |c::r,u,i,hi,h=>by
  have hc8:=c.toNat_lt;by_cases hbad:(i≠0/\c.toNat=0)\/(9<=i/\1<c.toNat)
  .simp only[SX]at h;rw[yL hbad]at h;cases h
  .by_cases hc:c.toNat<128
   .have e:SX (c::r) u i=(true,u+c.toNat % 128*2^(7*i),r):=by simp only[SX];rw[yK hbad,yL hc]
    rw[e];refine⟨c.toNat,by rw[Nat.mod_eq_of_lt hc],?_,fun hi0=>zO⟩;rw[aBv hc,ofNat_toNat];rfl
   .have e:SX (c::r) u i=SX r (u+c.toNat % 128*2^(7*i)) (i+1):=by
     simp only[SX];rw[yK hbad,yK hc]
    rw[e]at h |-;have hi8:i<=8:=zO
    obtain⟨X,h1,h2,h3⟩:=aAn r (u+c.toNat % 128*2^(7*i)) (i+1) zO h;refine⟨c.toNat % 128+128*X,?_,?_,fun _=>?_⟩
    .rw [h1,abD,Nat.add_assoc,Nat.add_mul];congr 2;rw[<- Nat.mul_assoc,Nat.mul_comm X 128]
    .have hX:=h3 zO;rw[show 9-i=(9-(i+1))+1 by omega];simp only[WY];rw[yK zO,show(c.toNat % 128+128*X)/128=X by omega,show(c.toNat % 128+128*X) % 128+128=c.toNat by omega,ofNat_toNat,cons_append,<- h2]
    .have:=h3 zO;omega
theorem axr{l:List UInt8}(h:Qu l=true):l=num (Cn l)++Co l:=by
 obtain⟨X,h1,h2,_⟩:=aAn l 0 0 zO h;rw[abC];have:Cn l=X:=by
  unfold Cn;rw[h1];simp
 rw[this];exact h2
theorem aEu:vP (sgn u)=u:=by
 unfold sgn vP;split
 .grind
 .grind
theorem aCg(h:u<18446744073709551616) : -9223372036854775808<=sgn u/\sgn u<9223372036854775808:=by grind[sgn]
structure Good(d:Nat)(l:List UInt8)(v:CV)(r:List UInt8):Prop where
 wf:wf v=true
 dp:dp v<=d
 ok:QG v
 eq:l=gT v++r
theorem ag7{l}(h:∀x∈l,wf x=true):Lb l=true:=by
 induction l with
 |nil=>rfl
 |cons a l ih=>simp only[Lb];grind
theorem ag8{l}{d}(h:∀x∈l,dp x<=d):JO l<=d:=by
 induction l with
 |nil=>exact yN
 |cons a l ih =>
  simp only[JO];grind
theorem aAo{d:Nat}{p:List UInt8->Bool×CV×List UInt8}(hp:∀l:List UInt8,l.length<=1000000000->(p l).1=true->Good d l (p l).2.1 (p l).2.2):∀(n:Nat)(r:List UInt8),r.length<=1000000000->(Gj p n r).1=true ->
 (∀x∈(Gj p n r).2.1,wf x=true/\dp x<=d/\QG x)/\r=je (Gj p n r).2.1++(Gj p n r).2.2
 |0,r,_,_=>⟨fun x hx=>by simp[Gj]at hx,rfl⟩
 |n+1,r,hr,h=>by
  cases dK:(p r).1 with
  |false=>simp[Gj,dK]at h
  |true =>
   have e:Gj p (n+1) r=((Gj p n (p r).2.2).1,(p r).2.1::(Gj p n (p r).2.2).2.1,(Gj p n (p r).2.2).2.2):=by simp[Gj,dK]
   rw[e]at h |-;have hg:=hp r hr dK;have bL:(p r).2.2.length<=1000000000:=by
    have:=yJ length hg.eq;rw[yD]at this;omega
   obtain⟨k1,k2⟩:=aAo hp n (p r).2.2 bL h;refine⟨fun x hx=>?_,?_⟩
   .rcases yH.1 hx with rfl|hx
    .exact ⟨hg.wf,hg.dp,hg.ok⟩
    .exact k1 x hx
   .show r=je ((p r).2.1::_)++_;rw[Jr,y13,<- k2];exact hg.eq
theorem aDl(l:List UInt8):(⟨l.toArray⟩:yP).size=l.length:=by simp[ByteArray.size]
theorem aAp{d:Nat}(hp:deep=true->1<=d/\∀l:List UInt8,l.length<=1000000000->(p l).1=true->Good (d-1) l (p l).2.1 (p l).2.2) :
 ∀l:List UInt8,l.length<=1000000000->(Kk deep p l).1=true->Good d l (Kk deep p l).2.1 (Kk deep p l).2.2
 |[],_,h=>by simp[Kk]at h
 |c::r,hl,h=>by
  have hr:r.length<=999999999:=by simp at hl;omega
  have hU:=auc r;by_cases h1:c.toNat=1
  .have hc:c=1:=auh h1;rw[ag4 h1]at h |-;subst hc;have hs:=axr h;refine⟨by simp[mkI,wf],by simp[mkI,dp],.mk _ _ _ _ (aCg hU) zD zD (fun x hx=>by cases hx),?_⟩;have e1:gT (mkI (sgn (Cn r)))=1::num (vP (sgn (Cn r))):=by simp[gT,mkI]
   rw[e1,aEu,cons_append,<- hs]
  .by_cases h2:c.toNat=2
   .have hc:c=2:=auh h2;rw[ag5 h2]at h |-;subst hc;have uQ:=avD h;simp only[FU,y04]at h;have hs:=axr h.1;have hR:=aue r;have iZ:(⟨((Co r).take (Cn r)).toArray⟩:yP).size=Cn r:=by rw[aDl,y18];omega
    refine⟨by simp[mkT,wf],by simp[mkT,dp],.mk _ _ _ _ zD (by rw[iZ];omega) zD (fun x hx=>by cases hx),?_⟩;have e1:gT (mkT ⟨((Co r).take (Cn r)).toArray⟩)=2::(num (Cn r)++(Co r).take (Cn r)):=by
     simp only[mkT,gT];rw[yK zD,yL yO,iZ]
    rw[e1,cons_append,y13,take_append_drop,<- hs]
   .by_cases h3:c.toNat=3
    .have hc:c=3:=auh h3;rw[ag6 h3]at h |-;subst hc;split at h
     .rename_i qK;rw[yL qK];obtain⟨hd,dK⟩:=qK;obtain⟨hd1,hpp⟩:=hp hd;have uQ:=avD dK;simp only[FU,y04]at dK;have hs:=axr dK.1;have hR:=aue r;obtain⟨k1,k2⟩:=aAo hpp (Cn r) (Co r) zO h;have bL:=avB _ _ h;refine⟨?_,?_,.mk _ _ _ _ zD zD (by rw[bL];omega) (fun x hx=>(k1 x hx).2.2),?_⟩
      .have:=ag7 fun x hx=>(k1 x hx).1;simp[mkL,wf,this]
      .have:=ag8 fun x hx=>(k1 x hx).2.1;simp only[mkL,dp,if_true];omega
      .have e1:gT (mkL (Gj p (Cn r) (Co r)).2.1)=3::(num (Cn r)++je (Gj p (Cn r) (Co r)).2.1):=by
        simp only[mkL,gT];rw[yK zD,yK zD,bL]
       rw[e1,cons_append,y13,<- k2,<- hs]
     .cases h
    .rw [ax6 h1 h2 h3]at h;cases h
theorem azV:∀(f:Nat)(l:List UInt8),l.length<=1000000000->(P5 f l).1=true->Good f l (P5 f l).2.1 (P5 f l).2.2
 |0,l,hl,h=>aAp (d:=0) (fun h=>by cases h) l hl h
 |f+1,l,hl,h=>aAp (d:=f+1) (fun _=>⟨zO,azV f⟩) l hl h
theorem aDm(b:List UInt8)(a':Nat)(v:CV)(hv:ak P G 196 [.ptr 0 0,int 0] (rr b 0 false) (.ret (val v)) (rr b a' true))(h:True):Cq 89 [Cy b] (AV.bq [rR 0 0 y28 [],int 10]):=by
 have _:=h;exact ak.out ((show Cq 89 [Cy b] (AV.bq [AV.agg [int 0,int 0,str (ByteArray.mk #[]),aK],int 10])from aj [kc [1] (@hv ),kt (Eq.refl true),kt (Eq.refl true),kt (Eq.refl true),kt (Eq.refl true)] zQ)) (aF.iM ⟨(aF.qo ⟨y29,y29,y29,(aF.nil _),yO⟩),y29,yO⟩)
theorem aCh(l:List UInt8)(hl:l.length<=10000000):Cq 89 [Cy l] (.bq [val (aaw l),int (adl l)]):=by
 obtain⟨a',v,h1,h2,h3⟩:=aE0 (b:=l) zO 16 0 zO 0 yN;rw[drop_zero]at h2 h3;cases dK:(P5 16 l).1 with
 |false =>
  rw[dK]at h3;have hb:adn l=false:=by simp[adn,dK]
  simp only[aaw,adl,hb,y20,if_false];exact aDm l a' v h3 trivial
 |true =>
  rw[dK]at h3;obtain⟨rfl,hr⟩:=h2 dK;have hg:=azV 16 l zO dK;have hd:dp (P5 16 l).2.1<=1000001:=y07 hg.dp zD;have hc:=avK _ hg.ok hd;have e0:jg (P5 16 l).2.1=0:=by
   have:=hg.dp;simp only[jg,hg.wf,if_true];rw[yK zO]
  rw[e0]at hc;have bL:(gT (P5 16 l).2.1).length<=10000000:=by
   have:=yJ length hg.eq;rw[yD]at this;omega
  have hw:=aDh _ hg.ok bL;have hlr:l.length-a'=(P5 16 l).2.2.length:=by rw[<- hr,length_drop]
  refine aFX l a' _ false 0 h3 hc _ hw _ ⟨fun h=>(by cases h),fun _=>⟨fun ha=>⟨fun _=>⟨fun _=>?_,fun fF=>?_⟩,fun h=>absurd rfl h⟩,fun ha=>?_⟩⟩
  .have er:(P5 16 l).2.2=[]:=length_eq_zero_iff.1 zO;have hb:adn l=true:=by simp[adn,dK,er]
   simp only[aaw,adl,hb,if_true];exact .refl _
  .have er:(P5 16 l).2.2=[]:=length_eq_zero_iff.1 zO;have:=hg.eq;rw[er,y19]at this;rw[<- this]at fF;simp at fF
  .have er:(P5 16 l).2.2.isEmpty=false:=by
    cases hq:(P5 16 l).2.2 with
    |nil=>rw[hq]at hlr;simp at hlr;omega
    |cons _ _=>rfl
   have hb:adn l=false:=by simp[adn,er]
   simp only[aaw,adl,hb,y20,if_false];exact .U1 (.qo ⟨.refl _,.refl _,.refl _,.nil 4,yO⟩) (.refl _)
end Go.yU
namespace Go.bV
open Go Go.Am Go.Proofs Go.eY Go.bH Go.yU
theorem aFY(n:Int)(h:True):Cq 58 [int n] (rR 1 n y28 []):=by
 have _:=h;exact ak.out ((show Cq 58 [int n] (.agg [int 1,int n,str (ByteArray.mk #[]),aK])from aj [])) (aF.qo ⟨y29,y29,y29,(aF.nil _),yO⟩)
theorem aEv(s:yP)(h:True):Cq 59 [str s] (rR 2 0 s []):=by
 have _:=h;exact ak.out ((show Cq 59 [str s] (.agg [int 2,int 0,str s,aK])from aj [])) (aF.qo ⟨y29,y29,y29,(aF.nil _),yO⟩)
theorem aEw(t:Bool)(xs:List (List AV))(h:True):Cq 57 [.sl 4 t xs] (.agg [int 3,int 0,str y28,.sl 4 false xs]):=by
 have _:=h;exact ak.out ((show Cq 57 [.sl 4 t xs] (.agg [int 3,int 0,str (ByteArray.mk #[]),.sl 4 t xs])from aj [])) (aF.qo ⟨y29,y29,y29,(aF.oP _ _ _),yO⟩)
theorem vo(n:Int):Cq 58 [int n] (rR 1 n .empty []):=aFY n trivial
theorem aiS(s:yP):Cq 59 [str s] (rR 2 0 s []):=aEv s trivial
theorem zB(t:Bool)(xs:List (List AV)):Cq 57 [.sl 4 t xs] (.agg [int 3,int 0,str .empty,.sl 4 false xs]):=aEw t xs trivial
def zcv:List AV:=[int 0,int 0,str ⟨#[]⟩,aK]
def riE(l:List Int)(k:Nat):List AV:=aC 23 [(0,.sl 1 true (ql l)),(2,.ptr 0 0),(3,.ptr 1 0),(4,int k)]
def riX:List AV:=aC 23 [(2,.ptr 0 0),(3,.ptr 1 0)]
def aAA(l:List Int):St:={ aL:=riE l 0,H:=[.box zcv,.box [int 3,int 0,str ⟨#[]⟩,aK]] }
def aBT(l:List Int)(g:Nat)(cs:List CV)(k:Nat):St:={ aL:=riE l k,H:=[.box zcv,.box [int 3,int 0,str ⟨#[]⟩,.aU 2 g 0 cs.length],.aN g 4 false (iB cs)] }
theorem aEx(l:List Int)(h0:l.length=0)(h:True):Rq 0 79 0 (aAA l) (bF.exit 0) (sM 23 [(2,.ptr 0 0),(3,.ptr 1 0)] [.box zcv,.box [int 3,int 0,str (ByteArray.mk #[]),aK]]):=by
 have _:=h;exact aG [kN 8 (Go.bH.kD l),kj ((0:Int)<l.length)] (aB 23 [2,3]) 2
theorem aEy(l:List Int)(g:Nat)(cs:List CV)(k:Nat)(h0:l.length<=k)(h:True):Rq 0 79 0 (aBT l g cs k) (bF.exit 0) (sM 23 [(2,.ptr 0 0),(3,.ptr 1 0)] [.box zcv,.box [int 3,int 0,str (ByteArray.mk #[]),.aU 2 g 0 cs.length],.aN g 4 false (iB cs)]):=by
 have _:=h;exact aG [kN 8 (Go.bH.kD l),kj ((k:Int)<l.length)] (aB 23 [2,3]) 3
theorem aIp(l:List Int)(x:Int)(h0:0<l.length)(hx:l[0]?=some x)(hl:l.length<=1000000)(ex:bF)(s':St)(h:Rq 0 79 0 (sM 23 [(0,.sl 1 true (ql l)),(2,.ptr 0 0),(3,.ptr 1 0),(4,int 1)] [.box [int 0,int 0,str (ByteArray.mk #[]),aK],.box [int 3,int 0,str (ByteArray.mk #[]),.aU 2 0 0 1],.aN 0 4 false [[int 1,int x,str y28,.sl 4 false []]]]) ex s'):Rq 0 79 0 (aAA l) ex s':=by
 exact aJ [kN 8 (Go.bH.kD l),ki ((0:Int)<l.length),ke (LW x) (ql l) (0:Int) (bG hx),kc [] (@vo (x)),Qx [int 1,int x,str y28,AV.sl 4 false []],vV 56] (aB 23 [0,2,3,4]) 3 h
theorem aIq(l:List Int)(g:Nat)(cs:List CV)(k:Nat)(x:Int)(h0:k<l.length)(hx:l[k]?=some x)(hl:l.length<=1000000)(jQ:cs.length<=1000000)(ex:bF)(s':St)(h:Rq 0 79 0 (sM 23 [(0,.sl 1 true (ql l)),(2,.ptr 0 0),(3,.ptr 1 0),(4,int ↑(k+1))] [.box [int 0,int 0,str (ByteArray.mk #[]),aK],.box [int 3,int 0,str (ByteArray.mk #[]),.aU 2 (g+1) 0 (length cs+1)],.aN (g+1) 4 false (iB cs++[[int 1,int x,str y28,.sl 4 false []]])]) ex s'):Rq 0 79 0 (aBT l g cs k) ex s':=by
 exact aJ [kN 8 (Go.bH.kD l),ki ((k:Int)<l.length),ke (LW x) (ql l) k (bG hx),kc [] (@vo (x)),kq g,kp (Go.yU.fA cs).symm,vV ((length cs+1)*56),kW 11 (k+1) ↑(k+1)] (aB 23 [0,2,3,4]) 3 h
theorem aBb{l:List Int}{k:Nat}(h:k<l.length):(l.take (k+1)).map lZ=(l.take k).map lZ++[lZ l[k]]:=by
 rw[take_add_one,yA h,map_append];rfl
theorem aDo(l:List Int)(hl:l.length<=1000000):∀(m k g:Nat),l.length-k=m->k<=l.length ->
 ∃g',Rq 0 79 0 (aBT l g ((l.take k).map lZ) k) (.exit 0) { aL:=riX,H:=[.box zcv,.box [int 3,int 0,str ⟨#[]⟩,.aU 2 g' 0 (l.map lZ).length],.aN g' 4 false (iB (l.map lZ))] }:=by
 intro m
 induction m with
 |zero =>
  intro k g hm hk;have e:l.take k=l:=y23 zO;rw[e];exact⟨g,aEy l g _ k zO yO⟩
 |succ m ih =>
  intro k g hm hk;have bg:k<l.length:=zO
  obtain⟨g',h⟩:=ih (k+1) (g+1) zO zO;refine⟨g',aIq l g _ k l[k] bg (yA bg) hl (by simp;omega) _ _ ?_⟩;rw[aBb bg]at h;unfold aBT at h;rw[<- WU,yD]at h;exact h
theorem aJ7(l:List Int)(hl:l.length<=1000000):Rq 0 79 0 (aAA l) (.exit 0) { aL:=riX,H:=[.box zcv,.box (yU.aQ (Jt (l.map lZ)))] } \/
 Rq 0 79 0 (aAA l) (.exit 0) { aL:=riX,H:=[.box zcv,.box (yU.aQ (Jt (l.map lZ))),.aH] }:=by
 by_cases h0:l.length=0
 .have e:l=[]:=y02 h0;refine .inl (bN.qm (aEx l h0 yO) ⟨.inl rfl,.inr ⟨rfl,fun j hj=>?_⟩,yO⟩);subst e
  match j,hj with
  |0,_=>exact y29
  |1,_=>exact y29
  |2,_=>exact y29
  |3,_=>exact aF.nil 4
 .have bg:0<l.length:=zO
  obtain⟨g',h⟩:=aDo l hl (l.length-1) 1 0 rfl zO;have e:(l.take 1).map lZ=[lZ l[0]]:=by simpa using aBb bg
  rw[e]at h;have h1:=aIp l l[0] bg (yA bg) hl _ _ h;have ha:mR [.box zcv,.box [int 3,int 0,str ⟨#[]⟩,.aU 2 g' 0 (l.map lZ).length],.aN g' 4 false (iB (l.map lZ))] (.aU 2 g' 0 (l.map lZ).length) (iB (l.map lZ)) =
   some (.sl 4 false (iB (l.map lZ)),[.box zcv,.box [int 3,int 0,str ⟨#[]⟩,.aU 2 g' 0 (l.map lZ).length],.aN g' 4 true (iB (l.map lZ))],
    [g'=g',List.take (l.map lZ).length (List.drop 0 (iB (l.map lZ)))=iB (l.map lZ),(iB (l.map lZ)).length=(l.map lZ).length,∀c∈iB (l.map lZ),c.all AV.fJ=true]):=rfl
  have h2:=bN.ahI (b:=1) (j:=3) (cells:=[int 3,int 0,str ⟨#[]⟩,.aU 2 g' 0 (l.map lZ).length]) h1 rfl rfl rfl ha ⟨rfl,aa7 _,fA _,WV _,yO⟩;exact .inr (bN.qm h2 ⟨.inl rfl,.inl rfl,.inr yO,yO⟩)
theorem aEz(l:List Int)(cs:List CV)(hL:Rq 0 79 0 (aAA l) (.exit 0) { aL:=aC 23 [(2,.ptr 0 0),(3,.ptr 1 0)],H:=[.box zcv,.box (yU.aQ (Jt cs))] })(h:True):Cq 79 [.sl 1 true (ql l)] (rR 3 0 y28 cs):=by
 have _:=h;exact aj [kl (rG [(1,1),(5,18)]) 2 hL]
theorem aEA(l:List Int)(cs:List CV)(hL:Rq 0 79 0 (aAA l) (.exit 0) { aL:=aC 23 [(2,.ptr 0 0),(3,.ptr 1 0)],H:=[.box zcv,.box (yU.aQ (Jt cs)),.aH] })(h:True):Cq 79 [.sl 1 true (ql l)] (rR 3 0 y28 cs):=by
 have _:=h;exact aj [kl (rG [(1,1),(5,18)]) 2 hL]
theorem aAG(l:List Int)(hl:l.length<=1000000):Cq 79 [.sl 1 true (ql l)] (rR 3 0 .empty (l.map lZ)):=by
 rcases aJ7 l hl with h|h
 .exact aEz l _ h trivial
 .exact aEA l _ h trivial
theorem aAH(a b:Int):Cq 79 [.sl 1 true [[int a],[int b]]] (rR 3 0 .empty [lZ a,lZ b]):=aAG [a,b] zS
theorem aAF(a b c:Int):Cq 79 [.sl 1 true [[int a],[int b],[int c]]] (rR 3 0 .empty [lZ a,lZ b,lZ c]):=aAG [a,b,c] zS
end Go.bV
namespace Go.bH
open Go Go.Am Go.Proofs Go.eY
def fM(a b:List D):Int:=if eZ a=0 then eZ b else eZ a
theorem abE(a b:List D)(ha:a.length<=1000000000)(hb:b.length<=1000000000)(h:(((eZ a=0)->(eZ b:Int)=(fM a b))/\((¬eZ a=0)->(eZ a:Int)=(fM a b)))):Cq 265 [bB a,bB b] (int (fM a b)):=by
 have bS:=(@fG (a) zO);by_cases c1:(eZ a=0)
 .have h:=h.1 c1;exact aA (aF.int_eq h) [kc [] bS,kf (show(eZ a != 0)=false from(y27 (nW.2 c1))),kc [] (@fG (b) zO)]
 .have h:=h.2 c1;exact aA (aF.int_eq h) [kc [] bS,kt (show(eZ a != 0)=true from(y27 (qN.2 c1)))]
theorem PX(a b:List D)(ha:a.length<=1000000000)(hb:b.length<=1000000000):Cq 265 [bB a,bB b] (int (fM a b)) :=
 abE a b ha hb (by unfold fM;exact⟨fun h=>by rw[yL h],fun h=>by rw[yK h]⟩)
def fu(x y:Int):Int:=if y>x then y else x
def rl(f:Nat):AV:=.lit (.func (.func f) #[] #[])
theorem aoM(d x y:Int)(h:True):Cq 410 [AV.agg [int d,int x,int y]] (int (fu x y)):=by
 have _:=h;exact aj [] zQ
theorem alk(d x y:Int):Cq 410 [.agg [int d,int x,int y]] (int (fu x y)):=aoM d x y trivial
def lq:ah:=.iV .ready none (aC 35 [(3,.ptr 3 0),(6,.ptr 4 0)]) #[20] (KP P 199 0) (uT P 199 0)
def q0(f:Nat)(A B:List D):List ah:=[lq,.box [bB A],.box [bB B],.box [rl f],.box [aK]]
def q1(f:Nat)(A B:List D)(g:Nat)(v:List D):List ah:=[lq,.box [bB A],.box [bB B],.box [rl f],.box [.aU 7 g 0 v.length],.aH,.aH,.aN g 2 false (au v)]
def Y0(f:Nat)(tk:Int->Int->Int)(A B:List D)(d x y:Int):Prop :=
 dY P G 0 [.agg [int d,int x,int y]] (q0 f A B++[.box [int d,int x,int y]]) true (if tk x y>0 then q1 f A B 0 [(d,tk x y)]else q0 f A B++[.box [int d,int x,int y]])
def Y1(f:Nat)(tk:Int->Int->Int)(A B v:List D)(g:Nat)(d x y:Int):Prop :=
 dY P G 0 [.agg [int d,int x,int y]] (q1 f A B g v++[.box [int d,int x,int y]]) true (if tk x y>0 then q1 f A B (g+1) (v++[(d,tk x y)])++[.box [int d,int x,int y]]else q1 f A B g v++[.box [int d,int x,int y]])
theorem aeH(A B:List D)(d x y:Int)(b:Bool)(H':List ah)(h:(((fu x y>(0:Int))->(true=b)/\([lq,ah.box [AV.sl 2 false (au A)],ah.box [AV.sl 2 false (au B)],ah.box [AV.lit (Value.func (Fn.func 410) (Array.mk []) (Array.mk []))],ah.box [AV.aU 7 0 0 1],ah.box [int d,int x,int y],ah.box [int d,int x,int y],ah.aN 0 2 false (au [(d,fu x y)])]=H'))/\((¬fu x y>(0:Int))->(true=b)/\([lq,ah.box [AV.sl 2 false (au A)],ah.box [AV.sl 2 false (au B)],ah.box [AV.lit (Value.func (Fn.func 410) (Array.mk []) (Array.mk []))],ah.box [aK],ah.box [int d,int x,int y]]=H')))):dY P G 0 [AV.agg [int d,int x,int y]] (q0 410 A B++[ah.box [int d,int x,int y]]) b H':=by
 have bS:=(@Go.bH.alk (d) (x) (y));by_cases c1:(fu x y>(0:Int))
 .have h:=h.1 c1;obtain⟨e1,e2⟩:=h;exact dY.to ((show dY P G 0 [AV.agg [int d,int x,int y]] (q0 410 A B++[ah.box [int d,int x,int y]]) true [lq,ah.box [AV.sl 2 false (au A)],ah.box [AV.sl 2 false (au B)],ah.box [AV.lit (Value.func (Fn.func 410) (Array.mk []) (Array.mk []))],ah.box [AV.aU 7 0 0 1],ah.box [int d,int x,int y],ah.box [int d,int x,int y],ah.aN 0 2 false (au [(d,fu x y)])]from jI (fun _=>[kc [] bS,kt (y15 c1),kp (show[[int d,int (fu x y)]]≠[]from zS),kp (show 16<=140737488355328 from zO)]) (fun _=>zQ))) e1 e2
 .have h:=h.2 c1;obtain⟨e1,e2⟩:=h;exact dY.to ((show dY P G 0 [AV.agg [int d,int x,int y]] (q0 410 A B++[ah.box [int d,int x,int y]]) true [lq,ah.box [AV.sl 2 false (au A)],ah.box [AV.sl 2 false (au B)],ah.box [AV.lit (Value.func (Fn.func 410) (Array.mk []) (Array.mk []))],ah.box [aK],ah.box [int d,int x,int y]]from jI (fun _=>[kc [] bS,kf (y16 c1)]) (fun _=>zQ))) e1 e2
theorem aeI(A B v:List D)(g:Nat)(d x y:Int)(b:Bool)(H':List ah)(hv:v.length<=3000000000)(h:(((fu x y>(0:Int))->(true=b)/\([lq,ah.box [AV.sl 2 false (au A)],ah.box [AV.sl 2 false (au B)],ah.box [AV.lit (Value.func (Fn.func 410) (Array.mk []) (Array.mk []))],ah.box [AV.aU 7 (g+1) 0 (length (v++[(d,fu x y)]))],ah.aH,ah.aH,ah.aN (g+1) 2 false (au (v++[(d,fu x y)])),ah.box [int d,int x,int y]]=H'))/\((¬fu x y>(0:Int))->(true=b)/\([lq,ah.box [AV.sl 2 false (au A)],ah.box [AV.sl 2 false (au B)],ah.box [AV.lit (Value.func (Fn.func 410) (Array.mk []) (Array.mk []))],ah.box [AV.aU 7 g 0 (length v)],ah.aH,ah.aH,ah.aN g 2 false (au v),ah.box [int d,int x,int y]]=H')))):dY P G 0 [AV.agg [int d,int x,int y]] (q1 410 A B g v++[ah.box [int d,int x,int y]]) b H':=by
 have bS:=(@Go.bH.alk (d) (x) (y));by_cases c1:(fu x y>(0:Int))
 .have h:=h.1 c1;obtain⟨e1,e2⟩:=h;exact dY.to ((show dY P G 0 [AV.agg [int d,int x,int y]] (q1 410 A B g v++[ah.box [int d,int x,int y]]) true [lq,ah.box [AV.sl 2 false (au A)],ah.box [AV.sl 2 false (au B)],ah.box [AV.lit (Value.func (Fn.func 410) (Array.mk []) (Array.mk []))],ah.box [AV.aU 7 (g+1) 0 (length (v++[(d,fu x y)]))],ah.aH,ah.aH,ah.aN (g+1) 2 false (au (v++[(d,fu x y)])),ah.box [int d,int x,int y]]from jI (fun _=>[kc [] bS,kt (y15 c1),ko (bC.hp (some 33) (AV.aU 7 (g+1) 0 (length (v++[(d,fu x y)]))) [ah.iV LoopState.busy none (aC 35 [(3,AV.ptr 3 0),(6,AV.ptr 4 0)]) (Array.mk [20]) (Code.region 5 #[Oper.mk (some 9) (Op.alloc 308) 0 "vector.go:80" #[] none,Oper.mk none (Op.store 308 (Operand.tmp 9) (Operand.tmp 20)) 0 "vector.go:80" #[Edge.mk 0 Ground.data,Edge.mk 0 Ground.phase] none] false) (Code.block 1 (Code.seq (Code.region 6 #[Oper.mk (some 21) (Op.fieldAddr 248 (Operand.tmp 3) 0) 0 "vector.go:81" #[] none,Oper.mk (some 22) (Op.load 246 (Operand.tmp 21)) 246 "vector.go:81" #[Edge.mk 0 Ground.data] none,Oper.mk (some 23) (Op.load 308 (Operand.tmp 9)) 308 "vector.go:81" #[] none,Oper.mk (some 24) (Op.call (Call.mk (Callee.value (Operand.tmp 22)) #[Operand.tmp 23] #[308])) 3 "vector.go:81" #[Edge.mk 1 Ground.data,Edge.mk 2 Ground.data] none,Oper.mk (some 10) (Op.assign (Operand.tmp 24)) 3 "vector.go:81" #[Edge.mk 3 Ground.data,Edge.mk 3 Ground.chain,Edge.mk 0 Ground.phase,Edge.mk 1 Ground.phase,Edge.mk 2 Ground.phase,Edge.mk 3 Ground.phase] none] false) (Code.seq (Code.region 7 #[Oper.mk (some 25) (Op.move (Operand.tmp 10)) 3 "vector.go:81" #[] none,Oper.mk (some 26) (Op.binOp BinOp.gtr 3 (Operand.tmp 25) (Operand.const (Value.int IntKind.i64 0)) 3) 4 "vector.go:81" #[Edge.mk 0 Ground.data] none] false) (Code.cond (Operand.tmp 26) (Code.region 8 #[Oper.mk (some 27) (Op.load 22 (Operand.tmp 6)) 22 "vector.go:82" #[] none,Oper.mk (some 28) (Op.fieldAddr 308 (Operand.tmp 9) 0) 0 "vector.go:82" #[] none,Oper.mk (some 29) (Op.load 3 (Operand.tmp 28)) 3 "vector.go:82" #[Edge.mk 1 Ground.data] none,Oper.mk (some 30) (Op.move (Operand.tmp 10)) 3 "vector.go:82" #[] none,Oper.mk (some 31) (Op.build 27 #[(0,Operand.tmp 29),(1,Operand.tmp 30)]) 27 "vector.go:82" #[Edge.mk 2 Ground.data,Edge.mk 3 Ground.data] none,Oper.mk (some 32) (Op.buildSlice 22 1 #[(0,Operand.tmp 31)]) 22 "vector.go:82" #[Edge.mk 4 Ground.data] none,Oper.mk (some 33) (Op.call (Call.mk (Callee.builtin Builtin.append) #[Operand.tmp 27,Operand.tmp 32] #[22,22])) 22 "vector.go:82" #[Edge.mk 0 Ground.data,Edge.mk 5 Ground.data] none,Oper.mk none (Op.store 22 (Operand.tmp 6) (Operand.tmp 33)) 0 "vector.go:82" #[Edge.mk 6 Ground.data,Edge.mk 6 Ground.chain,Edge.mk 0 Ground.phase,Edge.mk 1 Ground.phase,Edge.mk 2 Ground.phase,Edge.mk 3 Ground.phase,Edge.mk 4 Ground.phase,Edge.mk 5 Ground.phase,Edge.mk 6 Ground.phase] none] false) Code.skip)))),ah.box [AV.sl 2 false (au A)],ah.box [AV.sl 2 false (au B)],ah.box [AV.lit (Value.func (Fn.func 410) (Array.mk []) (Array.mk []))],ah.box [AV.aU 7 g 0 (length v)],ah.aH,ah.aH,ah.aN (g+1) 2 false (au (v++[(d,fu x y)])),ah.box [int d,int x,int y],ah.box [int d,int x,int y]]),kp (show Am.aF (AV.aU 7 (g+1) 0 (length v+1)) (AV.aU 7 (g+1) 0 (length (v++[(d,fu x y)])))from(aF.of_eq (by simp[Go.bH.ay,Go.bH.bJ]))),kp (show Am.HSub [ah.iV LoopState.busy none (aC 35 [(3,AV.ptr 3 0),(6,AV.ptr 4 0)]) (Array.mk [20]) (Code.region 5 #[Oper.mk (some 9) (Op.alloc 308) 0 "vector.go:80" #[] none,Oper.mk none (Op.store 308 (Operand.tmp 9) (Operand.tmp 20)) 0 "vector.go:80" #[Edge.mk 0 Ground.data,Edge.mk 0 Ground.phase] none] false) (Code.block 1 (Code.seq (Code.region 6 #[Oper.mk (some 21) (Op.fieldAddr 248 (Operand.tmp 3) 0) 0 "vector.go:81" #[] none,Oper.mk (some 22) (Op.load 246 (Operand.tmp 21)) 246 "vector.go:81" #[Edge.mk 0 Ground.data] none,Oper.mk (some 23) (Op.load 308 (Operand.tmp 9)) 308 "vector.go:81" #[] none,Oper.mk (some 24) (Op.call (Call.mk (Callee.value (Operand.tmp 22)) #[Operand.tmp 23] #[308])) 3 "vector.go:81" #[Edge.mk 1 Ground.data,Edge.mk 2 Ground.data] none,Oper.mk (some 10) (Op.assign (Operand.tmp 24)) 3 "vector.go:81" #[Edge.mk 3 Ground.data,Edge.mk 3 Ground.chain,Edge.mk 0 Ground.phase,Edge.mk 1 Ground.phase,Edge.mk 2 Ground.phase,Edge.mk 3 Ground.phase] none] false) (Code.seq (Code.region 7 #[Oper.mk (some 25) (Op.move (Operand.tmp 10)) 3 "vector.go:81" #[] none,Oper.mk (some 26) (Op.binOp BinOp.gtr 3 (Operand.tmp 25) (Operand.const (Value.int IntKind.i64 0)) 3) 4 "vector.go:81" #[Edge.mk 0 Ground.data] none] false) (Code.cond (Operand.tmp 26) (Code.region 8 #[Oper.mk (some 27) (Op.load 22 (Operand.tmp 6)) 22 "vector.go:82" #[] none,Oper.mk (some 28) (Op.fieldAddr 308 (Operand.tmp 9) 0) 0 "vector.go:82" #[] none,Oper.mk (some 29) (Op.load 3 (Operand.tmp 28)) 3 "vector.go:82" #[Edge.mk 1 Ground.data] none,Oper.mk (some 30) (Op.move (Operand.tmp 10)) 3 "vector.go:82" #[] none,Oper.mk (some 31) (Op.build 27 #[(0,Operand.tmp 29),(1,Operand.tmp 30)]) 27 "vector.go:82" #[Edge.mk 2 Ground.data,Edge.mk 3 Ground.data] none,Oper.mk (some 32) (Op.buildSlice 22 1 #[(0,Operand.tmp 31)]) 22 "vector.go:82" #[Edge.mk 4 Ground.data] none,Oper.mk (some 33) (Op.call (Call.mk (Callee.builtin Builtin.append) #[Operand.tmp 27,Operand.tmp 32] #[22,22])) 22 "vector.go:82" #[Edge.mk 0 Ground.data,Edge.mk 5 Ground.data] none,Oper.mk none (Op.store 22 (Operand.tmp 6) (Operand.tmp 33)) 0 "vector.go:82" #[Edge.mk 6 Ground.data,Edge.mk 6 Ground.chain,Edge.mk 0 Ground.phase,Edge.mk 1 Ground.phase,Edge.mk 2 Ground.phase,Edge.mk 3 Ground.phase,Edge.mk 4 Ground.phase,Edge.mk 5 Ground.phase,Edge.mk 6 Ground.phase] none] false) Code.skip)))),ah.box [AV.sl 2 false (au A)],ah.box [AV.sl 2 false (au B)],ah.box [AV.lit (Value.func (Fn.func 410) (Array.mk []) (Array.mk []))],ah.box [AV.aU 7 g 0 (length v)],ah.aH,ah.aH,ah.aN (g+1) 2 false (au v++[[int d,int (fu x y)]]),ah.box [int d,int x,int y],ah.box [int d,int x,int y]] [ah.iV LoopState.busy none (aC 35 [(3,AV.ptr 3 0),(6,AV.ptr 4 0)]) (Array.mk [20]) (Code.region 5 #[Oper.mk (some 9) (Op.alloc 308) 0 "vector.go:80" #[] none,Oper.mk none (Op.store 308 (Operand.tmp 9) (Operand.tmp 20)) 0 "vector.go:80" #[Edge.mk 0 Ground.data,Edge.mk 0 Ground.phase] none] false) (Code.block 1 (Code.seq (Code.region 6 #[Oper.mk (some 21) (Op.fieldAddr 248 (Operand.tmp 3) 0) 0 "vector.go:81" #[] none,Oper.mk (some 22) (Op.load 246 (Operand.tmp 21)) 246 "vector.go:81" #[Edge.mk 0 Ground.data] none,Oper.mk (some 23) (Op.load 308 (Operand.tmp 9)) 308 "vector.go:81" #[] none,Oper.mk (some 24) (Op.call (Call.mk (Callee.value (Operand.tmp 22)) #[Operand.tmp 23] #[308])) 3 "vector.go:81" #[Edge.mk 1 Ground.data,Edge.mk 2 Ground.data] none,Oper.mk (some 10) (Op.assign (Operand.tmp 24)) 3 "vector.go:81" #[Edge.mk 3 Ground.data,Edge.mk 3 Ground.chain,Edge.mk 0 Ground.phase,Edge.mk 1 Ground.phase,Edge.mk 2 Ground.phase,Edge.mk 3 Ground.phase] none] false) (Code.seq (Code.region 7 #[Oper.mk (some 25) (Op.move (Operand.tmp 10)) 3 "vector.go:81" #[] none,Oper.mk (some 26) (Op.binOp BinOp.gtr 3 (Operand.tmp 25) (Operand.const (Value.int IntKind.i64 0)) 3) 4 "vector.go:81" #[Edge.mk 0 Ground.data] none] false) (Code.cond (Operand.tmp 26) (Code.region 8 #[Oper.mk (some 27) (Op.load 22 (Operand.tmp 6)) 22 "vector.go:82" #[] none,Oper.mk (some 28) (Op.fieldAddr 308 (Operand.tmp 9) 0) 0 "vector.go:82" #[] none,Oper.mk (some 29) (Op.load 3 (Operand.tmp 28)) 3 "vector.go:82" #[Edge.mk 1 Ground.data] none,Oper.mk (some 30) (Op.move (Operand.tmp 10)) 3 "vector.go:82" #[] none,Oper.mk (some 31) (Op.build 27 #[(0,Operand.tmp 29),(1,Operand.tmp 30)]) 27 "vector.go:82" #[Edge.mk 2 Ground.data,Edge.mk 3 Ground.data] none,Oper.mk (some 32) (Op.buildSlice 22 1 #[(0,Operand.tmp 31)]) 22 "vector.go:82" #[Edge.mk 4 Ground.data] none,Oper.mk (some 33) (Op.call (Call.mk (Callee.builtin Builtin.append) #[Operand.tmp 27,Operand.tmp 32] #[22,22])) 22 "vector.go:82" #[Edge.mk 0 Ground.data,Edge.mk 5 Ground.data] none,Oper.mk none (Op.store 22 (Operand.tmp 6) (Operand.tmp 33)) 0 "vector.go:82" #[Edge.mk 6 Ground.data,Edge.mk 6 Ground.chain,Edge.mk 0 Ground.phase,Edge.mk 1 Ground.phase,Edge.mk 2 Ground.phase,Edge.mk 3 Ground.phase,Edge.mk 4 Ground.phase,Edge.mk 5 Ground.phase,Edge.mk 6 Ground.phase] none] false) Code.skip)))),ah.box [AV.sl 2 false (au A)],ah.box [AV.sl 2 false (au B)],ah.box [AV.lit (Value.func (Fn.func 410) (Array.mk []) (Array.mk []))],ah.box [AV.aU 7 g 0 (length v)],ah.aH,ah.aH,ah.aN (g+1) 2 false (au (v++[(d,fu x y)])),ah.box [int d,int x,int y],ah.box [int d,int x,int y]]from(⟨.inl rfl,.inl rfl,.inl rfl,.inl rfl,.inl rfl,.inl rfl,.inl rfl,.inl (by simp only[Go.bH.gy,Go.bH.sN]),.inl rfl,.inl rfl,yO⟩)),kp (show g=g from(rfl)),kp (show length v=length (au v)from((Go.bH.ay _).symm)),kp (show(length v+1)*16<=140737488355328 from zO),kp (show ∀(x_1:List AV),x_1∈au (v++[(d,fu x y)])->AV.aM [] x_1=true from(Go.bH.bJ _))]) (fun _=>zQ))) e1 e2
 .have h:=h.2 c1;obtain⟨e1,e2⟩:=h;exact dY.to ((show dY P G 0 [AV.agg [int d,int x,int y]] (q1 410 A B g v++[ah.box [int d,int x,int y]]) true [lq,ah.box [AV.sl 2 false (au A)],ah.box [AV.sl 2 false (au B)],ah.box [AV.lit (Value.func (Fn.func 410) (Array.mk []) (Array.mk []))],ah.box [AV.aU 7 g 0 (length v)],ah.aH,ah.aH,ah.aN g 2 false (au v),ah.box [int d,int x,int y]]from jI (fun _=>[kc [] bS,kf (y16 c1),kp (show ∀(x:List AV),x∈au v->AV.aM [] x=true from(Go.bH.bJ _))]) (fun _=>zQ))) e1 e2
theorem gy0(A B:List D)(d x y:Int):Y0 410 fu A B d x y:=by
 unfold Y0;by_cases h:fu x y>0
 .rw [yL h];exact dY.pY (aeH A B d x y true _ ⟨fun _=>⟨rfl,rfl⟩,fun h'=>absurd h h'⟩) ⟨.inl rfl,.inl rfl,.inl rfl,.inl rfl,.inl rfl,.inr yO,.inr yO,.inl rfl,yO⟩
 .rw [yK h];exact aeH A B d x y true _ ⟨fun h'=>absurd h' h,fun _=>⟨rfl,rfl⟩⟩
theorem gy1(A B v:List D)(g:Nat)(d x y:Int)(hv:v.length<=3000000000):Y1 410 fu A B v g d x y:=by
 unfold Y1;by_cases h:fu x y>0
 .rw [yL h];exact aeI A B v g d x y true _ hv ⟨fun _=>⟨rfl,rfl⟩,fun h'=>absurd h h'⟩
 .rw [yK h];exact aeI A B v g d x y true _ hv ⟨fun h'=>absurd h' h,fun _=>⟨rfl,rfl⟩⟩
theorem ac6(a b:List D)(h:True):ak P G 266 [bB a,bB b] [] (aS.ret (AV.fn (Fn.func 293) [] [AV.ptr 0 0,AV.ptr 1 0])) [ah.box [bB a],ah.box [bB b]]:=by
 have _:=h;exact aj [] zQ
theorem ac7(a b:List D):ak P G 266 [bB a,bB b] [] (.ret (.fn (.func 293) [] [.ptr 0 0,.ptr 1 0])) [.box [bB a],.box [bB b]]:=ac6 a b trivial
def PV(f:Nat)(A B:List D):St:={ aL:=aC 91 [(0,.yl 0),(1,.ptr 1 0),(2,.ptr 2 0)],H:=q0 f A B }
def K8(f:Nat)(A B:List D)(g:Nat)(v:List D):St:={ aL:=aC 91 [(0,.yl 0),(1,.ptr 1 0),(2,.ptr 2 0)],H:=q1 f A B g v }
section
variable (f:Nat) (tk:Int->Int->Int)
 (hy0:∀A B d x y,dY P G 0 [.agg [int d,int x,int y]] (q0 f A B++[.box [int d,int x,int y]]) true (if tk x y>0 then q1 f A B 0 [(d,tk x y)]else q0 f A B++[.box [int d,int x,int y]]))
 (hy1:∀A B v g d x y,v.length<=3000000000->dY P G 0 [.agg [int d,int x,int y]] (q1 f A B g v++[.box [int d,int x,int y]]) true (if tk x y>0 then q1 f A B (g+1) (v++[(d,tk x y)])++[.box [int d,int x,int y]]else q1 f A B g v++[.box [int d,int x,int y]]))
 include hy1
end
theorem aoP(a b:List D)(ha:a.length<=1000000000)(hb:b.length<=1000000000)(he:¬fM a b=0)(f:Nat)(h:True):Cq 199 [.agg [rl f],bB a,bB b] (.bq [bB [],int (fM a b)]):=by
 exact ak.out ((show Cq 199 [.agg [rl f],bB a,bB b] (.bq [aK,int (fM a b)])from aj [kc [] (@PX (a) (b) zO zO),kt (show(fM a b != 0)=true from(y27 (qF zO)))])) (aF.iM ⟨(aF.nil _),y29,yO⟩)
theorem alq(f:Nat)(a b:List D)(ha:a.length<=1000000000)(hb:b.length<=1000000000)(he:¬fM a b=0):Cq 199 [.agg [rl f],bB a,bB b] (.bq [bB [],int (fM a b)]):=aoP a b ha hb he f trivial
end Go.bH
namespace Go.bV
open Go Go.Am Go.Proofs Go.eY Go.bH Go.yU
def zK:AV:=.lit (.agg #[.int .i64 0,.nilFunc])
theorem Sm k(h : -9223372036854775808<=k/\k<9223372036854775808):∃l,keyOf P 3 (.int .i64 k)=some l :=
 ⟨_,Maps.keyOf_int_mk Tryz.underlying3 (by simp[Lit.wf,IntKind.min,IntKind.signed,IntKind.bits];omega)⟩
theorem PY:∀e∈iF,∃l,keyOf P 3 e.1=some l:=by
 intro e he;simp only[iF,yH,y12,or_false]at he;rcases he with rfl|rfl|rfl|rfl|rfl|rfl|rfl|rfl<;>exact Sm _ zD
def partOf(k:Int):Int:=if k=1\/k=2 then 1 else if k=3\/k=4 then 2 else if k=5 then 3 else if k=6\/k=7\/k=8 then 4 else 0
theorem kg{k p}{f}(hk : -9223372036854775808<=k/\k<9223372036854775808)(h:(.int .i64 k,.agg [int p,gP f])∈iF):bT P 3 iF (.int .i64 k) zK (.agg [int p,gP f]) true :=
 ⟨Maps.int_keyed Tryz.underlying3,Sm k hk,PY,.inl ⟨rfl,h⟩⟩
theorem kg1:bT P 3 iF (.int .i64 1) zK (.agg [int 1,gP 400]) true:=kg zD (by simp[iF])
theorem kg2:bT P 3 iF (.int .i64 2) zK (.agg [int 1,gP 402]) true:=kg zD (by simp[iF])
theorem aoR(o:OP)(l:List D)(f:Int)(hw:Cq 28 [aK,eG (o.dv,o.sq)] (.bq [bB l,int f]))(hf:¬f=0)(h:True):Cq 25 [op o] (int 170):=by
 exact aj [kc [] hw,kt (y27 (qF zO)),kO,kO,kO,kO]
theorem aoS(o:OP)(l:List D)(hw:Cq 28 [aK,eG (o.dv,o.sq)] (.bq [bB l,int 0]))(ht:o.tm<1)(h:True):Cq 25 [op o] (int 170):=by
 exact aj [kc [] hw,kY,ki (o.tm<1),kO,kO,kO]
theorem aoT(o:OP)(l:List D)(hw:Cq 28 [aK,eG (o.dv,o.sq)] (.bq [bB l,int 0]))(ht:1<=o.tm)(ht2:1099511627776<o.tm)(h:True):Cq 25 [op o] (int 170):=by
 exact aj [kc [] hw,kY,kj (o.tm<1),ki (o.tm>1099511627776),kO,kO]
theorem F9(o:OP)(l:List D)(f:Int)(hw:Cq 28 [aK,eG (o.dv,o.sq)] (.bq [bB l,int 0]))(ht:1<=o.tm)(ht2:o.tm<=1099511627776)(hv:Cq 61 [bB o.cx] (int f))(hf:¬f=0)(h:True):Cq 25 [op o] (int 170):=by
 exact aj [kc [] hw,kY,kj (o.tm<1),kj (o.tm>1099511627776),kc [] hv,kt (y27 (qF zO)),kO]
theorem jg(o:OP)(l:List D)(hw:Cq 28 [aK,eG (o.dv,o.sq)] (.bq [bB l,int 0]))(ht:1<=o.tm)(ht2:o.tm<=1099511627776)(hv:Cq 61 [bB o.cx] (int 0))(hc:Cq 27 [bB o.cx,eG (o.dv,o.sq)] (bool true))(h:True):Cq 25 [op o] (int 170):=by
 exact aj [kc [] hw,kY,kj (o.tm<1),kj (o.tm>1099511627776),kc [] hv,kY,kc [] hc,kO]
theorem PZ{k p:Int}{F:Nat}(hF:k=1/\F=400\/k=2/\F=402\/k=3/\F=404\/k=4/\F=405\/k=5/\F=406\/k=6/\F=407\/k=7/\F=408\/k=8/\F=409)(hM:bT P 3 iF (.int .i64 k) zK (.agg [int p,gP F]) true)(o:OP)(l:List D)(b:Bool)(v:Int)(hcx:o.cx.length<=1000000000)(hw:Cq 28 [aK,eG (o.dv,o.sq)] (.bq [bB l,int 0]))(ht:1<=o.tm)(ht2:o.tm<=1099511627776)(hv:Cq 61 [bB o.cx] (int 0))(hc:Cq 27 [bB o.cx,eG (o.dv,o.sq)] (bool false))(hk:Cq F [Ki o k] (bool b))(hr:Cq 94 [Ki o k] (op (mQ o k)))(hs:Cq 93 [op (mQ o k),op Kj] (bool (decide (mQ o k=Kj))))(h:(((o.pk=p)->((((↑(ByteArray.size o.pn):Int)>64)->170=v)/\((¬(↑(ByteArray.size o.pn):Int)>64)->((((b)=true)->(((mQ o k=Kj)->0=v)/\((¬mQ o k=Kj)->170=v)))/\(((b)=false)->170=v)))))/\((¬o.pk=p)->170=v))):Cq 25 [Ki o k] (int v):=by
 let x0:AV:=AV.agg [int p,gP F];let r0:=mQ o k;rcases hF with⟨rfl,rfl⟩|⟨rfl,rfl⟩|⟨rfl,rfl⟩|⟨rfl,rfl⟩|⟨rfl,rfl⟩|⟨rfl,rfl⟩|⟨rfl,rfl⟩|⟨rfl,rfl⟩
 all_goals
  have fT:decide (o.tm<1)=false:=(qF zO);have jw:decide (o.tm>1099511627776)=false:=(qF zO);have PW:Cq 93 [.agg [int (OP.dv (r0)),int (OP.sq (r0)),int (OP.tm (r0)),.sl 2 false [],int (OP.pk (r0)),str (OP.pn (r0)),int (OP.kd (r0)),int (OP.f1 (r0)),int (OP.f2 (r0)),int (OP.f3 (r0)),int (OP.t1 (r0)),int (OP.t2 (r0)),int (OP.t3 (r0)),str (OP.ky (r0)),str (OP.vl (r0)),int (OP.n (r0)),Am.bool (OP.on (r0))],.agg [int 0,int 0,int 0,aK,int 0,str (ByteArray.mk #[]),int 0,int 0,int 0,int 0,int 0,int 0,int 0,str (ByteArray.mk #[]),str (ByteArray.mk #[]),int 0,Am.bool false]] (Am.bool (decide (r0=Kj))):=(ak.qp hs ⟨y29,aF.qo ⟨y29,y29,y29,(aF.nil _),y29,y29,y29,y29,y29,y29,y29,y29,y29,y29,y29,y29,y29,yO⟩,yO⟩);by_cases c3:(o.pk=p)
  .have h:=h.1 c3;have OG:(o.pk != p)=false:=(y27 (nW.2 c3));by_cases c4:((↑(ByteArray.size o.pn):Int)>64)
   .have h:=h.1 c4;exact aA (aF.int_eq h) [kc [] hw,kY,kf fT,kf jw,kc [] hv,kY,kc [] hc,kY,ko (bC.lJ x0 true),kp hM,kY,kf OG,kt (qT c4),kO,kO]
   .have h:=h.2 c4;rcases y00 ((b))with c5|c5
    .have h:=h.1 c5;have Qy:(!b)=false:=(y27 (c5));by_cases c6:(r0=Kj)
     .have h:=h.1 c6;exact aA (aF.int_eq h) [kc [] hw,kY,kf fT,kf jw,kc [] hv,kY,kc [] hc,kY,ko (bC.lJ x0 true),kp hM,kY,kf OG,kf (qF c4),kc [] hk,kf Qy,kc [] hr,kc [] PW,kf (show(!decide (r0=Kj))=false from(y27 (qT c6)))]
     .have h:=h.2 c6;exact aA (aF.int_eq h) [kc [] hw,kY,kf fT,kf jw,kc [] hv,kY,kc [] hc,kY,ko (bC.lJ x0 true),kp hM,kY,kf OG,kf (qF c4),kc [] hk,kf Qy,kc [] hr,kc [] PW,kt (show(!decide (r0=Kj))=true from(y27 (qF c6)))]
    .have h:=h.2 c5;exact aA (aF.int_eq h) [kc [] hw,kY,kf fT,kf jw,kc [] hv,kY,kc [] hc,kY,ko (bC.lJ x0 true),kp hM,kY,kf OG,kf (qF c4),kc [] hk,kt (show(!b)=true from(y27 (c5))),kO]
  .have h:=h.2 c3;exact aA (aF.int_eq h) [kc [] hw,kY,kf fT,kf jw,kc [] hv,kY,kc [] hc,kY,ko (bC.lJ x0 true),kp hM,kY,kt (show(o.pk != p)=true from(y27 (qN.2 c3))),kO,kO,kO]
structure Okn(o:OP):Prop where
 cx:o.cx.length<=1000000000
 kd : -9223372036854775808<=o.kd/\o.kd<9223372036854775808
 f3 : -9223372036854775808<=o.f3/\o.f3<9223372036854775808
def qW(o:OP):Bool:=gQ (o.dv,o.sq)&&decide (o.tm>=1)&&decide (o.tm<=1099511627776)&&Cw o.cx && !cZ o.cx (o.dv,o.sq)
def aat(o:OP):Bool:=decide (o.pk=partOf o.kd)&&decide ((o.pn.size:Int)<=64)&&dO o o.kd&&decide (mQ o o.kd=Kj)
def rM(o:OP):Bool:=qW o&&decide (1<=o.kd)&&decide (o.kd<=8)&&aat o
def lM(o:OP):Int:=if rM o=true then 0 else 170
theorem zY(o:OP)(k:Int)(b:Bool)(hb:b=dO o k)(hk:o.kd=k)(hs:qW o=true)(h1:1<=k)(h8:k<=8)(h:∀v,(((o.pk=partOf k->((((o.pn.size:Int)>64->170=v)/\(¬(o.pn.size:Int)>64->((b=true->((mQ o k=Kj->0=v)/\(¬mQ o k=Kj->170=v)))/\(b=false->170=v))))))/\(¬o.pk=partOf k->170=v)))->Cq 25 [Ki o k] (int v)) :
 Cq 25 [op o] (int (lM o)):=by
 rw[<- ag3 o k hk];apply h;subst hk hb;have e:rM o=aat o:=by simp[rM,hs,h1,h8]
 unfold lM;rw[e];unfold aat;refine⟨fun a=>⟨fun b=>?_,fun b=>⟨fun c=>⟨fun d=>?_,fun d=>?_⟩,fun c=>?_⟩⟩,fun a=>?_⟩
 .grind
 .rw [yL];simp only[y04,y05];exact⟨⟨⟨a,zO⟩,c⟩,d⟩
 .rw [yK];intro hq;simp only[y04,y05]at hq;exact d hq.2
 .rw [yK];intro hq;simp only[y04,y05]at hq;rw[c]at hq;exact absurd hq.1.2 zD
 .rw [yK];intro hq;simp only[y04,y05]at hq;exact a hq.1.1.1
theorem aav(o:OP)k:(mQ o k).cx=[]:=by unfold mQ;split<;>rfl
theorem nO(o:OP)(k:Int):Cq 93 [op (mQ o k),op Kj] (bool (decide (mQ o k=Kj))):=zG _ _ (by rw[aav];simp)
theorem K9(o:OP)(h:rM o=false)(hc:Cq 25 [op o] (int 170)):Cq 25 [op o] (int (lM o)):=by grind[lM]
end Go.bV
namespace Go.yU
open Go Go.Am Go.Proofs Go.eY
theorem axf{l:List UInt8}(hl:l.length<=1000000000)(h:adl l=0):wf (aaw l)=true/\dp (aaw l)<=16/\QG (aaw l)/\gT (aaw l)=l:=by
 have hb:adn l=true:=by
  cases hq:adn l with
  |true=>rfl
  |false=>simp[adl,hq]at h
 have hb':=hb;simp only[adn,y04,isEmpty_iff]at hb';have hg:=azV 16 l hl hb'.1;have e:aaw l=(P5 16 l).2.1:=by simp[aaw,hb]
 rw[e];refine⟨hg.wf,hg.dp,hg.ok,?_⟩;have:=hg.eq;rw[hb'.2,y19]at this;exact this.symm
end Go.yU
namespace Go.bV
open Go Go.Am Go.Proofs Go.eY Go.bH Go.yU
abbrev Sv(n:Int):Prop := -9223372036854775808<=n/\n<9223372036854775808
structure Fw(o:OP):Prop where
 dv:Sv o.dv
 sq:Sv o.sq
 tm:Sv o.tm
 cx:∀d∈o.cx,Sv d.1/\Sv d.2
 pk:Sv o.pk
 kd:Sv o.kd
 f1:Sv o.f1
 f2:Sv o.f2
 f3:Sv o.f3
 t1:Sv o.t1
 t2:Sv o.t2
 t3:Sv o.t3
 n:Sv o.n
end Go.bV
namespace Go.Dc
open Go Go.Am Go.Proofs Go.eY Go.bH
open Go.bV (OP jy Sv Fw)
open Go.Sq (CE)
open Go.Bd (BE)
open Go.Tx (MK)
theorem ayY:Tryz.prog.cellsOf 3=1:=zQ
theorem ays:Tryz.prog.cellsOf 4=1:=zQ
theorem ax8:Tryz.prog.cellsOf 9=1:=zQ
theorem ax9:Tryz.prog.cellsOf 27=2:=zQ
theorem ayt:Tryz.prog.cellsOf 22=1:=zQ
theorem axS:Tryz.prog.cellsOf 29=2:=zQ
theorem zID:Tryz.prog.cellsOf 31=3:=zQ
theorem awW:Tryz.prog.cellsOf 79=9:=zQ
theorem aya:Tryz.prog.cellsOf 60=1:=zQ
theorem awX:Tryz.prog.cellsOf 75=5:=zQ
theorem ayb:Tryz.prog.cellsOf 61=1:=zQ
theorem ayc:Tryz.prog.cellsOf 113=3:=zQ
theorem ayu:Tryz.prog.cellsOf 62=1:=zQ
theorem awY:Tryz.prog.cellsOf 116=11:=zQ
theorem ayd:Tryz.prog.cellsOf 63=1:=zQ
theorem ayv:Tryz.prog.cellsOf 65=2:=zQ
theorem avO:Tryz.prog.cellsOf 67=7:=zQ
theorem axK:Tryz.prog.cellsOf 23=1:=zQ
theorem ayZ:Tryz.prog.cellsOf 25=2:=zQ
noncomputable def NK:zA Tryz.prog 3 Int:=zA.int Tryz.underlying3 ayY
noncomputable def ahE:zA Tryz.prog 9 yP:=zA.str Tryz.underlying9 ax8
noncomputable def alT:zA Tryz.prog 4 Bool:=zA.bool Tryz.underlying4 ays
noncomputable def alU:zA Tryz.prog 27 D:=zA.struct Tryz.underlying27 zQ (oM.cons NK rfl (oM.cons NK zQ oM.nil)) (fun a=>(a.1,a.2.1)) bH.aQ (fun _=>rfl) (fun _=>ax9.symm)
noncomputable def ahF:zA Tryz.prog 22 (List D):=zA.slice Tryz.underlying22 ayt (by rw[ax9];decide) alU
theorem aa0(v:List D):ahF.aQ v=[bB v]:=by
 show[AV.sl (Tryz.prog.cellsOf 27) false (v.map bH.aQ)]=[AV.sl 2 false (v.map bH.aQ)];rw[ax9]
noncomputable def alV:zA Tryz.prog 29 (Int×yP):=zA.struct Tryz.underlying29 zQ (oM.cons NK rfl (oM.cons ahE zQ oM.nil)) (fun a=>(a.1,a.2.1)) (fun a=>[Am.int a.1,Am.str a.2]) (fun _=>rfl) (fun _=>axS.symm)
noncomputable def kID:zA Tryz.prog 31 (Int×Int×Int):=zA.struct Tryz.underlying31 zQ (oM.cons NK rfl (oM.cons NK zQ (oM.cons NK zQ oM.nil))) (fun a=>(a.1,a.2.1,a.2.2.1)) (fun a=>[Am.int a.1,Am.int a.2.1,Am.int a.2.2]) (fun _=>rfl) (fun _=>zID.symm)
abbrev ACl:=(Int×Int×Int)×(Int×Int×Int)×Int×yP×Bool×Unit
noncomputable def axT:zA Tryz.prog 79 CE:=zA.struct Tryz.underlying79 zQ (oM.cons kID rfl (oM.cons kID zQ (oM.cons NK zQ (oM.cons ahE zQ (oM.cons alT zQ oM.nil)))))
 (fun a:ACl=>⟨a.1.1,a.1.2.1,a.1.2.2,a.2.1.1,a.2.1.2.1,a.2.1.2.2,a.2.2.1,a.2.2.2.1,a.2.2.2.2.1⟩) Sq.aQ (fun a:ACl=>rfl) (fun _=>awW.symm)
noncomputable def aq0:zA Tryz.prog 60 (List CE):=zA.slice Tryz.underlying60 aya (by rw[awW];decide) axT
theorem aq1(v:List CE):aq0.aQ v=[Sq.bZ v]:=by
 show[AV.sl (Tryz.prog.cellsOf 79) false (v.map Sq.aQ)]=[AV.sl 9 false (v.map Sq.aQ)];rw[awW]
abbrev ABd:=yP×D×Int×yP×Unit
noncomputable def axU:zA Tryz.prog 75 BE:=zA.struct Tryz.underlying75 zQ (oM.cons ahE rfl (oM.cons alU zQ (oM.cons NK zQ (oM.cons ahE zQ oM.nil))))
 (fun a:ABd=>⟨a.1,a.2.1.1,a.2.1.2,a.2.2.1,a.2.2.2.1⟩) Bd.aQ (fun a:ABd=>rfl) (fun _=>awX.symm)
noncomputable def avP:zA Tryz.prog 61 (List BE):=zA.slice Tryz.underlying61 ayb (by rw[awX];decide) axU
theorem avQ(v:List BE):avP.aQ v=[Bd.iK v]:=by
 show[AV.sl (Tryz.prog.cellsOf 75) false (v.map Bd.aQ)]=[AV.sl 5 false (v.map Bd.aQ)];rw[awX]
noncomputable def ayw:zA Tryz.prog 113 TL:=zA.struct Tryz.underlying113 zQ (oM.cons NK rfl (oM.cons NK zQ (oM.cons NK zQ oM.nil))) (fun a=>(a.1,a.2.1,a.2.2.1)) ze (fun _=>rfl) (fun _=>ayc.symm)
noncomputable def awZ:zA Tryz.prog 62 (List TL):=zA.slice Tryz.underlying62 ayu (by rw[ayc];decide) ayw
theorem awi(v:List TL):awZ.aQ v=[mF v]:=by
 show[AV.sl (Tryz.prog.cellsOf 113) false (v.map ze)]=[AV.sl 3 false (v.map ze)];rw[ayc]
abbrev AMk:=D×Int×(Int×Int×Int)×(Int×Int×Int)×Int×Bool×Unit
noncomputable def axV:zA Tryz.prog 116 MK:=zA.struct Tryz.underlying116 zQ (oM.cons alU rfl (oM.cons NK zQ (oM.cons kID zQ (oM.cons kID zQ (oM.cons NK zQ (oM.cons alT zQ oM.nil))))))
 (fun a:AMk=>⟨a.1.1,a.1.2,a.2.1,a.2.2.1.1,a.2.2.1.2.1,a.2.2.1.2.2,a.2.2.2.1.1,a.2.2.2.1.2.1,a.2.2.2.1.2.2,a.2.2.2.2.1,a.2.2.2.2.2.1⟩) Tx.aQ (fun a:AMk=>rfl) (fun _=>awY.symm)
noncomputable def avR:zA Tryz.prog 63 (List MK):=zA.slice Tryz.underlying63 ayd (by rw[awY];decide) axV
theorem avS(v:List MK):avR.aQ v=[Tx.oI v]:=by
 show[AV.sl (Tryz.prog.cellsOf 116) false (v.map Tx.aQ)]=[AV.sl 11 false (v.map Tx.aQ)];rw[awY]
abbrev ATx:=List CE×List MK×Unit
noncomputable def ayx:zA Tryz.prog 65 (List CE×List MK):=zA.struct Tryz.underlying65 zQ (oM.cons aq0 rfl (oM.cons avR zQ oM.nil)) (fun a:ATx=>(a.1,a.2.1)) (fun t=>[Sq.bZ t.1,Tx.oI t.2]) (fun a:ATx=>by
 show[Sq.bZ a.1,Tx.oI a.2.1]=aq0.aQ a.1++(avR.aQ a.2.1++[]);rw[aq1,avS];rfl) (fun _=>ayv.symm)
abbrev AFd:=(Int×yP)×List CE×List BE×List TL×(List CE×List MK)×Unit
noncomputable def aw0:zA Tryz.prog 67 FD:=zA.struct Tryz.underlying67 zQ (oM.cons alV rfl (oM.cons aq0 zQ (oM.cons avP zQ (oM.cons awZ zQ (oM.cons ayx zQ oM.nil)))))
 (fun a:AFd=>⟨a.1.1,a.1.2,a.2.1,a.2.2.1,a.2.2.2.1,a.2.2.2.2.1.1,a.2.2.2.2.1.2⟩) jB (fun a:AFd=>by
  show jB _=[Am.int a.1.1,Am.str a.1.2]++(aq0.aQ a.2.1++(avP.aQ a.2.2.1++(awZ.aQ a.2.2.2.1++([Sq.bZ a.2.2.2.2.1.1,Tx.oI a.2.2.2.2.1.2]++[]))));rw[aq1,avQ,awi];rfl) (fun _=>avO.symm)
noncomputable def auk:zA Tryz.prog 23 (List FD):=zA.slice Tryz.underlying23 axK (by rw[avO];decide) aw0
theorem avE(v:List FD):auk.aQ v=[Md v]:=by
 show[AV.sl (Tryz.prog.cellsOf 67) false (v.map jB)]=[AV.sl 7 false (v.map jB)];rw[avO]
abbrev ADo:=List D×List FD×Unit
noncomputable def ayy:zA Tryz.prog 25 DO:=zA.struct Tryz.underlying25 zQ (oM.cons ahF rfl (oM.cons auk zQ oM.nil)) (fun a:ADo=>⟨a.1,a.2.1⟩) (fun d=>[bB d.sn,Md d.fs]) (fun a:ADo=>by
 show[bB a.1,Md a.2.1]=ahF.aQ a.1++(auk.aQ a.2.1++[]);rw[aa0,avE];rfl) (fun _=>ayZ.symm)
abbrev pU:Nat:=9223372036854775807
structure ayz(f:FD):Prop where
 pk:Sv f.pk
 pn:f.pn.size<=pU
 lc:f.ce.length<=pU
 rc:∀x∈f.ce,Sq.Cu x/\Sv x.tm/\x.vl.size<=pU
 lb:f.bi.length<=pU
 rb:∀x∈f.bi,(Sv x.dv/\Sv x.sq/\Sv x.tm)/\x.ky.size<=pU/\x.vl.size<=pU
 la:f.ta.length<=pU
 ra:∀x∈f.ta,Sv x.1/\Sv x.2.1/\Sv x.2.2
 lt:f.tc.length<=pU
 rt:∀x∈f.tc,Sq.Cu x/\Sv x.tm/\x.vl.size<=pU
 lm:f.tm.length<=pU
 rm:∀x∈f.tm,Tx.OkM x
structure avT(d:DO):Prop where
 ls:d.sn.length<=pU
 rs:∀x∈d.sn,Sv x.1/\Sv x.2
 lf:d.fs.length<=pU
 rf:∀f∈d.fs,ayz f
theorem aur{i:D}(h:alU.good i):Sv i.1/\Sv i.2:=by
 obtain⟨⟨_,_,_⟩,rfl,f1,f2,_⟩:=h;exact⟨f1,f2⟩
theorem auu{i:Int×Int×Int}(h:kID.good i):Sv i.1/\Sv i.2.1/\Sv i.2.2:=by
 obtain⟨⟨_,_,_,_⟩,rfl,f1,f2,f3,_⟩:=h;exact⟨f1,f2,f3⟩
theorem avF{c:CE}(h:axT.good c):Sq.Cu c/\Sv c.tm/\c.vl.size<=pU:=by
 obtain⟨⟨_,_,_,_,_,_⟩,rfl,f1,f2,f3,f4,_⟩:=h;exact⟨⟨auu f1,auu f2⟩,f3,f4⟩
theorem aw1{b:BE}(h:axU.good b):(Sv b.dv/\Sv b.sq/\Sv b.tm)/\b.ky.size<=pU/\b.vl.size<=pU:=by
 obtain⟨⟨_,_,_,_,_⟩,rfl,f1,f2,f3,f4,_⟩:=h;have h2:=aur f2;exact⟨⟨h2.1,h2.2,f3⟩,f1,f4⟩
theorem axL{t:TL}(h:ayw.good t):Sv t.1/\Sv t.2.1/\Sv t.2.2:=by
 obtain⟨⟨_,_,_,_⟩,rfl,f1,f2,f3,_⟩:=h;exact⟨f1,f2,f3⟩
theorem aw2{m:MK}(h:axV.good m):Tx.OkM m:=by
 obtain⟨⟨_,_,_,_,_,_,_⟩,rfl,f1,f2,f3,f4,f5,_⟩:=h;have h1:=aur f1;have h3:=auu f3;have h4:=auu f4;exact⟨h1.1,h1.2,f2,h3.1,h3.2.1,h3.2.2,h4.1,h4.2.1,h4.2.2,f5⟩
theorem awj{f:FD}(h:aw0.good f):ayz f:=by
 obtain⟨⟨⟨_,_⟩,_,_,_,⟨_,_⟩,_⟩,rfl,⟨⟨_,_,_⟩,ep,p1,p2,_⟩,f2,f3,f4,⟨⟨_,_,_⟩,et,t1,t2,_⟩,_⟩:=h;cases ep;cases et;exact⟨p1,p2,f2.1,fun x hx=>avF (f2.2 x hx),f3.1,fun x hx=>aw1 (f3.2 x hx),f4.1,fun x hx=>axL (f4.2 x hx),t1.1,fun x hx=>avF (t1.2 x hx),t2.1,fun x hx=>aw2 (t2.2 x hx)⟩
theorem axM{d:DO}(h:ayy.good d):avT d:=by
 obtain⟨⟨_,_,_⟩,rfl,f1,f2,_⟩:=h;exact⟨f1.1,fun x hx=>aur (f1.2 x hx),f2.1,fun x hx=>awj (f2.2 x hx)⟩
section
variable {H:Type} {en:TypeId×Value->H} {W:World} {base:Nat} {v:Value} {d:DataW H} {ps:List MemPlace}
theorem awk{α:Type}{t:TypeId}{fs:Array Field}(c:zA Tryz.prog t α)(hu:Tryz.prog.underlying t=some (.struct fs))(hv:Value.okWide Tryz.prog W .any base t v)(h:DataW.Trod en Tryz.prog W 0 (fun _=>true) true t v d ps):∃a,c.good a/\dI (nA W) (.agg (c.aQ a)) v:=by
 have hagg:∃cs,v = .agg cs:=by
  unfold Value.okWide at hv;rw[hu]at hv;exact⟨_,hv.choose_spec.1⟩
 obtain⟨⟨cs⟩,rfl⟩:=hagg;obtain⟨n,hn⟩:=h;have hn':DataW.trod en Tryz.prog W 0 (fun _=>true) true n t cs=some (d,ps):=hn;obtain⟨o,g,hl,hp⟩:=c.rd hn';exact⟨o,g,.agg _ _ hl fun j hj=>.pure _ _ (hp j (by rw[hl];exact hj)).1⟩
theorem awl(hv:Value.okWide Tryz.prog W .any base 25 v)(h:DataW.Trod en Tryz.prog W 0 (fun _=>true) true 25 v d ps):∃x:DO,avT x/\dI (nA W) (kI x) v:=by
 obtain⟨a,h1,h2⟩:=awk ayy Tryz.underlying25 hv h;exact⟨a,axM h1,h2⟩
end
end Go.Dc
namespace Go.Dc
open Go Go.Am Go.Proofs Go.eY Go.bH
open Go.yU (Cy jl u8)
theorem zU8:Tryz.prog.cellsOf 5=1:=zQ
theorem zBs:Tryz.prog.cellsOf 48=1:=zQ
noncomputable def cU8:zA Tryz.prog 5 UInt8 where
 aQ c:=[u8 c]
 good _:=True
 size _:=zU8.symm
 rd h:=by
  obtain⟨n,rfl,_,hw⟩:=DataW.trod_int Tryz.underlying5 h;have hr:0<=n/\n<256:=by
   simp[Lit.wf,IntKind.min,IntKind.max,IntKind.signed,IntKind.bits]at hw;omega
  have e:((UInt8.ofNat n.toNat).toNat:Int)=n:=by
   rw[UInt8.toNat_ofNat'];have:n.toNat % 2^8=n.toNat:=Nat.mod_eq_of_lt zO;omega
  refine⟨UInt8.ofNat n.toNat,yO,rfl,fun j hj=>?_⟩
  match j,hj with
  |0,_ =>
   refine⟨?_,rfl⟩;show dR _ _ (.lit (.int .u8 ((UInt8.ofNat n.toNat).toNat:Int))) (.int .u8 n);rw[e];exact .lit _
noncomputable def aDp:zA Tryz.prog 48 (List UInt8):=zA.slice Tryz.underlying48 zBs (by rw[zU8];decide) cU8
theorem aBw(l:List UInt8):aDp.aQ l=[Cy l]:=by
 show[AV.sl (Tryz.prog.cellsOf 5) false (l.map cU8.aQ)]=[AV.sl 1 false (jl l)];rw[zU8];rfl
theorem aA6{H:Type}{aQ:TypeId×Value->H}{W:World}{base:Nat}{v:Value}{d:DataW H}{ps:List MemPlace}(hv:Value.okWide Tryz.prog W .any base 48 v)(h:DataW.Trod aQ Tryz.prog W 0 (fun _=>true) true 48 v d ps):∃l:List UInt8,l.length<=9223372036854775807/\dI (nA W) (Cy l) v:=by
 obtain⟨a,h1,h2⟩:=aDp.one zQ hv h aBw;exact⟨a,h1.1,h2⟩
end Go.Dc
namespace Go.Tx
open Go Go.Am Go.Proofs Go.eY
open Go.Sq (CE nP bZ oO vM fX U2 kQ jg)
theorem zh{a b}:nD a b=true↔a.tm<b.tm\/a.tm=b.tm/\(a.dv<b.dv\/a.dv=b.dv/\a.sq<b.sq):=by
 unfold nD;grind
theorem sV{a b c}(h:nD a b=true)(k:nD b c=true):nD a c=true:=by
 rw[zh]at *;omega
def rbT(l:List CE)(v:List MK):List ah:=[.box [bZ l,oI v]]
def awn(l:List CE)(v:List MK)(k:Nat):St:={ aL:=aC 81 [(1,.ptr 0 0),(4,int k)],H:=rbT l v }
theorem aBU(l:List CE)(v:List MK)(k:Nat)(hl:l.length<=1000000000)(ex:bF)(s:St)(h:((((↑k:Int)<(↑(length l):Int))->(∃x2:CE,(l[k]?=some x2)/\((((↑(ByteArray.size (CE.vl x2)):Int)=(1:Int))->bN P G none 0 (vg P 171 0) (sM 81 [(1,.ptr 0 0),(4,int (↑(k+1):Int))] [.box [.sl 9 false (Sq.au l),.sl 11 false (au v)]]) ex s)/\((¬(↑(ByteArray.size (CE.vl x2)):Int)=(1:Int))->(bF.ret=ex)/\(sM 81 [(1,.ptr 0 0),(2,int 160)] [.box [.sl 9 false (Sq.au l),.sl 11 false (au v)]]=s)))))/\((¬(↑k:Int)<(↑(length l):Int))->(bF.exit 0=ex)/\(sM 81 [(1,.ptr 0 0)] [.box [.sl 9 false (Sq.au l),.sl 11 false (au v)]]=s)))):bN P G none 0 (vg P 171 0) (awn l v k) ex s:=by
 have bS:Am.aF (int (↑(length (Sq.au l)):Int)) (int (↑(length l):Int)):=(aF.of_eq (by simp only[Go.Sq.ay]));by_cases c1:((↑k:Int)<(↑(length l):Int))
 .have h:=h.1 c1;obtain⟨x2,o3,h⟩:=h;have fT:(0:Int)<=(↑k:Int)/\(Sq.au l)[Int.toNat (↑k:Int)]?=some (Sq.aQ x2):=(bG o3);by_cases c4:((↑(ByteArray.size (CE.vl x2)):Int)=(1:Int))
  .have h:=h.1 c4;exact aJ [kv 16 bS,kt (y15 c1),ko (bC.elem (Sq.aQ x2)),kp fT,kf (show((↑(ByteArray.size (CE.vl x2)):Int)!=1)=false from(y27 (beq_iff_eq.2 c4))),kv 19 (show Am.aF (int (IntKind.wrap IntKind.i64 ((↑k:Int)+1))) (int (↑(k+1):Int))from(aF.TJ zO zO zO))] (aB 81 [1,4]) 1 h zQ
  .have h:=h.2 c4;obtain⟨eX,eS⟩:=h;exact bN.to ((show bN P G none 0 (vg P 171 0) (awn l v k) bF.ret (sM 81 [(1,.ptr 0 0),(2,int 160)] [.box [.sl 9 false (Sq.au l),.sl 11 false (au v)]])from aG [kv 16 bS,kt (y15 c1),ko (bC.elem (Sq.aQ x2)),kp fT,kt (show((↑(ByteArray.size (CE.vl x2)):Int)!=1)=true from(y27 (beq_eq_false_iff_ne.2 c4)))] (aB 81 [1,2]) 1 zQ)) eX (eB.of_eq eS)
 .have h:=h.2 c1;obtain⟨eX,eS⟩:=h;exact bN.to ((show bN P G none 0 (vg P 171 0) (awn l v k) (bF.exit 0) (sM 81 [(1,.ptr 0 0)] [.box [.sl 9 false (Sq.au l),.sl 11 false (au v)]])from aG [kv 16 bS,kf (y16 c1)] (aB 81 [1,2]) 1 zQ)) eX (eB.of_eq eS)
theorem aCr(l:List CE)(v:List MK)(hl:l.length<=1000000000):∀n k,l.length-k=n->k<=l.length->((l.drop k).all Ba=true->bN P G none 0 (vg P 171 0) (awn l v k) (.exit 0) { aL:=aC 81 [(1,.ptr 0 0)],H:=rbT l v })/\((l.drop k).all Ba=false->bN P G none 0 (vg P 171 0) (awn l v k) .ret { aL:=aC 81 [(1,.ptr 0 0),(2,int 160)],H:=rbT l v }):=by
 intro n
 induction n with
 |zero =>
  intro k hn hk;rw[y14 zO];exact⟨fun _=>aBU l v k hl _ _ ⟨fun h=>absurd h zO,fun _=>⟨rfl,rfl⟩⟩,fun h=>(by cases h)⟩
 |succ n ih =>
  intro k hn hk;have bg:k<l.length:=zO
  obtain⟨i1,i2⟩:=ih (k+1) zO zO;rw[y01 bg,all_cons];have ho:Ba l[k]=true↔l[k].vl.size=1:=by unfold Ba;simp
  cases hb:Ba l[k]with
  |true =>
   have h1:=ho.1 hb;rw[Bool.true_and];exact⟨fun h=>aBU l v k hl _ _ ⟨fun _=>⟨l[k],yA bg,⟨fun _=>i1 h,fun hq=>absurd zO hq⟩⟩,fun h=>absurd bg zO⟩,fun h=>aBU l v k hl _ _ ⟨fun _=>⟨l[k],yA bg,⟨fun _=>i2 h,fun hq=>absurd zO hq⟩⟩,fun h=>absurd bg zO⟩⟩
  |false =>
   have h1:¬l[k].vl.size=1:=fun h=>by rw[ho.2 h]at hb;cases hb
   rw[Bool.false_and];exact⟨fun h=>(by cases h),fun _=>aBU l v k hl _ _ ⟨fun _=>⟨l[k],yA bg,⟨fun hq=>absurd hq zO,fun _=>⟨rfl,rfl⟩⟩⟩,fun h=>absurd bg zO⟩⟩
def rcI(l:List CE)(v:List MK)(i k:Nat):St:={ aL:=aC 81 [(1,.ptr 0 0),(5,int i),(6,int k)],H:=rbT l v }
def rcX(l:List CE)(v:List MK)(i:Nat):St:={ aL:=aC 81 [(1,.ptr 0 0),(5,int i)],H:=rbT l v }
def rcQ(l:List CE)(v:List MK)(i:Nat):St:={ aL:=aC 81 [(1,.ptr 0 0),(2,int 160),(5,int i)],H:=rbT l v }
def rcR(l:List CE)(v:List MK):St:={ aL:=aC 81 [(1,.ptr 0 0),(2,int 160)],H:=rbT l v }
theorem aBV(l:List CE)(v:List MK)(i k:Nat)(y:MK)(hv:v.length<=1000000000)(hi:i<v.length)(hk:k<=i)(hy:v[i]?=some y)(ex:bF)(s:St)(h:((((↑k:Int)<(↑i:Int))->(∃x2:MK,(v[k]?=some x2)/\((((MK.dv x2==MK.dv y&&MK.sq x2==MK.sq y)=true)->(bF.ret=ex)/\(sM 81 [(1,.ptr 0 0),(2,int 160),(5,int (↑i:Int))] [.box [.sl 9 false (Sq.au l),.sl 11 false (au v)]]=s))/\(((MK.dv x2==MK.dv y&&MK.sq x2==MK.sq y)=false)->bN P G none 0 (vg P 171 2) (sM 81 [(1,.ptr 0 0),(5,int (↑i:Int)),(6,int (↑(k+1):Int))] [.box [.sl 9 false (Sq.au l),.sl 11 false (au v)]]) ex s))))/\((¬(↑k:Int)<(↑i:Int))->(bF.exit 4=ex)/\(sM 81 [(1,.ptr 0 0),(5,int (↑i:Int))] [.box [.sl 9 false (Sq.au l),.sl 11 false (au v)]]=s)))):bN P G none 0 (vg P 171 2) (rcI l v i k) ex s:=by
 have fT:(0:Int)<=(↑i:Int)/\(au v)[Int.toNat (↑i:Int)]?=some (aQ y):=(bG hy);by_cases c1:((↑k:Int)<(↑i:Int))
 .have h:=h.1 c1;obtain⟨x2,o3,h⟩:=h;have bS:(0:Int)<=(↑k:Int)/\(au v)[Int.toNat (↑k:Int)]?=some (aQ x2):=(bG o3);rcases y00 ((MK.dv x2==MK.dv y&&MK.sq x2==MK.sq y))with c4|c4
  .have h:=h.1 c4;obtain⟨eX,eS⟩:=h;exact bN.to ((show bN P G none 0 (vg P 171 2) (rcI l v i k) bF.ret (sM 81 [(1,.ptr 0 0),(2,int 160),(5,int (↑i:Int))] [.box [.sl 9 false (Sq.au l),.sl 11 false (au v)]])from aG [kt (y15 c1),ko (bC.elem (aQ x2)),ko (bC.elem (aQ y)),kp bS,kp fT,kt c4] (aB 81 [1,2,5]) 1 zQ)) eX (eB.of_eq eS)
  .have h:=h.2 c4;exact aJ [kt (y15 c1),ko (bC.elem (aQ x2)),ko (bC.elem (aQ y)),kp bS,kp fT,kf c4,kv 67 (show Am.aF (int (IntKind.wrap IntKind.i64 ((↑k:Int)+1))) (int (↑(k+1):Int))from(aF.TJ zO zO zO))] (aB 81 [1,5,6]) 1 h zQ
 .have h:=h.2 c1;obtain⟨eX,eS⟩:=h;exact bN.to ((show bN P G none 0 (vg P 171 2) (rcI l v i k) (bF.exit 4) (sM 81 [(1,.ptr 0 0),(5,int (↑i:Int))] [.box [.sl 9 false (Sq.au l),.sl 11 false (au v)]])from aG [kf (y16 c1)] (aB 81 [1,2,5]) 1 zQ)) eX (eB.of_eq eS)
theorem acI(x y:MK):(x.dv==y.dv&&x.sq==y.sq)=decide (x.eG=y.eG):=by
 rw[Bool.eq_iff_iff];simp[MK.eG]
theorem az8(l:List CE)(v:List MK)(i:Nat)(hv:v.length<=1000000000)(hi:i<v.length):∀n k,i-k=n->k<=i->(((v.take i).drop k).any (fun c=>decide (c.eG=v[i].eG))=false->bN P G none 0 (vg P 171 2) (rcI l v i k) (.exit 4) (rcX l v i))/\(((v.take i).drop k).any (fun c=>decide (c.eG=v[i].eG))=true->bN P G none 0 (vg P 171 2) (rcI l v i k) .ret (rcQ l v i)):=by
 have hy:v[i]?=some v[i]:=yA hi;intro n
 induction n with
 |zero =>
  intro k hn hk;have e:(v.take i).drop k=[]:=y14 (by rw[y18];omega);rw[e];exact⟨fun _=>aBV l v i k _ hv hi hk hy _ _ ⟨fun h=>absurd h zO,fun _=>⟨rfl,rfl⟩⟩,fun h=>by cases h⟩
 |succ n ih =>
  intro k hn hk;have bg:k<v.length:=zO
  have hx:v[k]?=some v[k]:=yA bg;have hkt:k<(v.take i).length:=by rw[y18];omega
  obtain⟨i1,i2⟩:=ih (k+1) zO zO;rw[y01 hkt,any_cons,getElem_take];cases hd:decide (v[k].eG=v[i].eG)with
  |true =>
   rw[Bool.true_or];exact⟨fun h=>(by cases h),fun _=>aBV l v i k _ hv hi hk hy _ _ ⟨fun _=>⟨v[k],hx,⟨fun _=>⟨rfl,rfl⟩,fun hq=>by rw[acI,hd]at hq;cases hq⟩⟩,fun h=>absurd bg zO⟩⟩
  |false =>
   rw[Bool.false_or];exact⟨fun h=>aBV l v i k _ hv hi hk hy _ _ ⟨fun _=>⟨v[k],hx,⟨fun hq=>(by rw[acI,hd]at hq;cases hq),fun _=>i1 h⟩⟩,fun h=>absurd bg zO⟩,fun h=>aBV l v i k _ hv hi hk hy _ _ ⟨fun _=>⟨v[k],hx,⟨fun hq=>(by rw[acI,hd]at hq;cases hq),fun _=>i2 h⟩⟩,fun h=>absurd bg zO⟩⟩
end Go.Tx
