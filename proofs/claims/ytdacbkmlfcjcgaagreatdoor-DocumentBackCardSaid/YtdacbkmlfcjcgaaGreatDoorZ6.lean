import Derived.Test.YtdacbkmlfcjcgaaGreatDoorZ5
set_option maxRecDepth 100000
set_option linter.unusedSimpArgs false
set_option linter.unusedVariables false
open List
noncomputable section
namespace Go.Tx
open Go Go.Am Go.Proofs Go.eY
open Go.Sq (CE nP bZ oO vM fX U2 kQ jg)
def vC(t:TE):Int:=if jg t.cells≠0 then jg t.cells else if t.cells.all Ba=true then(if Cw t.cells t.bQ=true then 0 else 160)else 160
theorem fO.wf{n:Int}(h:fO n):(Lit.int .i64 n).wf=true:=by
 unfold fO at h;simp[Lit.wf,IntKind.min,IntKind.max,IntKind.signed,IntKind.bits];omega
theorem laid:laidOutB P=true:=zQ
theorem sz1:∃n,P.types.size=n+1:=by
 have h:1<=P.types.size:=Nat.le_of_ble_eq_true zQ;exact⟨P.types.size-1,zO⟩
theorem uG(d:Nat){n:Int}(h:fO n):P.keyLits (d+1) 3 [.int .i64 n]=some [.int .i64 n]:=by
 simp[Program.keyLits,Tryz.underlying3,h.wf]
theorem lD:Maps.Keyed P 27:=Maps.Keyed.of_law (deep_law_laid laid (m:=2) zD (Nat.le_of_ble_eq_true zQ) zQ zQ)
theorem uy{a b:Int}(ha:fO a)(hb:fO b):∃l,keyOf P 27 (fV a b)=some l:=by
 have h1:(P.keyType 27&&(fV a b).formed P 27)=true:=zQ
 have h2:P.keyLits (P.types.size+1) 27 (fV a b).cells.toList=([P.keyLits P.types.size 3 [.int .i64 a],P.keyLits P.types.size 3 [.int .i64 b]].mapM id).map flatten:=zQ
 obtain⟨n,hn⟩:=sz1;refine⟨.string (keyBytes [.int .i64 a,.int .i64 b]),?_⟩;unfold keyOf;rw[Tryz.underlying27];show(if(P.keyType 27&&(fV a b).formed P 27)=true then _ else none)=_;rw[yL h1,h2,hn,uG n ha,uG n hb];rfl
theorem nU{a b a' b':Int}(h:fV a b=fV a' b'):a=a'/\b=b':=by
 simp only[fV,Value.agg.injEq,Array.mk.injEq,List.cons.injEq,Value.int.injEq,true_and,and_true]at h;exact h
theorem sS{v:List MK}(h:QY v):∀e∈fQ v,∃l,keyOf P 27 e.1=some l:=fun e he=>by
 obtain⟨x,hx,rfl⟩:=yG.1 he;exact uy (h x hx).dv (h x hx).sq
theorem L6{v:List MK}(h:QY v){x:MK}(hx:OkM x)(hm:(v.any fun c=>decide (c.eG=x.eG))=true):bT P 27 (fQ v) (fV x.dv x.sq) (bool false) (bool true) true:=by
 obtain⟨y,hy,e⟩:=any_eq_true.1 hm;have e:=of_decide_eq_true e;refine⟨lD,uy hx.dv hx.sq,sS h,.inl ⟨rfl,yG.2 ⟨y,hy,?_⟩⟩⟩;simp only[MK.eG,Prod.mk.injEq]at e;rw[e.1,e.2]
theorem H8{v:List MK}{x:MK}(hm:(v.any fun c=>decide (c.eG=x.eG))=false):∀e∈fQ v,e.1≠fV x.dv x.sq:=fun e he hq=>by
 obtain⟨y,hy,rfl⟩:=yG.1 he;obtain⟨q1,q2⟩:=nU hq;have:=any_eq_false.1 hm y hy;rw[decide_eq_true_eq]at this;exact this (by rw[MK.eG,MK.eG,q1,q2])
theorem H9{v:List MK}(h:QY v){x:MK}(hx:OkM x)(hm:(v.any fun c=>decide (c.eG=x.eG))=false):bT P 27 (fQ v) (fV x.dv x.sq) (bool false) (bool false) false :=
 ⟨lD,uy hx.dv hx.sq,sS h,.inr ⟨rfl,rfl,H8 hm⟩⟩
theorem L8{v:List MK}(h:QY v){x:MK}(hx:OkM x)(hm:(v.any fun c=>decide (c.eG=x.eG))=false):jm P 27 (fQ v) (fV x.dv x.sq) (bool true) (fQ (v++[x])) :=
 ⟨lD,uy hx.dv hx.sq,sS h,.inr ⟨H8 hm,by simp[fQ]⟩⟩
theorem CY(v:List MK){i:Nat}(h:i<=v.length)(h0:(i:Int)>0):v[((i:Int)-1).toNat]?=some (v[i-1]'zO):=zS
theorem L9(l:List CE)(v:List MK)(hl:l.length<=1000000000)(hv:v.length<=1000000000)(hO:QY v):∀n k,v.length-k=n->k<=v.length->(y9 l v n k=true->Rq 0 163 0 (nX l v k (v.take k)) (.exit 0) ckO)/\(y9 l v n k=false->Rq 0 163 0 (nX l v k (v.take k)) .ret (U4 160)):=by
 intro n
 induction n with
 |zero=>intro k hn hk;exact⟨fun _=>afv l v k _ hv zO yO,fun h=>by cases h⟩
 |succ n ih =>
  intro k hn hk;have bg:k<v.length:=zO
  have hx:=yA bg;have e:y9 l v (n+1) k=(jh l v k&&y9 l v n (k+1)):=rfl;have QZ:QY (v.take k):=fun m hm=>hO m (mem_of_mem_take hm);have QO:=hO _ (getElem_mem bg);rw[e];have ht:v.take (k+1)=v.take k++[v[k]]:=by rw[take_append_getElem]
  obtain⟨n1,n2⟩:=ih (k+1) zO zO;rw[ht]at n1 n2;cases hd:(v.take k).any fun c=>decide (c.eG=v[k].eG)with
  |true =>
   have e2:jh l v k=false:=by simp only[jh,hx,hd,Bool.not_true,Bool.and_false]
   rw[e2,Bool.false_and];exact⟨fun h=>by (cases h),fun _=>aft l v k _ _ hl hv zO hx (L6 QZ QO hd) (by first|trivial|grind)⟩
  |false =>
   have g:=H9 QZ QO hd;have p:=L8 QZ QO hd;cases hq:F8 l v[k]with
   |false =>
    have e2:jh l v k=false:=by simp only[jh,hx,hq,Bool.false_and]
    rw[e2,Bool.false_and];exact⟨fun h=>by (cases h),fun _=>afu l v k _ _ hl hv zO hx hq g (by first|trivial|grind)⟩
   |true =>
    by_cases h0:(k:Int)>0
    .have hy:=CY v hk h0;have hy':v[k-1]?=some (v[k-1]'zO):=yA zO;have U5:(k==0)=false:=by simp;omega
     cases hl':nD (v[k-1]'zO) v[k]with
     |false =>
      have e2:jh l v k=false:=by simp only[jh,hx,hy',hq,hl',U5,Bool.false_and,Bool.and_false,Bool.or_self]
      rw[e2,Bool.false_and];have hg:=(TB (v[k-1]'zO) v[k]).2 hl';exact⟨fun h=>by (cases h),fun _=>afw l v k _ _ hl hv zO hx hq h0 g p ⟨_,⟨zO,hy⟩,fun _=>trivial,fun h=>absurd hg h⟩⟩
     |true =>
      have e2:jh l v k=true:=by simp only[jh,hx,hy',hq,hl',hd,Bool.true_and,Bool.or_true,Bool.not_false,Bool.and_true]
      rw[e2,Bool.true_and];have hg:¬yc (v[k-1]'zO) v[k]>=0:=fun h=>by rw[(TB _ _).1 h]at hl';cases hl'
      exact⟨fun h=>LZ l v k _ _ hl hv zO hx hq g p _ _ ⟨fun _=>⟨_,⟨zO,hy⟩,fun h=>absurd h hg,fun _=>n1 h⟩,fun _=>n1 h⟩,fun h=>LZ l v k _ _ hl hv zO hx hq g p _ _ ⟨fun _=>⟨_,⟨zO,hy⟩,fun h=>absurd h hg,fun _=>n2 h⟩,fun _=>n2 h⟩⟩
    .have U5:(k==0)=true:=by simp;omega
     have e2:jh l v k=true:=by simp only[jh,hx,hq,U5,hd,Bool.true_and,Bool.true_or,Bool.not_false,Bool.and_true]
     rw[e2,Bool.true_and];exact⟨fun h=>LZ l v k _ _ hl hv zO hx hq g p _ _ ⟨fun h=>absurd h h0,fun _=>n1 h⟩,fun h=>LZ l v k _ _ hl hv zO hx hq g p _ _ ⟨fun h=>absurd h h0,fun _=>n2 h⟩⟩
theorem ab4(t:TE)(e:Int)(he:e≠0)(hc:Cq 155 [bZ t.cells] (int e))(h:True):Cq 163 [mG t] (int e):=by
 exact aj [kc [] hc,kt (yJ Bool.not (qF zO))]
theorem ab5(t:TE)(hc:Cq 155 [bZ t.cells] (int 0))(hi:Cq 239 [bZ t.cells,.lit (.func (.func 247) #[] #[])] (bool true))(h:True):Cq 163 [mG t] (int 160):=by
 exact aj [kc [] hc,kY,kc [] hi,kO]
theorem Ma(t:TE)(hc:Cq 155 [bZ t.cells] (int 0))(hi:Cq 239 [bZ t.cells,.lit (.func (.func 247) #[] #[])] (bool false))(hL:Rq 0 163 0 (nX t.cells t.bQ 0 []) (.exit 0) ckO)(h:True):Cq 163 [mG t] (int 0):=by
 exact aj [kc [] hc,kY,kc [] hi,kY,kN 19 (ay t.bQ),kl (rG [(0,1),(2,2),(5,13),(21,34)]) 2 hL]
theorem Mc(t:TE)(hc:Cq 155 [bZ t.cells] (int 0))(hi:Cq 239 [bZ t.cells,.lit (.func (.func 247) #[] #[])] (bool false))(hL:Rq 0 163 0 (nX t.cells t.bQ 0 []) .ret (U4 160))(h:True):Cq 163 [mG t] (int 160):=by
 exact aj [kc [] hc,kY,kc [] hi,kY,kN 19 (ay t.bQ),kl (rG [(0,1),(2,2),(5,13),(21,34)]) 2 hL]
structure OkT(t:TE):Prop where
 cells:kQ t.cells
 bQ:QY t.bQ
structure X4(t:TE):Prop where
 cells:t.cells.length<=900000
 bQ:t.bQ.length<=900000
theorem fG(t:TE)(hl:X4 t)(hO:OkT t):Cq 163 [mG t] (int (vC t)):=by
 have hlc:=hl.cells;have hlm:=hl.bQ;have hc:=JZ (Sq.HZ t.cells zO hO.cells);have hi:=BL t.cells zO;unfold vC;by_cases h0:jg t.cells=0
 .rw [yK (by simpa using h0)];rw[h0]at hc;cases ha:t.cells.all Ba with
  |false =>
   rw[ha]at hi;rw[yK zD];exact ab5 t hc hi trivial
  |true =>
   rw[ha]at hi;rw[yL rfl];obtain⟨h1,h2⟩:=L9 t.cells t.bQ zO zO hO.bQ t.bQ.length 0 zO zO;rw[take_zero]at h1 h2;cases hb:Cw t.cells t.bQ with
   |true=>rw[yL rfl];exact Ma t hc hi (h1 hb) trivial
   |false=>rw[yK zD];exact Mc t hc hi (h2 hb) trivial
 .grind [ab4]
end Go.Tx
namespace Go.Dc
open Go Go.Am Go.Proofs Go.eY Go.bH
structure Q0(f:FD):Prop where
 ce:Sq.kQ f.ce
 tx:Tx.OkT ⟨f.tc,f.tm⟩
 lt:Tx.X4 ⟨f.tc,f.tm⟩
def U6(f:FD)(v:List D):Bool :=
 (if f.pk=1 then decide (Sq.jg f.ce=0)&&(f.ce.all fun x=>cZ v (dtc x))&&decide (f.bi.length+f.ta.length+f.tc.length+f.tm.length=0)
  else if f.pk=2 then decide (Bd.jg f.bi=0)&&(f.bi.all fun x=>cZ v (dtb x))&&decide (f.ce.length+f.ta.length+f.tc.length+f.tm.length=0)
  else if f.pk=3 then decide (vC f.ta=0)&&(f.ta.all fun x=>cZ v (dtt x))&&decide (f.ce.length+f.bi.length+f.tc.length+f.tm.length=0)
  else if f.pk=4 then decide (Tx.vC ⟨f.tc,f.tm⟩=0)&&(f.tc.all fun x=>cZ v (dtc x))&&(f.tm.all fun x=>cZ v (dtm x))&&decide (f.ce.length+f.bi.length+f.ta.length=0)
  else false)&&decide (f.pn.size<=64)
theorem ab6(n:Nat):((n:Int)==0)=decide (n=0):=by grind
theorem three{e:Int}{b:Bool}{n:Int}{z r:Bool}(h:(decide (e=0)&&b&&z&&decide (n<=64))=r):(((e=0)->(((b=true)->(((n<=64)->z=r)/\((¬n<=64)->false=r)))/\((b=false)->false=r)))/\((¬e=0)->false=r)):=by grind
theorem pV(f:FD)(v:List D)(h:XW f)(hr:Q0 f)(hv:v.length<=1000000000):Cq 62 [.agg (jB f),bB v] (Am.bool (U6 f v)):=by
 have hs:((f.pn.size:Int)<=64)=(f.pn.size<=64):=by simp only[eq_iff_iff];omega
 by_cases k1:f.pk=1
 .have e:U6 f v=(decide (Sq.jg f.ce=0)&&(f.ce.all fun x=>cZ v (dtc x))&&decide (0+f.bi.length+f.ta.length+f.tc.length+f.tm.length=0)&&decide ((f.pn.size:Int)<=64)):=by
   unfold U6;rw[yL k1,Nat.zero_add];simp only[hs]
  refine aiM f v _ _ k1 h.ce h.bi h.ta h.tc h.tm (Sq.up (Sq.HZ _ h.ce hr.ce)) (X5 _ v h.ce hv) _ (three ?_);rw[ab6,e]
 by_cases k2:f.pk=2
 .have e:U6 f v=(decide (Bd.jg f.bi=0)&&(f.bi.all fun x=>cZ v (dtb x))&&decide (f.ce.length+0+f.ta.length+f.tc.length+f.tm.length=0)&&decide ((f.pn.size:Int)<=64)):=by
   unfold U6;rw[yK k1,yL k2,Nat.add_zero];simp only[hs]
  refine aiN f v _ _ k2 h.ce h.bi h.ta h.tc h.tm (Bd.fG _ (by have:=h.bi;omega)) (afx _ v h.bi hv) _ (three ?_);rw[ab6,e]
 by_cases k3:f.pk=3
 .have e:U6 f v=(decide (vC f.ta=0)&&(f.ta.all fun x=>cZ v (dtt x))&&decide (f.ce.length+f.bi.length+0+f.tc.length+f.tm.length=0)&&decide ((f.pn.size:Int)<=64)):=by
   unfold U6;rw[yK k1,yK k2,yL k3,Nat.add_zero];simp only[hs]
  refine aiO f v _ _ k3 h.ce h.bi h.ta h.tc h.tm (OA _ h.ta) (afy _ v h.ta hv) _ (three ?_);rw[ab6,e]
 by_cases k4:f.pk=4
 .have e:U6 f v=(decide (Tx.vC ⟨f.tc,f.tm⟩=0)&&(f.tc.all fun x=>cZ v (dtc x))&&(f.tm.all fun x=>cZ v (dtm x))&&decide (f.ce.length+f.bi.length+f.ta.length+0+0=0)&&decide ((f.pn.size:Int)<=64)):=by
   unfold U6;rw[yK k1,yK k2,yK k3,yL k4,Nat.add_zero];simp only[hs]
  refine aiP f v _ _ _ k4 h.ce h.bi h.ta h.tc h.tm (Tx.fG ⟨f.tc,f.tm⟩ hr.lt hr.tx) (X5 _ v h.tc hv) (afz _ v h.tm hv) _ ?_;rw[ab6,e];refine⟨fun h1=>⟨fun h2=>⟨fun h3=>⟨fun h4=>by simp[h1,h2,h3,h4],fun h4=>by simp[h4]⟩,fun h3=>by simp[h3]⟩,fun h2=>by simp[h2]⟩,fun h1=>by simp[h1]⟩
 .have e:U6 f v=false:=by unfold U6;rw[yK k1,yK k2,yK k3,yK k4,Bool.false_and]
  rw[e];exact aiQ f v k1 k2 k3 k4 h.ce h.bi h.ta h.tc h.tm trivial
def Xe(v:List D):Option FD->List FD->Bool
 |_,[]=>true
 |q,f::l=>U6 f v&&(match q with|none=>true|some g=>decide (U7 g.pk f.pk g.pn f.pn<0))&&Xe v (some f) l
def F9(d:DO):Int:=if Cw d.sn=true/\Xe d.sn none d.fs=true then 0 else 180
structure Dim(d:DO):Prop where
 sn:d.sn.length<=1000000
 fs:d.fs.length<=1000000
 len:∀f∈d.fs,XW f
 iV:∀f∈d.fs,Q0 f
def prv(l:List FD):Nat->Option FD
 |0=>none
 |k+1=>l[k]?
abbrev dkR(d:DO)(k:Nat):Prop:=(Xe d.sn (prv d.fs k) (d.fs.drop k)=true/\Rq 0 17 0 (dkS d k) (.exit 0) { aL:=aC 40 [(2,int 0)],H:=[.box [bB d.sn,Md d.fs]] })\/(Xe d.sn (prv d.fs k) (d.fs.drop k)=false/\Rq 0 17 0 (dkS d k) .ret { aL:=aC 40 [(2,int 180)],H:=[.box [bB d.sn,Md d.fs]] })
theorem ab7(d:DO)(h:Dim d):∀n k,d.fs.length-k=n->k<=d.fs.length->dkR d k:=by
 intro n
 induction n with
 |zero =>
  intro k hk LB;refine .inl ⟨?_,amH d k zO yO⟩;rw[drop_of_length_le zO];cases prv d.fs k<;>rfl
 |succ n ih =>
  intro k hk LB;have bg:k<d.fs.length:=zO
  have hx:=yA bg;have hm:d.fs[k]∈d.fs:=getElem_mem _;have hV:=pV d.fs[k] d.sn (h.len _ hm) (h.iV _ hm) (by have:=h.sn;omega);have nx:=ih (k+1) zO zO;unfold dkR at nx |-;rw[drop_eq_getElem_cons bg];have hp:prv d.fs (k+1)=some d.fs[k]:=hx;rw[hp]at nx;unfold Xe;cases e:U6 d.fs[k] d.sn with
  |false =>
   rw[e]at hV;exact .inr ⟨zS,amI d k _ h.fs zO hx hV yO⟩
  |true =>
   rw[e]at hV
   match k,hk,LB,bg,hx,hm,hV,nx with
   |0,_,_,bg,hx,hm,hV,nx =>
    rcases nx with⟨a,b⟩|⟨a,b⟩
    .exact .inl ⟨by rw[show prv d.fs 0=none from rfl,a];rfl,aiR d _ h.fs zO hx hV _ _ b⟩
    .exact .inr ⟨by rw[show prv d.fs 0=none from rfl,a];rfl,aiR d _ h.fs zO hx hV _ _ b⟩
   |k+1,_,_,bg,hx,hm,hV,nx =>
    have hy:d.fs[k]?=some d.fs[k]:=yA zO;have hz:d.fs[Int.toNat (((k+1:Nat):Int)-1)]?=some d.fs[k]:=zS
    have hP:∀g':FD,d.fs[k]?=some g'->Cq 45 [pt g'.pk g'.pn,pt d.fs[k+1].pk d.fs[k+1].pn] (int (U7 d.fs[k].pk d.fs[k+1].pk d.fs[k].pn d.fs[k+1].pn)):=fun g' hg=>by
     rw[hy]at hg;cases hg;exact X6 d.fs[k].pk d.fs[k+1].pk d.fs[k].pn d.fs[k+1].pn
    have hq:prv d.fs (k+1)=some d.fs[k]:=hy;rw[hq];by_cases hc:U7 d.fs[k].pk d.fs[k+1].pk d.fs[k].pn d.fs[k+1].pn<0
    .rcases nx with⟨a,b⟩|⟨a,b⟩
     .exact .inl ⟨by simp[hc,a],aiT d k _ d.fs[k] _ zO h.fs zO hx hy hV hP _ _ ⟨d.fs[k],⟨zO,hz⟩,hy,b⟩⟩
     .exact .inr ⟨by simp[a],aiT d k _ d.fs[k] _ zO h.fs zO hx hy hV hP _ _ ⟨d.fs[k],⟨zO,hz⟩,hy,b⟩⟩
    .exact .inr ⟨by simp[hc],amJ d k _ d.fs[k] _ zO h.fs zO hx hy hV hP _ _ ⟨d.fs[k],⟨zO,hz⟩,hy,rfl,rfl⟩⟩
theorem fG(d:DO)(h:Dim d):Cq 17 [kI d] (int (F9 d)):=by
 have hv:=bH.fG d.sn (by have:=h.sn;omega);unfold F9;by_cases e:Cw d.sn=true
 .rw [show eZ d.sn=0 by unfold eZ;rw[yL e]]at hv;have h1:=ab7 d h _ 0 rfl yN;unfold dkR at h1;rw[drop_zero]at h1;have hp:prv d.fs 0=none:=rfl;rw[hp]at h1;rcases h1 with⟨a,b⟩|⟨a,b⟩
  .grind [amK]
  .rw [yK (fun k=>by rw[a]at k;cases k.2)];exact amL d hv b trivial
 .rw [show eZ d.sn=120 by unfold eZ;rw[yK e]]at hv;rw[yK (fun k=>e k.1)];exact amM d hv trivial
end Go.Dc
namespace Go.yU
open Go Go.Am Go.Proofs Go.eY
theorem wrap_u64(n:Nat):IntKind.wrap .u64 (n:Int)=((n % 18446744073709551616:Nat):Int):=by
 show(let m:=(n:Int) % (2^64:Int);if(IntKind.u64.signed&&m>=(2^(64-1):Int))=true then m-(2^64:Int)else m)=_;simp[IntKind.signed]
theorem wrap_u8(n:Nat):IntKind.wrap .u8 (n:Int)=((n % 256:Nat):Int):=by
 show(let m:=(n:Int) % (2^8:Int);if(IntKind.u8.signed&&m>=(2^(8-1):Int))=true then m-(2^8:Int)else m)=_;simp[IntKind.signed]
theorem wM(w n:Nat):(BitVec.ofInt w (n:Int)).toNat=n % 2^w:=by simp[BitVec.toNat_ofInt]
theorem wrap64{n:Nat}(h:n<18446744073709551616):IntKind.wrap .u64 (n:Int)=(n:Int):=by rw[wrap_u64,Nat.mod_eq_of_lt h]
theorem ae4{n:Nat}(h:n<256):IntKind.wrap .u8 (n:Int)=(n:Int):=by rw[wrap_u8,Nat.mod_eq_of_lt h]
def VF(u:Nat)(c:UInt8)(i:Nat):Int:=IntKind.wrap IntKind.u64 (↑(BitVec.toNat (BitVec.ofInt (IntKind.bits IntKind.u64) (↑u:Int) ||| BitVec.ofInt (IntKind.bits IntKind.u64) (IntKind.wrap IntKind.u64 (IntKind.wrap IntKind.u64 (IntKind.wrap IntKind.u8 (↑(BitVec.toNat (BitVec.ofInt (IntKind.bits IntKind.u8) (↑(UInt8.toNat c):Int) &&& BitVec.ofInt (IntKind.bits IntKind.u8) 127)):Int))*2^min (Int.toNat (7*(↑i:Int))) (IntKind.bits IntKind.u64))))):Int)
theorem nH{u c i:Nat}(hu:u<2^(7*i))(hi:i<=9)(hc:i=9->c<=1):u+c % 128*2^(7*i)<2^(7*(i+1))/\u+c % 128*2^(7*i)<18446744073709551616:=by
 have h1:c % 128<128:=Nat.mod_lt _ zD;have h2:2^(7*(i+1))=128*2^(7*i):=by rw[Nat.mul_add,Nat.pow_add];omega
 have h3:u+c % 128*2^(7*i)<128*2^(7*i):=by
  have:=Nat.mul_le_mul_right (2^(7*i)) (show c % 128<=127 by omega);omega
 refine⟨by rw[h2];exact h3,?_⟩;rcases Nat.lt_or_eq_of_le hi with h|rfl
 .have:2^(7*(i+1))<=2^63:=Nat.pow_le_pow_right zD zO;rw[h2]at this;have:(2:Nat)^63<18446744073709551616:=zD
  omega
 .have:=hc rfl;have h5:(2:Nat)^(7*9)=9223372036854775808:=zD
  rw[h5]at hu |-;have:c % 128<=1:=zO
  omega
theorem Sg{u:Nat}{c:UInt8}{i:Nat}(hu:u<2^(7*i))(hi:i<=9)(hc:i=9->c.toNat<=1):VF u c i=((u+c.toNat % 128*2^(7*i):Nat):Int):=by
 have pO:=(nH hu hi hc).2;have hc8:c.toNat<256:=c.toNat_lt;have e1:(BitVec.ofInt (IntKind.bits IntKind.u8) (↑c.toNat:Int) &&& BitVec.ofInt (IntKind.bits IntKind.u8) 127).toNat=c.toNat % 128:=by
  have:(127:Int)=((127:Nat):Int):=rfl;rw[BitVec.toNat_and,this,wM,wM];show(c.toNat % 2^8) &&& (127 % 2^8)=_;rw[Nat.mod_eq_of_lt (show c.toNat<2^8 by omega),Nat.mod_eq_of_lt (show 127<2^8 by decide)];exact Nat.and_two_pow_sub_one_eq_mod c.toNat 7
 have e2:(7*(i:Int)).toNat=7*i:=zO
 have e3:min (7*i) (IntKind.bits IntKind.u64)=7*i:=by show min (7*i) 64=_;omega
 unfold VF;rw[e1,e2,e3,ae4 (show c.toNat % 128<256 by omega),wrap64 (show c.toNat % 128<18446744073709551616 by omega)];have e4:((c.toNat % 128:Nat):Int)*2^(7*i)=((c.toNat % 128*2^(7*i):Nat):Int):=by push_cast;rfl
 rw[e4,wrap64 (show c.toNat % 128*2^(7*i)<18446744073709551616 by omega),BitVec.toNat_or,wM,wM];have e5:∀n,n<18446744073709551616->n % 2^IntKind.bits IntKind.u64=n:=fun n hn=>Nat.mod_eq_of_lt hn;rw[e5 _ zO,e5 _ zO];have e6:u ||| c.toNat % 128*2^(7*i)=u+c.toNat % 128*2^(7*i):=by
  have:=Nat.two_pow_add_eq_or_of_lt hu (c.toNat % 128);rw[Nat.or_comm,Nat.mul_comm,<- this];omega
 rw[e6,wrap64 pO]
theorem axZ(o:ah)(b:Bool)(out:aS)(h:((((b)=true)->aS.ret (AV.bq [])=out)/\(((b)=false)->aS.Ay (AV.qX 36 (int 10))=out))):ak P G 185 [AV.ptr 0 0,Am.bool b] [o] out [o]:=by
 rcases Bool.eq_false_or_eq_true ((b))with c1|c1
 .have h:=h.1 c1;have e1:=h;exact e1▸((show ak P G 185 [AV.ptr 0 0,Am.bool b] [o] (aS.ret (AV.bq [])) [o]from aj [kf (show(!b)=false from(yJ Bool.not (c1)))] zQ))
 .have h:=h.2 c1;have e1:=h;exact e1▸((show ak P G 185 [AV.ptr 0 0,Am.bool b] [o] (aS.Ay (AV.qX 36 (int 10))) [o]from aj [kt (show(!b)=true from(yJ Bool.not (c1)))] zQ))
theorem aV(o:ah)(b:Bool):ak P G 185 [.ptr 0 0,bool b] [o] (if b=true then .ret (.bq [])else .Ay aO) [o] :=
 axZ o b _ ⟨fun h=>by rw[yL h],fun h=>by rw[yK (by simp[h])];rfl⟩
theorem avW(xs:List (List AV))(n:Nat)(h:n<=xs.length)(hl:xs.length<=1000000000)(h:True):ak P G 258 [AV.ptr 0 0,int (↑n:Int)] [ah.box [AV.sl 1 false xs]] (aS.ret (AV.sl 1 false (List.take n xs))) [ah.box [AV.sl 1 false (List.drop n xs)]]:=by
 have _:=h;exact aj [kc [0] (show ak P G 185 [AV.ptr 0 0,Am.bool (decide ((↑n:Int)<=(↑(length xs):Int)))] [ah.box [AV.sl 1 false xs]] (aS.ret (AV.bq [])) [ah.box [AV.sl 1 false xs]]from(by have h0:=(@Go.yU.aV (ah.box [AV.sl 1 false xs]) (decide ((↑n:Int)<=(↑(length xs):Int))));simp only[yL (show decide ((↑n:Int)<=(↑(length xs):Int))=true from decide_eq_true zO)]at h0;exact h0)),kp (show(0:Int)<=(0:Int)/\(0:Int)<=(↑n:Int)/\(↑n:Int)<=(↑n:Int)/\(↑n:Int)<=(↑(length xs):Int)from zO),kv 28 (show Am.aF (AV.sl 1 false (List.drop (Int.toNat (↑n:Int)) (List.take (Int.toNat (↑(length xs):Int)) xs))) (AV.sl 1 false (List.drop n xs))from(aF.of_eq (by simp only[Int.toNat_natCast,take_length]))),kp (show(0:Int)<=(↑n:Int)/\(↑n:Int)<=(↑(length xs):Int)/\(↑(length xs):Int)<=(↑(length xs):Int)from zO)] zQ
theorem axy(xs:List (List AV))(n:Nat)(h:xs.length<n)(hl:xs.length<=1000000000)(h:True):ak P G 258 [AV.ptr 0 0,int (↑n:Int)] [ah.box [AV.sl 1 false xs]] (aS.Ay aO) [ah.box [AV.sl 1 false xs]]:=by
 have _:=h;exact aj [kc [0] (show ak P G 185 [AV.ptr 0 0,Am.bool (decide ((↑n:Int)<=(↑(length xs):Int)))] [ah.box [AV.sl 1 false xs]] (aS.Ay (AV.qX 36 (int 10))) [ah.box [AV.sl 1 false xs]]from(by have h0:=(@Go.yU.aV (ah.box [AV.sl 1 false xs]) (decide ((↑n:Int)<=(↑(length xs):Int))));simp only[yK (show ¬(decide ((↑n:Int)<=(↑(length xs):Int))=true)from Bool.eq_false_iff.1 (decide_eq_false zO))]at h0;exact h0))] zQ
theorem awC(l:List UInt8)(n:Nat)(h:n<=l.length)(hl:l.length<=1000000000):ak P G 258 [.ptr 0 0,int n] (dH l) (.ret (Cy (l.take n))) (dH (l.drop n)):=by
 have:=avW (jl l) n (by rw[eu];exact h) (by rw[eu];exact hl) trivial;rw[awy,awx]at this;exact this
theorem ax0(l:List UInt8)(n:Nat)(h:l.length<n)(hl:l.length<=1000000000):ak P G 258 [.ptr 0 0,int n] (dH l) (.Ay aO) (dH l) :=
 axy (jl l) n (by rw[eu];exact h) (by rw[eu];exact hl) trivial
theorem bO(x:AV)(r:List UInt8)(hl:r.length<=999999999):ak P G 258 [.ptr 0 0,int 1] [.box [.sl 1 false ([x]::jl r)]] (.ret (.sl 1 false [[x]])) (dH r) :=
 avW ([x]::jl r) 1 zS (by simp[eu];omega) trivial
def jD(c:UInt8)(r:List UInt8):List ah:=[.box [.sl 1 false ([u8 c]::jl r)]]
theorem avX:ak P G 258 [.ptr 0 0,int 1] (dH []) (.Ay aO) (dH []):=ax0 [] 1 zS zS
theorem awD(c:UInt8)(r:List UInt8)(hl:r.length<=999999999):ak P G 258 [.ptr 0 0,int 1] (jD c r) (.ret (.sl 1 false [[u8 c]])) (dH r):=awC (c::r) 1 zS (by simp;omega)
def avY(l:List UInt8)(u i:Nat):St:={ aL:=aC 38 [(0,.ptr 0 0),(2,u64 u),(3,int i)],H:=dH l }
theorem axz(u i:Nat)(ex:bF)(h:bF.Ay (AV.qX 36 (int 10))=ex):bN P G none 1 (vg P 260 0) (avY [] u i) ex (St.mk (aC 38 [(2,u64 u)]) (dH []) []):=by
 have eX:=h;exact bN.to ((show bN P G none 1 (vg P 260 0) (avY [] u i) (bF.Ay (AV.qX 36 (int 10))) (St.mk (aC 38 [(2,AV.lit (Value.int IntKind.u64 (↑u:Int)))]) [ah.box [AV.sl 1 false []]] [])from aG [kc [0] (@Go.yU.avX )] (aB 38 [2]) 1 zQ)) eX (eB.of_eq rfl)
def vE(c:UInt8)(r:List UInt8)(u i:Nat):St:={ aL:=aC 38 [(0,.ptr 0 0),(2,u64 u),(3,int i)],H:=jD c r }
theorem awE(c:UInt8)(r:List UInt8)(hl:r.length<=999999999)(u i:Nat)(hi:i<=9)(ex:bF)(v:Int)(o:ah)(h:((((↑i:Int)=(0:Int))->((((↑(UInt8.toNat c):Int)<(128:Int))->(bF.ret=ex)/\((VF u c i:Int)=(v))/\([ah.box [AV.sl 1 false (jl r)]]=[o]))/\((¬(↑(UInt8.toNat c):Int)<(128:Int))->bN P G none 1 (vg P 260 0) (St.mk (aC 38 [(0,AV.ptr 0 0),(2,AV.lit (Value.int IntKind.u64 (VF u c i))),(3,int (↑(i+1):Int))]) [ah.box [AV.sl 1 false (jl r)]] []) ex (St.mk (aC 38 [(2,AV.lit (Value.int IntKind.u64 v))]) [o] []))))/\((¬(↑i:Int)=(0:Int))->((((↑(UInt8.toNat c):Int)=(0:Int))->(bF.Ay (AV.qX 36 (int 10))=ex)/\(((↑u:Int):Int)=(v))/\([ah.box [AV.sl 1 false (jl r)]]=[o]))/\((¬(↑(UInt8.toNat c):Int)=(0:Int))->((((↑i:Int)<(9:Int))->((((↑(UInt8.toNat c):Int)<(128:Int))->(bF.ret=ex)/\((VF u c i:Int)=(v))/\([ah.box [AV.sl 1 false (jl r)]]=[o]))/\((¬(↑(UInt8.toNat c):Int)<(128:Int))->bN P G none 1 (vg P 260 0) (St.mk (aC 38 [(0,AV.ptr 0 0),(2,AV.lit (Value.int IntKind.u64 (VF u c i))),(3,int (↑(i+1):Int))]) [ah.box [AV.sl 1 false (jl r)]] []) ex (St.mk (aC 38 [(2,AV.lit (Value.int IntKind.u64 v))]) [o] []))))/\((¬(↑i:Int)<(9:Int))->((((↑(UInt8.toNat c):Int)<=(1:Int))->(bF.ret=ex)/\((VF u c i:Int)=(v))/\([ah.box [AV.sl 1 false (jl r)]]=[o]))/\((¬(↑(UInt8.toNat c):Int)<=(1:Int))->(bF.Ay (AV.qX 36 (int 10))=ex)/\(((↑u:Int):Int)=(v))/\([ah.box [AV.sl 1 false (jl r)]]=[o])))))))))):bN P G none 1 (vg P 260 0) (vE c r u i) ex (St.mk (aC 38 [(2,AV.lit (Value.int IntKind.u64 v))]) [o] []):=by
 have bS:=(@Go.yU.awD (c) (r) zO);have fT:(0:Int)<=(0:Int)/\[[u8 c]][Int.toNat 0]?=some [AV.lit (Value.int IntKind.u8 (↑(UInt8.toNat c):Int))]:=(⟨zD,rfl⟩);by_cases c1:((↑i:Int)=(0:Int))
 .have h:=h.1 c1;have jw:decide ((↑i:Int)<(9:Int))=true:=(decide_eq_true zO);have x9:ak P G 185 [AV.ptr 0 0,Am.bool true] [ah.box [AV.sl 1 false (jl r)]] (aS.ret (AV.bq [])) [ah.box [AV.sl 1 false (jl r)]]:=(by have h0:=(@Go.yU.aV (ah.box [AV.sl 1 false (jl r)]) (true));simp only[yL (show true=true from rfl)]at h0;exact h0);have Av:Am.aF (int (IntKind.wrap IntKind.i64 (7*(↑i:Int)))) (int (7*(↑i:Int))):=(aF.TJ zO zO rfl);have qj:(0:Int)<=7*(↑i:Int):=zO;by_cases c3:((↑(UInt8.toNat c):Int)<(128:Int))
  .have h:=h.1 c3;obtain⟨eX,e1,eH⟩:=h;exact bN.to ((show bN P G none 1 (vg P 260 0) (vE c r u i) bF.ret (St.mk (aC 38 [(2,AV.lit (Value.int IntKind.u64 (VF u c i)))]) [ah.box [AV.sl 1 false (jl r)]] [])from aG [kc [0] bS,ko (bC.elem [AV.lit (Value.int IntKind.u8 (↑(UInt8.toNat c):Int))]),kp fT,kt (beq_iff_eq.2 c1),kt (Eq.refl true),kt jw,kc [0] x9,kv 32 Av,kp qj,kt (decide_eq_true c3)] (aB 38 [2]) 1 zQ)) eX (eB.af2 ⟨rfl,(aF.int_eq e1),yO⟩ eH)
  .have h:=h.2 c3;exact aJ [kc [0] bS,ko (bC.elem [AV.lit (Value.int IntKind.u8 (↑(UInt8.toNat c):Int))]),kp fT,kt (beq_iff_eq.2 c1),kt (Eq.refl true),kt jw,kc [0] x9,kv 32 Av,kp qj,kf (decide_eq_false c3),kv 6 (show Am.aF (int (IntKind.wrap IntKind.i64 ((↑i:Int)+1))) (int (↑(i+1):Int))from(aF.TJ zO zO zO))] (aB 38 [0,2,3]) 1 h zQ
 .have h:=h.2 c1;have x9:ak P G 185 [AV.ptr 0 0,Am.bool true] [ah.box [AV.sl 1 false (jl r)]] (aS.ret (AV.bq [])) [ah.box [AV.sl 1 false (jl r)]]:=(by have h0:=(@Go.yU.aV (ah.box [AV.sl 1 false (jl r)]) (true));simp only[yL (show true=true from rfl)]at h0;exact h0);have Av:Am.aF (int (IntKind.wrap IntKind.i64 (7*(↑i:Int)))) (int (7*(↑i:Int))):=(aF.TJ zO zO rfl);have qj:(0:Int)<=7*(↑i:Int):=zO;by_cases c4:((↑(UInt8.toNat c):Int)=(0:Int))
  .have h:=h.1 c4;obtain⟨eX,e1,eH⟩:=h;exact bN.to ((show bN P G none 1 (vg P 260 0) (vE c r u i) (bF.Ay (AV.qX 36 (int 10))) (St.mk (aC 38 [(2,AV.lit (Value.int IntKind.u64 (↑u:Int)))]) [ah.box [AV.sl 1 false (jl r)]] [])from aG [kc [0] bS,ko (bC.elem [AV.lit (Value.int IntKind.u8 (↑(UInt8.toNat c):Int))]),kp fT,kf (beq_eq_false_iff_ne.2 c1),kf (show((↑(UInt8.toNat c):Int)!=0)=false from(yJ Bool.not (beq_iff_eq.2 c4))),kc [0] (show ak P G 185 [AV.ptr 0 0,Am.bool false] [ah.box [AV.sl 1 false (jl r)]] (aS.Ay (AV.qX 36 (int 10))) [ah.box [AV.sl 1 false (jl r)]]from(by have h0:=(@Go.yU.aV (ah.box [AV.sl 1 false (jl r)]) (false));simp only[yK (show ¬(false=true)from Bool.eq_false_iff.1 (rfl))]at h0;exact h0))] (aB 38 [2]) 1 zQ)) eX (eB.af2 ⟨rfl,(aF.int_eq e1),yO⟩ eH)
  .have h:=h.2 c4;have hz9:((↑(UInt8.toNat c):Int)!=0)=true:=(yJ Bool.not (beq_eq_false_iff_ne.2 c4));by_cases c5:((↑i:Int)<(9:Int))
   .have h:=h.1 c5;by_cases c6:((↑(UInt8.toNat c):Int)<(128:Int))
    .have h:=h.1 c6;obtain⟨eX,e1,eH⟩:=h;exact bN.to ((show bN P G none 1 (vg P 260 0) (vE c r u i) bF.ret (St.mk (aC 38 [(2,AV.lit (Value.int IntKind.u64 (VF u c i)))]) [ah.box [AV.sl 1 false (jl r)]] [])from aG [kc [0] bS,ko (bC.elem [AV.lit (Value.int IntKind.u8 (↑(UInt8.toNat c):Int))]),kp fT,kf (beq_eq_false_iff_ne.2 c1),kt hz9,kt (decide_eq_true c5),kc [0] x9,kv 32 Av,kp qj,kt (decide_eq_true c6)] (aB 38 [2]) 1 zQ)) eX (eB.af2 ⟨rfl,(aF.int_eq e1),yO⟩ eH)
    .have h:=h.2 c6;exact aJ [kc [0] bS,ko (bC.elem [AV.lit (Value.int IntKind.u8 (↑(UInt8.toNat c):Int))]),kp fT,kf (beq_eq_false_iff_ne.2 c1),kt hz9,kt (decide_eq_true c5),kc [0] x9,kv 32 Av,kp qj,kf (decide_eq_false c6),kv 6 (show Am.aF (int (IntKind.wrap IntKind.i64 ((↑i:Int)+1))) (int (↑(i+1):Int))from(aF.TJ zO zO zO))] (aB 38 [0,2,3]) 1 h zQ
   .have h:=h.2 c5;by_cases c7:((↑(UInt8.toNat c):Int)<=(1:Int))
    .have h:=h.1 c7;obtain⟨eX,e1,eH⟩:=h;exact bN.to ((show bN P G none 1 (vg P 260 0) (vE c r u i) bF.ret (St.mk (aC 38 [(2,AV.lit (Value.int IntKind.u64 (VF u c i)))]) [ah.box [AV.sl 1 false (jl r)]] [])from aG [kc [0] bS,ko (bC.elem [AV.lit (Value.int IntKind.u8 (↑(UInt8.toNat c):Int))]),kp fT,kf (beq_eq_false_iff_ne.2 c1),kt hz9,kf (decide_eq_false c5),kc [0] (show ak P G 185 [AV.ptr 0 0,Am.bool (decide ((↑(UInt8.toNat c):Int)<=(1:Int)))] [ah.box [AV.sl 1 false (jl r)]] (aS.ret (AV.bq [])) [ah.box [AV.sl 1 false (jl r)]]from(by have h0:=(@Go.yU.aV (ah.box [AV.sl 1 false (jl r)]) (decide ((↑(UInt8.toNat c):Int)<=(1:Int))));simp only[yL (show decide ((↑(UInt8.toNat c):Int)<=(1:Int))=true from decide_eq_true c7)]at h0;exact h0)),kv 32 Av,kp qj,kt (show decide ((↑(UInt8.toNat c):Int)<(128:Int))=true from(decide_eq_true zO))] (aB 38 [2]) 1 zQ)) eX (eB.af2 ⟨rfl,(aF.int_eq e1),yO⟩ eH)
    .have h:=h.2 c7;obtain⟨eX,e1,eH⟩:=h;exact bN.to ((show bN P G none 1 (vg P 260 0) (vE c r u i) (bF.Ay (AV.qX 36 (int 10))) (St.mk (aC 38 [(2,AV.lit (Value.int IntKind.u64 (↑u:Int)))]) [ah.box [AV.sl 1 false (jl r)]] [])from aG [kc [0] bS,ko (bC.elem [AV.lit (Value.int IntKind.u8 (↑(UInt8.toNat c):Int))]),kp fT,kf (beq_eq_false_iff_ne.2 c1),kt hz9,kf (decide_eq_false c5),kc [0] (show ak P G 185 [AV.ptr 0 0,Am.bool (decide ((↑(UInt8.toNat c):Int)<=(1:Int)))] [ah.box [AV.sl 1 false (jl r)]] (aS.Ay (AV.qX 36 (int 10))) [ah.box [AV.sl 1 false (jl r)]]from(by have h0:=(@Go.yU.aV (ah.box [AV.sl 1 false (jl r)]) (decide ((↑(UInt8.toNat c):Int)<=(1:Int))));simp only[yK (show ¬(decide ((↑(UInt8.toNat c):Int)<=(1:Int))=true)from Bool.eq_false_iff.1 (decide_eq_false c7))]at h0;exact h0))] (aB 38 [2]) 1 zQ)) eX (eB.af2 ⟨rfl,(aF.int_eq e1),yO⟩ eH)
def SX:List UInt8->Nat->Nat->Bool×Nat×List UInt8
 |[],u,_=>(false,u,[])
 |c::r,u,i=>if(i≠0/\c.toNat=0)\/(9<=i/\1<c.toNat)then(false,u,r)
  else if c.toNat<128 then(true,u+c.toNat % 128*2^(7*i),r)else SX r (u+c.toNat % 128*2^(7*i)) (i+1)
theorem avz:∀(l:List UInt8)(u i:Nat),l.length<=1000000000->u<2^(7*i)->i<=9 ->
 bN P G none 1 (vg P 260 0) (avY l u i) (if(SX l u i).1=true then .ret else .Ay aO) { aL:=aC 38 [(2,u64 (SX l u i).2.1)],H:=dH (SX l u i).2.2 }
 |[],u,i,_,_,_=>axz u i _ rfl
 |c::r,u,i,hl,hu,hi=>by
  have hl':r.length<=999999999:=by simp at hl;omega
  have hc8:c.toNat<256:=c.toNat_lt;have go:(i=9->c.toNat<=1)->¬(c.toNat<128)->¬(i≠0/\c.toNat=0)->bN P G none 1 (vg P 260 0) { aL:=aC 38 [(0,AV.ptr 0 0),(2,AV.lit (Value.int IntKind.u64 (VF u c i))),(3,int (↑(i+1):Int))],H:=[ah.box [AV.sl 1 false (jl r)]] }
   (if(SX (c::r) u i).1=true then .ret else .Ay aO) { aL:=aC 38 [(2,u64 (SX (c::r) u i).2.1)],H:=dH (SX (c::r) u i).2.2 }:=fun h9 hc h0=>by
   have hi':i<=8:=by
    rcases Nat.lt_or_eq_of_le hi with h|h
    .omega
    .have:=h9 h;omega
   rw[Sg hu hi h9];have e:SX (c::r) u i=SX r (u+c.toNat % 128*2^(7*i)) (i+1):=by
    simp only[SX];rw[yK zO,yK hc]
   rw[e];exact avz r _ (i+1) zO (nH hu hi h9).1 zO
  have fin:(i=9->c.toNat<=1)->c.toNat<128->¬(i≠0/\c.toNat=0)->SX (c::r) u i=(true,u+c.toNat % 128*2^(7*i),r):=fun h9 hc h0=>by
   simp only[SX];rw[yK zO,yL hc]
  have bad:(i≠0/\c.toNat=0)\/(9<=i/\1<c.toNat)->SX (c::r) u i=(false,u,r):=fun h=>by
   simp only[SX];rw[yL h]
  refine awE c r hl' u i hi _ _ _ ⟨fun h0=>⟨fun hc=>?_,fun hc=>go zO zO zO⟩,fun h0=>⟨fun hz=>?_,fun hz=>⟨fun h9=>⟨fun hc=>?_,fun hc=>go zO zO zO⟩,fun h9=>⟨fun h1=>?_,fun h1=>?_⟩⟩⟩⟩
  .rw [fin zO zO zO];exact⟨rfl,Sg hu hi zO,rfl⟩
  .rw [bad (.inl zO)];exact⟨rfl,rfl,rfl⟩
  .rw [fin zO zO zO];exact⟨rfl,Sg hu hi zO,rfl⟩
  .rw [fin zO zO zO];exact⟨rfl,Sg hu hi zO,rfl⟩
  .rw [bad (.inr zO)];exact⟨rfl,rfl,rfl⟩
def Qu(l:List UInt8):Bool:=(SX l 0 0).1
def Cn(l:List UInt8):Nat:=(SX l 0 0).2.1
def Co(l:List UInt8):List UInt8:=(SX l 0 0).2.2
theorem axR(l:List UInt8)(hl:l.length<=1000000000):bN P G none 1 (vg P 260 0) (avY l 0 0) (if Qu l=true then .ret else .Ay aO) { aL:=aC 38 [(2,u64 (Cn l))],H:=dH (Co l) } :=
 avz l 0 0 hl zS zO
theorem awG(l:List UInt8)(hl:l.length<=1000000000)(out:aS)(h:(((Qu l=true)->aS.ret (AV.lit (Value.int IntKind.u64 (↑(Cn l):Int)))=out)/\((¬Qu l=true)->aS.Ay (AV.qX 36 (int 10))=out))):ak P G 260 [AV.ptr 0 0] (dH l) out (dH (Co l)):=by
 by_cases c1:(Qu l=true)
 .have h:=h.1 c1;have e1:=h;exact e1▸((show ak P G 260 [AV.ptr 0 0] (dH l) (aS.ret (AV.lit (Value.int IntKind.u64 (↑(Cn l):Int)))) [ah.box [AV.sl 1 false (jl (Co l))]]from aj [kl [1,4,5,6,7,8,9,10,11,12,13,14,15,16,17,18,19,20,21,22,23,24,25,26,27,28,29,30,31,32,33,34,35,36,37] 1 (show bN P G none 1 (vg P 260 0) (St.mk (aC 38 [(0,AV.ptr 0 0),(2,AV.lit (Value.int IntKind.u64 0)),(3,int 0)]) [ah.box [AV.sl 1 false (jl l)]] []) bF.ret (St.mk (aC 38 [(2,AV.lit (Value.int IntKind.u64 (↑(Cn l):Int)))]) [ah.box [AV.sl 1 false (jl (Co l))]] [])from(by have h0:=(@Go.yU.axR (l) zO);simp only[yL c1]at h0;exact h0))] zQ))
 .have h:=h.2 c1;have e1:=h;exact e1▸((show ak P G 260 [AV.ptr 0 0] (dH l) (aS.Ay (AV.qX 36 (int 10))) [ah.box [AV.sl 1 false (jl (Co l))]]from aj [kl [1,4,5,6,7,8,9,10,11,12,13,14,15,16,17,18,19,20,21,22,23,24,25,26,27,28,29,30,31,32,33,34,35,36,37] 1 (show bN P G none 1 (vg P 260 0) (St.mk (aC 38 [(0,AV.ptr 0 0),(2,AV.lit (Value.int IntKind.u64 0)),(3,int 0)]) [ah.box [AV.sl 1 false (jl l)]] []) (bF.Ay (AV.qX 36 (int 10))) (St.mk (aC 38 [(2,AV.lit (Value.int IntKind.u64 (↑(Cn l):Int)))]) [ah.box [AV.sl 1 false (jl (Co l))]] [])from(by have h0:=(@Go.yU.axR (l) zO);simp only[yK c1]at h0;exact h0))] zQ))
theorem vB(l:List UInt8)(hl:l.length<=1000000000):ak P G 260 [.ptr 0 0] (dH l) (if Qu l=true then .ret (u64 (Cn l))else .Ay aO) (dH (Co l)) :=
 awG l hl _ ⟨fun h=>by rw[yL h],fun h=>by rw[yK h];rfl⟩
theorem sD(n:Int):IntKind.wrap .u64 n=n % 18446744073709551616:=by
 show(let m:=n % (2^64:Int);if(IntKind.u64.signed&&m>=(2^(64-1):Int))=true then m-(2^64:Int)else m)=_;simp[IntKind.signed]
def vP(n:Int):Nat:=if 0<=n then 2*n.toNat else 2*(-(n+1)).toNat+1
theorem abq(n:Int):Vv P G 213 [int n] [] [] =
 some (aS.ret (AV.lit (Value.int IntKind.u64 (IntKind.wrap IntKind.u64 (↑(BitVec.toNat (BitVec.ofInt (IntKind.bits IntKind.u64) (IntKind.wrap IntKind.u64 (IntKind.wrap IntKind.u64 n*2^min (Int.toNat 1) (IntKind.bits IntKind.u64))) ^^^ BitVec.ofInt (IntKind.bits IntKind.u64) (IntKind.wrap IntKind.u64 (Int.fdiv n (2^min (Int.toNat 63) (IntKind.bits IntKind.i64)))))):Int)))),[],[(0:Int)<=(1:Int),(0:Int)<=(63:Int)]):=zQ
theorem amh(n:Int)(v:Int)(h:(IntKind.wrap IntKind.u64 (↑(BitVec.toNat (BitVec.ofInt (IntKind.bits IntKind.u64) (IntKind.wrap IntKind.u64 (IntKind.wrap IntKind.u64 n*2^min (Int.toNat 1) (IntKind.bits IntKind.u64))) ^^^ BitVec.ofInt (IntKind.bits IntKind.u64) (IntKind.wrap IntKind.u64 (Int.fdiv n (2^min (Int.toNat 63) (IntKind.bits IntKind.i64)))))):Int):Int)=(v)):Cq 213 [int n] (AV.lit (Value.int IntKind.u64 v)):=by
 have e1:=h;exact ak.out (xq _ (abq n) ⟨zO,zO,yO⟩) (aF.int_eq e1)
theorem Sn{n:Int}(hn : -9223372036854775808<=n/\n<9223372036854775808):vP n<18446744073709551616:=by grind[vP]
theorem ahZ{n:Int}(hn : -9223372036854775808<=n/\n<9223372036854775808):IntKind.wrap IntKind.u64 (↑(BitVec.toNat (BitVec.ofInt (IntKind.bits IntKind.u64) (IntKind.wrap IntKind.u64 (IntKind.wrap IntKind.u64 n*2^min (Int.toNat 1) (IntKind.bits IntKind.u64))) ^^^ BitVec.ofInt (IntKind.bits IntKind.u64) (IntKind.wrap IntKind.u64 (Int.fdiv n (2^min (Int.toNat 63) (IntKind.bits IntKind.i64)))))):Int)=(vP n:Int):=by
 have e1:min (Int.toNat 1) (IntKind.bits IntKind.u64)=1:=zD
 have e2:min (Int.toNat 63) (IntKind.bits IntKind.i64)=63:=zD
 have e3:(2:Int)^63=9223372036854775808:=zD
 rw[e1,e2,e3];unfold vP;by_cases h:0<=n
 .rw [yL h];have f1:Int.fdiv n 9223372036854775808=((0:Nat):Int):=by rw[Int.fdiv_eq_ediv_of_nonneg _ zD];omega
  have f2:IntKind.wrap IntKind.u64 n=((n.toNat:Nat):Int):=by rw[sD];omega
  have f3:IntKind.wrap IntKind.u64 (((n.toNat:Nat):Int)*2^1)=((2*n.toNat:Nat):Int):=by rw[sD];omega
  have f4:IntKind.wrap IntKind.u64 ((0:Nat):Int)=((0:Nat):Int):=zD
  rw[f1,f2,f3,f4,BitVec.toNat_xor,wM,wM];have f5:(2*n.toNat) % 2^IntKind.bits IntKind.u64 ^^^ 0 % 2^IntKind.bits IntKind.u64=2*n.toNat:=by
   show(2*n.toNat) % 2^64 ^^^ 0 % 2^64=_;rw[Nat.zero_mod,Nat.xor_zero,Nat.mod_eq_of_lt zO]
  rw[f5,wrap64 zO]
 .rw [yK h];have f1:Int.fdiv n 9223372036854775808 = -1:=by rw[Int.fdiv_eq_ediv_of_nonneg _ zD];omega
  have f4:IntKind.wrap IntKind.u64 (-1)=((18446744073709551615:Nat):Int):=zD
  have f3:IntKind.wrap IntKind.u64 (IntKind.wrap IntKind.u64 n*2^1)=((18446744073709551614-2*(-(n+1)).toNat:Nat):Int):=by rw[sD,sD];omega
  rw[f1,f3,f4];have f6:BitVec.ofInt 64 ((18446744073709551615:Nat):Int)=BitVec.allOnes 64:=zD
  show IntKind.wrap IntKind.u64 ((BitVec.ofInt 64 ((18446744073709551614-2*(-(n+1)).toNat:Nat):Int) ^^^ BitVec.ofInt 64 ((18446744073709551615:Nat):Int)).toNat:Int)=_;rw[f6,BitVec.xor_allOnes,BitVec.toNat_not,wM,Nat.mod_eq_of_lt zO];have h7:(2:Nat)^64=18446744073709551616:=zD
  rw[h7,wrap64 zO];omega
theorem ae5(n:Int)(hn : -9223372036854775808<=n/\n<9223372036854775808):Cq 213 [int n] (u64 (vP n)):=amh n _ (ahZ hn)
def um:Nat->Nat->List UInt8
 |0,_=>[]
 |f+1,u=>if u<128 then[]else UInt8.ofNat (u % 128+128)::um f (u/128)
def xX:Nat->Nat->Nat
 |0,u=>u
 |f+1,u=>if u<128 then u else xX f (u/128)
def num(u:Nat):List UInt8:=um 9 u++[UInt8.ofNat (xX 9 u)]
theorem JK:∀(f u:Nat),u<128*128^f->xX f u<128
 |0,u,h=>by simpa[xX]using h
 |f+1,u,h=>by
  simp only[xX];split
  .assumption
  .exact JK f (u/128) (by rw[Nat.pow_succ]at h;omega)
theorem JL:∀(f u:Nat),(um f u).length<=f
 |0,_=>Nat.le_refl _
 |f+1,u=>by
  simp only[um];split
  .simp
  .have:=JL f (u/128);simp;omega
theorem Nz(u:Nat):(num u).length<=10/\1<=(num u).length:=by grind[JL,num,yD,yE,length_nil]
def SY(xs:List (List AV))(g u:Nat):St:={ aL:=aC 20 [(0,.aU 0 g 0 xs.length),(1,u64 u)],H:=[.aN g 1 false xs] }
theorem WW(xs:List (List AV))(g:Nat)(u:Nat):Dv P G none 1 (vg P 212 0) (SY xs g u) [bC.br false] (aB 20 [0,1]) 1 =
 some (bF.exit 0,{ aL:=aC 20 [(0,AV.aU 0 g 0 (length xs)),(1,AV.lit (Value.int IntKind.u64 (↑u:Int)))],H:=[ah.aN g 1 false xs] },[decide ((↑u:Int)>=(128:Int))=false]):=zQ
theorem abr(xs:List (List AV))(g u:Nat)(hu:u<128)(h:True):Rq 1 212 0 (SY xs g u) (bF.exit 0) { aL:=aC 20 [(0,AV.aU 0 g 0 (length xs)),(1,u64 u)],H:=[ah.aN g 1 false xs] }:=by
 exact bN.exit _ _ _ (WW xs g u) ⟨(decide_eq_false zO),yO⟩
theorem S9(xs:List (List AV))(g:Nat)(u:Nat):tJ P G none 1 (vg P 212 0) (SY xs g u) [bC.br true] (aB 20 [0,1]) 1 =
 some ({ aL:=aC 20 [(0,AV.aU 0 (g+1) 0 (length xs+1)),(1,AV.lit (Value.int IntKind.u64 (Int.fdiv (↑u:Int) (2^min (Int.toNat 7) (IntKind.bits IntKind.u64)))))],H:=[ah.aN (g+1) 1 false (xs++[[AV.lit (Value.int IntKind.u8 (IntKind.wrap IntKind.u8 (↑(BitVec.toNat (BitVec.ofInt (IntKind.bits IntKind.u8) (IntKind.wrap IntKind.u8 (↑u:Int)) ||| BitVec.ofInt (IntKind.bits IntKind.u8) 128)):Int)))]])] },[decide ((↑u:Int)>=(128:Int))=true,g=g,length xs=length xs,(length xs+1)*1<=140737488355328,(0:Int)<=(7:Int)]):=zQ
theorem ad5(xs:List (List AV))(g u:Nat)(hu:¬u<128)(hl:xs.length<=1000000000)(BF:∀x∈xs,AV.aM [] x=true)(ex:bF)(s':St)(h:Rq 1 212 0 { aL:=aC 20 [(0,AV.aU 0 (g+1) 0 (length xs+1)),(1,AV.lit (Value.int IntKind.u64 (Int.fdiv (↑u:Int) (2^min (Int.toNat 7) (IntKind.bits IntKind.u64)))))],H:=[ah.aN (g+1) 1 false (xs++[[AV.lit (Value.int IntKind.u8 (IntKind.wrap IntKind.u8 (↑(BitVec.toNat (BitVec.ofInt (IntKind.bits IntKind.u8) (IntKind.wrap IntKind.u8 (↑u:Int)) ||| BitVec.ofInt (IntKind.bits IntKind.u8) 128)):Int)))]])] } ex s'):Rq 1 212 0 (SY xs g u) ex s':=by
 exact bN.next _ _ _ (S9 xs g u) ⟨(decide_eq_true zO),(rfl),(rfl),zO,zO,yO⟩ h
theorem ad6(xs:List (List AV))(ys:List (List AV))(g:Nat)(g':Nat)(u:Nat)(v:Nat):Vv P G 212 [AV.aU 0 g 0 (length xs),u64 u] [ah.aN g 1 false xs] [bC.loop [2,3,4,5,6,7,8,9,10,11,12,13,14,15,16,17,18,19] 1 (bF.exit 0) [AV.aU 0 g' 0 (length ys),AV.lit (Value.int IntKind.u64 (↑v:Int)),AV.aP,AV.aP,AV.aP,AV.aP,AV.aP,AV.aP,AV.aP,AV.aP,AV.aP,AV.aP,AV.aP,AV.aP,AV.aP,AV.aP,AV.aP,AV.aP,AV.aP,AV.aP] [ah.aN g' 1 false ys]] =
 some (aS.ret (AV.aU 0 (g'+1) 0 (length ys+1)),[ah.aN (g'+1) 1 false (ys++[[AV.lit (Value.int IntKind.u8 (IntKind.wrap IntKind.u8 (↑v:Int)))]])],[Rq 1 212 0 { aL:=aC 20 [(0,AV.aU 0 g 0 (length xs)),(1,AV.lit (Value.int IntKind.u64 (↑u:Int)))],H:=[ah.aN g 1 false xs] } (bF.exit 0) { aL:=aC 20 [(0,AV.aU 0 g' 0 (length ys)),(1,AV.lit (Value.int IntKind.u64 (↑v:Int)))],H:=[ah.aN g' 1 false ys] },g'=g',length ys=length ys,(length ys+1)*1<=140737488355328]):=zQ
theorem aqm(xs ys:List (List AV))(g g' u v:Nat)(hl:ys.length<=1000000000)(hL:Rq 1 212 0 (SY xs g u) (.exit 0) { aL:=aC 20 [(0,.aU 0 g' 0 ys.length),(1,u64 v)],H:=[.aN g' 1 false ys] })(b:Int)(hb:IntKind.wrap .u8 (v:Int)=b)(h:[ah.aN (g'+1) 1 false (ys++[[AV.lit (Value.int IntKind.u8 (IntKind.wrap IntKind.u8 (↑v:Int)))]])]=[ah.aN (g'+1) 1 false (ys++[[AV.lit (Value.int IntKind.u8 b)]])]):ak P G 212 [AV.aU 0 g 0 (length xs),u64 u] [ah.aN g 1 false xs] (aS.ret (AV.aU 0 (g'+1) 0 (length ys+1))) [ah.aN (g'+1) 1 false (ys++[[AV.lit (Value.int IntKind.u8 b)]])]:=by
 have eH:=h;exact ak.heap (xq _ (ad6 xs ys g g' u v) ⟨(@hL ),(rfl),(rfl),zO,yO⟩) eH
theorem digit_eq(u:Nat):IntKind.wrap IntKind.u8 (↑(BitVec.toNat (BitVec.ofInt (IntKind.bits IntKind.u8) (IntKind.wrap IntKind.u8 (↑u:Int)) ||| BitVec.ofInt (IntKind.bits IntKind.u8) 128)):Int)=((UInt8.ofNat (u % 128+128)).toNat:Int):=by
 have e0:(128:Int)=((128:Nat):Int):=rfl;rw[wrap_u8 u,e0,BitVec.toNat_or,wM,wM];show IntKind.wrap IntKind.u8 (((u % 256 % 2^8) ||| (128 % 2^8):Nat):Int)=_;have e1:∀x:Nat,x<256->(x % 2^8) ||| (128 % 2^8)=x % 128+128:=fun x hx=>by
  have a1:=Nat.mod_eq_of_lt hx;have a2:(128 % 2^8:Nat)=2^7*1:=rfl;have a3:=(Nat.two_pow_add_eq_or_of_lt (show x % 128<2^7 from Nat.mod_lt _ zD) 1).symm;rw[a1,a2];rcases Nat.lt_or_ge x 128 with h|h
  .grind
  .have a4:x=2^7*1 ||| x % 128:=by rw[a3];omega
   have a5:x ||| 2^7*1=2^7*1 ||| x % 128:=by grind
   rw[a5,a3];omega
 have:=e1 (u % 256) (Nat.mod_lt _ zD);rw[this,show u % 256 % 128=u % 128 by omega,ae4 zO,UInt8.toNat_ofNat'];congr 1;exact(Nat.mod_eq_of_lt zO).symm
theorem LA{v:Nat}(h:v<128):IntKind.wrap .u8 (v:Int)=((UInt8.ofNat v).toNat:Int):=by
 rw[ae4 zO,UInt8.toNat_ofNat'];congr 1;exact(Nat.mod_eq_of_lt zO).symm
theorem aqn(u:Nat):Int.fdiv (↑u:Int) (2^min (Int.toNat 7) (IntKind.bits IntKind.u64))=((u/128:Nat):Int):=by
 show Int.fdiv (u:Int) (2^7)=_;rw[show(2:Int)^7=128 from by decide,Int.fdiv_eq_ediv_of_nonneg _ zD];omega
theorem UQ:∀(f u g:Nat)(xs:List (List AV)),u<128*128^f->xs.length+f<=1000000000->(∀x∈xs,AV.aM [] x=true) ->
 Rq 1 212 0 (SY xs g u) (.exit 0) { aL:=aC 20 [(0,.aU 0 (g+(um f u).length) 0 (xs++jl (um f u)).length),(1,u64 (xX f u))],H:=[.aN (g+(um f u).length) 1 false (xs++jl (um f u))] }
 |0,u,g,xs,hu,hl,hx=>by
  have e:xs++jl (um 0 u)=xs:=by simp[um,jl]
  rw[e];exact abr xs g u (by simpa using hu) trivial
 |f+1,u,g,xs,hu,hl,hx=>by
  by_cases h:u<128
  .grind [jl,um,xX,abr]
  .refine ad5 xs g u h zO hx _ _ ?_;have ih:=UQ f (u/128) (g+1) (xs++[aa8 (UInt8.ofNat (u % 128+128))]) (by rw[Nat.pow_succ]at hu;omega) (by simp;omega) (by
    intro x hx';rcases yI.1 hx' with h'|h'
    .exact hx x h'
    .rw [mem_singleton.1 h'];rfl)
   simp only[um,xX,h,if_false];rw[digit_eq,aqn];have e2:xs++jl (UInt8.ofNat (u % 128+128)::um f (u/128))=(xs++[aa8 (UInt8.ofNat (u % 128+128))])++jl (um f (u/128)):=by simp[jl]
   have e3:g+(UInt8.ofNat (u % 128+128)::um f (u/128)).length=g+1+(um f (u/128)).length:=by simp;omega
   rw[e2,e3];unfold SY at ih;rw[show(xs++[aa8 (UInt8.ofNat (u % 128+128))]).length=xs.length+1 by simp]at ih;exact ih
theorem WX(xs:List (List AV))(g u:Nat)(hu:u<18446744073709551616)(hl:xs.length<=100000000)(hx:∀x∈xs,AV.aM [] x=true) :
 ak P G 212 [.aU 0 g 0 xs.length,u64 u] [.aN g 1 false xs] (.ret (.aU 0 (g+(num u).length) 0 (xs.length+(num u).length))) [.aN (g+(num u).length) 1 false (xs++jl (num u))]:=by
 have hu':u<128*128^9:=zO
 have hp:=JL 9 u;have:=aqm xs (xs++jl (um 9 u)) g (g+(um 9 u).length) u (xX 9 u) (by simp[eu];omega) (UQ 9 u g xs hu' zO hx) _ (LA (JK 9 u hu')) (by rw[LA (JK 9 u hu')]);have e1:g+(num u).length=g+(um 9 u).length+1:=by simp[num];omega
 have e2:xs++jl (num u)=(xs++jl (um 9 u))++[aa8 (UInt8.ofNat (xX 9 u))]:=by simp[num,jl]
 have e3:xs.length+(num u).length=(xs++jl (um 9 u)).length+1:=by simp[num,eu];omega
 rw[e1,e2,e3];exact this
def WY:Nat->Nat->List UInt8
 |0,u=>[UInt8.ofNat u]
 |f+1,u=>if u<128 then[UInt8.ofNat u]else UInt8.ofNat (u % 128+128)::WY f (u/128)
theorem UR:∀(f u:Nat),WY f u=um f u++[UInt8.ofNat (xX f u)]
 |0,u=>rfl
 |f+1,u=>by
  simp only[WY,um,xX];split
  .rfl
  .rw [UR f (u/128)];rfl
def jg(v:CV):Int:=if wf v=true then(if 16<dp v then 2 else 0)else 1
theorem NM(v:CV)(d:Nat)(b:Bool)(e:Int)(hv:Cq 210 [val v] (.bq [int (if b=true then(d:Int)else 0),bool b]))(h:((((b)=true)->((((if b=true then(d:Int)else 0)>16)->2=e)/\((¬(if b=true then(d:Int)else 0)>16)->0=e)))/\(((b)=false)->1=e))):Cq 111 [val v] (int e):=by
 rcases Bool.eq_false_or_eq_true ((b))with c1|c1
 .have h:=h.1 c1;have fT:(!b)=false:=(yJ Bool.not (c1));by_cases c2:((if b=true then(d:Int)else 0)>16)
  .have h:=h.1 c2;exact aA (aF.int_eq h) [kc [] hv,kf fT,kt (qT c2)]
  .have h:=h.2 c2;exact aA (aF.int_eq h) [kc [] hv,kf fT,kf (qF c2)]
 .have h:=h.2 c1;exact aA (aF.int_eq h) [kc [] hv,kt (show(!b)=true from(yJ Bool.not (c1)))]
theorem fG(v:CV)(dK:QG v)(hd:dp v<=1000001):Cq 111 [val v] (int (jg v)):=by
 have hf:=abo v dK hd;unfold Es at hf;refine NM v (dp v) (wf v) _ hf ⟨fun h=>⟨fun h2=>?_,fun h2=>?_⟩,fun h=>?_⟩
 .rw [yL h]at h2;simp only[jg,h,if_true];rw[yL zO]
 .rw [yL h]at h2;simp only[jg,h,if_true];rw[yK zO]
 .simp [jg,h]
theorem sK(xs:List (List AV))(g u n:Nat)(hn:n=xs.length)(hu:u<18446744073709551616)(hl:xs.length<=100000000)(hx:∀x∈xs,AV.aM [] x=true) :
 ak P G 212 [.aU 0 g 0 n,u64 u] [.aN g 1 false xs] (.ret (.aU 0 (g+(num u).length) 0 (n+(num u).length))) [.aN (g+(num u).length) 1 false (xs++jl (num u))]:=by
 subst hn;exact WX xs g u hu hl hx
def kinds(i j:Nat):List ah:=[.box [.lit .nilFunc,.lit (.func (.func 211) #[] #[]),.lit (.func (.func 214) #[] #[]),.fn (.func 215) [] [.ptr j 0]],.box [.ptr i 0]]
theorem ah0  (h:True):ak P G 112 [] [] (aS.ret (AV.ptr 0 0)) (kinds 0 1):=by
 exact aj [kR (1:Int) (4:Int),kR (2:Int) (4:Int),kR (3:Int) (4:Int)]
mutual
def gT:CV->List UInt8
 |.mk k n s l=>if k=1 then 1::num (vP n)else if k=2 then 2::(num s.size++s.data.toList)else 3::(num l.length++je l)
def je:List CV->List UInt8
 |[]=>[]
 |v::l=>gT v++je l
end
mutual
def Cr:CV->Nat
 |.mk k n s l=>if k=1 then 1+(num (vP n)).length else if k=2 then 2+(num s.size).length else 1+(num l.length).length+u7 l
def u7:List CV->Nat
 |[]=>0
 |v::l=>Cr v+u7 l
end
theorem ah1(a:List UInt8)(g:Nat)(n:Int)(s:yP)(l:List CV)(hn : -9223372036854775808<=n/\n<9223372036854775808)(hu:vP n<18446744073709551616)(hl:a.length<=10000000)(h:(aF (AV.aU 0 (g+1+length (num (vP n))) 0 (length a+1+length (num (vP n)))) (AV.aU 0 (g+(1+length (num (vP n)))) 0 (length (a++1::num (vP n)))))/\([ah.aN (g+1+length (num (vP n))) 1 false (jl a++[[AV.lit (Value.int IntKind.u8 1)]]++jl (num (vP n)))]=[ah.aN (g+(1+length (num (vP n)))) 1 false (jl (a++1::num (vP n)))])):ak P G 211 [.aU 0 g 0 a.length,rR 1 n s l] [ah.aN g 1 false (jl a)] (aS.ret (AV.aU 0 (g+(1+length (num (vP n)))) 0 (length (a++1::num (vP n))))) [ah.aN (g+(1+length (num (vP n)))) 1 false (jl (a++1::num (vP n)))]:=by
 have qj:∀(x:List AV),x∈jl a++[[AV.lit (Value.int IntKind.u8 1)]]++jl (num (vP n))->AV.aM [] x=true:=(by exact(Am.dx (Am.dx (dw _) (Am.dM rfl Am.eU)) (dw _)));obtain⟨e1,eH⟩:=h;exact ak.heap (ak.out ((aj [kq g,kp (eu a).symm,vV ((length a+1)*1),kc [] (@ae5 (n) zO),kc [0] (@sK (jl a++[[AV.lit (Value.int IntKind.u8 1)]]) (g+1) (vP n) (length a+1) (by simp only[yD,yE,length_nil,length_map,eu,dw,iC,eD,j5,jk]<;>omega) zO (by simp only[yD,yE,length_nil,length_map,eu,dw,iC,eD,j5,jk]<;>omega) (by exact(Am.dx (dw _) (Am.dM rfl Am.eU)))),kp qj,kp (show ∀(x:List AV),x∈jl a++[[AV.lit (Value.int IntKind.u8 1)]]->AV.aM [] x=true from(by exact(Am.dx (dw _) (Am.dM rfl Am.eU)))),kp qj])) e1) eH
theorem ah2(n:Int)(s:yP)(l:List CV)(hn : -9223372036854775808<=n/\n<9223372036854775808)(hu:vP n<18446744073709551616)(h:True):Cq 211 [aK,rR 1 n s l] (Cy (1::num (vP n))):=by
 exact aj [Qx [AV.lit (Value.int IntKind.u8 1)],vV 1,kc [] (@ae5 (n) zO),kc [1] (@sK ([[AV.lit (Value.int IntKind.u8 1)]]) (0) (vP n) (1) (rfl) zO (by simp only[yD,yE,length_nil,length_map,eu,dw,iC,eD,j5,jk]<;>omega) (by exact(Am.dM rfl Am.eU))),ko (bC.Gu ([AV.lit (Value.int IntKind.u8 1)]::jl (num (vP n)))),kp (show ∀(x:List AV),x∈[[AV.lit (Value.int IntKind.u8 1)]]++jl (num (vP n))->AV.aM [] x=true from(by exact(Am.dx (Am.dM rfl Am.eU) (dw _)))),kp (show ∀(x:List AV),x∈[[AV.lit (Value.int IntKind.u8 1)]]->AV.aM [] x=true from(by exact(Am.dM rfl Am.eU))),kp (show 0+length (num (vP n))=0+length (num (vP n))from(rfl)),XV (1+length (num (vP n))) ([AV.lit (Value.int IntKind.u8 1)]::jl (num (vP n))) (by simp only[yD,yE,length_nil,length_map,eu,dw,iC,eD,j5,jk]<;>omega),kp (show length ([AV.lit (Value.int IntKind.u8 1)]::jl (num (vP n)))=1+length (num (vP n))from(by simp only[yD,yE,length_nil,length_map,eu,dw,iC,eD,j5,jk]<;>omega)),kp (show ∀(c:List AV),c∈[AV.lit (Value.int IntKind.u8 1)]::jl (num (vP n))->List.all c AV.fJ=true from(by exact(Am.dM rfl (iC _))))]
theorem ah3(a:List UInt8)(g:Nat)(n:Int)(s:yP)(l:List CV)(hs:s.size<=10000000)(hl:a.length<=10000000)(h:(((length a+1+length (num (ByteArray.size s % 18446744073709551616))+length (List.map (fun(c:UInt8)=>[AV.lit (Value.int IntKind.u8 (↑(UInt8.toNat c):Int))]) (Array.toList (ByteArray.data s))))*1<=140737488355328)/\(aF (AV.aU 0 (g+1+length (num (ByteArray.size s % 18446744073709551616))+1) 0 (length a+1+length (num (ByteArray.size s % 18446744073709551616))+length (List.map (fun(c:UInt8)=>[AV.lit (Value.int IntKind.u8 (↑(UInt8.toNat c):Int))]) (Array.toList (ByteArray.data s))))) (AV.aU 0 (g+(2+length (num (ByteArray.size s)))) 0 (length (a++2::(num (ByteArray.size s)++Array.toList (ByteArray.data s))))))/\([ah.aN (g+1+length (num (ByteArray.size s % 18446744073709551616))+1) 1 false (jl a++[[AV.lit (Value.int IntKind.u8 2)]]++jl (num (ByteArray.size s % 18446744073709551616))++List.map (fun(c:UInt8)=>[AV.lit (Value.int IntKind.u8 (↑(UInt8.toNat c):Int))]) (Array.toList (ByteArray.data s)))]=[ah.aN (g+(2+length (num (ByteArray.size s)))) 1 false (jl (a++2::(num (ByteArray.size s)++Array.toList (ByteArray.data s))))]))):ak P G 214 [.aU 0 g 0 a.length,rR 2 n s l] [ah.aN g 1 false (jl a)] (aS.ret (AV.aU 0 (g+(2+length (num (ByteArray.size s)))) 0 (length (a++2::(num (ByteArray.size s)++Array.toList (ByteArray.data s)))))) [ah.aN (g+(2+length (num (ByteArray.size s)))) 1 false (jl (a++2::(num (ByteArray.size s)++Array.toList (ByteArray.data s))))]:=by
 obtain⟨o1,h⟩:=h;obtain⟨e1,eH⟩:=h;exact ak.heap (ak.out ((aj [kq g,kp (eu a).symm,vV ((length a+1)*1),kc [0] (@sK (jl a++[[AV.lit (Value.int IntKind.u8 2)]]) (g+1) (ByteArray.size s % 18446744073709551616) (length a+1) (by simp only[yD,yE,length_nil,length_map,eu,dw,iC,eD,j5,jk]<;>omega) zO (by simp only[yD,yE,length_nil,length_map,eu,dw,iC,eD,j5,jk]<;>omega) (by exact(Am.dx (dw _) (Am.dM rfl Am.eU)))),kp (show ∀(x:List AV),x∈jl a++[[AV.lit (Value.int IntKind.u8 2)]]++jl (num (ByteArray.size s % 18446744073709551616))->AV.aM [] x=true from(by exact(Am.dx (Am.dx (dw _) (Am.dM rfl Am.eU)) (dw _)))),kp (show ∀(x:List AV),x∈jl a++[[AV.lit (Value.int IntKind.u8 2)]]->AV.aM [] x=true from(by exact(Am.dx (dw _) (Am.dM rfl Am.eU)))),kp (show g+1+length (num (ByteArray.size s % 18446744073709551616))=g+1+length (num (ByteArray.size s % 18446744073709551616))from(rfl)),kp (show length a+1+length (num (ByteArray.size s % 18446744073709551616))=length (jl a++[[AV.lit (Value.int IntKind.u8 2)]]++jl (num (ByteArray.size s % 18446744073709551616)))from(by simp only[yD,yE,length_nil,length_map,eu,dw,iC,eD,j5,jk]<;>omega)),kp o1,kp (show ∀(x:List AV),x∈jl a++[[AV.lit (Value.int IntKind.u8 2)]]++jl (num (ByteArray.size s % 18446744073709551616))++List.map (fun(c:UInt8)=>[AV.lit (Value.int IntKind.u8 (↑(UInt8.toNat c):Int))]) (Array.toList (ByteArray.data s))->AV.aM [] x=true from(by exact(Am.dx (Am.dx (Am.dx (dw _) (Am.dM rfl Am.eU)) (dw _)) (j5 _))))])) e1) eH
theorem ah4(n:Int)(s:yP)(l:List CV)(hs:s.size<=10000000)(h:(((1+length (num (ByteArray.size s % 18446744073709551616))+length (List.map (fun(c:UInt8)=>[AV.lit (Value.int IntKind.u8 (↑(UInt8.toNat c):Int))]) (Array.toList (ByteArray.data s))))*1<=140737488355328)/\([AV.lit (Value.int IntKind.u8 2)]::jl (num (ByteArray.size s % 18446744073709551616))++List.map (fun(c:UInt8)=>[AV.lit (Value.int IntKind.u8 (↑(UInt8.toNat c):Int))]) (Array.toList (ByteArray.data s)))=(jl (2::(num (ByteArray.size s)++Array.toList (ByteArray.data s)))))):Cq 214 [aK,rR 2 n s l] (Cy (2::(num (ByteArray.size s)++Array.toList (ByteArray.data s)))):=by
 obtain⟨o1,h⟩:=h;have e1:=h;exact ak.out ((show Cq 214 [aK,rR 2 n s l] (.sl 1 false ([.lit (Value.int IntKind.u8 2)]::jl (num (ByteArray.size s % 18446744073709551616))++List.map (fun(c:UInt8)=>[.lit (Value.int IntKind.u8 (↑(UInt8.toNat c):Int))]) (Array.toList (ByteArray.data s))))from aj [Qx [AV.lit (Value.int IntKind.u8 2)],vV 1,kc [1] (@sK ([[AV.lit (Value.int IntKind.u8 2)]]) (0) (ByteArray.size s % 18446744073709551616) (1) (rfl) zO (by simp only[yD,yE,length_nil,length_map,eu,dw,iC,eD,j5,jk]<;>omega) (by exact(Am.dM rfl Am.eU))),ko (bC.Gu ([AV.lit (Value.int IntKind.u8 2)]::jl (num (ByteArray.size s % 18446744073709551616))++List.map (fun(c:UInt8)=>[AV.lit (Value.int IntKind.u8 (↑(UInt8.toNat c):Int))]) (Array.toList (ByteArray.data s)))),kp (show ∀(x:List AV),x∈[[AV.lit (Value.int IntKind.u8 2)]]++jl (num (ByteArray.size s % 18446744073709551616))->AV.aM [] x=true from(by exact(Am.dx (Am.dM rfl Am.eU) (dw _)))),kp (show ∀(x:List AV),x∈[[AV.lit (Value.int IntKind.u8 2)]]->AV.aM [] x=true from(by exact(Am.dM rfl Am.eU))),kp (show 0+length (num (ByteArray.size s % 18446744073709551616))=0+length (num (ByteArray.size s % 18446744073709551616))from(rfl)),kp (show 1+length (num (ByteArray.size s % 18446744073709551616))=length ([AV.lit (Value.int IntKind.u8 2)]::jl (num (ByteArray.size s % 18446744073709551616)))from(by simp only[yD,yE,length_nil,length_map,eu,dw,iC,eD,j5,jk]<;>omega)),kp o1,kp (show 0+length (num (ByteArray.size s % 18446744073709551616))+1=0+length (num (ByteArray.size s % 18446744073709551616))+1 from(rfl)),XV (1+length (num (ByteArray.size s % 18446744073709551616))+length (List.map (fun(c:UInt8)=>[AV.lit (Value.int IntKind.u8 (↑(UInt8.toNat c):Int))]) (Array.toList (ByteArray.data s)))) ([AV.lit (Value.int IntKind.u8 2)]::jl (num (ByteArray.size s % 18446744073709551616))++List.map (fun(c:UInt8)=>[AV.lit (Value.int IntKind.u8 (↑(UInt8.toNat c):Int))]) (Array.toList (ByteArray.data s))) (by simp only[yD,yE,length_nil,length_map,eu,dw,iC,eD,j5,jk]<;>omega),kp (show length ([AV.lit (Value.int IntKind.u8 2)]::jl (num (ByteArray.size s % 18446744073709551616))++List.map (fun(c:UInt8)=>[AV.lit (Value.int IntKind.u8 (↑(UInt8.toNat c):Int))]) (Array.toList (ByteArray.data s)))=1+length (num (ByteArray.size s % 18446744073709551616))+length (List.map (fun(c:UInt8)=>[AV.lit (Value.int IntKind.u8 (↑(UInt8.toNat c):Int))]) (Array.toList (ByteArray.data s)))from(by simp only[yD,yE,length_nil,length_map,eu,dw,iC,eD,j5,jk]<;>omega)),kp (show ∀(c:List AV),c∈[AV.lit (Value.int IntKind.u8 2)]::jl (num (ByteArray.size s % 18446744073709551616))++List.map (fun(c:UInt8)=>[AV.lit (Value.int IntKind.u8 (↑(UInt8.toNat c):Int))]) (Array.toList (ByteArray.data s))->List.all c AV.fJ=true from(by exact(Am.dx (Am.dM rfl (iC _)) (jk _))))])) (aF.GJ e1)
def WZ(xs:List (List AV))(N g:Nat)(n0:Int)(s0:yP)(l:List CV)(i:Nat):St:={ aL:=aC 35 [(0,.aU 0 g 0 N),(2,.ptr 2 0),(17,.sl 4 false (iB l)),(18,int l.length),(19,int i)],H:=.aN g 1 false xs::(kinds 1 2++[.box [int 3,int n0,str s0,.sl 4 false (iB l)]]) }
theorem ah5(xs:List (List AV))(N g:Nat)(n0:Int)(s0:yP)(l:List CV)(i:Nat)(hi:l.length<=i)(h:True):Rq 3 215 0 (WZ xs N g n0 s0 l i) (bF.exit 0) (St.mk (aC 35 [(0,AV.aU 0 g 0 N)]) (ah.aN g 1 false xs::(kinds 1 2++[ah.box [int 3,int n0,str s0,AV.sl 4 false (iB l)]])) []):=by
 exact aG [kj ((i:Int)<l.length)] (aB 35 [0]) 4
theorem abt(xs ys:List (List AV))(N M g g':Nat)(n0:Int)(s0:yP)(l:List CV)(i:Nat)(n:Int)(s:yP)(m:List CV)(hi:i<l.length)(hl:l.length<=9223372036854775807)(hx:l[i]?=some (.mk 1 n s m))(hv:ak P G 211 [.aU 0 g 0 N,rR 1 n s m] [.aN g 1 false xs] (.ret (.aU 0 g' 0 M)) [.aN g' 1 false ys])(ex:bF)(s':St)(h:(((0:Int)<=CV.k (CV.mk 1 n s m)/\CV.k (CV.mk 1 n s m)<4)/\((∀(x:List AV),x∈ys->AV.aM [] x=true)/\((∀(x:List AV),x∈xs->AV.aM [] x=true)/\Rq 3 215 0 (sM 35 [(0,.aU 0 g' 0 M),(2,.ptr 2 0),(17,.sl 4 false (iB l)),(18,int ↑l.length),(19,int ↑(i+1))] [.aN g' 1 false ys,.box [.lit Value.nilFunc,iL 211,iL 214,.fn (Fn.func 215) [] [.ptr 2 0]],.box [.ptr 1 0],.box [int 3,int n0,str s0,.sl 4 false (iB l)]]) ex s')))):Rq 3 215 0 (WZ xs N g n0 s0 l i) ex s':=by
 obtain⟨o2,h⟩:=h;obtain⟨o3,h⟩:=h;obtain⟨o4,h⟩:=h;exact aJ [ki ((i:Int)<l.length),ko (bC.elem (aQ (CV.mk 1 n s m))),kp (show(0:Int)<=(i:Int)/\(iB l)[Int.toNat (i:Int)]?=some (aQ (CV.mk 1 n s m))from(by rw[lC];exact bG hx)),kp o2,kc [0] hv,kp o3,kp o4,kW 33 (i+1) ↑(i+1),kp (show ∀(x:List AV),x∈ys->AV.aM [] x=true from zO)] (aB 35 [0,2,17,18,19]) 4 h
theorem abu(xs ys:List (List AV))(N M g g':Nat)(n0:Int)(s0:yP)(l:List CV)(i:Nat)(n:Int)(s:yP)(m:List CV)(hi:i<l.length)(hl:l.length<=9223372036854775807)(hx:l[i]?=some (.mk 2 n s m))(hv:ak P G 214 [.aU 0 g 0 N,rR 2 n s m] [.aN g 1 false xs] (.ret (.aU 0 g' 0 M)) [.aN g' 1 false ys])(ex:bF)(s':St)(h:(((0:Int)<=CV.k (CV.mk 2 n s m)/\CV.k (CV.mk 2 n s m)<4)/\((∀(x:List AV),x∈ys->AV.aM [] x=true)/\((∀(x:List AV),x∈xs->AV.aM [] x=true)/\Rq 3 215 0 (sM 35 [(0,.aU 0 g' 0 M),(2,.ptr 2 0),(17,.sl 4 false (iB l)),(18,int ↑l.length),(19,int ↑(i+1))] [.aN g' 1 false ys,.box [.lit Value.nilFunc,iL 211,iL 214,.fn (Fn.func 215) [] [.ptr 2 0]],.box [.ptr 1 0],.box [int 3,int n0,str s0,.sl 4 false (iB l)]]) ex s')))):Rq 3 215 0 (WZ xs N g n0 s0 l i) ex s':=by
 obtain⟨o2,h⟩:=h;obtain⟨o3,h⟩:=h;obtain⟨o4,h⟩:=h;exact aJ [ki ((i:Int)<l.length),ko (bC.elem (aQ (CV.mk 2 n s m))),kp (show(0:Int)<=(i:Int)/\(iB l)[Int.toNat (i:Int)]?=some (aQ (CV.mk 2 n s m))from(by rw[lC];exact bG hx)),kp o2,kc [0] hv,kp o3,kp o4,kW 33 (i+1) ↑(i+1),kp (show ∀(x:List AV),x∈ys->AV.aM [] x=true from zO)] (aB 35 [0,2,17,18,19]) 4 h
theorem abv(xs ys:List (List AV))(N M g g':Nat)(n0:Int)(s0:yP)(l:List CV)(i:Nat)(n:Int)(s:yP)(m:List CV)(hi:i<l.length)(hl:l.length<=9223372036854775807)(hx:l[i]?=some (.mk 3 n s m))(hv:ak P G 215 [.aU 0 g 0 N,rR 3 n s m,.ptr 2 0] (.aN g 1 false xs::kinds 1 2) (.ret (.aU 0 g' 0 M)) (.aN g' 1 false ys::kinds 1 2))(ex:bF)(s':St)(h:(((0:Int)<=CV.k (CV.mk 3 n s m)/\CV.k (CV.mk 3 n s m)<4)/\((∀(x:List AV),x∈ys->AV.aM [] x=true)/\((∀(x:List AV),x∈xs->AV.aM [] x=true)/\Rq 3 215 0 (sM 35 [(0,.aU 0 g' 0 M),(2,.ptr 2 0),(17,.sl 4 false (iB l)),(18,int ↑l.length),(19,int ↑(i+1))] [.aN g' 1 false ys,.box [.lit Value.nilFunc,iL 211,iL 214,.fn (Fn.func 215) [] [.ptr 2 0]],.box [.ptr 1 0],.box [int 3,int n0,str s0,.sl 4 false (iB l)]]) ex s')))):Rq 3 215 0 (WZ xs N g n0 s0 l i) ex s':=by
 obtain⟨o2,h⟩:=h;obtain⟨o3,h⟩:=h;obtain⟨o4,h⟩:=h;exact aJ [ki ((i:Int)<l.length),ko (bC.elem (aQ (CV.mk 3 n s m))),kp (show(0:Int)<=(i:Int)/\(iB l)[Int.toNat (i:Int)]?=some (aQ (CV.mk 3 n s m))from(by rw[lC];exact bG hx)),kp o2,kc [0,1,2] hv,kp o3,kp o4,kW 33 (i+1) ↑(i+1),kp (show ∀(x:List AV),x∈ys->AV.aM [] x=true from zO)] (aB 35 [0,2,17,18,19]) 4 h
theorem ah6(a b:List UInt8)(g g':Nat)(n:Int)(s:yP)(l:List CV)(hs:l.length<=10000000)(hl:a.length<=10000000)(hL:Rq 3 215 0 (WZ (jl a++[[.lit (.int .u8 3)]]++jl (num (l.length % 18446744073709551616))) (a.length+1+(num (l.length % 18446744073709551616)).length) (g+1+(num (l.length % 18446744073709551616)).length) n s l 0) (.exit 0) { aL:=aC 35 [(0,.aU 0 g' 0 b.length)],H:=.aN g' 1 false (jl b)::(kinds 1 2++[.box [int 3,int n,str s,.sl 4 false (iB l)]]) })(h:True):ak P G 215 [.aU 0 g 0 a.length,rR 3 n s l,.ptr 2 0] (ah.aN g 1 false (jl a)::kinds 1 2) (aS.ret (AV.aU 0 g' 0 b.length)) (ah.aN g' 1 false (jl b)::kinds 1 2):=by
 have x9:=lU (fA l);exact aj [kq g,kp (eu a).symm,vV ((length a+1)*1),kv 13 x9,kc [0] (@sK (jl a++[[AV.lit (Value.int IntKind.u8 3)]]) (g+1) (length l % 18446744073709551616) (length a+1) (by simp only[yD,yE,length_nil,length_map,eu,dw,iC,fA]<;>omega) zO (by simp only[yD,yE,length_nil,length_map,eu,dw,iC,fA]<;>omega) (by exact(Am.dx (dw _) (Am.dM rfl Am.eU)))),kp (show ∀(x:List AV),x∈jl a++[[AV.lit (Value.int IntKind.u8 3)]]++jl (num (length l % 18446744073709551616))->AV.aM [] x=true from(by exact(Am.dx (Am.dx (dw _) (Am.dM rfl Am.eU)) (dw _)))),kp (show ∀(x:List AV),x∈jl a++[[AV.lit (Value.int IntKind.u8 3)]]->AV.aM [] x=true from(by exact(Am.dx (dw _) (Am.dM rfl Am.eU)))),kv 18 x9,kl (rG [(1,1),(3,14),(20,15)]) 4 hL,kp (dw b)]
def W9(xs:List (List AV))(N g:Nat)(n0:Int)(s0:yP)(l:List CV)(i:Nat):St:={ aL:=aC 35 [(0,.aU 3 g 0 N),(2,.ptr 1 0),(17,.sl 4 false (iB l)),(18,int l.length),(19,int i)],H:=kinds 0 1++[.box [int 3,int n0,str s0,.sl 4 false (iB l)],.aN g 1 false xs] }
theorem ah7(xs:List (List AV))(N g:Nat)(n0:Int)(s0:yP)(l:List CV)(i:Nat)(hi:l.length<=i)(h:True):Rq 2 215 0 (W9 xs N g n0 s0 l i) (bF.exit 0) (St.mk (aC 35 [(0,AV.aU 3 g 0 N)]) (kinds 0 1++[ah.box [int 3,int n0,str s0,AV.sl 4 false (iB l)],ah.aN g 1 false xs]) []):=by
 exact aG [kj ((i:Int)<l.length)] (aB 35 [0]) 4
theorem abw(xs ys:List (List AV))(N M g g':Nat)(n0:Int)(s0:yP)(l:List CV)(i:Nat)(n:Int)(s:yP)(m:List CV)(hi:i<l.length)(hl:l.length<=9223372036854775807)(hx:l[i]?=some (.mk 1 n s m))(hv:ak P G 211 [.aU 0 g 0 N,rR 1 n s m] [.aN g 1 false xs] (.ret (.aU 0 g' 0 M)) [.aN g' 1 false ys])(ex:bF)(s':St)(h:(((0:Int)<=CV.k (CV.mk 1 n s m)/\CV.k (CV.mk 1 n s m)<4)/\((∀(x:List AV),x∈ys->AV.aM [] x=true)/\((∀(x:List AV),x∈xs->AV.aM [] x=true)/\Rq 2 215 0 (sM 35 [(0,.aU 3 g' 0 M),(2,.ptr 1 0),(17,.sl 4 false (iB l)),(18,int ↑l.length),(19,int ↑(i+1))] [.box [.lit Value.nilFunc,iL 211,iL 214,.fn (Fn.func 215) [] [.ptr 1 0]],.box [.ptr 0 0],.box [int 3,int n0,str s0,.sl 4 false (iB l)],.aN g' 1 false ys]) ex s')))):Rq 2 215 0 (W9 xs N g n0 s0 l i) ex s':=by
 obtain⟨o2,h⟩:=h;obtain⟨o3,h⟩:=h;obtain⟨o4,h⟩:=h;exact aJ [ki ((i:Int)<l.length),ko (bC.elem (aQ (CV.mk 1 n s m))),kp (show(0:Int)<=(i:Int)/\(iB l)[Int.toNat (i:Int)]?=some (aQ (CV.mk 1 n s m))from(by rw[lC];exact bG hx)),kp o2,kc [3] hv,kp o3,kp o4,kW 33 (i+1) ↑(i+1),kp (show ∀(x:List AV),x∈ys->AV.aM [] x=true from zO)] (aB 35 [0,2,17,18,19]) 4 h
theorem abx(xs ys:List (List AV))(N M g g':Nat)(n0:Int)(s0:yP)(l:List CV)(i:Nat)(n:Int)(s:yP)(m:List CV)(hi:i<l.length)(hl:l.length<=9223372036854775807)(hx:l[i]?=some (.mk 2 n s m))(hv:ak P G 214 [.aU 0 g 0 N,rR 2 n s m] [.aN g 1 false xs] (.ret (.aU 0 g' 0 M)) [.aN g' 1 false ys])(ex:bF)(s':St)(h:(((0:Int)<=CV.k (CV.mk 2 n s m)/\CV.k (CV.mk 2 n s m)<4)/\((∀(x:List AV),x∈ys->AV.aM [] x=true)/\((∀(x:List AV),x∈xs->AV.aM [] x=true)/\Rq 2 215 0 (sM 35 [(0,.aU 3 g' 0 M),(2,.ptr 1 0),(17,.sl 4 false (iB l)),(18,int ↑l.length),(19,int ↑(i+1))] [.box [.lit Value.nilFunc,iL 211,iL 214,.fn (Fn.func 215) [] [.ptr 1 0]],.box [.ptr 0 0],.box [int 3,int n0,str s0,.sl 4 false (iB l)],.aN g' 1 false ys]) ex s')))):Rq 2 215 0 (W9 xs N g n0 s0 l i) ex s':=by
 obtain⟨o2,h⟩:=h;obtain⟨o3,h⟩:=h;obtain⟨o4,h⟩:=h;exact aJ [ki ((i:Int)<l.length),ko (bC.elem (aQ (CV.mk 2 n s m))),kp (show(0:Int)<=(i:Int)/\(iB l)[Int.toNat (i:Int)]?=some (aQ (CV.mk 2 n s m))from(by rw[lC];exact bG hx)),kp o2,kc [3] hv,kp o3,kp o4,kW 33 (i+1) ↑(i+1),kp (show ∀(x:List AV),x∈ys->AV.aM [] x=true from zO)] (aB 35 [0,2,17,18,19]) 4 h
theorem aby(xs ys:List (List AV))(N M g g':Nat)(n0:Int)(s0:yP)(l:List CV)(i:Nat)(n:Int)(s:yP)(m:List CV)(hi:i<l.length)(hl:l.length<=9223372036854775807)(hx:l[i]?=some (.mk 3 n s m))(hv:ak P G 215 [.aU 0 g 0 N,rR 3 n s m,.ptr 2 0] (.aN g 1 false xs::kinds 1 2) (.ret (.aU 0 g' 0 M)) (.aN g' 1 false ys::kinds 1 2))(ex:bF)(s':St)(h:(((0:Int)<=CV.k (CV.mk 3 n s m)/\CV.k (CV.mk 3 n s m)<4)/\((∀(x:List AV),x∈ys->AV.aM [] x=true)/\((∀(x:List AV),x∈xs->AV.aM [] x=true)/\Rq 2 215 0 (sM 35 [(0,.aU 3 g' 0 M),(2,.ptr 1 0),(17,.sl 4 false (iB l)),(18,int ↑l.length),(19,int ↑(i+1))] [.box [.lit Value.nilFunc,iL 211,iL 214,.fn (Fn.func 215) [] [.ptr 1 0]],.box [.ptr 0 0],.box [int 3,int n0,str s0,.sl 4 false (iB l)],.aN g' 1 false ys]) ex s')))):Rq 2 215 0 (W9 xs N g n0 s0 l i) ex s':=by
 obtain⟨o2,h⟩:=h;obtain⟨o3,h⟩:=h;obtain⟨o4,h⟩:=h;exact aJ [ki ((i:Int)<l.length),ko (bC.elem (aQ (CV.mk 3 n s m))),kp (show(0:Int)<=(i:Int)/\(iB l)[Int.toNat (i:Int)]?=some (aQ (CV.mk 3 n s m))from(by rw[lC];exact bG hx)),kp o2,kc [3,0,1] hv,kp o3,kp o4,kW 33 (i+1) ↑(i+1),kp (show ∀(x:List AV),x∈ys->AV.aM [] x=true from zO)] (aB 35 [0,2,17,18,19]) 4 h
theorem ah8(b:List UInt8)(g':Nat)(n:Int)(s:yP)(l:List CV)(hs:l.length<=10000000)(hL:Rq 2 215 0 (W9 ([.lit (.int .u8 3)]::jl (num (l.length % 18446744073709551616))) (1+(num (l.length % 18446744073709551616)).length) (0+(num (l.length % 18446744073709551616)).length) n s l 0) (.exit 0) { aL:=aC 35 [(0,.aU 3 g' 0 b.length)],H:=kinds 0 1++[.box [int 3,int n,str s,.sl 4 false (iB l)],.aN g' 1 false (jl b)] })(h:True):ak P G 215 [aK,rR 3 n s l,.ptr 1 0] (kinds 0 1) (aS.ret (Cy b)) (kinds 0 1):=by
 have jw:=lU (fA l);exact aj [Qx [AV.lit (Value.int IntKind.u8 3)],vV 1,kv 13 jw,kc [3] (@sK ([[AV.lit (Value.int IntKind.u8 3)]]) (0) (length l % 18446744073709551616) (1) (rfl) zO (by simp only[yD,yE,length_nil,length_map,eu,dw,iC,fA]<;>omega) (by exact(Am.dM rfl Am.eU))),kp (show ∀(x:List AV),x∈[[AV.lit (Value.int IntKind.u8 3)]]++jl (num (length l % 18446744073709551616))->AV.aM [] x=true from(by exact(Am.dx (Am.dM rfl Am.eU) (dw _)))),kp (show ∀(x:List AV),x∈[[AV.lit (Value.int IntKind.u8 3)]]->AV.aM [] x=true from(by exact(Am.dM rfl Am.eU))),kv 18 jw,kl (rG [(1,1),(3,14),(20,15)]) 4 hL,ko (bC.Gu (jl b)),kp (show g'=g' from(rfl)),XV b.length (jl b) (by simp only[yD,yE,length_nil,length_map,eu,dw,iC,fA]<;>omega),kp (eu b),kp (iC b)]
theorem axA(v:CV)(e:Int)(hv:Cq 111 [val v] (int e))(he:e≠0)(h:True):Cq 37 [val v] (.bq [aK,int e]):=by
 exact aj [kc [] hv,kt (yJ Bool.not (qF zO))]
theorem ami(n:Int)(s:yP)(l:List CV)(b:List UInt8)(hv:Cq 111 [rR 1 n s l] (int 0))(hw:Cq 211 [aK,rR 1 n s l] (Cy b))(h:True):Cq 37 [rR 1 n s l] (.bq [Cy b,int 0]):=by
 exact aj [kc [] hv,kY,kc [] (@ah0 (trivial)),kR (1:Int) (4:Int),kc [] hw]
theorem amj(n:Int)(s:yP)(l:List CV)(b:List UInt8)(hv:Cq 111 [rR 2 n s l] (int 0))(hw:Cq 214 [aK,rR 2 n s l] (Cy b))(h:True):Cq 37 [rR 2 n s l] (.bq [Cy b,int 0]):=by
 exact aj [kc [] hv,kY,kc [] (@ah0 (trivial)),kR (2:Int) (4:Int),kc [] hw]
theorem amk(n:Int)(s:yP)(l:List CV)(b:List UInt8)(hv:Cq 111 [rR 3 n s l] (int 0))(hw:ak P G 215 [aK,rR 3 n s l,.ptr 1 0] (kinds 0 1) (.ret (Cy b)) (kinds 0 1))(h:True):Cq 37 [rR 3 n s l] (.bq [Cy b,int 0]):=by
 exact aj [kc [] hv,kY,kc [] (@ah0 (trivial)),kR (3:Int) (4:Int),kc [1,2] hw]
theorem Jr(v:CV)(l:List CV):je (v::l)=gT v++je l:=rfl
theorem abz(v:CV):1<=(gT v).length:=by
 cases v;simp only[gT];split
 .simp
 .split<;>simp
theorem AX:∀l:List CV,l.length<=(je l).length
 |[]=>by simp[je]
 |v::l=>by
  have:=AX l;have:=abz v;simp only[je,yD,yE];omega
theorem abA{i g g' n n':Nat}(hg:g=g')(hn:n=n'):aF (.aU i g 0 n) (.aU i g' 0 n'):=.of_eq (by rw[hg,hn])
theorem abB{g g':Nat}{xs ys:List (List AV)}(hg:g=g')(hn:xs=ys):[ah.aN g 1 false xs]=[ah.aN g' 1 false ys]:=by rw[hg,hn]
theorem Et(c:UInt8)(l:List UInt8):jl (c::l)=[AV.lit (.int .u8 c.toNat)]::jl l:=rfl
theorem Eu(a b:List UInt8):jl (a++b)=jl a++jl b:=(SG a b).symm
def WrC(v:CV):Prop:=∀(a:List UInt8)(g:Nat),a.length+(gT v).length<=10000000 ->
 (v.k=1->ak P G 211 [.aU 0 g 0 a.length,val v] [.aN g 1 false (jl a)] (.ret (.aU 0 (g+Cr v) 0 (a++gT v).length)) [.aN (g+Cr v) 1 false (jl (a++gT v))]) /\
 (v.k=2->ak P G 214 [.aU 0 g 0 a.length,val v] [.aN g 1 false (jl a)] (.ret (.aU 0 (g+Cr v) 0 (a++gT v).length)) [.aN (g+Cr v) 1 false (jl (a++gT v))]) /\
 (v.k=3->ak P G 215 [.aU 0 g 0 a.length,val v,.ptr 2 0] (.aN g 1 false (jl a)::kinds 1 2) (.ret (.aU 0 (g+Cr v) 0 (a++gT v).length)) (.aN (g+Cr v) 1 false (jl (a++gT v))::kinds 1 2))
theorem adj{v:CV}(h:wf v=true):v.k=1\/v.k=2\/v.k=3:=by
 cases v with
 |mk k n s l =>
  simp only[CV.k];by_cases h1:k=1
  .exact .inl h1
  .by_cases h2:k=2
   .exact .inr (.inl h2)
   .by_cases h3:k=3
    .exact .inr (.inr h3)
    .simp [wf,h1,h2,h3]at h
theorem AY:∀{l:List CV},Lb l=true->∀x∈l,wf x=true
 |[],_,x,hx=>by cases hx
 |v::l,h,x,hx=>by
  simp only[Lb,Bool.and_eq_true]at h;rcases yH.1 hx with rfl|hx
  .exact h.1
  .exact AY h.2 x hx
theorem ad7(n0:Int)(s0:yP)(l:List CV)(hl:l.length<=9223372036854775807)(hw:∀x∈l,wf x=true)(hv:∀x∈l,WrC x):∀(m i:Nat)(a:List UInt8)(g:Nat),l.length-i=m->i<=l.length->a.length+(je (l.drop i)).length<=10000000 ->
 Rq 3 215 0 (WZ (jl a) a.length g n0 s0 l i) (.exit 0) { aL:=aC 35 [(0,.aU 0 (g+u7 (l.drop i)) 0 (a++je (l.drop i)).length)],H:=.aN (g+u7 (l.drop i)) 1 false (jl (a++je (l.drop i)))::(kinds 1 2++[.box [int 3,int n0,str s0,.sl 4 false (iB l)]]) }:=by
 intro m
 induction m with
 |zero =>
  intro i a g hm hi bL;rw[drop_of_length_le zO];simp only[je,u7,Nat.add_zero,append_nil];exact ah5 (jl a) a.length g n0 s0 l i zO trivial
 |succ m ih =>
  intro i a g hm hi bL;have bg:i<l.length:=zO
  have e:=drop_eq_getElem_cons bg;have hx:=yA bg;have hwx:=hw _ (getElem_mem bg);have hvx:=hv _ (getElem_mem bg);rw[e]at bL |-;simp only[je,u7,yD]at bL |-;have hc:=hvx a g zO;have hn:=ih (i+1) (a++gT l[i]) (g+Cr l[i]) zO zO (by rw[yD];omega);rw[append_assoc,Nat.add_assoc]at hn;simp only[yD]at hn hc;generalize l[i]=x at *;cases x with
  |mk k n s q =>
   rcases adj hwx with h|h|h
   .simp only[CV.k]at h;subst h;exact abt _ _ _ _ _ _ n0 s0 l i n s q bg hl hx (hc.1 rfl) _ _ ⟨⟨by simp only[CV.k];decide,by simp only[CV.k];decide⟩,dw _,dw _,hn⟩
   .simp only[CV.k]at h;subst h;exact abu _ _ _ _ _ _ n0 s0 l i n s q bg hl hx (hc.2.1 rfl) _ _ ⟨⟨by simp only[CV.k];decide,by simp only[CV.k];decide⟩,dw _,dw _,hn⟩
   .simp only[CV.k]at h;subst h;exact abv _ _ _ _ _ _ n0 s0 l i n s q bg hl hx (hc.2.2 rfl) _ _ ⟨⟨by simp only[CV.k];decide,by simp only[CV.k];decide⟩,dw _,dw _,hn⟩
theorem ad8(n0:Int)(s0:yP)(l:List CV)(hl:l.length<=9223372036854775807)(hw:∀x∈l,wf x=true)(hv:∀x∈l,WrC x):∀(m i:Nat)(a:List UInt8)(g:Nat),l.length-i=m->i<=l.length->a.length+(je (l.drop i)).length<=10000000 ->
 Rq 2 215 0 (W9 (jl a) a.length g n0 s0 l i) (.exit 0) { aL:=aC 35 [(0,.aU 3 (g+u7 (l.drop i)) 0 (a++je (l.drop i)).length)],H:=kinds 0 1++[.box [int 3,int n0,str s0,.sl 4 false (iB l)],.aN (g+u7 (l.drop i)) 1 false (jl (a++je (l.drop i)))] }:=by
 intro m
 induction m with
 |zero =>
  intro i a g hm hi bL;rw[drop_of_length_le zO];simp only[je,u7,Nat.add_zero,append_nil];exact ah7 (jl a) a.length g n0 s0 l i zO trivial
 |succ m ih =>
  intro i a g hm hi bL;have bg:i<l.length:=zO
  have e:=drop_eq_getElem_cons bg;have hx:=yA bg;have hwx:=hw _ (getElem_mem bg);have hvx:=hv _ (getElem_mem bg);rw[e]at bL |-;simp only[je,u7,yD]at bL |-;have hc:=hvx a g zO;have hn:=ih (i+1) (a++gT l[i]) (g+Cr l[i]) zO zO (by rw[yD];omega);rw[append_assoc,Nat.add_assoc]at hn;simp only[yD]at hn hc;generalize l[i]=x at *;cases x with
  |mk k n s q =>
   rcases adj hwx with h|h|h
   .simp only[CV.k]at h;subst h;exact abw _ _ _ _ _ _ n0 s0 l i n s q bg hl hx (hc.1 rfl) _ _ ⟨⟨by simp only[CV.k];decide,by simp only[CV.k];decide⟩,dw _,dw _,hn⟩
   .simp only[CV.k]at h;subst h;exact abx _ _ _ _ _ _ n0 s0 l i n s q bg hl hx (hc.2.1 rfl) _ _ ⟨⟨by simp only[CV.k];decide,by simp only[CV.k];decide⟩,dw _,dw _,hn⟩
   .simp only[CV.k]at h;subst h;exact aby _ _ _ _ _ _ n0 s0 l i n s q bg hl hx (hc.2.2 rfl) _ _ ⟨⟨by simp only[CV.k];decide,by simp only[CV.k];decide⟩,dw _,dw _,hn⟩
theorem NR{n:Nat}(h:n<=10000000):n % 18446744073709551616=n:=Nat.mod_eq_of_lt zO
theorem ad9(v:CV):QG v->wf v=true->WrC v:=by
 refine CV.ind (p:=fun v=>QG v->wf v=true->WrC v) (fun k n s l ih dK hwf=>?_) v;cases dK with
 |mk _ _ _ _ hn hs hl jH =>
  intro a g bL;refine⟨fun hk=>?_,fun hk=>?_,fun hk=>?_⟩
  .simp only[CV.k]at hk;subst hk;have e1:gT (.mk 1 n s l)=1::num (vP n):=by simp[gT]
   have e2:Cr (.mk 1 n s l)=1+(num (vP n)).length:=by simp[Cr]
   rw[e1]at bL |-;rw[e2];refine ah1 a g n s l hn (Sn hn) zO ⟨abA zO (by simp only[yD,yE];omega),abB zO ?_⟩;rw[Eu,Et,append_assoc];rfl
  .simp only[CV.k]at hk;subst hk;have e1:gT (.mk 2 n s l)=2::(num s.size++s.data.toList):=by simp[gT]
   have e2:Cr (.mk 2 n s l)=2+(num s.size).length:=by simp[Cr]
   rw[e1]at bL |-;rw[e2];simp only[yD,yE,eD]at bL;have em:=NR (n:=s.size) zO;refine ah3 a g n s l zO zO ⟨?_,abA ?_ ?_,abB ?_ ?_⟩<;>rw[em]
   .grind [length_map,eD]
   .omega
   .grind
   .omega
   .rw [Eu,Et,Eu];simp only[append_assoc];rfl
  .simp only[CV.k]at hk;subst hk;have e1:gT (.mk 3 n s l)=3::(num l.length++je l):=by simp[gT]
   have e2:Cr (.mk 3 n s l)=1+(num l.length).length+u7 l:=by simp[Cr]
   have ew:wf (.mk 3 n s l)=(decide (n=0)&&decide (s = .empty)&&Lb l):=by simp[wf]
   rw[ew]at hwf;simp only[Bool.and_eq_true]at hwf;rw[e1]at bL |-;rw[e2];simp only[yD,yE]at bL;have hll:=AX l;have em:=NR (n:=l.length) zO;have hL:=ad7 n s l hl (AY hwf.2) (fun x hx=>ih x hx (jH x hx) (AY hwf.2 x hx)) l.length 0 (a++3::num l.length) (g+1+(num l.length).length) zO zO (by rw[drop_zero];simp only[yD,yE];omega);rw[drop_zero,append_assoc,cons_append]at hL;have eg:g+(1+(num l.length).length+u7 l)=g+1+(num l.length).length+u7 l:=zO
   rw[eg];refine ah6 a (a++3::(num l.length++je l)) g _ n s l zO zO ?_ trivial;rw[em];have e3:jl a++[[AV.lit (.int .u8 3)]]++jl (num l.length)=jl (a++3::num l.length):=by grind[Eu,Et,append_assoc]
   have e4:a.length+1+(num l.length).length=(a++3::num l.length).length:=by simp only[yD,yE];omega
   rw[e3,e4];exact hL
theorem Ws(v:CV)(dK:QG v)(hd:dp v<=16)(hwf:wf v=true)(bL:(gT v).length<=10000000):Cq 37 [val v] (.bq [Cy (gT v),int 0]):=by
 have hc:=fG v dK zO;have e0:jg v=0:=by simp only[jg,hwf,if_true];rw[yK zO]
 rw[e0]at hc;have hk:=adj hwf;cases v with
 |mk k n s l =>
  cases dK with
  |mk _ _ _ _ hn hs hl jH =>
   simp only[CV.k]at hk;rcases hk with rfl|rfl|rfl
   .have e1:gT (.mk 1 n s l)=1::num (vP n):=by simp[gT]
    rw[e1];exact ami n s l _ hc (ah2 n s l hn (Sn hn) yO) trivial
   .have e1:gT (.mk 2 n s l)=2::(num s.size++s.data.toList):=by simp[gT]
    rw[e1]at bL |-;simp only[yD,yE,eD]at bL;have em:=NR (n:=s.size) zO;refine amj n s l _ hc (ah4 n s l zO ⟨?_,?_⟩) trivial<;>rw[em]
    .grind [length_map,eD]
    .rw [Et,Eu];rfl
   .have e1:gT (.mk 3 n s l)=3::(num l.length++je l):=by simp[gT]
    have ew:wf (.mk 3 n s l)=(decide (n=0)&&decide (s = .empty)&&Lb l):=by simp[wf]
    rw[ew]at hwf;simp only[Bool.and_eq_true]at hwf;rw[e1]at bL |-;simp only[yD,yE]at bL;have hll:=AX l;have em:=NR (n:=l.length) zO;have hL:=ad8 n s l hl (AY hwf.2) (fun x hx=>ad9 x (jH x hx) (AY hwf.2 x hx)) l.length 0 (3::num l.length) (0+(num l.length).length) zO zO (by rw[drop_zero];simp only[yE];omega);rw[drop_zero,cons_append]at hL;refine amk n s l _ hc (ah8 (3::(num l.length++je l)) (0+(num l.length).length+u7 l) n s l zO ?_ yO) trivial;rw[em];have e4:1+(num l.length).length=(3::num l.length).length:=by simp only[yE];omega
    rw[e4];exact hL
theorem avM(v:CV)(dK:QG v)(hd:dp v<=1000001)(h:jg v≠0):Cq 37 [val v] (.bq [aK,int (jg v)]):=axA v _ (fG v dK hd) h trivial
def av7(v:CV):List UInt8:=if jg v=0 then gT v else[]
theorem ax1{v:CV}(h:jg v=0):wf v=true/\dp v<=16:=by
 unfold jg at h;split at h
 .next hw =>
  refine⟨hw,?_⟩;split at h
  .cases h
  .omega
 .cases h
theorem awI(v:CV)(dK:QG v)(hd:dp v<=1000001)(bL:jg v=0->(gT v).length<=10000000):Cq 37 [val v] (.bq [Cy (av7 v),int (jg v)]):=by
 by_cases h:jg v=0
 .grind [ax1,av7,Ws]
 .have:=avM v dK hd h;unfold av7;rw[yK h];exact ak.out this (.U1 (.nil 1) (.refl _))
mutual
def sm:CV->CV->Bool
 |.mk k n s l,.mk k' n' s' l'=>decide (k=k')&&decide (n=n')&&decide (s=s')&&smL l l'
def smL:List CV->List CV->Bool
 |[],[]=>true
 |a::l,b::m=>sm a b&&smL l m
 |[],_::_=>false
 |_::_,[]=>false
end
abbrev aqS:AV:=.lit (.func (.func 20) #[] #[])
theorem ax2(l m:List CV)(hn:l.length≠m.length)(h:True):ak P G 72 [AV.sl 4 false (iB l),AV.sl 4 false (iB m),aqS] [] (aS.ret (Am.bool false)) []:=by
 have _:=h;exact aj [kv 11 (show Am.aF (int (↑(length (iB l)):Int)) (int (↑(length l):Int))from(aF.of_eq (by simp only[Go.yU.fA]))),kv 13 (show Am.aF (int (↑(length (iB m)):Int)) (int (↑(length m):Int))from(aF.of_eq (by simp only[Go.yU.fA]))),kt (show((↑(length l):Int)!=(↑(length m):Int))=true from(yJ Bool.not (decide_eq_false zO)))] zQ
def IY(l m:List CV)(i:Nat):St:={ aL:=aC 32 [(1,.sl 4 false (iB m)),(2,aqS),(6,bool false),(15,.sl 4 false (iB l)),(16,int l.length),(17,int i)],H:=[] }
theorem ax3(l m:List CV)(i:Nat)(hi:l.length<=i)(h:True):bN P G none 0 (vg P 72 0) (IY l m i) (bF.exit 0) (St.mk (aC 32 [(6,Am.bool false)]) [] []):=by
 have _:=h;exact aG [kf (show decide ((↑i:Int)<(↑(length l):Int))=false from(decide_eq_false zO))] (aB 32 [6]) 0 zQ
theorem axB(l m:List CV)(i:Nat)(a b:CV)(c:Bool)(hi:i<l.length)(hl:l.length<=9223372036854775807)(ha:l[i]?=some a)(hb:m[i]?=some b)(hv:ak P G 20 [val a,val b] [] (.ret (bool c)) [])(ex:bF)(h:((((c)=true)->bN P G none 0 (vg P 72 0) (St.mk (aC 32 [(1,AV.sl 4 false (iB m)),(2,AV.lit (Value.func (Fn.func 20) (Array.mk []) (Array.mk []))),(6,Am.bool false),(15,AV.sl 4 false (iB l)),(16,int (↑(length l):Int)),(17,int (↑(i+1):Int))]) [] []) ex (St.mk (aC 32 [(6,Am.bool false)]) [] []))/\(((c)=false)->bF.ret=ex))):bN P G none 0 (vg P 72 0) (IY l m i) ex (St.mk (aC 32 [(6,Am.bool false)]) [] []):=by
 have bS:decide ((↑i:Int)<(↑(length l):Int))=true:=(decide_eq_true zO);have fT:(0:Int)<=(↑i:Int)/\(iB l)[Int.toNat (↑i:Int)]?=some (aQ a):=(by rw[Go.yU.lC];exact bG ha);have jw:(0:Int)<=(↑i:Int)/\(iB m)[Int.toNat (↑i:Int)]?=some (aQ b):=(by rw[Go.yU.lC];exact bG hb);have x9:=(@hv );rcases Bool.eq_false_or_eq_true ((c))with c2|c2
 .have h:=h.1 c2;exact aJ [kt bS,ko (bC.elem (aQ a)),ko (bC.elem (aQ b)),kp fT,kp jw,kc [] x9,kf (show(!c)=false from(yJ Bool.not (c2))),kv 31 (show Am.aF (int (IntKind.wrap IntKind.i64 ((↑i:Int)+1))) (int (↑(i+1):Int))from(aF.TJ zO zO zO))] (aB 32 [1,2,6,15,16,17]) 0 h zQ
 .have h:=h.2 c2;have eX:=h;exact bN.to ((show bN P G none 0 (vg P 72 0) (IY l m i) bF.ret (St.mk (aC 32 [(6,Am.bool false)]) [] [])from aG [kt bS,ko (bC.elem (aQ a)),ko (bC.elem (aQ b)),kp fT,kp jw,kc [] x9,kt (show(!c)=true from(yJ Bool.not (c2)))] (aB 32 [6]) 0 zQ)) eX (eB.of_eq rfl)
theorem ayp(l m:List CV)(hn:l.length=m.length)(c b:Bool)(hL:bN P G none 0 (vg P 72 0) (IY l m 0) (if c=true then .exit 0 else .ret) { aL:=aC 32 [(6,bool false)],H:=[] })(h:(((c=true)->(true)=(b))/\((¬c=true)->(false)=(b)))):ak P G 72 [AV.sl 4 false (iB l),AV.sl 4 false (iB m),aqS] [] (aS.ret (Am.bool b)) []:=by
 have bS:Am.aF (int (↑(length (iB l)):Int)) (int (↑(length l):Int)):=(aF.of_eq (by simp only[Go.yU.fA]));have fT:Am.aF (int (↑(length (iB m)):Int)) (int (↑(length m):Int)):=(aF.of_eq (by simp only[Go.yU.fA]));have jw:((↑(length l):Int)!=(↑(length m):Int))=false:=(yJ Bool.not (decide_eq_true zO));by_cases c2:(c=true)
 .have h:=h.1 c2;have e1:=h;exact aA (aF.aI e1) [kv 11 bS,kv 13 fT,kf jw,kv 16 bS,kl [0,3,4,5,7,8,9,10,11,12,13,14,18,19,20,21,22,23,24,25,26,27,28,29,30,31] 0 (show bN P G none 0 (vg P 72 0) (St.mk (aC 32 [(1,AV.sl 4 false (iB m)),(2,AV.lit (Value.func (Fn.func 20) (Array.mk []) (Array.mk []))),(6,Am.bool false),(15,AV.sl 4 false (iB l)),(16,int (↑(length l):Int)),(17,int 0)]) [] []) (bF.exit 0) (St.mk (aC 32 [(6,Am.bool false)]) [] [])from(by have h0:=(@hL );simp only[yL c2]at h0;exact h0))] zQ
 .have h:=h.2 c2;have e1:=h;exact aA (aF.aI e1) [kv 11 bS,kv 13 fT,kf jw,kv 16 bS,kl [0,3,4,5,7,8,9,10,11,12,13,14,18,19,20,21,22,23,24,25,26,27,28,29,30,31] 0 (show bN P G none 0 (vg P 72 0) (St.mk (aC 32 [(1,AV.sl 4 false (iB m)),(2,AV.lit (Value.func (Fn.func 20) (Array.mk []) (Array.mk []))),(6,Am.bool false),(15,AV.sl 4 false (iB l)),(16,int (↑(length l):Int)),(17,int 0)]) [] []) bF.ret (St.mk (aC 32 [(6,Am.bool false)]) [] [])from(by have h0:=(@hL );simp only[yK c2]at h0;exact h0))] zQ
theorem E9(k n k' n':Int)(s s':yP)(l l':List CV)(r b:Bool)(hv:ak P G 72 [.sl 4 false (iB l),.sl 4 false (iB l'),aqS] [] (.ret (bool r)) [])(h:(((k=k')->(((n=n')->(((s=s')->(r)=(b))/\((¬s=s')->(false)=(b))))/\((¬n=n')->(false)=(b))))/\((¬k=k')->(false)=(b)))):ak P G 20 [rR k n s l,rR k' n' s' l'] [] (aS.ret (Am.bool b)) []:=by
 by_cases c1:(k=k')
 .have h:=h.1 c1;by_cases c2:(n=n')
  .have h:=h.1 c2;have bS:Am.aF (Am.bool (ByteArray.toList s==ByteArray.toList s')) (Am.bool (decide (s=s'))):=(aF.of_eq (by simp only[Go.yU.rC]));by_cases c3:(s=s')
   .have h:=h.1 c3;have e1:=h;exact aA (aF.aI e1) [kt (beq_iff_eq.2 c1),kt (beq_iff_eq.2 c2),kv 22 bS,kt (decide_eq_true c3),kc [] (@hv )] zQ
   .have h:=h.2 c3;have e1:=h;exact aA (aF.aI e1) [kt (beq_iff_eq.2 c1),kt (beq_iff_eq.2 c2),kv 22 bS,kf (decide_eq_false c3)] zQ
  .have h:=h.2 c2;have e1:=h;exact aA (aF.aI e1) [kt (beq_iff_eq.2 c1),kf (beq_eq_false_iff_ne.2 c2),kf (Eq.refl false)] zQ
 .have h:=h.2 c1;have e1:=h;exact aA (aF.aI e1) [kf (beq_eq_false_iff_ne.2 c1),kf (Eq.refl false),kf (Eq.refl false)] zQ
theorem avZ:∀{l m:List CV},smL l m=true->l.length=m.length
 |[],[],_=>rfl
 |a::l,b::m,h=>by
  simp only[smL,Bool.and_eq_true]at h;simp only[yE,avZ h.2]
 |[],_::_,h=>by simp[smL]at h
 |_::_,[],h=>by simp[smL]at h
theorem avA{α:Type}{l:List α}{i:Nat}(h:i<l.length):l.drop i=l[i]::l.drop (i+1):=drop_eq_getElem_cons h
theorem Nf(l m:List CV)(hl:l.length<=9223372036854775807)(hlm:l.length=m.length)(hv:∀x∈l,∀y∈m,Cq 20 [val x,val y] (bool (sm x y))):∀(c i:Nat),l.length-i=c->i<=l.length ->
 Rq 0 72 0 (IY l m i) (if smL (l.drop i) (m.drop i)=true then .exit 0 else .ret) { aL:=aC 32 [(6,bool false)],H:=[] }:=by
 intro c
 induction c with
 |zero =>
  intro i hc hi;rw[drop_of_length_le zO,drop_of_length_le zO];simp only[smL,if_true];exact ax3 l m i zO trivial
 |succ c ih =>
  intro i hc hi;have bg:i<l.length:=zO
  have oL:i<m.length:=zO
  rw[avA bg,avA oL];refine axB l m i l[i] m[i] (sm l[i] m[i]) bg hl (yA bg) (yA oL) (hv _ (getElem_mem bg) _ (getElem_mem oL)) _ ⟨fun h=>?_,fun h=>?_⟩
  .simp only[smL,h,Bool.true_and];exact ih (i+1) zO zO
  .simp [smL,h]
theorem ax4:∀{l m:List CV},l.length≠m.length->smL l m=false:=fun h=>Bool.eq_false_iff.2 fun e=>h (avZ e)
theorem zG(a:CV):QG a->∀b:CV,Cq 20 [val a,val b] (bool (sm a b)):=by
 refine CV.ind (p:=fun a=>QG a->∀b:CV,Cq 20 [val a,val b] (bool (sm a b))) (fun k n s l ih dK b=>?_) a;cases dK with
 |mk _ _ _ _ hn hs hl jH =>
  cases b with
  |mk k' n' s' l' =>
   rw[val_mk,val_mk];have h31:Cq 72 [.sl 4 false (iB l),.sl 4 false (iB l'),aqS] (bool (smL l l')):=by
    by_cases hll:l.length=l'.length
    .have:=Nf l l' hl hll (fun x hx y _=>ih x hx (jH x hx) y) l.length 0 zO zO;rw[drop_zero,drop_zero]at this;exact ayp l l' hll _ _ this ⟨fun h=>h.symm,fun h=>(Bool.eq_false_iff.2 h).symm⟩
    .rw [ax4 hll];exact ax2 l l' hll trivial
   refine E9 k n k' n' s s' l l' _ _ h31 ⟨fun h1=>⟨fun h2=>⟨fun h3=>?_,fun h3=>?_⟩,fun h2=>?_⟩,fun h1=>?_⟩
   .simp [sm,h1,h2,h3]
   .simp [sm,h3]
   .simp [sm,h2]
   .simp [sm,h1]
theorem aub:∀(l:List UInt8)(u i:Nat),u<2^(7*i)->i<=9->(SX l u i).2.1<18446744073709551616/\(SX l u i).2.2.length<=l.length
 |[],u,i,hu,hi=>⟨by
  have:2^(7*i)<=2^63:=Nat.pow_le_pow_right zD zO;have:(2:Nat)^63<18446744073709551616:=zD
  show u<_;omega,Nat.le_refl _⟩
 |c::r,u,i,hu,hi=>by
  have h0:u<18446744073709551616:=by
   have:2^(7*i)<=2^63:=Nat.pow_le_pow_right zD zO;have:(2:Nat)^63<18446744073709551616:=zD
   omega
  simp only[SX];split
  .exact ⟨h0,zS⟩
  .rename_i hn;have hf:=nH (c:=c.toNat) hu hi zO;split
   .exact ⟨hf.2,zS⟩
   .rename_i hc;have:=aub r (u+c.toNat % 128*2^(7*i)) (i+1) hf.1 zO;exact⟨this.1,by simp;omega⟩
theorem auc(l:List UInt8):Cn l<18446744073709551616:=(aub l 0 0 zS zO).1
theorem aue(l:List UInt8):(Co l).length<=l.length:=(aub l 0 0 zS zO).2
def FU(l:List UInt8):Bool:=Qu l&&decide (Cn l<=(Co l).length)
theorem awJ(l:List UInt8)(hl:l.length<=1000000000)(hr:(Co l).length<=1000000000)(hu:Cn l<18446744073709551616)(out:aS)(h:((((Qu l)=true)->((((↑(Cn l):Int)<=(↑(length (Co l) % 18446744073709551616):Int))->aS.ret (int (↑(Cn l):Int))=out)/\((¬(↑(Cn l):Int)<=(↑(length (Co l) % 18446744073709551616):Int))->aS.Ay (AV.qX 36 (int 10))=out)))/\(((Qu l)=false)->aS.Ay (AV.qX 36 (int 10))=out))):ak P G 261 [AV.ptr 0 0] (dH l) out (dH (Co l)):=by
 rcases Bool.eq_false_or_eq_true ((Qu l))with c1|c1
 .have h:=h.1 c1;have bS:ak P G 260 [AV.ptr 0 0] [ah.box [AV.sl 1 false (jl l)]] (aS.ret (AV.lit (Value.int IntKind.u64 (↑(Cn l):Int)))) [ah.box [AV.sl 1 false (jl (Co l))]]:=(by have h0:=(@Go.yU.vB (l) zO);simp only[yL (show Qu l=true from c1)]at h0;exact h0);have fT:Am.aF (int (↑(length (jl (Co l))):Int)) (int (↑(length (Co l)):Int)):=(aF.of_eq (by simp only[Go.yU.eu]));by_cases c2:((↑(Cn l):Int)<=(↑(length (Co l) % 18446744073709551616):Int))
  .have h:=h.1 c2;have e1:=h;exact e1▸((show ak P G 261 [AV.ptr 0 0] (dH l) (aS.ret (int (↑(Cn l):Int))) [ah.box [AV.sl 1 false (jl (Co l))]]from aj [kc [0] bS,kv 12 fT,kc [0] (show ak P G 185 [AV.ptr 0 0,Am.bool (decide ((↑(Cn l):Int)<=IntKind.wrap IntKind.u64 (↑(length (Co l)):Int)))] [ah.box [AV.sl 1 false (jl (Co l))]] (aS.ret (AV.bq [])) [ah.box [AV.sl 1 false (jl (Co l))]]from(by have h0:=(@Go.yU.aV (ah.box [AV.sl 1 false (jl (Co l))]) (decide ((↑(Cn l):Int)<=(↑(length (Co l) % 18446744073709551616):Int))));simp only[yL (show decide ((↑(Cn l):Int)<=(↑(length (Co l) % 18446744073709551616):Int))=true from decide_eq_true c2)]at h0;exact h0)),kv 17 (show Am.aF (int (IntKind.wrap IntKind.i64 (↑(Cn l):Int))) (int (↑(Cn l):Int))from(aF.TJ zO zO rfl))] zQ))
  .have h:=h.2 c2;have e1:=h;exact e1▸((show ak P G 261 [AV.ptr 0 0] (dH l) (aS.Ay (AV.qX 36 (int 10))) [ah.box [AV.sl 1 false (jl (Co l))]]from aj [kc [0] bS,kv 12 fT,kc [0] (show ak P G 185 [AV.ptr 0 0,Am.bool (decide ((↑(Cn l):Int)<=IntKind.wrap IntKind.u64 (↑(length (Co l)):Int)))] [ah.box [AV.sl 1 false (jl (Co l))]] (aS.Ay (AV.qX 36 (int 10))) [ah.box [AV.sl 1 false (jl (Co l))]]from(by have h0:=(@Go.yU.aV (ah.box [AV.sl 1 false (jl (Co l))]) (decide ((↑(Cn l):Int)<=(↑(length (Co l) % 18446744073709551616):Int))));simp only[yK (show ¬(decide ((↑(Cn l):Int)<=(↑(length (Co l) % 18446744073709551616):Int))=true)from Bool.eq_false_iff.1 (decide_eq_false c2))]at h0;exact h0))] zQ))
 .have h:=h.2 c1;have e1:=h;exact e1▸((show ak P G 261 [AV.ptr 0 0] (dH l) (aS.Ay (AV.qX 36 (int 10))) [ah.box [AV.sl 1 false (jl (Co l))]]from aj [kc [0] (show ak P G 260 [AV.ptr 0 0] [ah.box [AV.sl 1 false (jl l)]] (aS.Ay (AV.qX 36 (int 10))) [ah.box [AV.sl 1 false (jl (Co l))]]from(by have h0:=(@Go.yU.vB (l) zO);simp only[yK (show ¬(Qu l=true)from Bool.eq_false_iff.1 (c1))]at h0;exact h0))] zQ))
theorem jN(l:List UInt8)(hl:l.length<=1000000000):ak P G 261 [.ptr 0 0] (dH l) (if FU l=true then .ret (int (Cn l))else .Ay aO) (dH (Co l)):=by
 have h1:=aue l;refine awJ l hl zO (auc l) _ ⟨fun h=>⟨fun h2=>?_,fun h2=>?_⟩,fun h=>?_⟩
 .rw [yL (by simp only[FU,h,Bool.true_and,decide_eq_true_eq];omega)]
 .rw [yK (by simp only[FU,h,Bool.true_and,decide_eq_true_eq];omega)];rfl
 .rw [yK (by simp[FU,h])];rfl
theorem awK(u:Nat)(hu:u<18446744073709551616)(v:Int)(h:(IntKind.wrap IntKind.i64 (↑(BitVec.toNat (BitVec.ofInt (IntKind.bits IntKind.i64) (IntKind.wrap IntKind.i64 (Int.fdiv (↑u:Int) (2^min (Int.toNat 1) (IntKind.bits IntKind.u64)))) ^^^ BitVec.ofInt (IntKind.bits IntKind.i64) (IntKind.wrap IntKind.i64 (0-IntKind.wrap IntKind.i64 (IntKind.wrap IntKind.u64 (↑(BitVec.toNat (BitVec.ofInt (IntKind.bits IntKind.u64) (↑u:Int) &&& BitVec.ofInt (IntKind.bits IntKind.u64) 1)):Int)))))):Int):Int)=(v)):ak P G 259 [u64 u] [] (aS.ret (int v)) []:=by
 have e1:=h;exact aA (aF.int_eq e1) [kp (show(0:Int)<=(1:Int)from zO)] zQ
def sgn(u:Nat):Int:=if u % 2=0 then((u/2:Nat):Int)else -((u/2:Nat):Int)-1
theorem dn(n:Nat)(h:n<18446744073709551616):IntKind.wrap .i64 (n:Int)=if n<9223372036854775808 then(n:Int)else(n:Int)-18446744073709551616:=by
 show(let m:=(n:Int) % (2^64:Int);if(IntKind.i64.signed&&m>=(2^(64-1):Int))=true then m-(2^64:Int)else m)=_;have e:(n:Int) % (2^64:Int)=n:=by
  rw[show(2:Int)^64=18446744073709551616 from by decide];omega
 simp only[e,IntKind.signed,Bool.true_and,decide_eq_true_eq];rw[show(2:Int)^(64-1)=9223372036854775808 from by decide,show(2:Int)^64=18446744073709551616 from by decide];split<;>split<;>omega
theorem ax5{u:Nat}(hu:u<18446744073709551616):IntKind.wrap IntKind.i64 (↑(BitVec.toNat (BitVec.ofInt (IntKind.bits IntKind.i64) (IntKind.wrap IntKind.i64 (Int.fdiv (↑u:Int) (2^min (Int.toNat 1) (IntKind.bits IntKind.u64)))) ^^^ BitVec.ofInt (IntKind.bits IntKind.i64) (IntKind.wrap IntKind.i64 (0-IntKind.wrap IntKind.i64 (IntKind.wrap IntKind.u64 (↑(BitVec.toNat (BitVec.ofInt (IntKind.bits IntKind.u64) (↑u:Int) &&& BitVec.ofInt (IntKind.bits IntKind.u64) 1)):Int)))))):Int)=sgn u:=by
 have e1:min (Int.toNat 1) (IntKind.bits IntKind.u64)=1:=zD
 have e2:Int.fdiv (u:Int) (2^1)=((u/2:Nat):Int):=by
  show Int.fdiv (u:Int) ((2:Nat):Int)=_;rw[Int.fdiv_eq_ediv_of_nonneg _ zD];omega
 have hb:u/2<9223372036854775808:=zO
 have e3:(BitVec.ofInt (IntKind.bits IntKind.u64) (u:Int) &&& BitVec.ofInt (IntKind.bits IntKind.u64) 1).toNat=u % 2:=by
  have:(1:Int)=((1:Nat):Int):=rfl;rw[BitVec.toNat_and,this,wM,wM];show(u % 2^64) &&& (1 % 2^64)=_;rw[Nat.mod_eq_of_lt (show u<2^64 by omega),Nat.mod_eq_of_lt (show 1<2^64 by decide)];exact Nat.and_two_pow_sub_one_eq_mod u 1
 rw[e1,e2,e3,dn (u/2) zO,yL hb,wrap64 (show u % 2<18446744073709551616 by omega),dn (u % 2) zO,yL zO];have e4:∀n:Nat,(BitVec.ofInt (IntKind.bits IntKind.i64) (n:Int)).toNat=n % 2^64:=fun n=>wM _ n;unfold sgn;rcases Nat.mod_two_eq_zero_or_one u with h|h
 .rw [h,yL rfl];have:IntKind.wrap IntKind.i64 (0-((0:Nat):Int))=((0:Nat):Int):=zD
  rw[this,BitVec.toNat_xor,e4,e4,Nat.mod_eq_of_lt (show u/2<2^64 by omega)];show IntKind.wrap IntKind.i64 (((u/2) ^^^ 0:Nat):Int)=_;rw[Nat.xor_zero,dn _ zO,yL hb]
 .rw [h,yK zD];have:IntKind.wrap IntKind.i64 (0-((1:Nat):Int)) = -1:=zD
  rw[this];have h5:BitVec.ofInt 64 (-1)=BitVec.allOnes 64:=zD
  show IntKind.wrap IntKind.i64 ((BitVec.ofInt 64 ((u/2:Nat):Int) ^^^ BitVec.ofInt 64 (-1)).toNat:Int)=_;rw[h5,BitVec.xor_allOnes,BitVec.toNat_not,wM,Nat.mod_eq_of_lt (show u/2<2^64 by omega)];have h7:(2:Nat)^64=18446744073709551616:=zD
  rw[h7,dn _ zO,yK zO];omega
theorem awL(u:Nat)(hu:u<18446744073709551616):ak P G 259 [u64 u] [] (.ret (int (sgn u))) []:=awK u hu _ (ax5 hu)
theorem axC(dep:Nat)(h:True):ak P G 184 [AV.ptr 0 0,int (↑dep:Int)] (dH []) (aS.Ay aO) [ah.aH]:=by
 have _:=h;exact ak.pY ((show ak P G 184 [AV.ptr 0 0,int (↑dep:Int)] (dH []) (aS.Ay (AV.qX 36 (int 10))) [ah.box [AV.sl 1 false []]]from aj [kc [0] (@Go.yU.avX )] zQ)) (by exact⟨.inr yO,yO⟩)
theorem axD(dep:Nat)(c:UInt8)(r:List UInt8)(hl:r.length<=999999999)(hc:c.toNat<256)(h1:c.toNat≠1)(h2:c.toNat≠2)(h3:c.toNat≠3)(h:True):ak P G 184 [AV.ptr 0 0,int (↑dep:Int)] (jD c r) (aS.Ay aO) [ah.aH]:=by
 have _:=h;exact ak.pY ((show ak P G 184 [AV.ptr 0 0,int (↑dep:Int)] (jD c r) (aS.Ay (AV.qX 36 (int 10))) [ah.box [AV.sl 1 false (jl r)]]from aj [kc [0] (@Go.yU.bO (AV.lit (Value.int IntKind.u8 (↑(UInt8.toNat c):Int))) (r) zO),ko (bC.elem [AV.lit (Value.int IntKind.u8 (↑(UInt8.toNat c):Int))]),kp (show(0:Int)<=(0:Int)/\[[AV.lit (Value.int IntKind.u8 (↑(UInt8.toNat c):Int))]][Int.toNat 0]?=some [AV.lit (Value.int IntKind.u8 (↑(UInt8.toNat c):Int))]from(⟨zD,rfl⟩)),kv 9 (show Am.aF (int (IntKind.wrap IntKind.i64 (↑(UInt8.toNat c):Int))) (int (↑(UInt8.toNat c):Int))from(aF.TJ zO zO rfl)),kf (show((↑(UInt8.toNat c):Int)==1)=false from(decide_eq_false zO)),kf (show((↑(UInt8.toNat c):Int)==2)=false from(decide_eq_false zO)),kf (show((↑(UInt8.toNat c):Int)==3)=false from(decide_eq_false zO)),kc [0] (show ak P G 185 [AV.ptr 0 0,Am.bool false] [ah.box [AV.sl 1 false (jl r)]] (aS.Ay (AV.qX 36 (int 10))) [ah.box [AV.sl 1 false (jl r)]]from(by have h0:=(@Go.yU.aV (ah.box [AV.sl 1 false (jl r)]) (false));simp only[yK (show ¬(false=true)from Bool.eq_false_iff.1 (rfl))]at h0;exact h0))] zQ)) (by exact⟨.inr yO,yO⟩)
def mkI(n:Int):CV:=.mk 1 n .empty []
def mkT(s:yP):CV:=.mk 2 0 s []
def mkL(l:List CV):CV:=.mk 3 0 .empty l
theorem axE(dep:Nat)(r:List UInt8)(hl:r.length<=999999999)(hu:Cn r<18446744073709551616)(dK:Qu r=true)(h:True):ak P G 184 [AV.ptr 0 0,int (↑dep:Int)] (jD 1 r) (aS.ret (val (mkI (sgn (Cn r))))) (dH (Co r)):=by
 have _:=h;exact ak.out ((show ak P G 184 [AV.ptr 0 0,int (↑dep:Int)] (jD 1 r) (aS.ret (AV.agg [int 1,int (sgn (Cn r)),str (ByteArray.mk #[]),aK])) [ah.box [AV.sl 1 false (jl (Co r))]]from aj [kc [0] (@Go.yU.bO (AV.lit (Value.int IntKind.u8 1)) (r) zO),ko (bC.elem [AV.lit (Value.int IntKind.u8 1)]),kp (show(0:Int)<=(0:Int)/\[[AV.lit (Value.int IntKind.u8 1)]][Int.toNat 0]?=some [AV.lit (Value.int IntKind.u8 1)]from(⟨zD,rfl⟩)),kt (Eq.refl true),kc [0] (show ak P G 260 [AV.ptr 0 0] [ah.box [AV.sl 1 false (jl r)]] (aS.ret (AV.lit (Value.int IntKind.u64 (↑(Cn r):Int)))) [ah.box [AV.sl 1 false (jl (Co r))]]from(by have h0:=(@Go.yU.vB (r) zO);simp only[yL (show Qu r=true from dK)]at h0;exact h0)),kc [] (@Go.yU.awL (Cn r) zO)] zQ)) (aF.qo ⟨aF.refl _,aF.refl _,aF.refl _,(aF.nil _),yO⟩)
theorem av8(dep:Nat)(r:List UInt8)(hl:r.length<=999999999)(dK:Qu r=false)(h:True):ak P G 184 [AV.ptr 0 0,int (↑dep:Int)] (jD 1 r) (aS.Ay aO) [ah.aH]:=by
 have _:=h;exact ak.pY ((show ak P G 184 [AV.ptr 0 0,int (↑dep:Int)] (jD 1 r) (aS.Ay (AV.qX 36 (int 10))) [ah.box [AV.sl 1 false (jl (Co r))]]from aj [kc [0] (@Go.yU.bO (AV.lit (Value.int IntKind.u8 1)) (r) zO),ko (bC.elem [AV.lit (Value.int IntKind.u8 1)]),kp (show(0:Int)<=(0:Int)/\[[AV.lit (Value.int IntKind.u8 1)]][Int.toNat 0]?=some [AV.lit (Value.int IntKind.u8 1)]from(⟨zD,rfl⟩)),kt (Eq.refl true),kc [0] (show ak P G 260 [AV.ptr 0 0] [ah.box [AV.sl 1 false (jl r)]] (aS.Ay (AV.qX 36 (int 10))) [ah.box [AV.sl 1 false (jl (Co r))]]from(by have h0:=(@Go.yU.vB (r) zO);simp only[yK (show ¬(Qu r=true)from Bool.eq_false_iff.1 (dK))]at h0;exact h0))] zQ)) (by exact⟨.inr yO,yO⟩)
theorem axF(dep:Nat)(r:List UInt8)(hl:r.length<=999999999)(hu:Cn r<18446744073709551616)(hr:(Co r).length<=999999999)(dK:FU r=true)(uQ:Cn r<=(Co r).length)(h:True):ak P G 184 [AV.ptr 0 0,int (↑dep:Int)] (jD 2 r) (aS.ret (val (mkT (ByteArray.mk (toArray (List.take (Cn r) (Co r))))))) (dH (List.drop (Cn r) (Co r))):=by
 have _:=h;exact ak.out ((show ak P G 184 [AV.ptr 0 0,int (↑dep:Int)] (jD 2 r) (aS.ret (AV.agg [int 2,int 0,str (ByteArray.mk (toArray (List.take (Cn r) (Co r)))),aK])) [ah.box [AV.sl 1 false (jl (List.drop (Cn r) (Co r)))]]from aj [kc [0] (@Go.yU.bO (AV.lit (Value.int IntKind.u8 2)) (r) zO),ko (bC.elem [AV.lit (Value.int IntKind.u8 2)]),kp (show(0:Int)<=(0:Int)/\[[AV.lit (Value.int IntKind.u8 2)]][Int.toNat 0]?=some [AV.lit (Value.int IntKind.u8 2)]from(⟨zD,rfl⟩)),kf (Eq.refl false),kt (Eq.refl true),kc [0] (show ak P G 261 [AV.ptr 0 0] [ah.box [AV.sl 1 false (jl r)]] (aS.ret (int (↑(Cn r):Int))) [ah.box [AV.sl 1 false (jl (Co r))]]from(by have h0:=(@Go.yU.jN (r) zO);simp only[yL (show FU r=true from dK)]at h0;exact h0)),kc [0] (@Go.yU.awC (Co r) (Cn r) zO zO),ko (bC.bytes (ByteArray.mk (toArray (List.take (Cn r) (Co r))))),kp (show jl (List.take (Cn r) (Co r))=List.map (fun(c:UInt8)=>[AV.lit (Value.int IntKind.u8 (↑(UInt8.toNat c):Int))]) (Array.toList (Array.mk (List.take (Cn r) (Co r))))from(rfl))] zQ)) (aF.qo ⟨aF.refl _,aF.refl _,aF.refl _,(aF.nil _),yO⟩)
theorem av9(dep:Nat)(r:List UInt8)(hl:r.length<=999999999)(dK:FU r=false)(h:True):ak P G 184 [AV.ptr 0 0,int (↑dep:Int)] (jD 2 r) (aS.Ay aO) [ah.aH]:=by
 have _:=h;exact ak.pY ((show ak P G 184 [AV.ptr 0 0,int (↑dep:Int)] (jD 2 r) (aS.Ay (AV.qX 36 (int 10))) [ah.box [AV.sl 1 false (jl (Co r))]]from aj [kc [0] (@Go.yU.bO (AV.lit (Value.int IntKind.u8 2)) (r) zO),ko (bC.elem [AV.lit (Value.int IntKind.u8 2)]),kp (show(0:Int)<=(0:Int)/\[[AV.lit (Value.int IntKind.u8 2)]][Int.toNat 0]?=some [AV.lit (Value.int IntKind.u8 2)]from(⟨zD,rfl⟩)),kf (Eq.refl false),kt (Eq.refl true),kc [0] (show ak P G 261 [AV.ptr 0 0] [ah.box [AV.sl 1 false (jl r)]] (aS.Ay (AV.qX 36 (int 10))) [ah.box [AV.sl 1 false (jl (Co r))]]from(by have h0:=(@Go.yU.jN (r) zO);simp only[yK (show ¬(FU r=true)from Bool.eq_false_iff.1 (dK))]at h0;exact h0))] zQ)) (by exact⟨.inr yO,yO⟩)
def awc(dep:Nat)(rest:List UInt8)(N:Nat):St:={ aL:=aC 50 [(0,.ptr 0 0),(1,int dep),(4,.ptr 1 0),(36,int N),(37,int 0)],H:=[.box [Cy rest],.box [int 3,int 0,str { data:=#[] },aK]] }
def awd(dep:Nat)(rest:List UInt8)(N i g:Nat)(vs:List CV):St:={ aL:=aC 50 [(0,.ptr 0 0),(1,int dep),(4,.ptr 1 0),(36,int N),(37,int i)],H:=[.box [Cy rest],.box [int 3,int 0,str { data:=#[] },.aU 2 g 0 vs.length],.aN g 4 false (iB vs)] }
theorem awM(dep:Nat)(rest:List UInt8)(N:Nat)(hN:N=0)(h:True):bN P G none 1 (vg P 184 0) (awc dep rest N) (bF.exit 1) (St.mk (aC 50 [(4,AV.ptr 1 0)]) [ah.box [Cy rest],ah.box [int 3,int 0,str (ByteArray.mk #[]),aK]] []):=by
 have _:=h;exact aG [kf (show decide ((0:Int)<(↑N:Int))=false from(decide_eq_false zO))] (aB 50 [4]) 2 zQ
theorem axG(dep:Nat)(rest rest':List UInt8)(N:Nat)(hd:dep<16)(hN:0<N)(hN2:N<=1000000000)(v:CV)(hv:ak P G 184 [.ptr 0 0,int ((dep+1:Nat):Int)] (dH rest) (.ret (val v)) (dH rest'))(ex:bF)(s':St)(h:bN P G none 1 (vg P 184 0) (St.mk (aC 50 [(0,AV.ptr 0 0),(1,int (↑dep:Int)),(4,AV.ptr 1 0),(36,int (↑N:Int)),(37,int 1)]) [ah.box [AV.sl 1 false (jl rest')],ah.box [int 3,int 0,str (ByteArray.mk #[]),AV.aU 2 0 0 1],ah.aN 0 4 false [[int (CV.k v),int (CV.n v),str (CV.s v),AV.sl 4 false (iB (CV.l v))]]] []) ex s'):bN P G none 1 (vg P 184 0) (awc dep rest N) ex s':=by
 exact aJ [kt (show decide ((0:Int)<(↑N:Int))=true from(decide_eq_true zO)),kv 43 (show Am.aF (int (IntKind.wrap IntKind.i64 ((↑dep:Int)+1))) (int (↑(dep+1):Int))from(aF.TJ zO zO zO)),kc [0] (@hv ),kp (show[[int (CV.k v),int (CV.n v),str (CV.s v),AV.sl 4 false (iB (CV.l v))]]≠[]from zS),kp (show 56<=140737488355328 from zO)] (aB 50 [0,1,4,36,37]) 3 h zQ
theorem awN(dep:Nat)(rest:List UInt8)(N:Nat)(hd:dep<16)(hN:0<N)(hN2:N<=1000000000)(hv:ak P G 184 [.ptr 0 0,int ((dep+1:Nat):Int)] (dH rest) (.Ay aO) [.aH])(h:True):bN P G none 1 (vg P 184 0) (awc dep rest N) (bF.Ay aO) (St.mk (aC 50 []) [ah.aH] []):=by
 have _:=h;exact aG [kt (show decide ((0:Int)<(↑N:Int))=true from(decide_eq_true zO)),ko (bC.at_ 5),kv 43 (show Am.aF (int (IntKind.wrap IntKind.i64 ((↑dep:Int)+1))) (int (↑(dep+1):Int))from(aF.TJ zO zO zO)),kc [0] (@hv )] (aB 50 []) 1 zQ
theorem awO(dep:Nat)(rest:List UInt8)(N i g:Nat)(vs:List CV)(hN:N<=i)(h:True):bN P G none 1 (vg P 184 0) (awd dep rest N i g vs) (bF.exit 1) (St.mk (aC 50 [(4,AV.ptr 1 0)]) [ah.box [Cy rest],ah.box [int 3,int 0,str (ByteArray.mk #[]),AV.aU 2 g 0 (length vs)],ah.aN g 4 false (iB vs)] []):=by
 have _:=h;exact aG [kf (show decide ((↑i:Int)<(↑N:Int))=false from(decide_eq_false zO))] (aB 50 [4]) 3 zQ
theorem axH(dep:Nat)(rest rest':List UInt8)(N i g:Nat)(vs:List CV)(hd:dep<16)(hN:i<N)(hN2:N<=1000000000)(Ev:vs.length<=1000000000)(v:CV)(hv:ak P G 184 [.ptr 0 0,int ((dep+1:Nat):Int)] (dH rest) (.ret (val v)) (dH rest'))(ex:bF)(s':St)(h:bN P G none 1 (vg P 184 0) (St.mk (aC 50 [(0,AV.ptr 0 0),(1,int (↑dep:Int)),(4,AV.ptr 1 0),(36,int (↑N:Int)),(37,int (↑(i+1):Int))]) [ah.box [AV.sl 1 false (jl rest')],ah.box [int 3,int 0,str (ByteArray.mk #[]),AV.aU 2 (g+1) 0 (length vs+1)],ah.aN (g+1) 4 false (iB vs++[[int (CV.k v),int (CV.n v),str (CV.s v),AV.sl 4 false (iB (CV.l v))]])] []) ex s'):bN P G none 1 (vg P 184 0) (awd dep rest N i g vs) ex s':=by
 exact aJ [kt (show decide ((↑i:Int)<(↑N:Int))=true from(decide_eq_true zO)),kv 43 (show Am.aF (int (IntKind.wrap IntKind.i64 ((↑dep:Int)+1))) (int (↑(dep+1):Int))from(aF.TJ zO zO zO)),kc [0] (@hv ),kp (show g=g from(rfl)),kp (show length vs=length (iB vs)from((Go.yU.fA _).symm)),kp (show(length vs+1)*56<=140737488355328 from zO),kv 48 (show Am.aF (int (IntKind.wrap IntKind.i64 ((↑i:Int)+1))) (int (↑(i+1):Int))from(aF.TJ zO zO zO))] (aB 50 [0,1,4,36,37]) 3 h zQ
theorem awP(dep:Nat)(rest:List UInt8)(N i g:Nat)(vs:List CV)(hd:dep<16)(hN:i<N)(hN2:N<=1000000000)(hv:ak P G 184 [.ptr 0 0,int ((dep+1:Nat):Int)] (dH rest) (.Ay aO) [.aH])(h:True):bN P G none 1 (vg P 184 0) (awd dep rest N i g vs) (bF.Ay aO) (St.mk (aC 50 []) [ah.aH] []):=by
 have _:=h;exact aG [kt (show decide ((↑i:Int)<(↑N:Int))=true from(decide_eq_true zO)),ko (bC.at_ 5),kv 43 (show Am.aF (int (IntKind.wrap IntKind.i64 ((↑dep:Int)+1))) (int (↑(dep+1):Int))from(aF.TJ zO zO zO)),kc [0] (@hv )] (aB 50 []) 1 zQ
def Gj(p:List UInt8->Bool×CV×List UInt8):Nat->List UInt8->Bool×List CV×List UInt8
 |0,r=>(true,[],r)
 |n+1,r=>if(p r).1=true then((Gj p n (p r).2.2).1,(p r).2.1::(Gj p n (p r).2.2).2.1,(Gj p n (p r).2.2).2.2)else(false,[],[])
structure Reads(dep:Nat)(p:List UInt8->Bool×CV×List UInt8):Prop where
 call:∀l:List UInt8,l.length<=1000000000->ak P G 184 [.ptr 0 0,int (dep:Int)] (dH l) (if(p l).1=true then .ret (val (p l).2.1)else .Ay aO) [if(p l).1=true then .box [Cy (p l).2.2]else .aH]
 le:∀l,(p l).2.2.length<=l.length
theorem avB{p:List UInt8->Bool×CV×List UInt8}:∀(n:Nat)(r:List UInt8),(Gj p n r).1=true->(Gj p n r).2.1.length=n
 |0,_,_=>rfl
 |n+1,r,h=>by
  simp only[Gj]at h |-;split at h
  .rename_i hp;rw[yL hp];simp[avB n _ h]
  .cases h
theorem av0{p:List UInt8->Bool×CV×List UInt8}(hp:∀l,(p l).2.2.length<=l.length):∀(n:Nat)(r:List UInt8),(Gj p n r).2.2.length<=r.length
 |0,_=>Nat.le_refl _
 |n+1,r=>by
  simp only[Gj];split
  .exact Nat.le_trans (av0 hp n _) (hp r)
  .simp
theorem at5{dep:Nat}{p:List UInt8->Bool×CV×List UInt8}(hp:Reads (dep+1) p)(hd:dep<16)(N:Nat)(hN:N<=1000000000):∀(n i g:Nat)(vs:List CV)(rest:List UInt8),N-i=n->i<=N->vs.length=i->rest.length<=1000000000 ->
 bN P G none 1 (vg P 184 0) (awd dep rest N i g vs) (if(Gj p n rest).1=true then .exit 1 else .Ay aO) { aL:=aC 50 [(4,if(Gj p n rest).1=true then .ptr 1 0 else .aP)],H:=if(Gj p n rest).1=true then
  [.box [Cy (Gj p n rest).2.2],.box [int 3,int 0,str { data:=#[] },.aU 2 (g+n) 0 (vs++(Gj p n rest).2.1).length],.aN (g+n) 4 false (iB (vs++(Gj p n rest).2.1))]else[.aH] }
 |0,i,g,vs,rest,hn,hi,Ev,hr=>by
  simp only[Gj,if_true,append_nil,Nat.add_zero];exact awO dep rest N i g vs zO trivial
 |n+1,i,g,vs,rest,hn,hi,Ev,hr=>by
  have hc:=hp.call rest hr;cases dK:(p rest).1 with
  |false =>
   rw[dK]at hc;simp only[Gj,dK,Bool.false_eq_true,if_false]at hc |-;exact awP dep rest N i g vs hd zO hN hc trivial
  |true =>
   rw[dK]at hc;simp only[Gj,dK,if_true]at hc |-;refine axH dep rest (p rest).2.2 N i g vs hd zO hN zO (p rest).2.1 hc _ _ ?_;have ih:=at5 hp hd N hN n (i+1) (g+1) (vs++[(p rest).2.1]) (p rest).2.2 zO zO (by simp[Ev]) (Nat.le_trans (hp.le rest) hr);unfold awd at ih;rw[<- avw,<- avx,append_assoc,singleton_append,Nat.add_assoc,Nat.add_comm 1 n]at ih;rw[show(vs++[(p rest).2.1]).length=vs.length+1 from by simp]at ih;exact ih
theorem awe{dep:Nat}{p:List UInt8->Bool×CV×List UInt8}(hp:Reads (dep+1) p)(hd:dep<16)(n:Nat)(hN:n+1<=1000000000)(rest:List UInt8)(hr:rest.length<=1000000000) :
 bN P G none 1 (vg P 184 0) (awc dep rest (n+1)) (if(Gj p (n+1) rest).1=true then .exit 1 else .Ay aO) { aL:=aC 50 [(4,if(Gj p (n+1) rest).1=true then .ptr 1 0 else .aP)],H:=if(Gj p (n+1) rest).1=true then
  [.box [Cy (Gj p (n+1) rest).2.2],.box [int 3,int 0,str { data:=#[] },.aU 2 n 0 (Gj p (n+1) rest).2.1.length],.aN n 4 false (iB (Gj p (n+1) rest).2.1)]else[.aH] }:=by
 have hc:=hp.call rest hr;cases dK:(p rest).1 with
 |false =>
  rw[dK]at hc;simp only[Gj,dK,Bool.false_eq_true,if_false]at hc |-;exact awN dep rest (n+1) hd zO hN hc trivial
 |true =>
  rw[dK]at hc;simp only[Gj,dK,if_true]at hc |-;refine axG dep rest (p rest).2.2 (n+1) hd zO hN (p rest).2.1 hc _ _ ?_;have ih:=at5 hp hd (n+1) hN n 1 0 [(p rest).2.1] (p rest).2.2 zO zO rfl (Nat.le_trans (hp.le rest) hr);unfold awd at ih;rw[<- avx,Nat.zero_add]at ih;exact ih
theorem awQ(dep:Nat)(r:List UInt8)(hl:r.length<=999999999)(hd:dep=16)(h:True):ak P G 184 [AV.ptr 0 0,int (↑dep:Int)] (jD 3 r) (aS.Ay aO) [ah.aH]:=by
 have _:=h;exact ak.pY ((show ak P G 184 [AV.ptr 0 0,int (↑dep:Int)] (jD 3 r) (aS.Ay (AV.qX 36 (int 10))) [ah.box [AV.sl 1 false (jl r)]]from aj [kc [0] (@Go.yU.bO (AV.lit (Value.int IntKind.u8 3)) (r) zO),ko (bC.elem [AV.lit (Value.int IntKind.u8 3)]),kp (show(0:Int)<=(0:Int)/\[[AV.lit (Value.int IntKind.u8 3)]][Int.toNat 0]?=some [AV.lit (Value.int IntKind.u8 3)]from(⟨zD,rfl⟩)),kf (Eq.refl false),kf (Eq.refl false),kt (Eq.refl true),kc [0] (show ak P G 185 [AV.ptr 0 0,Am.bool (decide ((↑dep:Int)<(16:Int)))] [ah.box [AV.sl 1 false (jl r)]] (aS.Ay (AV.qX 36 (int 10))) [ah.box [AV.sl 1 false (jl r)]]from(by have h0:=(@Go.yU.aV (ah.box [AV.sl 1 false (jl r)]) (decide ((↑dep:Int)<(16:Int))));simp only[yK (show ¬(decide ((↑dep:Int)<(16:Int))=true)from Bool.eq_false_iff.1 (decide_eq_false zO))]at h0;exact h0))] zQ)) (by exact⟨.inr yO,yO⟩)
theorem awf(dep:Nat)(r:List UInt8)(hl:r.length<=999999999)(hd:dep<16)(dK:FU r=false)(h:True):ak P G 184 [AV.ptr 0 0,int (↑dep:Int)] (jD 3 r) (aS.Ay aO) [ah.aH]:=by
 have _:=h;exact ak.pY ((show ak P G 184 [AV.ptr 0 0,int (↑dep:Int)] (jD 3 r) (aS.Ay (AV.qX 36 (int 10))) [ah.box [AV.sl 1 false (jl (Co r))]]from aj [kc [0] (@Go.yU.bO (AV.lit (Value.int IntKind.u8 3)) (r) zO),ko (bC.elem [AV.lit (Value.int IntKind.u8 3)]),kp (show(0:Int)<=(0:Int)/\[[AV.lit (Value.int IntKind.u8 3)]][Int.toNat 0]?=some [AV.lit (Value.int IntKind.u8 3)]from(⟨zD,rfl⟩)),kf (Eq.refl false),kf (Eq.refl false),kt (Eq.refl true),kc [0] (show ak P G 185 [AV.ptr 0 0,Am.bool (decide ((↑dep:Int)<(16:Int)))] [ah.box [AV.sl 1 false (jl r)]] (aS.ret (AV.bq [])) [ah.box [AV.sl 1 false (jl r)]]from(by have h0:=(@Go.yU.aV (ah.box [AV.sl 1 false (jl r)]) (decide ((↑dep:Int)<(16:Int))));simp only[yL (show decide ((↑dep:Int)<(16:Int))=true from decide_eq_true zO)]at h0;exact h0)),kc [0] (show ak P G 261 [AV.ptr 0 0] [ah.box [AV.sl 1 false (jl r)]] (aS.Ay (AV.qX 36 (int 10))) [ah.box [AV.sl 1 false (jl (Co r))]]from(by have h0:=(@Go.yU.jN (r) zO);simp only[yK (show ¬(FU r=true)from Bool.eq_false_iff.1 (dK))]at h0;exact h0))] zQ)) (by exact⟨.inr yO,yO⟩)
theorem awR(dep:Nat)(r:List UInt8)(hl:r.length<=999999999)(hd:dep<16)(dK:FU r=true)(hu:Cn r=0)(h:True):ak P G 184 [AV.ptr 0 0,int (↑dep:Int)] (jD 3 r) (aS.ret (val (mkL []))) (dH (Co r)):=by
 have _:=h;exact ak.out ((show ak P G 184 [AV.ptr 0 0,int (↑dep:Int)] (jD 3 r) (aS.ret (AV.agg [int 3,int 0,str (ByteArray.mk #[]),aK])) [ah.box [AV.sl 1 false (jl (Co r))]]from aj [kc [0] (@Go.yU.bO (AV.lit (Value.int IntKind.u8 3)) (r) zO),ko (bC.elem [AV.lit (Value.int IntKind.u8 3)]),kp (show(0:Int)<=(0:Int)/\[[AV.lit (Value.int IntKind.u8 3)]][Int.toNat 0]?=some [AV.lit (Value.int IntKind.u8 3)]from(⟨zD,rfl⟩)),kf (Eq.refl false),kf (Eq.refl false),kt (Eq.refl true),kc [0] (show ak P G 185 [AV.ptr 0 0,Am.bool (decide ((↑dep:Int)<(16:Int)))] [ah.box [AV.sl 1 false (jl r)]] (aS.ret (AV.bq [])) [ah.box [AV.sl 1 false (jl r)]]from(by have h0:=(@Go.yU.aV (ah.box [AV.sl 1 false (jl r)]) (decide ((↑dep:Int)<(16:Int))));simp only[yL (show decide ((↑dep:Int)<(16:Int))=true from decide_eq_true zO)]at h0;exact h0)),kc [0] (show ak P G 261 [AV.ptr 0 0] [ah.box [AV.sl 1 false (jl r)]] (aS.ret (int (↑(Cn r):Int))) [ah.box [AV.sl 1 false (jl (Co r))]]from(by have h0:=(@Go.yU.jN (r) zO);simp only[yL (show FU r=true from dK)]at h0;exact h0)),kl [2,3,5,6,7,8,9,10,11,12,13,14,15,16,17,18,19,20,21,22,23,24,25,26,27,28,29,30,31,32,33,34,35,38,39,40,41,42,43,44,45,46,47,48,49] 2 (@Go.yU.awM (dep) (Co r) (Cn r) zO (trivial))] zQ)) (aF.qo ⟨aF.refl _,aF.refl _,aF.refl _,(aF.nil _),yO⟩)
theorem avN(dep n:Nat)(r r':List UInt8)(vs:List CV)(hl:r.length<=999999999)(hd:dep<16)(dK:FU r=true)(hu:Cn r=n+1)(bL:vs.length=n+1)(hN:n+1<=1000000000)(hL:bN P G none 1 (vg P 184 0) (awc dep (Co r) (Cn r)) (.exit 1) { aL:=aC 50 [(4,.ptr 1 0)],H:=[.box [Cy r'],.box [int 3,int 0,str { data:=#[] },.aU 2 n 0 vs.length],.aN n 4 false (iB vs)] })(h:True):ak P G 184 [AV.ptr 0 0,int (↑dep:Int)] (jD 3 r) (aS.ret (val (mkL vs))) (dH r'):=by
 have _:=h;exact aj [kc [0] (@Go.yU.bO (AV.lit (Value.int IntKind.u8 3)) (r) zO),ko (bC.elem [AV.lit (Value.int IntKind.u8 3)]),kp (show(0:Int)<=(0:Int)/\[[AV.lit (Value.int IntKind.u8 3)]][Int.toNat 0]?=some [AV.lit (Value.int IntKind.u8 3)]from(⟨zD,rfl⟩)),kf (Eq.refl false),kf (Eq.refl false),kt (Eq.refl true),kc [0] (show ak P G 185 [AV.ptr 0 0,Am.bool (decide ((↑dep:Int)<(16:Int)))] [ah.box [AV.sl 1 false (jl r)]] (aS.ret (AV.bq [])) [ah.box [AV.sl 1 false (jl r)]]from(by have h0:=(@Go.yU.aV (ah.box [AV.sl 1 false (jl r)]) (decide ((↑dep:Int)<(16:Int))));simp only[yL (show decide ((↑dep:Int)<(16:Int))=true from decide_eq_true zO)]at h0;exact h0)),kc [0] (show ak P G 261 [AV.ptr 0 0] [ah.box [AV.sl 1 false (jl r)]] (aS.ret (int (↑(Cn r):Int))) [ah.box [AV.sl 1 false (jl (Co r))]]from(by have h0:=(@Go.yU.jN (r) zO);simp only[yL (show FU r=true from dK)]at h0;exact h0)),kl [2,3,5,6,7,8,9,10,11,12,13,14,15,16,17,18,19,20,21,22,23,24,25,26,27,28,29,30,31,32,33,34,35,38,39,40,41,42,43,44,45,46,47,48,49] 2 (@hL ),ko (bC.fz (some 49) (iB vs)),kp (show n=n from(rfl)),kp (show List.take (length vs) (List.drop 0 (iB vs))=iB vs from(Go.yU.aa7 _)),kp (show length (iB vs)=length vs from(Go.yU.fA _)),kp (show ∀(c:List AV),c∈iB vs->List.all c AV.fJ=true from(Go.yU.WV _))] zQ
theorem avC(dep n:Nat)(r:List UInt8)(hl:r.length<=999999999)(hd:dep<16)(dK:FU r=true)(hL:bN P G none 1 (vg P 184 0) (awc dep (Co r) (Cn r)) (.Ay aO) { aL:=aC 50 [],H:=[.aH] })(h:True):ak P G 184 [AV.ptr 0 0,int (↑dep:Int)] (jD 3 r) (aS.Ay aO) [ah.aH]:=by
 have _:=h;exact aj [kc [0] (@Go.yU.bO (AV.lit (Value.int IntKind.u8 3)) (r) zO),ko (bC.elem [AV.lit (Value.int IntKind.u8 3)]),kp (show(0:Int)<=(0:Int)/\[[AV.lit (Value.int IntKind.u8 3)]][Int.toNat 0]?=some [AV.lit (Value.int IntKind.u8 3)]from(⟨zD,rfl⟩)),kf (Eq.refl false),kf (Eq.refl false),kt (Eq.refl true),kc [0] (show ak P G 185 [AV.ptr 0 0,Am.bool (decide ((↑dep:Int)<(16:Int)))] [ah.box [AV.sl 1 false (jl r)]] (aS.ret (AV.bq [])) [ah.box [AV.sl 1 false (jl r)]]from(by have h0:=(@Go.yU.aV (ah.box [AV.sl 1 false (jl r)]) (decide ((↑dep:Int)<(16:Int))));simp only[yL (show decide ((↑dep:Int)<(16:Int))=true from decide_eq_true zO)]at h0;exact h0)),kc [0] (show ak P G 261 [AV.ptr 0 0] [ah.box [AV.sl 1 false (jl r)]] (aS.ret (int (↑(Cn r):Int))) [ah.box [AV.sl 1 false (jl (Co r))]]from(by have h0:=(@Go.yU.jN (r) zO);simp only[yL (show FU r=true from dK)]at h0;exact h0)),kl [2,3,5,6,7,8,9,10,11,12,13,14,15,16,17,18,19,20,21,22,23,24,25,26,27,28,29,30,31,32,33,34,35,38,39,40,41,42,43,44,45,46,47,48,49] 2 (@hL )] zQ
def Kk(deep:Bool)(p:List UInt8->Bool×CV×List UInt8):List UInt8->Bool×CV×List UInt8
 |[]=>(false,default,[])
 |c::r=>if c.toNat=1 then(Qu r,mkI (sgn (Cn r)),Co r)
  else if c.toNat=2 then(FU r,mkT ⟨((Co r).take (Cn r)).toArray⟩,(Co r).drop (Cn r))
  else if c.toNat=3 then(if deep=true/\FU r=true then((Gj p (Cn r) (Co r)).1,mkL (Gj p (Cn r) (Co r)).2.1,(Gj p (Cn r) (Co r)).2.2)else(false,default,[]))
  else(false,default,[])
def P5:Nat->List UInt8->Bool×CV×List UInt8
 |0=>Kk false fun _=>(false,default,[])
 |f+1=>Kk true (P5 f)
theorem av1{deep:Bool}{p:List UInt8->Bool×CV×List UInt8}(hp:∀l,(p l).2.2.length<=l.length):∀l,(Kk deep p l).2.2.length<=l.length
 |[]=>Nat.le_refl _
 |c::r=>by
  have h1:=aue r;simp only[Kk];split
  .simp only[yE];omega
  .split
   .simp only[yE,length_drop];omega
   .split
    .split
     .have:=av0 hp (Cn r) (Co r);simp only[yE];omega
     .simp
    .simp
theorem avD{r:List UInt8}(h:FU r=true):Cn r<=(Co r).length:=by
 simp only[FU,Bool.and_eq_true,decide_eq_true_eq]at h;exact h.2
theorem auh{c d:UInt8}(h:c.toNat=d.toNat):c=d:=UInt8.toNat_inj.1 h
theorem ag4{deep:Bool}{p:List UInt8->Bool×CV×List UInt8}{c:UInt8}{r:List UInt8}(h:c.toNat=1):Kk deep p (c::r)=(Qu r,mkI (sgn (Cn r)),Co r):=by
 simp only[Kk];rw[yL h]
theorem ag5{deep:Bool}{p:List UInt8->Bool×CV×List UInt8}{c:UInt8}{r:List UInt8}(h:c.toNat=2):Kk deep p (c::r)=(FU r,mkT ⟨((Co r).take (Cn r)).toArray⟩,(Co r).drop (Cn r)):=by
 simp only[Kk];rw[yK zO,yL h]
theorem ag6{deep:Bool}{p:List UInt8->Bool×CV×List UInt8}{c:UInt8}{r:List UInt8}(h:c.toNat=3):Kk deep p (c::r)=if deep=true/\FU r=true then((Gj p (Cn r) (Co r)).1,mkL (Gj p (Cn r) (Co r)).2.1,(Gj p (Cn r) (Co r)).2.2)else(false,default,[]):=by
 simp only[Kk];rw[yK zO,yK zO,yL h]
theorem ax6{deep:Bool}{p:List UInt8->Bool×CV×List UInt8}{c:UInt8}{r:List UInt8}(h1:c.toNat≠1)(h2:c.toNat≠2)(h3:c.toNat≠3):Kk deep p (c::r)=(false,default,[]):=by
 simp only[Kk];rw[yK h1,yK h2,yK h3]
theorem at6{dep:Nat}{deep:Bool}{p:List UInt8->Bool×CV×List UInt8}(hp:deep=true->dep<16/\Reads (dep+1) p)(hd:deep=false->dep=16)(l:List UInt8)(hl:l.length<=1000000000) :
 ak P G 184 [.ptr 0 0,int (dep:Int)] (dH l) (if(Kk deep p l).1=true then .ret (val (Kk deep p l).2.1)else .Ay aO) [if(Kk deep p l).1=true then .box [Cy (Kk deep p l).2.2]else .aH]:=by
 cases l with
 |nil=>exact axC dep trivial
 |cons c r =>
  have hr:r.length<=999999999:=by simp at hl;omega
  have hR:=aue r;by_cases h1:c.toNat=1
  .have hc:c=1:=auh h1;rw[ag4 h1];subst hc;cases dK:Qu r with
   |true=>simp only[if_true];exact axE dep r hr (auc r) dK trivial
   |false=>simp only[Bool.false_eq_true,if_false];exact av8 dep r hr dK trivial
  .by_cases h2:c.toNat=2
   .have hc:c=2:=auh h2;rw[ag5 h2];subst hc;cases dK:FU r with
    |true=>simp only[if_true];exact axF dep r hr (auc r) zO dK (avD dK) trivial
    |false=>simp only[Bool.false_eq_true,if_false];exact av9 dep r hr dK trivial
   .by_cases h3:c.toNat=3
    .have hc:c=3:=auh h3;rw[ag6 h3];subst hc;cases deep with
     |false =>
      simp only[Bool.false_eq_true,false_and,if_false];exact awQ dep r hr (hd rfl) trivial
     |true =>
      obtain⟨awS,hp⟩:=hp rfl;cases dK:FU r with
      |false=>simp only[Bool.false_eq_true,and_false,if_false];exact awf dep r hr awS dK trivial
      |true =>
       simp only[and_self,if_true];have uQ:=avD dK;cases hu:Cn r with
       |zero =>
        simp only[Gj,if_true];exact awR dep r hr awS dK hu trivial
       |succ n =>
        have hL:=awe hp awS n zO (Co r) zO;cases hq:(Gj p (n+1) (Co r)).1 with
        |true =>
         rw[hq]at hL;simp only[if_true]at hL |-;exact avN dep n r _ _ hr awS dK hu (avB _ _ hq) zO (by rw[hu];exact hL) trivial
        |false =>
         rw[hq]at hL;simp only[Bool.false_eq_true,if_false]at hL |-;exact avC dep n r hr awS dK (by rw[hu];exact hL) trivial
    .rw [ax6 h1 h2 h3];simp only[if_false,Bool.false_eq_true];exact axD dep c r hr c.toNat_lt h1 h2 h3 trivial
theorem oH:∀(f dep:Nat),f+dep=16->Reads dep (P5 f)
 |0,dep,h=>⟨fun l hl=>at6 (fun h=>by cases h) (fun _=>zO) l hl,av1 fun _=>Nat.zero_le _⟩
 |f+1,dep,h=>⟨fun l hl=>at6 (fun _=>⟨zO,oH f (dep+1) zO⟩) (fun h=>by cases h) l hl,av1 (oH f (dep+1) zO).le⟩
theorem awg(o0 o1 o2:ah):auj P G 183 [.ptr 0 0,.ptr 1 0] [o0,o1,o2] (.ret .aP) [.br false]=some ([o0,o1,o2],.ret .aP,[false=false]):=zQ
theorem axI(o0 o1 o2:ah):ank P G 183 [.ptr 0 0,.ptr 1 0] [o0,o1,o2] (.ret .aP) [o0,o1,o2] (.ret .aP):=vX _ (awg o0 o1 o2) ⟨rfl,yO⟩
theorem awh(a b c d e:AV)(o2:ah):auj P G 183 [.ptr 0 0,.ptr 1 0] [.box [a,b,c,d],.box [e],o2] (.Ay aO) [.br true]=some ([.box [int 0,int 0,str { data:=#[] },aK],.box [int 10],o2],.ret .aP,[true=true]):=zQ
theorem av2(a b c d e:AV)(o2:ah):ank P G 183 [.ptr 0 0,.ptr 1 0] [.box [a,b,c,d],.box [e],o2] (.Ay aO) [.box [int 0,int 0,str { data:=#[] },aK],.box [int 10],o2] (.ret .aP):=vX _ (awh a b c d e o2) ⟨rfl,yO⟩
theorem ax7(l r:List UInt8)(v:CV)(hr0:r.length=0)(hv:ak P G 184 [.ptr 0 0,int ((0:Nat):Int)] (dH l) (.ret (val v)) (dH r))(h:True):ak P G 82 [Cy l] [] (aS.ret (AV.bq [val v,int 0])) []:=by
 have _:=h;exact aj [kc [2] (@hv ),kv 16 (show Am.aF (int (↑(length (jl r)):Int)) (int (↑(length r):Int))from(aF.of_eq (by simp only[Go.yU.eu]))),kc [2] (show ak P G 185 [AV.ptr 0 0,Am.bool ((↑(length r):Int)==0)] [ah.box [AV.sl 1 false (jl r)]] (aS.ret (AV.bq [])) [ah.box [AV.sl 1 false (jl r)]]from(by have h0:=(@Go.yU.aV (ah.box [AV.sl 1 false (jl r)]) ((↑(length r):Int)==0));simp only[yL (show((↑(length r):Int)==0)=true from decide_eq_true zO)]at h0;exact h0)),ko (bC.dcall (aS.ret AV.aP) [ah.box [int (CV.k v),int (CV.n v),str (CV.s v),AV.sl 4 false (iB (CV.l v))],ah.box [int 0],ah.box [AV.sl 1 false (jl r)]]),kp (@Go.yU.axI (ah.box [int (CV.k v),int (CV.n v),str (CV.s v),AV.sl 4 false (iB (CV.l v))]) (ah.box [int 0]) (ah.box [AV.sl 1 false (jl r)]))] zQ
theorem awT(l r:List UInt8)(v:CV)(hr0:0<r.length)(hv:ak P G 184 [.ptr 0 0,int ((0:Nat):Int)] (dH l) (.ret (val v)) (dH r))(h:True):ak P G 82 [Cy l] [] (aS.ret (AV.bq [val default,int 10])) []:=by
 have _:=h;exact ak.out ((show ak P G 82 [Cy l] [] (aS.ret (AV.bq [AV.agg [int 0,int 0,str (ByteArray.mk #[]),aK],int 10])) []from aj [kc [2] (@hv ),kv 16 (show Am.aF (int (↑(length (jl r)):Int)) (int (↑(length r):Int))from(aF.of_eq (by simp only[Go.yU.eu]))),kc [2] (show ak P G 185 [AV.ptr 0 0,Am.bool ((↑(length r):Int)==0)] [ah.box [AV.sl 1 false (jl r)]] (aS.Ay (AV.qX 36 (int 10))) [ah.box [AV.sl 1 false (jl r)]]from(by have h0:=(@Go.yU.aV (ah.box [AV.sl 1 false (jl r)]) ((↑(length r):Int)==0));simp only[yK (show ¬(((↑(length r):Int)==0)=true)from Bool.eq_false_iff.1 (decide_eq_false zO))]at h0;exact h0)),ko (bC.dcall (aS.ret AV.aP) [ah.box [int 0,int 0,str (ByteArray.mk #[]),aK],ah.box [int 10],ah.box [AV.sl 1 false (jl r)]]),kp (@Go.yU.av2 (int (CV.k v)) (int (CV.n v)) (str (CV.s v)) (AV.sl 4 false (iB (CV.l v))) (int 0) (ah.box [AV.sl 1 false (jl r)]))] zQ)) (aF.iM ⟨(aF.qo ⟨aF.refl _,aF.refl _,aF.refl _,(aF.nil _),yO⟩),aF.refl _,yO⟩)
theorem axJ(l:List UInt8)(hv:ak P G 184 [.ptr 0 0,int ((0:Nat):Int)] (dH l) (.Ay aO) [.aH])(h:True):ak P G 82 [Cy l] [] (aS.ret (AV.bq [val default,int 10])) []:=by
 have _:=h;exact ak.out ((show ak P G 82 [Cy l] [] (aS.ret (AV.bq [AV.agg [int 0,int 0,str (ByteArray.mk #[]),aK],int 10])) []from aj [kc [2] (@hv ),ko (bC.dcall (aS.ret AV.aP) [ah.box [int 0,int 0,str (ByteArray.mk #[]),aK],ah.box [int 10],ah.aH]),kp (@Go.yU.av2 (int 0) (int 0) (str (ByteArray.mk #[])) (aK) (int 0) (ah.aH))] zQ)) (aF.iM ⟨(aF.qo ⟨aF.refl _,aF.refl _,aF.refl _,(aF.nil _),yO⟩),aF.refl _,yO⟩)
def adn(l:List UInt8):Bool:=(P5 16 l).1&&(P5 16 l).2.2.isEmpty
def aaw(l:List UInt8):CV:=if adn l=true then(P5 16 l).2.1 else default
def adl(l:List UInt8):Int:=if adn l=true then 0 else 10
theorem awU(l:List UInt8)(hl:l.length<=1000000000):ak P G 82 [Cy l] [] (.ret (.bq [val (aaw l),int (adl l)])) []:=by
 have hv:=(oH 16 0 zO).call l hl;cases dK:(P5 16 l).1 with
 |false =>
  rw[dK]at hv;simp only[Bool.false_eq_true,if_false]at hv;have hb:adn l=false:=by simp[adn,dK]
  simp only[aaw,adl,hb,Bool.false_eq_true,if_false];exact axJ l hv trivial
 |true =>
  rw[dK]at hv;simp only[if_true]at hv;cases hr:(P5 16 l).2.2 with
  |nil =>
   have hb:adn l=true:=by simp[adn,dK,hr]
   simp only[aaw,adl,hb,if_true];rw[hr]at hv;exact ax7 l [] _ rfl hv trivial
  |cons c r =>
   have hb:adn l=false:=by simp[adn,dK,hr]
   simp only[aaw,adl,hb,Bool.false_eq_true,if_false];exact awT l _ _ (by rw[hr];simp) hv trivial
theorem abC(u:Nat):num u=WY 9 u:=(UR 9 u).symm
theorem ofNat_toNat(c:UInt8):UInt8.ofNat c.toNat=c:=UInt8.toNat_inj.1 (by rw[UInt8.toNat_ofNat'];exact Nat.mod_eq_of_lt c.toNat_lt)
theorem aAr{f u:Nat}(h:u<128):WY f u=[UInt8.ofNat u]:=by
 cases f with
 |zero=>rfl
 |succ f=>simp only[WY];rw[yL h]
theorem abD(i:Nat):2^(7*(i+1))=128*2^(7*i):=by rw[Nat.mul_add,Nat.pow_add];omega
theorem azZ:∀(l:List UInt8)(u i:Nat),i<=9->(SX l u i).1=true->∃X:Nat,(SX l u i).2.1=u+X*2^(7*i)/\l=WY (9-i) X++(SX l u i).2.2/\(i≠0->X≠0)
 |[],u,i,hi,h=>by simp[SX]at h
 |c::r,u,i,hi,h=>by
  have hc8:=c.toNat_lt;by_cases hbad:(i≠0/\c.toNat=0)\/(9<=i/\1<c.toNat)
  .simp only[SX]at h;rw[yL hbad]at h;cases h
  .by_cases hc:c.toNat<128
   .have e:SX (c::r) u i=(true,u+c.toNat % 128*2^(7*i),r):=by simp only[SX];rw[yK hbad,yL hc]
    rw[e];refine⟨c.toNat,by rw[Nat.mod_eq_of_lt hc],?_,fun hi0=>zO⟩;rw[aAr hc,ofNat_toNat];rfl
   .have e:SX (c::r) u i=SX r (u+c.toNat % 128*2^(7*i)) (i+1):=by
     simp only[SX];rw[yK hbad,yK hc]
    rw[e]at h |-;have hi8:i<=8:=zO
    obtain⟨X,h1,h2,h3⟩:=azZ r (u+c.toNat % 128*2^(7*i)) (i+1) zO h;refine⟨c.toNat % 128+128*X,?_,?_,fun _=>?_⟩
    .rw [h1,abD,Nat.add_assoc,Nat.add_mul];congr 2;rw[<- Nat.mul_assoc,Nat.mul_comm X 128]
    .have hX:=h3 zO;rw[show 9-i=(9-(i+1))+1 by omega];simp only[WY];rw[yK zO,show(c.toNat % 128+128*X)/128=X by omega,show(c.toNat % 128+128*X) % 128+128=c.toNat by omega,ofNat_toNat,cons_append,<- h2]
    .have:=h3 zO;omega
theorem axf{l:List UInt8}(h:Qu l=true):l=num (Cn l)++Co l:=by
 obtain⟨X,h1,h2,_⟩:=azZ l 0 0 zO h;rw[abC];have:Cn l=X:=by
  unfold Cn;rw[h1];simp
 rw[this];exact h2
theorem Qv:∀(f X u i:Nat)(r:List UInt8),f+i=9->X*2^(7*i)<18446744073709551616->(i≠0->X≠0)->SX (WY f X++r) u i=(true,u+X*2^(7*i),r)
 |0,X,u,i,r,hf,hX,h0=>by
  have hi:i=9:=zO
  subst hi;have e9:2^(7*9)=9223372036854775808:=zD
  rw[e9]at hX |-;have hc:X<2:=zO
  have:=h0 zO;have e:X=1:=zO
  subst e;rfl
 |f+1,X,u,i,r,hf,hX,h0=>by
  have qh:0<2^(7*i):=Nat.pow_pos zD;simp only[WY];by_cases hc:X<128
  .rw [yL hc];have e:(UInt8.ofNat X).toNat=X:=by rw[UInt8.toNat_ofNat'];exact Nat.mod_eq_of_lt zO
   simp only[cons_append,nil_append,SX];rw[e,yK zO,yL hc,Nat.mod_eq_of_lt hc]
  .rw [yK hc];have e:(UInt8.ofNat (X % 128+128)).toNat=X % 128+128:=by rw[UInt8.toNat_ofNat'];exact Nat.mod_eq_of_lt zO
   simp only[cons_append,SX];have ah9:X*2^(7*i)=X % 128*2^(7*i)+X/128*2^(7*(i+1)):=by
    rw[abD,<- Nat.mul_assoc,<- Nat.add_mul];congr 1;omega
   rw[e,yK zO,yK zO,show(X % 128+128) % 128=X % 128 by omega];rw[Qv f (X/128) _ (i+1) r zO zO (fun _=>zO),Nat.add_assoc,<- ah9]
theorem ET(u:Nat)(hu:u<18446744073709551616)(r:List UInt8):Qu (num u++r)=true/\Cn (num u++r)=u/\Co (num u++r)=r:=by
 have:=Qv 9 u 0 0 r zO (by simpa using hu) (fun h=>absurd rfl h);rw[<- abC]at this;simp only[Qu,Cn,Co,this];simp
theorem aBu{u:Nat}:vP (sgn u)=u:=by
 unfold sgn vP;split
 .grind
 .grind
theorem adi(n:Int):sgn (vP n)=n:=by
 unfold vP;split
 .grind [sgn]
 .grind [sgn]
theorem aAM{u:Nat}(h:u<18446744073709551616) : -9223372036854775808<=sgn u/\sgn u<9223372036854775808:=by grind[sgn]
structure Good(d:Nat)(l:List UInt8)(v:CV)(r:List UInt8):Prop where
 wf:wf v=true
 dp:dp v<=d
 ok:QG v
 eq:l=gT v++r
theorem ag7{l:List CV}(h:∀x∈l,wf x=true):Lb l=true:=by
 induction l with
 |nil=>rfl
 |cons a l ih=>simp only[Lb,Bool.and_eq_true];exact⟨h a mem_cons_self,ih fun x hx=>h x (yF _ hx)⟩
theorem ag8{l:List CV}{d:Nat}(h:∀x∈l,dp x<=d):JO l<=d:=by
 induction l with
 |nil=>exact Nat.zero_le _
 |cons a l ih =>
  simp only[JO];have:=h a mem_cons_self;have:=ih fun x hx=>h x (yF _ hx);omega
theorem az0{d:Nat}{p:List UInt8->Bool×CV×List UInt8}(hp:∀l:List UInt8,l.length<=1000000000->(p l).1=true->Good d l (p l).2.1 (p l).2.2):∀(n:Nat)(r:List UInt8),r.length<=1000000000->(Gj p n r).1=true ->
 (∀x∈(Gj p n r).2.1,wf x=true/\dp x<=d/\QG x)/\r=je (Gj p n r).2.1++(Gj p n r).2.2
 |0,r,_,_=>⟨fun x hx=>by simp[Gj]at hx,rfl⟩
 |n+1,r,hr,h=>by
  cases dK:(p r).1 with
  |false=>simp[Gj,dK]at h
  |true =>
   have e:Gj p (n+1) r=((Gj p n (p r).2.2).1,(p r).2.1::(Gj p n (p r).2.2).2.1,(Gj p n (p r).2.2).2.2):=by simp[Gj,dK]
   rw[e]at h |-;have hg:=hp r hr dK;have bL:(p r).2.2.length<=1000000000:=by
    have:=yJ length hg.eq;rw[yD]at this;omega
   obtain⟨k1,k2⟩:=az0 hp n (p r).2.2 bL h;refine⟨fun x hx=>?_,?_⟩
   .rcases yH.1 hx with rfl|hx
    .exact ⟨hg.wf,hg.dp,hg.ok⟩
    .exact k1 x hx
   .show r=je ((p r).2.1::_)++_;rw[Jr,append_assoc,<- k2];exact hg.eq
theorem aAX(l:List UInt8):(⟨l.toArray⟩:yP).size=l.length:=by simp[ByteArray.size]
theorem az1{d:Nat}{deep:Bool}{p:List UInt8->Bool×CV×List UInt8}(hp:deep=true->1<=d/\∀l:List UInt8,l.length<=1000000000->(p l).1=true->Good (d-1) l (p l).2.1 (p l).2.2) :
 ∀l:List UInt8,l.length<=1000000000->(Kk deep p l).1=true->Good d l (Kk deep p l).2.1 (Kk deep p l).2.2
 |[],_,h=>by simp[Kk]at h
 |c::r,hl,h=>by
  have hr:r.length<=999999999:=by simp at hl;omega
  have hU:=auc r;by_cases h1:c.toNat=1
  .have hc:c=1:=auh h1;rw[ag4 h1]at h |-;subst hc;have hs:=axf h;refine⟨by simp[mkI,wf],by simp[mkI,dp],.mk _ _ _ _ (aAM hU) zD zD (fun x hx=>by cases hx),?_⟩;have e1:gT (mkI (sgn (Cn r)))=1::num (vP (sgn (Cn r))):=by simp[gT,mkI]
   rw[e1,aBu,cons_append,<- hs]
  .by_cases h2:c.toNat=2
   .have hc:c=2:=auh h2;rw[ag5 h2]at h |-;subst hc;have uQ:=avD h;simp only[FU,Bool.and_eq_true]at h;have hs:=axf h.1;have hR:=aue r;have iZ:(⟨((Co r).take (Cn r)).toArray⟩:yP).size=Cn r:=by rw[aAX,length_take];omega
    refine⟨by simp[mkT,wf],by simp[mkT,dp],.mk _ _ _ _ zD (by rw[iZ];omega) zD (fun x hx=>by cases hx),?_⟩;have e1:gT (mkT ⟨((Co r).take (Cn r)).toArray⟩)=2::(num (Cn r)++(Co r).take (Cn r)):=by
     simp only[mkT,gT];rw[yK zD,yL yO,iZ]
    rw[e1,cons_append,append_assoc,take_append_drop,<- hs]
   .by_cases h3:c.toNat=3
    .have hc:c=3:=auh h3;rw[ag6 h3]at h |-;subst hc;split at h
     .rename_i qK;rw[yL qK];obtain⟨hd,dK⟩:=qK;obtain⟨hd1,hpp⟩:=hp hd;have uQ:=avD dK;simp only[FU,Bool.and_eq_true]at dK;have hs:=axf dK.1;have hR:=aue r;obtain⟨k1,k2⟩:=az0 hpp (Cn r) (Co r) zO h;have bL:=avB _ _ h;refine⟨?_,?_,.mk _ _ _ _ zD zD (by rw[bL];omega) (fun x hx=>(k1 x hx).2.2),?_⟩
      .have:=ag7 fun x hx=>(k1 x hx).1;simp[mkL,wf,this]
      .have:=ag8 fun x hx=>(k1 x hx).2.1;simp only[mkL,dp,if_true];omega
      .have e1:gT (mkL (Gj p (Cn r) (Co r)).2.1)=3::(num (Cn r)++je (Gj p (Cn r) (Co r)).2.1):=by
        simp only[mkL,gT];rw[yK zD,yK zD,bL]
       rw[e1,cons_append,append_assoc,<- k2,<- hs]
     .cases h
    .rw [ax6 h1 h2 h3]at h;cases h
theorem az2:∀(f:Nat)(l:List UInt8),l.length<=1000000000->(P5 f l).1=true->Good f l (P5 f l).2.1 (P5 f l).2.2
 |0,l,hl,h=>az1 (d:=0) (fun h=>by cases h) l hl h
 |f+1,l,hl,h=>az1 (d:=f+1) (fun _=>⟨zO,az2 f⟩) l hl h
end Go.yU
namespace Go.bH
open Go Go.Am Go.Proofs Go.eY
def fM(a b:List D):Int:=if eZ a=0 then eZ b else eZ a
theorem abE(a b:List D)(ha:a.length<=1000000000)(hb:b.length<=1000000000)(h:(((eZ a=0)->(eZ b:Int)=(fM a b))/\((¬eZ a=0)->(eZ a:Int)=(fM a b)))):Cq 265 [bB a,bB b] (int (fM a b)):=by
 have bS:=(@fG (a) zO);by_cases c1:(eZ a=0)
 .have h:=h.1 c1;exact aA (aF.int_eq h) [kc [] bS,kf (show(eZ a != 0)=false from(yJ Bool.not (nW.2 c1))),kc [] (@fG (b) zO)]
 .have h:=h.2 c1;exact aA (aF.int_eq h) [kc [] bS,kt (show(eZ a != 0)=true from(yJ Bool.not (qN.2 c1)))]
theorem PX(a b:List D)(ha:a.length<=1000000000)(hb:b.length<=1000000000):Cq 265 [bB a,bB b] (int (fM a b)) :=
 abE a b ha hb (by unfold fM;exact⟨fun h=>by rw[yL h],fun h=>by rw[yK h]⟩)
def fu(x y:Int):Int:=if y>x then y else x
def rl(f:Nat):AV:=.lit (.func (.func f) #[] #[])
theorem aoM(d x y:Int)(h:True):ak P G 410 [AV.agg [int d,int x,int y]] [] (aS.ret (int (fu x y))) []:=by
 have _:=h;exact aj [] zQ
theorem alk(d x y:Int):ak P G 410 [.agg [int d,int x,int y]] [] (.ret (int (fu x y))) []:=aoM d x y trivial
def lq:ah:=.iV .ready none (aC 35 [(3,.ptr 3 0),(6,.ptr 4 0)]) #[20] (KP P 199 0) (uT P 199 0)
def q0(f:Nat)(A B:List D):List ah:=[lq,.box [bB A],.box [bB B],.box [rl f],.box [aK]]
def q1(f:Nat)(A B:List D)(g:Nat)(v:List D):List ah:=[lq,.box [bB A],.box [bB B],.box [rl f],.box [.aU 7 g 0 v.length],.aH,.aH,.aN g 2 false (au v)]
def Y0(f:Nat)(tk:Int->Int->Int)(A B:List D)(d x y:Int):Prop :=
 dY P G 0 [.agg [int d,int x,int y]] (q0 f A B++[.box [int d,int x,int y]]) true (if tk x y>0 then q1 f A B 0 [(d,tk x y)]else q0 f A B++[.box [int d,int x,int y]])
def Y1(f:Nat)(tk:Int->Int->Int)(A B v:List D)(g:Nat)(d x y:Int):Prop :=
 dY P G 0 [.agg [int d,int x,int y]] (q1 f A B g v++[.box [int d,int x,int y]]) true (if tk x y>0 then q1 f A B (g+1) (v++[(d,tk x y)])++[.box [int d,int x,int y]]else q1 f A B g v++[.box [int d,int x,int y]])
theorem aeH(A B:List D)(d x y:Int)(b:Bool)(H':List ah)(h:(((fu x y>(0:Int))->(true=b)/\([lq,ah.box [AV.sl 2 false (au A)],ah.box [AV.sl 2 false (au B)],ah.box [AV.lit (Value.func (Fn.func 410) (Array.mk []) (Array.mk []))],ah.box [AV.aU 7 0 0 1],ah.box [int d,int x,int y],ah.box [int d,int x,int y],ah.aN 0 2 false (au [(d,fu x y)])]=H'))/\((¬fu x y>(0:Int))->(true=b)/\([lq,ah.box [AV.sl 2 false (au A)],ah.box [AV.sl 2 false (au B)],ah.box [AV.lit (Value.func (Fn.func 410) (Array.mk []) (Array.mk []))],ah.box [aK],ah.box [int d,int x,int y]]=H')))):dY P G 0 [AV.agg [int d,int x,int y]] (q0 410 A B++[ah.box [int d,int x,int y]]) b H':=by
 have bS:=(@Go.bH.alk (d) (x) (y));by_cases c1:(fu x y>(0:Int))
 .have h:=h.1 c1;obtain⟨e1,e2⟩:=h;exact dY.to ((show dY P G 0 [AV.agg [int d,int x,int y]] (q0 410 A B++[ah.box [int d,int x,int y]]) true [lq,ah.box [AV.sl 2 false (au A)],ah.box [AV.sl 2 false (au B)],ah.box [AV.lit (Value.func (Fn.func 410) (Array.mk []) (Array.mk []))],ah.box [AV.aU 7 0 0 1],ah.box [int d,int x,int y],ah.box [int d,int x,int y],ah.aN 0 2 false (au [(d,fu x y)])]from jI (fun _=>[kc [] bS,kt (decide_eq_true c1),kp (show[[int d,int (fu x y)]]≠[]from zS),kp (show 16<=140737488355328 from zO)]) (fun _=>zQ))) e1 e2
 .have h:=h.2 c1;obtain⟨e1,e2⟩:=h;exact dY.to ((show dY P G 0 [AV.agg [int d,int x,int y]] (q0 410 A B++[ah.box [int d,int x,int y]]) true [lq,ah.box [AV.sl 2 false (au A)],ah.box [AV.sl 2 false (au B)],ah.box [AV.lit (Value.func (Fn.func 410) (Array.mk []) (Array.mk []))],ah.box [aK],ah.box [int d,int x,int y]]from jI (fun _=>[kc [] bS,kf (decide_eq_false c1)]) (fun _=>zQ))) e1 e2
theorem aeI(A B v:List D)(g:Nat)(d x y:Int)(b:Bool)(H':List ah)(hv:v.length<=3000000000)(h:(((fu x y>(0:Int))->(true=b)/\([lq,ah.box [AV.sl 2 false (au A)],ah.box [AV.sl 2 false (au B)],ah.box [AV.lit (Value.func (Fn.func 410) (Array.mk []) (Array.mk []))],ah.box [AV.aU 7 (g+1) 0 (length (v++[(d,fu x y)]))],ah.aH,ah.aH,ah.aN (g+1) 2 false (au (v++[(d,fu x y)])),ah.box [int d,int x,int y]]=H'))/\((¬fu x y>(0:Int))->(true=b)/\([lq,ah.box [AV.sl 2 false (au A)],ah.box [AV.sl 2 false (au B)],ah.box [AV.lit (Value.func (Fn.func 410) (Array.mk []) (Array.mk []))],ah.box [AV.aU 7 g 0 (length v)],ah.aH,ah.aH,ah.aN g 2 false (au v),ah.box [int d,int x,int y]]=H')))):dY P G 0 [AV.agg [int d,int x,int y]] (q1 410 A B g v++[ah.box [int d,int x,int y]]) b H':=by
 have bS:=(@Go.bH.alk (d) (x) (y));by_cases c1:(fu x y>(0:Int))
 .have h:=h.1 c1;obtain⟨e1,e2⟩:=h;exact dY.to ((show dY P G 0 [AV.agg [int d,int x,int y]] (q1 410 A B g v++[ah.box [int d,int x,int y]]) true [lq,ah.box [AV.sl 2 false (au A)],ah.box [AV.sl 2 false (au B)],ah.box [AV.lit (Value.func (Fn.func 410) (Array.mk []) (Array.mk []))],ah.box [AV.aU 7 (g+1) 0 (length (v++[(d,fu x y)]))],ah.aH,ah.aH,ah.aN (g+1) 2 false (au (v++[(d,fu x y)])),ah.box [int d,int x,int y]]from jI (fun _=>[kc [] bS,kt (decide_eq_true c1),ko (bC.hp (some 33) (AV.aU 7 (g+1) 0 (length (v++[(d,fu x y)]))) [ah.iV LoopState.busy none (aC 35 [(3,AV.ptr 3 0),(6,AV.ptr 4 0)]) (Array.mk [20]) (Code.region 5 #[Oper.mk (some 9) (Op.alloc 308) 0 "vector.go:80" #[] none,Oper.mk none (Op.store 308 (Operand.tmp 9) (Operand.tmp 20)) 0 "vector.go:80" #[Edge.mk 0 Ground.data,Edge.mk 0 Ground.phase] none] false) (Code.block 1 (Code.seq (Code.region 6 #[Oper.mk (some 21) (Op.fieldAddr 248 (Operand.tmp 3) 0) 0 "vector.go:81" #[] none,Oper.mk (some 22) (Op.load 246 (Operand.tmp 21)) 246 "vector.go:81" #[Edge.mk 0 Ground.data] none,Oper.mk (some 23) (Op.load 308 (Operand.tmp 9)) 308 "vector.go:81" #[] none,Oper.mk (some 24) (Op.call (Call.mk (Callee.value (Operand.tmp 22)) #[Operand.tmp 23] #[308])) 3 "vector.go:81" #[Edge.mk 1 Ground.data,Edge.mk 2 Ground.data] none,Oper.mk (some 10) (Op.assign (Operand.tmp 24)) 3 "vector.go:81" #[Edge.mk 3 Ground.data,Edge.mk 3 Ground.chain,Edge.mk 0 Ground.phase,Edge.mk 1 Ground.phase,Edge.mk 2 Ground.phase,Edge.mk 3 Ground.phase] none] false) (Code.seq (Code.region 7 #[Oper.mk (some 25) (Op.move (Operand.tmp 10)) 3 "vector.go:81" #[] none,Oper.mk (some 26) (Op.binOp BinOp.gtr 3 (Operand.tmp 25) (Operand.const (Value.int IntKind.i64 0)) 3) 4 "vector.go:81" #[Edge.mk 0 Ground.data] none] false) (Code.cond (Operand.tmp 26) (Code.region 8 #[Oper.mk (some 27) (Op.load 22 (Operand.tmp 6)) 22 "vector.go:82" #[] none,Oper.mk (some 28) (Op.fieldAddr 308 (Operand.tmp 9) 0) 0 "vector.go:82" #[] none,Oper.mk (some 29) (Op.load 3 (Operand.tmp 28)) 3 "vector.go:82" #[Edge.mk 1 Ground.data] none,Oper.mk (some 30) (Op.move (Operand.tmp 10)) 3 "vector.go:82" #[] none,Oper.mk (some 31) (Op.build 27 #[(0,Operand.tmp 29),(1,Operand.tmp 30)]) 27 "vector.go:82" #[Edge.mk 2 Ground.data,Edge.mk 3 Ground.data] none,Oper.mk (some 32) (Op.buildSlice 22 1 #[(0,Operand.tmp 31)]) 22 "vector.go:82" #[Edge.mk 4 Ground.data] none,Oper.mk (some 33) (Op.call (Call.mk (Callee.builtin Builtin.append) #[Operand.tmp 27,Operand.tmp 32] #[22,22])) 22 "vector.go:82" #[Edge.mk 0 Ground.data,Edge.mk 5 Ground.data] none,Oper.mk none (Op.store 22 (Operand.tmp 6) (Operand.tmp 33)) 0 "vector.go:82" #[Edge.mk 6 Ground.data,Edge.mk 6 Ground.chain,Edge.mk 0 Ground.phase,Edge.mk 1 Ground.phase,Edge.mk 2 Ground.phase,Edge.mk 3 Ground.phase,Edge.mk 4 Ground.phase,Edge.mk 5 Ground.phase,Edge.mk 6 Ground.phase] none] false) Code.skip)))),ah.box [AV.sl 2 false (au A)],ah.box [AV.sl 2 false (au B)],ah.box [AV.lit (Value.func (Fn.func 410) (Array.mk []) (Array.mk []))],ah.box [AV.aU 7 g 0 (length v)],ah.aH,ah.aH,ah.aN (g+1) 2 false (au (v++[(d,fu x y)])),ah.box [int d,int x,int y],ah.box [int d,int x,int y]]),kp (show Am.aF (AV.aU 7 (g+1) 0 (length v+1)) (AV.aU 7 (g+1) 0 (length (v++[(d,fu x y)])))from(aF.of_eq (by simp[Go.bH.ay,Go.bH.bJ]))),kp (show Am.HSub [ah.iV LoopState.busy none (aC 35 [(3,AV.ptr 3 0),(6,AV.ptr 4 0)]) (Array.mk [20]) (Code.region 5 #[Oper.mk (some 9) (Op.alloc 308) 0 "vector.go:80" #[] none,Oper.mk none (Op.store 308 (Operand.tmp 9) (Operand.tmp 20)) 0 "vector.go:80" #[Edge.mk 0 Ground.data,Edge.mk 0 Ground.phase] none] false) (Code.block 1 (Code.seq (Code.region 6 #[Oper.mk (some 21) (Op.fieldAddr 248 (Operand.tmp 3) 0) 0 "vector.go:81" #[] none,Oper.mk (some 22) (Op.load 246 (Operand.tmp 21)) 246 "vector.go:81" #[Edge.mk 0 Ground.data] none,Oper.mk (some 23) (Op.load 308 (Operand.tmp 9)) 308 "vector.go:81" #[] none,Oper.mk (some 24) (Op.call (Call.mk (Callee.value (Operand.tmp 22)) #[Operand.tmp 23] #[308])) 3 "vector.go:81" #[Edge.mk 1 Ground.data,Edge.mk 2 Ground.data] none,Oper.mk (some 10) (Op.assign (Operand.tmp 24)) 3 "vector.go:81" #[Edge.mk 3 Ground.data,Edge.mk 3 Ground.chain,Edge.mk 0 Ground.phase,Edge.mk 1 Ground.phase,Edge.mk 2 Ground.phase,Edge.mk 3 Ground.phase] none] false) (Code.seq (Code.region 7 #[Oper.mk (some 25) (Op.move (Operand.tmp 10)) 3 "vector.go:81" #[] none,Oper.mk (some 26) (Op.binOp BinOp.gtr 3 (Operand.tmp 25) (Operand.const (Value.int IntKind.i64 0)) 3) 4 "vector.go:81" #[Edge.mk 0 Ground.data] none] false) (Code.cond (Operand.tmp 26) (Code.region 8 #[Oper.mk (some 27) (Op.load 22 (Operand.tmp 6)) 22 "vector.go:82" #[] none,Oper.mk (some 28) (Op.fieldAddr 308 (Operand.tmp 9) 0) 0 "vector.go:82" #[] none,Oper.mk (some 29) (Op.load 3 (Operand.tmp 28)) 3 "vector.go:82" #[Edge.mk 1 Ground.data] none,Oper.mk (some 30) (Op.move (Operand.tmp 10)) 3 "vector.go:82" #[] none,Oper.mk (some 31) (Op.build 27 #[(0,Operand.tmp 29),(1,Operand.tmp 30)]) 27 "vector.go:82" #[Edge.mk 2 Ground.data,Edge.mk 3 Ground.data] none,Oper.mk (some 32) (Op.buildSlice 22 1 #[(0,Operand.tmp 31)]) 22 "vector.go:82" #[Edge.mk 4 Ground.data] none,Oper.mk (some 33) (Op.call (Call.mk (Callee.builtin Builtin.append) #[Operand.tmp 27,Operand.tmp 32] #[22,22])) 22 "vector.go:82" #[Edge.mk 0 Ground.data,Edge.mk 5 Ground.data] none,Oper.mk none (Op.store 22 (Operand.tmp 6) (Operand.tmp 33)) 0 "vector.go:82" #[Edge.mk 6 Ground.data,Edge.mk 6 Ground.chain,Edge.mk 0 Ground.phase,Edge.mk 1 Ground.phase,Edge.mk 2 Ground.phase,Edge.mk 3 Ground.phase,Edge.mk 4 Ground.phase,Edge.mk 5 Ground.phase,Edge.mk 6 Ground.phase] none] false) Code.skip)))),ah.box [AV.sl 2 false (au A)],ah.box [AV.sl 2 false (au B)],ah.box [AV.lit (Value.func (Fn.func 410) (Array.mk []) (Array.mk []))],ah.box [AV.aU 7 g 0 (length v)],ah.aH,ah.aH,ah.aN (g+1) 2 false (au v++[[int d,int (fu x y)]]),ah.box [int d,int x,int y],ah.box [int d,int x,int y]] [ah.iV LoopState.busy none (aC 35 [(3,AV.ptr 3 0),(6,AV.ptr 4 0)]) (Array.mk [20]) (Code.region 5 #[Oper.mk (some 9) (Op.alloc 308) 0 "vector.go:80" #[] none,Oper.mk none (Op.store 308 (Operand.tmp 9) (Operand.tmp 20)) 0 "vector.go:80" #[Edge.mk 0 Ground.data,Edge.mk 0 Ground.phase] none] false) (Code.block 1 (Code.seq (Code.region 6 #[Oper.mk (some 21) (Op.fieldAddr 248 (Operand.tmp 3) 0) 0 "vector.go:81" #[] none,Oper.mk (some 22) (Op.load 246 (Operand.tmp 21)) 246 "vector.go:81" #[Edge.mk 0 Ground.data] none,Oper.mk (some 23) (Op.load 308 (Operand.tmp 9)) 308 "vector.go:81" #[] none,Oper.mk (some 24) (Op.call (Call.mk (Callee.value (Operand.tmp 22)) #[Operand.tmp 23] #[308])) 3 "vector.go:81" #[Edge.mk 1 Ground.data,Edge.mk 2 Ground.data] none,Oper.mk (some 10) (Op.assign (Operand.tmp 24)) 3 "vector.go:81" #[Edge.mk 3 Ground.data,Edge.mk 3 Ground.chain,Edge.mk 0 Ground.phase,Edge.mk 1 Ground.phase,Edge.mk 2 Ground.phase,Edge.mk 3 Ground.phase] none] false) (Code.seq (Code.region 7 #[Oper.mk (some 25) (Op.move (Operand.tmp 10)) 3 "vector.go:81" #[] none,Oper.mk (some 26) (Op.binOp BinOp.gtr 3 (Operand.tmp 25) (Operand.const (Value.int IntKind.i64 0)) 3) 4 "vector.go:81" #[Edge.mk 0 Ground.data] none] false) (Code.cond (Operand.tmp 26) (Code.region 8 #[Oper.mk (some 27) (Op.load 22 (Operand.tmp 6)) 22 "vector.go:82" #[] none,Oper.mk (some 28) (Op.fieldAddr 308 (Operand.tmp 9) 0) 0 "vector.go:82" #[] none,Oper.mk (some 29) (Op.load 3 (Operand.tmp 28)) 3 "vector.go:82" #[Edge.mk 1 Ground.data] none,Oper.mk (some 30) (Op.move (Operand.tmp 10)) 3 "vector.go:82" #[] none,Oper.mk (some 31) (Op.build 27 #[(0,Operand.tmp 29),(1,Operand.tmp 30)]) 27 "vector.go:82" #[Edge.mk 2 Ground.data,Edge.mk 3 Ground.data] none,Oper.mk (some 32) (Op.buildSlice 22 1 #[(0,Operand.tmp 31)]) 22 "vector.go:82" #[Edge.mk 4 Ground.data] none,Oper.mk (some 33) (Op.call (Call.mk (Callee.builtin Builtin.append) #[Operand.tmp 27,Operand.tmp 32] #[22,22])) 22 "vector.go:82" #[Edge.mk 0 Ground.data,Edge.mk 5 Ground.data] none,Oper.mk none (Op.store 22 (Operand.tmp 6) (Operand.tmp 33)) 0 "vector.go:82" #[Edge.mk 6 Ground.data,Edge.mk 6 Ground.chain,Edge.mk 0 Ground.phase,Edge.mk 1 Ground.phase,Edge.mk 2 Ground.phase,Edge.mk 3 Ground.phase,Edge.mk 4 Ground.phase,Edge.mk 5 Ground.phase,Edge.mk 6 Ground.phase] none] false) Code.skip)))),ah.box [AV.sl 2 false (au A)],ah.box [AV.sl 2 false (au B)],ah.box [AV.lit (Value.func (Fn.func 410) (Array.mk []) (Array.mk []))],ah.box [AV.aU 7 g 0 (length v)],ah.aH,ah.aH,ah.aN (g+1) 2 false (au (v++[(d,fu x y)])),ah.box [int d,int x,int y],ah.box [int d,int x,int y]]from(⟨.inl rfl,.inl rfl,.inl rfl,.inl rfl,.inl rfl,.inl rfl,.inl rfl,.inl (by simp only[Go.bH.gy,Go.bH.sN]),.inl rfl,.inl rfl,yO⟩)),kp (show g=g from(rfl)),kp (show length v=length (au v)from((Go.bH.ay _).symm)),kp (show(length v+1)*16<=140737488355328 from zO),kp (show ∀(x_1:List AV),x_1∈au (v++[(d,fu x y)])->AV.aM [] x_1=true from(Go.bH.bJ _))]) (fun _=>zQ))) e1 e2
 .have h:=h.2 c1;obtain⟨e1,e2⟩:=h;exact dY.to ((show dY P G 0 [AV.agg [int d,int x,int y]] (q1 410 A B g v++[ah.box [int d,int x,int y]]) true [lq,ah.box [AV.sl 2 false (au A)],ah.box [AV.sl 2 false (au B)],ah.box [AV.lit (Value.func (Fn.func 410) (Array.mk []) (Array.mk []))],ah.box [AV.aU 7 g 0 (length v)],ah.aH,ah.aH,ah.aN g 2 false (au v),ah.box [int d,int x,int y]]from jI (fun _=>[kc [] bS,kf (decide_eq_false c1),kp (show ∀(x:List AV),x∈au v->AV.aM [] x=true from(Go.bH.bJ _))]) (fun _=>zQ))) e1 e2
theorem gy0(A B:List D)(d x y:Int):Y0 410 fu A B d x y:=by
 unfold Y0;by_cases h:fu x y>0
 .rw [yL h];exact dY.pY (aeH A B d x y true _ ⟨fun _=>⟨rfl,rfl⟩,fun h'=>absurd h h'⟩) ⟨.inl rfl,.inl rfl,.inl rfl,.inl rfl,.inl rfl,.inr yO,.inr yO,.inl rfl,yO⟩
 .rw [yK h];exact aeH A B d x y true _ ⟨fun h'=>absurd h' h,fun _=>⟨rfl,rfl⟩⟩
theorem gy1(A B v:List D)(g:Nat)(d x y:Int)(hv:v.length<=3000000000):Y1 410 fu A B v g d x y:=by
 unfold Y1;by_cases h:fu x y>0
 .rw [yL h];exact aeI A B v g d x y true _ hv ⟨fun _=>⟨rfl,rfl⟩,fun h'=>absurd h h'⟩
 .rw [yK h];exact aeI A B v g d x y true _ hv ⟨fun h'=>absurd h' h,fun _=>⟨rfl,rfl⟩⟩
theorem ac6(a b:List D)(h:True):ak P G 266 [bB a,bB b] [] (aS.ret (AV.fn (Fn.func 293) [] [AV.ptr 0 0,AV.ptr 1 0])) [ah.box [bB a],ah.box [bB b]]:=by
 have _:=h;exact aj [] zQ
theorem ac7(a b:List D):ak P G 266 [bB a,bB b] [] (.ret (.fn (.func 293) [] [.ptr 0 0,.ptr 1 0])) [.box [bB a],.box [bB b]]:=ac6 a b trivial
def PV(f:Nat)(A B:List D):St:={ aL:=aC 91 [(0,.yl 0),(1,.ptr 1 0),(2,.ptr 2 0)],H:=q0 f A B }
def K8(f:Nat)(A B:List D)(g:Nat)(v:List D):St:={ aL:=aC 91 [(0,.yl 0),(1,.ptr 1 0),(2,.ptr 2 0)],H:=q1 f A B g v }
theorem aeJ(f:Nat)(tk:Int->Int->Int)(A B:List D)(hy:∀A B d x y,dY P G 0 [.agg [int d,int x,int y]] (q0 f A B++[.box [int d,int x,int y]]) true (if tk x y>0 then q1 f A B 0 [(d,tk x y)]else q0 f A B++[.box [int d,int x,int y]]))(hA:A.length<=1000000000)(hB:B.length<=1000000000)(ex:bF)(s':St)(h:((((↑(length A):Int)>(0:Int))->((((↑(length B):Int)=(0:Int))->(∃x3:D,(A[0]?=some x3)/\(((tk (Prod.snd x3) 0>(0:Int))->bN P G none 5 (vg P 293 0) (St.mk (aC 91 [(0,AV.yl 0),(1,AV.ptr 1 0),(2,AV.ptr 2 0)]) [lq,ah.box [AV.sl 2 false (au (List.drop 1 A))],ah.box [AV.sl 2 false (au B)],ah.box [AV.lit (Value.func (Fn.func f) (Array.mk []) (Array.mk []))],ah.box [AV.aU 7 0 0 1],ah.aH,ah.aH,ah.aN 0 2 false [[int (Prod.fst x3),int (tk (Prod.snd x3) 0)]]] []) ex s')/\((¬tk (Prod.snd x3) 0>(0:Int))->bN P G none 5 (vg P 293 0) (St.mk (aC 91 [(0,AV.yl 0),(1,AV.ptr 1 0),(2,AV.ptr 2 0)]) [lq,ah.box [AV.sl 2 false (au (List.drop 1 A))],ah.box [AV.sl 2 false (au B)],ah.box [AV.lit (Value.func (Fn.func f) (Array.mk []) (Array.mk []))],ah.box [aK]] []) ex s'))))/\((¬(↑(length B):Int)=(0:Int))->(∃x6:D,(A[0]?=some x6)/\(∃x8:D,(B[0]?=some x8)/\(((Prod.fst x6<Prod.fst x8)->(((tk (Prod.snd x6) 0>(0:Int))->bN P G none 5 (vg P 293 0) (St.mk (aC 91 [(0,AV.yl 0),(1,AV.ptr 1 0),(2,AV.ptr 2 0)]) [lq,ah.box [AV.sl 2 false (au (List.drop 1 A))],ah.box [AV.sl 2 false (au B)],ah.box [AV.lit (Value.func (Fn.func f) (Array.mk []) (Array.mk []))],ah.box [AV.aU 7 0 0 1],ah.aH,ah.aH,ah.aN 0 2 false [[int (Prod.fst x6),int (tk (Prod.snd x6) 0)]]] []) ex s')/\((¬tk (Prod.snd x6) 0>(0:Int))->bN P G none 5 (vg P 293 0) (St.mk (aC 91 [(0,AV.yl 0),(1,AV.ptr 1 0),(2,AV.ptr 2 0)]) [lq,ah.box [AV.sl 2 false (au (List.drop 1 A))],ah.box [AV.sl 2 false (au B)],ah.box [AV.lit (Value.func (Fn.func f) (Array.mk []) (Array.mk []))],ah.box [aK]] []) ex s')))/\((¬Prod.fst x6<Prod.fst x8)->(((Prod.fst x8<Prod.fst x6)->(((tk 0 (Prod.snd x8)>(0:Int))->bN P G none 5 (vg P 293 0) (St.mk (aC 91 [(0,AV.yl 0),(1,AV.ptr 1 0),(2,AV.ptr 2 0)]) [lq,ah.box [AV.sl 2 false (au A)],ah.box [AV.sl 2 false (au (List.drop 1 B))],ah.box [AV.lit (Value.func (Fn.func f) (Array.mk []) (Array.mk []))],ah.box [AV.aU 7 0 0 1],ah.aH,ah.aH,ah.aN 0 2 false [[int (Prod.fst x8),int (tk 0 (Prod.snd x8))]]] []) ex s')/\((¬tk 0 (Prod.snd x8)>(0:Int))->bN P G none 5 (vg P 293 0) (St.mk (aC 91 [(0,AV.yl 0),(1,AV.ptr 1 0),(2,AV.ptr 2 0)]) [lq,ah.box [AV.sl 2 false (au A)],ah.box [AV.sl 2 false (au (List.drop 1 B))],ah.box [AV.lit (Value.func (Fn.func f) (Array.mk []) (Array.mk []))],ah.box [aK]] []) ex s')))/\((¬Prod.fst x8<Prod.fst x6)->(((tk (Prod.snd x6) (Prod.snd x8)>(0:Int))->bN P G none 5 (vg P 293 0) (St.mk (aC 91 [(0,AV.yl 0),(1,AV.ptr 1 0),(2,AV.ptr 2 0)]) [lq,ah.box [AV.sl 2 false (au (List.drop 1 A))],ah.box [AV.sl 2 false (au (List.drop 1 B))],ah.box [AV.lit (Value.func (Fn.func f) (Array.mk []) (Array.mk []))],ah.box [AV.aU 7 0 0 1],ah.aH,ah.aH,ah.aN 0 2 false [[int (Prod.fst x6),int (tk (Prod.snd x6) (Prod.snd x8))]]] []) ex s')/\((¬tk (Prod.snd x6) (Prod.snd x8)>(0:Int))->bN P G none 5 (vg P 293 0) (St.mk (aC 91 [(0,AV.yl 0),(1,AV.ptr 1 0),(2,AV.ptr 2 0)]) [lq,ah.box [AV.sl 2 false (au (List.drop 1 A))],ah.box [AV.sl 2 false (au (List.drop 1 B))],ah.box [AV.lit (Value.func (Fn.func f) (Array.mk []) (Array.mk []))],ah.box [aK]] []) ex s')))))))))))/\((¬(↑(length A):Int)>(0:Int))->((((↑(length B):Int)>(0:Int))->(∃vJ:D,(B[0]?=some vJ)/\(((tk 0 (Prod.snd vJ)>(0:Int))->bN P G none 5 (vg P 293 0) (St.mk (aC 91 [(0,AV.yl 0),(1,AV.ptr 1 0),(2,AV.ptr 2 0)]) [lq,ah.box [AV.sl 2 false (au A)],ah.box [AV.sl 2 false (au (List.drop 1 B))],ah.box [AV.lit (Value.func (Fn.func f) (Array.mk []) (Array.mk []))],ah.box [AV.aU 7 0 0 1],ah.aH,ah.aH,ah.aN 0 2 false [[int (Prod.fst vJ),int (tk 0 (Prod.snd vJ))]]] []) ex s')/\((¬tk 0 (Prod.snd vJ)>(0:Int))->bN P G none 5 (vg P 293 0) (St.mk (aC 91 [(0,AV.yl 0),(1,AV.ptr 1 0),(2,AV.ptr 2 0)]) [lq,ah.box [AV.sl 2 false (au A)],ah.box [AV.sl 2 false (au (List.drop 1 B))],ah.box [AV.lit (Value.func (Fn.func f) (Array.mk []) (Array.mk []))],ah.box [aK]] []) ex s'))))/\((¬(↑(length B):Int)>(0:Int))->(bF.exit 0=ex)/\(St.mk (aC 91 []) [lq,ah.box [AV.sl 2 false (au A)],ah.box [AV.sl 2 false (au B)],ah.box [AV.lit (Value.func (Fn.func f) (Array.mk []) (Array.mk []))],ah.box [aK]] []=s')))))):bN P G none 5 (vg P 293 0) (PV f A B) ex s':=by
 have bS:Am.aF (int (↑(length (au A)):Int)) (int (↑(length A):Int)):=(aF.of_eq (by simp only[Go.bH.ay,Int.toNat_natCast]));by_cases c1:((↑(length A):Int)>(0:Int))
 .have h:=h.1 c1;have fT:Am.aF (int (↑(length (au B)):Int)) (int (↑(length B):Int)):=(aF.of_eq (by simp only[Go.bH.ay,Int.toNat_natCast]));by_cases c2:((↑(length B):Int)=(0:Int))
  .have h:=h.1 c2;obtain⟨x3,o4,h⟩:=h;have jw:(0:Int)<=(0:Int)/\(au A)[Int.toNat 0]?=some (aQ x3):=(bG o4);have x9:Am.aF (AV.sl 2 false (List.drop 1 (List.take (Int.toNat (↑(length (au A)):Int)) (au A)))) (AV.sl 2 false (au (List.drop 1 A))):=(aF.of_eq (by simp only[Go.bH.ay,Go.bH.iI,Go.bH.gF,Int.toNat_natCast,take_length]));have Av:(0:Int)<=(1:Int)/\(1:Int)<=(↑(length (au A)):Int)/\(↑(length (au A)):Int)<=(↑(length (au A)):Int):=(by rw[Go.bH.ay];omega);by_cases c5:(tk (Prod.snd x3) 0>(0:Int))
   .have h:=h.1 c5;exact aJ [kv 6 bS,kt (decide_eq_true c1),kt (Eq.refl true),kv 32 fT,kt (beq_iff_eq.2 c2),kt (Eq.refl true),ko (bC.elem (aQ x3)),ko (bC.elem (aQ x3)),kp jw,kp jw,kv 60 x9,ko (bC.call [] (aS.ret (Am.bool true)) (q1 f (List.drop 1 A) B 0 [(Prod.fst x3,tk (Prod.snd x3) 0)])),kp Av,kp (show dY P G 0 [AV.agg [int (Prod.fst x3),int (Prod.snd x3),int 0]] [lq,ah.box [AV.sl 2 false (au (List.drop 1 A))],ah.box [AV.sl 2 false (au B)],ah.box [AV.lit (Value.func (Fn.func f) (Array.mk []) (Array.mk []))],ah.box [aK],ah.box [int (Prod.fst x3),int (Prod.snd x3),int 0]] true [lq,ah.box [AV.sl 2 false (au (List.drop 1 A))],ah.box [AV.sl 2 false (au B)],ah.box [AV.lit (Value.func (Fn.func f) (Array.mk []) (Array.mk []))],ah.box [AV.aU 7 0 0 1],ah.aH,ah.aH,ah.aN 0 2 false [[int (Prod.fst x3),int (tk (Prod.snd x3) 0)]]]from(by have h0:=(@hy (List.drop 1 A) (B) (Prod.fst x3) (Prod.snd x3) (0));simp only[yL c5]at h0;exact h0)),kf (Eq.refl false)] (aB 91 [0,1,2]) 8 h zQ
   .have h:=h.2 c5;exact aJ [kv 6 bS,kt (decide_eq_true c1),kt (Eq.refl true),kv 32 fT,kt (beq_iff_eq.2 c2),kt (Eq.refl true),ko (bC.elem (aQ x3)),ko (bC.elem (aQ x3)),kp jw,kp jw,kv 60 x9,ko (bC.call [] (aS.ret (Am.bool true)) (q0 f (List.drop 1 A) B++[ah.box [int (Prod.fst x3),int (Prod.snd x3),int 0]])),kp Av,kp (show dY P G 0 [AV.agg [int (Prod.fst x3),int (Prod.snd x3),int 0]] [lq,ah.box [AV.sl 2 false (au (List.drop 1 A))],ah.box [AV.sl 2 false (au B)],ah.box [AV.lit (Value.func (Fn.func f) (Array.mk []) (Array.mk []))],ah.box [aK],ah.box [int (Prod.fst x3),int (Prod.snd x3),int 0]] true [lq,ah.box [AV.sl 2 false (au (List.drop 1 A))],ah.box [AV.sl 2 false (au B)],ah.box [AV.lit (Value.func (Fn.func f) (Array.mk []) (Array.mk []))],ah.box [aK],ah.box [int (Prod.fst x3),int (Prod.snd x3),int 0]]from(by have h0:=(@hy (List.drop 1 A) (B) (Prod.fst x3) (Prod.snd x3) (0));simp only[yK c5]at h0;exact h0)),kf (Eq.refl false)] (aB 91 [0,1,2]) 5 h zQ
  .have h:=h.2 c2;obtain⟨x6,o7,h⟩:=h;have H6:(0:Int)<=(0:Int)/\(au A)[Int.toNat 0]?=some (aQ x6):=(bG o7);obtain⟨x8,o9,h⟩:=h;have Qy:(0:Int)<=(0:Int)/\(au B)[Int.toNat 0]?=some (aQ x8):=(bG o9);by_cases G9:(Prod.fst x6<Prod.fst x8)
   .have h:=h.1 G9;by_cases c11:(tk (Prod.snd x6) 0>(0:Int))
    .have h:=h.1 c11;exact aJ [kv 6 bS,kt (decide_eq_true c1),kt (Eq.refl true),kv 32 fT,kf (beq_eq_false_iff_ne.2 c2),kv 36 bS,kt (decide_eq_true c1),ko (bC.elem (aQ x6)),ko (bC.elem (aQ x8)),kp H6,kp Qy,kt (decide_eq_true G9),ko (bC.elem (aQ x6)),ko (bC.elem (aQ x6)),kp H6,kp H6,kv 60 (show Am.aF (AV.sl 2 false (List.drop 1 (List.take (Int.toNat (↑(length (au A)):Int)) (au A)))) (AV.sl 2 false (au (List.drop 1 A)))from(aF.of_eq (by simp only[Go.bH.ay,Go.bH.iI,Go.bH.gF,Int.toNat_natCast,take_length]))),ko (bC.call [] (aS.ret (Am.bool true)) (q1 f (List.drop 1 A) B 0 [(Prod.fst x6,tk (Prod.snd x6) 0)])),kp (show(0:Int)<=(1:Int)/\(1:Int)<=(↑(length (au A)):Int)/\(↑(length (au A)):Int)<=(↑(length (au A)):Int)from(by rw[Go.bH.ay];omega)),kp (show dY P G 0 [AV.agg [int (Prod.fst x6),int (Prod.snd x6),int 0]] [lq,ah.box [AV.sl 2 false (au (List.drop 1 A))],ah.box [AV.sl 2 false (au B)],ah.box [AV.lit (Value.func (Fn.func f) (Array.mk []) (Array.mk []))],ah.box [aK],ah.box [int (Prod.fst x6),int (Prod.snd x6),int 0]] true [lq,ah.box [AV.sl 2 false (au (List.drop 1 A))],ah.box [AV.sl 2 false (au B)],ah.box [AV.lit (Value.func (Fn.func f) (Array.mk []) (Array.mk []))],ah.box [AV.aU 7 0 0 1],ah.aH,ah.aH,ah.aN 0 2 false [[int (Prod.fst x6),int (tk (Prod.snd x6) 0)]]]from(by have h0:=(@hy (List.drop 1 A) (B) (Prod.fst x6) (Prod.snd x6) (0));simp only[yL c11]at h0;exact h0)),kf (Eq.refl false)] (aB 91 [0,1,2]) 8 h zQ
    .have h:=h.2 c11;exact aJ [kv 6 bS,kt (decide_eq_true c1),kt (Eq.refl true),kv 32 fT,kf (beq_eq_false_iff_ne.2 c2),kv 36 bS,kt (decide_eq_true c1),ko (bC.elem (aQ x6)),ko (bC.elem (aQ x8)),kp H6,kp Qy,kt (decide_eq_true G9),ko (bC.elem (aQ x6)),ko (bC.elem (aQ x6)),kp H6,kp H6,kv 60 (show Am.aF (AV.sl 2 false (List.drop 1 (List.take (Int.toNat (↑(length (au A)):Int)) (au A)))) (AV.sl 2 false (au (List.drop 1 A)))from(aF.of_eq (by simp only[Go.bH.ay,Go.bH.iI,Go.bH.gF,Int.toNat_natCast,take_length]))),ko (bC.call [] (aS.ret (Am.bool true)) (q0 f (List.drop 1 A) B++[ah.box [int (Prod.fst x6),int (Prod.snd x6),int 0]])),kp (show(0:Int)<=(1:Int)/\(1:Int)<=(↑(length (au A)):Int)/\(↑(length (au A)):Int)<=(↑(length (au A)):Int)from(by rw[Go.bH.ay];omega)),kp (show dY P G 0 [AV.agg [int (Prod.fst x6),int (Prod.snd x6),int 0]] [lq,ah.box [AV.sl 2 false (au (List.drop 1 A))],ah.box [AV.sl 2 false (au B)],ah.box [AV.lit (Value.func (Fn.func f) (Array.mk []) (Array.mk []))],ah.box [aK],ah.box [int (Prod.fst x6),int (Prod.snd x6),int 0]] true [lq,ah.box [AV.sl 2 false (au (List.drop 1 A))],ah.box [AV.sl 2 false (au B)],ah.box [AV.lit (Value.func (Fn.func f) (Array.mk []) (Array.mk []))],ah.box [aK],ah.box [int (Prod.fst x6),int (Prod.snd x6),int 0]]from(by have h0:=(@hy (List.drop 1 A) (B) (Prod.fst x6) (Prod.snd x6) (0));simp only[yK c11]at h0;exact h0)),kf (Eq.refl false)] (aB 91 [0,1,2]) 5 h zQ
   .have h:=h.2 G9;have Bb:((↑(length A):Int)==0)=false:=(decide_eq_false zO);by_cases c13:(Prod.fst x8<Prod.fst x6)
    .have h:=h.1 c13;have M8:Am.aF (AV.sl 2 false (List.drop 1 (List.take (Int.toNat (↑(length (au B)):Int)) (au B)))) (AV.sl 2 false (au (List.drop 1 B))):=(aF.of_eq (by simp only[Go.bH.ay,Go.bH.iI,Go.bH.gF,Int.toNat_natCast,take_length]));have Pk:(0:Int)<=(1:Int)/\(1:Int)<=(↑(length (au B)):Int)/\(↑(length (au B)):Int)<=(↑(length (au B)):Int):=(by rw[Go.bH.ay];omega);by_cases c14:(tk 0 (Prod.snd x8)>(0:Int))
     .have h:=h.1 c14;exact aJ [kv 6 bS,kt (decide_eq_true c1),kt (Eq.refl true),kv 32 fT,kf (beq_eq_false_iff_ne.2 c2),kv 36 bS,kt (decide_eq_true c1),ko (bC.elem (aQ x6)),ko (bC.elem (aQ x8)),kp H6,kp Qy,kf (decide_eq_false G9),kv 63 bS,kf Bb,ko (bC.elem (aQ x8)),ko (bC.elem (aQ x6)),kp Qy,kp H6,kt (decide_eq_true c13),ko (bC.elem (aQ x8)),ko (bC.elem (aQ x8)),kp Qy,kp Qy,kv 86 M8,ko (bC.call [] (aS.ret (Am.bool true)) (q1 f A (List.drop 1 B) 0 [(Prod.fst x8,tk 0 (Prod.snd x8))])),kp Pk,kp (show dY P G 0 [AV.agg [int (Prod.fst x8),int 0,int (Prod.snd x8)]] [lq,ah.box [AV.sl 2 false (au A)],ah.box [AV.sl 2 false (au (List.drop 1 B))],ah.box [AV.lit (Value.func (Fn.func f) (Array.mk []) (Array.mk []))],ah.box [aK],ah.box [int (Prod.fst x8),int 0,int (Prod.snd x8)]] true [lq,ah.box [AV.sl 2 false (au A)],ah.box [AV.sl 2 false (au (List.drop 1 B))],ah.box [AV.lit (Value.func (Fn.func f) (Array.mk []) (Array.mk []))],ah.box [AV.aU 7 0 0 1],ah.aH,ah.aH,ah.aN 0 2 false [[int (Prod.fst x8),int (tk 0 (Prod.snd x8))]]]from(by have h0:=(@hy (A) (List.drop 1 B) (Prod.fst x8) (0) (Prod.snd x8));simp only[yL c14]at h0;exact h0)),kf (Eq.refl false)] (aB 91 [0,1,2]) 8 h zQ
     .have h:=h.2 c14;exact aJ [kv 6 bS,kt (decide_eq_true c1),kt (Eq.refl true),kv 32 fT,kf (beq_eq_false_iff_ne.2 c2),kv 36 bS,kt (decide_eq_true c1),ko (bC.elem (aQ x6)),ko (bC.elem (aQ x8)),kp H6,kp Qy,kf (decide_eq_false G9),kv 63 bS,kf Bb,ko (bC.elem (aQ x8)),ko (bC.elem (aQ x6)),kp Qy,kp H6,kt (decide_eq_true c13),ko (bC.elem (aQ x8)),ko (bC.elem (aQ x8)),kp Qy,kp Qy,kv 86 M8,ko (bC.call [] (aS.ret (Am.bool true)) (q0 f A (List.drop 1 B)++[ah.box [int (Prod.fst x8),int 0,int (Prod.snd x8)]])),kp Pk,kp (show dY P G 0 [AV.agg [int (Prod.fst x8),int 0,int (Prod.snd x8)]] [lq,ah.box [AV.sl 2 false (au A)],ah.box [AV.sl 2 false (au (List.drop 1 B))],ah.box [AV.lit (Value.func (Fn.func f) (Array.mk []) (Array.mk []))],ah.box [aK],ah.box [int (Prod.fst x8),int 0,int (Prod.snd x8)]] true [lq,ah.box [AV.sl 2 false (au A)],ah.box [AV.sl 2 false (au (List.drop 1 B))],ah.box [AV.lit (Value.func (Fn.func f) (Array.mk []) (Array.mk []))],ah.box [aK],ah.box [int (Prod.fst x8),int 0,int (Prod.snd x8)]]from(by have h0:=(@hy (A) (List.drop 1 B) (Prod.fst x8) (0) (Prod.snd x8));simp only[yK c14]at h0;exact h0)),kf (Eq.refl false)] (aB 91 [0,1,2]) 5 h zQ
    .have h:=h.2 c13;have M8:Am.aF (AV.sl 2 false (List.drop 1 (List.take (Int.toNat (↑(length (au B)):Int)) (au B)))) (AV.sl 2 false (au (List.drop 1 B))):=(aF.of_eq (by simp only[Go.bH.ay,Go.bH.iI,Go.bH.gF,Int.toNat_natCast,take_length]));have Pk:(0:Int)<=(1:Int)/\(1:Int)<=(↑(length (au B)):Int)/\(↑(length (au B)):Int)<=(↑(length (au B)):Int):=(by rw[Go.bH.ay];omega);by_cases c15:(tk (Prod.snd x6) (Prod.snd x8)>(0:Int))
     .have h:=h.1 c15;exact aJ [kv 6 bS,kt (decide_eq_true c1),kt (Eq.refl true),kv 32 fT,kf (beq_eq_false_iff_ne.2 c2),kv 36 bS,kt (decide_eq_true c1),ko (bC.elem (aQ x6)),ko (bC.elem (aQ x8)),kp H6,kp Qy,kf (decide_eq_false G9),kv 63 bS,kf Bb,ko (bC.elem (aQ x8)),ko (bC.elem (aQ x6)),kp Qy,kp H6,kf (decide_eq_false c13),ko (bC.elem (aQ x6)),ko (bC.elem (aQ x6)),ko (bC.elem (aQ x8)),kp H6,kp H6,kp Qy,kv 27 (show Am.aF (AV.sl 2 false (List.drop 1 (List.take (Int.toNat (↑(length (au A)):Int)) (au A)))) (AV.sl 2 false (au (List.drop 1 A)))from(aF.of_eq (by simp only[Go.bH.ay,Go.bH.iI,Go.bH.gF,Int.toNat_natCast,take_length]))),kp (show(0:Int)<=(1:Int)/\(1:Int)<=(↑(length (au A)):Int)/\(↑(length (au A)):Int)<=(↑(length (au A)):Int)from(by rw[Go.bH.ay];omega)),kv 29 M8,ko (bC.call [] (aS.ret (Am.bool true)) (q1 f (List.drop 1 A) (List.drop 1 B) 0 [(Prod.fst x6,tk (Prod.snd x6) (Prod.snd x8))])),kp Pk,kp (show dY P G 0 [AV.agg [int (Prod.fst x6),int (Prod.snd x6),int (Prod.snd x8)]] [lq,ah.box [AV.sl 2 false (au (List.drop 1 A))],ah.box [AV.sl 2 false (au (List.drop 1 B))],ah.box [AV.lit (Value.func (Fn.func f) (Array.mk []) (Array.mk []))],ah.box [aK],ah.box [int (Prod.fst x6),int (Prod.snd x6),int (Prod.snd x8)]] true [lq,ah.box [AV.sl 2 false (au (List.drop 1 A))],ah.box [AV.sl 2 false (au (List.drop 1 B))],ah.box [AV.lit (Value.func (Fn.func f) (Array.mk []) (Array.mk []))],ah.box [AV.aU 7 0 0 1],ah.aH,ah.aH,ah.aN 0 2 false [[int (Prod.fst x6),int (tk (Prod.snd x6) (Prod.snd x8))]]]from(by have h0:=(@hy (List.drop 1 A) (List.drop 1 B) (Prod.fst x6) (Prod.snd x6) (Prod.snd x8));simp only[yL c15]at h0;exact h0)),kf (Eq.refl false)] (aB 91 [0,1,2]) 8 h zQ
     .have h:=h.2 c15;exact aJ [kv 6 bS,kt (decide_eq_true c1),kt (Eq.refl true),kv 32 fT,kf (beq_eq_false_iff_ne.2 c2),kv 36 bS,kt (decide_eq_true c1),ko (bC.elem (aQ x6)),ko (bC.elem (aQ x8)),kp H6,kp Qy,kf (decide_eq_false G9),kv 63 bS,kf Bb,ko (bC.elem (aQ x8)),ko (bC.elem (aQ x6)),kp Qy,kp H6,kf (decide_eq_false c13),ko (bC.elem (aQ x6)),ko (bC.elem (aQ x6)),ko (bC.elem (aQ x8)),kp H6,kp H6,kp Qy,kv 27 (show Am.aF (AV.sl 2 false (List.drop 1 (List.take (Int.toNat (↑(length (au A)):Int)) (au A)))) (AV.sl 2 false (au (List.drop 1 A)))from(aF.of_eq (by simp only[Go.bH.ay,Go.bH.iI,Go.bH.gF,Int.toNat_natCast,take_length]))),kp (show(0:Int)<=(1:Int)/\(1:Int)<=(↑(length (au A)):Int)/\(↑(length (au A)):Int)<=(↑(length (au A)):Int)from(by rw[Go.bH.ay];omega)),kv 29 M8,ko (bC.call [] (aS.ret (Am.bool true)) (q0 f (List.drop 1 A) (List.drop 1 B)++[ah.box [int (Prod.fst x6),int (Prod.snd x6),int (Prod.snd x8)]])),kp Pk,kp (show dY P G 0 [AV.agg [int (Prod.fst x6),int (Prod.snd x6),int (Prod.snd x8)]] [lq,ah.box [AV.sl 2 false (au (List.drop 1 A))],ah.box [AV.sl 2 false (au (List.drop 1 B))],ah.box [AV.lit (Value.func (Fn.func f) (Array.mk []) (Array.mk []))],ah.box [aK],ah.box [int (Prod.fst x6),int (Prod.snd x6),int (Prod.snd x8)]] true [lq,ah.box [AV.sl 2 false (au (List.drop 1 A))],ah.box [AV.sl 2 false (au (List.drop 1 B))],ah.box [AV.lit (Value.func (Fn.func f) (Array.mk []) (Array.mk []))],ah.box [aK],ah.box [int (Prod.fst x6),int (Prod.snd x6),int (Prod.snd x8)]]from(by have h0:=(@hy (List.drop 1 A) (List.drop 1 B) (Prod.fst x6) (Prod.snd x6) (Prod.snd x8));simp only[yK c15]at h0;exact h0)),kf (Eq.refl false)] (aB 91 [0,1,2]) 5 h zQ
 .have h:=h.2 c1;have fT:Am.aF (int (↑(length (au B)):Int)) (int (↑(length B):Int)):=(aF.of_eq (by simp only[Go.bH.ay,Int.toNat_natCast]));by_cases c16:((↑(length B):Int)>(0:Int))
  .have h:=h.1 c16;have ayq:((↑(length B):Int)==0)=false:=(decide_eq_false zO);have ayr:((↑(length A):Int)==0)=true:=(decide_eq_true zO);obtain⟨vJ,o20,h⟩:=h;have alm:(0:Int)<=(0:Int)/\(au B)[Int.toNat 0]?=some (aQ vJ):=(bG o20);by_cases c21:(tk 0 (Prod.snd vJ)>(0:Int))
   .have h:=h.1 c21;exact aJ [kv 6 bS,kf (decide_eq_false c1),kv 10 fT,kt (decide_eq_true c16),kv 32 fT,kf ayq,kv 36 bS,kf (decide_eq_false c1),kf (Eq.refl false),kv 63 bS,kt ayr,kt (Eq.refl true),ko (bC.elem (aQ vJ)),ko (bC.elem (aQ vJ)),kp alm,kp alm,kv 86 (show Am.aF (AV.sl 2 false (List.drop 1 (List.take (Int.toNat (↑(length (au B)):Int)) (au B)))) (AV.sl 2 false (au (List.drop 1 B)))from(aF.of_eq (by simp only[Go.bH.ay,Go.bH.iI,Go.bH.gF,Int.toNat_natCast,take_length]))),ko (bC.call [] (aS.ret (Am.bool true)) (q1 f A (List.drop 1 B) 0 [(Prod.fst vJ,tk 0 (Prod.snd vJ))])),kp (show(0:Int)<=(1:Int)/\(1:Int)<=(↑(length (au B)):Int)/\(↑(length (au B)):Int)<=(↑(length (au B)):Int)from(by rw[Go.bH.ay];omega)),kp (show dY P G 0 [AV.agg [int (Prod.fst vJ),int 0,int (Prod.snd vJ)]] [lq,ah.box [AV.sl 2 false (au A)],ah.box [AV.sl 2 false (au (List.drop 1 B))],ah.box [AV.lit (Value.func (Fn.func f) (Array.mk []) (Array.mk []))],ah.box [aK],ah.box [int (Prod.fst vJ),int 0,int (Prod.snd vJ)]] true [lq,ah.box [AV.sl 2 false (au A)],ah.box [AV.sl 2 false (au (List.drop 1 B))],ah.box [AV.lit (Value.func (Fn.func f) (Array.mk []) (Array.mk []))],ah.box [AV.aU 7 0 0 1],ah.aH,ah.aH,ah.aN 0 2 false [[int (Prod.fst vJ),int (tk 0 (Prod.snd vJ))]]]from(by have h0:=(@hy (A) (List.drop 1 B) (Prod.fst vJ) (0) (Prod.snd vJ));simp only[yL c21]at h0;exact h0)),kf (Eq.refl false)] (aB 91 [0,1,2]) 8 h zQ
   .have h:=h.2 c21;exact aJ [kv 6 bS,kf (decide_eq_false c1),kv 10 fT,kt (decide_eq_true c16),kv 32 fT,kf ayq,kv 36 bS,kf (decide_eq_false c1),kf (Eq.refl false),kv 63 bS,kt ayr,kt (Eq.refl true),ko (bC.elem (aQ vJ)),ko (bC.elem (aQ vJ)),kp alm,kp alm,kv 86 (show Am.aF (AV.sl 2 false (List.drop 1 (List.take (Int.toNat (↑(length (au B)):Int)) (au B)))) (AV.sl 2 false (au (List.drop 1 B)))from(aF.of_eq (by simp only[Go.bH.ay,Go.bH.iI,Go.bH.gF,Int.toNat_natCast,take_length]))),ko (bC.call [] (aS.ret (Am.bool true)) (q0 f A (List.drop 1 B)++[ah.box [int (Prod.fst vJ),int 0,int (Prod.snd vJ)]])),kp (show(0:Int)<=(1:Int)/\(1:Int)<=(↑(length (au B)):Int)/\(↑(length (au B)):Int)<=(↑(length (au B)):Int)from(by rw[Go.bH.ay];omega)),kp (show dY P G 0 [AV.agg [int (Prod.fst vJ),int 0,int (Prod.snd vJ)]] [lq,ah.box [AV.sl 2 false (au A)],ah.box [AV.sl 2 false (au (List.drop 1 B))],ah.box [AV.lit (Value.func (Fn.func f) (Array.mk []) (Array.mk []))],ah.box [aK],ah.box [int (Prod.fst vJ),int 0,int (Prod.snd vJ)]] true [lq,ah.box [AV.sl 2 false (au A)],ah.box [AV.sl 2 false (au (List.drop 1 B))],ah.box [AV.lit (Value.func (Fn.func f) (Array.mk []) (Array.mk []))],ah.box [aK],ah.box [int (Prod.fst vJ),int 0,int (Prod.snd vJ)]]from(by have h0:=(@hy (A) (List.drop 1 B) (Prod.fst vJ) (0) (Prod.snd vJ));simp only[yK c21]at h0;exact h0)),kf (Eq.refl false)] (aB 91 [0,1,2]) 5 h zQ
  .have h:=h.2 c16;obtain⟨eX,eS⟩:=h;exact bN.to ((show bN P G none 5 (vg P 293 0) (PV f A B) (bF.exit 0) (St.mk (aC 91 []) [lq,ah.box [AV.sl 2 false (au A)],ah.box [AV.sl 2 false (au B)],ah.box [AV.lit (Value.func (Fn.func f) (Array.mk []) (Array.mk []))],ah.box [aK]] [])from aG [kv 6 bS,kf (decide_eq_false c1),kv 10 fT,kf (decide_eq_false c16)] (aB 91 []) 5 zQ)) eX (eB.of_eq eS)
theorem aeK(f:Nat)(tk:Int->Int->Int)(A B:List D)(g:Nat)(v:List D)(hv:v.length<=3000000000)(hy:∀A B v g d x y,v.length<=3000000000->dY P G 0 [.agg [int d,int x,int y]] (q1 f A B g v++[.box [int d,int x,int y]]) true (if tk x y>0 then q1 f A B (g+1) (v++[(d,tk x y)])++[.box [int d,int x,int y]]else q1 f A B g v++[.box [int d,int x,int y]]))(hA:A.length<=1000000000)(hB:B.length<=1000000000)(ex:bF)(s':St)(h:((((A.length:Int)>0)->((((B.length:Int)=0)->(∃x3:D,(A[0]?=some x3)/\(((tk x3.2 0>0)->Rq 5 293 0 (sM 91 [(0,.yl 0),(1,.ptr 1 0),(2,.ptr 2 0)] [lq,.box [bB (List.drop 1 A)],.box [bB B],.box [iL f],.box [.aU 7 (g+1) 0 (length (v++[(x3.1,tk x3.2 0)]))],.aH,.aH,.aN (g+1) 2 false (au (v++[(x3.1,tk x3.2 0)]))]) ex s')/\((¬tk x3.2 0>0)->Rq 5 293 0 (sM 91 [(0,.yl 0),(1,.ptr 1 0),(2,.ptr 2 0)] [lq,.box [bB (List.drop 1 A)],.box [bB B],.box [iL f],.box [.aU 7 g 0 v.length],.aH,.aH,.aN g 2 false (au v)]) ex s'))))/\((¬(B.length:Int)=0)->(∃x6:D,(A[0]?=some x6)/\(∃x8:D,(B[0]?=some x8)/\(((x6.1<x8.1)->(((tk x6.2 0>0)->Rq 5 293 0 (sM 91 [(0,.yl 0),(1,.ptr 1 0),(2,.ptr 2 0)] [lq,.box [bB (List.drop 1 A)],.box [bB B],.box [iL f],.box [.aU 7 (g+1) 0 (length (v++[(x6.1,tk x6.2 0)]))],.aH,.aH,.aN (g+1) 2 false (au (v++[(x6.1,tk x6.2 0)]))]) ex s')/\((¬tk x6.2 0>0)->Rq 5 293 0 (sM 91 [(0,.yl 0),(1,.ptr 1 0),(2,.ptr 2 0)] [lq,.box [bB (List.drop 1 A)],.box [bB B],.box [iL f],.box [.aU 7 g 0 v.length],.aH,.aH,.aN g 2 false (au v)]) ex s')))/\((¬x6.1<x8.1)->(((x8.1<x6.1)->(((tk 0 x8.2>0)->Rq 5 293 0 (sM 91 [(0,.yl 0),(1,.ptr 1 0),(2,.ptr 2 0)] [lq,.box [bB A],.box [bB (List.drop 1 B)],.box [iL f],.box [.aU 7 (g+1) 0 (length (v++[(x8.1,tk 0 x8.2)]))],.aH,.aH,.aN (g+1) 2 false (au (v++[(x8.1,tk 0 x8.2)]))]) ex s')/\((¬tk 0 x8.2>0)->Rq 5 293 0 (sM 91 [(0,.yl 0),(1,.ptr 1 0),(2,.ptr 2 0)] [lq,.box [bB A],.box [bB (List.drop 1 B)],.box [iL f],.box [.aU 7 g 0 v.length],.aH,.aH,.aN g 2 false (au v)]) ex s')))/\((¬x8.1<x6.1)->(((tk x6.2 x8.2>0)->Rq 5 293 0 (sM 91 [(0,.yl 0),(1,.ptr 1 0),(2,.ptr 2 0)] [lq,.box [bB (List.drop 1 A)],.box [bB (List.drop 1 B)],.box [iL f],.box [.aU 7 (g+1) 0 (length (v++[(x6.1,tk x6.2 x8.2)]))],.aH,.aH,.aN (g+1) 2 false (au (v++[(x6.1,tk x6.2 x8.2)]))]) ex s')/\((¬tk x6.2 x8.2>0)->Rq 5 293 0 (sM 91 [(0,.yl 0),(1,.ptr 1 0),(2,.ptr 2 0)] [lq,.box [bB (List.drop 1 A)],.box [bB (List.drop 1 B)],.box [iL f],.box [.aU 7 g 0 v.length],.aH,.aH,.aN g 2 false (au v)]) ex s')))))))))))/\((¬(A.length:Int)>0)->((((B.length:Int)>0)->(∃vJ:D,(B[0]?=some vJ)/\(((tk 0 vJ.2>0)->Rq 5 293 0 (sM 91 [(0,.yl 0),(1,.ptr 1 0),(2,.ptr 2 0)] [lq,.box [bB A],.box [bB (List.drop 1 B)],.box [iL f],.box [.aU 7 (g+1) 0 (length (v++[(vJ.1,tk 0 vJ.2)]))],.aH,.aH,.aN (g+1) 2 false (au (v++[(vJ.1,tk 0 vJ.2)]))]) ex s')/\((¬tk 0 vJ.2>0)->Rq 5 293 0 (sM 91 [(0,.yl 0),(1,.ptr 1 0),(2,.ptr 2 0)] [lq,.box [bB A],.box [bB (List.drop 1 B)],.box [iL f],.box [.aU 7 g 0 v.length],.aH,.aH,.aN g 2 false (au v)]) ex s'))))/\((¬(B.length:Int)>0)->(bF.exit 0=ex)/\(sM 91 [] [lq,.box [bB A],.box [bB B],.box [iL f],.box [.aU 7 g 0 v.length],.aH,.aH,.aN g 2 false (au v)]=s')))))):Rq 5 293 0 (K8 f A B g v) ex s':=by
 have bS:=lU (ay A);have Qy:∀(x:List AV),x∈au v->AV.aM [] x=true:=(bJ _);let l1:List fP:=[kv 6 bS];by_cases c1:((A.length:Int)>0)
 .have h:=h.1 c1;have fT:=lU (ay B);let l2:List fP:=l1++[kt (qT c1),kO,kv 32 fT];by_cases c2:((B.length:Int)=0)
  .have h:=h.1 c2;obtain⟨x3,o4,h⟩:=h;have jw:(0:Int)<=(0:Int)/\(au A)[Int.toNat 0]?=some (aQ x3):=(bG o4);have Av:(0:Int)<=(1:Int)/\(1:Int)<=(↑(length (au A)):Int)/\(↑(length (au A)):Int)<=(↑(length (au A)):Int):=(by rw[ay];omega);let l3:List fP:=l2++[kt (nW.2 c2),kO,ko (bC.elem (aQ x3)),ko (bC.elem (aQ x3)),kp jw,kp jw,kv 60 (show Am.aF (AV.sl 2 false (List.drop 1 (List.take (Int.toNat (↑(length (au A)):Int)) (au A)))) (AV.sl 2 false (au (List.drop 1 A)))from(aF.of_eq (by simp only[ay,iI,gF,Int.toNat_natCast,take_length])))];by_cases c5:(tk x3.2 0>0)
   .have h:=h.1 c5;exact aJ (l3++[ko (bC.call [] (aS.ret (Am.bool true)) (q1 f (List.drop 1 A) B (g+1) (v++[(x3.1,tk x3.2 0)])++[ah.box [int x3.1,int x3.2,int 0]])),kp Av,kp (ypC (hy (List.drop 1 A) B v g x3.1 x3.2 0 zO) c5),kY,kp (show ∀(x:List AV),x∈au (v++[(x3.1,tk x3.2 0)])->AV.aM [] x=true from(bJ _))]) (aB 91 [0,1,2]) 8 h
   .have h:=h.2 c5;exact aJ (l3++[ko (bC.call [] (aS.ret (Am.bool true)) (q1 f (List.drop 1 A) B g v++[ah.box [int x3.1,int x3.2,int 0]])),kp Av,kp (ynC (hy (List.drop 1 A) B v g x3.1 x3.2 0 zO) c5),kY,kp Qy]) (aB 91 [0,1,2]) 8 h
  .have h:=h.2 c2;obtain⟨x6,o7,h⟩:=h;have hz9:(0:Int)<=(0:Int)/\(au A)[Int.toNat 0]?=some (aQ x6):=(bG o7);obtain⟨x8,o9,h⟩:=h;have PW:(0:Int)<=(0:Int)/\(au B)[Int.toNat 0]?=some (aQ x8):=(bG o9);let l4:List fP:=l2++[kf (qN.2 c2),kv 36 bS,kt (qT c1),ko (bC.elem (aQ x6)),ko (bC.elem (aQ x8)),kp hz9,kp PW];by_cases G9:(x6.1<x8.1)
   .have h:=h.1 G9;let l5:List fP:=l4++[kt (qT G9),ko (bC.elem (aQ x6)),ko (bC.elem (aQ x6)),kp hz9,kp hz9,kv 60 (show Am.aF (AV.sl 2 false (List.drop 1 (List.take (Int.toNat (↑(length (au A)):Int)) (au A)))) (AV.sl 2 false (au (List.drop 1 A)))from(aF.of_eq (by simp only[ay,iI,gF,Int.toNat_natCast,take_length])))];by_cases c11:(tk x6.2 0>0)
    .have h:=h.1 c11;exact aJ (l5++[ko (bC.call [] (aS.ret (Am.bool true)) (q1 f (List.drop 1 A) B (g+1) (v++[(x6.1,tk x6.2 0)])++[ah.box [int x6.1,int x6.2,int 0]])),Ga (1:Int) (↑(length (au A)):Int) (↑(length (au A)):Int) (by rw[ay];omega),kp (ypC (hy (List.drop 1 A) B v g x6.1 x6.2 0 zO) c11),kY,kp (show ∀(x:List AV),x∈au (v++[(x6.1,tk x6.2 0)])->AV.aM [] x=true from(bJ _))]) (aB 91 [0,1,2]) 8 h
    .have h:=h.2 c11;exact aJ (l5++[ko (bC.call [] (aS.ret (Am.bool true)) (q1 f (List.drop 1 A) B g v++[ah.box [int x6.1,int x6.2,int 0]])),Ga (1:Int) (↑(length (au A)):Int) (↑(length (au A)):Int) (by rw[ay];omega),kp (ynC (hy (List.drop 1 A) B v g x6.1 x6.2 0 zO) c11),kY,kp Qy]) (aB 91 [0,1,2]) 8 h
   .have h:=h.2 G9;let l6:List fP:=l4++[kf (qF G9),kv 63 bS,kf (show((A.length:Int)==0)=false from(qF zO)),ko (bC.elem (aQ x8)),ko (bC.elem (aQ x6)),kp PW,kp hz9];by_cases c13:(x8.1<x6.1)
    .have h:=h.1 c13;have agY:Am.aF (AV.sl 2 false (List.drop 1 (List.take (Int.toNat (↑(length (au B)):Int)) (au B)))) (AV.sl 2 false (au (List.drop 1 B))):=(aF.of_eq (by simp only[ay,iI,gF,Int.toNat_natCast,take_length]));have aal:(0:Int)<=(1:Int)/\(1:Int)<=(↑(length (au B)):Int)/\(↑(length (au B)):Int)<=(↑(length (au B)):Int):=(by rw[ay];omega);let l7:List fP:=l6++[kt (qT c13),ko (bC.elem (aQ x8)),ko (bC.elem (aQ x8)),kp PW,kp PW,kv 86 agY];by_cases c14:(tk 0 x8.2>0)
     .have h:=h.1 c14;exact aJ (l7++[ko (bC.call [] (aS.ret (Am.bool true)) (q1 f A (List.drop 1 B) (g+1) (v++[(x8.1,tk 0 x8.2)])++[ah.box [int x8.1,int 0,int x8.2]])),kp aal,kp (ypC (hy A (List.drop 1 B) v g x8.1 0 x8.2 zO) c14),kY,kp (show ∀(x:List AV),x∈au (v++[(x8.1,tk 0 x8.2)])->AV.aM [] x=true from(bJ _))]) (aB 91 [0,1,2]) 8 h
     .have h:=h.2 c14;exact aJ (l7++[ko (bC.call [] (aS.ret (Am.bool true)) (q1 f A (List.drop 1 B) g v++[ah.box [int x8.1,int 0,int x8.2]])),kp aal,kp (ynC (hy A (List.drop 1 B) v g x8.1 0 x8.2 zO) c14),kY,kp Qy]) (aB 91 [0,1,2]) 8 h
    .have h:=h.2 c13;have agY:Am.aF (AV.sl 2 false (List.drop 1 (List.take (Int.toNat (↑(length (au B)):Int)) (au B)))) (AV.sl 2 false (au (List.drop 1 B))):=(aF.of_eq (by simp only[ay,iI,gF,Int.toNat_natCast,take_length]));have aal:(0:Int)<=(1:Int)/\(1:Int)<=(↑(length (au B)):Int)/\(↑(length (au B)):Int)<=(↑(length (au B)):Int):=(by rw[ay];omega);let l8:List fP:=l6++[kf (qF c13),ko (bC.elem (aQ x6)),ko (bC.elem (aQ x6)),ko (bC.elem (aQ x8)),kp hz9,kp hz9,kp PW,kv 27 (show Am.aF (AV.sl 2 false (List.drop 1 (List.take (Int.toNat (↑(length (au A)):Int)) (au A)))) (AV.sl 2 false (au (List.drop 1 A)))from(aF.of_eq (by simp only[ay,iI,gF,Int.toNat_natCast,take_length]))),Ga (1:Int) (↑(length (au A)):Int) (↑(length (au A)):Int) (by rw[ay];omega),kv 29 agY];by_cases c15:(tk x6.2 x8.2>0)
     .have h:=h.1 c15;exact aJ (l8++[ko (bC.call [] (aS.ret (Am.bool true)) (q1 f (List.drop 1 A) (List.drop 1 B) (g+1) (v++[(x6.1,tk x6.2 x8.2)])++[ah.box [int x6.1,int x6.2,int x8.2]])),kp aal,kp (ypC (hy (List.drop 1 A) (List.drop 1 B) v g x6.1 x6.2 x8.2 zO) c15),kY,kp (show ∀(x:List AV),x∈au (v++[(x6.1,tk x6.2 x8.2)])->AV.aM [] x=true from(bJ _))]) (aB 91 [0,1,2]) 8 h
     .have h:=h.2 c15;exact aJ (l8++[ko (bC.call [] (aS.ret (Am.bool true)) (q1 f (List.drop 1 A) (List.drop 1 B) g v++[ah.box [int x6.1,int x6.2,int x8.2]])),kp aal,kp (ynC (hy (List.drop 1 A) (List.drop 1 B) v g x6.1 x6.2 x8.2 zO) c15),kY,kp Qy]) (aB 91 [0,1,2]) 8 h
 .have h:=h.2 c1;have fT:=lU (ay B);let l9:List fP:=l1++[kf (qF c1),kv 10 fT];by_cases c16:((B.length:Int)>0)
  .have h:=h.1 c16;obtain⟨vJ,o20,h⟩:=h;have aln:(0:Int)<=(0:Int)/\(au B)[Int.toNat 0]?=some (aQ vJ):=(bG o20);let l10:List fP:=l9++[kt (qT c16),kv 32 fT,kf (show((B.length:Int)==0)=false from(qF zO)),kv 36 bS,kf (qF c1),kY,kv 63 bS,kt (show((A.length:Int)==0)=true from(qT zO)),kO,ko (bC.elem (aQ vJ)),ko (bC.elem (aQ vJ)),kp aln,kp aln,kv 86 (show Am.aF (AV.sl 2 false (List.drop 1 (List.take (Int.toNat (↑(length (au B)):Int)) (au B)))) (AV.sl 2 false (au (List.drop 1 B)))from(aF.of_eq (by simp only[ay,iI,gF,Int.toNat_natCast,take_length])))];by_cases c21:(tk 0 vJ.2>0)
   .have h:=h.1 c21;exact aJ (l10++[ko (bC.call [] (aS.ret (Am.bool true)) (q1 f A (List.drop 1 B) (g+1) (v++[(vJ.1,tk 0 vJ.2)])++[ah.box [int vJ.1,int 0,int vJ.2]])),Ga (1:Int) (↑(length (au B)):Int) (↑(length (au B)):Int) (by rw[ay];omega),kp (ypC (hy A (List.drop 1 B) v g vJ.1 0 vJ.2 zO) c21),kY,kp (show ∀(x:List AV),x∈au (v++[(vJ.1,tk 0 vJ.2)])->AV.aM [] x=true from(bJ _))]) (aB 91 [0,1,2]) 8 h
   .have h:=h.2 c21;exact aJ (l10++[ko (bC.call [] (aS.ret (Am.bool true)) (q1 f A (List.drop 1 B) g v++[ah.box [int vJ.1,int 0,int vJ.2]])),Ga (1:Int) (↑(length (au B)):Int) (↑(length (au B)):Int) (by rw[ay];omega),kp (ynC (hy A (List.drop 1 B) v g vJ.1 0 vJ.2 zO) c21),kY,kp Qy]) (aB 91 [0,1,2]) 8 h
  .have h:=h.2 c16;obtain⟨eX,eS⟩:=h;exact bN.to ((show Rq 5 293 0 (K8 f A B g v) (bF.exit 0) (sM 91 [] [lq,.box [.sl 2 false (au A)],.box [.sl 2 false (au B)],.box [iL f],.box [.aU 7 g 0 v.length],.aH,.aH,.aN g 2 false (au v)])from aG (l9++[kf (qF c16)]) (aB 91 []) 8)) eX (eB.of_eq eS)
def qM:Nat->List D->List D->List (Int×Int×Int)
 |0,_,_=>[]
 |_+1,[],[]=>[]
 |n+1,x::a,[]=>(x.1,x.2,0)::qM n a []
 |n+1,[],y::b=>(y.1,0,y.2)::qM n [] b
 |n+1,x::a,y::b=>if x.1<y.1 then(x.1,x.2,0)::qM n a (y::b)else if y.1<x.1 then(y.1,0,y.2)::qM n (x::a) b else(x.1,x.2,y.2)::qM n a b
theorem AU:∀(n:Nat)(a b:List D),(qM n a b).length<=n
 |0,_,_=>Nat.le_refl _
 |_+1,[],[]=>Nat.zero_le _
 |n+1,x::a,[]=>by simp only[qM,yE];have:=AU n a [];omega
 |n+1,[],y::b=>by simp only[qM,yE];have:=AU n [] b;omega
 |n+1,x::a,y::b=>by
  have h1:=AU n (x::a) b;have h2:=AU n a (y::b);have h3:=AU n a b;simp only[qM];split
  .grind
  .grind
def lV(tk:Int->Int->Int)(p:Int×Int×Int):Option D:=if tk p.2.1 p.2.2>0 then some (p.1,tk p.2.1 p.2.2)else none
def Ck(A B:List D)(p:Int×Int×Int)(A' B':List D):Prop:=A'.length+B'.length+1<=A.length+B.length/\A'.length<=A.length/\B'.length<=B.length/\∀n,qM (n+1) A B=p::qM n A' B'
theorem Ux(A B:List D) :
 (∀x,A[0]?=some x->B.length=0->Ck A B (x.1,x.2,0) (A.drop 1) B) /\
 (∀x y,A[0]?=some x->B[0]?=some y->x.1<y.1->Ck A B (x.1,x.2,0) (A.drop 1) B) /\
 (∀x y,A[0]?=some x->B[0]?=some y->¬x.1<y.1->y.1<x.1->Ck A B (y.1,0,y.2) A (B.drop 1)) /\
 (∀x y,A[0]?=some x->B[0]?=some y->¬x.1<y.1->¬y.1<x.1->Ck A B (x.1,x.2,y.2) (A.drop 1) (B.drop 1)) /\
 (∀y,A.length=0->B[0]?=some y->Ck A B (y.1,0,y.2) A (B.drop 1)):=by
 have hd:∀{l:List D}{x},l[0]?=some x->l=x::l.drop 1:=fun{l x} h=>by
  cases l with
  |nil=>simp at h
  |cons y t=>simp at h;simp[h]
 refine⟨fun x hx hb=>?_,fun x y hx hy h1=>?_,fun x y hx hy h1 h2=>?_,fun x y hx hy h1 h2=>?_,fun y ha hy=>?_⟩
 .have eb:=eq_nil_of_length_eq_zero hb;subst eb;have ea:=hd hx;generalize hA:A.drop 1=A' at ea;subst ea;exact⟨zS,zS,zS,fun n=>rfl⟩
 .have ea:=hd hx;generalize hA:A.drop 1=A' at ea;subst ea;have eb:=hd hy;generalize hB:B.drop 1=B' at eb;subst eb;exact⟨by simp;omega,zS,zS,fun n=>by simp only[qM];rw[yL h1]⟩
 .have ea:=hd hx;generalize hA:A.drop 1=A' at ea;subst ea;have eb:=hd hy;generalize hB:B.drop 1=B' at eb |-;subst eb;exact⟨by simp;omega,zS,zS,fun n=>by simp only[qM];rw[yK h1,yL h2]⟩
 .have ea:=hd hx;generalize hA:A.drop 1=A' at ea |-;subst ea;have eb:=hd hy;generalize hB:B.drop 1=B' at eb |-;subst eb;exact⟨by simp;omega,zS,zS,fun n=>by simp only[qM];rw[yK h1,yK h2]⟩
 .have ea:=eq_nil_of_length_eq_zero ha;subst ea;have eb:=hd hy;generalize hB:B.drop 1=B' at eb |-;subst eb;exact⟨zS,zS,zS,fun n=>rfl⟩
def aam(f g:Nat)(v:List D):St:={ aL:=aC 91 [],H:=q1 f [] [] g v }
def Uy(f:Nat)(t:List D):St:={ aL:=aC 91 [],H:=if t=[]then q0 f [] []else q1 f [] [] (t.length-1) t }
section
variable (f:Nat) (tk:Int->Int->Int)
 (hy0:∀A B d x y,dY P G 0 [.agg [int d,int x,int y]] (q0 f A B++[.box [int d,int x,int y]]) true (if tk x y>0 then q1 f A B 0 [(d,tk x y)]else q0 f A B++[.box [int d,int x,int y]]))
 (hy1:∀A B v g d x y,v.length<=3000000000->dY P G 0 [.agg [int d,int x,int y]] (q1 f A B g v++[.box [int d,int x,int y]]) true (if tk x y>0 then q1 f A B (g+1) (v++[(d,tk x y)])++[.box [int d,int x,int y]]else q1 f A B g v++[.box [int d,int x,int y]]))
 include hy1
theorem aan:∀n A B g v,A.length+B.length<=n->A.length<=1000000000->B.length<=1000000000->v.length+n<=3000000000 ->
 bN P G none 5 (vg P 293 0) (K8 f A B g v) (.exit 0) (aam f (g+((qM n A B).filterMap (lV tk)).length) (v++(qM n A B).filterMap (lV tk))):=by
 intro n
 induction n with
 |zero =>
  intro A B g v hn hA hB hv;have ea:A=[]:=eq_nil_of_length_eq_zero zO;have eb:B=[]:=eq_nil_of_length_eq_zero zO;subst ea eb;refine aeK f tk [] [] g v zO hy1 hA hB _ _ ⟨fun h=>absurd h zS,fun _=>⟨fun h=>absurd h zS,fun _=>⟨rfl,?_⟩⟩⟩;simp only[qM,filterMap_nil,append_nil,length_nil,Nat.add_zero];rfl
 |succ n ih =>
  intro A B g v hn hA hB hv;obtain⟨s1,s2,s3,s4,s5⟩:=Ux A B;have fin:∀{p A' B'},Ck A B p A' B' ->
   (tk p.2.1 p.2.2>0->bN P G none 5 (vg P 293 0) (K8 f A' B' (g+1) (v++[(p.1,tk p.2.1 p.2.2)])) (.exit 0) (aam f (g+((qM (n+1) A B).filterMap (lV tk)).length) (v++(qM (n+1) A B).filterMap (lV tk)))) /\
   (¬tk p.2.1 p.2.2>0->bN P G none 5 (vg P 293 0) (K8 f A' B' g v) (.exit 0) (aam f (g+((qM (n+1) A B).filterMap (lV tk)).length) (v++(qM (n+1) A B).filterMap (lV tk)))):=fun{p A' B'} h=>by
   refine⟨fun hp=>?_,fun hp=>?_⟩
   .have:=ih A' B' (g+1) (v++[(p.1,tk p.2.1 p.2.2)]) (by have:=h.1;omega) (by have:=h.2.1;omega) (by have:=h.2.2.1;omega) (by simp;omega);have e:lV tk p=some (p.1,tk p.2.1 p.2.2):=yL hp;rw[h.2.2.2 n,filterMap_cons_some e,yE,show g+(((qM n A' B').filterMap (lV tk)).length+1)=g+1+((qM n A' B').filterMap (lV tk)).length by omega,show v++(p.1,tk p.2.1 p.2.2)::(qM n A' B').filterMap (lV tk)=v++[(p.1,tk p.2.1 p.2.2)]++(qM n A' B').filterMap (lV tk) by simp];exact this
   .have:=ih A' B' g v (by have:=h.1;omega) (by have:=h.2.1;omega) (by have:=h.2.2.1;omega) zO;have e:lV tk p=none:=yK hp;rw[h.2.2.2 n,filterMap_cons_none e];exact this
  have gx:∀{l:List D},((l.length:Int)>0)->∃x,l[0]?=some x:=fun h=>⟨_,yA zO⟩;refine aeK f tk A B g v zO hy1 hA hB _ _ ⟨fun h=>?_,fun h=>⟨fun h'=>?_,fun h'=>⟨rfl,?_⟩⟩⟩
  .obtain ⟨x,hx⟩:=gx h;refine⟨fun h'=>⟨x,hx,fin (s1 x hx zO)⟩,fun h'=>?_⟩;obtain⟨y,hy⟩:=gx (l:=B) zO;exact⟨x,hx,y,hy,⟨fun h1=>fin (s2 x y hx hy h1),fun h1=>⟨fun h2=>fin (s3 x y hx hy h1 h2),fun h2=>fin (s4 x y hx hy h1 h2)⟩⟩⟩
  .obtain ⟨y,hy⟩:=gx h';exact⟨y,hy,fin (s5 y zO hy)⟩
  .have ea:A=[]:=eq_nil_of_length_eq_zero zO;have eb:B=[]:=eq_nil_of_length_eq_zero zO;subst ea eb;simp only[qM,filterMap_nil,append_nil,length_nil,Nat.add_zero];rfl
 include hy0
theorem aao:∀n A B,A.length+B.length<=n->A.length<=1000000000->B.length<=1000000000->n<=2000000000 ->
 bN P G none 5 (vg P 293 0) (PV f A B) (.exit 0) (Uy f ((qM n A B).filterMap (lV tk))):=by
 intro n
 induction n with
 |zero =>
  intro A B hn hA hB hv;have ea:A=[]:=eq_nil_of_length_eq_zero zO;have eb:B=[]:=eq_nil_of_length_eq_zero zO;subst ea eb;refine aeJ f tk [] [] hy0 hA hB _ _ ⟨fun h=>absurd h zS,fun _=>⟨fun h=>absurd h zS,fun _=>⟨rfl,?_⟩⟩⟩;rfl
 |succ n ih =>
  intro A B hn hA hB hv;obtain⟨s1,s2,s3,s4,s5⟩:=Ux A B;have fin:∀{p A' B'},Ck A B p A' B' ->
   (tk p.2.1 p.2.2>0->bN P G none 5 (vg P 293 0) (K8 f A' B' 0 [(p.1,tk p.2.1 p.2.2)]) (.exit 0) (Uy f ((qM (n+1) A B).filterMap (lV tk)))) /\
   (¬tk p.2.1 p.2.2>0->bN P G none 5 (vg P 293 0) (PV f A' B') (.exit 0) (Uy f ((qM (n+1) A B).filterMap (lV tk)))):=fun{p A' B'} h=>by
   refine⟨fun hp=>?_,fun hp=>?_⟩
   .have:=aan f tk hy1 n A' B' 0 [(p.1,tk p.2.1 p.2.2)] (by have:=h.1;omega) (by have:=h.2.1;omega) (by have:=h.2.2.1;omega) (by simp;omega);have e:lV tk p=some (p.1,tk p.2.1 p.2.2):=yL hp;rw[h.2.2.2 n,filterMap_cons_some e];have fF:¬(p.1,tk p.2.1 p.2.2)::(qM n A' B').filterMap (lV tk)=[]:=zS
    unfold Uy;rw[yK fF];rw[Nat.zero_add]at this;exact this
   .have:=ih A' B' (by have:=h.1;omega) (by have:=h.2.1;omega) (by have:=h.2.2.1;omega) zO;have e:lV tk p=none:=yK hp;rw[h.2.2.2 n,filterMap_cons_none e];exact this
  have gx:∀{l:List D},((l.length:Int)>0)->∃x,l[0]?=some x:=fun h=>⟨_,yA zO⟩;refine aeJ f tk A B hy0 hA hB _ _ ⟨fun h=>?_,fun h=>⟨fun h'=>?_,fun h'=>⟨rfl,?_⟩⟩⟩
  .obtain ⟨x,hx⟩:=gx h;refine⟨fun h'=>⟨x,hx,fin (s1 x hx zO)⟩,fun h'=>?_⟩;obtain⟨y,hy⟩:=gx (l:=B) zO;exact⟨x,hx,y,hy,⟨fun h1=>fin (s2 x y hx hy h1),fun h1=>⟨fun h2=>fin (s3 x y hx hy h1 h2),fun h2=>fin (s4 x y hx hy h1 h2)⟩⟩⟩
  .obtain ⟨y,hy⟩:=gx h';exact⟨y,hy,fin (s5 y zO hy)⟩
  .have ea:A=[]:=eq_nil_of_length_eq_zero zO;have eb:B=[]:=eq_nil_of_length_eq_zero zO;subst ea eb;rfl
end
def dD(tk:Int->Int->Int)(a b:List D):List D:=(qM (a.length+b.length) a b).filterMap (lV tk)
theorem alo(a b:List D)(ha:a.length<=1000000000)(hb:b.length<=1000000000):bN P G none 5 (vg P 293 0) (PV 410 a b) (.exit 0) { aL:=aC 91 [],H:=if dD fu a b=[]then q0 410 [] []else q1 410 [] [] ((dD fu a b).length-1) (dD fu a b) } :=
 aao 410 fu gy0 gy1 _ a b yM ha hb zO
theorem agZ(a b:List D)(ha:a.length<=1000000000)(hb:b.length<=1000000000)(h:(((dD fu a b=[])->[lq,ah.box [AV.sl 2 false []],ah.box [AV.sl 2 false []],ah.box [AV.lit (Value.func (Fn.func 410) (Array.mk []) (Array.mk []))],ah.box [aK]]=if dD fu a b=[]then q0 410 [] []else q1 410 [] [] (length (dD fu a b)-1) (dD fu a b))/\((¬dD fu a b=[])->[lq,ah.box [AV.sl 2 false []],ah.box [AV.sl 2 false []],ah.box [AV.lit (Value.func (Fn.func 410) (Array.mk []) (Array.mk []))],ah.box [AV.aU 7 (length (dD fu a b)-1) 0 (length (dD fu a b))],ah.aH,ah.aH,ah.aN (length (dD fu a b)-1) 2 false (au (dD fu a b))]=if dD fu a b=[]then q0 410 [] []else q1 410 [] [] (length (dD fu a b)-1) (dD fu a b)))):ak P G 293 [AV.yl 0,AV.ptr 1 0,AV.ptr 2 0] (q0 410 a b) (aS.ret (AV.bq [])) (if dD fu a b=[]then q0 410 [] []else q1 410 [] [] (length (dD fu a b)-1) (dD fu a b)):=by
 by_cases c1:(dD fu a b=[])
 .have h:=h.1 c1;have eH:=h;exact ak.heap ((show ak P G 293 [AV.yl 0,AV.ptr 1 0,AV.ptr 2 0] (q0 410 a b) (aS.ret (AV.bq [])) [lq,ah.box [AV.sl 2 false []],ah.box [AV.sl 2 false []],ah.box [AV.lit (Value.func (Fn.func 410) (Array.mk []) (Array.mk []))],ah.box [aK]]from aj [kl [3,4,5,6,7,8,9,10,11,12,13,14,15,16,17,18,19,20,21,22,23,24,25,26,27,28,29,30,31,32,33,34,35,36,37,38,39,40,41,42,43,44,45,46,47,48,49,50,51,52,53,54,55,56,57,58,59,60,61,62,63,64,65,66,67,68,69,70,71,72,73,74,75,76,77,78,79,80,81,82,83,84,85,86,87,88,89,90] 5 (show bN P G none 5 (vg P 293 0) (St.mk (aC 91 [(0,AV.yl 0),(1,AV.ptr 1 0),(2,AV.ptr 2 0)]) [lq,ah.box [AV.sl 2 false (au a)],ah.box [AV.sl 2 false (au b)],ah.box [AV.lit (Value.func (Fn.func 410) (Array.mk []) (Array.mk []))],ah.box [aK]] []) (bF.exit 0) (St.mk (aC 91 []) [lq,ah.box [AV.sl 2 false []],ah.box [AV.sl 2 false []],ah.box [AV.lit (Value.func (Fn.func 410) (Array.mk []) (Array.mk []))],ah.box [aK]] [])from(by have h0:=(@Go.bH.alo (a) (b) zO zO);simp only[yL c1]at h0;exact h0))] zQ)) eH
 .have h:=h.2 c1;have eH:=h;exact ak.heap ((show ak P G 293 [AV.yl 0,AV.ptr 1 0,AV.ptr 2 0] (q0 410 a b) (aS.ret (AV.bq [])) [lq,ah.box [AV.sl 2 false []],ah.box [AV.sl 2 false []],ah.box [AV.lit (Value.func (Fn.func 410) (Array.mk []) (Array.mk []))],ah.box [AV.aU 7 (length (dD fu a b)-1) 0 (length (dD fu a b))],ah.aH,ah.aH,ah.aN (length (dD fu a b)-1) 2 false (au (dD fu a b))]from aj [kl [3,4,5,6,7,8,9,10,11,12,13,14,15,16,17,18,19,20,21,22,23,24,25,26,27,28,29,30,31,32,33,34,35,36,37,38,39,40,41,42,43,44,45,46,47,48,49,50,51,52,53,54,55,56,57,58,59,60,61,62,63,64,65,66,67,68,69,70,71,72,73,74,75,76,77,78,79,80,81,82,83,84,85,86,87,88,89,90] 5 (show bN P G none 5 (vg P 293 0) (St.mk (aC 91 [(0,AV.yl 0),(1,AV.ptr 1 0),(2,AV.ptr 2 0)]) [lq,ah.box [AV.sl 2 false (au a)],ah.box [AV.sl 2 false (au b)],ah.box [AV.lit (Value.func (Fn.func 410) (Array.mk []) (Array.mk []))],ah.box [aK]] []) (bF.exit 0) (St.mk (aC 91 []) [lq,ah.box [AV.sl 2 false []],ah.box [AV.sl 2 false []],ah.box [AV.lit (Value.func (Fn.func 410) (Array.mk []) (Array.mk []))],ah.box [AV.aU 7 (length (dD fu a b)-1) 0 (length (dD fu a b))],ah.aH,ah.aH,ah.aN (length (dD fu a b)-1) 2 false (au (dD fu a b))] [])from(by have h0:=(@Go.bH.alo (a) (b) zO zO);simp only[yK c1]at h0;exact h0))] zQ)) eH
theorem aap(a b:List D)(ha:a.length<=1000000000)(hb:b.length<=1000000000):ak P G 293 [.yl 0,.ptr 1 0,.ptr 2 0] (q0 410 a b) (.ret (.bq [])) (if dD fu a b=[]then q0 410 [] []else q1 410 [] [] ((dD fu a b).length-1) (dD fu a b)) :=
 agZ a b ha hb ⟨fun h=>by rw[yL h];rfl,fun h=>by rw[yK h];rfl⟩
theorem aoN(a b:List D)(ha:a.length<=1000000000)(hb:b.length<=1000000000)(he:fM a b=0)(h:(((dD fu a b=[])->([])=(dD fu a b))/\((¬dD fu a b=[])->True))):ak P G 199 [AV.agg [rl 410],bB a,bB b] [] (aS.ret (AV.bq [bB (dD fu a b),int 0])) []:=by
 have bS:=(@Go.bH.PX (a) (b) zO zO);have fT:(fM a b != 0)=false:=(yJ Bool.not (decide_eq_true zO));have jw:=(@Go.bH.ac7 (a) (b));by_cases c2:(dD fu a b=[])
 .have h:=h.1 c2;have e1:=h;exact ak.out ((show ak P G 199 [AV.agg [rl 410],bB a,bB b] [] (aS.ret (AV.bq [aK,int 0])) []from aj [kc [] bS,kf fT,kc [] jw,ko (bC.range [0,1,2,4,5,7,8,9,10,11,12,13,14,15,16,17,18,19,20,21,22,23,24,25,26,27,28,29,30,31,32,33,34] 0 none bF.normal [] []),kc [5,2,3,0,1] (show ak P G 293 [AV.yl 0,AV.ptr 1 0,AV.ptr 2 0] [ah.iV LoopState.ready none (aC 35 [(3,AV.ptr 3 0),(6,AV.ptr 4 0)]) (Array.mk [20]) (Code.region 5 #[Oper.mk (some 9) (Op.alloc 308) 0 "vector.go:80" #[] none,Oper.mk none (Op.store 308 (Operand.tmp 9) (Operand.tmp 20)) 0 "vector.go:80" #[Edge.mk 0 Ground.data,Edge.mk 0 Ground.phase] none] false) (uT P 199 0),ah.box [AV.sl 2 false (au a)],ah.box [AV.sl 2 false (au b)],ah.box [AV.lit (Value.func (Fn.func 410) (Array.mk []) (Array.mk []))],ah.box [aK]] (aS.ret (AV.bq [])) [lq,ah.box [AV.sl 2 false []],ah.box [AV.sl 2 false []],ah.box [AV.lit (Value.func (Fn.func 410) (Array.mk []) (Array.mk []))],ah.box [aK]]from(by have h0:=(@Go.bH.aap (a) (b) zO zO);simp only[yL c2]at h0;exact h0))] zQ)) (aF.iM ⟨(aF.nil_eq (yJ (List.map aQ) e1)),aF.refl _,yO⟩)
 .have h:=h.2 c2;have _:=h;exact aj [kc [] bS,kf fT,kc [] jw,ko (bC.range [0,1,2,4,5,7,8,9,10,11,12,13,14,15,16,17,18,19,20,21,22,23,24,25,26,27,28,29,30,31,32,33,34] 0 none bF.normal [] []),kc [5,2,3,0,1] (show ak P G 293 [AV.yl 0,AV.ptr 1 0,AV.ptr 2 0] [ah.iV LoopState.ready none (aC 35 [(3,AV.ptr 3 0),(6,AV.ptr 4 0)]) (Array.mk [20]) (Code.region 5 #[Oper.mk (some 9) (Op.alloc 308) 0 "vector.go:80" #[] none,Oper.mk none (Op.store 308 (Operand.tmp 9) (Operand.tmp 20)) 0 "vector.go:80" #[Edge.mk 0 Ground.data,Edge.mk 0 Ground.phase] none] false) (uT P 199 0),ah.box [AV.sl 2 false (au a)],ah.box [AV.sl 2 false (au b)],ah.box [AV.lit (Value.func (Fn.func 410) (Array.mk []) (Array.mk []))],ah.box [aK]] (aS.ret (AV.bq [])) [lq,ah.box [AV.sl 2 false []],ah.box [AV.sl 2 false []],ah.box [AV.lit (Value.func (Fn.func 410) (Array.mk []) (Array.mk []))],ah.box [AV.aU 7 (length (dD fu a b)-1) 0 (length (dD fu a b))],ah.aH,ah.aH,ah.aN (length (dD fu a b)-1) 2 false (au (dD fu a b))]from(by have h0:=(@Go.bH.aap (a) (b) zO zO);simp only[yK c2]at h0;exact h0)),ko (bC.fz (some 34) (au (dD fu a b))),kp (show ∀(x:List AV),x∈au (dD fu a b)->AV.aM [] x=true from(Go.bH.bJ _)),kp (show length (dD fu a b)-1=length (dD fu a b)-1 from(rfl)),kp (show List.take (length (dD fu a b)) (List.drop 0 (au (dD fu a b)))=au (dD fu a b)from(Go.bH.dW _)),kp (show length (au (dD fu a b))=length (dD fu a b)from(Go.bH.ay _)),kp (show ∀(c:List AV),c∈au (dD fu a b)->List.all c AV.fJ=true from(Go.bH.bK _))] zQ
theorem aoO(a b:List D)(ha:a.length<=1000000000)(hb:b.length<=1000000000)(he:fM a b=0):Cq 199 [.agg [rl 410],bB a,bB b] (.bq [bB (dD fu a b),int 0]) :=
 aoN a b ha hb he ⟨fun h=>h.symm,fun _=>trivial⟩
theorem aoP(a b:List D)(ha:a.length<=1000000000)(hb:b.length<=1000000000)(he:¬fM a b=0)(f:Nat)(h:True):Cq 199 [.agg [rl f],bB a,bB b] (.bq [bB [],int (fM a b)]):=by
 exact ak.out ((show Cq 199 [.agg [rl f],bB a,bB b] (.bq [aK,int (fM a b)])from aj [kc [] (@PX (a) (b) zO zO),kt (show(fM a b != 0)=true from(yJ Bool.not (qF zO)))])) (aF.iM ⟨(aF.nil _),aF.refl _,yO⟩)
theorem alq(f:Nat)(a b:List D)(ha:a.length<=1000000000)(hb:b.length<=1000000000)(he:¬fM a b=0):Cq 199 [.agg [rl f],bB a,bB b] (.bq [bB [],int (fM a b)]):=aoP a b ha hb he f trivial
def uK(a b:List D):List D:=if fM a b=0 then dD fu a b else[]
theorem aoQ(a b:List D)(ha:a.length<=1000000000)(hb:b.length<=1000000000):Cq 199 [.agg [rl 410],bB a,bB b] (.bq [bB (uK a b),int (fM a b)]):=by
 unfold uK;by_cases h:fM a b=0
 .grind [aoO]
 .rw [yK h];exact alq 410 a b ha hb h
theorem ag0(a b:List D)(ha:a.length<=1000000000)(hb:b.length<=1000000000)(h:True):Cq 97 [bB a,bB b] (.bq [bB (uK a b),int (fM a b)]):=by
 exact aj [kc [] (@aoQ (a) (b) zO zO)]
theorem ag1(a b:List D)(ha:a.length<=1000000000)(hb:b.length<=1000000000):Cq 97 [bB a,bB b] (.bq [bB (uK a b),int (fM a b)]):=ag0 a b ha hb trivial
theorem ag2(a:List D)(x y:Int)(ha:a.length<=1000000000)(h:True):Cq 28 [bB a,eG (x,y)] (.bq [bB (uK a [(x,y)]),int (fM a [(x,y)])]):=by
 exact aj [kc [] (show Cq 97 [.sl 2 false (au a),.sl 2 true [[int x,int y]]] (.bq [.sl 2 false (au (uK a [(x,y)])),int (fM a [(x,y)])])from(ak.qp (@ag1 (a) ([(x,y)]) zO (by simp only[yD,yE,length_nil,length_map]<;>omega)) ⟨aF.refl _,aF.oP _ _ _,yO⟩))]
theorem Q6(a:List D)(x y:Int)(ha:a.length<=1000000000):Cq 28 [bB a,eG (x,y)] (.bq [bB (uK a [(x,y)]),int (fM a [(x,y)])]):=ag2 a x y ha trivial
def aeL(ps:List (Int×Int×Int)):Bool:=ps.any fun p=>decide (p.2.1<p.2.2)
def alr(ps:List (Int×Int×Int)):Bool:=ps.any fun p=>decide (p.2.1>p.2.2)
def aas(a b:List D):Bool:=aeL (qM (a.length+b.length) a b)
def aeM(a b:List D):Bool:=alr (qM (a.length+b.length) a b)
def gJ(a b:List D):Int:=if aas a b=true then(if aeM a b=true then 2 else -1)else if aeM a b=true then 1 else 0
end Go.bH
namespace Go.bV
open Go Go.Am Go.Proofs Go.eY Go.bH Go.yU
def zK:AV:=.lit (.agg #[.int .i64 0,.nilFunc])
theorem Sm(k:Int)(h : -9223372036854775808<=k/\k<9223372036854775808):∃l,keyOf P 3 (.int .i64 k)=some l :=
 ⟨_,Maps.keyOf_int_mk Tryz.underlying3 (by simp[Lit.wf,IntKind.min,IntKind.max,IntKind.signed,IntKind.bits];omega)⟩
theorem PY:∀e∈iF,∃l,keyOf P 3 e.1=some l:=by
 intro e he;simp only[iF,yH,not_mem_nil,or_false]at he;rcases he with rfl|rfl|rfl|rfl|rfl|rfl|rfl|rfl<;>exact Sm _ zD
def partOf(k:Int):Int:=if k=1\/k=2 then 1 else if k=3\/k=4 then 2 else if k=5 then 3 else if k=6\/k=7\/k=8 then 4 else 0
theorem kg{k p:Int}{f:Nat}(hk : -9223372036854775808<=k/\k<9223372036854775808)(h:(.int .i64 k,.agg [int p,gP f])∈iF):bT P 3 iF (.int .i64 k) zK (.agg [int p,gP f]) true :=
 ⟨Maps.int_keyed Tryz.underlying3,Sm k hk,PY,.inl ⟨rfl,h⟩⟩
theorem kg1:bT P 3 iF (.int .i64 1) zK (.agg [int 1,gP 400]) true:=kg zD (by simp[iF])
theorem kg2:bT P 3 iF (.int .i64 2) zK (.agg [int 1,gP 402]) true:=kg zD (by simp[iF])
theorem kg3:bT P 3 iF (.int .i64 3) zK (.agg [int 2,gP 404]) true:=kg zD (by simp[iF])
theorem kg4:bT P 3 iF (.int .i64 4) zK (.agg [int 2,gP 405]) true:=kg zD (by simp[iF])
theorem kg5:bT P 3 iF (.int .i64 5) zK (.agg [int 3,gP 406]) true:=kg zD (by simp[iF])
theorem kg6:bT P 3 iF (.int .i64 6) zK (.agg [int 4,gP 407]) true:=kg zD (by simp[iF])
theorem kg7:bT P 3 iF (.int .i64 7) zK (.agg [int 4,gP 408]) true:=kg zD (by simp[iF])
theorem kg8:bT P 3 iF (.int .i64 8) zK (.agg [int 4,gP 409]) true:=kg zD (by simp[iF])
theorem kgn(k:Int)(hk : -9223372036854775808<=k/\k<9223372036854775808)(h:k<1\/8<k):bT P 3 iF (.int .i64 k) zK zK false :=
 ⟨Maps.int_keyed Tryz.underlying3,Sm k hk,PY,.inr ⟨rfl,rfl,fun e he=>by
  simp only[iF,yH,not_mem_nil,or_false]at he;rcases he with rfl|rfl|rfl|rfl|rfl|rfl|rfl|rfl<;>(intro hq;simp only[Value.int.injEq,true_and]at hq;omega)⟩⟩
theorem aoR(o:OP)(l:List D)(f:Int)(hw:Cq 28 [aK,eG (o.dv,o.sq)] (.bq [bB l,int f]))(hf:¬f=0)(h:True):Cq 25 [op o] (int 170):=by
 exact aj [kc [] hw,kt (yJ Bool.not (qF zO)),kO,kO,kO,kO]
theorem aoS(o:OP)(l:List D)(hw:Cq 28 [aK,eG (o.dv,o.sq)] (.bq [bB l,int 0]))(ht:o.tm<1)(h:True):Cq 25 [op o] (int 170):=by
 exact aj [kc [] hw,kY,ki (o.tm<1),kO,kO,kO]
theorem aoT(o:OP)(l:List D)(hw:Cq 28 [aK,eG (o.dv,o.sq)] (.bq [bB l,int 0]))(ht:1<=o.tm)(ht2:1099511627776<o.tm)(h:True):Cq 25 [op o] (int 170):=by
 exact aj [kc [] hw,kY,kj (o.tm<1),ki (o.tm>1099511627776),kO,kO]
theorem F9(o:OP)(l:List D)(f:Int)(hw:Cq 28 [aK,eG (o.dv,o.sq)] (.bq [bB l,int 0]))(ht:1<=o.tm)(ht2:o.tm<=1099511627776)(hv:Cq 61 [bB o.cx] (int f))(hf:¬f=0)(h:True):Cq 25 [op o] (int 170):=by
 exact aj [kc [] hw,kY,kj (o.tm<1),kj (o.tm>1099511627776),kc [] hv,kt (yJ Bool.not (qF zO)),kO]
theorem jg(o:OP)(l:List D)(hw:Cq 28 [aK,eG (o.dv,o.sq)] (.bq [bB l,int 0]))(ht:1<=o.tm)(ht2:o.tm<=1099511627776)(hv:Cq 61 [bB o.cx] (int 0))(hc:Cq 27 [bB o.cx,eG (o.dv,o.sq)] (bool true))(h:True):Cq 25 [op o] (int 170):=by
 exact aj [kc [] hw,kY,kj (o.tm<1),kj (o.tm>1099511627776),kc [] hv,kY,kc [] hc,kO]
theorem aoU(o:OP)(l:List D)(hw:Cq 28 [aK,eG (o.dv,o.sq)] (.bq [bB l,int 0]))(ht:1<=o.tm)(ht2:o.tm<=1099511627776)(hv:Cq 61 [bB o.cx] (int 0))(hc:Cq 27 [bB o.cx,eG (o.dv,o.sq)] (bool false))(hm:bT P 3 iF (.int .i64 o.kd) zK zK false)(h:True):Cq 25 [op o] (int 170):=by
 exact aj [kc [] hw,kY,kj (o.tm<1),kj (o.tm>1099511627776),kc [] hv,kY,kc [] hc,kY,ko (bC.lJ zK false),kp hm,kO,kO,kO,kO,kO]
theorem PZ{k p:Int}{F:Nat}(hF:k=1/\F=400\/k=2/\F=402\/k=3/\F=404\/k=4/\F=405\/k=5/\F=406\/k=6/\F=407\/k=7/\F=408\/k=8/\F=409)(hM:bT P 3 iF (.int .i64 k) zK (.agg [int p,gP F]) true)(o:OP)(l:List D)(b:Bool)(v:Int)(hcx:o.cx.length<=1000000000)(hw:Cq 28 [aK,eG (o.dv,o.sq)] (.bq [bB l,int 0]))(ht:1<=o.tm)(ht2:o.tm<=1099511627776)(hv:Cq 61 [bB o.cx] (int 0))(hc:Cq 27 [bB o.cx,eG (o.dv,o.sq)] (bool false))(hk:Cq F [Ki o k] (bool b))(hr:Cq 94 [Ki o k] (op (mQ o k)))(hs:Cq 93 [op (mQ o k),op Kj] (bool (decide (mQ o k=Kj))))(h:(((o.pk=p)->((((↑(ByteArray.size o.pn):Int)>64)->170=v)/\((¬(↑(ByteArray.size o.pn):Int)>64)->((((b)=true)->(((mQ o k=Kj)->0=v)/\((¬mQ o k=Kj)->170=v)))/\(((b)=false)->170=v)))))/\((¬o.pk=p)->170=v))):Cq 25 [Ki o k] (int v):=by
 let x0:AV:=AV.agg [int p,gP F];let r0:=mQ o k;rcases hF with⟨rfl,rfl⟩|⟨rfl,rfl⟩|⟨rfl,rfl⟩|⟨rfl,rfl⟩|⟨rfl,rfl⟩|⟨rfl,rfl⟩|⟨rfl,rfl⟩|⟨rfl,rfl⟩
 all_goals
  have fT:decide (o.tm<1)=false:=(qF zO);have jw:decide (o.tm>1099511627776)=false:=(qF zO);have PW:Cq 93 [.agg [int (OP.dv (r0)),int (OP.sq (r0)),int (OP.tm (r0)),.sl 2 false [],int (OP.pk (r0)),str (OP.pn (r0)),int (OP.kd (r0)),int (OP.f1 (r0)),int (OP.f2 (r0)),int (OP.f3 (r0)),int (OP.t1 (r0)),int (OP.t2 (r0)),int (OP.t3 (r0)),str (OP.ky (r0)),str (OP.vl (r0)),int (OP.n (r0)),Am.bool (OP.on (r0))],.agg [int 0,int 0,int 0,aK,int 0,str (ByteArray.mk #[]),int 0,int 0,int 0,int 0,int 0,int 0,int 0,str (ByteArray.mk #[]),str (ByteArray.mk #[]),int 0,Am.bool false]] (Am.bool (decide (r0=Kj))):=(ak.qp hs ⟨aF.refl _,aF.qo ⟨aF.refl _,aF.refl _,aF.refl _,(aF.nil _),aF.refl _,aF.refl _,aF.refl _,aF.refl _,aF.refl _,aF.refl _,aF.refl _,aF.refl _,aF.refl _,aF.refl _,aF.refl _,aF.refl _,aF.refl _,yO⟩,yO⟩);by_cases c3:(o.pk=p)
  .have h:=h.1 c3;have OG:(o.pk != p)=false:=(yJ Bool.not (nW.2 c3));by_cases c4:((↑(ByteArray.size o.pn):Int)>64)
   .have h:=h.1 c4;exact aA (aF.int_eq h) [kc [] hw,kY,kf fT,kf jw,kc [] hv,kY,kc [] hc,kY,ko (bC.lJ x0 true),kp hM,kY,kf OG,kt (qT c4),kO,kO]
   .have h:=h.2 c4;rcases Bool.eq_false_or_eq_true ((b))with c5|c5
    .have h:=h.1 c5;have Qy:(!b)=false:=(yJ Bool.not (c5));by_cases c6:(r0=Kj)
     .have h:=h.1 c6;exact aA (aF.int_eq h) [kc [] hw,kY,kf fT,kf jw,kc [] hv,kY,kc [] hc,kY,ko (bC.lJ x0 true),kp hM,kY,kf OG,kf (qF c4),kc [] hk,kf Qy,kc [] hr,kc [] PW,kf (show(!decide (r0=Kj))=false from(yJ Bool.not (qT c6)))]
     .have h:=h.2 c6;exact aA (aF.int_eq h) [kc [] hw,kY,kf fT,kf jw,kc [] hv,kY,kc [] hc,kY,ko (bC.lJ x0 true),kp hM,kY,kf OG,kf (qF c4),kc [] hk,kf Qy,kc [] hr,kc [] PW,kt (show(!decide (r0=Kj))=true from(yJ Bool.not (qF c6)))]
    .have h:=h.2 c5;exact aA (aF.int_eq h) [kc [] hw,kY,kf fT,kf jw,kc [] hv,kY,kc [] hc,kY,ko (bC.lJ x0 true),kp hM,kY,kf OG,kf (qF c4),kc [] hk,kt (show(!b)=true from(yJ Bool.not (c5))),kO]
  .have h:=h.2 c3;exact aA (aF.int_eq h) [kc [] hw,kY,kf fT,kf jw,kc [] hv,kY,kc [] hc,kY,ko (bC.lJ x0 true),kp hM,kY,kt (show(o.pk != p)=true from(yJ Bool.not (qN.2 c3))),kO,kO,kO]
structure Okn(o:OP):Prop where
 cx:o.cx.length<=1000000000
 kd : -9223372036854775808<=o.kd/\o.kd<9223372036854775808
 f3 : -9223372036854775808<=o.f3/\o.f3<9223372036854775808
def qW(o:OP):Bool:=gQ (o.dv,o.sq)&&decide (o.tm>=1)&&decide (o.tm<=1099511627776)&&Cw o.cx && !cZ o.cx (o.dv,o.sq)
def aat(o:OP):Bool:=decide (o.pk=partOf o.kd)&&decide ((o.pn.size:Int)<=64)&&dO o o.kd&&decide (mQ o o.kd=Kj)
def rM(o:OP):Bool:=qW o&&decide (1<=o.kd)&&decide (o.kd<=8)&&aat o
def lM(o:OP):Int:=if rM o=true then 0 else 170
theorem aoV(x:D):eZ [x]=if gQ x=true then 0 else 120:=by grind[eZ,Cw,y9,jh]
theorem aau(o:OP):∃l:List D,Cq 28 [aK,eG (o.dv,o.sq)] (.bq [bB l,int (if gQ (o.dv,o.sq)=true then 0 else 120)]):=by
 have h:=Q6 [] o.dv o.sq zS;refine⟨uK [] [(o.dv,o.sq)],?_⟩;have e:fM [] [(o.dv,o.sq)]=if gQ (o.dv,o.sq)=true then 0 else 120:=by
  unfold fM;rw[yL (by rfl),aoV]
 rw[e]at h;exact ak.qp h ⟨aF.nil 2,aF.refl _,yO⟩
theorem zY(o:OP)(k:Int)(b:Bool)(hb:b=dO o k)(hk:o.kd=k)(hs:qW o=true)(h1:1<=k)(h8:k<=8)(h:∀v,(((o.pk=partOf k->((((o.pn.size:Int)>64->170=v)/\(¬(o.pn.size:Int)>64->((b=true->((mQ o k=Kj->0=v)/\(¬mQ o k=Kj->170=v)))/\(b=false->170=v))))))/\(¬o.pk=partOf k->170=v)))->Cq 25 [Ki o k] (int v)) :
 Cq 25 [op o] (int (lM o)):=by
 rw[<- ag3 o k hk];apply h;subst hk hb;have e:rM o=aat o:=by simp[rM,hs,h1,h8]
 unfold lM;rw[e];unfold aat;refine⟨fun a=>⟨fun b=>?_,fun b=>⟨fun c=>⟨fun d=>?_,fun d=>?_⟩,fun c=>?_⟩⟩,fun a=>?_⟩
 .grind
 .rw [yL];simp only[Bool.and_eq_true,decide_eq_true_eq];exact⟨⟨⟨a,zO⟩,c⟩,d⟩
 .rw [yK];intro hq;simp only[Bool.and_eq_true,decide_eq_true_eq]at hq;exact d hq.2
 .rw [yK];intro hq;simp only[Bool.and_eq_true,decide_eq_true_eq]at hq;rw[c]at hq;exact absurd hq.1.2 zD
 .rw [yK];intro hq;simp only[Bool.and_eq_true,decide_eq_true_eq]at hq;exact a hq.1.1.1
theorem aav(o:OP)(k:Int):(mQ o k).cx=[]:=by unfold mQ;split<;>rfl
theorem nO(o:OP)(k:Int):Cq 93 [op (mQ o k),op Kj] (bool (decide (mQ o k=Kj))):=zG _ _ (by rw[aav];simp)
theorem K9(o:OP)(h:rM o=false)(hc:Cq 25 [op o] (int 170)):Cq 25 [op o] (int (lM o)):=by grind[lM]
theorem fG(o:OP)(hn:Okn o):Cq 25 [op o] (int (lM o)):=by
 obtain⟨l,hw⟩:=aau o;by_cases hd:gQ (o.dv,o.sq)=true
 .rw [yL hd]at hw;by_cases t1:o.tm<1
  .exact K9 o (by simp only[rM,qW];simp[show ¬o.tm>=1 by omega]) (aoS o l hw t1 yO)
  by_cases t2:1099511627776<o.tm
  .exact K9 o (by simp only[rM,qW];simp[show ¬o.tm<=1099511627776 by omega]) (aoT o l hw zO t2 yO)
  have hv:=bH.fG o.cx hn.cx;by_cases dK:Cw o.cx=true
  .have e0:eZ o.cx=0:=by unfold eZ;rw[yL dK]
   rw[e0]at hv;have Xq:=jX o.cx o.dv o.sq hn.cx;cases hcb:cZ o.cx (o.dv,o.sq)with
   |true =>
    rw[hcb]at Xq;exact K9 o (by simp only[rM,qW];simp[hcb]) (jg o l hw zO zO hv Xq yO)
   |false =>
    rw[hcb]at Xq;have hs:qW o=true:=by simp only[qW];simp[hd,dK,hcb];omega
    by_cases hk:o.kd<1\/8<o.kd
    .exact K9 o (by
      unfold rM;have:(decide (1<=o.kd)&&decide (o.kd<=8))=false:=by grind
      rw[Bool.and_assoc (qW o),this];simp) (aoU o l hw zO zO hv Xq (kgn o.kd hn.kd hk) yO)
    .have y8:o.kd=1\/o.kd=2\/o.kd=3\/o.kd=4\/o.kd=5\/o.kd=6\/o.kd=7\/o.kd=8:=zO
     rcases y8 with h|h|h|h|h|h|h|h
     .exact zY o 1 _ rfl h hs zD zD fun v q=>PZ zD kg1 o l _ v hn.cx hw zO zO hv Xq (aoW { o with kd:=1 } hn.cx) (ac8 o yO) (nO o 1) q
     .exact zY o 2 _ rfl h hs zD zD fun v q=>PZ zD kg2 o l _ v hn.cx hw zO zO hv Xq (aoX { o with kd:=2 } hn.cx) (ac9 o yO) (nO o 2) q
     .exact zY o 3 _ rfl h hs zD zD fun v q=>PZ zD kg3 o l _ v hn.cx hw zO zO hv Xq (aoY { o with kd:=3 }) (ada o yO) (nO o 3) q
     .exact zY o 4 _ rfl h hs zD zD fun v q=>PZ zD kg4 o l _ v hn.cx hw zO zO hv Xq (aoZ { o with kd:=4 }) (adb o yO) (nO o 4) q
     .exact zY o 5 _ rfl h hs zD zD fun v q=>PZ zD kg5 o l _ v hn.cx hw zO zO hv Xq (ao0 { o with kd:=5 }) (ade o yO) (nO o 5) q
     .exact zY o 6 _ rfl h hs zD zD fun v q=>PZ zD kg6 o l _ v hn.cx hw zO zO hv Xq (ao1 { o with kd:=6 } hn.cx) (adf o yO) (nO o 6) q
     .exact zY o 7 _ rfl h hs zD zD fun v q=>PZ zD kg7 o l _ v hn.cx hw zO zO hv Xq (ao2 { o with kd:=7 } hn.cx hn.f3) (adg o yO) (nO o 7) q
     .exact zY o 8 _ rfl h hs zD zD fun v q=>PZ zD kg8 o l _ v hn.cx hw zO zO hv Xq (ao3 { o with kd:=8 } hn.cx) (adh o yO) (nO o 8) q
  .have e0:¬eZ o.cx=0:=by unfold eZ;rw[yK dK];decide
   exact K9 o (by simp only[rM,qW];simp[dK]) (F9 o l _ hw zO zO hv e0 yO)
 .rw [yK hd]at hw;exact K9 o (by simp only[rM,qW];simp[hd]) (aoR o l 120 hw zD yO)
end Go.bV
namespace Go.yU
open Go Go.Am Go.Proofs Go.eY
theorem La{p:List UInt8->Bool×CV×List UInt8}:∀(l:List CV)(r:List UInt8),(∀x∈l,∀r,p (gT x++r)=(true,x,r))->Gj p l.length (je l++r)=(true,l,r)
 |[],r,_=>rfl
 |v::l,r,h=>by
  have h1:=h v mem_cons_self (je l++r);have ih:=La l r fun x hx=>h x (yF _ hx);rw[Jr,append_assoc];show Gj p (l.length+1) _=_;simp only[Gj,h1,if_true,ih]
theorem Wq(v:CV):∀(d:Nat)(r:List UInt8),wf v=true->QG v->dp v<=d->P5 d (gT v++r)=(true,v,r):=by
 refine CV.ind (p:=fun v=>∀(d:Nat)(r:List UInt8),wf v=true->QG v->dp v<=d->P5 d (gT v++r)=(true,v,r)) (fun k n s l ih d r hw dK hd=>?_) v;cases dK with
 |mk _ _ _ _ hn hs hl jH =>
 have als:∃deep p,P5 d=Kk deep p:=by cases d<;>exact⟨_,_,rfl⟩
 obtain⟨deep,p,hp⟩:=als;by_cases h1:k=1
 .subst h1;simp only[wf,if_true,Bool.and_eq_true,decide_eq_true_eq]at hw;obtain⟨rfl,EJ⟩:=hw;obtain rfl:=eq_nil_of_length_eq_zero EJ;obtain⟨k1,k2,k3⟩:=ET (vP n) (Sn hn) r;have e:gT (.mk 1 n .empty [])++r=1::(num (vP n)++r):=by simp[gT]
  rw[hp,e,ag4 zD,k1,k2,k3,adi];rfl
 by_cases h2:k=2
 .subst h2;have hw':n=0/\l.length=0:=by simpa[wf]using hw
  obtain⟨rfl,EJ⟩:=hw';obtain rfl:=eq_nil_of_length_eq_zero EJ;obtain⟨k1,k2,k3⟩:=ET s.size zO (s.data.toList++r);have e:gT (.mk 2 0 s [])++r=2::(num s.size++(s.data.toList++r)):=by simp[gT]
  have bL:s.data.toList.length=s.size:=rfl;have ok:FU (num s.size++(s.data.toList++r))=true:=by
   simp only[FU,k1,k2,k3,Bool.true_and,decide_eq_true_eq,yD,bL];omega
  rw[hp,e,ag5 zD,ok,k2,k3,<- bL,take_left',drop_left']
  .rfl
  .rfl
  .rfl
 .have hk:k=3:=by
   rcases adj hw with h|h|h
   .exact absurd h h1
   .exact absurd h h2
   .exact h
  subst hk;have hw':(n=0/\s = .empty)/\Lb l=true:=by simpa[wf,Bool.and_eq_true]using hw
  obtain⟨⟨rfl,rfl⟩,hwl⟩:=hw';have Xl:JO l+1<=d:=by simpa[dp]using hd
  obtain⟨d',rfl⟩:∃d',d=d'+1:=⟨d-1,zO⟩;obtain⟨k1,k2,k3⟩:=ET l.length zO (je l++r);have e:gT (.mk 3 0 .empty l)++r=3::(num l.length++(je l++r)):=by simp[gT]
  have uQ:=AX l;have ok:FU (num l.length++(je l++r))=true:=by
   simp only[FU,k1,k2,k3,Bool.true_and,decide_eq_true_eq,yD];omega
  show Kk true (P5 d') _=_;rw[e,ag6 zD,yL ⟨rfl,ok⟩,k2,k3,La l r fun x hx r=>ih x hx d' r (AY hwl x hx) (jH x hx) (by have:=Sr hx;omega)];rfl
theorem adk(v:CV)(hw:wf v=true)(dK:QG v)(hd:dp v<=16):aaw (gT v)=v/\adl (gT v)=0:=by
 have h:=Wq v 16 [] hw dK hd;rw[append_nil]at h;have hb:adn (gT v)=true:=by simp[adn,h]
 exact⟨by simp[aaw,hb,h],by simp[adl,hb]⟩
theorem aBv{v w:CV}(hv:wf v=true)(hw:wf w=true)(ov:QG v)(ow:QG w)(dv:dp v<=16)(dw:dp w<=16)(h:gT v=gT w):v=w:=by
 rw[<- (adk v hv ov dv).1,<- (adk w hw ow dw).1,h]
theorem axr{l:List UInt8}(hl:l.length<=1000000000)(h:adl l=0):wf (aaw l)=true/\dp (aaw l)<=16/\QG (aaw l)/\gT (aaw l)=l:=by
 have hb:adn l=true:=by
  cases hq:adn l with
  |true=>rfl
  |false=>simp[adl,hq]at h
 have hb':=hb;simp only[adn,Bool.and_eq_true,isEmpty_iff]at hb';have hg:=az2 16 l hl hb'.1;have e:aaw l=(P5 16 l).2.1:=by simp[aaw,hb]
 rw[e];refine⟨hg.wf,hg.dp,hg.ok,?_⟩;have:=hg.eq;rw[hb'.2,append_nil]at this;exact this.symm
end Go.yU
namespace Go.bV
open Go Go.Am Go.Proofs Go.eY Go.bH Go.yU
abbrev Sv(n:Int):Prop := -9223372036854775808<=n/\n<9223372036854775808
structure Fw(o:OP):Prop where
 dv:Sv o.dv
 sq:Sv o.sq
 tm:Sv o.tm
 cx:∀d∈o.cx,Sv d.1/\Sv d.2
 pk:Sv o.pk
 kd:Sv o.kd
 f1:Sv o.f1
 f2:Sv o.f2
 f3:Sv o.f3
 t1:Sv o.t1
 t2:Sv o.t2
 t3:Sv o.t3
 n:Sv o.n
end Go.bV
namespace Go.Dc
open Go Go.Am Go.Proofs Go.eY Go.bH
open Go.bV (OP jy Sv Fw)
open Go.Sq (CE)
open Go.Bd (BE)
open Go.Tx (MK)
theorem ayY:Tryz.prog.cellsOf 3=1:=zQ
theorem ays:Tryz.prog.cellsOf 4=1:=zQ
theorem ax8:Tryz.prog.cellsOf 9=1:=zQ
theorem ax9:Tryz.prog.cellsOf 27=2:=zQ
theorem ayt:Tryz.prog.cellsOf 22=1:=zQ
theorem axS:Tryz.prog.cellsOf 29=2:=zQ
theorem zID:Tryz.prog.cellsOf 31=3:=zQ
theorem awW:Tryz.prog.cellsOf 79=9:=zQ
theorem aya:Tryz.prog.cellsOf 60=1:=zQ
theorem awX:Tryz.prog.cellsOf 75=5:=zQ
theorem ayb:Tryz.prog.cellsOf 61=1:=zQ
theorem ayc:Tryz.prog.cellsOf 113=3:=zQ
theorem ayu:Tryz.prog.cellsOf 62=1:=zQ
theorem awY:Tryz.prog.cellsOf 116=11:=zQ
theorem ayd:Tryz.prog.cellsOf 63=1:=zQ
theorem ayv:Tryz.prog.cellsOf 65=2:=zQ
theorem avO:Tryz.prog.cellsOf 67=7:=zQ
theorem axK:Tryz.prog.cellsOf 23=1:=zQ
theorem ayZ:Tryz.prog.cellsOf 25=2:=zQ
noncomputable def NK:zA Tryz.prog 3 Int:=zA.int Tryz.underlying3 ayY
noncomputable def ahE:zA Tryz.prog 9 yP:=zA.str Tryz.underlying9 ax8
noncomputable def alT:zA Tryz.prog 4 Bool:=zA.bool Tryz.underlying4 ays
noncomputable def alU:zA Tryz.prog 27 D:=zA.struct Tryz.underlying27 zQ (oM.cons NK rfl (oM.cons NK zQ oM.nil)) (fun a=>(a.1,a.2.1)) bH.aQ (fun _=>rfl) (fun _=>ax9.symm)
noncomputable def ahF:zA Tryz.prog 22 (List D):=zA.slice Tryz.underlying22 ayt (by rw[ax9];decide) alU
theorem aa0(v:List D):ahF.aQ v=[bB v]:=by
 show[AV.sl (Tryz.prog.cellsOf 27) false (v.map bH.aQ)]=[AV.sl 2 false (v.map bH.aQ)];rw[ax9]
noncomputable def alV:zA Tryz.prog 29 (Int×yP):=zA.struct Tryz.underlying29 zQ (oM.cons NK rfl (oM.cons ahE zQ oM.nil)) (fun a=>(a.1,a.2.1)) (fun a=>[Am.int a.1,Am.str a.2]) (fun _=>rfl) (fun _=>axS.symm)
noncomputable def kID:zA Tryz.prog 31 (Int×Int×Int):=zA.struct Tryz.underlying31 zQ (oM.cons NK rfl (oM.cons NK zQ (oM.cons NK zQ oM.nil))) (fun a=>(a.1,a.2.1,a.2.2.1)) (fun a=>[Am.int a.1,Am.int a.2.1,Am.int a.2.2]) (fun _=>rfl) (fun _=>zID.symm)
abbrev ACl:=(Int×Int×Int)×(Int×Int×Int)×Int×yP×Bool×Unit
noncomputable def axT:zA Tryz.prog 79 CE:=zA.struct Tryz.underlying79 zQ (oM.cons kID rfl (oM.cons kID zQ (oM.cons NK zQ (oM.cons ahE zQ (oM.cons alT zQ oM.nil)))))
 (fun a:ACl=>⟨a.1.1,a.1.2.1,a.1.2.2,a.2.1.1,a.2.1.2.1,a.2.1.2.2,a.2.2.1,a.2.2.2.1,a.2.2.2.2.1⟩) Sq.aQ (fun a:ACl=>rfl) (fun _=>awW.symm)
noncomputable def aq0:zA Tryz.prog 60 (List CE):=zA.slice Tryz.underlying60 aya (by rw[awW];decide) axT
theorem aq1(v:List CE):aq0.aQ v=[Sq.bZ v]:=by
 show[AV.sl (Tryz.prog.cellsOf 79) false (v.map Sq.aQ)]=[AV.sl 9 false (v.map Sq.aQ)];rw[awW]
abbrev ABd:=yP×D×Int×yP×Unit
noncomputable def axU:zA Tryz.prog 75 BE:=zA.struct Tryz.underlying75 zQ (oM.cons ahE rfl (oM.cons alU zQ (oM.cons NK zQ (oM.cons ahE zQ oM.nil))))
 (fun a:ABd=>⟨a.1,a.2.1.1,a.2.1.2,a.2.2.1,a.2.2.2.1⟩) Bd.aQ (fun a:ABd=>rfl) (fun _=>awX.symm)
noncomputable def avP:zA Tryz.prog 61 (List BE):=zA.slice Tryz.underlying61 ayb (by rw[awX];decide) axU
theorem avQ(v:List BE):avP.aQ v=[Bd.iK v]:=by
 show[AV.sl (Tryz.prog.cellsOf 75) false (v.map Bd.aQ)]=[AV.sl 5 false (v.map Bd.aQ)];rw[awX]
noncomputable def ayw:zA Tryz.prog 113 TL:=zA.struct Tryz.underlying113 zQ (oM.cons NK rfl (oM.cons NK zQ (oM.cons NK zQ oM.nil))) (fun a=>(a.1,a.2.1,a.2.2.1)) ze (fun _=>rfl) (fun _=>ayc.symm)
noncomputable def awZ:zA Tryz.prog 62 (List TL):=zA.slice Tryz.underlying62 ayu (by rw[ayc];decide) ayw
theorem awi(v:List TL):awZ.aQ v=[mF v]:=by
 show[AV.sl (Tryz.prog.cellsOf 113) false (v.map ze)]=[AV.sl 3 false (v.map ze)];rw[ayc]
abbrev AMk:=D×Int×(Int×Int×Int)×(Int×Int×Int)×Int×Bool×Unit
noncomputable def axV:zA Tryz.prog 116 MK:=zA.struct Tryz.underlying116 zQ (oM.cons alU rfl (oM.cons NK zQ (oM.cons kID zQ (oM.cons kID zQ (oM.cons NK zQ (oM.cons alT zQ oM.nil))))))
 (fun a:AMk=>⟨a.1.1,a.1.2,a.2.1,a.2.2.1.1,a.2.2.1.2.1,a.2.2.1.2.2,a.2.2.2.1.1,a.2.2.2.1.2.1,a.2.2.2.1.2.2,a.2.2.2.2.1,a.2.2.2.2.2.1⟩) Tx.aQ (fun a:AMk=>rfl) (fun _=>awY.symm)
noncomputable def avR:zA Tryz.prog 63 (List MK):=zA.slice Tryz.underlying63 ayd (by rw[awY];decide) axV
theorem avS(v:List MK):avR.aQ v=[Tx.oI v]:=by
 show[AV.sl (Tryz.prog.cellsOf 116) false (v.map Tx.aQ)]=[AV.sl 11 false (v.map Tx.aQ)];rw[awY]
abbrev ATx:=List CE×List MK×Unit
noncomputable def ayx:zA Tryz.prog 65 (List CE×List MK):=zA.struct Tryz.underlying65 zQ (oM.cons aq0 rfl (oM.cons avR zQ oM.nil)) (fun a:ATx=>(a.1,a.2.1)) (fun t=>[Sq.bZ t.1,Tx.oI t.2]) (fun a:ATx=>by
 show[Sq.bZ a.1,Tx.oI a.2.1]=aq0.aQ a.1++(avR.aQ a.2.1++[]);rw[aq1,avS];rfl) (fun _=>ayv.symm)
abbrev AFd:=(Int×yP)×List CE×List BE×List TL×(List CE×List MK)×Unit
noncomputable def aw0:zA Tryz.prog 67 FD:=zA.struct Tryz.underlying67 zQ (oM.cons alV rfl (oM.cons aq0 zQ (oM.cons avP zQ (oM.cons awZ zQ (oM.cons ayx zQ oM.nil)))))
 (fun a:AFd=>⟨a.1.1,a.1.2,a.2.1,a.2.2.1,a.2.2.2.1,a.2.2.2.2.1.1,a.2.2.2.2.1.2⟩) jB (fun a:AFd=>by
  show jB _=[Am.int a.1.1,Am.str a.1.2]++(aq0.aQ a.2.1++(avP.aQ a.2.2.1++(awZ.aQ a.2.2.2.1++([Sq.bZ a.2.2.2.2.1.1,Tx.oI a.2.2.2.2.1.2]++[]))));rw[aq1,avQ,awi];rfl) (fun _=>avO.symm)
noncomputable def auk:zA Tryz.prog 23 (List FD):=zA.slice Tryz.underlying23 axK (by rw[avO];decide) aw0
theorem avE(v:List FD):auk.aQ v=[Md v]:=by
 show[AV.sl (Tryz.prog.cellsOf 67) false (v.map jB)]=[AV.sl 7 false (v.map jB)];rw[avO]
abbrev ADo:=List D×List FD×Unit
noncomputable def ayy:zA Tryz.prog 25 DO:=zA.struct Tryz.underlying25 zQ (oM.cons ahF rfl (oM.cons auk zQ oM.nil)) (fun a:ADo=>⟨a.1,a.2.1⟩) (fun d=>[bB d.sn,Md d.fs]) (fun a:ADo=>by
 show[bB a.1,Md a.2.1]=ahF.aQ a.1++(auk.aQ a.2.1++[]);rw[aa0,avE];rfl) (fun _=>ayZ.symm)
abbrev pU:Nat:=9223372036854775807
structure ayz(f:FD):Prop where
 pk:Sv f.pk
 pn:f.pn.size<=pU
 lc:f.ce.length<=pU
 rc:∀x∈f.ce,Sq.Cu x/\Sv x.tm/\x.vl.size<=pU
 lb:f.bi.length<=pU
 rb:∀x∈f.bi,(Sv x.dv/\Sv x.sq/\Sv x.tm)/\x.ky.size<=pU/\x.vl.size<=pU
 la:f.ta.length<=pU
 ra:∀x∈f.ta,Sv x.1/\Sv x.2.1/\Sv x.2.2
 lt:f.tc.length<=pU
 rt:∀x∈f.tc,Sq.Cu x/\Sv x.tm/\x.vl.size<=pU
 lm:f.tm.length<=pU
 rm:∀x∈f.tm,Tx.OkM x
structure avT(d:DO):Prop where
 ls:d.sn.length<=pU
 rs:∀x∈d.sn,Sv x.1/\Sv x.2
 lf:d.fs.length<=pU
 rf:∀f∈d.fs,ayz f
theorem aur{i:D}(h:alU.good i):Sv i.1/\Sv i.2:=by
 obtain⟨⟨_,_,_⟩,rfl,f1,f2,_⟩:=h;exact⟨f1,f2⟩
theorem auu{i:Int×Int×Int}(h:kID.good i):Sv i.1/\Sv i.2.1/\Sv i.2.2:=by
 obtain⟨⟨_,_,_,_⟩,rfl,f1,f2,f3,_⟩:=h;exact⟨f1,f2,f3⟩
theorem avF{c:CE}(h:axT.good c):Sq.Cu c/\Sv c.tm/\c.vl.size<=pU:=by
 obtain⟨⟨_,_,_,_,_,_⟩,rfl,f1,f2,f3,f4,_⟩:=h;exact⟨⟨auu f1,auu f2⟩,f3,f4⟩
theorem aw1{b:BE}(h:axU.good b):(Sv b.dv/\Sv b.sq/\Sv b.tm)/\b.ky.size<=pU/\b.vl.size<=pU:=by
 obtain⟨⟨_,_,_,_,_⟩,rfl,f1,f2,f3,f4,_⟩:=h;have h2:=aur f2;exact⟨⟨h2.1,h2.2,f3⟩,f1,f4⟩
theorem axL{t:TL}(h:ayw.good t):Sv t.1/\Sv t.2.1/\Sv t.2.2:=by
 obtain⟨⟨_,_,_,_⟩,rfl,f1,f2,f3,_⟩:=h;exact⟨f1,f2,f3⟩
theorem aw2{m:MK}(h:axV.good m):Tx.OkM m:=by
 obtain⟨⟨_,_,_,_,_,_,_⟩,rfl,f1,f2,f3,f4,f5,_⟩:=h;have h1:=aur f1;have h3:=auu f3;have h4:=auu f4;exact⟨h1.1,h1.2,f2,h3.1,h3.2.1,h3.2.2,h4.1,h4.2.1,h4.2.2,f5⟩
theorem awj{f:FD}(h:aw0.good f):ayz f:=by
 obtain⟨⟨⟨_,_⟩,_,_,_,⟨_,_⟩,_⟩,rfl,⟨⟨_,_,_⟩,ep,p1,p2,_⟩,f2,f3,f4,⟨⟨_,_,_⟩,et,t1,t2,_⟩,_⟩:=h;cases ep;cases et;exact⟨p1,p2,f2.1,fun x hx=>avF (f2.2 x hx),f3.1,fun x hx=>aw1 (f3.2 x hx),f4.1,fun x hx=>axL (f4.2 x hx),t1.1,fun x hx=>avF (t1.2 x hx),t2.1,fun x hx=>aw2 (t2.2 x hx)⟩
theorem axM{d:DO}(h:ayy.good d):avT d:=by
 obtain⟨⟨_,_,_⟩,rfl,f1,f2,_⟩:=h;exact⟨f1.1,fun x hx=>aur (f1.2 x hx),f2.1,fun x hx=>awj (f2.2 x hx)⟩
section
variable {H:Type} {en:TypeId×Value->H} {W:World} {base:Nat} {v:Value} {d:DataW H} {ps:List MemPlace}
theorem awk{α:Type}{t:TypeId}{fs:Array Field}(c:zA Tryz.prog t α)(hu:Tryz.prog.underlying t=some (.struct fs))(hv:Value.okWide Tryz.prog W .any base t v)(h:DataW.Trod en Tryz.prog W 0 (fun _=>true) true t v d ps):∃a,c.good a/\dI (nA W) (.agg (c.aQ a)) v:=by
 have hagg:∃cs,v = .agg cs:=by
  unfold Value.okWide at hv;rw[hu]at hv;exact⟨_,hv.choose_spec.1⟩
 obtain⟨⟨cs⟩,rfl⟩:=hagg;obtain⟨n,hn⟩:=h;have hn':DataW.trod en Tryz.prog W 0 (fun _=>true) true n t cs=some (d,ps):=hn;obtain⟨o,g,hl,hp⟩:=c.rd hn';exact⟨o,g,.agg _ _ hl fun j hj=>.pure _ _ (hp j (by rw[hl];exact hj)).1⟩
theorem awl(hv:Value.okWide Tryz.prog W .any base 25 v)(h:DataW.Trod en Tryz.prog W 0 (fun _=>true) true 25 v d ps):∃x:DO,avT x/\dI (nA W) (kI x) v:=by
 obtain⟨a,h1,h2⟩:=awk ayy Tryz.underlying25 hv h;exact⟨a,axM h1,h2⟩
end
end Go.Dc
namespace Go.Dc
open Go Go.Am Go.Proofs Go.eY Go.bH
open Go.yU (Cy jl u8)
theorem zU8:Tryz.prog.cellsOf 5=1:=zQ
theorem zBs:Tryz.prog.cellsOf 48=1:=zQ
noncomputable def cU8:zA Tryz.prog 5 UInt8 where
 aQ c:=[u8 c]
 good _:=True
 size _:=zU8.symm
 rd h:=by
  obtain⟨n,rfl,_,hw⟩:=DataW.trod_int Tryz.underlying5 h;have hr:0<=n/\n<256:=by
   simp[Lit.wf,IntKind.min,IntKind.max,IntKind.signed,IntKind.bits]at hw;omega
  have e:((UInt8.ofNat n.toNat).toNat:Int)=n:=by
   rw[UInt8.toNat_ofNat'];have:n.toNat % 2^8=n.toNat:=Nat.mod_eq_of_lt zO;omega
  refine⟨UInt8.ofNat n.toNat,yO,rfl,fun j hj=>?_⟩
  match j,hj with
  |0,_ =>
   refine⟨?_,rfl⟩;show dR _ _ (.lit (.int .u8 ((UInt8.ofNat n.toNat).toNat:Int))) (.int .u8 n);rw[e];exact .lit _
noncomputable def aAZ:zA Tryz.prog 48 (List UInt8):=zA.slice Tryz.underlying48 zBs (by rw[zU8];decide) cU8
theorem aAs(l:List UInt8):aAZ.aQ l=[Cy l]:=by
 show[AV.sl (Tryz.prog.cellsOf 5) false (l.map cU8.aQ)]=[AV.sl 1 false (jl l)];rw[zU8];rfl
theorem aAk{H:Type}{aQ:TypeId×Value->H}{W:World}{base:Nat}{v:Value}{d:DataW H}{ps:List MemPlace}(hv:Value.okWide Tryz.prog W .any base 48 v)(h:DataW.Trod aQ Tryz.prog W 0 (fun _=>true) true 48 v d ps):∃l:List UInt8,l.length<=9223372036854775807/\dI (nA W) (Cy l) v:=by
 obtain⟨a,h1,h2⟩:=aAZ.one zQ hv h aAs;exact⟨a,h1.1,h2⟩
end Go.Dc
namespace Go.Tx
open Go Go.Am Go.Proofs Go.eY
open Go.Sq (CE nP bZ oO vM fX U2 kQ jg A8 rU)
def U9(dv sq tm:Int)(k:Nat)(i:Sq.ID)(s:yP):CE:=⟨dv,sq,k,i.1,i.2.1,i.2.2,tm,s.extract k (k+1),false⟩
def TI(dv sq tm:Int)(s:yP):Nat->Nat->Sq.ID->List CE->List CE×Int
 |0,_,_,l=>(l,0)
 |n+1,k,i,l=>if A8 l (U9 dv sq tm k i s)≠0 then([],A8 l (U9 dv sq tm k i s))else TI dv sq tm s n (k+1) (dv,sq,(k:Int)) (rU l (U9 dv sq tm k i s))
def zT:TE:=⟨[],[]⟩
def Ve(t:TE)(dv sq tm:Int)(i:Sq.ID)(s:yP):TE×Int :=
 if vC t≠0 then(zT,vC t)else if s.size<1\/s.size>64 then(zT,160)else
  if(TI dv sq tm s s.size 0 i t.cells).2=0 then(⟨(TI dv sq tm s s.size 0 i t.cells).1,t.bQ⟩,0)else(zT,(TI dv sq tm s s.size 0 i t.cells).2)
def zC:ah:=.box [aK,aK]
def Ml(t:TE)(dv sq tm a b c:Int)(s:yP)(l:List CE)(k:Nat):St:={ aL:=aC 69 [(2,int tm),(4,str s),(5,.ptr 0 0),(6,.ptr 1 0),(8,.ptr 2 0),(10,.ptr 3 0),(13,bZ l),(34,int s.size),(35,int k)],H:=[.box [bZ t.cells,oI t.bQ],.box [int dv,int sq],.box [int a,int b,int c],zC] }
def tyO(t:TE)(l:List CE):St:={ aL:=aC 69 [(5,.ptr 0 0),(10,.ptr 3 0),(13,bZ l)],H:=[.box [bZ t.cells,oI t.bQ],.aH,.aH,zC] }
def tyX(e:Int):St:={ aL:=aC 69 [(10,.ptr 3 0),(11,int e)],H:=[.aH,.aH,.aH,zC] }
theorem amP(t:TE)(dv sq tm a b c:Int)(s:yP)(l:List CE)(k:Nat)(hk:¬(k:Int)<(s.size:Int))(h:True):bN P G none 0 (vg P 369 0) (Ml t dv sq tm a b c s l k) (bF.exit 0) (tyO t l):=by
 have _:=h;exact bN.to (bN.qm ((show bN P G none 0 (vg P 369 0) (Ml t dv sq tm a b c s l k) (bF.exit 0) (St.mk (aC 69 [(5,AV.ptr 0 0),(10,AV.ptr 3 0),(13,AV.sl 9 false (Sq.au l))]) [ah.box [AV.sl 9 false (Sq.au (TE.cells t)),AV.sl 11 false (au (TE.bQ t))],ah.box [int dv,int sq],ah.box [int a,int b,int c],ah.box [aK,aK]] [])from aG [kf (show decide ((↑k:Int)<(↑(ByteArray.size s):Int))=false from(decide_eq_false zO))] (aB 69 [5,10,13]) 4 zQ)) (by exact⟨.inl rfl,.inr yO,.inr yO,.inl rfl,yO⟩)) rfl (eB.aC ⟨rfl,aF.refl _,rfl,aF.refl _,rfl,aF.refl _,yO⟩)
theorem amQ(t:TE)(dv sq tm a b c:Int)(s:yP)(l:List CE)(k:Nat)(e:Int)(he:e≠0)(hk:(k:Int)<(s.size:Int))(hs:s.size<=64)(hi:ak P G 355 [bZ l,.agg [int dv,int sq,int k,int a,int b,int c,int tm,str (s.extract k (k+1)),bool false]] [] (.ret (.bq [bZ [],int e])) [])(h:True):bN P G none 0 (vg P 369 0) (Ml t dv sq tm a b c s l k) bF.ret (tyX e):=by
 have _:=h;exact bN.to (bN.qm ((show bN P G none 0 (vg P 369 0) (Ml t dv sq tm a b c s l k) bF.ret (St.mk (aC 69 [(10,AV.ptr 3 0),(11,int e)]) [ah.box [AV.sl 9 false (Sq.au (TE.cells t)),AV.sl 11 false (au (TE.bQ t))],ah.box [int dv,int sq],ah.box [int a,int b,int c],ah.box [aK,aK]] [])from aG [kt (show decide ((↑k:Int)<(↑(ByteArray.size s):Int))=true from(decide_eq_true zO)),kv 49 (show Am.aF (int (IntKind.wrap IntKind.i64 ((↑k:Int)+1))) (int (↑(k+1):Int))from(aF.TJ zO zO zO)),kp (show(0:Int)<=(↑k:Int)/\(↑k:Int)<=(↑(k+1):Int)/\(↑(k+1):Int)<=(↑(ByteArray.size s):Int)from zO),kc [] (@hi ),kt (show(e != 0)=true from(yJ Bool.not (decide_eq_false zO)))] (aB 69 [10,11]) 4 zQ)) (by exact⟨.inr yO,.inr yO,.inr yO,.inl rfl,yO⟩)) rfl (eB.aC ⟨rfl,aF.refl _,rfl,aF.refl _,yO⟩)
theorem aji(t:TE)(dv sq tm a b c:Int)(s:yP)(l r:List CE)(k:Nat)(hk:(k:Int)<(s.size:Int))(hs:s.size<=64)(hi:ak P G 355 [bZ l,.agg [int dv,int sq,int k,int a,int b,int c,int tm,str (s.extract k (k+1)),bool false]] [] (.ret (.bq [bZ r,int 0])) [])(ex:bF)(st:St)(h:bN P G none 0 (vg P 369 0) (St.mk (aC 69 [(2,int tm),(4,str s),(5,AV.ptr 0 0),(6,AV.ptr 1 0),(8,AV.ptr 2 0),(10,AV.ptr 3 0),(13,AV.sl 9 false (Sq.au r)),(34,int (↑(ByteArray.size s):Int)),(35,int (↑(k+1):Int))]) [ah.box [AV.sl 9 false (Sq.au (TE.cells t)),AV.sl 11 false (au (TE.bQ t))],ah.box [int dv,int sq],ah.box [int dv,int sq,int (↑k:Int)],ah.box [aK,aK]] []) ex st):bN P G none 0 (vg P 369 0) (Ml t dv sq tm a b c s l k) ex st:=by
 have fT:Am.aF (int (IntKind.wrap IntKind.i64 ((↑k:Int)+1))) (int (↑(k+1):Int)):=(aF.TJ zO zO zO);exact aJ [kt (show decide ((↑k:Int)<(↑(ByteArray.size s):Int))=true from(decide_eq_true zO)),kv 49 fT,kp (show(0:Int)<=(↑k:Int)/\(↑k:Int)<=(↑(k+1):Int)/\(↑(k+1):Int)<=(↑(ByteArray.size s):Int)from zO),kc [] (@hi ),kf (Eq.refl false),kv 64 fT] (aB 69 [2,4,5,6,8,10,13,34,35]) 4 h zQ
theorem afC(t:TE)(dv sq tm a b c:Int)(s:yP)(e:Int)(he:e≠0)(hc:ak P G 163 [mG t] [] (.ret (int e)) [])(h:True):ak P G 369 [mG t,Q9 dv sq,int tm,oO a b c,str s] [] (aS.ret (AV.bq [mG zT,int e])) []:=by
 have _:=h;exact ak.out ((show ak P G 369 [mG t,Q9 dv sq,int tm,oO a b c,str s] [] (aS.ret (AV.bq [AV.agg [aK,aK],int e])) []from aj [kc [] (@hc ),kt (show(e != 0)=true from(yJ Bool.not (decide_eq_false zO)))] zQ)) (aF.iM ⟨(aF.qo ⟨(aF.nil _),(aF.nil _),yO⟩),aF.refl _,yO⟩)
theorem afD(t:TE)(dv sq tm a b c:Int)(s:yP)(hs:s.size<1\/s.size>64)(hc:ak P G 163 [mG t] [] (.ret (int 0)) [])(h:((((↑(ByteArray.size s):Int)<(1:Int))->True)/\((¬(↑(ByteArray.size s):Int)<(1:Int))->True))):ak P G 369 [mG t,Q9 dv sq,int tm,oO a b c,str s] [] (aS.ret (AV.bq [mG zT,int 160])) []:=by
 have bS:=(@hc );by_cases c1:((↑(ByteArray.size s):Int)<(1:Int))
 .have h:=h.1 c1;have _:=h;exact ak.out ((show ak P G 369 [mG t,Q9 dv sq,int tm,oO a b c,str s] [] (aS.ret (AV.bq [AV.agg [aK,aK],int 160])) []from aj [kc [] bS,kf (Eq.refl false),kt (decide_eq_true c1),kt (Eq.refl true)] zQ)) (aF.iM ⟨(aF.qo ⟨(aF.nil _),(aF.nil _),yO⟩),aF.refl _,yO⟩)
 .have h:=h.2 c1;have _:=h;exact ak.out ((show ak P G 369 [mG t,Q9 dv sq,int tm,oO a b c,str s] [] (aS.ret (AV.bq [AV.agg [aK,aK],int 160])) []from aj [kc [] bS,kf (Eq.refl false),kf (decide_eq_false c1),kt (show decide ((↑(ByteArray.size s):Int)>(64:Int))=true from(decide_eq_true zO))] zQ)) (aF.iM ⟨(aF.qo ⟨(aF.nil _),(aF.nil _),yO⟩),aF.refl _,yO⟩)
theorem afE(t:TE)(dv sq tm a b c:Int)(s:yP)(e:Int)(h1:1<=s.size)(hs:s.size<=64)(hc:ak P G 163 [mG t] [] (.ret (int 0)) [])(hL:bN P G none 0 (vg P 369 0) (Ml t dv sq tm a b c s t.cells 0) .ret (tyX e))(h:True):ak P G 369 [mG t,Q9 dv sq,int tm,oO a b c,str s] [] (aS.ret (AV.bq [mG zT,int e])) []:=by
 have _:=h;exact ak.out ((show ak P G 369 [mG t,Q9 dv sq,int tm,oO a b c,str s] [] (aS.ret (AV.bq [AV.agg [aK,aK],int e])) []from aj [kc [] (@hc ),kf (Eq.refl false),kf (show decide ((↑(ByteArray.size s):Int)<(1:Int))=false from(decide_eq_false zO)),kf (show decide ((↑(ByteArray.size s):Int)>(64:Int))=false from(decide_eq_false zO)),kl [0,1,3,7,9,11,12,14,15,16,17,18,19,20,21,22,23,24,25,26,27,28,29,30,31,32,33,36,37,38,39,40,41,42,43,44,45,46,47,48,49,50,51,52,53,54,55,56,57,58,59,60,61,62,63,64,65,66,67,68] 4 (@hL )] zQ)) (aF.iM ⟨(aF.qo ⟨(aF.nil _),(aF.nil _),yO⟩),aF.refl _,yO⟩)
theorem afF(t:TE)(dv sq tm a b c:Int)(s:yP)(l:List CE)(h1:1<=s.size)(hs:s.size<=64)(hc:ak P G 163 [mG t] [] (.ret (int 0)) [])(hL:bN P G none 0 (vg P 369 0) (Ml t dv sq tm a b c s t.cells 0) (.exit 0) (tyO t l))(h:True):ak P G 369 [mG t,Q9 dv sq,int tm,oO a b c,str s] [] (aS.ret (AV.bq [AV.agg [bZ l,oI (TE.bQ t)],int 0])) []:=by
 have _:=h;exact aj [kc [] (@hc ),kf (Eq.refl false),kf (show decide ((↑(ByteArray.size s):Int)<(1:Int))=false from(decide_eq_false zO)),kf (show decide ((↑(ByteArray.size s):Int)>(64:Int))=false from(decide_eq_false zO)),kl [0,1,3,7,9,11,12,14,15,16,17,18,19,20,21,22,23,24,25,26,27,28,29,30,31,32,33,36,37,38,39,40,41,42,43,44,45,46,47,48,49,50,51,52,53,54,55,56,57,58,59,60,61,62,63,64,65,66,67,68] 4 (@hL )] zQ
end Go.Tx
namespace Go.Tx
open Go Go.Am Go.Proofs Go.eY
open Go.Sq (CE nP bZ oO vM fX U2 kQ jg mY)
abbrev wr(c:Int)(k:Nat):Int:=IntKind.wrap IntKind.i64 (c+(k:Int))
def vY(a b c:Int):Nat->Nat->List CE->Option (List CE)
 |0,_,l=>some l
 |n+1,k,l=>match fX (vM a b (wr c k)) l with
  |some j=>vY a b c n (k+1) (mY l j)
  |none=>none
def Vg(t:TE)(i:Sq.ID)(n:Int):TE×Int :=
 if vC t≠0 then(zT,vC t)else if n<1\/n>64 then(zT,160)else match vY i.1 i.2.1 i.2.2 n.toNat 0 t.cells with
  |some l=>(⟨l,t.bQ⟩,0)
  |none=>(zT,160)
theorem Vh(l:List CE)(n:Nat)(x:CE):List.set (Sq.au l) n [int x.dv,int x.sq,int x.gU,int x.ad,int x.j6,int x.aa,int x.tm,str x.vl,bool true]=Sq.au (l.set n { x with gn:=true }):=Sq.CW l n { x with gn:=true }
def cuB(t:TE)(a b c:Int)(l:List CE):List ah:=[.box [bZ t.cells,oI t.bQ],.box [int a,int b,int c],zC,.aN 0 9 false (Sq.au l)]
def cuS(t:TE)(a b c:Int)(n:Int)(m:Nat)(l:List CE)(k:Nat):St:={ aL:=aC 59 [(3,.ptr 0 0),(4,.ptr 1 0),(6,.ptr 2 0),(9,.aU 3 0 0 m),(29,int n),(30,int k)],H:=cuB t a b c l }
def cuO(t:TE)(a b c:Int)(m:Nat)(l:List CE):St:={ aL:=aC 59 [(3,.ptr 0 0),(6,.ptr 2 0),(9,.aU 3 0 0 m)],H:=cuB t a b c l }
def cuX:St:={ aL:=aC 59 [(6,.ptr 2 0),(7,int 160)],H:=[.aH,.aH,zC,.aH] }
theorem amR(t:TE)(a b c n:Int)(m:Nat)(l:List CE)(k:Nat)(hk:¬(k:Int)<n)(h:True):bN P G none 0 (vg P 372 0) (cuS t a b c n m l k) (bF.exit 0) (cuO t a b c m l):=by
 have _:=h;exact aG [kf (show decide ((↑k:Int)<n)=false from(decide_eq_false zO))] (aB 59 [3,6,9]) 4 zQ
theorem amS(t:TE)(a b c n:Int)(m:Nat)(l:List CE)(k:Nat)(hk:(k:Int)<n)(hn:n<=64)(hm:l.length=m)(f:Int)(hf:ak P G 34 [bZ l,oO a b (IntKind.wrap IntKind.i64 (c+(k:Int)))] [] (.ret (.bq [int f,bool false])) [])(h:True):bN P G none 0 (vg P 372 0) (cuS t a b c n m l k) bF.ret cuX:=by
 have _:=h;exact bN.to (bN.qm ((show bN P G none 0 (vg P 372 0) (cuS t a b c n m l k) bF.ret (St.mk (aC 59 [(6,AV.ptr 2 0),(7,int 160)]) [ah.box [AV.sl 9 false (Sq.au (TE.cells t)),AV.sl 11 false (au (TE.bQ t))],ah.box [int a,int b,int c],ah.box [aK,aK],ah.aN 0 9 false (Sq.au l)] [])from aG [kt (show decide ((↑k:Int)<n)=true from(decide_eq_true zO)),ko (bC.pure [Sq.au l] (AV.bq [int f,Am.bool false])),kp (@hf ),kp (show 0=0 from(rfl)),kp (show List.take m (List.drop 0 (Sq.au l))=Sq.au l from(by rw[drop_zero,take_of_length_le (by simp only[yD,yE,length_nil,length_map,Go.Sq.ay,Go.Sq.bJ,Go.Sq.bK,Go.Sq.dW]<;>omega)])),kp (show length (Sq.au l)=m from(by simp only[yD,yE,length_nil,length_map,Go.Sq.ay,Go.Sq.bJ,Go.Sq.bK,Go.Sq.dW]<;>omega)),kp (show ∀(c:List AV),c∈Sq.au l->List.all c AV.fJ=true from(Go.Sq.bK _)),kt (Eq.refl true)] (aB 59 [6,7]) 4 zQ)) (by exact⟨.inr yO,.inr yO,.inl rfl,.inr yO,yO⟩)) rfl (eB.aC ⟨rfl,aF.refl _,rfl,aF.refl _,yO⟩)
theorem ajj(t:TE)(a b c n:Int)(m:Nat)(l:List CE)(k j:Nat)(x:CE)(hk:(k:Int)<n)(hn:n<=64)(hm:l.length=m)(hx:l[j]?=some x)(hj:j<m)(hv:m<=1000000)(hf:ak P G 34 [bZ l,oO a b (IntKind.wrap IntKind.i64 (c+(k:Int)))] [] (.ret (.bq [int j,bool true])) [])(ex:bF)(st:St)(h:bN P G none 0 (vg P 372 0) (St.mk (aC 59 [(3,AV.ptr 0 0),(4,AV.ptr 1 0),(6,AV.ptr 2 0),(9,AV.aU 3 0 0 m),(29,int n),(30,int (↑(k+1):Int))]) [ah.box [AV.sl 9 false (Sq.au (TE.cells t)),AV.sl 11 false (au (TE.bQ t))],ah.box [int a,int b,int c],ah.box [aK,aK],ah.aN 0 9 false (Sq.au (List.set l j (CE.mk (CE.dv x) (CE.sq x) (CE.gU x) (CE.ad x) (CE.j6 x) (CE.aa x) (CE.tm x) (CE.vl x) true)))] []) ex st):bN P G none 0 (vg P 372 0) (cuS t a b c n m l k) ex st:=by
 have jw:0=0:=(rfl);exact aJ [kt (show decide ((↑k:Int)<n)=true from(decide_eq_true zO)),ko (bC.pure [Sq.au l] (AV.bq [int (↑j:Int),Am.bool true])),kp (@hf ),kp jw,kp (show List.take m (List.drop 0 (Sq.au l))=Sq.au l from(by rw[drop_zero,take_of_length_le (by simp only[yD,yE,length_nil,length_map,Go.Sq.ay,Go.Sq.bJ,Go.Sq.bK,Go.Sq.dW]<;>omega)])),kp (show length (Sq.au l)=m from(by simp only[yD,yE,length_nil,length_map,Go.Sq.ay,Go.Sq.bJ,Go.Sq.bK,Go.Sq.dW]<;>omega)),kp (show ∀(c:List AV),c∈Sq.au l->List.all c AV.fJ=true from(Go.Sq.bK _)),kf (Eq.refl false),kv 52 (show Am.aF (AV.jC 3 0 (0+Int.toNat (↑j:Int)) 0) (AV.jC 3 0 j 0)from(aF.of_eq (by simp only[Int.toNat_natCast,Nat.zero_add]))),ko (bC.elem (Sq.aQ x)),ko (bC.hp none (AV.lit undef) [ah.box [AV.sl 9 false (Sq.au (TE.cells t)),AV.sl 11 false (au (TE.bQ t))],ah.box [int a,int b,int c],ah.box [aK,aK],ah.aN 0 9 false (Sq.au (List.set l j (CE.mk (CE.dv x) (CE.sq x) (CE.gU x) (CE.ad x) (CE.j6 x) (CE.aa x) (CE.tm x) (CE.vl x) true)))]),kp jw,kp (show(0:Int)<=(↑j:Int)/\(↑j:Int)<(↑m:Int)from zO),kp jw,kp (show Am.aF (AV.lit undef) (AV.lit undef)from(aF.refl _)),kp (show Am.HSub [ah.box [AV.sl 9 false (Sq.au (TE.cells t)),AV.sl 11 false (au (TE.bQ t))],ah.box [int a,int b,int c],ah.box [aK,aK],ah.aN 0 9 false (List.set (Sq.au l) j [int (CE.dv x),int (CE.sq x),int (CE.gU x),int (CE.ad x),int (CE.j6 x),int (CE.aa x),int (CE.tm x),str (CE.vl x),Am.bool true])] [ah.box [AV.sl 9 false (Sq.au (TE.cells t)),AV.sl 11 false (au (TE.bQ t))],ah.box [int a,int b,int c],ah.box [aK,aK],ah.aN 0 9 false (Sq.au (List.set l j (CE.mk (CE.dv x) (CE.sq x) (CE.gU x) (CE.ad x) (CE.j6 x) (CE.aa x) (CE.tm x) (CE.vl x) true)))]from(⟨.inl rfl,.inl rfl,.inl rfl,.inl (by simp only[Int.toNat_natCast,Go.Tx.Vh]),yO⟩)),kp jw,kp (show(Sq.au l)[j]?=some (Sq.aQ x)from(iN hx)),kv 54 (show Am.aF (int (IntKind.wrap IntKind.i64 ((↑k:Int)+1))) (int (↑(k+1):Int))from(aF.TJ zO zO zO))] (aB 59 [3,4,6,9,29,30]) 4 h zQ
def cuZ(t:TE)(a b c:Int)(n:Int)(y:AV):St:={ aL:=aC 59 [(3,.ptr 0 0),(4,.ptr 1 0),(6,.ptr 2 0),(9,y),(29,int n),(30,int 0)],H:=[.box [bZ t.cells,oI t.bQ],.box [int a,int b,int c],zC] }
def cuY:St:={ aL:=aC 59 [(6,.ptr 2 0),(7,int 160)],H:=[.aH,.aH,zC] }
theorem amT(t:TE)(a b c n:Int)(hk:(0:Int)<n)(hn:n<=64)(f:Int)(hf:ak P G 34 [bZ [],oO a b (IntKind.wrap IntKind.i64 (c+0))] [] (.ret (.bq [int f,bool false])) [])(h:True):bN P G none 0 (vg P 372 0) (cuZ t a b c n (bZ [])) bF.ret cuY:=by
 have _:=h;exact bN.to (bN.qm ((show bN P G none 0 (vg P 372 0) (cuZ t a b c n (bZ [])) bF.ret (St.mk (aC 59 [(6,AV.ptr 2 0),(7,int 160)]) [ah.box [AV.sl 9 false (Sq.au (TE.cells t)),AV.sl 11 false (au (TE.bQ t))],ah.box [int a,int b,int c],ah.box [aK,aK]] [])from aG [kt (show decide ((0:Int)<n)=true from(decide_eq_true zO)),kc [] (@hf ),kt (Eq.refl true)] (aB 59 [6,7]) 3 zQ)) (by exact⟨.inr yO,.inr yO,.inl rfl,yO⟩)) rfl (eB.aC ⟨rfl,aF.refl _,rfl,aF.refl _,yO⟩)
theorem ajk(t:TE)(a b c n:Int)(e:Int)(he:e≠0)(hc:ak P G 163 [mG t] [] (.ret (int e)) [])(h:True):ak P G 372 [mG t,oO a b c,int n] [] (aS.ret (AV.bq [mG zT,int e])) []:=by
 have _:=h;exact ak.out ((show ak P G 372 [mG t,oO a b c,int n] [] (aS.ret (AV.bq [AV.agg [aK,aK],int e])) []from aj [kc [] (@hc ),kt (show(e != 0)=true from(yJ Bool.not (decide_eq_false zO)))] zQ)) (aF.iM ⟨(aF.qo ⟨(aF.nil _),(aF.nil _),yO⟩),aF.refl _,yO⟩)
theorem ajl(t:TE)(a b c n:Int)(hn:n<1\/n>64)(hc:ak P G 163 [mG t] [] (.ret (int 0)) [])(h:(((n<(1:Int))->True)/\((¬n<(1:Int))->True))):ak P G 372 [mG t,oO a b c,int n] [] (aS.ret (AV.bq [mG zT,int 160])) []:=by
 have bS:=(@hc );by_cases c1:(n<(1:Int))
 .have h:=h.1 c1;have _:=h;exact ak.out ((show ak P G 372 [mG t,oO a b c,int n] [] (aS.ret (AV.bq [AV.agg [aK,aK],int 160])) []from aj [kc [] bS,kf (Eq.refl false),kt (decide_eq_true c1),kt (Eq.refl true)] zQ)) (aF.iM ⟨(aF.qo ⟨(aF.nil _),(aF.nil _),yO⟩),aF.refl _,yO⟩)
 .have h:=h.2 c1;have _:=h;exact ak.out ((show ak P G 372 [mG t,oO a b c,int n] [] (aS.ret (AV.bq [AV.agg [aK,aK],int 160])) []from aj [kc [] bS,kf (Eq.refl false),kf (decide_eq_false c1),kt (show decide (n>(64:Int))=true from(decide_eq_true zO))] zQ)) (aF.iM ⟨(aF.qo ⟨(aF.nil _),(aF.nil _),yO⟩),aF.refl _,yO⟩)
theorem ajm(t:TE)(a b c n:Int)(h1:1<=n)(hn:n<=64)(hc:ak P G 163 [mG t] [] (.ret (int 0)) [])(lG:ak P G 116 [bZ t.cells] [] (.ret (bZ [])) [])(hL:bN P G none 0 (vg P 372 0) (cuZ t a b c n (bZ [])) .ret cuY)(h:True):ak P G 372 [mG t,oO a b c,int n] [] (aS.ret (AV.bq [mG zT,int 160])) []:=by
 have _:=h;exact ak.out ((show ak P G 372 [mG t,oO a b c,int n] [] (aS.ret (AV.bq [AV.agg [aK,aK],int 160])) []from aj [kc [] (@hc ),kf (Eq.refl false),kf (show decide (n<(1:Int))=false from(decide_eq_false zO)),kf (show decide (n>(64:Int))=false from(decide_eq_false zO)),kc [] (@lG ),kl [0,1,2,5,7,8,10,11,12,13,14,15,16,17,18,19,20,21,22,23,24,25,26,27,28,31,32,33,34,35,36,37,38,39,40,41,42,43,44,45,46,47,48,49,50,51,52,53,54,55,56,57,58] 3 (@hL )] zQ)) (aF.iM ⟨(aF.qo ⟨(aF.nil _),(aF.nil _),yO⟩),aF.refl _,yO⟩)
theorem ajn(t:TE)(a b c n:Int)(h1:1<=n)(hn:n<=64)(hc:ak P G 163 [mG t] [] (.ret (int 0)) [])(lG:ak P G 116 [bZ t.cells] [] (.ret (.aU 0 0 0 t.cells.length)) [.aN 0 9 false (Sq.au t.cells)])(hL:bN P G none 0 (vg P 372 0) (cuS t a b c n t.cells.length t.cells 0) .ret cuX)(h:((∀(x:List AV),x∈Sq.au (TE.cells t)->AV.aM [] x=true)/\True)):ak P G 372 [mG t,oO a b c,int n] [] (aS.ret (AV.bq [mG zT,int 160])) []:=by
 obtain⟨o3,h⟩:=h;have _:=h;exact ak.out ((show ak P G 372 [mG t,oO a b c,int n] [] (aS.ret (AV.bq [AV.agg [aK,aK],int 160])) []from aj [kc [] (@hc ),kf (Eq.refl false),kf (show decide (n<(1:Int))=false from(decide_eq_false zO)),kf (show decide (n>(64:Int))=false from(decide_eq_false zO)),kc [] (@lG ),kp o3,kl [0,1,2,5,7,8,10,11,12,13,14,15,16,17,18,19,20,21,22,23,24,25,26,27,28,31,32,33,34,35,36,37,38,39,40,41,42,43,44,45,46,47,48,49,50,51,52,53,54,55,56,57,58] 4 (@hL )] zQ)) (aF.iM ⟨(aF.qo ⟨(aF.nil _),(aF.nil _),yO⟩),aF.refl _,yO⟩)
theorem ajo(t:TE)(a b c n:Int)(l:List CE)(h1:1<=n)(hn:n<=64)(hl:l.length=t.cells.length)(hc:ak P G 163 [mG t] [] (.ret (int 0)) [])(lG:ak P G 116 [bZ t.cells] [] (.ret (.aU 0 0 0 t.cells.length)) [.aN 0 9 false (Sq.au t.cells)])(hL:bN P G none 0 (vg P 372 0) (cuS t a b c n t.cells.length t.cells 0) (.exit 0) (cuO t a b c t.cells.length l))(h:True):ak P G 372 [mG t,oO a b c,int n] [] (aS.ret (AV.bq [AV.agg [bZ l,oI (TE.bQ t)],int 0])) []:=by
 have _:=h;exact aj [kc [] (@hc ),kf (Eq.refl false),kf (show decide (n<(1:Int))=false from(decide_eq_false zO)),kf (show decide (n>(64:Int))=false from(decide_eq_false zO)),kc [] (@lG ),kp (show ∀(x:List AV),x∈Sq.au (TE.cells t)->AV.aM [] x=true from(Go.Sq.bJ _)),kl [0,1,2,5,7,8,10,11,12,13,14,15,16,17,18,19,20,21,22,23,24,25,26,27,28,31,32,33,34,35,36,37,38,39,40,41,42,43,44,45,46,47,48,49,50,51,52,53,54,55,56,57,58] 4 (@hL ),ko (bC.Gu (Sq.au l)),kp (show 0=0 from(rfl)),kp (show List.take (length (TE.cells t)) (List.drop 0 (Sq.au l))=Sq.au l from(by rw[drop_zero,take_of_length_le (by simp only[yD,yE,length_nil,length_map,Go.Sq.ay,Go.Sq.bK,Go.Sq.bJ,Go.Sq.dW]<;>omega)])),kp (show length (Sq.au l)=length (TE.cells t)from(by simp only[yD,yE,length_nil,length_map,Go.Sq.ay,Go.Sq.bK,Go.Sq.bJ,Go.Sq.dW]<;>omega)),kp (show ∀(c:List AV),c∈Sq.au l->List.all c AV.fJ=true from(Go.Sq.bK _))] zQ
end Go.Tx
namespace Go.Tx
open Go Go.Am Go.Proofs Go.eY Go.Lib Go.OC
set_option maxHeartbeats 4000000 in
theorem pz:OC.X8 385 11:=by
 intro b n c i vb vo vc cs vs w hi gY Me TF lG Cv jQ Q7 Qz Ev Gy Gz tA tB kA kB OD NS QA Q8;have iZ:(Tryz.prog.info? 116).map (·.size)=some 11:=zQ
 have hov:∀lb cb o,(callFunc 392 #[.slice (some ⟨vb,vo,none⟩) 1 vc,.slice (some ⟨b,o,none⟩) lb cb]).run Tryz.prog w = .ok (.value (.bool false)) w:=fun lb cb o=>by
  rw[run_callFunc_extern Tryz.func392 zQ zQ zQ (e:=Extern.SlicesOverlaps.overlaps #[63,63] #[4]) zQ,
   lX w 63 4 116 Tryz.underlying63 11 Tryz.sizeOf116 ⟨vb,vo,none⟩ ⟨b,o,none⟩ 1 vc lb cb TF tA tB kA kB OD NS QA Q8 Qz rfl]
  rfl
 have mixed:Tryz.prog.follows .mixedOrders=true:=zQ
 obtain⟨jw,OE,hw2,Mf,vN,X9,XB,Ya,hb4,W1,KF,J2,Mh⟩:=Mi (vc:=vc) (tS:=63) (tE:=116) (z:=11) zD Tryz.underlying63 iZ hi gY Me TF lG Cv jQ Q7 Qz Ev Gy Gz OD NS QA Q8
 go_enter Tryz.func385,Tryz.ntmps385
 go_wp2_with (simp only[hov])
 go_region_law_o (refine step_copy_runI rfl _ _ 63 63 rfl _ _ (by simp[Act.eval,Act.put]) (by simp[Act.eval,Act.put]) (J2 _ _ _) ?_)
 go_wp2_with (at_builtin;refine wpList_copy_runI _ rfl _ _ 63 63 rfl _ _ rfl rfl (Mh _ (fun _=>rfl) (fun _=>rfl) _ _) ?_)
 go_ret
 first|exact⟨rfl,rfl⟩|exact⟨rfl,by rw[KF]⟩
abbrev zB:Value:=.agg #[.int .i64 0,.int .i64 0,.int .i64 0,.int .i64 0,.int .i64 0,.int .i64 0,.int .i64 0,.int .i64 0,.int .i64 0,.int .i64 0,.bool false]
set_option maxHeartbeats 4000000 in
theorem sU:OC.Yb 385 11 116 88 zB:=by
 intro b n c i vb vo vc cs vs w hi hnc gY Ia lG Cv jQ Ev Gy Gz;have iZ:(Tryz.prog.info? 116).map (·.size)=some 11:=zQ
 have mixed:Tryz.prog.follows .mixedOrders=true:=zQ
 obtain⟨G,oJ,hG,yg,jw,x9,hGi,Yc,hci,OE,Mf,vN,X9,Ya,hGn,Yd,Xf,Mj,ED⟩:=TG (vc:=vc) (tS:=63) (tE:=116) (z:=11) (B:=88) (zB:=zB) zD zD Tryz.underlying63 iZ zQ rfl hi hnc gY Ia lG Cv jQ Ev Gy Gz;rw[<- hG,<- yg];have hE1:∀x,((w.alloc (.cells oJ 116)).drew).cell? x=(w.drew.alloc (.cells oJ 116)).cell? x:=fun x=>rfl;have hE2:∀x,((w.alloc (.cells oJ 116)).drew).frozen? x=(w.drew.alloc (.cells oJ 116)).frozen? x:=fun x=>rfl;have Ko:∀x,(((w.alloc (.cells oJ 116)).drew.setCells w.heap.size (i*11) vs).drew).cell? x=((w.drew.alloc (.cells oJ 116)).setCells w.heap.size (i*11) vs).cell? x:=fun x=>rfl;have hF2:∀x,(((w.alloc (.cells oJ 116)).drew.setCells w.heap.size (i*11) vs).drew).frozen? x=((w.drew.alloc (.cells oJ 116)).setCells w.heap.size (i*11) vs).frozen? x:=fun x=>rfl;clear yg hG
 go_enter Tryz.func385,Tryz.ntmps385
 go_wp2_with (first
  |(at_builtin;refine Lib.wpList_append_run _ rfl _ _ _ _ rfl _ _ rfl rfl _ _ (Xf _) ?_)
  |(at_builtin;refine wpList_copy_runI _ rfl _ _ 63 63 rfl _ _ rfl rfl (Mj _ hE1 hE2 _ _) ?_)
  |(at_builtin;refine wpList_copy_runI _ rfl _ _ 63 63 rfl _ _ rfl rfl (ED _ (fun _=>rfl) (fun _=>rfl) _ _ _) ?_))
 go_region_law_o (refine step_copy_runI rfl _ _ 63 63 rfl (.slice (some ⟨w.heap.size,(i+1)*11,none⟩) (n-i) (G-(i+1))) (.slice (some ⟨b,i*11,none⟩) (n-i) (c-i)) (by simp[Act.eval,Act.put]) (by simp[Act.eval,Act.put]) (ED _ Ko hF2 3 (G-(i+1)) (c-i)) ?_)
 go_wp2
 go_ret
 exact⟨rfl,rfl⟩
end Go.Tx
namespace Go.Tx
open Go Go.Am Go.Proofs Go.eY Go.Lib
theorem Ra(x w:List MK)(b:MK)(i:Nat)(hi:i<x.length)(hx:x.length<=1000000000):ak P G 385 [.aU 0 0 0 x.length,int i,.sl 11 true [aQ b]] [.aN 0 11 false (au (x++w))] (.ret (oI (x.take i++[b]++x.drop i))) [.aH]:=by
 have e:(au x).take i++[aQ b]++(au x).drop i=au (x.take i++[b]++x.drop i):=by simp[au]
 have h:=OC.uL (F:=385) (z:=11) (tE:=116) (B:=88) (zB:=zB) zD zD rfl pz sU (au x) (au w) (aQ b) 0 i rfl (by rw[ay];exact hi) (by rw[ay];exact hx);rw[e,ay,gy]at h;exact((ak.qp (xs:=[.aU 0 0 0 x.length,int i,.sl 11 true [aQ b]]) h ⟨aF.refl _,aF.refl _,aF.oP _ _ _,yO⟩).Mq (z:=au (x.take i++[b]++x.drop i)) rfl ⟨rfl,take_of_length_le yM,rfl,bK _,yO⟩).pY ⟨.inr yO,yO⟩
end Go.Tx
