import Derived.Test.YtihbnnkcemjflaaGreatDoorH6
set_option maxRecDepth 100000
set_option linter.unusedSimpArgs false
set_option linter.unusedVariables false
open List
noncomputable section
namespace Go.Tx
open Go Go.Am Go.Proofs Go.eY
open Go.Sq (CE nP bZ oO vM fX U2 kQ Cu jg A8 rU mY)
theorem uM{l}{v}:∀{n k},k+n=v.length->(y9 l v n k=true↔∀j,k<=j->j<v.length->jh l v j=true)
 |0,k,h=>by
  simp only[y9,true_iff];omega
 |n+1,k,h=>by
  simp only[y9,y04,uM  (v:=v) (n:=n) (k:=k+1) zO];grind
structure OkV(l:List CE)(v:List MK):Prop where
 isM:∀m∈v,F8 l m=true
 sorted:v.Pairwise fun a b=>nD a b=true
 qV:v.Pairwise fun a b=>a.eG≠b.eG
theorem TK{l}{v}:Cw l v=true↔OkV l v:=by
 unfold Cw;rw[uM zO];constructor
 .intro h;have at_:∀j (hj:j<v.length),F8 l v[j]=true/\(0<j->nD (v[j-1]'zO) v[j]=true)/\∀i (hi:i<j),(v[i]'zO).eG≠v[j].eG:=fun j hj=>by
   have:=h j zO hj;unfold jh at this;rw[yA hj]at this;simp only[y04,Bool.or_eq_true,beq_iff_eq,Bool.not_eq_true']at this;obtain⟨h1,h2,h3⟩:=this;refine⟨h1,fun h0=>?_,fun i hi e=>?_⟩
   .grind
   .have:=any_eq_false.1 h3 (v[i]'zO) (by
     have:(v.take j)[i]'(by rw[y22];omega)=v[i]'zO:=getElem_take;rw[<- this];exact y03 _)
    simp[e]at this
  refine⟨fun m hm=>?_,pairwise_iff_getElem.2 fun i j hi hj wQ=>?_,pairwise_iff_getElem.2 fun i j hi hj wQ=>(at_ j hj).2.2 i wQ⟩
  .obtain ⟨j,hj,rfl⟩:=getElem_of_mem hm;exact(at_ j hj).1
  .have key:∀d i (hi:i+d+1<v.length),nD (v[i]'zO) (v[i+d+1])=true:=by
    intro d
    induction d with
    |zero =>
     intro i hi;have:=(at_ (i+1) zO).2.1 zO;simpa using this
    |succ d ih =>
     intro i hi;have h1:=ih i zO;have h2:=(at_ (i+(d+1)+1) zO).2.1 zO;exact sV h1 (by simpa[Nat.add_assoc]using h2)
   have:=key (j-i-1) i zO;simpa[show i+(j-i-1)+1=j by omega]using this
 .intro h j _ hj;unfold jh;rw[yA hj];simp only[y04,Bool.or_eq_true,beq_iff_eq,Bool.not_eq_true'];refine⟨h.isM _ (y03 hj),?_,?_⟩
  .rcases Nat.eq_zero_or_pos j with h0|h0
   .exact .inl h0
   .right;rw[yA (show j-1<v.length by omega)];exact pairwise_iff_getElem.1 h.sorted (j-1) j zO hj zO
  .rw [any_eq_false];intro m hm;obtain⟨i,hi,rfl⟩:=getElem_of_mem hm;rw[y22]at hi;rw[getElem_take];have:=pairwise_iff_getElem.1 h.qV i j zO hj zO;simpa using this
structure Val(t:TE):Prop where
 cells:jg t.cells=0
 one:∀c∈t.cells,c.vl.size=1
 bQ:OkV t.cells t.bQ
theorem Yp{t}:vC t=0↔Val t:=by
 unfold vC;by_cases h0:jg t.cells=0
 .rw [yK (by simpa using h0)];cases ha:t.cells.all Ba with
  |false =>
   refine⟨nofun,fun h=>?_⟩;have:t.cells.all Ba=true:=all_eq_true.2 fun c hc=>by unfold Ba;simpa using h.one c hc
   grind
  |true =>
   have h1:∀c∈t.cells,c.vl.size=1:=fun c hc=>by
    have:=all_eq_true.1 ha c hc;unfold Ba at this;grind
   cases hb:Cw t.cells t.bQ with
   |true=>exact⟨fun _=>⟨h0,h1,TK.1 hb⟩,fun _=>rfl⟩
   |false =>
    refine⟨fun h=>by simp at h,fun h=>?_⟩;rw[TK.2 h.bQ]at hb;cases hb
 .rw [yL h0];exact⟨fun h=>absurd h h0,fun h=>absurd h.cells h0⟩
theorem GA{l}{c}(h:kQ l)(hc:Cu c):kQ (rU l c):=by
 unfold rU;split
 .exact fun x hx=>by cases hx
 .split
  .exact fun x hx=>by cases hx
  .exact (h.HV hc).ord
theorem afK{dv sq tm}{k}{i}{s}(h1:fO dv)(h2:fO sq)(hk:k<=64)(h3:fO i.1)(h4:fO i.2.1)(h5:fO i.2.2):Cu (U9 dv sq tm k i s) :=
 ⟨⟨h1,h2,by show Sq.fO k;unfold Sq.fO;omega⟩,h3,h4,h5⟩
theorem acf(t:TE)dv sq tm(s:yP)(h1:fO dv)(h2:fO sq)(hs:s.size<=64):∀n k a b c l,s.size-k=n->k<=s.size->l.length+n<=990000->kQ l->fO a->fO b->fO c ->
 ((TI dv sq tm s n k (a,b,c) l).2=0->Rq 0 266 0 (Ml t dv sq tm a b c s l k) (.exit 0) (tyO t (TI dv sq tm s n k (a,b,c) l).1)) /\
 ((TI dv sq tm s n k (a,b,c) l).2≠0->Rq 0 266 0 (Ml t dv sq tm a b c s l k) .ret (tyX (TI dv sq tm s n k (a,b,c) l).2)):=by
 intro n
 induction n with
 |zero=>intro k a b c l hn hk hl hO ha hb hc;exact⟨fun _=>amP t dv sq tm a b c s l k zO yO,fun h=>absurd rfl h⟩
 |succ n ih =>
  intro k a b c l hn hk hl hO ha hb hc;have hC:Cu (U9 dv sq tm k (a,b,c) s):=afK h1 h2 zO ha hb hc;have hi:=JZ (Sq.KC l (U9 dv sq tm k (a,b,c) s) zO hO hC);have bL:=Sq.Ib l (U9 dv sq tm k (a,b,c) s);rw[TI];by_cases he:A8 l (U9 dv sq tm k (a,b,c) s)=0
  .rw [yK (by simpa using he)];rw[he]at hi;obtain⟨n1,n2⟩:=ih (k+1) dv sq k (rU l (U9 dv sq tm k (a,b,c) s)) zO zO zO (GA hO hC) h1 h2 (by unfold fO;omega);exact⟨fun h=>aji t dv sq tm a b c s l _ k zO hs hi _ _ (n1 h),fun h=>aji t dv sq tm a b c s l _ k zO hs hi _ _ (n2 h)⟩
  .rw [yL he];have hz:rU l (U9 dv sq tm k (a,b,c) s)=[]:=by
    rcases Sq.Vj l (U9 dv sq tm k (a,b,c) s)with h|h
    .exact absurd h.1 he
    grind
   rw[hz]at hi;exact⟨fun h=>absurd h he,fun _=>amQ t dv sq tm a b c s l k _ he zO hs hi yO⟩
theorem afL(t:TE)dv sq tm a b c(s:yP)(hl:X4 t)(hO:OkT t)(h1:fO dv)(h2:fO sq)(ha:fO a)(hb:fO b)(hc:fO c) :
 Cq 266 [mG t,Q9 dv sq,int tm,oO a b c,str s] (.bq [mG (Ve t dv sq tm (a,b,c) s).1,int (Ve t dv sq tm (a,b,c) s).2]):=by
 have hk:=fG t hl hO;have hlc:=hl.cells;unfold Ve;by_cases h0:vC t=0
 .rw [yK (by simpa using h0)];rw[h0]at hk;by_cases hs:s.size<1\/s.size>64
  .rw [yL hs];exact afD t dv sq tm a b c s hs hk ⟨fun _=>trivial,fun _=>trivial⟩
  .rw [yK hs];obtain⟨n1,n2⟩:=acf t dv sq tm s h1 h2 zO s.size 0 a b c t.cells zO zO zO hO.cells ha hb hc;by_cases he:(TI dv sq tm s s.size 0 (a,b,c) t.cells).2=0
   .rw [yL he];exact afF t dv sq tm a b c s _ zO zO hk (n1 he) trivial
   .rw [yK he];exact afE t dv sq tm a b c s _ zO zO hk (n2 he) trivial
 .rw [yL h0];exact afC t dv sq tm a b c s _ h0 hk trivial
theorem Ic l(j:Nat):(mY l j).length=l.length:=by unfold Sq.mY;simp
theorem Ie{a b c}:∀{n k}{l r},vY a b c n k l=some r->r.length=l.length
 |0,_,_,_,h=>by simp[vY]at h;rw[h]
 |n+1,k,l,r,h=>by
  rw[vY]at h;split at h
  .rw [Ie h,Ic]
  .cases h
theorem acg(t:TE)a b c nn(hn:nn<=64)m(hm:m<=900000):∀d k l,nn.toNat-k=d->k<=nn.toNat->l.length=m ->
 (∀r,vY a b c d k l=some r->Rq 0 269 0 (cuS t a b c nn m l k) (.exit 0) (cuO t a b c m r))/\(vY a b c d k l=none->Rq 0 269 0 (cuS t a b c nn m l k) .ret cuX):=by
 intro d
 induction d with
 |zero=>intro k l hd hk hl;exact⟨fun r h=>by cases h;exact amR t a b c nn m l k zO yO,fun h=>by cases h⟩
 |succ d ih =>
  intro k l hd hk hl;have hf:=wX l a b (wr c k) zO;rw[vY];cases hx:fX (vM a b (wr c k)) l with
  |none =>
   rw[hx]at hf;exact⟨fun r h=>(by cases h),fun _=>amS t a b c nn m l k zO hn hl _ hf yO⟩
  |some j =>
   rw[hx]at hf;obtain⟨x,hj,_⟩:=Sq.QU hx;have bg:=(yC.1 hj).1;obtain⟨n1,n2⟩:=ih (k+1) (mY l j) zO zO (by rw[Ic];exact hl);rw[Sq.BJ hj]at n1 n2;show(∀r,vY a b c d (k+1) (mY l j)=some r->_)/\(vY a b c d (k+1) (mY l j)=none->_);rw[Sq.BJ hj];exact⟨fun r h=>ajj t a b c nn m l k j x zO hn hl hj zO zO hf _ _ (n1 r h),fun h=>ajj t a b c nn m l k j x zO hn hl hj zO zO hf _ _ (n2 h)⟩
theorem ajv(t:TE)a b c n(hl:X4 t)(hO:OkT t):Cq 269 [mG t,oO a b c,int n] (.bq [mG (Vg t (a,b,c) n).1,int (Vg t (a,b,c) n).2]):=by
 have hk:=fG t hl hO;have hlc:=hl.cells;unfold Vg;by_cases h0:vC t=0
 .rw [yK (by simpa using h0)];rw[h0]at hk;by_cases hs:n<1\/n>64
  .rw [yL hs];exact ajl t a b c n hs hk ⟨fun _=>trivial,fun _=>trivial⟩
  .rw [yK hs];by_cases fF:t.cells=[]
   .have hf:=wX [] a b (wr c 0) zS;have e:vY a b c n.toNat 0 t.cells=none:=by
     rw[fF,show n.toNat=(n.toNat-1)+1 by omega];rfl
    rw[e];exact ajm t a b c n zO zO hk (by rw[fF];exact JZ (Sq.uJ [] zS)) (amT t a b c n zO zO _ hf yO) trivial
   .obtain ⟨n1,n2⟩:=acg t a b c n zO t.cells.length zO n.toNat 0 t.cells zO zO rfl;have lG:=JZ (Sq.XT t.cells fF zO);cases hr:vY a b c n.toNat 0 t.cells with
    |none=>exact ajn t a b c n zO zO hk lG (n2 hr) ⟨Sq.bJ _,yO⟩
    |some r=>exact ajo t a b c n r zO zO (Ie hr) hk lG (n1 r hr) trivial
 .rw [yL h0];exact ajk t a b c n _ h0 hk trivial
def Vk(t:TE)(m:MK):TE×Int :=
 if vC t≠0 then(zT,vC t)else if F8 t.cells m=false then(zT,160)else if(t.bQ.any fun a=>decide (a.eG=m.eG))=true then(zT,160)else
  (⟨t.cells,t.bQ.take (uD m t.bQ)++[m]++t.bQ.drop (uD m t.bQ)⟩,0)
theorem ajw(t:TE)m(hl:X4 t)(hO:OkT t):Cq 271 [mG t,EC m] (.bq [mG (Vk t m).1,int (Vk t m).2]):=by
 have hk:=fG t hl hO;have hlc:=hl.cells;have hlm:=hl.bQ;have hi:=LY t.cells m zO;have hF:=ajp t.bQ m zO;unfold Vk;by_cases h0:vC t=0
 .rw [yK (by simpa using h0)];rw[h0]at hk;cases hm:F8 t.cells m with
  |false=>rw[hm]at hi;exact ajr t m hk hi trivial
  |true =>
   rw[hm]at hi;cases hd:t.bQ.any fun a=>decide (a.eG=m.eG)with
   |true=>rw[hd]at hF;exact ajs t m hk hi hF trivial
   |false =>
    rw[hd]at hF;have hV:=(Yp.1 h0).bQ;obtain⟨f,hB⟩:=Yl t.bQ m zO hV.sorted;by_cases fF:t.bQ=[]
    .have hp:uD m t.bQ=0:=by rw[fF];rfl
     rw[hp]at hB;rw[fF];have hI:=Yh [] m 0 rfl zS trivial;exact aju t m f _ hk hi hF hB (by rw[fF];exact Mt) hI trivial
    .exact ajt t m _ f _ hk hi hF hB (uJ t.bQ zO fF) (KC t.bQ m _ (Mv _ _) zO) trivial
 .rw [yL h0];exact ajq t m _ h0 hk trivial
end Go.Tx
namespace Go.Dc
open Go Go.Am Go.Proofs Go.eY Go.bH
abbrev Gb(f:FD):Tx.TE:=⟨f.tc,f.tm⟩
def MB(f:FD)(r:Tx.TE×Int):FD:=if r.2=0 then{ f with tc:=r.1.cells,tm:=r.1.bQ }else f
def mkO(o:bV.OP):Tx.MK:=⟨o.dv,o.sq,o.tm,o.f1,o.f2,o.f3,o.t1,o.t2,o.t3,o.n,o.on⟩
def ef6(o:bV.OP)(f:FD):FD:=MB f (Tx.Ve (Gb f) o.dv o.sq o.tm (o.f1,o.f2,o.f3) o.vl)
def ef7(o:bV.OP)(f:FD):FD:=MB f (Tx.Vg (Gb f) (o.f1,o.f2,o.f3) o.n)
def ef8(o:bV.OP)(f:FD):FD:=MB f (Tx.Vk (Gb f) (mkO o))
theorem ajx{o}{f}(ho:bV.Fw o)(hr:Q0 f):EfC 265 o (ef6 o) f:=fun l g i h e=>by
 subst e;have k:=ajy l i g l[i] h (yA h) o _ _ _ (Tx.afL (Gb l[i]) o.dv o.sq o.tm o.f1 o.f2 o.f3 o.vl hr.lt hr.tx ho.dv ho.sq ho.f1 ho.f2 ho.f3);rw[za h]at k;exact⟨_,k⟩
theorem ajz{o}{f}(hr:Q0 f):EfC 268 o (ef7 o) f:=fun l g i h e=>by
 subst e;have k:=ajA l i g l[i] h (yA h) o _ _ _ (Tx.ajv (Gb l[i]) o.f1 o.f2 o.f3 o.n hr.lt hr.tx);rw[za h]at k;exact⟨_,k⟩
theorem ajB{o}{f}(hr:Q0 f):EfC 270 o (ef8 o) f:=fun l g i h e=>by
 subst e;have k:=ajC l i g l[i] h (yA h) o _ _ _ (Tx.ajw (Gb l[i]) (mkO o) hr.lt hr.tx);rw[za h]at k;exact⟨_,k⟩
def cD(d:Int)(t:TL):Int:=bV.gJ t.1 d
theorem ajD d(t:TL):cD d t<0↔t.1<d:=by
 unfold cD bV.gJ;grind
theorem Yq:∀{l}{x},Xg x l=true->∀t∈l,x<t.1
 |[],_,_,_,h=>by cases h
 |u::l,x,hk,t,h=>by
  simp only[Xg,y04,y05]at hk;rcases yH.1 h with rfl|h
  .exact hk.1.2
  .have:=Yq hk.2 t h;omega
theorem OI d:∀{l}{x},Xg x l=true->TH (cD d) l
 |[],_,_=>fun m h=>absurd h (y28 m)
 |u::l,x,hk=>by
  simp only[Xg,y04]at hk;have ih:=OI d hk.2;intro m h;unfold nQ;by_cases hu:cD d u<0
  .rw [takeWhile_cons_of_pos (by simpa using hu)];cases m with
   |zero=>exact⟨fun _=>zS,fun _=>hu⟩
   |succ m =>
    have:=ih m (by simpa using h);simp only[yE,Nat.add_lt_add_iff_right];exact this
  .rw [takeWhile_cons_of_neg (by simpa using hu)];refine⟨fun h'=>?_,fun h'=>absurd h' (y28 m)⟩;refine absurd h' ?_;cases m with
   |zero=>exact hu
   |succ m =>
    have hm:m<l.length:=by simpa using h
    have:=Yq hk.2 _ (y03 hm);rw[ajD]at hu |-;grind
theorem Yr l(d:Int)(hl:l.length<=1000000)(hs:TH (cD d) l):Cq 277 [mF l,int d,gP 278] (.bq [int (nQ (cD d) l),Am.bool ((l[nQ (cD d) l]?).any fun f=>cD d f==0)]) :=
 ai6 l d _ _ (ab9 l d (cD d) zO hs fun t=>ai3 t d _ (ai2 t yO) (bV.wZ t.1 d) yO) trivial
theorem afM:Cq 84 [mF []] (.sl 3 true []):=ak.wY (fun cap=>ai8 cap (aF.aed 3)) fun a cap=>ai9 a cap trivial
theorem TM d s n:aF (.sl 3 true [[int d,int s,int n]]) (.sl 3 false [ze (d,s,n)]):=aF.oP 3 true _
theorem afN l(g p:Nat)d s n(hp:p<=l.length)(hl:l.length<=1000000):ak P G 279 [.aU 0 g 0 l.length,int p,.sl 3 true [[int d,int s,int n]]] [.aN g 3 false (lH l)] (.ret (.aU 0 (g+1) 0 (l.take p++[(d,s,n)]++l.drop p).length)) [.aN (g+1) 3 false (lH (l.take p++[(d,s,n)]++l.drop p))]:=by
 have main:ak P G 279 [.aU 0 g 0 l.length,int p,.sl 3 false [ze (d,s,n)]] [.aN g 3 false (lH l)] (.ret (.aU 0 (g+1) 0 (l.take p++[(d,s,n)]++l.drop p).length)) [.aN (g+1) 3 false (lH (l.take p++[(d,s,n)]++l.drop p))]:=by
  rcases y11 p l.length with h|h
  .have k:=Go.Dt.uL (lH l) (ze (d,s,n)) g p rfl (by rw[dP];exact h) (by rw[dP];omega);have e:(lH l).take p++[ze (d,s,n)]++(lH l).drop p=lH (l.take p++[(d,s,n)]++l.drop p):=by simp[lH]
   rw[e,dP,dP]at k;exact k
  .obtain rfl:p=l.length:=zO
   exact aja l g (d,s,n) hl _ _ ⟨zS,by simp[lH,ze]⟩
 exact ak.qp main ⟨y34,y34,TM d s n,yO⟩
theorem afO d s n:ak P G 279 [.sl 3 true [],int 0,.sl 3 true [[int d,int s,int n]]] [] (.ret (.aU 0 0 0 1)) [.aN 0 3 false (lH [(d,s,n)])] :=
 ak.qp (ajb (d,s,n) _ _ ⟨rfl,rfl⟩) ⟨y34,y34,TM d s n,yO⟩
theorem MC{l r}{d s n}{g k}{a}(hk:k=r.length)(h:ak P G 263 [mF l,eG (d,s),int n] [] (.ret (.bq [.aU 1 g 0 k,int 0])) [a,.aN g 3 false (lH r)]):Cq 263 [mF l,eG (d,s),int n] (.bq [mF r,int 0]):=by
 subst hk;exact(h.Yt     rfl ⟨rfl,by rw[drop_zero,y27 (by rw[dP];simp)],dP r,sQ r,yO⟩).BM   rfl trivial
def OJ(l:List TL)(d s n:Int):List TL×Int :=
 if Xg (-1) l=true then
  if Tf d s=true then
   if(l[nQ (cD d) l]?).any (fun f=>cD d f==0)=true then
    if(l.getD (nQ (cD d) l) (0,0,0)).2.1>=s then([],182)else(l.set (nQ (cD d) l) ((l.getD (nQ (cD d) l) (0,0,0)).1,s,IntKind.wrap IntKind.i64 ((l.getD (nQ (cD d) l) (0,0,0)).2.2+n)),0)
   else(l.take (nQ (cD d) l)++[(d,s,n)]++l.drop (nQ (cD d) l),0)
  else([],150)
 else([],150)
theorem afP l(d s n:Int)(hl:l.length<=1000000):Cq 263 [mF l,eG (d,s),int n] (.bq [mF (OJ l d s n).1,int (OJ l d s n).2]):=by
 have hK:=OA l hl;have hW:=OL d s;unfold OJ;unfold vC at hK;by_cases hk:Xg (-1) l=true
 .rw [yL hk]at hK |-;by_cases hw:Tf d s=true
  .rw [yL hw];rw[hw]at hW;have hP:=Yr l d hl (OI d hk);have Yu:=Mk (cD d) l;by_cases hz:l=[]
   .subst hz;exact MC  rfl (ajf [] [(d,s,n)] d s n hK hW hP afM (afO d s n) _ _ ⟨rfl,rfl⟩)
   .have hC:=ai7 l zO (fun h=>hz (by simpa[lH]using h)) trivial;cases hb:(l[nQ (cD d) l]?).any (fun f=>cD d f==0)with
    |false =>
     rw[hb]at hP;have hI:=afN l 0 (nQ (cD d) l) d s n Yu hl;exact MC rfl (aje l _ d s n _ hl (by simp;omega) Yu hK hW hP hC hI _ _ ⟨rfl,rfl⟩)
    |true =>
     rw[yL rfl];rw[hb]at hP;have bg:nQ (cD d) l<l.length:=by grind
     have ht:l[0+nQ (cD d) l]?=some (l.getD (nQ (cD d) l) (0,0,0)):=by
      rw[y12,yB,yA bg,Option.getD_some]
     generalize l.getD (nQ (cD d) l) (0,0,0)=t at ht |-;by_cases hs:t.2.1>=s
     .rw [yL hs];exact ak.out (ajg l d s n _ t hl zO ht hs hK hW hP hC _ _ ⟨rfl,rfl⟩) (aF.U1 (aF.nil 3) (y34))
     .rw [yK hs];refine MC   (a:=.box [int d,int s]) (by rw[length_set]) (ajh l d s n _ t hl zO ht ?_ hs hK hW hP hC _ _ ⟨rfl,?_⟩)
      .rw [y12,getElem?_set_self (by rw[dP];exact bg)]
      .simp[lH,ze]
  .rw [yK hw];rw[Bool.eq_false_iff.2 hw]at hW;exact ak.out (ajd l d s n hK hW _ _ ⟨rfl,rfl⟩) (aF.U1 (aF.nil 3) (y34))
 .rw [yK hk]at hK |-;exact ak.out (ajc l d s n 150 zD hK yO) (aF.U1 (aF.nil 3) (y34))
def ef5(o:bV.OP)(f:FD):FD:=if(OJ f.ta o.dv o.sq o.n).2=0 then{ f with ta:=(OJ f.ta o.dv o.sq o.n).1 }else f
theorem ajE{o}{f}(hl:f.ta.length<=1000000):EfC 262 o (ef5 o) f:=fun l g i h e=>by
 subst e;have k:=ajF l i g l[i] h (yA h) o _ _ (afP l[i].ta o.dv o.sq o.n hl);rw[za h]at k;exact⟨_,k⟩
def cO(o:bV.OP)(f:FD):Int:=U7 f.pk o.pk f.pn o.pn
theorem uN{F}(K:Yv F){d}{o}{v}(f:Fit d o v)(hd:Dim d)(hs:Rc (cO o) d.fs)(hM:mgA o F)ef(hE:∀x,x∈d.fs\/x=Fx o->EfC F o ef x) :
 Cq 27 [kI d,bV.op o] (.bq [kI ⟨v,Ig (cO o) ef o d.fs⟩,int 0]) :=
 Yw K f (cO o) ef hM hs (fun x=>amY x o.pk o.pn) (amZ o.pk o.pn) (fun x hx=>XY x (hd.len x hx)) fun _ g i h hx=>hE _ hx _ g i h rfl
def Gc(o:bV.OP):FD->FD :=
 if o.kd=1 then ef1 o else if o.kd=2 then ef2 o else if o.kd=3 then ef3 o else if o.kd=4 then ef4 o else if o.kd=5 then ef5 o else if o.kd=6 then ef6 o else if o.kd=7 then ef7 o else ef8 o
theorem Yx o:Q0 (Fx o):=⟨(fun _ h=>by cases h),⟨(fun _ h=>by cases h),(fun _ h=>by cases h)⟩,⟨yN,yN⟩⟩
theorem OM{a b c}{s t u}(h1:U7 a b s t<0)(h2:U7 b c t u<0):U7 a c s u<0:=by
 rw[ajG]at *;rcases h1 with h1|⟨rfl,h1⟩
 .rcases h2 with h2|⟨rfl,h2⟩
  .exact .inl zO
  omega
 .rcases h2 with h2|⟨rfl,h2⟩
  .exact .inl h2
  .exact .inr ⟨rfl,Bd.KG h1 h2⟩
theorem Yy{v}:∀{l}{g},Xe v (some g) l=true->∀x∈l,U7 g.pk x.pk g.pn x.pn<0
 |[],_,_,_,h=>by cases h
 |u::l,g,hk,x,h=>by
  simp only[Xe,y04,y05]at hk;rcases yH.1 h with rfl|h
  .exact hk.1.2
  .exact OM hk.1.2 (Yy hk.2 x h)
theorem OO{v}:∀{l}{q},Xe v q l=true->l.Pairwise fun x y=>U7 x.pk y.pk x.pn y.pn<0
 |[],_,_=>Pairwise.nil
 |u::l,q,hk=>by
  simp only[Xe,y04]at hk;exact Pairwise.cons (Yy hk.2) (OO hk.2)
theorem Yz{v}{l}{q}o(h:Xe v q l=true):Rc (cO o) l:=TN ((OO h).imp fun h1 h2=>OM h1 h2)
theorem ach{d}{o}{v}(f:Fit d o v)(hd:Dim d)(hs:Rc (cO o) d.fs)(ho:bV.Fw o)(hc:o.cx.length<=1000000)(hk:1<=o.kd/\o.kd<=8)(hl:∀x∈d.fs,x.ce.length<=999999) :
 Cq 27 [kI d,bV.op o] (.bq [kI ⟨v,Ig (cO o) (Gc o) o d.fs⟩,int 0]):=by
 have hr:∀x,x∈d.fs\/x=Fx o->Q0 x:=fun x hx=>hx.elim (hd.iV x) fun e=>e▸Yx o;have hn:∀x,x∈d.fs\/x=Fx o->XW x:=fun x hx=>hx.elim (hd.len x) fun e=>e▸⟨yN,yN,yN,yN,yN⟩;have hq:∀x,x∈d.fs\/x=Fx o->x.ce.length<=999999:=fun x hx=>hx.elim (hl x) fun e=>e▸yN;have y8:o.kd=1\/o.kd=2\/o.kd=3\/o.kd=4\/o.kd=5\/o.kd=6\/o.kd=7\/o.kd=8:=zO
 have hg:∀{F}{k},o.kd=k->bT P 3 oK (.int .i64 k) zE (.agg [gP F]) true->mgA o F:=fun e h=>by unfold mgA;grind
 rcases y8 with e|e|e|e|e|e|e|e
 .rw [show Gc o=ef1 o by simp[Gc,e]];exact uN am0 f hd hs (hg e eg1) (ef1 o) fun x hx=>aiU ho (hq x hx) (hr x hx).ce
 .rw [show Gc o=ef2 o by simp[Gc,e]];exact uN am1 f hd hs (hg e eg2) (ef2 o) fun x hx=>aiW (hn x hx).ce (hr x hx).ce
 .rw [show Gc o=ef3 o by simp[Gc,e]];exact uN am2 f hd hs (hg e eg3) (ef3 o) fun x hx=>aiY hc f.s1 f.s2 (hn x hx).bi
 .rw [show Gc o=ef4 o by simp[Gc,e]];exact uN am3 f hd hs (hg e eg4) (ef4 o) fun x hx=>ai0 hc f.s1 f.s2 (hn x hx).bi
 .rw [show Gc o=ef5 o by simp[Gc,e]];exact uN am4 f hd hs (hg e eg5) (ef5 o) fun x hx=>ajE (hn x hx).ta
 .rw [show Gc o=ef6 o by simp[Gc,e]];exact uN am5 f hd hs (hg e eg6) (ef6 o) fun x hx=>ajx ho (hr x hx)
 .rw [show Gc o=ef7 o by simp[Gc,e]];exact uN am6 f hd hs (hg e eg7) (ef7 o) fun x hx=>ajz (hr x hx)
 .rw [show Gc o=ef8 o by simp[Gc,e]];exact uN am7 f hd hs (hg e eg8) (ef8 o) fun x hx=>ajB (hr x hx)
def EF(d:DO)(o:bV.OP):Int :=
 if F9 d=0 then
  if bV.lM o=0 then
   if cZ d.sn (o.dv,o.sq)=true then 182
   else if gI o.dv d.sn=o.sq-1 then(if(o.cx.any fun x=>!cZ d.sn x)=true then 181 else 0)else 181
  else bV.lM o
 else F9 d
def afQ(d:DO)(o:bV.OP):DO:=⟨uK d.sn [(o.dv,o.sq)],Ig (cO o) (Gc o) o d.fs⟩
theorem TP{d}(h:F9 d=0):Cw d.sn=true/\Xe d.sn none d.fs=true:=by
 unfold F9 at h;grind
theorem aci{o}(h:bV.lM o=0):bV.rM o=true:=by
 unfold bV.lM at h;grind
theorem Ih{o}(h:bV.lM o=0):gQ (o.dv,o.sq)=true/\1<=o.kd/\o.kd<=8:=by
 have:=aci h;simp only[bV.rM,bV.qW,y04]at this;grind
theorem YA{d}{o}(hd:Dim d)(hn:bV.Okn o)(hc:o.cx.length<=1000000)(hq:bV.lM o=0->1<=o.sq/\o.sq<=1048576)(h:EF d o≠0) :
 Cq 27 [kI d,bV.op o] (.bq [Rf,int (EF d o)]):=by
 have hK:=fG d hd;have hO:=bV.fG o hn;have hV:=bH.jX d.sn o.dv o.sq (by have:=hd.sn;omega);have hA:=bH.acj d.sn o.dv (by have:=hd.sn;omega);have hF:=aee o.cx d hc (by have:=hd.sn;omega);unfold EF at h |-;by_cases h1:F9 d=0
 .rw [yL h1]at h |-;rw[h1]at hK;by_cases h2:bV.lM o=0
  .rw [yL h2]at h |-;rw[h2]at hO;by_cases h3:cZ d.sn (o.dv,o.sq)=true
   .rw [yL h3];rw[h3]at hV;exact am8 d o hK hO hV _ rfl
   .rw [yK h3]at h |-;rw[Bool.eq_false_iff.2 h3]at hV;by_cases h4:gI o.dv d.sn=o.sq-1
    .rw [yL h4]at h |-;by_cases h5:(o.cx.any fun x=>!cZ d.sn x)=true
     .rw [yL h5];rw[h5]at hF;exact am9 d o _ (hq h2).1 (hq h2).2 h4 hK hO hV hA hF _ rfl
     grind
    .rw [yK h4];exact ana d o _ (hq h2).1 (hq h2).2 h4 hK hO hV hA _ rfl
  .rw [yK h2];exact anb d o _ h2 hK hO trivial
 .rw [yK h1];exact anc d o _ h1 hK trivial
theorem YB{d}{o}(hd:Dim d)(hn:bV.Okn o)(ho:bV.Fw o)(hc:o.cx.length<=1000000)(hl:∀x∈d.fs,x.ce.length<=999999)(hq:1<=o.sq/\o.sq<=1048576)(hw:fM d.sn [(o.dv,o.sq)]=0)(h:EF d o=0) :
 Cq 27 [kI d,bV.op o] (.bq [kI (afQ d o),int 0]):=by
 have hK:=fG d hd;have hO:=bV.fG o hn;have hV:=bH.jX d.sn o.dv o.sq (by have:=hd.sn;omega);have hA:=bH.acj d.sn o.dv (by have:=hd.sn;omega);have hF:=aee o.cx d hc (by have:=hd.sn;omega);have hW:=bH.Q6 d.sn o.dv o.sq (by have:=hd.sn;omega);unfold EF at h;by_cases h1:F9 d=0
 .rw [yL h1]at h;rw[h1]at hK;by_cases h2:bV.lM o=0
  .rw [yL h2]at h;rw[h2]at hO;by_cases h3:cZ d.sn (o.dv,o.sq)=true
   .grind
   .rw [yK h3]at h;rw[Bool.eq_false_iff.2 h3]at hV;by_cases h4:gI o.dv d.sn=o.sq-1
    .rw [yL h4]at h;rw[h4]at hA;by_cases h5:(o.cx.any fun x=>!cZ d.sn x)=true
     .rw [yL h5]at h;omega
     .rw [Bool.eq_false_iff.2 h5]at hF;rw[hw]at hW;exact ach ⟨hq.1,hq.2,hd.fs,hK,hO,hV,hA,hF,hW⟩ hd (Yz o (TP h1).2) ho hc (Ih h2).2 hl
    omega
  omega
 omega
theorem TQ{a b}(h:gQ (a,b)=true):(0<=a/\a<512)/\1<=b/\b<=1048576:=by
 simp only[gQ,y04,y05]at h;omega
theorem YC{x}(h:gQ x=true):eZ [x]=0:=by
 unfold eZ Cw;simp[y9,jh,h]
theorem acn{v}{x}(h:Cw v=true)(hx:gQ x=true):fM v [x]=0:=by
 unfold fM;rw[yL (by unfold eZ;rw[yL h])];exact YC hx
theorem Vl{d}{o}(hd:Dim d)(hn:bV.Okn o)(ho:bV.Fw o)(hc:o.cx.length<=1000000)(hl:∀x∈d.fs,x.ce.length<=999999) :
 Cq 27 [kI d,bV.op o] (if EF d o=0 then .bq [kI (afQ d o),int 0]else .bq [Rf,int (EF d o)]):=by
 by_cases h:EF d o=0
 .rw [yL h];have h1:F9 d=0:=by
   by_cases e:F9 d=0
   .exact e
   .unfold EF at h;omega
  have h2:bV.lM o=0:=by
   by_cases e:bV.lM o=0
   .exact e
   .unfold EF at h;omega
  have hq:=Ih h2;exact YB hd hn ho hc hl (TQ hq.1).2 (acn (TP h1).1 hq.1) h
 .rw [yK h];exact YA hd hn hc (fun h2=>(TQ (Ih h2).1).2) h
def Bn(d:DO)(o:bV.OP):DO:=if EF d o=0 then afQ d o else⟨[],[]⟩
def Gf(l:List bV.OP):DO:=l.foldl Bn ⟨[],[]⟩
theorem YD(l:List TL)(d s n:Int):(OJ l d s n).1.length<=l.length+1:=by
 unfold OJ;have:=Mk (cD d) l;split
 .split
  .split
   .split
    .simp
    .simp
   .simp;omega
  .simp
 .simp
variable {o:bV.OP}
theorem OQ{c:FD->Int}{ef:FD->FD}{l:List FD}{x:FD}(h:x∈Ig c ef o l):x∈l\/∃y,(y∈l\/y=Fx o)/\x=ef y:=by
 unfold Ig at h;split at h
 .rename_i hb;have bg:rV c l<l.length:=by
   rcases y11 (rV c l) l.length with h|h
   .exact h
   .rw [getElem?_eq_none h]at hb;cases hb
  rcases mem_or_eq_of_mem_set h with h|h
  .exact .inl h
  .refine .inr ⟨_,.inl ?_,h⟩;rw[yB,yA bg,Option.getD_some];exact y03 bg
 .simp only[yI,mem_singleton]at h;rcases h with(h|h)|h
  .exact .inl (mem_of_mem_take h)
  .exact .inr ⟨_,.inr rfl,h⟩
  .exact .inl (mem_of_mem_drop h)
theorem YE(c:FD->Int)(ef:FD->FD)(o:bV.OP)(l:List FD):(Ig c ef o l).length<=l.length+1:=by
 unfold Ig;have:=Rh c l;split
 .rw [length_set];omega
 .simp;omega
theorem VL(v:List Bd.BE)(c:List D)(k:yP):(Bd.CZ v c k).1.length<=v.length:=by
 unfold Bd.CZ;split
 .split
  .exact (Bd.zF v c k).length_le
  .exact yN
 .exact yN
theorem ZQ(v:List Bd.BE)(c:List D)(b:Bd.BE):(Bd.OB v c b).1.length<=v.length+1:=by
 unfold Bd.OB;split
 .split
  .split
   .have h:=(Bd.VJ b (Bd.rest v c b.ky)).length_eq;have:=(Bd.zF v c b.ky).length_le;simp only[yE]at h;show(Bd.VI b (Bd.rest v c b.ky)).length<=v.length+1;omega
   .exact yN
  .exact yN
 .exact yN
structure yu(n:Nat)(f:FD):Prop where
 ce:f.ce.length<=n
 bi:f.bi.length<=n
 ta:f.ta.length<=n
variable {f:FD}{n m:Nat}
theorem yu.mono(h:yu n f)(hm:n<=m):yu m f:=⟨by have:=h.ce;omega,by have:=h.bi;omega,by have:=h.ta;omega⟩
theorem acM(h:yu n f):yu (n+1) (ef1 o f):=by
 unfold ef1;split
 .exact ⟨by have:=Sq.Ib f.ce (KD o);have:=h.ce;show(Sq.rU f.ce (KD o)).length<=n+1;omega,by have:=h.bi;show f.bi.length<=n+1;omega,by have:=h.ta;show f.ta.length<=n+1;omega⟩
 .exact h.mono zO
theorem acN(h:yu n f):yu (n+1) (ef2 o f):=by
 unfold ef2;split
 .exact ⟨by have:=Sq.Yn f.ce o.f1 o.f2 o.f3;have:=h.ce;show(Sq.Ez f.ce o.f1 o.f2 o.f3).length<=n+1;omega,by have:=h.bi;show f.bi.length<=n+1;omega,by have:=h.ta;show f.ta.length<=n+1;omega⟩
 .exact h.mono zO
theorem acO(h:yu n f):yu (n+1) (ef3 o f):=by
 unfold ef3;split
 .exact ⟨by have:=h.ce;show f.ce.length<=n+1;omega,by have:=ZQ f.bi (Q5 o) ⟨o.ky,o.dv,o.sq,o.tm,o.vl⟩;have:=h.bi;show(Bd.OB f.bi (Q5 o) ⟨o.ky,o.dv,o.sq,o.tm,o.vl⟩).1.length<=n+1;omega,by have:=h.ta;show f.ta.length<=n+1;omega⟩
 .exact h.mono zO
theorem acP(h:yu n f):yu (n+1) (ef4 o f):=by
 unfold ef4;split
 .exact ⟨by have:=h.ce;show f.ce.length<=n+1;omega,by have:=VL f.bi (Q5 o) o.ky;have:=h.bi;show(Bd.CZ f.bi (Q5 o) o.ky).1.length<=n+1;omega,by have:=h.ta;show f.ta.length<=n+1;omega⟩
 .exact h.mono zO
theorem acQ(h:yu n f):yu (n+1) (ef5 o f):=by
 unfold ef5;split
 .exact ⟨by have:=h.ce;show f.ce.length<=n+1;omega,by have:=h.bi;show f.bi.length<=n+1;omega,by have:=YD f.ta o.dv o.sq o.n;have:=h.ta;show(OJ f.ta o.dv o.sq o.n).1.length<=n+1;omega⟩
 .exact h.mono zO
variable {r:Tx.TE×Int}
theorem I5(h:yu n f):yu n (MB f r):=by
 unfold MB;split
 .exact ⟨h.ce,h.bi,h.ta⟩
 .exact h
theorem acR(h:yu n f):yu (n+1) (Gc o f):=by
 unfold Gc;split
 .exact acM h
 split
 .exact acN h
 split
 .exact acO h
 split
 .exact acP h
 split
 .exact acQ h
 split
 .exact (I5 h).mono zO
 split
 .exact (I5 h).mono zO
 .exact (I5 h).mono zO
structure agA(n:Nat)(d:DO):Prop where
 fs:d.fs.length<=n
 all:∀f∈d.fs,yu n f
variable {d:DO}
theorem VN(h:agA n d):agA (n+1) (Bn d o):=by
 unfold Bn;split
 .refine ⟨?_,fun f hf=>?_⟩
  .have:=YE (cO o) (Gc o) o d.fs;have:=h.fs;show(Ig (cO o) (Gc o) o d.fs).length<=n+1;omega
  .rcases OQ hf with hf|⟨y,hy,rfl⟩
   .exact (h.all f hf).mono zO
   .refine acR ?_;rcases hy with hy|rfl
    .exact h.all y hy
    .exact ⟨yN,yN,yN⟩
 .exact ⟨yN,fun f hf=>by cases hf⟩
variable {l:List Sq.CE}
theorem GA{c:Sq.CE}(h:Sq.kQ l)(hc:Sq.Cu c):Sq.kQ (Sq.rU l c):=by
 unfold Sq.rU;split
 .exact fun _ h=>by cases h
 .split
  .exact fun _ h=>by cases h
  .exact (h.HV hc).ord
theorem agB(ho:bV.Fw o)(h:Sq.kQ f.ce):Sq.kQ (ef1 o f).ce:=by
 unfold ef1;split
 .exact GA h (aec ho)
 .exact h
theorem acS{a b c:Int}(h:Sq.kQ l):Sq.kQ (Sq.Ez l a b c):=by
 unfold Sq.Ez;split
 .exact fun _ h=>by cases h
 .split
  .rename_i j _;intro x hx;obtain⟨i,hi,rfl⟩:=mem_iff_getElem.1 hx;unfold Sq.mY at hi |-;rw[length_modify]at hi;have:=h _ (y03 hi);rw[getElem_modify];split
   .exact this
   .exact this
  .exact fun _ h=>by cases h
theorem agC(h:Sq.kQ f.ce):Sq.kQ (ef2 o f).ce:=by
 unfold ef2;split
 .exact acS h
 .exact h
theorem VO{j:Nat}(h:Sq.kQ l):Sq.kQ (Sq.mY l j):=fun x hx=>by
 obtain⟨i,hi,rfl⟩:=mem_iff_getElem.1 hx;unfold Sq.mY at hi |-;rw[length_modify]at hi;have:=h _ (y03 hi);rw[getElem_modify];split
 .exact this
 .exact this
theorem Uf{a b c:Int}:∀{n k:Nat}{l r:List Sq.CE},Tx.vY a b c n k l=some r->Sq.kQ l->Sq.kQ r
 |0,_,_,_,h,ho=>by simp only[Tx.vY,y09]at h;exact h▸ho
 |n+1,k,l,r,h,ho=>by
  rw[Tx.vY]at h;split at h
  .exact Uf h (VO ho)
  .cases h
theorem ZR{dv sq tm:Int}{s:yP}(h1:Sq.fO dv)(h2:Sq.fO sq):∀(n k:Nat)(i:Sq.ID)(l:List Sq.CE),k+n<=64->Sq.fO i.1->Sq.fO i.2.1->Sq.fO i.2.2->Sq.kQ l->(Tx.TI dv sq tm s n k i l).1.length<=l.length+n/\Sq.kQ (Tx.TI dv sq tm s n k i l).1
 |0,_,_,_,_,_,_,_,h=>⟨yM,h⟩
 |n+1,k,i,l,hk,a,b,c,h=>by
  rw[Tx.TI];split
  .exact ⟨yN,nofun⟩
  .have hq:Sq.fO (k:Int):=by unfold Sq.fO;omega
   obtain⟨p,q⟩:=ZR h1 h2 n (k+1) (dv,sq,(k:Int)) (Sq.rU l (Tx.U9 dv sq tm k i s)) zO h1 h2 hq (GA h ⟨⟨h1,h2,hq⟩,a,b,c⟩);exact⟨by have:=Sq.Ib l (Tx.U9 dv sq tm k i s);omega,q⟩
structure Bg(n m:Nat)(t:Tx.TE):Prop where
 tc:t.cells.length<=n
 tm:t.bQ.length<=m
 ok:Tx.OkT t
theorem Nh(n m:Nat):Bg n m Tx.zT:=⟨yN,yN,⟨(fun _ h=>by cases h),(fun _ h=>by cases h)⟩⟩
variable {i:Sq.ID}{t:Tx.TE}
theorem agD{dv sq tm:Int}{s:yP}(h1:Sq.fO dv)(h2:Sq.fO sq)(a:Sq.fO i.1)(b:Sq.fO i.2.1)(c:Sq.fO i.2.2)(h:Bg n m t):Bg (n+64) (m+1) (Tx.Ve t dv sq tm i s).1:=by
 unfold Tx.Ve;split
 .exact Nh _ _
 split
 .exact Nh _ _
 .rename_i hs;obtain⟨p,q⟩:=ZR (s:=s) (tm:=tm) h1 h2 s.size 0 i t.cells zO a b c h.ok.cells;have:=h.tc;split
  .exact ⟨by show(Tx.TI dv sq tm s s.size 0 i t.cells).1.length<=_;omega,Nat.le_succ_of_le h.tm,⟨q,h.ok.bQ⟩⟩
  .exact Nh _ _
theorem agE{k:Int}(h:Bg n m t):Bg (n+64) (m+1) (Tx.Vg t i k).1:=by
 unfold Tx.Vg;split
 .exact Nh _ _
 split
 .exact Nh _ _
 split
 .rename_i l hl;have:=h.tc;exact⟨by have:=Tx.Ie hl;show l.length<=_;omega,Nat.le_succ_of_le h.tm,⟨Uf hl h.ok.cells,h.ok.bQ⟩⟩
 .exact Nh _ _
theorem agF{x:Tx.MK}(hx:Tx.OkM x)(h:Bg n m t):Bg (n+64) (m+1) (Tx.Vk t x).1:=by
 unfold Tx.Vk;split
 .exact Nh _ _
 split
 .exact Nh _ _
 split
 .exact Nh _ _
 .have:=Tx.Mv x t.bQ;have h2:=h.tm;refine⟨y10 h.tc zO,?_,⟨h.ok.cells,fun y hy=>?_⟩⟩
  .simp;omega
  .simp only[yI,mem_singleton]at hy;rcases hy with(hy|rfl)|hy
   .exact h.ok.bQ y (mem_of_mem_take hy)
   .exact hx
   .exact h.ok.bQ y (mem_of_mem_drop hy)
theorem RZ(h:Bg n m (Gb f))(hr:Bg (n+64) (m+1) r.1):Bg (n+64) (m+1) (Gb (MB f r)):=by
 unfold MB;split
 .exact hr
 .exact ⟨y10 h.tc zO,Nat.le_succ_of_le h.tm,h.ok⟩
theorem akX(h:bV.Fw o):Tx.OkM (mkO o):=⟨h.dv,h.sq,h.tm,h.f1,h.f2,h.f3,h.t1,h.t2,h.t3,h.n⟩
theorem agG(o:bV.OP)(f:FD):Gb (ef1 o f)=Gb f:=by grind[ef1]
theorem agH(o:bV.OP)(f:FD):Gb (ef2 o f)=Gb f:=by grind[ef2]
theorem ZT(o:bV.OP)(f:FD):Gb (ef3 o f)=Gb f/\(ef3 o f).ce=f.ce:=by grind[ef3]
theorem ZU(o:bV.OP)(f:FD):Gb (ef4 o f)=Gb f/\(ef4 o f).ce=f.ce:=by grind[ef4]
theorem ZV(o:bV.OP)(f:FD):Gb (ef5 o f)=Gb f/\(ef5 o f).ce=f.ce:=by grind[ef5]
theorem Ni(f:FD)(r:Tx.TE×Int):(MB f r).ce=f.ce:=by grind[MB]
theorem Bg.up(h:Bg n m t):Bg (n+64) (m+1) t:=⟨y10 h.tc zO,Nat.le_succ_of_le h.tm,h.ok⟩
theorem aeA(ho:bV.Fw o)(h:Bg n m (Gb f))(hc:Sq.kQ f.ce):Bg (n+64) (m+1) (Gb (Gc o f))/\Sq.kQ (Gc o f).ce:=by
 unfold Gc;split
 .exact ⟨agG o f▸h.up,agB ho hc⟩
 split
 .exact ⟨agH o f▸h.up,agC hc⟩
 split
 .exact ⟨(ZT o f).1▸h.up,(ZT o f).2▸hc⟩
 split
 .exact ⟨(ZU o f).1▸h.up,(ZU o f).2▸hc⟩
 split
 .exact ⟨(ZV o f).1▸h.up,(ZV o f).2▸hc⟩
 split
 .exact ⟨RZ h (agD ho.dv ho.sq ho.f1 ho.f2 ho.f3 h),by unfold ef6;rw[Ni];exact hc⟩
 split
 .grind [RZ,agE,ef7,Ni]
 .grind [RZ,agF,akX,ef8,Ni]
theorem VP(v:List D)(x:D):(uK v [x]).length<=v.length+1:=by
 unfold uK;split
 .exact KE _ _
 .exact yN
structure SmD(n:Nat)(d:DO):Prop where
 few:agA n d
 sn:d.sn.length<=n
 tx:∀f∈d.fs,Bg (64*n) n (Gb f)/\Sq.kQ f.ce
theorem aeB(n:Nat):SmD n ⟨[],[]⟩:=⟨⟨yN,nofun⟩,yN,nofun⟩
theorem ZW(ho:bV.Fw o)(h:SmD n d):SmD (n+1) (Bn d o):=by
 refine⟨VN h.few,?_,?_⟩
 .unfold Bn;split
  .have:=VP d.sn (o.dv,o.sq);have:=h.sn;show(uK d.sn [(o.dv,o.sq)]).length<=n+1;omega
  .exact yN
 .unfold Bn;have e:64*(n+1)=64*n+64:=zO
  rw[e];split
  .intro f hf;rcases OQ hf with hf|⟨y,hy,rfl⟩
   .exact ⟨(h.tx f hf).1.up,(h.tx f hf).2⟩
   .rcases hy with hy|rfl
    .exact aeA ho (h.tx y hy).1 (h.tx y hy).2
    .exact aeA ho ⟨yN,yN,(Yx o).tx⟩ (Yx o).ce
  .simp
theorem Pw:∀(l:List bV.OP){n:Nat}{d:DO},(∀o∈l,bV.Fw o)->SmD n d->SmD (n+l.length) (l.foldl Bn d)
 |[],_,_,_,h=>h
 |o::l,n,d,hl,h=>by
  have:=Pw l (fun x hx=>hl x (yF _ hx)) (ZW (hl o zS) h);rw[foldl_cons,yE,show n+(l.length+1)=n+1+l.length by omega];exact this
theorem Ug(l:List bV.OP)(hl:∀o∈l,bV.Fw o):SmD l.length (Gf l):=by
 have:=Pw l hl (aeB 0);rwa[y12]at this
theorem SmD.dim(h:SmD n d)(hn:n<=10000):Dim d/\∀x∈d.fs,x.ce.length<=999999:=by
 refine⟨⟨by have:=h.sn;omega,by have:=h.few.fs;omega,fun f hf=>?_,fun f hf=>?_⟩,fun f hf=>by have:=(h.few.all f hf).ce;omega⟩
 .have a:=h.few.all f hf;have b:=(h.tx f hf).1;have h1:=a.ce;have h2:=a.bi;have h3:=a.ta;have h4:f.tc.length<=64*n:=b.tc;have h5:f.tm.length<=n:=b.tm;exact⟨zO,zO,zO,zO,zO⟩
 .have b:=h.tx f hf;have h4:f.tc.length<=64*n:=b.1.tc;have h5:f.tm.length<=n:=b.1.tm;exact⟨b.2,b.1.ok,⟨by show f.tc.length<=_;omega,by show f.tm.length<=_;omega⟩⟩
theorem agI(h:SmD n d)(hn:n<=10000)(hk:bV.Okn o)(ho:bV.Fw o)(hc:o.cx.length<=1000000) :
 Cq 27 [kI d,bV.op o] (.bq [kI (Bn d o),int (EF d o)]):=by
 obtain⟨a,b⟩:=h.dim hn;have k:=Vl a hk ho hc b;unfold Bn;by_cases e:EF d o=0
 .grind
 .rw [yK e]at k |-;exact k.out (aF.iM ⟨aF.qo ⟨aF.nil 2,aF.nil 7,yO⟩,y34,yO⟩)
end Go.Dc
namespace Go.Am
open Go
variable {y:AV}{b j:Nat}
section
variable {P:Program} {G:Nat->Option (List AV)}
theorem Px{V:View}{cells:List AV}{x:AV}(hG:aD G V)(hb:V.H[b]?=some (.box cells))(hj:cells[j]?=some x)(hxy:aF x y):∃V':View,V'.w=V.w/\V'.H=V.H.set b (.box (cells.set j y))/\Step V V'/\aD G V':=by
 obtain⟨t,vs,h1,h2⟩:=hG.eP b _ hb;have JN:=(yC.1 hj).1;have hx:dI V x (vs.getD j undef):=by
  have:=h2.2 j JN;rwa[show cells.getD j .aP=x by rw[yB,hj];rfl]at this
 have hr:bR V (cells.set j y) vs:=by
  have:=h2.set j (hxy V _ hx);have e:vs.set j (vs.getD j undef)=vs:=by
   apply ext_getElem?;intro i;rw[getElem?_set];split
   .rename_i e;subst e;have:j<vs.length:=by rw[h2.1];exact JN
    rw[yL this,yB,yA this];rfl
   .rfl
  rwa[e]at this
 obtain⟨V2,l1,l2,l3,l4⟩:=wE (eP:=.box cells) (ou:=.box (cells.set j y)) (w':=V.w) hG hb rfl h1 h1 rfl (fun _ _=>rfl) rfl rfl rfl rfl trivial (fun V' hw hs=>⟨t,vs,by rw[hw];exact h1,hr.step hs⟩);exact⟨V2,l1,l2,l3,l4⟩
theorem bN.ZX{r:Option Nat}{n0:Nat}{c:Code}{s s':St}{ex:bF}{cells:List AV}{x:AV}(hb:s.H[b]?=some (.box cells))(hj:cells[j]?=some x)(hxy:aF x y)(h:bN P G r n0 c { aL:=s.aL,H:=s.H.set b (.box (cells.set j y)),dh:=s.dh } ex s'):bN P G r n0 c s ex s':=fun V0 V a h0 k1 k2 k3=>by
 obtain⟨V2,a1,a2,a3,a4⟩:=Px k2 (k3.H▸hb) hj hxy;rw[<- a1];exact h V0 V2 a h0 (k1.trans a3) a4 ⟨k3.aL.step a3,by rw[a2,k3.H],k3.dh.step a3⟩
end
end Go.Am
namespace Go.Dc
open Go Go.Am Go.Proofs Go.eY Go.bH
open Go.bV (OP op)
open Go.Mg (dQ dZ aW)
def mdS(l:List OP)(i:Nat)(d:DO):St:={ aL:=aC 20 [(2,.ptr 0 0),(6,dQ l),(7,int l.length),(8,int i)],H:=[.box [bB d.sn,Md d.fs]] }
def mdZ(l:List OP):St:={ aL:=aC 20 [(2,.ptr 0 0),(6,dQ l),(7,int l.length),(8,int (0:Nat))],H:=[.box [aK,aK]] }
def mdX(d:DO):St:={ aL:=aC 20 [(2,.ptr 0 0)],H:=[.box [bB d.sn,Md d.fs]] }
theorem an4(l:List OP)(o:OP)(i:Nat)(hl:l.length<=1000000)(hi:(i:Int)<(l.length:Int))(hx:l[i]?=some o)(d y:DO)(e:Int)(hA:Cq 27 [kI d,op o] (.bq [kI y,int e]))(ex:bF)(s':St)(h:Rq 0 25 0 (sM 20 [(2,.ptr 0 0),(6,dQ l),(7,int ↑l.length),(8,int ↑(i+1))] [.box [bB y.sn,.sl 7 false (dA y.fs)]]) ex s'):Rq 0 25 0 (mdS l i d) ex s':=by
 exact aJ [ki ((i:Int)<l.length),ke (bV.jy o) (dZ l) i (bG hx),kc [] hA,kW 18 (i+1) ↑(i+1)] (aB 20 [2,6,7,8]) 1 h
theorem an5(l:List OP)(i:Nat)(hi:¬(i:Int)<(l.length:Int))(d:DO)(h:True):Rq 0 25 0 (mdS l i d) (bF.exit 0) (mdX d):=by
 have _:=h;exact aG [kj ((i:Int)<l.length)] (aB 20 [2]) 1
theorem an6(ls l:List OP)(d:DO)(hR:Cq 16 [dQ ls] (dQ l))(hL:Rq 0 25 0 (mdZ l) (.exit 0) (mdX d))(h:True):Cq 25 [dQ ls] (kI d):=by
 have _:=h;exact aj [kc [] hR,kN 7 (Go.Mg.aW l),kl (rG [(0,2),(3,3),(9,11)]) 1 hL]
end Go.Dc
namespace Go.Dc
open Go Go.Am Go.Proofs Go.eY Go.bH
def ta0(a:List TL)(k:Nat):St:={ aL:=aC 26 [(0,mF a),(1,mF a),(4,Am.bool false),(5,int k)],H:=[] }
theorem an7(a:List TL)(k:Nat)(x:TL)(hv:a.length<=1000000000)(hk:(k:Int)<(a.length:Int))(hx:a[k]?=some x)(ex:bF)(s':St)(h:((((x.1==x.1&&(Prod.fst x.2==Prod.fst x.2&&Prod.snd x.2==Prod.snd x.2))=true)->Rq 0 79 0 (sM 26 [(0,.sl 3 false (lH a)),(1,.sl 3 false (lH a)),(4,Am.bool false),(5,int ↑(k+1))] []) ex s')/\(((x.1==x.1&&(Prod.fst x.2==Prod.fst x.2&&Prod.snd x.2==Prod.snd x.2))=false)->(bF.ret=ex)/\(sM 26 [(4,Am.bool false)] []=s')))):Rq 0 79 0 (ta0 a k) ex s':=by
 have jw:(0:Int)<=(k:Int)/\(lH a)[Int.toNat (k:Int)]?=some (ze x):=(bG hx);let l1:List fP:=[kN 13 (dP a),ki ((k:Int)<a.length),ko (bC.elem (ze x)),ko (bC.elem (ze x)),kp jw,kp jw];rcases y00 ((x.1==x.1&&(Prod.fst x.2==Prod.fst x.2&&Prod.snd x.2==Prod.snd x.2)))with c2|c2
 .have h:=h.1 c2;exact aJ (l1++[kf (y32 (c2)),kW 16 (k+1) ↑(k+1)]) (aB 26 [0,1,4,5]) 0 h
 .have h:=h.2 c2;obtain⟨eX,eS⟩:=h;exact bN.to ((aG (l1++[kt (show(!(x.1==x.1&&(Prod.fst x.2==Prod.fst x.2&&Prod.snd x.2==Prod.snd x.2)))=true from(y32 (c2)))]) (aB 26 [4]) 0)) eX (eB.of_eq eS)
theorem an8(a:List TL)(k:Nat)(hk:¬(k:Int)<(a.length:Int))(h:True):Rq 0 79 0 (ta0 a k) (bF.exit 0) (sM 26 [(4,Am.bool false)] []):=by
 exact aG [kN 13 (dP a),kj ((k:Int)<a.length)] (aB 26 [4]) 0
theorem an9(a:List TL)(hL:Rq 0 79 0 (ta0 a 0) (.exit 0) { aL:=aC 26 [(4,Am.bool false)],H:=[] })(h:True):Cq 79 [mF a,mF a] (Am.bool true):=by
 have bS:=lU (dP a);exact aj [kv 7 bS,kv 9 bS,kf (show((a.length:Int)!=(a.length:Int))=false from(y32 (qT zO))),kl (rG [(2,2),(6,20)]) 0 hL]
def sc0(a:List Sq.CE)(k:Nat):St:={ aL:=aC 26 [(0,Sq.bZ a),(1,Sq.bZ a),(4,Am.bool false),(5,int k)],H:=[] }
theorem aoa(a:List Sq.CE)(k:Nat)(x:Sq.CE)(hv:a.length<=1000000000)(hk:(k:Int)<(a.length:Int))(hx:a[k]?=some x)(ex:bF)(s':St)(h:((((x.dv==x.dv&&(x.sq==x.sq&&(x.gU==x.gU&&(x.ad==x.ad&&(x.j6==x.j6&&(x.aa==x.aa&&(x.tm==x.tm&&(x.vl==x.vl&&x.gn==x.gn))))))))=true)->Rq 0 105 0 (sM 26 [(0,.sl 9 false (Sq.au a)),(1,.sl 9 false (Sq.au a)),(4,Am.bool false),(5,int ↑(k+1))] []) ex s')/\(((x.dv==x.dv&&(x.sq==x.sq&&(x.gU==x.gU&&(x.ad==x.ad&&(x.j6==x.j6&&(x.aa==x.aa&&(x.tm==x.tm&&(x.vl==x.vl&&x.gn==x.gn))))))))=false)->(bF.ret=ex)/\(sM 26 [(4,Am.bool false)] []=s')))):Rq 0 105 0 (sc0 a k) ex s':=by
 have jw:(0:Int)<=(k:Int)/\(Sq.au a)[Int.toNat (k:Int)]?=some (Sq.aQ x):=(bG hx);let l1:List fP:=[kv 13 (show Am.aF (int (↑(length (Sq.au a)):Int)) (int ↑a.length)from(aF.of_eq (by simp only[Go.Sq.ay]))),ki ((k:Int)<a.length),ko (bC.elem (Sq.aQ x)),ko (bC.elem (Sq.aQ x)),kp jw,kp jw];rcases y00 ((x.dv==x.dv&&(x.sq==x.sq&&(x.gU==x.gU&&(x.ad==x.ad&&(x.j6==x.j6&&(x.aa==x.aa&&(x.tm==x.tm&&(x.vl==x.vl&&x.gn==x.gn)))))))))with c2|c2
 .have h:=h.1 c2;exact aJ (l1++[kf (y32 (c2)),kW 16 (k+1) ↑(k+1)]) (aB 26 [0,1,4,5]) 0 h
 .have h:=h.2 c2;obtain⟨eX,eS⟩:=h;exact bN.to ((aG (l1++[kt (show(!(x.dv==x.dv&&(x.sq==x.sq&&(x.gU==x.gU&&(x.ad==x.ad&&(x.j6==x.j6&&(x.aa==x.aa&&(x.tm==x.tm&&(x.vl==x.vl&&x.gn==x.gn)))))))))=true from(y32 (c2)))]) (aB 26 [4]) 0)) eX (eB.of_eq eS)
theorem aob(a:List Sq.CE)(k:Nat)(hk:¬(k:Int)<(a.length:Int))(h:True):Rq 0 105 0 (sc0 a k) (bF.exit 0) (sM 26 [(4,Am.bool false)] []):=by
 exact aG [kv 13 (show Am.aF (int (↑(length (Sq.au a)):Int)) (int ↑a.length)from(aF.of_eq (by simp only[Go.Sq.ay]))),kj ((k:Int)<a.length)] (aB 26 [4]) 0
theorem aoc(a:List Sq.CE)(hL:Rq 0 105 0 (sc0 a 0) (.exit 0) { aL:=aC 26 [(4,Am.bool false)],H:=[] })(h:True):Cq 105 [Sq.bZ a,Sq.bZ a] (Am.bool true):=by
 have bS:Am.aF (int (↑(length (Sq.au a)):Int)) (int ↑a.length):=(aF.of_eq (by simp only[Go.Sq.ay]));exact aj [kv 7 bS,kv 9 bS,kf (show((a.length:Int)!=(a.length:Int))=false from(y32 (qT zO))),kl (rG [(2,2),(6,20)]) 0 hL]
abbrev sxB(t:Tx.TE):List ah:=[.box [Sq.bZ t.cells,Tx.oI t.bQ],.box [Sq.bZ t.cells,Tx.oI t.bQ]]
def sx0(t:Tx.TE)(k:Nat):St:={ aL:=aC 39 [(2,.ptr 0 0),(3,.ptr 1 0),(4,Am.bool false),(5,int k)],H:=sxB t }
theorem aod(t:Tx.TE)(k:Nat)(x:Tx.MK)(hv:t.bQ.length<=1000000000)(hk:(k:Int)<(t.bQ.length:Int))(hx:t.bQ[k]?=some x)(ex:bF)(s':St)(h:((((x.dv==x.dv&&(x.sq==x.sq&&(x.tm==x.tm&&(x.fd==x.fd&&(x.fs==x.fs&&(x.fa==x.fa&&(x.td==x.td&&(x.ts==x.ts&&(x.ta==x.ta&&(x.st==x.st&&x.on==x.on))))))))))=true)->Rq 0 80 0 (sM 39 [(2,.ptr 0 0),(3,.ptr 1 0),(4,Am.bool false),(5,int ↑(k+1))] [.box [.sl 9 false (Sq.au t.cells),.sl 11 false (Tx.au t.bQ)],.box [.sl 9 false (Sq.au t.cells),.sl 11 false (Tx.au t.bQ)]]) ex s')/\(((x.dv==x.dv&&(x.sq==x.sq&&(x.tm==x.tm&&(x.fd==x.fd&&(x.fs==x.fs&&(x.fa==x.fa&&(x.td==x.td&&(x.ts==x.ts&&(x.ta==x.ta&&(x.st==x.st&&x.on==x.on))))))))))=false)->(bF.ret=ex)/\(sM 39 [(4,Am.bool false)] [.box [.sl 9 false (Sq.au t.cells),.sl 11 false (Tx.au t.bQ)],.box [.sl 9 false (Sq.au t.cells),.sl 11 false (Tx.au t.bQ)]]=s')))):Rq 0 80 0 (sx0 t k) ex s':=by
 have jw:(0:Int)<=(k:Int)/\(Tx.au t.bQ)[Int.toNat (k:Int)]?=some (Tx.aQ x):=(bG hx);let l1:List fP:=[kv 24 (show Am.aF (int (↑(length (Tx.au t.bQ)):Int)) (int ↑(length t.bQ))from(aF.of_eq (by simp only[Go.Tx.ay]))),ki ((k:Int)<(↑(length t.bQ):Int)),ko (bC.elem (Tx.aQ x)),ko (bC.elem (Tx.aQ x)),kp jw,kp jw];rcases y00 ((x.dv==x.dv&&(x.sq==x.sq&&(x.tm==x.tm&&(x.fd==x.fd&&(x.fs==x.fs&&(x.fa==x.fa&&(x.td==x.td&&(x.ts==x.ts&&(x.ta==x.ta&&(x.st==x.st&&x.on==x.on)))))))))))with c2|c2
 .have h:=h.1 c2;exact aJ (l1++[kf (y32 (c2)),kW 27 (k+1) ↑(k+1)]) (aB 39 [2,3,4,5]) 2 h
 .have h:=h.2 c2;obtain⟨eX,eS⟩:=h;exact bN.to ((aG (l1++[kt (show(!(x.dv==x.dv&&(x.sq==x.sq&&(x.tm==x.tm&&(x.fd==x.fd&&(x.fs==x.fs&&(x.fa==x.fa&&(x.td==x.td&&(x.ts==x.ts&&(x.ta==x.ta&&(x.st==x.st&&x.on==x.on)))))))))))=true from(y32 (c2)))]) (aB 39 [4]) 2)) eX (eB.of_eq eS)
theorem aoe(t:Tx.TE)(k:Nat)(hk:¬(k:Int)<(t.bQ.length:Int))(h:True):Rq 0 80 0 (sx0 t k) (bF.exit 0) (St.mk (aC 39 [(4,Am.bool false)]) (sxB t) []):=by
 exact aG [kv 24 (show Am.aF (int (↑(length (Tx.au t.bQ)):Int)) (int ↑(length t.bQ))from(aF.of_eq (by simp only[Go.Tx.ay]))),kj ((k:Int)<(↑(length t.bQ):Int))] (aB 39 [4]) 2
theorem aof(t:Tx.TE)(hS:Cq 105 [Sq.bZ t.cells,Sq.bZ t.cells] (Am.bool true))(hL:Rq 0 80 0 (sx0 t 0) (.exit 0) { aL:=aC 39 [(4,Am.bool false)],H:=sxB t })(h:True):Cq 80 [Tx.mG t,Tx.mG t] (Am.bool true):=by
 have fT:Am.aF (int (↑(length (Tx.au t.bQ)):Int)) (int ↑(length t.bQ)):=(aF.of_eq (by simp only[Go.Tx.ay]));exact aj [kc [] hS,kY,kv 15 fT,kv 18 fT,kf (show((↑(length t.bQ):Int)!=(↑(length t.bQ):Int))=false from(y32 (qT zO))),kl (rG [(0,2),(6,33)]) 2 hL]
theorem aog(f:FD)(h3:Cq 77 [Sq.bZ f.ce,Sq.bZ f.ce] (Am.bool true))(h4:Cq 78 [Bd.iK f.bi,Bd.iK f.bi] (Am.bool true))(h5:Cq 79 [mF f.ta,mF f.ta] (Am.bool true))(h6:Cq 80 [Tx.mG (Gb f),Tx.mG (Gb f)] (Am.bool true))(o:Bool)(h:((((f.pk==f.pk&&f.pn==f.pn)=true)->(true)=(o))/\(((f.pk==f.pk&&f.pn==f.pn)=false)->(false)=(o)))):Cq 49 [.agg (jB f),.agg (jB f)] (Am.bool o):=by
 rcases y00 ((f.pk==f.pk&&f.pn==f.pn))with c1|c1
 .have h:=h.1 c1;exact aA (aF.aI h) [kt c1,kc [] h3,kO,kc [] h4,kO,kc [] h5,kO,kc [] h6]
 .have h:=h.2 c1;exact aA (aF.aI h) [kf c1,kY,kY,kY]
abbrev sdB(d:DO):List ah:=[.box [bB d.sn,Md d.fs],.box [bB d.sn,Md d.fs]]
def sd0(d:DO)(k:Nat):St:={ aL:=aC 40 [(2,.ptr 0 0),(3,.ptr 1 0),(4,Am.bool false),(5,int k)],H:=sdB d }
theorem aoh(d:DO)(k:Nat)(x:FD)(hv:d.fs.length<=1000000000)(hk:(k:Int)<(d.fs.length:Int))(hx:d.fs[k]?=some x)(hS:Cq 49 [.agg (jB x),.agg (jB x)] (Am.bool true))(ex:bF)(s':St)(h:Rq 0 26 0 (sM 40 [(2,.ptr 0 0),(3,.ptr 1 0),(4,Am.bool false),(5,int ↑(k+1))] [.box [bB d.sn,.sl 7 false (dA d.fs)],.box [bB d.sn,.sl 7 false (dA d.fs)]]) ex s'):Rq 0 26 0 (sd0 d k) ex s':=by
 have jw:(0:Int)<=(k:Int)/\(dA d.fs)[Int.toNat (k:Int)]?=some (jB x):=(bG hx);exact aJ [kN 24 (fE d.fs),ki ((k:Int)<(↑(length d.fs):Int)),ko (bC.elem (jB x)),ko (bC.elem (jB x)),kp jw,kp jw,kc [] hS,kY,kW 27 (k+1) ↑(k+1)] (aB 40 [2,3,4,5]) 2 h
theorem aoi(d:DO)(k:Nat)(hk:¬(k:Int)<(d.fs.length:Int))(h:True):Rq 0 26 0 (sd0 d k) (bF.exit 0) (St.mk (aC 40 [(4,Am.bool false)]) (sdB d) []):=by
 exact aG [kN 24 (fE d.fs),kj ((k:Int)<(↑(length d.fs):Int))] (aB 40 [4]) 2
theorem aoj(d:DO)(hS:Cq 18 [bB d.sn,bB d.sn] (Am.bool true))(hL:Rq 0 26 0 (sd0 d 0) (.exit 0) { aL:=aC 40 [(4,Am.bool false)],H:=sdB d })(h:True):Cq 26 [kI d,kI d] (Am.bool true):=by
 have fT:=lU (fE d.fs);exact aj [kc [] hS,kY,kv 15 fT,kv 18 fT,kf (show((↑(length d.fs):Int)!=(↑(length d.fs):Int))=false from(y32 (qT zO))),kl (rG [(0,2),(6,34)]) 2 hL]
open Go.bV (OP op)
open Go.Mg (dQ)
structure OkO(o:OP):Prop where
 n:bV.Okn o
 p:bV.Fw o
 c:o.cx.length<=1000000
variable {l:List OP}
theorem VQ{k:Nat}(h:k<l.length):Gf (l.take (k+1))=Bn (Gf (l.take k)) l[k]:=by grind[Gf,take_append_getElem]
theorem acT(hl:l.length<=10000)(hk:∀o∈l,OkO o):∀n k,l.length-k=n->k<=l.length->Rq 0 25 0 (mdS l k (Gf (l.take k))) (.exit 0) (mdX (Gf l)):=by
 intro n
 induction n with
 |zero =>
  intro k h1 h2;rw[y27 zO];exact an5 l k zO _ trivial
 |succ n ih =>
  intro k h1 h2;have bg:k<l.length:=zO
  have hm:=hk _ (y03 bg);have nx:=ih (k+1) zO zO;rw[VQ bg]at nx;have hs:=Ug (l.take k) fun o ho=>(hk o (mem_of_mem_take ho)).p;exact an4 l l[k] k zO zO (yA bg) _ _ _ (agI hs (by rw[y22];omega) hm.n hm.p hm.c) _ _ nx
theorem akY{ls:List OP}(hl:l.length<=10000)(hk:∀o∈l,OkO o)(hR:Cq 16 [dQ ls] (dQ l)):Cq 25 [dQ ls] (kI (Gf l)):=by
 have h:=acT hl hk _ 0 rfl yN;refine an6 ls l _ hR ?_ trivial;refine bN.ZX (b:=0) (j:=0) (cells:=[aK,aK]) rfl rfl (aF.nil 2) ?_;exact bN.ZX (b:=0) (j:=1) (cells:=[bB [],aK]) rfl rfl (aF.nil 7) h
theorem acU(a:List TL)(hv:a.length<=1000000000):∀n k,a.length-k=n->k<=a.length->Rq 0 79 0 (ta0 a k) (.exit 0) { aL:=aC 26 [(4,Am.bool false)],H:=[] }:=by
 intro n
 induction n with
 |zero=>exact fun k h1 h2=>an8 a k zO trivial
 |succ n ih =>
  intro k h1 h2;exact an7 a k a[k] hv zO (yA zO) _ _ ⟨fun _=>ih (k+1) zO zO,fun h=>by simp[Sq.tN]at h⟩
theorem acV(a:List Sq.CE)(hv:a.length<=1000000000):∀n k,a.length-k=n->k<=a.length->Rq 0 105 0 (sc0 a k) (.exit 0) { aL:=aC 26 [(4,Am.bool false)],H:=[] }:=by
 intro n
 induction n with
 |zero=>exact fun k h1 h2=>aob a k zO trivial
 |succ n ih =>
  intro k h1 h2;exact aoa a k a[k] hv zO (yA zO) _ _ ⟨fun _=>ih (k+1) zO zO,fun h=>by simp[Sq.tN]at h⟩
theorem acW(t:Tx.TE)(hv:t.bQ.length<=1000000000):∀n k,t.bQ.length-k=n->k<=t.bQ.length->Rq 0 80 0 (sx0 t k) (.exit 0) { aL:=aC 39 [(4,Am.bool false)],H:=sxB t }:=by
 intro n
 induction n with
 |zero=>exact fun k h1 h2=>aoe t k zO trivial
 |succ n ih =>
  intro k h1 h2;exact aod t k t.bQ[k] hv zO (yA zO) _ _ ⟨fun _=>ih (k+1) zO zO,fun h=>by simp[Sq.tN]at h⟩
theorem aok(f:FD)(h:XW f):Cq 49 [.agg (jB f),.agg (jB f)] (Am.bool true):=by
 obtain⟨h1,h2,h3,h4,h5⟩:=h;have a:=Sq.up (Sq.Vi f.ce zO);have b:=Bd.C9 f.bi f.bi zO zO;rw[y19 rfl]at b;have c:=an9 f.ta (acU f.ta zO _ 0 rfl yN) trivial;have d:=aoc f.tc (acV f.tc zO _ 0 rfl yN) trivial;have e:=aof (Gb f) d (acW (Gb f) (by show f.tm.length<=_;omega) _ 0 rfl yN) trivial;exact aog f a b c e true ⟨fun _=>rfl,fun h=>by simp[Sq.tN]at h⟩
theorem ZY(d:DO)(h:Dim d):Cq 26 [kI d,kI d] (Am.bool true):=by
 have hl:=h.fs;have hn:=h.sn;have lp:∀n k,d.fs.length-k=n->k<=d.fs.length->Rq 0 26 0 (sd0 d k) (.exit 0) { aL:=aC 40 [(4,Am.bool false)],H:=sdB d }:=by
  intro n
  induction n with
  |zero=>exact fun k h1 h2=>aoi d k zO trivial
  |succ n ih =>
   intro k h1 h2;have bg:k<d.fs.length:=zO
   exact aoh d k d.fs[k] zO zO (yA bg) (aok _ (h.len _ (y03 bg))) _ _ (ih (k+1) zO zO)
 have hs:=bH.zG d.sn d.sn zO;rw[y19 rfl]at hs;exact aoj d hs (lp _ 0 rfl yN) trivial
end Go.Dc
namespace Go.Dc
open Go Go.Am Go.Proofs Go.eY Go.bH
open Go.bV (OP op)
open Go.Mg (dQ dZ aW)
def pk1(t:Nat):List AV:=[.lit (.int .u8 (t:Int))]
def pks(p:List Nat):AV:=.sl 1 false (p.map pk1)
theorem atw(p:List Nat):(p.map pk1).length=p.length:=zS
def avq(d:DO):List ah:=[.aH,.box [bB d.sn,Md d.fs]]
def avr(ls r:List OP)(ps:List Nat)(m:Nat)(d:DO):St:={ aL:=aC 84 [(0,dQ ls),(1,pks ps),(5,dQ r),(6,.ptr 1 0),(7,int m)],H:=avq d }
def avs(ls:List OP)(d:DO):St:={ aL:=aC 84 [(0,dQ ls),(6,.ptr 1 0)],H:=avq d }
def avt(ls l:List OP)(ps:List Nat):St:={ aL:=aC 84 [(0,dQ ls),(1,pks ps),(5,.aU 0 0 0 l.length),(6,.ptr 1 0),(7,int (0:Nat))],H:=[.aN 0 17 false (dZ l),.box [aK,aK]] }
def ava(ls:List OP)(ps:List Nat):St:={ aL:=aC 84 [(0,dQ ls),(1,pks ps),(5,.sl 17 true []),(6,.ptr 0 0),(7,int (0:Nat))],H:=[.box [aK,aK]] }
def avb(ls:List OP)(ps:List Nat):St:={ aL:=aC 84 [(0,dQ ls),(1,pks ps),(5,.sl 17 true []),(6,.ptr 0 0),(7,int (0:Nat))],H:=[.box [bB [],Md []]] }
def au0(ls:List OP):St:={ aL:=aC 84 [(0,dQ ls),(6,.ptr 0 0)],H:=[.box [bB [],Md []]] }
def aiS(ls r:List OP)(ps:List Nat)(m f k:Nat)(b:Bool)(d:DO):St:={ aL:=aC 84 [(0,dQ ls),(1,pks ps),(5,dQ r),(6,.ptr 1 0),(7,int m),(8,int f),(9,Am.bool b),(10,int k)],H:=avq d }
def avu(ls r:List OP)(ps:List Nat)(m:Nat)(b:Bool)(d:DO):St:={ aL:=aC 84 [(0,dQ ls),(1,pks ps),(5,dQ r),(6,.ptr 1 0),(7,int m),(9,Am.bool b)],H:=avq d }
theorem avc(ls r:List OP)(ps:List Nat)(m f k:Nat)(o:OP)(d:DO)(hl:r.length<=10000)(hf:f<256)(hk:(k:Int)<(r.length:Int))(ht:Int.tmod (↑(f+k):Int) (r.length:Int)=(((f+k) % r.length:Nat):Int))(hir:(f+k) % r.length<r.length)(hx:r[(f+k) % r.length]?=some o)(z:DO)(hA:Cq 27 [kI d,op o] (.bq [kI z,int 181]))(ex:bF)(s':St)(h:Rq 0 7 1 (sM 84 [(0,dQ ls),(1,.sl 1 false (List.map pk1 ps)),(5,dQ r),(6,.ptr 1 0),(7,int ↑m),(8,int ↑f),(9,Am.bool false),(10,int ↑(k+1))] [.aH,.box [bB d.sn,.sl 7 false (dA d.fs)]]) ex s'):Rq 0 7 1 (aiS ls r ps m f k false d) ex s':=by
 have bS:=lU (Go.Mg.aW r);exact aJ [kv 40 bS,ki ((k:Int)<r.length),kO,kW 50 ((f:Int)+(k:Int)) (↑(f+k):Int),kv 52 bS,ko (bC.elem (bV.jy o)),kp (show(r.length:Int)≠(0:Int)from zO),kp (show(0:Int)<=Int.tmod (↑(f+k):Int) (r.length:Int)/\(dZ r)[Int.toNat (Int.tmod (↑(f+k):Int) (r.length:Int))]?=some (bV.jy o)from(bG hx)),kc [] hA,kY,kY,kW 47 (k+1) ↑(k+1)] (aB 84 [0,1,5,6,7,8,9,10]) 2 h
theorem amW(ls r:List OP)(ps:List Nat)(m f k:Nat)(o:OP)(d y:DO)(hl:r.length<=10000)(hf:f<256)(hk:(k:Int)<(r.length:Int))(ht:Int.tmod (↑(f+k):Int) (r.length:Int)=(((f+k) % r.length:Nat):Int))(hir:(f+k) % r.length<r.length)(hx:r[(f+k) % r.length]?=some o)(hA:Cq 27 [kI d,op o] (.bq [kI y,int 0]))(ex:bF)(s':St)(h:(((List.drop 0 (List.take ((f+k) % length r) (dZ r))=[])->(((List.drop ((f+k) % length r+1) (List.take r.length (dZ r))=[])->Rq 0 7 1 (sM 84 [(0,dQ ls),(1,.sl 1 false (List.map pk1 ps)),(5,.sl 17 true []),(6,.ptr 1 0),(7,int ↑m),(8,int ↑f),(9,Am.bool true),(10,int ↑(k+1))] [.aH,.box [bB y.sn,.sl 7 false (dA y.fs)]]) ex s')/\((¬List.drop ((f+k) % length r+1) (List.take r.length (dZ r))=[])->(((0+length (List.drop ((f+k) % length r+1) (List.take r.length (dZ r))))*176<=140737488355328)/\Rq 0 7 1 (sM 84 [(0,dQ ls),(1,.sl 1 false (List.map pk1 ps)),(5,.aU 3 0 0 (0+length (List.drop ((f+k) % length r+1) (List.take r.length (dZ r))))),(6,.ptr 1 0),(7,int ↑m),(8,int ↑f),(9,Am.bool true),(10,int ↑(k+1))] [.aH,.box [bB y.sn,.sl 7 false (dA y.fs)],.box [bB y.sn,.sl 7 false (dA y.fs)],.aN 0 17 false (List.drop ((f+k) % length r+1) (List.take r.length (dZ r)))]) ex s'))))/\((¬List.drop 0 (List.take ((f+k) % length r) (dZ r))=[])->(((0+length (List.drop 0 (List.take ((f+k) % length r) (dZ r))))*176<=140737488355328)/\(((0+length (List.drop 0 (List.take ((f+k) % length r) (dZ r)))+length (List.drop ((f+k) % length r+1) (List.take r.length (dZ r))))*176<=140737488355328)/\Rq 0 7 1 (sM 84 [(0,dQ ls),(1,.sl 1 false (List.map pk1 ps)),(5,.aU 3 1 0 (0+length (List.drop 0 (List.take ((f+k) % length r) (dZ r)))+length (List.drop ((f+k) % length r+1) (List.take r.length (dZ r))))),(6,.ptr 1 0),(7,int ↑m),(8,int ↑f),(9,Am.bool true),(10,int ↑(k+1))] [.aH,.box [bB y.sn,.sl 7 false (dA y.fs)],.box [bB y.sn,.sl 7 false (dA y.fs)],.aN 1 17 false (List.drop 0 (List.take ((f+k) % length r) (dZ r))++List.drop ((f+k) % length r+1) (List.take r.length (dZ r)))]) ex s'))))):Rq 0 7 1 (aiS ls r ps m f k false d) ex s':=by
 have bS:=lU (Go.Mg.aW r);have OG:(0:Int)<=(0:Int)/\(0:Int)<=Int.tmod (↑(f+k):Int) (r.length:Int)/\Int.tmod (↑(f+k):Int) (r.length:Int)<=(↑(length (dZ r)):Int):=(by rw[Go.Mg.aW];omega);let l1:List fP:=[kv 40 bS,ki ((k:Int)<r.length),kO,kW 50 ((f:Int)+(k:Int)) (↑(f+k):Int),kv 52 bS,ko (bC.elem (bV.jy o)),kp (show(r.length:Int)≠(0:Int)from zO),kp (show(0:Int)<=Int.tmod (↑(f+k):Int) (r.length:Int)/\(dZ r)[Int.toNat (Int.tmod (↑(f+k):Int) (r.length:Int))]?=some (bV.jy o)from(bG hx)),kc [] hA,kO];by_cases c2:(List.drop 0 (List.take ((f+k) % length r) (dZ r))=[])
 .have h:=h.1 c2;have H6:Am.aF (int (IntKind.wrap IntKind.i64 (Int.tmod (↑(f+k):Int) (r.length:Int)+1))) (int (↑((f+k) % length r+1):Int)):=(aF.TJ zO zO zO);have Qy:Am.aF (AV.sl 17 false (List.drop (Int.toNat (↑((f+k) % length r+1):Int)) (List.take (Int.toNat (↑(length (dZ r)):Int)) (dZ r)))) (AV.sl 17 false (List.drop ((f+k) % length r+1) (List.take r.length (dZ r)))):=(aF.of_eq (by simp only[Go.Mg.aW,y31]));have hz9:(0:Int)<=(↑((f+k) % length r+1):Int)/\(↑((f+k) % length r+1):Int)<=(↑(length (dZ r)):Int)/\(↑(length (dZ r)):Int)<=(↑(length (dZ r)):Int):=(by rw[Go.Mg.aW];omega);by_cases c3:(List.drop ((f+k) % length r+1) (List.take r.length (dZ r))=[])
  .have h:=h.1 c3;exact aJ (l1++[ko (bC.LV),kp OG,kp c2,kv 73 H6,kv 74 Qy,ko (bC.LV),kp hz9,kp c3,kW 47 (k+1) ↑(k+1)]) (aB 84 [0,1,5,6,7,8,9,10]) 2 h
  .have h:=h.2 c3;obtain⟨o4,h⟩:=h;exact aJ (l1++[ko (bC.LV),kp OG,kp c2,kv 73 H6,kv 74 Qy,kp hz9,kp c3,kp o4,kW 47 (k+1) ↑(k+1)]) (aB 84 [0,1,5,6,7,8,9,10]) 4 h
 .have h:=h.2 c2;obtain⟨o5,h⟩:=h;obtain⟨o6,h⟩:=h;exact aJ (l1++[kp OG,kp c2,kp o5,kW 73 (Int.tmod (↑(f+k):Int) (r.length:Int)+1) (↑((f+k) % length r+1):Int),kv 74 (show Am.aF (AV.sl 17 false (List.drop (Int.toNat (↑((f+k) % length r+1):Int)) (List.take (Int.toNat (↑(length (dZ r)):Int)) (dZ r)))) (AV.sl 17 false (List.drop ((f+k) % length r+1) (List.take r.length (dZ r))))from(aF.of_eq (by simp only[Go.Mg.aW,y31]))),Ga (↑((f+k) % length r+1):Int) (↑(length (dZ r)):Int) (↑(length (dZ r)):Int) (by rw[Go.Mg.aW];omega),kq 0,kp (show 0+length (List.drop 0 (List.take (Int.toNat (Int.tmod (↑(f+k):Int) (r.length:Int))) (dZ r)))=length (List.drop 0 (List.take (Int.toNat (Int.tmod (↑(f+k):Int) (r.length:Int))) (dZ r)))from zO),kp o6,kW 47 (k+1) ↑(k+1)]) (aB 84 [0,1,5,6,7,8,9,10]) 4 h
theorem avd(ls r:List OP)(ps:List Nat)(m f k:Nat)(d:DO)(h:((((k:Int)<(r.length:Int))->True)/\((¬(k:Int)<(r.length:Int))->True))):Rq 0 7 1 (aiS ls r ps m f k true d) (bF.exit 2) (avu ls r ps m true d):=by
 have bS:=lU (Go.Mg.aW r);by_cases c1:((k:Int)<(r.length:Int))
 .have h:=h.1 c1;have _:=h;exact aG [kv 40 bS,kt (qT c1),kY] (aB 84 [0,1,5,6,7,9]) 2
 .have h:=h.2 c1;have _:=h;exact aG [kv 40 bS,kf (qF c1),kY] (aB 84 [0,1,5,6,7,9]) 2
theorem ave(ls:List OP)(ps:List Nat)(m:Nat)(d:DO)(h:True):Rq 0 7 0 (avr ls [] ps m d) (bF.exit 0) (avs ls d):=by
 have _:=h;exact aG [kY] (aB 84 [0,6]) 2
theorem avf(ls r q:List OP)(ps:List Nat)(m t:Nat)(d y:DO)(hr:(r.length:Int)>0)(hm:(m:Int)<(ps.length:Int))(dG:ps.length<=9223372036854775807)(hx:ps[m]?=some t)(ht:t<256)(hL:Rq 0 7 1 (aiS ls r ps m t 0 false d) (.exit 2) (avu ls q ps m true y))(ex:bF)(s':St)(h:Rq 0 7 0 (sM 84 [(0,dQ ls),(1,.sl 1 false (List.map pk1 ps)),(5,dQ q),(6,.ptr 1 0),(7,int ↑(m+1))] [.aH,.box [bB y.sn,.sl 7 false (dA y.fs)]]) ex s'):Rq 0 7 0 (avr ls r ps m d) ex s':=by
 exact aJ [kN 25 (Go.Mg.aW r),ki ((r.length:Int)>0),kv 31 (show Am.aF (int (↑(length (List.map pk1 ps)):Int)) (int ↑ps.length)from(aF.of_eq (by simp only[atw,y31]))),ki ((m:Int)<ps.length),ke (pk1 t) (List.map pk1 ps) m (bG hx),kW 37 (t:Int) (t:Int),kl (rG [(24,3),(29,9)]) 2 hL,kY,kW 28 (m+1) ↑(m+1)] (aB 84 [0,1,5,6,7]) 2 h
theorem avg(ls r q:List OP)(ps:List Nat)(m:Nat)(d y:DO)(hr:(r.length:Int)>0)(hm:¬(m:Int)<(ps.length:Int))(hM:m<=20000)(hL:Rq 0 7 1 (aiS ls r ps m 0 0 false d) (.exit 2) (avu ls q ps m true y))(ex:bF)(s':St)(h:Rq 0 7 0 (sM 84 [(0,dQ ls),(1,.sl 1 false (List.map pk1 ps)),(5,dQ q),(6,.ptr 1 0),(7,int ↑(m+1))] [.aH,.box [bB y.sn,.sl 7 false (dA y.fs)]]) ex s'):Rq 0 7 0 (avr ls r ps m d) ex s':=by
 exact aJ [kN 25 (Go.Mg.aW r),ki ((r.length:Int)>0),kv 31 (show Am.aF (int (↑(length (List.map pk1 ps)):Int)) (int ↑ps.length)from(aF.of_eq (by simp only[atw,y31]))),kj ((m:Int)<ps.length),kl (rG [(24,3),(29,4)]) 2 hL,kY,kW 28 (m+1) ↑(m+1)] (aB 84 [0,1,5,6,7]) 2 h
theorem avh(ls:List OP)(ps:List Nat)(hS:Cq 11 [] (Am.bool true))(h1:Cq 12 [dQ ls,int 14] (Am.bool false))(h:True):Cq 7 [dQ ls,pks ps] (Am.bool true):=by
 have _:=h;exact aj [kc [] hS,kY,kc [] h1,kO]
theorem avi(ls l:List OP)(ps:List Nat)(d:DO)(hl:l.length<=1000000)(h0:¬dZ l=[])(hS:Cq 11 [] (Am.bool true))(h1:Cq 12 [dQ ls,int 14] (Am.bool true))(hR:Cq 16 [dQ ls] (dQ l))(hL:Rq 0 7 0 (avt ls l ps) (.exit 0) (avs ls d))(hD:Cq 25 [dQ ls] (kI d))(hq:Cq 26 [kI d,kI d] (Am.bool true))(h:True):Cq 7 [dQ ls,pks ps] (Am.bool true):=by
 have _:=h;exact aj [kc [] hS,kY,kc [] h1,kY,kc [] hR,kv 22 (show Am.aF (AV.aU 0 0 0 (0+length (dZ l))) (AV.aU 0 0 0 l.length)from(aF.of_eq (by simp[Go.Mg.aW]))),kp h0,vV ((0+length (dZ l))*176) (by simp only[yD,yE,y14,y13,Go.Mg.aW]<;>omega),kl (rG [(2,3),(8,76)]) 2 hL,kc [] hD,kc [] hq]
theorem au1(ls:List OP)(ps:List Nat)(h:True):Rq 0 7 0 (avb ls ps) (bF.exit 0) (au0 ls):=by
 have _:=h;exact aG [kY] (aB 84 [0,6]) 1
theorem avj(ls l:List OP)(ps:List Nat)(hS:Cq 11 [] (Am.bool true))(h1:Cq 12 [dQ ls,int 14] (Am.bool true))(hR:Cq 16 [dQ ls] (dQ []))(hL:Rq 0 7 0 (ava ls ps) (.exit 0) (au0 ls))(hD:Cq 25 [dQ ls] (kI ⟨[],[]⟩))(hq:Cq 26 [kI ⟨[],[]⟩,kI ⟨[],[]⟩] (Am.bool true))(h:True):Cq 7 [dQ ls,pks ps] (Am.bool true):=by
 have _:=h;exact aj [kc [] hS,kY,kc [] h1,kY,kc [] hR,ko (bC.LV),kp (show[]=[]from(Am.C8)),kl (rG [(2,3),(8,76)]) 1 hL,kc [] hD,kc [] hq]
end Go.Dc
namespace Go.Mg
open Go Go.Am Go.Proofs Go.eY Go.bH Go.yU Go.bV
theorem agJ(dd:Dc.DO)(c1:Cq 33 [int 5,int 1,int 1,int 3,aK] (op aO))(c2:Cq 33 [int 5,int 2,int 2,int 4,aK] (op bO))(u:Cq 14 [tS [bO,aO],tS [aO]] (dQ [aO,bO]))(r:Cq 16 [tS [bO,aO]] (dQ [aO,bO]))(m:Cq 19 [tS [bO]] (bB [(5,1)]))(p:Cq 22 [tS [aO,bO],aK] (.bq [dQ [],dQ [aO,bO],int 0]))(q:Cq 22 [aK,.sl 2 true [[int 1,int 0]]] (.bq [dQ [],dQ [],int 120]))(s1:Cq 13 [dQ [aO,bO],tS [aO,bO]] (Am.bool true))(z1:Cq 14 [aK,aK] (dQ []))(z2:Cq 16 [tS [bO]] (dQ []))(d:Cq 25 [tS [bO,aO]] (Dc.kI dd))(s2:Cq 18 [bB [(5,1)],.sl 2 true [[int 5,int 1]]] (Am.bool true))(s3:Cq 13 [dQ [aO,bO],dQ [aO,bO]] (Am.bool true))(e0:Cq 25 [aK] (Dc.kI ⟨[],[]⟩))(s4:Cq 26 [Dc.kI ⟨[],[]⟩,.agg [aK,aK]] (Am.bool true))(t:Cq 32 [bB dd.sn,int 5] (int 2))(h:True):Cq 11 [] (Am.bool true):=by
 have _:=h;exact aj [kc [] c1,kc [] c2,kc [] u,kc [] r,kc [] m,kc [] p,kc [] q,kY,kY,kc [] s1,kY,kc [] s1,kY,kc [] z1,kY,kc [] z2,kY,kc [] d,kc [] s2,kO,kO,kc [] s3,kO,kc [] e0,kc [] s4,kO,kc [] t]
theorem VW:Cq 19 [dQ [bO]] (bB [(5,1)]):=by
 have hg:rZ [bO]:=Xm zS;have hk:=Au [[bO]] zS (fun x hx=>by rw[mem_singleton.1 hx];exact⟨zS,hg⟩) wG;have hk':Cq 36 [.sl 1 true (Nj [[bO]])] (.md true ((known [] [bO]).map en)):=(ak.VX (GU _) hk rfl).BM (H3:=[]) (qs:=[]) rfl trivial;have hgv:Uk (known [] [bO]):=DL (fun _ h=>(by cases h)) hg;have hR:=agK (known [] [bO]) hgv ((known [] [bO]).map en);rw[show known [] [bO]=[bO] by kernel_rfl]at hk' hgv hR;rw[show cN [bO]=[(5,1)] by kernel_rfl]at hR;have hC:∀x∈[((5:Int),(1:Int))],fO x.1:=fun x hx=>by rw[mem_singleton.1 hx];unfold fO;decide
 have hS:=VY [(5,1)] [5] hC zS (.refl _) zS;obtain⟨f,hG⟩:=I7 (a:=5) hC (by unfold fO;decide);have hI:=agL ([bO].map en) (jE [(5,1)]) [5] 0 5 1 zS zO zO (Z4 (fun x hx=>(hgv x hx).1.iV) (by unfold fO;decide) (by unfold fO;omega) zQ _) trivial;have he:=agM ([bO].map en) (jE [(5,1)]) [5] 1 0 [(5,1)] zS zS zS _ _ ⟨rfl,rfl⟩;have h2:=agN ([bO].map en) (jE [(5,1)]) [5] 0 5 1 1 zS zS rfl f hG hI zO _ _ (he.acz (show HSub [.aH,.box [.md true (jE [(5,1)])],.aH,.box [int 5,int 1],.aN 0 2 false (au [(5,1)])] (mB1 (jE [(5,1)]) 0 [(5,1)])from⟨.inl rfl,.inl rfl,.inl rfl,.inr yO,.inl rfl,yO⟩));have h9:=akZ [bO] _ _ _ hk' hR (aos (jE [(5,1)]) yO) hS 0 [(5,1)] h2 _ _ ⟨rfl,rfl⟩;exact(h9.Mq (z:=au [(5,1)]) (y:=.sl 2 false (au [(5,1)])) (H1:=[.aH,.box [.md true (jE [(5,1)])],.aH,.aH,.aN 0 2 true (au [(5,1)])]) (ps:=[0=0,List.take 1 (List.drop 0 (au [(5,1)]))=au [(5,1)],(au [(5,1)]).length=1,∀c∈au [(5,1)],c.all AV.fJ=true]) rfl ⟨rfl,rfl,rfl,bK _,yO⟩).BM (H3:=[]) (qs:=[]) rfl trivial
theorem agO{o:OP}(h:Gd o):Dc.OkO o:=⟨h.Z5,h.1,by have:=h.2.cx;omega⟩
theorem KT{l:List OP}(hl:l.length<=10000)(hg:rZ l):Cq 25 [dQ l] (Dc.kI (Dc.Gf (GR (kK l)))):=by
 have h1:=GV l;have h2:(GR (kK l)).length<=(kK l).length:=uX;exact Dc.akY zO (fun o ho=>agO (EM hg o ((R3 hg).sub o ho))) (qH (GX l zO hg))
theorem agP:Cq 22 [dQ [aO,bO],bB []] (.bq [dQ [],dQ [aO,bO],int 0]):=by
 have hU:=qH (GY [aO,bO] [] zS zS (Xm zS) (Xm zS));rw[show[aO,bO]++[]=[aO,bO]from rfl,show kK [aO,bO]=[aO,bO] by kernel_rfl]at hU;have ca:=bH.jX [] aO.dv aO.sq zS;rw[show cZ [] (aO.dv,aO.sq)=false by kernel_rfl]at ca;have cb:=bH.jX [] bO.dv bO.sq zS;rw[show cZ [] (bO.dv,bO.sq)=false by kernel_rfl]at cb;have h2:=ak0 [] [aO,bO] zS zS 2 1 [aO,bO] zS zS trivial;have h1:=ak1 [] [aO,bO] zS zS 1 0 [aO] zS bO zS rfl cb _ _ h2;have h0:=ak2 [] [aO,bO] zS zS 0 aO zS rfl ca _ _ (h1.acz (show HSub [ah.box (jy aO),ah.aN 0 17 false (dZ [aO])] [ah.aH,ah.aN 0 17 false (dZ [aO])]from⟨.inr yO,.inl rfl,yO⟩));have h9:=ak3 [aO,bO] [] _ 1 [aO,bO] zS (bH.fG [] zS) (ak.qp hU ⟨y34,aF.nil 17,yO⟩) h0 _ _ ⟨rfl,rfl⟩;exact((h9.Yt (z:=dZ [aO,bO]) (ys:=[aK,dQ [aO,bO],int 0]) (H1:=[.aH,.aN 1 17 true (dZ [aO,bO])]) (ps:=[1=1,List.take 2 (List.drop 0 (dZ [aO,bO]))=dZ [aO,bO],(dZ [aO,bO]).length=2,∀c∈dZ [aO,bO],c.all AV.fJ=true]) rfl ⟨rfl,rfl,rfl,jd _,yO⟩).BM (H3:=[]) (qs:=[]) rfl yO).out (ak4 acZ (y34))
theorem aot:(Dc.Gf [aO,bO]).sn=[(5,2)]:=zQ
theorem I8:Cq 11 [] (Am.bool true):=by
 have u:=GY [bO,aO] [aO] zS zS (Xm zS) (Xm zS);rw[show[bO,aO]++[aO]=[bO,aO,aO]from rfl,aou]at u;have m:=VW;have p:=agP;have q:=(ak5 [] [(1,0)] _ (by rw[ak6];decide) (bH.fG [(1,0)] zS) yO).out (ak4 acZ acZ);rw[ak6]at q;have s:=zG [aO,bO] [aO,bO] zS (cxl zS);have z1:=GY [] [] zS zS (Xm zS) (Xm zS);have z2:=GX [bO] zS (Xm zS);rw[aov,aow]at z2;have s2:=bH.zG [(5,1)] [(5,1)] zS;have s2':Cq 18 [bB [(5,1)],bB [(5,1)]] (Am.bool true):=by simpa using s2
 have d:=KT (l:=[bO,aO]) zS (Xm zS);rw[ak7,ak8]at d;have e:=KT (l:=[]) zS (Xm zS);rw[show Dc.Gf (GR (kK []))=⟨[],[]⟩ by kernel_rfl]at e;have z:=Dc.ZY ⟨[],[]⟩ ((Dc.aeB 0).dim zO).1;have t:=bH.acj (Dc.Gf [aO,bO]).sn 5 (by rw[aot];simp);rw[show gI 5 (Dc.Gf [aO,bO]).sn=2 by kernel_rfl]at t;exact agJ _ (Ul 5 1 1 3) (Ul 5 2 2 4) (qH (I9 u (Pz _) (Pz _))) (PD aox (Pz _)) (PD m (Pz _)) (I9 p (Pz _) (aF.nil 2)) (I9 q (aF.nil 17) (aF.oP 2 true _)) (I9 (by simpa using s) (y34) (Pz _)) (qH (I9 z1 (aF.nil 17) (aF.nil 17))) (qH (PD z2 (Pz _))) (PD d (Pz _)) (I9 s2' (y34) (show aF (.sl 2 true [[int 5,int 1]]) (bB [(5,1)])from aF.oP 2 true _)) (by simpa using s) (PD e (aF.nil 17)) (I9 z (y34) (aF.qo ⟨aF.nil 2,aF.nil 7,yO⟩)) t trivial
end Go.Mg
namespace Go.Tx
open Go Go.Am Go.Proofs Go.eY
open Go.Sq (CE nP bZ oO vM fX U2 kQ Cu jg)
structure avv where
 kd:Int
 tm:Int
 n:Int
 dv:Int
 sq:Int
 a:Int
 b:Int
 c:Int
 s:yP
 m:MK
def edR(t:TE)(e:avv):TE×Int:=if e.kd=0 then Ve t e.dv e.sq e.tm (e.a,e.b,e.c) e.s else if e.kd=1 then Vg t (e.a,e.b,e.c) e.n else Vk t e.m
end Go.Tx
namespace Go.Tx
open Go Go.Am Go.Proofs Go.eY
open Go.Sq (CE nP bZ oO vM fX U2 kQ Cu jg A8 rU sO Ok Ids CQ arE kP More ers mY)
def tyL(dv sq tm:Int)(s:yP):Nat->Nat->Sq.ID->List CE
 |0,_,_=>[]
 |n+1,k,i=>U9 dv sq tm k i s::tyL dv sq tm s n (k+1) (dv,sq,(k:Int))
theorem arP{dv sq tm:Int}{s:yP}:∀{n k:Nat}{i:Sq.ID},∀x∈tyL dv sq tm s n k i,x.dv=dv/\x.sq=sq/\x.tm=tm/\x.gn=false
 |0,_,_,x,hx=>by cases hx
 |n+1,k,i,x,hx=>by
  rcases yH.1 hx with rfl|hx
  .exact ⟨rfl,rfl,rfl,rfl⟩
  .exact arP x hx
variable {c:CE}{l:List CE}
theorem arl(hg:c.gn=false):A8 l c=0↔jg l=0/\sO (l++[c])=true:=by
 rcases Sq.Vj l c with⟨h1,h2,h3,_⟩|⟨h1,_⟩
 .exact ⟨fun _=>⟨h2,h3⟩,fun _=>h1⟩
 .refine ⟨fun h=>absurd h h1,fun⟨h2,h3⟩=>?_⟩;unfold Sq.A8 Sq.F5;simp[h2,hg,h3]
theorem arQ(h:A8 l c=0):rU l c=arE (l++[c]):=by
 rcases Sq.Vj l c with⟨_,_,_,h4⟩|⟨h1,_⟩
 .exact h4
 .exact absurd h h1
theorem atJ{m:List CE}(hl:sO l=true)(hm:sO (l++m)=true):sO (arE l++m)=true/\arE (arE l++m)=arE (l++m):=by
 have hp:(arE l++m).Perm (l++m):=(Sq.aqK hl).append_right m;have h1:sO (arE l++m)=true:=by rw[Sq.arf hp];exact hm
 exact⟨h1,Sq.arv (Sq.Ak.1 h1).1 hp⟩
theorem arI{l m:List CE}(h:∀x∈l,x∈m):∀{n:Nat}{c:CE},CQ l n c->CQ m n c
 |0,_,k=>k
 |n+1,_,⟨p,hp,e,k⟩=>⟨p,h p hp,e,arI h k⟩
variable {l':List CE}
theorem ar7(h:More l c)(h':sO l'=true)(hs:∀x∈l,x∈l')(hc:∀y∈l',y∉l->kP c y=false):sO (l'++[c])=true:=by
 obtain⟨o1,o2⟩:=Sq.Ak.1 h';have hm:=h.okm;have cl:∀y∈l',kP c y=false:=fun y hy=>by
  by_cases QV:y∈l
  .exact (pairwise_append.1 hm.nS).2.2 y QV c zS
  .exact hc y hy QV
 refine Sq.Ak.2 ⟨⟨fun x hx=>?_,?_⟩,fun x hx=>?_⟩
 .rcases yI.1 hx with hx|hx
  .exact o1.valid x hx
  .exact hm.valid x (y08 _ hx)
 .refine pairwise_append.2 ⟨o1.nS,pairwise_singleton _ _,fun a ha b hb=>?_⟩;rw[mem_singleton.1 hb];exact cl a ha
 .rcases yI.1 hx with hx|hx
  .obtain ⟨n,hn⟩:=o2 x hx;exact⟨n,arI (fun y hy=>y07 _ hy) hn⟩
  .rw [mem_singleton.1 hx];rcases h.parent with e|⟨p,hp,e⟩
   .exact ⟨0,e⟩
   .obtain ⟨n,hn⟩:=o2 p (hs p hp);exact⟨n+1,p,y07 _ (hs p hp),e,arI (fun y hy=>y07 _ hy) hn⟩
theorem asH{dv sq tm:Int}{s:yP}:∀{n k:Nat}{i:Sq.ID}{l l':List CE},jg l=0->(TI dv sq tm s n k i l).2=0->jg l'=0->(∀x∈l,x∈l')->(∀c∈tyL dv sq tm s n k i,∀y∈l',y∉l->kP c y=false) ->
 TI dv sq tm s n k i l'=(arE (l'++tyL dv sq tm s n k i),0)/\sO (l'++tyL dv sq tm s n k i)=true
 |0,k,i,l,l',_,_,h',_,_=>by
  obtain⟨f1,f2⟩:=Sq.aqI.1 h';refine⟨?_,by simpa[tyL]using f1⟩;simp[TI,tyL,f2]
 |n+1,k,i,l,l',h,ht,h',hs,hc=>by
  rw[TI]at ht;split at ht
  .rename_i fF;exact absurd ht fF
  .rename_i h0;have h0:A8 l (U9 dv sq tm k i s)=0:=by simpa using h0
   obtain⟨_,f1⟩:=(arl (c:=U9 dv sq tm k i s) rfl).1 h0;have hM:More l (U9 dv sq tm k i s):=⟨(Sq.aqI.1 h).1,f1⟩;have f2:=ar7 hM (Sq.aqI.1 h').1 hs (hc _ (y06 ..));have h1:=(arl (l:=l') (c:=U9 dv sq tm k i s) rfl).2 ⟨h',f2⟩;rw[arQ h0]at ht;have mem1:∀{x},x∈arE (l++[U9 dv sq tm k i s])↔x∈l\/x=U9 dv sq tm k i s:=fun{x}=>by rw[(Sq.aqK f1).mem_iff];simp
   have mem2:∀{x},x∈arE (l'++[U9 dv sq tm k i s])↔x∈l'\/x=U9 dv sq tm k i s:=fun{x}=>by rw[(Sq.aqK f2).mem_iff];simp
   obtain⟨a1,a2⟩:=asH (l':=arE (l'++[U9 dv sq tm k i s])) (Sq.arb f1).2.2 ht (Sq.arb f2).2.2 (fun x hx=>mem2.2 ((mem1.1 hx).imp (hs x) id)) (fun c hcm y hy hn=>by
    rcases mem2.1 hy with hy|hy
    .exact hc c (yF _ hcm) y hy fun QV=>hn (mem1.2 (.inl QV))
    .exact absurd (mem1.2 (.inr hy)) hn)
   have hp:(arE (l'++[U9 dv sq tm k i s])++tyL dv sq tm s n (k+1) (dv,sq,(k:Int))).Perm (l'++tyL dv sq tm s (n+1) k i):=by
    have:=(Sq.aqK f2).append_right (tyL dv sq tm s n (k+1) (dv,sq,(k:Int)));rw[y16]at this;exact this
   have f3:sO (l'++tyL dv sq tm s (n+1) k i)=true:=by rw[<- Sq.arf hp];exact a2
   refine⟨?_,f3⟩;rw[TI,yK (by simpa using h1),arQ h1,a1,Sq.arv (Sq.Ak.1 a2).1 hp]
theorem ar8{dv sq tm:Int}{s:yP}{n k:Nat}{i:Sq.ID}(h:jg l=0)(ht:(TI dv sq tm s n k i l).2=0):TI dv sq tm s n k i l=(arE (l++tyL dv sq tm s n k i),0)/\sO (l++tyL dv sq tm s n k i)=true :=
 asH h ht h (fun _ hx=>hx) fun _ _ _ hy hn=>absurd hy hn
def Vu(a b c:Int):Nat->Nat->CE->CE
 |0,_,x=>x
 |n+1,k,x=>Vu a b c n (k+1) (ers (a,b,wr c k) x)
theorem aqR{a b c:Int}:∀{n k:Nat},Sq.Alike (Vu a b c n k)
 |0,_=>⟨fun _=>rfl,fun _=>rfl,fun _=>rfl,fun _=>rfl,fun _=>rfl,fun _=>rfl,fun _=>rfl,fun _=>rfl⟩
 |n+1,k=>by
  have h:=Sq.aqH (a,b,wr c k);have k:=aqR (a:=a) (b:=b) (c:=c) (n:=n) (k:=k+1);constructor<;>intro x<;>simp only[Vu]
  .rw [k.dv,h.dv]
  .rw [k.sq,h.sq]
  .rw [k.gU,h.gU]
  .rw [k.ad,h.ad]
  .rw [k.j6,h.j6]
  .rw [k.aa,h.aa]
  .rw [k.tm,h.tm]
  .rw [k.vl,h.vl]
theorem aul{a b c:Int}:∀{n k:Nat}{x:CE},(Vu a b c n k x).gn=true↔x.gn=true\/∃j,j<n/\x.id=(a,b,wr c (k+j))
 |0,k,x=>by simp[Vu]
 |n+1,k,x=>by
  rw[Vu,aul,(Sq.aqH _).id];have h1:(ers (a,b,wr c k) x).gn=true↔x.gn=true\/x.id=(a,b,wr c k):=by
   by_cases h:x.id=(a,b,wr c k)
   .rw [Sq.aum h];simp[h]
   .rw [Sq.auC h];simp[h]
  rw[h1];constructor
  .rintro ((h|h)|⟨j,hj,h⟩)
   .exact .inl h
   .exact .inr ⟨0,zO,h⟩
   .exact .inr ⟨j+1,zO,by rw[h,show k+1+j=k+(j+1) by omega]⟩
  .rintro (h|⟨j,hj,h⟩)
   .exact .inl (.inl h)
   .cases j with
    |zero=>exact .inl (.inr h)
    |succ j=>exact .inr ⟨j,zO,by rw[h,show k+1+j=k+(j+1) by omega]⟩
theorem auW{x y:CE}(h1:x.dv=y.dv)(h2:x.sq=y.sq)(h3:x.gU=y.gU)(h4:x.ad=y.ad)(h5:x.j6=y.j6)(h6:x.aa=y.aa)(h7:x.tm=y.tm)(h8:x.vl=y.vl)(h9:x.gn=y.gn):x=y:=by
 cases x;cases y;simp_all
theorem atF{g h:CE->CE}(hg:Sq.Alike g)(hh:Sq.Alike h){x:CE}(e:(g x).gn=(h x).gn):g x=h x :=
 auW ((hg.dv x).trans (hh.dv x).symm) ((hg.sq x).trans (hh.sq x).symm) ((hg.gU x).trans (hh.gU x).symm) ((hg.ad x).trans (hh.ad x).symm) ((hg.j6 x).trans (hh.j6 x).symm) ((hg.aa x).trans (hh.aa x).symm) ((hg.tm x).trans (hh.tm x).symm) ((hg.vl x).trans (hh.vl x).symm) e
theorem atb:Sq.Alike (fun x=>x):=⟨fun _=>rfl,fun _=>rfl,fun _=>rfl,fun _=>rfl,fun _=>rfl,fun _=>rfl,fun _=>rfl,fun _=>rfl⟩
theorem aty{g h:CE->CE}(hg:Sq.Alike g)(hh:Sq.Alike h):Sq.Alike (fun x=>g (h x)) :=
 ⟨fun x=>(hg.dv _).trans (hh.dv x),fun x=>(hg.sq _).trans (hh.sq x),fun x=>(hg.gU _).trans (hh.gU x),fun x=>(hg.ad _).trans (hh.ad x),fun x=>(hg.j6 _).trans (hh.j6 x),fun x=>(hg.aa _).trans (hh.aa x),fun x=>(hg.tm _).trans (hh.tm x),fun x=>(hg.vl _).trans (hh.vl x)⟩
def ar9(a b c:Int)(n k:Nat)(l:List CE):Prop:=∀j,j<n->∃x∈l,x.id=(a,b,wr c (k+j))
theorem arJ{a b c:Int}:∀{n k:Nat}{l:List CE},Ids l->(ar9 a b c n k l->vY a b c n k l=some (l.map (Vu a b c n k)))/\∀{r},vY a b c n k l=some r->ar9 a b c n k l
 |0,k,l,_=>⟨fun _=>by simp[vY,Vu],fun _ j hj=>absurd hj zO⟩
 |n+1,k,l,hl=>by
  have ha:=Sq.aqH (a,b,wr c k);have hl2:Ids (l.map (ers (a,b,wr c k))):=pairwise_map.2 (hl.imp fun{x y} q=>by rw[ha.id,ha.id];exact q);obtain⟨i1,i2⟩:=arJ (a:=a) (b:=b) (c:=c) (n:=n) (k:=k+1) hl2;constructor
  .intro h;obtain⟨x,hx,e⟩:=h 0 zO;obtain⟨m,hm⟩:=Sq.ar3 hx e;have hm:fX (vM a b (wr c k)) l=some m:=hm;rw[vY,hm];show vY a b c n (k+1) (mY l m)=_;rw[Sq.aqP hl hm,i1 fun j hj=>?_,map_map]
   .rfl
   .obtain ⟨y,hy,e⟩:=h (j+1) zO;exact⟨_,yG.2 ⟨y,hy,rfl⟩,by rw[ha.id,e,show k+1+j=k+(j+1) by omega]⟩
  .intro r h j hj;rw[vY]at h;split at h
   .rename_i m hm;rw[Sq.aqP hl hm]at h;cases j with
    |zero =>
     obtain⟨x,hx,e⟩:=Sq.ark hm;exact⟨x,mem_of_getElem? hx,e⟩
    |succ j =>
     obtain⟨y,hy,e⟩:=i2 h j zO;obtain⟨x,hx,rfl⟩:=yG.1 hy;exact⟨x,hx,by rw[ha.id]at e;rw[e,show k+1+j=k+(j+1) by omega]⟩
   .cases h
def arx(m:MK)(v:List MK):List MK:=v.take (uD m v)++[m]++v.drop (uD m v)
theorem aqV(m:MK)(v:List MK):(arx m v).Perm (m::v):=by
 unfold arx;have:(v.take (uD m v)++[m]++v.drop (uD m v)).Perm (m::(v.take (uD m v)++v.drop (uD m v))):=by
  rw[y16];exact perm_middle
 rw[y30]at this;exact this
theorem asj{a b:MK}(h:a.eG≠b.eG):nD a b=true\/nD b a=true:=by
 rw[zh,zh];simp only[MK.eG,ne_eq,Prod.mk.injEq,not_and]at h;by_cases e:a.dv=b.dv
 .have:=h e;omega
 .omega
variable {v:List MK}{m:MK}
theorem arz(h:v.Pairwise fun a c=>nD a c=true)(hd:∀a∈v,a.eG≠m.eG):(arx m v).Pairwise fun a c=>nD a c=true:=by
 have h1:∀a∈v.take (uD m v),nD a m=true:=fun a ha=>by
  obtain⟨j,hj,rfl⟩:=getElem_of_mem ha;rw[y22]at hj;rw[getElem_take];exact(Mw h zO).2 zO
 have h2:∀a∈v.drop (uD m v),nD m a=true:=fun a ha=>by
  obtain⟨j,hj,rfl⟩:=getElem_of_mem ha;rw[length_drop]at hj;rw[getElem_drop];have bg:uD m v+j<v.length:=zO
  rcases asj (hd _ (y03 bg))with k|k
  .have:=(Mw h bg).1 k;omega
  .exact k
 have hs:=h;rw[<- y30 (uD m v) v]at hs;obtain⟨s1,s2,s3⟩:=pairwise_append.1 hs;unfold arx;refine pairwise_append.2 ⟨pairwise_append.2 ⟨s1,pairwise_singleton _ _,fun a ha b hb=>?_⟩,s2,fun a ha b hb=>?_⟩
 .rw [mem_singleton.1 hb];exact h1 a ha
 .rcases yI.1 ha with ha|ha
  .exact s3 a ha b hb
  .rw [mem_singleton.1 ha];exact h2 b hb
theorem asl(h:OkV l v)(hm:F8 l m=true)(hd:∀a∈v,a.eG≠m.eG):OkV l (arx m v):=by
 refine⟨fun a ha=>?_,arz h.sorted hd,?_⟩
 .rcases yH.1 ((aqV m v).mem_iff.1 ha)with rfl|ha
  .exact hm
  .exact h.isM a ha
 .have:(m::v).Pairwise fun a b=>a.eG≠b.eG:=pairwise_cons.2 ⟨fun a ha e=>hd a ha e.symm,h.qV⟩;exact(Perm.pairwise_iff (fun{a b} h e=>h e.symm) (aqV m v)).2 this
theorem aud{w:List MK}(hp:v.Perm w)(h:v.Pairwise fun a c=>nD a c=true)(k:w.Pairwise fun a c=>nD a c=true):v=w :=
 hp.eq_of_pairwise (le:=fun a b=>nD a b=true) (fun a b _ _ k1 k2=>by rw[as7 k1]at k2;cases k2) h k
theorem aus{q:MK}(h:v.Pairwise fun a c=>nD a c=true)(hm:∀a∈v,a.eG≠m.eG)(hq:∀a∈v,a.eG≠q.eG)(hd:m.eG≠q.eG):arx m (arx q v)=arx q (arx m v):=by
 refine aud ?_ ?_ ?_
 .refine (aqV _ _).trans (((aqV _ _).cons _).trans ((Perm.swap _ _ _).trans (((aqV _ _).symm.cons _).trans (aqV _ _).symm)))
 .exact arz (arz h hq) fun a ha=>by
   rcases yH.1 ((aqV q v).mem_iff.1 ha)with rfl|ha
   .exact fun e=>hd e.symm
   .exact hm a ha
 .exact arz (arz h hm) fun a ha=>by
   rcases yH.1 ((aqV m v).mem_iff.1 ha)with rfl|ha
   .exact hd
   .exact hq a ha
theorem arA:F8 l m=true↔(∃x∈l,x.id=m.frm)/\(∃x∈l,x.id=m.upto)/\(bH.gQ (m.dv,m.sq)&&decide (m.tm>=1)&&decide (m.tm<=1099511627776)&&decide (m.st>=0)&&decide (m.st<16))=true:=by
 have key:∀i j k:Int,(fX (vM i j k) l).isSome=true↔∃x∈l,x.id=(i,j,k):=fun i j k=>by
  constructor
  .intro h;obtain⟨m,hm⟩:=Option.isSome_iff_exists.1 h;obtain⟨x,hx,e⟩:=Sq.ark hm;exact⟨x,mem_of_getElem? hx,e⟩
  .rintro ⟨x,hx,e⟩;obtain⟨m,hm⟩:=Sq.ar3 hx e;rw[hm];rfl
 unfold F8 MK.frm MK.upto;rw[<- key,<- key];simp only[y04];constructor
 .rintro ⟨⟨⟨⟨⟨⟨h1,h2⟩,h3⟩,h4⟩,h5⟩,h6⟩,h7⟩;exact⟨h1,h2,⟨⟨⟨h3,h4⟩,h5⟩,h6⟩,h7⟩
 .rintro ⟨h1,h2,⟨⟨⟨h3,h4⟩,h5⟩,h6⟩,h7⟩;exact⟨⟨⟨⟨⟨⟨h1,h2⟩,h3⟩,h4⟩,h5⟩,h6⟩,h7⟩
theorem asn(h:∀x∈l,∃y∈l',y.id=x.id)(hm:F8 l m=true):F8 l' m=true:=by
 obtain⟨⟨x,hx,e⟩,⟨x',hx',e'⟩,k⟩:=arA.1 hm;obtain⟨y,hy,e2⟩:=h x hx;obtain⟨y',hy',e2'⟩:=h x' hx';exact arA.2 ⟨⟨y,hy,e2.trans e⟩,⟨y',hy',e2'.trans e'⟩,k⟩
theorem OkV.up(h:OkV l v)(hs:∀x∈l,∃y∈l',y.id=x.id):OkV l' v:=⟨fun m hm=>asn hs (h.isM m hm),h.sorted,h.qV⟩
def TL(e:avv):List CE:=tyL e.dv e.sq e.tm e.s e.s.size 0 (e.a,e.b,e.c)
def CF(e:avv):CE->CE:=Vu e.a e.b e.c e.n.toNat 0
def aso(t:TE)(e:avv):Prop:=(1<=e.s.size/\e.s.size<=64)/\(TI e.dv e.sq e.tm e.s e.s.size 0 (e.a,e.b,e.c) t.cells).2=0
def asK(t:TE)(e:avv):Prop:=(1<=e.n/\e.n<=64)/\ar9 e.a e.b e.c e.n.toNat 0 t.cells
def asq(t:TE)(e:avv):Prop:=F8 t.cells e.m=true/\∀a∈t.bQ,a.eG≠e.m.eG
theorem arB(e:avv):Sq.Alike (CF e):=aqR
variable {t:TE}
theorem Val.chk(h:Val t):vC t=0:=Yp.2 h
theorem Val.iw{t:TE}(h:Val t):Ids t.cells:=(Sq.Ak.1 (Sq.aqI.1 h.cells).1).1.iw
variable {e:avv}
theorem asL(hV:Val t)(h:aso t e):Ve t e.dv e.sq e.tm (e.a,e.b,e.c) e.s=(⟨(TI e.dv e.sq e.tm e.s e.s.size 0 (e.a,e.b,e.c) t.cells).1,t.bQ⟩,0):=by
 obtain⟨⟨h1,h2⟩,h3⟩:=h;unfold Ve;rw[yK (by simpa using hV.chk),yK zO,yL h3]
theorem asM(hV:Val t)(h:asK t e):Vg t (e.a,e.b,e.c) e.n=(⟨t.cells.map (CF e),t.bQ⟩,0):=by
 obtain⟨⟨h1,h2⟩,h3⟩:=h;unfold Vg;rw[yK (by simpa using hV.chk),yK zO,(arJ hV.iw).1 h3];rfl
theorem asN(hV:Val t)(h:asq t e):Vk t e.m=(⟨t.cells,arx e.m t.bQ⟩,0):=by
 obtain⟨h1,h2⟩:=h;unfold Vk;rw[yK (by simpa using hV.chk),yK (by rw[h1];decide),yK]
 .rfl
 .intro hc;obtain⟨a,ha,e⟩:=any_eq_true.1 hc;exact h2 a ha (y18 e)
theorem arn(h:(edR t e).2=0):Val t/\(e.kd=0/\aso t e/\edR t e=(⟨arE (t.cells++TL e),t.bQ⟩,0)\/e.kd≠0/\e.kd=1/\asK t e/\edR t e=(⟨t.cells.map (CF e),t.bQ⟩,0)\/e.kd≠0/\e.kd≠1/\asq t e/\edR t e=(⟨t.cells,arx e.m t.bQ⟩,0)):=by
 have hv:vC t=0:=by
  unfold edR at h;split at h
  .unfold Ve at h;split at h
   .rename_i hc;exact absurd h hc
   .rename_i hc;simpa using hc
  .split at h
   .unfold Vg at h;split at h
    .rename_i hc;exact absurd h hc
    .rename_i hc;simpa using hc
   .unfold Vk at h;split at h
    .rename_i hc;exact absurd h hc
    .rename_i hc;simpa using hc
 have hV:=Yp.1 hv;refine⟨hV,?_⟩;by_cases h0:e.kd=0
 .have e1:edR t e=Ve t e.dv e.sq e.tm (e.a,e.b,e.c) e.s:=by unfold edR;rw[yL h0]
  rw[e1]at h |-;have hT:aso t e:=by
   unfold Ve at h;rw[yK (by simpa using hv)]at h;split at h
   .cases h
   .rename_i hs;split at h
    .rename_i ht;exact⟨zO,ht⟩
    .rename_i ht;exact absurd h ht
  refine .inl ⟨h0,hT,?_⟩;rw[asL hV hT,(ar8 hV.cells hT.2).1];rfl
 .by_cases h1:e.kd=1
  .have e1:edR t e=Vg t (e.a,e.b,e.c) e.n:=by unfold edR;rw[yK h0,yL h1]
   rw[e1]at h |-;have hC:asK t e:=by
    unfold Vg at h;rw[yK (by simpa using hv)]at h;split at h
    .cases h
    .rename_i hs;split at h
     .rename_i hr;exact⟨zO,(arJ hV.iw).2 hr⟩
     .cases h
   exact .inr (.inl ⟨h0,h1,hC,asM hV hC⟩)
  .have e1:edR t e=Vk t e.m:=by unfold edR;rw[yK h0,yK h1]
   rw[e1]at h |-;have hA:asq t e:=by
    unfold Vk at h;rw[yK (by simpa using hv)]at h;split at h
    .cases h
    .rename_i hs;split at h
     .cases h
     .rename_i ha;refine⟨by simpa using hs,fun a hm e=>ha (any_eq_true.2 ⟨a,hm,y19 e⟩)⟩
   exact .inr (.inr ⟨h0,h1,hA,asN hV hA⟩)
theorem arR{dv sq tm:Int}{s:yP}:∀{n k:Nat}{i:Sq.ID},k+n=s.size->∀x∈tyL dv sq tm s n k i,x.vl.size=1
 |0,_,_,_,x,hx=>by cases hx
 |n+1,k,i,h,x,hx=>by
  rcases yH.1 hx with rfl|hx
  .show (s.extract k (k+1)).size=1;rw[ByteArray.size_extract];omega
  .exact arR zO x hx
theorem asO(hV:Val t)(h:aso t e):Val ⟨arE (t.cells++TL e),t.bQ⟩/\sO (t.cells++TL e)=true:=by
 obtain⟨a1,a2⟩:=ar8 hV.cells h.2;refine⟨⟨(Sq.arb a2).2.2,fun c hc=>?_,hV.bQ.up fun x hx=>⟨x,(Sq.aqK a2).mem_iff.2 (y07 _ hx),rfl⟩⟩,a2⟩;rcases yI.1 ((Sq.aqK a2).mem_iff.1 hc)with hc|hc
 .exact hV.one c hc
 .exact arR zO c hc
theorem asr{g:CE->CE}(hg:Sq.Alike g)(hV:Val t):Val ⟨t.cells.map g,t.bQ⟩:=by
 refine⟨hg.chk hV.cells,fun c hc=>?_,hV.bQ.up fun x hx=>⟨g x,yG.2 ⟨x,hx,rfl⟩,hg.id x⟩⟩;obtain⟨x,hx,rfl⟩:=yG.1 hc;rw[hg.vl];exact hV.one x hx
theorem asP(hV:Val t)(h:asq t e):Val ⟨t.cells,arx e.m t.bQ⟩:=⟨hV.cells,hV.one,asl hV.bQ h.1 h.2⟩
theorem arK(h:(edR t e).2=0):Val (edR t e).1:=by
 obtain⟨hV,⟨_,h1,e1⟩|⟨_,_,h1,e1⟩|⟨_,_,h1,e1⟩⟩:=arn h
 .rw [e1];exact(asO hV h1).1
 .rw [e1];exact asr aqR hV
 .rw [e1];exact asP hV h1
end Go.Tx
namespace Go.Bd
open Go Go.Am Go.Proofs Go.eY
theorem aro{v:List BE}:jg v=0↔Map v:=by
 rw[<- RQ];unfold jg;cases Cw v<;>simp
variable {c:List bH.D}{l:List BE}
theorem asu{b:BE}(h:(OB l c b).2=0):jg (OB l c b).1=0/\∀x∈(OB l c b).1,x=b\/x∈l:=by
 unfold OB at h |-;by_cases h0:jg l=0
 .rw [yL h0]at h |-;by_cases h1:bH.eZ c=0
  .rw [yL h1]at h |-;by_cases h2:Zu l c b=true
   .rw [yL h2];refine⟨aro.2 (asi (aro.1 h0) h2 _),fun x hx=>?_⟩;rcases yH.1 ((VJ b _).mem_iff.1 hx)with h|h
    .exact .inl h
    .exact .inr ((zF ..).subset h)
   .rw [yK h2]at h;cases h
  .rw [yK h1]at h;exact absurd h h1
 .rw [yK h0]at h;exact absurd h h0
theorem asa{k:yP}(h:(CZ l c k).2=0):jg (CZ l c k).1=0/\∀x∈(CZ l c k).1,x∈l:=by
 unfold CZ at h |-;by_cases h0:jg l=0
 .rw [yL h0]at h |-;by_cases h1:bH.eZ c=0
  .rw [yL h1];exact⟨aro.2 (Zv (aro.1 h0) _ _),fun x hx=>(zF ..).subset hx⟩
  .rw [yK h1]at h;exact absurd h h1
 .rw [yK h0]at h;exact absurd h h0
end Go.Bd
namespace Go.Sq
open Go Go.Am Go.Proofs Go.eY
variable {l:List CE}
theorem asv{c:CE}(hg:c.gn=false)(h:A8 l c=0):jg (rU l c)=0/\∀x∈rU l c,x∈l\/x=c:=by
 obtain⟨h1,h2⟩:=(Tx.arl hg).1 h;have e:rU l c=arE (l++[c]):=by
  unfold rU;rw[yK (by simpa using h1),yK (by simp[hg])];rcases Yo (l++[c])with⟨_,_,e⟩|⟨e,_⟩
  .exact e
  .rw [h2]at e;cases e
 rw[e];exact⟨(arb h2).2.2,fun x hx=>by simpa using(aqK h2).mem_iff.1 hx⟩
theorem asw{a b c:Int}(h:Ox l a b c=0):jg (Ez l a b c)=0/\∀x∈Ez l a b c,∃y∈l,x.dv=y.dv/\x.sq=y.sq:=by
 have hc:jg l=0:=by
  by_cases e:jg l=0
  .exact e
  .unfold Ox at h;rw[yL e]at h;exact h
 rcases asI (i:=a) (j:=b) (k:=c) hc with⟨_,e,_⟩|⟨e,_⟩
 .rw [e];refine⟨(aqH _).chk hc,fun x hx=>?_⟩;obtain⟨y,hy,rfl⟩:=yG.1 hx;exact⟨y,hy,(aqH _).dv y,(aqH _).sq y⟩
 .rw [e]at h;cases h
end Go.Sq
namespace Go.Dc
open Go Go.Am Go.Proofs Go.eY Go.bH
theorem ard:∀{l:List TL}{x:Int},Xg x l=true↔(∀t∈l,Tf t.1 t.2.1=true)/\(∀t∈l,x<t.1)/\(l.map (·.1)).Pairwise (·<·)
 |[],x=>by simp[Xg]
 |u::l,x=>by
  simp only[Xg,y04,y05,ard (l:=l) (x:=u.1),yH,map_cons,pairwise_cons,yG,forall_exists_index,and_imp,forall_apply_eq_imp_iff₂];constructor
  .rintro ⟨⟨h1,h2⟩,h3,h4,h5⟩;refine⟨fun t ht=>ht.elim (fun e=>e▸h1) (h3 t),fun t ht=>ht.elim (fun e=>e▸h2) fun ht=>Int.lt_trans h2 (h4 t ht),fun t ht=>h4 t ht,h5⟩
  .rintro ⟨h1,h2,h3,h4⟩;exact⟨⟨h1 u (.inl rfl),h2 u (.inl rfl)⟩,fun t ht=>h1 t (.inr ht),fun t ht=>h3 t ht,h4⟩
variable {d:Int}
theorem asT{t:TL}(h:cD d t=0):t.1=d:=by
 unfold cD bV.gJ at h;split at h
 .cases h
 .split at h
  .cases h
  .omega
theorem asx{l:List TL}{s n:Int}(h:(OJ l d s n).2=0):vC (OJ l d s n).1=0/\∀x∈(OJ l d s n).1,x∈l\/dtt x=(d,s):=by
 unfold OJ at h |-;by_cases h1:Xg (-1) l=true
 .rw [yL h1]at h |-;by_cases h2:Tf d s=true
  .rw [yL h2]at h |-;obtain⟨k1,k2,k3⟩:=ard.1 h1;have hm:=OI d h1;have hd:(-1:Int)<d:=by simp only[Tf,y04,y05]at h2;omega
   split at h
   .rename_i h3;rw[yL h3];split at h
    .cases h
    .rename_i h4;rw[yK h4];have bg:nQ (cD d) l<l.length:=by
      rcases y11 (nQ (cD d) l) l.length with h|h
      .exact h
      .rw [getElem?_eq_none h]at h3;cases h3
     rw[yA bg]at h3;have e:l[nQ (cD d) l].1=d:=asT (by simpa using h3);have g:l.getD (nQ (cD d) l) (0,0,0)=l[nQ (cD d) l]:=by rw[yB,yA bg];rfl
     rw[g];have em:(l.set (nQ (cD d) l) (l[nQ (cD d) l].1,s,IntKind.wrap IntKind.i64 (l[nQ (cD d) l].2.2+n))).map (·.1)=l.map (·.1):=by
      rw[map_set];refine ext_getElem? fun i=>?_;rw[getElem?_set];split
      .rename_i q;subst q;simp[bg]
      .rfl
     have hx:∀x∈l.set (nQ (cD d) l) (l[nQ (cD d) l].1,s,IntKind.wrap IntKind.i64 (l[nQ (cD d) l].2.2+n)),x∈l\/(x.1=d/\x.2.1=s):=fun x hx=>by
      rcases mem_or_eq_of_mem_set hx with h|rfl
      .exact .inl h
      .exact .inr ⟨e,rfl⟩
     refine⟨?_,fun x hx'=>(hx x hx').imp id fun q=>by show(x.1,x.2.1)=_;rw[q.1,q.2]⟩;unfold vC;rw[yL];refine ard.2 ⟨fun t ht=>?_,fun t ht=>?_,by rw[em];exact k3⟩
     .rcases hx t ht with q|⟨q1,q2⟩
      .exact k1 t q
      .rw [q1,q2];exact h2
     .rcases hx t ht with q|⟨q1,_⟩
      .exact k2 t q
      .rw [q1];exact hd
   .rename_i h3;rw[yK h3];have hx:∀x∈l.take (nQ (cD d) l)++[(d,s,n)]++l.drop (nQ (cD d) l),x∈l\/x=(d,s,n):=fun x hx=>by
     simp only[yI,mem_singleton]at hx;rcases hx with(h|h)|h
     .exact .inl (mem_of_mem_take h)
     .exact .inr h
     .exact .inl (mem_of_mem_drop h)
    refine⟨?_,fun x hx'=>(hx x hx').imp id fun q=>by rw[q];rfl⟩;unfold vC;rw[yL];refine ard.2 ⟨fun t ht=>?_,fun t ht=>?_,?_⟩
    .rcases hx t ht with q|q
     .exact k1 t q
     .rw [q];exact h2
    .rcases hx t ht with q|q
     .exact k2 t q
     .rw [q];exact hd
    .have hpw:=pairwise_iff_getElem.1 (pairwise_map.1 k3);have lo:∀t∈l.take (nQ (cD d) l),t.1<d:=fun t ht=>by
      obtain⟨i,hi,rfl⟩:=mem_iff_getElem.1 ht;rw[y22]at hi;rw[getElem_take];exact(ajD d _).1 ((hm i zO).2 zO)
     have up:∀t∈l.drop (nQ (cD d) l),d<t.1:=fun t ht=>by
      obtain⟨i,hi,rfl⟩:=mem_iff_getElem.1 ht;rw[length_drop]at hi;rw[getElem_drop];have hp:nQ (cD d) l<l.length:=zO
      have h0:¬l[nQ (cD d) l].1<d:=fun h=>absurd ((hm _ hp).1 ((ajD d _).2 h)) (Nat.lt_irrefl _);have h1:l[nQ (cD d) l].1≠d:=fun e=>h3 (by
       rw[yA hp];simp[cD,bV.gJ,e])
      rcases Nat.eq_zero_or_pos i with rfl|hi0
      .simp only[Nat.add_zero];omega
      .have:=hpw (nQ (cD d) l) (nQ (cD d) l+i) hp zO zO;omega
     rw[map_append,map_append,pairwise_append,pairwise_append];refine⟨⟨?_,zS,?_⟩,?_,?_⟩
     .rw [map_take];exact k3.sublist (take_sublist _ _)
     .intro a ha b hb;obtain⟨t,ht,rfl⟩:=yG.1 ha;simp only[map_cons,map_nil,mem_singleton]at hb;subst hb;exact lo t ht
     .rw [map_drop];exact k3.sublist (drop_sublist _ _)
     .intro a ha b hb;obtain⟨t,ht,rfl⟩:=yG.1 hb;have hb:=up t ht;rcases yI.1 ha with ha|ha
      .obtain ⟨u,hu,rfl⟩:=yG.1 ha;exact Int.lt_trans (lo u hu) hb
      .simp only[map_cons,map_nil,mem_singleton]at ha;subst ha;exact hb
  .rw [yK h2]at h;cases h
 .rw [yK h1]at h;cases h
end Go.Dc
namespace Go.Tx
open Go Go.Am Go.Proofs Go.eY
variable {i:Sq.ID}{t:TE}
theorem asy{dv sq tm:Int}{s:yP}(h:(Ve t dv sq tm i s).2=0):vC (Ve t dv sq tm i s).1=0/\(∀x∈(Ve t dv sq tm i s).1.cells,x∈t.cells\/(x.dv=dv/\x.sq=sq))/\(Ve t dv sq tm i s).1.bQ=t.bQ:=by
 have e:edR t ⟨0,tm,0,dv,sq,i.1,i.2.1,i.2.2,s,⟨0,0,0,0,0,0,0,0,0,0,false⟩⟩=Ve t dv sq tm i s:=rfl;rw[<- e]at h |-;refine⟨(arK h).chk,?_⟩;obtain⟨hV,⟨_,h1,e1⟩|⟨h0,_⟩|⟨h0,_⟩⟩:=arn h
 .rw [e1];refine⟨fun x hx=>?_,rfl⟩;rcases yI.1 ((Sq.aqK (ar8 hV.cells h1.2).2).mem_iff.1 hx)with h|h
  .exact .inl h
  .have:=arP x h;exact .inr ⟨this.1,this.2.1⟩
 .exact absurd rfl h0
 .exact absurd rfl h0
theorem asz{n:Int}(h:(Vg t i n).2=0):vC (Vg t i n).1=0/\(∀x∈(Vg t i n).1.cells,∃y∈t.cells,x.dv=y.dv/\x.sq=y.sq)/\(Vg t i n).1.bQ=t.bQ:=by
 have e:edR t ⟨1,0,n,0,0,i.1,i.2.1,i.2.2,y33,⟨0,0,0,0,0,0,0,0,0,0,false⟩⟩=Vg t i n:=rfl;rw[<- e]at h |-;refine⟨(arK h).chk,?_⟩;obtain⟨hV,⟨h0,_⟩|⟨_,_,h1,e1⟩|⟨_,h0,_⟩⟩:=arn h
 .cases h0
 .rw [e1];refine⟨fun x hx=>?_,rfl⟩;obtain⟨y,hy,rfl⟩:=yG.1 hx;exact⟨y,hy,(arB _).dv y,(arB _).sq y⟩
 .exact absurd rfl h0
theorem asA{m:MK}(h:(Vk t m).2=0):vC (Vk t m).1=0/\(Vk t m).1.cells=t.cells/\∀x∈(Vk t m).1.bQ,x∈t.bQ\/x=m:=by
 have e:edR t ⟨2,0,0,0,0,0,0,0,y33,m⟩=Vk t m:=rfl;rw[<- e]at h |-;refine⟨(arK h).chk,?_⟩;obtain⟨hV,⟨h0,_⟩|⟨_,h0,_⟩|⟨_,_,h1,e1⟩⟩:=arn h
 .cases h0
 .cases h0
 .rw [e1];refine⟨rfl,fun x hx=>?_⟩;rcases yH.1 ((aqV _ _).mem_iff.1 hx)with h|h
  .exact .inr h
  .exact .inl h
end Go.Tx
namespace Go.Dc
open Go Go.Am Go.Proofs Go.eY Go.bH
variable {v:List D}{f:FD}
theorem arL(h:f.pk=1):U6 f v=true↔Sq.jg f.ce=0/\(∀x∈f.ce,cZ v (dtc x)=true)/\f.bi.length+f.ta.length+f.tc.length+f.tm.length=0/\f.pn.size<=64:=by simp[U6,h,and_assoc]
theorem arM(h:f.pk=2):U6 f v=true↔Bd.jg f.bi=0/\(∀x∈f.bi,cZ v (dtb x)=true)/\f.ce.length+f.ta.length+f.tc.length+f.tm.length=0/\f.pn.size<=64:=by simp[U6,h,and_assoc]
theorem asb(h:f.pk=3):U6 f v=true↔vC f.ta=0/\(∀x∈f.ta,cZ v (dtt x)=true)/\f.ce.length+f.bi.length+f.tc.length+f.tm.length=0/\f.pn.size<=64:=by simp[U6,h,and_assoc]
theorem arC(h:f.pk=4):U6 f v=true↔Tx.vC ⟨f.tc,f.tm⟩=0/\(∀x∈f.tc,cZ v (dtc x)=true)/\(∀x∈f.tm,cZ v (dtm x)=true)/\f.ce.length+f.bi.length+f.ta.length=0/\f.pn.size<=64:=by simp[U6,h,and_assoc]
theorem asQ(h:U6 f v=true):f.pk=1\/f.pk=2\/f.pk=3\/f.pk=4:=by
 unfold U6 at h;by_cases h1:f.pk=1
 .exact .inl h1
 by_cases h2:f.pk=2
 .exact .inr (.inl h2)
 by_cases h3:f.pk=3
 .exact .inr (.inr (.inl h3))
 by_cases h4:f.pk=4
 .exact .inr (.inr (.inr h4))
 simp[h1,h2,h3,h4]at h
variable {w:List D}
theorem arp(hu:∀y,cZ v y=true->cZ w y=true)(h:U6 f v=true):U6 f w=true:=by
 rcases asQ h with e|e|e|e
 .obtain ⟨a,b,c⟩:=(arL e).1 h;exact(arL e).2 ⟨a,fun x hx=>hu _ (b x hx),c⟩
 .obtain ⟨a,b,c⟩:=(arM e).1 h;exact(arM e).2 ⟨a,fun x hx=>hu _ (b x hx),c⟩
 .obtain ⟨a,b,c⟩:=(asb e).1 h;exact(asb e).2 ⟨a,fun x hx=>hu _ (b x hx),c⟩
 .obtain ⟨a,b,c,d⟩:=(arC e).1 h;exact(arC e).2 ⟨a,fun x hx=>hu _ (b x hx),fun x hx=>hu _ (c x hx),d⟩
variable {o:bV.OP}
theorem asR(h:o.pk=1\/o.pk=2\/o.pk=3\/o.pk=4)(hp:o.pn.size<=64):U6 (Fx o) v=true:=by
 rcases h with e|e|e|e
 .exact (arL e).2 ⟨rfl,fun _ h=>(by cases h),rfl,hp⟩
 .exact (arM e).2 ⟨rfl,fun _ h=>(by cases h),rfl,hp⟩
 .exact (asb e).2 ⟨rfl,fun _ h=>(by cases h),rfl,hp⟩
 .exact (arC e).2 ⟨rfl,fun _ h=>(by cases h),fun _ h=>(by cases h),rfl,hp⟩
theorem arq{r:Tx.TE×Int}(hk:f.pk=4)(h:U6 f w=true)(hr:r.2=0->Tx.vC r.1=0/\(∀x∈r.1.cells,cZ w (dtc x)=true)/\∀x∈r.1.bQ,cZ w (dtm x)=true):U6 (MB f r) w=true:=by
 unfold MB;split
 .rename_i e;obtain⟨a,b,c⟩:=hr e;obtain⟨_,_,_,d⟩:=(arC hk).1 h;exact(arC (f:={ f with tc:=r.1.cells,tm:=r.1.bQ }) hk).2 ⟨a,b,c,d⟩
 .exact h
theorem asc(hk:f.pk=bV.partOf o.kd)(h1:1<=o.kd)(h8:o.kd<=8)(hn:cZ w (o.dv,o.sq)=true)(h:U6 f w=true):U6 (Gc o f) w=true:=by
 have hc:o.kd=1\/o.kd=2\/o.kd=3\/o.kd=4\/o.kd=5\/o.kd=6\/o.kd=7\/o.kd=8:=zO
 rcases hc with e|e|e|e|e|e|e|e<;>rw[e]at hk
 .obtain ⟨a,b,c⟩:=(arL hk).1 h;rw[show Gc o=ef1 o by simp[Gc,e]];unfold ef1;split
  .rename_i q;obtain⟨k1,k2⟩:=Sq.asv (by rfl) q;exact(arL (f:={ f with ce:=Sq.rU f.ce (KD o) }) hk).2 ⟨k1,fun x hx=>(k2 x hx).elim (b x) fun e=>by rw[e];exact hn,c⟩
  .exact h
 .obtain ⟨a,b,c⟩:=(arL hk).1 h;rw[show Gc o=ef2 o by simp[Gc,e]];unfold ef2;split
  .rename_i q;obtain⟨k1,k2⟩:=Sq.asw q;refine(arL (f:={ f with ce:=Sq.Ez f.ce o.f1 o.f2 o.f3 }) hk).2 ⟨k1,fun x hx=>?_,c⟩;obtain⟨y,hy,e1,e2⟩:=k2 x hx;have:=b y hy;unfold dtc at this |-;rw[e1,e2];exact this
  .exact h
 .obtain ⟨a,b,c⟩:=(arM hk).1 h;rw[show Gc o=ef3 o by simp[Gc,e]];unfold ef3;split
  .rename_i q;obtain⟨k1,k2⟩:=Bd.asu q;exact(arM (f:={ f with bi:=(Bd.OB f.bi (Q5 o) ⟨o.ky,o.dv,o.sq,o.tm,o.vl⟩).1 }) hk).2 ⟨k1,fun x hx=>(k2 x hx).elim (fun e=>by rw[e];exact hn) (b x),c⟩
  .exact h
 .obtain ⟨a,b,c⟩:=(arM hk).1 h;rw[show Gc o=ef4 o by simp[Gc,e]];unfold ef4;split
  .rename_i q;obtain⟨k1,k2⟩:=Bd.asa q;exact(arM (f:={ f with bi:=(Bd.CZ f.bi (Q5 o) o.ky).1 }) hk).2 ⟨k1,fun x hx=>b x (k2 x hx),c⟩
  .exact h
 .obtain ⟨a,b,c⟩:=(asb hk).1 h;rw[show Gc o=ef5 o by simp[Gc,e]];unfold ef5;split
  .rename_i q;obtain⟨k1,k2⟩:=asx q;exact(asb (f:={ f with ta:=(OJ f.ta o.dv o.sq o.n).1 }) hk).2 ⟨k1,fun x hx=>(k2 x hx).elim (b x) fun e=>by rw[e];exact hn,c⟩
  .exact h
 .obtain ⟨a,b,c,d⟩:=(arC hk).1 h;rw[show Gc o=ef6 o by simp[Gc,e]];refine arq hk h fun q=>?_;obtain⟨k1,k2,k3⟩:=Tx.asy q;exact⟨k1,fun x hx=>(k2 x hx).elim (b x) fun e=>by unfold dtc;rw[e.1,e.2];exact hn,by rw[k3];exact c⟩
 .obtain ⟨a,b,c,d⟩:=(arC hk).1 h;rw[show Gc o=ef7 o by simp[Gc,e]];refine arq hk h fun q=>?_;obtain⟨k1,k2,k3⟩:=Tx.asz q;refine⟨k1,fun x hx=>?_,by rw[k3];exact c⟩;obtain⟨y,hy,e1,e2⟩:=k2 x hx;have:=b y hy;unfold dtc at this |-;rw[e1,e2];exact this
 .obtain ⟨a,b,c,d⟩:=(arC hk).1 h;rw[show Gc o=ef8 o by simp[Gc,e]];refine arq hk h fun q=>?_;obtain⟨k1,k2,k3⟩:=Tx.asA q;exact⟨k1,by rw[k2];exact b,fun x hx=>(k3 x hx).elim (c x) fun e=>by rw[e];exact hn⟩
end Go.Dc
namespace Go.Sq
open Go Go.Am Go.Proofs Go.eY
variable {P:List CE}
theorem atz{X:List CE}(h:sO (X++P)=true)(hp:∀x∈X,∀p∈P,p.id≠x.after):sO X=true:=by
 obtain⟨o,r⟩:=Ak.1 h;have hs:X.Sublist (X++P):=sublist_append_left X P;have dn:∀(n:Nat)(c:CE),(∀p∈P,p.id≠c.after)->CQ (X++P) n c->CQ X n c:=by
  intro n
  induction n with
  |zero=>exact fun _ _ k=>k
  |succ n ih =>
   rintro c hc ⟨p,hpm,e,k⟩;rcases yI.1 hpm with hx|hx
   .exact ⟨p,hx,e,ih p (hp p hx) k⟩
   .exact absurd e (hc p hx)
 exact Ak.2 ⟨⟨fun x hx=>o.valid x (hs.subset hx),o.nS.sublist hs⟩,fun x hx=>by
  obtain⟨n,hn⟩:=r x (hs.subset hx);exact⟨n,dn n x (hp x hx) hn⟩⟩
variable {x:CE}{l:List CE}
theorem aut(h:sO l=true)(hx:x∈l):x.after=(0,0,0)\/∃p∈l,p.id=x.after:=by
 obtain⟨n,hn⟩:=(Ak.1 h).2 x hx;cases n with
 |zero=>exact .inl hn
 |succ n=>obtain⟨p,hp,e,_⟩:=hn;exact .inr ⟨p,hp,e⟩
theorem as2(h:sO (l++P)=true)(hx:x∈l){p:CE}(hp:p∈P):x.id≠p.id :=
 (pairwise_append.1 (Ak.1 h).1.iw).2.2 x hx p hp
theorem atS(h:sO l=true)(h2:sO (l++P)=true):∀x∈l,∀p∈P,p.id≠x.after:=fun x hx p hp e=>by
 rcases aut h hx with k|⟨q,hq,k⟩
 .exact (Ak.1 h2).1.id0 (y08 _ hp) (e.trans k)
 .exact as2 h2 hq hp (k.trans e.symm)
theorem atp{A B:List CE}(h1:sO (l++A)=true)(h2:sO (l++B)=true)(hc:∀a∈A,∀b∈B,kP b a=false):sO (l++A++B)=true:=by
 obtain⟨o1,r1⟩:=Ak.1 h1;obtain⟨o2,r2⟩:=Ak.1 h2;have p2:=pairwise_append.1 o2.nS;refine Ak.2 ⟨⟨fun x hx=>?_,pairwise_append.2 ⟨o1.nS,p2.2.1,fun x hx y hy=>?_⟩⟩,fun x hx=>?_⟩
 .rcases yI.1 hx with h|h
  .exact o1.valid x h
  .exact o2.valid x (y08 _ h)
 .rcases yI.1 hx with h|h
  .exact p2.2.2 x h y hy
  .exact hc x h y hy
 .rcases yI.1 hx with h|h
  .obtain ⟨n,hn⟩:=r1 x h;exact⟨n,Tx.arI (fun y hy=>y07 _ hy) hn⟩
  .obtain ⟨n,hn⟩:=r2 x (y08 _ h);exact⟨n,Tx.arI (fun y hy=>by simp only[yI]at hy |-;exact hy.imp .inl id) hn⟩
end Go.Sq
namespace Go.Tx
open Go Go.Am Go.Proofs Go.eY
open Go.Sq (CE vM fX jg A8 rU Ox Ez sO Ok Ids CQ arE kP ers)
theorem auU{dv sq tm:Int}{s:yP}:∀{n k:Nat}{i:Sq.ID}{l:List CE},jg l=0->sO (l++tyL dv sq tm s n k i)=true->(∀c∈tyL dv sq tm s n k i,c.id≠i)->(TI dv sq tm s n k i l).2=0
 |0,_,_,_,_,_,_=>rfl
 |n+1,k,i,l,h,hf,hn=>by
  have f0:=(Sq.aqI.1 h).1;have hf2:sO (l++[U9 dv sq tm k i s]++tyL dv sq tm s n (k+1) (dv,sq,(k:Int)))=true:=by rw[y16];exact hf
  have f1:sO (l++[U9 dv sq tm k i s])=true:=Sq.atz hf2 fun x hx p hp=>by
   rcases yI.1 hx with hx|hx
   .exact Sq.atS f0 hf x hx p (yF _ hp)
   .rw [mem_singleton.1 hx];exact hn p (yF _ hp)
  have h1:=(arl (l:=l) (c:=U9 dv sq tm k i s) rfl).2 ⟨h,f1⟩;rw[TI,yK (by simpa using h1),arQ h1];exact auU (Sq.arb f1).2.2 (atJ f1 hf2).1 fun c hc e=>Sq.as2 hf2 (y08 _ (mem_singleton_self _)) hc e.symm
structure Act where
 s:Prop
 A:List CE
 N:Sq.ID->Prop
 E:Sq.ID->Prop
 g:CE->CE
 m:Option MK
structure Act.Good(a:Act):Prop where
 alike:Sq.Alike a.g
 gn:∀x,(a.g x).gn=true↔x.gn=true\/a.E x.id
 sub:∀i,a.E i->a.N i
def Act.ok(a:Act)(l:List CE)(v:List MK):Prop:=a.s/\sO (l++a.A)=true/\(∀i,a.N i->∃x∈l,x.id=i)/\∀m,a.m=some m->∀q∈v,q.eG≠m.eG
def Act.run(a:Act)(l:List CE):List CE:=(arE (l++a.A)).map a.g
def Act.oI(a:Act)(v:List MK):List MK:=match a.m with
 |none=>v
 |some m=>arx m v
structure Apart(a b:Act):Prop where
 cl:∀x∈a.A,∀y∈b.A,kP y x=false
 af:∀x∈b.A,∀p∈a.A,p.id≠x.after
 nd:∀i,b.N i->∀p∈a.A,p.id≠i
 dt:∀m q,a.m=some m->b.m=some q->m.eG≠q.eG
variable {v:List MK}{a:Act}
theorem Act.aun{x:MK}:x∈a.oI v↔a.m=some x\/x∈v:=by
 unfold oI;cases a.m with
 |none=>simp
 |some m =>
  show x∈arx m v↔_;rw[(aqV m v).mem_iff,yH,y09,eq_comm]
section
variable {a b:Act} {l:List CE} {v:List MK} (ha:a.Good) (k:a.ok l v)
include ha k
theorem Act.has{i:Sq.ID}:(∃x∈a.run l,x.id=i)↔(∃x∈l,x.id=i)\/∃x∈a.A,x.id=i:=by
 have hm:∀{y},y∈arE (l++a.A)↔y∈l\/y∈a.A:=fun{y}=>by rw[(Sq.aqK k.2.1).mem_iff,yI]
 unfold run;constructor
 .rintro ⟨x,hx,e⟩;obtain⟨y,hy,rfl⟩:=yG.1 hx;rw[ha.alike.id]at e;exact(hm.1 hy).imp (fun h=>⟨y,h,e⟩) fun h=>⟨y,h,e⟩
 .rintro (⟨x,hx,e⟩|⟨x,hx,e⟩)
  .exact ⟨_,yG.2 ⟨x,hm.2 (.inl hx),rfl⟩,(ha.alike.id x).trans e⟩
  .exact ⟨_,yG.2 ⟨x,hm.2 (.inr hx),rfl⟩,(ha.alike.id x).trans e⟩
theorem Act.au2{B:List CE}(hd:∀x∈B,∀y∈l,y.id≠x.id):a.run l++B=(arE (l++a.A)++B).map a.g:=by
 unfold run;rw[map_append];congr 1;refine(map_id B).symm.trans (map_congr_left fun x hx=>?_);refine atF atb ha.alike ?_;rw[Bool.eq_iff_iff,ha.gn];refine⟨.inl,fun h=>h.elim id fun h=>?_⟩;obtain⟨y,hy,e⟩:=k.2.2.1 _ (ha.sub _ h);exact absurd e (hd x hx y hy)
theorem Act.au3(h:Apart a b)(j:sO (l++b.A)=true):b.run (a.run l)=((arE (l++a.A++b.A)).map a.g).map b.g:=by
 have f2:=Sq.atp k.2.1 j h.cl;obtain⟨q1,q2⟩:=atJ k.2.1 f2;show(arE (a.run l++b.A)).map b.g=_;rw[Act.au2 ha k fun x hx y hy=>Sq.as2 j hy hx,ha.alike.all (Sq.Ak.1 q1).1.iw,q2]
variable (hl:jg l=0)
include hl
theorem Act.auX(h:Apart a b):b.ok (a.run l) (a.oI v)↔b.ok l v:=by
 have f0:=(Sq.aqI.1 hl).1;have dU:=fun{i}=>Act.has ha k (i:=i);have amt:=fun{B}=>Act.au2 ha k (B:=B);obtain⟨_,k1,k2,k3⟩:=k;have hf:sO (a.run l++b.A)=true↔sO (l++b.A)=true:=by
  constructor
  .intro q;have hd:∀x∈b.A,∀y∈l,y.id≠x.id:=fun x hx y hy e=>by
    obtain⟨z,hz,ez⟩:=dU.2 (.inl ⟨y,hy,rfl⟩);exact Sq.as2 q hz hx (ez.trans e)
   rw[amt hd,ha.alike.forms]at q;have hp:(arE (l++a.A)++b.A).Perm (l++b.A++a.A):=((Sq.aqK k1).append_right b.A).trans (by
    rw[y16,y16];exact perm_append_comm.append_left l)
   rw[Sq.arf hp]at q;exact Sq.atz q fun x hx p hp=>by
    rcases yI.1 hx with hx|hx
    .exact Sq.atS f0 k1 x hx p hp
    .exact h.af x hx p hp
  .intro q;rw[amt fun x hx y hy=>Sq.as2 q hy hx,ha.alike.forms];exact(atJ k1 (Sq.atp k1 q h.cl)).1
 unfold Act.ok;rw[hf];refine and_congr Iff.rfl (and_congr Iff.rfl (and_congr ⟨fun q i hi=>?_,fun q i hi=>dU.2 (.inl (q i hi))⟩ ⟨fun q m e x hx=>q m e x (aun.2 (.inr hx)),fun q m e x hx=>?_⟩))
 .rcases dU.1 (q i hi)with r|⟨x,hx,e⟩
  .exact r
  .exact absurd e (h.nd i hi x hx)
 .rcases aun.1 hx with e'|hx
  .exact h.dt x m e' e
  .exact q m e x hx
end
theorem Act.comm{b:Act}{l:List CE}(ha:a.Good)(hb:b.Good)(h:Apart a b)(h':Apart b a)(k:a.ok l v)(j:b.ok l v)(hv:v.Pairwise fun a c=>nD a c=true) :
 b.run (a.run l)=a.run (b.run l)/\b.oI (a.oI v)=a.oI (b.oI v):=by
 constructor
 .have f2:=Sq.atp k.2.1 j.2.1 h.cl;have hp:(l++a.A++b.A).Perm (l++b.A++a.A):=by
   rw[y16,y16];exact perm_append_comm.append_left l
  rw[Act.au3 ha k h j.2.1,Act.au3 hb j h' k.2.1,Sq.arv (Sq.Ak.1 f2).1 hp,map_map,map_map];refine map_congr_left fun x _=>?_;refine atF (aty hb.alike ha.alike) (aty ha.alike hb.alike) ?_;show(b.g (a.g x)).gn=(a.g (b.g x)).gn;rw[Bool.eq_iff_iff,hb.gn,ha.gn,ha.gn,hb.gn,ha.alike.id,hb.alike.id];constructor
  .rintro ((q|q)|q)
   .exact .inl (.inl q)
   .exact .inr q
   .exact .inl (.inr q)
  .rintro ((q|q)|q)
   .exact .inl (.inl q)
   .exact .inr q
   .exact .inl (.inr q)
 .have hk:=k.2.2.2;have hj:=j.2.2.2;have hd:=h.dt;unfold Act.oI;cases ea:a.m with
  |none=>rfl
  |some m =>
   cases eb:b.m with
   |none=>rfl
   |some q=>exact aus hv (hj q eb) (hk m ea) (hd m q ea eb).symm
end Go.Tx
namespace Go.Dc
open Go Go.Am Go.Proofs Go.eY Go.bH
abbrev ltF(x y:FD):Prop:=U7 x.pk y.pk x.pn y.pn<0
theorem ars{v:List D}:∀{l:List FD}{q:Option FD},Xe v q l=true↔(∀f∈l,U6 f v=true)/\l.Pairwise ltF/\∀g,q=some g->∀x∈l,ltF g x
 |[],q=>by simp[Xe]
 |u::l,q=>by
  constructor
  .intro h;have hp:=OO h;have h':=h;simp only[Xe,y04]at h';have ih:=(ars (l:=l) (q:=some u)).1 h'.2;refine⟨fun f hf=>?_,hp,fun g e x hx=>?_⟩
   .rcases yH.1 hf with rfl|hf
    .exact h'.1.1
    .exact ih.1 f hf
   .subst e;exact Yy h x hx
  .rintro ⟨h1,h2,h3⟩;have h2':=pairwise_cons.1 h2;simp only[Xe,y04];refine⟨⟨h1 u zS,?_⟩,ars.2 ⟨fun f hf=>h1 f (by simp[hf]),h2'.2,fun g e x hx=>by injection e with e;exact e▸h2'.1 x hx⟩⟩;cases q with
   |none=>rfl
   |some g=>exact y19 (h3 g rfl u zS)
variable {d:DO}
theorem arD:F9 d=0↔Cw d.sn=true/\(∀f∈d.fs,U6 f d.sn=true)/\d.fs.Pairwise ltF:=by
 have hq:=ars (v:=d.sn) (l:=d.fs) (q:=none);unfold F9;constructor
 .intro h;by_cases e:Cw d.sn=true/\Xe d.sn none d.fs=true
  .have k:=hq.1 e.2;exact⟨e.1,k.1,k.2.1⟩
  .rw [yK e]at h;cases h
 .rintro ⟨h1,h2,h3⟩;rw[yL ⟨h1,hq.2 ⟨h2,h3,fun g e=>by cases e⟩⟩]
theorem asS{a b:Int}{s t:yP}(h1:¬U7 a b s t<0)(h2:U7 a b s t≠0):U7 b a t s<0:=by
 rw[ajG]at h1 |-;rw[ne_eq,asG]at h2;rcases Int.lt_trichotomy a b with h|h|h
 .exact absurd (.inl h) h1
 .subst h;rcases Bd.arO s t with k|k|k
  .exact absurd (.inr ⟨rfl,k⟩) h1
  .exact absurd ⟨rfl,k⟩ h2
  .exact .inr ⟨rfl,k⟩
 .exact .inl h
theorem aqW(f:FD)(r:Tx.TE×Int):(MB f r).pk=f.pk/\(MB f r).pn=f.pn:=by
 unfold MB;split<;>exact⟨rfl,rfl⟩
theorem ase(o:bV.OP)(f:FD):(Gc o f).pk=f.pk/\(Gc o f).pn=f.pn:=by
 unfold Gc
 repeat' split
 .unfold ef1;split<;>exact⟨rfl,rfl⟩
 .unfold ef2;split<;>exact⟨rfl,rfl⟩
 .unfold ef3;split<;>exact⟨rfl,rfl⟩
 .unfold ef4;split<;>exact⟨rfl,rfl⟩
 .unfold ef5;split<;>exact⟨rfl,rfl⟩
 .exact aqW _ _
 .exact aqW _ _
 .exact aqW _ _
theorem arY{o:bV.OP}{ef:FD->FD}{l:List FD}(he:∀f,(ef f).pk=f.pk/\(ef f).pn=f.pn)(h:l.Pairwise ltF):(Ig (cO o) ef o l).Pairwise ltF:=by
 have hm:Rc (cO o) l:=TN (h.imp fun h1 h2=>OM h1 h2);have uQ:=Rh (cO o) l;unfold Ig;split
 .rename_i hb;have bg:rV (cO o) l<l.length:=by
   rcases y11 (rV (cO o) l) l.length with h|h
   .exact h
   .rw [getElem?_eq_none h]at hb;cases hb
  have g:l.getD (rV (cO o) l) (Fx o)=l[rV (cO o) l]:=by rw[yB,yA bg];rfl
  rw[g];have hp:=pairwise_iff_getElem.1 h;refine pairwise_iff_getElem.2 fun i j hi hj wQ=>?_;rw[length_set]at hi hj;have hq:=hp i j hi hj wQ;rw[getElem_set,getElem_set];have h1:=he l[rV (cO o) l];unfold ltF at hq |-;split
  .rename_i e;rw[yK zO,h1.1,h1.2];subst e;exact hq
  .split
   .rename_i e;rw[h1.1,h1.2];subst e;exact hq
   .exact hq
 .rename_i hb;have hz:=he (Fx o);have lo:∀x∈l.take (rV (cO o) l),ltF x (ef (Fx o)):=fun x hx=>by
   obtain⟨i,hi,rfl⟩:=mem_iff_getElem.1 hx;rw[y22]at hi;unfold ltF;rw[getElem_take,hz.1,hz.2];exact(hm i zO).2 zO
  have up:∀x∈l.drop (rV (cO o) l),ltF (ef (Fx o)) x:=fun x hx=>by
   obtain⟨i,hi,rfl⟩:=mem_iff_getElem.1 hx;rw[length_drop]at hi;have hp:rV (cO o) l<l.length:=zO
   have h0:¬cO o l[rV (cO o) l]<0:=fun h=>absurd ((hm _ hp).1 h) (Nat.lt_irrefl _);have h1:cO o l[rV (cO o) l]≠0:=fun e=>hb (by rw[yA hp];simp[e]);have h2:U7 o.pk l[rV (cO o) l].pk o.pn l[rV (cO o) l].pn<0:=asS h0 h1;unfold ltF;rw[getElem_drop,hz.1,hz.2];rcases Nat.eq_zero_or_pos i with rfl|hi0
   .exact h2
   .exact OM h2 (pairwise_iff_getElem.1 h (rV (cO o) l) (rV (cO o) l+i) hp zO zO)
  rw[pairwise_append,pairwise_append];refine⟨⟨h.sublist (take_sublist _ _),zS,fun a ha b hb=>by rw[mem_singleton.1 hb];exact lo a ha⟩,h.sublist (drop_sublist _ _),fun a ha b hb=>?_⟩;rcases yI.1 ha with ha|ha
  .exact OM (lo a ha) (up b hb)
  .rw [mem_singleton.1 ha];exact up b hb
variable {v:List D}
theorem asf{o:bV.OP}(hv:Cw v=true)(ho:Mg.vO o=true):uK v [(o.dv,o.sq)]=Mg.yR v o:=by
 have h1:=RQ.1 hv;unfold uK Mg.yR;rw[yL (acn hv (Mg.ug ho).1),Lg h1 (Mg.SC ho)]
theorem o8{x:D}:cZ v x=true↔1<=x.2/\x.2<=gI x.1 v:=by simp[cZ]
theorem asB{o:bV.OP}(h:F9 d=0)(ho:Mg.vO o=true):F9 (afQ d o)=0/\(afQ d o).sn=Mg.yR d.sn o:=by
 obtain⟨h1,h2,h3⟩:=arD.1 h;have hj:=asf h1 ho;have hV:=RQ.1 h1;have he:(afQ d o).sn=Mg.yR d.sn o:=hj;have hat:=fun x=>Mg.Em hV ho x;have asg:=ji.1 (Mg.ug ho).1;have hup:∀y,cZ d.sn y=true->cZ (Mg.yR d.sn o) y=true:=fun y hy=>by
  rw[o8]at hy |-;rw[hat];split<;>omega
 have aah:cZ (Mg.yR d.sn o) (o.dv,o.sq)=true:=by
  rw[o8,hat];simp only[if_true]at asg |-;omega
 have hq:bV.lM o=0:=y18 ho;have hk:=aci hq;simp only[bV.rM,bV.aat,y04,y05]at hk;obtain⟨⟨⟨_,k1⟩,k8⟩,⟨⟨kp,kn⟩,_⟩,_⟩:=hk;have hpk:o.pk=1\/o.pk=2\/o.pk=3\/o.pk=4:=by
  rw[kp];unfold bV.partOf
  repeat' split
  .exact .inl rfl
  .exact .inr (.inl rfl)
  .exact .inr (.inr (.inl rfl))
  .exact .inr (.inr (.inr rfl))
  .omega
 refine⟨arD.2 ⟨?_,fun f hf=>?_,arY (ase o) h3⟩,he⟩
 .rw [he];exact RQ.2 (Mg.adw hV ho)
 .rw [he];have hf':f∈Ig (cO o) (Gc o) o d.fs:=hf;unfold Ig at hf';split at hf'
  .rename_i hb;have bg:rV (cO o) d.fs<d.fs.length:=by
    rcases y11 (rV (cO o) d.fs) d.fs.length with h|h
    .exact h
    .rw [getElem?_eq_none h]at hb;cases hb
   rcases mem_or_eq_of_mem_set hf' with h|rfl
   .exact arp hup (h2 f h)
   .rw [yA bg]at hb;have e0:cO o d.fs[rV (cO o) d.fs]=0:=by simpa using hb
    have e:=(asG.1 e0).1;rw[yB,yA bg,Option.getD_some];exact asc (e.trans kp) k1 k8 aah (arp hup (h2 _ (y03 bg)))
  .simp only[yI,mem_singleton]at hf';rcases hf' with(h|rfl)|h
   .exact arp hup (h2 f (mem_of_mem_take h))
   .exact asc (show(Fx o).pk=_ from kp) k1 k8 aah (asR hpk zO)
   .exact arp hup (h2 f (mem_of_mem_drop h))
open Go.bV (OP iD)
open Go.Tx (Apart MK)
open Go.Sq (CE)
structure Far(a b:OP):Prop where
 dv:a.dv≠b.dv
 ka:Mg.vO a=true
 kb:Mg.vO b=true
 ab:cZ b.cx (a.dv,a.sq)=false
 ba:cZ a.cx (b.dv,b.sq)=false
theorem Far.symm{a b:OP}(h:Far a b):Far b a:=⟨h.dv.symm,h.kb,h.ka,h.ba,h.ab⟩
variable {a b:OP}
theorem Far.know(h:Far a b){z:Int}:iD b a.dv a.sq z=false:=by
 have h1:=h.ab;have h2:=h.dv;simp[iD,h1,h2]
structure atc(o:OP)(A:Tx.Act):Prop where
 good:A.Good
 eG:∀x∈A.A,x.dv=o.dv/\x.sq=o.sq
 aft:∀x∈A.A,x.after=(0,0,0)\/x.after.1=o.dv\/iD o x.after.1 x.after.2.1 x.after.2.2=true
 nd:∀i,A.N i->∃z,iD o i.1 i.2.1 z=true
 mark:∀m,A.m=some m->m.eG=(o.dv,o.sq)
variable {o:OP}
theorem atA(h:Mg.vO o=true):1<=o.sq:=(ji.1 (Mg.ug h).1).2.2.1
variable {A B:Tx.Act}
theorem atc.nS(h:Far a b)(hA:atc a A)(hB:atc b B):Apart A B where
 cl:=fun x hx y hy=>by
  have h1:=hA.eG x hx;have h2:=hB.eG y hy;have h3:=h.dv.symm;simp[Sq.kP,h1.1,h2.1,h3]
 af:=fun x hx p hp e=>by
  have h1:=hA.eG p hp;have h0:=atA h.ka;have e1:x.after=(a.dv,a.sq,p.gU):=by rw[<- e,CE.id,h1.1,h1.2]
  rcases hB.aft x hx with k|k|k
  .rw [e1]at k;simp only[Prod.mk.injEq]at k;omega
  .rw [e1]at k;exact h.dv k
  .rw [e1,h.know]at k;cases k
 nd:=fun i hi p hp e=>by
  obtain⟨z,k⟩:=hB.nd i hi;have h1:=hA.eG p hp;rw[<- e,CE.id,h1.1,h1.2,h.know]at k;cases k
 dt:=fun m q hm hq e=>by
  rw[hA.mark m hm,hB.mark q hq]at e;exact h.dv (yJ Prod.fst e)
theorem fields_of(h:Mg.vO o=true):1<=o.kd/\o.kd<=8/\o.pk=bV.partOf o.kd/\bV.dO o o.kd=true:=by
 have hk:=aci (y18 h);simp only[bV.rM,bV.aat,y04,y05]at hk;exact⟨hk.1.1.2,hk.1.2,hk.2.1.1.1,hk.2.1.2⟩
theorem atq(h:bV.mh o=true):((o.f1,o.f2,o.f3):Sq.ID)=(0,0,0)\/iD o o.f1 o.f2 o.f3=true:=by
 simp only[bV.mh,Bool.or_eq_true,y04,y05]at h;exact h.imp (fun h=>by rw[h.1.1,h.1.2,h.2]) id
structure Does{α:Type}(ce:α->List CE)(mk:α->List MK)(put:α->List CE->List MK->α)(inv:α->Prop)(A:Tx.Act)(e:α->α):Prop where
 yes:∀f,inv f->A.ok (ce f) (mk f)->e f=put f (A.run (ce f)) (A.oI (mk f))
 no:∀f,inv f->¬A.ok (ce f) (mk f)->e f=f
 inv:∀f,inv f->inv (e f)
theorem atG{α:Type}{ce:α->List CE}{mk:α->List MK}{put:α->List CE->List MK->α}{inv:α->Prop}{ea eb:α->α}(hA:Does ce mk put inv A ea)(hB:Does ce mk put inv B eb)(gA:A.Good)(gB:B.Good)(h:Apart A B)(h':Apart B A){f:α}(k:inv f)(p1:∀f l v,ce (put f l v)=l)(p2:∀f l v,mk (put f l v)=v)(p3:∀f l v l' v',put (put f l v) l' v'=put f l' v')(hi:∀f,inv f->Sq.jg (ce f)=0/\(mk f).Pairwise fun a c=>Tx.nD a c=true):eb (ea f)=ea (eb f):=by
 obtain⟨i1,i2⟩:=hi f k;by_cases ka:A.ok (ce f) (mk f)
 .have e1:=hA.yes f k ka;have ia:=hA.inv f k;have sa:=Tx.Act.auX gA ka i1 h;by_cases kb:B.ok (ce f) (mk f)
  .have e2:=hB.yes f k kb;have ib:=hB.inv f k;have sb:=Tx.Act.auX gB kb i1 h';obtain⟨c1,c2⟩:=Tx.Act.comm gA gB h h' ka kb i2;rw[e1]at ia;rw[e2]at ib;rw[e1,e2,hB.yes _ ia (by rw[p1,p2];exact sa.2 kb),hA.yes _ ib (by rw[p1,p2];exact sb.2 ka)];simp only[p1,p2,p3];rw[c1,c2]
  .rw [hB.no f k kb,hB.no _ ia (by rw[e1,p1,p2];exact fun q=>kb (sa.1 q))]
 .rw [hA.no f k ka];by_cases kb:B.ok (ce f) (mk f)
  .have e2:=hB.yes f k kb;rw[hA.no _ (hB.inv f k) (by rw[e2,p1,p2];exact fun q=>ka ((Tx.Act.auX gB kb i1 h').1 q))]
  .rw [hB.no f k kb,hA.no f k ka]
def atT(f:FD)(l:List CE)(v:List MK):FD:={ f with ce:=l,tm:=v }
theorem avk(h:Mg.vO o=true)(hk:o.kd=1):atc o ⟨True,[KD o],fun _=>False,fun _=>False,fun x=>x,none⟩ where
 good:=⟨Tx.atb,fun x=>zS,fun _ h=>h⟩
 eG:=fun x hx=>by rw[mem_singleton.1 hx];exact⟨rfl,rfl⟩
 aft:=fun x hx=>by
  have hf:=(fields_of h).2.2.2;rw[hk]at hf;simp only[bV.dO,y04]at hf;rw[mem_singleton.1 hx];exact(atq hf.1).imp id .inr
 nd:=fun _ h=>h.elim
 mark:=fun _ h=>by cases h
theorem avl(h:Mg.vO o=true)(hk:o.kd=2):atc o ⟨True,[],fun i=>i=(o.f1,o.f2,o.f3),fun i=>i=(o.f1,o.f2,o.f3),Sq.ers (o.f1,o.f2,o.f3),none⟩ where
 good:=⟨Sq.aqH _,fun x=>by
  show(Sq.ers (o.f1,o.f2,o.f3) x).gn=true↔x.gn=true\/x.id=(o.f1,o.f2,o.f3);by_cases e:x.id=(o.f1,o.f2,o.f3)
  .rw [Sq.aum e];simp[e]
  .rw [Sq.auC e];simp[e],fun _ h=>h⟩
 eG:=fun x hx=>by cases hx
 aft:=fun x hx=>by cases hx
 nd:=fun i h'=>by
  have hf:=(fields_of h).2.2.2;rw[hk]at hf;subst h';exact⟨_,hf⟩
 mark:=fun _ h=>by cases h
theorem arX{l:List CE}(h:Sq.jg l=0):Sq.sO l=true/\Sq.arE l=l:=by
 obtain⟨a,b⟩:=Sq.aqI.1 h;exact⟨a,b⟩
variable {w:List D}
theorem au4(h:Mg.vO o=true)(hk:o.kd=1)(hw:cZ w (o.dv,o.sq)=true) :
 Does (fun f:FD=>f.ce) (fun f=>f.tm) atT (fun f=>f.pk=1/\U6 f w=true) ⟨True,[KD o],fun _=>False,fun _=>False,fun x=>x,none⟩ (Gc o) where
 yes:=fun f ⟨hp,hi⟩ ⟨_,k,_⟩=>by
  have hc:=((arL hp).1 hi).1;have h0:=(Tx.arl (c:=KD o) rfl).2 ⟨hc,k⟩;rw[show Gc o=ef1 o by simp[Gc,hk],ef1,yL h0,Tx.arQ h0];simp[atT,Tx.Act.run,Tx.Act.oI]
 no:=fun f ⟨hp,hi⟩ k=>by
  rw[show Gc o=ef1 o by simp[Gc,hk],ef1,yK];intro h0;exact k ⟨yO,((Tx.arl (c:=KD o) rfl).1 h0).2,fun _ h=>h.elim,fun _ h=>by cases h⟩
 inv:=fun f ⟨hp,hi⟩=>⟨(ase o f).1.trans hp,asc (by rw[hp,hk];rfl) zO zO hw hi⟩
theorem au5(h:Mg.vO o=true)(hk:o.kd=2)(hw:cZ w (o.dv,o.sq)=true) :
 Does (fun f:FD=>f.ce) (fun f=>f.tm) atT (fun f=>f.pk=1/\U6 f w=true) ⟨True,[],fun i=>i=(o.f1,o.f2,o.f3),fun i=>i=(o.f1,o.f2,o.f3),Sq.ers (o.f1,o.f2,o.f3),none⟩ (Gc o) where
 yes:=fun f ⟨hp,hi⟩ ⟨_,_,k,_⟩=>by
  have hc:=((arL hp).1 hi).1;obtain⟨x,hx,e⟩:=k _ rfl;rw[show Gc o=ef2 o by simp[Gc,hk],ef2];rcases Sq.asI (i:=o.f1) (j:=o.f2) (k:=o.f3) hc with⟨a1,a2,_⟩|⟨_,_,a3⟩
  .rw [yL a1,a2];simp[atT,Tx.Act.run,Tx.Act.oI,(arX hc).2]
  .obtain ⟨m,hm⟩:=Sq.ar3 hx e;rw[a3]at hm;cases hm
 no:=fun f ⟨hp,hi⟩ k=>by
  have hc:=((arL hp).1 hi).1;rw[show Gc o=ef2 o by simp[Gc,hk],ef2];rcases Sq.asI (i:=o.f1) (j:=o.f2) (k:=o.f3) hc with⟨_,_,m,a3⟩|⟨a1,_⟩
  .obtain ⟨x,hx,e⟩:=Sq.ark a3;exact absurd ⟨yO,by rw[y23];exact(arX hc).1,fun i hi=>⟨x,mem_of_getElem? hx,e.trans hi.symm⟩,fun _ h=>by cases h⟩ k
  .rw [yK (by rw[a1];decide)]
 inv:=fun f ⟨hp,hi⟩=>⟨(ase o f).1.trans hp,asc (by rw[hp,hk];rfl) zO zO hw hi⟩
def atB(f:FD)(l:List CE)(v:List MK):FD:={ f with tc:=l,tm:=v }
theorem auo{dv sq tm:Int}{s:yP}:∀{n k:Nat}{i:Sq.ID},∀x∈Tx.tyL dv sq tm s n k i,x.after=i\/x.after.1=dv
 |0,_,_,x,hx=>by cases hx
 |n+1,k,i,x,hx=>by
  rcases yH.1 hx with rfl|hx
  .exact .inl rfl
  .exact .inr ((auo x hx).elim (fun e=>by rw[e]) id)
theorem avm(h:Mg.vO o=true)(hk:o.kd=6):atc o ⟨True,Tx.tyL o.dv o.sq o.tm o.vl o.vl.size 0 (o.f1,o.f2,o.f3),fun _=>False,fun _=>False,fun x=>x,none⟩ where
 good:=⟨Tx.atb,fun x=>zS,fun _ h=>h⟩
 eG:=fun x hx=>let k:=Tx.arP x hx;⟨k.1,k.2.1⟩
 aft:=fun x hx=>by
  have hf:=(fields_of h).2.2.2;rw[hk]at hf;simp only[bV.dO,y04]at hf;rcases auo x hx with e|e
  .rw [e];exact(atq hf.1.1).imp id .inr
  .exact .inr (.inl e)
 nd:=fun _ h=>h.elim
 mark:=fun _ h=>by cases h
theorem avn(h:Mg.vO o=true)(hk:o.kd=7):atc o ⟨True,[],fun i=>∃j,j<o.n.toNat/\i=(o.f1,o.f2,Tx.wr o.f3 (0+j)),fun i=>∃j,j<o.n.toNat/\i=(o.f1,o.f2,Tx.wr o.f3 (0+j)),Tx.Vu o.f1 o.f2 o.f3 o.n.toNat 0,none⟩ where
 good:=⟨Tx.aqR,fun x=>Tx.aul,fun _ h=>h⟩
 eG:=fun x hx=>by cases hx
 aft:=fun x hx=>by cases hx
 nd:=fun i ⟨j,_,e⟩=>by
  have hf:=(fields_of h).2.2.2;rw[hk]at hf;simp only[bV.dO,y04]at hf;exact⟨o.f3,by rw[e];exact hf.1.1⟩
 mark:=fun _ h=>by cases h
theorem avo(h:Mg.vO o=true)(hk:o.kd=8):atc o ⟨(bH.gQ (o.dv,o.sq)&&decide (o.tm>=1)&&decide (o.tm<=1099511627776)&&decide (o.n>=0)&&decide (o.n<16))=true,[],fun i=>i=(o.f1,o.f2,o.f3)\/i=(o.t1,o.t2,o.t3),fun _=>False,fun x=>x,some (mkO o)⟩ where
 good:=⟨Tx.atb,fun x=>zS,fun _ h=>h.elim⟩
 eG:=fun x hx=>by cases hx
 aft:=fun x hx=>by cases hx
 nd:=fun i hi=>by
  have hf:=(fields_of h).2.2.2;rw[hk]at hf;simp only[bV.dO,y04]at hf;rcases hi with rfl|rfl
  .exact ⟨_,hf.1.1.1⟩
  .exact ⟨_,hf.1.1.2⟩
 mark:=fun m e=>by cases e;rfl
theorem as8{f:FD}(hp:f.pk=4)(hi:U6 f w=true):Tx.Val ⟨f.tc,f.tm⟩:=Tx.Yp.1 ((arC hp).1 hi).1
section
variable {o:OP} {w:List D} (h:Mg.vO o=true) (hw:cZ w (o.dv,o.sq)=true)
include h hw
theorem auY(hk:6<=o.kd)(f:FD)(k:f.pk=4/\U6 f w=true):(Gc o f).pk=4/\U6 (Gc o f) w=true:=by
 have h8:=(fields_of h).2.1;have hq:f.pk=bV.partOf o.kd:=by
  rw[k.1,bV.partOf,yK zO,yK zO,yK zO,yL zO]
 exact⟨(ase o f).1.trans k.1,asc hq zO h8 hw k.2⟩
theorem au6(hk:o.kd=6):Does (fun f:FD=>f.tc) (fun f=>f.tm) atB (fun f=>f.pk=4/\U6 f w=true) ⟨True,Tx.tyL o.dv o.sq o.tm o.vl o.vl.size 0 (o.f1,o.f2,o.f3),fun _=>False,fun _=>False,fun x=>x,none⟩ (Gc o) where
 yes:=fun f ⟨hp,hi⟩ ⟨_,k,_⟩=>by
  have hV:=as8 hp hi;have hf:=(fields_of h).2.2.2;rw[hk]at hf;simp only[bV.dO,y04,y05]at hf;have hn:∀c∈Tx.tyL o.dv o.sq o.tm o.vl o.vl.size 0 (o.f1,o.f2,o.f3),c.id≠(o.f1,o.f2,o.f3):=fun c hc e=>by
   have q:=Tx.arP c hc;have h0:=atA h;rw[CE.id,q.1,q.2.1]at e;simp only[Prod.mk.injEq]at e;rcases atq hf.1.1 with g|g
   .simp only[Prod.mk.injEq]at g;omega
   .have q2:=(Mg.ug h).2.2;rw[<- e.1,<- e.2.1]at g;simp[iD,q2]at g
  have ht:=Tx.auU (tm:=o.tm) (k:=0) hV.cells k hn;obtain⟨e1,_⟩:=Tx.ar8 hV.cells ht;have e2:Tx.Ve (Gb f) o.dv o.sq o.tm (o.f1,o.f2,o.f3) o.vl=(⟨Sq.arE (f.tc++Tx.tyL o.dv o.sq o.tm o.vl o.vl.size 0 (o.f1,o.f2,o.f3)),f.tm⟩,0):=by
   unfold Tx.Ve;rw[yK (by simpa using hV.chk),yK zO,yL ht,e1]
  rw[show Gc o=ef6 o by simp[Gc,hk],ef6,MB,e2,yL rfl];simp[atB,Tx.Act.run,Tx.Act.oI]
 no:=fun f ⟨hp,hi⟩ k=>by
  have hV:=as8 hp hi;rw[show Gc o=ef6 o by simp[Gc,hk],ef6,MB,yK];intro q;unfold Tx.Ve at q;rw[yK (by simpa using hV.chk)]at q;split at q
  .cases q
  .split at q
   .rename_i ht;exact k ⟨yO,(Tx.ar8 hV.cells ht).2,fun _ h=>h.elim,fun _ h=>by cases h⟩
   .rename_i ht;exact ht q
 inv:=auY h hw zO
theorem au7(hk:o.kd=7):Does (fun f:FD=>f.tc) (fun f=>f.tm) atB (fun f=>f.pk=4/\U6 f w=true) ⟨True,[],fun i=>∃j,j<o.n.toNat/\i=(o.f1,o.f2,Tx.wr o.f3 (0+j)),fun i=>∃j,j<o.n.toNat/\i=(o.f1,o.f2,Tx.wr o.f3 (0+j)),Tx.Vu o.f1 o.f2 o.f3 o.n.toNat 0,none⟩ (Gc o) where
 yes:=fun f ⟨hp,hi⟩ ⟨_,_,k,_⟩=>by
  have hV:=as8 hp hi;have hf:=(fields_of h).2.2.2;rw[hk]at hf;simp only[bV.dO,y04,y05]at hf;have h3:=bV.WE hf.1.1;have hC:Tx.ar9 o.f1 o.f2 o.f3 o.n.toNat 0 f.tc:=fun j hj=>k _ ⟨j,hj,rfl⟩;have e2:Tx.Vg (Gb f) (o.f1,o.f2,o.f3) o.n=(⟨f.tc.map (Tx.Vu o.f1 o.f2 o.f3 o.n.toNat 0),f.tm⟩,0):=by
   unfold Tx.Vg;rw[yK (by simpa using hV.chk),yK zO,(Tx.arJ hV.iw).1 hC]
  rw[show Gc o=ef7 o by simp[Gc,hk],ef7,MB,e2,yL rfl];simp[atB,Tx.Act.run,Tx.Act.oI,(arX hV.cells).2]
 no:=fun f ⟨hp,hi⟩ k=>by
  have hV:=as8 hp hi;rw[show Gc o=ef7 o by simp[Gc,hk],ef7,MB,yK];intro q;unfold Tx.Vg at q;rw[yK (by simpa using hV.chk)]at q;split at q
  .cases q
  .split at q
   .rename_i hr;have hC:=(Tx.arJ hV.iw).2 hr;exact k ⟨yO,by rw[y23];exact(arX hV.cells).1,fun i ⟨j,hj,e⟩=>e▸hC j hj,fun _ h=>by cases h⟩
   .cases q
 inv:=auY h hw zO
theorem au8(hk:o.kd=8):Does (fun f:FD=>f.tc) (fun f=>f.tm) atB (fun f=>f.pk=4/\U6 f w=true) ⟨(bH.gQ (o.dv,o.sq)&&decide (o.tm>=1)&&decide (o.tm<=1099511627776)&&decide (o.n>=0)&&decide (o.n<16))=true,[],fun i=>i=(o.f1,o.f2,o.f3)\/i=(o.t1,o.t2,o.t3),fun _=>False,fun x=>x,some (mkO o)⟩ (Gc o) where
 yes:=fun f ⟨hp,hi⟩ ⟨k0,_,k1,k2⟩=>by
  have hV:=as8 hp hi;have hm:Tx.F8 f.tc (mkO o)=true:=Tx.arA.2 ⟨k1 _ (.inl rfl),k1 _ (.inr rfl),k0⟩;have e2:Tx.Vk (Gb f) (mkO o)=(⟨f.tc,Tx.arx (mkO o) f.tm⟩,0):=by
   unfold Tx.Vk;rw[yK (by simpa using hV.chk),yK (by rw[hm];decide),yK]
   .rfl
   .intro hc;obtain⟨a,ha,e⟩:=any_eq_true.1 hc;exact k2 _ rfl a ha (y18 e)
  rw[show Gc o=ef8 o by simp[Gc,hk],ef8,MB,e2,yL rfl];simp[atB,Tx.Act.run,Tx.Act.oI,(arX hV.cells).2]
 no:=fun f ⟨hp,hi⟩ k=>by
  have hV:=as8 hp hi;rw[show Gc o=ef8 o by simp[Gc,hk],ef8,MB,yK];intro q;unfold Tx.Vk at q;rw[yK (by simpa using hV.chk)]at q;split at q
  .cases q
  .rename_i hm;split at q
   .cases q
   .rename_i ha;have hm:Tx.F8 f.tc (mkO o)=true:=by simpa using hm
    obtain⟨m1,m2,m3⟩:=Tx.arA.1 hm;exact k ⟨m3,by rw[y23];exact(arX hV.cells).1,fun i hi=>hi.elim (fun e=>e▸m1) (fun e=>e▸m2),fun m e q hq e2=>by
     cases e;exact ha (any_eq_true.2 ⟨q,hq,y19 e2⟩)⟩
 inv:=auY h hw zO
end
theorem atU(h:Mg.vO o=true):(o.pk=1/\(o.kd=1\/o.kd=2))\/(o.pk=2/\(o.kd=3\/o.kd=4))\/(o.pk=3/\o.kd=5)\/(o.pk=4/\(o.kd=6\/o.kd=7\/o.kd=8)):=by
 obtain⟨h1,h8,hp,_⟩:=fields_of h;rw[hp];have hc:o.kd=1\/o.kd=2\/o.kd=3\/o.kd=4\/o.kd=5\/o.kd=6\/o.kd=7\/o.kd=8:=zO
 rcases hc with e|e|e|e|e|e|e|e<;>rw[e]<;>decide
theorem atW(h:Mg.vO o=true)(hw:cZ w (o.dv,o.sq)=true)(hp:o.pk=1):∃A,atc o A/\Does (fun f:FD=>f.ce) (fun f=>f.tm) atT (fun f=>f.pk=1/\U6 f w=true) A (Gc o):=by
 rcases atU h with⟨_,k|k⟩|⟨q,_⟩|⟨q,_⟩|⟨q,_⟩
 .exact ⟨_,avk h k,au4 h k hw⟩
 .exact ⟨_,avl h k,au5 h k hw⟩
 all_goals omega
theorem atX(h:Mg.vO o=true)(hw:cZ w (o.dv,o.sq)=true)(hp:o.pk=4):∃A,atc o A/\Does (fun f:FD=>f.tc) (fun f=>f.tm) atB (fun f=>f.pk=4/\U6 f w=true) A (Gc o):=by
 rcases atU h with⟨q,_⟩|⟨q,_⟩|⟨q,_⟩|⟨_,k|k|k⟩
 .omega
 .omega
 .omega
 .exact ⟨_,avm h k,au6 h hw k⟩
 .exact ⟨_,avn h k,au7 h hw k⟩
 .exact ⟨_,avo h k,au8 h hw k⟩
section
variable {a b:OP} {w:List D} (h:Far a b) {f:FD} (hi:U6 f w=true) (wa:cZ w (a.dv,a.sq)=true) (wb:cZ w (b.dv,b.sq)=true)
include h hi wa wb
theorem auv(hp:f.pk=1)(ha:a.pk=1)(hb:b.pk=1):Gc b (Gc a f)=Gc a (Gc b f):=by
 obtain⟨A,a1,a2⟩:=atW h.ka wa ha;obtain⟨B,b1,b2⟩:=atW h.kb wb hb;refine atG a2 b2 a1.good b1.good (atc.nS h a1 b1) (atc.nS h.symm b1 a1) ⟨hp,hi⟩ (fun _ _ _=>rfl) (fun _ _ _=>rfl) (fun _ _ _ _ _=>rfl) fun f ⟨p,i⟩=>⟨((arL p).1 i).1,?_⟩;have:=((arL p).1 i).2.2.1;rw[length_eq_zero_iff.1 (show f.tm.length=0 by omega)];exact .nil
theorem auw(hp:f.pk=4)(ha:a.pk=4)(hb:b.pk=4):Gc b (Gc a f)=Gc a (Gc b f):=by
 obtain⟨A,a1,a2⟩:=atX h.ka wa ha;obtain⟨B,b1,b2⟩:=atX h.kb wb hb;refine atG a2 b2 a1.good b1.good (atc.nS h a1 b1) (atc.nS h.symm b1 a1) ⟨hp,hi⟩ (fun _ _ _=>rfl) (fun _ _ _=>rfl) (fun _ _ _ _ _=>rfl) fun f ⟨p,i⟩=>?_;have hV:=as8 p i;exact⟨hV.cells,hV.bQ.sorted⟩
end
end Go.Dc
namespace Go.Dc
open Go Go.Am Go.Proofs Go.eY Go.bH
open Go.bV (OP)
theorem Jw{α:Type}{R:α->α->Prop}(asy:∀a b,R a b->R b a->False){l m:List α}(hl:l.Pairwise R)(hm:m.Pairwise R)(h:∀x,x∈l↔x∈m):l=m:=by
 have nd:∀{l:List α},l.Pairwise R->l.Nodup:=fun h=>h.imp fun{a b} r (e:a=b)=>asy a b r (by subst e;exact r);exact((perm_ext_iff_of_nodup (nd hl) (nd hm)).2 h).eq_of_pairwise (le:=R) (fun a b _ _ k1 k2=>(asy a b k1 k2).elim) hl hm
variable {o:OP}
theorem auV(h:Mg.vO o=true):eZ (Q5 o)=0/\∀x,cZ (Q5 o) x=true->cZ o.cx x=true\/(x.1=o.dv/\x.2<o.sq):=by
 have hc:=Mg.aeR h;unfold Q5;by_cases e:fM o.cx [(o.dv,o.sq-1)]=0
 .rw [yL e];have e2:eZ [(o.dv,o.sq-1)]=0:=by
   unfold fM at e;split at e
   .exact e
   .rename_i q;exact absurd e q
  have ho:Ok [(o.dv,o.sq-1)]:=RQ.1 (by
   unfold eZ at e2;split at e2
   .assumption
   .cases e2)
  unfold uK;rw[yL e];refine⟨by unfold eZ;rw[yL (RQ.2 (Qg Qf hc ho))],fun x hx=>?_⟩;rw[o8,aaK Qf hc ho]at hx;rw[o8];have e3:gI x.1 [(o.dv,o.sq-1)]=if o.dv=x.1 then o.sq-1 else 0:=rfl;rw[e3]at hx;have h0:=(mg hc x.1).1;unfold fu at hx;by_cases q:o.dv=x.1
  .rw [yL q]at hx;split at hx
   .exact .inr ⟨q.symm,zO⟩
   .exact .inl hx
  .rw [yK q,yK zO]at hx;exact .inl hx
 .rw [yK e];exact⟨by unfold eZ;rw[yL (RQ.2 hc)],fun _ h=>.inl h⟩
variable {a b:OP}
theorem Far.kn(h:Far a b):cZ (Q5 b) (a.dv,a.sq)=false:=by
 rw[Bool.eq_false_iff];intro q;rcases(auV h.kb).2 _ q with k|k
 .rw [h.ab]at k;cases k
 .exact h.dv k.1
def beO(o:OP):Bd.BE:=⟨o.ky,o.dv,o.sq,o.tm,o.vl⟩
theorem auD(h:Mg.vO o=true)(hp:o.pk=2):∃S:Prop,∀f:FD,Bd.jg f.bi=0->(∀x∈f.bi,x.eG≠(o.dv,o.sq)) ->
 (¬S->Gc o f=f)/\(S->∃l,Gc o f={ f with bi:=l }/\Bd.jg l=0/\∀x,x∈l↔(o.kd=3/\x=beO o)\/(x∈f.bi/\Bd.iR (Q5 o) o.ky x=false)):=by
 have hc:=(auV h).1;have hr:∀(l:List Bd.BE) x,x∈Bd.rest l (Q5 o) o.ky↔x∈l/\Bd.iR (Q5 o) o.ky x=false:=fun l x=>by
  rw[Bd.rest,mem_filter,Bool.not_eq_true']
 rcases atU h with⟨q,_⟩|⟨_,k|k⟩|⟨q,_⟩|⟨q,_⟩
 .omega
 .refine ⟨Bd.Zu [] (Q5 o) (beO o)=true,fun f hl hd=>?_⟩;have e:Gc o f=ef3 o f:=by simp[Gc,k]
  have hm:Bd.Zu f.bi (Q5 o) (beO o)=true↔Bd.Zu [] (Q5 o) (beO o)=true:=by
   rw[Bd.ash,Bd.ash];exact⟨fun⟨a,b,_⟩=>⟨a,b,fun _ h=>by cases h⟩,fun⟨a,b,_⟩=>⟨a,b,hd⟩⟩
  constructor
  .intro hS;have e2:Bd.OB f.bi (Q5 o) (beO o)=([],140):=by
    unfold Bd.OB;rw[yL hl,yL hc,yK (fun q=>hS (hm.1 q))]
   rw[e];unfold ef3;show(if(Bd.OB f.bi (Q5 o) (beO o)).2=0 then{ f with bi:=(Bd.OB f.bi (Q5 o) (beO o)).1 }else f)=f;rw[e2,yK zD]
  .intro hS;have e2:Bd.OB f.bi (Q5 o) (beO o)=(Bd.VI (beO o) (Bd.rest f.bi (Q5 o) o.ky),0):=by
    unfold Bd.OB;rw[yL hl,yL hc,yL (hm.2 hS)];rfl
   have e3:Gc o f={ f with bi:=Bd.VI (beO o) (Bd.rest f.bi (Q5 o) o.ky) }:=by
    rw[e];unfold ef3;show(if(Bd.OB f.bi (Q5 o) (beO o)).2=0 then{ f with bi:=(Bd.OB f.bi (Q5 o) (beO o)).1 }else f)=_;rw[e2,yL rfl]
   refine⟨_,e3,Bd.aro.2 (Bd.asi (Bd.aro.1 hl) (hm.2 hS) o.ky),fun x=>?_⟩;rw[(Bd.VJ ..).mem_iff,yH,hr];simp[k]
 .refine ⟨True,fun f hl hd=>⟨fun q=>(q yO).elim,fun _=>⟨Bd.rest f.bi (Q5 o) o.ky,?_,Bd.aro.2 (Bd.Zv (Bd.aro.1 hl) _ _),fun x=>?_⟩⟩⟩
  .rw [show Gc o f=ef4 o f by simp[Gc,k]];unfold ef4 Bd.CZ;rw[yL hl,yL hc,yL rfl]
  .rw [hr];simp[k]
 .omega
 .omega
variable {v:List D}{f:FD}
theorem auE(h:Far a b)(hi:U6 f v=true)(na:cZ v (a.dv,a.sq)=false)(nb:cZ v (b.dv,b.sq)=false)(hp:f.pk=2)(ha:a.pk=2)(hb:b.pk=2):Gc b (Gc a f)=Gc a (Gc b f):=by
 obtain⟨hl,hv,_⟩:=(arM hp).1 hi;obtain⟨A,hA⟩:=auD h.ka ha;obtain⟨B,hB⟩:=auD h.kb hb;have nd:∀{d:D},cZ v d=false->∀x∈f.bi,x.eG≠d:=fun hd x hx e=>by
  have:=hv x hx;rw[show dtb x=x.eG from rfl,e,hd]at this;cases this
 have da:=nd na;have db:=nd nb;have ab:((a.dv,a.sq):D)≠(b.dv,b.sq):=fun e=>h.dv (yJ Prod.fst e);have kb:∀{x},x=beO a->Bd.iR (Q5 b) b.ky x=false:=fun e=>by
  rw[e,Bd.iR,show(beO a).eG=(a.dv,a.sq)from rfl,h.kn,Bool.and_false]
 have ka:∀{x},x=beO b->Bd.iR (Q5 a) a.ky x=false:=fun e=>by
  rw[e,Bd.iR,show(beO b).eG=(b.dv,b.sq)from rfl,h.symm.kn,Bool.and_false]
 obtain⟨a1,a2⟩:=hA f hl da;obtain⟨b1,b2⟩:=hB f hl db;by_cases sa:A
 .obtain ⟨la,e1,c1,m1⟩:=a2 sa;have d1:∀x∈la,x.eG≠(b.dv,b.sq):=fun x hx=>by
   rcases(m1 x).1 hx with⟨_,e⟩|⟨hx,_⟩
   .rw [e];exact ab
   .exact db x hx
  obtain⟨p1,p2⟩:=hB { f with bi:=la } c1 d1;by_cases sb:B
  .obtain ⟨lb,e2,c2,m2⟩:=b2 sb;have d2:∀x∈lb,x.eG≠(a.dv,a.sq):=fun x hx=>by
    rcases(m2 x).1 hx with⟨_,e⟩|⟨hx,_⟩
    .rw [e];exact ab.symm
    .exact da x hx
   obtain⟨_,q2⟩:=hA { f with bi:=lb } c2 d2;obtain⟨l1,e3,c3,m3⟩:=p2 sb;obtain⟨l2,e4,c4,m4⟩:=q2 sa;rw[e1,e2,e3,e4];have:l1=l2:=Bd.auP (Bd.aro.1 c3) (Bd.aro.1 c4) fun x=>by
    rw[m3,m4,m1,m2];constructor
    .rintro (q|⟨q|⟨q1,q2⟩,q3⟩)
     .exact .inr ⟨.inl q,ka q.2⟩
     .exact .inl q
     .exact .inr ⟨.inr ⟨q1,q3⟩,q2⟩
    .rintro (q|⟨q|⟨q1,q2⟩,q3⟩)
     .exact .inr ⟨.inl q,kb q.2⟩
     .exact .inl q
     .exact .inr ⟨.inr ⟨q1,q3⟩,q2⟩
   rw[this]
  .rw [b1 sb,e1,p1 sb]
 .rw [a1 sa];by_cases sb:B
  .obtain ⟨lb,e2,c2,m2⟩:=b2 sb;have d2:∀x∈lb,x.eG≠(a.dv,a.sq):=fun x hx=>by
    rcases(m2 x).1 hx with⟨_,e⟩|⟨hx,_⟩
    .rw [e];exact ab.symm
    .exact da x hx
   rw[e2,(hA { f with bi:=lb } c2 d2).1 sa]
  .rw [b1 sb,a1 sa]
def ltT(x y:TL):Prop:=x.1<y.1
variable {l:List TL}
theorem arH{x:Int}(h:Xg x l=true):l.Pairwise ltT:=(pairwise_map (f:=fun t:TL=>t.1) (R:=fun a b=>a<b)).1 (ard.1 h).2.2
theorem aup(h:l.Pairwise ltT){x y:TL}(hx:x∈l)(hy:y∈l)(e:x.1=y.1):x=y:=by
 obtain⟨i,hi,rfl⟩:=mem_iff_getElem.1 hx;obtain⟨j,hj,rfl⟩:=mem_iff_getElem.1 hy;have hp:=pairwise_iff_getElem.1 h;unfold ltT at hp;rcases Nat.lt_trichotomy i j with q|q|q
 .have:=hp i j hi hj q;omega
 .subst q;rfl
 .have:=hp j i hj hi q;omega
def lkT(l:List TL)(d:Int):Option TL:=l.find? fun t=>decide (t.1=d)
variable {d:Int}
theorem atK(h:l.Pairwise ltT){t:TL}:lkT l d=some t↔t∈l/\t.1=d:=by
 unfold lkT;constructor
 .intro e;exact⟨mem_of_find?_eq_some e,by simpa using find?_some e⟩
 .rintro ⟨h1,h2⟩;cases e:l.find? fun t=>decide (t.1=d)with
  |none=>exact absurd (y19 h2) (find?_eq_none.1 e t h1)
  |some u =>
   have h3:u.1=d:=by simpa using find?_some e
   rw[aup h (mem_of_find?_eq_some e) h1 (h3.trans h2.symm)]
def nwT(d s n:Int):Option TL->TL
 |none=>(d,s,n)
 |some t=>if t.2.1>=s then t else(d,s,IntKind.wrap IntKind.i64 (t.2.2+n))
def atr(l:List TL)(d s n:Int):List TL:=if(OJ l d s n).2=0 then(OJ l d s n).1 else l
variable {s n:Int}
theorem atd(hl:Xg (-1) l=true)(hd:Tf d s=true):Xg (-1) (atr l d s n)=true/\∀x,x∈atr l d s n↔(x∈l/\x.1≠d)\/x=nwT d s n (lkT l d):=by
 have hp:=arH hl;constructor
 .unfold atr;split
  .rename_i q;have:=(asx q).1;unfold vC at this;split at this
   .assumption
   .cases this
  .exact hl
 .have hm:=OI d hl;have Yu:=Mk (cD d) l;unfold atr OJ;rw[yL hl,yL hd];by_cases h3:(l[nQ (cD d) l]?).any (fun f=>cD d f==0)=true
  .rw [yL h3];have bg:nQ (cD d) l<l.length:=by
    rcases y11 (nQ (cD d) l) l.length with h|h
    .exact h
    .rw [getElem?_eq_none h]at h3;cases h3
   rw[yA bg]at h3;have e:l[nQ (cD d) l].1=d:=asT (by simpa using h3);have g:l.getD (nQ (cD d) l) (0,0,0)=l[nQ (cD d) l]:=by rw[yB,yA bg];rfl
   rw[g];have hk:lkT l d=some l[nQ (cD d) l]:=(atK hp).2 ⟨y03 bg,e⟩;have hx:∀x,x∈l->x.1=d->x=l[nQ (cD d) l]:=fun x h1 h2=>aup hp h1 (y03 bg) (h2.trans e.symm);rw[hk,nwT];by_cases hs:l[nQ (cD d) l].2.1>=s
   .rw [yL hs,yL hs,yK zD];intro x;by_cases hd':x.1=d
    .exact ⟨fun h=>.inr (hx x h hd'),fun h=>h.elim (fun h=>h.1) fun e=>e▸y03 bg⟩
    .exact ⟨fun h=>.inl ⟨h,hd'⟩,fun h=>h.elim (fun h=>h.1) fun e=>e▸y03 bg⟩
   .rw [yK hs,yK hs,yL rfl];simp only[];rw[e];intro x;rw[set_eq_take_append_cons_drop,yL bg];have hs2:l=l.take (nQ (cD d) l)++l[nQ (cD d) l]::l.drop (nQ (cD d) l+1):=by rw[getElem_cons_drop,y30]
    have hp2:=hp;rw[hs2,pairwise_append,pairwise_cons]at hp2;obtain⟨_,⟨q1,_⟩,q2⟩:=hp2;have n1:∀y∈l.take (nQ (cD d) l),y.1≠d:=fun y hy=>by
     have:ltT y l[nQ (cD d) l]:=q2 y hy _ (y06 ..);unfold ltT at this;omega
    have n2:∀y∈l.drop (nQ (cD d) l+1),y.1≠d:=fun y hy=>by
     have:ltT l[nQ (cD d) l] y:=q1 y hy;unfold ltT at this;omega
    have zI:x∈l↔x∈l.take (nQ (cD d) l)\/x=l[nQ (cD d) l]\/x∈l.drop (nQ (cD d) l+1):=by
     conv=>lhs;rw[hs2]
     rw[yI,yH]
    rw[zI,yI,yH];constructor
    .rintro (h|h|h)
     .exact .inl ⟨.inl h,n1 x h⟩
     .exact .inr h
     .exact .inl ⟨.inr (.inr h),n2 x h⟩
    .rintro (⟨h|h|h,k⟩|h)
     .exact .inl h
     .rw [h]at k;exact absurd e k
     .exact .inr (.inr h)
     .exact .inr (.inl h)
  .rw [yK h3,yL rfl];have xY:∀x∈l,x.1≠d:=fun x hx e=>by
    obtain⟨i,hi,rfl⟩:=mem_iff_getElem.1 hx;have Ct:¬i<nQ (cD d) l:=fun q=>by
     have:=(ajD d _).1 ((hm i hi).2 q);omega
    have bg:nQ (cD d) l<l.length:=zO
    have h0:¬l[nQ (cD d) l].1<d:=fun h=>absurd ((hm _ bg).1 ((ajD d _).2 h)) (Nat.lt_irrefl _);have h1:l[nQ (cD d) l].1≠d:=fun e=>h3 (by
     rw[yA bg];simp[cD,bV.gJ,e])
    rcases y29 (Nat.ge_of_not_lt Ct)with q|q
    .have:ltT l[nQ (cD d) l] l[i]:=pairwise_iff_getElem.1 hp _ _ bg hi q;unfold ltT at this;omega
    .simp only[q]at h1;exact h1 e
   have hk:lkT l d=none:=find?_eq_none.2 fun x hx=>by simpa using xY x hx
   rw[hk,nwT];intro x;simp only[yI,mem_singleton];have zI:x∈l↔x∈l.take (nQ (cD d) l)\/x∈l.drop (nQ (cD d) l):=by
    rw[<- yI,y30]
   constructor
   .rintro ((h|h)|h)
    .have:=zI.2 (.inl h);exact .inl ⟨this,xY x this⟩
    .exact .inr h
    .have:=zI.2 (.inr h);exact .inl ⟨this,xY x this⟩
   .rintro (⟨h,_⟩|h)
    .exact (zI.1 h).elim (fun h=>.inl (.inl h)) .inr
    .exact .inl (.inr h)
theorem auf(h:l.Pairwise ltT):(nwT d s n (lkT l d)).1=d:=by
 cases e:lkT l d with
 |none=>rfl
 |some t =>
  rw[nwT];split
  .exact ((atK h).1 e).2
  .rfl
variable {d':Int}
theorem auF(hl:Xg (-1) l=true)(hd:Tf d s=true)(UW:d≠d'):lkT (atr l d s n) d'=lkT l d':=by
 obtain⟨h1,h2⟩:=atd (n:=n) hl hd;refine Option.ext fun t=>?_;rw[atK (arH h1),atK (arH hl),h2];constructor
 .rintro ⟨h|h,e⟩
  .exact ⟨h.1,e⟩
  .rw [h,auf (arH hl)]at e;exact absurd e UW
 .rintro ⟨h,e⟩;exact⟨.inl ⟨h,fun q=>zO⟩,e⟩
theorem auG{s' n':Int}(hl:Xg (-1) l=true)(h:d≠d'):atr (atr l d s n) d' s' n'=atr (atr l d' s' n') d s n:=by
 have no:∀{l:List TL}{d s n:Int},Tf d s=false->atr l d s n=l:=fun hd=>by
  unfold atr OJ;rw[hd];split<;>rfl
 cases h1:Tf d s with
 |false=>rw[no h1,no h1]
 |true =>
  cases h2:Tf d' s' with
  |false=>rw[no h2,no h2]
  |true =>
   obtain⟨a1,a2⟩:=atd (n:=n) hl h1;obtain⟨b1,b2⟩:=atd (n:=n') hl h2;obtain⟨c1,c2⟩:=atd (n:=n') a1 h2;obtain⟨e1,e2⟩:=atd (n:=n) b1 h1;refine Jw (R:=ltT) (fun a b p q=>by unfold ltT at p q;omega) (arH c1) (arH e1) fun x=>?_;rw[c2,e2,a2,b2,auF hl h1 h,auF hl h2 h.symm];have n1:(nwT d s n (lkT l d)).1=d:=auf (arH hl);have n2:(nwT d' s' n' (lkT l d')).1=d':=auf (arH hl);constructor
   .rintro (⟨⟨q1,q2⟩|q,q3⟩|q)
    .exact .inl ⟨.inl ⟨q1,q3⟩,q2⟩
    .exact .inr q
    .exact .inl ⟨.inr q,by rw[q,n2];exact h.symm⟩
   .rintro (⟨⟨q1,q2⟩|q,q3⟩|q)
    .exact .inl ⟨.inl ⟨q1,q3⟩,q2⟩
    .exact .inr q
    .exact .inl ⟨.inr q,by rw[q,n1];exact h⟩
theorem auH(h:Far a b)(hi:U6 f v=true)(hp:f.pk=3)(ha:a.pk=3)(hb:b.pk=3):Gc b (Gc a f)=Gc a (Gc b f):=by
 have hl:Xg (-1) f.ta=true:=by
  have:=((asb hp).1 hi).1;unfold vC at this;split at this
  .assumption
  .cases this
 have k:∀{o:OP},Mg.vO o=true->o.pk=3->o.kd=5:=fun h hp=>by
  rcases atU h with⟨q,_⟩|⟨q,_⟩|⟨_,q⟩|⟨q,_⟩
  .omega
  .omega
  .exact q
  .omega
 have e:∀{o:OP}{f:FD},o.kd=5->Gc o f={ f with ta:=atr f.ta o.dv o.sq o.n }:=fun{o f} k=>by
  rw[show Gc o f=ef5 o f by simp[Gc,k]];unfold ef5 atr;split<;>rfl
 rw[e (k h.ka ha),e (k h.kb hb),e (k h.kb hb),e (k h.ka ha)];simp only;rw[auG hl h.dv]
def allA:DO->List OP->Prop
 |_,[]=>True
 |d,o::l=>EF d o=0/\allA (afQ d o) l
theorem arZ{d:DO}(h:F9 d=0)(ho:Mg.vO o=true)(hm:Mg.Gm d.sn o=true):EF d o=0:=by
 have hq:bV.lM o=0:=y18 ho;have asg:=ji.1 (Mg.ug ho).1;have hcx:=(Mg.aeR ho);unfold Mg.Gm at hm;simp only[y04,all_eq_true,y05]at hm;obtain⟨h1,h2⟩:=hm;unfold EF;rw[yL h,yL hq,yK (by rw[o8];simp only at asg |-;omega),yL h2,yK];simp only[Bool.not_eq_true,any_eq_false,Bool.not_eq_true'];intro x hx;have:=ji.1 (hcx.qV x hx);have h3:=h1 x hx;have:cZ d.sn x=true:=o8.2 ⟨zO,h3⟩;simp[this]
theorem arS:∀{n:Nat}{W V:List D}{l:List OP}{d:DO},Mg.Inv W V l->F9 d=0->d.sn=V->allA d (Mg.qG Mg.Gm Mg.yR n V l)/\F9 ((Mg.qG Mg.Gm Mg.yR n V l).foldl Bn d)=0/\((Mg.qG Mg.Gm Mg.yR n V l).foldl Bn d).sn=Mg.seen V (Mg.qG Mg.Gm Mg.yR n V l)
 |0,_,_,_,_,_,hc,hs=>⟨yO,hc,hs⟩
 |n+1,W,V,l,d,hi,hc,hs=>by
  unfold Mg.qG;cases e:Mg.pick (Mg.Gm V) l with
  |none=>exact⟨yO,hc,hs⟩
  |some q =>
   obtain⟨o,r⟩:=q;obtain⟨a,b,rfl,rfl,_,h4⟩:=Mg.nM e;have ho:=hi.valid o zS;have h0:=arZ hc ho (hs▸h4);obtain⟨k1,k2⟩:=asB hc ho;have ih:=arS (n:=n) (d:=afQ d o) (hi.step h4) k1 (k2.trans (by rw[hs]));have es:Bn d o=afQ d o:=by unfold Bn;rw[yL h0]
   refine⟨⟨h0,ih.1⟩,?_,?_⟩
   .simp only[foldl_cons,es];exact ih.2.1
   .simp only[foldl_cons,es];exact ih.2.2
theorem auQ(h:Far a b){w:List D}(hi:U6 f v=true)(hu:∀y,cZ v y=true->cZ w y=true)(na:cZ v (a.dv,a.sq)=false)(nb:cZ v (b.dv,b.sq)=false)(wa:cZ w (a.dv,a.sq)=true)(wb:cZ w (b.dv,b.sq)=true)(ha:f.pk=a.pk)(hb:f.pk=b.pk):Gc b (Gc a f)=Gc a (Gc b f):=by
 rcases asQ hi with e|e|e|e
 .exact auv h (arp hu hi) wa wb e (ha.symm.trans e) (hb.symm.trans e)
 .exact auE h hi na nb e (ha.symm.trans e) (hb.symm.trans e)
 .exact auH h hi e (ha.symm.trans e) (hb.symm.trans e)
 .exact auw h (arp hu hi) wa wb e (ha.symm.trans e) (hb.symm.trans e)
abbrev isP(o:OP)(f:FD):Prop:=f.pk=o.pk/\f.pn=o.pn
def fdO(l:List FD)(o:OP):FD:=(l.find? fun f=>decide (isP o f)).getD (Fx o)
variable {x y:FD}
theorem lt_asymm(h:ltF x y)(k:ltF y x):False:=by
 have:=OM h k;rw[asG.2 ⟨rfl,rfl⟩]at this;exact absurd this zD
theorem auz{l:List FD}(h:l.Pairwise ltF)(hx:x∈l)(hy:y∈l)(e:x.pk=y.pk/\x.pn=y.pn):x=y:=by
 obtain⟨i,hi,rfl⟩:=mem_iff_getElem.1 hx;obtain⟨j,hj,rfl⟩:=mem_iff_getElem.1 hy;have hp:=pairwise_iff_getElem.1 h;have no:∀{x y:FD},(x.pk=y.pk/\x.pn=y.pn)->ltF x y->False:=fun e h=>by
  rw[ltF,asG.2 e]at h;exact absurd h zD
 rcases Nat.lt_trichotomy i j with q|q|q
 .exact (no e (hp i j hi hj q)).elim
 .subst q;rfl
 .exact (no ⟨e.1.symm,e.2.symm⟩ (hp j i hj hi q)).elim
theorem atL{l:List FD}(h:l.Pairwise ltF)(hy:y∈l)(hp:isP o y):fdO l o=y:=by
 unfold fdO;cases e:l.find? fun f=>decide (isP o f)with
 |none=>exact absurd (y19 hp) (find?_eq_none.1 e y hy)
 |some z =>
  have h3:isP o z:=by simpa using find?_some e
  exact auz h (mem_of_find?_eq_some e) hy ⟨h3.1.trans hp.1.symm,h3.2.trans hp.2.symm⟩
theorem auI{l:List FD}(h:∀y∈l,¬isP o y):fdO l o=Fx o:=by
 unfold fdO;rw[find?_eq_none.2 fun x hx=>by simpa using h x hx];rfl
theorem auJ{l:List FD}(h:l.Pairwise ltF)(o:OP):(fdO l o∈l/\isP o (fdO l o))\/((∀y∈l,¬isP o y)/\fdO l o=Fx o):=by
 by_cases k:∃y∈l,isP o y
 .obtain ⟨y,hy,hp⟩:=k;rw[atL h hy hp];exact .inl ⟨hy,hp⟩
 .have k':∀y∈l,¬isP o y:=fun y hy hp=>k ⟨y,hy,hp⟩;exact .inr ⟨k',auI k'⟩
theorem atM{l:List FD}(h:l.Pairwise ltF)(o:OP):isP o (fdO l o):=by
 rcases auJ h o with⟨_,k⟩|⟨_,k⟩
 .exact k
 .rw [k];exact⟨rfl,rfl⟩
theorem ate{ef:FD->FD}{l:List FD}(h:l.Pairwise ltF)(x:FD):x∈Ig (cO o) ef o l↔(x∈l/\¬isP o x)\/x=ef (fdO l o):=by
 have hm:Rc (cO o) l:=TN (h.imp fun h1 h2=>OM h1 h2);have uQ:=Rh (cO o) l;unfold Ig;by_cases hb:(l[rV (cO o) l]?).any (fun f=>cO o f==0)=true
 .rw [yL hb];have bg:rV (cO o) l<l.length:=by
   rcases y11 (rV (cO o) l) l.length with h|h
   .exact h
   .rw [getElem?_eq_none h]at hb;cases hb
  rw[yA bg]at hb;have e:isP o l[rV (cO o) l]:=asG.1 (show cO o l[rV (cO o) l]=0 by simpa using hb);have g:l.getD (rV (cO o) l) (Fx o)=l[rV (cO o) l]:=by rw[yB,yA bg];rfl
  rw[g,atL h (y03 bg) e,set_eq_take_append_cons_drop,yL bg];have hs2:l=l.take (rV (cO o) l)++l[rV (cO o) l]::l.drop (rV (cO o) l+1):=by rw[getElem_cons_drop,y30]
  have hp2:=h;rw[hs2,pairwise_append,pairwise_cons]at hp2;obtain⟨_,⟨q1,_⟩,q2⟩:=hp2;have no:∀{x y:FD},isP o x->isP o y->ltF x y->False:=fun a b h=>by
   rw[ltF,asG.2 ⟨a.1.trans b.1.symm,a.2.trans b.2.symm⟩]at h;exact absurd h zD
  have n1:∀y∈l.take (rV (cO o) l),¬isP o y:=fun y hy q=>no q e (q2 y hy _ (y06 ..));have n2:∀y∈l.drop (rV (cO o) l+1),¬isP o y:=fun y hy q=>no e q (q1 y hy);have zI:x∈l↔x∈l.take (rV (cO o) l)\/x=l[rV (cO o) l]\/x∈l.drop (rV (cO o) l+1):=by
   conv=>lhs;rw[hs2]
   rw[yI,yH]
  rw[zI,yI,yH];constructor
  .rintro (h|h|h)
   .exact .inl ⟨.inl h,n1 x h⟩
   .exact .inr h
   .exact .inl ⟨.inr (.inr h),n2 x h⟩
  .rintro (⟨h|h|h,k⟩|h)
   .exact .inl h
   .rw [h]at k;exact absurd e k
   .exact .inr (.inr h)
   .exact .inr (.inl h)
 .rw [yK hb];have xY:∀x∈l,¬isP o x:=fun x hx e=>by
   obtain⟨i,hi,rfl⟩:=mem_iff_getElem.1 hx;have e0:cO o l[i]=0:=asG.2 e;have Ct:¬i<rV (cO o) l:=fun q=>by
    have:=(hm i hi).2 q;omega
   have hp:rV (cO o) l<l.length:=zO
   have h0:¬cO o l[rV (cO o) l]<0:=fun h=>absurd ((hm _ hp).1 h) (Nat.lt_irrefl _);have h1:cO o l[rV (cO o) l]≠0:=fun e=>hb (by rw[yA hp];simp[e]);have h2:U7 o.pk l[rV (cO o) l].pk o.pn l[rV (cO o) l].pn<0:=asS h0 h1;rcases y29 (Nat.ge_of_not_lt Ct)with q|q
   .have h3:U7 o.pk l[i].pk o.pn l[i].pn<0:=OM h2 (pairwise_iff_getElem.1 h _ _ hp hi q);rw[asG.2 ⟨e.1.symm,e.2.symm⟩]at h3;exact absurd h3 zD
   .simp only[q]at h1;exact h1 e0
  rw[auI xY];simp only[yI,mem_singleton];have zI:x∈l↔x∈l.take (rV (cO o) l)\/x∈l.drop (rV (cO o) l):=by
   rw[<- yI,y30]
  constructor
  .rintro ((h|h)|h)
   .have:=zI.2 (.inl h);exact .inl ⟨this,xY x this⟩
   .exact .inr h
   .have:=zI.2 (.inr h);exact .inl ⟨this,xY x this⟩
  .rintro (⟨h,_⟩|h)
   .exact (zI.1 h).elim (fun h=>.inl (.inl h)) .inr
   .exact .inl (.inr h)
theorem auK{l:List FD}(h:l.Pairwise ltF):fdO (Ig (cO a) (Gc a) a l) b=if a.pk=b.pk/\a.pn=b.pn then Gc a (fdO l a)else fdO l b:=by
 have hp:=arY (o:=a) (ase a) h;have hm:=fun x=>ate (o:=a) (ef:=Gc a) h x;have pa:=atM h a;have pe:=ase a (fdO l a);by_cases e:a.pk=b.pk/\a.pn=b.pn
 .rw [yL e];exact atL hp ((hm _).2 (.inr rfl)) ⟨(pe.1.trans pa.1).trans e.1,(pe.2.trans pa.2).trans e.2⟩
 .rw [yK e];rcases auJ h b with⟨k1,k2⟩|⟨k1,k2⟩
  .exact atL hp ((hm _).2 (.inl ⟨k1,fun q=>e ⟨q.1.symm.trans k2.1,q.2.symm.trans k2.2⟩⟩)) k2
  .rw [k2];refine auI fun y hy q=>?_;rcases(hm y).1 hy with⟨hy,_⟩|rfl
   .exact k1 y hy q
   .exact e ⟨(pe.1.trans pa.1).symm.trans q.1,(pe.2.trans pa.2).symm.trans q.2⟩
theorem as3{d:DO}(h:EF d o=0):F9 d=0/\Mg.vO o=true/\Mg.Gm d.sn o=true/\cZ d.sn (o.dv,o.sq)=false:=by
 unfold EF at h;by_cases h1:F9 d=0
 .rw [yL h1]at h;by_cases h2:bV.lM o=0
  .rw [yL h2]at h;have ho:Mg.vO o=true:=y19 h2;by_cases h3:cZ d.sn (o.dv,o.sq)=true
   .rw [yL h3]at h;cases h
   .rw [yK h3]at h;by_cases h4:gI o.dv d.sn=o.sq-1
    .rw [yL h4]at h;by_cases h5:(o.cx.any fun x=>!cZ d.sn x)=true
     .rw [yL h5]at h;cases h
     .refine ⟨h1,ho,?_,Bool.eq_false_iff.2 h3⟩;unfold Mg.Gm;simp only[y04,all_eq_true,y05];refine⟨fun x hx=>?_,h4⟩;have:cZ d.sn x=true:=by
       rcases y00 (cZ d.sn x)with q|q
       .exact q
       .exact absurd (any_eq_true.2 ⟨x,hx,by rw[q];rfl⟩) h5
      exact(o8.1 this).2
    .rw [yK h4]at h;cases h
  .rw [yK h2]at h;exact absurd h h2
 .rw [yK h1]at h;exact absurd h h1
theorem auL{d:DO}(ha:cZ d.sn (a.dv,a.sq)=false)(hb:Mg.Gm d.sn b=true)(kb:Mg.vO b=true)(hs:1<=a.sq):cZ b.cx (a.dv,a.sq)=false:=by
 rw[Bool.eq_false_iff]at ha |-;rw[ne_eq,o8]at ha |-;rintro⟨h1,h2⟩;refine ha ⟨h1,?_⟩;simp only at h1 h2 |-;obtain⟨x,hx,e1,e2⟩:=UD (Mg.aeR kb) (dev:=a.dv) zO;unfold Mg.Gm at hb;simp only[y04,all_eq_true,y05]at hb;have:=hb.1 x hx;rw[e1,e2]at this;omega
theorem atY{d:DO}(ha:EF d a=0)(hb:EF d b=0)(hn:a.dv≠b.dv):EF (afQ d a) b=0/\afQ (afQ d a) b=afQ (afQ d b) a:=by
 obtain⟨hc,ka,ra,na⟩:=as3 ha;obtain⟨_,kb,rb,nb⟩:=as3 hb;have hf:Far a b:=⟨hn,ka,kb,auL na rb kb (atA ka),auL nb ra ka (atA kb)⟩;have hV:=RQ.1 (arD.1 hc).1;have h3:=(arD.1 hc).2.2;obtain⟨a1,a2⟩:=asB hc ka;obtain⟨b1,b2⟩:=asB hc kb;have step:∀{a b:OP},Mg.vO a=true->Mg.vO b=true->a.dv≠b.dv->Mg.Gm d.sn b=true->Mg.Gm (Mg.yR d.sn a) b=true:=fun{a b} ka kb hn rb=>by
  unfold Mg.Gm at rb |-;simp only[y04,all_eq_true,y05]at rb |-;refine⟨fun x hx=>?_,by rw[Mg.Em hV ka,yK hn];exact rb.2⟩;have:=rb.1 x hx;rw[Mg.Em hV ka];split<;>omega
 have eb:EF (afQ d a) b=0:=arZ a1 kb (by rw[a2];exact step ka kb hn rb);have ea:EF (afQ d b) a=0:=arZ b1 ka (by rw[b2];exact step kb ka hn.symm ra);refine⟨eb,?_⟩;obtain⟨c1,c2⟩:=asB a1 kb;obtain⟨e1,e2⟩:=asB b1 ka;have oa:=Mg.adw hV ka;have ob:=Mg.adw hV kb;have hsn:(afQ (afQ d a) b).sn=(afQ (afQ d b) a).sn:=by
  rw[c2,e2,a2,b2];refine auB (Mg.adw oa kb) (Mg.adw ob ka) fun x=>?_;rw[Mg.Em oa kb,Mg.Em ob ka,Mg.Em hV ka,Mg.Em hV kb];by_cases p:a.dv=x
  .rw [yL p,yK zO,yL p,yK zO]
  .rw [yK p,yK p]
 have hfs:(afQ (afQ d a) b).fs=(afQ (afQ d b) a).fs:=by
  have pA:∀o:OP,(Ig (cO o) (Gc o) o d.fs).Pairwise ltF:=fun o=>arY (ase o) h3;refine Jw (R:=ltF) (fun _ _=>lt_asymm) (arD.1 c1).2.2 (arD.1 e1).2.2 fun x=>?_;show x∈Ig (cO b) (Gc b) b (Ig (cO a) (Gc a) a d.fs)↔x∈Ig (cO a) (Gc a) a (Ig (cO b) (Gc b) b d.fs);rw[ate (pA a),ate (pA b),ate h3,ate h3,auK h3,auK h3];have qa:=atM h3 a;have qb:=atM h3 b;have ga:=ase a (fdO d.fs a);have gb:=ase b (fdO d.fs b);by_cases e:a.pk=b.pk/\a.pn=b.pn
  .rw [yL e,yL ⟨e.1.symm,e.2.symm⟩];have hP:∀y:FD,isP a y↔isP b y:=fun y=>by unfold isP;rw[e.1,e.2]
   have NT:fdO d.fs a=fdO d.fs b:=by
    unfold fdO;rw[show Fx a=Fx b by unfold Fx;rw[e.1,e.2]];congr 2;funext y;exact decide_eq_decide.2 (hP y)
   have hcm:Gc b (Gc a (fdO d.fs a))=Gc a (Gc b (fdO d.fs a)):=by
    have hi:U6 (fdO d.fs a) d.sn=true:=by
     rcases auJ h3 a with⟨k,_⟩|⟨_,k⟩
     .exact (arD.1 hc).2.1 _ k
     .rw [k];have:=fields_of ka;have hk:=aci (y18 ka);simp only[bV.rM,bV.aat,y04,y05]at hk;refine asR ?_ (by have:=hk.2.1.1.2;omega);rcases atU ka with q|q|q|q
      .exact .inl q.1
      .exact .inr (.inl q.1)
      .exact .inr (.inr (.inl q.1))
      .exact .inr (.inr (.inr q.1))
    have da:=ji.1 (Mg.ug ka).1;have db:=ji.1 (Mg.ug kb).1;simp only at da db;refine auQ hf hi (w:=Mg.yR (Mg.yR d.sn a) b) (fun y hy=>?_) na nb ?_ ?_ qa.1 (qa.1.trans e.1)
    .rw [o8]at hy |-;rw[Mg.Em oa kb,Mg.Em hV ka]
     repeat' split
     all_goals omega
    .rw [o8,Mg.Em oa kb,Mg.Em hV ka];simp only[if_true];rw[yK hn.symm];omega
    .rw [o8,Mg.Em oa kb];simp only[if_true];omega
   rw[hcm,<- NT];constructor
   .rintro (⟨⟨k1,k2⟩|k1,k3⟩|k1)
    .exact .inl ⟨.inl ⟨k1,k3⟩,k2⟩
    .exact absurd ((hP x).1 (by rw[k1];exact⟨ga.1.trans qa.1,ga.2.trans qa.2⟩)) k3
    .exact .inr k1
   .rintro (⟨⟨k1,k2⟩|k1,k3⟩|k1)
    .exact .inl ⟨.inl ⟨k1,k3⟩,k2⟩
    .rw [<- NT]at gb qb;exact absurd ((hP x).2 (by rw[k1];exact⟨gb.1.trans qb.1,gb.2.trans qb.2⟩)) k3
    .exact .inr k1
  .rw [yK e,yK (fun q=>e ⟨q.1.symm,q.2.symm⟩)];have nb':∀x,x=Gc a (fdO d.fs a)->¬isP b x:=fun x k q=>e (by rw[k]at q;exact⟨(ga.1.trans qa.1).symm.trans q.1,(ga.2.trans qa.2).symm.trans q.2⟩);have na':∀x,x=Gc b (fdO d.fs b)->¬isP a x:=fun x k q=>e (by rw[k]at q;exact⟨q.1.symm.trans (gb.1.trans qb.1),q.2.symm.trans (gb.2.trans qb.2)⟩);constructor
   .rintro (⟨⟨k1,k2⟩|k1,k3⟩|k1)
    .exact .inl ⟨.inl ⟨k1,k3⟩,k2⟩
    .exact .inr k1
    .exact .inl ⟨.inr k1,na' x k1⟩
   .rintro (⟨⟨k1,k2⟩|k1,k3⟩|k1)
    .exact .inl ⟨.inl ⟨k1,k3⟩,k2⟩
    .exact .inr k1
    .exact .inl ⟨.inr k1,nb' x k1⟩
 cases h1:afQ (afQ d a) b;cases h2:afQ (afQ d b) a;rw[h1,h2]at hsn hfs;simp only at hsn hfs;rw[hsn,hfs]
theorem auR{d:DO}(ha:EF d a=0)(hb:EF d b=0)(h:a.dv=b.dv):a.sq=b.sq:=by
 have h1:=(as3 ha).2.2.1;have h2:=(as3 hb).2.2.1;unfold Mg.Gm at h1 h2;simp only[y04,y05]at h1 h2;have h3:=h1.2;rw[h]at h3;omega
theorem front:∀{A:List OP}{d:DO}{o:OP}{B:List OP},EF d o=0->allA d (A++o::B)->(∀x∈A,(x.dv,x.sq)≠(o.dv,o.sq))->allA d (o::(A++B))/\(A++o::B).foldl Bn d=(o::(A++B)).foldl Bn d
 |[],_,_,_,_,h,_=>⟨h,rfl⟩
 |a::A,d,o,B,h0,⟨h1,h2⟩,hd=>by
  have hn:a.dv≠o.dv:=fun e=>hd a zS (by rw[e,auR h1 h0 e]);obtain⟨c1,c2⟩:=atY h1 h0 hn;obtain⟨c3,_⟩:=atY h0 h1 hn.symm;obtain⟨i1,i2⟩:=front (A:=A) (d:=afQ d a) c1 h2 fun x hx=>hd x (yF _ hx);have s:∀{d:DO}{o:OP},EF d o=0->Bn d o=afQ d o:=fun h=>by unfold Bn;rw[yL h]
  refine⟨⟨h0,c3,c2▸i1.2⟩,?_⟩;rw[cons_append,foldl_cons,s h1,i2,foldl_cons,s c1,cons_append,foldl_cons,foldl_cons,s h0,s c3,c2]
theorem atH:∀{R S:List OP}{d:DO},allA d R->allA d S->R.Perm S->(R.Pairwise fun x y=>(x.dv,x.sq)≠(y.dv,y.sq))->R.foldl Bn d=S.foldl Bn d
 |[],S,d,_,_,hp,_=>by rw[nil_perm.1 hp]
 |o::R,S,d,⟨h1,h2⟩,hS,hp,hd=>by
  have hm:o∈S:=hp.mem_iff.1 (y06 ..);obtain⟨A,B,rfl⟩:=append_of_mem hm;have hp2:R.Perm (A++B):=(hp.trans perm_middle).cons_inv;have hd':=pairwise_cons.1 hd;obtain⟨k1,k2⟩:=front h1 hS fun x hx e=>hd'.1 x (hp2.mem_iff.2 (y07 _ hx)) e.symm;rw[k2,foldl_cons,foldl_cons];refine atH (d:=Bn d o) ?_ ?_ hp2 hd'.2
  .unfold Bn;rw[yL h1];exact h2
  .unfold Bn;rw[yL h1];exact k1.2
end Go.Dc
namespace Go.Am
open Go
theorem bN.auS{P:Program}{G:Nat->Option (List AV)}{r:Option Nat}{n0:Nat}{c:Code}{aL:List AV}{H:List ah}{dh:List ig}{s':St}{ex:bF}{t:Nat}{x y:AV}(hx:aL.getD t .aP=x)(hs:aF x y)(h:bN P G r n0 c { aL:=aL.set t y,H:=H,dh:=dh } ex s'):bN P G r n0 c { aL:=aL,H:=H,dh:=dh } ex s':=by
 intro V0 V a h0 fB hG dK;have hr:dI V x (a.tmps.getD t undef):=hx▸dK.aL.get t;exact h V0 V a h0 fB hG ⟨eF.setAt dK.aL (Step.refl V) (hs V _ hr),dK.H,dK.dh⟩
end Go.Am
namespace Go.Dc
open Go Go.Am Go.Proofs Go.eY Go.bH
open Go.bV (OP op)
open Go.Mg (dQ dZ aW)
theorem arW:∀{l:List OP}{d:DO},F9 d=0->allA d l->F9 (l.foldl Bn d)=0/\(l.foldl Bn d).sn=Mg.seen d.sn l/\(∀x,gI x d.sn<=gI x (Mg.seen d.sn l))/\(∀o∈l,o.sq<=gI o.dv (Mg.seen d.sn l))/\∀x s,1<=s->s<=gI x (Mg.seen d.sn l)->s<=gI x d.sn\/∃o∈l,o.dv=x/\o.sq=s
 |[],d,h,_=>⟨h,rfl,fun _=>Int.le_refl _,(fun _ h=>by cases h),fun _ _ _ h=>.inl h⟩
 |o::l,d,h,⟨h1,h2⟩=>by
  obtain⟨_,ho,hr,_⟩:=as3 h1;obtain⟨k1,k2⟩:=asB h ho;obtain⟨i1,i2,i3,i4,i5⟩:=arW k1 h2;have hV:=RQ.1 (arD.1 h).1;have e:Bn d o=afQ d o:=by unfold Bn;rw[yL h1]
  have hat:=Mg.Em hV ho;have hm:gI o.dv d.sn=o.sq-1:=by
   unfold Mg.Gm at hr;simp only[y04,y05]at hr;exact hr.2
  rw[k2]at i2 i3 i4 i5;have es:Mg.seen d.sn (o::l)=Mg.seen (Mg.yR d.sn o) l:=rfl;rw[foldl_cons,e,es];refine⟨i1,i2,fun x=>Int.le_trans ?_ (i3 x),fun p hp=>?_,fun x s h0 hs=>?_⟩
  .rw [hat];split<;>omega
  .rcases yH.1 hp with rfl|hp
   .have:=i3 p.dv;rw[hat,yL rfl]at this;omega
   .exact i4 p hp
  .rcases i5 x s h0 hs with q|⟨p,hp,q⟩
   .rw [hat]at q;by_cases ex:o.dv=x
    .rw [yL ex]at q;subst ex;by_cases es:s=o.sq
     .exact .inr ⟨o,zS,rfl,es.symm⟩
     .exact .inl zO
    .rw [yK ex]at q;exact .inl q
   .exact .inr ⟨p,yF _ hp,q⟩
theorem atZ:∀{A:List OP}{d:DO}{o:OP}{B:List OP},allA d (A++o::B)->allA d A/\EF (A.foldl Bn d) o=0
 |[],_,_,_,h=>⟨yO,h.1⟩
 |a::A,d,o,B,⟨h1,h2⟩=>by
  have e:Bn d a=afQ d a:=by unfold Bn;rw[yL h1]
  obtain⟨k1,k2⟩:=atZ h2;exact⟨⟨h1,k1⟩,by rw[foldl_cons,e];exact k2⟩
theorem atI:∀{A:List OP}{d:DO}{o:OP},allA d A->EF (A.foldl Bn d) o=0->allA d (A++[o])
 |[],_,_,_,h=>⟨h,yO⟩
 |a::A,d,o,⟨h1,h2⟩,h=>by
  have e:Bn d a=afQ d a:=by unfold Bn;rw[yL h1]
  rw[foldl_cons,e]at h;exact⟨h1,atI h2 h⟩
theorem at1{α:Type}[DecidableEq α]{r:List α}:∀{R:List α},(∃x∈R,x∈r)->∃A o B,R=A++o::B/\o∈r/\∀x∈A,x∉r
 |[],⟨_,h,_⟩=>by cases h
 |a::R,h=>by
  by_cases k:a∈r
  .exact ⟨[],a,R,rfl,k,fun _ h=>by cases h⟩
  .obtain ⟨x,hx,hr⟩:=h;rcases yH.1 hx with rfl|hx
   .exact absurd hr k
   .obtain ⟨A,o,B,e,ho,hn⟩:=at1 ⟨x,hx,hr⟩;refine⟨a::A,o,B,by rw[e];rfl,ho,fun y hy=>?_⟩;rcases yH.1 hy with rfl|hy
    .exact k
    .exact hn y hy
structure AO(R done r:List OP):Prop where
 perm:(done++r).Perm R
 all:allA ⟨[],[]⟩ done
variable {done r:List OP}
section
variable {R:List OP} (hR:allA ⟨[],[]⟩ R) (hk:∀o∈R,Mg.vO o=true) (hd:R.Pairwise fun x y=>(x.dv,x.sq)≠(y.dv,y.sq))
include hk hd
theorem AO.not{done r:List OP}(h:AO R done r){o:OP}(ho:o∈r):gI o.dv (Gf done).sn<o.sq:=by
 obtain⟨_,i2,_,_,i5⟩:=arW (d:=⟨[],[]⟩) rfl h.all;have hs:=atA (hk o (h.perm.mem_iff.1 (y08 _ ho)));rcases Int.lt_or_le (gI o.dv (Gf done).sn) o.sq with q|q
 .exact q
 .rw [show(Gf done).sn=_ from i2]at q;rcases i5 _ _ hs q with k|⟨p,hp,k1,k2⟩
  .exact absurd k (by show ¬o.sq<=0;omega)
  .have hd':=(Perm.pairwise_iff (fun{a b} h e=>h e.symm) h.perm).2 hd;exact absurd (by rw[k1,k2]) ((pairwise_append.1 hd').2.2 p hp o ho)
theorem AO.two(h:AO R done r){o:OP}(ho:o∈r):EF (Gf done) o=0\/EF (Gf done) o=181:=by
 have hc:F9 (Gf done)=0:=(arW (d:=⟨[],[]⟩) rfl h.all).1;have hO:bV.lM o=0:=y18 (hk o (h.perm.mem_iff.1 (y08 _ ho)));have hn:=h.not hk hd ho;unfold EF;rw[yL hc,yL hO,yK (by rw[o8];simp only;omega)];split
 .split
  .exact .inr rfl
  .exact .inl rfl
 .exact .inr rfl
include hR
theorem AO.some{done r:List OP}(h:AO R done r)(fF:r≠[]):∃o∈r,EF (Gf done) o=0:=by
 obtain⟨x,hx⟩:=exists_mem_of_ne_nil r fF;obtain⟨A,o,B,e,ho,hA⟩:=at1 ⟨x,h.perm.mem_iff.1 (y08 _ hx),hx⟩;have sub:∀y∈A,y∈done:=fun y hy=>by
  have:y∈R:=by rw[e];exact y07 _ hy
  exact(yI.1 (h.perm.mem_iff.2 this)).elim id fun q=>absurd q (hA y hy)
 obtain⟨a1,a2⟩:=atZ (e▸hR);obtain⟨j1,j2,_,_,j5⟩:=arW (d:=⟨[],[]⟩) rfl a1;obtain⟨i1,i2,_,i4,_⟩:=arW (d:=⟨[],[]⟩) rfl h.all;obtain⟨_,_,k3,_⟩:=as3 a2;have ko:=hk o (by rw[e];simp);have hn:=h.not hk hd ho;have vo:Ok (done.foldl Bn ⟨[],[]⟩).sn:=RQ.1 (arD.1 i1).1;have va:Ok (A.foldl Bn ⟨[],[]⟩).sn:=RQ.1 (arD.1 j1).1;have le:∀x,gI x (A.foldl Bn ⟨[],[]⟩).sn<=gI x (done.foldl Bn ⟨[],[]⟩).sn:=fun x=>by
  have h1:=(mg vo x).1;have h2:=(mg va x).1;rcases Int.lt_or_le 0 (gI x (A.foldl Bn ⟨[],[]⟩).sn)with q|q
  .rw [j2]at q |-;rcases j5 x _ (show 1<=_ from q) (Int.le_refl _)with k|⟨p,hp,k1,k2⟩
   .exact absurd k (by show ¬_<=(0:Int);omega)
   .rw [<- k2,i2,<- k1];exact i4 p (sub p hp)
  .omega
 refine⟨o,ho,arZ i1 ko ((Mg.Qi hn).2 (Mg.Met.mono le ((Mg.Qi ?_).1 k3)))⟩;exact Int.lt_of_le_of_lt (le o.dv) hn
end
variable {i:Nat}
theorem AO.step{R:List OP}(h:AO R done r)(hi:i<r.length)(h0:EF (Gf done) r[i]=0):AO R (done++[r[i]]) (r.take i++r.drop (i+1)):=by
 refine⟨Perm.trans ?_ h.perm,atI h.all h0⟩;rw[y16];refine Perm.append_left done ?_
 conv=>rhs;rw[<- y30 i r,<- getElem_cons_drop hi]
 exact(perm_middle (a:=r[i]) (l₁:=r.take i) (l₂:=r.drop (i+1))).symm
variable {y:DO}{m f k:Nat}{ps:List Nat}{ls:List OP}
theorem auq{q:List OP}{g n:Nat}{xs:List (List AV)}{ex:bF}{s':St}(hx:xs=dZ q)(hn:n=q.length)(h:bN P G none 0 (vg P 7 1) (aiS ls q ps m f k true y) ex s') :
 bN P G none 0 (vg P 7 1) { aL:=aC 84 [(0,dQ ls),(1,pks ps),(5,.aU 3 g 0 n),(6,.ptr 1 0),(7,int m),(8,int f),(9,Am.bool true),(10,int k)],H:=[.aH,.box [bB y.sn,Md y.fs],.box [bB y.sn,Md y.fs],.aN g 17 false xs] } ex s':=by
 subst hx hn;refine bN.aui (t:=5) (x:=.aU 3 g 0 q.length) (y:=dQ q) (z:=dZ q) (H1:=[.aH,.box [bB y.sn,Md y.fs],.box [bB y.sn,Md y.fs],.aN g 17 true (dZ q)]) (ps:=[g=g,List.take q.length (List.drop 0 (dZ q))=dZ q,(dZ q).length=q.length,∀c∈dZ q,c.all AV.fJ=true]) rfl rfl ⟨rfl,by rw[drop_zero,y27 (by rw[aW];exact yM)],aW q,Mg.jd q,yO⟩ ?_;exact bN.auO [] 2 (s2:=aiS ls q ps m f k true y) (ps:=[]) rfl trivial h
theorem auM(r:List OP)(i:Nat):dZ (r.take i++r.drop (i+1))=List.drop 0 (List.take i (dZ r))++List.drop (i+1) (List.take r.length (dZ r)):=by
 rw[drop_zero,y27 (l:=dZ r) (i:=r.length) (by rw[aW];exact yM)];simp[dZ,map_take,map_drop]
theorem auZ{d:DO}(hl:r.length<=10000)(hf:f<256)(hk:k<r.length)(hi:(f+k) % r.length=i)(hir:i<r.length)(hA:ak P G 27 [kI d,op r[i]] [] (.ret (.bq [kI y,int 0])) []) :
 bN P G none 0 (vg P 7 1) (aiS ls r ps m f k false d) (.exit 2) (avu ls (r.take i++r.drop (i+1)) ps m true y):=by
 have hx:=avd ls (r.take i++r.drop (i+1)) ps m f (k+1) y ⟨fun _=>trivial,fun _=>trivial⟩;have e:=auM r i;have bL:(r.take i++r.drop (i+1)).length<=r.length:=by simp;omega
 have l1:(List.drop 0 (List.take i (dZ r))).length+(List.drop (i+1) (List.take r.length (dZ r))).length=(r.take i++r.drop (i+1)).length:=by
  rw[<- yD,<- e,aW]
 subst hi;refine amW ls r ps m f k r[(f+k) % r.length] d y hl hf zO (Int.ofNat_tmod _ _).symm hir (yA hir) hA _ _ ⟨fun h1=>⟨fun h2=>?_,fun h2=>⟨zO,?_⟩⟩,fun h1=>⟨zO,zO,?_⟩⟩
 .rw [h1,h2]at e;have e0:r.take ((f+k) % r.length)++r.drop ((f+k) % r.length+1)=[]:=by
   have:=yJ length e;rw[aW]at this;exact length_eq_zero_iff.1 this
  rw[e0]at hx |-;exact bN.auS (t:=5) (x:=.sl 17 true []) (y:=dQ []) rfl (aF.oP 17 true []) hx
 .rw [h1,nil_append]at e;rw[h1,y14]at l1;exact auq e.symm zO hx
 .exact auq e.symm zO hx
section
variable {ls R:List OP} {ps:List Nat} (hl:R.length<=10000) (hO:∀o∈R,OkO o) (hR:allA ⟨[],[]⟩ R) (hk:∀o∈R,Mg.vO o=true) (hd:R.Pairwise fun x y=>(x.dv,x.sq)≠(y.dv,y.sq))
include hl hO hR hk hd
omit hR in
theorem acd{done r:List OP}(h:AO R done r){m f:Nat}(hf:f<256){k0:Nat}(h0:k0<r.length)(ha:∃(q:(f+k0) % r.length<r.length),EF (Gf done) r[(f+k0) % r.length]=0):∀n k,k0-k=n->k<=k0 ->
 ∃dn q,AO R dn q/\q.length+1=r.length/\bN P G none 0 (vg P 7 1) (aiS ls r ps m f k false (Gf done)) (.exit 2) (avu ls q ps m true (Gf dn)):=by
 have bL:=h.perm.length_eq;rw[yD]at bL;have hs:=Ug done fun o ho=>(hO o (h.perm.mem_iff.1 (y07 _ ho))).p;have hap:∀(i:Nat)(hi:i<r.length),ak P G 27 [kI (Gf done),op r[i]] [] (.ret (.bq [kI (Bn (Gf done) r[i]),int (EF (Gf done) r[i])])) []:=fun i hi=>by
  have hm:=hO _ (h.perm.mem_iff.1 (y08 done (y03 hi)));exact agI hs zO hm.n hm.p hm.c
 have yes:∀k,k<r.length->∀(q:(f+k) % r.length<r.length),EF (Gf done) r[(f+k) % r.length]=0->∃dn q,AO R dn q/\q.length+1=r.length/\bN P G none 0 (vg P 7 1) (aiS ls r ps m f k false (Gf done)) (.exit 2) (avu ls q ps m true (Gf dn)):=fun k hk' q e=>by
  have c:=hap _ q;rw[e]at c;have e2:Bn (Gf done) r[(f+k) % r.length]=Gf (done++[r[(f+k) % r.length]]):=by
   unfold Gf;rw[foldl_append];rfl
  rw[e2]at c;exact⟨_,_,h.step q e,by simp;omega,auZ zO hf hk' rfl q c⟩
 intro n
 induction n with
 |zero =>
  intro k h1 h2;have e:k=k0:=zO
  obtain⟨q,a⟩:=ha;subst e;exact yes k h0 q a
 |succ n ih =>
  intro k h1 h2;have q:(f+k) % r.length<r.length:=Nat.mod_lt _ zO;rcases h.two hk hd (y03 q)with e|e
  .exact yes k zO q e
  .obtain ⟨dn,q',a1,a2,a3⟩:=ih (k+1) zO zO;have c:=hap _ q;rw[e]at c;exact⟨dn,q',a1,a2,avc ls r ps m f k _ _ zO hf zO (Int.ofNat_tmod _ _).symm q (yA q) _ c _ _ a3⟩
theorem auT(dG:ps.length<=9223372036854775807)(hpt:∀t∈ps,t<256):∀n {done r:List OP} (m:Nat),AO R done r->r.length=n->m+n<=20000->bN P G none 0 (vg P 7 0) (avr ls r ps m (Gf done)) (.exit 0) (avs ls (Gf R)):=by
 intro n
 induction n with
 |zero =>
  intro done r m h hr hm;obtain rfl:=length_eq_zero_iff.1 hr;have hp:=h.perm;rw[y23]at hp;have e:Gf R=Gf done:=atH hR h.all hp.symm hd;rw[e];exact ave ls ps m _ trivial
 |succ n ih =>
  intro done r m h hr hm;have vN:∀f:Nat,f<256->∃dn q,AO R dn q/\q.length+1=r.length/\bN P G none 0 (vg P 7 1) (aiS ls r ps m f 0 false (Gf done)) (.exit 2) (avu ls q ps m true (Gf dn)):=fun f hf=>by
   obtain⟨o,ho,e⟩:=h.some hR hk hd (by intro q;rw[q]at hr;cases hr);obtain⟨j,hj,rfl⟩:=mem_iff_getElem.1 ho;have e2:(f+(j+(r.length-f % r.length)) % r.length) % r.length=j:=by
    have bg:=Nat.mod_lt f (show 0<r.length by omega);rw[Nat.add_mod_mod];have:f+(j+(r.length-f % r.length))=j+r.length*(f/r.length+1):=by
     have:=Nat.div_add_mod f r.length;rw[Nat.mul_add,Nat.mul_one];omega
    rw[this,Nat.add_mul_mod_self_left,Nat.mod_eq_of_lt hj]
   refine acd hl hO hk hd h hf (k0:=(j+(r.length-f % r.length)) % r.length) (Nat.mod_lt _ zO) ⟨by rw[e2];exact hj,?_⟩ _ 0 rfl yN;simp only[e2];exact e
  by_cases hp:m<ps.length
  .have ht:=hpt _ (y03 hp);obtain⟨dn,q,a1,a2,a3⟩:=vN _ ht;exact avf ls r q ps m _ _ _ zO zO dG (yA hp) ht a3 _ _ (ih (m+1) a1 zO zO)
  .obtain ⟨dn,q,a1,a2,a3⟩:=vN 0 zO;exact avg ls r q ps m _ _ zO zO zO a3 _ _ (ih (m+1) a1 zO zO)
end
end Go.Dc
namespace Go.Mg
open Go Go.Am Go.Proofs Go.eY Go.bH Go.yU Go.bV
theorem atu{ls:List OP}{ps:List Nat}(hp:∀o∈ls,Fw o)(hl:ls.length<=9223372036854775807)(dG:ps.length<=9223372036854775807)(hpt:∀t∈ps,t<256):ak P G 7 [dQ ls,Dc.pks ps] [] (.ret (Am.bool true)) []:=by
 rcases KU 14 hp hl with h1|⟨h1,k1,g1⟩
 .exact Dc.avh ls ps I8 h1 trivial
 have gu:=EM g1;have lu:=GV ls;have lr:(GR (kK ls)).length<=(kK ls).length:=uX;have hR:=qH (GX ls zO g1);have hD:=KT zO g1;have k:=R3 g1;have er:=adx (AQ g1) (I6 g1);have hi:=inv0 (AQ g1) (I6 g1);have ha:=(Dc.arS (n:=(kK ls).length) (d:=⟨[],[]⟩) hi rfl rfl).1;rw[<- er]at ha;have gr:rZ (GR (kK ls)):=fun o ho=>gu o (k.sub o ho);have sm:=Dc.Ug (GR (kK ls)) fun o ho=>(gr o ho).1;have hd:=Dc.ZY _ (sm.dim zO).1;have hk:∀o∈GR (kK ls),Dc.OkO o:=fun o ho=>agO (gr o ho);have hv:∀o∈GR (kK ls),vO o=true:=fun o ho=>AQ g1 o (k.sub o ho);by_cases h0:GR (kK ls)=[]
 .rw [h0]at hR hD hd;refine Dc.avj ls [] ps I8 h1 hR ?_ hD hd trivial;have hL:=Dc.au1 ls ps trivial;refine bN.ZX (b:=0) (j:=0) (cells:=[aK,aK]) rfl rfl (aF.nil 2) ?_;exact bN.ZX (b:=0) (j:=1) (cells:=[bB [],aK]) rfl rfl (aF.nil 7) hL
 .have hL:=Dc.auT (ls:=ls) (ps:=ps) zO hk ha hv k.nd dG hpt _ 0 (done:=[]) (r:=GR (kK ls)) ⟨Perm.refl _,yO⟩ rfl zO;refine Dc.avi ls (GR (kK ls)) ps _ zO (fun q=>h0 (length_eq_zero_iff.1 (by rw[<- aW,q];rfl))) I8 h1 hR ?_ hD hd trivial;refine bN.aui (t:=5) (x:=.aU 0 0 0 (GR (kK ls)).length) (y:=dQ (GR (kK ls))) (z:=dZ (GR (kK ls))) (H1:=[.aN 0 17 true (dZ (GR (kK ls))),.box [aK,aK]]) (ps:=[0=0,List.take (GR (kK ls)).length (List.drop 0 (dZ (GR (kK ls))))=dZ (GR (kK ls)),(dZ (GR (kK ls))).length=(GR (kK ls)).length,∀c∈dZ (GR (kK ls)),c.all AV.fJ=true]) rfl rfl ⟨rfl,by rw[drop_zero,y27 (by rw[aW];exact yM)],aW _,jd _,yO⟩ ?_;refine bN.ZX (b:=1) (j:=0) (cells:=[aK,aK]) rfl rfl (aF.nil 2) ?_;refine bN.ZX (b:=1) (j:=1) (cells:=[bB [],aK]) rfl rfl (aF.nil 7) ?_;refine bN.acz hL ?_;exact⟨.inr yO,.inl rfl,yO⟩
theorem cz5:Tryz.prog.cellsOf 5=1:=zQ
theorem avp:Tryz.prog.cellsOf 45=1:=zQ
noncomputable def au9:zA Tryz.prog 5 Nat where
 aQ n:=Dc.pk1 n
 good n:=n<256
 size _:=cz5.symm
 rd h:=by
  obtain⟨n,rfl,_,hw⟩:=DataW.trod_int Tryz.underlying5 h;have hr:0<=n/\n<256:=by
   simp[Lit.wf,IntKind.min,IntKind.max,IntKind.signed,IntKind.bits]at hw;omega
  have e:((n.toNat:Nat):Int)=n:=zO
  refine⟨n.toNat,by show n.toNat<256;omega,rfl,fun j hj=>?_⟩
  match j,hj with
  |0,_ =>
   refine⟨?_,rfl⟩;show dR _ _ (.lit (.int .u8 ((n.toNat:Nat):Int))) (.int .u8 n);rw[e];exact .lit _
noncomputable def auN:zA Tryz.prog 45 (List Nat):=zA.slice Tryz.underlying45 avp (by rw[cz5];decide) au9
theorem aug(v:List Nat):auN.aQ v=[Dc.pks v]:=by
 show[AV.sl (Tryz.prog.cellsOf 5) false (v.map au9.aQ)]=[AV.sl 1 false (v.map Dc.pk1)];rw[cz5];rfl
theorem atO{H:Type}{aQ:TypeId×Value->H}{W:World}{base:Nat}{v:Value}{d:DataW H}{ps:List MemPlace}(hv:Value.okWide Tryz.prog W .any base 45 v)(h:DataW.Trod aQ Tryz.prog W 0 (fun _=>true) true 45 v d ps):∃l:List Nat,(l.length<=9223372036854775807/\∀t∈l,t<256)/\dI (nA W) (Dc.pks l) v:=by
 obtain⟨a,h1,h2⟩:=auN.one zQ hv h aug;exact⟨a,⟨h1.1,fun t ht=>h1.2 t ht⟩,h2⟩
end Go.Mg
