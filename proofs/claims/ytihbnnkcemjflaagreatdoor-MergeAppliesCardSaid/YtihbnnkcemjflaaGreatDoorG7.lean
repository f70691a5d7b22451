import Derived.Test.YtihbnnkcemjflaaGreatDoorG6
set_option maxRecDepth 100000
set_option linter.unusedSimpArgs false
set_option linter.unusedVariables false
open List
noncomputable section
namespace Go.Dc
open Go Go.Am Go.Proofs Go.eY Go.bH
def Bn(d:DO)(o:bV.OP):DO:=if EF d o=0 then afQ d o else⟨[],[]⟩
def Gf(l:List bV.OP):DO:=l.foldl Bn ⟨[],[]⟩
theorem YD(l:List TL)(d s n:Int):(OJ l d s n).1.length<=l.length+1:=by
 unfold OJ;have:=Mk (cD d) l;split
 .split
  .split
   .split
    .simp
    .simp
   .simp;omega
  .simp
 .simp
theorem OQ{c:FD->Int}{ef:FD->FD}{o:bV.OP}{l:List FD}{x:FD}(h:x∈Ig c ef o l):x∈l\/∃y,(y∈l\/y=Fx o)/\x=ef y:=by
 unfold Ig at h;split at h
 .rename_i hb;have bg:rV c l<l.length:=by
   rcases Nat.lt_or_ge (rV c l) l.length with h|h
   .exact h
   .rw [getElem?_eq_none h]at hb;cases hb
  rcases mem_or_eq_of_mem_set h with h|h
  .exact .inl h
  .refine .inr ⟨_,.inl ?_,h⟩;rw[yB,yA bg,Option.getD_some];exact getElem_mem bg
 .simp only[yI,mem_singleton]at h;rcases h with(h|h)|h
  .exact .inl (mem_of_mem_take h)
  .exact .inr ⟨_,.inr rfl,h⟩
  .exact .inl (mem_of_mem_drop h)
theorem YE(c:FD->Int)(ef:FD->FD)(o:bV.OP)(l:List FD):(Ig c ef o l).length<=l.length+1:=by
 unfold Ig;have:=Rh c l;split
 .rw [length_set];omega
 .simp;omega
theorem VL(v:List Bd.BE)(c:List D)(k:yP):(Bd.CZ v c k).1.length<=v.length:=by
 unfold Bd.CZ;split
 .split
  .exact (Bd.zF v c k).length_le
  .exact Nat.zero_le _
 .exact Nat.zero_le _
theorem ZQ(v:List Bd.BE)(c:List D)(b:Bd.BE):(Bd.OB v c b).1.length<=v.length+1:=by
 unfold Bd.OB;split
 .split
  .split
   .have h:=(Bd.VJ b (Bd.rest v c b.ky)).length_eq;have:=(Bd.zF v c b.ky).length_le;simp only[yE]at h;show(Bd.VI b (Bd.rest v c b.ky)).length<=v.length+1;omega
   .exact Nat.zero_le _
  .exact Nat.zero_le _
 .exact Nat.zero_le _
structure yu(n:Nat)(f:FD):Prop where
 ce:f.ce.length<=n
 bi:f.bi.length<=n
 ta:f.ta.length<=n
theorem yu.mono{n m:Nat}{f:FD}(h:yu n f)(hm:n<=m):yu m f:=⟨by have:=h.ce;omega,by have:=h.bi;omega,by have:=h.ta;omega⟩
theorem acM{n:Nat}{o:bV.OP}{f:FD}(h:yu n f):yu (n+1) (ef1 o f):=by
 unfold ef1;split
 .exact ⟨by have:=Sq.Ib f.ce (KD o);have:=h.ce;show(Sq.rU f.ce (KD o)).length<=n+1;omega,by have:=h.bi;show f.bi.length<=n+1;omega,by have:=h.ta;show f.ta.length<=n+1;omega⟩
 .exact h.mono zO
theorem acN{n:Nat}{o:bV.OP}{f:FD}(h:yu n f):yu (n+1) (ef2 o f):=by
 unfold ef2;split
 .exact ⟨by have:=Sq.Yn f.ce o.f1 o.f2 o.f3;have:=h.ce;show(Sq.Ez f.ce o.f1 o.f2 o.f3).length<=n+1;omega,by have:=h.bi;show f.bi.length<=n+1;omega,by have:=h.ta;show f.ta.length<=n+1;omega⟩
 .exact h.mono zO
theorem acO{n:Nat}{o:bV.OP}{f:FD}(h:yu n f):yu (n+1) (ef3 o f):=by
 unfold ef3;split
 .exact ⟨by have:=h.ce;show f.ce.length<=n+1;omega,by have:=ZQ f.bi (Q5 o) ⟨o.ky,o.dv,o.sq,o.tm,o.vl⟩;have:=h.bi;show(Bd.OB f.bi (Q5 o) ⟨o.ky,o.dv,o.sq,o.tm,o.vl⟩).1.length<=n+1;omega,by have:=h.ta;show f.ta.length<=n+1;omega⟩
 .exact h.mono zO
theorem acP{n:Nat}{o:bV.OP}{f:FD}(h:yu n f):yu (n+1) (ef4 o f):=by
 unfold ef4;split
 .exact ⟨by have:=h.ce;show f.ce.length<=n+1;omega,by have:=VL f.bi (Q5 o) o.ky;have:=h.bi;show(Bd.CZ f.bi (Q5 o) o.ky).1.length<=n+1;omega,by have:=h.ta;show f.ta.length<=n+1;omega⟩
 .exact h.mono zO
theorem acQ{n:Nat}{o:bV.OP}{f:FD}(h:yu n f):yu (n+1) (ef5 o f):=by
 unfold ef5;split
 .exact ⟨by have:=h.ce;show f.ce.length<=n+1;omega,by have:=h.bi;show f.bi.length<=n+1;omega,by have:=YD f.ta o.dv o.sq o.n;have:=h.ta;show(OJ f.ta o.dv o.sq o.n).1.length<=n+1;omega⟩
 .exact h.mono zO
theorem I5{n:Nat}{f:FD}{r:Tx.TE×Int}(h:yu n f):yu n (MB f r):=by
 unfold MB;split
 .exact ⟨h.ce,h.bi,h.ta⟩
 .exact h
theorem acR{n:Nat}{o:bV.OP}{f:FD}(h:yu n f):yu (n+1) (Gc o f):=by
 unfold Gc;split
 .exact acM h
 split
 .exact acN h
 split
 .exact acO h
 split
 .exact acP h
 split
 .exact acQ h
 split
 .exact (I5 h).mono zO
 split
 .exact (I5 h).mono zO
 .exact (I5 h).mono zO
structure agA(n:Nat)(d:DO):Prop where
 fs:d.fs.length<=n
 all:∀f∈d.fs,yu n f
theorem VN{n:Nat}{d:DO}{o:bV.OP}(h:agA n d):agA (n+1) (Bn d o):=by
 unfold Bn;split
 .refine ⟨?_,fun f hf=>?_⟩
  .have:=YE (cO o) (Gc o) o d.fs;have:=h.fs;show(Ig (cO o) (Gc o) o d.fs).length<=n+1;omega
  .rcases OQ hf with hf|⟨y,hy,rfl⟩
   .exact (h.all f hf).mono zO
   .refine acR ?_;rcases hy with hy|rfl
    .exact h.all y hy
    .exact ⟨Nat.zero_le _,Nat.zero_le _,Nat.zero_le _⟩
 .exact ⟨Nat.zero_le _,fun f hf=>by cases hf⟩
theorem GA{l:List Sq.CE}{c:Sq.CE}(h:Sq.kQ l)(hc:Sq.Cu c):Sq.kQ (Sq.rU l c):=by
 unfold Sq.rU;split
 .exact fun _ h=>by cases h
 .split
  .exact fun _ h=>by cases h
  .exact (h.HV hc).ord
theorem agB{o:bV.OP}{f:FD}(ho:bV.Fw o)(h:Sq.kQ f.ce):Sq.kQ (ef1 o f).ce:=by
 unfold ef1;split
 .exact GA h (aec ho)
 .exact h
theorem acS{l:List Sq.CE}{a b c:Int}(h:Sq.kQ l):Sq.kQ (Sq.Ez l a b c):=by
 unfold Sq.Ez;split
 .exact fun _ h=>by cases h
 .split
  .rename_i j _;intro x hx;obtain⟨i,hi,rfl⟩:=mem_iff_getElem.1 hx;unfold Sq.mY at hi |-;rw[length_modify]at hi;have:=h _ (getElem_mem hi);rw[getElem_modify];split
   .exact this
   .exact this
  .exact fun _ h=>by cases h
theorem agC{o:bV.OP}{f:FD}(h:Sq.kQ f.ce):Sq.kQ (ef2 o f).ce:=by
 unfold ef2;split
 .exact acS h
 .exact h
theorem VO{l:List Sq.CE}{j:Nat}(h:Sq.kQ l):Sq.kQ (Sq.mY l j):=fun x hx=>by
 obtain⟨i,hi,rfl⟩:=mem_iff_getElem.1 hx;unfold Sq.mY at hi |-;rw[length_modify]at hi;have:=h _ (getElem_mem hi);rw[getElem_modify];split
 .exact this
 .exact this
theorem Uf{a b c:Int}:∀{n k:Nat}{l r:List Sq.CE},Tx.vY a b c n k l=some r->Sq.kQ l->Sq.kQ r
 |0,_,_,_,h,ho=>by simp only[Tx.vY,Option.some.injEq]at h;exact h▸ho
 |n+1,k,l,r,h,ho=>by
  rw[Tx.vY]at h;split at h
  .exact Uf h (VO ho)
  .cases h
theorem ZR{dv sq tm:Int}{s:yP}(h1:Sq.fO dv)(h2:Sq.fO sq):∀(n k:Nat)(i:Sq.ID)(l:List Sq.CE),k+n<=64->Sq.fO i.1->Sq.fO i.2.1->Sq.fO i.2.2->Sq.kQ l->(Tx.TI dv sq tm s n k i l).1.length<=l.length+n/\Sq.kQ (Tx.TI dv sq tm s n k i l).1
 |0,_,_,_,_,_,_,_,h=>⟨Nat.le_refl _,h⟩
 |n+1,k,i,l,hk,a,b,c,h=>by
  rw[Tx.TI];split
  .exact ⟨Nat.zero_le _,nofun⟩
  .have hq:Sq.fO (k:Int):=by unfold Sq.fO;omega
   obtain⟨p,q⟩:=ZR h1 h2 n (k+1) (dv,sq,(k:Int)) (Sq.rU l (Tx.U9 dv sq tm k i s)) zO h1 h2 hq (GA h ⟨⟨h1,h2,hq⟩,a,b,c⟩);exact⟨by have:=Sq.Ib l (Tx.U9 dv sq tm k i s);omega,q⟩
structure Bg(n m:Nat)(t:Tx.TE):Prop where
 tc:t.cells.length<=n
 tm:t.bQ.length<=m
 ok:Tx.OkT t
theorem Nh(n m:Nat):Bg n m Tx.zT:=⟨Nat.zero_le _,Nat.zero_le _,⟨(fun _ h=>by cases h),(fun _ h=>by cases h)⟩⟩
theorem agD{n m:Nat}{t:Tx.TE}{dv sq tm:Int}{i:Sq.ID}{s:yP}(h1:Sq.fO dv)(h2:Sq.fO sq)(a:Sq.fO i.1)(b:Sq.fO i.2.1)(c:Sq.fO i.2.2)(h:Bg n m t):Bg (n+64) (m+1) (Tx.Ve t dv sq tm i s).1:=by
 unfold Tx.Ve;split
 .exact Nh _ _
 split
 .exact Nh _ _
 .rename_i hs;obtain⟨p,q⟩:=ZR (s:=s) (tm:=tm) h1 h2 s.size 0 i t.cells zO a b c h.ok.cells;have:=h.tc;split
  .exact ⟨by show(Tx.TI dv sq tm s s.size 0 i t.cells).1.length<=_;omega,Nat.le_succ_of_le h.tm,⟨q,h.ok.bQ⟩⟩
  .exact Nh _ _
theorem agE{n m:Nat}{t:Tx.TE}{i:Sq.ID}{k:Int}(h:Bg n m t):Bg (n+64) (m+1) (Tx.Vg t i k).1:=by
 unfold Tx.Vg;split
 .exact Nh _ _
 split
 .exact Nh _ _
 split
 .rename_i l hl;have:=h.tc;exact⟨by have:=Tx.Ie hl;show l.length<=_;omega,Nat.le_succ_of_le h.tm,⟨Uf hl h.ok.cells,h.ok.bQ⟩⟩
 .exact Nh _ _
theorem agF{n m:Nat}{t:Tx.TE}{x:Tx.MK}(hx:Tx.OkM x)(h:Bg n m t):Bg (n+64) (m+1) (Tx.Vk t x).1:=by
 unfold Tx.Vk;split
 .exact Nh _ _
 split
 .exact Nh _ _
 split
 .exact Nh _ _
 .have:=Tx.Mv x t.bQ;have h2:=h.tm;refine⟨Nat.le_trans h.tc zO,?_,⟨h.ok.cells,fun y hy=>?_⟩⟩
  .simp;omega
  .simp only[yI,mem_singleton]at hy;rcases hy with(hy|rfl)|hy
   .exact h.ok.bQ y (mem_of_mem_take hy)
   .exact hx
   .exact h.ok.bQ y (mem_of_mem_drop hy)
theorem RZ{n m:Nat}{f:FD}{r:Tx.TE×Int}(h:Bg n m (Gb f))(hr:Bg (n+64) (m+1) r.1):Bg (n+64) (m+1) (Gb (MB f r)):=by
 unfold MB;split
 .exact hr
 .exact ⟨Nat.le_trans h.tc zO,Nat.le_succ_of_le h.tm,h.ok⟩
theorem akX{o:bV.OP}(h:bV.Fw o):Tx.OkM (mkO o):=⟨h.dv,h.sq,h.tm,h.f1,h.f2,h.f3,h.t1,h.t2,h.t3,h.n⟩
theorem agG(o:bV.OP)(f:FD):Gb (ef1 o f)=Gb f:=by grind[ef1]
theorem agH(o:bV.OP)(f:FD):Gb (ef2 o f)=Gb f:=by grind[ef2]
theorem ZT(o:bV.OP)(f:FD):Gb (ef3 o f)=Gb f/\(ef3 o f).ce=f.ce:=by grind[ef3]
theorem ZU(o:bV.OP)(f:FD):Gb (ef4 o f)=Gb f/\(ef4 o f).ce=f.ce:=by grind[ef4]
theorem ZV(o:bV.OP)(f:FD):Gb (ef5 o f)=Gb f/\(ef5 o f).ce=f.ce:=by grind[ef5]
theorem Ni(f:FD)(r:Tx.TE×Int):(MB f r).ce=f.ce:=by grind[MB]
theorem Bg.up{n m:Nat}{t:Tx.TE}(h:Bg n m t):Bg (n+64) (m+1) t:=⟨Nat.le_trans h.tc zO,Nat.le_succ_of_le h.tm,h.ok⟩
theorem aeA{n m:Nat}{o:bV.OP}{f:FD}(ho:bV.Fw o)(h:Bg n m (Gb f))(hc:Sq.kQ f.ce):Bg (n+64) (m+1) (Gb (Gc o f))/\Sq.kQ (Gc o f).ce:=by
 unfold Gc;split
 .exact ⟨agG o f▸h.up,agB ho hc⟩
 split
 .exact ⟨agH o f▸h.up,agC hc⟩
 split
 .exact ⟨(ZT o f).1▸h.up,(ZT o f).2▸hc⟩
 split
 .exact ⟨(ZU o f).1▸h.up,(ZU o f).2▸hc⟩
 split
 .exact ⟨(ZV o f).1▸h.up,(ZV o f).2▸hc⟩
 split
 .exact ⟨RZ h (agD ho.dv ho.sq ho.f1 ho.f2 ho.f3 h),by unfold ef6;rw[Ni];exact hc⟩
 split
 .grind [RZ,agE,ef7,Ni]
 .grind [RZ,agF,akX,ef8,Ni]
theorem VP(v:List D)(x:D):(uK v [x]).length<=v.length+1:=by
 unfold uK;split
 .exact KE _ _
 .exact Nat.zero_le _
structure SmD(n:Nat)(d:DO):Prop where
 few:agA n d
 sn:d.sn.length<=n
 tx:∀f∈d.fs,Bg (64*n) n (Gb f)/\Sq.kQ f.ce
theorem aeB(n:Nat):SmD n ⟨[],[]⟩:=⟨⟨Nat.zero_le _,nofun⟩,Nat.zero_le _,nofun⟩
theorem ZW{n:Nat}{d:DO}{o:bV.OP}(ho:bV.Fw o)(h:SmD n d):SmD (n+1) (Bn d o):=by
 refine⟨VN h.few,?_,?_⟩
 .unfold Bn;split
  .have:=VP d.sn (o.dv,o.sq);have:=h.sn;show(uK d.sn [(o.dv,o.sq)]).length<=n+1;omega
  .exact Nat.zero_le _
 .unfold Bn;have e:64*(n+1)=64*n+64:=zO
  rw[e];split
  .intro f hf;rcases OQ hf with hf|⟨y,hy,rfl⟩
   .exact ⟨(h.tx f hf).1.up,(h.tx f hf).2⟩
   .rcases hy with hy|rfl
    .exact aeA ho (h.tx y hy).1 (h.tx y hy).2
    .exact aeA ho ⟨Nat.zero_le _,Nat.zero_le _,(Yx o).tx⟩ (Yx o).ce
  .simp
theorem Pw:∀(l:List bV.OP){n:Nat}{d:DO},(∀o∈l,bV.Fw o)->SmD n d->SmD (n+l.length) (l.foldl Bn d)
 |[],_,_,_,h=>h
 |o::l,n,d,hl,h=>by
  have:=Pw l (fun x hx=>hl x (yF _ hx)) (ZW (hl o zS) h);rw[foldl_cons,yE,show n+(l.length+1)=n+1+l.length by omega];exact this
theorem Ug(l:List bV.OP)(hl:∀o∈l,bV.Fw o):SmD l.length (Gf l):=by
 have:=Pw l hl (aeB 0);rwa[Nat.zero_add]at this
theorem SmD.dim{n:Nat}{d:DO}(h:SmD n d)(hn:n<=10000):Dim d/\∀x∈d.fs,x.ce.length<=999999:=by
 refine⟨⟨by have:=h.sn;omega,by have:=h.few.fs;omega,fun f hf=>?_,fun f hf=>?_⟩,fun f hf=>by have:=(h.few.all f hf).ce;omega⟩
 .have a:=h.few.all f hf;have b:=(h.tx f hf).1;have h1:=a.ce;have h2:=a.bi;have h3:=a.ta;have h4:f.tc.length<=64*n:=b.tc;have h5:f.tm.length<=n:=b.tm;exact⟨zO,zO,zO,zO,zO⟩
 .have b:=h.tx f hf;have h4:f.tc.length<=64*n:=b.1.tc;have h5:f.tm.length<=n:=b.1.tm;exact⟨b.2,b.1.ok,⟨by show f.tc.length<=_;omega,by show f.tm.length<=_;omega⟩⟩
theorem agI{n:Nat}{d:DO}{o:bV.OP}(h:SmD n d)(hn:n<=10000)(hk:bV.Okn o)(ho:bV.Fw o)(hc:o.cx.length<=1000000) :
 Cq 27 [kI d,bV.op o] (.bq [kI (Bn d o),int (EF d o)]):=by
 obtain⟨a,b⟩:=h.dim hn;have k:=Vl a hk ho hc b;unfold Bn;by_cases e:EF d o=0
 .grind
 .rw [yK e]at k |-;exact k.out (aF.iM ⟨aF.qo ⟨aF.nil 2,aF.nil 7,yO⟩,aF.refl _,yO⟩)
end Go.Dc
namespace Go.Am
open Go
section
variable {P:Program} {G:Nat->Option (List AV)}
theorem Px{V:View}{b j:Nat}{cells:List AV}{x y:AV}(hG:aD G V)(hb:V.H[b]?=some (.box cells))(hj:cells[j]?=some x)(hxy:aF x y):∃V':View,V'.w=V.w/\V'.H=V.H.set b (.box (cells.set j y))/\Step V V'/\aD G V':=by
 obtain⟨t,vs,h1,h2⟩:=hG.eP b _ hb;have JN:=(yC.1 hj).1;have hx:dI V x (vs.getD j undef):=by
  have:=h2.2 j JN;rwa[show cells.getD j .aP=x by rw[yB,hj];rfl]at this
 have hr:bR V (cells.set j y) vs:=by
  have:=h2.set j (hxy V _ hx);have e:vs.set j (vs.getD j undef)=vs:=by
   apply ext_getElem?;intro i;rw[getElem?_set];split
   .rename_i e;subst e;have:j<vs.length:=by rw[h2.1];exact JN
    rw[yL this,yB,yA this];rfl
   .rfl
  rwa[e]at this
 obtain⟨V2,l1,l2,l3,l4⟩:=wE (eP:=.box cells) (ou:=.box (cells.set j y)) (w':=V.w) hG hb rfl h1 h1 rfl (fun _ _=>rfl) rfl rfl rfl rfl trivial (fun V' hw hs=>⟨t,vs,by rw[hw];exact h1,hr.step hs⟩);exact⟨V2,l1,l2,l3,l4⟩
theorem bN.ZX{r:Option Nat}{n0:Nat}{c:Code}{s s':St}{ex:bF}{b j:Nat}{cells:List AV}{x y:AV}(hb:s.H[b]?=some (.box cells))(hj:cells[j]?=some x)(hxy:aF x y)(h:bN P G r n0 c { aL:=s.aL,H:=s.H.set b (.box (cells.set j y)),dh:=s.dh } ex s'):bN P G r n0 c s ex s':=fun V0 V a h0 k1 k2 k3=>by
 obtain⟨V2,a1,a2,a3,a4⟩:=Px k2 (k3.H▸hb) hj hxy;rw[<- a1];exact h V0 V2 a h0 (k1.trans a3) a4 ⟨k3.aL.step a3,by rw[a2,k3.H],k3.dh.step a3⟩
end
end Go.Am
namespace Go.Dc
open Go Go.Am Go.Proofs Go.eY Go.bH
open Go.bV (OP op)
open Go.Mg (dQ dZ aW)
def mdS(l:List OP)(i:Nat)(d:DO):St:={ aL:=aC 20 [(2,.ptr 0 0),(6,dQ l),(7,int l.length),(8,int i)],H:=[.box [bB d.sn,Md d.fs]] }
def mdZ(l:List OP):St:={ aL:=aC 20 [(2,.ptr 0 0),(6,dQ l),(7,int l.length),(8,int (0:Nat))],H:=[.box [aK,aK]] }
def mdX(d:DO):St:={ aL:=aC 20 [(2,.ptr 0 0)],H:=[.box [bB d.sn,Md d.fs]] }
theorem an4(l:List OP)(o:OP)(i:Nat)(hl:l.length<=1000000)(hi:(i:Int)<(l.length:Int))(hx:l[i]?=some o)(d y:DO)(e:Int)(hA:Cq 27 [kI d,op o] (.bq [kI y,int e]))(ex:bF)(s':St)(h:Rq 0 25 0 (sM 20 [(2,.ptr 0 0),(6,dQ l),(7,int ↑l.length),(8,int ↑(i+1))] [.box [bB y.sn,.sl 7 false (dA y.fs)]]) ex s'):Rq 0 25 0 (mdS l i d) ex s':=by
 exact aJ [ki ((i:Int)<l.length),ke (bV.jy o) (dZ l) i (bG hx),kc [] hA,kW 18 (i+1) ↑(i+1)] (aB 20 [2,6,7,8]) 1 h
theorem an5(l:List OP)(i:Nat)(hi:¬(i:Int)<(l.length:Int))(d:DO)(h:True):Rq 0 25 0 (mdS l i d) (bF.exit 0) (mdX d):=by
 have _:=h;exact aG [kj ((i:Int)<l.length)] (aB 20 [2]) 1
theorem an6(ls l:List OP)(d:DO)(hR:Cq 16 [dQ ls] (dQ l))(hL:Rq 0 25 0 (mdZ l) (.exit 0) (mdX d))(h:True):Cq 25 [dQ ls] (kI d):=by
 have _:=h;exact aj [kc [] hR,kN 7 (Go.Mg.aW l),kl (rG [(0,2),(3,3),(9,11)]) 1 hL]
end Go.Dc
namespace Go.Dc
open Go Go.Am Go.Proofs Go.eY Go.bH
def ta0(a:List TL)(k:Nat):St:={ aL:=aC 26 [(0,mF a),(1,mF a),(4,Am.bool false),(5,int k)],H:=[] }
theorem an7(a:List TL)(k:Nat)(x:TL)(hv:a.length<=1000000000)(hk:(k:Int)<(a.length:Int))(hx:a[k]?=some x)(ex:bF)(s':St)(h:((((x.1==x.1&&(Prod.fst x.2==Prod.fst x.2&&Prod.snd x.2==Prod.snd x.2))=true)->Rq 0 79 0 (sM 26 [(0,.sl 3 false (lH a)),(1,.sl 3 false (lH a)),(4,Am.bool false),(5,int ↑(k+1))] []) ex s')/\(((x.1==x.1&&(Prod.fst x.2==Prod.fst x.2&&Prod.snd x.2==Prod.snd x.2))=false)->(bF.ret=ex)/\(sM 26 [(4,Am.bool false)] []=s')))):Rq 0 79 0 (ta0 a k) ex s':=by
 have jw:(0:Int)<=(k:Int)/\(lH a)[Int.toNat (k:Int)]?=some (ze x):=(bG hx);let l1:List fP:=[kN 13 (dP a),ki ((k:Int)<a.length),ko (bC.elem (ze x)),ko (bC.elem (ze x)),kp jw,kp jw];rcases Bool.eq_false_or_eq_true ((x.1==x.1&&(Prod.fst x.2==Prod.fst x.2&&Prod.snd x.2==Prod.snd x.2)))with c2|c2
 .have h:=h.1 c2;exact aJ (l1++[kf (yJ Bool.not (c2)),kW 16 (k+1) ↑(k+1)]) (aB 26 [0,1,4,5]) 0 h
 .have h:=h.2 c2;obtain⟨eX,eS⟩:=h;exact bN.to ((aG (l1++[kt (show(!(x.1==x.1&&(Prod.fst x.2==Prod.fst x.2&&Prod.snd x.2==Prod.snd x.2)))=true from(yJ Bool.not (c2)))]) (aB 26 [4]) 0)) eX (eB.of_eq eS)
theorem an8(a:List TL)(k:Nat)(hk:¬(k:Int)<(a.length:Int))(h:True):Rq 0 79 0 (ta0 a k) (bF.exit 0) (sM 26 [(4,Am.bool false)] []):=by
 exact aG [kN 13 (dP a),kj ((k:Int)<a.length)] (aB 26 [4]) 0
theorem an9(a:List TL)(hL:Rq 0 79 0 (ta0 a 0) (.exit 0) { aL:=aC 26 [(4,Am.bool false)],H:=[] })(h:True):Cq 79 [mF a,mF a] (Am.bool true):=by
 have bS:=lU (dP a);exact aj [kv 7 bS,kv 9 bS,kf (show((a.length:Int)!=(a.length:Int))=false from(yJ Bool.not (qT zO))),kl (rG [(2,2),(6,20)]) 0 hL]
def sc0(a:List Sq.CE)(k:Nat):St:={ aL:=aC 26 [(0,Sq.bZ a),(1,Sq.bZ a),(4,Am.bool false),(5,int k)],H:=[] }
theorem aoa(a:List Sq.CE)(k:Nat)(x:Sq.CE)(hv:a.length<=1000000000)(hk:(k:Int)<(a.length:Int))(hx:a[k]?=some x)(ex:bF)(s':St)(h:((((x.dv==x.dv&&(x.sq==x.sq&&(x.gU==x.gU&&(x.ad==x.ad&&(x.j6==x.j6&&(x.aa==x.aa&&(x.tm==x.tm&&(x.vl==x.vl&&x.gn==x.gn))))))))=true)->Rq 0 105 0 (sM 26 [(0,.sl 9 false (Sq.au a)),(1,.sl 9 false (Sq.au a)),(4,Am.bool false),(5,int ↑(k+1))] []) ex s')/\(((x.dv==x.dv&&(x.sq==x.sq&&(x.gU==x.gU&&(x.ad==x.ad&&(x.j6==x.j6&&(x.aa==x.aa&&(x.tm==x.tm&&(x.vl==x.vl&&x.gn==x.gn))))))))=false)->(bF.ret=ex)/\(sM 26 [(4,Am.bool false)] []=s')))):Rq 0 105 0 (sc0 a k) ex s':=by
 have jw:(0:Int)<=(k:Int)/\(Sq.au a)[Int.toNat (k:Int)]?=some (Sq.aQ x):=(bG hx);let l1:List fP:=[kv 13 (show Am.aF (int (↑(length (Sq.au a)):Int)) (int ↑a.length)from(aF.of_eq (by simp only[Go.Sq.ay]))),ki ((k:Int)<a.length),ko (bC.elem (Sq.aQ x)),ko (bC.elem (Sq.aQ x)),kp jw,kp jw];rcases Bool.eq_false_or_eq_true ((x.dv==x.dv&&(x.sq==x.sq&&(x.gU==x.gU&&(x.ad==x.ad&&(x.j6==x.j6&&(x.aa==x.aa&&(x.tm==x.tm&&(x.vl==x.vl&&x.gn==x.gn)))))))))with c2|c2
 .have h:=h.1 c2;exact aJ (l1++[kf (yJ Bool.not (c2)),kW 16 (k+1) ↑(k+1)]) (aB 26 [0,1,4,5]) 0 h
 .have h:=h.2 c2;obtain⟨eX,eS⟩:=h;exact bN.to ((aG (l1++[kt (show(!(x.dv==x.dv&&(x.sq==x.sq&&(x.gU==x.gU&&(x.ad==x.ad&&(x.j6==x.j6&&(x.aa==x.aa&&(x.tm==x.tm&&(x.vl==x.vl&&x.gn==x.gn)))))))))=true from(yJ Bool.not (c2)))]) (aB 26 [4]) 0)) eX (eB.of_eq eS)
theorem aob(a:List Sq.CE)(k:Nat)(hk:¬(k:Int)<(a.length:Int))(h:True):Rq 0 105 0 (sc0 a k) (bF.exit 0) (sM 26 [(4,Am.bool false)] []):=by
 exact aG [kv 13 (show Am.aF (int (↑(length (Sq.au a)):Int)) (int ↑a.length)from(aF.of_eq (by simp only[Go.Sq.ay]))),kj ((k:Int)<a.length)] (aB 26 [4]) 0
theorem aoc(a:List Sq.CE)(hL:Rq 0 105 0 (sc0 a 0) (.exit 0) { aL:=aC 26 [(4,Am.bool false)],H:=[] })(h:True):Cq 105 [Sq.bZ a,Sq.bZ a] (Am.bool true):=by
 have bS:Am.aF (int (↑(length (Sq.au a)):Int)) (int ↑a.length):=(aF.of_eq (by simp only[Go.Sq.ay]));exact aj [kv 7 bS,kv 9 bS,kf (show((a.length:Int)!=(a.length:Int))=false from(yJ Bool.not (qT zO))),kl (rG [(2,2),(6,20)]) 0 hL]
abbrev sxB(t:Tx.TE):List ah:=[.box [Sq.bZ t.cells,Tx.oI t.bQ],.box [Sq.bZ t.cells,Tx.oI t.bQ]]
def sx0(t:Tx.TE)(k:Nat):St:={ aL:=aC 39 [(2,.ptr 0 0),(3,.ptr 1 0),(4,Am.bool false),(5,int k)],H:=sxB t }
theorem aod(t:Tx.TE)(k:Nat)(x:Tx.MK)(hv:t.bQ.length<=1000000000)(hk:(k:Int)<(t.bQ.length:Int))(hx:t.bQ[k]?=some x)(ex:bF)(s':St)(h:((((x.dv==x.dv&&(x.sq==x.sq&&(x.tm==x.tm&&(x.fd==x.fd&&(x.fs==x.fs&&(x.fa==x.fa&&(x.td==x.td&&(x.ts==x.ts&&(x.ta==x.ta&&(x.st==x.st&&x.on==x.on))))))))))=true)->Rq 0 80 0 (sM 39 [(2,.ptr 0 0),(3,.ptr 1 0),(4,Am.bool false),(5,int ↑(k+1))] [.box [.sl 9 false (Sq.au t.cells),.sl 11 false (Tx.au t.bQ)],.box [.sl 9 false (Sq.au t.cells),.sl 11 false (Tx.au t.bQ)]]) ex s')/\(((x.dv==x.dv&&(x.sq==x.sq&&(x.tm==x.tm&&(x.fd==x.fd&&(x.fs==x.fs&&(x.fa==x.fa&&(x.td==x.td&&(x.ts==x.ts&&(x.ta==x.ta&&(x.st==x.st&&x.on==x.on))))))))))=false)->(bF.ret=ex)/\(sM 39 [(4,Am.bool false)] [.box [.sl 9 false (Sq.au t.cells),.sl 11 false (Tx.au t.bQ)],.box [.sl 9 false (Sq.au t.cells),.sl 11 false (Tx.au t.bQ)]]=s')))):Rq 0 80 0 (sx0 t k) ex s':=by
 have jw:(0:Int)<=(k:Int)/\(Tx.au t.bQ)[Int.toNat (k:Int)]?=some (Tx.aQ x):=(bG hx);let l1:List fP:=[kv 24 (show Am.aF (int (↑(length (Tx.au t.bQ)):Int)) (int ↑(length t.bQ))from(aF.of_eq (by simp only[Go.Tx.ay]))),ki ((k:Int)<(↑(length t.bQ):Int)),ko (bC.elem (Tx.aQ x)),ko (bC.elem (Tx.aQ x)),kp jw,kp jw];rcases Bool.eq_false_or_eq_true ((x.dv==x.dv&&(x.sq==x.sq&&(x.tm==x.tm&&(x.fd==x.fd&&(x.fs==x.fs&&(x.fa==x.fa&&(x.td==x.td&&(x.ts==x.ts&&(x.ta==x.ta&&(x.st==x.st&&x.on==x.on)))))))))))with c2|c2
 .have h:=h.1 c2;exact aJ (l1++[kf (yJ Bool.not (c2)),kW 27 (k+1) ↑(k+1)]) (aB 39 [2,3,4,5]) 2 h
 .have h:=h.2 c2;obtain⟨eX,eS⟩:=h;exact bN.to ((aG (l1++[kt (show(!(x.dv==x.dv&&(x.sq==x.sq&&(x.tm==x.tm&&(x.fd==x.fd&&(x.fs==x.fs&&(x.fa==x.fa&&(x.td==x.td&&(x.ts==x.ts&&(x.ta==x.ta&&(x.st==x.st&&x.on==x.on)))))))))))=true from(yJ Bool.not (c2)))]) (aB 39 [4]) 2)) eX (eB.of_eq eS)
theorem aoe(t:Tx.TE)(k:Nat)(hk:¬(k:Int)<(t.bQ.length:Int))(h:True):Rq 0 80 0 (sx0 t k) (bF.exit 0) (St.mk (aC 39 [(4,Am.bool false)]) (sxB t) []):=by
 exact aG [kv 24 (show Am.aF (int (↑(length (Tx.au t.bQ)):Int)) (int ↑(length t.bQ))from(aF.of_eq (by simp only[Go.Tx.ay]))),kj ((k:Int)<(↑(length t.bQ):Int))] (aB 39 [4]) 2
theorem aof(t:Tx.TE)(hS:Cq 105 [Sq.bZ t.cells,Sq.bZ t.cells] (Am.bool true))(hL:Rq 0 80 0 (sx0 t 0) (.exit 0) { aL:=aC 39 [(4,Am.bool false)],H:=sxB t })(h:True):Cq 80 [Tx.mG t,Tx.mG t] (Am.bool true):=by
 have fT:Am.aF (int (↑(length (Tx.au t.bQ)):Int)) (int ↑(length t.bQ)):=(aF.of_eq (by simp only[Go.Tx.ay]));exact aj [kc [] hS,kY,kv 15 fT,kv 18 fT,kf (show((↑(length t.bQ):Int)!=(↑(length t.bQ):Int))=false from(yJ Bool.not (qT zO))),kl (rG [(0,2),(6,33)]) 2 hL]
theorem aog(f:FD)(h3:Cq 77 [Sq.bZ f.ce,Sq.bZ f.ce] (Am.bool true))(h4:Cq 78 [Bd.iK f.bi,Bd.iK f.bi] (Am.bool true))(h5:Cq 79 [mF f.ta,mF f.ta] (Am.bool true))(h6:Cq 80 [Tx.mG (Gb f),Tx.mG (Gb f)] (Am.bool true))(o:Bool)(h:((((f.pk==f.pk&&f.pn==f.pn)=true)->(true)=(o))/\(((f.pk==f.pk&&f.pn==f.pn)=false)->(false)=(o)))):Cq 49 [.agg (jB f),.agg (jB f)] (Am.bool o):=by
 rcases Bool.eq_false_or_eq_true ((f.pk==f.pk&&f.pn==f.pn))with c1|c1
 .have h:=h.1 c1;exact aA (aF.aI h) [kt c1,kc [] h3,kO,kc [] h4,kO,kc [] h5,kO,kc [] h6]
 .have h:=h.2 c1;exact aA (aF.aI h) [kf c1,kY,kY,kY]
abbrev sdB(d:DO):List ah:=[.box [bB d.sn,Md d.fs],.box [bB d.sn,Md d.fs]]
def sd0(d:DO)(k:Nat):St:={ aL:=aC 40 [(2,.ptr 0 0),(3,.ptr 1 0),(4,Am.bool false),(5,int k)],H:=sdB d }
theorem aoh(d:DO)(k:Nat)(x:FD)(hv:d.fs.length<=1000000000)(hk:(k:Int)<(d.fs.length:Int))(hx:d.fs[k]?=some x)(hS:Cq 49 [.agg (jB x),.agg (jB x)] (Am.bool true))(ex:bF)(s':St)(h:Rq 0 26 0 (sM 40 [(2,.ptr 0 0),(3,.ptr 1 0),(4,Am.bool false),(5,int ↑(k+1))] [.box [bB d.sn,.sl 7 false (dA d.fs)],.box [bB d.sn,.sl 7 false (dA d.fs)]]) ex s'):Rq 0 26 0 (sd0 d k) ex s':=by
 have jw:(0:Int)<=(k:Int)/\(dA d.fs)[Int.toNat (k:Int)]?=some (jB x):=(bG hx);exact aJ [kN 24 (fE d.fs),ki ((k:Int)<(↑(length d.fs):Int)),ko (bC.elem (jB x)),ko (bC.elem (jB x)),kp jw,kp jw,kc [] hS,kY,kW 27 (k+1) ↑(k+1)] (aB 40 [2,3,4,5]) 2 h
theorem aoi(d:DO)(k:Nat)(hk:¬(k:Int)<(d.fs.length:Int))(h:True):Rq 0 26 0 (sd0 d k) (bF.exit 0) (St.mk (aC 40 [(4,Am.bool false)]) (sdB d) []):=by
 exact aG [kN 24 (fE d.fs),kj ((k:Int)<(↑(length d.fs):Int))] (aB 40 [4]) 2
theorem aoj(d:DO)(hS:Cq 18 [bB d.sn,bB d.sn] (Am.bool true))(hL:Rq 0 26 0 (sd0 d 0) (.exit 0) { aL:=aC 40 [(4,Am.bool false)],H:=sdB d })(h:True):Cq 26 [kI d,kI d] (Am.bool true):=by
 have fT:=lU (fE d.fs);exact aj [kc [] hS,kY,kv 15 fT,kv 18 fT,kf (show((↑(length d.fs):Int)!=(↑(length d.fs):Int))=false from(yJ Bool.not (qT zO))),kl (rG [(0,2),(6,34)]) 2 hL]
open Go.bV (OP op)
open Go.Mg (dQ)
structure OkO(o:OP):Prop where
 n:bV.Okn o
 p:bV.Fw o
 c:o.cx.length<=1000000
theorem VQ{l:List OP}{k:Nat}(h:k<l.length):Gf (l.take (k+1))=Bn (Gf (l.take k)) l[k]:=by grind[Gf,take_append_getElem]
theorem acT{l:List OP}(hl:l.length<=10000)(hk:∀o∈l,OkO o):∀n k,l.length-k=n->k<=l.length->Rq 0 25 0 (mdS l k (Gf (l.take k))) (.exit 0) (mdX (Gf l)):=by
 intro n
 induction n with
 |zero =>
  intro k h1 h2;rw[take_of_length_le zO];exact an5 l k zO _ trivial
 |succ n ih =>
  intro k h1 h2;have bg:k<l.length:=zO
  have hm:=hk _ (getElem_mem bg);have nx:=ih (k+1) zO zO;rw[VQ bg]at nx;have hs:=Ug (l.take k) fun o ho=>(hk o (mem_of_mem_take ho)).p;exact an4 l l[k] k zO zO (yA bg) _ _ _ (agI hs (by rw[length_take];omega) hm.n hm.p hm.c) _ _ nx
theorem akY{ls l:List OP}(hl:l.length<=10000)(hk:∀o∈l,OkO o)(hR:Cq 16 [dQ ls] (dQ l)):Cq 25 [dQ ls] (kI (Gf l)):=by
 have h:=acT hl hk _ 0 rfl yN;refine an6 ls l _ hR ?_ trivial;refine bN.ZX (b:=0) (j:=0) (cells:=[aK,aK]) rfl rfl (aF.nil 2) ?_;exact bN.ZX (b:=0) (j:=1) (cells:=[bB [],aK]) rfl rfl (aF.nil 7) h
theorem acU(a:List TL)(hv:a.length<=1000000000):∀n k,a.length-k=n->k<=a.length->Rq 0 79 0 (ta0 a k) (.exit 0) { aL:=aC 26 [(4,Am.bool false)],H:=[] }:=by
 intro n
 induction n with
 |zero=>exact fun k h1 h2=>an8 a k zO trivial
 |succ n ih =>
  intro k h1 h2;exact an7 a k a[k] hv zO (yA zO) _ _ ⟨fun _=>ih (k+1) zO zO,fun h=>by simp[Sq.tN]at h⟩
theorem acV(a:List Sq.CE)(hv:a.length<=1000000000):∀n k,a.length-k=n->k<=a.length->Rq 0 105 0 (sc0 a k) (.exit 0) { aL:=aC 26 [(4,Am.bool false)],H:=[] }:=by
 intro n
 induction n with
 |zero=>exact fun k h1 h2=>aob a k zO trivial
 |succ n ih =>
  intro k h1 h2;exact aoa a k a[k] hv zO (yA zO) _ _ ⟨fun _=>ih (k+1) zO zO,fun h=>by simp[Sq.tN]at h⟩
theorem acW(t:Tx.TE)(hv:t.bQ.length<=1000000000):∀n k,t.bQ.length-k=n->k<=t.bQ.length->Rq 0 80 0 (sx0 t k) (.exit 0) { aL:=aC 39 [(4,Am.bool false)],H:=sxB t }:=by
 intro n
 induction n with
 |zero=>exact fun k h1 h2=>aoe t k zO trivial
 |succ n ih =>
  intro k h1 h2;exact aod t k t.bQ[k] hv zO (yA zO) _ _ ⟨fun _=>ih (k+1) zO zO,fun h=>by simp[Sq.tN]at h⟩
theorem aok(f:FD)(h:XW f):Cq 49 [.agg (jB f),.agg (jB f)] (Am.bool true):=by
 obtain⟨h1,h2,h3,h4,h5⟩:=h;have a:=Sq.up (Sq.Vi f.ce zO);have b:=Bd.C9 f.bi f.bi zO zO;rw[decide_eq_true rfl]at b;have c:=an9 f.ta (acU f.ta zO _ 0 rfl yN) trivial;have d:=aoc f.tc (acV f.tc zO _ 0 rfl yN) trivial;have e:=aof (Gb f) d (acW (Gb f) (by show f.tm.length<=_;omega) _ 0 rfl yN) trivial;exact aog f a b c e true ⟨fun _=>rfl,fun h=>by simp[Sq.tN]at h⟩
theorem ZY(d:DO)(h:Dim d):Cq 26 [kI d,kI d] (Am.bool true):=by
 have hl:=h.fs;have hn:=h.sn;have lp:∀n k,d.fs.length-k=n->k<=d.fs.length->Rq 0 26 0 (sd0 d k) (.exit 0) { aL:=aC 40 [(4,Am.bool false)],H:=sdB d }:=by
  intro n
  induction n with
  |zero=>exact fun k h1 h2=>aoi d k zO trivial
  |succ n ih =>
   intro k h1 h2;have bg:k<d.fs.length:=zO
   exact aoh d k d.fs[k] zO zO (yA bg) (aok _ (h.len _ (getElem_mem bg))) _ _ (ih (k+1) zO zO)
 have hs:=bH.zG d.sn d.sn zO;rw[decide_eq_true rfl]at hs;exact aoj d hs (lp _ 0 rfl yN) trivial
end Go.Dc
namespace Go.Dc
open Go Go.Am Go.Proofs Go.eY Go.bH
open Go.bV (OP op)
open Go.Mg (dQ dZ aW)
def maS(ls l:List OP)(i:Nat)(d:DO):St:={ aL:=aC 76 [(0,dQ ls),(2,Am.bool false),(3,dQ l),(4,.ptr 0 0),(5,int i)],H:=[.box [bB d.sn,Md d.fs]] }
def maZ(ls l:List OP):St:={ aL:=aC 76 [(0,dQ ls),(2,Am.bool false),(3,dQ l),(4,.ptr 0 0),(5,int (0:Nat))],H:=[.box [aK,aK]] }
def maX(ls l:List OP)(d:DO):St:={ aL:=aC 76 [(0,dQ ls),(2,Am.bool false),(3,dQ l),(4,.ptr 0 0)],H:=[.box [bB d.sn,Md d.fs]] }
def mbS(l:List OP)(i:Nat)(n:Int)(d:DO):St:={ aL:=aC 76 [(2,Am.bool false),(3,dQ l),(4,.ptr 0 0),(8,int n),(9,int i)],H:=[.box [bB d.sn,Md d.fs]] }
def mbX(l:List OP)(n:Int)(d:DO):St:={ aL:=aC 76 [(2,Am.bool false),(3,dQ l),(4,.ptr 0 0),(8,int n)],H:=[.box [bB d.sn,Md d.fs]] }
def mcS(l:List OP)(i:Nat)(n:Int)(d:DO):St:={ aL:=aC 76 [(2,Am.bool false),(3,dQ l),(4,.ptr 0 0),(8,int n),(10,int i)],H:=[.box [bB d.sn,Md d.fs]] }
def mcX(l:List OP)(n:Int)(d:DO):St:={ aL:=aC 76 [(2,Am.bool false),(3,dQ l),(8,int n)],H:=[.box [bB d.sn,Md d.fs]] }
theorem asU(ls l:List OP)(o:OP)(i:Nat)(hl:l.length<=1000000)(hi:(i:Int)<(l.length:Int))(hx:l[i]?=some o)(d y:DO)(hA:Cq 27 [kI d,op o] (.bq [kI y,int 0]))(ex:bF)(s':St)(h:Rq 0 8 0 (sM 76 [(0,dQ ls),(2,Am.bool false),(3,dQ l),(4,.ptr 0 0),(5,int ↑(i+1))] [.box [bB y.sn,.sl 7 false (dA y.fs)]]) ex s'):Rq 0 8 0 (maS ls l i d) ex s':=by
 exact aJ [kN 21 (Go.Mg.aW l),ki ((i:Int)<l.length),ke (bV.jy o) (dZ l) i (bG hx),kc [] hA,kY,kW 24 (i+1) ↑(i+1)] (aB 76 [0,2,3,4,5]) 1 h
theorem asV(ls l:List OP)(i:Nat)(hi:¬(i:Int)<(l.length:Int))(d:DO)(h:True):Rq 0 8 0 (maS ls l i d) (bF.exit 0) (maX ls l d):=by
 have _:=h;exact aG [kN 21 (Go.Mg.aW l),kj ((i:Int)<l.length)] (aB 76 [0,2,3,4]) 1
theorem asW(l:List OP)(n a b:Int)(i:Nat)(d:DO)(hl:d.sn.length<=1000000)(hi:(i:Int)<(d.sn.length:Int))(hx:d.sn[i]?=some (a,b))(n0:0<=n)(n1:n<=1000000000)(b0:0<=b)(b1:b<=1048576)(ex:bF)(s':St)(h:Rq 0 8 1 (sM 76 [(2,Am.bool false),(3,dQ l),(4,.ptr 0 0),(8,int (n+b)),(9,int ↑(i+1))] [.box [bB d.sn,.sl 7 false (dA d.fs)]]) ex s'):Rq 0 8 1 (mbS l i n d) ex s':=by
 exact aJ [kN 45 (Go.bH.ay d.sn),ki ((i:Int)<(↑(length d.sn):Int)),ke (aQ (a,b)) (au d.sn) i (bG hx),kW 56 (n+b) (n+b),kW 48 (i+1) ↑(i+1)] (aB 76 [2,3,4,8,9]) 1 h
theorem asX(l:List OP)(n:Int)(i:Nat)(d:DO)(hl:d.sn.length<=1000000)(hi:¬(i:Int)<(d.sn.length:Int))(h:True):Rq 0 8 1 (mbS l i n d) (bF.exit 2) (mbX l n d):=by
 have _:=h;exact aG [kN 45 (Go.bH.ay d.sn),kj ((i:Int)<(↑(length d.sn):Int))] (aB 76 [2,3,4,8]) 1
theorem asY(l:List OP)(o:OP)(n:Int)(i:Nat)(d:DO)(hl:l.length<=1000000)(hi:(i:Int)<(l.length:Int))(hx:l[i]?=some o)(hC:Cq 28 [bB d.sn,eG (o.dv,o.sq)] (Am.bool true))(ex:bF)(s':St)(h:Rq 0 8 2 (sM 76 [(2,Am.bool false),(3,dQ l),(4,.ptr 0 0),(8,int n),(10,int ↑(i+1))] [.box [bB d.sn,.sl 7 false (dA d.fs)]]) ex s'):Rq 0 8 2 (mcS l i n d) ex s':=by
 exact aJ [kN 59 (Go.Mg.aW l),ki ((i:Int)<l.length),ke (bV.jy o) (dZ l) i (bG hx),kc [] hC,kY,kW 62 (i+1) ↑(i+1)] (aB 76 [2,3,4,8,10]) 1 h
theorem asZ(l:List OP)(n:Int)(i:Nat)(d:DO)(hi:¬(i:Int)<(l.length:Int))(h:True):Rq 0 8 2 (mcS l i n d) (bF.exit 4) (mcX l n d):=by
 have _:=h;exact aG [kN 59 (Go.Mg.aW l),kj ((i:Int)<l.length)] (aB 76 [2,3,8]) 1
theorem as0(ls:List OP)(hS:Cq 11 [] (Am.bool true))(h1:Cq 12 [dQ ls,int 14] (Am.bool false))(h:True):Cq 8 [dQ ls] (Am.bool true):=by
 have _:=h;exact aj [kc [] hS,kY,kc [] h1,kO]
theorem as1(ls l:List OP)(d:DO)(n:Int)(hn:n=(l.length:Int))(hl:l.length<=1000000)(hS:Cq 11 [] (Am.bool true))(h1:Cq 12 [dQ ls,int 14] (Am.bool true))(hR:Cq 16 [dQ ls] (dQ l))(hL:Rq 0 8 0 (maZ ls l) (.exit 0) (maX ls l d))(hD:Cq 25 [dQ ls] (kI d))(hq:Cq 26 [kI d,kI d] (Am.bool true))(hL2:Rq 0 8 1 (mbS l 0 0 d) (.exit 2) (mbX l n d))(hL3:Rq 0 8 2 (mcS l 0 n d) (.exit 4) (mcX l n d))(h:(n==(l.length:Int))=(true)):Cq 8 [dQ ls] (Am.bool true):=by
 exact aA (aF.aI h) [kc [] hS,kY,kc [] h1,kY,kc [] hR,kl (rG [(1,1),(6,70)]) 1 hL,kc [] hD,kc [] hq,kY,kl (rG [(0,1),(37,5)]) 1 hL2,kl [] 1 hL3,kN 74 (Go.Mg.aW l)]
end Go.Dc
namespace Go.Mg
open Go Go.Am Go.Proofs Go.eY Go.bH Go.yU Go.bV
theorem agJ(dd:Dc.DO)(c1:Cq 33 [int 5,int 1,int 1,int 3,aK] (op aO))(c2:Cq 33 [int 5,int 2,int 2,int 4,aK] (op bO))(u:Cq 14 [tS [bO,aO],tS [aO]] (dQ [aO,bO]))(r:Cq 16 [tS [bO,aO]] (dQ [aO,bO]))(m:Cq 19 [tS [bO]] (bB [(5,1)]))(p:Cq 22 [tS [aO,bO],aK] (.bq [dQ [],dQ [aO,bO],int 0]))(q:Cq 22 [aK,.sl 2 true [[int 1,int 0]]] (.bq [dQ [],dQ [],int 120]))(s1:Cq 13 [dQ [aO,bO],tS [aO,bO]] (Am.bool true))(z1:Cq 14 [aK,aK] (dQ []))(z2:Cq 16 [tS [bO]] (dQ []))(d:Cq 25 [tS [bO,aO]] (Dc.kI dd))(s2:Cq 18 [bB [(5,1)],.sl 2 true [[int 5,int 1]]] (Am.bool true))(s3:Cq 13 [dQ [aO,bO],dQ [aO,bO]] (Am.bool true))(e0:Cq 25 [aK] (Dc.kI ⟨[],[]⟩))(s4:Cq 26 [Dc.kI ⟨[],[]⟩,.agg [aK,aK]] (Am.bool true))(t:Cq 32 [bB dd.sn,int 5] (int 2))(h:True):Cq 11 [] (Am.bool true):=by
 have _:=h;exact aj [kc [] c1,kc [] c2,kc [] u,kc [] r,kc [] m,kc [] p,kc [] q,kY,kY,kc [] s1,kY,kc [] s1,kY,kc [] z1,kY,kc [] z2,kY,kc [] d,kc [] s2,kO,kO,kc [] s3,kO,kc [] e0,kc [] s4,kO,kc [] t]
theorem VW:Cq 19 [dQ [bO]] (bB [(5,1)]):=by
 have hg:rZ [bO]:=Xm zS;have hk:=Au [[bO]] zS (fun x hx=>by rw[mem_singleton.1 hx];exact⟨zS,hg⟩) wG;have hk':Cq 36 [.sl 1 true (Nj [[bO]])] (.md true ((known [] [bO]).map en)):=(ak.VX (GU _) hk rfl).BM (H3:=[]) (qs:=[]) rfl trivial;have hgv:Uk (known [] [bO]):=DL (fun _ h=>(by cases h)) hg;have hR:=agK (known [] [bO]) hgv ((known [] [bO]).map en);rw[show known [] [bO]=[bO] by kernel_rfl]at hk' hgv hR;rw[show cN [bO]=[(5,1)] by kernel_rfl]at hR;have hC:∀x∈[((5:Int),(1:Int))],fO x.1:=fun x hx=>by rw[mem_singleton.1 hx];unfold fO;decide
 have hS:=VY [(5,1)] [5] hC zS (.refl _) zS;obtain⟨f,hG⟩:=I7 (a:=5) hC (by unfold fO;decide);have hI:=agL ([bO].map en) (jE [(5,1)]) [5] 0 5 1 zS zO zO (Z4 (fun x hx=>(hgv x hx).1.iV) (by unfold fO;decide) (by unfold fO;omega) zQ _) trivial;have he:=agM ([bO].map en) (jE [(5,1)]) [5] 1 0 [(5,1)] zS zS zS _ _ ⟨rfl,rfl⟩;have h2:=agN ([bO].map en) (jE [(5,1)]) [5] 0 5 1 1 zS zS rfl f hG hI zO _ _ (he.acz (show HSub [.aH,.box [.md true (jE [(5,1)])],.aH,.box [int 5,int 1],.aN 0 2 false (au [(5,1)])] (mB1 (jE [(5,1)]) 0 [(5,1)])from⟨.inl rfl,.inl rfl,.inl rfl,.inr yO,.inl rfl,yO⟩));have h9:=akZ [bO] _ _ _ hk' hR (aos (jE [(5,1)]) yO) hS 0 [(5,1)] h2 _ _ ⟨rfl,rfl⟩;exact(h9.Mq (z:=au [(5,1)]) (y:=.sl 2 false (au [(5,1)])) (H1:=[.aH,.box [.md true (jE [(5,1)])],.aH,.aH,.aN 0 2 true (au [(5,1)])]) (ps:=[0=0,List.take 1 (List.drop 0 (au [(5,1)]))=au [(5,1)],(au [(5,1)]).length=1,∀c∈au [(5,1)],c.all AV.fJ=true]) rfl ⟨rfl,rfl,rfl,bK _,yO⟩).BM (H3:=[]) (qs:=[]) rfl trivial
theorem agO{o:OP}(h:Gd o):Dc.OkO o:=⟨h.Z5,h.1,by have:=h.2.cx;omega⟩
theorem KT{l:List OP}(hl:l.length<=10000)(hg:rZ l):Cq 25 [dQ l] (Dc.kI (Dc.Gf (GR (kK l)))):=by
 have h1:=GV l;have h2:(GR (kK l)).length<=(kK l).length:=uX;exact Dc.akY zO (fun o ho=>agO (EM hg o ((R3 hg).sub o ho))) (qH (GX l zO hg))
theorem agP:Cq 22 [dQ [aO,bO],bB []] (.bq [dQ [],dQ [aO,bO],int 0]):=by
 have hU:=qH (GY [aO,bO] [] zS zS (Xm zS) (Xm zS));rw[show[aO,bO]++[]=[aO,bO]from rfl,show kK [aO,bO]=[aO,bO] by kernel_rfl]at hU;have ca:=bH.jX [] aO.dv aO.sq zS;rw[show cZ [] (aO.dv,aO.sq)=false by kernel_rfl]at ca;have cb:=bH.jX [] bO.dv bO.sq zS;rw[show cZ [] (bO.dv,bO.sq)=false by kernel_rfl]at cb;have h2:=ak0 [] [aO,bO] zS zS 2 1 [aO,bO] zS zS trivial;have h1:=ak1 [] [aO,bO] zS zS 1 0 [aO] zS bO zS rfl cb _ _ h2;have h0:=ak2 [] [aO,bO] zS zS 0 aO zS rfl ca _ _ (h1.acz (show HSub [ah.box (jy aO),ah.aN 0 17 false (dZ [aO])] [ah.aH,ah.aN 0 17 false (dZ [aO])]from⟨.inr yO,.inl rfl,yO⟩));have h9:=ak3 [aO,bO] [] _ 1 [aO,bO] zS (bH.fG [] zS) (ak.qp hU ⟨aF.refl _,aF.nil 17,yO⟩) h0 _ _ ⟨rfl,rfl⟩;exact((h9.Yt (z:=dZ [aO,bO]) (ys:=[aK,dQ [aO,bO],int 0]) (H1:=[.aH,.aN 1 17 true (dZ [aO,bO])]) (ps:=[1=1,List.take 2 (List.drop 0 (dZ [aO,bO]))=dZ [aO,bO],(dZ [aO,bO]).length=2,∀c∈dZ [aO,bO],c.all AV.fJ=true]) rfl ⟨rfl,rfl,rfl,jd _,yO⟩).BM (H3:=[]) (qs:=[]) rfl yO).out (ak4 acZ (aF.refl _))
theorem aot:(Dc.Gf [aO,bO]).sn=[(5,2)]:=zQ
theorem I8:Cq 11 [] (Am.bool true):=by
 have u:=GY [bO,aO] [aO] zS zS (Xm zS) (Xm zS);rw[show[bO,aO]++[aO]=[bO,aO,aO]from rfl,aou]at u;have m:=VW;have p:=agP;have q:=(ak5 [] [(1,0)] _ (by rw[ak6];decide) (bH.fG [(1,0)] zS) yO).out (ak4 acZ acZ);rw[ak6]at q;have s:=zG [aO,bO] [aO,bO] zS (cxl zS);have z1:=GY [] [] zS zS (Xm zS) (Xm zS);have z2:=GX [bO] zS (Xm zS);rw[aov,aow]at z2;have s2:=bH.zG [(5,1)] [(5,1)] zS;have s2':Cq 18 [bB [(5,1)],bB [(5,1)]] (Am.bool true):=by simpa using s2
 have d:=KT (l:=[bO,aO]) zS (Xm zS);rw[ak7,ak8]at d;have e:=KT (l:=[]) zS (Xm zS);rw[show Dc.Gf (GR (kK []))=⟨[],[]⟩ by kernel_rfl]at e;have z:=Dc.ZY ⟨[],[]⟩ ((Dc.aeB 0).dim zO).1;have t:=bH.acj (Dc.Gf [aO,bO]).sn 5 (by rw[aot];simp);rw[show gI 5 (Dc.Gf [aO,bO]).sn=2 by kernel_rfl]at t;exact agJ _ (Ul 5 1 1 3) (Ul 5 2 2 4) (qH (I9 u (Pz _) (Pz _))) (PD aox (Pz _)) (PD m (Pz _)) (I9 p (Pz _) (aF.nil 2)) (I9 q (aF.nil 17) (aF.oP 2 true _)) (I9 (by simpa using s) (aF.refl _) (Pz _)) (qH (I9 z1 (aF.nil 17) (aF.nil 17))) (qH (PD z2 (Pz _))) (PD d (Pz _)) (I9 s2' (aF.refl _) (show aF (.sl 2 true [[int 5,int 1]]) (bB [(5,1)])from aF.oP 2 true _)) (by simpa using s) (PD e (aF.nil 17)) (I9 z (aF.refl _) (aF.qo ⟨aF.nil 2,aF.nil 7,yO⟩)) t trivial
end Go.Mg
namespace Go.Tx
open Go Go.Am Go.Proofs Go.eY
open Go.Sq (CE nP bZ oO vM fX U2 kQ Cu jg)
structure ED where
 kd:Int
 tm:Int
 n:Int
 dv:Int
 sq:Int
 a:Int
 b:Int
 c:Int
 s:yP
 m:MK
def edR(t:TE)(e:ED):TE×Int:=if e.kd=0 then Ve t e.dv e.sq e.tm (e.a,e.b,e.c) e.s else if e.kd=1 then Vg t (e.a,e.b,e.c) e.n else Vk t e.m
end Go.Tx
namespace Go.Tx
open Go Go.Am Go.Proofs Go.eY
open Go.Sq (CE nP bZ oO vM fX U2 kQ Cu jg A8 rU sO Ok Ids CQ arE kP More ers mY)
def tyL(dv sq tm:Int)(s:yP):Nat->Nat->Sq.ID->List CE
 |0,_,_=>[]
 |n+1,k,i=>U9 dv sq tm k i s::tyL dv sq tm s n (k+1) (dv,sq,(k:Int))
theorem arP{dv sq tm:Int}{s:yP}:∀{n k:Nat}{i:Sq.ID},∀x∈tyL dv sq tm s n k i,x.dv=dv/\x.sq=sq/\x.tm=tm/\x.gn=false
 |0,_,_,x,hx=>by cases hx
 |n+1,k,i,x,hx=>by
  rcases yH.1 hx with rfl|hx
  .exact ⟨rfl,rfl,rfl,rfl⟩
  .exact arP x hx
theorem arl{l:List CE}{c:CE}(hg:c.gn=false):A8 l c=0↔jg l=0/\sO (l++[c])=true:=by
 rcases Sq.Vj l c with⟨h1,h2,h3,_⟩|⟨h1,_⟩
 .exact ⟨fun _=>⟨h2,h3⟩,fun _=>h1⟩
 .refine ⟨fun h=>absurd h h1,fun⟨h2,h3⟩=>?_⟩;unfold Sq.A8 Sq.F5;simp[h2,hg,h3]
theorem arQ{l:List CE}{c:CE}(h:A8 l c=0):rU l c=arE (l++[c]):=by
 rcases Sq.Vj l c with⟨_,_,_,h4⟩|⟨h1,_⟩
 .exact h4
 .exact absurd h h1
theorem arI{l m:List CE}(h:∀x∈l,x∈m):∀{n:Nat}{c:CE},CQ l n c->CQ m n c
 |0,_,k=>k
 |n+1,_,⟨p,hp,e,k⟩=>⟨p,h p hp,e,arI h k⟩
theorem ar7{l l':List CE}{c:CE}(h:More l c)(h':sO l'=true)(hs:∀x∈l,x∈l')(hc:∀y∈l',y∉l->kP c y=false):sO (l'++[c])=true:=by
 obtain⟨o1,o2⟩:=Sq.Ak.1 h';have hm:=h.okm;have cl:∀y∈l',kP c y=false:=fun y hy=>by
  by_cases QV:y∈l
  .exact (pairwise_append.1 hm.nS).2.2 y QV c zS
  .exact hc y hy QV
 refine Sq.Ak.2 ⟨⟨fun x hx=>?_,?_⟩,fun x hx=>?_⟩
 .rcases yI.1 hx with hx|hx
  .exact o1.valid x hx
  .exact hm.valid x (mem_append_right _ hx)
 .refine pairwise_append.2 ⟨o1.nS,pairwise_singleton _ _,fun a ha b hb=>?_⟩;rw[mem_singleton.1 hb];exact cl a ha
 .rcases yI.1 hx with hx|hx
  .obtain ⟨n,hn⟩:=o2 x hx;exact⟨n,arI (fun y hy=>mem_append_left _ hy) hn⟩
  .rw [mem_singleton.1 hx];rcases h.parent with e|⟨p,hp,e⟩
   .exact ⟨0,e⟩
   .obtain ⟨n,hn⟩:=o2 p (hs p hp);exact⟨n+1,p,mem_append_left _ (hs p hp),e,arI (fun y hy=>mem_append_left _ hy) hn⟩
theorem asH{dv sq tm:Int}{s:yP}:∀{n k:Nat}{i:Sq.ID}{l l':List CE},jg l=0->(TI dv sq tm s n k i l).2=0->jg l'=0->(∀x∈l,x∈l')->(∀c∈tyL dv sq tm s n k i,∀y∈l',y∉l->kP c y=false) ->
 TI dv sq tm s n k i l'=(arE (l'++tyL dv sq tm s n k i),0)/\sO (l'++tyL dv sq tm s n k i)=true
 |0,k,i,l,l',_,_,h',_,_=>by
  obtain⟨f1,f2⟩:=Sq.aqI.1 h';refine⟨?_,by simpa[tyL]using f1⟩;simp[TI,tyL,f2]
 |n+1,k,i,l,l',h,ht,h',hs,hc=>by
  rw[TI]at ht;split at ht
  .rename_i fF;exact absurd ht fF
  .rename_i h0;have h0:A8 l (U9 dv sq tm k i s)=0:=by simpa using h0
   obtain⟨_,f1⟩:=(arl (c:=U9 dv sq tm k i s) rfl).1 h0;have hM:More l (U9 dv sq tm k i s):=⟨(Sq.aqI.1 h).1,f1⟩;have f2:=ar7 hM (Sq.aqI.1 h').1 hs (hc _ (mem_cons_self ..));have h1:=(arl (l:=l') (c:=U9 dv sq tm k i s) rfl).2 ⟨h',f2⟩;rw[arQ h0]at ht;have mem1:∀{x},x∈arE (l++[U9 dv sq tm k i s])↔x∈l\/x=U9 dv sq tm k i s:=fun{x}=>by rw[(Sq.aqK f1).mem_iff];simp
   have mem2:∀{x},x∈arE (l'++[U9 dv sq tm k i s])↔x∈l'\/x=U9 dv sq tm k i s:=fun{x}=>by rw[(Sq.aqK f2).mem_iff];simp
   obtain⟨a1,a2⟩:=asH (l':=arE (l'++[U9 dv sq tm k i s])) (Sq.arb f1).2.2 ht (Sq.arb f2).2.2 (fun x hx=>mem2.2 ((mem1.1 hx).imp (hs x) id)) (fun c hcm y hy hn=>by
    rcases mem2.1 hy with hy|hy
    .exact hc c (yF _ hcm) y hy fun QV=>hn (mem1.2 (.inl QV))
    .exact absurd (mem1.2 (.inr hy)) hn)
   have hp:(arE (l'++[U9 dv sq tm k i s])++tyL dv sq tm s n (k+1) (dv,sq,(k:Int))).Perm (l'++tyL dv sq tm s (n+1) k i):=by
    have:=(Sq.aqK f2).append_right (tyL dv sq tm s n (k+1) (dv,sq,(k:Int)));rw[append_assoc]at this;exact this
   have f3:sO (l'++tyL dv sq tm s (n+1) k i)=true:=by rw[<- Sq.arf hp];exact a2
   refine⟨?_,f3⟩;rw[TI,yK (by simpa using h1),arQ h1,a1,Sq.arv (Sq.Ak.1 a2).1 hp]
theorem ar8{dv sq tm:Int}{s:yP}{n k:Nat}{i:Sq.ID}{l:List CE}(h:jg l=0)(ht:(TI dv sq tm s n k i l).2=0):TI dv sq tm s n k i l=(arE (l++tyL dv sq tm s n k i),0)/\sO (l++tyL dv sq tm s n k i)=true :=
 asH h ht h (fun _ hx=>hx) fun _ _ _ hy hn=>absurd hy hn
def Vu(a b c:Int):Nat->Nat->CE->CE
 |0,_,x=>x
 |n+1,k,x=>Vu a b c n (k+1) (ers (a,b,wr c k) x)
theorem aqR{a b c:Int}:∀{n k:Nat},Sq.Alike (Vu a b c n k)
 |0,_=>⟨fun _=>rfl,fun _=>rfl,fun _=>rfl,fun _=>rfl,fun _=>rfl,fun _=>rfl,fun _=>rfl,fun _=>rfl⟩
 |n+1,k=>by
  have h:=Sq.aqH (a,b,wr c k);have k:=aqR (a:=a) (b:=b) (c:=c) (n:=n) (k:=k+1);constructor<;>intro x<;>simp only[Vu]
  .rw [k.dv,h.dv]
  .rw [k.sq,h.sq]
  .rw [k.gU,h.gU]
  .rw [k.ad,h.ad]
  .rw [k.j6,h.j6]
  .rw [k.aa,h.aa]
  .rw [k.tm,h.tm]
  .rw [k.vl,h.vl]
def ar9(a b c:Int)(n k:Nat)(l:List CE):Prop:=∀j,j<n->∃x∈l,x.id=(a,b,wr c (k+j))
theorem arJ{a b c:Int}:∀{n k:Nat}{l:List CE},Ids l->(ar9 a b c n k l->vY a b c n k l=some (l.map (Vu a b c n k)))/\∀{r},vY a b c n k l=some r->ar9 a b c n k l
 |0,k,l,_=>⟨fun _=>by simp[vY,Vu],fun _ j hj=>absurd hj zO⟩
 |n+1,k,l,hl=>by
  have ha:=Sq.aqH (a,b,wr c k);have hl2:Ids (l.map (ers (a,b,wr c k))):=pairwise_map.2 (hl.imp fun{x y} q=>by rw[ha.id,ha.id];exact q);obtain⟨i1,i2⟩:=arJ (a:=a) (b:=b) (c:=c) (n:=n) (k:=k+1) hl2;constructor
  .intro h;obtain⟨x,hx,e⟩:=h 0 zO;obtain⟨m,hm⟩:=Sq.ar3 hx e;have hm:fX (vM a b (wr c k)) l=some m:=hm;rw[vY,hm];show vY a b c n (k+1) (mY l m)=_;rw[Sq.aqP hl hm,i1 fun j hj=>?_,map_map]
   .rfl
   .obtain ⟨y,hy,e⟩:=h (j+1) zO;exact⟨_,yG.2 ⟨y,hy,rfl⟩,by rw[ha.id,e,show k+1+j=k+(j+1) by omega]⟩
  .intro r h j hj;rw[vY]at h;split at h
   .rename_i m hm;rw[Sq.aqP hl hm]at h;cases j with
    |zero =>
     obtain⟨x,hx,e⟩:=Sq.ark hm;exact⟨x,mem_of_getElem? hx,e⟩
    |succ j =>
     obtain⟨y,hy,e⟩:=i2 h j zO;obtain⟨x,hx,rfl⟩:=yG.1 hy;exact⟨x,hx,by rw[ha.id]at e;rw[e,show k+1+j=k+(j+1) by omega]⟩
   .cases h
def arx(m:MK)(v:List MK):List MK:=v.take (uD m v)++[m]++v.drop (uD m v)
theorem aqV(m:MK)(v:List MK):(arx m v).Perm (m::v):=by
 unfold arx;have:(v.take (uD m v)++[m]++v.drop (uD m v)).Perm (m::(v.take (uD m v)++v.drop (uD m v))):=by
  rw[append_assoc];exact perm_middle
 rw[take_append_drop]at this;exact this
theorem asj{a b:MK}(h:a.eG≠b.eG):nD a b=true\/nD b a=true:=by
 rw[zh,zh];simp only[MK.eG,ne_eq,Prod.mk.injEq,not_and]at h;by_cases e:a.dv=b.dv
 .have:=h e;omega
 .omega
theorem arz{m:MK}{v:List MK}(h:v.Pairwise fun a c=>nD a c=true)(hd:∀a∈v,a.eG≠m.eG):(arx m v).Pairwise fun a c=>nD a c=true:=by
 have h1:∀a∈v.take (uD m v),nD a m=true:=fun a ha=>by
  obtain⟨j,hj,rfl⟩:=getElem_of_mem ha;rw[length_take]at hj;rw[getElem_take];exact(Mw h zO).2 zO
 have h2:∀a∈v.drop (uD m v),nD m a=true:=fun a ha=>by
  obtain⟨j,hj,rfl⟩:=getElem_of_mem ha;rw[length_drop]at hj;rw[getElem_drop];have bg:uD m v+j<v.length:=zO
  rcases asj (hd _ (getElem_mem bg))with k|k
  .have:=(Mw h bg).1 k;omega
  .exact k
 have hs:=h;rw[<- take_append_drop (uD m v) v]at hs;obtain⟨s1,s2,s3⟩:=pairwise_append.1 hs;unfold arx;refine pairwise_append.2 ⟨pairwise_append.2 ⟨s1,pairwise_singleton _ _,fun a ha b hb=>?_⟩,s2,fun a ha b hb=>?_⟩
 .rw [mem_singleton.1 hb];exact h1 a ha
 .rcases yI.1 ha with ha|ha
  .exact s3 a ha b hb
  .rw [mem_singleton.1 ha];exact h2 b hb
theorem asl{l:List CE}{m:MK}{v:List MK}(h:OkV l v)(hm:F8 l m=true)(hd:∀a∈v,a.eG≠m.eG):OkV l (arx m v):=by
 refine⟨fun a ha=>?_,arz h.sorted hd,?_⟩
 .rcases yH.1 ((aqV m v).mem_iff.1 ha)with rfl|ha
  .exact hm
  .exact h.isM a ha
 .have:(m::v).Pairwise fun a b=>a.eG≠b.eG:=pairwise_cons.2 ⟨fun a ha e=>hd a ha e.symm,h.qV⟩;exact(Perm.pairwise_iff (fun{a b} h e=>h e.symm) (aqV m v)).2 this
theorem arA{l:List CE}{m:MK}:F8 l m=true↔(∃x∈l,x.id=m.frm)/\(∃x∈l,x.id=m.upto)/\(bH.gQ (m.dv,m.sq)&&decide (m.tm>=1)&&decide (m.tm<=1099511627776)&&decide (m.st>=0)&&decide (m.st<16))=true:=by
 have key:∀i j k:Int,(fX (vM i j k) l).isSome=true↔∃x∈l,x.id=(i,j,k):=fun i j k=>by
  constructor
  .intro h;obtain⟨m,hm⟩:=Option.isSome_iff_exists.1 h;obtain⟨x,hx,e⟩:=Sq.ark hm;exact⟨x,mem_of_getElem? hx,e⟩
  .rintro ⟨x,hx,e⟩;obtain⟨m,hm⟩:=Sq.ar3 hx e;rw[hm];rfl
 unfold F8 MK.frm MK.upto;rw[<- key,<- key];simp only[Bool.and_eq_true];constructor
 .rintro ⟨⟨⟨⟨⟨⟨h1,h2⟩,h3⟩,h4⟩,h5⟩,h6⟩,h7⟩;exact⟨h1,h2,⟨⟨⟨h3,h4⟩,h5⟩,h6⟩,h7⟩
 .rintro ⟨h1,h2,⟨⟨⟨h3,h4⟩,h5⟩,h6⟩,h7⟩;exact⟨⟨⟨⟨⟨⟨h1,h2⟩,h3⟩,h4⟩,h5⟩,h6⟩,h7⟩
theorem asn{l l':List CE}{m:MK}(h:∀x∈l,∃y∈l',y.id=x.id)(hm:F8 l m=true):F8 l' m=true:=by
 obtain⟨⟨x,hx,e⟩,⟨x',hx',e'⟩,k⟩:=arA.1 hm;obtain⟨y,hy,e2⟩:=h x hx;obtain⟨y',hy',e2'⟩:=h x' hx';exact arA.2 ⟨⟨y,hy,e2.trans e⟩,⟨y',hy',e2'.trans e'⟩,k⟩
theorem OkV.up{l l':List CE}{v:List MK}(h:OkV l v)(hs:∀x∈l,∃y∈l',y.id=x.id):OkV l' v:=⟨fun m hm=>asn hs (h.isM m hm),h.sorted,h.qV⟩
def TL(e:ED):List CE:=tyL e.dv e.sq e.tm e.s e.s.size 0 (e.a,e.b,e.c)
def CF(e:ED):CE->CE:=Vu e.a e.b e.c e.n.toNat 0
def aso(t:TE)(e:ED):Prop:=(1<=e.s.size/\e.s.size<=64)/\(TI e.dv e.sq e.tm e.s e.s.size 0 (e.a,e.b,e.c) t.cells).2=0
def asK(t:TE)(e:ED):Prop:=(1<=e.n/\e.n<=64)/\ar9 e.a e.b e.c e.n.toNat 0 t.cells
def asq(t:TE)(e:ED):Prop:=F8 t.cells e.m=true/\∀a∈t.bQ,a.eG≠e.m.eG
theorem arB(e:ED):Sq.Alike (CF e):=aqR
theorem Val.chk{t:TE}(h:Val t):vC t=0:=Yp.2 h
theorem Val.iw{t:TE}(h:Val t):Ids t.cells:=(Sq.Ak.1 (Sq.aqI.1 h.cells).1).1.iw
theorem asL{t:TE}{e:ED}(hV:Val t)(h:aso t e):Ve t e.dv e.sq e.tm (e.a,e.b,e.c) e.s=(⟨(TI e.dv e.sq e.tm e.s e.s.size 0 (e.a,e.b,e.c) t.cells).1,t.bQ⟩,0):=by
 obtain⟨⟨h1,h2⟩,h3⟩:=h;unfold Ve;rw[yK (by simpa using hV.chk),yK zO,yL h3]
theorem asM{t:TE}{e:ED}(hV:Val t)(h:asK t e):Vg t (e.a,e.b,e.c) e.n=(⟨t.cells.map (CF e),t.bQ⟩,0):=by
 obtain⟨⟨h1,h2⟩,h3⟩:=h;unfold Vg;rw[yK (by simpa using hV.chk),yK zO,(arJ hV.iw).1 h3];rfl
theorem asN{t:TE}{e:ED}(hV:Val t)(h:asq t e):Vk t e.m=(⟨t.cells,arx e.m t.bQ⟩,0):=by
 obtain⟨h1,h2⟩:=h;unfold Vk;rw[yK (by simpa using hV.chk),yK (by rw[h1];decide),yK]
 .rfl
 .intro hc;obtain⟨a,ha,e⟩:=any_eq_true.1 hc;exact h2 a ha (of_decide_eq_true e)
theorem arn{t:TE}{e:ED}(h:(edR t e).2=0):Val t/\(e.kd=0/\aso t e/\edR t e=(⟨arE (t.cells++TL e),t.bQ⟩,0)\/e.kd≠0/\e.kd=1/\asK t e/\edR t e=(⟨t.cells.map (CF e),t.bQ⟩,0)\/e.kd≠0/\e.kd≠1/\asq t e/\edR t e=(⟨t.cells,arx e.m t.bQ⟩,0)):=by
 have hv:vC t=0:=by
  unfold edR at h;split at h
  .unfold Ve at h;split at h
   .rename_i hc;exact absurd h hc
   .rename_i hc;simpa using hc
  .split at h
   .unfold Vg at h;split at h
    .rename_i hc;exact absurd h hc
    .rename_i hc;simpa using hc
   .unfold Vk at h;split at h
    .rename_i hc;exact absurd h hc
    .rename_i hc;simpa using hc
 have hV:=Yp.1 hv;refine⟨hV,?_⟩;by_cases h0:e.kd=0
 .have e1:edR t e=Ve t e.dv e.sq e.tm (e.a,e.b,e.c) e.s:=by unfold edR;rw[yL h0]
  rw[e1]at h |-;have hT:aso t e:=by
   unfold Ve at h;rw[yK (by simpa using hv)]at h;split at h
   .cases h
   .rename_i hs;split at h
    .rename_i ht;exact⟨zO,ht⟩
    .rename_i ht;exact absurd h ht
  refine .inl ⟨h0,hT,?_⟩;rw[asL hV hT,(ar8 hV.cells hT.2).1];rfl
 .by_cases h1:e.kd=1
  .have e1:edR t e=Vg t (e.a,e.b,e.c) e.n:=by unfold edR;rw[yK h0,yL h1]
   rw[e1]at h |-;have hC:asK t e:=by
    unfold Vg at h;rw[yK (by simpa using hv)]at h;split at h
    .cases h
    .rename_i hs;split at h
     .rename_i hr;exact⟨zO,(arJ hV.iw).2 hr⟩
     .cases h
   exact .inr (.inl ⟨h0,h1,hC,asM hV hC⟩)
  .have e1:edR t e=Vk t e.m:=by unfold edR;rw[yK h0,yK h1]
   rw[e1]at h |-;have hA:asq t e:=by
    unfold Vk at h;rw[yK (by simpa using hv)]at h;split at h
    .cases h
    .rename_i hs;split at h
     .cases h
     .rename_i ha;refine⟨by simpa using hs,fun a hm e=>ha (any_eq_true.2 ⟨a,hm,decide_eq_true e⟩)⟩
   exact .inr (.inr ⟨h0,h1,hA,asN hV hA⟩)
theorem arR{dv sq tm:Int}{s:yP}:∀{n k:Nat}{i:Sq.ID},k+n=s.size->∀x∈tyL dv sq tm s n k i,x.vl.size=1
 |0,_,_,_,x,hx=>by cases hx
 |n+1,k,i,h,x,hx=>by
  rcases yH.1 hx with rfl|hx
  .show (s.extract k (k+1)).size=1;rw[ByteArray.size_extract];omega
  .exact arR zO x hx
theorem asO{t:TE}{e:ED}(hV:Val t)(h:aso t e):Val ⟨arE (t.cells++TL e),t.bQ⟩/\sO (t.cells++TL e)=true:=by
 obtain⟨a1,a2⟩:=ar8 hV.cells h.2;refine⟨⟨(Sq.arb a2).2.2,fun c hc=>?_,hV.bQ.up fun x hx=>⟨x,(Sq.aqK a2).mem_iff.2 (mem_append_left _ hx),rfl⟩⟩,a2⟩;rcases yI.1 ((Sq.aqK a2).mem_iff.1 hc)with hc|hc
 .exact hV.one c hc
 .exact arR zO c hc
theorem asr{t:TE}{g:CE->CE}(hg:Sq.Alike g)(hV:Val t):Val ⟨t.cells.map g,t.bQ⟩:=by
 refine⟨hg.chk hV.cells,fun c hc=>?_,hV.bQ.up fun x hx=>⟨g x,yG.2 ⟨x,hx,rfl⟩,hg.id x⟩⟩;obtain⟨x,hx,rfl⟩:=yG.1 hc;rw[hg.vl];exact hV.one x hx
theorem asP{t:TE}{e:ED}(hV:Val t)(h:asq t e):Val ⟨t.cells,arx e.m t.bQ⟩:=⟨hV.cells,hV.one,asl hV.bQ h.1 h.2⟩
theorem arK{t:TE}{e:ED}(h:(edR t e).2=0):Val (edR t e).1:=by
 obtain⟨hV,⟨_,h1,e1⟩|⟨_,_,h1,e1⟩|⟨_,_,h1,e1⟩⟩:=arn h
 .rw [e1];exact(asO hV h1).1
 .rw [e1];exact asr aqR hV
 .rw [e1];exact asP hV h1
end Go.Tx
namespace Go.Bd
open Go Go.Am Go.Proofs Go.eY
theorem aro{v:List BE}:jg v=0↔Map v:=by
 rw[<- RQ];unfold jg;cases Cw v<;>simp
theorem asu{l:List BE}{c:List bH.D}{b:BE}(h:(OB l c b).2=0):jg (OB l c b).1=0/\∀x∈(OB l c b).1,x=b\/x∈l:=by
 unfold OB at h |-;by_cases h0:jg l=0
 .rw [yL h0]at h |-;by_cases h1:bH.eZ c=0
  .rw [yL h1]at h |-;by_cases h2:Zu l c b=true
   .rw [yL h2];refine⟨aro.2 (asi (aro.1 h0) h2 _),fun x hx=>?_⟩;rcases yH.1 ((VJ b _).mem_iff.1 hx)with h|h
    .exact .inl h
    .exact .inr ((zF ..).subset h)
   .rw [yK h2]at h;cases h
  .rw [yK h1]at h;exact absurd h h1
 .rw [yK h0]at h;exact absurd h h0
theorem asa{l:List BE}{c:List bH.D}{k:yP}(h:(CZ l c k).2=0):jg (CZ l c k).1=0/\∀x∈(CZ l c k).1,x∈l:=by
 unfold CZ at h |-;by_cases h0:jg l=0
 .rw [yL h0]at h |-;by_cases h1:bH.eZ c=0
  .rw [yL h1];exact⟨aro.2 (Zv (aro.1 h0) _ _),fun x hx=>(zF ..).subset hx⟩
  .rw [yK h1]at h;exact absurd h h1
 .rw [yK h0]at h;exact absurd h h0
end Go.Bd
namespace Go.Sq
open Go Go.Am Go.Proofs Go.eY
theorem asv{l:List CE}{c:CE}(hg:c.gn=false)(h:A8 l c=0):jg (rU l c)=0/\∀x∈rU l c,x∈l\/x=c:=by
 obtain⟨h1,h2⟩:=(Tx.arl hg).1 h;have e:rU l c=arE (l++[c]):=by
  unfold rU;rw[yK (by simpa using h1),yK (by simp[hg])];rcases Yo (l++[c])with⟨_,_,e⟩|⟨e,_⟩
  .exact e
  .rw [h2]at e;cases e
 rw[e];exact⟨(arb h2).2.2,fun x hx=>by simpa using(aqK h2).mem_iff.1 hx⟩
theorem asw{l:List CE}{a b c:Int}(h:Ox l a b c=0):jg (Ez l a b c)=0/\∀x∈Ez l a b c,∃y∈l,x.dv=y.dv/\x.sq=y.sq:=by
 have hc:jg l=0:=by
  by_cases e:jg l=0
  .exact e
  .unfold Ox at h;rw[yL e]at h;exact h
 rcases asI (i:=a) (j:=b) (k:=c) hc with⟨_,e,_⟩|⟨e,_⟩
 .rw [e];refine⟨(aqH _).chk hc,fun x hx=>?_⟩;obtain⟨y,hy,rfl⟩:=yG.1 hx;exact⟨y,hy,(aqH _).dv y,(aqH _).sq y⟩
 .rw [e]at h;cases h
end Go.Sq
namespace Go.Dc
open Go Go.Am Go.Proofs Go.eY Go.bH
theorem ard:∀{l:List TL}{x:Int},Xg x l=true↔(∀t∈l,Tf t.1 t.2.1=true)/\(∀t∈l,x<t.1)/\(l.map (·.1)).Pairwise (·<·)
 |[],x=>by simp[Xg]
 |u::l,x=>by
  simp only[Xg,Bool.and_eq_true,decide_eq_true_eq,ard (l:=l) (x:=u.1),yH,map_cons,pairwise_cons,yG,forall_exists_index,and_imp,forall_apply_eq_imp_iff₂];constructor
  .rintro ⟨⟨h1,h2⟩,h3,h4,h5⟩;refine⟨fun t ht=>ht.elim (fun e=>e▸h1) (h3 t),fun t ht=>ht.elim (fun e=>e▸h2) fun ht=>Int.lt_trans h2 (h4 t ht),fun t ht=>h4 t ht,h5⟩
  .rintro ⟨h1,h2,h3,h4⟩;exact⟨⟨h1 u (.inl rfl),h2 u (.inl rfl)⟩,fun t ht=>h1 t (.inr ht),fun t ht=>h3 t ht,h4⟩
theorem asT{d:Int}{t:TL}(h:cD d t=0):t.1=d:=by
 unfold cD bV.gJ at h;split at h
 .cases h
 .split at h
  .cases h
  .omega
theorem asx{l:List TL}{d s n:Int}(h:(OJ l d s n).2=0):vC (OJ l d s n).1=0/\∀x∈(OJ l d s n).1,x∈l\/dtt x=(d,s):=by
 unfold OJ at h |-;by_cases h1:Xg (-1) l=true
 .rw [yL h1]at h |-;by_cases h2:Tf d s=true
  .rw [yL h2]at h |-;obtain⟨k1,k2,k3⟩:=ard.1 h1;have hm:=OI d h1;have hd:(-1:Int)<d:=by simp only[Tf,Bool.and_eq_true,decide_eq_true_eq]at h2;omega
   split at h
   .rename_i h3;rw[yL h3];split at h
    .cases h
    .rename_i h4;rw[yK h4];have bg:nQ (cD d) l<l.length:=by
      rcases Nat.lt_or_ge (nQ (cD d) l) l.length with h|h
      .exact h
      .rw [getElem?_eq_none h]at h3;cases h3
     rw[yA bg]at h3;have e:l[nQ (cD d) l].1=d:=asT (by simpa using h3);have g:l.getD (nQ (cD d) l) (0,0,0)=l[nQ (cD d) l]:=by rw[yB,yA bg];rfl
     rw[g];have em:(l.set (nQ (cD d) l) (l[nQ (cD d) l].1,s,IntKind.wrap IntKind.i64 (l[nQ (cD d) l].2.2+n))).map (·.1)=l.map (·.1):=by
      rw[map_set];refine ext_getElem? fun i=>?_;rw[getElem?_set];split
      .rename_i q;subst q;simp[bg]
      .rfl
     have hx:∀x∈l.set (nQ (cD d) l) (l[nQ (cD d) l].1,s,IntKind.wrap IntKind.i64 (l[nQ (cD d) l].2.2+n)),x∈l\/(x.1=d/\x.2.1=s):=fun x hx=>by
      rcases mem_or_eq_of_mem_set hx with h|rfl
      .exact .inl h
      .exact .inr ⟨e,rfl⟩
     refine⟨?_,fun x hx'=>(hx x hx').imp id fun q=>by show(x.1,x.2.1)=_;rw[q.1,q.2]⟩;unfold vC;rw[yL];refine ard.2 ⟨fun t ht=>?_,fun t ht=>?_,by rw[em];exact k3⟩
     .rcases hx t ht with q|⟨q1,q2⟩
      .exact k1 t q
      .rw [q1,q2];exact h2
     .rcases hx t ht with q|⟨q1,_⟩
      .exact k2 t q
      .rw [q1];exact hd
   .rename_i h3;rw[yK h3];have hx:∀x∈l.take (nQ (cD d) l)++[(d,s,n)]++l.drop (nQ (cD d) l),x∈l\/x=(d,s,n):=fun x hx=>by
     simp only[yI,mem_singleton]at hx;rcases hx with(h|h)|h
     .exact .inl (mem_of_mem_take h)
     .exact .inr h
     .exact .inl (mem_of_mem_drop h)
    refine⟨?_,fun x hx'=>(hx x hx').imp id fun q=>by rw[q];rfl⟩;unfold vC;rw[yL];refine ard.2 ⟨fun t ht=>?_,fun t ht=>?_,?_⟩
    .rcases hx t ht with q|q
     .exact k1 t q
     .rw [q];exact h2
    .rcases hx t ht with q|q
     .exact k2 t q
     .rw [q];exact hd
    .have hpw:=pairwise_iff_getElem.1 (pairwise_map.1 k3);have lo:∀t∈l.take (nQ (cD d) l),t.1<d:=fun t ht=>by
      obtain⟨i,hi,rfl⟩:=mem_iff_getElem.1 ht;rw[length_take]at hi;rw[getElem_take];exact(ajD d _).1 ((hm i zO).2 zO)
     have up:∀t∈l.drop (nQ (cD d) l),d<t.1:=fun t ht=>by
      obtain⟨i,hi,rfl⟩:=mem_iff_getElem.1 ht;rw[length_drop]at hi;rw[getElem_drop];have hp:nQ (cD d) l<l.length:=zO
      have h0:¬l[nQ (cD d) l].1<d:=fun h=>absurd ((hm _ hp).1 ((ajD d _).2 h)) (Nat.lt_irrefl _);have h1:l[nQ (cD d) l].1≠d:=fun e=>h3 (by
       rw[yA hp];simp[cD,bV.gJ,e])
      rcases Nat.eq_zero_or_pos i with rfl|hi0
      .simp only[Nat.add_zero];omega
      .have:=hpw (nQ (cD d) l) (nQ (cD d) l+i) hp zO zO;omega
     rw[map_append,map_append,pairwise_append,pairwise_append];refine⟨⟨?_,zS,?_⟩,?_,?_⟩
     .rw [map_take];exact k3.sublist (take_sublist _ _)
     .intro a ha b hb;obtain⟨t,ht,rfl⟩:=yG.1 ha;simp only[map_cons,map_nil,mem_singleton]at hb;subst hb;exact lo t ht
     .rw [map_drop];exact k3.sublist (drop_sublist _ _)
     .intro a ha b hb;obtain⟨t,ht,rfl⟩:=yG.1 hb;have hb:=up t ht;rcases yI.1 ha with ha|ha
      .obtain ⟨u,hu,rfl⟩:=yG.1 ha;exact Int.lt_trans (lo u hu) hb
      .simp only[map_cons,map_nil,mem_singleton]at ha;subst ha;exact hb
  .rw [yK h2]at h;cases h
 .rw [yK h1]at h;cases h
end Go.Dc
namespace Go.Tx
open Go Go.Am Go.Proofs Go.eY
theorem asy{t:TE}{dv sq tm:Int}{i:Sq.ID}{s:yP}(h:(Ve t dv sq tm i s).2=0):vC (Ve t dv sq tm i s).1=0/\(∀x∈(Ve t dv sq tm i s).1.cells,x∈t.cells\/(x.dv=dv/\x.sq=sq))/\(Ve t dv sq tm i s).1.bQ=t.bQ:=by
 have e:edR t ⟨0,tm,0,dv,sq,i.1,i.2.1,i.2.2,s,⟨0,0,0,0,0,0,0,0,0,0,false⟩⟩=Ve t dv sq tm i s:=rfl;rw[<- e]at h |-;refine⟨(arK h).chk,?_⟩;obtain⟨hV,⟨_,h1,e1⟩|⟨h0,_⟩|⟨h0,_⟩⟩:=arn h
 .rw [e1];refine⟨fun x hx=>?_,rfl⟩;rcases yI.1 ((Sq.aqK (ar8 hV.cells h1.2).2).mem_iff.1 hx)with h|h
  .exact .inl h
  .have:=arP x h;exact .inr ⟨this.1,this.2.1⟩
 .exact absurd rfl h0
 .exact absurd rfl h0
theorem asz{t:TE}{i:Sq.ID}{n:Int}(h:(Vg t i n).2=0):vC (Vg t i n).1=0/\(∀x∈(Vg t i n).1.cells,∃y∈t.cells,x.dv=y.dv/\x.sq=y.sq)/\(Vg t i n).1.bQ=t.bQ:=by
 have e:edR t ⟨1,0,n,0,0,i.1,i.2.1,i.2.2,ByteArray.empty,⟨0,0,0,0,0,0,0,0,0,0,false⟩⟩=Vg t i n:=rfl;rw[<- e]at h |-;refine⟨(arK h).chk,?_⟩;obtain⟨hV,⟨h0,_⟩|⟨_,_,h1,e1⟩|⟨_,h0,_⟩⟩:=arn h
 .cases h0
 .rw [e1];refine⟨fun x hx=>?_,rfl⟩;obtain⟨y,hy,rfl⟩:=yG.1 hx;exact⟨y,hy,(arB _).dv y,(arB _).sq y⟩
 .exact absurd rfl h0
theorem asA{t:TE}{m:MK}(h:(Vk t m).2=0):vC (Vk t m).1=0/\(Vk t m).1.cells=t.cells/\∀x∈(Vk t m).1.bQ,x∈t.bQ\/x=m:=by
 have e:edR t ⟨2,0,0,0,0,0,0,0,ByteArray.empty,m⟩=Vk t m:=rfl;rw[<- e]at h |-;refine⟨(arK h).chk,?_⟩;obtain⟨hV,⟨h0,_⟩|⟨_,h0,_⟩|⟨_,_,h1,e1⟩⟩:=arn h
 .cases h0
 .cases h0
 .rw [e1];refine⟨rfl,fun x hx=>?_⟩;rcases yH.1 ((aqV _ _).mem_iff.1 hx)with h|h
  .exact .inr h
  .exact .inl h
end Go.Tx
namespace Go.Dc
open Go Go.Am Go.Proofs Go.eY Go.bH
theorem arL{f:FD}{v:List D}(h:f.pk=1):U6 f v=true↔Sq.jg f.ce=0/\(∀x∈f.ce,cZ v (dtc x)=true)/\f.bi.length+f.ta.length+f.tc.length+f.tm.length=0/\f.pn.size<=64:=by simp[U6,h,and_assoc]
theorem arM{f:FD}{v:List D}(h:f.pk=2):U6 f v=true↔Bd.jg f.bi=0/\(∀x∈f.bi,cZ v (dtb x)=true)/\f.ce.length+f.ta.length+f.tc.length+f.tm.length=0/\f.pn.size<=64:=by simp[U6,h,and_assoc]
theorem asb{f:FD}{v:List D}(h:f.pk=3):U6 f v=true↔vC f.ta=0/\(∀x∈f.ta,cZ v (dtt x)=true)/\f.ce.length+f.bi.length+f.tc.length+f.tm.length=0/\f.pn.size<=64:=by simp[U6,h,and_assoc]
theorem arC{f:FD}{v:List D}(h:f.pk=4):U6 f v=true↔Tx.vC ⟨f.tc,f.tm⟩=0/\(∀x∈f.tc,cZ v (dtc x)=true)/\(∀x∈f.tm,cZ v (dtm x)=true)/\f.ce.length+f.bi.length+f.ta.length=0/\f.pn.size<=64:=by simp[U6,h,and_assoc]
theorem asQ{f:FD}{v:List D}(h:U6 f v=true):f.pk=1\/f.pk=2\/f.pk=3\/f.pk=4:=by
 unfold U6 at h;by_cases h1:f.pk=1
 .exact .inl h1
 by_cases h2:f.pk=2
 .exact .inr (.inl h2)
 by_cases h3:f.pk=3
 .exact .inr (.inr (.inl h3))
 by_cases h4:f.pk=4
 .exact .inr (.inr (.inr h4))
 simp[h1,h2,h3,h4]at h
theorem arp{f:FD}{v w:List D}(hu:∀y,cZ v y=true->cZ w y=true)(h:U6 f v=true):U6 f w=true:=by
 rcases asQ h with e|e|e|e
 .obtain ⟨a,b,c⟩:=(arL e).1 h;exact(arL e).2 ⟨a,fun x hx=>hu _ (b x hx),c⟩
 .obtain ⟨a,b,c⟩:=(arM e).1 h;exact(arM e).2 ⟨a,fun x hx=>hu _ (b x hx),c⟩
 .obtain ⟨a,b,c⟩:=(asb e).1 h;exact(asb e).2 ⟨a,fun x hx=>hu _ (b x hx),c⟩
 .obtain ⟨a,b,c,d⟩:=(arC e).1 h;exact(arC e).2 ⟨a,fun x hx=>hu _ (b x hx),fun x hx=>hu _ (c x hx),d⟩
theorem asR{o:bV.OP}{v:List D}(h:o.pk=1\/o.pk=2\/o.pk=3\/o.pk=4)(hp:o.pn.size<=64):U6 (Fx o) v=true:=by
 rcases h with e|e|e|e
 .exact (arL e).2 ⟨rfl,fun _ h=>(by cases h),rfl,hp⟩
 .exact (arM e).2 ⟨rfl,fun _ h=>(by cases h),rfl,hp⟩
 .exact (asb e).2 ⟨rfl,fun _ h=>(by cases h),rfl,hp⟩
 .exact (arC e).2 ⟨rfl,fun _ h=>(by cases h),fun _ h=>(by cases h),rfl,hp⟩
theorem arq{f:FD}{r:Tx.TE×Int}{w:List D}(hk:f.pk=4)(h:U6 f w=true)(hr:r.2=0->Tx.vC r.1=0/\(∀x∈r.1.cells,cZ w (dtc x)=true)/\∀x∈r.1.bQ,cZ w (dtm x)=true):U6 (MB f r) w=true:=by
 unfold MB;split
 .rename_i e;obtain⟨a,b,c⟩:=hr e;obtain⟨_,_,_,d⟩:=(arC hk).1 h;exact(arC (f:={ f with tc:=r.1.cells,tm:=r.1.bQ }) hk).2 ⟨a,b,c,d⟩
 .exact h
theorem asc{o:bV.OP}{f:FD}{w:List D}(hk:f.pk=bV.partOf o.kd)(h1:1<=o.kd)(h8:o.kd<=8)(hn:cZ w (o.dv,o.sq)=true)(h:U6 f w=true):U6 (Gc o f) w=true:=by
 have hc:o.kd=1\/o.kd=2\/o.kd=3\/o.kd=4\/o.kd=5\/o.kd=6\/o.kd=7\/o.kd=8:=zO
 rcases hc with e|e|e|e|e|e|e|e<;>rw[e]at hk
 .obtain ⟨a,b,c⟩:=(arL hk).1 h;rw[show Gc o=ef1 o by simp[Gc,e]];unfold ef1;split
  .rename_i q;obtain⟨k1,k2⟩:=Sq.asv (by rfl) q;exact(arL (f:={ f with ce:=Sq.rU f.ce (KD o) }) hk).2 ⟨k1,fun x hx=>(k2 x hx).elim (b x) fun e=>by rw[e];exact hn,c⟩
  .exact h
 .obtain ⟨a,b,c⟩:=(arL hk).1 h;rw[show Gc o=ef2 o by simp[Gc,e]];unfold ef2;split
  .rename_i q;obtain⟨k1,k2⟩:=Sq.asw q;refine(arL (f:={ f with ce:=Sq.Ez f.ce o.f1 o.f2 o.f3 }) hk).2 ⟨k1,fun x hx=>?_,c⟩;obtain⟨y,hy,e1,e2⟩:=k2 x hx;have:=b y hy;unfold dtc at this |-;rw[e1,e2];exact this
  .exact h
 .obtain ⟨a,b,c⟩:=(arM hk).1 h;rw[show Gc o=ef3 o by simp[Gc,e]];unfold ef3;split
  .rename_i q;obtain⟨k1,k2⟩:=Bd.asu q;exact(arM (f:={ f with bi:=(Bd.OB f.bi (Q5 o) ⟨o.ky,o.dv,o.sq,o.tm,o.vl⟩).1 }) hk).2 ⟨k1,fun x hx=>(k2 x hx).elim (fun e=>by rw[e];exact hn) (b x),c⟩
  .exact h
 .obtain ⟨a,b,c⟩:=(arM hk).1 h;rw[show Gc o=ef4 o by simp[Gc,e]];unfold ef4;split
  .rename_i q;obtain⟨k1,k2⟩:=Bd.asa q;exact(arM (f:={ f with bi:=(Bd.CZ f.bi (Q5 o) o.ky).1 }) hk).2 ⟨k1,fun x hx=>b x (k2 x hx),c⟩
  .exact h
 .obtain ⟨a,b,c⟩:=(asb hk).1 h;rw[show Gc o=ef5 o by simp[Gc,e]];unfold ef5;split
  .rename_i q;obtain⟨k1,k2⟩:=asx q;exact(asb (f:={ f with ta:=(OJ f.ta o.dv o.sq o.n).1 }) hk).2 ⟨k1,fun x hx=>(k2 x hx).elim (b x) fun e=>by rw[e];exact hn,c⟩
  .exact h
 .obtain ⟨a,b,c,d⟩:=(arC hk).1 h;rw[show Gc o=ef6 o by simp[Gc,e]];refine arq hk h fun q=>?_;obtain⟨k1,k2,k3⟩:=Tx.asy q;exact⟨k1,fun x hx=>(k2 x hx).elim (b x) fun e=>by unfold dtc;rw[e.1,e.2];exact hn,by rw[k3];exact c⟩
 .obtain ⟨a,b,c,d⟩:=(arC hk).1 h;rw[show Gc o=ef7 o by simp[Gc,e]];refine arq hk h fun q=>?_;obtain⟨k1,k2,k3⟩:=Tx.asz q;refine⟨k1,fun x hx=>?_,by rw[k3];exact c⟩;obtain⟨y,hy,e1,e2⟩:=k2 x hx;have:=b y hy;unfold dtc at this |-;rw[e1,e2];exact this
 .obtain ⟨a,b,c,d⟩:=(arC hk).1 h;rw[show Gc o=ef8 o by simp[Gc,e]];refine arq hk h fun q=>?_;obtain⟨k1,k2,k3⟩:=Tx.asA q;exact⟨k1,by rw[k2];exact b,fun x hx=>(k3 x hx).elim (c x) fun e=>by rw[e];exact hn⟩
abbrev ltF(x y:FD):Prop:=U7 x.pk y.pk x.pn y.pn<0
theorem ars{v:List D}:∀{l:List FD}{q:Option FD},Xe v q l=true↔(∀f∈l,U6 f v=true)/\l.Pairwise ltF/\∀g,q=some g->∀x∈l,ltF g x
 |[],q=>by simp[Xe]
 |u::l,q=>by
  constructor
  .intro h;have hp:=OO h;have h':=h;simp only[Xe,Bool.and_eq_true]at h';have ih:=(ars (l:=l) (q:=some u)).1 h'.2;refine⟨fun f hf=>?_,hp,fun g e x hx=>?_⟩
   .rcases yH.1 hf with rfl|hf
    .exact h'.1.1
    .exact ih.1 f hf
   .subst e;exact Yy h x hx
  .rintro ⟨h1,h2,h3⟩;have h2':=pairwise_cons.1 h2;simp only[Xe,Bool.and_eq_true];refine⟨⟨h1 u zS,?_⟩,ars.2 ⟨fun f hf=>h1 f (by simp[hf]),h2'.2,fun g e x hx=>by injection e with e;exact e▸h2'.1 x hx⟩⟩;cases q with
   |none=>rfl
   |some g=>exact decide_eq_true (h3 g rfl u zS)
theorem arD{d:DO}:F9 d=0↔Cw d.sn=true/\(∀f∈d.fs,U6 f d.sn=true)/\d.fs.Pairwise ltF:=by
 have hq:=ars (v:=d.sn) (l:=d.fs) (q:=none);unfold F9;constructor
 .intro h;by_cases e:Cw d.sn=true/\Xe d.sn none d.fs=true
  .have k:=hq.1 e.2;exact⟨e.1,k.1,k.2.1⟩
  .rw [yK e]at h;cases h
 .rintro ⟨h1,h2,h3⟩;rw[yL ⟨h1,hq.2 ⟨h2,h3,fun g e=>by cases e⟩⟩]
theorem asS{a b:Int}{s t:yP}(h1:¬U7 a b s t<0)(h2:U7 a b s t≠0):U7 b a t s<0:=by
 rw[ajG]at h1 |-;rw[ne_eq,asG]at h2;rcases Int.lt_trichotomy a b with h|h|h
 .exact absurd (.inl h) h1
 .subst h;rcases Bd.arO s t with k|k|k
  .exact absurd (.inr ⟨rfl,k⟩) h1
  .exact absurd ⟨rfl,k⟩ h2
  .exact .inr ⟨rfl,k⟩
 .exact .inl h
theorem aqW(f:FD)(r:Tx.TE×Int):(MB f r).pk=f.pk/\(MB f r).pn=f.pn:=by
 unfold MB;split<;>exact⟨rfl,rfl⟩
theorem ase(o:bV.OP)(f:FD):(Gc o f).pk=f.pk/\(Gc o f).pn=f.pn:=by
 unfold Gc
 repeat' split
 .unfold ef1;split<;>exact⟨rfl,rfl⟩
 .unfold ef2;split<;>exact⟨rfl,rfl⟩
 .unfold ef3;split<;>exact⟨rfl,rfl⟩
 .unfold ef4;split<;>exact⟨rfl,rfl⟩
 .unfold ef5;split<;>exact⟨rfl,rfl⟩
 .exact aqW _ _
 .exact aqW _ _
 .exact aqW _ _
theorem arY{o:bV.OP}{ef:FD->FD}{l:List FD}(he:∀f,(ef f).pk=f.pk/\(ef f).pn=f.pn)(h:l.Pairwise ltF):(Ig (cO o) ef o l).Pairwise ltF:=by
 have hm:Rc (cO o) l:=TN (h.imp fun h1 h2=>OM h1 h2);have uQ:=Rh (cO o) l;unfold Ig;split
 .rename_i hb;have bg:rV (cO o) l<l.length:=by
   rcases Nat.lt_or_ge (rV (cO o) l) l.length with h|h
   .exact h
   .rw [getElem?_eq_none h]at hb;cases hb
  have g:l.getD (rV (cO o) l) (Fx o)=l[rV (cO o) l]:=by rw[yB,yA bg];rfl
  rw[g];have hp:=pairwise_iff_getElem.1 h;refine pairwise_iff_getElem.2 fun i j hi hj wQ=>?_;rw[length_set]at hi hj;have hq:=hp i j hi hj wQ;rw[getElem_set,getElem_set];have h1:=he l[rV (cO o) l];unfold ltF at hq |-;split
  .rename_i e;rw[yK zO,h1.1,h1.2];subst e;exact hq
  .split
   .rename_i e;rw[h1.1,h1.2];subst e;exact hq
   .exact hq
 .rename_i hb;have hz:=he (Fx o);have lo:∀x∈l.take (rV (cO o) l),ltF x (ef (Fx o)):=fun x hx=>by
   obtain⟨i,hi,rfl⟩:=mem_iff_getElem.1 hx;rw[length_take]at hi;unfold ltF;rw[getElem_take,hz.1,hz.2];exact(hm i zO).2 zO
  have up:∀x∈l.drop (rV (cO o) l),ltF (ef (Fx o)) x:=fun x hx=>by
   obtain⟨i,hi,rfl⟩:=mem_iff_getElem.1 hx;rw[length_drop]at hi;have hp:rV (cO o) l<l.length:=zO
   have h0:¬cO o l[rV (cO o) l]<0:=fun h=>absurd ((hm _ hp).1 h) (Nat.lt_irrefl _);have h1:cO o l[rV (cO o) l]≠0:=fun e=>hb (by rw[yA hp];simp[e]);have h2:U7 o.pk l[rV (cO o) l].pk o.pn l[rV (cO o) l].pn<0:=asS h0 h1;unfold ltF;rw[getElem_drop,hz.1,hz.2];rcases Nat.eq_zero_or_pos i with rfl|hi0
   .exact h2
   .exact OM h2 (pairwise_iff_getElem.1 h (rV (cO o) l) (rV (cO o) l+i) hp zO zO)
  rw[pairwise_append,pairwise_append];refine⟨⟨h.sublist (take_sublist _ _),zS,fun a ha b hb=>by rw[mem_singleton.1 hb];exact lo a ha⟩,h.sublist (drop_sublist _ _),fun a ha b hb=>?_⟩;rcases yI.1 ha with ha|ha
  .exact OM (lo a ha) (up b hb)
  .rw [mem_singleton.1 ha];exact up b hb
theorem asf{v:List D}{o:bV.OP}(hv:Cw v=true)(ho:Mg.vO o=true):uK v [(o.dv,o.sq)]=Mg.yR v o:=by
 have h1:=RQ.1 hv;unfold uK Mg.yR;rw[yL (acn hv (Mg.ug ho).1),Lg h1 (Mg.SC ho)]
theorem o8{v:List D}{x:D}:cZ v x=true↔1<=x.2/\x.2<=gI x.1 v:=by simp[cZ]
theorem asB{d:DO}{o:bV.OP}(h:F9 d=0)(ho:Mg.vO o=true):F9 (afQ d o)=0/\(afQ d o).sn=Mg.yR d.sn o:=by
 obtain⟨h1,h2,h3⟩:=arD.1 h;have hj:=asf h1 ho;have hV:=RQ.1 h1;have he:(afQ d o).sn=Mg.yR d.sn o:=hj;have hat:=fun x=>Mg.Em hV ho x;have asg:=ji.1 (Mg.ug ho).1;have hup:∀y,cZ d.sn y=true->cZ (Mg.yR d.sn o) y=true:=fun y hy=>by
  rw[o8]at hy |-;rw[hat];split<;>omega
 have aah:cZ (Mg.yR d.sn o) (o.dv,o.sq)=true:=by
  rw[o8,hat];simp only[if_true]at asg |-;omega
 have hq:bV.lM o=0:=of_decide_eq_true ho;have hk:=aci hq;simp only[bV.rM,bV.aat,Bool.and_eq_true,decide_eq_true_eq]at hk;obtain⟨⟨⟨_,k1⟩,k8⟩,⟨⟨kp,kn⟩,_⟩,_⟩:=hk;have hpk:o.pk=1\/o.pk=2\/o.pk=3\/o.pk=4:=by
  rw[kp];unfold bV.partOf
  repeat' split
  .exact .inl rfl
  .exact .inr (.inl rfl)
  .exact .inr (.inr (.inl rfl))
  .exact .inr (.inr (.inr rfl))
  .omega
 refine⟨arD.2 ⟨?_,fun f hf=>?_,arY (ase o) h3⟩,he⟩
 .rw [he];exact RQ.2 (Mg.adw hV ho)
 .rw [he];have hf':f∈Ig (cO o) (Gc o) o d.fs:=hf;unfold Ig at hf';split at hf'
  .rename_i hb;have bg:rV (cO o) d.fs<d.fs.length:=by
    rcases Nat.lt_or_ge (rV (cO o) d.fs) d.fs.length with h|h
    .exact h
    .rw [getElem?_eq_none h]at hb;cases hb
   rcases mem_or_eq_of_mem_set hf' with h|rfl
   .exact arp hup (h2 f h)
   .rw [yA bg]at hb;have e0:cO o d.fs[rV (cO o) d.fs]=0:=by simpa using hb
    have e:=(asG.1 e0).1;rw[yB,yA bg,Option.getD_some];exact asc (e.trans kp) k1 k8 aah (arp hup (h2 _ (getElem_mem bg)))
  .simp only[yI,mem_singleton]at hf';rcases hf' with(h|rfl)|h
   .exact arp hup (h2 f (mem_of_mem_take h))
   .exact asc (show(Fx o).pk=_ from kp) k1 k8 aah (asR hpk zO)
   .exact arp hup (h2 f (mem_of_mem_drop h))
open Go.bV (OP)
def allA:DO->List OP->Prop
 |_,[]=>True
 |d,o::l=>EF d o=0/\allA (afQ d o) l
theorem arZ{d:DO}{o:OP}(h:F9 d=0)(ho:Mg.vO o=true)(hm:Mg.Gm d.sn o=true):EF d o=0:=by
 have hq:bV.lM o=0:=of_decide_eq_true ho;have asg:=ji.1 (Mg.ug ho).1;have hcx:=(Mg.aeR ho);unfold Mg.Gm at hm;simp only[Bool.and_eq_true,all_eq_true,decide_eq_true_eq]at hm;obtain⟨h1,h2⟩:=hm;unfold EF;rw[yL h,yL hq,yK (by rw[o8];simp only at asg |-;omega),yL h2,yK];simp only[Bool.not_eq_true,any_eq_false,Bool.not_eq_true'];intro x hx;have:=ji.1 (hcx.qV x hx);have h3:=h1 x hx;have:cZ d.sn x=true:=o8.2 ⟨zO,h3⟩;simp[this]
theorem arS:∀{n:Nat}{W V:List D}{l:List OP}{d:DO},Mg.Inv W V l->F9 d=0->d.sn=V->allA d (Mg.qG Mg.Gm Mg.yR n V l)/\F9 ((Mg.qG Mg.Gm Mg.yR n V l).foldl Bn d)=0/\((Mg.qG Mg.Gm Mg.yR n V l).foldl Bn d).sn=Mg.seen V (Mg.qG Mg.Gm Mg.yR n V l)
 |0,_,_,_,_,_,hc,hs=>⟨yO,hc,hs⟩
 |n+1,W,V,l,d,hi,hc,hs=>by
  unfold Mg.qG;cases e:Mg.pick (Mg.Gm V) l with
  |none=>exact⟨yO,hc,hs⟩
  |some q =>
   obtain⟨o,r⟩:=q;obtain⟨a,b,rfl,rfl,_,h4⟩:=Mg.nM e;have ho:=hi.valid o zS;have h0:=arZ hc ho (hs▸h4);obtain⟨k1,k2⟩:=asB hc ho;have ih:=arS (n:=n) (d:=afQ d o) (hi.step h4) k1 (k2.trans (by rw[hs]));have es:Bn d o=afQ d o:=by unfold Bn;rw[yL h0]
   refine⟨⟨h0,ih.1⟩,?_,?_⟩
   .simp only[foldl_cons,es];exact ih.2.1
   .simp only[foldl_cons,es];exact ih.2.2
def aqM(v:List D):Int:=(v.map (·.2)).sum
theorem aru(f:Nat->Int)(c:Int)(k:Nat):∀n,((List.range n).map fun d=>if k=d then f d+c else f d).sum=((List.range n).map f).sum+if k<n then c else 0
 |0=>zS
 |n+1=>by
  rw[range_succ,map_append,map_append,sum_append,sum_append,aru f c k n];simp only[map_cons,map_nil,sum_cons,sum_nil];by_cases h:k=n
  .subst h;rw[yL rfl,yK (Nat.lt_irrefl _),yL (Nat.lt_succ_self _)];omega
  .rw [yK h];by_cases h2:k<n
   .rw [yL h2,yL zO];omega
   .rw [yK h2,yK zO];omega
theorem arN:∀{v:List D},Ok v->aqM v=((List.range 512).map fun d=>gI ((d:Nat):Int) v).sum
 |[],_=>by
  have:∀n,((List.range n).map fun d=>gI ((d:Nat):Int) ([]:List D)).sum=0:=fun n=>by
   induction n with
   |zero=>rfl
   |succ n ih=>rw[range_succ,map_append,sum_append,ih];rfl
  exact(this 512).symm
 |x::t,h=>by
  have hx:=ji.1 (h.qV x zS);have hp:=pairwise_cons.1 h.sorted;have ht:Ok t:=⟨fun y hy=>h.qV y (by simp[hy]),hp.2⟩;obtain⟨k,hk⟩:∃k:Nat,x.1=(k:Int):=⟨x.1.toNat,zO⟩;have h0:gI x.1 t=0:=u6 fun y hy e=>by have:=hp.1 y hy;omega
  have e:(fun d:Nat=>gI ((d:Nat):Int) (x::t))=fun d:Nat=>if k=d then gI ((d:Nat):Int) t+x.2 else gI ((d:Nat):Int) t:=by
   funext d;show(if x.1=(d:Int)then x.2 else bH.gI (d:Int) t)=_;by_cases q:k=d
   .subst q;rw[yL hk,yL rfl];show x.2=gI (k:Int) t+x.2;rw[<- hk,h0];omega
   .rw [yK q,yK zO]
  rw[e,aru,yL zO,<- arN ht];unfold aqM;rw[map_cons,sum_cons];omega
theorem asC{V:List D}{o:OP}(hV:Ok V)(ho:Mg.vO o=true)(hm:Mg.Gm V o=true):aqM (Mg.yR V o)=aqM V+1:=by
 have asg:=ji.1 (Mg.ug ho).1;simp only at asg;have h2:gI o.dv V=o.sq-1:=by
  unfold Mg.Gm at hm;simp only[Bool.and_eq_true,decide_eq_true_eq]at hm;exact hm.2
 obtain⟨k,hk⟩:∃k:Nat,o.dv=(k:Int):=⟨o.dv.toNat,zO⟩;have e:(fun d:Nat=>gI ((d:Nat):Int) (Mg.yR V o))=fun d:Nat=>if k=d then gI ((d:Nat):Int) V+1 else gI ((d:Nat):Int) V:=by
  funext d;rw[Mg.Em hV ho];by_cases q:k=d
  .subst q;rw[yL hk,yL rfl,<- hk,h2];omega
  .rw [yK q,yK zO]
 rw[arN (Mg.adw hV ho),e,aru,yL zO,<- arN hV]
theorem arT:∀{n:Nat}{W V:List D}{l:List OP},Mg.Inv W V l->aqM (Mg.seen V (Mg.qG Mg.Gm Mg.yR n V l))=aqM V+(Mg.qG Mg.Gm Mg.yR n V l).length
 |0,_,_,_,_=>by simp[Mg.qG,Mg.seen]
 |n+1,W,V,l,hi=>by
  unfold Mg.qG;cases e:Mg.pick (Mg.Gm V) l with
  |none=>simp[Mg.seen]
  |some q =>
   obtain⟨o,r⟩:=q;obtain⟨a,b,rfl,rfl,_,h4⟩:=Mg.nM e;have ho:=hi.valid o zS;have ih:=arT (n:=n) (hi.step h4);have hs:=asC hi.ok ho h4;simp only[Mg.seen,foldl_cons,yE]at ih |-;rw[ih,hs];omega
end Go.Dc
namespace Go.Dc
open Go Go.Am Go.Proofs Go.eY Go.bH
open Go.bV (OP op)
open Go.Mg (dQ dZ aW)
theorem arU:∀{l:List OP}{d:DO},allA d l->∀{k:Nat}(h:k<l.length),EF ((l.take k).foldl Bn d) l[k]=0
 |[],_,_,k,h=>by simp at h
 |o::l,d,⟨a,b⟩,0,_=>a
 |o::l,d,⟨a,b⟩,k+1,h=>by
  have e:Bn d o=afQ d o:=by unfold Bn;rw[yL a]
  have:=arU b (k:=k) (by simpa using h);simpa only[take_succ_cons,foldl_cons,e,getElem_cons_succ]using this
theorem asD{ls l:List OP}(hl:l.length<=10000)(hk:∀o∈l,OkO o)(ha:allA ⟨[],[]⟩ l):∀n k,l.length-k=n->k<=l.length->Rq 0 8 0 (maS ls l k (Gf (l.take k))) (.exit 0) (maX ls l (Gf l)):=by
 intro n
 induction n with
 |zero =>
  intro k h1 h2;rw[take_of_length_le zO];exact asV ls l k zO _ trivial
 |succ n ih =>
  intro k h1 h2;have bg:k<l.length:=zO
  have hm:=hk _ (getElem_mem bg);have nx:=ih (k+1) zO zO;rw[VQ bg]at nx;have hs:=Ug (l.take k) fun o ho=>(hk o (mem_of_mem_take ho)).p;have hc:=agI hs (by rw[length_take];omega) hm.n hm.p hm.c;rw[show EF (Gf (l.take k)) l[k]=0 from arU ha bg]at hc;exact asU ls l l[k] k zO zO (yA bg) _ _ hc _ _ nx
theorem arj{v:List D}{k:Nat}(h:k<v.length):aqM (v.take (k+1))=aqM (v.take k)+v[k].2:=by
 unfold aqM;rw[<- take_append_getElem h,map_append,sum_append];simp
theorem arV{v:List D}(hv:Ok v):∀k,0<=aqM (v.take k)/\aqM (v.take k)<=(k:Int)*1048576
 |0=>by simp[aqM]
 |k+1=>by
  have ih:=arV hv k;by_cases h:k<v.length
  .have:=ji.1 (hv.qV _ (getElem_mem h));rw[arj h];omega
  .rw [take_of_length_le zO]at ih |-;omega
theorem asE{l:List OP}{d:DO}(hn:d.sn.length<=900)(hv:Ok d.sn):∀n k,d.sn.length-k=n->k<=d.sn.length->Rq 0 8 1 (mbS l k (aqM (d.sn.take k)) d) (.exit 2) (mbX l (aqM d.sn) d):=by
 intro n
 induction n with
 |zero =>
  intro k h1 h2;rw[take_of_length_le zO];exact asX l _ k d zO zO trivial
 |succ n ih =>
  intro k h1 h2;have bg:k<d.sn.length:=zO
  have hd:=ji.1 (hv.qV _ (getElem_mem bg));have hs:=arV hv k;have nx:=ih (k+1) zO zO;rw[arj bg]at nx;exact asW l _ d.sn[k].1 d.sn[k].2 k d zO zO (yA bg) zO zO zO zO _ _ nx
theorem asF{l:List OP}{d:DO}{m:Int}(hl:l.length<=10000)(hn:d.sn.length<=900)(hc:∀o∈l,cZ d.sn (o.dv,o.sq)=true):∀n k,l.length-k=n->k<=l.length->Rq 0 8 2 (mcS l k m d) (.exit 4) (mcX l m d):=by
 intro n
 induction n with
 |zero=>exact fun k h1 h2=>asZ l m k d zO trivial
 |succ n ih =>
  intro k h1 h2;have bg:k<l.length:=zO
  have c:=jX d.sn l[k].dv l[k].sq zO;rw[hc _ (getElem_mem bg)]at c;exact asY l l[k] m k d zO zO (yA bg) c _ _ (ih (k+1) zO zO)
end Go.Dc
namespace Go.Mg
open Go Go.Am Go.Proofs Go.eY Go.bH Go.yU Go.bV
theorem ari{ls:List OP}(hp:∀o∈ls,Fw o)(hl:ls.length<=9223372036854775807):Cq 8 [dQ ls] (Am.bool true):=by
 rcases KU 14 hp hl with h1|⟨h1,k1,g1⟩
 .exact Dc.as0 ls I8 h1 trivial
 have gu:=EM g1;have lu:=GV ls;have lr:(GR (kK ls)).length<=(kK ls).length:=uX;have hR:=qH (GX ls zO g1);have hD:=KT zO g1;have k:=R3 g1;have er:=adx (AQ g1) (I6 g1);have hi:=inv0 (AQ g1) (I6 g1);have ha:=Dc.arS (n:=(kK ls).length) (d:=⟨[],[]⟩) hi rfl rfl;have hs:=Dc.arT (n:=(kK ls).length) hi;rw[<- er]at ha hs;have gr:rZ (GR (kK ls)):=fun o ho=>gu o (k.sub o ho);have sm:=Dc.Ug (GR (kK ls)) fun o ho=>(gr o ho).1;have hd:=Dc.ZY _ (sm.dim zO).1;have hn:=sm.sn;have es:(Dc.Gf (GR (kK ls))).sn=seen [] (GR (kK ls)):=ha.2.2;have hv:Ok (Dc.Gf (GR (kK ls))).sn:=es▸k.ok;have hk:∀o∈GR (kK ls),Dc.OkO o:=fun o ho=>agO (gr o ho);have h0:=Dc.asD (ls:=ls) zO hk ha.1 _ 0 rfl yN;have h2:=Dc.asE (l:=GR (kK ls)) zO hv _ 0 rfl yN;have hc:∀o∈GR (kK ls),cZ (Dc.Gf (GR (kK ls))).sn (o.dv,o.sq)=true:=fun o ho=>by
  have:=ji.1 (ug (AQ g1 o (k.sub o ho))).1;rw[es];exact Dc.o8.2 ⟨this.2.2.1,k.cov o ho⟩
 have h3:=Dc.asF (m:=Dc.aqM (Dc.Gf (GR (kK ls))).sn) zO zO hc _ 0 rfl yN;have e:Dc.aqM (Dc.Gf (GR (kK ls))).sn=((GR (kK ls)).length:Int):=by
  rw[es,hs];simp[Dc.aqM]
 refine Dc.as1 ls _ _ _ e zO I8 h1 hR ?_ hD hd h2 h3 (by rw[e];exact beq_self_eq_true _);refine bN.ZX (b:=0) (j:=0) (cells:=[aK,aK]) rfl rfl (aF.nil 2) ?_;exact bN.ZX (b:=0) (j:=1) (cells:=[bB [],aK]) rfl rfl (aF.nil 7) h0
end Go.Mg
