import Derived.Test.YtihbnnkcemjflaaGreatDoorG6
set_option maxRecDepth 100000
set_option linter.unusedSimpArgs false
set_option linter.unusedVariables false
open List
noncomputable section
namespace Go.Dc
open Go Go.Am Go.Proofs Go.eY Go.bH
theorem VL(v:List Bd.BE)(c:List D)(k:yP):(Bd.CZ v c k).1.length<=v.length:=by
 unfold Bd.CZ;split
 .split
  .exact (Bd.zF v c k).length_le
  .exact Nat.zero_le _
 .exact Nat.zero_le _
theorem ZQ(v:List Bd.BE)(c:List D)(b:Bd.BE):(Bd.OB v c b).1.length<=v.length+1:=by
 unfold Bd.OB;split
 .split
  .split
   .have h:=(Bd.VJ b (Bd.rest v c b.ky)).length_eq;have:=(Bd.zF v c b.ky).length_le;simp only[yE]at h;show(Bd.VI b (Bd.rest v c b.ky)).length<=v.length+1;omega
   .exact Nat.zero_le _
  .exact Nat.zero_le _
 .exact Nat.zero_le _
structure yu(n:Nat)(f:FD):Prop where
 ce:f.ce.length<=n
 bi:f.bi.length<=n
 ta:f.ta.length<=n
theorem yu.mono{n m:Nat}{f:FD}(h:yu n f)(hm:n<=m):yu m f:=⟨by have:=h.ce;omega,by have:=h.bi;omega,by have:=h.ta;omega⟩
theorem acM{n:Nat}{o:bV.OP}{f:FD}(h:yu n f):yu (n+1) (ef1 o f):=by
 unfold ef1;split
 .exact ⟨by have:=Sq.Ib f.ce (KD o);have:=h.ce;show(Sq.rU f.ce (KD o)).length<=n+1;omega,by have:=h.bi;show f.bi.length<=n+1;omega,by have:=h.ta;show f.ta.length<=n+1;omega⟩
 .exact h.mono zO
theorem acN{n:Nat}{o:bV.OP}{f:FD}(h:yu n f):yu (n+1) (ef2 o f):=by
 unfold ef2;split
 .exact ⟨by have:=Sq.Yn f.ce o.f1 o.f2 o.f3;have:=h.ce;show(Sq.Ez f.ce o.f1 o.f2 o.f3).length<=n+1;omega,by have:=h.bi;show f.bi.length<=n+1;omega,by have:=h.ta;show f.ta.length<=n+1;omega⟩
 .exact h.mono zO
theorem acO{n:Nat}{o:bV.OP}{f:FD}(h:yu n f):yu (n+1) (ef3 o f):=by
 unfold ef3;split
 .exact ⟨by have:=h.ce;show f.ce.length<=n+1;omega,by have:=ZQ f.bi (Q5 o) ⟨o.ky,o.dv,o.sq,o.tm,o.vl⟩;have:=h.bi;show(Bd.OB f.bi (Q5 o) ⟨o.ky,o.dv,o.sq,o.tm,o.vl⟩).1.length<=n+1;omega,by have:=h.ta;show f.ta.length<=n+1;omega⟩
 .exact h.mono zO
theorem acP{n:Nat}{o:bV.OP}{f:FD}(h:yu n f):yu (n+1) (ef4 o f):=by
 unfold ef4;split
 .exact ⟨by have:=h.ce;show f.ce.length<=n+1;omega,by have:=VL f.bi (Q5 o) o.ky;have:=h.bi;show(Bd.CZ f.bi (Q5 o) o.ky).1.length<=n+1;omega,by have:=h.ta;show f.ta.length<=n+1;omega⟩
 .exact h.mono zO
theorem acQ{n:Nat}{o:bV.OP}{f:FD}(h:yu n f):yu (n+1) (ef5 o f):=by
 unfold ef5;split
 .exact ⟨by have:=h.ce;show f.ce.length<=n+1;omega,by have:=h.bi;show f.bi.length<=n+1;omega,by have:=YD f.ta o.dv o.sq o.n;have:=h.ta;show(OJ f.ta o.dv o.sq o.n).1.length<=n+1;omega⟩
 .exact h.mono zO
theorem I5{n:Nat}{f:FD}{r:Tx.TE×Int}(h:yu n f):yu n (MB f r):=by
 unfold MB;split
 .exact ⟨h.ce,h.bi,h.ta⟩
 .exact h
theorem acR{n:Nat}{o:bV.OP}{f:FD}(h:yu n f):yu (n+1) (Gc o f):=by
 unfold Gc;split
 .exact acM h
 split
 .exact acN h
 split
 .exact acO h
 split
 .exact acP h
 split
 .exact acQ h
 split
 .exact (I5 h).mono zO
 split
 .exact (I5 h).mono zO
 .exact (I5 h).mono zO
structure agA(n:Nat)(d:DO):Prop where
 fs:d.fs.length<=n
 all:∀f∈d.fs,yu n f
theorem VN{n:Nat}{d:DO}{o:bV.OP}(h:agA n d):agA (n+1) (Bn d o):=by
 unfold Bn;split
 .refine ⟨?_,fun f hf=>?_⟩
  .have:=YE (cO o) (Gc o) o d.fs;have:=h.fs;show(Ig (cO o) (Gc o) o d.fs).length<=n+1;omega
  .rcases OQ hf with hf|⟨y,hy,rfl⟩
   .exact (h.all f hf).mono zO
   .refine acR ?_;rcases hy with hy|rfl
    .exact h.all y hy
    .exact ⟨Nat.zero_le _,Nat.zero_le _,Nat.zero_le _⟩
 .exact ⟨Nat.zero_le _,fun f hf=>by cases hf⟩
theorem GA{l:List Sq.CE}{c:Sq.CE}(h:Sq.kQ l)(hc:Sq.Cu c):Sq.kQ (Sq.rU l c):=by
 unfold Sq.rU;split
 .exact fun _ h=>by cases h
 .split
  .exact fun _ h=>by cases h
  .exact (h.HV hc).ord
theorem agB{o:bV.OP}{f:FD}(ho:bV.Fw o)(h:Sq.kQ f.ce):Sq.kQ (ef1 o f).ce:=by
 unfold ef1;split
 .exact GA h (aec ho)
 .exact h
theorem acS{l:List Sq.CE}{a b c:Int}(h:Sq.kQ l):Sq.kQ (Sq.Ez l a b c):=by
 unfold Sq.Ez;split
 .exact fun _ h=>by cases h
 .split
  .rename_i j _;intro x hx;obtain⟨i,hi,rfl⟩:=mem_iff_getElem.1 hx;unfold Sq.mY at hi |-;rw[length_modify]at hi;have:=h _ (getElem_mem hi);rw[getElem_modify];split
   .exact this
   .exact this
  .exact fun _ h=>by cases h
theorem agC{o:bV.OP}{f:FD}(h:Sq.kQ f.ce):Sq.kQ (ef2 o f).ce:=by
 unfold ef2;split
 .exact acS h
 .exact h
theorem VO{l:List Sq.CE}{j:Nat}(h:Sq.kQ l):Sq.kQ (Sq.mY l j):=fun x hx=>by
 obtain⟨i,hi,rfl⟩:=mem_iff_getElem.1 hx;unfold Sq.mY at hi |-;rw[length_modify]at hi;have:=h _ (getElem_mem hi);rw[getElem_modify];split
 .exact this
 .exact this
theorem Uf{a b c:Int}:∀{n k:Nat}{l r:List Sq.CE},Tx.vY a b c n k l=some r->Sq.kQ l->Sq.kQ r
 |0,_,_,_,h,ho=>by simp only[Tx.vY,Option.some.injEq]at h;exact h▸ho
 |n+1,k,l,r,h,ho=>by
  rw[Tx.vY]at h;split at h
  .exact Uf h (VO ho)
  .cases h
theorem ZR{dv sq tm:Int}{s:yP}(h1:Sq.fO dv)(h2:Sq.fO sq):∀(n k:Nat)(i:Sq.ID)(l:List Sq.CE),k+n<=64->Sq.fO i.1->Sq.fO i.2.1->Sq.fO i.2.2->Sq.kQ l->(Tx.TI dv sq tm s n k i l).1.length<=l.length+n/\Sq.kQ (Tx.TI dv sq tm s n k i l).1
 |0,_,_,_,_,_,_,_,h=>⟨Nat.le_refl _,h⟩
 |n+1,k,i,l,hk,a,b,c,h=>by
  rw[Tx.TI];split
  .exact ⟨Nat.zero_le _,nofun⟩
  .have hq:Sq.fO (k:Int):=by unfold Sq.fO;omega
   obtain⟨p,q⟩:=ZR h1 h2 n (k+1) (dv,sq,(k:Int)) (Sq.rU l (Tx.U9 dv sq tm k i s)) zO h1 h2 hq (GA h ⟨⟨h1,h2,hq⟩,a,b,c⟩);exact⟨by have:=Sq.Ib l (Tx.U9 dv sq tm k i s);omega,q⟩
structure Bg(n m:Nat)(t:Tx.TE):Prop where
 tc:t.cells.length<=n
 tm:t.bQ.length<=m
 ok:Tx.OkT t
theorem Nh(n m:Nat):Bg n m Tx.zT:=⟨Nat.zero_le _,Nat.zero_le _,⟨(fun _ h=>by cases h),(fun _ h=>by cases h)⟩⟩
theorem agD{n m:Nat}{t:Tx.TE}{dv sq tm:Int}{i:Sq.ID}{s:yP}(h1:Sq.fO dv)(h2:Sq.fO sq)(a:Sq.fO i.1)(b:Sq.fO i.2.1)(c:Sq.fO i.2.2)(h:Bg n m t):Bg (n+64) (m+1) (Tx.Ve t dv sq tm i s).1:=by
 unfold Tx.Ve;split
 .exact Nh _ _
 split
 .exact Nh _ _
 .rename_i hs;obtain⟨p,q⟩:=ZR (s:=s) (tm:=tm) h1 h2 s.size 0 i t.cells zO a b c h.ok.cells;have:=h.tc;split
  .exact ⟨by show(Tx.TI dv sq tm s s.size 0 i t.cells).1.length<=_;omega,Nat.le_succ_of_le h.tm,⟨q,h.ok.bQ⟩⟩
  .exact Nh _ _
theorem agE{n m:Nat}{t:Tx.TE}{i:Sq.ID}{k:Int}(h:Bg n m t):Bg (n+64) (m+1) (Tx.Vg t i k).1:=by
 unfold Tx.Vg;split
 .exact Nh _ _
 split
 .exact Nh _ _
 split
 .rename_i l hl;have:=h.tc;exact⟨by have:=Tx.Ie hl;show l.length<=_;omega,Nat.le_succ_of_le h.tm,⟨Uf hl h.ok.cells,h.ok.bQ⟩⟩
 .exact Nh _ _
theorem agF{n m:Nat}{t:Tx.TE}{x:Tx.MK}(hx:Tx.OkM x)(h:Bg n m t):Bg (n+64) (m+1) (Tx.Vk t x).1:=by
 unfold Tx.Vk;split
 .exact Nh _ _
 split
 .exact Nh _ _
 split
 .exact Nh _ _
 .have:=Tx.Mv x t.bQ;have h2:=h.tm;refine⟨Nat.le_trans h.tc zO,?_,⟨h.ok.cells,fun y hy=>?_⟩⟩
  .simp;omega
  .simp only[yI,mem_singleton]at hy;rcases hy with(hy|rfl)|hy
   .exact h.ok.bQ y (mem_of_mem_take hy)
   .exact hx
   .exact h.ok.bQ y (mem_of_mem_drop hy)
theorem RZ{n m:Nat}{f:FD}{r:Tx.TE×Int}(h:Bg n m (Gb f))(hr:Bg (n+64) (m+1) r.1):Bg (n+64) (m+1) (Gb (MB f r)):=by
 unfold MB;split
 .exact hr
 .exact ⟨Nat.le_trans h.tc zO,Nat.le_succ_of_le h.tm,h.ok⟩
theorem akX{o:bV.OP}(h:bV.Fw o):Tx.OkM (mkO o):=⟨h.dv,h.sq,h.tm,h.f1,h.f2,h.f3,h.t1,h.t2,h.t3,h.n⟩
theorem agG(o:bV.OP)(f:FD):Gb (ef1 o f)=Gb f:=by grind[ef1]
theorem agH(o:bV.OP)(f:FD):Gb (ef2 o f)=Gb f:=by grind[ef2]
theorem ZT(o:bV.OP)(f:FD):Gb (ef3 o f)=Gb f/\(ef3 o f).ce=f.ce:=by grind[ef3]
theorem ZU(o:bV.OP)(f:FD):Gb (ef4 o f)=Gb f/\(ef4 o f).ce=f.ce:=by grind[ef4]
theorem ZV(o:bV.OP)(f:FD):Gb (ef5 o f)=Gb f/\(ef5 o f).ce=f.ce:=by grind[ef5]
theorem Ni(f:FD)(r:Tx.TE×Int):(MB f r).ce=f.ce:=by grind[MB]
theorem Bg.up{n m:Nat}{t:Tx.TE}(h:Bg n m t):Bg (n+64) (m+1) t:=⟨Nat.le_trans h.tc zO,Nat.le_succ_of_le h.tm,h.ok⟩
theorem aeA{n m:Nat}{o:bV.OP}{f:FD}(ho:bV.Fw o)(h:Bg n m (Gb f))(hc:Sq.kQ f.ce):Bg (n+64) (m+1) (Gb (Gc o f))/\Sq.kQ (Gc o f).ce:=by
 unfold Gc;split
 .exact ⟨agG o f▸h.up,agB ho hc⟩
 split
 .exact ⟨agH o f▸h.up,agC hc⟩
 split
 .exact ⟨(ZT o f).1▸h.up,(ZT o f).2▸hc⟩
 split
 .exact ⟨(ZU o f).1▸h.up,(ZU o f).2▸hc⟩
 split
 .exact ⟨(ZV o f).1▸h.up,(ZV o f).2▸hc⟩
 split
 .exact ⟨RZ h (agD ho.dv ho.sq ho.f1 ho.f2 ho.f3 h),by unfold ef6;rw[Ni];exact hc⟩
 split
 .grind [RZ,agE,ef7,Ni]
 .grind [RZ,agF,akX,ef8,Ni]
theorem VP(v:List D)(x:D):(uK v [x]).length<=v.length+1:=by
 unfold uK;split
 .exact KE _ _
 .exact Nat.zero_le _
structure SmD(n:Nat)(d:DO):Prop where
 few:agA n d
 sn:d.sn.length<=n
 tx:∀f∈d.fs,Bg (64*n) n (Gb f)/\Sq.kQ f.ce
theorem aeB(n:Nat):SmD n ⟨[],[]⟩:=⟨⟨Nat.zero_le _,nofun⟩,Nat.zero_le _,nofun⟩
theorem ZW{n:Nat}{d:DO}{o:bV.OP}(ho:bV.Fw o)(h:SmD n d):SmD (n+1) (Bn d o):=by
 refine⟨VN h.few,?_,?_⟩
 .unfold Bn;split
  .have:=VP d.sn (o.dv,o.sq);have:=h.sn;show(uK d.sn [(o.dv,o.sq)]).length<=n+1;omega
  .exact Nat.zero_le _
 .unfold Bn;have e:64*(n+1)=64*n+64:=zO
  rw[e];split
  .intro f hf;rcases OQ hf with hf|⟨y,hy,rfl⟩
   .exact ⟨(h.tx f hf).1.up,(h.tx f hf).2⟩
   .rcases hy with hy|rfl
    .exact aeA ho (h.tx y hy).1 (h.tx y hy).2
    .exact aeA ho ⟨Nat.zero_le _,Nat.zero_le _,(Yx o).tx⟩ (Yx o).ce
  .simp
theorem Pw:∀(l:List bV.OP){n:Nat}{d:DO},(∀o∈l,bV.Fw o)->SmD n d->SmD (n+l.length) (l.foldl Bn d)
 |[],_,_,_,h=>h
 |o::l,n,d,hl,h=>by
  have:=Pw l (fun x hx=>hl x (yF _ hx)) (ZW (hl o zS) h);rw[foldl_cons,yE,show n+(l.length+1)=n+1+l.length by omega];exact this
theorem Ug(l:List bV.OP)(hl:∀o∈l,bV.Fw o):SmD l.length (Gf l):=by
 have:=Pw l hl (aeB 0);rwa[Nat.zero_add]at this
theorem SmD.dim{n:Nat}{d:DO}(h:SmD n d)(hn:n<=10000):Dim d/\∀x∈d.fs,x.ce.length<=999999:=by
 refine⟨⟨by have:=h.sn;omega,by have:=h.few.fs;omega,fun f hf=>?_,fun f hf=>?_⟩,fun f hf=>by have:=(h.few.all f hf).ce;omega⟩
 .have a:=h.few.all f hf;have b:=(h.tx f hf).1;have h1:=a.ce;have h2:=a.bi;have h3:=a.ta;have h4:f.tc.length<=64*n:=b.tc;have h5:f.tm.length<=n:=b.tm;exact⟨zO,zO,zO,zO,zO⟩
 .have b:=h.tx f hf;have h4:f.tc.length<=64*n:=b.1.tc;have h5:f.tm.length<=n:=b.1.tm;exact⟨b.2,b.1.ok,⟨by show f.tc.length<=_;omega,by show f.tm.length<=_;omega⟩⟩
theorem agI{n:Nat}{d:DO}{o:bV.OP}(h:SmD n d)(hn:n<=10000)(hk:bV.Okn o)(ho:bV.Fw o)(hc:o.cx.length<=1000000) :
 Cq 27 [kI d,bV.op o] (.bq [kI (Bn d o),int (EF d o)]):=by
 obtain⟨a,b⟩:=h.dim hn;have k:=Vl a hk ho hc b;unfold Bn;by_cases e:EF d o=0
 .grind
 .rw [yK e]at k |-;exact k.out (aF.iM ⟨aF.qo ⟨aF.nil 2,aF.nil 7,yO⟩,aF.refl _,yO⟩)
end Go.Dc
namespace Go.Am
open Go
section
variable {P:Program} {G:Nat->Option (List AV)}
theorem Px{V:View}{b j:Nat}{cells:List AV}{x y:AV}(hG:aD G V)(hb:V.H[b]?=some (.box cells))(hj:cells[j]?=some x)(hxy:aF x y):∃V':View,V'.w=V.w/\V'.H=V.H.set b (.box (cells.set j y))/\Step V V'/\aD G V':=by
 obtain⟨t,vs,h1,h2⟩:=hG.eP b _ hb;have JN:=(yC.1 hj).1;have hx:dI V x (vs.getD j undef):=by
  have:=h2.2 j JN;rwa[show cells.getD j .aP=x by rw[yB,hj];rfl]at this
 have hr:bR V (cells.set j y) vs:=by
  have:=h2.set j (hxy V _ hx);have e:vs.set j (vs.getD j undef)=vs:=by
   apply ext_getElem?;intro i;rw[getElem?_set];split
   .rename_i e;subst e;have:j<vs.length:=by rw[h2.1];exact JN
    rw[yL this,yB,yA this];rfl
   .rfl
  rwa[e]at this
 obtain⟨V2,l1,l2,l3,l4⟩:=wE (eP:=.box cells) (ou:=.box (cells.set j y)) (w':=V.w) hG hb rfl h1 h1 rfl (fun _ _=>rfl) rfl rfl rfl rfl trivial (fun V' hw hs=>⟨t,vs,by rw[hw];exact h1,hr.step hs⟩);exact⟨V2,l1,l2,l3,l4⟩
theorem bN.ZX{r:Option Nat}{n0:Nat}{c:Code}{s s':St}{ex:bF}{b j:Nat}{cells:List AV}{x y:AV}(hb:s.H[b]?=some (.box cells))(hj:cells[j]?=some x)(hxy:aF x y)(h:bN P G r n0 c { aL:=s.aL,H:=s.H.set b (.box (cells.set j y)),dh:=s.dh } ex s'):bN P G r n0 c s ex s':=fun V0 V a h0 k1 k2 k3=>by
 obtain⟨V2,a1,a2,a3,a4⟩:=Px k2 (k3.H▸hb) hj hxy;rw[<- a1];exact h V0 V2 a h0 (k1.trans a3) a4 ⟨k3.aL.step a3,by rw[a2,k3.H],k3.dh.step a3⟩
end
end Go.Am
namespace Go.Dc
open Go Go.Am Go.Proofs Go.eY Go.bH
open Go.bV (OP op)
open Go.Mg (dQ dZ aW)
def mdS(l:List OP)(i:Nat)(d:DO):St:={ aL:=aC 20 [(2,.ptr 0 0),(6,dQ l),(7,int l.length),(8,int i)],H:=[.box [bB d.sn,Md d.fs]] }
def mdZ(l:List OP):St:={ aL:=aC 20 [(2,.ptr 0 0),(6,dQ l),(7,int l.length),(8,int (0:Nat))],H:=[.box [aK,aK]] }
def mdX(d:DO):St:={ aL:=aC 20 [(2,.ptr 0 0)],H:=[.box [bB d.sn,Md d.fs]] }
theorem an4(l:List OP)(o:OP)(i:Nat)(hl:l.length<=1000000)(hi:(i:Int)<(l.length:Int))(hx:l[i]?=some o)(d y:DO)(e:Int)(hA:Cq 27 [kI d,op o] (.bq [kI y,int e]))(ex:bF)(s':St)(h:Rq 0 25 0 (sM 20 [(2,.ptr 0 0),(6,dQ l),(7,int ↑l.length),(8,int ↑(i+1))] [.box [bB y.sn,.sl 7 false (dA y.fs)]]) ex s'):Rq 0 25 0 (mdS l i d) ex s':=by
 exact aJ [ki ((i:Int)<l.length),ke (bV.jy o) (dZ l) i (bG hx),kc [] hA,kW 18 (i+1) ↑(i+1)] (aB 20 [2,6,7,8]) 1 h
theorem an5(l:List OP)(i:Nat)(hi:¬(i:Int)<(l.length:Int))(d:DO)(h:True):Rq 0 25 0 (mdS l i d) (bF.exit 0) (mdX d):=by
 have _:=h;exact aG [kj ((i:Int)<l.length)] (aB 20 [2]) 1
theorem an6(ls l:List OP)(d:DO)(hR:Cq 16 [dQ ls] (dQ l))(hL:Rq 0 25 0 (mdZ l) (.exit 0) (mdX d))(h:True):Cq 25 [dQ ls] (kI d):=by
 have _:=h;exact aj [kc [] hR,kN 7 (Go.Mg.aW l),kl (rG [(0,2),(3,3),(9,11)]) 1 hL]
end Go.Dc
namespace Go.Dc
open Go Go.Am Go.Proofs Go.eY Go.bH
def ta0(a:List TL)(k:Nat):St:={ aL:=aC 26 [(0,mF a),(1,mF a),(4,Am.bool false),(5,int k)],H:=[] }
theorem an7(a:List TL)(k:Nat)(x:TL)(hv:a.length<=1000000000)(hk:(k:Int)<(a.length:Int))(hx:a[k]?=some x)(ex:bF)(s':St)(h:((((x.1==x.1&&(Prod.fst x.2==Prod.fst x.2&&Prod.snd x.2==Prod.snd x.2))=true)->Rq 0 79 0 (sM 26 [(0,.sl 3 false (lH a)),(1,.sl 3 false (lH a)),(4,Am.bool false),(5,int ↑(k+1))] []) ex s')/\(((x.1==x.1&&(Prod.fst x.2==Prod.fst x.2&&Prod.snd x.2==Prod.snd x.2))=false)->(bF.ret=ex)/\(sM 26 [(4,Am.bool false)] []=s')))):Rq 0 79 0 (ta0 a k) ex s':=by
 have jw:(0:Int)<=(k:Int)/\(lH a)[Int.toNat (k:Int)]?=some (ze x):=(bG hx);let l1:List fP:=[kN 13 (dP a),ki ((k:Int)<a.length),ko (bC.elem (ze x)),ko (bC.elem (ze x)),kp jw,kp jw];rcases Bool.eq_false_or_eq_true ((x.1==x.1&&(Prod.fst x.2==Prod.fst x.2&&Prod.snd x.2==Prod.snd x.2)))with c2|c2
 .have h:=h.1 c2;exact aJ (l1++[kf (yJ Bool.not (c2)),kW 16 (k+1) ↑(k+1)]) (aB 26 [0,1,4,5]) 0 h
 .have h:=h.2 c2;obtain⟨eX,eS⟩:=h;exact bN.to ((aG (l1++[kt (show(!(x.1==x.1&&(Prod.fst x.2==Prod.fst x.2&&Prod.snd x.2==Prod.snd x.2)))=true from(yJ Bool.not (c2)))]) (aB 26 [4]) 0)) eX (eB.of_eq eS)
theorem an8(a:List TL)(k:Nat)(hk:¬(k:Int)<(a.length:Int))(h:True):Rq 0 79 0 (ta0 a k) (bF.exit 0) (sM 26 [(4,Am.bool false)] []):=by
 exact aG [kN 13 (dP a),kj ((k:Int)<a.length)] (aB 26 [4]) 0
theorem an9(a:List TL)(hL:Rq 0 79 0 (ta0 a 0) (.exit 0) { aL:=aC 26 [(4,Am.bool false)],H:=[] })(h:True):Cq 79 [mF a,mF a] (Am.bool true):=by
 have bS:=lU (dP a);exact aj [kv 7 bS,kv 9 bS,kf (show((a.length:Int)!=(a.length:Int))=false from(yJ Bool.not (qT zO))),kl (rG [(2,2),(6,20)]) 0 hL]
def sc0(a:List Sq.CE)(k:Nat):St:={ aL:=aC 26 [(0,Sq.bZ a),(1,Sq.bZ a),(4,Am.bool false),(5,int k)],H:=[] }
theorem aoa(a:List Sq.CE)(k:Nat)(x:Sq.CE)(hv:a.length<=1000000000)(hk:(k:Int)<(a.length:Int))(hx:a[k]?=some x)(ex:bF)(s':St)(h:((((x.dv==x.dv&&(x.sq==x.sq&&(x.gU==x.gU&&(x.ad==x.ad&&(x.j6==x.j6&&(x.aa==x.aa&&(x.tm==x.tm&&(x.vl==x.vl&&x.gn==x.gn))))))))=true)->Rq 0 105 0 (sM 26 [(0,.sl 9 false (Sq.au a)),(1,.sl 9 false (Sq.au a)),(4,Am.bool false),(5,int ↑(k+1))] []) ex s')/\(((x.dv==x.dv&&(x.sq==x.sq&&(x.gU==x.gU&&(x.ad==x.ad&&(x.j6==x.j6&&(x.aa==x.aa&&(x.tm==x.tm&&(x.vl==x.vl&&x.gn==x.gn))))))))=false)->(bF.ret=ex)/\(sM 26 [(4,Am.bool false)] []=s')))):Rq 0 105 0 (sc0 a k) ex s':=by
 have jw:(0:Int)<=(k:Int)/\(Sq.au a)[Int.toNat (k:Int)]?=some (Sq.aQ x):=(bG hx);let l1:List fP:=[kv 13 (show Am.aF (int (↑(length (Sq.au a)):Int)) (int ↑a.length)from(aF.of_eq (by simp only[Go.Sq.ay]))),ki ((k:Int)<a.length),ko (bC.elem (Sq.aQ x)),ko (bC.elem (Sq.aQ x)),kp jw,kp jw];rcases Bool.eq_false_or_eq_true ((x.dv==x.dv&&(x.sq==x.sq&&(x.gU==x.gU&&(x.ad==x.ad&&(x.j6==x.j6&&(x.aa==x.aa&&(x.tm==x.tm&&(x.vl==x.vl&&x.gn==x.gn)))))))))with c2|c2
 .have h:=h.1 c2;exact aJ (l1++[kf (yJ Bool.not (c2)),kW 16 (k+1) ↑(k+1)]) (aB 26 [0,1,4,5]) 0 h
 .have h:=h.2 c2;obtain⟨eX,eS⟩:=h;exact bN.to ((aG (l1++[kt (show(!(x.dv==x.dv&&(x.sq==x.sq&&(x.gU==x.gU&&(x.ad==x.ad&&(x.j6==x.j6&&(x.aa==x.aa&&(x.tm==x.tm&&(x.vl==x.vl&&x.gn==x.gn)))))))))=true from(yJ Bool.not (c2)))]) (aB 26 [4]) 0)) eX (eB.of_eq eS)
theorem aob(a:List Sq.CE)(k:Nat)(hk:¬(k:Int)<(a.length:Int))(h:True):Rq 0 105 0 (sc0 a k) (bF.exit 0) (sM 26 [(4,Am.bool false)] []):=by
 exact aG [kv 13 (show Am.aF (int (↑(length (Sq.au a)):Int)) (int ↑a.length)from(aF.of_eq (by simp only[Go.Sq.ay]))),kj ((k:Int)<a.length)] (aB 26 [4]) 0
theorem aoc(a:List Sq.CE)(hL:Rq 0 105 0 (sc0 a 0) (.exit 0) { aL:=aC 26 [(4,Am.bool false)],H:=[] })(h:True):Cq 105 [Sq.bZ a,Sq.bZ a] (Am.bool true):=by
 have bS:Am.aF (int (↑(length (Sq.au a)):Int)) (int ↑a.length):=(aF.of_eq (by simp only[Go.Sq.ay]));exact aj [kv 7 bS,kv 9 bS,kf (show((a.length:Int)!=(a.length:Int))=false from(yJ Bool.not (qT zO))),kl (rG [(2,2),(6,20)]) 0 hL]
abbrev sxB(t:Tx.TE):List ah:=[.box [Sq.bZ t.cells,Tx.oI t.bQ],.box [Sq.bZ t.cells,Tx.oI t.bQ]]
def sx0(t:Tx.TE)(k:Nat):St:={ aL:=aC 39 [(2,.ptr 0 0),(3,.ptr 1 0),(4,Am.bool false),(5,int k)],H:=sxB t }
theorem aod(t:Tx.TE)(k:Nat)(x:Tx.MK)(hv:t.bQ.length<=1000000000)(hk:(k:Int)<(t.bQ.length:Int))(hx:t.bQ[k]?=some x)(ex:bF)(s':St)(h:((((x.dv==x.dv&&(x.sq==x.sq&&(x.tm==x.tm&&(x.fd==x.fd&&(x.fs==x.fs&&(x.fa==x.fa&&(x.td==x.td&&(x.ts==x.ts&&(x.ta==x.ta&&(x.st==x.st&&x.on==x.on))))))))))=true)->Rq 0 80 0 (sM 39 [(2,.ptr 0 0),(3,.ptr 1 0),(4,Am.bool false),(5,int ↑(k+1))] [.box [.sl 9 false (Sq.au t.cells),.sl 11 false (Tx.au t.bQ)],.box [.sl 9 false (Sq.au t.cells),.sl 11 false (Tx.au t.bQ)]]) ex s')/\(((x.dv==x.dv&&(x.sq==x.sq&&(x.tm==x.tm&&(x.fd==x.fd&&(x.fs==x.fs&&(x.fa==x.fa&&(x.td==x.td&&(x.ts==x.ts&&(x.ta==x.ta&&(x.st==x.st&&x.on==x.on))))))))))=false)->(bF.ret=ex)/\(sM 39 [(4,Am.bool false)] [.box [.sl 9 false (Sq.au t.cells),.sl 11 false (Tx.au t.bQ)],.box [.sl 9 false (Sq.au t.cells),.sl 11 false (Tx.au t.bQ)]]=s')))):Rq 0 80 0 (sx0 t k) ex s':=by
 have jw:(0:Int)<=(k:Int)/\(Tx.au t.bQ)[Int.toNat (k:Int)]?=some (Tx.aQ x):=(bG hx);let l1:List fP:=[kv 24 (show Am.aF (int (↑(length (Tx.au t.bQ)):Int)) (int ↑(length t.bQ))from(aF.of_eq (by simp only[Go.Tx.ay]))),ki ((k:Int)<(↑(length t.bQ):Int)),ko (bC.elem (Tx.aQ x)),ko (bC.elem (Tx.aQ x)),kp jw,kp jw];rcases Bool.eq_false_or_eq_true ((x.dv==x.dv&&(x.sq==x.sq&&(x.tm==x.tm&&(x.fd==x.fd&&(x.fs==x.fs&&(x.fa==x.fa&&(x.td==x.td&&(x.ts==x.ts&&(x.ta==x.ta&&(x.st==x.st&&x.on==x.on)))))))))))with c2|c2
 .have h:=h.1 c2;exact aJ (l1++[kf (yJ Bool.not (c2)),kW 27 (k+1) ↑(k+1)]) (aB 39 [2,3,4,5]) 2 h
 .have h:=h.2 c2;obtain⟨eX,eS⟩:=h;exact bN.to ((aG (l1++[kt (show(!(x.dv==x.dv&&(x.sq==x.sq&&(x.tm==x.tm&&(x.fd==x.fd&&(x.fs==x.fs&&(x.fa==x.fa&&(x.td==x.td&&(x.ts==x.ts&&(x.ta==x.ta&&(x.st==x.st&&x.on==x.on)))))))))))=true from(yJ Bool.not (c2)))]) (aB 39 [4]) 2)) eX (eB.of_eq eS)
theorem aoe(t:Tx.TE)(k:Nat)(hk:¬(k:Int)<(t.bQ.length:Int))(h:True):Rq 0 80 0 (sx0 t k) (bF.exit 0) (St.mk (aC 39 [(4,Am.bool false)]) (sxB t) []):=by
 exact aG [kv 24 (show Am.aF (int (↑(length (Tx.au t.bQ)):Int)) (int ↑(length t.bQ))from(aF.of_eq (by simp only[Go.Tx.ay]))),kj ((k:Int)<(↑(length t.bQ):Int))] (aB 39 [4]) 2
theorem aof(t:Tx.TE)(hS:Cq 105 [Sq.bZ t.cells,Sq.bZ t.cells] (Am.bool true))(hL:Rq 0 80 0 (sx0 t 0) (.exit 0) { aL:=aC 39 [(4,Am.bool false)],H:=sxB t })(h:True):Cq 80 [Tx.mG t,Tx.mG t] (Am.bool true):=by
 have fT:Am.aF (int (↑(length (Tx.au t.bQ)):Int)) (int ↑(length t.bQ)):=(aF.of_eq (by simp only[Go.Tx.ay]));exact aj [kc [] hS,kY,kv 15 fT,kv 18 fT,kf (show((↑(length t.bQ):Int)!=(↑(length t.bQ):Int))=false from(yJ Bool.not (qT zO))),kl (rG [(0,2),(6,33)]) 2 hL]
theorem aog(f:FD)(h3:Cq 77 [Sq.bZ f.ce,Sq.bZ f.ce] (Am.bool true))(h4:Cq 78 [Bd.iK f.bi,Bd.iK f.bi] (Am.bool true))(h5:Cq 79 [mF f.ta,mF f.ta] (Am.bool true))(h6:Cq 80 [Tx.mG (Gb f),Tx.mG (Gb f)] (Am.bool true))(o:Bool)(h:((((f.pk==f.pk&&f.pn==f.pn)=true)->(true)=(o))/\(((f.pk==f.pk&&f.pn==f.pn)=false)->(false)=(o)))):Cq 49 [.agg (jB f),.agg (jB f)] (Am.bool o):=by
 rcases Bool.eq_false_or_eq_true ((f.pk==f.pk&&f.pn==f.pn))with c1|c1
 .have h:=h.1 c1;exact aA (aF.aI h) [kt c1,kc [] h3,kO,kc [] h4,kO,kc [] h5,kO,kc [] h6]
 .have h:=h.2 c1;exact aA (aF.aI h) [kf c1,kY,kY,kY]
abbrev sdB(d:DO):List ah:=[.box [bB d.sn,Md d.fs],.box [bB d.sn,Md d.fs]]
def sd0(d:DO)(k:Nat):St:={ aL:=aC 40 [(2,.ptr 0 0),(3,.ptr 1 0),(4,Am.bool false),(5,int k)],H:=sdB d }
theorem aoh(d:DO)(k:Nat)(x:FD)(hv:d.fs.length<=1000000000)(hk:(k:Int)<(d.fs.length:Int))(hx:d.fs[k]?=some x)(hS:Cq 49 [.agg (jB x),.agg (jB x)] (Am.bool true))(ex:bF)(s':St)(h:Rq 0 26 0 (sM 40 [(2,.ptr 0 0),(3,.ptr 1 0),(4,Am.bool false),(5,int ↑(k+1))] [.box [bB d.sn,.sl 7 false (dA d.fs)],.box [bB d.sn,.sl 7 false (dA d.fs)]]) ex s'):Rq 0 26 0 (sd0 d k) ex s':=by
 have jw:(0:Int)<=(k:Int)/\(dA d.fs)[Int.toNat (k:Int)]?=some (jB x):=(bG hx);exact aJ [kN 24 (fE d.fs),ki ((k:Int)<(↑(length d.fs):Int)),ko (bC.elem (jB x)),ko (bC.elem (jB x)),kp jw,kp jw,kc [] hS,kY,kW 27 (k+1) ↑(k+1)] (aB 40 [2,3,4,5]) 2 h
theorem aoi(d:DO)(k:Nat)(hk:¬(k:Int)<(d.fs.length:Int))(h:True):Rq 0 26 0 (sd0 d k) (bF.exit 0) (St.mk (aC 40 [(4,Am.bool false)]) (sdB d) []):=by
 exact aG [kN 24 (fE d.fs),kj ((k:Int)<(↑(length d.fs):Int))] (aB 40 [4]) 2
theorem aoj(d:DO)(hS:Cq 18 [bB d.sn,bB d.sn] (Am.bool true))(hL:Rq 0 26 0 (sd0 d 0) (.exit 0) { aL:=aC 40 [(4,Am.bool false)],H:=sdB d })(h:True):Cq 26 [kI d,kI d] (Am.bool true):=by
 have fT:=lU (fE d.fs);exact aj [kc [] hS,kY,kv 15 fT,kv 18 fT,kf (show((↑(length d.fs):Int)!=(↑(length d.fs):Int))=false from(yJ Bool.not (qT zO))),kl (rG [(0,2),(6,34)]) 2 hL]
open Go.bV (OP op)
open Go.Mg (dQ)
structure OkO(o:OP):Prop where
 n:bV.Okn o
 p:bV.Fw o
 c:o.cx.length<=1000000
theorem VQ{l:List OP}{k:Nat}(h:k<l.length):Gf (l.take (k+1))=Bn (Gf (l.take k)) l[k]:=by grind[Gf,take_append_getElem]
theorem acT{l:List OP}(hl:l.length<=10000)(hk:∀o∈l,OkO o):∀n k,l.length-k=n->k<=l.length->Rq 0 25 0 (mdS l k (Gf (l.take k))) (.exit 0) (mdX (Gf l)):=by
 intro n
 induction n with
 |zero =>
  intro k h1 h2;rw[take_of_length_le zO];exact an5 l k zO _ trivial
 |succ n ih =>
  intro k h1 h2;have bg:k<l.length:=zO
  have hm:=hk _ (getElem_mem bg);have nx:=ih (k+1) zO zO;rw[VQ bg]at nx;have hs:=Ug (l.take k) fun o ho=>(hk o (mem_of_mem_take ho)).p;exact an4 l l[k] k zO zO (yA bg) _ _ _ (agI hs (by rw[length_take];omega) hm.n hm.p hm.c) _ _ nx
theorem akY{ls l:List OP}(hl:l.length<=10000)(hk:∀o∈l,OkO o)(hR:Cq 16 [dQ ls] (dQ l)):Cq 25 [dQ ls] (kI (Gf l)):=by
 have h:=acT hl hk _ 0 rfl yN;refine an6 ls l _ hR ?_ trivial;refine bN.ZX (b:=0) (j:=0) (cells:=[aK,aK]) rfl rfl (aF.nil 2) ?_;exact bN.ZX (b:=0) (j:=1) (cells:=[bB [],aK]) rfl rfl (aF.nil 7) h
theorem acU(a:List TL)(hv:a.length<=1000000000):∀n k,a.length-k=n->k<=a.length->Rq 0 79 0 (ta0 a k) (.exit 0) { aL:=aC 26 [(4,Am.bool false)],H:=[] }:=by
 intro n
 induction n with
 |zero=>exact fun k h1 h2=>an8 a k zO trivial
 |succ n ih =>
  intro k h1 h2;exact an7 a k a[k] hv zO (yA zO) _ _ ⟨fun _=>ih (k+1) zO zO,fun h=>by simp[Sq.tN]at h⟩
theorem acV(a:List Sq.CE)(hv:a.length<=1000000000):∀n k,a.length-k=n->k<=a.length->Rq 0 105 0 (sc0 a k) (.exit 0) { aL:=aC 26 [(4,Am.bool false)],H:=[] }:=by
 intro n
 induction n with
 |zero=>exact fun k h1 h2=>aob a k zO trivial
 |succ n ih =>
  intro k h1 h2;exact aoa a k a[k] hv zO (yA zO) _ _ ⟨fun _=>ih (k+1) zO zO,fun h=>by simp[Sq.tN]at h⟩
theorem acW(t:Tx.TE)(hv:t.bQ.length<=1000000000):∀n k,t.bQ.length-k=n->k<=t.bQ.length->Rq 0 80 0 (sx0 t k) (.exit 0) { aL:=aC 39 [(4,Am.bool false)],H:=sxB t }:=by
 intro n
 induction n with
 |zero=>exact fun k h1 h2=>aoe t k zO trivial
 |succ n ih =>
  intro k h1 h2;exact aod t k t.bQ[k] hv zO (yA zO) _ _ ⟨fun _=>ih (k+1) zO zO,fun h=>by simp[Sq.tN]at h⟩
theorem aok(f:FD)(h:XW f):Cq 49 [.agg (jB f),.agg (jB f)] (Am.bool true):=by
 obtain⟨h1,h2,h3,h4,h5⟩:=h;have a:=Sq.up (Sq.Vi f.ce zO);have b:=Bd.C9 f.bi f.bi zO zO;rw[decide_eq_true rfl]at b;have c:=an9 f.ta (acU f.ta zO _ 0 rfl yN) trivial;have d:=aoc f.tc (acV f.tc zO _ 0 rfl yN) trivial;have e:=aof (Gb f) d (acW (Gb f) (by show f.tm.length<=_;omega) _ 0 rfl yN) trivial;exact aog f a b c e true ⟨fun _=>rfl,fun h=>by simp[Sq.tN]at h⟩
theorem ZY(d:DO)(h:Dim d):Cq 26 [kI d,kI d] (Am.bool true):=by
 have hl:=h.fs;have hn:=h.sn;have lp:∀n k,d.fs.length-k=n->k<=d.fs.length->Rq 0 26 0 (sd0 d k) (.exit 0) { aL:=aC 40 [(4,Am.bool false)],H:=sdB d }:=by
  intro n
  induction n with
  |zero=>exact fun k h1 h2=>aoi d k zO trivial
  |succ n ih =>
   intro k h1 h2;have bg:k<d.fs.length:=zO
   exact aoh d k d.fs[k] zO zO (yA bg) (aok _ (h.len _ (getElem_mem bg))) _ _ (ih (k+1) zO zO)
 have hs:=bH.zG d.sn d.sn zO;rw[decide_eq_true rfl]at hs;exact aoj d hs (lp _ 0 rfl yN) trivial
end Go.Dc
namespace Go.Mg
open Go Go.Am Go.Proofs Go.eY Go.bH Go.yU Go.bV
theorem Uh{l m:List OP}(gl:rZ l)(gm:rZ m)(h:∀x,x∈l↔x∈m):kK l=kK m:=((iH gl).set h).one (iH gm)
theorem VR{l:List OP}{y:OP}(hy:y∈l)(vy:vO y=true):∃z,Min l z/\dt z=dt y/\cm z y<=0:=by
 obtain⟨z,h1,h2,h3⟩:=Min.HV.least l (dt y) ⟨y,hy,vy,rfl⟩;exact⟨z,h1,h2,h3 y hy vy rfl⟩
theorem GQ{a b:List OP}(ga:rZ a)(gb:rZ b):rZ (a++b):=fun x hx=>(yI.1 hx).elim (ga x) (gb x)
theorem Ui{a b:List OP}(ga:rZ a)(gb:rZ b):kK (kK a++b)=kK (a++b):=by
 have gu:=GQ (EM ga) gb;refine mD.one (l:=a++b) ⟨(iH gu).sorted,fun x=>((iH gu).mem x).trans ?_⟩ (iH (GQ ga gb));constructor
 .rintro ⟨h1,h2,h3⟩;refine⟨?_,h2,fun y hy vy e=>?_⟩
  .rcases yI.1 h1 with h1|h1
   .exact mem_append_left _ (((iH ga).mem x).1 h1).1
   .grind
  .rcases yI.1 hy with hy|hy
   .obtain ⟨z,hz,ez,hzy⟩:=VR hy vy;exact nL (h3 z (mem_append_left _ (((iH ga).mem z).2 hz)) hz.2.1 (ez.trans e)) hzy
   .grind
 .rintro ⟨h1,h2,h3⟩;refine⟨?_,h2,fun y hy vy e=>?_⟩
  .rcases yI.1 h1 with h1|h1
   .exact mem_append_left _ (((iH ga).mem x).2 ⟨h1,h2,fun y hy=>h3 y (mem_append_left _ hy)⟩)
   .grind
  .rcases yI.1 hy with hy|hy
   .exact h3 y (mem_append_left _ (((iH ga).mem y).1 hy).1) vy e
   .grind
theorem Z0{a:List OP}(ga:rZ a):kK (kK a)=kK a:=by
 have:=Ui (b:=[]) ga (fun _ h=>by cases h);rwa[append_nil,append_nil]at this
theorem FH{m:List D->OP->Bool}{pt:List D->OP->List D}{p:OP->Bool}:∀{n:Nat}{W:List D}{l:List OP},(∀x∈qG m pt n W l,p x=true)->qG m pt n W (l.filter p)=qG m pt n W l
 |0,_,_,_=>rfl
 |n+1,W,l,h=>by
  unfold qG at h |-;cases e:pick (m W) l with
  |none=>rw[acX fun o ho=>wF e o (mem_filter.1 ho).1]
  |some q =>
   obtain⟨o,r⟩:=q;rw[e]at h;obtain⟨a,b,rfl,rfl,h3,h4⟩:=nM e;simp only at h;have ho:=h o mem_cons_self;rw[filter_append,filter_cons_of_pos ho,Uj (fun x hx=>h3 x (mem_filter.1 hx).1) h4];simp only;rw[<- filter_append,FH fun x hx=>h x (yF _ hx)]
theorem acY{l:List OP}(h:rZ l):GR (kK (GR (kK l)))=GR (kK l):=by
 have k:=R3 h;have hv:=AQ h;have hd:=I6 h;have hs:=k.sub;have gr:rZ (GR (kK l)):=fun x hx=>EM h x (hs x hx);have hf:kK (GR (kK l))=(kK l).filter (fun x=>decide (x∈GR (kK l))):=by
  refine mD.one (iH gr) ⟨(iH h).sorted.filter _,fun x=>?_⟩;rw[mem_filter,decide_eq_true_eq];refine⟨fun⟨h1,h2⟩=>⟨h2,hv x h1,fun y hy _ e=>?_⟩,fun⟨h1,_,_⟩=>⟨hs x h1,h1⟩⟩;have:y=x:=Classical.byContradiction fun fF=>by
   obtain⟨i,hi,rfl⟩:=mem_iff_getElem.1 (hs y hy);obtain⟨j,hj,rfl⟩:=mem_iff_getElem.1 h1;rcases Nat.lt_trichotomy i j with q|q|q
   .grind [pairwise_iff_getElem,hd]
   .subst q;exact fF rfl
   .grind [pairwise_iff_getElem,hd]
  rw[this,uW];exact Int.le_refl _
 have hl:((kK l).filter (fun x=>decide (x∈GR (kK l)))).length<=(kK l).length:=length_filter_le _ _;rw[hf];show qG met EN _ [] _=qG met EN _ [] _;rw[Py yM _ hl];exact FH fun x hx=>decide_eq_true hx
abbrev u64(t:Int):AV:=.lit (.int .u64 t)
theorem aol(t:Int)(h:True):Cq 24 [dQ [],u64 t] aK:=by
 exact aj [kO]
theorem aom(l:List OP)(t:Int)(hl:l.length<=1000000)(h1:0<(l.length:Int))(hd:¬List.drop (Int.toNat (IntKind.wrap IntKind.i64 (Int.tmod t (l.length:Int)))) (List.take (Int.toNat (l.length:Int)) (dZ l))=[])(out:aS)(H:List ah)(h:(((0:Int)<=IntKind.wrap IntKind.i64 (Int.tmod t (l.length:Int))/\IntKind.wrap IntKind.i64 (Int.tmod t (l.length:Int))<=(↑(length (dZ l)):Int)/\(↑(length (dZ l)):Int)<=(↑(length (dZ l)):Int))/\(((0+length (List.drop (Int.toNat (IntKind.wrap IntKind.i64 (Int.tmod t (l.length:Int)))) (List.take (Int.toNat (l.length:Int)) (dZ l))))*176<=140737488355328)/\(((0+length (List.drop (Int.toNat (IntKind.wrap IntKind.i64 (Int.tmod t (l.length:Int)))) (List.take (Int.toNat (l.length:Int)) (dZ l)))+length (List.drop 0 (List.take (Int.toNat (IntKind.wrap IntKind.i64 (Int.tmod t (l.length:Int)))) (dZ l))))*176<=140737488355328)/\(∃x5:OP,((0:Int)<=IntKind.wrap IntKind.i64 (Int.tmod t (l.length:Int))/\l[Int.toNat (IntKind.wrap IntKind.i64 (Int.tmod t (l.length:Int)))]?=some x5)/\(((0+length (List.drop (Int.toNat (IntKind.wrap IntKind.i64 (Int.tmod t (l.length:Int)))) (List.take (Int.toNat (l.length:Int)) (dZ l)))+length (List.drop 0 (List.take (Int.toNat (IntKind.wrap IntKind.i64 (Int.tmod t (l.length:Int)))) (dZ l)))+1)*176<=140737488355328)/\((List.take (0+length (List.drop (Int.toNat (IntKind.wrap IntKind.i64 (Int.tmod t (l.length:Int)))) (List.take (Int.toNat (l.length:Int)) (dZ l)))+length (List.drop 0 (List.take (Int.toNat (IntKind.wrap IntKind.i64 (Int.tmod t (l.length:Int)))) (dZ l)))+1) (List.drop 0 (List.drop (Int.toNat (IntKind.wrap IntKind.i64 (Int.tmod t (l.length:Int)))) (List.take (Int.toNat (l.length:Int)) (dZ l))++List.drop 0 (List.take (Int.toNat (IntKind.wrap IntKind.i64 (Int.tmod t (l.length:Int)))) (dZ l))++[(jy x5)]))=List.drop (Int.toNat (IntKind.wrap IntKind.i64 (Int.tmod t (l.length:Int)))) (List.take (Int.toNat (l.length:Int)) (dZ l))++List.drop 0 (List.take (Int.toNat (IntKind.wrap IntKind.i64 (Int.tmod t (l.length:Int)))) (dZ l))++[(jy x5)])/\((∀(c:List AV),c∈List.drop (Int.toNat (IntKind.wrap IntKind.i64 (Int.tmod t (l.length:Int)))) (List.take (Int.toNat (l.length:Int)) (dZ l))++List.drop 0 (List.take (Int.toNat (IntKind.wrap IntKind.i64 (Int.tmod t (l.length:Int)))) (dZ l))++[(jy x5)]->List.all c AV.fJ=true)/\(aS.ret (AV.sl 17 false (List.drop (Int.toNat (IntKind.wrap IntKind.i64 (Int.tmod t (l.length:Int)))) (List.take (Int.toNat (l.length:Int)) (dZ l))++List.drop 0 (List.take (Int.toNat (IntKind.wrap IntKind.i64 (Int.tmod t (l.length:Int)))) (dZ l))++[(jy x5)]))=out)/\([]=H))))))))):ak P G 24 [dQ l,u64 t] [] out H:=by
 have bS:=lU (aW l);obtain⟨o2,h⟩:=h;obtain⟨o3,h⟩:=h;obtain⟨o4,h⟩:=h;obtain⟨x5,o6,h⟩:=h;obtain⟨o7,h⟩:=h;obtain⟨o8,h⟩:=h;obtain⟨o9,h⟩:=h;obtain⟨e1,eH⟩:=h;exact ak.heap (e1▸((aj [kv 8 bS,kf (show((l.length:Int)==0)=false from(qF zO)),kv 12 bS,kv 13 (show Am.aF (AV.lit (Value.int IntKind.u64 (IntKind.wrap IntKind.u64 (l.length:Int)))) (AV.lit (Value.int IntKind.u64 (l.length:Int)))from(aF.zf zO zO rfl)),kp (show(l.length:Int)≠(0:Int)from zO),kv 19 (show Am.aF (AV.sl 17 false (List.drop (Int.toNat (IntKind.wrap IntKind.i64 (Int.tmod t (l.length:Int)))) (List.take (Int.toNat (↑(length (dZ l)):Int)) (dZ l)))) (AV.sl 17 false (List.drop (Int.toNat (IntKind.wrap IntKind.i64 (Int.tmod t (l.length:Int)))) (List.take (Int.toNat (l.length:Int)) (dZ l))))from(aF.of_eq (by simp only[aW]))),ko (bC.elem (jy x5)),ko (bC.Gu (List.drop (Int.toNat (IntKind.wrap IntKind.i64 (Int.tmod t (l.length:Int)))) (List.take (Int.toNat (l.length:Int)) (dZ l))++List.drop 0 (List.take (Int.toNat (IntKind.wrap IntKind.i64 (Int.tmod t (l.length:Int)))) (dZ l))++[[int x5.dv,int x5.sq,int x5.tm,AV.sl 2 false (au x5.cx),int x5.pk,str x5.pn,int x5.kd,int x5.f1,int x5.f2,int x5.f3,int x5.t1,int x5.t2,int x5.t3,str x5.ky,str x5.vl,int x5.n,Am.bool x5.on]])),kp o2,kp hd,kp o3,kp (show(0:Int)<=(0:Int)/\(0:Int)<=IntKind.wrap IntKind.i64 (Int.tmod t (l.length:Int))/\IntKind.wrap IntKind.i64 (Int.tmod t (l.length:Int))<=(↑(length (dZ l)):Int)from zO),kq 0,kp (show 0+length (List.drop (Int.toNat (IntKind.wrap IntKind.i64 (Int.tmod t (l.length:Int)))) (List.take (Int.toNat (l.length:Int)) (dZ l)))=length (List.drop (Int.toNat (IntKind.wrap IntKind.i64 (Int.tmod t (l.length:Int)))) (List.take (Int.toNat (l.length:Int)) (dZ l)))from zO),kp o4,kp (show(0:Int)<=IntKind.wrap IntKind.i64 (Int.tmod t (l.length:Int))/\(dZ l)[Int.toNat (IntKind.wrap IntKind.i64 (Int.tmod t (l.length:Int)))]?=some (jy x5)from(qU o6)),kq 1,kp (show 0+length (List.drop (Int.toNat (IntKind.wrap IntKind.i64 (Int.tmod t (l.length:Int)))) (List.take (Int.toNat (l.length:Int)) (dZ l)))+length (List.drop 0 (List.take (Int.toNat (IntKind.wrap IntKind.i64 (Int.tmod t (l.length:Int)))) (dZ l)))=length (List.drop (Int.toNat (IntKind.wrap IntKind.i64 (Int.tmod t (l.length:Int)))) (List.take (Int.toNat (l.length:Int)) (dZ l))++List.drop 0 (List.take (Int.toNat (IntKind.wrap IntKind.i64 (Int.tmod t (l.length:Int)))) (dZ l)))from(by simp only[yD,yE,length_nil,length_map]<;>omega)),kp o7,kq 2,kp o8,kp (show length (List.drop (Int.toNat (IntKind.wrap IntKind.i64 (Int.tmod t (l.length:Int)))) (List.take (Int.toNat (l.length:Int)) (dZ l))++List.drop 0 (List.take (Int.toNat (IntKind.wrap IntKind.i64 (Int.tmod t (l.length:Int)))) (dZ l))++[[int x5.dv,int x5.sq,int x5.tm,AV.sl 2 false (au x5.cx),int x5.pk,str x5.pn,int x5.kd,int x5.f1,int x5.f2,int x5.f3,int x5.t1,int x5.t2,int x5.t3,str x5.ky,str x5.vl,int x5.n,Am.bool x5.on]])=0+length (List.drop (Int.toNat (IntKind.wrap IntKind.i64 (Int.tmod t (l.length:Int)))) (List.take (Int.toNat (l.length:Int)) (dZ l)))+length (List.drop 0 (List.take (Int.toNat (IntKind.wrap IntKind.i64 (Int.tmod t (l.length:Int)))) (dZ l)))+1 from(by simp only[yD,yE,length_nil,length_map]<;>omega)),kp o9]))) eH
end Go.Mg
namespace Go.Dc
open Go Go.Am Go.Proofs Go.eY Go.bH
open Go.bV (OP op)
open Go.Mg (dQ dZ aW u64)
theorem aon(a b:List OP)(t:Int)(hS:Cq 11 [] (Am.bool true))(h1:Cq 12 [dQ a,int 8] (Am.bool false))(h:True):Cq 6 [dQ a,dQ b,u64 t] (Am.bool true):=by
 exact aj [kc [] hS,kY,kc [] h1,kO,kO]
theorem aoo(a b:List OP)(t:Int)(hS:Cq 11 [] (Am.bool true))(h1:Cq 12 [dQ a,int 8] (Am.bool true))(h2:Cq 12 [dQ b,int 8] (Am.bool false))(h:True):Cq 6 [dQ a,dQ b,u64 t] (Am.bool true):=by
 exact aj [kc [] hS,kY,kc [] h1,kY,kc [] h2,kO]
theorem aop(a b x u w r:List OP)(d:DO)(t:Int)(ha:a.length<=1000000)(hb:b.length<=1000000)(h0:¬dZ a=[])(hS:Cq 11 [] (Am.bool true))(h1:Cq 12 [dQ a,int 8] (Am.bool true))(h2:Cq 12 [dQ b,int 8] (Am.bool true))(hT:Cq 24 [.sl 17 false (dZ a++dZ b),u64 t] (dQ x))(hU1:Cq 14 [dQ x,aK] (dQ u))(VT:Cq 14 [dQ b,dQ a] (dQ u))(hm:Cq 13 [dQ u,dQ u] (Am.bool true))(hU3:Cq 14 [dQ a,aK] (dQ w))(hU4:Cq 14 [dQ w,dQ b] (dQ u))(hU5:Cq 14 [dQ a,dQ b] (dQ u))(hR1:Cq 16 [dQ x] (dQ r))(VU:Cq 16 [.sl 17 false (dZ a++dZ b)] (dQ r))(hr:Cq 13 [dQ r,dQ r] (Am.bool true))(hD1:Cq 25 [.sl 17 false (dZ a++dZ b)] (kI d))(hD2:Cq 25 [dQ x] (kI d))(hd:Cq 26 [kI d,kI d] (Am.bool true))(hD3:Cq 25 [dQ u] (kI d))(hD4:Cq 25 [dQ r] (kI d))(h:True):Cq 6 [dQ a,dQ b,u64 t] (Am.bool true):=by
 exact aj [kc [] hS,kY,kc [] h1,kY,kc [] h2,kY,kv 22 (show Am.aF (AV.aU 0 0 0 (0+length (dZ a))) (AV.aU 0 0 0 a.length)from(aF.of_eq (by simp[Go.Mg.aW,Go.Mg.iY,Go.Mg.jd]))),kp h0,vV ((0+length (dZ a))*176) (by simp only[yD,yE,length_nil,length_map,Go.Mg.aW,Go.Mg.iY,Go.Mg.jd]<;>omega),kv 24 (show Am.aF (AV.aU 0 1 0 (length a+length (dZ b))) (AV.aU 0 1 0 (length a+length b))from(aF.of_eq (by simp only[Go.Mg.aW]))),ko (bC.Gu (dZ a++dZ b)),kq 0,kp (Go.Mg.aW a).symm,vV ((length a+length (dZ b))*176) (by simp only[yD,yE,length_nil,length_map,Go.Mg.aW,Go.Mg.iY,Go.Mg.jd]<;>omega),kq 1,XV (length a+length b) (dZ a++dZ b) (by simp only[yD,yE,length_nil,length_map,Go.Mg.aW,Go.Mg.iY,Go.Mg.jd]<;>omega),kp (show length (dZ a++dZ b)=length a+length b from(by simp only[yD,yE,length_nil,length_map,Go.Mg.aW,Go.Mg.iY,Go.Mg.jd]<;>omega)),kp (show ∀(c:List AV),c∈dZ a++dZ b->List.all c AV.fJ=true from(by exact(Am.dx (Go.Mg.jd _) (Go.Mg.jd _)))),kc [] hT,kc [] hU1,kc [] VT,kc [] hm,kY,kc [] hU3,kc [] hU4,kc [] hU5,kc [] hm,kY,kc [] hR1,kc [] VU,kc [] hr,kY,kc [] hD1,kc [] hD2,kc [] hd,kO,kc [] hU5,kc [] hD3,kc [] hd,kO,kc [] VU,kc [] hD4,kc [] hd]
theorem aoq(b x u w r:List OP)(d:DO)(t:Int)(hb:b.length<=1000000)(h0:¬dZ b=[])(hS:Cq 11 [] (Am.bool true))(h1:Cq 12 [dQ [],int 8] (Am.bool true))(h2:Cq 12 [dQ b,int 8] (Am.bool true))(hT:Cq 24 [.sl 17 false (dZ b),u64 t] (dQ x))(hU1:Cq 14 [dQ x,aK] (dQ u))(VT:Cq 14 [dQ b,dQ []] (dQ u))(hm:Cq 13 [dQ u,dQ u] (Am.bool true))(hU3:Cq 14 [dQ [],aK] (dQ w))(hU4:Cq 14 [dQ w,dQ b] (dQ u))(hU5:Cq 14 [dQ [],dQ b] (dQ u))(hR1:Cq 16 [dQ x] (dQ r))(VU:Cq 16 [.sl 17 false (dZ b)] (dQ r))(hr:Cq 13 [dQ r,dQ r] (Am.bool true))(hD1:Cq 25 [.sl 17 false (dZ b)] (kI d))(hD2:Cq 25 [dQ x] (kI d))(hd:Cq 26 [kI d,kI d] (Am.bool true))(hD3:Cq 25 [dQ u] (kI d))(hD4:Cq 25 [dQ r] (kI d))(h:True):Cq 6 [dQ [],dQ b,u64 t] (Am.bool true):=by
 exact aj [kc [] hS,kY,kc [] h1,kY,kc [] h2,kY,ko (bC.LV),kp (Am.C8),kv 24 (show Am.aF (AV.aU 0 0 0 (0+length (dZ b))) (AV.aU 0 0 0 b.length)from(aF.of_eq (by simp[Go.Mg.aW,Go.Mg.iY,Go.Mg.jd]))),ko (bC.Gu (dZ b)),kp h0,vV ((0+length (dZ b))*176) (by simp only[yD,yE,length_nil,length_map,Go.Mg.aW,Go.Mg.iY,Go.Mg.jd]<;>omega),kq 0,XV b.length (dZ b) (by simp only[yD,yE,length_nil,length_map,Go.Mg.aW,Go.Mg.iY,Go.Mg.jd]<;>omega),kp (Go.Mg.aW b),kp (Go.Mg.jd b),kc [] hT,kc [] hU1,kc [] VT,kc [] hm,kY,kc [] hU3,kc [] hU4,kc [] hU5,kc [] hm,kY,kc [] hR1,kc [] VU,kc [] hr,kY,kc [] hD1,kc [] hD2,kc [] hd,kO,kc [] hU5,kc [] hD3,kc [] hd,kO,kc [] VU,kc [] hD4,kc [] hd]
theorem aor(x u r:List OP)(d:DO)(t:Int)(hS:Cq 11 [] (Am.bool true))(h1:Cq 12 [dQ [],int 8] (Am.bool true))(h2:Cq 12 [dQ [],int 8] (Am.bool true))(hT:Cq 24 [.sl 17 true [],u64 t] (dQ x))(hU1:Cq 14 [dQ x,aK] (dQ u))(VT:Cq 14 [dQ [],dQ []] (dQ u))(hm:Cq 13 [dQ u,dQ u] (Am.bool true))(hU3:Cq 14 [dQ [],aK] (dQ u))(hU4:Cq 14 [dQ u,dQ []] (dQ u))(hU5:Cq 14 [dQ [],dQ []] (dQ u))(hR1:Cq 16 [dQ x] (dQ r))(VU:Cq 16 [.sl 17 true []] (dQ r))(hr:Cq 13 [dQ r,dQ r] (Am.bool true))(hD1:Cq 25 [.sl 17 true []] (kI d))(hD2:Cq 25 [dQ x] (kI d))(hd:Cq 26 [kI d,kI d] (Am.bool true))(hD3:Cq 25 [dQ u] (kI d))(hD4:Cq 25 [dQ r] (kI d))(h:True):Cq 6 [dQ [],dQ [],u64 t] (Am.bool true):=by
 have jw:=(Am.C8);exact aj [kc [] hS,kY,kc [] h1,kY,kc [] h1,kY,ko (bC.LV),ko (bC.LV),kp jw,kp jw,kc [] hT,kc [] hU1,kc [] VT,kc [] hm,kY,kc [] (show Cq 14 [.sl 17 false [],aK] (.sl 17 false (dZ u))from(ak.qp VT ⟨aF.refl _,(aF.nil _),yO⟩)),kc [] hU4,kc [] VT,kc [] hm,kY,kc [] hR1,kc [] VU,kc [] hr,kY,kc [] hD1,kc [] hD2,kc [] hd,kO,kc [] VT,kc [] hD3,kc [] hd,kO,kc [] VU,kc [] hD4,kc [] hd]
end Go.Dc
namespace Go.Mg
open Go Go.Am Go.Proofs Go.eY Go.bH Go.yU Go.bV
theorem agJ(dd:Dc.DO)(c1:ak P G 33 [int 5,int 1,int 1,int 3,aK] [] (.ret (op aO)) [])(c2:ak P G 33 [int 5,int 2,int 2,int 4,aK] [] (.ret (op bO)) [])(u:ak P G 14 [tS [bO,aO],tS [aO]] [] (.ret (dQ [aO,bO])) [])(r:ak P G 16 [tS [bO,aO]] [] (.ret (dQ [aO,bO])) [])(m:ak P G 19 [tS [bO]] [] (.ret (bB [(5,1)])) [])(p:ak P G 22 [tS [aO,bO],aK] [] (.ret (.bq [dQ [],dQ [aO,bO],int 0])) [])(q:ak P G 22 [aK,.sl 2 true [[int 1,int 0]]] [] (.ret (.bq [dQ [],dQ [],int 120])) [])(s1:ak P G 13 [dQ [aO,bO],tS [aO,bO]] [] (.ret (Am.bool true)) [])(z1:ak P G 14 [aK,aK] [] (.ret (dQ [])) [])(z2:ak P G 16 [tS [bO]] [] (.ret (dQ [])) [])(d:ak P G 25 [tS [bO,aO]] [] (.ret (Dc.kI dd)) [])(s2:ak P G 18 [bB [(5,1)],.sl 2 true [[int 5,int 1]]] [] (.ret (Am.bool true)) [])(s3:ak P G 13 [dQ [aO,bO],dQ [aO,bO]] [] (.ret (Am.bool true)) [])(e0:ak P G 25 [aK] [] (.ret (Dc.kI ⟨[],[]⟩)) [])(s4:ak P G 26 [Dc.kI ⟨[],[]⟩,.agg [aK,aK]] [] (.ret (Am.bool true)) [])(t:ak P G 32 [bB dd.sn,int 5] [] (.ret (int 2)) [])(h:True):ak P G 11 [] [] (aS.ret (Am.bool true)) []:=by
 have H6:=(@s1 );exact aj [kc [] (@c1 ),kc [] (@c2 ),kc [] (@u ),kc [] (@r ),kc [] (@m ),kc [] (@p ),kc [] (@q ),kf (Eq.refl false),kf (Eq.refl false),kc [] H6,kf (Eq.refl false),kc [] H6,kf (Eq.refl false),kc [] (@z1 ),kf (Eq.refl false),kc [] (@z2 ),kf (Eq.refl false),kc [] (@d ),kc [] (@s2 ),kt (Eq.refl true),kt (Eq.refl true),kc [] (@s3 ),kt (Eq.refl true),kc [] (@e0 ),kc [] (@s4 ),kt (Eq.refl true),kc [] (@t )] zQ
theorem VW:ak P G 19 [dQ [bO]] [] (.ret (bB [(5,1)])) []:=by
 have hg:rZ [bO]:=Xm zS;have hk:=Au [[bO]] zS (fun x hx=>by rw[mem_singleton.1 hx];exact⟨zS,hg⟩) wG;have hk':ak P G 36 [.sl 1 true (Nj [[bO]])] [] (.ret (.md true ((known [] [bO]).map en))) []:=(ak.VX (GU _) hk rfl).BM (H3:=[]) (qs:=[]) rfl trivial;have hgv:Uk (known [] [bO]):=DL (fun _ h=>(by cases h)) hg;have hR:=agK (known [] [bO]) hgv ((known [] [bO]).map en);rw[show known [] [bO]=[bO] by kernel_rfl]at hk' hgv hR;rw[show cN [bO]=[(5,1)] by kernel_rfl]at hR;have hC:∀x∈[((5:Int),(1:Int))],fO x.1:=fun x hx=>by rw[mem_singleton.1 hx];unfold fO;decide
 have hS:=VY [(5,1)] [5] hC zS (.refl _) zS;obtain⟨f,hG⟩:=I7 (a:=5) hC (by unfold fO;decide);have hI:=agL ([bO].map en) (jE [(5,1)]) [5] 0 5 1 zS zO zO (Z4 (fun x hx=>(hgv x hx).1.iV) (by unfold fO;decide) (by unfold fO;omega) zQ _) trivial;have he:=agM ([bO].map en) (jE [(5,1)]) [5] 1 0 [(5,1)] zS zS zS _ _ ⟨rfl,rfl⟩;have h2:=agN ([bO].map en) (jE [(5,1)]) [5] 0 5 1 1 zS zS rfl f hG hI zO _ _ (he.acz (show HSub [.aH,.box [.md true (jE [(5,1)])],.aH,.box [int 5,int 1],.aN 0 2 false (au [(5,1)])] (mB1 (jE [(5,1)]) 0 [(5,1)])from⟨.inl rfl,.inl rfl,.inl rfl,.inr yO,.inl rfl,yO⟩));have h9:=akZ [bO] _ _ _ hk' hR (aos (jE [(5,1)]) yO) hS 0 [(5,1)] h2 _ _ ⟨rfl,rfl⟩;exact(h9.Mq (z:=au [(5,1)]) (y:=.sl 2 false (au [(5,1)])) (H1:=[.aH,.box [.md true (jE [(5,1)])],.aH,.aH,.aN 0 2 true (au [(5,1)])]) (ps:=[0=0,List.take 1 (List.drop 0 (au [(5,1)]))=au [(5,1)],(au [(5,1)]).length=1,∀c∈au [(5,1)],c.all AV.fJ=true]) rfl ⟨rfl,rfl,rfl,bK _,yO⟩).BM (H3:=[]) (qs:=[]) rfl trivial
theorem agO{o:OP}(h:Gd o):Dc.OkO o:=⟨h.Z5,h.1,by have:=h.2.cx;omega⟩
theorem KT{l:List OP}(hl:l.length<=10000)(hg:rZ l):ak P G 25 [dQ l] [] (.ret (Dc.kI (Dc.Gf (GR (kK l))))) []:=by
 have h1:=GV l;have h2:(GR (kK l)).length<=(kK l).length:=uX;exact Dc.akY zO (fun o ho=>agO (EM hg o ((R3 hg).sub o ho))) (qH (GX l zO hg))
theorem agP:ak P G 22 [dQ [aO,bO],bB []] [] (.ret (.bq [dQ [],dQ [aO,bO],int 0])) []:=by
 have hU:=qH (GY [aO,bO] [] zS zS (Xm zS) (Xm zS));rw[show[aO,bO]++[]=[aO,bO]from rfl,show kK [aO,bO]=[aO,bO] by kernel_rfl]at hU;have ca:=bH.jX [] aO.dv aO.sq zS;rw[show cZ [] (aO.dv,aO.sq)=false by kernel_rfl]at ca;have cb:=bH.jX [] bO.dv bO.sq zS;rw[show cZ [] (bO.dv,bO.sq)=false by kernel_rfl]at cb;have h2:=ak0 [] [aO,bO] zS zS 2 1 [aO,bO] zS zS trivial;have h1:=ak1 [] [aO,bO] zS zS 1 0 [aO] zS bO zS rfl cb _ _ h2;have h0:=ak2 [] [aO,bO] zS zS 0 aO zS rfl ca _ _ (h1.acz (show HSub [ah.box (jy aO),ah.aN 0 17 false (dZ [aO])] [ah.aH,ah.aN 0 17 false (dZ [aO])]from⟨.inr yO,.inl rfl,yO⟩));have h9:=ak3 [aO,bO] [] _ 1 [aO,bO] zS (bH.fG [] zS) (ak.qp hU ⟨aF.refl _,aF.nil 17,yO⟩) h0 _ _ ⟨rfl,rfl⟩;exact((h9.Yt (z:=dZ [aO,bO]) (ys:=[aK,dQ [aO,bO],int 0]) (H1:=[.aH,.aN 1 17 true (dZ [aO,bO])]) (ps:=[1=1,List.take 2 (List.drop 0 (dZ [aO,bO]))=dZ [aO,bO],(dZ [aO,bO]).length=2,∀c∈dZ [aO,bO],c.all AV.fJ=true]) rfl ⟨rfl,rfl,rfl,jd _,yO⟩).BM (H3:=[]) (qs:=[]) rfl yO).out (ak4 acZ (aF.refl _))
theorem aot:(Dc.Gf [aO,bO]).sn=[(5,2)]:=zQ
theorem I8:ak P G 11 [] [] (.ret (Am.bool true)) []:=by
 have u:=GY [bO,aO] [aO] zS zS (Xm zS) (Xm zS);rw[show[bO,aO]++[aO]=[bO,aO,aO]from rfl,aou]at u;have m:=VW;have p:=agP;have q:=(ak5 [] [(1,0)] _ (by rw[ak6];decide) (bH.fG [(1,0)] zS) yO).out (ak4 acZ acZ);rw[ak6]at q;have s:=zG [aO,bO] [aO,bO] zS (cxl zS);have z1:=GY [] [] zS zS (Xm zS) (Xm zS);have z2:=GX [bO] zS (Xm zS);rw[aov,aow]at z2;have s2:=bH.zG [(5,1)] [(5,1)] zS;have s2':ak P G 18 [bB [(5,1)],bB [(5,1)]] [] (.ret (Am.bool true)) []:=by simpa using s2
 have d:=KT (l:=[bO,aO]) zS (Xm zS);rw[ak7,ak8]at d;have e:=KT (l:=[]) zS (Xm zS);rw[show Dc.Gf (GR (kK []))=⟨[],[]⟩ by kernel_rfl]at e;have z:=Dc.ZY ⟨[],[]⟩ ((Dc.aeB 0).dim zO).1;have t:=bH.acj (Dc.Gf [aO,bO]).sn 5 (by rw[aot];simp);rw[show gI 5 (Dc.Gf [aO,bO]).sn=2 by kernel_rfl]at t;exact agJ _ (Ul 5 1 1 3) (Ul 5 2 2 4) (qH (I9 u (Pz _) (Pz _))) (PD aox (Pz _)) (PD m (Pz _)) (I9 p (Pz _) (aF.nil 2)) (I9 q (aF.nil 17) (aF.oP 2 true _)) (I9 (by simpa using s) (aF.refl _) (Pz _)) (qH (I9 z1 (aF.nil 17) (aF.nil 17))) (qH (PD z2 (Pz _))) (PD d (Pz _)) (I9 s2' (aF.refl _) (aF.oP 2 true _)) (by simpa using s) (PD e (aF.nil 17)) (I9 z (aF.refl _) (aF.qo ⟨aF.nil 2,aF.nil 7,yO⟩)) t trivial
theorem Z6(l:List OP)(t:Int)(hl:l.length<=1000000)(h0:0<=t):∃x:List OP,ak P G 24 [dQ l,u64 t] [] (.ret (dQ x)) []/\(∀y,y∈x↔y∈l)/\x.length<=l.length+1:=by
 by_cases e:l=[]
 .subst e;exact⟨[],(aol t yO).out (aF.nil 17),fun _=>Iff.rfl,zS⟩
 have hp:=length_pos_iff.2 e;have m0:=Int.tmod_nonneg (l.length:Int) h0;have m1:=Int.tmod_lt_of_pos t (show(0:Int)<(l.length:Int) by omega);obtain⟨k,hk⟩:∃k:Nat,Int.tmod t (l.length:Int)=(k:Int):=⟨(Int.tmod t (l.length:Int)).toNat,zO⟩;have hW:IntKind.wrap IntKind.i64 (Int.tmod t (l.length:Int))=(k:Int):=by rw[Gx zO zO,hk]
 have LB:k<l.length:=zO
 have r:=aom l t hl zO;rw[hW]at r;simp only[Int.toNat_natCast]at r;have et:List.take l.length (dZ l)=dZ l:=take_of_length_le (by rw[aW];exact Nat.le_refl _);rw[et]at r;have ex:List.drop k (dZ l)++List.drop 0 (List.take k (dZ l))++[jy l[k]]=dZ (l.drop k++l.take k++[l[k]]):=by grind[dZ,map_drop,map_take]
 have hd:(List.drop k (dZ l)).length=l.length-k:=by rw[length_drop,aW]
 have ht:(List.drop 0 (List.take k (dZ l))).length=k:=by rw[drop_zero,length_take,aW];omega
 have fF:¬List.drop k (dZ l)=[]:=fun h=>by rw[h]at hd;simp at hd;omega
 refine⟨l.drop k++l.take k++[l[k]],r fF _ _ ⟨⟨zO,by rw[aW];omega,Int.le_refl _⟩,zO,zO,l[k],⟨zO,yA LB⟩,zO,?_,?_,?_,rfl⟩,fun y=>?_,?_⟩
 .grind
 .show ∀c:List AV,c∈List.drop k (dZ l)++List.drop 0 (List.take k (dZ l))++[jy l[k]]->_;rw[ex];exact jd _
 .show aS.ret (AV.sl 17 false (List.drop k (dZ l)++List.drop 0 (List.take k (dZ l))++[jy l[k]]))=_;rw[ex];rfl
 .simp only[yI,mem_singleton];constructor
  .grind
  .intro h;rw[<- take_append_drop k l]at h;rcases yI.1 h with h|h
   .exact .inl (.inr h)
   .exact .inl (.inl h)
 .simp;omega
theorem GZ{a b:List OP}(la:a.length<=1000)(lb:b.length<=1000)(ga:rZ a)(gb:rZ b):ak P G 14 [dQ a,dQ b] [] (.ret (dQ (kK (a++b)))) []:=qH (GY a b zO zO ga gb)
theorem Um{a:List OP}(la:a.length<=1000)(ga:rZ a):ak P G 14 [dQ a,aK] [] (.ret (dQ (kK a))) []:=by
 have h:=GZ (b:=[]) la zS ga (fun _ h=>by cases h);rw[append_nil]at h;exact ak.qp h ⟨aF.refl _,aF.nil 17,yO⟩
theorem Un{l:List OP}(hl:l.length<=1000)(hg:rZ l):ak P G 16 [dQ l] [] (.ret (dQ (GR (kK l)))) []:=qH (GX l zO hg)
theorem Gh{a b:List OP}{t:Int}(ht:0<=t)(ha:∀o∈a,Fw o)(hb:∀o∈b,Fw o)(la:a.length<=9223372036854775807)(lb:b.length<=9223372036854775807):ak P G 6 [dQ a,dQ b,u64 t] [] (.ret (Am.bool true)) []:=by
 rcases KU 8 ha la with h1|⟨h1,k1,g1⟩
 .exact Dc.aon a b t I8 h1 trivial
 rcases KU 8 hb lb with h2|⟨h2,k2,g2⟩
 .exact Dc.aoo a b t I8 h1 h2 trivial
 have g:=GQ g1 g2;have gw:=EM g1;have gu:=EM g;have lw:=GV a;have lu:=GV (a++b);have ll:(a++b).length=a.length+b.length:=yD;obtain⟨x,hT,hm,lx⟩:=Z6 (a++b) t zO ht;have gx:rZ x:=fun o ho=>g o ((hm o).1 ho);have ex:=Uh gx g hm;have er:=acY g;have lr:(GR (kK (a++b))).length<=(kK (a++b)).length:=uX;have gr:rZ (GR (kK (a++b))):=fun o ho=>gu o ((R3 g).sub o ho);have hU1:=Um zO gx;have VT:=GZ zO zO g2 g1;have hU3:=Um zO g1;have hU4:=GZ zO zO gw g2;have hU5:=GZ zO zO g1 g2;have hR1:=Un zO gx;have VU:=Un zO g;have hD1:=KT zO g;have hD2:=KT zO gx;have hD3:=KT zO gu;have hD4:=KT zO gr;rw[ex]at hU1 hR1 hD2;rw[Uh (GQ g2 g1) g fun y=>by simp only[yI];exact Or.comm]at VT;rw[Ui g1 g2]at hU4;rw[Z0 g]at hD3;rw[er]at hD4;have hs:=Ja zO gu;have hq:=Ja zO gr;have hd:=Dc.ZY _ ((Dc.Ug (GR (kK (a++b))) fun o ho=>(gr o ho).1).dim zO).1;by_cases ea:a=[]
 .subst ea;by_cases eb:b=[]
  .subst eb;exact Dc.aor x _ _ _ t I8 h1 h2 (ak.qp hT ⟨aF.oP 17 true _,aF.refl _,yO⟩) hU1 VT hs hU3 hU4 hU5 hR1 (ak.qp VU ⟨aF.oP 17 true _,yO⟩) hq (ak.qp hD1 ⟨aF.oP 17 true _,yO⟩) hD2 hd hD3 hD4 trivial
  .exact Dc.aoq b x _ _ _ _ t zO (Z7 eb) I8 h1 h2 hT hU1 VT hs hU3 hU4 hU5 hR1 VU hq hD1 hD2 hd hD3 hD4 trivial
 .have ee:dQ (a++b) = .sl 17 false (dZ a++dZ b):=by rw[tQ];rfl
  rw[ee]at hT VU hD1;exact Dc.aop a b x _ _ _ _ t zO zO (Z7 ea) I8 h1 h2 hT hU1 VT hs hU3 hU4 hU5 hR1 VU hq hD1 hD2 hd hD3 hD4 trivial
theorem aoy:Tryz.prog.cellsOf 37=1:=zQ
noncomputable def aoz:zA Tryz.prog 37 Int where
 aQ n:=[u64 n]
 good n:=0<=n
 size _:=aoy.symm
 rd h:=by
  obtain⟨n,rfl,_,hw⟩:=DataW.trod_int Tryz.underlying37 h;have hr:0<=n:=by
   simp[Lit.wf,IntKind.min,IntKind.max,IntKind.signed,IntKind.bits]at hw;omega
  refine⟨n,hr,rfl,fun j hj=>?_⟩
  match j,hj with
  |0,_=>exact⟨dR.lit _,rfl⟩
theorem VZ{H:Type}{aQ:TypeId×Value->H}{W:World}{base:Nat}{v:Value}{d:DataW H}{ps:List MemPlace}(hv:Value.okWide Tryz.prog W .any base 37 v)(h:DataW.Trod aQ Tryz.prog W 0 (fun _=>true) true 37 v d ps):∃n:Int,0<=n/\dI (nA W) (u64 n) v :=
 aoz.one zQ hv h (mk:=u64) (fun _=>rfl)
end Go.Mg
