import Derived.Test.YtihbnnkcemjflaaGreatDoorH5
set_option maxRecDepth 100000
set_option linter.unusedSimpArgs false
set_option linter.unusedVariables false
open List
noncomputable section
namespace Go.Sq
open Go Go.Am Go.Proofs Go.eY
def Bj:Code->Array Oper
 |.region _ o _=>o
 |_=>#[]
def iy:Array Oper:=Bj (Code.hd (Code.tl (oW P 211)))
def I4(ops:Array Oper):List (List Nat):=ops.toList.map fun o=>((o.after.toList.filter (Region.binds .any)).map (·.on)).eraseDups
theorem ZN:I4 iy=[[],[],[0,1],[],[],[3,4,2],[],[],[6,2,5,0,1,7],[7,5,8,0,1,2,3,4,6]]:=zQ
theorem RX{ops}{listed}{i}(h:i∈Region.ready .any ops listed):listed.getD i true=false/\i<ops.size/\∀j∈(I4 ops).getD i [],listed.getD j false=true:=by
 obtain⟨h1,o,ho,h2⟩:=mem_ready.1 h;have bg:=(Array.getElem?_eq_some_iff.1 ho).1;refine⟨h1,bg,fun j hj=>?_⟩;unfold I4 at hj;rw[yB,getElem?_map]at hj;have:ops.toList[i]?=some o:=by simpa using ho
 rw[this]at hj;simp only[Option.map_some,Option.getD_some,mem_eraseDups,yG]at hj;grind
def sv(c:CE):List AV:=[int c.tm,int c.dv,int c.sq,int c.gU]
def z4:ah:=.box [int 0,int 0,int 0,int 0]
def bx(l:Bool)(c:CE):ah:=if l=true then .box (sv c)else z4
def GN:AV:=.lit undef
def fU(x y:CE)(e6 e7 e8 e9 qO oU oV qP:AV):List AV:=[nP x,nP y,.iG [gP 185],.ptr 0 0,.ptr 1 0,int 0,e6,e7,e8,e9,qO,oU,oV,qP,GN,GN,GN,GN]
structure J41(x y:CE)(listed:Array Bool)(aL:List AV)(H:List ah):Prop where
 ex:∃l0 l1 l2 l3 l4 l5 l6 l7 l8 l9 e6 e7 e8 e9 qO oU oV qP T,listed=#[l0,l1,l2,l3,l4,l5,l6,l7,l8,l9]/\aL=fU x y e6 e7 e8 e9 qO oU oV qP/\H = .box (aQ x) :: .box (aQ y)::T /\
  (l0=true->e8=gP 185)/\(l1=true->e9=nP x)/\(l2=true->qO = .agg (sv x))/\(l3=true->oU=gP 185)/\(l4=true->oV=nP y)/\(l5=true->qP = .agg (sv y))/\(l6=false\/l7=false->l8=false)/\(l8=false->l9=false) /\
  ((l6=false/\l7=false/\T=[])\/(l6=true/\l7=false/\e6 = .ptr 2 0/\T=[z4])\/(l6=false/\l7=true/\e7 = .ptr 2 0/\T=[z4]) \/
    (l6=true/\l7=true/\((e6 = .ptr 2 0/\e7 = .ptr 3 0/\T=[bx l8 x,bx l9 y])\/(e6 = .ptr 3 0/\e7 = .ptr 2 0/\T=[bx l9 y,bx l8 x]))))
def jP(i:Nat):Oper:=iy.toList.getD i default
theorem agz x y:∀listed aL H,J41 x y listed aL H->∀i∈Region.ready .any iy listed,∃o bf k z H' aT ps,iy[i]?=some o/\iP P G iy (iO iy i) aL H o bf=some (k,.ret z,H',aT,ps)/\gZ ps/\J41 x y (listed.setIfInBounds i true) (gX aL o.dst z) H':=by
 intro listed aL H hJ i hi;obtain⟨h1,h2,h3⟩:=RX hi;rw[ZN]at h3;obtain⟨l0,l1,l2,l3,l4,l5,l6,l7,l8,l9,e6,e7,e8,e9,qO,oU,oV,qP,T,rfl,rfl,rfl,k0,k1,k2,k3,k4,k5,kb,kc,kT⟩:=hJ.ex;have iZ:iy.size=10:=zQ
 have an2:i<10:=zO
 have hcx:=Ue x;have hcy:=Ue y;have b8:=kb;have b9:=kc
 match i,an2 with
 |0,_ =>
  exact⟨jP 0,[],.free,gP 185,_,[],[],zQ,(by kernel_rfl:iP P G iy (iO iy 0) (fU x y e6 e7 e8 e9 qO oU oV qP) (.box (aQ x) :: .box (aQ y)::T) (jP 0) []=some (.free,.ret (gP 185),(.box (aQ x) :: .box (aQ y)::T),[],[])),yO,⟨_,_,_,_,_,_,_,_,_,_,e6,e7,gP 185,e9,qO,oU,oV,qP,T,rfl,(by kernel_rfl:gX (fU x y e6 e7 e8 e9 qO oU oV qP) (jP 0).dst (gP 185)=(fU x y e6 e7 (gP 185) e9 qO oU oV qP)),rfl,fun _=>rfl,k1,k2,k3,k4,k5,kb,kc,kT⟩⟩
 |1,_ =>
  exact⟨jP 1,[],.read,nP x,_,[],[],zQ,(by kernel_rfl:iP P G iy (iO iy 1) (fU x y e6 e7 e8 e9 qO oU oV qP) (.box (aQ x) :: .box (aQ y)::T) (jP 1) []=some (.read,.ret (nP x),(.box (aQ x) :: .box (aQ y)::T),[],[])),yO,⟨_,_,_,_,_,_,_,_,_,_,e6,e7,e8,nP x,qO,oU,oV,qP,T,rfl,(by kernel_rfl:gX (fU x y e6 e7 e8 e9 qO oU oV qP) (jP 1).dst (nP x)=(fU x y e6 e7 e8 (nP x) qO oU oV qP)),rfl,k0,fun _=>rfl,k2,k3,k4,k5,kb,kc,kT⟩⟩
 |2,_ =>
  obtain rfl:=k0 (h3 0 zD);obtain rfl:=k1 (h3 1 zD);exact⟨jP 2,[.call [] (.ret (.agg (sv x))) []],.free,.agg (sv x),_,[],[Cq 185 [nP x] (.agg (sv x))],zQ,(by kernel_rfl:iP P G iy (iO iy 2) (fU x y e6 e7 (gP 185) (nP x) qO oU oV qP) (.box (aQ x) :: .box (aQ y)::T) (jP 2) [.call [] (.ret (.agg (sv x))) []]=some (.free,.ret (.agg (sv x)),(.box (aQ x) :: .box (aQ y)::T),[],[Cq 185 [nP x] (.agg (sv x))])),⟨hcx,yO⟩,⟨_,_,_,_,_,_,_,_,_,_,e6,e7,(gP 185),(nP x),(.agg (sv x)),oU,oV,qP,T,rfl,(by kernel_rfl:gX (fU x y e6 e7 (gP 185) (nP x) qO oU oV qP) (jP 2).dst (.agg (sv x))=(fU x y e6 e7 (gP 185) (nP x) (.agg (sv x)) oU oV qP)),rfl,fun _=>rfl,fun _=>rfl,fun _=>rfl,k3,k4,k5,kb,kc,kT⟩⟩
 |3,_ =>
  exact⟨jP 3,[],.free,gP 185,_,[],[],zQ,(by kernel_rfl:iP P G iy (iO iy 3) (fU x y e6 e7 e8 e9 qO oU oV qP) (.box (aQ x) :: .box (aQ y)::T) (jP 3) []=some (.free,.ret (gP 185),(.box (aQ x) :: .box (aQ y)::T),[],[])),yO,⟨_,_,_,_,_,_,_,_,_,_,e6,e7,e8,e9,qO,gP 185,oV,qP,T,rfl,(by kernel_rfl:gX (fU x y e6 e7 e8 e9 qO oU oV qP) (jP 3).dst (gP 185)=(fU x y e6 e7 e8 e9 qO (gP 185) oV qP)),rfl,k0,k1,k2,fun _=>rfl,k4,k5,kb,kc,kT⟩⟩
 |4,_ =>
  exact⟨jP 4,[],.read,nP y,_,[],[],zQ,(by kernel_rfl:iP P G iy (iO iy 4) (fU x y e6 e7 e8 e9 qO oU oV qP) (.box (aQ x) :: .box (aQ y)::T) (jP 4) []=some (.read,.ret (nP y),(.box (aQ x) :: .box (aQ y)::T),[],[])),yO,⟨_,_,_,_,_,_,_,_,_,_,e6,e7,e8,e9,qO,oU,nP y,qP,T,rfl,(by kernel_rfl:gX (fU x y e6 e7 e8 e9 qO oU oV qP) (jP 4).dst (nP y)=(fU x y e6 e7 e8 e9 qO oU (nP y) qP)),rfl,k0,k1,k2,k3,fun _=>rfl,k5,kb,kc,kT⟩⟩
 |5,_ =>
  obtain rfl:=k3 (h3 3 zD);obtain rfl:=k4 (h3 4 zD);exact⟨jP 5,[.call [] (.ret (.agg (sv y))) []],.free,.agg (sv y),_,[],[Cq 185 [nP y] (.agg (sv y))],zQ,(by kernel_rfl:iP P G iy (iO iy 5) (fU x y e6 e7 e8 e9 qO (gP 185) (nP y) qP) (.box (aQ x) :: .box (aQ y)::T) (jP 5) [.call [] (.ret (.agg (sv y))) []]=some (.free,.ret (.agg (sv y)),(.box (aQ x) :: .box (aQ y)::T),[],[Cq 185 [nP y] (.agg (sv y))])),⟨hcy,yO⟩,⟨_,_,_,_,_,_,_,_,_,_,e6,e7,e8,e9,qO,(gP 185),(nP y),(.agg (sv y)),T,rfl,(by kernel_rfl:gX (fU x y e6 e7 e8 e9 qO (gP 185) (nP y) qP) (jP 5).dst (.agg (sv y))=(fU x y e6 e7 e8 e9 qO (gP 185) (nP y) (.agg (sv y)))),rfl,k0,k1,k2,fun _=>rfl,fun _=>rfl,fun _=>rfl,kb,kc,kT⟩⟩
 |6,_ =>
  have hf:=h1;subst hf;rcases kT with⟨_,q,rfl⟩|⟨p,q,r,rfl⟩|⟨p,q,r,rfl⟩|⟨p,q,_⟩
  .exact ⟨jP 6,[],.lK,.ptr 2 0,_,[],[],zQ,(by kernel_rfl:iP P G iy (iO iy 6) (fU x y e6 e7 e8 e9 qO oU oV qP) [.box (aQ x),.box (aQ y)] (jP 6) []=some (.lK,.ret (.ptr 2 0),[.box (aQ x),.box (aQ y),z4],[],[])),yO,⟨_,_,_,_,_,_,_,_,_,_,(.ptr 2 0),e7,e8,e9,qO,oU,oV,qP,_,rfl,(by kernel_rfl:gX (fU x y e6 e7 e8 e9 qO oU oV qP) (jP 6).dst (.ptr 2 0)=(fU x y (.ptr 2 0) e7 e8 e9 qO oU oV qP)),rfl,k0,k1,k2,k3,k4,k5,fun _=>b8 (.inl rfl),b9,.inr (.inl ⟨rfl,q,rfl,rfl⟩)⟩⟩
  .cases p
  .subst r q;have e8:=b8 (.inl rfl);have e9:=b9 e8;subst e8 e9;exact⟨jP 6,[],.lK,.ptr 3 0,_,[],[],zQ,(by kernel_rfl:iP P G iy (iO iy 6) (fU x y e6 (.ptr 2 0) e8 e9 qO oU oV qP) [.box (aQ x),.box (aQ y),z4] (jP 6) []=some (.lK,.ret (.ptr 3 0),[.box (aQ x),.box (aQ y),z4,z4],[],[])),yO,⟨_,_,_,_,_,_,_,_,_,_,(.ptr 3 0),(.ptr 2 0),e8,e9,qO,oU,oV,qP,_,rfl,(by kernel_rfl:gX (fU x y e6 (.ptr 2 0) e8 e9 qO oU oV qP) (jP 6).dst (.ptr 3 0)=(fU x y (.ptr 3 0) (.ptr 2 0) e8 e9 qO oU oV qP)),rfl,k0,k1,k2,k3,k4,k5,fun _=>rfl,fun _=>rfl,.inr (.inr (.inr ⟨rfl,rfl,.inr ⟨rfl,rfl,rfl⟩⟩))⟩⟩
  .cases p
 |7,_ =>
  have hf:=h1;subst hf;rcases kT with⟨_,q,rfl⟩|⟨p,q,r,rfl⟩|⟨p,q,r,rfl⟩|⟨p,q,_⟩
  .exact ⟨jP 7,[],.lK,.ptr 2 0,_,[],[],zQ,(by kernel_rfl:iP P G iy (iO iy 7) (fU x y e6 e7 e8 e9 qO oU oV qP) [.box (aQ x),.box (aQ y)] (jP 7) []=some (.lK,.ret (.ptr 2 0),[.box (aQ x),.box (aQ y),z4],[],[])),yO,⟨_,_,_,_,_,_,_,_,_,_,e6,(.ptr 2 0),e8,e9,qO,oU,oV,qP,_,rfl,(by kernel_rfl:gX (fU x y e6 e7 e8 e9 qO oU oV qP) (jP 7).dst (.ptr 2 0)=(fU x y e6 (.ptr 2 0) e8 e9 qO oU oV qP)),rfl,k0,k1,k2,k3,k4,k5,fun _=>b8 (.inr rfl),b9,.inr (.inr (.inl ⟨by assumption,rfl,rfl,rfl⟩))⟩⟩
  .subst r p;have e8:=b8 (.inr rfl);have e9:=b9 e8;subst e8 e9;exact⟨jP 7,[],.lK,.ptr 3 0,_,[],[],zQ,(by kernel_rfl:iP P G iy (iO iy 7) (fU x y (.ptr 2 0) e7 e8 e9 qO oU oV qP) [.box (aQ x),.box (aQ y),z4] (jP 7) []=some (.lK,.ret (.ptr 3 0),[.box (aQ x),.box (aQ y),z4,z4],[],[])),yO,⟨_,_,_,_,_,_,_,_,_,_,(.ptr 2 0),(.ptr 3 0),e8,e9,qO,oU,oV,qP,_,rfl,(by kernel_rfl:gX (fU x y (.ptr 2 0) e7 e8 e9 qO oU oV qP) (jP 7).dst (.ptr 3 0)=(fU x y (.ptr 2 0) (.ptr 3 0) e8 e9 qO oU oV qP)),rfl,k0,k1,k2,k3,k4,k5,fun _=>rfl,fun _=>rfl,.inr (.inr (.inr ⟨rfl,rfl,.inl ⟨rfl,rfl,rfl⟩⟩))⟩⟩
  .cases q
  .cases q
 |8,_ =>
  have hf:=h1;subst hf;have t6:=h3 6 zD;have t7:=h3 7 zD;obtain rfl:=k2 (h3 2 zD);subst t6 t7;rcases kT with⟨p,_⟩|⟨_,q,_⟩|⟨p,_⟩|⟨_,_,⟨rfl,rfl,rfl⟩|⟨rfl,rfl,rfl⟩⟩
  .cases p
  .cases q
  .cases p
  .exact ⟨jP 8,[],.lK,GN,_,[],[],zQ,(by kernel_rfl:iP P G iy (iO iy 8) (fU x y (.ptr 2 0) (.ptr 3 0) e8 e9 (.agg (sv x)) oU oV qP) [.box (aQ x),.box (aQ y),bx false x,bx l9 y] (jP 8) []=some (.lK,.ret GN,[.box (aQ x),.box (aQ y),bx true x,bx l9 y],[],[])),yO,⟨_,_,_,_,_,_,_,_,_,_,(.ptr 2 0),(.ptr 3 0),e8,e9,(.agg (sv x)),oU,oV,qP,_,rfl,(by kernel_rfl:gX (fU x y (.ptr 2 0) (.ptr 3 0) e8 e9 (.agg (sv x)) oU oV qP) (jP 8).dst GN=(fU x y (.ptr 2 0) (.ptr 3 0) e8 e9 (.agg (sv x)) oU oV qP)),rfl,k0,k1,fun _=>rfl,k3,k4,k5,fun h=>(by rcases h with h|h<;>cases h),nofun,.inr (.inr (.inr ⟨rfl,rfl,.inl ⟨rfl,rfl,rfl⟩⟩))⟩⟩
  .exact ⟨jP 8,[],.lK,GN,_,[],[],zQ,(by kernel_rfl:iP P G iy (iO iy 8) (fU x y (.ptr 3 0) (.ptr 2 0) e8 e9 (.agg (sv x)) oU oV qP) [.box (aQ x),.box (aQ y),bx l9 y,bx false x] (jP 8) []=some (.lK,.ret GN,[.box (aQ x),.box (aQ y),bx l9 y,bx true x],[],[])),yO,⟨_,_,_,_,_,_,_,_,_,_,(.ptr 3 0),(.ptr 2 0),e8,e9,(.agg (sv x)),oU,oV,qP,_,rfl,(by kernel_rfl:gX (fU x y (.ptr 3 0) (.ptr 2 0) e8 e9 (.agg (sv x)) oU oV qP) (jP 8).dst GN=(fU x y (.ptr 3 0) (.ptr 2 0) e8 e9 (.agg (sv x)) oU oV qP)),rfl,k0,k1,fun _=>rfl,k3,k4,k5,fun h=>(by rcases h with h|h<;>cases h),nofun,.inr (.inr (.inr ⟨rfl,rfl,.inr ⟨rfl,rfl,rfl⟩⟩))⟩⟩
 |9,_ =>
  have hf:=h1;subst hf;have t6:=h3 6 zD;have t7:=h3 7 zD;obtain rfl:=k5 (h3 5 zD);subst t6 t7;have t8:=h3 8 zD;subst t8;rcases kT with⟨p,_⟩|⟨_,q,_⟩|⟨p,_⟩|⟨_,_,⟨rfl,rfl,rfl⟩|⟨rfl,rfl,rfl⟩⟩
  .cases p
  .cases q
  .cases p
  .exact ⟨jP 9,[],.lK,GN,_,[],[],zQ,(by kernel_rfl:iP P G iy (iO iy 9) (fU x y (.ptr 2 0) (.ptr 3 0) e8 e9 qO oU oV (.agg (sv y))) [.box (aQ x),.box (aQ y),bx true x,bx false y] (jP 9) []=some (.lK,.ret GN,[.box (aQ x),.box (aQ y),bx true x,bx true y],[],[])),yO,⟨_,_,_,_,_,_,_,_,_,_,(.ptr 2 0),(.ptr 3 0),e8,e9,qO,oU,oV,(.agg (sv y)),_,rfl,(by kernel_rfl:gX (fU x y (.ptr 2 0) (.ptr 3 0) e8 e9 qO oU oV (.agg (sv y))) (jP 9).dst GN=(fU x y (.ptr 2 0) (.ptr 3 0) e8 e9 qO oU oV (.agg (sv y)))),rfl,k0,k1,k2,k3,k4,fun _=>rfl,kb,nofun,.inr (.inr (.inr ⟨rfl,rfl,.inl ⟨rfl,rfl,rfl⟩⟩))⟩⟩
  .exact ⟨jP 9,[],.lK,GN,_,[],[],zQ,(by kernel_rfl:iP P G iy (iO iy 9) (fU x y (.ptr 3 0) (.ptr 2 0) e8 e9 qO oU oV (.agg (sv y))) [.box (aQ x),.box (aQ y),bx false y,bx true x] (jP 9) []=some (.lK,.ret GN,[.box (aQ x),.box (aQ y),bx true y,bx true x],[],[])),yO,⟨_,_,_,_,_,_,_,_,_,_,(.ptr 3 0),(.ptr 2 0),e8,e9,qO,oU,oV,(.agg (sv y)),_,rfl,(by kernel_rfl:gX (fU x y (.ptr 3 0) (.ptr 2 0) e8 e9 qO oU oV (.agg (sv y))) (jP 9).dst GN=(fU x y (.ptr 3 0) (.ptr 2 0) e8 e9 qO oU oV (.agg (sv y)))),rfl,k0,k1,k2,k3,k4,fun _=>rfl,kb,nofun,.inr (.inr (.inr ⟨rfl,rfl,.inr ⟨rfl,rfl,rfl⟩⟩))⟩⟩
 |n+10,h=>omega
theorem RY{ops}{listed}(hr:Region.ready .any ops listed=[])(iZ:listed.size=ops.size){i}(hi:i<ops.size)(h:∀j∈(I4 ops).getD i [],listed.getD j false=true):listed.getD i true=true:=by
 cases hl:listed.getD i true with
 |true=>rfl
 |false =>
  have:i∈Region.ready .any ops listed:=mem_ready.2 ⟨hl,ops[i],by simp[hi],fun e he hb=>by
   refine h e.on ?_;unfold I4;rw[yB,getElem?_map];have:ops.toList[i]?=some ops[i]:=by simp[hi]
   rw[this];simp only[Option.map_some,Option.getD_some,mem_eraseDups,yG];grind⟩
  grind
def ZO(x y:CE)(p q:AV):List AV:=fU x y p q (gP 185) (nP x) (.agg (sv x)) (gP 185) (nP y) (.agg (sv y))
def aez(x y:CE)(aL:List AV)(H:List ah):Prop :=
 (aL=ZO x y (.ptr 2 0) (.ptr 3 0)/\H=[.box (aQ x),.box (aQ y),.box (sv x),.box (sv y)])\/(aL=ZO x y (.ptr 3 0) (.ptr 2 0)/\H=[.box (aQ x),.box (aQ y),.box (sv y),.box (sv x)])
theorem akU x y:∀listed aL H,J41 x y listed aL H->Region.ready .any iy listed=[]->aez x y aL H:=by
 intro listed aL H hJ hr;obtain⟨l0,l1,l2,l3,l4,l5,l6,l7,l8,l9,e6,e7,e8,e9,qO,oU,oV,qP,T,rfl,rfl,rfl,k0,k1,k2,k3,k4,k5,kb,kc,kT⟩:=hJ.ex;have iZ:iy.size=10:=zQ
 have key:=fun(i:Nat)(hi:i<10)=>RY (i:=i) hr (by rw[iZ];rfl) (by rw[iZ];exact hi);rw[ZN]at key;obtain rfl:l0=true:=key 0 zD (fun j hj=>by cases hj);obtain rfl:l1=true:=key 1 zD (fun j hj=>by cases hj);obtain rfl:l3=true:=key 3 zD (fun j hj=>by cases hj);obtain rfl:l4=true:=key 4 zD (fun j hj=>by cases hj);obtain rfl:l6=true:=key 6 zD (fun j hj=>by cases hj);obtain rfl:l7=true:=key 7 zD (fun j hj=>by cases hj);obtain rfl:l2=true:=key 2 zD (fun j hj=>by
  have:j=0\/j=1:=by simpa using hj
  rcases this with rfl|rfl<;>rfl)
 obtain rfl:l5=true:=key 5 zD (fun j hj=>by
  have:j=3\/j=4\/j=2:=by simpa using hj
  rcases this with rfl|rfl|rfl<;>rfl)
 obtain rfl:l8=true:=key 8 zD (fun j hj=>by
  have:j=6\/j=2\/j=5\/j=0\/j=1\/j=7:=by simpa using hj
  rcases this with rfl|rfl|rfl|rfl|rfl|rfl<;>rfl)
 obtain rfl:l9=true:=key 9 zD (fun j hj=>by
  have:j=7\/j=5\/j=8\/j=0\/j=1\/j=2\/j=3\/j=4\/j=6:=by simpa using hj
  rcases this with rfl|rfl|rfl|rfl|rfl|rfl|rfl|rfl|rfl<;>rfl)
 obtain rfl:=k0 rfl;obtain rfl:=k1 rfl;obtain rfl:=k2 rfl;obtain rfl:=k3 rfl;obtain rfl:=k4 rfl;obtain rfl:=k5 rfl;rcases kT with⟨p,_⟩|⟨_,q,_⟩|⟨p,_⟩|⟨_,_,⟨rfl,rfl,rfl⟩|⟨rfl,rfl,rfl⟩⟩
 .cases p
 .cases q
 .cases p
 .exact .inl ⟨rfl,rfl⟩
 .exact .inr ⟨rfl,rfl⟩
def acL:Func:=(P.funcs[211]?).getD default
def akV:Code:=Code.tl (Code.tl (oW P 211))
def akW(x y:CE):St:={ aL:=fU x y GN GN GN GN GN GN GN GN,H:=[.box (aQ x),.box (aQ y)] }
theorem an3 x y:bn P G none 0 (Code.hd (oW P 211)) { aL:=[nP x,nP y,.iG [gP 185]]++replicate (acL.ntmps-3) (.lit undef),H:=[] } (akW x y):=bM [] [] 2 zQ
def cfD(x y:CE):Int:=IntKind.i64.wrap (0-wP x.tm x.dv x.sq x.gU y.tm y.dv y.sq y.gU)
theorem ZP x y(p q:AV)H(h:(p = .ptr 2 0/\q = .ptr 3 0/\H=[.box (aQ x),.box (aQ y),.box (sv x),.box (sv y)])\/(p = .ptr 3 0/\q = .ptr 2 0/\H=[.box (aQ x),.box (aQ y),.box (sv y),.box (sv x)])) :
 y7 P G 0 acL akV ⟨ZO x y p q,H,[]⟩ (mZ [kc [] (aey x.tm x.dv x.sq x.gU y.tm y.dv y.sq y.gU)])=some (.ret (int (cfD x y)),[],jS [kc [] (aey x.tm x.dv x.sq x.gU y.tm y.dv y.sq y.gU)]):=by
 rcases h with⟨rfl,rfl,rfl⟩|⟨rfl,rfl,rfl⟩
 .kernel_rfl
 .kernel_rfl
theorem ae6 x y:Cq 211 [nP x,nP y,.iG [gP 185]] (int (cfD x y)):=by
 have wN:P.funcs[211]?=some acL:=zQ
 have hb:acL.body=some (.seq (Code.hd (oW P 211)) (.seq (.region 1 iy true) akV)):=zQ
 refine EB wN hb fun V a hH hG dK=>?_;have h0:V.H.length=0:=by rw[hH];rfl
 refine bn.seq (an3 x y) h0 (Step.refl V) hG dK fun V1 a1 s1 g1 k1=>?_;refine Go.wpIn_seq (Ke (J41 x y) (aez x y) (agz x y) (akU x y)  ?_ zQ g1 k1 fun V2 a2 Vw H2 s2 g2 k2 f2=>?_)
 .exact ⟨_,_,_,_,_,_,_,_,_,_,_,_,_,_,_,_,_,_,[],(by kernel_rfl:Array.replicate iy.size false=#[false,false,false,false,false,false,false,false,false,false]),rfl,rfl,nofun,nofun,nofun,nofun,nofun,nofun,fun _=>rfl,fun _=>rfl,.inl ⟨rfl,rfl,rfl⟩⟩
 .rcases f2 with⟨rfl,rfl⟩|⟨rfl,rfl⟩
  .exact mJ _ (ZP x y _ _ _ (.inl ⟨rfl,rfl,rfl⟩)) h0 (s1.trans s2) g2 k2
  .exact mJ _ (ZP x y _ _ _ (.inr ⟨rfl,rfl,rfl⟩)) h0 (s1.trans s2) g2 k2
open Go.Lib Go.Sort
theorem pR W(sb:Nat)(fB:W.cell? ⟨sb,0,none⟩=some (.func (.func 185) #[] #[])):dI (nA W) (.iG [gP 185]) (.pointer (some ⟨sb,0,none⟩)) :=
 .pure _ _ (.iG [gP 185] ⟨sb,0,none⟩ (fun _=>.func (.func 185) #[] #[]) rfl (fun _ h=>h) (fun j hj=>by
  have:j=0:=by have:j<1:=hj;omega
  subst this;exact fB) (fun j hj=>by
  have:j=0:=by have:j<1:=hj;omega
  subst this;exact .lit _))
theorem QI x y(sb:Nat)W(fB:W.cell? ⟨sb,0,none⟩=some (.func (.func 185) #[] #[])):Calls Tryz.prog 211 #[.agg (qd x).toArray,.agg (qd y).toArray,.pointer (some ⟨sb,0,none⟩)] W fun e w'=>e = .returned (.int .i64 (cfD x y))/\∃q UU,w'=Sort.grow (W.drewN q) UU :=
 (Hl (ae6 x y) (fun g cs h=>by cases h) (.cons (Ta _ x) (.cons (Ta _ y) (.cons (pR W sb fB) .nil)))).mono fun e w' ⟨v,q,UU,he,⟨V',_,hr⟩,hw⟩=>by
  have:=fC rfl hr;grind
theorem abF a b c d a' b' c' d':wP a b c d a' b' c' d' = -1\/wP a b c d a' b' c' d'=0\/wP a b c d a' b' c' d'=1:=by grind[wP,lW]
theorem Tc x y:ltOf cfD x y=Kn x y:=by
 unfold ltOf cfD;have h1:=abF x.tm x.dv x.sq x.gU y.tm y.dv y.sq y.gU;have h2:wP x.tm x.dv x.sq x.gU y.tm y.dv y.sq y.gU=1↔Kn x y=true:=by grind[Hq,wP,lW]
 rw[Bool.eq_iff_iff,<- h2];rcases h1 with h|h|h<;>rw[h]<;>decide
theorem swo:SWO (ltOf cfD) where
 irrefl x:=by rw[Tc];exact vQ x
 trans x y z:=by simp only[Tc];exact gt_trans
 ntrans x y z:=by
  simp only[Tc,Bool.eq_false_iff,ne_eq,Hq];omega
instance:Inhabited CE:=⟨⟨0,0,0,0,0,0,0,y33,false⟩⟩
structure JR(w:World)(v:Value)(b:Nat)(l:List CE)(cap:Nat)(c:Array Value)(t:TypeId):Prop where
 val:v = .slice (some ⟨b,0,none⟩) l.length cap
 mo:w.heap[b]?=some (.cells c t (0,0))
 le:l.length<=cap
 max:cap<=maxLen
 size:cap*9=c.size
 cell:∀k x j,l[k]?=some x->j<9->c[k*9+j]?=some ((qd x).getD j undef)
theorem Hr x:(qd x).length=9:=rfl
theorem Ht x:∀v∈qd x,v.oneCell'=true:=by
 intro v hv;simp only[qd,yH,y15,or_false]at hv;rcases hv with h|h|h|h|h|h|h|h|h<;>subst h<;>rfl
theorem JR.holds{w}{v}{b cap}{l}{c}{t}(h:JR w v b l cap c t):HoldsK qd 9 w b 0 l.toArray:=by
 intro j hj;rw[size_flatK]at hj;have hj9:j % 9<9:=Nat.mod_lt _ zD;have hk:j/9<l.length:=by grind
 have e:j/9*9+j % 9=j:=zO
 have hc:=h.cell (j/9) l[j/9] (j % 9) (yA hk) hj9;rw[e]at hc;have e2:(flatK qd 9 l.toArray)[j]! = (qd l[j/9]).getD (j % 9) undef:=by
  rw[get_flatK _ _ _ _ hj];have:l.toArray[j/9]! = l[j/9]:=by simp[hk]
  have hh:j % 9<(qd l[j/9]).length:=by exact hj9
  grind
 constructor
 .rw[e2];simp[World.cell?,h.mo,hc]
 .simp[World.frozen?,h.mo]
structure Ah(w:World)(b:Nat)(w':World):Prop where
 os:w'.os=w.os
 tape:w'.tape=w.tape
 output:w'.output=w.output
 size:w.heap.size<=w'.heap.size
 drawn:w.drawn<=w'.drawn
 keep:∀i,i<w.heap.size->i≠b->w'.heap[i]?=w.heap[i]?
theorem JU(aQ:Value->Value)(off:Nat)d c:(putCells aQ off d c).size=c.size:=by simp[putCells]
theorem Hu w(b n:Nat)(dk:Array CE)os:Ah w b (sortWorldK qd 9 w b 0 n dk os):=by
 refine⟨rfl,rfl,rfl,?_,by show w.drawn<=w.drawn+n;omega,fun i hi fF=>?_⟩
 .unfold sortWorldK;rw[size_grow,size_putRowK];simp
 .unfold sortWorldK;rw[heap_grow_old _ _ (by rw[size_putRowK];exact hi)];show(w.heap.modify b _)[i]?=_;grind
theorem JV{w}{v}{b cap}{l l'}{c}{t}(h:JR w v b l cap c t)(n:Nat)os(hl:l'.length=l.length):∃c',JR (sortWorldK qd 9 w b 0 n l'.toArray os) v b l' cap c' t:=by
 have hb:=(Array.getElem?_eq_some_iff.1 h.mo).1;refine⟨putCells id 0 (flatK qd 9 l'.toArray) c,by rw[hl];exact h.val,?_,by rw[hl];exact h.le,h.max,by rw[JU];exact h.size,fun k x j hk hj=>?_⟩
 .unfold sortWorldK;rw[heap_grow_old _ _ (by rw[size_putRowK];exact hb)];show(w.heap.modify b (onCells (putCells id 0 (flatK qd 9 l'.toArray))))[b]?=_;rw[Array.getElem?_modify,yL rfl,h.mo];rfl
 .have LB:=(yC.1 hk).1;have hx:=(yC.1 hk).2;have bg:k*9+j<l'.toArray.size*9:=by grind
  have jQ:k*9+j<c.size:=by
   have:=h.le;have:=h.size;omega
  rw[putCells,Array.getElem?_mapIdx,Array.getElem?_eq_getElem jQ];simp only[Option.map_some,Nat.zero_le,true_and,y12,size_flatK,Nat.sub_zero];rw[get_flatK _ _ _ _ bg,show(k*9+j)/9=k by omega];have:l'.toArray[k]! = x:=by simp[LB,hx]
  have hh:j<(qd x).length:=by exact hj
  grind
theorem QJ(w:World)v(b sb cap:Nat)(l:List CE)c(t:TypeId)(h:JR w v b l cap c t)(bL:l.length<=1000000)(fB:w.cell? ⟨sb,0,none⟩=some (.func (.func 185) #[] #[]))(fF:sb≠b) :
 Calls Tryz.prog 210 #[v,.func (.func 211) #[] #[.pointer (some ⟨sb,0,none⟩)]] w fun e w'=>e = .returned (.tuple #[])/\Ah w b w'/\∃l' c',l'.Perm l/\l'.Pairwise (fun x y=>Kn y x=false)/\JR w' v b l' cap c' t:=by
 have hb:=(Array.getElem?_eq_some_iff.1 h.mo).1;have NS:=World.block_lt_of_cell? w _ fB;have eg:=enters_of Tryz.func211 zQ rfl;have FY:CmpLays Tryz.prog 211 #[.pointer (some ⟨sb,0,none⟩)] qd 9 cfD b 0 l.toArray.size w:=fun m os dk _ x y =>
  QI x y sb _ (by
   unfold sortWorldK;rw[cell?_grow _ _ _ (by rw[size_putRowK];exact NS),cell?_putRowK_other _ _ _ _ _ _ _ fF];exact fB)
 have FZ:=AnyQ.slices_SortFunc Tryz.ae7 9 Tryz.isAgg129 Tryz.sizeOf129 qd Hr Ht cfD swo 211 #[.pointer (some ⟨sb,0,none⟩)] b 0 cap l.toArray w eg FY h.holds hb (by simp;omega);rw[h.val];have e1:l.toArray.size=l.length:=zS
 refine FZ.mono ?_;rintro e w' ⟨rfl,d',n,os,⟨p1,_,p3⟩,hs,rfl⟩;have hd:d'.size=l.length:=by rw[p1,e1]
 have e2:d'.toList.toArray=d':=zS
 rw[Array.extract_eq_self_of_le zO]at p3;refine⟨rfl,?_,d'.toList,?_⟩
 .exact Hu w b n d' os
 .have:=JV h n os (l':=d'.toList) (by simpa using hd);obtain⟨c',hk⟩:=this;refine⟨c',by simpa using p3,?_,by rw[<- h.val];exact hk⟩;rw[pairwise_iff_getElem];intro i j hi hj wQ;have h2:j<d'.size:=by simpa using hj
  have:=hs i j yN wQ zO;rw[Tc]at this;grind
end Go.Sq
namespace Go.Sq
open Go Go.Am Go.Proofs Go.eY
theorem aia  (h:True):Cq 143 [.lit (Value.int IntKind.u64 0)] (int 0):=by
 exact aj [kY,kY,kY]
theorem aib  (h:True):Cq 104 [.lit (Value.int IntKind.u64 0)] (int 0):=by
 exact aj [kY,kc [] (@aia (trivial))]
theorem aic  (h:True):Rq 1 223 0 (sM 53 [(0,aK),(1,int 0),(2,int 0),(3,.fn (Fn.func 211) [] [.ptr 0 0]),(8,int 1)] [.box [gP 185]]) (bF.exit 0) (sM 53 [(0,aK)] [.box [gP 185]]):=by
 exact aG [kY] (aB 53 [0]) 1
theorem aie  (h:True):ak P G 223 [aK,int 0,int 0,.fn (Fn.func 211) [] [.ptr 0 0]] [ah.box [gP 185]] (aS.ret (AV.bq [])) [ah.box [gP 185]]:=by
 exact aj [kl (rG [(4,4),(9,44)]) 1 (@aic (trivial))]
theorem aif  (h:True):Rq 1 222 0 (sM 148 [(0,aK),(1,int 0),(2,int 0),(3,int 0),(4,.fn (Fn.func 211) [] [.ptr 0 0]),(10,Am.bool true),(11,Am.bool true)] [.box [gP 185]]) bF.ret (sM 148 [(0,aK)] [.box [gP 185]]):=by
 exact aG [kO,kc [0] (@aie (trivial))] (aB 148 [0]) 1
theorem aii  (h:True):ak P G 222 [aK,int 0,int 0,int 0,.fn (Fn.func 211) [] [.ptr 0 0]] [ah.box [gP 185]] (aS.ret (AV.bq [])) [ah.box [gP 185]]:=by
 exact aj [kl (rG [(5,5),(12,136)]) 1 (@aif (trivial))]
theorem aij  (h:True):ak P G 210 [aK,.fn (Fn.func 211) [] [.ptr 0 0]] [ah.box [gP 185]] (aS.ret (AV.bq [])) [ah.box [gP 185]]:=by
 exact aj [kc [] (@aib (trivial)),kc [0] (@aii (trivial))]
theorem Xt  (h:True):Cq 184 [aK,gP 185] (.bq []):=by
 exact aj [kc [0] (@aij (trivial))]
open Go.Lib Go.Sort
theorem JR.alloc{w}{v}{b cap}{l}{c}{t}(h:JR w v b l cap c t)o:JR (w.alloc o) v b l cap c t:=by
 have hb:=(Array.getElem?_eq_some_iff.1 h.mo).1;exact{ h with mo:=by rw[alloc_eq_grow,heap_grow_old _ _ hb];exact h.mo }
theorem Ah.alloc{w}{o}{b}{w'}(h:Ah (w.alloc o) b w'):Ah w b w' where
 os:=h.os
 tape:=h.tape
 output:=h.output
 size:=y10 (by rw[alloc_eq_grow,size_grow];omega) h.size
 drawn:=h.drawn
 keep i hi fF:=by
  rw[h.keep i (by rw[alloc_eq_grow,size_grow];omega) fF,alloc_eq_grow,heap_grow_old _ _ hi]
theorem QK(w:World)v(b cap:Nat)(l:List CE)c(t:TypeId)(h:JR w v b l cap c t)(bL:l.length<=1000000) :
 Calls Tryz.prog 184 #[v,.func (.func 185) #[] #[]] w fun e w'=>e = .returned (.tuple #[])/\Ah w b w'/\∃l' c',l'.Perm l/\l'.Pairwise (fun x y=>Kn y x=false)/\JR w' v b l' cap c' t:=by
 have hb:=(Array.getElem?_eq_some_iff.1 h.mo).1;have h40:=QJ (w.alloc (.cells #[.func (.func 185) #[] #[]] 240)) v b w.heap.size cap l c t (h.alloc _) bL (by simp) zO;go_enter Tryz.func184,Tryz.ntmps184
 go_wp2_with (refine h40.mono ?_;rintro e w' ⟨rfl,k1,k2⟩)
 go_end0
 exact⟨rfl,k1.alloc,k2⟩
end Go.Sq
namespace Go.Sq
open Go Go.Am Go.Proofs Go.eY
def xL(a b c:Int):Value:=.agg #[.int .i64 a,.int .i64 b,.int .i64 c]
def fV(a b:Int):Value:=.agg #[.int .i64 a,.int .i64 b]
theorem laid:laidOutB P=true:=zQ
theorem qQ:Maps.Keyed P 53:=Maps.Keyed.of_law (deep_law_laid laid (m:=2) zD (Nat.le_of_ble_eq_true zQ) zQ zQ)
theorem lD:Maps.Keyed P 49:=Maps.Keyed.of_law (deep_law_laid laid (m:=2) zD (Nat.le_of_ble_eq_true zQ) zQ zQ)
def fO(n:Int):Prop := -9223372036854775808<=n/\n<9223372036854775808
theorem fO.wf{n}(h:fO n):(Lit.int .i64 n).wf=true:=by
 unfold fO at h;simp[Lit.wf,IntKind.min,IntKind.signed,IntKind.bits];omega
theorem uG d{n}(h:fO n):P.keyLits (d+1) 3 [.int .i64 n]=some [.int .i64 n]:=by
 simp[Program.keyLits,h.wf]
theorem sz1:∃n,P.types.size=n+1:=by
 have h:1<=P.types.size:=Nat.le_of_ble_eq_true zQ;simp
theorem BD{a b c}(ha:fO a)(hb:fO b)(hc:fO c):∃l,keyOf P 53 (xL a b c)=some l:=by
 have h1:(P.keyType 53&&(xL a b c).formed P 53)=true:=zQ
 have h2:P.keyLits (P.types.size+1) 53 (xL a b c).cells.toList=([P.keyLits P.types.size 3 [.int .i64 a],P.keyLits P.types.size 3 [.int .i64 b],P.keyLits P.types.size 3 [.int .i64 c]].mapM id).map flatten:=zQ
 obtain⟨n,hn⟩:=sz1;refine⟨.string (keyBytes [.int .i64 a,.int .i64 b,.int .i64 c]),?_⟩;unfold keyOf;rw[yL h1,h2,hn,uG n ha,uG n hb,uG n hc];rfl
theorem uy{a b}(ha:fO a)(hb:fO b):∃l,keyOf P 49 (fV a b)=some l:=by
 have h1:(P.keyType 49&&(fV a b).formed P 49)=true:=zQ
 have h2:P.keyLits (P.types.size+1) 49 (fV a b).cells.toList=([P.keyLits P.types.size 3 [.int .i64 a],P.keyLits P.types.size 3 [.int .i64 b]].mapM id).map flatten:=zQ
 obtain⟨n,hn⟩:=sz1;refine⟨.string (keyBytes [.int .i64 a,.int .i64 b]),?_⟩;unfold keyOf;rw[yL h1,h2,hn,uG n ha,uG n hb];rfl
structure Fe where
 a:Int
 b:Int
 c:Int
 v:Value
 mo:Nat
 l:List CE
def Fe.id(f:Fe):ID:=(f.a,f.b,f.c)
def Fe.key(f:Fe):Value:=xL f.a f.b f.c
def gV(fs:List Fe):List (Value×AV):=fs.map fun f=>(f.key,.lit f.v)
theorem Gq{a b c a' b' c'}(h:xL a b c=xL a' b' c'):(a,b,c)=(a',b',c'):=by
 obtain⟨rfl,rfl,rfl⟩:=h;rfl
structure jA(V:View)(T:ID->Prop)(fs:List Fe):Prop where
 Td:∀f∈fs,T f.id->∃cap c t,JR V.w f.v f.mo f.l cap c t
 mt:∀f∈fs,T f.id->V.M f.mo
 off:∀f∈fs,T f.id->∀i,i<V.H.length->V.ρ i≠f.mo
 nS:∀f∈fs,∀g∈fs,T f.id->T g.id->f.mo=g.mo->f.id=g.id
def QL(T:ID->Prop)(fs:List Fe)(b:Nat):Prop:=∃f∈fs,T f.id/\f.mo=b
theorem JR.lt{w}{v}{b cap}{l}{c}{t}(h:JR w v b l cap c t):b<w.heap.size:=(Array.getElem?_eq_some_iff.1 h.mo).1
theorem jA.lt{V}{T}{fs}(h:jA V T fs){f}(hf:f∈fs)(ht:T f.id):f.mo<V.w.heap.size:=by
 obtain⟨cap,c,t,hk⟩:=h.Td f hf ht;exact hk.lt
theorem JR.JW{w w'}{v}{b cap}{l}{c}{t}(h:JR w v b l cap c t)(hs:w'.heap[b]?=w.heap[b]?):JR w' v b l cap c t:={ h with mo:=hs.trans h.mo }
theorem jA.step{V V'}{T}{fs}(h:jA V T fs)(hs:Step V V'):jA V' T fs where
 Td f hf ht:=by
  obtain⟨cap,c,t,hk⟩:=h.Td f hf ht;exact⟨cap,c,t,hk.JW (hs.keep _ hk.lt (h.off f hf ht)).1⟩
 mt f hf ht:=(hs.keep _ (h.lt hf ht) (h.off f hf ht)).2.2 (h.mt f hf ht)
 off f hf ht i hi:=by
  have:=h.lt hf ht;rcases hs.fresh i hi with⟨h1,h2⟩|h1
  .rw [h2];exact h.off f hf ht i h1
  .omega
 nS:=h.nS
theorem jA.mono{V}{T T'}{fs}(h:jA V T fs)(hT:∀z,T' z->T z):jA V T' fs :=
 ⟨fun f hf ht=>h.Td f hf (hT _ ht),fun f hf ht=>h.mt f hf (hT _ ht),fun f hf ht=>h.off f hf (hT _ ht),fun f hf g hg h1 h2=>h.nS f hf g hg (hT _ h1) (hT _ h2)⟩
theorem jA.told{V V'}{T}{fs}(h:jA V T fs)(hw:V'.w=V.w)(hM:∀f∈fs,T f.id->V'.M f.mo)(hρ:∀i,i<V'.H.length->∃j,j<V.H.length/\V'.ρ i=V.ρ j):jA V' T fs where
 Td f hf ht:=by rw[hw];exact h.Td f hf ht
 mt:=hM
 off f hf ht i hi:=by
  obtain⟨j,hj,e⟩:=hρ i hi;rw[e];exact h.off f hf ht j hj
 nS:=h.nS
structure LC(fs:List Fe):Prop where
 Fp:(fs.map Fe.id).Nodup
 iV:∀f∈fs,fO f.a/\fO f.b/\fO f.c
theorem Cz{fs}(h:LC fs):∀e∈gV fs,∃l,keyOf P 53 e.1=some l:=by
 intro e he;obtain⟨f,hf,rfl⟩:=yG.1 he;obtain⟨h1,h2,h3⟩:=h.iV f hf;exact BD h1 h2 h3
theorem Te{fs}(h:LC fs){f}(hf:f∈fs):bT P 53 (gV fs) (xL f.a f.b f.c) aK (.lit f.v) true:=by
 obtain⟨h1,h2,h3⟩:=h.iV f hf;exact⟨qQ,BD h1 h2 h3,Cz h,.inl ⟨rfl,yG.2 ⟨f,hf,rfl⟩⟩⟩
theorem N8{fs}(h:LC fs){a b c}(ha:fO a)(hb:fO b)(hc:fO c)(hn:∀f∈fs,f.id≠(a,b,c)):bT P 53 (gV fs) (xL a b c) aK aK false :=
 ⟨qQ,BD ha hb hc,Cz h,.inr ⟨rfl,rfl,fun e he=>by
  obtain⟨f,hf,rfl⟩:=yG.1 he;exact fun hq=>hn f hf (Gq hq)⟩⟩
def fnB:AV:=.fn (.func 183) [] [.ptr 2 0,.ptr 0 0,.ptr 5 0]
def HB(es:List (Value×AV))(g n:Nat)(xs:List (List AV)):List ah:=[.box [.aU 6 g 0 n],.map es,.box [.mp 1],.aH,.aH,.box [fnB],.aN g 9 false xs]
def HN(es:List (Value×AV)):List ah:=[.box [aK],.map es,.box [.mp 1],.aH,.aH,.box [fnB]]
def enB(a b c:Int):List AV:=[oO a b c,.ptr 2 0,.ptr 0 0,.ptr 5 0]++replicate 24 (.lit undef)
def nR(l:List (Nat×AV)):List AV:=aC 28 ([(1,.ptr 2 0),(2,.ptr 0 0),(3,.ptr 5 0)]++l)
def C30:Code:=oW P 183
def c0:Code:=Code.hd C30
def c1:Code:=Code.hd (Code.tl C30)
def c2:Code:=Code.hd (Code.tl (Code.tl C30))
def c3:Code:=Code.hd (Code.tl (Code.tl (Code.tl C30)))
def Xa:Code:=vg P 183 0
def c4:Code:=Code.hd Xa
def cIf:Code:=Code.hd (Code.tl Xa)
def cB:Code:=Code.Tf (Code.hd (Code.tl (Code.tl Xa)))
def c8:Code:=Code.tl (Code.tl (Code.tl Xa))
def c5:Code:=Code.hd cB
def c6:Code:=Code.hd (Code.tl cB)
def c7:Code:=Code.tl (Code.tl cB)
theorem Xu:Xa = .seq c4 (.seq cIf (.seq (.block 1 (.seq c5 (.seq c6 c7))) c8)):=zQ
def F3:Array Oper:=Bj c2
def LD:Array Oper:=Bj c7
theorem aml:c2 = .region 2 F3 false:=zQ
theorem amm:c7 = .region 7 LD false:=zQ
section
variable (es:List (Value×AV)) (g n:Nat) (xs:List (List AV)) (a b c:Int) (ks:List CE) (k:Nat) (x:CE)
theorem p0b:bn P G none 7 c0 ⟨enB a b c,HB es g n xs,[]⟩ ⟨(enB a b c).set 4 (.ptr 7 0),HB es g n xs++[.box [int a,int b,int c]],[]⟩:=bM [] [] 8 zQ
theorem p1b(v:Value)ok(h:bT P 53 es (xL a b c) aK (.lit v) ok)(LG:∀e∈es,e.2.bP 7=true)(wR:∀x∈xs,AV.aM [] x=true):bn P G none 7 c1 ⟨(enB a b c).set 4 (.ptr 7 0),HB es g n xs++[.box [int a,int b,int c]],[]⟩ ⟨nR [(5,.lit v)],HB es g n xs,[]⟩:=bM [ko (.lJ (.lit v) ok),kp h,kp LG,kp wR] (aB 28 [1,2,3,5]) 7 zQ
theorem p2b:bn P G none 7 c2 ⟨nR [(5,aK)],HB es g n xs,[]⟩ ⟨nR [(5,aK)],HB es g n xs,[]⟩:=bM [kc [] (Xt yO)] (aB 28 [1,2,3,5]) 7 zQ
theorem amn:bn P G none 7 c3 ⟨nR [(5,aK)],HB es g n xs,[]⟩ ⟨nR [(13,aK),(14,int 0),(15,int 0)],HB es g n xs,[]⟩:=bM [] (aB 28 [1,2,3,13,14,15]) 7 zQ
theorem amo:bn P G none 7 c3 ⟨nR [(5,bZ ks)],HB es g n xs,[]⟩ ⟨nR [(13,bZ ks),(14,int (au ks).length),(15,int 0)],HB es g n xs,[]⟩:=bM [] (aB 28 [1,2,3,13,14,15]) 7 zQ
theorem p4b(m:Int)(bg:decide (k<m)=true):bn P G none 7 c4 ⟨nR [(13,bZ ks),(14,int m),(15,int k)],HB es g n xs,[]⟩ ⟨nR [(13,bZ ks),(14,int m),(15,int k),(16,bool true)],HB es g n xs,[]⟩:=by
 have h:bn P G none 7 c4 ⟨nR [(13,bZ ks),(14,int m),(15,int k)],HB es g n xs,[]⟩ ⟨nR [(13,bZ ks),(14,int m),(15,int k),(16,bool (decide (k<m)))],HB es g n xs,[]⟩:=bM [] (aB 28 [1,2,3,13,14,15,16]) 7 zQ;grind
theorem pIb m:bn P G none 7 cIf ⟨nR [(13,bZ ks),(14,int m),(15,int k),(16,bool true)],HB es g n xs,[]⟩ ⟨nR [(13,bZ ks),(14,int m),(15,int k)],HB es g n xs,[]⟩:=bM [kt (Eq.refl true)] (aB 28 [1,2,3,13,14,15]) 7 zQ
theorem p5b m(h:(0:Int)<=k/\(au ks)[(k:Int).toNat]?=some (aQ x)):bn P G none 7 c5 ⟨nR [(13,bZ ks),(14,int m),(15,int k)],HB es g n xs,[]⟩ ⟨nR [(7,.ptr 7 0),(13,bZ ks),(14,int m),(15,int k)],HB es g n xs++[.box (aQ x)],[]⟩:=bM [ko (.elem (aQ x)),kp h] (aB 28 [1,2,3,7,13,14,15]) 8 zQ
theorem pEb(m:Int)y(Ct:decide (k<m)=false):bN P G none 7 Xa ⟨nR [(13,y),(14,int m),(15,int k)],HB es g n xs,[]⟩ (.exit 0) ⟨aC 28 [],HB es g n xs,[]⟩:=aG [kf Ct] (aB 28 []) 7
theorem p8b m(hk:k<1000000):bn P G none 7 c8 ⟨nR [(13,bZ ks),(14,int m),(15,int k)],HB es g n xs,[]⟩ ⟨nR [(13,bZ ks),(14,int m),(15,int (k+1:Nat))],HB es g n xs,[]⟩:=by
 have h:bn P G none 7 c8 ⟨nR [(13,bZ ks),(14,int m),(15,int k)],HB es g n xs,[]⟩ ⟨nR [(13,bZ ks),(14,int m),(15,int (IntKind.wrap .i64 (k+1)))],HB es g n xs,[]⟩:=bM [] (aB 28 [1,2,3,13,14,15]) 7 zQ;have e:IntKind.wrap .i64 (k+1)=(k+1:Int):=by
  simp[IntKind.wrap,IntKind.bits];omega
 grind
theorem p0n:bn P G none 6 c0 ⟨enB a b c,HN es,[]⟩ ⟨(enB a b c).set 4 (.ptr 6 0),HN es++[.box [int a,int b,int c]],[]⟩:=bM [] [] 7 zQ
theorem p1n v(ok:Bool)(h:bT P 53 es (xL a b c) aK (.lit v) ok)(LG:∀e∈es,e.2.bP 6=true):bn P G none 6 c1 ⟨(enB a b c).set 4 (.ptr 6 0),HN es++[.box [int a,int b,int c]],[]⟩ ⟨nR [(5,.lit v)],HN es,[]⟩:=bM [ko (.lJ (.lit v) ok),kp h,kp LG] (aB 28 [1,2,3,5]) 6 zQ
theorem p2n:bn P G none 6 c2 ⟨nR [(5,aK)],HN es,[]⟩ ⟨nR [(5,aK)],HN es,[]⟩:=bM [kc [] (Xt yO)] (aB 28 [1,2,3,5]) 6 zQ
theorem amq:bn P G none 6 c3 ⟨nR [(5,aK)],HN es,[]⟩ ⟨nR [(13,aK),(14,int 0),(15,int 0)],HN es,[]⟩:=bM [] (aB 28 [1,2,3,13,14,15]) 6 zQ
theorem amr:bn P G none 6 c3 ⟨nR [(5,bZ ks)],HN es,[]⟩ ⟨nR [(13,bZ ks),(14,int (au ks).length),(15,int 0)],HN es,[]⟩:=bM [] (aB 28 [1,2,3,13,14,15]) 6 zQ
theorem p4n(m:Int)(bg:decide (k<m)=true):bn P G none 6 c4 ⟨nR [(13,bZ ks),(14,int m),(15,int k)],HN es,[]⟩ ⟨nR [(13,bZ ks),(14,int m),(15,int k),(16,bool true)],HN es,[]⟩:=by
 have h:bn P G none 6 c4 ⟨nR [(13,bZ ks),(14,int m),(15,int k)],HN es,[]⟩ ⟨nR [(13,bZ ks),(14,int m),(15,int k),(16,bool (decide (k<m)))],HN es,[]⟩:=bM [] (aB 28 [1,2,3,13,14,15,16]) 6 zQ;grind
theorem pIn m:bn P G none 6 cIf ⟨nR [(13,bZ ks),(14,int m),(15,int k),(16,bool true)],HN es,[]⟩ ⟨nR [(13,bZ ks),(14,int m),(15,int k)],HN es,[]⟩:=bM [kt (Eq.refl true)] (aB 28 [1,2,3,13,14,15]) 6 zQ
theorem p5n m(h:(0:Int)<=k/\(au ks)[(k:Int).toNat]?=some (aQ x)):bn P G none 6 c5 ⟨nR [(13,bZ ks),(14,int m),(15,int k)],HN es,[]⟩ ⟨nR [(7,.ptr 6 0),(13,bZ ks),(14,int m),(15,int k)],HN es++[.box (aQ x)],[]⟩:=bM [ko (.elem (aQ x)),kp h] (aB 28 [1,2,3,7,13,14,15]) 7 zQ
theorem pEn(m:Int)y(Ct:decide (k<m)=false):bN P G none 6 Xa ⟨nR [(13,y),(14,int m),(15,int k)],HN es,[]⟩ (.exit 0) ⟨aC 28 [],HN es,[]⟩:=aG [kf Ct] (aB 28 []) 6
theorem p6b m(hn:n=xs.length)(hm:(n+1)*80<=140737488355328):bn P G none 7 c6 ⟨nR [(7,.ptr 7 0),(13,bZ ks),(14,int m),(15,int k)],HB es g n xs++[.box (aQ x)],[]⟩ ⟨nR [(7,.ptr 7 0),(13,bZ ks),(14,int m),(15,int k)],HB es (g+1) (n+1) (xs++[aQ x])++[.box (aQ x)],[]⟩:=bM [kp (rfl:g=g),kp hn,kp hm] (aB 28 [1,2,3,7,13,14,15]) 8 zQ
theorem p6n m:bn P G none 6 c6 ⟨nR [(7,.ptr 6 0),(13,bZ ks),(14,int m),(15,int k)],HN es++[.box (aQ x)],[]⟩ ⟨nR [(7,.ptr 6 0),(13,bZ ks),(14,int m),(15,int k)],[.box [.aU 7 0 0 1],.map es,.box [.mp 1],.aH,.aH,.box [fnB],.box (aQ x),.aN 0 9 false [aQ x]],[]⟩:=bM [kp (show[aQ x]≠[] by simp),kp (show 1*80<=140737488355328 by decide)] (aB 28 [1,2,3,7,13,14,15]) 8 zQ
end
theorem JR.rep{w}{M}{v}{b cap}{l}{c}{t}(h:JR w v b l cap c t)(hM:¬M b):dR w M (bZ l) v:=by
 have hv:v = .slice (some ⟨b,0,none⟩) (au l).length cap:=by rw[ay];exact h.val
 rw[hv];have hel:∀k,k<(au l).length->∃x,l[k]?=some x/\(au l).getD k []=aQ x:=fun k hk=>by
  rw[ay]at hk;exact⟨l[k],yA hk,by rw[yB,sF,yA hk];rfl⟩
 refine .sl 9 false (au l) (some ⟨b,0,none⟩) cap b 0 (fun k j=>((l[k]?).map fun x=>(qd x).getD j undef).getD undef) (fun _=>rfl) (fun _ _=>hM) (by rw[ay];exact h.le) (fun h=>by cases h) ?_ ?_ ?_ ?_
 .intro x hx;obtain⟨y,_,rfl⟩:=yG.1 hx;rfl
 .intro k j hk hj;obtain⟨x,hx,_⟩:=hel k hk;rw[hx];simp[World.cell?,h.mo,h.cell k x j hx hj]
 .intro k j hk hj;obtain⟨x,hx,_⟩:=hel k hk;rw[hx];refine Ht x _ ?_;have hj':=hj;show(qd x).getD j undef∈qd x;rw[yB,yA hj'];grind
 .intro k j hk hj;obtain⟨x,hx,he⟩:=hel k hk;rw[hx,he];have hj':=hj
  match j,hj' with
  |0,_=>exact .lit _
  |1,_=>exact .lit _
  |2,_=>exact .lit _
  |3,_=>exact .lit _
  |4,_=>exact .lit _
  |5,_=>exact .lit _
  |6,_=>exact .lit _
  |7,_=>exact .lit _
  |8,_=>exact .lit _
def LH:Oper:=F3.toList.getD 1 default
def ams:Func:=(P.funcs[184]?).getD default
variable {f:Fe}{fs:List Fe}{V:View}
theorem Xv{a:Act}{T:ID->Prop}{H:List ah}(hG:aD G V)(dK:jO V ⟨nR [(5,.lit f.v)],H,[]⟩ a)(BF:∀(i:Nat)(o:ah),H[i]?=some o->o.bP H.length)(h6:5<H.length)(hF:jA V T fs)(hR:LC fs)(hf:f∈fs)(ht:T f.id)(bL:f.l.length<=1000000){K:Act->World->Prop}{Q:Exit->Act->World->Prop}(next:∀V' a' ks,ks.Perm f.l->ks.Pairwise (fun x y=>Kn y x=false)->rJ (fun b=>b=f.mo) V V'->aD G V'->jO V' ⟨nR [(5,bZ ks)],H,[]⟩ a'->jA V' (fun z=>T z/\z≠f.id) fs->K a' V'.w):c2.wpIn (fz none) 0 P (Exit.then K Q) a V.w:=by
 rw[aml];refine wpIn_region ?_;have hH:=dK.H;refine qg (os1:=[F3.toList.getD 0 default]) (os2:=[LH]) (i:=0) (aL:=nR [(5,.lit f.v)]) (H:=H) (ds:=[]) (bf:=[]) (env':=nR [(5,.lit f.v),(11,.lit f.v)]) (H':=H) (N9:=[]) (aT:=[]) (ps:=[]) (r:=none) zQ trivial zQ hG hH dK.aL dK.dh ?_;intro V1 a1 s1 g1 hh1 e1 d1;have yV:(List.range F3.size).drop (0+[F3.toList.getD 0 default].length)=[1]:=zQ
 rw[yV];have Ko:=hF.step s1;obtain⟨cap,c,t,hk⟩:=Ko.Td f hf ht;have hM:=Ko.mt f hf ht;have Oa:=Ko.off f hf ht;have h11:=bW (e1.get 11);have jf:#[]++#[Operand.tmp 11,Operand.func 185].map a1.eval++#[]=#[f.v,.func (.func 185) #[] #[]]:=by
  have e1:a1.eval (.tmp 11)=f.v:=h11;have e2:a1.eval (.func 185) = .func (.func 185) #[] #[]:=rfl;simp[e1,e2]
 refine yX (o:=LH) (g:=.func 184) (f:=184) (fn:=ams) (us:=#[]) (vs:=#[]) (args:=#[.tmp 11,.func 185]) (ts:=#[83,240]) zQ zQ zQ zQ zQ rfl (by rw[jf];exact callsIn_wide.2 (QK V1.w f.v f.mo cap f.l c t hk bL)) ?_;rintro e w' ⟨rfl,uH,ks,c',hp,Ob,hk'⟩;refine⟨_,rfl,?_⟩;show K (a1.put LH.dst (.tuple #[])) w';have Xw:=hk.lt;have hn:V1.H.length=H.length:=by rw[hh1]
 have hal:Kq V1.H.length V1 ⟨w',fun b=>V1.M b/\b≠f.mo,V1.H,V1.ρ⟩:=⟨fun b hb hnm=>by
  have fF:b≠f.mo:=fun e=>hnm (e▸hM);exact⟨uH.keep b hb fF,fun h=>hnm h.1⟩,fun id dU _=>⟨rfl,uH.keep _ (g1.lt id dU) (Oa id dU),.inl rfl⟩⟩
 refine next ⟨w',fun b=>V1.M b/\b≠f.mo,V1.H,V1.ρ⟩ _ ks hp Ob ?_ ?_ ?_ ?_
 .refine (s1.x _).trans ⟨uH.os,uH.tape,uH.output,uH.size,uH.drawn,fun b hb hn hB=>⟨uH.keep b hb hB,⟨fun h=>h.1,fun h=>⟨h,hB⟩⟩⟩,hal.data,yM,fun id dU=>.inl ⟨dU,rfl⟩,fun id dU=>?_⟩;exact .refl dU rfl rfl (uH.keep _ (g1.lt id dU) (Oa id dU))
 .refine aD.lF hal g1 (fun id dU=>y25 (g1.lt id dU) uH.size) g1.inj fun id o ho=>⟨.inl ⟨(yC.1 ho).1,ho,?_⟩,fun bA=>⟨g1.gW id o ho bA,Oa id (yC.1 ho).1⟩⟩;rw[hn];exact BF id o (by rw[<- hh1];exact ho)
 .refine ⟨?_,hh1,by rw[nT];have:=d1;cases UW:a1.defers with|nil=>exact .nil|cons d l=>rw[UW]at this;cases this⟩;have h1:=eF.lF hal e1 (by
   rw[hn];have h5:=Nat.ble_eq_true_of_le h6;have h2:=Nat.ble_eq_true_of_le zO;have h0:=Nat.ble_eq_true_of_le zO;simp[nR,aC,vk,List.range,List.range.loop,AV.gH,AV.bP];omega)
  have h2:=h1.ae8 (t:=5) (x:=bZ ks) (by
   have h5:=bW (e1.get 5);rw[h5];exact .pure _ _ (hk'.rep fun h=>h.2 rfl))
  have h3:=h2.put LH.dst (x:=.aP) (v:=.tuple #[]) (.aP _);refine eF.ae9 h3 zQ fun j hj=>?_;have QM:j<28:=by
   have:(gX ((nR [(5,AV.lit f.v),(11,AV.lit f.v)]).set 5 (bZ ks)) LH.dst AV.aP).length=28:=zQ
   omega
  by_cases h11:j=11
  .subst h11;exact .inr zQ
  .left;have:∀j,j<28->j≠11->(nR [(5,bZ ks)]).getD j .aP=(gX ((nR [(5,AV.lit f.v),(11,AV.lit f.v)]).set 5 (bZ ks)) (some 12) AV.aP).getD j .aP:=by
    intro j hj fF;have:=mem_range.2 hj;simp only[List.range,List.range.loop,yH,y15,or_false]at this;rcases this with rfl|rfl|rfl|rfl|rfl|rfl|rfl|rfl|rfl|rfl|rfl|rfl|rfl|rfl|rfl|rfl|rfl|rfl|rfl|rfl|rfl|rfl|rfl|rfl|rfl|rfl|rfl|rfl<;>first|rfl|exact absurd rfl fF
   rw[show LH.dst=some 12 by kernel_rfl];exact this j QM h11
 .refine ⟨fun g hg hT=>?_,fun g hg hT=>?_,fun g hg hT=>?_,fun g hg g' hg' h1 h2=>Ko.nS g hg g' hg' h1.1 h2.1⟩
  .obtain ⟨cap,c,t,Oc⟩:=Ko.Td g hg hT.1;have fF:g.mo≠f.mo:=fun e=>hT.2 (Ko.nS g hg f hf hT.1 ht e);exact⟨cap,c,t,Oc.JW (uH.keep _ Oc.lt fF)⟩
  .exact ⟨Ko.mt g hg hT.1,fun e=>hT.2 (Ko.nS g hg f hf hT.1 ht e)⟩
  .exact Ko.off g hg hT.1
theorem Xx es(g n:Nat)xs(LG:∀e∈es,e.2.bP 7=true)(wR:∀x∈xs,AV.gH 7 x=true):∀(i:Nat)o,(HB es g n xs)[i]?=some o->o.bP 7:=by
 intro i o h;have hi:=(yC.1 h).1
 match i,hi with
 |0,_=>injection h with h;subst h;rfl
 |1,_=>injection h with h;subst h;exact LG
 |2,_=>injection h with h;subst h;rfl
 |3,_=>injection h with h;subst h;trivial
 |4,_=>injection h with h;subst h;trivial
 |5,_=>injection h with h;subst h;rfl
 |6,_=>injection h with h;subst h;exact wR
theorem uI fs(n:Nat):∀e∈gV fs,e.2.bP n=true:=by
 intro e he;obtain⟨f,_,rfl⟩:=yG.1 he;rfl
theorem BG v(n:Nat):∀x∈au v,AV.gH n x=true:=by
 intro x hx;obtain⟨y,_,rfl⟩:=yG.1 hx;rfl
def View.cut(V:View)(m:Nat):View:={ V with H:=V.H.take m }
theorem Kr(V:View)m:Kq m V (V.cut m):=⟨fun b _ h=>⟨rfl,h⟩,fun id h1 _=>⟨rfl,rfl,.inl (by show(V.H.take m)[id]?=_;grind)⟩⟩
theorem CB{V}{m}(hG:aD G V)(BF:∀ i(o:ah),i<m->V.H[i]?=some o->o.bP m):aD G (V.cut m):=by
 have hl:∀i,i<(V.cut m).H.length->i<m/\i<V.H.length:=fun i hi=>by
  have:i<(V.H.take m).length:=hi;grind
 refine aD.lF (Kr V m) hG (fun id dU=>hG.lt id (hl id dU).2) (fun i j hi hj e=>hG.inj i j (hl i hi).2 (hl j hj).2 e) fun id o ho=>?_;have bg:=hl id (yC.1 ho).1;have ho':V.H[id]?=some o:=by
  have:(V.H.take m)[id]?=some o:=ho;grind
 exact⟨.inl ⟨bg.1,ho',BF id o bg.1 ho'⟩,hG.gW id o ho'⟩
theorem CG{V0 V}{m}(hs:Step V0 V)(hm:V0.H.length<=m):Step V0 (V.cut m) where
 os:=hs.os
 tape:=hs.tape
 output:=hs.output
 size:=hs.size
 drawn:=hs.drawn
 keep:=hs.keep
 data:=hs.data
 bL:=by
  show _<=(V.H.take m).length;rw[y22];have:=hs.bL;omega
 fresh id dU:=hs.fresh id (by
  have:id<(V.H.take m).length:=dU;grind)
 eP id dU:=by
  have h:=hs.eP id dU;unfold dL at h |-;have e:(V.cut m).H[id]?=V.H[id]? := by show(V.H.take m)[id]?=_;grind
  rw[e];exact h
theorem Ai{B}{V V'}(h:rJ B V V'){id off}{v}(hr:dI V (.ptr id off) v){cs cs'}(hb:V.H[id]?=some (.box cs))(hb':V'.H[id]?=some (.box cs')):dI V' (.ptr id off) v:=by
 obtain⟨_,rfl⟩:=jr hr;have ho:=h.eP id (yC.1 hb).1;unfold dL at ho;rw[hb,hb']at ho;have e:=ho;rw[<- e];exact .ptr id off ⟨_,hb',rfl⟩
theorem Od{B}{V V'}(h:rJ B V V'){sz}{t}{xs}{v}(hr:dI V (.sl sz t xs) v):dI V' (.sl sz t xs) v:=.pure _ _ ((jF hr).step h.data)
structure QN(l:List CE)(fs:List Fe):Prop where
 iw:∀f∈fs,Ids f.l
 mem:∀f∈fs,∀x,x∈f.l↔x∈l/\x.after=f.id
 len:∀f∈fs,f.l.length<=1000000
 all:∀x∈l,∃f∈fs,f.id=x.after
 iV:∀x∈l,fO x.dv/\fO x.sq/\fO x.gU
theorem QN.oZ{l}{fs}(h:QN l fs)(hI:Ids l){f}(hf:f∈fs){ks}(hp:ks.Perm f.l)(hs:ks.Pairwise (fun x y=>Kn y x=false)):ks=oZ l f.a f.b f.c:=by
 have hi:=(Perm.pairwise_iff (fun{a b} h=>fun e=>h e.symm) hp).2 (h.iw f hf);have hd:F4 ks:=(hs.and hi).imp fun{a b} h=>by
  rcases Oe h.2 with h1|h1
  .exact h1
  .grind
 exact hd.ext (Kt hI f.a f.b f.c) fun x=>by
  rw[hp.mem_iff,h.mem f hf,jc hI];rfl
theorem QN.none{l}{fs}(h:QN l fs)(hI:Ids l){a b c}(hn:∀f∈fs,f.id≠(a,b,c)):Sq.oZ l a b c=[]:=by
 cases hk:Sq.oZ l a b c with
 |nil=>rfl
 |cons y r =>
  have hy:y∈Sq.oZ l a b c:=by rw[hk];simp
  obtain⟨h1,h2⟩:=(jc hI).1 hy;obtain⟨f,hf,e⟩:=h.all y h1;grind
def mq(v:List CE):List ID:=v.map CE.id
def jG(b:Nat):Value:=.pointer (some ⟨b,0,none⟩)
def Gr(l:List CE)(fs:List Fe)(n:Nat)(a b c:Int):Prop:=∀(V:View)(T:ID->Prop)(acc:List CE)(g:Nat),aD G V->V.H=HB (gV fs) g acc.length (au acc)->jA V T fs ->
 (T (a,b,c)/\∀z∈mq (bX l n a b c),T z)->((a,b,c)::mq (bX l n a b c)).Nodup->acc.length+(bX l n a b c).length<=1000000 ->
 CallsIn Fence.wide 0 P 183 #[xL a b c,jG (V.ρ 2),jG (V.ρ 0),jG (V.ρ 5)] V.w fun e w'=>e = .returned (.tuple #[])/\∃V' g',V'.w=w'/\rJ (QL T fs) V V'/\aD G V'/\V'.H=HB (gV fs) g' (acc++bX l n a b c).length (au (acc++bX l n a b c)) /\
  jA V' (fun z=>T z/\z≠(a,b,c)/\z∉mq (bX l n a b c)) fs
def op7:Oper:=LD.toList.getD 3 default
def JX:Func:=(P.funcs[183]?).getD default
theorem Xy{V}{a b c}{v}(h:dI V (oO a b c) v):v=xL a b c:=fC rfl h
theorem Tg{V}{v}(h:dI V fnB v):v = .func (.func 183) #[] #[jG (V.ρ 2),jG (V.ρ 0),jG (V.ρ 5)]:=by
 obtain⟨us,vs,rfl,h1,h2⟩:=yY h;have e1:=length_eq_zero_iff.1 h1.1;obtain⟨x,y,z,rfl⟩:∃x y z,vs=[x,y,z]:=by
  have:=h2.1
  match vs,this with
  |[x,y,z],_=>exact⟨x,y,z,rfl⟩
 subst e1;obtain⟨_,k1⟩:=jr (h2.2 0 zD);obtain⟨_,k2⟩:=jr (h2.2 1 zD);obtain⟨_,k3⟩:=jr (h2.2 2 zD);have k1:x=jG (V.ρ 2):=k1;have k2:y=jG (V.ρ 0):=k2;have k3:z=jG (V.ρ 5):=k3;grind
theorem Xz{l:List CE}{fs:List Fe}{V0 V:View}{a:Act}{T:ID->Prop}{ks acc:List CE}{x:CE}{n g k:Nat}{m:Int}(h0:V0.H.length<=7)(hs:Step V0 V)(hG:aD G V)(dK:jO V ⟨nR [(7,.ptr 7 0),(13,bZ ks),(14,int m),(15,int k)],HB (gV fs) g acc.length (au acc)++[.box (aQ x)],[]⟩ a)(hF:jA V T fs)(hB:Gr l fs n x.dv x.sq x.gU)(hT:T x.id/\∀z∈mq (bX l n x.dv x.sq x.gU),T z)(hn:(x.id::mq (bX l n x.dv x.sq x.gU)).Nodup)(bL:acc.length+(bX l n x.dv x.sq x.gU).length<=1000000){Q:Exit->Act->World->Prop}(next:∀V' a' g',rJ (QL T fs) V0 V'->aD G V'->jO V' ⟨nR [(13,bZ ks),(14,int m),(15,int k)],HB (gV fs) g' (acc++bX l n x.dv x.sq x.gU).length (au (acc++bX l n x.dv x.sq x.gU)),[]⟩ a' ->
  jA V' (fun z=>T z/\z≠x.id/\z∉mq (bX l n x.dv x.sq x.gU)) fs->Q .normal a' V'.w):c7.wpIn (fz none) 0 P Q a V.w:=by
 rw[amm];refine wpIn_region ?_;have hH:=dK.H;refine qg (os1:=[LD.toList.getD 0 default,LD.toList.getD 1 default,LD.toList.getD 2 default]) (os2:=[op7]) (i:=0) (aL:=nR [(7,.ptr 7 0),(13,bZ ks),(14,int m),(15,int k)]) (H:=HB (gV fs) g acc.length (au acc)++[.box (aQ x)]) (ds:=[]) (bf:=[])
  (env':=nR [(7,.ptr 7 0),(13,bZ ks),(14,int m),(15,int k),(23,fnB),(24,.ptr 7 0),(25,oO x.dv x.sq x.gU)]) (H':=HB (gV fs) g acc.length (au acc)++[.box (aQ x)]) (N9:=[]) (aT:=[]) (ps:=[]) (r:=none) zQ trivial zQ hG hH dK.aL dK.dh ?_
 intro V1 a1 s1 g1 hh1 e1 d1;have yV:(List.range LD.size).drop (0+[LD.toList.getD 0 default,LD.toList.getD 1 default,LD.toList.getD 2 default].length)=[3]:=zQ
 rw[yV];have Ko:=hF.step s1;have h23:=Tg (e1.get 23);have h25:a1.eval (.tmp 25)=xL x.dv x.sq x.gU:=Xy (e1.get 25);have BF:∀(i:Nat)(o:ah),i<7->V1.H[i]?=some o->o.bP 7:=fun i o hi ho=>by
  rw[hh1,getElem?_append_left (by exact hi)]at ho;exact Xx _ _ _ _ (uI fs 7) (BG acc 7) i o ho
 have gc:=CB (m:=7) g1 BF;have hc:(V1.cut 7).H=HB (gV fs) g acc.length (au acc):=by show V1.H.take 7=_;rw[hh1];rfl
 have hFc:jA (V1.cut 7) T fs:=Ko.told rfl Ko.mt fun i hi=>⟨i,by
  have:i<(V1.H.take 7).length:=hi;rw[y22]at this;omega,rfl⟩
 have XA:=hB (V1.cut 7) T acc g gc hc hFc hT hn bL;have jf:#[]++#[Operand.tmp 25].map a1.eval++#[jG (V1.ρ 2),jG (V1.ρ 0),jG (V1.ρ 5)]=#[xL x.dv x.sq x.gU,jG (V1.ρ 2),jG (V1.ρ 0),jG (V1.ρ 5)]:=by simp[h25]
 refine yX (o:=op7) (g:=.tmp 23) (f:=183) (fn:=JX) (us:=#[]) (vs:=#[jG (V1.ρ 2),jG (V1.ρ 0),jG (V1.ρ 5)]) (args:=#[.tmp 25]) (ts:=#[53]) zQ zQ zQ zQ zQ h23 (by rw[jf];exact XA) ?_;rintro e w' ⟨rfl,V',g',rfl,k1,k2,k3,k4⟩;refine⟨_,rfl,?_⟩;show Q .normal (a1.put op7.dst (.tuple #[])) V'.w;have ec:eF (V1.cut 7) (nR [(13,bZ ks),(14,int m),(15,int k)]) a1:=eF.lF (Kr V1 7) (e1.ae9 zQ fun j hj=>by
  have QM:j∈List.range 28:=mem_range.2 hj;simp only[List.range,List.range.loop,yH,y15,or_false]at QM;rcases QM with rfl|rfl|rfl|rfl|rfl|rfl|rfl|rfl|rfl|rfl|rfl|rfl|rfl|rfl|rfl|rfl|rfl|rfl|rfl|rfl|rfl|rfl|rfl|rfl|rfl|rfl|rfl|rfl<;>first|exact .inr rfl|exact .inl rfl) zQ
 have XB:(V1.cut 7).H[2]?=some (.box [.mp 1]):=by rw[hc];rfl
 have Ti:(V1.cut 7).H[0]?=some (.box [.aU 6 g 0 acc.length]):=by rw[hc];rfl
 have hb5:(V1.cut 7).H[5]?=some (.box [fnB]):=by rw[hc];rfl
 refine next V' _ g' (((CG (hs.trans s1) zO).x _).trans k1) k2 ⟨?_,k3,by rw[nT];have:=d1;cases UW:a1.defers with|nil=>exact .nil|cons d l=>rw[UW]at this;cases this⟩ k4
 have e2:eF V' (nR [(13,bZ ks),(14,int m),(15,int k)]) a1:=⟨ec.1,fun j hj=>by
  have hr:=ec.2 j hj;have QM:j∈List.range 28:=mem_range.2 hj;simp only[List.range,List.range.loop,yH,y15,or_false]at QM;rcases QM with rfl|rfl|rfl|rfl|rfl|rfl|rfl|rfl|rfl|rfl|rfl|rfl|rfl|rfl|rfl|rfl|rfl|rfl|rfl|rfl|rfl|rfl|rfl|rfl|rfl|rfl|rfl|rfl<;>first|exact .aP _|skip
  .exact Ai k1 hr XB (by rw[k3];rfl)
  .exact Ai k1 hr Ti (by rw[k3];rfl)
  .exact Ai k1 hr hb5 (by rw[k3];rfl)
  .exact Od k1 hr
  .rw [bW hr];exact .pure _ _ (.lit _)
  .rw [bW hr];exact .pure _ _ (.lit _)⟩
 have e3:=e2.put op7.dst (x:=.aP) (v:=.tuple #[]) (.aP _);exact e3
theorem wS v w:mq (v++w)=mq v++mq w:=by simp[mq]
theorem BH(x:CE)w:mq (x::w)=x.id::mq w:=rfl
def nC(l:List CE)(n:Nat)(ks:List CE)(k:Nat):List CE:=(ks.drop k).flatMap fun y=>y::bX l n y.dv y.sq y.gU
theorem Ku l(n:Nat)ks(k:Nat)(h:ks.length<=k):nC l n ks k=[]:=by unfold nC;rw[y17 h];rfl
theorem Og l(n:Nat)ks(k:Nat)h:nC l n ks k=(ks[k]::bX l n ks[k].dv ks[k].sq ks[k].gU)++nC l n ks (k+1):=by grind[nC,y01]
theorem Aj{T T'}{fs}(h:∀z,T' z->T z):∀b,QL T' fs b->QL T fs b:=fun _ ⟨f,hf,ht,e⟩=>⟨f,hf,h _ ht,e⟩
theorem Oh{l}{fs}{n}{ks}(Ew:ks.length<=1000000)(IH:∀y∈ks,Gr l fs n y.dv y.sq y.gU){Q}:∀(d k:Nat),ks.length-k=d->k<=ks.length->∀ V(a:Act)T(acc:List CE)g,
 aD G V->jO V ⟨nR [(13,bZ ks),(14,int ks.length),(15,int k)],HB (gV fs) g acc.length (au acc),[]⟩ a->jA V T fs->(∀z∈mq (nC l n ks k),T z)->(mq (nC l n ks k)).Nodup->acc.length+(nC l n ks k).length<=1000000 ->
 (∀V' a' g',rJ (QL T fs) V V'->aD G V'->jO V' ⟨aC 28 [],HB (gV fs) g' (acc++nC l n ks k).length (au (acc++nC l n ks k)),[]⟩ a'->jA V' (fun z=>T z/\z∉mq (nC l n ks k)) fs->Q (.exit 0) a' V'.w)->eO (fz none) 0 P Xa Q a V.w:=by
 intro d
 induction d with
 |zero =>
  intro k hd hk V a T acc g hG dK hF hT hN bL next
  have h0:V.H.length=7:=by rw[dK.H];rfl
  refine eO.mono (pEb (gV fs) g acc.length (au acc) k ks.length (bZ ks) (y20 zO) V V a h0 (Step.refl V) hG dK) ?_;rintro e a' w' ⟨V',rfl,k1,k2,k3,k4⟩;have hr:=Ku l n ks k zO;rw[hr]at next
  cases e<;>first|exact k4.elim|skip
  rename_i i;obtain rfl:i=0:=k4;refine next V' a' g (k1.x _) k2 ?_ ((hF.step k1).mono fun z h=>h.1)
  rw[y23];exact k3
 |succ d ih =>
  intro k hd hk V a T acc g hG dK hF hT hN bL next
  have bg:k<ks.length:=zO
  have hx:=yA bg;have hr:=Og l n ks k bg;have QO:=y03 bg;generalize hxe:ks[k]=x at *;have h0:V.H.length=7:=by rw[dK.H];rfl
  rw[hr]at hT hN bL next
  rw[wS,BH]at hT hN;obtain⟨n1,n2,n3⟩:=nodup_append.1 hN;have aik:acc.length+1+(bX l n x.dv x.sq x.gU).length+(nC l n ks (k+1)).length<=1000000:=by grind
  refine eO.next ?_;show Xa.wpIn (fz none) 0 P _ a V.w;rw[Xu];refine bn.seq (p4b (gV fs) g acc.length (au acc) ks k ks.length (y19 zO)) h0 (Step.refl V) hG dK fun V1 a1 s1 g1 k1=>?_;refine bn.seq (pIb (gV fs) g acc.length (au acc) ks k ks.length) h0 s1 g1 k1 fun V2 a2 s2 g2 k2=>?_;refine Go.wpIn_seq (Go.wpIn_block ?_);refine bn.seq (p5b (gV fs) g acc.length (au acc) ks k x ks.length ⟨zO,by rw[y31,sF,hx];rfl⟩) h0 s2 g2 k2 fun V3 a3 s3 g3 k3=>?_;refine bn.seq (p6b (gV fs) g acc.length (au acc) ks k x ks.length (ay acc).symm zO) h0 s3 g3 k3 fun V4 a4 s4 g4 k4=>?_;have e1:acc.length+1=(acc++[x]).length:=zS
  have e2:au acc++[aQ x]=au (acc++[x]):=by rw[sN,gy]
  rw[e1,e2]at k4;refine Xz (Nat.le_of_eq h0) s4 g4 k4 (hF.step s4) (IH x QO) ⟨hT _ zS,fun z hz=>hT z (by simp[hz])⟩ n1 (by rw[<- e1];omega) fun V5 a5 g5 s5 g5' k5 f5=>?_;show c8.wpIn (fz none) 0 P _ a5 V5.w;have h05:V5.H.length=7:=by rw[k5.H];rfl
  refine p8b (gV fs) g5 (acc++[x]++bX l n x.dv x.sq x.gU).length (au (acc++[x]++bX l n x.dv x.sq x.gU)) ks k ks.length zO V5 V5 a5 _ _ h05 (Step.refl V5) g5' k5 fun V6 a6 s6 g6 k6=>?_;have e3:acc++[x]++bX l n x.dv x.sq x.gU++nC l n ks (k+1)=acc++(x::bX l n x.dv x.sq x.gU++nC l n ks (k+1)):=zS
  refine ih (k+1) zO zO V6 a6 (fun z=>T z/\z≠x.id/\z∉mq (bX l n x.dv x.sq x.gU)) (acc++[x]++bX l n x.dv x.sq x.gU) g5 g6 k6 (f5.step s6) (fun z hz=>?_) n2 (by simp only[yD,yE,y14];omega) fun V7 a7 g7 s7 g7' k7 f7=>?_
  .refine ⟨hT z (by simp[hz]),fun e=>?_,fun hm=>?_⟩
   .exact n3 x.id zS z hz e.symm
   .exact n3 z (by simp[hm]) z hz rfl
  .rw [e3]at k7;refine next V7 a7 g7 ((s5.trans (s6.x _)).trans (s7.mono (Aj fun z h=>h.1))) g7' k7 (f7.mono fun z h=>?_)
   rw[wS,BH]at h;simp only[yI,yH,not_or]at h;exact⟨⟨h.1,h.2.1.1,h.2.1.2⟩,h.2.2⟩
theorem Oi tmps(w:World):(results JX tmps).run P w = .ok (.tuple #[]) w:=by
 have h:JX.results=#[]:=zQ
 unfold results;simp_all
theorem Tj{V}{a b c}{H}(hH:V.H=H)(h2:bY ah.vR V 2)(h0:bY ah.vR V 0)(h5:bY ah.vR V 5) :
 jO V ⟨enB a b c,H,[]⟩ { tmps:=#[xL a b c,jG (V.ρ 2),jG (V.ρ 0),jG (V.ρ 5)]++Array.replicate (JX.ntmps-4) undef,defers:=[] }:=by
 have hn:JX.ntmps=28:=zQ
 refine⟨?_,hH,.nil⟩;have h1:bR V [oO a b c,.ptr 2 0,.ptr 0 0,.ptr 5 0] [xL a b c,jG (V.ρ 2),jG (V.ρ 0),jG (V.ρ 5)] :=
  .cons (.agg _ [.int .i64 a,.int .i64 b,.int .i64 c] rfl fun j hj=>by
   have:=hj
   match j,this with
   |0,_=>exact .pure _ _ (.lit _)
   |1,_=>exact .pure _ _ (.lit _)
   |2,_=>exact .pure _ _ (.lit _)) (.cons (.ptr 2 0 h2) (.cons (.ptr 0 0 h0) (.cons (.ptr 5 0 h5) .nil)))
 have h2:eF V (enB a b c) { tmps:=([xL a b c,jG (V.ρ 2),jG (V.ρ 0),jG (V.ρ 5)]++replicate 24 undef).toArray,defers:=[] }:=by
  refine bR.append h1 ?_;have:=bR.vv (V:=V) (replicate 24 undef);simp_all
 have e:([xL a b c,jG (V.ρ 2),jG (V.ρ 0),jG (V.ρ 5)]++replicate 24 undef).toArray=#[xL a b c,jG (V.ρ 2),jG (V.ρ 0),jG (V.ρ 5)]++Array.replicate (28-4) undef:=by
  simp
 grind
theorem Hw{a:ID}{l}(h:(a::l).Nodup):l.Nodup/\a∉l:=⟨(nodup_cons.1 h).2,(nodup_cons.1 h).1⟩
theorem XC{l:List CE}(hL:QN l fs)(hI:Ids l)(hR:LC fs)(hv:l.length<=1000000):∀n a b c,Deep l n a b c->fO a->fO b->fO c->Gr l fs n a b c:=by
 intro n
 induction n with
 |zero=>intro a b c h;exact h.elim
 |succ n ih =>
  intro a b c hD ha hb hc V T acc g hG hH hF hT hN bL;have h0:V.H.length=7:=by rw[hH];rfl
  have kb:∀i cs,(HB (gV fs) g acc.length (au acc))[i]?=some (.box cs)->bY ah.vR V i:=fun i cs h=>⟨_,by rw[hH];exact h,rfl⟩;have wN:P.funcs[183]?=some JX:=zQ
  have XD:JX.body=some (.seq c0 (.seq c1 (.seq c2 (.seq c3 (.block 0 (.loop Xa)))))):=zQ
  refine CJ wN XD ?_;refine bn.seq (p0b (gV fs) g acc.length (au acc) a b c) h0 (Step.refl V) hG (Tj hH (kb 2 _ rfl) (kb 0 _ rfl) (kb 5 _ rfl)) fun V1 a1 s1 g1 k1=>?_;have Ew:nC l n (oZ l a b c) 0=bX l (n+1) a b c:=by unfold nC;rw[drop_zero];rfl
  by_cases NT:∃f∈fs,f.id=(a,b,c)
  .obtain ⟨f,hf,hfi⟩:=NT;obtain⟨rfl,rfl,rfl⟩:f.a=a/\f.b=b/\f.c=c:=by
    have:(f.a,f.b,f.c)=(a,b,c):=hfi;simpa using this
   refine bn.seq (p1b (gV fs) g acc.length (au acc) f.a f.b f.c f.v true (Te hR hf) (uI fs 7) (bJ acc)) h0 s1 g1 k1 fun V2 a2 s2 g2 k2=>?_;refine Go.wpIn_seq (Xv g2 k2 (Xx _ _ _ _ (uI fs 7) (BG acc 7)) (by show 5<7;decide) (hF.step s2) hR hf hT.1 (hL.len f hf) fun V3 a3 ks hp Ob s3 g3 k3 f3=>?_);obtain rfl:=hL.oZ hI hf hp Ob;have h03:V3.H.length=7:=by rw[k3.H];rfl
   refine bn.seq (amo (gV fs) g acc.length (au acc) (oZ l f.a f.b f.c)) h03 (Step.refl V3) g3 k3 fun V4 a4 s4 g4 k4=>?_;refine Go.wpIn_block (eO.wpIn ?_);obtain⟨n1,n2⟩:=Hw hN;have LB:=Oj l f.a f.b f.c;rw[ay]at k4;refine Oh (l:=l) (fs:=fs) (n:=n) (ks:=oZ l f.a f.b f.c) zO (fun y hy=>?_) _ 0 rfl yN V4 a4 (fun z=>T z/\z≠f.id) acc g g4 k4 (f3.step s4) (by
    rw[Ew];exact fun z hz=>⟨hT.2 z hz,fun e=>n2 (by rw[e]at hz;exact hz)⟩) (by rw[Ew];exact n1) (by rw[Ew];exact bL) ?_
   .obtain ⟨r1,r2,r3⟩:=hL.iV y ((jc hI).1 hy).1;exact ih _ _ _ (hD.Td hy) r1 r2 r3
   .rw [Ew];intro V5 a5 g5 s5 g5' k5 f5;refine⟨.inl rfl,?_,_,Oi _ _,rfl,V5,g5,rfl,?_,g5',k5.H,f5.mono fun z h=>⟨⟨h.1,h.2.1⟩,h.2.2⟩⟩
    .have:=k5.dh;cases UW:a5.defers with
     |nil=>rfl
     |cons d l=>rw[UW]at this;cases this
    .exact ((s2.x _).trans (s3.mono fun b hb=>⟨f,hf,hT.1,hb.symm⟩)).trans ((s4.x _).trans (s5.mono (Aj fun z h=>h.1)))
  .have xY:∀f∈fs,f.id≠(a,b,c):=fun f hf e=>NT ⟨f,hf,e⟩;have hk0:=hL.none hI xY;have Ti:bX l (n+1) a b c=[]:=by rw[bX,hk0];rfl
   refine bn.seq (p1b (gV fs) g acc.length (au acc) a b c (.slice none 0 0) false (N8 hR ha hb hc xY) (uI fs 7) (bJ acc)) h0 s1 g1 k1 fun V2 a2 s2 g2 k2=>?_;refine bn.seq (p2b (gV fs) g acc.length (au acc)) h0 s2 g2 k2 fun V3 a3 s3 g3 k3=>?_;refine bn.seq (amn (gV fs) g acc.length (au acc)) h0 s3 g3 k3 fun V4 a4 s4 g4 k4=>?_;refine Go.wpIn_block (eO.wpIn ?_);refine eO.mono (pEb (gV fs) g acc.length (au acc) 0 0 aK zD V V4 a4 h0 s4 g4 k4) ?_;rintro e a' w' ⟨V',rfl,k1,k2,k3,k4⟩;cases e<;>first|exact k4.elim|skip
   rename_i i;obtain rfl:i=0:=k4;rw[Ti];refine⟨.inl rfl,?_,_,Oi _ _,rfl,V',g,rfl,k1.x _,k2,by rw[y23];exact k3.H,(hF.step k1).mono fun z h=>h.1⟩;have:=k3.dh;cases UW:a'.defers with
   |nil=>rfl
   |cons d l=>rw[UW]at this;cases this
def Tk(i:Nat):Nat:=if i=6 then 7 else if i=7 then 6 else i
def Ol(V:View)(H:List ah):View:={ V with H:=H,ρ:=fun i=>V.ρ (Tk i) }
theorem abG(fs:List Fe)σ:(gV fs).map (fun e=>(e.1,e.2.jv σ))=gV fs:=by
 unfold gV;rw[map_map];congr 1
def H1(es:List (Value×AV))(x:CE):List ah:=[.box [.aU 7 0 0 1],.map es,.box [.mp 1],.aH,.aH,.box [fnB],.box (aQ x),.aN 0 9 false [aQ x]]
def H2(es:List (Value×AV))(x:CE):List ah:=HB es 0 1 [aQ x]++[.box (aQ x)]
theorem Tm{V}{fs}{x}(hH:V.H=H1 (gV fs) x):Lk (Ol V (H2 (gV fs) x)) V Tk where
 w:=rfl
 M _:=Iff.rfl
 ρ _ _:=rfl
 eP i o ho:=by
  rw[hH];have hi:=(yC.1 ho).1
  match i,hi with
  |0,_=>injection ho with ho;subst ho;rfl
  |1,_ =>
   injection ho with ho;subst ho;show some (ah.map (gV fs))=some (ah.map _);rw[abG]
  |2,_=>injection ho with ho;subst ho;rfl
  |3,_=>injection ho with ho;subst ho;rfl
  |4,_=>injection ho with ho;subst ho;rfl
  |5,_=>injection ho with ho;subst ho;rfl
  |6,_=>injection ho with ho;subst ho;rfl
  |7,_=>injection ho with ho;subst ho;rfl
theorem afa fs(x:CE):∀(i:Nat)o,(H2 (gV fs) x)[i]?=some o->o.bP 8:=by
 intro i o ho;have hi:=(yC.1 ho).1
 match i,hi with
 |0,_=>injection ho with ho;subst ho;rfl
 |1,_=>injection ho with ho;subst ho;exact uI fs 8
 |2,_=>injection ho with ho;subst ho;rfl
 |3,_=>injection ho with ho;subst ho;trivial
 |4,_=>injection ho with ho;subst ho;trivial
 |5,_=>injection ho with ho;subst ho;rfl
 |6,_=>injection ho with ho;subst ho;exact BG [x] 8
 |7,_=>injection ho with ho;subst ho;rfl
theorem UY{V}{fs}{x}(hH:V.H=H1 (gV fs) x)(hG:aD G V):aD G (Ol V (H2 (gV fs) x)):=by
 refine aD.Kv (Tm hH) hG (afa fs x) fun i j hi hj e=>?_;unfold Tk at e
 grind
theorem XE{V}{fs}{x}{a}{ks}{m}{k:Nat}(hH:V.H=H1 (gV fs) x)(he:eF V (nR [(7,.ptr 6 0),(13,bZ ks),(14,int m),(15,int k)]) a) :
 eF (Ol V (H2 (gV fs) x)) (nR [(7,.ptr 7 0),(13,bZ ks),(14,int m),(15,int k)]) a:=by
 refine bR.Kv (Tm hH) zQ ?_;have e:AV.kH Tk (nR [(7,.ptr 7 0),(13,bZ ks),(14,int m),(15,int k)])=nR [(7,.ptr 6 0),(13,bZ ks),(14,int m),(15,int k)]:=zQ
 exact he
theorem UZ{V0 V}{fs}{x}(h0:V0.H=HN (gV fs))(hH:V.H=H1 (gV fs) x)(hs:Step V0 V):Step V0 (Ol V (H2 (gV fs) x)):=by
 have hn:V0.H.length=6:=by rw[h0];rfl
 have amt:∀i,i<6->Tk i=i:=fun i hi=>by unfold Tk;grind
 refine⟨hs.os,hs.tape,hs.output,hs.size,hs.drawn,hs.keep,hs.data,?_,fun id dU=>?_,fun id dU=>?_⟩
 .rw [hn];show 6<=8;decide
 .have aqw:id<8:=dU;by_cases h6:id<6
  .have:=hs.fresh id (by rw[hH];show id<8;omega);show(id<V0.H.length/\V.ρ (Tk id)=V0.ρ id)\/_<=V.ρ (Tk id);grind
  .right;have h7:6<=Tk id/\Tk id<8:=by (unfold Tk;grind)
   rcases hs.fresh (Tk id) (by rw[hH];show Tk id<8;omega)with⟨h1,_⟩|h1
   .omega
   .exact h1
 .rw [hn]at dU;have h:=hs.eP id (by rw[hn];exact dU);unfold dL at h |-;rw[h0]at h |-;rw[hH]at h;match id,dU with
  |0,_=>exact h
  |1,_=>exact h
  |2,_=>exact h
  |3,_=>exact h
  |4,_=>exact h
  |5,_=>exact h
def afb(l:List CE)(fs:List Fe)(n:Nat)(a b c:Int):Prop:=∀(V:View)(T:ID->Prop),aD G V->V.H=HN (gV fs)->jA V T fs ->
 (T (a,b,c)/\∀z∈mq (bX l n a b c),T z)->((a,b,c)::mq (bX l n a b c)).Nodup->(bX l n a b c).length<=1000000 ->
 CallsIn Fence.wide 0 P 183 #[xL a b c,jG (V.ρ 2),jG (V.ρ 0),jG (V.ρ 5)] V.w fun e w'=>e = .returned (.tuple #[])/\∃V',V'.w=w'/\rJ (QL T fs) V V'/\aD G V' /\
  ((bX l n a b c=[]/\V'.H=HN (gV fs))\/bX l n a b c≠[]/\∃g',V'.H=HB (gV fs) g' (bX l n a b c).length (au (bX l n a b c)))
theorem abH{l}{fs}(hL:QN l fs)(hI:Ids l)(hR:LC fs)(hv:l.length<=1000000)(n:Nat)a b c(hD:Deep l (n+1) a b c)(ha:fO a)(hb:fO b)(hc:fO c):afb l fs (n+1) a b c:=by
 intro V T hG hH hF hT hN bL;have h0:V.H.length=6:=by rw[hH];rfl
 have kb:∀i cs,(HN (gV fs))[i]?=some (.box cs)->bY ah.vR V i:=fun i cs h=>⟨_,by rw[hH];exact h,rfl⟩;have wN:P.funcs[183]?=some JX:=zQ
 have XD:JX.body=some (.seq c0 (.seq c1 (.seq c2 (.seq c3 (.block 0 (.loop Xa)))))):=zQ
 have nid:∀(i:Nat)(o:ah),(HN (gV fs))[i]?=some o->o.bP (HN (gV fs)).length:=by
  intro i o ho;have hi:=(yC.1 ho).1
  match i,hi with
  |0,_=>injection ho with ho;subst ho;rfl
  |1,_=>injection ho with ho;subst ho;exact uI fs 6
  |2,_=>injection ho with ho;subst ho;rfl
  |3,_=>injection ho with ho;subst ho;trivial
  |4,_=>injection ho with ho;subst ho;trivial
  |5,_=>injection ho with ho;subst ho;rfl
 have nod:∀{V:View}{s:St}{a:Act},jO V s a->s.dh=[]->a.defers=[]:=fun{V s a} k e=>by
  have:=k.dh;rw[e]at this;cases UW:a.defers with
  |nil=>rfl
  |cons d l=>rw[UW]at this;cases this
 refine CJ wN XD ?_;refine bn.seq (p0n (gV fs) a b c) h0 (Step.refl V) hG (Tj hH (kb 2 _ rfl) (kb 0 _ rfl) (kb 5 _ rfl)) fun V1 a1 s1 g1 k1=>?_;have Ew:nC l n (oZ l a b c) 0=bX l (n+1) a b c:=by unfold nC;rw[drop_zero];rfl
 by_cases NT:∃f∈fs,f.id=(a,b,c)
 .obtain ⟨f,hf,hfi⟩:=NT;obtain⟨rfl,rfl,rfl⟩:f.a=a/\f.b=b/\f.c=c:=by
   have:(f.a,f.b,f.c)=(a,b,c):=hfi;simpa using this
  refine bn.seq (p1n (gV fs) f.a f.b f.c f.v true (Te hR hf) (uI fs 6)) h0 s1 g1 k1 fun V2 a2 s2 g2 k2=>?_;refine Go.wpIn_seq (Xv g2 k2 nid (by show 5<6;decide) (hF.step s2) hR hf hT.1 (hL.len f hf) fun V3 a3 ks hp Ob s3 g3 k3 f3=>?_);obtain rfl:=hL.oZ hI hf hp Ob;have LB:=Oj l f.a f.b f.c;have abI:∀y∈oZ l f.a f.b f.c,Gr l fs n y.dv y.sq y.gU:=fun y hy=>by
   obtain⟨r1,r2,r3⟩:=hL.iV y ((jc hI).1 hy).1;exact XC hL hI hR hv n _ _ _ (hD.Td hy) r1 r2 r3
  obtain⟨nd1,nd2⟩:=Hw hN;have hB:∀b,b=f.mo->QL T fs b:=fun b hb=>⟨f,hf,hT.1,hb.symm⟩;have hT1:∀z∈mq (bX l (n+1) f.a f.b f.c),T z/\z≠f.id:=fun z hz=>⟨hT.2 z hz,fun e=>nd2 (by rw[e]at hz;exact hz)⟩;generalize bX l (n+1) f.a f.b f.c=bl at *;generalize oZ l f.a f.b f.c=ks at *;have h03:V3.H.length=6:=by rw[k3.H];rfl
  refine bn.seq (amr (gV fs) ks) h03 (Step.refl V3) g3 k3 fun V4 a4 s4 g4 k4=>?_;rw[ay]at k4;refine Go.wpIn_block (eO.wpIn ?_);have f4:=f3.step s4;have h04:V4.H.length=6:=by rw[k4.H];rfl
  have sx:=((s2.x _).trans (s3.mono hB)).trans (s4.x _);rcases Nat.eq_zero_or_pos ks.length with hz|qh
  .have Ti:bl=[]:=by rw[<- Ew];exact Ku l n ks 0 zO
   refine eO.mono (pEn (gV fs) 0 ks.length (bZ ks) (by rw[hz];decide) V4 V4 a4 h04 (Step.refl V4) g4 k4) ?_;rintro e a' w' ⟨V',rfl,q1,q2,q3,q4⟩;cases e<;>first|exact q4.elim|skip
   rename_i i;obtain rfl:i=0:=q4;exact⟨.inl rfl,nod q3 rfl,_,Oi _ _,rfl,V',rfl,sx.trans (q1.x _),q2,.inl ⟨Ti,q3.H⟩⟩
  .have hx:=yA qh;have hr:=Og l n ks 0 qh;have QO:=y03 qh;generalize hxe:ks[0]=x at *;rw[Ew]at hr;rw[hr]at bL hT1 nd1;rw[wS,BH]at hT1 nd1;obtain⟨n1,n2,n3⟩:=nodup_append.1 nd1;have aik:1+(bX l n x.dv x.sq x.gU).length+(nC l n ks (0+1)).length<=1000000:=by grind
   refine eO.next ?_;show Xa.wpIn (fz none) 0 P _ a4 V4.w;rw[Xu];refine bn.seq (p4n (gV fs) ks 0 ks.length (y19 zO)) h04 (Step.refl V4) g4 k4 fun V5 a5 s5 g5 k5=>?_;refine bn.seq (pIn (gV fs) ks 0 ks.length) h04 s5 g5 k5 fun V6 a6 s6 g6 k6=>?_;refine Go.wpIn_seq (Go.wpIn_block ?_);refine bn.seq (p5n (gV fs) ks 0 x ks.length ⟨zD,by rw[y31,sF,hx];rfl⟩) h04 s6 g6 k6 fun V7 a7 s7 g7 k7=>?_;refine bn.seq (p6n (gV fs) ks 0 x ks.length) h04 s7 g7 k7 fun V8 a8 s8 g8 k8=>?_;have hH8:=k8.H;have gs:=UY hH8 g8;have ss:=UZ k4.H hH8 s8;have ks8:jO (Ol V8 (H2 (gV fs) x)) ⟨nR [(7,.ptr 7 0),(13,bZ ks),(14,int ks.length),(15,int (0:Nat))],HB (gV fs) 0 [x].length (au [x])++[.box (aQ x)],[]⟩ a8:=⟨XE hH8 k8.aL,rfl,by
    have:=nod k8 rfl;rw[this];exact .nil⟩
   refine Xz (V0:=V4) zO ss gs ks8 (f4.step ss) (abI x QO) ⟨hT1 _ zS,fun z hz=>hT1 z (by simp[hz])⟩ n1 (by show 1+_<=_;omega) fun V9 a9 g9 s9 g9' k9 f9=>?_;show c8.wpIn (fz none) 0 P _ a9 V9.w;have h09:V9.H.length=7:=by rw[k9.H];rfl
   refine p8b (gV fs) g9 ([x]++bX l n x.dv x.sq x.gU).length (au ([x]++bX l n x.dv x.sq x.gU)) ks 0 ks.length zO V9 V9 a9 _ _ h09 (Step.refl V9) g9' k9 fun Va aa sa ga ka=>?_;refine Oh (l:=l) (fs:=fs) (n:=n) (ks:=ks) zO abI _ (0+1) rfl qh Va aa (fun z=>(T z/\z≠f.id)/\z≠x.id/\z∉mq (bX l n x.dv x.sq x.gU)) ([x]++bX l n x.dv x.sq x.gU) g9 ga ka (f9.step sa) (fun z hz=>?_) n2 (by simp only[yD,yE,y14];omega) ?_
   .refine ⟨hT1 z (by simp[hz]),fun e=>?_,fun hm=>?_⟩
    .exact n3 x.id zS z hz e.symm
    .exact n3 z (by simp[hm]) z hz rfl
   .intro Vb ab gb sb gb' kb' fb;have e3:[x]++bX l n x.dv x.sq x.gU++nC l n ks (0+1)=bl:=by rw[hr];simp
    rw[e3]at kb';refine⟨.inl rfl,nod kb' rfl,_,Oi _ _,rfl,Vb,rfl,?_,gb',.inr ⟨by rw[hr];simp,gb,kb'.H⟩⟩;exact((sx.trans (s9.mono (Aj fun z h=>h.1))).trans (sa.x _)).trans (sb.mono (Aj fun z h=>h.1.1))
 .have xY:∀f∈fs,f.id≠(a,b,c):=fun f hf e=>NT ⟨f,hf,e⟩;have hk0:=hL.none hI xY;have Ti:bX l (n+1) a b c=[]:=by rw[bX,hk0];rfl
  refine bn.seq (p1n (gV fs) a b c (.slice none 0 0) false (N8 hR ha hb hc xY) (uI fs 6)) h0 s1 g1 k1 fun V2 a2 s2 g2 k2=>?_;refine bn.seq (p2n (gV fs)) h0 s2 g2 k2 fun V3 a3 s3 g3 k3=>?_;refine bn.seq (amq (gV fs)) h0 s3 g3 k3 fun V4 a4 s4 g4 k4=>?_;refine Go.wpIn_block (eO.wpIn ?_);refine eO.mono (pEn (gV fs) 0 0 aK zD V V4 a4 h0 s4 g4 k4) ?_;rintro e a' w' ⟨V',rfl,q1,q2,q3,q4⟩;cases e<;>first|exact q4.elim|skip
  rename_i i;obtain rfl:i=0:=q4;exact⟨.inl rfl,nod q3 rfl,_,Oi _ _,rfl,V',rfl,q1.x _,q2,.inl ⟨Ti,q3.H⟩⟩
def C13:Code:=oW P 144
def Qw:Code:=vg P 144 0
def a0:Code:=Code.hd C13
def a1:Code:=Code.hd (Code.tl C13)
def a2:Code:=Code.hd (Code.tl (Code.tl C13))
def a3:Code:=Code.hd (Code.hd (Code.tl (Code.tl (Code.tl C13))))
def aR:Code:=Code.tl (Code.tl (Code.tl (Code.tl C13)))
def a13:Code:=Code.hd aR
def a14:Code:=Code.hd (Code.tl aR)
def a15:Code:=Code.hd (Code.tl (Code.tl aR))
def aE:Code:=Code.tl (Code.tl (Code.tl aR))
def q4:Code:=Code.hd Qw
def qI:Code:=Code.hd (Code.tl Qw)
def qB:Code:=Code.Tf (Code.hd (Code.tl (Code.tl Qw)))
def q12:Code:=Code.tl (Code.tl (Code.tl Qw))
def q5:Code:=Code.hd qB
def q6:Code:=Code.hd (Code.tl qB)
def q7:Code:=Code.hd (Code.hd (Code.tl (Code.tl qB)))
def q8:Code:=Code.hd (Code.tl (Code.hd (Code.tl (Code.tl qB))))
def q9:Code:=Code.tl (Code.tl (Code.hd (Code.tl (Code.tl qB))))
def q10:Code:=Code.hd (Code.tl (Code.tl (Code.tl qB)))
def q11:Code:=Code.tl (Code.tl (Code.tl (Code.tl qB)))
theorem afc:Qw = .seq q4 (.seq qI (.seq (.block 1 (.seq q5 (.seq q6 (.seq (.seq q7 (.seq q8 q9)) (.seq q10 q11))))) q12)):=zQ
def HO(es kn tm:List (Value×AV)):List ah:=[.box [aK],.map es,.box [.mp 1],.map kn,.map tm]
def qE(cs:List CE)(k:Nat)(l:List (Nat×AV)):List AV:=aC 77 ([(0,bZ cs),(2,.ptr 0 0),(4,.ptr 2 0),(5,.mp 3),(6,.mp 4),(15,bZ cs),(16,int cs.length),(17,int k)]++l)
def dt(x:CE):List AV:=[int x.dv,int x.sq]
section
variable (es kn tm:List (Value×AV)) (cs:List CE) (k i n:Nat) (x:CE) (t:Int) (ok b:Bool) (xs:List (List AV))
theorem b4(bg:k<cs.length):bn P G none 5 q4 ⟨qE cs k [],HO es kn tm,[]⟩ ⟨qE cs k [(18,bool true)],HO es kn tm,[]⟩:=by
 have h:bn P G none 5 q4 ⟨qE cs k [],HO es kn tm,[]⟩ ⟨qE cs k [(18,bool (decide ((k:Int)<cs.length)))],HO es kn tm,[]⟩:=bM [] (aB 77 [0,2,4,5,6,15,16,17,18]) 5 zQ;grind
theorem bI:bn P G none 5 qI ⟨qE cs k [(18,bool true)],HO es kn tm,[]⟩ ⟨qE cs k [],HO es kn tm,[]⟩:=bM [kt (Eq.refl true)] (aB 77 [0,2,4,5,6,15,16,17]) 5 zQ
theorem bE(Ct:cs.length<=k):bN P G none 5 Qw ⟨qE cs k [],HO es kn tm,[]⟩ (.exit 0) ⟨qE cs k [],HO es kn tm,[]⟩:=aG [kf (qF (by omega:¬(k:Int)<cs.length))] (aB 77 [0,2,4,5,6,15,16,17]) 5
theorem b5(h:(0:Int)<=k/\(au cs)[(k:Int).toNat]?=some (aQ x)):bn P G none 5 q5 ⟨qE cs k [],HO es kn tm,[]⟩ ⟨qE cs k [(8,.ptr 5 0)],HO es kn tm++[.box (aQ x)],[]⟩:=bM [ko (.elem (aQ x)),kp h] (aB 77 [0,2,4,5,6,15,16,17,8]) 6 zQ
theorem b6:bn P G none 5 q6 ⟨qE cs k [(8,.ptr 5 0)],HO es kn tm++[.box (aQ x)],[]⟩ ⟨qE cs k [(8,.ptr 5 0),(9,.ptr 6 0)],HO es kn tm++[.box (aQ x),.box (dt x)],[]⟩:=bM [] (aB 77 [0,2,4,5,6,15,16,17,8,9]) 7 zQ
theorem b7(h:bT P 49 tm (fV x.dv x.sq) (int 0) (int t) ok):bn P G none 5 q7 ⟨qE cs k [(8,.ptr 5 0),(9,.ptr 6 0)],HO es kn tm++[.box (aQ x),.box (dt x)],[]⟩ ⟨qE cs k [(8,.ptr 5 0),(9,.ptr 6 0),(10,int t)],HO es kn tm++[.box (aQ x),.box (dt x)],[]⟩:=bM [ko (.lJ (int t) ok),kp h] (aB 77 [0,2,4,5,6,15,16,17,8,9,10]) 7 zQ
theorem b8a(hv:Cq 182 [nP x] (bool false)):bn P G none 5 q8 ⟨qE cs k [(8,.ptr 5 0),(9,.ptr 6 0),(10,int t)],HO es kn tm++[.box (aQ x),.box (dt x)],[]⟩ ⟨qE cs k [(8,.ptr 5 0),(9,.ptr 6 0),(49,bool true)],HO es kn tm++[.box (aQ x),.box (dt x)],[]⟩ :=
 bM [kc [] hv,kt (rfl:(!false)=true),kt (Eq.refl true)] (aB 77 [0,2,4,5,6,15,16,17,8,9,49]) 7 zQ
theorem b8b(hv:Cq 182 [nP x] (bool true))(h:bT P 53 kn (xL x.dv x.sq x.gU) (bool false) (bool true) ok):bn P G none 5 q8 ⟨qE cs k [(8,.ptr 5 0),(9,.ptr 6 0),(10,int t)],HO es kn tm++[.box (aQ x),.box (dt x)],[]⟩ ⟨qE cs k [(8,.ptr 5 0),(9,.ptr 6 0),(49,bool true)],HO es kn tm++[.box (aQ x),.box (dt x)],[]⟩ :=
 bM [kc [] hv,kf (rfl:(!true)=false),ko (.lJ (bool true) ok),kp h,kt (Eq.refl true)] (aB 77 [0,2,4,5,6,15,16,17,8,9,49]) 7 zQ
theorem b8c(hv:Cq 182 [nP x] (bool true))(h:bT P 53 kn (xL x.dv x.sq x.gU) (bool false) (bool false) ok)(ht:(t != 0)=false):bn P G none 5 q8 ⟨qE cs k [(8,.ptr 5 0),(9,.ptr 6 0),(10,int t)],HO es kn tm++[.box (aQ x),.box (dt x)],[]⟩ ⟨qE cs k [(8,.ptr 5 0),(9,.ptr 6 0),(49,bool false)],HO es kn tm++[.box (aQ x),.box (dt x)],[]⟩ :=
 bM [kc [] hv,kf (rfl:(!true)=false),ko (.lJ (bool false) ok),kp h,kf (Eq.refl false),kf ht] (aB 77 [0,2,4,5,6,15,16,17,8,9,49]) 7 zQ
theorem b8d(hv:Cq 182 [nP x] (bool true))(h:bT P 53 kn (xL x.dv x.sq x.gU) (bool false) (bool false) ok)(ht:(t != 0)=true):bn P G none 5 q8 ⟨qE cs k [(8,.ptr 5 0),(9,.ptr 6 0),(10,int t)],HO es kn tm++[.box (aQ x),.box (dt x)],[]⟩ ⟨qE cs k [(8,.ptr 5 0),(9,.ptr 6 0),(49,bool (t != x.tm))],HO es kn tm++[.box (aQ x),.box (dt x)],[]⟩ :=
 bM [kc [] hv,kf (rfl:(!true)=false),ko (.lJ (bool false) ok),kp h,kf (Eq.refl false),kt ht] (aB 77 [0,2,4,5,6,15,16,17,8,9,49]) 7 zQ
theorem b9:bn P G none 5 q9 ⟨qE cs k [(8,.ptr 5 0),(9,.ptr 6 0),(49,bool false)],HO es kn tm++[.box (aQ x),.box (dt x)],[]⟩ ⟨qE cs k [(8,.ptr 5 0),(9,.ptr 6 0)],HO es kn tm++[.box (aQ x),.box (dt x)],[]⟩:=bM [kf (Eq.refl false)] (aB 77 [0,2,4,5,6,15,16,17,8,9]) 7 zQ
theorem b10 kn' tm'(h1:jm P 53 kn (xL x.dv x.sq x.gU) (bool true) kn')(h2:jm P 49 tm (fV x.dv x.sq) (int x.tm) tm'):bn P G none 5 q10 ⟨qE cs k [(8,.ptr 5 0),(9,.ptr 6 0)],HO es kn tm++[.box (aQ x),.box (dt x)],[]⟩ ⟨qE cs k [(8,.ptr 5 0)],HO es kn' tm'++[.box (aQ x),.box (dt x)],[]⟩ :=
 bM [ko (.wT kn'),ko (.wT tm'),kp h1,kp h2] (aB 77 [0,2,4,5,6,15,16,17,8]) 7 zQ
theorem amu(uz:List (Value×AV))(h:Ey P 53 es (xL x.ad x.j6 x.aa) aK aK i uz)(hi:i<uz.length):bn P G none 7 q11 ⟨qE cs k [(8,.ptr 5 0)],HO es kn tm++[.box (aQ x),.box (dt x)],[]⟩ ⟨qE cs k [],HO (CK uz i (.aU 7 0 0 1)) kn tm++[.box (aQ x),.box (dt x),.aN 0 9 false [aQ x]],[]⟩ :=
 bM [ko (.afd aK i uz),kp h,kp (show[aQ x]≠[] by simp),kp (show 1*80<=140737488355328 by decide),kp hi] (aB 77 [0,2,4,5,6,15,16,17]) 8 zQ
theorem amv(uz:List (Value×AV))(h:Ey P 53 es (xL x.ad x.j6 x.aa) aK (.aU 7 0 0 n) i uz)(hn:n=xs.length)(hm:(n+1)*80<=140737488355328)(hi:i<uz.length):bn P G none 8 q11 ⟨qE cs k [(8,.ptr 5 0)],HO es kn tm++[.box (aQ x),.box (dt x)]++[.aN 0 9 false xs],[]⟩ ⟨qE cs k [],HO (CK uz i (.aU 7 1 0 (n+1))) kn tm++[.box (aQ x),.box (dt x),.aN 1 9 false (xs++[aQ x])],[]⟩ :=
 bM [ko (.afd (.aU 7 0 0 n) i uz),kp h,kp (rfl:0=0),kp hn,kp hm,kp hi] (aB 77 [0,2,4,5,6,15,16,17]) 8 zQ
theorem b12(hk:k<1000000):bn P G none 5 q12 ⟨qE cs k [],HO es kn tm,[]⟩ ⟨qE cs (k+1) [],HO es kn tm,[]⟩:=by
 have h:bn P G none 5 q12 ⟨qE cs k [],HO es kn tm,[]⟩ ⟨aC 77 [(0,bZ cs),(2,.ptr 0 0),(4,.ptr 2 0),(5,.mp 3),(6,.mp 4),(15,bZ cs),(16,int cs.length),(17,int (IntKind.wrap .i64 (k+1)))],HO es kn tm,[]⟩:=bM [] (aB 77 [0,2,4,5,6,15,16,17]) 5 zQ;have e:IntKind.wrap .i64 (k+1)=(k+1:Nat):=by
  simp[IntKind.wrap,IntKind.bits];omega
 rw[e]at h;exact h
end
def ALL(_:ID):Prop:=True
theorem wU us:(gV us).length=us.length:=by simp[gV]
def uo(us:List Fe)(f:Fe)(y:AV)(bs:List Fe):List (Value×AV):=gV us++(f.key,y)::gV bs
theorem LJ us(f:Fe)bs:uo us f (.lit f.v) bs=gV (us++f::bs):=by simp[uo,gV]
theorem yZ us(f:Fe)(y z:AV)bs:(uo us f y bs).map (·.1)=(uo us f z bs).map (·.1):=by simp[uo]
theorem CO us(f:Fe)(y:AV)bs:(uo us f y bs).length=us.length+(bs.length+1):=by simp[uo,gV]
theorem Hy us(f:Fe)(y:AV)bs(j:Nat):uq (uo us f y bs) j=if j=us.length then y else uq (uo us f (.lit f.v) bs) j:=by
 unfold uq uo;split
 .grind [getElem?_append_right,wU]
 .rcases y11 j us.length with hl|hl
  .grind [getElem?_append_left,wU]
  .grind [getElem?_append_right,wU]
theorem Kw us(f:Fe)bs(j:Nat):(∃v,uq (uo us f (.lit f.v) bs) j = .lit v)\/us.length+(bs.length+1)<=j:=by
 rw[LJ];rcases y11 j (gV (us++f::bs)).length with h|h
 .obtain⟨k,hm⟩:=LK h;obtain⟨g,_,hg⟩:=yG.1 hm;grind
 .rw[wU]at h;grind
theorem Om us(f:Fe)(y z:AV)bs:CK (uo us f y bs) us.length z=uo us f z bs:=by
 unfold CK uo;have:=(wU us).symm;apply ext_getElem?;grind
def vv(l:List (Value×AV)):Prop:=∀e∈l,∃v,e.2 = .lit v
theorem CP{l}(h:vv l)n:∀e∈l,e.2.bP n=true:=fun e he=>by
 obtain⟨v,hv⟩:=h e he;rw[hv];rfl
theorem abJ{V}{w}{v}{b cap}{l}{c}{t}{g}(h:JR w v b l cap c t)(hw:V.w=w):fZ V b (.aN g 9 false (au l)):=by
 subst hw;refine⟨t,c,h.mo,by rw[ay,<- h.size];exact y26 _ h.le,fun x hx=>?_,fun k j hk hj=>?_⟩
 .obtain ⟨y,_,rfl⟩:=yG.1 hx;rfl
 .rw [ay]at hk;have hx:=yA hk;refine⟨_,h.cell k l[k] j hx hj,?_,?_⟩
  .have hj':=hj;refine Ht l[k] _ ?_;rw[yB,yA hj'];grind
  .have e:(au l).getD k []=aQ l[k]:=by rw[yB,sF,hx];rfl
   rw[e]
   match j,hj with
   |0,_=>exact .pure _ _ (.lit _)
   |1,_=>exact .pure _ _ (.lit _)
   |2,_=>exact .pure _ _ (.lit _)
   |3,_=>exact .pure _ _ (.lit _)
   |4,_=>exact .pure _ _ (.lit _)
   |5,_=>exact .pure _ _ (.lit _)
   |6,_=>exact .pure _ _ (.lit _)
   |7,_=>exact .pure _ _ (.lit _)
   |8,_=>exact .pure _ _ (.lit _)
def focus(V:View)(b:Nat)(H:List ah):View:={ V with H:=H,ρ:=fun i=>if i=7 then b else V.ρ i }
def HF(es kn tm:List (Value×AV))(o5 o6:ah)(g:Nat)(l:List CE):List ah:=HO es kn tm++[o5,o6,.aN g 9 false (au l)]
theorem Fq{V}{us bs}{f}{y}{kn tm}{o5 o6}{l}{g b}(hH:V.H=HO (gV (us++f::bs)) kn tm++[o5,o6]):Kq 7 V (focus V b (HF (uo us f y bs) kn tm o5 o6 g l)):=by
 refine⟨fun _ _ h=>⟨rfl,h⟩,fun id h1 h2=>⟨yK zO,rfl,?_⟩⟩;rw[hH]
 match id,h1 with
 |0,_=>exact .inl rfl
 |1,_=>exact .inr ⟨_,_,rfl,rfl⟩
 |2,_=>exact .inl rfl
 |3,_=>exact .inl rfl
 |4,_=>exact .inl rfl
 |5,_=>exact .inl rfl
 |6,_=>exact .inl rfl
theorem QS{us bs:List Fe}{kn tm:List (Value×AV)}{x:CE}(hG:aD G V)(hH:V.H=HO (gV (us++f::bs)) kn tm++[.box (aQ x),.box (dt x)])(hF:jA V ALL (us++f::bs))(hkn:vv kn)(htm:vv tm) :
 aD G (focus V f.mo (HF (uo us f (.aU 7 0 0 f.l.length) bs) kn tm (.box (aQ x)) (.box (dt x)) 0 f.l)):=by
 have hf:f∈us++f::bs:=zS
 obtain⟨cap,c,t,hk⟩:=hF.Td f hf trivial;have Oa:=hF.off f hf trivial;have hM:=hF.mt f hf trivial;have h7:V.H.length=7:=by rw[hH];rfl
 have h8:(focus V f.mo (HF (uo us f (.aU 7 0 0 f.l.length) bs) kn tm (.box (aQ x)) (.box (dt x)) 0 f.l)).H.length=8:=rfl;have hal:=Fq (y:=.aU 7 0 0 f.l.length) (l:=f.l) (g:=0) (b:=f.mo) hH;refine aD.lF hal hG (fun id dU=>?_) (fun i j hi hj e=>?_) fun id o ho=>?_
 .show (if id=7 then f.mo else V.ρ id)<V.w.heap.size;split
  .exact hk.lt
  .exact hG.lt id zO
 .have e':(if i=7 then f.mo else V.ρ i)=(if j=7 then f.mo else V.ρ j):=e;rw[h8]at hi hj;split at e'<;>split at e'
  .omega
  .exact absurd e'.symm (Oa j zO)
  .exact absurd e' (Oa i zO)
  .exact hG.inj i j zO zO e'
 .have hi:=(yC.1 ho).1;have mt:∀i o,V.H[i]?=some o->i≠7->o.open_=true->(focus V f.mo (HF (uo us f (.aU 7 0 0 f.l.length) bs) kn tm (.box (aQ x)) (.box (dt x)) 0 f.l)).M ((focus V f.mo (HF (uo us f (.aU 7 0 0 f.l.length) bs) kn tm (.box (aQ x)) (.box (dt x)) 0 f.l)).ρ i):=fun i o h fF bA=>by
   show V.M (if i=7 then f.mo else V.ρ i);rw[yK fF];exact hG.gW i o h bA
  have keep:∀i o,i<7->V.H[i]?=some o->o.bP 7->((i<7/\V.H[i]?=some o/\o.bP 7)\/fZ (focus V f.mo (HF (uo us f (.aU 7 0 0 f.l.length) bs) kn tm (.box (aQ x)) (.box (dt x)) 0 f.l)) ((focus V f.mo (HF (uo us f (.aU 7 0 0 f.l.length) bs) kn tm (.box (aQ x)) (.box (dt x)) 0 f.l)).ρ i) o)/\(o.open_=true->(focus V f.mo (HF (uo us f (.aU 7 0 0 f.l.length) bs) kn tm (.box (aQ x)) (.box (dt x)) 0 f.l)).M ((focus V f.mo (HF (uo us f (.aU 7 0 0 f.l.length) bs) kn tm (.box (aQ x)) (.box (dt x)) 0 f.l)).ρ i)):=fun i o hi h h2=>⟨.inl ⟨hi,h,h2⟩,mt i o h zO⟩
  match id,hi with
  |0,_=>injection ho with ho;subst ho;exact keep 0 _ zD (by rw[hH];rfl) rfl
  |1,_ =>
   injection ho with ho;subst ho;refine⟨.inr ?_,fun _=>mt 1 (.map (gV (us++f::bs))) (by rw[hH];rfl) zD rfl⟩;obtain⟨ents,clock,k1,k2,k3,k4,k5,k6⟩:=hG.eP 1 (.map (gV (us++f::bs))) (by rw[hH];rfl);rw[<- LJ]at k2 k3 k6;refine⟨ents,clock,k1,k2.trans (yZ us f _ _ bs),by rw[yZ us f _ (.lit f.v) bs];exact k3,k4,k5,fun j hj=>?_⟩;rw[CO]at hj k6;rw[Hy];split
   .rename_i e;have hr:=k6 j hj;rw[Hy,yL e]at hr;rw[bW hr];refine .aU 7 0 0 f.l.length f.v ⟨by rw[hk.val];rfl,?_⟩;show 0<=0/\(0=0->qR _ 7 9 0 f.l.length f.v);exact⟨yM,fun _=>⟨_,cap,c,t,hk.val,fun _=>rfl,hk.le,hk.max,hk.mo,by rw[y12];exact hk.size⟩⟩
   .rcases Kw us f bs j with⟨v,hv⟩|h
    .have hr:=k6 j hj;rw[hv]at hr |-;rw[bW hr];exact .pure _ _ (.lit _)
    .omega
  |2,_=>injection ho with ho;subst ho;exact keep 2 _ zD (by rw[hH];rfl) rfl
  |3,_=>injection ho with ho;subst ho;exact keep 3 _ zD (by rw[hH];rfl) (CP hkn 7)
  |4,_=>injection ho with ho;subst ho;exact keep 4 _ zD (by rw[hH];rfl) (CP htm 7)
  |5,_=>injection ho with ho;subst ho;exact keep 5 _ zD (by rw[hH];rfl) rfl
  |6,_=>injection ho with ho;subst ho;exact keep 6 _ zD (by rw[hH];rfl) rfl
  |7,_ =>
   injection ho with ho;subst ho;exact⟨.inr (abJ hk rfl),fun _=>hM⟩
theorem unfocus{V}{us bs}{f}{kn tm}{o5 o6}{g}{l}(hG:aD G V)(hH:V.H=HF (uo us f (.aU 7 g 0 l.length) bs) kn tm o5 o6 g l)(hF:jA V ALL (us++bs))(hkn:vv kn)(htm:vv tm)(hl:l≠[]) :
 ∃v,aD G { V with H:=HO (gV (us++⟨f.a,f.b,f.c,v,V.ρ 7,l⟩::bs)) kn tm }/\jA { V with H:=HO (gV (us++⟨f.a,f.b,f.c,v,V.ρ 7,l⟩::bs)) kn tm } ALL (us++⟨f.a,f.b,f.c,v,V.ρ 7,l⟩::bs) /\
  Kq 5 V { V with H:=HO (gV (us++⟨f.a,f.b,f.c,v,V.ρ 7,l⟩::bs)) kn tm }:=by
 have h8:V.H.length=8:=by rw[hH];rfl
 obtain⟨ents,clock,k1,k2,k3,k4,k5,k6⟩:=hG.eP 1 (.map (uo us f (.aU 7 g 0 l.length) bs)) (by rw[hH];rfl);have bL:us.length<(uo us f (.aU 7 g 0 l.length) bs).length:=by rw[CO];omega
 have hr:=k6 us.length bL;rw[Hy,yL rfl]at hr;generalize hv:gI ents us.length=v at hr;refine⟨v,?_⟩;have xZ:=(wV hr).2;rw[hH]at xZ;have xZ:=xZ.2 rfl;obtain⟨A,cap,c,t,rfl,o1,o2,o3,o4,o5'⟩:=xZ;obtain⟨t',c',a1,a2,a3,a4⟩:=hG.eP 7 (.aN g 9 false (au l)) (by rw[hH];rfl);rw[o4]at a1;injection a1 with a1;injection a1 with e1 e2 e3;subst e1 e2;rw[ay]at a2;have hc0:cap≠0:=by grind
 have abI:JR V.w (.slice A l.length cap) (V.ρ 7) l cap c t:=by
  refine⟨by rw[o1 hc0],o4,o2,o3,by rw[y12]at o5';exact o5',fun k x j hk hj=>?_⟩;have LB:=(yC.1 hk).1;obtain⟨u,u1,_,u3⟩:=a4 k j (by rw[ay];exact LB) hj;have e:(au l).getD k []=aQ x:=by rw[yB,sF,hk];rfl
  rw[e]at u3;rw[u1];congr 1
  match j,hj with
  |0,_=>exact bW u3
  |1,_=>exact bW u3
  |2,_=>exact bW u3
  |3,_=>exact bW u3
  |4,_=>exact bW u3
  |5,_=>exact bW u3
  |6,_=>exact bW u3
  |7,_=>exact bW u3
  |8,_=>exact bW u3
 generalize hvv:Value.slice A l.length cap=v at *;have hM7:=hG.gW 7 (.aN g 9 false (au l)) (by rw[hH];rfl) rfl;have hal:Kq 5 V { V with H:=HO (gV (us++⟨f.a,f.b,f.c,v,V.ρ 7,l⟩::bs)) kn tm }:=by
  refine⟨fun _ _ h=>⟨rfl,h⟩,fun id h1 h2=>⟨rfl,rfl,?_⟩⟩;show(HO (gV (us++⟨f.a,f.b,f.c,v,V.ρ 7,l⟩::bs)) kn tm)[id]?=V.H[id]?\/∃e e',V.H[id]?=some (.map e)/\(HO (gV (us++⟨f.a,f.b,f.c,v,V.ρ 7,l⟩::bs)) kn tm)[id]?=some (.map e');rw[hH]
  match id,h1 with
  |0,_=>exact .inl rfl
  |1,_=>exact .inr ⟨_,_,rfl,rfl⟩
  |2,_=>exact .inl rfl
  |3,_=>exact .inl rfl
  |4,_=>exact .inl rfl
 refine⟨aD.lF hal hG (fun id dU=>hG.lt id (by have:id<5:=dU;omega)) (fun i j hi hj e=>hG.inj i j (by have:i<5:=hi;omega) (by have:j<5:=hj;omega) e) fun id o ho=>?_,?_,hal⟩
 .have hi:id<5:=(yC.1 ho).1;have keep:∀i o,i<5->V.H[i]?=some o->o.bP 5->((i<5/\V.H[i]?=some o/\o.bP 5)\/fZ { V with H:=HO (gV (us++⟨f.a,f.b,f.c,v,V.ρ 7,l⟩::bs)) kn tm } (V.ρ i) o)/\(o.open_=true->V.M (V.ρ i)):=fun i o hi h h2=>⟨.inl ⟨hi,h,h2⟩,fun bA=>hG.gW i o h bA⟩
  match id,hi with
  |0,_=>injection ho with ho;subst ho;exact keep 0 _ zD (by rw[hH];rfl) rfl
  |1,_ =>
   injection ho with ho;subst ho;refine⟨.inr ?_,fun _=>hG.gW 1 (.map (uo us f (.aU 7 g 0 l.length) bs)) (by rw[hH];rfl) rfl⟩;have ef:gV (us++⟨f.a,f.b,f.c,v,V.ρ 7,l⟩::bs)=uo us f (.lit v) bs:=by simp[uo,gV,Fe.key]
   rw[ef];refine⟨ents,clock,k1,k2.trans (yZ us f _ _ bs),by rw[yZ us f _ (.aU 7 g 0 l.length) bs];exact k3,k4,k5,fun j hj=>?_⟩;rw[CO]at hj k6;rw[Hy];split
   .rename_i e;rw[e,hv];exact .pure _ _ (.lit _)
   .rename_i fF;rcases Kw us f bs j with⟨u,hu⟩|h
    .have hr:=k6 j hj;rw[Hy,yK fF,hu]at hr;rw[hu,bW hr];exact .pure _ _ (.lit _)
    .omega
  |2,_=>injection ho with ho;subst ho;exact keep 2 _ zD (by rw[hH];rfl) rfl
  |3,_=>injection ho with ho;subst ho;exact keep 3 _ zD (by rw[hH];rfl) (CP hkn 5)
  |4,_=>injection ho with ho;subst ho;exact keep 4 _ zD (by rw[hH];rfl) (CP htm 5)
 .have mem:∀q,q∈us++(⟨f.a,f.b,f.c,v,V.ρ 7,l⟩:Fe)::bs->q=⟨f.a,f.b,f.c,v,V.ρ 7,l⟩\/q∈us++bs:=fun q hq=>by
   rcases yI.1 hq with h|h
   .exact .inr (y07 _ h)
   .rcases yH.1 h with h|h
    .exact .inl h
    .exact .inr (y08 _ h)
  refine⟨fun q hq _=>?_,fun q hq _=>?_,fun q hq _ i hi=>?_,fun q hq r hr _ _ e=>?_⟩
  .rcases mem q hq with rfl|h
   .exact ⟨cap,c,t,abI⟩
   .exact hF.Td q h trivial
  .rcases mem q hq with rfl|h
   .exact hM7
   .exact hF.mt q h trivial
  .have hi5:i<5:=hi;rcases mem q hq with rfl|h
   .intro e;have:=hG.inj i 7 zO zO e;omega
   .exact hF.off q h trivial i zO
  .rcases mem q hq with rfl|h<;>rcases mem r hr with rfl|h'
   .rfl
   .exact absurd e (hF.off r h' trivial 7 zO)
   .exact absurd e.symm (hF.off q h trivial 7 zO)
   .exact hF.nS q h r h' trivial trivial e
end Go.Sq
namespace Go.Sq
open Go Go.Am
theorem pq{α:Type}[DecidableEq α]:∀{L l:List α},L.Nodup->(∀x∈L,x∈l)->L.length<=l.length
 |[],_,_,_=>yN
 |x::L,l,h,hs=>by
  obtain⟨h1,h2⟩:=nodup_cons.1 h;have:=pq  h2 fun y hy=>(mem_erase_of_ne (fun e:y=x=>h1 (by rw[<- e];exact hy))).2 (hs y (yF _ hy));grind
theorem LM{l}{x}:∀{n i},i+n<=l.length->(clN l x n i=false↔∀j y,i<=j->j<i+n->l[j]?=some y->kP x y=false)
 |0,i,_=>by simp[clN];omega
 |n+1,i,h=>by
  have hi:l[i]?=some (l[i]'zO):=yA zO;rw[clN,hi];simp only[Bool.or_eq_false_iff,LM (l:=l)  (n:=n) (i:=i+1) zO];grind
theorem Tn{l}:∀{n k},k+n=l.length->(foN l n k=true↔∀j x,k<=j->l[j]?=some x->okC l j x=true)
 |0,k,h=>by
  simp only[foN];grind
 |n+1,k,h=>by
  have hi:l[k]?=some (l[k]'zO):=yA zO;rw[foN,hi];simp only[y04,Tn (l:=l) (n:=n) (k:=k+1) zO];grind
structure Ok(l:List CE):Prop where
 valid:∀x∈l,dF x=true
 nS:l.Pairwise fun y x=>kP x y=false
theorem afe{l}:foN l l.length 0=true↔Ok l:=by
 rw[Tn zO];constructor
 .intro h;refine⟨fun x hx=>?_,pairwise_iff_getElem.2 fun i j hi hj wQ=>?_⟩
  .obtain ⟨j,hj⟩:=mem_iff_getElem?.1 hx;have:=h j x zO hj;simp only[okC,y04]at this;grind
  .have:=h j l[j] zO (yA hj);simp only[okC,y04,Bool.not_eq_true']at this;exact(LM zO).1 this.2 i l[i] zO zO (yA hi)
 .intro h j x _ hx;obtain⟨hj,rfl⟩:=yC.1 hx;simp only[okC,y04,Bool.not_eq_true'];refine⟨h.valid _ (y03 hj),(LM zO).2 fun i y _ hi hy=>?_⟩;obtain⟨hi',rfl⟩:=yC.1 hy;exact pairwise_iff_getElem.1 h.nS i j hi' hj zO
theorem Oo{x y}(h:kP x y=false):y.id≠x.id:=fun e=>by
 simp only[CE.id,Prod.mk.injEq]at e;simp[kP,e.1,e.2.1,e.2.2]at h
theorem Ok.iw{l}(h:Ok l):Ids l:=h.nS.imp fun{_ _} h=>Oo h
theorem Ok.one{l}(h:Ok l){x y}(hx:x∈l)(hy:y∈l)(e:x.id=y.id):x=y:=by
 obtain⟨i,hi,rfl⟩:=getElem_of_mem hx;obtain⟨j,hj,rfl⟩:=getElem_of_mem hy;rcases Nat.lt_trichotomy i j with h'|h'|h'
 .exact absurd e (pairwise_iff_getElem.1 h.iw i j hi hj h')
 .subst h';rfl
 .exact absurd e.symm (pairwise_iff_getElem.1 h.iw j i hj hi h')
theorem XF{x}(h:dF x=true):x.id≠(0,0,0):=fun e=>by
 simp only[CE.id,Prod.mk.injEq]at e;simp[dF,JM,e.2.1]at h
theorem Ok.id0{l}(h:Ok l){x}(hx:x∈l):x.id≠(0,0,0):=XF (h.valid x hx)
def CQ(l:List CE):Nat->CE->Prop
 |0,c=>c.after=(0,0,0)
 |n+1,c=>∃p∈l,p.id=c.after/\CQ l n p
theorem Gs{l}(h:Ok l):∀{n m}{c},CQ l n c->CQ l m c->n=m
 |0,0,_,_,_=>rfl
 |0,m+1,c,h1,⟨p,hp,e,_⟩=>absurd (e.trans h1) (h.id0 hp)
 |n+1,0,c,⟨p,hp,e,_⟩,h1=>absurd (e.trans h1) (h.id0 hp)
 |n+1,m+1,c,⟨p,hp,e,h1⟩,⟨q,hq,e',h2⟩=>by
  obtain rfl:=h.one hp hq (e.trans e'.symm);rw[Gs h h1 h2]
theorem Ky{l}(h:Ok l):∀{n}{c},c∈l->CQ l n c->∃L:List CE,L.length=n+1/\L.Nodup/\(∀x∈L,x∈l)/\∀x∈L,∃k,k<=n/\CQ l k x
 |0,c,hc,h1=>⟨[c],rfl,zS,by simpa using hc,fun x hx=>⟨0,yM,by rw[mem_singleton.1 hx];exact h1⟩⟩
 |n+1,c,hc,⟨p,hp,e,h1⟩=>by
  obtain⟨L,a1,a2,a3,a4⟩:=Ky h hp h1;have lG:CQ l (n+1) c:=⟨p,hp,e,h1⟩;refine⟨c::L,by simp[a1],nodup_cons.2 ⟨fun hx=>?_,a2⟩,fun x hx=>?_,fun x hx=>?_⟩
  .obtain ⟨k,hk,hl⟩:=a4 c hx;have:=Gs h hl lG;omega
  .grind
  .grind
theorem QT{l}(h:Ok l){n}{c}(hc:c∈l)(hl:CQ l n c):n<l.length:=by
 obtain⟨L,a1,a2,a3,_⟩:=Ky h hc hl;have:=pq a2 a3;omega
theorem Tp{p}{v}:∀{n k},k+n=v.length->fI p v n k=none->∀x j,k<=j->v[j]?=some x->p x=false
 |0,k,h,_,x,j,hj,hx=>by have:=(yC.1 hx).1;omega
 |n+1,k,h,h0,x,j,hj,hx=>by
  have hi:v[k]?=some (v[k]'zO):=yA zO;rw[fI,hi]at h0;simp only at h0;split at h0
  .cases h0
  .by_cases e:j=k
   .grind
   .exact Tp zO h0 x j zO hx
theorem abK{p}{v}(h:fX p v=none):∀x∈v,p x=false:=fun x hx=>by
 obtain⟨j,hj⟩:=mem_iff_getElem?.1 hx;exact Tp zO h x j zO hj
theorem Tq{a b c}{x}:vM a b c x=true↔x.id=(a,b,c):=by simp[vM,CE.id]
theorem Kz{l}(h:Ok l):∀{n}{c},Oq l n c=true↔∃m,m<n/\CQ l m c
 |0,c=>by simp[Oq]
 |n+1,c=>by
  rw[Oq];by_cases hz:(c.ad==0&&(c.j6==0&&c.aa==0))=true
  .rw [yL hz];simp only[true_iff];refine⟨0,zO,?_⟩;simp only[y04,beq_iff_eq]at hz;simp[CQ,CE.after,hz]
  .rw [yK hz];have hz':c.after≠(0,0,0):=fun e=>hz (by simp only[CE.after,Prod.mk.injEq]at e;simp[e]);cases hx:fX (vM c.ad c.j6 c.aa) l with
   |none =>
    simp only[y24,false_iff];rintro⟨m,_,hm⟩;cases m with
    |zero=>exact hz' hm
    |succ m =>
     obtain⟨p,hp,e,_⟩:=hm;have:=abK hx p hp;rw[Bool.eq_false_iff]at this;exact this (Tq.2 e)
   |some j =>
    obtain⟨y,hy,hpy⟩:=QU hx;simp only[hy];have QV:=mem_of_getElem? hy;have ey:=Tq.1 hpy;rw[Kz h ];constructor
    .rintro ⟨m,hm,hl⟩;exact⟨m+1,zO,y,QV,ey,hl⟩
    .rintro ⟨m,hm,hl⟩;cases m with
     |zero=>exact absurd hl hz'
     |succ m =>
      obtain⟨p,hp,e,hl⟩:=hl;obtain rfl:=h.one QV hp (ey.trans e.symm);grind
theorem Ot{l}(h:Ok l){c}(hc:c∈l):Tt l c=true↔∃m,CQ l m c:=by
 rw[Tt,Kz h];exact⟨fun⟨m,_,hm⟩=>⟨m,hm⟩,fun⟨m,hm⟩=>⟨m,by have:=QT h hc hm;omega,hm⟩⟩
theorem Tv{l}:∀{n k},k+n=l.length->(roN l n k=true↔∀j x,k<=j->l[j]?=some x->Tt l x=true)
 |0,k,h=>by
  simp only[roN];grind
 |n+1,k,h=>by
  have hi:l[k]?=some (l[k]'zO):=yA zO;rw[roN,hi];simp only[y04,Tv (l:=l) (n:=n) (k:=k+1) zO];grind
theorem Ak{l}:sO l=true↔Ok l/\∀x∈l,∃m,CQ l m x:=by
 rw[sO,y04,afe,Tv zO];constructor
 .rintro ⟨h,h'⟩;refine⟨h,fun x hx=>?_⟩;obtain⟨j,hj⟩:=mem_iff_getElem?.1 hx;exact(Ot h hx).1 (h' j x zO hj)
 .rintro ⟨h,h'⟩;exact⟨h,fun j x _ hx=>(Ot h (mem_of_getElem? hx)).2 (h' x (mem_of_getElem? hx))⟩
theorem jW{l}{n}{a b c}{z}:z∈bX l (n+1) a b c↔∃y∈oZ l a b c,z=y\/z∈bX l n y.dv y.sq y.gU:=by grind[bX]
theorem Hz{l}(h:Ids l):∀{n}{a b c}{z},z∈bX l n a b c->z∈l
 |0,_,_,_,_,hz=>by cases hz
 |n+1,a,b,c,z,hz=>by
  obtain⟨y,hy,rfl|hz⟩:=jW.1 hz
  .grind [jc]
  .exact Hz h hz
def Tw(l:List CE):Nat->CE->CE->Prop
 |0,z,y=>z=y
 |k+1,z,y=>∃p∈l,p.id=z.after/\Tw l k p y
theorem Tw.one{l}(h:Ok l):∀{k}{z y y'},Tw l k z y->Tw l k z y'->y=y'
 |0,_,_,_,h1,h2=>h1.symm.trans h2
 |k+1,z,y,y',⟨p,hp,e,h1⟩,⟨q,hq,e',h2⟩=>by
  obtain rfl:=h.one hp hq (e.trans e'.symm);exact Tw.one h h1 h2
theorem Tw.CQ{l}{m}:∀{k}{z y},Tw l k z y->Sq.CQ l m y->Sq.CQ l (m+k) z
 |0,_,_,h1,h2=>by cases h1;exact h2
 |k+1,z,y,⟨p,hp,e,h1⟩,h2=>⟨p,hp,e,Tw.CQ h1 h2⟩
theorem Tw.HV{l}{y y'}(hy:y∈l)(e:y.id=y'.after):∀{k}{z},Tw l k z y'->Tw l (k+1) z y
 |0,_,h1=>by cases h1;exact⟨y,hy,e,rfl⟩
 |k+1,z,⟨p,hp,e',h1⟩=>⟨p,hp,e',Tw.HV hy e h1⟩
theorem Al{l}(h:Ids l):∀{n}{y z},y∈l->z∈bX l n y.dv y.sq y.gU->∃k,Tw l (k+1) z y
 |0,_,_,_,hz=>by cases hz
 |n+1,y,z,hy,hz=>by
  obtain⟨y',hy',hz⟩:=jW.1 hz;obtain⟨h1,h2⟩:=(jc h).1 hy';have e:=h2.symm;rcases hz with rfl|hz
  .exact ⟨0,y,hy,e,rfl⟩
  .obtain ⟨k,hk⟩:=Al h h1 hz;exact⟨k+1,hk.HV hy e⟩
theorem Ou{l}(h:Ids l){m}{x y}(hx:x∈l)(hl:CQ l m x)(hy:y∈oZ l x.dv x.sq x.gU):CQ l (m+1) y :=
 ⟨x,hx,((jc h).1 hy).2.symm,hl⟩
theorem y5{l}(h:Ok l):∀{n}{a b c}{m},(∀y∈oZ l a b c,CQ l m y)->(bX l n a b c).Nodup
 |0,_,_,_,_,_=>by simp[bX]
 |n+1,a,b,c,m,hm=>by
  have tree:∀{y z},y∈l->z=y\/z∈bX l n y.dv y.sq y.gU->∃k,Tw l k z y:=fun{y z} hy hz=>by
   rcases hz with rfl|hz
   .exact ⟨0,rfl⟩
   .obtain ⟨k,hk⟩:=Al h.iw hy hz;grind
  rw[bX,Nodup,pairwise_flatMap];refine⟨fun y hy=>?_,?_⟩
  .have QV:=((jc h.iw).1 hy).1;refine nodup_cons.2 ⟨fun hz=>?_,y5 h  fun z hz=>Ou h.iw QV (hm y hy) hz⟩;obtain⟨k,hk⟩:=Al h.iw QV hz;have:=Gs h (hk.CQ (hm y hy)) (hm y hy);omega
  .refine (Kt h.iw a b c).Fp.imp_of_mem fun{y y'} hy hy' fF z hz z' hz' e=>?_;subst e;obtain⟨k,hk⟩:=tree ((jc h.iw).1 hy).1 (yH.1 hz);obtain⟨k',hk'⟩:=tree ((jc h.iw).1 hy').1 (yH.1 hz');have:=Gs h (hk.CQ (hm y hy)) (hk'.CQ (hm y' hy'));obtain rfl:k=k':=zO
   exact fF (hk.one h hk')
theorem vT{l}(h:Ids l){y}(hy:y∈oZ l 0 0 0):CQ l 0 y:=((jc h).1 hy).2
def arE(l:List CE):List CE:=bX l (l.length+1) 0 0 0
variable {l:List CE}
theorem Ao(h:Ok l):(arE l).Nodup:=y5 h fun _ hy=>vT h.iw hy
theorem KA{l}(h:Ok l){n}{a b c}{m}(hm:∀y∈oZ l a b c,CQ l m y):(bX l n a b c).length<=l.length :=
 pq (y5 h hm) fun _ hz=>Hz h.iw hz
theorem Tz{l}(h:Ok l)(hv:l.length<=1000000):∀{n m}{x},x∈l->CQ l m x->l.length<=n+m->Deep l n x.dv x.sq x.gU
 |0,m,x,hx,hl,hn=>by have:=QT h hx hl;omega
 |n+1,m,x,hx,hl,hn=>by
  have hk:∀y∈oZ l x.dv x.sq x.gU,CQ l (m+1) y:=fun y hy=>Ou h.iw hx hl hy;exact⟨by have:=KA h (n:=n+1) hk;omega,fun y hy=>Tz h hv ((jc h.iw).1 hy).1 (hk y hy) zO⟩
theorem XG{l}(h:Ok l)(hv:l.length<=1000000):Deep l (l.length+1) 0 0 0 :=
 ⟨by have:=KA h (n:=l.length+1)  fun _ hy=>vT h.iw hy;omega,fun y hy=>Tz h hv ((jc h.iw).1 hy).1 (vT h.iw hy) zO⟩
theorem Fu{l}(h:Ids l){p z}(hz:z∈l)(e:z.after=p.id):∀{n}{a b c},p∈bX l n a b c->z∈bX l (n+1) a b c
 |0,_,_,_,hp=>by cases hp
 |n+1,a,b,c,hp=>by
  obtain⟨y,hy,rfl|hp⟩:=jW.1 hp
  .exact jW.2 ⟨p,hy,.inr (jW.2 ⟨z,(jc h).2 ⟨hz,e⟩,.inl rfl⟩)⟩
  .exact jW.2 ⟨y,hy,.inr (Fu h hz e hp)⟩
theorem Ov{l}(h:Ids l):∀{n}{a b c}{z},z∈bX l n a b c->z∈bX l (n+1) a b c
 |0,_,_,_,_,hz=>by cases hz
 |n+1,a,b,c,z,hz=>by
  obtain⟨y,hy,rfl|hz⟩:=jW.1 hz
  .grind [jW]
  .exact jW.2 ⟨y,hy,.inr (Ov h hz)⟩
theorem below_le{l}(h:Ids l){n m}(hnm:n<=m){a b c}{z}(hz:z∈bX l n a b c):z∈bX l m a b c:=by
 induction hnm with
 |refl=>exact hz
 |step _ ih=>exact Ov h ih
theorem CR{l}(h:Ids l):∀{m}{z},z∈l->CQ l m z->z∈bX l (m+1) 0 0 0
 |0,z,hz,hl=>jW.2 ⟨z,(jc h).2 ⟨hz,hl⟩,.inl rfl⟩
 |m+1,z,hz,⟨p,hp,e,hl⟩=>Fu h hz e.symm (CR h hp hl)
theorem rT(h:Ok l){z:CE}:z∈arE l↔z∈l/\∃m,CQ l m z:=by
 constructor
 .intro hz;refine⟨Hz h.iw hz,?_⟩;obtain⟨y,hy,rfl|hz⟩:=jW.1 hz
  .exact ⟨0,vT h.iw hy⟩
  .obtain ⟨k,hk⟩:=Al h.iw ((jc h.iw).1 hy).1 hz;exact⟨_,hk.CQ (vT h.iw hy)⟩
 .rintro ⟨hz,m,hm⟩;exact below_le h.iw (by have:=QT h hz hm;omega) (CR h.iw hz hm)
theorem Ok.Fp{l}(h:Ok l):l.Nodup:=h.iw.imp fun{_ _} h e=>h (by rw[e])
theorem abL(h:Ok l):(arE l).length=l.length↔∀x∈l,∃m,CQ l m x:=by
 constructor
 .intro he x hx;refine Classical.byContradiction fun hn=>?_;have xY:x∉arE l:=fun hx'=>hn ((rT h).1 hx').2;have:=pq (l:=l.erase x) (Ao h) fun z hz=>(mem_erase_of_ne (fun e:z=x=>xY (e▸hz))).2 ((rT h).1 hz).1;rw[length_erase_of_mem hx]at this;have:=length_pos_of_mem hx;omega
 .intro ha;have h1:=pq (Ao h) fun z hz=>((rT h).1 hz).1;have h2:=pq (l:=arE l) h.Fp fun z hz=>(rT h).2 ⟨hz,ha z hz⟩;omega
def F5(l:List CE):Int:=if sO l=true then 0 else 130
def BI(l:List CE):List CE:=if sO l=true then arE l else[]
open Go.Proofs Go.eY
theorem Ow l:(BI l).length<=l.length:=by
 unfold BI;split
 .rename_i h;have ok:=(Ak.1 h).1;exact pq (Ao ok) fun z hz=>((rT ok).1 hz).1
 simp
def jg(l:List CE):Int:=if F5 l=0/\BI l=l then 0 else 130
def A8(l:List CE)(c:CE):Int:=if jg l≠0 then jg l else if c.gn=true then 130 else F5 (l++[c])
def rU(l:List CE)(c:CE):List CE:=if jg l≠0 then[]else if c.gn=true then[]else BI (l++[c])
def mY(l:List CE)(j:Nat):List CE:=l.modify j fun x=>{ x with gn:=true }
theorem BJ{l}{j}{x}(h:l[j]?=some x):mY l j=l.set j { x with gn:=true }:=by
 unfold mY;apply ext_getElem?;grind
def Ox(l:List CE)(a b c:Int):Int:=if jg l≠0 then jg l else match fX (vM a b c) l with
 |some _=>0
 |none=>130
def Ez(l:List CE)(a b c:Int):List CE:=if jg l≠0 then[]else match fX (vM a b c) l with
 |some j=>mY l j
 |none=>[]
def Cu(x:CE):Prop:=(fO x.dv/\fO x.sq/\fO x.gU)/\fO x.ad/\fO x.j6/\fO x.aa
def CU(v:List CE):List (Value×AV):=v.map fun x=>(xL x.dv x.sq x.gU,bool true)
def Ap(ts:List (Int×Int×Int)):List (Value×AV):=ts.map fun e=>(fV e.1 e.2.1,int e.2.2)
theorem abM v:vv (CU v):=fun e he=>by
 obtain⟨x,_,rfl⟩:=yG.1 he;simp
theorem abN ts:vv (Ap ts):=fun e he=>by
 obtain⟨x,_,rfl⟩:=yG.1 he;simp
theorem nU{a b a' b'}(h:fV a b=fV a' b'):a=a'/\b=b':=by
 simp only[fV,Value.agg.injEq,Array.mk.injEq,List.cons.injEq,Value.int.injEq,true_and,and_true]at h;exact h
structure HY(v:List CE)(fs:List Fe)(ts:List (Int×Int×Int)):Prop where
 ok:Ok v
 iV:∀x∈v,Cu x
 JY:LC fs
 QW:∀f∈fs,f.l=v.filter (fun x=>decide (x.after=f.id))/\f.l≠[]
 abO:∀x∈v,∃f∈fs,f.id=x.after
 Xb:∀e∈ts,∃x∈v,(x.dv,x.sq,x.tm)=e
 ts2:∀x∈v,(x.dv,x.sq,x.tm)∈ts
theorem LP{v}(h:∀x∈v,Cu x):∀e∈CU v,∃l,keyOf P 53 e.1=some l:=fun e he=>by
 obtain⟨x,hx,rfl⟩:=yG.1 he;obtain⟨⟨h1,h2,h3⟩,_⟩:=h x hx;exact BD h1 h2 h3
variable {v:List CE}
theorem Gt{ts}(h:∀x∈v,Cu x)(h1:∀e∈ts,∃x∈v,(x.dv,x.sq,x.tm)=e):∀e∈Ap ts,∃l,keyOf P 49 e.1=some l:=fun e he=>by
 obtain⟨q,hq,rfl⟩:=yG.1 he;obtain⟨x,hx,rfl⟩:=h1 q hq;obtain⟨⟨h1,h2,h3⟩,_⟩:=h x hx;exact uy h1 h2
theorem aff{v}(h:∀x∈v,Cu x){x}(hx:Cu x)(hm:∃y∈v,y.id=x.id):bT P 53 (CU v) (xL x.dv x.sq x.gU) (bool false) (bool true) true:=by
 obtain⟨y,hy,e⟩:=hm;obtain⟨⟨h1,h2,h3⟩,_⟩:=hx;refine⟨qQ,BD h1 h2 h3,LP h,.inl ⟨rfl,yG.2 ⟨y,hy,?_⟩⟩⟩;simp only[CE.id]at e;grind
theorem LQ{v}(h:∀x∈v,Cu x){x}(hx:Cu x)(hm:∀y∈v,y.id≠x.id):bT P 53 (CU v) (xL x.dv x.sq x.gU) (bool false) (bool false) false:=by
 obtain⟨⟨h1,h2,h3⟩,_⟩:=hx;exact⟨qQ,BD h1 h2 h3,LP h,.inr ⟨rfl,rfl,fun e he hq=>by
  obtain⟨y,hy,rfl⟩:=yG.1 he;exact hm y hy (Gq hq)⟩⟩
theorem afg{v}(h:∀x∈v,Cu x){x}(hx:Cu x)(hm:∀y∈v,y.id≠x.id):jm P 53 (CU v) (xL x.dv x.sq x.gU) (bool true) (CU (v++[x])):=by
 obtain⟨⟨h1,h2,h3⟩,_⟩:=hx;exact⟨qQ,BD h1 h2 h3,LP h,.inr ⟨fun e he hq=>by
  obtain⟨y,hy,rfl⟩:=yG.1 he;exact hm y hy (Gq hq),by simp[CU]⟩⟩
theorem afh{ts}(h:∀x∈v,Cu x)(h1:∀e∈ts,∃x∈v,(x.dv,x.sq,x.tm)=e){x}(hx:Cu x){t}(hm:(x.dv,x.sq,t)∈ts):bT P 49 (Ap ts) (fV x.dv x.sq) (int 0) (int t) true :=
 ⟨lD,uy hx.1.1 hx.1.2.1,Gt h h1,.inl ⟨rfl,yG.2 ⟨_,hm,rfl⟩⟩⟩
theorem abP{ts}(h:∀x∈v,Cu x)(h1:∀e∈ts,∃x∈v,(x.dv,x.sq,x.tm)=e){x}(hx:Cu x)(hm:∀t,(x.dv,x.sq,t)∉ts):bT P 49 (Ap ts) (fV x.dv x.sq) (int 0) (int 0) false :=
 ⟨lD,uy hx.1.1 hx.1.2.1,Gt h h1,.inr ⟨rfl,rfl,fun e he hq=>by
  obtain⟨q,hq',rfl⟩:=yG.1 he;obtain⟨q1,q2⟩:=nU hq;grind⟩⟩
theorem afi{ts}(h:∀x∈v,Cu x)(h1:∀e∈ts,∃x∈v,(x.dv,x.sq,x.tm)=e){x}(hx:Cu x)(hm:∀t,(x.dv,x.sq,t)∈ts->t=x.tm) :
 ∃Fv,jm P 49 (Ap ts) (fV x.dv x.sq) (int x.tm) (Ap Fv)/\(∀e∈Fv,e∈ts\/e=(x.dv,x.sq,x.tm))/\(∀e∈ts,e∈Fv)/\(x.dv,x.sq,x.tm)∈Fv:=by
 by_cases vN:(x.dv,x.sq,x.tm)∈ts
 .obtain ⟨us,bs,e⟩:=append_of_mem vN;refine⟨ts,⟨lD,uy hx.1.1 hx.1.2.1,Gt h h1,.inl ⟨Ap us,Ap bs,int x.tm,?_,?_⟩⟩,fun e he=>.inl he,fun e he=>he,vN⟩
  .rw [e];simp[Ap]
  .rw [e];simp[Ap]
 .refine ⟨ts++[(x.dv,x.sq,x.tm)],⟨lD,uy hx.1.1 hx.1.2.1,Gt h h1,.inr ⟨fun e he hq=>?_,by simp[Ap]⟩⟩,fun e he=>by simpa using he,fun e he=>y07 _ he,zS⟩;obtain⟨q,hq',rfl⟩:=yG.1 he;obtain⟨q1,q2⟩:=nU hq;grind
theorem abQ{us bs}{f}(h:LC (us++f::bs))y:Ey P 53 (uo us f y bs) (xL f.a f.b f.c) aK y us.length (uo us f y bs):=by
 have hf:f∈us++f::bs:=zS
 obtain⟨h1,h2,h3⟩:=h.iV f hf;refine⟨qQ,BD h1 h2 h3,fun e he=>?_,.inl ⟨gV us,gV bs,rfl,(wU us).symm,rfl⟩⟩;have:e.1∈(uo us f y bs).map (·.1):=yG.2 ⟨e,he,rfl⟩;rw[yZ us f y (.lit f.v) bs,LJ]at this;obtain⟨e',he',hq⟩:=yG.1 this;rw[<- hq];exact Cz h e' he'
theorem XH{fs}(h:LC fs){a b c}(ha:fO a)(hb:fO b)(hc:fO c)(hn:∀f∈fs,f.id≠(a,b,c))v(mo:Nat)l:Ey P 53 (gV fs) (xL a b c) aK aK fs.length (uo fs ⟨a,b,c,v,mo,l⟩ aK []) :=
 ⟨qQ,BD ha hb hc,Cz h,.inr ⟨fun e he=>by
  obtain⟨f,hf,rfl⟩:=yG.1 he;exact fun hq=>hn f hf (Gq hq),rfl,(wU fs).symm,by simp[uo,gV,Fe.key]⟩⟩
theorem abR{v}{x}(h:Ok v)(hv:dF x=true)(hi:∀y∈v,y.id≠x.id)(ht:∀y∈v,y.dv=x.dv->y.sq=x.sq->y.tm=x.tm):Ok (v++[x]) where
 valid y hy:=by
  rcases yI.1 hy with h'|h'
  .exact h.valid y h'
  .grind
 nS:=pairwise_append.2 ⟨h.nS,zS,fun y hy z hz=>by
  have h1:=hi y hy;simp only[CE.id,ne_eq]at h1;unfold kP;grind⟩
theorem aea{v}(h:Ok v){x y}(hx:x∈v)(hy:y∈v)(h1:x.dv=y.dv)(h2:x.sq=y.sq):x.tm=y.tm:=by
 have key:∀{a b},kP b a=false->a.dv=b.dv->a.sq=b.sq->a.tm=b.tm:=fun{a b} hc e1 e2=>by
  unfold kP at hc;grind
 obtain⟨i,hi,rfl⟩:=getElem_of_mem hx;obtain⟨j,hj,rfl⟩:=getElem_of_mem hy;rcases Nat.lt_trichotomy i j with h'|h'|h'
 .exact key (pairwise_iff_getElem.1 h.nS i j hi hj h') h1 h2
 .subst h';rfl
 .exact (key (pairwise_iff_getElem.1 h.nS j i hj hi h') h1.symm h2.symm).symm
theorem XI{x}(h:dF x=true):x.tm≠0:=fun e=>by
 simp[dF,e]at h
theorem XJ{us bs:List Fe}{f:Fe}{ts Fv:List (Int×Int×Int)}{x:CE}(h:HY v (us++f::bs) ts)(hx:Cu x)(dK:Ok (v++[x]))(he:f.id=x.after)(w:Value)(mo:Nat)(h1:∀e∈Fv,e∈ts\/e=(x.dv,x.sq,x.tm))(h2:∀e∈ts,e∈Fv)(h3:(x.dv,x.sq,x.tm)∈Fv) :
 HY (v++[x]) (us++⟨f.a,f.b,f.c,w,mo,f.l++[x]⟩::bs) Fv:=by
 have dU:(⟨f.a,f.b,f.c,w,mo,f.l++[x]⟩:Fe).id=f.id:=rfl;have iw:(us++(⟨f.a,f.b,f.c,w,mo,f.l++[x]⟩:Fe)::bs).map Fe.id=(us++f::bs).map Fe.id:=by simp[Fe.id]
 have mem:∀q,q∈us++(⟨f.a,f.b,f.c,w,mo,f.l++[x]⟩:Fe)::bs->q=⟨f.a,f.b,f.c,w,mo,f.l++[x]⟩\/(q∈us++f::bs/\q.id≠f.id):=fun q hq=>by
  have wO:=h.JY.Fp;grind
 have hf:f∈us++f::bs:=zS
 refine⟨dK,fun y hy=>?_,⟨by rw[iw];exact h.JY.Fp,fun q hq=>?_⟩,fun q hq=>?_,fun y hy=>?_,fun e he'=>?_,fun y hy=>?_⟩
 .rcases yI.1 hy with h'|h'
  .exact h.iV y h'
  .grind
 .rcases mem q hq with rfl|⟨h',_⟩
  .exact h.JY.iV f hf
  .exact h.JY.iV q h'
 .rcases mem q hq with rfl|⟨h',fF⟩
  .refine ⟨?_,zS⟩;show f.l++[x]=_;rw[filter_append,dU,<- (h.QW f hf).1];simp[he]
  .rw [filter_append];have:[x].filter (fun x=>decide (x.after=q.id))=[]:=by grind
   rw[this,y23];exact h.QW q h'
 .rcases yI.1 hy with h'|h'
  .obtain ⟨q,hq,e⟩:=h.abO y h';grind
  .grind
 .rcases h1 e he' with h'|h'
  .obtain ⟨y,hy,e'⟩:=h.Xb e h';exact⟨y,y07 _ hy,e'⟩
  .grind
 .rcases yI.1 hy with h'|h'
  .exact h2 _ (h.ts2 y h')
  .grind
theorem abS{v}{fs}{ts Fv}{x}(h:HY v fs ts)(hx:Cu x)(dK:Ok (v++[x]))(hn:∀f∈fs,f.id≠x.after)w(mo:Nat)(h1:∀e∈Fv,e∈ts\/e=(x.dv,x.sq,x.tm))(h2:∀e∈ts,e∈Fv)(h3:(x.dv,x.sq,x.tm)∈Fv) :
 HY (v++[x]) (fs++⟨x.ad,x.j6,x.aa,w,mo,[x]⟩::[]) Fv:=by
 have dU:(⟨x.ad,x.j6,x.aa,w,mo,[x]⟩:Fe).id=x.after:=rfl;refine⟨dK,fun y hy=>?_,⟨?_,fun q hq=>?_⟩,fun q hq=>?_,fun y hy=>?_,fun e he'=>?_,fun y hy=>?_⟩
 .rcases yI.1 hy with h'|h'
  .exact h.iV y h'
  .grind
 .rw [map_append];refine nodup_append.2 ⟨h.JY.Fp,zS,fun z hz z' hz' e=>?_⟩;grind
 .rcases yI.1 hq with h'|h'
  .exact h.JY.iV q h'
  .rw [mem_singleton.1 h'];exact hx.2
 .rcases yI.1 hq with h'|h'
  .rw [filter_append];have:[x].filter (fun x=>decide (x.after=q.id))=[]:=by grind
   rw[this,y23];exact h.QW q h'
  .rw [mem_singleton.1 h'];refine⟨?_,zS⟩;rw[filter_append];have:v.filter (fun y=>decide (y.after=x.after))=[]:=by
    rw[filter_eq_nil_iff];intro y hy;obtain⟨f,hf,e⟩:=h.abO y hy;grind
   grind
 .rcases yI.1 hy with h'|h'
  .obtain ⟨q,hq,e⟩:=h.abO y h';grind
  .grind
 .rcases h1 e he' with h'|h'
  .obtain ⟨y,hy,e'⟩:=h.Xb e h';grind
  .grind
 .rcases yI.1 hy with h'|h'
  .exact h2 _ (h.ts2 y h')
  .grind
theorem HY.link{v}{fs}{ts}(h:HY v fs ts)(hv:v.length<=1000000):QN v fs where
 iw f hf:=by rw[(h.QW f hf).1];exact h.ok.iw.filter _
 mem f hf x:=by rw[(h.QW f hf).1];simp
 len f hf:=by
  rw[(h.QW f hf).1];grind
 all:=h.abO
 iV x hx:=(h.iV x hx).1
theorem step0{V0 V V2}{b}{H H3}(h0:V0.H=[])(s:Step V0 V)(t:Step (focus V b H) V2)(hb:V0.w.heap.size<=b)(hH:∀i,i<H.length->i=7\/i<V.H.length)(h3:H3.length<=V2.H.length) :
 Step V0 { V2 with H:=H3 }/\∀i,i<V2.H.length->V0.w.heap.size<=V2.ρ i:=by
 have n0:∀i,¬i<V0.H.length:=fun i h=>by grind
 have f1:∀i,i<V.H.length->V0.w.heap.size<=V.ρ i:=fun i hi=>(s.fresh i hi).resolve_left fun h=>n0 i h.1;have f2:∀i,i<H.length->V0.w.heap.size<=(focus V b H).ρ i:=fun i hi=>by
  show _<=if i=7 then b else V.ρ i;grind
 have f3:∀i,i<V2.H.length->V0.w.heap.size<=V2.ρ i:=fun i hi=>by
  rcases t.fresh i hi with⟨h1,h2⟩|h1
  .rw [h2];exact f2 i h1
  .exact y10 s.size h1
 refine⟨⟨t.os.trans s.os,t.tape.trans s.tape,t.output.trans s.output,y10 s.size t.size,y10 s.drawn t.drawn,fun c hc _=>?_,fun c hc hM=>?_,by rw[h0];simp,fun i hi=>.inr (f3 i (y25 hi h3)),fun i hi=>absurd hi (n0 i)⟩,f3⟩
 .have k1:=s.keep c hc fun i hi=>absurd hi (n0 i);have k2:=t.keep c (y25 hc s.size) fun i hi e=>by
   have:=f2 i hi;omega
  exact⟨k2.1.trans k1.1,k2.2.trans k1.2⟩
 .have k1:=s.data c hc hM;have k2:=t.data c (y25 hc s.size) k1.2;exact⟨k2.1.trans k1.1,k2.2⟩
theorem afj{V0 V2}{H3}(h0:V0.H=[])(t:Step V0 V2)(h3:H3.length<=V2.H.length):Step V0 { V2 with H:=H3 }/\∀i,i<V2.H.length->V0.w.heap.size<=V2.ρ i:=by
 have n0:∀i,¬i<V0.H.length:=fun i h=>by grind
 have f3:∀i,i<V2.H.length->V0.w.heap.size<=V2.ρ i:=fun i hi=>(t.fresh i hi).resolve_left fun h=>n0 i h.1;exact⟨⟨t.os,t.tape,t.output,t.size,t.drawn,t.keep,t.data,by rw[h0];simp,fun i hi=>.inr (f3 i (y25 hi h3)),fun i hi=>absurd hi (n0 i)⟩,f3⟩
def afk(cs:List CE)(k:Nat):List AV:=(qE cs k [(8,.ptr 5 0),(9,.ptr 6 0),(49,bool true)]).set 3 (int 130)
theorem b9r es kn tm(cs:List CE)k(x:CE):sP P G none 0 q9 ⟨qE cs k [(8,.ptr 5 0),(9,.ptr 6 0),(49,bool true)],HO es kn tm++[.box (aQ x),.box (dt x)],[]⟩ (mZ [kt (Eq.refl true)])=some (.ret,⟨afk cs k,HO es kn tm++[.box (aQ x),.box (dt x)],[]⟩,[],jS [kt (Eq.refl true)]):=zQ
theorem XK cs(k:Nat):AV.gH 5 (qE cs k [])=true:=zQ
theorem abT cs(k:Nat):AV.gH 7 (qE cs k [(8,.ptr 5 0)])=true:=zQ
theorem abU{V0 V}{a}{cs v}{k}{fs}{ts Fv}{kn tm}{x}(h0:V0.H=[])(hs:Step V0 V)(hG:aD G V)(dK:jO V ⟨qE cs k [(8,.ptr 5 0)],HO (gV fs) kn tm++[.box (aQ x),.box (dt x)],[]⟩ a)(hF:jA V ALL fs)(hb:∀f∈fs,V0.w.heap.size<=f.mo)(hI:HY v fs ts)(hv:v.length<=1000000)(hx:Cu x)(abV:Ok (v++[x]))(hkn:vv kn)(htm:vv tm)(h1:∀e∈Fv,e∈ts\/e=(x.dv,x.sq,x.tm))(h2:∀e∈ts,e∈Fv)(h3:(x.dv,x.sq,x.tm)∈Fv){Q}(next:∀V' a' Xc,Step V0 V'->aD G V'->jO V' ⟨qE cs k [],HO (gV Xc) kn tm,[]⟩ a'->jA V' ALL Xc->(∀f∈Xc,V0.w.heap.size<=f.mo)->HY (v++[x]) Xc Fv->Q .normal a' V'.w):q11.wpIn (fz none) 0 P (Exit.then (fun a w=>Q .normal a w) Q) a V.w:=by
 have nod:∀{V:View}{s:St}{a:Act},jO V s a->s.dh=[]->a.defers=[]:=fun{V s a} k e=>by
  have:=k.dh;rw[e]at this;cases UW:a.defers with
  |nil=>rfl
  |cons d l=>rw[UW]at this;cases this
 have hH:=dK.H;have h7:V.H.length=7:=by rw[hH];rfl
 by_cases NT:∃f∈fs,f.id=x.after
 .obtain ⟨f,hf,hfi⟩:=NT;obtain⟨us,bs,rfl⟩:=append_of_mem hf;have XL:xL x.ad x.j6 x.aa=xL f.a f.b f.c:=by
   have:(f.a,f.b,f.c)=(x.ad,x.j6,x.aa):=hfi;simp only[Prod.mk.injEq]at this;rw[this.1,this.2.1,this.2.2]
  have gf:=QS hG hH hF hkn htm;have al:=Fq (y:=.aU 7 0 0 f.l.length) (l:=f.l) (g:=0) (b:=f.mo) hH;have hfl:=(hI.QW f hf).1;have bL:f.l.length<=1000000:=by
   rw[hfl];have:=length_filter_le (fun x:CE=>decide (x.after=f.id)) v;omega
  have he:=abQ hI.JY (.aU 7 0 0 f.l.length);rw[<- XL]at he;refine amv (uo us f (.aU 7 0 0 f.l.length) bs) kn tm cs k us.length f.l.length x (au f.l) (uo us f (.aU 7 0 0 f.l.length) bs) he (ay f.l).symm zO (by rw[CO];omega)
   (focus V f.mo (HF (uo us f (.aU 7 0 0 f.l.length) bs) kn tm (.box (aQ x)) (.box (dt x)) 0 f.l)) (focus V f.mo (HF (uo us f (.aU 7 0 0 f.l.length) bs) kn tm (.box (aQ x)) (.box (dt x)) 0 f.l)) a _ _ rfl (Step.refl _) gf
   ⟨eF.lF al dK.aL (abT cs k),rfl,by rw[nod dK rfl];exact .nil⟩ fun V2 a2 s2 g2 k2=>?_
  have XM:V2.H=HF (uo us f (.aU 7 1 0 (f.l++[x]).length) bs) kn tm (.box (aQ x)) (.box (dt x)) 1 (f.l++[x]):=by
   rw[k2.H];show HO (CK (uo us f (.aU 7 0 0 f.l.length) bs) us.length (.aU 7 1 0 (f.l.length+1))) kn tm++[.box (aQ x),.box (dt x),.aN 1 9 false (au f.l++[aQ x])]=_;rw[Om,show f.l.length+1=(f.l++[x]).length by simp,sN,gy];rfl
  have hFu:jA (focus V f.mo (HF (uo us f (.aU 7 0 0 f.l.length) bs) kn tm (.box (aQ x)) (.box (dt x)) 0 f.l)) ALL (us++bs):=by
   have hm:∀q∈us++bs,q∈us++f::bs:=fun q hq=>by
    rcases yI.1 hq with h|h
    .exact y07 _ h
    .exact y08 _ (yF _ h)
   have wO:=hI.JY.Fp;rw[map_append,map_cons]at wO;obtain⟨n1,n2,n3⟩:=nodup_append.1 wO;obtain⟨n4,n5⟩:=nodup_cons.1 n2;have fF:∀q∈us++bs,q.id≠f.id:=fun q hq e=>by
    rcases yI.1 hq with h|h
    .exact n3 q.id (yG.2 ⟨q,h,rfl⟩) f.id zS e
    .exact n4 (by rw[<- e];exact yG.2 ⟨q,h,rfl⟩)
   refine⟨fun q hq _=>hF.Td q (hm q hq) yO,fun q hq _=>hF.mt q (hm q hq) yO,fun q hq _ i hi=>?_,fun q hq r hr _ _ e=>hF.nS q (hm q hq) r (hm r hr) trivial trivial e⟩;show(if i=7 then f.mo else V.ρ i)≠q.mo;have hi8:i<8:=hi;split
   .exact fun e=>fF q hq (hF.nS f hf q (hm q hq) trivial trivial e).symm
   .exact hF.off q (hm q hq) trivial i zO
  obtain⟨w,u1,u2,u3⟩:=unfocus g2 XM (hFu.step s2) hkn htm zS;obtain⟨st,fr⟩:=step0 (H3:=HO (gV (us++⟨f.a,f.b,f.c,w,V2.ρ 7,f.l++[x]⟩::bs)) kn tm) h0 hs s2 (hb f hf) (fun i hi=>by
   have:i<8:=hi;omega) (by rw[XM];show 5<=8;decide)
  refine next { V2 with H:=HO (gV (us++⟨f.a,f.b,f.c,w,V2.ρ 7,f.l++[x]⟩::bs)) kn tm } a2 _ st u1 ⟨eF.lF u3 k2.aL (XK cs k),rfl,by rw[nod k2 rfl];exact .nil⟩ u2 (fun q hq=>?_) (XJ hI hx abV hfi w _ h1 h2 h3)
  rcases yI.1 hq with h|h
  .exact hb q (y07 _ h)
  .rcases yH.1 h with rfl|h
   .exact fr 7 (by rw[XM];show 7<8;decide)
   .exact hb q (y08 _ (yF _ h))
 .have xY:∀f∈fs,f.id≠x.after:=fun f hf e=>NT ⟨f,hf,e⟩;have he:=XH hI.JY hx.2.1 hx.2.2.1 hx.2.2.2 xY (.slice none 0 0) 0 [];refine amu (gV fs) kn tm cs k fs.length x (uo fs ⟨x.ad,x.j6,x.aa,.slice none 0 0,0,[]⟩ aK []) he (by rw[CO];omega) V V a _ _ h7 (Step.refl _) hG dK fun V2 a2 s2 g2 k2=>?_;have XM:V2.H=HF (uo fs ⟨x.ad,x.j6,x.aa,.slice none 0 0,0,[]⟩ (.aU 7 0 0 [x].length) []) kn tm (.box (aQ x)) (.box (dt x)) 0 [x]:=by
   rw[k2.H];show HO (CK (uo fs ⟨x.ad,x.j6,x.aa,.slice none 0 0,0,[]⟩ aK []) fs.length (.aU 7 0 0 1)) kn tm++[.box (aQ x),.box (dt x),.aN 0 9 false [aQ x]]=_;rw[Om];rfl
  obtain⟨w,u1,u2,u3⟩:=unfocus (us:=fs) (bs:=[]) g2 XM (by rw[y23];exact hF.step s2) hkn htm zS;obtain⟨st,fr⟩:=afj (H3:=HO (gV (fs++⟨x.ad,x.j6,x.aa,w,V2.ρ 7,[x]⟩::[])) kn tm) h0 (hs.trans s2) (by rw[XM];show 5<=8;decide);refine next { V2 with H:=HO (gV (fs++⟨x.ad,x.j6,x.aa,w,V2.ρ 7,[x]⟩::[])) kn tm } a2 _ st u1 ⟨eF.lF u3 k2.aL (XK cs k),rfl,by rw[nod k2 rfl];exact .nil⟩ u2 (fun q hq=>?_) (abS hI hx abV xY w _ h1 h2 h3)
  rcases yI.1 hq with h|h
  .exact hb q h
  .rw [mem_singleton.1 h];exact fr 7 (by rw[XM];show 7<8;decide)
theorem XO{V0}(h0:V0.H=[]){cs}(jQ:cs.length<=1000000)(hR:∀x∈cs,Cu x){Q}(bad:¬Ok cs->∀es kn tm k x a' w',Am.A9 G V0 .ret ⟨afk cs k,HO es kn tm++[.box (aQ x),.box (dt x)],[]⟩ .ret a' w'->Q .ret a' w')(good:Ok cs->∀V' a' Xc Fv,Step V0 V'->aD G V'->jO V' ⟨qE cs cs.length [],HO (gV Xc) (CU cs) (Ap Fv),[]⟩ a'->jA V' ALL Xc->(∀f∈Xc,V0.w.heap.size<=f.mo)->HY cs Xc Fv->Q (.exit 0) a' V'.w) :
 ∀ d k,cs.length-k=d->k<=cs.length->∀ V(a:Act)(fs:List Fe)ts,Step V0 V->aD G V->jO V ⟨qE cs k [],HO (gV fs) (CU (cs.take k)) (Ap ts),[]⟩ a->jA V ALL fs->(∀f∈fs,V0.w.heap.size<=f.mo)->HY (cs.take k) fs ts ->
 eO (fz none) 0 P Qw Q a V.w:=by
 intro d
 induction d with
 |zero =>
  intro k hd hk V a fs ts hs hG dK hF hb hI;obtain rfl:k=cs.length:=zO
  have h5:V.H.length=5:=by rw[dK.H];rfl
  refine eO.mono (bE (gV fs) (CU (cs.take cs.length)) (Ap ts) cs cs.length yM V V a h5 (Step.refl V) hG dK) ?_;rintro e a' w' ⟨V',rfl,k1,k2,k3,k4⟩;cases e<;>first|exact k4.elim|skip
  rename_i i;obtain rfl:i=0:=k4;rw[take_length]at k3 hI;exact good hI.ok V' a' fs ts (hs.trans k1) k2 k3 (hF.step k1) hb hI
 |succ d ih =>
  intro k hd hk V a fs ts hs hG dK hF hb hI;have bg:k<cs.length:=zO
  have hx:=yA bg;have QO:=y03 bg;have htk:=(take_append_getElem bg).symm;have jH:cs.take k++(cs[k]::cs.drop (k+1))=cs:=by rw[<- y01 bg,y30]
  generalize hxe:cs[k]=x at *;generalize hve:cs.take k=v at *;have Cv:v.length<=1000000:=by rw[<- hve,y22];omega
  have hxR:=hR x QO;have h5:V.H.length=5:=by rw[dK.H];rfl
  refine eO.next ?_;show Qw.wpIn (fz none) 0 P _ a V.w;rw[afc];refine bn.seq (b4 (gV fs) (CU v) (Ap ts) cs k bg) h5 (Step.refl V) hG dK fun V1 a1 s1 g1 k1=>?_;refine bn.seq (bI (gV fs) (CU v) (Ap ts) cs k) h5 s1 g1 k1 fun V2 a2 s2 g2 k2=>?_;refine Go.wpIn_seq (Go.wpIn_block ?_);refine bn.seq (b5 (gV fs) (CU v) (Ap ts) cs k x ⟨zO,by rw[y31,sF,hx];rfl⟩) h5 s2 g2 k2 fun V3 a3 s3 g3 k3=>?_;refine bn.seq (b6 (gV fs) (CU v) (Ap ts) cs k x) h5 s3 g3 k3 fun V4 a4 s4 g4 k4=>?_;refine Go.wpIn_seq ?_;obtain⟨t,ok,BK,ail⟩:∃t ok,bT P 49 (Ap ts) (fV x.dv x.sq) (int 0) (int t) ok/\((t≠0/\(x.dv,x.sq,t)∈ts)\/(t=0/\∀t,(x.dv,x.sq,t)∉ts)):=by
   by_cases h:∃t,(x.dv,x.sq,t)∈ts
   .obtain ⟨t,ht⟩:=h;refine⟨t,true,afh hI.iV hI.Xb hxR ht,.inl ⟨?_,ht⟩⟩;obtain⟨z,hz,e⟩:=hI.Xb _ ht;have:=XI (hI.ok.valid z hz);simp only[Prod.mk.injEq]at e;rw[<- e.2.2];exact this
   .exact ⟨0,false,abP hI.iV hI.Xb hxR fun t ht=>h ⟨t,ht⟩,.inr ⟨rfl,fun t ht=>h ⟨t,ht⟩⟩⟩
  refine bn.seq (b7 (gV fs) (CU v) (Ap ts) cs k x t ok BK) h5 s4 g4 k4 fun V5 a5 s5 g5 k5=>?_;have XP:¬Ok cs->∀(V6:View)(a6:Act),Step V0 V6->aD G V6->jO V6 ⟨qE cs k [(8,.ptr 5 0),(9,.ptr 6 0),(49,bool true)],HO (gV fs) (CU v) (Ap ts)++[.box (aQ x),.box (dt x)],[]⟩ a6->∀(K:Act->World->Prop)(Q2:Exit->Act->World->Prop),(∀a w,Q .ret a w->Q2 .ret a w)->q9.wpIn (fz none) 0 P (Exit.then K Q2) a6 V6.w:=by
   intro xY V6 a6 s6 g6 k6 K Q2 hQ;refine Go.wpIn_mono (eT (r:=none) q9 (b9r (gV fs) (CU v) (Ap ts) cs k x) (nV _) V0 V6 a6 (by rw[h0];rfl) s6 g6 k6) ?_;intro e a' w' hE;obtain⟨V',e1,e2,e3,e4,e5⟩:=hE;cases e<;>first|exact e5.elim|skip
   exact hQ _ _ (bad xY _ _ _ _ _ _ _ ⟨V',e1,e2,e3,e4,e5⟩)
  have XQ:(∀y∈v,y.id≠x.id)->dF x=true->(∀t',(x.dv,x.sq,t')∈ts->t'=x.tm)->∀(V6:View)(a6:Act),Step V V6->aD G V6->jO V6 ⟨qE cs k [(8,.ptr 5 0),(9,.ptr 6 0),(49,bool false)],HO (gV fs) (CU v) (Ap ts)++[.box (aQ x),.box (dt x)],[]⟩ a6 ->
   q9.wpIn (fz none) 0 P (Exit.then (fun a w=>(Code.seq q10 q11).wpIn (fz none) 0 P (Exit.inBlock 1 (Exit.then (q12.wpIn (fz none) 0 P (Exit.then (eO (fz none) 0 P Qw Q) Q)) (Exit.then (eO (fz none) 0 P Qw Q) Q))) a w) (Exit.inBlock 1 (Exit.then (q12.wpIn (fz none) 0 P (Exit.then (eO (fz none) 0 P Qw Q) Q)) (Exit.then (eO (fz none) 0 P Qw Q) Q)))) a6 V6.w:=by
   intro dU hv htm V6 a6 s6 g6 k6;have abV:=abR hI.ok hv dU fun y hy e1 e2=>by
    have:=hI.ts2 y hy;rw[e1,e2]at this;exact htm _ this
   obtain⟨Fv,m1,m2,m3,m4⟩:=afi hI.iV hI.Xb hxR htm;refine b9 (gV fs) (CU v) (Ap ts) cs k x V V6 a6 _ _ h5 s6 g6 k6 fun V7 a7 s7 g7 k7=>?_;refine bn.seq (b10 (gV fs) (CU v) (Ap ts) cs k x (CU (v++[x])) (Ap Fv) (afg hI.iV hxR dU) m1) h5 s7 g7 k7 fun V8 a8 s8 g8 k8=>?_;refine Go.wpIn_mono (abU (Q:=Exit.inBlock 1 (Exit.then (q12.wpIn (fz none) 0 P (Exit.then (eO (fz none) 0 P Qw Q) Q)) (Exit.then (eO (fz none) 0 P Qw Q) Q))) h0 (hs.trans s8) g8 k8 (hF.step s8) hb hI Cv hxR abV (abM _) (abN _) m2 m3 m4 fun V9 a9 Xc s9 g9 k9 f9 b9' i9=>?_) fun e a w h=>by cases e<;>exact h
   show q12.wpIn (fz none) 0 P (Exit.then (eO (fz none) 0 P Qw Q) Q) a9 V9.w;have h59:V9.H.length=5:=by rw[k9.H];rfl
   refine b12 (gV Xc) (CU (v++[x])) (Ap Fv) cs k zO V9 V9 a9 _ _ h59 (Step.refl V9) g9 k9 fun Va aa sa ga ka=>?_;refine ih (k+1) zO zO Va aa Xc Fv (s9.trans sa) ga ?_ (f9.step sa) b9' ?_
   .rw [htk];exact ka
   .rw [htk];exact i9
  cases hv:dF x with
  |false =>
   refine bn.seq (b8a (gV fs) (CU v) (Ap ts) cs k x t (by rw[<- hv];exact pV x)) h5 s5 g5 k5 fun V6 a6 s6 g6 k6=>?_;exact XP (fun h=>by rw[h.valid x QO]at hv;cases hv) V6 a6 (hs.trans s6) g6 k6 _ _ fun a w h=>h
  |true =>
   have hvc:Cq 182 [nP x] (bool true):=by rw[<- hv];exact pV x
   by_cases dU:∃y∈v,y.id=x.id
   .refine bn.seq (b8b (gV fs) (CU v) (Ap ts) cs k x t true hvc (aff hI.iV hxR dU)) h5 s5 g5 k5 fun V6 a6 s6 g6 k6=>?_;refine XP (fun h=>?_) V6 a6 (hs.trans s6) g6 k6 _ _ fun a w h=>h;obtain⟨y,hy,e⟩:=dU;rw[<- jH]at h;exact Oo ((pairwise_append.1 h.nS).2.2 y hy x zS) e
   .have Oy:∀y∈v,y.id≠x.id:=fun y hy e=>dU ⟨y,hy,e⟩;rcases ail with⟨ht0,amw⟩|⟨rfl,ain⟩
    .obtain ⟨z,hz,ez⟩:=hI.Xb _ amw;simp only[Prod.mk.injEq]at ez;by_cases hte:t=x.tm
     .refine bn.seq (b8d (gV fs) (CU v) (Ap ts) cs k x t false hvc (LQ hI.iV hxR Oy) (by simpa using ht0)) h5 s5 g5 k5 fun V6 a6 s6 g6 k6=>?_;rw[show(t != x.tm)=false by simp[hte]]at k6;refine XQ Oy hv (fun t' ht'=>?_) V6 a6 s6 g6 k6;obtain⟨y,hy,ey⟩:=hI.Xb _ ht';simp only[Prod.mk.injEq]at ey;have:=aea hI.ok hy hz (ey.1.trans ez.1.symm) (ey.2.1.trans ez.2.1.symm);rw[<- hte,<- ey.2.2,<- ez.2.2];exact this
     .refine bn.seq (b8d (gV fs) (CU v) (Ap ts) cs k x t false hvc (LQ hI.iV hxR Oy) (by simpa using ht0)) h5 s5 g5 k5 fun V6 a6 s6 g6 k6=>?_;rw[show(t != x.tm)=true by simpa using hte]at k6;refine XP (fun h=>?_) V6 a6 (hs.trans s6) g6 k6 _ _ fun a w h=>h;have:=aea h (x:=z) (y:=x) (by rw[<- jH];exact y07 _ hz) QO ez.1 ez.2.1;exact hte (by rw[<- ez.2.2];exact this)
    .refine bn.seq (b8c (gV fs) (CU v) (Ap ts) cs k x 0 false hvc (LQ hI.iV hxR Oy) rfl) h5 s5 g5 k5 fun V6 a6 s6 g6 k6=>?_;exact XQ Oy hv (fun t' ht'=>absurd ht' (ain t')) V6 a6 s6 g6 k6
def Oz:Func:=(P.funcs[144]?).getD default
def Bl:Array Oper:=Bj a15
def LU:Oper:=Bl.toList.getD 2 default
theorem aio:a15 = .region 15 Bl false:=zQ
section
variable (cs:List CE) (es kn tm:List (Value×AV)) (g n:Nat) (xs:List (List AV))
theorem o0:bn P G none 0 a0 ⟨[bZ cs]++replicate 76 (.lit undef),[],[]⟩ ⟨aC 77 [(0,bZ cs),(2,.ptr 0 0)],[.box [aK]],[]⟩:=bM [] (aB 77 [0,2]) 1 zQ
theorem o1:bn P G none 0 a1 ⟨aC 77 [(0,bZ cs),(2,.ptr 0 0)],[.box [aK]],[]⟩ ⟨aC 77 [(0,bZ cs),(2,.ptr 0 0),(4,.ptr 2 0)],[.box [aK],.map [],.box [.mp 1]],[]⟩:=bM [] (aB 77 [0,2,4]) 3 zQ
theorem o2:bn P G none 0 a2 ⟨aC 77 [(0,bZ cs),(2,.ptr 0 0),(4,.ptr 2 0)],[.box [aK],.map [],.box [.mp 1]],[]⟩ ⟨aC 77 [(0,bZ cs),(2,.ptr 0 0),(4,.ptr 2 0),(5,.mp 3),(6,.mp 4)],HO [] [] [],[]⟩:=bM [] (aB 77 [0,2,4,5,6]) 5 zQ
theorem o3:bn P G none 0 a3 ⟨aC 77 [(0,bZ cs),(2,.ptr 0 0),(4,.ptr 2 0),(5,.mp 3),(6,.mp 4)],HO [] [] [],[]⟩ ⟨qE cs 0 [],HO [] [] [],[]⟩ :=
 bM [kv 16 (show aF (int (au cs).length) (int cs.length)from aF.of_eq (by rw[ay]))] (aB 77 [0,2,4,5,6,15,16,17]) 5 zQ
theorem o13:bn P G none 5 a13 ⟨qE cs n [],HO es kn tm,[]⟩ ⟨aC 77 [(0,bZ cs),(2,.ptr 0 0),(4,.ptr 2 0),(11,.ptr 5 0)],HO es kn tm++[.box [.lit .nilFunc]],[]⟩:=bM [] (aB 77 [0,2,4,11]) 6 zQ
theorem o14:bn P G none 6 a14 ⟨aC 77 [(0,bZ cs),(2,.ptr 0 0),(4,.ptr 2 0),(11,.ptr 5 0)],HO es kn tm++[.box [.lit .nilFunc]],[]⟩ ⟨aC 77 [(0,bZ cs),(2,.ptr 0 0),(11,.ptr 5 0)],HN es,[]⟩ :=
 bM [ko (.hp none (.lit undef) (HN es)),kp (aF.refl (.lit undef)),kp (show HSub (HO es kn tm++[.box [fnB]]) (HN es)from⟨.inl rfl,.inl rfl,.inl rfl,.inr yO,.inr yO,.inl rfl,yO⟩)] (aB 77 [0,2,11]) 6 zQ
theorem o15:vw P G none Bl 0 [Bl.toList.getD 0 default,Bl.toList.getD 1 default] (aC 77 [(0,bZ cs),(2,.ptr 0 0),(11,.ptr 5 0)]) (HN es) [] [] =
 some (.normal,aC 77 [(0,bZ cs),(2,.ptr 0 0),(11,.ptr 5 0),(68,fnB),(69,oO 0 0 0)],HN es,[],[],[]):=zQ
theorem oB(k:Nat)x:EA P G 0 Oz .ret ⟨afk cs k,HO es kn tm++[.box (aQ x),.box (dt x)],[]⟩ []=some (.ret (.bq [aK,int 130]),[],[]):=zQ
theorem oN1(h:((0:Int)!=(au cs).length)=true):y7 P G 0 Oz aE ⟨aC 77 [(0,bZ cs),(2,.ptr 0 0)],HN es,[]⟩ (mZ [kt h])=some (.ret (.bq [aK,int 130]),[],jS [kt h]):=zQ
theorem oN0(h:((0:Int)!=(au cs).length)=false):y7 P G 0 Oz aE ⟨aC 77 [(0,bZ cs),(2,.ptr 0 0)],HN es,[]⟩ (mZ [kf h])=some (.ret (.bq [aK,int 0]),[],jS [kf h]):=zQ
theorem oE1(h:((n:Int)!=(au cs).length)=true):y7 P G 0 Oz aE ⟨aC 77 [(0,bZ cs),(2,.ptr 0 0)],HB es g n xs,[]⟩ (mZ [kp (Eq.refl g),kt h])=some (.ret (.bq [aK,int 130]),[],jS [kp (Eq.refl g),kt h]):=zQ
theorem oE0(h:((n:Int)!=(au cs).length)=false)(h1:List.take n (List.drop 0 xs)=xs)(h2:xs.length=n)(h3:∀c∈xs,c.all AV.fJ=true):y7 P G 0 Oz aE ⟨aC 77 [(0,bZ cs),(2,.ptr 0 0)],HB es g n xs,[]⟩ (mZ [kp (Eq.refl g),kf h,ko (.fz (some 76) xs),kp (Eq.refl g),kp h1,kp h2,kp h3])=some (.ret (.bq [.sl 9 false xs,int 0]),[],jS [kp (Eq.refl g),kf h,ko (.fz (some 76) xs),kp (Eq.refl g),kp h1,kp h2,kp h3]):=zQ
end
def F6(cs:List CE):AV:=if sO cs=true then(if arE cs=[]then .bq [aK,int 0]else .bq [bZ (arE cs),int 0])else .bq [aK,int 130]
variable {cs:List CE}
theorem Aq(h:Ok cs):sO cs=true↔(arE cs).length=cs.length:=by grind[Ak,abL]
theorem abW V:jA V ALL []:=⟨fun _ h=>absurd h y15,fun _ h=>absurd h y15,fun _ h=>absurd h y15,fun _ h=>absurd h y15⟩
theorem XR:HY (cs.take 0) [] [] :=
 ⟨⟨fun _ h=>absurd h y15,.nil⟩,fun _ h=>absurd h y15,⟨.nil,fun _ h=>absurd h y15⟩,fun _ h=>absurd h y15,fun _ h=>absurd h y15,fun _ h=>absurd h y15,fun _ h=>absurd h y15⟩
theorem afl:fO 0:=by unfold fO;decide
theorem U0(cs:List CE)(jQ:cs.length<=1000000)(hR:∀x∈cs,Cu x):Cq 144 [bZ cs] (F6 cs):=by
 have wN:P.funcs[144]?=some Oz:=zQ
 have hb:Oz.body=some (.seq a0 (.seq a1 (.seq a2 (.seq (.seq a3 (.block 0 (.loop Qw))) (.seq a13 (.seq a14 (.seq a15 aE))))))):=zQ
 refine EB wN hb fun V a hH hG dK=>?_;have h0:V.H.length=0:=by rw[hH];rfl
 have hn:Oz.ntmps-[bZ cs].length=76:=zQ
 rw[hn]at dK;refine bn.seq (o0 cs) h0 (Step.refl V) hG dK fun V1 a1' s1 g1 k1=>?_;refine bn.seq (o1 cs) h0 s1 g1 k1 fun V2 a2' s2 g2 k2=>?_;refine bn.seq (o2 cs) h0 s2 g2 k2 fun V3 a3' s3 g3 k3=>?_;refine Go.wpIn_seq ?_;refine bn.seq (o3 cs) h0 s3 g3 k3 fun V4 a4' s4 g4 k4=>?_;refine Go.wpIn_block (eO.wpIn ?_);refine XO hH jQ hR (fun xY es kn tm k x a' w' hE=>?_) (fun Xd V5 a5 fs ts s5 g5 k5 f5 b5 i5=>?_) _ 0 rfl yN V4 a4' [] [] s4 g4 k4 (abW V4) (fun _ h=>absurd h y15) XR
 .have e:F6 cs = .bq [aK,int 130]:=by
   unfold F6;rw[yK fun h=>xY (Ak.1 h).1]
  rw[e];have iJ:=oB cs es kn tm k x;rw[<- h0]at iJ;exact vU iJ trivial _ _ _ hE
 .show (Code.seq a13 (.seq a14 (.seq a15 aE))).wpIn (fz none) 0 P _ a5 V5.w;have h5:V5.H.length=5:=by rw[k5.H];rfl
  refine bn.seq (o13 cs (gV fs) (CU cs) (Ap ts) cs.length) h5 (Step.refl V5) g5 k5 fun V6 a6 s6 g6 k6=>?_;have h6:V6.H.length=6:=by rw[k6.H];rfl
  refine bn.seq (o14 cs (gV fs) (CU cs) (Ap ts)) h6 (Step.refl V6) g6 k6 fun V7 a7 s7 g7 k7=>?_;refine Go.wpIn_seq ?_;rw[aio];refine wpIn_region ?_;have hH7:=k7.H;refine qg (os1:=[Bl.toList.getD 0 default,Bl.toList.getD 1 default]) (os2:=[LU]) (i:=0) (bf:=[]) (aT:=[]) (ps:=[]) (r:=none) (o15 cs (gV fs)) trivial zQ g7 hH7 k7.aL k7.dh ?_;intro V8 a8 s8 g8 hh8 e8 d8;have yV:(List.range Bl.size).drop (0+[Bl.toList.getD 0 default,Bl.toList.getD 1 default].length)=[2]:=zQ
  rw[yV];have f8:=((f5.step s6).step s7).step s8;have h68:=Tg (e8.get 68);have h69:a8.eval (.tmp 69)=xL 0 0 0:=Xy (e8.get 69);have hdp:=XG Xd jQ;have wO:((0,0,0)::mq (arE cs)).Nodup:=by
   refine nodup_cons.2 ⟨fun h=>?_,?_⟩
   .obtain ⟨z,hz,e⟩:=yG.1 h;exact Xd.id0 ((rT Xd).1 hz).1 e
   .have h1:=Ao Xd;unfold mq;exact pairwise_map.2 (Pairwise.imp_of_mem (fun{x y} hx hy fF e=>fF (Xd.one ((rT Xd).1 hx).1 ((rT Xd).1 hy).1 e)) h1)
  have aip:=abH (i5.link jQ) Xd.iw i5.JY jQ cs.length 0 0 0 hdp afl afl afl V8 ALL g8 hh8 f8 ⟨yO,fun _ _=>trivial⟩ wO (by have:=hdp.len;omega);have jf:#[]++#[Operand.tmp 69].map a8.eval++#[jG (V8.ρ 2),jG (V8.ρ 0),jG (V8.ρ 5)]=#[xL 0 0 0,jG (V8.ρ 2),jG (V8.ρ 0),jG (V8.ρ 5)]:=by simp[h69]
  refine yX (o:=LU) (g:=.tmp 68) (f:=183) (fn:=JX) (us:=#[]) (vs:=#[jG (V8.ρ 2),jG (V8.ρ 0),jG (V8.ρ 5)]) (args:=#[.tmp 69]) (ts:=#[53]) zQ zQ zQ zQ zQ h68 (by rw[jf];exact aip) ?_;rintro e w' ⟨rfl,V9,rfl,s9,g9,y8⟩;refine⟨_,rfl,?_⟩;show aE.wpIn (fz none) 0 P _ (a8.put LU.dst (.tuple #[])) V9.w;have hs5:Step V V9:=((((s5.trans s6).trans s7).trans s8)).aiq s9 fun b hb=>by
   obtain⟨f,hf,_,e⟩:=hb;rw[<- e];exact b5 f hf
  have air:(a8.put LU.dst (.tuple #[])).defers=[]:=by
   rw[nT];cases UW:a8.defers with
   |nil=>rfl
   |cons d l=>rw[UW]at d8;cases d8
  have hz:(arE cs).length=(bX cs (cs.length+1) 0 0 0).length:=rfl;have F7:∀(lv:AV),V9.H[0]?=some (.box [lv])->eF V9 (aC 77 [(0,bZ cs),(2,.ptr 0 0)]) (a8.put LU.dst (.tuple #[])):=fun lv hlv=>by
   have h1:eF V9 (aC 77 [(0,bZ cs),(2,.ptr 0 0)]) a8:=by
    have ed:eF V8 (aC 77 [(0,bZ cs),(2,.ptr 0 0)]) a8:=by
     refine e8.ae9 zQ fun j hj=>?_;have afm:j<77:=by
      have:(aC 77 [(0,bZ cs),(2,AV.ptr 0 0),(11,.ptr 5 0),(68,fnB),(69,oO 0 0 0)]).length=77:=zQ
      omega
     by_cases h0':j=0
     .subst h0';exact .inl rfl
     .by_cases h2':j=2
      .subst h2';exact .inl rfl
      .right;unfold aC;rw[yB,getElem?_map,getElem?_range afm];simp[vk,Ne.symm h0',Ne.symm h2']
    refine⟨ed.1,fun j hj=>?_⟩;have afm:j<77:=by
     have:(aC 77 [(0,bZ cs),(2,AV.ptr 0 0)]).length=77:=zQ
     omega
    have hr:=ed.2 j hj;by_cases h0':j=0
    .subst h0';exact Od s9 hr
    .by_cases h2':j=2
     .subst h2';exact Ai s9 hr (by rw[hh8];rfl) hlv
     .have:(aC 77 [(0,bZ cs),(2,AV.ptr 0 0)]).getD j .aP = .aP:=by
       unfold aC;rw[yB,getElem?_map,getElem?_range afm];simp[vk,Ne.symm h0',Ne.symm h2']
      rw[this];exact .aP _
   have:=h1.put LU.dst (x:=.aP) (v:=.tuple #[]) (.aP _);rw[show LU.dst=some 70 by kernel_rfl]at this |-;exact this
  rcases y8 with⟨afn,hH9⟩|⟨fF,g',hH9⟩
  .have jH:arE cs=[]:=afn;have k9:jO V9 ⟨aC 77 [(0,bZ cs),(2,.ptr 0 0)],HN (gV fs),[]⟩ (a8.put LU.dst (.tuple #[])):=⟨F7 aK (by rw[hH9];rfl),hH9,by rw[air];exact .nil⟩;by_cases bS:cs.length=0
   .have e:F6 cs = .bq [aK,int 0]:=by
     unfold F6;rw[yL ((Aq Xd).2 (by rw[jH,bS];rfl)),yL jH]
    rw[e];exact mJ _ (oN0 cs (gV fs) (by rw[ay,bS];rfl)) h0 hs5 g9 k9
   .have e:F6 cs = .bq [aK,int 130]:=by
     unfold F6;rw[yK fun h=>bS (by have:=(Aq Xd).1 h;rw[jH]at this;exact this.symm)]
    rw[e];exact mJ _ (oN1 cs (gV fs) (by rw[ay];simp;omega)) h0 hs5 g9 k9
  .have afo:arE cs≠[]:=fF;have k9:jO V9 ⟨aC 77 [(0,bZ cs),(2,.ptr 0 0)],HB (gV fs) g' (arE cs).length (au (arE cs)),[]⟩ (a8.put LU.dst (.tuple #[])):=⟨F7 _ (by rw[hH9];rfl),hH9,by rw[air];exact .nil⟩;by_cases hl:(arE cs).length=cs.length
   .have e:F6 cs = .bq [.sl 9 false (au (arE cs)),int 0]:=by
     unfold F6;rw[yL ((Aq Xd).2 hl),yK afo];rfl
    rw[e];exact mJ _ (oE0 cs (gV fs) g' (arE cs).length (au (arE cs)) (by rw[ay,hl];simp) (dW _) (ay _) (bK _)) h0 hs5 g9 k9
   .have e:F6 cs = .bq [aK,int 130]:=by
     unfold F6;rw[yK fun h=>hl ((Aq Xd).1 h)]
    rw[e];exact mJ _ (oE1 cs (gV fs) g' (arE cs).length (au (arE cs)) (by rw[ay];simp;omega)) h0 hs5 g9 k9
theorem wW cs(jQ:cs.length<=1000000)(hR:∀x∈cs,Cu x):Cq 144 [bZ cs] (.bq [bZ (BI cs),int (F5 cs)]):=by
 refine ak.out (U0 cs jQ hR) ?_;unfold F6 BI F5;by_cases hf:sO cs=true
 .rw [yL hf];split
  .rename_i h;rw[h];exact aF.U1 (aF.nil 9) (y34)
  .exact y34
 .rw [yK hf,yK hf,yK hf];exact aF.U1 (aF.nil 9) (y34)
def kQ(l:List CE):Prop:=∀x∈l,Cu x
theorem amx l r(e:Int)b(ho:Cq 144 [bZ l] (.bq [bZ r,int e]))(hs:Cq 145 [bZ r,bZ l] (bool b))o(h:(((e=0)->((((b)=true)->e=(o))/\(((b)=false)->130=o)))/\((¬e=0)->e=(o)))):Cq 106 [bZ l] (int o):=by
 by_cases c1:(e=0)
 .have h:=h.1 c1;rcases y00 ((b))with c2|c2
  .have h:=h.1 c2;exact aA (aF.int_eq h) [kc [] ho,kt (nW.2 c1),kc [] hs,kf (y32 (c2))]
  .have h:=h.2 c2;exact aA (aF.int_eq h) [kc [] ho,kt (nW.2 c1),kc [] hs,kt (y32 (c2))]
 .have h:=h.2 c1;exact aA (aF.int_eq h) [kc [] ho,kf (qN.2 c1),kY]
theorem abX l:F5 l=0\/F5 l=130:=by unfold F5;simp
theorem HZ l(hv:l.length<=1000000)(hR:kQ l):Cq 106 [bZ l] (int (jg l)):=by
 refine amx l _ _ _ (wW l hv hR) (ais (BI l) l (by have:=Ow l;omega) zO) _ ?_;have:=abX l;unfold jg;grind
theorem amy l(c:CE)e(he:e≠0)(hc:Cq 106 [bZ l] (int e))(h:True):Cq 252 [bZ l,nP c] (.bq [bZ [],int e]):=by
 exact ak.out ((show Cq 252 [bZ l,nP c] (.bq [aK,int e])from aj [kc [] hc,kt (((y32 (qF zO))))])) (aF.iM ⟨(aF.nil _),y34,yO⟩)
theorem amz l(c:CE)(hg:c.gn=true)(hc:Cq 106 [bZ l] (int 0))(h:True):Cq 252 [bZ l,nP c] (.bq [bZ [],int 130]):=by
 exact ak.out ((show Cq 252 [bZ l,nP c] (.bq [aK,int 130])from aj [kc [] hc,kY,kt hg])) (aF.iM ⟨(aF.nil _),y34,yO⟩)
theorem ait l(fF:¬au l=[])(hv:l.length<=1000000)(h:True):ak P G 82 [bZ l] [] (aS.ret (AV.aU 0 0 0 l.length)) [ah.aN 0 9 false (au l)]:=by
 exact aj [kp (show au l≠[]from zO),kY,kv 7 (show Am.aF (AV.aU 0 0 0 (0+length (au l))) (AV.aU 0 0 0 l.length)from(aF.of_eq (by simp[ay]))),kp fF,vV ((0+length (au l))*80) (by simp only[ay]<;>omega)]
theorem amA l r(c:CE)e(fF:¬au l=[])(hv:l.length<=1000000)(hg:c.gn=false)(hc:Cq 106 [bZ l] (int 0))(lG:ak P G 82 [bZ l] [] (.ret (.aU 0 0 0 l.length)) [.aN 0 9 false (au l)])(ho:ak P G 144 [.aU 0 1 0 (l.length+1)] [.aN 1 9 false (au l++[[int c.dv,int c.sq,int c.gU,int c.ad,int c.j6,int c.aa,int c.tm,str c.vl,bool c.gn]])] (.ret (.bq [bZ r,int e])) [.aN 1 9 true (au l++[[int c.dv,int c.sq,int c.gU,int c.ad,int c.j6,int c.aa,int c.tm,str c.vl,bool c.gn]])])(h:True):Cq 252 [bZ l,nP c] (.bq [bZ r,int e]):=by
 have H6:∀ x,x∈au l++[[int c.dv,int c.sq,int c.gU,int c.ad,int c.j6,int c.aa,int c.tm,str c.vl,Am.bool c.gn]]->AV.aM [] x=true:=(by exact(Am.dx (bJ _) (Am.dM rfl Am.eU)));exact aj [kc [] hc,kY,kf hg,kc [] lG,kp (bJ l),kq 0,kp (ay l).symm,vV ((length l+1)*80),kc [1] ho,kp H6,kp H6]
theorem aiu r(c:CE)e(cap:Nat)(hg:c.gn=false)(hc:Cq 106 [.lit (.slice none 0 cap)] (int 0))(lG:Cq 82 [.lit (.slice none 0 cap)] (.lit (.slice none 0 0)))(ho:ak P G 144 [.aU 0 0 0 1] [.aN 0 9 false [[int c.dv,int c.sq,int c.gU,int c.ad,int c.j6,int c.aa,int c.tm,str c.vl,bool c.gn]]] (.ret (.bq [bZ r,int e])) [.aN 0 9 true [[int c.dv,int c.sq,int c.gU,int c.ad,int c.j6,int c.aa,int c.tm,str c.vl,bool c.gn]]])(h:True):Cq 252 [.lit (Value.slice none 0 cap),nP c] (.bq [bZ r,int e]):=by
 have qj:∀ x,x∈[[int c.dv,int c.sq,int c.gU,int c.ad,int c.j6,int c.aa,int c.tm,str c.vl,Am.bool c.gn]]->AV.aM [] x=true:=(by exact(Am.dM rfl Am.eU));exact aj [kc [] hc,kY,kf hg,kc [] lG,Qx [int c.dv,int c.sq,int c.gU,int c.ad,int c.j6,int c.aa,int c.tm,str c.vl,Am.bool c.gn],vV 80,kc [1] ho,kp qj,kp qj]
theorem aiv r(c:CE)e(cap:Nat)a(hg:c.gn=false)(hc:Cq 106 [.lit (.slice (some a) 0 cap)] (int 0))(lG:Cq 82 [.lit (.slice (some a) 0 cap)] (.sl 9 true []))(ho:ak P G 144 [.aU 0 0 0 1] [.aN 0 9 false [[int c.dv,int c.sq,int c.gU,int c.ad,int c.j6,int c.aa,int c.tm,str c.vl,bool c.gn]]] (.ret (.bq [bZ r,int e])) [.aN 0 9 true [[int c.dv,int c.sq,int c.gU,int c.ad,int c.j6,int c.aa,int c.tm,str c.vl,bool c.gn]]])(h:True):Cq 252 [.lit (Value.slice (some a) 0 cap),nP c] (.bq [bZ r,int e]):=by
 have qj:∀ x,x∈[[int c.dv,int c.sq,int c.gU,int c.ad,int c.j6,int c.aa,int c.tm,str c.vl,Am.bool c.gn]]->AV.aM [] x=true:=(by exact(Am.dM rfl Am.eU));exact aj [kc [] hc,kY,kf hg,kc [] lG,Qx [int c.dv,int c.sq,int c.gU,int c.ad,int c.j6,int c.aa,int c.tm,str c.vl,Am.bool c.gn],vV 80,kc [1] ho,kp qj,kp qj]
theorem amB l(a b c:Int)e(he:e≠0)(hc:Cq 106 [bZ l] (int e))(h:True):Cq 255 [bZ l,oO a b c] (.bq [bZ [],int e]):=by
 exact ak.out ((show Cq 255 [bZ l,oO a b c] (.bq [aK,int e])from aj [kc [] hc,kt (((y32 (qF zO))))])) (aF.iM ⟨(aF.nil _),y34,yO⟩)
theorem amC l(a b c:Int)(hc:Cq 106 [bZ l] (int 0))(hf:Cq 195 [bZ l,oO a b c] (.bq [int 0,bool false]))(h:True):Cq 255 [bZ l,oO a b c] (.bq [bZ [],int 130]):=by
 exact ak.out ((show Cq 255 [bZ l,oO a b c] (.bq [aK,int 130])from aj [kc [] hc,kY,kc [] hf,kO])) (aF.iM ⟨(aF.nil _),y34,yO⟩)
theorem amD l(x:CE)a b c(j:Nat)(hv:l.length<=1000000)(fF:¬au l=[])(hj:j<l.length)(hx:l[j]?=some x)(hc:Cq 106 [bZ l] (int 0))(hf:Cq 195 [bZ l,oO a b c] (.bq [int j,bool true]))(lG:ak P G 82 [bZ l] [] (.ret (.aU 0 0 0 l.length)) [.aN 0 9 false (au l)])r(h:((∀ x,x∈au l->AV.aM [] x=true)/\(∃x2:CE,(l[0+Int.toNat j]?=some x2)/\((List.take l.length (List.drop 0 (List.set (au l) (0+Int.toNat j) [int x2.dv,int x2.sq,int x2.gU,int x2.ad,int x2.j6,int x2.aa,int x2.tm,str x2.vl,Am.bool true]))=List.set (au l) (0+Int.toNat j) [int x2.dv,int x2.sq,int x2.gU,int x2.ad,int x2.j6,int x2.aa,int x2.tm,str x2.vl,Am.bool true])/\((length (List.set (au l) (0+Int.toNat j) [int x2.dv,int x2.sq,int x2.gU,int x2.ad,int x2.j6,int x2.aa,int x2.tm,str x2.vl,Am.bool true])=length l)/\((∀ c,c∈List.set (au l) (0+Int.toNat j) [int x2.dv,int x2.sq,int x2.gU,int x2.ad,int x2.j6,int x2.aa,int x2.tm,str x2.vl,Am.bool true]->List.all c AV.fJ=true)/\aF (AV.bq [AV.sl 9 false (List.set (au l) (0+Int.toNat j) [int x2.dv,int x2.sq,int x2.gU,int x2.ad,int x2.j6,int x2.aa,int x2.tm,str x2.vl,Am.bool true]),int 0]) (AV.bq [r,int 0]))))))):Cq 255 [bZ l,oO a b c] (.bq [r,int 0]):=by
 have x9:0=0:=(rfl);obtain⟨o1,h⟩:=h;obtain⟨x2,o3,h⟩:=h;obtain⟨o4,h⟩:=h;obtain⟨o5,h⟩:=h;obtain⟨o6,h⟩:=h;have e1:=h;exact ak.out ((aj [kc [] hc,kY,kc [] hf,kY,kc [] lG,ko (bC.elem (aQ x2)),ko (bC.Gu (List.set (au l) (0+Int.toNat j) [int x2.dv,int x2.sq,int x2.gU,int x2.ad,int x2.j6,int x2.aa,int x2.tm,str x2.vl,Am.bool true])),kp o1,kp x9,kR j l.length,kp x9,kp x9,kp (show(au l)[0+Int.toNat j]?=some (aQ x2)from(iN o3)),kp x9,kp o4,kp o5,kp o6])) e1
theorem XT l(fF:l≠[])(hv:l.length<=1000000):ak P G 82 [bZ l] [] (.ret (.aU 0 0 0 l.length)) [.aN 0 9 false (au l)]:=ait l (fun h=>fF (by simpa[au]using h)) hv trivial
theorem abY cap:Cq 82 [.lit (.slice none 0 cap)] aK:=aj [kO]
theorem abZ a(cap:Nat):Cq 82 [.lit (.slice (some a) 0 cap)] (.sl 9 true []):=aj [kY,ko .LV,kp (rfl:([]:List (List AV))=[])]
theorem TA A(cap:Nat)(h:Cq 106 [bZ []] (int 0)):Cq 106 [.lit (.slice A 0 cap)] (int 0) :=
 h.args rfl fun j hj=>by
  have:j<1:=hj;obtain rfl:j=0:=zO
  exact aF.afp 9 A cap
theorem kQ.HV{l}{c}(h:kQ l)(hc:Cu c):kQ (l++[c]):=fun x hx=>by
 rcases yI.1 hx with h'|h'
 .exact h x h'
 .grind
theorem KC l(c:CE)(hv:l.length<=999999)(hR:kQ l)(hc:Cu c):Cq 252 [bZ l,nP c] (.bq [bZ (rU l c),int (A8 l c)]):=by
 have hk:=HZ l zO hR;by_cases h0:jg l=0
 .rw [h0]at hk;by_cases hg:c.gn=true
  .have e1:rU l c=[]:=by simp[rU,hg]
   have e2:A8 l c=130:=by simp[A8,h0,hg]
   rw[e1,e2];exact amz l c hg hk trivial
  .have e1:rU l c=BI (l++[c]):=by simp[rU,h0,hg]
   have e2:A8 l c=F5 (l++[c]):=by simp[A8,h0,hg]
   rw[e1,e2];have hg':c.gn=false:=by simpa using hg
   have ho:=wW (l++[c]) (by rw[yD,length_singleton];omega) (hR.HV hc);have hp:=bK (l++[c]);have hn:=ay (l++[c]);rw[yD,length_singleton]at hn;have he:au (l++[c])=au l++[aQ c]:=by simp[au]
   rw[bZ,he]at ho;rw[he]at hp hn;have ho':∀g,ak P G 144 [.aU 0 g 0 (l.length+1)] [.aN g 9 false (au l++[aQ c])] (.ret (.bq [bZ (BI (l++[c])),int (F5 (l++[c]))])) [.aN g 9 true (au l++[aQ c])]:=fun g =>
    ak.afq (by rw[<- hn,take_length]) hn hp rfl ho
   cases l with
   |nil=>exact ak.XU (fun cap=>aiu _ c _ cap hg' (TA none cap hk) (abY cap) (ho' 0) yO) (fun a cap=>aiv _ c _ cap a hg' (TA (some a) cap hk) (abZ a cap) (ho' 0) yO)
   |cons x l=>exact amA (x::l) _ c _ (by simp[au]) zO hg' hk (XT (x::l) zS zO) (ho' 1) trivial
 .have e1:rU l c=[]:=by simp[rU,h0]
  have e2:A8 l c=jg l:=by simp[A8,h0]
  rw[e1,e2];exact amy l c _ h0 hk trivial
theorem aiw l(a b c:Int)(hv:l.length<=1000000)(hR:kQ l):Cq 255 [bZ l,oO a b c] (.bq [bZ (Ez l a b c),int (Ox l a b c)]):=by
 have hc:=HZ l hv hR;by_cases h0:jg l=0
 .rw [h0]at hc;have hf:=wX l a b c zO;cases hx:fX (vM a b c) l with
  |none =>
   rw[hx]at hf;have e1:Ez l a b c=[]:=by simp[Ez,hx]
   have e2:Ox l a b c=130:=by simp[Ox,h0,hx]
   rw[e1,e2];exact amC l a b c hc hf trivial
  |some j =>
   rw[hx]at hf;obtain⟨x,hj,_⟩:=QU hx;have bg:=(yC.1 hj).1;have fF:l≠[]:=fun h=>by rw[h]at bg;grind
   have e1:Ez l a b c=l.set j { x with gn:=true }:=by simp[Ez,h0,hx,BJ hj]
   have e2:Ox l a b c=0:=by simp[Ox,h0,hx]
   rw[e1,e2];have hs:∀n,n=j->List.set (au l) n [int x.dv,int x.sq,int x.gU,int x.ad,int x.j6,int x.aa,int x.tm,str x.vl,bool true]=au (l.set j { x with gn:=true }):=fun n hn=>by
    subst hn;exact CW l n { x with gn:=true }
   have hl:(l.set j { x with gn:=true }).length=l.length:=length_set;refine amD l x a b c j hv (fun h=>fF (by simpa[au]using h)) bg hj hc hf (XT l fF hv) (bZ (l.set j { x with gn:=true })) ⟨bJ l,x,by rw[y12];exact hj,?_⟩;rw[hs (0+(j:Int).toNat) (by rw[y31,y12])];exact⟨by rw[drop_zero,<- hl,<- ay,take_length],by rw[ay,hl],bK _,y34⟩
 .have e1:Ez l a b c=[]:=by simp[Ez,h0]
  have e2:Ox l a b c=jg l:=by simp[Ox,h0]
  rw[e1,e2];exact amB l a b c _ h0 hc trivial
end Go.Sq
namespace Go.Dc
open Go Go.Am Go.Proofs Go.eY Go.bH
theorem pW v:∀c∈lH v,AV.aM [] c=true:=by
 intro c hc;obtain⟨d,_,rfl⟩:=yG.1 hc;rfl
theorem sQ v:∀c∈lH v,c.all AV.fJ=true:=by
 intro c hc;obtain⟨d,_,rfl⟩:=yG.1 hc;rfl
theorem aix v(hv:v.length<=1000000)(fF:¬lH v=[])(h:True):Cq 84 [mF v] (mF v):=by
 exact aj [kp (show lH v≠[]from zO),kY,kv 7 (show Am.aF (AV.aU 0 0 0 (0+length (lH v))) (AV.aU 0 0 0 v.length)from(aF.of_eq (by simp[dP,sQ]))),ko (bC.Gu (lH v)),kp fF,vV ((0+length (lH v))*24) (by simp only[dP,sQ]<;>omega),kq 0,XV v.length (lH v) (by simp only[dP,pW]<;>omega),kp (dP v),kp (sQ v)]
theorem aiy cap:Cq 84 [.lit (.slice none 0 cap)] (mF []) :=
 ak.out (aj [kt (Eq.refl true)]) (aF.nil 3)
theorem aiz a(cap:Nat):Cq 84 [.lit (.slice (some a) 0 cap)] (mF []) :=
 ak.out (aj [kf (Eq.refl false),ko .LV,kp (rfl:([]:List (List AV))=[])]) (aF.oP 3 true [])
theorem aiA v(hv:v.length<=1000000):Cq 84 [mF v] (mF v):=by
 cases v with
 |nil=>exact ak.wY aiy aiz
 |cons c v=>exact aix (c::v) hv (by simp[lH]) trivial
theorem aiB v(hv:v.length<=1000000)(fF:¬Bd.au v=[])(h:True):Cq 83 [Bd.iK v] (Bd.iK v):=by
 exact aj [kp (show Bd.au v≠[]from zO),kY,kv 7 (show Am.aF (AV.aU 0 0 0 (0+length (Bd.au v))) (AV.aU 0 0 0 v.length)from(aF.of_eq (by simp[Go.Bd.ay,Go.Bd.bK]))),ko (bC.Gu (Bd.au v)),kp fF,vV ((0+length (Bd.au v))*56) (by simp only[Go.Bd.ay,Go.Bd.bK]<;>omega),kq 0,XV v.length (Bd.au v) (by simp only[Go.Bd.ay,Go.Bd.bK]<;>omega),kp (show length (Bd.au v)=length v from(Go.Bd.ay _)),kp (show ∀ c,c∈Bd.au v->List.all c AV.fJ=true from(Go.Bd.bK _))]
theorem aiC cap:Cq 83 [.lit (.slice none 0 cap)] (Bd.iK []) :=
 ak.out (aj [kt (Eq.refl true)]) (aF.nil 5)
theorem aiD a(cap:Nat):Cq 83 [.lit (.slice (some a) 0 cap)] (Bd.iK []) :=
 ak.out (aj [kf (Eq.refl false),ko .LV,kp (rfl:([]:List (List AV))=[])]) (aF.oP 5 true [])
theorem aiE v(hv:v.length<=1000000):Cq 83 [Bd.iK v] (Bd.iK v):=by
 cases v with
 |nil=>exact ak.wY aiC aiD
 |cons c v=>exact aiB (c::v) hv (by simp[Bd.au]) trivial
theorem aiF v(hv:v.length<=1000000)(fF:¬Tx.au v=[])(h:True):Cq 85 [Tx.oI v] (Tx.oI v):=by
 exact aj [kp (show Tx.au v≠[]from zO),kY,kv 7 (show Am.aF (AV.aU 0 0 0 (0+length (Tx.au v))) (AV.aU 0 0 0 v.length)from(aF.of_eq (by simp[Go.Tx.ay,Go.Tx.bK]))),ko (bC.Gu (Tx.au v)),kp fF,vV ((0+length (Tx.au v))*88) (by simp only[Go.Tx.ay,Go.Tx.bK]<;>omega),kq 0,XV v.length (Tx.au v) (by simp only[Go.Tx.ay,Go.Tx.bK]<;>omega),kp (show length (Tx.au v)=length v from(Go.Tx.ay _)),kp (show ∀ c,c∈Tx.au v->List.all c AV.fJ=true from(Go.Tx.bK _))]
theorem aiG cap:Cq 85 [.lit (.slice none 0 cap)] (Tx.oI []) :=
 ak.out (aj [kt (Eq.refl true)]) (aF.nil 11)
theorem aiH a(cap:Nat):Cq 85 [.lit (.slice (some a) 0 cap)] (Tx.oI []) :=
 ak.out (aj [kf (Eq.refl false),ko .LV,kp (rfl:([]:List (List AV))=[])]) (aF.oP 11 true [])
theorem aiI v(hv:v.length<=1000000):Cq 85 [Tx.oI v] (Tx.oI v):=by
 cases v with
 |nil=>exact ak.wY aiG aiH
 |cons c v=>exact aiF (c::v) hv (by simp[Tx.au]) trivial
structure XW(f:FD):Prop where
 ce:f.ce.length<=1000000
 bi:f.bi.length<=1000000
 ta:f.ta.length<=1000000
 tc:f.tc.length<=1000000
 tm:f.tm.length<=1000000
theorem XY f(h:XW f):Cq 53 [.agg (jB f)] (.agg (jB f)) :=
 amE f (aiA _ h.ta) (Sq.up (Sq.uJ _ h.ce)) (aiE _ h.bi) (Sq.up (Sq.uJ _ h.tc)) (aiI _ h.tm) trivial
end Go.Dc
namespace Go.Tx
open Go Go.Am Go.Proofs Go.eY
open Go.Sq (CE nP bZ oO vM fX U2)
theorem wX v(a b c:Int)(hv:v.length<=1000000000):Cq 195 [bZ v,oO a b c] (.bq [int (U2 (fX (vM a b c) v)).1,bool (U2 (fX (vM a b c) v)).2]):=JZ (Sq.wX v a b c hv)
def nD(a b:MK):Bool:=if a.tm≠b.tm then decide (a.tm<b.tm)else if a.dv≠b.dv then decide (a.dv<b.dv)else decide (a.sq<b.sq)
def gJ(x y:Int):Int:=if x<y then -1 else if x>y then 1 else 0
def Ar:List Int->Int
 |[]=>0
 |x::t=>if x=0 then Ar t else x
def yc(a b:MK):Int:=Ar [gJ a.tm b.tm,gJ a.dv b.dv,gJ a.sq b.sq]
theorem CX x(h:(x != x)=(false)):Cq 118 [int x] (Am.bool false):=by
 exact aA (aF.aI h) []
theorem QX x y v(hx:Cq 118 [int x] (bool false))(hy:Cq 118 [int y] (bool false))(h:(((x<y)->-1=(v))/\((¬x<y)->(((x>y)->1=v)/\((¬x>y)->0=v))))):Cq 87 [int x,int y] (int v):=by
 let l1:List fP:=[kc [] hx,kc [] hy,kY,kY];by_cases c1:(x<y)
 .have h:=h.1 c1;exact aA (aF.int_eq h) (l1++[kt (qT c1)])
 .have h:=h.2 c1;by_cases c2:(x>y)
  .have h:=h.1 c2;exact aA (aF.int_eq h) (l1++[kf (qF c1),kt (qT c2)])
  .have h:=h.2 c2;exact aA (aF.int_eq h) (l1++[kf (qF c1),kf (qF c2)])
theorem wZ x y:Cq 87 [int x,int y] (int (gJ x y)):=QX x y _ (CX x zS) (CX y zS) (by
 unfold gJ;grind)
def H7(l:List Int)(k:Nat):St:={ aL:=aC 18 [(2,int 0),(3,int 0),(6,.sl 1 true (bH.ql l)),(7,int l.length),(8,int k)],H:=[] }
theorem XZ l(k:Nat)(hl:l.length<=1000000)(ex:bF)r(h:((((k:Int)<l.length)->(∃x2:Int,(l[k]?=some x2)/\(((x2=0)->Rq 0 86 0 (sM 18 [(2,int 0),(3,int 0),(6,.sl 1 true (bH.ql l)),(7,int ↑l.length),(8,int ↑(k+1))] []) ex (sM 18 [(2,int r),(3,int 0)] []))/\((¬x2=0)->(bF.ret=ex)/\(x2=(r))))))/\((¬(k:Int)<l.length)->(bF.exit 0=ex)/\(0=r)))):Rq 0 86 0 (H7 l k) ex (sM 18 [(2,int r),(3,int 0)] []):=by
 by_cases c1:(k<(l.length:Int))
 .have h:=h.1 c1;obtain⟨x2,o3,h⟩:=h;have bS:(0:Int)<=k/\(bH.ql l)[Int.toNat k]?=some (bH.LW x2):=(bG o3);by_cases c4:(x2=0)
  .have h:=h.1 c4;exact aJ [kt (qT c1),ko (bC.elem (bH.LW x2)),kp bS,kf (y32 (nW.2 c4)),kW 16 (k+1) ↑(k+1)] (aB 18 [2,3,6,7,8]) 0 h
  .have h:=h.2 c4;obtain⟨eX,e1⟩:=h;exact bN.to ((show Rq 0 86 0 (H7 l k) bF.ret (sM 18 [(2,int x2),(3,int 0)] [])from aG [kt (qT c1),ko (bC.elem (bH.LW x2)),kp bS,kt (((y32 (qN.2 c4))))] (aB 18 [2,3]) 0)) eX (eB.aC ⟨rfl,(aF.int_eq e1),rfl,y34,yO⟩)
 .have h:=h.2 c1;obtain⟨eX,e1⟩:=h;exact bN.to ((show Rq 0 86 0 (H7 l k) (bF.exit 0) (sM 18 [(2,int 0),(3,int 0)] [])from aG [kf (qF c1)] (aB 18 [2,3]) 0)) eX (eB.aC ⟨rfl,(aF.int_eq e1),rfl,y34,yO⟩)
theorem Gw l(hl:l.length<=1000000):∀ m k,l.length-k=m->k<=l.length->Rq 0 86 0 (H7 l k) (if Ar (l.drop k)=0 then .exit 0 else .ret) { aL:=aC 18 [(2,int (Ar (l.drop k))),(3,int 0)],H:=[] }:=by
 intro m
 induction m with
 |zero =>
  intro k hm hk;have e:l.drop k=[]:=y21 zO;rw[e];exact XZ l k hl _ _ ⟨fun h=>absurd h zO,fun _=>⟨rfl,rfl⟩⟩
 |succ m ih =>
  intro k hm hk;have bg:k<l.length:=zO
  have e:=y01 bg;refine XZ l k hl _ _ ⟨fun _=>⟨l[k],yA bg,⟨fun h0=>?_,fun h0=>?_⟩⟩,fun h=>absurd bg zO⟩
  .have:Ar (l.drop k)=Ar (l.drop (k+1)):=by rw[e,Ar,yL h0]
   rw[this];exact ih (k+1) zO zO
  .have:Ar (l.drop k)=l[k]:=by rw[e,Ar,yK h0]
   grind
theorem ab0 l(r:Int)(hL:Rq 0 86 0 (H7 l 0) (if r=0 then .exit 0 else .ret) { aL:=aC 18 [(2,int r),(3,int 0)],H:=[] })(h:(((r=0)->0=r)/\((¬r=0)->True))):Cq 86 [.sl 1 true (bH.ql l)] (int r):=by
 have bS:Am.aF (int ↑(length (bH.ql l))) (int ↑l.length):=(aF.of_eq (by simp only[Go.bH.kD]));by_cases c1:(r=0)
 .have h:=h.1 c1;exact aA (aF.int_eq h) [kv 7 bS,kl (rG [(0,2),(4,2),(9,9)]) 0 (((by have h0:=hL;simp only[yL c1]at h0;exact h0)))]
 .exact aj [kv 7 bS,kl (rG [(0,2),(4,2),(9,9)]) 0 (((by have h0:=hL;simp only[yK c1]at h0;exact h0)))]
theorem X0 a b c:Cq 86 [.sl 1 true [[int a],[int b],[int c]]] (int (Ar [a,b,c])) :=
 ab0 [a,b,c] _ (by have:=Gw [a,b,c] zS 3 0 rfl zS;grind) ⟨fun h=>h.symm,fun _=>trivial⟩
theorem ab1 a b(h:True):Cq 157 [EC a,EC b] (int (yc a b)):=by
 exact aj [kc [] (@wZ a.tm b.tm),kc [] (@wZ a.dv b.dv),kc [] (@wZ a.sq b.sq),kc [] (@X0 (gJ a.tm b.tm) (gJ a.dv b.dv) (gJ a.sq b.sq))]
theorem wW a b:Cq 157 [EC a,EC b] (int (yc a b)):=ab1 a b trivial
theorem LX a b:yc a b<0↔nD a b=true:=by grind[yc,nD,Ar,gJ]
theorem TB a b:yc a b>=0↔nD a b=false:=by
 have:=LX a b;grind
def F8(l:List CE)(m:MK):Bool:=(fX (vM m.fd m.fs m.fa) l).isSome&&(fX (vM m.td m.ts m.ta) l).isSome&&bH.gQ (m.dv,m.sq)&&decide (m.tm>=1)&&decide (m.tm<=1099511627776)&&decide (m.st>=0)&&decide (m.st<16)
theorem ab2 a b:bH.eZ [(a,b)]=if bH.gQ (a,b)=true then 0 else 120:=by
 unfold bH.eZ bH.Cw;simp[bH.y9,bH.jh]
theorem aiJ a b:Cq 46 [.sl 2 true [[int a,int b]]] (int (if bH.gQ (a,b)=true then 0 else 120)):=by
 have:=JZ (bH.fG [(a,b)] zS);rw[ab2]at this;refine this.args rfl fun j hj=>?_;have:j<1:=hj;obtain rfl:j=0:=zO
 exact aF.oP 2 true _
theorem X3 o:(U2 o).2=o.isSome:=by cases o<;>rfl
theorem afr(l:List CE)(m:MK)(hv:l.length<=1000000000)(f t:Int)(fb tb:Bool)(e:Int)(hf:Cq 195 [bZ l,oO m.fd m.fs m.fa] (.bq [int f,bool fb]))(ht:Cq 195 [bZ l,oO m.td m.ts m.ta] (.bq [int t,bool tb]))(hd:Cq 46 [.sl 2 true [[int m.dv,int m.sq]]] (int e))(r:Bool)(h:((((fb)=true)->((((tb)=true)->(((e=0)->(((m.tm>=1)->(((m.tm<=1099511627776)->(((m.st>=0)->(decide (m.st<16))=(r))/\((¬m.st>=0)->(false)=(r))))/\((¬m.tm<=1099511627776)->(false)=(r))))/\((¬m.tm>=1)->(false)=(r))))/\((¬e=0)->(false)=(r))))/\(((tb)=false)->(false)=(r))))/\(((fb)=false)->(false)=(r)))):Cq 156 [bZ l,EC m] (Am.bool r):=by
 let l1:List fP:=[kc [] hf,kc [] ht];rcases y00 ((fb))with c1|c1
 .have h:=h.1 c1;rcases y00 ((tb))with c2|c2
  .have h:=h.1 c2;let l2:List fP:=l1++[kt c1,kt c2,kc [] hd];by_cases c3:(e=0)
   .have h:=h.1 c3;by_cases c4:(m.tm>=1)
    .have h:=h.1 c4;let l3:List fP:=l2++[kt (nW.2 c3),kt (qT c4)];by_cases c5:(m.tm<=1099511627776)
     .have h:=h.1 c5;by_cases c6:(m.st>=0)
      .have h:=h.1 c6;exact aA (aF.aI h) (l3++[kt (qT c5),kt (qT c6)])
      .have h:=h.2 c6;exact aA (aF.aI h) (l3++[kt (qT c5),kf (qF c6)])
     .have h:=h.2 c5;exact aA (aF.aI h) (l3++[kf (qF c5),kY])
    .have h:=h.2 c4;exact aA (aF.aI h) (l2++[kt (nW.2 c3),kf (qF c4),kY,kY])
   .have h:=h.2 c3;exact aA (aF.aI h) (l2++[kf (qN.2 c3),kY,kY,kY])
  .have h:=h.2 c2;exact aA (aF.aI h) (l1++[kt c1,kf c2,kY,kY,kY,kY])
 .have h:=h.2 c1;exact aA (aF.aI h) (l1++[kf c1,kY,kY,kY,kY,kY])
theorem LY l(m:MK)(hv:l.length<=1000000000):Cq 156 [bZ l,EC m] (bool (F8 l m)):=by
 refine afr l m hv _ _ _ _ _ (wX l m.fd m.fs m.fa hv) (wX l m.td m.ts m.ta hv) (aiJ m.dv m.sq) _ ?_;simp only[X3,F8];grind
def nE:Option Nat->Int
 |some k=>(k:Int)
 |none => -1
def fO(a:Int):Prop := -9223372036854775808<=a/\a<9223372036854775808
structure OkM(m:MK):Prop where
 dv:fO m.dv
 sq:fO m.sq
 tm:fO m.tm
 fd:fO m.fd
 fs:fO m.fs
 fa:fO m.fa
 td:fO m.td
 ts:fO m.ts
 ta:fO m.ta
 st:fO m.st
def QY(v:List MK):Prop:=∀m∈v,OkM m
def jh(l:List CE)(v:List MK)(k:Nat):Bool:=match v[k]? with
 |some x=>F8 l x&&((k==0||match v[k-1]? with|some p=>nD p x|none=>false) && !((v.take k).any fun c=>decide (c.eG=x.eG)))
 |none=>true
def y9(l:List CE)(v:List MK):Nat->Nat->Bool
 |0,_=>true
 |n+1,k=>jh l v k&&y9 l v n (k+1)
def Cw(l:List CE)(v:List MK):Bool:=y9 l v v.length 0
def Ba(c:CE):Bool:=decide (c.vl.size=1)
theorem amF(c:CE)r(h:((↑(ByteArray.size c.vl):Int)!=1)=(r)):Cq 155 [nP c] (Am.bool r):=by
 exact aA (aF.aI h) []
theorem amG c:Cq 155 [nP c] (bool (!Ba c)):=amF c _ (by
 unfold Ba;grind)
def U3(v:List CE)(k:Nat):St:={ aL:=aC 19 [(0,bZ v),(1,.lit (.func (.func 155) #[] #[])),(4,int 0),(6,bZ v),(7,int v.length),(8,int k)],H:=[] }
theorem afs v(k:Nat)(hv:v.length<=1000000000)(ex:bF)r(h:(((k<(v.length:Int))->(∃x2:CE,(v[k]?=some x2)/\((((Ba x2)=true)->Rq 0 186 0 (sM 19 [(0,.sl 9 false (Sq.au v)),(1,iL 155),(4,int 0),(6,.sl 9 false (Sq.au v)),(7,int ↑v.length),(8,int ↑(k+1))] []) ex (sM 19 [(4,int r)] []))/\(((Ba x2)=false)->(bF.ret=ex)/\((k:Int)=(r))))))/\((¬k<(v.length:Int))->(bF.exit 0=ex)/\(0=r)))):Rq 0 186 0 (U3 v k) ex (sM 19 [(4,int r)] []):=by
 by_cases c1:((k:Int)<v.length)
 .have h:=h.1 c1;obtain⟨x2,o3,h⟩:=h;have fT:=(@amG (x2));let l1:List fP:=[kt (qT c1),ke (Sq.aQ x2) (Sq.au v) k (bG o3),kc [] fT];rcases y00 ((Ba x2))with c4|c4
  .have h:=h.1 c4;exact aJ (l1++[kf (y32 (c4)),kW 18 (k+1) ↑(k+1)]) (aB 19 [0,1,4,6,7,8]) 0 h
  .have h:=h.2 c4;obtain⟨eX,e1⟩:=h;exact bN.to ((show Rq 0 186 0 (U3 v k) bF.ret (sM 19 [(4,int ↑k)] [])from aG (l1++[kt (((y32 (c4))))]) (aB 19 [4]) 0)) eX (eB.aC ⟨rfl,(aF.int_eq e1),yO⟩)
 .have h:=h.2 c1;obtain⟨eX,e1⟩:=h;exact bN.to ((show Rq 0 186 0 (U3 v k) (bF.exit 0) (sM 19 [(4,int 0)] [])from aG [kf (qF c1)] (aB 19 [4]) 0)) eX (eB.aC ⟨rfl,(aF.int_eq e1),yO⟩)
theorem ab3 v(hv:v.length<=1000000000):∀n k,v.length-k=n->k<=v.length->∃j:Nat,Rq 0 186 0 (U3 v k) (if(v.drop k).all Ba=true then .exit 0 else .ret) { aL:=aC 19 [(4,int j)],H:=[] }:=by
 intro n
 induction n with
 |zero =>
  intro k hn hk;rw[y17 zO];exact⟨0,afs v k hv _ _ ⟨fun h=>absurd h zO,fun _=>⟨rfl,rfl⟩⟩⟩
 |succ n ih =>
  intro k hn hk;have bg:k<v.length:=zO
  obtain⟨j,hj⟩:=ih (k+1) zO zO;rw[y01 bg,all_cons];cases hb:Ba v[k]with
  |true =>
   exact⟨j,afs v k hv _ _ ⟨fun _=>⟨v[k],yA bg,⟨fun _=>hj,fun h=>by rw[hb]at h;simp at h⟩⟩,fun h=>absurd bg zO⟩⟩
  |false =>
   exact⟨k,afs v k hv _ _ ⟨fun _=>⟨v[k],yA bg,⟨fun h=>by rw[hb]at h;simp at h,fun _=>⟨rfl,rfl⟩⟩⟩,fun h=>absurd bg zO⟩⟩
theorem aiK v(j:Nat)(hL:Rq 0 186 0 (U3 v 0) .ret { aL:=aC 19 [(4,int j)],H:=[] })(h:True):Cq 186 [bZ v,.lit (Value.func (Fn.func 155) #[] #[])] (int ↑j):=by
 exact aj [kv 7 (show Am.aF (int ↑(length (Sq.au v))) (int ↑v.length)from(aF.of_eq (by simp only[Go.Sq.ay]))),kl (rG [(2,2),(5,1),(9,10)]) 0 hL]
theorem aiL v(j:Nat)(hL:Rq 0 186 0 (U3 v 0) (.exit 0) { aL:=aC 19 [(4,int j)],H:=[] })(h:True):Cq 186 [bZ v,.lit (Value.func (Fn.func 155) #[] #[])] (int (-1)):=by
 exact aj [kv 7 (show Am.aF (int ↑(length (Sq.au v))) (int ↑v.length)from(aF.of_eq (by simp only[Go.Sq.ay]))),kl (rG [(2,2),(5,1),(9,10)]) 0 hL]
theorem aeb v(j:Int)r(h0:Cq 186 [bZ v,.lit (.func (.func 155) #[] #[])] (int j))(h:(decide (j>=0))=(r)):Cq 146 [bZ v,.lit (Value.func (Fn.func 155) #[] #[])] (Am.bool r):=by
 exact aA (aF.aI h) [kc [] h0]
theorem BL v(hv:v.length<=1000000000):Cq 146 [bZ v,.lit (.func (.func 155) #[] #[])] (bool (!v.all Ba)):=by
 obtain⟨j,hj⟩:=ab3 v hv v.length 0 zO zO;rw[drop_zero]at hj;cases hb:v.all Ba with
 |true=>rw[hb]at hj;exact aeb v _ _ (aiL v j hj yO) zS
 |false=>rw[hb]at hj;exact aeb v _ _ (aiK v j hj yO) zS
def fV(a b:Int):Value:=.agg #[.int .i64 a,.int .i64 b]
def fQ(v:List MK):List (Value×AV):=v.map fun x=>(fV x.dv x.sq,bool true)
theorem vW v:∀e∈fQ v,AV.bP 2 e.2=true:=by
 intro e he;obtain⟨x,_,rfl⟩:=yG.1 he;rfl
def nX(l:List CE)(v:List MK)(k:Nat)(pre:List MK):St:={ aL:=aC 55 [(1,.ptr 0 0),(4,.mp 1),(18,oI v),(19,int v.length),(20,int k)],H:=[.box [bZ l,oI v],.map (fQ pre)] }
def ckO:St:={ aL:=aC 55 [],H:=[.aH,.aH] }
def U4(r:Int):St:={ aL:=aC 55 [(2,int r)],H:=[.aH,.aH] }
theorem aft(l:List CE)v(k:Nat)(x:MK)pre(hl:l.length<=1000000000)(hv:v.length<=1000000000)(hk:(k:Int)<v.length)(hx:v[k]?=some x)(hm:bT P 49 (fQ pre) (fV x.dv x.sq) (bool false) (bool true) true)(h:True):Rq 0 115 0 (nX l v k pre) bF.ret (U4 160):=by
 exact bN.to (bN.qm ((show Rq 0 115 0 (nX l v k pre) bF.ret (sM 55 [(2,int 160)] [.box [.sl 9 false (Sq.au l),.sl 11 false (au v)],.map (fQ pre)])from aG [ki ((k:Int)<v.length),ko (bC.elem (aQ x)),ko (bC.lJ (Am.bool true) true),kp (show(0:Int)<=(k:Int)/\(au v)[Int.toNat (k:Int)]?=some (aQ x)from(bG hx)),kp hm,kO,kO,kO,kp (show ∀(e:Value×AV),e∈fQ pre->AV.bP 2 e.2=true from(vW _))] (aB 55 [2]) 2)) (by exact⟨.inr yO,.inr yO,yO⟩)) rfl (eB.aC ⟨rfl,y34,yO⟩)
theorem afu(l:List CE)(v:List MK)(k:Nat)(x:MK)(pre:List MK)(hl:l.length<=1000000000)(hv:v.length<=1000000000)(hk:(k:Int)<(v.length:Int))(hx:v[k]?=some x)(hq:F8 l x=false)(hm:bT P 49 (fQ pre) (fV x.dv x.sq) (bool false) (bool false) false)(h:True):Rq 0 115 0 (nX l v k pre) bF.ret (U4 160):=by
 exact bN.to (bN.qm ((show Rq 0 115 0 (nX l v k pre) bF.ret (sM 55 [(2,int 160)] [.box [.sl 9 false (Sq.au l),.sl 11 false (au v)],.map (fQ pre)])from aG [ki ((k:Int)<v.length),ko (bC.elem (aQ x)),ko (bC.lJ (Am.bool false) false),kp (show(0:Int)<=(k:Int)/\(au v)[Int.toNat (k:Int)]?=some (aQ x)from(bG hx)),kp hm,kY,kc [] (@LY (l) (x) zO),kt (show(!F8 l x)=true from(y32 (hq))),kO,kp (show ∀(e:Value×AV),e∈fQ pre->AV.bP 2 e.2=true from(vW _))] (aB 55 [2]) 2)) (by exact⟨.inr yO,.inr yO,yO⟩)) rfl (eB.aC ⟨rfl,y34,yO⟩)
theorem afv(l:List CE)v(k:Nat)pre(hv:v.length<=1000000000)(hk:¬k<(v.length:Int))(h:True):Rq 0 115 0 (nX l v k pre) (bF.exit 0) ckO:=by
 exact bN.to (bN.qm ((show Rq 0 115 0 (nX l v k pre) (bF.exit 0) (sM 55 [] [.box [.sl 9 false (Sq.au l),.sl 11 false (au v)],.map (fQ pre)])from aG [kj ((k:Int)<v.length)] (aB 55 []) 2)) (by exact⟨.inr yO,.inr yO,yO⟩)) rfl (eB.aC yO)
theorem afw(l:List CE)(v:List MK)(k:Nat)(x:MK)(pre:List MK)(hl:l.length<=1000000000)(hv:v.length<=1000000000)(hk:(k:Int)<(v.length:Int))(hx:v[k]?=some x)(hq:F8 l x=true)(hs:(k:Int)>0)(hm:bT P 49 (fQ pre) (fV x.dv x.sq) (bool false) (bool false) false)(hp:jm P 49 (fQ pre) (fV x.dv x.sq) (bool true) (fQ (pre++[x])))(h:(∃x3:MK,((0:Int)<=(k:Int)-1/\v[Int.toNat ((k:Int)-1)]?=some x3)/\(((yc x3 x>=0)->True)/\((¬yc x3 x>=0)->Rq 0 115 0 (sM 55 [(1,.ptr 0 0),(4,.mp 1),(18,.sl 11 false (au v)),(19,int ↑v.length),(20,int ↑(k+1))] [.box [.sl 9 false (Sq.au l),.sl 11 false (au v)],.map (fQ (pre++[x]))]) bF.ret (U4 160))))):Rq 0 115 0 (nX l v k pre) bF.ret (U4 160):=by
 have x9:=(@LY (l) (x) zO);obtain⟨x3,o4,h⟩:=h;have Qy:=(@wW (x3) (x));let l1:List fP:=[ki ((k:Int)<v.length),ko (bC.elem (aQ x)),ko (bC.lJ (Am.bool false) false),kp (show(0:Int)<=(k:Int)/\(au v)[Int.toNat (k:Int)]?=some (aQ x)from(bG hx)),kp hm,kY,kc [] x9,kf (y32 (hq)),ki ((k:Int)>0),kW 43 ((k:Int)-1) ((k:Int)-1),ko (bC.elem (aQ x3)),kp (show(0:Int)<=(k:Int)-1/\(au v)[Int.toNat ((k:Int)-1)]?=some (aQ x3)from(qU o4)),kc [] Qy];by_cases c5:(yc x3 x>=0)
 .have h:=h.1 c5;exact bN.to (bN.qm ((show Rq 0 115 0 (nX l v k pre) bF.ret (sM 55 [(2,int 160)] [.box [.sl 9 false (Sq.au l),.sl 11 false (au v)],.map (fQ pre)])from aG (l1++[kt (qT c5),kp (show ∀(e:Value×AV),e∈fQ pre->AV.bP 2 e.2=true from(vW _))]) (aB 55 [2]) 2)) (by exact⟨.inr yO,.inr yO,yO⟩)) rfl (eB.aC ⟨rfl,y34,yO⟩)
 .have h:=h.2 c5;exact aJ (l1++[kf (qF c5),ko (bC.wT (fQ (pre++[x]))),kp hp,kW 54 (k+1) ↑(k+1),kp (show ∀(e:Value×AV),e∈fQ (pre++[x])->AV.bP 2 e.2=true from(vW _))]) (aB 55 [1,4,18,19,20]) 2 h
theorem LZ(l:List CE)(v:List MK)(k:Nat)(x:MK)(pre:List MK)(hl:l.length<=1000000000)(hv:v.length<=1000000000)(hk:(k:Int)<(v.length:Int))(hx:v[k]?=some x)(hq:F8 l x=true)(hm:bT P 49 (fQ pre) (fV x.dv x.sq) (bool false) (bool false) false)(hp:jm P 49 (fQ pre) (fV x.dv x.sq) (bool true) (fQ (pre++[x])))(ex:bF)(s:St)(h:((((k:Int)>0)->(∃x3:MK,((0:Int)<=(k:Int)-1/\v[Int.toNat ((k:Int)-1)]?=some x3)/\(((yc x3 x>=0)->(bF.ret=ex)/\(sM 55 [] [.box [.sl 9 false (Sq.au l),.sl 11 false (au v)],.map (fQ pre)]=s))/\((¬yc x3 x>=0)->Rq 0 115 0 (sM 55 [(1,.ptr 0 0),(4,.mp 1),(18,.sl 11 false (au v)),(19,int ↑v.length),(20,int ↑(k+1))] [.box [.sl 9 false (Sq.au l),.sl 11 false (au v)],.map (fQ (pre++[x]))]) ex s))))/\((¬(k:Int)>0)->Rq 0 115 0 (sM 55 [(1,.ptr 0 0),(4,.mp 1),(18,.sl 11 false (au v)),(19,int ↑v.length),(20,int ↑(k+1))] [.box [.sl 9 false (Sq.au l),.sl 11 false (au v)],.map (fQ (pre++[x]))]) ex s))):Rq 0 115 0 (nX l v k pre) ex s:=by
 have x9:=(@LY (l) (x) zO);have Bb:∀(e:Value×AV),e∈fQ (pre++[x])->AV.bP 2 e.2=true:=(vW _);let l1:List fP:=[ki ((k:Int)<v.length),ko (bC.elem (aQ x)),ko (bC.lJ (Am.bool false) false),kp (show(0:Int)<=(k:Int)/\(au v)[Int.toNat (k:Int)]?=some (aQ x)from(bG hx)),kp hm,kY,kc [] x9,kf (y32 (hq))];by_cases c2:((k:Int)>0)
 .have h:=h.1 c2;obtain⟨x3,o4,h⟩:=h;have H6:=(@wW (x3) (x));let l2:List fP:=l1++[kt (qT c2),kW 43 ((k:Int)-1) ((k:Int)-1),ko (bC.elem (aQ x3)),kp (show(0:Int)<=(k:Int)-1/\(au v)[Int.toNat ((k:Int)-1)]?=some (aQ x3)from(qU o4)),kc [] H6];by_cases c5:(yc x3 x>=0)
  .have h:=h.1 c5;obtain⟨eX,eS⟩:=h;exact bN.to ((aG (l2++[kt (qT c5),kp (show ∀(e:Value×AV),e∈fQ pre->AV.bP 2 e.2=true from(vW _))]) (aB 55 []) 2)) eX (eB.of_eq eS)
  .have h:=h.2 c5;exact aJ (l2++[kf (qF c5),ko (bC.wT (fQ (pre++[x]))),kp hp,kW 54 (k+1) ↑(k+1),kp Bb]) (aB 55 [1,4,18,19,20]) 2 h
 .have h:=h.2 c2;exact aJ (l1++[kf (qF c2),kY,ko (bC.wT (fQ (pre++[x]))),kp hp,kW 54 (k+1) ↑(k+1),kp Bb]) (aB 55 [1,4,18,19,20]) 2 h
end Go.Tx
namespace Go.Tx
open Go Go.Am Go.Proofs Go.eY
open Go.Sq (CE nP bZ oO vM fX U2 kQ jg)
def vC(t:TE):Int:=if jg t.cells≠0 then jg t.cells else if t.cells.all Ba=true then(if Cw t.cells t.bQ=true then 0 else 160)else 160
theorem fO.wf{n:Int}(h:fO n):(Lit.int .i64 n).wf=true:=by
 unfold fO at h;simp[Lit.wf,IntKind.min,IntKind.max,IntKind.signed,IntKind.bits];omega
theorem laid:laidOutB P=true:=zQ
theorem sz1:∃n,P.types.size=n+1:=by
 have h:1<=P.types.size:=Nat.le_of_ble_eq_true zQ;exact⟨P.types.size-1,zO⟩
theorem uG(d:Nat){n:Int}(h:fO n):P.keyLits (d+1) 3 [.int .i64 n]=some [.int .i64 n]:=by
 simp[Program.keyLits,Tryz.underlying3,h.wf]
theorem lD:Maps.Keyed P 49:=Maps.Keyed.of_law (deep_law_laid laid (m:=2) zD (Nat.le_of_ble_eq_true zQ) zQ zQ)
variable {a b:Int}
theorem uy(ha:fO a)(hb:fO b):∃l,keyOf P 49 (fV a b)=some l:=by
 have h1:(P.keyType 49&&(fV a b).formed P 49)=true:=zQ
 have h2:P.keyLits (P.types.size+1) 49 (fV a b).cells.toList=([P.keyLits P.types.size 3 [.int .i64 a],P.keyLits P.types.size 3 [.int .i64 b]].mapM id).map flatten:=zQ
 obtain⟨n,hn⟩:=sz1;refine⟨.string (keyBytes [.int .i64 a,.int .i64 b]),?_⟩;unfold keyOf;rw[Tryz.underlying49];show(if(P.keyType 49&&(fV a b).formed P 49)=true then _ else none)=_;rw[yL h1,h2,hn,uG n ha,uG n hb];rfl
theorem nU{a' b':Int}(h:fV a b=fV a' b'):a=a'/\b=b':=by
 simp only[fV,Value.agg.injEq,Array.mk.injEq,List.cons.injEq,Value.int.injEq,true_and,and_true]at h;exact h
theorem sS{v}(h:QY v):∀e∈fQ v,∃l,keyOf P 49 e.1=some l:=fun e he=>by
 obtain⟨x,hx,rfl⟩:=yG.1 he;exact uy (h x hx).dv (h x hx).sq
theorem L6{v}(h:QY v){x}(hx:OkM x)(hm:(v.any fun c=>decide (c.eG=x.eG))=true):bT P 49 (fQ v) (fV x.dv x.sq) (bool false) (bool true) true:=by
 obtain⟨y,hy,e⟩:=any_eq_true.1 hm;have e:=y18 e;refine⟨lD,uy hx.dv hx.sq,sS h,.inl ⟨rfl,yG.2 ⟨y,hy,?_⟩⟩⟩;simp only[MK.eG,Prod.mk.injEq]at e;grind
theorem H8{v}{x:MK}(hm:(v.any fun c=>decide (c.eG=x.eG))=false):∀e∈fQ v,e.1≠fV x.dv x.sq:=fun e he hq=>by
 obtain⟨y,hy,rfl⟩:=yG.1 he;obtain⟨q1,q2⟩:=nU hq;have:=any_eq_false.1 hm y hy;rw[y05]at this;exact this (by rw[MK.eG,MK.eG,q1,q2])
theorem H9{v}(h:QY v){x}(hx:OkM x)(hm:(v.any fun c=>decide (c.eG=x.eG))=false):bT P 49 (fQ v) (fV x.dv x.sq) (bool false) (bool false) false :=
 ⟨lD,uy hx.dv hx.sq,sS h,.inr ⟨rfl,rfl,H8 hm⟩⟩
theorem L8{v}(h:QY v){x}(hx:OkM x)(hm:(v.any fun c=>decide (c.eG=x.eG))=false):jm P 49 (fQ v) (fV x.dv x.sq) (bool true) (fQ (v++[x])) :=
 ⟨lD,uy hx.dv hx.sq,sS h,.inr ⟨H8 hm,by simp[fQ]⟩⟩
theorem CY(v:List MK){i}(h:i<=v.length)(h0:(i:Int)>0):v[((i:Int)-1).toNat]?=some (v[i-1]'zO):=zS
theorem L9(l:List CE)(v:List MK)(hl:l.length<=1000000000)(hv:v.length<=1000000000)(hO:QY v):∀n k,v.length-k=n->k<=v.length->(y9 l v n k=true->Rq 0 115 0 (nX l v k (v.take k)) (.exit 0) ckO)/\(y9 l v n k=false->Rq 0 115 0 (nX l v k (v.take k)) .ret (U4 160)):=by
 intro n
 induction n with
 |zero=>intro k hn hk;exact⟨fun _=>afv l v k _ hv zO yO,fun h=>by cases h⟩
 |succ n ih =>
  intro k hn hk;have bg:k<v.length:=zO
  have hx:=yA bg;have e:y9 l v (n+1) k=(jh l v k&&y9 l v n (k+1)):=rfl;have QZ:QY (v.take k):=fun m hm=>hO m (mem_of_mem_take hm);have QO:=hO _ (y03 bg);rw[e];have ht:v.take (k+1)=v.take k++[v[k]]:=by rw[take_append_getElem]
  obtain⟨n1,n2⟩:=ih (k+1) zO zO;rw[ht]at n1 n2;cases hd:(v.take k).any fun c=>decide (c.eG=v[k].eG)with
  |true =>
   have e2:jh l v k=false:=by simp only[jh,hx,hd,Bool.not_true,Bool.and_false]
   rw[e2,Bool.false_and];exact⟨fun h=>by (cases h),fun _=>aft l v k _ _ hl hv zO hx (L6 QZ QO hd) (by first|trivial|grind)⟩
  |false =>
   have g:=H9 QZ QO hd;have p:=L8 QZ QO hd;cases hq:F8 l v[k]with
   |false =>
    have e2:jh l v k=false:=by simp only[jh,hx,hq,Bool.false_and]
    rw[e2,Bool.false_and];exact⟨fun h=>by (cases h),fun _=>afu l v k _ _ hl hv zO hx hq g (by first|trivial|grind)⟩
   |true =>
    by_cases h0:(k:Int)>0
    .have hy:=CY v hk h0;have hy':v[k-1]?=some (v[k-1]'zO):=yA zO;have U5:(k==0)=false:=by simp;omega
     cases hl':nD (v[k-1]'zO) v[k]with
     |false =>
      have e2:jh l v k=false:=by simp only[jh,hx,hy',hq,hl',U5,Bool.false_and,Bool.and_false,Bool.or_self]
      rw[e2];have hg:=(TB (v[k-1]'zO) v[k]).2 hl';exact⟨fun h=>by (cases h),fun _=>afw l v k _ _ hl hv zO hx hq h0 g p ⟨_,⟨zO,hy⟩,fun _=>trivial,fun h=>absurd hg h⟩⟩
     |true =>
      have e2:jh l v k=true:=by simp only[jh,hx,hy',hq,hl',hd,Bool.true_and,Bool.or_true,Bool.not_false,Bool.and_true]
      rw[e2,Bool.true_and];have hg:¬yc (v[k-1]'zO) v[k]>=0:=fun h=>by rw[(TB _ _).1 h]at hl';cases hl'
      exact⟨fun h=>LZ l v k _ _ hl hv zO hx hq g p _ _ ⟨fun _=>⟨_,⟨zO,hy⟩,fun h=>absurd h hg,fun _=>n1 h⟩,fun _=>n1 h⟩,fun h=>LZ l v k _ _ hl hv zO hx hq g p _ _ ⟨fun _=>⟨_,⟨zO,hy⟩,fun h=>absurd h hg,fun _=>n2 h⟩,fun _=>n2 h⟩⟩
    .have U5:(k==0)=true:=by simp;omega
     have e2:jh l v k=true:=by simp only[jh,hx,hq,U5,hd,Bool.true_and,Bool.true_or,Bool.not_false,Bool.and_true]
     rw[e2,Bool.true_and];exact⟨fun h=>LZ l v k _ _ hl hv zO hx hq g p _ _ ⟨fun h=>absurd h h0,fun _=>n1 h⟩,fun h=>LZ l v k _ _ hl hv zO hx hq g p _ _ ⟨fun h=>absurd h h0,fun _=>n2 h⟩⟩
theorem ab4(t:TE)e(he:e≠0)(hc:Cq 106 [bZ t.cells] (int e))(h:True):Cq 115 [mG t] (int e):=by
 exact aj [kc [] hc,kt (y32 (qF zO))]
theorem ab5 t(hc:Cq 106 [bZ t.cells] (int 0))(hi:Cq 146 [bZ t.cells,.lit (.func (.func 155) #[] #[])] (bool true))(h:True):Cq 115 [mG t] (int 160):=by
 exact aj [kc [] hc,kY,kc [] hi,kO]
theorem Ma t(hc:Cq 106 [bZ t.cells] (int 0))(hi:Cq 146 [bZ t.cells,.lit (.func (.func 155) #[] #[])] (bool false))(hL:Rq 0 115 0 (nX t.cells t.bQ 0 []) (.exit 0) ckO)(h:True):Cq 115 [mG t] (int 0):=by
 exact aj [kc [] hc,kY,kc [] hi,kY,kN 19 (ay t.bQ),kl (rG [(0,1),(2,2),(5,13),(21,34)]) 2 hL]
theorem Mc t(hc:Cq 106 [bZ t.cells] (int 0))(hi:Cq 146 [bZ t.cells,.lit (.func (.func 155) #[] #[])] (bool false))(hL:Rq 0 115 0 (nX t.cells t.bQ 0 []) .ret (U4 160))(h:True):Cq 115 [mG t] (int 160):=by
 exact aj [kc [] hc,kY,kc [] hi,kY,kN 19 (ay t.bQ),kl (rG [(0,1),(2,2),(5,13),(21,34)]) 2 hL]
structure OkT(t:TE):Prop where
 cells:kQ t.cells
 bQ:QY t.bQ
structure X4(t:TE):Prop where
 cells:t.cells.length<=900000
 bQ:t.bQ.length<=900000
theorem fG t(hl:X4 t)(hO:OkT t):Cq 115 [mG t] (int (vC t)):=by
 have hlc:=hl.cells;have hlm:=hl.bQ;have hc:=JZ (Sq.HZ t.cells zO hO.cells);have hi:=BL t.cells zO;unfold vC;by_cases h0:jg t.cells=0
 .rw [yK (by simpa using h0)];rw[h0]at hc;cases ha:t.cells.all Ba with
  |false =>
   rw[ha]at hi;exact ab5 t hc hi trivial
  |true =>
   rw[ha]at hi;rw[yL rfl];obtain⟨h1,h2⟩:=L9 t.cells t.bQ zO zO hO.bQ t.bQ.length 0 zO zO;cases hb:Cw t.cells t.bQ with
   |true=>exact Ma t hc hi (h1 hb) trivial
   |false=>exact Mc t hc hi (h2 hb) trivial
 .grind [ab4]
end Go.Tx
namespace Go.Dc
open Go Go.Am Go.Proofs Go.eY Go.bH
structure Q0(f:FD):Prop where
 ce:Sq.kQ f.ce
 tx:Tx.OkT ⟨f.tc,f.tm⟩
 lt:Tx.X4 ⟨f.tc,f.tm⟩
def U6(f:FD)(v:List D):Bool :=
 (if f.pk=1 then decide (Sq.jg f.ce=0)&&(f.ce.all fun x=>cZ v (dtc x))&&decide (f.bi.length+f.ta.length+f.tc.length+f.tm.length=0)
  else if f.pk=2 then decide (Bd.jg f.bi=0)&&(f.bi.all fun x=>cZ v (dtb x))&&decide (f.ce.length+f.ta.length+f.tc.length+f.tm.length=0)
  else if f.pk=3 then decide (vC f.ta=0)&&(f.ta.all fun x=>cZ v (dtt x))&&decide (f.ce.length+f.bi.length+f.tc.length+f.tm.length=0)
  else if f.pk=4 then decide (Tx.vC ⟨f.tc,f.tm⟩=0)&&(f.tc.all fun x=>cZ v (dtc x))&&(f.tm.all fun x=>cZ v (dtm x))&&decide (f.ce.length+f.bi.length+f.ta.length=0)
  else false)&&decide (f.pn.size<=64)
theorem ab6(n:Nat):((n:Int)==0)=decide (n=0):=by grind
theorem three{e:Int}{b}{n:Int}{z r}(h:(decide (e=0)&&b&&z&&decide (n<=64))=r):(((e=0)->(((b=true)->(((n<=64)->z=r)/\((¬n<=64)->false=r)))/\((b=false)->false=r)))/\((¬e=0)->false=r)):=by grind
theorem pV(f:FD)v(h:XW f)(hr:Q0 f)(hv:v.length<=1000000000):Cq 81 [.agg (jB f),bB v] (Am.bool (U6 f v)):=by
 have hs:((f.pn.size:Int)<=64)=(f.pn.size<=64):=by simp only[eq_iff_iff];omega
 by_cases k1:f.pk=1
 .have e:U6 f v=(decide (Sq.jg f.ce=0)&&(f.ce.all fun x=>cZ v (dtc x))&&decide (0+f.bi.length+f.ta.length+f.tc.length+f.tm.length=0)&&decide ((f.pn.size:Int)<=64)):=by
   unfold U6;grind
  refine aiM f v _ _ k1 h.ce h.bi h.ta h.tc h.tm (Sq.up (Sq.HZ _ h.ce hr.ce)) (X5 _ v h.ce hv) _ (three ?_);rw[ab6,e]
 by_cases k2:f.pk=2
 .have e:U6 f v=(decide (Bd.jg f.bi=0)&&(f.bi.all fun x=>cZ v (dtb x))&&decide (f.ce.length+0+f.ta.length+f.tc.length+f.tm.length=0)&&decide ((f.pn.size:Int)<=64)):=by
   unfold U6;grind
  refine aiN f v _ _ k2 h.ce h.bi h.ta h.tc h.tm (Bd.fG _ (by have:=h.bi;omega)) (afx _ v h.bi hv) _ (three ?_);rw[ab6,e]
 by_cases k3:f.pk=3
 .have e:U6 f v=(decide (vC f.ta=0)&&(f.ta.all fun x=>cZ v (dtt x))&&decide (f.ce.length+f.bi.length+0+f.tc.length+f.tm.length=0)&&decide ((f.pn.size:Int)<=64)):=by
   unfold U6;grind
  refine aiO f v _ _ k3 h.ce h.bi h.ta h.tc h.tm (OA _ h.ta) (afy _ v h.ta hv) _ (three ?_);rw[ab6,e]
 by_cases k4:f.pk=4
 .have e:U6 f v=(decide (Tx.vC ⟨f.tc,f.tm⟩=0)&&(f.tc.all fun x=>cZ v (dtc x))&&(f.tm.all fun x=>cZ v (dtm x))&&decide (f.ce.length+f.bi.length+f.ta.length+0+0=0)&&decide (f.pn.size<=64)):=by
   unfold U6;grind
  refine aiP f v _ _ _ k4 h.ce h.bi h.ta h.tc h.tm (Tx.fG ⟨f.tc,f.tm⟩ hr.lt hr.tx) (X5 _ v h.tc hv) (afz _ v h.tm hv) _ ?_;grind
 .have e:U6 f v=false:=by unfold U6;grind
  rw[e];exact aiQ f v k1 k2 k3 k4 h.ce h.bi h.ta h.tc h.tm trivial
def Xe(v:List D):Option FD->List FD->Bool
 |_,[]=>true
 |q,f::l=>U6 f v&&(match q with|none=>true|some g=>decide (U7 g.pk f.pk g.pn f.pn<0))&&Xe v (some f) l
def F9(d:DO):Int:=if Cw d.sn=true/\Xe d.sn none d.fs=true then 0 else 180
structure Dim(d:DO):Prop where
 sn:d.sn.length<=1000000
 fs:d.fs.length<=1000000
 len:∀f∈d.fs,XW f
 iV:∀f∈d.fs,Q0 f
def prv(l:List FD):Nat->Option FD
 |0=>none
 |k+1=>l[k]?
abbrev dkR(d:DO)(k:Nat):Prop:=(Xe d.sn (prv d.fs k) (d.fs.drop k)=true/\Rq 0 50 0 (dkS d k) (.exit 0) { aL:=aC 40 [(2,int 0)],H:=[.box [bB d.sn,Md d.fs]] })\/(Xe d.sn (prv d.fs k) (d.fs.drop k)=false/\Rq 0 50 0 (dkS d k) .ret { aL:=aC 40 [(2,int 180)],H:=[.box [bB d.sn,Md d.fs]] })
theorem ab7 d(h:Dim d):∀n k,d.fs.length-k=n->k<=d.fs.length->dkR d k:=by
 intro n
 induction n with
 |zero =>
  intro k hk LB;refine .inl ⟨?_,amH d k zO yO⟩;rw[y21 zO];cases prv d.fs k<;>rfl
 |succ n ih =>
  intro k hk LB;have bg:k<d.fs.length:=zO
  have hx:=yA bg;have hm:d.fs[k]∈d.fs:=y03 _;have hV:=pV d.fs[k] d.sn (h.len _ hm) (h.iV _ hm) (by have:=h.sn;omega);have nx:=ih (k+1) zO zO;unfold dkR at nx |-;rw[y01 bg];have hp:prv d.fs (k+1)=some d.fs[k]:=hx;rw[hp]at nx;unfold Xe;cases e:U6 d.fs[k] d.sn with
  |false =>
   rw[e]at hV;exact .inr ⟨zS,amI d k _ h.fs zO hx hV yO⟩
  |true =>
   rw[e]at hV
   match k,hk,LB,bg,hx,hm,hV,nx with
   |0,_,_,bg,hx,hm,hV,nx =>
    rcases nx with⟨a,b⟩|⟨a,b⟩
    .exact .inl ⟨by rw[a];rfl,aiR d _ h.fs zO hx hV _ _ b⟩
    .exact .inr ⟨by rw[a];rfl,aiR d _ h.fs zO hx hV _ _ b⟩
   |k+1,_,_,bg,hx,hm,hV,nx =>
    have hy:d.fs[k]?=some d.fs[k]:=yA zO;have hz:d.fs[Int.toNat ((k+1:Nat)-1)]?=some d.fs[k]:=zS
    have hP:∀g':FD,d.fs[k]?=some g'->Cq 56 [pt g'.pk g'.pn,pt d.fs[k+1].pk d.fs[k+1].pn] (int (U7 d.fs[k].pk d.fs[k+1].pk d.fs[k].pn d.fs[k+1].pn)):=fun g' hg=>by
     rw[hy]at hg;cases hg;exact X6 d.fs[k].pk d.fs[k+1].pk d.fs[k].pn d.fs[k+1].pn
    have hq:prv d.fs (k+1)=some d.fs[k]:=hy;rw[hq];by_cases hc:U7 d.fs[k].pk d.fs[k+1].pk d.fs[k].pn d.fs[k+1].pn<0
    .rcases nx with⟨a,b⟩|⟨a,b⟩
     .exact .inl ⟨by simp[hc,a],aiT d k _ d.fs[k] _ zO h.fs zO hx hy hV hP _ _ ⟨d.fs[k],⟨zO,hz⟩,hy,b⟩⟩
     .exact .inr ⟨by simp[a],aiT d k _ d.fs[k] _ zO h.fs zO hx hy hV hP _ _ ⟨d.fs[k],⟨zO,hz⟩,hy,b⟩⟩
    .exact .inr ⟨by simp[hc],amJ d k _ d.fs[k] _ zO h.fs zO hx hy hV hP _ _ ⟨d.fs[k],⟨zO,hz⟩,hy,rfl,rfl⟩⟩
theorem fG d(h:Dim d):Cq 50 [kI d] (int (F9 d)):=by
 have hv:=bH.fG d.sn (by have:=h.sn;omega);unfold F9;by_cases e:Cw d.sn=true
 .rw [show eZ d.sn=0 by unfold eZ;rw[yL e]]at hv;have h1:=ab7 d h _ 0 rfl yN;unfold dkR at h1;rw[drop_zero]at h1;have hp:prv d.fs 0=none:=rfl;rw[hp]at h1;rcases h1 with⟨a,b⟩|⟨a,b⟩
  .grind [amK]
  .rw [yK (fun k=>by rw[a]at k;cases k.2)];exact amL d hv b trivial
 .rw [show eZ d.sn=120 by unfold eZ;rw[yK e]]at hv;rw[yK (fun k=>e k.1)];exact amM d hv trivial
theorem za{l:List FD}{i}h(e:Int)a:(if e=0 then l.set i a else l)=l.set i (if e=0 then a else l[i]):=by
 by_cases q:e=0
 .rw [yL q,yL q]
 .simp_all
abbrev EfC(F:Nat)(o:bV.OP)(ef:FD->FD)(f:FD):Prop:=∀(l:List FD)(g i:Nat)(h:i<l.length),l[i]=f->∃e,ak P G F [.jC 0 g i 0,bV.op o] [.aN g 7 false (dA l)] (.ret (int e)) [.aN g 7 false (dA (l.set i (ef l[i])))]
def KD(o:bV.OP):Sq.CE:=⟨o.dv,o.sq,0,o.f1,o.f2,o.f3,o.tm,o.vl,false⟩
def ef1(o:bV.OP)(f:FD):FD:=if Sq.A8 f.ce (KD o)=0 then{ f with ce:=Sq.rU f.ce (KD o) }else f
def ef2(o:bV.OP)(f:FD):FD:=if Sq.Ox f.ce o.f1 o.f2 o.f3=0 then{ f with ce:=Sq.Ez f.ce o.f1 o.f2 o.f3 }else f
theorem aec{o}(h:bV.Fw o):Sq.Cu (KD o):=⟨⟨h.dv,h.sq,by show Sq.fO 0;unfold Sq.fO;omega⟩,h.f1,h.f2,h.f3⟩
theorem aiU{o}{f}(ho:bV.Fw o)(hl:f.ce.length<=999999)(hr:Sq.kQ f.ce):EfC 251 o (ef1 o) f:=fun l g i h e=>by
 subst e;have k:=aiV l i g l[i] h (yA h) o _ _ (Sq.up (Sq.KC l[i].ce (KD o) hl hr (aec ho)));rw[za h]at k;exact⟨_,k⟩
theorem aiW{o}{f}(hl:f.ce.length<=1000000)(hr:Sq.kQ f.ce):EfC 254 o (ef2 o) f:=fun l g i h e=>by
 subst e;have k:=aiX l i g l[i] h (yA h) o _ _ (Sq.up (Sq.aiw l[i].ce o.f1 o.f2 o.f3 hl hr));rw[za h]at k;exact⟨_,k⟩
def Q5(o:bV.OP):List D:=if fM o.cx [(o.dv,o.sq-1)]=0 then uK o.cx [(o.dv,o.sq-1)]else o.cx
theorem Au o(hc:o.cx.length<=1000000)(h1:1<=o.sq)(h2:o.sq<=1048576):Cq 258 [bV.op o] (bB (Q5 o)):=by
 have hw:IntKind.wrap IntKind.i64 (bV.OP.sq o-1)=o.sq-1:=Gx zO zO;have h:=bH.Q6 o.cx o.dv (o.sq-1) zO;refine afA o _ _ (by rw[hw];exact h) _ ⟨fun h=>by unfold Q5;rw[yL h],fun h=>by unfold Q5;rw[yK h]⟩
theorem TD o:(Q5 o).length<=o.cx.length+1:=by
 unfold Q5;split
 .grind [uK,KE]
 .omega
def ef3(o:bV.OP)(f:FD):FD:=if(Bd.OB f.bi (Q5 o) ⟨o.ky,o.dv,o.sq,o.tm,o.vl⟩).2=0 then{ f with bi:=(Bd.OB f.bi (Q5 o) ⟨o.ky,o.dv,o.sq,o.tm,o.vl⟩).1 }else f
def ef4(o:bV.OP)(f:FD):FD:=if(Bd.CZ f.bi (Q5 o) o.ky).2=0 then{ f with bi:=(Bd.CZ f.bi (Q5 o) o.ky).1 }else f
theorem aiY{o}{f}(hc:o.cx.length<=1000000)(h1:1<=o.sq)(h2:o.sq<=1048576)(hl:f.bi.length<=1000000):EfC 256 o (ef3 o) f:=fun l g i h e=>by
 subst e;have hk:=TD o;have k:=aiZ l i g l[i] h (yA h) o _ _ _ (Au o hc h1 h2) (Bd.afB l[i].bi (Q5 o) ⟨o.ky,o.dv,o.sq,o.tm,o.vl⟩ zO zO);rw[za h]at k;exact⟨_,k⟩
theorem ai0{o}{f}(hc:o.cx.length<=1000000)(h1:1<=o.sq)(h2:o.sq<=1048576)(hl:f.bi.length<=1000000):EfC 260 o (ef4 o) f:=fun l g i h e=>by
 subst e;have hk:=TD o;have k:=ai1 l i g l[i] h (yA h) o _ _ _ (Au o hc h1 h2) (Bd.X7 l[i].bi (Q5 o) o.ky zO zO);rw[za h]at k;exact⟨_,k⟩
end Go.Dc
namespace Go.Dt
open Go Go.Am Go.Proofs Go.eY Go.Lib Go.OC
set_option maxHeartbeats 4000000 in
theorem pz:OC.X8 279 3:=by
 intro b n c i vb vo vc cs vs w hi gY Me TF lG Cv jQ Q7 Qz Ev Gy Gz tA tB kA kB OD NS QA Q8;have iZ:(Tryz.prog.info? 135).map (·.size)=some 3:=zQ
 have hov:∀lb cb o,(callFunc 287 #[.slice (some ⟨vb,vo,none⟩) 1 vc,.slice (some ⟨b,o,none⟩) lb cb]).run Tryz.prog w = .ok (.value (.bool false)) w:=fun lb cb o=>by
  rw[run_callFunc_extern Tryz.func287 zQ zQ zQ (e:=Extern.SlicesOverlaps.overlaps #[85,85] #[4]) zQ,
   lX w 85 4 135 Tryz.underlying85 3 Tryz.sizeOf135 ⟨vb,vo,none⟩ ⟨b,o,none⟩ 1 vc lb cb TF tA tB kA kB OD NS QA Q8 Qz rfl]
  rfl
 have mixed:Tryz.prog.follows .mixedOrders=true:=zQ
 obtain⟨jw,OE,hw2,Mf,vN,X9,XB,Ya,hb4,W1,KF,J2,Mh⟩:=Mi (vc:=vc) (tS:=85) (tE:=135) (z:=3) zD Tryz.underlying85 iZ hi gY Me TF lG Cv jQ Q7 Qz Ev Gy Gz OD NS QA Q8
 go_enter Tryz.func279,Tryz.ntmps279
 go_wp2_with (simp only[hov])
 go_region_law_o (refine step_copy_runI rfl _ _ 85 85 rfl _ _ (by simp[Act.eval,Act.put]) (by simp[Act.eval,Act.put]) (J2 _ _ _) ?_)
 go_wp2_with (at_builtin;refine wpList_copy_runI _ rfl _ _ 85 85 rfl _ _ rfl rfl (Mh _ (fun _=>rfl) (fun _=>rfl) _ _) ?_)
 go_ret
 first|exact⟨rfl,rfl⟩|exact⟨rfl,by rw[KF]⟩
abbrev zB:Value:=.agg #[.int .i64 0,.int .i64 0,.int .i64 0]
set_option maxHeartbeats 4000000 in
theorem sU:OC.Yb 279 3 135 24 zB:=by
 intro b n c i vb vo vc cs vs w hi hnc gY Ia lG Cv jQ Ev Gy Gz;have iZ:(Tryz.prog.info? 135).map (·.size)=some 3:=zQ
 have mixed:Tryz.prog.follows .mixedOrders=true:=zQ
 obtain⟨G,oJ,hG,yg,jw,x9,hGi,Yc,hci,OE,Mf,vN,X9,Ya,hGn,Yd,Xf,Mj,ED⟩:=TG (vc:=vc) (tS:=85) (tE:=135) (z:=3) (B:=24) (zB:=zB) zD zD Tryz.underlying85 iZ zQ rfl hi hnc gY Ia lG Cv jQ Ev Gy Gz;rw[<- hG,<- yg];have hE1:∀x,((w.alloc (.cells oJ 135)).drew).cell? x=(w.drew.alloc (.cells oJ 135)).cell? x:=fun x=>rfl;have hE2:∀x,((w.alloc (.cells oJ 135)).drew).frozen? x=(w.drew.alloc (.cells oJ 135)).frozen? x:=fun x=>rfl;have Ko:∀x,(((w.alloc (.cells oJ 135)).drew.setCells w.heap.size (i*3) vs).drew).cell? x=((w.drew.alloc (.cells oJ 135)).setCells w.heap.size (i*3) vs).cell? x:=fun x=>rfl;have hF2:∀x,(((w.alloc (.cells oJ 135)).drew.setCells w.heap.size (i*3) vs).drew).frozen? x=((w.drew.alloc (.cells oJ 135)).setCells w.heap.size (i*3) vs).frozen? x:=fun x=>rfl;clear yg hG
 go_enter Tryz.func279,Tryz.ntmps279
 go_wp2_with (first
  |(at_builtin;refine Lib.wpList_append_run _ rfl _ _ _ _ rfl _ _ rfl rfl _ _ (Xf _) ?_)
  |(at_builtin;refine wpList_copy_runI _ rfl _ _ 85 85 rfl _ _ rfl rfl (Mj _ hE1 hE2 _ _) ?_)
  |(at_builtin;refine wpList_copy_runI _ rfl _ _ 85 85 rfl _ _ rfl rfl (ED _ (fun _=>rfl) (fun _=>rfl) _ _ _) ?_))
 go_region_law_o (refine step_copy_runI rfl _ _ 85 85 rfl (.slice (some ⟨w.heap.size,(i+1)*3,none⟩) (n-i) (G-(i+1))) (.slice (some ⟨b,i*3,none⟩) (n-i) (c-i)) (by simp[Act.eval,Act.put]) (by simp[Act.eval,Act.put]) (ED _ Ko hF2 3 (G-(i+1)) (c-i)) ?_)
 go_wp2
 go_ret
 exact⟨rfl,rfl⟩
end Go.Dt
namespace Go.Dt
open Go Go.Am Go.Proofs Go.eY Go.Lib
theorem uL x(b:List AV)(g i:Nat)(hb7:b.length=3)(hi:i<x.length)(hx:x.length<=1000000000):ak P G 279 [.aU 0 g 0 x.length,int i,.sl 3 false [b]] [.aN g 3 false x] (.ret (.aU 0 (g+1) 0 (x.take i++[b]++x.drop i).length)) [.aN (g+1) 3 false (x.take i++[b]++x.drop i)]:=by
 have h:=OC.uL  (z:=3)    zD zD rfl pz sU x [] b g i hb7 hi hx;grind
end Go.Dt
namespace Go.Dc
open Go Go.Am Go.Proofs Go.eY Go.bH
abbrev plF:AV:=.fn (.func 286) [] [.ptr 0 0]
abbrev J3:ah:=.box [gP 278]
def tbS(l:List TL)(a:Int)(i j:Nat):St:={ aL:=aC 49 [(0,mF l),(1,int a),(2,plF),(8,int l.length),(9,int i),(10,int j)],H:=[J3] }
def tbX(l:List TL)(a:Int)(i:Nat):St:={ aL:=aC 49 [(0,mF l),(1,int a),(2,plF),(8,int l.length),(9,int i)],H:=[J3] }
def nQ(c:TL->Int)(l:List TL):Nat:=(l.takeWhile fun f=>decide (c f<0)).length
theorem Mk(c:TL->Int)l:nQ c l<=l.length:=(takeWhile_sublist _).length_le
def TH(c:TL->Int)(l:List TL):Prop:=∀m (h:m<l.length),c l[m]<0↔m<nQ c l
theorem ai2 t(h:True):Cq 278 [.agg (ze t)] (int t.1):=by
 exact aj []
theorem ai3(t:TL)a r(hD:Cq 278 [.agg (ze t)] (int t.1))(hC:Cq 87 [int t.1,int a] (int r))(h:True):ak P G 286 [.agg (ze t),int a,.ptr 0 0] [J3] (aS.ret (int r)) [J3]:=by
 exact aj [kc [] hD,kc [] hC]
theorem amN l(a:Int)(i j:Nat)(wQ:¬(i:Int)<j)(h:True):Rq 1 285 0 (tbS l a i j) (bF.exit 0) (tbX l a i):=by
 exact aG [kj ((i:Int)<j)] (aB 49 [0,1,2,8,9]) 1
theorem amO(l:List TL)(a:Int)(i j m:Nat)(c:TL->Int)(hj:j<=l.length)(hv:l.length<=1000000000)(hm:U8 i j=(m:Int))(hm':IntKind.wrap IntKind.i64 (Int.fdiv (↑(i+j):Int) (2^min (Int.toNat 1) (IntKind.bits IntKind.u64)))=(m:Int))(bg:m<j)(hC:∀f:TL,ak P G 286 [.agg (ze f),int a,.ptr 0 0] [J3] (.ret (int (c f))) [J3])(ex:bF)(s':St)(h:((((i:Int)<(j:Int))->(∃x2:TL,((0:Int)<=U8 i j/\l[Int.toNat (U8 i j)]?=some x2)/\(((c x2<0)->Rq 1 285 0 (sM 49 [(0,.sl 3 false (lH l)),(1,int a),(2,.fn (Fn.func 286) [] [.ptr 0 0]),(8,int ↑l.length),(9,int (U8 i j+1)),(10,int ↑j)] [.box [iL 278]]) ex s')/\((¬c x2<0)->Rq 1 285 0 (sM 49 [(0,.sl 3 false (lH l)),(1,int a),(2,.fn (Fn.func 286) [] [.ptr 0 0]),(8,int ↑l.length),(9,int ↑i),(10,int (U8 i j))] [.box [iL 278]]) ex s'))))/\((¬(i:Int)<(j:Int))->(bF.exit 0=ex)/\(sM 49 [(0,.sl 3 false (lH l)),(1,int a),(2,.fn (Fn.func 286) [] [.ptr 0 0]),(8,int ↑l.length),(9,int ↑i)] [.box [iL 278]]=s')))):Rq 1 285 0 (tbS l a i j) ex s':=by
 by_cases c1:((i:Int)<(j:Int))
 .have h:=h.1 c1;obtain⟨x2,o3,h⟩:=h;have Av:=(@hC (x2));let l1:List fP:=[kt (qT c1),kW 20 ((i:Int)+(j:Int)) (↑(i+j):Int),kv 21 (show Am.aF (AV.lit (Value.int IntKind.u64 (IntKind.wrap IntKind.u64 (↑(i+j):Int)))) (AV.lit (Value.int IntKind.u64 (↑(i+j):Int)))from(aF.zf zO zO rfl)),ko (bC.elem (ze x2)),kp (show(0:Int)<=(1:Int)from zO),kp (show(0:Int)<=IntKind.wrap IntKind.i64 (Int.fdiv (↑(i+j):Int) (2^min (Int.toNat 1) (IntKind.bits IntKind.u64)))/\(lH l)[Int.toNat (IntKind.wrap IntKind.i64 (Int.fdiv (↑(i+j):Int) (2^min (Int.toNat 1) (IntKind.bits IntKind.u64))))]?=some (ze x2)from(qU o3)),kc [0] Av];by_cases c4:(c x2<0)
  .have h:=h.1 c4;exact aJ (l1++[kt (qT c4),kW 33 (IntKind.wrap IntKind.i64 (Int.fdiv (↑(i+j):Int) (2^min (Int.toNat 1) (IntKind.bits IntKind.u64)))+1) (U8 i j+1)]) (aB 49 [0,1,2,8,9,10]) 1 h
  .have h:=h.2 c4;exact aJ (l1++[kf (qF c4)]) (aB 49 [0,1,2,8,9,10]) 1 h
 .have h:=h.2 c1;obtain⟨eX,eS⟩:=h;exact bN.to ((aG [kf (qF c1)] (aB 49 [0,1,2,8,9]) 1)) eX (eB.of_eq eS)
theorem ai4 l(a:Int)(p:Nat)(hp:¬p<(l.length:Int))(hv:l.length<=1000000000)(hL:Rq 1 285 0 (tbS l a 0 l.length) (.exit 0) (tbX l a p))(h:True):ak P G 285 [mF l,int a,plF] [J3] (aS.ret (AV.bq [int ↑p,Am.bool false])) [J3]:=by
 exact aj [kN 13 (dP l),kl (rG [(3,5),(11,38)]) 1 hL,kj ((p:Int)<l.length)]
theorem ai5 l(a:Int)(p:Nat)(c:TL->Int)(hp:p<(l.length:Int))(hv:l.length<=1000000000)(hC:∀f:TL,ak P G 286 [.agg (ze f),int a,.ptr 0 0] [J3] (.ret (int (c f))) [J3])(hL:Rq 1 285 0 (tbS l a 0 l.length) (.exit 0) (tbX l a p))r(h:(∃x2:TL,(l[p]?=some x2)/\(c x2==0)=(r))):ak P G 285 [mF l,int a,plF] [J3] (aS.ret (AV.bq [int ↑p,Am.bool r])) [J3]:=by
 obtain⟨x2,o3,h⟩:=h;have e1:=h;exact ak.out ((show ak P G 285 [mF l,int a,plF] [J3] (aS.ret (AV.bq [int ↑p,Am.bool (c x2==0)])) [ah.box [iL 278]]from aj [kN 13 (dP l),kl (rG [(3,5),(11,38)]) 1 hL,ki ((p:Int)<l.length),ke (ze x2) (lH l) p (bG o3),kc [0] (@hC (x2))])) (aF.iM ⟨y34,(aF.aI e1),yO⟩)
theorem ab8 l(a:Int)c(hv:l.length<=1000000000)(hs:TH c l)(hC:∀f:TL,ak P G 286 [.agg (ze f),int a,.ptr 0 0] [J3] (.ret (int (c f))) [J3]):∀n i j,j-i<=n->i<=nQ c l->nQ c l<=j->j<=l.length->Rq 1 285 0 (tbS l a i j) (.exit 0) (tbX l a (nQ c l)):=by
 intro n;have he:∀i j,i<=nQ c l->nQ c l<=j->¬i<j->Rq 1 285 0 (tbS l a i j) (.exit 0) (tbX l a (nQ c l)):=fun i j h1 h2 wQ=>by
  have:=amN l a i j zO trivial;grind
 induction n with
 |zero=>intro i j hn h1 h2 h3;grind
 |succ n ih =>
  intro i j hn h1 h2 h3;by_cases wQ:i<j
  .have hm:=Ye (i:=i) (j:=j) zO;refine amO l a i j ((i+j)/2) c h3 hv hm hm zO hC _ _ ⟨fun _=>?_,fun h=>absurd zO h⟩;have bg:(i+j)/2<l.length:=zO
   refine⟨l[(i+j)/2],?_,fun hq=>?_,fun hq=>?_⟩
   .grind [y31,yA]
   .have:=(hs _ bg).1 hq;have nx:=ih ((i+j)/2+1) j zO zO h2 h3;rw[hm];exact nx
   .have:¬(i+j)/2<nQ c l:=fun h=>hq ((hs _ bg).2 h);have nx:=ih i ((i+j)/2) zO h1 zO zO;rw[hm];exact nx
  grind
theorem ab9 l(a:Int)c(hv:l.length<=1000000000)(hs:TH c l)(hC:∀f:TL,ak P G 286 [.agg (ze f),int a,.ptr 0 0] [J3] (.ret (int (c f))) [J3]) :
 ak P G 285 [mF l,int a,plF] [J3] (.ret (.bq [int (nQ c l),Am.bool ((l[nQ c l]?).any fun f=>c f==0)])) [J3]:=by
 have hp:=Mk c l;have hL:=ab8 l a c hv hs hC _ 0 l.length yM zO hp zO;rcases y11 (nQ c l) l.length with h|h
 .rw [yA h];exact ai5 l a _ c zO hv hC hL _ ⟨l[nQ c l],yA h,rfl⟩
 .rw [getElem?_eq_none h];exact ai4 l a _ zO hv hL trivial
theorem ai6 l(a:Int)(p:Nat)r(hB:ak P G 285 [mF l,int a,plF] [J3] (.ret (.bq [int p,Am.bool r])) [J3])(h:True):Cq 277 [mF l,int a,gP 278] (.bq [int ↑p,Am.bool r]):=by
 exact aj [kc [0] hB]
theorem ai7 v(hv:v.length<=1000000000)(fF:¬lH v=[])(h:True):ak P G 84 [mF v] [] (aS.ret (AV.aU 0 0 0 v.length)) [ah.aN 0 3 false (lH v)]:=by
 exact aj [kp (show lH v≠[]from zO),kY,kv 7 (show Am.aF (AV.aU 0 0 0 (0+length (lH v))) (AV.aU 0 0 0 v.length)from(aF.of_eq (by simp[dP,sQ]))),kp fF,vV ((0+length (lH v))*24) (by simp only[dP,pW]<;>omega)]
theorem ai8 n(h:aF (aK) (AV.sl 3 true [])):Cq 84 [.lit (Value.slice none 0 n)] (.sl 3 true []):=by
 have e1:=h;exact ak.out ((aj [kO])) e1
theorem ai9 a(n:Nat)(h:True):Cq 84 [.lit (Value.slice (some a) 0 n)] (.sl 3 true []):=by
 exact aj [kY,ko (bC.LV),kp (Am.C8)]
theorem aja l(g:Nat)b(hl:l.length<=1000000)(out:aS)H'(h:(aS.ret (AV.aU 0 (g+1) 0 (length l+1))=out)/\([ah.aN (g+1) 3 false (lH l++[[int b.1,int (Prod.fst b.2),int (Prod.snd b.2)]])]=H')):ak P G 279 [.aU 0 g 0 l.length,int ↑l.length,.sl 3 false [ze b]] [ah.aN g 3 false (lH l)] out H':=by
 have bS:g=g:=(rfl);obtain⟨e1,eH⟩:=h;exact ak.heap (e1▸((aj [kp bS,Ga l.length l.length l.length,kY,kp bS,kt (show((l.length:Int)==l.length)=true from(qT zO)),kp bS,kp (dP l).symm,vV ((length l+1)*24)]))) eH
theorem ajb b(out:aS)H'(h:(aS.ret (AV.aU 0 0 0 1)=out)/\([ah.aN 0 3 false [[int b.1,int (Prod.fst b.2),int (Prod.snd b.2)]]]=H')):ak P G 279 [.sl 3 true [],int 0,.sl 3 false [ze b]] [] out H':=by
 obtain⟨e1,eH⟩:=h;exact ak.heap (e1▸((aj [Ga 0 0 0,kY,kO,Qx [int b.1,int (Prod.fst b.2),int (Prod.snd b.2)],vV 24]))) eH
theorem ajc l(d s n e:Int)(he:e≠0)(hK:Cq 112 [mF l] (int e))(h:True):Cq 263 [mF l,eG (d,s),int n] (.bq [aK,int e]):=by
 exact aj [kc [] hK,kt (y32 (qF zO))]
theorem ajd l(d s n:Int)(hK:Cq 112 [mF l] (int 0))(hW:Cq 152 [int d,int s] (Am.bool false))(out:aS)H'(h:(aS.ret (AV.bq [aK,int 150])=out)/\([]=H')):ak P G 263 [mF l,eG (d,s),int n] [] out H':=by
 obtain⟨e1,eH⟩:=h;exact ak.heap (e1▸((aj [kc [] hK,kY,kc [] hW,kO]))) eH
theorem aje l r(d s n:Int)(p:Nat)(hl:l.length<=1000000)(hr:r.length<=1000001)(hp:p<=l.length)(hK:Cq 112 [mF l] (int 0))(hW:Cq 152 [int d,int s] (Am.bool true))(hP:Cq 277 [mF l,int d,gP 278] (.bq [int p,Am.bool false]))(hC:ak P G 84 [mF l] [] (.ret (.aU 0 0 0 l.length)) [.aN 0 3 false (lH l)])(hI:ak P G 279 [.aU 0 0 0 l.length,int p,.sl 3 true [[int d,int s,int n]]] [.aN 0 3 false (lH l)] (.ret (.aU 0 1 0 r.length)) [.aN 1 3 false (lH r)])(out:aS)H'(h:(aS.ret (AV.bq [AV.aU 1 1 0 r.length,int 0])=out)/\([ah.box [int d,int s],ah.aN 1 3 false (lH r)]=H')):ak P G 263 [mF l,eG (d,s),int n] [] out H':=by
 have Av:∀(x:List AV),x∈lH l->AV.aM [] x=true:=(pW _);obtain⟨e1,eH⟩:=h;exact ak.heap (e1▸((aj [kc [] hK,kY,kc [] hW,kY,kc [] hP,kc [] hC,kp Av,kO,kc [1] hI,kp (pW r),kp Av]))) eH
theorem ajf l r(d s n:Int)(hK:Cq 112 [mF l] (int 0))(hW:Cq 152 [int d,int s] (Am.bool true))(hP:Cq 277 [mF l,int d,gP 278] (.bq [int 0,Am.bool false]))(hC:Cq 84 [mF l] (.sl 3 true []))(hI:ak P G 279 [.sl 3 true [],int 0,.sl 3 true [[int d,int s,int n]]] [] (.ret (.aU 0 0 0 1)) [.aN 0 3 false (lH r)])(out:aS)H'(h:(aS.ret (AV.bq [AV.aU 1 0 0 1,int 0])=out)/\([ah.box [int d,int s],ah.aN 0 3 false (lH r)]=H')):ak P G 263 [mF l,eG (d,s),int n] [] out H':=by
 obtain⟨e1,eH⟩:=h;exact ak.heap (e1▸((aj [kc [] hK,kY,kc [] hW,kY,kc [] hP,kc [] hC,kO,kc [] hI,kp (pW r)]))) eH
theorem ajg l(d s n:Int)(p:Nat)t(hl:l.length<=1000000)(hp:p<(l.length:Int))(ht:l[0+p]?=some t)(hs:t.2.1>=s)(hK:Cq 112 [mF l] (int 0))(hW:Cq 152 [int d,int s] (Am.bool true))(hP:Cq 277 [mF l,int d,gP 278] (.bq [int p,Am.bool true]))(hC:ak P G 84 [mF l] [] (.ret (.aU 0 0 0 l.length)) [.aN 0 3 false (lH l)])(out:aS)H'(h:(aS.ret (AV.bq [aK,int 182])=out)/\([]=H')):ak P G 263 [mF l,eG (d,s),int n] [] out H':=by
 have qj:0=0:=(rfl);obtain⟨e1,eH⟩:=h;exact ak.heap (e1▸((aj [kc [] hK,kY,kc [] hW,kY,kc [] hP,kc [] hC,kp (pW l),kY,ko (bC.elem (ze t)),kp qj,kR (p:Int) (l.length:Int),kp qj,kp qj,kp (show(lH l)[0+Int.toNat (p:Int)]?=some (ze t)from(iN ht)),ki (Prod.fst t.2>=s)]))) eH
theorem ajh l(d s n:Int)(p:Nat)t(hl:l.length<=1000000)(hp:p<(l.length:Int))(ht:l[0+p]?=some t)(hz:(List.set (lH l) (0+p) [int t.1,int s,int t.2.2])[0+p]?=some [int t.1,int s,int t.2.2])(hs:¬t.2.1>=s)(hK:Cq 112 [mF l] (int 0))(hW:Cq 152 [int d,int s] (Am.bool true))(hP:Cq 277 [mF l,int d,gP 278] (.bq [int p,Am.bool true]))(hC:ak P G 84 [mF l] [] (.ret (.aU 0 0 0 l.length)) [.aN 0 3 false (lH l)])(out:aS)H'(h:(aS.ret (AV.bq [AV.aU 1 0 0 l.length,int 0])=out)/\([ah.box [int d,int s],ah.aN 0 3 false (List.set (List.set (lH l) (0+Int.toNat p) [int t.1,int s,int (Prod.snd t.2)]) (0+Int.toNat p) [int t.1,int s,int (IntKind.wrap IntKind.i64 (Prod.snd t.2+n))])]=H')):ak P G 263 [mF l,eG (d,s),int n] [] out H':=by
 have qj:0=0:=(rfl);have OG:(0:Int)<=(p:Int)/\(p:Int)<(l.length:Int):=zO;have H6:(lH l)[0+Int.toNat (p:Int)]?=some (ze t):=(iN ht);obtain⟨e1,eH⟩:=h;exact ak.heap (e1▸((aj [kc [] hK,kY,kc [] hW,kY,kc [] hP,kc [] hC,kp (pW l),kY,ko (bC.elem (ze t)),kp qj,kp OG,kp qj,kp qj,kp H6,kj (Prod.fst t.2>=s),ko (bC.elem (ze t)),ko (bC.elem [int t.1,int s,int (Prod.snd t.2)]),ko (bC.elem [int t.1,int s,int (Prod.snd t.2)]),kp qj,kp OG,kp qj,kp qj,kp H6,kp qj,kp OG,kp qj,kp qj,kp hz,kp qj,kp OG,kp qj,kp qj,kp hz]))) eH
end Go.Dc
namespace Go.Tx
open Go Go.Am Go.Proofs Go.eY
open Go.Sq (CE nP bZ oO vM fX U2 kQ jg A8 rU)
def U9(dv sq tm:Int)(k:Nat)(i:Sq.ID)(s:yP):CE:=⟨dv,sq,k,i.1,i.2.1,i.2.2,tm,s.extract k (k+1),false⟩
def TI(dv sq tm:Int)(s:yP):Nat->Nat->Sq.ID->List CE->List CE×Int
 |0,_,_,l=>(l,0)
 |n+1,k,i,l=>if A8 l (U9 dv sq tm k i s)≠0 then([],A8 l (U9 dv sq tm k i s))else TI dv sq tm s n (k+1) (dv,sq,(k:Int)) (rU l (U9 dv sq tm k i s))
def zT:TE:=⟨[],[]⟩
def Ve(t:TE)(dv sq tm:Int)(i:Sq.ID)(s:yP):TE×Int :=
 if vC t≠0 then(zT,vC t)else if s.size<1\/s.size>64 then(zT,160)else
  if(TI dv sq tm s s.size 0 i t.cells).2=0 then(⟨(TI dv sq tm s s.size 0 i t.cells).1,t.bQ⟩,0)else(zT,(TI dv sq tm s s.size 0 i t.cells).2)
def zC:ah:=.box [aK,aK]
def Ml(t:TE)(dv sq tm a b c:Int)(s:yP)(l:List CE)(k:Nat):St:={ aL:=aC 69 [(2,int tm),(4,str s),(5,.ptr 0 0),(6,.ptr 1 0),(8,.ptr 2 0),(10,.ptr 3 0),(13,bZ l),(34,int s.size),(35,int k)],H:=[.box [bZ t.cells,oI t.bQ],.box [int dv,int sq],.box [int a,int b,int c],zC] }
def tyO(t:TE)(l:List CE):St:={ aL:=aC 69 [(5,.ptr 0 0),(10,.ptr 3 0),(13,bZ l)],H:=[.box [bZ t.cells,oI t.bQ],.aH,.aH,zC] }
def tyX(e:Int):St:={ aL:=aC 69 [(10,.ptr 3 0),(11,int e)],H:=[.aH,.aH,.aH,zC] }
theorem amP(t:TE)dv sq tm a b c(s:yP)l(k:Nat)(hk:¬k<(s.size:Int))(h:True):Rq 0 266 0 (Ml t dv sq tm a b c s l k) (bF.exit 0) (tyO t l):=by
 exact bN.to (bN.qm ((show Rq 0 266 0 (Ml t dv sq tm a b c s l k) (bF.exit 0) (sM 69 [(5,.ptr 0 0),(10,.ptr 3 0),(13,.sl 9 false (Sq.au l))] [.box [.sl 9 false (Sq.au t.cells),.sl 11 false (au t.bQ)],.box [int dv,int sq],.box [int a,int b,int c],.box [aK,aK]])from aG [kj ((k:Int)<↑(ByteArray.size s))] (aB 69 [5,10,13]) 4)) (by exact⟨.inl rfl,.inr yO,.inr yO,.inl rfl,yO⟩)) rfl (eB.aC ⟨rfl,y34,rfl,y34,rfl,y34,yO⟩)
theorem amQ(t:TE)(dv sq tm a b c:Int)(s:yP)(l:List CE)(k:Nat)(e:Int)(he:e≠0)(hk:(k:Int)<(s.size:Int))(hs:s.size<=64)(hi:Cq 252 [bZ l,.agg [int dv,int sq,int k,int a,int b,int c,int tm,str (s.extract k (k+1)),bool false]] (.bq [bZ [],int e]))(h:True):Rq 0 266 0 (Ml t dv sq tm a b c s l k) bF.ret (tyX e):=by
 exact bN.to (bN.qm ((show Rq 0 266 0 (Ml t dv sq tm a b c s l k) bF.ret (sM 69 [(10,.ptr 3 0),(11,int e)] [.box [.sl 9 false (Sq.au t.cells),.sl 11 false (au t.bQ)],.box [int dv,int sq],.box [int a,int b,int c],.box [aK,aK]])from aG [ki ((k:Int)<(↑(ByteArray.size s):Int)),kW 49 (k+1) ↑(k+1),Ga (k:Int) (↑(k+1):Int) (↑(ByteArray.size s):Int),kc [] hi,kt (show(e != 0)=true from(y32 (qF zO)))] (aB 69 [10,11]) 4)) (by exact⟨.inr yO,.inr yO,.inr yO,.inl rfl,yO⟩)) rfl (eB.aC ⟨rfl,y34,rfl,y34,yO⟩)
theorem aji(t:TE)(dv sq tm a b c:Int)(s:yP)(l r:List CE)(k:Nat)(hk:(k:Int)<(s.size:Int))(hs:s.size<=64)(hi:Cq 252 [bZ l,.agg [int dv,int sq,int k,int a,int b,int c,int tm,str (s.extract k (k+1)),bool false]] (.bq [bZ r,int 0]))(ex:bF)(st:St)(h:Rq 0 266 0 (sM 69 [(2,int tm),(4,str s),(5,.ptr 0 0),(6,.ptr 1 0),(8,.ptr 2 0),(10,.ptr 3 0),(13,.sl 9 false (Sq.au r)),(34,int ↑(ByteArray.size s)),(35,int ↑(k+1))] [.box [.sl 9 false (Sq.au t.cells),.sl 11 false (au t.bQ)],.box [int dv,int sq],.box [int dv,int sq,int ↑k],.box [aK,aK]]) ex st):Rq 0 266 0 (Ml t dv sq tm a b c s l k) ex st:=by
 have fT:Am.aF (int (IntKind.wrap IntKind.i64 ((k:Int)+1))) (int ↑(k+1)):=(aF.TJ zO zO zO);exact aJ [ki ((k:Int)<(↑(ByteArray.size s):Int)),kv 49 fT,Ga (k:Int) (↑(k+1):Int) (↑(ByteArray.size s):Int),kc [] hi,kY,kv 64 fT] (aB 69 [2,4,5,6,8,10,13,34,35]) 4 h
theorem afC(t:TE)dv sq tm a b c(s:yP)e(he:e≠0)(hc:Cq 115 [mG t] (int e))(h:True):Cq 266 [mG t,Q9 dv sq,int tm,oO a b c,str s] (.bq [mG zT,int e]):=by
 exact ak.out ((show Cq 266 [mG t,Q9 dv sq,int tm,oO a b c,str s] (.bq [.agg [aK,aK],int e])from aj [kc [] hc,kt (((y32 (qF zO))))])) (aF.iM ⟨(aF.qo ⟨(aF.nil _),(aF.nil _),yO⟩),y34,yO⟩)
theorem afD(t:TE)dv sq tm a b c(s:yP)(hs:s.size<1\/s.size>64)(hc:Cq 115 [mG t] (int 0))(h:((((↑(ByteArray.size s):Int)<1)->True)/\((¬(↑(ByteArray.size s):Int)<1)->True))):Cq 266 [mG t,Q9 dv sq,int tm,oO a b c,str s] (.bq [mG zT,int 160]):=by
 by_cases c1:((↑(ByteArray.size s):Int)<1)
 .exact ak.out ((show Cq 266 [mG t,Q9 dv sq,int tm,oO a b c,str s] (.bq [.agg [aK,aK],int 160])from aj [kc [] hc,kY,kt (qT c1),kO])) (aF.iM ⟨(aF.qo ⟨(aF.nil _),(aF.nil _),yO⟩),y34,yO⟩)
 .exact ak.out ((show Cq 266 [mG t,Q9 dv sq,int tm,oO a b c,str s] (.bq [.agg [aK,aK],int 160])from aj [kc [] hc,kY,kf (qF c1),ki ((↑(ByteArray.size s):Int)>64)])) (aF.iM ⟨(aF.qo ⟨(aF.nil _),(aF.nil _),yO⟩),y34,yO⟩)
theorem afE(t:TE)dv sq tm a b c(s:yP)e(h1:1<=s.size)(hs:s.size<=64)(hc:Cq 115 [mG t] (int 0))(hL:Rq 0 266 0 (Ml t dv sq tm a b c s t.cells 0) .ret (tyX e))(h:True):Cq 266 [mG t,Q9 dv sq,int tm,oO a b c,str s] (.bq [mG zT,int e]):=by
 exact ak.out ((show Cq 266 [mG t,Q9 dv sq,int tm,oO a b c,str s] (.bq [.agg [aK,aK],int e])from aj [kc [] hc,kY,kj ((↑(ByteArray.size s):Int)<1),kj ((↑(ByteArray.size s):Int)>64),kl (rG [(0,2),(3,1),(7,1),(9,1),(11,2),(14,20),(36,33)]) 4 hL])) (aF.iM ⟨(aF.qo ⟨(aF.nil _),(aF.nil _),yO⟩),y34,yO⟩)
theorem afF(t:TE)dv sq tm a b c(s:yP)l(h1:1<=s.size)(hs:s.size<=64)(hc:Cq 115 [mG t] (int 0))(hL:Rq 0 266 0 (Ml t dv sq tm a b c s t.cells 0) (.exit 0) (tyO t l))(h:True):Cq 266 [mG t,Q9 dv sq,int tm,oO a b c,str s] (.bq [.agg [bZ l,oI t.bQ],int 0]):=by
 exact aj [kc [] hc,kY,kj ((↑(ByteArray.size s):Int)<1),kj ((↑(ByteArray.size s):Int)>64),kl (rG [(0,2),(3,1),(7,1),(9,1),(11,2),(14,20),(36,33)]) 4 hL]
end Go.Tx
namespace Go.Tx
open Go Go.Am Go.Proofs Go.eY
open Go.Sq (CE nP bZ oO vM fX U2 kQ jg mY)
abbrev wr(c:Int)(k:Nat):Int:=IntKind.wrap IntKind.i64 (c+(k:Int))
def vY(a b c:Int):Nat->Nat->List CE->Option (List CE)
 |0,_,l=>some l
 |n+1,k,l=>match fX (vM a b (wr c k)) l with
  |some j=>vY a b c n (k+1) (mY l j)
  |none=>none
def Vg(t:TE)(i:Sq.ID)(n:Int):TE×Int :=
 if vC t≠0 then(zT,vC t)else if n<1\/n>64 then(zT,160)else match vY i.1 i.2.1 i.2.2 n.toNat 0 t.cells with
  |some l=>(⟨l,t.bQ⟩,0)
  |none=>(zT,160)
theorem Vh l(n:Nat)(x:CE):List.set (Sq.au l) n [int x.dv,int x.sq,int x.gU,int x.ad,int x.j6,int x.aa,int x.tm,str x.vl,bool true]=Sq.au (l.set n { x with gn:=true }):=Sq.CW l n { x with gn:=true }
def cuB(t:TE)(a b c:Int)(l:List CE):List ah:=[.box [bZ t.cells,oI t.bQ],.box [int a,int b,int c],zC,.aN 0 9 false (Sq.au l)]
def cuS(t:TE)(a b c:Int)(n:Int)(m:Nat)(l:List CE)(k:Nat):St:={ aL:=aC 59 [(3,.ptr 0 0),(4,.ptr 1 0),(6,.ptr 2 0),(9,.aU 3 0 0 m),(29,int n),(30,int k)],H:=cuB t a b c l }
def cuO(t:TE)(a b c:Int)(m:Nat)(l:List CE):St:={ aL:=aC 59 [(3,.ptr 0 0),(6,.ptr 2 0),(9,.aU 3 0 0 m)],H:=cuB t a b c l }
def cuX:St:={ aL:=aC 59 [(6,.ptr 2 0),(7,int 160)],H:=[.aH,.aH,zC,.aH] }
theorem amR(t:TE)a b c n(m:Nat)l(k:Nat)(hk:¬(k:Int)<n)(h:True):Rq 0 269 0 (cuS t a b c n m l k) (bF.exit 0) (cuO t a b c m l):=by
 exact aG [kj (k<n)] (aB 59 [3,6,9]) 4
theorem amS t(a b c n:Int)(m:Nat)l(k:Nat)(hk:k<n)(hn:n<=64)(hm:l.length=m)f(hf:Cq 195 [bZ l,oO a b (IntKind.wrap IntKind.i64 (c+k))] (.bq [int f,bool false]))(h:True):Rq 0 269 0 (cuS t a b c n m l k) bF.ret cuX:=by
 exact bN.to (bN.qm ((show Rq 0 269 0 (cuS t a b c n m l k) bF.ret (sM 59 [(6,.ptr 2 0),(7,int 160)] [.box [.sl 9 false (Sq.au t.cells),.sl 11 false (au t.bQ)],.box [int a,int b,int c],.box [aK,aK],.aN 0 9 false (Sq.au l)])from aG [ki ((k:Int)<n),ko (bC.pure [Sq.au l] (AV.bq [int f,Am.bool false])),kp hf,kq 0,XV m (Sq.au l) (by simp only[yD,yE,y14,y13,Go.Sq.ay,Go.Sq.bJ,Go.Sq.bK,Go.Sq.dW]<;>omega),kp (show length (Sq.au l)=m from(by simp only[yD,yE,y14,y13,Go.Sq.ay,Go.Sq.bJ,Go.Sq.bK,Go.Sq.dW]<;>omega)),kp (show ∀(c:List AV),c∈Sq.au l->List.all c AV.fJ=true from(Go.Sq.bK _)),kO] (aB 59 [6,7]) 4)) (by exact⟨.inr yO,.inr yO,.inl rfl,.inr yO,yO⟩)) rfl (eB.aC ⟨rfl,y34,rfl,y34,yO⟩)
theorem ajj(t:TE)a b c n(m:Nat)l(k j:Nat)x(hk:(k:Int)<n)(hn:n<=64)(hm:l.length=m)(hx:l[j]?=some x)(hj:j<m)(hv:m<=1000000)(hf:Cq 195 [bZ l,oO a b (IntKind.wrap IntKind.i64 (c+k))] (.bq [int j,bool true]))ex(st:St)(h:Rq 0 269 0 (sM 59 [(3,.ptr 0 0),(4,.ptr 1 0),(6,.ptr 2 0),(9,.aU 3 0 0 m),(29,int n),(30,int ↑(k+1))] [.box [.sl 9 false (Sq.au t.cells),.sl 11 false (au t.bQ)],.box [int a,int b,int c],.box [aK,aK],.aN 0 9 false (Sq.au (List.set l j (CE.mk x.dv x.sq x.gU x.ad x.j6 x.aa x.tm x.vl true)))]) ex st):Rq 0 269 0 (cuS t a b c n m l k) ex st:=by
 have jw:0=0:=(rfl);exact aJ [ki ((k:Int)<n),ko (bC.pure [Sq.au l] (AV.bq [int ↑j,Am.bool true])),kp hf,kp jw,XV m (Sq.au l) (by simp only[yD,yE,y14,y13,Go.Sq.ay,Go.Sq.bJ,Go.Sq.bK,Go.Sq.dW]<;>omega),kp (show length (Sq.au l)=m from(by simp only[yD,yE,y14,y13,Go.Sq.ay,Go.Sq.bJ,Go.Sq.bK,Go.Sq.dW]<;>omega)),kp (show ∀(c:List AV),c∈Sq.au l->List.all c AV.fJ=true from(Go.Sq.bK _)),kY,kv 52 (show Am.aF (AV.jC 3 0 (0+Int.toNat (j:Int)) 0) (AV.jC 3 0 j 0)from(aF.of_eq (by simp only[y31,y12]))),ko (bC.elem (Sq.aQ x)),ko (bC.hp none (AV.lit undef) [ah.box [AV.sl 9 false (Sq.au t.cells),AV.sl 11 false (au t.bQ)],ah.box [int a,int b,int c],ah.box [aK,aK],ah.aN 0 9 false (Sq.au (List.set l j (CE.mk x.dv x.sq x.gU x.ad x.j6 x.aa x.tm x.vl true)))]),kp jw,kR (j:Int) (m:Int),kp jw,kp (show Am.aF (AV.lit undef) (AV.lit undef)from(y34)),kp (show Am.HSub [ah.box [AV.sl 9 false (Sq.au t.cells),AV.sl 11 false (au t.bQ)],ah.box [int a,int b,int c],ah.box [aK,aK],ah.aN 0 9 false (List.set (Sq.au l) j [int x.dv,int x.sq,int x.gU,int x.ad,int x.j6,int x.aa,int x.tm,str x.vl,Am.bool true])] [ah.box [AV.sl 9 false (Sq.au t.cells),AV.sl 11 false (au t.bQ)],ah.box [int a,int b,int c],ah.box [aK,aK],ah.aN 0 9 false (Sq.au (List.set l j (CE.mk x.dv x.sq x.gU x.ad x.j6 x.aa x.tm x.vl true)))]from(⟨.inl rfl,.inl rfl,.inl rfl,.inl (by simp only[y31,Vh]),yO⟩)),kp jw,kp (show(Sq.au l)[j]?=some (Sq.aQ x)from(iN hx)),kW 54 (k+1) ↑(k+1)] (aB 59 [3,4,6,9,29,30]) 4 h
def cuZ(t:TE)(a b c:Int)(n:Int)(y:AV):St:={ aL:=aC 59 [(3,.ptr 0 0),(4,.ptr 1 0),(6,.ptr 2 0),(9,y),(29,int n),(30,int 0)],H:=[.box [bZ t.cells,oI t.bQ],.box [int a,int b,int c],zC] }
def cuY:St:={ aL:=aC 59 [(6,.ptr 2 0),(7,int 160)],H:=[.aH,.aH,zC] }
theorem amT(t:TE)a b c n(hk:0<n)(hn:n<=64)f(hf:Cq 195 [bZ [],oO a b (IntKind.wrap IntKind.i64 (c+0))] (.bq [int f,bool false]))(h:True):Rq 0 269 0 (cuZ t a b c n (bZ [])) bF.ret cuY:=by
 exact bN.to (bN.qm ((show Rq 0 269 0 (cuZ t a b c n (bZ [])) bF.ret (sM 59 [(6,.ptr 2 0),(7,int 160)] [.box [.sl 9 false (Sq.au t.cells),.sl 11 false (au t.bQ)],.box [int a,int b,int c],.box [aK,aK]])from aG [ki ((0:Int)<n),kc [] hf,kO] (aB 59 [6,7]) 3)) (by exact⟨.inr yO,.inr yO,.inl rfl,yO⟩)) rfl (eB.aC ⟨rfl,y34,rfl,y34,yO⟩)
theorem ajk(t:TE)a b c n(e:Int)(he:e≠0)(hc:Cq 115 [mG t] (int e))(h:True):Cq 269 [mG t,oO a b c,int n] (.bq [mG zT,int e]):=by
 exact ak.out ((show Cq 269 [mG t,oO a b c,int n] (.bq [.agg [aK,aK],int e])from aj [kc [] hc,kt (((y32 (qF zO))))])) (aF.iM ⟨(aF.qo ⟨(aF.nil _),(aF.nil _),yO⟩),y34,yO⟩)
theorem ajl(t:TE)a b c n(hn:n<1\/n>64)(hc:Cq 115 [mG t] (int 0))(h:(((n<1)->True)/\((¬n<1)->True))):Cq 269 [mG t,oO a b c,int n] (.bq [mG zT,int 160]):=by
 by_cases c1:(n<1)
 .exact ak.out ((show Cq 269 [mG t,oO a b c,int n] (.bq [.agg [aK,aK],int 160])from aj [kc [] hc,kY,kt (qT c1),kO])) (aF.iM ⟨(aF.qo ⟨(aF.nil _),(aF.nil _),yO⟩),y34,yO⟩)
 .exact ak.out ((show Cq 269 [mG t,oO a b c,int n] (.bq [.agg [aK,aK],int 160])from aj [kc [] hc,kY,kf (qF c1),ki (n>64)])) (aF.iM ⟨(aF.qo ⟨(aF.nil _),(aF.nil _),yO⟩),y34,yO⟩)
theorem ajm(t:TE)a b c n(h1:1<=n)(hn:n<=64)(hc:Cq 115 [mG t] (int 0))(lG:Cq 82 [bZ t.cells] (bZ []))(hL:Rq 0 269 0 (cuZ t a b c n (bZ [])) .ret cuY)(h:True):Cq 269 [mG t,oO a b c,int n] (.bq [mG zT,int 160]):=by
 exact ak.out ((show Cq 269 [mG t,oO a b c,int n] (.bq [.agg [aK,aK],int 160])from aj [kc [] hc,kY,kj (n<1),kj (n>64),kc [] lG,kl (rG [(0,3),(5,1),(7,2),(10,19),(31,28)]) 3 hL])) (aF.iM ⟨(aF.qo ⟨(aF.nil _),(aF.nil _),yO⟩),y34,yO⟩)
theorem ajn(t:TE)a b c n(h1:1<=n)(hn:n<=64)(hc:Cq 115 [mG t] (int 0))(lG:ak P G 82 [bZ t.cells] [] (.ret (.aU 0 0 0 t.cells.length)) [.aN 0 9 false (Sq.au t.cells)])(hL:Rq 0 269 0 (cuS t a b c n t.cells.length t.cells 0) .ret cuX)(h:((∀ x,x∈Sq.au t.cells->AV.aM [] x=true)/\True)):Cq 269 [mG t,oO a b c,int n] (.bq [mG zT,int 160]):=by
 obtain⟨o3,h⟩:=h;exact ak.out ((show Cq 269 [mG t,oO a b c,int n] (.bq [.agg [aK,aK],int 160])from aj [kc [] hc,kY,kj (n<1),kj (n>64),kc [] lG,kp o3,kl (rG [(0,3),(5,1),(7,2),(10,19),(31,28)]) 4 hL])) (aF.iM ⟨(aF.qo ⟨(aF.nil _),(aF.nil _),yO⟩),y34,yO⟩)
theorem ajo t(a b c n:Int)l(h1:1<=n)(hn:n<=64)(hl:l.length=t.cells.length)(hc:Cq 115 [mG t] (int 0))(lG:ak P G 82 [bZ t.cells] [] (.ret (.aU 0 0 0 t.cells.length)) [.aN 0 9 false (Sq.au t.cells)])(hL:Rq 0 269 0 (cuS t a b c n t.cells.length t.cells 0) (.exit 0) (cuO t a b c t.cells.length l))(h:True):Cq 269 [mG t,oO a b c,int n] (.bq [.agg [bZ l,oI t.bQ],int 0]):=by
 exact aj [kc [] hc,kY,kj (n<1),kj (n>64),kc [] lG,kp (show ∀(x:List AV),x∈Sq.au t.cells->AV.aM [] x=true from(Go.Sq.bJ _)),kl (rG [(0,3),(5,1),(7,2),(10,19),(31,28)]) 4 hL,ko (bC.Gu (Sq.au l)),kq 0,XV (length t.cells) (Sq.au l) (by simp only[yD,yE,y14,y13,Go.Sq.ay,Go.Sq.bK,Go.Sq.bJ,Go.Sq.dW]<;>omega),kp (show length (Sq.au l)=length t.cells from(by simp only[yD,yE,y14,y13,Go.Sq.ay,Go.Sq.bK,Go.Sq.bJ,Go.Sq.dW]<;>omega)),kp (show ∀(c:List AV),c∈Sq.au l->List.all c AV.fJ=true from(Go.Sq.bK _))]
end Go.Tx
namespace Go.Tx
open Go Go.Am Go.Proofs Go.eY Go.Lib Go.OC
set_option maxHeartbeats 4000000 in
theorem pz:OC.X8 282 11:=by
 intro b n c i vb vo vc cs vs w hi gY Me TF lG Cv jQ Q7 Qz Ev Gy Gz tA tB kA kB OD NS QA Q8;have iZ:(Tryz.prog.info? 138).map (·.size)=some 11:=zQ
 have hov:∀lb cb o,(callFunc 289 #[.slice (some ⟨vb,vo,none⟩) 1 vc,.slice (some ⟨b,o,none⟩) lb cb]).run Tryz.prog w = .ok (.value (.bool false)) w:=fun lb cb o=>by
  rw[run_callFunc_extern Tryz.func289 zQ zQ zQ (e:=Extern.SlicesOverlaps.overlaps #[86,86] #[4]) zQ,
   lX w 86 4 138 Tryz.underlying86 11 Tryz.sizeOf138 ⟨vb,vo,none⟩ ⟨b,o,none⟩ 1 vc lb cb TF tA tB kA kB OD NS QA Q8 Qz rfl]
  rfl
 have mixed:Tryz.prog.follows .mixedOrders=true:=zQ
 obtain⟨jw,OE,hw2,Mf,vN,X9,XB,Ya,hb4,W1,KF,J2,Mh⟩:=Mi (vc:=vc) (tS:=86) (tE:=138) (z:=11) zD Tryz.underlying86 iZ hi gY Me TF lG Cv jQ Q7 Qz Ev Gy Gz OD NS QA Q8
 go_enter Tryz.func282,Tryz.ntmps282
 go_wp2_with (simp only[hov])
 go_region_law_o (refine step_copy_runI rfl _ _ 86 86 rfl _ _ (by simp[Act.eval,Act.put]) (by simp[Act.eval,Act.put]) (J2 _ _ _) ?_)
 go_wp2_with (at_builtin;refine wpList_copy_runI _ rfl _ _ 86 86 rfl _ _ rfl rfl (Mh _ (fun _=>rfl) (fun _=>rfl) _ _) ?_)
 go_ret
 first|exact⟨rfl,rfl⟩|exact⟨rfl,by rw[KF]⟩
abbrev zB:Value:=.agg #[.int .i64 0,.int .i64 0,.int .i64 0,.int .i64 0,.int .i64 0,.int .i64 0,.int .i64 0,.int .i64 0,.int .i64 0,.int .i64 0,.bool false]
set_option maxHeartbeats 4000000 in
theorem sU:OC.Yb 282 11 138 88 zB:=by
 intro b n c i vb vo vc cs vs w hi hnc gY Ia lG Cv jQ Ev Gy Gz;have iZ:(Tryz.prog.info? 138).map (·.size)=some 11:=zQ
 have mixed:Tryz.prog.follows .mixedOrders=true:=zQ
 obtain⟨G,oJ,hG,yg,jw,x9,hGi,Yc,hci,OE,Mf,vN,X9,Ya,hGn,Yd,Xf,Mj,ED⟩:=TG (vc:=vc) (tS:=86) (tE:=138) (z:=11) (B:=88) (zB:=zB) zD zD Tryz.underlying86 iZ zQ rfl hi hnc gY Ia lG Cv jQ Ev Gy Gz;rw[<- hG,<- yg];have hE1:∀x,((w.alloc (.cells oJ 138)).drew).cell? x=(w.drew.alloc (.cells oJ 138)).cell? x:=fun x=>rfl;have hE2:∀x,((w.alloc (.cells oJ 138)).drew).frozen? x=(w.drew.alloc (.cells oJ 138)).frozen? x:=fun x=>rfl;have Ko:∀x,(((w.alloc (.cells oJ 138)).drew.setCells w.heap.size (i*11) vs).drew).cell? x=((w.drew.alloc (.cells oJ 138)).setCells w.heap.size (i*11) vs).cell? x:=fun x=>rfl;have hF2:∀x,(((w.alloc (.cells oJ 138)).drew.setCells w.heap.size (i*11) vs).drew).frozen? x=((w.drew.alloc (.cells oJ 138)).setCells w.heap.size (i*11) vs).frozen? x:=fun x=>rfl;clear yg hG
 go_enter Tryz.func282,Tryz.ntmps282
 go_wp2_with (first
  |(at_builtin;refine Lib.wpList_append_run _ rfl _ _ _ _ rfl _ _ rfl rfl _ _ (Xf _) ?_)
  |(at_builtin;refine wpList_copy_runI _ rfl _ _ 86 86 rfl _ _ rfl rfl (Mj _ hE1 hE2 _ _) ?_)
  |(at_builtin;refine wpList_copy_runI _ rfl _ _ 86 86 rfl _ _ rfl rfl (ED _ (fun _=>rfl) (fun _=>rfl) _ _ _) ?_))
 go_region_law_o (refine step_copy_runI rfl _ _ 86 86 rfl (.slice (some ⟨w.heap.size,(i+1)*11,none⟩) (n-i) (G-(i+1))) (.slice (some ⟨b,i*11,none⟩) (n-i) (c-i)) (by simp[Act.eval,Act.put]) (by simp[Act.eval,Act.put]) (ED _ Ko hF2 3 (G-(i+1)) (c-i)) ?_)
 go_wp2
 go_ret
 exact⟨rfl,rfl⟩
end Go.Tx
namespace Go.Tx
open Go Go.Am Go.Proofs Go.eY Go.Lib
theorem Ra x w(b:MK)(i:Nat)(hi:i<x.length)(hx:x.length<=1000000000):ak P G 282 [.aU 0 0 0 x.length,int i,.sl 11 true [aQ b]] [.aN 0 11 false (au (x++w))] (.ret (oI (x.take i++[b]++x.drop i))) [.aH]:=by
 have e:(au x).take i++[aQ b]++(au x).drop i=au (x.take i++[b]++x.drop i):=by simp[au]
 have h:=OC.uL  (z:=11)    zD zD rfl pz sU (au x) (au w) (aQ b) 0 i rfl (by rw[ay];exact hi) (by rw[ay];exact hx);rw[e,ay,gy]at h;exact((ak.qp (xs:=[.aU 0 0 0 x.length,int i,.sl 11 true [aQ b]]) h ⟨y34,y34,aF.oP _ _ _,yO⟩).Mq  rfl ⟨rfl,y27 yM,rfl,bK _,yO⟩).pY ⟨.inr yO,yO⟩
end Go.Tx
namespace Go.Tx
open Go Go.Am Go.Proofs Go.eY
open Go.Sq (CE nP bZ oO vM fX U2 kQ jg)
abbrev a1F(i:Nat):AV:=.fn (.func 280) [] [.ptr i 0]
theorem Yf(x y:MK):(x.dv==y.dv&&x.sq==y.sq)=decide (x.eG=y.eG):=by
 rw[Bool.eq_iff_iff];simp[MK.eG]
theorem amU(x m:MK)r(h:(x.dv==m.dv&&x.sq==m.sq)=(r)):ak P G 280 [EC x,.ptr 0 0] [ah.box (aQ m)] (aS.ret (Am.bool r)) [ah.box (aQ m)]:=by
 exact aA (aF.aI h) []
theorem amV x m:ak P G 280 [EC x,.ptr 0 0] [.box (aQ m)] (.ret (bool (decide (x.eG=m.eG)))) [.box (aQ m)]:=amU x m _ (Yf x m)
def aiS(v:List MK)(m:MK)(k:Nat):St:={ aL:=aC 19 [(0,oI v),(1,a1F 0),(4,int 0),(6,oI v),(7,int v.length),(8,int k)],H:=[.box (aQ m)] }
theorem afG v(m:MK)(k:Nat)(hv:v.length<=1000000000)(ex:bF)r(h:((((k:Int)<v.length)->(∃x2:MK,(v[k]?=some x2)/\(((x2.eG=m.eG)->(bF.ret=ex)/\((k:Int)=(r)))/\((¬x2.eG=m.eG)->Rq 1 196 0 (sM 19 [(0,.sl 11 false (au v)),(1,.fn (Fn.func 280) [] [.ptr 0 0]),(4,int 0),(6,.sl 11 false (au v)),(7,int ↑v.length),(8,int ↑(k+1))] [.box [int m.dv,int m.sq,int m.tm,int m.fd,int m.fs,int m.fa,int m.td,int m.ts,int m.ta,int m.st,Am.bool m.on]]) ex (sM 19 [(4,int r)] [.box (aQ m)])))))/\((¬(k:Int)<v.length)->(bF.exit 0=ex)/\(0=r)))):Rq 1 196 0 (aiS v m k) ex (sM 19 [(4,int r)] [.box (aQ m)]):=by
 by_cases c1:((k:Int)<v.length)
 .have h:=h.1 c1;obtain⟨x2,o3,h⟩:=h;have fT:=(@amV (x2) (m));let l1:List fP:=[kt (qT c1),ke (aQ x2) (au v) k (bG o3),kc [0] fT];by_cases c4:(x2.eG=m.eG)
  .have h:=h.1 c4;obtain⟨eX,e1⟩:=h;exact bN.to ((show Rq 1 196 0 (aiS v m k) bF.ret (sM 19 [(4,int ↑k)] [.box [int m.dv,int m.sq,int m.tm,int m.fd,int m.fs,int m.fa,int m.td,int m.ts,int m.ta,int m.st,Am.bool m.on]])from aG (l1++[kt (qT c4)]) (aB 19 [4]) 1)) eX (eB.aC ⟨rfl,(aF.int_eq e1),yO⟩)
  .have h:=h.2 c4;exact aJ (l1++[kf (qF c4),kW 18 (k+1) ↑(k+1)]) (aB 19 [0,1,4,6,7,8]) 1 h
 .have h:=h.2 c1;obtain⟨eX,e1⟩:=h;exact bN.to ((show Rq 1 196 0 (aiS v m k) (bF.exit 0) (sM 19 [(4,int 0)] [.box [int m.dv,int m.sq,int m.tm,int m.fd,int m.fs,int m.fa,int m.td,int m.ts,int m.ta,int m.st,Am.bool m.on]])from aG [kf (qF c1)] (aB 19 [4]) 1)) eX (eB.aC ⟨rfl,(aF.int_eq e1),yO⟩)
theorem acd v(m:MK)(hv:v.length<=1000000000):∀n k,v.length-k=n->k<=v.length->∃j:Nat,Rq 1 196 0 (aiS v m k) (if(v.drop k).any (fun a=>decide (a.eG=m.eG))=true then .ret else .exit 0) { aL:=aC 19 [(4,int j)],H:=[.box (aQ m)] }:=by
 intro n
 induction n with
 |zero =>
  intro k hn hk;rw[y17 zO];exact⟨0,afG v m k hv _ _ ⟨fun h=>absurd h zO,fun _=>⟨rfl,rfl⟩⟩⟩
 |succ n ih =>
  intro k hn hk;have bg:k<v.length:=zO
  obtain⟨j,nx⟩:=ih (k+1) zO zO;rw[y01 bg,any_cons];cases hd:decide (v[k].eG=m.eG)with
  |true =>
   exact⟨k,afG v m k hv _ _ ⟨fun h=>⟨v[k],yA bg,⟨fun _=>⟨rfl,rfl⟩,fun hq=>by simp[y18 hd]at hq⟩⟩,fun h=>absurd bg zO⟩⟩
  |false =>
   exact⟨j,afG v m k hv _ _ ⟨fun h=>⟨v[k],yA bg,⟨fun hq=>absurd hq (of_decide_eq_false hd),fun _=>nx⟩⟩,fun h=>absurd bg zO⟩⟩
theorem amW v(m:MK)(j:Nat)(hL:Rq 1 196 0 (aiS v m 0) .ret { aL:=aC 19 [(4,int j)],H:=[.box (aQ m)] })(h:True):ak P G 196 [oI v,a1F 0] [ah.box (aQ m)] (aS.ret (int ↑j)) [ah.box (aQ m)]:=by
 exact aj [kN 7 (ay v),kl (rG [(2,2),(5,1),(9,10)]) 1 hL]
theorem amX v(m:MK)(j:Nat)(hL:Rq 1 196 0 (aiS v m 0) (.exit 0) { aL:=aC 19 [(4,int j)],H:=[.box (aQ m)] })(h:True):ak P G 196 [oI v,a1F 0] [ah.box (aQ m)] (aS.ret (int (-1))) [ah.box (aQ m)]:=by
 exact aj [kN 7 (ay v),kl (rG [(2,2),(5,1),(9,10)]) 1 hL]
theorem ace v(m:MK)i(h0:ak P G 196 [oI v,a1F 0] [.box (aQ m)] (.ret (int i)) [.box (aQ m)])r(h:(decide (i>=0))=(r)):ak P G 158 [oI v,a1F 0] [ah.box (aQ m)] (aS.ret (Am.bool r)) [ah.box (aQ m)]:=by
 exact aA (aF.aI h) [kc [0] h0]
theorem ajp v(m:MK)(hv:v.length<=1000000000):ak P G 158 [oI v,a1F 0] [.box (aQ m)] (.ret (bool (v.any fun a=>decide (a.eG=m.eG)))) [.box (aQ m)]:=by
 obtain⟨j,h0⟩:=acd v m hv _ 0 rfl zO;rw[drop_zero]at h0;cases h:v.any fun a=>decide (a.eG=m.eG)with
 |true=>rw[h]at h0;exact ace v m _ (amW v m j h0 yO) _ zS
 |false=>rw[h]at h0;exact ace v m _ (amX v m j h0 yO) _ zS
abbrev yT(f:Nat):AV:=.lit (.func (.func f) #[] #[])
def Bc(i j:Nat):Int:=IntKind.wrap IntKind.i64 (Int.fdiv (↑(i+j):Int) (2^min (Int.toNat 1) (IntKind.bits IntKind.u64)))
theorem Ms{i j}(h:i+j<=1000000000000):Bc i j=((i+j)/2:Nat):=by
 have e:(2^min (Int.toNat 1) (IntKind.bits IntKind.u64):Int)=2:=zD
 unfold Bc;rw[e,IntKind.wrap_i64,Int.fdiv_eq_ediv_of_nonneg _ zO];omega
def Yg(v:List MK)(m:MK)(i j:Nat):St:={ aL:=aC 49 [(0,oI v),(2,yT 157),(4,.ptr 0 0),(8,int v.length),(9,int i),(10,int j)],H:=[.box (aQ m)] }
def bsX(v:List MK)(m:MK)(p:Nat):St:={ aL:=aC 49 [(0,oI v),(2,yT 157),(4,.ptr 0 0),(8,int v.length),(9,int p)],H:=[.box (aQ m)] }
theorem afH(v:List MK)(b:MK)(i j m:Nat)(hj:j<=v.length)(hv:v.length<=1000000000)(hm:Bc i j=(m:Int))(hm':IntKind.wrap IntKind.i64 (Int.fdiv (↑(i+j):Int) (2^min (Int.toNat 1) (IntKind.bits IntKind.u64)))=(m:Int))(bg:m<j)(ex:bF)(s:St)(h:((((i:Int)<(j:Int))->(∃x2:MK,((0:Int)<=Bc i j/\v[Int.toNat (Bc i j)]?=some x2)/\(((yc x2 b<0)->Rq 0 281 0 (sM 49 [(0,.sl 11 false (au v)),(2,iL 157),(4,.ptr 0 0),(8,int ↑v.length),(9,int (Bc i j+1)),(10,int ↑j)] [.box [int b.dv,int b.sq,int b.tm,int b.fd,int b.fs,int b.fa,int b.td,int b.ts,int b.ta,int b.st,Am.bool b.on]]) ex s)/\((¬yc x2 b<0)->Rq 0 281 0 (sM 49 [(0,.sl 11 false (au v)),(2,iL 157),(4,.ptr 0 0),(8,int ↑v.length),(9,int ↑i),(10,int (Bc i j))] [.box [int b.dv,int b.sq,int b.tm,int b.fd,int b.fs,int b.fa,int b.td,int b.ts,int b.ta,int b.st,Am.bool b.on]]) ex s))))/\((¬(i:Int)<(j:Int))->(bF.exit 0=ex)/\(sM 49 [(0,.sl 11 false (au v)),(2,iL 157),(4,.ptr 0 0),(8,int ↑v.length),(9,int ↑i)] [.box [int b.dv,int b.sq,int b.tm,int b.fd,int b.fs,int b.fa,int b.td,int b.ts,int b.ta,int b.st,Am.bool b.on]]=s)))):Rq 0 281 0 (Yg v b i j) ex s:=by
 by_cases c1:((i:Int)<(j:Int))
 .have h:=h.1 c1;obtain⟨x2,o3,h⟩:=h;have Av:=(@wW (x2) (b));let l1:List fP:=[kt (qT c1),kW 20 ((i:Int)+(j:Int)) (↑(i+j):Int),kv 21 (show Am.aF (AV.lit (Value.int IntKind.u64 (IntKind.wrap IntKind.u64 (↑(i+j):Int)))) (AV.lit (Value.int IntKind.u64 (↑(i+j):Int)))from(aF.zf zO zO rfl)),ko (bC.elem (aQ x2)),kp (show(0:Int)<=(1:Int)from zO),kp (show(0:Int)<=IntKind.wrap IntKind.i64 (Int.fdiv (↑(i+j):Int) (2^min (Int.toNat 1) (IntKind.bits IntKind.u64)))/\(au v)[Int.toNat (IntKind.wrap IntKind.i64 (Int.fdiv (↑(i+j):Int) (2^min (Int.toNat 1) (IntKind.bits IntKind.u64))))]?=some (aQ x2)from(qU o3)),kc [] Av];by_cases c4:(yc x2 b<0)
  .have h:=h.1 c4;exact aJ (l1++[kt (qT c4),kW 33 (IntKind.wrap IntKind.i64 (Int.fdiv (↑(i+j):Int) (2^min (Int.toNat 1) (IntKind.bits IntKind.u64)))+1) (Bc i j+1)]) (aB 49 [0,2,4,8,9,10]) 1 h
  .have h:=h.2 c4;exact aJ (l1++[kf (qF c4)]) (aB 49 [0,2,4,8,9,10]) 1 h
 .have h:=h.2 c1;obtain⟨eX,eS⟩:=h;exact bN.to ((aG [kf (qF c1)] (aB 49 [0,2,4,8,9]) 1)) eX (eB.of_eq eS)
theorem afI v(b:MK)(i j:Nat)(wQ:¬i<(j:Int))(h:True):Rq 0 281 0 (Yg v b i j) (bF.exit 0) (bsX v b i):=by
 exact aG [kj ((i:Int)<j)] (aB 49 [0,2,4,8,9]) 1
theorem OH v(b:MK)p(hp:p<=v.length)(hv:v.length<=1000000000)(hL:Rq 0 281 0 (Yg v b 0 v.length) (.exit 0) (bsX v b p))r(h:((((p:Int)<v.length)->(∃x2:MK,(v[p]?=some x2)/\(yc x2 b==0)=(r)))/\((¬p<(v.length:Int))->(false)=(r)))):Cq 281 [oI v,EC b,yT 157] (.bq [int ↑p,Am.bool r]):=by
 let l1:List fP:=[kN 13 (ay v),kl (rG [(1,1),(3,1),(5,3),(11,38)]) 1 hL];by_cases c1:((p:Int)<(v.length:Int))
 .have h:=h.1 c1;obtain⟨x2,o3,h⟩:=h;have e1:=h;exact ak.out ((show Cq 281 [oI v,EC b,yT 157] (.bq [int ↑p,Am.bool (yc x2 b==0)])from aj (l1++[kt (qT c1),ke (aQ x2) (au v) p (bG o3),kc [] (@wW (x2) (b))]))) (aF.iM ⟨y34,(aF.aI e1),yO⟩)
 .have h:=h.2 c1;have e1:=h;exact ak.out ((show Cq 281 [oI v,EC b,yT 157] (.bq [int ↑p,Am.bool false])from aj (l1++[kf (qF c1)]))) (aF.iM ⟨y34,(aF.aI e1),yO⟩)
theorem Rb x(b:MK)i(hi:i=x.length)(hx:x.length<=1000000000)(h:True):ak P G 282 [.aU 0 0 0 x.length,int i,.sl 11 true [aQ b]] [ah.aN 0 11 false (au x)] (aS.ret (oI (x++[b]))) [ah.aH]:=by
 have bS:0=0:=(rfl);exact ak.pY ((show ak P G 282 [.aU 0 0 0 x.length,int i,.sl 11 true [aQ b]] [ah.aN 0 11 false (au x)] (aS.ret (AV.sl 11 false (au (x++[b])))) [ah.aN 1 11 true (au (x++[b]))]from aj [kp bS,Ga i x.length x.length,kY,kp bS,kt (show(i==x.length)=true from(qT zO)),ko (bC.hp (some 25) (AV.aU 0 1 0 (length (x++[b]))) [ah.aN 1 11 false (au (x++[b]))]),ko (bC.Gu (au (x++[b]))),kp (show Am.aF (AV.aU 0 1 0 (length x+1)) (AV.aU 0 1 0 (length (x++[b])))from(aF.of_eq (by simp[dW]))),kp (show Am.HSub [ah.aN 1 11 false (au x++[[int b.dv,int b.sq,int b.tm,int b.fd,int b.fs,int b.fa,int b.td,int b.ts,int b.ta,int b.st,Am.bool b.on]])] [ah.aN 1 11 false (au (x++[b]))]from(⟨.inl (by simp only[gy,Aw]),yO⟩)),kp bS,kp (ay x).symm,vV ((length x+1)*88),kq 1,kp (show List.take (length (x++[b])) (List.drop 0 (au (x++[b])))=au (x++[b])from(dW _)),kp (show length (au (x++[b]))=length (x++[b])from(ay _)),kp (show ∀ c,c∈au (x++[b])->List.all c AV.fJ=true from(bK _))])) (by exact⟨.inr yO,yO⟩)
theorem Yh x(b:MK)i(hi:i=x.length)(hx:x.length<=1000000000)(h:True):Cq 282 [.sl 11 true (au x),int i,.sl 11 true [aQ b]] (oI (x++[b])):=by
 exact aj [kv 12 (show Am.aF (AV.sl 11 true (List.drop (Int.toNat i) (List.take (Int.toNat ↑(length (au x))) (au x)))) (AV.sl 11 true (List.drop (Int.toNat i) (List.take (Int.toNat x.length) (au x))))from(aF.of_eq (by simp only[ay]))),Ga i ↑(length (au x)) ↑(length (au x)) (by rw[ay];omega),kY,kN 19 (ay x),kt (show(i==x.length)=true from(qT zO)),ko (bC.hp (some 25) (AV.aU 0 0 0 (length (x++[b]))) [ah.aN 0 11 false (au (x++[b]))]),ko (bC.Gu (au (x++[b]))),kp (show Am.aF (AV.aU 0 0 0 (length (au x)+1)) (AV.aU 0 0 0 (length (x++[b])))from(aF.of_eq (by simp[ay]))),kp (show Am.HSub [ah.aN 0 11 false (au x++[[int b.dv,int b.sq,int b.tm,int b.fd,int b.fs,int b.fa,int b.td,int b.ts,int b.ta,int b.st,Am.bool b.on]])] [ah.aN 0 11 false (au (x++[b]))]from(⟨.inl (by simp only[gy,Aw]),yO⟩)),Qx [int b.dv,int b.sq,int b.tm,int b.fd,int b.fs,int b.fa,int b.td,int b.ts,int b.ta,int b.st,Am.bool b.on],vV ((length (au x)+1)*88) (by simp only[ay]<;>omega),kq 0,kp (show List.take (length (x++[b])) (List.drop 0 (au (x++[b])))=au (x++[b])from(dW _)),kp (show length (au (x++[b]))=length (x++[b])from(ay _)),kp (show ∀ c,c∈au (x++[b])->List.all c AV.fJ=true from(bK _))]
theorem KC x(b:MK)(i:Nat)(hi:i<=x.length)(hx:x.length<=1000000000):ak P G 282 [.aU 0 0 0 x.length,int i,.sl 11 true [aQ b]] [.aN 0 11 false (au x)] (.ret (oI (x.take i++[b]++x.drop i))) [.aH]:=by
 rcases y11 i x.length with h|h
 .have:=Ra x [] b i h hx;grind
 .have e:i=x.length:=zO
  subst e;rw[take_length,drop_length,y23];exact Rb x b _ rfl hx trivial
theorem Yi v(hv:v.length<=1000000000)(fF:¬au v=[])(h:True):ak P G 85 [oI v] [] (aS.ret (AV.aU 0 0 0 v.length)) [ah.aN 0 11 false (au v)]:=by
 exact aj [kp (show au v≠[]from zO),kY,kv 7 (show Am.aF (AV.aU 0 0 0 (0+length (au v))) (AV.aU 0 0 0 v.length)from(aF.of_eq (by simp[ay,dW]))),kp fF,vV ((0+length (au v))*88) (by simp only[ay,bK]<;>omega)]
theorem Yj n(h:aF (aK) (AV.sl 11 true [])):Cq 85 [.lit (Value.slice none 0 n)] (.sl 11 true []):=by
 have e1:=h;exact ak.out ((aj [kO])) e1
theorem Yk a(n:Nat)(h:True):Cq 85 [.lit (Value.slice (some a) 0 n)] (.sl 11 true []):=by
 exact aj [kY,ko (bC.LV),kp (Am.C8)]
theorem afJ sz:aF (.lit (.slice none 0 0)) (.sl sz true []):=fun V v h=>by
 rw[bW h];exact .pure _ _ (.sl sz true [] none 0 0 0 (fun _ _=>undef) (fun h=>absurd rfl h) (fun h=>absurd rfl h) yM (fun _=>rfl) (fun x hx=>by cases hx) (fun k j hk=>absurd hk (y28 _)) (fun k j hk=>absurd hk (y28 _)) fun k j hk=>absurd hk (y28 _))
theorem Mt:Cq 85 [oI []] (.sl 11 true []):=ak.wY (fun cap=>Yj cap (afJ 11)) fun a cap=>Yk a cap trivial
theorem uJ v(hv:v.length<=1000000000)(fF:v≠[]):ak P G 85 [oI v] [] (.ret (.aU 0 0 0 v.length)) [.aN 0 11 false (au v)]:=Yi v hv (fun h=>fF (by simpa[au]using h)) trivial
def uD(m:MK)(v:List MK):Nat:=(v.takeWhile fun a=>nD a m).length
theorem Mv(m:MK)v:uD m v<=v.length:=(takeWhile_sublist _).length_le
theorem zh{a b}:nD a b=true↔a.tm<b.tm\/a.tm=b.tm/\(a.dv<b.dv\/a.dv=b.dv/\a.sq<b.sq):=by
 unfold nD;grind
theorem sV{a b c}(h:nD a b=true)(k:nD b c=true):nD a c=true:=by
 rw[zh]at *;omega
theorem arF(a:MK):nD a a=false:=by
 rw[Bool.eq_false_iff,ne_eq,zh];omega
theorem as7{a b:MK}(h:nD a b=true):nD b a=false:=by
 rw[Bool.eq_false_iff];intro k;have:=sV h k;rw[arF]at this;cases this
theorem Mw{b}:∀{v}(_:v.Pairwise fun a c=>nD a c=true){m}hm,nD v[m] b=true↔m<uD b v
 |[],_,m,hm=>absurd hm zS
 |a::t,hs,m,hm=>by
  rw[pairwise_cons]at hs;cases hl:nD a b with
  |true =>
   have e:uD b (a::t)=uD b t+1:=by simp[uD,hl]
   rw[e];cases m with
   |zero=>simp[hl]
   |succ m =>
    have:=Mw hs.2 (b:=b)  (by simpa using hm);grind
  |false =>
   have e:uD b (a::t)=0:=by simp[uD,hl]
   rw[e];cases m with
   |zero=>simp[hl]
   |succ m =>
    have bg:m<t.length:=by simpa using hm
    have h1:=hs.1 t[m] (y03 _);simp only[y28,iff_false];intro h2;rw[sV h1 h2]at hl;cases hl
theorem Mx v(b:MK)(hv:v.length<=1000000000)(hs:v.Pairwise fun a c=>nD a c=true):∀n i j,j-i<=n->i<=uD b v->uD b v<=j->j<=v.length->Rq 0 281 0 (Yg v b i j) (.exit 0) (bsX v b (uD b v)):=by
 intro n;have he:∀i j,i<=uD b v->uD b v<=j->¬i<j->Rq 0 281 0 (Yg v b i j) (.exit 0) (bsX v b (uD b v)):=fun i j h1 h2 wQ=>by
  have:=afI v b i j zO trivial;grind
 induction n with
 |zero=>intro i j hn h1 h2 h3;grind
 |succ n ih =>
  intro i j hn h1 h2 h3;by_cases wQ:i<j
  .have hm:=Ms (i:=i) (j:=j) zO;refine afH v b i j ((i+j)/2) h3 hv hm hm zO _ _ ⟨fun _=>?_,fun h=>absurd zO h⟩;have bg:(i+j)/2<v.length:=zO
   refine⟨v[(i+j)/2],?_,fun hq=>?_,fun hq=>?_⟩
   .grind [y31,yA]
   .have:=(Mw hs bg).1 ((LX _ _).1 hq);have nx:=ih ((i+j)/2+1) j zO zO h2 h3;rw[hm];exact nx
   .have:¬(i+j)/2<uD b v:=fun h=>hq ((LX _ _).2 ((Mw hs bg).2 h));have nx:=ih i ((i+j)/2) zO h1 zO zO;rw[hm];exact nx
  grind
theorem Yl v(b:MK)(hv:v.length<=1000000000)(hs:v.Pairwise fun a c=>nD a c=true):∃r,Cq 281 [oI v,EC b,yT 157] (.bq [int (uD b v),bool r]):=by
 have hp:=Mv b v;have hL:=Mx v b hv hs _ 0 v.length yM zO hp zO;rcases y11 (uD b v) v.length with h|h
 .exact ⟨yc v[uD b v] b==0,OH v b _ hp hv hL _ ⟨fun _=>⟨v[uD b v],yA h,rfl⟩,fun h'=>absurd zO h'⟩⟩
 .exact ⟨false,OH v b _ hp hv hL _ ⟨fun h'=>absurd h' zO,fun _=>rfl⟩⟩
theorem ajq t(m:MK)e(he:e≠0)(hc:Cq 115 [mG t] (int e))(h:True):Cq 271 [mG t,EC m] (.bq [mG zT,int e]):=by
 exact ak.out ((show Cq 271 [mG t,EC m] (.bq [.agg [aK,aK],int e])from aj [kc [] hc,kt (((y32 (qF zO))))])) (aF.iM ⟨(aF.qo ⟨(aF.nil _),(aF.nil _),yO⟩),y34,yO⟩)
theorem ajr(t:TE)m(hc:Cq 115 [mG t] (int 0))(hi:Cq 156 [bZ t.cells,EC m] (bool false))(h:True):Cq 271 [mG t,EC m] (.bq [mG zT,int 160]):=by
 exact ak.out ((show Cq 271 [mG t,EC m] (.bq [.agg [aK,aK],int 160])from aj [kc [] hc,kY,kc [] hi,kO,kO])) (aF.iM ⟨(aF.qo ⟨(aF.nil _),(aF.nil _),yO⟩),y34,yO⟩)
theorem ajs(t:TE)m(hc:Cq 115 [mG t] (int 0))(hi:Cq 156 [bZ t.cells,EC m] (bool true))(hF:ak P G 158 [oI t.bQ,a1F 0] [.box (aQ m)] (.ret (bool true)) [.box (aQ m)])(h:True):Cq 271 [mG t,EC m] (.bq [mG zT,int 160]):=by
 exact ak.out ((show Cq 271 [mG t,EC m] (.bq [.agg [aK,aK],int 160])from aj [kc [] hc,kY,kc [] hi,kY,kc [1] hF,kO])) (aF.iM ⟨(aF.qo ⟨(aF.nil _),(aF.nil _),yO⟩),y34,yO⟩)
theorem ajt(t:TE)m(p:Nat)(f:Bool)r(hc:Cq 115 [mG t] (int 0))(hi:Cq 156 [bZ t.cells,EC m] (bool true))(hF:ak P G 158 [oI t.bQ,a1F 0] [.box (aQ m)] (.ret (bool false)) [.box (aQ m)])(hB:Cq 281 [oI t.bQ,EC m,yT 157] (.bq [int p,bool f]))(hC:ak P G 85 [oI t.bQ] [] (.ret (.aU 0 0 0 t.bQ.length)) [.aN 0 11 false (au t.bQ)])(hI:ak P G 282 [.aU 0 0 0 t.bQ.length,int p,.sl 11 true [aQ m]] [.aN 0 11 false (au t.bQ)] (.ret (oI r)) [.aH])(h:True):Cq 271 [mG t,EC m] (.bq [.agg [bZ t.cells,oI r],int 0]):=by
 have qj:∀(x:List AV),x∈au t.bQ->AV.aM [] x=true:=(bJ _);exact aj [kc [] hc,kY,kc [] hi,kY,kc [1] hF,kY,kc [] hB,kc [] hC,kp qj,kc [3] hI,kp qj]
theorem aju(t:TE)m(f:Bool)r(hc:Cq 115 [mG t] (int 0))(hi:Cq 156 [bZ t.cells,EC m] (bool true))(hF:ak P G 158 [oI t.bQ,a1F 0] [.box (aQ m)] (.ret (bool false)) [.box (aQ m)])(hB:Cq 281 [oI t.bQ,EC m,yT 157] (.bq [int 0,bool f]))(hC:Cq 85 [oI t.bQ] (.sl 11 true []))(hI:Cq 282 [.sl 11 true [],int 0,.sl 11 true [aQ m]] (oI r))(h:True):Cq 271 [mG t,EC m] (.bq [.agg [bZ t.cells,oI r],int 0]):=by
 exact aj [kc [] hc,kY,kc [] hi,kY,kc [1] hF,kY,kc [] hB,kc [] hC,kc [] hI]
end Go.Tx
namespace Go.Sq
open Go Go.Am Go.Proofs Go.eY
theorem Ym{l}{x}(h:x∈BI l):x∈l:=by
 unfold BI at h;split at h
 .rename_i hf;exact((rT (Ak.1 hf).1).1 h).1
 .cases h
theorem kQ.ord{l}(h:kQ l):kQ (BI l):=fun x hx=>h x (Ym hx)
theorem Vi l(h:l.length<=1000000000):Cq 77 [bZ l,bZ l] (bool true):=by
 have:=C9 l l h h;grind
theorem Ib l(c:CE):(rU l c).length<=l.length+1:=by
 unfold rU;split
 .simp
 .split
  .simp
  .have:=Ow (l++[c]);grind
theorem Yn l(a b c:Int):(Ez l a b c).length<=l.length:=by
 unfold Ez;split
 .simp
 .split
  .unfold mY;simp
  .simp
end Go.Sq
namespace Go.Sq
open Go Go.Am
theorem arG{x y}:kP x y=kP y x:=by
 unfold kP;grind
theorem Ok.perm{l m}(h:Ok l)(hp:l.Perm m):Ok m :=
 ⟨fun x hx=>h.valid x (hp.mem_iff.2 hx),(Perm.pairwise_iff (fun{a b} h=>by rw[arG];exact h) hp).1 h.nS⟩
theorem ara{l m}(h:∀x,x∈l↔x∈m):∀{n}{c},CQ l n c↔CQ m n c
 |0,c=>Iff.rfl
 |n+1,c=>⟨fun⟨p,hp,e,k⟩=>⟨p,(h p).1 hp,e,(ara h).1 k⟩,fun⟨p,hp,e,k⟩=>⟨p,(h p).2 hp,e,(ara h).2 k⟩⟩
theorem arf{l m}(hp:l.Perm m):sO l=sO m:=by
 rw[Bool.eq_iff_iff,Ak,Ak];have hm:∀x,x∈l↔x∈m:=fun x=>hp.mem_iff;constructor
 .rintro ⟨h1,h2⟩;exact⟨h1.perm hp,fun x hx=>by
   obtain⟨n,hn⟩:=h2 x ((hm x).2 hx);exact⟨n,(ara hm).1 hn⟩⟩
 .rintro ⟨h1,h2⟩;exact⟨h1.perm hp.symm,fun x hx=>by
   obtain⟨n,hn⟩:=h2 x ((hm x).1 hx);exact⟨n,(ara hm).2 hn⟩⟩
variable {l:List CE}
theorem arv{m:List CE}(h:Ok l)(hp:l.Perm m):arE l=arE m:=by
 unfold arE;rw[hp.length_eq];exact arh h.iw (h.perm hp).iw (fun x=>hp.mem_iff) _ _ _ _
theorem aqK(h:sO l=true):(arE l).Perm l:=by
 obtain⟨h1,h2⟩:=Ak.1 h;refine(perm_ext_iff_of_nodup (Ao h1) h1.Fp).2 fun x=>?_;rw[rT h1];exact⟨fun h=>h.1,fun h=>⟨h,h2 x h⟩⟩
theorem Yo(l:List CE):sO l=true/\F5 l=0/\BI l=arE l\/sO l=false/\F5 l=130/\BI l=[]:=by
 unfold F5 BI;cases h:sO l
 .right;exact⟨rfl,rfl,rfl⟩
 .left;exact⟨rfl,rfl,rfl⟩
theorem arb(h:sO l=true):sO (arE l)=true/\arE (arE l)=arE l/\jg (arE l)=0:=by
 have hp:=aqK h;have h1:sO (arE l)=true:=by rw[arf hp];exact h
 have h2:=arv (Ak.1 h1).1 hp;refine⟨h1,h2,?_⟩;unfold jg F5 BI;rw[yL h1,yL h1,yL ⟨rfl,h2⟩]
theorem aqI:jg l=0↔sO l=true/\arE l=l:=by
 unfold jg;rcases Yo l with⟨h1,h2,h3⟩|⟨h1,h2,h3⟩
 .rw [h2,h3];simp[h1]
 .rw [h2];simp[h1]
theorem aqL{α β:Type}{f g:α->List β}:∀{l:List α},(∀x∈l,f x=g x)->l.flatMap f=l.flatMap g
 |[],_=>rfl
 |x::l,h=>by rw[flatMap_cons,flatMap_cons,h x zS,aqL fun y hy=>h y (yF _ hy)]
structure More(l:List CE)(c:CE):Prop where
 fl:sO l=true
 fm:sO (l++[c])=true
theorem More.okm{l}{c}(h:More l c):Ok (l++[c]):=(Ak.1 h.fm).1
theorem More.ne{l}{c}(h:More l c):∀y∈l,y.id≠c.id:=fun y hy e=>by
 have:=(pairwise_append.1 h.okm.iw).2.2 y hy c zS;grind
theorem More.leaf{l}{c}(h:More l c):∀y∈l++[c],y.after≠c.id:=fun y hy e=>by
 have hc0:=h.okm.id0 (x:=c) zS;rcases yI.1 hy with hy|hy
 .obtain ⟨n,hn⟩:=(Ak.1 h.fl).2 y hy;cases n with
  |zero=>exact hc0 (e.symm.trans hn)
  |succ n =>
   obtain⟨p,hp,e',_⟩:=hn;exact h.ne p hp (e'.trans e)
 .rw [mem_singleton.1 hy]at e;obtain⟨n,hn⟩:=(Ak.1 h.fm).2 c zS;cases n with
  |zero=>exact hc0 (e.symm.trans hn)
  |succ n =>
   have hn':=hn;obtain⟨p,hp,e',hl⟩:=hn;have:p=c:=h.okm.one hp zS (e'.trans e);rw[this]at hl;have:=Gs h.okm hl hn';omega
theorem More.parent{l}{c}(h:More l c):c.after=(0,0,0)\/∃p∈l,p.id=c.after:=by
 obtain⟨n,hn⟩:=(Ak.1 h.fm).2 c zS;cases n with
 |zero=>exact .inl hn
 |succ n =>
  obtain⟨p,hp,e,_⟩:=hn;rcases yI.1 hp with hp|hp
  .exact .inr ⟨p,hp,e⟩
  .rw [mem_singleton.1 hp]at e;exact absurd e.symm (h.leaf c zS)
open Go.Proofs Go.eY
theorem cz5:Tryz.prog.cellsOf 5=1:=zQ
theorem Vj(l:List CE)(c:CE):A8 l c=0/\jg l=0/\sO (l++[c])=true/\rU l c=arE (l++[c])\/A8 l c≠0/\rU l c=[]:=by
 unfold A8 rU;by_cases h0:jg l=0
 .by_cases hg:c.gn=true
  .right;simp[h0,hg]
  .rcases Yo (l++[c])with⟨f1,f2,f3⟩|⟨f1,f2,f3⟩
   .left;simp[h0,hg,f1,f2,f3]
   .right;simp[h0,hg,f2,f3]
 .right;simp[h0]
end Go.Sq
namespace Go.Sq
open Go Go.Am
structure Alike(g:CE->CE):Prop where
 dv:∀x,(g x).dv=x.dv
 sq:∀x,(g x).sq=x.sq
 gU:∀x,(g x).gU=x.gU
 ad:∀x,(g x).ad=x.ad
 j6:∀x,(g x).j6=x.j6
 aa:∀x,(g x).aa=x.aa
 tm:∀x,(g x).tm=x.tm
 vl:∀x,(g x).vl=x.vl
section
variable {g:CE->CE} (h:Alike g)
 include h
theorem Alike.id x:(g x).id=x.id:=by simp only[CE.id,h.dv,h.sq,h.gU]
theorem Alike.after x:(g x).after=x.after:=by simp only[CE.after,h.ad,h.j6,h.aa]
theorem Alike.valid x:dF (g x)=dF x:=by simp only[dF,h.dv,h.sq,h.gU,h.ad,h.j6,h.aa,h.tm,h.vl]
theorem Alike.gt x y:Kn (g x) (g y)=Kn x y:=by simp only[Kn,h.dv,h.sq,h.gU,h.tm]
theorem Alike.kP x y:Sq.kP (g x) (g y)=Sq.kP x y:=by simp only[Sq.kP,h.dv,h.sq,h.gU,h.tm]
theorem Alike.ok{l}:Ok (l.map g)↔Ok l:=by
 constructor
 .intro k;refine⟨fun x hx=>?_,?_⟩
  .rw [<- h.valid];exact k.valid _ (yG.2 ⟨x,hx,rfl⟩)
  .have:=pairwise_map.1 k.nS;exact this.imp fun{a b} q=>by rw[h.kP]at q;exact q
 .intro k;refine⟨fun x hx=>?_,?_⟩
  .obtain ⟨y,hy,rfl⟩:=yG.1 hx;rw[h.valid];exact k.valid y hy
  .exact pairwise_map.2 (k.nS.imp fun{a b} q=>by rw[h.kP];exact q)
theorem Alike.CQ{l}:∀{n}{c},Sq.CQ (l.map g) n (g c)↔Sq.CQ l n c
 |0,c=>by show(g c).after=_↔_;rw[h.after];rfl
 |n+1,c=>by
  constructor
  .rintro ⟨p,hp,e,k⟩;obtain⟨q,hq,rfl⟩:=yG.1 hp;rw[h.id,h.after]at e;exact⟨q,hq,e,Alike.CQ.1 k⟩
  .rintro ⟨p,hp,e,k⟩;exact⟨g p,yG.2 ⟨p,hp,rfl⟩,by rw[h.id,h.after];exact e,Alike.CQ.2 k⟩
theorem Alike.forms l:sO (l.map g)=sO l:=by
 rw[Bool.eq_iff_iff,Ak,Ak,h.ok];constructor
 .rintro ⟨k1,k2⟩;refine⟨k1,fun x hx=>?_⟩;obtain⟨m,hm⟩:=k2 (g x) (yG.2 ⟨x,hx,rfl⟩);exact⟨m,h.CQ.1 hm⟩
 .rintro ⟨k1,k2⟩;refine⟨k1,fun x hx=>?_⟩;obtain⟨y,hy,rfl⟩:=yG.1 hx;obtain⟨m,hm⟩:=k2 y hy;exact⟨m,h.CQ.2 hm⟩
theorem Alike.oZ{l}(hl:Ids l)i j k:Sq.oZ (l.map g) i j k=(Sq.oZ l i j k).map g:=by
 have hm:Ids (l.map g):=pairwise_map.2 (hl.imp fun{a b} q=>by rw[h.id,h.id];exact q);refine(Kt hm i j k).ext (pairwise_map.2 ((Kt hl i j k).imp fun{a b} q=>by rw[h.gt];exact q)) fun x=>?_;rw[jc hm,yG,yG];constructor
 .rintro ⟨⟨y,hy,rfl⟩,e⟩;rw[h.after]at e;exact⟨y,(jc hl).2 ⟨hy,e⟩,rfl⟩
 .rintro ⟨y,hy,rfl⟩;obtain⟨k1,k2⟩:=(jc hl).1 hy;exact⟨⟨y,k1,rfl⟩,by rw[h.after];exact k2⟩
theorem Alike.below{l}(hl:Ids l):∀n i j k,bX (l.map g) n i j k=(bX l n i j k).map g
 |0,_,_,_=>rfl
 |n+1,i,j,k=>by
  rw[bX,bX,h.oZ hl,map_flatMap,flatMap_map];refine aqL fun y _=>?_;rw[h.dv,h.sq,h.gU,Alike.below hl n,map_cons]
theorem Alike.all{l:List CE}(hl:Ids l):Sq.arE (l.map g)=(Sq.arE l).map g:=by
 unfold Sq.arE;rw[h.below hl,y13]
theorem Alike.chk{l}(hc:jg l=0):jg (l.map g)=0:=by
 obtain⟨h1,h2⟩:=aqI.1 hc;refine aqI.2 ⟨by rw[h.forms];exact h1,?_⟩;rw[h.all (Ak.1 h1).1.iw,h2]
end
def ers(i:ID)(x:CE):CE:=if x.id=i then{ x with gn:=true }else x
theorem aqH i:Alike (ers i):=by
 constructor<;>(intro x;unfold ers;grind)
variable {x:CE}{i:ID}
theorem aum(h:x.id=i):ers i x={ x with gn:=true }:=yL h
theorem auC(h:x.id≠i):ers i x=x:=yK h
theorem ark{i j k}{l}{m}(h:fX (vM i j k) l=some m):∃x,l[m]?=some x/\x.id=(i,j,k):=by
 obtain⟨x,h1,h2⟩:=QU h;exact⟨x,h1,Tq.1 h2⟩
theorem aqP{i j k}{l}{m}(hl:Ids l)(h:fX (vM i j k) l=some m):mY l m=l.map (ers (i,j,k)):=by
 obtain⟨x,h1,h2⟩:=ark h;unfold mY;apply ext_getElem?;intro n;rw[getElem?_modify,getElem?_map];by_cases e:m=n
 .subst e;rw[h1];simp[ers,h2]
 .cases hn:l[n]? with
  |none=>simp[e]
  |some y =>
   have hy:y.id≠(i,j,k):=fun hy=>by
    obtain⟨l1,q1⟩:=yC.1 h1;obtain⟨l2,q2⟩:=yC.1 hn;rcases Nat.lt_trichotomy m n with h'|h'|h'
    .exact pairwise_iff_getElem.1 hl m n l1 l2 h' (by rw[q1,q2,h2,hy])
    .exact e h'
    .exact pairwise_iff_getElem.1 hl n m l2 l1 h' (by rw[q1,q2,h2,hy])
   simp[e,ers,hy]
theorem ar3{i j k}{l}(hx:x∈l)(e:x.id=(i,j,k)):∃m,fX (vM i j k) l=some m:=by
 cases h:fX (vM i j k) l with
 |some m=>exact⟨m,rfl⟩
 |none =>
  have:=abK h x hx;rw[Tq.2 e]at this;grind
theorem asI{l}{i j k}(hc:jg l=0):(Ox l i j k=0/\Ez l i j k=l.map (ers (i,j,k))/\∃m,fX (vM i j k) l=some m)\/(Ox l i j k=130/\Ez l i j k=[]/\fX (vM i j k) l=none):=by
 obtain⟨h1,h2⟩:=aqI.1 hc;unfold Ox Ez;cases h:fX (vM i j k) l with
 |none=>simp[hc]
 |some m =>
  left;refine⟨by simp[hc],?_,m,rfl⟩;simp only[hc,if_false];exact aqP (Ak.1 h1).1.iw h
end Go.Sq
