import Derived.Test.YtdacbkmlfcjcgaaGreatDoorZ7
set_option maxRecDepth 100000
set_option linter.unusedSimpArgs false
set_option linter.unusedVariables false
open List
noncomputable section
namespace Go.Am
open Go
section
variable {P:Program} {G:Nat->Option (List AV)}
theorem bN.aC5{r:Option Nat}{n0:Nat}{c:Code}{s s':St}{ex:bF}{t:Nat}{x y:AV}{z:List (List AV)}{H1:List ah}{ps:List Prop}(h:bN P G r n0 c s ex s')(hx:s'.aL.getD t .aP=x)(ha:mR s'.H x z=some (y,H1,ps))(dG:gZ ps):bN P G r n0 c s ex { aL:=s'.aL.set t y,H:=H1,dh:=s'.dh } :=
 fun V0 V a h0 k1 k2 k3=>eO.mono (h V0 V a h0 k1 k2 k3) fun _ _ _ hE=>by
  obtain⟨V1,rfl,l1,l2,l3,l4⟩:=hE;have hr:=hx▸l3.aL.get t;obtain⟨V2,a1,a2,a3,a4,a5⟩:=sG (l3.H▸ha) dG l2 hr;exact⟨V2,a1,l1.trans a3,a4,⟨eF.setAt l3.aL a3 a5,a2,l3.dh.step a3⟩,l4.step a3⟩
end
end Go.Am
namespace Go.Dc
open Go Go.Am Go.Proofs Go.eY Go.bH
open Go.yU (CV rR val Cy iB fA)
open Go.Sq (CE)
open Go.Bd (BE)
theorem aAD{α β:Type}{F lp e n t sz:Nat}{l:List α}{V:α->β}{E:List β->List (List AV)}{S:Nat->List β->Nat->St}(aL:AV->List AV)(H0:List ah)(hl:l.length<=1000000)(hE1:∀cs,(E cs).length=cs.length)(hE2:∀cs,∀c∈E cs,c.all AV.fJ=true)(h0:H0.length=n)(hg:∀x,(aL x).getD t .aP=x)(hs:∀x y,(aL x).set t y=aL y)(IJ:∀g zs,∃ps,Bq 0 [] n { aL:=aL (.sl sz false zs),H:=H0++[.aN g sz true zs] }=some ({ aL:=aL (.sl sz false zs),H:=H0 },ps)/\gZ ps)(he:∀(g:Nat)(cs:List β)(k:Nat),¬(k:Int)<(l.length:Int)->bN P G none 0 (vg P F lp) (S g cs k) (.exit e) { aL:=aL (.aU n g 0 cs.length),H:=H0++[.aN g sz false (E cs)] })(hn:∀(g:Nat)(cs:List β)(k:Nat)(x:α),(k:Int)<(l.length:Int)->l[k]?=some x->cs.length<=1000000->∀(ex:bF)(s':St),bN P G none 0 (vg P F lp) (S (g+1) (cs++[V x]) (k+1)) ex s'->bN P G none 0 (vg P F lp) (S g cs k) ex s') :
 bN P G none 0 (vg P F lp) (S 0 [] 0) (.exit e) { aL:=aL (.sl sz false (E (l.map V))),H:=H0 }:=by
 have main:∀q k g,l.length-k=q->k<=l.length->∃g',bN P G none 0 (vg P F lp) (S g ((l.take k).map V) k) (.exit e) { aL:=aL (.aU n g' 0 (l.map V).length),H:=H0++[.aN g' sz false (E (l.map V))] }:=by
  intro q
  induction q with
  |zero =>
   intro k g h1 h2;rw[y23 zO];exact⟨g,he g _ k zO⟩
  |succ q ih =>
   intro k g h1 h2;have hk:k<l.length:=zO
   obtain⟨g',h⟩:=ih (k+1) (g+1) zO zO;refine⟨g',hn g _ k l[k] zO (yA hk) (by simp;omega) _ _ ?_⟩;rw[take_add_one,yA hk,map_append]at h;exact h
 obtain⟨g',h⟩:=main _ 0 0 rfl yN;generalize l.map V=cs at h |-;have ha:∀fz:Bool,(H0++[ah.aN g' sz fz (E cs)])[n]?=some (.aN g' sz fz (E cs)):=fun fz=>by
  rw[getElem?_append_right zO,h0,Nat.sub_self];rfl
 have hq:(H0++[ah.aN g' sz false (E cs)]).set n (.aN g' sz true (E cs))=H0++[.aN g' sz true (E cs)]:=by
  rw[set_append_right _ _ zO,h0,Nat.sub_self];rfl
 have h3:=bN.aC5 (t:=t) (x:=.aU n g' 0 cs.length) (y:=.sl sz false (E cs)) (z:=E cs) (H1:=H0++[.aN g' sz true (E cs)]) (ps:=[g'=g',((E cs).drop 0).take cs.length=E cs,(E cs).length=cs.length,∀c∈E cs,c.all AV.fJ=true]) h (hg _) (by unfold mR;simp only[ha,hq]) ⟨rfl,by rw[drop_zero,y23 (by rw[hE1];exact yM)],hE1 cs,hE2 cs,yO⟩;rw[hs]at h3;obtain⟨ps,p1,p2⟩:=IJ g' (E cs);exact h3.cut n (fun _ e=>by cases e) p1 p2
theorem aEI{l:List TL}(hl:l.length<=1000000):∀j k n,l.length-k=j->k<=l.length->bN P G none 0 (vg P 150 0) (xvS l n k) (.exit 0) { aL:=aC 26 [(5,int (aC6 (l.drop k) n))],H:=[] }:=by
 intro j
 induction j with
 |zero =>
  intro k n h1 h2;rw[y17 zO];exact aJz l n k zO trivial
 |succ j ih =>
  intro k n h1 h2;have bg:k<l.length:=zO
  rw[y01 bg];exact aJA l n k l[k] hl zO (yA bg) _ _ (ih (k+1) _ zO zO)
theorem aHa(l:List yP)(hl:l.length<=1000000):ak P G 148 [sA l] [] (.ret (val (lsV (l.map wdV)))) [] :=
 aJB l (l.map wdV) (aAD (n:=1) (t:=3) (V:=wdV) (E:=iB) (S:=xtS l) xtE [.box azK] hl fA yU.WV rfl (fun _=>rfl) (fun _ _=>rfl) (fun _ _=>⟨_,rfl,yO⟩)
  (fun g cs k h=>aJC l g cs k h yO)
  (fun g cs k x h1 h2 h3 ex s' h=>aJD l g cs k x hl h1 h2 h3 ex s' (by unfold xtS at h;rw[aCk,yD]at h;exact h))) trivial
theorem aHb(ws:List yP):∀c∈xsA ws,c.all AV.fJ=true:=fun c hc=>by obtain⟨s,_,rfl⟩:=yG.1 hc;rfl
set_option maxHeartbeats 2000000 in
theorem aJE(f:FD)(ks:List yP)(g:Nat)(cs:List CV)(i:Nat)(vs:List BE)(hl:vs.length<=1000000):bN P G none 0 (vg P 60 1) (xiS f ks g cs i vs 0 [] 0) (.exit 3) { aL:=xiE ks g cs.length i (sA (vs.map fun b=>b.vl)),H:=[.box (jB f),.box azK,.aN g 4 false (iB cs)] } :=
 aAD (n:=3) (t:=10) (V:=fun b=>b.vl) (E:=xsA) (S:=xiS f ks g cs i vs) (xiE ks g cs.length i) [.box (jB f),.box azK,.aN g 4 false (iB cs)] hl (fun ws=>y10 _) aHb rfl (fun _=>rfl) (fun _ _=>rfl) (fun _ _=>⟨[∀x∈iB cs,AV.gH 3 x=true],zQ,aAE 3 cs,yO⟩)
  (fun q ws k h=>aJF f ks g cs i vs q ws k h yO)
  (fun q ws k x h1 h2 h3 ex s' h=>aJG f ks g cs i vs q ws k x hl h1 h2 h3 ex s' (by unfold xiS xsA at h;rw[map_append,yD]at h;exact h))
theorem aJH(f:FD)(ks:List yP)(hl:ks.length<=1000000)(hb:f.bi.length<=1000000):bN P G none 0 (vg P 60 0) (xoS f ks 0 [] 0) (.exit 1) { aL:=xoE (.sl 4 false (iB (ks.map (kyV f)))),H:=[.box (jB f),.box azK] } :=
 aAD (n:=2) (t:=7) (V:=kyV f) (E:=iB) (S:=xoS f ks) xoE [.box (jB f),.box azK] hl fA yU.WV rfl (fun _=>rfl) (fun _ _=>rfl) (fun _ _=>⟨_,rfl,yO⟩)
  (fun g cs k h=>aJI f ks g cs k h yO)
  (fun g cs k s h1 h2 h3 ex s' h=>by
   have hV:=Bd.aEJ f.bi s zO;have hn:(Bd.aAf s [] f.bi).length<=1000000:=by
    have:=(Bd.aAr s f.bi).length_eq;rw[Bd.aAg]at this;have e:(Bd.fil s f.bi).length<=f.bi.length:=by unfold Bd.fil;exact length_filter_le _ _
    omega
   refine aJJ f ks g cs k s _ _ _ hl h1 h2 h3 hV (aJE f ks g cs k _ hn) (aHa _ (by rw[y10];exact hn)) ex s' ?_;have e:kyV f s=lsV [wdV s,lsV (((Bd.aAf s [] f.bi).map fun b=>b.vl).map wdV)]:=by unfold kyV;rw[map_map];rfl
   unfold xoS at h;rw[e,aCk,yD]at h;exact h)
theorem aC7{f:FD}{v:List D}(h:U6 f v=true)(hl:XW f)(ht:Tx.X4 (Gb f)):ak P G 60 [.agg (jB f)] [] (.ret (val (shV f))) []:=by
 unfold shV;rcases asQ h with e|e|e|e
 .rw [yL e];exact aJK f e _ _ (Sq.up (Sq.aGj f.ce (by have:=hl.ce;omega))) (aHa _ (by have:=azZ f.ce;have:=hl.ce;omega)) trivial
 .rw [yK zO,yK zO,yK zO];exact aJL f e _ _ (Bd.aEK f.bi (by have:=hl.bi;omega)) (aJH f _ (by have:=Bd.aAK f.bi;have:=hl.bi;omega) hl.bi) trivial
 .rw [yK zO,yL e];have hK:=aFO f.ta hl.ta;rw[((asb e).1 h).1]at hK;have hL:=aEI hl.ta _ 0 0 rfl yN;rw[drop_zero]at hL;exact aJM f e _ _ (aJN f.ta _ hK hL yO) trivial
 .rw [yK zO,yK zO,yL e];exact aJO f e _ _ (Tx.aCD (Gb f) ht) trivial
theorem aB6{d:DO}(dm:Dim d):ak P G 16 [kI d] [] (.ret (if F9 d=0 then .bq [val (Vo d),int 0]else .bq [.agg azK,int 180])) []:=by
 have hK:=aA7 d dm;by_cases h:F9 d=0
 .rw [yL h];rw[h]at hK;have hv:=(arD.1 h).2.1;exact aJP d (d.fs.map shF) hK (aAD (n:=2) (t:=4) (V:=shF) (E:=iB) (S:=xrS d) xrE [rdB d,.box azK] dm.fs fA yU.WV rfl (fun _=>rfl) (fun _ _=>rfl) (fun _ _=>⟨_,rfl,yO⟩)
   (fun g cs k h=>aJQ d g cs k h yO)
   (fun g cs k x h1 h2 h3 ex s' h=>by
    have hm:=mem_of_getElem? h2;refine aJR d g cs k x _ dm.fs h1 h2 h3 (aC7 (hv x hm) (dm.len x hm) (dm.iV x hm).lt) ex s' ⟨axg x▸avJ cs (shF x)▸aAE 3 _,?_⟩;unfold xrS at h;rw[<- avJ,axg,yD]at h;exact h)) trivial
 .rw [yK h];exact aJS d _ h hK trivial
end Go.Dc
namespace Go.Dc
open Go Go.Am Go.Proofs Go.eY Go.bH
theorem ayO(f g:FD)(hf:XW f)(hg:XW g):ak P G 67 [.agg (jB f),.agg (jB g)] [] (.ret (Am.bool (decide (f=g)))) []:=by
 have l1:=hf.ce;have l2:=hg.ce;have l3:=hf.tc;have l4:=hg.tc;have e:decide (f=g)=((f.pk==g.pk&&f.pn==g.pn)&&(decide (f.ce=g.ce)&&(decide (f.bi=g.bi)&&(decide (f.ta=g.ta)&&(decide (f.tc=g.tc)&&decide (f.tm=g.tm)))))):=by
  cases f;cases g;rw[Bool.eq_iff_iff];simp[FD.mk.injEq,Sq.tN];grind
 refine ayN f g _ _ _ _ _ (Sq.up (Sq.ais f.ce g.ce zO zO)) (ayL f.bi g.bi (by have:=hf.bi;omega)) (ayK f.ta g.ta (by have:=hf.ta;omega)) (Sq.up (Sq.ais f.tc g.tc zO zO)) (ayM f.tm g.tm (by have:=hf.tm;omega)) _ ?_;rw[e];refine⟨fun a=>?_,fun a=>by rw[a];rfl⟩;rw[a,Bool.true_and];refine⟨fun b=>?_,fun b=>by rw[b];rfl⟩;rw[b,Bool.true_and];refine⟨fun b=>?_,fun b=>by rw[b];rfl⟩;rw[b,Bool.true_and];refine⟨fun b=>?_,fun b=>by rw[b];rfl⟩;rw[b,Bool.true_and];exact⟨fun b=>by rw[b];rfl,fun b=>by rw[b];rfl⟩
theorem azu(a b:List FD)(ha:a.length<=1000000000)(hl:a.length=b.length)(fa:∀f∈a,XW f)(fb:∀f∈b,XW f):∀n k,a.length-k=n->k<=a.length->bN P G none 0 (vg P 66 0) (seS a b k) (if a.drop k=b.drop k then .exit 0 else .ret) seX:=by
 intro n
 induction n with
 |zero =>
  intro k hn hk;rw[yL (by rw[y17 zO,y17 zO])];exact azo a b k zO trivial
 |succ n ih =>
  intro k hn hk;have h1:k<a.length:=zO
  have h2:k<b.length:=zO
  have hx:=yA h1;have hy:=yA h2;have e:(a.drop k=b.drop k)=(a[k]=b[k]/\a.drop (k+1)=b.drop (k+1)):=by
   rw[y01 h1,y01 h2,List.cons.injEq]
  have hc:=ayO a[k] b[k] (fa _ (y03 h1)) (fb _ (y03 h2));by_cases he:a[k]=b[k]
  .have nx:=ih (k+1) zO zO;rw[y15 he]at hc;simp only[e,he,true_and];exact azm a b k _ _ ha zO hx hy hc _ _ nx
  .rw [y16 he]at hc;rw[yK (by rw[e];exact fun h=>he h.1)];exact azn a b k _ _ ha zO hx hy hc trivial
theorem av3(a b:DO)(ha:Dim a)(hb:Dim b):ak P G 19 [kI a,kI b] [] (.ret (Am.bool (decide (a=b)))) []:=by
 have hs:=bV.aqj a.sn b.sn (by have:=ha.sn;omega);have e:(a=b)=(a.sn=b.sn/\a.fs=b.fs):=by
  cases a;cases b;rw[DO.mk.injEq]
 by_cases h:a.sn=b.sn
 .rw [y15 h]at hs;refine azs a b _ hs ?_ trivial;simp only[e,h,true_and];have l:=ha.fs;by_cases hl:a.fs.length=b.fs.length
  .have h9:=azu a.fs b.fs zO hl ha.len hb.len _ 0 rfl yN;rw[drop_zero,drop_zero]at h9;by_cases q:a.fs=b.fs
   .rw [yL q]at h9;rw[y15 q];exact azp _ _ hl h9 trivial
   .rw [yK q]at h9;rw[y16 q];exact azq _ _ hl h9 trivial
  .rw [y16 fun q=>hl (by rw[q])];exact azr _ _ hl trivial
 .rw [y16 h]at hs;rw[y16 (by rw[e];exact fun q=>h q.1)];exact azt a b hs trivial
open Go.bV (OP op jy Sv Fw Okn)
open Go.yU (CV rR Cy val)
theorem PD{f}{x y}{out}(h:ak P G f [y] [] out [])(hs:aF x y):ak P G f [x] [] out []:=ak.qp h  ⟨hs,yO⟩
theorem I9{f}{x y x' y'}{out}(h:ak P G f [x',y'] [] out [])(h1:aF x x')(h2:aF y y'):ak P G f [x,y] [] out []:=ak.qp h  ⟨h1,h2,yO⟩
theorem at7:aF Rf (kI ⟨[],[]⟩):=aF.qo ⟨aF.nil 2,aF.nil 7,yO⟩
theorem lVS:aF (.agg azL) (val (lsV [])):=aF.qo ⟨y29,y29,y29,aF.nil 4,yO⟩
abbrev z0:DO:=⟨[],[]⟩
abbrev b0:DO:=⟨[(-1,0)],[]⟩
theorem i64(n:Int)(h:(decide (-9223372036854775808<=n)&&decide (n<9223372036854775808))=true):Sv n:=by
 simp only[y04,y05]at h;exact h
theorem aw8:Fw iOc:=⟨i64 _ rfl,i64 _ rfl,i64 _ rfl,(fun _ h=>by cases h),i64 _ rfl,i64 _ rfl,i64 _ rfl,i64 _ rfl,i64 _ rfl,i64 _ rfl,i64 _ rfl,i64 _ rfl,i64 _ rfl⟩
theorem aw9:Fw erO:=⟨i64 _ rfl,i64 _ rfl,i64 _ rfl,(fun x h=>by rw[mem_singleton.1 h];exact⟨i64 _ rfl,i64 _ rfl⟩),i64 _ rfl,i64 _ rfl,i64 _ rfl,i64 _ rfl,i64 _ rfl,i64 _ rfl,i64 _ rfl,i64 _ rfl,i64 _ rfl⟩
theorem axa:Fw zoO:=⟨i64 _ rfl,i64 _ rfl,i64 _ rfl,(fun _ h=>by cases h),i64 _ rfl,i64 _ rfl,i64 _ rfl,i64 _ rfl,i64 _ rfl,i64 _ rfl,i64 _ rfl,i64 _ rfl,i64 _ rfl⟩
theorem axW{o:OP}(h:Fw o)(hc:o.cx.length<=1):Okn o:=⟨zO,h.kd,h.f3⟩
theorem erS:aF (.agg erL) (op erO):=aF.qo ⟨y29,y29,y29,aF.oP 2 true _,y29,y29,y29,y29,y29,y29,y29,y29,y29,y29,y29,y29,y29,yO⟩
theorem zoS:aF (.agg zoL) (op zoO):=aF.qo ⟨y29,y29,y29,aF.nil 2,y29,y29,y29,y29,y29,y29,y29,y29,y29,y29,y29,y29,y29,yO⟩
theorem baS:aF baL (kI b0):=aF.qo ⟨aF.oP 2 true _,aF.nil 7,yO⟩
theorem ayQ:EF z0 iOc=0:=zQ
abbrev e0V:CV:=lsV [lsV [],lsV []]
theorem e0S:aF (.agg [int 3,int 0,str .empty,.sl 4 true [[int 3,int 0,str .empty,aK],[int 3,int 0,str .empty,aK]]]) (val e0V) :=
 aF.qo ⟨y29,y29,y29,aF.anK rfl (fun y hy=>by rcases yH.1 hy with rfl|hy;rfl;rw[mem_singleton.1 hy];rfl) (fun k j hk hj=>by
  match k,hk,j,hj with
  |0,_,0,_|0,_,1,_|0,_,2,_|1,_,0,_|1,_,1,_|1,_,2,_=>exact xP.refl _
  |0,_,3,_|1,_,3,_=>exact xP.nil 4),yO⟩
end Go.Dc
namespace Go.bH
open Go Go.Am Go.Proofs Go.eY
theorem aJT(f:Nat)(p q:Int)(A B:List D)(hy:∀A B,dY P G 0 [.agg [int p,int 0,int q]] (q0 f A B++[.box [int p,int 0,int q]]) true (q1 f A B 0 [(p,q)]))(hA:A.length<=1000)(hB:B.length<=1000)(h0:¬(A.length:Int)>0)(h1:(B.length:Int)>0)(hb:B[0]?=some (p,q))(ex:bF)(s':St)(h:Rq 5 293 0 (sM 91 [(0,.yl 0),(1,.ptr 1 0),(2,.ptr 2 0)] [lq,.box [bB A],.box [bB (List.drop 1 B)],.box [iL f],.box [.aU 7 0 0 1],.aH,.aH,.aN 0 2 false [[int p,int q]]]) ex s'):Rq 5 293 0 (PV f A B) ex s':=by
 have bS:=lU (ay A);have jw:=lU (ay B);have H6:(0:Int)<=(0:Int)/\(au B)[Int.toNat 0]?=some (aQ (p,q)):=(bG hb);exact aJ [kv 6 bS,kj ((A.length:Int)>0),kv 10 jw,ki ((B.length:Int)>0),kv 32 jw,kf (show((B.length:Int)==0)=false from(qF zO)),kv 36 bS,kf (show decide ((A.length:Int)>0)=false from((qF zO))),kY,kv 63 bS,kt (show((A.length:Int)==0)=true from(qT zO)),kO,ko (bC.elem (aQ (p,q))),ko (bC.elem (aQ (p,q))),kp H6,kp H6,kv 86 (show Am.aF (AV.sl 2 false (List.drop 1 (List.take (Int.toNat (↑(length (au B)):Int)) (au B)))) (AV.sl 2 false (au (List.drop 1 B)))from(aF.of_eq (by simp only[ay,iI,gF,y26,take_length]))),ko (bC.call [] (aS.ret (Am.bool true)) (q1 f A (List.drop 1 B) 0 [(p,q)])),Ga (1:Int) (↑(length (au B)):Int) (↑(length (au B)):Int) (by rw[ay];omega),kp (@hy (A) (List.drop 1 B)),kY] (aB 91 [0,1,2]) 8 h
theorem aJU(f:Nat)(p q r s:Int)(A B:List D)(hy:∀A B,dY P G 0 [.agg [int p,int q,int 0]] (q0 f A B++[.box [int p,int q,int 0]]) true (q1 f A B 0 [(p,q)]))(hA:A.length<=1000)(hB:B.length<=1000)(h0:(A.length:Int)>0)(ha:A[0]?=some (p,q))(h1:(B.length:Int)>0)(h1':¬(B.length:Int)=0)(hb:B[0]?=some (r,s))(h2:p<r)(ex:bF)(s':St)(h:Rq 5 293 0 (sM 91 [(0,.yl 0),(1,.ptr 1 0),(2,.ptr 2 0)] [lq,.box [bB (List.drop 1 A)],.box [bB B],.box [iL f],.box [.aU 7 0 0 1],.aH,.aH,.aN 0 2 false [[int p,int q]]]) ex s'):Rq 5 293 0 (PV f A B) ex s':=by
 have bS:=lU (ay A);have qj:(0:Int)<=(0:Int)/\(au A)[Int.toNat 0]?=some (aQ (p,q)):=(bG ha);exact aJ [kv 6 bS,ki ((A.length:Int)>0),kO,kN 32 (ay B),kf (show((B.length:Int)==0)=false from(qF zO)),kv 36 bS,kt (show decide ((A.length:Int)>0)=true from((qT zO))),ko (bC.elem (aQ (p,q))),ko (bC.elem (aQ (r,s))),kp qj,kp (show(0:Int)<=(0:Int)/\(au B)[Int.toNat 0]?=some (aQ (r,s))from(bG hb)),ki (p<r),ko (bC.elem (aQ (p,q))),ko (bC.elem (aQ (p,q))),kp qj,kp qj,kv 60 (show Am.aF (AV.sl 2 false (List.drop 1 (List.take (Int.toNat (↑(length (au A)):Int)) (au A)))) (AV.sl 2 false (au (List.drop 1 A)))from(aF.of_eq (by simp only[ay,iI,gF,y26,take_length]))),ko (bC.call [] (aS.ret (Am.bool true)) (q1 f (List.drop 1 A) B 0 [(p,q)])),Ga (1:Int) (↑(length (au A)):Int) (↑(length (au A)):Int) (by rw[ay];omega),kp (@hy (List.drop 1 A) (B)),kY] (aB 91 [0,1,2]) 8 h
theorem aJV(f:Nat)(p q:Int)(A B:List D)(g:Nat)(v:List D)(hv:v.length<=1000)(hy:∀A B,dY P G 0 [.agg [int p,int 0,int q]] (q1 f A B g v++[.box [int p,int 0,int q]]) true (q1 f A B (g+1) (v++[(p,q)])++[.box [int p,int 0,int q]]))(hA:A.length<=1000)(hB:B.length<=1000)(h0:¬(A.length:Int)>0)(h1:(B.length:Int)>0)(hb:B[0]?=some (p,q))(ex:bF)(s':St)(h:Rq 5 293 0 (sM 91 [(0,.yl 0),(1,.ptr 1 0),(2,.ptr 2 0)] [lq,.box [bB A],.box [bB (List.drop 1 B)],.box [iL f],.box [.aU 7 (g+1) 0 (length (v++[(p,q)]))],.aH,.aH,.aN (g+1) 2 false (au (v++[(p,q)]))]) ex s'):Rq 5 293 0 (K8 f A B g v) ex s':=by
 have bS:=lU (ay A);have jw:=lU (ay B);have H6:(0:Int)<=(0:Int)/\(au B)[Int.toNat 0]?=some (aQ (p,q)):=(bG hb);exact aJ [kv 6 bS,kj ((A.length:Int)>0),kv 10 jw,ki ((B.length:Int)>0),kv 32 jw,kf (show((B.length:Int)==0)=false from(qF zO)),kv 36 bS,kf (show decide ((A.length:Int)>0)=false from((qF zO))),kY,kv 63 bS,kt (show((A.length:Int)==0)=true from(qT zO)),kO,ko (bC.elem (aQ (p,q))),ko (bC.elem (aQ (p,q))),kp H6,kp H6,kv 86 (show Am.aF (AV.sl 2 false (List.drop 1 (List.take (Int.toNat (↑(length (au B)):Int)) (au B)))) (AV.sl 2 false (au (List.drop 1 B)))from(aF.of_eq (by simp only[ay,iI,gF,y26,take_length]))),ko (bC.call [] (aS.ret (Am.bool true)) (q1 f A (List.drop 1 B) (g+1) (v++[(p,q)])++[ah.box [int p,int 0,int q]])),Ga (1:Int) (↑(length (au B)):Int) (↑(length (au B)):Int) (by rw[ay];omega),kp (@hy (A) (List.drop 1 B)),kY,kp (show ∀(x:List AV),x∈au (v++[(p,q)])->AV.aM [] x=true from(bJ _))] (aB 91 [0,1,2]) 8 h
theorem aHc(f:Nat)(A B:List D)(g:Nat)(v:List D)(h0:¬(A.length:Int)>0)(h1:¬(B.length:Int)>0)(ex:bF)(s':St)(h:(bF.exit 0=ex)/\(sM 91 [] [lq,.box [bB A],.box [bB B],.box [iL f],.box [.aU 7 g 0 v.length],.aH,.aH,.aN g 2 false (au v)]=s')):Rq 5 293 0 (K8 f A B g v) ex s':=by
 obtain⟨eX,eS⟩:=h;exact bN.to ((show Rq 5 293 0 (K8 f A B g v) (bF.exit 0) (sM 91 [] [lq,.box [.sl 2 false (au A)],.box [.sl 2 false (au B)],.box [iL f],.box [.aU 7 g 0 v.length],.aH,.aH,.aN g 2 false (au v)])from aG [kN 6 (ay A),kj ((A.length:Int)>0),kN 10 (ay B),kj ((B.length:Int)>0)] (aB 91 []) 8)) eX (eB.of_eq eS)
theorem aHd(a b t:List D)(g:Nat)(hL:Rq 5 293 0 (PV 410 a b) (.exit 0) { aL:=aC 91 [],H:=q1 410 [] [] g t })(h:True):ak P G 293 [.yl 0,.ptr 1 0,.ptr 2 0] (q0 410 a b) (aS.ret (AV.bq [])) (q1 410 [] [] g t):=by
 have _:=h;exact aj [kl (rG [(3,88)]) 5 hL]
theorem aHe(a b t:List D)(g:Nat)(hC:Cq 265 [bB a,bB b] (int 0))(hp:ak P G 293 [.yl 0,.ptr 1 0,.ptr 2 0] (q0 410 a b) (.ret (.bq [])) (q1 410 [] [] g t))(h:True):Cq 199 [.agg [rl 410],bB a,bB b] (.bq [bB t,int 0]):=by
 have _:=h;exact aj [kc [] hC,kY,kc [] (@ac7 (a) (b)),ko (bC.range [0,1,2,4,5,7,8,9,10,11,12,13,14,15,16,17,18,19,20,21,22,23,24,25,26,27,28,29,30,31,32,33,34] 0 none bF.normal [] []),kc [5,2,3,0,1] hp,ko (bC.fz (some 34) (au t)),kp (bJ t),kq g,kp (show List.take t.length (List.drop 0 (au t))=au t from(dW _)),kp (ay t),kp (bK t)]
theorem aGk(a b t:List D)(e:Int)(hm:Cq 199 [.agg [rl 410],bB a,bB b] (.bq [bB t,int e]))(h:True):Cq 97 [bB a,bB b] (.bq [bB t,int e]):=by
 have _:=h;exact aj [kc [] hm]
theorem aGl(a t:List D)(x y e:Int)(hj:Cq 97 [bB a,bB [(x,y)]] (.bq [bB t,int e]))(h:True):Cq 28 [bB a,eG (x,y)] (.bq [bB t,int e]):=by
 have _:=h;exact aj [kc [] (show Cq 97 [.sl 2 false (au a),.sl 2 true [[int x,int y]]] (.bq [.sl 2 false (au t),int e])from(ak.qp hj ⟨y29,aF.oP _ _ _,yO⟩))]
variable {x y:Int}
theorem aJW(hy:y>0)(A B:List D):dY P G 0 [.agg [int x,int 0,int y]] (q0 410 A B++[.box [int x,int 0,int y]]) true (q1 410 A B 0 [(x,y)]):=by
 have h:=gy0 A B x 0 y;unfold Y0 at h;rw[show fu 0 y=y from yL hy,yL hy]at h;exact h
theorem aCl(h:gQ (x,y)=true):Cq 28 [bB [],eG (x,y)] (.bq [bB [(x,y)],int 0]):=by
 have hy:y>0:=by simp only[gQ,y04,y05]at h;omega
 have hC:=PX [] [(x,y)] zS zS;rw[show fM [] [(x,y)]=0 by unfold fM eZ Cw;simp[y9,jh,h]]at hC;exact aGl [] _ x y 0 (aGk _ _ _ 0 (aHe [] [(x,y)] _ 0 hC (aHd [] [(x,y)] _ 0 (aJT 410 x y [] [(x,y)] (aJW hy) zS zS zS zS rfl _ _ (aHc 410 [] [] 0 [(x,y)] zS zS _ _ ⟨rfl,rfl⟩)) yO) yO) yO) trivial
theorem aEM{p q:Int}(h1:gQ (p,q)=true)(h2:gQ (x,y)=true)(hl:p<x):Cq 28 [bB [(p,q)],eG (x,y)] (.bq [bB [(p,q),(x,y)],int 0]):=by
 have hq:q>0:=by simp only[gQ,y04,y05]at h1;omega
 have hy:y>0:=by simp only[gQ,y04,y05]at h2;omega
 have hC:=PX [(p,q)] [(x,y)] zS zS;rw[show fM [(p,q)] [(x,y)]=0 by unfold fM eZ Cw;simp[y9,jh,h1,h2]]at hC;have g0:∀A B,dY P G 0 [.agg [int p,int q,int 0]] (q0 410 A B++[.box [int p,int q,int 0]]) true (q1 410 A B 0 [(p,q)]):=fun A B=>by
  have h:=gy0 A B p q 0;unfold Y0 at h;rw[show fu q 0=q from yK zO,yL hq]at h;exact h
 have g1:∀A B,dY P G 0 [.agg [int x,int 0,int y]] (q1 410 A B 0 [(p,q)]++[.box [int x,int 0,int y]]) true (q1 410 A B (0+1) ([(p,q)]++[(x,y)])++[.box [int x,int 0,int y]]):=fun A B=>by
  have h:=gy1 A B [(p,q)] 0 x 0 y zS;unfold Y1 at h;rw[show fu 0 y=y from yL hy,yL hy]at h;exact h
 exact aGl [(p,q)] _ x y 0 (aGk _ _ _ 0 (aHe [(p,q)] [(x,y)] _ 1 hC (aHd [(p,q)] [(x,y)] _ 1 (aJU 410 p q x y [(p,q)] [(x,y)] g0 zS zS zS rfl zS zS rfl hl _ _ (aJV 410 x y [] [(x,y)] 0 [(p,q)] zS g1 zS zS zS zS rfl _ _ (aHc 410 [] [] 1 [(p,q),(x,y)] zS zS _ _ ⟨rfl,rfl⟩))) yO) yO) yO) trivial
theorem aEN(h:gQ (x,y)=false):Cq 28 [bB [],eG (x,y)] (.bq [bB [],int 120]):=by
 have e:fM [] [(x,y)]=120:=by unfold fM eZ Cw;simp[y9,jh,h]
 have k:=alq 410 [] [(x,y)] zS zS (by rw[e];decide);rw[e]at k;exact aGl [] _ x y 120 (aGk _ _ _ 120 k yO) trivial
end Go.bH
namespace Go.bV
open Go Go.Am Go.Proofs Go.eY Go.bH
theorem aC8(o:OP)(hn:Okn o)(hk:gQ (o.dv,o.sq)=true->o.kd=1\/o.kd=2):Cq 25 [op o] (int (lM o)):=by
 by_cases hd:gQ (o.dv,o.sq)=true
 .have hw:Cq 28 [aK,eG (o.dv,o.sq)] (.bq [bB [(o.dv,o.sq)],int 0]):=ak.qp (aCl hd) ⟨aF.nil 2,y29,yO⟩;by_cases t1:o.tm<1
  .exact K9 o (by simp only[rM,qW];simp[show ¬o.tm>=1 by omega]) (aoS o _ hw t1 yO)
  by_cases t2:1099511627776<o.tm
  .exact K9 o (by simp only[rM,qW];simp[show ¬o.tm<=1099511627776 by omega]) (aoT o _ hw zO t2 yO)
  have hv:=bH.fG o.cx hn.cx;by_cases dK:Cw o.cx=true
  .have e0:eZ o.cx=0:=by unfold eZ;rw[yL dK]
   rw[e0]at hv;have Xq:=jX o.cx o.dv o.sq hn.cx;cases hcb:cZ o.cx (o.dv,o.sq)with
   |true =>
    rw[hcb]at Xq;exact K9 o (by simp only[rM,qW];simp[hcb]) (jg o _ hw zO zO hv Xq yO)
   |false =>
    rw[hcb]at Xq;have hs:qW o=true:=by simp only[qW];simp[hd,dK,hcb];omega
    rcases hk hd with h|h
    .exact zY o 1 _ rfl h hs zD zD fun v q=>PZ zD kg1 o _ _ v hn.cx hw zO zO hv Xq (aoW { o with kd:=1 } hn.cx) (ac8 o yO) (nO o 1) q
    .exact zY o 2 _ rfl h hs zD zD fun v q=>PZ zD kg2 o _ _ v hn.cx hw zO zO hv Xq (aoX { o with kd:=2 } hn.cx) (ac9 o yO) (nO o 2) q
  .have e0:¬eZ o.cx=0:=by unfold eZ;rw[yK dK];decide
   exact K9 o (by simp only[rM,qW];simp[dK]) (F9 o _ _ hw zO zO hv e0 yO)
 .have hw:Cq 28 [aK,eG (o.dv,o.sq)] (.bq [bB [],int 120]):=ak.qp (aEN (Bool.eq_false_iff.2 hd)) ⟨aF.nil 2,y29,yO⟩;exact K9 o (by simp only[rM,qW];simp[hd]) (aoR o _ 120 hw zD yO)
end Go.bV
namespace Go.Dc
open Go Go.Am Go.Proofs Go.eY Go.bH
open Go.bV (OP op jy Sv Fw Okn)
open Go.yU (CV rR Cy val)
def efP(o:OP):FD->FD:=if o.kd=1 then ef1 o else ef2 o
def aMc(d:DO)(v:List D)(o:OP):DO:=⟨v,d.fs++[efP o (Fx o)]⟩
theorem aGm(l:List FD)(g:Nat)(o:OP)(hl:l.length<=1000000):ak P G 46 [.aU 0 g 0 l.length,int l.length,.sl 7 true [[int o.pk,str o.pn,aK,aK,aK,aK,aK]]] [.aN g 7 false (dA l)] (.ret (.aU 0 (g+1) 0 (l++[Fx o]).length)) [.aN (g+1) 7 false (dA (l++[Fx o]))] :=
 ak.qp (anI l g (Fx o) hl _ _ ⟨rfl,rfl⟩) ⟨y29,y29,Zi o,yO⟩
variable {v:List D}{o:OP}{d:DO}
theorem aCm{F:Nat}(K:Yv F)(f:Fit d o v)(hd:Dim d)(hs:Rc (cO o) d.fs)(hp:rV (cO o) d.fs=d.fs.length)(hM:mgA o F)(ef:FD->FD)(hE:EfC F o ef (Fx o)):ak P G 12 [kI d,op o] [] (.ret (.bq [kI ⟨v,d.fs++[ef (Fx o)]⟩,int 0])) []:=by
 by_cases h0:d.fs=[]
 .rw [h0];obtain⟨e1,h1⟩:=hE [Fx o] 0 0 zS rfl;exact K.z d o v [Fx o] _ e1 f rfl rfl (Zk d o v h0) (amZ o.pk o.pn) (aga o) hM h1
 .obtain ⟨g,hL⟩:=acE d o v f.len (fun x hx=>XY x (hd.len x hx)) h0;have hB:=wX d.fs g o.pk o.pn (cO o) (by have:=f.len;omega) hs fun x=>amY x o.pk o.pn;rw[hp,getElem?_eq_none yM]at hB;have hg:(d.fs++[Fx o])[d.fs.length]'zS=Fx o:=zS
  obtain⟨e1,h1⟩:=hE (d.fs++[Fx o]) (g+1) d.fs.length zS hg;rw[hg,set_append_right _ _ yM,Nat.sub_self]at h1;exact K.c d o v d.fs _ _ g d.fs.length e1 f zS zS f.len (by have:=f.len;simp;omega) hL hB (aGm d.fs g o f.len) hM (by rw[y09];exact h1)
theorem aC9(hd:Dim d)(hn:Okn o)(ho:Fw o)(hc:o.cx.length<=1000000)(hk:o.kd=1\/o.kd=2)(hp:rV (cO o) d.fs=d.fs.length)(hW:ak P G 28 [bB d.sn,eG (o.dv,o.sq)] [] (.ret (.bq [bB v,int 0])) [])(h:EF d o=0) :
 ak P G 12 [kI d,op o] [] (.ret (.bq [kI (aMc d v o),int 0])) []:=by
 have hK:=fG d hd;have hO:=bV.aC8 o hn fun _=>hk;have hV:=bH.jX d.sn o.dv o.sq (by have:=hd.sn;omega);have hA:=bH.acj d.sn o.dv (by have:=hd.sn;omega);have hF:=aee o.cx d hc (by have:=hd.sn;omega);unfold EF at h;by_cases h1:F9 d=0
 .rw [yL h1]at h;rw[h1]at hK;by_cases h2:bV.lM o=0
  .rw [yL h2]at h;rw[h2]at hO;by_cases h3:cZ d.sn (o.dv,o.sq)=true
   .rw [yL h3]at h;exact absurd h zD
   .rw [yK h3]at h;rw[Bool.eq_false_iff.2 h3]at hV;by_cases h4:gI o.dv d.sn=o.sq-1
    .rw [yL h4]at h;rw[h4]at hA;by_cases h5:(o.cx.any fun x=>!cZ d.sn x)=true
     .rw [yL h5]at h;exact absurd h zD
     .rw [Bool.eq_false_iff.2 h5]at hF;have hq:=Ih h2;have hr:=(TQ hq.1).2;have f:Fit d o v:=⟨hr.1,hr.2,hd.fs,hK,hO,hV,hA,hF,hW⟩;have hg:∀{F:Nat}{k:Int},o.kd=k->bT P 3 oK (.int .i64 k) zE (.agg [gP F]) true->mgA o F:=fun e h=>by unfold mgA;rw[e];exact h
      unfold aMc;rcases hk with e|e
      .rw [show efP o=ef1 o by simp[efP,e]];exact aCm am0 f hd (Yz o (TP h1).2) hp (hg e eg1) (ef1 o) (aiU ho yN (Yx o).ce)
      .rw [show efP o=ef2 o by simp[efP,e]];exact aCm am1 f hd (Yz o (TP h1).2) hp (hg e eg2) (ef2 o) (aiW yN (Yx o).ce)
    .rw [yK h4]at h;exact absurd h zD
  .rw [yK h2]at h;exact absurd h h2
 .rw [yK h1]at h;exact absurd h h1
theorem aBh{e:Int}(hd:Dim d)(ho:Fw o)(hc:o.cx.length<=1)(hk:gQ (o.dv,o.sq)=true->o.kd=1\/o.kd=2)(h:EF d o=e)(he:e≠0):ak P G 12 [kI d,op o] [] (.ret (.bq [Rf,int e])) []:=by
 subst h;have hK:=fG d hd;have hO:=bV.aC8 o (axW ho hc) hk;have hV:=bH.jX d.sn o.dv o.sq (by have:=hd.sn;omega);have hA:=bH.acj d.sn o.dv (by have:=hd.sn;omega);have hF:=aee o.cx d zO (by have:=hd.sn;omega);unfold EF at he |-;by_cases h1:F9 d=0
 .rw [yL h1]at he |-;rw[h1]at hK;by_cases h2:bV.lM o=0
  .rw [yL h2]at he |-;rw[h2]at hO;have hq:=(TQ (Ih h2).1).2;by_cases h3:cZ d.sn (o.dv,o.sq)=true
   .rw [yL h3];rw[h3]at hV;exact am8 d o hK hO hV _ rfl
   .rw [yK h3]at he |-;rw[Bool.eq_false_iff.2 h3]at hV;by_cases h4:gI o.dv d.sn=o.sq-1
    .rw [yL h4]at he |-;by_cases h5:(o.cx.any fun x=>!cZ d.sn x)=true
     .rw [yL h5];rw[h5]at hF;exact am9 d o _ hq.1 hq.2 h4 hK hO hV hA hF _ rfl
     .rw [yK h5]at he;exact absurd rfl he
    .rw [yK h4];exact ana d o _ hq.1 hq.2 h4 hK hO hV hA _ rfl
  .rw [yK h2];exact anb d o _ h2 hK hO trivial
 .rw [yK h1];exact anc d o _ h1 hK trivial
abbrev x1:DO:=aMc z0 [(1,1)] iOc
abbrev y1:DO:=aMc x1 [(1,1),(2,1)] erO
def cI:Sq.CE:=⟨1,1,0,0,0,0,1,⟨#[118]⟩,false⟩
theorem aHf:x1=⟨[(1,1)],[⟨1,⟨#[97]⟩,[cI],[],[],[],[]⟩]⟩:=zQ
theorem aHg:y1=⟨[(1,1),(2,1)],[⟨1,⟨#[97]⟩,[cI],[],[],[],[]⟩,⟨1,⟨#[98]⟩,[],[],[],[],[]⟩]⟩:=zQ
theorem aCn(h1:d.sn.length<=2)(h2:d.fs.length<=2)(h:∀f∈d.fs,f.bi=[]/\f.ta=[]/\f.tc=[]/\f.tm=[]/\f.ce.length<=1/\Sq.kQ f.ce):Dim d:=by
 refine⟨zO,zO,fun f hf=>?_,fun f hf=>?_⟩
 .obtain ⟨a,b,c,e,g,_⟩:=h f hf;exact⟨zO,by rw[a];exact yN,by rw[b];exact yN,by rw[c];exact yN,by rw[e];exact yN⟩
 .obtain ⟨_,_,c,e,_,r⟩:=h f hf;rw[show f=⟨f.pk,f.pn,f.ce,f.bi,f.ta,f.tc,f.tm⟩from rfl,c,e];exact⟨r,⟨(fun _ h=>nomatch h),(fun _ h=>nomatch h)⟩,⟨yN,yN⟩⟩
theorem aHh:Sq.kQ [cI]:=fun x hx=>by
 rw[mem_singleton.1 hx];unfold Sq.Cu Sq.fO cI;simp only;omega
theorem aJX:Sq.kQ []:=fun _ h=>by cases h
theorem aCo:Dim z0:=aCn yN yN fun _ h=>by cases h
theorem aFP:Dim b0:=aCn zD yN fun _ h=>by cases h
theorem aBA:Dim x1:=by
 rw[aHf];exact aCn zD zD fun f hf=>by rw[mem_singleton.1 hf];exact⟨rfl,rfl,rfl,rfl,yM,aHh⟩
theorem aHi:Dim y1:=by
 rw[aHg];refine aCn zD zD fun f hf=>?_;rcases yH.1 hf with rfl|hf
 .exact ⟨rfl,rfl,rfl,rfl,yM,aHh⟩
 .rw [mem_singleton.1 hf];exact⟨rfl,rfl,rfl,rfl,yN,aJX⟩
end Go.Dc
namespace Go.yU
open Go Go.Am Go.Proofs Go.eY
theorem aJY(xs:List (List AV))(g n:Nat)(hn:xs.length=n)(hl:n<=1000)(hi:∀x∈xs,AV.aM [] x=true)(hN:ak P G 212 [.aU 0 (g+1) 0 (n+1),u64 0] [.aN (g+1) 1 false (xs++[[.lit (.int .u8 3)]])] (.ret (.aU 0 (g+1+1) 0 (n+1+1))) [.aN (g+1+1) 1 false (xs++[[.lit (.int .u8 3)]]++[[.lit (.int .u8 0)]])])(hL:Rq 3 215 0 (WZ (xs++[[.lit (.int .u8 3)]]++[[.lit (.int .u8 0)]]) (n+1+1) (g+1+1) 0 .empty [] 0) (.exit 0) { aL:=aC 35 [(0,.aU 0 (g+1+1) 0 (n+1+1))],H:=.aN (g+1+1) 1 false (xs++[[.lit (.int .u8 3)]]++[[.lit (.int .u8 0)]])::(kinds 1 2++[.box [int 3,int 0,str .empty,.sl 4 false (iB [])]]) })(h:((∀(x:List AV),x∈xs++[[AV.lit (Value.int IntKind.u8 3)]]++[[AV.lit (Value.int IntKind.u8 0)]]->AV.aM [] x=true)/\((∀(x:List AV),x∈xs++[[AV.lit (Value.int IntKind.u8 3)]]->AV.aM [] x=true)/\True))):ak P G 215 [.aU 0 g 0 n,rR 3 0 y28 [],.ptr 2 0] (ah.aN g 1 false xs::kinds 1 2) (aS.ret (AV.aU 0 (g+1+1) 0 (n+1+1))) (ah.aN (g+1+1) 1 false (xs++[[AV.lit (Value.int IntKind.u8 3)]]++[[AV.lit (Value.int IntKind.u8 0)]])::kinds 1 2):=by
 obtain⟨o1,h⟩:=h;obtain⟨o2,h⟩:=h;have _:=h;exact aj [kq g,kp (show n=length xs from zO),vV ((n+1)*1),kc [0] hN,kp o1,kp o2,kl (rG [(1,1),(3,14),(20,15)]) 4 hL,kp (show ∀(x:List AV),x∈xs++[[AV.lit (Value.int IntKind.u8 3)]]++[[AV.lit (Value.int IntKind.u8 0)]]->AV.aM [] x=true from zO)]
theorem aJZ(b:List UInt8)(g':Nat)(l:List CV)(hs:l.length<=10000000)(hN:ak P G 212 [.aU 0 0 0 1,u64 (l.length % 18446744073709551616)] [.aN 0 1 false [[.lit (.int .u8 3)]]] (.ret (.aU 0 1 0 2)) [.aN 1 1 false [[.lit (.int .u8 3)],[.lit (.int .u8 2)]]])(hL:Rq 2 215 0 (W9 [[.lit (.int .u8 3)],[.lit (.int .u8 2)]] 2 1 0 .empty l 0) (.exit 0) { aL:=aC 35 [(0,.aU 3 g' 0 b.length)],H:=kinds 0 1++[.box [int 3,int 0,str .empty,.sl 4 false (iB l)],.aN g' 1 false (jl b)] })(h:True):ak P G 215 [aK,rR 3 0 y28 l,.ptr 1 0] (kinds 0 1) (aS.ret (Cy b)) (kinds 0 1):=by
 have jw:=lU (fA l);have _:=h;exact aj [Qx [AV.lit (Value.int IntKind.u8 3)],vV 1,kv 13 jw,kc [3] hN,kp (show ∀(x:List AV),x∈[[AV.lit (Value.int IntKind.u8 3)],[AV.lit (Value.int IntKind.u8 2)]]->AV.aM [] x=true from(by exact(Am.dM rfl (Am.dM rfl Am.eU)))),kp (show ∀(x:List AV),x∈[[AV.lit (Value.int IntKind.u8 3)]]->AV.aM [] x=true from(by exact(Am.dM rfl Am.eU))),kv 18 jw,kl (rG [(1,1),(3,14),(20,15)]) 4 hL,ko (bC.Gu (jl b)),kp (show g'=g' from(rfl)),XV b.length (jl b) (by simp only[yD,yE,y11,y10,eu,dw,iC,fA]<;>omega),kp (eu b),kp (iC b)]
theorem aFQ(xs:List (List AV))(g n u:Nat)(hn:n=xs.length)(hu:u<128)(hl:xs.length<=1000)(hw:IntKind.wrap .u8 (u:Int)=(u:Int)):ak P G 212 [.aU 0 g 0 n,u64 u] [.aN g 1 false xs] (.ret (.aU 0 (g+1) 0 (n+1))) [.aN (g+1) 1 false (xs++[[.lit (.int .u8 u)]])]:=by
 subst hn;exact aqm xs xs g g u u zO (abr xs g u hu yO) _ hw (by rw[hw])
theorem aFR(xs:List (List AV))(g n:Nat)(hn:xs.length=n)(hl:n<=900)(hi:∀x∈xs,AV.aM [] x=true):ak P G 215 [.aU 0 g 0 n,rR 3 0 .empty [],.ptr 2 0] (.aN g 1 false xs::kinds 1 2) (.ret (.aU 0 (g+1+1) 0 (n+1+1))) (.aN (g+1+1) 1 false (xs++[[.lit (.int .u8 3)]]++[[.lit (.int .u8 0)]])::kinds 1 2):=by
 have h3:∀x∈xs++[[AV.lit (.int .u8 3)]],AV.aM [] x=true:=fun x hx=>by
  rcases yI.1 hx with h|h
  .exact hi x h
  .rw [mem_singleton.1 h];rfl
 have h4:∀x∈xs++[[AV.lit (.int .u8 3)]]++[[AV.lit (.int .u8 0)]],AV.aM [] x=true:=fun x hx=>by
  rcases yI.1 hx with h|h
  .exact h3 x h
  .rw [mem_singleton.1 h];rfl
 exact aJY xs g n hn zO hi (aFQ _ (g+1) (n+1) 0 (by simp[hn]) zD (by simp;omega) rfl) (ah5 _ _ _ 0 .empty [] 0 yM yO) ⟨h4,h3,yO⟩
abbrev eLV:CV:=.mk 3 0 .empty []
theorem aGn(hv:Cq 111 [rR 3 0 .empty [eLV,eLV]] (int 0)):Cq 37 [rR 3 0 .empty [eLV,eLV]] (.bq [Cy [3,2,3,0,3,0],int 0]):=by
 have id:∀l:List UInt8,∀x∈jl l,AV.aM [] x=true:=dw;have h1:=aFR (jl [3,2]) 1 2 rfl zD (id _);have h2:=aFR (jl [3,2,3,0]) 3 4 rfl zD (id _);have l2:=ah7 (jl [3,2,3,0,3,0]) 6 5 0 .empty [eLV,eLV] 2 yM trivial;have l1:=aby (jl [3,2,3,0]) (jl [3,2,3,0,3,0]) 4 6 3 5 0 .empty [eLV,eLV] 1 0 .empty [] zD zD rfl h2 _ _ ⟨⟨zD,zD⟩,id _,id _,l2⟩;have l0:=aby (jl [3,2]) (jl [3,2,3,0]) 2 4 1 3 0 .empty [eLV,eLV] 0 0 .empty [] zD zD rfl h1 _ _ ⟨⟨zD,zD⟩,id _,id _,l1⟩;exact amk 0 .empty [eLV,eLV] [3,2,3,0,3,0] hv (aJZ [3,2,3,0,3,0] 5 [eLV,eLV] zD (aFQ [[.lit (.int .u8 3)]] 0 1 2 rfl zD zD rfl) l0 yO) trivial
theorem aHj:Cq 82 [Cy []] (.bq [val default,int 10]):=axJ [] (axC 0 yO) trivial
def fqS(l:List CV)(d:Int)(i:Nat):St:={ aL:=aC 74 [(2,int d),(3,bool false),(55,.sl 4 false (iB l)),(56,int l.length),(57,int i)],H:=[] }
abbrev fqE(d:Int):St:={ aL:=aC 74 [(2,int d),(3,bool false)],H:=[] }
theorem aDa(l:List CV)(d:Int)(i:Nat)(hi:¬(i:Int)<(l.length:Int))(h:True):Rq 0 210 0 (fqS l d i) (bF.exit 0) (fqE d):=by
 have _:=h;exact aG [kj ((i:Int)<l.length)] (aB 74 [2,3]) 0
theorem aJ0(l:List CV)(i:Nat)(x:CV)(hl:l.length<=1000)(hi:(i:Int)<(l.length:Int))(hx:l[i]?=some x)(hv:Cq 210 [val x] (.bq [int 1,bool true]))(ex:bF)(s':St)(h:Rq 0 210 0 (sM 74 [(2,int 1),(3,Am.bool false),(55,.sl 4 false (iB l)),(56,int ↑l.length),(57,int ↑(i+1))] []) ex s'):Rq 0 210 0 (fqS l 0 i) ex s':=by
 exact aJ [ki ((i:Int)<l.length),ko (bC.elem (aQ x)),kp (show(0:Int)<=(i:Int)/\(iB l)[Int.toNat (i:Int)]?=some (aQ x)from(by rw[lC];exact bG hx)),kc [] hv,kY,kW 71 (i+1) ↑(i+1)] (aB 74 [2,3,55,56,57]) 0 h
theorem aJ1(l:List CV)(i:Nat)(x:CV)(hl:l.length<=1000)(hi:(i:Int)<(l.length:Int))(hx:l[i]?=some x)(hv:Cq 210 [val x] (.bq [int 1,bool true]))(ex:bF)(s':St)(h:Rq 0 210 0 (sM 74 [(2,int 1),(3,Am.bool false),(55,.sl 4 false (iB l)),(56,int ↑l.length),(57,int ↑(i+1))] []) ex s'):Rq 0 210 0 (fqS l 1 i) ex s':=by
 exact aJ [ki ((i:Int)<l.length),ko (bC.elem (aQ x)),kp (show(0:Int)<=(i:Int)/\(iB l)[Int.toNat (i:Int)]?=some (aQ x)from(by rw[lC];exact bG hx)),kc [] hv,kY,kW 71 (i+1) ↑(i+1)] (aB 74 [2,3,55,56,57]) 0 h
theorem aHk(l:List CV)(d:Int)(hd:0<=d/\d<=10)(hL:Rq 0 210 0 (fqS l 0 0) (.exit 0) (fqE d))(h:True):Cq 210 [rR 3 0 y28 l] (.bq [int (d+1),Am.bool true]):=by
 have bS:=lU (fA l);have _:=h;exact aj [kO,kv 15 bS,kO,kv 24 bS,kO,kY,kY,kR (3:Int) (4:Int),kY,kY,kv 56 bS,kl (rG [(0,2),(4,51),(58,16)]) 0 hL,kW 73 (d+1) (d+1)]
theorem aJ2(V:CV)(d:Int)(hd:¬d>16)(hv:Cq 210 [val V] (.bq [int d,bool true]))(h:True):Cq 111 [val V] (int 0):=by
 have _:=h;exact aj [kc [] hv,kY,kj (d>16)]
theorem aJ3(l:List CV)(i:Nat)(hi:¬(i:Int)<(l.length:Int))(h:True):Rq 0 72 0 (IY l l i) (bF.exit 0) (sM 32 [(6,Am.bool false)] []):=by
 have _:=h;exact aG [kj ((i:Int)<l.length)] (aB 32 [6]) 0
theorem aJ4(l:List CV)(i:Nat)(a:CV)(hl:l.length<=1000000)(hi:(i:Int)<(l.length:Int))(ha:l[i]?=some a)(hv:Cq 20 [val a,val a] (bool true))(ex:bF)(s':St)(h:Rq 0 72 0 (sM 32 [(1,.sl 4 false (iB l)),(2,iL 20),(6,Am.bool false),(15,.sl 4 false (iB l)),(16,int ↑l.length),(17,int ↑(i+1))] []) ex s'):Rq 0 72 0 (IY l l i) ex s':=by
 have fT:(0:Int)<=(i:Int)/\(iB l)[Int.toNat (i:Int)]?=some (aQ a):=(by rw[lC];exact bG ha);exact aJ [ki ((i:Int)<l.length),ko (bC.elem (aQ a)),ko (bC.elem (aQ a)),kp fT,kp fT,kc [] hv,kY,kW 31 (i+1) ↑(i+1)] (aB 32 [1,2,6,15,16,17]) 0 h
theorem aJ5(l:List CV)(hL:Rq 0 72 0 (IY l l 0) (.exit 0) { aL:=aC 32 [(6,bool false)],H:=[] })(h:True):Cq 72 [.sl 4 false (iB l),.sl 4 false (iB l),aqS] (Am.bool true):=by
 have bS:=lU (fA l);have _:=h;exact aj [kv 11 bS,kv 13 bS,kf (show((l.length:Int)!=(l.length:Int))=false from(y27 (qT zO))),kv 16 bS,kl (rG [(0,1),(3,3),(7,8),(18,14)]) 0 hL]
theorem aJ6(k n:Int)(s:yP)(l:List CV)(hv:Cq 72 [.sl 4 false (iB l),.sl 4 false (iB l),aqS] (bool true))(o:Bool)(h:((((ByteArray.toList s==ByteArray.toList s)=true)->(true)=(o))/\(((ByteArray.toList s==ByteArray.toList s)=false)->(false)=(o)))):Cq 20 [rR k n s l,rR k n s l] (Am.bool o):=by
 have bS:(k==k)=true:=(qT zO);have fT:(n==n)=true:=(qT zO);rcases y00 ((ByteArray.toList s==ByteArray.toList s))with c3|c3
 .have h:=h.1 c3;exact aA (aF.aI h) [kt bS,kt fT,kt c3,kc [] hv]
 .have h:=h.2 c3;exact aA (aF.aI h) [kt bS,kt fT,kf c3]
theorem aFS:Cq 210 [rR 3 0 .empty []] (.bq [int 1,bool true]):=aHk [] 0 zO (aDa [] 0 0 zS yO) trivial
theorem aHl:Cq 111 [rR 3 0 .empty [eLV,eLV]] (int 0) :=
 aJ2 (.mk 3 0 .empty [eLV,eLV]) 2 zO (aHk [eLV,eLV] 1 zO (aJ0 [eLV,eLV] 0 eLV zD zD rfl aFS _ _ (aJ1 [eLV,eLV] 1 eLV zD zD rfl aFS _ _ (aDa [eLV,eLV] 1 2 zD yO))) yO) trivial
inductive OkL:CV->Prop
 |mk (k n:Int) (s:yP) (l:List CV) (hl:l.length<=1000000) (h:∀x∈l,OkL x):OkL (.mk k n s l)
theorem aJ7(l:List CV)(hl:l.length<=1000000)(hv:∀x∈l,Cq 20 [val x,val x] (bool true)):∀c i,l.length-i=c->i<=l.length->Rq 0 72 0 (IY l l i) (.exit 0) { aL:=aC 32 [(6,bool false)],H:=[] }:=by
 intro c
 induction c with
 |zero=>exact fun i h1 h2=>aJ3 l i zO trivial
 |succ c ih =>
  intro i h1 h2;have bg:i<l.length:=zO
  exact aJ4 l i l[i] hl zO (yA bg) (hv _ (y03 bg)) _ _ (ih (i+1) zO zO)
theorem aDb{v:CV}(h:OkL v):Cq 20 [val v,val v] (bool true):=by
 revert h
 refine CV.ind (p:=fun v=>OkL v->Cq 20 [val v,val v] (bool true)) (fun k n s l ih dK=>?_) v;cases dK with
 |mk _ _ _ _ hl jH =>
  rw[val_mk];exact aJ6 k n s l (aJ5 l (aJ7 l hl (fun x hx=>ih x hx (jH x hx)) _ 0 rfl yN) yO) _ ⟨fun _=>rfl,fun z=>by rw[beq_self_eq_true]at z;cases z⟩
end Go.yU
namespace Go.Dc
open Go Go.Am Go.Proofs Go.eY Go.bH
open Go.bV (OP op jy Sv Fw Okn)
open Go.yU (CV rR Cy val)
theorem aBi:ak P G 10 [] [] (.ret (Am.bool true)) []:=by
 have ez:EF x1 erO=0:=zQ
 have a1:=aC9 aCo (axW aw8 yN) aw8 yN (.inl rfl) rfl (aCl rfl) ayQ;have a2:=aC9 aBA (axW aw9 yM) aw9 zD (.inr rfl) zQ (aEM rfl rfl zD) ez;have a3:=aBh aCo aw9 yM (fun _=>.inr rfl) (show EF z0 erO=181 by kernel_rfl) zD;have a4:=aBh aBA aw8 yN (fun _=>.inl rfl) (show EF x1 iOc=182 by kernel_rfl) zD;have a5:=aBh aCo axa yN (fun h=>by cases h) (show EF z0 zoO=170 by kernel_rfl) zD;have a6:=aBh aFP axa yN (fun h=>by cases h) (show EF b0 zoO=180 by kernel_rfl) zD;have k1:=fG z0 aCo;rw[show F9 z0=0 by kernel_rfl]at k1;have k2:=fG b0 aFP;rw[show F9 b0=180 by kernel_rfl]at k2;have kc:=Go.yU.aHl;have ec:=Go.yU.aGn kc;have en:=azg z0 [] [] [3,2,3,0,3,0] 0 k1 ((ayC yO).out lVS) ((ayD yO).out lVS) ec trivial;have rd:=apv z0 k1 (azh z0 zS yO) trivial;have ho:=bV.aC8 zoO (axW axa yN) fun h=>by cases h
 rw[show bV.lM zoO=170 by kernel_rfl]at ho;have dc:=Go.yU.aHj;have de:=azi 10 zD [] _ dc trivial;have hs:=Go.yU.aDb (v:=lsV []) (.mk _ _ _ _ yN (fun _ h=>by cases h));have m1:=av3 x1 x1 aBA aBA;rw[y15 rfl]at m1;have m2:=av3 x1 y1 aBA aHi;rw[show decide (x1=y1)=false by kernel_rfl]at m2;refine ayg x1 y1 (x1.fs.getD 0 (Fx iOc)) (Fx iOc) (y1.fs.getD 1 (Fx iOc)) zQ zQ zQ zQ zQ zQ zQ [3,2,3,0,3,0] (ayF 1 1 1 _ _ yO) (I9 a1 at7 (y29)) (I9 a2 (y29) erS) (I9 a3 at7 erS) a4 (I9 a5 at7 zoS) ((PD rd at7).out (aF.U1 lVS (y29))) (PD en at7) (PD ec e0S) (PD de (aF.nil 1)) (I9 a6 baS zoS) (PD ho zoS) (I9 hs (y29) lVS) (PD k1 at7) (PD k2 baS) m1 m2 ⟨fun _=>trivial,fun h=>?_⟩;rw[beq_self_eq_true]at h;cases h
end Go.Dc
namespace Go.Dc
open Go Go.Am Go.Proofs Go.eY Go.bH
open Go.bV (OP op jy)
theorem ayT(f:FD)(h:((((↑(length f.tc):Int)<=40)->(decide ((↑(length f.tm):Int)<=12))=(decide (length f.tc<=40/\length f.tm<=12)))/\((¬(↑(length f.tc):Int)<=40)->(false)=(decide (length f.tc<=40/\length f.tm<=12))))):Cq 115 [Tx.mG (Gb f)] (Am.bool (decide (length f.tc<=40/\length f.tm<=12))):=by
 have bS:Am.aF (int (↑(length (Sq.au (Tx.TE.cells (Gb f)))):Int)) (int ↑(length f.tc)):=(aF.of_eq (by simp only[Go.Sq.ay]));by_cases c1:((↑(length f.tc):Int)<=40)
 .have h:=h.1 c1;exact aA (aF.aI h) [kv 5 bS,kt (qT c1),kv 10 (show Am.aF (int (↑(length (Tx.au (Tx.TE.bQ (Gb f)))):Int)) (int ↑(length f.tm))from(aF.of_eq (by simp only[Go.Tx.ay])))]
 .have h:=h.2 c1;exact aA (aF.aI h) [kv 5 bS,kf (qF c1)]
theorem ayU(f:FD):Cq 115 [Tx.mG (Gb f)] (Am.bool (decide (f.tc.length<=40/\f.tm.length<=12))):=ayT f (by grind)
def smF(f:FD):Bool:=decide (f.ce.length<=40)&&Bd.avy f.bi&&decide (f.ta.length<=20)&&decide (f.tc.length<=40/\f.tm.length<=12)
def fwS(d:DO)(k:Nat):St:={ aL:=aC 49 [(1,.ptr 0 0),(2,Am.bool false),(3,int k)],H:=[.box [bB d.sn,Md d.fs]] }
def fwX(d:DO):St:={ aL:=aC 49 [(1,.ptr 0 0),(2,Am.bool false)],H:=[.box [bB d.sn,Md d.fs]] }
theorem azv(d:DO)(k:Nat)(hk:¬(k:Int)<(d.fs.length:Int))(h:True):Rq 0 39 0 (fwS d k) (bF.exit 0) (fwX d):=by
 have _:=h;exact aG [kN 8 (fE d.fs),kj ((k:Int)<(↑(length d.fs):Int))] (aB 49 [1,2]) 1
theorem azw(d:DO)(k:Nat)(f:FD)(hl:d.fs.length<=9223372036854775807)(hk:(k:Int)<(d.fs.length:Int))(hx:d.fs[k]?=some f)(a b t:Bool)(ha:Cq 113 [Sq.bZ f.ce] (Am.bool a))(hb:Cq 114 [Bd.iK f.bi] (Am.bool b))(ht:Cq 115 [Tx.mG (Gb f)] (Am.bool t))(ex:bF)(s':St)(h:((((a)=true)->((((b)=true)->((((↑(length f.ta):Int)>20)->(bF.ret=ex)/\(sM 49 [(1,.ptr 0 0),(2,Am.bool false)] [.box [bB d.sn,.sl 7 false (dA d.fs)]]=s'))/\((¬(↑(length f.ta):Int)>20)->((((t)=true)->Rq 0 39 0 (sM 49 [(1,.ptr 0 0),(2,Am.bool false),(3,int ↑(k+1))] [.box [bB d.sn,.sl 7 false (dA d.fs)]]) ex s')/\(((t)=false)->(bF.ret=ex)/\(sM 49 [(1,.ptr 0 0),(2,Am.bool false)] [.box [bB d.sn,.sl 7 false (dA d.fs)]]=s'))))))/\(((b)=false)->(bF.ret=ex)/\(sM 49 [(1,.ptr 0 0),(2,Am.bool false)] [.box [bB d.sn,.sl 7 false (dA d.fs)]]=s'))))/\(((a)=false)->(bF.ret=ex)/\(sM 49 [(1,.ptr 0 0),(2,Am.bool false)] [.box [bB d.sn,.sl 7 false (dA d.fs)]]=s')))):Rq 0 39 0 (fwS d k) ex s':=by
 let l1:List fP:=[kN 8 (fE d.fs),ki ((k:Int)<(↑(length d.fs):Int)),ke (jB f) (dA d.fs) k (bG hx),kc [] ha];rcases y00 ((a))with c2|c2
 .have h:=h.1 c2;have Av:(!a)=false:=(y27 (c2));rcases y00 ((b))with c3|c3
  .have h:=h.1 c3;let l2:List fP:=l1++[kf Av,kc [] hb,kf (show(!b)=false from(y27 (c3))),kN 30 (dP f.ta)];by_cases c4:((↑(length f.ta):Int)>20)
   .have h:=h.1 c4;obtain⟨eX,eS⟩:=h;exact bN.to ((show Rq 0 39 0 (fwS d k) bF.ret (sM 49 [(1,.ptr 0 0),(2,Am.bool false)] [.box [.sl 2 false (au d.sn),.sl 7 false (dA d.fs)]])from aG (l2++[kt (qT c4),kO]) (aB 49 [1,2]) 1)) eX (eB.of_eq eS)
   .have h:=h.2 c4;rcases y00 ((t))with c5|c5
    .have h:=h.1 c5;exact aJ (l2++[kf (qF c4),kc [] ht,kf (show(!t)=false from(y27 (c5))),kW 11 (k+1) ↑(k+1)]) (aB 49 [1,2,3]) 1 h
    .have h:=h.2 c5;obtain⟨eX,eS⟩:=h;exact bN.to ((show Rq 0 39 0 (fwS d k) bF.ret (sM 49 [(1,.ptr 0 0),(2,Am.bool false)] [.box [.sl 2 false (au d.sn),.sl 7 false (dA d.fs)]])from aG (l2++[kf (qF c4),kc [] ht,kt (show(!t)=true from(y27 (c5)))]) (aB 49 [1,2]) 1)) eX (eB.of_eq eS)
  .have h:=h.2 c3;obtain⟨eX,eS⟩:=h;exact bN.to ((show Rq 0 39 0 (fwS d k) bF.ret (sM 49 [(1,.ptr 0 0),(2,Am.bool false)] [.box [.sl 2 false (au d.sn),.sl 7 false (dA d.fs)]])from aG (l1++[kf Av,kc [] hb,kt (show(!b)=true from(y27 (c3))),kO,kO]) (aB 49 [1,2]) 1)) eX (eB.of_eq eS)
 .have h:=h.2 c2;obtain⟨eX,eS⟩:=h;exact bN.to ((show Rq 0 39 0 (fwS d k) bF.ret (sM 49 [(1,.ptr 0 0),(2,Am.bool false)] [.box [.sl 2 false (au d.sn),.sl 7 false (dA d.fs)]])from aG (l1++[kt (show(!a)=true from(y27 (c2))),kO,kO,kO]) (aB 49 [1,2]) 1)) eX (eB.of_eq eS)
theorem azx(d:DO)(hL:Rq 0 39 0 (fwS d 0) (.exit 0) (fwX d))(b:Bool)(h:((((↑(length d.sn):Int)<=20)->(decide ((↑(length d.fs):Int)<=6))=(b))/\((¬(↑(length d.sn):Int)<=20)->(false)=(b)))):Cq 39 [kI d] (Am.bool b):=by
 let l1:List fP:=[kl (rG [(0,1),(4,45)]) 1 hL,kN 41 (Go.bH.ay d.sn)];by_cases c1:((↑(length d.sn):Int)<=20)
 .have h:=h.1 c1;exact aA (aF.aI h) (l1++[kt (qT c1),kN 46 (fE d.fs)])
 .have h:=h.2 c1;exact aA (aF.aI h) (l1++[kf (qF c1)])
theorem azy(d:DO)(hL:Rq 0 39 0 (fwS d 0) .ret (fwX d))(h:True):Cq 39 [kI d] (Am.bool false):=by
 have _:=h;exact aj [kl (rG [(0,1),(4,45)]) 1 hL]
def lwS(d:DO)(t:Bool)(l:List OP)(k:Nat):St:={ aL:=aC 19 [(2,.ptr 0 0),(4,Am.bool false),(7,.sl 17 t (l.map jy)),(8,int l.length),(9,int k)],H:=[.box [bB d.sn,Md d.fs]] }
def lwX(d:DO):St:={ aL:=aC 19 [(2,.ptr 0 0),(4,Am.bool false)],H:=[.box [bB d.sn,Md d.fs]] }
theorem azz(d:DO)(t:Bool)(l:List OP)(k:Nat)(hk:¬(k:Int)<(l.length:Int))(h:True):Rq 0 11 0 (lwS d t l k) (bF.exit 0) (lwX d):=by
 have _:=h;exact aG [kj ((k:Int)<l.length)] (aB 19 [2,4]) 1
theorem azA(d:DO)(t:Bool)(l:List OP)(k:Nat)(o:OP)(hl:l.length<=1000000)(hk:(k:Int)<(l.length:Int))(hx:l[k]?=some o)(hF:Cq 38 [op o] (Am.bool true))(ex:bF)(s':St)(h:Rq 0 11 0 (sM 19 [(2,.ptr 0 0),(4,Am.bool false),(7,.sl 17 t (List.map jy l)),(8,int ↑l.length),(9,int ↑(k+1))] [.box [bB d.sn,.sl 7 false (dA d.fs)]]) ex s'):Rq 0 11 0 (lwS d t l k) ex s':=by
 exact aJ [ki ((k:Int)<l.length),ke (jy o) (List.map jy l) k (bG hx),kc [] hF,kY,kW 16 (k+1) ↑(k+1)] (aB 19 [2,4,7,8,9]) 1 h
theorem azB(d:DO)(t:Bool)(l:List OP)(k:Nat)(o:OP)(hl:l.length<=1000000)(hk:(k:Int)<(l.length:Int))(hx:l[k]?=some o)(hF:Cq 38 [op o] (Am.bool false))(h:True):Rq 0 11 0 (lwS d t l k) bF.ret (lwX d):=by
 have _:=h;exact aG [ki ((k:Int)<l.length),ke (jy o) (List.map jy l) k (bG hx),kc [] hF,kO] (aB 19 [2,4]) 1
theorem azC(d:DO)(t:Bool)(l:List OP)(b:Bool)(hF:Cq 39 [kI d] (Am.bool b))(hL:Rq 0 11 0 (lwS d t l 0) (.exit 0) (lwX d))(h:True):Cq 11 [kI d,.sl 17 t (List.map jy l)] (Am.bool b):=by
 have _:=h;exact aj [kv 8 (show Am.aF (int (↑(length (List.map jy l)):Int)) (int ↑l.length)from(aF.of_eq (by simp only[y10]))),kl (rG [(0,2),(3,1),(5,2),(10,9)]) 1 hL,kc [] hF]
theorem azD(d:DO)(t:Bool)(l:List OP)(hL:Rq 0 11 0 (lwS d t l 0) .ret (lwX d))(h:True):Cq 11 [kI d,.sl 17 t (List.map jy l)] (Am.bool false):=by
 have _:=h;exact aj [kv 8 (show Am.aF (int (↑(length (List.map jy l)):Int)) (int ↑l.length)from(aF.of_eq (by simp only[y10]))),kl (rG [(0,2),(3,1),(5,2),(10,9)]) 1 hL]
theorem axN(d:DO)(h:avT d):∀n k,d.fs.length-k=n->k<=d.fs.length->Rq 0 39 0 (fwS d k) (if(d.fs.drop k).all smF=true then .exit 0 else .ret) (fwX d):=by
 intro n
 induction n with
 |zero =>
  intro k h1 h2;rw[y17 zO];exact azv d k zO trivial
 |succ n ih =>
  intro k h1 h2;have bg:k<d.fs.length:=zO
  have nx:=ih (k+1) zO zO;have hb:=(h.rf _ (y03 bg)).lb;have no:smF d.fs[k]=false->(smF d.fs[k]&&(d.fs.drop (k+1)).all smF)=false:=fun e=>by rw[e,Bool.false_and]
  rw[y01 bg,all_cons];refine azw d k d.fs[k] h.lf zO (yA bg) _ _ _ (Sq.up (Sq.alz d.fs[k].ce)) (Bd.axY _ hb) (ayU _) _ _ ⟨fun a=>⟨fun b=>⟨fun c=>?_,fun c=>⟨fun t=>?_,fun t=>?_⟩⟩,fun b=>?_⟩,fun a=>?_⟩
  .rw [no (by simp only[smF,a,b,Bool.true_and];rw[y16 zO];rfl)];exact⟨rfl,rfl⟩
  .rw [show smF d.fs[k]=true by simp only[smF,a,b,t,Bool.true_and,Bool.and_true];exact y15 zO,Bool.true_and];exact nx
  .rw [no (by simp only[smF,t,Bool.and_false])];exact⟨rfl,rfl⟩
  .rw [no (by simp only[smF,b,Bool.and_false,Bool.false_and])];exact⟨rfl,rfl⟩
  .rw [no (by simp only[smF,a,Bool.false_and])];exact⟨rfl,rfl⟩
def smD(d:DO):Bool:=d.fs.all smF&&decide (d.sn.length<=20/\d.fs.length<=6)
theorem ayi(d:DO)(h:avT d):Cq 39 [kI d] (Am.bool (smD d)):=by
 have hL:=axN d h _ 0 rfl yN;rw[drop_zero]at hL;unfold smD;cases e:d.fs.all smF with
 |true =>
  rw[e,yL rfl]at hL;refine azx d hL _ ⟨fun a=>?_,fun a=>?_⟩<;>rw[Bool.true_and]<;>grind
 |false =>
  rw[e,yK zD]at hL;exact azy d hL trivial
theorem axO(d:DO)(t:Bool)(l:List OP)(hl:l.length<=1000000)(hs:∀o∈l,bV.azI o):∀n k,l.length-k=n->k<=l.length->Rq 0 11 0 (lwS d t l k) (if(l.drop k).all bV.atN=true then .exit 0 else .ret) (lwX d):=by
 intro n
 induction n with
 |zero =>
  intro k h1 h2;rw[y17 zO];exact azz d t l k zO trivial
 |succ n ih =>
  intro k h1 h2;have bg:k<l.length:=zO
  have nx:=ih (k+1) zO zO;have hF:=bV.alz l[k] (hs _ (y03 bg));rw[y01 bg,all_cons];cases e:bV.atN l[k]with
  |true =>
   rw[e]at hF;rw[Bool.true_and];exact azA d t l k l[k] hl zO (yA bg) hF _ _ nx
  |false =>
   rw[e]at hF;exact azB d t l k l[k] hl zO (yA bg) hF trivial
theorem ayV(d:DO)(t:Bool)(l:List OP)(hd:avT d)(hl:l.length<=1000000)(hs:∀o∈l,bV.azI o):Cq 11 [kI d,.sl 17 t (l.map jy)] (Am.bool (l.all bV.atN&&smD d)):=by
 have hL:=axO d t l hl hs _ 0 rfl yN;rw[drop_zero]at hL;cases e:l.all bV.atN with
 |true =>
  rw[e,yL rfl]at hL;exact azC d t l _ (ayi d hd) hL trivial
 |false =>
  rw[e,yK zD]at hL;exact azD d t l hL trivial
theorem ayj{d:DO}(h:avT d)(hs:smD d=true):SmD 40 d:=by
 unfold smD smF at hs;simp only[y04,y05,all_eq_true]at hs;obtain⟨h1,h2,h3⟩:=hs;refine⟨⟨zO,fun f hf=>?_⟩,zO,fun f hf=>?_⟩
 .obtain ⟨⟨⟨a,b⟩,c⟩,_⟩:=h1 f hf;unfold Bd.avy at b;simp only[y04,y05]at b;exact⟨a,zO,zO⟩
 .obtain ⟨_,a,b⟩:=h1 f hf;have k:=h.rf f hf;exact⟨⟨by show f.tc.length<=_;omega,by show f.tm.length<=_;omega,⟨fun x hx=>(k.rt x hx).1,k.rm⟩⟩,fun x hx=>(k.rc x hx).1⟩
end Go.Dc
namespace Go.Dc
open Go Go.Am Go.Proofs Go.eY Go.bH
open Go.yU (CV rR val Cy jl iB fA)
theorem aFT(d:DO)(ha:avT d):ak P G 11 [kI d,aK] [] (.ret (Am.bool (smD d))) []:=by
 have h:=ayV d true [] ha zS (fun _ h=>by cases h);exact I9 h (y29) (aF.aed 17)
end Go.Dc
namespace Go.Tx
open Go Go.Am Go.Proofs Go.eY
open Go.Sq (CE)
open Go.yU (CV OkL)
theorem aHm(x:Int):OkL (aMd x):=.mk _ _ _ _ zS (fun x hx=>by cases hx)
theorem aDc{l:List CV}(hl:l.length<=1000000)(h:∀x∈l,OkL x):OkL (azL l):=.mk _ _ _ _ hl h
theorem aFU(s:yP)(ls:List Int)(h:ls.length<=16):OkL (prV s ls):=by
 refine aDc zS fun x hx=>?_;simp only[yH,y12,or_false]at hx;rcases hx with rfl|rfl
 .exact .mk _ _ _ _ zS (fun x hx=>by cases hx)
 .refine aDc (by simp;omega) fun x hx=>?_;obtain⟨y,_,rfl⟩:=yG.1 hx;exact aHm y
theorem aAs(sty:Nat->List Int)(hs:∀k,(sty k).length<=16):∀(l:List CE) k (st:Option (List CV×yP×List Int)),(∀rs s ls,st=some (rs,s,ls)->ls.length<=16/\∀x∈rs,OkL x) ->
 (rn sty l k st).length<=l.length+(match st with|none=>0|some (rs,_,_)=>rs.length+1)/\∀x∈rn sty l k st,OkL x
 |[],k,none,_=>by simp[rn]
 |[],k,some (rs,s,ls),h=>by
  obtain⟨h1,h2⟩:=h rs s ls rfl;refine⟨by simp[rn],fun x hx=>?_⟩;rw[rn]at hx;rcases yI.1 hx with hx|hx
  .exact h2 x hx
  .rw [mem_singleton.1 hx];exact aFU _ _ h1
 |c::l,k,none,h=>by
  rw[rn];split
  .have:=aAs sty hs l (k+1) none h;exact⟨by simp at this |-;omega,this.2⟩
  .have:=aAs sty hs l (k+1) (some ([],c.vl,sty k)) (fun rs s ls e=>by
    simp only[y06,Prod.mk.injEq]at e;obtain⟨rfl,rfl,rfl⟩:=e;exact⟨hs k,fun x hx=>by cases hx⟩)
   exact⟨by simp at this |-;omega,this.2⟩
 |c::l,k,some (rs,s,ls),h=>by
  obtain⟨h1,h2⟩:=h rs s ls rfl;rw[rn];split
  .have:=aAs sty hs l (k+1) (some (rs,s,ls)) h;exact⟨by simp at this |-;omega,this.2⟩
  .split
   .have:=aAs sty hs l (k+1) (some (rs,s++c.vl,ls)) (fun rs' s' ls' e=>by
     simp only[y06,Prod.mk.injEq]at e;obtain⟨rfl,rfl,rfl⟩:=e;exact⟨h1,h2⟩)
    exact⟨by simp at this |-;omega,this.2⟩
   .have:=aAs sty hs l (k+1) (some (rs++[prV s ls],c.vl,sty k)) (fun rs' s' ls' e=>by
     simp only[y06,Prod.mk.injEq]at e;obtain⟨rfl,rfl,rfl⟩:=e;refine⟨hs k,fun x hx=>?_⟩;rcases yI.1 hx with hx|hx
     .exact h2 x hx
     .rw [mem_singleton.1 hx];exact aFU _ _ h1)
    exact⟨by simp at this |-;omega,this.2⟩
theorem aDd(t:TE)(hl:X4 t):OkL (aB8 t):=by
 unfold aB8;split
 .have:=aAs (axt t) (fun k=>aAi t _) t.cells 0 none (fun _ _ _ e=>by cases e);have hc:=hl.cells;exact aDc (by have:=this.1;simp at this;omega) this.2
 .exact .mk _ _ _ _ zS (fun x hx=>by cases hx)
end Go.Tx
namespace Go.Dc
open Go Go.Am Go.Proofs Go.eY Go.bH
open Go.yU (CV rR val Cy iB fA OkL)
theorem aCp(s:yP):OkL (wdV s):=.mk _ _ _ _ yN (fun _ h=>by cases h)
theorem aFV(n:Int):OkL (nmV n):=.mk _ _ _ _ yN (fun _ h=>by cases h)
theorem aDe{l:List CV}(h:l.length<=1000000)(k:∀x∈l,OkL x):OkL (lsV l):=.mk _ _ _ _ h k
theorem aAF{α:Type}{f:α->CV}{l:List α}(h:l.length<=1000000)(k:∀x∈l,OkL (f x)):OkL (lsV (l.map f)):=aDe (by rw[y10];exact h) fun x hx=>by
 obtain⟨y,hy,rfl⟩:=yG.1 hx;exact k y hy
theorem aGo{f:FD}(h:XW f)(ht:Tx.X4 (Gb f)):OkL (shV f):=by
 unfold shV;split
 .exact aAF (by have:=azZ f.ce;have:=h.ce;omega) fun x _=>aCp x
 .split
  .exact aFV _
  .split
   .exact Tx.aDd (Gb f) ht
   .refine aAF (by have:=Bd.aAK f.bi;have:=h.bi;omega) fun x _=>aDe (by show 2<=1000000;omega) fun y hy=>?_;simp only[yH,y12,or_false]at hy;rcases hy with rfl|rfl
    .exact aCp x
    .refine aAF ?_ fun b _=>aCp b.vl;have e1:=(Bd.aAr x f.bi).length_eq;rw[Bd.aAg]at e1;have:=length_filter_le (fun b=>decide (b.ky=x)) f.bi;have e:(Bd.fil x f.bi).length<=f.bi.length:=by unfold Bd.fil;exact length_filter_le _ _
     have:=h.bi;omega
variable {d:DO}
theorem aHn(h:Dim d):OkL (Vo d):=by
 refine aAF h.fs fun f hf=>aDe (by show 3<=1000000;omega) fun y hy=>?_;simp only[yH,y12,or_false]at hy;rcases hy with rfl|rfl|rfl
 .exact aFV _
 .exact aCp _
 .exact aGo (h.len f hf) (h.iV f hf).lt
theorem aJ8(f g:FD)(hf:XW f)(hg:XW g):ak P G 30 [.agg (jB f),.agg (jB g)] [] (.ret (Am.bool (decide (f=g)))) []:=by
 have l1:=hf.ce;have l2:=hg.ce;have l3:=hf.tc;have l4:=hg.tc;have l5:=hf.bi;have l6:=hg.bi;have l7:=hf.ta;have l8:=hg.ta;have l9:=hf.tm;have l0:=hg.tm;have e:decide (f=g)=((f.pk==g.pk&&f.pn==g.pn)&&(decide (f.ce=g.ce)&&(decide (f.bi=g.bi)&&(decide (f.ta=g.ta)&&decide (Gb f=Gb g))))):=by
  cases f;cases g;rw[Bool.eq_iff_iff];simp[FD.mk.injEq,Sq.tN,Gb];grind
 refine aJ9 f g _ _ _ _ (Sq.up (Sq.C9 f.ce g.ce zO zO)) (Bd.C9 f.bi g.bi zO zO) (aKa f.ta g.ta zO zO (decide (f.ta=g.ta)) ?_) (Tx.zG (Gb f) (Gb g) (by show f.tc.length<=_;omega) (by show g.tc.length<=_;omega) (by show f.tm.length<=_;omega) (by show g.tm.length<=_;omega)) _ ?_
 .by_cases h:f.ta=g.ta
  .rw [h];simp
  .simp [h]
 rw[e];refine⟨fun a=>?_,fun a=>by rw[a];rfl⟩;rw[a,Bool.true_and];refine⟨fun b=>?_,fun b=>by rw[b];rfl⟩;rw[b,Bool.true_and];refine⟨fun b=>?_,fun b=>by rw[b];rfl⟩;rw[b,Bool.true_and];exact⟨fun b=>by rw[b];rfl,fun b=>by rw[b];rfl⟩
theorem aEP(a b:DO)(ha:Dim a)(hb:Dim b)(hl:a.fs.length=b.fs.length):∀n k,a.fs.length-k=n->k<=a.fs.length->bN P G none 0 (vg P 14 0) (tdS a b k) (if a.fs.drop k=b.fs.drop k then .exit 0 else .ret) { aL:=aC 40 [(4,Am.bool false)],H:=tdB a b }:=by
 have hv:=ha.fs;intro n
 induction n with
 |zero =>
  intro k hn hk;rw[yL (by rw[y17 zO,y17 zO])];exact aKb a b k zO trivial
 |succ n ih =>
  intro k hn hk;have h1:k<a.fs.length:=zO
  have h2:k<b.fs.length:=zO
  have hx:=yA h1;have hy:=yA h2;have e:=Tx.awn h1 h2;have hc:=aJ8 a.fs[k] b.fs[k] (ha.len _ (y03 h1)) (hb.len _ (y03 h2));by_cases he:a.fs[k]=b.fs[k]
  .have nx:=ih (k+1) zO zO;rw[y15 he]at hc;simp only[e,he,true_and];exact aKc a b k _ _ zO zO hx hy hc _ _ nx
  .rw [y16 he]at hc;rw[yK (by rw[e];exact fun h=>he h.1)];exact aKd a b k _ _ zO zO hx hy hc trivial
theorem aDf(a b:DO)(ha:Dim a)(hb:Dim b):ak P G 14 [kI a,kI b] [] (.ret (Am.bool (decide (a=b)))) []:=by
 have hs:=bH.zG a.sn b.sn (by have:=ha.sn;omega);have e:(a=b)=(a.sn=b.sn/\a.fs=b.fs):=by
  cases a;cases b;rw[DO.mk.injEq]
 by_cases h:a.sn=b.sn
 .rw [y15 h]at hs;simp only[e,h,true_and];by_cases hl:a.fs.length=b.fs.length
  .have h9:=aEP a b ha hb hl _ 0 rfl yN;rw[drop_zero,drop_zero]at h9;by_cases q:a.fs=b.fs
   .rw [yL q]at h9;rw[y15 q];exact aKe _ _ zO hs h9 trivial
   .rw [yK q]at h9;rw[y16 q];exact aKf _ _ zO hs h9 trivial
  .rw [y16 fun q=>hl (by rw[q])];exact aKg _ _ zO hs trivial
 .rw [y16 h]at hs;rw[y16 (by rw[e];exact fun q=>h q.1)];exact aKh a b hs trivial
theorem aHo(h:smD d=true):∀f∈d.fs,f.bi.length<=20:=by
 unfold smD smF at h;simp only[y04,y05,all_eq_true]at h;intro f hf;obtain⟨⟨⟨a,b⟩,c⟩,e⟩:=h.1 f hf;unfold Bd.avy at b;simp only[y04,y05]at b;omega
theorem vz:aF (.bq [.agg azK,int 180]) (.bq [val (.mk 0 0 .empty []),int 180]):=aF.U1 (aF.qo ⟨y29,y29,y29,aF.nil 4,yO⟩) (y29)
theorem aHp{a b:DO}(ha:avT a)(hb:avT b):ak P G 4 [kI a,kI b] [] (.ret (Am.bool true)) []:=by
 have f1:=aFT a ha;have f2:=aFT b hb;cases e1:smD a with
 |false=>rw[e1]at f1;exact aKi a b aBi f1 trivial
 |true =>
 rw[e1]at f1;cases e2:smD b with
 |false=>rw[e2]at f2;exact aKj a b aBi f1 f2 trivial
 |true =>
 rw[e2]at f2;have da:=((ayj ha e1).dim zO).1;have db:=((ayj hb e2).dim zO).1;have hR:=aCF da fun f hf=>⟨aHo e1 f hf,fun x hx=>((ha.rf f hf).rb x hx).2.1⟩;have hQ:=aB6 da;have hC:=fG a da;have hD:=aA7 a da;have hA:=av3 a b da db;have hB:=aDf a b da db;have hE:=av3 a a da da;rw[y15 rfl]at hE;by_cases h:F9 a=0
 .rw [yL h]at hR hQ;exact aHq a b (Vo a) 0 _ _ aBi f1 f2 hR hQ hC hD hA hB hE (yU.aDb (aHn da)) ⟨fun _=>rfl,fun z=>by rw[beq_self_eq_true]at z;cases z⟩
 .rw [yK h]at hR hQ;exact aHq a b (.mk 0 0 .empty []) 180 _ _ aBi f1 f2 (hR.out vz) (hQ.out vz) hC hD hA hB hE (yU.aDb (.mk _ _ _ _ yN (fun _ h=>by cases h))) ⟨fun _=>rfl,fun z=>by rw[beq_self_eq_true]at z;cases z⟩
end Go.Dc
