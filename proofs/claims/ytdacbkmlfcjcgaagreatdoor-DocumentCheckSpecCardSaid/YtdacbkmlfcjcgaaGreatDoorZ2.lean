import Derived.Test.YtdacbkmlfcjcgaaGreatDoorZ1
set_option maxRecDepth 100000
set_option linter.unusedSimpArgs false
set_option linter.unusedVariables false
open List
noncomputable section
namespace Go.Am
open Go
def Bf(G:Nat->Option (List AV))(aL:List AV):Operand->AV
 |.tmp t=>aL.getD t .aP
 |.const v=>.lit v
 |.global g=>match G g with
  |some cs=>.iG cs
  |none=>.lit (.pointer (some ⟨g,0,none⟩))
 |.func f=>.lit (.func (.func f) #[] #[])
def mR(H:List ah)(x:AV)(z:List (List AV)):Option (AV×List ah×List Prop) :=
 match x with
 |.aU id g off len=>match H[id]? with
  |some (.aN g' sz _ ys)=>some (.sl sz false z,H.set id (.aN g' sz true ys),[g'=g,(ys.drop off).take len=z,z.length=len,∀c∈z,c.all AV.fJ=true])
  |_=>none
 |.mp id=>match H[id]? with
  |some (.map es)=>some (.md true es,H.set id .aH,[∀e∈es,e.2.fJ=true])
  |_=>none
 |_=>none
def dV:Op->Bool
 |.buildSlice ..|.convert .. => true
 |_=>false
def jT:Op->Bool
 |.defer _=>true
 |_=>false
def fD(P:Program)(G:Nat->Option (List AV))(H:List ah)(ev:Operand->AV)(o:Oper)(bf:List bC):Option (Kind×aS×List ah×List bC×List Prop) :=
 match o.op,bf with
 |.move x,.Gu z::aT=>(mR H (ev x) z).map fun(y,H',ps)=>(.lK,.ret y,H',aT,ps)
 |.assign x,.Gu z::aT=>(mR H (ev x) z).map fun(y,H',ps)=>(.lK,.ret y,H',aT,ps)
 |.panic x,_=>match ev x with
  |.qX t y=>some (.free,.Ay (.qX t y),H,bf,[])
  |.lit (.iface t v)=>some (.free,.Ay (.lit (.iface t v)),H,bf,[])
  |_=>none
 |_,_=>if jT o.op=true then none else match gL P ev o bf with
  |some (x,aT,ps)=>some (.free,.ret x,H,aT,ps)
  |none=>match dz P H ev o bf with
   |some (x,aT,ps)=>some (.read,.ret x,H,aT,ps)
   |none=>match (if dV o.op=true then bU P [] ev o bf else none)with
    |some (x,[],aT,ps)=>some (.free,.ret x,H,aT,ps)
    |_=>match bU P H ev o bf with
     |some (x,H',aT,ps)=>some (.lK,.ret x,H',aT,ps)
     |none=>dJ P G H ev o bf
variable {H' H:List ah}{k:Kind}
variable {ps:List Prop}{bf aT:List bC}
section
variable {P:Program} {G:Nat->Option (List AV)} {r:Option Nat} {V:View} {a:Act} {o:Oper} {ev:Operand->AV}
theorem sG{x y}{z}{H'}{ps}{v}(h:mR V.H x z=some (y,H',ps))(dG:gZ ps)(hG:aD G V)(hr:dI V x v) :
 ∃V':View,V'.w=V.w/\V'.H=H'/\Step V V'/\aD G V'/\dI V' y v:=by
 unfold mR at h;split at h
 .rename_i id g off len;split at h
  .rename_i g' sz fz ys hH
   .cases h;obtain⟨hg,h1,h2,h3,_⟩:=dG;subst hg;have bg:=(yC.1 hH).1;let V':View:={ w:=V.w,M:=fun b=>V.M b/\b≠V.ρ id,H:=V.H.set id (.aN g' sz true ys),ρ:=V.ρ };have Hs:V'.H[id]?=some (.aN g' sz true ys):=by show(V.H.set id _)[id]?=_;rw[getElem?_set_self bg]
    have Ho:∀i,i≠id->V'.H[i]?=V.H[i]? := fun i hi=>by show(V.H.set id _)[i]?=_;rw[getElem?_set_ne (fun e=>hi e.symm)]
    have hl:V'.H.length=V.H.length:=by show(V.H.set id _).length=_;simp
    have fB:Step V V':={
     os:=rfl
     tape:=rfl
     output:=rfl
     size:=yM
     drawn:=yM
     keep:=fun b _ hn=>⟨rfl,⟨fun h=>h.1,fun h=>⟨h,fun e=>hn id bg e.symm⟩⟩⟩
     data:=fun b _ hn=>⟨rfl,fun h=>hn h.1⟩
     bL:=Nat.le_of_eq hl.symm
     fresh:=fun i hi=>.inl ⟨by rw[hl]at hi;exact hi,rfl⟩
     eP:=fun i hi=>by
      by_cases e:i=id
      .grind [dL]
      .exact .refl hi (Ho i e) rfl rfl }
    refine⟨V',rfl,rfl,fB,?_,.pure _ _ (OT (V':=V') hG rfl (fun b h=>h.1) hH (fun h=>h.2 rfl) hr h1 h2 h3)⟩;exact{
     lt:=fun i hi=>by rw[hl]at hi;exact hG.lt i hi
     eP:=fun i ob ho=>by
      by_cases e:i=id
      .subst e;rw[Hs]at ho;cases ho;obtain⟨t,c,o1,o2,o3,o4⟩:=hG.eP i _ hH;exact⟨t,c,o1,o2,o3,fun k j hk hj=>let ⟨u,hu,h1,hr⟩:=o4 k j hk hj;⟨u,hu,h1,hr.step fB⟩⟩
      .rw [Ho i e]at ho;exact(hG.eP i ob ho).step fB rfl
     inj:=fun i j hi hj e=>by rw[hl]at hi hj;exact hG.inj i j hi hj e
     gW:=fun i ob ho bA=>by
      by_cases e:i=id
      .subst e;rw[Hs]at ho;cases ho;cases bA
      .rw [Ho i e]at ho;exact⟨hG.gW i ob ho bA,fun he=>e (hG.inj i id (yC.1 ho).1 bg he)⟩
     ng:=hG.gD fB }
  .cases h
 .rename_i id;split at h
  .rename_i es hH;cases h;obtain⟨hpu,_⟩:=dG;have bg:=(yC.1 hH).1;obtain⟨_,rfl⟩:=vD hr;obtain⟨ents,clock,hb,hk,hd,hbo,lG,Ii⟩:=hG.eP id _ hH;let V':View:={ w:=V.w,M:=fun b=>V.M b/\b≠V.ρ id,H:=V.H.set id .aH,ρ:=V.ρ };have Hs:V'.H[id]?=some .aH:=by show(V.H.set id _)[id]?=_;rw[getElem?_set_self bg]
   have Ho:∀i,i≠id->V'.H[i]?=V.H[i]? := fun i hi=>by show(V.H.set id _)[i]?=_;rw[getElem?_set_ne (fun e=>hi e.symm)]
   have hl:V'.H.length=V.H.length:=by show(V.H.set id _).length=_;simp
   have fB:Step V V':={
    os:=rfl
    tape:=rfl
    output:=rfl
    size:=yM
    drawn:=yM
    keep:=fun b _ hn=>⟨rfl,⟨fun h=>h.1,fun h=>⟨h,fun e=>hn id bg e.symm⟩⟩⟩
    data:=fun b _ hn=>⟨rfl,fun h=>hn h.1⟩
    bL:=Nat.le_of_eq hl.symm
    fresh:=fun i hi=>.inl ⟨by rw[hl]at hi;exact hi,rfl⟩
    eP:=fun i hi=>by
     by_cases e:i=id
     .subst e;unfold dL;rw[hH,Hs]
     .exact .refl hi (Ho i e) rfl rfl }
   refine⟨V',rfl,rfl,fB,?_,.pure _ _ (.md true es es (.refl _) (V.ρ id) ents clock (fun h=>h.2 rfl) hb hk hd (fun j hj=>?_) fun _=>⟨by rw[hbo];exact nodup_range,fun x hx=>?_⟩)⟩
   .exact {
     lt:=fun i hi=>by rw[hl]at hi;exact hG.lt i hi
     eP:=fun i ob ho=>by
      by_cases e:i=id
      .subst e;rw[Hs]at ho;cases ho;trivial
      .rw [Ho i e]at ho;exact(hG.eP i ob ho).step fB rfl
     inj:=fun i j hi hj e=>by rw[hl]at hi hj;exact hG.inj i j hi hj e
     gW:=fun i ob ho bA=>by
      by_cases e:i=id
      .subst e;rw[Hs]at ho;cases ho;cases bA
      .rw [Ho i e]at ho;exact⟨hG.gW i ob ho bA,fun he=>e (hG.inj i id (yC.1 ho).1 bg he)⟩
     ng:=hG.gD fB }
   .have hm:∃e∈es,e.2=uq es j:=by
     unfold uq;rw[yB,yA hj];exact⟨es[j],y03 hj,rfl⟩
    obtain⟨e,he,hee⟩:=hm;exact(kE (by rw[<- hee];exact hpu e he) (Ii j hj)).Da fB
   .have:x.born∈ents.map (·.born):=yG.2 ⟨x,hx,rfl⟩;rw[hbo]at this;rw[lG];exact mem_range.1 this
  .cases h
 .cases h
def vZ(H:List ah):List AV->List (List AV)->Option (List AV×List ah×List Prop)
 |[],_=>none
 |x::xs,z=>match mR H x z with
  |some (y,H',ps)=>some (y::xs,H',ps)
  |none=>match vZ H xs z with
   |some (ys,H',ps)=>some (x::ys,H',ps)
   |none=>none
def Ij(H:List ah)(x:AV)(z:List (List AV)):Option (AV×List ah×List Prop):=match x with
 |.agg cs=>match vZ H cs z with
  |some (ys,H',ps)=>some (.agg ys,H',ps)
  |none=>none
 |x=>mR H x z
theorem nY{z}:∀{xs ys}{H'}{ps}{vs},vZ V.H xs z=some (ys,H',ps)->gZ ps->aD G V->bR V xs vs ->
 ∃V':View,V'.w=V.w/\V'.H=H'/\Step V V'/\aD G V'/\bR V' ys vs
 |[],_,_,_,_,h,_,_,_=>by cases h
 |x::xs,ys,H',ps,vs,h,dG,hG,hr=>by
  match vs,hr with
  |[],hr=>have:=hr.1;grind
  |v::vs,hr =>
   unfold vZ at h;split at h
   .rename_i y H1 qs hf;cases h;obtain⟨V',k1,k2,k3,k4,k5⟩:=sG hf dG hG hr.head;exact⟨V',k1,k2,k3,k4,.cons k5 (hr.tail.step k3)⟩
   .split at h
    .rename_i zs H1 qs hf;cases h;obtain⟨V',k1,k2,k3,k4,k5⟩:=nY hf dG hG hr.tail;exact⟨V',k1,k2,k3,k4,.cons (hr.head.step k3) k5⟩
    .cases h
theorem Ri{x y}{z}{H'}{ps}{v}(h:Ij V.H x z=some (y,H',ps))(dG:gZ ps)(hG:aD G V)(hr:dI V x v) :
 ∃V':View,V'.w=V.w/\V'.H=H'/\Step V V'/\aD G V'/\dI V' y v:=by
 unfold Ij at h;split at h
 .split at h
  .rename_i cs ys H1 qs hf;cases h;obtain⟨vs,rfl,NU⟩:=uO hr;obtain⟨V',k1,k2,k3,k4,k5⟩:=nY hf dG hG NU;exact⟨V',k1,k2,k3,k4,.agg _ _ k5.1 k5.2⟩
  .cases h
 .exact sG h dG hG hr
theorem YF{x:AV}(hb:dV o.op=true)(h:bU P [] ev o bf=some (x,[],aT,ps))(H:List ah):bU P H ev o bf=some (x,H,aT,ps):=by
 unfold bU at h |-;cases bA:o.op<;>simp only[bA,dV]at hb h|-<;> first|(cases hb;done)|skip
 .split at h<;>first|(cases h;done)|skip
  split at h<;>first|(cases h;done)|skip
  split at h<;>first|(cases h;done)|skip
  split at h<;>first|(cases h;done)|skip
  split at h<;>first|(cases h;done)|skip
  split at h<;>first|(cases h;done)|skip
  split at h
  .simp at h
  .split at h
   .simp_all
   .cases h
 .split at h<;>first|(cases h;done)|skip
  split at h<;>first|(cases h;done)|skip
  rename_i he;cases h;rw[yL he]
theorem sW{out:aS}(h:fD P G H ev o bf=some (k,out,H',aT,ps))(dG:gZ ps)(hG:aD G V)(hr:∀y∈o.op.operands,dI V (ev y) (a.eval y))(hH:V.H=H\/k = .free):BN P G r V a o out (if k = .free then V.H else H')/\(k≠.lK->H'=H):=by
 have Gu:∀(x:Operand)(z:List (List AV))(cK:List bC),x∈o.op.operands->(∀c,o.op≠.defer c)->(execOp a.eval o).run P V.w = .ok (.value (a.eval x)) V.w ->
  (mR H (ev x) z).map (fun(y,H',ps)=>(Kind.lK,aS.ret y,H',cK,ps))=some (k,out,H',aT,ps)->BN P G r V a o out (if k = .free then V.H else H')/\(k≠.lK->H'=H):=by
  intro x z cK hx hd jJ h;cases hf:mR H (ev x) z with
  |none=>simp[hf]at h
  |some q =>
   obtain⟨y,H1,qs⟩:=q;simp only[hf,Option.map_some,y06,Prod.mk.injEq]at h;obtain⟨rfl,rfl,rfl,rfl,rfl⟩:=h;rcases hH with rfl|hH
   .obtain ⟨V',k1,k2,k3,k4,k5⟩:=sG hf dG hG (hr x hx);rw[yK zS,<- k2];exact⟨BN.Db hd (by rw[k1];exact jJ) (.inl rfl) k3 k4 k5,fun h=>absurd rfl h⟩
   .cases hH
 unfold fD at h;split at h
 .rename_i x z cK bA;exact Gu x z cK (by simp[bA,Op.operands]) (fun c hc=>by rw[bA]at hc;cases hc) (by rw[execOp,bA];rfl) h
 .rename_i x z cK bA;exact Gu x z cK (by simp[bA,Op.operands]) (fun c hc=>by rw[bA]at hc;cases hc) (by rw[execOp,bA];rfl) h
 .rename_i _ _ x bA;have hrx:=hr x (by simp[bA,Op.operands]);have key:∀{t:TypeId}{v:Value}{y:AV},a.eval x = .iface t v->dI V y (.iface t v)->BN P G r V a o (.Ay y) V.H:=by
   intro t v y hv hy next Q n1 n2
   refine⟨fun _ _=>trivial,?_⟩;have jJ:(execOp a.eval o).run P V.w = .halt (.panic (.iface t v)) V.w:=by
    rw[execOp,bA];simp only[hv];rfl
   rw[Oper.semAt_eq _ _ _ (fun c hc=>by rw[bA]at hc;cases hc),jJ];exact n2 V (.iface t v) y rfl (Step.refl V) hG rfl hy
  split at h
  .rename_i t y he;cases h;rw[he]at hrx;obtain⟨v,hv,hy⟩:=Df hrx;exact⟨by rw[yL rfl];exact key hv (.qX t y v hy),fun _=>rfl⟩
  .rename_i t v he;cases h;rw[he]at hrx;have hv:=bW hrx;exact⟨by rw[yL rfl];exact key hv (.pure _ _ (.lit _)),fun _=>rfl⟩
  .cases h
 .split at h
  .cases h
  .rename_i wO;have hd:∀c,o.op≠.defer c:=fun c hc=>wO (by rw[hc];rfl);have ident:∀{x:AV}{v:Value},(execOp a.eval o).run P V.w = .ok (.value v) V.w->dI V x v->BN P G r V a o (.ret x) V.H:=fun h1 h2=>BN.Db hd h1 (.inl rfl) (Step.refl V) hG h2;split at h
   .rename_i x cK qs hf;cases h;obtain⟨v,h1,h2⟩:=Rj hf dG hr;exact⟨by rw[yL rfl];exact ident h1 h2,fun _=>rfl⟩
   .split at h
    .rename_i x cK qs hf;cases h;rcases hH with rfl|hH
     .obtain ⟨v,h1,h2⟩:=Rk hf dG hG hr;exact⟨by rw[yK zS];exact ident h1 h2,fun _=>rfl⟩
     .cases hH
    .split at h
     .rename_i x cK qs hf;cases h;split at hf
      .rename_i hb;obtain⟨V',n,v,k1,k2,k3,k4,k5,k6⟩:=KH (YF hb hf V.H) dG hG hr;rw[yL rfl,<- k3];exact⟨BN.Db hd k1 k2 k4 k5 k6,fun _=>rfl⟩
      .cases hf
     .split at h
      .rename_i x H1 cK qs hf;cases h;rcases hH with rfl|hH
       .obtain ⟨V',n,v,k1,k2,k3,k4,k5,k6⟩:=KH hf dG hG hr;rw[yK zS,<- k3];exact⟨BN.Db hd k1 k2 k4 k5 k6,fun h=>absurd rfl h⟩
       .cases hH
      .exact Rl h dG hG hr hH
end
def gX(aL:List AV)(d:Option Tmp)(x:AV):List AV:=match d with
 |some d=>aL.set d x
 |none=>aL
def ME(ops:Array Oper)(aL:List AV)(o:Oper):Option Bool:=match o.guard with
 |none=>some true
 |some (j,w)=>match (ops[j]?).bind (·.dst)with
  |some d=>match aL.getD d .aP with
   |.lit (.bool b)=>some (b==w)
   |.lit (.tuple _)=>some false
   |_=>none
  |none=>none
def iO(ops:Array Oper)(i:Nat):Bool:=ops.any fun o=>match o.guard with
 |some (j,_)=>j==i
 |none=>false
def Ik:ah->ah->Prop
 |.box xs,.box ys=>ys.length=xs.length/\∀j,j<xs.length->aF (xs.getD j .aP) (ys.getD j .aP)
 |.aN g sz fz xs,.aN g' sz' fz' ys=>g'=g/\sz'=sz/\fz'=fz/\ys.length=xs.length/\(∀y∈ys,y.length=sz)/\∀k j,k<xs.length->j<sz->aF ((xs.getD k []).getD j .aP) ((ys.getD k []).getD j .aP)
 |_,.aH=>True
 |_,_=>False
def HSub:List ah->List ah->Prop
 |[],[]=>True
 |o::os,p::ps=>(p=o\/Ik o p)/\HSub os ps
 |_,_=>False
theorem HSub.len:∀{H K},HSub H K->K.length=H.length
 |[],[],_=>rfl
 |_::_,_::_,h=>by simp[HSub.len h.2]
theorem HSub.get:∀{H K},HSub H K->∀{i:Nat}{p},K[i]?=some p->∃o,H[i]?=some o/\(p=o\/Ik o p)
 |[],[],_,i,p,h=>by simp at h
 |o::os,q::qs,h,0,p,hp=>by simp at hp;subst hp;exact⟨o,rfl,h.1⟩
 |o::os,q::qs,h,i+1,p,hp=>by simpa using HSub.get h.2 hp
variable {K:List ah}{V:View}
theorem wh{G}(hG:aD G V)(h:HSub V.H K):∃V':View,V'.w=V.w/\V'.H=K/\V'.ρ=V.ρ/\Step V V'/\aD G V':=by
 let V':View:={ w:=V.w,M:=V.M,H:=K,ρ:=V.ρ };have hl:=h.len;have fB:Step V V':={
  os:=rfl
  tape:=rfl
  output:=rfl
  size:=yM
  drawn:=yM
  keep:=fun b _ _=>⟨rfl,Iff.rfl⟩
  data:=fun b _ hn=>⟨rfl,hn⟩
  bL:=Nat.le_of_eq hl.symm
  fresh:=fun i hi=>.inl ⟨by have hi:i<K.length:=hi;omega,rfl⟩
  eP:=fun i hi=>by
   obtain⟨p,hp⟩:∃p,K[i]?=some p:=⟨_,yA zO⟩;obtain⟨o,ho,he⟩:=h.get hp;have hp':V'.H[i]?=some p:=hp;rcases he with rfl|he
   .exact .refl hi (hp'.trans ho.symm) rfl rfl
   .unfold dL;rw[ho,hp'];cases o<;>cases p<;>simp only[Ik]at he<;>first
     |exact he.elim
     |trivial
     |rfl
     |exact .inr ⟨he.1.symm,he.2.1.symm,rfl,fun c t fr hc=>⟨c,hc,rfl⟩⟩ }
 refine⟨V',rfl,rfl,rfl,fB,?_⟩;exact{
  lt:=fun i hi=>hG.lt i (by have hi:i<K.length:=hi;omega)
  eP:=fun i p hp=>by
   obtain⟨o,ho,he⟩:=h.get hp;have hr:=(hG.eP i o ho).step fB rfl;rcases he with rfl|he
   .exact hr
   .cases o<;>cases p<;>simp only[Ik]at he<;>first|exact he.elim|trivial|skip
    .obtain ⟨t,vs,h1,h2⟩:=hr;exact⟨t,vs,h1,h2.1.trans he.1.symm,fun j hj=>he.2 j zO V' _ (h2.2 j zO)⟩
    .obtain ⟨rfl,rfl,rfl,bL,iZ,ane⟩:=he;obtain⟨t,c,h1,h2,h3,h4⟩:=hr;exact⟨t,c,h1,by rw[bL];exact h2,iZ,fun k j hk hj=>by
      obtain⟨v,k1,k2,k3⟩:=h4 k j zO hj;exact⟨v,k1,k2,ane k j zO hj V' _ k3⟩⟩
  inj:=fun i j hi hj e=>hG.inj i j (by have hi:i<K.length:=hi;omega) (by have hj:j<K.length:=hj;omega) e
  gW:=fun i p hp bA=>by
   obtain⟨o,ho,he⟩:=h.get hp;rcases he with rfl|he
   .exact hG.gW i _ ho bA
   .refine hG.gW i o ho ?_;cases o<;>cases p<;>simp only[Ik]at he<;>first|exact he.elim|rfl|(cases bA;done)|skip
    .obtain ⟨rfl,rfl,rfl,_⟩:=he;exact bA
  ng:=hG.ng }
def sZ(d:Option Tmp):Option (Kind×aS×List ah×List bC×List Prop)->Option (Kind×aS×List ah×List bC×List Prop)
 |some (.read,.ret x,H',.fz d' z::aT,ps)=>if d'=d then(match Ij H' x z with
  |some (y,K,qs)=>some (.lK,.ret y,K,aT,ps++qs)
  |none=>none)else some (.read,.ret x,H',.fz d' z::aT,ps)
 |some (k,.ret x,H',.val d' y::aT,ps)=>if d'=d then some (k,.ret y,H',aT,aF x y::ps)else some (k,.ret x,H',.val d' y::aT,ps)
 |some (.lK,.ret x,H',.hp d' y K::aT,ps)=>if d'=d then some (.lK,.ret y,K,aT,aF x y::HSub H' K::ps)else some (.lK,.ret x,H',.hp d' y K::aT,ps)
 |r=>r
def iP(P:Program)(G:Nat->Option (List AV))(ops:Array Oper)(gs:Bool)(aL:List AV)(H:List ah)(o:Oper)(bf:List bC):Option (Kind×aS×List ah×List bC×List Prop) :=
 match ME ops aL o with
 |some true=>match sZ o.dst (fD P G H (Bf G aL) o bf)with
  |some (k,out,H',aT,ps)=>if gs=true then(match out,aT with
   |.ret (.lit (.bool e)),.br b::Dh=>some (k,.ret (.lit (.bool b)),H',Dh,(e=b)::ps)
   |_,_=>none)else some (k,out,H',aT,ps)
  |none=>none
 |some false=>some (.free,.ret (.lit undef),H,bf,[])
 |none=>none
variable {off:Nat}
section
variable {P:Program} {G:Nat->Option (List AV)} {r:Option Nat} {V:View} {a:Act} {o:Oper} {ops:Array Oper} {aL:List AV}
theorem nG(hG:aD G V){y:Operand}(h:∀t,y = .tmp t->dI V (aL.getD t .aP) (a.tmps.getD t undef)):dI V (Bf G aL y) (a.eval y):=by
 cases y with
 |tmp t=>exact h t rfl
 |const v=>exact .pure _ _ (.lit v)
 |global g =>
  simp only[Bf];split
  .rename_i cs hg;exact .pure _ _ (hG.ng g cs hg)
  .exact .pure _ _ (.lit _)
 |func f=>exact .pure _ _ (.lit _)
theorem Di{b}(h:ME ops aL o=some b)(hr:∀t∈o.looksAt ops,dI V (aL.getD t .aP) (a.tmps.getD t undef)):Region.wanted o (yielded ops a.tmps)=b:=by
 unfold ME at h;unfold Region.wanted;cases hg:o.guard with
 |none=>simp[hg]at h;simp[h]
 |some q =>
  obtain⟨j,w⟩:=q;simp only[hg]at h |-;cases hd:(ops[j]?).bind (·.dst)with
  |none=>simp[hd]at h
  |some d =>
   simp only[hd]at h;split at h
   .rename_i b' he;cases h;have:=hr d (by simp[Oper.looksAt,hg,hd]);rw[he]at this;have hv:=bW this;have hy:yielded ops a.tmps j=some b':=by
     unfold yielded;have bg:d<a.tmps.size:=by
      rcases y08 d a.tmps.size with h|h
      .exact h
      .simp [Nat.not_lt.2 h,undef]at hv
     simp_all
    grind
   .rename_i us he;cases h;have:=hr d (by simp[Oper.looksAt,hg,hd]);rw[he]at this;have hv:=bW this;have hy:yielded ops a.tmps j=none:=by
     unfold yielded;rw[hd];show(match a.tmps[d]?with|some (.bool b)=>some b|_=>none)=none;cases hq:a.tmps[d]? with
     |none=>rfl
     |some u =>
      rw[Array.getD_eq_getD_getElem?]at hv;grind
    grind
   .cases h
theorem Fy{d}{H}{ev}{bf aT}{k}{out}{H'}{ps}(h:sZ d (fD P G H ev o bf)=some (k,out,H',aT,ps))(dG:gZ ps)(hG:aD G V)(hr:∀y∈o.op.operands,dI V (ev y) (a.eval y))(hH:V.H=H\/k = .free):BN P G r V a o out (if k = .free then V.H else H')/\(k≠.lK->H'=H):=by
 unfold sZ at h;split at h
 .rename_i x H1 d1 z cK qs he;split at h
  .split at h
   .rename_i y K rs hf;cases h;obtain⟨p1,p2⟩:=dN.1 dG;obtain⟨h1,h2⟩:=sW  he p1 hG hr (hH.imp id fun h=>by cases h);refine⟨fun next Q n1 n2=>?_,fun h=>absurd rfl h⟩;refine h1 next Q (fun V' v u hu s1 s2 s3 s4=>?_) fun V' v u hu=>by cases hu
    cases hu;subst s3;obtain⟨V2,a1,a2,a3,a4,a5⟩:=Ri hf p2 s2 s4;rw[<- a1];exact n1 V2 v y rfl (s1.trans a3) a4 (by rw[yK zS,a2]) a5
   .cases h
  .rw [<- he]at h;exact sW  h dG hG hr hH
 .rename_i k1 x H1 d1 y cK qs he;split at h
  .cases h;obtain⟨h1,h2⟩:=sW  he dG.2 hG hr hH;refine⟨fun next Q n1 n2=>?_,h2⟩;exact h1 next Q (fun V' v z hz s1 s2 s3 s4=>by cases hz;exact n1 V' v y rfl s1 s2 s3 (dG.1 V' v s4)) fun V' v z hz=>by cases hz
  .rw [<- he]at h;exact sW  h dG hG hr hH
 .rename_i x H1 d1 y K cK qs he;split at h
  .cases h;obtain⟨h1,h2⟩:=sW  he dG.2.2 hG hr hH;refine⟨fun next Q n1 n2=>?_,fun h=>absurd rfl h⟩;refine h1 next Q (fun V' v z hz s1 s2 s3 s4=>?_) fun V' v z hz=>by cases hz
   cases hz;subst s3;obtain⟨V2,a1,a2,a3,a4,a5⟩:=wh s2 dG.2.1;rw[<- a1];exact n1 V2 v y rfl (s1.trans a4) a5 (by rw[yK zS,a2]) (dG.1 V2 v (s4.step a4))
  .rw [<- he]at h;exact sW  h dG hG hr hH
 .exact sW  h dG hG hr hH
theorem qw{i}{gs}{H}{bf aT}{k}{out}{H'}{ps}(ho:ops[i]?=some o)(h:iP P G ops gs aL H o bf=some (k,out,H',aT,ps))(dG:gZ ps)(hG:aD G V)(hr:∀t∈o.looksAt ops,dI V (aL.getD t .aP) (a.tmps.getD t undef))(hH:V.H=H\/k = .free) :
 (∀(next:Act->World->Prop)Q,
  (∀V' v x,out = .ret x->Step V V'->aD G V'->V'.H=(if k = .free then V.H else H')->dI V' x v->next (a.put o.dst v) V'.w) ->
  (∀V' v x,out = .Ay x->Step V V'->aD G V'->V'.H=(if k = .free then V.H else H')->dI V' x v->Q (.panic [{ v:=v,recovered:=false }]) a V'.w) ->
  wpOpIn (fz r) 0 P ops Q i next a V.w)/\(k≠.lK->H'=H):=by
 unfold iP at h;split at h
 .rename_i hw;have hw':=Di   hw hr;have OU:∀y∈o.op.operands,dI V (Bf G aL y) (a.eval y):=fun y hy=>nG hG fun t ht=>hr t (by
   subst ht;exact mem_append_left _ (mem_filterMap.2 ⟨.tmp t,by simpa using hy,rfl⟩))
  split at h
  .rename_i k1 afR H1 cK qs hev;split at h
   .split at h
    .cases h;obtain⟨he,dG⟩:=dG;obtain⟨h1,h2⟩:=Fy  hev dG hG OU hH;refine⟨fun next Q n1 n2=>?_,h2⟩;unfold wpOpIn;rw[ho];simp only[hw'];refine h1 next Q (fun V' v x hx=>?_) (fun V' v x hx=>by cases hx)
     grind
    .cases h
   .cases h;obtain⟨h1,h2⟩:=Fy  hev dG hG OU hH;refine⟨fun next Q n1 n2=>?_,h2⟩;unfold wpOpIn;rw[ho];simp only[hw'];exact h1 next Q n1 n2
  .cases h
 .rename_i hw;have hw':=Di   hw hr;cases h;refine⟨fun next Q n1 n2=>?_,fun _=>rfl⟩;unfold wpOpIn;rw[ho];simp only[hw',if_false];exact⟨fun _ _=>trivial,n1 V undef _ rfl (Step.refl V) hG (by rw[yL rfl]) (.pure _ _ (.lit _))⟩
 .cases h
def jo:List bC->Bool
 |.hp .. :: _|.fz .. :: _=>false
 |.LV :: .hp .. :: _|.LV :: .fz .. :: _=>false
 |.aU :: .hp .. :: _|.aU :: .fz .. :: _=>false
 |.wT _ :: .hp .. :: _|.wT _ :: .fz .. :: _=>false
 |.elem _ :: .hp .. :: _|.elem _ :: .fz .. :: _=>false
 |_=>true
def aqo:AV->Option Nat
 |.jC id .. => some id
 |_=>none
def mH:AV->List Nat
 |.aU id .. => [id]
 |_=>[]
def Vm(ev:Operand->AV)(o:Oper)(bf:List bC):Option (List Nat×Bool) :=
 match o.op with
 |.load _ x|.store _ x _=>match ev x with
  |.ptr id _|.jC id _ _ _=>if jo bf=true then some ([id],false)else none
  |_=>none
 |.fieldAddr _ x _=>match ev x with
  |.jC id _ _ _=>if jo bf=true then some ([id],false)else none
  |_=>none
 |.indexAddr _ x _=>match ev x with
  |.aU id _ _ _=>if jo bf=true then some ([id],false)else none
  |_=>none
 |.nilCheck x=>match ev x with
  |.jC id _ _ _=>if jo bf=true then some ([id],false)else none
  |_=>none
 |.buildSlice .. => match bf with
  |.aU::aT=>if jo (.aU::aT)=true then some ([],true)else none
  |_=>none
 |.alloc _|.box .. => if jo bf=true then some ([],true)else none
 |.mapUpdate _ m _ _=>match ev m with
  |.mp id=>if jo bf=true then some ([id],false)else none
  |_=>none
 |.slice _ x none none none=>match ev x with
  |.ptr id 0=>if jo bf=true then some ([id],false)else none
  |_=>none
 |.call c=>match c.callee,bf with
  |.builtin .append,bf=>match c.args.toList with
   |[a,x]=>if jo bf=true then some (mH (ev a)++mH (ev x),(mH (ev a)).isEmpty)else none
   |_=>none
  |.builtin .len,bf=>match c.args.toList with
   |[x]=>match ev x with
    |.aU id _ _ _=>if jo bf=true then some ([id],false)else none
    |_=>none
   |_=>none
  |.value g,.call e _ _::aT=>if jo aT=true/\(jY (ev g)).isSome=true then some (e,true)else none
  |_,_=>none
 |_=>none
def made(len:Bool)(H H':List ah):List Nat:=if len=true then range' H.length (H'.length-H.length)else[]
structure Dj(H K:List ah)(iw:List Nat)(len:Bool):Prop where
 at_:∀id,id∈iw->K[id]?=H[id]?
 len:len=true->K.length=H.length
structure Loc(H H' K K':List ah)(iw:List Nat)(len:Bool):Prop where
 l1:len=false->H'.length=H.length/\K'.length=K.length
 l2:len=true->K'.length=H'.length
 inn:∀id,id∈iw++made len H H'->K'[id]?=H'[id]?
 out:∀id,id∉iw++made len H H'->K'[id]?=K[id]?/\H'[id]?=H[id]?
theorem Loc.refl{H K}{iw}{len}(h:Dj H K iw len):Loc H H K K iw len where
 l1 _:=⟨rfl,rfl⟩
 l2:=h.len
 inn id dU:=h.at_ id (by simpa[made]using dU)
 out _ _:=⟨rfl,rfl⟩
theorem Loc.set{H K}{iw}{len}(h:Dj H K iw len){id}(dU:id∈iw)ob:Loc H (H.set id ob) K (K.set id ob) iw len where
 l1 _:=⟨zS,zS⟩
 l2 hl:=by simp[h.len hl]
 inn i hi:=by
  have hi:i∈iw:=by simpa[made]using hi
  have h1:=h.at_ i hi;grind
 out i hi:=by
  grind
theorem Loc.push{H K}{iw}(h:Dj H K iw true)os:Loc H (H++os) K (K++os) iw true where
 l1 h:=by cases h
 l2 _:=by simp[h.len rfl]
 inn i hi:=by
  have hl:=h.len rfl;rcases yI.1 hi with hi|hi
  .by_cases bg:i<H.length
   .rw [getElem?_append_left bg,getElem?_append_left zO];exact h.at_ i hi
   .grind
  .simp only[made,if_true]at hi;grind
 out i hi:=by
  have hl:=h.len rfl;simp only[made,not_or]at hi;grind
theorem Fz{ev}{y}{id off}(hy:y∈o.op.operands)(he:ev y = .ptr id off):iW P ev o=none:=by
 unfold iW;split
 .rfl
 .rw [yK];intro h;have:=all_eq_true.1 h y (by simpa using hy);rw[he]at this;cases this
theorem OV{H}{ev}{bf}{t}{x}{id:Nat}(bA:o.op = .load t x)(he:ev x = .ptr id off) :
 fD P G H ev o bf=match H[id]? with
  |some (.box cells)=>(nI P t (cells.drop off)).map fun z=>(.read,.ret z,H,bf,[])
  |_=>none:=by
 have h1:gL P ev o bf=none:=by unfold gL;simp_all
 have h2:bU P H ev o bf=none:=by unfold bU;rw[bA]
 have h3:dJ P G H ev o bf=none:=by unfold dJ;rw[bA]
 have h4:dz P H ev o bf=match H[id]? with
  |some (.box cells)=>(nI P t (cells.drop off)).map fun z=>(z,bf,[])
  |_=>none:=by
  unfold dz;grind
 unfold fD;rw[bA];simp only[dV,h1,h2,h3,h4,y20,if_false];cases hH:H[id]? with
 |none=>rfl
 |some ob =>
  cases ob<;>simp only<;>try rfl
  cases nI P t _<;>rfl
theorem MF{H}{ev}{bf}{t}{x y}{id:Nat}(bA:o.op = .store t x y)(he:ev x = .ptr id off) :
 fD P G H ev o bf=match jK P t,(ev y).cells,H[id]? with
  |some n,some cs,some (.box cells)=>if cs.length=n/\off+cs.length<=cells.length/\cs.all AV.one=true then some (.lK,.ret (.lit undef),H.set id (.box (dX cells off cs)),bf,[])else none
  |_,_,_=>none:=by
 have hl:iW P ev o=none:=Fz  (by rw[bA];simp[Op.operands]) he;have h1:gL P ev o bf=none:=by unfold gL;simp_all
 have h2:dz P H ev o bf=none:=by unfold dz;rw[bA]
 have h3:dJ P G H ev o bf=none:=by unfold dJ;rw[bA]
 have h4:bU P H ev o bf=match jK P t,(ev y).cells,H[id]? with
  |some n,some cs,some (.box cells)=>if cs.length=n/\off+cs.length<=cells.length/\cs.all AV.one=true then some (.lit undef,H.set id (.box (dX cells off cs)),bf,[])else none
  |_,_,_=>none:=by
  unfold bU;grind
 unfold fD;rw[bA];simp only[jT,dV,if_false];grind
theorem Rm{ev}{y}{id}(hy:y∈o.op.operands)(he:ev y = .mp id):iW P ev o=none:=by
 unfold iW;split
 .rfl
 .rw [yK];intro h;have:=all_eq_true.1 h y (by simpa using hy);rw[he]at this;cases this
theorem OW{H}{ev}{bf}{t}{m k x}{id}(bA:o.op = .mapUpdate t m k x)(he:ev m = .mp id) :
 fD P G H ev o bf=match bU P H ev o bf with
  |some (x,H',aT,ps)=>some (.lK,.ret x,H',aT,ps)
  |none=>none:=by
 have hl:iW P ev o=none:=Rm  (by rw[bA];simp[Op.operands]) he;have h1:gL P ev o bf=none:=by unfold gL;simp_all
 have h2:dz P H ev o bf=none:=by unfold dz;rw[bA]
 have h3:dJ P G H ev o bf=none:=by unfold dJ;rw[bA]
 unfold fD;rw[bA];simp only[jT,dV,h1,h2,h3,y20,if_false]
theorem J4{H}{ev}{bf}{t}{x}{id off}(bA:o.op = .slice t x none none none)(he:ev x = .ptr id off) :
 fD P G H ev o bf=match bU P H ev o bf with
  |some (x,H',aT,ps)=>some (.lK,.ret x,H',aT,ps)
  |none=>none:=by
 have h1:gL P ev o bf=none:=by unfold gL;simp_all
 have h2:dz P H ev o bf=none:=by unfold dz;grind
 have h3:dJ P G H ev o bf=none:=by unfold dJ;rw[bA]
 unfold fD;rw[bA];simp only[jT,dV,h1,h2,h3,y20,if_false]
theorem Rn{H}{ev}{bf}(bA:(∃t,o.op = .alloc t)\/(∃t x,o.op = .box t x)\/(∃c,o.op = .call c/\c.callee = .builtin .append)) :
 fD P G H ev o bf=match gL P ev o bf with
  |some (x,aT,ps)=>some (.free,.ret x,H,aT,ps)
  |none=>match bU P H ev o bf with
   |some (x,H',aT,ps)=>some (.lK,.ret x,H',aT,ps)
   |none=>none:=by
 rcases bA with⟨t,bA⟩|⟨t,x,bA⟩|⟨c,bA,hc⟩
 .have h2:dz P H ev o bf=none:=by unfold dz;rw[bA]
  have h3:dJ P G H ev o bf=none:=by unfold dJ;rw[bA]
  unfold fD;rw[bA];simp only[jT,dV,h2,h3,y20,if_false]
 .have h2:dz P H ev o bf=none:=by unfold dz;rw[bA]
  have h3:dJ P G H ev o bf=none:=by unfold dJ;rw[bA]
  unfold fD;rw[bA];simp only[jT,dV,h2,h3,y20,if_false]
 .obtain ⟨callee,args,ts⟩:=c;subst hc;have h2:dz P H ev o bf=none:=by unfold dz;rw[bA]
  have h3:dJ P G H ev o bf=none:=by unfold dJ;rw[bA]
  unfold fD;rw[bA];simp only[jT,dV,h2,h3,y20,if_false]
theorem MG{H}{ev}{bf}{c}{g}(bA:o.op = .call c)(hc:c.callee = .value g) :
 fD P G H ev o bf=match gL P ev o bf with
  |some (x,aT,ps)=>some (.free,.ret x,H,aT,ps)
  |none=>dJ P G H ev o bf:=by
 obtain⟨callee,args,ts⟩:=c;subst hc;have h2:dz P H ev o bf=none:=by unfold dz;rw[bA]
 have h3:bU P H ev o bf=none:=by unfold bU;rw[bA]
 unfold fD;rw[bA];simp only[jT,dV,h2,h3,y20,if_false]
theorem Ro{H K}{x}{tx}{s}(h:∀id∈mH x,K[id]?=H[id]?):MH P K x tx s=MH P H x tx s:=by
 have key:∀id g off len,x = .aU id g off len->K[id]?=H[id]? := fun id g off len e=>h id (by rw[e];simp[mH]);unfold MH;grind
theorem MI{H K}{x}{n}(h:∀id∈mH x,K[id]?=H[id]?):nZ K x n=nZ H x n:=by
 cases x with
 |aU id g off len=>simp only[nZ,h id (by simp[mH])]
 |_=>rfl
def tq:List bC->Bool
 |.hp .. :: _|.fz .. :: _=>false
 |_=>true
theorem iQ{bf}(h:jo bf=true):tq bf=true/\∀t,(bf = .LV::t\/bf = .aU::t\/(∃es,bf = .wT es::t)\/∃y,bf = .elem y::t)->tq t=true:=by
 unfold jo at h;split at h<;>first|(cases h)|skip
 rename_i n1 n2 n3 n4 n5 n6 n7 n8 n9 n10;constructor
 .unfold tq;simp
 .intro t ht;unfold tq;split<;>first|rfl|skip
  .rcases ht with ht|ht|⟨es,ht⟩|⟨y,ht⟩
   .exact absurd ht (n3 _ _ _ _)
   .exact absurd ht (n5 _ _ _ _)
   .exact absurd ht (n7 _ _ _ _ _)
   grind
  grind
theorem Rp{H K}{ts tx}{a x r}{bf aT}{H'}{ps}(h:Az P H ts tx a x bf=some (r,H',aT,ps))(pE:Dj H K (mH a++mH x) (mH a).isEmpty)(hc:jo bf=true) :
 ∃K',Az P K ts tx a x bf=some (r,K',aT,ps)/\Loc H H' K K' (mH a++mH x) (mH a).isEmpty/\tq aT=true:=by
 have e1:∀s,MH P K x tx s=MH P H x tx s:=fun s=>Ro fun id dU=>pE.at_ id (mem_append_right _ dU);have e2:∀n,nZ K x n=nZ H x n:=fun n=>MI fun id dU=>pE.at_ id (mem_append_right _ dU);obtain⟨c1,c2⟩:=iQ hc;unfold Az at h |-;cases hu:P.underlying ts with
 |none=>simp[hu]at h
 |some td =>
  simp only[hu]at h |-;cases td<;>simp only at h|-<;> first|(cases h;done)|skip
  rename_i e;cases hi:P.info? e with
  |none=>simp[hi]at h
  |some i =>
   simp only[hi]at h |-;rw[e1];cases hz:i.zero with
   |none=>simp[hz]at h
   |some z =>
    simp only[hz]at h |-;cases hs:MH P H x tx i.size with
    |none=>simp[hs]at h
    |some ys =>
     simp only[hs]at h |-;by_cases zi:0<i.bytes/\0<i.size/\z.cells.size=i.size
     .rw [yL zi]at h |-;rw[e2];split at h
      ·
       split at h
       .cases h;exact⟨K,rfl,Loc.refl pE,c2 _ (.inl rfl)⟩
       .rename_i fF;cases h;refine⟨K++[.aN 0 i.size false ys],?_,Loc.push pE _,c1⟩;rw[pE.len rfl]
      ·
       rename_i sz xs;split at h
       .rename_i iZ;rw[yL iZ];split at h
        .cases h;exact⟨K,rfl,Loc.refl pE,c2 _ (.inl rfl)⟩
        .rename_i fF;cases h;refine⟨K++[.aN 0 i.size false (xs++ys)],?_,Loc.push pE _,c1⟩;rw[pE.len rfl]
       .cases h
      ·
       rename_i id g len;have hk:=pE.at_ id (by simp[mH]);rw[hk];split at h
       .rename_i g' sz xs hH;split at h
        .rename_i iZ;rw[yL iZ];split at h
         .cases h;exact⟨K.set id _,rfl,Loc.set pE (by simp[mH]) _,c2 _ (.inr (.inl rfl))⟩
         .rename_i fF;cases h;refine⟨K.set id (.aN (g+1) sz false (xs++ys)),?_,Loc.set pE (by simp[mH]) _,c1⟩;rfl
        .cases h
       .cases h
      .cases h
     .rw [yK zi]at h;cases h
theorem FB{e}{H K}:∀{iw},(∀id∈iw,K[id]?=H[id]?)->looks e K iw=looks e H iw
 |[],_=>rfl
 |id::iw,h=>by
  simp only[looks];rw[h id zS,FB fun i hi=>h i (by simp[hi])]
theorem Vn{i:Nat}(h:K[i]?=H[i]?)id(ob:ah):(K.set id ob)[i]?=(H.set id ob)[i]? := by grind
theorem mM σ:∀ e(os H:List ah),(Dk σ e os H).length=H.length
 |[],_,_=>rfl
 |_::_,[],_=>rfl
 |id::e,o::os,H=>by rw[Dk,mM σ e os];simp
theorem BO σ:∀(e:List Nat)os H(id:Nat),id∉e->(Dk σ e os H)[id]?=H[id]?
 |[],_,_,_,_=>rfl
 |_::_,[],_,_,_=>rfl
 |a::e,o::os,H,id,h=>by
  rw[Dk,BO σ e os _ id (fun h'=>h (by simp[h']))];grind
theorem Il σ:∀(e:List Nat)os H K(i:Nat),K[i]?=H[i]?->(Dk σ e os K)[i]?=(Dk σ e os H)[i]?
 |[],_,_,_,_,h=>h
 |_::_,[],_,_,_,h=>h
 |a::e,o::os,H,K,i,h=>by
  exact Il σ e os _ _ i (Vn h a _)
theorem OX{e}{H K}(h:Dj H K e true)Hs:Loc H (FC e H Hs) K (FC e K Hs) e true:=by
 have hl:=h.len rfl;unfold FC;rw[hl];have bL:∀L:List ah,(Dk (upto e H.length) e Hs L++(Hs.drop e.length).map (ah.Vo (upto e H.length))).length=L.length+(Hs.drop e.length).length:=fun L=>by rw[yD,mM,y10]
 refine⟨nofun,fun _=>by rw[bL,bL,hl],fun i hi=>?_,fun i hi=>?_⟩
 .by_cases bg:i<H.length
  .rw [getElem?_append_left (by rw[mM];omega),getElem?_append_left (by rw[mM];omega)];refine Il _ _ _ _ _ i ?_;rcases yI.1 hi with hi|hi
   .exact h.at_ i hi
   .simp only[made,if_true,mem_range'_1]at hi;omega
  .rw [getElem?_append_right (by rw[mM];omega),getElem?_append_right (by rw[mM];omega),mM,mM,hl]
 .simp only[made,yI,not_or]at hi;obtain⟨h1,h2⟩:=hi;by_cases bg:i<H.length
  .rw [getElem?_append_left (by rw[mM];omega),getElem?_append_left (by rw[mM];omega),BO _ _ _ _ _ h1,BO _ _ _ _ _ h1];simp
  simp_all
theorem Vp{H K}{f}{xs}{e}{out}{Hs}{bf aT}{k}{out'}{H'}{ps}(h:qY P G H f xs (.call e out Hs::bf)=some (k,out',H',aT,ps))(pE:Dj H K e true) :
 ∃K',qY P G K f xs (.call e out Hs::bf)=some (k,out',K',aT,ps)/\Loc H H' K K' e true/\aT=bf:=by
 have hl:=pE.len rfl;cases jQ:e with
 |nil =>
  subst jQ;cases hHs:Hs with
  |nil =>
   subst hHs;simp only[qY]at h |-;by_cases zi:AV.aM [] xs=true/\out.Im=true
   .rw [yL zi]at h |-;cases h;exact⟨K,rfl,Loc.refl pE,rfl⟩
   grind
  |cons o os =>
   subst hHs;simp only[qY]at h |-;by_cases zi:EG []=true/\AV.aM [] xs=true
   .rw [yL zi]at h |-;simp only[looks]at h |-;cases h;exact⟨FC [] K (o::os),by rw[hl],OX pE _,rfl⟩
   grind
 |cons a e' =>
  subst jQ;simp only[qY]at h |-;by_cases zi:EG (a::e')=true/\AV.aM (a::e') xs=true
  .rw [yL zi]at h |-;rw[FB   pE.at_];cases hlk:looks (a::e') H (a::e')with
   |none=>simp[hlk]at h
   |some q =>
    simp only[hlk]at h |-;cases h;exact⟨FC (a::e') K Hs,by rw[hl],OX pE _,rfl⟩
  grind
theorem OY{ev}{y}{id g k j}(hy:y∈o.op.operands)(he:ev y = .jC id g k j):iW P ev o=none:=by
 unfold iW;split
 .rfl
 .rw [yK];intro h;have:=all_eq_true.1 h y (by simpa using hy);rw[he]at this;cases this
theorem MJ{H}{ev}{bf}(bA:(∃t x,o.op = .load t x)\/(∃t x f,o.op = .fieldAddr t x f)\/(∃t x i,o.op = .indexAddr t x i)\/(∃c,o.op = .call c/\c.callee = .builtin .len)\/(∃x,o.op = .nilCheck x)) :
 fD P G H ev o bf=match gL P ev o bf with
  |some (x,aT,ps)=>some (.free,.ret x,H,aT,ps)
  |none=>match dz P H ev o bf with
   |some (x,aT,ps)=>some (.read,.ret x,H,aT,ps)
   |none=>none:=by
 rcases bA with⟨t,x,bA⟩|⟨t,x,f,bA⟩|⟨t,x,i,bA⟩|⟨c,bA,hc⟩|⟨x,bA⟩
 .have h2:bU P H ev o bf=none:=by unfold bU;rw[bA]
  have h3:dJ P G H ev o bf=none:=by unfold dJ;rw[bA]
  unfold fD;rw[bA];simp only[jT,dV,h2,h3,y20,if_false]
 .have h2:bU P H ev o bf=none:=by unfold bU;rw[bA]
  have h3:dJ P G H ev o bf=none:=by unfold dJ;rw[bA]
  unfold fD;rw[bA];simp only[jT,dV,h2,h3,y20,if_false]
 .have h2:bU P H ev o bf=none:=by unfold bU;rw[bA]
  have h3:dJ P G H ev o bf=none:=by unfold dJ;rw[bA]
  unfold fD;rw[bA];simp only[jT,dV,h2,h3,y20,if_false]
 .obtain ⟨callee,args,ts⟩:=c;subst hc;have h2:bU P H ev o bf=none:=by unfold bU;rw[bA]
  have h3:dJ P G H ev o bf=none:=by unfold dJ;rw[bA]
  unfold fD;rw[bA];simp only[jT,dV,h2,h3,y20,if_false]
 .have h2:bU P H ev o bf=none:=by unfold bU;rw[bA]
  have h3:dJ P G H ev o bf=none:=by unfold dJ;rw[bA]
  unfold fD;rw[bA];simp only[jT,dV,h2,h3,y20,if_false]
theorem kS{H K}{ev}{bf aT}{k}{out}{H'}{ps}{iw}{len}(bA:(∃t x,o.op = .load t x)\/(∃t x f,o.op = .fieldAddr t x f)\/(∃t x i,o.op = .indexAddr t x i)\/(∃c,o.op = .call c/\c.callee = .builtin .len)\/(∃x,o.op = .nilCheck x))(h:fD P G H ev o bf=some (k,out,H',aT,ps))(pE:Dj H K iw len)(hR:dz P K ev o bf=dz P H ev o bf)(hC:∀{x cK qs},dz P H ev o bf=some (x,cK,qs)->tq cK=true) :
 ∃K',fD P G K ev o bf=some (k,out,K',aT,ps)/\Loc H H' K K' iw len/\(k = .free\/tq aT=true):=by
 rw[MJ bA]at h |-;rw[hR];cases TR:gL P ev o bf with
 |some q =>
  simp only[TR]at h |-;cases h;exact⟨K,rfl,Loc.refl pE,.inl rfl⟩
 |none =>
  simp only[TR]at h |-;cases qZ:dz P H ev o bf with
  |none=>simp[qZ]at h
  |some q =>
   have:=hC qZ;simp only[qZ]at h |-;cases h;exact⟨K,rfl,Loc.refl pE,.inr this⟩
theorem J5{H}{ev}{bf}{t}{x y}{id g k j}(bA:o.op = .store t x y)(he:ev x = .jC id g k j) :
 fD P G H ev o bf=match bU P H ev o bf with
  |some (x,H',aT,ps)=>some (.lK,.ret x,H',aT,ps)
  |none=>none:=by
 have hl:iW P ev o=none:=OY  (by rw[bA];simp[Op.operands]) he;have h1:gL P ev o bf=none:=by unfold gL;simp_all
 have h2:dz P H ev o bf=none:=by unfold dz;rw[bA]
 have h3:dJ P G H ev o bf=none:=by unfold dJ;rw[bA]
 unfold fD;rw[bA];simp only[jT,dV,h1,h2,h3,y20,if_false]
theorem Vq{H}{ev}{bf}{t}{n}{parts}(bA:o.op = .buildSlice t n parts) :
 fD P G H ev o bf=match gL P ev o bf with
  |some (x,aT,ps)=>some (.free,.ret x,H,aT,ps)
  |none=>match bU P [] ev o bf with
   |some (x,[],aT,ps)=>some (.free,.ret x,H,aT,ps)
   |_=>match bU P H ev o bf with
    |some (x,H',aT,ps)=>some (.lK,.ret x,H',aT,ps)
    |none=>none:=by
 have h2:dz P H ev o bf=none:=by unfold dz;rw[bA]
 have h3:dJ P G H ev o bf=none:=by unfold dJ;rw[bA]
 unfold fD;rw[bA];simp only[jT,dV,h2,h3,y20,if_false,if_true]
theorem Rs{ev:Operand->AV}{out:aS}{iw:List Nat}{len:Bool}(h:fD P G H ev o bf=some (k,out,H',aT,ps))(hf:Vm ev o bf=some (iw,len))(pE:Dj H K iw len) :
 ∃K',fD P G K ev o bf=some (k,out,K',aT,ps)/\Loc H H' K K' iw len/\(k = .free\/tq aT=true):=by
 have fr:∀{x:AV}{cK:List bC}{qs:List Prop},some (Kind.free,aS.ret x,H,cK,qs)=some (k,out,H',aT,ps)->∃K',some (Kind.free,aS.ret x,K,cK,qs)=some (k,out,K',aT,ps)/\Loc H H' K K' iw len/\(k = .free\/tq aT=true):=fun h=>by
  cases h;exact⟨K,rfl,Loc.refl pE,.inl rfl⟩
 have lK:(∃t,o.op = .alloc t)\/(∃t x,o.op = .box t x)\/(∃c,o.op = .call c/\c.callee = .builtin .append)->jo bf=true->(∀{x H1 cK qs},bU P H ev o bf=some (x,H1,cK,qs)->∃K1,bU P K ev o bf=some (x,K1,cK,qs)/\Loc H H1 K K1 iw len/\tq cK=true) ->
  ∃K',fD P G K ev o bf=some (k,out,K',aT,ps)/\Loc H H' K K' iw len/\(k = .free\/tq aT=true):=fun bA _ he=>by
  rw[Rn bA]at h |-;cases TR:gL P ev o bf with
  |some q=>obtain⟨x,cK,qs⟩:=q;simp only[TR]at h |-;exact fr h
  |none =>
   simp only[TR]at h |-;cases YG:bU P H ev o bf with
   |none=>simp[YG]at h
   |some q =>
    obtain⟨x,H1,cK,qs⟩:=q;obtain⟨K1,e1,e2,e3⟩:=he YG;simp only[YG,y06,Prod.mk.injEq]at h;obtain⟨rfl,rfl,rfl,rfl,rfl⟩:=h;exact⟨K1,by rw[e1],e2,.inr e3⟩
 unfold Vm at hf;split at hf
 ·
  rename_i t x bA;split at hf<;>first|(cases hf;done)|skip
  .rename_i id off he;split at hf<;>first|(cases hf;done)|skip
   rename_i hc;cases hf;rw[OV bA he]at h |-;rw[pE.at_ id zS];cases hH:H[id]? with
   |none=>rw[hH]at h;cases h
   |some ob =>
    rw[hH]at h;cases ob<;>simp only at h|-<;> try (cases h;done)
    rename_i cells;cases hl:nI P t (cells.drop off)with
    |none=>simp[hl]at h
    |some z =>
     simp only[hl,Option.map_some,y06,Prod.mk.injEq]at h;obtain⟨rfl,rfl,rfl,rfl,rfl⟩:=h;exact⟨K,rfl,Loc.refl pE,.inr (iQ hc).1⟩
  .rename_i id g kk j he;split at hf<;>first|(cases hf;done)|skip
   rename_i hc;cases hf;have hk:=pE.at_ id zS;refine kS (.inl ⟨t,x,bA⟩) h pE ?_ ?_
   .grind [dz]
   .intro z cK qs qZ;unfold dz at qZ;rw[bA]at qZ;simp only[he]at qZ;split at qZ
    .obtain ⟨z1,_,hz⟩:=Option.map_eq_some_iff.1 qZ;cases hz;exact(iQ hc).2 _ (.inr (.inr (.inr ⟨_,rfl⟩)))
    .cases qZ
 ·
  rename_i t x y bA;split at hf<;>first|(cases hf;done)|skip
  .rename_i id off he;split at hf<;>first|(cases hf;done)|skip
   rename_i hc;cases hf;rw[MF bA he]at h |-;rw[pE.at_ id zS];split at h
   .split at h
    .rename_i zi;cases h;exact⟨K.set id _,by simp only[yL zi],Loc.set pE zS _,.inr (iQ hc).1⟩
    .cases h
   .cases h
  .rename_i id g kk j he;split at hf<;>first|(cases hf;done)|skip
   rename_i hc;cases hf;rw[J5 bA he]at h |-;cases hE:bU P H ev o bf with
   |none=>simp[hE]at h
   |some q =>
    obtain⟨z,H1,cK,qs⟩:=q;have key:∃K1,bU P K ev o bf=some (z,K1,cK,qs)/\Loc H H1 K K1 [id] false/\tq cK=true:=by
     unfold bU at hE |-;rw[bA]at hE |-;simp only[he]at hE |-;cases hn:jK P t with
     |none=>simp only[hn]at hE;cases hE
     |some n =>
      cases jQ:(ev y).cells with
      |none=>simp only[hn,jQ]at hE;cases hE
      |some cs =>
       simp only[hn,jQ,pE.at_ id (by simp:id∈[id])]at hE |-;split at hE
       .rename_i e mK hH;split at hE
        .rename_i zi;cases hE;exact⟨K.set id _,by rw[yL zi],Loc.set pE zS _,(iQ hc).2 _ (.inr (.inr (.inr ⟨_,rfl⟩)))⟩
        .cases hE
       .cases hE
    obtain⟨K1,e1,e2,e3⟩:=key;simp only[hE,y06,Prod.mk.injEq]at h;obtain⟨rfl,rfl,rfl,rfl,rfl⟩:=h;exact⟨K1,by rw[e1],e2,.inr e3⟩
 ·
  rename_i t x f bA;split at hf<;>first|(cases hf;done)|skip
  rename_i id g kk j he;split at hf<;>first|(cases hf;done)|skip
  rename_i hc;cases hf;have hk:=pE.at_ id zS;refine kS (.inr (.inl ⟨t,x,f,bA⟩)) h pE ?_ ?_
  .unfold dz;rw[bA];simp only[he];cases zl P t f with
   |none=>rfl
   |some n=>simp only[hk]
  .intro z cK qs qZ;unfold dz at qZ;rw[bA]at qZ;simp only[he]at qZ;split at qZ
   .split at qZ
    .cases qZ;exact(iQ hc).1
    .cases qZ
   .cases qZ
 ·
  rename_i t x i bA;split at hf<;>first|(cases hf;done)|skip
  rename_i id g off len he;split at hf<;>first|(cases hf;done)|skip
  rename_i hc;cases hf;have hk:=pE.at_ id zS;refine kS (.inr (.inr (.inl ⟨t,x,i,bA⟩))) h pE ?_ ?_
  .unfold dz;rw[bA];simp only[he];cases P.underlying t with
   |none=>rfl
   |some td =>
    cases td<;>try rfl
    cases ru (ev i)with
    |none=>rfl
    |some n =>
     rename_i e;simp only;cases jK P e with
     |none=>rfl
     |some s=>simp only[hk]
  .intro z cK qs qZ;unfold dz at qZ;rw[bA]at qZ;simp only[he]at qZ;split at qZ
   .split at qZ
    .split at qZ
     .cases qZ;exact(iQ hc).1
     .cases qZ
    .cases qZ
   .cases qZ
 ·
  rename_i x bA;split at hf<;>first|(cases hf;done)|skip
  rename_i id g kk j he;split at hf<;>first|(cases hf;done)|skip
  rename_i hc;cases hf;have hk:=pE.at_ id zS;refine kS (.inr (.inr (.inr (.inr ⟨x,bA⟩)))) h pE ?_ ?_
  .unfold dz;rw[bA];simp only[he,hk]
  .intro z cK qs qZ;unfold dz at qZ;rw[bA]at qZ;simp only[he]at qZ;split at qZ
   .cases qZ;exact(iQ hc).1
   .cases qZ
 ·
  rename_i t n parts bA;split at hf<;>first|(cases hf;done)|skip
  rename_i mK;split at hf<;>first|(cases hf;done)|skip
  rename_i hc;cases hf;have key:∀{L:List ah}{z:AV}{L1:List ah}{cK:List bC}{qs:List Prop},bU P L ev o (.aU::mK)=some (z,L1,cK,qs)->cK=mK/\∃ob,L1=L++[ob]/\∀L2:List ah,L2.length=L.length->bU P L2 ev o (.aU::mK)=some (z,L2++[ob],cK,qs):=fun{L z L1 cK qs} hq=>by
   unfold bU at hq |-;rw[bA]at hq |-;simp only at hq |-;split at hq
   .rename_i e hu;split at hq
    .rename_i i hi;split at hq
     .rename_i z0 hz;split at hq
      .rename_i h1;split at hq
       .rename_i out zm;split at hq
        .rename_i h2;cases hq;exact⟨rfl,_,rfl,fun L2 hL=>by simp only[yL h1,yL h2,hL]⟩
        .cases hq
       .cases hq
      .cases hq
     .cases hq
    .cases hq
   .cases hq
  rw[Vq bA]at h |-;cases TR:gL P ev o (.aU::mK)with
  |some q=>obtain⟨x,cK,qs⟩:=q;simp only[TR]at h |-;exact fr h
  |none =>
   simp only[TR]at h |-;cases he0:bU P [] ev o (.aU::mK)with
   |some q =>
    obtain⟨x,L1,cK,qs⟩:=q;obtain⟨e1,ob,e2,e3⟩:=key he0;subst e2;simp only[he0,nil_append]at h |-;cases YG:bU P H ev o (.aU::mK)with
    |none=>simp[YG]at h
    |some q =>
     obtain⟨x2,H1,anf,qs3⟩:=q;obtain⟨f1,ob2,f2,f3⟩:=key YG;subst f2;simp only[YG,y06,Prod.mk.injEq]at h;obtain⟨rfl,rfl,rfl,rfl,rfl⟩:=h;exact⟨K++[ob2],by rw[f3 K (pE.len rfl)],Loc.push pE _,.inr (by rw[f1];exact(iQ hc).2 _ (.inr (.inl rfl)))⟩
   |none =>
    simp only[he0]at h |-;cases YG:bU P H ev o (.aU::mK)with
    |none=>simp[YG]at h
    |some q =>
     obtain⟨x2,H1,anf,qs3⟩:=q;obtain⟨f1,ob2,f2,f3⟩:=key YG;subst f2;simp only[YG,y06,Prod.mk.injEq]at h;obtain⟨rfl,rfl,rfl,rfl,rfl⟩:=h;exact⟨K++[ob2],by rw[f3 K (pE.len rfl)],Loc.push pE _,.inr (by rw[f1];exact(iQ hc).2 _ (.inr (.inl rfl)))⟩
 ·
  rename_i t bA;split at hf<;>first|(cases hf;done)|skip
  rename_i hc;cases hf;refine lK (.inl ⟨t,bA⟩) hc fun{x H1 cK qs} he=>?_;unfold bU at he |-;rw[bA]at he |-;simp only at he |-;cases hi:P.info? t with
  |none=>simp[hi]at he
  |some i =>
   simp only[hi]at he |-;cases hz:i.zero with
   |none=>simp[hz]at he
   |some z =>
    simp only[hz,y06,Prod.mk.injEq]at he |-;obtain⟨rfl,rfl,rfl,rfl⟩:=he;exact⟨_,⟨by rw[pE.len rfl],rfl,rfl,rfl⟩,Loc.push pE _,(iQ hc).1⟩
 ·
  rename_i t x bA;split at hf<;>first|(cases hf;done)|skip
  rename_i hc;cases hf;refine lK (.inr (.inl ⟨t,x,bA⟩)) hc fun{y H1 cK qs} he=>?_;unfold bU at he |-;rw[bA]at he |-;simp only at he |-;cases jQ:(ev x).cells with
  |none=>simp[jQ]at he
  |some cs =>
   simp only[jQ,y06,Prod.mk.injEq]at he |-;obtain⟨rfl,rfl,rfl,rfl⟩:=he;exact⟨_,⟨by rw[pE.len rfl],rfl,rfl,rfl⟩,Loc.push pE _,(iQ hc).1⟩
 ·
  rename_i t m k1 x bA;split at hf<;>first|(cases hf;done)|skip
  rename_i id he;split at hf<;>first|(cases hf;done)|skip
  rename_i hc;cases hf;rw[OW bA he]at h |-;have key:∀{z:AV}{H1:List ah}{cK:List bC}{qs:List Prop},bU P H ev o bf=some (z,H1,cK,qs)->∃K1,bU P K ev o bf=some (z,K1,cK,qs)/\Loc H H1 K K1 [id] false/\tq cK=true:=fun{z H1 cK qs} hq=>by
   unfold bU at hq |-;rw[bA]at hq |-;simp only[he]at hq |-;split at hq
   .rename_i kt et id' kv uz mK hu dU hk;cases dU;rw[pE.at_ _ zS];split at hq
    .rename_i es hH;cases hq;exact⟨K.set id _,rfl,Loc.set pE zS _,(iQ hc).2 _ (.inr (.inr (.inl ⟨_,rfl⟩)))⟩
    .cases hq
   .cases hq
  cases hE:bU P H ev o bf with
  |none=>simp[hE]at h
  |some q =>
   obtain⟨z,H1,cK,qs⟩:=q;obtain⟨K1,e1,e2,e3⟩:=key hE;simp only[hE,y06,Prod.mk.injEq]at h;obtain⟨rfl,rfl,rfl,rfl,rfl⟩:=h;exact⟨K1,by rw[e1],e2,.inr e3⟩
 ·
  rename_i t x bA;split at hf<;>first|(cases hf;done)|skip
  rename_i id he;split at hf<;>first|(cases hf;done)|skip
  rename_i hc;cases hf;rw[J4 bA he]at h |-;have key:∀{z:AV}{H1:List ah}{cK:List bC}{qs:List Prop},bU P H ev o bf=some (z,H1,cK,qs)->∃K1,bU P K ev o bf=some (z,K1,cK,qs)/\Loc H H1 K K1 [id] false/\tq cK=true:=fun{z H1 cK qs} hq=>by
   unfold bU at hq |-;rw[bA]at hq |-;simp only[he]at hq |-;split at hq
   .rename_i n e id' hu dU;cases dU;rw[pE.at_ _ zS];split at hq
    .rename_i s cells hs hH;split at hq
     .rename_i zi;cases hq;exact⟨K.set id _,by rw[yL zi],Loc.set pE zS _,(iQ hc).1⟩
     .cases hq
    .cases hq
   .cases hq
  cases hE:bU P H ev o bf with
  |none=>simp[hE]at h
  |some q =>
   obtain⟨z,H1,cK,qs⟩:=q;obtain⟨K1,e1,e2,e3⟩:=key hE;simp only[hE,y06,Prod.mk.injEq]at h;obtain⟨rfl,rfl,rfl,rfl,rfl⟩:=h;exact⟨K1,by rw[e1],e2,.inr e3⟩
 ·
  rename_i c bA;split at hf
  ·
   rename_i EH;split at hf<;>first|(cases hf;done)|skip
   rename_i a x jf;split at hf<;>first|(cases hf;done)|skip
   rename_i hc;cases hf;refine lK (.inr (.inr ⟨c,bA,EH⟩)) hc fun{y H1 cK qs} he=>?_;obtain⟨callee,args,ts⟩:=c;simp only at EH jf;subst EH;unfold bU at he |-;rw[bA]at he |-;simp only[jf]at he |-;cases hts:ts.toList with
   |nil=>simp[hts]at he
   |cons ta tl =>
    cases tl with
    |nil=>simp[hts]at he
    |cons tx tl2 =>
     cases tl2 with
     |cons _ _=>simp[hts]at he
     |nil =>
      simp only[hts]at he |-;exact Rp he pE hc
  ·
   rename_i EH;split at hf<;>first|(cases hf;done)|skip
   rename_i x jf;split at hf<;>first|(cases hf;done)|skip
   rename_i id g off len he;split at hf<;>first|(cases hf;done)|skip
   rename_i hc;cases hf;have hk:=pE.at_ id zS;refine kS (.inr (.inr (.inr (.inl ⟨c,bA,EH⟩)))) h pE ?_ ?_
   .obtain ⟨callee,args,ts⟩:=c;simp only at EH jf;subst EH;unfold dz;rw[bA];simp only[jf];cases ts.toList with
    |nil=>rfl
    |cons t tl=>cases tl with
     |cons _ _=>rfl
     |nil =>
      simp only[he];cases P.underlying t with
      |none=>rfl
      |some td=>cases td<;>first|rfl|simp only[hk]
   .intro z cK qs qZ;obtain⟨callee,args,ts⟩:=c;simp only at EH jf;subst EH;unfold dz at qZ;rw[bA]at qZ;simp only[jf]at qZ;split at qZ
    .split at qZ
     .split at qZ
      .cases qZ;exact(iQ hc).1
      .cases qZ
     .split at qZ
      .cases qZ;exact(iQ hc).1
      .cases qZ
     .cases qZ
    .cases qZ
  ·
   rename_i g e0 cout Hs cK EH;split at hf<;>first|(cases hf;done)|skip
   rename_i hc;obtain⟨hc,hft⟩:=hc;cases hf;rw[MG bA EH]at h |-;cases TR:gL P ev o (.call iw cout Hs::cK)with
   |some q=>obtain⟨x,mK,qs⟩:=q;simp only[TR]at h |-;exact fr h
   |none =>
    simp only[TR]at h |-;obtain⟨callee,args,ts⟩:=c;simp only at EH;subst EH;have ex:∀L:List ah,dJ P G L ev o (.call iw cout Hs::cK)=match jY (ev g)with
     |some (f,aZ,bs)=>if rz P f=true then qY P G L f (aZ++args.toList.map ev++bs) (.call iw cout Hs::cK)else none
     |none=>none:=fun L=>by
     unfold dJ;rw[bA];simp only;split
     .rename_i id b H1 mK hy _;rw[hy]at hft;simp[jY]at hft
     .rfl
    rw[ex]at h |-;cases ajH:jY (ev g)with
    |none=>simp[ajH]at h
    |some q =>
     obtain⟨f,aZ,bs⟩:=q;simp only[ajH]at h |-;split at h
     .rename_i dK;rw[yL dK];obtain⟨K',k1,k2,k3⟩:=Vp h pE;exact⟨K',k1,k2,.inr (by rw[k3];exact(iQ hc).1)⟩
     .cases h
  .cases hf
 .cases hf
theorem Rt{d}{k}{out}{bf}{ps}(hc:tq bf=true) :
 ∃out' aT ps',∀Hx,sZ d (some (k,out,Hx,bf,ps))=some (k,out',Hx,aT,ps'):=by
 cases out with
 |Ay x=>exact⟨.Ay x,bf,ps,fun _=>by cases k<;>rfl⟩
 |ret x =>
  cases bf with
  |nil=>exact⟨.ret x,[],ps,fun _=>by cases k<;>rfl⟩
  |cons q t =>
   cases q with
   |val d' y =>
    by_cases hd:d'=d
    .exact ⟨.ret y,t,aF x y::ps,fun Hx=>by cases k<;>simp only[sZ,yL hd]⟩
    .exact ⟨.ret x,.val d' y::t,ps,fun Hx=>by cases k<;>simp only[sZ,yK hd]⟩
   |hp d' y K=>cases hc
   |fz d' z=>cases hc
   |_=>exact⟨.ret x,_,ps,fun _=>by cases k<;>rfl⟩
theorem Ru{d}{out}{bf}{ps} :
 ∃out' aT ps',∀Hx,sZ d (some (.free,out,Hx,bf,ps))=some (.free,out',Hx,aT,ps'):=by
 cases out with
 |Ay x=>exact⟨.Ay x,bf,ps,fun _=>rfl⟩
 |ret x =>
  cases bf with
  |nil=>exact⟨.ret x,[],ps,fun _=>rfl⟩
  |cons q t =>
   cases q with
   |val d' y =>
    by_cases hd:d'=d
    .exact ⟨.ret y,t,aF x y::ps,fun Hx=>by simp only[sZ,yL hd]⟩
    .exact ⟨.ret x,.val d' y::t,ps,fun Hx=>by simp only[sZ,yK hd]⟩
   |_=>exact⟨.ret x,_,ps,fun _=>rfl⟩
theorem KI{gs}{H K}{bf aT}{k}{out}{H'}{ps}{iw}{len}(h:iP P G ops gs aL H o bf=some (k,out,H',aT,ps))(hf:Vm (Bf G aL) o bf=some (iw,len))(pE:Dj H K iw len) :
 ∃K',iP P G ops gs aL K o bf=some (k,out,K',aT,ps)/\Loc H H' K K' iw len:=by
 have key:∀{k out H' aT ps},sZ o.dst (fD P G H (Bf G aL) o bf)=some (k,out,H',aT,ps)->∃K',sZ o.dst (fD P G K (Bf G aL) o bf)=some (k,out,K',aT,ps)/\Loc H H' K K' iw len:=by
  intro k out H' aT ps hr;cases he:fD P G H (Bf G aL) o bf with
  |none=>rw[he]at hr;simp[sZ]at hr
  |some q =>
   obtain⟨k1,afR,H1,cK,ps1⟩:=q;obtain⟨K1,h1,h2,h3⟩:=Rs he hf pE;obtain⟨o2,mK,ps2,hp⟩:∃out' aT ps',∀Hx,sZ o.dst (some (k1,afR,Hx,cK,ps1))=some (k1,out',Hx,aT,ps'):=by
    rcases h3 with rfl|h3
    .exact Ru
    .exact Rt h3
   grind
 unfold iP at h |-;split at h
 .grind
 .cases h;exact⟨K,rfl,Loc.refl pE⟩
 .cases h
end
variable {l:List AV}
theorem lN{t}{x}(h:t<l.length):(l.set t x).getD t .aP=x:=by simp[h]
theorem w9{s t}{x}(h:s≠t):(l.set s x).getD t .aP=l.getD t .aP:=by simp[h]
theorem uP(aL:List AV)d(x:AV):(gX aL d x).length=aL.length:=by cases d<;>simp[gX]
theorem nT(a:Act)d(v:Value):(a.put d v).defers=a.defers:=by cases d<;>rfl
def eF(V:View)(aL:List AV)(a:Act):Prop:=bR V aL a.tmps.toList
theorem eF.step{V V'}(hs:Step V V'){aL}{a}(h:eF V aL a):eF V' aL a:=bR.step hs h
theorem eF.put{V}{aL}{a}(h:eF V aL a)d{x}{v}(hx:dI V x v):eF V (gX aL d x) (a.put d v):=by
 cases d with
 |none=>exact h
 |some d =>
  unfold eF;have:=bR.set h d hx;simpa[gX,Act.put]using this
theorem eF.get{V}{aL}{a}(h:eF V aL a)t:dI V (aL.getD t .aP) (a.tmps.getD t undef):=by
 by_cases ht:t<aL.length
 .have:=h.2 t ht;simp_all
 .rw [yB,getElem?_eq_none zO];exact .aP _
structure Tr where
 iw:Option (List Nat)
 len:Bool
 k:Kind
 x:AV
 H:List ah
instance:Inhabited Tr:=⟨⟨some [],false,.free,.aP,[]⟩⟩
def Tr.oQ(t:Tr)(id:Nat):Bool:=match t.iw with
 |some l=>l.contains id
 |none=>true
def Tr.yh(t:Tr):Bool:=t.len||t.iw.isNone
def yj(ev:Operand->AV)(o:Oper)(bf:List bC)(k:Kind)(x:AV)(H H':List ah):Tr:=match Vm ev o bf with
 |some (iw,len)=>⟨some (iw++made len H H'),len,k,x,H'⟩
 |none=>⟨none,true,k,x,H'⟩
def kU(ops:Array Oper)(tr:List Tr)(S:Nat->Bool)(aL:List AV):Nat->List AV
 |0=>aL
 |m+1=>if S m=true then gX (kU ops tr S aL m) ((ops[m]?).bind (·.dst)) (tr.getD m default).x else kU ops tr S aL m
def rA(tr:List Tr)(S:Nat->Bool)(H:List ah):Nat->Nat->Option ah
 |0,id=>H[id]?
 |m+1,id=>if S m=true/\(tr.getD m default).k = .lK/\(tr.getD m default).oQ id=true then(tr.getD m default).H[id]? else rA tr S H m id
def xM(tr:List Tr)(S:Nat->Bool)(H:List ah):Nat->Nat
 |0=>H.length
 |m+1=>if S m=true/\(tr.getD m default).k = .lK/\(tr.getD m default).yh=true then(tr.getD m default).H.length else xM tr S H m
structure jL(tr:List Tr)(S:Nat->Bool)(H:List ah)(m:Nat)(K:List ah):Prop where
 at_:∀id,K[id]?=rA tr S H m id
 len:K.length=xM tr S H m
theorem jL.uniq{tr}{S}{H}{m}{K L}(h:jL tr S H m K)(h':jL tr S H m L):K=L :=
 ext_getElem? fun id=>(h.at_ id).trans (h'.at_ id).symm
def qx:Nat->Bool:=fun _=>true
theorem gB ops(tr:List Tr)S(aL:List AV):∀m,(kU ops tr S aL m).length=aL.length
 |0=>rfl
 |m+1=>by
  simp only[kU];split
  .rw [uP,gB ops tr S aL m]
  .exact gB ops tr S aL m
theorem AA{aL}{d:Option Tmp}{x}{t:Nat}(h:d≠some t):(gX aL d x).getD t .aP=aL.getD t .aP:=by
 cases d with
 |none=>rfl
 |some d=>exact w9 fun e=>h (by rw[e])
theorem Dl{ops:Array Oper}{tr}{S T}{aL}{t:Nat}:∀{m:Nat},(∀j,j<m->(ops[j]?).bind (·.dst)=some t->S j=T j)->(kU ops tr S aL m).getD t .aP=(kU ops tr T aL m).getD t .aP
 |0,_=>rfl
 |m+1,h=>by
  have ih:=Dl (m:=m)   (tr:=tr) (aL:=aL)   fun j hj=>h j zO;simp only[kU];by_cases hd:(ops[m]?).bind (·.dst)=some t
  .have:=h m zO hd;rw[this];split
   .rw [hd];simp only[gX];by_cases hl:t<aL.length
    .grind [lN,gB]
    .have out:∀{l:List AV}{x},l.length=aL.length->(l.set t x).getD t .aP = .aP:=fun hl'=>by
      rw[yB,getElem?_eq_none (by rw[length_set];omega)];rfl
     rw[out (gB _ _ _ _ _),out (gB _ _ _ _ _)]
   .exact ih
  .have e1:∀U:Nat->Bool,(if U m=true then gX (kU ops tr U aL m) ((ops[m]?).bind (·.dst)) (tr.getD m default).x else kU ops tr U aL m).getD t .aP=(kU ops tr U aL m).getD t .aP:=fun U=>by
    split
    .exact AA hd
    .rfl
   grind
theorem wm{ops:Array Oper}{tr}{S}{aL}{t i:Nat}:∀{m},i<=m->(∀j,i<=j->j<m->(ops[j]?).bind (·.dst)=some t->S j=false)->(kU ops tr S aL m).getD t .aP=(kU ops tr S aL i).getD t .aP
 |0,uQ,_=>by rw[Nat.le_zero.1 uQ]
 |m+1,uQ,h=>by
  rcases y08 m i with bg|Ct
  .grind
  .simp only[kU];have ih:=wm   (tr:=tr) (aL:=aL)   Ct fun j h1 h2=>h j h1 zO;split
   .rename_i hS;rw[AA fun hd=>by rw[h m Ct zO hd]at hS;cases hS];exact ih
   .exact ih
theorem sH{tr}{S T}{H}{id}:∀{m},(∀j,j<m->(tr.getD j default).k = .lK->(tr.getD j default).oQ id=true->S j=T j)->rA tr S H m id=rA tr T H m id
 |0,_=>rfl
 |m+1,h=>by
  have ih:=sH (m:=m)   (H:=H)   fun j hj=>h j zO;simp only[rA];grind
theorem qy{tr}{S}{H}{i id}:∀{m},i<=m->(∀j,i<=j->j<m->(tr.getD j default).k = .lK->(tr.getD j default).oQ id=true->S j=false)->rA tr S H m id=rA tr S H i id
 |0,uQ,_=>by rw[Nat.le_zero.1 uQ]
 |m+1,uQ,h=>by
  rcases y08 m i with bg|Ct
  .grind
  .simp only[rA];rw[yK fun hc=>by rw[h m Ct zO hc.2.1 hc.2.2]at hc;grind];exact qy Ct fun j h1 h2=>h j h1 zO
theorem wu{tr}{S T}{H}:∀{m},(∀j,j<m->(tr.getD j default).k = .lK->(tr.getD j default).yh=true->S j=T j)->xM tr S H m=xM tr T H m
 |0,_=>rfl
 |m+1,h=>by
  have ih:=wu (m:=m)   (H:=H)  fun j hj=>h j zO;simp only[xM];grind
theorem tu{tr}{S}{H}{i}:∀{m},i<=m->(∀j,i<=j->j<m->(tr.getD j default).k = .lK->(tr.getD j default).yh=true->S j=false)->xM tr S H m=xM tr S H i
 |0,uQ,_=>by rw[Nat.le_zero.1 uQ]
 |m+1,uQ,h=>by
  rcases y08 m i with bg|Ct
  .grind
  .simp only[xM];rw[yK fun hc=>by rw[h m Ct zO hc.2.1 hc.2.2]at hc;grind];exact tu Ct fun j h1 h2=>h j h1 zO
def afS(P:Program)(G:Nat->Option (List AV))(ops:Array Oper)(tr:List Tr)(aL:List AV)(H:List ah)(i:Nat):Prop :=
 ∃o bf aT ps Hi,ops[i]?=some o/\jL tr qx H i Hi/\tr.getD i default=yj (Bf G (kU ops tr qx aL i)) o bf (tr.getD i default).k (tr.getD i default).x Hi (tr.getD i default).H /\
  iP P G ops (iO ops i) (kU ops tr qx aL i) Hi o bf=some ((tr.getD i default).k,.ret (tr.getD i default).x,(tr.getD i default).H,aT,ps)/\gZ ps
def YH(P:Program)(G:Nat->Option (List AV))(ops:Array Oper)(tr:List Tr)(aL:List AV)(H:List ah)(i:Nat)(x:AV)(H1:List ah):Prop :=
 ∃o bf aT ps Hi k,ops[i]?=some o/\jL tr qx H i Hi/\iP P G ops (iO ops i) (kU ops tr qx aL i) Hi o bf=some (k,.Ay x,H1,aT,ps)/\gZ ps/\(k≠.lK->H1=Hi)
theorem OZ{P}{G}{H}{f}{xs}{bf aT}{k}{out}{H'}{ps}(h:qY P G H f xs bf=some (k,out,H',aT,ps))(hk:k≠.lK):H'=H:=by
 unfold qY at h;grind
theorem qz{P}{G}{H}{ev}{o}{bf aT}{k}{out}{H'}{ps}(h:fD P G H ev o bf=some (k,out,H',aT,ps))(hk:k≠.lK):H'=H:=by
 unfold fD at h;split at h
 .obtain ⟨q,_,hq⟩:=Option.map_eq_some_iff.1 h;grind
 .obtain ⟨q,_,hq⟩:=Option.map_eq_some_iff.1 h;grind
 .split at h
  .cases h;rfl
  .cases h;rfl
  .cases h
 .split at h
  .cases h
  .split at h
   .cases h;rfl
   .split at h
    .cases h;rfl
    .split at h
     .cases h;rfl
     .split at h
      .grind
      .unfold dJ at h;split at h
       .split at h
        .grind
        .split at h
         .split at h
          .exact OZ h hk
          .cases h
         .cases h
       .cases h
theorem Io{P}{G}{d}{H}{ev}{o}{bf aT}{k}{out}{H'}{ps}(h:sZ d (fD P G H ev o bf)=some (k,out,H',aT,ps))(hk:k≠.lK):H'=H:=by
 unfold sZ at h;split at h
 .rename_i he;split at h
  .split at h
   .grind
   .cases h
  .rw [<- he]at h;exact qz h hk
 .rename_i he;split at h
  .cases h;exact qz he hk
  .rw [<- he]at h;exact qz h hk
 .grind
 .exact qz h hk
theorem tC{P}{G}{ops}{gs}{aL}{H}{o}{bf aT}{k}{out}{H'}{ps}(h:iP P G ops gs aL H o bf=some (k,out,H',aT,ps))(hk:k≠.lK):H'=H:=by
 unfold iP at h;split at h
 .split at h
  .rename_i hev;split at h
   .split at h
    .cases h;exact Io hev hk
    .cases h
   .cases h;exact Io hev hk
  .cases h
 .cases h;rfl
 .cases h
def bits(acc:List Nat)(o:Oper):Nat:=o.after.toList.foldl (fun s e=>if Region.binds .any e=true then s ||| (2^e.on ||| acc.getD e.on 0)else s) 0
def kX:List Oper->List Nat->List Nat
 |[],acc=>acc
 |o::os,acc=>kX os (acc++[bits acc o])
def YI(ops:Array Oper)(S:Nat->Bool):Prop:=∀j o,ops[j]?=some o->S j=true->∀e∈o.after,Region.binds .any e=true->S e.on=true
theorem Ip{acc}{o}{S:Nat->Bool}(aqx:∀j i,S j=true->(acc.getD j 0).testBit i=true->S i=true)(ho:∀e∈o.after,Region.binds .any e=true->S e.on=true){i}(h:(bits acc o).testBit i=true):S i=true:=by
 have key:∀(l:List Edge)s,(∀e∈l,e∈o.after)->(s.testBit i=true->S i=true)->(l.foldl (fun s e=>if Region.binds .any e=true then s ||| (2^e.on ||| acc.getD e.on 0)else s) s).testBit i=true->S i=true:=by
  intro l
  induction l with
  |nil=>exact fun s _ hs h=>hs h
  |cons e l ih =>
   intro s hl hs h;refine ih _ (fun e he=>hl e (by simp[he])) (fun h=>?_) h;grind
 exact key o.after.toList 0 (fun e he=>by simpa using he) (fun h=>by simp at h) h
theorem zn{ops}{S}(hS:YI ops S):∀(os:List Oper)acc,ops.toList.drop acc.length=os->(∀j i,S j=true->(acc.getD j 0).testBit i=true->S i=true) ->
 ∀j i,S j=true->((kX os acc).getD j 0).testBit i=true->S i=true
 |[],acc,_,h=>h
 |o::os,acc,rW,h=>by
  have bg:acc.length<ops.toList.length:=by
   rcases y08 acc.length ops.toList.length with h|h
   .exact h
   .rw [y14 h]at rW;cases rW
  rw[y01 bg]at rW;injection rW with ho BP;refine zn hS os _ (by simpa using BP) fun j i hj hb=>?_;rcases Nat.lt_trichotomy j acc.length with oL|rfl|hgt
  .rw [yB,getElem?_append_left oL,<- yB]at hb;grind
  .rw [yB,getElem?_append_right yM]at hb;simp only[Nat.sub_self,Option.getD_some]at hb;exact Ip h (hS _ o (by rw[<- ho];simp) hj) hb
  grind
theorem EI:∀ os(acc:List Nat)j,j<acc.length->(kX os acc).getD j 0=acc.getD j 0
 |[],_,_,_=>rfl
 |o::os,acc,j,hj=>by
  rw[kX,EI os _ j (by simp;omega),yB,getElem?_append_left hj,<- yB]
theorem O0{ops:Array Oper}:∀ os(acc:List Nat),ops.toList.drop acc.length=os->∀j o,acc.length<=j->ops[j]?=some o->∃acc',(kX os acc).getD j 0=bits acc' o/\∀i,i<acc'.length->acc'.getD i 0=(kX os acc).getD i 0
 |[],acc,rW,j,o,hj,ho=>by
  have h1:ops.size<=acc.length:=by simpa using rW
  grind
 |o1::os,acc,rW,j,o,hj,ho=>by
  have bg:acc.length<ops.toList.length:=by
   rcases y08 acc.length ops.toList.length with h|h
   .exact h
   grind
  rw[y01 bg]at rW;injection rW with YJ BP;rcases y08 acc.length j with oL|Ct
  .exact O0 os (acc++[bits acc o1]) (by simpa using BP) j o (by simp;omega) ho
  .have hje:j=acc.length:=zO
   subst hje;have:o1=o:=by
    grind
   subst this;refine⟨acc,?_,fun i hi=>?_⟩
   .rw [kX,EI os _ _ zS,yB];simp
   .rw [kX,EI os _ i (by simp;omega),yB (l:=acc++_),getElem?_append_left hi,<- yB]
theorem og{ops}{S}(hS:YI ops S){j}{o}(ho:ops[j]?=some o)(jH:∀e∈o.after,Region.binds .any e=true->S e.on=true){i}(h:((kX ops.toList []).getD j 0).testBit i=true):S i=true:=by
 obtain⟨acc',h1,h2⟩:=O0  ops.toList [] rfl j o yN ho;rw[h1]at h;refine Ip  (fun k m hk hm=>?_) jH h;rcases y08 k acc'.length with bg|Ct
 .rw [h2 k bg]at hm;exact zn hS ops.toList [] rfl (fun _ _ _ h=>by simp at h) k m hk hm
 grind
theorem KJ{ops}{S}(hS:YI ops S){i j}(hj:S j=true)(h:((kX ops.toList []).getD j 0).testBit i=true):S i=true :=
 zn hS ops.toList [] rfl (fun _ _ _ h=>by simp at h) j i hj h
def oh(bs:List Nat)(p:Option Nat)(i:Nat):Bool:=match p with
 |some q=>(bs.getD i 0).testBit q
 |none=>false
def Iq(P:Program)(G:Nat->Option (List AV))(ops:Array Oper)(bs:List Nat)(p:Option Nat):Nat->List Oper->List AV->List ah->List bC->Option (List Tr×List AV×List ah×Option (AV×List ah)×List bC×List Prop)
 |_,[],aL,H,bf=>some ([],aL,H,none,bf,[])
 |i,o::os,aL,H,bf =>
  if oh bs p i=true then
   (match Iq P G ops bs p (i+1) os (gX aL o.dst .aP) H bf with
   |some (tr,env',H',pn,Dh,qs)=>some (⟨some [],false,.free,.aP,H⟩::tr,env',H',pn,Dh,qs)
   |none=>none)
  else if p=some i then
   (match iP P G ops (iO ops i) aL H o bf with
   |some (_,.Ay x,H1,aT,ps)=>match Iq P G ops bs p (i+1) os (gX aL o.dst .aP) H aT with
    |some (tr,env',H',_,Dh,qs)=>some (⟨some [],false,.free,.aP,H⟩::tr,env',H',some (x,H1),Dh,ps++qs)
    |none=>none
   |_=>none)
  else match iP P G ops (iO ops i) aL H o bf with
   |some (k,.ret x,H',aT,ps)=>match Iq P G ops bs p (i+1) os (gX aL o.dst x) H' aT with
    |some (tr,env',H'',pn,Dh,qs)=>some (yj (Bf G aL) o bf k x H H'::tr,env',H'',pn,Dh,ps++qs)
    |none=>none
   |_=>none
theorem YK ev(o:Oper)bf(k:Kind)(x:AV)H H':(yj ev o bf k x H H').k=k/\(yj ev o bf k x H H').x=x/\(yj ev o bf k x H H').H=H':=by grind[yj]
theorem Rv{P}{G}{ops}{gs}{aL}{H}{o}{bf aT}{k}{x}{H'}{ps}(h:iP P G ops gs aL H o bf=some (k,.ret x,H',aT,ps)) :
 (∀id,(yj (Bf G aL) o bf k x H H').oQ id=false->H'[id]?=H[id]?)/\((yj (Bf G aL) o bf k x H H').yh=false->H'.length=H.length):=by
 unfold yj;cases hf:Vm (Bf G aL) o bf with
 |none=>exact⟨fun id h=>by simp[Tr.oQ]at h,fun h=>by simp[Tr.yh]at h⟩
 |some q =>
  obtain⟨K',h1,h2⟩:=KI  h hf ⟨fun _ _=>rfl,fun _=>rfl⟩;refine⟨fun id dU=>(h2.out id ?_).2,fun hl=>(h2.l1 ?_).1⟩
  .simp only[Tr.oQ]at dU;grind
  .simp only[Tr.yh,Bool.or_eq_false_iff]at hl;grind
theorem jL.next{P}{G}{ops}{gs}{aL}{H H0}{o}{bf aT}{k}{x}{H'}{ps}{tr}{i}(hI:jL tr qx H0 i H)(h:iP P G ops gs aL H o bf=some (k,.ret x,H',aT,ps))(ht:tr.getD i default=yj (Bf G aL) o bf k x H H'):jL tr qx H0 (i+1) H':=by
 obtain⟨t1,t2⟩:=Rv h;obtain⟨m1,m2,m3⟩:=YK (Bf G aL) o bf k x H H';constructor
 .intro id;simp only[rA];rw[ht,m1,m3];by_cases hk:k = .lK
  .cases GD:(yj (Bf G aL) o bf k x H H').oQ id with
   |true=>rw[yL ⟨rfl,hk,rfl⟩]
   |false=>rw[yK zS,t1 id GD];exact hI.at_ id
  .rw [yK fun h=>hk h.2.1,tC h hk];exact hI.at_ id
 .simp only[xM];rw[ht,m1,m3];by_cases hk:k = .lK
  .cases GD:(yj (Bf G aL) o bf k x H H').yh with
   |true=>rw[yL ⟨rfl,hk,rfl⟩]
   |false=>rw[yK zS,t2 GD];exact hI.len
  .rw [yK fun h=>hk h.2.1,tC h hk];exact hI.len
theorem jL.skip{tr}{H0 H}{i}(hI:jL tr qx H0 i H)(hk:(tr.getD i default).k = .free):jL tr qx H0 (i+1) H:=by
 constructor
 .intro id;simp only[rA];rw[yK fun h=>by grind];exact hI.at_ id
 .simp only[xM];rw[yK fun h=>by grind];exact hI.len
theorem uR{P:Program}{G:Nat->Option (List AV)}{ops:Array Oper}{bs:List Nat}{p:Option Nat}:∀{os:List Oper}{i:Nat}{aL env':List AV}{H H':List ah}{pn:Option (AV×List ah)}{bf aT:List bC}{tr:List Tr}{ps:List Prop},Iq P G ops bs p i os aL H bf=some (tr,env',H',pn,aT,ps)->gZ ps->ops.toList.drop i=os->i<=ops.size ->
 tr.length=os.length/\∀(Dm:List Tr)(zo:List AV)(H0:List ah),Dm.length=i->kU ops (Dm++tr) qx zo i=aL->jL (Dm++tr) qx H0 i H ->
  (∀j,i<=j->j<ops.size->oh bs p j=false->p≠some j->afS P G ops (Dm++tr) zo H0 j)/\(∀j,i<=j->j<ops.size->oh bs p j=true\/p=some j->((Dm++tr).getD j default).k = .free) /\
  (∀q,p=some q->i<=q->q<ops.size->oh bs p q=false->∃x H1,pn=some (x,H1)/\YH P G ops (Dm++tr) zo H0 q x H1) /\
  kU ops (Dm++tr) qx zo ops.size=env'/\jL (Dm++tr) qx H0 ops.size H'
 |[],i,aL,env',H,H',pn,bf,aT,tr,ps,h,_,rW,ang=>by
  simp only[Iq,y06,Prod.mk.injEq]at h;obtain⟨rfl,rfl,rfl,_,_,_⟩:=h;have uQ:ops.size<=i:=by simpa using rW
  have hi:i=ops.size:=zO
  subst hi;exact⟨rfl,fun Dm zo H0 EJ he hH=>⟨fun j h1 h2=>zO,fun j h1 h2=>zO,fun q _ h1 h2=>zO,he,hH⟩⟩
 |o::os,i,aL,env',H,H',pn,bf,aT,tr,ps,h,dG,rW,ang=>by
  have bg:i<ops.size:=by
   rcases y08 i ops.size with h|h
   .exact h
   .rw [y14 (by simpa using h)]at rW;cases rW
  have oL:i<ops.toList.length:=by simpa using bg
  rw[y01 oL]at rW;injection rW with ho BP;have ho':ops[i]?=some o:=by rw[<- ho];simp[bg]
  have BK:∀(Dm:List Tr)(t:Tr)(tr1:List Tr),Dm.length=i->(Dm++t::tr1).getD i default=t:=fun Dm t tr1 EJ=>by
   rw[yB,getElem?_append_right zO];simp[EJ]
  have F7:∀(Dm:List Tr)(t:Tr)(tr1:List Tr)(zo:List AV),Dm.length=i->kU ops (Dm++t::tr1) qx zo i=aL->kU ops (Dm++t::tr1) qx zo (i+1)=gX aL o.dst t.x:=fun Dm t tr1 zo EJ he=>by
   simp only[kU,qx,if_true];rw[BK Dm t tr1 EJ,ho'];show gX (kU ops _ qx zo i) o.dst t.x=_;rw[he]
  unfold Iq at h;split at h
  ·
   rename_i hb;split at h<;>first|(cases h;done)|skip
   rename_i tr1 O1 H1 pn1 cK qs Ir;cases h;obtain⟨l1,l2⟩:=uR Ir dG BP zO;refine⟨by simp[l1],fun Dm zo H0 EJ he hH=>?_⟩;have hg:=BK Dm ⟨some [],false,.free,.aP,H⟩ tr1 EJ;have:=l2 (Dm++[⟨some [],false,.free,.aP,H⟩]) zo H0 (by simp[EJ]) (by rw[y13,singleton_append];exact F7 _ _ _ _ EJ he) (by rw[y13,singleton_append];exact hH.skip (by rw[hg]));rw[y13,singleton_append]at this;obtain⟨a1,a2,a3,a4,a5⟩:=this;refine⟨fun j h1 h2 h3 h4=>?_,fun j h1 h2 h3=>?_,fun q h1 h2 h3 h4=>?_,a4,a5⟩
   .rcases y25 h1 with h1|rfl
    .exact a1 j h1 h2 h3 h4
    .rw [hb]at h3;cases h3
   .rcases y25 h1 with h1|rfl
    .exact a2 j h1 h2 h3
    .rw [hg]
   .rcases y25 h2 with h2|rfl
    .exact a3 q h1 h2 h3 h4
    .rw [hb]at h4;cases h4
  .rename_i hb;split at h
   ·
    rename_i hp;split at h<;>first|(cases h;done)|skip
    rename_i k x H1 cK qs fB;split at h<;>first|(cases h;done)|skip
    rename_i tr1 O1 H2 pn1 mK rs Ir;cases h;obtain⟨hq,NU⟩:=dN.1 dG;obtain⟨l1,l2⟩:=uR Ir NU BP zO;refine⟨by simp[l1],fun Dm zo H0 EJ he hH=>?_⟩;have hg:=BK Dm ⟨some [],false,.free,.aP,H⟩ tr1 EJ;have:=l2 (Dm++[⟨some [],false,.free,.aP,H⟩]) zo H0 (by simp[EJ]) (by rw[y13,singleton_append];exact F7 _ _ _ _ EJ he) (by rw[y13,singleton_append];exact hH.skip (by rw[hg]));rw[y13,singleton_append]at this;obtain⟨a1,a2,a3,a4,a5⟩:=this;refine⟨fun j h1 h2 h3 h4=>?_,fun j h1 h2 h3=>?_,fun q h1 h2 h3 h4=>?_,a4,a5⟩
    .rcases y25 h1 with h1|rfl
     .exact a1 j h1 h2 h3 h4
     .exact absurd hp h4
    .rcases y25 h1 with h1|rfl
     .exact a2 j h1 h2 h3
     .rw [hg]
    .have:q=i:=by rw[hp]at h1;exact(Option.some.inj h1).symm
     subst this;exact⟨x,H1,rfl,o,bf,cK,qs,H,k,ho',hH,by rw[he];exact fB,hq,fun hk=>tC fB hk⟩
   .rename_i hp;split at h<;>first|(cases h;done)|skip
    rename_i k x H1 cK qs fB;split at h<;>first|(cases h;done)|skip
    rename_i tr1 O1 H2 pn1 mK rs Ir;cases h;obtain⟨hq,NU⟩:=dN.1 dG;obtain⟨l1,l2⟩:=uR Ir NU BP zO;refine⟨by simp[l1],fun Dm zo H0 EJ he hH=>?_⟩;have hg:=BK Dm (yj (Bf G aL) o bf k x H H1) tr1 EJ;obtain⟨m1,m2,m3⟩:=YK (Bf G aL) o bf k x H H1;have:=l2 (Dm++[yj (Bf G aL) o bf k x H H1]) zo H0 (by simp[EJ]) (by rw[y13,singleton_append];have:=F7 Dm (yj (Bf G aL) o bf k x H H1) tr1 zo EJ he;rw[m2]at this;exact this) (by rw[y13,singleton_append];exact hH.next fB hg);rw[y13,singleton_append]at this;obtain⟨a1,a2,a3,a4,a5⟩:=this;refine⟨fun j h1 h2 h3 h4=>?_,fun j h1 h2 h3=>?_,fun q h1 h2 h3 h4=>?_,a4,a5⟩
    .rcases y25 h1 with h1|rfl
     .exact a1 j h1 h2 h3 h4
     .exact ⟨o,bf,cK,qs,H,ho',hH,by rw[hg,he,m1,m2,m3],by rw[hg,he,m1,m2,m3];exact fB,hq⟩
    .rcases y25 h1 with h1|rfl
     .exact a2 j h1 h2 h3
     .rcases h3 with h3|h3
      .exact absurd h3 hb
      .exact absurd h3 hp
    .rcases y25 h2 with h2|rfl
     .exact a3 q h1 h2 h3 h4
     .exact absurd h1 hp
def over(ti tj:Tr):Bool:=match ti.iw,tj.iw with
 |some a,some b=>a.any (fun id=>b.contains id)||(ti.len&&tj.len)
 |_,_=>true
theorem BQ{ti tj}{id}(h:ti.oQ id=true)(h':tj.oQ id=true):over ti tj=true:=by
 unfold over;unfold Tr.oQ at h h';grind
theorem Iu{ti tj}(h:ti.yh=true)(h':tj.yh=true):over ti tj=true:=by
 unfold over;unfold Tr.yh at h h';grind
def kP(ops:Array Oper)(ti tj:Tr)(oi oj:Oper):Bool :=
 (match oi.dst with|some d=>(oj.looksAt ops).contains d||oj.dst==some d|none=>false) ||
 (match oj.dst with|some d=>(oi.looksAt ops).contains d|none=>false) ||
 ((ti.k == .lK && !(tj.k == .free))&&over ti tj)||((tj.k == .lK && !(ti.k == .free))&&over ti tj)
def Dn(ops:Array Oper)(b:Nat)(tj:Tr)(oj:Oper):Nat->List Oper->List Tr->Bool
 |i,oi::os,ti::tr=>(!(kP ops ti tj oi oj)||b.testBit i)&&Dn ops b tj oj (i+1) os tr
 |_,_,_=>true
def oo(ops:Array Oper)(tr:List Tr)(bs:List Nat):Nat->List Oper->Bool
 |_,[]=>true
 |j,o::os=>(o.after.toList.all fun e=>!(Region.binds .any e)||Nat.blt e.on j)&&Dn ops (bs.getD j 0) (tr.getD j default) o 0 (ops.toList.take j) (tr.take j)&&oo ops tr bs (j+1) os
theorem Bo{ops}{b}{tj}{oj}:∀{os}{tr}{i0},Dn ops b tj oj i0 os tr=true->∀i oi ti,os[i]?=some oi->tr[i]?=some ti->kP ops ti tj oi oj=true->b.testBit (i0+i)=true
 |[],_,_,_,i,_,_,h,_,_=>by simp at h
 |_::_,[],_,_,i,_,_,_,h,_=>by simp at h
 |o::os,t::tr,i0,h,i,oi,ti,ho,ht,hc=>by
  simp only[Dn,y04,Bool.or_eq_true]at h;cases i with
  |zero =>
   grind
  |succ i =>
   have:=Bo h.2 i oi ti (by simpa using ho) (by simpa using ht) hc;grind
theorem lQ{ops}{tr}{bs}:∀{os}{j0},oo ops tr bs j0 os=true->ops.toList.drop j0=os->∀j o,j0<=j->ops[j]?=some o ->
 (∀e∈o.after,Region.binds .any e=true->e.on<j)/\Dn ops (bs.getD j 0) (tr.getD j default) o 0 (ops.toList.take j) (tr.take j)=true
 |[],j0,_,rW,j,o,hj,ho=>by
  have h1:ops.size<=j0:=by simpa using rW
  grind
 |o1::os,j0,h,rW,j,o,hj,ho=>by
  have bg:j0<ops.toList.length:=by grind
  rw[y01 bg]at rW;injection rW with YJ BP;simp only[oo,y04]at h;rcases y08 j0 j with oL|Ct
  .exact lQ h.2 BP j o zO ho
  .have hje:j=j0:=zO
   subst hje;have:o1=o:=by
    grind
   subst this;refine⟨fun e he hb=>?_,h.1.2⟩;have:=all_eq_true.1 h.1.1 e (by simpa using he);simp_all
theorem bR.congr{V}{xs ys}{vs}(h:bR V xs vs)(hl:ys.length=xs.length)(he:∀t,t<xs.length->ys.getD t .aP=xs.getD t .aP):bR V ys vs :=
 ⟨h.1.trans hl.symm,fun j hj=>by rw[he j zO];exact h.2 j zO⟩
def rX(listed:Array Bool)(i:Nat):Bool:=listed.getD i false
theorem aco{listed}{i}(hi:i<listed.size)j:rX (listed.setIfInBounds i true) j=if j=i then true else rX listed j:=by
 unfold rX;by_cases h:j=i
 .simp_all
 .simp [h,show i≠j from fun e=>h e.symm]
variable {Q:Exit->Act->World->Prop}
section
variable {P:Program} {G:Nat->Option (List AV)} {r:Option Nat} {ops:Array Oper} {tr:List Tr} {aL:List AV} {H:List ah}
structure Inv(G:Nat->Option (List AV))(ops:Array Oper)(tr:List Tr)(aL:List AV)(H:List ah)(p:Option Nat)(a0:Act)(listed:Array Bool)(V:View)(a:Act):Prop where
 size:listed.size=ops.size
 Rw:YI ops (rX listed)
 hG:aD G V
 hH:jL tr (rX listed) H ops.size V.H
 he:eF V (kU ops tr (rX listed) aL ops.size) a
 hd:a.defers=a0.defers
 pn:∀q,p=some q->rX listed q=false
theorem Dp{ti tj}{oi oj}(h:ti.k = .lK)(h':tj.k≠.free)(ho:over ti tj=true):kP ops ti tj oi oj=true:=by
 have:(ti.k == .lK && !(tj.k == .free))=true:=by grind
 unfold kP;grind
theorem O3{ti tj}{oi oj}(h:tj.k = .lK)(h':ti.k≠.free)(ho:over ti tj=true):kP ops ti tj oi oj=true:=by
 have:(tj.k == .lK && !(ti.k == .free))=true:=by grind
 unfold kP;grind
theorem AB(hc:oo ops tr (kX ops.toList []) 0 ops.toList=true)(hl:tr.length=ops.size){i j}{oi oj}(hi:ops[i]?=some oi)(hj:ops[j]?=some oj)(wQ:i<j)(h:kP ops (tr.getD i default) (tr.getD j default) oi oj=true):((kX ops.toList []).getD j 0).testBit i=true:=by
 have JN:=(Array.getElem?_eq_some_iff.1 hj).1;have h1:=(lQ hc rfl j oj yN hj).2;have:=Bo h1 i oi (tr.getD i default) (by rw[getElem?_take];grind) (by
  grind) h
 grind
theorem YL{p}(hl:tr.length=ops.size)(hc:oo ops tr (kX ops.toList []) 0 ops.toList=true){a0}{listed}{V}{a}(hI:Inv G ops tr aL H p a0 listed V a){i}(htr:afS P G ops tr aL H i)(hip:p≠some i)(hi:i∈Region.ready .any ops listed){Q}{next}(hn:∀V' a',Step V V'->Inv G ops tr aL H p a0 (listed.setIfInBounds i true) V' a'->next a' V'.w):wpOpIn (fz r) 0 P ops Q i next a V.w:=by
 obtain⟨Iw,o,ho,jH⟩:=mem_ready.1 hi;have O4:=(Array.getElem?_eq_some_iff.1 ho).1;have QB:i<listed.size:=by rw[hI.size];exact O4
 have Iy:rX listed i=false:=by
  unfold rX;simp only[Array.getD_eq_getD_getElem?,Array.getElem?_eq_getElem QB,Option.getD_some]at Iw |-;exact Iw
 have Iz:=jH;obtain⟨o',bf,aT,ps,Hi,ho',hHi,hmk,fB,dG⟩:=htr;rw[ho]at ho';cases ho';have Vr:∀{j:Nat}{t:Tmp},(ops[j]?).bind (·.dst)=some t->∃oj,ops[j]?=some oj/\oj.dst=some t:=fun{j t} h=>by
  cases hj:ops[j]? with
  |none=>simp[hj]at h
  |some oj=>exact⟨oj,rfl,by simpa[hj]using h⟩
 have before:∀{j:Nat}{oj:Oper},ops[j]?=some oj->j<i->kP ops (tr.getD j default) (tr.getD i default) oj o=true->rX listed j=true:=fun hj bg h =>
  og hI.Rw ho Iz (AB hc hl hj ho bg h)
 have after:∀{j:Nat}{oj:Oper},ops[j]?=some oj->i<j->kP ops (tr.getD i default) (tr.getD j default) o oj=true->rX listed j=false:=fun{j oj} hj bg h=>by
  cases hs:rX listed j with
  |false=>rfl
  |true=>rw[KJ hI.Rw hs (AB hc hl ho hj bg h)]at Iy;cases Iy
 have YM:∀t∈o.looksAt ops,(kU ops tr qx aL i).getD t .aP=(kU ops tr (rX listed) aL ops.size).getD t .aP:=fun t ht=>by
  rw[wm (S:=rX listed) (Nat.le_of_lt O4) fun j h1 h2 hd=>?_]
  .exact Dl fun j hj hd=>by
    obtain⟨oj,Vs,TS⟩:=Vr hd;exact(before Vs hj (by simp[kP,TS,ht])).symm
  .obtain ⟨oj,Vs,TS⟩:=Vr hd;rcases y25 h1 with h1|rfl
   .exact after Vs h1 (by simp[kP,TS,ht])
   .exact Iy
 have pF:=aco QB;have opAt:∀{j:Nat}(h:j<ops.size),ops[j]?=some ops[j]:=fun h=>zS
 have ajI:∀id,(tr.getD i default).k≠.free->(tr.getD i default).oQ id=true->V.H[id]?=Hi[id]? := fun id hk GD=>by
  rw[hI.hH.at_,hHi.at_,qy (S:=rX listed) (Nat.le_of_lt O4) fun j h1 h2 he ht=>?_]
  .exact sH fun j hj he ht=>before (opAt zO) hj (Dp he hk (BQ ht GD))
  .rcases y25 h1 with h1|rfl
   .exact after (opAt h2) h1 (O3 he hk (BQ GD ht))
   .exact Iy
 have bL:(tr.getD i default).k≠.free->(tr.getD i default).yh=true->V.H.length=Hi.length:=fun hk GD=>by
  rw[hI.hH.len,hHi.len,tu (S:=rX listed) (Nat.le_of_lt O4) fun j h1 h2 he ht=>?_]
  .exact wu fun j hj he ht=>before (opAt zO) hj (Dp he hk (Iu ht GD))
  .rcases y25 h1 with h1|rfl
   .exact after (opAt h2) h1 (O3 he hk (Iu GD ht))
   .exact Iy
 have YN:∀id,(tr.getD i default).k = .lK->rA tr (rX (listed.setIfInBounds i true)) H ops.size id=if(tr.getD i default).oQ id=true then(tr.getD i default).H[id]? else V.H[id]? := fun id Gg=>by
  cases GD:(tr.getD i default).oQ id with
  |true =>
   rw[yL rfl,qy (S:=rX (listed.setIfInBounds i true)) (i:=i+1) zO fun j h1 h2 he ht=>?_]
   .simp only[rA];rw[yL ⟨by rw[pF,yL rfl],Gg,GD⟩]
   .rw [pF,yK zO];exact after (opAt h2) zO (Dp Gg (by rw[he];simp) (BQ GD ht))
  |false =>
   rw[yK zS,hI.hH.at_];exact sH fun j _ he ht=>by rw[pF,yK fun e=>by rw[e,GD]at ht;cases ht]
 have TT:(tr.getD i default).k = .lK->xM tr (rX (listed.setIfInBounds i true)) H ops.size=if(tr.getD i default).yh=true then(tr.getD i default).H.length else V.H.length:=fun Gg=>by
  cases GD:(tr.getD i default).yh with
  |true =>
   rw[yL rfl,tu (S:=rX (listed.setIfInBounds i true)) (i:=i+1) zO fun j h1 h2 he ht=>?_]
   .simp only[xM];rw[yL ⟨by rw[pF,yL rfl],Gg,GD⟩]
   .rw [pF,yK zO];exact after (opAt h2) zO (Dp Gg (by rw[he];simp) (Iu GD ht))
  |false =>
   rw[yK zS,hI.hH.len];exact wu fun j _ he ht=>by rw[pF,yK fun e=>by rw[e,GD]at ht;cases ht]
 have Rx:(tr.getD i default).k≠.lK->jL tr (rX (listed.setIfInBounds i true)) H ops.size V.H:=fun Gg =>
  ⟨fun id=>by rw[hI.hH.at_];exact sH fun j _ he _=>by rw[pF,yK fun e=>Gg (by rw[<- e];exact he)],
   by rw[hI.hH.len];exact wu fun j _ he _=>by rw[pF,yK fun e=>Gg (by rw[<- e];exact he)]⟩
 have key:∃K' Hx,iP P G ops (iO ops i) (kU ops tr qx aL i) Hx o bf=some ((tr.getD i default).k,.ret (tr.getD i default).x,K',aT,ps)/\(V.H=Hx\/(tr.getD i default).k = .free) /\
  jL tr (rX (listed.setIfInBounds i true)) H ops.size (if(tr.getD i default).k = .free then V.H else K'):=by
  by_cases hk:(tr.getD i default).k = .free
  .exact ⟨_,_,fB,.inr hk,by rw[yL hk];exact Rx (by rw[hk];simp)⟩
  .suffices hs:∃K' Hx,iP P G ops (iO ops i) (kU ops tr qx aL i) Hx o bf=some ((tr.getD i default).k,.ret (tr.getD i default).x,K',aT,ps)/\V.H=Hx/\jL tr (rX (listed.setIfInBounds i true)) H ops.size K' by
    obtain⟨K',Hx,h1,h2,h3⟩:=hs;exact⟨K',Hx,h1,.inl h2,by rw[yK hk];exact h3⟩
   cases hf:Vm (Bf G (kU ops tr qx aL i)) o bf with
   |none =>
    have BF:(tr.getD i default).iw=none:=by rw[hmk];unfold yj;rw[hf]
    have GD:∀id,(tr.getD i default).oQ id=true:=fun id=>by unfold Tr.oQ;rw[BF]
    have uQ:(tr.getD i default).yh=true:=by unfold Tr.yh;rw[BF];simp
    have hVH:=ext_getElem? fun id=>ajI id hk (GD id);refine⟨_,_,fB,hVH,?_⟩;by_cases Gg:(tr.getD i default).k = .lK
    .exact ⟨fun id=>by rw[YN id Gg,yL (GD id)],by rw[TT Gg,yL uQ]⟩
    .rw [tC fB Gg,<- hVH];exact Rx Gg
   |some q =>
    obtain⟨iw,len⟩:=q;have BF:(tr.getD i default).iw=some (iw++made len Hi (tr.getD i default).H)/\(tr.getD i default).len=len:=by
     constructor
     .conv=>lhs;rw[hmk]
      unfold yj;rw[hf]
     .rw [hmk];unfold yj;rw[hf]
    have GD:∀id,(tr.getD i default).oQ id=true↔id∈iw++made len Hi (tr.getD i default).H:=fun id=>by unfold Tr.oQ;rw[BF.1];exact contains_iff_mem
    have uQ:(tr.getD i default).yh=len:=by unfold Tr.yh;rw[BF.1,BF.2];simp
    obtain⟨K',h1,h2⟩:=KI (K:=V.H) fB hf ⟨fun id dU=>ajI id hk ((GD id).2 (mem_append_left _ dU)),fun h=>bL hk (by rw[uQ];exact h)⟩;refine⟨K',V.H,h1,rfl,?_⟩;by_cases Gg:(tr.getD i default).k = .lK
    .refine ⟨fun id=>?_,?_⟩
     .rw [YN id Gg];by_cases ht:id∈iw++made len Hi (tr.getD i default).H
      .rw [yL ((GD id).2 ht)];exact h2.inn id ht
      .rw [yK fun h=>ht ((GD id).1 h)];exact(h2.out id ht).1
     .rw [TT Gg,uQ];cases len with
      |true=>rw[yL rfl];exact h2.l2 rfl
      |false=>rw[yK zS];exact(h2.l1 rfl).2
    .rw [tC h1 Gg];exact Rx Gg
 obtain⟨K',Hx,YO,Dq,iJ⟩:=key;refine(qw (r:=r) (a:=a) (V:=V) ho YO dG hI.hG (fun t ht=>by rw[YM t ht];exact hI.he.get t) Dq).1 next Q (fun V' v x hx hs hG' hVH zq=>?_) (fun V' v x hx=>by cases hx)
 cases hx;refine hn V' _ hs ⟨by simpa using hI.size,fun j oj Vs hj e he hb=>?_,hG',?_,?_,(nT _ _ _).trans hI.hd,fun q hq=>?_⟩
 .rw [pF]at hj |-;split
  .rfl
  .by_cases hji:j=i
   .subst hji;rw[ho]at Vs;cases Vs;exact Iz e he hb
   .rw [yK hji]at hj;exact hI.Rw j oj Vs hj e he hb
 .rw [hVH];exact iJ
 .refine ((hI.he.step hs).put o.dst zq).congr (by rw[uP,gB,gB]) fun t ht=>?_;rw[uP,gB]at ht;by_cases hd:o.dst=some t
  .have hR:(gX (kU ops tr (rX listed) aL ops.size) o.dst (tr.getD i default).x).getD t .aP=(tr.getD i default).x:=by
    rw[hd];exact lN (by rw[gB];exact ht)
   rw[hR,wm (S:=rX (listed.setIfInBounds i true)) (i:=i+1) zO fun j h1 h2 TS=>?_]
   .simp only[kU];rw[yL (by rw[pF,yL rfl]),ho];show(gX _ o.dst _).getD t .aP=_;rw[hd];exact lN (by rw[gB];exact ht)
   .rw [pF,yK zO];obtain⟨oj,Vs,TS⟩:=Vr TS;exact after Vs zO (by simp[kP,TS,hd])
  .rw [AA hd];exact Dl fun j _ TS=>by
    rw[pF,yK fun e=>by
     subst e;rw[ho]at TS;exact hd TS]
 .rw [pF,yK fun e=>hip (by rw[<- e];exact hq)];exact hI.pn q hq
theorem acp{q:Nat}{x:AV}{H1:List ah}(hl:tr.length=ops.size)(hc:oo ops tr (kX ops.toList []) 0 ops.toList=true){a0:Act}{listed:Array Bool}{a:Act}(hI:Inv G ops tr aL H (some q) a0 listed V a)(hpn:YH P G ops tr aL H q x H1)(ajJ:∀j,j<ops.size->(tr.getD j default).k = .lK->((kX ops.toList []).getD q 0).testBit j=true)(hqk:(tr.getD q default).k = .free)(hi:q∈Region.ready .any ops listed){next:Act->World->Prop}(hn:∀V' v,Step V V'->aD G V'->V'.H=H1->dI V' x v->Q (.panic [{ v:=v,recovered:=false }]) a V'.w):wpOpIn (fz r) 0 P ops Q q next a V.w:=by
 obtain⟨Iw,o,ho,jH⟩:=mem_ready.1 hi;have O4:=(Array.getElem?_eq_some_iff.1 ho).1;have Iz:=jH;have Iy:=hI.pn q rfl;obtain⟨o',bf,aT,ps,Hi,k,ho',hHi,fB,dG,hnk⟩:=hpn;rw[ho]at ho';cases ho';have Vr:∀{j:Nat}{t:Tmp},(ops[j]?).bind (·.dst)=some t->∃oj,ops[j]?=some oj/\oj.dst=some t:=fun{j t} h=>by
  cases hj:ops[j]? with
  |none=>simp[hj]at h
  |some oj=>exact⟨oj,rfl,by simpa[hj]using h⟩
 have before:∀{j:Nat}{oj:Oper},ops[j]?=some oj->j<q->kP ops (tr.getD j default) (tr.getD q default) oj o=true->rX listed j=true:=fun hj bg h =>
  og hI.Rw ho Iz (AB hc hl hj ho bg h)
 have after:∀{j:Nat}{oj:Oper},ops[j]?=some oj->q<j->kP ops (tr.getD q default) (tr.getD j default) o oj=true->rX listed j=false:=fun{j oj} hj bg h=>by
  cases hs:rX listed j with
  |false=>rfl
  |true=>rw[KJ hI.Rw hs (AB hc hl ho hj bg h)]at Iy;cases Iy
 have YM:∀t∈o.looksAt ops,(kU ops tr qx aL q).getD t .aP=(kU ops tr (rX listed) aL ops.size).getD t .aP:=fun t ht=>by
  rw[wm (S:=rX listed) (Nat.le_of_lt O4) fun j h1 h2 hd=>?_]
  .exact Dl fun j hj hd=>by
    obtain⟨oj,Vs,TS⟩:=Vr hd;exact(before Vs hj (by simp[kP,TS,ht])).symm
  .obtain ⟨oj,Vs,TS⟩:=Vr hd;rcases y25 h1 with h1|rfl
   .exact after Vs h1 (by simp[kP,TS,ht])
   .exact Iy
 have inn:∀j,j<ops.size->(tr.getD j default).k = .lK->rX listed j=true:=fun j hj he=>og hI.Rw ho Iz (ajJ j hj he);have small:∀j,j<ops.size->(tr.getD j default).k = .lK->j<q:=fun j hj he=>by
  rcases Nat.lt_trichotomy j q with h|rfl|h
  .exact h
  .grind
  ·
   exfalso;have hS:YI ops (fun i=>decide (i<q)):=fun m om hom hm e he hb=>by
    have h1:=(lQ hc rfl m om yN hom).1 e he hb;grind
   have:=og hS ho (fun e he hb=>by
    have h1:=(lQ hc rfl q o yN ho).1 e he hb;simpa using h1) (ajJ j hj he)
   grind
 have hVH:V.H=Hi:=by
  refine jL.uniq (tr:=tr) (S:=qx) (H:=H) (m:=q) ⟨fun id=>?_,?_⟩ hHi
  .rw [hI.hH.at_,qy (S:=rX listed) (Nat.le_of_lt O4) fun j h1 h2 he _=>absurd (small j h2 he) zO];exact sH fun j hj he _=>inn j zO he
  .rw [hI.hH.len,tu (S:=rX listed) (Nat.le_of_lt O4) fun j h1 h2 he _=>absurd (small j h2 he) zO];exact wu fun j hj he _=>inn j zO he
 refine(qw (r:=r) (a:=a) (V:=V) ho fB dG hI.hG (fun t ht=>by rw[YM t ht];exact hI.he.get t) (.inl hVH)).1 next Q (fun V' v x hx=>by cases hx) (fun V' v y hy hs hG' hV1 zq=>?_)
 grind
theorem acr(hc:oo ops tr (kX ops.toList []) 0 ops.toList=true){listed}(hs:listed.size=ops.size)(hr:Region.ready .any ops listed=[]):∀i,i<ops.size->rX listed i=true:=by
 intro i
 induction i using Nat.strongRecOn with
 |_ i ih =>
  intro hi;have ho:ops[i]?=some ops[i]:=zS
  have h1:=(lQ hc rfl i _ yN ho).1;cases hS:rX listed i with
  |true=>rfl
  |false =>
   have:=mem_ready.2 ⟨by
    unfold rX at hS;grind,_,ho,fun e he hb=>ih e.on (h1 e he hb) (by have:=h1 e he hb;omega)⟩
   grind
theorem KL{p:Option Nat}{x:AV}{H1:List ah}{afT:List ah}(hl:tr.length=ops.size)(htr:∀j,j<ops.size->oh (kX ops.toList []) p j=false->p≠some j->afS P G ops tr aL H j)(hc:oo ops tr (kX ops.toList []) 0 ops.toList=true)(iJ:jL tr qx H ops.size afT)(acs:∀q,p=some q->q<ops.size/\YH P G ops tr aL H q x H1/\(∀j,j<ops.size->(tr.getD j default).k = .lK->((kX ops.toList []).getD q 0).testBit j=true)/\(tr.getD q default).k = .free){a0:Act}:∀(fuel:Nat){listed:Array Bool}{V:View}{a:Act},
 Inv G ops tr aL H p a0 listed V a->listed.toList.count false<=fuel ->
 (p=none->∀V' a',Step V V'->aD G V'->V'.H=afT->eF V' (kU ops tr qx aL ops.size) a'->a'.defers=a0.defers->Q .normal a' V'.w) ->
 (∀V' a' v S,p≠none->Step V V'->aD G V'->V'.H=H1->eF V' (kU ops tr S aL ops.size) a'->a'.defers=a0.defers->dI V' x v->Q (.panic [{ v:=v,recovered:=false }]) a' V'.w)->wpAnyIn (fz r) 0 P .any ops Q fuel listed a V.w:=by
 have fin:∀{listed:Array Bool}{V:View}{a:Act},Inv G ops tr aL H p a0 listed V a->(∀i,i<ops.size->rX listed i=true)->V.H=afT/\eF V (kU ops tr qx aL ops.size) a:=fun{listed V a} hI jH =>
  ⟨jL.uniq ⟨fun id=>by rw[hI.hH.at_];exact sH fun j hj _ _=>jH j hj,by rw[hI.hH.len];exact wu fun j hj _ _=>jH j hj⟩ iJ,bR.congr hI.he (by rw[gB,gB]) fun t _=>(Dl fun j hj _=>jH j hj).symm⟩
 have nop:∀{listed:Array Bool}{V:View}{a:Act},Inv G ops tr aL H p a0 listed V a->(∀i,i<ops.size->rX listed i=true)->p=none:=fun{listed V a} hI jH=>by
  cases hp:p with
  |none=>rfl
  |some q=>have:=hI.pn q hp;rw[jH q (acs q hp).1]at this;cases this
 intro fuel
 induction fuel with
 |zero =>
  intro listed V a hI anh hn _;have jH:∀i,i<ops.size->rX listed i=true:=fun i hi=>by
   cases hS:rX listed i with
   |true=>rfl
   |false =>
    have QB:i<listed.size:=by rw[hI.size];exact hi
    have:false∈listed.toList:=by
     unfold rX at hS;simp only[Array.getD_eq_getD_getElem?,Array.getElem?_eq_getElem QB,Option.getD_some]at hS;rw[<- hS];simp
    have:=count_pos_iff.2 this;omega
  refine⟨?_,hn (nop hI jH) V a (Step.refl V) hI.hG (fin hI jH).1 (fin hI jH).2 hI.hd⟩;cases hr:Region.ready .any ops listed with
  |nil=>rfl
  |cons i is =>
   have hi:i∈Region.ready .any ops listed:=by rw[hr];simp
   obtain⟨Iw,o,ho,_⟩:=mem_ready.1 hi;have O4:=(Array.getElem?_eq_some_iff.1 ho).1;have h1:=jH i O4;have QB:i<listed.size:=by rw[hI.size];exact O4
   unfold rX at h1;grind
 |succ fuel ih =>
  intro listed V a hI anh hn hpq;refine⟨fun hr=>?_,fun i hi=>?_⟩
  .have jH:=acr hc hI.size hr;exact hn (nop hI jH) V a (Step.refl V) hI.hG (fin hI jH).1 (fin hI jH).2 hI.hd
  .obtain ⟨Iw,o,ho,jH⟩:=mem_ready.1 hi;have O4:=(Array.getElem?_eq_some_iff.1 ho).1;have Iz:=jH;by_cases hip:p=some i
   .subst hip;obtain⟨_,k1,k2,k3⟩:=acs i rfl;exact acp hl hc hI k1 k2 k3 hi fun V' v s1 g1 h1 r1=>hpq V' a v (rX listed) zS s1 g1 h1 (hI.he.step s1) hI.hd r1
   .have hib:oh (kX ops.toList []) p i=false:=by
     cases hb:oh (kX ops.toList []) p i with
     |false=>rfl
     |true =>
      unfold oh at hb;split at hb
      .rename_i q;have:=og hI.Rw ho Iz hb;rw[hI.pn q rfl]at this;cases this
      .cases hb
    refine YL hl hc hI (htr i O4 hib hip) hip hi fun V' a' hs hI'=>ih hI' ?_ (fun hp V2 a2 s2 g2 h2 e2 d2=>hn hp V2 a2 (hs.trans s2) g2 h2 e2 d2) (fun V2 a2 v2 S hp s2 g2 h2 e2 d2 r2=>hpq V2 a2 v2 S hp (hs.trans s2) g2 h2 e2 d2 r2);have QB:i<listed.size:=by rw[hI.size];exact O4
    simp only[Array.getD_eq_getD_getElem?,Array.getElem?_eq_getElem QB,Option.getD_some]at Iw;grind
end
def eO(F:Fence)(n:Nat)(P:Program)(c:Code)(Q:Exit->Act->World->Prop)(a:Act)(w:World):Prop :=
 ∀(b:Frame)(k:List Item)(cs:List Frame),b.roundOf=F.round->F.fn b.fn->F.room (cs.length+1+n) ->
  ∃e a' w',Q e a' w'/\ArrivesIn (Machine.fenced P F) P (lone (b.atR a (.code c :: .inLoop c::k)) cs w) b k cs e a' w'
section
variable {F:Fence} {n:Nat} {P:Program} {Q:Exit->Act->World->Prop} {a:Act} {w:World} {c:Code}
theorem eO.wpIn(h:eO F n P c Q a w):(Code.loop c).wpIn F n P Q a w:=fun b k cs hro hb hr =>
 let ⟨e,a',w',hq,zu⟩:=h b k cs hro hb hr
 ⟨e,a',w',hq,.of_steps (.one (fenced_calm hb hr rfl) stepR_loop) zu⟩
theorem eO.next(h:c.wpIn F n P (Exit.then (eO F n P c Q) Q) a w):eO F n P c Q a w:=by
 intro b k cs hro hb hr;obtain⟨e,a₁,w₁,hq,zu⟩:=h b (.inLoop c::k) cs hro hb hr;cases e with
 |normal =>
  obtain⟨e₂,a₂,w₂,hq₂,harr₂⟩:=hq b k cs hro hb hr;exact⟨e₂,a₂,w₂,hq₂,.of_steps (StepsIn.trans zu (.one (fenced_calm hb hr rfl) stepR_inLoop)) harr₂⟩
 |exit id=>exact⟨_,a₁,w₁,hq,.pass  rfl (fun _ _=>.inl zS) zu⟩
 |goto l=>exact⟨_,a₁,w₁,hq,.pass  rfl (fun _ _=>.inl zS) zu⟩
 |ret=>exact⟨_,a₁,w₁,hq,.pass  rfl (fun _ _=>.inl zS) zu⟩
 |panic ch=>exact⟨_,a₁,w₁,hq,.pass  rfl (fun _ _=>.inl zS) zu⟩
 |outgrown=>exact⟨_,a₁,w₁,hq,.pass  rfl (fun _ _=>.inl zS) zu⟩
end
variable {b:Frame}
section
variable {F:Fence} {n:Nat} {P:Program} {Q:Exit->Act->World->Prop} {a:Act} {w:World} {c:Code}
theorem nJ{k}{cs}:step P (lone (b.atR a (.code (.scope c)::k)) cs w) = .next (lone (b.atR a (.code c :: .inScope c::k)) cs w) :=
 step_lone_go (by simp[stepG,stepG.exec,Frame.atR])
theorem J6{k}{cs}:step P (lone (b.atR a (.inScope c::k)) cs w) = .next (lone (b.atR a k) cs w) :=
 step_lone_go (by simp[stepG,stepG.exec,Frame.atR])
theorem Ry(h:c.wpIn F n P Q a w)(hng:∀l a w,¬Q (.goto l) a w):(Code.scope c).wpIn F n P Q a w:=by
 intro b k cs hro hb hr;have h0:(lone (b.atR a (.code (.scope c)::k)) cs w).fenced P F:=fenced_calm hb hr rfl;obtain⟨e,a₁,w₁,hq,zu⟩:=h b (.inScope c::k) cs hro hb hr;cases e with
 |normal=>exact⟨.normal,a₁,w₁,hq,.head h0 nJ (StepsIn.trans zu (.one (fenced_calm hb hr rfl) J6))⟩
 |exit id =>
  have hx:exitTo id (.inScope c::k)=exitTo id k:=by simp[exitTo]
  exact⟨_,a₁,w₁,hq,fun k' hk=>.head h0 nJ (zu.1 k' (by exact hk)),
   fun hr' hk=>let ⟨k₁,h1,h2⟩:=zu.2 hr' (by exact hk);⟨k₁,h1,.head h0 nJ h2⟩⟩
 |goto l=>exact(hng _ _ _ hq).elim
 |ret=>exact⟨_,a₁,w₁,hq,.of_steps (.one h0 nJ) zu⟩
 |panic ch=>exact⟨_,a₁,w₁,hq,.of_steps (.one h0 nJ) zu⟩
 |outgrown=>exact⟨_,a₁,w₁,hq,.of_steps (.one h0 nJ) zu⟩
end
inductive ig where
 |mark (id:Nat)
 |call (f:FuncId) (xs:List AV)
  |nK (a:Nat)
  |kC (id a:Nat)
def ah.vG:ah->Bool
 |.box _|.iter ..|.uE|.aH=>true
 |_=>false
structure St where
 aL:List AV
 H:List ah
 dh:List ig:=[]
def ah.Bp:ah->Bool
 |.uE|.aH=>true
 |_=>false
theorem pG{V V'}(hs:Step V V'){id}(h:bY ah.Bp V id):bY ah.Bp V' id/\V'.ρ id=V.ρ id :=
 h.step hs rfl (fun _ _ _ _=>rfl) (fun h=>absurd h (by simp[ah.Bp])) (fun _ _=>rfl) (fun _ _=>rfl) (fun _ _ _ _ _ _ _ _ _ _ _ _=>rfl) (fun _ _ _ _=>rfl)
def IB(b:Nat):Deferred:={ target:=.collected b,args:=#[] }
def zw(V:View):ig->Deferred->Prop
 |.mark id,d=>bY ah.Bp V id/\d={ target:=.collected (V.ρ id),args:=#[] }
 |.call f xs,d=>∃cs,d.target = .fn (.func f) cs/\bR V xs (d.args.toList++cs.toList)
 |.nK _,_=>False
 |.kC ..,_=>False
theorem wz{V V'}(hs:Step V V'){id}(h:bY ah.vG V id):bY ah.vG V' id/\V'.ρ id=V.ρ id :=
 h.step hs rfl (fun _ _ _ _=>rfl) (fun _ _=>rfl) (fun h=>absurd h (by simp[ah.vG])) (fun _ _=>rfl) (fun _ _ _ _ _ _ _ _ _ _ _ _=>rfl) (fun _ _ _ _=>rfl)
theorem zw.step{V V'}(hs:Step V V'){x}{d}(h:zw V x d):zw V' x d:=by
 cases x with
 |mark id=>obtain⟨h1,rfl⟩:=h;obtain⟨k1,k2⟩:=pG hs h1;exact⟨k1,by rw[k2]⟩
 |call f xs=>obtain⟨cs,h1,h2⟩:=h;exact⟨cs,h1,h2.step hs⟩
 |nK a=>exact h.elim
 |kC id a=>exact h.elim
def xg(V:View)(a b:Nat):Prop:=V.ρ a<b/\b<V.w.heap.size/\V.M b/\(∀i,i<V.H.length->V.ρ i≠b)/\V.w.heap[b]?=some (.deferred (some []))
inductive dS(V:View):List ig->List Deferred->Prop
 |nil:dS V [] []
 |cons {x:ig} {d:Deferred} {xs:List ig} {ds:List Deferred} (h:zw V x d) (hs:dS V xs ds):dS V (x::xs) (d::ds)
 |nK {a:Nat} {bs:List Nat} {xs:List ig} {ds:List Deferred} (ha:bY ah.vG V a) (hn:bs.Nodup) (hb:∀b∈bs,xg V a b) (hs:dS V xs ds):dS V (.nK a::xs) (bs.map IB++ds)
 |kC {id a:Nat} {bs:List Nat} {xs:List ig} {ds:List Deferred} (hi:bY ah.Bp V id) (ha:bY ah.vG V a) (bg:V.ρ a<V.ρ id) (hn:bs.Nodup) (hb:∀b∈bs,xg V a b/\b<V.ρ id) (hs:dS V xs ds):dS V (.kC id a::xs) (IB (V.ρ id)::(bs.map IB++ds))
theorem xg.step{V V'}(hs:Step V V'){a b}(ha:bY ah.vG V a)(h:xg V a b):xg V' a b:=by
 obtain⟨k1,k2⟩:=wz hs ha;obtain⟨h1,h2,h3,h4,h5⟩:=h;obtain⟨e1,e2⟩:=hs.keep b h2 h4;refine⟨by rw[k2];exact h1,y21 h2 hs.size,e2.2 h3,fun i hi e=>?_,e1.trans h5⟩;rcases hs.fresh i hi with⟨f1,f2⟩|f
 .grind
 .omega
theorem dS.step{V V'}(hs:Step V V'){xs}{ds}(h:dS V xs ds):dS V' xs ds:=by
 induction h with
 |nil=>exact .nil
 |cons h _ ih=>exact .cons (h.step hs) ih
 |nK ha hn hb _ ih=>exact .nK (wz hs ha).1 hn (fun b hm=>(hb b hm).step hs ha) ih
 |kC hi ha bg hn hb _ ih =>
  obtain⟨i1,i2⟩:=pG hs hi;obtain⟨k1,k2⟩:=wz hs ha;rw[<- i2];exact .kC i1 k1 (by rw[i2,k2];exact bg) hn (fun b hm=>⟨(hb b hm).1.step hs ha,by grind⟩) ih
def MN(id:Nat):List ig->List ig
 |.nK a::ds=>.kC id a::ds
 |ds=>.mark id::ds
structure jO(V:View)(s:St)(a:Act):Prop where
 aL:eF V s.aL a
 H:V.H=s.H
 dh:dS V s.dh a.defers
def TU(V:View):bF->Exit->Prop
 |.normal,.normal=>True
 |.exit i,.exit j=>j=i
 |.goto i,.goto j=>j=i
 |.ret,.ret=>True
 |.Ay x,.panic chain=>∃v,chain=[{ v:=v,recovered:=false }]/\dI V x v
 |_,_=>False
def A9(G:Nat->Option (List AV))(V0:View)(ex:bF)(s':St)(e:Exit)(a':Act)(w':World):Prop :=
 ∃V':View,V'.w=w'/\Step V0 V'/\aD G V'/\jO V' s' a'/\TU V' ex e
def Rz(P:Program)(G:Nat->Option (List AV))(r:Option Nat)(n0:Nat)(c:Code)(s:St)(ex:bF)(s':St):Prop :=
 ∀(V0 V:View)(a:Act),V0.H.length=n0->Step V0 V->aD G V->jO V s a->c.wpIn (fz r) 0 P (A9 G V0 ex s') a V.w
def bN(P:Program)(G:Nat->Option (List AV))(r:Option Nat)(n0:Nat)(c:Code)(s:St)(ex:bF)(s':St):Prop :=
 ∀(V0 V:View)(a:Act),V0.H.length=n0->Step V0 V->aD G V->jO V s a->eO (fz r) 0 P c (A9 G V0 ex s') a V.w
def tF:List AV->List Nat->List AV
 |aL,[]=>aL
 |aL,t::ts=>tF (aL.set t .aP) ts
def YP(n:Nat):Nat->List (List AV)->Option (List Prop)
 |4,xs=>some [∀x∈xs,AV.gH n x=true]
 |_,xs=>some [∀x∈xs,AV.aM [] x=true]
def ah.YQ(n:Nat):ah->Option (List Prop)
 |.box cs=>if AV.gH n cs=true then some []else none
 |.aN _ sz _ xs=>YP n sz xs
 |.map es=>some [∀e∈es,e.2.bP n=true]
 |.iV _ _ aL _ _ _=>if AV.gH n aL=true then some []else none
 |.iter ..|.uE|.aH=>some []
def IC(n:Nat):List ah->Option (List Prop)
 |[]=>some []
 |o::os=>match o.YQ n,IC n os with
  |some ps,some qs=>some (ps++qs)
  |_,_=>none
def pI(n:Nat):List ig->Bool
 |[]=>true
 |.mark id::ds=>Nat.blt id n&&pI n ds
 |.call _ xs::ds=>AV.gH n xs&&pI n ds
 |.nK a::ds=>Nat.blt a n&&pI n ds
 |.kC id a::ds=>Nat.blt id n&&Nat.blt a n&&pI n ds
def MO(n:Nat)(H:List ah):List ig->Option (List ig)
 |.kC id a::ds=>if id<n then(if pI n (.kC id a::ds)=true then some (.nK id :: .kC id a::ds)else none)else
  match H[id]? with
  |some .uE=>if pI n (.nK a::ds)=true then some (.nK a::ds)else none
  |_=>none
 |ds=>if pI n ds=true then some ds else none
def ani:List ig->Bool
 |.kC .. :: _=>true
 |_=>false
def Bq(n0:Nat)(aP:List Nat)(n:Nat)(s:St):Option (St×List Prop) :=
 let aL:=tF s.aL aP
 if n=s.H.length/\ani s.dh=false then some ({ s with aL:=aL },[])else
 if n0<=n/\n<=s.H.length/\AV.gH n aL=true then
  (match MO n s.H s.dh,IC n (s.H.take n)with
  |some d,some ps=>some ({ aL:=aL,H:=s.H.take n,dh:=d },ps)
  |_,_=>none)else none
section
variable {G:Nat->Option (List AV)} {V:View}
theorem wB{a}:∀{ts}{aL},eF V aL a->eF V (tF aL ts) a
 |[],_,h=>h
 |t::ts,aL,h=>wB (ts:=ts) ⟨by simpa using h.1,fun j hj=>by
  have hj':j<aL.length:=by simpa using hj
  by_cases e:t=j
  .subst e;rw[lN hj'];exact .aP _
  .rw [w9 e];exact h.2 j hj'⟩
theorem MP{n}{o:ah}{ps}(h:o.YQ n=some ps)(dG:gZ ps):o.bP n:=by
 cases o<;>simp only[ah.YQ]at h
 case box cs=>split at h<;>first|assumption|cases h
 case aN g sz fz xs =>
  unfold YP at h;split at h
  .cases h;exact dG.1
  .cases h;exact fun x hx=>(iX id x (dG.1 x hx)).2 n
 case map es=>cases h;exact dG.1
 case iV=>split at h<;>first|assumption|cases h
 case iter=>trivial
 case uE=>trivial
 case aH=>trivial
theorem BR{n}:∀{os}{ps},IC n os=some ps->gZ ps->∀o∈os,o.bP n
 |[],_,_,_,o,ho=>by cases ho
 |o1::os,ps,h,dG,o,ho=>by
  unfold IC at h;split at h
  .rename_i p q h1 h2;cases h;obtain⟨a1,a2⟩:=dN.1 dG;rcases yH.1 ho with rfl|ho
   .grind [MP]
   .exact BR h2 a2 o ho
  .cases h
def View.cut(V:View)(n:Nat):View:={ V with H:=V.H.take n }
theorem IE{n}(hn:n<=V.H.length):Lk (V.cut n) V id:=⟨rfl,fun _=>Iff.rfl,fun _ _=>rfl,fun i o ho=>by
 have bg:i<n:=by
  have:=(yC.1 ho).1;simp only[View.cut,y18]at this;omega
 have:V.H[i]?=some o:=by rw[<- ho];simp[View.cut,bg]
 rw[id,this];congr 1;exact(ajK o).symm⟩
 where
  ajK (o:ah):o.jv id=o:=by
   have l1:∀x:AV,x.jv id=x:=fun x=>MQ x;have l2:∀xs:List AV,AV.kH id xs=xs:=fun xs=>xk xs;cases o<;>simp only[ah.jv,l2]
   case aN g sz fz xs=>congr 1;exact(map_congr_left fun x _=>l2 x).trans (map_id _)
   simp_all
  MQ:∀x:AV,x.jv id=x
   |.lit _|.iG _|.sl ..|.md ..|.aP=>rfl
   |.ptr ..|.jC ..|.aU ..|.mp _|.yl _=>rfl
   |.fn f aZ bs=>by simp only[AV.jv,xk aZ,xk bs]
   |.qX t x=>by simp only[AV.jv,MQ x]
   |.agg cs=>by simp only[AV.jv,xk cs]
   |.bq cs=>by simp only[AV.jv,xk cs]
  xk:∀xs:List AV,AV.kH id xs=xs
   |[]=>rfl
   |x::xs=>by simp only[AV.kH,MQ x,xk xs]
theorem Dr{n}(hn:n<=V.H.length):(V.cut n).H.length=n:=by simp only[View.cut,y18];omega
theorem CB{n}(hn:n<=V.H.length)(hG:aD G V)(hi:∀o∈V.H.take n,o.bP n):aD G (V.cut n) :=
 aD.Kv (IE hn) hG (fun i o ho=>by rw[Dr hn];exact hi o (mem_of_getElem? ho)) fun i j _ _ h=>h
theorem O5{n}(hn:n<=V.H.length){xs}{vs}(hi:AV.gH n xs=true)(h:bR V xs vs):bR (V.cut n) xs vs :=
 bR.Kv (IE hn) (by rw[Dr hn];exact hi) (by rw[IE.xk];exact h)
theorem acv{n}(hn:n<=V.H.length){x}{v}(hi:x.bP n=true)(h:dI V x v):dI (V.cut n) x v :=
 dI.Kv (IE hn) h x (IE.MQ x).symm (by rw[Dr hn];exact hi)
theorem CG{V0}{n}(hn:n<=V.H.length)(h0:V0.H.length<=n)(hs:Step V0 V):Step V0 (V.cut n) where
 os:=hs.os
 tape:=hs.tape
 output:=hs.output
 size:=hs.size
 drawn:=hs.drawn
 keep:=hs.keep
 data:=hs.data
 bL:=by rw[Dr hn];exact h0
 fresh id dU:=hs.fresh id (by rw[Dr hn]at dU;omega)
 eP id dU:=by
  have:=hs.eP id dU;unfold dL at *;have e:(V.cut n).H[id]?=V.H[id]? := by simp[View.cut,show id<n by omega]
  rw[e];exact this
theorem wC{n}{id}{f}(bg:id<n)(h:bY f V id):bY f (V.cut n) id:=by
 obtain⟨o,h1,h2⟩:=h;exact⟨o,by rw[<- h1];simp[View.cut,bg],h2⟩
theorem BS{n a b}(h:xg V a b):xg (V.cut n) a b :=
 ⟨h.1,h.2.1,h.2.2.1,fun i hi=>h.2.2.2.1 i (by simp only[View.cut,y18]at hi;omega),h.2.2.2.2⟩
theorem IG{n}(hn:n<=V.H.length):∀{ds}{l},pI n ds=true->dS V ds l->dS (V.cut n) ds l:=by
 intro ds l hd h
 induction h with
 |nil=>exact .nil
 |cons h _ ih =>
  rename_i x d xs ds _;cases x with
  |mark id =>
   simp only[pI,y04]at hd;exact .cons ⟨wC (by simpa using hd.1) h.1,h.2⟩ (ih hd.2)
  |call f ys =>
   simp only[pI,y04]at hd;obtain⟨cs,h1,h2⟩:=h;exact .cons ⟨cs,h1,O5 hn hd.1 h2⟩ (ih hd.2)
  |nK a=>exact h.elim
  |kC id a=>exact h.elim
 |nK ha wO hb _ ih =>
  simp only[pI,y04]at hd;exact .nK (wC (by simpa using hd.1) ha) wO (fun b hm=>BS (hb b hm)) (ih hd.2)
 |kC hi ha bg wO hb _ ih =>
  simp only[pI,y04]at hd;exact .kC  (wC (by simpa using hd.1.1) hi) (wC (by simpa using hd.1.2) ha) bg wO (fun b hm=>⟨BS (hb b hm).1,(hb b hm).2⟩) (ih hd.2)
theorem YR{G}{n}(hn:n<=V.H.length)(hG:aD G V){ds N9}{l}(hd:MO n V.H ds=some N9)(h:dS V ds l):dS (V.cut n) N9 l:=by
 unfold MO at hd;split at hd
 .rename_i id a xs;split at hd
  .split at hd<;>first|(cases hd;done)|skip
   rename_i bg hl;cases hd;have h2:=IG hn hl h;cases h with
   |cons q _=>exact q.elim
   |kC hi ha bg wO hb hr =>
    have hi':bY ah.vG V id:=by
     obtain⟨o,ho,hk⟩:=hi;exact⟨o,ho,by cases o<;>first|rfl|cases hk⟩
    exact dS.nK  (wC (by assumption) hi') .nil (nofun) h2
  .split at hd<;>first|(cases hd)|skip
   rename_i hH;split at hd<;>first|(cases hd;done)|skip
   rename_i hl;cases hd;simp only[pI,y04]at hl;cases h with
   |cons q _=>exact q.elim
   |kC hi ha bg wO hb hr =>
    rename_i bs ls;have dU:=(yC.1 hH).1;have e:IB (V.ρ id)::(bs.map IB++ls)=(V.ρ id::bs).map IB++ls:=rfl;refine .nK (wC (by simpa using hl.1) ha) (nodup_cons.2 ⟨fun hm=>(hb _ hm).1.2.2.2.1 id dU rfl,wO⟩) (fun b hm=>?_) (IG hn hl.2 hr);rcases yH.1 hm with rfl|hm
    .exact ⟨bg,hG.lt id dU,hG.gW id _ hH rfl,fun i hi e=>by
      have hi':i<n:=by simp only[View.cut,y18]at hi;omega
      have:=hG.inj i id zO dU e;omega,hG.eP id _ hH⟩
    .exact BS (hb b hm).1
 .split at hd<;>first|(cases hd;done)|skip
  rename_i hl;cases hd;exact IG hn hl h
theorem kJ{n0 n}{aP}{s s2}{ps}(h:Bq n0 aP n s=some (s2,ps))(dG:gZ ps){V0}{a}(h0:V0.H.length=n0)(hs:Step V0 V)(hG:aD G V)(dK:jO V s a) :
 ∃V2:View,V2.w=V.w/\Step V0 V2/\aD G V2/\jO V2 s2 a:=by
 unfold Bq at h;simp only at h;split at h
 .cases h;exact⟨V,rfl,hs,hG,⟨wB dK.aL,dK.H,dK.dh⟩⟩
 .split at h
  .rename_i hc;obtain⟨c1,c2,c3⟩:=hc;split at h
   .rename_i d qs hd hq;cases h;have hn:n<=V.H.length:=by rw[dK.H];exact c2
    exact⟨V.cut n,rfl,CG hn zO hs,CB hn hG (by rw[dK.H];exact BR hq dG),⟨O5 hn c3 (wB dK.aL),by simp[View.cut,dK.H],YR hn hG (by rw[dK.H];exact hd) dK.dh⟩⟩
   .cases h
  .cases h
end
def MR(st:LoopState)(pend:Option Code):Option bF :=
 if st = .busy then none else match pend with
 |none=>some .normal
 |some .ret=>some .ret
 |some (.exit i)=>some (.exit i)
 |some (.goto l)=>some (.goto l)
 |_=>none
def RA(P:Program)(G:Nat->Option (List AV))(r:Option Nat)(g:Operand)(ts:Array Tmp)(x y:Code)(s:St)(bf:List bC):Option (bF×St×List bC×List Prop) :=
 match r,bf with
 |none,.range aP _ _ _ _ _::cK=>match jY (Bf G s.aL g)with
  |some (f,aZ,bs)=>if rz P f=true then
   (match qY P G (s.H++[.uE]++[.iV .ready none (tF s.aL aP) ts x y]) f (aZ++[.yl (s.H.length+1)]++bs) cK with
   |some (_,.ret _,H2,mK,qs)=>match H2[s.H.length+1]? with
    |some (.iV st pend _ _ _ _)=>match MR st pend with
     |some ex=>some (ex,{ aL:=s.aL,H:=H2.set (s.H.length+1) .aH,dh:=MN s.H.length s.dh },mK,qs)
     |none=>none
    |_=>none
   |_=>none)else none
  |none=>none
 |_,_=>none
def RB(G:Nat->Option (List AV))(aL:List AV)(c:Call):Option ig:=match c.callee with
 |.value g=>match jY (Bf G aL g)with
  |some (f,aZ,bs)=>some (.call f (aZ++c.args.toList.map (Bf G aL)++bs))
  |none=>none
 |_=>none
def vw(P:Program)(G:Nat->Option (List AV))(r:Option Nat)(ops:Array Oper):Nat->List Oper->List AV->List ah->List ig->List bC->Option (bF×List AV×List ah×List ig×List bC×List Prop)
 |_,[],aL,H,ds,bf=>some (.normal,aL,H,ds,bf,[])
 |i,o::os,aL,H,ds,bf=>match o.op,o.guard,o.dst,r with
  |.defer c,none,none,none=>match RB G aL c with
   |some d=>vw P G r ops (i+1) os aL H (d::ds) bf
   |none=>none
  |_,_,_,_=>match iP P G ops (iO ops i) aL H o bf with
   |some (_,.ret x,H',aT,ps)=>match vw P G r ops (i+1) os (gX aL o.dst x) H' ds aT with
    |some (ex,env',H'',N9,Dh,qs)=>some (ex,env',H'',N9,Dh,ps++qs)
    |none=>none
   |some (_,.Ay x,H',aT,ps)=>some (.Ay x,aL,H',ds,aT,ps)
   |none=>none
section
variable {P:Program} {G:Nat->Option (List AV)} {r:Option Nat} {ops:Array Oper}
theorem Du{V}{a}{aL}(hG:aD G V)(he:eF V aL a){c}{d}(h:RB G aL c=some d)t :
 ∃dd,(resolve a.eval c t).run P V.w = .ok dd V.w/\zw V d dd:=by
 unfold RB at h;split at h
 .rename_i g hc;split at h
  .rename_i f aZ bs ht;cases h;obtain⟨us,vs,hu,h1,h2⟩:=mU ht (nG  hG fun t _=>he.get t);have h3:bR V (c.args.toList.map (Bf G aL)) (c.args.toList.map a.eval):=tH fun y _=>nG hG fun t _=>he.get t;refine⟨{ target:=.fn (.func f) vs.toArray,args:=us.toArray++c.args.map a.eval },?_,vs.toArray,rfl,?_⟩
   .simp only[resolve,hc,hu];rfl
   .have:=(h1.append h3).append h2;simp_all
  .cases h
 .cases h
theorem ni{Q}:∀{os}{r}{i}{aL}{H}{ds}{bf}{ex}{env'}{H'}{N9}{aT}{ps},
 vw P G r ops i os aL H ds bf=some (ex,env',H',N9,aT,ps)->gZ ps->ops.toList.drop i=os->∀{V}{a},aD G V->V.H=H->eF V aL a->dS V ds a.defers ->
 (ex = .normal->∀V' a',Step V V'->aD G V'->V'.H=H'->eF V' env' a'->dS V' N9 a'.defers->Q .normal a' V'.w) ->
 (∀x,ex = .Ay x->∀V' a' v,Step V V'->aD G V'->V'.H=H'->eF V' env' a'->dS V' N9 a'.defers->dI V' x v->Q (.panic [{ v:=v,recovered:=false }]) a' V'.w) ->
 wpOpsIn (fz r) 0 P ops Q ((List.range ops.size).drop i) a V.w
 |[],r,i,aL,H,ds,bf,ex,env',H',N9,aT,ps,h,dG,rW,V,a,hG,hH,he,hd,n1,n2=>by
  have uQ:ops.size<=i:=by simpa using rW
  rw[y14 (by simpa using uQ)];simp only[vw,y06,Prod.mk.injEq]at h;obtain⟨rfl,rfl,rfl,rfl,_,_⟩:=h;exact n1 rfl V a (Step.refl V) hG hH he hd
 |o::os,r,i,aL,H,ds,bf,ex,env',H',N9,aT,ps,h,dG,rW,V,a,hG,hH,he,hd,n1,n2=>by
  have bg:i<ops.size:=by
   rcases y08 i ops.size with h|h
   .exact h
   .rw [y14 (by simpa using h)]at rW;cases rW
  have oL:i<ops.toList.length:=by simpa using bg
  rw[y01 oL]at rW;injection rW with ho BP;have ho':ops[i]?=some o:=by rw[<- ho];simp[bg]
  have hr:(List.range ops.size).drop i=i::(List.range ops.size).drop (i+1):=by
   rw[y01 (by simpa using bg)];simp
  rw[hr,wpOpsIn_cons];have key:=fun{k:Kind}{out:aS}{H1:List ah}{cK:List bC}{qs:List Prop}(fB:iP P G ops (iO ops i) aL H o bf=some (k,out,H1,cK,qs))(hq:gZ qs)=>qw (r:=r) (a:=a) ho' fB hq hG (fun t _=>he.get t) (.inl hH);unfold vw at h;split at h
  .rename_i c bA YS O6;split at h
   .rename_i d hdf;obtain⟨dd,k1,k2⟩:=Du (P:=P) hG he hdf o.type;unfold wpOpIn;rw[ho'];have hw:Region.wanted o (yielded ops a.tmps)=true:=by unfold Region.wanted;rw[YS]
    simp only[hw,if_true];refine⟨fun _ _=>trivial,?_⟩;have jJ:(execOp a.eval o).run P V.w = .ok (.defer dd) V.w:=by
     rw[execOp,bA];simp only[Sem.run_bind,k1,Result.andThen,Sem.run_pure]
    show o.uponIn _ _ P a _ Q ((Oper.semAt none a.eval o).run P V.w);rw[Oper.semAt_none,jJ,Oper.uponIn_defer,O6];exact ni h dG BP (a:={ a with defers:=dd::a.defers }) hG hH he (.cons k2 hd) n1 n2
   .cases h
  .split at h
   .rename_i k x H1 cK qs fB;split at h
    .rename_i Xh O1 H2 ds1 mK rs Ir;cases h;obtain⟨hq,NU⟩:=dN.1 dG;obtain⟨h1,h2⟩:=key fB hq;refine h1 _ Q (fun V' v x' hx hs hG' Dq zq=>?_) (fun V' v x' hx=>by cases hx);cases hx;have NV:V'.H=H1:=by
      rw[Dq];split
      .rename_i hk;rw[hH,h2 (by rw[hk];simp)]
      .rfl
     have he':=(he.step hs).put o.dst zq;exact ni Ir NU BP hG' NV he' (by rw[nT];exact hd.step hs)
      (fun Br V2 a2 s2 g2 YT e2 d2=>n1 Br V2 a2 (hs.trans s2) g2 YT e2 d2)
      (fun y Br V2 a2 v2 s2 g2 YT e2 d2=>n2 y Br V2 a2 v2 (hs.trans s2) g2 YT e2 d2)
    .cases h
   .rename_i k x H1 cK qs fB;cases h;obtain⟨h1,h2⟩:=key fB dG;refine h1 _ Q (fun V' v x' hx=>by cases hx) (fun V' v x' hx hs hG' Dq zq=>?_);cases hx;have NV:V'.H=H':=by
     rw[Dq];split
     .rename_i hk;rw[hH,h2 (by rw[hk];simp)]
     .rfl
    exact n2 x rfl V' a v hs hG' NV (he.step hs) (hd.step hs) zq
   .cases h
end
def J7:List Oper->List AV->List AV
 |[],aL=>aL
 |o::os,aL=>J7 os (gX aL o.dst .aP)
def KM(ops:Array Oper)(tr:List Tr)(b:Nat):Bool:=(List.range ops.size).all fun j=>!((tr.getD j default).k == .lK)||b.testBit j
def YU:List bC->Option Nat
 |.at_ p::_=>some p
 |_=>none
def acw:List bC->List bC
 |.at_ _::t=>t
 |t=>t
def MS(P:Program)(G:Nat->Option (List AV))(ops:Array Oper)(s:St)(bf:List bC):Option (bF×St×List bC×List Prop) :=
 match Iq P G ops (kX ops.toList []) (YU bf) 0 ops.toList s.aL s.H (acw bf)with
 |some (tr,env',H',pn,aT,ps)=>if P.follows .mixedOrders=true/\oo ops tr (kX ops.toList []) 0 ops.toList=true then
  (match YU bf,pn with
  |none,_=>some (.normal,{ s with aL:=env',H:=H' },aT,ps)
  |some q,some (x,H1)=>if Nat.blt q ops.size=true/\oh (kX ops.toList []) (some q) q=false/\KM ops tr ((kX ops.toList []).getD q 0)=true then
   some (.Ay x,{ s with aL:=J7 ops.toList s.aL,H:=H1 },aT,ps)else none
  |_,_=>none)else none
 |none=>none
theorem zx:∀ os(aL:List AV),(J7 os aL).length=aL.length
 |[],_=>rfl
 |o::os,aL=>by rw[J7,zx os,uP]
theorem O7:∀ os(aL:List AV)t,(J7 os aL).getD t .aP = .aP\/((J7 os aL).getD t .aP=aL.getD t .aP/\∀o∈os,o.dst≠some t)
 |[],_,_=>.inr ⟨rfl,zS⟩
 |o::os,aL,t=>by
  rcases O7 os (gX aL o.dst .aP) t with h|⟨h1,h2⟩
  .exact .inl h
  .by_cases hd:o.dst=some t
   .left;show(J7 os (gX aL o.dst .aP)).getD t .aP = .aP;rw[h1,hd];show(aL.set t .aP).getD t .aP = .aP;grind
   .refine .inr ⟨?_,fun o' ho'=>?_⟩
    .show (J7 os (gX aL o.dst .aP)).getD t .aP=_;rw[h1,AA hd]
    .grind
def afU:List bC->Option (List Nat×Nat×bF×List AV×List ah×List bC)
 |.eP _ :: .loop aP n ex aL H::aT=>some (aP,n,ex,aL,H,aT)
 |_=>none
def O8:List AV->List ig
 |.ptr a _::xs=>.nK a::O8 xs
 |.jC id a _ _::xs=>.kC id a::O8 xs
 |_=>[]
def RD(H:List ah):AV->List ig->Option (List ig)
 |.ptr a _,ds=>match H[a]? with
  |some (.box _)=>some (.nK a::ds)
  |_=>none
 |.aP,ds=>some ds
 |_,_=>none
theorem RF{V}{x}{ds d1}{l}(h:RD V.H x ds=some d1)(hd:dS V ds l):dS V d1 l:=by
 unfold RD at h;split at h
 .split at h
  .rename_i hb;cases h;exact .nK  ⟨_,hb,rfl⟩ .nil (nofun) hd
  .cases h
 .cases h;exact hd
 .cases h
def sP(P:Program)(G:Nat->Option (List AV))(r:Option Nat)(n0:Nat):Code->St->List bC->Option (bF×St×List bC×List Prop)
 |.skip,s,bf=>some (.normal,s,bf,[])
 |.label _,s,bf=>some (.normal,s,bf,[])
 |.exit id,s,bf=>some (.exit id,s,bf,[])
 |.goto l,s,bf=>some (.goto l,s,bf,[])
 |.ret,s,bf=>some (.ret,s,bf,[])
 |.region _ ops false,s,bf=>match vw P G r ops 0 ops.toList s.aL s.H s.dh bf with
  |some (ex,aL,H,ds,aT,ps)=>some (ex,{ aL:=aL,H:=H,dh:=ds },aT,ps)
  |none=>none
 |.region i ops true,s,bf=>match bf with
  |.loop aP n ex aL H::aT=>match Bq n0 aP n s with
   |some (s2,ps)=>some (ex,{ aL:=aL,H:=H,dh:=s2.dh },aT,Rz P G r n0 (.region i ops true) s2 ex { aL:=aL,H:=H,dh:=s2.dh }::ps)
   |none=>none
  |_=>MS P G ops s bf
 |.seq x y,s,bf=>match afU bf with
  |some (aP,n,ex,aL,H,aT)=>match Bq n0 aP n s with
   |some (s2,ps)=>some (ex,{ aL:=aL,H:=H,dh:=s2.dh },aT,Rz P G r n0 (.seq x y) s2 ex { aL:=aL,H:=H,dh:=s2.dh }::ps)
   |none=>none
  |none=>match sP P G r n0 x s bf with
   |some (.normal,s1,cK,ps)=>match sP P G r n0 y s1 cK with
    |some (ex,s2,mK,qs)=>some (ex,s2,mK,ps++qs)
    |none=>none
   |some (ex,s1,cK,ps)=>some (ex,s1,cK,ps)
   |none=>none
 |.cond c x y,s,bf=>match Bf G s.aL c,bf with
  |.lit (.bool e),.br true::aT=>match sP P G r n0 x s aT with
   |some (ex,s1,cK,ps)=>some (ex,s1,cK,(e=true)::ps)
   |none=>none
  |.lit (.bool e),.br false::aT=>match sP P G r n0 y s aT with
   |some (ex,s1,cK,ps)=>some (ex,s1,cK,(e=false)::ps)
   |none=>none
  |_,_=>none
 |.block id c,s,bf=>match sP P G r n0 c s bf with
  |some (.exit j,s1,cK,ps)=>some (if j=id then .normal else .exit j,s1,cK,ps)
  |some (ex,s1,cK,ps)=>some (ex,s1,cK,ps)
  |none=>none
 |.loop c,s,bf=>match bf with
  |.loop aP n ex aL H::aT=>match Bq n0 aP n s with
   |some (s2,ps)=>some (ex,{ aL:=aL,H:=H,dh:=s2.dh },aT,bN P G r n0 c s2 ex { aL:=aL,H:=H,dh:=s2.dh }::ps)
   |none=>none
  |.av (.bq [x,.agg ys]) :: .loop aP n ex aL H::aT=>match Bq n0 aP n s with
   |some (s2,ps)=>match RD s2.H x s2.dh with
    |some d1=>some (ex,{ aL:=aL,H:=H,dh:=O8 ys },aT,bN P G r n0 c { s2 with dh:=d1 } ex { aL:=aL,H:=H,dh:=O8 ys }::ps)
    |none=>none
   |none=>none
  |_=>none
 |.rangeFunc g ts x y,s,bf=>RA P G r g ts x y s bf
 |.scope c,s,bf=>match sP P G r n0 c s bf with
  |some (.goto _,_,_,_)=>none
  |x=>x
 |.refuse _,_,_=>none
variable {ex:bF}{s s':St}
section
variable {P:Program} {G:Nat->Option (List AV)} {r:Option Nat} {n0:Nat}
theorem AJ{V}(hG:aD G V){id}{o}{w'}(dU:V.H[id]?=some o)(bA:o.open_=true)(hh:∀b,b≠V.ρ id->w'.heap[b]?=V.w.heap[b]?)(hs:w'.heap.size=V.w.heap.size)(h1:w'.os=V.w.os)(h2:w'.tape=V.w.tape)(h3:w'.output=V.w.output)(GH:V.w.drawn<=w'.drawn:=by first|exact yM|exact Nat.le_succ _|(simp)|omega|assumption) :
 ∃V':View,V'.w=w'/\V'.H=V.H.set id .aH/\V'.ρ=V.ρ/\Step V V'/\aD G V':=by
 have bg:=(yC.1 dU).1;let V':View:={ w:=w',M:=V.M,H:=V.H.set id .aH,ρ:=V.ρ };have hM:=hG.gW id _ dU bA;have Hs:V'.H[id]?=some .aH:=by grind
 have Ho:∀i,i≠id->V'.H[i]?=V.H[i]? := fun i hi=>by grind
 have hl:V'.H.length=V.H.length:=by show(V.H.set id _).length=_;simp
 have ne:∀i,i<V.H.length->i≠id->V.ρ i≠V.ρ id:=fun i hi fF e=>fF (hG.inj i id hi bg e);have fB:Step V V':={
  os:=h1
  tape:=h2
  output:=h3
  size:=Nat.le_of_eq hs.symm
  drawn:=GH
  keep:=fun b _ hn=>⟨hh b fun e=>hn id bg e.symm,Iff.rfl⟩
  data:=fun b _ hn=>⟨hh b fun e=>hn (e▸hM),hn⟩
  bL:=Nat.le_of_eq hl.symm
  fresh:=fun i hi=>.inl ⟨by rw[hl]at hi;exact hi,rfl⟩
  eP:=fun i hi=>by
   by_cases e:i=id
   .unfold dL;grind
   .exact .refl hi (Ho i e) rfl (hh _ (ne i hi e)) }
 refine⟨V',rfl,rfl,rfl,fB,?_⟩;exact{
  lt:=fun i hi=>by rw[hl]at hi;rw[hs];exact hG.lt i hi
  eP:=fun i o ho=>by
   by_cases e:i=id
   .subst e;rw[Hs]at ho;cases ho;trivial
   .rw [Ho i e]at ho;exact(hG.eP i o ho).step fB (hh _ (ne i (yC.1 ho).1 e))
  inj:=fun i j hi hj=>by rw[hl]at hi hj;exact hG.inj i j hi hj
  gW:=fun i o ho J8=>by
   by_cases e:i=id
   .subst e;omega
   .rw [Ho i e]at ho;exact hG.gW i o ho J8
  ng:=hG.gD fB }
theorem O9{V V4}(hG:aD G V){id}(k1:bY ah.Bp V4 id)(k2:V4.ρ id=V.w.heap.size)(hs:Step V V4){ds}{l}(h:dS V ds l) :
 dS V4 (MN id ds) ({ target:=.collected V.w.heap.size,args:=#[] }::l):=by
 have hm:∀{ds},dS V ds l->dS V4 (.mark id::ds) ({ target:=.collected V.w.heap.size,args:=#[] }::l):=fun h=>.cons ⟨k1,by rw[k2]⟩ (h.step hs);cases h with
 |nil=>exact hm .nil
 |nK ha hn hb hr =>
  obtain⟨o,ho,_⟩:=ha;have bg:=hG.lt _ (yC.1 ho).1;have ha:bY ah.vG V _:=⟨o,ho,by assumption⟩;obtain⟨q1,q2⟩:=wz hs ha;rw[<- k2];exact .kC k1 q1 (by rw[q2,k2];exact bg) hn (fun b hm=>⟨(hb b hm).step hs ha,by rw[k2];exact(hb b hm).2.1⟩) (hr.step hs)
 |kC hi ha bg hn hb hr=>exact hm (.kC hi ha bg hn hb hr)
 |cons h1 h2 =>
  rename_i x d xs ds;cases x with
  |mark i=>exact hm (.cons h1 h2)
  |call f ys=>exact hm (.cons h1 h2)
  |nK a=>exact h1.elim
  |kC i a=>exact h1.elim
theorem Pb{g}{ts}{x y}{s s'}{bf aT}{ex}{ps}(h:RA P G r g ts x y s bf=some (ex,s',aT,ps))(dG:gZ ps):Rz P G r n0 (.rangeFunc g ts x y) s ex s':=by
 intro V0 V a h0 hs hG dK;unfold RA at h;split at h
 .rename_i aP _ _ _ _ _ cK;split at h
  .rename_i f aZ bs ht;split at h
   .rename_i EK;split at h
    .rename_i k xr H2 mK qs hen;split at h
     .rename_i st pend YV ts3 x3 y3 XM;split at h
      .rename_i Xh Br;cases h;refine wpIn_rangeFunc fun MU _=>?_;have hg:=nG (a:=a) (aL:=s.aL) (y:=g) hG fun t _=>dK.aL.get t;obtain⟨V1,a1,a2,a3,a4,a5⟩:=qA hG (w':=V.w.alloc (.deferred (some []))) (eP:=.uE) rfl rfl rfl rfl fun V' hw _=>by
        show V'.w.heap[V.w.heap.size]?=_;rw[hw];exact jZ rfl
       have afV:V1.w.heap.size=V.w.heap.size+1:=by rw[a1];simp
       obtain⟨V2,b1,b2,b3,b4,b5⟩:=qA a4 (w':=V1.w.alloc (.loop { state:=.ready,pending:=none,fn:=MU,tmps:=a.tmps,params:=ts,assign:=x,body:=y,defers:=V.w.heap.size })) (eP:=.iV .ready none (tF s.aL aP) ts x y) rfl rfl rfl rfl fun V' hw hs'=>by
        refine⟨MU,a.tmps.toList,V.w.heap.size,by rw[hw];exact jZ rfl,?_⟩;exact eF.step hs' (wB (dK.aL.step a3))
       have hl1:V1.H.length=s.H.length+1:=by rw[a2,dK.H];simp
       rw[hl1,afV]at b5;have NV:V2.H=s.H++[.uE]++[.iV .ready none (tF s.aL aP) ts x y]:=by rw[b2,a2,dK.H]
       have YW:V2.H[s.H.length+1]?=some (.iV .ready none (tF s.aL aP) ts x y):=by rw[NV];simp
       have s02:=a3.trans b3;obtain⟨us,vs,hu,r1,r2⟩:=mU ht hg;have QV:dI V2 (.yl (s.H.length+1)) (.func (.yield (V.w.heap.size+1)) #[] #[]):=by
        rw[<- b5];exact .yl _ ⟨_,YW,rfl⟩
       have hx:=((r1.step s02).append (.cons QV .nil)).append (r2.step s02);obtain⟨hc,hk⟩:=FE hen dG b4 hx (.inl NV);have hw2:V2.w=(V.w.alloc (.deferred (some []))).alloc (.loop { state:=.ready,pending:=none,fn:=MU,tmps:=a.tmps,params:=ts,assign:=x,body:=y,defers:=V.w.heap.size }):=by rw[b1,a1]
       refine⟨V.w.heap.size+1,[{ target:=.collected V.w.heap.size,args:=#[] }],V2.w,{ target:=.fn (.func f) vs.toArray,args:=us.toArray++#[Value.func (.yield (V.w.heap.size+1)) #[] #[]] },V2.w,f,(us++[Value.func (.yield (V.w.heap.size+1)) #[] #[]]++vs).toArray,V2.w,?_,?_,fun _ _=>trivial,?_,nofun,?_⟩
       .rw [hw2];exact run_enterLoop_outer MU a.tmps ts x y
       .have hm:Array.map a.eval #[Operand.const (Value.func (.yield (V.w.heap.size+1)) #[] #[])]=#[Value.func (.yield (V.w.heap.size+1)) #[] #[]]:=by
         apply Array.ext';simp only[Array.toList_map,map_cons,map_nil,Act.eval]
        simp only[resolve,Deferred.ofValue,hu,hm];rfl
       .unfold rz at EK;split at EK
        .rename_i fn wN;simp only[y04,Bool.not_eq_true',beq_eq_false_iff_ne,ne_eq]at EK;obtain⟨c,hb⟩:=Option.isSome_iff_exists.1 EK.1;simp[invoke,callFunc,wN,EK.2,hb]
        .cases EK
       .refine hc.mono fun e w' he=>?_;have anj:(if k = .free then V2.H else H2)=H2:=by
         split
         .rename_i hf;rw[NV,hk (by rw[hf];simp)]
         .rfl
        rw[anj]at he;obtain⟨V3,rfl,c2,c3,c4,c5⟩:=he;cases e with
        |returned v =>
         have hr3:V3.H[s.H.length+1]?=some (.iV st pend YV ts3 x3 y3):=by rw[c4];exact XM
         have hρ:V3.ρ (s.H.length+1)=V.w.heap.size+1:=by
          have:=c2.eP (s.H.length+1) (by rw[NV];simp);unfold dL at this;rw[YW,hr3]at this;rw[this,b5]
         obtain⟨fn3,vs3,D3,o1,o2⟩:=c3.eP _ _ hr3;rw[hρ]at o1;have hnb:st≠.busy:=by
          unfold MR at Br;split at Br
          .cases Br
          .assumption
         obtain⟨V4,d1,d2,d3,d4,d5⟩:=AJ c3 (w':=V3.w.putObj (V.w.heap.size+1) (.loop { state:=.exhausted,pending:=pend,fn:=fn3,tmps:=toArray vs3,params:=ts3,assign:=x3,body:=y3,defers:=D3 })) hr3 rfl
          (fun b hb=>World.putObj_heap_other (by rw[hρ]at hb;exact hb)) World.putObj_size rfl rfl rfl
         have YX:=run_endLoop (P:=P) o1 hnb;refine⟨pend,V4.w,by rw[d1];exact YX,?_⟩;have okS:jO V4 { aL:=s.aL,H:=H2.set (s.H.length+1) .aH,dh:=MN s.H.length s.dh } { a with defers:=[{ target:=.collected V.w.heap.size,args:=#[] }]++a.defers }:=by
          have s04:=s02.trans (c2.trans d4);have hd:bY ah.Bp V2 s.H.length:=⟨.uE,by rw[NV];simp,rfl⟩;obtain⟨k1,k2⟩:=pG (c2.trans d4) hd;have YZ:V2.ρ s.H.length=V.w.heap.size:=by
           have hd1:bY ah.Bp V1 s.H.length:=⟨.uE,by rw[a2,dK.H];simp,rfl⟩;rw[(pG b3 hd1).2,<- dK.H,a5]
          exact⟨dK.aL.step s04,by rw[d2,c4],O9 hG k1 (k2.trans YZ) s04 dK.dh⟩
         have Vt:=hs.trans (s02.trans (c2.trans d4));unfold MR at Br;rw[yK hnb]at Br;split at Br
         .cases Br;exact⟨V4,rfl,Vt,d5,okS,yO⟩
         .cases Br;exact Go.wpIn_ret ⟨V4,rfl,Vt,d5,okS,yO⟩
         .cases Br;exact Go.wpIn_exit ⟨V4,rfl,Vt,d5,okS,rfl⟩
         .cases Br;exact Go.wpIn_goto ⟨V4,rfl,Vt,d5,okS,rfl⟩
         .cases Br
        |panicked ch=>exact c5.elim
        |outgrown=>exact c5.elim
      .cases h
     .cases h
    .cases h
   .cases h
  .cases h
 .cases h
theorem MV{id:Nat}{ops:Array Oper}(h:MS P G ops s bf=some (ex,s',aT,ps))(dG:gZ ps):Rz P G r n0 (.region id ops true) s ex s':=by
 intro V0 V a h0 hs hG dK;unfold MS at h;split at h
 .rename_i tr env' H' pn cK qs jJ;split at h
  .rename_i hc;obtain⟨hm,hc⟩:=hc;have hq:qs=ps:=by grind
   subst hq;obtain⟨hl,htr⟩:=uR jJ dG rfl yN;have htr:=htr [] s.aL s.H rfl rfl ⟨fun _=>rfl,rfl⟩;simp only[nil_append]at htr;obtain⟨t1,t2,t3,t4,t5⟩:=htr;refine wpIn_region_any hm ?_;obtain⟨Vd,d1,d2,d3,d4,d5,d6⟩:=KN (V:=V) hG (w':={ V.w with drawn:=V.w.drawn+1 }) rfl rfl rfl rfl;rw[<- d1];have hS:∀i,rX (Array.replicate ops.size false) i=false:=fun i=>by
    unfold rX;simp only[Array.getD_eq_getD_getElem?,Array.getElem?_replicate];split<;>rfl
   have e0:kU ops tr (rX (Array.replicate ops.size false)) s.aL ops.size=s.aL:=by
    have h1:∀m,kU ops tr (rX (Array.replicate ops.size false)) s.aL m=s.aL:=fun m=>by
     induction m with
     |zero=>rfl
     |succ m ih=>simp only[kU];rw[yK (by rw[hS];simp),ih]
    exact h1 _
   have h1:jL tr (rX (Array.replicate ops.size false)) s.H ops.size s.H:=⟨fun id=>by
    rw[qy (i:=0) yN fun j _ _ _ _=>hS j];rfl,by rw[tu (i:=0) yN fun j _ _ _ _=>hS j];rfl⟩
   have inv:Inv G ops tr s.aL s.H (YU bf) a (Array.replicate ops.size false) Vd a:=⟨zS,fun j o _ hj=>(by rw[hS]at hj;cases hj),d6,by rw[d2,dK.H];exact h1,by rw[e0];exact dK.aL.step d5,rfl,fun q _=>hS q⟩;split at h
   .rename_i hpa;cases h;refine KL (P:=P) (G:=G) (r:=r) (aL:=s.aL) (H:=s.H) (a0:=a) (x:=.aP) (H1:=[]) (by simpa using hl) (fun j hj hb hp=>t1 j yN hj hb hp) hc t5
     (fun q hq=>by rw[hpa]at hq;cases hq) ops.size inv zS (fun _ V' a' s' g' h' e' d'=>?_) (fun _ _ _ _ hp=>absurd hpa hp)
    exact⟨V',rfl,hs.trans (d5.trans s'),g',⟨t4▸e',h',d'▸dK.dh.step (d5.trans s')⟩,yO⟩
   .rename_i q x H1 hpa;split at h
    .rename_i hcq;obtain⟨c1,c2,c3⟩:=hcq;have hqs:q<ops.size:=by simpa using c1
     cases h;obtain⟨x',H1',hpn,acs⟩:=t3 q hpa yN hqs (by rw[hpa];exact c2);simp only[y06,Prod.mk.injEq]at hpn;obtain⟨rfl,rfl⟩:=hpn;refine KL (P:=P) (G:=G) (r:=r) (aL:=s.aL) (H:=s.H) (a0:=a) (x:=x) (H1:=H1) (by simpa using hl) (fun j hj hb hp=>t1 j yN hj hb hp) hc t5
      (fun q' hq'=>?_) ops.size inv zS (fun hp=>by rw[hpa]at hp;cases hp) (fun V' a' v S _ s' g' h' e' d' hv=>?_)
     .rw [hpa]at hq';cases hq';refine⟨hqs,acs,fun j hj he=>?_,t2 q yN hqs (.inr hpa)⟩;unfold KM at c3;have:=all_eq_true.1 c3 j (mem_range.2 hj);rw[he]at this;simpa using this
     .refine ⟨V',rfl,hs.trans (d5.trans s'),g',⟨?_,h',d'▸dK.dh.step (d5.trans s')⟩,v,rfl,hv⟩;refine⟨by rw[zx];have:=e'.1;rw[gB]at this;exact this,fun t ht=>?_⟩;rcases O7 ops.toList s.aL t with hb|⟨hb,hnw⟩
      .show dI V' ((J7 ops.toList s.aL).getD t .aP) _;rw[hb];exact .aP _
      .show dI V' ((J7 ops.toList s.aL).getD t .aP) _;rw[hb];rw[zx]at ht;have:=e'.2 t (by rw[gB];exact ht);rwa[wm (i:=0) yN fun j _ hj hd=>absurd hd (by
        have:=hnw ops[j] zS;rw[Array.getElem?_eq_getElem hj];exact this)]at this
    .cases h
   .cases h
  .cases h
 .cases h
theorem A9.after{V0}{s1}{Q}{K}(hn:∀V1 a1,Step V0 V1->aD G V1->jO V1 s1 a1->K a1 V1.w):∀e a w,A9 G V0 .normal s1 e a w->Exit.then K Q e a w:=by
 intro e a w h;obtain⟨V1,rfl,h1,h2,h3,h4⟩:=h;cases e<;>first|exact h4.elim|exact hn V1 a h1 h2 h3
theorem eT:∀ c{s s'}{bf aT}{ex}{ps},sP P G r n0 c s bf=some (ex,s',aT,ps)->gZ ps->Rz P G r n0 c s ex s'
 |.skip,s,s',bf,aT,ex,ps,h,dG,V0,V,a,h0,hs,hG,dK=>by
  cases h;exact Go.wpIn_skip ⟨V,rfl,hs,hG,dK,yO⟩
 |.label l,s,s',bf,aT,ex,ps,h,dG,V0,V,a,h0,hs,hG,dK=>by
  cases h;exact Go.wpIn_label ⟨V,rfl,hs,hG,dK,yO⟩
 |.exit id,s,s',bf,aT,ex,ps,h,dG,V0,V,a,h0,hs,hG,dK=>by
  cases h;exact Go.wpIn_exit ⟨V,rfl,hs,hG,dK,rfl⟩
 |.goto l,s,s',bf,aT,ex,ps,h,dG,V0,V,a,h0,hs,hG,dK=>by
  cases h;exact Go.wpIn_goto ⟨V,rfl,hs,hG,dK,rfl⟩
 |.ret,s,s',bf,aT,ex,ps,h,dG,V0,V,a,h0,hs,hG,dK=>by
  cases h;exact Go.wpIn_ret ⟨V,rfl,hs,hG,dK,yO⟩
 |.region id ops false,s,s',bf,aT,ex,ps,h,dG,V0,V,a,h0,hs,hG,dK=>by
  simp only[sP]at h;split at h
  .rename_i Xh aL H ds cK qs jJ;cases h;refine wpIn_region ?_;have:=ni (r:=r) (Q:=A9 G V0 ex { aL:=aL,H:=H,dh:=ds }) jJ dG rfl hG dK.H dK.aL dK.dh
    (fun Br V' a' s' g' h' e' d'=>⟨V',rfl,hs.trans s',g',⟨e',h',d'⟩,by subst Br;trivial⟩)
    (fun x Br V' a' v s' g' h' e' d' hv=>⟨V',rfl,hs.trans s',g',⟨e',h',d'⟩,by subst Br;exact⟨v,rfl,hv⟩⟩)
   simpa using this
  .cases h
 |.region id ops true,s,s',bf,aT,ex,ps,h,dG,V0,V,a,h0,hs,hG,dK=>by
  simp only[sP]at h;split at h
  .rename_i aP n Xh aL H cK;split at h
   .rename_i s2 qs hw;cases h;obtain⟨V2,k1,k2,k3,k4⟩:=kJ hw dG.2 h0 hs hG dK;rw[<- k1];exact dG.1 V0 V2 a h0 k2 k3 k4
   .cases h
  .exact MV h dG V0 V a h0 hs hG dK
 |.seq x y,s,s',bf,aT,ex,ps,h,dG,V0,V,a,h0,hs,hG,dK=>by
  simp only[sP]at h;split at h
  .rename_i aP n Xh aL H cK hso;split at h
   .rename_i s2 qs hw;cases h;obtain⟨V2,k1,k2,k3,k4⟩:=kJ hw dG.2 h0 hs hG dK;rw[<- k1];exact dG.1 V0 V2 a h0 k2 k3 k4
   .cases h
  .split at h
   .rename_i s1 cK qs h1;split at h
    .rename_i ex2 s2 mK rs h2;cases h;obtain⟨hq,hr⟩:=dN.1 dG;refine Go.wpIn_seq (Go.wpIn_mono (eT x h1 hq V0 V a h0 hs hG dK) ?_);exact A9.after fun V1 a1 s1 g1 k1=>eT y h2 hr V0 V1 a1 h0 s1 g1 k1
    .cases h
   .rename_i Xh s1 cK qs Br h1;cases h;refine Go.wpIn_seq (Go.wpIn_mono (eT x h1 dG V0 V a h0 hs hG dK) ?_);intro e a1 w1 hE;have hE':=hE;obtain⟨V1,rfl,k1,k2,k3,k4⟩:=hE';cases e<;>first|exact hE|(cases ex<;>first|exact k4.elim|exact(Br rfl).elim)
   .cases h
 |.cond c x y,s,s',bf,aT,ex,ps,h,dG,V0,V,a,h0,hs,hG,dK=>by
  simp only[sP]at h;split at h
  .rename_i e cK hc;split at h
   .rename_i Xh s1 mK qs h1;cases h;obtain⟨he,hq⟩:=dG;subst he;have hv:=nG (a:=a) (aL:=s.aL) (y:=c) hG fun t _=>dK.aL.get t;rw[hc]at hv;exact Go.wpIn_cond_true (bW hv) (eT x h1 hq V0 V a h0 hs hG dK)
   .cases h
  .rename_i e cK hc;split at h
   .rename_i Xh s1 mK qs h1;cases h;obtain⟨he,hq⟩:=dG;subst he;have hv:=nG (a:=a) (aL:=s.aL) (y:=c) hG fun t _=>dK.aL.get t;rw[hc]at hv;exact Go.wpIn_cond_false (bW hv) (eT y h1 hq V0 V a h0 hs hG dK)
   .cases h
  .cases h
 |.block id c,s,s',bf,aT,ex,ps,h,dG,V0,V,a,h0,hs,hG,dK=>by
  simp only[sP]at h;split at h
  .rename_i j s1 cK qs h1;cases h;refine Go.wpIn_block (Go.wpIn_mono (eT c h1 dG V0 V a h0 hs hG dK) ?_);intro e a1 w1 hE;obtain⟨V1,rfl,k1,k2,k3,k4⟩:=hE;cases e<;>first|exact k4.elim|skip
   rename_i j';have hj:=k4;subst hj;simp only[Exit.inBlock];split
   .exact ⟨V1,rfl,k1,k2,k3,yO⟩
   .exact ⟨V1,rfl,k1,k2,k3,rfl⟩
  .rename_i Xh s1 cK qs Br h1;cases h;refine Go.wpIn_block (Go.wpIn_mono (eT c h1 dG V0 V a h0 hs hG dK) ?_);intro e a1 w1 hE;have hE':=hE;obtain⟨V1,rfl,k1,k2,k3,k4⟩:=hE';cases e<;>first|exact hE|(cases ex<;>first|exact k4.elim|exact(Br _ rfl).elim)
  .cases h
 |.loop c,s,s',bf,aT,ex,ps,h,dG,V0,V,a,h0,hs,hG,dK=>by
  simp only[sP]at h;split at h
  .rename_i aP n Xh aL H cK;split at h
   .rename_i s2 qs hw;cases h;obtain⟨V2,k1,k2,k3,k4⟩:=kJ hw dG.2 h0 hs hG dK;rw[<- k1];exact(dG.1 V0 V2 a h0 k2 k3 k4).wpIn
   .cases h
  .rename_i x ys aP n Xh aL H cK;split at h
   .rename_i s2 qs hw;split at h
    .rename_i d1 hb;cases h;obtain⟨V2,k1,k2,k3,k4⟩:=kJ hw dG.2 h0 hs hG dK;rw[<- k1];exact(dG.1 V0 V2 a h0 k2 k3 ⟨k4.aL,k4.H,RF (by rw[k4.H];exact hb) k4.dh⟩).wpIn
    .cases h
   .cases h
  .cases h
 |.rangeFunc g ts x y,s,s',bf,aT,ex,ps,h,dG,V0,V,a,h0,hs,hG,dK=>Pb h dG V0 V a h0 hs hG dK
 |.scope c,s,s',bf,aT,ex,ps,h,dG,V0,V,a,h0,hs,hG,dK=>by
  simp only[sP]at h;split at h
  .cases h
  .rename_i hng;refine Ry (eT c h dG V0 V a h0 hs hG dK) ?_;rintro l a1 w1 ⟨V1,_,_,_,_,k4⟩;cases ex<;>first|exact k4.elim|exact hng _ _ _ _ h
 |.refuse _,_,_,_,_,_,_,h,_,_,_,_,_,_,_,_=>by cases h
end
def tJ(P:Program)(G:Nat->Option (List AV))(r:Option Nat)(n0:Nat)(c:Code)(s:St)(bf:List bC)(aP:List Nat)(n:Nat):Option (St×List Prop) :=
 match sP P G r n0 c s bf with
 |some (.normal,s1,_,ps)=>match Bq n0 aP n s1 with
  |some (s2,qs)=>some (s2,ps++qs)
  |none=>none
 |_=>none
def Dv(P:Program)(G:Nat->Option (List AV))(r:Option Nat)(n0:Nat)(c:Code)(s:St)(bf:List bC)(aP:List Nat)(n:Nat):Option (bF×St×List Prop) :=
 match sP P G r n0 c s bf with
 |some (.normal,_,_,_)=>none
 |some (.Ay x,s1,_,ps)=>if x.zy=true then(match Bq n0 aP n s1 with
  |some (s2,qs)=>some (.Ay x,s2,ps++qs)
  |none=>none)else none
 |some (ex,s1,_,ps)=>match Bq n0 aP n s1 with
  |some (s2,qs)=>some (ex,s2,ps++qs)
  |none=>none
 |none=>none
section
variable {P:Program} {G:Nat->Option (List AV)} {r:Option Nat} {n0:Nat} {c:Code}
theorem bN.next{s s2 s'}{ex}{ps}(bf:List bC)aP(n:Nat)(h:tJ P G r n0 c s bf aP n=some (s2,ps))(dG:gZ ps)(hn:bN P G r n0 c s2 ex s'):bN P G r n0 c s ex s':=by
 intro V0 V a h0 hs hG dK;unfold tJ at h;split at h
 .rename_i s1 cK qs h1;split at h
  .rename_i s3 rs h2;cases h;obtain⟨hq,hr⟩:=dN.1 dG;refine eO.next (Go.wpIn_mono (eT c h1 hq V0 V a h0 hs hG dK) ?_);refine A9.after fun V1 a1 k1 k2 k3=>?_;obtain⟨V2,l1,l2,l3,l4⟩:=kJ h2 hr h0 k1 k2 k3;rw[<- l1];exact hn V0 V2 a1 h0 l2 l3 l4
  .cases h
 .cases h
theorem bN.exit{s s'}{ex}{ps}(bf:List bC)aP(n:Nat)(h:Dv P G r n0 c s bf aP n=some (ex,s',ps))(dG:gZ ps):bN P G r n0 c s ex s':=by
 intro V0 V a h0 hs hG dK;unfold Dv at h;split at h
 .cases h
 .rename_i x s1 cK qs h1;split at h
  .rename_i Y2;split at h
   .rename_i s3 rs h2;cases h;obtain⟨hq,hr⟩:=dN.1 dG;refine eO.next (Go.wpIn_mono (eT c h1 hq V0 V a h0 hs hG dK) ?_);intro e a1 w1 hE;obtain⟨V1,rfl,k1,k2,k3,k4⟩:=hE;obtain⟨V2,l1,l2,l3,l4⟩:=kJ h2 hr h0 k1 k2 k3;cases e<;>first|exact k4.elim|skip
    obtain⟨v,rfl,hv⟩:=k4;exact⟨V2,l1,l2,l3,l4,v,rfl,II hv Y2⟩
   .cases h
  .cases h
 .rename_i Xh s1 cK qs hn1 hn2 h1;split at h
  .rename_i s3 rs h2;cases h;obtain⟨hq,hr⟩:=dN.1 dG;refine eO.next (Go.wpIn_mono (eT c h1 hq V0 V a h0 hs hG dK) ?_);intro e a1 w1 hE;obtain⟨V1,rfl,k1,k2,k3,k4⟩:=hE;obtain⟨V2,l1,l2,l3,l4⟩:=kJ h2 hr h0 k1 k2 k3;have hE:A9 G V0 ex s' e a1 V1.w:=⟨V2,l1,l2,l3,l4,by
    cases ex<;>cases e<;>first|exact k4|exact(hn2 _ rfl).elim⟩
   cases e<;>first|exact hE|(cases ex<;>first|exact k4.elim|exact(hn1 rfl).elim)
  .cases h
 .cases h
end
def jU(V:View):aS->FrameMode->Prop
 |.ret _,u=>u = .returning
 |.Ay x,u=>∃v,u = .panicking [{ v:=v,recovered:=false }]/\dI V x v
theorem jU.step{V V'}(hs:Step V V'){m}{u}(h:jU V m u):jU V' m u:=by
 cases m with
 |ret x=>exact h
 |Ay x=>obtain⟨v,h1,h2⟩:=h;exact⟨v,h1,h2.step hs⟩
theorem jU.run{V}{m}{u}(h:jU V m u):u≠.run:=by
 cases m with
 |ret x=>rw[(h)];simp
 |Ay x=>obtain⟨v,h1,_⟩:=h;grind
def ank(P:Program)(G:Nat->Option (List AV))(f:FuncId)(args:List AV)(H:List ah)(m:aS)(H':List ah)(m':aS):Prop :=
 ∀(V:View)(vs:List Value)(u:FrameMode),V.H=H->aD G V->bR V args vs->jU V m u->CallsDIn Fence.wide 0 P f vs.toArray u V.w fun e u' w' =>
  (∃r,e = .returned r)/\∃V':View,V'.w=w'/\Step V V'/\aD G V'/\V'.H=H'/\jU V' m' (settle u')
def TV:List ig->Bool
 |[]=>true
 |.nK _::_|.kC .. :: _=>false
 |_::ds=>TV ds
def Dw:Nat->List ig->Bool
 |a,.kC id _::ds=>id==a&&TV ds
 |_,ds=>TV ds
def tL(P:Program)(G:Nat->Option (List AV))(n:Nat):List ig->aS->List ah->List bC->Option (aS×List ah×List Prop)
 |[],m,H,_=>some (m,H,[])
 |.mark id::ds,m,H,bf=>match H[id]? with
  |some .uE=>tL P G n ds m (H.set id .aH) bf
  |_=>none
 |.call f xs::ds,m,H,.dcall m' H'::bf=>if rz P f=true then(match tL P G n ds m' H' bf with
  |some (m2,H2,ps)=>some (m2,H2,ank P G f xs H m H' m'::ps)
  |none=>none)else none
 |.call .. :: _,_,_,_=>none
 |.nK a::ds,m,H,bf=>if n<=a/\Dw a ds=true then tL P G n ds m H bf else none
 |.kC id a::ds,m,H,bf=>match H[id]? with
  |some .uE=>if n<=a/\Dw a ds=true then tL P G n ds m (H.set id .aH) bf else none
  |_=>none
def acy(P:Program)(aL:List AV)(H:List ah):ResultVar->Option AV
 |.tmp t=>some (aL.getD t .aP)
 |.cell a t=>match aL.getD a .aP with
  |.ptr id off=>match H[id]? with
   |some (.box cells)=>nI P t (cells.drop off)
   |_=>none
  |_=>none
def Y3(P:Program)(aL:List AV)(H:List ah):List ResultVar->Option (List AV)
 |[]=>some []
 |x::xs=>match acy P aL H x,Y3 P aL H xs with
  |some y,some ys=>some (y::ys)
  |_,_=>none
def afW:List AV->AV
 |[x]=>x
 |xs=>.bq xs
def Vu(n:Nat)(out:AV)(H:List ah):Option (List ah×List Prop) :=
 if n<H.length/\out.bP n=true then(match IC n (H.take n)with
  |some qs=>some (H.take n,qs)
  |none=>some (H,[]))else some (H,[])
def bF.mode:bF->Option aS
 |.normal|.ret=>some (.ret .aP)
 |.Ay x=>some (.Ay x)
 |_=>none
def EA(P:Program)(G:Nat->Option (List AV))(n:Nat)(fn:Func)(ex:bF)(s:St)(bf:List bC):Option (aS×List ah×List Prop) :=
 match ex.mode with
 |some m=>match tL P G n s.dh m s.H bf with
  |some (.ret _,H2,ps)=>match Y3 P s.aL H2 fn.results.toList with
   |some xs=>match Vu n (afW xs) H2 with
    |some (H3,qs)=>some (.ret (afW xs),H3,ps++qs)
    |none=>none
   |none=>none
  |some (.Ay x,H2,ps)=>match Vu n x H2 with
   |some (H3,qs)=>some (.Ay x,H3,ps++qs)
   |none=>none
  |none=>none
 |none=>none
def Vv(P:Program)(G:Nat->Option (List AV))(f:FuncId)(args:List AV)(H:List ah)(bf:List bC):Option (aS×List ah×List Prop) :=
 match P.funcs[f]? with
 |some fn=>match fn.body with
  |some c=>match sP P G none H.length c { aL:=args++replicate (fn.ntmps-args.length) (.lit undef),H:=H } bf with
   |some (ex,s,aT,ps)=>match EA P G H.length fn ex s aT with
    |some (out,H',qs)=>some (out,H',ps++qs)
    |none=>none
   |none=>none
  |none=>none
 |none=>none
section
variable {P:Program} {G:Nat->Option (List AV)}
structure Bt(V V':View):Prop where
 H:V'.H=V.H
 ρ:V'.ρ=V.ρ
 aU:∀id,id<V.H.length->V'.w.heap[V.ρ id]?=V.w.heap[V.ρ id]?
 data:∀b,b<V.w.heap.size->¬V.M b->V'.w.heap[b]?=V.w.heap[b]?/\¬V'.M b
theorem bY.kF{V V'}(h:Bt V V'){f}{id}(hk:bY f V id):bY f V' id:=by
 obtain⟨o,h1,h2⟩:=hk;exact⟨o,by rw[h.H];exact h1,h2⟩
theorem dI.kF{V V'}(h:Bt V V'){x}{v}(hr:dI V x v):dI V' x v:=by
 induction hr with
 |pure x v hp=>exact .pure x v (hp.step h.data)
 |aP v=>exact .aP v
 |ptr id off hk=>rw[<- h.ρ];exact .ptr id off (hk.kF h)
 |jC id g k j v ha =>
  refine .jC id g k j v ⟨ha.1,?_⟩;have h4:=ha.2;rw[h.H,h.ρ];exact h4
 |aU id g off len v ha =>
  refine .aU id g off len v ⟨ha.1,?_⟩;have hl:=ha.lt;have h4:=ha.2;rw[h.H];unfold qR at h4 |-;rw[h.ρ,h.aU id hl];exact h4
 |mp id hk=>rw[<- h.ρ];exact .mp id (hk.kF h)
 |yl id hk=>rw[<- h.ρ];exact .yl id (hk.kF h)
 |agg cs vs hl _ ih=>exact .agg cs vs hl ih
 |bq cs vs hl _ ih=>exact .bq cs vs hl ih
 |qX t x v _ ih=>exact .qX t x v ih
 |fn f us bs aZ vs hu hv _ _ iha ihb=>exact .fn f us bs aZ vs hu hv iha ihb
theorem bR.kF{V V'}(h:Bt V V'){xs}{vs}(hr:bR V xs vs):bR V' xs vs:=⟨hr.1,fun j hj=>(hr.2 j hj).kF h⟩
theorem fZ.kF{V V'}(h:Bt V V'){id}{o}(hl:id<V.H.length)(hr:fZ V (V.ρ id) o):fZ V' (V'.ρ id) o:=by
 have h2:=h.aU id hl;rw[h.ρ];cases o with
 |box cells=>obtain⟨t,vs,k1,k2⟩:=hr;exact⟨t,vs,h2.trans k1,k2.kF h⟩
 |aN g sz fz xs =>
  obtain⟨t,c,k1,k2,k3,k4⟩:=hr;exact⟨t,c,h2.trans k1,k2,k3,fun k j hk hj=>let ⟨v,a,b,c⟩:=k4 k j hk hj;⟨v,a,b,c.kF h⟩⟩
 |map es =>
  obtain⟨ents,clock,k1,k2,k3,k4,k5,k6⟩:=hr;exact⟨ents,clock,h2.trans k1,k2,k3,k4,k5,fun j hj=>(k6 j hj).kF h⟩
 |iV st p aL ps aZ bd=>obtain⟨fn,vs,D,k1,k2⟩:=hr;exact⟨fn,vs,D,h2.trans k1,k2.kF h⟩
 |iter cur left =>
  obtain⟨bm,since,seen,c0,ents,clock,es,idx,k1,k2⟩:=hr;exact⟨bm,since,seen,c0,ents,clock,es,idx,h2.trans k1,k2.step h.data⟩
 |uE=>exact h2.trans hr
 |aH=>trivial
theorem zw.kF{V V'}(h:Bt V V'){x}{d}(hr:zw V x d):zw V' x d:=by
 cases x with
 |mark id=>exact⟨hr.1.kF h,by rw[h.ρ];exact hr.2⟩
 |call f xs=>obtain⟨cs,h1,h2⟩:=hr;exact⟨cs,h1,h2.kF h⟩
 |nK a=>exact hr.elim
 |kC id a=>exact hr.elim
theorem dS.Y4{V V'}(h:Bt V V'){xs}{ds}(hr:dS V xs ds)(hx:TV xs=true):dS V' xs ds:=by
 induction hr with
 |nil=>exact .nil
 |cons h1 _ ih =>
  rename_i x d xs ds _;cases x<;>first|exact h1.elim|exact .cons (h1.kF h) (ih hx)
 |nK=>cases hx
 |kC=>cases hx
theorem dS.kF{V V'}(h:Bt V V')(hM:V'.M=V.M)(iZ:V'.w.heap.size=V.w.heap.size){a b}(hab:V.ρ a<b)(BU:∀c,c≠b->V'.w.heap[c]?=V.w.heap[c]?){xs}{ds}(hr:dS V xs ds)(hx:Dw a xs=true):dS V' xs ds:=by
 cases hr with
 |nil=>exact .nil
 |cons h1 h2 =>
  rename_i x d xs ds;cases x<;>first|exact h1.elim|exact .cons (h1.kF h) (h2.Y4 h hx)
 |nK=>cases hx
 |kC hi ha bg hn hb hs =>
  simp only[Dw,y04,beq_iff_eq]at hx;obtain⟨rfl,hx⟩:=hx;rw[<- h.ρ];refine .kC (hi.kF h) (ha.kF h) (by rw[h.ρ];exact bg) hn (fun c hc=>?_) (hs.Y4 h hx);obtain⟨⟨q1,q2,q3,q4,q5⟩,q6⟩:=hb c hc;exact⟨⟨by rw[h.ρ];exact q1,by rw[iZ];exact q2,by rw[hM];exact q3,by rw[h.H,h.ρ];exact q4,by rw[BU c zO];exact q5⟩,by rw[h.ρ];exact q6⟩
theorem jU.kF{V V'}(h:Bt V V'){m}{u}(hr:jU V m u):jU V' m u:=by
 cases m with
 |ret x=>exact hr
 |Ay x=>obtain⟨v,h1,h2⟩:=hr;exact⟨v,h1,h2.kF h⟩
theorem Y5{V0 V}{a b}(h0:V0.H.length<=a)(ha:bY ah.vG V a)(hb:xg V a b)(hs:Step V0 V)(hG:aD G V) :
 ∃V':View,V'.w=V.w.putObj b (.deferred none)/\Bt V V'/\V'.M=V.M/\Step V0 V'/\aD G V':=by
 obtain⟨h1,h2,h3,h4,h5⟩:=hb;obtain⟨o,ho,_⟩:=ha;have hal:=(yC.1 ho).1;have uQ:V0.w.heap.size<=b:=by
  rcases hs.fresh a hal with⟨f,_⟩|f<;>omega
 have BU:∀c,c≠b->(V.w.putObj b (.deferred none)).heap[c]?=V.w.heap[c]? := fun c hc=>World.putObj_heap_other hc;have fB:Bt V { w:=V.w.putObj b (.deferred none),M:=V.M,H:=V.H,ρ:=V.ρ }:=⟨rfl,rfl,fun id dU=>BU _ (h4 id dU),fun c _ hn=>⟨BU c fun e=>hn (e▸h3),hn⟩⟩;refine⟨{ w:=V.w.putObj b (.deferred none),M:=V.M,H:=V.H,ρ:=V.ρ },rfl,fB,rfl,?_,?_⟩
 .exact {
   os:=hs.os
   tape:=hs.tape
   output:=hs.output
   size:=by rw[World.putObj_size];omega
   drawn:=hs.drawn
   keep:=fun c hc hn=>⟨(BU c zO).trans (hs.keep c hc hn).1,(hs.keep c hc hn).2⟩
   data:=fun c hc hn=>⟨(BU c zO).trans (hs.data c hc hn).1,(hs.data c hc hn).2⟩
   bL:=hs.bL
   fresh:=hs.fresh
   eP:=fun id dU=>by
    have:=hs.eP id dU;unfold dL at this |-;grind }
 .exact {
   lt:=fun id dU=>by rw[World.putObj_size];exact hG.lt id dU
   eP:=fun id ob NW=>(hG.eP id ob NW).kF fB (yC.1 NW).1
   inj:=hG.inj
   gW:=hG.gW
   ng:=fun g cs hg=>(hG.ng g cs hg).step fB.data }
theorem BX{fn}{tmps}{R}{xs}{ls}{m}{u}{a}(hx:Dw a xs=true){V0}(h0:V0.H.length<=a):∀{bs:List Nat}{V},aD G V->Step V0 V->bY ah.vG V a->bs.Nodup->(∀b∈bs,xg V a b)->dS V xs ls->jU V m u ->
 (∀V2,V2.H=V.H->Step V0 V2->(∀x v,dI V x v->dI V2 x v)->aD G V2->dS V2 xs ls->jU V2 m u->LeavesInM Fence.wide 0 P fn tmps R ls u V2.w)->LeavesInM Fence.wide 0 P fn tmps R (bs.map IB++ls) u V.w
 |[],V,hG,hs,_,_,_,hd,hm,hn=>hn V rfl hs (fun _ _ h=>h) hG hd hm
 |b::bs,V,hG,hs,ha,wO,hb,hd,hm,hn=>by
  have Ti:=hb b mem_cons_self;obtain⟨hnb,anl⟩:=nodup_cons.1 wO;obtain⟨V1,k1,k2,k3,k4,k5⟩:=Y5 h0 ha Ti hs hG;refine⟨hm.run,.inl ⟨b,V1.w,rfl,by rw[k1];exact run_takeDeferred Ti.2.2.2.2,?_⟩⟩;refine BX hx h0 k5 k4 (ha.kF k2) anl (fun c hc=>?_) (hd.kF k2 k3 (by rw[k1,World.putObj_size]) Ti.1 (fun c hc=>by rw[k1];exact World.putObj_heap_other hc) hx) (hm.kF k2) fun V2 e s2 t2=>hn V2 (e.trans k2.H) s2 fun x v hr=>t2 x v (hr.kF k2);obtain⟨q1,q2,q3,q4,q5⟩:=hb c (yF _ hc);have hcb:c≠b:=fun e=>hnb (e▸hc);exact⟨by rw[k2.ρ];exact q1,by rw[k1,World.putObj_size];exact q2,by rw[k3];exact q3,by rw[k2.H,k2.ρ];exact q4,by rw[k1,World.putObj_heap_other hcb];exact q5⟩
theorem kG{fn}{tmps}{R}{n}{V0}(h0:V0.H.length=n):∀{ds}{l}{m m2}{u}{H2}{bf}{ps}{V},tL P G n ds m V.H bf=some (m2,H2,ps)->gZ ps->Step V0 V->aD G V->dS V ds l->jU V m u ->
 (∀V2 u2,Step V0 V2->(∀x v,dI V x v->dI V2 x v)->aD G V2->V2.H=H2->jU V2 m2 u2->LeavesIn Fence.wide 0 P fn tmps R [] u2 V2.w)->LeavesInM Fence.wide 0 P fn tmps R l u V.w
 |[],l,m,m2,u,H2,bf,ps,V,h,_,hs,hG,hd,hm,hn=>by
  cases hd;simp only[tL,y06,Prod.mk.injEq]at h;obtain⟨rfl,h,_⟩:=h;exact hn V u hs (fun _ _ h=>h) hG h hm
 |.mark id::ds,l,m,m2,u,H2,bf,ps,V,h,dG,hs,hG,hd,hm,hn=>by
  cases hd with
  |cons h1 hds =>
   rename_i d l';simp only[tL]at h;split at h
   .rename_i hH;obtain⟨_,rfl⟩:=h1;have ho:=hG.eP id _ hH;obtain⟨V1,k1,k2,k3,k4,k5⟩:=AJ hG (w':=V.w.putObj (V.ρ id) (.deferred none)) hH rfl (fun b hb=>by simp[World.putObj,show V.ρ id≠b from fun e=>hb e.symm]) (by simp[World.putObj]) rfl rfl rfl;refine⟨hm.run,.inl ⟨V.ρ id,V1.w,rfl,by rw[k1];exact run_takeDeferred ho,?_⟩⟩;exact kG h0 (by rw[k2];exact h) dG (hs.trans k4) k5 (hds.step k4) (hm.step k4) fun V2 u2 s2 t2 g2 h2 m2=>hn V2 u2 s2 (fun x v hr=>t2 x v (hr.step k4)) g2 h2 m2
   .cases h
 |.kC id a::ds,l,m,m2,u,H2,bf,ps,V,h,dG,hs,hG,hd,hm,hn=>by
  simp only[tL]at h;split at h<;>first|(cases h;done)|skip
  rename_i hH;split at h<;>first|(cases h;done)|skip
  rename_i hc;cases hd with
  |cons h1 _=>exact h1.elim
  |kC hi ha bg wO hb hr =>
   have ho:=hG.eP id _ hH;obtain⟨V1,k1,k2,k3,k4,k5⟩:=AJ hG (w':=V.w.putObj (V.ρ id) (.deferred none)) hH rfl (fun b hb=>by simp[World.putObj,show V.ρ id≠b from fun e=>hb e.symm]) (by simp[World.putObj]) rfl rfl rfl;refine⟨hm.run,.inl ⟨V.ρ id,V1.w,rfl,by rw[k1];exact run_takeDeferred ho,?_⟩⟩;refine BX hc.2 (by rw[h0];exact hc.1) k5 (hs.trans k4) (wz k4 ha).1 wO (fun b hm=>(hb b hm).1.step k4 ha) (hr.step k4) (hm.step k4) fun V2 e s2 t2 g2 d2 m2=>?_;exact kG h0 (by rw[e,k2];exact h) dG s2 g2 d2 m2 fun V3 u3 s3 t3 g3 h3 m3=>hn V3 u3 s3 (fun x v hr=>t3 x v (t2 x v (hr.step k4))) g3 h3 m3
 |.nK a::ds,l,m,m2,u,H2,bf,ps,V,h,dG,hs,hG,hd,hm,hn=>by
  simp only[tL]at h;split at h
  .rename_i hc;cases hd with
   |cons h1 _=>exact h1.elim
   |nK ha wO hb hr=>exact BX hc.2 (by rw[h0];exact hc.1) hG hs ha wO hb hr hm fun V2 e s2 t2 g2 d2 m2=>kG h0 (by rw[e];exact h) dG s2 g2 d2 m2 fun V3 u3 s3 t3 g3 h3 m3=>hn V3 u3 s3 (fun x v hr=>t3 x v (t2 x v hr)) g3 h3 m3
  .cases h
 |.call f xs::ds,l,m,m2,u,H2,bf,ps,V,h,dG,hs,hG,hd,hm,hn=>by
  cases bf with
  |nil=>cases h
  |cons q bf =>
   cases q<;>first|(cases h;done)|skip
   rename_i m' H';cases hd with
   |cons h1 hds =>
    rename_i d l';simp only[tL]at h;split at h
    .rename_i dK;split at h
     .rename_i m3 H3 qs Ir;cases h;obtain⟨hdc,hqs⟩:=dG;obtain⟨cs,ht,hr⟩:=h1;obtain⟨target,dargs⟩:=d;simp only at ht;subst ht;refine⟨hm.run,.inr ⟨nofun,.func f,cs,f,(dargs.toList++cs.toList).toArray,rfl,?_,fun _ _=>trivial,?_⟩⟩
      .unfold rz at dK;split at dK
       .rename_i fn' wN;simp only[y04,Bool.not_eq_true',beq_eq_false_iff_ne,ne_eq]at dK;obtain⟨c,hb⟩:=Option.isSome_iff_exists.1 dK.1;simp[invoke,callFunc,wN,dK.2,hb]
       .cases dK
      .refine (hdc V _ u rfl hG hr hm).mono fun e u' w' he=>?_;obtain⟨⟨r,rfl⟩,V1,rfl,k1,k2,k3,k4⟩:=he;exact kG h0 (by rw[k3];exact Ir) hqs (hs.trans k1) k2 (hds.step k1) k4 fun V2 u2 s2 t2 g2 h2 m2=>hn V2 u2 s2 (fun x v hr=>t2 x v (hr.step k1)) g2 h2 m2
     .cases h
    .cases h
theorem RG{V}{a}{aL}(hG:aD G V)(he:eF V aL a){x}{y}(h:acy P aL V.H x=some y) :
 ∃v,(match x with|.tmp t=>pure (a.tmps.getD t undef)|.cell b t=>do loadVar t (<- asAddr (a.tmps.getD b undef)):Sem Value).run P V.w = .ok v V.w/\dI V y v:=by
 cases x with
 |tmp t =>
  simp only[acy,y06]at h;subst h;exact⟨_,rfl,he.get t⟩
 |cell b t =>
  simp only[acy]at h;split at h
  .rename_i id off hp;split at h
   .rename_i cells hH;have hr:=he.get b;rw[hp]at hr;obtain⟨_,hv⟩:=jr hr;have hc:=(wD hG hH).drop off;rw[y09]at hc;obtain⟨v,h1,h2⟩:=uS h hc;exact⟨v,by simp[hv,asAddr,h1],h2⟩
   .cases h
  .cases h
theorem BZ{V}{a}{aL}(hG:aD G V)(he:eF V aL a):∀{xs}{ys},Y3 P aL V.H xs=some ys ->
 ∃vs:List Value,(xs.mapM fun x=>(match x with|.tmp t=>pure (a.tmps.getD t undef)|.cell b t=>do loadVar t (<- asAddr (a.tmps.getD b undef)):Sem Value)).run P V.w = .ok vs V.w/\bR V ys vs
 |[],ys,h=>by
  simp only[Y3,y06]at h;subst h;exact⟨[],rfl,.nil⟩
 |x::xs,ys,h=>by
  unfold Y3 at h;split at h
  .rename_i y zs h1 h2;cases h;obtain⟨v,k1,k2⟩:=RG hG he h1;obtain⟨vs,l1,l2⟩:=BZ hG he h2;refine⟨v::vs,?_,.cons k2 l2⟩;simp_all
  .cases h
theorem Pd{V}{ys}{vs}(h:bR V ys vs):dI V (afW ys) (if h:vs.toArray.size=1 then vs.toArray[0]else .tuple vs.toArray):=by
 match ys,vs,h with
 |[],[],h=>exact .bq [] [] rfl fun j hj=>absurd hj zS
 |[y],[v],h=>exact h.head
 |y::z::ys,u::v::vs,h=>exact .bq _ _ h.1 h.2
 |[],_::_,h=>have:=h.1;grind
 |_::_,[],h=>have:=h.1;grind
 |[_],_::_::_,h=>have:=h.1;grind
 |_::_::_,[_],h=>have:=h.1;grind
theorem pJ{V0 V}{n}{x}{H3}{qs}(h:Vu n x V.H=some (H3,qs))(hq:gZ qs)(h0:V0.H.length=n)(hs:Step V0 V)(hG:aD G V){v}(hr:dI V x v) :
 ∃V3:View,V3.w=V.w/\Step V0 V3/\aD G V3/\V3.H=H3/\dI V3 x v:=by
 unfold Vu at h;split at h
 .rename_i hc;obtain⟨h1,h2⟩:=hc;split at h
  .rename_i ps IJ;cases h;exact⟨V.cut n,rfl,CG (Nat.le_of_lt h1) (Nat.le_of_eq h0) hs,CB (Nat.le_of_lt h1) hG (BR IJ hq),rfl,acv (Nat.le_of_lt h1) h2 hr⟩
  .grind
 .grind
theorem xq{f:FuncId}{args:List AV}{out:aS}(bf:List bC)(h:Vv P G f args H bf=some (out,H',ps))(dG:gZ ps):ak P G f args H out H':=by
 unfold Vv at h;split at h
 .rename_i fn wN;split at h
  .rename_i c hb;split at h
   .rename_i ex s cK qs jJ;split at h
    .rename_i afR H1 rs iJ;cases h;obtain⟨hq,hr⟩:=dN.1 dG;intro V vs hH hG jf;subst hH;refine callsIn_of_wp_marks wN hb trivial (Go.wpIn_mono (eT (r:=none) c jJ hq V V { tmps:=vs.toArray++Array.replicate (fn.ntmps-vs.toArray.size) undef,defers:=[] } rfl (Step.refl V) hG ⟨?_,rfl,.nil⟩) ?_)
     .have:eF V (args++replicate (fn.ntmps-args.length) (.lit undef)) { tmps:=(vs++replicate (fn.ntmps-args.length) undef).toArray,defers:=[] }:=by
       refine bR.append jf ?_;have:=bR.vv (V:=V) (replicate (fn.ntmps-args.length) undef);simpa using this
      have e:(vs++replicate (fn.ntmps-args.length) undef).toArray=vs.toArray++Array.replicate (fn.ntmps-vs.toArray.size) undef:=by
       apply Array.ext';simp[jf.1]
      rw[e]at this;exact this
     .intro e a' w' hE;obtain⟨V1,rfl,k1,k2,k3,k4⟩:=hE;obtain⟨m,hm,hmr⟩:∃m u,ex.mode=some m/\jU V1 m u/\(LeavesInM Fence.wide 0 P fn a'.tmps (xu G V H' out) a'.defers u V1.w->bodyPostM Fence.wide 0 P fn (xu G V H' out) e a' V1.w):=by
       cases ex<;>cases e<;>first|exact k4.elim|skip
       .exact ⟨_,.returning,rfl,rfl,id⟩
       .simp [EA,bF.mode]at iJ
       .simp [EA,bF.mode]at iJ
       .exact ⟨_,.returning,rfl,rfl,id⟩
       .obtain ⟨v,rfl,hv⟩:=k4;exact⟨_,_,rfl,⟨v,rfl,hv⟩,id⟩
      obtain⟨Y6,hmr,hgo⟩:=hmr;refine hgo ?_;unfold EA at iJ;rw[Y6]at iJ;simp only at iJ;split at iJ
      .rename_i y H2 qs2 hlv;split at iJ
       .rename_i xs afX;split at iJ
        .rename_i H3 qs3 IJ;cases iJ;obtain⟨hr1,Y7⟩:=dN.1 hr;refine kG (V0:=V) rfl (by rw[k3.H];exact hlv) hr1 k1 k2 k3.dh hmr fun V2 u2 s2 t2 g2 h2 m2=>?_;rw[show u2 = .returning from m2];obtain⟨us,m1,m2⟩:=BZ (a:=a') g2 ⟨k3.aL.1,fun j hj=>t2 _ _ (k3.aL.2 j hj)⟩ (by rw[h2];exact afX);obtain⟨V3,n1,n2,n3,n4,n5⟩:=pJ (V0:=V) (by rw[h2];exact IJ) Y7 rfl s2 g2 (Pd m2);refine⟨_,?_,V3,n1,n2,n3,n4,n5⟩;unfold results;rw[Array.mapM_eq_mapM_toList];simp only[Sem.run_bind,Sem.run_map,Result.andThen,Sem.run_pure];generalize hz:Sem.run P (mapM _ fn.results.toList) V2.w=z;have jw:=hz.symm.trans m1;subst jw;rfl
        .cases iJ
       .cases iJ
      .rename_i x H2 qs2 hlv;split at iJ
       .rename_i H3 qs3 IJ;cases iJ;obtain⟨hr1,Y7⟩:=dN.1 hr;refine kG (V0:=V) rfl (by rw[k3.H];exact hlv) hr1 k1 k2 k3.dh hmr fun V2 u2 s2 t2 g2 h2 m2=>?_;obtain⟨v,rfl,hv⟩:=m2;obtain⟨V3,n1,n2,n3,n4,n5⟩:=pJ (V0:=V) (by rw[h2];exact IJ) Y7 rfl s2 g2 hv;exact⟨V3,n1,n2,n3,n4,v,rfl,n5⟩
       .cases iJ
      .cases iJ
    .cases h
   .cases h
  .cases h
 .cases h
end
def MW:List AV->List Tmp->List AV->List AV
 |aL,t::ts,x::xs=>MW (aL.set t x) ts xs
 |aL,_,_=>aL
def afY:bF->Option (Option Code)
 |.normal=>some none
 |.ret=>some (some .ret)
 |.exit i=>some (some (.exit i))
 |.goto l=>some (some (.goto l))
 |.Ay _=>none
def afZ(n:Nat)(H:List ah):List bC->Option (List ah×List Prop)
 |.LV::_=>some (H,[])
 |_=>Vu n (.lit undef) H
def af0(P:Program)(G:Nat->Option (List AV))(r:Option Nat)(id:Nat)(args:List AV)(H:List ah)(bf:List bC):Option (Bool×List ah×List Prop) :=
 match H[id]? with
 |some (.iV .ready _ aL ts x y)=>if ts.size=args.length then
  (match sP P G r H.length x { aL:=MW aL ts.toList args,H:=H } bf with
  |some (.normal,s1,cK,qs1)=>match s1.H[id]? with
   |some (.iV .ready p1 O1 Xb x1 y1)=>match sP P G r H.length y { s1 with H:=s1.H.set id (.iV .busy p1 O1 Xb x1 y1) } cK with
    |some (ex,s2,mK,qs2)=>match s2.H[id]?,afY ex with
     |some (.iV _ _ Vw ts2 x2 y2),some j=>match afZ H.length (s2.H.set id (.iV (if j.isNone=true then .ready else .done) j Vw ts2 x2 y2)) mK with
      |some (H3,qs3)=>some (j.isNone,H3,qs1++(qs2++qs3))
      |none=>none
     |_,_=>none
    |none=>none
   |_=>none
  |_=>none)else none
 |_=>none
section
variable {P:Program} {G:Nat->Option (List AV)}
theorem Pe{V}(hG:aD G V){id}{st st'}{p p'}{aL}{ts}{x y}(dU:V.H[id]?=some (.iV st p aL ts x y)){fn}{vs}{D}(ho:V.w.heap[V.ρ id]?=some (.loop { state:=st,pending:=p,fn:=fn,tmps:=toArray vs,params:=ts,assign:=x,body:=y,defers:=D }))(he:bR V aL vs) :
 ∃V':View,V'.w=V.w.putObj (V.ρ id) (.loop { state:=st',pending:=p',fn:=fn,tmps:=toArray vs,params:=ts,assign:=x,body:=y,defers:=D })/\V'.H=V.H.set id (.iV st' p' aL ts x y)/\V'.ρ=V.ρ/\Step V V'/\aD G V':=by
 have bg:=(yC.1 dU).1;let w':=V.w.putObj (V.ρ id) (.loop { state:=st',pending:=p',fn:=fn,tmps:=toArray vs,params:=ts,assign:=x,body:=y,defers:=D });let V':View:={ w:=w',M:=V.M,H:=V.H.set id (.iV st' p' aL ts x y),ρ:=V.ρ };have hM:=hG.gW id _ dU rfl;have Hs:V'.H[id]?=some (.iV st' p' aL ts x y):=by grind
 have Ho:∀i,i≠id->V'.H[i]?=V.H[i]? := fun i hi=>by grind
 have hl:V'.H.length=V.H.length:=by show(V.H.set id _).length=_;simp
 have ne:∀i,i<V.H.length->i≠id->V.ρ i≠V.ρ id:=fun i hi fF e=>fF (hG.inj i id hi bg e);have hh:∀b,b≠V.ρ id->w'.heap[b]?=V.w.heap[b]? := fun b hb=>World.putObj_heap_other hb;have hs:w'.heap.size=V.w.heap.size:=World.putObj_size;have fB:Step V V':={
  os:=rfl
  tape:=rfl
  output:=rfl
  size:=Nat.le_of_eq hs.symm
  drawn:=yM
  keep:=fun b _ hn=>⟨hh b fun e=>hn id bg e.symm,Iff.rfl⟩
  data:=fun b _ hn=>⟨hh b fun e=>hn (e▸hM),hn⟩
  bL:=Nat.le_of_eq hl.symm
  fresh:=fun i hi=>.inl ⟨by rw[hl]at hi;exact hi,rfl⟩
  eP:=fun i hi=>by
   by_cases e:i=id
   .grind [dL]
   .exact .refl hi (Ho i e) rfl (hh _ (ne i hi e)) }
 refine⟨V',rfl,rfl,rfl,fB,?_⟩;exact{
  lt:=fun i hi=>by rw[hl]at hi;rw[hs];exact hG.lt i hi
  eP:=fun i o ho'=>by
   by_cases e:i=id
   .subst e;rw[Hs]at ho';cases ho';exact⟨fn,vs,D,World.putObj_heap_same (hG.lt i bg),bR.step fB he⟩
   .rw [Ho i e]at ho';exact(hG.eP i o ho').step fB (hh _ (ne i (yC.1 ho').1 e))
  inj:=fun i j hi hj=>by rw[hl]at hi hj;exact hG.inj i j hi hj
  gW:=fun i o ho' J8=>by
   by_cases e:i=id
   .subst e;exact hM
   .rw [Ho i e]at ho';exact hG.gW i o ho' J8
  ng:=hG.gD fB }
theorem KO{V}:∀{ts}{xs}{us}{aL}{vs},bR V aL vs->bR V xs us ->
 bR V (MW aL ts xs) ((ts.zip us).foldl (fun l (t,a)=>l.set t a) vs)
 |[],xs,us,aL,vs,h,_=>by cases xs<;>exact h
 |t::ts,[],us,aL,vs,h,hx=>by
  have:=y02 (by simpa using hx.1);subst this;exact h
 |t::ts,x::xs,[],aL,vs,h,hx=>by have:=hx.1;grind
 |t::ts,x::xs,u::us,aL,vs,h,hx=>KO (ts:=ts) (h.set t hx.head) hx.tail
theorem xO:∀(l:List (Tmp×Value))vs,(l.foldl (fun(tmps)x=>tmps.setIfInBounds x.1 x.2) vs.toArray)=(l.foldl (fun(l:List Value)x=>l.set x.1 x.2) vs).toArray
 |[],vs=>rfl
 |(t,a)::l,vs=>by
  simp only[foldl_cons];have:vs.toArray.setIfInBounds t a=(vs.set t a).toArray:=by simp
  rw[this];exact xO l _
theorem RH{V0 V}{n}{bf}{H3}{qs}(h:afZ n V.H bf=some (H3,qs))(hq:gZ qs)(h0:V0.H.length=n)(hs:Step V0 V)(hG:aD G V) :
 ∃V3:View,V3.w=V.w/\Step V0 V3/\aD G V3/\V3.H=H3:=by
 unfold afZ at h;split at h
 .grind
 .obtain ⟨V5,a5,b5,c5,d5,_⟩:=pJ  h hq h0 hs hG (dI.pure _ _ (.lit undef));grind
theorem J9{id:Nat}{args:List AV}{b:Bool}{ps:Option Nat->List Prop}(bf:List bC)(h:∀r,af0 P G r id args H bf=some (b,H',ps r))(dG:∀r,gZ (ps r)):dY P G id args H b H':=by
 intro V vs hH hG jf;have h:=h (some (V.ρ id));have dG:=dG (some (V.ρ id));generalize ps (some (V.ρ id))=qs at h dG;unfold af0 at h;subst hH;split at h
 .rename_i p0 aL ts x y dU;split at h
  .rename_i iZ;split at h
   .rename_i s1 cK qs1 hx;split at h
    .rename_i p1 O1 Xb x1 y1 anm;split at h
     .rename_i ex s2 mK qs2 hy;split at h
      .rename_i st2 p2 Vw ts2 x2 y2 j ano hj;split at h
       .rename_i H3 qs3 IJ;cases h;obtain⟨q1,q23⟩:=dN.1 dG;obtain⟨q2,q3⟩:=dN.1 q23;obtain⟨fn,us,D,o1,o2⟩:=hG.eP id _ dU;have Ev:vs.toArray.size=ts.size:=by rw[iZ,<- jf.1];simp
        refine⟨fn,_,x,y,run_yield o1 Ev,fun r=>roundIn_of_wpIn trivial ?_⟩;have F7:eF V (MW aL ts.toList args) { tmps:=(ts.zip vs.toArray).foldl (fun tmps (t,a)=>tmps.setIfInBounds t a) us.toArray,defers:=[] }:=by
         have h1:=KO (ts:=ts.toList) o2 jf;have e:(ts.zip vs.toArray).foldl (fun(tmps:Array Value)(x:Tmp×Value)=>tmps.setIfInBounds x.1 x.2) us.toArray=((ts.toList.zip vs).foldl (fun(l:List Value)(x:Tmp×Value)=>l.set x.1 x.2) us).toArray:=by
          rw[<- xO,<- Array.foldl_toList];simp
         rw[e];exact h1
        have hr1:=eT (r:=some (V.ρ id)) x hx q1 V V _ rfl (Step.refl V) hG ⟨F7,rfl,.nil⟩;refine Go.wpIn_mono hr1 ?_;refine A9.after fun V1 a1 s01 g1 k1=>?_;have aef:V1.H[id]?=some (.iV .ready p1 O1 Xb x1 y1):=by rw[k1.H];exact anm
        have YZ:=(Ca s01 ⟨_,dU,rfl⟩).2;obtain⟨fn1,us1,D1,o11,o12⟩:=g1.eP id _ aef;obtain⟨V2,a2,b2,c2,d2,e2⟩:=Pe (st':=.busy) (p':=p1) g1 aef o11 o12;refine⟨V2.w,by rw[a2,<- YZ];exact run_beginRound o11 rfl,?_⟩;have Y7:=eT (r:=some (V.ρ id)) y hy q2 V V2 a1 rfl (s01.trans d2) e2 ⟨k1.aL.step d2,by rw[b2,k1.H],k1.dh.step d2⟩;refine Go.wpIn_mono Y7 ?_;intro e a3 w3 hE;obtain⟨V3,rfl,l1,l2,l3,l4⟩:=hE;have ajL:V3.H[id]?=some (.iV st2 p2 Vw ts2 x2 y2):=by rw[l3.H];exact ano
        have anp:=(Ca l1 ⟨_,dU,rfl⟩).2;obtain⟨fn3,us3,D3,o31,o32⟩:=l2.eP id _ ajL;obtain⟨V4,a4,b4,c4,d4,e4⟩:=Pe  (p':=j) l2 ajL o31 o32;obtain⟨V5,a5,b5,c5,d5⟩:=RH (V0:=V) (by rw[b4,l3.H];exact IJ) q3 rfl (l1.trans d4) e4;have fin:∃v w',(Instr.endRound (V.ρ id) j).run P V3.w = .ok v w'/\∃V':View,V'.w=w'/\Step V V'/\aD G V'/\V'.H=H'/\Ending.returned v = .returned (.bool j.isNone) :=
         ⟨_,_,by rw[<- anp];exact run_endRound j o31,V5,by rw[a5,a4],b5,c5,d5,rfl⟩
        cases ex<;>cases e<;>first|exact l4.elim|skip
        .cases hj;exact fin
        .obtain rfl:=l4;cases hj;exact fin
        .obtain rfl:=l4;cases hj;exact fin
        .cases hj;exact fin
        .cases hj
       .cases h
      .cases h
     .cases h
    .cases h
   .cases h
  .cases h
 .cases h
end
def p8:Code->List Code
 |.seq a b=>p8 a++p8 b
 |.cond _ a b=>p8 a++p8 b
 |.block _ c=>p8 c
 |.loop c=>c::p8 c
 |.rangeFunc _ _ x y=>p8 x++p8 y
 |.scope c=>p8 c
 |_=>[]
def lS:Code->List (Code×Code)
 |.seq a b=>lS a++lS b
 |.cond _ a b=>lS a++lS b
 |.block _ c=>lS c
 |.loop c=>lS c
 |.rangeFunc _ _ x y=>(x,y)::(lS x++lS y)
 |.scope c=>lS c
 |_=>[]
def oW(P:Program)(f:FuncId):Code:=match P.funcs[f]? with
 |some fn=>fn.body.getD .skip
 |none=>.skip
def vg(P:Program)(f:FuncId)(i:Nat):Code:=(p8 (oW P f)).getD i .skip
def KP(P:Program)(f:FuncId)(i:Nat):Code:=((lS (oW P f)).getD i (.skip,.skip)).1
def uT(P:Program)(f:FuncId)(i:Nat):Code:=((lS (oW P f)).getD i (.skip,.skip)).2
def vk:List (Nat×AV)->Nat->AV
 |[],_=>.aP
 |(j,x)::l,i=>if j=i then x else vk l i
def aC(n:Nat)(l:List (Nat×AV)):List AV:=(List.range n).map (vk l)
def aB(n:Nat)(live:List Nat):List Nat:=(List.range n).filter fun i=>!live.contains i
theorem aF.nil sz:aF (.lit (.slice none 0 0)) (.sl sz false []):=fun V v h=>by
 rw[bW h];exact .pure _ _ (.sl sz false [] none 0 0 0 (fun _ _=>undef) (fun h=>absurd rfl h) (fun h=>absurd rfl h) yM (fun h=>by cases h) zS (fun k j hk=>absurd hk zS) (fun k j hk=>absurd hk zS) (fun k j hk=>absurd hk zS))
theorem aF.oP sz(t:Bool)xs:aF (.sl sz t xs) (.sl sz false xs):=fun V v h=>by
 cases jF h with
 |sl _ _ _ A cap b o vs hA hb pK ht iZ hc ho hr=>exact .pure _ _ (.sl sz false xs A cap b o vs hA hb pK (fun h=>by cases h) iZ hc ho hr)
theorem aF.bq{xs ys}(hl:ys.length=xs.length)(h:∀j,j<xs.length->aF (xs.getD j .aP) (ys.getD j .aP)):aF (.bq xs) (.bq ys):=fun V v hr=>by
 obtain⟨vs,rfl,h1,h2⟩:=GI hr;exact .bq ys vs (h1.trans hl.symm) fun j hj=>h j zO V _ (h2 j zO)
theorem aF.U1{a b c d}(h:aF a c)(k:aF b d):aF (.bq [a,b]) (.bq [c,d]):=.bq rfl fun j hj=>by
 match j,hj with
 |0,_=>exact h
 |1,_=>exact k
section
variable {P:Program} {G:Nat->Option (List AV)}
theorem ak.out{f}{args}{H H'}{x y}(h:ak P G f args H (.ret x) H')(hs:aF x y):ak P G f args H (.ret y) H':=fun V vs hH hG hr =>
 (h V vs hH hG hr).mono fun e w' he=>by
  obtain⟨V',k1,k2,k3,k4,k5⟩:=he;refine⟨V',k1,k2,k3,k4,?_⟩;cases e with
  |returned v=>exact hs V' v k5
  |panicked _=>exact k5.elim
  |outgrown=>exact k5.elim
theorem ak.args{f}{xs ys}{H H'}{out}(h:ak P G f ys H out H')(hl:ys.length=xs.length)(hs:∀j,j<xs.length->aF (xs.getD j .aP) (ys.getD j .aP)):ak P G f xs H out H':=fun V vs hH hG hr =>
 h V vs hH hG ⟨hr.1.trans hl.symm,fun j hj=>hs j zO V _ (hr.2 j zO)⟩
def eB(s t:St):Prop:=t.H=s.H/\t.dh=s.dh/\t.aL.length=s.aL.length/\∀j,j<s.aL.length->aF (s.aL.getD j .aP) (t.aL.getD j .aP)
theorem eB.ok{s t}(h:eB s t){V}{a}(k:jO V s a):jO V t a :=
 ⟨⟨k.aL.1.trans h.2.2.1.symm,fun j hj=>h.2.2.2 j (by have:=h.2.2.1;omega) V _ (k.aL.2 j (by have:=h.2.2.1;omega))⟩,k.H.trans h.1.symm,by rw[h.2.1];exact k.dh⟩
theorem bN.pre{r:Option Nat}{n0:Nat}{c:Code}{t:St}(h:bN P G r n0 c t ex s')(hs:eB s t):bN P G r n0 c s ex s':=fun V0 V a h0 fB hG dK=>h V0 V a h0 fB hG (hs.ok dK)
theorem eO.mono{F}{n}{c}{Q Q'}{a}{w}(h:eO F n P c Q a w)(hq:∀e a w,Q e a w->Q' e a w):eO F n P c Q' a w:=fun b k cs hro hb hr =>
 let ⟨e,a',w',q,r⟩:=h b k cs hro hb hr;⟨e,a',w',hq _ _ _ q,r⟩
theorem bN.post{r}{n0}{c}{s s' t}{ex}(h:bN P G r n0 c s ex s')(hs:eB s' t):bN P G r n0 c s ex t:=fun V0 V a h0 fB hG dK =>
 eO.mono (h V0 V a h0 fB hG dK) fun _ _ _ ⟨V',k1,k2,k3,k4,k5⟩=>⟨V',k1,k2,k3,hs.ok k4,k5⟩
end
abbrev int(n:Int):AV:=.lit (.int .i64 n)
abbrev bool(b:Bool):AV:=.lit (.bool b)
abbrev str(s:yP):AV:=.lit (.string s)
variable {α:Type}
theorem eU{p:α->Prop}:∀x∈[],p x:=fun _ h=>by cases h
theorem dM{p:α->Prop}{a}{l}(h:p a)(hl:∀x∈l,p x):∀x∈a::l,p x:=fun x hx=>by
 rcases yH.1 hx with rfl|hx
 .exact h
 grind
theorem dx{p:α->Prop}{a b:List α}(ha:∀x∈a,p x)(hb:∀x∈b,p x):∀x∈a++b,p x:=fun x hx=>by
 rcases yI.1 hx with hx|hx
 .exact ha x hx
 grind
abbrev aK:AV:=.lit (.slice none 0 0)
theorem iN{f:α->List AV}{v:List α}{k:Nat}{x}(h:v[k]?=some x):(v.map f)[k]?=some (f x):=by rw[getElem?_map,h];rfl
theorem bG{f:α->List AV}{v:List α}{k:Nat}{x}(h:v[k]?=some x):0<=(k:Int)/\(v.map f)[(k:Int).toNat]?=some (f x):=⟨zO,iN h⟩
theorem qU{f:α->List AV}{v:List α}{n:Int}{x}(h:0<=n/\v[n.toNat]?=some x):0<=n/\(v.map f)[n.toNat]?=some (f x):=⟨h.1,iN h.2⟩
theorem Gx{n}(h0 : -9223372036854775808<=n)(h1:n<9223372036854775808):IntKind.wrap IntKind.i64 n=n:=by rw[IntKind.wrap_i64];omega
theorem aF.TJ{n m}(h0 : -9223372036854775808<=n)(h1:n<9223372036854775808)(h2:n=m):aF (.lit (.int .i64 (IntKind.wrap .i64 n))) (.lit (.int .i64 m)):=.of_eq (by rw[Gx h0 h1,h2])
theorem Y8{n}(h0:0<=n)(h1:n<18446744073709551616):IntKind.wrap IntKind.u64 n=n:=by rw[IntKind.wrap_u64];omega
theorem aF.zf{n m}(h0:0<=n)(h1:n<18446744073709551616)(h2:n=m):aF (.lit (.int .u64 (IntKind.wrap .u64 n))) (.lit (.int .u64 m)):=.of_eq (by rw[Y8 h0 h1,h2])
theorem aF.int_eq{k}{a b}(h:a=b):aF (.lit (.int k a)) (.lit (.int k b)):=.of_eq (by rw[h])
theorem aF.aI{a b}(h:a=b):aF (.lit (.bool a)) (.lit (.bool b)):=.of_eq (by rw[h])
theorem aF.GJ{sz}{t}{xs ys}(h:xs=ys):aF (.sl sz t xs) (.sl sz false ys):=h ▸ .oP sz t xs
theorem aF.nil_eq{sz}{ys}(h:[]=ys):aF (.lit (.slice none 0 0)) (.sl sz false ys):=h ▸ .nil sz
def Ka:List AV->List AV->Prop
 |[],[]=>True
 |x::xs,y::ys=>aF x y/\Ka xs ys
 |_,_=>False
theorem Ka.len:∀{xs ys},Ka xs ys->ys.length=xs.length
 |[],[],_=>rfl
 |_::_,_::_,h=>by simp[Ka.len h.2]
theorem Ka.get:∀{xs ys},Ka xs ys->∀j,j<xs.length->aF (xs.getD j .aP) (ys.getD j .aP)
 |x::xs,y::ys,h,0,_=>by simpa using h.1
 |x::xs,y::ys,h,j+1,hj=>by simpa using Ka.get h.2 j (by simpa using hj)
 |[],[],_,_,hj=>absurd hj zS
theorem aF.iM{xs ys}(h:Ka xs ys):aF (.bq xs) (.bq ys):=.bq h.len h.get
theorem aF.qo{xs ys}(h:Ka xs ys):aF (.agg xs) (.agg ys):=fun V v hr=>by
 obtain⟨vs,rfl,h1,h2⟩:=uO hr;exact .agg ys vs (h1.trans h.len.symm) fun j hj=>h.get j (by rw[h.len]at hj;exact hj) V _ (h2 j (by rw[h.len]at hj;exact hj))
def Vx:List (Nat×AV)->List (Nat×AV)->Prop
 |[],[]=>True
 |(i,x)::xs,(j,y)::ys=>i=j/\aF x y/\Vx xs ys
 |_,_=>False
theorem Vx.at:∀{xs ys},Vx xs ys->∀i,aF (vk xs i) (vk ys i)
 |[],[],_,i=>.refl _
 |(a,x)::xs,(b,y)::ys,h,i=>by
  obtain⟨rfl,h1,h2⟩:=h;unfold vk;split
  .exact h1
  .exact Vx.at h2 i
theorem eB.aC{n}{l l'}{H}{dh}(h:Vx l l'):eB { aL:=aC n l,H:=H,dh:=dh } { aL:=aC n l',H:=H,dh:=dh } :=
 ⟨rfl,rfl,by simp[Am.aC],fun j hj=>by
  have hj:j<n:=by simpa[Am.aC]using hj
  simpa[Am.aC,hj]using h.at j⟩
section
variable {P:Program} {G:Nat->Option (List AV)}
theorem ak.qp{f}{xs ys}{H H'}{out}(h:ak P G f ys H out H')(hs:Ka xs ys):ak P G f xs H out H':=h.args hs.len hs.get
theorem ak.heap{f}{xs}{H H1 H2}{out}(h:ak P G f xs H out H1)(e:H1=H2):ak P G f xs H out H2:=e▸h
theorem eB.of_eq{s t}(h:s=t):eB s t:=h▸⟨rfl,rfl,rfl,fun _ _=>.refl _⟩
theorem bN.acz{r}{n0}{c}{aL}{H K}{dh}{s'}{ex}(h:bN P G r n0 c { aL:=aL,H:=K,dh:=dh } ex s')(hs:HSub H K):bN P G r n0 c { aL:=aL,H:=H,dh:=dh } ex s':=fun V0 V a h0 fB hG dK=>by
 have hH:=dK.H;obtain⟨V2,a1,a2,a3,a4,a5⟩:=wh  hG (by rw[hH];exact hs);rw[<- a1];exact h V0 V2 a h0 (fB.trans a4) a5 ⟨dK.aL.step a4,a2,dK.dh.step a4⟩
theorem TU.step{V V'}(hs:Step V V'){ex}{e}(h:TU V ex e):TU V' ex e:=by
 cases ex<;>cases e<;>first|exact h|skip
 obtain⟨v,h1,h2⟩:=h;exact⟨v,h1,h2.step hs⟩
theorem bN.qm{r}{n0}{c}{s s'}{K}{ex}(h:bN P G r n0 c s ex s')(hs:HSub s'.H K):bN P G r n0 c s ex { aL:=s'.aL,H:=K,dh:=s'.dh } :=
 fun V0 V a h0 k1 k2 k3=>eO.mono (h V0 V a h0 k1 k2 k3) fun _ _ _ hE=>by
  obtain⟨V1,rfl,l1,l2,l3,l4⟩:=hE;obtain⟨V2,a1,a2,a3,a4,a5⟩:=wh l2 (l3.H▸hs);exact⟨V2,a1,l1.trans a4,a5,⟨l3.aL.step a4,a2,l3.dh.step a4⟩,l4.step a4⟩
theorem xu.sub{V}{H K}{out}{e}{w'}(h:xu G V H out e w')(hs:HSub H K):xu G V K out e w':=by
 obtain⟨V',rfl,k2,k3,rfl,k5⟩:=h;obtain⟨V2,a1,a2,a3,a4,a5⟩:=wh  k3 hs;refine⟨V2,a1,k2.trans a4,a5,a2,?_⟩;cases out<;>cases e<;>simp only[EL]at k5 |-
 .exact k5.step a4
 .obtain ⟨v,h1,h2⟩:=k5;exact⟨v,h1,h2.step a4⟩
theorem ak.pY{f}{xs}{H H1 H2}{out}(h:ak P G f xs H out H1)(e:HSub H1 H2):ak P G f xs H out H2:=fun V vs hH hG hr=>(h V vs hH hG hr).mono fun _ _ he=>he.sub e
theorem dY.pY{id}{xs}{H H1 H2}{b}(h:dY P G id xs H b H1)(e:HSub H1 H2):dY P G id xs H b H2:=fun V vs hH hG hr=>by
 obtain⟨f,tmps,x,y,h1,h2⟩:=h V vs hH hG hr;refine⟨f,tmps,x,y,h1,fun r=>(h2 r).mono fun _ _ he=>?_⟩;obtain⟨V',rfl,k2,k3,rfl,k5⟩:=he;obtain⟨V2,a1,a2,a3,a4,a5⟩:=wh  k3 e;exact⟨V2,a1,k2.trans a4,a5,a2,k5⟩
theorem dY.to{id}{xs}{H H1 H2}{b b'}(h:dY P G id xs H b H1)(e1:b=b')(e2:H1=H2):dY P G id xs H b' H2:=e1▸e2▸h
theorem bN.to{r}{n0}{c}{s s' t}{ex ex'}(h:bN P G r n0 c s ex s')(e:ex=ex')(hs:eB s' t):bN P G r n0 c s ex' t:=e▸h.post hs
end
open Go.ChangeShapes Go.WideShapes Go.RowKit
structure acA(W W':World):Prop where
 os:W'.os=W.os
 output:W'.output=W.output
 JW:∀b,b<W.heap.size->W'.heap[b]?=W.heap[b]?
theorem acA.keptBut{W W'}(h:acA W W')may:W.keptBut W' may :=
 ⟨h.os,h.output,fun i hi=>by
  have hr:=(World.keptBut_refl W may).2.2 i hi;have e:=h.JW i hi;grind⟩
def nA(W:World):View:={ w:=W,M:=fun _=>False,H:=[],ρ:=id }
theorem Vy{P}{G}{f}{xs}{args}{W}(hc:ak P G f xs [] (.ret (bool true)) [])(hG:∀g cs,G g=some cs->dR W (fun _=>False) (.iG cs) (.pointer (some ⟨g,0,none⟩)))(hx:bR (nA W) xs args.toList):Calls P f args W fun e W'=>e = .returned (.bool true)/\acA W W':=by
 have h0:aD G (nA W):=⟨fun _ h=>absurd h (by simp[nA]),fun _ _ h=>by simp[nA]at h,fun _ _ h=>absurd h (by simp[nA]),fun _ _ h=>by simp[nA]at h,hG⟩;have h:=hc (nA W) args.toList rfl h0 hx;have ea:args.toList.toArray=args:=zS
 exact(h.calls room_wide).mono fun e w' he=>by
  obtain⟨V',rfl,k2,k3,k4,k5⟩:=he;refine⟨?_,k2.os,k2.output,fun b hb=>(k2.data b hb fun h=>h.elim).1⟩;cases e with
  |returned v=>rw[bW k5]
  |panicked _=>exact k5.elim
  |outgrown=>exact k5.elim
section
variable {H:Type} {aQ:TypeId×Value->H} {P:Program}
theorem Bu{T}{W W'}{sp}(K:Kids P T)(iZ:∀{t e},T t->P.underlying t=some (.slice e)->0<P.cellsOf e):∀{ts}{vs}{ds}{ps},
 (∀t∈ts,T t)->DataW.TrodAll aQ P W 0 (fun _=>true) true ts vs ds ps->(∀p∈ps,W.sameAt W' p)->(∀p∈ps,sp p.block=true)->DataW.TrodAll aQ P W' 0 sp true ts vs ds ps
 |[],[],[],_,_,h,_,_=>h
 |t::_,_::_,_::_,_,hT,⟨p,q,⟨n,h1⟩,h2,e⟩,hs,hp=>⟨p,q,⟨n,DataW.trod_stays K iZ (fun h=>by cases h) (hT t zS) h1 (fun x hx=>hs x (by grind)) (fun x hx=>hp x (by grind))⟩,
  Bu K iZ (fun t ht=>hT t (yF _ ht)) h2 (fun x hx=>hs x (by grind)) (fun x hx=>hp x (by grind)),e⟩
theorem Y9{fn:Func}{s:ChangeSpec}{W W'}{args}{ds gs}{before}{tb}(hl:laidOutB P=true)(hm:mapsRowed P=true)(hz:∀t e,t<P.types.size->P.underlying t=some (.slice e)->0<P.cellsOf e)(hv:s.vars=[])(hs:s.fn H ds={ results:=[.lit (.bool true)],args:=ds })(hts:∀t∈fn.params.toList,t<P.types.size)(hr:fn.resultTypes=#[tb])(hb:P.underlying tb=some .bool)(hW:DataW.Whole aQ P fn.params.toList s.vars false W args.toList ds gs before)(hk:acA W W') :
 s.post aQ P fn false true false false W args (.bool true) W':=by
 have bg:=hW.lt;have hW':=hW;obtain⟨p,q,hA,hV,he,_,_⟩:=hW;rw[hv]at hV;obtain⟨rfl,rfl⟩:gs=[]/\q=[]:=by
  cases gs with
  |nil=>exact⟨rfl,hV⟩
  |cons _ _=>exact hV.elim
 rw[y19]at he;subst he;refine⟨ds,[],before,[],before,[],hW',?_,?_,?_,hk.keptBut _,fun h=>by cases h⟩
 .rw [y19,hs,hr];exact trodAll_mk1 (shut_bool hb true)
 .rw [y19,hs];refine Bu (kids_rows hl hm) (fun{t e} h1 h2=>hz t e h1 h2) hts hA (fun x hx=>?_) (fun x hx=>by simpa using bg x hx);have:=hk.JW x.block (bg x hx);cases x with
  |cell b off=>exact cell_of_heap this
  |map b=>exact this
 .rw [y19,hs,hv];rfl
end
structure zA(P:Program)(t:TypeId)(α:Type) where
 aQ:α->List AV
 good:α->Prop
 size:∀a,(aQ a).length=P.cellsOf t
 rd:∀{H:Type}{e:TypeId×Value->H}{W:World}{base:Nat}{sp:Nat->Bool}{held:Bool}{n:Nat}{cs:List Value}{x:DataW H×List MemPlace},DataW.trod e P W base sp held n t cs=some x ->
  ∃a,good a/\cs.length=(aQ a).length/\∀j,j<cs.length->dR W (fun _=>False) ((aQ a).getD j .aP) (cs.getD j undef)/\(cs.getD j undef).oneCell'=true
theorem wf_i64{n}(h:(Lit.int .i64 n).wf=true) : -9223372036854775808<=n/\n<9223372036854775808:=by
 simp[Lit.wf,IntKind.min,IntKind.signed,IntKind.bits]at h;omega
def zA.int{P}{t}(ht:P.underlying t=some (.int .i64))(hc:P.cellsOf t=1):zA P t Int where
 aQ n:=[Am.int n]
 good n := -9223372036854775808<=n/\n<9223372036854775808
 size _:=hc.symm
 rd h:=by
  obtain⟨n,rfl,_,hw⟩:=DataW.trod_int ht h;refine⟨n,wf_i64 hw,rfl,fun j hj=>?_⟩
  match j,hj with
  |0,_=>exact⟨.lit _,rfl⟩
def zA.bool{P}{t}(ht:P.underlying t=some .bool)(hc:P.cellsOf t=1):zA P t Bool where
 aQ b:=[Am.bool b]
 good _:=True
 size _:=hc.symm
 rd h:=by
  obtain⟨b,rfl,_⟩:=DataW.trod_bool ht h;refine⟨b,yO,rfl,fun j hj=>?_⟩
  match j,hj with
  |0,_=>exact⟨.lit _,rfl⟩
def zA.str{P}{t}(ht:P.underlying t=some .string)(hc:P.cellsOf t=1):zA P t yP where
 aQ s:=[Am.str s]
 good s:=s.size<=maxLen
 size _:=hc.symm
 rd h:=by
  obtain⟨s,rfl,_,hs⟩:=DataW.trod_string ht h;refine⟨s,hs,rfl,fun j hj=>?_⟩
  match j,hj with
  |0,_=>exact⟨.lit _,rfl⟩
structure oM(P:Program)(o:Nat)(fs:List Field)(α:Type) where
 aQ:α->List AV
 good:α->Prop
 rd:∀{H:Type}{e:TypeId×Value->H}{W:World}{base:Nat}{sp:Nat->Bool}{held:Bool}{n:Nat}{cs:List Value},cs.length=o+(fs.map fun f=>P.cellsOf f.type).sum ->
  (∀(i:Nat)(f:Field),fs[i]?=some f->∃y,DataW.trod e P W base sp held n f.type ((cs.drop f.offset).take (P.cellsOf f.type))=some y) ->
  ∃a,good a/\cs.length=o+(aQ a).length/\∀j,j<(aQ a).length->dR W (fun _=>False) ((aQ a).getD j .aP) (cs.getD (o+j) undef)/\(cs.getD (o+j) undef).oneCell'=true
def oM.nil{P}{o}:oM P o [] Unit where
 aQ _:=[]
 good _:=True
 rd h _:=⟨(),yO,by simpa using h,fun j hj=>absurd hj zS⟩
def oM.cons{P}{o}{f}{fs}{α β}(c:zA P f.type α)(ho:f.offset=o)(r:oM P (o+P.cellsOf f.type) fs β):oM P o (f::fs) (α×β) where
 aQ a:=c.aQ a.1++r.aQ a.2
 good a:=c.good a.1/\r.good a.2
 rd {H e W base sp held n cs} bL h:=by
  obtain⟨y,hy⟩:=h 0 f rfl;obtain⟨a,g1,l1,p1⟩:=c.rd hy;obtain⟨b,g2,l2,p2⟩:=r.rd (cs:=cs) (by rw[bL];simp;omega) fun i f' hf=>h (i+1) f' hf;have iZ:=c.size a;simp only[map_cons,sum_cons]at bL;refine⟨(a,b),⟨g1,g2⟩,?_,fun j hj=>?_⟩
  .grind
  have hj:j<(c.aQ a).length+(r.aQ b).length:=by grind
  have hl1:((cs.drop f.offset).take (P.cellsOf f.type)).length=P.cellsOf f.type:=by rw[l1,iZ]
  by_cases bg:j<(c.aQ a).length
  .have:=p1 j (by rw[hl1,<- iZ];exact bg);have e1:((cs.drop f.offset).take (P.cellsOf f.type)).getD j undef=cs.getD (o+j) undef:=by
    rw[iZ]at bg;simp[yB,bg,ho]
   have e2:(c.aQ a++r.aQ b).getD j .aP=(c.aQ a).getD j .aP:=by simp[yB,getElem?_append_left bg]
   rw[e1]at this;rw[e2];exact this
  .have:=p2 (j-(c.aQ a).length) zO;have e1:o+P.cellsOf f.type+(j-(c.aQ a).length)=o+j:=by rw[<- iZ];omega
   have e2:(c.aQ a++r.aQ b).getD j .aP=(r.aQ b).getD (j-(c.aQ a).length) .aP:=by simp[yB,getElem?_append_right (show(c.aQ a).length<=j by omega)]
   rw[e1]at this;rw[e2];exact this
def zA.struct{P}{t}{fs}{α β}(ht:P.underlying t=some (.struct fs))(hc:P.cellsOf t=(fs.toList.map fun f=>P.cellsOf f.type).sum)(c:oM P 0 fs.toList α)(g:α->β)(aQ:β->List AV)(hg:∀a,aQ (g a)=c.aQ a)(iZ:∀b,(aQ b).length=P.cellsOf t):zA P t β where
 aQ:=aQ
 good b:=∃a,g a=b/\c.good a
 size:=iZ
 rd {H e W base sp held n cs x} h:=by
  obtain⟨xs,m,_,_,hl,Vz,hf⟩:=DataW.trod_struct ht h;obtain⟨a,g1,l1,p1⟩:=c.rd (e:=e) (W:=W) (base:=base) (sp:=sp) (held:=held) (n:=m) (cs:=cs) (by rw[hl,hc];omega) fun i f hfi=>by
   have ajM:fs[i]?=some f:=by simpa using hfi
   have bg:i<xs.length:=by rw[Vz];exact(Array.getElem?_eq_some_iff.1 ajM).1
   exact⟨xs[i],by rw[hf i f ajM,yA bg]⟩
  refine⟨g a,⟨a,rfl,g1⟩,by rw[hg];omega,fun j hj=>?_⟩;rw[hg];have:=p1 j zO;rwa[y09]at this
def zA.slice{P}{t e}{α}(ht:P.underlying t=some (.slice e))(hc:P.cellsOf t=1)(qh:0<P.cellsOf e)(c:zA P e α):zA P t (List α) where
 aQ l:=[.sl (P.cellsOf e) false (l.map c.aQ)]
 good l:=l.length<=maxLen/\∀a∈l,c.good a
 size _:=hc.symm
 rd {H en W base sp held n cs x} h:=by
  have nl:∀(A:Option Addr)(cap:Nat),dR W (fun _=>False) (.sl (P.cellsOf e) false []) (.slice A 0 cap):=fun A cap =>
   .sl _ false [] A cap 0 0 (fun _ _=>undef) (fun h=>absurd rfl h) (fun h=>absurd rfl h) yN (fun h=>by cases h) zS (fun k j hk=>absurd hk zS) (fun k j hk=>absurd hk zS) (fun k j hk=>absurd hk zS)
  rcases Go.Deep.open_slice ht h with⟨rfl,_⟩|⟨a,len,cap,m,n',D,Pl,rfl,_,hl,Pf,hmm,_,hx⟩
  .exact ⟨[],⟨yN,zS⟩,rfl,fun j hj=>by match j,hj with|0,_=>exact⟨nl none 0,rfl⟩⟩
  .have hlm:len<=m:=by rw[hmm];split<;>omega
   have each:∀i,i<len->∃q:α×List Value,W.cells? base (a.add (i*P.cellsOf e)) (P.cellsOf e)=some q.2/\c.good q.1/\q.2.length=(c.aQ q.1).length/\∀j,j<q.2.length->dR W (fun _=>False) ((c.aQ q.1).getD j .aP) (q.2.getD j undef)/\(q.2.getD j undef).oneCell'=true:=fun i hi=>by
    obtain⟨cs',h1,h2⟩:=hx i zO;obtain⟨y,g1,l1,p1⟩:=c.rd h2;exact⟨(y,cs'),h1,g1,l1,p1⟩
   by_cases h0:len=0
   .subst h0;exact⟨[],⟨yN,zS⟩,rfl,fun j hj=>by match j,hj with|0,_=>exact⟨nl (some a) cap,rfl⟩⟩
   .have Q7:a.spot=none:=by
     obtain⟨q,h1,_⟩:=each 0 zO;obtain⟨_,hl',lT⟩:=World.cells?_some h1;have:=lT 0 qh;rw[yA zO]at this;simp only[Nat.zero_mul,Addr.add,if_true]at this;cases hs:a.spot with
     |none=>rfl
     |some s =>
      exfalso;unfold World.cell? at this;rw[hs]at this;split at this<;>simp at this
    obtain⟨b,o,rfl⟩:∃b o,a=⟨b,o,none⟩:=⟨a.block,a.off,by cases a;simp only at Q7;subst Q7;rfl⟩;have inh:Nonempty (α×List Value):=let ⟨q,_⟩:=each 0 zO;⟨q⟩;have ex:∀i,∃q:α×List Value,i<len->W.cells? base ((⟨b,o,none⟩:Addr).add (i*P.cellsOf e)) (P.cellsOf e)=some q.2/\c.good q.1/\q.2.length=(c.aQ q.1).length/\∀j,j<q.2.length->dR W (fun _=>False) ((c.aQ q.1).getD j .aP) (q.2.getD j undef)/\(q.2.getD j undef).oneCell'=true:=fun i=>by
     by_cases hi:i<len
     .simp_all
     .exact ⟨Classical.choice inh,fun h=>absurd h hi⟩
    obtain⟨q,hq⟩:=Classical.axiomOfChoice ex;have anq:∀k,k<len->(((List.range len).map fun i=>(q i).1).map c.aQ).getD k []=c.aQ (q k).1:=fun k hk=>by simp[yB,hk]
    have bL:(((List.range len).map fun i=>(q i).1).map c.aQ).length=len:=zS
    refine⟨(List.range len).map fun i=>(q i).1,⟨by simp;omega,fun x hx=>?_⟩,rfl,fun j hj=>?_⟩
    .grind
    .match j,hj with
     |0,_ =>
      refine⟨?_,rfl⟩;show dR W (fun _=>False) (.sl (P.cellsOf e) false _) (.slice (some ⟨b,o,none⟩) len cap);have key:=dR.sl (w:=W) (M:=fun _=>False) (P.cellsOf e) false (((List.range len).map fun i=>(q i).1).map c.aQ) (some ⟨b,o,none⟩) cap b o (fun k j=>(q k).2.getD j undef);rw[bL]at key;refine key (fun _=>rfl) (fun _ _ h=>h) hl (fun h=>by cases h) (fun x hx=>by obtain⟨y,_,rfl⟩:=yG.1 hx;exact c.size y) (fun k j hk hj=>?_) (fun k j hk hj=>?_) (fun k j hk hj=>?_)
      .obtain ⟨h1,_⟩:=hq k hk;obtain⟨_,hl',lT⟩:=World.cells?_some h1;have:=lT j hj;rw[add_plain,add_plain,yA zO]at this;rw[this];simp[yB,yA (show j<(q k).2.length by omega)]
      .obtain ⟨_,_,h3,h4⟩:=hq k hk;exact(h4 j (by rw[h3,c.size];exact hj)).2
      .obtain ⟨_,_,h3,h4⟩:=hq k hk;rw[anq k hk];exact(h4 j (by rw[h3,c.size];exact hj)).1
end Go.Am
namespace Go.Am
open Go
inductive AMd where
 |ret
 |Ay (x:AV)
 |avH
def jR(V:View):AMd->FrameMode->Prop
 |.ret,u=>u = .returning
 |.Ay x,u=>∃v,u = .panicking [{ v:=v,recovered:=false }]/\dI V x v
 |.avH,u=>∃v,u = .panicking [{ v:=v,recovered:=true }]
def AMd.of:aS->AMd
 |.ret _=>.ret
 |.Ay x=>.Ay x
def AMd.out:AMd->aS
 |.ret|.avH=>.ret .aP
 |.Ay x=>.Ay x
def AMd.free:AMd->Bool
 |.Ay x=>x.zy
 |_=>true
theorem jR.free{V V':View}{m:AMd}{u:FrameMode}(h:jR V m u)(hf:m.free=true):jR V' m u:=by
 cases m with
 |ret=>exact h
 |Ay x=>obtain⟨v,h1,h2⟩:=h;exact⟨v,h1,II h2 hf⟩
 |avH=>exact h
def isRecover:Op->Bool
 |.call { callee:=.builtin .recover,args:=_,argTypes:=_ }=>true
 |_=>false
def gu(P:Program)(G:Nat->Option (List AV)):List Oper->List AV->AMd->List bC->Option (List AV×AMd×List bC×List Prop)
 |[],aL,m,bf=>some (aL,m,bf,[])
 |o::os,aL,m,bf=>if o.guard.isNone=true then
  (if isRecover o.op=true then(match m with
   |.Ay x=>gu P G os (gX aL o.dst x) .avH bf
   |.ret=>gu P G os (gX aL o.dst (.lit .nilIface)) .ret bf
   |.avH=>gu P G os (gX aL o.dst (.lit .nilIface)) .avH bf)
  else match gL P (Bf G aL) o bf with
   |some (x,aT,ps)=>match gu P G os (gX aL o.dst x) m aT with
    |some (env',m',Dh,qs)=>some (env',m',Dh,ps++qs)
    |none=>none
   |none=>none)else none
def atQ(P:Program)(G:Nat->Option (List AV))(n0:Nat):Code->St->AMd->List bC->Option (bF×St×AMd×List bC×List Prop)
 |.seq x y,s,m,bf=>match atQ P G n0 x s m bf with
  |some (.normal,s1,m1,cK,ps)=>match atQ P G n0 y s1 m1 cK with
   |some (ex,s2,m2,mK,qs)=>some (ex,s2,m2,mK,ps++qs)
   |none=>none
  |some (ex,s1,m1,cK,ps)=>some (ex,s1,m1,cK,ps)
  |none=>none
 |.cond c x y,s,m,bf=>match Bf G s.aL c,bf with
  |.lit (.bool e),.br true::aT=>match atQ P G n0 x s m aT with
   |some (ex,s1,m1,cK,ps)=>some (ex,s1,m1,cK,(e=true)::ps)
   |none=>none
  |.lit (.bool e),.br false::aT=>match atQ P G n0 y s m aT with
   |some (ex,s1,m1,cK,ps)=>some (ex,s1,m1,cK,(e=false)::ps)
   |none=>none
  |_,_=>none
 |.region id ops d,s,m,bf=>if d=false/\(ops.toList.any fun o=>isRecover o.op)=true then
  (match gu P G ops.toList s.aL m bf with
  |some (aL,m',aT,ps)=>some (.normal,{ s with aL:=aL },m',aT,ps)
  |none=>none)else if m.free=true then(match sP P G none n0 (.region id ops d) s bf with
  |some (ex,s',aT,ps)=>some (ex,s',m,aT,ps)
  |none=>none)else none
 |c,s,m,bf=>if m.free=true then(match sP P G none n0 c s bf with
  |some (ex,s',aT,ps)=>some (ex,s',m,aT,ps)
  |none=>none)else none
variable {ps:List Prop}{V0:View}
variable {cs:List Frame}{a:Act}{c:Code}
section
variable {P:Program} {G:Nat->Option (List AV)} {n0:Nat}
def av5(G:Nat->Option (List AV))(V0:View)(c0:Frame)(cs:List Frame)(ex:bF)(s':St)(m':AMd)(e:Exit)(a':Act)(fs:List Frame)(w':World):Prop :=
 ∃V':View,V'.w=w'/\Step V0 V'/\aD G V'/\jO V' s' a'/\TU V' ex e/\∃u',fs={ c0 with mode:=u' }::cs/\jR V' m' u'
theorem avI(ρ:Operand->Value)(o:Oper)(h:isRecover o.op=true)(w:World):(execOp ρ o).run P w = .ok .recover w:=by
 unfold isRecover at h;split at h
 .rename_i bA;rw[execOp,bA];rfl
 .cases h
theorem aX{V0:View}{c0:Frame}{cs:List Frame}{dh:List ig}{H:List ah}{ops:Array Oper}:∀{os:List Oper}{i:Nat}{aL env':List AV}{m m':AMd}{bf aT:List bC}{ps:List Prop},gu P G os aL m bf=some (env',m',aT,ps)->gZ ps->ops.toList.drop i=os ->
 ∀{V:View}{a:Act}{u:FrameMode},Step V0 V->aD G V->jO V { aL:=aL,H:=H,dh:=dh } a->jR V m u ->
 wpOpsSIn Fence.wide 0 P ops (av5 G V0 c0 cs .normal { aL:=env',H:=H,dh:=dh } m') ((List.range ops.size).drop i) a ({ c0 with mode:=u }::cs) V.w
 |[],i,aL,env',m,m',bf,aT,ps,h,_,rW,V,a,u,hs,hG,dK,hm=>by
  simp only[gu,y06,Prod.mk.injEq]at h;obtain⟨rfl,rfl,_,_⟩:=h;have uQ:ops.size<=i:=by simpa using rW
  rw[y14 (by simpa using uQ)];exact⟨V,rfl,hs,hG,dK,yO,u,rfl,hm⟩
 |o::os,i,aL,env',m,m',bf,aT,ps,h,dG,rW,V,a,u,hs,hG,dK,hm=>by
  have bg:i<ops.size:=by
   rcases y08 i ops.size with h|h
   .exact h
   .rw [y14 (by simpa using h)]at rW;cases rW
  have oL:i<ops.toList.length:=by simpa using bg
  rw[y01 oL]at rW;injection rW with ho BP;have ho':ops[i]?=some o:=by rw[<- ho];simp[bg]
  have hr:(List.range ops.size).drop i=i::(List.range ops.size).drop (i+1):=by
   rw[y01 (by simpa using bg)];simp
  rw[hr];unfold wpOpsSIn;rw[ho'];simp only;unfold gu at h;split at h<;>first|(cases h;done)|skip
  rename_i hg;have hw:Region.wanted o (yielded ops a.tmps)=true:=by
   unfold Region.wanted;cases YS:o.guard with
   |none=>rfl
   |some q=>rw[YS]at hg;cases hg
  refine⟨fun _ _=>trivial,?_⟩;rw[yL hw];have put:∀{x:AV}{v:Value},dI V x v->jO V { aL:=gX aL o.dst x,H:=H,dh:=dh } (a.put o.dst v):=fun hx=>⟨dK.aL.put _ hx,dK.H,by rw[nT];exact dK.dh⟩;split at h
  .rename_i Ir;rw[avI _ o Ir];simp only;cases m with
   |Ay x =>
    obtain⟨v,rfl,hv⟩:=hm;simp only at h;show wpOpsSIn _ _ _ _ _ _ _ _ _;exact aX h dG BP hs hG (put hv) (u:=.panicking [{ v:=v,recovered:=true }]) ⟨v,rfl⟩
   |ret =>
    rw[show u = .returning from hm];simp only at h;exact aX h dG BP hs hG (put (.pure _ _ (.lit _))) (u:=.returning) rfl
   |avH =>
    obtain⟨v,rfl⟩:=hm;simp only at h;exact aX h dG BP hs hG (put (.pure _ _ (.lit _))) (u:=.panicking [{ v:=v,recovered:=true }]) ⟨v,rfl⟩
  .split at h<;>first|(cases h;done)|skip
   rename_i x cK qs hev;split at h<;>first|(cases h;done)|skip
   rename_i O1 m1 mK rs yV;cases h;obtain⟨hq,Y7⟩:=dN.1 dG;obtain⟨v,k1,k2⟩:=Rj (V:=V) (ρ:=a.eval) hev hq fun y _=>nG hG fun t _=>dK.aL.get t;rw[k1];exact aX yV Y7 BP hs hG (put k2) hm
theorem Code.rD{F:Fence}{n:Nat}{Q Q':Exit->Act->List Frame->World->Prop}{w:World}(h:c.wpSIn F n P Q a cs w)(hq:∀e a cs w,Q e a cs w->Q' e a cs w):c.wpSIn F n P Q' a cs w :=
 fun b k h1 h2 h3 h4=>let ⟨e,a',cs',w',l,q,r⟩:=h b k h1 h2 h3 h4;⟨e,a',cs',w',l,hq _ _ _ _ q,r⟩
theorem azE{c0:Frame}{s s':St}{m:AMd}{bf aT:List bC}{ex:bF}(hf:m.free=true)(h:sP P G none n0 c s bf=some (ex,s',aT,ps))(dG:gZ ps){V:View}{u:FrameMode}(h0:V0.H.length=n0)(hs:Step V0 V)(hG:aD G V)(dK:jO V s a)(hm:jR V m u):c.wpSIn Fence.wide 0 P (av5 G V0 c0 cs ex s' m) a ({ c0 with mode:=u }::cs) V.w:=by
 refine wpSIn_of_wpIn rfl (Go.wpIn_mono (eT (r:=none) c h dG V0 V a h0 hs hG dK) fun e a' w' hE=>?_);obtain⟨V1,rfl,k1,k2,k3,k4⟩:=hE;exact⟨V1,rfl,k1,k2,k3,k4,u,rfl,hm.free hf⟩
theorem avV{c0:Frame}(h0:V0.H.length=n0):∀(c:Code){s s':St}{m m':AMd}{bf aT:List bC}{ex:bF}{ps:List Prop},atQ P G n0 c s m bf=some (ex,s',m',aT,ps)->gZ ps ->
 ∀{V:View}{a:Act}{u:FrameMode},Step V0 V->aD G V->jO V s a->jR V m u->c.wpSIn Fence.wide 0 P (av5 G V0 c0 cs ex s' m') a ({ c0 with mode:=u }::cs) V.w:=by
 have dflt:∀{c:Code}{s s':St}{m m':AMd}{bf aT:List bC}{ex:bF}{ps:List Prop},(if m.free=true then(match sP P G none n0 c s bf with
  |some (ex,s',aT,ps)=>some (ex,s',m,aT,ps)
  |none=>none)else none)=some (ex,s',m',aT,ps)->gZ ps ->
  ∀{V:View}{a:Act}{u:FrameMode},Step V0 V->aD G V->jO V s a->jR V m u->c.wpSIn Fence.wide 0 P (av5 G V0 c0 cs ex s' m') a ({ c0 with mode:=u }::cs) V.w:=by
  intro c s s' m m' bf aT ex ps h dG V a u hs hG dK hm;split at h<;>first|(cases h;done)|skip
  rename_i hf;split at h<;>first|(cases h;done)|skip
  rename_i jJ;cases h;exact azE hf jJ dG h0 hs hG dK hm
 intro c
 induction c with
 |seq x y ihx ihy =>
  intro s s' m m' bf aT ex ps h dG V a u hs hG dK hm;simp only[atQ]at h;split at h
  .rename_i s1 m1 cK qs h1;split at h
   .rename_i ex2 s2 m2 mK rs h2;cases h;obtain⟨hq,hr⟩:=dN.1 dG;refine wpSIn_seq (Code.rD (ihx h1 hq hs hG dK hm) fun e a1 fs w1 hE=>?_);obtain⟨V1,rfl,k1,k2,k3,k4,u1,rfl,k5⟩:=hE;cases e<;>first|exact k4.elim|skip
    exact ihy h2 hr k1 k2 k3 k5
   .cases h
  .rename_i Xh s1 m1 cK qs Br h1;cases h;refine wpSIn_seq (Code.rD (ihx h1 dG hs hG dK hm) fun e a1 fs w1 hE=>?_);have hE':=hE;obtain⟨V1,rfl,k1,k2,k3,k4,u1,rfl,k5⟩:=hE';cases e<;>first|exact hE|(cases ex<;>first|exact k4.elim|exact(Br rfl).elim)
  .cases h
 |cond c x y ihx ihy =>
  intro s s' m m' bf aT ex ps h dG V a u hs hG dK hm;simp only[atQ]at h;split at h
  .rename_i e cK hc;split at h
   .rename_i Xh s1 m1 mK qs h1;cases h;obtain⟨he,hq⟩:=dG;subst he;have hv:=nG (a:=a) (aL:=s.aL) (y:=c) hG fun t _=>dK.aL.get t;rw[hc]at hv;exact wpSIn_cond (t:=true) (bW hv) (ihx h1 hq hs hG dK hm)
   .cases h
  .rename_i e cK hc;split at h
   .rename_i Xh s1 m1 mK qs h1;cases h;obtain⟨he,hq⟩:=dG;subst he;have hv:=nG (a:=a) (aL:=s.aL) (y:=c) hG fun t _=>dK.aL.get t;rw[hc]at hv;exact wpSIn_cond (t:=false) (bW hv) (ihy h1 hq hs hG dK hm)
   .cases h
  .cases h
 |region id ops d =>
  intro s s' m m' bf aT ex ps h dG V a u hs hG dK hm;simp only[atQ]at h;split at h
  .rename_i hd;obtain⟨rfl,_⟩:=hd;split at h
   .rename_i aL m1 cK qs jJ;cases h;refine wpSIn_region ?_;have:=aX (P:=P) (G:=G) (V0:=V0) (c0:=c0) (cs:=cs) (dh:=s.dh) (H:=s.H) (ops:=ops) (i:=0) jJ dG rfl hs hG dK hm;simpa using this
   .cases h
  .exact dflt h dG hs hG dK hm
 |_ =>
  intro s s' m m' bf aT ex ps h dG V a u hs hG dK hm;simp only[atQ]at h;exact dflt (bf:=bf) h dG hs hG dK hm
def auj(P:Program)(G:Nat->Option (List AV))(f:FuncId)(args:List AV)(H:List ah)(m:aS)(bf:List bC):Option (List ah×aS×List Prop) :=
 match P.funcs[f]? with
 |some fn=>match fn.body with
  |some c=>match atQ P G H.length c { aL:=args++replicate (fn.ntmps-args.length) (.lit undef),H:=H } (AMd.of m) bf with
   |some (ex,s,m',_,ps)=>match ex,s.dh,Y3 P s.aL s.H fn.results.toList,Vu H.length (.lit undef) s.H with
    |.normal,[],some _,some (H',qs)=>if m'.free=true then some (H',m'.out,ps++qs)else none
    |.ret,[],some _,some (H',qs)=>if m'.free=true then some (H',m'.out,ps++qs)else none
    |_,_,_,_=>none
   |none=>none
  |none=>none
 |none=>none
theorem jR.of{V:View}{m:aS}{u:FrameMode}(h:jU V m u):jR V (AMd.of m) u:=by cases m<;>exact h
theorem jR.out{V:View}{m:AMd}{u:FrameMode}(h:jR V m u):jU V m.out (settle u):=by
 cases m with
 |ret=>rw[show u = .returning from h];rfl
 |Ay x=>obtain⟨v,rfl,hv⟩:=h;exact⟨v,rfl,hv⟩
 |avH=>obtain⟨v,rfl⟩:=h;rfl
theorem vX{f:FuncId}{args:List AV}{H:List ah}{m m':aS}{H':List ah}(bf:List bC)(h:auj P G f args H m bf=some (H',m',ps))(dG:gZ ps):ank P G f args H m H' m':=by
 unfold auj at h;split at h<;>first|(cases h;done)|skip
 rename_i fn wN;split at h<;>first|(cases h;done)|skip
 rename_i c hb;split at h<;>first|(cases h;done)|skip
 rename_i ex s m1 cK qs jJ;intro V vs u hH hG jf hm;subst hH;refine callsDIn_of_wpSIn wN hb trivial fun c0 cs hc0=>?_;have e0:c0={ c0 with mode:=u }:=by subst hc0;rfl
 have F7:eF V (args++replicate (fn.ntmps-args.length) (.lit undef)) { tmps:=vs.toArray++Array.replicate (fn.ntmps-vs.toArray.size) undef,defers:=[] }:=by
  have:eF V (args++replicate (fn.ntmps-args.length) (.lit undef)) { tmps:=(vs++replicate (fn.ntmps-args.length) undef).toArray,defers:=[] }:=by
   refine bR.append jf ?_;have:=bR.vv (V:=V) (replicate (fn.ntmps-args.length) undef);simpa using this
  have e:(vs++replicate (fn.ntmps-args.length) undef).toArray=vs.toArray++Array.replicate (fn.ntmps-vs.toArray.size) undef:=by
   apply Array.ext';simp[jf.1]
  rw[e]at this;exact this
 have key:∀{xs:List AV}{H1:List ah}{rs:List Prop},s.dh=[]->Y3 P s.aL s.H fn.results.toList=some xs->Vu V.H.length (.lit undef) s.H=some (H1,rs)->gZ qs->gZ rs->m1.free=true->(ex = .normal\/ex = .ret)->H1=H'->m1.out=m' ->
  c.wpSIn Fence.wide 0 P (bodyPostS P fn c0 cs fun e u' w'=>(∃r,e = .returned r)/\∃V':View,V'.w=w'/\Step V V'/\aD G V'/\V'.H=H'/\jU V' m' (settle u')) { tmps:=vs.toArray++Array.replicate (fn.ntmps-vs.toArray.size) undef,defers:=[] } (c0::cs) V.w:=by
  intro xs H1 rs hd afX IJ hq hr hfree Br e1 e2;have:=avV (P:=P) (G:=G) (V0:=V) (c0:=c0) (cs:=cs) (n0:=V.H.length) rfl c jJ hq (V:=V) (a:={ tmps:=vs.toArray++Array.replicate (fn.ntmps-vs.toArray.size) undef,defers:=[] }) (u:=u) (Step.refl V) hG ⟨F7,rfl,.nil⟩ (jR.of hm);rw[<- e0]at this;refine Code.rD this fun e a1 fs w1 hE=>?_;obtain⟨V1,rfl,k1,k2,k3,k4,u1,rfl,k5⟩:=hE;have air:a1.defers=[]:=by
   have:=k3.dh;rw[hd]at this;generalize a1.defers=l at this;cases this;rfl
  obtain⟨us,m1',m2⟩:=BZ (a:=a1) k2 k3.aL (by rw[k3.H];exact afX);obtain⟨V3,n1,n2,n3,n4,_⟩:=pJ (V0:=V) (V:=V1) (x:=.lit undef) (by rw[k3.H];exact IJ) hr rfl k1 k2 (.pure _ _ (.lit _));have hres':∃v,(results fn a1.tmps).run P V1.w = .ok v V1.w:=by
   refine⟨if h:us.toArray.size=1 then us.toArray[0]else .tuple us.toArray,?_⟩;unfold results;rw[Array.mapM_eq_mapM_toList];simp only[Sem.run_bind,Sem.run_map,Result.andThen,Sem.run_pure];generalize hz:Sem.run P (mapM _ fn.results.toList) V1.w=z;have jw:z=Result.ok us V1.w:=hz.symm.trans m1';subst jw;rfl
  obtain⟨v,hv⟩:=hres';have fin:(∃r,Ending.returned v = .returned r)/\∃V':View,V'.w=V1.w/\Step V V'/\aD G V'/\V'.H=H'/\jU V' m' (settle u1):=⟨⟨v,rfl⟩,V3,n1,n2,n3,n4.trans e1,e2▸(k5.free hfree).out⟩;rcases Br with rfl|rfl
  .cases e<;>first|exact k4.elim|skip
   exact⟨air,u1,rfl,v,hv,fin⟩
  .cases e<;>first|exact k4.elim|skip
   exact⟨air,u1,rfl,v,hv,fin⟩
 split at h<;>first|(cases h;done)|skip
 .rename_i _ _ _ _ xs H1 rs hd afX IJ;split at h<;>first|(cases h;done)|skip
  rename_i hfree;cases h;obtain⟨hq,hr⟩:=dN.1 dG;exact key (by assumption) afX IJ hq hr hfree (.inl rfl) rfl rfl
 .rename_i _ _ _ _ xs H1 rs hd afX IJ;split at h<;>first|(cases h;done)|skip
  rename_i hfree;cases h;obtain⟨hq,hr⟩:=dN.1 dG;exact key (by assumption) afX IJ hq hr hfree (.inr rfl) rfl rfl
end
open Go.ChangeShapes Go.WideShapes Go.RowKit
end Go.Am
namespace Go.Am
open Go
structure fP where
 o:List bC
 p:List Prop
 h:gZ p
def mZ:List fP->List bC
 |[]=>[]
 |i::l=>i.o++mZ l
def jS:List fP->List Prop
 |[]=>[]
 |i::l=>i.p++jS l
theorem nV:∀l:List fP,gZ (jS l)
 |[]=>trivial
 |i::l=>dN.2 ⟨i.h,nV l⟩
def ko(o:bC):fP:=⟨[o],[],yO⟩
def kp{p}(h:p):fP:=⟨[],[p],⟨h,yO⟩⟩
def kc{P}{G}{f}{args}{Hs}{out}{Xi}(e:List Nat)(h:ak P G f args Hs out Xi):fP:=⟨[.call e out Xi],[ak P G f args Hs out Xi],⟨h,yO⟩⟩
def kt{b}(h:b=true):fP:=⟨[.br true],[b=true],⟨h,yO⟩⟩
def kf{b}(h:b=false):fP:=⟨[.br false],[b=false],⟨h,yO⟩⟩
def kv{x y}(d:Nat)(h:aF x y):fP:=⟨[.val (some d) y],[aF x y],⟨h,yO⟩⟩
def kl{P}{G}{r}{n0}{c}{s}{ex}{s'}(aP:List Nat)(n:Nat)(h:bN P G r n0 c s ex s'):fP:=⟨[.loop aP n ex s'.aL s'.H],[bN P G r n0 c s ex s'],⟨h,yO⟩⟩
abbrev kO:fP:=kt (Eq.refl true)
abbrev kY:fP:=kf (Eq.refl false)
theorem qT{p}[Decidable p](h:p):decide p=true:=y15 h
theorem qF{p}[Decidable p](h:¬p):decide p=false:=y16 h
variable {α:Type}
theorem qN[BEq α][LawfulBEq α]{a b:α}:(a==b)=false↔a≠b:=beq_eq_false_iff_ne
theorem nW[BEq α][LawfulBEq α]{a b:α}:(a==b)=true↔a=b:=beq_iff_eq
abbrev ki p[Decidable p](h:p:=by omega):fP:=kt (y15 h)
abbrev kj p[Decidable p](h:¬p:=by omega):fP:=kf (y16 h)
abbrev kW(d:Nat)a b(h1 : -9223372036854775808<=a:=by omega)(h2:a<9223372036854775808:=by omega)(h3:a=b:=by omega):fP:=kv d (aF.TJ h1 h2 h3)
variable {a b:Nat}
abbrev kN(d:Nat)(h:a=b):fP:=kv d (show aF (int a) (int b)from aF.of_eq (by rw[h]))
abbrev Qx(x:List AV):fP:=kp (show[x]≠[]from by simp)
abbrev vV n(h:n<=140737488355328:=by omega):fP:=kp h
abbrev kq(a:α):fP:=kp (show a=a from rfl)
abbrev ke x(l:List (List AV))(i:Int)(h:0<=i/\l[i.toNat]?=some x):fP:=⟨[.elem x],[0<=i/\l[i.toNat]?=some x],⟨h,yO⟩⟩
abbrev Ga(a b c:Int)(h:0<=a/\a<=b/\b<=c:=by omega):fP:=kp h
abbrev kR(a b:Int)(h:0<=a/\a<b:=by omega):fP:=kp h
abbrev XV n(l:List (List AV))(h:l.length<=n):fP:=kp (show List.take n (List.drop 0 l)=l by rw[drop_zero,y23 h])
theorem lU(h:a=b):aF (int a) (int b):=.of_eq (by rw[h])
def rG(l:List (Nat×Nat)):List Nat:=l.flatMap fun p=>range' p.1 p.2
abbrev sM(n:Nat)(l:List (Nat×AV))(H:List ah):St:=⟨aC n l,H,[]⟩
abbrev iL(f:FuncId):AV:=.lit (.func (.func f) #[] #[])
section
variable {P:Program} {G:Nat->Option (List AV)}
theorem aj{f}{args}{H}{out}{H'}l(h:Vv P G f args H (mZ l)=some (out,H',jS l):=by kernel_rfl):ak P G f args H out H':=xq _ h (nV l)
theorem aA{f}{args}{H}{x y}{H'}(hs:aF x y)l(h:Vv P G f args H (mZ l)=some (.ret x,H',jS l):=by kernel_rfl):ak P G f args H (.ret y) H':=ak.out (aj l h) hs
theorem aJ{r}{n0}{c}{s s2 s'}{ex}(l:List fP)aP(n:Nat)(hn:bN P G r n0 c s2 ex s')(h:tJ P G r n0 c s (mZ l) aP n=some (s2,jS l):=by kernel_rfl):bN P G r n0 c s ex s':=bN.next _ _ _ h (nV l) hn
theorem aG{r}{n0}{c}{s s'}{ex}(l:List fP)aP(n:Nat)(h:Dv P G r n0 c s (mZ l) aP n=some (ex,s',jS l):=by kernel_rfl):bN P G r n0 c s ex s':=bN.exit _ _ _ h (nV l)
theorem jI{id}{args}{H}{b}{H'}(l:Option Nat->List fP)(h:∀r,af0 P G r id args H (mZ (l none))=some (b,H',jS (l r))):dY P G id args H b H':=J9 _ h fun r=>nV (l r)
end
variable {ps:List Prop}{ex:bF}{s s' s2:St}{c:Code}{n0:Nat}{r:Option Nat}
section
variable {P:Program} {G:Nat->Option (List AV)}
theorem FW{V}{b j}{cells}{x y}{z}{H1}{ps}(hG:aD G V)(hb:V.H[b]?=some (.box cells))(Mf:H1[b]?=some (.box cells))(hj:cells[j]?=some x)(ha:mR V.H x z=some (y,H1,ps))(dG:gZ ps):∃V':View,V'.w=V.w/\V'.H=H1.set b (.box (cells.set j y))/\Step V V'/\aD G V':=by
 obtain⟨t,vs,h1,h2⟩:=hG.eP b _ hb;have JN:=(yC.1 hj).1;have hx:dI V x (vs.getD j undef):=by
  have:=h2.2 j JN;grind
 obtain⟨V1,k1,k2,k3,k4,k5⟩:=sG ha dG hG hx;have NW:=k4.eP b _ (by rw[k2];exact Mf);obtain⟨t',vs',o1,o2⟩:=NW;have hρ:V1.ρ b=V.ρ b:=by
  have bg:=(yC.1 hb).1;have:=k3.eP b bg;unfold dL at this;grind
 have hev:vs'=vs:=by
  grind
 subst hev;have hr:bR V1 (cells.set j y) vs':=by
  have:=o2.set j k5;have e:vs'.set j (vs'.getD j undef)=vs':=by
   apply ext_getElem?;grind
  grind
 obtain⟨V2,l1,l2,l3,l4⟩:=wE  (ou:=.box (cells.set j y))  k4 (by rw[k2];exact Mf) rfl o1 o1 rfl (fun _ _=>rfl) rfl rfl rfl rfl trivial (fun V' hw hs=>⟨t',vs',by rw[hw];exact o1,hr.step hs⟩);exact⟨V2,l1.trans k1,by rw[l2,k2],k3.trans l3,l4⟩
theorem bN.ahI{r}{n0}{c}{s s'}{ex}{b j}{cells}{x y}{z}{H1}{ps}(h:bN P G r n0 c s ex s')(hb:s'.H[b]?=some (.box cells))(Mf:H1[b]?=some (.box cells))(hj:cells[j]?=some x)(ha:mR s'.H x z=some (y,H1,ps))(dG:gZ ps):bN P G r n0 c s ex { aL:=s'.aL,H:=H1.set b (.box (cells.set j y)),dh:=s'.dh } :=
 fun V0 V a h0 k1 k2 k3=>eO.mono (h V0 V a h0 k1 k2 k3) fun _ _ _ hE=>by
  obtain⟨V1,rfl,l1,l2,l3,l4⟩:=hE;obtain⟨V2,a1,a2,a3,a4⟩:=FW l2 (l3.H▸hb) Mf hj (l3.H▸ha) dG;exact⟨V2,a1,l1.trans a3,a4,⟨l3.aL.step a3,a2,l3.dh.step a3⟩,l4.step a3⟩
theorem bN.cut(n:Nat)(h:bN P G r n0 c s ex s')(Br:∀x,ex≠.Ay x)(hw:Bq n0 [] n s'=some (s2,ps))(dG:gZ ps):bN P G r n0 c s ex s2 :=
 fun V0 V a h0 k1 k2 k3=>eO.mono (h V0 V a h0 k1 k2 k3) fun e _ _ hE=>by
  obtain⟨V1,rfl,l1,l2,l3,l4⟩:=hE;obtain⟨V2,m1,m2,m3,m4⟩:=kJ hw dG h0 l1 l2 l3;exact⟨V2,m1,m2,m3,m4,by cases ex<;>cases e<;>first|exact l4|exact(Br _ rfl).elim⟩
end
variable {y:AV}{t:Nat}{aL:List AV}
section
variable {P:Program} {G:Nat->Option (List AV)}
theorem ak.wY{f}{H H'}{out}{sz}{tg}(h0:∀cap,ak P G f [.lit (.slice none 0 cap)] H out H')(h1:∀a cap,ak P G f [.lit (.slice (some a) 0 cap)] H out H'):ak P G f [.sl sz tg []] H out H':=by
 intro V vs hH hG hr;obtain⟨v,rfl⟩:∃v,vs=[v]:=by
  have:=hr.1
  match vs,this with
  |[v],_=>exact⟨v,rfl⟩
 have hx:=jF hr.head;obtain⟨A,cap,rfl,_⟩:=zU hx;cases A with
 |none=>exact h0 cap V _ hH hG (.cons (.pure _ _ (.lit _)) .nil)
 |some a=>exact h1 a cap V _ hH hG (.cons (.pure _ _ (.lit _)) .nil)
theorem eF.setAt{V V':View}{a:Act}(h:eF V aL a)(hs:Step V V')(hy:dI V' y (a.tmps.getD t undef)):eF V' (aL.set t y) a:=by
 have hk:=h.step hs;have hl:=hk.1;refine⟨by rw[length_set];exact hl,fun j hj=>?_⟩;rw[length_set]at hj;by_cases e:j=t
 .subst e;rw[yB,getElem?_set_self hj];have:a.tmps.toList.getD j undef=a.tmps.getD j undef:=by
   rw[yB,Array.getD_eq_getD_getElem?,Array.getElem?_toList]
  rw[this];exact hy
 .rw [yB,getElem?_set_ne (Ne.symm e),<- yB];exact hk.2 j hj
theorem bN.aui{H H1:List ah}{dh:List ig}{x:AV}{z:List (List AV)}(hx:aL.getD t .aP=x)(ha:mR H x z=some (y,H1,ps))(dG:gZ ps)(h:bN P G r n0 c { aL:=aL.set t y,H:=H1,dh:=dh } ex s'):bN P G r n0 c { aL:=aL,H:=H,dh:=dh } ex s':=by
 intro V0 V a h0 fB hG dK;have hH:=dK.H;subst hH;have hr:=hx▸dK.aL.get t;obtain⟨V1,k1,k2,k3,k4,k5⟩:=sG ha dG hG hr;have:=h V0 V1 a h0 (fB.trans k3) k4 ⟨eF.setAt dK.aL k3 k5,k2,dK.dh.step k3⟩;rwa[k1]at this
theorem bN.auO(aP:List Nat)(n:Nat)(hw:Bq n0 aP n s=some (s2,ps))(dG:gZ ps)(h:bN P G r n0 c s2 ex s'):bN P G r n0 c s ex s':=by
 intro V0 V a h0 fB hG dK;obtain⟨V2,l1,l2,l3,l4⟩:=kJ hw dG h0 fB hG dK;have:=h V0 V2 a h0 l2 l3 l4;rwa[l1]at this
theorem ak.afq{f}{g sz n}{xs z}{out}(hz:xs.take n=z)(hn:z.length=n)(hp:∀c∈z,c.all AV.fJ=true)(hf:out.Im=true)(hc:ak P G f [.sl sz false z] [] out []) :
 ak P G f [.aU 0 g 0 n] [.aN g sz false xs] out [.aN g sz true xs]:=by
 intro V vs hH hG hr;have TR:mR V.H (.aU 0 g 0 n) z=some (.sl sz false z,[.aN g sz true xs],[g=g,(xs.drop 0).take n=z,z.length=n,∀c∈z,c.all AV.fJ=true]):=by
  rw[hH];rfl
 obtain⟨v,rfl⟩:∃v,vs=[v]:=by
  have:=hr.1
  match vs,this with
  |[v],_=>exact⟨v,rfl⟩
 obtain⟨V1,k1,k2,k3,k4,k5⟩:=sG TR ⟨rfl,by exact hz,hn,hp,yO⟩ hG hr.head;have hx:bR V1 [.sl sz false z] [v]:=.cons k5 .nil;have vN:AV.aM [] [AV.sl sz false z]=true:=rfl;have r:=iX (NZ []) [AV.sl sz false z] vN;have:=ak.frame hc k4  nodup_nil zS rfl (fun i o ho=>by simp at ho) (fun i o ho=>by simp at ho) hx r.1.symm (r.2 _);rw[aS.Jq hf,k2,k1]at this;exact this.mono fun e w' ⟨V2,a1,a2,a3,a4,a5⟩=>⟨V2,a1,k3.trans a2,a3,a4,a5⟩
end
section
variable {P:Program} {G:Nat->Option (List AV)}
def Code.hd:Code->Code
 |.seq x _=>x
 |c=>c
def Code.tl:Code->Code
 |.seq _ y=>y
 |c=>c
def Code.Tf:Code->Code
 |.block _ c=>c
 |c=>c
def bn(P:Program)(G:Nat->Option (List AV))(r:Option Nat)(n0:Nat)(c:Code)(s s2:St):Prop :=
 ∀(V0 V:View)(a:Act)(K:Act->World->Prop)(Q:Exit->Act->World->Prop),V0.H.length=n0->Step V0 V->aD G V->jO V s a ->
  (∀V2 a2,Step V0 V2->aD G V2->jO V2 s2 a2->K a2 V2.w)->c.wpIn (fz r) 0 P (Exit.then K Q) a V.w
theorem NP{r}{n0}{c}{s s2}{ps}(bf:List bC)aP(n:Nat)(h:tJ P G r n0 c s bf aP n=some (s2,ps))(dG:gZ ps):bn P G r n0 c s s2:=by
 intro V0 V a K Q h0 hs hG dK next
 unfold tJ at h;split at h
 .rename_i s1 cK qs h1;split at h
  .rename_i s3 rs h2;cases h;obtain⟨hq,hr⟩:=dN.1 dG;refine Go.wpIn_mono (eT c h1 hq V0 V a h0 hs hG dK) ?_;refine A9.after fun V1 a1 k1 k2 k3=>?_;obtain⟨V2,l1,l2,l3,l4⟩:=kJ h2 hr h0 k1 k2 k3;grind
  .cases h
 .cases h
theorem bM{r}{n0}{c}{s s2}(l:List fP)aP(n:Nat)(h:tJ P G r n0 c s (mZ l) aP n=some (s2,jS l)):bn P G r n0 c s s2:=NP _ aP n h (nV l)
theorem bn.seq{r}{n0}{x y}{s s2}(h:bn P G r n0 x s s2){V0 V}{a}{Q}(h0:V0.H.length=n0)(hs:Step V0 V)(hG:aD G V)(dK:jO V s a)(next:∀V2 a2,Step V0 V2->aD G V2->jO V2 s2 a2->y.wpIn (fz r) 0 P Q a2 V2.w):(Code.seq x y).wpIn (fz r) 0 P Q a V.w:=Go.wpIn_seq (h V0 V a (fun a w=>y.wpIn (fz r) 0 P Q a w) Q h0 hs hG dK next)
theorem qg{ops}{Q}:∀{os1 os2}{r}{i}{aL}{H}{ds}{bf}{env'}{H'}{N9}{aT}{ps},
 vw P G r ops i os1 aL H ds bf=some (.normal,env',H',N9,aT,ps)->gZ ps->ops.toList.drop i=os1++os2->∀{V}{a},aD G V->V.H=H->eF V aL a->dS V ds a.defers ->
 (∀V' a',Step V V'->aD G V'->V'.H=H'->eF V' env' a'->dS V' N9 a'.defers->wpOpsIn (fz r) 0 P ops Q ((List.range ops.size).drop (i+os1.length)) a' V'.w) ->
 wpOpsIn (fz r) 0 P ops Q ((List.range ops.size).drop i) a V.w
 |[],os2,r,i,aL,H,ds,bf,env',H',N9,aT,ps,h,dG,rW,V,a,hG,hH,he,hd,n1=>by
  simp only[vw,y06,Prod.mk.injEq]at h;obtain⟨_,rfl,rfl,rfl,_,_⟩:=h;exact n1 V a (Step.refl V) hG hH he hd
 |o::os,os2,r,i,aL,H,ds,bf,env',H',N9,aT,ps,h,dG,rW,V,a,hG,hH,he,hd,n1=>by
  have bg:i<ops.size:=by
   rcases y08 i ops.size with h|h
   .exact h
   .rw [y14 (by simpa using h)]at rW;cases rW
  have oL:i<ops.toList.length:=by simpa using bg
  rw[y01 oL,cons_append]at rW;injection rW with ho BP;have ho':ops[i]?=some o:=by rw[<- ho];simp[bg]
  have hr:(List.range ops.size).drop i=i::(List.range ops.size).drop (i+1):=by
   rw[y01 (by simpa using bg)];simp
  rw[hr,wpOpsIn_cons];have e1:i+(o::os).length=(i+1)+os.length:=by rw[yE];omega
  rw[e1]at n1;have key:=fun{k:Kind}{out:aS}{H1:List ah}{cK:List bC}{qs:List Prop}(fB:iP P G ops (iO ops i) aL H o bf=some (k,out,H1,cK,qs))(hq:gZ qs)=>qw (r:=r) (a:=a) ho' fB hq hG (fun t _=>he.get t) (.inl hH);unfold vw at h;split at h
  .rename_i c bA YS O6;split at h
   .rename_i d hdf;obtain⟨dd,k1,k2⟩:=Du (P:=P) hG he hdf o.type;unfold wpOpIn;rw[ho'];have hw:Region.wanted o (yielded ops a.tmps)=true:=by unfold Region.wanted;rw[YS]
    simp only[hw,if_true];refine⟨fun _ _=>trivial,?_⟩;have jJ:(execOp a.eval o).run P V.w = .ok (.defer dd) V.w:=by
     rw[execOp,bA];simp only[Sem.run_bind,k1,Result.andThen,Sem.run_pure]
    show o.uponIn _ _ P a _ Q ((Oper.semAt none a.eval o).run P V.w);rw[Oper.semAt_none,jJ,Oper.uponIn_defer,O6];exact qg h dG BP (a:={ a with defers:=dd::a.defers }) hG hH he (.cons k2 hd) n1
   .cases h
  .split at h
   .rename_i k x H1 cK qs fB;split at h
    .rename_i Xh O1 H2 ds1 mK rs Ir;cases h;obtain⟨hq,NU⟩:=dN.1 dG;obtain⟨h1,h2⟩:=key fB hq;refine h1 _ Q (fun V' v x' hx hs hG' Dq zq=>?_) (fun V' v x' hx=>by cases hx);cases hx;have NV:V'.H=H1:=by
      rw[Dq];split
      .rename_i hk;rw[hH,h2 (by rw[hk];simp)]
      .rfl
     have he':=(he.step hs).put o.dst zq;exact qg Ir NU BP hG' NV he' (by rw[nT];exact hd.step hs)
      (fun V2 a2 s2 g2 YT e2 d2=>n1 V2 a2 (hs.trans s2) g2 YT e2 d2)
    .cases h
   .rename_i k x H1 cK qs fB;cases h
   .cases h
theorem yX{ops}{r}{Q}{i}{rest}{o}{g}{args}{ts}{f}{fn}{us vs}{a}{w}{R}(ho:ops[i]?=some o)(YS:o.guard=none)(bA:o.op = .call { callee:=.value g,args:=args,argTypes:=ts })(wN:P.funcs[f]?=some fn)(dK:rz P f=true)(hg:a.eval g = .func (.func f) us vs)(hc:CallsIn Fence.wide 0 P f (us++args.map a.eval++vs) w R)(next:∀e w',R e w'->∃v,e = .returned v/\wpOpsIn (fz r) 0 P ops Q rest (a.put o.dst v) w'):wpOpsIn (fz r) 0 P ops Q (i::rest) a w:=by
 rw[wpOpsIn_cons];unfold wpOpIn;rw[ho];have hw:Region.wanted o (yielded ops a.tmps)=true:=by unfold Region.wanted;rw[YS]
 simp only[hw];refine⟨fun _ _=>trivial,?_⟩;have jJ:(execOp a.eval o).run P w = .ok (.enter f (us++args.map a.eval++vs)) w:=by
  unfold rz at dK;rw[wN]at dK;simp only[y04,Bool.not_eq_true',beq_eq_false_iff_ne]at dK;obtain⟨c,hb⟩:=Option.isSome_iff_exists.1 dK.1;rw[execOp,bA];simp[resolve,Deferred.ofValue,hg,invoke,callFunc,wN,dK.2,hb]
 rw[Oper.semAt_eq _ _ _ (fun c hc=>by rw[bA]at hc;cases hc),jJ];refine⟨nofun,(Jp r hc).mono fun e w' he=>?_⟩;grind
theorem CJ{f}{fn}{c}{vs}{w}{R}(wN:P.funcs[f]?=some fn)(hb:fn.body=some c)(h:c.wpIn Fence.wide 0 P (fun e a w=>(e = .normal\/e = .ret)/\a.defers=[]/\∃v,(results fn a.tmps).run P w = .ok v w/\R (.returned v) w) { tmps:=vs++Array.replicate (fn.ntmps-vs.size) undef,defers:=[] } w):CallsIn Fence.wide 0 P f vs w R:=by
 refine callsIn_of_wp_marks wN hb trivial (Go.wpIn_mono h ?_);intro e a w' hE;obtain⟨he,hd,hr⟩:=hE;rcases he with rfl|rfl
 .show LeavesInM Fence.wide 0 P fn a.tmps R a.defers .returning w';rw[hd];exact hr
 .show LeavesInM Fence.wide 0 P fn a.tmps R a.defers .returning w';rw[hd];exact hr
theorem vU{V}{fn}{ex}{s}{cK}{out}{H'}{ps}(iJ:EA P G V.H.length fn ex s cK=some (out,H',ps))(hr:gZ ps):∀e a' w',A9 G V ex s e a' w'->bodyPostM Fence.wide 0 P fn (xu G V H' out) e a' w':=by
 intro e a' w' hE;obtain⟨V1,rfl,k1,k2,k3,k4⟩:=hE;obtain⟨m,hm,hmr⟩:∃m u,ex.mode=some m/\jU V1 m u/\(LeavesInM Fence.wide 0 P fn a'.tmps (xu G V H' out) a'.defers u V1.w->bodyPostM Fence.wide 0 P fn (xu G V H' out) e a' V1.w):=by
  cases ex<;>cases e<;>first|exact k4.elim|skip
  .exact ⟨_,.returning,rfl,rfl,id⟩
  .simp [EA,bF.mode]at iJ
  .simp [EA,bF.mode]at iJ
  .exact ⟨_,.returning,rfl,rfl,id⟩
  .obtain ⟨v,rfl,hv⟩:=k4;exact⟨_,_,rfl,⟨v,rfl,hv⟩,id⟩
 obtain⟨Y6,hmr,hgo⟩:=hmr;refine hgo ?_;unfold EA at iJ;rw[Y6]at iJ;simp only at iJ;split at iJ
 .rename_i y H2 qs2 hlv;split at iJ
  .rename_i xs afX;split at iJ
   .rename_i H3 qs3 IJ;cases iJ;obtain⟨hr1,Y7⟩:=dN.1 hr;refine kG  rfl (by rw[k3.H];exact hlv) hr1 k1 k2 k3.dh hmr fun V2 u2 s2 t2 g2 h2 m2=>?_;rw[(m2)];obtain⟨us,m1,m2⟩:=BZ  g2 ⟨k3.aL.1,fun j hj=>t2 _ _ (k3.aL.2 j hj)⟩ (by rw[h2];exact afX);obtain⟨V3,n1,n2,n3,n4,n5⟩:=pJ  (by rw[h2];exact IJ) Y7 rfl s2 g2 (Pd m2);refine⟨_,?_,V3,n1,n2,n3,n4,n5⟩;unfold results;rw[Array.mapM_eq_mapM_toList];simp only[Sem.run_bind,Sem.run_map,Result.andThen,Sem.run_pure];grind
   .cases iJ
  .cases iJ
 .rename_i x H2 qs2 hlv;split at iJ
  .rename_i H3 qs3 IJ;cases iJ;obtain⟨hr1,Y7⟩:=dN.1 hr;refine kG  rfl (by rw[k3.H];exact hlv) hr1 k1 k2 k3.dh hmr fun V2 u2 s2 t2 g2 h2 m2=>?_;obtain⟨v,rfl,hv⟩:=m2;obtain⟨V3,n1,n2,n3,n4,n5⟩:=pJ  (by rw[h2];exact IJ) Y7 rfl s2 g2 hv;exact⟨V3,n1,n2,n3,n4,v,rfl,n5⟩
  .cases iJ
 .cases iJ
end
theorem WH{V V'}(hs:Step V V')(hM:∀b,¬V.M b):∃q UU,V'.w=Sort.grow (V.w.drewN q) UU:=by
 refine⟨V'.w.drawn-V.w.drawn,V'.w.heap.extract V.w.heap.size V'.w.heap.size,?_⟩;have hd:=hs.drawn;have hh:V'.w.heap=V.w.heap++V'.w.heap.extract V.w.heap.size V'.w.heap.size:=by
  apply Array.ext_getElem?;intro i;by_cases h:i<V.w.heap.size
  .rw [Array.getElem?_append_left h];exact(hs.data i h (hM i)).1
  grind
 have h1:=hs.os;have h2:=hs.tape;have h3:=hs.output;generalize V'.w=w' at *;cases w' with
 |mk heap tape drawn os output =>
 simp only at hh hd h1 h2 h3;simp only[Sort.grow,World.drewN];congr 1;omega
theorem Hl{P}{G}{f}{xs}{args}{W}{y}(hc:ak P G f xs [] (.ret y) [])(hG:∀g cs,G g=some cs->dR W (fun _=>False) (.iG cs) (.pointer (some ⟨g,0,none⟩)))(hx:bR (nA W) xs args.toList):Calls P f args W fun e W'=>∃v q UU,e = .returned v/\(∃V':View,V'.w=W'/\dI V' y v)/\W'=Sort.grow (W.drewN q) UU:=by
 have h0:aD G (nA W):=⟨fun _ h=>absurd h (by simp[nA]),fun _ _ h=>by simp[nA]at h,fun _ _ h=>absurd h (by simp[nA]),fun _ _ h=>by simp[nA]at h,hG⟩;have h:=hc (nA W) args.toList rfl h0 hx;have ea:args.toList.toArray=args:=zS
 exact(h.calls room_wide).mono fun e w' he=>by
  obtain⟨V',rfl,k2,k3,k4,k5⟩:=he;obtain⟨q,UU,hg⟩:=WH k2 (fun _ h=>h);cases e with
  |returned v=>exact⟨v,q,UU,rfl,⟨V',rfl,k5⟩,hg⟩
  |panicked _=>exact k5.elim
  |outgrown=>exact k5.elim
section
variable {P:Program} {G:Nat->Option (List AV)}
theorem EB{f}{fn}{c}{args}{H}{out}{H'}(wN:P.funcs[f]?=some fn)(hb:fn.body=some c)(h:∀V a,V.H=H->aD G V->jO V { aL:=args++replicate (fn.ntmps-args.length) (.lit undef),H:=H } a->c.wpIn (fz none) 0 P (bodyPostM Fence.wide 0 P fn (xu G V H' out)) a V.w):ak P G f args H out H':=by
 intro V vs hH hG jf;refine callsIn_of_wp_marks wN hb trivial (h V _ hH hG ⟨?_,hH,.nil⟩);have:eF V (args++replicate (fn.ntmps-args.length) (.lit undef)) { tmps:=(vs++replicate (fn.ntmps-args.length) undef).toArray,defers:=[] }:=by
  refine bR.append jf ?_;have:=bR.vv (V:=V) (replicate (fn.ntmps-args.length) undef);simp_all
 have e:(vs++replicate (fn.ntmps-args.length) undef).toArray=vs.toArray++Array.replicate (fn.ntmps-vs.toArray.size) undef:=by
  simp[jf.1]
 grind
def y7(P:Program)(G:Nat->Option (List AV))(n0:Nat)(fn:Func)(c:Code)(s:St)(bf:List bC):Option (aS×List ah×List Prop) :=
 match sP P G none n0 c s bf with
 |some (ex,s',aT,ps)=>match EA P G n0 fn ex s' aT with
  |some (out,H',qs)=>some (out,H',ps++qs)
  |none=>none
 |none=>none
theorem mJ{fn}{n0}{c}{s}{out}{H'}l(h:y7 P G n0 fn c s (mZ l)=some (out,H',jS l)){V0 V}{a}(h0:V0.H.length=n0)(hs:Step V0 V)(hG:aD G V)(dK:jO V s a) :
 c.wpIn (fz none) 0 P (bodyPostM Fence.wide 0 P fn (xu G V0 H' out)) a V.w:=by
 unfold y7 at h;split at h
 .rename_i ex s' aT ps jJ;split at h
  .rename_i o1 H1 qs iJ;injection h with h;injection h with e1 h;injection h with e2 e3;subst e1 e2;have jH:=nV l;rw[<- e3]at jH;obtain⟨hp,hq⟩:=dN.1 jH;refine Go.wpIn_mono (eT  c jJ hp V0 V a h0 hs hG dK) ?_;exact vU (by rw[h0];exact iJ) hq
  .cases h
 .cases h
theorem SL{ops:Array Oper}(J:Array Bool->List AV->List ah->Prop)(Fin:List AV->List ah->Prop)(abj:∀listed aL H,J listed aL H->∀i∈Region.ready .any ops listed,∃o bf k x H' aT ps,ops[i]?=some o/\iP P G ops (iO ops i) aL H o bf=some (k,.ret x,H',aT,ps)/\gZ ps/\J (listed.setIfInBounds i true) (gX aL o.dst x) H')(iJ:∀listed aL H,J listed aL H->Region.ready .any ops listed=[]->Fin aL H){Q:Exit->Act->World->Prop}:∀(fuel:Nat){listed:Array Bool}{aL:List AV}{H:List ah}{V:View}{a:Act},J listed aL H->listed.size=ops.size->listed.toList.count false<=fuel->aD G V->V.H=H->eF V aL a ->
 (∀V' a' env' H',Step V V'->aD G V'->V'.H=H'->eF V' env' a'->a'.defers=a.defers->Fin env' H'->Q .normal a' V'.w)->wpAnyIn (fz r) 0 P .any ops Q fuel listed a V.w:=by
 intro fuel
 induction fuel with
 |zero =>
  intro listed aL H V a hJ iZ hc hG hH he hn;have hr:Region.ready .any ops listed=[]:=by
   cases hr:Region.ready .any ops listed with
   |nil=>rfl
   |cons i is =>
    have hi:i∈Region.ready .any ops listed:=by rw[hr];simp
    obtain⟨Iw,o,ho,_⟩:=mem_ready.1 hi;have QB:i<listed.size:=by rw[iZ];grind
    simp only[Array.getD_eq_getD_getElem?,Array.getElem?_eq_getElem QB,Option.getD_some]at Iw;have:false∈listed.toList:=by rw[<- Iw];simp
    have:=count_pos_iff.2 this;omega
  exact⟨hr,hn V a aL H (Step.refl V) hG hH he rfl (iJ _ _ _ hJ hr)⟩
 |succ fuel ih =>
  intro listed aL H V a hJ iZ hc hG hH he hn;refine⟨fun hr=>hn V a aL H (Step.refl V) hG hH he rfl (iJ _ _ _ hJ hr),fun i hi=>?_⟩;obtain⟨o,bf,k,x,H',aT,ps,ho,fB,dG,hJ'⟩:=abj _ _ _ hJ i hi;obtain⟨h1,h2⟩:=qw (r:=r) (a:=a) ho fB dG hG (fun t _=>he.get t) (.inl hH);refine h1 _ Q (fun V' v x' hx hs hG' Dq zq=>?_) (fun V' v x' hx=>by cases hx);cases hx;have NV:V'.H=H':=by grind
  obtain⟨Iw,_⟩:=mem_ready.1 hi;have QB:i<listed.size:=by rw[iZ];grind
  simp only[Array.getD_eq_getD_getElem?,Option.getD_some]at Iw;have e:(listed.setIfInBounds i true).toList.count false=listed.toList.count false-1:=by grind
  exact ih hJ' (by simpa using iZ) (by rw[e];omega) hG' NV ((he.step hs).put o.dst zq)
   (fun V2 a2 Vw H2 s2 g2 YT e2 d2 f2=>hn V2 a2 Vw H2 (hs.trans s2) g2 YT e2 (d2.trans (nT _ _ _)) f2)
theorem Ke{r}{id}{ops}(J:Array Bool->List AV->List ah->Prop)(Fin:List AV->List ah->Prop)(abj:∀listed aL H,J listed aL H->∀i∈Region.ready .any ops listed,∃o bf k x H' aT ps,ops[i]?=some o/\iP P G ops (iO ops i) aL H o bf=some (k,.ret x,H',aT,ps)/\gZ ps/\J (listed.setIfInBounds i true) (gX aL o.dst x) H')(iJ:∀listed aL H,J listed aL H->Region.ready .any ops listed=[]->Fin aL H){Q}{s}{V}{a}(h0:J (Array.replicate ops.size false) s.aL s.H)(hm:P.follows .mixedOrders=true)(hG:aD G V)(dK:jO V s a)(hn:∀V' a' env' H',Step V V'->aD G V'->jO V' { aL:=env',H:=H',dh:=s.dh } a'->Fin env' H'->Q .normal a' V'.w):(Code.region id ops true).wpIn (fz r) 0 P Q a V.w:=by
 refine wpIn_region_any hm ?_;obtain⟨Vd,d1,d2,d3,d4,d5,d6⟩:=KN  hG (w':={ V.w with drawn:=V.w.drawn+1 }) rfl rfl rfl rfl;rw[<- d1];refine SL J Fin abj iJ ops.size h0 zS zS d6 (d2.trans dK.H) (dK.aL.step d5) ?_;intro V' a' env' H' s' g' h' e' dd f';exact hn V' a' env' H' (d5.trans s') g' ⟨e',h',dd▸dK.dh.step (d5.trans s')⟩ f'
end
structure Kq(n:Nat)(V V':View):Prop where
 data:∀b,b<V.w.heap.size->¬V.M b->V'.w.heap[b]?=V.w.heap[b]?/\¬V'.M b
 aU:∀id,id<n->id<V.H.length->V'.ρ id=V.ρ id/\V'.w.heap[V.ρ id]?=V.w.heap[V.ρ id]?/\(V'.H[id]?=V.H[id]?\/∃e e',V.H[id]?=some (.map e)/\V'.H[id]?=some (.map e'))
section
variable {n:Nat} {V V':View} (h:Kq n V V')
 include h
theorem bY.lF{f}(hf:∀e e',f (.map e)=f (.map e')){id}(dU:id<n)(hk:bY f V id):bY f V' id/\V'.ρ id=V.ρ id:=by
 obtain⟨o,ho,Z8⟩:=hk;have hl:=(yC.1 ho).1;obtain⟨h1,h2,h3⟩:=h.aU id dU hl;refine⟨?_,h1⟩;rcases h3 with h3|⟨e,e',h3,h4⟩
 .exact ⟨o,h3.trans ho,Z8⟩
 .rw [h3]at ho;injection ho with ho;subst ho;exact⟨_,h4,(hf e' e).trans Z8⟩
theorem dI.lF{x}{v}(hr:dI V x v)(hx:x.bP n=true):dI V' x v:=by
 induction hr with
 |pure x v hp=>exact .pure x v (hp.step h.data)
 |aP v=>exact .aP v
 |ptr id off hk =>
  simp only[AV.bP,Nat.blt_eq]at hx;obtain⟨k1,k2⟩:=bY.lF h  (fun _ _=>rfl) hx hk;rw[<- k2];exact .ptr id off k1
 |jC id g k j v ha =>
  simp only[AV.bP,Nat.blt_eq]at hx;refine .jC id g k j v ⟨ha.1,?_⟩;have hl:=ha.lt;obtain⟨h1,h2,h3⟩:=h.aU id hx hl;have h4:=ha.2;grind
 |aU id g off len v ha =>
  simp only[AV.bP,Nat.blt_eq]at hx;refine .aU id g off len v ⟨ha.1,?_⟩;have hl:=ha.lt;obtain⟨h1,h2,h3⟩:=h.aU id hx hl;have h4:=ha.2;rcases h3 with h3|⟨e,e',h3,h5⟩
  .unfold qR at h4 |-;grind
  grind
 |mp id hk =>
  simp only[AV.bP,Nat.blt_eq]at hx;obtain⟨k1,k2⟩:=bY.lF h  (fun _ _=>rfl) hx hk;rw[<- k2];exact .mp id k1
 |yl id hk =>
  simp only[AV.bP,Nat.blt_eq]at hx;obtain⟨k1,k2⟩:=bY.lF h  (fun _ _=>rfl) hx hk;rw[<- k2];exact .yl id k1
 |agg cs vs hl _ ih =>
  exact .agg cs vs hl fun j hj=>ih j hj (fq j hx hj)
 |bq cs vs hl _ ih =>
  exact .bq cs vs hl fun j hj=>ih j hj (fq j hx hj)
 |qX t x v _ ih =>
  exact .qX t x v (ih hx)
 |fn f uu bs us vs hu hv _ _ iha ihb =>
  simp only[AV.bP,y04]at hx;exact .fn f uu bs us vs hu hv (fun j hj=>iha j hj (fq j hx.1 hj)) (fun j hj=>ihb j hj (fq j hx.2 hj))
theorem bR.lF{xs}{vs}(hr:bR V xs vs)(hx:AV.gH n xs=true):bR V' xs vs:=⟨hr.1,fun j hj=>(hr.2 j hj).lF h (fq j hx hj)⟩
theorem fZ.lF{id}{o}(dU:id<n)(hl:id<V.H.length)(ho:o.bP n)(hr:fZ V (V.ρ id) o):fZ V' (V'.ρ id) o:=by
 obtain⟨h1,h2,_⟩:=h.aU id dU hl;rw[h1];cases o with
 |box cells=>obtain⟨t,vs,k1,k2⟩:=hr;exact⟨t,vs,h2.trans k1,k2.lF h ho⟩
 |aN g sz fz xs =>
  obtain⟨t,c,k1,k2,k3,k4⟩:=hr;refine⟨t,c,h2.trans k1,k2,k3,fun k j hk hj=>?_⟩;obtain⟨v,hv,YJ,zq⟩:=k4 k j hk hj;have hx:xs.getD k []∈xs:=by rw[yB,yA hk];simp
  exact⟨v,hv,YJ,zq.lF h (fq j (ho _ hx) (by rw[k3 _ hx];exact hj))⟩
 |map es =>
  obtain⟨ents,clock,k1,k2,k3,k4,k5,k6⟩:=hr;refine⟨ents,clock,h2.trans k1,k2,k3,k4,k5,fun j hj=>?_⟩;obtain⟨kk,hm⟩:=LK hj;exact(k6 j hj).lF h (ho (kk,uq es j) hm)
 |iV st p aL ps uu bd=>obtain⟨fn,vs,D,k1,k2⟩:=hr;exact⟨fn,vs,D,h2.trans k1,k2.lF h ho⟩
 |iter cur left =>
  obtain⟨bm,since,seen,c0,ents,clock,es,idx,k1,k2⟩:=hr;exact⟨bm,since,seen,c0,ents,clock,es,idx,h2.trans k1,k2.step h.data⟩
 |uE=>exact h2.trans hr
 |aH=>trivial
theorem aD.lF{G}(hG:aD G V)(bg:∀id,id<V'.H.length->V'.ρ id<V'.w.heap.size)(agS:∀i j,i<V'.H.length->j<V'.H.length->V'.ρ i=V'.ρ j->i=j)(R7:∀id o,V'.H[id]?=some o->((id<n/\V.H[id]?=some o/\o.bP n)\/fZ V' (V'.ρ id) o)/\(o.open_=true->V'.M (V'.ρ id))):aD G V' where
 lt:=bg
 eP id o ho:=by
  rcases(R7 id o ho).1 with⟨h1,h2,h3⟩|h1
  .exact fZ.lF h h1 (yC.1 h2).1 h3 (hG.eP id o h2)
  .exact h1
 inj:=agS
 gW id o ho bA:=(R7 id o ho).2 bA
 ng g cs hg:=(hG.ng g cs hg).step h.data
theorem eF.lF{aL}{a}(he:eF V aL a)(hx:AV.gH n aL=true):eF V' aL a:=bR.lF h he hx
end
theorem eF.ae8{V}{aL}{a}(h:eF V aL a){t}{x}(hx:dI V x (a.tmps.getD t undef)):eF V (aL.set t x) a :=
 ⟨by simpa using h.1,fun j hj=>by
  have hj':j<aL.length:=by simpa using hj
  by_cases e:t=j
  .simp_all
  .rw [w9 e];exact h.2 j hj'⟩
theorem eF.ae9{V}{aL env'}{a}(h:eF V aL a)(hl:env'.length=aL.length)(hd:∀j,j<aL.length->env'.getD j .aP=aL.getD j .aP\/env'.getD j .aP = .aP):eF V env' a :=
 ⟨h.1.trans hl.symm,fun j hj=>by
  rcases hd j zO with h1|h1
  .rw [h1];exact h.2 j zO
  .rw [h1];exact .aP _⟩
structure rJ(B:Nat->Prop)(V V':View):Prop where
 os:V'.w.os=V.w.os
 tape:V'.w.tape=V.w.tape
 output:V'.w.output=V.w.output
 size:V.w.heap.size<=V'.w.heap.size
 drawn:V.w.drawn<=V'.w.drawn
 keep:∀b,b<V.w.heap.size->(∀id,id<V.H.length->V.ρ id≠b)->¬B b->V'.w.heap[b]?=V.w.heap[b]?/\(V'.M b↔V.M b)
 data:∀b,b<V.w.heap.size->¬V.M b->V'.w.heap[b]?=V.w.heap[b]?/\¬V'.M b
 bL:V.H.length<=V'.H.length
 fresh:∀id,id<V'.H.length->(id<V.H.length/\V'.ρ id=V.ρ id)\/V.w.heap.size<=V'.ρ id
 eP:∀id,id<V.H.length->dL V V' id
theorem Step.x{V V'}(h:Step V V')B:rJ B V V':=⟨h.os,h.tape,h.output,h.size,h.drawn,fun b h1 h2 _=>h.keep b h1 h2,h.data,h.bL,h.fresh,h.eP⟩
theorem rJ.mono{B C}{V V'}(h:rJ B V V')(hB:∀b,B b->C b):rJ C V V':={ h with keep:=fun b h1 h2 h3=>h.keep b h1 h2 fun h4=>h3 (hB b h4) }
theorem rJ.trans{B}{V V' Xn}(h:rJ B V V')(h':rJ B V' Xn):rJ B V Xn where
 os:=h'.os.trans h.os
 tape:=h'.tape.trans h.tape
 output:=h'.output.trans h.output
 size:=y07 h.size h'.size
 drawn:=y07 h.drawn h'.drawn
 keep b hb hn hB:=by
  obtain⟨a1,a2⟩:=h.keep b hb hn hB;have:=h'.keep b (y21 hb h.size) (fun id dU e=>by
   rcases h.fresh id dU with⟨hl,hρ⟩|Ct
   .exact hn id hl (hρ▸e)
   .omega) hB
  grind
 data b hb hn:=by
  obtain⟨a1,a2⟩:=h.data b hb hn;obtain⟨b1,b2⟩:=h'.data b (y21 hb h.size) a2;grind
 bL:=y07 h.bL h'.bL
 fresh id dU:=by
  rcases h'.fresh id dU with⟨hl,hρ⟩|Ct
  .rcases h.fresh id hl with⟨EJ,aoA⟩|Ct
   .omega
   .omega
  .exact .inr (y07 h.size Ct)
 eP id dU:=(h.eP id dU).trans (h'.eP id (y21 dU h.bL))
theorem Step.aiq{B}{V V' Xn}(h:Step V V')(h':rJ B V' Xn)(hB:∀b,B b->V.w.heap.size<=b):Step V Xn:=by
 have:=(h.x B).trans h';exact⟨this.os,this.tape,this.output,this.size,this.drawn,fun b h1 h2=>this.keep b h1 h2 fun h3=>by have:=hB b h3;omega,this.data,this.bL,this.fresh,this.eP⟩
theorem ak.XU{P}{G}{f}{H H'}{out}{sz}{tg}{rest}(h0:∀cap,ak P G f (.lit (.slice none 0 cap)::rest) H out H')(h1:∀a cap,ak P G f (.lit (.slice (some a) 0 cap)::rest) H out H'):ak P G f (.sl sz tg []::rest) H out H':=by
 intro V vs hH hG hr;obtain⟨v,ws,rfl⟩:∃v ws,vs=v::ws:=by
  have:=hr.1
  match vs,this with
  |v::ws,_=>exact⟨v,ws,rfl⟩
 have hx:=jF hr.head;obtain⟨A,cap,rfl,_⟩:=zU hx;have ht:=hr.tail;cases A with
 |none=>exact h0 cap V _ hH hG (.cons (.pure _ _ (.lit _)) ht)
 |some a=>exact h1 a cap V _ hH hG (.cons (.pure _ _ (.lit _)) ht)
theorem aF.afp(sz:Nat)A(cap:Nat):aF (.lit (.slice A 0 cap)) (.sl sz false []):=fun V v h=>by
 rw[bW h];exact .pure _ _ (.sl sz false [] A cap 0 0 (fun _ _=>undef) (fun h=>absurd rfl h) (fun h=>absurd rfl h) yN (fun h=>by cases h) zS (fun k j hk=>absurd hk zS) (fun k j hk=>absurd hk zS) (fun k j hk=>absurd hk zS))
mutual
theorem aCj{σ:Nat->Nat}{p:Nat}(h:∀i,i<p->σ i=i):∀x:AV,x.bP p=true->x.jv σ=x
 |.lit v,_=>rfl
 |.ptr id off,hx=>by
  simp only[AV.bP,Nat.blt_eq]at hx;simp only[AV.jv,h id hx]
 |.jC id g k j,hx=>by
  simp only[AV.bP,Nat.blt_eq]at hx;simp only[AV.jv,h id hx]
 |.iG cs,_=>rfl
 |.sl sz t xs,_=>rfl
 |.aU id g off len,hx=>by
  simp only[AV.bP,Nat.blt_eq]at hx;simp only[AV.jv,h id hx]
 |.mp id,hx=>by
  simp only[AV.bP,Nat.blt_eq]at hx;simp only[AV.jv,h id hx]
 |.md ..,_=>rfl
 |.yl id,hx=>by
  simp only[AV.bP,Nat.blt_eq]at hx;simp only[AV.jv,h id hx]
 |.fn f us bs,hx=>by
  simp only[AV.bP,y04]at hx;simp only[AV.jv,axf h us hx.1,axf h bs hx.2]
 |.qX t x,hx=>by
  simp only[AV.bP]at hx;simp only[AV.jv,aCj h x hx]
 |.agg cs,hx=>by
  simp only[AV.bP]at hx;simp only[AV.jv,axf h cs hx]
 |.bq cs,hx=>by
  simp only[AV.bP]at hx;simp only[AV.jv,axf h cs hx]
 |.aP,_=>rfl
theorem axf{σ:Nat->Nat}{p:Nat}(h:∀i,i<p->σ i=i):∀xs:List AV,AV.gH p xs=true->AV.kH σ xs=xs
 |[],_=>rfl
 |x::xs,hx=>by
  simp only[AV.gH,y04]at hx;simp only[AV.kH,aCj h x hx.1,axf h xs hx.2]
end
section
variable {P:Program} {G:Nat->Option (List AV)}
theorem ak.Zq{f}{args}{F}{cells}(h:ak P G f args [] (.ret (.fn F [] [.ptr 0 0])) [.box cells])(hp:cells.all AV.fJ=true):ak P G f args [] (.ret (.fn F [] [.iG cells])) []:=fun V vs hH hG hr =>
 (h V vs hH hG hr).mono fun e w' he=>by
  obtain⟨V',k1,k3,k4,k2,k5⟩:=he;have hH0:V'.H[0]?=some (.box cells):=by rw[k2];rfl
  have hVl:V.H.length=0:=by rw[hH];rfl
  have TR:V.w.heap.size<=V'.ρ 0:=by
   rcases k3.fresh 0 (by rw[k2];simp)with h|h
   .omega
   .exact h
  let V2:View:={ w:=V'.w,M:=fun b=>V'.M b/\b≠V'.ρ 0,H:=[],ρ:=V'.ρ };have fB:Step V V2:={
   os:=k3.os
   tape:=k3.tape
   output:=k3.output
   size:=k3.size
   drawn:=k3.drawn
   keep:=fun b hb hn=>⟨(k3.keep b hb hn).1,⟨fun h=>(k3.keep b hb hn).2.1 h.1,fun h=>⟨(k3.keep b hb hn).2.2 h,fun e=>zO⟩⟩⟩
   data:=fun b hb hn=>⟨(k3.data b hb hn).1,fun h=>(k3.data b hb hn).2 h.1⟩
   bL:=by rw[hVl];simp
   fresh:=fun i hi=>absurd hi (y24 _)
   eP:=fun i hi=>absurd hi zO }
  have hG2:aD G V2:={
   lt:=fun i hi=>absurd hi (y24 _)
   eP:=fun i ob ho=>by cases ho
   inj:=fun i j hi=>absurd hi (y24 _)
   gW:=fun i ob ho=>by cases ho
   ng:=hG.gD fB }
  refine⟨V2,k1,fB,hG2,rfl,?_⟩;cases e with
  |panicked _=>exact k5.elim
  |outgrown=>exact k5.elim
  |returned v =>
   obtain⟨bs,hr,hc⟩:=wD k4 hH0;have ap8:dR V2.w V2.M (.iG cells) (.pointer (some ⟨V'.ρ 0,0,none⟩)) :=
    dR.iG cells ⟨V'.ρ 0,0,none⟩ (fun j=>bs.getD j undef) rfl (fun _ h=>h.2 rfl) (fun j hj=>hc j hj) fun j hj=>by
     have hx:=hr.2 j hj;refine(kE ?_ hx).wI rfl (fun b h=>h.1);grind
   have key:∀us ws:List Value,us.length=0->ws.length=1->dI V' (.ptr 0 0) (ws.getD 0 undef)->dI V2 (.fn F [] [.iG cells]) (.func F us.toArray ws.toArray):=fun us ws h1 h2 h3=>by
    have h4:ws.getD 0 undef = .pointer (some ⟨V'.ρ 0,0,none⟩):=by
     exact(jr h3).2
    refine .pure _ _ (.fn F [] [.iG cells] us ws h1 h2 (fun j hj=>absurd hj (y24 _)) fun j hj=>?_)
    grind
   obtain⟨us,ws,rfl,hu,hb⟩:=yY k5;exact key us ws hu.1 hb.1 (hb.2 0 Nat.zero_lt_one)
end
end Go.Am
namespace Go.eY
open Go Go.Am Go.Proofs
noncomputable abbrev P:Program:=Tryz.prog
def gP(f:Nat):AV:=.lit (.func (.func f) #[] #[])
def iF:List (Value×AV) :=
 [(.int .i64 1,.agg [int 1,gP 400]),(.int .i64 2,.agg [int 1,gP 402]),(.int .i64 3,.agg [int 2,gP 404]),(.int .i64 4,.agg [int 2,gP 405]),
  (.int .i64 5,.agg [int 3,gP 406]),(.int .i64 6,.agg [int 4,gP 407]),(.int .i64 7,.agg [int 4,gP 408]),(.int .i64 8,.agg [int 4,gP 409])]
def oK:List (Value×AV) :=
 [(.int .i64 1,.agg [gP 354]),(.int .i64 2,.agg [gP 357]),(.int .i64 3,.agg [gP 359]),(.int .i64 4,.agg [gP 363]),
  (.int .i64 5,.agg [gP 365]),(.int .i64 6,.agg [gP 368]),(.int .i64 7,.agg [gP 371]),(.int .i64 8,.agg [gP 373])]
def atP:List Int:=[0,1,28,2,29,14,24,3,30,22,20,15,25,17,4,8,31,27,13,23,21,19,16,7,26,12,18,6,11,5,10,9]
def tab:List AV:=atP.map fun n=>.lit (.int .u8 n)
def G(g:Nat):Option (List AV):=if g=2 then some [gP 410]else if g=1 then some [.md false iF]else if g=0 then some [.md false oK]else if g=3 then some tab else none
abbrev Rq(n f k:Nat)(s:St)(ex:bF)(s':St):Prop:=bN P G none n (vg P f k) s ex s'
abbrev Cq(f:Nat)(a:List AV)(x:AV):Prop:=ak P G f a [] (.ret x) []
end Go.eY
