import Derived.OrdersIn
import Derived.RangeFuncIn
import Derived.WalkKit
import Derived.Laws.BytesArg
import Derived.Maps.Keyed
import Derived.Lib.BytesEntry
import Derived.Lib.SliceRun
import Derived.Laws.Externs
import Derived.Maps.RangeRun
import Derived.Laws.IdiomRangeMap
import Derived.Lib.ConvBytes
import Derived.RangeFuncCalls
import Derived.RangeFuncRecord
import Derived.RangeFuncLeaves
import Derived.ChangeSame
import Derived.ChangeStays
import Derived.Deep.Slices
import Derived.RowKit3
import Derived.Deep.DeepHandedRow
import Derived.RecoverIn
import Derived.KernelRfl
import Derived.Sort.Grow
import Derived.Deep.Draws
import Derived.Test.YtdacbkmlfcjcgaaGreatDoorProg
import Derived.ProofKit
import Derived.OpenShut
import Derived.LaidMore
import Derived.Maps.RangeWalk
import Derived.Lone
import Derived.RunT
import Derived.CallsIn
import Derived.Below
import Derived.Laws.Strings
import Derived.Shelf.Spec.SlicesInsertGrow
import Derived.DeepKeys4
import Derived.Shelf.SlSortCmp.WholeK
import Derived.Ground.SlsfProg
import Derived.Test.YtdacbkmlfcjcgaaGreatDoorChecked
import Derived.Shelf.Lay
import Derived.WalkLawsBesides
import Derived.Shelf.SlIter.Nil
import Derived.Shelf.SortM.Plain
import Derived.Shelf.SortM.SortNone
import Derived.Ground.GgzProg
import Derived.Ground.SlgmProg
set_option maxRecDepth 100000
set_option linter.unusedSimpArgs false
set_option linter.unusedVariables false
open List
noncomputable section
namespace Go
abbrev yP:=ByteArray
theorem yA.{u}{α:Type u}{l:List α}{i:Nat}h:l[i]? = some l[i]:=getElem?_eq_getElem h
theorem yB.{u}{α:Type u}{l:List α}{i}{a}:l.getD i a=l[i]?.getD a:=getD_eq_getElem?_getD
theorem yC.{u}{α:Type u}{i}{a}{l:List α}:l[i]? = some a↔∃h:i<l.length,l[i]=a:=List.getElem?_eq_some_iff
theorem yD.{u}{α:Type u}{s t:List α}:(s++t).length=s.length+t.length:=length_append
theorem yE.{u}{α:Type u}{a:α}{s}:(a::s).length=s.length+1:=length_cons
theorem yF.{u}{α:Type u}y{a:α}{l}(h:a∈l):a∈y::l:=mem_cons_of_mem y h
theorem yG.{u,v}{α:Type u}{β:Type v}{b:β}{f}{l:List α}:b∈l.map f↔∃a,a∈l∧f a=b:=mem_map
theorem yH.{u}{α:Type u}{b:α}{l}{a}:a∈b::l↔a=b∨a∈l:=mem_cons
theorem yI.{u}{α:Type u}{a}{s t:List α}:a∈s++t↔a∈s∨a∈t:=mem_append
theorem yJ.{u,v}{α:Sort u}{β:Sort v}{a b}(f:α→β)(h:a=b):f a=f b:=congrArg f h
theorem yK.{u}{c}{d:Decidable c}(h:¬c){α:Sort u}{t e:α}:(if c then t else e)=e:=if_neg h
theorem yL.{u}{c}{d:Decidable c}(h:c){α:Sort u}{t e:α}:(if c then t else e)=t:=if_pos h
theorem yM{n:Nat}:n≤n:=Nat.le_refl n
theorem yN{n}:0≤n:=Nat.zero_le n
theorem yO:True:=True.intro
variable {p:Prop}
theorem zO(h:p:=by omega):p:=h
theorem zQ(h:p:=by kernel_rfl):p:=h
theorem zS(h:p:=by simp):p:=h
theorem zD(h:p:=by decide):p:=h
theorem y00(b:Bool):b=true∨b=false:=Bool.eq_false_or_eq_true b
theorem y01.{u}{α:Type u}{i:Nat}{l:List α}(h:i<l.length):l.drop i=l[i]::l.drop (i+1):=List.drop_eq_getElem_cons h
theorem y02.{u}{α:Type u}{l:List α}(h:l.length=0):l=[]:=List.eq_nil_of_length_eq_zero h
theorem y03.{u}{α:Type u}{l:List α}{n:Nat}(h:n<l.length):l[n]∈l:=List.getElem_mem h
theorem y04(a b:Bool):((a&&b)=true)=(a=true∧b=true):=Bool.and_eq_true a b
theorem y05{p:Prop}[Decidable p]:(decide p=true)=p:=decide_eq_true_eq
theorem y06.{u}{α:Type u}(a b:α):(some a=some b)=(a=b):=Option.some.injEq a b
theorem y07{a b c:Nat}(h:a≤b)(k:b≤c):a≤c:=Nat.le_trans h k
theorem y08(a b:Nat):a<b∨a≥b:=Nat.lt_or_ge a b
theorem y09(n:Nat):0+n=n:=Nat.zero_add n
theorem y10.{u,v}{α:Type u}{β:Type v}{l:List α}(f:α→β):(l.map f).length=l.length:=List.length_map f
theorem y11.{u}{α:Type u}:([]:List α).length=0:=List.length_nil
theorem y12.{u}{α:Type u}{a:α}:¬a∈([]:List α):=List.not_mem_nil
theorem y13.{u}{α:Type u}(a b c:List α):a++b++c=a++(b++c):=List.append_assoc a b c
theorem y14.{u}{α:Type u}{l:List α}{i:Nat}(h:l.length≤i):l.drop i=[]:=List.drop_eq_nil_of_le h
theorem y15{p:Prop}[Decidable p](h:p):decide p=true:=decide_eq_true h
theorem y16{p:Prop}[Decidable p](h:¬p):decide p=false:=decide_eq_false h
theorem y17.{u}{α:Type u}{i:Nat}{l:List α}(h:l.length≤i):l.drop i=[]:=List.drop_of_length_le h
theorem y18.{u}{α:Type u}{i:Nat}{l:List α}:(l.take i).length=min i l.length:=List.length_take
theorem y19.{u}{α:Type u}(l:List α):l++[]=l:=List.append_nil l
theorem y20:(false=true)=False:=Bool.false_eq_true
theorem y21{a b c:Nat}(h:a<b)(k:b≤c):a<c:=Nat.lt_of_lt_of_le h k
theorem y22{a b:Nat}(k:Nat)(h:a≤b):a*k≤b*k:=Nat.mul_le_mul_right k h
theorem y23.{u}{α:Type u}{i:Nat}{l:List α}(h:l.length≤i):l.take i=l:=List.take_of_length_le h
theorem y24(n:Nat):¬n<0:=Nat.not_lt_zero n
theorem y25{a b:Nat}(h:a≤b):a<b∨a=b:=Nat.lt_or_eq_of_le h
theorem y26(n:Nat):(n:Int).toNat=n:=Int.toNat_natCast n
theorem y27{a b:Bool}(h:a=b):(!a)=(!b):=yJ Bool.not h
abbrev y28:=ByteArray.empty
end Go

namespace Go.Am
open Go
inductive AV where
 |lit (v:Value)
 |ptr (id off:Nat)
 |jC (id gen k j:Nat)
 |iG (cells:List AV)
 |sl (sz:Nat) (tight:Bool) (xs:List (List AV))
 |aU (id gen off len:Nat)
 |mp (id:Nat)
 |md (it:Bool) (es:List (Value×AV))
 |yl (id:Nat)
 |fn (f:Fn) (first captured:List AV)
 |qX (t:TypeId) (v:AV)
 |agg (cells:List AV)
 |bq (vs:List AV)
 |aP
instance:Inhabited AV:=⟨.aP⟩
inductive ah where
 |box (cells:List AV)
 |aN (gen sz:Nat) (fz:Bool) (xs:List (List AV))
 |map (es:List (Value×AV))
 |iV (st:LoopState) (pending:Option Code) (aL:List AV) (params:Array Tmp) (assign body:Code)
 |iter (cur:Option (Value×AV)) (left:List (Value×AV))
 |uE
 |aH
instance:Inhabited ah:=⟨.aH⟩
def uq(es:List (Value×AV))(j:Nat):AV:=(es.getD j (undef,.aP)).2
def gI(ents:List MapEntry)(j:Nat):Value:=(ents.getD j default).val
inductive dR(w:World)(M:Nat->Prop):AV->Value->Prop
 |lit (v:Value):dR w M (.lit v) v
 |iG (cs:List AV) (a:Addr) (vs:Nat->Value) (hs:a.spot=none) (hb:cs≠[]->¬M a.block)
  (hc:∀j,j<cs.length->w.cell? ⟨a.block,a.off+j,none⟩=some (vs j))
  (hr:∀j,j<cs.length->dR w M (cs.getD j .aP) (vs j)):dR w M (.iG cs) (.pointer (some a))
 |sl (sz:Nat) (tight:Bool) (xs:List (List AV)) (A:Option Addr) (cap b o:Nat) (vs:Nat->Nat->Value)
  (hA:xs≠[]->A=some ⟨b,o,none⟩) (hb:xs≠[]->sz≠0->¬M b) (pK:xs.length<=cap) (ht:tight=true->cap=xs.length)
  (iZ:∀x∈xs,x.length=sz)
  (hc:∀k j,k<xs.length->j<sz->w.cell? ⟨b,o+k*sz+j,none⟩=some (vs k j))
  (ho:∀k j,k<xs.length->j<sz->(vs k j).oneCell'=true)
  (hr:∀k j,k<xs.length->j<sz->dR w M ((xs.getD k []).getD j .aP) (vs k j)):dR w M (.sl sz tight xs) (.slice A xs.length cap)
 |md (it:Bool) (es uw:List (Value×AV)) (hp:uw.Perm es) (r:Nat) (ents:List MapEntry) (clock:Nat) (hb:¬M r) (hc:w.heap[r]?=some (.map ents.toArray clock))
  (hk:ents.map (·.key)=uw.map (·.1)) (hd:(uw.map (·.1)).Nodup) (hr:∀j,j<uw.length->dR w M (uq uw j) (gI ents j)) (Uo:it=true->(ents.map (·.born)).Nodup/\∀x∈ents,x.born<clock):dR w M (.md it es) (.map (some r))
 |agg (cs:List AV) (vs:List Value) (hl:vs.length=cs.length)
  (hr:∀j,j<cs.length->dR w M (cs.getD j .aP) (vs.getD j undef)):dR w M (.agg cs) (.agg vs.toArray)
 |bq (cs:List AV) (vs:List Value) (hl:vs.length=cs.length)
  (hr:∀j,j<cs.length->dR w M (cs.getD j .aP) (vs.getD j undef)):dR w M (.bq cs) (.tuple vs.toArray)
 |qX (t:TypeId) (x:AV) (v:Value) (hr:dR w M x v):dR w M (.qX t x) (.iface t v)
 |fn (f:Fn) (aZ bs:List AV) (us vs:List Value) (hu:us.length=aZ.length) (hv:vs.length=bs.length)
  (ha:∀j,j<aZ.length->dR w M (aZ.getD j .aP) (us.getD j undef))
  (hb:∀j,j<bs.length->dR w M (bs.getD j .aP) (vs.getD j undef)):dR w M (.fn f aZ bs) (.func f us.toArray vs.toArray)
structure View where
 w:World
 M:Nat->Prop
 H:List ah
 ρ:Nat->Nat
def qR(V:View)(id sz off len:Nat)(v:Value):Prop :=
 ∃A cap c t,v = .slice A len cap/\(cap≠0->A=some ⟨V.ρ id,off*sz,none⟩)/\len<=cap/\cap<=maxLen/\V.w.heap[V.ρ id]?=some (.cells c t (0,0))/\(off+cap)*sz=c.size
def qJ(V:View)(id gen off len:Nat)(v:Value):Prop :=
 v.oneCell'=true/\match V.H[id]? with
 |some (.aN g sz _ _)=>gen<=g/\(gen=g->qR V id sz off len v)
 |some .aH=>True
 |_=>False
def rO(V:View)(id gen k j:Nat)(v:Value):Prop :=
 v.oneCell'=true/\match V.H[id]? with
 |some (.aN g sz _ _)=>gen<=g/\(gen=g->v = .pointer (some ⟨V.ρ id,k*sz+j,none⟩))
 |some .aH=>True
 |_=>False
def ah.vR:ah->Bool
 |.box _|.iter ..|.aH=>true
 |_=>false
def ah.FI:ah->Bool
 |.map _|.aH=>true
 |_=>false
def ah.FJ:ah->Bool
 |.iV ..|.aH=>true
 |_=>false
def bY(f:ah->Bool)(V:View)(id:Nat):Prop:=∃o,V.H[id]?=some o/\f o=true
inductive dI(V:View):AV->Value->Prop
 |pure (x:AV) (v:Value) (h:dR V.w V.M x v):dI V x v
 |aP (v:Value):dI V .aP v
 |ptr (id off:Nat) (h:bY ah.vR V id):dI V (.ptr id off) (.pointer (some ⟨V.ρ id,off,none⟩))
 |jC (id gen k j:Nat) (v:Value) (h:rO V id gen k j v):dI V (.jC id gen k j) v
 |aU (id gen off len:Nat) (v:Value) (h:qJ V id gen off len v):dI V (.aU id gen off len) v
 |mp (id:Nat) (h:bY ah.FI V id):dI V (.mp id) (.map (some (V.ρ id)))
 |yl (id:Nat) (h:bY ah.FJ V id):dI V (.yl id) (.func (.yield (V.ρ id)) #[] #[])
 |agg (cs:List AV) (vs:List Value) (hl:vs.length=cs.length)
  (hr:∀j,j<cs.length->dI V (cs.getD j .aP) (vs.getD j undef)):dI V (.agg cs) (.agg vs.toArray)
 |bq (cs:List AV) (vs:List Value) (hl:vs.length=cs.length)
  (hr:∀j,j<cs.length->dI V (cs.getD j .aP) (vs.getD j undef)):dI V (.bq cs) (.tuple vs.toArray)
 |qX (t:TypeId) (x:AV) (v:Value) (hr:dI V x v):dI V (.qX t x) (.iface t v)
 |fn (f:Fn) (aZ bs:List AV) (us vs:List Value) (hu:us.length=aZ.length) (hv:vs.length=bs.length)
  (ha:∀j,j<aZ.length->dI V (aZ.getD j .aP) (us.getD j undef))
  (hb:∀j,j<bs.length->dI V (bs.getD j .aP) (vs.getD j undef)):dI V (.fn f aZ bs) (.func f us.toArray vs.toArray)
def bR(V:View)(xs:List AV)(vs:List Value):Prop:=vs.length=xs.length/\∀j,j<xs.length->dI V (xs.getD j .aP) (vs.getD j undef)
structure Nk(w:World)(M:Nat->Prop)(bm since:Nat)(seen:Array Nat)(c0:Nat)(ents:List MapEntry)(clock:Nat)(es:List (Value×AV))(idx:List Nat)(cur:Option (Value×AV))(left:List (Value×AV)):Prop where
 data:¬M bm
 map:w.heap[bm]?=some (.map ents.toArray clock)
 key:ents.map (·.key)=es.map (·.1)
 born:(ents.map (·.born)).Nodup
 old:∀x∈ents,x.born<since
 sn:since<=c0
 sc:since<=clock
 val:∀j,j<es.length->dR w M (uq es j) (gI ents j)
 nd:idx.Nodup
 ix:∀i,i∈idx↔i<ents.length/\seen.contains (ents.getD i default).born=false
 lf:(idx.map fun i=>es.getD i (undef,.aP)).Perm left
 cu:∀e,cur=some e->c0=clock/\∃i seen',i<ents.length/\seen=Array.push seen' (ents.getD i default).born/\es.getD i (undef,.aP)=e
def fZ(V:View)(b:Nat):ah->Prop
 |.box cells=>∃t vs,V.w.heap[b]?=some (.cells (toArray vs) t (0,0))/\bR V cells vs
 |.aN _ sz _ xs=>∃t c,V.w.heap[b]?=some (.cells c t (0,0))/\xs.length*sz<=c.size/\(∀x∈xs,x.length=sz) /\
  ∀k j,k<xs.length->j<sz->∃v,c[k*sz+j]?=some v/\v.oneCell'=true/\dI V ((xs.getD k []).getD j .aP) v
 |.map es=>∃ents clock,V.w.heap[b]?=some (.map (toArray ents) clock)/\ents.map (·.key)=es.map (·.1)/\(es.map (·.1)).Nodup/\ents.map (·.born)=List.range ents.length/\clock=ents.length /\
  ∀j,j<es.length->dI V (uq es j) (gI ents j)
 |.iV st pending aL params assign body=>∃fn vs D,V.w.heap[b]?=some (.loop { state:=st,pending:=pending,fn:=fn,tmps:=toArray vs,params:=params,assign:=assign,body:=body,defers:=D })/\bR V aL vs
 |.iter cur left=>∃bm since seen c0 ents clock es idx,V.w.heap[b]?=some (.mapIter (some bm) since seen c0)/\Nk V.w V.M bm since seen c0 ents clock es idx cur left
 |.uE=>V.w.heap[b]?=some (.deferred (some []))
 |.aH=>True
def ah.open_:ah->Bool
 |.aN _ _ fz _=>!fz
 |.aH=>false
 |_=>true
structure aD(G:Nat->Option (List AV))(V:View):Prop where
 lt:∀id,id<V.H.length->V.ρ id<V.w.heap.size
 eP:∀id o,V.H[id]?=some o->fZ V (V.ρ id) o
 inj:∀i j,i<V.H.length->j<V.H.length->V.ρ i=V.ρ j->i=j
 gW:∀id o,V.H[id]?=some o->o.open_=true->V.M (V.ρ id)
 ng:∀g cs,G g=some cs->dR V.w V.M (.iG cs) (.pointer (some ⟨g,0,none⟩))
def dL(V V':View)(id:Nat):Prop :=
 match V.H[id]?,V'.H[id]? with
 |some (.aN g sz _ _),some (.aN g' sz' _ _)=>g<g'\/(g=g'/\sz=sz'/\V'.ρ id=V.ρ id/\∀c t fr,V.w.heap[V.ρ id]?=some (.cells c t fr)->∃c',V'.w.heap[V.ρ id]?=some (.cells c' t fr)/\c'.size=c.size)
 |some (.box _),some (.box _)=>V'.ρ id=V.ρ id
 |some (.map _),some (.map _)=>V'.ρ id=V.ρ id
 |some (.iV ..),some (.iV ..)=>V'.ρ id=V.ρ id
 |some (.iter ..),some (.iter ..)=>V'.ρ id=V.ρ id
 |some .uE,some .uE=>V'.ρ id=V.ρ id
 |some (.aN ..),some .aH=>True
 |some _,some .aH=>V'.ρ id=V.ρ id
 |_,_=>False
structure Step(V V':View):Prop where
 os:V'.w.os=V.w.os
 tape:V'.w.tape=V.w.tape
 output:V'.w.output=V.w.output
 size:V.w.heap.size<=V'.w.heap.size
 drawn:V.w.drawn<=V'.w.drawn
 keep:∀b,b<V.w.heap.size->(∀id,id<V.H.length->V.ρ id≠b)->V'.w.heap[b]?=V.w.heap[b]?/\(V'.M b↔V.M b)
 data:∀b,b<V.w.heap.size->¬V.M b->V'.w.heap[b]?=V.w.heap[b]?/\¬V'.M b
 bL:V.H.length<=V'.H.length
 fresh:∀id,id<V'.H.length->(id<V.H.length/\V'.ρ id=V.ρ id)\/V.w.heap.size<=V'.ρ id
 eP:∀id,id<V.H.length->dL V V' id
variable {w:World}
theorem M7{b o}{v}(h:w.cell? ⟨b,o,none⟩=some v):b<w.heap.size:=World.block_lt_of_cell? w _ h
variable {w':World}
theorem cell_of_heap{b o}(h:w'.heap[b]?=w.heap[b]?):w'.cell? ⟨b,o,none⟩=w.cell? ⟨b,o,none⟩:=by simp[World.cell?,h]
theorem dR.step{w w'}{M M'}(hd:∀b,b<w.heap.size->¬M b->w'.heap[b]?=w.heap[b]?/\¬M' b){x}{v}(h:dR w M x v):dR w' M' x v:=by
 induction h with
 |lit v=>exact .lit v
 |iG cs a vs hs hb hc _ ih =>
  by_cases hn:cs=[]
  .subst hn;exact .iG [] a vs hs (fun h=>absurd rfl h) (fun j hj=>absurd hj zS) (fun j hj=>absurd hj zS)
  .have qh:=length_pos_iff.2 hn;have bg:=M7 (hc 0 qh);have:=hd a.block bg (hb hn);exact .iG cs a vs hs (fun _=>this.2) (fun j hj=>(cell_of_heap this.1).trans (hc j hj)) ih
 |sl sz tight xs A cap b o vs hA hb pK ht iZ hc ho _ ih =>
  by_cases hn:xs=[]
  .subst hn;exact .sl sz tight [] A cap b o vs hA (fun h=>absurd rfl h) pK ht iZ (fun k j hk=>absurd hk zS) (fun k j hk=>absurd hk zS) (fun k j hk=>absurd hk zS)
  .by_cases hz:sz=0
   .subst hz;exact .sl 0 tight xs A cap b o vs hA (fun _ h=>absurd rfl h) pK ht iZ (fun k j _ hj=>absurd hj zO) (fun k j _ hj=>absurd hj zO) (fun k j _ hj=>absurd hj zO)
   .have qh:=length_pos_iff.2 hn;have bg:=M7 (hc 0 0 qh zO);have:=hd b bg (hb hn hz);exact .sl sz tight xs A cap b o vs hA (fun _ _=>this.2) pK ht iZ (fun k j hk hj=>(cell_of_heap this.1).trans (hc k j hk hj)) ho ih
 |md it es uw hp r ents clock hb hc hk GL _ Uo ih =>
  have bg:=(Array.getElem?_eq_some_iff.1 hc).1;have:=hd r bg hb;exact .md it es uw hp r ents clock this.2 (this.1.trans hc) hk GL ih Uo
 |agg cs vs hl _ ih=>exact .agg cs vs hl ih
 |bq cs vs hl _ ih=>exact .bq cs vs hl ih
 |qX t x v _ ih=>exact .qX t x v ih
 |fn f aZ bs us vs hu hv _ _ iha ihb=>exact .fn f aZ bs us vs hu hv iha ihb
theorem Nk.step{w w'}{M M'}(hd:∀b,b<w.heap.size->¬M b->w'.heap[b]?=w.heap[b]?/\¬M' b){bm since}{seen}{c0}{ents}{clock}{es}{idx}{cur}{left}(h:Nk w M bm since seen c0 ents clock es idx cur left):Nk w' M' bm since seen c0 ents clock es idx cur left :=
 have bg:=(Array.getElem?_eq_some_iff.1 h.map).1;have k:=hd bm bg h.data
 { h with data:=k.2,map:=k.1.trans h.map,val:=fun j hj=>(h.val j hj).step hd }
theorem dR.Da{V V'}(hs:Step V V'){x}{v}(h:dR V.w V.M x v):dR V'.w V'.M x v:=h.step hs.data
theorem qJ.step{V V'}(hs:Step V V'){id gen off len}{v}(h:qJ V id gen off len v):qJ V' id gen off len v:=by
 have bg:id<V.H.length:=by
  unfold qJ at h;grind
 have ho:=hs.eP id bg;refine⟨h.1,?_⟩;have h:=h.2;unfold dL at ho;cases hH:V.H[id]? with
 |none=>simp[hH]at h
 |some o =>
  rw[hH]at h ho;cases Dq:V'.H[id]? with
  |none=>grind
  |some o' =>
   rw[Dq]at ho;cases o<;>cases o'<;>simp only at h ho|-<;> try exact ho.elim
   case aN.aN g sz fz xs g' sz' fz' r9 =>
    obtain⟨uQ,zq⟩:=h;rcases ho with oL|⟨rfl,rfl,hρ,ala⟩
    .exact ⟨zO,fun e=>absurd e zO⟩
    .refine ⟨uQ,fun e=>?_⟩;obtain⟨A,cap,c,t,hv,h0,h1,h2,h3,h4⟩:=zq e;obtain⟨c',hc',iZ⟩:=ala c t _ h3;exact⟨A,cap,c',t,hv,by rw[hρ];exact h0,h1,h2,by rw[hρ];exact hc',by rw[iZ];exact h4⟩
theorem rO.step{V V'}(hs:Step V V'){id gen k j}{v}(h:rO V id gen k j v):rO V' id gen k j v:=by
 have bg:id<V.H.length:=by
  unfold rO at h;grind
 have ho:=hs.eP id bg;unfold rO at h |-;unfold dL at ho;grind
theorem bY.lt{f}{V}{id}(h:bY f V id):id<V.H.length:=by
 obtain⟨o,ho,_⟩:=h;grind
theorem bY.step{V V'}(hs:Step V V'){f}(hg:f .aH=true)(ha:∀g sz fz xs,f (.aN g sz fz xs)=false)(hbx:f (.box [])=true->∀c,f (.box c)=true)(Uo:f (.box [])=false->∀c,f (.box c)=false)(Pf:∀a b,f (.map a)=f (.map b))(hrx:∀s p e q a b s' p' e' q' a' b',f (.iV s p e q a b)=f (.iV s' p' e' q' a' b'))(hix:∀c l c' l',f (.iter c l)=f (.iter c' l')){id}(h:bY f V id):bY f V' id/\V'.ρ id=V.ρ id:=by
 have bg:=h.lt;obtain⟨o,hH,hf⟩:=h;have ho:=hs.eP id bg;unfold dL at ho;rw[hH]at ho;cases Dq:V'.H[id]? with
 |none=>grind
 |some o' =>
  rw[Dq]at ho;cases o<;>cases o'<;>simp only at ho<;>first
   |exact ho.elim
   |(rw[ha]at hf;cases hf)
   |exact⟨⟨_,Dq,hg⟩,ho⟩
   |exact⟨⟨_,Dq,(Pf _ _).trans hf⟩,ho⟩
   |exact⟨⟨_,Dq,(hrx _ _ _ _ _ _ _ _ _ _ _ _).trans hf⟩,ho⟩
   |exact⟨⟨_,Dq,(hix _ _ _ _).trans hf⟩,ho⟩
   | (refine ⟨⟨_,Dq,?_⟩,ho⟩
      cases Ti:f (.box [])with
      |true=>exact hbx Ti _
      |false=>rw[Uo Ti]at hf;cases hf)
   |exact⟨⟨_,Dq,hf⟩,ho⟩
theorem R4{V V'}(hs:Step V V'){id}(h:bY ah.vR V id):bY ah.vR V' id/\V'.ρ id=V.ρ id :=
 h.step hs rfl (fun _ _ _ _=>rfl) (fun _ _=>rfl) (fun h=>absurd h (by simp[ah.vR])) (fun _ _=>rfl) (fun _ _ _ _ _ _ _ _ _ _ _ _=>rfl) (fun _ _ _ _=>rfl)
theorem R5{V V'}(hs:Step V V'){id}(h:bY ah.FI V id):bY ah.FI V' id/\V'.ρ id=V.ρ id :=
 h.step hs rfl (fun _ _ _ _=>rfl) (fun h=>absurd h (by simp[ah.FI])) (fun _ _=>rfl) (fun _ _=>rfl) (fun _ _ _ _ _ _ _ _ _ _ _ _=>rfl) (fun _ _ _ _=>rfl)
theorem Ca{V V'}(hs:Step V V'){id}(h:bY ah.FJ V id):bY ah.FJ V' id/\V'.ρ id=V.ρ id :=
 h.step hs rfl (fun _ _ _ _=>rfl) (fun h=>absurd h (by simp[ah.FJ])) (fun _ _=>rfl) (fun _ _=>rfl) (fun _ _ _ _ _ _ _ _ _ _ _ _=>rfl) (fun _ _ _ _=>rfl)
theorem dI.step{V V'}(hs:Step V V'){x}{v}(h:dI V x v):dI V' x v:=by
 induction h with
 |pure x v h=>exact .pure x v (h.Da hs)
 |aP v=>exact .aP v
 |ptr id off h=>obtain⟨h1,h2⟩:=R4 hs h;rw[<- h2];exact .ptr id off h1
 |jC id gen k j v h=>exact .jC id gen k j v (h.step hs)
 |aU id gen off len v h=>exact .aU id gen off len v (h.step hs)
 |mp id h=>obtain⟨h1,h2⟩:=R5 hs h;rw[<- h2];exact .mp id h1
 |yl id h=>obtain⟨h1,h2⟩:=Ca hs h;rw[<- h2];exact .yl id h1
 |agg cs vs hl _ ih=>exact .agg cs vs hl ih
 |bq cs vs hl _ ih=>exact .bq cs vs hl ih
 |qX t x v _ ih=>exact .qX t x v ih
 |fn f aZ bs us vs hu hv _ _ iha ihb=>exact .fn f aZ bs us vs hu hv iha ihb
theorem bR.step{V V'}(hs:Step V V'){xs}{vs}(h:bR V xs vs):bR V' xs vs:=⟨h.1,fun j hj=>(h.2 j hj).step hs⟩
theorem fZ.step{V V'}(hs:Step V V'){b}{o}(hb:V'.w.heap[b]?=V.w.heap[b]?)(h:fZ V b o):fZ V' b o:=by
 cases o with
 |box cells=>obtain⟨t,vs,h1,h2⟩:=h;exact⟨t,vs,hb.trans h1,h2.step hs⟩
 |aN g sz fz xs =>
  obtain⟨t,c,h1,h2,h3,h4⟩:=h;exact⟨t,c,hb.trans h1,h2,h3,fun k j hk hj=>let ⟨v,hv,h1,hr⟩:=h4 k j hk hj;⟨v,hv,h1,hr.step hs⟩⟩
 |map es=>obtain⟨ents,clock,h1,h2,h3,h4,h5,h6⟩:=h;exact⟨ents,clock,hb.trans h1,h2,h3,h4,h5,fun j hj=>(h6 j hj).step hs⟩
 |iV st p aL ps aZ bd=>obtain⟨fn,vs,D,h1,h2⟩:=h;exact⟨fn,vs,D,hb.trans h1,h2.step hs⟩
 |iter cur left =>
  obtain⟨bm,since,seen,c0,ents,clock,es,idx,h1,h2⟩:=h;exact⟨bm,since,seen,c0,ents,clock,es,idx,hb.trans h1,h2.step hs.data⟩
 |uE=>exact hb.trans h
 |aH=>trivial
theorem dL.refl{V V'}{id}(bg:id<V.H.length)(hH:V'.H[id]?=V.H[id]?)(hρ:V'.ρ id=V.ρ id)(hw:V'.w.heap[V.ρ id]?=V.w.heap[V.ρ id]?):dL V V' id:=by
 unfold dL;rw[hH];cases ho:V.H[id]? with
 |none=>exact absurd (List.getElem?_eq_none_iff.1 ho) zO
 |some o =>
  cases o<;>simp only<;>first|exact hρ|exact .inr ⟨yO,yO,hρ,fun c t fr hc=>⟨c,hw.trans hc,rfl⟩⟩
theorem Step.refl V:Step V V :=
 ⟨rfl,rfl,rfl,yM,yM,fun _ _ _=>⟨rfl,Iff.rfl⟩,fun _ _ h=>⟨rfl,h⟩,yM,fun _ h=>.inl ⟨h,rfl⟩,fun _ h=>.refl h rfl rfl rfl⟩
theorem dL.trans{V V' Xn}{id}(h:dL V V' id)(h':dL V' Xn id):dL V Xn id:=by
 unfold dL at *;cases h1:V.H[id]? with
 |none=>simp[h1]at h
 |some o1 =>
  cases h2:V'.H[id]? with
  |none=>grind
  |some o2 =>
   cases h3:Xn.H[id]? with
   |none=>grind
   |some o3 =>
    rw[h1,h2]at h;rw[h2,h3]at h';cases o1<;>cases o2<;>simp only at h<;>first
     |exact h.elim
     |(cases o3<;>simp only at h'|-<;> first
      |exact h'.elim
      |exact h'.trans h
      |trivial
      |skip)
    grind
theorem Step.trans{V V' Xn}(h:Step V V')(h':Step V' Xn):Step V Xn where
 os:=h'.os.trans h.os
 tape:=h'.tape.trans h.tape
 output:=h'.output.trans h.output
 size:=y07 h.size h'.size
 drawn:=y07 h.drawn h'.drawn
 keep b hb hn:=by
  obtain⟨a1,a2⟩:=h.keep b hb hn;have:=h'.keep b (y21 hb h.size) (fun id dU e=>by
   rcases h.fresh id dU with⟨hl,hρ⟩|Ct
   .exact hn id hl (hρ▸e)
   .omega)
  grind
 data b hb hn:=by
  obtain⟨a1,a2⟩:=h.data b hb hn;obtain⟨b1,b2⟩:=h'.data b (y21 hb h.size) a2;grind
 bL:=y07 h.bL h'.bL
 fresh id dU:=by
  rcases h'.fresh id dU with⟨hl,hρ⟩|Ct
  .rcases h.fresh id hl with⟨EJ,aoA⟩|Ct
   .omega
   .omega
  .exact .inr (y07 h.size Ct)
 eP id dU:=(h.eP id dU).trans (h'.eP id (y21 dU h.bL))
mutual
def AV.jv(σ:Nat->Nat):AV->AV
 |.lit v=>.lit v
 |.ptr id off=>.ptr (σ id) off
 |.jC id g k j=>.jC (σ id) g k j
 |.iG cs=>.iG cs
 |.sl sz t xs=>.sl sz t xs
 |.aU id g off len=>.aU (σ id) g off len
 |.mp id=>.mp (σ id)
 |.md it es=>.md it es
 |.yl id=>.yl (σ id)
 |.fn f aZ bs=>.fn f (AV.kH σ aZ) (AV.kH σ bs)
 |.qX t x=>.qX t (x.jv σ)
 |.agg cs=>.agg (AV.kH σ cs)
 |.bq cs=>.bq (AV.kH σ cs)
 |.aP=>.aP
def AV.kH(σ:Nat->Nat):List AV->List AV
 |[]=>[]
 |x::xs=>x.jv σ::AV.kH σ xs
end
mutual
def AV.bP(n:Nat):AV->Bool
 |.ptr id _|.jC id _ _ _|.aU id _ _ _|.mp id|.yl id=>Nat.blt id n
 |.fn _ aZ bs=>AV.gH n aZ&&AV.gH n bs
 |.qX _ x=>x.bP n
 |.agg cs|.bq cs=>AV.gH n cs
 |_=>true
def AV.gH(n:Nat):List AV->Bool
 |[]=>true
 |x::xs=>x.bP n&&AV.gH n xs
end
def ah.jv(σ:Nat->Nat):ah->ah
 |.box cs=>.box (AV.kH σ cs)
 |.aN g sz fz xs=>.aN g sz fz (xs.map (AV.kH σ))
 |.map es=>.map (es.map fun e=>(e.1,e.2.jv σ))
 |.iV st p aL ps aZ bd=>.iV st p (AV.kH σ aL) ps aZ bd
 |.iter c l=>.iter c l
 |.uE=>.uE
 |.aH=>.aH
def ah.bP(n:Nat):ah->Prop
 |.box cs=>AV.gH n cs=true
 |.aN _ _ _ xs=>∀x∈xs,AV.gH n x=true
 |.map es=>∀e∈es,e.2.bP n=true
 |.iV _ _ aL _ _ _=>AV.gH n aL=true
 |_=>True
theorem bD σ:∀xs:List AV,(AV.kH σ xs).length=xs.length
 |[]=>by simp[AV.kH]
 |x::xs=>by simp[AV.kH,bD σ xs]
theorem fH σ:∀ xs(j:Nat),(AV.kH σ xs).getD j .aP=(xs.getD j .aP).jv σ
 |[],j=>by simp[AV.kH,AV.jv]
 |x::xs,0=>by simp[AV.kH]
 |x::xs,j+1=>by simpa[AV.kH]using fH σ xs j
theorem fq{n}:∀{xs}j,AV.gH n xs=true->j<xs.length->(xs.getD j .aP).bP n=true
 |[],j,_,hj=>absurd hj zS
 |x::xs,0,h,_=>by simp[AV.gH]at h;grind
 |x::xs,j+1,h,hj=>by simp[AV.gH]at h;simpa using fq j h.2 (by simpa using hj)
structure Lk(V1 V2:View)(σ:Nat->Nat):Prop where
 w:V2.w=V1.w
 M:∀b,V2.M b↔V1.M b
 ρ:∀i,i<V1.H.length->V2.ρ (σ i)=V1.ρ i
 eP:∀i o,V1.H[i]?=some o->V2.H[σ i]?=some (o.jv σ)
theorem dR.wI{w w'}{M M'}(hw:w'=w)(hM:∀b,M' b->M b){x}{v}(h:dR w M x v):dR w' M' x v:=by
 subst hw;exact h.step fun b _ hn=>⟨rfl,fun hm=>hn (hM b hm)⟩
section
variable {V1 V2:View} {σ:Nat->Nat} (hk:Lk V1 V2 σ)
 include hk
theorem bY.PE{f}(hf:∀o,f (ah.jv σ o)=f o){id}(h:bY f V1 id):bY f V2 (σ id)/\V2.ρ (σ id)=V1.ρ id:=by
 have bg:=h.lt;obtain⟨o,ho,Z8⟩:=h;exact⟨⟨_,hk.eP id o ho,(hf o).trans Z8⟩,hk.ρ id bg⟩
theorem bY.Kv{f}(hf:∀o,f (ah.jv σ o)=f o){id}(bg:id<V1.H.length)(h:bY f V2 (σ id)):bY f V1 id/\V2.ρ (σ id)=V1.ρ id:=by
 obtain⟨o,ho,Z8⟩:=h;have hg:=yA bg;have:=hk.eP id _ hg;rw[ho]at this;injection this with e;exact⟨⟨_,hg,by rw[<- hf,<- e];exact Z8⟩,hk.ρ id bg⟩
omit hk in
theorem KW(o:ah):ah.vR (o.jv σ)=o.vR:=by cases o<;>rfl
omit hk in
theorem KX(o:ah):ah.FI (o.jv σ)=o.FI:=by cases o<;>rfl
omit hk in
theorem KY(o:ah):ah.FJ (o.jv σ)=o.FJ:=by cases o<;>rfl
omit hk in
theorem Jb(o:ah):ah.open_ (o.jv σ)=o.open_:=by cases o<;>rfl
theorem qR.iff{id sz off len}{v}(bg:id<V1.H.length):qR V2 (σ id) sz off len v↔qR V1 id sz off len v:=by
 unfold qR;rw[hk.ρ id bg,hk.w]
theorem qJ.iff{id gen off len}{v}(bg:id<V1.H.length):qJ V2 (σ id) gen off len v↔qJ V1 id gen off len v:=by
 have hg:=yA bg;have h2:=hk.eP id _ hg;unfold qJ;rw[h2,hg];cases V1.H[id]<;>simp only[ah.jv]
 rw[qR.iff hk bg]
theorem rO.iff{id gen k j}{v}(bg:id<V1.H.length):rO V2 (σ id) gen k j v↔rO V1 id gen k j v:=by
 have hg:=yA bg;have h2:=hk.eP id _ hg;unfold rO;rw[h2,hg];cases V1.H[id]<;>simp only[ah.jv]
 rw[hk.ρ id bg]
omit hk in
theorem qJ.lt{V:View}{id gen off len:Nat}{v:Value}(h:qJ V id gen off len v):id<V.H.length:=by
 unfold qJ at h;rcases y08 id V.H.length with hl|hl
 .exact hl
 .rw [getElem?_eq_none hl]at h;exact h.2.elim
omit hk in
theorem rO.lt{V:View}{id gen k j:Nat}{v:Value}(h:rO V id gen k j v):id<V.H.length:=by
 unfold rO at h;rcases y08 id V.H.length with hl|hl
 .exact hl
 .rw [getElem?_eq_none hl]at h;exact h.2.elim
theorem dI.R6{y}{v}(h:dR V1.w V1.M y v):dI V2 (y.jv σ) v:=by
 induction h with
 |lit v=>exact .pure _ _ (.lit v)
 |iG cs a vs hs hb hc hr _=>exact .pure _ _ ((dR.iG cs a vs hs hb hc hr).wI hk.w fun b=>(hk.M b).1)
 |sl sz t xs A cap b o vs hA hb pK ht iZ hc ho hr _=>exact .pure _ _ ((dR.sl sz t xs A cap b o vs hA hb pK ht iZ hc ho hr).wI hk.w fun b=>(hk.M b).1)
 |md it es uw hp r ents clock hb hc hkk hd hr Uo _=>exact .pure _ _ ((dR.md it es uw hp r ents clock hb hc hkk hd hr Uo).wI hk.w fun b=>(hk.M b).1)
 |agg cs vs hl _ ih=>exact .agg _ vs (by rw[bD];exact hl) fun j hj=>by rw[fH];exact ih j (by rw[bD]at hj;exact hj)
 |bq cs vs hl _ ih=>exact .bq _ vs (by rw[bD];exact hl) fun j hj=>by rw[fH];exact ih j (by rw[bD]at hj;exact hj)
 |qX t x v _ ih=>exact .qX t _ v ih
 |fn f aZ bs us vs hu hv _ _ iha ihb =>
  exact .fn f _ _ us vs (by rw[bD];exact hu) (by rw[bD];exact hv)
   (fun j hj=>by rw[fH];exact iha j (by rw[bD]at hj;exact hj)) (fun j hj=>by rw[fH];exact ihb j (by rw[bD]at hj;exact hj))
theorem dI.PE{x}{v}(h:dI V1 x v):dI V2 (x.jv σ) v:=by
 induction h with
 |pure x v h=>exact dI.R6 hk h
 |aP v=>exact .aP v
 |ptr id off h=>obtain⟨h1,h2⟩:=bY.PE hk KW h;rw[<- h2];exact .ptr _ off h1
 |jC id g k j v h=>exact .jC _ g k j v ((rO.iff hk h.lt).2 h)
 |aU id g off len v h=>exact .aU _ g off len v ((qJ.iff hk h.lt).2 h)
 |mp id h=>obtain⟨h1,h2⟩:=bY.PE hk KX h;rw[<- h2];exact .mp _ h1
 |yl id h=>obtain⟨h1,h2⟩:=bY.PE hk KY h;rw[<- h2];exact .yl _ h1
 |agg cs vs hl _ ih=>exact .agg _ vs (by rw[bD];exact hl) fun j hj=>by rw[fH];exact ih j (by rw[bD]at hj;exact hj)
 |bq cs vs hl _ ih=>exact .bq _ vs (by rw[bD];exact hl) fun j hj=>by rw[fH];exact ih j (by rw[bD]at hj;exact hj)
 |qX t x v _ ih=>exact .qX t _ v ih
 |fn f aZ bs us vs hu hv _ _ iha ihb =>
  exact .fn f _ _ us vs (by rw[bD];exact hu) (by rw[bD];exact hv)
   (fun j hj=>by rw[fH];exact iha j (by rw[bD]at hj;exact hj)) (fun j hj=>by rw[fH];exact ihb j (by rw[bD]at hj;exact hj))
theorem dI.aoB{y}{v}(h:dR V2.w V2.M y v):∀x,y=x.jv σ->x.bP V1.H.length=true->dI V1 x v:=by
 have hw':=hk.w.symm;have hM':∀b,V1.M b->V2.M b:=fun b=>(hk.M b).2
 induction h with
 |lit v=>intro x hx _;cases x<;>simp only[AV.jv]at hx<;>first|(cases hx;done)|(injection hx with e;subst e;exact .pure _ _ (.lit _))
 |iG cs a vs hs hb hc hr _=>intro x hx _;cases x<;>simp only[AV.jv]at hx<;>first|(cases hx;done)|(injection hx with e;subst e;exact .pure _ _ ((dR.iG _ a vs hs hb hc hr).wI hw' hM'))
 |sl sz t xs A cap b o vs hA hb pK ht iZ hc ho hr _ =>
  intro x hx _;cases x<;>simp only[AV.jv]at hx<;>first|(cases hx;done)|(injection hx with e1 e2 e3;subst e1 e2 e3;exact .pure _ _ ((dR.sl _ _ _ A cap b o vs hA hb pK ht iZ hc ho hr).wI hw' hM'))
 |md it es uw hp r ents clock hb hc hkk hd hr Uo _ =>
  intro x hx _;cases x<;>simp only[AV.jv]at hx<;>first|(cases hx;done)|(injection hx with e1 e2;subst e1 e2;exact .pure _ _ ((dR.md _ _ uw hp r ents clock hb hc hkk hd hr Uo).wI hw' hM'))
 |agg cs vs hl _ ih =>
  intro x hx hi;cases x<;>simp only[AV.jv]at hx<;>first|(cases hx;done)|skip
  injection hx with e;subst e;simp only[AV.bP]at hi;rw[bD]at hl;exact .agg _ vs hl fun j hj=>ih j (by rw[bD];exact hj) _ (fH σ _ j) (fq j hi hj)
 |bq cs vs hl _ ih =>
  intro x hx hi;cases x<;>simp only[AV.jv]at hx<;>first|(cases hx;done)|skip
  injection hx with e;subst e;simp only[AV.bP]at hi;rw[bD]at hl;exact .bq _ vs hl fun j hj=>ih j (by rw[bD];exact hj) _ (fH σ _ j) (fq j hi hj)
 |qX t x v _ ih =>
  intro x hx hi;cases x<;>simp only[AV.jv]at hx<;>first|(cases hx;done)|skip
  injection hx with e1 e2;subst e1 e2;simp only[AV.bP]at hi;exact .qX _ _ v (ih _ rfl hi)
 |fn f aZ bs us vs hu hv _ _ iha ihb =>
  intro x hx hi;cases x<;>simp only[AV.jv]at hx<;>first|(cases hx;done)|skip
  injection hx with e1 e2 e3;subst e1 e2 e3;simp only[AV.bP,y04]at hi;rw[bD]at hu hv;exact .fn _ _ _ us vs hu hv (fun j hj=>iha j (by rw[bD];exact hj) _ (fH σ _ j) (fq j hi.1 hj))
   (fun j hj=>ihb j (by rw[bD];exact hj) _ (fH σ _ j) (fq j hi.2 hj))
theorem dI.Kv{y:AV}{v:Value}(h:dI V2 y v):∀x,y=x.jv σ->x.bP V1.H.length=true->dI V1 x v:=by
 induction h with
 |pure y v h=>exact dI.aoB hk h
 |aP v=>intro x hx _;cases x<;>simp only[AV.jv]at hx<;>first|(cases hx;done)|exact .aP v
 |ptr id off h =>
  intro x hx hi;cases x<;>simp only[AV.jv]at hx<;>first|(cases hx;done)|skip
  injection hx with e1 e2;subst e1 e2;simp only[AV.bP,Nat.blt_eq]at hi;obtain⟨h1,h2⟩:=bY.Kv hk KW hi h;rw[h2];exact .ptr _ _ h1
 |jC id g k j v h =>
  intro x hx hi;cases x<;>simp only[AV.jv]at hx<;>first|(cases hx;done)|skip
  injection hx with e1 e2 e3 e4;subst e1 e2 e3 e4;simp only[AV.bP,Nat.blt_eq]at hi;exact .jC _ _ _ _ v ((rO.iff hk hi).1 h)
 |aU id g off len v h =>
  intro x hx hi;cases x<;>simp only[AV.jv]at hx<;>first|(cases hx;done)|skip
  injection hx with e1 e2 e3 e4;subst e1 e2 e3 e4;simp only[AV.bP,Nat.blt_eq]at hi;exact .aU _ _ _ _ v ((qJ.iff hk hi).1 h)
 |mp id h =>
  intro x hx hi;cases x<;>simp only[AV.jv]at hx<;>first|(cases hx;done)|skip
  injection hx with e1;subst e1;simp only[AV.bP,Nat.blt_eq]at hi;obtain⟨h1,h2⟩:=bY.Kv hk KX hi h;rw[h2];exact .mp _ h1
 |yl id h =>
  intro x hx hi;cases x<;>simp only[AV.jv]at hx<;>first|(cases hx;done)|skip
  injection hx with e1;subst e1;simp only[AV.bP,Nat.blt_eq]at hi;obtain⟨h1,h2⟩:=bY.Kv hk KY hi h;rw[h2];exact .yl _ h1
 |agg cs vs hl _ ih =>
  intro x hx hi;cases x<;>simp only[AV.jv]at hx<;>first|(cases hx;done)|skip
  injection hx with e;subst e;simp only[AV.bP]at hi;rw[bD]at hl;exact .agg _ vs hl fun j hj=>ih j (by rw[bD];exact hj) _ (fH σ _ j) (fq j hi hj)
 |bq cs vs hl _ ih =>
  intro x hx hi;cases x<;>simp only[AV.jv]at hx<;>first|(cases hx;done)|skip
  injection hx with e;subst e;simp only[AV.bP]at hi;rw[bD]at hl;exact .bq _ vs hl fun j hj=>ih j (by rw[bD];exact hj) _ (fH σ _ j) (fq j hi hj)
 |qX t x v _ ih =>
  intro x hx hi;cases x<;>simp only[AV.jv]at hx<;>first|(cases hx;done)|skip
  injection hx with e1 e2;subst e1 e2;simp only[AV.bP]at hi;exact .qX _ _ v (ih _ rfl hi)
 |fn f aZ bs us vs hu hv _ _ iha ihb =>
  intro x hx hi;cases x<;>simp only[AV.jv]at hx<;>first|(cases hx;done)|skip
  injection hx with e1 e2 e3;subst e1 e2 e3;simp only[AV.bP,y04]at hi;rw[bD]at hu hv;exact .fn _ _ _ us vs hu hv (fun j hj=>iha j (by rw[bD];exact hj) _ (fH σ _ j) (fq j hi.1 hj))
   (fun j hj=>ihb j (by rw[bD];exact hj) _ (fH σ _ j) (fq j hi.2 hj))
theorem bR.PE{xs}{vs}(h:bR V1 xs vs):bR V2 (AV.kH σ xs) vs :=
 ⟨by rw[bD];exact h.1,fun j hj=>by rw[fH];exact(h.2 j (by rw[bD]at hj;exact hj)).PE hk⟩
theorem bR.Kv{xs}{vs}(hi:AV.gH V1.H.length xs=true)(h:bR V2 (AV.kH σ xs) vs):bR V1 xs vs :=
 ⟨by have:=h.1;rw[bD]at this;grind,fun j hj=>by
  have:=h.2 j (by rw[bD];exact hj);exact this.Kv hk _ (fH σ xs j) (fq j hi hj)⟩
omit hk in
theorem Uq(es:List (Value×AV))(j:Nat):uq (es.map fun e=>(e.1,e.2.jv σ)) j=(uq es j).jv σ:=by
 unfold uq;rw[yB,yB,getElem?_map];cases es[j]?<;>simp[AV.jv]
omit hk in
theorem Jc(es:List (Value×AV)):(es.map fun e=>(e.1,e.2.jv σ)).map (·.1)=es.map (·.1):=zS
omit hk in
theorem LK{es:List (Value×AV)}{j:Nat}(h:j<es.length):∃k,(k,uq es j)∈es:=by
 unfold uq;rw[yB,yA h];exact⟨es[j].1,y03 h⟩
omit hk in
theorem Bv(xs:List (List AV))(k:Nat):(xs.map (AV.kH σ)).getD k []=AV.kH σ (xs.getD k []):=by
 rw[yB,yB,getElem?_map];cases xs[k]?<;>simp[AV.kH]
theorem fZ.PE{b}{o}(h:fZ V1 b o):fZ V2 b (o.jv σ):=by
 cases o with
 |box cells=>obtain⟨t,vs,h1,h2⟩:=h;exact⟨t,vs,by rw[hk.w];exact h1,h2.PE hk⟩
 |aN g sz fz xs =>
  obtain⟨t,c,h1,h2,h3,h4⟩:=h;refine⟨t,c,by rw[hk.w];exact h1,by simpa using h2,?_,fun k j hk' hj=>?_⟩
  .intro x hx;obtain⟨y,hy,rfl⟩:=yG.1 hx;rw[bD];grind
  .obtain ⟨v,hv,h1,hr⟩:=h4 k j (by simpa using hk') hj;exact⟨v,hv,h1,by rw[Bv,fH];exact hr.PE hk⟩
 |map es =>
  obtain⟨ents,clock,h1,h2,h3,h4,h5,h6⟩:=h;refine⟨ents,clock,by rw[hk.w];exact h1,by rw[Jc];exact h2,by rw[Jc];exact h3,h4,h5,fun j hj=>?_⟩;rw[Uq];exact(h6 j (by simpa using hj)).PE hk
 |iV st p aL ps aZ bd=>obtain⟨fn,vs,D,h1,h2⟩:=h;exact⟨fn,vs,D,by rw[hk.w];exact h1,h2.PE hk⟩
 |iter cur left =>
  obtain⟨bm,since,seen,c0,ents,clock,es,idx,h1,h2⟩:=h;exact⟨bm,since,seen,c0,ents,clock,es,idx,by rw[hk.w];exact h1,h2.step fun b _ hn=>⟨by rw[hk.w],fun hm=>hn ((hk.M b).1 hm)⟩⟩
 |uE=>show V2.w.heap[b]?=_;rw[hk.w];exact h
 |aH=>trivial
theorem fZ.Kv{b}{o}(hi:o.bP V1.H.length)(h:fZ V2 b (o.jv σ)):fZ V1 b o:=by
 cases o with
 |box cells=>obtain⟨t,vs,h1,h2⟩:=h;exact⟨t,vs,by rw[<- hk.w];exact h1,h2.Kv hk hi⟩
 |aN g sz fz xs =>
  obtain⟨t,c,h1,h2,h3,h4⟩:=h;refine⟨t,c,by rw[<- hk.w];exact h1,by simpa using h2,?_,fun k j hk' hj=>?_⟩
  .intro x hx;have:=h3 _ (yG.2 ⟨x,hx,rfl⟩);rw[bD]at this;grind
  .obtain ⟨v,hv,YJ,hr⟩:=h4 k j (by simpa using hk') hj;rw[Bv,fH]at hr;have hx:xs.getD k []∈xs:=by rw[yB,yA hk'];simp
   have bL:(xs.getD k []).length=sz:=by
    have:=h3 _ (yG.2 ⟨_,hx,rfl⟩);rw[bD]at this;grind
   exact⟨v,hv,YJ,hr.Kv hk _ rfl (fq j (hi _ hx) zO)⟩
 |map es =>
  obtain⟨ents,clock,h1,h2,h3,h4,h5,h6⟩:=h;rw[Jc]at h2 h3;refine⟨ents,clock,by rw[<- hk.w];exact h1,h2,h3,h4,h5,fun j hj=>?_⟩;have:=h6 j (by simpa using hj);rw[Uq]at this;obtain⟨kk,hm⟩:=LK hj;have hm2:=hi (kk,uq es j) hm;exact this.Kv hk _ rfl hm2
 |iV st p aL ps aZ bd=>obtain⟨fn,vs,D,h1,h2⟩:=h;exact⟨fn,vs,D,by rw[<- hk.w];exact h1,h2.Kv hk hi⟩
 |iter cur left =>
  obtain⟨bm,since,seen,c0,ents,clock,es,idx,h1,h2⟩:=h;exact⟨bm,since,seen,c0,ents,clock,es,idx,by rw[<- hk.w];exact h1,h2.step fun b _ hn=>⟨by rw[hk.w],fun hm=>hn ((hk.M b).2 hm)⟩⟩
 |uE=>show V1.w.heap[b]?=_;rw[<- hk.w];exact h
 |aH=>trivial
theorem aD.Kv{G}(h:aD G V2)(hi:∀(i:Nat)o,V1.H[i]?=some o->o.bP V1.H.length)(agS:∀i j,i<V1.H.length->j<V1.H.length->σ i=σ j->i=j):aD G V1 where
 lt id dU:=by
  have:=hk.eP id _ (yA dU);have:=h.lt (σ id) (yC.1 this).1;rwa[hk.ρ id dU,hk.w]at this
 eP id o ho:=by
  have bg:=(yC.1 ho).1;have:=h.eP (σ id) _ (hk.eP id o ho);rw[hk.ρ id bg]at this;exact this.Kv hk (hi id o ho)
 inj i j hi' hj' e:=by
  rw[<- hk.ρ i hi',<- hk.ρ j hj']at e;exact agS i j hi' hj' (h.inj _ _ (yC.1 (hk.eP i _ (yA hi'))).1 (yC.1 (hk.eP j _ (yA hj'))).1 e)
 gW id o ho bA:=by
  have bg:=(yC.1 ho).1;have:=h.gW (σ id) _ (hk.eP id o ho) (by rw[Jb];exact bA);rw[hk.ρ id bg]at this;exact(hk.M _).1 this
 ng g cs hg:=(h.ng g cs hg).wI hk.w.symm fun b=>(hk.M b).2
end
def lY(σ:Nat->Nat):List Nat->List ah->List ah->List ah
 |[],_,H=>H
 |_::_,[],H=>H
 |id::e,o::os,H=>lY σ e os (H.set id (o.jv σ))
def upto(e:List Nat)(n:Nat)(i:Nat):Nat:=if i<e.length then e.getD i 0 else n+(i-e.length)
def iq(e:List Nat)(H Hs:List ah):List ah:=lY (upto e H.length) e Hs H++(Hs.drop e.length).map (ah.jv (upto e H.length))
theorem j3 σ:∀ e(os H:List ah),(lY σ e os H).length=H.length
 |[],_,H=>rfl
 |_::_,[],H=>rfl
 |id::e,o::os,H=>by rw[lY,j3 σ e os];simp
theorem vH σ:∀(e:List Nat)os H(id:Nat),id∉e->(lY σ e os H)[id]?=H[id]?
 |[],_,H,id,_=>rfl
 |_::_,[],H,id,_=>rfl
 |a::e,o::os,H,id,h=>by
  rw[lY,vH σ e os _ id (fun h'=>h (by simp[h']))];grind
theorem D5 σ:∀ e(os H:List ah),e.Nodup->(∀a∈e,a<H.length)->e.length<=os.length->∀(i:Nat)o,i<e.length->os[i]?=some o ->
 (lY σ e os H)[e.getD i 0]?=some (o.jv σ)
 |[],_,H,_,_,_,i,o,hi,_=>absurd hi zS
 |_::_,[],H,_,_,hl,i,o,hi,_=>absurd hl zS
 |a::e,o'::os,H,wO,bg,hl,i,o,hi,ho=>by
  rw[lY];cases i with
  |zero =>
   simp only[getElem?_cons_zero,y06]at ho;rw[getD_cons_zero,vH σ e os _ a (nodup_cons.1 wO).1];grind
  |succ i =>
   exact D5 σ e os _ (nodup_cons.1 wO).2 (fun b hb=>by grind) (by simpa using hl) i o (by simpa using hi) (by simpa using ho)
def lg:List Nat->Nat->Option Nat
 |[],_=>none
 |a::e,id=>if a=id then some 0 else(lg e id).map (·+1)
theorem tT:∀{e}{id i},lg e id=some i->i<e.length/\e.getD i 0=id
 |[],_,_,h=>by simp[lg]at h
 |a::e,id,i,h=>by
  unfold lg at h;split at h
  .cases h;simp[*]
  .cases hp:lg e id with
   |none=>simp[hp]at h
   |some k =>
    simp[hp]at h;obtain⟨h1,h2⟩:=tT hp;grind
theorem Ch:∀{e}{id},lg e id=none->id∉e
 |[],_,_=>zS
 |a::e,id,h=>by
  unfold lg at h;split at h
  .cases h
  .rename_i fF;have:lg e id=none:=by simpa using h
   simp only[yH,not_or];exact⟨fun e'=>fF e'.symm,Ch this⟩
theorem xA:∀{e}{i},e.Nodup->i<e.length->lg e (e.getD i 0)=some i
 |[],i,_,hi=>absurd hi zS
 |a::e,0,_,_=>by simp[lg]
 |a::e,i+1,hn,hi=>by
  have hi':i<e.length:=by simpa using hi
  have zI:e.getD i 0∈e:=by rw[yB,yA hi'];simp
  have fF:a≠e.getD i 0:=fun h=>(nodup_cons.1 hn).1 (h▸zI);rw[getD_cons_succ];unfold lg;rw[yK fF,xA (nodup_cons.1 hn).2 hi'];rfl
variable {V V':View}
theorem dL.JZ{V1 qb:View}{σ σ'}{i j}(h:dL V1 qb i)(hw:V.w=V1.w)(hw':V'.w=qb.w)(hρ:V.ρ j=V1.ρ i)(alb:V'.ρ j=qb.ρ i)(hH:V.H[j]?=(V1.H[i]?).map (ah.jv σ))(Dq:V'.H[j]?=(qb.H[i]?).map (ah.jv σ')):dL V V' j:=by
 unfold dL at *;rw[hH,Dq];cases h1:V1.H[i]? with
 |none=>simp[h1]at h
 |some o =>
  cases h2:qb.H[i]? with
  |none=>grind
  |some o' =>
   rw[h1,h2]at h;cases o<;>cases o'<;>simp only[ah.jv]at h|-<;> first
    |exact h.elim
    |trivial
    |(exact h)
    |(rw[hρ,alb,hw,hw'];exact h)
theorem frame{G}{V qb}{e}{Hs}(hG:aD G V)(wO:e.Nodup)(bg:∀a∈e,a<V.H.length)(bL:Hs.length=e.length)(R7:∀(i:Nat)o,Hs[i]?=some o->V.H[e.getD i 0]?=some (o.jv fun i=>e.getD i 0))(hs:Step { w:=V.w,M:=V.M,H:=Hs,ρ:=fun i=>V.ρ (e.getD i 0) } qb)(R8:aD G qb) :
 ∃V',V'.w=qb.w/\V'.M=qb.M/\V'.H=iq e V.H qb.H/\Step V V'/\aD G V'/\Lk qb V' (upto e V.H.length):=by
 have uQ:e.length<=qb.H.length:=by have:=hs.bL;simp only[bL]at this;exact this
 have zI:∀i,i<e.length->e.getD i 0∈e:=fun i hi=>by rw[yB,yA hi];exact y03 hi
 let ρ':Nat->Nat:=fun id=>if id<V.H.length then(match lg e id with|some i=>qb.ρ i|none=>V.ρ id)else qb.ρ (e.length+(id-V.H.length));let V':View:={ w:=qb.w,M:=qb.M,H:=iq e V.H qb.H,ρ:=ρ' };have Xo:∀i,i<e.length->ρ' (e.getD i 0)=qb.ρ i:=fun i hi=>by
  show(if _ then _ else _)=_;rw[yL (bg _ (zI i hi)),xA wO hi]
 have Cx:∀id,id<V.H.length->id∉e->ρ' id=V.ρ id:=fun id dU hn=>by
  show(if _ then _ else _)=_;rw[yL dU];cases hp:lg e id with
  |none=>rfl
  |some i=>obtain⟨h1,h2⟩:=tT hp;exact absurd (h2▸zI i h1) hn
 have QD:∀k,ρ' (V.H.length+k)=qb.ρ (e.length+k):=fun k=>by
  show(if _ then _ else _)=_;rw[yK zO];congr 2;omega
 have aeC:(iq e V.H qb.H).length=V.H.length+(qb.H.length-e.length):=by simp[iq,j3]
 have He:∀i o,i<e.length->qb.H[i]?=some o->V'.H[e.getD i 0]?=some (o.jv (upto e V.H.length)):=fun i o hi ho=>by
  show(iq e V.H qb.H)[_]?=_;unfold iq;rw[getElem?_append_left (by rw[j3];exact bg _ (zI i hi))];exact D5 _ e qb.H V.H wO bg uQ i o hi ho
 have Ho:∀id,id<V.H.length->id∉e->V'.H[id]?=V.H[id]? := fun id dU hn=>by
  show(iq e V.H qb.H)[_]?=_;unfold iq;rw[getElem?_append_left (by rw[j3];exact dU)];exact vH _ e qb.H V.H id hn
 have Hn:∀k,V'.H[V.H.length+k]?=(qb.H[e.length+k]?).map (ah.jv (upto e V.H.length)):=fun k=>by
  show(iq e V.H qb.H)[_]?=_;unfold iq;rw[getElem?_append_right (by rw[j3];omega),j3,getElem?_map,getElem?_drop];congr 2;omega
 have split:∀id,id<V'.H.length->(∃i,i<e.length/\id=e.getD i 0)\/(id<V.H.length/\id∉e)\/∃k,id=V.H.length+k/\e.length+k<qb.H.length:=fun id dU=>by
  have Oy:id<V.H.length+(qb.H.length-e.length):=by rw[<- aeC];exact dU
  by_cases h1:id<V.H.length
  .cases hp:lg e id with
   |none=>exact .inr (.inl ⟨h1,Ch hp⟩)
   |some i=>obtain⟨h2,h3⟩:=tT hp;exact .inl ⟨i,h2,h3.symm⟩
  .exact .inr (.inr ⟨id-V.H.length,zO,zO⟩)
 have fr1:∀i,i<e.length->qb.ρ i=V.ρ (e.getD i 0)\/V.w.heap.size<=qb.ρ i:=fun i hi=>by
  rcases hs.fresh i zO with⟨_,h⟩|h
  .exact .inl h
  .exact .inr h
 have fr2:∀k,e.length+k<qb.H.length->V.w.heap.size<=qb.ρ (e.length+k):=fun k hk=>by
  rcases hs.fresh _ hk with⟨h,_⟩|h
  .simp only[bL]at h;omega
  .exact h
 have old:∀id,id<V.H.length->id∉e->∀i,i<Hs.length->V.ρ (e.getD i 0)≠V.ρ id:=fun id dU hn i hi heq=>by
  have:=hG.inj _ _ (bg _ (zI i zO)) dU heq;exact hn (this▸zI i zO)
 have hk:Lk qb V' (upto e V.H.length):={
  w:=rfl
  M:=fun _=>Iff.rfl
  ρ:=fun i hi=>by
   show ρ' (if i<e.length then _ else _)=_;by_cases h:i<e.length
   .rw [yL h];exact Xo i h
   .rw [yK h,QD];congr 1;omega
  eP:=fun i o ho=>by
   show V'.H[if i<e.length then _ else _]?=_;by_cases h:i<e.length
   .rw [yL h];exact He i o h ho
   .rw [yK h,Hn,show e.length+(i-e.length)=i by omega,ho];rfl }
 have fB:Step V V':={
  os:=hs.os
  tape:=hs.tape
  output:=hs.output
  size:=hs.size
  drawn:=hs.drawn
  keep:=fun b hb hn=>hs.keep b hb fun i hi=>hn _ (bg _ (zI i (by simp only[bL]at hi;exact hi)))
  data:=hs.data
  bL:=by show _<=(iq e V.H qb.H).length;rw[aeC];omega
  fresh:=fun id dU=>by
   rcases split id dU with⟨i,hi,rfl⟩|⟨h1,h2⟩|⟨k,rfl,hk'⟩
   .show (_/\ρ' _=_)\/_<=ρ' _;rw[Xo i hi];exact(fr1 i hi).imp (fun h=>⟨bg _ (zI i hi),h⟩) id
   .exact .inl ⟨h1,Cx id h1 h2⟩
   .right;show _<=ρ' _;rw[QD];exact fr2 k hk'
  eP:=fun id dU=>by
   by_cases Ur:id∈e
   .obtain ⟨i,hi,rfl⟩:∃i,i<e.length/\id=e.getD i 0:=by
     cases hp:lg e id with
     |none=>exact absurd Ur (Ch hp)
     |some i=>obtain⟨h2,h3⟩:=tT hp;exact⟨i,h2,h3.symm⟩
    refine(hs.eP i (by simp only[bL];exact hi)).JZ (σ:=fun i=>e.getD i 0) (σ':=upto e V.H.length) rfl rfl rfl (Xo i hi) ?_ ?_
    .have hg:Hs[i]?=some (Hs[i]'zO):=yA _;simp only[hg];exact R7 i _ hg
    .have hg:qb.H[i]?=some (qb.H[i]'zO):=yA _;rw[hg];exact He i _ hi hg
   .exact .refl dU (Ho id dU Ur) (Cx id dU Ur) (hs.keep _ (hG.lt id dU) fun i hi=>old id dU Ur i hi).1 }
 refine⟨V',rfl,rfl,rfl,fB,?_,hk⟩;exact{
  lt:=fun id dU=>by
   rcases split id dU with⟨i,hi,rfl⟩|⟨h1,h2⟩|⟨k,rfl,hk'⟩
   .show ρ' _<_;rw[Xo i hi];exact R8.lt i zO
   .show ρ' _<_;rw[Cx id h1 h2];exact y21 (hG.lt id h1) hs.size
   .show ρ' _<_;rw[QD];exact R8.lt _ hk'
  eP:=fun id o ho=>by
   rcases split id (yC.1 ho).1 with⟨i,hi,rfl⟩|⟨h1,h2⟩|⟨k,rfl,hk'⟩
   .have hg:qb.H[i]?=some (qb.H[i]'zO):=yA _;rw[He i _ hi hg]at ho;injection ho with ho;subst ho;show fZ V' (ρ' _) _;rw[Xo i hi];exact(R8.eP i _ hg).PE hk
   .rw [Ho id h1 h2]at ho;show fZ V' (ρ' _) _;rw[Cx id h1 h2];exact(hG.eP id o ho).step fB (hs.keep _ (hG.lt id h1) fun i hi=>old id h1 h2 i hi).1
   .have hg:qb.H[e.length+k]?=some qb.H[e.length+k]:=yA _;rw[Hn,hg]at ho;injection ho with ho;subst ho;show fZ V' (ρ' _) _;rw[QD];exact(R8.eP _ _ hg).PE hk
  inj:=fun i j hi hj heq=>by
   have yQ:ρ' i=ρ' j:=heq;rcases split i hi with⟨a,ha,rfl⟩|⟨h1,h2⟩|⟨a,rfl,ha⟩<;>rcases split j hj with⟨b,hb,rfl⟩|⟨h3,h4⟩|⟨b,rfl,hb⟩
   .rw [Xo a ha,Xo b hb]at yQ;rw[R8.inj a b zO zO yQ]
   .rw [Xo a ha,Cx j h3 h4]at yQ;rcases fr1 a ha with h|h
    .rw [h]at yQ;exact absurd yQ (old j h3 h4 a zO)
    .have:=hG.lt j h3;omega
   .rw [Xo a ha,QD]at yQ;have:=R8.inj a _ zO hb yQ;omega
   .rw [Xo b hb,Cx i h1 h2]at yQ;rcases fr1 b hb with h|h
    .rw [h]at yQ;exact absurd yQ.symm (old i h1 h2 b zO)
    .have:=hG.lt i h1;omega
   .rw [Cx i h1 h2,Cx j h3 h4]at yQ;exact hG.inj i j h1 h3 yQ
   .rw [Cx i h1 h2,QD]at yQ;have:=hG.lt i h1;have:=fr2 b hb;omega
   .rw [QD,Xo b hb]at yQ;have:=R8.inj _ b ha zO yQ;omega
   .rw [QD,Cx j h3 h4]at yQ;have:=hG.lt j h3;have:=fr2 a ha;omega
   .rw [QD,QD]at yQ;have:=R8.inj _ _ ha hb yQ;omega
  gW:=fun id o ho bA=>by
   rcases split id (yC.1 ho).1 with⟨i,hi,rfl⟩|⟨h1,h2⟩|⟨k,rfl,hk'⟩
   .have hg:qb.H[i]?=some (qb.H[i]'zO):=yA _;rw[He i _ hi hg]at ho;injection ho with ho;subst ho;show qb.M (ρ' _);rw[Xo i hi];exact R8.gW i _ hg (by rw[Jb]at bA;exact bA)
   .rw [Ho id h1 h2]at ho;show qb.M (ρ' _);rw[Cx id h1 h2];exact((hs.keep _ (hG.lt id h1) fun i hi=>old id h1 h2 i hi).2).2 (hG.gW id o ho bA)
   .have hg:qb.H[e.length+k]?=some qb.H[e.length+k]:=yA _;rw[Hn,hg]at ho;injection ho with ho;subst ho;show qb.M (ρ' _);rw[QD];exact R8.gW _ _ hg (by rw[Jb]at bA;exact bA)
  ng:=R8.ng }
def vI{α}(P:Program):Sem α->Option α
 |.pure a=>some a
 |.program k=>vI P (k P)
 |.mark _ k=>vI P k
 |_=>none
theorem zJ{α}{P}:∀{s}{a:α},vI P s=some a->∀w,s.run P w = .ok a w
 |.pure a,b,h,w=>by simp only[vI,y06]at h;simp_all
 |.program k,b,h,w=>by exact zJ (s:=k P) h w
 |.mark m k,b,h,w=>by exact zJ (s:=k) h w
 |.load ..,_,h,_=>by simp[vI]at h
 |.store ..,_,h,_=>by simp[vI]at h
 |.new ..,_,h,_=>by simp[vI]at h
 |.shape ..,_,h,_=>by simp[vI]at h
 |.freeze ..,_,h,_=>by simp[vI]at h
 |.frozen ..,_,h,_=>by simp[vI]at h
 |.getObj ..,_,h,_=>by simp[vI]at h
 |.setObj ..,_,h,_=>by simp[vI]at h
 |.choose ..,_,h,_=>by simp[vI]at h
 |.sys ..,_,h,_=>by simp[vI]at h
 |.halt _,_,h,_=>by simp[vI]at h
inductive aS where
 |ret (x:AV)
 |Ay (x:AV)
inductive bF where
 |normal
 |exit (id:Nat)
 |goto (l:Nat)
 |ret
 |Ay (x:AV)
instance:Inhabited bF:=⟨.normal⟩
inductive bC where
 |br (b:Bool)
 |elem (x:List AV)
 |val (d:Option Nat) (x:AV)
 |hp (d:Option Nat) (x:AV) (H:List ah)
 |LV
 |aU
 |Gu (z:List (List AV))
 |fz (d:Option Nat) (z:List (List AV))
 |call (e:List Nat) (out:aS) (Xi:List ah)
 |pure (zs:List (List (List AV))) (out:AV)
 |loop (aP:List Nat) (n:Nat) (ex:bF) (aL:List AV) (H:List ah)
 |range (aP:List Nat) (n:Nat) (mark:Option Nat) (ex:bF) (aL:List AV) (H:List ah)
 |at_ (p:Nat)
 |bytes (s:yP)
 |av (x:AV)
 |dcall (out:aS) (H:List ah)
 |lJ (x:AV) (ok:Bool)
 |wT (es:List (Value×AV))
 |afd (x:AV) (i:Nat) (es:List (Value×AV))
 |eP (o:ah)
 |alc (s t:yP)
 |aeD (out:aS) (H:List ah)
instance:Inhabited bC:=⟨.LV⟩
def aF(x y:AV):Prop:=∀(V:View)(v:Value),dI V x v->dI V y v
theorem aF.refl x:aF x x:=fun _ _ h=>h
theorem _root_.Go.y29{x:AV}:aF x x:=aF.refl x
theorem aF.of_eq{x y}(h:x=y):aF x y:=h▸aF.refl x
inductive Kind where
 |free|read|lK
 deriving DecidableEq
def gZ:List Prop->Prop
 |[]=>True
 |p::ps=>p/\gZ ps
theorem dN{a b}:gZ (a++b)↔gZ a/\gZ b:=by
 induction a with
 |nil=>simp[gZ]
 |cons p a ih=>simp[gZ,ih,and_assoc]
def xB:List AV->Option (List Value)
 |[]=>some []
 |.lit v::xs=>(xB xs).map (v::·)
 |_::_=>none
def AV.zL:AV->Option Value
 |.lit v=>some v
 |.qX t (.lit v)=>some (.iface t v)
 |.agg cs=>(xB cs).map fun vs=>.agg vs.toArray
 |_=>none
section
variable {V:View}
theorem bW{v u}(h:dI V (.lit v) u):u=v:=by
 cases h with
 |pure _ _ h=>cases h;rfl
theorem jr{id off}{u}(h:dI V (.ptr id off) u):bY ah.vR V id/\u = .pointer (some ⟨V.ρ id,off,none⟩):=by
 cases h with
 |pure _ _ h=>cases h
 |ptr _ _ h=>exact⟨h,rfl⟩
theorem Nl{id g k j}{u}(h:dI V (.jC id g k j) u):rO V id g k j u:=by
 cases h with
 |pure _ _ h=>cases h
 |jC _ _ _ _ _ h=>exact h
theorem wV{id g off len}{u}(h:dI V (.aU id g off len) u):qJ V id g off len u:=by
 cases h with
 |pure _ _ h=>cases h
 |aU _ _ _ _ _ h=>exact h
theorem vD{id}{u}(h:dI V (.mp id) u):bY ah.FI V id/\u = .map (some (V.ρ id)):=by
 cases h with
 |pure _ _ h=>cases h
 |mp _ h=>exact⟨h,rfl⟩
theorem zM{it}{es}{u}(h:dI V (.md it es) u):dR V.w V.M (.md it es) u:=by
 cases h with
 |pure _ _ h=>exact h
theorem R9{id}{u}(h:dI V (.yl id) u):bY ah.FJ V id/\u = .func (.yield (V.ρ id)) #[] #[]:=by
 cases h with
 |pure _ _ h=>cases h
 |yl _ h=>exact⟨h,rfl⟩
theorem pR{cs}{u}(h:dI V (.iG cs) u):dR V.w V.M (.iG cs) u:=by
 cases h with
 |pure _ _ h=>exact h
theorem jF{sz}{t}{xs}{u}(h:dI V (.sl sz t xs) u):dR V.w V.M (.sl sz t xs) u:=by
 cases h with
 |pure _ _ h=>exact h
theorem uO{cs}{u}(h:dI V (.agg cs) u):∃vs:List Value,u = .agg vs.toArray/\bR V cs vs:=by
 cases h with
 |pure _ _ h=>cases h with|agg _ vs hl hr=>exact⟨vs,rfl,hl,fun j hj=>.pure _ _ (hr j hj)⟩
 |agg _ vs hl hr=>exact⟨vs,rfl,hl,hr⟩
theorem GI{cs}{u}(h:dI V (.bq cs) u):∃vs:List Value,u = .tuple vs.toArray/\bR V cs vs:=by
 cases h with
 |pure _ _ h=>cases h with|bq _ vs hl hr=>exact⟨vs,rfl,hl,fun j hj=>.pure _ _ (hr j hj)⟩
 |bq _ vs hl hr=>exact⟨vs,rfl,hl,hr⟩
theorem Df{t}{x}{u}(h:dI V (.qX t x) u):∃v,u = .iface t v/\dI V x v:=by
 cases h with
 |pure _ _ h=>cases h with|qX _ _ v hr=>exact⟨v,rfl,.pure _ _ hr⟩
 |qX _ _ v hr=>exact⟨v,rfl,hr⟩
theorem yY{f}{aZ bs}{u}(h:dI V (.fn f aZ bs) u):∃us vs:List Value,u = .func f us.toArray vs.toArray/\bR V aZ us/\bR V bs vs:=by
 cases h with
 |pure _ _ h=>cases h with|fn _ _ _ us vs hu hv ha hb=>exact⟨us,vs,rfl,⟨hu,fun j hj=>.pure _ _ (ha j hj)⟩,hv,fun j hj=>.pure _ _ (hb j hj)⟩
 |fn _ _ _ us vs hu hv ha hb=>exact⟨us,vs,rfl,⟨hu,ha⟩,hv,hb⟩
theorem FK:∀{xs}{us vs},xB xs=some us->bR V xs vs->vs=us
 |[],us,vs,h,hr=>by
  simp only[xB,y06]at h;subst h;exact y02 hr.1
 |.lit v::xs,us,vs,h,hr=>by
  cases hx:xB xs with
  |none=>simp[xB,hx]at h
  |some us' =>
   simp[xB,hx]at h;subst h
   match vs,hr with
   |[],hr=>have:=hr.1;grind
   |u::vs',hr =>
    have h0:dI V (.lit v) u:=by simpa using hr.2 0 zS
    have ht:=FK hx ⟨by simpa using hr.1,fun j hj=>by simpa using hr.2 (j+1) (by simpa using hj)⟩;rw[bW h0,ht]
 |.ptr .. :: _,us,vs,h,_|.jC .. :: _,us,vs,h,_|.iG .. :: _,us,vs,h,_|.sl .. :: _,us,vs,h,_|.aU .. :: _,us,vs,h,_
 |.mp .. :: _,us,vs,h,_|.md .. :: _,us,vs,h,_|.yl .. :: _,us,vs,h,_|.fn .. :: _,us,vs,h,_|.qX .. :: _,us,vs,h,_|.agg .. :: _,us,vs,h,_|.bq .. :: _,us,vs,h,_|.aP::_,us,vs,h,_=>by simp[xB]at h
theorem fC{x}{u v}(hx:x.zL=some v)(h:dI V x u):u=v:=by
 cases x<;>simp only[AV.zL]at hx<;>first|(cases hx;done)|skip
 case lit w=>cases hx;exact bW h
 case qX t x =>
  obtain⟨w,rfl,hw⟩:=Df h;cases x<;>simp only at hx<;>first|(cases hx;done)|skip
  rw[bW hw];grind
 case agg cs =>
  obtain⟨vs,rfl,hr⟩:=uO h;cases hc:xB cs with
  |none=>simp[hc]at hx
  |some us=>simp[hc]at hx;rw[<- hx,FK hc hr]
theorem bR.nil:bR V [] []:=⟨rfl,fun _ h=>absurd h zS⟩
theorem bR.cons{x}{v}{xs}{vs}(h:dI V x v)(hs:bR V xs vs):bR V (x::xs) (v::vs) :=
 ⟨by simp[hs.1],fun j hj=>by cases j with|zero=>simpa using h|succ j=>simpa using hs.2 j (by simpa using hj)⟩
theorem bR.head{x}{v}{xs}{vs}(h:bR V (x::xs) (v::vs)):dI V x v:=by simpa using h.2 0 zS
theorem bR.tail{x}{v}{xs}{vs}(h:bR V (x::xs) (v::vs)):bR V xs vs :=
 ⟨by simpa using h.1,fun j hj=>by simpa using h.2 (j+1) (by simpa using hj)⟩
theorem bR.drop{xs}{vs}(h:bR V xs vs)n:bR V (xs.drop n) (vs.drop n) :=
 ⟨by simp[h.1],fun j hj=>by
  have:=h.2 (n+j) (by simp at hj;omega);grind⟩
theorem bR.take{xs}{vs}(h:bR V xs vs)n:bR V (xs.take n) (vs.take n) :=
 ⟨by simp[h.1],fun j hj=>by
  rw[y18]at hj;have:=h.2 j zO;grind⟩
theorem bR.append{xs ys}{us vs}(h:bR V xs us)(k:bR V ys vs):bR V (xs++ys) (us++vs) :=
 ⟨by simp[h.1,k.1],fun j hj=>by
  simp at hj;by_cases bg:j<xs.length
  .have:=h.2 j bg;simpa[getElem?_append,bg,h.1]using this
  .have:=k.2 (j-xs.length) zO;simpa[getElem?_append,bg,h.1]using this⟩
theorem bR.set{xs}{vs}(h:bR V xs vs)n{x}{v}(hx:dI V x v):bR V (xs.set n x) (vs.set n v) :=
 ⟨by simp[h.1],fun j hj=>by
  simp at hj;by_cases e:n=j
  .subst e;simpa[hj,h.1]using hx
  .have:=h.2 j hj;grind⟩
theorem bR.vv vs:bR V (vs.map .lit) vs :=
 ⟨zS,fun j hj=>by
  simp at hj;have:(vs.map AV.lit).getD j .aP = .lit (vs.getD j undef):=by simp[hj]
  rw[this];exact .pure _ _ (.lit _)⟩
theorem bR.aoC{xs}{vs}(hl:vs.length=xs.length)(h:∀j,j<xs.length->dR V.w V.M (xs.getD j .aP) (vs.getD j undef)):bR V xs vs:=⟨hl,fun j hj=>.pure _ _ (h j hj)⟩
end
def AV.cells:AV->Option (List AV)
 |.agg cs=>some cs
 |.lit (.agg vs)=>some (vs.toList.map .lit)
 |.lit (.tuple _)|.bq _|.aP=>none
 |x=>some [x]
theorem AR{V}{x}{v}{cs}(hc:x.cells=some cs)(h:dI V x v):bR V cs v.cells.toList:=by
 have one:∀{x}{v},v.cells=#[v]->dI V x v->bR V [x] v.cells.toList:=fun e h=>by rw[e];exact .cons h .nil
 cases x with
 |lit u =>
  have hu:=bW h;subst hu;cases v<;>simp only[AV.cells,y06]at hc<;>first|(cases hc;done)|(simp)|(subst hc;exact bR.vv _)
 |ptr id off=>cases hc;obtain⟨_,rfl⟩:=jr h;exact one rfl h
 |jC id g k j =>
  cases hc;have:=(Nl h).1;exact one (by cases v<;>first|rfl|(simp[Value.oneCell']at this)) h
 |aU id g off len =>
  cases hc;have:=(wV h).1;exact one (by cases v<;>first|rfl|(simp[Value.oneCell']at this)) h
 |iG cs=>cases hc;cases pR h;exact one rfl h
 |sl sz t xs=>cases hc;cases jF h;exact one rfl h
 |mp id=>cases hc;obtain⟨_,rfl⟩:=vD h;exact one rfl h
 |md it es=>cases hc;cases zM h;exact one rfl h
 |yl id=>cases hc;obtain⟨_,rfl⟩:=R9 h;exact one rfl h
 |fn f aZ bs=>cases hc;obtain⟨_,_,rfl,_⟩:=yY h;exact one rfl h
 |qX t y=>cases hc;obtain⟨_,rfl,_⟩:=Df h;exact one rfl h
 |agg cs'=>cases hc;obtain⟨vs,rfl,hr⟩:=uO h;simpa[Value.cells]using hr
 |bq _=>cases hc
 |aP=>cases hc
def uF(P:Program)(t:TypeId):Option Bool :=
 match P.underlying t with
 |some (.struct _)|some (.array _ _)=>some true
 |some _=>some false
 |none=>none
def jK(P:Program)(t:TypeId):Option Nat:=(P.info? t).map (·.size)
def nI(P:Program)(t:TypeId)(rest:List AV):Option AV :=
 match uF P t,jK P t with
 |some true,some n=>if n<=rest.length then some (.agg (rest.take n))else none
 |some false,_=>match rest with
  |x::_=>some x
  |[]=>none
 |_,_=>none
def xC(V:View)(b o:Nat)(rest:List AV):Prop:=∃vs:List Value,bR V rest vs/\∀j,j<rest.length->V.w.cell? ⟨b,o+j,none⟩=some (vs.getD j undef)
theorem xC.drop{V}{b o}{rest}(h:xC V b o rest)n:xC V b (o+n) (rest.drop n):=by
 obtain⟨vs,h1,h2⟩:=h;refine⟨vs.drop n,h1.drop n,fun j hj=>?_⟩;simp at hj;simp
theorem sI{P}{t}{b}(h:uF P t=some b)w:(isAgg t).run P w = .ok b w:=by
 unfold uF at h;cases hu:P.underlying t with
 |none=>simp[hu]at h
 |some d =>
  rw[hu]at h;cases d<;>simp only[y06]at h<;>subst h<;>simp[isAgg,run_underlying hu]
theorem jq{P}{t}{n}(h:jK P t=some n)w:(sizeOf t).run P w = .ok n w:=by
 unfold jK at h;cases hi:P.info? t with
 |none=>simp[hi]at h
 |some i=>simp[hi]at h;simp[sizeOf,typeInfo,hi,h]
theorem uS{P}{V}{t}{rest}{x}{b o}(hl:nI P t rest=some x)(h:xC V b o rest) :
 ∃v,(loadVar t ⟨b,o,none⟩).run P V.w = .ok v V.w/\dI V x v:=by
 obtain⟨vs,h1,h2⟩:=h;unfold nI at hl;cases ha:uF P t with
 |none=>simp[ha]at hl
 |some g =>
  cases g with
  |true =>
   cases hs:jK P t with
   |none=>simp[ha,hs]at hl
   |some n =>
    simp only[ha,hs]at hl;split at hl
    .cases hl;refine⟨.agg (vs.take n).toArray,?_,.agg _ _ ?_ ?_⟩
     .have bL:(vs.take n).length=n:=by simp[h1.1];omega
      have:=run_loadCells_list (P:=P) V.w ⟨b,o,none⟩ (vs.take n) (fun j v hj=>by
       have hj':j<n:=by grind
       have:=h2 j zO;rw[Addr.add_lit];grind)
      rw[bL]at this;simp[loadVar,sI ha,jq hs,this]
     .simp [h1.1]
     .intro j hj;have:=(h1.take n).2 j hj;omega
    .cases hl
  |false =>
   simp only[ha]at hl
   match rest,vs,h1,hl with
   |y::rest,v::vs,h1,hl =>
    simp only[y06]at hl;subst hl;have hc:=h2 0 zS;simp only[Nat.add_zero]at hc;exact⟨v,by simp[loadVar,sI ha,hc],h1.head⟩
   |[],_,_,hl=>simp at hl
   |_::_,[],h1,_=>have:=h1.1;grind
def D6(P:Program)(t:TypeId)(f:Nat):Option Field :=
 match P.underlying t with
 |some (.struct fs)=>fs[f]?
 |_=>none
def zl(P:Program)(t:TypeId)(f:Nat):Option Nat :=
 match D6 P t f with
 |some fd=>match jK P fd.type with
  |some (_+1)=>some fd.offset
  |_=>none
 |none=>none
theorem zN{P}{t}{f n}(h:zl P t f=some n)w(b o:Nat) :
 (Instr.fieldAt t (.pointer (some ⟨b,o,none⟩)) f).run P w = .ok (.pointer (some ⟨b,o+n,none⟩)) w:=by
 unfold zl D6 at h;cases hu:P.underlying t with
 |none=>simp[hu]at h
 |some d =>
  cases d<;>simp only[hu]at h<;>try (cases h)
  rename_i fs;cases hf:fs[f]? with
  |none=>simp[hf]at h
  |some fd =>
   rw[hf]at h;cases hs:jK P fd.type with
   |none=>simp[hs]at h
   |some m =>
    cases m with
    |zero=>simp[hs]at h
    |succ m =>
     simp only[hs,y06]at h;simp[Instr.fieldAt,run_underlying hu,hf,Instr.sureAddr,fieldPlace,jq hs,Addr.add_lit]
theorem Sb{P}{V}{t}{cs}{vs}{x}{off}(hr:bR V cs vs)(hl:nI P t (cs.drop off)=some x) :
 ∃v,(part t vs.toArray off).run P V.w = .ok v V.w/\dI V x v:=by
 unfold nI at hl;cases ha:uF P t with
 |none=>simp[ha]at hl
 |some g =>
  cases g with
  |true =>
   cases hs:jK P t with
   |none=>simp[ha,hs]at hl
   |some n =>
    simp only[ha,hs]at hl;split at hl
    .cases hl;have h2:=(hr.drop off).take n;refine⟨.agg ((vs.drop off).take n).toArray,?_,.agg _ _ h2.1 h2.2⟩;simp[part,sI ha,jq hs]
    .cases hl
  |false =>
   simp only[ha]at hl;cases hd:cs.drop off with
   |nil=>simp[hd]at hl
   |cons y rest =>
    simp only[hd,y06]at hl;subst hl;have bg:off<cs.length:=by
     rcases y08 off cs.length with h|h
     .exact h
     .rw [y17 h]at hd;cases hd
    have hy:cs.getD off .aP=y:=by
     have:cs[off]?=some y:=by have:=getElem?_drop (xs:=cs) (i:=off) (j:=0);grind
     grind
    have hv:=hr.2 off bg;rw[hy]at hv;have oL:off<vs.length:=by rw[hr.1];exact bg
    refine⟨vs.getD off undef,?_,hv⟩;simp[part,sI ha,yA oL]
variable {α:Type}
def dX(cells:List α)(off:Nat)(cs:List α):List α:=cells.take off++cs++cells.drop (off+cs.length)
def D7(place:Nat->Option (Nat×Nat))(cells:List AV):List (Nat×AV)->Option (List AV)
 |[]=>some cells
 |(i,v)::rest =>
  match place i,v.cells with
  |some (off,size),some cs=>if cs.length=size/\off+cs.length<=cells.length then D7 place (dX cells off cs) rest else none
  |_,_=>none
theorem Jd off:∀ vs(n:Nat)cells,off+n+vs.length<=cells.size ->
 ((vs.zipIdx n).foldl (fun(cs:Array Value)x=>cs.setIfInBounds (off+x.2) x.1) cells).toList=dX cells.toList (off+n) vs
 |[],n,cells,_=>by simp[dX]
 |v::vs,n,cells,h=>by
  simp only[yE]at h;rw[zipIdx_cons,foldl_cons,Jd off vs (n+1) _ (by simp;omega)];simp only[Array.toList_setIfInBounds,dX];apply ext_getElem?;intro k;simp only[getElem?_append,yD,y18,length_set,Array.length_toList,getElem?_take,getElem?_drop,yE];have e1:min (off+(n+1)) cells.size=off+(n+1):=zO
  have e2:min (off+n) cells.size=off+n:=zO
  rw[e1,e2];by_cases h1:k<off+n
  .grind
  .grind
theorem bR.dX{V}{xs}{vs}(h:bR V xs vs)off{ys}{us}(k:bR V ys us):bR V (dX xs off ys) (dX vs off us):=by
 unfold Am.dX;rw[k.1];exact((h.take off).append k).append (h.drop _)
theorem uY{V}{place}:∀{parts}{ow}{cells out}{vs},D7 place cells parts=some out->bR V cells vs ->
 ow.map (·.1)=parts.map (·.1)->bR V (parts.map (·.2)) (ow.map (·.2))->∃us:List Value,Instr.fill place vs.toArray ow=some us.toArray/\bR V out us
 |[],ow,cells,out,vs,h,hr,hi,_=>by
  simp only[D7,y06]at h;subst h;have:ow=[]:=by simpa using hi
  subst this;exact⟨vs,rfl,hr⟩
 |(i,x)::parts,[],_,_,_,_,_,hi,_=>by simp at hi
 |(i,x)::parts,(i',v)::ow,cells,out,vs,h,hr,hi,hp=>by
  simp only[map_cons,List.cons.injEq]at hi hp;obtain⟨rfl,hi⟩:=hi;unfold D7 at h;cases Yu:place i' with
  |none=>simp[Yu]at h
  |some os =>
   obtain⟨off,size⟩:=os;cases hc:x.cells with
   |none=>simp[hc]at h
   |some cs =>
    simp only[Yu,hc]at h;split at h
    .rename_i qK;obtain⟨h1,h2⟩:=qK;have hv:=AR hc hp.head;have iZ:v.cells.size=size:=by have:=hv.1;grind
     have pO:off+0+v.cells.toList.length<=vs.toArray.size:=by have:=hr.1;grind
     have aeE:=Jd off v.cells.toList 0 vs.toArray pO;simp only[Nat.add_zero]at aeE;obtain⟨us,hus,zm⟩:=uY  h (hr.dX off hv) hi hp.tail;refine⟨us,?_,zm⟩;unfold Instr.fill;have Iy:¬((decide (v.cells.size≠size)||decide (off+v.cells.size>vs.toArray.size))=true):=by grind
     have hz:v.cells.zipIdx.foldl (fun(cs)x=>cs.setIfInBounds (off+x.2) x.1) vs.toArray=(Am.dX vs off v.cells.toList).toArray:=by
      rw[<- aeE,<- Array.foldl_toList,Array.toList_zipIdx]
     grind
    .cases h
inductive Wh where
 |b|i|s
def Bw:Wh->Value->Value->Option Bool
 |.i,.int k a,.int k' b=>if k=k' then some (a==b)else none
 |.b,.bool a,.bool b=>some (a==b)
 |.s,.string a,.string b=>some (a==b)
 |_,_,_=>none
def j4:List Wh->List Value->List Value->Option Bool
 |[],[],[]=>some true
 |[k],[a],[b]=>Bw k a b
 |k::ks,a::aZ,b::bs=>match Bw k a b,j4 ks aZ bs with
  |some x,some y=>some (x&&y)
  |_,_=>none
 |_,_,_=>none
def Ci(rec:TypeId->Option (List Wh)):List Field->Nat->Option (List Wh)
 |[],_=>some []
 |f::fs,o=>if f.name ≠ "_" /\f.offset=o then(match rec f.type with
  |some ks=>(Ci rec fs (o+ks.length)).map (ks++·)
  |none=>none)else none
def kL(P:Program):Nat->TypeId->Option (List Wh)
 |0,_=>none
 |d+1,t =>
  match P.underlying t with
  |some .bool=>some [.b]
  |some (.int _)=>some [.i]
  |some .string=>some [.s]
  |some (.struct fs)=>if P.stoodInHeld t=false then(match Ci (kL P d) fs.toList 0,jK P t with
   |some ks,some m=>if ks.length=m then some ks else none
   |_,_=>none)else none
  |_=>none
def xR(P:Program)(t:TypeId)(xs:List Value):Value:=if uF P t=some true then .agg xs.toArray else xs.headD undef
theorem Cj(k:Wh)ks(a c:Value)aZ bs(b:Bool):j4 (k::ks) (a::aZ) (c::bs)=some b↔∃x y,Bw k a c=some x/\j4 ks aZ bs=some y/\b=(x&&y):=by
 constructor
 .intro h
  match ks,aZ,bs,h with
  |[],[],[],h=>exact⟨b,true,h,rfl,zS⟩
  |[],[],_::_,h=>simp only[j4]at h;grind
  |[],_::_,_,h=>simp only[j4]at h;grind
  |k'::ks,aZ,bs,h =>
   simp only[j4]at h;grind
 .rintro ⟨x,y,h1,h2,rfl⟩
  match ks,aZ,bs,h2 with
  |[],[],[],h2=>simp[j4]at h2;subst h2;simpa[j4]using h1
  |[],[],_::_,h2=>simp[j4]at h2
  |[],_::_,_,h2=>simp[j4]at h2
  |k'::ks,aZ,bs,h2=>simp[j4,h1,h2]
theorem KZ:∀{ks}{xs ys}{b},j4 ks xs ys=some b->xs.length=ks.length/\ys.length=ks.length
 |[],[],[],_,_=>⟨rfl,rfl⟩
 |k::ks,a::aZ,c::bs,b,h=>by
  obtain⟨x,y,_,h2,_⟩:=(Cj ..).1 h;obtain⟨h3,h4⟩:=KZ h2;grind
 |[],[],_::_,_,h=>by simp[j4]at h
 |[],_::_,_,_,h=>by simp[j4]at h
 |_::_,[],_,_,h=>by simp[j4]at h
 |_::_,_::_,[],_,h=>by simp[j4]at h
theorem D8:∀{ks js}{aZ bs cs ds}{b},aZ.length=ks.length->bs.length=ks.length->j4 (ks++js) (aZ++cs) (bs++ds)=some b->∃x y,j4 ks aZ bs=some x/\j4 js cs ds=some y/\b=(x&&y)
 |[],js,[],[],cs,ds,b,_,_,h=>⟨true,b,rfl,h,zS⟩
 |k::ks,js,a::aZ,c::bs,cs,ds,b,hl,hl',h=>by
  obtain⟨x1,y1,h1,h2,rfl⟩:=(Cj ..).1 h;obtain⟨x,y,hx,hy,rfl⟩:=D8 (by simpa using hl) (by simpa using hl') h2;exact⟨x1&&x,y,(Cj ..).2 ⟨x1,x,h1,hx,rfl⟩,hy,by rw[Bool.and_assoc]⟩
 |[],_,_::_,_,_,_,_,h,_,_=>by simp at h
 |[],_,[],_::_,_,_,_,_,h,_=>by simp at h
 |_::_,_,[],_,_,_,_,h,_,_=>by simp at h
 |_::_,_,_::_,[],_,_,_,_,h,_=>by simp at h
theorem K3{P}{t}{n}{g}(hg:uF P t=some g)(hs:g=true->jK P t=some n)(h1:g=false->n=1)(vs:List Value)off(pO:off+n<=vs.length)w :
 (part t vs.toArray off).run P w = .ok (xR P t ((vs.drop off).take n)) w:=by
 cases g with
 |true=>simp[part,sI hg,jq (hs rfl),xR,hg]
 |false =>
  have:=h1 rfl;subst this;have bg:off<vs.length:=zO
  simp[part,sI hg,xR,hg,yA bg];rw[y01 bg];rfl
theorem PG{P}{d}{t}{ks}(h:kL P d t=some ks):∃g,uF P t=some g/\(g=true->jK P t=some ks.length)/\(g=false->ks.length=1):=by
 cases d with
 |zero=>simp[kL]at h
 |succ d =>
  unfold kL at h;unfold uF;cases hu:P.underlying t with
  |none=>simp[hu]at h
  |some ds =>
   cases ds<;>simp only[hu]at h<;>try (cases h;done)
   case bool=>cases h;simp
   case int=>cases h;simp
   case string=>cases h;simp
   grind
theorem zR{P:Program}:∀(d:Nat){t:TypeId}{ks:List Wh},kL P d t=some ks->∀{xs ys:List Value}{b:Bool},j4 ks xs ys=some b->∀w:World,
 (Op.equalIn d t (xR P t xs) (xR P t ys)).run P w = .ok b w
 |0,t,ks,h,_,_,_,_,_=>by simp[kL]at h
 |d+1,t,ks,h,xs,ys,b,he,w=>by
  obtain⟨hx,hy⟩:=KZ he;unfold kL at h;cases hu:P.underlying t with
  |none=>simp[hu]at h
  |some ds =>
   have one:∀(hna:uF P t=some false)(k:Wh)(hn:ks=[k]),∃x y,xR P t xs=x/\xR P t ys=y/\Bw k x y=some b:=by
    intro hna k hn;subst hn
    match xs,ys,hx,hy,he with
    |[x],[y],_,_,he=>exact⟨x,y,by simp[xR,hna],by simp[xR,hna],he⟩
   cases ds<;>simp only[hu]at h<;>try (cases h;done)
   case bool =>
    cases h;obtain⟨x,y,h1,h2,h3⟩:=one (by simp[uF,hu]) _ rfl;rw[h1,h2];cases x<;>cases y<;>simp only[Bw]at h3<;>first|(cases h3;done)|skip
    cases h3;simp[Op.equalIn,run_underlying hu]
   case int kd =>
    cases h;obtain⟨x,y,h1,h2,h3⟩:=one (by simp[uF,hu]) _ rfl;rw[h1,h2];cases x<;>cases y<;>simp only[Bw]at h3<;>first|(cases h3;done)|skip
    split at h3
    .rename_i e;cases h3;subst e;simp[Op.equalIn,run_underlying hu]
    .cases h3
   case string =>
    cases h;obtain⟨x,y,h1,h2,h3⟩:=one (by simp[uF,hu]) _ rfl;rw[h1,h2];cases x<;>cases y<;>simp only[Bw]at h3<;>first|(cases h3;done)|skip
    cases h3;simp[Op.equalIn,run_underlying hu]
   case struct fs =>
    split at h
    .rename_i fB;cases hp:Ci (kL P d) fs.toList 0 with
     |none=>simp[hp]at h
     |some ks' =>
      cases hs:jK P t with
      |none=>simp[hp,hs]at h
      |some k =>
       simp only[hp,hs]at h;split at h
       .rename_i e;cases h;have Z9:uF P t=some true:=by simp[uF,hu]
        have Z8:P.fieldsOf t=fs:=by simp[Program.fieldsOf,hu]
        simp only[xR,Z9,if_true];rw[run_equalIn_struct w d t _ _ (by rw[Z8];exact hu) fB,Z8];have key:∀(fl:List Field)(o:Nat)(js:List Wh)(b':Bool),Ci (kL P d) fl o=some js->o+js.length=xs.length->o+js.length=ys.length->j4 js (xs.drop o) (ys.drop o)=some b' ->
         (Op.eqFields d xs.toArray ys.toArray fl).run P w = .ok b' w:=by
         intro fl
         induction fl with
         |nil =>
          intro o js b' h1 hx1 hy1 h2;simp[Ci]at h1;subst h1;simp at hx1 hy1;rw[y17 zO,y17 zO]at h2;simp[j4]at h2;subst h2;simp[Op.eqFields]
         |cons f fl ih =>
          intro o js b' h1 hx1 hy1 h2;unfold Ci at h1;split at h1
          .rename_i hf;obtain⟨ald,Oa⟩:=hf;cases xS:kL P d f.type with
           |none=>simp[xS]at h1
           |some q =>
            simp only[xS]at h1;cases hpf:Ci (kL P d) fl (o+q.length)with
            |none=>simp[hpf]at h1
            |some js' =>
             simp[hpf]at h1;subst h1;simp only[yD]at hx1 hy1;obtain⟨g,hg1,hg2,hg3⟩:=PG xS;have e1:xs.drop o=(xs.drop o).take q.length++xs.drop (o+q.length):=by rw[<- drop_drop];exact(take_append_drop _ _).symm
             have e2:ys.drop o=(ys.drop o).take q.length++ys.drop (o+q.length):=by rw[<- drop_drop];exact(take_append_drop _ _).symm
             rw[e1,e2]at h2;obtain⟨x,y,hx',hy',rfl⟩:=D8 (by simp;omega) (by simp;omega) h2;have r1:=K3 hg1 hg2 hg3 xs o zO w;have r2:=K3 hg1 hg2 hg3 ys o zO w;have r3:=zR d xS hx' w;subst Oa;unfold Op.eqFields;rw[yL ald];simp only[Sem.run_bind,r1,r2,r3,Result.andThen_ok];cases x with
             |false=>simp
             |true=>simpa using ih _ _ _ hpf zO zO hy'
          .cases h1
        exact key fs.toList 0 ks b hp zO zO (by simpa using he)
       .cases h
    .cases h
def aac:Op->Bool
 |.select .. => true
 |_=>false
def iW(P:Program)(ev:Operand->AV)(o:Oper):Option AV :=
 if aac o.op then none else
 if o.op.operands.toList.all fun x=>(ev x).zL.isSome then
  (match vI P (execOp (fun x=>(ev x).zL.getD undef) o)with
   |some (.value v)=>some (.lit v)
   |_=>none)else none
def Nn(P:Program)(t:TypeId)(parts:List (Nat×AV)):Option AV :=
 match P.info? t,P.underlying t with
 |some it,some (.array _ e) =>
  match it.zero,P.info? e with
  |some z,some ie=>(D7 (fun i=>some (i*ie.size,ie.size)) (z.cells.toList.map .lit) parts).map .agg
  |_,_=>none
 |some it,some (.struct fields) =>
  match it.zero,fields.toList.mapM (fun f=>(P.info? f.type).map fun i=>(f.offset,i.size))with
  |some z,some places=>(D7 (places[·]?) (z.cells.toList.map .lit) parts).map .agg
  |_,_=>none
 |_,_=>none
def ru:AV->Option Int
 |.lit (.int _ n)=>some n
 |_=>none
def nk(ev:Operand->AV)(d:Int):Option Operand->Option Int
 |none=>some d
 |some x=>ru (ev x)
def bT(P:Program)(kt:TypeId)(es:List (Value×AV))(k:Value)(z x:AV)(ok:Bool):Prop :=
 Maps.Keyed P kt/\(∃l,keyOf P kt k=some l)/\(∀e∈es,∃l,keyOf P kt e.1=some l)/\((ok=true/\(k,x)∈es)\/(ok=false/\x=z/\∀e∈es,e.1≠k))
def jm(P:Program)(kt:TypeId)(es:List (Value×AV))(k:Value)(x:AV)(uz:List (Value×AV)):Prop :=
 Maps.Keyed P kt/\(∃l,keyOf P kt k=some l)/\(∀e∈es,∃l,keyOf P kt e.1=some l) /\
  ((∃aZ bs y,es=aZ++(k,y)::bs/\uz=aZ++(k,x)::bs)\/((∀e∈es,e.1≠k)/\uz=es++[(k,x)]))
def Ey(P:Program)(kt:TypeId)(es:List (Value×AV))(k:Value)(z x:AV)(i:Nat)(uz:List (Value×AV)):Prop :=
 Maps.Keyed P kt/\(∃l,keyOf P kt k=some l)/\(∀e∈es,∃l,keyOf P kt e.1=some l) /\
  ((∃aZ bs,es=aZ++(k,x)::bs/\i=aZ.length/\uz=es)\/((∀e∈es,e.1≠k)/\x=z/\i=es.length/\uz=es++[(k,z)]))
def CK(es:List (Value×AV))(i:Nat)(x:AV):List (Value×AV):=es.modify i fun e=>(e.1,x)
def Us(P:Program)(t:TypeId)(es:List (Value×AV))(k:AV)(c:Bool)(bf:List bC):Option (AV×List bC×List Prop) :=
 match P.underlying t,k.zL,bf with
 |some (.map kt et),some kv,.lJ x ok::aT=>match vI P (zeroValue et)with
  |some z=>some (if c=true then .bq [x,.lit (.bool ok)]else x,aT,[bT P kt es kv (.lit z) x ok])
  |none=>none
 |_,_,_=>none
variable {ps:List Prop}{bf aT:List bC}{es:List (Value×AV)}{t:TypeId}
theorem FL{P:Program}{uw:List (Value×AV)}(Je:uw.Perm es){k x:AV}{c:Bool}(h:Us P t es k c bf=some (x,aT,ps))(dG:gZ ps){kv:Value}(hk:dI V k kv){r:Nat}{ents:List MapEntry}{clock:Nat}(hb:V.w.heap[r]?=some (.map ents.toArray clock))(Ew:ents.map (·.key)=uw.map (·.1))(hd:(uw.map (·.1)).Nodup)(hr:∀j,j<uw.length->dI V (uq uw j) (gI ents j)):∃v,(Instr.lookup t (.map (some r)) kv c).run P V.w = .ok v V.w/\dI V x v:=by
 unfold Us at h;split at h
 .rename_i kt et ku y ok cK ht hku;split at h
  .rename_i z hz;cases h;obtain⟨⟨K,⟨l,hl⟩,LG,BK⟩,_⟩:=dG;have hz':=zJ hz V.w;obtain rfl:=fC hku hk;have LG:∀e∈uw,∃l,keyOf P kt e.1=some l:=fun e he=>LG e (Je.mem_iff.1 he);have BK:(ok=true/\(kv,y)∈uw)\/(ok=false/\y = .lit z/\∀e∈uw,e.1≠kv):=BK.imp (fun h=>⟨h.1,Je.mem_iff.2 h.2⟩) (fun h=>⟨h.1,h.2.1,fun e he=>h.2.2 e (Je.mem_iff.1 he)⟩);clear Je;have FM:∀{i:Nat}{e:MapEntry},ents[i]?=some e->∃p,uw[i]?=some p/\p.1=e.key:=fun{i e} he=>by
    have h1:(ents.map (·.key))[i]?=some e.key:=by rw[getElem?_map,he];rfl
    grind
   have Jf:∀e∈ents.toArray.toList,∃l,keyOf P kt e.key=some l:=fun e he=>by
    obtain⟨i,hi⟩:=mem_iff_getElem?.1 (by simpa using he);obtain⟨p,hp,xS⟩:=FM hi;rw[<- xS];exact LG p (mem_of_getElem? hp)
   have fin:∀{v:Value}{o:Bool}{q:AV},dI V q v->dI V (if c=true then .bq [q,.lit (.bool o)]else q) (if c=true then .tuple #[v,.bool o]else v):=fun{v o q} hq=>by
    cases c with
    |false=>exact hq
    |true=>exact .bq [q,.lit (.bool o)] [v,.bool o] rfl (bR.cons hq (.cons (.pure _ _ (.lit _)) .nil)).2
   rcases K.find V.w hl ents.toArray.toList Jf with⟨h1,h2⟩|⟨j,e0,h1,h2,h3⟩
   .have xY:∀e∈uw,e.1≠kv:=fun e he hek=>by
     have:e.1∈uw.map (·.1):=yG.2 ⟨e,he,rfl⟩;grind
    rcases BK with⟨_,hm⟩|⟨rfl,rfl,_⟩
    .exact absurd rfl (xY _ hm)
    .exact ⟨if c=true then .tuple #[z,.bool false]else z,by simp[Instr.lookup,run_underlying ht,MapKept.run_getObj_map hb,K.check V.w _ hl,h1,hz',Result.andThen],fin (.pure _ _ (.lit _))⟩
   .have h2':ents[j]?=some e0:=by simpa using h2
    obtain⟨p,hp,xS⟩:=FM h2';have aqC:=(yC.1 hp).1;rcases BK with⟨rfl,hm⟩|⟨_,_,xY⟩
    .obtain ⟨i,hi⟩:=mem_iff_getElem?.1 hm;have ale:=(yC.1 hi).1;have wQ:i=j:=by
      have a1:(uw.map (·.1))[i]?=some kv:=by rw[getElem?_map,hi];rfl
      have a2:(uw.map (·.1))[j]?=some kv:=by rw[getElem?_map,hp];simp[xS,h3]
      exact(getElem?_inj (by simpa using ale) hd).1 (a1.trans a2.symm)
     subst wQ;have hv:gI ents i=e0.val:=by unfold gI;rw[yB,h2'];rfl
     have hx:uq uw i=y:=by unfold uq;rw[yB,hi];rfl
     have:=hr i ale;rw[hv,hx]at this;exact⟨if c=true then .tuple #[e0.val,.bool true]else e0.val,by simp[Instr.lookup,run_underlying ht,MapKept.run_getObj_map hb,K.check V.w _ hl,h1,Result.andThen],fin this⟩
    .exact absurd (xS.trans h3) (xY p (mem_of_getElem? hp))
  .cases h
 .cases h
def aad(P:Program)(e:TypeId):Bool:=match P.underlying e with
 |some (.int .u8)=>true
 |_=>false
theorem Np{P}{e}(h:aad P e=true):P.underlying e=some (.int .u8):=by
 unfold aad at h;grind
def Jg(P:Program)(ev:Operand->AV)(o:Oper)(op:BinOp)(t:TypeId)(x y:Operand):Option (AV×List Prop) :=
 match op,(ev x).zL,(ev y).zL with
 |.eql,some (.agg xs),some (.agg ys)=>if P.eqGuardType P.depth t=false then(match kL P 10000 t,uF P t with
  |some ks,some true=>(j4 ks xs.toList ys.toList).map fun b=>(.lit (.bool b),[])
  |_,_=>none)else none
 |.neq,some (.agg xs),some (.agg ys)=>if P.eqGuardType P.depth t=false then(match kL P 10000 t,uF P t with
  |some ks,some true=>(j4 ks xs.toList ys.toList).map fun b=>(.lit (.bool (!b)),[])
  |_,_=>none)else none
 |.add,some (.string a),some (.string b)=>some (.lit (.string (a++b)),[((a.size+b.size:Nat):Int)<=IntKind.i64.max])
 |.shl,some (.int k a),some (.int _ n)=>some (.lit (.int k (k.wrap (a*2^(min n.toNat k.bits)))),[0<=n])
 |.shr,some (.int k a),some (.int _ n)=>some (.lit (.int k (a.fdiv (2^(min n.toNat k.bits)))),[0<=n])
 |.quo,some (.int k a),some (.int k' b)=>if k=k' then some (.lit (.int k (k.wrap (a.tdiv b))),[b≠0])else none
 |.rem,some (.int k a),some (.int k' b)=>if k=k' then some (.lit (.int k (a.tmod b)),[b≠0])else none
 |_,_,_=>(iW P ev o).map (·,[])
def aeF(P:Program)(op:BinOp)(t:TypeId)(x y:AV):Option (AV×List Prop) :=
 match op,P.underlying t,x,y with
 |.eql,some (.slice _),.sl _ _ xs,.lit (.slice none _ _)=>some (.lit (.bool false),[xs≠[]])
 |.neq,some (.slice _),.sl _ _ xs,.lit (.slice none _ _)=>some (.lit (.bool true),[xs≠[]])
 |_,_,_,_=>none
def G5(P:Program)(ev:Operand->AV)(o:Oper)(op:BinOp)(t:TypeId)(x y:Operand):Option (AV×List Prop) :=
 match aeF P op t (ev x) (ev y)with
 |some r=>some r
 |none=>Jg P ev o op t x y
def Sc(P:Program)(f:FuncId):Prop:=∃fn,P.funcs[f]?=some fn/\(fn.name == "runtime.NumGoroutine")=false/\fn.body.isNone=true/\Extern.findNext fn=none/\Extern.find fn=some Extern.BytealgCompare.compare
def Jh(s:yP):List (List AV):=s.data.toList.map fun c=>[.lit (.int .u8 c.toNat)]
def gL(P:Program)(ev:Operand->AV)(o:Oper)(bf:List bC):Option (AV×List bC×List Prop) :=
 match o.op with
 |.move x|.assign x=>some (ev x,bf,[])
 |.pick c x y=>match ev c with
  |.lit (.bool true)=>some (ev x,bf,[])
  |.lit (.bool false)=>some (ev y,bf,[])
  |_=>none
 |.load t x=>match ev x with
  |.iG cs=>(nI P t cs).map (·,bf,[])
  |_=>none
 |.fieldAddr t x f=>match zl P t f,ev x with
  |some n,.ptr id off=>some (.ptr id (off+n),bf,[])
  |some n,.iG cs=>some (.iG (cs.drop n),bf,[])
  |_,_=>none
 |.field t x f=>match D6 P t f,ev x with
  |some fd,.agg cs=>(nI P fd.type (cs.drop fd.offset)).map (·,bf,[])
  |some fd,.lit (.agg vs)=>(nI P fd.type ((vs.toList.map AV.lit).drop fd.offset)).map (·,bf,[])
  |_,_=>none
 |.indexAddr t x i=>match P.underlying t,ev x,ru (ev i)with
  |some (.slice e),.sl sz _ xs,some n=>match jK P e,bf with
   |some s,.elem y::aT=>if s=sz then some (.iG y,aT,[0<=n/\xs[n.toNat]?=some y])else none
   |_,_=>none
  |some (.array m e),.ptr id off,some n=>match jK P e with
   |some s=>some (.ptr id (off+n.toNat*s),bf,[0<=n/\n<(m:Int)])
   |none=>none
  |some (.array m e),.iG cs,some n=>match jK P e with
   |some s=>some (.iG (cs.drop (n.toNat*s)),bf,[0<=n/\n<(m:Int)])
   |none=>none
  |_,_,_=>none
 |.slice t x lo hi none=>match P.underlying t,ev x,nk ev 0 lo with
  |some (.slice e),.sl sz tg xs,some l=>match jK P e,nk ev xs.length hi with
   |some s,some h=>if s=sz then some (.sl sz (tg&&hi.isNone) ((xs.take h.toNat).drop l.toNat),bf,[0<=l/\l<=h/\h<=(xs.length:Int)])else none
   |_,_=>none
  |some .string,.lit (.string s),some l=>match nk ev s.size hi with
   |some h=>some (.lit (.string (s.extract l.toNat h.toNat)),bf,[0<=l/\l<=h/\h<=(s.size:Int)])
   |none=>none
  |_,_,_=>none
 |.slice t x lo (some hi) (some mx)=>match P.underlying t,ev x,nk ev 0 lo with
  |some (.slice e),.sl sz _ xs,some l=>match jK P e,ru (ev hi),ru (ev mx)with
   |some s,some h,some m=>if s=sz then some (.sl sz false ((xs.take h.toNat).drop l.toNat),bf,[0<=l/\l<=h/\h<=m/\m<=(xs.length:Int)])else none
   |_,_,_=>none
  |_,_,_=>none
 |.convert src dst x=>match P.underlying src,P.underlying dst,ev x,bf with
  |some (.slice e),some .string,.sl sz _ xs,.bytes s::aT=>if sz=1/\aad P e=true then some (.lit (.string s),aT,[xs=s.data.toList.map fun c=>[.lit (.int .u8 c.toNat)]])else none
  |some (.slice e),some .string,.lit (.slice none 0 0),_=>if aad P e=true then some (.lit (.string .empty),bf,[])else none
  |_,_,_,_=>(iW P ev o).map (·,bf,[])
 |.lookup t x i c=>match ev x with
  |.md _ es=>Us P t es (ev i) c bf
  |_=>none
 |.makeFunc f first captured=>some (.fn f (first.toList.map ev) (captured.toList.map ev),bf,[])
 |.extract x i=>match ev x with
  |.bq vs=>(vs[i]?).map (·,bf,[])
  |_=>none
 |.makeInterface t x=>match P.underlying t with
  |some (.interface _)=>none
  |some _=>some (.qX t (ev x),bf,[])
  |none=>none
 |.nilCheck x=>match ev x with
  |.ptr id off=>some (.ptr id off,bf,[])
  |.iG cs=>some (.iG cs,bf,[])
  |.fn (.func f) aZ bs=>some (.fn (.func f) aZ bs,bf,[])
  |_=>none
 |.build t parts=>(Nn P t (parts.toList.map fun(i,x)=>(i,ev x))).map (·,bf,[])
 |.binOp op t x y _=>(G5 P ev o op t x y).map fun(v,ps)=>(v,bf,ps)
 |.call { callee:=.builtin .len,args:=args,argTypes:=ts }=>match args.toList,ts.toList with
  |[x],[t]=>match P.underlying t,ev x with
   |some (.slice _),.sl _ _ xs=>some (.lit (.int .i64 xs.length),bf,[])
   |_,_=>(iW P ev o).map (·,bf,[])
  |_,_=>none
 |.call { callee:=.value g,args:=args,argTypes:=_ }=>match bf with
  |.alc s t::aT=>match ev g,args.toList with
   |.lit (.func (.func f) us vs),[x,y]=>match ev x,ev y with
    |.sl sz _ xs,.sl sz' _ ys=>if us.isEmpty=true/\vs.isEmpty=true/\sz=1/\sz'=1 then some (.lit (.int .i64 (Lib.compareBytes s.data.toList t.data.toList)),aT,[Sc P f,xs=Jh s,ys=Jh t])else none
    |_,_=>none
   |_,_=>none
  |_=>(iW P ev o).map (·,bf,[])
 |_=>(iW P ev o).map (·,bf,[])
variable {u:Value}{sz:Nat}
section
variable {P:Program} {V:View} {ev:Operand->AV} {ρ:Operand->Value} {o:Oper}
theorem Bz{x}(h:iW P ev o=some x)(hr:∀y∈o.op.operands,dI V (ev y) (ρ y))w :
 ∃v,(execOp ρ o).run P w = .ok (.value v) w/\dI V x v:=by
 unfold iW at h;split at h
 .cases h
 .rename_i fF;split at h
  .rename_i jH;split at h
   .rename_i v hv;cases h;have hs:∀cs b,o.op≠.select cs b:=fun cs b e=>fF (by rw[e];rfl);have:execOp ρ o=execOp (fun x=>(ev x).zL.getD undef) o:=execOp_congr o hs fun y hy=>by
     have hy':=(all_eq_true.1 jH) y (by simpa using hy);obtain⟨u,hu⟩:=Option.isSome_iff_exists.1 hy';simp only[hu];exact fC hu (hr y hy)
    rw[this];exact⟨v,zJ hv w,.pure _ _ (.lit v)⟩
   .cases h
  .cases h
theorem Nq{t}{parts}{ow:List (Nat×Value)}{x}(h:Nn P t parts=some x)(hi:ow.map (·.1)=parts.map (·.1))(hp:bR V (parts.map (·.2)) (ow.map (·.2)))w:∃v,(Instr.build t ow.toArray).run P w = .ok v w/\dI V x v:=by
 unfold Nn at h;cases Ut:P.info? t with
 |none=>simp[Ut]at h
 |some it =>
  cases hu:P.underlying t with
  |none=>simp[hu]at h
  |some d =>
   cases hz:it.zero with
   |none=>cases d<;>simp[Ut,hu,hz]at h
   |some z =>
    cases d<;>try (simp[Ut,hu]at h)
    case array n e =>
     cases QE:P.info? e with
     |none=>simp[QE]at h
     |some ie =>
      simp only[hz,QE]at h;cases hf:D7 (fun i=>some (i*ie.size,ie.size)) (z.cells.toList.map .lit) parts with
      |none=>simp[hf]at h
      |some out =>
       simp[hf]at h;subst h;obtain⟨us,hus,zm⟩:=uY hf (bR.vv  z.cells.toList) hi hp;refine⟨.agg us.toArray,run_build w t _ _ ?_,.agg _ us zm.1 zm.2⟩;simpa[Program.built,Ut,hu,hz,QE]using hus
    case struct fields =>
     cases Yu:fields.toList.mapM (fun f=>(P.info? f.type).map fun i=>(f.offset,i.size))with
     |none=>simp[Yu]at h
     |some places =>
      simp only[hz,Yu]at h;cases hf:D7 (places[·]?) (z.cells.toList.map .lit) parts with
      |none=>simp[hf]at h
      |some out =>
       simp[hf]at h;subst h;obtain⟨us,hus,zm⟩:=uY hf (bR.vv  z.cells.toList) hi hp;refine⟨.agg us.toArray,run_build w t _ _ ?_,.agg _ us zm.1 zm.2⟩;simpa[Program.built,Ut,hu,hz,Yu]using hus
theorem Ji{op:BinOp}{yt:TypeId}{x y:Operand}{v:AV}(bA:o.op = .binOp op t x y yt)(h:Jg P ev o op t x y=some (v,ps))(dG:gZ ps)(hr:∀y∈o.op.operands,dI V (ev y) (ρ y))(w:World):∃u,(execOp ρ o).run P w = .ok (.value u) w/\dI V v u:=by
 have hx:=hr x (by simp[bA,Op.operands]);have hy:=hr y (by simp[bA,Op.operands]);unfold Jg at h;split at h
 .rename_i xs ys h1 h2;split at h
  .rename_i hg;cases xS:kL P 10000 t with
   |none=>simp[xS]at h
   |some ks =>
    cases Z9:uF P t with
    |none=>simp[xS,Z9]at h
    |some g =>
     cases g with
     |false=>simp[xS,Z9]at h
     |true =>
      simp only[xS,Z9]at h;cases he:j4 ks xs.toList ys.toList with
      |none=>simp[he]at h
      |some b =>
       simp[he]at h;obtain⟨rfl,rfl⟩:=h;have e1:=fC h1 hx;have e2:=fC h2 hy;have dG:=zR 10000 xS he w;simp only[xR,Z9,if_true,Array.toArray_toList]at dG;refine⟨.bool b,?_,.pure _ _ (.lit _)⟩;unfold execOp;simp only[bA,e1,e2,Sem.run_bind,run_eqGuard_agg w .eql t x y xs ys hg,Result.andThen_ok,run_eql_struct,dG,Sem.run_pure]
  .cases h
 .rename_i xs ys h1 h2;split at h
  .rename_i hg;cases xS:kL P 10000 t with
   |none=>simp[xS]at h
   |some ks =>
    cases Z9:uF P t with
    |none=>simp[xS,Z9]at h
    |some g =>
     cases g with
     |false=>simp[xS,Z9]at h
     |true =>
      simp only[xS,Z9]at h;cases he:j4 ks xs.toList ys.toList with
      |none=>simp[he]at h
      |some b =>
       simp[he]at h;obtain⟨rfl,rfl⟩:=h;have e1:=fC h1 hx;have e2:=fC h2 hy;have dG:=zR 10000 xS he w;simp only[xR,Z9,if_true,Array.toArray_toList]at dG;refine⟨.bool (!b),?_,.pure _ _ (.lit _)⟩;unfold execOp;simp only[bA,e1,e2,Sem.run_bind,run_eqGuard_agg w .neq t x y xs ys hg,Result.andThen_ok,run_neq_struct,dG,Sem.run_pure]
  .cases h
 .rename_i a b h1 h2;cases h;have e1:=fC h1 hx;have e2:=fC h2 hy;refine⟨.string (a++b),?_,.pure _ _ (.lit _)⟩;have uQ:¬(((a.size+b.size:Nat):Int)>IntKind.i64.max):=by have:=dG.1;omega
  unfold execOp;simp only[bA,e1,e2,eqGuard_add,binOp,Op.stringOp,Sem.run_bind,Sem.run_pure,Result.andThen_ok];rw[yK uQ];simp
 .rename_i k a k2 n h1 h2;cases h;have e1:=fC h1 hx;have e2:=fC h2 hy;refine⟨_,?_,.pure _ _ (.lit _)⟩;have uQ:¬(n<0):=by have:=dG.1;omega
  unfold execOp;simp[bA,e1,e2,eqGuard,binOp,Op.shift,uQ]
 .rename_i k a k2 n h1 h2;cases h;have e1:=fC h1 hx;have e2:=fC h2 hy;refine⟨_,?_,.pure _ _ (.lit _)⟩;have uQ:¬(n<0):=by have:=dG.1;omega
  unfold execOp;simp[bA,e1,e2,eqGuard,binOp,Op.shift,uQ]
 .rename_i k a k2 b h1 h2;split at h<;>first|(cases h;done)|skip
  rename_i hk;cases h;have e1:=fC h1 hx;have e2:=fC h2 hy;refine⟨_,?_,.pure _ _ (.lit _)⟩;have uQ:=dG.1;unfold execOp;simp[bA,e1,e2,eqGuard,binOp,Op.intDiv,uQ,<- hk]
 .rename_i k a k2 b h1 h2;split at h<;>first|(cases h;done)|skip
  rename_i hk;cases h;have e1:=fC h1 hx;have e2:=fC h2 hy;refine⟨_,?_,.pure _ _ (.lit _)⟩;have uQ:=dG.1;unfold execOp;simp[bA,e1,e2,eqGuard,binOp,Op.intDiv,uQ,<- hk]
 .cases he:iW P ev o with
  |none=>simp[he]at h
  |some z =>
   simp[he]at h;obtain⟨rfl,rfl⟩:=h;exact Bz he hr w
theorem Kg{op}{t yt}{x y}{v}{ps}(bA:o.op = .binOp op t x y yt)(h:G5 P ev o op t x y=some (v,ps))(dG:gZ ps)(hr:∀y∈o.op.operands,dI V (ev y) (ρ y))w:∃u,(execOp ρ o).run P w = .ok (.value u) w/\dI V v u:=by
 unfold G5 at h;split at h
 .rename_i r hn;cases h;have hx:=hr x (by simp[bA,Op.operands]);have hy:=hr y (by simp[bA,Op.operands]);unfold aeF at hn;split at hn
  .rename_i e _ _ xs n c ht h1 h2;cases hn;rw[h1]at hx;rw[h2]at hy;have hx':=jF hx;generalize hxv:ρ x=u at hx';cases hx' with
   |sl _ _ _ A cap b o' vs hA _ _ _ _ _ _ _ =>
   refine⟨.bool false,?_,.pure _ _ (.lit _)⟩;have hAe:=hA dG.1;unfold execOp;have hq:=Lib.run_eql_slice_nil  w t e (some ⟨b,o',none⟩) xs.length cap n c ht;simp only[bA,hxv,bW hy,hAe,eqGuard,Sem.run_pure];simp[hq]
  .rename_i e _ _ xs n c ht h1 h2;cases hn;rw[h1]at hx;rw[h2]at hy;have hx':=jF hx;generalize hxv:ρ x=u at hx';cases hx' with
   |sl _ _ _ A cap b o' vs hA _ _ _ _ _ _ _ =>
   refine⟨.bool true,?_,.pure _ _ (.lit _)⟩;have hAe:=hA dG.1;unfold execOp;have hq:=Lib.run_equalIn_slice_nil  w 9999 t e (some ⟨b,o',none⟩) xs.length cap n c ht;simp[bA,hxv,bW hy,hAe,eqGuard,binOp,Op.equal,Op.maxDepth,hq]
  .cases hn
 .exact Ji bA h dG hr w
theorem iA{x}{n}{v}(h:ru x=some n)(hr:dI V x v):∃k,v = .int k n:=by
 unfold ru at h;split at h
 .cases h;exact⟨_,bW hr⟩
 .cases h
theorem tV{d:Nat}{lo}{n}(h:nk ev d lo=some n)(hr:∀y,lo=some y->dI V (ev y) (ρ y)) :
 (lo=none/\n=d)\/∃y k,lo=some y/\ρ y = .int k n:=by
 cases lo with
 |none=>simp[nk]at h;grind
 |some y =>
  obtain⟨k,hk⟩:=iA h (hr y rfl);grind
theorem D9{cs}{u}(h:dR V.w V.M (.iG cs) u):∃b o,u = .pointer (some ⟨b,o,none⟩)/\xC V b o cs /\
 ∀n,dR V.w V.M (.iG (cs.drop n)) (.pointer (some ⟨b,o+n,none⟩)):=by
 cases h with
 |iG _ a vs hs hb hc hr =>
  obtain⟨b,o,sp⟩:=a;subst hs;refine⟨b,o,rfl,⟨(List.range cs.length).map vs,bR.aoC zS fun j hj=>?_,fun j hj=>?_⟩,fun n=>?_⟩
  .grind
  .grind
  .refine .iG _ ⟨b,o+n,none⟩ (fun j=>vs (n+j)) rfl (fun fF=>hb fun e=>fF (by rw[e];simp)) (fun j hj=>?_) fun j hj=>?_
   .grind
   grind
theorem zU{tg:Bool}{xs}(h:dR V.w V.M (.sl sz tg xs) u):∃A cap,u = .slice A xs.length cap/\xs.length<=cap/\(tg=true->cap=xs.length) /\
 (∀k y,xs[k]?=some y->∃b o,A=some ⟨b,o,none⟩/\dR V.w V.M (.iG y) (.pointer (some ⟨b,o+k*sz,none⟩))) /\
 (∀l m tg',l<=m->m<=xs.length->(tg'=true->tg=true/\m=xs.length)->dR V.w V.M (.sl sz tg' ((xs.take m).drop l)) (.slice (if cap=l then A else A.map (·.add (l*sz))) (m-l) (cap-l))) /\
 (∀x∈xs,x.length=sz):=by
 cases h with
 |sl _ _ _ A cap b o vs hA hb pK ht iZ hc ho hr =>
  refine⟨A,cap,rfl,pK,ht,fun k y hk=>?_,fun l m tg' hlm hm htg=>?_,iZ⟩
  .have bg:=(yC.1 hk).1;have fF:xs≠[]:=fun e=>by rw[e]at bg;simp at bg
   have hy:=iZ y (mem_of_getElem? hk);have hyk:xs.getD k []=y:=by rw[yB,hk];rfl
   refine⟨b,o,hA fF,.iG y ⟨b,o+k*sz,none⟩ (fun j=>vs k j) rfl (fun hy0=>hb fF (fun e=>hy0 (y02 zO))) (fun j hj=>hc k j bg zO) fun j hj=>?_⟩;grind
  .have hl':((xs.take m).drop l).length=m-l:=by simp;omega
   have BK:∀k,k<m-l->((xs.take m).drop l).getD k []=xs.getD (l+k) []:=fun k hk=>by
    simp[yB,show l+k<m by omega]
   have Y2:dR V.w V.M (.sl sz tg' ((xs.take m).drop l)) (.slice (if cap=l then A else A.map (·.add (l*sz))) ((xs.take m).drop l).length (cap-l)):=by
    refine .sl sz tg' _ _ (cap-l) b (o+l*sz) (fun k j=>vs (l+k) j) (fun fF=>?_) (fun fF hz=>?_) (by rw[hl'];omega) (fun h=>?_) (fun x hx=>?_) (fun k j hk hj=>?_) (fun k j hk hj=>ho (l+k) j (by rw[hl']at hk;omega) hj) (fun k j hk hj=>?_)
    .have:l<m:=by
      rcases y08 l m with h|h
      .exact h
      grind
     have afo:xs≠[]:=fun e=>by rw[e]at hm;simp at hm;omega
     rw[yK zO,hA afo];simp[Addr.add_lit]
    .have:xs≠[]:=fun e=>fF (by rw[e];simp);exact hb this hz
    .obtain ⟨h1,h2⟩:=htg h;grind
    .exact iZ x (mem_of_mem_take (mem_of_mem_drop hx))
    .grind
    grind
   grind
theorem tH{xs:List Operand}(h:∀x∈xs,dI V (ev x) (ρ x)):bR V (xs.map ev) (xs.map ρ) :=
 ⟨zS,fun j hj=>by
  simp_all⟩
theorem mV{b}{len cap}{lo hi}{l h}(hl:lo=none/\l=0\/∃k,lo=some (.int k l))(hh:hi=none/\h=len\/∃k,hi=some (.int k h))(h1:l<=h)(h2:h<=cap)w:(Instr.sliceBounds b len cap lo hi none).run P w = .ok (l,h,cap) w:=by
 rcases hl with⟨rfl,rfl⟩|⟨k,rfl⟩<;>rcases hh with⟨rfl,rfl⟩|⟨k',rfl⟩ <;>
  simp[Instr.sliceBounds,Instr.sliceBound,asIntOf,h1,h2]
theorem wJ{len cap}{lo}{l h m}(hl:lo=none/\l=0\/∃k,lo=some (.int k l)){k1 k2}(h1:l<=h)(h2:h<=m)(h3:m<=cap)w:(Instr.sliceBounds true len cap lo (some (.int k1 h)) (some (.int k2 m))).run P w = .ok (l,h,m) w:=by
 rcases hl with⟨rfl,rfl⟩|⟨k,rfl⟩<;>simp[Instr.sliceBounds,Instr.sliceBound,asIntOf,h1,h2,h3]
theorem aae{w}{M}{sz}{tg}{ys}{A A'}{n c c'}(h:dR w M (.sl sz tg ys) (.slice A n c))(hA:ys≠[]->A'=A)(hc:n<=c'):dR w M (.sl sz false ys) (.slice A' n c'):=by
 cases h with
 |sl _ _ _ _ _ b o vs h1 h2 h3 h4 h5 h6 h7 h8=>exact .sl sz false ys A' c' b o vs (fun hn=>(hA hn).trans (h1 hn)) h2 hc (fun h=>by cases h) h5 h6 h7 h8
theorem Jj{w}{M}{tg}{s:yP}{u}(h:dR w M (.sl 1 tg (s.data.toList.map fun c=>[AV.lit (.int .u8 c.toNat)])) u) :
 ∃A cap,u = .slice A s.size cap/\(s.size=0\/∃b o,A=some ⟨b,o,none⟩/\∀i,i<s.size->w.cell? ⟨b,o+i,none⟩=some (.int .u8 ((s.data.toList.map fun c=>c.toNat).getD i 0))):=by
 cases h with
 |sl _ _ _ A cap b o vs h1 h2 h3 h4 h5 h6 h7 h8 =>
  have hl:(s.data.toList.map fun c=>[AV.lit (.int .u8 c.toNat)]).length=s.size:=by rw[y10];rfl
  refine⟨A,cap,by rw[hl],?_⟩;rcases Nat.eq_zero_or_pos s.size with h0|hp
  .exact .inl h0
  .refine .inr ⟨b,o,h1 (by grind),fun i hi=>?_⟩;have hi':i<(s.data.toList.map fun c=>[AV.lit (.int .u8 c.toNat)]).length:=zO
   have hc:=h6 i 0 hi' zO;have hr:=h8 i 0 hi' zO;simp only[Nat.mul_one,Nat.add_zero]at hc;rw[hc];generalize vs i 0=u at hr;have e1:(s.data.toList.map fun c=>[AV.lit (.int .u8 c.toNat)]).getD i []=[AV.lit (.int .u8 (s.data.toList[i]).toNat)]:=by grind
   have e2:(s.data.toList.map fun c=>(c.toNat:Int)).getD i 0=(s.data.toList[i]).toNat:=by grind
   rw[e1]at hr;rw[e2];cases hr;rfl
theorem Ea{w}{M}{tg}{s}{u}(h:dR w M (.sl 1 tg (Jh s)) u):(Extern.Bytes.bytesOf u).run P w = .ok s w:=by
 obtain⟨A,cap,rfl,hc⟩:=Jj h;have hz:s.size=0->s = .empty:=fun h0=>by
  simp_all
 cases A with
 |none =>
  rcases hc with h0|⟨b,o,he,_⟩
  .rw [hz h0];rfl
  .cases he
 |some a =>
  show(Extern.Bytes.loadBytes a s.size .empty).run P w=_;rcases hc with h0|⟨b,o,he,lT⟩
  .rw [hz h0];rfl
  .cases he;have hl:(s.data.toList.map fun c=>(c.toNat:Int)).length=s.size:=by rw[y10];rfl
   have:=Lib.run_loadBytesX (P:=P) w (s.data.toList.map fun c=>c.toNat) ⟨b,o,none⟩ .empty (fun j x hj=>by
    have JN:=(yC.1 hj).1;have e:(⟨b,o,none⟩:Addr).add j=⟨b,o+j,none⟩:=by unfold Addr.add;simp
    grind)
   rw[hl]at this;rw[this];have e:Lib.bytesOf (s.data.toList.map fun c=>c.toNat)=s.data.toList:=by
    unfold Lib.bytesOf;rw[map_map];refine(map_congr_left fun c _=>?_).trans (map_id _);simp
   simp_all
theorem Nr{f}(hx:Sc P f){w}{M}{tg th}{s t}{u v}(h1:dR w M (.sl 1 tg (Jh s)) u)(h2:dR w M (.sl 1 th (Jh t)) v) :
 (callFunc f #[u,v]).run P w = .ok (.value (.int .i64 (Lib.compareBytes s.data.toList t.data.toList))) w:=by
 obtain⟨fn,k1,k2,k3,k4,k5⟩:=hx;rw[run_callFunc_extern k1 k2 k3 k4 k5];have:(Extern.BytealgCompare.compare #[u,v]).run P w = .ok (.int .i64 (Lib.compareBytes s.data.toList t.data.toList)) w:=by
  show Sem.run P (do pure (goInt (Extern.BytealgCompare.cmp (<- Extern.Bytes.bytesOf u) (<- Extern.Bytes.bytesOf v)))) w=_;simp only[Sem.run_bind,Ea h1,Ea h2,Result.andThen];rw[Lib.cmp_eq];rfl
 simp_all
theorem Rj{x:AV}(h:gL P ev o bf=some (x,aT,ps))(dG:gZ ps)(hr:∀y∈o.op.operands,dI V (ev y) (ρ y)) :
 ∃v,(execOp ρ o).run P V.w = .ok (.value v) V.w/\dI V x v:=by
 have lit:∀{x aT ps},(iW P ev o).map (fun v=>(v,bf,([]:List Prop)))=some (x,aT,ps)->∃v,(execOp ρ o).run P V.w = .ok (.value v) V.w/\dI V x v:=by
  intro x aT ps h;cases he:iW P ev o with
  |none=>simp[he]at h
  |some z=>simp[he]at h;obtain⟨rfl,_⟩:=h;exact Bz he hr V.w
 unfold gL at h;split at h
 all_goals (try (exact lit h))
 .rename_i y bA;cases h;exact⟨ρ y,by rw[execOp,bA];rfl,hr y (by simp[bA,Op.operands])⟩
 .rename_i y bA;cases h;exact⟨ρ y,by rw[execOp,bA];rfl,hr y (by simp[bA,Op.operands])⟩
 .rename_i c y z bA;have hc:=hr c (by simp[bA,Op.operands]);split at h
  .rename_i e;cases h;rw[e]at hc;exact⟨ρ y,by rw[execOp,bA];simp[bW hc,asBool],hr y (by simp[bA,Op.operands])⟩
  .rename_i e;cases h;rw[e]at hc;exact⟨ρ z,by rw[execOp,bA];simp[bW hc,asBool],hr z (by simp[bA,Op.operands])⟩
  .cases h
 .rename_i t y bA;have hy:=hr y (by simp[bA,Op.operands]);split at h
  .rename_i cs e;rw[e]at hy;cases hl:nI P t cs with
   |none=>simp[hl]at h
   |some z =>
    simp[hl]at h;obtain⟨rfl,_⟩:=h;obtain⟨b,of,he,hc,_⟩:=D9 (pR hy);obtain⟨v,hv,Sd⟩:=uS hl hc;exact⟨v,by rw[execOp,bA];simp[he,Instr.loadAt,Instr.sureAddr,hv],Sd⟩
  .cases h
 .rename_i t y f bA;have hy:=hr y (by simp[bA,Op.operands]);split at h
  .rename_i n id off hf e;cases h;rw[e]at hy;obtain⟨hk,he⟩:=jr hy;exact⟨.pointer (some ⟨V.ρ id,off+n,none⟩),by rw[execOp,bA];simp[he,zN hf],.ptr id _ hk⟩
  .rename_i n cs hf e;cases h;rw[e]at hy;obtain⟨b,of,he,_,hd⟩:=D9 (pR hy);exact⟨.pointer (some ⟨b,of+n,none⟩),by rw[execOp,bA];simp[he,zN hf],.pure _ _ (hd n)⟩
  .cases h
 .rename_i t y f bA;have hy:=hr y (by simp[bA,Op.operands]);have fld:∀{fd cs vs},D6 P t f=some fd->ρ y = .agg (toArray vs)->bR V cs vs->∀{z},nI P fd.type (cs.drop fd.offset)=some z->∃v,(execOp ρ o).run P V.w = .ok (.value v) V.w/\dI V z v:=by
   intro fd cs vs NT he NU z hl;obtain⟨v,hv,Sd⟩:=Sb NU hl;unfold D6 at NT;cases hu:P.underlying t with
   |none=>simp[hu]at NT
   |some d =>
    cases d<;>simp only[hu]at NT<;>try (cases NT;done)
    exact⟨v,by rw[execOp,bA];simp[he,Instr.field,run_underlying hu,NT,asAgg,hv],Sd⟩
  split at h
  .rename_i fd cs NT e;rw[e]at hy;obtain⟨vs,he,NU⟩:=uO hy;cases hl:nI P fd.type (cs.drop fd.offset)with
   |none=>simp[hl]at h
   |some z=>simp[hl]at h;obtain⟨rfl,_⟩:=h;exact fld NT he NU hl
  .rename_i fd vs NT e;rw[e]at hy;cases hl:nI P fd.type ((vs.toList.map AV.lit).drop fd.offset)with
   |none=>simp[hl]at h
   |some z=>simp[hl]at h;obtain⟨rfl,_⟩:=h;exact fld NT (by rw[bW hy]) (bR.vv vs.toList) hl
  .cases h
 .rename_i t y i bA;have hy:=hr y (by simp[bA,Op.operands]);have hi:=hr i (by simp[bA,Op.operands]);split at h
  .rename_i e sz tg xs n hu wR hn;split at h
   .rename_i s y' mK hs;split at h
    .rename_i iZ;cases h;obtain⟨U5,hxk⟩:=dG.1;obtain⟨k,hk⟩:=iA hn hi;rw[wR]at hy;obtain⟨A,cap,he,_,_,hix,_,_⟩:=zU (jF hy);obtain⟨b,of,rfl,hp⟩:=hix _ _ hxk;have bg:=(yC.1 hxk).1;subst iZ;refine⟨.pointer (some ⟨b,of+n.toNat*s,none⟩),?_,.pure _ _ hp⟩;rw[execOp,bA];simp[he,hk,Instr.indexAt,asIntOf,run_underlying hu,jq hs,Addr.add_lit,U5,show n<(xs.length:Int) by omega]
    .cases h
   .cases h
  .rename_i m e id off n hu wR hn;split at h
   .rename_i s hs;cases h;obtain⟨U5,hnm⟩:=dG.1;obtain⟨k,hk⟩:=iA hn hi;rw[wR]at hy;obtain⟨hkd,he⟩:=jr hy;refine⟨.pointer (some ⟨V.ρ id,off+n.toNat*s,none⟩),?_,.ptr id _ hkd⟩;rw[execOp,bA];simp[he,hk,Instr.indexAt,asIntOf,run_underlying hu,jq hs,Addr.add_lit,U5,hnm,Instr.sureAddr]
   .cases h
  .rename_i m e cs n hu wR hn;split at h
   .rename_i s hs;cases h;obtain⟨U5,hnm⟩:=dG.1;obtain⟨k,hk⟩:=iA hn hi;rw[wR]at hy;obtain⟨b,of,he,_,hd⟩:=D9 (pR hy);refine⟨.pointer (some ⟨b,of+n.toNat*s,none⟩),?_,.pure _ _ (hd _)⟩;rw[execOp,bA];simp[he,hk,Instr.indexAt,asIntOf,run_underlying hu,jq hs,Addr.add_lit,U5,hnm,Instr.sureAddr]
   .cases h
  .cases h
 .rename_i t y lo hi bA;have hy:=hr y (by simp[bA,Op.operands]);have hlo:∀z,lo=some z->dI V (ev z) (ρ z):=fun z hz=>hr z (by simp[bA,Op.operands,hz]);have hhi:∀z,hi=some z->dI V (ev z) (ρ z):=fun z hz=>hr z (by simp[bA,Op.operands,hz]);have bd:∀{x:Option Operand}{d:Nat}{n:Int},nk ev d x=some n->(∀z,x=some z->dI V (ev z) (ρ z))->0<=n->(x.map ρ=none/\n.toNat=d\/∃k,x.map ρ=some (.int k (n.toNat:Int))):=by
   intro x d n h hz hn;rcases tV h hz with⟨rfl,rfl⟩|⟨z,k,rfl,hk⟩
   .exact .inl ⟨rfl,zS⟩
   .exact .inr ⟨k,by rw[Option.map_some,hk,Int.toNat_of_nonneg hn]⟩
  split at h
  .rename_i e sz tg xs l hu wR hl;split at h
   .rename_i s hv hs hh;split at h
    .rename_i iZ;cases h;obtain⟨h1,h2,h3⟩:=dG.1;rw[wR]at hy;obtain⟨A,cap,he,pK,_,_,Y2,_⟩:=zU (jF hy);have hb:=mV (P:=P) (b:=true) (len:=xs.length) (cap:=cap) (bd hl hlo h1) (bd hh hhi zO) zO zO V.w;subst iZ;refine⟨_,?_,.pure _ _ (Y2 l.toNat hv.toNat (tg&&hi.isNone) zO zO (fun ht=>?_))⟩
     .rw [execOp,bA];simp[he,Instr.sliceAt,Instr.slice,run_underlying hu,jq hs,hb]
     .simp only[y04]at ht;refine⟨ht.1,?_⟩;have:hi=none:=by simpa using ht.2
      subst this;simp[nk]at hh;omega
    .cases h
   .cases h
  .rename_i s l hu wR hl;split at h
   .rename_i hv hh;cases h;obtain⟨h1,h2,h3⟩:=dG.1;rw[wR]at hy;have he:=bW hy;have hb:=mV (P:=P) (b:=false) (len:=s.size) (cap:=s.size) (bd hl hlo h1) (bd hh hhi zO) zO zO V.w;refine⟨.string (s.extract l.toNat hv.toNat),?_,.pure _ _ (.lit _)⟩;rw[execOp,bA];simp[he,Instr.sliceAt,Instr.slice,run_underlying hu,hb]
   .cases h
  .cases h
 .rename_i t y lo hi mx bA;have hy:=hr y (by simp[bA,Op.operands]);have hlo:∀z,lo=some z->dI V (ev z) (ρ z):=fun z hz=>hr z (by simp[bA,Op.operands,hz]);have hhi:=hr hi (by simp[bA,Op.operands]);have Pf:=hr mx (by simp[bA,Op.operands]);have bd:∀{x:Option Operand}{d:Nat}{n:Int},nk ev d x=some n->(∀z,x=some z->dI V (ev z) (ρ z))->0<=n->(x.map ρ=none/\n.toNat=d\/∃k,x.map ρ=some (.int k (n.toNat:Int))):=by
   intro x d n h hz hn;rcases tV h hz with⟨rfl,rfl⟩|⟨z,k,rfl,hk⟩
   .exact .inl ⟨rfl,zS⟩
   .exact .inr ⟨k,by rw[Option.map_some,hk,Int.toNat_of_nonneg hn]⟩
  split at h<;>first|(cases h;done)|skip
  rename_i e sz tg xs l hu wR hl;split at h<;>first|(cases h;done)|skip
  rename_i s hv mv hs hh hm;split at h<;>first|(cases h;done)|skip
  rename_i iZ;cases h;obtain⟨h1,h2,h3,h4⟩:=dG.1;rw[wR]at hy;obtain⟨A,cap,he,pK,_,_,Y2,_⟩:=zU (jF hy);obtain⟨k1,hk1⟩:=iA hh hhi;obtain⟨k2,Oc⟩:=iA hm Pf;have hb:=wJ (P:=P) (len:=xs.length) (cap:=cap) (k1:=k1) (k2:=k2) (h:=hv.toNat) (m:=mv.toNat) (bd hl hlo h1) zO zO zO V.w;rw[Int.toNat_of_nonneg (by omega:0<=hv),Int.toNat_of_nonneg (by omega:0<=mv)]at hb;subst iZ;refine⟨_,?_,.pure _ _ (aae (Y2 l.toNat hv.toNat false zO zO (fun ht=>by cases ht)) (A':=if mv.toNat=l.toNat then A else A.map (·.add (l.toNat*s))) (c':=mv.toNat-l.toNat) (fun hn=>?_) zO)⟩
  .rw [execOp,bA];simp[he,Instr.sliceAt,Instr.slice,run_underlying hu,jq hs,hb,hk1,Oc]
  .have bg:l.toNat<hv.toNat:=by
    rcases y08 l.toNat hv.toNat with h|h
    .exact h
    .exact absurd (y14 (by rw[y18];omega)) hn
   rw[yK zO,yK zO]
 .rename_i src dst y bA;have hy:=hr y (by simp[bA,Op.operands]);split at h
  .rename_i e sz tg xs s mK VH VD wR;split at h<;>first|(cases h;done)|skip
   rename_i hc;obtain⟨rfl,he⟩:=hc;have he:=Np he;cases h;have EO:=dG.1;subst EO;rw[wR]at hy;obtain⟨A,cap,hu,y8⟩:=Jj (jF hy);refine⟨.string s,?_,.pure _ _ (.lit _)⟩;rw[execOp,bA];simp only[hu,Sem.run_bind];rcases y8 with h0|⟨b,of,rfl,lT⟩
   .have hse:s=y28:=by
     have:=Array.eq_empty_of_size_eq_zero h0;cases s;simp only at this;subst this;rfl
    cases A with
    |none=>rw[h0,run_convert_bytes_nil V.w src e VH he 0 cap dst VD];simp[hse]
    |some a =>
     rw[run_convert_bytes_string V.w src dst e (some a) s.size cap VH he VD,run_bytesToString V.w a s.size cap [] (by rw[h0];exact run_loadCells_list V.w a [] (fun j v hj=>by simp at hj))];simp[hse]
   .rw [run_convert_bytes_arg V.w src e VH he b of s.size cap (s.data.toList.map fun c=>(c.toNat:Int)) (by rw[y10];rfl) lT dst VD];have:strOfNums (s.data.toList.map fun c=>(c.toNat:Int))=s:=by
     unfold strOfNums;rw[map_map];have hf:((fun n:Int=>UInt8.ofNat n.toNat)∘fun c:UInt8=>(c.toNat:Int))=id:=by
      funext c;show UInt8.ofNat (c.toNat:Int).toNat=c;rw[y26];exact UInt8.ofNat_toNat
     rw[hf,map_id]
    simp[this]
  .rename_i e VH VD wR;split at h<;>first|(cases h;done)|skip
   rename_i he;have he:=Np he;cases h;rw[wR]at hy;refine⟨.string .empty,?_,.pure _ _ (.lit _)⟩;rw[execOp,bA];simp only[bW hy,Sem.run_bind];rw[run_convert_bytes_nil V.w src e VH he 0 0 dst VD];simp
  .exact lit h
 .rename_i t y i c bA;have hy:=hr y (by simp[bA,Op.operands]);have hi:=hr i (by simp[bA,Op.operands]);split at h
  .rename_i es he;rw[he]at hy;have key:∃r,ρ y = .map (some r)/\∃ents clock,V.w.heap[r]?=some (.map (toArray ents) clock)/\∃uw:List (Value×AV),uw.Perm es/\ents.map (·.key)=uw.map (·.1)/\(uw.map (·.1)).Nodup/\∀j,j<uw.length->dI V (uq uw j) (gI ents j):=by
    have hq:=zM hy;generalize ρ y=u at hq;cases hq with
    |md _ _ uw hp r ents clock hb hc hk hd Ii _=>exact⟨r,rfl,ents,clock,hc,uw,hp,hk,hd,fun j hj=>.pure _ _ (Ii j hj)⟩
   obtain⟨r,hu,ents,clock,hc,uw,hp,hk,hd,Ii⟩:=key;obtain⟨v,h1,h2⟩:=FL hp h dG hi hc hk hd Ii;exact⟨v,by rw[execOp,bA];simp[hu,h1],h2⟩
  .cases h
 .rename_i f fs cs bA;cases h;have h1:=tH (V:=V) (ev:=ev) (ρ:=ρ) (xs:=fs.toList) fun z hz=>hr z (by simp[bA,Op.operands];exact .inl (by simpa using hz));have h2:=tH (V:=V) (ev:=ev) (ρ:=ρ) (xs:=cs.toList) fun z hz=>hr z (by simp[bA,Op.operands];exact .inr (by simpa using hz));refine⟨.func f (fs.toList.map ρ).toArray (cs.toList.map ρ).toArray,?_,.fn f _ _ _ _ h1.1 h2.1 h1.2 h2.2⟩;rw[execOp,bA];simp[Instr.makeFunc];exact⟨by apply Array.ext';simp,by apply Array.ext';simp⟩
 .rename_i y i bA;have hy:=hr y (by simp[bA,Op.operands]);split at h
  .rename_i vs e;rw[e]at hy;obtain⟨us,he,NU⟩:=GI hy;cases hi:vs[i]? with
   |none=>simp[hi]at h
   |some z =>
    simp[hi]at h;obtain⟨rfl,_⟩:=h;have bg:=(yC.1 hi).1;have oL:i<us.length:=by rw[NU.1];exact bg
    have:=NU.2 i bg;rw[yB,hi,yB,yA oL]at this;exact⟨us[i],by rw[execOp,bA];simp[he,Instr.extract,oL],this⟩
  .cases h
 .rename_i t y bA;have hy:=hr y (by simp[bA,Op.operands]);split at h
  .cases h
  .rename_i d fF hu;cases h;refine⟨.iface t (ρ y),?_,.qX t _ _ hy⟩;rw[execOp,bA];simp only[Instr.makeInterface,Sem.run_bind,run_underlying hu,Result.andThen_ok];cases d<;>first|rfl|exact absurd hu (fF _)
  .cases h
 .rename_i y bA;have hy:=hr y (by simp[bA,Op.operands]);split at h
  .rename_i id off e;cases h;rw[e]at hy;obtain⟨hk,he⟩:=jr hy;exact⟨_,by rw[execOp,bA];simp[he];rfl,by rw[<- he];exact hy⟩
  .rename_i cs e;cases h;rw[e]at hy;obtain⟨b,of,he,_,_⟩:=D9 (pR hy);exact⟨_,by rw[execOp,bA];simp[he];rfl,by rw[<- he];exact hy⟩
  .rename_i f aZ bs e;cases h;rw[e]at hy;obtain⟨us,vs,he,_,_⟩:=yY hy;exact⟨_,by rw[execOp,bA];simp[he];rfl,by rw[<- he];exact hy⟩
  .cases h
 .rename_i t parts bA;cases hb:Nn P t (parts.toList.map fun(x:Nat×Operand)=>(x.1,ev x.2))with
  |none=>simp[hb]at h
  |some z =>
   simp[hb]at h;obtain⟨rfl,_⟩:=h;have NU:=tH (V:=V) (ev:=ev) (ρ:=ρ) (xs:=parts.toList.map (·.2)) fun y hy=>hr y (by
    simp only[bA,Op.operands];simpa using hy)
   obtain⟨v,hv,Sd⟩:=Nq (V:=V) (ow:=parts.toList.map fun(x:Nat×Operand)=>(x.1,ρ x.2)) hb zS (by simpa[Function.comp_def]using NU) V.w;refine⟨v,?_,Sd⟩;rw[execOp,bA];have:(parts.map fun(x:Nat×Operand)=>(x.1,ρ x.2))=(parts.toList.map fun(x:Nat×Operand)=>(x.1,ρ x.2)).toArray:=by
    apply Array.ext';simp
   simp only[this,Sem.run_bind,hv,Result.andThen_ok,Sem.run_pure]
 .rename_i op t y z yt bA;cases hb:G5 P ev o op t y z with
  |none=>simp[hb]at h
  |some r =>
   obtain⟨v,ps'⟩:=r;simp[hb]at h;obtain⟨rfl,_,rfl⟩:=h;exact Kg bA hb dG hr V.w
 .rename_i args ts bA;split at h
  .rename_i y t ha ht;split at h
   .rename_i e sz tg xs hu hx;cases h;have hy:=hr y (by simp[bA,Op.operands,Call.operands];rw[<- Array.mem_toList_iff,ha];simp);rw[hx]at hy;obtain⟨A,cap,he,_⟩:=zU (jF hy);have ha':args=#[y]:=by apply Array.ext';simpa using ha
    have ht':ts=#[t]:=by apply Array.ext';simpa using ht
    subst ha' ht';refine⟨.int .i64 xs.length,?_,.pure _ _ (.lit _)⟩;rw[execOp,bA];simp[resolve,invoke,builtin,Builtin.len_,run_underlying hu,he,goInt]
   .exact lit h
  .cases h
 .rename_i g args ts bA;split at h
  .rename_i s t cK;split at h
   .rename_i f us vs y z hg ha;split at h
    .rename_i sz tg xs sz' th ys hy hz;split at h
     .rename_i hc;obtain⟨h1,h2,rfl,rfl⟩:=hc;cases h;obtain⟨hx,rfl,rfl,_⟩:=dG;have ha':args=#[y,z]:=by apply Array.ext';simpa using ha
      subst ha';have hgr:=hr g (by simp[bA,Op.operands,Call.operands]);have hyr:=hr y (by simp[bA,Op.operands,Call.operands]);have hzr:=hr z (by simp[bA,Op.operands,Call.operands]);rw[hg]at hgr;rw[hy]at hyr;rw[hz]at hzr;have hgv:=bW hgr;have e1:us=#[]:=by simpa using h1
      have e2:vs=#[]:=by simpa using h2
      subst e1 e2;have k:=Nr hx (w:=V.w) (jF hyr) (jF hzr);refine⟨_,?_,.pure _ _ (.lit _)⟩;rw[execOp,bA];simp[resolve,Deferred.ofValue,invoke,hgv,k]
     .cases h
    .cases h
   .cases h
  .exact lit h
end
def dz(P:Program)(H:List ah)(ev:Operand->AV)(o:Oper)(bf:List bC):Option (AV×List bC×List Prop) :=
 match o.op with
 |.load t x=>match ev x with
  |.ptr id off=>match H[id]? with
   |some (.box cells)=>(nI P t (cells.drop off)).map (·,bf,[])
   |_=>none
  |.jC id g k j=>match H[id]?,bf with
   |some (.aN g' _ _ xs),.elem y::aT=>(nI P t (y.drop j)).map (·,aT,[g'=g,xs[k]?=some y])
   |_,_=>none
  |_=>none
 |.fieldAddr t x f=>match zl P t f,ev x with
  |some n,.jC id g k j=>match H[id]? with
   |some (.aN g' _ _ _)=>some (.jC id g k (j+n),bf,[g'=g])
   |_=>none
  |_,_=>none
 |.indexAddr t x i=>match P.underlying t,ev x,ru (ev i)with
  |some (.slice e),.aU id g off len,some n=>match jK P e,H[id]? with
   |some s,some (.aN g' sz _ _)=>if s=sz then some (.jC id g (off+n.toNat) 0,bf,[g'=g,0<=n/\n<(len:Int)])else none
   |_,_=>none
  |_,_,_=>none
 |.slice t x lo hi none=>match P.underlying t,ev x,nk ev 0 lo with
  |some (.slice e),.aU id g off len,some l=>match jK P e,H[id]?,nk ev len hi with
   |some s,some (.aN g' sz _ xs),some h=>if s=sz then(match bf with
    |.aeD _ _::cK=>some (.aU id g (off+l.toNat) (h.toNat-l.toNat),cK,[g'=g,0<=l/\l<=h/\(off:Int)+h<=(xs.length:Int),0<sz])
    |_=>some (.aU id g (off+l.toNat) (h.toNat-l.toNat),bf,[g'=g,0<=l/\l<=h/\h<=(len:Int)]))else none
   |_,_,_=>none
  |_,_,_=>none
 |.slice t x lo (some hi) (some mx)=>match P.underlying t,ev x,nk ev 0 lo with
  |some (.slice e),.aU id g _ len,some l=>match jK P e,H[id]?,ru (ev hi),ru (ev mx)with
   |some s,some (.aN g' sz _ _),some h,some m=>if s=sz then some (.aP,bf,[g'=g,0<=l/\l<=h/\h<=m/\m<=(len:Int)])else none
   |_,_,_,_=>none
  |_,_,_=>none
 |.call { callee:=.builtin .len,args:=args,argTypes:=ts }=>match args.toList,ts.toList with
  |[x],[t]=>match P.underlying t,ev x with
   |some (.slice _),.aU id g _ len=>match H[id]? with
    |some (.aN g' _ _ _)=>some (.lit (.int .i64 len),bf,[g'=g])
    |_=>none
   |some (.map _ _),.mp id=>match H[id]? with
    |some (.map es)=>some (.lit (.int .i64 es.length),bf,[])
    |_=>none
   |_,_=>none
  |_,_=>none
 |.lookup t x i c=>match ev x with
  |.mp id=>match H[id]? with
   |some (.map es)=>Us P t es (ev i) c bf
   |_=>none
  |_=>none
 |.entry x=>match ev x with
  |.ptr id 0=>match H[id]? with
   |some (.iter (some e) _)=>some (.bq [.lit e.1,e.2],bf,[])
   |_=>none
  |_=>none
 |.nilCheck x=>match ev x with
  |.jC id g k j=>match H[id]? with
   |some (.aN g' _ _ _)=>some (.jC id g k j,bf,[g'=g])
   |_=>none
  |_=>none
 |_=>none
section
variable {P:Program} {G:Nat->Option (List AV)} {V:View} {ev:Operand->AV} {ρ:Operand->Value} {o:Oper}
theorem wD(hG:aD G V){id}{cells}(h:V.H[id]?=some (.box cells)):xC V (V.ρ id) 0 cells:=by
 obtain⟨t,vs,h1,h2⟩:=hG.eP id _ h;refine⟨vs,h2,fun j hj=>?_⟩;have:j<vs.length:=by rw[h2.1];exact hj
 simp[World.cell?,h1,this]
theorem Wi(hG:aD G V){id g sz}{fz}{xs}(h:V.H[id]?=some (.aN g sz fz xs)){k}{y}(hy:xs[k]?=some y):y.length=sz/\xC V (V.ρ id) (k*sz) y:=by
 obtain⟨t,c,h1,h2,h3,h4⟩:=hG.eP id _ h;have bg:=(yC.1 hy).1;have bL:=h3 y (mem_of_getElem? hy);refine⟨bL,(List.range sz).map fun j=>c.getD (k*sz+j) undef,⟨by simp[bL],fun j hj=>?_⟩,fun j hj=>?_⟩
 .obtain ⟨v,hv,_,hr⟩:=h4 k j bg zO;simp_all
 .obtain ⟨v,hv,_,hr⟩:=h4 k j bg zO;have e:((List.range sz).map fun j=>c.getD (k*sz+j) undef).getD j undef=v:=by
   simp[show j<sz by omega,hv]
  rw[e];simp[World.cell?,h1,hv]
theorem wK(hG:aD G V){id}{es}(h:V.H[id]?=some (.map es)):∃ents clock,V.w.heap[V.ρ id]?=some (.map (toArray ents) clock)/\ents.map (·.key)=es.map (·.1)/\(es.map (·.1)).Nodup /\
 ents.map (·.born)=List.range ents.length/\clock=ents.length/\∀j,j<es.length->dI V (uq es j) (gI ents j):=hG.eP id _ h
theorem G6{id g k j}{v}{sz}{fz}{xs}(hH:V.H[id]?=some (.aN g sz fz xs))(h:dI V (.jC id g k j) v):v = .pointer (some ⟨V.ρ id,k*sz+j,none⟩):=by
 have:=(Nl h).2;grind
theorem sj{id g off len}{v}{sz}{fz}{xs}(hH:V.H[id]?=some (.aN g sz fz xs))(h:dI V (.aU id g off len) v):qR V id sz off len v:=by
 have:=(wV h).2;grind
theorem Rk{x:AV}(h:dz P V.H ev o bf=some (x,aT,ps))(dG:gZ ps)(hG:aD G V)(hr:∀y∈o.op.operands,dI V (ev y) (ρ y)) :
 ∃v,(execOp ρ o).run P V.w = .ok (.value v) V.w/\dI V x v:=by
 unfold dz at h;split at h
 .rename_i t y bA;have hy:=hr y (by simp[bA,Op.operands]);split at h
  .rename_i id off e;rw[e]at hy;obtain⟨_,he⟩:=jr hy;split at h
   .rename_i cells hH;cases hl:nI P t (cells.drop off)with
    |none=>simp[hl]at h
    |some z =>
     simp[hl]at h;obtain⟨rfl,_⟩:=h;have hc:=(wD hG hH).drop off;rw[y09]at hc;obtain⟨v,hv,Sd⟩:=uS hl hc;exact⟨v,by rw[execOp,bA];simp[he,Instr.loadAt,Instr.sureAddr,hv],Sd⟩
   .cases h
  .rename_i id g k j e;rw[e]at hy;split at h
   .rename_i g' sz fz xs y' mK hH;cases hl:nI P t (y'.drop j)with
    |none=>simp[hl]at h
    |some z =>
     simp only[hl,Option.map_some,y06,Prod.mk.injEq]at h;obtain⟨rfl,_,rfl⟩:=h;obtain⟨eg,dG,_⟩:=dG;subst eg;have he:=G6 hH hy;obtain⟨v,hv,Sd⟩:=uS hl ((Wi hG hH dG).2.drop j);exact⟨v,by rw[execOp,bA];simp[he,Instr.loadAt,Instr.sureAddr,hv],Sd⟩
   .cases h
  .cases h
 .rename_i t y f bA;have hy:=hr y (by simp[bA,Op.operands]);split at h
  .rename_i n id g k j hf e;rw[e]at hy;split at h
   .rename_i g' sz fz xs hH;cases h;obtain⟨eg,_⟩:=dG;subst eg;have he:=G6 hH hy;refine⟨.pointer (some ⟨V.ρ id,k*sz+j+n,none⟩),by rw[execOp,bA];simp[he,zN hf],.jC _ _ _ _ _ ⟨rfl,?_⟩⟩;rw[hH];exact⟨yM,fun _=>by rw[Nat.add_assoc]⟩
   .cases h
  .cases h
 .rename_i t y i bA;have hy:=hr y (by simp[bA,Op.operands]);have hi:=hr i (by simp[bA,Op.operands]);split at h
  .rename_i e id g off len n hu wR hn;rw[wR]at hy;split at h
   .rename_i s g' sz fz xs hs hH;split at h
    .rename_i eg;subst eg;cases h;obtain⟨eg,dG⟩:=dG;subst eg;obtain⟨h0,h1⟩:=dG.1;obtain⟨k,hk⟩:=iA hn hi;obtain⟨A,cap,c,t',hv,hA,h2,h3,h4,h5⟩:=sj hH hy;have hA':=hA zO;refine⟨.pointer (some ⟨V.ρ id,(off+n.toNat)*s+0,none⟩),?_,.jC _ _ _ _ _ ⟨rfl,?_⟩⟩
     .rw [execOp,bA];simp[hv,hA',hk,Instr.indexAt,asIntOf,run_underlying hu,jq hs,Addr.add_lit,h0,h1,Nat.add_mul]
     .grind
    .cases h
   .cases h
  .cases h
 .rename_i t y lo hi bA;have hy:=hr y (by simp[bA,Op.operands]);have hlo:∀z,lo=some z->dI V (ev z) (ρ z):=fun z hz=>hr z (by simp[bA,Op.operands,hz]);have hhi:∀z,hi=some z->dI V (ev z) (ρ z):=fun z hz=>hr z (by simp[bA,Op.operands,hz]);have bd:∀{x:Option Operand}{d:Nat}{n:Int},nk ev d x=some n->(∀z,x=some z->dI V (ev z) (ρ z))->0<=n->(x.map ρ=none/\n.toNat=d\/∃k,x.map ρ=some (.int k (n.toNat:Int))):=by
   intro x d n h hz hn;rcases tV h hz with⟨rfl,rfl⟩|⟨z,k,rfl,hk⟩
   .simp
   .grind
  split at h
  .rename_i e id g off len l hu wR hl;rw[wR]at hy;split at h
   .rename_i s g' sz fz xs hv hs hH hh;split at h
    .rename_i eg;subst eg;split at h
     .cases h;obtain⟨eg,dG⟩:=dG;subst eg;obtain⟨h1,h2,h3⟩:=dG.1;have hz:=dG.2.1;obtain⟨A,cap,c,t',he,hA,pK,Pf,hhp,iZ⟩:=sj hH hy;have Gi:hv.toNat<=cap:=by
       obtain⟨t2,c2,q1,q2,_⟩:=hG.eP id _ hH;rw[hhp]at q1;cases q1;rw[<- iZ]at q2;have:=Nat.le_of_mul_le_mul_right q2 hz;omega
      have hb:=mV (P:=P) (b:=true) (len:=len) (cap:=cap) (bd hl hlo h1) (bd hh hhi zO) zO Gi V.w;refine⟨.slice (if cap=l.toNat then A else A.map (·.add (l.toNat*s))) (hv.toNat-l.toNat) (cap-l.toNat),?_,.aU _ _ _ _ _ ⟨rfl,?_⟩⟩
      .rw [execOp,bA];simp[he,Instr.sliceAt,Instr.slice,run_underlying hu,jq hs,hb]
      .rw [hH];refine⟨yM,fun _=>⟨_,_,c,t',rfl,fun fF=>?_,zO,zO,hhp,?_⟩⟩
       .rw [yK zO,hA zO];simp[Addr.add_lit,Nat.add_mul]
       .rw [<- iZ];congr 1;omega
     .cases h;obtain⟨eg,dG⟩:=dG;subst eg;obtain⟨h1,h2,h3⟩:=dG.1;obtain⟨A,cap,c,t',he,hA,pK,Pf,hhp,iZ⟩:=sj hH hy;have hb:=mV (P:=P) (b:=true) (len:=len) (cap:=cap) (bd hl hlo h1) (bd hh hhi zO) zO zO V.w;refine⟨.slice (if cap=l.toNat then A else A.map (·.add (l.toNat*s))) (hv.toNat-l.toNat) (cap-l.toNat),?_,.aU _ _ _ _ _ ⟨rfl,?_⟩⟩
      .rw [execOp,bA];simp[he,Instr.sliceAt,Instr.slice,run_underlying hu,jq hs,hb]
      .rw [hH];refine⟨yM,fun _=>⟨_,_,c,t',rfl,fun fF=>?_,zO,zO,hhp,?_⟩⟩
       .rw [yK zO,hA zO];simp[Addr.add_lit,Nat.add_mul]
       .rw [<- iZ];congr 1;omega
    .cases h
   .cases h
  .cases h
 .rename_i t y lo hi mx bA;have hy:=hr y (by simp[bA,Op.operands]);have hlo:∀z,lo=some z->dI V (ev z) (ρ z):=fun z hz=>hr z (by simp[bA,Op.operands,hz]);have hhi:=hr hi (by simp[bA,Op.operands]);have Pf:=hr mx (by simp[bA,Op.operands]);split at h<;>first|(cases h;done)|skip
  rename_i e id g off len l hu wR hl;rw[wR]at hy;split at h<;>first|(cases h;done)|skip
  rename_i s g' sz fz xs hv mv hs hH hh hm;split at h<;>first|(cases h;done)|skip
  rename_i eg;subst eg;cases h;obtain⟨eg,dG⟩:=dG;subst eg;obtain⟨h1,h2,h3,h4⟩:=dG.1;obtain⟨A,cap,c,t',he,_,pK,_,_,_⟩:=sj hH hy;obtain⟨k1,hk1⟩:=iA hh hhi;obtain⟨k2,Oc⟩:=iA hm Pf;have bd:lo.map ρ=none/\l.toNat=0\/∃k,lo.map ρ=some (.int k (l.toNat:Int)):=by
   rcases tV hl hlo with⟨rfl,rfl⟩|⟨z,k,rfl,hk⟩
   .exact .inl ⟨rfl,zS⟩
   .exact .inr ⟨k,by rw[Option.map_some,hk,Int.toNat_of_nonneg h1]⟩
  have hb:=wJ (P:=P) (len:=len) (cap:=cap) (k1:=k1) (k2:=k2) (h:=hv.toNat) (m:=mv.toNat) bd zO zO zO V.w;rw[Int.toNat_of_nonneg (by omega:0<=hv),Int.toNat_of_nonneg (by omega:0<=mv)]at hb;refine⟨.slice (if mv.toNat=l.toNat then A else A.map (·.add (l.toNat*s))) (hv.toNat-l.toNat) (mv.toNat-l.toNat),?_,.aP _⟩;rw[execOp,bA];simp[he,Instr.sliceAt,Instr.slice,run_underlying hu,jq hs,hb,hk1,Oc]
 .rename_i args ts bA;split at h
  .rename_i y t ha ht;split at h
   .rename_i e id g off len hu hx;have hy:=hr y (by simp[bA,Op.operands,Call.operands];rw[<- Array.mem_toList_iff,ha];simp);rw[hx]at hy;split at h
    .rename_i g' sz fz xs hH;cases h;obtain⟨eg,_⟩:=dG;subst eg;obtain⟨A,cap,c,t',he,_⟩:=sj hH hy;have ha':args=#[y]:=by apply Array.ext';simpa using ha
     have ht':ts=#[t]:=by apply Array.ext';simpa using ht
     subst ha' ht';refine⟨.int .i64 len,?_,.pure _ _ (.lit _)⟩;rw[execOp,bA];simp[resolve,invoke,builtin,Builtin.len_,run_underlying hu,he,goInt]
    .cases h
   .rename_i kt et id hu hx;have hy:=hr y (by simp[bA,Op.operands,Call.operands];rw[<- Array.mem_toList_iff,ha];simp);rw[hx]at hy;split at h
    .rename_i es hH;cases h;obtain⟨_,he⟩:=vD hy;obtain⟨ents,clock,hb,hk,_⟩:=wK hG hH;have bL:ents.length=es.length:=by simpa using yJ length hk
     have ha':args=#[y]:=by apply Array.ext';simpa using ha
     have ht':ts=#[t]:=by apply Array.ext';simpa using ht
     subst ha' ht';refine⟨.int .i64 es.length,?_,.pure _ _ (.lit _)⟩;rw[execOp,bA];simp[resolve,invoke,builtin,Builtin.len_,run_underlying hu,he,goInt,MapKept.run_getObj_map hb,bL]
    .cases h
   .cases h
  .cases h
 .rename_i t y i c bA;have hy:=hr y (by simp[bA,Op.operands]);have hi:=hr i (by simp[bA,Op.operands]);split at h
  .rename_i id he;rw[he]at hy;split at h
   .rename_i es hH;obtain⟨_,hu⟩:=vD hy;obtain⟨ents,clock,hb,hk,hd,_,_,Ii⟩:=wK hG hH;obtain⟨v,h1,h2⟩:=FL (.refl _) h dG hi hb hk hd Ii;exact⟨v,by rw[execOp,bA];simp[hu,h1],h2⟩
   .cases h
  .cases h
 .rename_i y bA;have hy:=hr y (by simp[bA,Op.operands]);split at h
  .rename_i id he;rw[he]at hy;obtain⟨_,hu⟩:=jr hy;split at h
   .rename_i e left hH;cases h;obtain⟨bm,since,seen,c0,ents,clock,es,idx,h1,k⟩:=hG.eP id _ hH;obtain⟨rfl,i,seen',hi,rfl,LG⟩:=k.cu e rfl;have QE:i<es.length:=by have:=yJ length k.key;simp at this;omega
    have jJ:=run_entry_at (P:=P) V.w (V.ρ id) bm since seen' ents.toArray c0 (ents.getD i default) h1 k.map (by rw[yB,yA hi];simp) (by simpa using k.born);have XL:(ents.getD i default).key=e.1:=by
     have:=yJ (fun l=>l[i]?) k.key;simp only[getElem?_map,yA hi,yA QE,Option.map_some,y06]at this;rw[<- LG,yB,yB,yA hi,yA QE];exact this
    have hv:uq es i=e.2:=by rw[<- LG];rfl
    have Cb:=k.val i QE;rw[hv]at Cb;refine⟨.tuple #[(ents.getD i default).key,(ents.getD i default).val],?_,.pure _ _ (.bq _ [_,_] rfl fun j hj=>?_)⟩
    .rw [execOp,bA];simp[hu,jJ]
    .match j,hj with
     |0,_=>rw[XL];exact .lit _
     |1,_ =>
      have:(ents.getD i default).val=gI ents i:=rfl;rw[this];exact Cb
   .cases h
  .cases h
 .rename_i y bA;have hy:=hr y (by simp[bA,Op.operands]);split at h
  .rename_i id g k j e;rw[e]at hy;split at h
   .rename_i g' sz fz xs hH;cases h;obtain⟨eg,_⟩:=dG;subst eg;have he:=G6 hH hy;exact⟨ρ y,by rw[execOp,bA];simp[he],hy⟩
   .cases h
  .cases h
 .cases h
end
def AV.one:AV->Bool
 |.lit v=>v.oneCell'
 |.agg _|.bq _|.aP=>false
 |_=>true
theorem K4{V}{x}{v}(h:x.one=true)(hr:dI V x v):v.oneCell'=true:=by
 cases x with
 |lit u=>rw[bW hr];exact h
 |ptr id off=>obtain⟨_,rfl⟩:=jr hr;rfl
 |jC id g k j=>exact(Nl hr).1
 |iG cs=>obtain⟨_,_,rfl,_⟩:=D9 (pR hr);rfl
 |sl sz t xs=>obtain⟨_,_,rfl,_⟩:=zU (jF hr);rfl
 |aU id g o l=>exact(wV hr).1
 |mp id=>obtain⟨_,rfl⟩:=vD hr;rfl
 |md it es=>cases zM hr;rfl
 |yl id=>obtain⟨_,rfl⟩:=R9 hr;rfl
 |fn f a b=>obtain⟨_,_,rfl,_⟩:=yY hr;rfl
 |qX t x=>obtain⟨_,rfl,_⟩:=Df hr;rfl
 |agg _=>cases h
 |bq _=>cases h
 |aP=>cases h
theorem xE{V}{cs}{vs}(h:cs.all AV.one=true)(hr:bR V cs vs):∀v∈vs,v.oneCell'=true:=by
 intro v hv;obtain⟨j,hj,rfl⟩:=getElem_of_mem hv;have hj':j<cs.length:=by rw[<- hr.1];exact hj
 have:=hr.2 j hj';rw[yB,yA hj',yB,yA hj]at this;exact K4 (all_eq_true.1 h _ (y03 hj')) this
variable {c:Array Value}
variable {eP:ah}
variable {h:Array Obj}
section
variable {G:Nat->Option (List AV)} {V:View}
theorem aD.gD{V'}(hG:aD G V)(hs:Step V V'):∀g cs,G g=some cs->dR V'.w V'.M (.iG cs) (.pointer (some ⟨g,0,none⟩)) :=
 fun g cs hg=>(hG.ng g cs hg).Da hs
theorem oz{o}{b}(hb:b<h.size):(h.push o)[b]?=h[b]? := by rw[Array.getElem?_push,yK zO]
theorem qA(hG:aD G V){o:Obj}(hh:w'.heap=V.w.heap.push o)(h1:w'.os=V.w.os)(h2:w'.tape=V.w.tape)(h3:w'.output=V.w.output)(NW:∀V':View,V'.w=w'->Step V V'->fZ V' V.w.heap.size eP)(GH:V.w.drawn<=w'.drawn:=by first|exact yM|exact Nat.le_succ _|(simp;done)|omega|assumption):∃V',V'.w=w'/\V'.H=V.H++[eP]/\Step V V'/\aD G V'/\V'.ρ V.H.length=V.w.heap.size:=by
 let V':View:={ w:=w',M:=fun b=>V.M b\/b=V.w.heap.size,H:=V.H++[eP],ρ:=fun id=>if id=V.H.length then V.w.heap.size else V.ρ id };have QD:V'.ρ V.H.length=V.w.heap.size:=yL rfl;have Cx:∀id,id<V.H.length->V'.ρ id=V.ρ id:=fun id h=>yK zO;have fB:Step V V':={
  os:=h1
  tape:=h2
  output:=h3
  size:=by rw[hh];simp
  drawn:=GH
  keep:=fun b hb _=>⟨by grind,⟨fun h=>h.resolve_right zO,.inl⟩⟩
  data:=fun b hb hn=>⟨by grind,fun h=>hn (h.resolve_right zO)⟩
  bL:=by show _<=(V.H++[eP]).length;simp
  fresh:=fun id dU=>by
   grind
  eP:=fun id dU=>.refl dU (getElem?_append_left dU) (Cx id dU) (by rw[hh];exact oz (hG.lt id dU)) }
 refine⟨V',rfl,rfl,fB,?_,QD⟩;have split:∀id,id<V'.H.length->id<V.H.length\/id=V.H.length:=fun id dU=>by
  have Oy:id<V.H.length+1:=by simpa[V']using dU
  omega
 exact{
  lt:=fun id dU=>by
   rcases split id dU with h|rfl
   .rw [Cx id h];exact y21 (hG.lt id h) fB.size
   .grind
  eP:=fun id o' ho=>by
   rcases split id (yC.1 ho).1 with h|rfl
   .have ho':V.H[id]?=some o':=by rw[<- getElem?_append_left (l₂:=[eP]) h];exact ho
    rw[Cx id h];exact(hG.eP id o' ho').step fB (by rw[hh];exact oz (hG.lt id h))
   .grind
  inj:=fun i j hi hj e=>by
   rcases split i hi with h|rfl<;>rcases split j hj with k|rfl
   .rw [Cx i h,Cx j k]at e;exact hG.inj i j h k e
   .rw [Cx i h,QD]at e;have:=hG.lt i h;omega
   .rw [QD,Cx j k]at e;have:=hG.lt j k;omega
   .rfl
  gW:=fun id o' ho bA=>by
   rcases split id (yC.1 ho).1 with h|rfl
   .have ho':V.H[id]?=some o':=by rw[<- getElem?_append_left (l₂:=[eP]) h];exact ho
    exact .inl (by rw[Cx id h];exact hG.gW id o' ho' bA)
   .exact .inr QD
  ng:=hG.gD fB }
theorem K5(hG:aD G V){w'}{o}(hh:w'.heap=V.w.heap.push o)(h1:w'.os=V.w.os)(h2:w'.tape=V.w.tape)(h3:w'.output=V.w.output)(GH:V.w.drawn<=w'.drawn:=by first|exact yM|exact Nat.le_succ _|(simp)|omega|assumption) :
 ∃V',V'.w=w'/\V'.H=V.H/\Step V V'/\aD G V'/\¬V'.M V.w.heap.size:=by
 let V':View:={ w:=w',M:=fun b=>V.M b/\b≠V.w.heap.size,H:=V.H,ρ:=V.ρ };have fB:Step V V':={
  os:=h1
  tape:=h2
  output:=h3
  size:=by grind
  drawn:=GH
  keep:=fun b hb _=>⟨by grind,⟨fun h=>h.1,fun h=>⟨h,zO⟩⟩⟩
  data:=fun b hb hn=>⟨by grind,fun h=>hn h.1⟩
  bL:=yM
  fresh:=fun id dU=>.inl ⟨dU,rfl⟩
  eP:=fun id dU=>.refl dU rfl rfl (by rw[hh];exact oz (hG.lt id dU)) }
 exact⟨V',rfl,rfl,fB,{
  lt:=fun id dU=>y21 (hG.lt id dU) fB.size
  eP:=fun id o' ho=>(hG.eP id o' ho).step fB (by rw[hh];exact oz (hG.lt id (yC.1 ho).1))
  inj:=hG.inj
  gW:=fun id o' ho bA=>⟨hG.gW id o' ho bA,by have:=hG.lt id (yC.1 ho).1;grind⟩
  ng:=hG.gD fB },fun h=>h.2 rfl⟩
theorem KN(hG:aD G V){w'}(hh:w'.heap=V.w.heap)(h1:w'.os=V.w.os)(h2:w'.tape=V.w.tape)(h3:w'.output=V.w.output)(GH:V.w.drawn<=w'.drawn:=by first|exact yM|exact Nat.le_succ _|(simp)|omega|assumption) :
 ∃V',V'.w=w'/\V'.H=V.H/\V'.ρ=V.ρ/\V'.M=V.M/\Step V V'/\aD G V':=by
 let V':View:={ w:=w',M:=V.M,H:=V.H,ρ:=V.ρ };have fB:Step V V':={
  os:=h1
  tape:=h2
  output:=h3
  size:=by grind
  drawn:=GH
  keep:=fun b hb _=>⟨by rw[hh],Iff.rfl⟩
  data:=fun b hb hn=>⟨by rw[hh],hn⟩
  bL:=yM
  fresh:=fun id dU=>.inl ⟨dU,rfl⟩
  eP:=fun id dU=>.refl dU rfl rfl (by rw[hh]) }
 exact⟨V',rfl,rfl,rfl,rfl,fB,{
  lt:=fun id dU=>by rw[hh];exact hG.lt id dU
  eP:=fun id o' ho=>(hG.eP id o' ho).step fB (by rw[hh])
  inj:=hG.inj
  gW:=hG.gW
  ng:=hG.gD fB }⟩
theorem wE(hG:aD G V){id:Nat}{ou:ah}(dU:V.H[id]?=some eP)(bA:eP.open_=true){c':Array Value}(hc:V.w.heap[V.ρ id]?=some (.cells c t (0,0)))(hc':w'.heap[V.ρ id]?=some (.cells c' t (0,0)))(iZ:c'.size=c.size)(hh:∀b,b≠V.ρ id->w'.heap[b]?=V.w.heap[b]?)(hs:w'.heap.size=V.w.heap.size)(h1:w'.os=V.w.os)(h2:w'.tape=V.w.tape)(h3:w'.output=V.w.output)(aaf:match eP,ou with|.box _,.box _=>True|.aN g sz _ _,.aN g' sz' fz _=>g'=g/\sz'=sz/\fz=false|_,_=>False)(NW:∀V':View,V'.w=w'->Step V V'->fZ V' (V.ρ id) ou)(GH:V.w.drawn<=w'.drawn:=by first|exact yM|exact Nat.le_succ _|(simp;done)|omega|assumption):∃V',V'.w=w'/\V'.H=V.H.set id ou/\Step V V'/\aD G V':=by
 have bg:=(yC.1 dU).1;let V':View:={ w:=w',M:=V.M,H:=V.H.set id ou,ρ:=V.ρ };have hM:=hG.gW id eP dU bA;have Ho:∀i,i≠id->V'.H[i]?=V.H[i]? := fun i hi=>by show(V.H.set id ou)[i]?=_;rw[getElem?_set_ne (fun e=>hi e.symm)]
 have hl:V'.H.length=V.H.length:=by show(V.H.set id ou).length=_;simp
 have ne:∀i,i<V.H.length->i≠id->V.ρ i≠V.ρ id:=fun i hi fF e=>fF (hG.inj i id hi bg e);have fB:Step V V':={
  os:=h1
  tape:=h2
  output:=h3
  size:=Nat.le_of_eq hs.symm
  drawn:=GH
  keep:=fun b _ hn=>⟨hh b fun e=>hn id bg e.symm,Iff.rfl⟩
  data:=fun b _ hn=>⟨hh b fun e=>hn (e▸hM),hn⟩
  bL:=Nat.le_of_eq hl.symm
  fresh:=fun i hi=>.inl ⟨by rw[hl]at hi;exact hi,rfl⟩
  eP:=fun i hi=>by
   by_cases e:i=id
   .subst e;unfold dL;grind
   .exact .refl hi (Ho i e) rfl (hh _ (ne i hi e)) }
 refine⟨V',rfl,rfl,fB,?_⟩;exact{
  lt:=fun i hi=>by rw[hl]at hi;show V.ρ i<w'.heap.size;rw[hs];exact hG.lt i hi
  eP:=fun i o ho=>by
   by_cases e:i=id
   .grind
   .rw [Ho i e]at ho;exact(hG.eP i o ho).step fB (hh _ (ne i (yC.1 ho).1 e))
  inj:=fun i j hi hj=>by rw[hl]at hi hj;exact hG.inj i j hi hj
  gW:=fun i o ho J8=>by
   by_cases e:i=id
   .subst e;exact hM
   .rw [Ho i e]at ho;exact hG.gW i o ho J8
  ng:=hG.gD fB }
theorem PI(hG:aD G V){id}{eP ou}(dU:V.H[id]?=some eP)(bA:eP.open_=true)(hk:∀V':View,V'.H[id]?=some ou->V'.ρ id=V.ρ id->dL V V' id){w'}(hh:∀b,b≠V.ρ id->w'.heap[b]?=V.w.heap[b]?)(hs:w'.heap.size=V.w.heap.size)(h1:w'.os=V.w.os)(h2:w'.tape=V.w.tape)(h3:w'.output=V.w.output)(NW:∀V':View,V'.w=w'->Step V V'->fZ V' (V.ρ id) ou)(GH:V.w.drawn<=w'.drawn:=by first|exact yM|exact Nat.le_succ _|(done)|omega|assumption):∃V',V'.w=w'/\V'.H=V.H.set id ou/\V'.ρ=V.ρ/\Step V V'/\aD G V':=by
 have bg:=(yC.1 dU).1;let V':View:={ w:=w',M:=V.M,H:=V.H.set id ou,ρ:=V.ρ };have hM:=hG.gW id _ dU bA;have Hs:V'.H[id]?=some ou:=by grind
 have Ho:∀i,i≠id->V'.H[i]?=V.H[i]? := fun i hi=>by grind
 have hl:V'.H.length=V.H.length:=by show(V.H.set id _).length=_;simp
 have ne:∀i,i<V.H.length->i≠id->V.ρ i≠V.ρ id:=fun i hi fF e=>fF (hG.inj i id hi bg e);have fB:Step V V':={
  os:=h1
  tape:=h2
  output:=h3
  size:=Nat.le_of_eq hs.symm
  drawn:=GH
  keep:=fun b _ hn=>⟨hh b fun e=>hn id bg e.symm,Iff.rfl⟩
  data:=fun b _ hn=>⟨hh b fun e=>hn (e▸hM),hn⟩
  bL:=Nat.le_of_eq hl.symm
  fresh:=fun i hi=>.inl ⟨by rw[hl]at hi;exact hi,rfl⟩
  eP:=fun i hi=>by
   by_cases e:i=id
   .grind
   .exact .refl hi (Ho i e) rfl (hh _ (ne i hi e)) }
 refine⟨V',rfl,rfl,rfl,fB,?_⟩;exact{
  lt:=fun i hi=>by rw[hl]at hi;rw[hs];exact hG.lt i hi
  eP:=fun i o ho=>by
   by_cases e:i=id
   .grind
   .rw [Ho i e]at ho;exact(hG.eP i o ho).step fB (hh _ (ne i (yC.1 ho).1 e))
  inj:=fun i j hi hj=>by rw[hl]at hi hj;exact hG.inj i j hi hj
  gW:=fun i o ho J8=>by
   by_cases e:i=id
   .subst e;exact hM
   .rw [Ho i e]at ho;exact hG.gW i o ho J8
  ng:=hG.gD fB }
theorem Eb(hG:aD G V){id}{es uz}(dU:V.H[id]?=some (.map es)){w'}(hh:∀b,b≠V.ρ id->w'.heap[b]?=V.w.heap[b]?)(hs:w'.heap.size=V.w.heap.size)(h1:w'.os=V.w.os)(h2:w'.tape=V.w.tape)(h3:w'.output=V.w.output)(NW:∀V':View,V'.w=w'->Step V V'->fZ V' (V.ρ id) (.map uz))(GH:V.w.drawn<=w'.drawn:=by first|exact yM|exact Nat.le_succ _|(done)|omega|assumption):∃V',V'.w=w'/\V'.H=V.H.set id (.map uz)/\V'.ρ=V.ρ/\Step V V'/\aD G V' :=
 PI hG dU rfl (fun V' h e=>by unfold dL;grind) hh hs h1 h2 h3 NW GH
theorem tX(hG:aD G V){id g sz}{xs r9}(dU:V.H[id]?=some (.aN g sz false xs)){w'}{b'}(hb':b'=V.ρ id\/V.w.heap.size<=b')(oL:b'<w'.heap.size)(Dy:V.w.heap.size<=w'.heap.size)(hh:∀b,b<V.w.heap.size->b≠V.ρ id->w'.heap[b]?=V.w.heap[b]?)(h1:w'.os=V.w.os)(h2:w'.tape=V.w.tape)(h3:w'.output=V.w.output)(NW:∀V':View,V'.w=w'->Step V V'->fZ V' b' (.aN (g+1) sz false r9))(GH:V.w.drawn<=w'.drawn:=by first|exact yM|exact Nat.le_succ _|(done)|omega|assumption):∃V',V'.w=w'/\V'.H=V.H.set id (.aN (g+1) sz false r9)/\Step V V'/\aD G V'/\V'.ρ id=b':=by
 have bg:=(yC.1 dU).1;have hM:=hG.gW id _ dU rfl;let V':View:={ w:=w',M:=fun b=>V.M b\/b=b',H:=V.H.set id (.aN (g+1) sz false r9),ρ:=fun i=>if i=id then b' else V.ρ i };have Hs:V'.H[id]?=some (.aN (g+1) sz false r9):=by show(V.H.set id _)[id]?=_;rw[getElem?_set_self bg]
 have Ho:∀i,i≠id->V'.H[i]?=V.H[i]? := fun i hi=>by show(V.H.set id _)[i]?=_;rw[getElem?_set_ne (fun e=>hi e.symm)]
 have hl:V'.H.length=V.H.length:=by show(V.H.set id _).length=_;simp
 have ne:∀i,i<V.H.length->i≠id->V.ρ i≠V.ρ id:=fun i hi fF e=>fF (hG.inj i id hi bg e);have ρs:V'.ρ id=b':=yL rfl;have Cx:∀i,i≠id->V'.ρ i=V.ρ i:=fun i hi=>yK hi;have Mo:∀b,b<V.w.heap.size->(V'.M b↔V.M b):=fun b hb=>⟨fun h=>h.elim (fun h=>h) fun e=>by
  rcases hb' with e'|e'
  .rw [e,e'];exact hM
  .omega,.inl⟩
 have fB:Step V V':={
  os:=h1
  tape:=h2
  output:=h3
  size:=Dy
  drawn:=GH
  keep:=fun b hb hn=>⟨hh b hb fun e=>hn id bg e.symm,Mo b hb⟩
  data:=fun b hb hn=>⟨hh b hb fun e=>hn (e▸hM),fun h=>hn ((Mo b hb).1 h)⟩
  bL:=Nat.le_of_eq hl.symm
  fresh:=fun i hi=>by
   rw[hl]at hi;by_cases e:i=id
   .grind
   .exact .inl ⟨hi,Cx i e⟩
  eP:=fun i hi=>by
   by_cases e:i=id
   .grind [dL]
   .exact .refl hi (Ho i e) (Cx i e) (hh _ (hG.lt i hi) (ne i hi e)) }
 refine⟨V',rfl,rfl,fB,?_,ρs⟩;exact{
  lt:=fun i hi=>by
   rw[hl]at hi;by_cases e:i=id
   .grind
   .rw [Cx i e];exact y21 (hG.lt i hi) Dy
  eP:=fun i o ho=>by
   by_cases e:i=id
   .grind
   .rw [Ho i e]at ho;have hi:=(yC.1 ho).1;rw[Cx i e];exact(hG.eP i o ho).step fB (hh _ (hG.lt i hi) (ne i hi e))
  inj:=fun i j hi hj heq=>by
   rw[hl]at hi hj;by_cases e:i=id<;>by_cases f:j=id
   .rw [e,f]
   .subst e;rw[ρs,Cx j f]at heq;rcases hb' with h|h
    .rw [h]at heq;exact absurd heq.symm (ne j hj f)
    .have:=hG.lt j hj;omega
   .subst f;rw[ρs,Cx i e]at heq;rcases hb' with h|h
    .rw [h]at heq;exact absurd heq (ne i hi e)
    .have:=hG.lt i hi;omega
   .rw [Cx i e,Cx j f]at heq;exact hG.inj i j hi hj heq
  gW:=fun i o ho bA=>by
   by_cases e:i=id
   .subst e;exact .inr ρs
   .rw [Ho i e]at ho;rw[Cx i e];exact .inl (hG.gW i o ho bA)
  ng:=hG.gD fB }
end
def MH(P:Program)(H:List ah)(x:AV)(tx:TypeId)(s:Nat):Option (List (List AV)) :=
 match P.underlying tx,x with
 |some (.slice _),.sl sz _ ys=>if sz=s then some ys else none
 |some (.slice _),.lit (.slice _ 0 _)=>some []
 |some (.slice _),.aU id _ off len=>match H[id]? with
  |some (.aN _ sz _ xs)=>if sz=s then some ((xs.drop off).take len)else none
  |_=>none
 |some .string,.lit (.string b)=>if s=1 then some (b.data.toList.map fun c=>[.lit (.int .u8 c.toNat)])else none
 |_,_=>none
def nZ(H:List ah)(x:AV)(n:Nat):List Prop :=
 match x with
 |.aU id g _ len=>match H[id]? with
  |some (.aN g' _ _ _)=>[g'=g,n=len]
  |_=>[]
 |_=>[]
structure Ec(P:Program)(V:View)(ys:List (List AV))(s:Nat)(u:Value)(f:Nat->Value):Prop where
 len:∀w':World,(Builtin.lenOf u).run P w' = .ok ys.length w'
 cells:∀w':World,w'.heap=V.w.heap->(Builtin.firstCells s ys.length u).run P w' = .ok ((List.range (ys.length*s)).map f).toArray w'
 one:∀i,i<ys.length*s->(f i).oneCell'=true
 rep:∀k j,k<ys.length->j<s->dI V ((ys.getD k []).getD j .aP) (f (k*s+j))
 sz:∀y∈ys,y.length=s
variable {n s i:Nat}
theorem Ns(h:i<n*s):i/s<n/\i % s<s/\i/s*s+i % s=i:=by
 have hs:0<s:=by grind
 refine⟨(Nat.div_lt_iff_lt_mul hs).2 h,Nat.mod_lt _ hs,?_⟩;have:=Nat.div_add_mod i s;grind
theorem FN{P}{w'}{s n cap b o}{A}{f}(hA:0<n->A=some ⟨b,o,none⟩)(hc:∀i,i<n*s->w'.cell? ⟨b,o+i,none⟩=some (f i)) :
 (Builtin.firstCells s n (.slice A n cap)).run P w' = .ok ((List.range (n*s)).map f).toArray w':=by
 rcases Nat.eq_zero_or_pos n with e|e
 .subst e;cases A<;>simp[Builtin.firstCells,loadCells,loadCellsFrom]
 .rw [hA e];exact run_loadCells w' _ _ f fun j hj=>by rw[Addr.add_lit];simp
variable {xs:List (List AV)}{g off:Nat}
section
variable {P:Program} {G:Nat->Option (List AV)} {V:View}
theorem aag{s}{tg}{ys}{u}(h:dR V.w V.M (.sl s tg ys) u):∃f,Ec P V ys s u f:=by
 cases h with
 |sl _ _ _ A cap b o vs hA hb pK ht iZ hc ho hr =>
  refine⟨fun i=>vs (i/s) (i % s),fun w'=>rfl,fun w' hw=>FN   (fun hn=>hA (length_pos_iff.1 hn)) (fun i hi=>?_),fun i hi=>?_,fun k j hk hj=>?_,iZ⟩
  .obtain ⟨h1,h2,h3⟩:=Ns hi;have:=hc _ _ h1 h2;rw[Nat.add_assoc,h3]at this;rw[<- this];simp[World.cell?,hw]
  .obtain ⟨h1,h2,_⟩:=Ns hi;grind
  .have e1:(k*s+j)/s=k:=by rw[Nat.mul_comm,Nat.mul_add_div zO];simp_all
   have e2:(k*s+j) % s=j:=by rw[Nat.mul_comm,Nat.mul_add_mod];exact Nat.mod_eq_of_lt hj
   simp only[e1,e2];exact .pure _ _ (hr k j hk hj)
theorem ac0{s}{A}{cap}:Ec P V [] s (.slice A 0 cap) (fun _=>undef) :=
 ⟨fun _=>rfl,fun w' _=>by cases A<;>simp[Builtin.firstCells,loadCells,loadCellsFrom],fun i hi=>absurd hi zS,fun k j hk=>absurd hk zS,zS⟩
theorem Uu{id len:Nat}{fz:Bool}(hG:aD G V)(hH:V.H[id]?=some (.aN g s fz xs))(h:qR V id s off len u)(uQ:off+len<=xs.length) :
 ∃f,Ec P V ((xs.drop off).take len) s u f:=by
 obtain⟨A,cap,c,t,rfl,hA,h1,h2,h3,h4⟩:=h;obtain⟨t',c',k1,k2,k3,k4⟩:=hG.eP id _ hH;rw[h3]at k1;cases k1;have hl:((xs.drop off).take len).length=len:=by simp;omega
 have BK:∀k,k<len->((xs.drop off).take len).getD k []=xs.getD (off+k) []:=fun k hk=>by
  simp[yB,hk]
 have cell:∀i,i<len*s->∃v,c[off*s+i]?=some v/\v.oneCell'=true/\dI V ((xs.getD (off+i/s) []).getD (i % s) .aP) v:=fun i hi=>by
  obtain⟨d1,d2,d3⟩:=Ns hi;obtain⟨v,hv,ho,hr⟩:=k4 (off+i/s) (i % s) zO d2;rw[Nat.add_mul,Nat.add_assoc,d3]at hv;exact⟨v,hv,ho,hr⟩
 refine⟨fun i=>c.getD (off*s+i) undef,fun w'=>by rw[hl];rfl,fun w' hw=>?_,fun i hi=>?_,fun k j hk hj=>?_,fun y hy=>k3 y (mem_of_mem_drop (mem_of_mem_take hy))⟩
 .rw [hl];refine FN (b:=V.ρ id) (o:=off*s) (fun hn=>hA zO) fun i hi=>?_;obtain⟨v,hv,_⟩:=cell i hi;simp[World.cell?,hw,h3,hv]
 .rw [hl]at hi;obtain⟨v,hv,ho,_⟩:=cell i hi;simp_all
 .rw [hl]at hk;rw[BK k hk];have Ew:=y21 (by rw[Nat.add_mul];omega:k*s+j<(k+1)*s) (y22 s hk);obtain⟨v,hv,_,hr⟩:=cell (k*s+j) Ew;have e1:(k*s+j)/s=k:=by rw[Nat.mul_comm,Nat.mul_add_div zO];simp[Nat.div_eq_of_lt hj]
  have e2:(k*s+j) % s=j:=by rw[Nat.mul_comm,Nat.mul_add_mod];exact Nat.mod_eq_of_lt hj
  simp_all
theorem ac1{b:yP}:Ec P V (b.data.toList.map fun c=>[AV.lit (.int .u8 c.toNat)]) 1 (.string b) (fun i=>.int .u8 ((b.data.toList.getD i 0).toNat)):=by
 have hl:(b.data.toList.map fun c=>[AV.lit (.int .u8 c.toNat)]).length=b.size:=zS
 have he:(b.extract 0 b.size).data=b.data:=by rw[ByteArray.data_extract];simp
 refine⟨fun w'=>by rw[hl];rfl,fun w' _=>?_,fun i hi=>rfl,fun k j hk hj=>?_,fun y hy=>?_⟩
 .rw [hl];simp only[Builtin.firstCells,Sem.run_pure];congr 1;grind
 .have hj0:j=0:=zO
  subst hj0;have:((b.data.toList.map fun c=>[AV.lit (.int .u8 c.toNat)]).getD k []).getD 0 .aP = .lit (.int .u8 ((b.data.toList.getD k 0).toNat)):=by grind
  rw[this];simp only[Nat.mul_one];exact .pure _ _ (.lit _)
 .grind
theorem Wj{H}(hHV:V.H=H){x}{tx}{s}{ys}{u}(h:MH P H x tx s=some ys)(ho:gZ (nZ H x ys.length))(hG:aD G V)(hr:dI V x u) :
 (∃f,Ec P V ys s u f)/\((∃e,P.underlying tx=some (.slice e))\/P.underlying tx=some .string):=by
 subst hHV;unfold MH at h;split at h
 .rename_i e sz tg ys' hu;split at h
  .rename_i hs;cases h;subst hs;exact⟨aag (jF hr),.inl ⟨_,hu⟩⟩
  .cases h
 .rename_i hu;cases h;rw[bW hr];exact⟨⟨_,ac0⟩,.inl ⟨_,hu⟩⟩
 .rename_i e id g off len hu;split at h
  .rename_i g' sz fz xs hH;split at h
   .rename_i hc;subst hc;cases h;simp only[nZ,hH]at ho;obtain⟨hgg,bL,_⟩:=ho;subst hgg;simp at bL;refine⟨?_,.inl ⟨_,hu⟩⟩;have xZ:=sj hH hr;by_cases h0:len=0
    .subst h0;obtain⟨A,cap,c,t,rfl,hA,_⟩:=xZ;refine⟨fun _=>undef,fun _=>by rfl,fun w' _=>?_,fun i hi=>absurd hi zS,fun k j hk=>absurd hk zS,zS⟩;cases A<;>simp[Builtin.firstCells,loadCells,loadCellsFrom]
    .exact Uu hG hH xZ zO
   .cases h
  .cases h
 .rename_i b hu;split at h
  .rename_i hs;cases h;subst hs;rw[bW hr];exact⟨⟨_,ac1⟩,.inr hu⟩
  .cases h
 .cases h
theorem Jk(w:World)(ts tx ty e:TypeId)(i:TypeInfo)(z:Value)(ht:P.underlying ts=some (.slice e))(hx:(∃e',P.underlying tx=some (.slice e'))\/P.underlying tx=some .string)(hi:P.info? e=some i)(hz:i.zero=some z)(base:Option Addr)(sLen sCap n:Nat)(x:Value)(olds news:List Value)(bL:∀w':World,(Builtin.lenOf x).run P w' = .ok n w')(Zh:∀w':World,w'.heap=w.heap->(Builtin.firstCells i.size sLen (.slice base sLen sCap)).run P w' = .ok olds.toArray w')(aah:∀w':World,w'.heap=w.heap->(Builtin.firstCells i.size n x).run P w' = .ok news.toArray w')(hg:sCap<sLen+n)(h63:((sLen+n:Nat):Int)<=9223372036854775807)(pO:Builtin.nextslicecap (sLen+n) sCap*i.bytes<=281474976710656) :
 (Builtin.append_ #[ts,tx] ty #[.slice base sLen sCap,x]).run P w =
  .ok (.slice (some ⟨w.heap.size,0,none⟩) (sLen+n) (grownCap w (sLen+n) sCap e))
   (w.drew.alloc (.cells (olds.toArray++news.toArray++Builtin.zeroCells z.cells (grownCap w (sLen+n) sCap e-(sLen+n))) e)):=by
 have hn:¬(sLen+n<=sCap):=zO
 have aoD:¬(9223372036854775807<((sLen:Int)+(n:Int))):=zO
 have aoE:¬(281474976710656<Builtin.nextslicecap (sLen+n) sCap*i.bytes):=zO
 have Z8:=Zh w.drew rfl;have wN:=aah w.drew rfl;rcases hx with⟨e',hx⟩|hx <;>
 .simp [Builtin.append_,run_underlying ht,run_underlying hx,sizeOf,typeInfo,zeroValue,hi,hz,bL,hn,aoD,aoE,Question.forced,Z8,wN,newRow,grownCap];congr 2;apply Array.ext';simp[y13]
theorem BA(w:World)(ts tx ty e:TypeId)(i:TypeInfo)(ht:P.underlying ts=some (.slice e))(hx:(∃e',P.underlying tx=some (.slice e'))\/P.underlying tx=some .string)(hi:P.info? e=some i)(g o sLen sCap n:Nat)(x:Value)(news:List Value)(cur:Array Value)(te:TypeId)(bL:∀w':World,(Builtin.lenOf x).run P w' = .ok n w')(aah:(Builtin.firstCells i.size n x).run P w = .ok news.toArray w)(h1:∀u∈news,u.oneCell'=true)(gY:sLen+n<=sCap)(hg:w.heap[g]?=some (.cells cur te (0,0)))(pO:o+sLen*i.size+news.length<=cur.size) :
 (Builtin.append_ #[ts,tx] ty #[.slice (some ⟨g,o,none⟩) sLen sCap,x]).run P w =
  .ok (.slice (some ⟨g,o,none⟩) (sLen+n) sCap) (w.setRow g (dX cur.toList (o+sLen*i.size) news).toArray):=by
 have fB:=run_storeCells_at P g (o+sLen*i.size) te news 0 cur w hg (by simpa using pO) h1;simp only[Nat.add_zero]at fB;rcases hx with⟨e',hx⟩|hx <;>
 .simp [Builtin.append_,run_underlying ht,run_underlying hx,sizeOf,typeInfo,hi,bL,gY,aah,Addr.add_lit,fB,dX]
theorem mW(w:World)(ts tx ty e:TypeId)(i:TypeInfo)(ht:P.underlying ts=some (.slice e))(hx:(∃e',P.underlying tx=some (.slice e'))\/P.underlying tx=some .string)(hi:P.info? e=some i)(base:Option Addr)(sLen sCap:Nat)(x:Value)(bL:∀w':World,(Builtin.lenOf x).run P w' = .ok 0 w')(aah:(Builtin.firstCells i.size 0 x).run P w = .ok #[] w)(gY:sLen<=sCap) :
 (Builtin.append_ #[ts,tx] ty #[.slice base sLen sCap,x]).run P w = .ok (.slice base sLen sCap) w:=by
 rcases hx with⟨e',hx⟩|hx <;>
 .cases base<;>simp[Builtin.append_,run_underlying ht,run_underlying hx,sizeOf,typeInfo,hi,bL,gY,aah,storeCells]
end
def PK:AV->Bool
 |.lit _|.iG _|.sl ..|.md .. => true
 |_=>false
def AV.fJ:AV->Bool
 |.lit _|.iG _|.sl ..|.md .. => true
 |.fn _ aZ bs=>aZ.all PK&&bs.all PK
 |.qX _ x=>PK x
 |_=>false
def oC(s n:Nat)(cells:List AV):List (List AV):=(List.range n).map fun k=>(cells.drop (k*s)).take s
def EP(z:List AV)(n:Nat):List AV:=(List.range n).map fun i=>z.getD (i % z.length) .aP
def Az(P:Program)(H:List ah)(ts tx:TypeId)(a x:AV)(bf:List bC):Option (AV×List ah×List bC×List Prop) :=
 match P.underlying ts with
 |some (.slice e)=>match P.info? e with
  |some i=>match i.zero,MH P H x tx i.size with
   |some z,some ys =>
    if 0<i.bytes/\0<i.size/\z.cells.size=i.size then
     (match a with
     |.lit (.slice none 0 0)=>match bf with
      |.LV::aT=>some (a,H,aT,(ys=[])::nZ H x ys.length)
      |_=>some (.aU H.length 0 0 ys.length,H++[.aN 0 i.size false ys],bf,(ys≠[])::(ys.length*i.bytes<=140737488355328)::nZ H x ys.length)
     |.sl sz true xs=>if sz=i.size then(match bf with
      |.LV::aT=>some (a,H,aT,(ys=[])::nZ H x ys.length)
      |_=>some (.aU H.length 0 0 (xs.length+ys.length),H++[.aN 0 i.size false (xs++ys)],bf,(ys≠[])::((xs.length+ys.length)*i.bytes<=140737488355328)::nZ H x ys.length))else none
     |.aU id g 0 len=>match H[id]? with
      |some (.aN g' sz false xs)=>if sz=i.size then(match bf with
       |.aU::aT=>some (.aU id (g+1) 0 (len+ys.length),H.set id (.aN (g+1) sz false (xs.take len++(ys++xs.drop (len+ys.length)))),aT,(g'=g)::(len+ys.length<=xs.length)::nZ H x ys.length)
       |_=>some (.aU id (g+1) 0 (len+ys.length),H.set id (.aN (g+1) sz false (xs++ys)),bf,(g'=g)::(len=xs.length)::((len+ys.length)*i.bytes<=140737488355328)::nZ H x ys.length))else none
      |_=>none
     |_=>none)else none
   |_,_=>none
  |none=>none
 |_=>none
def Nt(P:Program)(H:List ah)(ta:TypeId)(a:AV):Option (AV×List ah×List Prop) :=
 match P.underlying ta with
 |some (.slice e)=>match P.info? e with
  |some i=>match i.zero with
   |some z=>if z.cells.size=i.size/\(z.cells.toList.all fun v=>v.oneCell')=true then
    (match a with
    |.aU id g off len=>match H[id]? with
     |some (.aN g' sz false xs)=>if sz=i.size then some (.bq [],H.set id (.aN g' sz false (xs.take off++(replicate len (z.cells.toList.map .lit)++xs.drop (off+len)))),[g'=g,off+len<=xs.length])else none
     |_=>none
    |_=>none)else none
   |none=>none
  |none=>none
 |_=>none
def bU(P:Program)(H:List ah)(ev:Operand->AV)(o:Oper)(bf:List bC):Option (AV×List ah×List bC×List Prop) :=
 match o.op with
 |.alloc t=>match P.info? t with
  |some i=>match i.zero with
   |some z=>some (.ptr H.length 0,H++[.box (z.cells.toList.map .lit)],bf,[])
   |none=>none
  |none=>none
 |.box _ x=>match (ev x).cells with
  |some cs=>some (.ptr H.length 0,H++[.box cs],bf,[])
  |none=>none
 |.store t x y=>match jK P t,(ev y).cells,ev x with
  |some n,some cs,.ptr id off=>match H[id]? with
   |some (.box cells)=>if cs.length=n/\off+cs.length<=cells.length/\cs.all AV.one=true then some (.lit undef,H.set id (.box (dX cells off cs)),bf,[])else none
   |_=>none
  |some n,some cs,.jC id g k j=>match H[id]?,bf with
   |some (.aN g' sz false xs),.elem e::aT=>if cs.length=n/\j+cs.length<=sz/\cs.all AV.one=true then
    some (.lit undef,H.set id (.aN g sz false (xs.set k (dX e j cs))),aT,[g'=g,xs[k]?=some e])else none
   |_,_=>none
  |_,_,_=>none
 |.buildSlice t len parts=>match P.underlying t with
  |some (.slice e)=>match P.info? e with
   |some i=>match i.zero with
    |some z=>if len*i.size<=16777216/\len<=16777216 then
     (match D7 (fun k=>some (k*i.size,i.size)) (EP (z.cells.toList.map .lit) (len*i.size)) (parts.toList.map fun(i,x)=>(i,ev x))with
     |some out=>if out.length=len*i.size/\out.all AV.one=true then
      (match bf with
      |.aU::aT=>some (.aU H.length 0 0 len,H++[.aN 0 i.size false (oC i.size len out)],aT,[])
      |_=>if out.all AV.fJ=true then some (.sl i.size true (oC i.size len out),H,bf,[])else none)else none
     |none=>none)else none
    |none=>none
   |none=>none
  |_=>none
 |.makeSlice t l c=>match P.underlying t,ru (ev l),ru (ev c)with
  |some (.slice e),some n,some m=>match P.info? e with
   |some i=>match i.zero with
    |some z=>if z.cells.size=i.size/\(z.cells.toList.all fun v=>v.oneCell')=true then
     some (.aU H.length 0 0 n.toNat,H++[.aN 0 i.size false (replicate n.toNat (z.cells.toList.map .lit))],bf,[0<=n/\n<=m/\(i.bytes:Int)*m<=281474976710656/\m<=4611686018427387904])else none
    |none=>none
   |none=>none
  |_,_,_=>none
 |.slice t x none none none=>match P.underlying t,ev x with
  |some (.array n e),.ptr id 0=>match jK P e,H[id]? with
   |some s,some (.box cells)=>if cells.length=n*s/\cells.all AV.fJ=true/\cells.all AV.one=true then some (.sl s true (oC s n cells),H.set id .aH,bf,[])else none
   |_,_=>none
  |_,_=>none
 |.makeMap t h=>match P.underlying t,nk ev 0 h with
  |some (.map _ _),some _=>some (.mp H.length,H++[.map []],bf,[])
  |_,_=>none
 |.range t x=>match P.underlying t,ev x with
  |some (.map _ _),.md true es=>some (.ptr H.length 0,H++[.iter none es],bf,[])
  |_,_=>none
 |.mapUpdate t m k x=>match P.underlying t,ev m,(ev k).zL,bf with
  |some (.map kt _),.mp id,some kv,.wT uz::aT=>match H[id]? with
   |some (.map es)=>some (.lit undef,H.set id (.map uz),aT,[jm P kt es kv (ev x) uz])
   |_=>none
  |_,_,_,_=>none
 |.insert t m k x=>match P.underlying t,ev m,(ev k).zL,bf with
  |some (.map kt _),.mp id,some kv,.wT uz::aT=>match H[id]? with
   |some (.map es)=>some (.lit undef,H.set id (.map uz),aT,[jm P kt es kv (ev x) uz])
   |_=>none
  |_,_,_,_=>none
 |.mapEntry t m k=>match P.underlying t,ev m,(ev k).zL,bf with
  |some (.map kt et),.mp id,some kv,.afd x i uz::aT=>match H[id]?,vI P (zeroValue et)with
   |some (.map es),some z=>some (.bq [x,.lit (.int .i64 (i:Nat))],H.set id (.map uz),aT,[Ey P kt es kv (.lit z) x i uz])
   |_,_=>none
  |_,_,_,_=>none
 |.entryStore _ m s x=>match ev m,ev s with
  |.mp id,.lit (.int .i64 (.ofNat i))=>match H[id]? with
   |some (.map es)=>some (.lit undef,H.set id (.map (CK es i (ev x))),bf,[i<es.length])
   |_=>none
  |_,_=>none
 |.convert src dst x=>match P.underlying src,P.underlying dst,ev x with
  |some _,some (.slice e),.lit (.string s)=>if aad P e=true then some (.sl 1 false (s.data.toList.map fun c=>[.lit (.int .u8 c.toNat)]),H,bf,[])else none
  |_,_,_=>none
 |.call { callee:=.builtin .append,args:=args,argTypes:=ts }=>match args.toList,ts.toList with
  |[a,x],[ta,tx]=>Az P H ta tx (ev a) (ev x) bf
  |_,_=>none
 |.call { callee:=.builtin .clear,args:=args,argTypes:=ts }=>match args.toList,ts.toList with
  |[a],[ta]=>(Nt P H ta (ev a)).map fun(x,H',ps)=>(x,H',bf,ps)
  |_,_=>none
 |_=>none
def alf(P:Program)(G:Nat->Option (List AV))(V:View)(ρ:Operand->Value)(o:Oper)(x:AV)(H':List ah):Prop :=
 ∃(V':View)(r:Next)(v:Value),(execOp ρ o).run P V.w = .ok r V'.w/\(r = .value v\/(r = .skip/\v=undef))/\V'.H=H'/\Step V V'/\aD G V'/\dI V' x v
variable {H':List ah}
variable {cap:Nat}{ux:Value}{ts tx ty e:TypeId}
variable {f:Nat->Value}
variable {ys:List (List AV)}
section
variable {P:Program} {G:Nat->Option (List AV)} {V:View} {ev:Operand->AV} {ρ:Operand->Value} {o:Oper}
theorem FP{x}{v}(h:PK x=true)(hr:dI V x v):dR V.w V.M x v:=by
 cases x<;>first|(cases h)|skip
 case lit u=>rw[bW hr];exact .lit _
 case iG cs=>exact pR hr
 case sl sz t xs=>exact jF hr
 case md it es=>exact zM hr
theorem FQ{xs}{vs}(h:xs.all PK=true)(hr:bR V xs vs):∀j,j<xs.length->dR V.w V.M (xs.getD j .aP) (vs.getD j undef):=fun j hj =>
 FP (by grind) (hr.2 j hj)
theorem kE{x}{v}(h:x.fJ=true)(hr:dI V x v):dR V.w V.M x v:=by
 cases x<;>first|(cases h)|skip
 case lit u=>rw[bW hr];exact .lit _
 case iG cs=>exact pR hr
 case sl sz t xs=>exact jF hr
 case md it es=>exact zM hr
 case fn f aZ bs =>
  obtain⟨us,vs,rfl,ha,hb⟩:=yY hr;simp only[AV.fJ,y04]at h;exact .fn f aZ bs us vs ha.1 hb.1 (FQ h.1 ha) (FQ h.2 hb)
 case qX t y =>
  obtain⟨v,rfl,hy⟩:=Df hr;exact .qX t y v (FP h hy)
theorem Wl{cs}{t}(hh:w'.heap=h.push (.cells cs t))j:w'.cell? ⟨h.size,j,none⟩=cs[j]? := by
 simp[World.cell?,hh]
theorem jZ{o}(hh:w'.heap=h.push o):w'.heap[h.size]?=some o:=by rw[hh];simp
theorem Uv(hG:aD G V){cells}{vs}{t}(hr:bR V cells vs) :
 ∃V':View,V'.w=V.w.alloc (.cells vs.toArray t)/\V'.H=V.H++[.box cells]/\Step V V'/\aD G V'/\dI V' (.ptr V.H.length 0) (.pointer (some ⟨V.w.heap.size,0,none⟩)):=by
 obtain⟨V',h1,h2,h3,h4,h5⟩:=qA hG (w':=V.w.alloc (.cells vs.toArray t)) (eP:=.box cells) rfl rfl rfl rfl fun V' hw hs =>
  ⟨t,vs,by rw[hw];exact jZ rfl,hr.step hs⟩
 refine⟨V',h1,h2,h3,h4,?_⟩;rw[<- h5];exact .ptr _ 0 ⟨.box cells,by rw[h2];simp,rfl⟩
theorem xU{w}{b off}{t' ty}{n}{cur}{v}(hs:jK P ty=some n)(hc:w.heap[b]?=some (.cells cur t' (0,0)))(hn:v.cells.size=n)(pO:off+n<=cur.size)(h1:∀u∈v.cells.toList,u.oneCell'=true):(storeVar ty ⟨b,off,none⟩ v).run P w = .ok () (w.setRow b (dX cur.toList off v.cells.toList).toArray):=by
 have:=run_storeCells_at P b off t' v.cells.toList 0 cur w hc (by simp;omega) h1;simp[storeVar,jq hs,hn,this,dX]
theorem Jl(s n:Nat)cells(hl:cells.length=n*s){k}(hk:k<n):(oC s n cells).getD k []=(cells.drop (k*s)).take s/\((cells.drop (k*s)).take s).length=s:=by
 have uQ:k*s+s<=n*s:=by
  have:=y22 s (show k+1<=n by omega);grind
 exact⟨by simp[oC,hk],by simp;omega⟩
theorem zV(s n:Nat)cells(hl:cells.length=n*s){k j}(hk:k<n)(hj:j<s):((oC s n cells).getD k []).getD j .aP=cells.getD (k*s+j) .aP:=by
 rw[(Jl s n cells hl hk).1];grind
theorem jM(s n:Nat)cells:(oC s n cells).length=n:=by simp[oC]
theorem ER(s n:Nat)cells(hl:cells.length=n*s):∀x∈oC s n cells,x.length=s:=by
 intro x hx;obtain⟨k,hk,rfl⟩:=yG.1 hx;exact(Jl s n cells hl (mem_range.1 hk)).2
theorem gq{k j:Nat}(hk:k<n)(hj:j<s):k*s+j<n*s:=by
 have:=y22 s (show k+1<=n by omega);grind
theorem bR.get{xs}{vs}(h:bR V xs vs){j}(hj:j<xs.length):∃v,vs[j]?=some v/\dI V (xs.getD j .aP) v:=by
 have hj':j<vs.length:=by rw[h.1];exact hj
 have:=h.2 j hj;grind
theorem G7(hG:aD G V){w'}{t}{c}{s}{xs}{cap}(hh:w'.heap=V.w.heap.push (.cells c t))(h1:w'.os=V.w.os)(h2:w'.tape=V.w.tape)(h3:w'.output=V.w.output)(iZ:∀x∈xs,x.length=s)(pK:xs.length<=cap)(Pf:cap<=maxLen)(jQ:cap*s=c.size)(hc:∀k j,k<xs.length->j<s->∃v,c[k*s+j]?=some v/\v.oneCell'=true/\dI V ((xs.getD k []).getD j .aP) v)(GH:V.w.drawn<=w'.drawn:=by first|exact yM|exact Nat.le_succ _|(simp)|omega|assumption) :
 ∃V':View,V'.w=w'/\V'.H=V.H++[.aN 0 s false xs]/\Step V V'/\aD G V'/\dI V' (.aU V.H.length 0 0 xs.length) (.slice (some ⟨V.w.heap.size,0,none⟩) xs.length cap):=by
 have uQ:xs.length*s<=c.size:=by rw[<- jQ];exact y22 s pK
 obtain⟨V',k1,k2,k3,k4,k5⟩:=qA hG  (eP:=.aN 0 s false xs) hh h1 h2 h3 fun V' hw hs =>
  ⟨t,c,by rw[hw];grind,uQ,iZ,fun k j hk hj=>let ⟨v,hv,ho,hr⟩:=hc k j hk hj;⟨v,hv,ho,hr.step hs⟩⟩
 refine⟨V',k1,k2,k3,k4,.aU _ _ _ _ _ ⟨rfl,?_⟩⟩;have:V'.H[V.H.length]?=some (.aN 0 s false xs):=by rw[k2];simp
 rw[this];exact⟨yM,fun _=>⟨_,cap,c,t,rfl,fun _=>by simp,pK,Pf,by rw[k5];grind,by rw[y09];exact jQ⟩⟩
theorem tY{V'}{id g s len cap}{xs}{A}{c}{t}(h1:V'.H[id]?=some (.aN g s false xs))(hA:cap≠0->A=some ⟨V'.ρ id,0,none⟩)(h2:len<=cap)(h3:cap<=maxLen)(h4:V'.w.heap[V'.ρ id]?=some (.cells c t (0,0)))(h5:cap*s=c.size):dI V' (.aU id g 0 len) (.slice A len cap):=by
 refine .aU _ _ _ _ _ ⟨rfl,?_⟩;rw[h1];exact⟨yM,fun _=>⟨A,cap,c,t,rfl,fun h=>by rw[Nat.zero_mul];grind,h2,h3,h4,by rw[y09];exact h5⟩⟩
def tZ(V:View)(s:Nat)(xs:List (List AV))(c:Array Value):Prop :=
 xs.length*s<=c.size/\(∀x∈xs,x.length=s)/\∀k j,k<xs.length->j<s->∃v,c[k*s+j]?=some v/\v.oneCell'=true/\dI V ((xs.getD k []).getD j .aP) v
theorem tZ.step{V V'}(hs:Step V V'){s}{xs}{c}(h:tZ V s xs c):tZ V' s xs c :=
 ⟨h.1,h.2.1,fun k j hk hj=>let ⟨v,h1,h2,h3⟩:=h.2.2 k j hk hj;⟨v,h1,h2,h3.step hs⟩⟩
theorem Si{k}:(xs++ys).getD k []=if k<xs.length then xs.getD k []else ys.getD (k-xs.length) []:=by grind
theorem Jm{s}{xs ys}{c}{f0:Nat->Value}(h0:∀j,j<xs.length*s->c[j]?=some (f0 j))(h1:∀j,j<ys.length*s->c[xs.length*s+j]?=some (f j))(iZ:(xs.length+ys.length)*s<=c.size)(hx:∀y∈xs,y.length=s)(hy:∀y∈ys,y.length=s)(o0:∀j,j<xs.length*s->(f0 j).oneCell'=true)(o1:∀j,j<ys.length*s->(f j).oneCell'=true)(r0:∀k j,k<xs.length->j<s->dI V ((xs.getD k []).getD j .aP) (f0 (k*s+j)))(r1:∀k j,k<ys.length->j<s->dI V ((ys.getD k []).getD j .aP) (f (k*s+j))):tZ V s (xs++ys) c:=by
 refine⟨by rw[yD];exact iZ,fun y hm=>(yI.1 hm).elim (hx y) (hy y),fun k j hk hj=>?_⟩;rw[yD]at hk;rw[Si];by_cases bg:k<xs.length
 .have hkj:=gq bg hj;grind
 .have Oc:k-xs.length<ys.length:=zO
  have hkj:=gq Oc hj;have e1:k*s+j=xs.length*s+((k-xs.length)*s+j):=by
   rw[<- Nat.add_assoc,<- Nat.add_mul];grind
  rw[e1];grind
theorem zW{ts tx ty e}{i}{z}(hu:P.underlying ts=some (.slice e))(hi:P.info? e=some i)(hz:i.zero=some z)(hby:0<i.bytes)(QC:z.cells.size=i.size){ux}{xs ys}{f0 f}(hf:Ec P V ys i.size ux f)(K6:(∃e,P.underlying tx=some (TypeDesc.slice e))\/P.underlying tx=some TypeDesc.string)base(sCap:Nat)(aoF:∀y∈xs,y.length=i.size)(Zh:∀w':World,w'.heap=V.w.heap->(Builtin.firstCells i.size xs.length (.slice base xs.length sCap)).run P w' = .ok ((List.range (xs.length*i.size)).map f0).toArray w')(rY:∀j,j<xs.length*i.size->(f0 j).oneCell'=true)(alg:∀k j,k<xs.length->j<i.size->dI V ((xs.getD k []).getD j .aP) (f0 (k*i.size+j)))(pK:sCap<xs.length+ys.length)(agT:(xs.length+ys.length)*i.bytes<=140737488355328) :
 ∃cap c,xs.length+ys.length<=cap/\cap<=maxLen/\cap*i.size=c.size/\(Builtin.append_ #[ts,tx] ty #[.slice base xs.length sCap,ux]).run P V.w = .ok (.slice (some ⟨V.w.heap.size,0,none⟩) (xs.length+ys.length) cap) (V.w.drew.alloc (.cells c e)) /\
  tZ V i.size (xs++ys) c:=by
 have aqr:=y07 (Nat.le_mul_of_pos_right _ hby) agT;have Pf:xs.length+ys.length<=maxLen:=by unfold maxLen;omega
 have pO:Builtin.nextslicecap (xs.length+ys.length) sCap*i.bytes<=281474976710656:=by
  have:=y22 i.bytes (nextslicecap_le pK);grind
 have jJ:=Jk V.w ts tx ty e i z hu K6 hi hz base xs.length sCap ys.length ux _ _ hf.len Zh hf.cells pK zO pO;have Ct:=grownCap_ge V.w (xs.length+ys.length) sCap e;have jQ:grownCap V.w (xs.length+ys.length) sCap e*i.size=(((List.range (xs.length*i.size)).map f0).toArray++((List.range (ys.length*i.size)).map f).toArray++Builtin.zeroCells z.cells (grownCap V.w (xs.length+ys.length) sCap e-(xs.length+ys.length))).size:=by
  simp only[Array.size_append,size_toArray,y10,length_range,size_zeroCells,QC,<- Nat.add_mul];grind
 refine⟨_,_,Ct,grownCap_le_maxLen V.w _ sCap e Pf,jQ,jJ,Jm   (fun j hj=>?_) (fun j hj=>?_) ?_ aoF hf.sz rY hf.one alg hf.rep⟩
 .rw [Array.append_assoc,Array.getElem?_append_left (by simpa using hj)];simp[hj]
 .rw [Array.append_assoc,Array.getElem?_append_right zS,Array.getElem?_append_left (by simp;exact hj)];simp[hj]
 grind
theorem xG{a m}{c:List Value}{news}(hm:news.length=m)(pO:a+m<=c.length)j:(dX c a news)[j]?=if j<a then c[j]? else if j<a+m then news[j-a]? else c[j]? := by
 unfold Am.dX;grind
theorem uf{a m}{c}{news:List Value}(hm:news.length=m)(pO:a+m<=c.length):(dX c a news).length=c.length:=by
 unfold Am.dX;grind
theorem Wm{i:TypeInfo}(hu:P.underlying ts=some (.slice e))(hi:P.info? e=some i)(hf:Ec P V ys i.size ux f)(K6:(∃e,P.underlying tx=some (TypeDesc.slice e))\/P.underlying tx=some TypeDesc.string)(hG:aD G V){id:Nat}(hH:V.H[id]?=some (.aN g i.size false xs))(Gi:V.w.heap[V.ρ id]?=some (.cells c t (0,0)))(QF:cap*i.size=c.size)(Pf:cap<=maxLen)(gY:xs.length+ys.length<=cap)(ok:tZ V i.size xs c) :
 ∃(V':View)(v:Value),(Builtin.append_ #[ts,tx] ty #[.slice (some ⟨V.ρ id,0,none⟩) xs.length cap,ux]).run P V.w = .ok v V'.w/\V'.H=V.H.set id (.aN (g+1) i.size false (xs++ys))/\Step V V'/\aD G V'/\dI V' (.aU id (g+1) 0 (xs.length+ys.length)) v:=by
 have bg:=hG.lt id (yC.1 hH).1;obtain⟨news,xV⟩:∃news:List Value,news=(List.range (ys.length*i.size)).map f:=⟨_,rfl⟩;have bL:news.length=ys.length*i.size:=by rw[xV];simp
 have pO:xs.length*i.size+ys.length*i.size<=c.size:=by
  rw[<- QF,<- Nat.add_mul];exact y22 _ gY
 have rY:∀u∈news,u.oneCell'=true:=fun u hu=>by
  rw[xV]at hu;obtain⟨j,hj,rfl⟩:=yG.1 hu;exact hf.one j (mem_range.1 hj)
 have lG:=hf.cells V.w rfl;rw[<- xV]at lG;have hn:=BA (P:=P) V.w ts tx ty e i hu K6 hi (V.ρ id) 0 xs.length cap ys.length ux news c t hf.len lG rY gY Gi (by rw[bL];omega);rw[y09]at hn;obtain⟨L,hL⟩:∃L:List Value,L=dX c.toList (xs.length*i.size) news:=⟨_,rfl⟩;have hLl:L.length=c.size:=by rw[hL,uf bL (by simpa using pO)];simp
 have hLg:∀j,L[j]?=if j<xs.length*i.size then c[j]? else if j<xs.length*i.size+ys.length*i.size then news[j-xs.length*i.size]? else c[j]? := fun j=>by
  rw[hL,xG bL (by simpa using pO)];simp
 rw[<- hL]at hn;have kZ:=setRow_heap V.w (V.ρ id) c L.toArray t (0,0) Gi;have dK:tZ V i.size (xs++ys) L.toArray:=by
  obtain⟨o2,o3,o4⟩:=ok;obtain⟨f0,Xp⟩:∃f0:Nat->Value,f0=fun j=>c.getD j undef:=⟨_,rfl⟩;have val:∀j,j<xs.length*i.size->c[j]?=some (f0 j):=fun j hj=>by
   rw[Xp];simp[Array.getD_eq_getD_getElem?,show j<c.size by omega]
  refine Jm (f0:=f0) (f:=f) (fun j hj=>?_) (fun j hj=>?_) (by rw[size_toArray,hLl,Nat.add_mul];exact pO) o3 hf.sz (fun j hj=>?_) hf.one (fun k j hk hj=>?_) hf.rep
  .grind
  .grind
  .obtain ⟨d1,d2,d3⟩:=Ns hj;obtain⟨v,hv,hv1,_⟩:=o4 _ _ d1 d2;rw[d3]at hv;have:=val j hj;rw[hv]at this;cases this;exact hv1
  .have hkj:=gq hk hj;obtain⟨v,hv,_,hr⟩:=o4 k j hk hj;have:=val _ hkj;rw[hv]at this;cases this;exact hr
 obtain⟨V',k1,k2,k3,k4,k5⟩:=tX hG hH (w':=V.w.setRow (V.ρ id) L.toArray) (b':=V.ρ id) (r9:=xs++ys) (.inl rfl) (by rw[setRow_size];exact bg) (by rw[setRow_size];exact yM)
  (fun b _ hb=>setRow_other _ _ _ _ hb) rfl rfl rfl fun V' hw hs=>⟨t,_,by rw[hw];exact kZ,(dK.step hs).1,(dK.step hs).2.1,(dK.step hs).2.2⟩
 refine⟨V',_,by rw[k1];exact hn,k2,k3,k4,tY (c:=L.toArray) (t:=t) (xs:=xs++ys) (s:=i.size) (by rw[k2,getElem?_set_self (yC.1 hH).1]) (fun _=>by rw[k5]) gY Pf (by rw[k1,k5];exact kZ) (by rw[size_toArray,hLl];exact QF)⟩
theorem PL{len k}(h:len+ys.length<=xs.length):(xs.take len++(ys++xs.drop (len+ys.length))).getD k []=if k<len then xs.getD k []else if k<len+ys.length then ys.getD (k-len) []else xs.getD k []:=by grind
theorem PN{i:TypeInfo}(hu:P.underlying ts=some (.slice e))(hi:P.info? e=some i)(hf:Ec P V ys i.size ux f)(K6:(∃e,P.underlying tx=some (TypeDesc.slice e))\/P.underlying tx=some TypeDesc.string)(hG:aD G V){id len:Nat}(hH:V.H[id]?=some (.aN g i.size false xs))(Gi:V.w.heap[V.ρ id]?=some (.cells c t (0,0)))(QF:cap*i.size=c.size)(Pf:cap<=maxLen)(gY:len+ys.length<=cap)(vN:len+ys.length<=xs.length)(ok:tZ V i.size xs c) :
 ∃(V':View)(v:Value),(Builtin.append_ #[ts,tx] ty #[.slice (some ⟨V.ρ id,0,none⟩) len cap,ux]).run P V.w = .ok v V'.w/\V'.H=V.H.set id (.aN (g+1) i.size false (xs.take len++(ys++xs.drop (len+ys.length))))/\Step V V'/\aD G V'/\dI V' (.aU id (g+1) 0 (len+ys.length)) v:=by
 have bg:=hG.lt id (yC.1 hH).1;obtain⟨news,xV⟩:∃news:List Value,news=(List.range (ys.length*i.size)).map f:=⟨_,rfl⟩;have bL:news.length=ys.length*i.size:=by rw[xV];simp
 have pO:len*i.size+ys.length*i.size<=c.size:=by
  rw[<- QF,<- Nat.add_mul];exact y22 _ gY
 have rY:∀u∈news,u.oneCell'=true:=fun u hu=>by
  rw[xV]at hu;obtain⟨j,hj,rfl⟩:=yG.1 hu;exact hf.one j (mem_range.1 hj)
 have lG:=hf.cells V.w rfl;rw[<- xV]at lG;have hn:=BA (P:=P) V.w ts tx ty e i hu K6 hi (V.ρ id) 0 len cap ys.length ux news c t hf.len lG rY gY Gi (by rw[bL];omega);rw[y09]at hn;obtain⟨L,hL⟩:∃L:List Value,L=dX c.toList (len*i.size) news:=⟨_,rfl⟩;have hLl:L.length=c.size:=by rw[hL,uf bL (by simpa using pO)];simp
 have hLg:∀j,L[j]?=if j<len*i.size then c[j]? else if j<len*i.size+ys.length*i.size then news[j-len*i.size]? else c[j]? := fun j=>by
  rw[hL,xG bL (by simpa using pO)];simp
 rw[<- hL]at hn;have kZ:=setRow_heap V.w (V.ρ id) c L.toArray t (0,0) Gi;obtain⟨r9,EO⟩:∃r9:List (List AV),r9=xs.take len++(ys++xs.drop (len+ys.length)):=⟨_,rfl⟩;have Vz:r9.length=xs.length:=by rw[EO];simp only[yD,y18,length_drop];omega
 have dK:tZ V i.size r9 L.toArray:=by
  obtain⟨o2,o3,o4⟩:=ok;refine⟨by rw[Vz,size_toArray,hLl];exact o2,fun x hx=>?_,fun k j hk hj=>?_⟩
  .rw [EO]at hx;rcases yI.1 hx with hx|hx
   .grind
   .rcases yI.1 hx with hx|hx
    .exact hf.sz x hx
    .grind
  .rw [Vz]at hk;rw[EO,PL vN];have a1:k<len->k*i.size+j<len*i.size:=fun h=>gq h hj;have a2:k<len+ys.length->k*i.size+j<(len+ys.length)*i.size:=fun h=>gq h hj;have a3:len<=k->len*i.size<=k*i.size:=fun h=>y22 _ h;have a4:len+ys.length<=k->(len+ys.length)*i.size<=k*i.size:=fun h=>y22 _ h;rw[Nat.add_mul]at a2 a4;rw[getElem?_toArray,hLg];by_cases h1:k<len
   .grind
   .by_cases h2:k<len+ys.length
    .have:=a3 zO;have:=a2 h2;rw[yK h1,yL h2,yK zO,yL zO,xV];have hb:=gq (show k-len<ys.length by omega) hj;have e1:k*i.size+j-len*i.size=(k-len)*i.size+j:=by rw[Nat.sub_mul];omega
     refine⟨f ((k-len)*i.size+j),by rw[e1];simp[hb],hf.one _ hb,hf.rep _ _ zO hj⟩
    .have:=a3 zO;have:=a4 zO;rw[yK h1,yK h2,yK zO,yK zO];exact o4 k j hk hj
 obtain⟨V',k1,k2,k3,k4,k5⟩:=tX hG hH (w':=V.w.setRow (V.ρ id) L.toArray) (b':=V.ρ id) (r9:=r9) (.inl rfl) (by rw[setRow_size];exact bg) (by rw[setRow_size];exact yM)
  (fun b _ hb=>setRow_other _ _ _ _ hb) rfl rfl rfl fun V' hw hs=>⟨t,_,by rw[hw];exact kZ,(dK.step hs).1,(dK.step hs).2.1,(dK.step hs).2.2⟩
 rw[<- EO];refine⟨V',_,by rw[k1];exact hn,k2,k3,k4,tY (c:=L.toArray) (t:=t) (xs:=r9) (s:=i.size) (by rw[k2,getElem?_set_self (yC.1 hH).1]) (fun _=>by rw[k5]) gY Pf (by rw[k1,k5];exact kZ) (by rw[size_toArray,hLl];exact QF)⟩
theorem Nu{t e ty}{i}{z}w(ht:P.underlying t=some (.slice e))(hi:P.info? e=some i)(hz:i.zero=some z)(rY:∀v∈z.cells.toList,v.oneCell'=true)(g o n c:Nat)cur(te:TypeId)(hn:0<n)(hg:w.heap[g]?=some (.cells cur te (0,0)))(pO:o+n*z.cells.size<=cur.size) :
 (Builtin.clear_ #[t] ty #[.slice (some ⟨g,o,none⟩) n c]).run P w = .ok (.tuple #[]) (w.setRow g (dX cur.toList o (Builtin.zeroCells z.cells n).toList).toArray):=by
 have hl:(Builtin.zeroCells z.cells n).toList.length=n*z.cells.size:=by simp[Builtin.zeroCells]
 have h1:∀v∈(Builtin.zeroCells z.cells n).toList,v.oneCell'=true:=fun v hv=>by
  simp only[Builtin.zeroCells,Array.toList_map,yG]at hv;obtain⟨j,hj,rfl⟩:=hv;have hp:0<z.cells.size:=by grind
  rw[getElem!_pos z.cells _ (Nat.mod_lt _ hp)];grind
 have fB:=run_storeCells_at P g o te (Builtin.zeroCells z.cells n).toList 0 cur w hg (by grind) h1;obtain⟨m,rfl⟩:∃m,n=m+1:=⟨n-1,zO⟩;simp[Builtin.clear_,run_underlying ht,zeroValue,typeInfo,hi,hz,fB,dX]
theorem PO{ta:TypeId}{a r:AV}{ua:Value}(h:Nt P V.H ta a=some (r,H',ps))(dG:gZ ps)(hG:aD G V)(ha:dI V a ua) :
 ∃(V':View)(v:Value),(Builtin.clear_ #[ta] ty #[ua]).run P V.w = .ok v V'.w/\V'.H=H'/\Step V V'/\aD G V'/\dI V' r v:=by
 unfold Nt at h;split at h
 .rename_i e hu;split at h
  .rename_i i hi;split at h
   .rename_i z hz;split at h
    .rename_i qK;obtain⟨QC,rY⟩:=qK;split at h
     .rename_i id g off len;split at h
      .rename_i g' sz xs hH;split at h
       .rename_i hss;subst hss;cases h;obtain⟨rfl,vN,_⟩:=dG;obtain⟨_,xZ⟩:=wV ha;rw[hH]at xZ;obtain⟨A,cap,c,t,rfl,hA,hlc,Pf,Gi,QF⟩:=xZ.2 rfl;have bg:=hG.lt id (yC.1 hH).1;have ok:=hG.eP id _ hH;obtain⟨t',c',k1,o2,o3,o4⟩:=ok;rw[Gi]at k1;cases k1;have aqD:tZ V i.size xs c:=⟨o2,o3,o4⟩;have hzl:z.cells.toList.length=i.size:=by simpa using QC
        have aeG:∀v∈z.cells.toList,v.oneCell'=true:=fun v hv=>all_eq_true.1 rY v hv;obtain⟨ys,hys⟩:∃ys:List (List AV),ys=replicate len (z.cells.toList.map AV.lit):=⟨_,rfl⟩;have QV:ys.length=len:=by rw[hys,length_replicate]
        obtain⟨r9,EO⟩:∃r9:List (List AV),r9=xs.take off++(ys++xs.drop (off+ys.length)):=⟨_,rfl⟩;have Vz:r9.length=xs.length:=by rw[EO];simp only[yD,y18,length_drop];omega
        have agU:off+ys.length<=xs.length:=zO
        obtain⟨news,xV⟩:∃news:List Value,news=(Builtin.zeroCells z.cells len).toList:=⟨_,rfl⟩;have hnl:news.length=len*i.size:=by rw[xV];simp[Builtin.zeroCells,QC]
        have pO:off*i.size+len*i.size<=c.size:=by
         refine y07 ?_ o2;rw[<- Nat.add_mul];exact y22 _ vN
        obtain⟨L,hL⟩:∃L:List Value,L=dX c.toList (off*i.size) news:=⟨_,rfl⟩;have hLl:L.length=c.size:=by rw[hL,uf hnl (by simpa using pO)];simp
        have hLg:∀j,L[j]?=if j<off*i.size then c[j]? else if j<off*i.size+len*i.size then news[j-off*i.size]? else c[j]? := fun j=>by
         rw[hL,xG hnl (by simpa using pO)];simp
        have kZ:=setRow_heap V.w (V.ρ id) c L.toArray t (0,0) Gi;have dK:tZ V i.size r9 L.toArray:=by
         refine⟨by rw[Vz,size_toArray,hLl];exact o2,fun x hx=>?_,fun k j hk hj=>?_⟩
         .grind
         .rw [Vz]at hk;rw[EO,PL agU,QV];have a1:k<off->k*i.size+j<off*i.size:=fun h=>gq h hj;have a2:k<off+len->k*i.size+j<(off+len)*i.size:=fun h=>gq h hj;have a3:off<=k->off*i.size<=k*i.size:=fun h=>y22 _ h;have a4:off+len<=k->(off+len)*i.size<=k*i.size:=fun h=>y22 _ h;rw[Nat.add_mul]at a2 a4;rw[getElem?_toArray,hLg];by_cases h1:k<off
          .grind
          .by_cases h2:k<off+len
           .have:=a3 zO;have:=a2 h2;rw[yK h1,yL h2,yK zO,yL zO,xV];have hb:=gq (show k-off<len by omega) hj;have e1:k*i.size+j-off*i.size=(k-off)*i.size+j:=by rw[Nat.sub_mul];omega
            have Nv:((k-off)*i.size+j) % i.size=j:=by rw[Nat.mul_comm,Nat.mul_add_mod];exact Nat.mod_eq_of_lt hj
            have hj2:j<z.cells.size:=zO
            have hbb:=getElem!_pos z.cells j hj2;refine⟨z.cells[j],?_,aeG _ zS,?_⟩
            .rw [e1];simp[Builtin.zeroCells,QC,hb,Nv,hbb]
            .have:(ys.getD (k-off) []).getD j .aP = .lit z.cells[j]:=by
              rw[hys];simp[yB,hj2,show k-off<len by omega]
             rw[this];exact .pure _ _ (.lit _)
           .grind
        rw[QV]at EO;rw[hys]at EO;rw[<- EO];rcases Nat.eq_zero_or_pos len with h0|qh
        .subst h0;have hn:(Builtin.clear_ #[ta] ty #[.slice A 0 cap]).run P V.w = .ok (.tuple #[]) V.w:=by
          cases A<;>simp[Builtin.clear_,run_underlying hu]
         have he:V.H.set id (.aN g' i.size false r9)=V.H:=by
          have:r9=xs:=by rw[EO];simp
          rw[this];obtain⟨aoG,e2⟩:=yC.1 hH;rw[<- e2];simp
         rw[he];exact⟨V,_,hn,rfl,Step.refl V,hG,.pure _ _ (.bq [] [] rfl fun j hj=>absurd hj zS)⟩
        .have hAe:=hA zO;subst hAe;have hn:=Nu (P:=P) (ty:=ty) V.w hu hi hz aeG (V.ρ id) (off*i.size) len cap c t qh Gi (by rw[QC];exact pO);rw[<- xV,<- hL]at hn;obtain⟨V',k1,k2,k3,k4⟩:=wE hG hH rfl (w':=V.w.setRow (V.ρ id) L.toArray) (ou:=.aN g' i.size false r9) Gi kZ (by rw[size_toArray];exact hLl)
          (fun b hb=>setRow_other _ _ _ _ hb) (by rw[setRow_size]) rfl rfl rfl ⟨rfl,rfl,rfl⟩ fun V' hw hs=>⟨t,_,by rw[hw];exact kZ,(dK.step hs).1,(dK.step hs).2.1,(dK.step hs).2.2⟩
         exact⟨V',_,by rw[k1];exact hn,k2,k3,k4,.pure _ _ (.bq [] [] rfl fun j hj=>absurd hj zS)⟩
       .cases h
      .cases h
     .cases h
    .cases h
   .cases h
  .cases h
 .cases h
theorem Nw{ts tx}{a x r}{ua ux}{H'}{bf aT}{ps}{ty}(h:Az P V.H ts tx a x bf=some (r,H',aT,ps))(dG:gZ ps)(hG:aD G V)(ha:dI V a ua)(hx:dI V x ux):∃(V':View)(v:Value),(Builtin.append_ #[ts,tx] ty #[ua,ux]).run P V.w = .ok v V'.w/\V'.H=H'/\Step V V'/\aD G V'/\dI V' r v:=by
 unfold Az at h;split at h
 .rename_i e hu;split at h
  .rename_i i hi;split at h
   .rename_i z ys hz af5;split at h
    .rename_i qh;obtain⟨hby,iZ,QC⟩:=qh;have src:gZ (nZ V.H x ys.length)->(∃f,Ec P V ys i.size ux f)/\((∃e,P.underlying tx=some (.slice e))\/P.underlying tx=some .string):=fun ho=>Wj rfl af5 ho hG hx;split at h
     ·
      have hua:=bW ha;subst hua;split at h
      .cases h;obtain⟨rfl,ho⟩:=dG;obtain⟨⟨f,hf⟩,K6⟩:=src ho;have hn:=mW (P:=P) V.w ts tx ty e i hu K6 hi none 0 0 ux hf.len (by simpa using hf.cells V.w rfl) yM;exact⟨V,_,hn,rfl,Step.refl V,hG,.pure _ _ (.lit _)⟩
      .cases h;obtain⟨fF,hb,ho⟩:=dG;have qh:=length_pos_iff.2 fF;obtain⟨⟨f,hf⟩,K6⟩:=src ho;obtain⟨cap,c,g1,g2,g3,g4,g5⟩:=zW (ty:=ty) (xs:=[]) (f0:=fun _=>undef) hu hi hz hby QC hf K6 none 0 zS (fun w' _=>by simp[Builtin.firstCells]) (fun j hj=>absurd hj zS) (fun k j hk=>absurd hk zS) (by simp;omega) (by rw[y11,y09];exact hb);simp only[nil_append,y11,y09]at g1 g4 g5;obtain⟨V',k1,k2,k3,k4,k5⟩:=G7 hG (w':=V.w.drew.alloc (.cells c e)) (t:=e) (c:=c) (cap:=cap) rfl rfl rfl rfl g5.2.1 g1 g2 g3 g5.2.2;exact⟨V',_,by rw[k1];exact g4,k2,k3,k4,k5⟩
     ·
      rename_i sz xs;obtain⟨A,cap0,rfl,hc1,Zg,_⟩:=zU (jF ha);have Gi:=Zg rfl;subst Gi;split at h
      .rename_i hss;split at h
       .cases h;obtain⟨rfl,ho⟩:=dG;obtain⟨⟨f,hf⟩,K6⟩:=src ho;have hn:=mW (P:=P) V.w ts tx ty e i hu K6 hi A xs.length xs.length ux hf.len (by simpa using hf.cells V.w rfl) yM;exact⟨V,_,hn,rfl,Step.refl V,hG,ha⟩
       .cases h;obtain⟨fF,hb,ho⟩:=dG;subst hss;have qh:=length_pos_iff.2 fF;obtain⟨⟨f,hf⟩,K6⟩:=src ho;obtain⟨f0,Xp⟩:=aag (P:=P) (jF ha);obtain⟨cap,c,g1,g2,g3,g4,g5⟩:=zW (ty:=ty) hu hi hz hby QC hf K6 A xs.length Xp.sz Xp.cells Xp.one Xp.rep zO hb;obtain⟨V',k1,k2,k3,k4,k5⟩:=G7 hG (w':=V.w.drew.alloc (.cells c e)) (t:=e) (c:=c) (cap:=cap) rfl rfl rfl rfl g5.2.1 (by rw[yD];exact g1) g2 g3 g5.2.2;rw[yD]at k5;exact⟨V',_,by rw[k1];exact g4,k2,k3,k4,k5⟩
      .cases h
     ·
      rename_i id g len;split at h
      .rename_i g' sz xs hH;split at h
       .rename_i hgs;subst hgs;split at h
        .cases h;obtain⟨eg,vN,ho⟩:=dG;subst eg;obtain⟨A,cap,c,t,rfl,hA,hc1,Zg,Gi,QF⟩:=sj hH ha;rw[y09]at QF;rw[Nat.zero_mul]at hA;obtain⟨t',c',o1,o2⟩:=hG.eP id _ hH;rw[Gi]at o1;cases o1;obtain⟨⟨f,hf⟩,K6⟩:=src ho;have pO:xs.length*i.size<=cap*i.size:=by rw[QF];exact o2.1
         have hcx:=Nat.le_of_mul_le_mul_right pO iZ;by_cases bS:cap=0
         .subst bS;have hx0:xs=[]:=y02 zO;subst hx0;have agU:=vN;have hy0:ys=[]:=y02 zO;subst hy0;obtain rfl:len=0:=by simpa using agU
          have bg:=(yC.1 hH).1;have hn:=mW (P:=P) V.w ts tx ty e i hu K6 hi A 0 0 ux hf.len (by simpa using hf.cells V.w rfl) hc1;obtain⟨V',k1,k2,k3,k4,k5⟩:=tX hG hH (w':=V.w) (b':=V.ρ id) (r9:=[]) (.inl rfl) (hG.lt id bg) yM (fun _ _ _=>rfl) rfl rfl rfl fun V' hw hs =>
           ⟨t,c,by rw[hw];exact Gi,(tZ.step hs o2).1,(tZ.step hs o2).2.1,(tZ.step hs o2).2.2⟩
          exact⟨V',_,by rw[k1];exact hn,by rw[k2];rfl,k3,k4,tY (c:=c) (t:=t) (xs:=[]) (s:=i.size) (by rw[k2,getElem?_set_self bg]) (fun h=>absurd rfl h) hc1 Zg (by rw[k1,k5];exact Gi) QF⟩
         .have hA':=hA bS;subst hA';exact PN hu hi hf K6 hG hH Gi QF Zg zO vN o2
        cases h;obtain⟨eg,rfl,hb,ho⟩:=dG;subst eg;obtain⟨A,cap,c,t,rfl,hA,hc1,Zg,Gi,QF⟩:=sj hH ha;rw[y09]at QF;rw[Nat.zero_mul]at hA;obtain⟨t',c',o1,o2⟩:=hG.eP id _ hH;rw[Gi]at o1;cases o1;have bg:=(yC.1 hH).1;obtain⟨⟨f,hf⟩,K6⟩:=src ho;by_cases hys:ys=[]
        .subst hys;have hn:=mW (P:=P) V.w ts tx ty e i hu K6 hi A xs.length cap ux hf.len (by simpa using hf.cells V.w rfl) hc1;have ok:tZ V i.size (xs++[]) c:=by rw[y19];exact o2
         obtain⟨V',k1,k2,k3,k4,k5⟩:=tX hG hH (w':=V.w) (b':=V.ρ id) (r9:=xs++[]) (.inl rfl) (hG.lt id bg) yM (fun _ _ _=>rfl) rfl rfl rfl fun V' hw hs =>
          ⟨t,c,by rw[hw];exact Gi,(ok.step hs).1,(ok.step hs).2.1,(ok.step hs).2.2⟩
         exact⟨V',_,by rw[k1];exact hn,k2,k3,k4,tY (c:=c) (t:=t) (xs:=xs++[]) (s:=i.size) (by rw[k2,getElem?_set_self bg]) (fun h=>by rw[k5];exact hA h) hc1 Zg (by rw[k1,k5];exact Gi) QF⟩
        .have qh:=length_pos_iff.2 hys;by_cases gY:xs.length+ys.length<=cap
         .have hA':=hA zO;subst hA';exact Wm hu hi hf K6 hG hH Gi QF Zg gY o2
         .have xZ:qR V id i.size 0 xs.length (.slice A xs.length cap):=⟨A,cap,c,t,rfl,by rw[Nat.zero_mul];exact hA,hc1,Zg,Gi,by rw[y09];exact QF⟩;obtain⟨f0,Xp⟩:=Uu (P:=P) hG hH xZ zO;simp only[drop_zero,take_length]at Xp;obtain⟨cap',c2,g1,g2,g3,g4,g5⟩:=zW (ty:=ty) hu hi hz hby QC hf K6 A cap Xp.sz (fun w' hw'=>by
           have:=Xp.cells w' hw';cases A with
           |none=>exact this
           |some a=>exact this) Xp.one Xp.rep zO hb
          obtain⟨V',k1,k2,k3,k4,k5⟩:=tX hG hH (w':=V.w.drew.alloc (.cells c2 e)) (b':=V.w.heap.size) (r9:=xs++ys) (.inr yM) zS zS (fun b hb' _=>oz hb') rfl rfl rfl fun V' hw hs =>
           ⟨e,c2,by rw[hw];exact jZ rfl,(g5.step hs).1,(g5.step hs).2.1,(g5.step hs).2.2⟩
          exact⟨V',_,by rw[k1];exact g4,k2,k3,k4,tY (c:=c2) (t:=e) (xs:=xs++ys) (s:=i.size) (by rw[k2,getElem?_set_self bg]) (fun _=>by rw[k5]) g1 g2 (by rw[k1,k5];exact jZ rfl) g3⟩
       .cases h
      .cases h
     .cases h
    .cases h
   .cases h
  .cases h
 .cases h
end
variable {xv:Value}{uz:List (Value×AV)}{et:TypeId}
section
variable {P:Program} {G:Nat->Option (List AV)} {V:View} {ev:Operand->AV} {ρ:Operand->Value} {o:Oper}
theorem Wn(z:List Value)n:bR V (EP (z.map .lit) n) ((List.range n).map fun i=>z.toArray[i % z.toArray.size]!):=by
 refine⟨by simp[EP],fun j hj=>?_⟩;have hj':j<n:=by simpa[EP]using hj
 have e1:(EP (z.map .lit) n).getD j .aP=(z.map AV.lit).getD (j % z.length) .aP:=by grind[EP]
 have e2:((List.range n).map fun i=>z.toArray[i % z.toArray.size]!).getD j undef=z.toArray[j % z.length]! := by grind
 rw[e1,e2];by_cases hz:z=[]
 .subst hz;exact .aP _
 .have bg:j % z.length<z.length:=Nat.mod_lt _ (length_pos_iff.2 hz);have e3:(z.map AV.lit).getD (j % z.length) .aP = .lit z[j % z.length]:=by grind
  have e4:z.toArray[j % z.length]! = z[j % z.length]:=by
   simp[bg]
  rw[e3,e4];exact .pure _ _ (.lit _)
theorem run_buildSlice{t e}{i}{z}{len}{parts}{cells:List Value}(hu:P.underlying t=some (.slice e))(hi:P.info? e=some i)(hz:i.zero=some z)(hs:len*i.size<=16777216)(hf:Instr.fill (fun k=>some (k*i.size,i.size)) ((List.range (len*i.size)).map fun j=>z.cells.toList.toArray[j % z.cells.toList.toArray.size]!).toArray parts=some cells.toArray)w :
 (Instr.buildSlice t len parts.toArray).run P w = .ok (.slice (some ⟨w.heap.size,0,none⟩) len len) (w.alloc (.cells cells.toArray e)):=by
 have iZ:¬(len*i.size>2^24):=zO
 by_cases hn:len*i.size=0
 .rw [hn]at hf;simp at hf;simp[Instr.buildSlice,run_underlying hu,sizeOf,typeInfo,hi,hn,Array.range_zero',hf,newRow]
 .have e:(Array.range (len*i.size)).map (fun x=>z.cells[x % z.cells.size]!)=((List.range (len*i.size)).map fun j=>z.cells.toList.toArray[j % z.cells.toList.toArray.size]!).toArray:=by
   apply Array.ext';simp
  rw[<- e]at hf;simp[Instr.buildSlice,run_underlying hu,sizeOf,typeInfo,hi,iZ,hn,zeroValue,hz,hf,newRow]
theorem Wo(hG:aD G V)e(s:yP):∃V':View,V'.w=Lib.bytesWorld V.w e s/\V'.H=V.H/\Step V V'/\aD G V' /\
 dR V'.w V'.M (.sl 1 false (s.data.toList.map fun c=>[AV.lit (.int .u8 c.toNat)])) (.slice (some ⟨V.w.heap.size,0,none⟩) s.size (grownCap V.w s.size 0 e)):=by
 have hh:(Lib.bytesWorld V.w e s).heap=V.w.heap.push (.cells (Lib.bytesCells V.w e s) e ((Lib.bytesCells V.w e s).size,(Lib.bytesCells V.w e s).size+1)):=by
  apply Array.ext (by rw[Lib.bytesWorld_size,Array.size_push]);intro j h1 h2;rw[Lib.bytesWorld_size]at h1;have key:(Lib.bytesWorld V.w e s).heap[j]?=(V.w.heap.push (.cells (Lib.bytesCells V.w e s) e ((Lib.bytesCells V.w e s).size,(Lib.bytesCells V.w e s).size+1)))[j]? := by
   rcases y08 j V.w.heap.size with h|h
   .rw [Lib.bytesWorld_at_old _ _ _ _ h,Array.getElem?_push,yK zO]
   .have:j=V.w.heap.size:=zO
    subst this;rw[Lib.bytesWorld_at_new,Array.getElem?_push,yL rfl]
  grind
 obtain⟨V',k1,k2,k3,k4,k5⟩:=K5 hG  hh rfl rfl rfl;refine⟨V',k1,k2,k3,k4,?_⟩;have hl:(s.data.toList.map fun c=>[AV.lit (.int .u8 c.toNat)]).length=s.size:=by rw[y10];rfl
 have:=dR.sl (w:=V'.w)  1 false (s.data.toList.map fun c=>[AV.lit (.int .u8 c.toNat)]) (some ⟨V.w.heap.size,0,none⟩) (grownCap V.w s.size 0 e) V.w.heap.size 0 (fun k _=>.int .u8 (s.data.toList.getD k 0).toNat) (fun _=>rfl) (fun _ _=>k5)
  (by rw[hl];exact grownCap_ge V.w s.size 0 e) (fun h=>by cases h) (fun x hx=>by obtain⟨c,_,rfl⟩:=yG.1 hx;rfl) (fun k j hk hj=>by
   have:j=0:=zO
   subst this;rw[k1,y09,Nat.mul_one];exact Lib.bytesWorld_cell V.w e s k zO) (fun _ _ _ _=>rfl) (fun k j hk hj=>by
   have:j=0:=zO
   subst this;have e1:(s.data.toList.map fun c=>[AV.lit (.int .u8 c.toNat)]).getD k []=[AV.lit (.int .u8 (s.data.toList.getD k 0).toNat)]:=by grind
   rw[e1];exact .lit _)
 grind
theorem FR(l:List α)(j:Nat)f{e}(h:l[j]?=some e):l.toArray.modify j f=(l.set j (f e)).toArray:=by grind
theorem Ed{kt:TypeId}{id:Nat}{kv:Value}{x:AV}(ht:P.underlying t=some (.map kt et))(agV:jm P kt es kv x uz)(hG:aD G V)(hH:V.H[id]?=some (.map es))(hx:dI V x xv):∃w':World,(Instr.mapUpdate t (.map (some (V.ρ id))) kv xv).run P V.w = .ok () w'/\(∀b,b≠V.ρ id->w'.heap[b]?=V.w.heap[b]?)/\w'.heap.size=V.w.heap.size/\w'.os=V.w.os/\w'.tape=V.w.tape /\
  w'.output=V.w.output/\w'.drawn=V.w.drawn/\∀V':View,V'.w=w'->Step V V'->fZ V' (V.ρ id) (.map uz):=by
 obtain⟨ents,clock,hb,Ew,hd,hbd,bg,Ii⟩:=wK hG hH;obtain⟨K,⟨l,hl⟩,LG,y8⟩:=agV;have bL:ents.length=es.length:=by simpa using yJ length Ew
 have FM:∀{i:Nat}{e:MapEntry},ents[i]?=some e->∃p,es[i]?=some p/\p.1=e.key:=fun{i e} he=>by
  have h1:(ents.map (·.key))[i]?=some e.key:=by rw[getElem?_map,he];rfl
  rw[Ew,getElem?_map]at h1;obtain⟨p,hp,xS⟩:=Option.map_eq_some_iff.1 h1;exact⟨p,hp,xS⟩
 have Jf:∀e∈ents.toArray.toList,∃l,keyOf P kt e.key=some l:=fun e he=>by
  obtain⟨i,hi⟩:=mem_iff_getElem?.1 (by simpa using he);obtain⟨p,hp,xS⟩:=FM hi;rw[<- xS];exact LG p (mem_of_getElem? hp)
 have lt:=(Array.getElem?_eq_some_iff.1 hb).1;have pF:∀o:Obj,({ V.w with heap:=V.w.heap.setIfInBounds (V.ρ id) o }:World).heap[V.ρ id]?=some o:=fun o=>by simp[lt]
 have BU:∀(o:Obj)(b:Nat),b≠V.ρ id->({ V.w with heap:=V.w.heap.setIfInBounds (V.ρ id) o }:World).heap[b]?=V.w.heap[b]? := fun o b fF=>by
  show(V.w.heap.setIfInBounds (V.ρ id) o)[b]?=_;rw[Array.getElem?_setIfInBounds,yK (fun e=>fF e.symm)]
 rcases K.find V.w hl ents.toArray.toList Jf with⟨h1,h2⟩|⟨j,e0,h1,h2,h3⟩
 .have xY:∀e∈es,e.1≠kv:=fun e he hek=>by
   have:e.1∈es.map (·.1):=yG.2 ⟨e,he,rfl⟩;rw[<- Ew]at this;obtain⟨e',he',Gg⟩:=yG.1 this;exact h2 e' (by simpa using he') (Gg.trans hek)
  have aoH:uz=es++[(kv,x)]:=by
   rcases y8 with⟨aZ,bs,y,he,_⟩|⟨_,he⟩
   .exact absurd rfl (xY (kv,y) (by rw[he];simp))
   .exact he
  subst aoH;refine⟨{ V.w with heap:=V.w.heap.setIfInBounds (V.ρ id) (.map (ents++[({ key:=kv,val:=xv,born:=clock }:MapEntry)]).toArray (clock+1)) },?_,BU _,zS,rfl,rfl,rfl,rfl,fun V' hw fB=>?_⟩
  .simp [Instr.mapUpdate,run_underlying ht,MapKept.run_getObj_map hb,K.check V.w false hl,h1,MapKept.run_setObj_map _ hb,Result.andThen]
  .refine ⟨ents++[({ key:=kv,val:=xv,born:=clock }:MapEntry)],clock+1,by rw[hw];exact pF _,by simp[Ew],?_,?_,?_,fun j hj=>?_⟩
   .grind
   .grind [yD,length_singleton,range_succ]
   .grind
   .by_cases JN:j<es.length
    .have e1:uq (es++[(kv,x)]) j=uq es j:=by unfold uq;rw[yB,getElem?_append_left JN,<- yB]
     have e2:gI (ents++[({ key:=kv,val:=xv,born:=clock }:MapEntry)]) j=gI ents j:=by unfold gI;rw[yB,getElem?_append_left zO,<- yB]
     rw[e1,e2];exact(Ii j JN).step fB
    .have hje:j=es.length:=by simp at hj;omega
     subst hje;have e1:uq (es++[(kv,x)]) es.length=x:=by unfold uq;simp[yB]
     have e2:gI (ents++[({ key:=kv,val:=xv,born:=clock }:MapEntry)]) es.length=xv:=by unfold gI;rw[<- bL];simp[yB]
     rw[e1,e2];exact hx.step fB
 .have h2':ents[j]?=some e0:=by simpa using h2
  have hj:=(yC.1 h2').1;obtain⟨p,hp,xS⟩:=FM h2';have hpk:=xS.trans h3;obtain⟨aZ,bs,y,he,rfl⟩:∃aZ bs y,es=aZ++(kv,y)::bs/\uz=aZ++(kv,x)::bs:=by grind
  have hja:j=aZ.length:=by grind
  have Nv:ents.toArray.modify j (fun e=>{ e with key:=kv,val:=xv })=(ents.set j ({ key:=kv,val:=xv,born:=e0.born }:MapEntry)).toArray:=FR ents j _ h2';have hkd:(((ents.toArray[j]?).map (·.key)).getD kv)=kv:=by grind
  refine⟨{ V.w with heap:=V.w.heap.setIfInBounds (V.ρ id) (.map (ents.set j ({ key:=kv,val:=xv,born:=e0.born }:MapEntry)).toArray clock) },?_,BU _,zS,rfl,rfl,rfl,rfl,fun V' hw fB=>?_⟩
  .have Oc:(Instr.keyThatStays (((ents.toArray[j]?).map (·.key)).getD kv) kv).run P V.w = .ok kv V.w:=by rw[hkd];exact K.stays V.w hl
   simp only[Instr.mapUpdate,Sem.run_bind,run_underlying ht,MapKept.run_getObj_map hb,K.check V.w false hl,h1,Result.andThen_ok,Oc,Nv,MapKept.run_setObj_map _ hb]
  .have aoI:(aZ++(kv,x)::bs).map (·.1)=es.map (·.1):=by rw[he];simp
   have hl2:(aZ++(kv,x)::bs).length=es.length:=by rw[he];simp
   refine⟨ents.set j ({ key:=kv,val:=xv,born:=e0.born }:MapEntry),clock,by rw[hw];exact pF _,?_,by rw[aoI];exact hd,?_,?_,fun i hi=>?_⟩
   .simp_all
   .have:(ents.set j ({ key:=kv,val:=xv,born:=e0.born }:MapEntry)).map (·.born)=ents.map (·.born):=by
     rw[map_set];apply ext_getElem?;intro i;rw[getElem?_set];by_cases e:j=i
     .grind
     .rw [yK e]
    rw[this,hbd,length_set]
   .grind
   .rw [hl2]at hi;by_cases e:i=j
    .subst e;have e1:uq (aZ++(kv,x)::bs) i=x:=by unfold uq;rw[hja];simp[yB]
     have e2:gI (ents.set i ({ key:=kv,val:=xv,born:=e0.born }:MapEntry)) i=xv:=by unfold gI;simp[yB,hj]
     rw[e1,e2];exact hx.step fB
    .have e1:uq (aZ++(kv,x)::bs) i=uq es i:=by
      unfold uq;rw[yB,yB,he];by_cases aoG:i<aZ.length
      .grind
      .grind
     have e2:gI (ents.set j ({ key:=kv,val:=xv,born:=e0.born }:MapEntry)) i=gI ents i:=by grind[gI,getElem?_set_ne]
     rw[e1,e2];exact(Ii i hi).step fB
theorem Ny{kt:TypeId}{id:Nat}{kv z:Value}{x:AV}(ht:P.underlying t=some (.map kt et))(hz:vI P (zeroValue et)=some z)(agV:Ey P kt es kv (.lit z) x i uz)(hG:aD G V)(hH:V.H[id]?=some (.map es)):∃(w':World)(v:Value),(Instr.mapEntry t (.map (some (V.ρ id))) kv).run P V.w = .ok (.tuple #[v,goInt i]) w'/\dI V x v/\(∀b,b≠V.ρ id->w'.heap[b]?=V.w.heap[b]?)/\w'.heap.size=V.w.heap.size/\w'.os=V.w.os/\w'.tape=V.w.tape /\
  w'.output=V.w.output/\w'.drawn=V.w.drawn/\∀V':View,V'.w=w'->Step V V'->fZ V' (V.ρ id) (.map uz):=by
 obtain⟨ents,clock,hb,Ew,hd,hbd,bg,Ii⟩:=wK hG hH;obtain⟨K,⟨l,hl⟩,LG,y8⟩:=agV;have bL:ents.length=es.length:=by simpa using yJ length Ew
 have FM:∀{i:Nat}{e:MapEntry},ents[i]?=some e->∃p,es[i]?=some p/\p.1=e.key:=fun{i e} he=>by
  have h1:(ents.map (·.key))[i]?=some e.key:=by rw[getElem?_map,he];rfl
  rw[Ew,getElem?_map]at h1;obtain⟨p,hp,xS⟩:=Option.map_eq_some_iff.1 h1;exact⟨p,hp,xS⟩
 have Jf:∀e∈ents.toArray.toList,∃l,keyOf P kt e.key=some l:=fun e he=>by
  obtain⟨i,hi⟩:=mem_iff_getElem?.1 (by simpa using he);obtain⟨p,hp,xS⟩:=FM hi;rw[<- xS];exact LG p (mem_of_getElem? hp)
 have lt:=(Array.getElem?_eq_some_iff.1 hb).1;have pF:∀o:Obj,({ V.w with heap:=V.w.heap.setIfInBounds (V.ρ id) o }:World).heap[V.ρ id]?=some o:=fun o=>by simp[lt]
 have BU:∀(o:Obj)(b:Nat),b≠V.ρ id->({ V.w with heap:=V.w.heap.setIfInBounds (V.ρ id) o }:World).heap[b]?=V.w.heap[b]? := fun o b fF=>by
  show(V.w.heap.setIfInBounds (V.ρ id) o)[b]?=_;rw[Array.getElem?_setIfInBounds,yK (fun e=>fF e.symm)]
 have Sj:∀{j:Nat}{e:MapEntry},ents[j]?=some e->e.born=j:=fun{j e} he=>by
  have h1:(ents.map (·.born))[j]?=some e.born:=by rw[getElem?_map,he];rfl
  have hj:=(yC.1 he).1;rw[hbd,getElem?_range hj]at h1;exact(Option.some.inj h1).symm
 rcases K.find V.w hl ents.toArray.toList Jf with⟨h1,h2⟩|⟨j,e0,h1,h2,h3⟩
 .have xY:∀e∈es,e.1≠kv:=fun e he hek=>by
   have:e.1∈es.map (·.1):=yG.2 ⟨e,he,rfl⟩;rw[<- Ew]at this;obtain⟨e',he',Gg⟩:=yG.1 this;exact h2 e' (by simpa using he') (Gg.trans hek)
  obtain⟨rfl,rfl,rfl⟩:x = .lit z/\i=es.length/\uz=es++[(kv,.lit z)]:=by
   rcases y8 with⟨aZ,bs,he,_⟩|⟨_,he⟩
   .exact absurd rfl (xY (kv,x) (by rw[he];simp))
   .exact he
  refine⟨{ V.w with heap:=V.w.heap.setIfInBounds (V.ρ id) (.map (ents++[({ key:=kv,val:=z,born:=clock }:MapEntry)]).toArray (clock+1)) },z,?_,.pure _ _ (.lit _),BU _,zS,rfl,rfl,rfl,rfl,fun V' hw fB=>?_⟩
  .simp [Instr.mapEntry,run_underlying ht,MapKept.run_getObj_map hb,K.check V.w false hl,h1,zJ hz,MapKept.run_setObj_map _ hb,Result.andThen,bg,bL]
  .refine ⟨ents++[({ key:=kv,val:=z,born:=clock }:MapEntry)],clock+1,by rw[hw];exact pF _,by simp[Ew],?_,?_,?_,fun j hj=>?_⟩
   .grind
   .grind [yD,length_singleton,range_succ]
   .grind
   .by_cases JN:j<es.length
    .have e1:uq (es++[(kv,AV.lit z)]) j=uq es j:=by unfold uq;rw[yB,getElem?_append_left JN,<- yB]
     have e2:gI (ents++[({ key:=kv,val:=z,born:=clock }:MapEntry)]) j=gI ents j:=by unfold gI;rw[yB,getElem?_append_left zO,<- yB]
     rw[e1,e2];exact(Ii j JN).step fB
    .have hje:j=es.length:=by simp at hj;omega
     subst hje;have e1:uq (es++[(kv,AV.lit z)]) es.length = .lit z:=by unfold uq;simp[yB]
     have e2:gI (ents++[({ key:=kv,val:=z,born:=clock }:MapEntry)]) es.length=z:=by unfold gI;rw[<- bL];simp[yB]
     rw[e1,e2];exact .pure _ _ (.lit _)
 .have h2':ents[j]?=some e0:=by simpa using h2
  have hj:=(yC.1 h2').1;obtain⟨p,hp,xS⟩:=FM h2';have hpk:=xS.trans h3;obtain⟨aZ,bs,he,rfl,rfl⟩:∃aZ bs,es=aZ++(kv,x)::bs/\i=aZ.length/\uz=es:=by grind
  have hja:j=aZ.length:=by grind
  have Gg:({ e0 with key:=kv }:MapEntry)=e0:=by rw[<- h3]
  have uH:ents.set j e0=ents:=by
   apply ext_getElem?;intro q;rw[getElem?_set];by_cases e:j=q
   .grind
   .rw [yK e]
  have Nv:ents.toArray.modify j (fun e=>{ e with key:=kv })=ents.toArray:=by grind
  have hkd:(((ents.toArray[j]?).map (·.key)).getD kv)=kv:=by grind
  have hbj:(((ents.toArray[j]?).map fun e=>(e.born:Int)).getD 0)=(aZ.length:Int):=by grind
  refine⟨{ V.w with heap:=V.w.heap.setIfInBounds (V.ρ id) (.map ents.toArray clock) },e0.val,?_,?_,BU _,zS,rfl,rfl,rfl,rfl,fun V' hw fB=>?_⟩
  .have Oc:(Instr.keyThatStays (((ents.toArray[j]?).map (·.key)).getD kv) kv).run P V.w = .ok kv V.w:=by rw[hkd];exact K.stays V.w hl
   simp only[Instr.mapEntry,Sem.run_bind,run_underlying ht,MapKept.run_getObj_map hb,K.check V.w false hl,h1,Result.andThen_ok,Oc,Nv,MapKept.run_setObj_map _ hb,hbj,Sem.run_pure]
  .have e1:uq uz j=x:=by unfold uq;rw[he,hja];simp[yB]
   have e2:gI ents j=e0.val:=by unfold gI;rw[yB,h2'];rfl
   have:=Ii j zO;rwa[e1,e2]at this
  .exact ⟨ents,clock,by rw[hw];exact pF _,Ew,hd,hbd,bg,fun j hj=>(Ii j hj).step fB⟩
theorem aai es(i:Nat)x:(CK es i x).length=es.length:=by simp[CK]
theorem K7 es(i:Nat)x:(CK es i x).map (·.1)=es.map (·.1):=by
 apply ext_getElem?;simp only[CK,getElem?_map];grind
theorem ac2{es}{i}{x}{j}(hj:j<es.length):uq (CK es i x) j=if j=i then x else uq es j:=by
 unfold uq CK;grind
theorem Jo{id:Nat}{x:AV}(hG:aD G V)(hH:V.H[id]?=some (.map es))(hi:i<es.length)(hx:dI V x xv) :
 ∃w':World,(Instr.entryStore t (.map (some (V.ρ id))) (.int .i64 (i:Int)) xv).run P V.w = .ok () w'/\(∀b,b≠V.ρ id->w'.heap[b]?=V.w.heap[b]?)/\w'.heap.size=V.w.heap.size/\w'.os=V.w.os/\w'.tape=V.w.tape /\
  w'.output=V.w.output/\w'.drawn=V.w.drawn/\∀V':View,V'.w=w'->Step V V'->fZ V' (V.ρ id) (.map (CK es i x)):=by
 obtain⟨ents,clock,hb,Ew,hd,hbd,bg,Ii⟩:=wK hG hH;have bL:ents.length=es.length:=by simpa using yJ length Ew
 have lt:=(Array.getElem?_eq_some_iff.1 hb).1;have pF:∀o:Obj,({ V.w with heap:=V.w.heap.setIfInBounds (V.ρ id) o }:World).heap[V.ρ id]?=some o:=fun o=>by simp[lt]
 have BU:∀(o:Obj)(b:Nat),b≠V.ρ id->({ V.w with heap:=V.w.heap.setIfInBounds (V.ρ id) o }:World).heap[b]?=V.w.heap[b]? := fun o b fF=>by
  grind
 have Sj:∀{j:Nat}{e:MapEntry},ents[j]?=some e->e.born=j:=fun{j e} he=>by
  have h1:(ents.map (·.born))[j]?=some e.born:=by rw[getElem?_map,he];rfl
  grind
 have QE:i<ents.length:=zO
 have alh:ents.toArray.findIdx? (fun e=>(e.born:Int)==(i:Int))=some i:=by
  rw[findIdx?_toArray,findIdx?_eq_some_iff_getElem];refine⟨QE,?_,fun j hj=>?_⟩
  .rw [Sj (yA QE)];simp
  .have:=Sj (yA (show j<ents.length by omega));rw[this];simp;omega
 have Nv:ents.toArray.modify i (fun e=>{ e with val:=xv })=(ents.set i ({ ents[i]with val:=xv }:MapEntry)).toArray:=FR ents i _ (yA QE);refine⟨{ V.w with heap:=V.w.heap.setIfInBounds (V.ρ id) (.map (ents.set i ({ ents[i]with val:=xv }:MapEntry)).toArray clock) },?_,BU _,zS,rfl,rfl,rfl,rfl,fun V' hw fB=>?_⟩
 .simp only[Instr.entryStore,Sem.run_bind,MapKept.run_getObj_map hb,Result.andThen_ok,asInt,asIntOf,Sem.run_pure,alh,Nv,MapKept.run_setObj_map _ hb]
 .have mp:∀{β:Type}(q:MapEntry->β),q ({ ents[i]with val:=xv }:MapEntry)=q ents[i]->(ents.set i ({ ents[i]with val:=xv }:MapEntry)).map q=ents.map q:=fun q hq=>by
   rw[map_set,hq];apply ext_getElem?;grind
  refine⟨_,clock,by rw[hw];exact pF _,by rw[K7,<- Ew];exact mp _ rfl,by rw[K7];exact hd,by rw[mp _ rfl,hbd,length_set],by rw[bg,length_set],fun j hj=>?_⟩;rw[aai]at hj;rw[ac2 hj];by_cases e:j=i
  .subst e;have e2:gI (ents.set j ({ ents[j]with val:=xv }:MapEntry)) j=xv:=by unfold gI;simp[yB,QE]
   rw[yL rfl,e2];exact hx.step fB
  .have e2:gI (ents.set i ({ ents[i]with val:=xv }:MapEntry)) j=gI ents j:=by
    unfold gI;grind
   rw[yK e,e2];exact(Ii j hj).step fB
theorem Wp{id:Nat}{cells:List AV}(hu:P.underlying t=some (.array n e))(hs:jK P e=some s)(hG:aD G V)(hH:V.H[id]?=some (.box cells))(hl:cells.length=n*s)(hp:cells.all AV.fJ=true)(h1:cells.all AV.one=true) :
 ∃(V':View)(v:Value),(Instr.sliceAt t (.pointer (some ⟨V.ρ id,0,none⟩)) none none none).run P V.w = .ok v V'.w/\V'.H=V.H.set id .aH/\Step V V'/\aD G V'/\dI V' (.sl s true (oC s n cells)) v:=by
 have bg:=(yC.1 hH).1;let V':View:={ w:=V.w,M:=fun b=>V.M b/\b≠V.ρ id,H:=V.H.set id .aH,ρ:=V.ρ };have Hs:V'.H[id]?=some .aH:=by show(V.H.set id _)[id]?=_;rw[getElem?_set_self bg]
 have Ho:∀i,i≠id->V'.H[i]?=V.H[i]? := fun i hi=>by show(V.H.set id _)[i]?=_;grind
 have bL:V'.H.length=V.H.length:=by show(V.H.set id _).length=_;simp
 have fB:Step V V':={
  os:=rfl
  tape:=rfl
  output:=rfl
  size:=yM
  drawn:=yM
  keep:=fun b _ hn=>⟨rfl,⟨fun h=>h.1,fun h=>⟨h,fun e=>hn id bg e.symm⟩⟩⟩
  data:=fun b _ hn=>⟨rfl,fun h=>hn h.1⟩
  bL:=Nat.le_of_eq bL.symm
  fresh:=fun i hi=>.inl ⟨by rw[bL]at hi;exact hi,rfl⟩
  eP:=fun i hi=>by
   by_cases e:i=id
   .grind [dL]
   .exact .refl hi (Ho i e) rfl rfl }
 have hG':aD G V':={
  lt:=fun i hi=>by rw[bL]at hi;exact hG.lt i hi
  eP:=fun i ob ho=>by
   by_cases e:i=id
   .subst e;rw[Hs]at ho;cases ho;exact trivial
   .rw [Ho i e]at ho;exact(hG.eP i ob ho).step fB rfl
  inj:=fun i j hi hj e=>by rw[bL]at hi hj;exact hG.inj i j hi hj e
  gW:=fun i ob ho bA=>by
   by_cases e:i=id
   .subst e;rw[Hs]at ho;cases ho;cases bA
   .rw [Ho i e]at ho;exact⟨hG.gW i ob ho bA,fun he=>e (hG.inj i id (yC.1 ho).1 bg he)⟩
  ng:=hG.gD fB }
 obtain⟨vs,hr,hc⟩:=wD hG hH;have run:(Instr.sliceAt t (.pointer (some ⟨V.ρ id,0,none⟩)) none none none).run P V.w = .ok (.slice (some ⟨V.ρ id,0,none⟩) (n-0) (n-0)) V.w:=by
  simp only[Instr.sliceAt,Instr.sureAddr,Sem.run_bind,run_underlying hu,Result.andThen_ok,Instr.sliceBounds,Sem.run_pure,jq hs];simp[Addr.add]
 refine⟨V',_,run,rfl,fB,hG',.pure _ _ ?_⟩;have lG:=jM s n cells;have:=dR.sl (w:=V'.w) (M:=V'.M) s true (oC s n cells) (some ⟨V.ρ id,0,none⟩) n (V.ρ id) 0 (fun k j=>vs.getD (k*s+j) undef) (fun _=>rfl) (fun _ _ h=>h.2 rfl) (by rw[lG];exact yM) (fun _=>lG.symm) (ER s n cells hl)
  (fun k j hk hj=>by
   rw[lG]at hk;have hb:=gq hk hj;grind) (fun k j hk hj=>by
   rw[lG]at hk;have hb:=gq hk hj;have hx:=hr.2 (k*s+j) zO;refine K4 ?_ hx;grind) (fun k j hk hj=>by
   rw[lG]at hk;have hb:=gq hk hj;rw[zV s n cells hl hk hj];have hx:=hr.2 (k*s+j) zO;refine(kE ?_ hx).wI rfl (fun b h=>h.1);grind)
 rw[lG]at this;exact this
theorem KH{x:AV}(h:bU P V.H ev o bf=some (x,H',aT,ps))(dG:gZ ps)(hG:aD G V)(hr:∀y∈o.op.operands,dI V (ev y) (ρ y)) :
 alf P G V ρ o x H':=by
 unfold bU at h;split at h
 .rename_i t bA;split at h
  .rename_i i hi;split at h
   .rename_i z hz;cases h;obtain⟨V',h1,h2,h3,h4,h5⟩:=Uv (t:=t) hG (bR.vv (V:=V) z.cells.toList);refine⟨V',_,_,?_,.inl rfl,h2,h3,h4,h5⟩;rw[h1,execOp,bA];simp[Instr.alloc,zeroValue,typeInfo,hi,hz,newVar,newRow]
   .cases h
  .cases h
 .rename_i t y bA;have hy:=hr y (by simp[bA,Op.operands]);split at h
  .rename_i cs hc;cases h;obtain⟨V',h1,h2,h3,h4,h5⟩:=Uv (t:=t) hG (AR hc hy);refine⟨V',_,_,?_,.inl rfl,h2,h3,h4,h5⟩;rw[h1,execOp,bA];simp[Instr.box,newVar,newRow]
  .cases h
 .rename_i t a y bA;have hy:=hr y (by simp[bA,Op.operands]);have ha:=hr a (by simp[bA,Op.operands]);split at h
  .rename_i n cs id off hn hc hp;rw[hp]at ha;obtain⟨_,hea⟩:=jr ha;split at h
   .rename_i cells hH;split at h
    .rename_i qK;obtain⟨hl,pO,rY⟩:=qK;cases h;obtain⟨t',vs,o1,o2⟩:=hG.eP id _ hH;have jQ:=AR hc hy;have hn2:(ρ y).cells.size=n:=by have:=jQ.1;simp only[Array.length_toList]at this;omega
     have jJ:=xU (w:=V.w) (b:=V.ρ id) (off:=off) (v:=ρ y) hn o1 hn2 (by have:=o2.1;simp only[size_toArray];omega) (xE rY jQ);simp only at jJ;have kZ:=setRow_heap V.w (V.ρ id) vs.toArray (dX vs off (ρ y).cells.toList).toArray t' (0,0) o1;obtain⟨V',k1,k2,k3,k4⟩:=wE hG hH rfl (ou:=.box (dX cells off cs)) o1 kZ (by
      have:=o2.1;have:=jQ.1;simp only[size_toArray];rw[uf rfl zO]) (fun b hb=>setRow_other _ _ _ _ hb) (setRow_size _ _ _) rfl rfl rfl trivial
      fun V' hw hs=>⟨t',_,by rw[hw];exact kZ,((o2.dX off jQ).step hs)⟩
     refine⟨V',_,_,?_,.inr ⟨rfl,rfl⟩,k2,k3,k4,.pure _ _ (.lit _)⟩;rw[k1,execOp,bA];simp[hea,Instr.storeAt,Instr.sureAddr,jJ]
    .cases h
   .cases h
  .rename_i n cs id g k j hn hc hp;rw[hp]at ha;split at h
   .rename_i g' sz xs e mK hH;split at h
    .rename_i qK;obtain⟨hl,pO,rY⟩:=qK;cases h;obtain⟨hg,hk,_⟩:=dG;subst hg;have hea:=G6 hH ha;obtain⟨t',c,o1,o2,o3,o4⟩:=hG.eP id _ hH;have aqE:=(yC.1 hk).1;have jQ:=AR hc hy;have uQ:=o3 e (mem_of_getElem? hk);have hn2:(ρ y).cells.size=n:=by have:=jQ.1;simp only[Array.length_toList]at this;omega
     have lG:=jQ.1;have Ia:k*sz+sz<=c.size:=by
      have:=y22 sz (show k+1<=xs.length by omega);rw[Nat.add_mul]at this;omega
     have jJ:=xU (w:=V.w) (b:=V.ρ id) (off:=k*sz+j) (v:=ρ y) hn o1 hn2 zO (xE rY jQ);have kZ:=setRow_heap V.w (V.ρ id) c (dX c.toList (k*sz+j) (ρ y).cells.toList).toArray t' (0,0) o1;have Y2:(dX c.toList (k*sz+j) (ρ y).cells.toList).length=c.size:=by
      rw[uf rfl (by simp only[Array.length_toList];omega)];simp
     have hsg:∀m,(dX c.toList (k*sz+j) (ρ y).cells.toList)[m]?=if m<k*sz+j then c[m]? else if m<k*sz+j+cs.length then(ρ y).cells.toList[m-(k*sz+j)]? else c[m]? := fun m=>by
      rw[xG lG (by simp only[Array.length_toList];omega)];simp
     obtain⟨V',k1,k2,k3,k4⟩:=wE hG hH rfl (ou:=.aN g' sz false (xs.set k (dX e j cs))) o1 kZ (by simp only[size_toArray];exact Y2)
      (fun b hb=>setRow_other _ _ _ _ hb) (setRow_size _ _ _) rfl rfl rfl ⟨rfl,rfl,rfl⟩ fun V' hw hs=>by
      refine⟨t',_,by rw[hw];exact kZ,by rw[length_set,size_toArray,Y2];exact o2,fun y' hy'=>?_,fun m i hm hi=>?_⟩
      .rcases mem_or_eq_of_mem_set hy' with h|rfl
       .exact o3 _ h
       .have:(dX e j cs).length=e.length:=by unfold Am.dX;simp;omega
        omega
      .rw [length_set]at hm;rw[getElem?_toArray,hsg];have hmi:=gq hm hi;by_cases hmk:m=k
       .subst hmk;have pF:(xs.set m (dX e j cs)).getD m []=dX e j cs:=by simp[yB,hm]
        have hek:xs.getD m []=e:=by rw[yB,hk];rfl
        rw[pF];have aoJ:∀q,(dX e j cs)[q]?=if q<j then e[q]? else if q<j+cs.length then cs[q-j]? else e[q]? := fun q=>by
         unfold Am.dX;simp only[getElem?_append,yD,y18,getElem?_take,getElem?_drop];rw[show min j e.length=j by omega];by_cases h1:q<j
         .rw [yL zO,yL h1,yL h1,yL h1]
         .by_cases h2:q<j+cs.length
          .rw [yL h2,yK h1,yK h1,yL h2]
          .rw [yK h2,yK h1,yK h2];congr 1;omega
        rw[yB,aoJ];obtain⟨v0,hv0,ho0,hr0⟩:=o4 m i hm hi;rw[hek]at hr0;by_cases h1:i<j
        .rw [yL zO,yL h1];exact⟨v0,hv0,ho0,by rw[<- yB];exact hr0.step hs⟩
        .by_cases h2:i<j+cs.length
         .rw [yK zO,yL zO,yK h1,yL h2,show m*sz+i-(m*sz+j)=i-j by omega];obtain⟨v,hv,Sd⟩:=jQ.get (j:=i-j) zO;exact⟨v,hv,xE rY jQ v (mem_of_getElem? hv),by rw[<- yB];exact Sd.step hs⟩
         .rw [yK zO,yK zO,yK h1,yK h2];exact⟨v0,hv0,ho0,by rw[<- yB];exact hr0.step hs⟩
       .have pF:(xs.set k (dX e j cs)).getD m []=xs.getD m []:=by simp[yB,show k≠m from fun h=>hmk h.symm]
        rw[pF];obtain⟨v0,hv0,ho0,hr0⟩:=o4 m i hm hi;have zm:m*sz+i<k*sz+j\/k*sz+j+cs.length<=m*sz+i:=by
         rcases Nat.lt_or_gt_of_ne hmk with h|h
         .left;have:=y22 sz (show m+1<=k by omega);rw[Nat.add_mul]at this;omega
         .right;have:=y22 sz (show k+1<=m by omega);rw[Nat.add_mul]at this;omega
        have:(if m*sz+i<k*sz+j then c[m*sz+i]? else if m*sz+i<k*sz+j+cs.length then(ρ y).cells.toList[m*sz+i-(k*sz+j)]? else c[m*sz+i]?)=c[m*sz+i]? := by
         rcases zm with h|h
         .rw [yL h]
         .rw [yK zO,yK zO]
        rw[this];exact⟨v0,hv0,ho0,hr0.step hs⟩
     refine⟨V',_,_,?_,.inr ⟨rfl,rfl⟩,k2,k3,k4,.pure _ _ (.lit _)⟩;rw[k1,execOp,bA];simp[hea,Instr.storeAt,Instr.sureAddr,jJ]
    .cases h
   .cases h
  .cases h
 .rename_i t len parts bA;split at h
  .rename_i e hu;split at h
   .rename_i i hi;split at h
    .rename_i z hz;split at h
     .rename_i ali;obtain⟨aoK,aqs⟩:=ali;split at h
      .rename_i out hf;split at h
       .rename_i qK;obtain⟨bL,rY⟩:=qK;obtain⟨us,hus,zm⟩:=uY (ow:=parts.toList.map fun(i,x)=>(i,ρ x)) hf (Wn (V:=V) z.cells.toList (len*i.size)) (by simp[map_map,Function.comp_def])
         (by
          rw[map_map,map_map];have:=tH (V:=V) (ev:=ev) (ρ:=ρ) (xs:=parts.toList.map (·.2)) (fun y hy=>hr y (by simp only[bA,Op.operands];simpa using hy));simpa[map_map,Function.comp_def]using this)
        have jJ:=run_buildSlice (P:=P) hu hi hz aoK hus V.w;have hul:us.length=len*i.size:=by rw[zm.1];exact bL
        have YJ:=xE rY zm;have cellAt:∀k j,k<len->j<i.size->∃v,us[k*i.size+j]?=some v/\v.oneCell'=true/\dI V (((oC i.size len out).getD k []).getD j .aP) v:=fun k j hk hj=>by
         obtain⟨v,hv,Sd⟩:=zm.get (j:=k*i.size+j) (by rw[bL];exact gq hk hj);exact⟨v,hv,YJ v (mem_of_getElem? hv),by rw[zV _ _ _ bL hk hj];exact Sd⟩
        have Br:(execOp ρ o).run P V.w = .ok (.value (.slice (some ⟨V.w.heap.size,0,none⟩) len len)) (V.w.alloc (.cells us.toArray e)):=by
         rw[execOp,bA];have:(parts.map fun(i,x)=>(i,ρ x))=(parts.toList.map fun(i,x)=>(i,ρ x)).toArray:=by apply Array.ext';simp
         simp only[this];simp[jJ]
        split at h
        .cases h;obtain⟨V',k1,k2,k3,k4,k5⟩:=G7 hG (w':=V.w.alloc (.cells us.toArray e)) (t:=e) (c:=us.toArray) (s:=i.size) (xs:=oC i.size len out) (cap:=len) rfl rfl rfl rfl (ER _ _ _ bL)
          (by rw[jM];exact yM) (by
           rw[maxLen];omega) (by simp[hul]) (fun k j hk hj=>by
            rw[jM]at hk;simpa using cellAt k j hk hj)
         rw[jM]at k5;exact⟨V',_,_,by rw[k1];exact Br,.inl rfl,k2,k3,k4,k5⟩
        .split at h
         .rename_i aaj;cases h;obtain⟨V',k1,k2,k3,k4,k5⟩:=K5 hG (w':=V.w.alloc (.cells us.toArray e)) (o:=.cells us.toArray e) rfl rfl rfl rfl;refine⟨V',_,_,by rw[k1];exact Br,.inl rfl,k2,k3,k4,.pure _ _ ?_⟩;have:=dR.sl (w:=V'.w) (M:=V'.M) i.size true (oC i.size len out) (some ⟨V.w.heap.size,0,none⟩) len V.w.heap.size 0 (fun k j=>us.getD (k*i.size+j) undef) (fun _=>rfl) (fun _ _=>k5)
           (by rw[jM];exact yM) (fun _=>(jM _ _ _).symm) (ER _ _ _ bL) (fun k j hk hj=>by
            rw[jM]at hk;obtain⟨v,hv,_,_⟩:=cellAt k j hk hj;rw[k1,y09,Wl rfl,getElem?_toArray,hv,yB,hv];rfl) (fun k j hk hj=>by
            rw[jM]at hk;obtain⟨v,hv,h1,_⟩:=cellAt k j hk hj;rw[yB,hv];exact h1) (fun k j hk hj=>by
            rw[jM]at hk;obtain⟨v,hv,_,Sd⟩:=cellAt k j hk hj;have hv':us.getD (k*i.size+j) undef=v:=by rw[yB,hv];rfl
            rw[hv'];refine(kE ?_ Sd).Da k3;rw[zV _ _ _ bL hk hj,yB];have bg:k*i.size+j<out.length:=by rw[bL];exact gq hk hj
            rw[yA bg];exact all_eq_true.1 aaj _ (y03 bg))
          rw[jM]at this;exact this
         .cases h
       .cases h
      .cases h
     .cases h
    .cases h
   .cases h
  .cases h
 .rename_i t l c bA;have hl:=hr l (by simp[bA,Op.operands]);have hc:=hr c (by simp[bA,Op.operands]);split at h
  .rename_i e n m hu hn hm;split at h
   .rename_i i hi;split at h
    .rename_i z hz;split at h
     .rename_i qK;obtain⟨QC,rY⟩:=qK;cases h;obtain⟨⟨h0,h1,h2,h3⟩,_⟩:=dG;obtain⟨kn,hkn⟩:=iA hn hl;obtain⟨km,hkm⟩:=iA hm hc;have jJ:=run_make (P:=P) V.w t e i z hu hi hz kn km n m h0 h1 h2 zO;have hzl:z.cells.toList.length=i.size:=by simpa using QC
      obtain⟨V',k1,k2,k3,k4,k5⟩:=G7 hG (w':=V.w.alloc (.cells (madeCells z.cells (m.toNat*i.size)) e)) (t:=e) (c:=madeCells z.cells (m.toNat*i.size)) (s:=i.size)
       (xs:=replicate n.toNat (z.cells.toList.map .lit)) (cap:=m.toNat) rfl rfl rfl rfl (fun y hy=>by rw[eq_of_mem_replicate hy];simpa using QC)
       (by rw[length_replicate];omega) (by unfold maxLen;omega) (by rw[size_madeCells]) (fun k j hk hj=>by
        rw[length_replicate]at hk;have hkm:k*i.size+j<m.toNat*i.size:=gq zO hj;have Nv:(k*i.size+j) % i.size=j:=by rw[Nat.mul_comm,Nat.mul_add_mod];exact Nat.mod_eq_of_lt hj
        have hj2:j<z.cells.size:=zO
        refine⟨z.cells[j],?_,?_,?_⟩
        .have hb:=getElem!_pos z.cells j hj2;simp[madeCells,hkm,QC,Nv,hb]
        .exact all_eq_true.1 rY _ zS
        .have:((replicate n.toNat (z.cells.toList.map AV.lit)).getD k []).getD j .aP = .lit z.cells[j]:=by
          simp[yB,hk,hj2]
         rw[this];exact .pure _ _ (.lit _))
      rw[length_replicate]at k5;refine⟨V',_,_,?_,.inl rfl,k2,k3,k4,k5⟩;rw[k1,execOp,bA];simp[hkn,hkm,jJ]
     .cases h
    .cases h
   .cases h
  .cases h
 .rename_i t x bA;have hx:=hr x (by simp[bA,Op.operands]);split at h
  .rename_i n e id hu Br;rw[Br]at hx;split at h
   .rename_i s cells hs hH;split at h
    .rename_i hc;cases h;obtain⟨_,hv⟩:=jr hx;obtain⟨V',v,k1,k2,k3,k4,k5⟩:=Wp hu hs hG hH hc.1 hc.2.1 hc.2.2;refine⟨V',_,v,?_,.inl rfl,k2,k3,k4,k5⟩;rw[execOp,bA];simp[hv,k1]
    .cases h
   .cases h
  .cases h
 .rename_i t hnt bA;split at h
  .rename_i kt et n hu hb;cases h;obtain⟨V',k1,k2,k3,k4,k5⟩:=qA (w':=V.w.alloc (.map #[] 0)) (o:=.map #[] 0) (eP:=.map []) hG rfl rfl rfl rfl (fun V' hw fB=>⟨[],0,by rw[hw];exact jZ rfl,rfl,nodup_nil,rfl,rfl,fun j hj=>absurd hj zS⟩);have hmp:dI V' (.mp V.H.length) (.map (some V.w.heap.size)):=by
    rw[<- k5];exact .mp _ ⟨.map [],by rw[k2];simp,rfl⟩
   refine⟨V',_,_,?_,.inl rfl,k2,k3,k4,hmp⟩;rw[k1,execOp,bA];rcases tV hb (fun z hz=>hr z (by simp[bA,Op.operands,hz]))with⟨rfl,_⟩|⟨z,kk,rfl,hz⟩
   .rfl
   .simp only[Option.map_some,hz,Instr.makeMap,Sem.run_bind,run_underlying hu,Result.andThen_ok];rfl
  .cases h
 .rename_i t y bA;have hy:=hr y (by simp[bA,Op.operands]);split at h
  .rename_i kt et es hu he;cases h;rw[he]at hy;have hp:=zM hy;generalize hv:ρ y=v at hp;cases hp with
   |md _ _ uw hp bm ents clock hb hc hk hd Ii Uo =>
    obtain⟨Mf,XB⟩:=Uo rfl;have bL:ents.length=uw.length:=by simpa using yJ length hk
    obtain⟨V',k1,k2,k3,k4,k5⟩:=qA (w':=V.w.alloc (.mapIter (some bm) clock #[] clock)) (o:=.mapIter (some bm) clock #[] clock) (eP:=.iter none es) hG rfl rfl rfl rfl (fun V' hw fB =>
     ⟨bm,clock,#[],clock,ents,clock,uw,List.range ents.length,by rw[hw];exact jZ rfl,
      have bg:=(Array.getElem?_eq_some_iff.1 hc).1;have kk:=fB.data bm bg hb
      { data:=kk.2
        map:=kk.1.trans hc
        key:=hk
        born:=Mf
        old:=XB
        sn:=yM
        sc:=yM
        val:=fun j hj=>(Ii j hj).Da fB
        nd:=nodup_range
        ix:=fun i=>zS
        lf:=by
         rw[bL,show((List.range uw.length).map fun i=>uw.getD i (undef,.aP))=uw from ext_getElem zS fun i h1 h2=>by
          rw[getElem_map,getElem_range,yB,yA h2];rfl]
         exact hp
        cu:=fun e he=>by cases he }⟩)
    have hmp:dI V' (.ptr V.H.length 0) (.pointer (some ⟨V.w.heap.size,0,none⟩)):=by
     rw[<- k5];exact .ptr _ 0 ⟨.iter none es,by rw[k2];simp,rfl⟩
    refine⟨V',_,_,?_,.inl rfl,k2,k3,k4,hmp⟩;rw[k1,execOp,bA];simp[hv,run_range_map V.w t _ _ bm ents.toArray clock hu hc]
  .cases h
 .rename_i t m k y bA;have hm:=hr m (by simp[bA,Op.operands]);have hk:=hr k (by simp[bA,Op.operands]);have hy:=hr y (by simp[bA,Op.operands]);split at h
  .rename_i kt et id kv uz cK hu hem hkv;rw[hem]at hm;split at h
   .rename_i es hH;cases h;obtain⟨_,hmu⟩:=vD hm;have hku:=fC hkv hk;obtain⟨w',k0,kh,ks,k1,k2,k3,kdr,kob⟩:=Ed (t:=t) hu dG.1 hG hH hy;obtain⟨V',q1,q2,q3,q4,q5⟩:=Eb hG hH kh ks k1 k2 k3 kob (Nat.le_of_eq kdr.symm);refine⟨V',_,_,?_,.inr ⟨rfl,rfl⟩,q2,q4,q5,.pure _ _ (.lit _)⟩;rw[q1,execOp,bA];simp[hmu,hku,k0]
   .cases h
  .cases h
 .rename_i t m k y bA;have hm:=hr m (by simp[bA,Op.operands]);have hk:=hr k (by simp[bA,Op.operands]);have hy:=hr y (by simp[bA,Op.operands]);split at h
  .rename_i kt et id kv uz cK hu hem hkv;rw[hem]at hm;split at h
   .rename_i es hH;cases h;obtain⟨_,hmu⟩:=vD hm;have hku:=fC hkv hk;obtain⟨w',k0,kh,ks,k1,k2,k3,kdr,kob⟩:=Ed (t:=t) hu dG.1 hG hH hy;obtain⟨V',q1,q2,q3,q4,q5⟩:=Eb hG hH kh ks k1 k2 k3 kob (Nat.le_of_eq kdr.symm);refine⟨V',_,_,?_,.inr ⟨rfl,rfl⟩,q2,q4,q5,.pure _ _ (.lit _)⟩;rw[q1,execOp,bA];simp[hmu,hku,k0]
   .cases h
  .cases h
 .rename_i t m k bA;have hm:=hr m (by simp[bA,Op.operands]);have hk:=hr k (by simp[bA,Op.operands]);split at h
  .rename_i kt et id kv y i uz cK hu hem hkv;rw[hem]at hm;split at h
   .rename_i es z hH hz;cases h;obtain⟨_,hmu⟩:=vD hm;have hku:=fC hkv hk;obtain⟨w',v,k0,kr,kh,ks,k1,k2,k3,kdr,kob⟩:=Ny (t:=t) hu hz dG.1 hG hH;obtain⟨V',q1,q2,q3,q4,q5⟩:=Eb hG hH kh ks k1 k2 k3 kob (Nat.le_of_eq kdr.symm);refine⟨V',_,.tuple #[v,goInt i],?_,.inl rfl,q2,q4,q5,.bq [y,.lit (.int .i64 i)] [v,goInt i] rfl fun j hj=>?_⟩
    .rw [q1,execOp,bA];simp[hmu,hku,k0]
    .match j,hj with
     |0,_=>exact kr.step q4
     |1,_=>exact .pure _ _ (.lit _)
   .cases h
  .cases h
 .rename_i t m s y bA;have hm:=hr m (by simp[bA,Op.operands]);have hs:=hr s (by simp[bA,Op.operands]);have hy:=hr y (by simp[bA,Op.operands]);split at h
  .rename_i id i hem LG;rw[hem]at hm;rw[LG]at hs;split at h
   .rename_i es hH;cases h;obtain⟨_,hmu⟩:=vD hm;obtain⟨w',k0,kh,ks,k1,k2,k3,kdr,kob⟩:=Jo (t:=t) hG hH dG.1 hy;obtain⟨V',q1,q2,q3,q4,q5⟩:=Eb hG hH kh ks k1 k2 k3 kob (Nat.le_of_eq kdr.symm);refine⟨V',_,_,?_,.inr ⟨rfl,rfl⟩,q2,q4,q5,.pure _ _ (.lit _)⟩;rw[q1,execOp,bA];simp only[hmu,bW hs,Int.ofNat_eq_natCast,Sem.run_bind];rw[k0];rfl
   .cases h
  .cases h
 .rename_i src dst y bA;have hy:=hr y (by simp[bA,Op.operands]);split at h<;>first|(cases h;done)|skip
  rename_i u e s VH VD hx;split at h<;>first|(cases h;done)|skip
  rename_i he;cases h;rw[hx]at hy;obtain⟨V',k1,k2,k3,k4,k5⟩:=Wo hG e s;refine⟨V',_,_,?_,.inl rfl,k2,k3,k4,.pure _ _ k5⟩;rw[k1,execOp,bA];simp only[bW hy,Sem.run_bind,Lib.run_convert_string_bytes V.w src dst e s VH VD (Np he),Result.andThen_ok,Sem.run_pure]
 .rename_i args ts bA;split at h
  .rename_i a y ta ty ha ht;have ha':args=#[a,y]:=by apply Array.ext';simpa using ha
   have ht':ts=#[ta,ty]:=by apply Array.ext';simpa using ht
   subst ha' ht';have h1:=hr a (by simp[bA,Op.operands,Call.operands]);have h2:=hr y (by simp[bA,Op.operands,Call.operands]);obtain⟨V',v,k1,k2,k3,k4,k5⟩:=Nw (ty:=o.type) h dG hG h1 h2;refine⟨V',_,v,?_,.inl rfl,k2,k3,k4,k5⟩;rw[execOp,bA];simp[resolve,invoke,builtin,k1]
  .cases h
 .rename_i args ts bA;split at h
  .rename_i a ta ha ht;have ha':args=#[a]:=by apply Array.ext';simpa using ha
   have ht':ts=#[ta]:=by apply Array.ext';simpa using ht
   subst ha' ht';have h1:=hr a (by simp[bA,Op.operands,Call.operands]);cases lG:Nt P V.H ta (ev a)with
   |none=>rw[lG]at h;cases h
   |some q =>
    obtain⟨x1,H1,qs⟩:=q;rw[lG]at h;simp only[Option.map_some,y06,Prod.mk.injEq]at h;obtain⟨rfl,rfl,rfl,rfl⟩:=h;obtain⟨V',v,k1,k2,k3,k4,k5⟩:=PO (ty:=o.type) lG dG hG h1;refine⟨V',_,v,?_,.inl rfl,k2,k3,k4,k5⟩;rw[execOp,bA];simp[resolve,invoke,builtin,k1]
  .cases h
 .cases h
end
def aS.jv(σ:Nat->Nat):aS->aS
 |.ret x=>.ret (x.jv σ)
 |.Ay x=>.Ay (x.jv σ)
def EL(V:View):aS->Ending->Prop
 |.ret x,.returned v=>dI V x v
 |.Ay x,.panicked chain=>∃v,chain=[{ v:=v,recovered:=false }]/\dI V x v
 |_,_=>False
def xu(G:Nat->Option (List AV))(V:View)(H':List ah)(out:aS)(e:Ending)(w':World):Prop :=
 ∃V':View,V'.w=w'/\Step V V'/\aD G V'/\V'.H=H'/\EL V' out e
def ak(P:Program)(G:Nat->Option (List AV))(f:FuncId)(args:List AV)(H:List ah)(out:aS)(H':List ah):Prop :=
 ∀(V:View)(vs:List Value),V.H=H->aD G V->bR V args vs->CallsIn Fence.wide 0 P f vs.toArray V.w (xu G V H' out)
def fz(r:Option Nat):Fence:={ Fence.wide with round:=r }
theorem Jp{P}{f}{args}{w}{R}r(h:CallsIn Fence.wide 0 P f args w R):CallsIn (fz r) 0 P f args w R:=by
 cases r with
 |none=>exact h
 |some l=>exact CallsIn.inRound l h
theorem EL.PE{V1 V2}{σ}(hk:Lk V1 V2 σ){out}{e}(h:EL V1 out e):EL V2 (out.jv σ) e:=by
 cases out<;>cases e<;>simp only[EL]at h |-
 .exact dI.PE hk h
 .obtain ⟨v,hv,hr⟩:=h;exact⟨v,hv,dI.PE hk hr⟩
def NZ(e:List Nat)(i:Nat):Nat:=e.getD i 0
theorem ac3{e}(h:e.Nodup){i j}(hi:i<e.length)(hj:j<e.length)(he:NZ e i=NZ e j):i=j:=by
 unfold NZ at he;have h1:=xA h hi;have h2:=xA h hj;grind
theorem ak.frame{P}{G}{f}{args}{Hs Xi}{out}(hc:ak P G f args Hs out Xi){V}(hG:aD G V){e}(wO:e.Nodup)(bg:∀a∈e,a<V.H.length)(bL:Hs.length=e.length)(R7:∀(i:Nat)o,Hs[i]?=some o->V.H[NZ e i]?=some (o.jv (NZ e)))(BF:∀(i:Nat)o,Hs[i]?=some o->o.bP e.length){xs}{vs}(hx:bR V xs vs)(wR:xs=AV.kH (NZ e) args)(jf:AV.gH e.length args=true) :
 CallsIn Fence.wide 0 P f vs.toArray V.w (xu G V (iq e V.H Xi) (out.jv (upto e V.H.length))):=by
 let V1:View:={ w:=V.w,M:=V.M,H:=Hs,ρ:=fun i=>V.ρ (NZ e i) };have hk:Lk V1 V (NZ e):=⟨rfl,fun _=>Iff.rfl,fun _ _=>rfl,R7⟩;have R8:=aD.Kv hk hG (fun i o ho=>by grind) fun i j hi hj he=>ac3 wO (by simpa[V1,bL]using hi) (by simpa[V1,bL]using hj) he;have hr:=bR.Kv hk (by grind) (wR▸hx);have h:=hc V1 vs rfl R8 hr;refine⟨h.1,fun cs gY=>?_⟩;obtain⟨en,w',fr,hR,yV⟩:=h.2 cs gY;refine⟨en,w',fr,?_,yV⟩;obtain⟨qb,h1,h2,h3,h4,h5⟩:=hR;obtain⟨V',k1,k2,k3,k4,k5,k6⟩:=Am.frame hG wO bg bL R7 h2 h3;exact⟨V',k1.trans h1,k4,k5,by rw[k3,h4],h5.PE k6⟩
mutual
def AV.gN(e:List Nat):AV->Bool
 |.ptr id _|.jC id _ _ _|.aU id _ _ _|.mp id|.yl id=>(lg e id).isSome
 |.fn _ aZ bs=>AV.aM e aZ&&AV.aM e bs
 |.qX _ x=>x.gN e
 |.agg cs|.bq cs=>AV.aM e cs
 |_=>true
def AV.aM(e:List Nat):List AV->Bool
 |[]=>true
 |x::xs=>x.gN e&&AV.aM e xs
end
def Kh(e:List Nat)(id:Nat):Nat:=(lg e id).getD 0
theorem ac4{e}{id}(h:(lg e id).isSome=true):NZ e (Kh e id)=id/\Nat.blt (Kh e id) e.length=true:=by
 obtain⟨i,hi⟩:=Option.isSome_iff_exists.1 h;obtain⟨h1,h2⟩:=tT hi;simp only[Kh,NZ];simp_all
mutual
theorem PS(e:List Nat):∀x:AV,x.gN e=true->(x.jv (Kh e)).jv (NZ e)=x/\(x.jv (Kh e)).bP e.length=true
 |.lit _,_|.iG _,_|.sl ..,_|.md ..,_|.aP,_=>⟨rfl,rfl⟩
 |.ptr ..,h|.jC ..,h|.aU ..,h|.mp _,h|.yl _,h=>by
  have:=ac4 (e:=e) h;exact⟨by simp only[AV.jv,this.1],this.2⟩
 |.fn f aZ bs,h=>by
  simp only[AV.gN,y04]at h;have h1:=nN e aZ h.1;have h2:=nN e bs h.2;exact⟨by simp only[AV.jv,h1.1,h2.1],by simp only[AV.jv,AV.bP,h1.2,h2.2,Bool.and_self]⟩
 |.qX t x,h=>by
  have:=PS e x h;exact⟨by simp only[AV.jv,this.1],this.2⟩
 |.agg cs,h=>by
  have:=nN e cs h;exact⟨by simp only[AV.jv,this.1],this.2⟩
 |.bq cs,h=>by
  have:=nN e cs h;exact⟨by simp only[AV.jv,this.1],this.2⟩
theorem nN(e:List Nat):∀xs:List AV,AV.aM e xs=true->AV.kH (NZ e) (AV.kH (Kh e) xs)=xs/\AV.gH e.length (AV.kH (Kh e) xs)=true
 |[],_=>⟨rfl,rfl⟩
 |x::xs,h=>by
  simp only[AV.aM,y04]at h;have h1:=PS e x h.1;have h2:=nN e xs h.2;exact⟨by simp only[AV.kH,h1.1,h2.1],by simp only[AV.kH,AV.gH,h1.2,h2.2,Bool.and_self]⟩
end
mutual
theorem zX(σ:Nat->Nat):∀x:AV,x.gN []=true->x.jv σ=x/\∀n,x.bP n=true
 |.lit _,_|.iG _,_|.sl ..,_|.md ..,_|.aP,_=>⟨rfl,fun _=>rfl⟩
 |.ptr ..,h|.jC ..,h|.aU ..,h|.mp _,h|.yl _,h=>by simp[AV.gN,lg]at h
 |.fn f aZ bs,h=>by
  simp only[AV.gN,y04]at h;have h1:=iX σ aZ h.1;have h2:=iX σ bs h.2;exact⟨by simp only[AV.jv,h1.1,h2.1],fun n=>by simp only[AV.bP,h1.2,h2.2,Bool.and_self]⟩
 |.qX t x,h=>by
  have:=zX σ x h;exact⟨by simp only[AV.jv,this.1],this.2⟩
 |.agg cs,h=>by
  have:=iX σ cs h;exact⟨by simp only[AV.jv,this.1],this.2⟩
 |.bq cs,h=>by
  have:=iX σ cs h;exact⟨by simp only[AV.jv,this.1],this.2⟩
theorem iX(σ:Nat->Nat):∀xs:List AV,AV.aM [] xs=true->AV.kH σ xs=xs/\∀n,AV.gH n xs=true
 |[],_=>⟨rfl,fun _=>rfl⟩
 |x::xs,h=>by
  simp only[AV.aM,y04]at h;have h1:=zX σ x h.1;have h2:=iX σ xs h.2;exact⟨by simp only[AV.kH,h1.1,h2.1],fun n=>by simp only[AV.gH,h1.2,h2.2,Bool.and_self]⟩
end
def ah.Vo(σ:Nat->Nat):ah->ah
 |.box cs=>.box (AV.kH σ cs)
 |.aN g sz fz xs=>.aN g sz fz xs
 |.map es=>.map es
 |.iV st p aL ps aZ bd=>.iV st p (AV.kH σ aL) ps aZ bd
 |.iter c l=>.iter c l
 |.uE=>.uE
 |.aH=>.aH
def ah.plain:ah->Prop
 |.aN _ _ _ xs=>∀x∈xs,AV.aM [] x=true
 |.map es=>∀e∈es,e.2.gN []=true
 |_=>True
variable {o:ah}
theorem G8{σ}(h:o.plain):o.Vo σ=o.jv σ:=by
 cases o<;>simp only[ah.Vo,ah.jv]at h |-
 case aN g sz fz xs =>
  congr 1;exact((map_congr_left fun x hx=>(iX σ x (h x hx)).1).trans (map_id _)).symm
 case map es =>
  congr 1;refine((map_congr_left  fun x hx=>?_).trans (map_id _)).symm;obtain⟨k,v⟩:=x;have:=h _ hx;simp only[(zX σ v this).1,id]
theorem agW(h:∀x∈xs,AV.aM [] x=true)n:∀x∈xs,AV.gH n x=true:=fun x hx=>(iX id x (h x hx)).2 n
def ah.look(e:List Nat):ah->Option (ah×List Prop)
 |.box cs=>if AV.aM e cs=true then some (.box (AV.kH (Kh e) cs),[])else none
 |.aN g sz fz xs=>some (.aN g sz fz xs,[∀x∈xs,AV.aM [] x=true])
 |.map es=>some (.map es,[∀e∈es,e.2.gN []=true])
 |.iV st p aL ps aZ bd=>if AV.aM e aL=true then some (.iV st p (AV.kH (Kh e) aL) ps aZ bd,[])else none
 |.iter c l=>some (.iter c l,[])
 |.uE=>some (.uE,[])
 |.aH=>some (.aH,[])
theorem Sk{e}{o':ah}{ps}(h:o.look e=some (o',ps))(dG:gZ ps):o'.jv (NZ e)=o/\o'.bP e.length/\o'.plain:=by
 cases o<;>simp only[ah.look]at h
 case box cs =>
  split at h
  .rename_i hc;cases h;have:=nN e cs hc;exact⟨by simp only[ah.jv,this.1],this.2,yO⟩
  .cases h
 case aN g sz fz xs =>
  cases h;refine⟨(G8 (o:=.aN g sz fz xs) dG.1).symm,fun x hx=>(iX id x (dG.1 x hx)).2 _,dG.1⟩
 case map es =>
  cases h;exact⟨(G8 (o:=.map es) dG.1).symm,fun x hx=>(zX id _ (dG.1 x hx)).2 _,dG.1⟩
 case iV st p aL ps aZ bd =>
  split at h
  .rename_i hc;cases h;have:=nN e aL hc;exact⟨by simp only[ah.jv,this.1],this.2,yO⟩
  .cases h
 case iter=>cases h;exact⟨rfl,yO,yO⟩
 case uE=>cases h;exact⟨rfl,yO,yO⟩
 case aH=>cases h;exact⟨rfl,yO,yO⟩
def looks(e:List Nat)(H:List ah):List Nat->Option (List ah×List Prop)
 |[]=>some ([],[])
 |id::iw=>match H[id]? with
  |some o=>match o.look e,looks e H iw with
   |some (o',ps),some (os,qs)=>some (o'::os,ps++qs)
   |_,_=>none
  |none=>none
theorem FT{e}{H}:∀{iw}{Hs}{ps},looks e H iw=some (Hs,ps)->gZ ps->Hs.length=iw.length/\(∀a∈iw,a<H.length) /\
 ∀ i(o:ah),Hs[i]?=some o->H[iw.getD i 0]?=some (o.jv (NZ e))/\o.bP e.length/\o.plain
 |[],Hs,ps,h,_=>by
  simp only[looks,Prod.mk.injEq]at h;grind
 |id::iw,Hs,ps,h,dG=>by
  unfold looks at h;split at h
  .split at h
   .rename_i o' qs os rs h1 h2;cases h;obtain⟨hq,hr⟩:=dN.1 dG;obtain⟨k1,k2,k3⟩:=Sk h1 hq;obtain⟨l1,l2,l3⟩:=FT h2 hr;grind
   .cases h
  .cases h
def Dk(σ:Nat->Nat):List Nat->List ah->List ah->List ah
 |[],_,H=>H
 |_::_,[],H=>H
 |id::e,o::os,H=>Dk σ e os (H.set id (o.Vo σ))
def FC(e:List Nat)(H Hs:List ah):List ah:=Dk (upto e H.length) e Hs H++(Hs.drop e.length).map (ah.Vo (upto e H.length))
theorem Uw σ:∀(e:List Nat)os H,(∀o∈os,o.plain)->Dk σ e os H=lY σ e os H
 |[],_,_,_=>rfl
 |_::_,[],_,_=>rfl
 |id::e,o::os,H,h=>by rw[Dk,lY,G8 (h o zS),Uw σ e os _ fun o ho=>h o (by simp[ho])]
theorem aak{e}{H Hs}(h:∀o∈Hs,o.plain):FC e H Hs=iq e H Hs:=by
 unfold FC iq;rw[Uw _ _ _ _ h];congr 1;exact map_congr_left fun o ho=>G8 (h o (mem_of_mem_drop ho))
def ES:List ah->List Prop
 |[]=>[]
 |.aN _ _ _ xs::os=>(∀x∈xs,AV.aM [] x=true)::ES os
 |.map es::os=>(∀e∈es,e.2.gN []=true)::ES os
 |_::os=>ES os
theorem xH:∀{os},gZ (ES os)->∀o∈os,o.plain
 |[],_,_,h=>by cases h
 |o::os,h,o',ho=>by
  cases o<;>simp only[ES]at h<;>rcases yH.1 ho with rfl|ho<;>first
   |trivial
   |exact h.1
   |exact xH h.2 _ ho
   |exact xH h _ ho
def BN(P:Program)(G:Nat->Option (List AV))(r:Option Nat)(V:View)(a:Act)(o:Oper)(out:aS)(H':List ah):Prop :=
 ∀(next:Act->World->Prop)(Q:Exit->Act->World->Prop),
  (∀V' v x,out = .ret x->Step V V'->aD G V'->V'.H=H'->dI V' x v->next (a.put o.dst v) V'.w) ->
  (∀V' v x,out = .Ay x->Step V V'->aD G V'->V'.H=H'->dI V' x v->Q (.panic [{ v:=v,recovered:=false }]) a V'.w) ->
  o.wpIn (fz r) 0 P a V.w next Q
section
variable {P:Program} {G:Nat->Option (List AV)} {r:Option Nat} {V:View} {a:Act} {o:Oper}
theorem BN.Db{V'}{x}{v}{n}(hd:∀c,o.op≠.defer c)(jJ:(execOp a.eval o).run P V.w = .ok n V'.w)(hn:n = .value v\/(n = .skip/\v=undef))(hs:Step V V')(hG:aD G V')(hr:dI V' x v):BN P G r V a o (.ret x) V'.H:=by
 intro next Q h1 _
 refine⟨fun _ _=>trivial,?_⟩;rw[Oper.semAt_eq _ _ _ hd,jJ];have:=h1 V' v x rfl hs hG rfl hr;rcases hn with rfl|⟨rfl,rfl⟩<;>exact this
theorem BN.ac5{f}{args}{out}{H'}(hd:∀c,o.op≠.defer c)(jJ:(execOp a.eval o).run P V.w = .ok (.enter f args) V.w)(hc:CallsIn Fence.wide 0 P f args V.w (xu G V H' out)) :
 BN P G r V a o out H':=by
 intro next Q h1 h2
 refine⟨fun _ _=>trivial,?_⟩;rw[Oper.semAt_eq _ _ _ hd,jJ];refine⟨nofun,(Jp r hc).mono fun e w' he=>?_⟩;obtain⟨V',rfl,k1,k2,k3,k4⟩:=he;cases e with
 |returned v =>
  cases out with
  |ret x=>exact h1 V' v x rfl k1 k2 k3 k4
  |Ay x=>exact k4.elim
 |panicked ch =>
  cases out with
  |ret x=>exact k4.elim
  |Ay x =>
   obtain⟨v,rfl,hr⟩:=k4;grind
 |outgrown=>cases out<;>exact k4.elim
end
mutual
def AV.zy:AV->Bool
 |.lit _=>true
 |.agg cs|.bq cs=>AV.Ee cs
 |.qX _ x=>x.zy
 |_=>false
def AV.Ee:List AV->Bool
 |[]=>true
 |x::xs=>x.zy&&AV.Ee xs
end
theorem oD:∀{xs}j,AV.Ee xs=true->j<xs.length->(xs.getD j .aP).zy=true
 |[],j,_,hj=>absurd hj zS
 |x::xs,0,h,_=>by simp[AV.Ee]at h;grind
 |x::xs,j+1,h,hj=>by simp[AV.Ee]at h;simpa using oD j h.2 (by simpa using hj)
theorem qL{e}:∀{xs}j,AV.aM e xs=true->j<xs.length->(xs.getD j .aP).gN e=true
 |[],j,_,hj=>absurd hj zS
 |x::xs,0,h,_=>by simp[AV.aM]at h;grind
 |x::xs,j+1,h,hj=>by simp[AV.aM]at h;simpa using qL j h.2 (by simpa using hj)
theorem PU{w w'}{M M'}{x}{v}(h:dR w M x v):x.zy=true->dR w' M' x v:=by
 induction h with
 |lit v=>exact fun _=>.lit v
 |iG=>exact fun h=>by cases h
 |sl=>exact fun h=>by cases h
 |md=>exact fun h=>by cases h
 |agg cs vs hl _ ih=>exact fun h=>.agg cs vs hl fun j hj=>ih j hj (oD j h hj)
 |bq cs vs hl _ ih=>exact fun h=>.bq cs vs hl fun j hj=>ih j hj (oD j h hj)
 |qX t x v _ ih=>exact fun h=>.qX t x v (ih h)
 |fn=>exact fun h=>by cases h
theorem II{V V'}{x}{v}(h:dI V x v):x.zy=true->dI V' x v:=by
 induction h with
 |pure x v h=>exact fun hf=>.pure _ _ (PU h hf)
 |aP v=>exact fun h=>by cases h
 |agg cs vs hl _ ih=>exact fun h=>.agg cs vs hl fun j hj=>ih j hj (oD j h hj)
 |bq cs vs hl _ ih=>exact fun h=>.bq cs vs hl fun j hj=>ih j hj (oD j h hj)
 |qX t x v _ ih=>exact fun h=>.qX t x v (ih h)
 |fn=>exact fun h=>by cases h
 |ptr=>exact fun h=>by cases h
 |jC=>exact fun h=>by cases h
 |aU=>exact fun h=>by cases h
 |mp=>exact fun h=>by cases h
 |yl=>exact fun h=>by cases h
theorem Sl{V V'}(hw:V'.w=V.w)(hM:∀b,V'.M b->V.M b){x}{v}(h:dI V x v):x.gN []=true->dI V' x v:=by
 induction h with
 |pure x v h=>exact fun _=>.pure _ _ (h.wI hw hM)
 |aP v=>exact fun _=>.aP v
 |agg cs vs hl _ ih=>exact fun h=>.agg cs vs hl fun j hj=>ih j hj (qL j h hj)
 |bq cs vs hl _ ih=>exact fun h=>.bq cs vs hl fun j hj=>ih j hj (qL j h hj)
 |qX t x v _ ih=>exact fun h=>.qX t x v (ih h)
 |fn f aZ bs us vs hu hv _ _ iha ihb =>
  intro h;simp only[AV.gN,y04]at h;exact .fn f aZ bs us vs hu hv (fun j hj=>iha j hj (qL j h.1 hj)) fun j hj=>ihb j hj (qL j h.2 hj)
 |ptr=>exact fun h=>by simp[AV.gN,lg]at h
 |jC=>exact fun h=>by simp[AV.gN,lg]at h
 |aU=>exact fun h=>by simp[AV.gN,lg]at h
 |mp=>exact fun h=>by simp[AV.gN,lg]at h
 |yl=>exact fun h=>by simp[AV.gN,lg]at h
theorem OT{G:Nat->Option (List AV)}(hG:aD G V)(hw:V'.w=V.w)(hM:∀b,V'.M b->V.M b){id len:Nat}{fz:Bool}(hH:V.H[id]?=some (.aN g sz fz ys))(hM':¬V'.M (V.ρ id)){v:Value}(h:dI V (.aU id g off len) v){z:List (List AV)}(hz:(ys.drop off).take len=z)(hl:z.length=len)(hp:∀c∈z,c.all AV.fJ=true):dR V'.w V'.M (.sl sz false z) v:=by
 obtain⟨A,cap,c,t,rfl,hA,h2,h3,h4,h5⟩:=sj hH h;obtain⟨t',c',o1,o2,o3,o4⟩:=hG.eP id _ hH;rw[h4]at o1;cases o1;subst hl;have hzk:∀k,k<z.length->ys.getD (off+k) []=z.getD k []/\off+k<ys.length:=fun k hk=>by
  have hk':=hk;grind
 have cell:∀k j,k<z.length->j<sz->∃u,c[off*sz+k*sz+j]?=some u/\u.oneCell'=true/\dI V ((z.getD k []).getD j .aP) u:=fun k j hk hj=>by
  grind
 have zI:∀x∈z,x∈ys:=fun x hx=>by rw[<- hz]at hx;exact mem_of_mem_drop (mem_of_mem_take hx)
 have pk:∀k j,k<z.length->j<sz->((z.getD k []).getD j .aP).fJ=true:=fun k j hk hj=>by
  grind
 refine .sl sz false z A cap (V.ρ id) (off*sz) (fun k j=>c.getD (off*sz+k*sz+j) undef) (fun fF=>?_) (fun _ _=>hM') h2 (fun h=>by cases h) (fun x hx=>o3 x (zI x hx)) (fun k j hk hj=>?_) (fun k j hk hj=>?_) (fun k j hk hj=>?_)
 .grind [length_pos_iff]
 .obtain ⟨u,hu,_⟩:=cell k j hk hj;simp[World.cell?,hw,h4,Array.getD_eq_getD_getElem?,hu]
 .obtain ⟨u,hu,h1,_⟩:=cell k j hk hj;simpa[hu]using h1
 .obtain ⟨u,hu,_,hr⟩:=cell k j hk hj;have e:c.getD (off*sz+k*sz+j) undef=u:=by simp[Array.getD_eq_getD_getElem?,hu]
  rw[e];exact(kE (pk k j hk hj) hr).wI hw hM
def iT(H:List ah):List AV->List (List (List AV))->Option (List AV×List Prop)
 |[],_=>some ([],[])
 |.aU id g off len::xs,z::zs=>match H[id]? with
  |some (.aN g' sz _ ys)=>(iT H xs zs).map fun(aZ,ps)=>(.sl sz false z::aZ,(g'=g)::((ys.drop off).take len=z)::(z.length=len)::(∀c∈z,c.all AV.fJ=true)::ps)
  |_=>none
 |.ptr id off::xs,zs=>match H[id]? with
  |some (.box cells)=>if cells.all AV.fJ=true/\off<=cells.length then(iT H xs zs).map fun(aZ,ps)=>(.iG (cells.drop off)::aZ,ps)else none
  |_=>none
 |x::xs,zs=>if x.gN []=true then(iT H xs zs).map fun(aZ,ps)=>(x::aZ,ps)else none
theorem su{G:Nat->Option (List AV)}{V V':View}(hG:aD G V)(hw:V'.w=V.w)(hM:∀b,¬V'.M b):∀{xs:List AV}{zs:List (List (List AV))}{aZ:List AV}{ps:List Prop}{vs:List Value},iT V.H xs zs=some (aZ,ps)->gZ ps->bR V xs vs->bR V' aZ vs
 |[],zs,aZ,ps,vs,h,_,hr=>by
  have:aZ=[]:=by cases zs<;>(simp only[iT,y06,Prod.mk.injEq]at h;exact h.1.symm)
  subst this;have:=y02 (by simpa using hr.1);subst this;exact .nil
 |x::xs,zs,aZ,ps,[],h,_,hr=>by have:=hr.1;simp at this
 |x::xs,zs,aZ,ps,v::vs,h,dG,hr=>by
  have hx:=hr.head;have ht:=hr.tail;have gen:(if x.gN []=true then(iT V.H xs zs).map fun(aZ,ps)=>(x::aZ,ps)else none)=some (aZ,ps)->bR V' aZ (v::vs):=by
   intro h;split at h
   .rename_i hi;cases hb:iT V.H xs zs with
    |none=>simp[hb]at h
    |some q =>
     obtain⟨j6,ps'⟩:=q;simp only[hb,Option.map_some,y06,Prod.mk.injEq]at h;obtain⟨rfl,rfl⟩:=h;exact .cons (Sl hw (fun b hb=>absurd hb (hM b)) hx hi) (su hG hw hM hb dG ht)
   .cases h
  cases x with
  |aU id g off len =>
   cases zs with
   |nil=>simp[iT,AV.gN,lg]at h
   |cons z zs =>
    simp only[iT]at h;split at h
    .rename_i g' sz fz ys hH;cases hb:iT V.H xs zs with
     |none=>simp[hb]at h
     |some q =>
      obtain⟨j6,ps'⟩:=q;simp only[hb,Option.map_some,y06,Prod.mk.injEq]at h;obtain⟨rfl,rfl⟩:=h;obtain⟨hg,h1,h2,h3,h4⟩:=dG;subst hg;exact .cons (.pure _ _ (OT hG hw (fun b hb=>absurd hb (hM b)) hH (hM _) hx h1 h2 h3)) (su hG hw hM hb h4 ht)
    .cases h
  |ptr id off =>
   simp only[iT]at h;split at h
   .rename_i cells hH;split at h
    .rename_i qK;obtain⟨hp,uQ⟩:=qK;cases hb:iT V.H xs zs with
     |none=>simp[hb]at h
     |some q =>
      obtain⟨j6,ps'⟩:=q;simp only[hb,Option.map_some,y06,Prod.mk.injEq]at h;obtain⟨rfl,rfl⟩:=h;refine .cons (.pure _ _ ?_) (su hG hw hM hb dG ht);obtain⟨_,rfl⟩:=jr hx;have hc:=(wD hG hH).drop off;rw[y09]at hc;obtain⟨us,hu,lT⟩:=hc;refine .iG _ _ (fun j=>us.getD j undef) rfl (fun _=>hM _) (fun j hj=>?_) (fun j hj=>?_)
      .grind
      .refine (kE ?_ (hu.2 j hj)).wI hw (fun b hb=>absurd hb (hM b));grind
    .cases h
   .cases h
  |lit u=>exact gen (by simpa only[iT]using h)
  |jC i g k j=>exact gen (by simpa only[iT]using h)
  |iG cs=>exact gen (by simpa only[iT]using h)
  |sl s t ys=>exact gen (by simpa only[iT]using h)
  |md it es=>exact gen (by simpa only[iT]using h)
  |mp i=>exact gen (by simpa only[iT]using h)
  |yl i=>exact gen (by simpa only[iT]using h)
  |fn f p q=>exact gen (by simpa only[iT]using h)
  |qX t y=>exact gen (by simpa only[iT]using h)
  |agg cs=>exact gen (by simpa only[iT]using h)
  |bq cs=>exact gen (by simpa only[iT]using h)
  |aP=>exact gen (by simpa only[iT]using h)
theorem ak.read{P}{G}{f}{args}{out}(hc:ak P G f args [] (.ret out) []){V}(hG:aD G V){xs}{zs}{ps}(hb:iT V.H xs zs=some (args,ps))(dG:gZ ps)(hf:out.zy=true){vs}(hx:bR V xs vs):CallsIn Fence.wide 0 P f vs.toArray V.w (xu G V V.H (.ret out)):=by
 let V1:View:={ w:=V.w,M:=fun _=>False,H:=[],ρ:=V.ρ };have R8:aD G V1:=⟨fun _ h=>absurd h (by simp[V1]),fun _ _ h=>by simp[V1]at h,fun _ _ h=>absurd h (by simp[V1]),fun _ _ h=>by simp[V1]at h,fun g cs hg=>(hG.ng g cs hg).wI rfl fun _ h=>h.elim⟩;have h:=hc V1 vs rfl R8 (su (V':=V1) hG rfl (fun _ h=>h) hb dG hx);refine h.mono fun e w' he=>?_;obtain⟨qb,rfl,k1,k2,k3,k4⟩:=he;have JW:∀b,b<V.w.heap.size->qb.w.heap[b]?=V.w.heap[b]? := fun b hb=>(k1.keep b hb (fun id dU=>absurd dU (by simp[V1]))).1;let V':View:={ w:=qb.w,M:=fun b=>V.M b/\b<V.w.heap.size,H:=V.H,ρ:=V.ρ };have hs:Step V V':={
  os:=k1.os
  tape:=k1.tape
  output:=k1.output
  size:=k1.size
  drawn:=k1.drawn
  keep:=fun b hb _=>⟨JW b hb,⟨fun h=>h.1,fun h=>⟨h,hb⟩⟩⟩
  data:=fun b hb hn=>⟨JW b hb,fun h=>hn h.1⟩
  bL:=yM
  fresh:=fun id dU=>.inl ⟨dU,rfl⟩
  eP:=fun id dU=>.refl dU rfl rfl (JW _ (hG.lt id dU)) }
 refine⟨V',rfl,hs,?_,rfl,?_⟩
 .exact {
   lt:=fun id dU=>y21 (hG.lt id dU) k1.size
   eP:=fun id o ho=>(hG.eP id o ho).step hs (JW _ (hG.lt id (yC.1 ho).1))
   inj:=hG.inj
   gW:=fun id o ho bA=>⟨hG.gW id o ho bA,hG.lt id (yC.1 ho).1⟩
   ng:=hG.gD hs }
 .cases e with
  |returned v=>exact II k4 hf
  |panicked _=>exact k4.elim
  |outgrown=>exact k4.elim
def dY(P:Program)(G:Nat->Option (List AV))(id:Nat)(args:List AV)(H:List ah)(b:Bool)(H':List ah):Prop :=
 ∀(V:View)(vs:List Value),V.H=H->aD G V->bR V args vs->∃(f:FuncId)(tmps:Array Value)(x y:Code),(Instr.yield (V.ρ id) vs.toArray).run P V.w = .ok (.round (V.ρ id) f tmps x y) V.w /\
  ∀r,RoundIn (fz r) 0 P (V.ρ id) f tmps x y V.w fun e w'=>∃V':View,V'.w=w'/\Step V V'/\aD G V'/\V'.H=H'/\e = .returned (.bool b)
def rz(P:Program)(f:FuncId):Bool:=match P.funcs[f]? with
 |some fn=>fn.body.isSome && !(fn.name == "runtime.NumGoroutine")
 |none=>false
def jY(x:AV):Option (FuncId×List AV×List AV):=match x with
 |.lit (.func (.func f) us vs)=>some (f,us.toList.map .lit,vs.toList.map .lit)
 |.fn (.func f) aZ bs=>some (f,aZ,bs)
 |_=>none
def EG:List Nat->Bool
 |[]=>true
 |x::xs=>!(xs.contains x)&&EG xs
theorem Ef:∀{l},EG l=true->l.Nodup
 |[],_=>nodup_nil
 |x::xs,h=>by
  simp only[EG,y04,Bool.not_eq_true',contains_eq_mem,decide_eq_false_iff_not]at h;exact nodup_cons.2 ⟨h.1,Ef h.2⟩
def aS.Im:aS->Bool
 |.ret x=>x.gN []
 |.Ay x=>x.gN []
theorem aS.Jq{σ}{out:aS}(h:out.Im=true):out.jv σ=out:=by
 cases out<;>simp only[aS.jv,(zX σ _ h).1]
def qY(P:Program)(G:Nat->Option (List AV))(H:List ah)(f:FuncId)(xs:List AV)(bf:List bC):Option (Kind×aS×List ah×List bC×List Prop) :=
 match bf with
 |.call [] out []::aT=>if AV.aM [] xs=true/\out.Im=true then some (.free,out,H,aT,[ak P G f xs [] out []])else none
 |.call e out Xi::aT =>
  if EG e=true/\AV.aM e xs=true then
   match looks e H e with
   |some (Hs,ps)=>some (.lK,out.jv (upto e H.length),FC e H Xi,aT,ak P G f (AV.kH (Kh e) xs) Hs out Xi::(ES Xi++ps))
   |none=>none
  else none
 |.pure zs out::aT=>match iT H xs zs with
  |some (args,ps)=>if out.zy=true then some (.read,.ret out,H,aT,ak P G f args [] (.ret out) []::ps)else none
  |none=>none
 |_=>none
def dJ(P:Program)(G:Nat->Option (List AV))(H:List ah)(ev:Operand->AV)(o:Oper)(bf:List bC):Option (Kind×aS×List ah×List bC×List Prop) :=
 match o.op with
 |.call { callee:=.value g,args:=args,argTypes:=_ }=>match ev g,bf with
  |.yl id,.call [] (.ret (.lit (.bool b))) H'::aT=>some (.lK,.ret (.lit (.bool b)),H',aT,[dY P G id (args.toList.map ev) H b H'])
  |x,_=>match jY x with
   |some (f,aZ,bs)=>if rz P f=true then qY P G H f (aZ++args.toList.map ev++bs) bf else none
   |none=>none
 |_=>none
section
variable {P:Program} {G:Nat->Option (List AV)} {r:Option Nat} {V:View} {a:Act} {o:Oper} {ev:Operand->AV}
theorem FE{H}{f}{xs}{vs}{bf aT}{k}{out}{H'}{ps}(h:qY P G H f xs bf=some (k,out,H',aT,ps))(dG:gZ ps)(hG:aD G V)(hx:bR V xs vs)(hH:V.H=H\/k = .free):CallsIn Fence.wide 0 P f vs.toArray V.w (xu G V (if k = .free then V.H else H') out)/\(k≠.lK->H'=H):=by
 unfold qY at h;split at h
 .split at h
  .rename_i qK;obtain⟨vN,hf⟩:=qK;cases h;obtain⟨hc,_⟩:=dG;have r:=iX (NZ []) xs vN;have:=ak.frame hc hG  nodup_nil zS rfl (fun i o ho=>by simp at ho) (fun i o ho=>by simp at ho) hx r.1.symm (r.2 _);rw[aS.Jq hf]at this;have hb:iq [] V.H []=V.H:=by simp[iq,lY]
   grind
  .cases h
 .rename_i e alj Xi agX _;split at h
  .rename_i qK;obtain⟨wO,vN⟩:=qK;split at h
   .rename_i Hs qs hl;cases h;obtain⟨hc,dG⟩:=dG;obtain⟨hp1,hp2⟩:=dN.1 dG;obtain⟨l1,l2,l3⟩:=FT hl hp2;obtain⟨r1,r2⟩:=nN e xs vN;rcases hH with rfl|hf
    .have:=ak.frame hc hG (Ef wO) l2 l1 (fun i o ho=>(l3 i o ho).1) (fun i o ho=>(l3 i o ho).2.1) hx r1.symm r2;rw[<- aak (xH hp1)]at this;grind
    .cases hf
   .cases h
  .cases h
 .split at h
  .rename_i args qs hb;split at h
   .rename_i hf;cases h;rcases hH with rfl|hf
    .exact ⟨by exact ak.read dG.1 hG hb dG.2 hf hx,fun _=>rfl⟩
    .cases hf
   .cases h
  .cases h
 .cases h
theorem mU{x}{u}{f}{aZ bs}(h:jY x=some (f,aZ,bs))(hr:dI V x u):∃us vs:List Value,u = .func (.func f) us.toArray vs.toArray/\bR V aZ us/\bR V bs vs:=by
 unfold jY at h;split at h
 .cases h;rename_i us vs;exact⟨us.toList,vs.toList,by rw[bW hr],bR.vv _,bR.vv _⟩
 .cases h;exact yY hr
 .cases h
theorem Rl{H}{bf aT}{k}{out}{H'}{ps}(h:dJ P G H ev o bf=some (k,out,H',aT,ps))(dG:gZ ps)(hG:aD G V)(hr:∀y∈o.op.operands,dI V (ev y) (a.eval y))(hH:V.H=H\/k = .free):BN P G r V a o out (if k = .free then V.H else H')/\(k≠.lK->H'=H):=by
 unfold dJ at h;split at h
 .rename_i g args ts bA;split at h
  .rename_i id b H1 cK hg;cases h;rcases hH with rfl|hH
   .have h1:=hr g (by simp[bA,Op.operands,Call.operands]);rw[hg]at h1;obtain⟨_,hv⟩:=R9 h1;have h3:bR V (args.toList.map ev) (args.toList.map a.eval):=tH fun y hy=>hr y (by simp[bA,Op.operands,Call.operands];exact .inr (by simpa using hy));obtain⟨f,tmps,x,y,k1,k2⟩:=dG.1 V _ rfl hG h3;refine⟨?_,fun h=>absurd rfl h⟩;rw[yK zS];intro next Q n1 n2
    refine⟨fun _ _=>trivial,?_⟩;have e:(args.toList.map a.eval).toArray=args.map a.eval:=by apply Array.ext';simp
    rw[e]at k1;have jJ:(execOp a.eval o).run P V.w = .ok (.round (V.ρ id) f tmps x y) V.w:=by
     rw[execOp,bA];simp[resolve,Deferred.ofValue,hv,invoke,k1]
    rw[Oper.semAt_eq _ _ _ (fun c hc=>by rw[bA]at hc;cases hc),jJ];refine⟨nofun,(k2 r).mono fun e w' he=>?_⟩;obtain⟨V',rfl,l1,l2,l3,rfl⟩:=he;exact n1 V' _ _ rfl l1 l2 l3 (.pure _ _ (.lit _))
   .cases hH
  rename_i x0 agX _ hx0;split at h
  .rename_i f aZ bs ht;split at h
   .rename_i dK;obtain⟨us,vs,hu,h1,h2⟩:=mU ht (hr g (by simp[bA,Op.operands,Call.operands]));have h3:bR V (args.toList.map ev) (args.toList.map a.eval):=tH fun y hy=>hr y (by simp[bA,Op.operands,Call.operands];exact .inr (by simpa using hy));have hx:=(h1.append h3).append h2;obtain⟨hc,hk⟩:=FE h dG hG hx hH;refine⟨BN.ac5 (fun c hc=>by rw[bA]at hc;cases hc) ?_ hc,hk⟩;unfold rz at dK;split at dK
    .rename_i fn wN;simp only[y04,Bool.not_eq_true',beq_eq_false_iff_ne,ne_eq]at dK;obtain⟨c,hb⟩:=Option.isSome_iff_exists.1 dK.1;rw[execOp,bA];have e:us.toArray++args.map a.eval++vs.toArray=(us++args.toList.map a.eval++vs).toArray:=by apply Array.ext';simp
     simp[resolve,Deferred.ofValue,hu,invoke,callFunc,wN,dK.2,hb,e]
    .cases dK
   .cases h
  .cases h
 .cases h
end
end Go.Am
