import Derived.OrdersIn
import Derived.RangeFuncIn
import Derived.WalkKit
set_option maxRecDepth 100000
set_option linter.unusedSimpArgs false
set_option linter.unusedVariables false

namespace Go.Am
open Go
inductive AV where
 | lit (v:Value)
 | ptr (id off:Nat)
 | apt (id gen k j:Nat)
 | imm (cells:List AV)
 | sl (sz:Nat) (tight:Bool) (xs:List (List AV))
 | own (id gen off len:Nat)
 | mp (id:Nat)
 | md (it:Bool) (es:List (Value × AV))
 | yl (id:Nat)
 | fn (f:Fn) (first captured:List AV)
 | ifc (t:TypeId) (v:AV)
 | agg (cells:List AV)
 | tup (vs:List AV)
 | dead
instance:Inhabited AV:=⟨.dead⟩
inductive AObj where
 | box (cells:List AV)
 | arr (gen sz:Nat) (fz:Bool) (xs:List (List AV))
 | map (es:List (Value × AV))
 | rng (st:LoopState) (pending:Option Code) (env:List AV) (params:Array Tmp) (assign body:Code)
 | iter (cur:Option (Value × AV)) (left:List (Value × AV))
 | dfd
 | gone
instance:Inhabited AObj:=⟨.gone⟩
def atE (es:List (Value × AV)) (j:Nat):AV:=(es.getD j (undef,.dead)).2
def atV (ents:List MapEntry) (j:Nat):Value:=(ents.getD j default).val
inductive PRep (w:World) (M:Nat→Prop):AV→Value→Prop
 | lit (v:Value):PRep w M (.lit v) v
 | imm (cs:List AV) (a:Addr) (vs:Nat→Value) (hs:a.spot=none) (hb:cs≠[]→¬ M a.block)
  (hc:∀ j,j<cs.length→w.cell? ⟨a.block,a.off+j,none⟩=some (vs j))
  (hr:∀ j,j<cs.length→PRep w M (cs.getD j .dead) (vs j)):PRep w M (.imm cs) (.pointer (some a))
 | sl (sz:Nat) (tight:Bool) (xs:List (List AV)) (A:Option Addr) (cap b o:Nat) (vs:Nat→Nat→Value)
  (hA:xs≠[]→A=some ⟨b,o,none⟩) (hb:xs≠[]→sz≠0→¬ M b) (hcap:xs.length≤cap) (ht:tight=true→cap=xs.length)
  (hsz:∀ x∈xs,x.length=sz)
  (hc:∀ k j,k<xs.length→j<sz→w.cell? ⟨b,o+k * sz+j,none⟩=some (vs k j))
  (ho:∀ k j,k<xs.length→j<sz→(vs k j).oneCell'=true)
  (hr:∀ k j,k<xs.length→j<sz→PRep w M ((xs.getD k []).getD j .dead) (vs k j)):PRep w M (.sl sz tight xs) (.slice A xs.length cap)
 | md (it:Bool) (es es0:List (Value × AV)) (hp:es0.Perm es) (r:Nat) (ents:List MapEntry) (clock:Nat) (hb:¬ M r) (hc:w.heap[r]? = some (.map ents.toArray clock))
  (hk:ents.map (·.key)=es0.map (·.1)) (hd:(es0.map (·.1)).Nodup) (hr:∀ j,j<es0.length→PRep w M (atE es0 j) (atV ents j)) (hbn:it=true→(ents.map (·.born)).Nodup∧∀ x∈ents,x.born<clock):PRep w M (.md it es) (.map (some r))
 | agg (cs:List AV) (vs:List Value) (hl:vs.length=cs.length)
  (hr:∀ j,j<cs.length→PRep w M (cs.getD j .dead) (vs.getD j undef)):PRep w M (.agg cs) (.agg vs.toArray)
 | tup (cs:List AV) (vs:List Value) (hl:vs.length=cs.length)
  (hr:∀ j,j<cs.length→PRep w M (cs.getD j .dead) (vs.getD j undef)):PRep w M (.tup cs) (.tuple vs.toArray)
 | ifc (t:TypeId) (x:AV) (v:Value) (hr:PRep w M x v):PRep w M (.ifc t x) (.iface t v)
 | fn (f:Fn) (aZ bs:List AV) (us vs:List Value) (hu:us.length=aZ.length) (hv:vs.length=bs.length)
  (ha:∀ j,j<aZ.length→PRep w M (aZ.getD j .dead) (us.getD j undef))
  (hb:∀ j,j<bs.length→PRep w M (bs.getD j .dead) (vs.getD j undef)):PRep w M (.fn f aZ bs) (.func f us.toArray vs.toArray)
structure View where
 w:World
 M:Nat→Prop
 H:List AObj
 ρ:Nat→Nat
def OwnRep (V:View) (id sz off len:Nat) (v:Value):Prop :=
 ∃ A cap c t,v = .slice A len cap∧(cap≠0→A=some ⟨V.ρ id,off * sz,none⟩)∧len≤cap∧cap≤maxLen∧V.w.heap[V.ρ id]? = some (.cells c t (0,0))∧(off+cap) * sz=c.size
def OwnOk (V:View) (id gen off len:Nat) (v:Value):Prop :=
 v.oneCell'=true∧match V.H[id]? with
 | some (.arr g sz _ _)=>gen≤g∧(gen=g→OwnRep V id sz off len v)
 | some .gone=>True
 | _=>False
def AptOk (V:View) (id gen k j:Nat) (v:Value):Prop :=
 v.oneCell'=true∧match V.H[id]? with
 | some (.arr g sz _ _)=>gen≤g∧(gen=g→v = .pointer (some ⟨V.ρ id,k * sz+j,none⟩))
 | some .gone=>True
 | _=>False
def AObj.isBox:AObj→Bool
 | .box _ | .iter .. | .gone=>true
 | _=>false
def AObj.isMap:AObj→Bool
 | .map _ | .gone=>true
 | _=>false
def AObj.isRng:AObj→Bool
 | .rng .. | .gone=>true
 | _=>false
def KindOk (f:AObj→Bool) (V:View) (id:Nat):Prop:=∃ o,V.H[id]? = some o∧f o=true
inductive Rep (V:View):AV→Value→Prop
 | pure (x:AV) (v:Value) (h:PRep V.w V.M x v):Rep V x v
 | dead (v:Value):Rep V .dead v
 | ptr (id off:Nat) (h:KindOk AObj.isBox V id):Rep V (.ptr id off) (.pointer (some ⟨V.ρ id,off,none⟩))
 | apt (id gen k j:Nat) (v:Value) (h:AptOk V id gen k j v):Rep V (.apt id gen k j) v
 | own (id gen off len:Nat) (v:Value) (h:OwnOk V id gen off len v):Rep V (.own id gen off len) v
 | mp (id:Nat) (h:KindOk AObj.isMap V id):Rep V (.mp id) (.map (some (V.ρ id)))
 | yl (id:Nat) (h:KindOk AObj.isRng V id):Rep V (.yl id) (.func (.yield (V.ρ id)) #[] #[])
 | agg (cs:List AV) (vs:List Value) (hl:vs.length=cs.length)
  (hr:∀ j,j<cs.length→Rep V (cs.getD j .dead) (vs.getD j undef)):Rep V (.agg cs) (.agg vs.toArray)
 | tup (cs:List AV) (vs:List Value) (hl:vs.length=cs.length)
  (hr:∀ j,j<cs.length→Rep V (cs.getD j .dead) (vs.getD j undef)):Rep V (.tup cs) (.tuple vs.toArray)
 | ifc (t:TypeId) (x:AV) (v:Value) (hr:Rep V x v):Rep V (.ifc t x) (.iface t v)
 | fn (f:Fn) (aZ bs:List AV) (us vs:List Value) (hu:us.length=aZ.length) (hv:vs.length=bs.length)
  (ha:∀ j,j<aZ.length→Rep V (aZ.getD j .dead) (us.getD j undef))
  (hb:∀ j,j<bs.length→Rep V (bs.getD j .dead) (vs.getD j undef)):Rep V (.fn f aZ bs) (.func f us.toArray vs.toArray)
def Reps (V:View) (xs:List AV) (vs:List Value):Prop:=vs.length=xs.length∧∀ j,j<xs.length→Rep V (xs.getD j .dead) (vs.getD j undef)
structure IterOk (w:World) (M:Nat→Prop) (bm since:Nat) (seen:Array Nat) (c0:Nat) (ents:List MapEntry) (clock:Nat) (es:List (Value × AV)) (idx:List Nat) (cur:Option (Value × AV)) (left:List (Value × AV)):Prop where
 data:¬ M bm
 map:w.heap[bm]? = some (.map ents.toArray clock)
 key:ents.map (·.key)=es.map (·.1)
 born:(ents.map (·.born)).Nodup
 old:∀ x∈ents,x.born<since
 sn:since≤c0
 sc:since≤clock
 val:∀ j,j<es.length→PRep w M (atE es j) (atV ents j)
 nd:idx.Nodup
 ix:∀ i,i∈idx↔i<ents.length∧seen.contains (ents.getD i default).born=false
 lf:(idx.map fun i=>es.getD i (undef,.dead)).Perm left
 cu:∀ e,cur=some e→c0=clock∧∃ i seen',i<ents.length∧seen=Array.push seen' (ents.getD i default).born∧es.getD i (undef,.dead)=e
def ObjRep (V:View) (b:Nat):AObj→Prop
 | .box cells=>∃ t vs,V.w.heap[b]? = some (.cells (List.toArray vs) t (0,0))∧Reps V cells vs
 | .arr _ sz _ xs=>∃ t c,V.w.heap[b]? = some (.cells c t (0,0))∧xs.length * sz≤c.size∧(∀ x∈xs,x.length=sz) ∧
  ∀ k j,k<xs.length→j<sz→∃ v,c[k * sz+j]? = some v∧v.oneCell'=true∧Rep V ((xs.getD k []).getD j .dead) v
 | .map es=>∃ ents clock,V.w.heap[b]? = some (.map (List.toArray ents) clock)∧ents.map (·.key)=es.map (·.1)∧(es.map (·.1)).Nodup∧ents.map (·.born)=List.range ents.length∧clock=ents.length ∧
  ∀ j,j<es.length→Rep V (atE es j) (atV ents j)
 | .rng st pending env params assign body=>∃ fn vs D,V.w.heap[b]? = some (.loop { state:=st,pending:=pending,fn:=fn,tmps:=List.toArray vs,params:=params,assign:=assign,body:=body,defers:=D })∧Reps V env vs
 | .iter cur left=>∃ bm since seen c0 ents clock es idx,V.w.heap[b]? = some (.mapIter (some bm) since seen c0)∧IterOk V.w V.M bm since seen c0 ents clock es idx cur left
 | .dfd=>V.w.heap[b]? = some (.deferred (some []))
 | .gone=>True
def AObj.open_:AObj→Bool
 | .arr _ _ fz _=>!fz
 | .gone=>false
 | _=>true
structure HeapRep (G:Nat→Option (List AV)) (V:View):Prop where
 lt:∀ id,id<V.H.length→V.ρ id<V.w.heap.size
 obj:∀ id o,V.H[id]? = some o→ObjRep V (V.ρ id) o
 inj:∀ i j,i<V.H.length→j<V.H.length→V.ρ i=V.ρ j→i=j
 mutb:∀ id o,V.H[id]? = some o→o.open_=true→V.M (V.ρ id)
 glob:∀ g cs,G g=some cs→PRep V.w V.M (.imm cs) (.pointer (some ⟨g,0,none⟩))
def ObjStep (V V':View) (id:Nat):Prop :=
 match V.H[id]?,V'.H[id]? with
 | some (.arr g sz _ _),some (.arr g' sz' _ _)=>g<g'∨(g=g'∧sz=sz'∧V'.ρ id=V.ρ id∧∀ c t fr,V.w.heap[V.ρ id]? = some (.cells c t fr)→∃ c',V'.w.heap[V.ρ id]? = some (.cells c' t fr)∧c'.size=c.size)
 | some (.box _),some (.box _)=>V'.ρ id=V.ρ id
 | some (.map _),some (.map _)=>V'.ρ id=V.ρ id
 | some (.rng ..),some (.rng ..)=>V'.ρ id=V.ρ id
 | some (.iter ..),some (.iter ..)=>V'.ρ id=V.ρ id
 | some .dfd,some .dfd=>V'.ρ id=V.ρ id
 | some (.arr ..),some .gone=>True
 | some _,some .gone=>V'.ρ id=V.ρ id
 | _,_=>False
structure Step (V V':View):Prop where
 os:V'.w.os=V.w.os
 tape:V'.w.tape=V.w.tape
 output:V'.w.output=V.w.output
 size:V.w.heap.size≤V'.w.heap.size
 drawn:V.w.drawn≤V'.w.drawn
 keep:∀ b,b<V.w.heap.size→(∀ id,id<V.H.length→V.ρ id≠b)→V'.w.heap[b]? = V.w.heap[b]?∧(V'.M b↔V.M b)
 data:∀ b,b<V.w.heap.size→¬ V.M b→V'.w.heap[b]? = V.w.heap[b]?∧¬ V'.M b
 hlen:V.H.length≤V'.H.length
 fresh:∀ id,id<V'.H.length→(id<V.H.length∧V'.ρ id=V.ρ id)∨V.w.heap.size≤V'.ρ id
 obj:∀ id,id<V.H.length→ObjStep V V' id
theorem cell_lt {w:World} {b o:Nat} {v:Value} (h:w.cell? ⟨b,o,none⟩=some v):b<w.heap.size:=World.block_lt_of_cell? w _ h
theorem cell_of_heap {w w':World} {b o:Nat} (h:w'.heap[b]? = w.heap[b]?):w'.cell? ⟨b,o,none⟩=w.cell? ⟨b,o,none⟩:=by simp [World.cell?,h]
theorem PRep.step {w w':World} {M M':Nat→Prop} (hd:∀ b,b<w.heap.size→¬ M b→w'.heap[b]? = w.heap[b]?∧¬ M' b) {x:AV} {v:Value}
 (h:PRep w M x v):PRep w' M' x v:=by
 induction h with
 | lit v=>exact .lit v
 | imm cs a vs hs hb hc _ ih =>
  by_cases hn:cs=[]
  · subst hn
    exact .imm [] a vs hs (fun h=>absurd rfl h) (fun j hj=>absurd hj (by simp)) (fun j hj=>absurd hj (by simp))
  · have hpos:0<cs.length:=List.length_pos_iff.2 hn
    have hlt:a.block<w.heap.size:=cell_lt (hc 0 hpos)
    have:=hd a.block hlt (hb hn)
    exact .imm cs a vs hs (fun _=>this.2) (fun j hj=>(cell_of_heap this.1).trans (hc j hj)) ih
 | sl sz tight xs A cap b o vs hA hb hcap ht hsz hc ho _ ih =>
  by_cases hn:xs=[]
  · subst hn
    exact .sl sz tight [] A cap b o vs hA (fun h=>absurd rfl h) hcap ht hsz (fun k j hk=>absurd hk (by simp)) (fun k j hk=>absurd hk (by simp)) (fun k j hk=>absurd hk (by simp))
  · by_cases hz:sz=0
    · subst hz
      exact .sl 0 tight xs A cap b o vs hA (fun _ h=>absurd rfl h) hcap ht hsz (fun k j _ hj=>absurd hj (by omega)) (fun k j _ hj=>absurd hj (by omega)) (fun k j _ hj=>absurd hj (by omega))
    · have hpos:0<xs.length:=List.length_pos_iff.2 hn
      have hlt:b<w.heap.size:=cell_lt (hc 0 0 hpos (by omega))
      have:=hd b hlt (hb hn hz)
      exact .sl sz tight xs A cap b o vs hA (fun _ _=>this.2) hcap ht hsz (fun k j hk hj=>(cell_of_heap this.1).trans (hc k j hk hj)) ho ih
 | md it es es0 hp r ents clock hb hc hk hdn _ hbn ih =>
  have hlt:r<w.heap.size:=(Array.getElem?_eq_some_iff.1 hc).1
  have:=hd r hlt hb
  exact .md it es es0 hp r ents clock this.2 (this.1.trans hc) hk hdn ih hbn
 | agg cs vs hl _ ih=>exact .agg cs vs hl ih
 | tup cs vs hl _ ih=>exact .tup cs vs hl ih
 | ifc t x v _ ih=>exact .ifc t x v ih
 | fn f aZ bs us vs hu hv _ _ iha ihb=>exact .fn f aZ bs us vs hu hv iha ihb
theorem IterOk.step {w w':World} {M M':Nat→Prop} (hd:∀ b,b<w.heap.size→¬ M b→w'.heap[b]? = w.heap[b]?∧¬ M' b) {bm since:Nat} {seen:Array Nat} {c0:Nat} {ents:List MapEntry} {clock:Nat} {es:List (Value × AV)} {idx:List Nat} {cur:Option (Value × AV)} {left:List (Value × AV)}
 (h:IterOk w M bm since seen c0 ents clock es idx cur left):IterOk w' M' bm since seen c0 ents clock es idx cur left :=
 have hlt:bm<w.heap.size:=(Array.getElem?_eq_some_iff.1 h.map).1
 have k:=hd bm hlt h.data
 { h with data:=k.2,map:=k.1.trans h.map,val:=fun j hj=>(h.val j hj).step hd }
theorem PRep.stepV {V V':View} (hs:Step V V') {x:AV} {v:Value} (h:PRep V.w V.M x v):PRep V'.w V'.M x v:=h.step hs.data
theorem OwnOk.step {V V':View} (hs:Step V V') {id gen off len:Nat} {v:Value} (h:OwnOk V id gen off len v):OwnOk V' id gen off len v:=by
 have hlt:id<V.H.length:=by
  unfold OwnOk at h
  rcases Nat.lt_or_ge id V.H.length with hl | hl
  · exact hl
  · rw [List.getElem?_eq_none hl] at h; exact h.2.elim
 have ho:=hs.obj id hlt
 unfold OwnOk at h ⊢
 refine ⟨h.1,?_⟩
 have h:=h.2
 unfold ObjStep at ho
 cases hH:V.H[id]? with
 | none=>simp [hH] at h
 | some o =>
  rw [hH] at h ho
  cases hH':V'.H[id]? with
  | none=>rw [hH'] at ho; cases o<;>exact ho.elim
  | some o' =>
   rw [hH'] at ho
   cases o<;>cases o'<;>simp only at h ho⊢<;> try exact ho.elim
   case arr.arr g sz fz xs g' sz' fz' xs' =>
    obtain ⟨hle,hrep⟩:=h
    rcases ho with hlt' | ⟨rfl,rfl,hρ,hkeep⟩
    · exact ⟨by omega,fun e=>absurd e (by omega)⟩
    · refine ⟨hle,fun e=>?_⟩
      obtain ⟨A,cap,c,t,hv,h0,h1,h2,h3,h4⟩:=hrep e
      obtain ⟨c',hc',hsz⟩:=hkeep c t _ h3
      exact ⟨A,cap,c',t,hv,by rw [hρ]; exact h0,h1,h2,by rw [hρ]; exact hc',by rw [hsz]; exact h4⟩
theorem AptOk.step {V V':View} (hs:Step V V') {id gen k j:Nat} {v:Value} (h:AptOk V id gen k j v):AptOk V' id gen k j v:=by
 have hlt:id<V.H.length:=by
  unfold AptOk at h
  rcases Nat.lt_or_ge id V.H.length with hl | hl
  · exact hl
  · rw [List.getElem?_eq_none hl] at h; exact h.2.elim
 have ho:=hs.obj id hlt
 unfold AptOk at h ⊢
 refine ⟨h.1,?_⟩
 have h:=h.2
 unfold ObjStep at ho
 cases hH:V.H[id]? with
 | none=>simp [hH] at h
 | some o =>
  rw [hH] at h ho
  cases hH':V'.H[id]? with
  | none=>rw [hH'] at ho; cases o<;>exact ho.elim
  | some o' =>
   rw [hH'] at ho
   cases o<;>cases o'<;>simp only at h ho⊢<;> try exact ho.elim
   case arr.arr g sz fz xs g' sz' fz' xs' =>
    obtain ⟨hle,hrep⟩:=h
    rcases ho with hlt' | ⟨rfl,rfl,hρ,_⟩
    · exact ⟨by omega,fun e=>absurd e (by omega)⟩
    · exact ⟨hle,fun e=>by rw [hρ]; exact hrep e⟩
theorem KindOk.lt {f:AObj→Bool} {V:View} {id:Nat} (h:KindOk f V id):id<V.H.length:=by
 obtain ⟨o,ho,_⟩:=h
 exact (List.getElem?_eq_some_iff.1 ho).1
theorem KindOk.step {V V':View} (hs:Step V V') {f:AObj→Bool} (hg:f .gone=true) (ha:∀ g sz fz xs,f (.arr g sz fz xs)=false)
 (hbx:f (.box [])=true→∀ c,f (.box c)=true) (hbn:f (.box [])=false→∀ c,f (.box c)=false)
 (hmx:∀ a b,f (.map a)=f (.map b)) (hrx:∀ s p e q a b s' p' e' q' a' b',f (.rng s p e q a b)=f (.rng s' p' e' q' a' b')) (hix:∀ c l c' l',f (.iter c l)=f (.iter c' l'))
 {id:Nat} (h:KindOk f V id):KindOk f V' id∧V'.ρ id=V.ρ id:=by
 have hlt:=h.lt
 obtain ⟨o,hH,hf⟩:=h
 have ho:=hs.obj id hlt
 unfold ObjStep at ho
 rw [hH] at ho
 cases hH':V'.H[id]? with
 | none=>rw [hH'] at ho; cases o<;>exact ho.elim
 | some o' =>
  rw [hH'] at ho
  cases o<;>cases o'<;>simp only at ho<;>first
   | exact ho.elim
   | (rw [ha] at hf; cases hf)
   | exact ⟨⟨_,hH',hg⟩,ho⟩
   | exact ⟨⟨_,hH',(hmx _ _).trans hf⟩,ho⟩
   | exact ⟨⟨_,hH',(hrx _ _ _ _ _ _ _ _ _ _ _ _).trans hf⟩,ho⟩
   | exact ⟨⟨_,hH',(hix _ _ _ _).trans hf⟩,ho⟩
   | (refine ⟨⟨_,hH',?_⟩,ho⟩
      cases hb0:f (.box []) with
      | true=>exact hbx hb0 _
      | false=>rw [hbn hb0] at hf; cases hf)
   | exact ⟨⟨_,hH',hf⟩,ho⟩
theorem boxOk_step {V V':View} (hs:Step V V') {id:Nat} (h:KindOk AObj.isBox V id):KindOk AObj.isBox V' id∧V'.ρ id=V.ρ id :=
 h.step hs rfl (fun _ _ _ _=>rfl) (fun _ _=>rfl) (fun h=>absurd h (by simp [AObj.isBox])) (fun _ _=>rfl) (fun _ _ _ _ _ _ _ _ _ _ _ _=>rfl) (fun _ _ _ _=>rfl)
theorem mapOk_step {V V':View} (hs:Step V V') {id:Nat} (h:KindOk AObj.isMap V id):KindOk AObj.isMap V' id∧V'.ρ id=V.ρ id :=
 h.step hs rfl (fun _ _ _ _=>rfl) (fun h=>absurd h (by simp [AObj.isMap])) (fun _ _=>rfl) (fun _ _=>rfl) (fun _ _ _ _ _ _ _ _ _ _ _ _=>rfl) (fun _ _ _ _=>rfl)
theorem rngOk_step {V V':View} (hs:Step V V') {id:Nat} (h:KindOk AObj.isRng V id):KindOk AObj.isRng V' id∧V'.ρ id=V.ρ id :=
 h.step hs rfl (fun _ _ _ _=>rfl) (fun h=>absurd h (by simp [AObj.isRng])) (fun _ _=>rfl) (fun _ _=>rfl) (fun _ _ _ _ _ _ _ _ _ _ _ _=>rfl) (fun _ _ _ _=>rfl)
theorem Rep.step {V V':View} (hs:Step V V') {x:AV} {v:Value} (h:Rep V x v):Rep V' x v:=by
 induction h with
 | pure x v h=>exact .pure x v (h.stepV hs)
 | dead v=>exact .dead v
 | ptr id off h=>obtain ⟨h1,h2⟩:=boxOk_step hs h; rw [← h2]; exact .ptr id off h1
 | apt id gen k j v h=>exact .apt id gen k j v (h.step hs)
 | own id gen off len v h=>exact .own id gen off len v (h.step hs)
 | mp id h=>obtain ⟨h1,h2⟩:=mapOk_step hs h; rw [← h2]; exact .mp id h1
 | yl id h=>obtain ⟨h1,h2⟩:=rngOk_step hs h; rw [← h2]; exact .yl id h1
 | agg cs vs hl _ ih=>exact .agg cs vs hl ih
 | tup cs vs hl _ ih=>exact .tup cs vs hl ih
 | ifc t x v _ ih=>exact .ifc t x v ih
 | fn f aZ bs us vs hu hv _ _ iha ihb=>exact .fn f aZ bs us vs hu hv iha ihb
theorem Reps.step {V V':View} (hs:Step V V') {xs:List AV} {vs:List Value} (h:Reps V xs vs):Reps V' xs vs:=⟨h.1,fun j hj=>(h.2 j hj).step hs⟩
theorem ObjRep.step {V V':View} (hs:Step V V') {b:Nat} {o:AObj} (hb:V'.w.heap[b]? = V.w.heap[b]?) (h:ObjRep V b o):ObjRep V' b o:=by
 cases o with
 | box cells=>obtain ⟨t,vs,h1,h2⟩:=h; exact ⟨t,vs,hb.trans h1,h2.step hs⟩
 | arr g sz fz xs =>
  obtain ⟨t,c,h1,h2,h3,h4⟩:=h
  exact ⟨t,c,hb.trans h1,h2,h3,fun k j hk hj=>let ⟨v,hv,h1,hr⟩:=h4 k j hk hj; ⟨v,hv,h1,hr.step hs⟩⟩
 | map es=>obtain ⟨ents,clock,h1,h2,h3,h4,h5,h6⟩:=h; exact ⟨ents,clock,hb.trans h1,h2,h3,h4,h5,fun j hj=>(h6 j hj).step hs⟩
 | rng st p env ps aZ bd=>obtain ⟨fn,vs,D,h1,h2⟩:=h; exact ⟨fn,vs,D,hb.trans h1,h2.step hs⟩
 | iter cur left =>
  obtain ⟨bm,since,seen,c0,ents,clock,es,idx,h1,h2⟩:=h
  exact ⟨bm,since,seen,c0,ents,clock,es,idx,hb.trans h1,h2.step hs.data⟩
 | dfd=>exact hb.trans h
 | gone=>trivial
theorem ObjStep.refl {V V':View} {id:Nat} (hlt:id<V.H.length) (hH:V'.H[id]? = V.H[id]?) (hρ:V'.ρ id=V.ρ id) (hw:V'.w.heap[V.ρ id]? = V.w.heap[V.ρ id]?):ObjStep V V' id:=by
 unfold ObjStep
 rw [hH]
 cases ho:V.H[id]? with
 | none=>exact absurd (List.getElem?_eq_none_iff.1 ho) (by omega)
 | some o =>
  cases o<;>simp only<;>first | exact hρ | exact .inr ⟨trivial,trivial,hρ,fun c t fr hc=>⟨c,hw.trans hc,rfl⟩⟩
theorem Step.refl (V:View):Step V V :=
 ⟨rfl,rfl,rfl,Nat.le_refl _,Nat.le_refl _,fun _ _ _=>⟨rfl,Iff.rfl⟩,fun _ _ h=>⟨rfl,h⟩,Nat.le_refl _,fun _ h=>.inl ⟨h,rfl⟩,fun _ h=>.refl h rfl rfl rfl⟩
theorem ObjStep.trans {V V' V'':View} {id:Nat} (h:ObjStep V V' id) (h':ObjStep V' V'' id):ObjStep V V'' id:=by
 unfold ObjStep at *
 cases h1:V.H[id]? with
 | none=>simp [h1] at h
 | some o1 =>
  cases h2:V'.H[id]? with
  | none=>rw [h1,h2] at h; cases o1<;>exact h.elim
  | some o2 =>
   cases h3:V''.H[id]? with
   | none=>rw [h2,h3] at h'; cases o2<;>exact h'.elim
   | some o3 =>
    rw [h1,h2] at h
    rw [h2,h3] at h'
    cases o1<;>cases o2<;>simp only at h<;>first
     | exact h.elim
     | (cases o3<;>simp only at h'⊢<;> first
      | exact h'.elim
      | exact h'.trans h
      | trivial
      | skip)
    case arr.arr.arr g sz fz xs g2 sz2 fz2 xs2 g3 sz3 fz3 xs3 =>
     rcases h with h | ⟨rfl,rfl,hρ,hk⟩
     · rcases h' with h' | ⟨rfl,_⟩
       · exact .inl (by omega)
       · exact .inl h
     · rcases h' with h' | ⟨rfl,rfl,hρ',hk'⟩
       · exact .inl h'
       · refine .inr ⟨rfl,rfl,hρ'.trans hρ,fun c t fr hc=>?_⟩
         obtain ⟨c',hc',hs'⟩:=hk c t fr hc
         obtain ⟨c2,hc2,hs2⟩:=hk' c' t fr (by rw [hρ]; exact hc')
         exact ⟨c2,by rw [← hρ]; exact hc2,hs2.trans hs'⟩
theorem Step.trans {V V' V'':View} (h:Step V V') (h':Step V' V''):Step V V'' where
 os:=h'.os.trans h.os
 tape:=h'.tape.trans h.tape
 output:=h'.output.trans h.output
 size:=Nat.le_trans h.size h'.size
 drawn:=Nat.le_trans h.drawn h'.drawn
 keep b hb hn:=by
  obtain ⟨a1,a2⟩:=h.keep b hb hn
  have:=h'.keep b (Nat.lt_of_lt_of_le hb h.size) (fun id hid e=>by
   rcases h.fresh id hid with ⟨hl,hρ⟩ | hge
   · exact hn id hl (hρ ▸ e)
   · omega)
  exact ⟨this.1.trans a1,this.2.trans a2⟩
 data b hb hn:=by
  obtain ⟨a1,a2⟩:=h.data b hb hn
  obtain ⟨b1,b2⟩:=h'.data b (Nat.lt_of_lt_of_le hb h.size) a2
  exact ⟨b1.trans a1,b2⟩
 hlen:=Nat.le_trans h.hlen h'.hlen
 fresh id hid:=by
  rcases h'.fresh id hid with ⟨hl,hρ⟩ | hge
  · rcases h.fresh id hl with ⟨hl0,hρ0⟩ | hge
    · exact .inl ⟨hl0,hρ.trans hρ0⟩
    · exact .inr (by rw [hρ]; exact hge)
  · exact .inr (Nat.le_trans h.size hge)
 obj id hid:=(h.obj id hid).trans (h'.obj id (Nat.lt_of_lt_of_le hid h.hlen))
end Go.Am


namespace Go.Am
open Go
mutual
def AV.ren (σ:Nat→Nat):AV→AV
 | .lit v=>.lit v
 | .ptr id off=>.ptr (σ id) off
 | .apt id g k j=>.apt (σ id) g k j
 | .imm cs=>.imm cs
 | .sl sz t xs=>.sl sz t xs
 | .own id g off len=>.own (σ id) g off len
 | .mp id=>.mp (σ id)
 | .md it es=>.md it es
 | .yl id=>.yl (σ id)
 | .fn f aZ bs=>.fn f (AV.renL σ aZ) (AV.renL σ bs)
 | .ifc t x=>.ifc t (x.ren σ)
 | .agg cs=>.agg (AV.renL σ cs)
 | .tup cs=>.tup (AV.renL σ cs)
 | .dead=>.dead
def AV.renL (σ:Nat→Nat):List AV→List AV
 | []=>[]
 | x::xs=>x.ren σ::AV.renL σ xs
end
mutual
def AV.idsLt (n:Nat):AV→Bool
 | .ptr id _ | .apt id _ _ _ | .own id _ _ _ | .mp id | .yl id=>Nat.blt id n
 | .fn _ aZ bs=>AV.idsLtL n aZ && AV.idsLtL n bs
 | .ifc _ x=>x.idsLt n
 | .agg cs | .tup cs=>AV.idsLtL n cs
 | _=>true
def AV.idsLtL (n:Nat):List AV→Bool
 | []=>true
 | x::xs=>x.idsLt n && AV.idsLtL n xs
end
def AObj.ren (σ:Nat→Nat):AObj→AObj
 | .box cs=>.box (AV.renL σ cs)
 | .arr g sz fz xs=>.arr g sz fz (xs.map (AV.renL σ))
 | .map es=>.map (es.map fun e=>(e.1,e.2.ren σ))
 | .rng st p env ps aZ bd=>.rng st p (AV.renL σ env) ps aZ bd
 | .iter c l=>.iter c l
 | .dfd=>.dfd
 | .gone=>.gone
def AObj.idsLt (n:Nat):AObj→Prop
 | .box cs=>AV.idsLtL n cs=true
 | .arr _ _ _ xs=>∀ x∈xs,AV.idsLtL n x=true
 | .map es=>∀ e∈es,e.2.idsLt n=true
 | .rng _ _ env _ _ _=>AV.idsLtL n env=true
 | _=>True
theorem renL_length (σ:Nat→Nat):∀ xs:List AV,(AV.renL σ xs).length=xs.length
 | []=>by simp [AV.renL]
 | x::xs=>by simp [AV.renL,renL_length σ xs]
theorem renL_getD (σ:Nat→Nat):∀ (xs:List AV) (j:Nat),(AV.renL σ xs).getD j .dead=(xs.getD j .dead).ren σ
 | [],j=>by simp [AV.renL,AV.ren]
 | x::xs,0=>by simp [AV.renL]
 | x::xs,j+1=>by simpa [AV.renL] using renL_getD σ xs j
theorem idsLtL_getD {n:Nat}:∀ {xs:List AV} (j:Nat),AV.idsLtL n xs=true→j<xs.length→(xs.getD j .dead).idsLt n=true
 | [],j,_,hj=>absurd hj (by simp)
 | x::xs,0,h,_=>by simp [AV.idsLtL] at h; simpa using h.1
 | x::xs,j+1,h,hj=>by simp [AV.idsLtL] at h; simpa using idsLtL_getD j h.2 (by simpa using hj)
structure Lk (V1 V2:View) (σ:Nat→Nat):Prop where
 w:V2.w=V1.w
 M:∀ b,V2.M b↔V1.M b
 ρ:∀ i,i<V1.H.length→V2.ρ (σ i)=V1.ρ i
 obj:∀ i o,V1.H[i]? = some o→V2.H[σ i]? = some (o.ren σ)
theorem PRep.sameV {w w':World} {M M':Nat→Prop} (hw:w'=w) (hM:∀ b,M' b→M b) {x:AV} {v:Value} (h:PRep w M x v):PRep w' M' x v:=by
 subst hw
 exact h.step fun b _ hn=>⟨rfl,fun hm=>hn (hM b hm)⟩
section
variable {V1 V2:View} {σ:Nat→Nat} (hk:Lk V1 V2 σ)
 include hk
theorem KindOk.fwd {f:AObj→Bool} (hf:∀ o,f (AObj.ren σ o)=f o) {id:Nat} (h:KindOk f V1 id):KindOk f V2 (σ id)∧V2.ρ (σ id)=V1.ρ id:=by
 have hlt:=h.lt
 obtain ⟨o,ho,hfo⟩:=h
 exact ⟨⟨_,hk.obj id o ho,(hf o).trans hfo⟩,hk.ρ id hlt⟩
theorem KindOk.bwd {f:AObj→Bool} (hf:∀ o,f (AObj.ren σ o)=f o) {id:Nat} (hlt:id<V1.H.length) (h:KindOk f V2 (σ id)):KindOk f V1 id∧V2.ρ (σ id)=V1.ρ id:=by
 obtain ⟨o,ho,hfo⟩:=h
 have hg:V1.H[id]? = some V1.H[id]:=List.getElem?_eq_getElem hlt
 have:=hk.obj id _ hg
 rw [ho] at this
 injection this with e
 exact ⟨⟨_,hg,by rw [← hf,← e]; exact hfo⟩,hk.ρ id hlt⟩
omit hk in
theorem isBox_ren (o:AObj):AObj.isBox (o.ren σ)=o.isBox:=by cases o<;>rfl
omit hk in
theorem isMap_ren (o:AObj):AObj.isMap (o.ren σ)=o.isMap:=by cases o<;>rfl
omit hk in
theorem isRng_ren (o:AObj):AObj.isRng (o.ren σ)=o.isRng:=by cases o<;>rfl
omit hk in
theorem open_ren (o:AObj):AObj.open_ (o.ren σ)=o.open_:=by cases o<;>rfl
theorem OwnRep.iff {id sz off len:Nat} {v:Value} (hlt:id<V1.H.length):OwnRep V2 (σ id) sz off len v↔OwnRep V1 id sz off len v:=by
 unfold OwnRep; rw [hk.ρ id hlt,hk.w]
theorem OwnOk.iff {id gen off len:Nat} {v:Value} (hlt:id<V1.H.length):OwnOk V2 (σ id) gen off len v↔OwnOk V1 id gen off len v:=by
 have hg:V1.H[id]? = some V1.H[id]:=List.getElem?_eq_getElem hlt
 have h2:=hk.obj id _ hg
 unfold OwnOk
 rw [h2,hg]
 cases V1.H[id]<;>simp only [AObj.ren]
 rw [OwnRep.iff hk hlt]
theorem AptOk.iff {id gen k j:Nat} {v:Value} (hlt:id<V1.H.length):AptOk V2 (σ id) gen k j v↔AptOk V1 id gen k j v:=by
 have hg:V1.H[id]? = some V1.H[id]:=List.getElem?_eq_getElem hlt
 have h2:=hk.obj id _ hg
 unfold AptOk
 rw [h2,hg]
 cases V1.H[id]<;>simp only [AObj.ren]
 rw [hk.ρ id hlt]
omit hk in
theorem OwnOk.lt {V:View} {id gen off len:Nat} {v:Value} (h:OwnOk V id gen off len v):id<V.H.length:=by
 unfold OwnOk at h
 rcases Nat.lt_or_ge id V.H.length with hl | hl
 · exact hl
 · rw [List.getElem?_eq_none hl] at h; exact h.2.elim
omit hk in
theorem AptOk.lt {V:View} {id gen k j:Nat} {v:Value} (h:AptOk V id gen k j v):id<V.H.length:=by
 unfold AptOk at h
 rcases Nat.lt_or_ge id V.H.length with hl | hl
 · exact hl
 · rw [List.getElem?_eq_none hl] at h; exact h.2.elim
theorem Rep.ofPrep_ren {y:AV} {v:Value} (h:PRep V1.w V1.M y v):Rep V2 (y.ren σ) v:=by
 induction h with
 | lit v=>exact .pure _ _ (.lit v)
 | imm cs a vs hs hb hc hr _=>exact .pure _ _ ((PRep.imm cs a vs hs hb hc hr).sameV hk.w fun b=>(hk.M b).1)
 | sl sz t xs A cap b o vs hA hb hcap ht hsz hc ho hr _=>exact .pure _ _ ((PRep.sl sz t xs A cap b o vs hA hb hcap ht hsz hc ho hr).sameV hk.w fun b=>(hk.M b).1)
 | md it es es0 hp r ents clock hb hc hkk hd hr hbn _=>exact .pure _ _ ((PRep.md it es es0 hp r ents clock hb hc hkk hd hr hbn).sameV hk.w fun b=>(hk.M b).1)
 | agg cs vs hl _ ih=>exact .agg _ vs (by rw [renL_length]; exact hl) fun j hj=>by rw [renL_getD]; exact ih j (by rw [renL_length] at hj; exact hj)
 | tup cs vs hl _ ih=>exact .tup _ vs (by rw [renL_length]; exact hl) fun j hj=>by rw [renL_getD]; exact ih j (by rw [renL_length] at hj; exact hj)
 | ifc t x v _ ih=>exact .ifc t _ v ih
 | fn f aZ bs us vs hu hv _ _ iha ihb =>
  exact .fn f _ _ us vs (by rw [renL_length]; exact hu) (by rw [renL_length]; exact hv)
   (fun j hj=>by rw [renL_getD]; exact iha j (by rw [renL_length] at hj; exact hj)) (fun j hj=>by rw [renL_getD]; exact ihb j (by rw [renL_length] at hj; exact hj))
theorem Rep.fwd {x:AV} {v:Value} (h:Rep V1 x v):Rep V2 (x.ren σ) v:=by
 induction h with
 | pure x v h=>exact Rep.ofPrep_ren hk h
 | dead v=>exact .dead v
 | ptr id off h=>obtain ⟨h1,h2⟩:=KindOk.fwd hk isBox_ren h; rw [← h2]; exact .ptr _ off h1
 | apt id g k j v h=>exact .apt _ g k j v ((AptOk.iff hk h.lt).2 h)
 | own id g off len v h=>exact .own _ g off len v ((OwnOk.iff hk h.lt).2 h)
 | mp id h=>obtain ⟨h1,h2⟩:=KindOk.fwd hk isMap_ren h; rw [← h2]; exact .mp _ h1
 | yl id h=>obtain ⟨h1,h2⟩:=KindOk.fwd hk isRng_ren h; rw [← h2]; exact .yl _ h1
 | agg cs vs hl _ ih=>exact .agg _ vs (by rw [renL_length]; exact hl) fun j hj=>by rw [renL_getD]; exact ih j (by rw [renL_length] at hj; exact hj)
 | tup cs vs hl _ ih=>exact .tup _ vs (by rw [renL_length]; exact hl) fun j hj=>by rw [renL_getD]; exact ih j (by rw [renL_length] at hj; exact hj)
 | ifc t x v _ ih=>exact .ifc t _ v ih
 | fn f aZ bs us vs hu hv _ _ iha ihb =>
  exact .fn f _ _ us vs (by rw [renL_length]; exact hu) (by rw [renL_length]; exact hv)
   (fun j hj=>by rw [renL_getD]; exact iha j (by rw [renL_length] at hj; exact hj)) (fun j hj=>by rw [renL_getD]; exact ihb j (by rw [renL_length] at hj; exact hj))
theorem Rep.bwdP {y:AV} {v:Value} (h:PRep V2.w V2.M y v):∀ x,y=x.ren σ→x.idsLt V1.H.length=true→Rep V1 x v:=by
 have hw':V1.w=V2.w:=hk.w.symm
 have hM':∀ b,V1.M b→V2.M b:=fun b=>(hk.M b).2
 induction h with
 | lit v=>intro x hx _; cases x<;>simp only [AV.ren] at hx<;>first | (cases hx; done) | (injection hx with e; subst e; exact .pure _ _ (.lit _))
 | imm cs a vs hs hb hc hr _=>intro x hx _; cases x<;>simp only [AV.ren] at hx<;>first | (cases hx; done) | (injection hx with e; subst e; exact .pure _ _ ((PRep.imm _ a vs hs hb hc hr).sameV hw' hM'))
 | sl sz t xs A cap b o vs hA hb hcap ht hsz hc ho hr _ =>
  intro x hx _; cases x<;>simp only [AV.ren] at hx<;>first | (cases hx; done) | (injection hx with e1 e2 e3; subst e1 e2 e3; exact .pure _ _ ((PRep.sl _ _ _ A cap b o vs hA hb hcap ht hsz hc ho hr).sameV hw' hM'))
 | md it es es0 hp r ents clock hb hc hkk hd hr hbn _ =>
  intro x hx _; cases x<;>simp only [AV.ren] at hx<;>first | (cases hx; done) | (injection hx with e1 e2; subst e1 e2; exact .pure _ _ ((PRep.md _ _ es0 hp r ents clock hb hc hkk hd hr hbn).sameV hw' hM'))
 | agg cs vs hl _ ih =>
  intro x hx hi; cases x<;>simp only [AV.ren] at hx<;>first | (cases hx; done) | skip
  injection hx with e; subst e
  simp only [AV.idsLt] at hi
  rw [renL_length] at hl
  exact .agg _ vs hl fun j hj=>ih j (by rw [renL_length]; exact hj) _ (renL_getD σ _ j) (idsLtL_getD j hi hj)
 | tup cs vs hl _ ih =>
  intro x hx hi; cases x<;>simp only [AV.ren] at hx<;>first | (cases hx; done) | skip
  injection hx with e; subst e
  simp only [AV.idsLt] at hi
  rw [renL_length] at hl
  exact .tup _ vs hl fun j hj=>ih j (by rw [renL_length]; exact hj) _ (renL_getD σ _ j) (idsLtL_getD j hi hj)
 | ifc t x v _ ih =>
  intro x hx hi; cases x<;>simp only [AV.ren] at hx<;>first | (cases hx; done) | skip
  injection hx with e1 e2; subst e1 e2
  simp only [AV.idsLt] at hi
  exact .ifc _ _ v (ih _ rfl hi)
 | fn f aZ bs us vs hu hv _ _ iha ihb =>
  intro x hx hi; cases x<;>simp only [AV.ren] at hx<;>first | (cases hx; done) | skip
  injection hx with e1 e2 e3; subst e1 e2 e3
  simp only [AV.idsLt,Bool.and_eq_true] at hi
  rw [renL_length] at hu hv
  exact .fn _ _ _ us vs hu hv (fun j hj=>iha j (by rw [renL_length]; exact hj) _ (renL_getD σ _ j) (idsLtL_getD j hi.1 hj))
   (fun j hj=>ihb j (by rw [renL_length]; exact hj) _ (renL_getD σ _ j) (idsLtL_getD j hi.2 hj))
theorem Rep.bwd {y:AV} {v:Value} (h:Rep V2 y v):∀ x,y=x.ren σ→x.idsLt V1.H.length=true→Rep V1 x v:=by
 induction h with
 | pure y v h=>exact Rep.bwdP hk h
 | dead v=>intro x hx _; cases x<;>simp only [AV.ren] at hx<;>first | (cases hx; done) | exact .dead v
 | ptr id off h =>
  intro x hx hi; cases x<;>simp only [AV.ren] at hx<;>first | (cases hx; done) | skip
  injection hx with e1 e2; subst e1 e2
  simp only [AV.idsLt,Nat.blt_eq] at hi
  obtain ⟨h1,h2⟩:=KindOk.bwd hk isBox_ren hi h
  rw [h2]; exact .ptr _ _ h1
 | apt id g k j v h =>
  intro x hx hi; cases x<;>simp only [AV.ren] at hx<;>first | (cases hx; done) | skip
  injection hx with e1 e2 e3 e4; subst e1 e2 e3 e4
  simp only [AV.idsLt,Nat.blt_eq] at hi
  exact .apt _ _ _ _ v ((AptOk.iff hk hi).1 h)
 | own id g off len v h =>
  intro x hx hi; cases x<;>simp only [AV.ren] at hx<;>first | (cases hx; done) | skip
  injection hx with e1 e2 e3 e4; subst e1 e2 e3 e4
  simp only [AV.idsLt,Nat.blt_eq] at hi
  exact .own _ _ _ _ v ((OwnOk.iff hk hi).1 h)
 | mp id h =>
  intro x hx hi; cases x<;>simp only [AV.ren] at hx<;>first | (cases hx; done) | skip
  injection hx with e1; subst e1
  simp only [AV.idsLt,Nat.blt_eq] at hi
  obtain ⟨h1,h2⟩:=KindOk.bwd hk isMap_ren hi h
  rw [h2]; exact .mp _ h1
 | yl id h =>
  intro x hx hi; cases x<;>simp only [AV.ren] at hx<;>first | (cases hx; done) | skip
  injection hx with e1; subst e1
  simp only [AV.idsLt,Nat.blt_eq] at hi
  obtain ⟨h1,h2⟩:=KindOk.bwd hk isRng_ren hi h
  rw [h2]; exact .yl _ h1
 | agg cs vs hl _ ih =>
  intro x hx hi; cases x<;>simp only [AV.ren] at hx<;>first | (cases hx; done) | skip
  injection hx with e; subst e
  simp only [AV.idsLt] at hi
  rw [renL_length] at hl
  exact .agg _ vs hl fun j hj=>ih j (by rw [renL_length]; exact hj) _ (renL_getD σ _ j) (idsLtL_getD j hi hj)
 | tup cs vs hl _ ih =>
  intro x hx hi; cases x<;>simp only [AV.ren] at hx<;>first | (cases hx; done) | skip
  injection hx with e; subst e
  simp only [AV.idsLt] at hi
  rw [renL_length] at hl
  exact .tup _ vs hl fun j hj=>ih j (by rw [renL_length]; exact hj) _ (renL_getD σ _ j) (idsLtL_getD j hi hj)
 | ifc t x v _ ih =>
  intro x hx hi; cases x<;>simp only [AV.ren] at hx<;>first | (cases hx; done) | skip
  injection hx with e1 e2; subst e1 e2
  simp only [AV.idsLt] at hi
  exact .ifc _ _ v (ih _ rfl hi)
 | fn f aZ bs us vs hu hv _ _ iha ihb =>
  intro x hx hi; cases x<;>simp only [AV.ren] at hx<;>first | (cases hx; done) | skip
  injection hx with e1 e2 e3; subst e1 e2 e3
  simp only [AV.idsLt,Bool.and_eq_true] at hi
  rw [renL_length] at hu hv
  exact .fn _ _ _ us vs hu hv (fun j hj=>iha j (by rw [renL_length]; exact hj) _ (renL_getD σ _ j) (idsLtL_getD j hi.1 hj))
   (fun j hj=>ihb j (by rw [renL_length]; exact hj) _ (renL_getD σ _ j) (idsLtL_getD j hi.2 hj))
theorem Reps.fwd {xs:List AV} {vs:List Value} (h:Reps V1 xs vs):Reps V2 (AV.renL σ xs) vs :=
 ⟨by rw [renL_length]; exact h.1,fun j hj=>by rw [renL_getD]; exact (h.2 j (by rw [renL_length] at hj; exact hj)).fwd hk⟩
theorem Reps.bwd {xs:List AV} {vs:List Value} (hi:AV.idsLtL V1.H.length xs=true) (h:Reps V2 (AV.renL σ xs) vs):Reps V1 xs vs :=
 ⟨by have:=h.1; rw [renL_length] at this; exact this,fun j hj=>by
  have:=h.2 j (by rw [renL_length]; exact hj)
  exact this.bwd hk _ (renL_getD σ xs j) (idsLtL_getD j hi hj)⟩
omit hk in
theorem atE_ren (es:List (Value × AV)) (j:Nat):atE (es.map fun e=>(e.1,e.2.ren σ)) j=(atE es j).ren σ:=by
 unfold atE
 rw [List.getD_eq_getElem?_getD,List.getD_eq_getElem?_getD,List.getElem?_map]
 cases es[j]?<;>simp [AV.ren]
omit hk in
theorem keys_ren (es:List (Value × AV)):(es.map fun e=>(e.1,e.2.ren σ)).map (·.1)=es.map (·.1):=by simp
omit hk in
theorem atE_mem {es:List (Value × AV)} {j:Nat} (h:j<es.length):∃ k,(k,atE es j)∈es:=by
 unfold atE
 rw [List.getD_eq_getElem?_getD,List.getElem?_eq_getElem h]
 exact ⟨es[j].1,List.getElem_mem h⟩
omit hk in
theorem map_renL_getD (xs:List (List AV)) (k:Nat):(xs.map (AV.renL σ)).getD k []=AV.renL σ (xs.getD k []):=by
 rw [List.getD_eq_getElem?_getD,List.getD_eq_getElem?_getD,List.getElem?_map]
 cases xs[k]?<;>simp [AV.renL]
theorem ObjRep.fwd {b:Nat} {o:AObj} (h:ObjRep V1 b o):ObjRep V2 b (o.ren σ):=by
 cases o with
 | box cells=>obtain ⟨t,vs,h1,h2⟩:=h; exact ⟨t,vs,by rw [hk.w]; exact h1,h2.fwd hk⟩
 | arr g sz fz xs =>
  obtain ⟨t,c,h1,h2,h3,h4⟩:=h
  refine ⟨t,c,by rw [hk.w]; exact h1,by simpa using h2,?_,fun k j hk' hj=>?_⟩
  · intro x hx
    obtain ⟨y,hy,rfl⟩:=List.mem_map.1 hx
    rw [renL_length]; exact h3 y hy
  · obtain ⟨v,hv,h1,hr⟩:=h4 k j (by simpa using hk') hj
    exact ⟨v,hv,h1,by rw [map_renL_getD,renL_getD]; exact hr.fwd hk⟩
 | map es =>
  obtain ⟨ents,clock,h1,h2,h3,h4,h5,h6⟩:=h
  refine ⟨ents,clock,by rw [hk.w]; exact h1,by rw [keys_ren]; exact h2,by rw [keys_ren]; exact h3,h4,h5,fun j hj=>?_⟩
  rw [atE_ren]; exact (h6 j (by simpa using hj)).fwd hk
 | rng st p env ps aZ bd=>obtain ⟨fn,vs,D,h1,h2⟩:=h; exact ⟨fn,vs,D,by rw [hk.w]; exact h1,h2.fwd hk⟩
 | iter cur left =>
  obtain ⟨bm,since,seen,c0,ents,clock,es,idx,h1,h2⟩:=h
  exact ⟨bm,since,seen,c0,ents,clock,es,idx,by rw [hk.w]; exact h1,h2.step fun b _ hn=>⟨by rw [hk.w],fun hm=>hn ((hk.M b).1 hm)⟩⟩
 | dfd=>show V2.w.heap[b]? = _; rw [hk.w]; exact h
 | gone=>trivial
theorem ObjRep.bwd {b:Nat} {o:AObj} (hi:o.idsLt V1.H.length) (h:ObjRep V2 b (o.ren σ)):ObjRep V1 b o:=by
 cases o with
 | box cells=>obtain ⟨t,vs,h1,h2⟩:=h; exact ⟨t,vs,by rw [← hk.w]; exact h1,h2.bwd hk hi⟩
 | arr g sz fz xs =>
  obtain ⟨t,c,h1,h2,h3,h4⟩:=h
  refine ⟨t,c,by rw [← hk.w]; exact h1,by simpa using h2,?_,fun k j hk' hj=>?_⟩
  · intro x hx
    have:=h3 _ (List.mem_map.2 ⟨x,hx,rfl⟩)
    rw [renL_length] at this; exact this
  · obtain ⟨v,hv,ho1,hr⟩:=h4 k j (by simpa using hk') hj
    rw [map_renL_getD,renL_getD] at hr
    have hx:xs.getD k []∈xs:=by rw [List.getD_eq_getElem?_getD,List.getElem?_eq_getElem hk']; exact List.getElem_mem hk'
    have hlen:(xs.getD k []).length=sz:=by
     have:=h3 _ (List.mem_map.2 ⟨_,hx,rfl⟩)
     rw [renL_length] at this; exact this
    exact ⟨v,hv,ho1,hr.bwd hk _ rfl (idsLtL_getD j (hi _ hx) (by omega))⟩
 | map es =>
  obtain ⟨ents,clock,h1,h2,h3,h4,h5,h6⟩:=h
  rw [keys_ren] at h2 h3
  refine ⟨ents,clock,by rw [← hk.w]; exact h1,h2,h3,h4,h5,fun j hj=>?_⟩
  have:=h6 j (by simpa using hj)
  rw [atE_ren] at this
  obtain ⟨kk,hm⟩:=atE_mem hj
  have hm2:(atE es j).idsLt V1.H.length=true:=hi (kk,atE es j) hm
  exact this.bwd hk _ rfl hm2
 | rng st p env ps aZ bd=>obtain ⟨fn,vs,D,h1,h2⟩:=h; exact ⟨fn,vs,D,by rw [← hk.w]; exact h1,h2.bwd hk hi⟩
 | iter cur left =>
  obtain ⟨bm,since,seen,c0,ents,clock,es,idx,h1,h2⟩:=h
  exact ⟨bm,since,seen,c0,ents,clock,es,idx,by rw [← hk.w]; exact h1,h2.step fun b _ hn=>⟨by rw [hk.w],fun hm=>hn ((hk.M b).2 hm)⟩⟩
 | dfd=>show V1.w.heap[b]? = _; rw [← hk.w]; exact h
 | gone=>trivial
theorem HeapRep.bwd {G:Nat→Option (List AV)} (h:HeapRep G V2) (hi:∀ (i:Nat) (o:AObj),V1.H[i]? = some o→o.idsLt V1.H.length)
 (hinj:∀ i j,i<V1.H.length→j<V1.H.length→σ i=σ j→i=j):HeapRep G V1 where
 lt id hid:=by
  have:=hk.obj id _ (List.getElem?_eq_getElem hid)
  have:=h.lt (σ id) (List.getElem?_eq_some_iff.1 this).1
  rwa [hk.ρ id hid,hk.w] at this
 obj id o ho:=by
  have hlt:=(List.getElem?_eq_some_iff.1 ho).1
  have:=h.obj (σ id) _ (hk.obj id o ho)
  rw [hk.ρ id hlt] at this
  exact this.bwd hk (hi id o ho)
 inj i j hi' hj' e:=by
  rw [← hk.ρ i hi',← hk.ρ j hj'] at e
  exact hinj i j hi' hj' (h.inj _ _ (List.getElem?_eq_some_iff.1 (hk.obj i _ (List.getElem?_eq_getElem hi'))).1 (List.getElem?_eq_some_iff.1 (hk.obj j _ (List.getElem?_eq_getElem hj'))).1 e)
 mutb id o ho hop:=by
  have hlt:=(List.getElem?_eq_some_iff.1 ho).1
  have:=h.mutb (σ id) _ (hk.obj id o ho) (by rw [open_ren]; exact hop)
  rw [hk.ρ id hlt] at this
  exact (hk.M _).1 this
 glob g cs hg:=(h.glob g cs hg).sameV hk.w.symm fun b=>(hk.M b).2
end
def putBack (σ:Nat→Nat):List Nat→List AObj→List AObj→List AObj
 | [],_,H=>H
 | _::_,[],H=>H
 | id::e,o::os,H=>putBack σ e os (H.set id (o.ren σ))
def upto (e:List Nat) (n:Nat) (i:Nat):Nat:=if i<e.length then e.getD i 0 else n+(i - e.length)
def backHeap (e:List Nat) (H Hs:List AObj):List AObj:=putBack (upto e H.length) e Hs H++(Hs.drop e.length).map (AObj.ren (upto e H.length))
theorem putBack_length (σ:Nat→Nat):∀ (e:List Nat) (os H:List AObj),(putBack σ e os H).length=H.length
 | [],_,H=>rfl
 | _::_,[],H=>rfl
 | id::e,o::os,H=>by rw [putBack,putBack_length σ e os]; simp
theorem putBack_other (σ:Nat→Nat):∀ (e:List Nat) (os H:List AObj) (id:Nat),id∉e→(putBack σ e os H)[id]? = H[id]?
 | [],_,H,id,_=>rfl
 | _::_,[],H,id,_=>rfl
 | a::e,o::os,H,id,h=>by
  rw [putBack,putBack_other σ e os _ id (fun h'=>h (by simp [h']))]
  rw [List.getElem?_set_ne (fun e'=>h (by simp [e']))]
theorem putBack_same (σ:Nat→Nat):∀ (e:List Nat) (os H:List AObj),e.Nodup→(∀ a∈e,a<H.length)→e.length≤os.length→∀ (i:Nat) (o:AObj),i<e.length→os[i]? = some o →
 (putBack σ e os H)[e.getD i 0]? = some (o.ren σ)
 | [],_,H,_,_,_,i,o,hi,_=>absurd hi (by simp)
 | _::_,[],H,_,_,hl,i,o,hi,_=>absurd hl (by simp)
 | a::e,o'::os,H,hnd,hlt,hl,i,o,hi,ho=>by
  rw [putBack]
  cases i with
  | zero =>
   simp only [List.getElem?_cons_zero,Option.some.injEq] at ho
   subst ho
   rw [List.getD_cons_zero,putBack_other σ e os _ a (List.nodup_cons.1 hnd).1]
   rw [List.getElem?_set_self (hlt a (by simp))]
  | succ i =>
   rw [List.getD_cons_succ]
   exact putBack_same σ e os _ (List.nodup_cons.1 hnd).2 (fun b hb=>by rw [List.length_set]; exact hlt b (by simp [hb])) (by simpa using hl) i o (by simpa using hi) (by simpa using ho)
def posOf:List Nat→Nat→Option Nat
 | [],_=>none
 | a::e,id=>if a=id then some 0 else (posOf e id).map (·+1)
theorem posOf_some:∀ {e:List Nat} {id i:Nat},posOf e id=some i→i<e.length∧e.getD i 0=id
 | [],_,_,h=>by simp [posOf] at h
 | a::e,id,i,h=>by
  unfold posOf at h
  split at h
  · cases h; simp [*]
  · cases hp:posOf e id with
    | none=>simp [hp] at h
    | some k =>
     simp [hp] at h
     subst h
     obtain ⟨h1,h2⟩:=posOf_some hp
     exact ⟨by simpa using h1,by simpa using h2⟩
theorem posOf_none:∀ {e:List Nat} {id:Nat},posOf e id=none→id∉e
 | [],_,_=>by simp
 | a::e,id,h=>by
  unfold posOf at h
  split at h
  · cases h
  · rename_i hne
    have:posOf e id=none:=by simpa using h
    simp only [List.mem_cons,not_or]
    exact ⟨fun e'=>hne e'.symm,posOf_none this⟩
theorem posOf_getD:∀ {e:List Nat} {i:Nat},e.Nodup→i<e.length→posOf e (e.getD i 0)=some i
 | [],i,_,hi=>absurd hi (by simp)
 | a::e,0,_,_=>by simp [posOf]
 | a::e,i+1,hn,hi=>by
  have hi':i<e.length:=by simpa using hi
  have hmem:e.getD i 0∈e:=by rw [List.getD_eq_getElem?_getD,List.getElem?_eq_getElem hi']; exact List.getElem_mem hi'
  have hne:a≠e.getD i 0:=fun h=>(List.nodup_cons.1 hn).1 (h ▸ hmem)
  rw [List.getD_cons_succ]
  unfold posOf
  rw [if_neg hne,posOf_getD (List.nodup_cons.1 hn).2 hi']
  rfl
theorem ObjStep.lift {V1 V1' V V':View} {σ σ':Nat→Nat} {i j:Nat} (h:ObjStep V1 V1' i) (hw:V.w=V1.w) (hw':V'.w=V1'.w) (hρ:V.ρ j=V1.ρ i) (hρ':V'.ρ j=V1'.ρ i)
 (hH:V.H[j]? = (V1.H[i]?).map (AObj.ren σ)) (hH':V'.H[j]? = (V1'.H[i]?).map (AObj.ren σ')):ObjStep V V' j:=by
 unfold ObjStep at *
 rw [hH,hH']
 cases h1:V1.H[i]? with
 | none=>simp [h1] at h
 | some o =>
  cases h2:V1'.H[i]? with
  | none=>rw [h1,h2] at h; cases o<;>exact h.elim
  | some o' =>
   rw [h1,h2] at h
   cases o<;>cases o'<;>simp only [Option.map_some,AObj.ren] at h⊢<;> first
    | exact h.elim
    | trivial
    | (rw [hρ,hρ']; exact h)
    | (rw [hρ,hρ',hw,hw']; exact h)
theorem frame {G:Nat→Option (List AV)} {V V1':View} {e:List Nat} {Hs:List AObj} (hG:HeapRep G V) (hnd:e.Nodup) (hlt:∀ a∈e,a<V.H.length) (hlen:Hs.length=e.length)
 (hobj:∀ (i:Nat) (o:AObj),Hs[i]? = some o→V.H[e.getD i 0]? = some (o.ren fun i=>e.getD i 0))
 (hs:Step { w:=V.w,M:=V.M,H:=Hs,ρ:=fun i=>V.ρ (e.getD i 0) } V1') (hG1:HeapRep G V1') :
 ∃ V',V'.w=V1'.w∧V'.M=V1'.M∧V'.H=backHeap e V.H V1'.H∧Step V V'∧HeapRep G V'∧Lk V1' V' (upto e V.H.length):=by
 have hle:e.length≤V1'.H.length:=by have:=hs.hlen; simp only [hlen] at this; exact this
 have hmem:∀ i,i<e.length→e.getD i 0∈e:=fun i hi=>by rw [List.getD_eq_getElem?_getD,List.getElem?_eq_getElem hi]; exact List.getElem_mem hi
 let ρ':Nat→Nat:=fun id=>if id<V.H.length then (match posOf e id with | some i=>V1'.ρ i | none=>V.ρ id) else V1'.ρ (e.length+(id - V.H.length))
 let V':View:={ w:=V1'.w,M:=V1'.M,H:=backHeap e V.H V1'.H,ρ:=ρ' }
 have ρe:∀ i,i<e.length→ρ' (e.getD i 0)=V1'.ρ i:=fun i hi=>by
  show (if _ then _ else _)=_
  rw [if_pos (hlt _ (hmem i hi)),posOf_getD hnd hi]
 have ρo:∀ id,id<V.H.length→id∉e→ρ' id=V.ρ id:=fun id hid hn=>by
  show (if _ then _ else _)=_
  rw [if_pos hid]
  cases hp:posOf e id with
  | none=>rfl
  | some i=>obtain ⟨h1,h2⟩:=posOf_some hp; exact absurd (h2 ▸ hmem i h1) hn
 have ρn:∀ k,ρ' (V.H.length+k)=V1'.ρ (e.length+k):=fun k=>by
  show (if _ then _ else _)=_
  rw [if_neg (by omega)]; congr 2; omega
 have hlenH:(backHeap e V.H V1'.H).length=V.H.length+(V1'.H.length - e.length):=by simp [backHeap,putBack_length]
 have He:∀ i o,i<e.length→V1'.H[i]? = some o→V'.H[e.getD i 0]? = some (o.ren (upto e V.H.length)):=fun i o hi ho=>by
  show (backHeap e V.H V1'.H)[_]? = _
  unfold backHeap
  rw [List.getElem?_append_left (by rw [putBack_length]; exact hlt _ (hmem i hi))]
  exact putBack_same _ e V1'.H V.H hnd hlt hle i o hi ho
 have Ho:∀ id,id<V.H.length→id∉e→V'.H[id]? = V.H[id]? := fun id hid hn=>by
  show (backHeap e V.H V1'.H)[_]? = _
  unfold backHeap
  rw [List.getElem?_append_left (by rw [putBack_length]; exact hid)]
  exact putBack_other _ e V1'.H V.H id hn
 have Hn:∀ k,V'.H[V.H.length+k]? = (V1'.H[e.length+k]?).map (AObj.ren (upto e V.H.length)):=fun k=>by
  show (backHeap e V.H V1'.H)[_]? = _
  unfold backHeap
  rw [List.getElem?_append_right (by rw [putBack_length]; omega),putBack_length,List.getElem?_map,List.getElem?_drop]
  congr 2; omega
 have split:∀ id,id<V'.H.length→(∃ i,i<e.length∧id=e.getD i 0)∨(id<V.H.length∧id∉e)∨∃ k,id=V.H.length+k∧e.length+k<V1'.H.length:=fun id hid=>by
  have hid':id<V.H.length+(V1'.H.length - e.length):=by rw [← hlenH]; exact hid
  by_cases h1:id<V.H.length
  · cases hp:posOf e id with
    | none=>exact .inr (.inl ⟨h1,posOf_none hp⟩)
    | some i=>obtain ⟨h2,h3⟩:=posOf_some hp; exact .inl ⟨i,h2,h3.symm⟩
  · exact .inr (.inr ⟨id - V.H.length,by omega,by omega⟩)
 have fr1:∀ i,i<e.length→V1'.ρ i=V.ρ (e.getD i 0)∨V.w.heap.size≤V1'.ρ i:=fun i hi=>by
  rcases hs.fresh i (by omega) with ⟨_,h⟩ | h
  · exact .inl h
  · exact .inr h
 have fr2:∀ k,e.length+k<V1'.H.length→V.w.heap.size≤V1'.ρ (e.length+k):=fun k hk=>by
  rcases hs.fresh _ hk with ⟨h,_⟩ | h
  · simp only [hlen] at h; omega
  · exact h
 have old:∀ id,id<V.H.length→id∉e→∀ i,i<Hs.length→V.ρ (e.getD i 0)≠V.ρ id:=fun id hid hn i hi heq=>by
  have:=hG.inj _ _ (hlt _ (hmem i (by omega))) hid heq
  exact hn (this ▸ hmem i (by omega))
 have hk:Lk V1' V' (upto e V.H.length):={
  w:=rfl
  M:=fun _=>Iff.rfl
  ρ:=fun i hi=>by
   show ρ' (if i<e.length then _ else _)=_
   by_cases h:i<e.length
   · rw [if_pos h]; exact ρe i h
   · rw [if_neg h,ρn]; congr 1; omega
  obj:=fun i o ho=>by
   show V'.H[if i<e.length then _ else _]? = _
   by_cases h:i<e.length
   · rw [if_pos h]; exact He i o h ho
   · rw [if_neg h,Hn,show e.length+(i - e.length)=i by omega,ho]; rfl }
 have hst:Step V V':={
  os:=hs.os
  tape:=hs.tape
  output:=hs.output
  size:=hs.size
  drawn:=hs.drawn
  keep:=fun b hb hn=>hs.keep b hb fun i hi=>hn _ (hlt _ (hmem i (by simp only [hlen] at hi; exact hi)))
  data:=hs.data
  hlen:=by show _≤(backHeap e V.H V1'.H).length; rw [hlenH]; omega
  fresh:=fun id hid=>by
   rcases split id hid with ⟨i,hi,rfl⟩ | ⟨h1,h2⟩ | ⟨k,rfl,hk'⟩
   · show (_∧ρ' _=_)∨_≤ρ' _
     rw [ρe i hi]
     exact (fr1 i hi).imp (fun h=>⟨hlt _ (hmem i hi),h⟩) id
   · exact .inl ⟨h1,ρo id h1 h2⟩
   · right; show _≤ρ' _; rw [ρn]; exact fr2 k hk'
  obj:=fun id hid=>by
   by_cases hmem':id∈e
   · obtain ⟨i,hi,rfl⟩:∃ i,i<e.length∧id=e.getD i 0:=by
      cases hp:posOf e id with
      | none=>exact absurd hmem' (posOf_none hp)
      | some i=>obtain ⟨h2,h3⟩:=posOf_some hp; exact ⟨i,h2,h3.symm⟩
     refine (hs.obj i (by simp only [hlen]; exact hi)).lift (σ:=fun i=>e.getD i 0) (σ':=upto e V.H.length) rfl rfl rfl (ρe i hi) ?_ ?_
     · have hg:Hs[i]? = some (Hs[i]'(by omega)):=List.getElem?_eq_getElem _
       simp only [hg]; exact hobj i _ hg
     · have hg:V1'.H[i]? = some (V1'.H[i]'(by omega)):=List.getElem?_eq_getElem _
       rw [hg]; exact He i _ hi hg
   · exact .refl hid (Ho id hid hmem') (ρo id hid hmem') (hs.keep _ (hG.lt id hid) fun i hi=>old id hid hmem' i hi).1 }
 refine ⟨V',rfl,rfl,rfl,hst,?_,hk⟩
 exact {
  lt:=fun id hid=>by
   rcases split id hid with ⟨i,hi,rfl⟩ | ⟨h1,h2⟩ | ⟨k,rfl,hk'⟩
   · show ρ' _<_; rw [ρe i hi]; exact hG1.lt i (by omega)
   · show ρ' _<_; rw [ρo id h1 h2]; exact Nat.lt_of_lt_of_le (hG.lt id h1) hs.size
   · show ρ' _<_; rw [ρn]; exact hG1.lt _ hk'
  obj:=fun id o ho=>by
   rcases split id (List.getElem?_eq_some_iff.1 ho).1 with ⟨i,hi,rfl⟩ | ⟨h1,h2⟩ | ⟨k,rfl,hk'⟩
   · have hg:V1'.H[i]? = some (V1'.H[i]'(by omega)):=List.getElem?_eq_getElem _
     rw [He i _ hi hg] at ho
     injection ho with ho; subst ho
     show ObjRep V' (ρ' _) _
     rw [ρe i hi]
     exact (hG1.obj i _ hg).fwd hk
   · rw [Ho id h1 h2] at ho
     show ObjRep V' (ρ' _) _
     rw [ρo id h1 h2]
     exact (hG.obj id o ho).step hst (hs.keep _ (hG.lt id h1) fun i hi=>old id h1 h2 i hi).1
   · have hg:V1'.H[e.length+k]? = some V1'.H[e.length+k]:=List.getElem?_eq_getElem _
     rw [Hn,hg] at ho
     injection ho with ho; subst ho
     show ObjRep V' (ρ' _) _
     rw [ρn]
     exact (hG1.obj _ _ hg).fwd hk
  inj:=fun i j hi hj heq=>by
   have heq':ρ' i=ρ' j:=heq
   rcases split i hi with ⟨a,ha,rfl⟩ | ⟨h1,h2⟩ | ⟨a,rfl,ha⟩<;>rcases split j hj with ⟨b,hb,rfl⟩ | ⟨h3,h4⟩ | ⟨b,rfl,hb⟩
   · rw [ρe a ha,ρe b hb] at heq'
     rw [hG1.inj a b (by omega) (by omega) heq']
   · rw [ρe a ha,ρo j h3 h4] at heq'
     rcases fr1 a ha with h | h
     · rw [h] at heq'; exact absurd heq' (old j h3 h4 a (by omega))
     · have:=hG.lt j h3; omega
   · rw [ρe a ha,ρn] at heq'
     have:=hG1.inj a _ (by omega) hb heq'; omega
   · rw [ρe b hb,ρo i h1 h2] at heq'
     rcases fr1 b hb with h | h
     · rw [h] at heq'; exact absurd heq'.symm (old i h1 h2 b (by omega))
     · have:=hG.lt i h1; omega
   · rw [ρo i h1 h2,ρo j h3 h4] at heq'; exact hG.inj i j h1 h3 heq'
   · rw [ρo i h1 h2,ρn] at heq'; have:=hG.lt i h1; have:=fr2 b hb; omega
   · rw [ρn,ρe b hb] at heq'
     have:=hG1.inj _ b ha (by omega) heq'; omega
   · rw [ρn,ρo j h3 h4] at heq'; have:=hG.lt j h3; have:=fr2 a ha; omega
   · rw [ρn,ρn] at heq'
     have:=hG1.inj _ _ ha hb heq'; omega
  mutb:=fun id o ho hop=>by
   rcases split id (List.getElem?_eq_some_iff.1 ho).1 with ⟨i,hi,rfl⟩ | ⟨h1,h2⟩ | ⟨k,rfl,hk'⟩
   · have hg:V1'.H[i]? = some (V1'.H[i]'(by omega)):=List.getElem?_eq_getElem _
     rw [He i _ hi hg] at ho
     injection ho with ho; subst ho
     show V1'.M (ρ' _)
     rw [ρe i hi]
     exact hG1.mutb i _ hg (by rw [open_ren] at hop; exact hop)
   · rw [Ho id h1 h2] at ho
     show V1'.M (ρ' _)
     rw [ρo id h1 h2]
     exact ((hs.keep _ (hG.lt id h1) fun i hi=>old id h1 h2 i hi).2).2 (hG.mutb id o ho hop)
   · have hg:V1'.H[e.length+k]? = some V1'.H[e.length+k]:=List.getElem?_eq_getElem _
     rw [Hn,hg] at ho
     injection ho with ho; subst ho
     show V1'.M (ρ' _)
     rw [ρn]
     exact hG1.mutb _ _ hg (by rw [open_ren] at hop; exact hop)
  glob:=hG1.glob }
end Go.Am


namespace Go.Am
open Go
def calm {α:Type} (P:Program):Sem α→Option α
 | .pure a=>some a
 | .program k=>calm P (k P)
 | .mark _ k=>calm P k
 | _=>none
theorem calm_run {α:Type} {P:Program}:∀ {s:Sem α} {a:α},calm P s=some a→∀ w,s.run P w = .ok a w
 | .pure a,b,h,w=>by simp only [calm,Option.some.injEq] at h; subst h; rfl
 | .program k,b,h,w=>by simp only [calm] at h; exact calm_run (s:=k P) h w
 | .mark m k,b,h,w=>by simp only [calm] at h; exact calm_run (s:=k) h w
 | .load ..,_,h,_=>by simp [calm] at h
 | .store ..,_,h,_=>by simp [calm] at h
 | .new ..,_,h,_=>by simp [calm] at h
 | .shape ..,_,h,_=>by simp [calm] at h
 | .freeze ..,_,h,_=>by simp [calm] at h
 | .frozen ..,_,h,_=>by simp [calm] at h
 | .getObj ..,_,h,_=>by simp [calm] at h
 | .setObj ..,_,h,_=>by simp [calm] at h
 | .choose ..,_,h,_=>by simp [calm] at h
 | .sys ..,_,h,_=>by simp [calm] at h
 | .halt _,_,h,_=>by simp [calm] at h
inductive AOut where
 | ret (x:AV)
 | pan (x:AV)
inductive AEx where
 | normal
 | exit (id:Nat)
 | goto (l:Nat)
 | ret
 | pan (x:AV)
instance:Inhabited AEx:=⟨.normal⟩
inductive Orc where
 | br (b:Bool)
 | elem (x:List AV)
 | val (d:Option Nat) (x:AV)
 | hp (d:Option Nat) (x:AV) (H:List AObj)
 | emp
 | own
 | frz (z:List (List AV))
 | fz (d:Option Nat) (z:List (List AV))
 | call (e:List Nat) (out:AOut) (Hs':List AObj)
 | pure (zs:List (List (List AV))) (out:AV)
 | loop (dead:List Nat) (n:Nat) (ex:AEx) (env:List AV) (H:List AObj)
 | range (dead:List Nat) (n:Nat) (mark:Option Nat) (ex:AEx) (env:List AV) (H:List AObj)
 | at_ (p:Nat)
 | bytes (s:ByteArray)
 | av (x:AV)
 | dcall (out:AOut) (H:List AObj)
 | mget (x:AV) (ok:Bool)
 | mput (es:List (Value × AV))
 | ment (x:AV) (i:Nat) (es:List (Value × AV))
 | obj (o:AObj)
 | cmpb (s t:ByteArray)
 | callA (out:AOut) (H:List AObj)
instance:Inhabited Orc:=⟨.emp⟩
def Sub (x y:AV):Prop:=∀ (V:View) (v:Value),Rep V x v→Rep V y v
theorem Sub.refl (x:AV):Sub x x:=fun _ _ h=>h
theorem Sub.of_eq {x y:AV} (h:x=y):Sub x y:=h ▸ Sub.refl x
inductive Kind where
 | free | read | eff
 deriving DecidableEq
def AllP:List Prop→Prop
 | []=>True
 | p::ps=>p∧AllP ps
theorem allP_append {a b:List Prop}:AllP (a++b)↔AllP a∧AllP b:=by
 induction a with
 | nil=>simp [AllP]
 | cons p a ih=>simp [AllP,ih,and_assoc]
def toVals:List AV→Option (List Value)
 | []=>some []
 | .lit v::xs=>(toVals xs).map (v::·)
 | _::_=>none
def AV.toVal:AV→Option Value
 | .lit v=>some v
 | .ifc t (.lit v)=>some (.iface t v)
 | .agg cs=>(toVals cs).map fun vs=>.agg vs.toArray
 | _=>none
section
variable {V:View}
theorem rep_lit {v u:Value} (h:Rep V (.lit v) u):u=v:=by
 cases h with
 | pure _ _ h=>cases h; rfl
theorem rep_ptr {id off:Nat} {u:Value} (h:Rep V (.ptr id off) u):KindOk AObj.isBox V id∧u = .pointer (some ⟨V.ρ id,off,none⟩):=by
 cases h with
 | pure _ _ h=>cases h
 | ptr _ _ h=>exact ⟨h,rfl⟩
theorem rep_apt {id g k j:Nat} {u:Value} (h:Rep V (.apt id g k j) u):AptOk V id g k j u:=by
 cases h with
 | pure _ _ h=>cases h
 | apt _ _ _ _ _ h=>exact h
theorem rep_own {id g off len:Nat} {u:Value} (h:Rep V (.own id g off len) u):OwnOk V id g off len u:=by
 cases h with
 | pure _ _ h=>cases h
 | own _ _ _ _ _ h=>exact h
theorem rep_mp {id:Nat} {u:Value} (h:Rep V (.mp id) u):KindOk AObj.isMap V id∧u = .map (some (V.ρ id)):=by
 cases h with
 | pure _ _ h=>cases h
 | mp _ h=>exact ⟨h,rfl⟩
theorem rep_md {it:Bool} {es:List (Value × AV)} {u:Value} (h:Rep V (.md it es) u):PRep V.w V.M (.md it es) u:=by
 cases h with
 | pure _ _ h=>exact h
theorem rep_yl {id:Nat} {u:Value} (h:Rep V (.yl id) u):KindOk AObj.isRng V id∧u = .func (.yield (V.ρ id)) #[] #[]:=by
 cases h with
 | pure _ _ h=>cases h
 | yl _ h=>exact ⟨h,rfl⟩
theorem rep_imm {cs:List AV} {u:Value} (h:Rep V (.imm cs) u):PRep V.w V.M (.imm cs) u:=by
 cases h with
 | pure _ _ h=>exact h
theorem rep_sl {sz:Nat} {t:Bool} {xs:List (List AV)} {u:Value} (h:Rep V (.sl sz t xs) u):PRep V.w V.M (.sl sz t xs) u:=by
 cases h with
 | pure _ _ h=>exact h
theorem rep_agg {cs:List AV} {u:Value} (h:Rep V (.agg cs) u):∃ vs:List Value,u = .agg vs.toArray∧Reps V cs vs:=by
 cases h with
 | pure _ _ h=>cases h with | agg _ vs hl hr=>exact ⟨vs,rfl,hl,fun j hj=>.pure _ _ (hr j hj)⟩
 | agg _ vs hl hr=>exact ⟨vs,rfl,hl,hr⟩
theorem rep_tup {cs:List AV} {u:Value} (h:Rep V (.tup cs) u):∃ vs:List Value,u = .tuple vs.toArray∧Reps V cs vs:=by
 cases h with
 | pure _ _ h=>cases h with | tup _ vs hl hr=>exact ⟨vs,rfl,hl,fun j hj=>.pure _ _ (hr j hj)⟩
 | tup _ vs hl hr=>exact ⟨vs,rfl,hl,hr⟩
theorem rep_ifc {t:TypeId} {x:AV} {u:Value} (h:Rep V (.ifc t x) u):∃ v,u = .iface t v∧Rep V x v:=by
 cases h with
 | pure _ _ h=>cases h with | ifc _ _ v hr=>exact ⟨v,rfl,.pure _ _ hr⟩
 | ifc _ _ v hr=>exact ⟨v,rfl,hr⟩
theorem rep_fn {f:Fn} {aZ bs:List AV} {u:Value} (h:Rep V (.fn f aZ bs) u):∃ us vs:List Value,u = .func f us.toArray vs.toArray∧Reps V aZ us∧Reps V bs vs:=by
 cases h with
 | pure _ _ h=>cases h with | fn _ _ _ us vs hu hv ha hb=>exact ⟨us,vs,rfl,⟨hu,fun j hj=>.pure _ _ (ha j hj)⟩,hv,fun j hj=>.pure _ _ (hb j hj)⟩
 | fn _ _ _ us vs hu hv ha hb=>exact ⟨us,vs,rfl,⟨hu,ha⟩,hv,hb⟩
theorem reps_toVals:∀ {xs:List AV} {us vs:List Value},toVals xs=some us→Reps V xs vs→vs=us
 | [],us,vs,h,hr=>by
  simp only [toVals,Option.some.injEq] at h; subst h
  exact List.eq_nil_of_length_eq_zero hr.1
 | .lit v::xs,us,vs,h,hr=>by
  cases hx:toVals xs with
  | none=>simp [toVals,hx] at h
  | some us' =>
   simp [toVals,hx] at h; subst h
   match vs,hr with
   | [],hr=>have:=hr.1; simp at this
   | u::vs',hr =>
    have h0:Rep V (.lit v) u:=by simpa using hr.2 0 (by simp)
    have ht:vs'=us':=reps_toVals hx ⟨by simpa using hr.1,fun j hj=>by simpa using hr.2 (j+1) (by simpa using hj)⟩
    rw [rep_lit h0,ht]
 | .ptr .. :: _,us,vs,h,_ | .apt .. :: _,us,vs,h,_ | .imm .. :: _,us,vs,h,_ | .sl .. :: _,us,vs,h,_ | .own .. :: _,us,vs,h,_
 | .mp .. :: _,us,vs,h,_ | .md .. :: _,us,vs,h,_ | .yl .. :: _,us,vs,h,_ | .fn .. :: _,us,vs,h,_ | .ifc .. :: _,us,vs,h,_ | .agg .. :: _,us,vs,h,_ | .tup .. :: _,us,vs,h,_ | .dead::_,us,vs,h,_=>by simp [toVals] at h
theorem rep_toVal {x:AV} {u v:Value} (hx:x.toVal=some v) (h:Rep V x u):u=v:=by
 cases x<;>simp only [AV.toVal] at hx<;>first | (cases hx; done) | skip
 case lit w=>cases hx; exact rep_lit h
 case ifc t x =>
  obtain ⟨w,rfl,hw⟩:=rep_ifc h
  cases x<;>simp only at hx<;>first | (cases hx; done) | skip
  rw [rep_lit hw]
  exact Option.some.inj hx
 case agg cs =>
  obtain ⟨vs,rfl,hr⟩:=rep_agg h
  cases hc:toVals cs with
  | none=>simp [hc] at hx
  | some us=>simp [hc] at hx; rw [← hx,reps_toVals hc hr]
theorem Reps.nil:Reps V [] []:=⟨rfl,fun _ h=>absurd h (by simp)⟩
theorem Reps.cons {x:AV} {v:Value} {xs:List AV} {vs:List Value} (h:Rep V x v) (hs:Reps V xs vs):Reps V (x::xs) (v::vs) :=
 ⟨by simp [hs.1],fun j hj=>by cases j with | zero=>simpa using h | succ j=>simpa using hs.2 j (by simpa using hj)⟩
theorem Reps.head {x:AV} {v:Value} {xs:List AV} {vs:List Value} (h:Reps V (x::xs) (v::vs)):Rep V x v:=by simpa using h.2 0 (by simp)
theorem Reps.tail {x:AV} {v:Value} {xs:List AV} {vs:List Value} (h:Reps V (x::xs) (v::vs)):Reps V xs vs :=
 ⟨by simpa using h.1,fun j hj=>by simpa using h.2 (j+1) (by simpa using hj)⟩
theorem Reps.drop {xs:List AV} {vs:List Value} (h:Reps V xs vs) (n:Nat):Reps V (xs.drop n) (vs.drop n) :=
 ⟨by simp [h.1],fun j hj=>by
  have:=h.2 (n+j) (by simp at hj; omega)
  simpa [List.getD_eq_getElem?_getD,List.getElem?_drop] using this⟩
theorem Reps.take {xs:List AV} {vs:List Value} (h:Reps V xs vs) (n:Nat):Reps V (xs.take n) (vs.take n) :=
 ⟨by simp [h.1],fun j hj=>by
  rw [List.length_take] at hj
  have:=h.2 j (by omega)
  simpa [List.getD_eq_getElem?_getD,List.getElem?_take,show j<n by omega] using this⟩
theorem Reps.append {xs ys:List AV} {us vs:List Value} (h:Reps V xs us) (k:Reps V ys vs):Reps V (xs++ys) (us++vs) :=
 ⟨by simp [h.1,k.1],fun j hj=>by
  simp at hj
  by_cases hlt:j<xs.length
  · have:=h.2 j hlt
    simpa [List.getD_eq_getElem?_getD,List.getElem?_append,hlt,h.1] using this
  · have:=k.2 (j - xs.length) (by omega)
    simpa [List.getD_eq_getElem?_getD,List.getElem?_append,hlt,h.1] using this⟩
theorem Reps.set {xs:List AV} {vs:List Value} (h:Reps V xs vs) (n:Nat) {x:AV} {v:Value} (hx:Rep V x v):Reps V (xs.set n x) (vs.set n v) :=
 ⟨by simp [h.1],fun j hj=>by
  simp at hj
  by_cases e:n=j
  · subst e
    simpa [List.getD_eq_getElem?_getD,List.getElem?_set,hj,h.1] using hx
  · have:=h.2 j hj
    simpa [List.getD_eq_getElem?_getD,List.getElem?_set,e] using this⟩
theorem Reps.lits (vs:List Value):Reps V (vs.map .lit) vs :=
 ⟨by simp,fun j hj=>by
  simp at hj
  have:(vs.map AV.lit).getD j .dead = .lit (vs.getD j undef):=by simp [List.getD_eq_getElem?_getD,hj]
  rw [this]; exact .pure _ _ (.lit _)⟩
theorem Reps.prep {xs:List AV} {vs:List Value} (hl:vs.length=xs.length) (h:∀ j,j<xs.length→PRep V.w V.M (xs.getD j .dead) (vs.getD j undef)):Reps V xs vs:=⟨hl,fun j hj=>.pure _ _ (h j hj)⟩
end
def AV.cells:AV→Option (List AV)
 | .agg cs=>some cs
 | .lit (.agg vs)=>some (vs.toList.map .lit)
 | .lit (.tuple _) | .tup _ | .dead=>none
 | x=>some [x]
theorem rep_cells {V:View} {x:AV} {v:Value} {cs:List AV} (hc:x.cells=some cs) (h:Rep V x v):Reps V cs v.cells.toList:=by
 have one:∀ {x:AV} {v:Value},v.cells=#[v]→Rep V x v→Reps V [x] v.cells.toList:=fun e h=>by rw [e]; exact .cons h .nil
 cases x with
 | lit u =>
  have hu:=rep_lit h
  subst hu
  cases v<;>simp only [AV.cells,Option.some.injEq] at hc<;>first | (cases hc; done) | (subst hc; exact one rfl h) | (subst hc; exact Reps.lits _)
 | ptr id off=>cases hc; obtain ⟨_,rfl⟩:=rep_ptr h; exact one rfl h
 | apt id g k j =>
  cases hc
  have:=(rep_apt h).1
  exact one (by cases v<;>first | rfl | (simp [Value.oneCell'] at this)) h
 | own id g off len =>
  cases hc
  have:=(rep_own h).1
  exact one (by cases v<;>first | rfl | (simp [Value.oneCell'] at this)) h
 | imm cs=>cases hc; cases rep_imm h; exact one rfl h
 | sl sz t xs=>cases hc; cases rep_sl h; exact one rfl h
 | mp id=>cases hc; obtain ⟨_,rfl⟩:=rep_mp h; exact one rfl h
 | md it es=>cases hc; cases rep_md h; exact one rfl h
 | yl id=>cases hc; obtain ⟨_,rfl⟩:=rep_yl h; exact one rfl h
 | fn f aZ bs=>cases hc; obtain ⟨_,_,rfl,_⟩:=rep_fn h; exact one rfl h
 | ifc t y=>cases hc; obtain ⟨_,rfl,_⟩:=rep_ifc h; exact one rfl h
 | agg cs'=>cases hc; obtain ⟨vs,rfl,hr⟩:=rep_agg h; simpa [Value.cells] using hr
 | tup _=>cases hc
 | dead=>cases hc
end Go.Am


namespace Go.Am
open Go
def tAgg (P:Program) (t:TypeId):Option Bool :=
 match P.underlying t with
 | some (.struct _) | some (.array _ _)=>some true
 | some _=>some false
 | none=>none
def tSize (P:Program) (t:TypeId):Option Nat:=(P.info? t).map (·.size)
def loadA (P:Program) (t:TypeId) (rest:List AV):Option AV :=
 match tAgg P t,tSize P t with
 | some true,some n=>if n≤rest.length then some (.agg (rest.take n)) else none
 | some false,_=>match rest with
  | x::_=>some x
  | []=>none
 | _,_=>none
def CellsAt (V:View) (b o:Nat) (rest:List AV):Prop:=∃ vs:List Value,Reps V rest vs∧∀ j,j<rest.length→V.w.cell? ⟨b,o+j,none⟩=some (vs.getD j undef)
theorem CellsAt.drop {V:View} {b o:Nat} {rest:List AV} (h:CellsAt V b o rest) (n:Nat):CellsAt V b (o+n) (rest.drop n):=by
 obtain ⟨vs,h1,h2⟩:=h
 refine ⟨vs.drop n,h1.drop n,fun j hj=>?_⟩
 simp at hj
 have:=h2 (n+j) (by omega)
 rw [Nat.add_assoc,this]
 simp [List.getD_eq_getElem?_getD,List.getElem?_drop]
theorem run_isAgg {P:Program} {t:TypeId} {b:Bool} (h:tAgg P t=some b) (w:World):(isAgg t).run P w = .ok b w:=by
 unfold tAgg at h
 cases hu:P.underlying t with
 | none=>simp [hu] at h
 | some d =>
  rw [hu] at h
  cases d<;>simp only [Option.some.injEq] at h<;>subst h<;>simp [isAgg,run_underlying hu]
theorem run_size {P:Program} {t:TypeId} {n:Nat} (h:tSize P t=some n) (w:World):(sizeOf t).run P w = .ok n w:=by
 unfold tSize at h
 cases hi:P.info? t with
 | none=>simp [hi] at h
 | some i=>simp [hi] at h; simp [sizeOf,typeInfo,hi,h]
theorem loadA_sound {P:Program} {V:View} {t:TypeId} {rest:List AV} {x:AV} {b o:Nat} (hl:loadA P t rest=some x) (h:CellsAt V b o rest) :
 ∃ v,(loadVar t ⟨b,o,none⟩).run P V.w = .ok v V.w∧Rep V x v:=by
 obtain ⟨vs,h1,h2⟩:=h
 unfold loadA at hl
 cases ha:tAgg P t with
 | none=>simp [ha] at hl
 | some g =>
  cases g with
  | true =>
   cases hs:tSize P t with
   | none=>simp [ha,hs] at hl
   | some n =>
    simp only [ha,hs] at hl
    split at hl
    · rename_i hn
      cases hl
      refine ⟨.agg (vs.take n).toArray,?_,.agg _ _ ?_ ?_⟩
      · have hlen:(vs.take n).length=n:=by simp [h1.1]; omega
        have:=run_loadCells_list (P:=P) V.w ⟨b,o,none⟩ (vs.take n) (fun j v hj=>by
         have hj':j<n:=by
          have:=(List.getElem?_eq_some_iff.1 hj).1
          rw [hlen] at this; exact this
         have:=h2 j (by omega)
         rw [Addr.add_lit,this]
         rw [List.getElem?_take,if_pos hj'] at hj
         rw [List.getD_eq_getElem?_getD,hj]; rfl)
        rw [hlen] at this
        simp [loadVar,run_isAgg ha,run_size hs,this]
      · simp [h1.1]
      · intro j hj
        have:=(h1.take n).2 j hj
        exact this
    · cases hl
  | false =>
   simp only [ha] at hl
   match rest,vs,h1,hl with
   | y::rest,v::vs,h1,hl =>
    simp only [Option.some.injEq] at hl
    subst hl
    have hc:=h2 0 (by simp)
    simp only [Nat.add_zero,List.getD_cons_zero] at hc
    exact ⟨v,by simp [loadVar,run_isAgg ha,hc],h1.head⟩
   | [],_,_,hl=>simp at hl
   | _::_,[],h1,_=>have:=h1.1; simp at this
def fieldOf (P:Program) (t:TypeId) (f:Nat):Option Field :=
 match P.underlying t with
 | some (.struct fs)=>fs[f]?
 | _=>none
def fieldOff (P:Program) (t:TypeId) (f:Nat):Option Nat :=
 match fieldOf P t f with
 | some fd=>match tSize P fd.type with
  | some (_+1)=>some fd.offset
  | _=>none
 | none=>none
theorem run_fieldAt {P:Program} {t:TypeId} {f n:Nat} (h:fieldOff P t f=some n) (w:World) (b o:Nat) :
 (Instr.fieldAt t (.pointer (some ⟨b,o,none⟩)) f).run P w = .ok (.pointer (some ⟨b,o+n,none⟩)) w:=by
 unfold fieldOff fieldOf at h
 cases hu:P.underlying t with
 | none=>simp [hu] at h
 | some d =>
  cases d<;>simp only [hu] at h<;>try (cases h; done)
  rename_i fs
  cases hf:fs[f]? with
  | none=>simp [hf] at h
  | some fd =>
   rw [hf] at h
   cases hs:tSize P fd.type with
   | none=>simp [hs] at h
   | some m =>
    cases m with
    | zero=>simp [hs] at h
    | succ m =>
     simp only [hs,Option.some.injEq] at h
     subst h
     simp [Instr.fieldAt,run_underlying hu,hf,Instr.sureAddr,fieldPlace,run_size hs,Addr.add_lit]
theorem part_sound {P:Program} {V:View} {t:TypeId} {cs:List AV} {vs:List Value} {x:AV} {off:Nat} (hr:Reps V cs vs) (hl:loadA P t (cs.drop off)=some x) :
 ∃ v,(part t vs.toArray off).run P V.w = .ok v V.w∧Rep V x v:=by
 unfold loadA at hl
 cases ha:tAgg P t with
 | none=>simp [ha] at hl
 | some g =>
  cases g with
  | true =>
   cases hs:tSize P t with
   | none=>simp [ha,hs] at hl
   | some n =>
    simp only [ha,hs] at hl
    split at hl
    · rename_i hn
      cases hl
      have h2:=(hr.drop off).take n
      refine ⟨.agg ((vs.drop off).take n).toArray,?_,.agg _ _ h2.1 h2.2⟩
      simp [part,run_isAgg ha,run_size hs]
    · cases hl
  | false =>
   simp only [ha] at hl
   cases hd:cs.drop off with
   | nil=>simp [hd] at hl
   | cons y rest =>
    simp only [hd,Option.some.injEq] at hl
    subst hl
    have hlt:off<cs.length:=by
     rcases Nat.lt_or_ge off cs.length with h | h
     · exact h
     · rw [List.drop_of_length_le h] at hd; cases hd
    have hy:cs.getD off .dead=y:=by
     have:cs[off]? = some y:=by have:=List.getElem?_drop (xs:=cs) (i:=off) (j:=0); rw [hd] at this; simpa using this.symm
     rw [List.getD_eq_getElem?_getD,this]; rfl
    have hv:=hr.2 off hlt
    rw [hy] at hv
    have hlt':off<vs.length:=by rw [hr.1]; exact hlt
    refine ⟨vs.getD off undef,?_,hv⟩
    simp [part,run_isAgg ha,List.getElem?_eq_getElem hlt',List.getD_eq_getElem?_getD]
def splice {α:Type} (cells:List α) (off:Nat) (cs:List α):List α:=cells.take off++cs++cells.drop (off+cs.length)
def fillA (place:Nat→Option (Nat × Nat)) (cells:List AV):List (Nat × AV)→Option (List AV)
 | []=>some cells
 | (i,v)::rest =>
  match place i,v.cells with
  | some (off,size),some cs=>if cs.length=size∧off+cs.length≤cells.length then fillA place (splice cells off cs) rest else none
  | _,_=>none
theorem foldl_sets (off:Nat):∀ (vs:List Value) (n:Nat) (cells:Array Value),off+n+vs.length≤cells.size →
 ((vs.zipIdx n).foldl (fun (cs:Array Value) (x:Value × Nat)=>cs.setIfInBounds (off+x.2) x.1) cells).toList=splice cells.toList (off+n) vs
 | [],n,cells,_=>by simp [splice]
 | v::vs,n,cells,h=>by
  simp only [List.length_cons] at h
  rw [List.zipIdx_cons,List.foldl_cons,foldl_sets off vs (n+1) _ (by simp; omega)]
  simp only [Array.toList_setIfInBounds,splice]
  apply List.ext_getElem?
  intro k
  simp only [List.getElem?_append,List.length_append,List.length_take,List.length_set,Array.length_toList,List.getElem?_take,List.getElem?_drop,List.length_cons]
  have e1:min (off+(n+1)) cells.size=off+(n+1):=by omega
  have e2:min (off+n) cells.size=off+n:=by omega
  rw [e1,e2]
  by_cases h1:k<off+n
  · rw [if_pos (show k<off+(n+1)+vs.length by omega),if_pos (show k<off+(n+1) by omega),if_pos (show k<off+(n+1) by omega),
     if_pos (show k<off+n+(vs.length+1) by omega),if_pos h1,if_pos h1,List.getElem?_set_ne (by omega)]
  · by_cases h2:k=off+n
    · subst h2
      rw [if_pos (by omega),if_pos (by omega),if_pos (by omega),if_pos (by omega),if_neg (by omega)]
      rw [List.getElem?_set_self (by simp; omega)]
      simp
    · by_cases h3:k<off+(n+1)+vs.length
      · rw [if_pos h3,if_neg (by omega),if_pos (by omega),if_neg (by omega)]
        rw [show k - (off+n)=(k - (off+(n+1)))+1 by omega]
        simp
      · rw [if_neg h3,if_neg (by omega)]
        rw [List.getElem?_set_ne (by omega)]
        congr 1; omega
theorem Reps.splice {V:View} {xs:List AV} {vs:List Value} (h:Reps V xs vs) (off:Nat) {ys:List AV} {us:List Value} (k:Reps V ys us):Reps V (splice xs off ys) (splice vs off us):=by
 unfold Am.splice
 rw [k.1]
 exact ((h.take off).append k).append (h.drop _)
theorem fillA_sound {V:View} {place:Nat→Option (Nat × Nat)}:∀ {parts:List (Nat × AV)} {vparts:List (Nat × Value)} {cells out:List AV} {vs:List Value},fillA place cells parts=some out→Reps V cells vs →
 vparts.map (·.1)=parts.map (·.1)→Reps V (parts.map (·.2)) (vparts.map (·.2))→∃ us:List Value,Instr.fill place vs.toArray vparts=some us.toArray∧Reps V out us
 | [],vparts,cells,out,vs,h,hr,hi,_=>by
  simp only [fillA,Option.some.injEq] at h; subst h
  have:vparts=[]:=by simpa using hi
  subst this
  exact ⟨vs,rfl,hr⟩
 | (i,x)::parts,[],_,_,_,_,_,hi,_=>by simp at hi
 | (i,x)::parts,(i',v)::vparts,cells,out,vs,h,hr,hi,hp=>by
  simp only [List.map_cons,List.cons.injEq] at hi hp
  obtain ⟨rfl,hi⟩:=hi
  unfold fillA at h
  cases hpl:place i' with
  | none=>simp [hpl] at h
  | some os =>
   obtain ⟨off,size⟩:=os
   cases hc:x.cells with
   | none=>simp [hpl,hc] at h
   | some cs =>
    simp only [hpl,hc] at h
    split at h
    · rename_i hcond
      obtain ⟨h1,h2⟩:=hcond
      have hv:Reps V cs v.cells.toList:=rep_cells hc hp.head
      have hsz:v.cells.size=size:=by have:=hv.1; rw [← h1,← this]; simp
      have hfit:off+0+v.cells.toList.length≤vs.toArray.size:=by have:=hv.1; have:=hr.1; simp only [List.size_toArray]; omega
      have hfold:=foldl_sets off v.cells.toList 0 vs.toArray hfit
      simp only [Nat.add_zero] at hfold
      obtain ⟨us,hus,hout⟩:=fillA_sound (vparts:=vparts) h (hr.splice off hv) hi hp.tail
      refine ⟨us,?_,hout⟩
      unfold Instr.fill
      rw [hpl]
      have hnot:¬ ((decide (v.cells.size≠size) || decide (off+v.cells.size > vs.toArray.size))=true):=by
       have:=hv.1; have:=hr.1
       simp only [Array.length_toList] at *
       simp; omega
      simp only
      rw [if_neg hnot]
      have hz:v.cells.zipIdx.foldl (fun (cs:Array Value) (x:Value × Nat)=>cs.setIfInBounds (off+x.2) x.1) vs.toArray=(Am.splice vs off v.cells.toList).toArray:=by
       apply Array.ext'
       rw [← hfold,← Array.foldl_toList,Array.toList_zipIdx]
      rw [hz]
      exact hus
    · cases h
end Go.Am


namespace Go.Am
open Go
inductive EqK where
 | b | i | s
def litEq:EqK→Value→Value→Option Bool
 | .i,.int k a,.int k' b=>if k=k' then some (a == b) else none
 | .b,.bool a,.bool b=>some (a == b)
 | .s,.string a,.string b=>some (a == b)
 | _,_,_=>none
def eqAll:List EqK→List Value→List Value→Option Bool
 | [],[],[]=>some true
 | [k],[a],[b]=>litEq k a b
 | k::ks,a::aZ,b::bs=>match litEq k a b,eqAll ks aZ bs with
  | some x,some y=>some (x && y)
  | _,_=>none
 | _,_,_=>none
def plainF (rec:TypeId→Option (List EqK)):List Field→Nat→Option (List EqK)
 | [],_=>some []
 | f::fs,o=>if f.name ≠ "_" ∧f.offset=o then (match rec f.type with
  | some ks=>(plainF rec fs (o+ks.length)).map (ks++·)
  | none=>none) else none
def plainEq (P:Program):Nat→TypeId→Option (List EqK)
 | 0,_=>none
 | d+1,t =>
  match P.underlying t with
  | some .bool=>some [.b]
  | some (.int _)=>some [.i]
  | some .string=>some [.s]
  | some (.struct fs)=>if P.stoodInHeld t=false then (match plainF (plainEq P d) fs.toList 0,tSize P t with
   | some ks,some m=>if ks.length=m then some ks else none
   | _,_=>none) else none
  | _=>none
def wrapV (P:Program) (t:TypeId) (xs:List Value):Value:=if tAgg P t=some true then .agg xs.toArray else xs.headD undef
theorem eqAll_cons (k:EqK) (ks:List EqK) (a c:Value) (aZ bs:List Value) (b:Bool):eqAll (k::ks) (a::aZ) (c::bs)=some b↔∃ x y,litEq k a c=some x∧eqAll ks aZ bs=some y∧b=(x && y):=by
 constructor
 · intro h
   match ks,aZ,bs,h with
   | [],[],[],h=>exact ⟨b,true,h,rfl,by simp⟩
   | [],[],_::_,h=>simp only [eqAll] at h; cases hl:litEq k a c<;>simp [hl] at h
   | [],_::_,_,h=>simp only [eqAll] at h; cases hl:litEq k a c<;>simp [hl] at h
   | k'::ks,aZ,bs,h =>
    simp only [eqAll] at h
    cases hl:litEq k a c with
    | none=>simp [hl] at h
    | some x =>
     cases hr:eqAll (k'::ks) aZ bs with
     | none=>simp [hl,hr] at h
     | some y=>simp [hl,hr] at h; exact ⟨x,y,rfl,rfl,h.symm⟩
 · rintro ⟨x,y,h1,h2,rfl⟩
   match ks,aZ,bs,h2 with
   | [],[],[],h2=>simp [eqAll] at h2; subst h2; simpa [eqAll] using h1
   | [],[],_::_,h2=>simp [eqAll] at h2
   | [],_::_,_,h2=>simp [eqAll] at h2
   | k'::ks,aZ,bs,h2=>simp [eqAll,h1,h2]
theorem eqAll_len:∀ {ks:List EqK} {xs ys:List Value} {b:Bool},eqAll ks xs ys=some b→xs.length=ks.length∧ys.length=ks.length
 | [],[],[],_,_=>⟨rfl,rfl⟩
 | k::ks,a::aZ,c::bs,b,h=>by
  obtain ⟨x,y,_,h2,_⟩:=(eqAll_cons ..).1 h
  obtain ⟨h3,h4⟩:=eqAll_len h2
  simp [h3,h4]
 | [],[],_::_,_,h=>by simp [eqAll] at h
 | [],_::_,_,_,h=>by simp [eqAll] at h
 | _::_,[],_,_,h=>by simp [eqAll] at h
 | _::_,_::_,[],_,h=>by simp [eqAll] at h
theorem eqAll_append:∀ {ks js:List EqK} {aZ bs cs ds:List Value} {b:Bool},aZ.length=ks.length→bs.length=ks.length→eqAll (ks++js) (aZ++cs) (bs++ds)=some b→∃ x y,eqAll ks aZ bs=some x∧eqAll js cs ds=some y∧b=(x && y)
 | [],js,[],[],cs,ds,b,_,_,h=>⟨true,b,rfl,h,by simp⟩
 | k::ks,js,a::aZ,c::bs,cs,ds,b,hl,hl',h=>by
  simp only [List.cons_append] at h
  obtain ⟨x1,y1,h1,h2,rfl⟩:=(eqAll_cons ..).1 h
  obtain ⟨x,y,hx,hy,rfl⟩:=eqAll_append (by simpa using hl) (by simpa using hl') h2
  exact ⟨x1 && x,y,(eqAll_cons ..).2 ⟨x1,x,h1,hx,rfl⟩,hy,by rw [Bool.and_assoc]⟩
 | [],_,_::_,_,_,_,_,h,_,_=>by simp at h
 | [],_,[],_::_,_,_,_,_,h,_=>by simp at h
 | _::_,_,[],_,_,_,_,h,_,_=>by simp at h
 | _::_,_,_::_,[],_,_,_,_,h,_=>by simp at h
theorem part_wrap {P:Program} {t:TypeId} {n:Nat} {g:Bool} (hg:tAgg P t=some g) (hs:g=true→tSize P t=some n) (h1:g=false→n=1) (vs:List Value) (off:Nat) (hfit:off+n≤vs.length) (w:World) :
 (part t vs.toArray off).run P w = .ok (wrapV P t ((vs.drop off).take n)) w:=by
 cases g with
 | true=>simp [part,run_isAgg hg,run_size (hs rfl),wrapV,hg]
 | false =>
  have:=h1 rfl; subst this
  have hlt:off<vs.length:=by omega
  simp [part,run_isAgg hg,wrapV,hg,List.getElem?_eq_getElem hlt]
  rw [List.drop_eq_getElem_cons hlt]; rfl
theorem plainEq_agg {P:Program} {d:Nat} {t:TypeId} {ks:List EqK} (h:plainEq P d t=some ks):∃ g,tAgg P t=some g∧(g=true→tSize P t=some ks.length)∧(g=false→ks.length=1):=by
 cases d with
 | zero=>simp [plainEq] at h
 | succ d =>
  unfold plainEq at h
  unfold tAgg
  cases hu:P.underlying t with
  | none=>simp [hu] at h
  | some ds =>
   cases ds<;>simp only [hu] at h<;>try (cases h; done)
   case bool=>cases h; exact ⟨false,rfl,by simp,fun _=>rfl⟩
   case int=>cases h; exact ⟨false,rfl,by simp,fun _=>rfl⟩
   case string=>cases h; exact ⟨false,rfl,by simp,fun _=>rfl⟩
   case struct fs =>
    split at h
    · cases hp:plainF (plainEq P d) fs.toList 0 with
      | none=>simp [hp] at h
      | some m =>
       cases hs:tSize P t with
       | none=>simp [hp,hs] at h
       | some k =>
        simp only [hp,hs] at h
        split at h
        · rename_i e; cases h; exact ⟨true,rfl,fun _=>by rw [e],by simp⟩
        · cases h
    · cases h
theorem plain_sound {P:Program}:∀ (d:Nat) {t:TypeId} {ks:List EqK},plainEq P d t=some ks→∀ {xs ys:List Value} {b:Bool},eqAll ks xs ys=some b→∀ w:World,
 (Op.equalIn d t (wrapV P t xs) (wrapV P t ys)).run P w = .ok b w
 | 0,t,ks,h,_,_,_,_,_=>by simp [plainEq] at h
 | d+1,t,ks,h,xs,ys,b,he,w=>by
  obtain ⟨hx,hy⟩:=eqAll_len he
  unfold plainEq at h
  cases hu:P.underlying t with
  | none=>simp [hu] at h
  | some ds =>
   have one:∀ (hna:tAgg P t=some false) (k:EqK) (hn:ks=[k]),∃ x y,wrapV P t xs=x∧wrapV P t ys=y∧litEq k x y=some b:=by
    intro hna k hn
    subst hn
    match xs,ys,hx,hy,he with
    | [x],[y],_,_,he=>exact ⟨x,y,by simp [wrapV,hna],by simp [wrapV,hna],he⟩
   cases ds<;>simp only [hu] at h<;>try (cases h; done)
   case bool =>
    cases h
    obtain ⟨x,y,h1,h2,h3⟩:=one (by simp [tAgg,hu]) _ rfl
    rw [h1,h2]
    cases x<;>cases y<;>simp only [litEq] at h3<;>first | (cases h3; done) | skip
    cases h3
    simp [Op.equalIn,run_underlying hu]
   case int kd =>
    cases h
    obtain ⟨x,y,h1,h2,h3⟩:=one (by simp [tAgg,hu]) _ rfl
    rw [h1,h2]
    cases x<;>cases y<;>simp only [litEq] at h3<;>first | (cases h3; done) | skip
    split at h3
    · rename_i e; cases h3; subst e; simp [Op.equalIn,run_underlying hu]
    · cases h3
   case string =>
    cases h
    obtain ⟨x,y,h1,h2,h3⟩:=one (by simp [tAgg,hu]) _ rfl
    rw [h1,h2]
    cases x<;>cases y<;>simp only [litEq] at h3<;>first | (cases h3; done) | skip
    cases h3
    simp [Op.equalIn,run_underlying hu]
   case struct fs =>
    split at h
    · rename_i hst
      cases hp:plainF (plainEq P d) fs.toList 0 with
      | none=>simp [hp] at h
      | some ks' =>
       cases hs:tSize P t with
       | none=>simp [hp,hs] at h
       | some k =>
        simp only [hp,hs] at h
        split at h
        · rename_i e
          cases h
          have hta:tAgg P t=some true:=by simp [tAgg,hu]
          have hfo:P.fieldsOf t=fs:=by simp [Program.fieldsOf,hu]
          simp only [wrapV,hta,if_true]
          rw [run_equalIn_struct w d t _ _ (by rw [hfo]; exact hu) hst,hfo]
          have key:∀ (fl:List Field) (o:Nat) (js:List EqK) (b':Bool),plainF (plainEq P d) fl o=some js→o+js.length=xs.length→o+js.length=ys.length→eqAll js (xs.drop o) (ys.drop o)=some b' →
           (Op.eqFields d xs.toArray ys.toArray fl).run P w = .ok b' w:=by
           intro fl
           induction fl with
           | nil =>
            intro o js b' h1 hx1 hy1 h2
            simp [plainF] at h1
            subst h1
            simp at hx1 hy1
            rw [List.drop_of_length_le (by omega),List.drop_of_length_le (by omega)] at h2
            simp [eqAll] at h2; subst h2
            simp [Op.eqFields]
           | cons f fl ih =>
            intro o js b' h1 hx1 hy1 h2
            unfold plainF at h1
            split at h1
            · rename_i hf
              obtain ⟨hname,hoff⟩:=hf
              cases hpe:plainEq P d f.type with
              | none=>simp [hpe] at h1
              | some q =>
               simp only [hpe] at h1
               cases hpf:plainF (plainEq P d) fl (o+q.length) with
               | none=>simp [hpf] at h1
               | some js' =>
                simp [hpf] at h1
                subst h1
                simp only [List.length_append] at hx1 hy1
                obtain ⟨g,hg1,hg2,hg3⟩:=plainEq_agg hpe
                have e1:xs.drop o=(xs.drop o).take q.length++xs.drop (o+q.length):=by rw [← List.drop_drop]; exact (List.take_append_drop _ _).symm
                have e2:ys.drop o=(ys.drop o).take q.length++ys.drop (o+q.length):=by rw [← List.drop_drop]; exact (List.take_append_drop _ _).symm
                rw [e1,e2] at h2
                obtain ⟨x,y,hx',hy',rfl⟩:=eqAll_append (by simp; omega) (by simp; omega) h2
                have r1:=part_wrap hg1 hg2 hg3 xs o (by omega) w
                have r2:=part_wrap hg1 hg2 hg3 ys o (by omega) w
                have r3:=plain_sound d hpe hx' w
                subst hoff
                unfold Op.eqFields
                rw [if_pos hname]
                simp only [Sem.run_bind,r1,r2,r3,Result.andThen_ok]
                cases x with
                | false=>simp
                | true=>simpa using ih _ _ _ hpf (by omega) (by omega) hy'
            · cases h1
          exact key fs.toList 0 ks b hp (by omega) (by omega) (by simpa using he)
        · cases h
    · cases h
end Go.Am
