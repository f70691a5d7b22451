import Derived.Test.YtihbnnkcemjflaaGreatDoorG7
import Derived.ChangeSame
import Derived.ChangeStays
import Derived.Deep.Slices
import Derived.RowKit3
import Derived.Deep.DeepHandedRow
set_option maxRecDepth 100000
set_option linter.unusedSimpArgs false
set_option linter.unusedVariables false

namespace Go.Am
open Go Go.ChangeShapes Go.WideShapes Go.RowKit
structure Kept (W W':World):Prop where
 os:W'.os=W.os
 output:W'.output=W.output
 same:∀ b,b<W.heap.size→W'.heap[b]? = W.heap[b]?
theorem Kept.keptBut {W W':World} (h:Kept W W') (may:MemPlace→Prop):W.keptBut W' may :=
 ⟨h.os,h.output,fun i hi=>by
  have hr:=(World.keptBut_refl W may).2.2 i hi
  have e:=h.same i hi
  generalize W'.heap[i]? = y at e ⊢
  subst e
  exact hr⟩
def view0 (W:World):View:={ w:=W,M:=fun _=>False,H:=[],ρ:=id }
theorem law_calls {P:Program} {G:Nat→Option (List AV)} {f:FuncId} {xs:List AV} {args:Array Value} {W:World} (hc:CallC P G f xs [] (.ret (bool true)) []) (hG:∀ g cs,G g=some cs→PRep W (fun _=>False) (.imm cs) (.pointer (some ⟨g,0,none⟩)))
 (hx:Reps (view0 W) xs args.toList):Calls P f args W fun e W'=>e = .returned (.bool true)∧Kept W W':=by
 have h0:HeapRep G (view0 W):=⟨fun _ h=>absurd h (by simp [view0]),fun _ _ h=>by simp [view0] at h,fun _ _ h=>absurd h (by simp [view0]),fun _ _ h=>by simp [view0] at h,hG⟩
 have h:=hc (view0 W) args.toList rfl h0 hx
 have ea:args.toList.toArray=args:=by simp
 rw [ea] at h
 exact (h.calls room_wide).mono fun e w' he=>by
  obtain ⟨V',rfl,k2,k3,k4,k5⟩:=he
  refine ⟨?_,k2.os,k2.output,fun b hb=>(k2.data b hb fun h=>h.elim).1⟩
  cases e with
  | returned v=>rw [rep_lit k5]
  | panicked _=>exact k5.elim
  | outgrown=>exact k5.elim
section
variable {H:Type} {enc:TypeId × Value→H} {P:Program}
theorem trodAll_stays {T:TypeId→Prop} {W W':World} {sp:Nat→Bool} (K:Kids P T) (hsz:∀ {t e:TypeId},T t→P.underlying t=some (.slice e)→0<P.cellsOf e):∀ {ts:List TypeId} {vs:List Value} {ds:List (DataW H)} {ps:List MemPlace},
 (∀ t∈ts,T t)→DataW.TrodAll enc P W 0 (fun _=>true) true ts vs ds ps→(∀ p∈ps,W.sameAt W' p)→(∀ p∈ps,sp p.block=true)→DataW.TrodAll enc P W' 0 sp true ts vs ds ps
 | [],[],[],_,_,h,_,_=>h
 | t::_,_::_,_::_,_,hT,⟨p,q,⟨n,h1⟩,h2,e⟩,hs,hp=>⟨p,q,⟨n,DataW.trod_stays K hsz (fun h=>by cases h) (hT t (by simp)) h1 (fun x hx=>hs x (by rw [e]; exact List.mem_append_left _ hx)) (fun x hx=>hp x (by rw [e]; exact List.mem_append_left _ hx))⟩,
  trodAll_stays K hsz (fun t ht=>hT t (List.mem_cons_of_mem _ ht)) h2 (fun x hx=>hs x (by rw [e]; exact List.mem_append_right _ hx)) (fun x hx=>hp x (by rw [e]; exact List.mem_append_right _ hx)),e⟩
theorem law_post {fn:Func} {s:ChangeSpec} {W W':World} {args:Array Value} {ds gs:List (DataW H)} {before:List MemPlace} {tb:TypeId} (hl:laidOutB P=true) (hm:mapsRowed P=true)
 (hz:∀ t e,t<P.types.size→P.underlying t=some (.slice e)→0<P.cellsOf e) (hv:s.vars=[]) (hs:s.fn H ds={ results:=[.lit (.bool true)],args:=ds })
 (hts:∀ t∈fn.params.toList,t<P.types.size) (hr:fn.resultTypes=#[tb]) (hb:P.underlying tb=some .bool) (hW:DataW.Whole enc P fn.params.toList s.vars false W args.toList ds gs before) (hk:Kept W W') :
 s.post enc P fn false true false false W args (.bool true) W':=by
 have hlt:=hW.lt
 have hW':=hW
 obtain ⟨p,q,hA,hV,he,_,_⟩:=hW
 rw [hv] at hV
 obtain ⟨rfl,rfl⟩:gs=[]∧q=[]:=by
  cases gs with
  | nil=>exact ⟨rfl,hV⟩
  | cons _ _=>exact hV.elim
 rw [List.append_nil] at he
 subst he
 refine ⟨ds,[],before,[],before,[],hW',?_,?_,?_,hk.keptBut _,fun h=>by cases h⟩
 · rw [List.append_nil,hs,hr]
   exact trodAll_mk1 (shut_bool hb true)
 · rw [List.append_nil,hs]
   refine trodAll_stays (kids_rows hl hm) (fun {t e} h1 h2=>hz t e h1 h2) hts hA (fun x hx=>?_) (fun x hx=>by simpa using hlt x hx)
   have:=hk.same x.block (hlt x hx)
   cases x with
   | cell b off=>exact cell_of_heap this
   | map b=>exact this
 · rw [List.append_nil,hs,hv]
   rfl
end
structure Cod (P:Program) (t:TypeId) (α:Type) where
 enc:α→List AV
 good:α→Prop
 size:∀ a,(enc a).length=P.cellsOf t
 rd:∀ {H:Type} {e:TypeId × Value→H} {W:World} {base:Nat} {sp:Nat→Bool} {held:Bool} {n:Nat} {cs:List Value} {x:DataW H × List MemPlace},DataW.trod e P W base sp held n t cs=some x →
  ∃ a,good a∧cs.length=(enc a).length∧∀ j,j<cs.length→PRep W (fun _=>False) ((enc a).getD j .dead) (cs.getD j undef)∧(cs.getD j undef).oneCell'=true
theorem wf_i64 {n:Int} (h:(Lit.int .i64 n).wf=true) : -9223372036854775808≤n∧n<9223372036854775808:=by
 simp [Lit.wf,IntKind.min,IntKind.max,IntKind.signed,IntKind.bits] at h
 omega
def Cod.int {P:Program} {t:TypeId} (ht:P.underlying t=some (.int .i64)) (hc:P.cellsOf t=1):Cod P t Int where
 enc n:=[Am.int n]
 good n := -9223372036854775808≤n∧n<9223372036854775808
 size _:=hc.symm
 rd h:=by
  obtain ⟨n,rfl,_,hw⟩:=DataW.trod_int ht h
  refine ⟨n,wf_i64 hw,rfl,fun j hj=>?_⟩
  match j,hj with
  | 0,_=>exact ⟨.lit _,rfl⟩
def Cod.bool {P:Program} {t:TypeId} (ht:P.underlying t=some .bool) (hc:P.cellsOf t=1):Cod P t Bool where
 enc b:=[Am.bool b]
 good _:=True
 size _:=hc.symm
 rd h:=by
  obtain ⟨b,rfl,_⟩:=DataW.trod_bool ht h
  refine ⟨b,trivial,rfl,fun j hj=>?_⟩
  match j,hj with
  | 0,_=>exact ⟨.lit _,rfl⟩
def Cod.str {P:Program} {t:TypeId} (ht:P.underlying t=some .string) (hc:P.cellsOf t=1):Cod P t ByteArray where
 enc s:=[Am.str s]
 good s:=s.size≤maxLen
 size _:=hc.symm
 rd h:=by
  obtain ⟨s,rfl,_,hs⟩:=DataW.trod_string ht h
  refine ⟨s,hs,rfl,fun j hj=>?_⟩
  match j,hj with
  | 0,_=>exact ⟨.lit _,rfl⟩
structure FCod (P:Program) (o:Nat) (fs:List Field) (α:Type) where
 enc:α→List AV
 good:α→Prop
 rd:∀ {H:Type} {e:TypeId × Value→H} {W:World} {base:Nat} {sp:Nat→Bool} {held:Bool} {n:Nat} {cs:List Value},cs.length=o+(fs.map fun f=>P.cellsOf f.type).sum →
  (∀ (i:Nat) (f:Field),fs[i]? = some f→∃ y,DataW.trod e P W base sp held n f.type ((cs.drop f.offset).take (P.cellsOf f.type))=some y) →
  ∃ a,good a∧cs.length=o+(enc a).length∧∀ j,j<(enc a).length→PRep W (fun _=>False) ((enc a).getD j .dead) (cs.getD (o+j) undef)∧(cs.getD (o+j) undef).oneCell'=true
def FCod.nil {P:Program} {o:Nat}:FCod P o [] Unit where
 enc _:=[]
 good _:=True
 rd h _:=⟨(),trivial,by simpa using h,fun j hj=>absurd hj (by simp)⟩
def FCod.cons {P:Program} {o:Nat} {f:Field} {fs:List Field} {α β:Type} (c:Cod P f.type α) (ho:f.offset=o) (r:FCod P (o+P.cellsOf f.type) fs β):FCod P o (f::fs) (α × β) where
 enc a:=c.enc a.1++r.enc a.2
 good a:=c.good a.1∧r.good a.2
 rd {H e W base sp held n cs} hlen h:=by
  obtain ⟨y,hy⟩:=h 0 f rfl
  obtain ⟨a,g1,l1,p1⟩:=c.rd hy
  obtain ⟨b,g2,l2,p2⟩:=r.rd (cs:=cs) (by rw [hlen]; simp; omega) fun i f' hf=>h (i+1) f' hf
  have hsz:=c.size a
  simp only [List.map_cons,List.sum_cons] at hlen
  refine ⟨(a,b),⟨g1,g2⟩,?_,fun j hj=>?_⟩
  · show cs.length=o+(c.enc a++r.enc b).length
    rw [List.length_append]; omega
  have hj:j<(c.enc a).length+(r.enc b).length:=by
   have:j<(c.enc a++r.enc b).length:=hj
   rwa [List.length_append] at this
  have hl1:((cs.drop f.offset).take (P.cellsOf f.type)).length=P.cellsOf f.type:=by rw [l1,hsz]
  by_cases hlt:j<(c.enc a).length
  · have:=p1 j (by rw [hl1,← hsz]; exact hlt)
    have e1:((cs.drop f.offset).take (P.cellsOf f.type)).getD j undef=cs.getD (o+j) undef:=by
     rw [hsz] at hlt
     simp [List.getD_eq_getElem?_getD,hlt,ho]
    have e2:(c.enc a++r.enc b).getD j .dead=(c.enc a).getD j .dead:=by simp [List.getD_eq_getElem?_getD,List.getElem?_append_left hlt]
    rw [e1] at this
    rw [e2]; exact this
  · have:=p2 (j - (c.enc a).length) (by omega)
    have e1:o+P.cellsOf f.type+(j - (c.enc a).length)=o+j:=by rw [← hsz]; omega
    have e2:(c.enc a++r.enc b).getD j .dead=(r.enc b).getD (j - (c.enc a).length) .dead:=by simp [List.getD_eq_getElem?_getD,List.getElem?_append_right (show (c.enc a).length≤j by omega)]
    rw [e1] at this
    rw [e2]; exact this
def Cod.struct {P:Program} {t:TypeId} {fs:Array Field} {α β:Type} (ht:P.underlying t=some (.struct fs)) (hc:P.cellsOf t=(fs.toList.map fun f=>P.cellsOf f.type).sum) (c:FCod P 0 fs.toList α) (g:α→β) (enc:β→List AV) (hg:∀ a,enc (g a)=c.enc a)
 (hsz:∀ b,(enc b).length=P.cellsOf t):Cod P t β where
 enc:=enc
 good b:=∃ a,g a=b∧c.good a
 size:=hsz
 rd {H e W base sp held n cs x} h:=by
  obtain ⟨xs,m,_,_,hl,hxl,hf⟩:=DataW.trod_struct ht h
  obtain ⟨a,g1,l1,p1⟩:=c.rd (e:=e) (W:=W) (base:=base) (sp:=sp) (held:=held) (n:=m) (cs:=cs) (by rw [hl,hc]; omega) fun i f hfi=>by
   have hfi':fs[i]? = some f:=by simpa using hfi
   have hlt:i<xs.length:=by rw [hxl]; exact (Array.getElem?_eq_some_iff.1 hfi').1
   exact ⟨xs[i],by rw [hf i f hfi',List.getElem?_eq_getElem hlt]⟩
  refine ⟨g a,⟨a,rfl,g1⟩,by rw [hg]; omega,fun j hj=>?_⟩
  rw [hg]
  have:=p1 j (by omega)
  rwa [Nat.zero_add] at this
def Cod.slice {P:Program} {t e:TypeId} {α:Type} (ht:P.underlying t=some (.slice e)) (hc:P.cellsOf t=1) (hpos:0<P.cellsOf e) (c:Cod P e α):Cod P t (List α) where
 enc l:=[.sl (P.cellsOf e) false (l.map c.enc)]
 good l:=l.length≤maxLen∧∀ a∈l,c.good a
 size _:=hc.symm
 rd {H en W base sp held n cs x} h:=by
  have nl:∀ (A:Option Addr) (cap:Nat),PRep W (fun _=>False) (.sl (P.cellsOf e) false []) (.slice A 0 cap):=fun A cap =>
   .sl _ false [] A cap 0 0 (fun _ _=>undef) (fun h=>absurd rfl h) (fun h=>absurd rfl h) (Nat.zero_le _) (fun h=>by cases h) (by simp) (fun k j hk=>absurd hk (by simp)) (fun k j hk=>absurd hk (by simp)) (fun k j hk=>absurd hk (by simp))
  rcases Go.Deep.open_slice ht h with ⟨rfl,_⟩ | ⟨a,len,cap,m,n',D,Pl,rfl,_,hl,hmx,hmm,_,hx⟩
  · exact ⟨[],⟨Nat.zero_le _,by simp⟩,rfl,fun j hj=>by match j,hj with | 0,_=>exact ⟨nl none 0,rfl⟩⟩
  · have hlm:len≤m:=by rw [hmm]; split<;>omega
    have each:∀ i,i<len→∃ q:α × List Value,W.cells? base (a.add (i * P.cellsOf e)) (P.cellsOf e)=some q.2∧c.good q.1∧q.2.length=(c.enc q.1).length∧∀ j,j<q.2.length→PRep W (fun _=>False) ((c.enc q.1).getD j .dead) (q.2.getD j undef)∧(q.2.getD j undef).oneCell'=true:=fun i hi=>by
     obtain ⟨cs',h1,h2⟩:=hx i (by omega)
     obtain ⟨y,g1,l1,p1⟩:=c.rd h2
     exact ⟨(y,cs'),h1,g1,l1,p1⟩
    by_cases h0:len=0
    · subst h0
      exact ⟨[],⟨Nat.zero_le _,by simp⟩,rfl,fun j hj=>by match j,hj with | 0,_=>exact ⟨nl (some a) cap,rfl⟩⟩
    · have hsp:a.spot=none:=by
       obtain ⟨q,h1,_⟩:=each 0 (by omega)
       obtain ⟨_,hl',hcell⟩:=World.cells?_some h1
       have:=hcell 0 hpos
       rw [List.getElem?_eq_getElem (by omega)] at this
       simp only [Nat.zero_mul,Addr.add,if_true] at this
       cases hs:a.spot with
       | none=>rfl
       | some s =>
        exfalso
        unfold World.cell? at this
        rw [hs] at this
        split at this<;>simp at this
      obtain ⟨b,o,rfl⟩:∃ b o,a=⟨b,o,none⟩:=⟨a.block,a.off,by cases a; simp only at hsp; subst hsp; rfl⟩
      have inh:Nonempty (α × List Value):=let ⟨q,_⟩:=each 0 (by omega); ⟨q⟩
      have ex:∀ i,∃ q:α × List Value,i<len→W.cells? base ((⟨b,o,none⟩:Addr).add (i * P.cellsOf e)) (P.cellsOf e)=some q.2∧c.good q.1∧q.2.length=(c.enc q.1).length∧∀ j,j<q.2.length→PRep W (fun _=>False) ((c.enc q.1).getD j .dead) (q.2.getD j undef)∧(q.2.getD j undef).oneCell'=true:=fun i=>by
       by_cases hi:i<len
       · obtain ⟨q,hq⟩:=each i hi; exact ⟨q,fun _=>hq⟩
       · exact ⟨Classical.choice inh,fun h=>absurd h hi⟩
      obtain ⟨q,hq⟩:=Classical.axiomOfChoice ex
      have getq:∀ k,k<len→(((List.range len).map fun i=>(q i).1).map c.enc).getD k []=c.enc (q k).1:=fun k hk=>by simp [List.getD_eq_getElem?_getD,hk]
      have hlen:(((List.range len).map fun i=>(q i).1).map c.enc).length=len:=by simp
      refine ⟨(List.range len).map fun i=>(q i).1,⟨by simp; omega,fun x hx=>?_⟩,rfl,fun j hj=>?_⟩
      · obtain ⟨i,hi,rfl⟩:=List.mem_map.1 hx
        exact (hq i (List.mem_range.1 hi)).2.1
      · match j,hj with
        | 0,_ =>
         refine ⟨?_,rfl⟩
         show PRep W (fun _=>False) (.sl (P.cellsOf e) false _) (.slice (some ⟨b,o,none⟩) len cap)
         have key:=PRep.sl (w:=W) (M:=fun _=>False) (P.cellsOf e) false (((List.range len).map fun i=>(q i).1).map c.enc) (some ⟨b,o,none⟩) cap b o (fun k j=>(q k).2.getD j undef)
         rw [hlen] at key
         refine key (fun _=>rfl) (fun _ _ h=>h) hl (fun h=>by cases h) (fun x hx=>by obtain ⟨y,_,rfl⟩:=List.mem_map.1 hx; exact c.size y) (fun k j hk hj=>?_) (fun k j hk hj=>?_) (fun k j hk hj=>?_)
         · obtain ⟨h1,_⟩:=hq k hk
           obtain ⟨_,hl',hcell⟩:=World.cells?_some h1
           have:=hcell j hj
           rw [add_plain,add_plain,List.getElem?_eq_getElem (by omega)] at this
           rw [this]
           simp [List.getD_eq_getElem?_getD,List.getElem?_eq_getElem (show j<(q k).2.length by omega)]
         · obtain ⟨_,_,h3,h4⟩:=hq k hk
           exact (h4 j (by rw [h3,c.size]; exact hj)).2
         · obtain ⟨_,_,h3,h4⟩:=hq k hk
           rw [getq k hk]
           exact (h4 j (by rw [h3,c.size]; exact hj)).1
theorem Cod.arg {P:Program} {t:TypeId} {α:Type} (c:Cod P t α) {H:Type} {e:TypeId × Value→H} {W:World} {base:Nat} {sp:Nat→Bool} {held:Bool} {v:Value} {d:DataW H} {ps:List MemPlace} (h:DataW.Trod e P W base sp held t v d ps) :
 ∃ a,c.good a∧Reps (view0 W) (c.enc a) v.cells.toList:=by
 obtain ⟨n,hn⟩:=h
 obtain ⟨a,h1,h2,h3⟩:=c.rd hn
 exact ⟨a,h1,h2,fun j hj=>.pure _ _ (h3 j (by omega)).1⟩
theorem cells_one {P:Program} {t:TypeId} (ht:tAgg P t=some false) {r:Reach} {W:World} {base:Nat} {v:Value} (h:Value.okWide P W r base t v):v.cells=#[v]:=by
 unfold tAgg at ht
 cases hu:P.underlying t with
 | none=>simp [hu] at ht
 | some d =>
  rw [hu] at ht
  cases v<;>first | rfl | skip
  all_goals
   unfold Value.okWide at h
   rw [hu] at h
   cases d<;>simp only at ht h<;>first
    | (cases ht; done)
    | (unfold Cell.okWide Cell.ok at h; rw [hu] at h; exact h.elim)
theorem Cod.one {P:Program} {t:TypeId} {α:Type} (c:Cod P t α) (ht:tAgg P t=some false) {H:Type} {e:TypeId × Value→H} {W:World} {base base':Nat} {r:Reach} {sp:Nat→Bool} {held:Bool} {v:Value} {d:DataW H} {ps:List MemPlace} (hv:Value.okWide P W r base' t v) (h:DataW.Trod e P W base sp held t v d ps)
 {mk:α→AV} (hm:∀ a,c.enc a=[mk a]):∃ a,c.good a∧Rep (view0 W) (mk a) v:=by
 obtain ⟨a,h1,h2⟩:=c.arg h
 rw [cells_one ht hv,hm] at h2
 exact ⟨a,h1,h2.head⟩
end Go.Am
