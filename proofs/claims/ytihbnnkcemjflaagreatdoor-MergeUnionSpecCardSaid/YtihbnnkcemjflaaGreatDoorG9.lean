import Derived.Test.YtihbnnkcemjflaaGreatDoorG8
import Derived.RecoverIn
import Derived.Deep.Slices
set_option maxRecDepth 100000
set_option linter.unusedSimpArgs false
set_option linter.unusedVariables false

namespace Go.Am
open Go
inductive AMd where
 | ret
 | pan (x:AV)
 | recd
def MdRep (V:View):AMd→FrameMode→Prop
 | .ret,u=>u = .returning
 | .pan x,u=>∃ v,u = .panicking [{ v:=v,recovered:=false }]∧Rep V x v
 | .recd,u=>∃ v,u = .panicking [{ v:=v,recovered:=true }]
theorem MdRep.step {V V':View} (hs:Step V V') {m:AMd} {u:FrameMode} (h:MdRep V m u):MdRep V' m u:=by
 cases m with
 | ret=>exact h
 | pan x=>obtain ⟨v,h1,h2⟩:=h; exact ⟨v,h1,h2.step hs⟩
 | recd=>exact h
def AMd.out:AMd→AOut
 | .ret | .recd=>.ret .dead
 | .pan x=>.pan x
def AMd.free:AMd→Bool
 | .pan x=>x.slFree
 | _=>true
theorem MdRep.free {V V':View} {m:AMd} {u:FrameMode} (h:MdRep V m u) (hf:m.free=true):MdRep V' m u:=by
 cases m with
 | ret=>exact h
 | pan x=>obtain ⟨v,h1,h2⟩:=h; exact ⟨v,h1,rep_slFree h2 hf⟩
 | recd=>exact h
section
variable {P:Program} {G:Nat→Option (List AV)} {n0:Nat}
theorem MdRep.out {V:View} {m:AMd} {u:FrameMode} (h:MdRep V m u):ModeRep V m.out (settle u):=by
 cases m with
 | ret=>rw [show u = .returning from h]; rfl
 | pan x=>obtain ⟨v,rfl,hv⟩:=h; exact ⟨v,rfl,hv⟩
 | recd=>obtain ⟨v,rfl⟩:=h; rfl
end
end Go.Am


namespace Go.Am
open Go Go.ChangeShapes Go.WideShapes Go.RowKit
structure CodN (P:Program) (t:TypeId) (α:Type) (N:Nat) where
 enc:α→List AV
 good:α→Prop
 size:∀ a,(enc a).length=P.cellsOf t
 rd:∀ {H:Type} {e:TypeId × Value→H} {W:World} {base:Nat} {sp:Nat→Bool} {held:Bool} {n:Nat} {cs:List Value} {x:DataW H × List MemPlace},n≤N→DataW.trod e P W base sp held n t cs=some x →
  ∃ a,good a∧cs.length=(enc a).length∧∀ j,j<cs.length→PRep W (fun _=>False) ((enc a).getD j .dead) (cs.getD j undef)∧(cs.getD j undef).oneCell'=true
def CodN.int {P:Program} {t:TypeId} {N:Nat} (ht:P.underlying t=some (.int .i64)) (hc:P.cellsOf t=1):CodN P t Int N where
 enc n:=[Am.int n]
 good n := -9223372036854775808≤n∧n<9223372036854775808
 size _:=hc.symm
 rd _ h:=by
  obtain ⟨n,rfl,_,hw⟩:=DataW.trod_int ht h
  refine ⟨n,wf_i64 hw,rfl,fun j hj=>?_⟩
  match j,hj with
  | 0,_=>exact ⟨.lit _,rfl⟩
def CodN.bool {P:Program} {t:TypeId} {N:Nat} (ht:P.underlying t=some .bool) (hc:P.cellsOf t=1):CodN P t Bool N where
 enc b:=[Am.bool b]
 good _:=True
 size _:=hc.symm
 rd _ h:=by
  obtain ⟨b,rfl,_⟩:=DataW.trod_bool ht h
  refine ⟨b,trivial,rfl,fun j hj=>?_⟩
  match j,hj with
  | 0,_=>exact ⟨.lit _,rfl⟩
def CodN.str {P:Program} {t:TypeId} {N:Nat} (ht:P.underlying t=some .string) (hc:P.cellsOf t=1):CodN P t ByteArray N where
 enc s:=[Am.str s]
 good s:=s.size≤maxLen
 size _:=hc.symm
 rd _ h:=by
  obtain ⟨s,rfl,_,hs⟩:=DataW.trod_string ht h
  refine ⟨s,hs,rfl,fun j hj=>?_⟩
  match j,hj with
  | 0,_=>exact ⟨.lit _,rfl⟩
structure FCodN (P:Program) (o:Nat) (fs:List Field) (α:Type) (N:Nat) where
 enc:α→List AV
 good:α→Prop
 rd:∀ {H:Type} {e:TypeId × Value→H} {W:World} {base:Nat} {sp:Nat→Bool} {held:Bool} {n:Nat} {cs:List Value},n≤N→cs.length=o+(fs.map fun f=>P.cellsOf f.type).sum →
  (∀ (i:Nat) (f:Field),fs[i]? = some f→∃ y,DataW.trod e P W base sp held n f.type ((cs.drop f.offset).take (P.cellsOf f.type))=some y) →
  ∃ a,good a∧cs.length=o+(enc a).length∧∀ j,j<(enc a).length→PRep W (fun _=>False) ((enc a).getD j .dead) (cs.getD (o+j) undef)∧(cs.getD (o+j) undef).oneCell'=true
def FCodN.nil {P:Program} {o N:Nat}:FCodN P o [] Unit N where
 enc _:=[]
 good _:=True
 rd _ h _:=⟨(),trivial,by simpa using h,fun j hj=>absurd hj (by simp)⟩
def FCodN.cons {P:Program} {o N:Nat} {f:Field} {fs:List Field} {α β:Type} (c:CodN P f.type α N) (ho:f.offset=o) (r:FCodN P (o+P.cellsOf f.type) fs β N):FCodN P o (f::fs) (α × β) N where
 enc a:=c.enc a.1++r.enc a.2
 good a:=c.good a.1∧r.good a.2
 rd {H e W base sp held n cs} hn hlen h:=by
  obtain ⟨y,hy⟩:=h 0 f rfl
  obtain ⟨a,g1,l1,p1⟩:=c.rd hn hy
  obtain ⟨b,g2,l2,p2⟩:=r.rd (cs:=cs) hn (by rw [hlen]; simp; omega) fun i f' hf=>h (i+1) f' hf
  have hsz:=c.size a
  simp only [List.map_cons,List.sum_cons] at hlen
  refine ⟨(a,b),⟨g1,g2⟩,?_,fun j hj=>?_⟩
  · show cs.length=o+(c.enc a++r.enc b).length
    rw [List.length_append]; omega
  have hj:j<(c.enc a).length+(r.enc b).length:=by
   have:j<(c.enc a++r.enc b).length:=hj
   rwa [List.length_append] at this
  have hl1:((cs.drop f.offset).take (P.cellsOf f.type)).length=P.cellsOf f.type:=by rw [l1,hsz]
  by_cases hlt:j<(c.enc a).length
  · have:=p1 j (by rw [hl1,← hsz]; exact hlt)
    have e1:((cs.drop f.offset).take (P.cellsOf f.type)).getD j undef=cs.getD (o+j) undef:=by
     rw [hsz] at hlt
     simp [List.getD_eq_getElem?_getD,hlt,ho]
    have e2:(c.enc a++r.enc b).getD j .dead=(c.enc a).getD j .dead:=by simp [List.getD_eq_getElem?_getD,List.getElem?_append_left hlt]
    rw [e1] at this
    rw [e2]; exact this
  · have:=p2 (j - (c.enc a).length) (by omega)
    have e1:o+P.cellsOf f.type+(j - (c.enc a).length)=o+j:=by rw [← hsz]; omega
    have e2:(c.enc a++r.enc b).getD j .dead=(r.enc b).getD (j - (c.enc a).length) .dead:=by simp [List.getD_eq_getElem?_getD,List.getElem?_append_right (show (c.enc a).length≤j by omega)]
    rw [e1] at this
    rw [e2]; exact this
def CodN.struct {P:Program} {t:TypeId} {N:Nat} {fs:Array Field} {α β:Type} (ht:P.underlying t=some (.struct fs)) (hc:P.cellsOf t=(fs.toList.map fun f=>P.cellsOf f.type).sum) (c:FCodN P 0 fs.toList α N) (g:α→β) (enc:β→List AV) (hg:∀ a,enc (g a)=c.enc a)
 (hsz:∀ b,(enc b).length=P.cellsOf t):CodN P t β (N+1) where
 enc:=enc
 good b:=∃ a,g a=b∧c.good a
 size:=hsz
 rd {H e W base sp held n cs x} hn h:=by
  obtain ⟨xs,m,hm,_,hl,hxl,hf⟩:=DataW.trod_struct ht h
  obtain ⟨a,g1,l1,p1⟩:=c.rd (e:=e) (W:=W) (base:=base) (sp:=sp) (held:=held) (n:=m) (cs:=cs) (by omega) (by rw [hl,hc]; omega) fun i f hfi=>by
   have hfi':fs[i]? = some f:=by simpa using hfi
   have hlt:i<xs.length:=by rw [hxl]; exact (Array.getElem?_eq_some_iff.1 hfi').1
   exact ⟨xs[i],by rw [hf i f hfi',List.getElem?_eq_getElem hlt]⟩
  refine ⟨g a,⟨a,rfl,g1⟩,by rw [hg]; omega,fun j hj=>?_⟩
  rw [hg]
  have:=p1 j (by omega)
  rwa [Nat.zero_add] at this
def CodN.slice {P:Program} {t e:TypeId} {N:Nat} {α:Type} (ht:P.underlying t=some (.slice e)) (hc:P.cellsOf t=1) (hpos:0<P.cellsOf e) (c:CodN P e α N):CodN P t (List α) (N+1) where
 enc l:=[.sl (P.cellsOf e) false (l.map c.enc)]
 good l:=l.length≤maxLen∧∀ a∈l,c.good a
 size _:=hc.symm
 rd {H en W base sp held n cs x} hn h:=by
  have nl:∀ (A:Option Addr) (cap:Nat),PRep W (fun _=>False) (.sl (P.cellsOf e) false []) (.slice A 0 cap):=fun A cap =>
   .sl _ false [] A cap 0 0 (fun _ _=>undef) (fun h=>absurd rfl h) (fun h=>absurd rfl h) (Nat.zero_le _) (fun h=>by cases h) (by simp) (fun k j hk=>absurd hk (by simp)) (fun k j hk=>absurd hk (by simp)) (fun k j hk=>absurd hk (by simp))
  rcases DataW.trod_slice ht h with ⟨rfl,_⟩ | ⟨a,len,cap,elems,rest,n',hnn,rfl,rfl,_,hl,hmx,hlen0,hel,_,_⟩
  · exact ⟨[],⟨Nat.zero_le _,by simp⟩,rfl,fun j hj=>by match j,hj with | 0,_=>exact ⟨nl none 0,rfl⟩⟩
  · have each:∀ i,i<len→∃ q:α × List Value,W.cells? base (a.add (i * P.cellsOf e)) (P.cellsOf e)=some q.2∧c.good q.1∧q.2.length=(c.enc q.1).length∧∀ j,j<q.2.length→PRep W (fun _=>False) ((c.enc q.1).getD j .dead) (q.2.getD j undef)∧(q.2.getD j undef).oneCell'=true:=fun i hi=>by
     have key:=hel i hi
     rw [List.getElem?_eq_getElem (by omega)] at key
     obtain ⟨cs',h1,h2⟩:=Option.bind_eq_some_iff.1 key
     obtain ⟨y,g1,l1,p1⟩:=c.rd (by omega) h2
     exact ⟨(y,cs'),h1,g1,l1,p1⟩
    by_cases h0:len=0
    · subst h0
      exact ⟨[],⟨Nat.zero_le _,by simp⟩,rfl,fun j hj=>by match j,hj with | 0,_=>exact ⟨nl (some a) cap,rfl⟩⟩
    · have hsp:a.spot=none:=by
       obtain ⟨q,h1,_⟩:=each 0 (by omega)
       obtain ⟨_,hl',hcell⟩:=World.cells?_some h1
       have:=hcell 0 hpos
       rw [List.getElem?_eq_getElem (by omega)] at this
       simp only [Nat.zero_mul,Addr.add,if_true] at this
       cases hs:a.spot with
       | none=>rfl
       | some s =>
        exfalso
        unfold World.cell? at this
        rw [hs] at this
        split at this<;>simp at this
      obtain ⟨b,o,rfl⟩:∃ b o,a=⟨b,o,none⟩:=⟨a.block,a.off,by cases a; simp only at hsp; subst hsp; rfl⟩
      have inh:Nonempty (α × List Value):=let ⟨q,_⟩:=each 0 (by omega); ⟨q⟩
      have ex:∀ i,∃ q:α × List Value,i<len→W.cells? base ((⟨b,o,none⟩:Addr).add (i * P.cellsOf e)) (P.cellsOf e)=some q.2∧c.good q.1∧q.2.length=(c.enc q.1).length∧∀ j,j<q.2.length→PRep W (fun _=>False) ((c.enc q.1).getD j .dead) (q.2.getD j undef)∧(q.2.getD j undef).oneCell'=true:=fun i=>by
       by_cases hi:i<len
       · obtain ⟨q,hq⟩:=each i hi; exact ⟨q,fun _=>hq⟩
       · exact ⟨Classical.choice inh,fun h=>absurd h hi⟩
      obtain ⟨q,hq⟩:=Classical.axiomOfChoice ex
      have getq:∀ k,k<len→(((List.range len).map fun i=>(q i).1).map c.enc).getD k []=c.enc (q k).1:=fun k hk=>by simp [List.getD_eq_getElem?_getD,hk]
      have hlen:(((List.range len).map fun i=>(q i).1).map c.enc).length=len:=by simp
      refine ⟨(List.range len).map fun i=>(q i).1,⟨by simp; omega,fun x hx=>?_⟩,rfl,fun j hj=>?_⟩
      · obtain ⟨i,hi,rfl⟩:=List.mem_map.1 hx
        exact (hq i (List.mem_range.1 hi)).2.1
      · match j,hj with
        | 0,_ =>
         refine ⟨?_,rfl⟩
         show PRep W (fun _=>False) (.sl (P.cellsOf e) false _) (.slice (some ⟨b,o,none⟩) len cap)
         have key:=PRep.sl (w:=W) (M:=fun _=>False) (P.cellsOf e) false (((List.range len).map fun i=>(q i).1).map c.enc) (some ⟨b,o,none⟩) cap b o (fun k j=>(q k).2.getD j undef)
         rw [hlen] at key
         refine key (fun _=>rfl) (fun _ _ h=>h) hl (fun h=>by cases h) (fun x hx=>by obtain ⟨y,_,rfl⟩:=List.mem_map.1 hx; exact c.size y) (fun k j hk hj=>?_) (fun k j hk hj=>?_) (fun k j hk hj=>?_)
         · obtain ⟨h1,_⟩:=hq k hk
           obtain ⟨_,hl',hcell⟩:=World.cells?_some h1
           have:=hcell j hj
           rw [add_plain,add_plain,List.getElem?_eq_getElem (by omega)] at this
           rw [this]
           simp [List.getD_eq_getElem?_getD,List.getElem?_eq_getElem (show j<(q k).2.length by omega)]
         · obtain ⟨_,_,h3,h4⟩:=hq k hk
           exact (h4 j (by rw [h3,c.size]; exact hj)).2
         · obtain ⟨_,_,h3,h4⟩:=hq k hk
           rw [getq k hk]
           exact (h4 j (by rw [h3,c.size]; exact hj)).1
theorem CodN.arg {P:Program} {t:TypeId} {α:Type} (c:∀ N,CodN P t α N) {enc:α→List AV} (hc:∀ N,(c N).enc=enc) {good:α→Prop} (hg:∀ N a,(c N).good a→good a) {H:Type} {e:TypeId × Value→H} {W:World} {base:Nat} {sp:Nat→Bool} {held:Bool} {v:Value} {d:DataW H} {ps:List MemPlace} (h:DataW.Trod e P W base sp held t v d ps) :
 ∃ a,good a∧Reps (view0 W) (enc a) v.cells.toList:=by
 obtain ⟨n,hn⟩:=h
 obtain ⟨a,h1,h2,h3⟩:=(c n).rd (Nat.le_refl _) hn
 rw [hc] at h2 h3
 exact ⟨a,hg n a h1,h2,fun j hj=>.pure _ _ (h3 j (by omega)).1⟩
end Go.Am
