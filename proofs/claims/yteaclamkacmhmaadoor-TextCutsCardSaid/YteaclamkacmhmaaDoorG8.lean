import Derived.Test.YteaclamkacmhmaaDoorG7
import Derived.RecoverIn
import Derived.Deep.Slices
set_option maxRecDepth 100000
set_option linter.unusedSimpArgs false
set_option linter.unusedVariables false

namespace Go.Am
open Go
inductive AMd where
 | ret
 | pan (x:AV)
 | recd
def MdRep (V:View):AMd→FrameMode→Prop
 | .ret,u=>u = .returning
 | .pan x,u=>∃ v,u = .panicking [{ v:=v,recovered:=false }]∧Rep V x v
 | .recd,u=>∃ v,u = .panicking [{ v:=v,recovered:=true }]
theorem MdRep.step {V V':View} (hs:Step V V') {m:AMd} {u:FrameMode} (h:MdRep V m u):MdRep V' m u:=by
 cases m with
 | ret=>exact h
 | pan x=>obtain ⟨v,h1,h2⟩:=h; exact ⟨v,h1,h2.step hs⟩
 | recd=>exact h
def AMd.out:AMd→AOut
 | .ret | .recd=>.ret .dead
 | .pan x=>.pan x
def AMd.free:AMd→Bool
 | .pan x=>x.slFree
 | _=>true
theorem MdRep.free {V V':View} {m:AMd} {u:FrameMode} (h:MdRep V m u) (hf:m.free=true):MdRep V' m u:=by
 cases m with
 | ret=>exact h
 | pan x=>obtain ⟨v,h1,h2⟩:=h; exact ⟨v,h1,rep_slFree h2 hf⟩
 | recd=>exact h
section
variable {P:Program} {G:Nat→Option (List AV)} {n0:Nat}
theorem MdRep.out {V:View} {m:AMd} {u:FrameMode} (h:MdRep V m u):ModeRep V m.out (settle u):=by
 cases m with
 | ret=>rw [show u = .returning from h]; rfl
 | pan x=>obtain ⟨v,rfl,hv⟩:=h; exact ⟨v,rfl,hv⟩
 | recd=>obtain ⟨v,rfl⟩:=h; rfl
end
end Go.Am


namespace Go.Am
open Go Go.ChangeShapes Go.WideShapes Go.RowKit
structure CodN (P:Program) (t:TypeId) (α:Type) (N:Nat) where
 enc:α→List AV
 good:α→Prop
 size:∀ a,(enc a).length=P.cellsOf t
 rd:∀ {H:Type} {e:TypeId × Value→H} {W:World} {base:Nat} {sp:Nat→Bool} {held:Bool} {n:Nat} {cs:List Value} {x:DataW H × List MemPlace},n≤N→DataW.trod e P W base sp held n t cs=some x →
  ∃ a,good a∧cs.length=(enc a).length∧∀ j,j<cs.length→PRep W (fun _=>False) ((enc a).getD j .dead) (cs.getD j undef)∧(cs.getD j undef).oneCell'=true
def CodN.int {P:Program} {t:TypeId} {N:Nat} (ht:P.underlying t=some (.int .i64)) (hc:P.cellsOf t=1):CodN P t Int N where
 enc n:=[Am.int n]
 good n := -9223372036854775808≤n∧n<9223372036854775808
 size _:=hc.symm
 rd _ h:=by
  obtain ⟨n,rfl,_,hw⟩:=DataW.trod_int ht h
  refine ⟨n,wf_i64 hw,rfl,fun j hj=>?_⟩
  match j,hj with
  | 0,_=>exact ⟨.lit _,rfl⟩
def CodN.bool {P:Program} {t:TypeId} {N:Nat} (ht:P.underlying t=some .bool) (hc:P.cellsOf t=1):CodN P t Bool N where
 enc b:=[Am.bool b]
 good _:=True
 size _:=hc.symm
 rd _ h:=by
  obtain ⟨b,rfl,_⟩:=DataW.trod_bool ht h
  refine ⟨b,trivial,rfl,fun j hj=>?_⟩
  match j,hj with
  | 0,_=>exact ⟨.lit _,rfl⟩
def CodN.str {P:Program} {t:TypeId} {N:Nat} (ht:P.underlying t=some .string) (hc:P.cellsOf t=1):CodN P t ByteArray N where
 enc s:=[Am.str s]
 good s:=s.size≤maxLen
 size _:=hc.symm
 rd _ h:=by
  obtain ⟨s,rfl,_,hs⟩:=DataW.trod_string ht h
  refine ⟨s,hs,rfl,fun j hj=>?_⟩
  match j,hj with
  | 0,_=>exact ⟨.lit _,rfl⟩
structure FCodN (P:Program) (o:Nat) (fs:List Field) (α:Type) (N:Nat) where
 enc:α→List AV
 good:α→Prop
 rd:∀ {H:Type} {e:TypeId × Value→H} {W:World} {base:Nat} {sp:Nat→Bool} {held:Bool} {n:Nat} {cs:List Value},n≤N→cs.length=o+(fs.map fun f=>P.cellsOf f.type).sum →
  (∀ (i:Nat) (f:Field),fs[i]? = some f→∃ y,DataW.trod e P W base sp held n f.type ((cs.drop f.offset).take (P.cellsOf f.type))=some y) →
  ∃ a,good a∧cs.length=o+(enc a).length∧∀ j,j<(enc a).length→PRep W (fun _=>False) ((enc a).getD j .dead) (cs.getD (o+j) undef)∧(cs.getD (o+j) undef).oneCell'=true
def FCodN.nil {P:Program} {o N:Nat}:FCodN P o [] Unit N where
 enc _:=[]
 good _:=True
 rd _ h _:=⟨(),trivial,by simpa using h,fun j hj=>absurd hj (by simp)⟩
def FCodN.cons {P:Program} {o N:Nat} {f:Field} {fs:List Field} {α β:Type} (c:CodN P f.type α N) (ho:f.offset=o) (r:FCodN P (o+P.cellsOf f.type) fs β N):FCodN P o (f::fs) (α × β) N where
 enc a:=c.enc a.1++r.enc a.2
 good a:=c.good a.1∧r.good a.2
 rd {H e W base sp held n cs} hn hlen h:=by
  obtain ⟨y,hy⟩:=h 0 f rfl
  obtain ⟨a,g1,l1,p1⟩:=c.rd hn hy
  obtain ⟨b,g2,l2,p2⟩:=r.rd (cs:=cs) hn (by rw [hlen]; simp; omega) fun i f' hf=>h (i+1) f' hf
  have hsz:=c.size a
  simp only [List.map_cons,List.sum_cons] at hlen
  refine ⟨(a,b),⟨g1,g2⟩,?_,fun j hj=>?_⟩
  · show cs.length=o+(c.enc a++r.enc b).length
    rw [List.length_append]; omega
  have hj:j<(c.enc a).length+(r.enc b).length:=by
   have:j<(c.enc a++r.enc b).length:=hj
   rwa [List.length_append] at this
  have hl1:((cs.drop f.offset).take (P.cellsOf f.type)).length=P.cellsOf f.type:=by rw [l1,hsz]
  by_cases hlt:j<(c.enc a).length
  · have:=p1 j (by rw [hl1,← hsz]; exact hlt)
    have e1:((cs.drop f.offset).take (P.cellsOf f.type)).getD j undef=cs.getD (o+j) undef:=by
     rw [hsz] at hlt
     simp [List.getD_eq_getElem?_getD,hlt,ho]
    have e2:(c.enc a++r.enc b).getD j .dead=(c.enc a).getD j .dead:=by simp [List.getD_eq_getElem?_getD,List.getElem?_append_left hlt]
    rw [e1] at this
    rw [e2]; exact this
  · have:=p2 (j - (c.enc a).length) (by omega)
    have e1:o+P.cellsOf f.type+(j - (c.enc a).length)=o+j:=by rw [← hsz]; omega
    have e2:(c.enc a++r.enc b).getD j .dead=(r.enc b).getD (j - (c.enc a).length) .dead:=by simp [List.getD_eq_getElem?_getD,List.getElem?_append_right (show (c.enc a).length≤j by omega)]
    rw [e1] at this
    rw [e2]; exact this
def CodN.struct {P:Program} {t:TypeId} {N:Nat} {fs:Array Field} {α β:Type} (ht:P.underlying t=some (.struct fs)) (hc:P.cellsOf t=(fs.toList.map fun f=>P.cellsOf f.type).sum) (c:FCodN P 0 fs.toList α N) (g:α→β) (enc:β→List AV) (hg:∀ a,enc (g a)=c.enc a)
 (hsz:∀ b,(enc b).length=P.cellsOf t):CodN P t β (N+1) where
 enc:=enc
 good b:=∃ a,g a=b∧c.good a
 size:=hsz
 rd {H e W base sp held n cs x} hn h:=by
  obtain ⟨xs,m,hm,_,hl,hxl,hf⟩:=DataW.trod_struct ht h
  obtain ⟨a,g1,l1,p1⟩:=c.rd (e:=e) (W:=W) (base:=base) (sp:=sp) (held:=held) (n:=m) (cs:=cs) (by omega) (by rw [hl,hc]; omega) fun i f hfi=>by
   have hfi':fs[i]? = some f:=by simpa using hfi
   have hlt:i<xs.length:=by rw [hxl]; exact (Array.getElem?_eq_some_iff.1 hfi').1
   exact ⟨xs[i],by rw [hf i f hfi',List.getElem?_eq_getElem hlt]⟩
  refine ⟨g a,⟨a,rfl,g1⟩,by rw [hg]; omega,fun j hj=>?_⟩
  rw [hg]
  have:=p1 j (by omega)
  rwa [Nat.zero_add] at this
def CodN.slice {P:Program} {t e:TypeId} {N:Nat} {α:Type} (ht:P.underlying t=some (.slice e)) (hc:P.cellsOf t=1) (hpos:0<P.cellsOf e) (c:CodN P e α N):CodN P t (List α) (N+1) where
 enc l:=[.sl (P.cellsOf e) false (l.map c.enc)]
 good l:=l.length≤maxLen∧∀ a∈l,c.good a
 size _:=hc.symm
 rd {H en W base sp held n cs x} hn h:=by
  have nl:∀ (A:Option Addr) (cap:Nat),PRep W (fun _=>False) (.sl (P.cellsOf e) false []) (.slice A 0 cap):=fun A cap =>
   .sl _ false [] A cap 0 0 (fun _ _=>undef) (fun h=>absurd rfl h) (fun h=>absurd rfl h) (Nat.zero_le _) (fun h=>by cases h) (by simp) (fun k j hk=>absurd hk (by simp)) (fun k j hk=>absurd hk (by simp)) (fun k j hk=>absurd hk (by simp))
  rcases DataW.trod_slice ht h with ⟨rfl,_⟩ | ⟨a,len,cap,elems,rest,n',hnn,rfl,rfl,_,hl,hmx,hlen0,hel,_,_⟩
  · exact ⟨[],⟨Nat.zero_le _,by simp⟩,rfl,fun j hj=>by match j,hj with | 0,_=>exact ⟨nl none 0,rfl⟩⟩
  · have each:∀ i,i<len→∃ q:α × List Value,W.cells? base (a.add (i * P.cellsOf e)) (P.cellsOf e)=some q.2∧c.good q.1∧q.2.length=(c.enc q.1).length∧∀ j,j<q.2.length→PRep W (fun _=>False) ((c.enc q.1).getD j .dead) (q.2.getD j undef)∧(q.2.getD j undef).oneCell'=true:=fun i hi=>by
     have key:=hel i hi
     rw [List.getElem?_eq_getElem (by omega)] at key
     obtain ⟨cs',h1,h2⟩:=Option.bind_eq_some_iff.1 key
     obtain ⟨y,g1,l1,p1⟩:=c.rd (by omega) h2
     exact ⟨(y,cs'),h1,g1,l1,p1⟩
    by_cases h0:len=0
    · subst h0
      exact ⟨[],⟨Nat.zero_le _,by simp⟩,rfl,fun j hj=>by match j,hj with | 0,_=>exact ⟨nl (some a) cap,rfl⟩⟩
    · have hsp:a.spot=none:=by
       obtain ⟨q,h1,_⟩:=each 0 (by omega)
       obtain ⟨_,hl',hcell⟩:=World.cells?_some h1
       have:=hcell 0 hpos
       rw [List.getElem?_eq_getElem (by omega)] at this
       simp only [Nat.zero_mul,Addr.add,if_true] at this
       cases hs:a.spot with
       | none=>rfl
       | some s =>
        exfalso
        unfold World.cell? at this
        rw [hs] at this
        split at this<;>simp at this
      obtain ⟨b,o,rfl⟩:∃ b o,a=⟨b,o,none⟩:=⟨a.block,a.off,by cases a; simp only at hsp; subst hsp; rfl⟩
      have inh:Nonempty (α × List Value):=let ⟨q,_⟩:=each 0 (by omega); ⟨q⟩
      have ex:∀ i,∃ q:α × List Value,i<len→W.cells? base ((⟨b,o,none⟩:Addr).add (i * P.cellsOf e)) (P.cellsOf e)=some q.2∧c.good q.1∧q.2.length=(c.enc q.1).length∧∀ j,j<q.2.length→PRep W (fun _=>False) ((c.enc q.1).getD j .dead) (q.2.getD j undef)∧(q.2.getD j undef).oneCell'=true:=fun i=>by
       by_cases hi:i<len
       · obtain ⟨q,hq⟩:=each i hi; exact ⟨q,fun _=>hq⟩
       · exact ⟨Classical.choice inh,fun h=>absurd h hi⟩
      obtain ⟨q,hq⟩:=Classical.axiomOfChoice ex
      have getq:∀ k,k<len→(((List.range len).map fun i=>(q i).1).map c.enc).getD k []=c.enc (q k).1:=fun k hk=>by simp [List.getD_eq_getElem?_getD,hk]
      have hlen:(((List.range len).map fun i=>(q i).1).map c.enc).length=len:=by simp
      refine ⟨(List.range len).map fun i=>(q i).1,⟨by simp; omega,fun x hx=>?_⟩,rfl,fun j hj=>?_⟩
      · obtain ⟨i,hi,rfl⟩:=List.mem_map.1 hx
        exact (hq i (List.mem_range.1 hi)).2.1
      · match j,hj with
        | 0,_ =>
         refine ⟨?_,rfl⟩
         show PRep W (fun _=>False) (.sl (P.cellsOf e) false _) (.slice (some ⟨b,o,none⟩) len cap)
         have key:=PRep.sl (w:=W) (M:=fun _=>False) (P.cellsOf e) false (((List.range len).map fun i=>(q i).1).map c.enc) (some ⟨b,o,none⟩) cap b o (fun k j=>(q k).2.getD j undef)
         rw [hlen] at key
         refine key (fun _=>rfl) (fun _ _ h=>h) hl (fun h=>by cases h) (fun x hx=>by obtain ⟨y,_,rfl⟩:=List.mem_map.1 hx; exact c.size y) (fun k j hk hj=>?_) (fun k j hk hj=>?_) (fun k j hk hj=>?_)
         · obtain ⟨h1,_⟩:=hq k hk
           obtain ⟨_,hl',hcell⟩:=World.cells?_some h1
           have:=hcell j hj
           rw [add_plain,add_plain,List.getElem?_eq_getElem (by omega)] at this
           rw [this]
           simp [List.getD_eq_getElem?_getD,List.getElem?_eq_getElem (show j<(q k).2.length by omega)]
         · obtain ⟨_,_,h3,h4⟩:=hq k hk
           exact (h4 j (by rw [h3,c.size]; exact hj)).2
         · obtain ⟨_,_,h3,h4⟩:=hq k hk
           rw [getq k hk]
           exact (h4 j (by rw [h3,c.size]; exact hj)).1
theorem CodN.arg {P:Program} {t:TypeId} {α:Type} (c:∀ N,CodN P t α N) {enc:α→List AV} (hc:∀ N,(c N).enc=enc) {good:α→Prop} (hg:∀ N a,(c N).good a→good a) {H:Type} {e:TypeId × Value→H} {W:World} {base:Nat} {sp:Nat→Bool} {held:Bool} {v:Value} {d:DataW H} {ps:List MemPlace} (h:DataW.Trod e P W base sp held t v d ps) :
 ∃ a,good a∧Reps (view0 W) (enc a) v.cells.toList:=by
 obtain ⟨n,hn⟩:=h
 obtain ⟨a,h1,h2,h3⟩:=(c n).rd (Nat.le_refl _) hn
 rw [hc] at h2 h3
 exact ⟨a,hg n a h1,h2,fun j hj=>.pure _ _ (h3 j (by omega)).1⟩
end Go.Am


namespace Go.Am
open Go
structure Itm where
 o:List Orc
 p:List Prop
 h:AllP p
def orcsOf:List Itm→List Orc
 | []=>[]
 | i::l=>i.o++orcsOf l
def propsOf:List Itm→List Prop
 | []=>[]
 | i::l=>i.p++propsOf l
theorem propsAll:∀ l:List Itm,AllP (propsOf l)
 | []=>trivial
 | i::l=>allP_append.2 ⟨i.h,propsAll l⟩
def ko (o:Orc):Itm:=⟨[o],[],trivial⟩
def kp {p:Prop} (h:p):Itm:=⟨[],[p],⟨h,trivial⟩⟩
def kc {P:Program} {G:Nat→Option (List AV)} {f:FuncId} {args:List AV} {Hs:List AObj} {out:AOut} {Hs':List AObj} (e:List Nat) (h:CallC P G f args Hs out Hs'):Itm:=⟨[.call e out Hs'],[CallC P G f args Hs out Hs'],⟨h,trivial⟩⟩
def kt {b:Bool} (h:b=true):Itm:=⟨[.br true],[b=true],⟨h,trivial⟩⟩
def kf {b:Bool} (h:b=false):Itm:=⟨[.br false],[b=false],⟨h,trivial⟩⟩
def kv {x y:AV} (d:Nat) (h:Sub x y):Itm:=⟨[.val (some d) y],[Sub x y],⟨h,trivial⟩⟩
def kl {P:Program} {G:Nat→Option (List AV)} {r:Option Nat} {n0:Nat} {c:Code} {s:St} {ex:AEx} {s':St} (dead:List Nat) (n:Nat) (h:RunL P G r n0 c s ex s'):Itm:=⟨[.loop dead n ex s'.env s'.H],[RunL P G r n0 c s ex s'],⟨h,trivial⟩⟩
def kr {P:Program} {G:Nat→Option (List AV)} {r:Option Nat} {n0:Nat} {c:Code} {s:St} {ex:AEx} {s':St} (dead:List Nat) (n:Nat) (h:RunC P G r n0 c s ex s'):Itm:=⟨[.loop dead n ex s'.env s'.H],[RunC P G r n0 c s ex s'],⟨h,trivial⟩⟩
section
variable {P:Program} {G:Nat→Option (List AV)}
theorem callC_of {f:FuncId} {args:List AV} {H:List AObj} {out:AOut} {H':List AObj} (l:List Itm) (h:runF P G f args H (orcsOf l)=some (out,H',propsOf l)):CallC P G f args H out H':=callC_of_run _ h (propsAll l)
theorem callC_out {f:FuncId} {args:List AV} {H:List AObj} {x y:AV} {H':List AObj} (hs:Sub x y) (l:List Itm) (h:runF P G f args H (orcsOf l)=some (.ret x,H',propsOf l)):CallC P G f args H (.ret y) H':=CallC.out (callC_of l h) hs
theorem loop_next {r:Option Nat} {n0:Nat} {c:Code} {s s2 s':St} {ex:AEx} (l:List Itm) (dead:List Nat) (n:Nat) (hn:RunL P G r n0 c s2 ex s') (h:loopStep P G r n0 c s (orcsOf l) dead n=some (s2,propsOf l)):RunL P G r n0 c s ex s':=RunL.next _ _ _ h (propsAll l) hn
theorem loop_exit {r:Option Nat} {n0:Nat} {c:Code} {s s':St} {ex:AEx} (l:List Itm) (dead:List Nat) (n:Nat) (h:loopExit P G r n0 c s (orcsOf l) dead n=some (ex,s',propsOf l)):RunL P G r n0 c s ex s':=RunL.exit _ _ _ h (propsAll l)
theorem yieldC_of {id:Nat} {args:List AV} {H:List AObj} {b:Bool} {H':List AObj} (l:Option Nat→List Itm) (h:∀ r,runY P G r id args H (orcsOf (l none))=some (b,H',propsOf (l r))):YieldC P G id args H b H':=yieldC_of_run _ h fun r=>propsAll (l r)
end
end Go.Am


namespace Go.Am
open Go
section
variable {P:Program} {G:Nat→Option (List AV)}
theorem frzBox_step {V:View} {b j:Nat} {cells:List AV} {x y:AV} {z:List (List AV)} {H1:List AObj} {ps:List Prop} (hG:HeapRep G V) (hb:V.H[b]? = some (.box cells)) (hb1:H1[b]? = some (.box cells)) (hj:cells[j]? = some x)
 (ha:evalFrz V.H x z=some (y,H1,ps)) (hps:AllP ps):∃ V':View,V'.w=V.w∧V'.H=H1.set b (.box (cells.set j y))∧Step V V'∧HeapRep G V':=by
 obtain ⟨t,vs,h1,h2⟩:=hG.obj b _ hb
 have hjl:=(List.getElem?_eq_some_iff.1 hj).1
 have hx:Rep V x (vs.getD j undef):=by
  have:=h2.2 j hjl
  rwa [show cells.getD j .dead=x by rw [List.getD_eq_getElem?_getD,hj]; rfl] at this
 obtain ⟨V1,k1,k2,k3,k4,k5⟩:=frz_sound ha hps hG hx
 have hob:=k4.obj b _ (by rw [k2]; exact hb1)
 obtain ⟨t',vs',o1,o2⟩:=hob
 have hρ:V1.ρ b=V.ρ b:=by
  have hlt:=(List.getElem?_eq_some_iff.1 hb).1
  have:=k3.obj b hlt
  unfold ObjStep at this
  rw [hb,k2,hb1] at this
  exact this
 have hev:vs'=vs:=by
  rw [hρ,k1,h1] at o1
  injection o1 with o1
  injection o1 with o1
  simpa using o1.symm
 subst hev
 have hr:Reps V1 (cells.set j y) vs':=by
  have:=o2.set j k5
  have e:vs'.set j (vs'.getD j undef)=vs':=by
   apply List.ext_getElem?
   intro i
   rw [List.getElem?_set]
   split
   · rename_i e; subst e
     have:j<vs'.length:=by rw [o2.1]; exact hjl
     rw [if_pos this,List.getD_eq_getElem?_getD,List.getElem?_eq_getElem this]; rfl
   · rfl
  rwa [e] at this
 obtain ⟨V2,l1,l2,l3,l4⟩:=step_set (obj:=.box cells) (obj':=.box (cells.set j y)) (w':=V1.w) k4 (by rw [k2]; exact hb1) rfl o1 o1 rfl (fun _ _=>rfl) rfl rfl rfl rfl trivial (fun V' hw hs=>⟨t',vs',by rw [hw]; exact o1,hr.step hs⟩)
 exact ⟨V2,l1.trans k1,by rw [l2,k2],k3.trans l3,l4⟩
theorem RunL.frzBox {r:Option Nat} {n0:Nat} {c:Code} {s s':St} {ex:AEx} {b j:Nat} {cells:List AV} {x y:AV} {z:List (List AV)} {H1:List AObj} {ps:List Prop} (h:RunL P G r n0 c s ex s') (hb:s'.H[b]? = some (.box cells)) (hb1:H1[b]? = some (.box cells)) (hj:cells[j]? = some x)
 (ha:evalFrz s'.H x z=some (y,H1,ps)) (hps:AllP ps):RunL P G r n0 c s ex { env:=s'.env,H:=H1.set b (.box (cells.set j y)),defs:=s'.defs } :=
 fun V0 V a h0 k1 k2 k3=>LoopIn.mono (h V0 V a h0 k1 k2 k3) fun _ _ _ hE=>by
  obtain ⟨V1,rfl,l1,l2,l3,l4⟩:=hE
  obtain ⟨V2,a1,a2,a3,a4⟩:=frzBox_step l2 (l3.H ▸ hb) hb1 hj (l3.H ▸ ha) hps
  exact ⟨V2,a1,l1.trans a3,a4,⟨l3.env.step a3,a2,l3.defs.step a3⟩,l4.step a3⟩
theorem RunL.cut {r:Option Nat} {n0:Nat} {c:Code} {s s' s2:St} {ex:AEx} {ps:List Prop} (n:Nat) (h:RunL P G r n0 c s ex s') (hex:∀ x,ex≠.pan x) (hw:weakA n0 [] n s'=some (s2,ps)) (hps:AllP ps):RunL P G r n0 c s ex s2 :=
 fun V0 V a h0 k1 k2 k3=>LoopIn.mono (h V0 V a h0 k1 k2 k3) fun e _ _ hE=>by
  obtain ⟨V1,rfl,l1,l2,l3,l4⟩:=hE
  obtain ⟨V2,m1,m2,m3,m4⟩:=weak_sound hw hps h0 l1 l2 l3
  exact ⟨V2,m1,m2,m3,m4,by cases ex<;>cases e<;>first | exact l4 | exact (hex _ rfl).elim⟩
end
end Go.Am


namespace Go.Am
open Go
section
variable {P:Program} {G:Nat→Option (List AV)}
theorem nil_nil:([]:List (List AV))=[]:=rfl
theorem CallC.slEmpty {f:FuncId} {H H':List AObj} {out:AOut} {sz:Nat} {tg:Bool} (h0:∀ cap,CallC P G f [.lit (.slice none 0 cap)] H out H') (h1:∀ a cap,CallC P G f [.lit (.slice (some a) 0 cap)] H out H'):CallC P G f [.sl sz tg []] H out H':=by
 intro V vs hH hG hr
 obtain ⟨v,rfl⟩:∃ v,vs=[v]:=by
  have:=hr.1
  match vs,this with
  | [v],_=>exact ⟨v,rfl⟩
 have hx:=rep_sl hr.head
 obtain ⟨A,cap,rfl,_⟩:=sl_inv hx
 cases A with
 | none=>exact h0 cap V _ hH hG (.cons (.pure _ _ (.lit _)) .nil)
 | some a=>exact h1 a cap V _ hH hG (.cons (.pure _ _ (.lit _)) .nil)
theorem CallC.frzArg {f:FuncId} {g sz n:Nat} {xs z:List (List AV)} {out:AOut} (hz:xs.take n=z) (hn:z.length=n) (hp:∀ c∈z,c.all AV.pureB=true) (hf:out.idFree=true) (hc:CallC P G f [.sl sz false z] [] out []) :
 CallC P G f [.own 0 g 0 n] [.arr g sz false xs] out [.arr g sz true xs]:=by
 intro V vs hH hG hr
 have hfr:evalFrz V.H (.own 0 g 0 n) z=some (.sl sz false z,[.arr g sz true xs],[g=g,(xs.drop 0).take n=z,z.length=n,∀ c∈z,c.all AV.pureB=true]):=by
  rw [hH]; rfl
 obtain ⟨v,rfl⟩:∃ v,vs=[v]:=by
  have:=hr.1
  match vs,this with
  | [v],_=>exact ⟨v,rfl⟩
 obtain ⟨V1,k1,k2,k3,k4,k5⟩:=frz_sound hfr ⟨rfl,by rw [List.drop_zero]; exact hz,hn,hp,trivial⟩ hG hr.head
 have hx:Reps V1 [.sl sz false z] [v]:=.cons k5 .nil
 have hin:AV.idsInL [] [AV.sl sz false z]=true:=rfl
 have r:=renL_none (at0 []) [AV.sl sz false z] hin
 have:=CallC.frame hc k4 (e:=[]) List.nodup_nil (by simp) rfl (fun i o ho=>by simp at ho) (fun i o ho=>by simp at ho) hx r.1.symm (r.2 _)
 rw [AOut.ren_free hf,show backHeap [] V1.H []=V1.H by simp [backHeap,putBack],k2,k1] at this
 exact this.mono fun e w' ⟨V2,a1,a2,a3,a4,a5⟩=>⟨V2,a1,k3.trans a2,a3,a4,a5⟩
end
end Go.Am


namespace Go.Am
open Go
section
variable {P:Program} {G:Nat→Option (List AV)}
def Code.hd:Code→Code
 | .seq x _=>x
 | c=>c
def Code.tl:Code→Code
 | .seq _ y=>y
 | c=>c
def Code.inB:Code→Code
 | .block _ c=>c
 | c=>c
def PieceC (P:Program) (G:Nat→Option (List AV)) (r:Option Nat) (n0:Nat) (c:Code) (s s2:St):Prop :=
 ∀ (V0 V:View) (a:Act) (K:Act→World→Prop) (Q:Exit→Act→World→Prop),V0.H.length=n0→Step V0 V→HeapRep G V→StOk V s a →
  (∀ V2 a2,Step V0 V2→HeapRep G V2→StOk V2 s2 a2→K a2 V2.w)→c.wpIn (fz r) 0 P (Exit.then K Q) a V.w
theorem piece_of_run {r:Option Nat} {n0:Nat} {c:Code} {s s2:St} {ps:List Prop} (orc:List Orc) (dead:List Nat) (n:Nat) (h:loopStep P G r n0 c s orc dead n=some (s2,ps)) (hps:AllP ps):PieceC P G r n0 c s s2:=by
 intro V0 V a K Q h0 hs hG hok next
 unfold loopStep at h
 split at h
 · rename_i s1 orc1 qs h1
   split at h
   · rename_i s3 rs h2
     cases h
     obtain ⟨hq,hr⟩:=allP_append.1 hps
     refine Go.wpIn_mono (runC_sound c h1 hq V0 V a h0 hs hG hok) ?_
     refine Ends.after fun V1 a1 k1 k2 k3=>?_
     obtain ⟨V2,l1,l2,l3,l4⟩:=weak_sound h2 hr h0 k1 k2 k3
     rw [← l1]
     exact next V2 a1 l2 l3 l4
   · cases h
 · cases h
theorem piece_of {r:Option Nat} {n0:Nat} {c:Code} {s s2:St} (l:List Itm) (dead:List Nat) (n:Nat) (h:loopStep P G r n0 c s (orcsOf l) dead n=some (s2,propsOf l)):PieceC P G r n0 c s s2:=piece_of_run _ dead n h (propsAll l)
theorem PieceC.seq {r:Option Nat} {n0:Nat} {x y:Code} {s s2:St} (h:PieceC P G r n0 x s s2) {V0 V:View} {a:Act} {Q:Exit→Act→World→Prop} (h0:V0.H.length=n0) (hs:Step V0 V) (hG:HeapRep G V) (hok:StOk V s a)
 (next:∀ V2 a2,Step V0 V2→HeapRep G V2→StOk V2 s2 a2→y.wpIn (fz r) 0 P Q a2 V2.w):(Code.seq x y).wpIn (fz r) 0 P Q a V.w:=Go.wpIn_seq (h V0 V a (fun a w=>y.wpIn (fz r) 0 P Q a w) Q h0 hs hG hok next)
theorem PieceC.round {r:Option Nat} {n0:Nat} {c:Code} {s s2:St} (h:PieceC P G r n0 c s s2) {V0 V:View} {a:Act} {Q:Exit→Act→World→Prop} (h0:V0.H.length=n0) (hs:Step V0 V) (hG:HeapRep G V) (hok:StOk V s a)
 (next:∀ V2 a2,Step V0 V2→HeapRep G V2→StOk V2 s2 a2→LoopIn (fz r) 0 P c Q a2 V2.w):LoopIn (fz r) 0 P c Q a V.w:=LoopIn.next (h V0 V a (LoopIn (fz r) 0 P c Q) Q h0 hs hG hok next)
theorem runD_pre {ops:Array Oper} {Q:Exit→Act→World→Prop}:∀ {os1 os2:List Oper} {r:Option Nat} {i:Nat} {env:List AV} {H:List AObj} {ds:List ADef} {orc:List Orc} {env':List AV} {H':List AObj} {ds':List ADef} {orc':List Orc} {ps:List Prop},
 runD P G r ops i os1 env H ds orc=some (.normal,env',H',ds',orc',ps)→AllP ps→ops.toList.drop i=os1++os2→∀ {V:View} {a:Act},HeapRep G V→V.H=H→EnvOk V env a→DefsRep V ds a.defers →
 (∀ V' a',Step V V'→HeapRep G V'→V'.H=H'→EnvOk V' env' a'→DefsRep V' ds' a'.defers→wpOpsIn (fz r) 0 P ops Q ((List.range ops.size).drop (i+os1.length)) a' V'.w) →
 wpOpsIn (fz r) 0 P ops Q ((List.range ops.size).drop i) a V.w
 | [],os2,r,i,env,H,ds,orc,env',H',ds',orc',ps,h,hps,hos,V,a,hG,hH,he,hd,n1=>by
  simp only [runD,Option.some.injEq,Prod.mk.injEq] at h
  obtain ⟨_,rfl,rfl,rfl,_,_⟩:=h
  exact n1 V a (Step.refl V) hG hH he hd
 | o::os,os2,r,i,env,H,ds,orc,env',H',ds',orc',ps,h,hps,hos,V,a,hG,hH,he,hd,n1=>by
  have hlt:i<ops.size:=by
   rcases Nat.lt_or_ge i ops.size with h | h
   · exact h
   · rw [List.drop_eq_nil_of_le (by simpa using h)] at hos; cases hos
  have hlt':i<ops.toList.length:=by simpa using hlt
  rw [List.drop_eq_getElem_cons hlt',List.cons_append] at hos
  injection hos with ho hos'
  have ho':ops[i]? = some o:=by rw [← ho]; simp [hlt]
  have hr:(List.range ops.size).drop i=i::(List.range ops.size).drop (i+1):=by
   rw [List.drop_eq_getElem_cons (by simpa using hlt)]; simp
  rw [hr,wpOpsIn_cons]
  have e1:i+(o::os).length=(i+1)+os.length:=by rw [List.length_cons]; omega
  rw [e1] at n1
  have key:=fun {k:Kind} {out:AOut} {H1:List AObj} {orc1:List Orc} {qs:List Prop} (hst:stepA P G ops (guards ops i) env H o orc=some (k,out,H1,orc1,qs)) (hq:AllP qs)=>stepA_sound (r:=r) (a:=a) ho' hst hq hG (fun t _=>he.get t) (.inl hH)
  unfold runD at h
  split at h
  · rename_i c hop hgd hdst
    split at h
    · rename_i d hdf
      obtain ⟨dd,k1,k2⟩:=deferA_sound (P:=P) hG he hdf o.type
      unfold wpOpIn
      rw [ho']
      have hw:Region.wanted o (yielded ops a.tmps)=true:=by unfold Region.wanted; rw [hgd]
      simp only [hw,if_true]
      refine ⟨fun _ _=>trivial,?_⟩
      have hrun:(execOp a.eval o).run P V.w = .ok (.defer dd) V.w:=by
       rw [execOp,hop]
       simp only [Sem.run_bind,k1,Result.andThen,Sem.run_pure]
      show o.uponIn _ _ P a _ Q ((Oper.semAt none a.eval o).run P V.w)
      rw [Oper.semAt_none,hrun,Oper.uponIn_defer,hdst]
      exact runD_pre h hps hos' (a:={ a with defers:=dd::a.defers }) hG hH he (.cons k2 hd) n1
    · cases h
  · split at h
    · rename_i k x H1 orc1 qs hst
      split at h
      · rename_i ex1 env1 H2 ds1 orc2 rs hrec
        cases h
        obtain ⟨hq,hrs⟩:=allP_append.1 hps
        obtain ⟨h1,h2⟩:=key hst hq
        refine h1 _ Q (fun V' v x' hx hs hG' hH' hrep=>?_) (fun V' v x' hx=>by cases hx)
        cases hx
        have hH1:V'.H=H1:=by
         rw [hH']
         split
         · rename_i hk; rw [hH,h2 (by rw [hk]; simp)]
         · rfl
        have he':=(he.step hs).put o.dst hrep
        exact runD_pre hrec hrs hos' hG' hH1 he' (by rw [put_def]; exact hd.step hs)
         (fun V2 a2 s2 g2 hh2 e2 d2=>n1 V2 a2 (hs.trans s2) g2 hh2 e2 d2)
      · cases h
    · rename_i k x H1 orc1 qs hst
      cases h
    · cases h
theorem callV_wp {ops:Array Oper} {r:Option Nat} {Q:Exit→Act→World→Prop} {i:Nat} {rest:List Nat} {o:Oper} {g:Operand} {args:Array Operand} {ts:Array TypeId} {f:FuncId} {fn:Func} {us vs:Array Value} {a:Act} {w:World} {R:Ending→World→Prop}
 (ho:ops[i]? = some o) (hgd:o.guard=none) (hop:o.op = .call { callee:=.value g,args:=args,argTypes:=ts }) (hfn:P.funcs[f]? = some fn) (hok:funcOk P f=true) (hg:a.eval g = .func (.func f) us vs)
 (hc:CallsIn Fence.wide 0 P f (us++args.map a.eval++vs) w R) (next:∀ e w',R e w'→∃ v,e = .returned v∧wpOpsIn (fz r) 0 P ops Q rest (a.put o.dst v) w'):wpOpsIn (fz r) 0 P ops Q (i::rest) a w:=by
 rw [wpOpsIn_cons]
 unfold wpOpIn
 rw [ho]
 have hw:Region.wanted o (yielded ops a.tmps)=true:=by unfold Region.wanted; rw [hgd]
 simp only [hw,if_true]
 refine ⟨fun _ _=>trivial,?_⟩
 have hrun:(execOp a.eval o).run P w = .ok (.enter f (us++args.map a.eval++vs)) w:=by
  unfold funcOk at hok
  rw [hfn] at hok
  simp only [Bool.and_eq_true,Bool.not_eq_true',beq_eq_false_iff_ne,ne_eq] at hok
  obtain ⟨c,hb⟩:=Option.isSome_iff_exists.1 hok.1
  rw [execOp,hop]
  simp [resolve,Deferred.ofValue,hg,invoke,callFunc,hfn,hok.2,hb]
 rw [Oper.semAt_eq _ _ _ (fun c hc=>by rw [hop] at hc; cases hc),hrun]
 refine ⟨fun h=>(by cases h),(callsIn_fz r hc).mono fun e w' he=>?_⟩
 obtain ⟨v,rfl,h⟩:=next e w' he
 exact h
theorem callsIn_body {f:FuncId} {fn:Func} {c:Code} {vs:Array Value} {w:World} {R:Ending→World→Prop} (hfn:P.funcs[f]? = some fn) (hb:fn.body=some c)
 (h:c.wpIn Fence.wide 0 P (fun e a w=>(e = .normal∨e = .ret)∧a.defers=[]∧∃ v,(results fn a.tmps).run P w = .ok v w∧R (.returned v) w) { tmps:=vs++Array.replicate (fn.ntmps - vs.size) undef,defers:=[] } w):CallsIn Fence.wide 0 P f vs w R:=by
 refine callsIn_of_wp_marks hfn hb trivial (Go.wpIn_mono h ?_)
 intro e a w' hE
 obtain ⟨he,hd,hr⟩:=hE
 rcases he with rfl | rfl
 · show LeavesInM Fence.wide 0 P fn a.tmps R a.defers .returning w'
   rw [hd]; exact hr
 · show LeavesInM Fence.wide 0 P fn a.tmps R a.defers .returning w'
   rw [hd]; exact hr
theorem ends_goes {V:View} {fn:Func} {ex:AEx} {s:St} {orc1:List Orc} {out:AOut} {H':List AObj} {ps:List Prop} (hfin:finF P G V.H.length fn ex s orc1=some (out,H',ps)) (hr:AllP ps):∀ e a' w',Ends G V ex s e a' w'→bodyPostM Fence.wide 0 P fn (Goes G V H' out) e a' w':=by
 intro e a' w' hE
 obtain ⟨V1,rfl,k1,k2,k3,k4⟩:=hE
 obtain ⟨m,hm,hmr⟩:∃ m u,ex.mode=some m∧ModeRep V1 m u∧(LeavesInM Fence.wide 0 P fn a'.tmps (Goes G V H' out) a'.defers u V1.w→bodyPostM Fence.wide 0 P fn (Goes G V H' out) e a' V1.w):=by
  cases ex<;>cases e<;>first | exact k4.elim | skip
  · exact ⟨_,.returning,rfl,rfl,id⟩
  · simp [finF,AEx.mode] at hfin
  · simp [finF,AEx.mode] at hfin
  · exact ⟨_,.returning,rfl,rfl,id⟩
  · obtain ⟨v,rfl,hv⟩:=k4
    exact ⟨_,_,rfl,⟨v,rfl,hv⟩,id⟩
 obtain ⟨hmode,hmr,hgo⟩:=hmr
 refine hgo ?_
 unfold finF at hfin
 rw [hmode] at hfin
 simp only at hfin
 split at hfin
 · rename_i y H2 qs2 hlv
   split at hfin
   · rename_i xs hres
     split at hfin
     · rename_i H3 qs3 hcut
       cases hfin
       obtain ⟨hr1,hr2⟩:=allP_append.1 hr
       refine leave_sound (by rw [k3.H]; exact hlv) hr1 k2 k3.defs hmr fun V2 u2 s2 g2 h2 m2=>?_
       rw [show u2 = .returning from m2]
       obtain ⟨us,m1,m2⟩:=resA_sound (a:=a') g2 (k3.env.step s2) (by rw [h2]; exact hres)
       obtain ⟨V3,n1,n2,n3,n4,n5⟩:=cutF_sound (V0:=V) (by rw [h2]; exact hcut) hr2 rfl (k1.trans s2) g2 (outA_rep m2)
       refine ⟨_,?_,V3,n1,n2,n3,n4,n5⟩
       unfold results
       rw [Array.mapM_eq_mapM_toList]
       simp only [Sem.run_bind,Sem.run_map,Result.andThen,Sem.run_pure]
       generalize hz:Sem.run P (List.mapM _ fn.results.toList) V2.w=z
       have hz2:z=Result.ok us V2.w:=hz.symm.trans m1
       subst hz2
       rfl
     · cases hfin
   · cases hfin
 · rename_i x H2 qs2 hlv
   split at hfin
   · rename_i H3 qs3 hcut
     cases hfin
     obtain ⟨hr1,hr2⟩:=allP_append.1 hr
     refine leave_sound (by rw [k3.H]; exact hlv) hr1 k2 k3.defs hmr fun V2 u2 s2 g2 h2 m2=>?_
     obtain ⟨v,rfl,hv⟩:=m2
     obtain ⟨V3,n1,n2,n3,n4,n5⟩:=cutF_sound (V0:=V) (by rw [h2]; exact hcut) hr2 rfl (k1.trans s2) g2 hv
     exact ⟨V3,n1,n2,n3,n4,v,rfl,n5⟩
   · cases hfin
 · cases hfin
end
end Go.Am
