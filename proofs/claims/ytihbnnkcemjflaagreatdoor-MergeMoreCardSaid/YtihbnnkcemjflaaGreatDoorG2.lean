import Derived.Test.YtihbnnkcemjflaaGreatDoorG1
import Derived.Laws.BytesArg
import Derived.Maps.Keyed
import Derived.Lib.BytesEntry
import Derived.Lib.SliceRun
import Derived.Laws.Externs
set_option maxRecDepth 100000
set_option linter.unusedSimpArgs false
set_option linter.unusedVariables false

namespace Go.Am
open Go
def isSelect:Op→Bool
 | .select .. => true
 | _=>false
def evalLit (P:Program) (ev:Operand→AV) (o:Oper):Option AV :=
 if isSelect o.op then none else
 if o.op.operands.toList.all fun x=>(ev x).toVal.isSome then
  (match calm P (execOp (fun x=>(ev x).toVal.getD undef) o) with
   | some (.value v)=>some (.lit v)
   | _=>none) else none
def buildA (P:Program) (t:TypeId) (parts:List (Nat × AV)):Option AV :=
 match P.info? t,P.underlying t with
 | some it,some (.array _ e) =>
  match it.zero,P.info? e with
  | some z,some ie=>(fillA (fun i=>some (i * ie.size,ie.size)) (z.cells.toList.map .lit) parts).map .agg
  | _,_=>none
 | some it,some (.struct fields) =>
  match it.zero,fields.toList.mapM (fun f=>(P.info? f.type).map fun i=>(f.offset,i.size)) with
  | some z,some places=>(fillA (places[·]?) (z.cells.toList.map .lit) parts).map .agg
  | _,_=>none
 | _,_=>none
def litInt:AV→Option Int
 | .lit (.int _ n)=>some n
 | _=>none
def boundA (ev:Operand→AV) (d:Int):Option Operand→Option Int
 | none=>some d
 | some x=>litInt (ev x)
def MapGet (P:Program) (kt:TypeId) (es:List (Value × AV)) (k:Value) (z x:AV) (ok:Bool):Prop :=
 Maps.Keyed P kt∧(∃ l,keyOf P kt k=some l)∧(∀ e∈es,∃ l,keyOf P kt e.1=some l)∧((ok=true∧(k,x)∈es)∨(ok=false∧x=z∧∀ e∈es,e.1≠k))
def MapPut (P:Program) (kt:TypeId) (es:List (Value × AV)) (k:Value) (x:AV) (es':List (Value × AV)):Prop :=
 Maps.Keyed P kt∧(∃ l,keyOf P kt k=some l)∧(∀ e∈es,∃ l,keyOf P kt e.1=some l) ∧
  ((∃ aZ bs y,es=aZ++(k,y)::bs∧es'=aZ++(k,x)::bs)∨((∀ e∈es,e.1≠k)∧es'=es++[(k,x)]))
def MapEnt (P:Program) (kt:TypeId) (es:List (Value × AV)) (k:Value) (z x:AV) (i:Nat) (es':List (Value × AV)):Prop :=
 Maps.Keyed P kt∧(∃ l,keyOf P kt k=some l)∧(∀ e∈es,∃ l,keyOf P kt e.1=some l) ∧
  ((∃ aZ bs,es=aZ++(k,x)::bs∧i=aZ.length∧es'=es)∨((∀ e∈es,e.1≠k)∧x=z∧i=es.length∧es'=es++[(k,z)]))
def setE (es:List (Value × AV)) (i:Nat) (x:AV):List (Value × AV):=es.modify i fun e=>(e.1,x)
def lookA (P:Program) (t:TypeId) (es:List (Value × AV)) (k:AV) (c:Bool) (orc:List Orc):Option (AV × List Orc × List Prop) :=
 match P.underlying t,k.toVal,orc with
 | some (.map kt et),some kv,.mget x ok::orc'=>match calm P (zeroValue et) with
  | some z=>some (if c=true then .tup [x,.lit (.bool ok)] else x,orc',[MapGet P kt es kv (.lit z) x ok])
  | none=>none
 | _,_,_=>none
theorem lookA_sound {P:Program} {V:View} {t:TypeId} {es es0:List (Value × AV)} (hperm:es0.Perm es) {k x:AV} {c:Bool} {orc orc':List Orc} {ps:List Prop} (h:lookA P t es k c orc=some (x,orc',ps)) (hps:AllP ps)
 {kv:Value} (hk:Rep V k kv) {r:Nat} {ents:List MapEntry} {clock:Nat} (hb:V.w.heap[r]? = some (.map ents.toArray clock)) (hks:ents.map (·.key)=es0.map (·.1)) (hd:(es0.map (·.1)).Nodup)
 (hr:∀ j,j<es0.length→Rep V (atE es0 j) (atV ents j)):∃ v,(Instr.lookup t (.map (some r)) kv c).run P V.w = .ok v V.w∧Rep V x v:=by
 unfold lookA at h
 split at h
 · rename_i kt et ku y ok orc1 ht hku
   split at h
   · rename_i z hz
     cases h
     obtain ⟨⟨K,⟨l,hl⟩,hes,hget⟩,_⟩:=hps
     have hz':=calm_run hz V.w
     obtain rfl:=rep_toVal hku hk
     have hes:∀ e∈es0,∃ l,keyOf P kt e.1=some l:=fun e he=>hes e (hperm.mem_iff.1 he)
     have hget:(ok=true∧(kv,y)∈es0)∨(ok=false∧y = .lit z∧∀ e∈es0,e.1≠kv):=hget.imp (fun h=>⟨h.1,hperm.mem_iff.2 h.2⟩) (fun h=>⟨h.1,h.2.1,fun e he=>h.2.2 e (hperm.mem_iff.1 he)⟩)
     clear hperm
     have keyAt:∀ {i:Nat} {e:MapEntry},ents[i]? = some e→∃ p,es0[i]? = some p∧p.1=e.key:=fun {i e} he=>by
      have h1:(ents.map (·.key))[i]? = some e.key:=by rw [List.getElem?_map,he]; rfl
      rw [hks,List.getElem?_map] at h1
      obtain ⟨p,hp,hpe⟩:=Option.map_eq_some_iff.1 h1
      exact ⟨p,hp,hpe⟩
     have hkeys:∀ e∈ents.toArray.toList,∃ l,keyOf P kt e.key=some l:=fun e he=>by
      obtain ⟨i,hi⟩:=List.mem_iff_getElem?.1 (by simpa using he)
      obtain ⟨p,hp,hpe⟩:=keyAt hi
      rw [← hpe]
      exact hes p (List.mem_of_getElem? hp)
     have fin:∀ {v:Value} {o:Bool} {q:AV},Rep V q v→Rep V (if c=true then .tup [q,.lit (.bool o)] else q) (if c=true then .tuple #[v,.bool o] else v):=fun {v o q} hq=>by
      cases c with
      | false=>exact hq
      | true=>exact .tup [q,.lit (.bool o)] [v,.bool o] rfl (Reps.cons hq (.cons (.pure _ _ (.lit _)) .nil)).2
     rcases K.find V.w hl ents.toArray.toList hkeys with ⟨h1,h2⟩ | ⟨j,e0,h1,h2,h3⟩
     · have hno:∀ e∈es0,e.1≠kv:=fun e he hek=>by
        have:e.1∈es0.map (·.1):=List.mem_map.2 ⟨e,he,rfl⟩
        rw [← hks] at this
        obtain ⟨e',he',hke⟩:=List.mem_map.1 this
        exact h2 e' (by simpa using he') (hke.trans hek)
       rcases hget with ⟨_,hm⟩ | ⟨rfl,rfl,_⟩
       · exact absurd rfl (hno _ hm)
       · exact ⟨if c=true then .tuple #[z,.bool false] else z,by simp [Instr.lookup,run_underlying ht,MapKept.run_getObj_map hb,K.check V.w _ hl,h1,hz',Result.andThen],fin (.pure _ _ (.lit _))⟩
     · have h2':ents[j]? = some e0:=by simpa using h2
       obtain ⟨p,hp,hpe⟩:=keyAt h2'
       have hjlt:=(List.getElem?_eq_some_iff.1 hp).1
       rcases hget with ⟨rfl,hm⟩ | ⟨_,_,hno⟩
       · obtain ⟨i,hi⟩:=List.mem_iff_getElem?.1 hm
         have hilt:=(List.getElem?_eq_some_iff.1 hi).1
         have hij:i=j:=by
          have a1:(es0.map (·.1))[i]? = some kv:=by rw [List.getElem?_map,hi]; rfl
          have a2:(es0.map (·.1))[j]? = some kv:=by rw [List.getElem?_map,hp]; simp [hpe,h3]
          exact (List.getElem?_inj (by simpa using hilt) hd).1 (a1.trans a2.symm)
         subst hij
         have hv:atV ents i=e0.val:=by unfold atV; rw [List.getD_eq_getElem?_getD,h2']; rfl
         have hx:atE es0 i=y:=by unfold atE; rw [List.getD_eq_getElem?_getD,hi]; rfl
         have:=hr i hilt
         rw [hv,hx] at this
         exact ⟨if c=true then .tuple #[e0.val,.bool true] else e0.val,by simp [Instr.lookup,run_underlying ht,MapKept.run_getObj_map hb,K.check V.w _ hl,h1,Result.andThen],fin this⟩
       · exact absurd (hpe.trans h3) (hno p (List.mem_of_getElem? hp))
   · cases h
 · cases h
def isU8 (P:Program) (e:TypeId):Bool:=match P.underlying e with
 | some (.int .u8)=>true
 | _=>false
theorem isU8_eq {P:Program} {e:TypeId} (h:isU8 P e=true):P.underlying e=some (.int .u8):=by
 unfold isU8 at h
 split at h
 · assumption
 · cases h
def evalBin0 (P:Program) (ev:Operand→AV) (o:Oper) (op:BinOp) (t:TypeId) (x y:Operand):Option (AV × List Prop) :=
 match op,(ev x).toVal,(ev y).toVal with
 | .eql,some (.agg xs),some (.agg ys)=>if P.eqGuardType P.depth t=false then (match plainEq P 10000 t,tAgg P t with
  | some ks,some true=>(eqAll ks xs.toList ys.toList).map fun b=>(.lit (.bool b),[])
  | _,_=>none) else none
 | .neq,some (.agg xs),some (.agg ys)=>if P.eqGuardType P.depth t=false then (match plainEq P 10000 t,tAgg P t with
  | some ks,some true=>(eqAll ks xs.toList ys.toList).map fun b=>(.lit (.bool (!b)),[])
  | _,_=>none) else none
 | .add,some (.string a),some (.string b)=>some (.lit (.string (a++b)),[((a.size+b.size:Nat):Int)≤IntKind.i64.max])
 | .shl,some (.int k a),some (.int _ n)=>some (.lit (.int k (k.wrap (a * 2 ^ (min n.toNat k.bits)))),[0≤n])
 | .shr,some (.int k a),some (.int _ n)=>some (.lit (.int k (a.fdiv (2 ^ (min n.toNat k.bits)))),[0≤n])
 | .quo,some (.int k a),some (.int k' b)=>if k=k' then some (.lit (.int k (k.wrap (a.tdiv b))),[b≠0]) else none
 | .rem,some (.int k a),some (.int k' b)=>if k=k' then some (.lit (.int k (a.tmod b)),[b≠0]) else none
 | _,_,_=>(evalLit P ev o).map (·,[])
def nilSl (P:Program) (op:BinOp) (t:TypeId) (x y:AV):Option (AV × List Prop) :=
 match op,P.underlying t,x,y with
 | .eql,some (.slice _),.sl _ _ xs,.lit (.slice none _ _)=>some (.lit (.bool false),[xs≠[]])
 | .neq,some (.slice _),.sl _ _ xs,.lit (.slice none _ _)=>some (.lit (.bool true),[xs≠[]])
 | _,_,_,_=>none
def evalBin (P:Program) (ev:Operand→AV) (o:Oper) (op:BinOp) (t:TypeId) (x y:Operand):Option (AV × List Prop) :=
 match nilSl P op t (ev x) (ev y) with
 | some r=>some r
 | none=>evalBin0 P ev o op t x y
def ExtCmp (P:Program) (f:FuncId):Prop:=∃ fn,P.funcs[f]? = some fn∧(fn.name == "runtime.NumGoroutine")=false∧fn.body.isNone=true∧Extern.findNext fn=none∧Extern.find fn=some Extern.BytealgCompare.compare
def byteA (s:ByteArray):List (List AV):=s.data.toList.map fun c=>[.lit (.int .u8 c.toNat)]
def evalFree (P:Program) (ev:Operand→AV) (o:Oper) (orc:List Orc):Option (AV × List Orc × List Prop) :=
 match o.op with
 | .move x | .assign x=>some (ev x,orc,[])
 | .pick c x y=>match ev c with
  | .lit (.bool true)=>some (ev x,orc,[])
  | .lit (.bool false)=>some (ev y,orc,[])
  | _=>none
 | .load t x=>match ev x with
  | .imm cs=>(loadA P t cs).map (·,orc,[])
  | _=>none
 | .fieldAddr t x f=>match fieldOff P t f,ev x with
  | some n,.ptr id off=>some (.ptr id (off+n),orc,[])
  | some n,.imm cs=>some (.imm (cs.drop n),orc,[])
  | _,_=>none
 | .field t x f=>match fieldOf P t f,ev x with
  | some fd,.agg cs=>(loadA P fd.type (cs.drop fd.offset)).map (·,orc,[])
  | some fd,.lit (.agg vs)=>(loadA P fd.type ((vs.toList.map AV.lit).drop fd.offset)).map (·,orc,[])
  | _,_=>none
 | .indexAddr t x i=>match P.underlying t,ev x,litInt (ev i) with
  | some (.slice e),.sl sz _ xs,some n=>match tSize P e,orc with
   | some s,.elem y::orc'=>if s=sz then some (.imm y,orc',[0≤n∧xs[n.toNat]? = some y]) else none
   | _,_=>none
  | some (.array m e),.ptr id off,some n=>match tSize P e with
   | some s=>some (.ptr id (off+n.toNat * s),orc,[0≤n∧n<(m:Int)])
   | none=>none
  | some (.array m e),.imm cs,some n=>match tSize P e with
   | some s=>some (.imm (cs.drop (n.toNat * s)),orc,[0≤n∧n<(m:Int)])
   | none=>none
  | _,_,_=>none
 | .slice t x lo hi none=>match P.underlying t,ev x,boundA ev 0 lo with
  | some (.slice e),.sl sz tg xs,some l=>match tSize P e,boundA ev xs.length hi with
   | some s,some h=>if s=sz then some (.sl sz (tg && hi.isNone) ((xs.take h.toNat).drop l.toNat),orc,[0≤l∧l≤h∧h≤(xs.length:Int)]) else none
   | _,_=>none
  | some .string,.lit (.string s),some l=>match boundA ev s.size hi with
   | some h=>some (.lit (.string (s.extract l.toNat h.toNat)),orc,[0≤l∧l≤h∧h≤(s.size:Int)])
   | none=>none
  | _,_,_=>none
 | .slice t x lo (some hi) (some mx)=>match P.underlying t,ev x,boundA ev 0 lo with
  | some (.slice e),.sl sz _ xs,some l=>match tSize P e,litInt (ev hi),litInt (ev mx) with
   | some s,some h,some m=>if s=sz then some (.sl sz false ((xs.take h.toNat).drop l.toNat),orc,[0≤l∧l≤h∧h≤m∧m≤(xs.length:Int)]) else none
   | _,_,_=>none
  | _,_,_=>none
 | .convert src dst x=>match P.underlying src,P.underlying dst,ev x,orc with
  | some (.slice e),some .string,.sl sz _ xs,.bytes s::orc'=>if sz=1∧isU8 P e=true then some (.lit (.string s),orc',[xs=s.data.toList.map fun c=>[.lit (.int .u8 c.toNat)]]) else none
  | some (.slice e),some .string,.lit (.slice none 0 0),_=>if isU8 P e=true then some (.lit (.string .empty),orc,[]) else none
  | _,_,_,_=>(evalLit P ev o).map (·,orc,[])
 | .lookup t x i c=>match ev x with
  | .md _ es=>lookA P t es (ev i) c orc
  | _=>none
 | .makeFunc f first captured=>some (.fn f (first.toList.map ev) (captured.toList.map ev),orc,[])
 | .extract x i=>match ev x with
  | .tup vs=>(vs[i]?).map (·,orc,[])
  | _=>none
 | .makeInterface t x=>match P.underlying t with
  | some (.interface _)=>none
  | some _=>some (.ifc t (ev x),orc,[])
  | none=>none
 | .nilCheck x=>match ev x with
  | .ptr id off=>some (.ptr id off,orc,[])
  | .imm cs=>some (.imm cs,orc,[])
  | .fn (.func f) aZ bs=>some (.fn (.func f) aZ bs,orc,[])
  | _=>none
 | .build t parts=>(buildA P t (parts.toList.map fun (i,x)=>(i,ev x))).map (·,orc,[])
 | .binOp op t x y _=>(evalBin P ev o op t x y).map fun (v,ps)=>(v,orc,ps)
 | .call { callee:=.builtin .len,args:=args,argTypes:=ts }=>match args.toList,ts.toList with
  | [x],[t]=>match P.underlying t,ev x with
   | some (.slice _),.sl _ _ xs=>some (.lit (.int .i64 xs.length),orc,[])
   | _,_=>(evalLit P ev o).map (·,orc,[])
  | _,_=>none
 | .call { callee:=.value g,args:=args,argTypes:=_ }=>match orc with
  | .cmpb s t::orc'=>match ev g,args.toList with
   | .lit (.func (.func f) us vs),[x,y]=>match ev x,ev y with
    | .sl sz _ xs,.sl sz' _ ys=>if us.isEmpty=true∧vs.isEmpty=true∧sz=1∧sz'=1 then some (.lit (.int .i64 (Lib.compareBytes s.data.toList t.data.toList)),orc',[ExtCmp P f,xs=byteA s,ys=byteA t]) else none
    | _,_=>none
   | _,_=>none
  | _=>(evalLit P ev o).map (·,orc,[])
 | _=>(evalLit P ev o).map (·,orc,[])
section
variable {P:Program} {V:View} {ev:Operand→AV} {ρ:Operand→Value} {o:Oper}
theorem evalLit_sound {x:AV} (h:evalLit P ev o=some x) (hr:∀ y∈o.op.operands,Rep V (ev y) (ρ y)) (w:World) :
 ∃ v,(execOp ρ o).run P w = .ok (.value v) w∧Rep V x v:=by
 unfold evalLit at h
 split at h
 · cases h
 · rename_i hne
   split at h
   · rename_i hall
     split at h
     · rename_i v hv
       cases h
       have hs:∀ cs b,o.op≠.select cs b:=fun cs b e=>hne (by rw [e]; rfl)
       have:execOp ρ o=execOp (fun x=>(ev x).toVal.getD undef) o:=execOp_congr o hs fun y hy=>by
        have hy':(ev y).toVal.isSome=true:=(List.all_eq_true.1 hall) y (by simpa using hy)
        obtain ⟨u,hu⟩:=Option.isSome_iff_exists.1 hy'
        simp only [hu,Option.getD_some]
        exact rep_toVal hu (hr y hy)
       rw [this]
       exact ⟨v,calm_run hv w,.pure _ _ (.lit v)⟩
     · cases h
   · cases h
theorem buildA_sound {t:TypeId} {parts:List (Nat × AV)} {vparts:List (Nat × Value)} {x:AV} (h:buildA P t parts=some x) (hi:vparts.map (·.1)=parts.map (·.1))
 (hp:Reps V (parts.map (·.2)) (vparts.map (·.2))) (w:World):∃ v,(Instr.build t vparts.toArray).run P w = .ok v w∧Rep V x v:=by
 unfold buildA at h
 cases hit:P.info? t with
 | none=>simp [hit] at h
 | some it =>
  cases hu:P.underlying t with
  | none=>simp [hit,hu] at h
  | some d =>
   cases hz:it.zero with
   | none=>cases d<;>simp [hit,hu,hz] at h
   | some z =>
    cases d<;>try (simp [hit,hu] at h; done)
    case array n e =>
     cases hie:P.info? e with
     | none=>simp [hit,hu,hz,hie] at h
     | some ie =>
      simp only [hit,hu,hz,hie] at h
      cases hf:fillA (fun i=>some (i * ie.size,ie.size)) (z.cells.toList.map .lit) parts with
      | none=>simp [hf] at h
      | some out =>
       simp [hf] at h; subst h
       obtain ⟨us,hus,hout⟩:=fillA_sound hf (Reps.lits (V:=V) z.cells.toList) hi hp
       refine ⟨.agg us.toArray,run_build w t _ _ ?_,.agg _ us hout.1 hout.2⟩
       simpa [Program.built,hit,hu,hz,hie] using hus
    case struct fields =>
     cases hpl:fields.toList.mapM (fun f=>(P.info? f.type).map fun i=>(f.offset,i.size)) with
     | none=>simp [hit,hu,hz,hpl] at h
     | some places =>
      simp only [hit,hu,hz,hpl] at h
      cases hf:fillA (places[·]?) (z.cells.toList.map .lit) parts with
      | none=>simp [hf] at h
      | some out =>
       simp [hf] at h; subst h
       obtain ⟨us,hus,hout⟩:=fillA_sound hf (Reps.lits (V:=V) z.cells.toList) hi hp
       refine ⟨.agg us.toArray,run_build w t _ _ ?_,.agg _ us hout.1 hout.2⟩
       simpa [Program.built,hit,hu,hz,hpl] using hus
theorem evalBin0_sound {op:BinOp} {t yt:TypeId} {x y:Operand} {v:AV} {ps:List Prop} (hop:o.op = .binOp op t x y yt) (h:evalBin0 P ev o op t x y=some (v,ps)) (hps:AllP ps)
 (hr:∀ y∈o.op.operands,Rep V (ev y) (ρ y)) (w:World):∃ u,(execOp ρ o).run P w = .ok (.value u) w∧Rep V v u:=by
 have hx:Rep V (ev x) (ρ x):=hr x (by simp [hop,Op.operands])
 have hy:Rep V (ev y) (ρ y):=hr y (by simp [hop,Op.operands])
 unfold evalBin0 at h
 split at h
 · rename_i xs ys h1 h2
   split at h
   · rename_i hg
     cases hpe:plainEq P 10000 t with
     | none=>simp [hpe] at h
     | some ks =>
      cases hta:tAgg P t with
      | none=>simp [hpe,hta] at h
      | some g =>
       cases g with
       | false=>simp [hpe,hta] at h
       | true =>
        simp only [hpe,hta] at h
        cases he:eqAll ks xs.toList ys.toList with
        | none=>simp [he] at h
        | some b =>
         simp [he] at h
         obtain ⟨rfl,rfl⟩:=h
         have e1:=rep_toVal h1 hx
         have e2:=rep_toVal h2 hy
         have hps:=plain_sound 10000 hpe he w
         simp only [wrapV,hta,if_true,Array.toArray_toList] at hps
         refine ⟨.bool b,?_,.pure _ _ (.lit _)⟩
         unfold execOp
         simp only [hop,e1,e2,Sem.run_bind,run_eqGuard_agg w .eql t x y xs ys hg,Result.andThen_ok,run_eql_struct,hps,Sem.run_pure]
   · cases h
 · rename_i xs ys h1 h2
   split at h
   · rename_i hg
     cases hpe:plainEq P 10000 t with
     | none=>simp [hpe] at h
     | some ks =>
      cases hta:tAgg P t with
      | none=>simp [hpe,hta] at h
      | some g =>
       cases g with
       | false=>simp [hpe,hta] at h
       | true =>
        simp only [hpe,hta] at h
        cases he:eqAll ks xs.toList ys.toList with
        | none=>simp [he] at h
        | some b =>
         simp [he] at h
         obtain ⟨rfl,rfl⟩:=h
         have e1:=rep_toVal h1 hx
         have e2:=rep_toVal h2 hy
         have hps:=plain_sound 10000 hpe he w
         simp only [wrapV,hta,if_true,Array.toArray_toList] at hps
         refine ⟨.bool (!b),?_,.pure _ _ (.lit _)⟩
         unfold execOp
         simp only [hop,e1,e2,Sem.run_bind,run_eqGuard_agg w .neq t x y xs ys hg,Result.andThen_ok,run_neq_struct,hps,Sem.run_pure]
   · cases h
 · rename_i a b h1 h2
   cases h
   have e1:=rep_toVal h1 hx
   have e2:=rep_toVal h2 hy
   refine ⟨.string (a++b),?_,.pure _ _ (.lit _)⟩
   have hle:¬ (((a.size+b.size:Nat):Int) > IntKind.i64.max):=by have:=hps.1; omega
   unfold execOp
   simp only [hop,e1,e2,eqGuard_add,binOp,Op.stringOp,Sem.run_bind,Sem.run_pure,Result.andThen_ok]
   rw [if_neg hle]
   simp
 · rename_i k a k2 n h1 h2
   cases h
   have e1:=rep_toVal h1 hx
   have e2:=rep_toVal h2 hy
   refine ⟨_,?_,.pure _ _ (.lit _)⟩
   have hle:¬ (n<0):=by have:=hps.1; omega
   unfold execOp
   simp [hop,e1,e2,eqGuard,binOp,Op.shift,hle]
 · rename_i k a k2 n h1 h2
   cases h
   have e1:=rep_toVal h1 hx
   have e2:=rep_toVal h2 hy
   refine ⟨_,?_,.pure _ _ (.lit _)⟩
   have hle:¬ (n<0):=by have:=hps.1; omega
   unfold execOp
   simp [hop,e1,e2,eqGuard,binOp,Op.shift,hle]
 · rename_i k a k2 b h1 h2
   split at h<;>first | (cases h; done) | skip
   rename_i hk
   cases h
   have e1:=rep_toVal h1 hx
   have e2:=rep_toVal h2 hy
   refine ⟨_,?_,.pure _ _ (.lit _)⟩
   have hle:¬ (b=0):=hps.1
   unfold execOp
   simp [hop,e1,e2,eqGuard,binOp,Op.intDiv,hle,← hk]
 · rename_i k a k2 b h1 h2
   split at h<;>first | (cases h; done) | skip
   rename_i hk
   cases h
   have e1:=rep_toVal h1 hx
   have e2:=rep_toVal h2 hy
   refine ⟨_,?_,.pure _ _ (.lit _)⟩
   have hle:¬ (b=0):=hps.1
   unfold execOp
   simp [hop,e1,e2,eqGuard,binOp,Op.intDiv,hle,← hk]
 · cases he:evalLit P ev o with
   | none=>simp [he] at h
   | some z =>
    simp [he] at h
    obtain ⟨rfl,rfl⟩:=h
    exact evalLit_sound he hr w
theorem evalBin_sound {op:BinOp} {t yt:TypeId} {x y:Operand} {v:AV} {ps:List Prop} (hop:o.op = .binOp op t x y yt) (h:evalBin P ev o op t x y=some (v,ps)) (hps:AllP ps)
 (hr:∀ y∈o.op.operands,Rep V (ev y) (ρ y)) (w:World):∃ u,(execOp ρ o).run P w = .ok (.value u) w∧Rep V v u:=by
 unfold evalBin at h
 split at h
 · rename_i r hn
   cases h
   have hx:Rep V (ev x) (ρ x):=hr x (by simp [hop,Op.operands])
   have hy:Rep V (ev y) (ρ y):=hr y (by simp [hop,Op.operands])
   unfold nilSl at hn
   split at hn
   · rename_i e _ _ xs n c ht h1 h2
     cases hn
     rw [h1] at hx
     rw [h2] at hy
     have hx':=rep_sl hx
     generalize hxv:ρ x=u at hx'
     cases hx' with
     | sl _ _ _ A cap b o' vs hA _ _ _ _ _ _ _ =>
     refine ⟨.bool false,?_,.pure _ _ (.lit _)⟩
     have hAe:=hA hps.1
     unfold execOp
     have hq:=Lib.run_eql_slice_nil (P:=P) w t e (some ⟨b,o',none⟩) xs.length cap n c ht
     simp only [hop,hxv,rep_lit hy,hAe,Sem.run_bind,eqGuard,Sem.run_pure,Result.andThen_ok,hq,Option.isNone]
     simp [hq]
   · rename_i e _ _ xs n c ht h1 h2
     cases hn
     rw [h1] at hx
     rw [h2] at hy
     have hx':=rep_sl hx
     generalize hxv:ρ x=u at hx'
     cases hx' with
     | sl _ _ _ A cap b o' vs hA _ _ _ _ _ _ _ =>
     refine ⟨.bool true,?_,.pure _ _ (.lit _)⟩
     have hAe:=hA hps.1
     unfold execOp
     have hq:=Lib.run_equalIn_slice_nil (P:=P) w 9999 t e (some ⟨b,o',none⟩) xs.length cap n c ht
     simp [hop,hxv,rep_lit hy,hAe,eqGuard,binOp,Op.equal,Op.maxDepth,hq]
   · cases hn
 · exact evalBin0_sound hop h hps hr w
theorem litInt_sound {x:AV} {n:Int} {v:Value} (h:litInt x=some n) (hr:Rep V x v):∃ k,v = .int k n:=by
 unfold litInt at h
 split at h
 · cases h; exact ⟨_,rep_lit hr⟩
 · cases h
theorem boundA_run {d:Nat} {lo:Option Operand} {n:Int} (h:boundA ev d lo=some n) (hr:∀ y,lo=some y→Rep V (ev y) (ρ y)) :
 (lo=none∧n=d)∨∃ y k,lo=some y∧ρ y = .int k n:=by
 cases lo with
 | none=>simp [boundA] at h; exact .inl ⟨rfl,h.symm⟩
 | some y =>
  simp only [boundA] at h
  obtain ⟨k,hk⟩:=litInt_sound h (hr y rfl)
  exact .inr ⟨y,k,rfl,hk⟩
theorem imm_inv {cs:List AV} {u:Value} (h:PRep V.w V.M (.imm cs) u):∃ b o,u = .pointer (some ⟨b,o,none⟩)∧CellsAt V b o cs ∧
 ∀ n,PRep V.w V.M (.imm (cs.drop n)) (.pointer (some ⟨b,o+n,none⟩)):=by
 cases h with
 | imm _ a vs hs hb hc hr =>
  obtain ⟨b,o,sp⟩:=a
  simp only at hs
  subst hs
  refine ⟨b,o,rfl,⟨(List.range cs.length).map vs,Reps.prep (by simp) fun j hj=>?_,fun j hj=>?_⟩,fun n=>?_⟩
  · have:=hr j hj
    simpa [List.getD_eq_getElem?_getD,hj] using this
  · have:=hc j hj
    simpa [List.getD_eq_getElem?_getD,hj] using this
  · refine .imm _ ⟨b,o+n,none⟩ (fun j=>vs (n+j)) rfl (fun hne=>hb fun e=>hne (by rw [e]; simp)) (fun j hj=>?_) fun j hj=>?_
    · simp at hj
      have:=hc (n+j) (by omega)
      simpa [Nat.add_assoc] using this
    · simp at hj
      have:=hr (n+j) (by omega)
      simpa [List.getD_eq_getElem?_getD,List.getElem?_drop] using this
theorem sl_inv {sz:Nat} {tg:Bool} {xs:List (List AV)} {u:Value} (h:PRep V.w V.M (.sl sz tg xs) u):∃ A cap,u = .slice A xs.length cap∧xs.length≤cap∧(tg=true→cap=xs.length) ∧
 (∀ k y,xs[k]? = some y→∃ b o,A=some ⟨b,o,none⟩∧PRep V.w V.M (.imm y) (.pointer (some ⟨b,o+k * sz,none⟩))) ∧
 (∀ l m tg',l≤m→m≤xs.length→(tg'=true→tg=true∧m=xs.length)→PRep V.w V.M (.sl sz tg' ((xs.take m).drop l)) (.slice (if cap=l then A else A.map (·.add (l * sz))) (m - l) (cap - l))) ∧
 (∀ x∈xs,x.length=sz):=by
 cases h with
 | sl _ _ _ A cap b o vs hA hb hcap ht hsz hc ho hr =>
  refine ⟨A,cap,rfl,hcap,ht,fun k y hk=>?_,fun l m tg' hlm hm htg=>?_,hsz⟩
  · have hlt:k<xs.length:=(List.getElem?_eq_some_iff.1 hk).1
    have hne:xs≠[]:=fun e=>by rw [e] at hlt; simp at hlt
    have hy:y.length=sz:=hsz y (List.mem_of_getElem? hk)
    have hyk:xs.getD k []=y:=by rw [List.getD_eq_getElem?_getD,hk]; rfl
    refine ⟨b,o,hA hne,.imm y ⟨b,o+k * sz,none⟩ (fun j=>vs k j) rfl (fun hy0=>hb hne (fun e=>hy0 (List.eq_nil_of_length_eq_zero (by omega)))) (fun j hj=>hc k j hlt (by omega)) fun j hj=>?_⟩
    have:=hr k j hlt (by omega)
    rwa [hyk] at this
  · have hl':((xs.take m).drop l).length=m - l:=by simp; omega
    have hget:∀ k,k<m - l→((xs.take m).drop l).getD k []=xs.getD (l+k) []:=fun k hk=>by
     simp [List.getD_eq_getElem?_getD,List.getElem?_drop,show l+k<m by omega]
    have hsl:PRep V.w V.M (.sl sz tg' ((xs.take m).drop l)) (.slice (if cap=l then A else A.map (·.add (l * sz))) ((xs.take m).drop l).length (cap - l)):=by
     refine .sl sz tg' _ _ (cap - l) b (o+l * sz) (fun k j=>vs (l+k) j) (fun hne=>?_) (fun hne hz=>?_) (by rw [hl']; omega) (fun h=>?_) (fun x hx=>?_) (fun k j hk hj=>?_) (fun k j hk hj=>ho (l+k) j (by rw [hl'] at hk; omega) hj) (fun k j hk hj=>?_)
     · have:l<m:=by
        rcases Nat.lt_or_ge l m with h | h
        · exact h
        · exact absurd (List.eq_nil_of_length_eq_zero (by rw [hl']; omega)) hne
       have hne':xs≠[]:=fun e=>by rw [e] at hm; simp at hm; omega
       rw [if_neg (by omega),hA hne']
       simp [Addr.add_lit]
     · have:xs≠[]:=fun e=>hne (by rw [e]; simp)
       exact hb this hz
     · obtain ⟨h1,h2⟩:=htg h
       rw [hl',ht h1]; omega
     · exact hsz x (List.mem_of_mem_take (List.mem_of_mem_drop hx))
     · rw [hl'] at hk
       have:=hc (l+k) j (by omega) hj
       rw [show o+l * sz+k * sz+j=o+(l+k) * sz+j by rw [Nat.add_mul]; omega]
       exact this
     · rw [hl'] at hk
       rw [hget k hk]
       exact hr (l+k) j (by omega) hj
    rw [hl'] at hsl
    exact hsl
theorem reps_map {xs:List Operand} (h:∀ x∈xs,Rep V (ev x) (ρ x)):Reps V (xs.map ev) (xs.map ρ) :=
 ⟨by simp,fun j hj=>by
  simp at hj
  have:=h xs[j] (List.getElem_mem hj)
  simpa [List.getD_eq_getElem?_getD,hj] using this⟩
theorem run_sliceBounds {b:Bool} {len cap:Nat} {lo hi:Option Value} {l h:Nat} (hl:lo=none∧l=0∨∃ k,lo=some (.int k (l:Int))) (hh:hi=none∧h=len∨∃ k,hi=some (.int k (h:Int)))
 (h1:l≤h) (h2:h≤cap) (w:World):(Instr.sliceBounds b len cap lo hi none).run P w = .ok (l,h,cap) w:=by
 rcases hl with ⟨rfl,rfl⟩ | ⟨k,rfl⟩<;>rcases hh with ⟨rfl,rfl⟩ | ⟨k',rfl⟩ <;>
  simp [Instr.sliceBounds,Instr.sliceBound,asIntOf,h1,h2]
theorem run_sliceBounds3 {len cap:Nat} {lo:Option Value} {l h m:Nat} (hl:lo=none∧l=0∨∃ k,lo=some (.int k (l:Int))) {k1 k2:IntKind}
 (h1:l≤h) (h2:h≤m) (h3:m≤cap) (w:World):(Instr.sliceBounds true len cap lo (some (.int k1 (h:Int))) (some (.int k2 (m:Int)))).run P w = .ok (l,h,m) w:=by
 rcases hl with ⟨rfl,rfl⟩ | ⟨k,rfl⟩<;>simp [Instr.sliceBounds,Instr.sliceBound,asIntOf,h1,h2,h3]
theorem prep_cap {w:World} {M:Nat→Prop} {sz:Nat} {tg:Bool} {ys:List (List AV)} {A A':Option Addr} {n c c':Nat} (h:PRep w M (.sl sz tg ys) (.slice A n c)) (hA:ys≠[]→A'=A) (hc:n≤c'):PRep w M (.sl sz false ys) (.slice A' n c'):=by
 cases h with
 | sl _ _ _ _ _ b o vs h1 h2 h3 h4 h5 h6 h7 h8=>exact .sl sz false ys A' c' b o vs (fun hn=>(hA hn).trans (h1 hn)) h2 hc (fun h=>by cases h) h5 h6 h7 h8
theorem prep_bytes {w:World} {M:Nat→Prop} {tg:Bool} {s:ByteArray} {u:Value} (h:PRep w M (.sl 1 tg (s.data.toList.map fun c=>[AV.lit (.int .u8 c.toNat)])) u) :
 ∃ A cap,u = .slice A s.size cap∧(s.size=0∨∃ b o,A=some ⟨b,o,none⟩∧∀ i,i<s.size→w.cell? ⟨b,o+i,none⟩=some (.int .u8 ((s.data.toList.map fun c=>(c.toNat:Int)).getD i 0))):=by
 cases h with
 | sl _ _ _ A cap b o vs h1 h2 h3 h4 h5 h6 h7 h8 =>
  have hl:(s.data.toList.map fun c=>[AV.lit (.int .u8 c.toNat)]).length=s.size:=by rw [List.length_map]; rfl
  refine ⟨A,cap,by rw [hl],?_⟩
  rcases Nat.eq_zero_or_pos s.size with h0 | hp
  · exact .inl h0
  · refine .inr ⟨b,o,h1 (by intro e; rw [e] at hl; simp only [List.length_nil] at hl; omega),fun i hi=>?_⟩
    have hi':i<(s.data.toList.map fun c=>[AV.lit (.int .u8 c.toNat)]).length:=by omega
    have hc:=h6 i 0 hi' (by omega)
    have hr:=h8 i 0 hi' (by omega)
    simp only [Nat.mul_one,Nat.add_zero] at hc
    rw [hc]
    have hid:i<s.data.toList.length:=by rw [List.length_map] at hi'; exact hi'
    generalize vs i 0=u at hr
    have e1:(s.data.toList.map fun c=>[AV.lit (.int .u8 c.toNat)]).getD i []=[AV.lit (.int .u8 (s.data.toList[i]).toNat)]:=by
     rw [List.getD_eq_getElem?_getD,List.getElem?_map,List.getElem?_eq_getElem hid]; rfl
    have e2:(s.data.toList.map fun c=>(c.toNat:Int)).getD i 0=((s.data.toList[i]).toNat:Int):=by
     rw [List.getD_eq_getElem?_getD,List.getElem?_map,List.getElem?_eq_getElem hid]; rfl
    rw [e1] at hr
    rw [e2]
    have hr:PRep w M (.lit (.int .u8 (s.data.toList[i]).toNat)) u:=hr
    cases hr
    rfl
theorem run_bytesArg {w:World} {M:Nat→Prop} {tg:Bool} {s:ByteArray} {u:Value} (h:PRep w M (.sl 1 tg (byteA s)) u):(Extern.Bytes.bytesOf u).run P w = .ok s w:=by
 obtain ⟨A,cap,rfl,hc⟩:=prep_bytes h
 have hz:s.size=0→s = .empty:=fun h0=>by
  apply ByteArray.ext
  exact Array.eq_empty_of_size_eq_zero h0
 cases A with
 | none =>
  rcases hc with h0 | ⟨b,o,he,_⟩
  · rw [hz h0]; rfl
  · cases he
 | some a =>
  show (Extern.Bytes.loadBytes a s.size .empty).run P w=_
  rcases hc with h0 | ⟨b,o,he,hcell⟩
  · rw [h0,hz h0]; rfl
  · cases he
    have hl:(s.data.toList.map fun c=>(c.toNat:Int)).length=s.size:=by rw [List.length_map]; rfl
    have:=Lib.run_loadBytesX (P:=P) w (s.data.toList.map fun c=>(c.toNat:Int)) ⟨b,o,none⟩ .empty (fun j x hj=>by
     have hjl:j<(s.data.toList.map fun c=>(c.toNat:Int)).length:=(List.getElem?_eq_some_iff.1 hj).1
     have e:(⟨b,o,none⟩:Addr).add j=⟨b,o+j,none⟩:=by unfold Addr.add; split<;>simp_all
     rw [e,hcell j (by omega),List.getD_eq_getElem?_getD,hj]
     rfl)
    rw [hl] at this
    rw [this]
    congr 1
    apply ByteArray.ext
    show (#[]:Array UInt8)++(Lib.bytesOf (s.data.toList.map fun c=>(c.toNat:Int))).toArray=s.data
    have e:Lib.bytesOf (s.data.toList.map fun c=>(c.toNat:Int))=s.data.toList:=by
     unfold Lib.bytesOf
     rw [List.map_map]
     refine (List.map_congr_left fun c _=>?_).trans (List.map_id _)
     simp
    rw [e]; simp
theorem run_cmpBytes {f:FuncId} (hx:ExtCmp P f) {w:World} {M:Nat→Prop} {tg th:Bool} {s t:ByteArray} {u v:Value} (h1:PRep w M (.sl 1 tg (byteA s)) u) (h2:PRep w M (.sl 1 th (byteA t)) v) :
 (callFunc f #[u,v]).run P w = .ok (.value (.int .i64 (Lib.compareBytes s.data.toList t.data.toList))) w:=by
 obtain ⟨fn,k1,k2,k3,k4,k5⟩:=hx
 rw [run_callFunc_extern k1 k2 k3 k4 k5]
 have:(Extern.BytealgCompare.compare #[u,v]).run P w = .ok (.int .i64 (Lib.compareBytes s.data.toList t.data.toList)) w:=by
  show Sem.run P (do pure (goInt (Extern.BytealgCompare.cmp (← Extern.Bytes.bytesOf u) (← Extern.Bytes.bytesOf v)))) w=_
  simp only [Sem.run_bind,run_bytesArg h1,run_bytesArg h2,Sem.run_pure,Result.andThen]
  rw [Lib.cmp_eq]
  rfl
 rw [this]
 rfl
theorem free_sound {orc orc':List Orc} {x:AV} {ps:List Prop} (h:evalFree P ev o orc=some (x,orc',ps)) (hps:AllP ps) (hr:∀ y∈o.op.operands,Rep V (ev y) (ρ y)) :
 ∃ v,(execOp ρ o).run P V.w = .ok (.value v) V.w∧Rep V x v:=by
 have lit:∀ {x orc' ps},(evalLit P ev o).map (fun v=>(v,orc,([]:List Prop)))=some (x,orc',ps)→∃ v,(execOp ρ o).run P V.w = .ok (.value v) V.w∧Rep V x v:=by
  intro x orc' ps h
  cases he:evalLit P ev o with
  | none=>simp [he] at h
  | some z=>simp [he] at h; obtain ⟨rfl,_⟩:=h; exact evalLit_sound he hr V.w
 unfold evalFree at h
 split at h
 all_goals (try (exact lit h))
 · rename_i y hop
   cases h
   exact ⟨ρ y,by rw [execOp,hop]; rfl,hr y (by simp [hop,Op.operands])⟩
 · rename_i y hop
   cases h
   exact ⟨ρ y,by rw [execOp,hop]; rfl,hr y (by simp [hop,Op.operands])⟩
 · rename_i c y z hop
   have hc:Rep V (ev c) (ρ c):=hr c (by simp [hop,Op.operands])
   split at h
   · rename_i e
     cases h
     rw [e] at hc
     exact ⟨ρ y,by rw [execOp,hop]; simp [rep_lit hc,asBool],hr y (by simp [hop,Op.operands])⟩
   · rename_i e
     cases h
     rw [e] at hc
     exact ⟨ρ z,by rw [execOp,hop]; simp [rep_lit hc,asBool],hr z (by simp [hop,Op.operands])⟩
   · cases h
 · rename_i t y hop
   have hy:Rep V (ev y) (ρ y):=hr y (by simp [hop,Op.operands])
   split at h
   · rename_i cs e
     rw [e] at hy
     cases hl:loadA P t cs with
     | none=>simp [hl] at h
     | some z =>
      simp [hl] at h
      obtain ⟨rfl,_⟩:=h
      obtain ⟨b,of,he,hc,_⟩:=imm_inv (rep_imm hy)
      obtain ⟨v,hv,hrv⟩:=loadA_sound hl hc
      exact ⟨v,by rw [execOp,hop]; simp [he,Instr.loadAt,Instr.sureAddr,hv],hrv⟩
   · cases h
 · rename_i t y f hop
   have hy:Rep V (ev y) (ρ y):=hr y (by simp [hop,Op.operands])
   split at h
   · rename_i n id off hf e
     cases h
     rw [e] at hy
     obtain ⟨hk,he⟩:=rep_ptr hy
     exact ⟨.pointer (some ⟨V.ρ id,off+n,none⟩),by rw [execOp,hop]; simp [he,run_fieldAt hf],.ptr id _ hk⟩
   · rename_i n cs hf e
     cases h
     rw [e] at hy
     obtain ⟨b,of,he,_,hd⟩:=imm_inv (rep_imm hy)
     exact ⟨.pointer (some ⟨b,of+n,none⟩),by rw [execOp,hop]; simp [he,run_fieldAt hf],.pure _ _ (hd n)⟩
   · cases h
 · rename_i t y f hop
   have hy:Rep V (ev y) (ρ y):=hr y (by simp [hop,Op.operands])
   have fld:∀ {fd cs vs},fieldOf P t f=some fd→ρ y = .agg (List.toArray vs)→Reps V cs vs→∀ {z},loadA P fd.type (cs.drop fd.offset)=some z→∃ v,(execOp ρ o).run P V.w = .ok (.value v) V.w∧Rep V z v:=by
    intro fd cs vs hfd he hrs z hl
    obtain ⟨v,hv,hrv⟩:=part_sound hrs hl
    unfold fieldOf at hfd
    cases hu:P.underlying t with
    | none=>simp [hu] at hfd
    | some d =>
     cases d<;>simp only [hu] at hfd<;>try (cases hfd; done)
     exact ⟨v,by rw [execOp,hop]; simp [he,Instr.field,run_underlying hu,hfd,asAgg,hv],hrv⟩
   split at h
   · rename_i fd cs hfd e
     rw [e] at hy
     obtain ⟨vs,he,hrs⟩:=rep_agg hy
     cases hl:loadA P fd.type (cs.drop fd.offset) with
     | none=>simp [hl] at h
     | some z=>simp [hl] at h; obtain ⟨rfl,_⟩:=h; exact fld hfd he hrs hl
   · rename_i fd vs hfd e
     rw [e] at hy
     cases hl:loadA P fd.type ((vs.toList.map AV.lit).drop fd.offset) with
     | none=>simp [hl] at h
     | some z=>simp [hl] at h; obtain ⟨rfl,_⟩:=h; exact fld hfd (by rw [rep_lit hy]) (Reps.lits vs.toList) hl
   · cases h
 · rename_i t y i hop
   have hy:Rep V (ev y) (ρ y):=hr y (by simp [hop,Op.operands])
   have hi:Rep V (ev i) (ρ i):=hr i (by simp [hop,Op.operands])
   split at h
   · rename_i e sz tg xs n hu hxs hn
     split at h
     · rename_i s y' orc2 hs
       split at h
       · rename_i hsz
         cases h
         obtain ⟨hn0,hxk⟩:=hps.1
         obtain ⟨k,hk⟩:=litInt_sound hn hi
         rw [hxs] at hy
         obtain ⟨A,cap,he,_,_,hix,_,_⟩:=sl_inv (rep_sl hy)
         obtain ⟨b,of,rfl,hp⟩:=hix _ _ hxk
         have hlt:n.toNat<xs.length:=(List.getElem?_eq_some_iff.1 hxk).1
         subst hsz
         refine ⟨.pointer (some ⟨b,of+n.toNat * s,none⟩),?_,.pure _ _ hp⟩
         rw [execOp,hop]
         simp [he,hk,Instr.indexAt,asIntOf,run_underlying hu,run_size hs,Addr.add_lit,hn0,show n<(xs.length:Int) by omega]
       · cases h
     · cases h
   · rename_i m e id off n hu hxs hn
     split at h
     · rename_i s hs
       cases h
       obtain ⟨hn0,hnm⟩:=hps.1
       obtain ⟨k,hk⟩:=litInt_sound hn hi
       rw [hxs] at hy
       obtain ⟨hkd,he⟩:=rep_ptr hy
       refine ⟨.pointer (some ⟨V.ρ id,off+n.toNat * s,none⟩),?_,.ptr id _ hkd⟩
       rw [execOp,hop]
       simp [he,hk,Instr.indexAt,asIntOf,run_underlying hu,run_size hs,Addr.add_lit,hn0,hnm,Instr.sureAddr]
     · cases h
   · rename_i m e cs n hu hxs hn
     split at h
     · rename_i s hs
       cases h
       obtain ⟨hn0,hnm⟩:=hps.1
       obtain ⟨k,hk⟩:=litInt_sound hn hi
       rw [hxs] at hy
       obtain ⟨b,of,he,_,hd⟩:=imm_inv (rep_imm hy)
       refine ⟨.pointer (some ⟨b,of+n.toNat * s,none⟩),?_,.pure _ _ (hd _)⟩
       rw [execOp,hop]
       simp [he,hk,Instr.indexAt,asIntOf,run_underlying hu,run_size hs,Addr.add_lit,hn0,hnm,Instr.sureAddr]
     · cases h
   · cases h
 · rename_i t y lo hi hop
   have hy:Rep V (ev y) (ρ y):=hr y (by simp [hop,Op.operands])
   have hlo:∀ z,lo=some z→Rep V (ev z) (ρ z):=fun z hz=>hr z (by simp [hop,Op.operands,hz])
   have hhi:∀ z,hi=some z→Rep V (ev z) (ρ z):=fun z hz=>hr z (by simp [hop,Op.operands,hz])
   have bd:∀ {x:Option Operand} {d:Nat} {n:Int},boundA ev d x=some n→(∀ z,x=some z→Rep V (ev z) (ρ z))→0≤n→(x.map ρ=none∧n.toNat=d∨∃ k,x.map ρ=some (.int k (n.toNat:Int))):=by
    intro x d n h hz hn
    rcases boundA_run h hz with ⟨rfl,rfl⟩ | ⟨z,k,rfl,hk⟩
    · exact .inl ⟨rfl,by simp⟩
    · exact .inr ⟨k,by rw [Option.map_some,hk,Int.toNat_of_nonneg hn]⟩
   split at h
   · rename_i e sz tg xs l hu hxs hl
     split at h
     · rename_i s hv hs hh
       split at h
       · rename_i hsz
         cases h
         obtain ⟨h1,h2,h3⟩:=hps.1
         rw [hxs] at hy
         obtain ⟨A,cap,he,hcap,_,_,hsl,_⟩:=sl_inv (rep_sl hy)
         have hb:=run_sliceBounds (P:=P) (b:=true) (len:=xs.length) (cap:=cap) (bd hl hlo h1) (bd hh hhi (by omega)) (by omega) (by omega) V.w
         subst hsz
         refine ⟨_,?_,.pure _ _ (hsl l.toNat hv.toNat (tg && hi.isNone) (by omega) (by omega) (fun ht=>?_))⟩
         · rw [execOp,hop]
           simp [he,Instr.sliceAt,Instr.slice,run_underlying hu,run_size hs,hb]
         · simp only [Bool.and_eq_true] at ht
           refine ⟨ht.1,?_⟩
           have:hi=none:=by simpa using ht.2
           subst this
           simp [boundA] at hh
           omega
       · cases h
     · cases h
   · rename_i s l hu hxs hl
     split at h
     · rename_i hv hh
       cases h
       obtain ⟨h1,h2,h3⟩:=hps.1
       rw [hxs] at hy
       have he:=rep_lit hy
       have hb:=run_sliceBounds (P:=P) (b:=false) (len:=s.size) (cap:=s.size) (bd hl hlo h1) (bd hh hhi (by omega)) (by omega) (by omega) V.w
       refine ⟨.string (s.extract l.toNat hv.toNat),?_,.pure _ _ (.lit _)⟩
       rw [execOp,hop]
       simp [he,Instr.sliceAt,Instr.slice,run_underlying hu,hb]
     · cases h
   · cases h
 · rename_i t y lo hi mx hop
   have hy:Rep V (ev y) (ρ y):=hr y (by simp [hop,Op.operands])
   have hlo:∀ z,lo=some z→Rep V (ev z) (ρ z):=fun z hz=>hr z (by simp [hop,Op.operands,hz])
   have hhi:Rep V (ev hi) (ρ hi):=hr hi (by simp [hop,Op.operands])
   have hmx:Rep V (ev mx) (ρ mx):=hr mx (by simp [hop,Op.operands])
   have bd:∀ {x:Option Operand} {d:Nat} {n:Int},boundA ev d x=some n→(∀ z,x=some z→Rep V (ev z) (ρ z))→0≤n→(x.map ρ=none∧n.toNat=d∨∃ k,x.map ρ=some (.int k (n.toNat:Int))):=by
    intro x d n h hz hn
    rcases boundA_run h hz with ⟨rfl,rfl⟩ | ⟨z,k,rfl,hk⟩
    · exact .inl ⟨rfl,by simp⟩
    · exact .inr ⟨k,by rw [Option.map_some,hk,Int.toNat_of_nonneg hn]⟩
   split at h<;>first | (cases h; done) | skip
   rename_i e sz tg xs l hu hxs hl
   split at h<;>first | (cases h; done) | skip
   rename_i s hv mv hs hh hm
   split at h<;>first | (cases h; done) | skip
   rename_i hsz
   cases h
   obtain ⟨h1,h2,h3,h4⟩:=hps.1
   rw [hxs] at hy
   obtain ⟨A,cap,he,hcap,_,_,hsl,_⟩:=sl_inv (rep_sl hy)
   obtain ⟨k1,hk1⟩:=litInt_sound hh hhi
   obtain ⟨k2,hk2⟩:=litInt_sound hm hmx
   have hb:=run_sliceBounds3 (P:=P) (len:=xs.length) (cap:=cap) (k1:=k1) (k2:=k2) (h:=hv.toNat) (m:=mv.toNat) (bd hl hlo h1) (by omega) (by omega) (by omega) V.w
   rw [Int.toNat_of_nonneg (by omega:0≤hv),Int.toNat_of_nonneg (by omega:0≤mv)] at hb
   subst hsz
   refine ⟨_,?_,.pure _ _ (prep_cap (hsl l.toNat hv.toNat false (by omega) (by omega) (fun ht=>by cases ht)) (A':=if mv.toNat=l.toNat then A else A.map (·.add (l.toNat * s))) (c':=mv.toNat - l.toNat) (fun hn=>?_) (by omega))⟩
   · rw [execOp,hop]
     simp [he,Instr.sliceAt,Instr.slice,run_underlying hu,run_size hs,hb,hk1,hk2]
   · have hlt:l.toNat<hv.toNat:=by
      rcases Nat.lt_or_ge l.toNat hv.toNat with h | h
      · exact h
      · exact absurd (List.drop_eq_nil_of_le (by rw [List.length_take]; omega)) hn
     rw [if_neg (by omega),if_neg (by omega)]
 · rename_i src dst y hop
   have hy:Rep V (ev y) (ρ y):=hr y (by simp [hop,Op.operands])
   split at h
   · rename_i e sz tg xs s orc2 hu1 hu2 hxs
     split at h<;>first | (cases h; done) | skip
     rename_i hc
     obtain ⟨rfl,he⟩:=hc
     have he:=isU8_eq he
     cases h
     have hxs':=hps.1
     subst hxs'
     rw [hxs] at hy
     obtain ⟨A,cap,hu,hcase⟩:=prep_bytes (rep_sl hy)
     refine ⟨.string s,?_,.pure _ _ (.lit _)⟩
     rw [execOp,hop]
     simp only [hu,Sem.run_bind]
     rcases hcase with h0 | ⟨b,of,rfl,hcell⟩
     · have hse:s=ByteArray.empty:=by
        have:s.data=#[]:=Array.eq_empty_of_size_eq_zero h0
        cases s; simp only at this; subst this; rfl
       cases A with
       | none=>rw [h0,run_convert_bytes_nil V.w src e hu1 he 0 cap dst hu2]; simp [hse]
       | some a =>
        rw [run_convert_bytes_string V.w src dst e (some a) s.size cap hu1 he hu2,run_bytesToString V.w a s.size cap [] (by rw [h0]; exact run_loadCells_list V.w a [] (fun j v hj=>by simp at hj))]
        simp [hse]
     · rw [run_convert_bytes_arg V.w src e hu1 he b of s.size cap (s.data.toList.map fun c=>(c.toNat:Int)) (by rw [List.length_map]; rfl) hcell dst hu2]
       have:strOfNums (s.data.toList.map fun c=>(c.toNat:Int))=s:=by
        unfold strOfNums
        rw [List.map_map]
        have hf:((fun n:Int=>UInt8.ofNat n.toNat) ∘ fun c:UInt8=>(c.toNat:Int))=id:=by
         funext c
         show UInt8.ofNat (c.toNat:Int).toNat=c
         rw [Int.toNat_natCast]
         exact UInt8.ofNat_toNat
        rw [hf,List.map_id]
       simp [this]
   · rename_i e hu1 hu2 hxs
     split at h<;>first | (cases h; done) | skip
     rename_i he
     have he:=isU8_eq he
     cases h
     rw [hxs] at hy
     refine ⟨.string .empty,?_,.pure _ _ (.lit _)⟩
     rw [execOp,hop]
     simp only [rep_lit hy,Sem.run_bind]
     rw [run_convert_bytes_nil V.w src e hu1 he 0 0 dst hu2]
     simp
   · exact lit h
 · rename_i t y i c hop
   have hy:Rep V (ev y) (ρ y):=hr y (by simp [hop,Op.operands])
   have hi:Rep V (ev i) (ρ i):=hr i (by simp [hop,Op.operands])
   split at h
   · rename_i es he
     rw [he] at hy
     have key:∃ r,ρ y = .map (some r)∧∃ ents clock,V.w.heap[r]? = some (.map (List.toArray ents) clock)∧∃ es0:List (Value × AV),es0.Perm es∧ents.map (·.key)=es0.map (·.1)∧(es0.map (·.1)).Nodup∧∀ j,j<es0.length→Rep V (atE es0 j) (atV ents j):=by
      have hq:=rep_md hy
      generalize ρ y=u at hq
      cases hq with
      | md _ _ es0 hp r ents clock hb hc hk hd hrr _=>exact ⟨r,rfl,ents,clock,hc,es0,hp,hk,hd,fun j hj=>.pure _ _ (hrr j hj)⟩
     obtain ⟨r,hu,ents,clock,hc,es0,hp,hk,hd,hrr⟩:=key
     obtain ⟨v,h1,h2⟩:=lookA_sound hp h hps hi hc hk hd hrr
     exact ⟨v,by rw [execOp,hop]; simp [hu,h1],h2⟩
   · cases h
 · rename_i f fs cs hop
   cases h
   have h1:=reps_map (V:=V) (ev:=ev) (ρ:=ρ) (xs:=fs.toList) fun z hz=>hr z (by simp [hop,Op.operands]; exact .inl (by simpa using hz))
   have h2:=reps_map (V:=V) (ev:=ev) (ρ:=ρ) (xs:=cs.toList) fun z hz=>hr z (by simp [hop,Op.operands]; exact .inr (by simpa using hz))
   refine ⟨.func f (fs.toList.map ρ).toArray (cs.toList.map ρ).toArray,?_,.fn f _ _ _ _ h1.1 h2.1 h1.2 h2.2⟩
   rw [execOp,hop]
   simp [Instr.makeFunc]
   exact ⟨by apply Array.ext'; simp,by apply Array.ext'; simp⟩
 · rename_i y i hop
   have hy:Rep V (ev y) (ρ y):=hr y (by simp [hop,Op.operands])
   split at h
   · rename_i vs e
     rw [e] at hy
     obtain ⟨us,he,hrs⟩:=rep_tup hy
     cases hi:vs[i]? with
     | none=>simp [hi] at h
     | some z =>
      simp [hi] at h
      obtain ⟨rfl,_⟩:=h
      have hlt:=(List.getElem?_eq_some_iff.1 hi).1
      have hlt':i<us.length:=by rw [hrs.1]; exact hlt
      have:=hrs.2 i hlt
      rw [List.getD_eq_getElem?_getD,hi,List.getD_eq_getElem?_getD,List.getElem?_eq_getElem hlt'] at this
      exact ⟨us[i],by rw [execOp,hop]; simp [he,Instr.extract,hlt'],this⟩
   · cases h
 · rename_i t y hop
   have hy:Rep V (ev y) (ρ y):=hr y (by simp [hop,Op.operands])
   split at h
   · cases h
   · rename_i d hne hu
     cases h
     refine ⟨.iface t (ρ y),?_,.ifc t _ _ hy⟩
     rw [execOp,hop]
     simp only [Instr.makeInterface,Sem.run_bind,run_underlying hu,Result.andThen_ok]
     cases d<;>first | rfl | exact absurd hu (hne _)
   · cases h
 · rename_i y hop
   have hy:Rep V (ev y) (ρ y):=hr y (by simp [hop,Op.operands])
   split at h
   · rename_i id off e
     cases h
     rw [e] at hy
     obtain ⟨hk,he⟩:=rep_ptr hy
     exact ⟨_,by rw [execOp,hop]; simp [he]; rfl,by rw [← he]; exact hy⟩
   · rename_i cs e
     cases h
     rw [e] at hy
     obtain ⟨b,of,he,_,_⟩:=imm_inv (rep_imm hy)
     exact ⟨_,by rw [execOp,hop]; simp [he]; rfl,by rw [← he]; exact hy⟩
   · rename_i f aZ bs e
     cases h
     rw [e] at hy
     obtain ⟨us,vs,he,_,_⟩:=rep_fn hy
     exact ⟨_,by rw [execOp,hop]; simp [he]; rfl,by rw [← he]; exact hy⟩
   · cases h
 · rename_i t parts hop
   cases hb:buildA P t (parts.toList.map fun (x:Nat × Operand)=>(x.1,ev x.2)) with
   | none=>simp [hb] at h
   | some z =>
    simp [hb] at h
    obtain ⟨rfl,_⟩:=h
    have hrs:=reps_map (V:=V) (ev:=ev) (ρ:=ρ) (xs:=parts.toList.map (·.2)) fun y hy=>hr y (by
     simp only [hop,Op.operands]
     simpa using hy)
    obtain ⟨v,hv,hrv⟩:=buildA_sound (V:=V) (vparts:=parts.toList.map fun (x:Nat × Operand)=>(x.1,ρ x.2)) hb (by simp) (by simpa [Function.comp_def] using hrs) V.w
    refine ⟨v,?_,hrv⟩
    rw [execOp,hop]
    have:(parts.map fun (x:Nat × Operand)=>(x.1,ρ x.2))=(parts.toList.map fun (x:Nat × Operand)=>(x.1,ρ x.2)).toArray:=by
     apply Array.ext'; simp
    simp only [this,Sem.run_bind,hv,Result.andThen_ok,Sem.run_pure]
 · rename_i op t y z yt hop
   cases hb:evalBin P ev o op t y z with
   | none=>simp [hb] at h
   | some r =>
    obtain ⟨v,ps'⟩:=r
    simp [hb] at h
    obtain ⟨rfl,_,rfl⟩:=h
    exact evalBin_sound hop hb hps hr V.w
 · rename_i args ts hop
   split at h
   · rename_i y t ha ht
     split at h
     · rename_i e sz tg xs hu hx
       cases h
       have hy:Rep V (ev y) (ρ y):=hr y (by simp [hop,Op.operands,Call.operands]; rw [← Array.mem_toList_iff,ha]; simp)
       rw [hx] at hy
       obtain ⟨A,cap,he,_⟩:=sl_inv (rep_sl hy)
       have ha':args=#[y]:=by apply Array.ext'; simpa using ha
       have ht':ts=#[t]:=by apply Array.ext'; simpa using ht
       subst ha' ht'
       refine ⟨.int .i64 xs.length,?_,.pure _ _ (.lit _)⟩
       rw [execOp,hop]
       simp [resolve,invoke,builtin,Builtin.len_,run_underlying hu,he,goInt]
     · exact lit h
   · cases h
 · rename_i g args ts hop
   split at h
   · rename_i s t orc1
     split at h
     · rename_i f us vs y z hg ha
       split at h
       · rename_i sz tg xs sz' th ys hy hz
         split at h
         · rename_i hc
           obtain ⟨h1,h2,rfl,rfl⟩:=hc
           cases h
           obtain ⟨hx,rfl,rfl,_⟩:=hps
           have ha':args=#[y,z]:=by apply Array.ext'; simpa using ha
           subst ha'
           have hgr:=hr g (by simp [hop,Op.operands,Call.operands])
           have hyr:=hr y (by simp [hop,Op.operands,Call.operands])
           have hzr:=hr z (by simp [hop,Op.operands,Call.operands])
           rw [hg] at hgr
           rw [hy] at hyr
           rw [hz] at hzr
           have hgv:=rep_lit hgr
           have e1:us=#[]:=by simpa using h1
           have e2:vs=#[]:=by simpa using h2
           subst e1 e2
           have k:=run_cmpBytes hx (w:=V.w) (rep_sl hyr) (rep_sl hzr)
           refine ⟨_,?_,.pure _ _ (.lit _)⟩
           rw [execOp,hop]
           simp [resolve,Deferred.ofValue,invoke,hgv,k]
         · cases h
       · cases h
     · cases h
   · exact lit h
end
end Go.Am
