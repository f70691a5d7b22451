import Derived.Test.YtihbnnkcemjflaaGreatDoorG3
import Derived.Lib.ConvBytes
set_option maxRecDepth 100000
set_option linter.unusedSimpArgs false
set_option linter.unusedVariables false

namespace Go.Am
open Go
section
variable {P:Program} {G:Nat→Option (List AV)} {V:View} {ev:Operand→AV} {ρ:Operand→Value} {o:Oper}
theorem zeros_rep (z:List Value) (n:Nat):Reps V (zerosA (z.map .lit) n) ((List.range n).map fun i=>z.toArray[i % z.toArray.size]!):=by
 refine ⟨by simp [zerosA],fun j hj=>?_⟩
 have hj':j<n:=by simpa [zerosA] using hj
 have e1:(zerosA (z.map .lit) n).getD j .dead=(z.map AV.lit).getD (j % z.length) .dead:=by
  simp [zerosA,List.getD_eq_getElem?_getD,hj']
 have e2:((List.range n).map fun i=>z.toArray[i % z.toArray.size]!).getD j undef=z.toArray[j % z.length]! := by
  simp [List.getD_eq_getElem?_getD,hj']
 rw [e1,e2]
 by_cases hz:z=[]
 · subst hz
   simp
   exact .dead _
 · have hlt:j % z.length<z.length:=Nat.mod_lt _ (List.length_pos_iff.2 hz)
   have e3:(z.map AV.lit).getD (j % z.length) .dead = .lit z[j % z.length]:=by
    simp [List.getD_eq_getElem?_getD,hlt]
   have e4:z.toArray[j % z.length]! = z[j % z.length]:=by
    simp [hlt]
   rw [e3,e4]
   exact .pure _ _ (.lit _)
theorem run_buildSlice {t e:TypeId} {i:TypeInfo} {z:Value} {len:Nat} {parts:List (Nat × Value)} {cells:List Value} (hu:P.underlying t=some (.slice e)) (hi:P.info? e=some i) (hz:i.zero=some z) (hs:len * i.size≤16777216)
 (hf:Instr.fill (fun k=>some (k * i.size,i.size)) ((List.range (len * i.size)).map fun j=>z.cells.toList.toArray[j % z.cells.toList.toArray.size]!).toArray parts=some cells.toArray) (w:World) :
 (Instr.buildSlice t len parts.toArray).run P w = .ok (.slice (some ⟨w.heap.size,0,none⟩) len len) (w.alloc (.cells cells.toArray e)):=by
 have hsz:¬ (len * i.size > 2 ^ 24):=by
  have:(2:Nat) ^ 24=16777216:=by decide
  omega
 by_cases hn:len * i.size=0
 · rw [hn] at hf
   simp at hf
   simp [Instr.buildSlice,run_underlying hu,sizeOf,typeInfo,hi,hn,Array.range_zero',hf,newRow]
 · have e:(Array.range (len * i.size)).map (fun x=>z.cells[x % z.cells.size]!)=((List.range (len * i.size)).map fun j=>z.cells.toList.toArray[j % z.cells.toList.toArray.size]!).toArray:=by
    apply Array.ext'
    simp
   rw [← e] at hf
   simp [Instr.buildSlice,run_underlying hu,sizeOf,typeInfo,hi,hsz,hn,zeroValue,hz,hf,newRow]
theorem new_bytes (hG:HeapRep G V) (e:TypeId) (s:ByteArray):∃ V':View,V'.w=Lib.bytesWorld V.w e s∧V'.H=V.H∧Step V V'∧HeapRep G V' ∧
 PRep V'.w V'.M (.sl 1 false (s.data.toList.map fun c=>[AV.lit (.int .u8 c.toNat)])) (.slice (some ⟨V.w.heap.size,0,none⟩) s.size (grownCap V.w s.size 0 e)):=by
 have hh:(Lib.bytesWorld V.w e s).heap=V.w.heap.push (.cells (Lib.bytesCells V.w e s) e ((Lib.bytesCells V.w e s).size,(Lib.bytesCells V.w e s).size+1)):=by
  apply Array.ext (by rw [Lib.bytesWorld_size,Array.size_push])
  intro j h1 h2
  rw [Lib.bytesWorld_size] at h1
  have key:(Lib.bytesWorld V.w e s).heap[j]? = (V.w.heap.push (.cells (Lib.bytesCells V.w e s) e ((Lib.bytesCells V.w e s).size,(Lib.bytesCells V.w e s).size+1)))[j]? := by
   rcases Nat.lt_or_ge j V.w.heap.size with h | h
   · rw [Lib.bytesWorld_at_old _ _ _ _ h,Array.getElem?_push,if_neg (by omega)]
   · have:j=V.w.heap.size:=by omega
     subst this
     rw [Lib.bytesWorld_at_new,Array.getElem?_push,if_pos rfl]
  have g1:j<(Lib.bytesWorld V.w e s).heap.size:=by rw [Lib.bytesWorld_size]; exact h1
  rw [Array.getElem?_eq_getElem g1,Array.getElem?_eq_getElem h2] at key
  exact Option.some.inj key
 obtain ⟨V',k1,k2,k3,k4,k5⟩:=step_data hG (w':=Lib.bytesWorld V.w e s) hh rfl rfl rfl
 refine ⟨V',k1,k2,k3,k4,?_⟩
 have hl:(s.data.toList.map fun c=>[AV.lit (.int .u8 c.toNat)]).length=s.size:=by rw [List.length_map]; rfl
 have:=PRep.sl (w:=V'.w) (M:=V'.M) 1 false (s.data.toList.map fun c=>[AV.lit (.int .u8 c.toNat)]) (some ⟨V.w.heap.size,0,none⟩) (grownCap V.w s.size 0 e) V.w.heap.size 0 (fun k _=>.int .u8 (s.data.toList.getD k 0).toNat) (fun _=>rfl) (fun _ _=>k5)
  (by rw [hl]; exact grownCap_ge V.w s.size 0 e) (fun h=>by cases h) (fun x hx=>by obtain ⟨c,_,rfl⟩:=List.mem_map.1 hx; rfl) (fun k j hk hj=>by
   have:j=0:=by omega
   subst this
   rw [k1,Nat.zero_add,Nat.mul_one,Nat.add_zero]
   exact Lib.bytesWorld_cell V.w e s k (by omega)) (fun _ _ _ _=>rfl) (fun k j hk hj=>by
   have:j=0:=by omega
   subst this
   have hid:k<s.data.toList.length:=by rw [List.length_map] at hk; exact hk
   have e1:(s.data.toList.map fun c=>[AV.lit (.int .u8 c.toNat)]).getD k []=[AV.lit (.int .u8 (s.data.toList.getD k 0).toNat)]:=by
    rw [List.getD_eq_getElem?_getD,List.getElem?_map,List.getD_eq_getElem?_getD,List.getElem?_eq_getElem hid]; rfl
   rw [e1]
   exact .lit _)
 rw [hl] at this
 exact this
theorem modify_list {α:Type} (l:List α) (j:Nat) (f:α→α) {e:α} (h:l[j]? = some e):l.toArray.modify j f=(l.set j (f e)).toArray:=by
 apply Array.ext'
 have hj:=(List.getElem?_eq_some_iff.1 h).1
 have he:=(List.getElem?_eq_some_iff.1 h).2
 simp only [Array.toList_modify]
 apply List.ext_getElem?
 intro i
 rw [List.getElem?_modify,List.getElem?_set]
 by_cases e:j=i
 · subst e; rw [if_pos rfl,if_pos hj,h]; simp
 · rw [if_neg e]; simp [e]
theorem mapPut_sound {t kt et:TypeId} {id:Nat} {es es':List (Value × AV)} {kv:Value} {x:AV} {xv:Value} (ht:P.underlying t=some (.map kt et)) (hput:MapPut P kt es kv x es') (hG:HeapRep G V)
 (hH:V.H[id]? = some (.map es)) (hx:Rep V x xv):∃ w':World,(Instr.mapUpdate t (.map (some (V.ρ id))) kv xv).run P V.w = .ok () w'∧(∀ b,b≠V.ρ id→w'.heap[b]? = V.w.heap[b]?)∧w'.heap.size=V.w.heap.size∧w'.os=V.w.os∧w'.tape=V.w.tape ∧
  w'.output=V.w.output∧w'.drawn=V.w.drawn∧∀ V':View,V'.w=w'→Step V V'→ObjRep V' (V.ρ id) (.map es'):=by
 obtain ⟨ents,clock,hb,hks,hd,hbd,hlt,hrr⟩:=map_cells hG hH
 obtain ⟨K,⟨l,hl⟩,hes,hcase⟩:=hput
 have hlen:ents.length=es.length:=by simpa using congrArg List.length hks
 have keyAt:∀ {i:Nat} {e:MapEntry},ents[i]? = some e→∃ p,es[i]? = some p∧p.1=e.key:=fun {i e} he=>by
  have h1:(ents.map (·.key))[i]? = some e.key:=by rw [List.getElem?_map,he]; rfl
  rw [hks,List.getElem?_map] at h1
  obtain ⟨p,hp,hpe⟩:=Option.map_eq_some_iff.1 h1
  exact ⟨p,hp,hpe⟩
 have hkeys:∀ e∈ents.toArray.toList,∃ l,keyOf P kt e.key=some l:=fun e he=>by
  obtain ⟨i,hi⟩:=List.mem_iff_getElem?.1 (by simpa using he)
  obtain ⟨p,hp,hpe⟩:=keyAt hi
  rw [← hpe]
  exact hes p (List.mem_of_getElem? hp)
 have lt:=(Array.getElem?_eq_some_iff.1 hb).1
 have hset:∀ o:Obj,({ V.w with heap:=V.w.heap.setIfInBounds (V.ρ id) o }:World).heap[V.ρ id]? = some o:=fun o=>by simp [lt]
 have hoth:∀ (o:Obj) (b:Nat),b≠V.ρ id→({ V.w with heap:=V.w.heap.setIfInBounds (V.ρ id) o }:World).heap[b]? = V.w.heap[b]? := fun o b hne=>by
  show (V.w.heap.setIfInBounds (V.ρ id) o)[b]? = _
  rw [Array.getElem?_setIfInBounds,if_neg (fun e=>hne e.symm)]
 rcases K.find V.w hl ents.toArray.toList hkeys with ⟨h1,h2⟩ | ⟨j,e0,h1,h2,h3⟩
 · have hno:∀ e∈es,e.1≠kv:=fun e he hek=>by
    have:e.1∈es.map (·.1):=List.mem_map.2 ⟨e,he,rfl⟩
    rw [← hks] at this
    obtain ⟨e',he',hke⟩:=List.mem_map.1 this
    exact h2 e' (by simpa using he') (hke.trans hek)
   have hes':es'=es++[(kv,x)]:=by
    rcases hcase with ⟨aZ,bs,y,he,_⟩ | ⟨_,he⟩
    · exact absurd rfl (hno (kv,y) (by rw [he]; simp))
    · exact he
   subst hes'
   refine ⟨{ V.w with heap:=V.w.heap.setIfInBounds (V.ρ id) (.map (ents++[({ key:=kv,val:=xv,born:=clock }:MapEntry)]).toArray (clock+1)) },?_,hoth _,by simp,rfl,rfl,rfl,rfl,fun V' hw hst=>?_⟩
   · simp [Instr.mapUpdate,run_underlying ht,MapKept.run_getObj_map hb,K.check V.w false hl,h1,MapKept.run_setObj_map _ hb,Result.andThen]
   · refine ⟨ents++[({ key:=kv,val:=xv,born:=clock }:MapEntry)],clock+1,by rw [hw]; exact hset _,by simp [hks],?_,?_,?_,fun j hj=>?_⟩
     · rw [List.map_append,List.nodup_append]
       exact ⟨hd,by simp,fun a ha b hb' e=>by
        simp only [List.map_cons,List.map_nil,List.mem_singleton] at hb'
        obtain ⟨q,hq,rfl⟩:=List.mem_map.1 ha
        exact hno q hq (e.trans hb')⟩
     · rw [List.map_append,hbd,hlt,List.length_append,List.length_singleton,List.range_succ]; rfl
     · rw [hlt,List.length_append]; rfl
     · by_cases hjl:j<es.length
       · have e1:atE (es++[(kv,x)]) j=atE es j:=by unfold atE; rw [List.getD_eq_getElem?_getD,List.getElem?_append_left hjl,← List.getD_eq_getElem?_getD]
         have e2:atV (ents++[({ key:=kv,val:=xv,born:=clock }:MapEntry)]) j=atV ents j:=by unfold atV; rw [List.getD_eq_getElem?_getD,List.getElem?_append_left (by omega),← List.getD_eq_getElem?_getD]
         rw [e1,e2]; exact (hrr j hjl).step hst
       · have hje:j=es.length:=by simp at hj; omega
         subst hje
         have e1:atE (es++[(kv,x)]) es.length=x:=by unfold atE; simp [List.getD_eq_getElem?_getD]
         have e2:atV (ents++[({ key:=kv,val:=xv,born:=clock }:MapEntry)]) es.length=xv:=by unfold atV; rw [← hlen]; simp [List.getD_eq_getElem?_getD]
         rw [e1,e2]; exact hx.step hst
 · have h2':ents[j]? = some e0:=by simpa using h2
   have hj:=(List.getElem?_eq_some_iff.1 h2').1
   obtain ⟨p,hp,hpe⟩:=keyAt h2'
   have hpk:p.1=kv:=hpe.trans h3
   obtain ⟨aZ,bs,y,he,rfl⟩:∃ aZ bs y,es=aZ++(kv,y)::bs∧es'=aZ++(kv,x)::bs:=by
    rcases hcase with h | ⟨hno,_⟩
    · exact h
    · exact absurd hpk (hno p (List.mem_of_getElem? hp))
   have hja:j=aZ.length:=by
    have a1:(es.map (·.1))[aZ.length]? = some kv:=by rw [he]; simp
    have a2:(es.map (·.1))[j]? = some kv:=by rw [List.getElem?_map,hp]; simp [hpk]
    exact (List.getElem?_inj (by rw [List.length_map]; omega) hd).1 (a2.trans a1.symm)
   have hmod:ents.toArray.modify j (fun e=>{ e with key:=kv,val:=xv })=(ents.set j ({ key:=kv,val:=xv,born:=e0.born }:MapEntry)).toArray:=modify_list ents j _ h2'
   have hkd:(((ents.toArray[j]?).map (·.key)).getD kv)=kv:=by
    have:ents.toArray[j]? = some e0:=by simpa using h2'
    rw [this]; exact h3
   refine ⟨{ V.w with heap:=V.w.heap.setIfInBounds (V.ρ id) (.map (ents.set j ({ key:=kv,val:=xv,born:=e0.born }:MapEntry)).toArray clock) },?_,hoth _,by simp,rfl,rfl,rfl,rfl,fun V' hw hst=>?_⟩
   · have hk2:(Instr.keyThatStays (((ents.toArray[j]?).map (·.key)).getD kv) kv).run P V.w = .ok kv V.w:=by rw [hkd]; exact K.stays V.w hl
     simp only [Instr.mapUpdate,Sem.run_bind,run_underlying ht,MapKept.run_getObj_map hb,K.check V.w false hl,h1,Result.andThen_ok,hk2,hmod,MapKept.run_setObj_map _ hb]
   · have hkeq:(aZ++(kv,x)::bs).map (·.1)=es.map (·.1):=by rw [he]; simp
     have hl2:(aZ++(kv,x)::bs).length=es.length:=by rw [he]; simp
     refine ⟨ents.set j ({ key:=kv,val:=xv,born:=e0.born }:MapEntry),clock,by rw [hw]; exact hset _,?_,by rw [hkeq]; exact hd,?_,?_,fun i hi=>?_⟩
     · rw [hkeq,← hks,List.map_set]
       apply List.ext_getElem?
       intro i
       rw [List.getElem?_set]
       by_cases e:j=i
       · subst e; rw [if_pos rfl,if_pos (by simpa using hj),List.getElem?_map,h2']; simp [h3]
       · rw [if_neg e]
     · have:(ents.set j ({ key:=kv,val:=xv,born:=e0.born }:MapEntry)).map (·.born)=ents.map (·.born):=by
        rw [List.map_set]
        apply List.ext_getElem?
        intro i
        rw [List.getElem?_set]
        by_cases e:j=i
        · subst e; rw [if_pos rfl,if_pos (by simpa using hj),List.getElem?_map,h2']; rfl
        · rw [if_neg e]
       rw [this,hbd,List.length_set]
     · rw [hlt,List.length_set]
     · rw [hl2] at hi
       by_cases e:i=j
       · subst e
         have e1:atE (aZ++(kv,x)::bs) i=x:=by unfold atE; rw [hja]; simp [List.getD_eq_getElem?_getD]
         have e2:atV (ents.set i ({ key:=kv,val:=xv,born:=e0.born }:MapEntry)) i=xv:=by unfold atV; simp [List.getD_eq_getElem?_getD,hj]
         rw [e1,e2]; exact hx.step hst
       · have e1:atE (aZ++(kv,x)::bs) i=atE es i:=by
          unfold atE
          rw [List.getD_eq_getElem?_getD,List.getD_eq_getElem?_getD,he]
          by_cases hlt2:i<aZ.length
          · rw [List.getElem?_append_left hlt2,List.getElem?_append_left hlt2]
          · rw [List.getElem?_append_right (by omega),List.getElem?_append_right (by omega)]
            obtain ⟨q,hq⟩:∃ q,i - aZ.length=q+1:=⟨i - aZ.length - 1,by omega⟩
            rw [hq]; simp
         have e2:atV (ents.set j ({ key:=kv,val:=xv,born:=e0.born }:MapEntry)) i=atV ents i:=by
          unfold atV
          rw [List.getD_eq_getElem?_getD,List.getD_eq_getElem?_getD,List.getElem?_set_ne (fun e'=>e e'.symm)]
         rw [e1,e2]; exact (hrr i hi).step hst
theorem mapEnt_sound {t kt et:TypeId} {id i:Nat} {es es':List (Value × AV)} {kv z:Value} {x:AV} (ht:P.underlying t=some (.map kt et)) (hz:calm P (zeroValue et)=some z) (hput:MapEnt P kt es kv (.lit z) x i es') (hG:HeapRep G V)
 (hH:V.H[id]? = some (.map es)):∃ (w':World) (v:Value),(Instr.mapEntry t (.map (some (V.ρ id))) kv).run P V.w = .ok (.tuple #[v,goInt i]) w'∧Rep V x v∧(∀ b,b≠V.ρ id→w'.heap[b]? = V.w.heap[b]?)∧w'.heap.size=V.w.heap.size∧w'.os=V.w.os∧w'.tape=V.w.tape ∧
  w'.output=V.w.output∧w'.drawn=V.w.drawn∧∀ V':View,V'.w=w'→Step V V'→ObjRep V' (V.ρ id) (.map es'):=by
 obtain ⟨ents,clock,hb,hks,hd,hbd,hlt,hrr⟩:=map_cells hG hH
 obtain ⟨K,⟨l,hl⟩,hes,hcase⟩:=hput
 have hlen:ents.length=es.length:=by simpa using congrArg List.length hks
 have keyAt:∀ {i:Nat} {e:MapEntry},ents[i]? = some e→∃ p,es[i]? = some p∧p.1=e.key:=fun {i e} he=>by
  have h1:(ents.map (·.key))[i]? = some e.key:=by rw [List.getElem?_map,he]; rfl
  rw [hks,List.getElem?_map] at h1
  obtain ⟨p,hp,hpe⟩:=Option.map_eq_some_iff.1 h1
  exact ⟨p,hp,hpe⟩
 have hkeys:∀ e∈ents.toArray.toList,∃ l,keyOf P kt e.key=some l:=fun e he=>by
  obtain ⟨i,hi⟩:=List.mem_iff_getElem?.1 (by simpa using he)
  obtain ⟨p,hp,hpe⟩:=keyAt hi
  rw [← hpe]
  exact hes p (List.mem_of_getElem? hp)
 have lt:=(Array.getElem?_eq_some_iff.1 hb).1
 have hset:∀ o:Obj,({ V.w with heap:=V.w.heap.setIfInBounds (V.ρ id) o }:World).heap[V.ρ id]? = some o:=fun o=>by simp [lt]
 have hoth:∀ (o:Obj) (b:Nat),b≠V.ρ id→({ V.w with heap:=V.w.heap.setIfInBounds (V.ρ id) o }:World).heap[b]? = V.w.heap[b]? := fun o b hne=>by
  show (V.w.heap.setIfInBounds (V.ρ id) o)[b]? = _
  rw [Array.getElem?_setIfInBounds,if_neg (fun e=>hne e.symm)]
 have bornAt:∀ {j:Nat} {e:MapEntry},ents[j]? = some e→e.born=j:=fun {j e} he=>by
  have h1:(ents.map (·.born))[j]? = some e.born:=by rw [List.getElem?_map,he]; rfl
  have hj:=(List.getElem?_eq_some_iff.1 he).1
  rw [hbd,List.getElem?_range hj] at h1
  exact (Option.some.inj h1).symm
 rcases K.find V.w hl ents.toArray.toList hkeys with ⟨h1,h2⟩ | ⟨j,e0,h1,h2,h3⟩
 · have hno:∀ e∈es,e.1≠kv:=fun e he hek=>by
    have:e.1∈es.map (·.1):=List.mem_map.2 ⟨e,he,rfl⟩
    rw [← hks] at this
    obtain ⟨e',he',hke⟩:=List.mem_map.1 this
    exact h2 e' (by simpa using he') (hke.trans hek)
   obtain ⟨rfl,rfl,rfl⟩:x = .lit z∧i=es.length∧es'=es++[(kv,.lit z)]:=by
    rcases hcase with ⟨aZ,bs,he,_⟩ | ⟨_,he⟩
    · exact absurd rfl (hno (kv,x) (by rw [he]; simp))
    · exact he
   refine ⟨{ V.w with heap:=V.w.heap.setIfInBounds (V.ρ id) (.map (ents++[({ key:=kv,val:=z,born:=clock }:MapEntry)]).toArray (clock+1)) },z,?_,.pure _ _ (.lit _),hoth _,by simp,rfl,rfl,rfl,rfl,fun V' hw hst=>?_⟩
   · simp [Instr.mapEntry,run_underlying ht,MapKept.run_getObj_map hb,K.check V.w false hl,h1,calm_run hz,MapKept.run_setObj_map _ hb,Result.andThen,hlt,hlen]
   · refine ⟨ents++[({ key:=kv,val:=z,born:=clock }:MapEntry)],clock+1,by rw [hw]; exact hset _,by simp [hks],?_,?_,?_,fun j hj=>?_⟩
     · rw [List.map_append,List.nodup_append]
       exact ⟨hd,by simp,fun a ha b hb' e=>by
        simp only [List.map_cons,List.map_nil,List.mem_singleton] at hb'
        obtain ⟨q,hq,rfl⟩:=List.mem_map.1 ha
        exact hno q hq (e.trans hb')⟩
     · rw [List.map_append,hbd,hlt,List.length_append,List.length_singleton,List.range_succ]; rfl
     · rw [hlt,List.length_append]; rfl
     · by_cases hjl:j<es.length
       · have e1:atE (es++[(kv,AV.lit z)]) j=atE es j:=by unfold atE; rw [List.getD_eq_getElem?_getD,List.getElem?_append_left hjl,← List.getD_eq_getElem?_getD]
         have e2:atV (ents++[({ key:=kv,val:=z,born:=clock }:MapEntry)]) j=atV ents j:=by unfold atV; rw [List.getD_eq_getElem?_getD,List.getElem?_append_left (by omega),← List.getD_eq_getElem?_getD]
         rw [e1,e2]; exact (hrr j hjl).step hst
       · have hje:j=es.length:=by simp at hj; omega
         subst hje
         have e1:atE (es++[(kv,AV.lit z)]) es.length = .lit z:=by unfold atE; simp [List.getD_eq_getElem?_getD]
         have e2:atV (ents++[({ key:=kv,val:=z,born:=clock }:MapEntry)]) es.length=z:=by unfold atV; rw [← hlen]; simp [List.getD_eq_getElem?_getD]
         rw [e1,e2]; exact .pure _ _ (.lit _)
 · have h2':ents[j]? = some e0:=by simpa using h2
   have hj:=(List.getElem?_eq_some_iff.1 h2').1
   obtain ⟨p,hp,hpe⟩:=keyAt h2'
   have hpk:p.1=kv:=hpe.trans h3
   obtain ⟨aZ,bs,he,rfl,rfl⟩:∃ aZ bs,es=aZ++(kv,x)::bs∧i=aZ.length∧es'=es:=by
    rcases hcase with h | ⟨hno,_⟩
    · exact h
    · exact absurd hpk (hno p (List.mem_of_getElem? hp))
   have hja:j=aZ.length:=by
    have a1:(es'.map (·.1))[aZ.length]? = some kv:=by rw [he]; simp
    have a2:(es'.map (·.1))[j]? = some kv:=by rw [List.getElem?_map,hp]; simp [hpk]
    exact (List.getElem?_inj (by rw [List.length_map]; omega) hd).1 (a2.trans a1.symm)
   have hke:({ e0 with key:=kv }:MapEntry)=e0:=by rw [← h3]
   have hsame:ents.set j e0=ents:=by
    apply List.ext_getElem?
    intro q
    rw [List.getElem?_set]
    by_cases e:j=q
    · subst e; rw [if_pos rfl,if_pos hj,h2']
    · rw [if_neg e]
   have hmod:ents.toArray.modify j (fun e=>{ e with key:=kv })=ents.toArray:=by
    rw [modify_list ents j _ h2',hke,hsame]
   have hkd:(((ents.toArray[j]?).map (·.key)).getD kv)=kv:=by
    have:ents.toArray[j]? = some e0:=by simpa using h2'
    rw [this]; exact h3
   have hbj:(((ents.toArray[j]?).map fun e=>(e.born:Int)).getD 0)=(aZ.length:Int):=by
    have:ents.toArray[j]? = some e0:=by simpa using h2'
    rw [this]; exact congrArg Nat.cast ((bornAt h2').trans hja)
   refine ⟨{ V.w with heap:=V.w.heap.setIfInBounds (V.ρ id) (.map ents.toArray clock) },e0.val,?_,?_,hoth _,by simp,rfl,rfl,rfl,rfl,fun V' hw hst=>?_⟩
   · have hk2:(Instr.keyThatStays (((ents.toArray[j]?).map (·.key)).getD kv) kv).run P V.w = .ok kv V.w:=by rw [hkd]; exact K.stays V.w hl
     simp only [Instr.mapEntry,Sem.run_bind,run_underlying ht,MapKept.run_getObj_map hb,K.check V.w false hl,h1,Result.andThen_ok,hk2,hmod,MapKept.run_setObj_map _ hb,hbj,Sem.run_pure]
   · have e1:atE es' j=x:=by unfold atE; rw [he,hja]; simp [List.getD_eq_getElem?_getD]
     have e2:atV ents j=e0.val:=by unfold atV; rw [List.getD_eq_getElem?_getD,h2']; rfl
     have:=hrr j (by omega)
     rwa [e1,e2] at this
   · exact ⟨ents,clock,by rw [hw]; exact hset _,hks,hd,hbd,hlt,fun j hj=>(hrr j hj).step hst⟩
theorem setE_len (es:List (Value × AV)) (i:Nat) (x:AV):(setE es i x).length=es.length:=by simp [setE]
theorem setE_keys (es:List (Value × AV)) (i:Nat) (x:AV):(setE es i x).map (·.1)=es.map (·.1):=by
 apply List.ext_getElem?
 intro j
 simp only [setE,List.getElem?_map,List.getElem?_modify]
 cases es[j]?<;>simp
 split<;>rfl
theorem setE_at {es:List (Value × AV)} {i:Nat} {x:AV} {j:Nat} (hj:j<es.length):atE (setE es i x) j=if j=i then x else atE es j:=by
 unfold atE setE
 rw [List.getD_eq_getElem?_getD,List.getElem?_modify,List.getElem?_eq_getElem hj]
 by_cases h:i=j
 · subst h; simp
 · rw [if_neg (fun e=>h e.symm),List.getD_eq_getElem?_getD,List.getElem?_eq_getElem hj]; simp [h]
theorem entStore_sound {t:TypeId} {id i:Nat} {es:List (Value × AV)} {x:AV} {xv:Value} (hG:HeapRep G V) (hH:V.H[id]? = some (.map es)) (hi:i<es.length) (hx:Rep V x xv) :
 ∃ w':World,(Instr.entryStore t (.map (some (V.ρ id))) (.int .i64 (i:Int)) xv).run P V.w = .ok () w'∧(∀ b,b≠V.ρ id→w'.heap[b]? = V.w.heap[b]?)∧w'.heap.size=V.w.heap.size∧w'.os=V.w.os∧w'.tape=V.w.tape ∧
  w'.output=V.w.output∧w'.drawn=V.w.drawn∧∀ V':View,V'.w=w'→Step V V'→ObjRep V' (V.ρ id) (.map (setE es i x)):=by
 obtain ⟨ents,clock,hb,hks,hd,hbd,hlt,hrr⟩:=map_cells hG hH
 have hlen:ents.length=es.length:=by simpa using congrArg List.length hks
 have lt:=(Array.getElem?_eq_some_iff.1 hb).1
 have hset:∀ o:Obj,({ V.w with heap:=V.w.heap.setIfInBounds (V.ρ id) o }:World).heap[V.ρ id]? = some o:=fun o=>by simp [lt]
 have hoth:∀ (o:Obj) (b:Nat),b≠V.ρ id→({ V.w with heap:=V.w.heap.setIfInBounds (V.ρ id) o }:World).heap[b]? = V.w.heap[b]? := fun o b hne=>by
  show (V.w.heap.setIfInBounds (V.ρ id) o)[b]? = _
  rw [Array.getElem?_setIfInBounds,if_neg (fun e=>hne e.symm)]
 have bornAt:∀ {j:Nat} {e:MapEntry},ents[j]? = some e→e.born=j:=fun {j e} he=>by
  have h1:(ents.map (·.born))[j]? = some e.born:=by rw [List.getElem?_map,he]; rfl
  have hj:=(List.getElem?_eq_some_iff.1 he).1
  rw [hbd,List.getElem?_range hj] at h1
  exact (Option.some.inj h1).symm
 have hie:i<ents.length:=by omega
 have hfind:ents.toArray.findIdx? (fun e=>(e.born:Int) == (i:Int))=some i:=by
  rw [List.findIdx?_toArray,List.findIdx?_eq_some_iff_getElem]
  refine ⟨hie,?_,fun j hj=>?_⟩
  · rw [bornAt (List.getElem?_eq_getElem hie)]; simp
  · have:=bornAt (List.getElem?_eq_getElem (show j<ents.length by omega))
    rw [this]; simp; omega
 have hmod:ents.toArray.modify i (fun e=>{ e with val:=xv })=(ents.set i ({ ents[i] with val:=xv }:MapEntry)).toArray:=modify_list ents i _ (List.getElem?_eq_getElem hie)
 refine ⟨{ V.w with heap:=V.w.heap.setIfInBounds (V.ρ id) (.map (ents.set i ({ ents[i] with val:=xv }:MapEntry)).toArray clock) },?_,hoth _,by simp,rfl,rfl,rfl,rfl,fun V' hw hst=>?_⟩
 · simp only [Instr.entryStore,Sem.run_bind,MapKept.run_getObj_map hb,Result.andThen_ok,asInt,asIntOf,Sem.run_pure,hfind,hmod,MapKept.run_setObj_map _ hb]
 · have mp:∀ {β:Type} (q:MapEntry→β),q ({ ents[i] with val:=xv }:MapEntry)=q ents[i]→(ents.set i ({ ents[i] with val:=xv }:MapEntry)).map q=ents.map q:=fun q hq=>by
    rw [List.map_set,hq]
    apply List.ext_getElem?
    intro j
    rw [List.getElem?_set]
    by_cases e:i=j
    · subst e; rw [if_pos rfl,List.length_map,if_pos hie,List.getElem?_map,List.getElem?_eq_getElem hie]; rfl
    · rw [if_neg e]
   refine ⟨_,clock,by rw [hw]; exact hset _,by rw [setE_keys,← hks]; exact mp _ rfl,by rw [setE_keys]; exact hd,by rw [mp _ rfl,hbd,List.length_set],by rw [hlt,List.length_set],fun j hj=>?_⟩
   rw [setE_len] at hj
   rw [setE_at hj]
   by_cases e:j=i
   · subst e
     have e2:atV (ents.set j ({ ents[j] with val:=xv }:MapEntry)) j=xv:=by unfold atV; simp [List.getD_eq_getElem?_getD,hie]
     rw [if_pos rfl,e2]; exact hx.step hst
   · have e2:atV (ents.set i ({ ents[i] with val:=xv }:MapEntry)) j=atV ents j:=by
      unfold atV
      rw [List.getD_eq_getElem?_getD,List.getElem?_set,if_neg (fun h=>e h.symm),List.getD_eq_getElem?_getD]
     rw [if_neg e,e2]; exact (hrr j hj).step hst
theorem box_slice {t e:TypeId} {n s id:Nat} {cells:List AV} (hu:P.underlying t=some (.array n e)) (hs:tSize P e=some s) (hG:HeapRep G V) (hH:V.H[id]? = some (.box cells)) (hl:cells.length=n * s) (hp:cells.all AV.pureB=true) (h1:cells.all AV.one=true) :
 ∃ (V':View) (v:Value),(Instr.sliceAt t (.pointer (some ⟨V.ρ id,0,none⟩)) none none none).run P V.w = .ok v V'.w∧V'.H=V.H.set id .gone∧Step V V'∧HeapRep G V'∧Rep V' (.sl s true (chunks s n cells)) v:=by
 have hlt:=(List.getElem?_eq_some_iff.1 hH).1
 let V':View:={ w:=V.w,M:=fun b=>V.M b∧b≠V.ρ id,H:=V.H.set id .gone,ρ:=V.ρ }
 have Hs:V'.H[id]? = some .gone:=by show (V.H.set id _)[id]? = _; rw [List.getElem?_set_self hlt]
 have Ho:∀ i,i≠id→V'.H[i]? = V.H[i]? := fun i hi=>by show (V.H.set id _)[i]? = _; rw [List.getElem?_set_ne (fun e=>hi e.symm)]
 have hlen:V'.H.length=V.H.length:=by show (V.H.set id _).length=_; simp
 have hst:Step V V':={
  os:=rfl
  tape:=rfl
  output:=rfl
  size:=Nat.le_refl _
  drawn:=Nat.le_refl _
  keep:=fun b _ hn=>⟨rfl,⟨fun h=>h.1,fun h=>⟨h,fun e=>hn id hlt e.symm⟩⟩⟩
  data:=fun b _ hn=>⟨rfl,fun h=>hn h.1⟩
  hlen:=Nat.le_of_eq hlen.symm
  fresh:=fun i hi=>.inl ⟨by rw [hlen] at hi; exact hi,rfl⟩
  obj:=fun i hi=>by
   by_cases e:i=id
   · subst e
     unfold ObjStep
     rw [hH,Hs]
   · exact .refl hi (Ho i e) rfl rfl }
 have hG':HeapRep G V':={
  lt:=fun i hi=>by rw [hlen] at hi; exact hG.lt i hi
  obj:=fun i ob ho=>by
   by_cases e:i=id
   · subst e
     rw [Hs] at ho
     cases ho
     exact trivial
   · rw [Ho i e] at ho
     exact (hG.obj i ob ho).step hst rfl
  inj:=fun i j hi hj e=>by rw [hlen] at hi hj; exact hG.inj i j hi hj e
  mutb:=fun i ob ho hop=>by
   by_cases e:i=id
   · subst e; rw [Hs] at ho; cases ho; cases hop
   · rw [Ho i e] at ho
     exact ⟨hG.mutb i ob ho hop,fun he=>e (hG.inj i id (List.getElem?_eq_some_iff.1 ho).1 hlt he)⟩
  glob:=hG.glob_step hst }
 obtain ⟨vs,hr,hc⟩:=box_cells hG hH
 have run:(Instr.sliceAt t (.pointer (some ⟨V.ρ id,0,none⟩)) none none none).run P V.w = .ok (.slice (some ⟨V.ρ id,0,none⟩) (n - 0) (n - 0)) V.w:=by
  simp only [Instr.sliceAt,Instr.sureAddr,Sem.run_bind,run_underlying hu,Result.andThen_ok,Instr.sliceBounds,Sem.run_pure,run_size hs]
  simp [Addr.add]
 refine ⟨V',_,run,rfl,hst,hG',.pure _ _ ?_⟩
 have hcl:=chunks_len s n cells
 have:=PRep.sl (w:=V'.w) (M:=V'.M) s true (chunks s n cells) (some ⟨V.ρ id,0,none⟩) n (V.ρ id) 0 (fun k j=>vs.getD (k * s+j) undef) (fun _=>rfl) (fun _ _ h=>h.2 rfl) (by rw [hcl]; exact Nat.le_refl _) (fun _=>hcl.symm) (chunks_sz s n cells hl)
  (fun k j hk hj=>by
   rw [hcl] at hk
   have hb:=cell_lt_of hk hj
   rw [Nat.zero_add]
   have:=hc (k * s+j) (by omega)
   rwa [Nat.zero_add] at this) (fun k j hk hj=>by
   rw [hcl] at hk
   have hb:=cell_lt_of hk hj
   have hx:=hr.2 (k * s+j) (by omega)
   refine one_sound ?_ hx
   rw [List.getD_eq_getElem?_getD,List.getElem?_eq_getElem (by omega)]
   exact List.all_eq_true.1 h1 _ (List.getElem_mem _)) (fun k j hk hj=>by
   rw [hcl] at hk
   have hb:=cell_lt_of hk hj
   rw [chunks_cell s n cells hl hk hj]
   have hx:=hr.2 (k * s+j) (by omega)
   refine (pureB_sound ?_ hx).sameV rfl (fun b h=>h.1)
   rw [List.getD_eq_getElem?_getD,List.getElem?_eq_getElem (by omega)]
   exact List.all_eq_true.1 hp _ (List.getElem_mem _))
 rw [hcl] at this
 exact this
theorem eff_sound {orc orc':List Orc} {x:AV} {H':List AObj} {ps:List Prop} (h:evalEff P V.H ev o orc=some (x,H',orc',ps)) (hps:AllP ps) (hG:HeapRep G V) (hr:∀ y∈o.op.operands,Rep V (ev y) (ρ y)) :
 EffOk P G V ρ o x H':=by
 unfold evalEff at h
 split at h
 · rename_i t hop
   split at h
   · rename_i i hi
     split at h
     · rename_i z hz
       cases h
       obtain ⟨V',h1,h2,h3,h4,h5⟩:=new_box (t:=t) hG (Reps.lits (V:=V) z.cells.toList)
       refine ⟨V',_,_,?_,.inl rfl,h2,h3,h4,h5⟩
       rw [h1,execOp,hop]
       simp [Instr.alloc,zeroValue,typeInfo,hi,hz,newVar,newRow]
     · cases h
   · cases h
 · rename_i t y hop
   have hy:Rep V (ev y) (ρ y):=hr y (by simp [hop,Op.operands])
   split at h
   · rename_i cs hc
     cases h
     obtain ⟨V',h1,h2,h3,h4,h5⟩:=new_box (t:=t) hG (rep_cells hc hy)
     refine ⟨V',_,_,?_,.inl rfl,h2,h3,h4,h5⟩
     rw [h1,execOp,hop]
     simp [Instr.box,newVar,newRow]
   · cases h
 · rename_i t a y hop
   have hy:Rep V (ev y) (ρ y):=hr y (by simp [hop,Op.operands])
   have ha:Rep V (ev a) (ρ a):=hr a (by simp [hop,Op.operands])
   split at h
   · rename_i n cs id off hn hc hp
     rw [hp] at ha
     obtain ⟨_,hea⟩:=rep_ptr ha
     split at h
     · rename_i cells hH
       split at h
       · rename_i hcond
         obtain ⟨hl,hfit,hone⟩:=hcond
         cases h
         obtain ⟨t',vs,o1,o2⟩:=hG.obj id _ hH
         have hcs:=rep_cells hc hy
         have hn2:(ρ y).cells.size=n:=by have:=hcs.1; simp only [Array.length_toList] at this; omega
         have hrun:=run_storeVar_at (w:=V.w) (b:=V.ρ id) (off:=off) (v:=ρ y) hn o1 hn2 (by have:=o2.1; simp only [List.size_toArray]; omega) (ones_sound hone hcs)
         simp only at hrun
         have hheap:=setRow_heap V.w (V.ρ id) vs.toArray (splice vs off (ρ y).cells.toList).toArray t' (0,0) o1
         obtain ⟨V',k1,k2,k3,k4⟩:=step_set hG hH rfl (obj':=.box (splice cells off cs)) o1 hheap (by
          have:=o2.1
          have:=hcs.1
          simp only [List.size_toArray]
          rw [splice_len rfl (by omega)]) (fun b hb=>setRow_other _ _ _ _ hb) (setRow_size _ _ _) rfl rfl rfl trivial
          fun V' hw hs=>⟨t',_,by rw [hw]; exact hheap,((o2.splice off hcs).step hs)⟩
         refine ⟨V',_,_,?_,.inr ⟨rfl,rfl⟩,k2,k3,k4,.pure _ _ (.lit _)⟩
         rw [k1,execOp,hop]
         simp [hea,Instr.storeAt,Instr.sureAddr,hrun]
       · cases h
     · cases h
   · rename_i n cs id g k j hn hc hp
     rw [hp] at ha
     split at h
     · rename_i g' sz xs e orc2 hH
       split at h
       · rename_i hcond
         obtain ⟨hl,hfit,hone⟩:=hcond
         cases h
         obtain ⟨hg,hk,_⟩:=hps
         subst hg
         have hea:=apt_cur hH ha
         obtain ⟨t',c,o1,o2,o3,o4⟩:=hG.obj id _ hH
         have hklt:=(List.getElem?_eq_some_iff.1 hk).1
         have hcs:=rep_cells hc hy
         have hle:e.length=sz:=o3 e (List.mem_of_getElem? hk)
         have hn2:(ρ y).cells.size=n:=by have:=hcs.1; simp only [Array.length_toList] at this; omega
         have hcl:(ρ y).cells.toList.length=cs.length:=hcs.1
         have hbig:k * sz+sz≤c.size:=by
          have:=Nat.mul_le_mul_right sz (show k+1≤xs.length by omega)
          rw [Nat.add_mul] at this; omega
         have hrun:=run_storeVar_at (w:=V.w) (b:=V.ρ id) (off:=k * sz+j) (v:=ρ y) hn o1 hn2 (by omega) (ones_sound hone hcs)
         have hheap:=setRow_heap V.w (V.ρ id) c (splice c.toList (k * sz+j) (ρ y).cells.toList).toArray t' (0,0) o1
         have hsl:(splice c.toList (k * sz+j) (ρ y).cells.toList).length=c.size:=by
          rw [splice_len rfl (by simp only [Array.length_toList]; omega)]; simp
         have hsg:∀ m,(splice c.toList (k * sz+j) (ρ y).cells.toList)[m]? = if m<k * sz+j then c[m]? else if m<k * sz+j+cs.length then (ρ y).cells.toList[m - (k * sz+j)]? else c[m]? := fun m=>by
          rw [splice_get hcl (by simp only [Array.length_toList]; omega)]; simp
         obtain ⟨V',k1,k2,k3,k4⟩:=step_set hG hH rfl (obj':=.arr g' sz false (xs.set k (splice e j cs))) o1 hheap (by simp only [List.size_toArray]; exact hsl)
          (fun b hb=>setRow_other _ _ _ _ hb) (setRow_size _ _ _) rfl rfl rfl ⟨rfl,rfl,rfl⟩ fun V' hw hs=>by
          refine ⟨t',_,by rw [hw]; exact hheap,by rw [List.length_set,List.size_toArray,hsl]; exact o2,fun y' hy'=>?_,fun m i hm hi=>?_⟩
          · rcases List.mem_or_eq_of_mem_set hy' with h | rfl
            · exact o3 _ h
            · have:(splice e j cs).length=e.length:=by unfold Am.splice; simp; omega
              omega
          · rw [List.length_set] at hm
            rw [List.getElem?_toArray,hsg]
            have hmi:=cell_lt_of hm hi
            by_cases hmk:m=k
            · subst hmk
              have hset:(xs.set m (splice e j cs)).getD m []=splice e j cs:=by simp [List.getD_eq_getElem?_getD,hm]
              have hek:xs.getD m []=e:=by rw [List.getD_eq_getElem?_getD,hk]; rfl
              rw [hset]
              have hspl:∀ q,(splice e j cs)[q]? = if q<j then e[q]? else if q<j+cs.length then cs[q - j]? else e[q]? := fun q=>by
               unfold Am.splice
               simp only [List.getElem?_append,List.length_append,List.length_take,List.getElem?_take,List.getElem?_drop]
               rw [show min j e.length=j by omega]
               by_cases h1:q<j
               · rw [if_pos (by omega),if_pos h1,if_pos h1,if_pos h1]
               · by_cases h2:q<j+cs.length
                 · rw [if_pos h2,if_neg h1,if_neg h1,if_pos h2]
                 · rw [if_neg h2,if_neg h1,if_neg h2]; congr 1; omega
              rw [List.getD_eq_getElem?_getD,hspl]
              obtain ⟨v0,hv0,ho0,hr0⟩:=o4 m i hm hi
              rw [hek] at hr0
              by_cases h1:i<j
              · rw [if_pos (by omega),if_pos h1]
                exact ⟨v0,hv0,ho0,by rw [← List.getD_eq_getElem?_getD]; exact hr0.step hs⟩
              · by_cases h2:i<j+cs.length
                · rw [if_neg (by omega),if_pos (by omega),if_neg h1,if_pos h2,show m * sz+i - (m * sz+j)=i - j by omega]
                  obtain ⟨v,hv,hrv⟩:=hcs.get (j:=i - j) (by omega)
                  exact ⟨v,hv,ones_sound hone hcs v (List.mem_of_getElem? hv),by rw [← List.getD_eq_getElem?_getD]; exact hrv.step hs⟩
                · rw [if_neg (by omega),if_neg (by omega),if_neg h1,if_neg h2]
                  exact ⟨v0,hv0,ho0,by rw [← List.getD_eq_getElem?_getD]; exact hr0.step hs⟩
            · have hset:(xs.set k (splice e j cs)).getD m []=xs.getD m []:=by simp [List.getD_eq_getElem?_getD,show k≠m from fun h=>hmk h.symm]
              rw [hset]
              obtain ⟨v0,hv0,ho0,hr0⟩:=o4 m i hm hi
              have hout:m * sz+i<k * sz+j∨k * sz+j+cs.length≤m * sz+i:=by
               rcases Nat.lt_or_gt_of_ne hmk with h | h
               · left
                 have:=Nat.mul_le_mul_right sz (show m+1≤k by omega)
                 rw [Nat.add_mul] at this; omega
               · right
                 have:=Nat.mul_le_mul_right sz (show k+1≤m by omega)
                 rw [Nat.add_mul] at this; omega
              have:(if m * sz+i<k * sz+j then c[m * sz+i]? else if m * sz+i<k * sz+j+cs.length then (ρ y).cells.toList[m * sz+i - (k * sz+j)]? else c[m * sz+i]?)=c[m * sz+i]? := by
               rcases hout with h | h
               · rw [if_pos h]
               · rw [if_neg (by omega),if_neg (by omega)]
              rw [this]
              exact ⟨v0,hv0,ho0,hr0.step hs⟩
         refine ⟨V',_,_,?_,.inr ⟨rfl,rfl⟩,k2,k3,k4,.pure _ _ (.lit _)⟩
         rw [k1,execOp,hop]
         simp [hea,Instr.storeAt,Instr.sureAddr,hrun]
       · cases h
     · cases h
   · cases h
 · rename_i t len parts hop
   split at h
   · rename_i e hu
     split at h
     · rename_i i hi
       split at h
       · rename_i z hz
         split at h
         · rename_i hlim0
           obtain ⟨hlim,hlen0⟩:=hlim0
           split at h
           · rename_i out hf
             split at h
             · rename_i hcond
               obtain ⟨hlen,hone⟩:=hcond
               obtain ⟨us,hus,hout⟩:=fillA_sound (vparts:=parts.toList.map fun (i,x)=>(i,ρ x)) hf (zeros_rep (V:=V) z.cells.toList (len * i.size)) (by simp [List.map_map,Function.comp_def])
                (by
                 rw [List.map_map,List.map_map]
                 have:=reps_map (V:=V) (ev:=ev) (ρ:=ρ) (xs:=parts.toList.map (·.2)) (fun y hy=>hr y (by simp only [hop,Op.operands]; simpa using hy))
                 simpa [List.map_map,Function.comp_def] using this)
               have hrun:=run_buildSlice (P:=P) hu hi hz hlim hus V.w
               have hul:us.length=len * i.size:=by rw [hout.1]; exact hlen
               have ho1:=ones_sound hone hout
               have cellAt:∀ k j,k<len→j<i.size→∃ v,us[k * i.size+j]? = some v∧v.oneCell'=true∧Rep V (((chunks i.size len out).getD k []).getD j .dead) v:=fun k j hk hj=>by
                obtain ⟨v,hv,hrv⟩:=hout.get (j:=k * i.size+j) (by rw [hlen]; exact cell_lt_of hk hj)
                exact ⟨v,hv,ho1 v (List.mem_of_getElem? hv),by rw [chunks_cell _ _ _ hlen hk hj]; exact hrv⟩
               have hex:(execOp ρ o).run P V.w = .ok (.value (.slice (some ⟨V.w.heap.size,0,none⟩) len len)) (V.w.alloc (.cells us.toArray e)):=by
                rw [execOp,hop]
                have:(parts.map fun (i,x)=>(i,ρ x))=(parts.toList.map fun (i,x)=>(i,ρ x)).toArray:=by apply Array.ext'; simp
                simp only [this]
                simp [hrun]
               split at h
               · cases h
                 obtain ⟨V',k1,k2,k3,k4,k5⟩:=new_arr hG (w':=V.w.alloc (.cells us.toArray e)) (t:=e) (c:=us.toArray) (s:=i.size) (xs:=chunks i.size len out) (cap:=len) rfl rfl rfl rfl (chunks_sz _ _ _ hlen)
                  (by rw [chunks_len]; exact Nat.le_refl _) (by
                   rw [maxLen]; omega) (by simp [hul]) (fun k j hk hj=>by
                    rw [chunks_len] at hk
                    simpa using cellAt k j hk hj)
                 rw [chunks_len] at k5
                 exact ⟨V',_,_,by rw [k1]; exact hex,.inl rfl,k2,k3,k4,k5⟩
               · split at h
                 · rename_i hpure
                   cases h
                   obtain ⟨V',k1,k2,k3,k4,k5⟩:=step_data hG (w':=V.w.alloc (.cells us.toArray e)) (o:=.cells us.toArray e) rfl rfl rfl rfl
                   refine ⟨V',_,_,by rw [k1]; exact hex,.inl rfl,k2,k3,k4,.pure _ _ ?_⟩
                   have:=PRep.sl (w:=V'.w) (M:=V'.M) i.size true (chunks i.size len out) (some ⟨V.w.heap.size,0,none⟩) len V.w.heap.size 0 (fun k j=>us.getD (k * i.size+j) undef) (fun _=>rfl) (fun _ _=>k5)
                    (by rw [chunks_len]; exact Nat.le_refl _) (fun _=>(chunks_len _ _ _).symm) (chunks_sz _ _ _ hlen) (fun k j hk hj=>by
                     rw [chunks_len] at hk
                     obtain ⟨v,hv,_,_⟩:=cellAt k j hk hj
                     rw [k1,Nat.zero_add,cell_push rfl,List.getElem?_toArray,hv,List.getD_eq_getElem?_getD,hv]; rfl) (fun k j hk hj=>by
                     rw [chunks_len] at hk
                     obtain ⟨v,hv,h1,_⟩:=cellAt k j hk hj
                     rw [List.getD_eq_getElem?_getD,hv]; exact h1) (fun k j hk hj=>by
                     rw [chunks_len] at hk
                     obtain ⟨v,hv,_,hrv⟩:=cellAt k j hk hj
                     have hv':us.getD (k * i.size+j) undef=v:=by rw [List.getD_eq_getElem?_getD,hv]; rfl
                     rw [hv']
                     refine (pureB_sound ?_ hrv).stepV k3
                     rw [chunks_cell _ _ _ hlen hk hj,List.getD_eq_getElem?_getD]
                     have hlt:k * i.size+j<out.length:=by rw [hlen]; exact cell_lt_of hk hj
                     rw [List.getElem?_eq_getElem hlt]
                     exact List.all_eq_true.1 hpure _ (List.getElem_mem hlt))
                   rw [chunks_len] at this
                   exact this
                 · cases h
             · cases h
           · cases h
         · cases h
       · cases h
     · cases h
   · cases h
 · rename_i t l c hop
   have hl:Rep V (ev l) (ρ l):=hr l (by simp [hop,Op.operands])
   have hc:Rep V (ev c) (ρ c):=hr c (by simp [hop,Op.operands])
   split at h
   · rename_i e n m hu hn hm
     split at h
     · rename_i i hi
       split at h
       · rename_i z hz
         split at h
         · rename_i hcond
           obtain ⟨hzs,hone⟩:=hcond
           cases h
           obtain ⟨⟨h0,h1,h2,h3⟩,_⟩:=hps
           obtain ⟨kn,hkn⟩:=litInt_sound hn hl
           obtain ⟨km,hkm⟩:=litInt_sound hm hc
           have hrun:=run_make (P:=P) V.w t e i z hu hi hz kn km n m h0 h1 h2 (by omega)
           have hzl:z.cells.toList.length=i.size:=by simpa using hzs
           obtain ⟨V',k1,k2,k3,k4,k5⟩:=new_arr hG (w':=V.w.alloc (.cells (madeCells z.cells (m.toNat * i.size)) e)) (t:=e) (c:=madeCells z.cells (m.toNat * i.size)) (s:=i.size)
            (xs:=List.replicate n.toNat (z.cells.toList.map .lit)) (cap:=m.toNat) rfl rfl rfl rfl (fun y hy=>by rw [List.eq_of_mem_replicate hy]; simpa using hzs)
            (by rw [List.length_replicate]; omega) (by unfold maxLen; omega) (by rw [size_madeCells]) (fun k j hk hj=>by
             rw [List.length_replicate] at hk
             have hkm:k * i.size+j<m.toNat * i.size:=cell_lt_of (by omega) hj
             have hmod:(k * i.size+j) % i.size=j:=by rw [Nat.mul_comm,Nat.mul_add_mod]; exact Nat.mod_eq_of_lt hj
             have hj2:j<z.cells.size:=by omega
             refine ⟨z.cells[j],?_,?_,?_⟩
             · have hb:z.cells[j]! = z.cells[j]:=getElem!_pos z.cells j hj2
               simp [madeCells,hkm,hzs,hmod,hb]
             · exact List.all_eq_true.1 hone _ (by simp)
             · have:((List.replicate n.toNat (z.cells.toList.map AV.lit)).getD k []).getD j .dead = .lit z.cells[j]:=by
                simp [List.getD_eq_getElem?_getD,hk,hj2]
               rw [this]
               exact .pure _ _ (.lit _))
           rw [List.length_replicate] at k5
           refine ⟨V',_,_,?_,.inl rfl,k2,k3,k4,k5⟩
           rw [k1,execOp,hop]
           simp [hkn,hkm,hrun]
         · cases h
       · cases h
     · cases h
   · cases h
 · rename_i t x hop
   have hx:Rep V (ev x) (ρ x):=hr x (by simp [hop,Op.operands])
   split at h
   · rename_i n e id hu hex
     rw [hex] at hx
     split at h
     · rename_i s cells hs hH
       split at h
       · rename_i hc
         cases h
         obtain ⟨_,hv⟩:=rep_ptr hx
         obtain ⟨V',v,k1,k2,k3,k4,k5⟩:=box_slice hu hs hG hH hc.1 hc.2.1 hc.2.2
         refine ⟨V',_,v,?_,.inl rfl,k2,k3,k4,k5⟩
         rw [execOp,hop]
         simp [hv,k1]
       · cases h
     · cases h
   · cases h
 · rename_i t hnt hop
   split at h
   · rename_i kt et n hu hb
     cases h
     obtain ⟨V',k1,k2,k3,k4,k5⟩:=step_new (w':=V.w.alloc (.map #[] 0)) (o:=.map #[] 0) (obj:=.map []) hG rfl rfl rfl rfl (fun V' hw hst=>⟨[],0,by rw [hw]; exact heap_push rfl,rfl,List.nodup_nil,rfl,rfl,fun j hj=>absurd hj (by simp)⟩)
     have hmp:Rep V' (.mp V.H.length) (.map (some V.w.heap.size)):=by
      rw [← k5]
      exact .mp _ ⟨.map [],by rw [k2]; simp,rfl⟩
     refine ⟨V',_,_,?_,.inl rfl,k2,k3,k4,hmp⟩
     rw [k1,execOp,hop]
     rcases boundA_run hb (fun z hz=>hr z (by simp [hop,Op.operands,hz])) with ⟨rfl,_⟩ | ⟨z,kk,rfl,hz⟩
     · rfl
     · simp only [Option.map_some,hz,Instr.makeMap,Sem.run_bind,run_underlying hu,Result.andThen_ok]
       rfl
   · cases h
 · rename_i t y hop
   have hy:Rep V (ev y) (ρ y):=hr y (by simp [hop,Op.operands])
   split at h
   · rename_i kt et es hu he
     cases h
     rw [he] at hy
     have hp:=rep_md hy
     generalize hv:ρ y=v at hp
     cases hp with
     | md _ _ es0 hp bm ents clock hb hc hk hd hrr hbn =>
      obtain ⟨hb1,hb2⟩:=hbn rfl
      have hlen:ents.length=es0.length:=by simpa using congrArg List.length hk
      obtain ⟨V',k1,k2,k3,k4,k5⟩:=step_new (w':=V.w.alloc (.mapIter (some bm) clock #[] clock)) (o:=.mapIter (some bm) clock #[] clock) (obj:=.iter none es) hG rfl rfl rfl rfl (fun V' hw hst =>
       ⟨bm,clock,#[],clock,ents,clock,es0,List.range ents.length,by rw [hw]; exact heap_push rfl,
        have hlt:bm<V.w.heap.size:=(Array.getElem?_eq_some_iff.1 hc).1
        have kk:=hst.data bm hlt hb
        { data:=kk.2
          map:=kk.1.trans hc
          key:=hk
          born:=hb1
          old:=hb2
          sn:=Nat.le_refl _
          sc:=Nat.le_refl _
          val:=fun j hj=>(hrr j hj).stepV hst
          nd:=List.nodup_range
          ix:=fun i=>by simp
          lf:=by
           rw [hlen,show ((List.range es0.length).map fun i=>es0.getD i (undef,.dead))=es0 from List.ext_getElem (by simp) fun i h1 h2=>by
            rw [List.getElem_map,List.getElem_range,List.getD_eq_getElem?_getD,List.getElem?_eq_getElem h2]; rfl]
           exact hp
          cu:=fun e he=>by cases he }⟩)
      have hmp:Rep V' (.ptr V.H.length 0) (.pointer (some ⟨V.w.heap.size,0,none⟩)):=by
       rw [← k5]
       exact .ptr _ 0 ⟨.iter none es,by rw [k2]; simp,rfl⟩
      refine ⟨V',_,_,?_,.inl rfl,k2,k3,k4,hmp⟩
      rw [k1,execOp,hop]
      simp [hv,run_range_map V.w t _ _ bm ents.toArray clock hu hc]
   · cases h
 · rename_i t m k y hop
   have hm:Rep V (ev m) (ρ m):=hr m (by simp [hop,Op.operands])
   have hk:Rep V (ev k) (ρ k):=hr k (by simp [hop,Op.operands])
   have hy:Rep V (ev y) (ρ y):=hr y (by simp [hop,Op.operands])
   split at h
   · rename_i kt et id kv es' orc1 hu hem hkv
     rw [hem] at hm
     split at h
     · rename_i es hH
       cases h
       obtain ⟨_,hmu⟩:=rep_mp hm
       have hku:=rep_toVal hkv hk
       obtain ⟨w',k0,kh,ks,k1,k2,k3,kdr,kob⟩:=mapPut_sound (t:=t) hu hps.1 hG hH hy
       obtain ⟨V',q1,q2,q3,q4,q5⟩:=step_map hG hH kh ks k1 k2 k3 kob (Nat.le_of_eq kdr.symm)
       refine ⟨V',_,_,?_,.inr ⟨rfl,rfl⟩,q2,q4,q5,.pure _ _ (.lit _)⟩
       rw [q1,execOp,hop]
       simp [hmu,hku,k0]
     · cases h
   · cases h
 · rename_i t m k y hop
   have hm:Rep V (ev m) (ρ m):=hr m (by simp [hop,Op.operands])
   have hk:Rep V (ev k) (ρ k):=hr k (by simp [hop,Op.operands])
   have hy:Rep V (ev y) (ρ y):=hr y (by simp [hop,Op.operands])
   split at h
   · rename_i kt et id kv es' orc1 hu hem hkv
     rw [hem] at hm
     split at h
     · rename_i es hH
       cases h
       obtain ⟨_,hmu⟩:=rep_mp hm
       have hku:=rep_toVal hkv hk
       obtain ⟨w',k0,kh,ks,k1,k2,k3,kdr,kob⟩:=mapPut_sound (t:=t) hu hps.1 hG hH hy
       obtain ⟨V',q1,q2,q3,q4,q5⟩:=step_map hG hH kh ks k1 k2 k3 kob (Nat.le_of_eq kdr.symm)
       refine ⟨V',_,_,?_,.inr ⟨rfl,rfl⟩,q2,q4,q5,.pure _ _ (.lit _)⟩
       rw [q1,execOp,hop]
       simp [hmu,hku,k0]
     · cases h
   · cases h
 · rename_i t m k hop
   have hm:Rep V (ev m) (ρ m):=hr m (by simp [hop,Op.operands])
   have hk:Rep V (ev k) (ρ k):=hr k (by simp [hop,Op.operands])
   split at h
   · rename_i kt et id kv y i es' orc1 hu hem hkv
     rw [hem] at hm
     split at h
     · rename_i es z hH hz
       cases h
       obtain ⟨_,hmu⟩:=rep_mp hm
       have hku:=rep_toVal hkv hk
       obtain ⟨w',v,k0,kr,kh,ks,k1,k2,k3,kdr,kob⟩:=mapEnt_sound (t:=t) hu hz hps.1 hG hH
       obtain ⟨V',q1,q2,q3,q4,q5⟩:=step_map hG hH kh ks k1 k2 k3 kob (Nat.le_of_eq kdr.symm)
       refine ⟨V',_,.tuple #[v,goInt i],?_,.inl rfl,q2,q4,q5,.tup [y,.lit (.int .i64 i)] [v,goInt i] rfl fun j hj=>?_⟩
       · rw [q1,execOp,hop]
         simp [hmu,hku,k0]
       · match j,hj with
         | 0,_=>exact kr.step q4
         | 1,_=>exact .pure _ _ (.lit _)
     · cases h
   · cases h
 · rename_i t m s y hop
   have hm:Rep V (ev m) (ρ m):=hr m (by simp [hop,Op.operands])
   have hs:Rep V (ev s) (ρ s):=hr s (by simp [hop,Op.operands])
   have hy:Rep V (ev y) (ρ y):=hr y (by simp [hop,Op.operands])
   split at h
   · rename_i id i hem hes
     rw [hem] at hm
     rw [hes] at hs
     split at h
     · rename_i es hH
       cases h
       obtain ⟨_,hmu⟩:=rep_mp hm
       obtain ⟨w',k0,kh,ks,k1,k2,k3,kdr,kob⟩:=entStore_sound (t:=t) hG hH hps.1 hy
       obtain ⟨V',q1,q2,q3,q4,q5⟩:=step_map hG hH kh ks k1 k2 k3 kob (Nat.le_of_eq kdr.symm)
       refine ⟨V',_,_,?_,.inr ⟨rfl,rfl⟩,q2,q4,q5,.pure _ _ (.lit _)⟩
       rw [q1,execOp,hop]
       simp only [hmu,rep_lit hs,Int.ofNat_eq_natCast,Sem.run_bind]
       rw [k0]
       rfl
     · cases h
   · cases h
 · rename_i src dst y hop
   have hy:Rep V (ev y) (ρ y):=hr y (by simp [hop,Op.operands])
   split at h<;>first | (cases h; done) | skip
   rename_i u e s hu1 hu2 hx
   split at h<;>first | (cases h; done) | skip
   rename_i he
   cases h
   rw [hx] at hy
   obtain ⟨V',k1,k2,k3,k4,k5⟩:=new_bytes hG e s
   refine ⟨V',_,_,?_,.inl rfl,k2,k3,k4,.pure _ _ k5⟩
   rw [k1,execOp,hop]
   simp only [rep_lit hy,Sem.run_bind,Lib.run_convert_string_bytes V.w src dst e s hu1 hu2 (isU8_eq he),Result.andThen_ok,Sem.run_pure]
 · rename_i args ts hop
   split at h
   · rename_i a y ta ty ha ht
     have ha':args=#[a,y]:=by apply Array.ext'; simpa using ha
     have ht':ts=#[ta,ty]:=by apply Array.ext'; simpa using ht
     subst ha' ht'
     have h1:Rep V (ev a) (ρ a):=hr a (by simp [hop,Op.operands,Call.operands])
     have h2:Rep V (ev y) (ρ y):=hr y (by simp [hop,Op.operands,Call.operands])
     obtain ⟨V',v,k1,k2,k3,k4,k5⟩:=append_sound (ty:=o.type) h hps hG h1 h2
     refine ⟨V',_,v,?_,.inl rfl,k2,k3,k4,k5⟩
     rw [execOp,hop]
     simp [resolve,invoke,builtin,k1]
   · cases h
 · rename_i args ts hop
   split at h
   · rename_i a ta ha ht
     have ha':args=#[a]:=by apply Array.ext'; simpa using ha
     have ht':ts=#[ta]:=by apply Array.ext'; simpa using ht
     subst ha' ht'
     have h1:Rep V (ev a) (ρ a):=hr a (by simp [hop,Op.operands,Call.operands])
     cases hcl:clearA P V.H ta (ev a) with
     | none=>rw [hcl] at h; cases h
     | some q =>
      obtain ⟨x1,H1,qs⟩:=q
      rw [hcl] at h
      simp only [Option.map_some,Option.some.injEq,Prod.mk.injEq] at h
      obtain ⟨rfl,rfl,rfl,rfl⟩:=h
      obtain ⟨V',v,k1,k2,k3,k4,k5⟩:=clear_sound (ty:=o.type) hcl hps hG h1
      refine ⟨V',_,v,?_,.inl rfl,k2,k3,k4,k5⟩
      rw [execOp,hop]
      simp [resolve,invoke,builtin,k1]
   · cases h
 · cases h
end
end Go.Am
