import Derived.Test.YtihbnnkcemjflaaGreatDoorG2
import Derived.Maps.RangeRun
import Derived.Laws.IdiomRangeMap
set_option maxRecDepth 100000
set_option linter.unusedSimpArgs false
set_option linter.unusedVariables false

namespace Go.Am
open Go
def evalRead (P:Program) (H:List AObj) (ev:Operand→AV) (o:Oper) (orc:List Orc):Option (AV × List Orc × List Prop) :=
 match o.op with
 | .load t x=>match ev x with
  | .ptr id off=>match H[id]? with
   | some (.box cells)=>(loadA P t (cells.drop off)).map (·,orc,[])
   | _=>none
  | .apt id g k j=>match H[id]?,orc with
   | some (.arr g' _ _ xs),.elem y::orc'=>(loadA P t (y.drop j)).map (·,orc',[g'=g,xs[k]? = some y])
   | _,_=>none
  | _=>none
 | .fieldAddr t x f=>match fieldOff P t f,ev x with
  | some n,.apt id g k j=>match H[id]? with
   | some (.arr g' _ _ _)=>some (.apt id g k (j+n),orc,[g'=g])
   | _=>none
  | _,_=>none
 | .indexAddr t x i=>match P.underlying t,ev x,litInt (ev i) with
  | some (.slice e),.own id g off len,some n=>match tSize P e,H[id]? with
   | some s,some (.arr g' sz _ _)=>if s=sz then some (.apt id g (off+n.toNat) 0,orc,[g'=g,0≤n∧n<(len:Int)]) else none
   | _,_=>none
  | _,_,_=>none
 | .slice t x lo hi none=>match P.underlying t,ev x,boundA ev 0 lo with
  | some (.slice e),.own id g off len,some l=>match tSize P e,H[id]?,boundA ev len hi with
   | some s,some (.arr g' sz _ xs),some h=>if s=sz then (match orc with
    | .callA _ _::orc1=>some (.own id g (off+l.toNat) (h.toNat - l.toNat),orc1,[g'=g,0≤l∧l≤h∧(off:Int)+h≤(xs.length:Int),0<sz])
    | _=>some (.own id g (off+l.toNat) (h.toNat - l.toNat),orc,[g'=g,0≤l∧l≤h∧h≤(len:Int)])) else none
   | _,_,_=>none
  | _,_,_=>none
 | .slice t x lo (some hi) (some mx)=>match P.underlying t,ev x,boundA ev 0 lo with
  | some (.slice e),.own id g _ len,some l=>match tSize P e,H[id]?,litInt (ev hi),litInt (ev mx) with
   | some s,some (.arr g' sz _ _),some h,some m=>if s=sz then some (.dead,orc,[g'=g,0≤l∧l≤h∧h≤m∧m≤(len:Int)]) else none
   | _,_,_,_=>none
  | _,_,_=>none
 | .call { callee:=.builtin .len,args:=args,argTypes:=ts }=>match args.toList,ts.toList with
  | [x],[t]=>match P.underlying t,ev x with
   | some (.slice _),.own id g _ len=>match H[id]? with
    | some (.arr g' _ _ _)=>some (.lit (.int .i64 len),orc,[g'=g])
    | _=>none
   | some (.map _ _),.mp id=>match H[id]? with
    | some (.map es)=>some (.lit (.int .i64 es.length),orc,[])
    | _=>none
   | _,_=>none
  | _,_=>none
 | .lookup t x i c=>match ev x with
  | .mp id=>match H[id]? with
   | some (.map es)=>lookA P t es (ev i) c orc
   | _=>none
  | _=>none
 | .entry x=>match ev x with
  | .ptr id 0=>match H[id]? with
   | some (.iter (some e) _)=>some (.tup [.lit e.1,e.2],orc,[])
   | _=>none
  | _=>none
 | .nilCheck x=>match ev x with
  | .apt id g k j=>match H[id]? with
   | some (.arr g' _ _ _)=>some (.apt id g k j,orc,[g'=g])
   | _=>none
  | _=>none
 | _=>none
section
variable {P:Program} {G:Nat→Option (List AV)} {V:View} {ev:Operand→AV} {ρ:Operand→Value} {o:Oper}
theorem box_cells (hG:HeapRep G V) {id:Nat} {cells:List AV} (h:V.H[id]? = some (.box cells)):CellsAt V (V.ρ id) 0 cells:=by
 obtain ⟨t,vs,h1,h2⟩:=hG.obj id _ h
 refine ⟨vs,h2,fun j hj=>?_⟩
 have:j<vs.length:=by rw [h2.1]; exact hj
 simp [World.cell?,h1,List.getD_eq_getElem?_getD,this]
theorem arr_cells (hG:HeapRep G V) {id g sz:Nat} {fz:Bool} {xs:List (List AV)} (h:V.H[id]? = some (.arr g sz fz xs)) {k:Nat} {y:List AV} (hy:xs[k]? = some y):y.length=sz∧CellsAt V (V.ρ id) (k * sz) y:=by
 obtain ⟨t,c,h1,h2,h3,h4⟩:=hG.obj id _ h
 have hlt:=(List.getElem?_eq_some_iff.1 hy).1
 have hlen:y.length=sz:=h3 y (List.mem_of_getElem? hy)
 have hyk:xs.getD k []=y:=by rw [List.getD_eq_getElem?_getD,hy]; rfl
 refine ⟨hlen,(List.range sz).map fun j=>c.getD (k * sz+j) undef,⟨by simp [hlen],fun j hj=>?_⟩,fun j hj=>?_⟩
 · obtain ⟨v,hv,_,hr⟩:=h4 k j hlt (by omega)
   rw [hyk] at hr
   have e:((List.range sz).map fun j=>c.getD (k * sz+j) undef).getD j undef=v:=by
    simp [List.getD_eq_getElem?_getD,show j<sz by omega,Array.getD_eq_getD_getElem?,hv]
   rw [e]; exact hr
 · obtain ⟨v,hv,_,hr⟩:=h4 k j hlt (by omega)
   have e:((List.range sz).map fun j=>c.getD (k * sz+j) undef).getD j undef=v:=by
    simp [List.getD_eq_getElem?_getD,show j<sz by omega,Array.getD_eq_getD_getElem?,hv]
   rw [e]
   simp [World.cell?,h1,hv]
theorem map_cells (hG:HeapRep G V) {id:Nat} {es:List (Value × AV)} (h:V.H[id]? = some (.map es)):∃ ents clock,V.w.heap[V.ρ id]? = some (.map (List.toArray ents) clock)∧ents.map (·.key)=es.map (·.1)∧(es.map (·.1)).Nodup ∧
 ents.map (·.born)=List.range ents.length∧clock=ents.length∧∀ j,j<es.length→Rep V (atE es j) (atV ents j):=hG.obj id _ h
theorem apt_cur {id g k j:Nat} {v:Value} {sz:Nat} {fz:Bool} {xs:List (List AV)} (hH:V.H[id]? = some (.arr g sz fz xs)) (h:Rep V (.apt id g k j) v):v = .pointer (some ⟨V.ρ id,k * sz+j,none⟩):=by
 have:=(rep_apt h).2
 rw [hH] at this
 exact this.2 rfl
theorem own_cur {id g off len:Nat} {v:Value} {sz:Nat} {fz:Bool} {xs:List (List AV)} (hH:V.H[id]? = some (.arr g sz fz xs)) (h:Rep V (.own id g off len) v):OwnRep V id sz off len v:=by
 have:=(rep_own h).2
 rw [hH] at this
 exact this.2 rfl
theorem read_sound {orc orc':List Orc} {x:AV} {ps:List Prop} (h:evalRead P V.H ev o orc=some (x,orc',ps)) (hps:AllP ps) (hG:HeapRep G V) (hr:∀ y∈o.op.operands,Rep V (ev y) (ρ y)) :
 ∃ v,(execOp ρ o).run P V.w = .ok (.value v) V.w∧Rep V x v:=by
 unfold evalRead at h
 split at h
 · rename_i t y hop
   have hy:Rep V (ev y) (ρ y):=hr y (by simp [hop,Op.operands])
   split at h
   · rename_i id off e
     rw [e] at hy
     obtain ⟨_,he⟩:=rep_ptr hy
     split at h
     · rename_i cells hH
       cases hl:loadA P t (cells.drop off) with
       | none=>simp [hl] at h
       | some z =>
        simp [hl] at h
        obtain ⟨rfl,_⟩:=h
        have hc:=(box_cells hG hH).drop off
        rw [Nat.zero_add] at hc
        obtain ⟨v,hv,hrv⟩:=loadA_sound hl hc
        exact ⟨v,by rw [execOp,hop]; simp [he,Instr.loadAt,Instr.sureAddr,hv],hrv⟩
     · cases h
   · rename_i id g k j e
     rw [e] at hy
     split at h
     · rename_i g' sz fz xs y' orc2 hH
       cases hl:loadA P t (y'.drop j) with
       | none=>simp [hl] at h
       | some z =>
        simp only [hl,Option.map_some,Option.some.injEq,Prod.mk.injEq] at h
        obtain ⟨rfl,_,rfl⟩:=h
        obtain ⟨eg,hps,_⟩:=hps
        subst eg
        have he:=apt_cur hH hy
        obtain ⟨v,hv,hrv⟩:=loadA_sound hl ((arr_cells hG hH hps).2.drop j)
        exact ⟨v,by rw [execOp,hop]; simp [he,Instr.loadAt,Instr.sureAddr,hv],hrv⟩
     · cases h
   · cases h
 · rename_i t y f hop
   have hy:Rep V (ev y) (ρ y):=hr y (by simp [hop,Op.operands])
   split at h
   · rename_i n id g k j hf e
     rw [e] at hy
     split at h
     · rename_i g' sz fz xs hH
       cases h
       obtain ⟨eg,_⟩:=hps
       subst eg
       have he:=apt_cur hH hy
       refine ⟨.pointer (some ⟨V.ρ id,k * sz+j+n,none⟩),by rw [execOp,hop]; simp [he,run_fieldAt hf],.apt _ _ _ _ _ ⟨rfl,?_⟩⟩
       rw [hH]
       exact ⟨Nat.le_refl _,fun _=>by rw [Nat.add_assoc]⟩
     · cases h
   · cases h
 · rename_i t y i hop
   have hy:Rep V (ev y) (ρ y):=hr y (by simp [hop,Op.operands])
   have hi:Rep V (ev i) (ρ i):=hr i (by simp [hop,Op.operands])
   split at h
   · rename_i e id g off len n hu hxs hn
     rw [hxs] at hy
     split at h
     · rename_i s g' sz fz xs hs hH
       split at h
       · rename_i eg
         subst eg
         cases h
         obtain ⟨eg,hps⟩:=hps
         subst eg
         obtain ⟨h0,h1⟩:=hps.1
         obtain ⟨k,hk⟩:=litInt_sound hn hi
         obtain ⟨A,cap,c,t',hv,hA,h2,h3,h4,h5⟩:=own_cur hH hy
         have hA':=hA (by omega)
         refine ⟨.pointer (some ⟨V.ρ id,(off+n.toNat) * s+0,none⟩),?_,.apt _ _ _ _ _ ⟨rfl,?_⟩⟩
         · rw [execOp,hop]
           simp [hv,hA',hk,Instr.indexAt,asIntOf,run_underlying hu,run_size hs,Addr.add_lit,h0,h1,Nat.add_mul]
         · rw [hH]; exact ⟨Nat.le_refl _,fun _=>rfl⟩
       · cases h
     · cases h
   · cases h
 · rename_i t y lo hi hop
   have hy:Rep V (ev y) (ρ y):=hr y (by simp [hop,Op.operands])
   have hlo:∀ z,lo=some z→Rep V (ev z) (ρ z):=fun z hz=>hr z (by simp [hop,Op.operands,hz])
   have hhi:∀ z,hi=some z→Rep V (ev z) (ρ z):=fun z hz=>hr z (by simp [hop,Op.operands,hz])
   have bd:∀ {x:Option Operand} {d:Nat} {n:Int},boundA ev d x=some n→(∀ z,x=some z→Rep V (ev z) (ρ z))→0≤n→(x.map ρ=none∧n.toNat=d∨∃ k,x.map ρ=some (.int k (n.toNat:Int))):=by
    intro x d n h hz hn
    rcases boundA_run h hz with ⟨rfl,rfl⟩ | ⟨z,k,rfl,hk⟩
    · exact .inl ⟨rfl,by simp⟩
    · exact .inr ⟨k,by rw [Option.map_some,hk,Int.toNat_of_nonneg hn]⟩
   split at h
   · rename_i e id g off len l hu hxs hl
     rw [hxs] at hy
     split at h
     · rename_i s g' sz fz xs hv hs hH hh
       split at h
       · rename_i eg
         subst eg
         split at h
         · cases h
           obtain ⟨eg,hps⟩:=hps
           subst eg
           obtain ⟨h1,h2,h3⟩:=hps.1
           have hz:0<s:=hps.2.1
           obtain ⟨A,cap,c,t',he,hA,hcap,hmx,hhp,hsz⟩:=own_cur hH hy
           have hc3:hv.toNat≤cap:=by
            obtain ⟨t2,c2,q1,q2,_⟩:=hG.obj id _ hH
            rw [hhp] at q1
            cases q1
            rw [← hsz] at q2
            have:=Nat.le_of_mul_le_mul_right q2 hz
            omega
           have hb:=run_sliceBounds (P:=P) (b:=true) (len:=len) (cap:=cap) (bd hl hlo h1) (bd hh hhi (by omega)) (by omega) hc3 V.w
           refine ⟨.slice (if cap=l.toNat then A else A.map (·.add (l.toNat * s))) (hv.toNat - l.toNat) (cap - l.toNat),?_,.own _ _ _ _ _ ⟨rfl,?_⟩⟩
           · rw [execOp,hop]
             simp [he,Instr.sliceAt,Instr.slice,run_underlying hu,run_size hs,hb]
           · rw [hH]
             refine ⟨Nat.le_refl _,fun _=>⟨_,_,c,t',rfl,fun hne=>?_,by omega,by omega,hhp,?_⟩⟩
             · rw [if_neg (by omega),hA (by omega)]
               simp [Addr.add_lit,Nat.add_mul]
             · rw [← hsz]; congr 1; omega
         · cases h
           obtain ⟨eg,hps⟩:=hps
           subst eg
           obtain ⟨h1,h2,h3⟩:=hps.1
           obtain ⟨A,cap,c,t',he,hA,hcap,hmx,hhp,hsz⟩:=own_cur hH hy
           have hb:=run_sliceBounds (P:=P) (b:=true) (len:=len) (cap:=cap) (bd hl hlo h1) (bd hh hhi (by omega)) (by omega) (by omega) V.w
           refine ⟨.slice (if cap=l.toNat then A else A.map (·.add (l.toNat * s))) (hv.toNat - l.toNat) (cap - l.toNat),?_,.own _ _ _ _ _ ⟨rfl,?_⟩⟩
           · rw [execOp,hop]
             simp [he,Instr.sliceAt,Instr.slice,run_underlying hu,run_size hs,hb]
           · rw [hH]
             refine ⟨Nat.le_refl _,fun _=>⟨_,_,c,t',rfl,fun hne=>?_,by omega,by omega,hhp,?_⟩⟩
             · rw [if_neg (by omega),hA (by omega)]
               simp [Addr.add_lit,Nat.add_mul]
             · rw [← hsz]; congr 1; omega
       · cases h
     · cases h
   · cases h
 · rename_i t y lo hi mx hop
   have hy:Rep V (ev y) (ρ y):=hr y (by simp [hop,Op.operands])
   have hlo:∀ z,lo=some z→Rep V (ev z) (ρ z):=fun z hz=>hr z (by simp [hop,Op.operands,hz])
   have hhi:Rep V (ev hi) (ρ hi):=hr hi (by simp [hop,Op.operands])
   have hmx:Rep V (ev mx) (ρ mx):=hr mx (by simp [hop,Op.operands])
   split at h<;>first | (cases h; done) | skip
   rename_i e id g off len l hu hxs hl
   rw [hxs] at hy
   split at h<;>first | (cases h; done) | skip
   rename_i s g' sz fz xs hv mv hs hH hh hm
   split at h<;>first | (cases h; done) | skip
   rename_i eg
   subst eg
   cases h
   obtain ⟨eg,hps⟩:=hps
   subst eg
   obtain ⟨h1,h2,h3,h4⟩:=hps.1
   obtain ⟨A,cap,c,t',he,_,hcap,_,_,_⟩:=own_cur hH hy
   obtain ⟨k1,hk1⟩:=litInt_sound hh hhi
   obtain ⟨k2,hk2⟩:=litInt_sound hm hmx
   have bd:lo.map ρ=none∧l.toNat=0∨∃ k,lo.map ρ=some (.int k (l.toNat:Int)):=by
    rcases boundA_run hl hlo with ⟨rfl,rfl⟩ | ⟨z,k,rfl,hk⟩
    · exact .inl ⟨rfl,by simp⟩
    · exact .inr ⟨k,by rw [Option.map_some,hk,Int.toNat_of_nonneg h1]⟩
   have hb:=run_sliceBounds3 (P:=P) (len:=len) (cap:=cap) (k1:=k1) (k2:=k2) (h:=hv.toNat) (m:=mv.toNat) bd (by omega) (by omega) (by omega) V.w
   rw [Int.toNat_of_nonneg (by omega:0≤hv),Int.toNat_of_nonneg (by omega:0≤mv)] at hb
   refine ⟨.slice (if mv.toNat=l.toNat then A else A.map (·.add (l.toNat * s))) (hv.toNat - l.toNat) (mv.toNat - l.toNat),?_,.dead _⟩
   rw [execOp,hop]
   simp [he,Instr.sliceAt,Instr.slice,run_underlying hu,run_size hs,hb,hk1,hk2]
 · rename_i args ts hop
   split at h
   · rename_i y t ha ht
     split at h
     · rename_i e id g off len hu hx
       have hy:Rep V (ev y) (ρ y):=hr y (by simp [hop,Op.operands,Call.operands]; rw [← Array.mem_toList_iff,ha]; simp)
       rw [hx] at hy
       split at h
       · rename_i g' sz fz xs hH
         cases h
         obtain ⟨eg,_⟩:=hps
         subst eg
         obtain ⟨A,cap,c,t',he,_⟩:=own_cur hH hy
         have ha':args=#[y]:=by apply Array.ext'; simpa using ha
         have ht':ts=#[t]:=by apply Array.ext'; simpa using ht
         subst ha' ht'
         refine ⟨.int .i64 len,?_,.pure _ _ (.lit _)⟩
         rw [execOp,hop]
         simp [resolve,invoke,builtin,Builtin.len_,run_underlying hu,he,goInt]
       · cases h
     · rename_i kt et id hu hx
       have hy:Rep V (ev y) (ρ y):=hr y (by simp [hop,Op.operands,Call.operands]; rw [← Array.mem_toList_iff,ha]; simp)
       rw [hx] at hy
       split at h
       · rename_i es hH
         cases h
         obtain ⟨_,he⟩:=rep_mp hy
         obtain ⟨ents,clock,hb,hk,_⟩:=map_cells hG hH
         have hlen:ents.length=es.length:=by simpa using congrArg List.length hk
         have ha':args=#[y]:=by apply Array.ext'; simpa using ha
         have ht':ts=#[t]:=by apply Array.ext'; simpa using ht
         subst ha' ht'
         refine ⟨.int .i64 es.length,?_,.pure _ _ (.lit _)⟩
         rw [execOp,hop]
         simp [resolve,invoke,builtin,Builtin.len_,run_underlying hu,he,goInt,MapKept.run_getObj_map hb,hlen]
       · cases h
     · cases h
   · cases h
 · rename_i t y i c hop
   have hy:Rep V (ev y) (ρ y):=hr y (by simp [hop,Op.operands])
   have hi:Rep V (ev i) (ρ i):=hr i (by simp [hop,Op.operands])
   split at h
   · rename_i id he
     rw [he] at hy
     split at h
     · rename_i es hH
       obtain ⟨_,hu⟩:=rep_mp hy
       obtain ⟨ents,clock,hb,hk,hd,_,_,hrr⟩:=map_cells hG hH
       obtain ⟨v,h1,h2⟩:=lookA_sound (.refl _) h hps hi hb hk hd hrr
       exact ⟨v,by rw [execOp,hop]; simp [hu,h1],h2⟩
     · cases h
   · cases h
 · rename_i y hop
   have hy:Rep V (ev y) (ρ y):=hr y (by simp [hop,Op.operands])
   split at h
   · rename_i id he
     rw [he] at hy
     obtain ⟨_,hu⟩:=rep_ptr hy
     split at h
     · rename_i e left hH
       cases h
       obtain ⟨bm,since,seen,c0,ents,clock,es,idx,h1,k⟩:=hG.obj id _ hH
       obtain ⟨rfl,i,seen',hi,rfl,hes⟩:=k.cu e rfl
       have hie:i<es.length:=by have:=congrArg List.length k.key; simp at this; omega
       have hrun:=run_entry_at (P:=P) V.w (V.ρ id) bm since seen' ents.toArray c0 (ents.getD i default) h1 k.map (by rw [List.getD_eq_getElem?_getD,List.getElem?_eq_getElem hi]; simp) (by simpa using k.born)
       have hkey:(ents.getD i default).key=e.1:=by
        have:=congrArg (fun l=>l[i]?) k.key
        simp only [List.getElem?_map,List.getElem?_eq_getElem hi,List.getElem?_eq_getElem hie,Option.map_some,Option.some.injEq] at this
        rw [← hes,List.getD_eq_getElem?_getD,List.getD_eq_getElem?_getD,List.getElem?_eq_getElem hi,List.getElem?_eq_getElem hie]; exact this
       have hv:atE es i=e.2:=by rw [← hes]; rfl
       have hval:=k.val i hie
       rw [hv] at hval
       refine ⟨.tuple #[(ents.getD i default).key,(ents.getD i default).val],?_,.pure _ _ (.tup _ [_,_] rfl fun j hj=>?_)⟩
       · rw [execOp,hop]; simp [hu,hrun]
       · match j,hj with
         | 0,_=>rw [hkey]; exact .lit _
         | 1,_ =>
          have:(ents.getD i default).val=atV ents i:=rfl
          rw [this]; exact hval
     · cases h
   · cases h
 · rename_i y hop
   have hy:Rep V (ev y) (ρ y):=hr y (by simp [hop,Op.operands])
   split at h
   · rename_i id g k j e
     rw [e] at hy
     split at h
     · rename_i g' sz fz xs hH
       cases h
       obtain ⟨eg,_⟩:=hps
       subst eg
       have he:=apt_cur hH hy
       exact ⟨ρ y,by rw [execOp,hop]; simp [he],hy⟩
     · cases h
   · cases h
 · cases h
end
end Go.Am


namespace Go.Am
open Go
def AV.one:AV→Bool
 | .lit v=>v.oneCell'
 | .agg _ | .tup _ | .dead=>false
 | _=>true
theorem one_sound {V:View} {x:AV} {v:Value} (h:x.one=true) (hr:Rep V x v):v.oneCell'=true:=by
 cases x with
 | lit u=>rw [rep_lit hr]; exact h
 | ptr id off=>obtain ⟨_,rfl⟩:=rep_ptr hr; rfl
 | apt id g k j=>exact (rep_apt hr).1
 | imm cs=>obtain ⟨_,_,rfl,_⟩:=imm_inv (rep_imm hr); rfl
 | sl sz t xs=>obtain ⟨_,_,rfl,_⟩:=sl_inv (rep_sl hr); rfl
 | own id g o l=>exact (rep_own hr).1
 | mp id=>obtain ⟨_,rfl⟩:=rep_mp hr; rfl
 | md it es=>cases rep_md hr; rfl
 | yl id=>obtain ⟨_,rfl⟩:=rep_yl hr; rfl
 | fn f a b=>obtain ⟨_,_,rfl,_⟩:=rep_fn hr; rfl
 | ifc t x=>obtain ⟨_,rfl,_⟩:=rep_ifc hr; rfl
 | agg _=>cases h
 | tup _=>cases h
 | dead=>cases h
theorem ones_sound {V:View} {cs:List AV} {vs:List Value} (h:cs.all AV.one=true) (hr:Reps V cs vs):∀ v∈vs,v.oneCell'=true:=by
 intro v hv
 obtain ⟨j,hj,rfl⟩:=List.getElem_of_mem hv
 have hj':j<cs.length:=by rw [← hr.1]; exact hj
 have:=hr.2 j hj'
 rw [List.getD_eq_getElem?_getD,List.getElem?_eq_getElem hj',List.getD_eq_getElem?_getD,List.getElem?_eq_getElem hj] at this
 exact one_sound (List.all_eq_true.1 h _ (List.getElem_mem hj')) this
section
variable {G:Nat→Option (List AV)} {V:View}
theorem HeapRep.glob_step {V':View} (hG:HeapRep G V) (hs:Step V V'):∀ g cs,G g=some cs→PRep V'.w V'.M (.imm cs) (.pointer (some ⟨g,0,none⟩)) :=
 fun g cs hg=>(hG.glob g cs hg).stepV hs
theorem push_old {h:Array Obj} {o:Obj} {b:Nat} (hb:b<h.size):(h.push o)[b]? = h[b]? := by rw [Array.getElem?_push,if_neg (by omega)]
theorem step_new (hG:HeapRep G V) {w':World} {o:Obj} {obj:AObj} (hh:w'.heap=V.w.heap.push o) (h1:w'.os=V.w.os) (h2:w'.tape=V.w.tape) (h3:w'.output=V.w.output)
 (hob:∀ V':View,V'.w=w'→Step V V'→ObjRep V' V.w.heap.size obj) (hdr:V.w.drawn≤w'.drawn:=by first | exact Nat.le_refl _ | exact Nat.le_succ _ | (simp; done) | omega | assumption):∃ V',V'.w=w'∧V'.H=V.H++[obj]∧Step V V'∧HeapRep G V'∧V'.ρ V.H.length=V.w.heap.size:=by
 let V':View:={ w:=w',M:=fun b=>V.M b∨b=V.w.heap.size,H:=V.H++[obj],ρ:=fun id=>if id=V.H.length then V.w.heap.size else V.ρ id }
 have ρn:V'.ρ V.H.length=V.w.heap.size:=if_pos rfl
 have ρo:∀ id,id<V.H.length→V'.ρ id=V.ρ id:=fun id h=>if_neg (by omega)
 have hst:Step V V':={
  os:=h1
  tape:=h2
  output:=h3
  size:=by show _≤w'.heap.size; rw [hh]; simp
  drawn:=hdr
  keep:=fun b hb _=>⟨by show w'.heap[b]? = _; rw [hh]; exact push_old hb,⟨fun h=>h.resolve_right (by omega),.inl⟩⟩
  data:=fun b hb hn=>⟨by show w'.heap[b]? = _; rw [hh]; exact push_old hb,fun h=>hn (h.resolve_right (by omega))⟩
  hlen:=by show _≤(V.H++[obj]).length; simp
  fresh:=fun id hid=>by
   have hid':id<V.H.length+1:=by simpa [V'] using hid
   by_cases e:id=V.H.length
   · subst e; exact .inr (by rw [ρn]; exact Nat.le_refl _)
   · exact .inl ⟨by omega,ρo id (by omega)⟩
  obj:=fun id hid=>.refl hid (List.getElem?_append_left hid) (ρo id hid) (by show w'.heap[_]? = _; rw [hh]; exact push_old (hG.lt id hid)) }
 refine ⟨V',rfl,rfl,hst,?_,ρn⟩
 have split:∀ id,id<V'.H.length→id<V.H.length∨id=V.H.length:=fun id hid=>by
  have hid':id<V.H.length+1:=by simpa [V'] using hid
  omega
 exact {
  lt:=fun id hid=>by
   rcases split id hid with h | rfl
   · rw [ρo id h]; exact Nat.lt_of_lt_of_le (hG.lt id h) hst.size
   · rw [ρn]; show _<w'.heap.size; rw [hh]; simp
  obj:=fun id o' ho=>by
   rcases split id (List.getElem?_eq_some_iff.1 ho).1 with h | rfl
   · have ho':V.H[id]? = some o':=by rw [← List.getElem?_append_left (l₂:=[obj]) h]; exact ho
     rw [ρo id h]
     exact (hG.obj id o' ho').step hst (by show w'.heap[_]? = _; rw [hh]; exact push_old (hG.lt id h))
   · have:V'.H[V.H.length]? = some obj:=by show (V.H++[obj])[_]? = _; simp
     rw [this] at ho
     cases ho
     rw [ρn]
     exact hob V' rfl hst
  inj:=fun i j hi hj e=>by
   rcases split i hi with h | rfl<;>rcases split j hj with k | rfl
   · rw [ρo i h,ρo j k] at e; exact hG.inj i j h k e
   · rw [ρo i h,ρn] at e; have:=hG.lt i h; omega
   · rw [ρn,ρo j k] at e; have:=hG.lt j k; omega
   · rfl
  mutb:=fun id o' ho hop=>by
   rcases split id (List.getElem?_eq_some_iff.1 ho).1 with h | rfl
   · have ho':V.H[id]? = some o':=by rw [← List.getElem?_append_left (l₂:=[obj]) h]; exact ho
     exact .inl (by rw [ρo id h]; exact hG.mutb id o' ho' hop)
   · exact .inr ρn
  glob:=hG.glob_step hst }
theorem step_data (hG:HeapRep G V) {w':World} {o:Obj} (hh:w'.heap=V.w.heap.push o) (h1:w'.os=V.w.os) (h2:w'.tape=V.w.tape) (h3:w'.output=V.w.output) (hdr:V.w.drawn≤w'.drawn:=by first | exact Nat.le_refl _ | exact Nat.le_succ _ | (simp; done) | omega | assumption) :
 ∃ V',V'.w=w'∧V'.H=V.H∧Step V V'∧HeapRep G V'∧¬ V'.M V.w.heap.size:=by
 let V':View:={ w:=w',M:=fun b=>V.M b∧b≠V.w.heap.size,H:=V.H,ρ:=V.ρ }
 have hst:Step V V':={
  os:=h1
  tape:=h2
  output:=h3
  size:=by show _≤w'.heap.size; rw [hh]; simp
  drawn:=hdr
  keep:=fun b hb _=>⟨by show w'.heap[b]? = _; rw [hh]; exact push_old hb,⟨fun h=>h.1,fun h=>⟨h,by omega⟩⟩⟩
  data:=fun b hb hn=>⟨by show w'.heap[b]? = _; rw [hh]; exact push_old hb,fun h=>hn h.1⟩
  hlen:=Nat.le_refl _
  fresh:=fun id hid=>.inl ⟨hid,rfl⟩
  obj:=fun id hid=>.refl hid rfl rfl (by show w'.heap[_]? = _; rw [hh]; exact push_old (hG.lt id hid)) }
 exact ⟨V',rfl,rfl,hst,{
  lt:=fun id hid=>Nat.lt_of_lt_of_le (hG.lt id hid) hst.size
  obj:=fun id o' ho=>(hG.obj id o' ho).step hst (by show w'.heap[_]? = _; rw [hh]; exact push_old (hG.lt id (List.getElem?_eq_some_iff.1 ho).1))
  inj:=hG.inj
  mutb:=fun id o' ho hop=>⟨hG.mutb id o' ho hop,by have:=hG.lt id (List.getElem?_eq_some_iff.1 ho).1; show V.ρ id≠_; omega⟩
  glob:=hG.glob_step hst },fun h=>h.2 rfl⟩
theorem step_calm (hG:HeapRep G V) {w':World} (hh:w'.heap=V.w.heap) (h1:w'.os=V.w.os) (h2:w'.tape=V.w.tape) (h3:w'.output=V.w.output) (hdr:V.w.drawn≤w'.drawn:=by first | exact Nat.le_refl _ | exact Nat.le_succ _ | (simp; done) | omega | assumption) :
 ∃ V',V'.w=w'∧V'.H=V.H∧V'.ρ=V.ρ∧V'.M=V.M∧Step V V'∧HeapRep G V':=by
 let V':View:={ w:=w',M:=V.M,H:=V.H,ρ:=V.ρ }
 have hst:Step V V':={
  os:=h1
  tape:=h2
  output:=h3
  size:=by show _≤w'.heap.size; rw [hh]; exact Nat.le_refl _
  drawn:=hdr
  keep:=fun b hb _=>⟨by show w'.heap[b]? = _; rw [hh],Iff.rfl⟩
  data:=fun b hb hn=>⟨by show w'.heap[b]? = _; rw [hh],hn⟩
  hlen:=Nat.le_refl _
  fresh:=fun id hid=>.inl ⟨hid,rfl⟩
  obj:=fun id hid=>.refl hid rfl rfl (by show w'.heap[_]? = _; rw [hh]) }
 exact ⟨V',rfl,rfl,rfl,rfl,hst,{
  lt:=fun id hid=>by show _<w'.heap.size; rw [hh]; exact hG.lt id hid
  obj:=fun id o' ho=>(hG.obj id o' ho).step hst (by show w'.heap[_]? = _; rw [hh])
  inj:=hG.inj
  mutb:=hG.mutb
  glob:=hG.glob_step hst }⟩
theorem step_set (hG:HeapRep G V) {id:Nat} {obj obj':AObj} (hid:V.H[id]? = some obj) (hop:obj.open_=true) {w':World} {c c':Array Value} {t:TypeId}
 (hc:V.w.heap[V.ρ id]? = some (.cells c t (0,0))) (hc':w'.heap[V.ρ id]? = some (.cells c' t (0,0))) (hsz:c'.size=c.size)
 (hh:∀ b,b≠V.ρ id→w'.heap[b]? = V.w.heap[b]?) (hs:w'.heap.size=V.w.heap.size) (h1:w'.os=V.w.os) (h2:w'.tape=V.w.tape) (h3:w'.output=V.w.output)
 (hkind:match obj,obj' with | .box _,.box _=>True | .arr g sz _ _,.arr g' sz' fz _=>g'=g∧sz'=sz∧fz=false | _,_=>False)
 (hob:∀ V':View,V'.w=w'→Step V V'→ObjRep V' (V.ρ id) obj') (hdr:V.w.drawn≤w'.drawn:=by first | exact Nat.le_refl _ | exact Nat.le_succ _ | (simp; done) | omega | assumption):∃ V',V'.w=w'∧V'.H=V.H.set id obj'∧Step V V'∧HeapRep G V':=by
 have hlt:=(List.getElem?_eq_some_iff.1 hid).1
 let V':View:={ w:=w',M:=V.M,H:=V.H.set id obj',ρ:=V.ρ }
 have hM:=hG.mutb id obj hid hop
 have Hs:V'.H[id]? = some obj':=by show (V.H.set id obj')[id]? = _; rw [List.getElem?_set_self hlt]
 have Ho:∀ i,i≠id→V'.H[i]? = V.H[i]? := fun i hi=>by show (V.H.set id obj')[i]? = _; rw [List.getElem?_set_ne (fun e=>hi e.symm)]
 have hl:V'.H.length=V.H.length:=by show (V.H.set id obj').length=_; simp
 have ne:∀ i,i<V.H.length→i≠id→V.ρ i≠V.ρ id:=fun i hi hne e=>hne (hG.inj i id hi hlt e)
 have hst:Step V V':={
  os:=h1
  tape:=h2
  output:=h3
  size:=Nat.le_of_eq hs.symm
  drawn:=hdr
  keep:=fun b _ hn=>⟨hh b fun e=>hn id hlt e.symm,Iff.rfl⟩
  data:=fun b _ hn=>⟨hh b fun e=>hn (e ▸ hM),hn⟩
  hlen:=Nat.le_of_eq hl.symm
  fresh:=fun i hi=>.inl ⟨by rw [hl] at hi; exact hi,rfl⟩
  obj:=fun i hi=>by
   by_cases e:i=id
   · subst e
     unfold ObjStep
     rw [hid,Hs]
     cases obj<;>cases obj'<;>simp only at hkind⊢<;> first
      | exact hkind.elim
      | trivial
      | (obtain ⟨rfl,rfl,_⟩:=hkind
         exact .inr ⟨rfl,rfl,rfl,fun c0 t0 fr hc0=>by
          rw [hc] at hc0
          cases hc0
          exact ⟨c',hc',hsz⟩⟩)
   · exact .refl hi (Ho i e) rfl (hh _ (ne i hi e)) }
 refine ⟨V',rfl,rfl,hst,?_⟩
 exact {
  lt:=fun i hi=>by rw [hl] at hi; show V.ρ i<w'.heap.size; rw [hs]; exact hG.lt i hi
  obj:=fun i o ho=>by
   by_cases e:i=id
   · subst e; rw [Hs] at ho; cases ho; exact hob V' rfl hst
   · rw [Ho i e] at ho
     exact (hG.obj i o ho).step hst (hh _ (ne i (List.getElem?_eq_some_iff.1 ho).1 e))
  inj:=fun i j hi hj=>by rw [hl] at hi hj; exact hG.inj i j hi hj
  mutb:=fun i o ho hop'=>by
   by_cases e:i=id
   · subst e; exact hM
   · rw [Ho i e] at ho; exact hG.mutb i o ho hop'
  glob:=hG.glob_step hst }
theorem step_one (hG:HeapRep G V) {id:Nat} {obj obj':AObj} (hid:V.H[id]? = some obj) (hop:obj.open_=true) (hk:∀ V':View,V'.H[id]? = some obj'→V'.ρ id=V.ρ id→ObjStep V V' id) {w':World}
 (hh:∀ b,b≠V.ρ id→w'.heap[b]? = V.w.heap[b]?) (hs:w'.heap.size=V.w.heap.size) (h1:w'.os=V.w.os) (h2:w'.tape=V.w.tape) (h3:w'.output=V.w.output)
 (hob:∀ V':View,V'.w=w'→Step V V'→ObjRep V' (V.ρ id) obj') (hdr:V.w.drawn≤w'.drawn:=by first | exact Nat.le_refl _ | exact Nat.le_succ _ | (simp; done) | omega | assumption):∃ V',V'.w=w'∧V'.H=V.H.set id obj'∧V'.ρ=V.ρ∧Step V V'∧HeapRep G V':=by
 have hlt:=(List.getElem?_eq_some_iff.1 hid).1
 let V':View:={ w:=w',M:=V.M,H:=V.H.set id obj',ρ:=V.ρ }
 have hM:=hG.mutb id _ hid hop
 have Hs:V'.H[id]? = some obj':=by show (V.H.set id _)[id]? = _; rw [List.getElem?_set_self hlt]
 have Ho:∀ i,i≠id→V'.H[i]? = V.H[i]? := fun i hi=>by show (V.H.set id _)[i]? = _; rw [List.getElem?_set_ne (fun e=>hi e.symm)]
 have hl:V'.H.length=V.H.length:=by show (V.H.set id _).length=_; simp
 have ne:∀ i,i<V.H.length→i≠id→V.ρ i≠V.ρ id:=fun i hi hne e=>hne (hG.inj i id hi hlt e)
 have hst:Step V V':={
  os:=h1
  tape:=h2
  output:=h3
  size:=Nat.le_of_eq hs.symm
  drawn:=hdr
  keep:=fun b _ hn=>⟨hh b fun e=>hn id hlt e.symm,Iff.rfl⟩
  data:=fun b _ hn=>⟨hh b fun e=>hn (e ▸ hM),hn⟩
  hlen:=Nat.le_of_eq hl.symm
  fresh:=fun i hi=>.inl ⟨by rw [hl] at hi; exact hi,rfl⟩
  obj:=fun i hi=>by
   by_cases e:i=id
   · subst e
     exact hk V' Hs rfl
   · exact .refl hi (Ho i e) rfl (hh _ (ne i hi e)) }
 refine ⟨V',rfl,rfl,rfl,hst,?_⟩
 exact {
  lt:=fun i hi=>by rw [hl] at hi; show V.ρ i<w'.heap.size; rw [hs]; exact hG.lt i hi
  obj:=fun i o ho=>by
   by_cases e:i=id
   · subst e; rw [Hs] at ho; cases ho; exact hob V' rfl hst
   · rw [Ho i e] at ho
     exact (hG.obj i o ho).step hst (hh _ (ne i (List.getElem?_eq_some_iff.1 ho).1 e))
  inj:=fun i j hi hj=>by rw [hl] at hi hj; exact hG.inj i j hi hj
  mutb:=fun i o ho hop'=>by
   by_cases e:i=id
   · subst e; exact hM
   · rw [Ho i e] at ho; exact hG.mutb i o ho hop'
  glob:=hG.glob_step hst }
theorem step_map (hG:HeapRep G V) {id:Nat} {es es':List (Value × AV)} (hid:V.H[id]? = some (.map es)) {w':World}
 (hh:∀ b,b≠V.ρ id→w'.heap[b]? = V.w.heap[b]?) (hs:w'.heap.size=V.w.heap.size) (h1:w'.os=V.w.os) (h2:w'.tape=V.w.tape) (h3:w'.output=V.w.output)
 (hob:∀ V':View,V'.w=w'→Step V V'→ObjRep V' (V.ρ id) (.map es')) (hdr:V.w.drawn≤w'.drawn:=by first | exact Nat.le_refl _ | exact Nat.le_succ _ | (simp; done) | omega | assumption):∃ V',V'.w=w'∧V'.H=V.H.set id (.map es')∧V'.ρ=V.ρ∧Step V V'∧HeapRep G V' :=
 step_one hG hid rfl (fun V' h e=>by unfold ObjStep; rw [hid,h]; exact e) hh hs h1 h2 h3 hob hdr
theorem step_renew (hG:HeapRep G V) {id g sz:Nat} {xs xs':List (List AV)} (hid:V.H[id]? = some (.arr g sz false xs)) {w':World} {b':Nat}
 (hb':b'=V.ρ id∨V.w.heap.size≤b') (hlt':b'<w'.heap.size) (hsize:V.w.heap.size≤w'.heap.size)
 (hh:∀ b,b<V.w.heap.size→b≠V.ρ id→w'.heap[b]? = V.w.heap[b]?) (h1:w'.os=V.w.os) (h2:w'.tape=V.w.tape) (h3:w'.output=V.w.output)
 (hob:∀ V':View,V'.w=w'→Step V V'→ObjRep V' b' (.arr (g+1) sz false xs')) (hdr:V.w.drawn≤w'.drawn:=by first | exact Nat.le_refl _ | exact Nat.le_succ _ | (simp; done) | omega | assumption):∃ V',V'.w=w'∧V'.H=V.H.set id (.arr (g+1) sz false xs')∧Step V V'∧HeapRep G V'∧V'.ρ id=b':=by
 have hlt:=(List.getElem?_eq_some_iff.1 hid).1
 have hM:=hG.mutb id _ hid rfl
 let V':View:={ w:=w',M:=fun b=>V.M b∨b=b',H:=V.H.set id (.arr (g+1) sz false xs'),ρ:=fun i=>if i=id then b' else V.ρ i }
 have Hs:V'.H[id]? = some (.arr (g+1) sz false xs'):=by show (V.H.set id _)[id]? = _; rw [List.getElem?_set_self hlt]
 have Ho:∀ i,i≠id→V'.H[i]? = V.H[i]? := fun i hi=>by show (V.H.set id _)[i]? = _; rw [List.getElem?_set_ne (fun e=>hi e.symm)]
 have hl:V'.H.length=V.H.length:=by show (V.H.set id _).length=_; simp
 have ne:∀ i,i<V.H.length→i≠id→V.ρ i≠V.ρ id:=fun i hi hne e=>hne (hG.inj i id hi hlt e)
 have ρs:V'.ρ id=b':=if_pos rfl
 have ρo:∀ i,i≠id→V'.ρ i=V.ρ i:=fun i hi=>if_neg hi
 have Mo:∀ b,b<V.w.heap.size→(V'.M b↔V.M b):=fun b hb=>⟨fun h=>h.elim (fun h=>h) fun e=>by
  rcases hb' with e' | e'
  · rw [e,e']; exact hM
  · omega,.inl⟩
 have hst:Step V V':={
  os:=h1
  tape:=h2
  output:=h3
  size:=hsize
  drawn:=hdr
  keep:=fun b hb hn=>⟨hh b hb fun e=>hn id hlt e.symm,Mo b hb⟩
  data:=fun b hb hn=>⟨hh b hb fun e=>hn (e ▸ hM),fun h=>hn ((Mo b hb).1 h)⟩
  hlen:=Nat.le_of_eq hl.symm
  fresh:=fun i hi=>by
   rw [hl] at hi
   by_cases e:i=id
   · subst e
     rw [ρs]
     exact hb'.imp (fun h=>⟨hi,h⟩) (fun h=>h)
   · exact .inl ⟨hi,ρo i e⟩
  obj:=fun i hi=>by
   by_cases e:i=id
   · subst e
     unfold ObjStep
     rw [hid,Hs]
     exact .inl (by omega)
   · exact .refl hi (Ho i e) (ρo i e) (hh _ (hG.lt i hi) (ne i hi e)) }
 refine ⟨V',rfl,rfl,hst,?_,ρs⟩
 exact {
  lt:=fun i hi=>by
   rw [hl] at hi
   by_cases e:i=id
   · subst e; rw [ρs]; exact hlt'
   · rw [ρo i e]; exact Nat.lt_of_lt_of_le (hG.lt i hi) hsize
  obj:=fun i o ho=>by
   by_cases e:i=id
   · subst e; rw [Hs] at ho; cases ho; rw [ρs]; exact hob V' rfl hst
   · rw [Ho i e] at ho
     have hi:=(List.getElem?_eq_some_iff.1 ho).1
     rw [ρo i e]
     exact (hG.obj i o ho).step hst (hh _ (hG.lt i hi) (ne i hi e))
  inj:=fun i j hi hj heq=>by
   rw [hl] at hi hj
   by_cases e:i=id<;>by_cases f:j=id
   · rw [e,f]
   · subst e
     rw [ρs,ρo j f] at heq
     rcases hb' with h | h
     · rw [h] at heq; exact absurd heq.symm (ne j hj f)
     · have:=hG.lt j hj; omega
   · subst f
     rw [ρs,ρo i e] at heq
     rcases hb' with h | h
     · rw [h] at heq; exact absurd heq (ne i hi e)
     · have:=hG.lt i hi; omega
   · rw [ρo i e,ρo j f] at heq; exact hG.inj i j hi hj heq
  mutb:=fun i o ho hop=>by
   by_cases e:i=id
   · subst e; exact .inr ρs
   · rw [Ho i e] at ho; rw [ρo i e]; exact .inl (hG.mutb i o ho hop)
  glob:=hG.glob_step hst }
end
end Go.Am


namespace Go.Am
open Go
def srcA (P:Program) (H:List AObj) (x:AV) (tx:TypeId) (s:Nat):Option (List (List AV)) :=
 match P.underlying tx,x with
 | some (.slice _),.sl sz _ ys=>if sz=s then some ys else none
 | some (.slice _),.lit (.slice _ 0 _)=>some []
 | some (.slice _),.own id _ off len=>match H[id]? with
  | some (.arr _ sz _ xs)=>if sz=s then some ((xs.drop off).take len) else none
  | _=>none
 | some .string,.lit (.string b)=>if s=1 then some (b.data.toList.map fun c=>[.lit (.int .u8 c.toNat)]) else none
 | _,_=>none
def srcObl (H:List AObj) (x:AV) (n:Nat):List Prop :=
 match x with
 | .own id g _ len=>match H[id]? with
  | some (.arr g' _ _ _)=>[g'=g,n=len]
  | _=>[]
 | _=>[]
structure SrcOk (P:Program) (V:View) (ys:List (List AV)) (s:Nat) (u:Value) (f:Nat→Value):Prop where
 len:∀ w':World,(Builtin.lenOf u).run P w' = .ok ys.length w'
 cells:∀ w':World,w'.heap=V.w.heap→(Builtin.firstCells s ys.length u).run P w' = .ok ((List.range (ys.length * s)).map f).toArray w'
 one:∀ i,i<ys.length * s→(f i).oneCell'=true
 rep:∀ k j,k<ys.length→j<s→Rep V ((ys.getD k []).getD j .dead) (f (k * s+j))
 sz:∀ y∈ys,y.length=s
theorem divmod {n s i:Nat} (h:i<n * s):i / s<n∧i % s<s∧i / s * s+i % s=i:=by
 have hs:0<s:=by
  rcases Nat.eq_zero_or_pos s with e | e
  · subst e; simp at h
  · exact e
 refine ⟨(Nat.div_lt_iff_lt_mul hs).2 h,Nat.mod_lt _ hs,?_⟩
 have:=Nat.div_add_mod i s
 rw [Nat.mul_comm] at this; exact this
theorem first_cells {P:Program} {w':World} {s n cap b o:Nat} {A:Option Addr} {f:Nat→Value} (hA:0<n→A=some ⟨b,o,none⟩) (hc:∀ i,i<n * s→w'.cell? ⟨b,o+i,none⟩=some (f i)) :
 (Builtin.firstCells s n (.slice A n cap)).run P w' = .ok ((List.range (n * s)).map f).toArray w':=by
 rcases Nat.eq_zero_or_pos n with e | e
 · subst e
   cases A<;>simp [Builtin.firstCells,loadCells,loadCellsFrom]
 · rw [hA e]
   simp only [Builtin.firstCells]
   exact run_loadCells w' _ _ f fun j hj=>by rw [Addr.add_lit]; exact hc j hj
section
variable {P:Program} {G:Nat→Option (List AV)} {V:View}
theorem src_sl {s:Nat} {tg:Bool} {ys:List (List AV)} {u:Value} (h:PRep V.w V.M (.sl s tg ys) u):∃ f,SrcOk P V ys s u f:=by
 cases h with
 | sl _ _ _ A cap b o vs hA hb hcap ht hsz hc ho hr =>
  refine ⟨fun i=>vs (i / s) (i % s),fun w'=>rfl,fun w' hw=>first_cells (b:=b) (o:=o) (fun hn=>hA (List.length_pos_iff.1 hn)) (fun i hi=>?_),fun i hi=>?_,fun k j hk hj=>?_,hsz⟩
  · obtain ⟨h1,h2,h3⟩:=divmod hi
    have:=hc _ _ h1 h2
    rw [Nat.add_assoc,h3] at this
    rw [← this]
    simp [World.cell?,hw]
  · obtain ⟨h1,h2,_⟩:=divmod hi
    exact ho _ _ h1 h2
  · have e1:(k * s+j) / s=k:=by rw [Nat.mul_comm,Nat.mul_add_div (by omega)]; simp [Nat.div_eq_of_lt hj]
    have e2:(k * s+j) % s=j:=by rw [Nat.mul_comm,Nat.mul_add_mod]; exact Nat.mod_eq_of_lt hj
    simp only [e1,e2]
    exact .pure _ _ (hr k j hk hj)
theorem src_nil {s:Nat} {A:Option Addr} {cap:Nat}:SrcOk P V [] s (.slice A 0 cap) (fun _=>undef) :=
 ⟨fun _=>rfl,fun w' _=>by cases A<;>simp [Builtin.firstCells,loadCells,loadCellsFrom],fun i hi=>absurd hi (by simp),fun k j hk=>absurd hk (by simp),by simp⟩
theorem arr_own {id g s off len:Nat} {fz:Bool} {xs:List (List AV)} {u:Value} (hG:HeapRep G V) (hH:V.H[id]? = some (.arr g s fz xs)) (h:OwnRep V id s off len u) (hle:off+len≤xs.length) :
 ∃ f,SrcOk P V ((xs.drop off).take len) s u f:=by
 obtain ⟨A,cap,c,t,rfl,hA,h1,h2,h3,h4⟩:=h
 obtain ⟨t',c',k1,k2,k3,k4⟩:=hG.obj id _ hH
 rw [h3] at k1
 cases k1
 have hl:((xs.drop off).take len).length=len:=by simp; omega
 have hget:∀ k,k<len→((xs.drop off).take len).getD k []=xs.getD (off+k) []:=fun k hk=>by
  simp [List.getD_eq_getElem?_getD,hk]
 have cell:∀ i,i<len * s→∃ v,c[off * s+i]? = some v∧v.oneCell'=true∧Rep V ((xs.getD (off+i / s) []).getD (i % s) .dead) v:=fun i hi=>by
  obtain ⟨d1,d2,d3⟩:=divmod hi
  obtain ⟨v,hv,ho,hr⟩:=k4 (off+i / s) (i % s) (by omega) d2
  rw [Nat.add_mul,Nat.add_assoc,d3] at hv
  exact ⟨v,hv,ho,hr⟩
 refine ⟨fun i=>c.getD (off * s+i) undef,fun w'=>by rw [hl]; rfl,fun w' hw=>?_,fun i hi=>?_,fun k j hk hj=>?_,fun y hy=>k3 y (List.mem_of_mem_drop (List.mem_of_mem_take hy))⟩
 · rw [hl]
   refine first_cells (b:=V.ρ id) (o:=off * s) (fun hn=>hA (by omega)) fun i hi=>?_
   obtain ⟨v,hv,_⟩:=cell i hi
   simp [World.cell?,hw,h3,Array.getD_eq_getD_getElem?,hv]
 · rw [hl] at hi
   obtain ⟨v,hv,ho,_⟩:=cell i hi
   simp [Array.getD_eq_getD_getElem?,hv,ho]
 · rw [hl] at hk
   rw [hget k hk]
   have hks:k * s+j<len * s:=Nat.lt_of_lt_of_le (by rw [Nat.add_mul]; omega:k * s+j<(k+1) * s) (Nat.mul_le_mul_right s hk)
   obtain ⟨v,hv,_,hr⟩:=cell (k * s+j) hks
   have e1:(k * s+j) / s=k:=by rw [Nat.mul_comm,Nat.mul_add_div (by omega)]; simp [Nat.div_eq_of_lt hj]
   have e2:(k * s+j) % s=j:=by rw [Nat.mul_comm,Nat.mul_add_mod]; exact Nat.mod_eq_of_lt hj
   rw [e1,e2] at hr
   simp only [Array.getD_eq_getD_getElem?,hv,Option.getD_some]
   exact hr
theorem src_str {b:ByteArray}:SrcOk P V (b.data.toList.map fun c=>[AV.lit (.int .u8 c.toNat)]) 1 (.string b) (fun i=>.int .u8 ((b.data.toList.getD i 0).toNat)):=by
 have hl:(b.data.toList.map fun c=>[AV.lit (.int .u8 c.toNat)]).length=b.size:=by simp
 have he:(b.extract 0 b.size).data=b.data:=by rw [ByteArray.data_extract]; exact Array.extract_size
 refine ⟨fun w'=>by rw [hl]; rfl,fun w' _=>?_,fun i hi=>rfl,fun k j hk hj=>?_,fun y hy=>?_⟩
 · rw [hl,Nat.mul_one]
   simp only [Builtin.firstCells,Sem.run_pure,he]
   congr 1
   apply Array.ext
   · rw [Array.size_map]
     show b.data.size=(List.map _ (List.range b.size)).length
     rw [List.length_map,List.length_range]; rfl
   · intro i h1 h2
     have hi:i<b.data.size:=by rw [Array.size_map] at h1; exact h1
     have hi':i<b.data.toList.length:=hi
     have hg:b.data.toList.getD i 0=b.data[i]:=by rw [List.getD_eq_getElem?_getD,List.getElem?_eq_getElem hi']; rfl
     rw [Array.getElem_map]
     simp only [List.getElem_toArray,List.getElem_map]
     rw [List.getElem_range,hg]
 · have hj0:j=0:=by omega
   subst hj0
   rw [hl] at hk
   have hk':k<b.data.toList.length:=hk
   have:((b.data.toList.map fun c=>[AV.lit (.int .u8 c.toNat)]).getD k []).getD 0 .dead = .lit (.int .u8 ((b.data.toList.getD k 0).toNat)):=by
    have h1:(b.data.toList.map fun c=>[AV.lit (.int .u8 c.toNat)]).getD k []=[AV.lit (.int .u8 (b.data.toList[k].toNat))]:=by
     rw [List.getD_eq_getElem?_getD,List.getElem?_map,List.getElem?_eq_getElem hk']; rfl
    have h2:b.data.toList.getD k 0=b.data.toList[k]:=by rw [List.getD_eq_getElem?_getD,List.getElem?_eq_getElem hk']; rfl
    rw [h1,h2]; rfl
   rw [this]
   simp only [Nat.mul_one,Nat.add_zero]
   exact .pure _ _ (.lit _)
 · obtain ⟨c,_,rfl⟩:=List.mem_map.1 hy
   rfl
theorem src_sound {H:List AObj} (hHV:V.H=H) {x:AV} {tx:TypeId} {s:Nat} {ys:List (List AV)} {u:Value} (h:srcA P H x tx s=some ys) (ho:AllP (srcObl H x ys.length)) (hG:HeapRep G V) (hr:Rep V x u) :
 (∃ f,SrcOk P V ys s u f)∧((∃ e,P.underlying tx=some (.slice e))∨P.underlying tx=some .string):=by
 subst hHV
 unfold srcA at h
 split at h
 · rename_i e sz tg ys' hu
   split at h
   · rename_i hs; cases h; subst hs; exact ⟨src_sl (rep_sl hr),.inl ⟨_,hu⟩⟩
   · cases h
 · rename_i hu; cases h; rw [rep_lit hr]; exact ⟨⟨_,src_nil⟩,.inl ⟨_,hu⟩⟩
 · rename_i e id g off len hu
   split at h
   · rename_i g' sz fz xs hH
     split at h
     · rename_i hc
       subst hc
       cases h
       simp only [srcObl,hH] at ho
       obtain ⟨hgg,hlen,_⟩:=ho
       subst hgg
       simp at hlen
       refine ⟨?_,.inl ⟨_,hu⟩⟩
       have hown:=own_cur hH hr
       by_cases h0:len=0
       · subst h0
         obtain ⟨A,cap,c,t,rfl,hA,_⟩:=hown
         refine ⟨fun _=>undef,fun _=>by simp; rfl,fun w' _=>?_,fun i hi=>absurd hi (by simp),fun k j hk=>absurd hk (by simp),by simp⟩
         cases A<;>simp [Builtin.firstCells,loadCells,loadCellsFrom]
       · exact arr_own hG hH hown (by omega)
     · cases h
   · cases h
 · rename_i b hu
   split at h
   · rename_i hs; cases h; subst hs; rw [rep_lit hr]; exact ⟨⟨_,src_str⟩,.inr hu⟩
   · cases h
 · cases h
theorem run_append_out (w:World) (ts tx ty e:TypeId) (i:TypeInfo) (z:Value) (ht:P.underlying ts=some (.slice e)) (hx:(∃ e',P.underlying tx=some (.slice e'))∨P.underlying tx=some .string) (hi:P.info? e=some i) (hz:i.zero=some z)
 (base:Option Addr) (sLen sCap n:Nat) (x:Value) (olds news:List Value) (hlen:∀ w':World,(Builtin.lenOf x).run P w' = .ok n w')
 (hold:∀ w':World,w'.heap=w.heap→(Builtin.firstCells i.size sLen (.slice base sLen sCap)).run P w' = .ok olds.toArray w')
 (hnew:∀ w':World,w'.heap=w.heap→(Builtin.firstCells i.size n x).run P w' = .ok news.toArray w')
 (hg:sCap<sLen+n) (h63:((sLen+n:Nat):Int)≤9223372036854775807) (hfit:Builtin.nextslicecap (sLen+n) sCap * i.bytes≤281474976710656) :
 (Builtin.append_ #[ts,tx] ty #[.slice base sLen sCap,x]).run P w =
  .ok (.slice (some ⟨w.heap.size,0,none⟩) (sLen+n) (grownCap w (sLen+n) sCap e))
   (w.drew.alloc (.cells (olds.toArray++news.toArray++Builtin.zeroCells z.cells (grownCap w (sLen+n) sCap e - (sLen+n))) e)):=by
 have hn:¬ (sLen+n≤sCap):=by omega
 have h63':¬ (9223372036854775807<((sLen:Int)+(n:Int))):=by omega
 have h48':¬ (281474976710656<Builtin.nextslicecap (sLen+n) sCap * i.bytes):=by omega
 have hfo:=hold w.drew rfl
 have hfn:=hnew w.drew rfl
 rcases hx with ⟨e',hx⟩ | hx <;>
 · simp [Builtin.append_,run_underlying ht,run_underlying hx,sizeOf,typeInfo,zeroValue,hi,hz,hlen,hn,h63',h48',Question.forced,hfo,hfn,newRow,grownCap]
   congr 2
   apply Array.ext'
   simp [List.append_assoc]
theorem run_append_in (w:World) (ts tx ty e:TypeId) (i:TypeInfo) (ht:P.underlying ts=some (.slice e)) (hx:(∃ e',P.underlying tx=some (.slice e'))∨P.underlying tx=some .string) (hi:P.info? e=some i)
 (g o sLen sCap n:Nat) (x:Value) (news:List Value) (cur:Array Value) (te:TypeId) (hlen:∀ w':World,(Builtin.lenOf x).run P w' = .ok n w')
 (hnew:(Builtin.firstCells i.size n x).run P w = .ok news.toArray w) (h1:∀ u∈news,u.oneCell'=true)
 (hroom:sLen+n≤sCap) (hg:w.heap[g]? = some (.cells cur te (0,0))) (hfit:o+sLen * i.size+news.length≤cur.size) :
 (Builtin.append_ #[ts,tx] ty #[.slice (some ⟨g,o,none⟩) sLen sCap,x]).run P w =
  .ok (.slice (some ⟨g,o,none⟩) (sLen+n) sCap) (w.setRow g (splice cur.toList (o+sLen * i.size) news).toArray):=by
 have hst:=run_storeCells_at P g (o+sLen * i.size) te news 0 cur w hg (by simpa using hfit) h1
 simp only [Nat.add_zero] at hst
 rcases hx with ⟨e',hx⟩ | hx <;>
 · simp [Builtin.append_,run_underlying ht,run_underlying hx,sizeOf,typeInfo,hi,hlen,hroom,hnew,Addr.add_lit,hst,splice]
theorem run_append_none (w:World) (ts tx ty e:TypeId) (i:TypeInfo) (ht:P.underlying ts=some (.slice e)) (hx:(∃ e',P.underlying tx=some (.slice e'))∨P.underlying tx=some .string) (hi:P.info? e=some i)
 (base:Option Addr) (sLen sCap:Nat) (x:Value) (hlen:∀ w':World,(Builtin.lenOf x).run P w' = .ok 0 w')
 (hnew:(Builtin.firstCells i.size 0 x).run P w = .ok #[] w) (hroom:sLen≤sCap) :
 (Builtin.append_ #[ts,tx] ty #[.slice base sLen sCap,x]).run P w = .ok (.slice base sLen sCap) w:=by
 rcases hx with ⟨e',hx⟩ | hx <;>
 · cases base<;>simp [Builtin.append_,run_underlying ht,run_underlying hx,sizeOf,typeInfo,hi,hlen,hroom,hnew,storeCells]
end
end Go.Am


namespace Go.Am
open Go
def pure1:AV→Bool
 | .lit _ | .imm _ | .sl .. | .md .. => true
 | _=>false
def AV.pureB:AV→Bool
 | .lit _ | .imm _ | .sl .. | .md .. => true
 | .fn _ aZ bs=>aZ.all pure1 && bs.all pure1
 | .ifc _ x=>pure1 x
 | _=>false
def chunks (s n:Nat) (cells:List AV):List (List AV):=(List.range n).map fun k=>(cells.drop (k * s)).take s
def zerosA (z:List AV) (n:Nat):List AV:=(List.range n).map fun i=>z.getD (i % z.length) .dead
def appendA (P:Program) (H:List AObj) (ts tx:TypeId) (a x:AV) (orc:List Orc):Option (AV × List AObj × List Orc × List Prop) :=
 match P.underlying ts with
 | some (.slice e)=>match P.info? e with
  | some i=>match i.zero,srcA P H x tx i.size with
   | some z,some ys =>
    if 0<i.bytes∧0<i.size∧z.cells.size=i.size then
     (match a with
     | .lit (.slice none 0 0)=>match orc with
      | .emp::orc'=>some (a,H,orc',(ys=[])::srcObl H x ys.length)
      | _=>some (.own H.length 0 0 ys.length,H++[.arr 0 i.size false ys],orc,(ys≠[])::(ys.length * i.bytes≤140737488355328)::srcObl H x ys.length)
     | .sl sz true xs=>if sz=i.size then (match orc with
      | .emp::orc'=>some (a,H,orc',(ys=[])::srcObl H x ys.length)
      | _=>some (.own H.length 0 0 (xs.length+ys.length),H++[.arr 0 i.size false (xs++ys)],orc,(ys≠[])::((xs.length+ys.length) * i.bytes≤140737488355328)::srcObl H x ys.length)) else none
     | .own id g 0 len=>match H[id]? with
      | some (.arr g' sz false xs)=>if sz=i.size then (match orc with
       | .own::orc'=>some (.own id (g+1) 0 (len+ys.length),H.set id (.arr (g+1) sz false (xs.take len++(ys++xs.drop (len+ys.length)))),orc',(g'=g)::(len+ys.length≤xs.length)::srcObl H x ys.length)
       | _=>some (.own id (g+1) 0 (len+ys.length),H.set id (.arr (g+1) sz false (xs++ys)),orc,(g'=g)::(len=xs.length)::((len+ys.length) * i.bytes≤140737488355328)::srcObl H x ys.length)) else none
      | _=>none
     | _=>none) else none
   | _,_=>none
  | none=>none
 | _=>none
def clearA (P:Program) (H:List AObj) (ta:TypeId) (a:AV):Option (AV × List AObj × List Prop) :=
 match P.underlying ta with
 | some (.slice e)=>match P.info? e with
  | some i=>match i.zero with
   | some z=>if z.cells.size=i.size∧(z.cells.toList.all fun v=>v.oneCell')=true then
    (match a with
    | .own id g off len=>match H[id]? with
     | some (.arr g' sz false xs)=>if sz=i.size then some (.tup [],H.set id (.arr g' sz false (xs.take off++(List.replicate len (z.cells.toList.map .lit)++xs.drop (off+len)))),[g'=g,off+len≤xs.length]) else none
     | _=>none
    | _=>none) else none
   | none=>none
  | none=>none
 | _=>none
def evalEff (P:Program) (H:List AObj) (ev:Operand→AV) (o:Oper) (orc:List Orc):Option (AV × List AObj × List Orc × List Prop) :=
 match o.op with
 | .alloc t=>match P.info? t with
  | some i=>match i.zero with
   | some z=>some (.ptr H.length 0,H++[.box (z.cells.toList.map .lit)],orc,[])
   | none=>none
  | none=>none
 | .box _ x=>match (ev x).cells with
  | some cs=>some (.ptr H.length 0,H++[.box cs],orc,[])
  | none=>none
 | .store t x y=>match tSize P t,(ev y).cells,ev x with
  | some n,some cs,.ptr id off=>match H[id]? with
   | some (.box cells)=>if cs.length=n∧off+cs.length≤cells.length∧cs.all AV.one=true then some (.lit undef,H.set id (.box (splice cells off cs)),orc,[]) else none
   | _=>none
  | some n,some cs,.apt id g k j=>match H[id]?,orc with
   | some (.arr g' sz false xs),.elem e::orc'=>if cs.length=n∧j+cs.length≤sz∧cs.all AV.one=true then
    some (.lit undef,H.set id (.arr g sz false (xs.set k (splice e j cs))),orc',[g'=g,xs[k]? = some e]) else none
   | _,_=>none
  | _,_,_=>none
 | .buildSlice t len parts=>match P.underlying t with
  | some (.slice e)=>match P.info? e with
   | some i=>match i.zero with
    | some z=>if len * i.size≤16777216∧len≤16777216 then
     (match fillA (fun k=>some (k * i.size,i.size)) (zerosA (z.cells.toList.map .lit) (len * i.size)) (parts.toList.map fun (i,x)=>(i,ev x)) with
     | some out=>if out.length=len * i.size∧out.all AV.one=true then
      (match orc with
      | .own::orc'=>some (.own H.length 0 0 len,H++[.arr 0 i.size false (chunks i.size len out)],orc',[])
      | _=>if out.all AV.pureB=true then some (.sl i.size true (chunks i.size len out),H,orc,[]) else none) else none
     | none=>none) else none
    | none=>none
   | none=>none
  | _=>none
 | .makeSlice t l c=>match P.underlying t,litInt (ev l),litInt (ev c) with
  | some (.slice e),some n,some m=>match P.info? e with
   | some i=>match i.zero with
    | some z=>if z.cells.size=i.size∧(z.cells.toList.all fun v=>v.oneCell')=true then
     some (.own H.length 0 0 n.toNat,H++[.arr 0 i.size false (List.replicate n.toNat (z.cells.toList.map .lit))],orc,[0≤n∧n≤m∧(i.bytes:Int) * m≤281474976710656∧m≤4611686018427387904]) else none
    | none=>none
   | none=>none
  | _,_,_=>none
 | .slice t x none none none=>match P.underlying t,ev x with
  | some (.array n e),.ptr id 0=>match tSize P e,H[id]? with
   | some s,some (.box cells)=>if cells.length=n * s∧cells.all AV.pureB=true∧cells.all AV.one=true then some (.sl s true (chunks s n cells),H.set id .gone,orc,[]) else none
   | _,_=>none
  | _,_=>none
 | .makeMap t h=>match P.underlying t,boundA ev 0 h with
  | some (.map _ _),some _=>some (.mp H.length,H++[.map []],orc,[])
  | _,_=>none
 | .range t x=>match P.underlying t,ev x with
  | some (.map _ _),.md true es=>some (.ptr H.length 0,H++[.iter none es],orc,[])
  | _,_=>none
 | .mapUpdate t m k x=>match P.underlying t,ev m,(ev k).toVal,orc with
  | some (.map kt _),.mp id,some kv,.mput es'::orc'=>match H[id]? with
   | some (.map es)=>some (.lit undef,H.set id (.map es'),orc',[MapPut P kt es kv (ev x) es'])
   | _=>none
  | _,_,_,_=>none
 | .insert t m k x=>match P.underlying t,ev m,(ev k).toVal,orc with
  | some (.map kt _),.mp id,some kv,.mput es'::orc'=>match H[id]? with
   | some (.map es)=>some (.lit undef,H.set id (.map es'),orc',[MapPut P kt es kv (ev x) es'])
   | _=>none
  | _,_,_,_=>none
 | .mapEntry t m k=>match P.underlying t,ev m,(ev k).toVal,orc with
  | some (.map kt et),.mp id,some kv,.ment x i es'::orc'=>match H[id]?,calm P (zeroValue et) with
   | some (.map es),some z=>some (.tup [x,.lit (.int .i64 (i:Nat))],H.set id (.map es'),orc',[MapEnt P kt es kv (.lit z) x i es'])
   | _,_=>none
  | _,_,_,_=>none
 | .entryStore _ m s x=>match ev m,ev s with
  | .mp id,.lit (.int .i64 (.ofNat i))=>match H[id]? with
   | some (.map es)=>some (.lit undef,H.set id (.map (setE es i (ev x))),orc,[i<es.length])
   | _=>none
  | _,_=>none
 | .convert src dst x=>match P.underlying src,P.underlying dst,ev x with
  | some _,some (.slice e),.lit (.string s)=>if isU8 P e=true then some (.sl 1 false (s.data.toList.map fun c=>[.lit (.int .u8 c.toNat)]),H,orc,[]) else none
  | _,_,_=>none
 | .call { callee:=.builtin .append,args:=args,argTypes:=ts }=>match args.toList,ts.toList with
  | [a,x],[ta,tx]=>appendA P H ta tx (ev a) (ev x) orc
  | _,_=>none
 | .call { callee:=.builtin .clear,args:=args,argTypes:=ts }=>match args.toList,ts.toList with
  | [a],[ta]=>(clearA P H ta (ev a)).map fun (x,H',ps)=>(x,H',orc,ps)
  | _,_=>none
 | _=>none
def EffOk (P:Program) (G:Nat→Option (List AV)) (V:View) (ρ:Operand→Value) (o:Oper) (x:AV) (H':List AObj):Prop :=
 ∃ (V':View) (r:Next) (v:Value),(execOp ρ o).run P V.w = .ok r V'.w∧(r = .value v∨(r = .skip∧v=undef))∧V'.H=H'∧Step V V'∧HeapRep G V'∧Rep V' x v
section
variable {P:Program} {G:Nat→Option (List AV)} {V:View} {ev:Operand→AV} {ρ:Operand→Value} {o:Oper}
theorem pure1_sound {x:AV} {v:Value} (h:pure1 x=true) (hr:Rep V x v):PRep V.w V.M x v:=by
 cases x<;>first | (cases h; done) | skip
 case lit u=>rw [rep_lit hr]; exact .lit _
 case imm cs=>exact rep_imm hr
 case sl sz t xs=>exact rep_sl hr
 case md it es=>exact rep_md hr
theorem pures_sound {xs:List AV} {vs:List Value} (h:xs.all pure1=true) (hr:Reps V xs vs):∀ j,j<xs.length→PRep V.w V.M (xs.getD j .dead) (vs.getD j undef):=fun j hj =>
 pure1_sound (by rw [List.getD_eq_getElem?_getD,List.getElem?_eq_getElem hj]; exact List.all_eq_true.1 h _ (List.getElem_mem hj)) (hr.2 j hj)
theorem pureB_sound {x:AV} {v:Value} (h:x.pureB=true) (hr:Rep V x v):PRep V.w V.M x v:=by
 cases x<;>first | (cases h; done) | skip
 case lit u=>rw [rep_lit hr]; exact .lit _
 case imm cs=>exact rep_imm hr
 case sl sz t xs=>exact rep_sl hr
 case md it es=>exact rep_md hr
 case fn f aZ bs =>
  obtain ⟨us,vs,rfl,ha,hb⟩:=rep_fn hr
  simp only [AV.pureB,Bool.and_eq_true] at h
  exact .fn f aZ bs us vs ha.1 hb.1 (pures_sound h.1 ha) (pures_sound h.2 hb)
 case ifc t y =>
  obtain ⟨v,rfl,hy⟩:=rep_ifc hr
  exact .ifc t y v (pure1_sound h hy)
theorem cell_push {w':World} {h:Array Obj} {cs:Array Value} {t:TypeId} (hh:w'.heap=h.push (.cells cs t)) (j:Nat):w'.cell? ⟨h.size,j,none⟩=cs[j]? := by
 simp [World.cell?,hh]
theorem heap_push {w':World} {h:Array Obj} {o:Obj} (hh:w'.heap=h.push o):w'.heap[h.size]? = some o:=by rw [hh]; simp
theorem new_box (hG:HeapRep G V) {cells:List AV} {vs:List Value} {t:TypeId} (hr:Reps V cells vs) :
 ∃ V':View,V'.w=V.w.alloc (.cells vs.toArray t)∧V'.H=V.H++[.box cells]∧Step V V'∧HeapRep G V'∧Rep V' (.ptr V.H.length 0) (.pointer (some ⟨V.w.heap.size,0,none⟩)):=by
 obtain ⟨V',h1,h2,h3,h4,h5⟩:=step_new hG (w':=V.w.alloc (.cells vs.toArray t)) (obj:=.box cells) rfl rfl rfl rfl fun V' hw hs =>
  ⟨t,vs,by rw [hw]; exact heap_push rfl,hr.step hs⟩
 refine ⟨V',h1,h2,h3,h4,?_⟩
 rw [← h5]
 exact .ptr _ 0 ⟨.box cells,by rw [h2]; simp,rfl⟩
theorem run_storeVar_at {w:World} {b off:Nat} {t' ty:TypeId} {n:Nat} {cur:Array Value} {v:Value} (hs:tSize P ty=some n) (hc:w.heap[b]? = some (.cells cur t' (0,0))) (hn:v.cells.size=n) (hfit:off+n≤cur.size)
 (h1:∀ u∈v.cells.toList,u.oneCell'=true):(storeVar ty ⟨b,off,none⟩ v).run P w = .ok () (w.setRow b (splice cur.toList off v.cells.toList).toArray):=by
 have:=run_storeCells_at P b off t' v.cells.toList 0 cur w hc (by simp; omega) h1
 simp only [Nat.add_zero] at this
 simp [storeVar,run_size hs,hn,this,splice]
theorem chunks_get (s n:Nat) (cells:List AV) (hl:cells.length=n * s) {k:Nat} (hk:k<n):(chunks s n cells).getD k []=(cells.drop (k * s)).take s∧((cells.drop (k * s)).take s).length=s:=by
 have hle:k * s+s≤n * s:=by
  have:=Nat.mul_le_mul_right s (show k+1≤n by omega)
  rw [Nat.add_mul] at this; omega
 exact ⟨by simp [chunks,List.getD_eq_getElem?_getD,hk],by simp; omega⟩
theorem chunks_cell (s n:Nat) (cells:List AV) (hl:cells.length=n * s) {k j:Nat} (hk:k<n) (hj:j<s):((chunks s n cells).getD k []).getD j .dead=cells.getD (k * s+j) .dead:=by
 rw [(chunks_get s n cells hl hk).1]
 simp [List.getD_eq_getElem?_getD,hj,List.getElem?_drop]
theorem chunks_len (s n:Nat) (cells:List AV):(chunks s n cells).length=n:=by simp [chunks]
theorem chunks_sz (s n:Nat) (cells:List AV) (hl:cells.length=n * s):∀ x∈chunks s n cells,x.length=s:=by
 intro x hx
 obtain ⟨k,hk,rfl⟩:=List.mem_map.1 hx
 exact (chunks_get s n cells hl (List.mem_range.1 hk)).2
theorem cell_lt_of {s n k j:Nat} (hk:k<n) (hj:j<s):k * s+j<n * s:=by
 have:=Nat.mul_le_mul_right s (show k+1≤n by omega)
 rw [Nat.add_mul] at this; omega
theorem Reps.get {xs:List AV} {vs:List Value} (h:Reps V xs vs) {j:Nat} (hj:j<xs.length):∃ v,vs[j]? = some v∧Rep V (xs.getD j .dead) v:=by
 have hj':j<vs.length:=by rw [h.1]; exact hj
 have:=h.2 j hj
 rw [List.getD_eq_getElem?_getD,List.getD_eq_getElem?_getD,List.getElem?_eq_getElem hj'] at this
 exact ⟨vs[j],List.getElem?_eq_getElem hj',by rw [List.getD_eq_getElem?_getD]; exact this⟩
theorem new_arr (hG:HeapRep G V) {w':World} {t:TypeId} {c:Array Value} {s:Nat} {xs:List (List AV)} {cap:Nat} (hh:w'.heap=V.w.heap.push (.cells c t)) (h1:w'.os=V.w.os) (h2:w'.tape=V.w.tape) (h3:w'.output=V.w.output)
 (hsz:∀ x∈xs,x.length=s) (hcap:xs.length≤cap) (hmx:cap≤maxLen) (hcs:cap * s=c.size)
 (hc:∀ k j,k<xs.length→j<s→∃ v,c[k * s+j]? = some v∧v.oneCell'=true∧Rep V ((xs.getD k []).getD j .dead) v) (hdr:V.w.drawn≤w'.drawn:=by first | exact Nat.le_refl _ | exact Nat.le_succ _ | (simp; done) | omega | assumption) :
 ∃ V':View,V'.w=w'∧V'.H=V.H++[.arr 0 s false xs]∧Step V V'∧HeapRep G V'∧Rep V' (.own V.H.length 0 0 xs.length) (.slice (some ⟨V.w.heap.size,0,none⟩) xs.length cap):=by
 have hle:xs.length * s≤c.size:=by rw [← hcs]; exact Nat.mul_le_mul_right s hcap
 obtain ⟨V',k1,k2,k3,k4,k5⟩:=step_new hG (w':=w') (obj:=.arr 0 s false xs) hh h1 h2 h3 fun V' hw hs =>
  ⟨t,c,by rw [hw]; exact heap_push hh,hle,hsz,fun k j hk hj=>let ⟨v,hv,ho,hr⟩:=hc k j hk hj; ⟨v,hv,ho,hr.step hs⟩⟩
 refine ⟨V',k1,k2,k3,k4,.own _ _ _ _ _ ⟨rfl,?_⟩⟩
 have:V'.H[V.H.length]? = some (.arr 0 s false xs):=by rw [k2]; simp
 rw [this]
 exact ⟨Nat.le_refl _,fun _=>⟨_,cap,c,t,rfl,fun _=>by rw [k5]; simp,hcap,hmx,by rw [k1,k5]; exact heap_push hh,by rw [Nat.zero_add]; exact hcs⟩⟩
theorem rep_own_mk {V':View} {id g s len cap:Nat} {xs:List (List AV)} {A:Option Addr} {c:Array Value} {t:TypeId} (h1:V'.H[id]? = some (.arr g s false xs)) (hA:cap≠0→A=some ⟨V'.ρ id,0,none⟩) (h2:len≤cap) (h3:cap≤maxLen)
 (h4:V'.w.heap[V'.ρ id]? = some (.cells c t (0,0))) (h5:cap * s=c.size):Rep V' (.own id g 0 len) (.slice A len cap):=by
 refine .own _ _ _ _ _ ⟨rfl,?_⟩
 rw [h1]
 exact ⟨Nat.le_refl _,fun _=>⟨A,cap,c,t,rfl,fun h=>by rw [Nat.zero_mul]; exact hA h,h2,h3,h4,by rw [Nat.zero_add]; exact h5⟩⟩
def ArrOk (V:View) (s:Nat) (xs:List (List AV)) (c:Array Value):Prop :=
 xs.length * s≤c.size∧(∀ x∈xs,x.length=s)∧∀ k j,k<xs.length→j<s→∃ v,c[k * s+j]? = some v∧v.oneCell'=true∧Rep V ((xs.getD k []).getD j .dead) v
theorem ArrOk.step {V V':View} (hs:Step V V') {s:Nat} {xs:List (List AV)} {c:Array Value} (h:ArrOk V s xs c):ArrOk V' s xs c :=
 ⟨h.1,h.2.1,fun k j hk hj=>let ⟨v,h1,h2,h3⟩:=h.2.2 k j hk hj; ⟨v,h1,h2,h3.step hs⟩⟩
theorem append_get {xs ys:List (List AV)} {k:Nat}:(xs++ys).getD k []=if k<xs.length then xs.getD k [] else ys.getD (k - xs.length) []:=by
 split<;>simp [List.getD_eq_getElem?_getD,List.getElem?_append, *]
theorem arr_append {s:Nat} {xs ys:List (List AV)} {c:Array Value} {f0 f:Nat→Value} (h0:∀ j,j<xs.length * s→c[j]? = some (f0 j)) (h1:∀ j,j<ys.length * s→c[xs.length * s+j]? = some (f j)) (hsz:(xs.length+ys.length) * s≤c.size)
 (hx:∀ y∈xs,y.length=s) (hy:∀ y∈ys,y.length=s) (o0:∀ j,j<xs.length * s→(f0 j).oneCell'=true) (o1:∀ j,j<ys.length * s→(f j).oneCell'=true)
 (r0:∀ k j,k<xs.length→j<s→Rep V ((xs.getD k []).getD j .dead) (f0 (k * s+j))) (r1:∀ k j,k<ys.length→j<s→Rep V ((ys.getD k []).getD j .dead) (f (k * s+j))):ArrOk V s (xs++ys) c:=by
 refine ⟨by rw [List.length_append]; exact hsz,fun y hm=>(List.mem_append.1 hm).elim (hx y) (hy y),fun k j hk hj=>?_⟩
 rw [List.length_append] at hk
 rw [append_get]
 by_cases hlt:k<xs.length
 · have hkj:k * s+j<xs.length * s:=cell_lt_of hlt hj
   rw [if_pos hlt]
   exact ⟨_,h0 _ hkj,o0 _ hkj,r0 k j hlt hj⟩
 · have hk2:k - xs.length<ys.length:=by omega
   have hkj:(k - xs.length) * s+j<ys.length * s:=cell_lt_of hk2 hj
   have e1:k * s+j=xs.length * s+((k - xs.length) * s+j):=by
    rw [← Nat.add_assoc,← Nat.add_mul]; congr 2; omega
   rw [if_neg hlt,e1]
   exact ⟨_,h1 _ hkj,o1 _ hkj,r1 _ j hk2 hj⟩
theorem append_grow {ts tx ty e:TypeId} {i:TypeInfo} {z:Value} (hu:P.underlying ts=some (.slice e)) (hi:P.info? e=some i) (hz:i.zero=some z) (hby:0<i.bytes) (hzs:z.cells.size=i.size)
 {ux:Value} {xs ys:List (List AV)} {f0 f:Nat→Value} (hf:SrcOk P V ys i.size ux f) (hty:(∃ e,P.underlying tx=some (TypeDesc.slice e))∨P.underlying tx=some TypeDesc.string)
 (base:Option Addr) (sCap:Nat) (hxsz:∀ y∈xs,y.length=i.size)
 (hold:∀ w':World,w'.heap=V.w.heap→(Builtin.firstCells i.size xs.length (.slice base xs.length sCap)).run P w' = .ok ((List.range (xs.length * i.size)).map f0).toArray w') (hone:∀ j,j<xs.length * i.size→(f0 j).oneCell'=true)
 (hrep0:∀ k j,k<xs.length→j<i.size→Rep V ((xs.getD k []).getD j .dead) (f0 (k * i.size+j))) (hcap:sCap<xs.length+ys.length) (hbytes:(xs.length+ys.length) * i.bytes≤140737488355328) :
 ∃ cap c,xs.length+ys.length≤cap∧cap≤maxLen∧cap * i.size=c.size∧(Builtin.append_ #[ts,tx] ty #[.slice base xs.length sCap,ux]).run P V.w = .ok (.slice (some ⟨V.w.heap.size,0,none⟩) (xs.length+ys.length) cap) (V.w.drew.alloc (.cells c e)) ∧
  ArrOk V i.size (xs++ys) c:=by
 have hneed:xs.length+ys.length≤140737488355328:=Nat.le_trans (Nat.le_mul_of_pos_right _ hby) hbytes
 have hmx:xs.length+ys.length≤maxLen:=by unfold maxLen; omega
 have hfit:Builtin.nextslicecap (xs.length+ys.length) sCap * i.bytes≤281474976710656:=by
  have:=Nat.mul_le_mul_right i.bytes (nextslicecap_le hcap)
  rw [Nat.mul_assoc] at this; omega
 have hrun:=run_append_out V.w ts tx ty e i z hu hty hi hz base xs.length sCap ys.length ux _ _ hf.len hold hf.cells hcap (by omega) hfit
 have hge:=grownCap_ge V.w (xs.length+ys.length) sCap e
 have hcs:grownCap V.w (xs.length+ys.length) sCap e * i.size=(((List.range (xs.length * i.size)).map f0).toArray++((List.range (ys.length * i.size)).map f).toArray++Builtin.zeroCells z.cells (grownCap V.w (xs.length+ys.length) sCap e - (xs.length+ys.length))).size:=by
  simp only [Array.size_append,List.size_toArray,List.length_map,List.length_range,size_zeroCells,hzs,← Nat.add_mul]
  congr 1; omega
 refine ⟨_,_,hge,grownCap_le_maxLen V.w _ sCap e hmx,hcs,hrun,arr_append (f0:=f0) (f:=f) (fun j hj=>?_) (fun j hj=>?_) ?_ hxsz hf.sz hone hf.one hrep0 hf.rep⟩
 · rw [Array.append_assoc,Array.getElem?_append_left (by simpa using hj)]
   simp [hj]
 · rw [Array.append_assoc,Array.getElem?_append_right (by simp),Array.getElem?_append_left (by simp; exact hj)]
   simp [hj]
 · rw [← hcs]; exact Nat.mul_le_mul_right _ hge
theorem splice_get {a m:Nat} {c:List Value} {news:List Value} (hm:news.length=m) (hfit:a+m≤c.length) (j:Nat):(splice c a news)[j]? = if j<a then c[j]? else if j<a+m then news[j - a]? else c[j]? := by
 unfold Am.splice
 simp only [List.getElem?_append,List.length_append,List.length_take,hm,List.getElem?_take,List.getElem?_drop]
 rw [show min a c.length=a by omega]
 by_cases h1:j<a
 · rw [if_pos (by omega),if_pos h1,if_pos h1,if_pos h1]
 · by_cases h2:j<a+m
   · rw [if_pos h2,if_neg h1,if_neg h1,if_pos h2]
   · rw [if_neg h2,if_neg h1,if_neg h2]; congr 1; omega
theorem splice_len {a m:Nat} {c:List Value} {news:List Value} (hm:news.length=m) (hfit:a+m≤c.length):(splice c a news).length=c.length:=by
 unfold Am.splice; simp [hm]; omega
theorem append_in {ts tx ty e:TypeId} {i:TypeInfo} (hu:P.underlying ts=some (.slice e)) (hi:P.info? e=some i) {ux:Value} {ys:List (List AV)} {f:Nat→Value} (hf:SrcOk P V ys i.size ux f)
 (hty:(∃ e,P.underlying tx=some (TypeDesc.slice e))∨P.underlying tx=some TypeDesc.string) (hG:HeapRep G V) {id g cap:Nat} {xs:List (List AV)} {c:Array Value} {t:TypeId} (hH:V.H[id]? = some (.arr g i.size false xs))
 (hc3:V.w.heap[V.ρ id]? = some (.cells c t (0,0))) (hc4:cap * i.size=c.size) (hmx:cap≤maxLen) (hroom:xs.length+ys.length≤cap) (ok:ArrOk V i.size xs c) :
 ∃ (V':View) (v:Value),(Builtin.append_ #[ts,tx] ty #[.slice (some ⟨V.ρ id,0,none⟩) xs.length cap,ux]).run P V.w = .ok v V'.w∧V'.H=V.H.set id (.arr (g+1) i.size false (xs++ys))∧Step V V'∧HeapRep G V'∧Rep V' (.own id (g+1) 0 (xs.length+ys.length)) v:=by
 have hlt:=hG.lt id (List.getElem?_eq_some_iff.1 hH).1
 obtain ⟨news,hnews⟩:∃ news:List Value,news=(List.range (ys.length * i.size)).map f:=⟨_,rfl⟩
 have hlen:news.length=ys.length * i.size:=by rw [hnews]; simp
 have hfit:xs.length * i.size+ys.length * i.size≤c.size:=by
  rw [← hc4,← Nat.add_mul]; exact Nat.mul_le_mul_right _ hroom
 have hone:∀ u∈news,u.oneCell'=true:=fun u hu=>by
  rw [hnews] at hu
  obtain ⟨j,hj,rfl⟩:=List.mem_map.1 hu
  exact hf.one j (List.mem_range.1 hj)
 have hcl:=hf.cells V.w rfl
 rw [← hnews] at hcl
 have hn:=run_append_in (P:=P) V.w ts tx ty e i hu hty hi (V.ρ id) 0 xs.length cap ys.length ux news c t hf.len hcl hone hroom hc3 (by rw [hlen]; omega)
 rw [Nat.zero_add] at hn
 obtain ⟨L,hL⟩:∃ L:List Value,L=splice c.toList (xs.length * i.size) news:=⟨_,rfl⟩
 have hLl:L.length=c.size:=by rw [hL,splice_len hlen (by simpa using hfit)]; simp
 have hLg:∀ j,L[j]? = if j<xs.length * i.size then c[j]? else if j<xs.length * i.size+ys.length * i.size then news[j - xs.length * i.size]? else c[j]? := fun j=>by
  rw [hL,splice_get hlen (by simpa using hfit)]; simp
 rw [← hL] at hn
 have hheap:=setRow_heap V.w (V.ρ id) c L.toArray t (0,0) hc3
 have hok:ArrOk V i.size (xs++ys) L.toArray:=by
  obtain ⟨o2,o3,o4⟩:=ok
  obtain ⟨f0,hf0⟩:∃ f0:Nat→Value,f0=fun j=>c.getD j undef:=⟨_,rfl⟩
  have val:∀ j,j<xs.length * i.size→c[j]? = some (f0 j):=fun j hj=>by
   rw [hf0]
   simp [Array.getD_eq_getD_getElem?,show j<c.size by omega]
  refine arr_append (f0:=f0) (f:=f) (fun j hj=>?_) (fun j hj=>?_) (by rw [List.size_toArray,hLl,Nat.add_mul]; exact hfit) o3 hf.sz (fun j hj=>?_) hf.one (fun k j hk hj=>?_) hf.rep
  · rw [List.getElem?_toArray,hLg,if_pos hj]; exact val j hj
  · rw [List.getElem?_toArray,hLg,if_neg (by omega),if_pos (by omega),hnews,Nat.add_sub_cancel_left]
    simp [hj]
  · obtain ⟨d1,d2,d3⟩:=divmod hj
    obtain ⟨v,hv,hv1,_⟩:=o4 _ _ d1 d2
    rw [d3] at hv
    have:=val j hj
    rw [hv] at this
    cases this; exact hv1
  · have hkj:=cell_lt_of hk hj
    obtain ⟨v,hv,_,hr⟩:=o4 k j hk hj
    have:=val _ hkj
    rw [hv] at this
    cases this; exact hr
 obtain ⟨V',k1,k2,k3,k4,k5⟩:=step_renew hG hH (w':=V.w.setRow (V.ρ id) L.toArray) (b':=V.ρ id) (xs':=xs++ys) (.inl rfl) (by rw [setRow_size]; exact hlt) (by rw [setRow_size]; exact Nat.le_refl _)
  (fun b _ hb=>setRow_other _ _ _ _ hb) rfl rfl rfl fun V' hw hs=>⟨t,_,by rw [hw]; exact hheap,(hok.step hs).1,(hok.step hs).2.1,(hok.step hs).2.2⟩
 refine ⟨V',_,by rw [k1]; exact hn,k2,k3,k4,rep_own_mk (c:=L.toArray) (t:=t) (xs:=xs++ys) (s:=i.size) (by rw [k2,List.getElem?_set_self (List.getElem?_eq_some_iff.1 hH).1]) (fun _=>by rw [k5]) hroom hmx (by rw [k1,k5]; exact hheap) (by rw [List.size_toArray,hLl]; exact hc4)⟩
theorem over_get {xs ys:List (List AV)} {len k:Nat} (h:len+ys.length≤xs.length):(xs.take len++(ys++xs.drop (len+ys.length))).getD k []=if k<len then xs.getD k [] else if k<len+ys.length then ys.getD (k - len) [] else xs.getD k []:=by
 have hl:(xs.take len).length=len:=by rw [List.length_take]; omega
 rw [append_get,hl]
 by_cases h1:k<len
 · rw [if_pos h1,if_pos h1,List.getD_eq_getElem?_getD,List.getElem?_take_of_lt h1,List.getD_eq_getElem?_getD]
 · rw [if_neg h1,if_neg h1,append_get]
   by_cases h2:k<len+ys.length
   · rw [if_pos (by omega),if_pos h2]
   · rw [if_neg (by omega),if_neg h2,List.getD_eq_getElem?_getD,List.getElem?_drop,List.getD_eq_getElem?_getD,show len+ys.length+(k - len - ys.length)=k by omega]
theorem append_over {ts tx ty e:TypeId} {i:TypeInfo} (hu:P.underlying ts=some (.slice e)) (hi:P.info? e=some i) {ux:Value} {ys:List (List AV)} {f:Nat→Value} (hf:SrcOk P V ys i.size ux f)
 (hty:(∃ e,P.underlying tx=some (TypeDesc.slice e))∨P.underlying tx=some TypeDesc.string) (hG:HeapRep G V) {id g cap len:Nat} {xs:List (List AV)} {c:Array Value} {t:TypeId} (hH:V.H[id]? = some (.arr g i.size false xs))
 (hc3:V.w.heap[V.ρ id]? = some (.cells c t (0,0))) (hc4:cap * i.size=c.size) (hmx:cap≤maxLen) (hroom:len+ys.length≤cap) (hin:len+ys.length≤xs.length) (ok:ArrOk V i.size xs c) :
 ∃ (V':View) (v:Value),(Builtin.append_ #[ts,tx] ty #[.slice (some ⟨V.ρ id,0,none⟩) len cap,ux]).run P V.w = .ok v V'.w∧V'.H=V.H.set id (.arr (g+1) i.size false (xs.take len++(ys++xs.drop (len+ys.length))))∧Step V V'∧HeapRep G V'∧Rep V' (.own id (g+1) 0 (len+ys.length)) v:=by
 have hlt:=hG.lt id (List.getElem?_eq_some_iff.1 hH).1
 obtain ⟨news,hnews⟩:∃ news:List Value,news=(List.range (ys.length * i.size)).map f:=⟨_,rfl⟩
 have hlen:news.length=ys.length * i.size:=by rw [hnews]; simp
 have hfit:len * i.size+ys.length * i.size≤c.size:=by
  rw [← hc4,← Nat.add_mul]; exact Nat.mul_le_mul_right _ hroom
 have hone:∀ u∈news,u.oneCell'=true:=fun u hu=>by
  rw [hnews] at hu
  obtain ⟨j,hj,rfl⟩:=List.mem_map.1 hu
  exact hf.one j (List.mem_range.1 hj)
 have hcl:=hf.cells V.w rfl
 rw [← hnews] at hcl
 have hn:=run_append_in (P:=P) V.w ts tx ty e i hu hty hi (V.ρ id) 0 len cap ys.length ux news c t hf.len hcl hone hroom hc3 (by rw [hlen]; omega)
 rw [Nat.zero_add] at hn
 obtain ⟨L,hL⟩:∃ L:List Value,L=splice c.toList (len * i.size) news:=⟨_,rfl⟩
 have hLl:L.length=c.size:=by rw [hL,splice_len hlen (by simpa using hfit)]; simp
 have hLg:∀ j,L[j]? = if j<len * i.size then c[j]? else if j<len * i.size+ys.length * i.size then news[j - len * i.size]? else c[j]? := fun j=>by
  rw [hL,splice_get hlen (by simpa using hfit)]; simp
 rw [← hL] at hn
 have hheap:=setRow_heap V.w (V.ρ id) c L.toArray t (0,0) hc3
 obtain ⟨xs',hxs'⟩:∃ xs':List (List AV),xs'=xs.take len++(ys++xs.drop (len+ys.length)):=⟨_,rfl⟩
 have hxl:xs'.length=xs.length:=by rw [hxs']; simp only [List.length_append,List.length_take,List.length_drop]; omega
 have hok:ArrOk V i.size xs' L.toArray:=by
  obtain ⟨o2,o3,o4⟩:=ok
  refine ⟨by rw [hxl,List.size_toArray,hLl]; exact o2,fun x hx=>?_,fun k j hk hj=>?_⟩
  · rw [hxs'] at hx
    rcases List.mem_append.1 hx with hx | hx
    · exact o3 x (List.mem_of_mem_take hx)
    · rcases List.mem_append.1 hx with hx | hx
      · exact hf.sz x hx
      · exact o3 x (List.mem_of_mem_drop hx)
  · rw [hxl] at hk
    rw [hxs',over_get hin]
    have a1:k<len→k * i.size+j<len * i.size:=fun h=>cell_lt_of h hj
    have a2:k<len+ys.length→k * i.size+j<(len+ys.length) * i.size:=fun h=>cell_lt_of h hj
    have a3:len≤k→len * i.size≤k * i.size:=fun h=>Nat.mul_le_mul_right _ h
    have a4:len+ys.length≤k→(len+ys.length) * i.size≤k * i.size:=fun h=>Nat.mul_le_mul_right _ h
    rw [Nat.add_mul] at a2 a4
    rw [List.getElem?_toArray,hLg]
    by_cases h1:k<len
    · rw [if_pos h1,if_pos (a1 h1)]
      exact o4 k j hk hj
    · by_cases h2:k<len+ys.length
      · have:=a3 (by omega); have:=a2 h2
        rw [if_neg h1,if_pos h2,if_neg (by omega),if_pos (by omega),hnews]
        have hb:=cell_lt_of (show k - len<ys.length by omega) hj
        have e1:k * i.size+j - len * i.size=(k - len) * i.size+j:=by rw [Nat.sub_mul]; omega
        refine ⟨f ((k - len) * i.size+j),by rw [e1]; simp [hb],hf.one _ hb,hf.rep _ _ (by omega) hj⟩
      · have:=a3 (by omega); have:=a4 (by omega)
        rw [if_neg h1,if_neg h2,if_neg (by omega),if_neg (by omega)]
        exact o4 k j hk hj
 obtain ⟨V',k1,k2,k3,k4,k5⟩:=step_renew hG hH (w':=V.w.setRow (V.ρ id) L.toArray) (b':=V.ρ id) (xs':=xs') (.inl rfl) (by rw [setRow_size]; exact hlt) (by rw [setRow_size]; exact Nat.le_refl _)
  (fun b _ hb=>setRow_other _ _ _ _ hb) rfl rfl rfl fun V' hw hs=>⟨t,_,by rw [hw]; exact hheap,(hok.step hs).1,(hok.step hs).2.1,(hok.step hs).2.2⟩
 rw [← hxs']
 refine ⟨V',_,by rw [k1]; exact hn,k2,k3,k4,rep_own_mk (c:=L.toArray) (t:=t) (xs:=xs') (s:=i.size) (by rw [k2,List.getElem?_set_self (List.getElem?_eq_some_iff.1 hH).1]) (fun _=>by rw [k5]) hroom hmx (by rw [k1,k5]; exact hheap) (by rw [List.size_toArray,hLl]; exact hc4)⟩
theorem run_clear_in {t e ty:TypeId} {i:TypeInfo} {z:Value} (w:World) (ht:P.underlying t=some (.slice e)) (hi:P.info? e=some i) (hz:i.zero=some z) (hone:∀ v∈z.cells.toList,v.oneCell'=true) (g o n c:Nat) (cur:Array Value) (te:TypeId) (hn:0<n)
 (hg:w.heap[g]? = some (.cells cur te (0,0))) (hfit:o+n * z.cells.size≤cur.size) :
 (Builtin.clear_ #[t] ty #[.slice (some ⟨g,o,none⟩) n c]).run P w = .ok (.tuple #[]) (w.setRow g (splice cur.toList o (Builtin.zeroCells z.cells n).toList).toArray):=by
 have hl:(Builtin.zeroCells z.cells n).toList.length=n * z.cells.size:=by simp [Builtin.zeroCells]
 have h1:∀ v∈(Builtin.zeroCells z.cells n).toList,v.oneCell'=true:=fun v hv=>by
  simp only [Builtin.zeroCells,Array.toList_map,List.mem_map] at hv
  obtain ⟨j,hj,rfl⟩:=hv
  have hj':j<n * z.cells.size:=by simpa using hj
  have hp:0<z.cells.size:=by
   rcases Nat.eq_zero_or_pos z.cells.size with h | h
   · rw [h] at hj'; simp at hj'
   · exact h
  rw [getElem!_pos z.cells _ (Nat.mod_lt _ hp)]
  exact hone _ (by simp)
 have hst:=run_storeCells_at P g o te (Builtin.zeroCells z.cells n).toList 0 cur w hg (by rw [hl]; simpa using hfit) h1
 simp only [Nat.add_zero] at hst
 obtain ⟨m,rfl⟩:∃ m,n=m+1:=⟨n - 1,by omega⟩
 simp [Builtin.clear_,run_underlying ht,zeroValue,typeInfo,hi,hz,hst,splice]
theorem clear_sound {ta ty:TypeId} {a r:AV} {ua:Value} {H':List AObj} {ps:List Prop} (h:clearA P V.H ta a=some (r,H',ps)) (hps:AllP ps) (hG:HeapRep G V) (ha:Rep V a ua) :
 ∃ (V':View) (v:Value),(Builtin.clear_ #[ta] ty #[ua]).run P V.w = .ok v V'.w∧V'.H=H'∧Step V V'∧HeapRep G V'∧Rep V' r v:=by
 unfold clearA at h
 split at h
 · rename_i e hu
   split at h
   · rename_i i hi
     split at h
     · rename_i z hz
       split at h
       · rename_i hcond
         obtain ⟨hzs,hone⟩:=hcond
         split at h
         · rename_i id g off len
           split at h
           · rename_i g' sz xs hH
             split at h
             · rename_i hss
               subst hss
               cases h
               obtain ⟨rfl,hin,_⟩:=hps
               obtain ⟨_,hown⟩:=rep_own ha
               rw [hH] at hown
               obtain ⟨A,cap,c,t,rfl,hA,hlc,hmx,hc3,hc4⟩:=hown.2 rfl
               have hlt:=hG.lt id (List.getElem?_eq_some_iff.1 hH).1
               have ok:=hG.obj id _ hH
               obtain ⟨t',c',k1,o2,o3,o4⟩:=ok
               rw [hc3] at k1
               cases k1
               have hok0:ArrOk V i.size xs c:=⟨o2,o3,o4⟩
               have hzl:z.cells.toList.length=i.size:=by simpa using hzs
               have hone':∀ v∈z.cells.toList,v.oneCell'=true:=fun v hv=>List.all_eq_true.1 hone v hv
               obtain ⟨ys,hys⟩:∃ ys:List (List AV),ys=List.replicate len (z.cells.toList.map AV.lit):=⟨_,rfl⟩
               have hyl:ys.length=len:=by rw [hys,List.length_replicate]
               obtain ⟨xs',hxs'⟩:∃ xs':List (List AV),xs'=xs.take off++(ys++xs.drop (off+ys.length)):=⟨_,rfl⟩
               have hxl:xs'.length=xs.length:=by rw [hxs']; simp only [List.length_append,List.length_take,List.length_drop]; omega
               have hin':off+ys.length≤xs.length:=by omega
               obtain ⟨news,hnews⟩:∃ news:List Value,news=(Builtin.zeroCells z.cells len).toList:=⟨_,rfl⟩
               have hnl:news.length=len * i.size:=by rw [hnews]; simp [Builtin.zeroCells,hzs]
               have hfit:off * i.size+len * i.size≤c.size:=by
                refine Nat.le_trans ?_ o2
                rw [← Nat.add_mul]
                exact Nat.mul_le_mul_right _ hin
               obtain ⟨L,hL⟩:∃ L:List Value,L=splice c.toList (off * i.size) news:=⟨_,rfl⟩
               have hLl:L.length=c.size:=by rw [hL,splice_len hnl (by simpa using hfit)]; simp
               have hLg:∀ j,L[j]? = if j<off * i.size then c[j]? else if j<off * i.size+len * i.size then news[j - off * i.size]? else c[j]? := fun j=>by
                rw [hL,splice_get hnl (by simpa using hfit)]; simp
               have hheap:=setRow_heap V.w (V.ρ id) c L.toArray t (0,0) hc3
               have hok:ArrOk V i.size xs' L.toArray:=by
                refine ⟨by rw [hxl,List.size_toArray,hLl]; exact o2,fun x hx=>?_,fun k j hk hj=>?_⟩
                · rw [hxs'] at hx
                  rcases List.mem_append.1 hx with hx | hx
                  · exact o3 x (List.mem_of_mem_take hx)
                  · rcases List.mem_append.1 hx with hx | hx
                    · rw [hys] at hx
                      rw [List.eq_of_mem_replicate hx,List.length_map]; exact hzl
                    · exact o3 x (List.mem_of_mem_drop hx)
                · rw [hxl] at hk
                  rw [hxs',over_get hin',hyl]
                  have a1:k<off→k * i.size+j<off * i.size:=fun h=>cell_lt_of h hj
                  have a2:k<off+len→k * i.size+j<(off+len) * i.size:=fun h=>cell_lt_of h hj
                  have a3:off≤k→off * i.size≤k * i.size:=fun h=>Nat.mul_le_mul_right _ h
                  have a4:off+len≤k→(off+len) * i.size≤k * i.size:=fun h=>Nat.mul_le_mul_right _ h
                  rw [Nat.add_mul] at a2 a4
                  rw [List.getElem?_toArray,hLg]
                  by_cases h1:k<off
                  · rw [if_pos h1,if_pos (a1 h1)]
                    exact o4 k j hk hj
                  · by_cases h2:k<off+len
                    · have:=a3 (by omega); have:=a2 h2
                      rw [if_neg h1,if_pos h2,if_neg (by omega),if_pos (by omega),hnews]
                      have hb:=cell_lt_of (show k - off<len by omega) hj
                      have e1:k * i.size+j - off * i.size=(k - off) * i.size+j:=by rw [Nat.sub_mul]; omega
                      have hmod:((k - off) * i.size+j) % i.size=j:=by rw [Nat.mul_comm,Nat.mul_add_mod]; exact Nat.mod_eq_of_lt hj
                      have hj2:j<z.cells.size:=by omega
                      have hbb:z.cells[j]! = z.cells[j]:=getElem!_pos z.cells j hj2
                      refine ⟨z.cells[j],?_,hone' _ (by simp),?_⟩
                      · rw [e1]
                        simp [Builtin.zeroCells,hzs,hb,hmod,hbb]
                      · have:(ys.getD (k - off) []).getD j .dead = .lit z.cells[j]:=by
                         rw [hys]
                         simp [List.getD_eq_getElem?_getD,hj2,show k - off<len by omega]
                        rw [this]
                        exact .pure _ _ (.lit _)
                    · have:=a3 (by omega); have:=a4 (by omega)
                      rw [if_neg h1,if_neg h2,if_neg (by omega),if_neg (by omega)]
                      exact o4 k j hk hj
               rw [hyl] at hxs'
               rw [hys] at hxs'
               rw [← hxs']
               rcases Nat.eq_zero_or_pos len with h0 | hpos
               · subst h0
                 have hn:(Builtin.clear_ #[ta] ty #[.slice A 0 cap]).run P V.w = .ok (.tuple #[]) V.w:=by
                  cases A<;>simp [Builtin.clear_,run_underlying hu]
                 have he:V.H.set id (.arr g' i.size false xs')=V.H:=by
                  have:xs'=xs:=by rw [hxs']; simp
                  rw [this]
                  obtain ⟨hlt2,e2⟩:=List.getElem?_eq_some_iff.1 hH
                  rw [← e2]; simp
                 rw [he]
                 exact ⟨V,_,hn,rfl,Step.refl V,hG,.pure _ _ (.tup [] [] rfl fun j hj=>absurd hj (by simp))⟩
               · have hAe:=hA (by omega)
                 subst hAe
                 have hn:=run_clear_in (P:=P) (ty:=ty) V.w hu hi hz hone' (V.ρ id) (off * i.size) len cap c t hpos hc3 (by rw [hzs]; exact hfit)
                 rw [← hnews,← hL] at hn
                 obtain ⟨V',k1,k2,k3,k4⟩:=step_set hG hH rfl (w':=V.w.setRow (V.ρ id) L.toArray) (obj':=.arr g' i.size false xs') hc3 hheap (by rw [List.size_toArray]; exact hLl)
                  (fun b hb=>setRow_other _ _ _ _ hb) (by rw [setRow_size]) rfl rfl rfl ⟨rfl,rfl,rfl⟩ fun V' hw hs=>⟨t,_,by rw [hw]; exact hheap,(hok.step hs).1,(hok.step hs).2.1,(hok.step hs).2.2⟩
                 exact ⟨V',_,by rw [k1]; exact hn,k2,k3,k4,.pure _ _ (.tup [] [] rfl fun j hj=>absurd hj (by simp))⟩
             · cases h
           · cases h
         · cases h
       · cases h
     · cases h
   · cases h
 · cases h
theorem append_sound {ts tx:TypeId} {a x r:AV} {ua ux:Value} {H':List AObj} {orc orc':List Orc} {ps:List Prop} {ty:TypeId} (h:appendA P V.H ts tx a x orc=some (r,H',orc',ps)) (hps:AllP ps) (hG:HeapRep G V)
 (ha:Rep V a ua) (hx:Rep V x ux):∃ (V':View) (v:Value),(Builtin.append_ #[ts,tx] ty #[ua,ux]).run P V.w = .ok v V'.w∧V'.H=H'∧Step V V'∧HeapRep G V'∧Rep V' r v:=by
 unfold appendA at h
 split at h
 · rename_i e hu
   split at h
   · rename_i i hi
     split at h
     · rename_i z ys hz hsrc
       split at h
       · rename_i hpos
         obtain ⟨hby,hsz,hzs⟩:=hpos
         have src:AllP (srcObl V.H x ys.length)→(∃ f,SrcOk P V ys i.size ux f)∧((∃ e,P.underlying tx=some (.slice e))∨P.underlying tx=some .string):=fun ho=>src_sound rfl hsrc ho hG hx
         split at h
         ·
          have hua:=rep_lit ha
          subst hua
          split at h
          · cases h
            obtain ⟨rfl,ho⟩:=hps
            obtain ⟨⟨f,hf⟩,hty⟩:=src ho
            have hn:=run_append_none (P:=P) V.w ts tx ty e i hu hty hi none 0 0 ux hf.len (by simpa using hf.cells V.w rfl) (Nat.le_refl _)
            exact ⟨V,_,hn,rfl,Step.refl V,hG,.pure _ _ (.lit _)⟩
          · cases h
            obtain ⟨hne,hb,ho⟩:=hps
            have hpos:0<ys.length:=List.length_pos_iff.2 hne
            obtain ⟨⟨f,hf⟩,hty⟩:=src ho
            obtain ⟨cap,c,g1,g2,g3,g4,g5⟩:=append_grow (ty:=ty) (xs:=[]) (f0:=fun _=>undef) hu hi hz hby hzs hf hty none 0 (by simp) (fun w' _=>by simp [Builtin.firstCells]) (fun j hj=>absurd hj (by simp)) (fun k j hk=>absurd hk (by simp)) (by simp; omega) (by rw [List.length_nil,Nat.zero_add]; exact hb)
            simp only [List.nil_append,List.length_nil,Nat.zero_add] at g1 g4 g5
            obtain ⟨V',k1,k2,k3,k4,k5⟩:=new_arr hG (w':=V.w.drew.alloc (.cells c e)) (t:=e) (c:=c) (cap:=cap) rfl rfl rfl rfl g5.2.1 g1 g2 g3 g5.2.2
            exact ⟨V',_,by rw [k1]; exact g4,k2,k3,k4,k5⟩
         ·
          rename_i sz xs
          obtain ⟨A,cap0,rfl,hc1,hc2,_⟩:=sl_inv (rep_sl ha)
          have hc3:=hc2 rfl
          subst hc3
          split at h
          · rename_i hss
            split at h
            · cases h
              obtain ⟨rfl,ho⟩:=hps
              obtain ⟨⟨f,hf⟩,hty⟩:=src ho
              have hn:=run_append_none (P:=P) V.w ts tx ty e i hu hty hi A xs.length xs.length ux hf.len (by simpa using hf.cells V.w rfl) (Nat.le_refl _)
              exact ⟨V,_,hn,rfl,Step.refl V,hG,ha⟩
            · cases h
              obtain ⟨hne,hb,ho⟩:=hps
              subst hss
              have hpos:0<ys.length:=List.length_pos_iff.2 hne
              obtain ⟨⟨f,hf⟩,hty⟩:=src ho
              obtain ⟨f0,hf0⟩:=src_sl (P:=P) (rep_sl ha)
              obtain ⟨cap,c,g1,g2,g3,g4,g5⟩:=append_grow (ty:=ty) hu hi hz hby hzs hf hty A xs.length hf0.sz hf0.cells hf0.one hf0.rep (by omega) hb
              obtain ⟨V',k1,k2,k3,k4,k5⟩:=new_arr hG (w':=V.w.drew.alloc (.cells c e)) (t:=e) (c:=c) (cap:=cap) rfl rfl rfl rfl g5.2.1 (by rw [List.length_append]; exact g1) g2 g3 g5.2.2
              rw [List.length_append] at k5
              exact ⟨V',_,by rw [k1]; exact g4,k2,k3,k4,k5⟩
          · cases h
         ·
          rename_i id g len
          split at h
          · rename_i g' sz xs hH
            split at h
            · rename_i hgs
              subst hgs
              split at h
              · cases h
                obtain ⟨eg,hin,ho⟩:=hps
                subst eg
                obtain ⟨A,cap,c,t,rfl,hA,hc1,hc2,hc3,hc4⟩:=own_cur hH ha
                rw [Nat.zero_add] at hc4
                rw [Nat.zero_mul] at hA
                obtain ⟨t',c',o1,o2⟩:=hG.obj id _ hH
                rw [hc3] at o1
                cases o1
                obtain ⟨⟨f,hf⟩,hty⟩:=src ho
                have hfit:xs.length * i.size≤cap * i.size:=by rw [hc4]; exact o2.1
                have hcx:xs.length≤cap:=Nat.le_of_mul_le_mul_right hfit hsz
                by_cases hz0:cap=0
                · subst hz0
                  have hx0:xs=[]:=List.eq_nil_of_length_eq_zero (by omega)
                  subst hx0
                  have hin':len+ys.length≤0:=hin
                  have hy0:ys=[]:=List.eq_nil_of_length_eq_zero (by omega)
                  subst hy0
                  obtain rfl:len=0:=by simpa using hin'
                  have hlt:=(List.getElem?_eq_some_iff.1 hH).1
                  have hn:=run_append_none (P:=P) V.w ts tx ty e i hu hty hi A 0 0 ux hf.len (by simpa using hf.cells V.w rfl) hc1
                  obtain ⟨V',k1,k2,k3,k4,k5⟩:=step_renew hG hH (w':=V.w) (b':=V.ρ id) (xs':=[]) (.inl rfl) (hG.lt id hlt) (Nat.le_refl _) (fun _ _ _=>rfl) rfl rfl rfl fun V' hw hs =>
                   ⟨t,c,by rw [hw]; exact hc3,(ArrOk.step hs o2).1,(ArrOk.step hs o2).2.1,(ArrOk.step hs o2).2.2⟩
                  exact ⟨V',_,by rw [k1]; exact hn,by rw [k2]; rfl,k3,k4,rep_own_mk (c:=c) (t:=t) (xs:=[]) (s:=i.size) (by rw [k2,List.getElem?_set_self hlt]) (fun h=>absurd rfl h) hc1 hc2 (by rw [k1,k5]; exact hc3) hc4⟩
                · have hA':=hA hz0
                  subst hA'
                  exact append_over hu hi hf hty hG hH hc3 hc4 hc2 (by omega) hin o2
              cases h
              obtain ⟨eg,rfl,hb,ho⟩:=hps
              subst eg
              obtain ⟨A,cap,c,t,rfl,hA,hc1,hc2,hc3,hc4⟩:=own_cur hH ha
              rw [Nat.zero_add] at hc4
              rw [Nat.zero_mul] at hA
              obtain ⟨t',c',o1,o2⟩:=hG.obj id _ hH
              rw [hc3] at o1
              cases o1
              have hlt:=(List.getElem?_eq_some_iff.1 hH).1
              obtain ⟨⟨f,hf⟩,hty⟩:=src ho
              by_cases hys:ys=[]
              · subst hys
                have hn:=run_append_none (P:=P) V.w ts tx ty e i hu hty hi A xs.length cap ux hf.len (by simpa using hf.cells V.w rfl) hc1
                have ok:ArrOk V i.size (xs++[]) c:=by rw [List.append_nil]; exact o2
                obtain ⟨V',k1,k2,k3,k4,k5⟩:=step_renew hG hH (w':=V.w) (b':=V.ρ id) (xs':=xs++[]) (.inl rfl) (hG.lt id hlt) (Nat.le_refl _) (fun _ _ _=>rfl) rfl rfl rfl fun V' hw hs =>
                 ⟨t,c,by rw [hw]; exact hc3,(ok.step hs).1,(ok.step hs).2.1,(ok.step hs).2.2⟩
                exact ⟨V',_,by rw [k1]; exact hn,k2,k3,k4,rep_own_mk (c:=c) (t:=t) (xs:=xs++[]) (s:=i.size) (by rw [k2,List.getElem?_set_self hlt]) (fun h=>by rw [k5]; exact hA h) hc1 hc2 (by rw [k1,k5]; exact hc3) hc4⟩
              · have hpos:0<ys.length:=List.length_pos_iff.2 hys
                by_cases hroom:xs.length+ys.length≤cap
                · have hA':=hA (by omega)
                  subst hA'
                  exact append_in hu hi hf hty hG hH hc3 hc4 hc2 hroom o2
                · have hown:OwnRep V id i.size 0 xs.length (.slice A xs.length cap):=⟨A,cap,c,t,rfl,by rw [Nat.zero_mul]; exact hA,hc1,hc2,hc3,by rw [Nat.zero_add]; exact hc4⟩
                  obtain ⟨f0,hf0⟩:=arr_own (P:=P) hG hH hown (by omega)
                  simp only [List.drop_zero,List.take_length] at hf0
                  obtain ⟨cap',c2,g1,g2,g3,g4,g5⟩:=append_grow (ty:=ty) hu hi hz hby hzs hf hty A cap hf0.sz (fun w' hw'=>by
                   have:=hf0.cells w' hw'
                   cases A with
                   | none=>exact this
                   | some a=>exact this) hf0.one hf0.rep (by omega) hb
                  obtain ⟨V',k1,k2,k3,k4,k5⟩:=step_renew hG hH (w':=V.w.drew.alloc (.cells c2 e)) (b':=V.w.heap.size) (xs':=xs++ys) (.inr (Nat.le_refl _)) (by simp) (by simp) (fun b hb' _=>push_old hb') rfl rfl rfl fun V' hw hs =>
                   ⟨e,c2,by rw [hw]; exact heap_push rfl,(g5.step hs).1,(g5.step hs).2.1,(g5.step hs).2.2⟩
                  exact ⟨V',_,by rw [k1]; exact g4,k2,k3,k4,rep_own_mk (c:=c2) (t:=e) (xs:=xs++ys) (s:=i.size) (by rw [k2,List.getElem?_set_self hlt]) (fun _=>by rw [k5]) g1 g2 (by rw [k1,k5]; exact heap_push rfl) g3⟩
            · cases h
          · cases h
         · cases h
       · cases h
     · cases h
   · cases h
 · cases h
end
end Go.Am
