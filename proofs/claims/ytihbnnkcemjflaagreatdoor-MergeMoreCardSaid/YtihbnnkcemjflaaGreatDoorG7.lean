import Derived.Test.YtihbnnkcemjflaaGreatDoorG6
import Derived.RangeFuncLeaves
import Derived.RangeFuncRecord
set_option maxRecDepth 100000
set_option linter.unusedSimpArgs false
set_option linter.unusedVariables false

namespace Go.Am
open Go
def loopStep (P:Program) (G:Nat→Option (List AV)) (r:Option Nat) (n0:Nat) (c:Code) (s:St) (orc:List Orc) (dead:List Nat) (n:Nat):Option (St × List Prop) :=
 match runC P G r n0 c s orc with
 | some (.normal,s1,_,ps)=>match weakA n0 dead n s1 with
  | some (s2,qs)=>some (s2,ps++qs)
  | none=>none
 | _=>none
def loopExit (P:Program) (G:Nat→Option (List AV)) (r:Option Nat) (n0:Nat) (c:Code) (s:St) (orc:List Orc) (dead:List Nat) (n:Nat):Option (AEx × St × List Prop) :=
 match runC P G r n0 c s orc with
 | some (.normal,_,_,_)=>none
 | some (.pan x,s1,_,ps)=>if x.slFree=true then (match weakA n0 dead n s1 with
  | some (s2,qs)=>some (.pan x,s2,ps++qs)
  | none=>none) else none
 | some (ex,s1,_,ps)=>match weakA n0 dead n s1 with
  | some (s2,qs)=>some (ex,s2,ps++qs)
  | none=>none
 | none=>none
section
variable {P:Program} {G:Nat→Option (List AV)} {r:Option Nat} {n0:Nat} {c:Code}
theorem RunL.next {s s2 s':St} {ex:AEx} {ps:List Prop} (orc:List Orc) (dead:List Nat) (n:Nat) (h:loopStep P G r n0 c s orc dead n=some (s2,ps)) (hps:AllP ps) (hn:RunL P G r n0 c s2 ex s'):RunL P G r n0 c s ex s':=by
 intro V0 V a h0 hs hG hok
 unfold loopStep at h
 split at h
 · rename_i s1 orc1 qs h1
   split at h
   · rename_i s3 rs h2
     cases h
     obtain ⟨hq,hr⟩:=allP_append.1 hps
     refine LoopIn.next (Go.wpIn_mono (runC_sound c h1 hq V0 V a h0 hs hG hok) ?_)
     refine Ends.after fun V1 a1 k1 k2 k3=>?_
     obtain ⟨V2,l1,l2,l3,l4⟩:=weak_sound h2 hr h0 k1 k2 k3
     rw [← l1]
     exact hn V0 V2 a1 h0 l2 l3 l4
   · cases h
 · cases h
theorem RunL.exit {s s':St} {ex:AEx} {ps:List Prop} (orc:List Orc) (dead:List Nat) (n:Nat) (h:loopExit P G r n0 c s orc dead n=some (ex,s',ps)) (hps:AllP ps):RunL P G r n0 c s ex s':=by
 intro V0 V a h0 hs hG hok
 unfold loopExit at h
 split at h
 · cases h
 · rename_i x s1 orc1 qs h1
   split at h
   · rename_i hsl
     split at h
     · rename_i s3 rs h2
       cases h
       obtain ⟨hq,hr⟩:=allP_append.1 hps
       refine LoopIn.next (Go.wpIn_mono (runC_sound c h1 hq V0 V a h0 hs hG hok) ?_)
       intro e a1 w1 hE
       obtain ⟨V1,rfl,k1,k2,k3,k4⟩:=hE
       obtain ⟨V2,l1,l2,l3,l4⟩:=weak_sound h2 hr h0 k1 k2 k3
       cases e<;>first | exact k4.elim | skip
       obtain ⟨v,rfl,hv⟩:=k4
       exact ⟨V2,l1,l2,l3,l4,v,rfl,rep_slFree hv hsl⟩
     · cases h
   · cases h
 · rename_i ex1 s1 orc1 qs hn1 hn2 h1
   split at h
   · rename_i s3 rs h2
     cases h
     obtain ⟨hq,hr⟩:=allP_append.1 hps
     refine LoopIn.next (Go.wpIn_mono (runC_sound c h1 hq V0 V a h0 hs hG hok) ?_)
     intro e a1 w1 hE
     obtain ⟨V1,rfl,k1,k2,k3,k4⟩:=hE
     obtain ⟨V2,l1,l2,l3,l4⟩:=weak_sound h2 hr h0 k1 k2 k3
     have hE:Ends G V0 ex s' e a1 V1.w:=⟨V2,l1,l2,l3,l4,by
      cases ex<;>cases e<;>first | exact k4 | exact (hn2 _ rfl).elim⟩
     cases e<;>first | exact hE | (cases ex<;>first | exact k4.elim | exact (hn1 rfl).elim)
   · cases h
 · cases h
end
def ModeRep (V:View):AOut→FrameMode→Prop
 | .ret _,u=>u = .returning
 | .pan x,u=>∃ v,u = .panicking [{ v:=v,recovered:=false }]∧Rep V x v
theorem ModeRep.step {V V':View} (hs:Step V V') {m:AOut} {u:FrameMode} (h:ModeRep V m u):ModeRep V' m u:=by
 cases m with
 | ret x=>exact h
 | pan x=>obtain ⟨v,h1,h2⟩:=h; exact ⟨v,h1,h2.step hs⟩
theorem ModeRep.run {V:View} {m:AOut} {u:FrameMode} (h:ModeRep V m u):u≠.run:=by
 cases m with
 | ret x=>rw [show u = .returning from h]; simp
 | pan x=>obtain ⟨v,h1,_⟩:=h; rw [h1]; simp
def DefC (P:Program) (G:Nat→Option (List AV)) (f:FuncId) (args:List AV) (H:List AObj) (m:AOut) (H':List AObj) (m':AOut):Prop :=
 ∀ (V:View) (vs:List Value) (u:FrameMode),V.H=H→HeapRep G V→Reps V args vs→ModeRep V m u→CallsDIn Fence.wide 0 P f vs.toArray u V.w fun e u' w' =>
  (∃ r,e = .returned r)∧∃ V':View,V'.w=w'∧Step V V'∧HeapRep G V'∧V'.H=H'∧ModeRep V' m' (settle u')
def noBag:List ADef→Bool
 | []=>true
 | .bag _::_ | .mbag .. :: _=>false
 | _::ds=>noBag ds
def liesBag:Nat→List ADef→Bool
 | a,.mbag id _::ds=>id == a && noBag ds
 | _,ds=>noBag ds
def leaveA (P:Program) (G:Nat→Option (List AV)) (n:Nat):List ADef→AOut→List AObj→List Orc→Option (AOut × List AObj × List Prop)
 | [],m,H,_=>some (m,H,[])
 | .mark id::ds,m,H,orc=>match H[id]? with
  | some .dfd=>leaveA P G n ds m (H.set id .gone) orc
  | _=>none
 | .call f xs::ds,m,H,.dcall m' H'::orc=>if funcOk P f=true then (match leaveA P G n ds m' H' orc with
  | some (m2,H2,ps)=>some (m2,H2,DefC P G f xs H m H' m'::ps)
  | none=>none) else none
 | .call .. :: _,_,_,_=>none
 | .bag a::ds,m,H,orc=>if n≤a∧liesBag a ds=true then leaveA P G n ds m H orc else none
 | .mbag id a::ds,m,H,orc=>match H[id]? with
  | some .dfd=>if n≤a∧liesBag a ds=true then leaveA P G n ds m (H.set id .gone) orc else none
  | _=>none
def res1 (P:Program) (env:List AV) (H:List AObj):ResultVar→Option AV
 | .tmp t=>some (env.getD t .dead)
 | .cell a t=>match env.getD a .dead with
  | .ptr id off=>match H[id]? with
   | some (.box cells)=>loadA P t (cells.drop off)
   | _=>none
  | _=>none
def resA (P:Program) (env:List AV) (H:List AObj):List ResultVar→Option (List AV)
 | []=>some []
 | x::xs=>match res1 P env H x,resA P env H xs with
  | some y,some ys=>some (y::ys)
  | _,_=>none
def outA:List AV→AV
 | [x]=>x
 | xs=>.tup xs
def cutF (n:Nat) (out:AV) (H:List AObj):Option (List AObj × List Prop) :=
 if n<H.length∧out.idsLt n=true then (match cutsOk n (H.take n) with
  | some qs=>some (H.take n,qs)
  | none=>some (H,[])) else some (H,[])
def AEx.mode:AEx→Option AOut
 | .normal | .ret=>some (.ret .dead)
 | .pan x=>some (.pan x)
 | _=>none
def finF (P:Program) (G:Nat→Option (List AV)) (n:Nat) (fn:Func) (ex:AEx) (s:St) (orc:List Orc):Option (AOut × List AObj × List Prop) :=
 match ex.mode with
 | some m=>match leaveA P G n s.defs m s.H orc with
  | some (.ret _,H2,ps)=>match resA P s.env H2 fn.results.toList with
   | some xs=>match cutF n (outA xs) H2 with
    | some (H3,qs)=>some (.ret (outA xs),H3,ps++qs)
    | none=>none
   | none=>none
  | some (.pan x,H2,ps)=>match cutF n x H2 with
   | some (H3,qs)=>some (.pan x,H3,ps++qs)
   | none=>none
  | none=>none
 | none=>none
def runF (P:Program) (G:Nat→Option (List AV)) (f:FuncId) (args:List AV) (H:List AObj) (orc:List Orc):Option (AOut × List AObj × List Prop) :=
 match P.funcs[f]? with
 | some fn=>match fn.body with
  | some c=>match runC P G none H.length c { env:=args++List.replicate (fn.ntmps - args.length) (.lit undef),H:=H } orc with
   | some (ex,s,orc',ps)=>match finF P G H.length fn ex s orc' with
    | some (out,H',qs)=>some (out,H',ps++qs)
    | none=>none
   | none=>none
  | none=>none
 | none=>none
section
variable {P:Program} {G:Nat→Option (List AV)}
structure Still (V V':View):Prop where
 H:V'.H=V.H
 ρ:V'.ρ=V.ρ
 own:∀ id,id<V.H.length→V'.w.heap[V.ρ id]? = V.w.heap[V.ρ id]?
 data:∀ b,b<V.w.heap.size→¬ V.M b→V'.w.heap[b]? = V.w.heap[b]?∧¬ V'.M b
theorem KindOk.still {V V':View} (h:Still V V') {f:AObj→Bool} {id:Nat} (hk:KindOk f V id):KindOk f V' id:=by
 obtain ⟨o,h1,h2⟩:=hk
 exact ⟨o,by rw [h.H]; exact h1,h2⟩
theorem Rep.still {V V':View} (h:Still V V') {x:AV} {v:Value} (hr:Rep V x v):Rep V' x v:=by
 induction hr with
 | pure x v hp=>exact .pure x v (hp.step h.data)
 | dead v=>exact .dead v
 | ptr id off hk=>rw [← h.ρ]; exact .ptr id off (hk.still h)
 | apt id g k j v ha =>
  refine .apt id g k j v ⟨ha.1,?_⟩
  have h4:=ha.2
  rw [h.H,h.ρ]; exact h4
 | own id g off len v ha =>
  refine .own id g off len v ⟨ha.1,?_⟩
  have hl:=ha.lt
  have h4:=ha.2
  rw [h.H]
  unfold OwnRep at h4 ⊢
  rw [h.ρ,h.own id hl]
  exact h4
 | mp id hk=>rw [← h.ρ]; exact .mp id (hk.still h)
 | yl id hk=>rw [← h.ρ]; exact .yl id (hk.still h)
 | agg cs vs hl _ ih=>exact .agg cs vs hl ih
 | tup cs vs hl _ ih=>exact .tup cs vs hl ih
 | ifc t x v _ ih=>exact .ifc t x v ih
 | fn f us bs aZ vs hu hv _ _ iha ihb=>exact .fn f us bs aZ vs hu hv iha ihb
theorem Reps.still {V V':View} (h:Still V V') {xs:List AV} {vs:List Value} (hr:Reps V xs vs):Reps V' xs vs:=⟨hr.1,fun j hj=>(hr.2 j hj).still h⟩
theorem ObjRep.still {V V':View} (h:Still V V') {id:Nat} {o:AObj} (hl:id<V.H.length) (hr:ObjRep V (V.ρ id) o):ObjRep V' (V'.ρ id) o:=by
 have h2:=h.own id hl
 rw [h.ρ]
 cases o with
 | box cells=>obtain ⟨t,vs,k1,k2⟩:=hr; exact ⟨t,vs,h2.trans k1,k2.still h⟩
 | arr g sz fz xs =>
  obtain ⟨t,c,k1,k2,k3,k4⟩:=hr
  exact ⟨t,c,h2.trans k1,k2,k3,fun k j hk hj=>let ⟨v,a,b,c⟩:=k4 k j hk hj; ⟨v,a,b,c.still h⟩⟩
 | map es =>
  obtain ⟨ents,clock,k1,k2,k3,k4,k5,k6⟩:=hr
  exact ⟨ents,clock,h2.trans k1,k2,k3,k4,k5,fun j hj=>(k6 j hj).still h⟩
 | rng st p env ps aZ bd=>obtain ⟨fn,vs,D,k1,k2⟩:=hr; exact ⟨fn,vs,D,h2.trans k1,k2.still h⟩
 | iter cur left =>
  obtain ⟨bm,since,seen,c0,ents,clock,es,idx,k1,k2⟩:=hr
  exact ⟨bm,since,seen,c0,ents,clock,es,idx,h2.trans k1,k2.step h.data⟩
 | dfd=>exact h2.trans hr
 | gone=>trivial
theorem DefRep.still {V V':View} (h:Still V V') {x:ADef} {d:Deferred} (hr:DefRep V x d):DefRep V' x d:=by
 cases x with
 | mark id=>exact ⟨hr.1.still h,by rw [h.ρ]; exact hr.2⟩
 | call f xs=>obtain ⟨cs,h1,h2⟩:=hr; exact ⟨cs,h1,h2.still h⟩
 | bag a=>exact hr.elim
 | mbag id a=>exact hr.elim
theorem DefsRep.still0 {V V':View} (h:Still V V') {xs:List ADef} {ds:List Deferred} (hr:DefsRep V xs ds) (hx:noBag xs=true):DefsRep V' xs ds:=by
 induction hr with
 | nil=>exact .nil
 | cons h1 _ ih =>
  rename_i x d xs ds _
  cases x<;>first | exact h1.elim | exact .cons (h1.still h) (ih hx)
 | bag=>cases hx
 | mbag=>cases hx
theorem DefsRep.still {V V':View} (h:Still V V') (hM:V'.M=V.M) (hsz:V'.w.heap.size=V.w.heap.size) {a b:Nat} (hab:V.ρ a<b) (hoth:∀ c,c≠b→V'.w.heap[c]? = V.w.heap[c]?) {xs:List ADef} {ds:List Deferred} (hr:DefsRep V xs ds) (hx:liesBag a xs=true):DefsRep V' xs ds:=by
 cases hr with
 | nil=>exact .nil
 | cons h1 h2 =>
  rename_i x d xs ds
  cases x<;>first | exact h1.elim | exact .cons (h1.still h) (h2.still0 h hx)
 | bag=>cases hx
 | mbag hi ha hlt hn hb hs =>
  rename_i id a' bs xs ds
  simp only [liesBag,Bool.and_eq_true,beq_iff_eq] at hx
  obtain ⟨rfl,hx⟩:=hx
  rw [← h.ρ]
  refine .mbag (hi.still h) (ha.still h) (by rw [h.ρ]; exact hlt) hn (fun c hc=>?_) (hs.still0 h hx)
  obtain ⟨⟨q1,q2,q3,q4,q5⟩,q6⟩:=hb c hc
  exact ⟨⟨by rw [h.ρ]; exact q1,by rw [hsz]; exact q2,by rw [hM]; exact q3,by rw [h.H,h.ρ]; exact q4,by rw [hoth c (by omega)]; exact q5⟩,by rw [h.ρ]; exact q6⟩
theorem ModeRep.still {V V':View} (h:Still V V') {m:AOut} {u:FrameMode} (hr:ModeRep V m u):ModeRep V' m u:=by
 cases m with
 | ret x=>exact hr
 | pan x=>obtain ⟨v,h1,h2⟩:=hr; exact ⟨v,h1,h2.still h⟩
theorem bag_take {V0 V:View} {a b:Nat} (h0:V0.H.length≤a) (ha:KindOk AObj.isAnch V a) (hb:Bagged V a b) (hs:Step V0 V) (hG:HeapRep G V) :
 ∃ V':View,V'.w=V.w.putObj b (.deferred none)∧Still V V'∧V'.M=V.M∧Step V0 V'∧HeapRep G V':=by
 obtain ⟨h1,h2,h3,h4,h5⟩:=hb
 obtain ⟨o,ho,_⟩:=ha
 have hal:=(List.getElem?_eq_some_iff.1 ho).1
 have hle:V0.w.heap.size≤b:=by
  rcases hs.fresh a hal with ⟨f,_⟩ | f<;>omega
 have hoth:∀ c,c≠b→(V.w.putObj b (.deferred none)).heap[c]? = V.w.heap[c]? := fun c hc=>World.putObj_heap_other hc
 have hst:Still V { w:=V.w.putObj b (.deferred none),M:=V.M,H:=V.H,ρ:=V.ρ }:=⟨rfl,rfl,fun id hid=>hoth _ (h4 id hid),fun c _ hn=>⟨hoth c fun e=>hn (e ▸ h3),hn⟩⟩
 refine ⟨{ w:=V.w.putObj b (.deferred none),M:=V.M,H:=V.H,ρ:=V.ρ },rfl,hst,rfl,?_,?_⟩
 · exact {
    os:=hs.os
    tape:=hs.tape
    output:=hs.output
    size:=by show _≤(V.w.putObj b _).heap.size; rw [World.putObj_size]; exact hs.size
    drawn:=hs.drawn
    keep:=fun c hc hn=>⟨(hoth c (by omega)).trans (hs.keep c hc hn).1,(hs.keep c hc hn).2⟩
    data:=fun c hc hn=>⟨(hoth c (by omega)).trans (hs.data c hc hn).1,(hs.data c hc hn).2⟩
    hlen:=hs.hlen
    fresh:=hs.fresh
    obj:=fun id hid=>by
     have:=hs.obj id hid
     unfold ObjStep at this ⊢
     cases hq:V0.H[id]? with
     | none=>rw [hq] at this; exact this
     | some q =>
      rw [hq] at this
      cases hq':V.H[id]? with
      | none=>rw [hq'] at this; cases q<;>exact this.elim
      | some q' =>
       rw [hq'] at this
       cases q<;>cases q'<;>first | exact this | skip
       rcases this with g | ⟨e1,e2,e3,e4⟩
       · exact .inl g
       · refine .inr ⟨e1,e2,e3,fun c t fr hc=>?_⟩
         obtain ⟨c',hc',hsz⟩:=e4 c t fr hc
         have:V0.ρ id<V0.w.heap.size:=(Array.getElem?_eq_some_iff.1 hc).1
         exact ⟨c',(hoth _ (by omega)).trans hc',hsz⟩ }
 · exact {
    lt:=fun id hid=>by show _<(V.w.putObj b _).heap.size; rw [World.putObj_size]; exact hG.lt id hid
    obj:=fun id ob hob=>(hG.obj id ob hob).still hst (List.getElem?_eq_some_iff.1 hob).1
    inj:=hG.inj
    mutb:=hG.mutb
    glob:=fun g cs hg=>(hG.glob g cs hg).step hst.data }
theorem bags_leave {fn:Func} {tmps:Array Value} {R:Ending→World→Prop} {xs:List ADef} {ls:List Deferred} {m:AOut} {u:FrameMode} {a:Nat} (hx:liesBag a xs=true) {V0:View} (h0:V0.H.length≤a):∀ {bs:List Nat} {V:View},HeapRep G V→Step V0 V→KindOk AObj.isAnch V a→bs.Nodup→(∀ b∈bs,Bagged V a b)→DefsRep V xs ls→ModeRep V m u →
 (∀ V2,V2.H=V.H→Step V0 V2→(∀ x v,Rep V x v→Rep V2 x v)→HeapRep G V2→DefsRep V2 xs ls→ModeRep V2 m u→LeavesInM Fence.wide 0 P fn tmps R ls u V2.w)→LeavesInM Fence.wide 0 P fn tmps R (bs.map markD++ls) u V.w
 | [],V,hG,hs,_,_,_,hd,hm,hn=>hn V rfl hs (fun _ _ h=>h) hG hd hm
 | b::bs,V,hG,hs,ha,hnd,hb,hd,hm,hn=>by
  have hb0:=hb b List.mem_cons_self
  obtain ⟨hnb,hnd'⟩:=List.nodup_cons.1 hnd
  obtain ⟨V1,k1,k2,k3,k4,k5⟩:=bag_take h0 ha hb0 hs hG
  refine ⟨hm.run,.inl ⟨b,V1.w,rfl,by rw [k1]; exact run_takeDeferred hb0.2.2.2.2,?_⟩⟩
  refine bags_leave hx h0 k5 k4 (ha.still k2) hnd' (fun c hc=>?_) (hd.still k2 k3 (by rw [k1,World.putObj_size]) hb0.1 (fun c hc=>by rw [k1]; exact World.putObj_heap_other hc) hx) (hm.still k2) fun V2 e s2 t2=>hn V2 (e.trans k2.H) s2 fun x v hr=>t2 x v (hr.still k2)
  obtain ⟨q1,q2,q3,q4,q5⟩:=hb c (List.mem_cons_of_mem _ hc)
  have hcb:c≠b:=fun e=>hnb (e ▸ hc)
  exact ⟨by rw [k2.ρ]; exact q1,by rw [k1,World.putObj_size]; exact q2,by rw [k3]; exact q3,by rw [k2.H,k2.ρ]; exact q4,by rw [k1,World.putObj_heap_other hcb]; exact q5⟩
theorem leave_sound {fn:Func} {tmps:Array Value} {R:Ending→World→Prop} {n:Nat} {V0:View} (h0:V0.H.length=n):∀ {ds:List ADef} {l:List Deferred} {m m2:AOut} {u:FrameMode} {H2:List AObj} {orc:List Orc} {ps:List Prop} {V:View},leaveA P G n ds m V.H orc=some (m2,H2,ps)→AllP ps→Step V0 V→HeapRep G V→DefsRep V ds l→ModeRep V m u →
 (∀ V2 u2,Step V0 V2→(∀ x v,Rep V x v→Rep V2 x v)→HeapRep G V2→V2.H=H2→ModeRep V2 m2 u2→LeavesIn Fence.wide 0 P fn tmps R [] u2 V2.w)→LeavesInM Fence.wide 0 P fn tmps R l u V.w
 | [],l,m,m2,u,H2,orc,ps,V,h,_,hs,hG,hd,hm,hn=>by
  cases hd
  simp only [leaveA,Option.some.injEq,Prod.mk.injEq] at h
  obtain ⟨rfl,h,_⟩:=h
  exact hn V u hs (fun _ _ h=>h) hG h hm
 | .mark id::ds,l,m,m2,u,H2,orc,ps,V,h,hps,hs,hG,hd,hm,hn=>by
  cases hd with
  | cons h1 hds =>
   rename_i d l'
   simp only [leaveA] at h
   split at h
   · rename_i hH
     obtain ⟨_,rfl⟩:=h1
     have ho:=hG.obj id _ hH
     obtain ⟨V1,k1,k2,k3,k4,k5⟩:=step_gone hG (w':=V.w.putObj (V.ρ id) (.deferred none)) hH rfl (fun b hb=>by simp [World.putObj,show V.ρ id≠b from fun e=>hb e.symm]) (by simp [World.putObj]) rfl rfl rfl
     refine ⟨hm.run,.inl ⟨V.ρ id,V1.w,rfl,by rw [k1]; exact run_takeDeferred ho,?_⟩⟩
     exact leave_sound h0 (by rw [k2]; exact h) hps (hs.trans k4) k5 (hds.step k4) (hm.step k4) fun V2 u2 s2 t2 g2 h2 m2=>hn V2 u2 s2 (fun x v hr=>t2 x v (hr.step k4)) g2 h2 m2
   · cases h
 | .mbag id a::ds,l,m,m2,u,H2,orc,ps,V,h,hps,hs,hG,hd,hm,hn=>by
  simp only [leaveA] at h
  split at h<;>first | (cases h; done) | skip
  rename_i hH
  split at h<;>first | (cases h; done) | skip
  rename_i hc
  cases hd with
  | cons h1 _=>exact h1.elim
  | mbag hi ha hlt hnd hb hr =>
   have ho:=hG.obj id _ hH
   obtain ⟨V1,k1,k2,k3,k4,k5⟩:=step_gone hG (w':=V.w.putObj (V.ρ id) (.deferred none)) hH rfl (fun b hb=>by simp [World.putObj,show V.ρ id≠b from fun e=>hb e.symm]) (by simp [World.putObj]) rfl rfl rfl
   refine ⟨hm.run,.inl ⟨V.ρ id,V1.w,rfl,by rw [k1]; exact run_takeDeferred ho,?_⟩⟩
   refine bags_leave hc.2 (by rw [h0]; exact hc.1) k5 (hs.trans k4) (anch_step k4 ha).1 hnd (fun b hm=>(hb b hm).1.step k4 ha) (hr.step k4) (hm.step k4) fun V2 e s2 t2 g2 d2 m2=>?_
   exact leave_sound h0 (by rw [e,k2]; exact h) hps s2 g2 d2 m2 fun V3 u3 s3 t3 g3 h3 m3=>hn V3 u3 s3 (fun x v hr=>t3 x v (t2 x v (hr.step k4))) g3 h3 m3
 | .bag a::ds,l,m,m2,u,H2,orc,ps,V,h,hps,hs,hG,hd,hm,hn=>by
  simp only [leaveA] at h
  split at h
  · rename_i hc
    cases hd with
    | cons h1 _=>exact h1.elim
    | bag ha hnd hb hr=>exact bags_leave hc.2 (by rw [h0]; exact hc.1) hG hs ha hnd hb hr hm fun V2 e s2 t2 g2 d2 m2=>leave_sound h0 (by rw [e]; exact h) hps s2 g2 d2 m2 fun V3 u3 s3 t3 g3 h3 m3=>hn V3 u3 s3 (fun x v hr=>t3 x v (t2 x v hr)) g3 h3 m3
  · cases h
 | .call f xs::ds,l,m,m2,u,H2,orc,ps,V,h,hps,hs,hG,hd,hm,hn=>by
  cases orc with
  | nil=>cases h
  | cons q orc =>
   cases q<;>first | (cases h; done) | skip
   rename_i m' H'
   cases hd with
   | cons h1 hds =>
    rename_i d l'
    simp only [leaveA] at h
    split at h
    · rename_i hok
      split at h
      · rename_i m3 H3 qs hrec
        cases h
        obtain ⟨hdc,hqs⟩:=hps
        obtain ⟨cs,ht,hr⟩:=h1
        obtain ⟨target,dargs⟩:=d
        simp only at ht
        subst ht
        refine ⟨hm.run,.inr ⟨fun h=>(by cases h),.func f,cs,f,(dargs.toList++cs.toList).toArray,rfl,?_,fun _ _=>trivial,?_⟩⟩
        · unfold funcOk at hok
          split at hok
          · rename_i fn' hfn
            simp only [Bool.and_eq_true,Bool.not_eq_true',beq_eq_false_iff_ne,ne_eq] at hok
            obtain ⟨c,hb⟩:=Option.isSome_iff_exists.1 hok.1
            simp [invoke,callFunc,hfn,hok.2,hb]
          · cases hok
        · refine (hdc V _ u rfl hG hr hm).mono fun e u' w' he=>?_
          obtain ⟨⟨r,rfl⟩,V1,rfl,k1,k2,k3,k4⟩:=he
          exact leave_sound h0 (by rw [k3]; exact hrec) hqs (hs.trans k1) k2 (hds.step k1) k4 fun V2 u2 s2 t2 g2 h2 m2=>hn V2 u2 s2 (fun x v hr=>t2 x v (hr.step k1)) g2 h2 m2
      · cases h
    · cases h
theorem res1_sound {V:View} {a:Act} {env:List AV} (hG:HeapRep G V) (he:EnvOk V env a) {x:ResultVar} {y:AV} (h:res1 P env V.H x=some y) :
 ∃ v,(match x with | .tmp t=>pure (a.tmps.getD t undef) | .cell b t=>do loadVar t (← asAddr (a.tmps.getD b undef)):Sem Value).run P V.w = .ok v V.w∧Rep V y v:=by
 cases x with
 | tmp t =>
  simp only [res1,Option.some.injEq] at h
  subst h
  exact ⟨_,rfl,he.get t⟩
 | cell b t =>
  simp only [res1] at h
  split at h
  · rename_i id off hp
    split at h
    · rename_i cells hH
      have hr:=he.get b
      rw [hp] at hr
      obtain ⟨_,hv⟩:=rep_ptr hr
      have hc:=(box_cells hG hH).drop off
      rw [Nat.zero_add] at hc
      obtain ⟨v,h1,h2⟩:=loadA_sound h hc
      exact ⟨v,by simp [hv,asAddr,h1],h2⟩
    · cases h
  · cases h
theorem resA_sound {V:View} {a:Act} {env:List AV} (hG:HeapRep G V) (he:EnvOk V env a):∀ {xs:List ResultVar} {ys:List AV},resA P env V.H xs=some ys →
 ∃ vs:List Value,(xs.mapM fun x=>(match x with | .tmp t=>pure (a.tmps.getD t undef) | .cell b t=>do loadVar t (← asAddr (a.tmps.getD b undef)):Sem Value)).run P V.w = .ok vs V.w∧Reps V ys vs
 | [],ys,h=>by
  simp only [resA,Option.some.injEq] at h
  subst h
  exact ⟨[],rfl,.nil⟩
 | x::xs,ys,h=>by
  unfold resA at h
  split at h
  · rename_i y zs h1 h2
    cases h
    obtain ⟨v,k1,k2⟩:=res1_sound hG he h1
    obtain ⟨vs,l1,l2⟩:=resA_sound hG he h2
    refine ⟨v::vs,?_,.cons k2 l2⟩
    rw [List.mapM_cons]
    simp only [Sem.run_bind,k1,Result.andThen,l1,Sem.run_pure]
  · cases h
theorem outA_rep {V:View} {ys:List AV} {vs:List Value} (h:Reps V ys vs):Rep V (outA ys) (if h:vs.toArray.size=1 then vs.toArray[0] else .tuple vs.toArray):=by
 match ys,vs,h with
 | [],[],h=>exact .tup [] [] rfl fun j hj=>absurd hj (by simp)
 | [y],[v],h=>exact h.head
 | y::z::ys,u::v::vs,h=>exact .tup _ _ h.1 h.2
 | [],_::_,h=>have:=h.1; simp at this
 | _::_,[],h=>have:=h.1; simp at this
 | [_],_::_::_,h=>have:=h.1; simp at this
 | _::_::_,[_],h=>have:=h.1; simp at this
theorem cutF_sound {V0 V:View} {n:Nat} {x:AV} {H3:List AObj} {qs:List Prop} (h:cutF n x V.H=some (H3,qs)) (hq:AllP qs) (h0:V0.H.length=n) (hs:Step V0 V) (hG:HeapRep G V) {v:Value} (hr:Rep V x v) :
 ∃ V3:View,V3.w=V.w∧Step V0 V3∧HeapRep G V3∧V3.H=H3∧Rep V3 x v:=by
 unfold cutF at h
 split at h
 · rename_i hc
   obtain ⟨h1,h2⟩:=hc
   split at h
   · rename_i ps hcut
     cases h
     exact ⟨V.cut n,rfl,cut_step (Nat.le_of_lt h1) (Nat.le_of_eq h0) hs,cut_heap (Nat.le_of_lt h1) hG (cuts_sound hcut hq),rfl,cut_rep (Nat.le_of_lt h1) h2 hr⟩
   · cases h
     exact ⟨V,rfl,hs,hG,rfl,hr⟩
 · cases h
   exact ⟨V,rfl,hs,hG,rfl,hr⟩
theorem callC_of_run {f:FuncId} {args:List AV} {H:List AObj} {out:AOut} {H':List AObj} {ps:List Prop} (orc:List Orc) (h:runF P G f args H orc=some (out,H',ps)) (hps:AllP ps):CallC P G f args H out H':=by
 unfold runF at h
 split at h
 · rename_i fn hfn
   split at h
   · rename_i c hb
     split at h
     · rename_i ex s orc1 qs hrun
       split at h
       · rename_i out1 H1 rs hfin
         cases h
         obtain ⟨hq,hr⟩:=allP_append.1 hps
         intro V vs hH hG hargs
         subst hH
         refine callsIn_of_wp_marks hfn hb trivial (Go.wpIn_mono (runC_sound (r:=none) c hrun hq V V { tmps:=vs.toArray++Array.replicate (fn.ntmps - vs.toArray.size) undef,defers:=[] } rfl (Step.refl V) hG ⟨?_,rfl,.nil⟩) ?_)
         · have:EnvOk V (args++List.replicate (fn.ntmps - args.length) (.lit undef)) { tmps:=(vs++List.replicate (fn.ntmps - args.length) undef).toArray,defers:=[] }:=by
            refine Reps.append hargs ?_
            have:=Reps.lits (V:=V) (List.replicate (fn.ntmps - args.length) undef)
            simpa using this
           have e:(vs++List.replicate (fn.ntmps - args.length) undef).toArray=vs.toArray++Array.replicate (fn.ntmps - vs.toArray.size) undef:=by
            apply Array.ext'
            simp [hargs.1]
           rw [e] at this
           exact this
         · intro e a' w' hE
           obtain ⟨V1,rfl,k1,k2,k3,k4⟩:=hE
           obtain ⟨m,hm,hmr⟩:∃ m u,ex.mode=some m∧ModeRep V1 m u∧(LeavesInM Fence.wide 0 P fn a'.tmps (Goes G V H' out) a'.defers u V1.w→bodyPostM Fence.wide 0 P fn (Goes G V H' out) e a' V1.w):=by
            cases ex<;>cases e<;>first | exact k4.elim | skip
            · exact ⟨_,.returning,rfl,rfl,id⟩
            · simp [finF,AEx.mode] at hfin
            · simp [finF,AEx.mode] at hfin
            · exact ⟨_,.returning,rfl,rfl,id⟩
            · obtain ⟨v,rfl,hv⟩:=k4
              exact ⟨_,_,rfl,⟨v,rfl,hv⟩,id⟩
           obtain ⟨hmode,hmr,hgo⟩:=hmr
           refine hgo ?_
           unfold finF at hfin
           rw [hmode] at hfin
           simp only at hfin
           split at hfin
           · rename_i y H2 qs2 hlv
             split at hfin
             · rename_i xs hres
               split at hfin
               · rename_i H3 qs3 hcut
                 cases hfin
                 obtain ⟨hr1,hr2⟩:=allP_append.1 hr
                 refine leave_sound (V0:=V) rfl (by rw [k3.H]; exact hlv) hr1 k1 k2 k3.defs hmr fun V2 u2 s2 t2 g2 h2 m2=>?_
                 rw [show u2 = .returning from m2]
                 obtain ⟨us,m1,m2⟩:=resA_sound (a:=a') g2 ⟨k3.env.1,fun j hj=>t2 _ _ (k3.env.2 j hj)⟩ (by rw [h2]; exact hres)
                 obtain ⟨V3,n1,n2,n3,n4,n5⟩:=cutF_sound (V0:=V) (by rw [h2]; exact hcut) hr2 rfl s2 g2 (outA_rep m2)
                 refine ⟨_,?_,V3,n1,n2,n3,n4,n5⟩
                 unfold results
                 rw [Array.mapM_eq_mapM_toList]
                 simp only [Sem.run_bind,Sem.run_map,Result.andThen,Sem.run_pure]
                 generalize hz:Sem.run P (List.mapM _ fn.results.toList) V2.w=z
                 have hz2:z=Result.ok us V2.w:=hz.symm.trans m1
                 subst hz2
                 rfl
               · cases hfin
             · cases hfin
           · rename_i x H2 qs2 hlv
             split at hfin
             · rename_i H3 qs3 hcut
               cases hfin
               obtain ⟨hr1,hr2⟩:=allP_append.1 hr
               refine leave_sound (V0:=V) rfl (by rw [k3.H]; exact hlv) hr1 k1 k2 k3.defs hmr fun V2 u2 s2 t2 g2 h2 m2=>?_
               obtain ⟨v,rfl,hv⟩:=m2
               obtain ⟨V3,n1,n2,n3,n4,n5⟩:=cutF_sound (V0:=V) (by rw [h2]; exact hcut) hr2 rfl s2 g2 hv
               exact ⟨V3,n1,n2,n3,n4,v,rfl,n5⟩
             · cases hfin
           · cases hfin
       · cases h
     · cases h
   · cases h
 · cases h
end
end Go.Am


namespace Go.Am
open Go
def setAll:List AV→List Tmp→List AV→List AV
 | env,t::ts,x::xs=>setAll (env.set t x) ts xs
 | env,_,_=>env
def jumpOf:AEx→Option (Option Code)
 | .normal=>some none
 | .ret=>some (some .ret)
 | .exit i=>some (some (.exit i))
 | .goto l=>some (some (.goto l))
 | .pan _=>none
def cutY (n:Nat) (H:List AObj):List Orc→Option (List AObj × List Prop)
 | .emp::_=>some (H,[])
 | _=>cutF n (.lit undef) H
def runY (P:Program) (G:Nat→Option (List AV)) (r:Option Nat) (id:Nat) (args:List AV) (H:List AObj) (orc:List Orc):Option (Bool × List AObj × List Prop) :=
 match H[id]? with
 | some (.rng .ready _ env ts x y)=>if ts.size=args.length then
  (match runC P G r H.length x { env:=setAll env ts.toList args,H:=H } orc with
  | some (.normal,s1,orc1,qs1)=>match s1.H[id]? with
   | some (.rng .ready p1 env1 ts1 x1 y1)=>match runC P G r H.length y { s1 with H:=s1.H.set id (.rng .busy p1 env1 ts1 x1 y1) } orc1 with
    | some (ex,s2,orc2,qs2)=>match s2.H[id]?,jumpOf ex with
     | some (.rng _ _ env2 ts2 x2 y2),some j=>match cutY H.length (s2.H.set id (.rng (if j.isNone=true then .ready else .done) j env2 ts2 x2 y2)) orc2 with
      | some (H3,qs3)=>some (j.isNone,H3,qs1++(qs2++qs3))
      | none=>none
     | _,_=>none
    | none=>none
   | _=>none
  | _=>none) else none
 | _=>none
section
variable {P:Program} {G:Nat→Option (List AV)}
theorem step_rng {V:View} (hG:HeapRep G V) {id:Nat} {st st':LoopState} {p p':Option Code} {env:List AV} {ts:Array Tmp} {x y:Code} (hid:V.H[id]? = some (.rng st p env ts x y)) {fn:FuncId} {vs:List Value} {D:Nat}
 (ho:V.w.heap[V.ρ id]? = some (.loop { state:=st,pending:=p,fn:=fn,tmps:=List.toArray vs,params:=ts,assign:=x,body:=y,defers:=D })) (he:Reps V env vs) :
 ∃ V':View,V'.w=V.w.putObj (V.ρ id) (.loop { state:=st',pending:=p',fn:=fn,tmps:=List.toArray vs,params:=ts,assign:=x,body:=y,defers:=D })∧V'.H=V.H.set id (.rng st' p' env ts x y)∧V'.ρ=V.ρ∧Step V V'∧HeapRep G V':=by
 have hlt:=(List.getElem?_eq_some_iff.1 hid).1
 let w':=V.w.putObj (V.ρ id) (.loop { state:=st',pending:=p',fn:=fn,tmps:=List.toArray vs,params:=ts,assign:=x,body:=y,defers:=D })
 let V':View:={ w:=w',M:=V.M,H:=V.H.set id (.rng st' p' env ts x y),ρ:=V.ρ }
 have hM:=hG.mutb id _ hid rfl
 have Hs:V'.H[id]? = some (.rng st' p' env ts x y):=by show (V.H.set id _)[id]? = _; rw [List.getElem?_set_self hlt]
 have Ho:∀ i,i≠id→V'.H[i]? = V.H[i]? := fun i hi=>by show (V.H.set id _)[i]? = _; rw [List.getElem?_set_ne (fun e=>hi e.symm)]
 have hl:V'.H.length=V.H.length:=by show (V.H.set id _).length=_; simp
 have ne:∀ i,i<V.H.length→i≠id→V.ρ i≠V.ρ id:=fun i hi hne e=>hne (hG.inj i id hi hlt e)
 have hh:∀ b,b≠V.ρ id→w'.heap[b]? = V.w.heap[b]? := fun b hb=>World.putObj_heap_other hb
 have hs:w'.heap.size=V.w.heap.size:=World.putObj_size
 have hst:Step V V':={
  os:=rfl
  tape:=rfl
  output:=rfl
  size:=Nat.le_of_eq hs.symm
  drawn:=Nat.le_refl _
  keep:=fun b _ hn=>⟨hh b fun e=>hn id hlt e.symm,Iff.rfl⟩
  data:=fun b _ hn=>⟨hh b fun e=>hn (e ▸ hM),hn⟩
  hlen:=Nat.le_of_eq hl.symm
  fresh:=fun i hi=>.inl ⟨by rw [hl] at hi; exact hi,rfl⟩
  obj:=fun i hi=>by
   by_cases e:i=id
   · subst e
     unfold ObjStep
     rw [hid,Hs]
   · exact .refl hi (Ho i e) rfl (hh _ (ne i hi e)) }
 refine ⟨V',rfl,rfl,rfl,hst,?_⟩
 exact {
  lt:=fun i hi=>by rw [hl] at hi; show V.ρ i<w'.heap.size; rw [hs]; exact hG.lt i hi
  obj:=fun i o ho'=>by
   by_cases e:i=id
   · subst e; rw [Hs] at ho'; cases ho'
     exact ⟨fn,vs,D,World.putObj_heap_same (hG.lt i hlt),Reps.step hst he⟩
   · rw [Ho i e] at ho'
     exact (hG.obj i o ho').step hst (hh _ (ne i (List.getElem?_eq_some_iff.1 ho').1 e))
  inj:=fun i j hi hj=>by rw [hl] at hi hj; exact hG.inj i j hi hj
  mutb:=fun i o ho' hop'=>by
   by_cases e:i=id
   · subst e; exact hM
   · rw [Ho i e] at ho'; exact hG.mutb i o ho' hop'
  glob:=hG.glob_step hst }
theorem setAll_ok {V:View}:∀ {ts:List Tmp} {xs:List AV} {us:List Value} {env:List AV} {vs:List Value},Reps V env vs→Reps V xs us →
 Reps V (setAll env ts xs) ((ts.zip us).foldl (fun l (t,a)=>l.set t a) vs)
 | [],xs,us,env,vs,h,_=>by cases xs<;>exact h
 | t::ts,[],us,env,vs,h,hx=>by
  have:us=[]:=List.eq_nil_of_length_eq_zero (by simpa using hx.1)
  subst this
  exact h
 | t::ts,x::xs,[],env,vs,h,hx=>by have:=hx.1; simp at this
 | t::ts,x::xs,u::us,env,vs,h,hx=>setAll_ok (ts:=ts) (h.set t hx.head) hx.tail
theorem foldl_sets_list:∀ (l:List (Tmp × Value)) (vs:List Value),(l.foldl (fun (tmps:Array Value) (x:Tmp × Value)=>tmps.setIfInBounds x.1 x.2) vs.toArray)=(l.foldl (fun (l:List Value) (x:Tmp × Value)=>l.set x.1 x.2) vs).toArray
 | [],vs=>rfl
 | (t,a)::l,vs=>by
  simp only [List.foldl_cons]
  have:vs.toArray.setIfInBounds t a=(vs.set t a).toArray:=by apply Array.ext'; simp
  rw [this]
  exact foldl_sets_list l _
theorem cutY_sound {V0 V:View} {n:Nat} {orc:List Orc} {H3:List AObj} {qs:List Prop} (h:cutY n V.H orc=some (H3,qs)) (hq:AllP qs) (h0:V0.H.length=n) (hs:Step V0 V) (hG:HeapRep G V) :
 ∃ V3:View,V3.w=V.w∧Step V0 V3∧HeapRep G V3∧V3.H=H3:=by
 unfold cutY at h
 split at h
 · cases h
   exact ⟨V,rfl,hs,hG,rfl⟩
 · obtain ⟨V5,a5,b5,c5,d5,_⟩:=cutF_sound (V0:=V0) h hq h0 hs hG (Rep.pure _ _ (.lit undef))
   exact ⟨V5,a5,b5,c5,d5⟩
theorem yieldC_of_run {id:Nat} {args:List AV} {H:List AObj} {b:Bool} {H':List AObj} {ps:Option Nat→List Prop} (orc:List Orc) (h:∀ r,runY P G r id args H orc=some (b,H',ps r)) (hps:∀ r,AllP (ps r)):YieldC P G id args H b H':=by
 intro V vs hH hG hargs
 have h:=h (some (V.ρ id))
 have hps:=hps (some (V.ρ id))
 generalize ps (some (V.ρ id))=qs at h hps
 unfold runY at h
 subst hH
 split at h
 · rename_i p0 env ts x y hid
   split at h
   · rename_i hsz
     split at h
     · rename_i s1 orc1 qs1 hx
       split at h
       · rename_i p1 env1 ts1 x1 y1 hid1
         split at h
         · rename_i ex s2 orc2 qs2 hy
           split at h
           · rename_i st2 p2 env2 ts2 x2 y2 j hid2 hj
             split at h
             · rename_i H3 qs3 hcut
               cases h
               obtain ⟨q1,q23⟩:=allP_append.1 hps
               obtain ⟨q2,q3⟩:=allP_append.1 q23
               obtain ⟨fn,us,D,o1,o2⟩:=hG.obj id _ hid
               have hvs:vs.toArray.size=ts.size:=by rw [hsz,← hargs.1]; simp
               refine ⟨fn,_,x,y,run_yield o1 hvs,fun r=>roundIn_of_wpIn trivial ?_⟩
               have henv:EnvOk V (setAll env ts.toList args) { tmps:=(ts.zip vs.toArray).foldl (fun tmps (t,a)=>tmps.setIfInBounds t a) us.toArray,defers:=[] }:=by
                have h1:=setAll_ok (ts:=ts.toList) o2 hargs
                have e:(ts.zip vs.toArray).foldl (fun (tmps:Array Value) (x:Tmp × Value)=>tmps.setIfInBounds x.1 x.2) us.toArray=((ts.toList.zip vs).foldl (fun (l:List Value) (x:Tmp × Value)=>l.set x.1 x.2) us).toArray:=by
                 rw [← foldl_sets_list,← Array.foldl_toList]
                 simp
                show Reps V _ ((ts.zip vs.toArray).foldl (fun (tmps:Array Value) (x:Tmp × Value)=>tmps.setIfInBounds x.1 x.2) us.toArray).toList
                rw [e]
                exact h1
               have hr1:=runC_sound (r:=some (V.ρ id)) x hx q1 V V _ rfl (Step.refl V) hG ⟨henv,rfl,.nil⟩
               refine Go.wpIn_mono hr1 ?_
               refine Ends.after fun V1 a1 s01 g1 k1=>?_
               have hid1':V1.H[id]? = some (.rng .ready p1 env1 ts1 x1 y1):=by rw [k1.H]; exact hid1
               have hρ1:V1.ρ id=V.ρ id:=(rngOk_step s01 ⟨_,hid,rfl⟩).2
               obtain ⟨fn1,us1,D1,o11,o12⟩:=g1.obj id _ hid1'
               obtain ⟨V2,a2,b2,c2,d2,e2⟩:=step_rng (st':=.busy) (p':=p1) g1 hid1' o11 o12
               refine ⟨V2.w,by rw [a2,← hρ1]; exact run_beginRound o11 rfl,?_⟩
               have hr2:=runC_sound (r:=some (V.ρ id)) y hy q2 V V2 a1 rfl (s01.trans d2) e2 ⟨k1.env.step d2,by rw [b2,k1.H],k1.defs.step d2⟩
               refine Go.wpIn_mono hr2 ?_
               intro e a3 w3 hE
               obtain ⟨V3,rfl,l1,l2,l3,l4⟩:=hE
               have hid3:V3.H[id]? = some (.rng st2 p2 env2 ts2 x2 y2):=by rw [l3.H]; exact hid2
               have hρ3:V3.ρ id=V.ρ id:=(rngOk_step l1 ⟨_,hid,rfl⟩).2
               obtain ⟨fn3,us3,D3,o31,o32⟩:=l2.obj id _ hid3
               obtain ⟨V4,a4,b4,c4,d4,e4⟩:=step_rng (st':=if j.isNone=true then .ready else .done) (p':=j) l2 hid3 o31 o32
               obtain ⟨V5,a5,b5,c5,d5⟩:=cutY_sound (V0:=V) (by rw [b4,l3.H]; exact hcut) q3 rfl (l1.trans d4) e4
               have fin:∃ v w',(Instr.endRound (V.ρ id) j).run P V3.w = .ok v w'∧∃ V':View,V'.w=w'∧Step V V'∧HeapRep G V'∧V'.H=H'∧Ending.returned v = .returned (.bool j.isNone) :=
                ⟨_,_,by rw [← hρ3]; exact run_endRound j o31,V5,by rw [a5,a4],b5,c5,d5,rfl⟩
               cases ex<;>cases e<;>first | exact l4.elim | skip
               · cases hj; exact fin
               · obtain rfl:=l4
                 cases hj; exact fin
               · obtain rfl:=l4
                 cases hj; exact fin
               · cases hj; exact fin
               · cases hj
             · cases h
           · cases h
         · cases h
       · cases h
     · cases h
   · cases h
 · cases h
end
end Go.Am


namespace Go.Am
open Go
def loopsOf:Code→List Code
 | .seq a b=>loopsOf a++loopsOf b
 | .cond _ a b=>loopsOf a++loopsOf b
 | .block _ c=>loopsOf c
 | .loop c=>c::loopsOf c
 | .rangeFunc _ _ x y=>loopsOf x++loopsOf y
 | .scope c=>loopsOf c
 | _=>[]
def rangesOf:Code→List (Code × Code)
 | .seq a b=>rangesOf a++rangesOf b
 | .cond _ a b=>rangesOf a++rangesOf b
 | .block _ c=>rangesOf c
 | .loop c=>rangesOf c
 | .rangeFunc _ _ x y=>(x,y)::(rangesOf x++rangesOf y)
 | .scope c=>rangesOf c
 | _=>[]
def bodyOf (P:Program) (f:FuncId):Code:=match P.funcs[f]? with
 | some fn=>fn.body.getD .skip
 | none=>.skip
def loopAt (P:Program) (f:FuncId) (i:Nat):Code:=(loopsOf (bodyOf P f)).getD i .skip
def asgAt (P:Program) (f:FuncId) (i:Nat):Code:=((rangesOf (bodyOf P f)).getD i (.skip,.skip)).1
def rbodyAt (P:Program) (f:FuncId) (i:Nat):Code:=((rangesOf (bodyOf P f)).getD i (.skip,.skip)).2
def slotAt:List (Nat × AV)→Nat→AV
 | [],_=>.dead
 | (j,x)::l,i=>if j=i then x else slotAt l i
def slots (n:Nat) (l:List (Nat × AV)):List AV:=(List.range n).map (slotAt l)
def others (n:Nat) (live:List Nat):List Nat:=(List.range n).filter fun i=>!live.contains i
theorem Sub.nil (sz:Nat):Sub (.lit (.slice none 0 0)) (.sl sz false []):=fun V v h=>by
 rw [rep_lit h]
 exact .pure _ _ (.sl sz false [] none 0 0 0 (fun _ _=>undef) (fun h=>absurd rfl h) (fun h=>absurd rfl h) (Nat.le_refl _) (fun h=>by cases h) (by simp) (fun k j hk=>absurd hk (by simp)) (fun k j hk=>absurd hk (by simp)) (fun k j hk=>absurd hk (by simp)))
theorem Sub.loose (sz:Nat) (t:Bool) (xs:List (List AV)):Sub (.sl sz t xs) (.sl sz false xs):=fun V v h=>by
 cases rep_sl h with
 | sl _ _ _ A cap b o vs hA hb hcap ht hsz hc ho hr=>exact .pure _ _ (.sl sz false xs A cap b o vs hA hb hcap (fun h=>by cases h) hsz hc ho hr)
theorem Sub.tup {xs ys:List AV} (hl:ys.length=xs.length) (h:∀ j,j<xs.length→Sub (xs.getD j .dead) (ys.getD j .dead)):Sub (.tup xs) (.tup ys):=fun V v hr=>by
 obtain ⟨vs,rfl,h1,h2⟩:=rep_tup hr
 exact .tup ys vs (h1.trans hl.symm) fun j hj=>h j (by omega) V _ (h2 j (by omega))
section
variable {P:Program} {G:Nat→Option (List AV)}
theorem CallC.out {f:FuncId} {args:List AV} {H H':List AObj} {x y:AV} (h:CallC P G f args H (.ret x) H') (hs:Sub x y):CallC P G f args H (.ret y) H':=fun V vs hH hG hr =>
 (h V vs hH hG hr).mono fun e w' he=>by
  obtain ⟨V',k1,k2,k3,k4,k5⟩:=he
  refine ⟨V',k1,k2,k3,k4,?_⟩
  cases e with
  | returned v=>exact hs V' v k5
  | panicked _=>exact k5.elim
  | outgrown=>exact k5.elim
theorem CallC.args {f:FuncId} {xs ys:List AV} {H H':List AObj} {out:AOut} (h:CallC P G f ys H out H') (hl:ys.length=xs.length) (hs:∀ j,j<xs.length→Sub (xs.getD j .dead) (ys.getD j .dead)):CallC P G f xs H out H':=fun V vs hH hG hr =>
 h V vs hH hG ⟨hr.1.trans hl.symm,fun j hj=>hs j (by omega) V _ (hr.2 j (by omega))⟩
def SubS (s t:St):Prop:=t.H=s.H∧t.defs=s.defs∧t.env.length=s.env.length∧∀ j,j<s.env.length→Sub (s.env.getD j .dead) (t.env.getD j .dead)
theorem SubS.ok {s t:St} (h:SubS s t) {V:View} {a:Act} (k:StOk V s a):StOk V t a :=
 ⟨⟨k.env.1.trans h.2.2.1.symm,fun j hj=>h.2.2.2 j (by have:=h.2.2.1; omega) V _ (k.env.2 j (by have:=h.2.2.1; omega))⟩,k.H.trans h.1.symm,by rw [h.2.1]; exact k.defs⟩
theorem LoopIn.mono {F:Fence} {n:Nat} {c:Code} {Q Q':Exit→Act→World→Prop} {a:Act} {w:World} (h:LoopIn F n P c Q a w) (hq:∀ e a w,Q e a w→Q' e a w):LoopIn F n P c Q' a w:=fun b k cs hro hb hr =>
 let ⟨e,a',w',q,r⟩:=h b k cs hro hb hr; ⟨e,a',w',hq _ _ _ q,r⟩
theorem RunL.post {r:Option Nat} {n0:Nat} {c:Code} {s s' t:St} {ex:AEx} (h:RunL P G r n0 c s ex s') (hs:SubS s' t):RunL P G r n0 c s ex t:=fun V0 V a h0 hst hG hok =>
 LoopIn.mono (h V0 V a h0 hst hG hok) fun _ _ _ ⟨V',k1,k2,k3,k4,k5⟩=>⟨V',k1,k2,k3,hs.ok k4,k5⟩
end
end Go.Am


namespace Go.Am
open Go
abbrev int (n:Int):AV:=.lit (.int .i64 n)
abbrev bool (b:Bool):AV:=.lit (.bool b)
abbrev str (s:ByteArray):AV:=.lit (.string s)
theorem allm_nil {α:Type} {p:α→Prop}:∀ x∈([]:List α),p x:=fun _ h=>by cases h
theorem allm_cons {α:Type} {p:α→Prop} {a:α} {l:List α} (h:p a) (hl:∀ x∈l,p x):∀ x∈a::l,p x:=fun x hx=>by
 rcases List.mem_cons.1 hx with rfl | hx
 · exact h
 · exact hl x hx
theorem allm_append {α:Type} {p:α→Prop} {a b:List α} (ha:∀ x∈a,p x) (hb:∀ x∈b,p x):∀ x∈a++b,p x:=fun x hx=>by
 rcases List.mem_append.1 hx with hx | hx
 · exact ha x hx
 · exact hb x hx
abbrev nilS:AV:=.lit (.slice none 0 0)
theorem el_get {α:Type} {f:α→List AV} {v:List α} {k:Nat} {x:α} (h:v[k]? = some x):(v.map f)[k]? = some (f x):=by rw [List.getElem?_map,h]; rfl
theorem el_nat {α:Type} {f:α→List AV} {v:List α} {k:Nat} {x:α} (h:v[k]? = some x):0≤(k:Int)∧(v.map f)[(k:Int).toNat]? = some (f x):=⟨by omega,el_get h⟩
theorem el_int {α:Type} {f:α→List AV} {v:List α} {n:Int} {x:α} (h:0≤n∧v[n.toNat]? = some x):0≤n∧(v.map f)[n.toNat]? = some (f x):=⟨h.1,el_get h.2⟩
theorem wrap_ok {n:Int} (h0 : -9223372036854775808≤n) (h1:n<9223372036854775808):IntKind.wrap IntKind.i64 n=n:=by rw [IntKind.wrap_i64]; omega
theorem Sub.of_wrap {n m:Int} (h0 : -9223372036854775808≤n) (h1:n<9223372036854775808) (h2:n=m):Sub (.lit (.int .i64 (IntKind.wrap .i64 n))) (.lit (.int .i64 m)):=.of_eq (by rw [wrap_ok h0 h1,h2])
theorem Sub.int_eq {k:IntKind} {a b:Int} (h:a=b):Sub (.lit (.int k a)) (.lit (.int k b)):=.of_eq (by rw [h])
theorem Sub.bool_eq {a b:Bool} (h:a=b):Sub (.lit (.bool a)) (.lit (.bool b)):=.of_eq (by rw [h])
theorem Sub.list_eq {sz:Nat} {t:Bool} {xs ys:List (List AV)} (h:xs=ys):Sub (.sl sz t xs) (.sl sz false ys):=h ▸ .loose sz t xs
theorem Sub.nil_eq {sz:Nat} {ys:List (List AV)} (h:[]=ys):Sub (.lit (.slice none 0 0)) (.sl sz false ys):=h ▸ .nil sz
def SubL:List AV→List AV→Prop
 | [],[]=>True
 | x::xs,y::ys=>Sub x y∧SubL xs ys
 | _,_=>False
theorem SubL.len:∀ {xs ys:List AV},SubL xs ys→ys.length=xs.length
 | [],[],_=>rfl
 | _::_,_::_,h=>by simp [SubL.len h.2]
theorem SubL.get:∀ {xs ys:List AV},SubL xs ys→∀ j,j<xs.length→Sub (xs.getD j .dead) (ys.getD j .dead)
 | x::xs,y::ys,h,0,_=>by simpa using h.1
 | x::xs,y::ys,h,j+1,hj=>by simpa using SubL.get h.2 j (by simpa using hj)
 | [],[],_,_,hj=>absurd hj (by simp)
theorem Sub.tups {xs ys:List AV} (h:SubL xs ys):Sub (.tup xs) (.tup ys):=.tup h.len h.get
theorem Sub.aggs {xs ys:List AV} (h:SubL xs ys):Sub (.agg xs) (.agg ys):=fun V v hr=>by
 obtain ⟨vs,rfl,h1,h2⟩:=rep_agg hr
 exact .agg ys vs (h1.trans h.len.symm) fun j hj=>h.get j (by rw [h.len] at hj; exact hj) V _ (h2 j (by rw [h.len] at hj; exact hj))
def SubP:List (Nat × AV)→List (Nat × AV)→Prop
 | [],[]=>True
 | (i,x)::xs,(j,y)::ys=>i=j∧Sub x y∧SubP xs ys
 | _,_=>False
theorem SubP.at:∀ {xs ys:List (Nat × AV)},SubP xs ys→∀ i,Sub (slotAt xs i) (slotAt ys i)
 | [],[],_,i=>.refl _
 | (a,x)::xs,(b,y)::ys,h,i=>by
  obtain ⟨rfl,h1,h2⟩:=h
  unfold slotAt
  split
  · exact h1
  · exact SubP.at h2 i
theorem SubS.slots {n:Nat} {l l':List (Nat × AV)} {H:List AObj} {defs:List ADef} (h:SubP l l'):SubS { env:=slots n l,H:=H,defs:=defs } { env:=slots n l',H:=H,defs:=defs } :=
 ⟨rfl,rfl,by simp [Am.slots],fun j hj=>by
  have hj:j<n:=by simpa [Am.slots] using hj
  simpa [Am.slots,List.getD_eq_getElem?_getD,hj] using h.at j⟩
theorem SubS.slotsH {n:Nat} {l l':List (Nat × AV)} {H H':List AObj} {defs:List ADef} (h:SubP l l') (e:H=H'):SubS { env:=Am.slots n l,H:=H,defs:=defs } { env:=Am.slots n l',H:=H',defs:=defs }:=e ▸ .slots h
section
variable {P:Program} {G:Nat→Option (List AV)}
theorem CallC.args' {f:FuncId} {xs ys:List AV} {H H':List AObj} {out:AOut} (h:CallC P G f ys H out H') (hs:SubL xs ys):CallC P G f xs H out H':=h.args hs.len hs.get
theorem CallC.heap {f:FuncId} {xs:List AV} {H H1 H2:List AObj} {out:AOut} (h:CallC P G f xs H out H1) (e:H1=H2):CallC P G f xs H out H2:=e ▸ h
theorem SubS.of_eq {s t:St} (h:s=t):SubS s t:=h ▸ ⟨rfl,rfl,rfl,fun _ _=>.refl _⟩
theorem RunL.preH {r:Option Nat} {n0:Nat} {c:Code} {env:List AV} {H K:List AObj} {defs:List ADef} {s':St} {ex:AEx} (h:RunL P G r n0 c { env:=env,H:=K,defs:=defs } ex s') (hs:HSub H K):RunL P G r n0 c { env:=env,H:=H,defs:=defs } ex s':=fun V0 V a h0 hst hG hok=>by
 have hH:V.H=H:=hok.H
 obtain ⟨V2,a1,a2,a3,a4,a5⟩:=hsub_step (K:=K) hG (by rw [hH]; exact hs)
 rw [← a1]
 exact h V0 V2 a h0 (hst.trans a4) a5 ⟨hok.env.step a4,a2,hok.defs.step a4⟩
theorem ExRep.step {V V':View} (hs:Step V V') {ex:AEx} {e:Exit} (h:ExRep V ex e):ExRep V' ex e:=by
 cases ex<;>cases e<;>first | exact h | skip
 obtain ⟨v,h1,h2⟩:=h
 exact ⟨v,h1,h2.step hs⟩
theorem RunL.postH {r:Option Nat} {n0:Nat} {c:Code} {s s':St} {K:List AObj} {ex:AEx} (h:RunL P G r n0 c s ex s') (hs:HSub s'.H K):RunL P G r n0 c s ex { env:=s'.env,H:=K,defs:=s'.defs } :=
 fun V0 V a h0 k1 k2 k3=>LoopIn.mono (h V0 V a h0 k1 k2 k3) fun _ _ _ hE=>by
  obtain ⟨V1,rfl,l1,l2,l3,l4⟩:=hE
  obtain ⟨V2,a1,a2,a3,a4,a5⟩:=hsub_step l2 (l3.H ▸ hs)
  exact ⟨V2,a1,l1.trans a4,a5,⟨l3.env.step a4,a2,l3.defs.step a4⟩,l4.step a4⟩
theorem Goes.sub {V:View} {H K:List AObj} {out:AOut} {e:Ending} {w':World} (h:Goes G V H out e w') (hs:HSub H K):Goes G V K out e w':=by
 obtain ⟨V',rfl,k2,k3,rfl,k5⟩:=h
 obtain ⟨V2,a1,a2,a3,a4,a5⟩:=hsub_step (K:=K) k3 hs
 refine ⟨V2,a1,k2.trans a4,a5,a2,?_⟩
 cases out<;>cases e<;>simp only [OutRep] at k5 ⊢
 · exact k5.step a4
 · obtain ⟨v,h1,h2⟩:=k5; exact ⟨v,h1,h2.step a4⟩
theorem CallC.heapSub {f:FuncId} {xs:List AV} {H H1 H2:List AObj} {out:AOut} (h:CallC P G f xs H out H1) (e:HSub H1 H2):CallC P G f xs H out H2:=fun V vs hH hG hr=>(h V vs hH hG hr).mono fun _ _ he=>he.sub e
theorem YieldC.heapSub {id:Nat} {xs:List AV} {H H1 H2:List AObj} {b:Bool} (h:YieldC P G id xs H b H1) (e:HSub H1 H2):YieldC P G id xs H b H2:=fun V vs hH hG hr=>by
 obtain ⟨f,tmps,x,y,h1,h2⟩:=h V vs hH hG hr
 refine ⟨f,tmps,x,y,h1,fun r=>(h2 r).mono fun _ _ he=>?_⟩
 obtain ⟨V',rfl,k2,k3,rfl,k5⟩:=he
 obtain ⟨V2,a1,a2,a3,a4,a5⟩:=hsub_step (K:=H2) k3 e
 exact ⟨V2,a1,k2.trans a4,a5,a2,k5⟩
theorem YieldC.to {id:Nat} {xs:List AV} {H H1 H2:List AObj} {b b':Bool} (h:YieldC P G id xs H b H1) (e1:b=b') (e2:H1=H2):YieldC P G id xs H b' H2:=e1 ▸ e2 ▸ h
theorem RunL.to {r:Option Nat} {n0:Nat} {c:Code} {s s' t:St} {ex ex':AEx} (h:RunL P G r n0 c s ex s') (e:ex=ex') (hs:SubS s' t):RunL P G r n0 c s ex' t:=e ▸ h.post hs
end
end Go.Am
