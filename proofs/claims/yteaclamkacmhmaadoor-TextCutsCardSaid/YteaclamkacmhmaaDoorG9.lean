import Derived.Test.YteaclamkacmhmaaDoorG8
import Derived.Sort.Grow
import Derived.Deep.Draws
set_option maxRecDepth 100000
set_option linter.unusedSimpArgs false
set_option linter.unusedVariables false

namespace Go.Am
open Go
theorem step_grow {V V':View} (hs:Step V V') (hM:∀ b,¬ V.M b):∃ q os',V'.w=Sort.grow (V.w.drewN q) os':=by
 refine ⟨V'.w.drawn - V.w.drawn,V'.w.heap.extract V.w.heap.size V'.w.heap.size,?_⟩
 have hd:=hs.drawn
 have hh:V'.w.heap=V.w.heap++V'.w.heap.extract V.w.heap.size V'.w.heap.size:=by
  apply Array.ext_getElem?
  intro i
  by_cases h:i<V.w.heap.size
  · rw [Array.getElem?_append_left h]
    exact (hs.data i h (hM i)).1
  · rw [Array.getElem?_append_right (by omega),Array.getElem?_extract]
    have hz:=hs.size
    by_cases h2:i<V'.w.heap.size
    · rw [if_pos (by omega)]; congr 1; omega
    · rw [if_neg (by omega),Array.getElem?_eq_none (by omega)]
 have h1:=hs.os; have h2:=hs.tape; have h3:=hs.output
 generalize V'.w=w' at *
 cases w' with
 | mk heap tape drawn os output =>
 simp only at hh hd h1 h2 h3
 subst h1 h2 h3
 simp only [Sort.grow,World.drewN]
 rw [← hh]
 congr 1
 omega
theorem grow_calls {P:Program} {G:Nat→Option (List AV)} {f:FuncId} {xs:List AV} {args:Array Value} {W:World} {y:AV} (hc:CallC P G f xs [] (.ret y) []) (hG:∀ g cs,G g=some cs→PRep W (fun _=>False) (.imm cs) (.pointer (some ⟨g,0,none⟩)))
 (hx:Reps (view0 W) xs args.toList):Calls P f args W fun e W'=>∃ v q os',e = .returned v∧(∃ V':View,V'.w=W'∧Rep V' y v)∧W'=Sort.grow (W.drewN q) os':=by
 have h0:HeapRep G (view0 W):=⟨fun _ h=>absurd h (by simp [view0]),fun _ _ h=>by simp [view0] at h,fun _ _ h=>absurd h (by simp [view0]),fun _ _ h=>by simp [view0] at h,hG⟩
 have h:=hc (view0 W) args.toList rfl h0 hx
 have ea:args.toList.toArray=args:=by simp
 rw [ea] at h
 exact (h.calls room_wide).mono fun e w' he=>by
  obtain ⟨V',rfl,k2,k3,k4,k5⟩:=he
  obtain ⟨q,os',hg⟩:=step_grow k2 (fun _ h=>h)
  cases e with
  | returned v=>exact ⟨v,q,os',rfl,⟨V',rfl,k5⟩,hg⟩
  | panicked _=>exact k5.elim
  | outgrown=>exact k5.elim
end Go.Am


namespace Go.Am
open Go
section
variable {P:Program} {G:Nat→Option (List AV)}
theorem callC_sem {f:FuncId} {fn:Func} {c:Code} {args:List AV} {H:List AObj} {out:AOut} {H':List AObj} (hfn:P.funcs[f]? = some fn) (hb:fn.body=some c)
 (h:∀ V a,V.H=H→HeapRep G V→StOk V { env:=args++List.replicate (fn.ntmps - args.length) (.lit undef),H:=H } a→c.wpIn (fz none) 0 P (bodyPostM Fence.wide 0 P fn (Goes G V H' out)) a V.w):CallC P G f args H out H':=by
 intro V vs hH hG hargs
 refine callsIn_of_wp_marks hfn hb trivial (h V _ hH hG ⟨?_,hH,.nil⟩)
 have:EnvOk V (args++List.replicate (fn.ntmps - args.length) (.lit undef)) { tmps:=(vs++List.replicate (fn.ntmps - args.length) undef).toArray,defers:=[] }:=by
  refine Reps.append hargs ?_
  have:=Reps.lits (V:=V) (List.replicate (fn.ntmps - args.length) undef)
  simpa using this
 have e:(vs++List.replicate (fn.ntmps - args.length) undef).toArray=vs.toArray++Array.replicate (fn.ntmps - vs.toArray.size) undef:=by
  apply Array.ext'
  simp [hargs.1]
 rw [e] at this
 exact this
def tailF (P:Program) (G:Nat→Option (List AV)) (n0:Nat) (fn:Func) (c:Code) (s:St) (orc:List Orc):Option (AOut × List AObj × List Prop) :=
 match runC P G none n0 c s orc with
 | some (ex,s',orc',ps)=>match finF P G n0 fn ex s' orc' with
  | some (out,H',qs)=>some (out,H',ps++qs)
  | none=>none
 | none=>none
theorem tail_run {fn:Func} {n0:Nat} {c:Code} {s:St} {out:AOut} {H':List AObj} (l:List Itm) (h:tailF P G n0 fn c s (orcsOf l)=some (out,H',propsOf l)) {V0 V:View} {a:Act} (h0:V0.H.length=n0) (hs:Step V0 V) (hG:HeapRep G V) (hok:StOk V s a) :
 c.wpIn (fz none) 0 P (bodyPostM Fence.wide 0 P fn (Goes G V0 H' out)) a V.w:=by
 unfold tailF at h
 split at h
 · rename_i ex s' orc' ps hrun
   split at h
   · rename_i o1 H1 qs hfin
     injection h with h
     injection h with e1 h
     injection h with e2 e3
     subst e1 e2
     have hall:=propsAll l
     rw [← e3] at hall
     obtain ⟨hp,hq⟩:=allP_append.1 hall
     refine Go.wpIn_mono (runC_sound (r:=none) c hrun hp V0 V a h0 hs hG hok) ?_
     exact ends_goes (by rw [h0]; exact hfin) hq
   · cases h
 · cases h
theorem any_family {r:Option Nat} {ops:Array Oper} (J:Array Bool→List AV→List AObj→Prop) (Fin:List AV→List AObj→Prop)
 (hstep:∀ listed env H,J listed env H→∀ i∈Region.ready .any ops listed,∃ o orc k x H' orc' ps,ops[i]? = some o∧stepA P G ops (guards ops i) env H o orc=some (k,.ret x,H',orc',ps)∧AllP ps∧J (listed.setIfInBounds i true) (putA env o.dst x) H')
 (hfin:∀ listed env H,J listed env H→Region.ready .any ops listed=[]→Fin env H) {Q:Exit→Act→World→Prop}:∀ (fuel:Nat) {listed:Array Bool} {env:List AV} {H:List AObj} {V:View} {a:Act},J listed env H→listed.size=ops.size→listed.toList.count false≤fuel→HeapRep G V→V.H=H→EnvOk V env a →
 (∀ V' a' env' H',Step V V'→HeapRep G V'→V'.H=H'→EnvOk V' env' a'→a'.defers=a.defers→Fin env' H'→Q .normal a' V'.w)→wpAnyIn (fz r) 0 P .any ops Q fuel listed a V.w:=by
 intro fuel
 induction fuel with
 | zero =>
  intro listed env H V a hJ hsz hc hG hH he hn
  have hr:Region.ready .any ops listed=[]:=by
   cases hr:Region.ready .any ops listed with
   | nil=>rfl
   | cons i is =>
    have hi:i∈Region.ready .any ops listed:=by rw [hr]; simp
    obtain ⟨hun,o,ho,_⟩:=mem_ready.1 hi
    have his:i<listed.size:=by rw [hsz]; exact (Array.getElem?_eq_some_iff.1 ho).1
    simp only [Array.getD_eq_getD_getElem?,Array.getElem?_eq_getElem his,Option.getD_some] at hun
    have:false∈listed.toList:=by rw [← hun]; simp
    have:=List.count_pos_iff.2 this
    omega
  exact ⟨hr,hn V a env H (Step.refl V) hG hH he rfl (hfin _ _ _ hJ hr)⟩
 | succ fuel ih =>
  intro listed env H V a hJ hsz hc hG hH he hn
  refine ⟨fun hr=>hn V a env H (Step.refl V) hG hH he rfl (hfin _ _ _ hJ hr),fun i hi=>?_⟩
  obtain ⟨o,orc,k,x,H',orc',ps,ho,hst,hps,hJ'⟩:=hstep _ _ _ hJ i hi
  obtain ⟨h1,h2⟩:=stepA_sound (r:=r) (a:=a) ho hst hps hG (fun t _=>he.get t) (.inl hH)
  refine h1 _ Q (fun V' v x' hx hs hG' hH' hrep=>?_) (fun V' v x' hx=>by cases hx)
  cases hx
  have hH1:V'.H=H':=by
   rw [hH']
   split
   · rename_i hk; rw [hH,h2 (by rw [hk]; simp)]
   · rfl
  obtain ⟨hun,_⟩:=mem_ready.1 hi
  have his:i<listed.size:=by rw [hsz]; exact (Array.getElem?_eq_some_iff.1 ho).1
  have his':i<listed.toList.length:=by simpa using his
  simp only [Array.getD_eq_getD_getElem?,Array.getElem?_eq_getElem his,Option.getD_some] at hun
  have hlf:listed.toList[i]=false:=by simpa using hun
  have hpos:0<listed.toList.count false:=List.count_pos_iff.2 (by rw [← hlf]; exact List.getElem_mem his')
  have e:(listed.setIfInBounds i true).toList.count false=listed.toList.count false - 1:=by
   rw [Array.toList_setIfInBounds,List.count_set his',hlf]
   rfl
  exact ih hJ' (by simpa using hsz) (by rw [e]; omega) hG' hH1 ((he.step hs).put o.dst hrep)
   (fun V2 a2 env2 H2 s2 g2 hh2 e2 d2 f2=>hn V2 a2 env2 H2 (hs.trans s2) g2 hh2 e2 (d2.trans (put_def _ _ _)) f2)
theorem region_family {r:Option Nat} {id:Nat} {ops:Array Oper} (J:Array Bool→List AV→List AObj→Prop) (Fin:List AV→List AObj→Prop)
 (hstep:∀ listed env H,J listed env H→∀ i∈Region.ready .any ops listed,∃ o orc k x H' orc' ps,ops[i]? = some o∧stepA P G ops (guards ops i) env H o orc=some (k,.ret x,H',orc',ps)∧AllP ps∧J (listed.setIfInBounds i true) (putA env o.dst x) H')
 (hfin:∀ listed env H,J listed env H→Region.ready .any ops listed=[]→Fin env H) {Q:Exit→Act→World→Prop} {s:St} {V:View} {a:Act} (h0:J (Array.replicate ops.size false) s.env s.H) (hm:P.follows .mixedOrders=true) (hG:HeapRep G V) (hok:StOk V s a)
 (hn:∀ V' a' env' H',Step V V'→HeapRep G V'→StOk V' { env:=env',H:=H',defs:=s.defs } a'→Fin env' H'→Q .normal a' V'.w):(Code.region id ops true).wpIn (fz r) 0 P Q a V.w:=by
 refine wpIn_region_any hm ?_
 obtain ⟨Vd,d1,d2,d3,d4,d5,d6⟩:=step_calm (V:=V) hG (w':={ V.w with drawn:=V.w.drawn+1 }) rfl rfl rfl rfl
 rw [← d1]
 refine any_family J Fin hstep hfin ops.size h0 (by simp) (by simp) d6 (d2.trans hok.H) (hok.env.step d5) ?_
 intro V' a' env' H' s' g' h' e' dd f'
 exact hn V' a' env' H' (d5.trans s') g' ⟨e',h',dd ▸ hok.defs.step (d5.trans s')⟩ f'
end
end Go.Am


namespace Go.Am
open Go
structure Alter (n:Nat) (V V':View):Prop where
 data:∀ b,b<V.w.heap.size→¬ V.M b→V'.w.heap[b]? = V.w.heap[b]?∧¬ V'.M b
 own:∀ id,id<n→id<V.H.length→V'.ρ id=V.ρ id∧V'.w.heap[V.ρ id]? = V.w.heap[V.ρ id]?∧(V'.H[id]? = V.H[id]?∨∃ e e',V.H[id]? = some (.map e)∧V'.H[id]? = some (.map e'))
section
variable {n:Nat} {V V':View} (h:Alter n V V')
 include h
theorem KindOk.alter {f:AObj→Bool} (hf:∀ e e',f (.map e)=f (.map e')) {id:Nat} (hid:id<n) (hk:KindOk f V id):KindOk f V' id∧V'.ρ id=V.ρ id:=by
 obtain ⟨o,ho,hfo⟩:=hk
 have hl:=(List.getElem?_eq_some_iff.1 ho).1
 obtain ⟨h1,h2,h3⟩:=h.own id hid hl
 refine ⟨?_,h1⟩
 rcases h3 with h3 | ⟨e,e',h3,h4⟩
 · exact ⟨o,h3.trans ho,hfo⟩
 · rw [h3] at ho
   injection ho with ho
   subst ho
   exact ⟨_,h4,(hf e' e).trans hfo⟩
theorem Rep.alter {x:AV} {v:Value} (hr:Rep V x v) (hx:x.idsLt n=true):Rep V' x v:=by
 induction hr with
 | pure x v hp=>exact .pure x v (hp.step h.data)
 | dead v=>exact .dead v
 | ptr id off hk =>
  simp only [AV.idsLt,Nat.blt_eq] at hx
  obtain ⟨k1,k2⟩:=KindOk.alter h (f:=AObj.isBox) (fun _ _=>rfl) hx hk
  rw [← k2]; exact .ptr id off k1
 | apt id g k j v ha =>
  simp only [AV.idsLt,Nat.blt_eq] at hx
  refine .apt id g k j v ⟨ha.1,?_⟩
  have hl:=ha.lt
  obtain ⟨h1,h2,h3⟩:=h.own id hx hl
  have h4:=ha.2
  rcases h3 with h3 | ⟨e,e',h3,h5⟩
  · rw [h3,h1]; exact h4
  · rw [h3] at h4; exact h4.elim
 | own id g off len v ha =>
  simp only [AV.idsLt,Nat.blt_eq] at hx
  refine .own id g off len v ⟨ha.1,?_⟩
  have hl:=ha.lt
  obtain ⟨h1,h2,h3⟩:=h.own id hx hl
  have h4:=ha.2
  rcases h3 with h3 | ⟨e,e',h3,h5⟩
  · rw [h3]
    unfold OwnRep at h4 ⊢
    rw [h1,h2]
    exact h4
  · rw [h3] at h4; exact h4.elim
 | mp id hk =>
  simp only [AV.idsLt,Nat.blt_eq] at hx
  obtain ⟨k1,k2⟩:=KindOk.alter h (f:=AObj.isMap) (fun _ _=>rfl) hx hk
  rw [← k2]; exact .mp id k1
 | yl id hk =>
  simp only [AV.idsLt,Nat.blt_eq] at hx
  obtain ⟨k1,k2⟩:=KindOk.alter h (f:=AObj.isRng) (fun _ _=>rfl) hx hk
  rw [← k2]; exact .yl id k1
 | agg cs vs hl _ ih =>
  simp only [AV.idsLt] at hx
  exact .agg cs vs hl fun j hj=>ih j hj (idsLtL_getD j hx hj)
 | tup cs vs hl _ ih =>
  simp only [AV.idsLt] at hx
  exact .tup cs vs hl fun j hj=>ih j hj (idsLtL_getD j hx hj)
 | ifc t x v _ ih =>
  simp only [AV.idsLt] at hx
  exact .ifc t x v (ih hx)
 | fn f uu bs us vs hu hv _ _ iha ihb =>
  simp only [AV.idsLt,Bool.and_eq_true] at hx
  exact .fn f uu bs us vs hu hv (fun j hj=>iha j hj (idsLtL_getD j hx.1 hj)) (fun j hj=>ihb j hj (idsLtL_getD j hx.2 hj))
theorem Reps.alter {xs:List AV} {vs:List Value} (hr:Reps V xs vs) (hx:AV.idsLtL n xs=true):Reps V' xs vs:=⟨hr.1,fun j hj=>(hr.2 j hj).alter h (idsLtL_getD j hx hj)⟩
theorem ObjRep.alter {id:Nat} {o:AObj} (hid:id<n) (hl:id<V.H.length) (ho:o.idsLt n) (hr:ObjRep V (V.ρ id) o):ObjRep V' (V'.ρ id) o:=by
 obtain ⟨h1,h2,_⟩:=h.own id hid hl
 rw [h1]
 cases o with
 | box cells=>obtain ⟨t,vs,k1,k2⟩:=hr; exact ⟨t,vs,h2.trans k1,k2.alter h ho⟩
 | arr g sz fz xs =>
  obtain ⟨t,c,k1,k2,k3,k4⟩:=hr
  refine ⟨t,c,h2.trans k1,k2,k3,fun k j hk hj=>?_⟩
  obtain ⟨v,hv,ho1,hrep⟩:=k4 k j hk hj
  have hx:xs.getD k []∈xs:=by rw [List.getD_eq_getElem?_getD,List.getElem?_eq_getElem hk]; exact List.getElem_mem hk
  exact ⟨v,hv,ho1,hrep.alter h (idsLtL_getD j (ho _ hx) (by rw [k3 _ hx]; exact hj))⟩
 | map es =>
  obtain ⟨ents,clock,k1,k2,k3,k4,k5,k6⟩:=hr
  refine ⟨ents,clock,h2.trans k1,k2,k3,k4,k5,fun j hj=>?_⟩
  obtain ⟨kk,hm⟩:=atE_mem hj
  exact (k6 j hj).alter h (ho (kk,atE es j) hm)
 | rng st p env ps uu bd=>obtain ⟨fn,vs,D,k1,k2⟩:=hr; exact ⟨fn,vs,D,h2.trans k1,k2.alter h ho⟩
 | dfd=>exact h2.trans hr
 | gone=>trivial
theorem HeapRep.alter {G:Nat→Option (List AV)} (hG:HeapRep G V) (hlt:∀ id,id<V'.H.length→V'.ρ id<V'.w.heap.size) (hinj:∀ i j,i<V'.H.length→j<V'.H.length→V'.ρ i=V'.ρ j→i=j)
 (hobj:∀ id o,V'.H[id]? = some o→((id<n∧V.H[id]? = some o∧o.idsLt n)∨ObjRep V' (V'.ρ id) o)∧(o.open_=true→V'.M (V'.ρ id))):HeapRep G V' where
 lt:=hlt
 obj id o ho:=by
  rcases (hobj id o ho).1 with ⟨h1,h2,h3⟩ | h1
  · exact ObjRep.alter h h1 (List.getElem?_eq_some_iff.1 h2).1 h3 (hG.obj id o h2)
  · exact h1
 inj:=hinj
 mutb id o ho hop:=(hobj id o ho).2 hop
 glob g cs hg:=(hG.glob g cs hg).step h.data
theorem EnvOk.alter {env:List AV} {a:Act} (he:EnvOk V env a) (hx:AV.idsLtL n env=true):EnvOk V' env a:=Reps.alter h he hx
end
theorem EnvOk.reslot {V:View} {env:List AV} {a:Act} (h:EnvOk V env a) {t:Nat} {x:AV} (hx:Rep V x (a.tmps.getD t undef)):EnvOk V (env.set t x) a :=
 ⟨by simpa using h.1,fun j hj=>by
  have hj':j<env.length:=by simpa using hj
  by_cases e:t=j
  · subst e
    rw [getD_set_self' hj']
    simpa [Array.getD_eq_getD_getElem?,List.getD_eq_getElem?_getD] using hx
  · rw [getD_set_ne' e]
    exact h.2 j hj'⟩
theorem EnvOk.dull {V:View} {env env':List AV} {a:Act} (h:EnvOk V env a) (hl:env'.length=env.length) (hd:∀ j,j<env.length→env'.getD j .dead=env.getD j .dead∨env'.getD j .dead = .dead):EnvOk V env' a :=
 ⟨h.1.trans hl.symm,fun j hj=>by
  rcases hd j (by omega) with h1 | h1
  · rw [h1]; exact h.2 j (by omega)
  · rw [h1]; exact .dead _⟩
structure StepX (B:Nat→Prop) (V V':View):Prop where
 os:V'.w.os=V.w.os
 tape:V'.w.tape=V.w.tape
 output:V'.w.output=V.w.output
 size:V.w.heap.size≤V'.w.heap.size
 drawn:V.w.drawn≤V'.w.drawn
 keep:∀ b,b<V.w.heap.size→(∀ id,id<V.H.length→V.ρ id≠b)→¬ B b→V'.w.heap[b]? = V.w.heap[b]?∧(V'.M b↔V.M b)
 data:∀ b,b<V.w.heap.size→¬ V.M b→V'.w.heap[b]? = V.w.heap[b]?∧¬ V'.M b
 hlen:V.H.length≤V'.H.length
 fresh:∀ id,id<V'.H.length→(id<V.H.length∧V'.ρ id=V.ρ id)∨V.w.heap.size≤V'.ρ id
 obj:∀ id,id<V.H.length→ObjStep V V' id
theorem Step.x {V V':View} (h:Step V V') (B:Nat→Prop):StepX B V V':=⟨h.os,h.tape,h.output,h.size,h.drawn,fun b h1 h2 _=>h.keep b h1 h2,h.data,h.hlen,h.fresh,h.obj⟩
theorem StepX.mono {B C:Nat→Prop} {V V':View} (h:StepX B V V') (hB:∀ b,B b→C b):StepX C V V':={ h with keep:=fun b h1 h2 h3=>h.keep b h1 h2 fun h4=>h3 (hB b h4) }
theorem StepX.trans {B:Nat→Prop} {V V' V'':View} (h:StepX B V V') (h':StepX B V' V''):StepX B V V'' where
 os:=h'.os.trans h.os
 tape:=h'.tape.trans h.tape
 output:=h'.output.trans h.output
 size:=Nat.le_trans h.size h'.size
 drawn:=Nat.le_trans h.drawn h'.drawn
 keep b hb hn hB:=by
  obtain ⟨a1,a2⟩:=h.keep b hb hn hB
  have:=h'.keep b (Nat.lt_of_lt_of_le hb h.size) (fun id hid e=>by
   rcases h.fresh id hid with ⟨hl,hρ⟩ | hge
   · exact hn id hl (hρ ▸ e)
   · omega) hB
  exact ⟨this.1.trans a1,this.2.trans a2⟩
 data b hb hn:=by
  obtain ⟨a1,a2⟩:=h.data b hb hn
  obtain ⟨b1,b2⟩:=h'.data b (Nat.lt_of_lt_of_le hb h.size) a2
  exact ⟨b1.trans a1,b2⟩
 hlen:=Nat.le_trans h.hlen h'.hlen
 fresh id hid:=by
  rcases h'.fresh id hid with ⟨hl,hρ⟩ | hge
  · rcases h.fresh id hl with ⟨hl0,hρ0⟩ | hge
    · exact .inl ⟨hl0,hρ.trans hρ0⟩
    · exact .inr (by rw [hρ]; exact hge)
  · exact .inr (Nat.le_trans h.size hge)
 obj id hid:=(h.obj id hid).trans (h'.obj id (Nat.lt_of_lt_of_le hid h.hlen))
theorem Step.thenX {B:Nat→Prop} {V V' V'':View} (h:Step V V') (h':StepX B V' V'') (hB:∀ b,B b→V.w.heap.size≤b):Step V V'':=by
 have:=(h.x B).trans h'
 exact ⟨this.os,this.tape,this.output,this.size,this.drawn,fun b h1 h2=>this.keep b h1 h2 fun h3=>by have:=hB b h3; omega,this.data,this.hlen,this.fresh,this.obj⟩
theorem CallC.slEmptyH {P:Program} {G:Nat→Option (List AV)} {f:FuncId} {H H':List AObj} {out:AOut} {sz:Nat} {tg:Bool} {rest:List AV} (h0:∀ cap,CallC P G f (.lit (.slice none 0 cap)::rest) H out H') (h1:∀ a cap,CallC P G f (.lit (.slice (some a) 0 cap)::rest) H out H'):CallC P G f (.sl sz tg []::rest) H out H':=by
 intro V vs hH hG hr
 obtain ⟨v,ws,rfl⟩:∃ v ws,vs=v::ws:=by
  have:=hr.1
  match vs,this with
  | v::ws,_=>exact ⟨v,ws,rfl⟩
 have hx:=rep_sl hr.head
 obtain ⟨A,cap,rfl,_⟩:=sl_inv hx
 have ht:Reps V rest ws:=hr.tail
 cases A with
 | none=>exact h0 cap V _ hH hG (.cons (.pure _ _ (.lit _)) ht)
 | some a=>exact h1 a cap V _ hH hG (.cons (.pure _ _ (.lit _)) ht)
theorem Sub.emptyL (sz:Nat) (A:Option Addr) (cap:Nat):Sub (.lit (.slice A 0 cap)) (.sl sz false []):=fun V v h=>by
 rw [rep_lit h]
 exact .pure _ _ (.sl sz false [] A cap 0 0 (fun _ _=>undef) (fun h=>absurd rfl h) (fun h=>absurd rfl h) (Nat.zero_le _) (fun h=>by cases h) (by simp) (fun k j hk=>absurd hk (by simp)) (fun k j hk=>absurd hk (by simp)) (fun k j hk=>absurd hk (by simp)))
end Go.Am


namespace Go.Am
open Go
mutual
theorem ren_low {σ:Nat→Nat} {p:Nat} (h:∀ i,i<p→σ i=i):∀ x:AV,x.idsLt p=true→x.ren σ=x
 | .lit v,_=>rfl
 | .ptr id off,hx=>by
  simp only [AV.idsLt,Nat.blt_eq] at hx
  simp only [AV.ren,h id hx]
 | .apt id g k j,hx=>by
  simp only [AV.idsLt,Nat.blt_eq] at hx
  simp only [AV.ren,h id hx]
 | .imm cs,_=>rfl
 | .sl sz t xs,_=>rfl
 | .own id g off len,hx=>by
  simp only [AV.idsLt,Nat.blt_eq] at hx
  simp only [AV.ren,h id hx]
 | .mp id,hx=>by
  simp only [AV.idsLt,Nat.blt_eq] at hx
  simp only [AV.ren,h id hx]
 | .md es,_=>rfl
 | .yl id,hx=>by
  simp only [AV.idsLt,Nat.blt_eq] at hx
  simp only [AV.ren,h id hx]
 | .fn f us bs,hx=>by
  simp only [AV.idsLt,Bool.and_eq_true] at hx
  simp only [AV.ren,renL_low h us hx.1,renL_low h bs hx.2]
 | .ifc t x,hx=>by
  simp only [AV.idsLt] at hx
  simp only [AV.ren,ren_low h x hx]
 | .agg cs,hx=>by
  simp only [AV.idsLt] at hx
  simp only [AV.ren,renL_low h cs hx]
 | .tup cs,hx=>by
  simp only [AV.idsLt] at hx
  simp only [AV.ren,renL_low h cs hx]
 | .dead,_=>rfl
theorem renL_low {σ:Nat→Nat} {p:Nat} (h:∀ i,i<p→σ i=i):∀ xs:List AV,AV.idsLtL p xs=true→AV.renL σ xs=xs
 | [],_=>rfl
 | x::xs,hx=>by
  simp only [AV.idsLtL,Bool.and_eq_true] at hx
  simp only [AV.renL,ren_low h x hx.1,renL_low h xs hx.2]
end
mutual
theorem idsLt_mono {p q:Nat} (h:p≤q):∀ x:AV,x.idsLt p=true→x.idsLt q=true
 | .lit v,_=>rfl
 | .ptr id off,hx | .apt id _ _ _,hx | .own id _ _ _,hx | .mp id,hx | .yl id,hx=>by
  simp only [AV.idsLt,Nat.blt_eq] at *
  omega
 | .imm cs,_=>rfl
 | .sl sz t xs,_=>rfl
 | .md es,_=>rfl
 | .fn f us bs,hx=>by
  simp only [AV.idsLt,Bool.and_eq_true] at *
  exact ⟨idsLtL_mono h us hx.1,idsLtL_mono h bs hx.2⟩
 | .ifc t x,hx=>by
  simp only [AV.idsLt] at *
  exact idsLt_mono h x hx
 | .agg cs,hx | .tup cs,hx=>by
  simp only [AV.idsLt] at *
  exact idsLtL_mono h cs hx
 | .dead,_=>rfl
theorem idsLtL_mono {p q:Nat} (h:p≤q):∀ xs:List AV,AV.idsLtL p xs=true→AV.idsLtL q xs=true
 | [],_=>rfl
 | x::xs,hx=>by
  simp only [AV.idsLtL,Bool.and_eq_true] at *
  exact ⟨idsLt_mono h x hx.1,idsLtL_mono h xs hx.2⟩
end
theorem renO_low {σ:Nat→Nat} {p:Nat} (h:∀ i,i<p→σ i=i) (o:AObj) (ho:o.idsLt p):o.ren σ=o:=by
 cases o with
 | box cs=>simp only [AObj.ren,renL_low h cs ho]
 | arr g sz fz xs =>
  simp only [AObj.ren]
  have:xs.map (AV.renL σ)=xs:=by
   conv=>rhs; rw [← List.map_id xs]
   exact List.map_congr_left fun x hx=>renL_low h x (ho x hx)
  rw [this]
 | map es =>
  simp only [AObj.ren]
  have:es.map (fun e=>(e.1,e.2.ren σ))=es:=by
   conv=>rhs; rw [← List.map_id es]
   exact List.map_congr_left fun e he=>by rw [ren_low h e.2 (ho e he)]; rfl
  rw [this]
 | rng st q env ps us bd=>simp only [AObj.ren,renL_low h env ho]
 | dfd=>rfl
 | gone=>rfl
def swap2 (p i:Nat):Nat:=if i=p then p+1 else if i=p+1 then p else i
theorem swap2_low {p i:Nat} (h:i<p):swap2 p i=i:=by unfold swap2; rw [if_neg (by omega),if_neg (by omega)]
theorem two_swap {G:Nat→Option (List AV)} {V0 V:View} {K:List AObj} {oA oB:AObj} {envA envB:List AV} {a:Act} (hs:Step V0 V) (hn:V0.H.length≤K.length) (hG:HeapRep G V) (hH:V.H=K++[oB,oA]) (hK:∀ o∈K,o.idsLt K.length) (hA:oA.idsLt K.length) (hB:oB.idsLt K.length)
 (he:EnvOk V envB a) (hr:AV.renL (swap2 K.length) envA=envB) (hi:AV.idsLtL (K.length+2) envA=true):∃ V',V'.w=V.w∧Step V0 V'∧HeapRep G V'∧V'.H=K++[oA,oB]∧EnvOk V' envA a:=by
 have hlen:V.H.length=K.length+2:=by rw [hH]; simp
 have hlow:∀ i,i<K.length→swap2 K.length i=i:=fun i h=>swap2_low h
 have low:∀ {o:AObj} {p q:Nat},p≤q→o.idsLt p→o.idsLt q:=fun {o p q} hpq h=>by
  have key:∀ x:AV,x.idsLt p=true→x.idsLt q=true:=fun x hx=>idsLt_mono hpq x hx
  have keyL:∀ xs:List AV,AV.idsLtL p xs=true→AV.idsLtL q xs=true:=fun xs hx=>idsLtL_mono hpq xs hx
  cases o with
  | box cs=>exact keyL cs h
  | arr g sz fz xs=>exact fun x hx=>keyL x (h x hx)
  | map es=>exact fun e he=>key e.2 (h e he)
  | rng st r env ps us bd=>exact keyL env h
  | dfd=>trivial
  | gone=>trivial
 have lk:Lk { V with H:=K++[oA,oB],ρ:=fun i=>V.ρ (swap2 K.length i) } V (swap2 K.length):=by
  refine ⟨rfl,fun _=>Iff.rfl,fun _ _=>rfl,fun i o ho=>?_⟩
  rw [hH]
  have ho:(K++[oA,oB])[i]? = some o:=ho
  rcases Nat.lt_trichotomy i K.length with h | h | h
  · rw [List.getElem?_append_left h] at ho
    rw [hlow i h,List.getElem?_append_left h,renO_low hlow o (hK o (List.mem_of_getElem? ho))]
    exact ho
  · subst h
    rw [List.getElem?_append_right (Nat.le_refl _)] at ho
    simp only [Nat.sub_self,List.getElem?_cons_zero,Option.some.injEq] at ho
    subst ho
    have:swap2 K.length K.length=K.length+1:=by unfold swap2; rw [if_pos rfl]
    rw [this,List.getElem?_append_right (by omega),renO_low hlow oA hA]
    simp
  · have h1:i=K.length+1:=by
     have:=(List.getElem?_eq_some_iff.1 ho).1
     simp at this
     omega
    subst h1
    rw [List.getElem?_append_right (by omega)] at ho
    simp only [Nat.add_sub_cancel_left,List.getElem?_cons_succ,List.getElem?_cons_zero,Option.some.injEq] at ho
    subst ho
    have:swap2 K.length (K.length+1)=K.length:=by unfold swap2; rw [if_neg (by omega),if_pos rfl]
    rw [this,List.getElem?_append_right (Nat.le_refl _),renO_low hlow oB hB]
    simp
 have hl2:(K++[oA,oB]).length=K.length+2:=by simp
 refine ⟨{ V with H:=K++[oA,oB],ρ:=fun i=>V.ρ (swap2 K.length i) },rfl,?_,HeapRep.bwd lk hG (fun i o ho=>?_) (fun i j hi hj e=>?_),rfl,Reps.bwd lk ?_ ?_⟩
 · refine ⟨hs.os,hs.tape,hs.output,hs.size,hs.drawn,hs.keep,hs.data,by show _≤(K++[oA,oB]).length; omega,fun id hid=>?_,fun id hid=>?_⟩
   · have hid:id<K.length+2:=by rw [← hl2]; exact hid
     show (id<V0.H.length∧V.ρ (swap2 K.length id)=V0.ρ id)∨_≤V.ρ (swap2 K.length id)
     by_cases h:id<K.length
     · rw [hlow id h]; exact hs.fresh id (by omega)
     · right
       have h7:K.length≤swap2 K.length id∧swap2 K.length id<K.length+2:=by unfold swap2; split<;>(try split)<;>omega
       rcases hs.fresh (swap2 K.length id) (by omega) with ⟨h1,_⟩ | h1
       · omega
       · exact h1
   · have h:=hs.obj id hid
     have hk:id<K.length:=by omega
     unfold ObjStep at h ⊢
     have e1:V.H[id]? = K[id]? := by rw [hH,List.getElem?_append_left hk]
     have e2:(K++[oA,oB])[id]? = K[id]? := List.getElem?_append_left hk
     show match V0.H[id]?,(K++[oA,oB])[id]? with | _,_=>_
     rw [e1] at h
     rw [e2]
     simp only [hlow id hk]
     exact h
 · show o.idsLt (K++[oA,oB]).length
   rw [hl2]
   have ho:(K++[oA,oB])[i]? = some o:=ho
   have hm:=List.mem_of_getElem? ho
   rcases List.mem_append.1 hm with h | h
   · exact low (by omega) (hK o h)
   · simp only [List.mem_cons,List.not_mem_nil,or_false] at h
     rcases h with rfl | rfl
     · exact low (by omega) hA
     · exact low (by omega) hB
 · unfold swap2 at e
   repeat' split at e
   all_goals omega
 · show AV.idsLtL (K++[oA,oB]).length envA=true
   rw [hl2]; exact hi
 · rw [hr]; exact he
end Go.Am


namespace Go.Am
open Go
end Go.Am


namespace Go.Am
open Go
section
variable {P:Program} {G:Nat→Option (List AV)}
end
end Go.Am
