import Derived.Test.YtihbnnkcemjflaaGreatDoorG5
import Derived.RangeFuncRecord
set_option maxRecDepth 100000
set_option linter.unusedSimpArgs false
set_option linter.unusedVariables false

namespace Go.Am
open Go
def rangeEx (st:LoopState) (pend:Option Code):Option AEx :=
 if st = .busy then none else match pend with
 | none=>some .normal
 | some .ret=>some .ret
 | some (.exit i)=>some (.exit i)
 | some (.goto l)=>some (.goto l)
 | _=>none
def rangeA (P:Program) (G:Nat→Option (List AV)) (r:Option Nat) (g:Operand) (ts:Array Tmp) (x y:Code) (s:St) (orc:List Orc):Option (AEx × St × List Orc × List Prop) :=
 match r,orc with
 | none,.range dead _ _ _ _ _::orc1=>match funTarget (evA G s.env g) with
  | some (f,aZ,bs)=>if funcOk P f=true then
   (match enterA P G (s.H++[.dfd]++[.rng .ready none (deaden s.env dead) ts x y]) f (aZ++[.yl (s.H.length+1)]++bs) orc1 with
   | some (_,.ret _,H2,orc2,qs)=>match H2[s.H.length+1]? with
    | some (.rng st pend _ _ _ _)=>match rangeEx st pend with
     | some ex=>some (ex,{ env:=s.env,H:=H2.set (s.H.length+1) .gone,defs:=addMark s.H.length s.defs },orc2,qs)
     | none=>none
    | _=>none
   | _=>none) else none
  | none=>none
 | _,_=>none
def deferA (G:Nat→Option (List AV)) (env:List AV) (c:Call):Option ADef:=match c.callee with
 | .value g=>match funTarget (evA G env g) with
  | some (f,aZ,bs)=>some (.call f (aZ++c.args.toList.map (evA G env)++bs))
  | none=>none
 | _=>none
def runD (P:Program) (G:Nat→Option (List AV)) (r:Option Nat) (ops:Array Oper):Nat→List Oper→List AV→List AObj→List ADef→List Orc→Option (AEx × List AV × List AObj × List ADef × List Orc × List Prop)
 | _,[],env,H,ds,orc=>some (.normal,env,H,ds,orc,[])
 | i,o::os,env,H,ds,orc=>match o.op,o.guard,o.dst,r with
  | .defer c,none,none,none=>match deferA G env c with
   | some d=>runD P G r ops (i+1) os env H (d::ds) orc
   | none=>none
  | _,_,_,_=>match stepA P G ops (guards ops i) env H o orc with
   | some (_,.ret x,H',orc',ps)=>match runD P G r ops (i+1) os (putA env o.dst x) H' ds orc' with
    | some (ex,env',H'',ds',orc'',qs)=>some (ex,env',H'',ds',orc'',ps++qs)
    | none=>none
   | some (_,.pan x,H',orc',ps)=>some (.pan x,env,H',ds,orc',ps)
   | none=>none
section
variable {P:Program} {G:Nat→Option (List AV)} {r:Option Nat} {ops:Array Oper}
theorem deferA_sound {V:View} {a:Act} {env:List AV} (hG:HeapRep G V) (he:EnvOk V env a) {c:Call} {d:ADef} (h:deferA G env c=some d) (t:TypeId) :
 ∃ dd,(resolve a.eval c t).run P V.w = .ok dd V.w∧DefRep V d dd:=by
 unfold deferA at h
 split at h
 · rename_i g hc
   split at h
   · rename_i f aZ bs ht
     cases h
     obtain ⟨us,vs,hu,h1,h2⟩:=funTarget_sound ht (evA_sound (a:=a) hG fun t _=>he.get t)
     have h3:Reps V (c.args.toList.map (evA G env)) (c.args.toList.map a.eval):=reps_map fun y _=>evA_sound hG fun t _=>he.get t
     refine ⟨{ target:=.fn (.func f) vs.toArray,args:=us.toArray++c.args.map a.eval },?_,vs.toArray,rfl,?_⟩
     · simp only [resolve,hc,hu,Deferred.ofValue]
       rfl
     · have:=(h1.append h3).append h2
       simpa using this
   · cases h
 · cases h
theorem runD_sound {Q:Exit→Act→World→Prop}:∀ {os:List Oper} {r:Option Nat} {i:Nat} {env:List AV} {H:List AObj} {ds:List ADef} {orc:List Orc} {ex:AEx} {env':List AV} {H':List AObj} {ds':List ADef} {orc':List Orc} {ps:List Prop},
 runD P G r ops i os env H ds orc=some (ex,env',H',ds',orc',ps)→AllP ps→ops.toList.drop i=os→∀ {V:View} {a:Act},HeapRep G V→V.H=H→EnvOk V env a→DefsRep V ds a.defers →
 (ex = .normal→∀ V' a',Step V V'→HeapRep G V'→V'.H=H'→EnvOk V' env' a'→DefsRep V' ds' a'.defers→Q .normal a' V'.w) →
 (∀ x,ex = .pan x→∀ V' a' v,Step V V'→HeapRep G V'→V'.H=H'→EnvOk V' env' a'→DefsRep V' ds' a'.defers→Rep V' x v→Q (.panic [{ v:=v,recovered:=false }]) a' V'.w) →
 wpOpsIn (fz r) 0 P ops Q ((List.range ops.size).drop i) a V.w
 | [],r,i,env,H,ds,orc,ex,env',H',ds',orc',ps,h,hps,hos,V,a,hG,hH,he,hd,n1,n2=>by
  have hle:ops.size≤i:=by simpa using hos
  rw [List.drop_eq_nil_of_le (by simpa using hle)]
  simp only [runD,Option.some.injEq,Prod.mk.injEq] at h
  obtain ⟨rfl,rfl,rfl,rfl,_,_⟩:=h
  exact n1 rfl V a (Step.refl V) hG hH he hd
 | o::os,r,i,env,H,ds,orc,ex,env',H',ds',orc',ps,h,hps,hos,V,a,hG,hH,he,hd,n1,n2=>by
  have hlt:i<ops.size:=by
   rcases Nat.lt_or_ge i ops.size with h | h
   · exact h
   · rw [List.drop_eq_nil_of_le (by simpa using h)] at hos; cases hos
  have hlt':i<ops.toList.length:=by simpa using hlt
  rw [List.drop_eq_getElem_cons hlt'] at hos
  injection hos with ho hos'
  have ho':ops[i]? = some o:=by rw [← ho]; simp [hlt]
  have hr:(List.range ops.size).drop i=i::(List.range ops.size).drop (i+1):=by
   rw [List.drop_eq_getElem_cons (by simpa using hlt)]; simp
  rw [hr,wpOpsIn_cons]
  have key:=fun {k:Kind} {out:AOut} {H1:List AObj} {orc1:List Orc} {qs:List Prop} (hst:stepA P G ops (guards ops i) env H o orc=some (k,out,H1,orc1,qs)) (hq:AllP qs)=>stepA_sound (r:=r) (a:=a) ho' hst hq hG (fun t _=>he.get t) (.inl hH)
  unfold runD at h
  split at h
  · rename_i c hop hgd hdst
    split at h
    · rename_i d hdf
      obtain ⟨dd,k1,k2⟩:=deferA_sound (P:=P) hG he hdf o.type
      unfold wpOpIn
      rw [ho']
      have hw:Region.wanted o (yielded ops a.tmps)=true:=by unfold Region.wanted; rw [hgd]
      simp only [hw,if_true]
      refine ⟨fun _ _=>trivial,?_⟩
      have hrun:(execOp a.eval o).run P V.w = .ok (.defer dd) V.w:=by
       rw [execOp,hop]
       simp only [Sem.run_bind,k1,Result.andThen,Sem.run_pure]
      show o.uponIn _ _ P a _ Q ((Oper.semAt none a.eval o).run P V.w)
      rw [Oper.semAt_none,hrun,Oper.uponIn_defer,hdst]
      exact runD_sound h hps hos' (a:={ a with defers:=dd::a.defers }) hG hH he (.cons k2 hd) n1 n2
    · cases h
  · split at h
    · rename_i k x H1 orc1 qs hst
      split at h
      · rename_i ex1 env1 H2 ds1 orc2 rs hrec
        cases h
        obtain ⟨hq,hrs⟩:=allP_append.1 hps
        obtain ⟨h1,h2⟩:=key hst hq
        refine h1 _ Q (fun V' v x' hx hs hG' hH' hrep=>?_) (fun V' v x' hx=>by cases hx)
        cases hx
        have hH1:V'.H=H1:=by
         rw [hH']
         split
         · rename_i hk; rw [hH,h2 (by rw [hk]; simp)]
         · rfl
        have he':=(he.step hs).put o.dst hrep
        exact runD_sound hrec hrs hos' hG' hH1 he' (by rw [put_def]; exact hd.step hs)
         (fun hex V2 a2 s2 g2 hh2 e2 d2=>n1 hex V2 a2 (hs.trans s2) g2 hh2 e2 d2)
         (fun y hex V2 a2 v2 s2 g2 hh2 e2 d2=>n2 y hex V2 a2 v2 (hs.trans s2) g2 hh2 e2 d2)
      · cases h
    · rename_i k x H1 orc1 qs hst
      cases h
      obtain ⟨h1,h2⟩:=key hst hps
      refine h1 _ Q (fun V' v x' hx=>by cases hx) (fun V' v x' hx hs hG' hH' hrep=>?_)
      cases hx
      have hH1:V'.H=H':=by
       rw [hH']
       split
       · rename_i hk; rw [hH,h2 (by rw [hk]; simp)]
       · rfl
      exact n2 x rfl V' a v hs hG' hH1 (he.step hs) (hd.step hs) hrep
    · cases h
end
def blur:List Oper→List AV→List AV
 | [],env=>env
 | o::os,env=>blur os (putA env o.dst .dead)
def effBefore (ops:Array Oper) (tr:List Tr) (b:Nat):Bool:=(List.range ops.size).all fun j=>!((tr.getD j default).k == .eff) || b.testBit j
def panAt:List Orc→Option Nat
 | .at_ p::_=>some p
 | _=>none
def panTail:List Orc→List Orc
 | .at_ _::t=>t
 | t=>t
def regionA (P:Program) (G:Nat→Option (List AV)) (ops:Array Oper) (s:St) (orc:List Orc):Option (AEx × St × List Orc × List Prop) :=
 match runTr P G ops (bitsL ops.toList []) (panAt orc) 0 ops.toList s.env s.H (panTail orc) with
 | some (tr,env',H',pn,orc',ps)=>if P.follows .mixedOrders=true∧checkAll ops tr (bitsL ops.toList []) 0 ops.toList=true then
  (match panAt orc,pn with
  | none,_=>some (.normal,{ s with env:=env',H:=H' },orc',ps)
  | some q,some (x,H1)=>if Nat.blt q ops.size=true∧isBehind (bitsL ops.toList []) (some q) q=false∧effBefore ops tr ((bitsL ops.toList []).getD q 0)=true then
   some (.pan x,{ s with env:=blur ops.toList s.env,H:=H1 },orc',ps) else none
  | _,_=>none) else none
 | none=>none
theorem blur_length:∀ (os:List Oper) (env:List AV),(blur os env).length=env.length
 | [],_=>rfl
 | o::os,env=>by rw [blur,blur_length os,putA_length]
theorem blur_get:∀ (os:List Oper) (env:List AV) (t:Nat),(blur os env).getD t .dead = .dead∨((blur os env).getD t .dead=env.getD t .dead∧∀ o∈os,o.dst≠some t)
 | [],_,_=>.inr ⟨rfl,by simp⟩
 | o::os,env,t=>by
  rcases blur_get os (putA env o.dst .dead) t with h | ⟨h1,h2⟩
  · exact .inl h
  · by_cases hd:o.dst=some t
    · left
      show (blur os (putA env o.dst .dead)).getD t .dead = .dead
      rw [h1,hd]
      show (env.set t .dead).getD t .dead = .dead
      by_cases hl:t<env.length
      · exact getD_set_self' hl
      · rw [List.getD_eq_getElem?_getD,List.getElem?_eq_none (by rw [List.length_set]; omega)]; rfl
    · refine .inr ⟨?_,fun o' ho'=>?_⟩
      · show (blur os (putA env o.dst .dead)).getD t .dead=_
        rw [h1,putA_getD hd]
      · rcases List.mem_cons.1 ho' with rfl | h
        · exact hd
        · exact h2 o' h
def seqOrc:List Orc→Option (List Nat × Nat × AEx × List AV × List AObj × List Orc)
 | .obj _ :: .loop dead n ex env H::orc'=>some (dead,n,ex,env,H,orc')
 | _=>none
def decD:List AV→List ADef
 | .ptr a _::xs=>.bag a::decD xs
 | .apt id a _ _::xs=>.mbag id a::decD xs
 | _=>[]
def bagPre (H:List AObj):AV→List ADef→Option (List ADef)
 | .ptr a _,ds=>match H[a]? with
  | some (.box _)=>some (.bag a::ds)
  | _=>none
 | .dead,ds=>some ds
 | _,_=>none
theorem bagPre_rep {V:View} {x:AV} {ds d1:List ADef} {l:List Deferred} (h:bagPre V.H x ds=some d1) (hd:DefsRep V ds l):DefsRep V d1 l:=by
 unfold bagPre at h
 split at h
 · split at h
   · rename_i hb
     cases h
     exact .bag (bs:=[]) ⟨_,hb,rfl⟩ .nil (fun _ h=>by cases h) hd
   · cases h
 · cases h; exact hd
 · cases h
def runC (P:Program) (G:Nat→Option (List AV)) (r:Option Nat) (n0:Nat):Code→St→List Orc→Option (AEx × St × List Orc × List Prop)
 | .skip,s,orc=>some (.normal,s,orc,[])
 | .label _,s,orc=>some (.normal,s,orc,[])
 | .exit id,s,orc=>some (.exit id,s,orc,[])
 | .goto l,s,orc=>some (.goto l,s,orc,[])
 | .ret,s,orc=>some (.ret,s,orc,[])
 | .region _ ops false,s,orc=>match runD P G r ops 0 ops.toList s.env s.H s.defs orc with
  | some (ex,env,H,ds,orc',ps)=>some (ex,{ env:=env,H:=H,defs:=ds },orc',ps)
  | none=>none
 | .region i ops true,s,orc=>match orc with
  | .loop dead n ex env H::orc'=>match weakA n0 dead n s with
   | some (s2,ps)=>some (ex,{ env:=env,H:=H,defs:=s2.defs },orc',RunC P G r n0 (.region i ops true) s2 ex { env:=env,H:=H,defs:=s2.defs }::ps)
   | none=>none
  | _=>regionA P G ops s orc
 | .seq x y,s,orc=>match seqOrc orc with
  | some (dead,n,ex,env,H,orc')=>match weakA n0 dead n s with
   | some (s2,ps)=>some (ex,{ env:=env,H:=H,defs:=s2.defs },orc',RunC P G r n0 (.seq x y) s2 ex { env:=env,H:=H,defs:=s2.defs }::ps)
   | none=>none
  | none=>match runC P G r n0 x s orc with
   | some (.normal,s1,orc1,ps)=>match runC P G r n0 y s1 orc1 with
    | some (ex,s2,orc2,qs)=>some (ex,s2,orc2,ps++qs)
    | none=>none
   | some (ex,s1,orc1,ps)=>some (ex,s1,orc1,ps)
   | none=>none
 | .cond c x y,s,orc=>match evA G s.env c,orc with
  | .lit (.bool e),.br true::orc'=>match runC P G r n0 x s orc' with
   | some (ex,s1,orc1,ps)=>some (ex,s1,orc1,(e=true)::ps)
   | none=>none
  | .lit (.bool e),.br false::orc'=>match runC P G r n0 y s orc' with
   | some (ex,s1,orc1,ps)=>some (ex,s1,orc1,(e=false)::ps)
   | none=>none
  | _,_=>none
 | .block id c,s,orc=>match runC P G r n0 c s orc with
  | some (.exit j,s1,orc1,ps)=>some (if j=id then .normal else .exit j,s1,orc1,ps)
  | some (ex,s1,orc1,ps)=>some (ex,s1,orc1,ps)
  | none=>none
 | .loop c,s,orc=>match orc with
  | .loop dead n ex env H::orc'=>match weakA n0 dead n s with
   | some (s2,ps)=>some (ex,{ env:=env,H:=H,defs:=s2.defs },orc',RunL P G r n0 c s2 ex { env:=env,H:=H,defs:=s2.defs }::ps)
   | none=>none
  | .av (.tup [x,.agg ys]) :: .loop dead n ex env H::orc'=>match weakA n0 dead n s with
   | some (s2,ps)=>match bagPre s2.H x s2.defs with
    | some d1=>some (ex,{ env:=env,H:=H,defs:=decD ys },orc',RunL P G r n0 c { s2 with defs:=d1 } ex { env:=env,H:=H,defs:=decD ys }::ps)
    | none=>none
   | none=>none
  | _=>none
 | .rangeFunc g ts x y,s,orc=>rangeA P G r g ts x y s orc
 | .scope c,s,orc=>match runC P G r n0 c s orc with
  | some (.goto _,_,_,_)=>none
  | x=>x
 | .refuse _,_,_=>none
section
variable {P:Program} {G:Nat→Option (List AV)} {r:Option Nat} {n0:Nat}
theorem step_gone {V:View} (hG:HeapRep G V) {id:Nat} {o:AObj} {w':World} (hid:V.H[id]? = some o) (hop:o.open_=true) (hh:∀ b,b≠V.ρ id→w'.heap[b]? = V.w.heap[b]?) (hs:w'.heap.size=V.w.heap.size) (h1:w'.os=V.w.os) (h2:w'.tape=V.w.tape) (h3:w'.output=V.w.output) (hdr:V.w.drawn≤w'.drawn:=by first | exact Nat.le_refl _ | exact Nat.le_succ _ | (simp; done) | omega | assumption) :
 ∃ V':View,V'.w=w'∧V'.H=V.H.set id .gone∧V'.ρ=V.ρ∧Step V V'∧HeapRep G V':=by
 have hlt:=(List.getElem?_eq_some_iff.1 hid).1
 let V':View:={ w:=w',M:=V.M,H:=V.H.set id .gone,ρ:=V.ρ }
 have hM:=hG.mutb id _ hid hop
 have Hs:V'.H[id]? = some .gone:=by show (V.H.set id _)[id]? = _; rw [List.getElem?_set_self hlt]
 have Ho:∀ i,i≠id→V'.H[i]? = V.H[i]? := fun i hi=>by show (V.H.set id _)[i]? = _; rw [List.getElem?_set_ne (fun e=>hi e.symm)]
 have hl:V'.H.length=V.H.length:=by show (V.H.set id _).length=_; simp
 have ne:∀ i,i<V.H.length→i≠id→V.ρ i≠V.ρ id:=fun i hi hne e=>hne (hG.inj i id hi hlt e)
 have hst:Step V V':={
  os:=h1
  tape:=h2
  output:=h3
  size:=Nat.le_of_eq hs.symm
  drawn:=hdr
  keep:=fun b _ hn=>⟨hh b fun e=>hn id hlt e.symm,Iff.rfl⟩
  data:=fun b _ hn=>⟨hh b fun e=>hn (e ▸ hM),hn⟩
  hlen:=Nat.le_of_eq hl.symm
  fresh:=fun i hi=>.inl ⟨by rw [hl] at hi; exact hi,rfl⟩
  obj:=fun i hi=>by
   by_cases e:i=id
   · subst e
     unfold ObjStep
     rw [hid,Hs]
     cases o<;>first | rfl | trivial
   · exact .refl hi (Ho i e) rfl (hh _ (ne i hi e)) }
 refine ⟨V',rfl,rfl,rfl,hst,?_⟩
 exact {
  lt:=fun i hi=>by rw [hl] at hi; show V.ρ i<w'.heap.size; rw [hs]; exact hG.lt i hi
  obj:=fun i o ho=>by
   by_cases e:i=id
   · subst e; rw [Hs] at ho; cases ho; trivial
   · rw [Ho i e] at ho
     exact (hG.obj i o ho).step hst (hh _ (ne i (List.getElem?_eq_some_iff.1 ho).1 e))
  inj:=fun i j hi hj=>by rw [hl] at hi hj; exact hG.inj i j hi hj
  mutb:=fun i o ho hop'=>by
   by_cases e:i=id
   · subst e; rw [Hs] at ho; cases ho; cases hop'
   · rw [Ho i e] at ho; exact hG.mutb i o ho hop'
  glob:=hG.glob_step hst }
theorem addMark_rep {V V4:View} (hG:HeapRep G V) {id:Nat} (k1:KindOk AObj.isDfd V4 id) (k2:V4.ρ id=V.w.heap.size) (hs:Step V V4) {ds:List ADef} {l:List Deferred} (h:DefsRep V ds l) :
 DefsRep V4 (addMark id ds) ({ target:=.collected V.w.heap.size,args:=#[] }::l):=by
 have hm:∀ {ds},DefsRep V ds l→DefsRep V4 (.mark id::ds) ({ target:=.collected V.w.heap.size,args:=#[] }::l):=fun h=>.cons ⟨k1,by rw [k2]⟩ (h.step hs)
 cases h with
 | nil=>exact hm .nil
 | bag ha hn hb hr =>
  obtain ⟨o,ho,_⟩:=ha
  have hlt:=hG.lt _ (List.getElem?_eq_some_iff.1 ho).1
  have ha:KindOk AObj.isAnch V _:=⟨o,ho,by assumption⟩
  obtain ⟨q1,q2⟩:=anch_step hs ha
  rw [← k2]
  exact .mbag k1 q1 (by rw [q2,k2]; exact hlt) hn (fun b hm=>⟨(hb b hm).step hs ha,by rw [k2]; exact (hb b hm).2.1⟩) (hr.step hs)
 | mbag hi ha hlt hn hb hr=>exact hm (.mbag hi ha hlt hn hb hr)
 | cons h1 h2 =>
  rename_i x d xs ds
  cases x with
  | mark i=>exact hm (.cons h1 h2)
  | call f ys=>exact hm (.cons h1 h2)
  | bag a=>exact h1.elim
  | mbag i a=>exact h1.elim
theorem range_sound {g:Operand} {ts:Array Tmp} {x y:Code} {s s':St} {orc orc':List Orc} {ex:AEx} {ps:List Prop} (h:rangeA P G r g ts x y s orc=some (ex,s',orc',ps)) (hps:AllP ps):RunC P G r n0 (.rangeFunc g ts x y) s ex s':=by
 intro V0 V a h0 hs hG hok
 unfold rangeA at h
 split at h
 · rename_i dead _ _ _ _ _ orc1
   split at h
   · rename_i f aZ bs ht
     split at h
     · rename_i hok'
       split at h
       · rename_i k xr H2 orc2 qs hen
         split at h
         · rename_i st pend env3 ts3 x3 y3 hH2
           split at h
           · rename_i ex1 hex
             cases h
             refine wpIn_rangeFunc fun fnid _=>?_
             have hg:=evA_sound (a:=a) (env:=s.env) (y:=g) hG fun t _=>hok.env.get t
             obtain ⟨V1,a1,a2,a3,a4,a5⟩:=step_new hG (w':=V.w.alloc (.deferred (some []))) (obj:=.dfd) rfl rfl rfl rfl fun V' hw _=>by
              show V'.w.heap[V.w.heap.size]? = _
              rw [hw]; exact heap_push rfl
             have hsz1:V1.w.heap.size=V.w.heap.size+1:=by rw [a1]; simp
             obtain ⟨V2,b1,b2,b3,b4,b5⟩:=step_new a4 (w':=V1.w.alloc (.loop { state:=.ready,pending:=none,fn:=fnid,tmps:=a.tmps,params:=ts,assign:=x,body:=y,defers:=V.w.heap.size })) (obj:=.rng .ready none (deaden s.env dead) ts x y) rfl rfl rfl rfl fun V' hw hs'=>by
              refine ⟨fnid,a.tmps.toList,V.w.heap.size,by rw [hw]; exact heap_push rfl,?_⟩
              exact EnvOk.step hs' (deaden_ok (hok.env.step a3))
             have hl1:V1.H.length=s.H.length+1:=by rw [a2,hok.H]; simp
             rw [hl1,hsz1] at b5
             have hH1:V2.H=s.H++[.dfd]++[.rng .ready none (deaden s.env dead) ts x y]:=by rw [b2,a2,hok.H]
             have hrng:V2.H[s.H.length+1]? = some (.rng .ready none (deaden s.env dead) ts x y):=by rw [hH1]; simp
             have s02:Step V V2:=a3.trans b3
             obtain ⟨us,vs,hu,r1,r2⟩:=funTarget_sound ht hg
             have hyl:Rep V2 (.yl (s.H.length+1)) (.func (.yield (V.w.heap.size+1)) #[] #[]):=by
              rw [← b5]
              exact .yl _ ⟨_,hrng,rfl⟩
             have hx:Reps V2 (aZ++[.yl (s.H.length+1)]++bs) (us++[.func (.yield (V.w.heap.size+1)) #[] #[]]++vs):=((r1.step s02).append (.cons hyl .nil)).append (r2.step s02)
             obtain ⟨hc,hk⟩:=enter_sound hen hps b4 hx (.inl hH1)
             have hw2:V2.w=(V.w.alloc (.deferred (some []))).alloc (.loop { state:=.ready,pending:=none,fn:=fnid,tmps:=a.tmps,params:=ts,assign:=x,body:=y,defers:=V.w.heap.size }):=by rw [b1,a1]
             refine ⟨V.w.heap.size+1,[{ target:=.collected V.w.heap.size,args:=#[] }],V2.w,{ target:=.fn (.func f) vs.toArray,args:=us.toArray++#[Value.func (.yield (V.w.heap.size+1)) #[] #[]] },V2.w,f,(us++[Value.func (.yield (V.w.heap.size+1)) #[] #[]]++vs).toArray,V2.w,?_,?_,fun _ _=>trivial,?_,fun h=>(by cases h),?_⟩
             · rw [hw2]; exact run_enterLoop_outer fnid a.tmps ts x y
             · have hm:Array.map a.eval #[Operand.const (Value.func (.yield (V.w.heap.size+1)) #[] #[])]=#[Value.func (.yield (V.w.heap.size+1)) #[] #[]]:=by
                apply Array.ext'
                simp only [Array.toList_map,List.map_cons,List.map_nil,Act.eval]
               simp only [resolve,Deferred.ofValue,hu,hm]
               rfl
             · unfold funcOk at hok'
               split at hok'
               · rename_i fn hfn
                 simp only [Bool.and_eq_true,Bool.not_eq_true',beq_eq_false_iff_ne,ne_eq] at hok'
                 obtain ⟨c,hb⟩:=Option.isSome_iff_exists.1 hok'.1
                 simp [invoke,callFunc,hfn,hok'.2,hb]
               · cases hok'
             · refine hc.mono fun e w' he=>?_
               have hH2':(if k = .free then V2.H else H2)=H2:=by
                split
                · rename_i hf; rw [hH1,hk (by rw [hf]; simp)]
                · rfl
               rw [hH2'] at he
               obtain ⟨V3,rfl,c2,c3,c4,c5⟩:=he
               cases e with
               | returned v =>
                have hr3:V3.H[s.H.length+1]? = some (.rng st pend env3 ts3 x3 y3):=by rw [c4]; exact hH2
                have hρ:V3.ρ (s.H.length+1)=V.w.heap.size+1:=by
                 have:=c2.obj (s.H.length+1) (by rw [hH1]; simp)
                 unfold ObjStep at this
                 rw [hrng,hr3] at this
                 rw [this,b5]
                obtain ⟨fn3,vs3,D3,o1,o2⟩:=c3.obj _ _ hr3
                rw [hρ] at o1
                have hnb:st≠.busy:=by
                 unfold rangeEx at hex
                 split at hex
                 · cases hex
                 · assumption
                obtain ⟨V4,d1,d2,d3,d4,d5⟩:=step_gone c3 (w':=V3.w.putObj (V.w.heap.size+1) (.loop { state:=.exhausted,pending:=pend,fn:=fn3,tmps:=List.toArray vs3,params:=ts3,assign:=x3,body:=y3,defers:=D3 })) hr3 rfl
                 (fun b hb=>World.putObj_heap_other (by rw [hρ] at hb; exact hb)) World.putObj_size rfl rfl rfl
                have hend:=run_endLoop (P:=P) o1 hnb
                refine ⟨pend,V4.w,by rw [d1]; exact hend,?_⟩
                have okS:StOk V4 { env:=s.env,H:=H2.set (s.H.length+1) .gone,defs:=addMark s.H.length s.defs } { a with defers:=[{ target:=.collected V.w.heap.size,args:=#[] }]++a.defers }:=by
                 have s04:Step V V4:=s02.trans (c2.trans d4)
                 have hd:KindOk AObj.isDfd V2 s.H.length:=⟨.dfd,by rw [hH1]; simp,rfl⟩
                 obtain ⟨k1,k2⟩:=dfdOk_step (c2.trans d4) hd
                 have hρ1:V2.ρ s.H.length=V.w.heap.size:=by
                  have hd1:KindOk AObj.isDfd V1 s.H.length:=⟨.dfd,by rw [a2,hok.H]; simp,rfl⟩
                  rw [(dfdOk_step b3 hd1).2,← hok.H,a5]
                 exact ⟨hok.env.step s04,by rw [d2,c4],addMark_rep hG k1 (k2.trans hρ1) s04 hok.defs⟩
                have hst4:Step V0 V4:=hs.trans (s02.trans (c2.trans d4))
                unfold rangeEx at hex
                rw [if_neg hnb] at hex
                split at hex
                · cases hex
                  exact ⟨V4,rfl,hst4,d5,okS,trivial⟩
                · cases hex
                  exact Go.wpIn_ret ⟨V4,rfl,hst4,d5,okS,trivial⟩
                · cases hex
                  exact Go.wpIn_exit ⟨V4,rfl,hst4,d5,okS,rfl⟩
                · cases hex
                  exact Go.wpIn_goto ⟨V4,rfl,hst4,d5,okS,rfl⟩
                · cases hex
               | panicked ch=>exact c5.elim
               | outgrown=>exact c5.elim
           · cases h
         · cases h
       · cases h
     · cases h
   · cases h
 · cases h
theorem region_sound {id:Nat} {ops:Array Oper} {s s':St} {orc orc':List Orc} {ex:AEx} {ps:List Prop} (h:regionA P G ops s orc=some (ex,s',orc',ps)) (hps:AllP ps):RunC P G r n0 (.region id ops true) s ex s':=by
 intro V0 V a h0 hs hG hok
 unfold regionA at h
 split at h
 · rename_i tr env' H' pn orc1 qs hrun
   split at h
   · rename_i hc
     obtain ⟨hm,hc⟩:=hc
     have hq:qs=ps:=by
      split at h
      · cases h; rfl
      · split at h
        · cases h; rfl
        · cases h
      · cases h
     subst hq
     obtain ⟨hl,htr⟩:=runTr_sound hrun hps rfl (Nat.zero_le _)
     have htr:=htr [] s.env s.H rfl rfl ⟨fun _=>rfl,rfl⟩
     simp only [List.nil_append] at htr
     obtain ⟨t1,t2,t3,t4,t5⟩:=htr
     refine wpIn_region_any hm ?_
     obtain ⟨Vd,d1,d2,d3,d4,d5,d6⟩:=step_calm (V:=V) hG (w':={ V.w with drawn:=V.w.drawn+1 }) rfl rfl rfl rfl
     rw [← d1]
     have hS:∀ i,inS (Array.replicate ops.size false) i=false:=fun i=>by
      unfold inS
      simp only [Array.getD_eq_getD_getElem?,Array.getElem?_replicate]
      split<;>rfl
     have e0:envS ops tr (inS (Array.replicate ops.size false)) s.env ops.size=s.env:=by
      have h1:∀ m,envS ops tr (inS (Array.replicate ops.size false)) s.env m=s.env:=fun m=>by
       induction m with
       | zero=>rfl
       | succ m ih=>simp only [envS]; rw [if_neg (by rw [hS]; simp),ih]
      exact h1 _
     have h1:HeapIs tr (inS (Array.replicate ops.size false)) s.H ops.size s.H:=⟨fun id=>by
      rw [heapAt_past (i:=0) (Nat.zero_le _) fun j _ _ _ _=>hS j]; rfl,by rw [lenAt_past (i:=0) (Nat.zero_le _) fun j _ _ _ _=>hS j]; rfl⟩
     have inv:Inv G ops tr s.env s.H (panAt orc) a (Array.replicate ops.size false) Vd a:=⟨by simp,fun j o _ hj=>(by rw [hS] at hj; cases hj),d6,by rw [d2,hok.H]; exact h1,by rw [e0]; exact hok.env.step d5,rfl,fun q _=>hS q⟩
     split at h
     · rename_i hpa
       cases h
       refine any_sound (P:=P) (G:=G) (r:=r) (env:=s.env) (H:=s.H) (a0:=a) (x:=.dead) (H1:=[]) (by simpa using hl) (fun j hj hb hp=>t1 j (Nat.zero_le _) hj hb hp) hc t5
        (fun q hq=>by rw [hpa] at hq; cases hq) ops.size inv (by simp) (fun _ V' a' s' g' h' e' d'=>?_) (fun _ _ _ _ hp=>absurd hpa hp)
       exact ⟨V',rfl,hs.trans (d5.trans s'),g',⟨t4 ▸ e',h',d' ▸ hok.defs.step (d5.trans s')⟩,trivial⟩
     · rename_i q x H1 hpa
       split at h
       · rename_i hcq
         obtain ⟨c1,c2,c3⟩:=hcq
         have hqs:q<ops.size:=by simpa using c1
         cases h
         obtain ⟨x',H1',hpn,hpan⟩:=t3 q hpa (Nat.zero_le _) hqs (by rw [hpa]; exact c2)
         simp only [Option.some.injEq,Prod.mk.injEq] at hpn
         obtain ⟨rfl,rfl⟩:=hpn
         refine any_sound (P:=P) (G:=G) (r:=r) (env:=s.env) (H:=s.H) (a0:=a) (x:=x) (H1:=H1) (by simpa using hl) (fun j hj hb hp=>t1 j (Nat.zero_le _) hj hb hp) hc t5
          (fun q' hq'=>?_) ops.size inv (by simp) (fun hp=>by rw [hpa] at hp; cases hp) (fun V' a' v S _ s' g' h' e' d' hv=>?_)
         · rw [hpa] at hq'
           cases hq'
           refine ⟨hqs,hpan,fun j hj he=>?_,t2 q (Nat.zero_le _) hqs (.inr hpa)⟩
           unfold effBefore at c3
           have:=List.all_eq_true.1 c3 j (List.mem_range.2 hj)
           rw [he] at this
           simpa using this
         · refine ⟨V',rfl,hs.trans (d5.trans s'),g',⟨?_,h',d' ▸ hok.defs.step (d5.trans s')⟩,v,rfl,hv⟩
           refine ⟨by rw [blur_length]; have:=e'.1; rw [envS_length] at this; exact this,fun t ht=>?_⟩
           rcases blur_get ops.toList s.env t with hb | ⟨hb,hnw⟩
           · show Rep V' ((blur ops.toList s.env).getD t .dead) _
             rw [hb]; exact .dead _
           · show Rep V' ((blur ops.toList s.env).getD t .dead) _
             rw [hb]
             rw [blur_length] at ht
             have:=e'.2 t (by rw [envS_length]; exact ht)
             rwa [envS_past (i:=0) (Nat.zero_le _) fun j _ hj hd=>absurd hd (by
              have:=hnw ops[j] (by simp)
              rw [Array.getElem?_eq_getElem hj]
              exact this)] at this
       · cases h
     · cases h
   · cases h
 · cases h
theorem Ends.after {V0:View} {s1:St} {Q:Exit→Act→World→Prop} {K:Act→World→Prop} (hn:∀ V1 a1,Step V0 V1→HeapRep G V1→StOk V1 s1 a1→K a1 V1.w):∀ e a w,Ends G V0 .normal s1 e a w→Exit.then K Q e a w:=by
 intro e a w h
 obtain ⟨V1,rfl,h1,h2,h3,h4⟩:=h
 cases e<;>first | exact h4.elim | exact hn V1 a h1 h2 h3
theorem runC_sound:∀ (c:Code) {s s':St} {orc orc':List Orc} {ex:AEx} {ps:List Prop},runC P G r n0 c s orc=some (ex,s',orc',ps)→AllP ps→RunC P G r n0 c s ex s'
 | .skip,s,s',orc,orc',ex,ps,h,hps,V0,V,a,h0,hs,hG,hok=>by
  cases h
  exact Go.wpIn_skip ⟨V,rfl,hs,hG,hok,trivial⟩
 | .label l,s,s',orc,orc',ex,ps,h,hps,V0,V,a,h0,hs,hG,hok=>by
  cases h
  exact Go.wpIn_label ⟨V,rfl,hs,hG,hok,trivial⟩
 | .exit id,s,s',orc,orc',ex,ps,h,hps,V0,V,a,h0,hs,hG,hok=>by
  cases h
  exact Go.wpIn_exit ⟨V,rfl,hs,hG,hok,rfl⟩
 | .goto l,s,s',orc,orc',ex,ps,h,hps,V0,V,a,h0,hs,hG,hok=>by
  cases h
  exact Go.wpIn_goto ⟨V,rfl,hs,hG,hok,rfl⟩
 | .ret,s,s',orc,orc',ex,ps,h,hps,V0,V,a,h0,hs,hG,hok=>by
  cases h
  exact Go.wpIn_ret ⟨V,rfl,hs,hG,hok,trivial⟩
 | .region id ops false,s,s',orc,orc',ex,ps,h,hps,V0,V,a,h0,hs,hG,hok=>by
  simp only [runC] at h
  split at h
  · rename_i ex1 env H ds orc1 qs hrun
    cases h
    refine wpIn_region ?_
    have:=runD_sound (r:=r) (Q:=Ends G V0 ex { env:=env,H:=H,defs:=ds }) hrun hps rfl hG hok.H hok.env hok.defs
     (fun hex V' a' s' g' h' e' d'=>⟨V',rfl,hs.trans s',g',⟨e',h',d'⟩,by subst hex; trivial⟩)
     (fun x hex V' a' v s' g' h' e' d' hv=>⟨V',rfl,hs.trans s',g',⟨e',h',d'⟩,by subst hex; exact ⟨v,rfl,hv⟩⟩)
    simpa using this
  · cases h
 | .region id ops true,s,s',orc,orc',ex,ps,h,hps,V0,V,a,h0,hs,hG,hok=>by
  simp only [runC] at h
  split at h
  · rename_i dead n ex1 env H orc1
    split at h
    · rename_i s2 qs hw
      cases h
      obtain ⟨V2,k1,k2,k3,k4⟩:=weak_sound hw hps.2 h0 hs hG hok
      rw [← k1]
      exact hps.1 V0 V2 a h0 k2 k3 k4
    · cases h
  · exact region_sound h hps V0 V a h0 hs hG hok
 | .seq x y,s,s',orc,orc',ex,ps,h,hps,V0,V,a,h0,hs,hG,hok=>by
  simp only [runC] at h
  split at h
  · rename_i dead n ex1 env H orc1 hso
    split at h
    · rename_i s2 qs hw
      cases h
      obtain ⟨V2,k1,k2,k3,k4⟩:=weak_sound hw hps.2 h0 hs hG hok
      rw [← k1]
      exact hps.1 V0 V2 a h0 k2 k3 k4
    · cases h
  · split at h
    · rename_i s1 orc1 qs h1
      split at h
      · rename_i ex2 s2 orc2 rs h2
        cases h
        obtain ⟨hq,hr⟩:=allP_append.1 hps
        refine Go.wpIn_seq (Go.wpIn_mono (runC_sound x h1 hq V0 V a h0 hs hG hok) ?_)
        exact Ends.after fun V1 a1 s1 g1 k1=>runC_sound y h2 hr V0 V1 a1 h0 s1 g1 k1
      · cases h
    · rename_i ex1 s1 orc1 qs hex h1
      cases h
      refine Go.wpIn_seq (Go.wpIn_mono (runC_sound x h1 hps V0 V a h0 hs hG hok) ?_)
      intro e a1 w1 hE
      have hE':=hE
      obtain ⟨V1,rfl,k1,k2,k3,k4⟩:=hE'
      cases e<;>first | exact hE | (cases ex<;>first | exact k4.elim | exact (hex rfl).elim)
    · cases h
 | .cond c x y,s,s',orc,orc',ex,ps,h,hps,V0,V,a,h0,hs,hG,hok=>by
  simp only [runC] at h
  split at h
  · rename_i e orc1 hc
    split at h
    · rename_i ex1 s1 orc2 qs h1
      cases h
      obtain ⟨he,hq⟩:=hps
      subst he
      have hv:=evA_sound (a:=a) (env:=s.env) (y:=c) hG fun t _=>hok.env.get t
      rw [hc] at hv
      exact Go.wpIn_cond_true (rep_lit hv) (runC_sound x h1 hq V0 V a h0 hs hG hok)
    · cases h
  · rename_i e orc1 hc
    split at h
    · rename_i ex1 s1 orc2 qs h1
      cases h
      obtain ⟨he,hq⟩:=hps
      subst he
      have hv:=evA_sound (a:=a) (env:=s.env) (y:=c) hG fun t _=>hok.env.get t
      rw [hc] at hv
      exact Go.wpIn_cond_false (rep_lit hv) (runC_sound y h1 hq V0 V a h0 hs hG hok)
    · cases h
  · cases h
 | .block id c,s,s',orc,orc',ex,ps,h,hps,V0,V,a,h0,hs,hG,hok=>by
  simp only [runC] at h
  split at h
  · rename_i j s1 orc1 qs h1
    cases h
    refine Go.wpIn_block (Go.wpIn_mono (runC_sound c h1 hps V0 V a h0 hs hG hok) ?_)
    intro e a1 w1 hE
    obtain ⟨V1,rfl,k1,k2,k3,k4⟩:=hE
    cases e<;>first | exact k4.elim | skip
    rename_i j'
    have hj:j'=j:=k4
    subst hj
    simp only [Exit.inBlock]
    split
    · exact ⟨V1,rfl,k1,k2,k3,trivial⟩
    · exact ⟨V1,rfl,k1,k2,k3,rfl⟩
  · rename_i ex1 s1 orc1 qs hex h1
    cases h
    refine Go.wpIn_block (Go.wpIn_mono (runC_sound c h1 hps V0 V a h0 hs hG hok) ?_)
    intro e a1 w1 hE
    have hE':=hE
    obtain ⟨V1,rfl,k1,k2,k3,k4⟩:=hE'
    cases e<;>first | exact hE | (cases ex<;>first | exact k4.elim | exact (hex _ rfl).elim)
  · cases h
 | .loop c,s,s',orc,orc',ex,ps,h,hps,V0,V,a,h0,hs,hG,hok=>by
  simp only [runC] at h
  split at h
  · rename_i dead n ex1 env H orc1
    split at h
    · rename_i s2 qs hw
      cases h
      obtain ⟨V2,k1,k2,k3,k4⟩:=weak_sound hw hps.2 h0 hs hG hok
      rw [← k1]
      exact (hps.1 V0 V2 a h0 k2 k3 k4).wpIn
    · cases h
  · rename_i x ys dead n ex1 env H orc1
    split at h
    · rename_i s2 qs hw
      split at h
      · rename_i d1 hb
        cases h
        obtain ⟨V2,k1,k2,k3,k4⟩:=weak_sound hw hps.2 h0 hs hG hok
        rw [← k1]
        exact (hps.1 V0 V2 a h0 k2 k3 ⟨k4.env,k4.H,bagPre_rep (by rw [k4.H]; exact hb) k4.defs⟩).wpIn
      · cases h
    · cases h
  · cases h
 | .rangeFunc g ts x y,s,s',orc,orc',ex,ps,h,hps,V0,V,a,h0,hs,hG,hok=>range_sound h hps V0 V a h0 hs hG hok
 | .scope c,s,s',orc,orc',ex,ps,h,hps,V0,V,a,h0,hs,hG,hok=>by
  simp only [runC] at h
  split at h
  · cases h
  · rename_i hng
    refine wpIn_scope (runC_sound c h hps V0 V a h0 hs hG hok) ?_
    rintro l a1 w1 ⟨V1,_,_,_,_,k4⟩
    cases ex<;>first | exact k4.elim | exact hng _ _ _ _ h
 | .refuse _,_,_,_,_,_,_,h,_,_,_,_,_,_,_,_=>by cases h
end
end Go.Am
