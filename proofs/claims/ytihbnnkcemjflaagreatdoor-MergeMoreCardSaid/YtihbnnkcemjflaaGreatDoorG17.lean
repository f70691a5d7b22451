import Derived.Test.YtihbnnkcemjflaaGreatDoorG16
import Derived.Below
import Derived.KernelRfl
set_option maxRecDepth 100000
set_option linter.unusedSimpArgs false
set_option linter.unusedVariables false

namespace Go.Am
open Go
end Go.Am


namespace Go.Am
open Go Go.ChangeMaps
section
variable {P:Program} {G:Nat→Option (List AV)} {V:View}
theorem getD_some {α:Type} {l:List α} {i:Nat} (h:i<l.length) (d:α):l.getD i d=l[i]:=by
 rw [List.getD_eq_getElem?_getD,List.getElem?_eq_getElem h]; rfl
theorem set_at {w:World} {r b:Nat} {o:Obj} (h:b≠r):(setBlock w r o).heap[b]? = w.heap[b]? := by
 show (w.heap.setIfInBounds r o)[b]? = _
 rw [Array.getElem?_setIfInBounds_ne (Ne.symm h)]
theorem next_sound (hG:HeapRep G V) {id:Nat} {cur:Option (Value × AV)} {left:List (Value × AV)} (hH:V.H[id]? = some (.iter cur left)) (ty:TypeId) :
 (left=[]∧(Instr.next (.pointer (some ⟨V.ρ id,0,none⟩)) false ty).run P V.w = .ok (.tuple #[.bool false]) V.w) ∨
 ∃ (e:Value × AV) (left':List (Value × AV)) (v:Value) (V':View),left.Perm (e::left')∧(Instr.next (.pointer (some ⟨V.ρ id,0,none⟩)) false ty).run P V.w = .ok (.tuple #[.bool true,e.1,v]) V'.w ∧
  PRep V'.w V'.M e.2 v∧V'.H=V.H.set id (.iter (some e) left')∧V'.ρ=V.ρ∧Step V V'∧HeapRep G V':=by
 obtain ⟨bm,since,seen,c0,ents,clock,es,idx,h1,k⟩:=hG.obj id _ hH
 have hlen:ents.length=es.length:=by simpa using congrArg List.length k.key
 rcases run_next_at (P:=P) V.w ty (V.ρ id) bm since c0 seen ents.toArray clock h1 k.map (by simpa using k.old) k.sn with ⟨h0,hrun⟩ | ⟨en,hen,w1,hw1,hrun⟩
 · left
   refine ⟨?_,hrun⟩
   have hidx:idx=[]:=by
    cases hi:idx with
    | nil=>rfl
    | cons i t =>
     exfalso
     obtain ⟨hl,hs⟩:=(k.ix i).1 (by rw [hi]; exact List.mem_cons_self)
     have:ents.getD i default∈(leftOf ents.toArray seen).toList:=by
      unfold leftOf
      rw [Array.toList_filter]
      exact List.mem_filter.2 ⟨by rw [getD_some hl]; exact List.getElem_mem hl,by rw [hs]; rfl⟩
     have h0':(leftOf ents.toArray seen).toList=[]:=List.eq_nil_of_length_eq_zero (by simpa using h0)
     rw [h0'] at this
     cases this
   have:=k.lf
   rw [hidx] at this
   exact this.nil_eq.symm
 · right
   have hen':en∈ents∧seen.contains en.born=false:=by
    unfold leftOf at hen
    rw [Array.toList_filter] at hen
    obtain ⟨a,b⟩:=List.mem_filter.1 hen
    exact ⟨a,by simpa using b⟩
   obtain ⟨i,hi,hie⟩:=List.getElem_of_mem hen'.1
   have hid:ents.getD i default=en:=by rw [getD_some hi]; exact hie
   have himem:i∈idx:=(k.ix i).2 ⟨hi,by rw [hid]; exact hen'.2⟩
   have hie':i<es.length:=by omega
   let e:=es.getD i (undef,.dead)
   have hkey:en.key=e.1:=by
    have:=congrArg (fun l=>l[i]?) k.key
    simp only [List.getElem?_map,List.getElem?_eq_getElem hi,List.getElem?_eq_getElem hie',Option.map_some,Option.some.injEq] at this
    show en.key=(es.getD i (undef,.dead)).1
    rw [getD_some hie',← hie]; exact this
   let o':Obj:=.mapIter (some bm) since (seen.push en.born) clock
   have hw1h:w1.heap=V.w.heap:=by rcases hw1 with rfl | rfl<;>rfl
   have hlt:=hG.lt id (List.getElem?_eq_some_iff.1 hH).1
   have hbr:bm≠V.ρ id:=fun e=>k.data (e ▸ hG.mutb id _ hH rfl)
   have hsame:∀ b,b≠V.ρ id→(setBlock w1 (V.ρ id) o').heap[b]? = V.w.heap[b]? := fun b hb=>by rw [set_at hb,hw1h]
   obtain ⟨V',v1,v2,v3,v4,v5⟩:=step_one (obj':=.iter (some e) ((idx.erase i).map fun i=>es.getD i (undef,.dead))) hG hH rfl (fun V' h er=>by unfold ObjStep; rw [hH,h]; exact er) (w':=setBlock w1 (V.ρ id) o')
    hsame (by show (w1.heap.setIfInBounds _ _).size=_; rw [Array.size_setIfInBounds,hw1h]) (by rcases hw1 with rfl | rfl<;>rfl) (by rcases hw1 with rfl | rfl<;>rfl) (by rcases hw1 with rfl | rfl<;>rfl)
    (fun V' hw hst=>⟨bm,since,seen.push en.born,clock,ents,clock,es,idx.erase i,by rw [hw]; show (w1.heap.setIfInBounds _ _)[_]? = _; rw [Array.getElem?_setIfInBounds_self_of_lt (by rw [hw1h]; exact hlt)],
     have kk:=hst.data bm (Array.getElem?_eq_some_iff.1 k.map).1 k.data
     { data:=kk.2
       map:=kk.1.trans k.map
       key:=k.key
       born:=k.born
       old:=k.old
       sn:=k.sc
       sc:=k.sc
       val:=fun j hj=>(k.val j hj).stepV hst
       nd:=k.nd.erase i
       ix:=fun j=>by
        rw [k.nd.mem_erase_iff,k.ix j]
        constructor
        · rintro ⟨hji,hj,hs⟩
          refine ⟨hj,?_⟩
          rw [Array.contains_push,hs,Bool.false_or,beq_eq_false_iff_ne]
          intro eb
          apply hji
          have hb:=k.born
          rw [List.nodup_iff_pairwise_ne,List.pairwise_iff_getElem] at hb
          have e1:(ents.map (·.born))[j]'(by simpa using hj)=(ents.map (·.born))[i]'(by simpa using hi):=by
           rw [List.getElem_map,List.getElem_map]
           rw [getD_some hj] at eb
           rw [hie]; exact eb
          rcases Nat.lt_trichotomy j i with h | h | h
          · exact absurd e1 (hb j i (by simpa using hj) (by simpa using hi) h)
          · exact h
          · exact absurd e1.symm (hb i j (by simpa using hi) (by simpa using hj) h)
        · rintro ⟨hj,hs⟩
          rw [Array.contains_push,Bool.or_eq_false_iff,beq_eq_false_iff_ne] at hs
          exact ⟨fun e=>hs.2 (by rw [e,hid]),hj,hs.1⟩
       lf:=.refl _
       cu:=fun e0 he=>by
        cases he
        exact ⟨rfl,i,seen,hi,by rw [hid],rfl⟩ }⟩)
    (by rcases hw1 with rfl | rfl
        · exact Nat.le_refl _
        · exact Nat.le_succ _)
   refine ⟨e,_,en.val,V',?_,?_,?_,v2,v3,v4,v5⟩
   · have p1:(idx.map fun i=>es.getD i (undef,.dead)).Perm ((i::idx.erase i).map fun i=>es.getD i (undef,.dead)):=(List.perm_cons_erase himem).map _
     exact k.lf.symm.trans p1
   · rw [hrun,v1,hkey]
   · have hv:=(k.val i hie').stepV v4
     have e2:atE es i=e.2:=by
      show (es.getD i (undef,.dead)).2=_; rfl
     have e3:atV ents i=en.val:=by
      show (ents.getD i default).val=_; rw [hid]
     rw [e2,e3] at hv
     exact hv
theorem loop_iter {r:Option Nat} {n0 m0 ta it id:Nat} {ops:Array Oper} {os:List Oper} {o1:Oper} {rest:Code} {ex:AEx} {Sg:Type} (S:Sg→St) (left:Sg→List (Value × AV)) (X:Sg→St)
 (hops:ops.toList=o1::os) (hop:o1.op = .next (.tmp it) false) (hgd:o1.guard=none) (hdst:o1.dst=some ta)
 (hit:∀ σ,(S σ).env.getD it .dead = .ptr id 0) (hob:∀ σ,∃ cur,(S σ).H[id]? = some (.iter cur (left σ)))
 (round:∀ σ e left',(left σ).Perm (e::left')→∃ σ' E1,left σ'=left' ∧
  runD P G r ops 1 os (putA (S σ).env (some ta) (.tup [.lit (.bool true),.lit e.1,e.2])) ((S σ).H.set id (.iter (some e) left')) (S σ).defs []=some (.normal,E1,(S σ).H.set id (.iter (some e) left'),(S σ).defs,[],[]) ∧
  PieceC P G r n0 rest ⟨E1,(S σ).H.set id (.iter (some e) left'),(S σ).defs⟩ (S σ'))
 (done:∀ σ,left σ=[]→∃ E1,runD P G r ops 1 os (putA (S σ).env (some ta) (.tup [.lit (.bool false)])) (S σ).H (S σ).defs []=some (.normal,E1,(S σ).H,(S σ).defs,[],[])∧RunC P G r n0 rest ⟨E1,(S σ).H,(S σ).defs⟩ ex (X σ)) (hex:ex≠.normal) :
 ∀ (n:Nat) (σ:Sg),(left σ).length=n→∀ (V0 V:View) (a:Act),V0.H.length=n0→Step V0 V→HeapRep G V→StOk V (S σ) a→LoopIn (fz r) 0 P (.seq (.region m0 ops false) rest) (fun e a w=>∃ σ,left σ=[]∧Ends G V0 ex (X σ) e a w) a V.w:=by
 intro n
 induction n using Nat.strongRecOn with
 | ind n ih =>
 intro σ hn V0 V a h0 hst hG hok
 have h1s:1≤ops.size:=by rw [← Array.length_toList,hops]; simp
 have ho1:ops[0]? = some o1:=by rw [← Array.getElem?_toList,hops]; rfl
 have hos:ops.toList.drop 1=os:=by rw [hops]; rfl
 have hr:List.range ops.size=0::(List.range ops.size).drop 1:=by
  have:=List.drop_eq_getElem_cons (l:=List.range ops.size) (i:=0) (by simp; omega)
  simpa using this
 obtain ⟨cur,hob⟩:=hob σ
 have hev:a.eval (.tmp it) = .pointer (some ⟨V.ρ id,0,none⟩):=by
  have:=hok.env.get it
  rw [hit σ] at this
  exact (rep_ptr this).2
 refine LoopIn.next (Go.wpIn_seq (wpIn_region ?_))
 rw [hr,wpOpsIn_cons]
 unfold wpOpIn
 rw [ho1]
 have hw:Region.wanted o1 (yielded ops a.tmps)=true:=by unfold Region.wanted; rw [hgd]
 simp only [hw,if_true]
 refine ⟨fun _ _=>trivial,?_⟩
 rw [Oper.semAt_eq _ _ _ (fun c hc=>by rw [hop] at hc; cases hc)]
 rcases next_sound (P:=P) hG (hok.H ▸ hob) o1.type with ⟨hl,hrun⟩ | ⟨e,left',v,V',hp,hrun,hv,hH',hρ,hst',hG'⟩
 · obtain ⟨E1,hD,hR⟩:=done σ hl
   have hrun':(execOp a.eval o1).run P V.w = .ok (.value (.tuple #[.bool false])) V.w:=by
    rw [execOp,hop]; simp [hev,hrun]
   rw [hrun']
   have henv:=hok.env.put (some ta) (x:=.tup [.lit (.bool false)]) (v:=.tuple #[.bool false]) (.pure _ _ (.tup [.lit (.bool false)] [.bool false] rfl fun j hj=>by match j,hj with | 0,_=>exact .lit _))
   show wpOpsIn (fz r) 0 P ops _ ((List.range ops.size).drop 1) (a.put o1.dst (.tuple #[.bool false])) V.w
   rw [hdst]
   refine runD_sound hD trivial hos hG hok.H henv (by rw [put_def]; exact hok.defs) (fun _ V2 a2 s2 g2 k2 e2 d2=>?_) fun x hx=>by cases hx
   show rest.wpIn _ _ _ _ a2 V2.w
   refine Go.wpIn_mono (hR V0 V2 a2 h0 (hst.trans s2) g2 ⟨e2,k2,d2⟩) fun e3 a3 w3 hE=>?_
   have hE':∃ σ,left σ=[]∧Ends G V0 ex (X σ) e3 a3 w3:=⟨σ,hl,hE⟩
   obtain ⟨V3,rfl,k1,k2,k3,k4⟩:=hE
   cases e3<;>first | exact hE' | (cases ex<;>first | exact k4.elim | exact (hex rfl).elim)
 · obtain ⟨σ',E1,hl,hD,hP⟩:=round σ e left' hp
   have hrun':(execOp a.eval o1).run P V.w = .ok (.value (.tuple #[.bool true,e.1,v])) V'.w:=by
    rw [execOp,hop]; simp [hev,hrun]
   rw [hrun']
   have henv:=(hok.env.step hst').put (some ta) (x:=.tup [.lit (.bool true),.lit e.1,e.2]) (v:=.tuple #[.bool true,e.1,v]) (.pure _ _ (.tup [.lit (.bool true),.lit e.1,e.2] [.bool true,e.1,v] rfl fun j hj=>by
    match j,hj with
    | 0,_=>exact .lit _
    | 1,_=>exact .lit _
    | 2,_=>exact hv))
   show wpOpsIn (fz r) 0 P ops _ ((List.range ops.size).drop 1) (a.put o1.dst (.tuple #[.bool true,e.1,v])) V'.w
   rw [hdst]
   refine runD_sound hD trivial hos hG' (by rw [hH',hok.H]) henv (by rw [put_def]; exact hok.defs.step hst') (fun _ V2 a2 s2 g2 k2 e2 d2=>?_) fun x hx=>by cases hx
   show rest.wpIn _ _ _ _ a2 V2.w
   refine hP V0 V2 a2 _ _ h0 ((hst.trans hst').trans s2) g2 ⟨e2,k2,d2⟩ fun V3 a3 s3 g3 k3=>?_
   exact ih (left σ').length (by rw [hl,← hn,hp.length_eq]; simp) σ' rfl V0 V3 a3 h0 s3 g3 k3
theorem RunL.iter {r:Option Nat} {n0 m0 ta it id:Nat} {ops:Array Oper} {os:List Oper} {o1:Oper} {rest:Code} {ex:AEx} {Sg:Type} (S:Sg→St) (left:Sg→List (Value × AV)) (X:St)
 (hops:ops.toList=o1::os) (hop:o1.op = .next (.tmp it) false) (hgd:o1.guard=none) (hdst:o1.dst=some ta)
 (hit:∀ σ,(S σ).env.getD it .dead = .ptr id 0) (hob:∀ σ,∃ cur,(S σ).H[id]? = some (.iter cur (left σ)))
 (round:∀ σ e left',(left σ).Perm (e::left')→∃ σ' E1,left σ'=left' ∧
  runD P G r ops 1 os (putA (S σ).env (some ta) (.tup [.lit (.bool true),.lit e.1,e.2])) ((S σ).H.set id (.iter (some e) left')) (S σ).defs []=some (.normal,E1,(S σ).H.set id (.iter (some e) left'),(S σ).defs,[],[]) ∧
  PieceC P G r n0 rest ⟨E1,(S σ).H.set id (.iter (some e) left'),(S σ).defs⟩ (S σ'))
 (done:∀ σ,left σ=[]→∃ E1,runD P G r ops 1 os (putA (S σ).env (some ta) (.tup [.lit (.bool false)])) (S σ).H (S σ).defs []=some (.normal,E1,(S σ).H,(S σ).defs,[],[])∧RunC P G r n0 rest ⟨E1,(S σ).H,(S σ).defs⟩ ex X) (hex:ex≠.normal)
 (n:Nat) (σ:Sg) (hn:(left σ).length=n):RunL P G r n0 (.seq (.region m0 ops false) rest) (S σ) ex X:=fun V0 V a h0 hst hG hok b k cs hro hb hr =>
 let ⟨e,a',w',⟨_,_,hE⟩,harr⟩:=loop_iter S left (fun _=>X) hops hop hgd hdst hit hob round done hex n σ hn V0 V a h0 hst hG hok b k cs hro hb hr
 ⟨e,a',w',hE,harr⟩
def CallF (P:Program) (G:Nat→Option (List AV)) (f:FuncId) (args:List AV) (H:List AObj) (F:AOut→List AObj→Prop):Prop :=
 ∀ (V:View) (vs:List Value),V.H=H→HeapRep G V→Reps V args vs→CallsIn Fence.wide 0 P f vs.toArray V.w (fun e w'=>∃ out H',F out H'∧Goes G V H' out e w')
theorem callF_sem {f:FuncId} {fn:Func} {c:Code} {args:List AV} {H:List AObj} {F:AOut→List AObj→Prop} (hfn:P.funcs[f]? = some fn) (hb:fn.body=some c)
 (h:∀ V a,V.H=H→HeapRep G V→StOk V { env:=args++List.replicate (fn.ntmps - args.length) (.lit undef),H:=H } a→c.wpIn (fz none) 0 P (bodyPostM Fence.wide 0 P fn (fun e w'=>∃ out H',F out H'∧Goes G V H' out e w')) a V.w):CallF P G f args H F:=by
 intro V vs hH hG hargs
 refine callsIn_of_wp_marks hfn hb trivial (h V _ hH hG ⟨?_,hH,.nil⟩)
 have:EnvOk V (args++List.replicate (fn.ntmps - args.length) (.lit undef)) { tmps:=(vs++List.replicate (fn.ntmps - args.length) undef).toArray,defers:=[] }:=by
  refine Reps.append hargs ?_
  have:=Reps.lits (V:=V) (List.replicate (fn.ntmps - args.length) undef)
  simpa using this
 have e:(vs++List.replicate (fn.ntmps - args.length) undef).toArray=vs.toArray++Array.replicate (fn.ntmps - vs.toArray.size) undef:=by
  apply Array.ext'
  simp [hargs.1]
 rw [e] at this
 exact this
end
end Go.Am


namespace Go.Am
open Go
section
variable {P:Program} {G:Nat→Option (List AV)}
theorem range_fam {n0:Nat} {g:Operand} {ts:Array Tmp} {x y:Code} {s:St} {f:FuncId} {aZ bs:List AV} (dead:List Nat) (ht:funTarget (evA G s.env g)=some (f,aZ,bs)) (hok':funcOk P f=true) {F:List AObj→Prop}
 (hcf:CallF P G f (aZ++[.yl (s.H.length+1)]++bs) (s.H++[.dfd]++[.rng .ready none (deaden s.env dead) ts x y]) (fun out H2=>(∃ xr,out = .ret xr)∧F H2))
 (hF:∀ H2,F H2→∃ env3 ts3 x3 y3,H2[s.H.length+1]? = some (.rng .ready none env3 ts3 x3 y3)) {V0 V:View} {a:Act} (h0:V0.H.length=n0) (hs:Step V0 V) (hG:HeapRep G V) (hok:StOk V s a) :
 (Code.rangeFunc g ts x y).wpIn (fz none) 0 P (fun e a' w'=>∃ H2,F H2∧Ends G V0 .normal { env:=s.env,H:=H2.set (s.H.length+1) .gone,defs:=.mark s.H.length::s.defs } e a' w') a V.w:=by
 refine wpIn_rangeFunc fun fnid _=>?_
 have hg:=evA_sound (a:=a) (env:=s.env) (y:=g) hG fun t _=>hok.env.get t
 obtain ⟨V1,a1,a2,a3,a4,a5⟩:=step_new hG (w':=V.w.alloc (.deferred (some []))) (obj:=.dfd) rfl rfl rfl rfl fun V' hw _=>by
  show V'.w.heap[V.w.heap.size]? = _
  rw [hw]; exact heap_push rfl
 have hsz1:V1.w.heap.size=V.w.heap.size+1:=by rw [a1]; simp
 obtain ⟨V2,b1,b2,b3,b4,b5⟩:=step_new a4 (w':=V1.w.alloc (.loop { state:=.ready,pending:=none,fn:=fnid,tmps:=a.tmps,params:=ts,assign:=x,body:=y,defers:=V.w.heap.size })) (obj:=.rng .ready none (deaden s.env dead) ts x y) rfl rfl rfl rfl fun V' hw hs'=>by
  refine ⟨fnid,a.tmps.toList,V.w.heap.size,by rw [hw]; exact heap_push rfl,?_⟩
  exact EnvOk.step hs' (deaden_ok (hok.env.step a3))
 have hl1:V1.H.length=s.H.length+1:=by rw [a2,hok.H]; simp
 rw [hl1,hsz1] at b5
 have hH1:V2.H=s.H++[.dfd]++[.rng .ready none (deaden s.env dead) ts x y]:=by rw [b2,a2,hok.H]
 have hrng:V2.H[s.H.length+1]? = some (.rng .ready none (deaden s.env dead) ts x y):=by rw [hH1]; simp
 have s02:Step V V2:=a3.trans b3
 obtain ⟨us,vs,hu,r1,r2⟩:=funTarget_sound ht hg
 have hyl:Rep V2 (.yl (s.H.length+1)) (.func (.yield (V.w.heap.size+1)) #[] #[]):=by
  rw [← b5]
  exact .yl _ ⟨_,hrng,rfl⟩
 have hx:Reps V2 (aZ++[.yl (s.H.length+1)]++bs) (us++[.func (.yield (V.w.heap.size+1)) #[] #[]]++vs):=((r1.step s02).append (.cons hyl .nil)).append (r2.step s02)
 have hc:=hcf V2 _ hH1 b4 hx
 have hw2:V2.w=(V.w.alloc (.deferred (some []))).alloc (.loop { state:=.ready,pending:=none,fn:=fnid,tmps:=a.tmps,params:=ts,assign:=x,body:=y,defers:=V.w.heap.size }):=by rw [b1,a1]
 refine ⟨V.w.heap.size+1,[{ target:=.collected V.w.heap.size,args:=#[] }],V2.w,{ target:=.fn (.func f) vs.toArray,args:=us.toArray++#[Value.func (.yield (V.w.heap.size+1)) #[] #[]] },V2.w,f,(us++[Value.func (.yield (V.w.heap.size+1)) #[] #[]]++vs).toArray,V2.w,?_,?_,fun _ _=>trivial,?_,fun h=>(by cases h),?_⟩
 · rw [hw2]; exact run_enterLoop_outer fnid a.tmps ts x y
 · have hm:Array.map a.eval #[Operand.const (Value.func (.yield (V.w.heap.size+1)) #[] #[])]=#[Value.func (.yield (V.w.heap.size+1)) #[] #[]]:=by
    apply Array.ext'
    simp only [Array.toList_map,List.map_cons,List.map_nil,Act.eval]
   simp only [resolve,Deferred.ofValue,hu,hm]
   rfl
 · unfold funcOk at hok'
   split at hok'
   · rename_i fn hfn
     simp only [Bool.and_eq_true,Bool.not_eq_true',beq_eq_false_iff_ne,ne_eq] at hok'
     obtain ⟨c,hb⟩:=Option.isSome_iff_exists.1 hok'.1
     simp [invoke,callFunc,hfn,hok'.2,hb]
   · cases hok'
 · refine hc.mono fun e w' he=>?_
   obtain ⟨out,H2,⟨⟨xr,rfl⟩,hF2⟩,V3,rfl,c2,c3,c4,c5⟩:=he
   obtain ⟨env3,ts3,x3,y3,hH2⟩:=hF H2 hF2
   cases e with
   | returned v =>
    have hr3:V3.H[s.H.length+1]? = some (.rng .ready none env3 ts3 x3 y3):=by rw [c4]; exact hH2
    have hρ:V3.ρ (s.H.length+1)=V.w.heap.size+1:=by
     have:=c2.obj (s.H.length+1) (by rw [hH1]; simp)
     unfold ObjStep at this
     rw [hrng,hr3] at this
     rw [this,b5]
    obtain ⟨fn3,vs3,D3,o1,o2⟩:=c3.obj _ _ hr3
    rw [hρ] at o1
    obtain ⟨V4,d1,d2,d3,d4,d5⟩:=step_gone c3 (w':=V3.w.putObj (V.w.heap.size+1) (.loop { state:=.exhausted,pending:=none,fn:=fn3,tmps:=List.toArray vs3,params:=ts3,assign:=x3,body:=y3,defers:=D3 })) hr3 rfl
     (fun b hb=>World.putObj_heap_other (by rw [hρ] at hb; exact hb)) World.putObj_size rfl rfl rfl
    have hend:=run_endLoop (P:=P) o1 (fun h=>by cases h)
    refine ⟨none,V4.w,by rw [d1]; exact hend,?_⟩
    have okS:StOk V4 { env:=s.env,H:=H2.set (s.H.length+1) .gone,defs:=.mark s.H.length::s.defs } { a with defers:=[{ target:=.collected V.w.heap.size,args:=#[] }]++a.defers }:=by
     have s04:Step V V4:=s02.trans (c2.trans d4)
     refine ⟨hok.env.step s04,by rw [d2,c4],.cons ?_ (hok.defs.step s04)⟩
     have hd:KindOk AObj.isDfd V2 s.H.length:=⟨.dfd,by rw [hH1]; simp,rfl⟩
     obtain ⟨k1,k2⟩:=dfdOk_step (c2.trans d4) hd
     refine ⟨k1,?_⟩
     have hρ1:V2.ρ s.H.length=V.w.heap.size:=by
      have hd1:KindOk AObj.isDfd V1 s.H.length:=⟨.dfd,by rw [a2,hok.H]; simp,rfl⟩
      rw [(dfdOk_step b3 hd1).2,← hok.H,a5]
     rw [k2,hρ1]
    have hst4:Step V0 V4:=hs.trans (s02.trans (c2.trans d4))
    exact ⟨H2,hF2,V4,rfl,hst4,d5,okS,trivial⟩
   | panicked ch=>exact c5.elim
   | outgrown=>exact c5.elim
end
end Go.Am


namespace Go.Mg
open Go Go.Am Go.Proofs Go.Seat Go.Vec Go.Cdc Go.Ops
def ocs (l:List OP):List (List AV):=l.map opc
def opl (l:List OP):AV:=.sl 17 false (ocs l)
theorem ocs_length (l:List OP):(ocs l).length=l.length:=List.length_map ..
def lls (ls:List (List OP)):List (List AV):=ls.map fun l=>[opl l]
theorem lls_length (ls:List (List OP)):(lls ls).length=ls.length:=List.length_map ..
def knS (ls:List (List OP)) (W:List (Value × AV)) (k:Nat):St:={ env:=slots 48 [(3,.mp 0),(11,.sl 1 true (lls ls)),(12,int ls.length),(13,int k)],H:=[.map W] }
theorem kn_e (ls:List (List OP)) (W:List (Value × AV)) (k:Nat) (hk:¬ (k:Int)<(ls.length:Int)) (h:True):Rq 0 36 0 (knS ls W k) (AEx.exit 0) (sM 48 [(3,.mp 0)] [.map W]):=by
 have _:=h
 exact loop_exit [kj ((k:Int)<ls.length)] (others 48 [3]) 1
def zopV:Value:=.agg #[.int .i64 0,.int .i64 0,.int .i64 0,.slice none 0 0,.int .i64 0,.string ⟨#[]⟩,.int .i64 0,.int .i64 0,.int .i64 0,.int .i64 0,.int .i64 0,.int .i64 0,.int .i64 0,.string ⟨#[]⟩,.string ⟨#[]⟩,.int .i64 0,.bool false]
def kiS (ls:List (List OP)) (W:List (Value × AV)) (k:Nat) (l:List OP) (i:Nat):St:={ env:=slots 48 [(3,.mp 0),(11,.sl 1 true (lls ls)),(12,int ls.length),(13,int k),(17,opl l),(18,int l.length),(19,int i)],H:=[.map W] }
def kiX (ls:List (List OP)) (W:List (Value × AV)) (k:Nat):St:={ env:=slots 48 [(3,.mp 0),(11,.sl 1 true (lls ls)),(12,int ls.length),(13,int k)],H:=[.map W] }
theorem kn_o (ls:List (List OP)) (W W':List (Value × AV)) (k:Nat) (l:List OP) (hl:ls.length≤1000000) (hk:(k:Int)<(ls.length:Int)) (hx:ls[k]? = some l) (hI:Rq 0 36 1 (kiS ls W k l 0) (.exit 2) (kiX ls W' k)) (ex:AEx) (s':St) (h:Rq 0 36 0 (sM 48 [(3,.mp 0),(11,.sl 1 true (lls ls)),(12,int ↑ls.length),(13,int ↑(k+1))] [.map W']) ex s'):Rq 0 36 0 (knS ls W k) ex s':=by
 exact loop_next [ki ((k:Int)<ls.length),ko (Orc.elem [opl l]),kp (show (0:Int)≤(k:Int)∧(lls ls)[Int.toNat (k:Int)]? = some [opl l] from (el_nat hx)),kN 18 (ocs_length l),kl [5,14,15,16] 1 hI,kW 46 (k+1) ↑(k+1)] (others 48 [3,11,12,13]) 1 h
theorem ki_e (ls:List (List OP)) (W:List (Value × AV)) (k i:Nat) (l:List OP) (hi:¬ (i:Int)<(l.length:Int)) (h:True):Rq 0 36 1 (kiS ls W k l i) (AEx.exit 2) (kiX ls W k):=by
 have _:=h
 exact loop_exit [kj ((i:Int)<l.length)] (others 48 [3,11,12,13]) 1
theorem ki_b (ls:List (List OP)) (W:List (Value × AV)) (k i:Nat) (l:List OP) (o:OP) (e:Int) (he:e≠0) (hl:l.length≤1000000) (hi:(i:Int)<(l.length:Int)) (hx:l[i]? = some o) (hc:Cq 31 [op o] (int e)) (ex:AEx) (s':St) (h:((∀ (e:Value × AV),e∈W→AV.idsLt 1 e.2=true)∧Rq 0 36 1 (sM 48 [(3,.mp 0),(11,.sl 1 true (lls ls)),(12,int ↑ls.length),(13,int ↑k),(17,opl l),(18,int ↑l.length),(19,int ↑(i+1))] [.map W]) ex s')):Rq 0 36 1 (kiS ls W k l i) ex s':=by
 obtain ⟨o3,h⟩:=h
 exact loop_next [ki ((i:Int)<l.length),ke (opc o) (ocs l) i (el_nat hx),kc [] hc,kt (show (e != 0)=true from (congrArg Bool.not (qF (by omega)))),kW 45 (i+1) ↑(i+1),kp o3] (others 48 [3,11,12,13,17,18,19]) 1 h
theorem ki_n (ls:List (List OP)) (W W':List (Value × AV)) (k i:Nat) (l:List OP) (o:OP) (hl:l.length≤1000000) (hi:(i:Int)<(l.length:Int)) (hx:l[i]? = some o) (hc:Cq 31 [op o] (int 0)) (hG:MapGet P 49 W (.agg #[.int .i64 o.dv,.int .i64 o.sq]) (.lit zopV) (.lit zopV) false) (hP:MapPut P 49 W (.agg #[.int .i64 o.dv,.int .i64 o.sq]) (op o) W') (ex:AEx) (s':St) (h:((∀ (e:Value × AV),e∈W'→AV.idsLt 1 e.2=true)∧Rq 0 36 1 (sM 48 [(3,.mp 0),(11,.sl 1 true (lls ls)),(12,int ↑ls.length),(13,int ↑k),(17,opl l),(18,int ↑l.length),(19,int ↑(i+1))] [.map W']) ex s')):Rq 0 36 1 (kiS ls W k l i) ex s':=by
 obtain ⟨o2,h⟩:=h
 exact loop_next [ki ((i:Int)<l.length),ke (opc o) (ocs l) i (el_nat hx),kc [] hc,kY,ko (Orc.mget (AV.lit zopV) false),kp hG,kO,kO,ko (Orc.mput W'),kp hP,kW 45 (i+1) ↑(i+1),kp o2] (others 48 [3,11,12,13,17,18,19]) 1 h
theorem ki_y (ls:List (List OP)) (W W':List (Value × AV)) (k i:Nat) (l:List OP) (o x:OP) (v:Int) (hl:l.length≤1000000) (hi:(i:Int)<(l.length:Int)) (hx:l[i]? = some o) (hc:Cq 31 [op o] (int 0)) (hG:MapGet P 49 W (.agg #[.int .i64 o.dv,.int .i64 o.sq]) (.lit zopV) (op x) true) (hv:Cq 65 [op o,op x] (int v)) (hq:v<0) (hP:MapPut P 49 W (.agg #[.int .i64 o.dv,.int .i64 o.sq]) (op o) W') (ex:AEx) (s':St) (h:((∀ (e:Value × AV),e∈W'→AV.idsLt 1 e.2=true)∧Rq 0 36 1 (sM 48 [(3,.mp 0),(11,.sl 1 true (lls ls)),(12,int ↑ls.length),(13,int ↑k),(17,opl l),(18,int ↑l.length),(19,int ↑(i+1))] [.map W']) ex s')):Rq 0 36 1 (kiS ls W k l i) ex s':=by
 obtain ⟨o3,h⟩:=h
 exact loop_next [ki ((i:Int)<l.length),ke (opc o) (ocs l) i (el_nat hx),kc [] hc,kY,ko (Orc.mget (op x) true),kp hG,kY,kc [] hv,ki (v<0),ko (Orc.mput W'),kp hP,kW 45 (i+1) ↑(i+1),kp o3] (others 48 [3,11,12,13,17,18,19]) 1 h
theorem ki_s (ls:List (List OP)) (W:List (Value × AV)) (k i:Nat) (l:List OP) (o x:OP) (v:Int) (hl:l.length≤1000000) (hi:(i:Int)<(l.length:Int)) (hx:l[i]? = some o) (hc:Cq 31 [op o] (int 0)) (hG:MapGet P 49 W (.agg #[.int .i64 o.dv,.int .i64 o.sq]) (.lit zopV) (op x) true) (hv:Cq 65 [op o,op x] (int v)) (hq:¬ v<0) (ex:AEx) (s':St) (h:((∀ (e:Value × AV),e∈W→AV.idsLt 1 e.2=true)∧Rq 0 36 1 (sM 48 [(3,.mp 0),(11,.sl 1 true (lls ls)),(12,int ↑ls.length),(13,int ↑k),(17,opl l),(18,int ↑l.length),(19,int ↑(i+1))] [.map W]) ex s')):Rq 0 36 1 (kiS ls W k l i) ex s':=by
 obtain ⟨o3,h⟩:=h
 exact loop_next [ki ((i:Int)<l.length),ke (opc o) (ocs l) i (el_nat hx),kc [] hc,kY,ko (Orc.mget (op x) true),kp hG,kY,kc [] hv,kj (v<0),kW 45 (i+1) ↑(i+1),kp o3] (others 48 [3,11,12,13,17,18,19]) 1 h
theorem known_w (ls:List (List OP)) (W:List (Value × AV)) (hL:Rq 0 36 0 (knS ls [] 0) (.exit 0) { env:=slots 48 [(3,.mp 0)],H:=[.map W] }) (h:True):CallC P G 36 [.sl 1 true (lls ls)] [] (AOut.ret (AV.mp 0)) [AObj.map W]:=by
 have _:=h
 exact callC_of [kN 12 (lls_length ls),kl (rG [(0,3),(4,7),(14,34)]) 1 hL]
theorem latest_w (o:OP) (h:True):CallC P G 39 [op o] [] (AOut.ret (AV.fn (Fn.func 71) [] [AV.ptr 0 0])) [AObj.box (opc o)]:=by
 have _:=h
 exact callC_of []
theorem values_w (es:List (Value × AV)) (h:True):CallC P G 64 [.md true es] [] (AOut.ret (AV.fn (Fn.func 95) [] [AV.ptr 0 0])) [AObj.box [AV.md true es]]:=by
 have _:=h
 exact callC_of []
end Go.Mg


namespace Go.Mg
open Go Go.Am Go.Proofs Go.Seat Go.Vec Go.Cdc Go.Ops
noncomputable def jap:AObj:=.rng .ready none (slots 13 [(2,.ptr 1 0)]) #[7] (asgAt P 123 0) (rbodyAt P 123 0)
noncomputable def aq0 (es:List (Value × AV)) (c:Option (Value × AV)) (lf:List (Value × AV)):List AObj:=[.box [.md true es],.box [nilS],.dfd,jap,.iter c lf]
noncomputable def aq1 (es:List (Value × AV)) (c:Option (Value × AV)) (lf:List (Value × AV)) (g:Nat) (v:List OP):List AObj:=[.box [.md true es],.box [.own 7 g 0 v.length],.dfd,jap,.iter c lf,.gone,.gone,.arr g 17 false (ocs v)]
theorem ocs_append (a b:List OP):ocs a++ocs b=ocs (a++b):=by simp [ocs]
theorem ocs_ids (l:List OP):∀ x∈ocs l,AV.idsInL [] x=true:=fun x hx=>by
 obtain ⟨o,_,rfl⟩:=List.mem_map.1 hx
 rfl
theorem ya0_w (es lf:List (Value × AV)) (c:Option (Value × AV)) (o:OP) (b:Bool) (H':List AObj) (h:(true=b)∧([AObj.box [AV.md true es],AObj.box [AV.own 7 0 0 1],AObj.dfd,jap,AObj.iter c lf,AObj.box (opc o),AObj.box (opc o),AObj.arr 0 17 false [(opc o)]]=H')):YieldC P G 3 [op o] (aq0 es c lf++[AObj.box (opc o)]) b H':=by
 obtain ⟨e1,e2⟩:=h
 exact YieldC.to ((show YieldC P G 3 [op o] (aq0 es c lf++[AObj.box (opc o)]) true [AObj.box [AV.md true es],AObj.box [AV.own 7 0 0 1],AObj.dfd,jap,AObj.iter c lf,AObj.box [int o.dv,int o.sq,int o.tm,AV.sl 2 false (encs o.cx),int o.pk,str o.pn,int o.kd,int o.f1,int o.f2,int o.f3,int o.t1,int o.t2,int o.t3,str o.ky,str o.vl,int o.n,Am.bool o.on],AObj.box [int o.dv,int o.sq,int o.tm,AV.sl 2 false (encs o.cx),int o.pk,str o.pn,int o.kd,int o.f1,int o.f2,int o.f3,int o.t1,int o.t2,int o.t3,str o.ky,str o.vl,int o.n,Am.bool o.on],AObj.arr 0 17 false [[int o.dv,int o.sq,int o.tm,AV.sl 2 false (encs o.cx),int o.pk,str o.pn,int o.kd,int o.f1,int o.f2,int o.f3,int o.t1,int o.t2,int o.t3,str o.ky,str o.vl,int o.n,Am.bool o.on]]] from yieldC_of (fun _=>[kne (opc o),kBd 176]) (fun _=>by kernel_rfl))) e1 e2
theorem ya1_w (es lf:List (Value × AV)) (c:Option (Value × AV)) (o:OP) (g:Nat) (v:List OP) (hv:v.length≤1000000) (b:Bool) (H':List AObj) (h:(true=b)∧([AObj.box [AV.md true es],AObj.box [AV.own 7 (g+1) 0 (List.length v+1)],AObj.dfd,jap,AObj.iter c lf,AObj.gone,AObj.gone,AObj.arr (g+1) 17 false (ocs v++[(opc o)]),AObj.box (opc o)]=H')):YieldC P G 3 [op o] (aq1 es c lf g v++[AObj.box (opc o)]) b H':=by
 obtain ⟨e1,e2⟩:=h
 exact YieldC.to ((show YieldC P G 3 [op o] (aq1 es c lf g v++[AObj.box (opc o)]) true [AObj.box [AV.md true es],AObj.box [AV.own 7 (g+1) 0 (List.length v+1)],AObj.dfd,jap,AObj.iter c lf,AObj.gone,AObj.gone,AObj.arr (g+1) 17 false (ocs v++[[int o.dv,int o.sq,int o.tm,AV.sl 2 false (encs o.cx),int o.pk,str o.pn,int o.kd,int o.f1,int o.f2,int o.f3,int o.t1,int o.t2,int o.t3,str o.ky,str o.vl,int o.n,Am.bool o.on]]),AObj.box [int o.dv,int o.sq,int o.tm,AV.sl 2 false (encs o.cx),int o.pk,str o.pn,int o.kd,int o.f1,int o.f2,int o.f3,int o.t1,int o.t2,int o.t3,str o.ky,str o.vl,int o.n,Am.bool o.on]] from yieldC_of (fun _=>[kq g,kp (ocs_length v).symm,kBd ((List.length v+1) * 176),kp (show ∀ (x:List AV),x∈ocs v++[[int o.dv,int o.sq,int o.tm,AV.sl 2 false (encs o.cx),int o.pk,str o.pn,int o.kd,int o.f1,int o.f2,int o.f3,int o.t1,int o.t2,int o.t3,str o.ky,str o.vl,int o.n,Am.bool o.on]]→AV.idsInL [] x=true from (by exact (Am.allm_append (ocs_ids _) (Am.allm_cons rfl Am.allm_nil))))]) (fun _=>by kernel_rfl))) e1 e2
end Go.Mg


namespace Go.Mg
open Go Go.Am Go.Proofs Go.Seat Go.Vec Go.Cdc Go.Ops
theorem perm_lift {α β:Type} {f:α→β}:∀ {l':List β} {lf:List α},(lf.map f).Perm l'→∃ lf',l'=lf'.map f∧lf.Perm lf'
 | [],lf,h=>⟨[],rfl,by have:=h.eq_nil; simp at this; subst this; exact .refl _⟩
 | e::l',lf,h=>by
  obtain ⟨o,ho,rfl⟩:=List.mem_map.1 (h.mem_iff.2 List.mem_cons_self)
  obtain ⟨s,t,rfl⟩:=List.append_of_mem ho
  have p:=h.symm.trans (List.perm_middle.map f)
  rw [List.map_cons] at p
  obtain ⟨lf',rfl,hp⟩:=perm_lift (p.cons_inv).symm
  exact ⟨o::lf',rfl,List.perm_middle.trans (hp.cons o)⟩
def kV (o:OP):Value:=.agg #[.int .i64 o.dv,.int .i64 o.sq]
def en (o:OP):Value × AV:=(kV o,op o)
def opsOf:Code→Array Oper
 | .region _ ops _=>ops
 | _=>#[]
noncomputable def cv:Code:=loopAt P 95 0
noncomputable def opsv:Array Oper:=opsOf (Code.hd cv)
noncomputable def opv (i:Nat):Oper:=opsv.toList.getD i default
theorem cv_is:cv = .seq (.region 1 opsv false) (Code.tl cv):=by kernel_rfl
theorem opsv_is:opsv.toList=[opv 0,opv 1]:=by kernel_rfl
theorem ya0 (es lf:List (Value × AV)) (c:Option (Value × AV)) (o:OP):YieldC P G 3 [op o] (aq0 es c lf++[.box (opc o)]) true (aq1 es c lf 0 [o]) :=
 YieldC.heapSub (ya0_w es lf c o true _ ⟨rfl,rfl⟩) ⟨.inl rfl,.inl rfl,.inl rfl,.inl rfl,.inl rfl,.inr trivial,.inr trivial,.inl rfl,trivial⟩
theorem ya1 (es lf:List (Value × AV)) (c:Option (Value × AV)) (o:OP) (g:Nat) (v:List OP) (hv:v.length≤1000000):YieldC P G 3 [op o] (aq1 es c lf g v++[.box (opc o)]) true (aq1 es c lf (g+1) (v++[o])++[.box (opc o)]) :=
 ya1_w es lf c o g v hv true _ ⟨rfl,by unfold aq1; rw [← ocs_append,List.length_append]; rfl⟩
def vE:List AV:=slots 15 [(0,.yl 3),(6,.ptr 4 0)]
def vB (b:Bool) (x:AV):List AV:=putA (putA vE (some 7) x) (some 8) (Am.bool b)
theorem vp0 (es lf:List (Value × AV)) (k:Value) (o:OP):PieceC P G none 4 (Code.tl cv) ⟨vB true (.tup [.lit (.bool true),.lit k,op o]),aq0 es (some (k,op o)) lf,[]⟩ ⟨vE,aq1 es (some (k,op o)) lf 0 [o],[]⟩ :=
 piece_of [kt (Eq.refl true),ko (Orc.call [] (AOut.ret (Am.bool true)) (aq1 es (some (k,op o)) lf 0 [o])),kp (ya0 es lf (some (k,op o)) o),kf (Eq.refl false)] (others 15 [0,6]) 8 (by kernel_rfl)
theorem vp1 (es lf:List (Value × AV)) (k:Value) (o:OP) (g:Nat) (v:List OP) (hv:v.length≤1000000):PieceC P G none 4 (Code.tl cv) ⟨vB true (.tup [.lit (.bool true),.lit k,op o]),aq1 es (some (k,op o)) lf g v,[]⟩ ⟨vE,aq1 es (some (k,op o)) lf (g+1) (v++[o]),[]⟩ :=
 piece_of [kt (Eq.refl true),ko (Orc.call [] (AOut.ret (Am.bool true)) (aq1 es (some (k,op o)) lf (g+1) (v++[o])++[AObj.box (opc o)])),kp (ya1 es lf (some (k,op o)) o g v hv),kf (Eq.refl false),kp (show ∀ (x:List AV),x∈ocs (v++[o])→AV.idsInL [] x=true from ocs_ids _)] (others 15 [0,6]) 8 (by kernel_rfl)
def vF:AV:=.tup [.lit (.bool false)]
theorem v_exit (H:List AObj):runC P G none 4 (Code.tl cv) ⟨vB false vF,H,[]⟩ (orcsOf [kf (Eq.refl false)])=some (.exit 0,⟨vB false vF,H,[]⟩,[],propsOf [kf (Eq.refl false)]):=by kernel_rfl
def Vf (os:List OP):Type:={ x:Option (Value × AV) × List OP × List (Value × AV) // ∃ lf:List OP,x.2.2=lf.map en∧(x.2.1++lf).Perm os }
noncomputable def aqS (es:List (Value × AV)) (c:Option (Value × AV)) (lf:List (Value × AV)):List OP→List AObj
 | []=>aq0 es c lf
 | o::v=>aq1 es c lf v.length (o::v)
noncomputable def vS (es:List (Value × AV)) {os:List OP} (σ:Vf os):St:=⟨vE,aqS es σ.1.1 σ.1.2.2 σ.1.2.1,[]⟩
noncomputable def vX (es:List (Value × AV)) {os:List OP} (σ:Vf os):St:=⟨vB false vF,aqS es σ.1.1 σ.1.2.2 σ.1.2.1,[]⟩
theorem v_loop (es:List (Value × AV)) {os:List OP} (hos:os.length≤1000000) (V0 V:View) (a:Act) (h0:V0.H.length=4) (hst:Step V0 V) (hG:HeapRep G V) (hok:StOk V ⟨vE,aq0 es none (os.map en),[]⟩ a) :
 LoopIn (fz none) 0 P cv (fun e a w=>∃ σ:Vf os,σ.1.2.2=[]∧Am.Ends G V0 (.exit 0) (vX es σ) e a w) a V.w:=by
 rw [cv_is]
 refine loop_iter (P:=P) (G:=G) (r:=none) (n0:=4) (m0:=1) (ta:=7) (it:=6) (id:=4) (ops:=opsv) (os:=[opv 1]) (o1:=opv 0) (rest:=Code.tl cv) (ex:=.exit 0) (Sg:=Vf os) (vS es) (fun σ=>σ.1.2.2) (vX es)
  opsv_is (by kernel_rfl) (by kernel_rfl) (by kernel_rfl) (fun σ=>rfl) (fun σ=>?_) ?_ ?_ (fun h=>by cases h) _ ⟨(none,[],os.map en),os,rfl,.refl _⟩ rfl V0 V a h0 hst hG hok
 · obtain ⟨⟨cur,dn,left⟩,lf,hlf,hdn⟩:=σ
   cases dn<;>exact ⟨cur,rfl⟩
 · intro ⟨⟨cur,dn,left⟩,lf,hlf,hdn⟩ e left' hp
   have hlf:left=lf.map en:=hlf
   have hp:left.Perm (e::left'):=hp
   have hdn:(dn++lf).Perm os:=hdn
   rw [hlf] at hp
   obtain ⟨lf2,h2,hj⟩:=perm_lift hp
   cases lf2 with
   | nil=>cases h2
   | cons o lf' =>
    rw [List.map_cons] at h2
    injection h2 with h2 h3
    subst h2 h3
    have hdn':((dn++[o])++lf').Perm os:=by
     refine List.Perm.trans ?_ hdn
     rw [List.append_assoc]
     exact (hj.symm).append_left dn
    have hl:dn.length≤1000000:=by
     have:=hdn.length_eq
     rw [List.length_append] at this
     omega
    refine ⟨⟨(some (en o),dn++[o],lf'.map en),lf',rfl,hdn'⟩,vB true (.tup [.lit (.bool true),.lit (kV o),op o]),rfl,?_,?_⟩
    · cases dn<;>(show runD P G none opsv 1 [opv 1] (putA vE (some 7) (.tup [.lit (.bool true),.lit (kV o),op o])) _ [] []=_; kernel_rfl)
    · cases dn with
      | nil=>exact vp0 es _ (kV o) o
      | cons x v =>
       have:=vp1 es (lf'.map en) (kV o) o v.length (x::v) hl
       have e:(v++[o]).length=v.length+1:=by simp
       show PieceC P G none 4 (Code.tl cv) ⟨_,aq1 es (some (en o)) (lf'.map en) v.length (x::v),[]⟩ ⟨vE,aq1 es (some (en o)) (lf'.map en) (v++[o]).length (x::(v++[o])),[]⟩
       rw [e]
       exact this
 · intro σ hl
   refine ⟨vB false vF,?_,?_⟩
   · show runD P G none opsv 1 [opv 1] (putA vE (some 7) vF) _ [] []=_
     kernel_rfl
   · exact runC_sound _ (v_exit _) (propsAll _)
end Go.Mg


namespace Go.Am
open Go
section
variable {F:Fence} {n:Nat} {P:Program}
theorem leavesIn_mono {fn:Func} {tmps:Array Value} {R R':Ending→World→Prop} (h:∀ e w,R e w→R' e w):∀ {ds:List Deferred} {u:FrameMode} {w:World},LeavesIn F n P fn tmps R ds u w→LeavesIn F n P fn tmps R' ds u w
 | [],.returning,_,⟨v,h1,h2⟩=>⟨v,h1,h _ _ h2⟩
 | [],.panicking _,_,h1=>h _ _ h1
 | [],.run,_,h1=>h1
 | _::_,_,_,⟨h1,h2,fv,cap,f,args,h3,h4,h5,h6⟩=>⟨h1,h2,fv,cap,f,args,h3,h4,h5,h6.mono fun e _ _ hh=>by
  cases e
  · exact leavesIn_mono h hh
  · exact leavesIn_mono h hh
  · exact h _ _ hh⟩
theorem leavesM_mono {fn:Func} {tmps:Array Value} {R R':Ending→World→Prop} (h:∀ e w,R e w→R' e w):∀ {ds:List Deferred} {u:FrameMode} {w:World},LeavesInM F n P fn tmps R ds u w→LeavesInM F n P fn tmps R' ds u w
 | [],_,_,h1=>leavesIn_mono h h1
 | _::_,_,_,⟨h1,h2⟩=>⟨h1,by
  rcases h2 with ⟨r,w',e1,e2,e3⟩ | ⟨k1,fv,cap,f,args,h3,h4,h5,h6⟩
  · exact .inl ⟨r,w',e1,e2,leavesM_mono h e3⟩
  · refine .inr ⟨k1,fv,cap,f,args,h3,h4,h5,h6.mono fun e _ _ hh=>?_⟩
    cases e
    · exact leavesM_mono h hh
    · exact leavesM_mono h hh
    · exact h _ _ hh⟩
theorem bodyM_mono {fn:Func} {R R':Ending→World→Prop} (h:∀ e w,R e w→R' e w):∀ {e:Exit} {a:Act} {w:World},bodyPostM F n P fn R e a w→bodyPostM F n P fn R' e a w:=by
 intro e a w hb
 cases e<;>first | exact leavesM_mono h hb | exact h _ _ hb | exact hb
end
end Go.Am
namespace Go.Mg
open Go Go.Am Go.Proofs Go.Seat Go.Vec Go.Cdc Go.Ops
noncomputable def base (es:List (Value × AV)):List AObj:=[.box [.md true es],.box [nilS],.dfd,jap]
noncomputable def fnv:Func:=(P.funcs[95]?).getD default
noncomputable def v0:Code:=Code.hd (bodyOf P 95)
theorem v_0 (es:List (Value × AV)):PieceC P G none 4 v0 ⟨[.yl 3,.ptr 0 0]++List.replicate 13 (.lit undef),base es,[]⟩ ⟨vE,aq0 es none es,[]⟩:=piece_of [] (others 15 [0,6]) 5 (by kernel_rfl)
theorem v_f0 (es:List (Value × AV)) (cur:Option (Value × AV)):finF P G 4 fnv .normal ⟨vB false vF,aqS es cur [] [],[]⟩ []=some (.ret (.tup []),base es,[]):=by kernel_rfl
theorem v_f1 (es:List (Value × AV)) (cur:Option (Value × AV)) (o:OP) (v:List OP):finF P G 4 fnv .normal ⟨vB false vF,aqS es cur [] (o::v),[]⟩ []=some (.ret (.tup []),aqS es cur [] (o::v),[]):=by kernel_rfl
def VF (es:List (Value × AV)) (os:List OP) (H2:List AObj):Prop:=∃ v cur,v.Perm os∧H2=match v with
 | []=>base es
 | o::v=>aqS es cur [] (o::v)
theorem values1_f (os:List OP) (hos:os.length≤1000000):CallF P G 95 [.yl 3,.ptr 0 0] (base (os.map en)) (fun out H2=>(∃ xr,out = .ret xr)∧VF (os.map en) os H2):=by
 have hfn:P.funcs[95]? = some fnv:=by kernel_rfl
 have hb:fnv.body=some (.seq v0 (.block 0 (.loop cv))):=by kernel_rfl
 refine callF_sem hfn hb fun V a hH hG hok=>?_
 have h0:V.H.length=4:=by rw [hH]; rfl
 have hn:fnv.ntmps - [AV.yl 3,.ptr 0 0].length=13:=by kernel_rfl
 rw [hn] at hok
 refine PieceC.seq (v_0 (os.map en)) h0 (Step.refl V) hG hok fun V1 a1 s1 g1 k1=>?_
 refine Go.wpIn_block (LoopIn.wpIn (LoopIn.mono (v_loop (os.map en) hos V V1 a1 h0 s1 g1 k1) fun e a2 w2 hE=>?_))
 obtain ⟨⟨⟨cur,dn,left⟩,lf,hlf,hdn⟩,hl,V2,rfl,m1,m2,m3,m4⟩:=hE
 have hl:left=[]:=hl
 have hlf:left=lf.map en:=hlf
 have hdn:(dn++lf).Perm os:=hdn
 have hl0:lf=[]:=by
  rw [hl] at hlf
  exact List.map_eq_nil_iff.1 hlf.symm
 subst hl hl0
 rw [List.append_nil] at hdn
 cases e<;>first | exact m4.elim | skip
 have m4:_=0:=m4
 subst m4
 show bodyPostM Fence.wide 0 P fnv _ .normal a2 V2.w
 cases dn with
 | nil =>
  have hfin:=v_f0 (os.map en) cur
  rw [← h0] at hfin
  exact bodyM_mono (fun e w h=>⟨_,_,⟨⟨_,rfl⟩,[],cur,hdn,rfl⟩,h⟩) (ends_goes hfin trivial .normal a2 V2.w ⟨V2,rfl,m1,m2,m3,trivial⟩)
 | cons o v =>
  have hfin:=v_f1 (os.map en) cur o v
  rw [← h0] at hfin
  exact bodyM_mono (fun e w h=>⟨_,_,⟨⟨_,rfl⟩,o::v,cur,hdn,rfl⟩,h⟩) (ends_goes hfin trivial .normal a2 V2.w ⟨V2,rfl,m1,m2,m3,trivial⟩)
end Go.Mg


namespace Go.Mg
open Go Go.Am Go.Proofs Go.Seat Go.Vec Go.Cdc Go.Ops
def vsV:AV:=.fn (.func 95) [] [.ptr 0 0]
noncomputable def fna:Func:=(P.funcs[123]?).getD default
noncomputable def bda:Code:=bodyOf P 123
noncomputable def a0:Code:=Code.hd bda
noncomputable def a1:Code:=Code.hd (Code.hd (Code.tl bda))
noncomputable def aE:Code:=Code.tl (Code.tl bda)
noncomputable def aX:Code:=asgAt P 123 0
noncomputable def aY:Code:=rbodyAt P 123 0
def aV:List AV:=slots 13 [(2,.ptr 1 0),(6,vsV)]
theorem p_0 (es:List (Value × AV)):PieceC P G none 1 a0 ⟨[nilS,vsV]++List.replicate 11 (.lit undef),[.box [.md true es]],[]⟩ ⟨slots 13 [(1,vsV),(2,.ptr 1 0)],[.box [.md true es],.box [nilS]],[]⟩:=piece_of [] (others 13 [1,2]) 2 (by kernel_rfl)
theorem p_1 (es:List (Value × AV)):PieceC P G none 1 a1 ⟨slots 13 [(1,vsV),(2,.ptr 1 0)],[.box [.md true es],.box [nilS]],[]⟩ ⟨aV,[.box [.md true es],.box [nilS]],[]⟩:=piece_of [] (others 13 [2,6]) 2 (by kernel_rfl)
theorem p_f0 (es:List (Value × AV)):tailF P G 1 fna aE ⟨aV,(base es).set 3 .gone,[.mark 2]⟩ []=some (.ret nilS,[.box [.md true es]],[]):=by kernel_rfl
theorem p_f1 (es:List (Value × AV)) (cur:Option (Value × AV)) (o:OP) (v:List OP):tailF P G 1 fna aE ⟨aV,(aqS es cur [] (o::v)).set 3 .gone,[.mark 2]⟩ [] =
 some (.ret (.own 7 v.length 0 (o::v).length),[.box [.md true es],.box [.own 7 v.length 0 (o::v).length],.gone,.gone,.iter cur [],.gone,.gone,.arr v.length 17 false (ocs (o::v))],[]):=by kernel_rfl
noncomputable def cH (es:List (Value × AV)) (cur:Option (Value × AV)):List OP→List AObj
 | []=>[.box [.md true es]]
 | o::v=>[.box [.md true es],.box [.own 7 v.length 0 (o::v).length],.gone,.gone,.iter cur [],.gone,.gone,.arr v.length 17 false (ocs (o::v))]
def cO:List OP→AV
 | []=>nilS
 | o::v=>.own 7 v.length 0 (o::v).length
def CF (es:List (Value × AV)) (os:List OP) (out:AOut) (H2:List AObj):Prop:=∃ v cur,v.Perm os∧out = .ret (cO v)∧H2=cH es cur v
theorem append_f (os:List OP) (hos:os.length≤1000000):CallF P G 123 [nilS,vsV] [.box [.md true (os.map en)]] (CF (os.map en) os):=by
 have hfn:P.funcs[123]? = some fna:=by kernel_rfl
 have hb:fna.body=some (.seq a0 (.seq (.seq a1 (.block 0 (.rangeFunc (.tmp 6) #[7] aX aY))) aE)):=by kernel_rfl
 refine callF_sem hfn hb fun V a hH hG hok=>?_
 have h0:V.H.length=1:=by rw [hH]; rfl
 have hn:fna.ntmps - [nilS,vsV].length=11:=by kernel_rfl
 rw [hn] at hok
 refine PieceC.seq (p_0 (os.map en)) h0 (Step.refl V) hG hok fun V1 b1 s1 g1 k1=>?_
 refine Go.wpIn_seq ?_
 refine PieceC.seq (p_1 (os.map en)) h0 s1 g1 k1 fun V2 b2 s2 g2 k2=>?_
 refine Go.wpIn_block ?_
 have ht:funTarget (evA G aV (.tmp 6))=some (95,[],[.ptr 0 0]):=by kernel_rfl
 refine Go.wpIn_mono (range_fam (P:=P) (G:=G) (n0:=1) (s:=⟨aV,[.box [.md true (os.map en)],.box [nilS]],[]⟩) (others 13 [2]) ht (by kernel_rfl) (F:=VF (os.map en) os)
  (values1_f os hos) (fun H2 h=>?_) h0 s2 g2 k2) fun e a3 w3 hE=>?_
 · obtain ⟨v,cur,_,rfl⟩:=h
   cases v<;>exact ⟨_,_,_,_,rfl⟩
 · obtain ⟨H2,⟨v,cur,hp,rfl⟩,V3,rfl,m1,m2,m3,m4⟩:=hE
   cases e<;>first | exact m4.elim | skip
   show aE.wpIn (fz none) 0 P _ a3 V3.w
   cases v with
   | nil =>
    exact Go.wpIn_mono (tail_run [] (p_f0 (os.map en)) h0 m1 m2 m3) fun e a w h=>bodyM_mono (fun e w h=>⟨_,_,⟨[],cur,hp,rfl,rfl⟩,h⟩) h
   | cons o v =>
    exact Go.wpIn_mono (tail_run [] (p_f1 (os.map en) cur o v) h0 m1 m2 m3) fun e a w h=>bodyM_mono (fun e w h=>⟨_,_,⟨o::v,cur,hp,rfl,rfl⟩,h⟩) h
end Go.Mg


namespace Go.Am
open Go
section
variable {P:Program} {G:Nat→Option (List AV)}
def argT (o:Oper):Array TypeId:=match o.op with
 | .call c=>c.argTypes
 | _=>#[]
theorem callF_op {ops:Array Oper} {r:Option Nat} {Q:Exit→Act→World→Prop} {i:Nat} {rest:List Nat} {o:Oper} {args:Array Operand} {ts:Array TypeId} {f:FuncId} {fn:Func} {H:List AObj} {F:AOut→List AObj→Prop} {V:View} {a:Act} {env:List AV} {ds:List ADef}
 (ho:ops[i]? = some o) (hgd:o.guard=none) (hop:o.op = .call { callee:=.value (.func f),args:=args,argTypes:=ts }) (hfn:P.funcs[f]? = some fn) (hok:funcOk P f=true)
 (hC:CallF P G f (args.toList.map (evA G env)) H F) (hG:HeapRep G V) (hH:V.H=H) (he:EnvOk V env a) (hd:DefsRep V ds a.defers) (hret:∀ out H',F out H'→∃ x,out = .ret x)
 (next:∀ x H' V' a',F (.ret x) H'→Step V V'→HeapRep G V'→V'.H=H'→EnvOk V' (putA env o.dst x) a'→DefsRep V' ds a'.defers→wpOpsIn (fz r) 0 P ops Q rest a' V'.w):wpOpsIn (fz r) 0 P ops Q (i::rest) a V.w:=by
 have hreps:∀ l:List Operand,Reps V (l.map (evA G env)) (l.map a.eval):=by
  intro l
  induction l with
  | nil=>exact ⟨rfl,fun j hj=>absurd hj (by simp)⟩
  | cons y l ih=>exact .cons (evA_sound (a:=a) (env:=env) (y:=y) hG fun t _=>he.get t) ih
 have hc:=hC V _ hH hG (hreps args.toList)
 refine callV_wp (g:=.func f) (us:=#[]) (vs:=#[]) ho hgd hop hfn hok rfl (R:=fun e w'=>∃ out H',F out H'∧Goes G V H' out e w') ?_ fun e w' hE=>?_
 · have e:#[]++args.map a.eval++#[]=(args.toList.map a.eval).toArray:=by
    apply Array.ext'
    simp
   rw [e]
   exact hc
 · obtain ⟨out,H',hF,V',rfl,s1,g1,h1,ho'⟩:=hE
   obtain ⟨x,rfl⟩:=hret out H' hF
   cases e with
   | returned v =>
    refine ⟨v,rfl,next x H' V' _ hF s1 g1 h1 ((he.step s1).put o.dst ho') ?_⟩
    rw [put_def]
    exact hd.step s1
   | panicked ch=>exact ho'.elim
   | outgrown=>exact ho'.elim
end
end Go.Am
namespace Go.Mg
open Go Go.Am Go.Proofs Go.Seat Go.Vec Go.Cdc Go.Ops
noncomputable def fnc:Func:=(P.funcs[93]?).getD default
noncomputable def bdc:Code:=bodyOf P 93
noncomputable def c0:Code:=Code.hd bdc
noncomputable def opsc:Array Oper:=opsOf (Code.hd (Code.tl bdc))
noncomputable def opc' (i:Nat):Oper:=opsc.toList.getD i default
theorem c_0 (es:List (Value × AV)):PieceC P G none 1 c0 ⟨[vsV]++List.replicate (fnc.ntmps - 1) (.lit undef),[.box [.md true es]],[]⟩ ⟨slots 5 [(0,vsV)],[.box [.md true es]],[]⟩:=piece_of [] (others 5 [0]) 1 (by kernel_rfl)
theorem c_1 (es:List (Value × AV)):runD P G none opsc 0 [opc' 0] (slots 5 [(0,vsV)]) [.box [.md true es]] [] []=some (.normal,slots 5 [(0,vsV),(3,vsV)],[.box [.md true es]],[],[],[]):=by kernel_rfl
theorem c_2 (H:List AObj) (x:AV):runD P G none opsc 2 [opc' 2] (slots 5 [(0,vsV),(3,vsV),(4,x)]) H [] []=some (.normal,slots 5 [(0,vsV),(2,x),(3,vsV),(4,x)],H,[],[],[]):=by kernel_rfl
theorem c_3 (es:List (Value × AV)) (cur:Option (Value × AV)) (v:List OP):finF P G 1 fnc .ret ⟨slots 5 [(0,vsV),(2,cO v),(3,vsV),(4,cO v)],cH es cur v,[]⟩ []=some (.ret (cO v),cH es cur v,[]):=by
 cases v with
 | nil=>kernel_rfl
 | cons o v=>kernel_rfl
noncomputable def dH (es:List (Value × AV)):List OP→List AObj
 | []=>[.box [.md true es]]
 | o::v=>[.box [.md true es],.gone,.gone,.gone,.gone,.gone,.gone,.arr v.length 17 false (ocs (o::v))]
def DF (es:List (Value × AV)) (os:List OP) (out:AOut) (H2:List AObj):Prop:=∃ v,v.Perm os∧out = .ret (cO v)∧H2=dH es v
theorem cH_sub (es:List (Value × AV)) (cur:Option (Value × AV)):∀ v:List OP,HSub (cH es cur v) (dH es v)
 | []=>⟨.inl rfl,trivial⟩
 | _::_=>⟨.inl rfl,.inr trivial,.inr trivial,.inr trivial,.inr trivial,.inr trivial,.inr trivial,.inl rfl,trivial⟩
theorem collect_f (os:List OP) (hos:os.length≤1000000):CallF P G 93 [vsV] [.box [.md true (os.map en)]] (DF (os.map en) os):=by
 have hfn:P.funcs[93]? = some fnc:=by kernel_rfl
 have hb:fnc.body=some (.seq c0 (.seq (.region 1 opsc false) .ret)):=by kernel_rfl
 have hfa:P.funcs[123]? = some fna:=by kernel_rfl
 refine callF_sem hfn hb fun V a hH hG hok=>?_
 have h0:V.H.length=1:=by rw [hH]; rfl
 refine PieceC.seq (c_0 (os.map en)) h0 (Step.refl V) hG hok fun V1 a1 s1 g1 k1=>?_
 refine Go.wpIn_seq ?_
 refine wpIn_region ?_
 refine runD_pre (os1:=[opc' 0]) (os2:=[opc' 1,opc' 2]) (i:=0) (orc:=[]) (orc':=[]) (ps:=[]) (r:=none) (c_1 (os.map en)) trivial (by kernel_rfl) g1 k1.H k1.env k1.defs fun V2 a2 s2 g2 hh2 e2 d2=>?_
 have hrest:(List.range opsc.size).drop (0+[opc' 0].length)=1::(List.range opsc.size).drop 2:=by kernel_rfl
 rw [hrest]
 have hC:=append_f os hos
 have hargs:(#[Operand.const (.slice none 0 0),.tmp 3]:Array Operand).toList.map (evA G (slots 5 [(0,vsV),(3,vsV)]))=[nilS,vsV]:=by kernel_rfl
 rw [← hargs] at hC
 refine callF_op (o:=opc' 1) (ts:=argT (opc' 1)) (by kernel_rfl) (by kernel_rfl) (by kernel_rfl) hfa (by kernel_rfl) hC g2 hh2 e2 d2 (fun out H' ⟨v,cur,_,h,_⟩=>⟨_,h⟩) ?_
 rintro x H' V3 a3 ⟨v,cur,hp,hx,rfl⟩ s3 g3 hh3 e3 d3
 injection hx with hx
 subst hx
 have e3:EnvOk V3 (slots 5 [(0,vsV),(3,vsV),(4,cO v)]) a3:=e3
 refine runD_sound (c_2 (cH (os.map en) cur v) (cO v)) trivial (by kernel_rfl) g3 hh3 e3 d3 (fun _ V4 a4 s4 g4 hh4 e4 d4=>?_) fun x hx=>by cases hx
 show Code.ret.wpIn (fz none) 0 P _ a4 V4.w
 have hfin:=c_3 (os.map en) cur v
 rw [← h0] at hfin
 have hs:Step V V4:=((s1.trans s2).trans s3).trans s4
 have hst:StOk V4 ⟨slots 5 [(0,vsV),(2,cO v),(3,vsV),(4,cO v)],cH (os.map en) cur v,[]⟩ a4:=⟨e4,hh4,d4⟩
 exact Go.wpIn_mono (runC_sound (P:=P) (G:=G) (r:=none) (n0:=1) (orc:=[]) (ex:=.ret) (s':=⟨slots 5 [(0,vsV),(2,cO v),(3,vsV),(4,cO v)],cH (os.map en) cur v,[]⟩) Code.ret rfl trivial V V4 a4 h0 hs g4 hst) fun e a w h =>
  bodyM_mono (fun e w h=>⟨_,_,⟨v,hp,rfl,rfl⟩,h.sub (cH_sub (os.map en) cur v)⟩) (ends_goes hfin trivial e a w h)
end Go.Mg
