import Derived.Test.YtihbnnkcemjflaaGreatDoorG4
import Derived.RangeFuncCalls
import Derived.OrdersIn
set_option maxRecDepth 100000
set_option linter.unusedSimpArgs false
set_option linter.unusedVariables false

namespace Go.Am
open Go
def AOut.ren (σ:Nat→Nat):AOut→AOut
 | .ret x=>.ret (x.ren σ)
 | .pan x=>.pan (x.ren σ)
def OutRep (V:View):AOut→Ending→Prop
 | .ret x,.returned v=>Rep V x v
 | .pan x,.panicked chain=>∃ v,chain=[{ v:=v,recovered:=false }]∧Rep V x v
 | _,_=>False
def Goes (G:Nat→Option (List AV)) (V:View) (H':List AObj) (out:AOut) (e:Ending) (w':World):Prop :=
 ∃ V':View,V'.w=w'∧Step V V'∧HeapRep G V'∧V'.H=H'∧OutRep V' out e
def CallC (P:Program) (G:Nat→Option (List AV)) (f:FuncId) (args:List AV) (H:List AObj) (out:AOut) (H':List AObj):Prop :=
 ∀ (V:View) (vs:List Value),V.H=H→HeapRep G V→Reps V args vs→CallsIn Fence.wide 0 P f vs.toArray V.w (Goes G V H' out)
def fz (r:Option Nat):Fence:={ Fence.wide with round:=r }
theorem callsIn_fz {P:Program} {f:FuncId} {args:Array Value} {w:World} {R:Ending→World→Prop} (r:Option Nat) (h:CallsIn Fence.wide 0 P f args w R):CallsIn (fz r) 0 P f args w R:=by
 cases r with
 | none=>exact h
 | some l=>exact CallsIn.inRound l h
theorem OutRep.fwd {V1 V2:View} {σ:Nat→Nat} (hk:Lk V1 V2 σ) {out:AOut} {e:Ending} (h:OutRep V1 out e):OutRep V2 (out.ren σ) e:=by
 cases out<;>cases e<;>simp only [OutRep,AOut.ren] at h ⊢
 · exact Rep.fwd hk h
 · obtain ⟨v,hv,hr⟩:=h; exact ⟨v,hv,Rep.fwd hk hr⟩
def at0 (e:List Nat) (i:Nat):Nat:=e.getD i 0
theorem at0_inj {e:List Nat} (h:e.Nodup) {i j:Nat} (hi:i<e.length) (hj:j<e.length) (he:at0 e i=at0 e j):i=j:=by
 unfold at0 at he
 have h1:=posOf_getD h hi
 have h2:=posOf_getD h hj
 rw [he,h2] at h1
 injection h1 with h1
 exact h1.symm
theorem CallC.frame {P:Program} {G:Nat→Option (List AV)} {f:FuncId} {args:List AV} {Hs Hs':List AObj} {out:AOut} (hc:CallC P G f args Hs out Hs') {V:View} (hG:HeapRep G V) {e:List Nat}
 (hnd:e.Nodup) (hlt:∀ a∈e,a<V.H.length) (hlen:Hs.length=e.length) (hobj:∀ (i:Nat) (o:AObj),Hs[i]? = some o→V.H[at0 e i]? = some (o.ren (at0 e)))
 (hids:∀ (i:Nat) (o:AObj),Hs[i]? = some o→o.idsLt e.length) {xs:List AV} {vs:List Value} (hx:Reps V xs vs) (hxs:xs=AV.renL (at0 e) args) (hargs:AV.idsLtL e.length args=true) :
 CallsIn Fence.wide 0 P f vs.toArray V.w (Goes G V (backHeap e V.H Hs') (out.ren (upto e V.H.length))):=by
 let V1:View:={ w:=V.w,M:=V.M,H:=Hs,ρ:=fun i=>V.ρ (at0 e i) }
 have hk:Lk V1 V (at0 e):=⟨rfl,fun _=>Iff.rfl,fun _ _=>rfl,hobj⟩
 have hG1:HeapRep G V1:=HeapRep.bwd hk hG (fun i o ho=>by show AObj.idsLt Hs.length o; rw [hlen]; exact hids i o ho) fun i j hi hj he=>at0_inj hnd (by simpa [V1,hlen] using hi) (by simpa [V1,hlen] using hj) he
 have hr:Reps V1 args vs:=Reps.bwd hk (by show AV.idsLtL Hs.length args=true; rw [hlen]; exact hargs) (hxs ▸ hx)
 have h:=hc V1 vs rfl hG1 hr
 refine ⟨h.1,fun cs hroom=>?_⟩
 obtain ⟨en,w',fr,hR,hrest⟩:=h.2 cs hroom
 refine ⟨en,w',fr,?_,hrest⟩
 obtain ⟨V1',h1,h2,h3,h4,h5⟩:=hR
 obtain ⟨V',k1,k2,k3,k4,k5,k6⟩:=Am.frame hG hnd hlt hlen hobj h2 h3
 exact ⟨V',k1.trans h1,k4,k5,by rw [k3,h4],h5.fwd k6⟩
mutual
def AV.idsIn (e:List Nat):AV→Bool
 | .ptr id _ | .apt id _ _ _ | .own id _ _ _ | .mp id | .yl id=>(posOf e id).isSome
 | .fn _ aZ bs=>AV.idsInL e aZ && AV.idsInL e bs
 | .ifc _ x=>x.idsIn e
 | .agg cs | .tup cs=>AV.idsInL e cs
 | _=>true
def AV.idsInL (e:List Nat):List AV→Bool
 | []=>true
 | x::xs=>x.idsIn e && AV.idsInL e xs
end
def pos0 (e:List Nat) (id:Nat):Nat:=(posOf e id).getD 0
theorem pos0_at {e:List Nat} {id:Nat} (h:(posOf e id).isSome=true):at0 e (pos0 e id)=id∧Nat.blt (pos0 e id) e.length=true:=by
 obtain ⟨i,hi⟩:=Option.isSome_iff_exists.1 h
 obtain ⟨h1,h2⟩:=posOf_some hi
 simp only [pos0,hi,Option.getD_some,at0]
 exact ⟨h2,by simp [h1]⟩
mutual
theorem ren_pos0 (e:List Nat):∀ x:AV,x.idsIn e=true→(x.ren (pos0 e)).ren (at0 e)=x∧(x.ren (pos0 e)).idsLt e.length=true
 | .lit _,_ | .imm _,_ | .sl ..,_ | .md ..,_ | .dead,_=>⟨rfl,rfl⟩
 | .ptr ..,h | .apt ..,h | .own ..,h | .mp _,h | .yl _,h=>by
  have:=pos0_at (e:=e) h
  exact ⟨by simp only [AV.ren,this.1],this.2⟩
 | .fn f aZ bs,h=>by
  simp only [AV.idsIn,Bool.and_eq_true] at h
  have h1:=renL_pos0 e aZ h.1
  have h2:=renL_pos0 e bs h.2
  exact ⟨by simp only [AV.ren,h1.1,h2.1],by simp only [AV.ren,AV.idsLt,h1.2,h2.2,Bool.and_self]⟩
 | .ifc t x,h=>by
  have:=ren_pos0 e x h
  exact ⟨by simp only [AV.ren,this.1],this.2⟩
 | .agg cs,h=>by
  have:=renL_pos0 e cs h
  exact ⟨by simp only [AV.ren,this.1],this.2⟩
 | .tup cs,h=>by
  have:=renL_pos0 e cs h
  exact ⟨by simp only [AV.ren,this.1],this.2⟩
theorem renL_pos0 (e:List Nat):∀ xs:List AV,AV.idsInL e xs=true→AV.renL (at0 e) (AV.renL (pos0 e) xs)=xs∧AV.idsLtL e.length (AV.renL (pos0 e) xs)=true
 | [],_=>⟨rfl,rfl⟩
 | x::xs,h=>by
  simp only [AV.idsInL,Bool.and_eq_true] at h
  have h1:=ren_pos0 e x h.1
  have h2:=renL_pos0 e xs h.2
  exact ⟨by simp only [AV.renL,h1.1,h2.1],by simp only [AV.renL,AV.idsLtL,h1.2,h2.2,Bool.and_self]⟩
end
mutual
theorem ren_none (σ:Nat→Nat):∀ x:AV,x.idsIn []=true→x.ren σ=x∧∀ n,x.idsLt n=true
 | .lit _,_ | .imm _,_ | .sl ..,_ | .md ..,_ | .dead,_=>⟨rfl,fun _=>rfl⟩
 | .ptr ..,h | .apt ..,h | .own ..,h | .mp _,h | .yl _,h=>by simp [AV.idsIn,posOf] at h
 | .fn f aZ bs,h=>by
  simp only [AV.idsIn,Bool.and_eq_true] at h
  have h1:=renL_none σ aZ h.1
  have h2:=renL_none σ bs h.2
  exact ⟨by simp only [AV.ren,h1.1,h2.1],fun n=>by simp only [AV.idsLt,h1.2,h2.2,Bool.and_self]⟩
 | .ifc t x,h=>by
  have:=ren_none σ x h
  exact ⟨by simp only [AV.ren,this.1],this.2⟩
 | .agg cs,h=>by
  have:=renL_none σ cs h
  exact ⟨by simp only [AV.ren,this.1],this.2⟩
 | .tup cs,h=>by
  have:=renL_none σ cs h
  exact ⟨by simp only [AV.ren,this.1],this.2⟩
theorem renL_none (σ:Nat→Nat):∀ xs:List AV,AV.idsInL [] xs=true→AV.renL σ xs=xs∧∀ n,AV.idsLtL n xs=true
 | [],_=>⟨rfl,fun _=>rfl⟩
 | x::xs,h=>by
  simp only [AV.idsInL,Bool.and_eq_true] at h
  have h1:=ren_none σ x h.1
  have h2:=renL_none σ xs h.2
  exact ⟨by simp only [AV.renL,h1.1,h2.1],fun n=>by simp only [AV.idsLtL,h1.2,h2.2,Bool.and_self]⟩
end
def AObj.renD (σ:Nat→Nat):AObj→AObj
 | .box cs=>.box (AV.renL σ cs)
 | .arr g sz fz xs=>.arr g sz fz xs
 | .map es=>.map es
 | .rng st p env ps aZ bd=>.rng st p (AV.renL σ env) ps aZ bd
 | .iter c l=>.iter c l
 | .dfd=>.dfd
 | .gone=>.gone
def AObj.plain:AObj→Prop
 | .arr _ _ _ xs=>∀ x∈xs,AV.idsInL [] x=true
 | .map es=>∀ e∈es,e.2.idsIn []=true
 | _=>True
theorem renD_eq {σ:Nat→Nat} {o:AObj} (h:o.plain):o.renD σ=o.ren σ:=by
 cases o<;>simp only [AObj.renD,AObj.ren,AObj.plain] at h ⊢
 case arr g sz fz xs =>
  congr 1
  exact ((List.map_congr_left fun x hx=>(renL_none σ x (h x hx)).1).trans (List.map_id _)).symm
 case map es =>
  congr 1
  refine ((List.map_congr_left (g:=id) fun x hx=>?_).trans (List.map_id _)).symm
  obtain ⟨k,v⟩:=x
  have:=h _ hx
  simp only [(ren_none σ v this).1,id]
theorem ids_lt {xs:List (List AV)} (h:∀ x∈xs,AV.idsInL [] x=true) (n:Nat):∀ x∈xs,AV.idsLtL n x=true:=fun x hx=>(renL_none id x (h x hx)).2 n
def AObj.look (e:List Nat):AObj→Option (AObj × List Prop)
 | .box cs=>if AV.idsInL e cs=true then some (.box (AV.renL (pos0 e) cs),[]) else none
 | .arr g sz fz xs=>some (.arr g sz fz xs,[∀ x∈xs,AV.idsInL [] x=true])
 | .map es=>some (.map es,[∀ e∈es,e.2.idsIn []=true])
 | .rng st p env ps aZ bd=>if AV.idsInL e env=true then some (.rng st p (AV.renL (pos0 e) env) ps aZ bd,[]) else none
 | .iter c l=>some (.iter c l,[])
 | .dfd=>some (.dfd,[])
 | .gone=>some (.gone,[])
theorem look_sound {e:List Nat} {o o':AObj} {ps:List Prop} (h:o.look e=some (o',ps)) (hps:AllP ps):o'.ren (at0 e)=o∧o'.idsLt e.length∧o'.plain:=by
 cases o<;>simp only [AObj.look] at h
 case box cs =>
  split at h
  · rename_i hc; cases h
    have:=renL_pos0 e cs hc
    exact ⟨by simp only [AObj.ren,this.1],this.2,trivial⟩
  · cases h
 case arr g sz fz xs =>
  cases h
  refine ⟨(renD_eq (o:=.arr g sz fz xs) hps.1).symm,fun x hx=>(renL_none id x (hps.1 x hx)).2 _,hps.1⟩
 case map es =>
  cases h
  exact ⟨(renD_eq (o:=.map es) hps.1).symm,fun x hx=>(ren_none id _ (hps.1 x hx)).2 _,hps.1⟩
 case rng st p env ps aZ bd =>
  split at h
  · rename_i hc; cases h
    have:=renL_pos0 e env hc
    exact ⟨by simp only [AObj.ren,this.1],this.2,trivial⟩
  · cases h
 case iter=>cases h; exact ⟨rfl,trivial,trivial⟩
 case dfd=>cases h; exact ⟨rfl,trivial,trivial⟩
 case gone=>cases h; exact ⟨rfl,trivial,trivial⟩
def looks (e:List Nat) (H:List AObj):List Nat→Option (List AObj × List Prop)
 | []=>some ([],[])
 | id::ids=>match H[id]? with
  | some o=>match o.look e,looks e H ids with
   | some (o',ps),some (os,qs)=>some (o'::os,ps++qs)
   | _,_=>none
  | none=>none
theorem looks_sound {e:List Nat} {H:List AObj}:∀ {ids:List Nat} {Hs:List AObj} {ps:List Prop},looks e H ids=some (Hs,ps)→AllP ps→Hs.length=ids.length∧(∀ a∈ids,a<H.length) ∧
 ∀ (i:Nat) (o:AObj),Hs[i]? = some o→H[ids.getD i 0]? = some (o.ren (at0 e))∧o.idsLt e.length∧o.plain
 | [],Hs,ps,h,_=>by
  simp only [looks,Option.some.injEq,Prod.mk.injEq] at h
  obtain ⟨rfl,rfl⟩:=h
  exact ⟨rfl,by simp,fun i o ho=>by simp at ho⟩
 | id::ids,Hs,ps,h,hps=>by
  unfold looks at h
  split at h
  · rename_i o hH
    split at h
    · rename_i o' qs os rs h1 h2
      cases h
      obtain ⟨hq,hr⟩:=allP_append.1 hps
      obtain ⟨k1,k2,k3⟩:=look_sound h1 hq
      obtain ⟨l1,l2,l3⟩:=looks_sound h2 hr
      refine ⟨by simp [l1],fun a ha=>?_,fun i ob hi=>?_⟩
      · rcases List.mem_cons.1 ha with rfl | ha
        · exact (List.getElem?_eq_some_iff.1 hH).1
        · exact l2 a ha
      · cases i with
        | zero =>
         simp only [List.getElem?_cons_zero,Option.some.injEq] at hi
         subst hi
         exact ⟨by simp only [List.getD_cons_zero]; rw [hH,k1],k2,k3⟩
        | succ i =>
         simp only [List.getElem?_cons_succ] at hi
         simpa using l3 i ob hi
    · cases h
  · cases h
def putD (σ:Nat→Nat):List Nat→List AObj→List AObj→List AObj
 | [],_,H=>H
 | _::_,[],H=>H
 | id::e,o::os,H=>putD σ e os (H.set id (o.renD σ))
def backD (e:List Nat) (H Hs:List AObj):List AObj:=putD (upto e H.length) e Hs H++(Hs.drop e.length).map (AObj.renD (upto e H.length))
theorem putD_eq (σ:Nat→Nat):∀ (e:List Nat) (os H:List AObj),(∀ o∈os,o.plain)→putD σ e os H=putBack σ e os H
 | [],_,_,_=>rfl
 | _::_,[],_,_=>rfl
 | id::e,o::os,H,h=>by rw [putD,putBack,renD_eq (h o (by simp)),putD_eq σ e os _ fun o ho=>h o (by simp [ho])]
theorem backD_eq {e:List Nat} {H Hs:List AObj} (h:∀ o∈Hs,o.plain):backD e H Hs=backHeap e H Hs:=by
 unfold backD backHeap
 rw [putD_eq _ _ _ _ h]
 congr 1
 exact List.map_congr_left fun o ho=>renD_eq (h o (List.mem_of_mem_drop ho))
def plains:List AObj→List Prop
 | []=>[]
 | .arr _ _ _ xs::os=>(∀ x∈xs,AV.idsInL [] x=true)::plains os
 | .map es::os=>(∀ e∈es,e.2.idsIn []=true)::plains os
 | _::os=>plains os
theorem plains_sound:∀ {os:List AObj},AllP (plains os)→∀ o∈os,o.plain
 | [],_,_,h=>by cases h
 | o::os,h,o',ho=>by
  cases o<;>simp only [plains] at h<;>rcases List.mem_cons.1 ho with rfl | ho<;>first
   | trivial
   | exact h.1
   | exact plains_sound h.2 _ ho
   | exact plains_sound h _ ho
end Go.Am


namespace Go.Am
open Go
def OpOk (P:Program) (G:Nat→Option (List AV)) (r:Option Nat) (V:View) (a:Act) (o:Oper) (out:AOut) (H':List AObj):Prop :=
 ∀ (next:Act→World→Prop) (Q:Exit→Act→World→Prop),
  (∀ V' v x,out = .ret x→Step V V'→HeapRep G V'→V'.H=H'→Rep V' x v→next (a.put o.dst v) V'.w) →
  (∀ V' v x,out = .pan x→Step V V'→HeapRep G V'→V'.H=H'→Rep V' x v→Q (.panic [{ v:=v,recovered:=false }]) a V'.w) →
  o.wpIn (fz r) 0 P a V.w next Q
section
variable {P:Program} {G:Nat→Option (List AV)} {r:Option Nat} {V:View} {a:Act} {o:Oper}
theorem OpOk.of_value {V':View} {x:AV} {v:Value} {n:Next} (hd:∀ c,o.op≠.defer c) (hrun:(execOp a.eval o).run P V.w = .ok n V'.w) (hn:n = .value v∨(n = .skip∧v=undef)) (hs:Step V V') (hG:HeapRep G V')
 (hr:Rep V' x v):OpOk P G r V a o (.ret x) V'.H:=by
 intro next Q h1 _
 refine ⟨fun _ _=>trivial,?_⟩
 rw [Oper.semAt_eq _ _ _ hd,hrun]
 have:=h1 V' v x rfl hs hG rfl hr
 rcases hn with rfl | ⟨rfl,rfl⟩<;>exact this
theorem OpOk.of_call {f:FuncId} {args:Array Value} {out:AOut} {H':List AObj} (hd:∀ c,o.op≠.defer c) (hrun:(execOp a.eval o).run P V.w = .ok (.enter f args) V.w) (hc:CallsIn Fence.wide 0 P f args V.w (Goes G V H' out)) :
 OpOk P G r V a o out H':=by
 intro next Q h1 h2
 refine ⟨fun _ _=>trivial,?_⟩
 rw [Oper.semAt_eq _ _ _ hd,hrun]
 refine ⟨fun h=>(by cases h),(callsIn_fz r hc).mono fun e w' he=>?_⟩
 obtain ⟨V',rfl,k1,k2,k3,k4⟩:=he
 cases e with
 | returned v =>
  cases out with
  | ret x=>exact h1 V' v x rfl k1 k2 k3 k4
  | pan x=>exact k4.elim
 | panicked ch =>
  cases out with
  | ret x=>exact k4.elim
  | pan x =>
   obtain ⟨v,rfl,hr⟩:=k4
   exact h2 V' v x rfl k1 k2 k3 hr
 | outgrown=>cases out<;>exact k4.elim
end
mutual
def AV.slFree:AV→Bool
 | .lit _=>true
 | .agg cs | .tup cs=>AV.slFreeL cs
 | .ifc _ x=>x.slFree
 | _=>false
def AV.slFreeL:List AV→Bool
 | []=>true
 | x::xs=>x.slFree && AV.slFreeL xs
end
theorem slFreeL_getD:∀ {xs:List AV} (j:Nat),AV.slFreeL xs=true→j<xs.length→(xs.getD j .dead).slFree=true
 | [],j,_,hj=>absurd hj (by simp)
 | x::xs,0,h,_=>by simp [AV.slFreeL] at h; simpa using h.1
 | x::xs,j+1,h,hj=>by simp [AV.slFreeL] at h; simpa using slFreeL_getD j h.2 (by simpa using hj)
theorem idsInL_getD {e:List Nat}:∀ {xs:List AV} (j:Nat),AV.idsInL e xs=true→j<xs.length→(xs.getD j .dead).idsIn e=true
 | [],j,_,hj=>absurd hj (by simp)
 | x::xs,0,h,_=>by simp [AV.idsInL] at h; simpa using h.1
 | x::xs,j+1,h,hj=>by simp [AV.idsInL] at h; simpa using idsInL_getD j h.2 (by simpa using hj)
theorem prep_slFree {w w':World} {M M':Nat→Prop} {x:AV} {v:Value} (h:PRep w M x v):x.slFree=true→PRep w' M' x v:=by
 induction h with
 | lit v=>exact fun _=>.lit v
 | imm=>exact fun h=>by cases h
 | sl=>exact fun h=>by cases h
 | md=>exact fun h=>by cases h
 | agg cs vs hl _ ih=>exact fun h=>.agg cs vs hl fun j hj=>ih j hj (slFreeL_getD j h hj)
 | tup cs vs hl _ ih=>exact fun h=>.tup cs vs hl fun j hj=>ih j hj (slFreeL_getD j h hj)
 | ifc t x v _ ih=>exact fun h=>.ifc t x v (ih h)
 | fn=>exact fun h=>by cases h
theorem rep_slFree {V V':View} {x:AV} {v:Value} (h:Rep V x v):x.slFree=true→Rep V' x v:=by
 induction h with
 | pure x v h=>exact fun hf=>.pure _ _ (prep_slFree h hf)
 | dead v=>exact fun h=>by cases h
 | agg cs vs hl _ ih=>exact fun h=>.agg cs vs hl fun j hj=>ih j hj (slFreeL_getD j h hj)
 | tup cs vs hl _ ih=>exact fun h=>.tup cs vs hl fun j hj=>ih j hj (slFreeL_getD j h hj)
 | ifc t x v _ ih=>exact fun h=>.ifc t x v (ih h)
 | fn=>exact fun h=>by cases h
 | ptr=>exact fun h=>by cases h
 | apt=>exact fun h=>by cases h
 | own=>exact fun h=>by cases h
 | mp=>exact fun h=>by cases h
 | yl=>exact fun h=>by cases h
theorem rep_idFree {V V':View} (hw:V'.w=V.w) (hM:∀ b,V'.M b→V.M b) {x:AV} {v:Value} (h:Rep V x v):x.idsIn []=true→Rep V' x v:=by
 induction h with
 | pure x v h=>exact fun _=>.pure _ _ (h.sameV hw hM)
 | dead v=>exact fun _=>.dead v
 | agg cs vs hl _ ih=>exact fun h=>.agg cs vs hl fun j hj=>ih j hj (idsInL_getD j h hj)
 | tup cs vs hl _ ih=>exact fun h=>.tup cs vs hl fun j hj=>ih j hj (idsInL_getD j h hj)
 | ifc t x v _ ih=>exact fun h=>.ifc t x v (ih h)
 | fn f aZ bs us vs hu hv _ _ iha ihb =>
  intro h
  simp only [AV.idsIn,Bool.and_eq_true] at h
  exact .fn f aZ bs us vs hu hv (fun j hj=>iha j hj (idsInL_getD j h.1 hj)) fun j hj=>ihb j hj (idsInL_getD j h.2 hj)
 | ptr=>exact fun h=>by simp [AV.idsIn,posOf] at h
 | apt=>exact fun h=>by simp [AV.idsIn,posOf] at h
 | own=>exact fun h=>by simp [AV.idsIn,posOf] at h
 | mp=>exact fun h=>by simp [AV.idsIn,posOf] at h
 | yl=>exact fun h=>by simp [AV.idsIn,posOf] at h
theorem own_data {G:Nat→Option (List AV)} {V V':View} (hG:HeapRep G V) (hw:V'.w=V.w) (hM:∀ b,V'.M b→V.M b) {id g sz off len:Nat} {fz:Bool} {ys:List (List AV)} (hH:V.H[id]? = some (.arr g sz fz ys)) (hM':¬ V'.M (V.ρ id)) {v:Value} (h:Rep V (.own id g off len) v)
 {z:List (List AV)} (hz:(ys.drop off).take len=z) (hl:z.length=len) (hp:∀ c∈z,c.all AV.pureB=true):PRep V'.w V'.M (.sl sz false z) v:=by
 obtain ⟨A,cap,c,t,rfl,hA,h2,h3,h4,h5⟩:=own_cur hH h
 obtain ⟨t',c',o1,o2,o3,o4⟩:=hG.obj id _ hH
 rw [h4] at o1
 cases o1
 subst hl
 have hzk:∀ k,k<z.length→ys.getD (off+k) []=z.getD k []∧off+k<ys.length:=fun k hk=>by
  have hk':=hk
  rw [← hz,List.length_take,List.length_drop] at hk'
  refine ⟨?_,by omega⟩
  have:z.getD k []=((ys.drop off).take z.length).getD k []:=by rw [hz]
  rw [this]
  simp [List.getD_eq_getElem?_getD,List.getElem?_drop,hk]
 have cell:∀ k j,k<z.length→j<sz→∃ u,c[off * sz+k * sz+j]? = some u∧u.oneCell'=true∧Rep V ((z.getD k []).getD j .dead) u:=fun k j hk hj=>by
  obtain ⟨e1,e2⟩:=hzk k hk
  obtain ⟨u,hu,h1,hr⟩:=o4 (off+k) j e2 hj
  rw [e1] at hr
  rw [Nat.add_mul] at hu
  exact ⟨u,hu,h1,hr⟩
 have hmem:∀ x∈z,x∈ys:=fun x hx=>by rw [← hz] at hx; exact List.mem_of_mem_drop (List.mem_of_mem_take hx)
 have pk:∀ k j,k<z.length→j<sz→((z.getD k []).getD j .dead).pureB=true:=fun k j hk hj=>by
  have hzk':z.getD k []=z[k]:=by simp [List.getD_eq_getElem?_getD,hk]
  rw [hzk']
  have hlen:j<z[k].length:=by rw [o3 _ (hmem _ (List.getElem_mem hk))]; exact hj
  rw [List.getD_eq_getElem?_getD,List.getElem?_eq_getElem hlen]
  exact List.all_eq_true.1 (hp _ (List.getElem_mem hk)) _ (List.getElem_mem hlen)
 refine .sl sz false z A cap (V.ρ id) (off * sz) (fun k j=>c.getD (off * sz+k * sz+j) undef) (fun hne=>?_) (fun _ _=>hM') h2 (fun h=>by cases h) (fun x hx=>o3 x (hmem x hx)) (fun k j hk hj=>?_) (fun k j hk hj=>?_) (fun k j hk hj=>?_)
 · have:0<z.length:=List.length_pos_iff.2 hne
   exact hA (by omega)
 · obtain ⟨u,hu,_⟩:=cell k j hk hj
   simp [World.cell?,hw,h4,Array.getD_eq_getD_getElem?,hu]
 · obtain ⟨u,hu,h1,_⟩:=cell k j hk hj
   simpa [Array.getD_eq_getD_getElem?,hu] using h1
 · obtain ⟨u,hu,_,hr⟩:=cell k j hk hj
   have e:c.getD (off * sz+k * sz+j) undef=u:=by simp [Array.getD_eq_getD_getElem?,hu]
   rw [e]
   exact (pureB_sound (pk k j hk hj) hr).sameV hw hM
def borrow (H:List AObj):List AV→List (List (List AV))→Option (List AV × List Prop)
 | [],_=>some ([],[])
 | .own id g off len::xs,z::zs=>match H[id]? with
  | some (.arr g' sz _ ys)=>(borrow H xs zs).map fun (aZ,ps)=>(.sl sz false z::aZ,(g'=g)::((ys.drop off).take len=z)::(z.length=len)::(∀ c∈z,c.all AV.pureB=true)::ps)
  | _=>none
 | .ptr id off::xs,zs=>match H[id]? with
  | some (.box cells)=>if cells.all AV.pureB=true∧off≤cells.length then (borrow H xs zs).map fun (aZ,ps)=>(.imm (cells.drop off)::aZ,ps) else none
  | _=>none
 | x::xs,zs=>if x.idsIn []=true then (borrow H xs zs).map fun (aZ,ps)=>(x::aZ,ps) else none
theorem borrow_sound {G:Nat→Option (List AV)} {V V':View} (hG:HeapRep G V) (hw:V'.w=V.w) (hM:∀ b,¬ V'.M b):∀ {xs:List AV} {zs:List (List (List AV))} {aZ:List AV} {ps:List Prop} {vs:List Value},borrow V.H xs zs=some (aZ,ps)→AllP ps→Reps V xs vs→Reps V' aZ vs
 | [],zs,aZ,ps,vs,h,_,hr=>by
  have:aZ=[]:=by cases zs<;>(simp only [borrow,Option.some.injEq,Prod.mk.injEq] at h; exact h.1.symm)
  subst this
  have:vs=[]:=List.eq_nil_of_length_eq_zero (by simpa using hr.1)
  subst this
  exact .nil
 | x::xs,zs,aZ,ps,[],h,_,hr=>by have:=hr.1; simp at this
 | x::xs,zs,aZ,ps,v::vs,h,hps,hr=>by
  have hx:=hr.head
  have ht:=hr.tail
  have gen:(if x.idsIn []=true then (borrow V.H xs zs).map fun (aZ,ps)=>(x::aZ,ps) else none)=some (aZ,ps)→Reps V' aZ (v::vs):=by
   intro h
   split at h
   · rename_i hi
     cases hb:borrow V.H xs zs with
     | none=>simp [hb] at h
     | some q =>
      obtain ⟨as',ps'⟩:=q
      simp only [hb,Option.map_some,Option.some.injEq,Prod.mk.injEq] at h
      obtain ⟨rfl,rfl⟩:=h
      exact .cons (rep_idFree hw (fun b hb=>absurd hb (hM b)) hx hi) (borrow_sound hG hw hM hb hps ht)
   · cases h
  cases x with
  | own id g off len =>
   cases zs with
   | nil=>simp [borrow,AV.idsIn,posOf] at h
   | cons z zs =>
    simp only [borrow] at h
    split at h
    · rename_i g' sz fz ys hH
      cases hb:borrow V.H xs zs with
      | none=>simp [hb] at h
      | some q =>
       obtain ⟨as',ps'⟩:=q
       simp only [hb,Option.map_some,Option.some.injEq,Prod.mk.injEq] at h
       obtain ⟨rfl,rfl⟩:=h
       obtain ⟨hg,h1,h2,h3,h4⟩:=hps
       subst hg
       exact .cons (.pure _ _ (own_data hG hw (fun b hb=>absurd hb (hM b)) hH (hM _) hx h1 h2 h3)) (borrow_sound hG hw hM hb h4 ht)
    · cases h
  | ptr id off =>
   simp only [borrow] at h
   split at h
   · rename_i cells hH
     split at h
     · rename_i hcond
       obtain ⟨hp,hle⟩:=hcond
       cases hb:borrow V.H xs zs with
       | none=>simp [hb] at h
       | some q =>
        obtain ⟨as',ps'⟩:=q
        simp only [hb,Option.map_some,Option.some.injEq,Prod.mk.injEq] at h
        obtain ⟨rfl,rfl⟩:=h
        refine .cons (.pure _ _ ?_) (borrow_sound hG hw hM hb hps ht)
        obtain ⟨_,rfl⟩:=rep_ptr hx
        have hc:=(box_cells hG hH).drop off
        rw [Nat.zero_add] at hc
        obtain ⟨us,hu,hcell⟩:=hc
        refine .imm _ _ (fun j=>us.getD j undef) rfl (fun _=>hM _) (fun j hj=>?_) (fun j hj=>?_)
        · rw [hw]; exact hcell j hj
        · refine (pureB_sound ?_ (hu.2 j hj)).sameV hw (fun b hb=>absurd hb (hM b))
          have hj':off+j<cells.length:=by rw [List.length_drop] at hj; omega
          rw [List.getD_eq_getElem?_getD,List.getElem?_drop,List.getElem?_eq_getElem hj']
          exact List.all_eq_true.1 hp _ (List.getElem_mem hj')
     · cases h
   · cases h
  | lit u=>exact gen (by simpa only [borrow] using h)
  | apt i g k j=>exact gen (by simpa only [borrow] using h)
  | imm cs=>exact gen (by simpa only [borrow] using h)
  | sl s t ys=>exact gen (by simpa only [borrow] using h)
  | md it es=>exact gen (by simpa only [borrow] using h)
  | mp i=>exact gen (by simpa only [borrow] using h)
  | yl i=>exact gen (by simpa only [borrow] using h)
  | fn f p q=>exact gen (by simpa only [borrow] using h)
  | ifc t y=>exact gen (by simpa only [borrow] using h)
  | agg cs=>exact gen (by simpa only [borrow] using h)
  | tup cs=>exact gen (by simpa only [borrow] using h)
  | dead=>exact gen (by simpa only [borrow] using h)
theorem CallC.read {P:Program} {G:Nat→Option (List AV)} {f:FuncId} {args:List AV} {out:AV} (hc:CallC P G f args [] (.ret out) []) {V:View} (hG:HeapRep G V) {xs:List AV} {zs:List (List (List AV))} {ps:List Prop} (hb:borrow V.H xs zs=some (args,ps)) (hps:AllP ps)
 (hf:out.slFree=true) {vs:List Value} (hx:Reps V xs vs):CallsIn Fence.wide 0 P f vs.toArray V.w (Goes G V V.H (.ret out)):=by
 let V1:View:={ w:=V.w,M:=fun _=>False,H:=[],ρ:=V.ρ }
 have hG1:HeapRep G V1:=⟨fun _ h=>absurd h (by simp [V1]),fun _ _ h=>by simp [V1] at h,fun _ _ h=>absurd h (by simp [V1]),fun _ _ h=>by simp [V1] at h,fun g cs hg=>(hG.glob g cs hg).sameV rfl fun _ h=>h.elim⟩
 have h:=hc V1 vs rfl hG1 (borrow_sound (V':=V1) hG rfl (fun _ h=>h) hb hps hx)
 refine h.mono fun e w' he=>?_
 obtain ⟨V1',rfl,k1,k2,k3,k4⟩:=he
 have same:∀ b,b<V.w.heap.size→V1'.w.heap[b]? = V.w.heap[b]? := fun b hb=>(k1.keep b hb (fun id hid=>absurd hid (by simp [V1]))).1
 let V':View:={ w:=V1'.w,M:=fun b=>V.M b∧b<V.w.heap.size,H:=V.H,ρ:=V.ρ }
 have hs:Step V V':={
  os:=k1.os
  tape:=k1.tape
  output:=k1.output
  size:=k1.size
  drawn:=k1.drawn
  keep:=fun b hb _=>⟨same b hb,⟨fun h=>h.1,fun h=>⟨h,hb⟩⟩⟩
  data:=fun b hb hn=>⟨same b hb,fun h=>hn h.1⟩
  hlen:=Nat.le_refl _
  fresh:=fun id hid=>.inl ⟨hid,rfl⟩
  obj:=fun id hid=>.refl hid rfl rfl (same _ (hG.lt id hid)) }
 refine ⟨V',rfl,hs,?_,rfl,?_⟩
 · exact {
    lt:=fun id hid=>Nat.lt_of_lt_of_le (hG.lt id hid) k1.size
    obj:=fun id o ho=>(hG.obj id o ho).step hs (same _ (hG.lt id (List.getElem?_eq_some_iff.1 ho).1))
    inj:=hG.inj
    mutb:=fun id o ho hop=>⟨hG.mutb id o ho hop,hG.lt id (List.getElem?_eq_some_iff.1 ho).1⟩
    glob:=hG.glob_step hs }
 · cases e with
   | returned v=>exact rep_slFree k4 hf
   | panicked _=>exact k4.elim
   | outgrown=>exact k4.elim
def YieldC (P:Program) (G:Nat→Option (List AV)) (id:Nat) (args:List AV) (H:List AObj) (b:Bool) (H':List AObj):Prop :=
 ∀ (V:View) (vs:List Value),V.H=H→HeapRep G V→Reps V args vs→∃ (f:FuncId) (tmps:Array Value) (x y:Code),(Instr.yield (V.ρ id) vs.toArray).run P V.w = .ok (.round (V.ρ id) f tmps x y) V.w ∧
  ∀ r,RoundIn (fz r) 0 P (V.ρ id) f tmps x y V.w fun e w'=>∃ V':View,V'.w=w'∧Step V V'∧HeapRep G V'∧V'.H=H'∧e = .returned (.bool b)
def funcOk (P:Program) (f:FuncId):Bool:=match P.funcs[f]? with
 | some fn=>fn.body.isSome && !(fn.name == "runtime.NumGoroutine")
 | none=>false
def funTarget (x:AV):Option (FuncId × List AV × List AV):=match x with
 | .lit (.func (.func f) us vs)=>some (f,us.toList.map .lit,vs.toList.map .lit)
 | .fn (.func f) aZ bs=>some (f,aZ,bs)
 | _=>none
def nodupB:List Nat→Bool
 | []=>true
 | x::xs=>!(xs.contains x) && nodupB xs
theorem nodupB_sound:∀ {l:List Nat},nodupB l=true→l.Nodup
 | [],_=>List.nodup_nil
 | x::xs,h=>by
  simp only [nodupB,Bool.and_eq_true,Bool.not_eq_true',List.contains_eq_mem,decide_eq_false_iff_not] at h
  exact List.nodup_cons.2 ⟨h.1,nodupB_sound h.2⟩
def AOut.idFree:AOut→Bool
 | .ret x=>x.idsIn []
 | .pan x=>x.idsIn []
theorem AOut.ren_free {σ:Nat→Nat} {out:AOut} (h:out.idFree=true):out.ren σ=out:=by
 cases out<;>simp only [AOut.ren,(ren_none σ _ h).1]
def enterA (P:Program) (G:Nat→Option (List AV)) (H:List AObj) (f:FuncId) (xs:List AV) (orc:List Orc):Option (Kind × AOut × List AObj × List Orc × List Prop) :=
 match orc with
 | .call [] out []::orc'=>if AV.idsInL [] xs=true∧out.idFree=true then some (.free,out,H,orc',[CallC P G f xs [] out []]) else none
 | .call e out Hs'::orc' =>
  if nodupB e=true∧AV.idsInL e xs=true then
   match looks e H e with
   | some (Hs,ps)=>some (.eff,out.ren (upto e H.length),backD e H Hs',orc',CallC P G f (AV.renL (pos0 e) xs) Hs out Hs'::(plains Hs'++ps))
   | none=>none
  else none
 | .pure zs out::orc'=>match borrow H xs zs with
  | some (args,ps)=>if out.slFree=true then some (.read,.ret out,H,orc',CallC P G f args [] (.ret out) []::ps) else none
  | none=>none
 | _=>none
def evalCall (P:Program) (G:Nat→Option (List AV)) (H:List AObj) (ev:Operand→AV) (o:Oper) (orc:List Orc):Option (Kind × AOut × List AObj × List Orc × List Prop) :=
 match o.op with
 | .call { callee:=.value g,args:=args,argTypes:=_ }=>match ev g,orc with
  | .yl id,.call [] (.ret (.lit (.bool b))) H'::orc'=>some (.eff,.ret (.lit (.bool b)),H',orc',[YieldC P G id (args.toList.map ev) H b H'])
  | x,_=>match funTarget x with
   | some (f,aZ,bs)=>if funcOk P f=true then enterA P G H f (aZ++args.toList.map ev++bs) orc else none
   | none=>none
 | _=>none
section
variable {P:Program} {G:Nat→Option (List AV)} {r:Option Nat} {V:View} {a:Act} {o:Oper} {ev:Operand→AV}
theorem enter_sound {H:List AObj} {f:FuncId} {xs:List AV} {vs:List Value} {orc orc':List Orc} {k:Kind} {out:AOut} {H':List AObj} {ps:List Prop} (h:enterA P G H f xs orc=some (k,out,H',orc',ps)) (hps:AllP ps) (hG:HeapRep G V)
 (hx:Reps V xs vs) (hH:V.H=H∨k = .free):CallsIn Fence.wide 0 P f vs.toArray V.w (Goes G V (if k = .free then V.H else H') out)∧(k≠.eff→H'=H):=by
 unfold enterA at h
 split at h
 · rename_i out0 orc0
   split at h
   · rename_i hcond
     obtain ⟨hin,hf⟩:=hcond
     cases h
     obtain ⟨hc,_⟩:=hps
     have r:=renL_none (at0 []) xs hin
     have:=CallC.frame hc hG (e:=[]) List.nodup_nil (by simp) rfl (fun i o ho=>by simp at ho) (fun i o ho=>by simp at ho) hx r.1.symm (r.2 _)
     rw [AOut.ren_free hf] at this
     have hb:backHeap [] V.H []=V.H:=by simp [backHeap,putBack]
     rw [hb] at this
     exact ⟨by rw [if_pos rfl]; exact this,fun _=>rfl⟩
   · cases h
 · rename_i e out0 Hs' orc0 _
   split at h
   · rename_i hcond
     obtain ⟨hnd,hin⟩:=hcond
     split at h
     · rename_i Hs qs hl
       cases h
       obtain ⟨hc,hps⟩:=hps
       obtain ⟨hp1,hp2⟩:=allP_append.1 hps
       obtain ⟨l1,l2,l3⟩:=looks_sound hl hp2
       obtain ⟨r1,r2⟩:=renL_pos0 e xs hin
       rcases hH with rfl | hf
       · have:=CallC.frame hc hG (nodupB_sound hnd) l2 l1 (fun i o ho=>(l3 i o ho).1) (fun i o ho=>(l3 i o ho).2.1) hx r1.symm r2
         rw [← backD_eq (plains_sound hp1)] at this
         exact ⟨by rw [if_neg (by simp)]; exact this,fun h=>absurd rfl h⟩
       · cases hf
     · cases h
   · cases h
 · rename_i zs out0 orc0
   split at h
   · rename_i args qs hb
     split at h
     · rename_i hf
       cases h
       rcases hH with rfl | hf
       · exact ⟨by rw [if_neg (by simp)]; exact CallC.read hps.1 hG hb hps.2 hf hx,fun _=>rfl⟩
       · cases hf
     · cases h
   · cases h
 · cases h
theorem funTarget_sound {x:AV} {u:Value} {f:FuncId} {aZ bs:List AV} (h:funTarget x=some (f,aZ,bs)) (hr:Rep V x u):∃ us vs:List Value,u = .func (.func f) us.toArray vs.toArray∧Reps V aZ us∧Reps V bs vs:=by
 unfold funTarget at h
 split at h
 · cases h
   rename_i us vs
   exact ⟨us.toList,vs.toList,by rw [rep_lit hr],Reps.lits _,Reps.lits _⟩
 · cases h
   exact rep_fn hr
 · cases h
theorem call_sound {H:List AObj} {orc orc':List Orc} {k:Kind} {out:AOut} {H':List AObj} {ps:List Prop} (h:evalCall P G H ev o orc=some (k,out,H',orc',ps)) (hps:AllP ps) (hG:HeapRep G V)
 (hr:∀ y∈o.op.operands,Rep V (ev y) (a.eval y)) (hH:V.H=H∨k = .free):OpOk P G r V a o out (if k = .free then V.H else H')∧(k≠.eff→H'=H):=by
 unfold evalCall at h
 split at h
 · rename_i g args ts hop
   split at h
   · rename_i id b H1 orc1 hg
     cases h
     rcases hH with rfl | hH
     · have h1:Rep V (ev g) (a.eval g):=hr g (by simp [hop,Op.operands,Call.operands])
       rw [hg] at h1
       obtain ⟨_,hv⟩:=rep_yl h1
       have h3:Reps V (args.toList.map ev) (args.toList.map a.eval):=reps_map fun y hy=>hr y (by simp [hop,Op.operands,Call.operands]; exact .inr (by simpa using hy))
       obtain ⟨f,tmps,x,y,k1,k2⟩:=hps.1 V _ rfl hG h3
       refine ⟨?_,fun h=>absurd rfl h⟩
       rw [if_neg (by simp)]
       intro next Q n1 n2
       refine ⟨fun _ _=>trivial,?_⟩
       have e:(args.toList.map a.eval).toArray=args.map a.eval:=by apply Array.ext'; simp
       rw [e] at k1
       have hrun:(execOp a.eval o).run P V.w = .ok (.round (V.ρ id) f tmps x y) V.w:=by
        rw [execOp,hop]
        simp [resolve,Deferred.ofValue,hv,invoke,k1]
       rw [Oper.semAt_eq _ _ _ (fun c hc=>by rw [hop] at hc; cases hc),hrun]
       refine ⟨fun h=>(by cases h),(k2 r).mono fun e w' he=>?_⟩
       obtain ⟨V',rfl,l1,l2,l3,rfl⟩:=he
       exact n1 V' _ _ rfl l1 l2 l3 (.pure _ _ (.lit _))
     · cases hH
   rename_i x0 orc0 _ hx0
   split at h
   · rename_i f aZ bs ht
     split at h
     · rename_i hok
       obtain ⟨us,vs,hu,h1,h2⟩:=funTarget_sound ht (hr g (by simp [hop,Op.operands,Call.operands]))
       have h3:Reps V (args.toList.map ev) (args.toList.map a.eval):=reps_map fun y hy=>hr y (by simp [hop,Op.operands,Call.operands]; exact .inr (by simpa using hy))
       have hx:=(h1.append h3).append h2
       obtain ⟨hc,hk⟩:=enter_sound h hps hG hx hH
       refine ⟨OpOk.of_call (fun c hc=>by rw [hop] at hc; cases hc) ?_ hc,hk⟩
       unfold funcOk at hok
       split at hok
       · rename_i fn hfn
         simp only [Bool.and_eq_true,Bool.not_eq_true',beq_eq_false_iff_ne,ne_eq] at hok
         obtain ⟨c,hb⟩:=Option.isSome_iff_exists.1 hok.1
         rw [execOp,hop]
         have e:us.toArray++args.map a.eval++vs.toArray=(us++args.toList.map a.eval++vs).toArray:=by apply Array.ext'; simp
         simp [resolve,Deferred.ofValue,hu,invoke,callFunc,hfn,hok.2,hb,e]
       · cases hok
     · cases h
   · cases h
 · cases h
end
end Go.Am


namespace Go.Am
open Go
def evA (G:Nat→Option (List AV)) (env:List AV):Operand→AV
 | .tmp t=>env.getD t .dead
 | .const v=>.lit v
 | .global g=>match G g with
  | some cs=>.imm cs
  | none=>.lit (.pointer (some ⟨g,0,none⟩))
 | .func f=>.lit (.func (.func f) #[] #[])
def evalFrz (H:List AObj) (x:AV) (z:List (List AV)):Option (AV × List AObj × List Prop) :=
 match x with
 | .own id g off len=>match H[id]? with
  | some (.arr g' sz _ ys)=>some (.sl sz false z,H.set id (.arr g' sz true ys),[g'=g,(ys.drop off).take len=z,z.length=len,∀ c∈z,c.all AV.pureB=true])
  | _=>none
 | .mp id=>match H[id]? with
  | some (.map es)=>some (.md true es,H.set id .gone,[∀ e∈es,e.2.pureB=true])
  | _=>none
 | _=>none
def isBuildSlice:Op→Bool
 | .buildSlice .. | .convert .. => true
 | _=>false
def isDefer:Op→Bool
 | .defer _=>true
 | _=>false
def evalOp (P:Program) (G:Nat→Option (List AV)) (H:List AObj) (ev:Operand→AV) (o:Oper) (orc:List Orc):Option (Kind × AOut × List AObj × List Orc × List Prop) :=
 match o.op,orc with
 | .move x,.frz z::orc'=>(evalFrz H (ev x) z).map fun (y,H',ps)=>(.eff,.ret y,H',orc',ps)
 | .assign x,.frz z::orc'=>(evalFrz H (ev x) z).map fun (y,H',ps)=>(.eff,.ret y,H',orc',ps)
 | .panic x,_=>match ev x with
  | .ifc t y=>some (.free,.pan (.ifc t y),H,orc,[])
  | .lit (.iface t v)=>some (.free,.pan (.lit (.iface t v)),H,orc,[])
  | _=>none
 | _,_=>if isDefer o.op=true then none else match evalFree P ev o orc with
  | some (x,orc',ps)=>some (.free,.ret x,H,orc',ps)
  | none=>match evalRead P H ev o orc with
   | some (x,orc',ps)=>some (.read,.ret x,H,orc',ps)
   | none=>match (if isBuildSlice o.op=true then evalEff P [] ev o orc else none) with
    | some (x,[],orc',ps)=>some (.free,.ret x,H,orc',ps)
    | _=>match evalEff P H ev o orc with
     | some (x,H',orc',ps)=>some (.eff,.ret x,H',orc',ps)
     | none=>evalCall P G H ev o orc
section
variable {P:Program} {G:Nat→Option (List AV)} {r:Option Nat} {V:View} {a:Act} {o:Oper} {ev:Operand→AV}
theorem frz_sound {x y:AV} {z:List (List AV)} {H':List AObj} {ps:List Prop} {v:Value} (h:evalFrz V.H x z=some (y,H',ps)) (hps:AllP ps) (hG:HeapRep G V) (hr:Rep V x v) :
 ∃ V':View,V'.w=V.w∧V'.H=H'∧Step V V'∧HeapRep G V'∧Rep V' y v:=by
 unfold evalFrz at h
 split at h
 · rename_i id g off len
   split at h
   · rename_i g' sz fz ys hH
     · cases h
       obtain ⟨hg,h1,h2,h3,_⟩:=hps
       subst hg
       have hlt:=(List.getElem?_eq_some_iff.1 hH).1
       let V':View:={ w:=V.w,M:=fun b=>V.M b∧b≠V.ρ id,H:=V.H.set id (.arr g' sz true ys),ρ:=V.ρ }
       have Hs:V'.H[id]? = some (.arr g' sz true ys):=by show (V.H.set id _)[id]? = _; rw [List.getElem?_set_self hlt]
       have Ho:∀ i,i≠id→V'.H[i]? = V.H[i]? := fun i hi=>by show (V.H.set id _)[i]? = _; rw [List.getElem?_set_ne (fun e=>hi e.symm)]
       have hl:V'.H.length=V.H.length:=by show (V.H.set id _).length=_; simp
       have hst:Step V V':={
        os:=rfl
        tape:=rfl
        output:=rfl
        size:=Nat.le_refl _
        drawn:=Nat.le_refl _
        keep:=fun b _ hn=>⟨rfl,⟨fun h=>h.1,fun h=>⟨h,fun e=>hn id hlt e.symm⟩⟩⟩
        data:=fun b _ hn=>⟨rfl,fun h=>hn h.1⟩
        hlen:=Nat.le_of_eq hl.symm
        fresh:=fun i hi=>.inl ⟨by rw [hl] at hi; exact hi,rfl⟩
        obj:=fun i hi=>by
         by_cases e:i=id
         · subst e
           unfold ObjStep
           rw [hH,Hs]
           exact .inr ⟨rfl,rfl,rfl,fun c t fr hc=>⟨c,hc,rfl⟩⟩
         · exact .refl hi (Ho i e) rfl rfl }
       refine ⟨V',rfl,rfl,hst,?_,.pure _ _ (own_data (V':=V') hG rfl (fun b h=>h.1) hH (fun h=>h.2 rfl) hr h1 h2 h3)⟩
       exact {
        lt:=fun i hi=>by rw [hl] at hi; exact hG.lt i hi
        obj:=fun i ob ho=>by
         by_cases e:i=id
         · subst e
           rw [Hs] at ho
           cases ho
           obtain ⟨t,c,o1,o2,o3,o4⟩:=hG.obj i _ hH
           exact ⟨t,c,o1,o2,o3,fun k j hk hj=>let ⟨u,hu,h1,hr⟩:=o4 k j hk hj; ⟨u,hu,h1,hr.step hst⟩⟩
         · rw [Ho i e] at ho
           exact (hG.obj i ob ho).step hst rfl
        inj:=fun i j hi hj e=>by rw [hl] at hi hj; exact hG.inj i j hi hj e
        mutb:=fun i ob ho hop=>by
         by_cases e:i=id
         · subst e; rw [Hs] at ho; cases ho; cases hop
         · rw [Ho i e] at ho
           exact ⟨hG.mutb i ob ho hop,fun he=>e (hG.inj i id (List.getElem?_eq_some_iff.1 ho).1 hlt he)⟩
        glob:=hG.glob_step hst }
   · cases h
 · rename_i id
   split at h
   · rename_i es hH
     cases h
     obtain ⟨hpu,_⟩:=hps
     have hlt:=(List.getElem?_eq_some_iff.1 hH).1
     obtain ⟨_,rfl⟩:=rep_mp hr
     obtain ⟨ents,clock,hb,hk,hd,hbo,hcl,hrr⟩:=hG.obj id _ hH
     let V':View:={ w:=V.w,M:=fun b=>V.M b∧b≠V.ρ id,H:=V.H.set id .gone,ρ:=V.ρ }
     have Hs:V'.H[id]? = some .gone:=by show (V.H.set id _)[id]? = _; rw [List.getElem?_set_self hlt]
     have Ho:∀ i,i≠id→V'.H[i]? = V.H[i]? := fun i hi=>by show (V.H.set id _)[i]? = _; rw [List.getElem?_set_ne (fun e=>hi e.symm)]
     have hl:V'.H.length=V.H.length:=by show (V.H.set id _).length=_; simp
     have hst:Step V V':={
      os:=rfl
      tape:=rfl
      output:=rfl
      size:=Nat.le_refl _
      drawn:=Nat.le_refl _
      keep:=fun b _ hn=>⟨rfl,⟨fun h=>h.1,fun h=>⟨h,fun e=>hn id hlt e.symm⟩⟩⟩
      data:=fun b _ hn=>⟨rfl,fun h=>hn h.1⟩
      hlen:=Nat.le_of_eq hl.symm
      fresh:=fun i hi=>.inl ⟨by rw [hl] at hi; exact hi,rfl⟩
      obj:=fun i hi=>by
       by_cases e:i=id
       · subst e
         unfold ObjStep
         rw [hH,Hs]
       · exact .refl hi (Ho i e) rfl rfl }
     refine ⟨V',rfl,rfl,hst,?_,.pure _ _ (.md true es es (.refl _) (V.ρ id) ents clock (fun h=>h.2 rfl) hb hk hd (fun j hj=>?_) fun _=>⟨by rw [hbo]; exact List.nodup_range,fun x hx=>?_⟩)⟩
     · exact {
        lt:=fun i hi=>by rw [hl] at hi; exact hG.lt i hi
        obj:=fun i ob ho=>by
         by_cases e:i=id
         · subst e
           rw [Hs] at ho
           cases ho
           trivial
         · rw [Ho i e] at ho
           exact (hG.obj i ob ho).step hst rfl
        inj:=fun i j hi hj e=>by rw [hl] at hi hj; exact hG.inj i j hi hj e
        mutb:=fun i ob ho hop=>by
         by_cases e:i=id
         · subst e; rw [Hs] at ho; cases ho; cases hop
         · rw [Ho i e] at ho
           exact ⟨hG.mutb i ob ho hop,fun he=>e (hG.inj i id (List.getElem?_eq_some_iff.1 ho).1 hlt he)⟩
        glob:=hG.glob_step hst }
     · have hm:∃ e∈es,e.2=atE es j:=by
        unfold atE; rw [List.getD_eq_getElem?_getD,List.getElem?_eq_getElem hj]; exact ⟨es[j],List.getElem_mem hj,rfl⟩
       obtain ⟨e,he,hee⟩:=hm
       exact (pureB_sound (by rw [← hee]; exact hpu e he) (hrr j hj)).stepV hst
     · have:x.born∈ents.map (·.born):=List.mem_map.2 ⟨x,hx,rfl⟩
       rw [hbo] at this
       rw [hcl]; exact List.mem_range.1 this
   · cases h
 · cases h
def frzCells (H:List AObj):List AV→List (List AV)→Option (List AV × List AObj × List Prop)
 | [],_=>none
 | x::xs,z=>match evalFrz H x z with
  | some (y,H',ps)=>some (y::xs,H',ps)
  | none=>match frzCells H xs z with
   | some (ys,H',ps)=>some (x::ys,H',ps)
   | none=>none
def evalFrzA (H:List AObj) (x:AV) (z:List (List AV)):Option (AV × List AObj × List Prop):=match x with
 | .agg cs=>match frzCells H cs z with
  | some (ys,H',ps)=>some (.agg ys,H',ps)
  | none=>none
 | x=>evalFrz H x z
theorem frzCells_sound {z:List (List AV)}:∀ {xs ys:List AV} {H':List AObj} {ps:List Prop} {vs:List Value},frzCells V.H xs z=some (ys,H',ps)→AllP ps→HeapRep G V→Reps V xs vs →
 ∃ V':View,V'.w=V.w∧V'.H=H'∧Step V V'∧HeapRep G V'∧Reps V' ys vs
 | [],_,_,_,_,h,_,_,_=>by cases h
 | x::xs,ys,H',ps,vs,h,hps,hG,hr=>by
  match vs,hr with
  | [],hr=>have:=hr.1; simp at this
  | v::vs,hr =>
   unfold frzCells at h
   split at h
   · rename_i y H1 qs hf
     cases h
     obtain ⟨V',k1,k2,k3,k4,k5⟩:=frz_sound hf hps hG hr.head
     exact ⟨V',k1,k2,k3,k4,.cons k5 (hr.tail.step k3)⟩
   · split at h
     · rename_i zs H1 qs hf
       cases h
       obtain ⟨V',k1,k2,k3,k4,k5⟩:=frzCells_sound hf hps hG hr.tail
       exact ⟨V',k1,k2,k3,k4,.cons (hr.head.step k3) k5⟩
     · cases h
theorem frzA_sound {x y:AV} {z:List (List AV)} {H':List AObj} {ps:List Prop} {v:Value} (h:evalFrzA V.H x z=some (y,H',ps)) (hps:AllP ps) (hG:HeapRep G V) (hr:Rep V x v) :
 ∃ V':View,V'.w=V.w∧V'.H=H'∧Step V V'∧HeapRep G V'∧Rep V' y v:=by
 unfold evalFrzA at h
 split at h
 · split at h
   · rename_i cs ys H1 qs hf
     cases h
     obtain ⟨vs,rfl,hrs⟩:=rep_agg hr
     obtain ⟨V',k1,k2,k3,k4,k5⟩:=frzCells_sound hf hps hG hrs
     exact ⟨V',k1,k2,k3,k4,.agg _ _ k5.1 k5.2⟩
   · cases h
 · exact frz_sound h hps hG hr
theorem eff_free {orc orc':List Orc} {x:AV} {ps:List Prop} (hb:isBuildSlice o.op=true) (h:evalEff P [] ev o orc=some (x,[],orc',ps)) (H:List AObj):evalEff P H ev o orc=some (x,H,orc',ps):=by
 unfold evalEff at h ⊢
 cases hop:o.op<;>simp only [hop,isBuildSlice] at hb h⊢<;> first | (cases hb; done) | skip
 · split at h<;>first | (cases h; done) | skip
   split at h<;>first | (cases h; done) | skip
   split at h<;>first | (cases h; done) | skip
   split at h<;>first | (cases h; done) | skip
   split at h<;>first | (cases h; done) | skip
   split at h<;>first | (cases h; done) | skip
   split at h
   · simp at h
   · split at h
     · simp_all
     · cases h
 · split at h<;>first | (cases h; done) | skip
   split at h<;>first | (cases h; done) | skip
   rename_i he
   cases h
   rw [if_pos he]
theorem op_sound {H:List AObj} {orc orc':List Orc} {k:Kind} {out:AOut} {H':List AObj} {ps:List Prop} (h:evalOp P G H ev o orc=some (k,out,H',orc',ps)) (hps:AllP ps) (hG:HeapRep G V)
 (hr:∀ y∈o.op.operands,Rep V (ev y) (a.eval y)) (hH:V.H=H∨k = .free):OpOk P G r V a o out (if k = .free then V.H else H')∧(k≠.eff→H'=H):=by
 have frz:∀ (x:Operand) (z:List (List AV)) (orc1:List Orc),x∈o.op.operands→(∀ c,o.op≠.defer c)→(execOp a.eval o).run P V.w = .ok (.value (a.eval x)) V.w →
  (evalFrz H (ev x) z).map (fun (y,H',ps)=>(Kind.eff,AOut.ret y,H',orc1,ps))=some (k,out,H',orc',ps)→OpOk P G r V a o out (if k = .free then V.H else H')∧(k≠.eff→H'=H):=by
  intro x z orc1 hx hd hrun h
  cases hf:evalFrz H (ev x) z with
  | none=>simp [hf] at h
  | some q =>
   obtain ⟨y,H1,qs⟩:=q
   simp only [hf,Option.map_some,Option.some.injEq,Prod.mk.injEq] at h
   obtain ⟨rfl,rfl,rfl,rfl,rfl⟩:=h
   rcases hH with rfl | hH
   · obtain ⟨V',k1,k2,k3,k4,k5⟩:=frz_sound hf hps hG (hr x hx)
     rw [if_neg (by simp),← k2]
     exact ⟨OpOk.of_value hd (by rw [k1]; exact hrun) (.inl rfl) k3 k4 k5,fun h=>absurd rfl h⟩
   · cases hH
 unfold evalOp at h
 split at h
 · rename_i x z orc1 hop
   exact frz x z orc1 (by simp [hop,Op.operands]) (fun c hc=>by rw [hop] at hc; cases hc) (by rw [execOp,hop]; rfl) h
 · rename_i x z orc1 hop
   exact frz x z orc1 (by simp [hop,Op.operands]) (fun c hc=>by rw [hop] at hc; cases hc) (by rw [execOp,hop]; rfl) h
 · rename_i _ _ x hop
   have hrx:=hr x (by simp [hop,Op.operands])
   have key:∀ {t:TypeId} {v:Value} {y:AV},a.eval x = .iface t v→Rep V y (.iface t v)→OpOk P G r V a o (.pan y) V.H:=by
    intro t v y hv hy next Q n1 n2
    refine ⟨fun _ _=>trivial,?_⟩
    have hrun:(execOp a.eval o).run P V.w = .halt (.panic (.iface t v)) V.w:=by
     rw [execOp,hop]
     simp only [hv]
     rfl
    rw [Oper.semAt_eq _ _ _ (fun c hc=>by rw [hop] at hc; cases hc),hrun]
    exact n2 V (.iface t v) y rfl (Step.refl V) hG rfl hy
   split at h
   · rename_i t y he
     cases h
     rw [he] at hrx
     obtain ⟨v,hv,hy⟩:=rep_ifc hrx
     exact ⟨by rw [if_pos rfl]; exact key hv (.ifc t y v hy),fun _=>rfl⟩
   · rename_i t v he
     cases h
     rw [he] at hrx
     have hv:=rep_lit hrx
     exact ⟨by rw [if_pos rfl]; exact key hv (.pure _ _ (.lit _)),fun _=>rfl⟩
   · cases h
 · split at h
   · cases h
   · rename_i hnd
     have hd:∀ c,o.op≠.defer c:=fun c hc=>hnd (by rw [hc]; rfl)
     have ident:∀ {x:AV} {v:Value},(execOp a.eval o).run P V.w = .ok (.value v) V.w→Rep V x v→OpOk P G r V a o (.ret x) V.H:=fun h1 h2=>OpOk.of_value hd h1 (.inl rfl) (Step.refl V) hG h2
     split at h
     · rename_i x orc1 qs hf
       cases h
       obtain ⟨v,h1,h2⟩:=free_sound hf hps hr
       exact ⟨by rw [if_pos rfl]; exact ident h1 h2,fun _=>rfl⟩
     · split at h
       · rename_i x orc1 qs hf
         cases h
         rcases hH with rfl | hH
         · obtain ⟨v,h1,h2⟩:=read_sound hf hps hG hr
           exact ⟨by rw [if_neg (by simp)]; exact ident h1 h2,fun _=>rfl⟩
         · cases hH
       · split at h
         · rename_i x orc1 qs hf
           cases h
           split at hf
           · rename_i hb
             obtain ⟨V',n,v,k1,k2,k3,k4,k5,k6⟩:=eff_sound (eff_free hb hf V.H) hps hG hr
             rw [if_pos rfl,← k3]
             exact ⟨OpOk.of_value hd k1 k2 k4 k5 k6,fun _=>rfl⟩
           · cases hf
         · split at h
           · rename_i x H1 orc1 qs hf
             cases h
             rcases hH with rfl | hH
             · obtain ⟨V',n,v,k1,k2,k3,k4,k5,k6⟩:=eff_sound hf hps hG hr
               rw [if_neg (by simp),← k3]
               exact ⟨OpOk.of_value hd k1 k2 k4 k5 k6,fun h=>absurd rfl h⟩
             · cases hH
           · exact call_sound h hps hG hr hH
end
def putA (env:List AV) (d:Option Tmp) (x:AV):List AV:=match d with
 | some d=>env.set d x
 | none=>env
def wantedA (ops:Array Oper) (env:List AV) (o:Oper):Option Bool:=match o.guard with
 | none=>some true
 | some (j,w)=>match (ops[j]?).bind (·.dst) with
  | some d=>match env.getD d .dead with
   | .lit (.bool b)=>some (b == w)
   | .lit (.tuple _)=>some false
   | _=>none
  | none=>none
def guards (ops:Array Oper) (i:Nat):Bool:=ops.any fun o=>match o.guard with
 | some (j,_)=>j == i
 | none=>false
def ObjSub:AObj→AObj→Prop
 | .box xs,.box ys=>ys.length=xs.length∧∀ j,j<xs.length→Sub (xs.getD j .dead) (ys.getD j .dead)
 | .arr g sz fz xs,.arr g' sz' fz' ys=>g'=g∧sz'=sz∧fz'=fz∧ys.length=xs.length∧(∀ y∈ys,y.length=sz)∧∀ k j,k<xs.length→j<sz→Sub ((xs.getD k []).getD j .dead) ((ys.getD k []).getD j .dead)
 | _,.gone=>True
 | _,_=>False
def HSub:List AObj→List AObj→Prop
 | [],[]=>True
 | o::os,p::ps=>(p=o∨ObjSub o p)∧HSub os ps
 | _,_=>False
theorem HSub.len:∀ {H K:List AObj},HSub H K→K.length=H.length
 | [],[],_=>rfl
 | _::_,_::_,h=>by simp [HSub.len h.2]
theorem HSub.get:∀ {H K:List AObj},HSub H K→∀ {i:Nat} {p:AObj},K[i]? = some p→∃ o,H[i]? = some o∧(p=o∨ObjSub o p)
 | [],[],_,i,p,h=>by simp at h
 | o::os,q::qs,h,0,p,hp=>by simp at hp; subst hp; exact ⟨o,rfl,h.1⟩
 | o::os,q::qs,h,i+1,p,hp=>by simp at hp; simpa using HSub.get h.2 hp
theorem hsub_step {G:Nat→Option (List AV)} {V:View} {K:List AObj} (hG:HeapRep G V) (h:HSub V.H K):∃ V':View,V'.w=V.w∧V'.H=K∧V'.ρ=V.ρ∧Step V V'∧HeapRep G V':=by
 let V':View:={ w:=V.w,M:=V.M,H:=K,ρ:=V.ρ }
 have hl:K.length=V.H.length:=h.len
 have hst:Step V V':={
  os:=rfl
  tape:=rfl
  output:=rfl
  size:=Nat.le_refl _
  drawn:=Nat.le_refl _
  keep:=fun b _ _=>⟨rfl,Iff.rfl⟩
  data:=fun b _ hn=>⟨rfl,hn⟩
  hlen:=Nat.le_of_eq hl.symm
  fresh:=fun i hi=>.inl ⟨by have hi:i<K.length:=hi; omega,rfl⟩
  obj:=fun i hi=>by
   obtain ⟨p,hp⟩:∃ p,K[i]? = some p:=⟨_,List.getElem?_eq_getElem (by omega)⟩
   obtain ⟨o,ho,he⟩:=h.get hp
   have hp':V'.H[i]? = some p:=hp
   rcases he with rfl | he
   · exact .refl hi (hp'.trans ho.symm) rfl rfl
   · unfold ObjStep
     rw [ho,hp']
     cases o<;>cases p<;>simp only [ObjSub] at he<;>first
      | exact he.elim
      | trivial
      | rfl
      | exact .inr ⟨he.1.symm,he.2.1.symm,rfl,fun c t fr hc=>⟨c,hc,rfl⟩⟩ }
 refine ⟨V',rfl,rfl,rfl,hst,?_⟩
 exact {
  lt:=fun i hi=>hG.lt i (by have hi:i<K.length:=hi; omega)
  obj:=fun i p hp=>by
   obtain ⟨o,ho,he⟩:=h.get hp
   have hr:=(hG.obj i o ho).step hst rfl
   rcases he with rfl | he
   · exact hr
   · cases o<;>cases p<;>simp only [ObjSub] at he<;>first | exact he.elim | trivial | skip
     · obtain ⟨t,vs,h1,h2⟩:=hr
       exact ⟨t,vs,h1,h2.1.trans he.1.symm,fun j hj=>he.2 j (by omega) V' _ (h2.2 j (by omega))⟩
     · obtain ⟨rfl,rfl,rfl,hlen,hsz,hsub⟩:=he
       obtain ⟨t,c,h1,h2,h3,h4⟩:=hr
       exact ⟨t,c,h1,by rw [hlen]; exact h2,hsz,fun k j hk hj=>by
        obtain ⟨v,k1,k2,k3⟩:=h4 k j (by omega) hj
        exact ⟨v,k1,k2,hsub k j (by omega) hj V' _ k3⟩⟩
  inj:=fun i j hi hj e=>hG.inj i j (by have hi:i<K.length:=hi; omega) (by have hj:j<K.length:=hj; omega) e
  mutb:=fun i p hp hop=>by
   obtain ⟨o,ho,he⟩:=h.get hp
   rcases he with rfl | he
   · exact hG.mutb i _ ho hop
   · refine hG.mutb i o ho ?_
     cases o<;>cases p<;>simp only [ObjSub] at he<;>first | exact he.elim | rfl | (cases hop; done) | skip
     · obtain ⟨rfl,rfl,rfl,_⟩:=he
       exact hop
  glob:=hG.glob }
def reval (d:Option Tmp):Option (Kind × AOut × List AObj × List Orc × List Prop)→Option (Kind × AOut × List AObj × List Orc × List Prop)
 | some (.read,.ret x,H',.fz d' z::orc',ps)=>if d'=d then (match evalFrzA H' x z with
  | some (y,K,qs)=>some (.eff,.ret y,K,orc',ps++qs)
  | none=>none) else some (.read,.ret x,H',.fz d' z::orc',ps)
 | some (k,.ret x,H',.val d' y::orc',ps)=>if d'=d then some (k,.ret y,H',orc',Sub x y::ps) else some (k,.ret x,H',.val d' y::orc',ps)
 | some (.eff,.ret x,H',.hp d' y K::orc',ps)=>if d'=d then some (.eff,.ret y,K,orc',Sub x y::HSub H' K::ps) else some (.eff,.ret x,H',.hp d' y K::orc',ps)
 | r=>r
def stepA (P:Program) (G:Nat→Option (List AV)) (ops:Array Oper) (gs:Bool) (env:List AV) (H:List AObj) (o:Oper) (orc:List Orc):Option (Kind × AOut × List AObj × List Orc × List Prop) :=
 match wantedA ops env o with
 | some true=>match reval o.dst (evalOp P G H (evA G env) o orc) with
  | some (k,out,H',orc',ps)=>if gs=true then (match out,orc' with
   | .ret (.lit (.bool e)),.br b::orc''=>some (k,.ret (.lit (.bool b)),H',orc'',(e=b)::ps)
   | _,_=>none) else some (k,out,H',orc',ps)
  | none=>none
 | some false=>some (.free,.ret (.lit undef),H,orc,[])
 | none=>none
section
variable {P:Program} {G:Nat→Option (List AV)} {r:Option Nat} {V:View} {a:Act} {o:Oper} {ops:Array Oper} {env:List AV}
theorem evA_sound (hG:HeapRep G V) {y:Operand} (h:∀ t,y = .tmp t→Rep V (env.getD t .dead) (a.tmps.getD t undef)):Rep V (evA G env y) (a.eval y):=by
 cases y with
 | tmp t=>exact h t rfl
 | const v=>exact .pure _ _ (.lit v)
 | global g =>
  simp only [evA,Act.eval]
  split
  · rename_i cs hg; exact .pure _ _ (hG.glob g cs hg)
  · exact .pure _ _ (.lit _)
 | func f=>exact .pure _ _ (.lit _)
theorem wanted_sound {b:Bool} (h:wantedA ops env o=some b) (hr:∀ t∈o.looksAt ops,Rep V (env.getD t .dead) (a.tmps.getD t undef)):Region.wanted o (yielded ops a.tmps)=b:=by
 unfold wantedA at h
 unfold Region.wanted
 cases hg:o.guard with
 | none=>simp [hg] at h; simp [h]
 | some q =>
  obtain ⟨j,w⟩:=q
  simp only [hg] at h ⊢
  cases hd:(ops[j]?).bind (·.dst) with
  | none=>simp [hd] at h
  | some d =>
   simp only [hd] at h
   split at h
   · rename_i b' he
     cases h
     have:=hr d (by simp [Oper.looksAt,hg,hd])
     rw [he] at this
     have hv:=rep_lit this
     have hy:yielded ops a.tmps j=some b':=by
      unfold yielded
      rw [hd]
      have hlt:d<a.tmps.size:=by
       rcases Nat.lt_or_ge d a.tmps.size with h | h
       · exact h
       · simp [Array.getD,Nat.not_lt.2 h,undef] at hv
      have hv2:a.tmps[d]? = some (.bool b'):=by
       rw [Array.getElem?_eq_getElem hlt]
       simp [Array.getD,hlt] at hv
       rw [hv]
      simp [hv2]
     rw [hy]
     cases b'<;>cases w<;>rfl
   · rename_i us he
     cases h
     have:=hr d (by simp [Oper.looksAt,hg,hd])
     rw [he] at this
     have hv:=rep_lit this
     have hy:yielded ops a.tmps j=none:=by
      unfold yielded
      rw [hd]
      show (match (a.tmps[d]? : Option Value) with | some (.bool b)=>some b | _=>none)=none
      cases hq:a.tmps[d]? with
      | none=>rfl
      | some u =>
       rw [Array.getD_eq_getD_getElem?,hq] at hv
       simp only [Option.getD_some] at hv
       rw [hv]
     rw [hy]
     rfl
   · cases h
theorem reval_sound {d:Option Tmp} {H:List AObj} {ev:Operand→AV} {orc orc':List Orc} {k:Kind} {out:AOut} {H':List AObj} {ps:List Prop} (h:reval d (evalOp P G H ev o orc)=some (k,out,H',orc',ps)) (hps:AllP ps) (hG:HeapRep G V)
 (hr:∀ y∈o.op.operands,Rep V (ev y) (a.eval y)) (hH:V.H=H∨k = .free):OpOk P G r V a o out (if k = .free then V.H else H')∧(k≠.eff→H'=H):=by
 unfold reval at h
 split at h
 · rename_i x H1 d1 z orc1 qs he
   split at h
   · split at h
     · rename_i y K rs hf
       cases h
       obtain ⟨p1,p2⟩:=allP_append.1 hps
       obtain ⟨h1,h2⟩:=op_sound (r:=r) he p1 hG hr (hH.imp id fun h=>by cases h)
       refine ⟨fun next Q n1 n2=>?_,fun h=>absurd rfl h⟩
       refine h1 next Q (fun V' v u hu s1 s2 s3 s4=>?_) fun V' v u hu=>by cases hu
       cases hu
       rw [if_neg (by simp)] at s3
       subst s3
       obtain ⟨V2,a1,a2,a3,a4,a5⟩:=frzA_sound hf p2 s2 s4
       rw [← a1]
       exact n1 V2 v y rfl (s1.trans a3) a4 (by rw [if_neg (by simp),a2]) a5
     · cases h
   · rw [← he] at h
     exact op_sound (r:=r) h hps hG hr hH
 · rename_i k1 x H1 d1 y orc1 qs he
   split at h
   · cases h
     obtain ⟨h1,h2⟩:=op_sound (r:=r) he hps.2 hG hr hH
     refine ⟨fun next Q n1 n2=>?_,h2⟩
     exact h1 next Q (fun V' v z hz s1 s2 s3 s4=>by cases hz; exact n1 V' v y rfl s1 s2 s3 (hps.1 V' v s4)) fun V' v z hz=>by cases hz
   · rw [← he] at h
     exact op_sound (r:=r) h hps hG hr hH
 · rename_i x H1 d1 y K orc1 qs he
   split at h
   · cases h
     obtain ⟨h1,h2⟩:=op_sound (r:=r) he hps.2.2 hG hr hH
     refine ⟨fun next Q n1 n2=>?_,fun h=>absurd rfl h⟩
     refine h1 next Q (fun V' v z hz s1 s2 s3 s4=>?_) fun V' v z hz=>by cases hz
     cases hz
     rw [if_neg (by simp)] at s3
     subst s3
     obtain ⟨V2,a1,a2,a3,a4,a5⟩:=hsub_step s2 hps.2.1
     rw [← a1]
     exact n1 V2 v y rfl (s1.trans a4) a5 (by rw [if_neg (by simp),a2]) (hps.1 V2 v (s4.step a4))
   · rw [← he] at h
     exact op_sound (r:=r) h hps hG hr hH
 · exact op_sound (r:=r) h hps hG hr hH
theorem stepA_sound {i:Nat} {gs:Bool} {H:List AObj} {orc orc':List Orc} {k:Kind} {out:AOut} {H':List AObj} {ps:List Prop} (ho:ops[i]? = some o) (h:stepA P G ops gs env H o orc=some (k,out,H',orc',ps)) (hps:AllP ps) (hG:HeapRep G V)
 (hr:∀ t∈o.looksAt ops,Rep V (env.getD t .dead) (a.tmps.getD t undef)) (hH:V.H=H∨k = .free) :
 (∀ (next:Act→World→Prop) (Q:Exit→Act→World→Prop),
  (∀ V' v x,out = .ret x→Step V V'→HeapRep G V'→V'.H=(if k = .free then V.H else H')→Rep V' x v→next (a.put o.dst v) V'.w) →
  (∀ V' v x,out = .pan x→Step V V'→HeapRep G V'→V'.H=(if k = .free then V.H else H')→Rep V' x v→Q (.panic [{ v:=v,recovered:=false }]) a V'.w) →
  wpOpIn (fz r) 0 P ops Q i next a V.w)∧(k≠.eff→H'=H):=by
 unfold stepA at h
 split at h
 · rename_i hw
   have hw':=wanted_sound (V:=V) (a:=a) hw hr
   have hops:∀ y∈o.op.operands,Rep V (evA G env y) (a.eval y):=fun y hy=>evA_sound hG fun t ht=>hr t (by
    subst ht
    exact List.mem_append_left _ (List.mem_filterMap.2 ⟨.tmp t,by simpa using hy,rfl⟩))
   split at h
   · rename_i k1 out1 H1 orc1 qs hev
     split at h
     · split at h
       · rename_i e b orc2
         cases h
         obtain ⟨he,hps⟩:=hps
         obtain ⟨h1,h2⟩:=reval_sound (r:=r) hev hps hG hops hH
         refine ⟨fun next Q n1 n2=>?_,h2⟩
         unfold wpOpIn
         rw [ho]
         simp only [hw',if_true]
         refine h1 next Q (fun V' v x hx=>?_) (fun V' v x hx=>by cases hx)
         cases hx
         subst he
         exact n1 V' v _ rfl
       · cases h
     · cases h
       obtain ⟨h1,h2⟩:=reval_sound (r:=r) hev hps hG hops hH
       refine ⟨fun next Q n1 n2=>?_,h2⟩
       unfold wpOpIn
       rw [ho]
       simp only [hw',if_true]
       exact h1 next Q n1 n2
   · cases h
 · rename_i hw
   have hw':=wanted_sound (V:=V) (a:=a) hw hr
   cases h
   refine ⟨fun next Q n1 n2=>?_,fun _=>rfl⟩
   unfold wpOpIn
   rw [ho]
   simp only [hw',Bool.false_eq_true,if_false]
   exact ⟨fun _ _=>trivial,n1 V undef _ rfl (Step.refl V) hG (by rw [if_pos rfl]) (.pure _ _ (.lit _))⟩
 · cases h
def calmHead:List Orc→Bool
 | .hp .. :: _ | .fz .. :: _=>false
 | .emp :: .hp .. :: _ | .emp :: .fz .. :: _=>false
 | .own :: .hp .. :: _ | .own :: .fz .. :: _=>false
 | .mput _ :: .hp .. :: _ | .mput _ :: .fz .. :: _=>false
 | .elem _ :: .hp .. :: _ | .elem _ :: .fz .. :: _=>false
 | _=>true
def aptId:AV→Option Nat
 | .apt id .. => some id
 | _=>none
def ownIds:AV→List Nat
 | .own id .. => [id]
 | _=>[]
def foot (ev:Operand→AV) (o:Oper) (orc:List Orc):Option (List Nat × Bool) :=
 match o.op with
 | .load _ x | .store _ x _=>match ev x with
  | .ptr id _ | .apt id _ _ _=>if calmHead orc=true then some ([id],false) else none
  | _=>none
 | .fieldAddr _ x _=>match ev x with
  | .apt id _ _ _=>if calmHead orc=true then some ([id],false) else none
  | _=>none
 | .indexAddr _ x _=>match ev x with
  | .own id _ _ _=>if calmHead orc=true then some ([id],false) else none
  | _=>none
 | .nilCheck x=>match ev x with
  | .apt id _ _ _=>if calmHead orc=true then some ([id],false) else none
  | _=>none
 | .buildSlice .. => match orc with
  | .own::orc'=>if calmHead (.own::orc')=true then some ([],true) else none
  | _=>none
 | .alloc _ | .box .. => if calmHead orc=true then some ([],true) else none
 | .mapUpdate _ m _ _=>match ev m with
  | .mp id=>if calmHead orc=true then some ([id],false) else none
  | _=>none
 | .slice _ x none none none=>match ev x with
  | .ptr id 0=>if calmHead orc=true then some ([id],false) else none
  | _=>none
 | .call c=>match c.callee,orc with
  | .builtin .append,orc=>match c.args.toList with
   | [a,x]=>if calmHead orc=true then some (ownIds (ev a)++ownIds (ev x),(ownIds (ev a)).isEmpty) else none
   | _=>none
  | .builtin .len,orc=>match c.args.toList with
   | [x]=>match ev x with
    | .own id _ _ _=>if calmHead orc=true then some ([id],false) else none
    | _=>none
   | _=>none
  | .value g,.call e _ _::orc'=>if calmHead orc'=true∧(funTarget (ev g)).isSome=true then some (e,true) else none
  | _,_=>none
 | _=>none
def made (len:Bool) (H H':List AObj):List Nat:=if len=true then List.range' H.length (H'.length - H.length) else []
structure Agree (H K:List AObj) (ids:List Nat) (len:Bool):Prop where
 at_:∀ id,id∈ids→K[id]? = H[id]?
 len:len=true→K.length=H.length
structure Loc (H H' K K':List AObj) (ids:List Nat) (len:Bool):Prop where
 l1:len=false→H'.length=H.length∧K'.length=K.length
 l2:len=true→K'.length=H'.length
 inn:∀ id,id∈ids++made len H H'→K'[id]? = H'[id]?
 out:∀ id,id∉ids++made len H H'→K'[id]? = K[id]?∧H'[id]? = H[id]?
theorem Loc.refl {H K:List AObj} {ids:List Nat} {len:Bool} (h:Agree H K ids len):Loc H H K K ids len where
 l1 _:=⟨rfl,rfl⟩
 l2:=h.len
 inn id hid:=h.at_ id (by simpa [made] using hid)
 out _ _:=⟨rfl,rfl⟩
theorem Loc.set {H K:List AObj} {ids:List Nat} {len:Bool} (h:Agree H K ids len) {id:Nat} (hid:id∈ids) (ob:AObj):Loc H (H.set id ob) K (K.set id ob) ids len where
 l1 _:=⟨by simp,by simp⟩
 l2 hl:=by simp [h.len hl]
 inn i hi:=by
  have hi:i∈ids:=by simpa [made] using hi
  have h1:=h.at_ i hi
  by_cases e:id=i
  · subst e
    rw [List.getElem?_set,List.getElem?_set,if_pos rfl,if_pos rfl]
    have:(id<K.length)↔(id<H.length):=by
     constructor
     · intro hk; rcases Nat.lt_or_ge id H.length with h2 | h2
       · exact h2
       · rw [List.getElem?_eq_none h2] at h1; exact absurd (List.getElem?_eq_none_iff.1 h1) (by omega)
     · intro hk; rcases Nat.lt_or_ge id K.length with h2 | h2
       · exact h2
       · rw [List.getElem?_eq_none h2] at h1; exact absurd (List.getElem?_eq_none_iff.1 h1.symm) (by omega)
    simp only [this]
  · rw [List.getElem?_set_ne e,List.getElem?_set_ne e]; exact h1
 out i hi:=by
  have hi:i∉ids:=by simpa [made] using hi
  have e:id≠i:=fun e=>hi (e ▸ hid)
  exact ⟨List.getElem?_set_ne e,List.getElem?_set_ne e⟩
theorem Loc.push {H K:List AObj} {ids:List Nat} (h:Agree H K ids true) (os:List AObj):Loc H (H++os) K (K++os) ids true where
 l1 h:=by cases h
 l2 _:=by simp [h.len rfl]
 inn i hi:=by
  have hl:=h.len rfl
  rcases List.mem_append.1 hi with hi | hi
  · by_cases hlt:i<H.length
    · rw [List.getElem?_append_left hlt,List.getElem?_append_left (by omega)]; exact h.at_ i hi
    · rw [List.getElem?_append_right (by omega),List.getElem?_append_right (by omega),hl]
  · simp only [made,if_true,List.mem_range'_1] at hi
    rw [List.getElem?_append_right (by omega),List.getElem?_append_right (by omega),hl]
 out i hi:=by
  have hl:=h.len rfl
  simp only [made,if_true,List.mem_append,List.mem_range'_1,not_or] at hi
  have h2:=hi.2
  by_cases hlt:i<H.length
  · exact ⟨List.getElem?_append_left (by omega),List.getElem?_append_left hlt⟩
  · have:H.length+os.length≤i:=by simp at h2; omega
    exact ⟨by rw [List.getElem?_eq_none (by simp; omega),List.getElem?_eq_none (by omega)],by rw [List.getElem?_eq_none (by simp; omega),List.getElem?_eq_none (by omega)]⟩
theorem evalLit_ptr {ev:Operand→AV} {y:Operand} {id off:Nat} (hy:y∈o.op.operands) (he:ev y = .ptr id off):evalLit P ev o=none:=by
 unfold evalLit
 split
 · rfl
 · rw [if_neg]
   intro h
   have:=List.all_eq_true.1 h y (by simpa using hy)
   rw [he] at this
   cases this
theorem evalOp_load {H:List AObj} {ev:Operand→AV} {orc:List Orc} {t:TypeId} {x:Operand} {id off:Nat} (hop:o.op = .load t x) (he:ev x = .ptr id off) :
 evalOp P G H ev o orc=match H[id]? with
  | some (.box cells)=>(loadA P t (cells.drop off)).map fun z=>(.read,.ret z,H,orc,[])
  | _=>none:=by
 have h1:evalFree P ev o orc=none:=by unfold evalFree; rw [hop]; simp only [he]
 have h2:evalEff P H ev o orc=none:=by unfold evalEff; rw [hop]
 have h3:evalCall P G H ev o orc=none:=by unfold evalCall; rw [hop]
 have h4:evalRead P H ev o orc=match H[id]? with
  | some (.box cells)=>(loadA P t (cells.drop off)).map fun z=>(z,orc,[])
  | _=>none:=by
  unfold evalRead
  rw [hop]
  simp only [he]
  split<;>simp_all
 unfold evalOp
 rw [hop]
 simp only [isDefer,isBuildSlice,h1,h2,h3,h4,Bool.false_eq_true,if_false]
 cases hH:H[id]? with
 | none=>rfl
 | some ob =>
  cases ob<;>simp only<;>try rfl
  cases loadA P t _<;>rfl
theorem evalOp_store {H:List AObj} {ev:Operand→AV} {orc:List Orc} {t:TypeId} {x y:Operand} {id off:Nat} (hop:o.op = .store t x y) (he:ev x = .ptr id off) :
 evalOp P G H ev o orc=match tSize P t,(ev y).cells,H[id]? with
  | some n,some cs,some (.box cells)=>if cs.length=n∧off+cs.length≤cells.length∧cs.all AV.one=true then some (.eff,.ret (.lit undef),H.set id (.box (splice cells off cs)),orc,[]) else none
  | _,_,_=>none:=by
 have hl:evalLit P ev o=none:=evalLit_ptr (y:=x) (by rw [hop]; simp [Op.operands]) he
 have h1:evalFree P ev o orc=none:=by unfold evalFree; rw [hop]; simp only [hl,Option.map_none]
 have h2:evalRead P H ev o orc=none:=by unfold evalRead; rw [hop]
 have h3:evalCall P G H ev o orc=none:=by unfold evalCall; rw [hop]
 have h4:evalEff P H ev o orc=match tSize P t,(ev y).cells,H[id]? with
  | some n,some cs,some (.box cells)=>if cs.length=n∧off+cs.length≤cells.length∧cs.all AV.one=true then some (.lit undef,H.set id (.box (splice cells off cs)),orc,[]) else none
  | _,_,_=>none:=by
  unfold evalEff
  rw [hop]
  simp only [he]
  cases tSize P t with
  | none=>rfl
  | some n=>cases (ev y).cells with
   | none=>rfl
   | some cs =>
    cases hH:H[id]? with
    | none=>simp only [hH]
    | some ob=>cases ob<;>simp only [hH]
 unfold evalOp
 rw [hop]
 simp only [isDefer,isBuildSlice,h1,h2,h3,h4,Bool.false_eq_true,if_false]
 cases tSize P t with
 | none=>rfl
 | some n=>cases (ev y).cells with
  | none=>rfl
  | some cs=>cases H[id]? with
   | none=>rfl
   | some ob =>
    cases ob<;>simp only
    rename_i cells
    by_cases hc:cs.length=n∧off+cs.length≤cells.length∧cs.all AV.one=true
    · rw [if_pos hc,if_pos hc]
    · rw [if_neg hc,if_neg hc]
theorem evalLit_mp {ev:Operand→AV} {y:Operand} {id:Nat} (hy:y∈o.op.operands) (he:ev y = .mp id):evalLit P ev o=none:=by
 unfold evalLit
 split
 · rfl
 · rw [if_neg]
   intro h
   have:=List.all_eq_true.1 h y (by simpa using hy)
   rw [he] at this
   cases this
theorem evalOp_mput {H:List AObj} {ev:Operand→AV} {orc:List Orc} {t:TypeId} {m k x:Operand} {id:Nat} (hop:o.op = .mapUpdate t m k x) (he:ev m = .mp id) :
 evalOp P G H ev o orc=match evalEff P H ev o orc with
  | some (x,H',orc',ps)=>some (.eff,.ret x,H',orc',ps)
  | none=>none:=by
 have hl:evalLit P ev o=none:=evalLit_mp (y:=m) (by rw [hop]; simp [Op.operands]) he
 have h1:evalFree P ev o orc=none:=by unfold evalFree; rw [hop]; simp only [hl,Option.map_none]
 have h2:evalRead P H ev o orc=none:=by unfold evalRead; rw [hop]
 have h3:evalCall P G H ev o orc=none:=by unfold evalCall; rw [hop]
 unfold evalOp
 rw [hop]
 simp only [isDefer,isBuildSlice,h1,h2,h3,Bool.false_eq_true,if_false]
theorem evalOp_sliceA {H:List AObj} {ev:Operand→AV} {orc:List Orc} {t:TypeId} {x:Operand} {id off:Nat} (hop:o.op = .slice t x none none none) (he:ev x = .ptr id off) :
 evalOp P G H ev o orc=match evalEff P H ev o orc with
  | some (x,H',orc',ps)=>some (.eff,.ret x,H',orc',ps)
  | none=>none:=by
 have hl:evalLit P ev o=none:=evalLit_ptr (y:=x) (by rw [hop]; simp [Op.operands]) he
 have h1:evalFree P ev o orc=none:=by unfold evalFree; rw [hop]; simp only [he,hl,Option.map_none]; first | done | (cases P.underlying t<;>simp)
 have h2:evalRead P H ev o orc=none:=by unfold evalRead; rw [hop]; simp only [he]; first | done | (cases P.underlying t<;>simp)
 have h3:evalCall P G H ev o orc=none:=by unfold evalCall; rw [hop]
 unfold evalOp
 rw [hop]
 simp only [isDefer,isBuildSlice,h1,h2,h3,Bool.false_eq_true,if_false]
theorem evalOp_eff {H:List AObj} {ev:Operand→AV} {orc:List Orc} (hop:(∃ t,o.op = .alloc t)∨(∃ t x,o.op = .box t x)∨(∃ c,o.op = .call c∧c.callee = .builtin .append)) :
 evalOp P G H ev o orc=match evalFree P ev o orc with
  | some (x,orc',ps)=>some (.free,.ret x,H,orc',ps)
  | none=>match evalEff P H ev o orc with
   | some (x,H',orc',ps)=>some (.eff,.ret x,H',orc',ps)
   | none=>none:=by
 rcases hop with ⟨t,hop⟩ | ⟨t,x,hop⟩ | ⟨c,hop,hc⟩
 · have h2:evalRead P H ev o orc=none:=by unfold evalRead; rw [hop]
   have h3:evalCall P G H ev o orc=none:=by unfold evalCall; rw [hop]
   unfold evalOp
   rw [hop]
   simp only [isDefer,isBuildSlice,h2,h3,Bool.false_eq_true,if_false]
 · have h2:evalRead P H ev o orc=none:=by unfold evalRead; rw [hop]
   have h3:evalCall P G H ev o orc=none:=by unfold evalCall; rw [hop]
   unfold evalOp
   rw [hop]
   simp only [isDefer,isBuildSlice,h2,h3,Bool.false_eq_true,if_false]
 · obtain ⟨callee,args,ts⟩:=c
   simp only at hc
   subst hc
   have h2:evalRead P H ev o orc=none:=by unfold evalRead; rw [hop]
   have h3:evalCall P G H ev o orc=none:=by unfold evalCall; rw [hop]
   unfold evalOp
   rw [hop]
   simp only [isDefer,isBuildSlice,h2,h3,Bool.false_eq_true,if_false]
theorem evalOp_callv {H:List AObj} {ev:Operand→AV} {orc:List Orc} {c:Call} {g:Operand} (hop:o.op = .call c) (hc:c.callee = .value g) :
 evalOp P G H ev o orc=match evalFree P ev o orc with
  | some (x,orc',ps)=>some (.free,.ret x,H,orc',ps)
  | none=>evalCall P G H ev o orc:=by
 obtain ⟨callee,args,ts⟩:=c
 simp only at hc
 subst hc
 have h2:evalRead P H ev o orc=none:=by unfold evalRead; rw [hop]
 have h3:evalEff P H ev o orc=none:=by unfold evalEff; rw [hop]
 unfold evalOp
 rw [hop]
 simp only [isDefer,isBuildSlice,h2,h3,Bool.false_eq_true,if_false]
theorem srcA_agree {H K:List AObj} {x:AV} {tx:TypeId} {s:Nat} (h:∀ id∈ownIds x,K[id]? = H[id]?):srcA P K x tx s=srcA P H x tx s:=by
 have key:∀ id g off len,x = .own id g off len→K[id]? = H[id]? := fun id g off len e=>h id (by rw [e]; simp [ownIds])
 unfold srcA
 split
 · rfl
 · rfl
 · rw [key _ _ _ _ rfl]
 · rfl
 · rfl
theorem srcObl_agree {H K:List AObj} {x:AV} {n:Nat} (h:∀ id∈ownIds x,K[id]? = H[id]?):srcObl K x n=srcObl H x n:=by
 cases x with
 | own id g off len=>simp only [srcObl,h id (by simp [ownIds])]
 | _=>rfl
def calm1:List Orc→Bool
 | .hp .. :: _ | .fz .. :: _=>false
 | _=>true
theorem calm1_of {orc:List Orc} (h:calmHead orc=true):calm1 orc=true∧∀ t,(orc = .emp::t∨orc = .own::t∨(∃ es,orc = .mput es::t)∨∃ y,orc = .elem y::t)→calm1 t=true:=by
 unfold calmHead at h
 split at h<;>first | (cases h; done) | skip
 rename_i n1 n2 n3 n4 n5 n6 n7 n8 n9 n10
 constructor
 · unfold calm1
   split<;>first | rfl | skip
   · exact absurd rfl (n1 _ _ _ _)
   · exact absurd rfl (n2 _ _ _)
 · intro t ht
   unfold calm1
   split<;>first | rfl | skip
   · rcases ht with ht | ht | ⟨es,ht⟩ | ⟨y,ht⟩
     · exact absurd ht (n3 _ _ _ _)
     · exact absurd ht (n5 _ _ _ _)
     · exact absurd ht (n7 _ _ _ _ _)
     · exact absurd ht (n9 _ _ _ _ _)
   · rcases ht with ht | ht | ⟨es,ht⟩ | ⟨y,ht⟩
     · exact absurd ht (n4 _ _ _)
     · exact absurd ht (n6 _ _ _)
     · exact absurd ht (n8 _ _ _ _)
     · exact absurd ht (n10 _ _ _ _)
theorem append_loc {H K:List AObj} {ts tx:TypeId} {a x r:AV} {orc orc':List Orc} {H':List AObj} {ps:List Prop} (h:appendA P H ts tx a x orc=some (r,H',orc',ps)) (hag:Agree H K (ownIds a++ownIds x) (ownIds a).isEmpty) (hc:calmHead orc=true) :
 ∃ K',appendA P K ts tx a x orc=some (r,K',orc',ps)∧Loc H H' K K' (ownIds a++ownIds x) (ownIds a).isEmpty∧calm1 orc'=true:=by
 have e1:∀ s,srcA P K x tx s=srcA P H x tx s:=fun s=>srcA_agree fun id hid=>hag.at_ id (List.mem_append_right _ hid)
 have e2:∀ n,srcObl K x n=srcObl H x n:=fun n=>srcObl_agree fun id hid=>hag.at_ id (List.mem_append_right _ hid)
 obtain ⟨c1,c2⟩:=calm1_of hc
 unfold appendA at h ⊢
 cases hu:P.underlying ts with
 | none=>simp [hu] at h
 | some td =>
  simp only [hu] at h ⊢
  cases td<;>simp only at h⊢<;> first | (cases h; done) | skip
  rename_i e
  cases hi:P.info? e with
  | none=>simp [hi] at h
  | some i =>
   simp only [hi] at h ⊢
   rw [e1]
   cases hz:i.zero with
   | none=>simp [hz] at h
   | some z =>
    simp only [hz] at h ⊢
    cases hs:srcA P H x tx i.size with
    | none=>simp [hs] at h
    | some ys =>
     simp only [hs] at h ⊢
     by_cases hcnd:0<i.bytes∧0<i.size∧z.cells.size=i.size
     · rw [if_pos hcnd] at h ⊢
       rw [e2]
       split at h
       ·
        split at h
        · cases h
          exact ⟨K,rfl,Loc.refl hag,c2 _ (.inl rfl)⟩
        · rename_i hne
          cases h
          refine ⟨K++[.arr 0 i.size false ys],?_,Loc.push hag _,c1⟩
          rw [hag.len rfl]
       ·
        rename_i sz xs
        split at h
        · rename_i hsz
          rw [if_pos hsz]
          split at h
          · cases h
            exact ⟨K,rfl,Loc.refl hag,c2 _ (.inl rfl)⟩
          · rename_i hne
            cases h
            refine ⟨K++[.arr 0 i.size false (xs++ys)],?_,Loc.push hag _,c1⟩
            rw [hag.len rfl]
        · cases h
       ·
        rename_i id g len
        have hk:K[id]? = H[id]? := hag.at_ id (by simp [ownIds])
        rw [hk]
        split at h
        · rename_i g' sz xs hH
          split at h
          · rename_i hsz
            rw [if_pos hsz]
            split at h
            · cases h
              exact ⟨K.set id _,rfl,Loc.set hag (by simp [ownIds]) _,c2 _ (.inr (.inl rfl))⟩
            · rename_i hne
              cases h
              refine ⟨K.set id (.arr (g+1) sz false (xs++ys)),?_,Loc.set hag (by simp [ownIds]) _,c1⟩
              rfl
          · cases h
        · cases h
       · cases h
     · rw [if_neg hcnd] at h
       cases h
theorem looks_agree {e:List Nat} {H K:List AObj}:∀ {ids:List Nat},(∀ id∈ids,K[id]? = H[id]?)→looks e K ids=looks e H ids
 | [],_=>rfl
 | id::ids,h=>by
  simp only [looks]
  rw [h id (by simp),looks_agree fun i hi=>h i (by simp [hi])]
theorem set_agree {H K:List AObj} {i:Nat} (h:K[i]? = H[i]?) (id:Nat) (ob:AObj):(K.set id ob)[i]? = (H.set id ob)[i]? := by
 by_cases e:id=i
 · subst e
   have:(id<K.length)↔(id<H.length):=by
    constructor
    · intro hk; rcases Nat.lt_or_ge id H.length with h2 | h2
      · exact h2
      · rw [List.getElem?_eq_none h2] at h; exact absurd (List.getElem?_eq_none_iff.1 h) (by omega)
    · intro hk; rcases Nat.lt_or_ge id K.length with h2 | h2
      · exact h2
      · rw [List.getElem?_eq_none h2] at h; exact absurd (List.getElem?_eq_none_iff.1 h.symm) (by omega)
   rw [List.getElem?_set,List.getElem?_set,if_pos rfl,if_pos rfl]
   simp only [this]
 · rw [List.getElem?_set_ne e,List.getElem?_set_ne e]; exact h
theorem putD_len (σ:Nat→Nat):∀ (e:List Nat) (os H:List AObj),(putD σ e os H).length=H.length
 | [],_,_=>rfl
 | _::_,[],_=>rfl
 | id::e,o::os,H=>by rw [putD,putD_len σ e os]; simp
theorem putD_other (σ:Nat→Nat):∀ (e:List Nat) (os H:List AObj) (id:Nat),id∉e→(putD σ e os H)[id]? = H[id]?
 | [],_,_,_,_=>rfl
 | _::_,[],_,_,_=>rfl
 | a::e,o::os,H,id,h=>by
  rw [putD,putD_other σ e os _ id (fun h'=>h (by simp [h']))]
  exact List.getElem?_set_ne fun e'=>h (by simp [e'])
theorem putD_agree (σ:Nat→Nat):∀ (e:List Nat) (os H K:List AObj) (i:Nat),K[i]? = H[i]?→(putD σ e os K)[i]? = (putD σ e os H)[i]?
 | [],_,_,_,_,h=>h
 | _::_,[],_,_,_,h=>h
 | a::e,o::os,H,K,i,h=>by
  rw [putD,putD]
  exact putD_agree σ e os _ _ i (set_agree h a _)
theorem back_loc {e:List Nat} {H K:List AObj} (h:Agree H K e true) (Hs:List AObj):Loc H (backD e H Hs) K (backD e K Hs) e true:=by
 have hl:=h.len rfl
 unfold backD
 rw [hl]
 have hlen:∀ L:List AObj,(putD (upto e H.length) e Hs L++(Hs.drop e.length).map (AObj.renD (upto e H.length))).length=L.length+(Hs.drop e.length).length:=fun L=>by rw [List.length_append,putD_len,List.length_map]
 refine ⟨fun h=>(by cases h),fun _=>by rw [hlen,hlen,hl],fun i hi=>?_,fun i hi=>?_⟩
 · by_cases hlt:i<H.length
   · rw [List.getElem?_append_left (by rw [putD_len]; omega),List.getElem?_append_left (by rw [putD_len]; omega)]
     refine putD_agree _ _ _ _ _ i ?_
     rcases List.mem_append.1 hi with hi | hi
     · exact h.at_ i hi
     · simp only [made,if_true,List.mem_range'_1] at hi; omega
   · rw [List.getElem?_append_right (by rw [putD_len]; omega),List.getElem?_append_right (by rw [putD_len]; omega),putD_len,putD_len,hl]
 · simp only [made,if_true,List.mem_append,List.mem_range'_1,not_or] at hi
   obtain ⟨h1,h2⟩:=hi
   rw [hlen] at h2
   by_cases hlt:i<H.length
   · rw [List.getElem?_append_left (by rw [putD_len]; omega),List.getElem?_append_left (by rw [putD_len]; omega),putD_other _ _ _ _ _ h1,putD_other _ _ _ _ _ h1]
     exact ⟨rfl,rfl⟩
   · have hge:H.length+(Hs.drop e.length).length≤i:=by omega
     have n1:∀ L:List AObj,L.length=H.length→(putD (upto e H.length) e Hs L++(Hs.drop e.length).map (AObj.renD (upto e H.length)))[i]? = none:=fun L hL=>List.getElem?_eq_none (by rw [hlen]; omega)
     rw [n1 K hl,n1 H rfl,List.getElem?_eq_none (by omega),List.getElem?_eq_none (by omega)]
     exact ⟨rfl,rfl⟩
theorem enter_loc {H K:List AObj} {f:FuncId} {xs:List AV} {e:List Nat} {out:AOut} {Hs:List AObj} {orc orc':List Orc} {k:Kind} {out':AOut} {H':List AObj} {ps:List Prop} (h:enterA P G H f xs (.call e out Hs::orc)=some (k,out',H',orc',ps)) (hag:Agree H K e true) :
 ∃ K',enterA P G K f xs (.call e out Hs::orc)=some (k,out',K',orc',ps)∧Loc H H' K K' e true∧orc'=orc:=by
 have hl:=hag.len rfl
 cases hcs:e with
 | nil =>
  subst hcs
  cases hHs:Hs with
  | nil =>
   subst hHs
   simp only [enterA] at h ⊢
   by_cases hcnd:AV.idsInL [] xs=true∧out.idFree=true
   · rw [if_pos hcnd] at h ⊢
     cases h
     exact ⟨K,rfl,Loc.refl hag,rfl⟩
   · rw [if_neg hcnd] at h; cases h
  | cons o os =>
   subst hHs
   simp only [enterA] at h ⊢
   by_cases hcnd:nodupB []=true∧AV.idsInL [] xs=true
   · rw [if_pos hcnd] at h ⊢
     simp only [looks] at h ⊢
     cases h
     exact ⟨backD [] K (o::os),by rw [hl],back_loc hag _,rfl⟩
   · rw [if_neg hcnd] at h; cases h
 | cons a e' =>
  subst hcs
  simp only [enterA] at h ⊢
  by_cases hcnd:nodupB (a::e')=true∧AV.idsInL (a::e') xs=true
  · rw [if_pos hcnd] at h ⊢
    rw [looks_agree (e:=a::e') (ids:=a::e') hag.at_]
    cases hlk:looks (a::e') H (a::e') with
    | none=>simp [hlk] at h
    | some q =>
     obtain ⟨hs,qs⟩:=q
     simp only [hlk] at h ⊢
     cases h
     exact ⟨backD (a::e') K Hs,by rw [hl],back_loc hag _,rfl⟩
  · rw [if_neg hcnd] at h; cases h
theorem evalLit_apt {ev:Operand→AV} {y:Operand} {id g k j:Nat} (hy:y∈o.op.operands) (he:ev y = .apt id g k j):evalLit P ev o=none:=by
 unfold evalLit
 split
 · rfl
 · rw [if_neg]
   intro h
   have:=List.all_eq_true.1 h y (by simpa using hy)
   rw [he] at this
   cases this
theorem evalOp_loadR {H:List AObj} {ev:Operand→AV} {orc:List Orc} (hop:(∃ t x,o.op = .load t x)∨(∃ t x f,o.op = .fieldAddr t x f)∨(∃ t x i,o.op = .indexAddr t x i)∨(∃ c,o.op = .call c∧c.callee = .builtin .len)∨(∃ x,o.op = .nilCheck x)) :
 evalOp P G H ev o orc=match evalFree P ev o orc with
  | some (x,orc',ps)=>some (.free,.ret x,H,orc',ps)
  | none=>match evalRead P H ev o orc with
   | some (x,orc',ps)=>some (.read,.ret x,H,orc',ps)
   | none=>none:=by
 rcases hop with ⟨t,x,hop⟩ | ⟨t,x,f,hop⟩ | ⟨t,x,i,hop⟩ | ⟨c,hop,hc⟩ | ⟨x,hop⟩
 · have h2:evalEff P H ev o orc=none:=by unfold evalEff; rw [hop]
   have h3:evalCall P G H ev o orc=none:=by unfold evalCall; rw [hop]
   unfold evalOp
   rw [hop]
   simp only [isDefer,isBuildSlice,h2,h3,Bool.false_eq_true,if_false]
 · have h2:evalEff P H ev o orc=none:=by unfold evalEff; rw [hop]
   have h3:evalCall P G H ev o orc=none:=by unfold evalCall; rw [hop]
   unfold evalOp
   rw [hop]
   simp only [isDefer,isBuildSlice,h2,h3,Bool.false_eq_true,if_false]
 · have h2:evalEff P H ev o orc=none:=by unfold evalEff; rw [hop]
   have h3:evalCall P G H ev o orc=none:=by unfold evalCall; rw [hop]
   unfold evalOp
   rw [hop]
   simp only [isDefer,isBuildSlice,h2,h3,Bool.false_eq_true,if_false]
 · obtain ⟨callee,args,ts⟩:=c
   simp only at hc
   subst hc
   have h2:evalEff P H ev o orc=none:=by unfold evalEff; rw [hop]
   have h3:evalCall P G H ev o orc=none:=by unfold evalCall; rw [hop]
   unfold evalOp
   rw [hop]
   simp only [isDefer,isBuildSlice,h2,h3,Bool.false_eq_true,if_false]
 · have h2:evalEff P H ev o orc=none:=by unfold evalEff; rw [hop]
   have h3:evalCall P G H ev o orc=none:=by unfold evalCall; rw [hop]
   unfold evalOp
   rw [hop]
   simp only [isDefer,isBuildSlice,h2,h3,Bool.false_eq_true,if_false]
theorem evalOp_read_loc {H K:List AObj} {ev:Operand→AV} {orc orc':List Orc} {k:Kind} {out:AOut} {H':List AObj} {ps:List Prop} {ids:List Nat} {len:Bool} (hop:(∃ t x,o.op = .load t x)∨(∃ t x f,o.op = .fieldAddr t x f)∨(∃ t x i,o.op = .indexAddr t x i)∨(∃ c,o.op = .call c∧c.callee = .builtin .len)∨(∃ x,o.op = .nilCheck x))
 (h:evalOp P G H ev o orc=some (k,out,H',orc',ps)) (hag:Agree H K ids len) (hR:evalRead P K ev o orc=evalRead P H ev o orc) (hC:∀ {x orc1 qs},evalRead P H ev o orc=some (x,orc1,qs)→calm1 orc1=true) :
 ∃ K',evalOp P G K ev o orc=some (k,out,K',orc',ps)∧Loc H H' K K' ids len∧(k = .free∨calm1 orc'=true):=by
 rw [evalOp_loadR hop] at h ⊢
 rw [hR]
 cases hfr:evalFree P ev o orc with
 | some q =>
  obtain ⟨x,orc1,qs⟩:=q
  simp only [hfr] at h ⊢
  cases h
  exact ⟨K,rfl,Loc.refl hag,.inl rfl⟩
 | none =>
  simp only [hfr] at h ⊢
  cases hrd:evalRead P H ev o orc with
  | none=>simp [hrd] at h
  | some q =>
   obtain ⟨x,orc1,qs⟩:=q
   have:=hC hrd
   simp only [hrd] at h ⊢
   cases h
   exact ⟨K,rfl,Loc.refl hag,.inr this⟩
theorem evalOp_storeA {H:List AObj} {ev:Operand→AV} {orc:List Orc} {t:TypeId} {x y:Operand} {id g k j:Nat} (hop:o.op = .store t x y) (he:ev x = .apt id g k j) :
 evalOp P G H ev o orc=match evalEff P H ev o orc with
  | some (x,H',orc',ps)=>some (.eff,.ret x,H',orc',ps)
  | none=>none:=by
 have hl:evalLit P ev o=none:=evalLit_apt (y:=x) (by rw [hop]; simp [Op.operands]) he
 have h1:evalFree P ev o orc=none:=by unfold evalFree; rw [hop]; simp only [hl,Option.map_none]
 have h2:evalRead P H ev o orc=none:=by unfold evalRead; rw [hop]
 have h3:evalCall P G H ev o orc=none:=by unfold evalCall; rw [hop]
 unfold evalOp
 rw [hop]
 simp only [isDefer,isBuildSlice,h1,h2,h3,Bool.false_eq_true,if_false]
theorem evalOp_bs {H:List AObj} {ev:Operand→AV} {orc:List Orc} {t:TypeId} {n:Nat} {parts:Array (Nat × Operand)} (hop:o.op = .buildSlice t n parts) :
 evalOp P G H ev o orc=match evalFree P ev o orc with
  | some (x,orc',ps)=>some (.free,.ret x,H,orc',ps)
  | none=>match evalEff P [] ev o orc with
   | some (x,[],orc',ps)=>some (.free,.ret x,H,orc',ps)
   | _=>match evalEff P H ev o orc with
    | some (x,H',orc',ps)=>some (.eff,.ret x,H',orc',ps)
    | none=>none:=by
 have h2:evalRead P H ev o orc=none:=by unfold evalRead; rw [hop]
 have h3:evalCall P G H ev o orc=none:=by unfold evalCall; rw [hop]
 unfold evalOp
 rw [hop]
 simp only [isDefer,isBuildSlice,h2,h3,Bool.false_eq_true,if_false,if_true]
theorem evalOp_loc {H K:List AObj} {ev:Operand→AV} {orc orc':List Orc} {k:Kind} {out:AOut} {H':List AObj} {ps:List Prop} {ids:List Nat} {len:Bool} (h:evalOp P G H ev o orc=some (k,out,H',orc',ps)) (hf:foot ev o orc=some (ids,len)) (hag:Agree H K ids len) :
 ∃ K',evalOp P G K ev o orc=some (k,out,K',orc',ps)∧Loc H H' K K' ids len∧(k = .free∨calm1 orc'=true):=by
 have fr:∀ {x:AV} {orc1:List Orc} {qs:List Prop},some (Kind.free,AOut.ret x,H,orc1,qs)=some (k,out,H',orc',ps)→∃ K',some (Kind.free,AOut.ret x,K,orc1,qs)=some (k,out,K',orc',ps)∧Loc H H' K K' ids len∧(k = .free∨calm1 orc'=true):=fun h=>by
  cases h
  exact ⟨K,rfl,Loc.refl hag,.inl rfl⟩
 have eff:(∃ t,o.op = .alloc t)∨(∃ t x,o.op = .box t x)∨(∃ c,o.op = .call c∧c.callee = .builtin .append)→calmHead orc=true→(∀ {x H1 orc1 qs},evalEff P H ev o orc=some (x,H1,orc1,qs)→∃ K1,evalEff P K ev o orc=some (x,K1,orc1,qs)∧Loc H H1 K K1 ids len∧calm1 orc1=true) →
  ∃ K',evalOp P G K ev o orc=some (k,out,K',orc',ps)∧Loc H H' K K' ids len∧(k = .free∨calm1 orc'=true):=fun hop _ he=>by
  rw [evalOp_eff hop] at h ⊢
  cases hfr:evalFree P ev o orc with
  | some q=>obtain ⟨x,orc1,qs⟩:=q; simp only [hfr] at h ⊢; exact fr h
  | none =>
   simp only [hfr] at h ⊢
   cases hef:evalEff P H ev o orc with
   | none=>simp [hef] at h
   | some q =>
    obtain ⟨x,H1,orc1,qs⟩:=q
    obtain ⟨K1,e1,e2,e3⟩:=he hef
    simp only [hef,Option.some.injEq,Prod.mk.injEq] at h
    obtain ⟨rfl,rfl,rfl,rfl,rfl⟩:=h
    exact ⟨K1,by rw [e1],e2,.inr e3⟩
 unfold foot at hf
 split at hf
 ·
  rename_i t x hop
  split at hf<;>first | (cases hf; done) | skip
  · rename_i id off he
    split at hf<;>first | (cases hf; done) | skip
    rename_i hc
    cases hf
    rw [evalOp_load hop he] at h ⊢
    rw [hag.at_ id (by simp)]
    cases hH:H[id]? with
    | none=>rw [hH] at h; cases h
    | some ob =>
     rw [hH] at h
     cases ob<;>simp only at h⊢<;> try (cases h; done)
     rename_i cells
     cases hl:loadA P t (cells.drop off) with
     | none=>simp [hl] at h
     | some z =>
      simp only [hl,Option.map_some,Option.some.injEq,Prod.mk.injEq] at h
      obtain ⟨rfl,rfl,rfl,rfl,rfl⟩:=h
      exact ⟨K,rfl,Loc.refl hag,.inr (calm1_of hc).1⟩
  · rename_i id g kk j he
    split at hf<;>first | (cases hf; done) | skip
    rename_i hc
    cases hf
    have hk:=hag.at_ id (by simp)
    refine evalOp_read_loc (.inl ⟨t,x,hop⟩) h hag ?_ ?_
    · unfold evalRead
      rw [hop]
      simp only [he,hk]
    · intro z orc1 qs hrd
      unfold evalRead at hrd
      rw [hop] at hrd
      simp only [he] at hrd
      split at hrd
      · obtain ⟨z1,_,hz⟩:=Option.map_eq_some_iff.1 hrd
        cases hz
        exact (calm1_of hc).2 _ (.inr (.inr (.inr ⟨_,rfl⟩)))
      · cases hrd
 ·
  rename_i t x y hop
  split at hf<;>first | (cases hf; done) | skip
  · rename_i id off he
    split at hf<;>first | (cases hf; done) | skip
    rename_i hc
    cases hf
    rw [evalOp_store hop he] at h ⊢
    rw [hag.at_ id (by simp)]
    split at h
    · split at h
      · rename_i hcnd
        cases h
        exact ⟨K.set id _,by simp only [if_pos hcnd],Loc.set hag (by simp) _,.inr (calm1_of hc).1⟩
      · cases h
    · cases h
  · rename_i id g kk j he
    split at hf<;>first | (cases hf; done) | skip
    rename_i hc
    cases hf
    rw [evalOp_storeA hop he] at h ⊢
    cases hE:evalEff P H ev o orc with
    | none=>simp [hE] at h
    | some q =>
     obtain ⟨z,H1,orc1,qs⟩:=q
     have key:∃ K1,evalEff P K ev o orc=some (z,K1,orc1,qs)∧Loc H H1 K K1 [id] false∧calm1 orc1=true:=by
      unfold evalEff at hE ⊢
      rw [hop] at hE ⊢
      simp only [he] at hE ⊢
      cases hn:tSize P t with
      | none=>simp only [hn] at hE; cases hE
      | some n =>
       cases hcs:(ev y).cells with
       | none=>simp only [hn,hcs] at hE; cases hE
       | some cs =>
        simp only [hn,hcs,hag.at_ id (by simp:id∈[id])] at hE ⊢
        split at hE
        · rename_i e orc2 hH
          split at hE
          · rename_i hcnd
            cases hE
            exact ⟨K.set id _,by rw [if_pos hcnd],Loc.set hag (by simp) _,(calm1_of hc).2 _ (.inr (.inr (.inr ⟨_,rfl⟩)))⟩
          · cases hE
        · cases hE
     obtain ⟨K1,e1,e2,e3⟩:=key
     simp only [hE,Option.some.injEq,Prod.mk.injEq] at h
     obtain ⟨rfl,rfl,rfl,rfl,rfl⟩:=h
     exact ⟨K1,by rw [e1],e2,.inr e3⟩
 ·
  rename_i t x f hop
  split at hf<;>first | (cases hf; done) | skip
  rename_i id g kk j he
  split at hf<;>first | (cases hf; done) | skip
  rename_i hc
  cases hf
  have hk:=hag.at_ id (by simp)
  refine evalOp_read_loc (.inr (.inl ⟨t,x,f,hop⟩)) h hag ?_ ?_
  · unfold evalRead
    rw [hop]
    simp only [he]
    cases fieldOff P t f with
    | none=>rfl
    | some n=>simp only [hk]
  · intro z orc1 qs hrd
    unfold evalRead at hrd
    rw [hop] at hrd
    simp only [he] at hrd
    split at hrd
    · split at hrd
      · cases hrd
        exact (calm1_of hc).1
      · cases hrd
    · cases hrd
 ·
  rename_i t x i hop
  split at hf<;>first | (cases hf; done) | skip
  rename_i id g off len he
  split at hf<;>first | (cases hf; done) | skip
  rename_i hc
  cases hf
  have hk:=hag.at_ id (by simp)
  refine evalOp_read_loc (.inr (.inr (.inl ⟨t,x,i,hop⟩))) h hag ?_ ?_
  · unfold evalRead
    rw [hop]
    simp only [he]
    cases P.underlying t with
    | none=>rfl
    | some td =>
     cases td<;>try rfl
     cases litInt (ev i) with
     | none=>rfl
     | some n =>
      rename_i e
      simp only
      cases tSize P e with
      | none=>rfl
      | some s=>simp only [hk]
  · intro z orc1 qs hrd
    unfold evalRead at hrd
    rw [hop] at hrd
    simp only [he] at hrd
    split at hrd
    · split at hrd
      · split at hrd
        · cases hrd
          exact (calm1_of hc).1
        · cases hrd
      · cases hrd
    · cases hrd
 ·
  rename_i x hop
  split at hf<;>first | (cases hf; done) | skip
  rename_i id g kk j he
  split at hf<;>first | (cases hf; done) | skip
  rename_i hc
  cases hf
  have hk:=hag.at_ id (by simp)
  refine evalOp_read_loc (.inr (.inr (.inr (.inr ⟨x,hop⟩)))) h hag ?_ ?_
  · unfold evalRead
    rw [hop]
    simp only [he,hk]
  · intro z orc1 qs hrd
    unfold evalRead at hrd
    rw [hop] at hrd
    simp only [he] at hrd
    split at hrd
    · cases hrd
      exact (calm1_of hc).1
    · cases hrd
 ·
  rename_i t n parts hop
  split at hf<;>first | (cases hf; done) | skip
  rename_i orc2
  split at hf<;>first | (cases hf; done) | skip
  rename_i hc
  cases hf
  have key:∀ {L:List AObj} {z:AV} {L1:List AObj} {orc1:List Orc} {qs:List Prop},evalEff P L ev o (.own::orc2)=some (z,L1,orc1,qs)→orc1=orc2∧∃ ob,L1=L++[ob]∧∀ L2:List AObj,L2.length=L.length→evalEff P L2 ev o (.own::orc2)=some (z,L2++[ob],orc1,qs):=fun {L z L1 orc1 qs} hq=>by
   unfold evalEff at hq ⊢
   rw [hop] at hq ⊢
   simp only at hq ⊢
   split at hq
   · rename_i e hu
     split at hq
     · rename_i i hi
       split at hq
       · rename_i z0 hz
         split at hq
         · rename_i h1
           split at hq
           · rename_i out hout
             split at hq
             · rename_i h2
               cases hq
               exact ⟨rfl,_,rfl,fun L2 hL=>by simp only [if_pos h1,hout,if_pos h2,hL]⟩
             · cases hq
           · cases hq
         · cases hq
       · cases hq
     · cases hq
   · cases hq
  rw [evalOp_bs hop] at h ⊢
  cases hfr:evalFree P ev o (.own::orc2) with
  | some q=>obtain ⟨x,orc1,qs⟩:=q; simp only [hfr] at h ⊢; exact fr h
  | none =>
   simp only [hfr] at h ⊢
   cases he0:evalEff P [] ev o (.own::orc2) with
   | some q =>
    obtain ⟨x,L1,orc1,qs⟩:=q
    obtain ⟨e1,ob,e2,e3⟩:=key he0
    subst e2
    simp only [he0,List.nil_append] at h ⊢
    cases hef:evalEff P H ev o (.own::orc2) with
    | none=>simp [hef] at h
    | some q =>
     obtain ⟨x2,H1,orc3,qs3⟩:=q
     obtain ⟨f1,ob2,f2,f3⟩:=key hef
     subst f2
     simp only [hef,Option.some.injEq,Prod.mk.injEq] at h
     obtain ⟨rfl,rfl,rfl,rfl,rfl⟩:=h
     exact ⟨K++[ob2],by rw [f3 K (hag.len rfl)],Loc.push hag _,.inr (by rw [f1]; exact (calm1_of hc).2 _ (.inr (.inl rfl)))⟩
   | none =>
    simp only [he0] at h ⊢
    cases hef:evalEff P H ev o (.own::orc2) with
    | none=>simp [hef] at h
    | some q =>
     obtain ⟨x2,H1,orc3,qs3⟩:=q
     obtain ⟨f1,ob2,f2,f3⟩:=key hef
     subst f2
     simp only [hef,Option.some.injEq,Prod.mk.injEq] at h
     obtain ⟨rfl,rfl,rfl,rfl,rfl⟩:=h
     exact ⟨K++[ob2],by rw [f3 K (hag.len rfl)],Loc.push hag _,.inr (by rw [f1]; exact (calm1_of hc).2 _ (.inr (.inl rfl)))⟩
 ·
  rename_i t hop
  split at hf<;>first | (cases hf; done) | skip
  rename_i hc
  cases hf
  refine eff (.inl ⟨t,hop⟩) hc fun {x H1 orc1 qs} he=>?_
  unfold evalEff at he ⊢
  rw [hop] at he ⊢
  simp only at he ⊢
  cases hi:P.info? t with
  | none=>simp [hi] at he
  | some i =>
   simp only [hi] at he ⊢
   cases hz:i.zero with
   | none=>simp [hz] at he
   | some z =>
    simp only [hz,Option.some.injEq,Prod.mk.injEq] at he ⊢
    obtain ⟨rfl,rfl,rfl,rfl⟩:=he
    exact ⟨_,⟨by rw [hag.len rfl],rfl,rfl,rfl⟩,Loc.push hag _,(calm1_of hc).1⟩
 ·
  rename_i t x hop
  split at hf<;>first | (cases hf; done) | skip
  rename_i hc
  cases hf
  refine eff (.inr (.inl ⟨t,x,hop⟩)) hc fun {y H1 orc1 qs} he=>?_
  unfold evalEff at he ⊢
  rw [hop] at he ⊢
  simp only at he ⊢
  cases hcs:(ev x).cells with
  | none=>simp [hcs] at he
  | some cs =>
   simp only [hcs,Option.some.injEq,Prod.mk.injEq] at he ⊢
   obtain ⟨rfl,rfl,rfl,rfl⟩:=he
   exact ⟨_,⟨by rw [hag.len rfl],rfl,rfl,rfl⟩,Loc.push hag _,(calm1_of hc).1⟩
 ·
  rename_i t m k1 x hop
  split at hf<;>first | (cases hf; done) | skip
  rename_i id he
  split at hf<;>first | (cases hf; done) | skip
  rename_i hc
  cases hf
  rw [evalOp_mput hop he] at h ⊢
  have key:∀ {z:AV} {H1:List AObj} {orc1:List Orc} {qs:List Prop},evalEff P H ev o orc=some (z,H1,orc1,qs)→∃ K1,evalEff P K ev o orc=some (z,K1,orc1,qs)∧Loc H H1 K K1 [id] false∧calm1 orc1=true:=fun {z H1 orc1 qs} hq=>by
   unfold evalEff at hq ⊢
   rw [hop] at hq ⊢
   simp only [he] at hq ⊢
   split at hq
   · rename_i kt et id' kv es' orc2 hu hid hk
     cases hid
     rw [hag.at_ _ (by simp)]
     split at hq
     · rename_i es hH
       cases hq
       exact ⟨K.set id _,rfl,Loc.set hag (by simp) _,(calm1_of hc).2 _ (.inr (.inr (.inl ⟨_,rfl⟩)))⟩
     · cases hq
   · cases hq
  cases hE:evalEff P H ev o orc with
  | none=>simp [hE] at h
  | some q =>
   obtain ⟨z,H1,orc1,qs⟩:=q
   obtain ⟨K1,e1,e2,e3⟩:=key hE
   simp only [hE,Option.some.injEq,Prod.mk.injEq] at h
   obtain ⟨rfl,rfl,rfl,rfl,rfl⟩:=h
   exact ⟨K1,by rw [e1],e2,.inr e3⟩
 ·
  rename_i t x hop
  split at hf<;>first | (cases hf; done) | skip
  rename_i id he
  split at hf<;>first | (cases hf; done) | skip
  rename_i hc
  cases hf
  rw [evalOp_sliceA hop he] at h ⊢
  have key:∀ {z:AV} {H1:List AObj} {orc1:List Orc} {qs:List Prop},evalEff P H ev o orc=some (z,H1,orc1,qs)→∃ K1,evalEff P K ev o orc=some (z,K1,orc1,qs)∧Loc H H1 K K1 [id] false∧calm1 orc1=true:=fun {z H1 orc1 qs} hq=>by
   unfold evalEff at hq ⊢
   rw [hop] at hq ⊢
   simp only [he] at hq ⊢
   split at hq
   · rename_i n e id' hu hid
     cases hid
     rw [hag.at_ _ (by simp)]
     split at hq
     · rename_i s cells hs hH
       split at hq
       · rename_i hcnd
         cases hq
         exact ⟨K.set id _,by rw [if_pos hcnd],Loc.set hag (by simp) _,(calm1_of hc).1⟩
       · cases hq
     · cases hq
   · cases hq
  cases hE:evalEff P H ev o orc with
  | none=>simp [hE] at h
  | some q =>
   obtain ⟨z,H1,orc1,qs⟩:=q
   obtain ⟨K1,e1,e2,e3⟩:=key hE
   simp only [hE,Option.some.injEq,Prod.mk.injEq] at h
   obtain ⟨rfl,rfl,rfl,rfl,rfl⟩:=h
   exact ⟨K1,by rw [e1],e2,.inr e3⟩
 ·
  rename_i c hop
  split at hf
  ·
   rename_i hcal
   split at hf<;>first | (cases hf; done) | skip
   rename_i a x hargs
   split at hf<;>first | (cases hf; done) | skip
   rename_i hc
   cases hf
   refine eff (.inr (.inr ⟨c,hop,hcal⟩)) hc fun {y H1 orc1 qs} he=>?_
   obtain ⟨callee,args,ts⟩:=c
   simp only at hcal hargs
   subst hcal
   unfold evalEff at he ⊢
   rw [hop] at he ⊢
   simp only [hargs] at he ⊢
   cases hts:ts.toList with
   | nil=>simp [hts] at he
   | cons ta tl =>
    cases tl with
    | nil=>simp [hts] at he
    | cons tx tl2 =>
     cases tl2 with
     | cons _ _=>simp [hts] at he
     | nil =>
      simp only [hts] at he ⊢
      exact append_loc he hag hc
  ·
   rename_i hcal
   split at hf<;>first | (cases hf; done) | skip
   rename_i x hargs
   split at hf<;>first | (cases hf; done) | skip
   rename_i id g off len he
   split at hf<;>first | (cases hf; done) | skip
   rename_i hc
   cases hf
   have hk:=hag.at_ id (by simp)
   refine evalOp_read_loc (.inr (.inr (.inr (.inl ⟨c,hop,hcal⟩)))) h hag ?_ ?_
   · obtain ⟨callee,args,ts⟩:=c
     simp only at hcal hargs
     subst hcal
     unfold evalRead
     rw [hop]
     simp only [hargs]
     cases ts.toList with
     | nil=>rfl
     | cons t tl=>cases tl with
      | cons _ _=>rfl
      | nil =>
       simp only [he]
       cases P.underlying t with
       | none=>rfl
       | some td=>cases td<;>first | rfl | simp only [hk]
   · intro z orc1 qs hrd
     obtain ⟨callee,args,ts⟩:=c
     simp only at hcal hargs
     subst hcal
     unfold evalRead at hrd
     rw [hop] at hrd
     simp only [hargs] at hrd
     split at hrd
     · split at hrd
       · split at hrd
         · cases hrd
           exact (calm1_of hc).1
         · cases hrd
       · split at hrd
         · cases hrd
           exact (calm1_of hc).1
         · cases hrd
       · cases hrd
     · cases hrd
  ·
   rename_i g e0 cout Hs orc1 hcal
   split at hf<;>first | (cases hf; done) | skip
   rename_i hc
   obtain ⟨hc,hft⟩:=hc
   cases hf
   rw [evalOp_callv hop hcal] at h ⊢
   cases hfr:evalFree P ev o (.call ids cout Hs::orc1) with
   | some q=>obtain ⟨x,orc2,qs⟩:=q; simp only [hfr] at h ⊢; exact fr h
   | none =>
    simp only [hfr] at h ⊢
    obtain ⟨callee,args,ts⟩:=c
    simp only at hcal
    subst hcal
    have ex:∀ L:List AObj,evalCall P G L ev o (.call ids cout Hs::orc1)=match funTarget (ev g) with
     | some (f,aZ,bs)=>if funcOk P f=true then enterA P G L f (aZ++args.toList.map ev++bs) (.call ids cout Hs::orc1) else none
     | none=>none:=fun L=>by
     unfold evalCall
     rw [hop]
     simp only
     split
     · rename_i id b H1 orc2 hy _
       rw [hy] at hft
       simp [funTarget] at hft
     · rfl
    rw [ex] at h ⊢
    cases hft2:funTarget (ev g) with
    | none=>simp [hft2] at h
    | some q =>
     obtain ⟨f,aZ,bs⟩:=q
     simp only [hft2] at h ⊢
     split at h
     · rename_i hok
       rw [if_pos hok]
       obtain ⟨K',k1,k2,k3⟩:=enter_loc h hag
       exact ⟨K',k1,k2,.inr (by rw [k3]; exact (calm1_of hc).1)⟩
     · cases h
  · cases hf
 · cases hf
theorem reval_pass {d:Option Tmp} {k:Kind} {out:AOut} {orc:List Orc} {ps:List Prop} (hc:calm1 orc=true) :
 ∃ out' orc' ps',∀ Hx,reval d (some (k,out,Hx,orc,ps))=some (k,out',Hx,orc',ps'):=by
 cases out with
 | pan x=>exact ⟨.pan x,orc,ps,fun _=>by cases k<;>rfl⟩
 | ret x =>
  cases orc with
  | nil=>exact ⟨.ret x,[],ps,fun _=>by cases k<;>rfl⟩
  | cons q t =>
   cases q with
   | val d' y =>
    by_cases hd:d'=d
    · exact ⟨.ret y,t,Sub x y::ps,fun Hx=>by cases k<;>simp only [reval,if_pos hd]⟩
    · exact ⟨.ret x,.val d' y::t,ps,fun Hx=>by cases k<;>simp only [reval,if_neg hd]⟩
   | hp d' y K=>cases hc
   | fz d' z=>cases hc
   | _=>exact ⟨.ret x,_,ps,fun _=>by cases k<;>rfl⟩
theorem reval_free {d:Option Tmp} {out:AOut} {orc:List Orc} {ps:List Prop} :
 ∃ out' orc' ps',∀ Hx,reval d (some (.free,out,Hx,orc,ps))=some (.free,out',Hx,orc',ps'):=by
 cases out with
 | pan x=>exact ⟨.pan x,orc,ps,fun _=>rfl⟩
 | ret x =>
  cases orc with
  | nil=>exact ⟨.ret x,[],ps,fun _=>rfl⟩
  | cons q t =>
   cases q with
   | val d' y =>
    by_cases hd:d'=d
    · exact ⟨.ret y,t,Sub x y::ps,fun Hx=>by simp only [reval,if_pos hd]⟩
    · exact ⟨.ret x,.val d' y::t,ps,fun Hx=>by simp only [reval,if_neg hd]⟩
   | _=>exact ⟨.ret x,_,ps,fun _=>rfl⟩
theorem stepA_loc {gs:Bool} {H K:List AObj} {orc orc':List Orc} {k:Kind} {out:AOut} {H':List AObj} {ps:List Prop} {ids:List Nat} {len:Bool} (h:stepA P G ops gs env H o orc=some (k,out,H',orc',ps)) (hf:foot (evA G env) o orc=some (ids,len)) (hag:Agree H K ids len) :
 ∃ K',stepA P G ops gs env K o orc=some (k,out,K',orc',ps)∧Loc H H' K K' ids len:=by
 have key:∀ {k out H' orc' ps},reval o.dst (evalOp P G H (evA G env) o orc)=some (k,out,H',orc',ps)→∃ K',reval o.dst (evalOp P G K (evA G env) o orc)=some (k,out,K',orc',ps)∧Loc H H' K K' ids len:=by
  intro k out H' orc' ps hr
  cases he:evalOp P G H (evA G env) o orc with
  | none=>rw [he] at hr; simp [reval] at hr
  | some q =>
   obtain ⟨k1,out1,H1,orc1,ps1⟩:=q
   obtain ⟨K1,h1,h2,h3⟩:=evalOp_loc he hf hag
   obtain ⟨o2,orc2,ps2,hp⟩:∃ out' orc' ps',∀ Hx,reval o.dst (some (k1,out1,Hx,orc1,ps1))=some (k1,out',Hx,orc',ps'):=by
    rcases h3 with rfl | h3
    · exact reval_free
    · exact reval_pass h3
   rw [he,hp] at hr
   cases hr
   exact ⟨K1,by rw [h1,hp],h2⟩
 unfold stepA at h ⊢
 split at h
 · split at h
   · rename_i k1 out1 H1 orc1 qs hev
     obtain ⟨K1,h1,h2⟩:=key hev
     rw [h1]
     split at h
     · rename_i hg
       split at h
       · cases h
         exact ⟨K1,by simp only [hg,if_true],h2⟩
       · cases h
     · rename_i hg
       cases h
       exact ⟨K1,by simp only [if_neg hg],h2⟩
   · cases h
 · cases h
   exact ⟨K,rfl,Loc.refl hag⟩
 · cases h
end
end Go.Am


namespace Go.Am
open Go
theorem getD_set_self' {l:List AV} {t:Nat} {x:AV} (h:t<l.length):(l.set t x).getD t .dead=x:=by simp [List.getD_eq_getElem?_getD,h]
theorem getD_set_ne' {l:List AV} {s t:Nat} {x:AV} (h:s≠t):(l.set s x).getD t .dead=l.getD t .dead:=by simp [List.getD_eq_getElem?_getD,h]
theorem putA_length (env:List AV) (d:Option Tmp) (x:AV):(putA env d x).length=env.length:=by cases d<;>simp [putA]
theorem put_def (a:Act) (d:Option Tmp) (v:Value):(a.put d v).defers=a.defers:=by cases d<;>rfl
def EnvOk (V:View) (env:List AV) (a:Act):Prop:=Reps V env a.tmps.toList
theorem EnvOk.step {V V':View} (hs:Step V V') {env:List AV} {a:Act} (h:EnvOk V env a):EnvOk V' env a:=Reps.step hs h
theorem EnvOk.put {V:View} {env:List AV} {a:Act} (h:EnvOk V env a) (d:Option Tmp) {x:AV} {v:Value} (hx:Rep V x v):EnvOk V (putA env d x) (a.put d v):=by
 cases d with
 | none=>exact h
 | some d =>
  unfold EnvOk
  have:=Reps.set h d hx
  simpa [putA,Act.put] using this
theorem EnvOk.get {V:View} {env:List AV} {a:Act} (h:EnvOk V env a) (t:Nat):Rep V (env.getD t .dead) (a.tmps.getD t undef):=by
 by_cases ht:t<env.length
 · have:=h.2 t ht
   simpa [Array.getD_eq_getD_getElem?,List.getD_eq_getElem?_getD] using this
 · rw [List.getD_eq_getElem?_getD,List.getElem?_eq_none (by omega)]
   exact .dead _
section
variable {P:Program} {G:Nat→Option (List AV)} {r:Option Nat} {ops:Array Oper}
end
structure Tr where
 ids:Option (List Nat)
 len:Bool
 k:Kind
 x:AV
 H:List AObj
instance:Inhabited Tr:=⟨⟨some [],false,.free,.dead,[]⟩⟩
def Tr.touch (t:Tr) (id:Nat):Bool:=match t.ids with
 | some l=>l.contains id
 | none=>true
def Tr.lens (t:Tr):Bool:=t.len || t.ids.isNone
def mkTr (ev:Operand→AV) (o:Oper) (orc:List Orc) (k:Kind) (x:AV) (H H':List AObj):Tr:=match foot ev o orc with
 | some (ids,len)=>⟨some (ids++made len H H'),len,k,x,H'⟩
 | none=>⟨none,true,k,x,H'⟩
def envS (ops:Array Oper) (tr:List Tr) (S:Nat→Bool) (env:List AV):Nat→List AV
 | 0=>env
 | m+1=>if S m=true then putA (envS ops tr S env m) ((ops[m]?).bind (·.dst)) (tr.getD m default).x else envS ops tr S env m
def heapAt (tr:List Tr) (S:Nat→Bool) (H:List AObj):Nat→Nat→Option AObj
 | 0,id=>H[id]?
 | m+1,id=>if S m=true∧(tr.getD m default).k = .eff∧(tr.getD m default).touch id=true then (tr.getD m default).H[id]? else heapAt tr S H m id
def lenAt (tr:List Tr) (S:Nat→Bool) (H:List AObj):Nat→Nat
 | 0=>H.length
 | m+1=>if S m=true∧(tr.getD m default).k = .eff∧(tr.getD m default).lens=true then (tr.getD m default).H.length else lenAt tr S H m
structure HeapIs (tr:List Tr) (S:Nat→Bool) (H:List AObj) (m:Nat) (K:List AObj):Prop where
 at_:∀ id,K[id]? = heapAt tr S H m id
 len:K.length=lenAt tr S H m
theorem HeapIs.uniq {tr:List Tr} {S:Nat→Bool} {H:List AObj} {m:Nat} {K L:List AObj} (h:HeapIs tr S H m K) (h':HeapIs tr S H m L):K=L :=
 List.ext_getElem? fun id=>(h.at_ id).trans (h'.at_ id).symm
def all_:Nat→Bool:=fun _=>true
theorem envS_length (ops:Array Oper) (tr:List Tr) (S:Nat→Bool) (env:List AV):∀ m,(envS ops tr S env m).length=env.length
 | 0=>rfl
 | m+1=>by
  simp only [envS]
  split
  · rw [putA_length,envS_length ops tr S env m]
  · exact envS_length ops tr S env m
theorem putA_getD {env:List AV} {d:Option Tmp} {x:AV} {t:Nat} (h:d≠some t):(putA env d x).getD t .dead=env.getD t .dead:=by
 cases d with
 | none=>rfl
 | some d=>exact getD_set_ne' fun e=>h (by rw [e])
theorem envS_eq {ops:Array Oper} {tr:List Tr} {S T:Nat→Bool} {env:List AV} {t:Nat}:∀ {m:Nat},(∀ j,j<m→(ops[j]?).bind (·.dst)=some t→S j=T j)→(envS ops tr S env m).getD t .dead=(envS ops tr T env m).getD t .dead
 | 0,_=>rfl
 | m+1,h=>by
  have ih:=envS_eq (m:=m) (S:=S) (T:=T) (tr:=tr) (env:=env) (ops:=ops) (t:=t) fun j hj=>h j (by omega)
  simp only [envS]
  by_cases hd:(ops[m]?).bind (·.dst)=some t
  · have:=h m (by omega) hd
    rw [this]
    split
    · rw [hd]
      simp only [putA]
      by_cases hl:t<env.length
      · rw [getD_set_self' (by rw [envS_length]; exact hl),getD_set_self' (by rw [envS_length]; exact hl)]
      · have out:∀ {l:List AV} {x:AV},l.length=env.length→(l.set t x).getD t .dead = .dead:=fun hl'=>by
         rw [List.getD_eq_getElem?_getD,List.getElem?_eq_none (by rw [List.length_set]; omega)]; rfl
        rw [out (envS_length _ _ _ _ _),out (envS_length _ _ _ _ _)]
    · exact ih
  · have e1:∀ U:Nat→Bool,(if U m=true then putA (envS ops tr U env m) ((ops[m]?).bind (·.dst)) (tr.getD m default).x else envS ops tr U env m).getD t .dead=(envS ops tr U env m).getD t .dead:=fun U=>by
     split
     · exact putA_getD hd
     · rfl
    rw [e1,e1]
    exact ih
theorem envS_past {ops:Array Oper} {tr:List Tr} {S:Nat→Bool} {env:List AV} {t i:Nat}:∀ {m:Nat},i≤m→(∀ j,i≤j→j<m→(ops[j]?).bind (·.dst)=some t→S j=false)→(envS ops tr S env m).getD t .dead=(envS ops tr S env i).getD t .dead
 | 0,hle,_=>by rw [Nat.le_zero.1 hle]
 | m+1,hle,h=>by
  rcases Nat.lt_or_ge m i with hlt | hge
  · rw [show i=m+1 by omega]
  · simp only [envS]
    have ih:=envS_past (m:=m) (S:=S) (tr:=tr) (env:=env) (ops:=ops) (t:=t) hge fun j h1 h2=>h j h1 (by omega)
    split
    · rename_i hS
      rw [putA_getD fun hd=>by rw [h m hge (by omega) hd] at hS; cases hS]
      exact ih
    · exact ih
theorem heapAt_eq {tr:List Tr} {S T:Nat→Bool} {H:List AObj} {id:Nat}:∀ {m:Nat},(∀ j,j<m→(tr.getD j default).k = .eff→(tr.getD j default).touch id=true→S j=T j)→heapAt tr S H m id=heapAt tr T H m id
 | 0,_=>rfl
 | m+1,h=>by
  have ih:=heapAt_eq (m:=m) (S:=S) (T:=T) (H:=H) (tr:=tr) (id:=id) fun j hj=>h j (by omega)
  simp only [heapAt]
  by_cases hk:(tr.getD m default).k = .eff∧(tr.getD m default).touch id=true
  · rw [h m (by omega) hk.1 hk.2,ih]
  · rw [if_neg fun hc=>hk hc.2,if_neg fun hc=>hk hc.2,ih]
theorem heapAt_past {tr:List Tr} {S:Nat→Bool} {H:List AObj} {i id:Nat}:∀ {m:Nat},i≤m→(∀ j,i≤j→j<m→(tr.getD j default).k = .eff→(tr.getD j default).touch id=true→S j=false)→heapAt tr S H m id=heapAt tr S H i id
 | 0,hle,_=>by rw [Nat.le_zero.1 hle]
 | m+1,hle,h=>by
  rcases Nat.lt_or_ge m i with hlt | hge
  · rw [show i=m+1 by omega]
  · simp only [heapAt]
    rw [if_neg fun hc=>by rw [h m hge (by omega) hc.2.1 hc.2.2] at hc; exact absurd hc.1 (by simp)]
    exact heapAt_past hge fun j h1 h2=>h j h1 (by omega)
theorem lenAt_eq {tr:List Tr} {S T:Nat→Bool} {H:List AObj}:∀ {m:Nat},(∀ j,j<m→(tr.getD j default).k = .eff→(tr.getD j default).lens=true→S j=T j)→lenAt tr S H m=lenAt tr T H m
 | 0,_=>rfl
 | m+1,h=>by
  have ih:=lenAt_eq (m:=m) (S:=S) (T:=T) (H:=H) (tr:=tr) fun j hj=>h j (by omega)
  simp only [lenAt]
  by_cases hk:(tr.getD m default).k = .eff∧(tr.getD m default).lens=true
  · rw [h m (by omega) hk.1 hk.2,ih]
  · rw [if_neg fun hc=>hk hc.2,if_neg fun hc=>hk hc.2,ih]
theorem lenAt_past {tr:List Tr} {S:Nat→Bool} {H:List AObj} {i:Nat}:∀ {m:Nat},i≤m→(∀ j,i≤j→j<m→(tr.getD j default).k = .eff→(tr.getD j default).lens=true→S j=false)→lenAt tr S H m=lenAt tr S H i
 | 0,hle,_=>by rw [Nat.le_zero.1 hle]
 | m+1,hle,h=>by
  rcases Nat.lt_or_ge m i with hlt | hge
  · rw [show i=m+1 by omega]
  · simp only [lenAt]
    rw [if_neg fun hc=>by rw [h m hge (by omega) hc.2.1 hc.2.2] at hc; exact absurd hc.1 (by simp)]
    exact lenAt_past hge fun j h1 h2=>h j h1 (by omega)
def TrOk (P:Program) (G:Nat→Option (List AV)) (ops:Array Oper) (tr:List Tr) (env:List AV) (H:List AObj) (i:Nat):Prop :=
 ∃ o orc orc' ps Hi,ops[i]? = some o∧HeapIs tr all_ H i Hi∧tr.getD i default=mkTr (evA G (envS ops tr all_ env i)) o orc (tr.getD i default).k (tr.getD i default).x Hi (tr.getD i default).H ∧
  stepA P G ops (guards ops i) (envS ops tr all_ env i) Hi o orc=some ((tr.getD i default).k,.ret (tr.getD i default).x,(tr.getD i default).H,orc',ps)∧AllP ps
def PanOk (P:Program) (G:Nat→Option (List AV)) (ops:Array Oper) (tr:List Tr) (env:List AV) (H:List AObj) (i:Nat) (x:AV) (H1:List AObj):Prop :=
 ∃ o orc orc' ps Hi k,ops[i]? = some o∧HeapIs tr all_ H i Hi∧stepA P G ops (guards ops i) (envS ops tr all_ env i) Hi o orc=some (k,.pan x,H1,orc',ps)∧AllP ps∧(k≠.eff→H1=Hi)
theorem enterA_heap {P:Program} {G:Nat→Option (List AV)} {H:List AObj} {f:FuncId} {xs:List AV} {orc orc':List Orc} {k:Kind} {out:AOut} {H':List AObj} {ps:List Prop} (h:enterA P G H f xs orc=some (k,out,H',orc',ps)) (hk:k≠.eff):H'=H:=by
 unfold enterA at h
 split at h
 · split at h
   · cases h; rfl
   · cases h
 · split at h
   · split at h
     · cases h; exact absurd rfl hk
     · cases h
   · cases h
 · split at h
   · split at h
     · cases h; rfl
     · cases h
   · cases h
 · cases h
theorem evalOp_heap {P:Program} {G:Nat→Option (List AV)} {H:List AObj} {ev:Operand→AV} {o:Oper} {orc orc':List Orc} {k:Kind} {out:AOut} {H':List AObj} {ps:List Prop} (h:evalOp P G H ev o orc=some (k,out,H',orc',ps)) (hk:k≠.eff):H'=H:=by
 unfold evalOp at h
 split at h
 · obtain ⟨q,_,hq⟩:=Option.map_eq_some_iff.1 h
   simp only [Prod.mk.injEq] at hq
   exact absurd hq.1.symm hk
 · obtain ⟨q,_,hq⟩:=Option.map_eq_some_iff.1 h
   simp only [Prod.mk.injEq] at hq
   exact absurd hq.1.symm hk
 · split at h
   · cases h; rfl
   · cases h; rfl
   · cases h
 · split at h
   · cases h
   · split at h
     · cases h; rfl
     · split at h
       · cases h; rfl
       · split at h
         · cases h; rfl
         · split at h
           · cases h; exact absurd rfl hk
           · unfold evalCall at h
             split at h
             · split at h
               · cases h; exact absurd rfl hk
               · split at h
                 · split at h
                   · exact enterA_heap h hk
                   · cases h
                 · cases h
             · cases h
theorem reval_heap {P:Program} {G:Nat→Option (List AV)} {d:Option Tmp} {H:List AObj} {ev:Operand→AV} {o:Oper} {orc orc':List Orc} {k:Kind} {out:AOut} {H':List AObj} {ps:List Prop} (h:reval d (evalOp P G H ev o orc)=some (k,out,H',orc',ps)) (hk:k≠.eff):H'=H:=by
 unfold reval at h
 split at h
 · rename_i he
   split at h
   · split at h
     · cases h
       exact absurd rfl hk
     · cases h
   · rw [← he] at h
     exact evalOp_heap h hk
 · rename_i he
   split at h
   · cases h
     exact evalOp_heap he hk
   · rw [← he] at h
     exact evalOp_heap h hk
 · rename_i he
   split at h
   · cases h
     exact absurd rfl hk
   · rw [← he] at h
     exact evalOp_heap h hk
 · exact evalOp_heap h hk
theorem stepA_heap {P:Program} {G:Nat→Option (List AV)} {ops:Array Oper} {gs:Bool} {env:List AV} {H:List AObj} {o:Oper} {orc orc':List Orc} {k:Kind} {out:AOut} {H':List AObj} {ps:List Prop} (h:stepA P G ops gs env H o orc=some (k,out,H',orc',ps)) (hk:k≠.eff):H'=H:=by
 unfold stepA at h
 split at h
 · split at h
   · rename_i hev
     split at h
     · split at h
       · cases h; exact reval_heap hev hk
       · cases h
     · cases h; exact reval_heap hev hk
   · cases h
 · cases h; rfl
 · cases h
def bits (acc:List Nat) (o:Oper):Nat:=o.after.toList.foldl (fun s e=>if Region.binds .any e=true then s ||| (2 ^ e.on ||| acc.getD e.on 0) else s) 0
def bitsL:List Oper→List Nat→List Nat
 | [],acc=>acc
 | o::os,acc=>bitsL os (acc++[bits acc o])
def Shut (ops:Array Oper) (S:Nat→Bool):Prop:=∀ j o,ops[j]? = some o→S j=true→∀ e∈o.after,Region.binds .any e=true→S e.on=true
theorem bits_sound {acc:List Nat} {o:Oper} {S:Nat→Bool} (hacc:∀ j i,S j=true→(acc.getD j 0).testBit i=true→S i=true) (ho:∀ e∈o.after,Region.binds .any e=true→S e.on=true) {i:Nat} (h:(bits acc o).testBit i=true):S i=true:=by
 have key:∀ (l:List Edge) (s:Nat),(∀ e∈l,e∈o.after)→(s.testBit i=true→S i=true)→(l.foldl (fun s e=>if Region.binds .any e=true then s ||| (2 ^ e.on ||| acc.getD e.on 0) else s) s).testBit i=true→S i=true:=by
  intro l
  induction l with
  | nil=>exact fun s _ hs h=>hs h
  | cons e l ih =>
   intro s hl hs h
   refine ih _ (fun e he=>hl e (by simp [he])) (fun h=>?_) h
   simp only [] at h
   split at h
   · rename_i hb
     have he:=ho e (hl e (by simp)) hb
     rw [Nat.testBit_or,Nat.testBit_or,Nat.testBit_two_pow] at h
     simp only [Bool.or_eq_true,decide_eq_true_eq] at h
     rcases h with h | h | h
     · exact hs h
     · exact h ▸ he
     · exact hacc _ _ he h
   · exact hs h
 exact key o.after.toList 0 (fun e he=>by simpa using he) (fun h=>by simp at h) h
theorem bitsL_sound {ops:Array Oper} {S:Nat→Bool} (hS:Shut ops S):∀ (os:List Oper) (acc:List Nat),ops.toList.drop acc.length=os→(∀ j i,S j=true→(acc.getD j 0).testBit i=true→S i=true) →
 ∀ j i,S j=true→((bitsL os acc).getD j 0).testBit i=true→S i=true
 | [],acc,_,h=>h
 | o::os,acc,hos,h=>by
  have hlt:acc.length<ops.toList.length:=by
   rcases Nat.lt_or_ge acc.length ops.toList.length with h | h
   · exact h
   · rw [List.drop_eq_nil_of_le h] at hos; cases hos
  rw [List.drop_eq_getElem_cons hlt] at hos
  injection hos with ho hos'
  refine bitsL_sound hS os _ (by simpa using hos') fun j i hj hb=>?_
  rcases Nat.lt_trichotomy j acc.length with hlt' | rfl | hgt
  · rw [List.getD_eq_getElem?_getD,List.getElem?_append_left hlt',← List.getD_eq_getElem?_getD] at hb
    exact h j i hj hb
  · rw [List.getD_eq_getElem?_getD,List.getElem?_append_right (Nat.le_refl _)] at hb
    simp only [Nat.sub_self,List.getElem?_cons_zero,Option.getD_some] at hb
    exact bits_sound h (hS _ o (by rw [← ho]; simp) hj) hb
  · rw [List.getD_eq_getElem?_getD,List.getElem?_eq_none (by simp; omega)] at hb
    simp at hb
theorem bitsL_acc:∀ (os:List Oper) (acc:List Nat) (j:Nat),j<acc.length→(bitsL os acc).getD j 0=acc.getD j 0
 | [],_,_,_=>rfl
 | o::os,acc,j,hj=>by
  rw [bitsL,bitsL_acc os _ j (by simp; omega),List.getD_eq_getElem?_getD,List.getElem?_append_left hj,← List.getD_eq_getElem?_getD]
theorem bitsL_at {ops:Array Oper}:∀ (os:List Oper) (acc:List Nat),ops.toList.drop acc.length=os→∀ j o,acc.length≤j→ops[j]? = some o→∃ acc',(bitsL os acc).getD j 0=bits acc' o∧∀ i,i<acc'.length→acc'.getD i 0=(bitsL os acc).getD i 0
 | [],acc,hos,j,o,hj,ho=>by
  have h1:ops.size≤acc.length:=by simpa using hos
  have h2:=(Array.getElem?_eq_some_iff.1 ho).1
  omega
 | o1::os,acc,hos,j,o,hj,ho=>by
  have hlt:acc.length<ops.toList.length:=by
   rcases Nat.lt_or_ge acc.length ops.toList.length with h | h
   · exact h
   · rw [List.drop_eq_nil_of_le h] at hos; cases hos
  rw [List.drop_eq_getElem_cons hlt] at hos
  injection hos with ho1 hos'
  rcases Nat.lt_or_ge acc.length j with hlt' | hge
  · exact bitsL_at os (acc++[bits acc o1]) (by simpa using hos') j o (by simp; omega) ho
  · have hje:j=acc.length:=by omega
    subst hje
    have:o1=o:=by
     rw [← ho1]
     have:ops[acc.length]? = some (ops.toList[acc.length]):=by simp
     rw [this] at ho
     exact Option.some.inj ho
    subst this
    refine ⟨acc,?_,fun i hi=>?_⟩
    · rw [bitsL,bitsL_acc os _ _ (by simp),List.getD_eq_getElem?_getD,List.getElem?_append_right (Nat.le_refl _)]
      simp
    · rw [bitsL,bitsL_acc os _ i (by simp; omega),List.getD_eq_getElem?_getD (l:=acc++_),List.getElem?_append_left hi,← List.getD_eq_getElem?_getD]
theorem before_ready {ops:Array Oper} {S:Nat→Bool} (hS:Shut ops S) {j:Nat} {o:Oper} (ho:ops[j]? = some o) (hall:∀ e∈o.after,Region.binds .any e=true→S e.on=true) {i:Nat} (h:((bitsL ops.toList []).getD j 0).testBit i=true):S i=true:=by
 obtain ⟨acc',h1,h2⟩:=bitsL_at (ops:=ops) ops.toList [] rfl j o (Nat.zero_le _) ho
 rw [h1] at h
 refine bits_sound (acc:=acc') (fun k m hk hm=>?_) hall h
 rcases Nat.lt_or_ge k acc'.length with hlt | hge
 · rw [h2 k hlt] at hm
   exact bitsL_sound hS ops.toList [] rfl (fun _ _ _ h=>by simp at h) k m hk hm
 · rw [List.getD_eq_getElem?_getD,List.getElem?_eq_none hge] at hm
   simp at hm
theorem before_in {ops:Array Oper} {S:Nat→Bool} (hS:Shut ops S) {i j:Nat} (hj:S j=true) (h:((bitsL ops.toList []).getD j 0).testBit i=true):S i=true :=
 bitsL_sound hS ops.toList [] rfl (fun _ _ _ h=>by simp at h) j i hj h
def isBehind (bs:List Nat) (p:Option Nat) (i:Nat):Bool:=match p with
 | some q=>(bs.getD i 0).testBit q
 | none=>false
def runTr (P:Program) (G:Nat→Option (List AV)) (ops:Array Oper) (bs:List Nat) (p:Option Nat):Nat→List Oper→List AV→List AObj→List Orc→Option (List Tr × List AV × List AObj × Option (AV × List AObj) × List Orc × List Prop)
 | _,[],env,H,orc=>some ([],env,H,none,orc,[])
 | i,o::os,env,H,orc =>
  if isBehind bs p i=true then
   (match runTr P G ops bs p (i+1) os (putA env o.dst .dead) H orc with
   | some (tr,env',H',pn,orc'',qs)=>some (⟨some [],false,.free,.dead,H⟩::tr,env',H',pn,orc'',qs)
   | none=>none)
  else if p=some i then
   (match stepA P G ops (guards ops i) env H o orc with
   | some (_,.pan x,H1,orc',ps)=>match runTr P G ops bs p (i+1) os (putA env o.dst .dead) H orc' with
    | some (tr,env',H',_,orc'',qs)=>some (⟨some [],false,.free,.dead,H⟩::tr,env',H',some (x,H1),orc'',ps++qs)
    | none=>none
   | _=>none)
  else match stepA P G ops (guards ops i) env H o orc with
   | some (k,.ret x,H',orc',ps)=>match runTr P G ops bs p (i+1) os (putA env o.dst x) H' orc' with
    | some (tr,env',H'',pn,orc'',qs)=>some (mkTr (evA G env) o orc k x H H'::tr,env',H'',pn,orc'',ps++qs)
    | none=>none
   | _=>none
theorem mkTr_k (ev:Operand→AV) (o:Oper) (orc:List Orc) (k:Kind) (x:AV) (H H':List AObj):(mkTr ev o orc k x H H').k=k∧(mkTr ev o orc k x H H').x=x∧(mkTr ev o orc k x H H').H=H':=by
 unfold mkTr; split<;>exact ⟨rfl,rfl,rfl⟩
theorem mkTr_touch {P:Program} {G:Nat→Option (List AV)} {ops:Array Oper} {gs:Bool} {env:List AV} {H:List AObj} {o:Oper} {orc orc':List Orc} {k:Kind} {x:AV} {H':List AObj} {ps:List Prop} (h:stepA P G ops gs env H o orc=some (k,.ret x,H',orc',ps)) :
 (∀ id,(mkTr (evA G env) o orc k x H H').touch id=false→H'[id]? = H[id]?)∧((mkTr (evA G env) o orc k x H H').lens=false→H'.length=H.length):=by
 unfold mkTr
 cases hf:foot (evA G env) o orc with
 | none=>exact ⟨fun id h=>by simp [Tr.touch] at h,fun h=>by simp [Tr.lens] at h⟩
 | some q =>
  obtain ⟨ids,len⟩:=q
  obtain ⟨K',h1,h2⟩:=stepA_loc (K:=H) h hf ⟨fun _ _=>rfl,fun _=>rfl⟩
  refine ⟨fun id hid=>(h2.out id ?_).2,fun hl=>(h2.l1 ?_).1⟩
  · intro hm
    simp only [Tr.touch] at hid
    rw [List.contains_iff_mem.2 hm] at hid
    cases hid
  · simp only [Tr.lens,Bool.or_eq_false_iff] at hl
    exact hl.1
theorem HeapIs.next {P:Program} {G:Nat→Option (List AV)} {ops:Array Oper} {gs:Bool} {env:List AV} {H H0:List AObj} {o:Oper} {orc orc':List Orc} {k:Kind} {x:AV} {H':List AObj} {ps:List Prop} {tr:List Tr} {i:Nat} (hI:HeapIs tr all_ H0 i H)
 (h:stepA P G ops gs env H o orc=some (k,.ret x,H',orc',ps)) (ht:tr.getD i default=mkTr (evA G env) o orc k x H H'):HeapIs tr all_ H0 (i+1) H':=by
 obtain ⟨t1,t2⟩:=mkTr_touch h
 obtain ⟨m1,m2,m3⟩:=mkTr_k (evA G env) o orc k x H H'
 constructor
 · intro id
   simp only [heapAt]
   rw [ht,m1,m3]
   by_cases hk:k = .eff
   · cases hto:(mkTr (evA G env) o orc k x H H').touch id with
     | true=>rw [if_pos ⟨rfl,hk,rfl⟩]
     | false=>rw [if_neg (by simp),t1 id hto]; exact hI.at_ id
   · rw [if_neg fun h=>hk h.2.1,stepA_heap h hk]; exact hI.at_ id
 · simp only [lenAt]
   rw [ht,m1,m3]
   by_cases hk:k = .eff
   · cases hto:(mkTr (evA G env) o orc k x H H').lens with
     | true=>rw [if_pos ⟨rfl,hk,rfl⟩]
     | false=>rw [if_neg (by simp),t2 hto]; exact hI.len
   · rw [if_neg fun h=>hk h.2.1,stepA_heap h hk]; exact hI.len
theorem HeapIs.skip {tr:List Tr} {H0 H:List AObj} {i:Nat} (hI:HeapIs tr all_ H0 i H) (hk:(tr.getD i default).k = .free):HeapIs tr all_ H0 (i+1) H:=by
 constructor
 · intro id
   simp only [heapAt]
   rw [if_neg fun h=>by rw [hk] at h; exact absurd h.2.1 (by simp)]
   exact hI.at_ id
 · simp only [lenAt]
   rw [if_neg fun h=>by rw [hk] at h; exact absurd h.2.1 (by simp)]
   exact hI.len
theorem runTr_sound {P:Program} {G:Nat→Option (List AV)} {ops:Array Oper} {bs:List Nat} {p:Option Nat}:∀ {os:List Oper} {i:Nat} {env env':List AV} {H H':List AObj} {pn:Option (AV × List AObj)} {orc orc':List Orc} {tr:List Tr} {ps:List Prop},runTr P G ops bs p i os env H orc=some (tr,env',H',pn,orc',ps)→AllP ps→ops.toList.drop i=os→i≤ops.size →
 tr.length=os.length∧∀ (tr0:List Tr) (env0:List AV) (H0:List AObj),tr0.length=i→envS ops (tr0++tr) all_ env0 i=env→HeapIs (tr0++tr) all_ H0 i H →
  (∀ j,i≤j→j<ops.size→isBehind bs p j=false→p≠some j→TrOk P G ops (tr0++tr) env0 H0 j)∧(∀ j,i≤j→j<ops.size→isBehind bs p j=true∨p=some j→((tr0++tr).getD j default).k = .free) ∧
  (∀ q,p=some q→i≤q→q<ops.size→isBehind bs p q=false→∃ x H1,pn=some (x,H1)∧PanOk P G ops (tr0++tr) env0 H0 q x H1) ∧
  envS ops (tr0++tr) all_ env0 ops.size=env'∧HeapIs (tr0++tr) all_ H0 ops.size H'
 | [],i,env,env',H,H',pn,orc,orc',tr,ps,h,_,hos,hle'=>by
  simp only [runTr,Option.some.injEq,Prod.mk.injEq] at h
  obtain ⟨rfl,rfl,rfl,_,_,_⟩:=h
  have hle:ops.size≤i:=by simpa using hos
  have hi:i=ops.size:=by omega
  subst hi
  exact ⟨rfl,fun tr0 env0 H0 hl0 he hH=>⟨fun j h1 h2=>by omega,fun j h1 h2=>by omega,fun q _ h1 h2=>by omega,he,hH⟩⟩
 | o::os,i,env,env',H,H',pn,orc,orc',tr,ps,h,hps,hos,hle'=>by
  have hlt:i<ops.size:=by
   rcases Nat.lt_or_ge i ops.size with h | h
   · exact h
   · rw [List.drop_eq_nil_of_le (by simpa using h)] at hos; cases hos
  have hlt':i<ops.toList.length:=by simpa using hlt
  rw [List.drop_eq_getElem_cons hlt'] at hos
  injection hos with ho hos'
  have ho':ops[i]? = some o:=by rw [← ho]; simp [hlt]
  have hget:∀ (tr0:List Tr) (t:Tr) (tr1:List Tr),tr0.length=i→(tr0++t::tr1).getD i default=t:=fun tr0 t tr1 hl0=>by
   rw [List.getD_eq_getElem?_getD,List.getElem?_append_right (by omega)]
   simp [hl0]
  have henv:∀ (tr0:List Tr) (t:Tr) (tr1:List Tr) (env0:List AV),tr0.length=i→envS ops (tr0++t::tr1) all_ env0 i=env→envS ops (tr0++t::tr1) all_ env0 (i+1)=putA env o.dst t.x:=fun tr0 t tr1 env0 hl0 he=>by
   simp only [envS,all_,if_true]
   rw [hget tr0 t tr1 hl0,ho']
   show putA (envS ops _ all_ env0 i) o.dst t.x=_
   rw [he]
  unfold runTr at h
  split at h
  ·
   rename_i hb
   split at h<;>first | (cases h; done) | skip
   rename_i tr1 env1 H1 pn1 orc1 qs hrec
   cases h
   obtain ⟨l1,l2⟩:=runTr_sound hrec hps hos' (by omega)
   refine ⟨by simp [l1],fun tr0 env0 H0 hl0 he hH=>?_⟩
   have hg:=hget tr0 ⟨some [],false,.free,.dead,H⟩ tr1 hl0
   have:=l2 (tr0++[⟨some [],false,.free,.dead,H⟩]) env0 H0 (by simp [hl0]) (by rw [List.append_assoc,List.singleton_append]; exact henv _ _ _ _ hl0 he) (by rw [List.append_assoc,List.singleton_append]; exact hH.skip (by rw [hg]))
   rw [List.append_assoc,List.singleton_append] at this
   obtain ⟨a1,a2,a3,a4,a5⟩:=this
   refine ⟨fun j h1 h2 h3 h4=>?_,fun j h1 h2 h3=>?_,fun q h1 h2 h3 h4=>?_,a4,a5⟩
   · rcases Nat.lt_or_eq_of_le h1 with h1 | rfl
     · exact a1 j h1 h2 h3 h4
     · rw [hb] at h3; cases h3
   · rcases Nat.lt_or_eq_of_le h1 with h1 | rfl
     · exact a2 j h1 h2 h3
     · rw [hg]
   · rcases Nat.lt_or_eq_of_le h2 with h2 | rfl
     · exact a3 q h1 h2 h3 h4
     · rw [hb] at h4; cases h4
  · rename_i hb
    split at h
    ·
     rename_i hp
     split at h<;>first | (cases h; done) | skip
     rename_i k x H1 orc1 qs hst
     split at h<;>first | (cases h; done) | skip
     rename_i tr1 env1 H2 pn1 orc2 rs hrec
     cases h
     obtain ⟨hq,hrs⟩:=allP_append.1 hps
     obtain ⟨l1,l2⟩:=runTr_sound hrec hrs hos' (by omega)
     refine ⟨by simp [l1],fun tr0 env0 H0 hl0 he hH=>?_⟩
     have hg:=hget tr0 ⟨some [],false,.free,.dead,H⟩ tr1 hl0
     have:=l2 (tr0++[⟨some [],false,.free,.dead,H⟩]) env0 H0 (by simp [hl0]) (by rw [List.append_assoc,List.singleton_append]; exact henv _ _ _ _ hl0 he) (by rw [List.append_assoc,List.singleton_append]; exact hH.skip (by rw [hg]))
     rw [List.append_assoc,List.singleton_append] at this
     obtain ⟨a1,a2,a3,a4,a5⟩:=this
     refine ⟨fun j h1 h2 h3 h4=>?_,fun j h1 h2 h3=>?_,fun q h1 h2 h3 h4=>?_,a4,a5⟩
     · rcases Nat.lt_or_eq_of_le h1 with h1 | rfl
       · exact a1 j h1 h2 h3 h4
       · exact absurd hp h4
     · rcases Nat.lt_or_eq_of_le h1 with h1 | rfl
       · exact a2 j h1 h2 h3
       · rw [hg]
     · have:q=i:=by rw [hp] at h1; exact (Option.some.inj h1).symm
       subst this
       exact ⟨x,H1,rfl,o,orc,orc1,qs,H,k,ho',hH,by rw [he]; exact hst,hq,fun hk=>stepA_heap hst hk⟩
    · rename_i hp
      split at h<;>first | (cases h; done) | skip
      rename_i k x H1 orc1 qs hst
      split at h<;>first | (cases h; done) | skip
      rename_i tr1 env1 H2 pn1 orc2 rs hrec
      cases h
      obtain ⟨hq,hrs⟩:=allP_append.1 hps
      obtain ⟨l1,l2⟩:=runTr_sound hrec hrs hos' (by omega)
      refine ⟨by simp [l1],fun tr0 env0 H0 hl0 he hH=>?_⟩
      have hg:=hget tr0 (mkTr (evA G env) o orc k x H H1) tr1 hl0
      obtain ⟨m1,m2,m3⟩:=mkTr_k (evA G env) o orc k x H H1
      have:=l2 (tr0++[mkTr (evA G env) o orc k x H H1]) env0 H0 (by simp [hl0]) (by rw [List.append_assoc,List.singleton_append]; have:=henv tr0 (mkTr (evA G env) o orc k x H H1) tr1 env0 hl0 he; rw [m2] at this; exact this) (by rw [List.append_assoc,List.singleton_append]; exact hH.next hst hg)
      rw [List.append_assoc,List.singleton_append] at this
      obtain ⟨a1,a2,a3,a4,a5⟩:=this
      refine ⟨fun j h1 h2 h3 h4=>?_,fun j h1 h2 h3=>?_,fun q h1 h2 h3 h4=>?_,a4,a5⟩
      · rcases Nat.lt_or_eq_of_le h1 with h1 | rfl
        · exact a1 j h1 h2 h3 h4
        · exact ⟨o,orc,orc1,qs,H,ho',hH,by rw [hg,he,m1,m2,m3],by rw [hg,he,m1,m2,m3]; exact hst,hq⟩
      · rcases Nat.lt_or_eq_of_le h1 with h1 | rfl
        · exact a2 j h1 h2 h3
        · rcases h3 with h3 | h3
          · exact absurd h3 hb
          · exact absurd h3 hp
      · rcases Nat.lt_or_eq_of_le h2 with h2 | rfl
        · exact a3 q h1 h2 h3 h4
        · exact absurd h1 hp
def over (ti tj:Tr):Bool:=match ti.ids,tj.ids with
 | some a,some b=>a.any (fun id=>b.contains id) || (ti.len && tj.len)
 | _,_=>true
theorem over_touch {ti tj:Tr} {id:Nat} (h:ti.touch id=true) (h':tj.touch id=true):over ti tj=true:=by
 unfold over
 unfold Tr.touch at h h'
 split
 · rename_i a b ha hb
   rw [ha] at h
   rw [hb] at h'
   simp only [Bool.or_eq_true]
   exact .inl (List.any_eq_true.2 ⟨id,List.contains_iff_mem.1 h,h'⟩)
 · rfl
theorem over_len {ti tj:Tr} (h:ti.lens=true) (h':tj.lens=true):over ti tj=true:=by
 unfold over
 unfold Tr.lens at h h'
 split
 · rename_i a b ha hb
   rw [ha] at h
   rw [hb] at h'
   simp only [Option.isNone_some,Bool.or_false] at h h'
   rw [h,h']
   simp
 · rfl
def clash (ops:Array Oper) (ti tj:Tr) (oi oj:Oper):Bool :=
 (match oi.dst with | some d=>(oj.looksAt ops).contains d || oj.dst == some d | none=>false) ||
 (match oj.dst with | some d=>(oi.looksAt ops).contains d | none=>false) ||
 ((ti.k == .eff && !(tj.k == .free)) && over ti tj) || ((tj.k == .eff && !(ti.k == .free)) && over ti tj)
def checkAt (ops:Array Oper) (b:Nat) (tj:Tr) (oj:Oper):Nat→List Oper→List Tr→Bool
 | i,oi::os,ti::tr=>(!(clash ops ti tj oi oj) || b.testBit i) && checkAt ops b tj oj (i+1) os tr
 | _,_,_=>true
def checkAll (ops:Array Oper) (tr:List Tr) (bs:List Nat):Nat→List Oper→Bool
 | _,[]=>true
 | j,o::os=>(o.after.toList.all fun e=>!(Region.binds .any e) || Nat.blt e.on j) && checkAt ops (bs.getD j 0) (tr.getD j default) o 0 (ops.toList.take j) (tr.take j) && checkAll ops tr bs (j+1) os
theorem checkAt_sound {ops:Array Oper} {b:Nat} {tj:Tr} {oj:Oper}:∀ {os:List Oper} {tr:List Tr} {i0:Nat},checkAt ops b tj oj i0 os tr=true→∀ i oi ti,os[i]? = some oi→tr[i]? = some ti→clash ops ti tj oi oj=true→b.testBit (i0+i)=true
 | [],_,_,_,i,_,_,h,_,_=>by simp at h
 | _::_,[],_,_,i,_,_,_,h,_=>by simp at h
 | o::os,t::tr,i0,h,i,oi,ti,ho,ht,hc=>by
  simp only [checkAt,Bool.and_eq_true,Bool.or_eq_true,Bool.not_eq_true'] at h
  cases i with
  | zero =>
   simp only [List.getElem?_cons_zero,Option.some.injEq] at ho ht
   subst ho ht
   rcases h.1 with h1 | h1
   · rw [h1] at hc; cases hc
   · exact h1
  | succ i =>
   have:=checkAt_sound h.2 i oi ti (by simpa using ho) (by simpa using ht) hc
   rwa [show i0+(i+1)=i0+1+i by omega]
theorem checkAll_sound {ops:Array Oper} {tr:List Tr} {bs:List Nat}:∀ {os:List Oper} {j0:Nat},checkAll ops tr bs j0 os=true→ops.toList.drop j0=os→∀ j o,j0≤j→ops[j]? = some o →
 (∀ e∈o.after,Region.binds .any e=true→e.on<j)∧checkAt ops (bs.getD j 0) (tr.getD j default) o 0 (ops.toList.take j) (tr.take j)=true
 | [],j0,_,hos,j,o,hj,ho=>by
  have h1:ops.size≤j0:=by simpa using hos
  have h2:=(Array.getElem?_eq_some_iff.1 ho).1
  omega
 | o1::os,j0,h,hos,j,o,hj,ho=>by
  have hlt:j0<ops.toList.length:=by
   rcases Nat.lt_or_ge j0 ops.toList.length with h | h
   · exact h
   · rw [List.drop_eq_nil_of_le h] at hos; cases hos
  rw [List.drop_eq_getElem_cons hlt] at hos
  injection hos with ho1 hos'
  simp only [checkAll,Bool.and_eq_true] at h
  rcases Nat.lt_or_ge j0 j with hlt' | hge
  · exact checkAll_sound h.2 hos' j o (by omega) ho
  · have hje:j=j0:=by omega
    subst hje
    have:o1=o:=by
     rw [← ho1]
     have:ops[j]? = some (ops.toList[j]):=by simp
     rw [this] at ho
     exact Option.some.inj ho
    subst this
    refine ⟨fun e he hb=>?_,h.1.2⟩
    have:=List.all_eq_true.1 h.1.1 e (by simpa using he)
    simpa [hb] using this
end Go.Am


namespace Go.Am
open Go
theorem Reps.congr {V:View} {xs ys:List AV} {vs:List Value} (h:Reps V xs vs) (hl:ys.length=xs.length) (he:∀ t,t<xs.length→ys.getD t .dead=xs.getD t .dead):Reps V ys vs :=
 ⟨h.1.trans hl.symm,fun j hj=>by rw [he j (by omega)]; exact h.2 j (by omega)⟩
def inS (listed:Array Bool) (i:Nat):Bool:=listed.getD i false
theorem inS_set {listed:Array Bool} {i:Nat} (hi:i<listed.size) (j:Nat):inS (listed.setIfInBounds i true) j=if j=i then true else inS listed j:=by
 unfold inS
 by_cases h:j=i
 · subst h; simp [Array.getD_eq_getD_getElem?,hi]
 · simp [Array.getD_eq_getD_getElem?,h,show i≠j from fun e=>h e.symm]
section
variable {P:Program} {G:Nat→Option (List AV)} {r:Option Nat} {ops:Array Oper} {tr:List Tr} {env:List AV} {H:List AObj}
structure Inv (G:Nat→Option (List AV)) (ops:Array Oper) (tr:List Tr) (env:List AV) (H:List AObj) (p:Option Nat) (a0:Act) (listed:Array Bool) (V:View) (a:Act):Prop where
 size:listed.size=ops.size
 shut:Shut ops (inS listed)
 hG:HeapRep G V
 hH:HeapIs tr (inS listed) H ops.size V.H
 he:EnvOk V (envS ops tr (inS listed) env ops.size) a
 hd:a.defers=a0.defers
 pn:∀ q,p=some q→inS listed q=false
theorem clash_e1 {ti tj:Tr} {oi oj:Oper} (h:ti.k = .eff) (h':tj.k≠.free) (ho:over ti tj=true):clash ops ti tj oi oj=true:=by
 have:(ti.k == .eff && !(tj.k == .free))=true:=by rw [h]; cases hk:tj.k<;>first | rfl | exact absurd hk h'
 unfold clash
 rw [this,ho,Bool.true_and,Bool.or_true,Bool.true_or]
theorem clash_e2 {ti tj:Tr} {oi oj:Oper} (h:tj.k = .eff) (h':ti.k≠.free) (ho:over ti tj=true):clash ops ti tj oi oj=true:=by
 have:(tj.k == .eff && !(ti.k == .free))=true:=by rw [h]; cases hk:ti.k<;>first | rfl | exact absurd hk h'
 unfold clash
 rw [this,ho,Bool.true_and,Bool.or_true]
theorem clash_bit (hc:checkAll ops tr (bitsL ops.toList []) 0 ops.toList=true) (hl:tr.length=ops.size) {i j:Nat} {oi oj:Oper} (hi:ops[i]? = some oi) (hj:ops[j]? = some oj) (hij:i<j)
 (h:clash ops (tr.getD i default) (tr.getD j default) oi oj=true):((bitsL ops.toList []).getD j 0).testBit i=true:=by
 have hjl:=(Array.getElem?_eq_some_iff.1 hj).1
 have h1:=(checkAll_sound hc rfl j oj (Nat.zero_le _) hj).2
 have:=checkAt_sound h1 i oi (tr.getD i default) (by rw [List.getElem?_take,if_pos hij]; simpa using hi) (by
  rw [List.getElem?_take,if_pos hij,List.getD_eq_getElem?_getD]
  have:i<tr.length:=by omega
  simp [this]) h
 simpa using this
theorem any_step {p:Option Nat} (hl:tr.length=ops.size) (hc:checkAll ops tr (bitsL ops.toList []) 0 ops.toList=true) {a0:Act} {listed:Array Bool} {V:View} {a:Act} (hI:Inv G ops tr env H p a0 listed V a)
 {i:Nat} (htr:TrOk P G ops tr env H i) (hip:p≠some i) (hi:i∈Region.ready .any ops listed) {Q:Exit→Act→World→Prop} {next:Act→World→Prop} (hn:∀ V' a',Step V V'→Inv G ops tr env H p a0 (listed.setIfInBounds i true) V' a'→next a' V'.w):wpOpIn (fz r) 0 P ops Q i next a V.w:=by
 obtain ⟨hun,o,ho,hall⟩:=mem_ready.1 hi
 have hil:=(Array.getElem?_eq_some_iff.1 ho).1
 have his:i<listed.size:=by rw [hI.size]; exact hil
 have hnot:inS listed i=false:=by
  unfold inS
  simp only [Array.getD_eq_getD_getElem?,Array.getElem?_eq_getElem his,Option.getD_some] at hun ⊢
  exact hun
 have hall':∀ e∈o.after,Region.binds .any e=true→inS listed e.on=true:=hall
 obtain ⟨o',orc,orc',ps,Hi,ho',hHi,hmk,hst,hps⟩:=htr
 rw [ho] at ho'
 cases ho'
 have getO:∀ {j:Nat} {t:Tmp},(ops[j]?).bind (·.dst)=some t→∃ oj,ops[j]? = some oj∧oj.dst=some t:=fun {j t} h=>by
  cases hj:ops[j]? with
  | none=>simp [hj] at h
  | some oj=>exact ⟨oj,rfl,by simpa [hj] using h⟩
 have before:∀ {j:Nat} {oj:Oper},ops[j]? = some oj→j<i→clash ops (tr.getD j default) (tr.getD i default) oj o=true→inS listed j=true:=fun hj hlt h =>
  before_ready hI.shut ho hall' (clash_bit hc hl hj ho hlt h)
 have after:∀ {j:Nat} {oj:Oper},ops[j]? = some oj→i<j→clash ops (tr.getD i default) (tr.getD j default) o oj=true→inS listed j=false:=fun {j oj} hj hlt h=>by
  cases hs:inS listed j with
  | false=>rfl
  | true=>rw [before_in hI.shut hs (clash_bit hc hl ho hj hlt h)] at hnot; cases hnot
 have hlook:∀ t∈o.looksAt ops,(envS ops tr all_ env i).getD t .dead=(envS ops tr (inS listed) env ops.size).getD t .dead:=fun t ht=>by
  rw [envS_past (S:=inS listed) (Nat.le_of_lt hil) fun j h1 h2 hd=>?_]
  · exact envS_eq fun j hj hd=>by
     obtain ⟨oj,hoj,hdj⟩:=getO hd
     exact (before hoj hj (by simp [clash,hdj,ht])).symm
  · obtain ⟨oj,hoj,hdj⟩:=getO hd
    rcases Nat.lt_or_eq_of_le h1 with h1 | rfl
    · exact after hoj h1 (by simp [clash,hdj,ht])
    · exact hnot
 have hset:=inS_set his
 have opAt:∀ {j:Nat} (h:j<ops.size),ops[j]? = some ops[j]:=fun h=>by simp
 have hsee:∀ id,(tr.getD i default).k≠.free→(tr.getD i default).touch id=true→V.H[id]? = Hi[id]? := fun id hk hto=>by
  rw [hI.hH.at_,hHi.at_,heapAt_past (S:=inS listed) (Nat.le_of_lt hil) fun j h1 h2 he ht=>?_]
  · exact heapAt_eq fun j hj he ht=>before (opAt (by omega)) hj (clash_e1 he hk (over_touch ht hto))
  · rcases Nat.lt_or_eq_of_le h1 with h1 | rfl
    · exact after (opAt h2) h1 (clash_e2 he hk (over_touch hto ht))
    · exact hnot
 have hlen:(tr.getD i default).k≠.free→(tr.getD i default).lens=true→V.H.length=Hi.length:=fun hk hto=>by
  rw [hI.hH.len,hHi.len,lenAt_past (S:=inS listed) (Nat.le_of_lt hil) fun j h1 h2 he ht=>?_]
  · exact lenAt_eq fun j hj he ht=>before (opAt (by omega)) hj (clash_e1 he hk (over_len ht hto))
  · rcases Nat.lt_or_eq_of_le h1 with h1 | rfl
    · exact after (opAt h2) h1 (clash_e2 he hk (over_len hto ht))
    · exact hnot
 have hafter:∀ id,(tr.getD i default).k = .eff→heapAt tr (inS (listed.setIfInBounds i true)) H ops.size id=if (tr.getD i default).touch id=true then (tr.getD i default).H[id]? else V.H[id]? := fun id hke=>by
  cases hto:(tr.getD i default).touch id with
  | true =>
   rw [if_pos rfl,heapAt_past (S:=inS (listed.setIfInBounds i true)) (i:=i+1) (by omega) fun j h1 h2 he ht=>?_]
   · simp only [heapAt]
     rw [if_pos ⟨by rw [hset,if_pos rfl],hke,hto⟩]
   · rw [hset,if_neg (by omega)]
     exact after (opAt h2) (by omega) (clash_e1 hke (by rw [he]; simp) (over_touch hto ht))
  | false =>
   rw [if_neg (by simp),hI.hH.at_]
   exact heapAt_eq fun j _ he ht=>by rw [hset,if_neg fun e=>by rw [e,hto] at ht; cases ht]
 have hafterl:(tr.getD i default).k = .eff→lenAt tr (inS (listed.setIfInBounds i true)) H ops.size=if (tr.getD i default).lens=true then (tr.getD i default).H.length else V.H.length:=fun hke=>by
  cases hto:(tr.getD i default).lens with
  | true =>
   rw [if_pos rfl,lenAt_past (S:=inS (listed.setIfInBounds i true)) (i:=i+1) (by omega) fun j h1 h2 he ht=>?_]
   · simp only [lenAt]
     rw [if_pos ⟨by rw [hset,if_pos rfl],hke,hto⟩]
   · rw [hset,if_neg (by omega)]
     exact after (opAt h2) (by omega) (clash_e1 hke (by rw [he]; simp) (over_len hto ht))
  | false =>
   rw [if_neg (by simp),hI.hH.len]
   exact lenAt_eq fun j _ he ht=>by rw [hset,if_neg fun e=>by rw [e,hto] at ht; cases ht]
 have hnoeff:(tr.getD i default).k≠.eff→HeapIs tr (inS (listed.setIfInBounds i true)) H ops.size V.H:=fun hke =>
  ⟨fun id=>by rw [hI.hH.at_]; exact heapAt_eq fun j _ he _=>by rw [hset,if_neg fun e=>hke (by rw [← e]; exact he)],
   by rw [hI.hH.len]; exact lenAt_eq fun j _ he _=>by rw [hset,if_neg fun e=>hke (by rw [← e]; exact he)]⟩
 have key:∃ K' Hx,stepA P G ops (guards ops i) (envS ops tr all_ env i) Hx o orc=some ((tr.getD i default).k,.ret (tr.getD i default).x,K',orc',ps)∧(V.H=Hx∨(tr.getD i default).k = .free) ∧
  HeapIs tr (inS (listed.setIfInBounds i true)) H ops.size (if (tr.getD i default).k = .free then V.H else K'):=by
  by_cases hk:(tr.getD i default).k = .free
  · exact ⟨_,_,hst,.inr hk,by rw [if_pos hk]; exact hnoeff (by rw [hk]; simp)⟩
  · suffices hs:∃ K' Hx,stepA P G ops (guards ops i) (envS ops tr all_ env i) Hx o orc=some ((tr.getD i default).k,.ret (tr.getD i default).x,K',orc',ps)∧V.H=Hx∧HeapIs tr (inS (listed.setIfInBounds i true)) H ops.size K' by
     obtain ⟨K',Hx,h1,h2,h3⟩:=hs
     exact ⟨K',Hx,h1,.inl h2,by rw [if_neg hk]; exact h3⟩
    cases hf:foot (evA G (envS ops tr all_ env i)) o orc with
    | none =>
     have hids:(tr.getD i default).ids=none:=by rw [hmk]; unfold mkTr; rw [hf]
     have hto:∀ id,(tr.getD i default).touch id=true:=fun id=>by unfold Tr.touch; rw [hids]
     have hle:(tr.getD i default).lens=true:=by unfold Tr.lens; rw [hids]; simp
     have hVH:V.H=Hi:=List.ext_getElem? fun id=>hsee id hk (hto id)
     refine ⟨_,_,hst,hVH,?_⟩
     by_cases hke:(tr.getD i default).k = .eff
     · exact ⟨fun id=>by rw [hafter id hke,if_pos (hto id)],by rw [hafterl hke,if_pos hle]⟩
     · rw [stepA_heap hst hke,← hVH]; exact hnoeff hke
    | some q =>
     obtain ⟨ids,len⟩:=q
     have hids:(tr.getD i default).ids=some (ids++made len Hi (tr.getD i default).H)∧(tr.getD i default).len=len:=by
      constructor
      · conv=>lhs; rw [hmk]
        unfold mkTr; rw [hf]
      · rw [hmk]; unfold mkTr; rw [hf]
     have hto:∀ id,(tr.getD i default).touch id=true↔id∈ids++made len Hi (tr.getD i default).H:=fun id=>by unfold Tr.touch; rw [hids.1]; exact List.contains_iff_mem
     have hle:(tr.getD i default).lens=len:=by unfold Tr.lens; rw [hids.1,hids.2]; simp
     obtain ⟨K',h1,h2⟩:=stepA_loc (K:=V.H) hst hf ⟨fun id hid=>hsee id hk ((hto id).2 (List.mem_append_left _ hid)),fun h=>hlen hk (by rw [hle]; exact h)⟩
     refine ⟨K',V.H,h1,rfl,?_⟩
     by_cases hke:(tr.getD i default).k = .eff
     · refine ⟨fun id=>?_,?_⟩
       · rw [hafter id hke]
         by_cases ht:id∈ids++made len Hi (tr.getD i default).H
         · rw [if_pos ((hto id).2 ht)]; exact h2.inn id ht
         · rw [if_neg fun h=>ht ((hto id).1 h)]; exact (h2.out id ht).1
       · rw [hafterl hke,hle]
         cases len with
         | true=>rw [if_pos rfl]; exact h2.l2 rfl
         | false=>rw [if_neg (by simp)]; exact (h2.l1 rfl).2
     · rw [stepA_heap h1 hke]; exact hnoeff hke
 obtain ⟨K',Hx,hst',hH',hfin⟩:=key
 refine (stepA_sound (r:=r) (a:=a) (V:=V) ho hst' hps hI.hG (fun t ht=>by rw [hlook t ht]; exact hI.he.get t) hH').1 next Q (fun V' v x hx hs hG' hVH hrep=>?_) (fun V' v x hx=>by cases hx)
 cases hx
 refine hn V' _ hs ⟨by simpa using hI.size,fun j oj hoj hj e he hb=>?_,hG',?_,?_,(put_def _ _ _).trans hI.hd,fun q hq=>?_⟩
 · rw [hset] at hj ⊢
   split
   · rfl
   · by_cases hji:j=i
     · subst hji
       rw [ho] at hoj
       cases hoj
       exact hall' e he hb
     · rw [if_neg hji] at hj
       exact hI.shut j oj hoj hj e he hb
 · rw [hVH]; exact hfin
 · refine ((hI.he.step hs).put o.dst hrep).congr (by rw [putA_length,envS_length,envS_length]) fun t ht=>?_
   rw [putA_length,envS_length] at ht
   by_cases hd:o.dst=some t
   · have hR:(putA (envS ops tr (inS listed) env ops.size) o.dst (tr.getD i default).x).getD t .dead=(tr.getD i default).x:=by
      rw [hd]; exact getD_set_self' (by rw [envS_length]; exact ht)
     rw [hR,envS_past (S:=inS (listed.setIfInBounds i true)) (i:=i+1) (by omega) fun j h1 h2 hdj=>?_]
     · simp only [envS]
       rw [if_pos (by rw [hset,if_pos rfl]),ho]
       show (putA _ o.dst _).getD t .dead=_
       rw [hd]
       exact getD_set_self' (by rw [envS_length]; exact ht)
     · rw [hset,if_neg (by omega)]
       obtain ⟨oj,hoj,hdj⟩:=getO hdj
       exact after hoj (by omega) (by simp [clash,hdj,hd])
   · rw [putA_getD hd]
     exact envS_eq fun j _ hdj=>by
      rw [hset,if_neg fun e=>by
       subst e
       rw [ho] at hdj
       exact hd hdj]
 · rw [hset,if_neg fun e=>hip (by rw [← e]; exact hq)]
   exact hI.pn q hq
theorem any_pan {q:Nat} {x:AV} {H1:List AObj} (hl:tr.length=ops.size) (hc:checkAll ops tr (bitsL ops.toList []) 0 ops.toList=true) {a0:Act} {listed:Array Bool} {V:View} {a:Act} (hI:Inv G ops tr env H (some q) a0 listed V a)
 (hpn:PanOk P G ops tr env H q x H1) (hbef:∀ j,j<ops.size→(tr.getD j default).k = .eff→((bitsL ops.toList []).getD q 0).testBit j=true) (hqk:(tr.getD q default).k = .free) (hi:q∈Region.ready .any ops listed) {Q:Exit→Act→World→Prop} {next:Act→World→Prop}
 (hn:∀ V' v,Step V V'→HeapRep G V'→V'.H=H1→Rep V' x v→Q (.panic [{ v:=v,recovered:=false }]) a V'.w):wpOpIn (fz r) 0 P ops Q q next a V.w:=by
 obtain ⟨hun,o,ho,hall⟩:=mem_ready.1 hi
 have hil:=(Array.getElem?_eq_some_iff.1 ho).1
 have hall':∀ e∈o.after,Region.binds .any e=true→inS listed e.on=true:=hall
 have hnot:=hI.pn q rfl
 obtain ⟨o',orc,orc',ps,Hi,k,ho',hHi,hst,hps,hnk⟩:=hpn
 rw [ho] at ho'
 cases ho'
 have getO:∀ {j:Nat} {t:Tmp},(ops[j]?).bind (·.dst)=some t→∃ oj,ops[j]? = some oj∧oj.dst=some t:=fun {j t} h=>by
  cases hj:ops[j]? with
  | none=>simp [hj] at h
  | some oj=>exact ⟨oj,rfl,by simpa [hj] using h⟩
 have before:∀ {j:Nat} {oj:Oper},ops[j]? = some oj→j<q→clash ops (tr.getD j default) (tr.getD q default) oj o=true→inS listed j=true:=fun hj hlt h =>
  before_ready hI.shut ho hall' (clash_bit hc hl hj ho hlt h)
 have after:∀ {j:Nat} {oj:Oper},ops[j]? = some oj→q<j→clash ops (tr.getD q default) (tr.getD j default) o oj=true→inS listed j=false:=fun {j oj} hj hlt h=>by
  cases hs:inS listed j with
  | false=>rfl
  | true=>rw [before_in hI.shut hs (clash_bit hc hl ho hj hlt h)] at hnot; cases hnot
 have hlook:∀ t∈o.looksAt ops,(envS ops tr all_ env q).getD t .dead=(envS ops tr (inS listed) env ops.size).getD t .dead:=fun t ht=>by
  rw [envS_past (S:=inS listed) (Nat.le_of_lt hil) fun j h1 h2 hd=>?_]
  · exact envS_eq fun j hj hd=>by
     obtain ⟨oj,hoj,hdj⟩:=getO hd
     exact (before hoj hj (by simp [clash,hdj,ht])).symm
  · obtain ⟨oj,hoj,hdj⟩:=getO hd
    rcases Nat.lt_or_eq_of_le h1 with h1 | rfl
    · exact after hoj h1 (by simp [clash,hdj,ht])
    · exact hnot
 have inn:∀ j,j<ops.size→(tr.getD j default).k = .eff→inS listed j=true:=fun j hj he=>before_ready hI.shut ho hall' (hbef j hj he)
 have small:∀ j,j<ops.size→(tr.getD j default).k = .eff→j<q:=fun j hj he=>by
  rcases Nat.lt_trichotomy j q with h | rfl | h
  · exact h
  · rw [hqk] at he; cases he
  ·
   exfalso
   have hS:Shut ops (fun i=>decide (i<q)):=fun m om hom hm e he hb=>by
    have h1:=(checkAll_sound hc rfl m om (Nat.zero_le _) hom).1 e he hb
    simp only [decide_eq_true_eq] at hm ⊢
    omega
   have:=before_ready hS ho (fun e he hb=>by
    have h1:=(checkAll_sound hc rfl q o (Nat.zero_le _) ho).1 e he hb
    simpa using h1) (hbef j hj he)
   simp only [decide_eq_true_eq] at this
   omega
 have hVH:V.H=Hi:=by
  refine HeapIs.uniq (tr:=tr) (S:=all_) (H:=H) (m:=q) ⟨fun id=>?_,?_⟩ hHi
  · rw [hI.hH.at_,heapAt_past (S:=inS listed) (Nat.le_of_lt hil) fun j h1 h2 he _=>absurd (small j h2 he) (by omega)]
    exact heapAt_eq fun j hj he _=>inn j (by omega) he
  · rw [hI.hH.len,lenAt_past (S:=inS listed) (Nat.le_of_lt hil) fun j h1 h2 he _=>absurd (small j h2 he) (by omega)]
    exact lenAt_eq fun j hj he _=>inn j (by omega) he
 refine (stepA_sound (r:=r) (a:=a) (V:=V) ho hst hps hI.hG (fun t ht=>by rw [hlook t ht]; exact hI.he.get t) (.inl hVH)).1 next Q (fun V' v x hx=>by cases hx) (fun V' v y hy hs hG' hV1 hrep=>?_)
 cases hy
 refine hn V' v hs hG' ?_ hrep
 rw [hV1]
 split
 · rename_i hk; rw [hVH,hnk (by rw [hk]; simp)]
 · rfl
theorem any_all (hc:checkAll ops tr (bitsL ops.toList []) 0 ops.toList=true) {listed:Array Bool} (hs:listed.size=ops.size) (hr:Region.ready .any ops listed=[]):∀ i,i<ops.size→inS listed i=true:=by
 intro i
 induction i using Nat.strongRecOn with
 | _ i ih =>
  intro hi
  have ho:ops[i]? = some ops[i]:=by simp
  have h1:=(checkAll_sound hc rfl i _ (Nat.zero_le _) ho).1
  cases hS:inS listed i with
  | true=>rfl
  | false =>
   have:i∈Region.ready .any ops listed:=mem_ready.2 ⟨by
    unfold inS at hS
    have his:i<listed.size:=by rw [hs]; exact hi
    simp only [Array.getD_eq_getD_getElem?,Array.getElem?_eq_getElem his,Option.getD_some] at hS ⊢
    exact hS,_,ho,fun e he hb=>ih e.on (h1 e he hb) (by have:=h1 e he hb; omega)⟩
   rw [hr] at this
   cases this
theorem any_sound {p:Option Nat} {x:AV} {H1:List AObj} {Hfin:List AObj} (hl:tr.length=ops.size) (htr:∀ j,j<ops.size→isBehind (bitsL ops.toList []) p j=false→p≠some j→TrOk P G ops tr env H j) (hc:checkAll ops tr (bitsL ops.toList []) 0 ops.toList=true)
 (hfin:HeapIs tr all_ H ops.size Hfin) (hpan:∀ q,p=some q→q<ops.size∧PanOk P G ops tr env H q x H1∧(∀ j,j<ops.size→(tr.getD j default).k = .eff→((bitsL ops.toList []).getD q 0).testBit j=true)∧(tr.getD q default).k = .free)
 {a0:Act} {Q:Exit→Act→World→Prop}:∀ (fuel:Nat) {listed:Array Bool} {V:View} {a:Act},
 Inv G ops tr env H p a0 listed V a→listed.toList.count false≤fuel →
 (p=none→∀ V' a',Step V V'→HeapRep G V'→V'.H=Hfin→EnvOk V' (envS ops tr all_ env ops.size) a'→a'.defers=a0.defers→Q .normal a' V'.w) →
 (∀ V' a' v S,p≠none→Step V V'→HeapRep G V'→V'.H=H1→EnvOk V' (envS ops tr S env ops.size) a'→a'.defers=a0.defers→Rep V' x v→Q (.panic [{ v:=v,recovered:=false }]) a' V'.w)→wpAnyIn (fz r) 0 P .any ops Q fuel listed a V.w:=by
 have fin:∀ {listed:Array Bool} {V:View} {a:Act},Inv G ops tr env H p a0 listed V a→(∀ i,i<ops.size→inS listed i=true)→V.H=Hfin∧EnvOk V (envS ops tr all_ env ops.size) a:=fun {listed V a} hI hall =>
  ⟨HeapIs.uniq ⟨fun id=>by rw [hI.hH.at_]; exact heapAt_eq fun j hj _ _=>hall j hj,by rw [hI.hH.len]; exact lenAt_eq fun j hj _ _=>hall j hj⟩ hfin,Reps.congr hI.he (by rw [envS_length,envS_length]) fun t _=>(envS_eq fun j hj _=>hall j hj).symm⟩
 have nop:∀ {listed:Array Bool} {V:View} {a:Act},Inv G ops tr env H p a0 listed V a→(∀ i,i<ops.size→inS listed i=true)→p=none:=fun {listed V a} hI hall=>by
  cases hp:p with
  | none=>rfl
  | some q=>have:=hI.pn q hp; rw [hall q (hpan q hp).1] at this; cases this
 intro fuel
 induction fuel with
 | zero =>
  intro listed V a hI hcnt hn _
  have hall:∀ i,i<ops.size→inS listed i=true:=fun i hi=>by
   cases hS:inS listed i with
   | true=>rfl
   | false =>
    have his:i<listed.size:=by rw [hI.size]; exact hi
    have:false∈listed.toList:=by
     unfold inS at hS
     simp only [Array.getD_eq_getD_getElem?,Array.getElem?_eq_getElem his,Option.getD_some] at hS
     rw [← hS]
     simp
    have:=List.count_pos_iff.2 this
    omega
  refine ⟨?_,hn (nop hI hall) V a (Step.refl V) hI.hG (fin hI hall).1 (fin hI hall).2 hI.hd⟩
  cases hr:Region.ready .any ops listed with
  | nil=>rfl
  | cons i is =>
   have hi:i∈Region.ready .any ops listed:=by rw [hr]; simp
   obtain ⟨hun,o,ho,_⟩:=mem_ready.1 hi
   have hil:=(Array.getElem?_eq_some_iff.1 ho).1
   have h1:=hall i hil
   have his:i<listed.size:=by rw [hI.size]; exact hil
   unfold inS at h1
   simp only [Array.getD_eq_getD_getElem?,Array.getElem?_eq_getElem his,Option.getD_some] at h1 hun
   rw [h1] at hun
   cases hun
 | succ fuel ih =>
  intro listed V a hI hcnt hn hpq
  refine ⟨fun hr=>?_,fun i hi=>?_⟩
  · have hall:=any_all hc hI.size hr
    exact hn (nop hI hall) V a (Step.refl V) hI.hG (fin hI hall).1 (fin hI hall).2 hI.hd
  · obtain ⟨hun,o,ho,hall⟩:=mem_ready.1 hi
    have hil:=(Array.getElem?_eq_some_iff.1 ho).1
    have hall':∀ e∈o.after,Region.binds .any e=true→inS listed e.on=true:=hall
    by_cases hip:p=some i
    · subst hip
      obtain ⟨_,k1,k2,k3⟩:=hpan i rfl
      exact any_pan hl hc hI k1 k2 k3 hi fun V' v s1 g1 h1 r1=>hpq V' a v (inS listed) (by simp) s1 g1 h1 (hI.he.step s1) hI.hd r1
    · have hib:isBehind (bitsL ops.toList []) p i=false:=by
       cases hb:isBehind (bitsL ops.toList []) p i with
       | false=>rfl
       | true =>
        unfold isBehind at hb
        split at hb
        · rename_i q
          have:=before_ready hI.shut ho hall' hb
          rw [hI.pn q rfl] at this
          cases this
        · cases hb
      refine any_step hl hc hI (htr i hil hib hip) hip hi fun V' a' hs hI'=>ih hI' ?_ (fun hp V2 a2 s2 g2 h2 e2 d2=>hn hp V2 a2 (hs.trans s2) g2 h2 e2 d2) (fun V2 a2 v2 S hp s2 g2 h2 e2 d2 r2=>hpq V2 a2 v2 S hp (hs.trans s2) g2 h2 e2 d2 r2)
      have his:i<listed.size:=by rw [hI.size]; exact hil
      have his':i<listed.toList.length:=by simpa using his
      simp only [Array.getD_eq_getD_getElem?,Array.getElem?_eq_getElem his,Option.getD_some] at hun
      have hlf:listed.toList[i]=false:=by simpa using hun
      have hpos:0<listed.toList.count false:=List.count_pos_iff.2 (by rw [← hlf]; exact List.getElem_mem his')
      have e:(listed.setIfInBounds i true).toList.count false=listed.toList.count false - 1:=by
       rw [Array.toList_setIfInBounds,List.count_set his',hlf]
       rfl
      rw [e]
      omega
end
end Go.Am


namespace Go.Am
open Go
def LoopIn (F:Fence) (n:Nat) (P:Program) (c:Code) (Q:Exit→Act→World→Prop) (a:Act) (w:World):Prop :=
 ∀ (b:Frame) (k:List Item) (cs:List Frame),b.roundOf=F.round→F.fn b.fn→F.room (cs.length+1+n) →
  ∃ e a' w',Q e a' w'∧ArrivesIn (Machine.fenced P F) P (lone (b.atR a (.code c :: .inLoop c::k)) cs w) b k cs e a' w'
section
variable {F:Fence} {n:Nat} {P:Program} {Q:Exit→Act→World→Prop} {a:Act} {w:World} {c:Code}
theorem LoopIn.wpIn (h:LoopIn F n P c Q a w):(Code.loop c).wpIn F n P Q a w:=fun b k cs hro hb hr =>
 let ⟨e,a',w',hq,harr⟩:=h b k cs hro hb hr
 ⟨e,a',w',hq,.of_steps (.one (fenced_calm hb hr rfl) stepR_loop) harr⟩
theorem LoopIn.next (h:c.wpIn F n P (Exit.then (LoopIn F n P c Q) Q) a w):LoopIn F n P c Q a w:=by
 intro b k cs hro hb hr
 obtain ⟨e,a₁,w₁,hq,harr⟩:=h b (.inLoop c::k) cs hro hb hr
 cases e with
 | normal =>
  obtain ⟨e₂,a₂,w₂,hq₂,harr₂⟩:=hq b k cs hro hb hr
  exact ⟨e₂,a₂,w₂,hq₂,.of_steps (StepsIn.trans harr (.one (fenced_calm hb hr rfl) stepR_inLoop)) harr₂⟩
 | exit id=>exact ⟨_,a₁,w₁,hq,.pass (x:=.inLoop c) rfl (fun _ _=>.inl (by simp)) harr⟩
 | goto l=>exact ⟨_,a₁,w₁,hq,.pass (x:=.inLoop c) rfl (fun _ _=>.inl (by simp)) harr⟩
 | ret=>exact ⟨_,a₁,w₁,hq,.pass (x:=.inLoop c) rfl (fun _ _=>.inl (by simp)) harr⟩
 | panic ch=>exact ⟨_,a₁,w₁,hq,.pass (x:=.inLoop c) rfl (fun _ _=>.inl (by simp)) harr⟩
 | outgrown=>exact ⟨_,a₁,w₁,hq,.pass (x:=.inLoop c) rfl (fun _ _=>.inl (by simp)) harr⟩
end
section
variable {F:Fence} {n:Nat} {P:Program} {Q:Exit→Act→World→Prop} {a:Act} {w:World} {c:Code}
theorem stepR_scope {b:Frame} {k:List Item} {cs:List Frame}:step P (lone (b.atR a (.code (.scope c)::k)) cs w) = .next (lone (b.atR a (.code c :: .inScope c::k)) cs w) :=
 step_lone_go (by simp [stepG,stepG.exec,Frame.atR])
theorem stepR_inScope {b:Frame} {k:List Item} {cs:List Frame}:step P (lone (b.atR a (.inScope c::k)) cs w) = .next (lone (b.atR a k) cs w) :=
 step_lone_go (by simp [stepG,stepG.exec,Frame.atR])
theorem wpIn_scope (h:c.wpIn F n P Q a w) (hng:∀ l a w,¬ Q (.goto l) a w):(Code.scope c).wpIn F n P Q a w:=by
 intro b k cs hro hb hr
 have h0:(lone (b.atR a (.code (.scope c)::k)) cs w).fenced P F:=fenced_calm hb hr rfl
 obtain ⟨e,a₁,w₁,hq,harr⟩:=h b (.inScope c::k) cs hro hb hr
 cases e with
 | normal=>exact ⟨.normal,a₁,w₁,hq,.head h0 stepR_scope (StepsIn.trans harr (.one (fenced_calm hb hr rfl) stepR_inScope))⟩
 | exit id =>
  have hx:exitTo id (.inScope c::k)=exitTo id k:=by simp [exitTo]
  exact ⟨_,a₁,w₁,hq,fun k' hk=>.head h0 stepR_scope (harr.1 k' (by rw [hx]; exact hk)),
   fun hr' hk=>let ⟨k₁,h1,h2⟩:=harr.2 hr' (by rw [hx]; exact hk); ⟨k₁,h1,.head h0 stepR_scope h2⟩⟩
 | goto l=>exact (hng _ _ _ hq).elim
 | ret=>exact ⟨_,a₁,w₁,hq,.of_steps (.one h0 stepR_scope) harr⟩
 | panic ch=>exact ⟨_,a₁,w₁,hq,.of_steps (.one h0 stepR_scope) harr⟩
 | outgrown=>exact ⟨_,a₁,w₁,hq,.of_steps (.one h0 stepR_scope) harr⟩
end
inductive ADef where
 | mark (id:Nat)
 | call (f:FuncId) (xs:List AV)
  | bag (a:Nat)
  | mbag (id a:Nat)
def AObj.isAnch:AObj→Bool
 | .box _ | .iter .. | .dfd | .gone=>true
 | _=>false
structure St where
 env:List AV
 H:List AObj
 defs:List ADef:=[]
def AObj.isDfd:AObj→Bool
 | .dfd | .gone=>true
 | _=>false
theorem dfdOk_step {V V':View} (hs:Step V V') {id:Nat} (h:KindOk AObj.isDfd V id):KindOk AObj.isDfd V' id∧V'.ρ id=V.ρ id :=
 h.step hs rfl (fun _ _ _ _=>rfl) (fun h=>absurd h (by simp [AObj.isDfd])) (fun _ _=>rfl) (fun _ _=>rfl) (fun _ _ _ _ _ _ _ _ _ _ _ _=>rfl) (fun _ _ _ _=>rfl)
def markD (b:Nat):Deferred:={ target:=.collected b,args:=#[] }
def DefRep (V:View):ADef→Deferred→Prop
 | .mark id,d=>KindOk AObj.isDfd V id∧d={ target:=.collected (V.ρ id),args:=#[] }
 | .call f xs,d=>∃ cs,d.target = .fn (.func f) cs∧Reps V xs (d.args.toList++cs.toList)
 | .bag _,_=>False
 | .mbag ..,_=>False
theorem anch_step {V V':View} (hs:Step V V') {id:Nat} (h:KindOk AObj.isAnch V id):KindOk AObj.isAnch V' id∧V'.ρ id=V.ρ id :=
 h.step hs rfl (fun _ _ _ _=>rfl) (fun _ _=>rfl) (fun h=>absurd h (by simp [AObj.isAnch])) (fun _ _=>rfl) (fun _ _ _ _ _ _ _ _ _ _ _ _=>rfl) (fun _ _ _ _=>rfl)
theorem DefRep.step {V V':View} (hs:Step V V') {x:ADef} {d:Deferred} (h:DefRep V x d):DefRep V' x d:=by
 cases x with
 | mark id=>obtain ⟨h1,rfl⟩:=h; obtain ⟨k1,k2⟩:=dfdOk_step hs h1; exact ⟨k1,by rw [k2]⟩
 | call f xs=>obtain ⟨cs,h1,h2⟩:=h; exact ⟨cs,h1,h2.step hs⟩
 | bag a=>exact h.elim
 | mbag id a=>exact h.elim
def Bagged (V:View) (a b:Nat):Prop:=V.ρ a<b∧b<V.w.heap.size∧V.M b∧(∀ i,i<V.H.length→V.ρ i≠b)∧V.w.heap[b]? = some (.deferred (some []))
inductive DefsRep (V:View):List ADef→List Deferred→Prop
 | nil:DefsRep V [] []
 | cons {x:ADef} {d:Deferred} {xs:List ADef} {ds:List Deferred} (h:DefRep V x d) (hs:DefsRep V xs ds):DefsRep V (x::xs) (d::ds)
 | bag {a:Nat} {bs:List Nat} {xs:List ADef} {ds:List Deferred} (ha:KindOk AObj.isAnch V a) (hn:bs.Nodup) (hb:∀ b∈bs,Bagged V a b) (hs:DefsRep V xs ds):DefsRep V (.bag a::xs) (bs.map markD++ds)
 | mbag {id a:Nat} {bs:List Nat} {xs:List ADef} {ds:List Deferred} (hi:KindOk AObj.isDfd V id) (ha:KindOk AObj.isAnch V a) (hlt:V.ρ a<V.ρ id) (hn:bs.Nodup) (hb:∀ b∈bs,Bagged V a b∧b<V.ρ id) (hs:DefsRep V xs ds):DefsRep V (.mbag id a::xs) (markD (V.ρ id)::(bs.map markD++ds))
theorem Bagged.step {V V':View} (hs:Step V V') {a b:Nat} (ha:KindOk AObj.isAnch V a) (h:Bagged V a b):Bagged V' a b:=by
 obtain ⟨k1,k2⟩:=anch_step hs ha
 obtain ⟨h1,h2,h3,h4,h5⟩:=h
 obtain ⟨e1,e2⟩:=hs.keep b h2 h4
 refine ⟨by rw [k2]; exact h1,Nat.lt_of_lt_of_le h2 hs.size,e2.2 h3,fun i hi e=>?_,e1.trans h5⟩
 rcases hs.fresh i hi with ⟨f1,f2⟩ | f
 · exact h4 i f1 (f2.symm.trans e)
 · omega
theorem DefsRep.step {V V':View} (hs:Step V V') {xs:List ADef} {ds:List Deferred} (h:DefsRep V xs ds):DefsRep V' xs ds:=by
 induction h with
 | nil=>exact .nil
 | cons h _ ih=>exact .cons (h.step hs) ih
 | bag ha hn hb _ ih=>exact .bag (anch_step hs ha).1 hn (fun b hm=>(hb b hm).step hs ha) ih
 | mbag hi ha hlt hn hb _ ih =>
  obtain ⟨i1,i2⟩:=dfdOk_step hs hi
  obtain ⟨k1,k2⟩:=anch_step hs ha
  rw [← i2]
  exact .mbag i1 k1 (by rw [i2,k2]; exact hlt) hn (fun b hm=>⟨(hb b hm).1.step hs ha,by rw [i2]; exact (hb b hm).2⟩) ih
def addMark (id:Nat):List ADef→List ADef
 | .bag a::ds=>.mbag id a::ds
 | ds=>.mark id::ds
structure StOk (V:View) (s:St) (a:Act):Prop where
 env:EnvOk V s.env a
 H:V.H=s.H
 defs:DefsRep V s.defs a.defers
def ExRep (V:View):AEx→Exit→Prop
 | .normal,.normal=>True
 | .exit i,.exit j=>j=i
 | .goto i,.goto j=>j=i
 | .ret,.ret=>True
 | .pan x,.panic chain=>∃ v,chain=[{ v:=v,recovered:=false }]∧Rep V x v
 | _,_=>False
def Ends (G:Nat→Option (List AV)) (V0:View) (ex:AEx) (s':St) (e:Exit) (a':Act) (w':World):Prop :=
 ∃ V':View,V'.w=w'∧Step V0 V'∧HeapRep G V'∧StOk V' s' a'∧ExRep V' ex e
def RunC (P:Program) (G:Nat→Option (List AV)) (r:Option Nat) (n0:Nat) (c:Code) (s:St) (ex:AEx) (s':St):Prop :=
 ∀ (V0 V:View) (a:Act),V0.H.length=n0→Step V0 V→HeapRep G V→StOk V s a→c.wpIn (fz r) 0 P (Ends G V0 ex s') a V.w
def RunL (P:Program) (G:Nat→Option (List AV)) (r:Option Nat) (n0:Nat) (c:Code) (s:St) (ex:AEx) (s':St):Prop :=
 ∀ (V0 V:View) (a:Act),V0.H.length=n0→Step V0 V→HeapRep G V→StOk V s a→LoopIn (fz r) 0 P c (Ends G V0 ex s') a V.w
def deaden:List AV→List Nat→List AV
 | env,[]=>env
 | env,t::ts=>deaden (env.set t .dead) ts
def cutArr (n:Nat):Nat→List (List AV)→Option (List Prop)
 | 4,xs=>some [∀ x∈xs,AV.idsLtL n x=true]
 | _,xs=>some [∀ x∈xs,AV.idsInL [] x=true]
def AObj.cutOk (n:Nat):AObj→Option (List Prop)
 | .box cs=>if AV.idsLtL n cs=true then some [] else none
 | .arr _ sz _ xs=>cutArr n sz xs
 | .map es=>some [∀ e∈es,e.2.idsLt n=true]
 | .rng _ _ env _ _ _=>if AV.idsLtL n env=true then some [] else none
 | .iter .. | .dfd | .gone=>some []
def cutsOk (n:Nat):List AObj→Option (List Prop)
 | []=>some []
 | o::os=>match o.cutOk n,cutsOk n os with
  | some ps,some qs=>some (ps++qs)
  | _,_=>none
def defsLt (n:Nat):List ADef→Bool
 | []=>true
 | .mark id::ds=>Nat.blt id n && defsLt n ds
 | .call _ xs::ds=>AV.idsLtL n xs && defsLt n ds
 | .bag a::ds=>Nat.blt a n && defsLt n ds
 | .mbag id a::ds=>Nat.blt id n && Nat.blt a n && defsLt n ds
def bagDefs (n:Nat) (H:List AObj):List ADef→Option (List ADef)
 | .mbag id a::ds=>if id<n then (if defsLt n (.mbag id a::ds)=true then some (.bag id :: .mbag id a::ds) else none) else
  match H[id]? with
  | some .dfd=>if defsLt n (.bag a::ds)=true then some (.bag a::ds) else none
  | _=>none
 | ds=>if defsLt n ds=true then some ds else none
def topM:List ADef→Bool
 | .mbag .. :: _=>true
 | _=>false
def weakA (n0:Nat) (dead:List Nat) (n:Nat) (s:St):Option (St × List Prop) :=
 let env:=deaden s.env dead
 if n=s.H.length∧topM s.defs=false then some ({ s with env:=env },[]) else
 if n0≤n∧n≤s.H.length∧AV.idsLtL n env=true then
  (match bagDefs n s.H s.defs,cutsOk n (s.H.take n) with
  | some d,some ps=>some ({ env:=env,H:=s.H.take n,defs:=d },ps)
  | _,_=>none) else none
section
variable {G:Nat→Option (List AV)} {V:View}
theorem deaden_ok {a:Act}:∀ {ts:List Nat} {env:List AV},EnvOk V env a→EnvOk V (deaden env ts) a
 | [],_,h=>h
 | t::ts,env,h=>deaden_ok (ts:=ts) ⟨by simpa using h.1,fun j hj=>by
  have hj':j<env.length:=by simpa using hj
  by_cases e:t=j
  · subst e; rw [getD_set_self' hj']; exact .dead _
  · rw [getD_set_ne' e]; exact h.2 j hj'⟩
theorem cutObj_sound {n:Nat} {o:AObj} {ps:List Prop} (h:o.cutOk n=some ps) (hps:AllP ps):o.idsLt n:=by
 cases o<;>simp only [AObj.cutOk] at h
 case box cs=>split at h<;>first | assumption | cases h
 case arr g sz fz xs =>
  unfold cutArr at h
  split at h
  · cases h; exact hps.1
  · cases h; exact fun x hx=>(renL_none id x (hps.1 x hx)).2 n
 case map es=>cases h; exact hps.1
 case rng=>split at h<;>first | assumption | cases h
 case iter=>trivial
 case dfd=>trivial
 case gone=>trivial
theorem cuts_sound {n:Nat}:∀ {os:List AObj} {ps:List Prop},cutsOk n os=some ps→AllP ps→∀ o∈os,o.idsLt n
 | [],_,_,_,o,ho=>by cases ho
 | o1::os,ps,h,hps,o,ho=>by
  unfold cutsOk at h
  split at h
  · rename_i p q h1 h2
    cases h
    obtain ⟨a1,a2⟩:=allP_append.1 hps
    rcases List.mem_cons.1 ho with rfl | ho
    · exact cutObj_sound h1 a1
    · exact cuts_sound h2 a2 o ho
  · cases h
def View.cut (V:View) (n:Nat):View:={ V with H:=V.H.take n }
theorem lk_cut {n:Nat} (hn:n≤V.H.length):Lk (V.cut n) V id:=⟨rfl,fun _=>Iff.rfl,fun _ _=>rfl,fun i o ho=>by
 have hlt:i<n:=by
  have:=(List.getElem?_eq_some_iff.1 ho).1
  simp only [View.cut,List.length_take] at this
  omega
 have:V.H[i]? = some o:=by rw [← ho]; simp [View.cut,hlt]
 rw [id,this]
 congr 1
 exact (renId o).symm⟩
 where
  renId (o:AObj):o.ren id=o:=by
   have l1:∀ x:AV,x.ren id=x:=fun x=>ren_id x
   have l2:∀ xs:List AV,AV.renL id xs=xs:=fun xs=>renL_id xs
   cases o<;>simp only [AObj.ren,l2]
   case arr g sz fz xs=>congr 1; exact (List.map_congr_left fun x _=>l2 x).trans (List.map_id _)
   case map es =>
    congr 1
    refine (List.map_congr_left (g:=id) fun x _=>?_).trans (List.map_id _)
    obtain ⟨k,v⟩:=x
    simp only [l1,id]
  ren_id:∀ x:AV,x.ren id=x
   | .lit _ | .imm _ | .sl .. | .md .. | .dead=>rfl
   | .ptr .. | .apt .. | .own .. | .mp _ | .yl _=>rfl
   | .fn f aZ bs=>by simp only [AV.ren,renL_id aZ,renL_id bs]
   | .ifc t x=>by simp only [AV.ren,ren_id x]
   | .agg cs=>by simp only [AV.ren,renL_id cs]
   | .tup cs=>by simp only [AV.ren,renL_id cs]
  renL_id:∀ xs:List AV,AV.renL id xs=xs
   | []=>rfl
   | x::xs=>by simp only [AV.renL,ren_id x,renL_id xs]
theorem cut_len {n:Nat} (hn:n≤V.H.length):(V.cut n).H.length=n:=by simp only [View.cut,List.length_take]; omega
theorem cut_heap {n:Nat} (hn:n≤V.H.length) (hG:HeapRep G V) (hi:∀ o∈V.H.take n,o.idsLt n):HeapRep G (V.cut n) :=
 HeapRep.bwd (lk_cut hn) hG (fun i o ho=>by rw [cut_len hn]; exact hi o (List.mem_of_getElem? ho)) fun i j _ _ h=>h
theorem cut_reps {n:Nat} (hn:n≤V.H.length) {xs:List AV} {vs:List Value} (hi:AV.idsLtL n xs=true) (h:Reps V xs vs):Reps (V.cut n) xs vs :=
 Reps.bwd (lk_cut hn) (by rw [cut_len hn]; exact hi) (by rw [lk_cut.renL_id]; exact h)
theorem cut_rep {n:Nat} (hn:n≤V.H.length) {x:AV} {v:Value} (hi:x.idsLt n=true) (h:Rep V x v):Rep (V.cut n) x v :=
 Rep.bwd (lk_cut hn) h x (lk_cut.ren_id x).symm (by rw [cut_len hn]; exact hi)
theorem cut_step {V0:View} {n:Nat} (hn:n≤V.H.length) (h0:V0.H.length≤n) (hs:Step V0 V):Step V0 (V.cut n) where
 os:=hs.os
 tape:=hs.tape
 output:=hs.output
 size:=hs.size
 drawn:=hs.drawn
 keep:=hs.keep
 data:=hs.data
 hlen:=by rw [cut_len hn]; exact h0
 fresh id hid:=hs.fresh id (by rw [cut_len hn] at hid; omega)
 obj id hid:=by
  have:=hs.obj id hid
  unfold ObjStep at *
  have e:(V.cut n).H[id]? = V.H[id]? := by simp [View.cut,show id<n by omega]
  rw [e]
  exact this
theorem cut_anch {n:Nat} {id:Nat} {f:AObj→Bool} (hlt:id<n) (h:KindOk f V id):KindOk f (V.cut n) id:=by
 obtain ⟨o,h1,h2⟩:=h
 exact ⟨o,by rw [← h1]; simp [View.cut,hlt],h2⟩
theorem cut_bagged {n a b:Nat} (h:Bagged V a b):Bagged (V.cut n) a b :=
 ⟨h.1,h.2.1,h.2.2.1,fun i hi=>h.2.2.2.1 i (by simp only [View.cut,List.length_take] at hi; omega),h.2.2.2.2⟩
theorem cut_defs {n:Nat} (hn:n≤V.H.length):∀ {ds:List ADef} {l:List Deferred},defsLt n ds=true→DefsRep V ds l→DefsRep (V.cut n) ds l:=by
 intro ds l hd h
 induction h with
 | nil=>exact .nil
 | cons h _ ih =>
  rename_i x d xs ds _
  cases x with
  | mark id =>
   simp only [defsLt,Bool.and_eq_true] at hd
   exact .cons ⟨cut_anch (by simpa using hd.1) h.1,h.2⟩ (ih hd.2)
  | call f ys =>
   simp only [defsLt,Bool.and_eq_true] at hd
   obtain ⟨cs,h1,h2⟩:=h
   exact .cons ⟨cs,h1,cut_reps hn hd.1 h2⟩ (ih hd.2)
  | bag a=>exact h.elim
  | mbag id a=>exact h.elim
 | bag ha hnd hb _ ih =>
  simp only [defsLt,Bool.and_eq_true] at hd
  exact .bag (cut_anch (by simpa using hd.1) ha) hnd (fun b hm=>cut_bagged (hb b hm)) (ih hd.2)
 | mbag hi ha hlt hnd hb _ ih =>
  simp only [defsLt,Bool.and_eq_true] at hd
  exact .mbag (V:=V.cut n) (cut_anch (by simpa using hd.1.1) hi) (cut_anch (by simpa using hd.1.2) ha) hlt hnd (fun b hm=>⟨cut_bagged (hb b hm).1,(hb b hm).2⟩) (ih hd.2)
theorem bag_defs {G:Nat→Option (List AV)} {n:Nat} (hn:n≤V.H.length) (hG:HeapRep G V) {ds ds':List ADef} {l:List Deferred} (hd:bagDefs n V.H ds=some ds') (h:DefsRep V ds l):DefsRep (V.cut n) ds' l:=by
 unfold bagDefs at hd
 split at hd
 · rename_i id a xs
   split at hd
   · split at hd<;>first | (cases hd; done) | skip
     rename_i hlt hl
     cases hd
     have h2:=cut_defs hn hl h
     cases h with
     | cons q _=>exact q.elim
     | mbag hi ha hlt hnd hb hr =>
      have hi':KindOk AObj.isAnch V id:=by
       obtain ⟨o,ho,hk⟩:=hi
       exact ⟨o,ho,by cases o<;>first | rfl | cases hk⟩
      exact DefsRep.bag (bs:=[]) (cut_anch (by assumption) hi') .nil (fun _ h=>by cases h) h2
   · rename_i hge
     split at hd<;>first | (cases hd; done) | skip
     rename_i hH
     split at hd<;>first | (cases hd; done) | skip
     rename_i hl
     cases hd
     simp only [defsLt,Bool.and_eq_true] at hl
     cases h with
     | cons q _=>exact q.elim
     | mbag hi ha hlt hnd hb hr =>
      rename_i bs ls
      have hid:=(List.getElem?_eq_some_iff.1 hH).1
      have e:markD (V.ρ id)::(bs.map markD++ls)=(V.ρ id::bs).map markD++ls:=rfl
      rw [e]
      refine .bag (cut_anch (by simpa using hl.1) ha) (List.nodup_cons.2 ⟨fun hm=>(hb _ hm).1.2.2.2.1 id hid rfl,hnd⟩) (fun b hm=>?_) (cut_defs hn hl.2 hr)
      rcases List.mem_cons.1 hm with rfl | hm
      · exact ⟨hlt,hG.lt id hid,hG.mutb id _ hH rfl,fun i hi e=>by
         have hi':i<n:=by simp only [View.cut,List.length_take] at hi; omega
         have:=hG.inj i id (by omega) hid e
         omega,hG.obj id _ hH⟩
      · exact cut_bagged (hb b hm).1
 · split at hd<;>first | (cases hd; done) | skip
   rename_i hl
   cases hd
   exact cut_defs hn hl h
theorem weak_sound {n0 n:Nat} {dead:List Nat} {s s2:St} {ps:List Prop} (h:weakA n0 dead n s=some (s2,ps)) (hps:AllP ps) {V0:View} {a:Act} (h0:V0.H.length=n0) (hs:Step V0 V) (hG:HeapRep G V) (hok:StOk V s a) :
 ∃ V2:View,V2.w=V.w∧Step V0 V2∧HeapRep G V2∧StOk V2 s2 a:=by
 unfold weakA at h
 simp only at h
 split at h
 · cases h
   exact ⟨V,rfl,hs,hG,⟨deaden_ok hok.env,hok.H,hok.defs⟩⟩
 · split at h
   · rename_i hc
     obtain ⟨c1,c2,c3⟩:=hc
     split at h
     · rename_i d qs hd hq
       cases h
       have hn:n≤V.H.length:=by rw [hok.H]; exact c2
       exact ⟨V.cut n,rfl,cut_step hn (by omega) hs,cut_heap hn hG (by rw [hok.H]; exact cuts_sound hq hps),⟨cut_reps hn c3 (deaden_ok hok.env),by simp [View.cut,hok.H],bag_defs hn hG (by rw [hok.H]; exact hd) hok.defs⟩⟩
     · cases h
   · cases h
end
end Go.Am
