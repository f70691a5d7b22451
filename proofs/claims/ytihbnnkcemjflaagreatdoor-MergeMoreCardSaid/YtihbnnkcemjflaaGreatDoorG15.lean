import Derived.Test.YtihbnnkcemjflaaGreatDoorG14
import Derived.Lone
import Derived.RunT
import Derived.CallsIn
set_option maxRecDepth 100000
set_option linter.unusedSimpArgs false
set_option linter.unusedVariables false

namespace Go.Am
open Go
theorem ask_drawn {α:Type}:∀ (m:Ask α) (w:World),w.drawn≤(w.ask m).2.drawn
 | .done a,w=>Nat.le_refl _
 | .ask what range k,w=>by
  unfold World.ask
  simp only
  split
  · exact ask_drawn (k 0) w
  · exact Nat.le_trans (Nat.le_succ w.drawn) (ask_drawn (k _) { w with drawn:=w.drawn+1 })
theorem sys_drawn (w:World) (c:Sys):w.drawn≤(w.sys c).2.drawn:=by
 have h:=ask_drawn (Kernel.perform c w.os) w
 unfold World.sys
 generalize w.ask (Kernel.perform c w.os)=x at h
 obtain ⟨⟨r,os⟩,w'⟩:=x
 cases r<;>first | exact Nat.le_refl _ | exact h
theorem viewStore_drawn {p:Program} {w:World} {a:Addr} {u:TypeId} {k:Addr} {v:Value} {at_:Bool} {r:World × List Addr} (h:w.viewStore p a u k v at_ = .ok r):r.1.drawn=w.drawn:=by
 unfold World.viewStore at h
 simp only [bind,Except.bind,pure,Except.pure,throw,throwThe,MonadExceptOf.throw] at h
 repeat' first
  | (cases h; done)
  | (cases h; rfl)
  | split at h
theorem farStore_drawn {p:Program} {w:World} {a:Addr} {v:Value} {at_:Bool} {r:World × List Addr} (h:w.farStore p a v at_ = .ok r):r.1.drawn=w.drawn:=by
 unfold World.farStore at h
 split at h
 · split at h
   · rename_i hv
     cases h
     exact viewStore_drawn hv
   · cases h
 · cases h
def _root_.Go.Result.wo {α:Type}:Result α→World
 | .ok _ w=>w
 | .halt _ w=>w
theorem freeze_drawn (w:World) (a:Addr) (n:Nat):(w.freeze a n).drawn=w.drawn:=by
 unfold World.freeze
 split<;>rfl
theorem run_drawn {α:Type} (p:Program):∀ (m:Sem α) (w:World),w.drawn≤(m.run p w).wo.drawn:=by
 intro m
 induction m with
 | pure a=>exact fun w=>Nat.le_refl _
 | load m a k ih =>
  intro w
  simp only [Sem.run]
  split
  · exact ih _ w
  · split
    · exact ih _ w
    · exact Nat.le_refl _
 | store m a v k ih =>
  intro w
  have key:∀ r:Result α,r=(match w.cell? a with
   | some _=>if w.frozen? a then .halt (.unsupported (.unsafePointer "a write to bytes that a string shares")) w else k.run p (w.setCell a v)
   | none=>match w.farStore p a v (m == .atomic) with
    | .ok (w,_)=>k.run p w
    | .error h=>.halt h w)→w.drawn≤r.wo.drawn:=by
   intro r hr
   split at hr
   · split at hr
     · rw [hr]; exact Nat.le_refl _
     · rw [hr]; exact ih (w.setCell a v)
   · split at hr
     · rename_i hf
       have:=farStore_drawn hf
       rw [hr]
       exact Nat.le_trans (Nat.le_of_eq this.symm) (ih _)
     · rw [hr]; exact Nat.le_refl _
  cases v with
  | agg _=>exact Nat.le_refl _
  | tuple _=>exact Nat.le_refl _
  | _=>exact key _ rfl
 | new o k ih=>exact fun w=>ih _ { w with heap:=w.heap.push o }
 | shape r k ih=>exact fun w=>ih _ w
 | freeze a n k ih=>intro w; have:=ih (w.freeze a n); rw [freeze_drawn] at this; exact this
 | frozen a k ih=>exact fun w=>ih _ w
 | getObj r k ih =>
  intro w
  simp only [Sem.run]
  split
  · exact Nat.le_refl _
  · exact ih _ w
  · exact Nat.le_refl _
 | setObj r o k ih =>
  intro w
  simp only [Sem.run]
  split
  · exact Nat.le_refl _
  · exact ih { w with heap:=w.heap.setIfInBounds r o }
  · exact Nat.le_refl _
 | choose q k ih =>
  intro w
  simp only [Sem.run]
  split
  · exact ih _ w
  · exact Nat.le_trans (Nat.le_succ _) (ih _ { w with drawn:=w.drawn+1 })
 | sys c k ih=>exact fun w=>Nat.le_trans (sys_drawn w c) (ih _ _)
 | program k ih=>exact fun w=>ih _ w
 | mark m k ih=>exact fun w=>ih w
 | halt h=>exact fun w=>Nat.le_refl _
theorem run_le {α:Type} {p:Program} {m:Sem α} {w w':World} {a:α} (h:m.run p w = .ok a w'):w.drawn≤w'.drawn:=by
 have:=run_drawn p m w; rw [h] at this; exact this
theorem run_leH {α:Type} {p:Program} {m:Sem α} {w w':World} {a:Halt} (h:m.run p w = .halt a w'):w.drawn≤w'.drawn:=by
 have:=run_drawn p m w; rw [h] at this; exact this
def wld:GStep→World
 | .go _ w _=>w
 | .comm _ _ _ _ w _=>w
 | .spawn _ _ w _=>w
 | .count _ w _=>w
 | .timer _ _ w _=>w
 | .alone _ _ w _=>w
 | .newcoro _ _ _ w _=>w
 | .coroswitch _ _ _ w _=>w
 | .collect _ w _=>w
 | .watch _ w _=>w
 | .ended _ w _=>w
theorem wld_after (es:Array Event) (s:GStep):wld (s.after es)=wld s:=by cases s<;>rfl
theorem doReturn_le (p:Program) (main:Bool) (fr:Frame) (cs:List Frame) (dy:Option Dying) (v:Value) (w:World):(wld (doReturn p main fr cs dy v w)).drawn=w.drawn:=by
 unfold doReturn
 simp only
 repeat' first
  | rfl
  | split
theorem endWith_le (w:World) (fd:Nat) (t:ByteArray) (o:Outcome):w.drawn≤(wld (endWith w fd t o)).drawn:=by
 have h:=sys_drawn w (.write fd t)
 unfold endWith
 simp only
 generalize w.sys (.write fd t)=x at h
 obtain ⟨r,w'⟩:=x
 cases r<;>simp only []<;>first | exact h | (split<;>exact h)
theorem endPrinting_le (p:Program) (fr:Frame) (v:Value) (w:World):(wld (endPrinting p fr v w)).drawn=w.drawn:=by
 unfold endPrinting
 simp only
 split<;>rfl
theorem endFatal_le (p:Program) (fr:Frame) (cs:List Frame) (dy:Option Dying) (m:String) (w:World):w.drawn≤(wld (endFatal p fr cs dy m w)).drawn:=by
 unfold endFatal
 simp only
 split
 · rename_i h; exact run_le h
 · rename_i h; exact run_leH h
 · rename_i h; exact run_leH h
theorem writeOn_le (p:Program) (fr:Frame) (d:Dying) (f:Fatal) (w:World):w.drawn≤(wld (writeOn p fr d f w)).drawn:=by
 unfold writeOn
 simp only
 split
 · exact Nat.le_refl _
 · split
   all_goals
    rename_i h
    have h1:=congrArg Prod.fst h
    simp only [Sem.runT_fst] at h1
    first
     | exact run_le h1
     | exact run_leH h1
theorem die_le (p:Program) (fr:Frame) (d:Dying) (w:World):w.drawn≤(wld (die p fr d w)).drawn:=by
 unfold die
 split
 · exact writeOn_le _ _ _ _ _
 · split
   · split
     · exact Nat.le_refl _
     · exact endWith_le _ _ _ _
   · simp only
     split
     · exact Nat.le_refl _
     · split
       · rename_i h; exact run_le h
       · rename_i h; exact run_leH h
     · rw [wld_after]
       rw [Sem.runT_fst]
       split
       · rename_i h; exact run_le h
       · rename_i h; exact run_le h
       · rename_i h; exact run_leH h
       · rename_i h; rw [endPrinting_le]; exact run_leH h
       · exact Nat.le_refl _
     · exact Nat.le_refl _
theorem ite_le {c:Prop} [Decidable c] {a b:GStep} {n:Nat} (ha:n≤(wld a).drawn) (hb:n≤(wld b).drawn):n≤(wld (if c then a else b)).drawn:=by
 split<;>assumption
theorem callDeferred_le (p:Program) (fr:Frame) (cs:List Frame) (dy:Option Dying) (d:Deferred) (w:World):w.drawn≤(wld (callDeferred p fr cs dy d w)).drawn:=by
 unfold callDeferred
 refine ite_le (Nat.le_refl _) ?_
 · simp only [wld_after,Sem.runT_fst]
   cases h:(invoke d.target d.args).run p w with
   | ok a w' =>
    have:=run_le h
    cases a<;>(try simp only [])<;>first
     | exact this
     | (rename_i x; cases x<;>exact this)
     | (rename_i x _; cases x<;>exact this)
     | (repeat' first | exact this | split)
   | halt a w' =>
    have:=run_leH h
    cases a<;>(try simp only [])<;>first
     | exact this
     | exact Nat.le_trans this (endFatal_le _ _ _ _ _ _)
theorem unwind_le (p:Program) (main:Bool) (fr:Frame) (cs:List Frame) (dy:Option Dying) (w:World):w.drawn≤(wld (unwind p main fr cs dy w)).drawn:=by
 unfold unwind
 split
 · simp only [wld_after,Sem.runT_fst]
   split
   · rename_i h; exact run_le h
   · rename_i h; exact run_leH h
 · exact callDeferred_le _ _ _ _ _ _
 · split
   · exact Nat.le_refl _
   · split
     · exact Nat.le_refl _
     · split
       · exact Nat.le_refl _
       · split
         · split
           · exact Nat.le_refl _
           · split
             · rename_i h; exact run_le h
             · rename_i h; exact run_leH h
             · rename_i h; exact run_leH h
         · split
           · rw [endPrinting_le]; exact Nat.le_refl _
           · exact Nat.le_refl _
   · split
     · rw [doReturn_le]; exact Nat.le_refl _
     · simp only [wld_after,Sem.runT_fst]
       split
       · rename_i h; rw [doReturn_le]; exact run_le h
       · rename_i h; exact run_leH h
       · rename_i h; exact run_leH h
theorem early_le (p:Program) (fr:Frame) (cs:List Frame) (dy:Option Dying) (g:Nat) (w:World):w.drawn≤(wld (early p fr cs dy g w)).drawn:=by
 have hh:∀ a w',Sem.run p (choose (.early g)) w = .ok a w'→w.drawn≤w'.drawn:=fun _ _ h=>run_le h
 have hH:∀ a w',Sem.run p (choose (.early g)) w = .halt a w'→w.drawn≤w'.drawn:=fun _ _ h=>run_leH h
 unfold early
 simp only
 repeat' first
  | exact Nat.le_refl _
  | (have:=hh _ _ (by assumption); exact this)
  | (have:=hH _ _ (by assumption); exact this)
  | split
theorem apply_le (p:Program) (b:Bool) (fr:Frame) (cs:List Frame) (dy:Option Dying) (m:Sem Next) (w:World):w.drawn≤(wld (stepG.apply p b fr cs dy m w)).drawn:=by
 unfold stepG.apply
 simp only [wld_after]
 have e:∀ es:Array Event,(if b=true then m.runT p w #[] else (m.run p w,#[])).1=m.run p w:=by
  intro _; split
  · exact Sem.runT_fst _ _ _ _
  · rfl
 rw [e #[]]
 cases h:m.run p w with
 | ok a w' =>
  have:=run_le h
  cases a<;>(try simp only [])<;>first
   | exact this
   | (repeat' first | exact this | split)
 | halt a w' =>
  have:=run_leH h
  cases a<;>(try simp only [])<;>first
   | exact this
   | exact Nat.le_trans this (endFatal_le _ _ _ _ _ _)
   | (rename_i u; cases u<;>first | exact this | exact Nat.le_trans this (early_le _ _ _ _ _ _))
theorem oper_le (p:Program) (b:Bool) (fr:Frame) (cs:List Frame) (dy:Option Dying) (w:World):w.drawn≤(wld (stepG.oper p b fr cs dy w)).drawn:=by
 unfold stepG.oper
 split
 · exact Nat.le_refl _
 · split<;>exact apply_le _ _ _ _ _ _ _
theorem elim_le {α:Type} {o:Option α} {a:GStep} {f:α→GStep} {n:Nat} (ha:n≤(wld a).drawn) (hb:∀ x,n≤(wld (f x)).drawn):n≤(wld (o.elim a f)).drawn:=by
 cases o
 · exact ha
 · exact hb _
theorem exec_le (p:Program) (main:Bool) (b:Bool) (fr:Frame) (cs:List Frame) (dy:Option Dying) (w:World):w.drawn≤(wld (stepG.exec p main b fr cs dy w)).drawn:=by
 unfold stepG.exec
 simp only
 split
 all_goals repeat' first
  | with_reducible exact apply_le _ _ _ _ _ _ _
  | with_reducible exact oper_le _ _ _ _ _ _
  | with_reducible refine ite_le ?_ ?_
  | with_reducible refine elim_le ?_ ?_
  | intro _
  | (rw [wld_after,Sem.runT_fst]; split)
  | (rename_i h; rw [doReturn_le]; exact run_le h)
  | (rename_i h; exact Nat.le_trans (run_le h) (apply_le _ _ _ _ _ _ _))
  | split
  | exact Nat.le_refl _
  | (rename_i h; exact run_le h)
  | (rename_i h; exact run_leH h)
theorem stepG_le (p:Program) (main:Bool) (g:Goroutine) (w:World) (b:Bool):w.drawn≤(wld (stepG p main g w b)).drawn:=by
 unfold stepG
 simp only
 split
 · exact die_le _ _ _ _
 · exact exec_le _ _ _ _ _ _ _
 · exact unwind_le _ _ _ _ _ _
theorem look_le (p:Program) (gs:Array Goroutine) (rest:Rest) (w:World):∀ m',look p gs rest w = .next m'→w.drawn≤m'.world.drawn:=by
 intro m' h
 unfold look at h
 simp only [] at h
 split at h
 · split at h
   · cases h
   · split at h
     · cases h
     · split at h
       · rename_i hr
         have:=run_le hr
         cases h
         exact this
       · cases h
       · cases h
 · cases h
theorem communicate_le (p:Program) (rest:Rest) (gs:Array Goroutine) (i:Nat) (g:Goroutine) (cases:Array CommCase) (blocking:Bool)
 (shape:CommShape) (w:World) (m':Machine) (h:(communicate p rest gs i g cases blocking shape w).1 = .next m'):w.drawn≤m'.world.drawn:=by
 unfold communicate at h
 simp only [] at h
 have wa:∀ w',waitingAt rest cases w=some w'→w'.drawn=w.drawn:=by
  intro w' hw
  unfold waitingAt at hw
  split at hw
  · split at hw
    · cases hw; rfl
    · cases hw
  · cases hw; rfl
 split at h
 · cases h
 · split at h
   · split at h
     · split at h
       · rename_i hw
         cases h
         exact Nat.le_of_eq (wa _ hw).symm
       · cases h
     · cases h; exact Nat.le_refl _
   · split at h
     · cases h
     · rename_i hp
       have hq:=run_le hp
       split at h
       · split at h
         · rename_i hb
           have:=run_leH hb
           cases h; exact Nat.le_trans hq this
         · cases h
       · cases h; exact hq
       · cases h; exact hq
       · split at h
         · cases h; exact hq
         · split at h
           · rename_i hb
             have:=run_le hb
             cases h; exact Nat.le_trans hq this
           · cases h
       · cases h; exact hq
       · cases h; exact hq
       · cases h
theorem serve_le (p:Program) (m:Machine) (k:Nat) (m':Machine) (h:serve p m k = .next m'):m'.world.drawn=m.world.drawn:=by
 unfold serve at h
 simp only [] at h
 repeat' first
  | (simp at h; done)
  | (simp only [Stepped.next.injEq] at h; subst h; rfl)
  | split at h
theorem retime_le (m:Machine) (k:Nat) (t:Timer) (a b:Nat):(retime m k t a b).2.world.drawn=m.world.drawn:=by
 unfold retime
 split
 · rename_i h
   split at h
   · unfold drain at h
     split at h
     · cases h; rfl
     · cases h; rfl
   · cases h; rfl
theorem timerOp_le (m:Machine) (op:TimerOp) (v:Value) (m':Machine) (h:timerOp m op = .ok (v,m')):m'.world.drawn=m.world.drawn:=by
 have op_le:∀ var m1,timerOp.opened m var=some m1→m1.world.drawn=m.world.drawn:=by
  intro var m1 h
  unfold timerOp.opened at h
  split at h
  · split at h
    · cases h; rfl
    · cases h
  · cases h; rfl
 have na:∀ var (f:Nat→Timer→Value × Machine) (d:Nat) ,(∀ k t,(f k t).2.world.drawn=d)→timerOp.named m var f = .ok (v,m')→m'.world.drawn=d:=by
  intro var f d hf h
  unfold timerOp.named at h
  split at h
  · injection h with h
    have:=hf ‹Nat› (m.rest.timers.getD ‹Nat› default)
    rw [h] at this
    exact this
  · cases h
 unfold timerOp at h
 split at h
 · split at h
   · cases h; rfl
   · split at h
     · split at h
       · cases h
       · cases h; rfl
     · cases h
 · exact na _ _ _ (fun k t=>retime_le _ _ _ _ _) h
 · split at h
   · rename_i ho
     refine (na _ _ _ (fun k t=>retime_le _ _ _ _ _) h).trans (op_le _ _ ho)
   · cases h
 · cases h; rfl
theorem runT_le (p:Program) (m m':Machine) (i:Nat) (b:Bool) (h:(runT p m i b).1 = .next m'):m.world.drawn≤m'.world.drawn:=by
 simp only [runT] at h
 revert h
 generalize m.gs.swapAt! _ _=gg
 have hs:=stepG_le p (i == 0) gg.1 m.world b
 revert hs
 generalize stepG p _ gg.1 m.world b=s
 intro hs h
 cases s<;>simp only [wld] at hs<;>simp only [] at h
 all_goals first
  | (simp at h; done)
  | exact Nat.le_trans hs (communicate_le _ _ _ _ _ _ _ _ _ _ h)
  | exact Nat.le_trans hs (look_le _ _ _ _ _ h)
  | (simp only [Stepped.next.injEq] at h; subst h; exact hs)
  | skip
 · split at h
   · cases h
   · cases h; exact hs
 · split at h
   · rename_i ht
     cases h
     exact Nat.le_trans hs (Nat.le_of_eq (timerOp_le _ _ _ _ ht).symm)
   · split at h
     · rename_i hd
       cases h
       simp only [endThrow,dieOf] at hd
       cases hd
       exact hs
     · cases h
   · cases h
   · cases h
 · split at h
   · cases h; exact hs
   · split at h
     · rename_i hd
       cases h
       simp only [endThrow,dieOf] at hd
       cases hd
       exact hs
     · cases h
   · cases h
theorem endm_le {s:GStep}:∀ (m':Machine) (o:Array MemOp),(match s with
          | .ended o w _=>Move.machine (.ended o w) #[]
          | _=>.machine (.ended (.stuck "" "") default) #[]) = .machine (.next m') o→False:=by
 intro m' o h
 split at h<;>cases h
theorem endm_leg {s:GStep}:∀ (m':Machine) (i:Nat),(match s with
          | .ended o w _=>Move.machine (.ended o w) #[]
          | _=>.machine (.ended (.stuck "" "") default) #[]) = .goroutine m' i→False:=by
 intro m' o h
 split at h<;>cases h
theorem askOn_le (p:Program) (m:Machine):(∀ m' i,askOn p m = .goroutine m' i→m.world.drawn≤m'.world.drawn)∧∀ m' o,askOn p m = .machine (.next m') o→m.world.drawn≤m'.world.drawn:=by
 unfold askOn
 simp only []
 split
 · exact ⟨fun _ _ h=>(by cases h),fun _ _ h=>(by cases h)⟩
 · rename_i h0
   have d0:=run_le h0
   split
   · refine ⟨fun _ _ h=>(by cases h),fun m' o h=>?_⟩
     simp only [Move.machine.injEq] at h
     have:=serve_le _ _ _ _ h.1
     rw [this]; exact d0
   · split
     · split
       · refine ⟨fun _ _ h=>(by cases h),fun m' o h=>?_⟩
         cases h; exact d0
       · split
         · refine ⟨fun _ _ h=>(by cases h),fun m' o h=>?_⟩
           cases h; exact d0
         · exact ⟨fun _ _ h=>(endm_leg _ _ h).elim,fun _ _ h=>(endm_le _ _ h).elim⟩
     · split
       · split
         · exact ⟨fun _ _ h=>(by cases h),fun _ _ h=>(by cases h)⟩
         · rename_i h2
           have d2:=Nat.le_trans d0 (run_le h2)
           split
           · exact ⟨fun _ _ h=>(by cases h; exact d2),fun _ _ h=>(by cases h)⟩
           · split
             · exact ⟨fun _ _ h=>(by cases h),fun _ _ h=>(by cases h)⟩
             · rename_i h3
               have d3:=Nat.le_trans d2 (run_le h3)
               exact ⟨fun _ _ h=>(by cases h; exact d3),fun _ _ h=>(by cases h)⟩
       · split
         · exact ⟨fun _ _ h=>(by cases h),fun _ _ h=>(by cases h)⟩
         · rename_i h1
           have d1:=Nat.le_trans d0 (run_le h1)
           split
           · exact ⟨fun _ _ h=>(by cases h),fun _ _ h=>(by cases h)⟩
           · rename_i h2
             have d2:=Nat.le_trans d1 (run_le h2)
             split
             · exact ⟨fun _ _ h=>(by cases h; exact d2),fun _ _ h=>(by cases h)⟩
             · split
               · exact ⟨fun _ _ h=>(by cases h),fun _ _ h=>(by cases h)⟩
               · rename_i h3
                 have d3:=Nat.le_trans d2 (run_le h3)
                 exact ⟨fun _ _ h=>(by cases h; exact d3),fun _ _ h=>(by cases h)⟩
         · rename_i h1
           have d1:=Nat.le_trans d0 (run_le h1)
           refine ⟨fun _ _ h=>(by cases h),fun m' o h=>?_⟩
           cases h; exact d1
         · rename_i h1
           have d1:=Nat.le_trans d0 (run_le h1)
           split
           · exact ⟨fun _ _ h=>(by cases h),fun _ _ h=>(by cases h)⟩
           · rename_i h2
             have d2:=Nat.le_trans (show m.world.drawn≤(Machine.advanceTo { m with world:=_ } _).world.drawn from d1) (run_le h2)
             split
             · exact ⟨fun _ _ h=>(by cases h; exact d2),fun _ _ h=>(by cases h)⟩
             · split
               · exact ⟨fun _ _ h=>(by cases h),fun _ _ h=>(by cases h)⟩
               · rename_i h3
                 have d3:=Nat.le_trans d2 (run_le h3)
                 exact ⟨fun _ _ h=>(by cases h; exact d3),fun _ _ h=>(by cases h)⟩
theorem ask_le (p:Program) (m:Machine):(∀ m' i,ask p m = .goroutine m' i→m.world.drawn≤m'.world.drawn)∧∀ m' o,ask p m = .machine (.next m') o→m.world.drawn≤m'.world.drawn:=by
 unfold ask
 split
 · split
   · exact ⟨fun _ _ h=>(by cases h),fun _ _ h=>(by cases h)⟩
   · rename_i h0
     have d0:=run_le h0
     split
     · rename_i hl
       have d1:=Nat.le_trans d0 (look_le _ _ _ _ _ hl)
       have:=askOn_le p ‹Machine›
       exact ⟨fun m' i h=>Nat.le_trans d1 (this.1 m' i h),fun m' o h=>Nat.le_trans d1 (this.2 m' o h)⟩
     · rename_i hn
       refine ⟨fun _ _ h=>(by cases h),fun m' o h=>?_⟩
       simp only [Move.machine.injEq] at h
       exact (hn _ h.1).elim
   · rename_i h0
     have d0:=run_le h0
     have:=askOn_le p { m with world:=‹World› }
     exact ⟨fun m' i h=>Nat.le_trans d0 (this.1 m' i h),fun m' o h=>Nat.le_trans d0 (this.2 m' o h)⟩
 · exact askOn_le p m
theorem move_le (p:Program) (m:Machine):(∀ m' i,move p m = .goroutine m' i→m.world.drawn≤m'.world.drawn)∧∀ m' o,move p m = .machine (.next m') o→m.world.drawn≤m'.world.drawn:=by
 unfold move
 split
 · split
   · exact ⟨fun _ _ h=>(by cases h; exact Nat.le_refl _),fun _ _ h=>(by cases h)⟩
   · exact ⟨fun _ _ h=>(by cases h),fun _ _ h=>(by cases h)⟩
 · split
   · split
     · exact ⟨fun _ _ h=>(by cases h; exact Nat.le_refl _),fun _ _ h=>(by cases h)⟩
     · exact ask_le p _
   · exact ask_le p _
theorem step_le {p:Program} {m m':Machine} (h:step p m = .next m'):m.world.drawn≤m'.world.drawn:=by
 unfold step stepT at h
 split at h
 · rename_i hm
   exact Nat.le_trans ((move_le p m).1 _ _ hm) (runT_le _ _ _ _ _ h)
 · rename_i hm
   simp only [] at h
   subst h
   exact (move_le p m).2 _ _ hm
theorem steps_le {p:Program} {m m':Machine} (h:Steps p m m'):m.world.drawn≤m'.world.drawn:=by
 obtain ⟨n,hn⟩:=h
 induction n generalizing m with
 | zero=>simp only [runN] at hn; cases hn; exact Nat.le_refl _
 | succ n ih =>
  simp only [runN] at hn
  split at hn
  · rename_i hs
    exact Nat.le_trans (step_le hs) (ih hn)
  · rename_i hs
    exact (hs _ hn).elim
theorem _root_.Go.Calls.drawn {P:Program} {f:FuncId} {args:Array Value} {w:World} {R:Ending→World→Prop} (h:Calls P f args w R):Calls P f args w fun e w'=>R e w'∧(e = .outgrown∨w.drawn≤w'.drawn):=by
 intro cs
 obtain ⟨e,w',fr,r,s,x⟩:=h cs
 refine ⟨e,w',fr,⟨r,?_⟩,s,x⟩
 cases e with
 | returned v=>exact .inr (steps_le s)
 | panicked c=>exact .inr (steps_le s)
 | outgrown=>exact .inl rfl
end Go.Am


namespace Go.Am
open Go
section
variable {P:Program} {G:Nat→Option (List AV)}
theorem frzBox_step {V:View} {b j:Nat} {cells:List AV} {x y:AV} {z:List (List AV)} {H1:List AObj} {ps:List Prop} (hG:HeapRep G V) (hb:V.H[b]? = some (.box cells)) (hb1:H1[b]? = some (.box cells)) (hj:cells[j]? = some x)
 (ha:evalFrz V.H x z=some (y,H1,ps)) (hps:AllP ps):∃ V':View,V'.w=V.w∧V'.H=H1.set b (.box (cells.set j y))∧Step V V'∧HeapRep G V':=by
 obtain ⟨t,vs,h1,h2⟩:=hG.obj b _ hb
 have hjl:=(List.getElem?_eq_some_iff.1 hj).1
 have hx:Rep V x (vs.getD j undef):=by
  have:=h2.2 j hjl
  rwa [show cells.getD j .dead=x by rw [List.getD_eq_getElem?_getD,hj]; rfl] at this
 obtain ⟨V1,k1,k2,k3,k4,k5⟩:=frz_sound ha hps hG hx
 have hob:=k4.obj b _ (by rw [k2]; exact hb1)
 obtain ⟨t',vs',o1,o2⟩:=hob
 have hρ:V1.ρ b=V.ρ b:=by
  have hlt:=(List.getElem?_eq_some_iff.1 hb).1
  have:=k3.obj b hlt
  unfold ObjStep at this
  rw [hb,k2,hb1] at this
  exact this
 have hev:vs'=vs:=by
  rw [hρ,k1,h1] at o1
  injection o1 with o1
  injection o1 with o1
  simpa using o1.symm
 subst hev
 have hr:Reps V1 (cells.set j y) vs':=by
  have:=o2.set j k5
  have e:vs'.set j (vs'.getD j undef)=vs':=by
   apply List.ext_getElem?
   intro i
   rw [List.getElem?_set]
   split
   · rename_i e; subst e
     have:j<vs'.length:=by rw [o2.1]; exact hjl
     rw [if_pos this,List.getD_eq_getElem?_getD,List.getElem?_eq_getElem this]; rfl
   · rfl
  rwa [e] at this
 obtain ⟨V2,l1,l2,l3,l4⟩:=step_set (obj:=.box cells) (obj':=.box (cells.set j y)) (w':=V1.w) k4 (by rw [k2]; exact hb1) rfl o1 o1 rfl (fun _ _=>rfl) rfl rfl rfl rfl trivial (fun V' hw hs=>⟨t',vs',by rw [hw]; exact o1,hr.step hs⟩)
 exact ⟨V2,l1.trans k1,by rw [l2,k2],k3.trans l3,l4⟩
theorem RunL.frzBox {r:Option Nat} {n0:Nat} {c:Code} {s s':St} {ex:AEx} {b j:Nat} {cells:List AV} {x y:AV} {z:List (List AV)} {H1:List AObj} {ps:List Prop} (h:RunL P G r n0 c s ex s') (hb:s'.H[b]? = some (.box cells)) (hb1:H1[b]? = some (.box cells)) (hj:cells[j]? = some x)
 (ha:evalFrz s'.H x z=some (y,H1,ps)) (hps:AllP ps):RunL P G r n0 c s ex { env:=s'.env,H:=H1.set b (.box (cells.set j y)),defs:=s'.defs } :=
 fun V0 V a h0 k1 k2 k3=>LoopIn.mono (h V0 V a h0 k1 k2 k3) fun _ _ _ hE=>by
  obtain ⟨V1,rfl,l1,l2,l3,l4⟩:=hE
  obtain ⟨V2,a1,a2,a3,a4⟩:=frzBox_step l2 (l3.H ▸ hb) hb1 hj (l3.H ▸ ha) hps
  exact ⟨V2,a1,l1.trans a3,a4,⟨l3.env.step a3,a2,l3.defs.step a3⟩,l4.step a3⟩
end
end Go.Am


namespace Go.Am
open Go
section
variable {P:Program} {G:Nat→Option (List AV)}
theorem nil_nil:([]:List (List AV))=[]:=rfl
end
end Go.Am


namespace Go.Am
open Go
section
variable {P:Program} {G:Nat→Option (List AV)}
def Code.hd:Code→Code
 | .seq x _=>x
 | c=>c
def Code.tl:Code→Code
 | .seq _ y=>y
 | c=>c
def PieceC (P:Program) (G:Nat→Option (List AV)) (r:Option Nat) (n0:Nat) (c:Code) (s s2:St):Prop :=
 ∀ (V0 V:View) (a:Act) (K:Act→World→Prop) (Q:Exit→Act→World→Prop),V0.H.length=n0→Step V0 V→HeapRep G V→StOk V s a →
  (∀ V2 a2,Step V0 V2→HeapRep G V2→StOk V2 s2 a2→K a2 V2.w)→c.wpIn (fz r) 0 P (Exit.then K Q) a V.w
theorem piece_of_run {r:Option Nat} {n0:Nat} {c:Code} {s s2:St} {ps:List Prop} (orc:List Orc) (dead:List Nat) (n:Nat) (h:loopStep P G r n0 c s orc dead n=some (s2,ps)) (hps:AllP ps):PieceC P G r n0 c s s2:=by
 intro V0 V a K Q h0 hs hG hok next
 unfold loopStep at h
 split at h
 · rename_i s1 orc1 qs h1
   split at h
   · rename_i s3 rs h2
     cases h
     obtain ⟨hq,hr⟩:=allP_append.1 hps
     refine Go.wpIn_mono (runC_sound c h1 hq V0 V a h0 hs hG hok) ?_
     refine Ends.after fun V1 a1 k1 k2 k3=>?_
     obtain ⟨V2,l1,l2,l3,l4⟩:=weak_sound h2 hr h0 k1 k2 k3
     rw [← l1]
     exact next V2 a1 l2 l3 l4
   · cases h
 · cases h
theorem piece_of {r:Option Nat} {n0:Nat} {c:Code} {s s2:St} (l:List Itm) (dead:List Nat) (n:Nat) (h:loopStep P G r n0 c s (orcsOf l) dead n=some (s2,propsOf l)):PieceC P G r n0 c s s2:=piece_of_run _ dead n h (propsAll l)
theorem PieceC.seq {r:Option Nat} {n0:Nat} {x y:Code} {s s2:St} (h:PieceC P G r n0 x s s2) {V0 V:View} {a:Act} {Q:Exit→Act→World→Prop} (h0:V0.H.length=n0) (hs:Step V0 V) (hG:HeapRep G V) (hok:StOk V s a)
 (next:∀ V2 a2,Step V0 V2→HeapRep G V2→StOk V2 s2 a2→y.wpIn (fz r) 0 P Q a2 V2.w):(Code.seq x y).wpIn (fz r) 0 P Q a V.w:=Go.wpIn_seq (h V0 V a (fun a w=>y.wpIn (fz r) 0 P Q a w) Q h0 hs hG hok next)
theorem runD_pre {ops:Array Oper} {Q:Exit→Act→World→Prop}:∀ {os1 os2:List Oper} {r:Option Nat} {i:Nat} {env:List AV} {H:List AObj} {ds:List ADef} {orc:List Orc} {env':List AV} {H':List AObj} {ds':List ADef} {orc':List Orc} {ps:List Prop},
 runD P G r ops i os1 env H ds orc=some (.normal,env',H',ds',orc',ps)→AllP ps→ops.toList.drop i=os1++os2→∀ {V:View} {a:Act},HeapRep G V→V.H=H→EnvOk V env a→DefsRep V ds a.defers →
 (∀ V' a',Step V V'→HeapRep G V'→V'.H=H'→EnvOk V' env' a'→DefsRep V' ds' a'.defers→wpOpsIn (fz r) 0 P ops Q ((List.range ops.size).drop (i+os1.length)) a' V'.w) →
 wpOpsIn (fz r) 0 P ops Q ((List.range ops.size).drop i) a V.w
 | [],os2,r,i,env,H,ds,orc,env',H',ds',orc',ps,h,hps,hos,V,a,hG,hH,he,hd,n1=>by
  simp only [runD,Option.some.injEq,Prod.mk.injEq] at h
  obtain ⟨_,rfl,rfl,rfl,_,_⟩:=h
  exact n1 V a (Step.refl V) hG hH he hd
 | o::os,os2,r,i,env,H,ds,orc,env',H',ds',orc',ps,h,hps,hos,V,a,hG,hH,he,hd,n1=>by
  have hlt:i<ops.size:=by
   rcases Nat.lt_or_ge i ops.size with h | h
   · exact h
   · rw [List.drop_eq_nil_of_le (by simpa using h)] at hos; cases hos
  have hlt':i<ops.toList.length:=by simpa using hlt
  rw [List.drop_eq_getElem_cons hlt',List.cons_append] at hos
  injection hos with ho hos'
  have ho':ops[i]? = some o:=by rw [← ho]; simp [hlt]
  have hr:(List.range ops.size).drop i=i::(List.range ops.size).drop (i+1):=by
   rw [List.drop_eq_getElem_cons (by simpa using hlt)]; simp
  rw [hr,wpOpsIn_cons]
  have e1:i+(o::os).length=(i+1)+os.length:=by rw [List.length_cons]; omega
  rw [e1] at n1
  have key:=fun {k:Kind} {out:AOut} {H1:List AObj} {orc1:List Orc} {qs:List Prop} (hst:stepA P G ops (guards ops i) env H o orc=some (k,out,H1,orc1,qs)) (hq:AllP qs)=>stepA_sound (r:=r) (a:=a) ho' hst hq hG (fun t _=>he.get t) (.inl hH)
  unfold runD at h
  split at h
  · rename_i c hop hgd hdst
    split at h
    · rename_i d hdf
      obtain ⟨dd,k1,k2⟩:=deferA_sound (P:=P) hG he hdf o.type
      unfold wpOpIn
      rw [ho']
      have hw:Region.wanted o (yielded ops a.tmps)=true:=by unfold Region.wanted; rw [hgd]
      simp only [hw,if_true]
      refine ⟨fun _ _=>trivial,?_⟩
      have hrun:(execOp a.eval o).run P V.w = .ok (.defer dd) V.w:=by
       rw [execOp,hop]
       simp only [Sem.run_bind,k1,Result.andThen,Sem.run_pure]
      show o.uponIn _ _ P a _ Q ((Oper.semAt none a.eval o).run P V.w)
      rw [Oper.semAt_none,hrun,Oper.uponIn_defer,hdst]
      exact runD_pre h hps hos' (a:={ a with defers:=dd::a.defers }) hG hH he (.cons k2 hd) n1
    · cases h
  · split at h
    · rename_i k x H1 orc1 qs hst
      split at h
      · rename_i ex1 env1 H2 ds1 orc2 rs hrec
        cases h
        obtain ⟨hq,hrs⟩:=allP_append.1 hps
        obtain ⟨h1,h2⟩:=key hst hq
        refine h1 _ Q (fun V' v x' hx hs hG' hH' hrep=>?_) (fun V' v x' hx=>by cases hx)
        cases hx
        have hH1:V'.H=H1:=by
         rw [hH']
         split
         · rename_i hk; rw [hH,h2 (by rw [hk]; simp)]
         · rfl
        have he':=(he.step hs).put o.dst hrep
        exact runD_pre hrec hrs hos' hG' hH1 he' (by rw [put_def]; exact hd.step hs)
         (fun V2 a2 s2 g2 hh2 e2 d2=>n1 V2 a2 (hs.trans s2) g2 hh2 e2 d2)
      · cases h
    · rename_i k x H1 orc1 qs hst
      cases h
    · cases h
theorem callV_wp {ops:Array Oper} {r:Option Nat} {Q:Exit→Act→World→Prop} {i:Nat} {rest:List Nat} {o:Oper} {g:Operand} {args:Array Operand} {ts:Array TypeId} {f:FuncId} {fn:Func} {us vs:Array Value} {a:Act} {w:World} {R:Ending→World→Prop}
 (ho:ops[i]? = some o) (hgd:o.guard=none) (hop:o.op = .call { callee:=.value g,args:=args,argTypes:=ts }) (hfn:P.funcs[f]? = some fn) (hok:funcOk P f=true) (hg:a.eval g = .func (.func f) us vs)
 (hc:CallsIn Fence.wide 0 P f (us++args.map a.eval++vs) w R) (next:∀ e w',R e w'→∃ v,e = .returned v∧wpOpsIn (fz r) 0 P ops Q rest (a.put o.dst v) w'):wpOpsIn (fz r) 0 P ops Q (i::rest) a w:=by
 rw [wpOpsIn_cons]
 unfold wpOpIn
 rw [ho]
 have hw:Region.wanted o (yielded ops a.tmps)=true:=by unfold Region.wanted; rw [hgd]
 simp only [hw,if_true]
 refine ⟨fun _ _=>trivial,?_⟩
 have hrun:(execOp a.eval o).run P w = .ok (.enter f (us++args.map a.eval++vs)) w:=by
  unfold funcOk at hok
  rw [hfn] at hok
  simp only [Bool.and_eq_true,Bool.not_eq_true',beq_eq_false_iff_ne,ne_eq] at hok
  obtain ⟨c,hb⟩:=Option.isSome_iff_exists.1 hok.1
  rw [execOp,hop]
  simp [resolve,Deferred.ofValue,hg,invoke,callFunc,hfn,hok.2,hb]
 rw [Oper.semAt_eq _ _ _ (fun c hc=>by rw [hop] at hc; cases hc),hrun]
 refine ⟨fun h=>(by cases h),(callsIn_fz r hc).mono fun e w' he=>?_⟩
 obtain ⟨v,rfl,h⟩:=next e w' he
 exact h
theorem ends_goes {V:View} {fn:Func} {ex:AEx} {s:St} {orc1:List Orc} {out:AOut} {H':List AObj} {ps:List Prop} (hfin:finF P G V.H.length fn ex s orc1=some (out,H',ps)) (hr:AllP ps):∀ e a' w',Ends G V ex s e a' w'→bodyPostM Fence.wide 0 P fn (Goes G V H' out) e a' w':=by
 intro e a' w' hE
 obtain ⟨V1,rfl,k1,k2,k3,k4⟩:=hE
 obtain ⟨m,hm,hmr⟩:∃ m u,ex.mode=some m∧ModeRep V1 m u∧(LeavesInM Fence.wide 0 P fn a'.tmps (Goes G V H' out) a'.defers u V1.w→bodyPostM Fence.wide 0 P fn (Goes G V H' out) e a' V1.w):=by
  cases ex<;>cases e<;>first | exact k4.elim | skip
  · exact ⟨_,.returning,rfl,rfl,id⟩
  · simp [finF,AEx.mode] at hfin
  · simp [finF,AEx.mode] at hfin
  · exact ⟨_,.returning,rfl,rfl,id⟩
  · obtain ⟨v,rfl,hv⟩:=k4
    exact ⟨_,_,rfl,⟨v,rfl,hv⟩,id⟩
 obtain ⟨hmode,hmr,hgo⟩:=hmr
 refine hgo ?_
 unfold finF at hfin
 rw [hmode] at hfin
 simp only at hfin
 split at hfin
 · rename_i y H2 qs2 hlv
   split at hfin
   · rename_i xs hres
     split at hfin
     · rename_i H3 qs3 hcut
       cases hfin
       obtain ⟨hr1,hr2⟩:=allP_append.1 hr
       refine leave_sound (V0:=V) rfl (by rw [k3.H]; exact hlv) hr1 k1 k2 k3.defs hmr fun V2 u2 s2 t2 g2 h2 m2=>?_
       rw [show u2 = .returning from m2]
       obtain ⟨us,m1,m2⟩:=resA_sound (a:=a') g2 ⟨k3.env.1,fun j hj=>t2 _ _ (k3.env.2 j hj)⟩ (by rw [h2]; exact hres)
       obtain ⟨V3,n1,n2,n3,n4,n5⟩:=cutF_sound (V0:=V) (by rw [h2]; exact hcut) hr2 rfl s2 g2 (outA_rep m2)
       refine ⟨_,?_,V3,n1,n2,n3,n4,n5⟩
       unfold results
       rw [Array.mapM_eq_mapM_toList]
       simp only [Sem.run_bind,Sem.run_map,Result.andThen,Sem.run_pure]
       generalize hz:Sem.run P (List.mapM _ fn.results.toList) V2.w=z
       have hz2:z=Result.ok us V2.w:=hz.symm.trans m1
       subst hz2
       rfl
     · cases hfin
   · cases hfin
 · rename_i x H2 qs2 hlv
   split at hfin
   · rename_i H3 qs3 hcut
     cases hfin
     obtain ⟨hr1,hr2⟩:=allP_append.1 hr
     refine leave_sound (V0:=V) rfl (by rw [k3.H]; exact hlv) hr1 k1 k2 k3.defs hmr fun V2 u2 s2 t2 g2 h2 m2=>?_
     obtain ⟨v,rfl,hv⟩:=m2
     obtain ⟨V3,n1,n2,n3,n4,n5⟩:=cutF_sound (V0:=V) (by rw [h2]; exact hcut) hr2 rfl s2 g2 hv
     exact ⟨V3,n1,n2,n3,n4,v,rfl,n5⟩
   · cases hfin
 · cases hfin
end
end Go.Am
