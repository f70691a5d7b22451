import Derived.Test.YtefamlckjpbcoaaG18
import Derived.Lone
import Derived.RunT
import Derived.CallsIn
set_option maxRecDepth 100000
set_option linter.unusedSimpArgs false
set_option linter.unusedVariables false
/- THE ABSTRACT MACHINE, 36: no run lowers the count of draws. -/
namespace Go.Am
open Go

theorem ask_drawn {α : Type} : ∀ (m : Ask α) (w : World), w.drawn ≤ (w.ask m).2.drawn
  | .done a, w => Nat.le_refl _
  | .ask what range k, w => by
    unfold World.ask
    simp only
    split
    · exact ask_drawn (k 0) w
    · exact Nat.le_trans (Nat.le_succ w.drawn) (ask_drawn (k _) { w with drawn := w.drawn + 1 })
theorem sys_drawn (w : World) (c : Sys) : w.drawn ≤ (w.sys c).2.drawn := by
  have h := ask_drawn (Kernel.perform c w.os) w
  unfold World.sys
  generalize w.ask (Kernel.perform c w.os) = x at h
  obtain ⟨⟨r, os⟩, w'⟩ := x
  cases r <;> first | exact Nat.le_refl _ | exact h
theorem viewStore_drawn {p : Program} {w : World} {a : Addr} {u : TypeId} {k : Addr} {v : Value} {at_ : Bool} {r : World × List Addr} (h : w.viewStore p a u k v at_ = .ok r) : r.1.drawn = w.drawn := by
  unfold World.viewStore at h
  simp only [bind, Except.bind, pure, Except.pure, throw, throwThe, MonadExceptOf.throw] at h
  repeat' first
    | (cases h; done)
    | (cases h; rfl)
    | split at h
theorem farStore_drawn {p : Program} {w : World} {a : Addr} {v : Value} {at_ : Bool} {r : World × List Addr} (h : w.farStore p a v at_ = .ok r) : r.1.drawn = w.drawn := by
  unfold World.farStore at h
  split at h
  · split at h
    · rename_i hv
      cases h
      exact viewStore_drawn hv
    · cases h
  · cases h

def _root_.Go.Result.wo {α : Type} : Result α → World
  | .ok _ w => w
  | .halt _ w => w
theorem freeze_drawn (w : World) (a : Addr) (n : Nat) : (w.freeze a n).drawn = w.drawn := by
  unfold World.freeze
  split <;> rfl
theorem run_drawn {α : Type} (p : Program) : ∀ (m : Sem α) (w : World), w.drawn ≤ (m.run p w).wo.drawn := by
  intro m
  induction m with
  | pure a => exact fun w => Nat.le_refl _
  | load m a k ih =>
    intro w
    simp only [Sem.run]
    split
    · exact ih _ w
    · split
      · exact ih _ w
      · exact Nat.le_refl _
  | store m a v k ih =>
    intro w
    have key : ∀ r : Result α, r = (match w.cell? a with
        | some _ => if w.frozen? a then .halt (.unsupported (.unsafePointer "a write to bytes that a string shares")) w else k.run p (w.setCell a v)
        | none => match w.farStore p a v (m == .atomic) with
          | .ok (w, _) => k.run p w
          | .error h => .halt h w) → w.drawn ≤ r.wo.drawn := by
      intro r hr
      split at hr
      · split at hr
        · rw [hr]; exact Nat.le_refl _
        · rw [hr]; exact ih (w.setCell a v)
      · split at hr
        · rename_i hf
          have := farStore_drawn hf
          rw [hr]
          exact Nat.le_trans (Nat.le_of_eq this.symm) (ih _)
        · rw [hr]; exact Nat.le_refl _
    cases v with
    | agg _ => exact Nat.le_refl _
    | tuple _ => exact Nat.le_refl _
    | _ => exact key _ rfl
  | new o k ih => exact fun w => ih _ { w with heap := w.heap.push o }
  | shape r k ih => exact fun w => ih _ w
  | freeze a n k ih => intro w; have := ih (w.freeze a n); rw [freeze_drawn] at this; exact this
  | frozen a k ih => exact fun w => ih _ w
  | getObj r k ih =>
    intro w
    simp only [Sem.run]
    split
    · exact Nat.le_refl _
    · exact ih _ w
    · exact Nat.le_refl _
  | setObj r o k ih =>
    intro w
    simp only [Sem.run]
    split
    · exact Nat.le_refl _
    · exact ih { w with heap := w.heap.setIfInBounds r o }
    · exact Nat.le_refl _
  | choose q k ih =>
    intro w
    simp only [Sem.run]
    split
    · exact ih _ w
    · exact Nat.le_trans (Nat.le_succ _) (ih _ { w with drawn := w.drawn + 1 })
  | sys c k ih => exact fun w => Nat.le_trans (sys_drawn w c) (ih _ _)
  | program k ih => exact fun w => ih _ w
  | mark m k ih => exact fun w => ih w
  | halt h => exact fun w => Nat.le_refl _
theorem run_le {α : Type} {p : Program} {m : Sem α} {w w' : World} {a : α} (h : m.run p w = .ok a w') : w.drawn ≤ w'.drawn := by
  have := run_drawn p m w; rw [h] at this; exact this
theorem run_leH {α : Type} {p : Program} {m : Sem α} {w w' : World} {a : Halt} (h : m.run p w = .halt a w') : w.drawn ≤ w'.drawn := by
  have := run_drawn p m w; rw [h] at this; exact this
def wld : GStep → World
  | .go _ w _ => w
  | .comm _ _ _ _ w _ => w
  | .spawn _ _ w _ => w
  | .count _ w _ => w
  | .timer _ _ w _ => w
  | .alone _ _ w _ => w
  | .newcoro _ _ _ w _ => w
  | .coroswitch _ _ _ w _ => w
  | .collect _ w _ => w
  | .watch _ w _ => w
  | .ended _ w _ => w
theorem wld_after (es : Array Event) (s : GStep) : wld (s.after es) = wld s := by cases s <;> rfl

theorem doReturn_le (p : Program) (main : Bool) (fr : Frame) (cs : List Frame) (dy : Option Dying) (v : Value) (w : World) : (wld (doReturn p main fr cs dy v w)).drawn = w.drawn := by
  unfold doReturn
  simp only
  repeat' first
    | rfl
    | split
theorem endWith_le (w : World) (fd : Nat) (t : ByteArray) (o : Outcome) : w.drawn ≤ (wld (endWith w fd t o)).drawn := by
  have h := sys_drawn w (.write fd t)
  unfold endWith
  simp only
  generalize w.sys (.write fd t) = x at h
  obtain ⟨r, w'⟩ := x
  cases r <;> simp only [] <;> first | exact h | (split <;> exact h)
theorem endPrinting_le (p : Program) (fr : Frame) (v : Value) (w : World) : (wld (endPrinting p fr v w)).drawn = w.drawn := by
  unfold endPrinting
  simp only
  split <;> rfl
theorem endFatal_le (p : Program) (fr : Frame) (cs : List Frame) (dy : Option Dying) (m : String) (w : World) : w.drawn ≤ (wld (endFatal p fr cs dy m w)).drawn := by
  unfold endFatal
  simp only
  split
  · rename_i h; exact run_le h
  · rename_i h; exact run_leH h
  · rename_i h; exact run_leH h
theorem writeOn_le (p : Program) (fr : Frame) (d : Dying) (f : Fatal) (w : World) : w.drawn ≤ (wld (writeOn p fr d f w)).drawn := by
  unfold writeOn
  simp only
  split
  · exact Nat.le_refl _
  · split
    all_goals
      rename_i h
      have h1 := congrArg Prod.fst h
      simp only [Sem.runT_fst] at h1
      first
        | exact run_le h1
        | exact run_leH h1
theorem die_le (p : Program) (fr : Frame) (d : Dying) (w : World) : w.drawn ≤ (wld (die p fr d w)).drawn := by
  unfold die
  split
  · exact writeOn_le _ _ _ _ _
  · split
    · split
      · exact Nat.le_refl _
      · exact endWith_le _ _ _ _
    · simp only
      split
      · exact Nat.le_refl _
      · split
        · rename_i h; exact run_le h
        · rename_i h; exact run_leH h
      · rw [wld_after]
        rw [Sem.runT_fst]
        split
        · rename_i h; exact run_le h
        · rename_i h; exact run_le h
        · rename_i h; exact run_leH h
        · rename_i h; rw [endPrinting_le]; exact run_leH h
        · exact Nat.le_refl _
      · exact Nat.le_refl _
theorem ite_le {c : Prop} [Decidable c] {a b : GStep} {n : Nat} (ha : n ≤ (wld a).drawn) (hb : n ≤ (wld b).drawn) : n ≤ (wld (if c then a else b)).drawn := by
  split <;> assumption
theorem callDeferred_le (p : Program) (fr : Frame) (cs : List Frame) (dy : Option Dying) (d : Deferred) (w : World) : w.drawn ≤ (wld (callDeferred p fr cs dy d w)).drawn := by
  unfold callDeferred
  refine ite_le (Nat.le_refl _) ?_
  · simp only [wld_after, Sem.runT_fst]
    cases h : (invoke d.target d.args).run p w with
    | ok a w' =>
      have := run_le h
      cases a <;> (try simp only []) <;> first
        | exact this
        | (rename_i x; cases x <;> exact this)
        | (rename_i x _; cases x <;> exact this)
        | (repeat' first | exact this | split)
    | halt a w' =>
      have := run_leH h
      cases a <;> (try simp only []) <;> first
        | exact this
        | exact Nat.le_trans this (endFatal_le _ _ _ _ _ _)
theorem unwind_le (p : Program) (main : Bool) (fr : Frame) (cs : List Frame) (dy : Option Dying) (w : World) : w.drawn ≤ (wld (unwind p main fr cs dy w)).drawn := by
  unfold unwind
  split
  · simp only [wld_after, Sem.runT_fst]
    split
    · rename_i h; exact run_le h
    · rename_i h; exact run_leH h
  · exact callDeferred_le _ _ _ _ _ _
  · split
    · exact Nat.le_refl _
    · split
      · exact Nat.le_refl _
      · split
        · exact Nat.le_refl _
        · split
          · split
            · exact Nat.le_refl _
            · split
              · rename_i h; exact run_le h
              · rename_i h; exact run_leH h
              · rename_i h; exact run_leH h
          · split
            · rw [endPrinting_le]; exact Nat.le_refl _
            · exact Nat.le_refl _
    · split
      · rw [doReturn_le]; exact Nat.le_refl _
      · simp only [wld_after, Sem.runT_fst]
        split
        · rename_i h; rw [doReturn_le]; exact run_le h
        · rename_i h; exact run_leH h
        · rename_i h; exact run_leH h
theorem early_le (p : Program) (fr : Frame) (cs : List Frame) (dy : Option Dying) (g : Nat) (w : World) : w.drawn ≤ (wld (early p fr cs dy g w)).drawn := by
  have hh : ∀ a w', Sem.run p (choose (.early g)) w = .ok a w' → w.drawn ≤ w'.drawn := fun _ _ h => run_le h
  have hH : ∀ a w', Sem.run p (choose (.early g)) w = .halt a w' → w.drawn ≤ w'.drawn := fun _ _ h => run_leH h
  unfold early
  simp only
  repeat' first
    | exact Nat.le_refl _
    | (have := hh _ _ (by assumption); exact this)
    | (have := hH _ _ (by assumption); exact this)
    | split
theorem apply_le (p : Program) (b : Bool) (fr : Frame) (cs : List Frame) (dy : Option Dying) (m : Sem Next) (w : World) : w.drawn ≤ (wld (stepG.apply p b fr cs dy m w)).drawn := by
  unfold stepG.apply
  simp only [wld_after]
  have e : ∀ es : Array Event, (if b = true then m.runT p w #[] else (m.run p w, #[])).1 = m.run p w := by
    intro _; split
    · exact Sem.runT_fst _ _ _ _
    · rfl
  rw [e #[]]
  cases h : m.run p w with
  | ok a w' =>
    have := run_le h
    cases a <;> (try simp only []) <;> first
      | exact this
      | (repeat' first | exact this | split)
  | halt a w' =>
    have := run_leH h
    cases a <;> (try simp only []) <;> first
      | exact this
      | exact Nat.le_trans this (endFatal_le _ _ _ _ _ _)
      | (rename_i u; cases u <;> first | exact this | exact Nat.le_trans this (early_le _ _ _ _ _ _))
theorem oper_le (p : Program) (b : Bool) (fr : Frame) (cs : List Frame) (dy : Option Dying) (w : World) : w.drawn ≤ (wld (stepG.oper p b fr cs dy w)).drawn := by
  unfold stepG.oper
  split
  · exact Nat.le_refl _
  · split <;> exact apply_le _ _ _ _ _ _ _
theorem elim_le {α : Type} {o : Option α} {a : GStep} {f : α → GStep} {n : Nat} (ha : n ≤ (wld a).drawn) (hb : ∀ x, n ≤ (wld (f x)).drawn) : n ≤ (wld (o.elim a f)).drawn := by
  cases o
  · exact ha
  · exact hb _
theorem exec_le (p : Program) (main : Bool) (b : Bool) (fr : Frame) (cs : List Frame) (dy : Option Dying) (w : World) : w.drawn ≤ (wld (stepG.exec p main b fr cs dy w)).drawn := by
  unfold stepG.exec
  simp only
  split
  all_goals repeat' first
    | with_reducible exact apply_le _ _ _ _ _ _ _
    | with_reducible exact oper_le _ _ _ _ _ _
    | with_reducible refine ite_le ?_ ?_
    | with_reducible refine elim_le ?_ ?_
    | intro _
    | (rw [wld_after, Sem.runT_fst]; split)
    | (rename_i h; rw [doReturn_le]; exact run_le h)
    | (rename_i h; exact Nat.le_trans (run_le h) (apply_le _ _ _ _ _ _ _))
    | split
    | exact Nat.le_refl _
    | (rename_i h; exact run_le h)
    | (rename_i h; exact run_leH h)
theorem stepG_le (p : Program) (main : Bool) (g : Goroutine) (w : World) (b : Bool) : w.drawn ≤ (wld (stepG p main g w b)).drawn := by
  unfold stepG
  simp only
  split
  · exact die_le _ _ _ _
  · exact exec_le _ _ _ _ _ _ _
  · exact unwind_le _ _ _ _ _ _
theorem look_le (p : Program) (gs : Array Goroutine) (rest : Rest) (w : World) : ∀ m', look p gs rest w = .next m' → w.drawn ≤ m'.world.drawn := by
  intro m' h
  unfold look at h
  simp only [] at h
  split at h
  · split at h
    · cases h
    · split at h
      · cases h
      · split at h
        · rename_i hr
          have := run_le hr
          cases h
          exact this
        · cases h
        · cases h
  · cases h
theorem communicate_le (p : Program) (rest : Rest) (gs : Array Goroutine) (i : Nat) (g : Goroutine) (cases : Array CommCase) (blocking : Bool)
    (shape : CommShape) (w : World) (m' : Machine) (h : (communicate p rest gs i g cases blocking shape w).1 = .next m') : w.drawn ≤ m'.world.drawn := by
  unfold communicate at h
  simp only [] at h
  have wa : ∀ w', waitingAt rest cases w = some w' → w'.drawn = w.drawn := by
    intro w' hw
    unfold waitingAt at hw
    split at hw
    · split at hw
      · cases hw; rfl
      · cases hw
    · cases hw; rfl
  split at h
  · cases h
  · split at h
    · split at h
      · split at h
        · rename_i hw
          cases h
          exact Nat.le_of_eq (wa _ hw).symm
        · cases h
      · cases h; exact Nat.le_refl _
    · split at h
      · cases h
      · rename_i hp
        have hq := run_le hp
        split at h
        · split at h
          · rename_i hb
            have := run_leH hb
            cases h; exact Nat.le_trans hq this
          · cases h
        · cases h; exact hq
        · cases h; exact hq
        · split at h
          · cases h; exact hq
          · split at h
            · rename_i hb
              have := run_le hb
              cases h; exact Nat.le_trans hq this
            · cases h
        · cases h; exact hq
        · cases h; exact hq
        · cases h
theorem serve_le (p : Program) (m : Machine) (k : Nat) (m' : Machine) (h : serve p m k = .next m') : m'.world.drawn = m.world.drawn := by
  unfold serve at h
  simp only [] at h
  repeat' first
    | (simp at h; done)
    | (simp only [Stepped.next.injEq] at h; subst h; rfl)
    | split at h
theorem retime_le (m : Machine) (k : Nat) (t : Timer) (a b : Nat) : (retime m k t a b).2.world.drawn = m.world.drawn := by
  unfold retime
  split
  · rename_i h
    split at h
    · unfold drain at h
      split at h
      · cases h; rfl
      · cases h; rfl
    · cases h; rfl
theorem timerOp_le (m : Machine) (op : TimerOp) (v : Value) (m' : Machine) (h : timerOp m op = .ok (v, m')) : m'.world.drawn = m.world.drawn := by
  have op_le : ∀ var m1, timerOp.opened m var = some m1 → m1.world.drawn = m.world.drawn := by
    intro var m1 h
    unfold timerOp.opened at h
    split at h
    · split at h
      · cases h; rfl
      · cases h
    · cases h; rfl
  have na : ∀ var (f : Nat → Timer → Value × Machine) (d : Nat) , (∀ k t, (f k t).2.world.drawn = d) → timerOp.named m var f = .ok (v, m') → m'.world.drawn = d := by
    intro var f d hf h
    unfold timerOp.named at h
    split at h
    · injection h with h
      have := hf ‹Nat› (m.rest.timers.getD ‹Nat› default)
      rw [h] at this
      exact this
    · cases h
  unfold timerOp at h
  split at h
  · split at h
    · cases h; rfl
    · split at h
      · split at h
        · cases h
        · cases h; rfl
      · cases h
  · exact na _ _ _ (fun k t => retime_le _ _ _ _ _) h
  · split at h
    · rename_i ho
      refine (na _ _ _ (fun k t => retime_le _ _ _ _ _) h).trans (op_le _ _ ho)
    · cases h
  · cases h; rfl
theorem runT_le (p : Program) (m m' : Machine) (i : Nat) (b : Bool) (h : (runT p m i b).1 = .next m') : m.world.drawn ≤ m'.world.drawn := by
  simp only [runT] at h
  revert h
  generalize m.gs.swapAt! _ _ = gg
  have hs := stepG_le p (i == 0) gg.1 m.world b
  revert hs
  generalize stepG p _ gg.1 m.world b = s
  intro hs h
  cases s <;> simp only [wld] at hs <;> simp only [] at h
  all_goals first
    | (simp at h; done)
    | exact Nat.le_trans hs (communicate_le _ _ _ _ _ _ _ _ _ _ h)
    | exact Nat.le_trans hs (look_le _ _ _ _ _ h)
    | (simp only [Stepped.next.injEq] at h; subst h; exact hs)
    | skip
  · split at h
    · cases h
    · cases h; exact hs
  · split at h
    · rename_i ht
      cases h
      exact Nat.le_trans hs (Nat.le_of_eq (timerOp_le _ _ _ _ ht).symm)
    · split at h
      · rename_i hd
        cases h
        simp only [endThrow, dieOf] at hd
        cases hd
        exact hs
      · cases h
    · cases h
    · cases h
  · split at h
    · cases h; exact hs
    · split at h
      · rename_i hd
        cases h
        simp only [endThrow, dieOf] at hd
        cases hd
        exact hs
      · cases h
    · cases h
theorem endm_le {s : GStep} : ∀ (m' : Machine) (o : Array MemOp), (match s with
          | .ended o w _ => Move.machine (.ended o w) #[]
          | _ => .machine (.ended (.stuck "" "") default) #[]) = .machine (.next m') o → False := by
  intro m' o h
  split at h <;> cases h
theorem endm_leg {s : GStep} : ∀ (m' : Machine) (i : Nat), (match s with
          | .ended o w _ => Move.machine (.ended o w) #[]
          | _ => .machine (.ended (.stuck "" "") default) #[]) = .goroutine m' i → False := by
  intro m' o h
  split at h <;> cases h
theorem askOn_le (p : Program) (m : Machine) : (∀ m' i, askOn p m = .goroutine m' i → m.world.drawn ≤ m'.world.drawn) ∧ ∀ m' o, askOn p m = .machine (.next m') o → m.world.drawn ≤ m'.world.drawn := by
  unfold askOn
  simp only []
  split
  · exact ⟨fun _ _ h => (by cases h), fun _ _ h => (by cases h)⟩
  · rename_i h0
    have d0 := run_le h0
    split
    · refine ⟨fun _ _ h => (by cases h), fun m' o h => ?_⟩
      simp only [Move.machine.injEq] at h
      have := serve_le _ _ _ _ h.1
      rw [this]; exact d0
    · split
      · split
        · refine ⟨fun _ _ h => (by cases h), fun m' o h => ?_⟩
          cases h; exact d0
        · split
          · refine ⟨fun _ _ h => (by cases h), fun m' o h => ?_⟩
            cases h; exact d0
          · exact ⟨fun _ _ h => (endm_leg _ _ h).elim, fun _ _ h => (endm_le _ _ h).elim⟩
      · split
        · split
          · exact ⟨fun _ _ h => (by cases h), fun _ _ h => (by cases h)⟩
          · rename_i h2
            have d2 := Nat.le_trans d0 (run_le h2)
            split
            · exact ⟨fun _ _ h => (by cases h; exact d2), fun _ _ h => (by cases h)⟩
            · split
              · exact ⟨fun _ _ h => (by cases h), fun _ _ h => (by cases h)⟩
              · rename_i h3
                have d3 := Nat.le_trans d2 (run_le h3)
                exact ⟨fun _ _ h => (by cases h; exact d3), fun _ _ h => (by cases h)⟩
        · split
          · exact ⟨fun _ _ h => (by cases h), fun _ _ h => (by cases h)⟩
          · rename_i h1
            have d1 := Nat.le_trans d0 (run_le h1)
            split
            · exact ⟨fun _ _ h => (by cases h), fun _ _ h => (by cases h)⟩
            · rename_i h2
              have d2 := Nat.le_trans d1 (run_le h2)
              split
              · exact ⟨fun _ _ h => (by cases h; exact d2), fun _ _ h => (by cases h)⟩
              · split
                · exact ⟨fun _ _ h => (by cases h), fun _ _ h => (by cases h)⟩
                · rename_i h3
                  have d3 := Nat.le_trans d2 (run_le h3)
                  exact ⟨fun _ _ h => (by cases h; exact d3), fun _ _ h => (by cases h)⟩
          · rename_i h1
            have d1 := Nat.le_trans d0 (run_le h1)
            refine ⟨fun _ _ h => (by cases h), fun m' o h => ?_⟩
            cases h; exact d1
          · rename_i h1
            have d1 := Nat.le_trans d0 (run_le h1)
            split
            · exact ⟨fun _ _ h => (by cases h), fun _ _ h => (by cases h)⟩
            · rename_i h2
              have d2 := Nat.le_trans (show m.world.drawn ≤ (Machine.advanceTo { m with world := _ } _).world.drawn from d1) (run_le h2)
              split
              · exact ⟨fun _ _ h => (by cases h; exact d2), fun _ _ h => (by cases h)⟩
              · split
                · exact ⟨fun _ _ h => (by cases h), fun _ _ h => (by cases h)⟩
                · rename_i h3
                  have d3 := Nat.le_trans d2 (run_le h3)
                  exact ⟨fun _ _ h => (by cases h; exact d3), fun _ _ h => (by cases h)⟩
theorem ask_le (p : Program) (m : Machine) : (∀ m' i, ask p m = .goroutine m' i → m.world.drawn ≤ m'.world.drawn) ∧ ∀ m' o, ask p m = .machine (.next m') o → m.world.drawn ≤ m'.world.drawn := by
  unfold ask
  split
  · split
    · exact ⟨fun _ _ h => (by cases h), fun _ _ h => (by cases h)⟩
    · rename_i h0
      have d0 := run_le h0
      split
      · rename_i hl
        have d1 := Nat.le_trans d0 (look_le _ _ _ _ _ hl)
        have := askOn_le p ‹Machine›
        exact ⟨fun m' i h => Nat.le_trans d1 (this.1 m' i h), fun m' o h => Nat.le_trans d1 (this.2 m' o h)⟩
      · rename_i hn
        refine ⟨fun _ _ h => (by cases h), fun m' o h => ?_⟩
        simp only [Move.machine.injEq] at h
        exact (hn _ h.1).elim
    · rename_i h0
      have d0 := run_le h0
      have := askOn_le p { m with world := ‹World› }
      exact ⟨fun m' i h => Nat.le_trans d0 (this.1 m' i h), fun m' o h => Nat.le_trans d0 (this.2 m' o h)⟩
  · exact askOn_le p m
theorem move_le (p : Program) (m : Machine) : (∀ m' i, move p m = .goroutine m' i → m.world.drawn ≤ m'.world.drawn) ∧ ∀ m' o, move p m = .machine (.next m') o → m.world.drawn ≤ m'.world.drawn := by
  unfold move
  split
  · split
    · exact ⟨fun _ _ h => (by cases h; exact Nat.le_refl _), fun _ _ h => (by cases h)⟩
    · exact ⟨fun _ _ h => (by cases h), fun _ _ h => (by cases h)⟩
  · split
    · split
      · exact ⟨fun _ _ h => (by cases h; exact Nat.le_refl _), fun _ _ h => (by cases h)⟩
      · exact ask_le p _
    · exact ask_le p _
theorem step_le {p : Program} {m m' : Machine} (h : step p m = .next m') : m.world.drawn ≤ m'.world.drawn := by
  unfold step stepT at h
  split at h
  · rename_i hm
    exact Nat.le_trans ((move_le p m).1 _ _ hm) (runT_le _ _ _ _ _ h)
  · rename_i hm
    simp only [] at h
    subst h
    exact (move_le p m).2 _ _ hm
theorem steps_le {p : Program} {m m' : Machine} (h : Steps p m m') : m.world.drawn ≤ m'.world.drawn := by
  obtain ⟨n, hn⟩ := h
  induction n generalizing m with
  | zero => simp only [runN] at hn; cases hn; exact Nat.le_refl _
  | succ n ih =>
    simp only [runN] at hn
    split at hn
    · rename_i hs
      exact Nat.le_trans (step_le hs) (ih hn)
    · rename_i hs
      exact (hs _ hn).elim
theorem _root_.Go.Calls.drawn {P : Program} {f : FuncId} {args : Array Value} {w : World} {R : Ending → World → Prop} (h : Calls P f args w R) : Calls P f args w fun e w' => R e w' ∧ (e = .outgrown ∨ w.drawn ≤ w'.drawn) := by
  intro cs
  obtain ⟨e, w', fr, r, s, x⟩ := h cs
  refine ⟨e, w', fr, ⟨r, ?_⟩, s, x⟩
  cases e with
  | returned v => exact .inr (steps_le s)
  | panicked c => exact .inr (steps_le s)
  | outgrown => exact .inl rfl
end Go.Am

/- THE ABSTRACT MACHINE, 34: own arrays handed down as data beside other data. -/
namespace Go.Am
open Go
end Go.Am

/- THE ABSTRACT MACHINE, 35: a closure whose captured box is data from then on. -/
namespace Go.Am
open Go
section
variable {P : Program} {G : Nat → Option (List AV)}

end
end Go.Am
