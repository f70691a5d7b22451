/- THE ABSTRACT MACHINE, 21: names for a function's loops; what stands for what; contracts loosened. -/
import Derived.Test.YtbmimjjhifjofaaAm20
namespace Go.Am
open Go

def loopsOf : Code → List Code
  | .seq a b => loopsOf a ++ loopsOf b
  | .cond _ a b => loopsOf a ++ loopsOf b
  | .block _ c => loopsOf c
  | .loop c => c :: loopsOf c
  | .rangeFunc _ _ x y => loopsOf x ++ loopsOf y
  | .scope c => loopsOf c
  | _ => []
def rangesOf : Code → List (Code × Code)
  | .seq a b => rangesOf a ++ rangesOf b
  | .cond _ a b => rangesOf a ++ rangesOf b
  | .block _ c => rangesOf c
  | .loop c => rangesOf c
  | .rangeFunc _ _ x y => (x, y) :: (rangesOf x ++ rangesOf y)
  | .scope c => rangesOf c
  | _ => []
def bodyOf (P : Program) (f : FuncId) : Code := match P.funcs[f]? with
  | some fn => fn.body.getD .skip
  | none => .skip
def loopAt (P : Program) (f : FuncId) (i : Nat) : Code := (loopsOf (bodyOf P f)).getD i .skip
def asgAt (P : Program) (f : FuncId) (i : Nat) : Code := ((rangesOf (bodyOf P f)).getD i (.skip, .skip)).1
def rbodyAt (P : Program) (f : FuncId) (i : Nat) : Code := ((rangesOf (bodyOf P f)).getD i (.skip, .skip)).2

/-- n slots, the ones named alone alive. -/
def slotAt : List (Nat × AV) → Nat → AV
  | [], _ => .dead
  | (j, x) :: l, i => if j = i then x else slotAt l i
def slots (n : Nat) (l : List (Nat × AV)) : List AV := (List.range n).map (slotAt l)
def others (n : Nat) (live : List Nat) : List Nat := (List.range n).filter fun i => !live.contains i

theorem Sub.nil (sz : Nat) : Sub (.lit (.slice none 0 0)) (.sl sz false []) := fun V v h => by
  rw [rep_lit h]
  exact .pure _ _ (.sl sz false [] none 0 0 0 (fun _ _ => undef) (fun h => absurd rfl h) (fun h => absurd rfl h) (Nat.le_refl _) (fun h => by cases h) (by simp) (fun k j hk => absurd hk (by simp)) (fun k j hk => absurd hk (by simp)) (fun k j hk => absurd hk (by simp)))
theorem Sub.loose (sz : Nat) (t : Bool) (xs : List (List AV)) : Sub (.sl sz t xs) (.sl sz false xs) := fun V v h => by
  cases rep_sl h with
  | sl _ _ _ A cap b o vs hA hb hcap ht hsz hc ho hr => exact .pure _ _ (.sl sz false xs A cap b o vs hA hb hcap (fun h => by cases h) hsz hc ho hr)
theorem Sub.tup {xs ys : List AV} (hl : ys.length = xs.length) (h : ∀ j, j < xs.length → Sub (xs.getD j .dead) (ys.getD j .dead)) : Sub (.tup xs) (.tup ys) := fun V v hr => by
  obtain ⟨vs, rfl, h1, h2⟩ := rep_tup hr
  exact .tup ys vs (h1.trans hl.symm) fun j hj => h j (by omega) V _ (h2 j (by omega))
theorem Sub.tup2 {a b c d : AV} (h : Sub a c) (k : Sub b d) : Sub (.tup [a, b]) (.tup [c, d]) := .tup rfl fun j hj => by
  match j, hj with
  | 0, _ => exact h
  | 1, _ => exact k

section
variable {P : Program} {G : Nat → Option (List AV)}
theorem CallC.out {f : FuncId} {args : List AV} {H H' : List AObj} {x y : AV} (h : CallC P G f args H (.ret x) H') (hs : Sub x y) : CallC P G f args H (.ret y) H' := fun V vs hH hG hr =>
  (h V vs hH hG hr).mono fun e w' he => by
    obtain ⟨V', k1, k2, k3, k4, k5⟩ := he
    refine ⟨V', k1, k2, k3, k4, ?_⟩
    cases e with
    | returned v => exact hs V' v k5
    | panicked _ => exact k5.elim
    | outgrown => exact k5.elim
theorem CallC.args {f : FuncId} {xs ys : List AV} {H H' : List AObj} {out : AOut} (h : CallC P G f ys H out H') (hl : ys.length = xs.length) (hs : ∀ j, j < xs.length → Sub (xs.getD j .dead) (ys.getD j .dead)) : CallC P G f xs H out H' := fun V vs hH hG hr =>
  h V vs hH hG ⟨hr.1.trans hl.symm, fun j hj => hs j (by omega) V _ (hr.2 j (by omega))⟩

/-- States: whatever s stands for, t does. -/
def SubS (s t : St) : Prop := t.H = s.H ∧ t.defs = s.defs ∧ t.env.length = s.env.length ∧ ∀ j, j < s.env.length → Sub (s.env.getD j .dead) (t.env.getD j .dead)
theorem SubS.ok {s t : St} (h : SubS s t) {V : View} {a : Act} (k : StOk V s a) : StOk V t a :=
  ⟨⟨k.env.1.trans h.2.2.1.symm, fun j hj => h.2.2.2 j (by have := h.2.2.1; omega) V _ (k.env.2 j (by have := h.2.2.1; omega))⟩, k.H.trans h.1.symm, by rw [h.2.1]; exact k.defs⟩
theorem RunL.pre {r : Option Nat} {n0 : Nat} {c : Code} {s t s' : St} {ex : AEx} (h : RunL P G r n0 c t ex s') (hs : SubS s t) : RunL P G r n0 c s ex s' := fun V0 V a h0 hst hG hok => h V0 V a h0 hst hG (hs.ok hok)
theorem LoopIn.mono {F : Fence} {n : Nat} {c : Code} {Q Q' : Exit → Act → World → Prop} {a : Act} {w : World} (h : LoopIn F n P c Q a w) (hq : ∀ e a w, Q e a w → Q' e a w) : LoopIn F n P c Q' a w := fun b k cs hro hb hr =>
  let ⟨e, a', w', q, r⟩ := h b k cs hro hb hr; ⟨e, a', w', hq _ _ _ q, r⟩
theorem RunL.post {r : Option Nat} {n0 : Nat} {c : Code} {s s' t : St} {ex : AEx} (h : RunL P G r n0 c s ex s') (hs : SubS s' t) : RunL P G r n0 c s ex t := fun V0 V a h0 hst hG hok =>
  LoopIn.mono (h V0 V a h0 hst hG hok) fun _ _ _ ⟨V', k1, k2, k3, k4, k5⟩ => ⟨V', k1, k2, k3, hs.ok k4, k5⟩
end
end Go.Am
