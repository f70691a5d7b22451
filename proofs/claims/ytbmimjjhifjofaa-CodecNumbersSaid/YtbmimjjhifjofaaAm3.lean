/- THE ABSTRACT MACHINE, 3: what an operation comes to that only computes or reads. -/
import Derived.Test.YtbmimjjhifjofaaAm2
namespace Go.Am
open Go

/-- What a computation comes to that asks no world. -/
def calm {α : Type} (P : Program) : Sem α → Option α
  | .pure a => some a
  | .program k => calm P (k P)
  | .mark _ k => calm P k
  | _ => none
theorem calm_run {α : Type} {P : Program} : ∀ {s : Sem α} {a : α}, calm P s = some a → ∀ w, s.run P w = .ok a w
  | .pure a, b, h, w => by simp only [calm, Option.some.injEq] at h; subst h; rfl
  | .program k, b, h, w => by simp only [calm] at h; exact calm_run (s := k P) h w
  | .mark m k, b, h, w => by simp only [calm] at h; exact calm_run (s := k) h w
  | .load .., _, h, _ => by simp [calm] at h
  | .store .., _, h, _ => by simp [calm] at h
  | .new .., _, h, _ => by simp [calm] at h
  | .shape .., _, h, _ => by simp [calm] at h
  | .freeze .., _, h, _ => by simp [calm] at h
  | .frozen .., _, h, _ => by simp [calm] at h
  | .getObj .., _, h, _ => by simp [calm] at h
  | .setObj .., _, h, _ => by simp [calm] at h
  | .choose .., _, h, _ => by simp [calm] at h
  | .sys .., _, h, _ => by simp [calm] at h
  | .halt _, _, h, _ => by simp [calm] at h

/-- What a call ends in. -/
inductive AOut where
  | ret (x : AV)
  | pan (x : AV)
/-- How code is left. -/
inductive AEx where
  | normal
  | exit (id : Nat)
  | goto (l : Nat)
  | ret
  | pan (x : AV)
instance : Inhabited AEx := ⟨.normal⟩

/-- What the prover tells the run: the outcome of a test, an element, a callee's result, a loop's. -/
inductive Orc where
  | br (b : Bool)
  | elem (x : List AV)
  | val (d : Option Nat) (x : AV)
  | hp (d : Option Nat) (x : AV) (H : List AObj)
  | emp
  | own
  | frz (z : List (List AV))
  | fz (d : Option Nat) (z : List (List AV))
  | call (e : List Nat) (out : AOut) (Hs' : List AObj)
  | pure (zs : List (List (List AV))) (out : AV)
  | loop (dead : List Nat) (n : Nat) (ex : AEx) (env : List AV) (H : List AObj)
  | range (dead : List Nat) (n : Nat) (mark : Option Nat) (ex : AEx) (env : List AV) (H : List AObj)
  | at_ (p : Nat)
  | bytes (s : ByteArray)
  | av (x : AV)
  | dcall (out : AOut) (H : List AObj)
instance : Inhabited Orc := ⟨.emp⟩

/-- Whatever x stands for, y does. -/
def Sub (x y : AV) : Prop := ∀ (V : View) (v : Value), Rep V x v → Rep V y v
theorem Sub.refl (x : AV) : Sub x x := fun _ _ h => h
theorem Sub.of_eq {x y : AV} (h : x = y) : Sub x y := h ▸ Sub.refl x
theorem Sub.trans {x y z : AV} (h : Sub x y) (k : Sub y z) : Sub x z := fun V v r => k V v (h V v r)
theorem Sub.dead (x : AV) : Sub x .dead := fun _ v _ => .dead v

inductive Kind where
  | free | read | eff
  deriving DecidableEq

structure Ans where
  kd : Kind
  x : AV
  H : List AObj
  orc : List Orc
  obl : List Prop

def AllP : List Prop → Prop
  | [] => True
  | p :: ps => p ∧ AllP ps
theorem allP_append {a b : List Prop} : AllP (a ++ b) ↔ AllP a ∧ AllP b := by
  induction a with
  | nil => simp [AllP]
  | cons p a ih => simp [AllP, ih, and_assoc]

def toVals : List AV → Option (List Value)
  | [] => some []
  | .lit v :: xs => (toVals xs).map (v :: ·)
  | _ :: _ => none
def AV.toVal : AV → Option Value
  | .lit v => some v
  | .ifc t (.lit v) => some (.iface t v)
  | .agg cs => (toVals cs).map fun vs => .agg vs.toArray
  | _ => none

/-! Inversions -/
section
variable {V : View}
theorem rep_lit {v u : Value} (h : Rep V (.lit v) u) : u = v := by
  cases h with
  | pure _ _ h => cases h; rfl
theorem rep_ptr {id off : Nat} {u : Value} (h : Rep V (.ptr id off) u) : KindOk AObj.isBox V id ∧ u = .pointer (some ⟨V.ρ id, off, none⟩) := by
  cases h with
  | pure _ _ h => cases h
  | ptr _ _ h => exact ⟨h, rfl⟩
theorem rep_apt {id g k j : Nat} {u : Value} (h : Rep V (.apt id g k j) u) : AptOk V id g k j u := by
  cases h with
  | pure _ _ h => cases h
  | apt _ _ _ _ _ h => exact h
theorem rep_own {id g off len : Nat} {u : Value} (h : Rep V (.own id g off len) u) : OwnOk V id g off len u := by
  cases h with
  | pure _ _ h => cases h
  | own _ _ _ _ _ h => exact h
theorem rep_mp {id : Nat} {u : Value} (h : Rep V (.mp id) u) : KindOk AObj.isMap V id ∧ u = .map (some (V.ρ id)) := by
  cases h with
  | pure _ _ h => cases h
  | mp _ h => exact ⟨h, rfl⟩
theorem rep_yl {id : Nat} {u : Value} (h : Rep V (.yl id) u) : KindOk AObj.isRng V id ∧ u = .func (.yield (V.ρ id)) #[] #[] := by
  cases h with
  | pure _ _ h => cases h
  | yl _ h => exact ⟨h, rfl⟩
theorem rep_imm {cs : List AV} {u : Value} (h : Rep V (.imm cs) u) : PRep V.w V.M (.imm cs) u := by
  cases h with
  | pure _ _ h => exact h
theorem rep_sl {sz : Nat} {t : Bool} {xs : List (List AV)} {u : Value} (h : Rep V (.sl sz t xs) u) : PRep V.w V.M (.sl sz t xs) u := by
  cases h with
  | pure _ _ h => exact h
theorem rep_agg {cs : List AV} {u : Value} (h : Rep V (.agg cs) u) : ∃ vs : List Value, u = .agg vs.toArray ∧ Reps V cs vs := by
  cases h with
  | pure _ _ h => cases h with | agg _ vs hl hr => exact ⟨vs, rfl, hl, fun j hj => .pure _ _ (hr j hj)⟩
  | agg _ vs hl hr => exact ⟨vs, rfl, hl, hr⟩
theorem rep_tup {cs : List AV} {u : Value} (h : Rep V (.tup cs) u) : ∃ vs : List Value, u = .tuple vs.toArray ∧ Reps V cs vs := by
  cases h with
  | pure _ _ h => cases h with | tup _ vs hl hr => exact ⟨vs, rfl, hl, fun j hj => .pure _ _ (hr j hj)⟩
  | tup _ vs hl hr => exact ⟨vs, rfl, hl, hr⟩
theorem rep_ifc {t : TypeId} {x : AV} {u : Value} (h : Rep V (.ifc t x) u) : ∃ v, u = .iface t v ∧ Rep V x v := by
  cases h with
  | pure _ _ h => cases h with | ifc _ _ v hr => exact ⟨v, rfl, .pure _ _ hr⟩
  | ifc _ _ v hr => exact ⟨v, rfl, hr⟩
theorem rep_fn {f : Fn} {as bs : List AV} {u : Value} (h : Rep V (.fn f as bs) u) : ∃ us vs : List Value, u = .func f us.toArray vs.toArray ∧ Reps V as us ∧ Reps V bs vs := by
  cases h with
  | pure _ _ h => cases h with | fn _ _ _ us vs hu hv ha hb => exact ⟨us, vs, rfl, ⟨hu, fun j hj => .pure _ _ (ha j hj)⟩, hv, fun j hj => .pure _ _ (hb j hj)⟩
  | fn _ _ _ us vs hu hv ha hb => exact ⟨us, vs, rfl, ⟨hu, ha⟩, hv, hb⟩

theorem reps_toVals : ∀ {xs : List AV} {us vs : List Value}, toVals xs = some us → Reps V xs vs → vs = us
  | [], us, vs, h, hr => by
    simp only [toVals, Option.some.injEq] at h; subst h
    exact List.eq_nil_of_length_eq_zero hr.1
  | .lit v :: xs, us, vs, h, hr => by
    cases hx : toVals xs with
    | none => simp [toVals, hx] at h
    | some us' =>
      simp [toVals, hx] at h; subst h
      match vs, hr with
      | [], hr => have := hr.1; simp at this
      | u :: vs', hr =>
        have h0 : Rep V (.lit v) u := by simpa using hr.2 0 (by simp)
        have ht : vs' = us' := reps_toVals hx ⟨by simpa using hr.1, fun j hj => by simpa using hr.2 (j + 1) (by simpa using hj)⟩
        rw [rep_lit h0, ht]
  | .ptr .. :: _, us, vs, h, _ | .apt .. :: _, us, vs, h, _ | .imm .. :: _, us, vs, h, _ | .sl .. :: _, us, vs, h, _ | .own .. :: _, us, vs, h, _
  | .mp .. :: _, us, vs, h, _ | .yl .. :: _, us, vs, h, _ | .fn .. :: _, us, vs, h, _ | .ifc .. :: _, us, vs, h, _ | .agg .. :: _, us, vs, h, _ | .tup .. :: _, us, vs, h, _ | .dead :: _, us, vs, h, _ => by simp [toVals] at h
theorem rep_toVal {x : AV} {u v : Value} (hx : x.toVal = some v) (h : Rep V x u) : u = v := by
  cases x <;> simp only [AV.toVal] at hx <;> first | (cases hx; done) | skip
  case lit w => cases hx; exact rep_lit h
  case ifc t x =>
    obtain ⟨w, rfl, hw⟩ := rep_ifc h
    cases x <;> simp only at hx <;> first | (cases hx; done) | skip
    rw [rep_lit hw]
    exact Option.some.inj hx
  case agg cs =>
    obtain ⟨vs, rfl, hr⟩ := rep_agg h
    cases hc : toVals cs with
    | none => simp [hc] at hx
    | some us => simp [hc] at hx; rw [← hx, reps_toVals hc hr]

theorem Reps.nil : Reps V [] [] := ⟨rfl, fun _ h => absurd h (by simp)⟩
theorem Reps.cons {x : AV} {v : Value} {xs : List AV} {vs : List Value} (h : Rep V x v) (hs : Reps V xs vs) : Reps V (x :: xs) (v :: vs) :=
  ⟨by simp [hs.1], fun j hj => by cases j with | zero => simpa using h | succ j => simpa using hs.2 j (by simpa using hj)⟩
theorem Reps.head {x : AV} {v : Value} {xs : List AV} {vs : List Value} (h : Reps V (x :: xs) (v :: vs)) : Rep V x v := by simpa using h.2 0 (by simp)
theorem Reps.tail {x : AV} {v : Value} {xs : List AV} {vs : List Value} (h : Reps V (x :: xs) (v :: vs)) : Reps V xs vs :=
  ⟨by simpa using h.1, fun j hj => by simpa using h.2 (j + 1) (by simpa using hj)⟩
theorem Reps.drop {xs : List AV} {vs : List Value} (h : Reps V xs vs) (n : Nat) : Reps V (xs.drop n) (vs.drop n) :=
  ⟨by simp [h.1], fun j hj => by
    have := h.2 (n + j) (by simp at hj; omega)
    simpa [List.getD_eq_getElem?_getD, List.getElem?_drop] using this⟩
theorem Reps.take {xs : List AV} {vs : List Value} (h : Reps V xs vs) (n : Nat) : Reps V (xs.take n) (vs.take n) :=
  ⟨by simp [h.1], fun j hj => by
    rw [List.length_take] at hj
    have := h.2 j (by omega)
    simpa [List.getD_eq_getElem?_getD, List.getElem?_take, show j < n by omega] using this⟩
theorem Reps.append {xs ys : List AV} {us vs : List Value} (h : Reps V xs us) (k : Reps V ys vs) : Reps V (xs ++ ys) (us ++ vs) :=
  ⟨by simp [h.1, k.1], fun j hj => by
    simp at hj
    by_cases hlt : j < xs.length
    · have := h.2 j hlt
      simpa [List.getD_eq_getElem?_getD, List.getElem?_append, hlt, h.1] using this
    · have := k.2 (j - xs.length) (by omega)
      simpa [List.getD_eq_getElem?_getD, List.getElem?_append, hlt, h.1] using this⟩
theorem Reps.set {xs : List AV} {vs : List Value} (h : Reps V xs vs) (n : Nat) {x : AV} {v : Value} (hx : Rep V x v) : Reps V (xs.set n x) (vs.set n v) :=
  ⟨by simp [h.1], fun j hj => by
    simp at hj
    by_cases e : n = j
    · subst e
      simpa [List.getD_eq_getElem?_getD, List.getElem?_set, hj, h.1] using hx
    · have := h.2 j hj
      simpa [List.getD_eq_getElem?_getD, List.getElem?_set, e] using this⟩
theorem Reps.lits (vs : List Value) : Reps V (vs.map .lit) vs :=
  ⟨by simp, fun j hj => by
    simp at hj
    have : (vs.map AV.lit).getD j .dead = .lit (vs.getD j undef) := by simp [List.getD_eq_getElem?_getD, hj]
    rw [this]; exact .pure _ _ (.lit _)⟩
theorem Reps.prep {xs : List AV} {vs : List Value} (hl : vs.length = xs.length) (h : ∀ j, j < xs.length → PRep V.w V.M (xs.getD j .dead) (vs.getD j undef)) : Reps V xs vs := ⟨hl, fun j hj => .pure _ _ (h j hj)⟩
end

/-- The cells of a value. -/
def AV.cells : AV → Option (List AV)
  | .agg cs => some cs
  | .lit (.agg vs) => some (vs.toList.map .lit)
  | .lit (.tuple _) | .tup _ | .dead => none
  | x => some [x]
theorem rep_cells {V : View} {x : AV} {v : Value} {cs : List AV} (hc : x.cells = some cs) (h : Rep V x v) : Reps V cs v.cells.toList := by
  have one : ∀ {x : AV} {v : Value}, v.cells = #[v] → Rep V x v → Reps V [x] v.cells.toList := fun e h => by rw [e]; exact .cons h .nil
  cases x with
  | lit u =>
    have hu := rep_lit h
    subst hu
    cases v <;> simp only [AV.cells, Option.some.injEq] at hc <;> first | (cases hc; done) | (subst hc; exact one rfl h) | (subst hc; exact Reps.lits _)
  | ptr id off => cases hc; obtain ⟨_, rfl⟩ := rep_ptr h; exact one rfl h
  | apt id g k j =>
    cases hc
    have := (rep_apt h).1
    exact one (by cases v <;> first | rfl | (simp [Value.oneCell'] at this)) h
  | own id g off len =>
    cases hc
    have := (rep_own h).1
    exact one (by cases v <;> first | rfl | (simp [Value.oneCell'] at this)) h
  | imm cs => cases hc; cases rep_imm h; exact one rfl h
  | sl sz t xs => cases hc; cases rep_sl h; exact one rfl h
  | mp id => cases hc; obtain ⟨_, rfl⟩ := rep_mp h; exact one rfl h
  | yl id => cases hc; obtain ⟨_, rfl⟩ := rep_yl h; exact one rfl h
  | fn f as bs => cases hc; obtain ⟨_, _, rfl, _⟩ := rep_fn h; exact one rfl h
  | ifc t y => cases hc; obtain ⟨_, rfl, _⟩ := rep_ifc h; exact one rfl h
  | agg cs' => cases hc; obtain ⟨vs, rfl, hr⟩ := rep_agg h; simpa [Value.cells] using hr
  | tup _ => cases hc
  | dead => cases hc
end Go.Am
