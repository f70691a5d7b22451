import Derived.Test.YtefamlckjpbcoaaG16
import Derived.WalkKit
import Derived.WalkLawsBesides
set_option maxRecDepth 100000
set_option linter.unusedSimpArgs false
set_option linter.unusedVariables false
/- SEQUENCE, 17: descending, at a row of cells. -/
namespace Go.Sq
open Go Go.Am Go.Proofs Go.Seat Go.Lib Go.Sort

theorem Kid.alloc {w : World} {v : Value} {b cap : Nat} {l : List CE} {c : Array Value} {t : TypeId} (h : Kid w v b l cap c t) (o : Obj) : Kid (w.alloc o) v b l cap c t := by
  have hb : b < w.heap.size := (Array.getElem?_eq_some_iff.1 h.blk).1
  exact { h with blk := by rw [alloc_eq_grow, heap_grow_old _ _ hb]; exact h.blk }
theorem SameBut.alloc {w : World} {o : Obj} {b : Nat} {w' : World} (h : SameBut (w.alloc o) b w') : SameBut w b w' where
  os := h.os
  tape := h.tape
  output := h.output
  size := Nat.le_trans (by rw [alloc_eq_grow, size_grow]; omega) h.size
  drawn := h.drawn
  keep i hi hne := by
    rw [h.keep i (by rw [alloc_eq_grow, size_grow]; omega) hne, alloc_eq_grow, heap_grow_old _ _ hi]
theorem desc_calls (w : World) (v : Value) (b cap : Nat) (l : List CE) (c : Array Value) (t : TypeId) (h : Kid w v b l cap c t) (hlen : l.length ≤ 1000000) :
    Calls Try.prog 31 #[v, .func (.func 32) #[] #[]] w fun e w' => e = .returned (.tuple #[]) ∧ SameBut w b w' ∧ ∃ l' c', l'.Perm l ∧ l'.Pairwise (fun x y => gtB y x = false) ∧ Kid w' v b l' cap c' t := by
  have hb : b < w.heap.size := (Array.getElem?_eq_some_iff.1 h.blk).1
  have h40 := sort_calls (w.alloc (.cells #[.func (.func 32) #[] #[]] 62)) v b w.heap.size cap l c t (h.alloc _) hlen (by unfold World.cell? World.alloc; simp only [Array.getElem?_push_size]; rfl) (by omega)
  rw [h.val] at h40 ⊢
  go_enter Try.func31, Try.ntmps31
  go_wp2_with (go_at_call 40; refine h40.mono ?_; rintro e w' ⟨rfl, k1, k2⟩)
  go_end0
  exact ⟨rfl, k1.alloc, k2⟩
end Go.Sq

/- THE ABSTRACT MACHINE, 32: a view put in other terms; steps that turn blocks beside the view's. -/
namespace Go.Am
open Go

structure Alter (n : Nat) (V V' : View) : Prop where
  data : ∀ b, b < V.w.heap.size → ¬ V.M b → V'.w.heap[b]? = V.w.heap[b]? ∧ ¬ V'.M b
  own : ∀ id, id < n → id < V.H.length → V'.ρ id = V.ρ id ∧ V'.w.heap[V.ρ id]? = V.w.heap[V.ρ id]? ∧ (V'.H[id]? = V.H[id]? ∨ ∃ e e', V.H[id]? = some (.map e) ∧ V'.H[id]? = some (.map e'))
section
variable {n : Nat} {V V' : View} (h : Alter n V V')
 include h
theorem KindOk.alter {f : AObj → Bool} (hf : ∀ e e', f (.map e) = f (.map e')) {id : Nat} (hid : id < n) (hk : KindOk f V id) : KindOk f V' id ∧ V'.ρ id = V.ρ id := by
  obtain ⟨o, ho, hfo⟩ := hk
  have hl := (List.getElem?_eq_some_iff.1 ho).1
  obtain ⟨h1, h2, h3⟩ := h.own id hid hl
  refine ⟨?_, h1⟩
  rcases h3 with h3 | ⟨e, e', h3, h4⟩
  · exact ⟨o, h3.trans ho, hfo⟩
  · rw [h3] at ho
    injection ho with ho
    subst ho
    exact ⟨_, h4, (hf e' e).trans hfo⟩
theorem Rep.alter {x : AV} {v : Value} (hr : Rep V x v) (hx : x.idsLt n = true) : Rep V' x v := by
  induction hr with
  | pure x v hp => exact .pure x v (hp.step h.data)
  | dead v => exact .dead v
  | ptr id off hk =>
    simp only [AV.idsLt, Nat.blt_eq] at hx
    obtain ⟨k1, k2⟩ := KindOk.alter h (f := AObj.isBox) (fun _ _ => rfl) hx hk
    rw [← k2]; exact .ptr id off k1
  | apt id g k j v ha =>
    simp only [AV.idsLt, Nat.blt_eq] at hx
    refine .apt id g k j v ⟨ha.1, ?_⟩
    have hl := ha.lt
    obtain ⟨h1, h2, h3⟩ := h.own id hx hl
    have h4 := ha.2
    rcases h3 with h3 | ⟨e, e', h3, h5⟩
    · rw [h3, h1]; exact h4
    · rw [h3] at h4; exact h4.elim
  | own id g off len v ha =>
    simp only [AV.idsLt, Nat.blt_eq] at hx
    refine .own id g off len v ⟨ha.1, ?_⟩
    have hl := ha.lt
    obtain ⟨h1, h2, h3⟩ := h.own id hx hl
    have h4 := ha.2
    rcases h3 with h3 | ⟨e, e', h3, h5⟩
    · rw [h3]
      unfold OwnRep at h4 ⊢
      rw [h1, h2]
      exact h4
    · rw [h3] at h4; exact h4.elim
  | mp id hk =>
    simp only [AV.idsLt, Nat.blt_eq] at hx
    obtain ⟨k1, k2⟩ := KindOk.alter h (f := AObj.isMap) (fun _ _ => rfl) hx hk
    rw [← k2]; exact .mp id k1
  | yl id hk =>
    simp only [AV.idsLt, Nat.blt_eq] at hx
    obtain ⟨k1, k2⟩ := KindOk.alter h (f := AObj.isRng) (fun _ _ => rfl) hx hk
    rw [← k2]; exact .yl id k1
  | agg cs vs hl _ ih =>
    simp only [AV.idsLt] at hx
    exact .agg cs vs hl fun j hj => ih j hj (idsLtL_getD j hx hj)
  | tup cs vs hl _ ih =>
    simp only [AV.idsLt] at hx
    exact .tup cs vs hl fun j hj => ih j hj (idsLtL_getD j hx hj)
  | ifc t x v _ ih =>
    simp only [AV.idsLt] at hx
    exact .ifc t x v (ih hx)
  | fn f uu bs us vs hu hv _ _ iha ihb =>
    simp only [AV.idsLt, Bool.and_eq_true] at hx
    exact .fn f uu bs us vs hu hv (fun j hj => iha j hj (idsLtL_getD j hx.1 hj)) (fun j hj => ihb j hj (idsLtL_getD j hx.2 hj))
theorem Reps.alter {xs : List AV} {vs : List Value} (hr : Reps V xs vs) (hx : AV.idsLtL n xs = true) : Reps V' xs vs := ⟨hr.1, fun j hj => (hr.2 j hj).alter h (idsLtL_getD j hx hj)⟩
theorem ObjRep.alter {id : Nat} {o : AObj} (hid : id < n) (hl : id < V.H.length) (ho : o.idsLt n) (hr : ObjRep V (V.ρ id) o) : ObjRep V' (V'.ρ id) o := by
  obtain ⟨h1, h2, _⟩ := h.own id hid hl
  rw [h1]
  cases o with
  | box cells => obtain ⟨t, vs, k1, k2⟩ := hr; exact ⟨t, vs, h2.trans k1, k2.alter h ho⟩
  | arr g sz fz xs =>
    obtain ⟨t, c, k1, k2, k3, k4⟩ := hr
    refine ⟨t, c, h2.trans k1, k2, k3, fun k j hk hj => ?_⟩
    obtain ⟨v, hv, ho1, hrep⟩ := k4 k j hk hj
    have hx : xs.getD k [] ∈ xs := by rw [List.getD_eq_getElem?_getD, List.getElem?_eq_getElem hk]; exact List.getElem_mem hk
    exact ⟨v, hv, ho1, hrep.alter h (idsLtL_getD j (ho _ hx) (by rw [k3 _ hx]; exact hj))⟩
  | map es =>
    obtain ⟨ents, clock, k1, k2, k3, k4, k5, k6⟩ := hr
    refine ⟨ents, clock, h2.trans k1, k2, k3, k4, k5, fun j hj => ?_⟩
    obtain ⟨kk, hm⟩ := atE_mem hj
    exact (k6 j hj).alter h (ho (kk, atE es j) hm)
  | rng st p env ps uu bd => obtain ⟨fn, vs, D, k1, k2⟩ := hr; exact ⟨fn, vs, D, h2.trans k1, k2.alter h ho⟩
  | iter cur left =>
    obtain ⟨bm, since, seen, c0, ents, clock, es, idx, k1, k2⟩ := hr
    exact ⟨bm, since, seen, c0, ents, clock, es, idx, h2.trans k1, k2.step h.data⟩
  | dfd => exact h2.trans hr
  | gone => trivial
theorem HeapRep.alter {G : Nat → Option (List AV)} (hG : HeapRep G V) (hlt : ∀ id, id < V'.H.length → V'.ρ id < V'.w.heap.size) (hinj : ∀ i j, i < V'.H.length → j < V'.H.length → V'.ρ i = V'.ρ j → i = j)
    (hobj : ∀ id o, V'.H[id]? = some o → ((id < n ∧ V.H[id]? = some o ∧ o.idsLt n) ∨ ObjRep V' (V'.ρ id) o) ∧ (o.open_ = true → V'.M (V'.ρ id))) : HeapRep G V' where
  lt := hlt
  obj id o ho := by
    rcases (hobj id o ho).1 with ⟨h1, h2, h3⟩ | h1
    · exact ObjRep.alter h h1 (List.getElem?_eq_some_iff.1 h2).1 h3 (hG.obj id o h2)
    · exact h1
  inj := hinj
  mutb id o ho hop := (hobj id o ho).2 hop
  glob g cs hg := (hG.glob g cs hg).step h.data
theorem EnvOk.alter {env : List AV} {a : Act} (he : EnvOk V env a) (hx : AV.idsLtL n env = true) : EnvOk V' env a := Reps.alter h he hx
end

theorem EnvOk.reslot {V : View} {env : List AV} {a : Act} (h : EnvOk V env a) {t : Nat} {x : AV} (hx : Rep V x (a.tmps.getD t undef)) : EnvOk V (env.set t x) a :=
  ⟨by simpa using h.1, fun j hj => by
    have hj' : j < env.length := by simpa using hj
    by_cases e : t = j
    · subst e
      rw [getD_set_self' hj']
      simpa [Array.getD_eq_getD_getElem?, List.getD_eq_getElem?_getD] using hx
    · rw [getD_set_ne' e]
      exact h.2 j hj'⟩
theorem EnvOk.dull {V : View} {env env' : List AV} {a : Act} (h : EnvOk V env a) (hl : env'.length = env.length) (hd : ∀ j, j < env.length → env'.getD j .dead = env.getD j .dead ∨ env'.getD j .dead = .dead) : EnvOk V env' a :=
  ⟨h.1.trans hl.symm, fun j hj => by
    rcases hd j (by omega) with h1 | h1
    · rw [h1]; exact h.2 j (by omega)
    · rw [h1]; exact .dead _⟩

structure StepX (B : Nat → Prop) (V V' : View) : Prop where
  os : V'.w.os = V.w.os
  tape : V'.w.tape = V.w.tape
  output : V'.w.output = V.w.output
  size : V.w.heap.size ≤ V'.w.heap.size
  drawn : V.w.drawn ≤ V'.w.drawn
  keep : ∀ b, b < V.w.heap.size → (∀ id, id < V.H.length → V.ρ id ≠ b) → ¬ B b → V'.w.heap[b]? = V.w.heap[b]? ∧ (V'.M b ↔ V.M b)
  data : ∀ b, b < V.w.heap.size → ¬ V.M b → V'.w.heap[b]? = V.w.heap[b]? ∧ ¬ V'.M b
  hlen : V.H.length ≤ V'.H.length
  fresh : ∀ id, id < V'.H.length → (id < V.H.length ∧ V'.ρ id = V.ρ id) ∨ V.w.heap.size ≤ V'.ρ id
  obj : ∀ id, id < V.H.length → ObjStep V V' id
theorem Step.x {V V' : View} (h : Step V V') (B : Nat → Prop) : StepX B V V' := ⟨h.os, h.tape, h.output, h.size, h.drawn, fun b h1 h2 _ => h.keep b h1 h2, h.data, h.hlen, h.fresh, h.obj⟩
theorem StepX.mono {B C : Nat → Prop} {V V' : View} (h : StepX B V V') (hB : ∀ b, B b → C b) : StepX C V V' := { h with keep := fun b h1 h2 h3 => h.keep b h1 h2 fun h4 => h3 (hB b h4) }
theorem StepX.trans {B : Nat → Prop} {V V' V'' : View} (h : StepX B V V') (h' : StepX B V' V'') : StepX B V V'' where
  os := h'.os.trans h.os
  tape := h'.tape.trans h.tape
  output := h'.output.trans h.output
  size := Nat.le_trans h.size h'.size
  drawn := Nat.le_trans h.drawn h'.drawn
  keep b hb hn hB := by
    obtain ⟨a1, a2⟩ := h.keep b hb hn hB
    have := h'.keep b (Nat.lt_of_lt_of_le hb h.size) (fun id hid e => by
      rcases h.fresh id hid with ⟨hl, hρ⟩ | hge
      · exact hn id hl (hρ ▸ e)
      · omega) hB
    exact ⟨this.1.trans a1, this.2.trans a2⟩
  data b hb hn := by
    obtain ⟨a1, a2⟩ := h.data b hb hn
    obtain ⟨b1, b2⟩ := h'.data b (Nat.lt_of_lt_of_le hb h.size) a2
    exact ⟨b1.trans a1, b2⟩
  hlen := Nat.le_trans h.hlen h'.hlen
  fresh id hid := by
    rcases h'.fresh id hid with ⟨hl, hρ⟩ | hge
    · rcases h.fresh id hl with ⟨hl0, hρ0⟩ | hge
      · exact .inl ⟨hl0, hρ.trans hρ0⟩
      · exact .inr (by rw [hρ]; exact hge)
    · exact .inr (Nat.le_trans h.size hge)
  obj id hid := (h.obj id hid).trans (h'.obj id (Nat.lt_of_lt_of_le hid h.hlen))
theorem Step.thenX {B : Nat → Prop} {V V' V'' : View} (h : Step V V') (h' : StepX B V' V'') (hB : ∀ b, B b → V.w.heap.size ≤ b) : Step V V'' := by
  have := (h.x B).trans h'
  exact ⟨this.os, this.tape, this.output, this.size, this.drawn, fun b h1 h2 => this.keep b h1 h2 fun h3 => by have := hB b h3; omega, this.data, this.hlen, this.fresh, this.obj⟩
theorem CallC.slEmptyH {P : Program} {G : Nat → Option (List AV)} {f : FuncId} {H H' : List AObj} {out : AOut} {sz : Nat} {tg : Bool} {rest : List AV} (h0 : ∀ cap, CallC P G f (.lit (.slice none 0 cap) :: rest) H out H') (h1 : ∀ a cap, CallC P G f (.lit (.slice (some a) 0 cap) :: rest) H out H') : CallC P G f (.sl sz tg [] :: rest) H out H' := by
  intro V vs hH hG hr
  obtain ⟨v, ws, rfl⟩ : ∃ v ws, vs = v :: ws := by
    have := hr.1
    match vs, this with
    | v :: ws, _ => exact ⟨v, ws, rfl⟩
  have hx := rep_sl hr.head
  obtain ⟨A, cap, rfl, _⟩ := sl_inv hx
  have ht : Reps V rest ws := hr.tail
  cases A with
  | none => exact h0 cap V _ hH hG (.cons (.pure _ _ (.lit _)) ht)
  | some a => exact h1 a cap V _ hH hG (.cons (.pure _ _ (.lit _)) ht)
theorem Sub.emptyL (sz : Nat) (A : Option Addr) (cap : Nat) : Sub (.lit (.slice A 0 cap)) (.sl sz false []) := fun V v h => by
  rw [rep_lit h]
  exact .pure _ _ (.sl sz false [] A cap 0 0 (fun _ _ => undef) (fun h => absurd rfl h) (fun h => absurd rfl h) (Nat.zero_le _) (fun h => by cases h) (by simp) (fun k j hk => absurd hk (by simp)) (fun k j hk => absurd hk (by simp)) (fun k j hk => absurd hk (by simp)))
end Go.Am
