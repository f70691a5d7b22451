/- THE ABSTRACT MACHINE, 13: calls. -/
import Derived.Test.YtbmimjjhifjofaaAm12
namespace Go.Am
open Go

/-- What an operation brings about, as the walk asks it. -/
def OpOk (P : Program) (G : Nat → Option (List AV)) (r : Option Nat) (V : View) (a : Act) (o : Oper) (out : AOut) (H' : List AObj) : Prop :=
  ∀ (next : Act → World → Prop) (Q : Exit → Act → World → Prop),
    (∀ V' v x, out = .ret x → Step V V' → HeapRep G V' → V'.H = H' → Rep V' x v → next (a.put o.dst v) V'.w) →
    (∀ V' v x, out = .pan x → Step V V' → HeapRep G V' → V'.H = H' → Rep V' x v → Q (.panic [{ v := v, recovered := false }]) a V'.w) →
    o.wpIn (fz r) 0 P a V.w next Q

section
variable {P : Program} {G : Nat → Option (List AV)} {r : Option Nat} {V : View} {a : Act} {o : Oper}

theorem OpOk.of_value {V' : View} {x : AV} {v : Value} {n : Next} (hd : ∀ c, o.op ≠ .defer c) (hrun : (execOp a.eval o).run P V.w = .ok n V'.w) (hn : n = .value v ∨ (n = .skip ∧ v = undef)) (hs : Step V V') (hG : HeapRep G V')
    (hr : Rep V' x v) : OpOk P G r V a o (.ret x) V'.H := by
  intro next Q h1 _
  refine ⟨fun _ _ => trivial, ?_⟩
  rw [Oper.semAt_eq _ _ _ hd, hrun]
  have := h1 V' v x rfl hs hG rfl hr
  rcases hn with rfl | ⟨rfl, rfl⟩ <;> exact this

theorem OpOk.of_call {f : FuncId} {args : Array Value} {out : AOut} {H' : List AObj} (hd : ∀ c, o.op ≠ .defer c) (hrun : (execOp a.eval o).run P V.w = .ok (.enter f args) V.w) (hc : CallsIn Fence.wide 0 P f args V.w (Goes G V H' out)) :
    OpOk P G r V a o out H' := by
  intro next Q h1 h2
  refine ⟨fun _ _ => trivial, ?_⟩
  rw [Oper.semAt_eq _ _ _ hd, hrun]
  refine ⟨fun h => (by cases h), (callsIn_fz r hc).mono fun e w' he => ?_⟩
  obtain ⟨V', rfl, k1, k2, k3, k4⟩ := he
  cases e with
  | returned v =>
    cases out with
    | ret x => exact h1 V' v x rfl k1 k2 k3 k4
    | pan x => exact k4.elim
  | panicked ch =>
    cases out with
    | ret x => exact k4.elim
    | pan x =>
      obtain ⟨v, rfl, hr⟩ := k4
      exact h2 V' v x rfl k1 k2 k3 hr
  | outgrown => cases out <;> exact k4.elim
end

/-! ### What is handed down as data for the time of a call -/
mutual
def AV.slFree : AV → Bool
  | .lit _ => true
  | .agg cs | .tup cs => AV.slFreeL cs
  | .ifc _ x => x.slFree
  | _ => false
def AV.slFreeL : List AV → Bool
  | [] => true
  | x :: xs => x.slFree && AV.slFreeL xs
end
theorem slFreeL_getD : ∀ {xs : List AV} (j : Nat), AV.slFreeL xs = true → j < xs.length → (xs.getD j .dead).slFree = true
  | [], j, _, hj => absurd hj (by simp)
  | x :: xs, 0, h, _ => by simp [AV.slFreeL] at h; simpa using h.1
  | x :: xs, j + 1, h, hj => by simp [AV.slFreeL] at h; simpa using slFreeL_getD j h.2 (by simpa using hj)
theorem idsInL_getD {e : List Nat} : ∀ {xs : List AV} (j : Nat), AV.idsInL e xs = true → j < xs.length → (xs.getD j .dead).idsIn e = true
  | [], j, _, hj => absurd hj (by simp)
  | x :: xs, 0, h, _ => by simp [AV.idsInL] at h; simpa using h.1
  | x :: xs, j + 1, h, hj => by simp [AV.idsInL] at h; simpa using idsInL_getD j h.2 (by simpa using hj)
theorem prep_slFree {w w' : World} {M M' : Nat → Prop} {x : AV} {v : Value} (h : PRep w M x v) : x.slFree = true → PRep w' M' x v := by
  induction h with
  | lit v => exact fun _ => .lit v
  | imm => exact fun h => by cases h
  | sl => exact fun h => by cases h
  | agg cs vs hl _ ih => exact fun h => .agg cs vs hl fun j hj => ih j hj (slFreeL_getD j h hj)
  | tup cs vs hl _ ih => exact fun h => .tup cs vs hl fun j hj => ih j hj (slFreeL_getD j h hj)
  | ifc t x v _ ih => exact fun h => .ifc t x v (ih h)
  | fn => exact fun h => by cases h
theorem rep_slFree {V V' : View} {x : AV} {v : Value} (h : Rep V x v) : x.slFree = true → Rep V' x v := by
  induction h with
  | pure x v h => exact fun hf => .pure _ _ (prep_slFree h hf)
  | dead v => exact fun h => by cases h
  | agg cs vs hl _ ih => exact fun h => .agg cs vs hl fun j hj => ih j hj (slFreeL_getD j h hj)
  | tup cs vs hl _ ih => exact fun h => .tup cs vs hl fun j hj => ih j hj (slFreeL_getD j h hj)
  | ifc t x v _ ih => exact fun h => .ifc t x v (ih h)
  | fn => exact fun h => by cases h
  | ptr => exact fun h => by cases h
  | apt => exact fun h => by cases h
  | own => exact fun h => by cases h
  | mp => exact fun h => by cases h
  | yl => exact fun h => by cases h
theorem rep_idFree {V V' : View} (hw : V'.w = V.w) (hM : ∀ b, V'.M b → V.M b) {x : AV} {v : Value} (h : Rep V x v) : x.idsIn [] = true → Rep V' x v := by
  induction h with
  | pure x v h => exact fun _ => .pure _ _ (h.sameV hw hM)
  | dead v => exact fun _ => .dead v
  | agg cs vs hl _ ih => exact fun h => .agg cs vs hl fun j hj => ih j hj (idsInL_getD j h hj)
  | tup cs vs hl _ ih => exact fun h => .tup cs vs hl fun j hj => ih j hj (idsInL_getD j h hj)
  | ifc t x v _ ih => exact fun h => .ifc t x v (ih h)
  | fn f as bs us vs hu hv _ _ iha ihb =>
    intro h
    simp only [AV.idsIn, Bool.and_eq_true] at h
    exact .fn f as bs us vs hu hv (fun j hj => iha j hj (idsInL_getD j h.1 hj)) fun j hj => ihb j hj (idsInL_getD j h.2 hj)
  | ptr => exact fun h => by simp [AV.idsIn, posOf] at h
  | apt => exact fun h => by simp [AV.idsIn, posOf] at h
  | own => exact fun h => by simp [AV.idsIn, posOf] at h
  | mp => exact fun h => by simp [AV.idsIn, posOf] at h
  | yl => exact fun h => by simp [AV.idsIn, posOf] at h

/-- An array's part as data: cells and all. -/
theorem own_data {G : Nat → Option (List AV)} {V V' : View} (hG : HeapRep G V) (hw : V'.w = V.w) (hM : ∀ b, V'.M b → V.M b) {id g sz off len : Nat} {fz : Bool} {ys : List (List AV)} (hH : V.H[id]? = some (.arr g sz fz ys)) (hM' : ¬ V'.M (V.ρ id)) {v : Value} (h : Rep V (.own id g off len) v)
    {z : List (List AV)} (hz : (ys.drop off).take len = z) (hl : z.length = len) (hp : ∀ c ∈ z, c.all AV.pureB = true) : PRep V'.w V'.M (.sl sz false z) v := by
  obtain ⟨A, cap, c, t, rfl, hA, h2, h3, h4, h5⟩ := own_cur hH h
  obtain ⟨t', c', o1, o2, o3, o4⟩ := hG.obj id _ hH
  rw [h4] at o1
  cases o1
  subst hl
  have hzk : ∀ k, k < z.length → ys.getD (off + k) [] = z.getD k [] ∧ off + k < ys.length := fun k hk => by
    have hk' := hk
    rw [← hz, List.length_take, List.length_drop] at hk'
    refine ⟨?_, by omega⟩
    have : z.getD k [] = ((ys.drop off).take z.length).getD k [] := by rw [hz]
    rw [this]
    simp [List.getD_eq_getElem?_getD, List.getElem?_drop, hk]
  have cell : ∀ k j, k < z.length → j < sz → ∃ u, c[off * sz + k * sz + j]? = some u ∧ u.oneCell' = true ∧ Rep V ((z.getD k []).getD j .dead) u := fun k j hk hj => by
    obtain ⟨e1, e2⟩ := hzk k hk
    obtain ⟨u, hu, h1, hr⟩ := o4 (off + k) j e2 hj
    rw [e1] at hr
    rw [Nat.add_mul] at hu
    exact ⟨u, hu, h1, hr⟩
  have hmem : ∀ x ∈ z, x ∈ ys := fun x hx => by rw [← hz] at hx; exact List.mem_of_mem_drop (List.mem_of_mem_take hx)
  have pk : ∀ k j, k < z.length → j < sz → ((z.getD k []).getD j .dead).pureB = true := fun k j hk hj => by
    have hzk' : z.getD k [] = z[k] := by simp [List.getD_eq_getElem?_getD, hk]
    rw [hzk']
    have hlen : j < z[k].length := by rw [o3 _ (hmem _ (List.getElem_mem hk))]; exact hj
    rw [List.getD_eq_getElem?_getD, List.getElem?_eq_getElem hlen]
    exact List.all_eq_true.1 (hp _ (List.getElem_mem hk)) _ (List.getElem_mem hlen)
  refine .sl sz false z A cap (V.ρ id) (off * sz) (fun k j => c.getD (off * sz + k * sz + j) undef) (fun hne => ?_) (fun _ _ => hM') h2 (fun h => by cases h) (fun x hx => o3 x (hmem x hx)) (fun k j hk hj => ?_) (fun k j hk hj => ?_) (fun k j hk hj => ?_)
  · have : 0 < z.length := List.length_pos_iff.2 hne
    exact hA (by omega)
  · obtain ⟨u, hu, _⟩ := cell k j hk hj
    simp [World.cell?, hw, h4, Array.getD_eq_getD_getElem?, hu]
  · obtain ⟨u, hu, h1, _⟩ := cell k j hk hj
    simpa [Array.getD_eq_getD_getElem?, hu] using h1
  · obtain ⟨u, hu, _, hr⟩ := cell k j hk hj
    have e : c.getD (off * sz + k * sz + j) undef = u := by simp [Array.getD_eq_getD_getElem?, hu]
    rw [e]
    exact (pureB_sound (pk k j hk hj) hr).sameV hw hM

/-- The arguments of a call that reads alone: own slices and cells as data. -/
def borrow (H : List AObj) : List AV → List (List (List AV)) → Option (List AV × List Prop)
  | [], _ => some ([], [])
  | .own id g off len :: xs, z :: zs => match H[id]? with
    | some (.arr g' sz _ ys) => (borrow H xs zs).map fun (as, ps) => (.sl sz false z :: as, (g' = g) :: ((ys.drop off).take len = z) :: (z.length = len) :: (∀ c ∈ z, c.all AV.pureB = true) :: ps)
    | _ => none
  | .ptr id off :: xs, zs => match H[id]? with
    | some (.box cells) => if cells.all AV.pureB = true ∧ off ≤ cells.length then (borrow H xs zs).map fun (as, ps) => (.imm (cells.drop off) :: as, ps) else none
    | _ => none
  | x :: xs, zs => if x.idsIn [] = true then (borrow H xs zs).map fun (as, ps) => (x :: as, ps) else none

theorem borrow_sound {G : Nat → Option (List AV)} {V V' : View} (hG : HeapRep G V) (hw : V'.w = V.w) (hM : ∀ b, ¬ V'.M b) : ∀ {xs : List AV} {zs : List (List (List AV))} {as : List AV} {ps : List Prop} {vs : List Value}, borrow V.H xs zs = some (as, ps) → AllP ps → Reps V xs vs → Reps V' as vs
  | [], zs, as, ps, vs, h, _, hr => by
    have : as = [] := by cases zs <;> (simp only [borrow, Option.some.injEq, Prod.mk.injEq] at h; exact h.1.symm)
    subst this
    have : vs = [] := List.eq_nil_of_length_eq_zero (by simpa using hr.1)
    subst this
    exact .nil
  | x :: xs, zs, as, ps, [], h, _, hr => by have := hr.1; simp at this
  | x :: xs, zs, as, ps, v :: vs, h, hps, hr => by
    have hx := hr.head
    have ht := hr.tail
    have gen : (if x.idsIn [] = true then (borrow V.H xs zs).map fun (as, ps) => (x :: as, ps) else none) = some (as, ps) → Reps V' as (v :: vs) := by
      intro h
      split at h
      · rename_i hi
        cases hb : borrow V.H xs zs with
        | none => simp [hb] at h
        | some q =>
          obtain ⟨as', ps'⟩ := q
          simp only [hb, Option.map_some, Option.some.injEq, Prod.mk.injEq] at h
          obtain ⟨rfl, rfl⟩ := h
          exact .cons (rep_idFree hw (fun b hb => absurd hb (hM b)) hx hi) (borrow_sound hG hw hM hb hps ht)
      · cases h
    cases x with
    | own id g off len =>
      cases zs with
      | nil => simp [borrow, AV.idsIn, posOf] at h
      | cons z zs =>
        simp only [borrow] at h
        split at h
        · rename_i g' sz fz ys hH
          cases hb : borrow V.H xs zs with
          | none => simp [hb] at h
          | some q =>
            obtain ⟨as', ps'⟩ := q
            simp only [hb, Option.map_some, Option.some.injEq, Prod.mk.injEq] at h
            obtain ⟨rfl, rfl⟩ := h
            obtain ⟨hg, h1, h2, h3, h4⟩ := hps
            subst hg
            exact .cons (.pure _ _ (own_data hG hw (fun b hb => absurd hb (hM b)) hH (hM _) hx h1 h2 h3)) (borrow_sound hG hw hM hb h4 ht)
        · cases h
    | ptr id off =>
      simp only [borrow] at h
      split at h
      · rename_i cells hH
        split at h
        · rename_i hcond
          obtain ⟨hp, hle⟩ := hcond
          cases hb : borrow V.H xs zs with
          | none => simp [hb] at h
          | some q =>
            obtain ⟨as', ps'⟩ := q
            simp only [hb, Option.map_some, Option.some.injEq, Prod.mk.injEq] at h
            obtain ⟨rfl, rfl⟩ := h
            refine .cons (.pure _ _ ?_) (borrow_sound hG hw hM hb hps ht)
            obtain ⟨_, rfl⟩ := rep_ptr hx
            have hc := (box_cells hG hH).drop off
            rw [Nat.zero_add] at hc
            obtain ⟨us, hu, hcell⟩ := hc
            refine .imm _ _ (fun j => us.getD j undef) rfl (fun _ => hM _) (fun j hj => ?_) (fun j hj => ?_)
            · rw [hw]; exact hcell j hj
            · refine (pureB_sound ?_ (hu.2 j hj)).sameV hw (fun b hb => absurd hb (hM b))
              have hj' : off + j < cells.length := by rw [List.length_drop] at hj; omega
              rw [List.getD_eq_getElem?_getD, List.getElem?_drop, List.getElem?_eq_getElem hj']
              exact List.all_eq_true.1 hp _ (List.getElem_mem hj')
        · cases h
      · cases h
    | lit u => exact gen (by simpa only [borrow] using h)
    | apt i g k j => exact gen (by simpa only [borrow] using h)
    | imm cs => exact gen (by simpa only [borrow] using h)
    | sl s t ys => exact gen (by simpa only [borrow] using h)
    | mp i => exact gen (by simpa only [borrow] using h)
    | yl i => exact gen (by simpa only [borrow] using h)
    | fn f p q => exact gen (by simpa only [borrow] using h)
    | ifc t y => exact gen (by simpa only [borrow] using h)
    | agg cs => exact gen (by simpa only [borrow] using h)
    | tup cs => exact gen (by simpa only [borrow] using h)
    | dead => exact gen (by simpa only [borrow] using h)

/-- A call that owns nothing changes nothing. -/
theorem CallC.read {P : Program} {G : Nat → Option (List AV)} {f : FuncId} {args : List AV} {out : AV} (hc : CallC P G f args [] (.ret out) []) {V : View} (hG : HeapRep G V) {xs : List AV} {zs : List (List (List AV))} {ps : List Prop} (hb : borrow V.H xs zs = some (args, ps)) (hps : AllP ps)
    (hf : out.slFree = true) {vs : List Value} (hx : Reps V xs vs) : CallsIn Fence.wide 0 P f vs.toArray V.w (Goes G V V.H (.ret out)) := by
  let V1 : View := { w := V.w, M := fun _ => False, H := [], ρ := V.ρ }
  have hG1 : HeapRep G V1 := ⟨fun _ h => absurd h (by simp [V1]), fun _ _ h => by simp [V1] at h, fun _ _ h => absurd h (by simp [V1]), fun _ _ h => by simp [V1] at h, fun g cs hg => (hG.glob g cs hg).sameV rfl fun _ h => h.elim⟩
  have h := hc V1 vs rfl hG1 (borrow_sound (V' := V1) hG rfl (fun _ h => h) hb hps hx)
  refine h.mono fun e w' he => ?_
  obtain ⟨V1', rfl, k1, k2, k3, k4⟩ := he
  have same : ∀ b, b < V.w.heap.size → V1'.w.heap[b]? = V.w.heap[b]? := fun b hb => (k1.keep b hb (fun id hid => absurd hid (by simp [V1]))).1
  let V' : View := { w := V1'.w, M := fun b => V.M b ∧ b < V.w.heap.size, H := V.H, ρ := V.ρ }
  have hs : Step V V' := {
    os := k1.os
    tape := k1.tape
    output := k1.output
    size := k1.size
    keep := fun b hb _ => ⟨same b hb, ⟨fun h => h.1, fun h => ⟨h, hb⟩⟩⟩
    data := fun b hb hn => ⟨same b hb, fun h => hn h.1⟩
    hlen := Nat.le_refl _
    fresh := fun id hid => .inl ⟨hid, rfl⟩
    obj := fun id hid => .refl hid rfl rfl (same _ (hG.lt id hid)) }
  refine ⟨V', rfl, hs, ?_, rfl, ?_⟩
  · exact {
      lt := fun id hid => Nat.lt_of_lt_of_le (hG.lt id hid) k1.size
      obj := fun id o ho => (hG.obj id o ho).step hs (same _ (hG.lt id (List.getElem?_eq_some_iff.1 ho).1))
      inj := hG.inj
      mutb := fun id o ho hop => ⟨hG.mutb id o ho hop, hG.lt id (List.getElem?_eq_some_iff.1 ho).1⟩
      glob := hG.glob_step hs }
  · cases e with
    | returned v => exact rep_slFree k4 hf
    | panicked _ => exact k4.elim
    | outgrown => exact k4.elim

/-! ### A loop's yield -/
/-- Called with args in the heap H, the yield of the loop id hands back b and leaves H'. -/
def YieldC (P : Program) (G : Nat → Option (List AV)) (id : Nat) (args : List AV) (H : List AObj) (b : Bool) (H' : List AObj) : Prop :=
  ∀ (V : View) (vs : List Value), V.H = H → HeapRep G V → Reps V args vs → ∃ (f : FuncId) (tmps : Array Value) (x y : Code), (Instr.yield (V.ρ id) vs.toArray).run P V.w = .ok (.round (V.ρ id) f tmps x y) V.w ∧
    ∀ r, RoundIn (fz r) 0 P (V.ρ id) f tmps x y V.w fun e w' => ∃ V' : View, V'.w = w' ∧ Step V V' ∧ HeapRep G V' ∧ V'.H = H' ∧ e = .returned (.bool b)

/-! ### The operation -/
def funcOk (P : Program) (f : FuncId) : Bool := match P.funcs[f]? with
  | some fn => fn.body.isSome && !(fn.name == "runtime.NumGoroutine")
  | none => false
def funTarget (x : AV) : Option (FuncId × List AV × List AV) := match x with
  | .lit (.func (.func f) us vs) => some (f, us.toList.map .lit, vs.toList.map .lit)
  | .fn (.func f) as bs => some (f, as, bs)
  | _ => none

def nodupB : List Nat → Bool
  | [] => true
  | x :: xs => !(xs.contains x) && nodupB xs
theorem nodupB_sound : ∀ {l : List Nat}, nodupB l = true → l.Nodup
  | [], _ => List.nodup_nil
  | x :: xs, h => by
    simp only [nodupB, Bool.and_eq_true, Bool.not_eq_true', List.contains_eq_mem, decide_eq_false_iff_not] at h
    exact List.nodup_cons.2 ⟨h.1, nodupB_sound h.2⟩

def AOut.idFree : AOut → Bool
  | .ret x => x.idsIn []
  | .pan x => x.idsIn []
theorem AOut.ren_free {σ : Nat → Nat} {out : AOut} (h : out.idFree = true) : out.ren σ = out := by
  cases out <;> simp only [AOut.ren, (ren_none σ _ h).1]

def enterA (P : Program) (G : Nat → Option (List AV)) (H : List AObj) (f : FuncId) (xs : List AV) (orc : List Orc) : Option (Kind × AOut × List AObj × List Orc × List Prop) :=
  match orc with
  | .call [] out [] :: orc' => if AV.idsInL [] xs = true ∧ out.idFree = true then some (.free, out, H, orc', [CallC P G f xs [] out []]) else none
  | .call e out Hs' :: orc' =>
    if nodupB e = true ∧ AV.idsInL e xs = true then
      match looks e H e with
      | some (Hs, ps) => some (.eff, out.ren (upto e H.length), backD e H Hs', orc', CallC P G f (AV.renL (pos0 e) xs) Hs out Hs' :: (plains Hs' ++ ps))
      | none => none
    else none
  | .pure zs out :: orc' => match borrow H xs zs with
    | some (args, ps) => if out.slFree = true then some (.read, .ret out, H, orc', CallC P G f args [] (.ret out) [] :: ps) else none
    | none => none
  | _ => none

def evalCall (P : Program) (G : Nat → Option (List AV)) (H : List AObj) (ev : Operand → AV) (o : Oper) (orc : List Orc) : Option (Kind × AOut × List AObj × List Orc × List Prop) :=
  match o.op with
  | .call { callee := .value g, args := args, argTypes := _ } => match ev g, orc with
    | .yl id, .call [] (.ret (.lit (.bool b))) H' :: orc' => some (.eff, .ret (.lit (.bool b)), H', orc', [YieldC P G id (args.toList.map ev) H b H'])
    | x, _ => match funTarget x with
      | some (f, as, bs) => if funcOk P f = true then enterA P G H f (as ++ args.toList.map ev ++ bs) orc else none
      | none => none
  | _ => none

section
variable {P : Program} {G : Nat → Option (List AV)} {r : Option Nat} {V : View} {a : Act} {o : Oper} {ev : Operand → AV}

theorem enter_sound {H : List AObj} {f : FuncId} {xs : List AV} {vs : List Value} {orc orc' : List Orc} {k : Kind} {out : AOut} {H' : List AObj} {ps : List Prop} (h : enterA P G H f xs orc = some (k, out, H', orc', ps)) (hps : AllP ps) (hG : HeapRep G V)
    (hx : Reps V xs vs) (hH : V.H = H ∨ k = .free) : CallsIn Fence.wide 0 P f vs.toArray V.w (Goes G V (if k = .free then V.H else H') out) ∧ (k ≠ .eff → H' = H) := by
  unfold enterA at h
  split at h
  · rename_i out0 orc0
    split at h
    · rename_i hcond
      obtain ⟨hin, hf⟩ := hcond
      cases h
      obtain ⟨hc, _⟩ := hps
      have r := renL_none (at0 []) xs hin
      have := CallC.frame hc hG (e := []) List.nodup_nil (by simp) rfl (fun i o ho => by simp at ho) (fun i o ho => by simp at ho) hx r.1.symm (r.2 _)
      rw [AOut.ren_free hf] at this
      have hb : backHeap [] V.H [] = V.H := by simp [backHeap, putBack]
      rw [hb] at this
      exact ⟨by rw [if_pos rfl]; exact this, fun _ => rfl⟩
    · cases h
  · rename_i e out0 Hs' orc0 _
    split at h
    · rename_i hcond
      obtain ⟨hnd, hin⟩ := hcond
      split at h
      · rename_i Hs qs hl
        cases h
        obtain ⟨hc, hps⟩ := hps
        obtain ⟨hp1, hp2⟩ := allP_append.1 hps
        obtain ⟨l1, l2, l3⟩ := looks_sound hl hp2
        obtain ⟨r1, r2⟩ := renL_pos0 e xs hin
        rcases hH with rfl | hf
        · have := CallC.frame hc hG (nodupB_sound hnd) l2 l1 (fun i o ho => (l3 i o ho).1) (fun i o ho => (l3 i o ho).2.1) hx r1.symm r2
          rw [← backD_eq (plains_sound hp1)] at this
          exact ⟨by rw [if_neg (by simp)]; exact this, fun h => absurd rfl h⟩
        · cases hf
      · cases h
    · cases h
  · rename_i zs out0 orc0
    split at h
    · rename_i args qs hb
      split at h
      · rename_i hf
        cases h
        rcases hH with rfl | hf
        · exact ⟨by rw [if_neg (by simp)]; exact CallC.read hps.1 hG hb hps.2 hf hx, fun _ => rfl⟩
        · cases hf
      · cases h
    · cases h
  · cases h

theorem funTarget_sound {x : AV} {u : Value} {f : FuncId} {as bs : List AV} (h : funTarget x = some (f, as, bs)) (hr : Rep V x u) : ∃ us vs : List Value, u = .func (.func f) us.toArray vs.toArray ∧ Reps V as us ∧ Reps V bs vs := by
  unfold funTarget at h
  split at h
  · cases h
    rename_i us vs
    exact ⟨us.toList, vs.toList, by rw [rep_lit hr], Reps.lits _, Reps.lits _⟩
  · cases h
    exact rep_fn hr
  · cases h

theorem call_sound {H : List AObj} {orc orc' : List Orc} {k : Kind} {out : AOut} {H' : List AObj} {ps : List Prop} (h : evalCall P G H ev o orc = some (k, out, H', orc', ps)) (hps : AllP ps) (hG : HeapRep G V)
    (hr : ∀ y ∈ o.op.operands, Rep V (ev y) (a.eval y)) (hH : V.H = H ∨ k = .free) : OpOk P G r V a o out (if k = .free then V.H else H') ∧ (k ≠ .eff → H' = H) := by
  unfold evalCall at h
  split at h
  · rename_i g args ts hop
    split at h
    · rename_i id b H1 orc1 hg
      cases h
      rcases hH with rfl | hH
      · have h1 : Rep V (ev g) (a.eval g) := hr g (by simp [hop, Op.operands, Call.operands])
        rw [hg] at h1
        obtain ⟨_, hv⟩ := rep_yl h1
        have h3 : Reps V (args.toList.map ev) (args.toList.map a.eval) := reps_map fun y hy => hr y (by simp [hop, Op.operands, Call.operands]; exact .inr (by simpa using hy))
        obtain ⟨f, tmps, x, y, k1, k2⟩ := hps.1 V _ rfl hG h3
        refine ⟨?_, fun h => absurd rfl h⟩
        rw [if_neg (by simp)]
        intro next Q n1 n2
        refine ⟨fun _ _ => trivial, ?_⟩
        have e : (args.toList.map a.eval).toArray = args.map a.eval := by apply Array.ext'; simp
        rw [e] at k1
        have hrun : (execOp a.eval o).run P V.w = .ok (.round (V.ρ id) f tmps x y) V.w := by
          rw [execOp, hop]
          simp [resolve, Deferred.ofValue, hv, invoke, k1]
        rw [Oper.semAt_eq _ _ _ (fun c hc => by rw [hop] at hc; cases hc), hrun]
        refine ⟨fun h => (by cases h), (k2 r).mono fun e w' he => ?_⟩
        obtain ⟨V', rfl, l1, l2, l3, rfl⟩ := he
        exact n1 V' _ _ rfl l1 l2 l3 (.pure _ _ (.lit _))
      · cases hH
    rename_i x0 orc0 _ hx0
    split at h
    · rename_i f as bs ht
      split at h
      · rename_i hok
        obtain ⟨us, vs, hu, h1, h2⟩ := funTarget_sound ht (hr g (by simp [hop, Op.operands, Call.operands]))
        have h3 : Reps V (args.toList.map ev) (args.toList.map a.eval) := reps_map fun y hy => hr y (by simp [hop, Op.operands, Call.operands]; exact .inr (by simpa using hy))
        have hx := (h1.append h3).append h2
        obtain ⟨hc, hk⟩ := enter_sound h hps hG hx hH
        refine ⟨OpOk.of_call (fun c hc => by rw [hop] at hc; cases hc) ?_ hc, hk⟩
        unfold funcOk at hok
        split at hok
        · rename_i fn hfn
          simp only [Bool.and_eq_true, Bool.not_eq_true', beq_eq_false_iff_ne, ne_eq] at hok
          obtain ⟨c, hb⟩ := Option.isSome_iff_exists.1 hok.1
          rw [execOp, hop]
          have e : us.toArray ++ args.map a.eval ++ vs.toArray = (us ++ args.toList.map a.eval ++ vs).toArray := by apply Array.ext'; simp
          simp [resolve, Deferred.ofValue, hu, invoke, callFunc, hfn, hok.2, hb, e]
        · cases hok
      · cases h
    · cases h
  · cases h
end
end Go.Am
