/- THE ABSTRACT MACHINE, 1: abstract values, objects and views; what represents what; how representation abides. -/
import Derived.OrdersIn
import Derived.RangeFuncIn
import Derived.WalkKit
namespace Go.Am
open Go

/-- An abstract value: data by value, own objects by number. -/
inductive AV where
  | lit (v : Value)
  | ptr (id off : Nat)
  | apt (id gen k j : Nat)
  | imm (cells : List AV)
  | sl (sz : Nat) (tight : Bool) (xs : List (List AV))
  | own (id gen off len : Nat)
  | mp (id : Nat)
  | yl (id : Nat)
  | fn (f : Fn) (first captured : List AV)
  | ifc (t : TypeId) (v : AV)
  | agg (cells : List AV)
  | tup (vs : List AV)
  | dead
instance : Inhabited AV := ⟨.dead⟩

/-- An object of the activation's own. -/
inductive AObj where
  | box (cells : List AV)
  | arr (gen sz : Nat) (fz : Bool) (xs : List (List AV))
  | map (es : List (AV × AV))
  | rng (st : LoopState) (pending : Option Code) (env : List AV) (params : Array Tmp) (assign body : Code)
  | dfd
  | gone
instance : Inhabited AObj := ⟨.gone⟩

/-- Data alone: what reads no own object. -/
inductive PRep (w : World) (M : Nat → Prop) : AV → Value → Prop
  | lit (v : Value) : PRep w M (.lit v) v
  | imm (cs : List AV) (a : Addr) (vs : Nat → Value) (hs : a.spot = none) (hb : cs ≠ [] → ¬ M a.block)
      (hc : ∀ j, j < cs.length → w.cell? ⟨a.block, a.off + j, none⟩ = some (vs j))
      (hr : ∀ j, j < cs.length → PRep w M (cs.getD j .dead) (vs j)) : PRep w M (.imm cs) (.pointer (some a))
  | sl (sz : Nat) (tight : Bool) (xs : List (List AV)) (A : Option Addr) (cap b o : Nat) (vs : Nat → Nat → Value)
      (hA : xs ≠ [] → A = some ⟨b, o, none⟩) (hb : xs ≠ [] → sz ≠ 0 → ¬ M b) (hcap : xs.length ≤ cap) (ht : tight = true → cap = xs.length)
      (hsz : ∀ x ∈ xs, x.length = sz)
      (hc : ∀ k j, k < xs.length → j < sz → w.cell? ⟨b, o + k * sz + j, none⟩ = some (vs k j))
      (ho : ∀ k j, k < xs.length → j < sz → (vs k j).oneCell' = true)
      (hr : ∀ k j, k < xs.length → j < sz → PRep w M ((xs.getD k []).getD j .dead) (vs k j)) : PRep w M (.sl sz tight xs) (.slice A xs.length cap)
  | agg (cs : List AV) (vs : List Value) (hl : vs.length = cs.length)
      (hr : ∀ j, j < cs.length → PRep w M (cs.getD j .dead) (vs.getD j undef)) : PRep w M (.agg cs) (.agg vs.toArray)
  | tup (cs : List AV) (vs : List Value) (hl : vs.length = cs.length)
      (hr : ∀ j, j < cs.length → PRep w M (cs.getD j .dead) (vs.getD j undef)) : PRep w M (.tup cs) (.tuple vs.toArray)
  | ifc (t : TypeId) (x : AV) (v : Value) (hr : PRep w M x v) : PRep w M (.ifc t x) (.iface t v)
  | fn (f : Fn) (as bs : List AV) (us vs : List Value) (hu : us.length = as.length) (hv : vs.length = bs.length)
      (ha : ∀ j, j < as.length → PRep w M (as.getD j .dead) (us.getD j undef))
      (hb : ∀ j, j < bs.length → PRep w M (bs.getD j .dead) (vs.getD j undef)) : PRep w M (.fn f as bs) (.func f us.toArray vs.toArray)

structure View where
  w : World
  M : Nat → Prop
  H : List AObj
  ρ : Nat → Nat

/-- A slice of an own array. -/
def OwnRep (V : View) (id sz off len : Nat) (v : Value) : Prop :=
  ∃ A cap c t, v = .slice A len cap ∧ (cap ≠ 0 → A = some ⟨V.ρ id, off * sz, none⟩) ∧ len ≤ cap ∧ cap ≤ maxLen ∧ V.w.heap[V.ρ id]? = some (.cells c t (0, 0)) ∧ (off + cap) * sz = c.size

def OwnOk (V : View) (id gen off len : Nat) (v : Value) : Prop :=
  v.oneCell' = true ∧ match V.H[id]? with
  | some (.arr g sz _ _) => gen ≤ g ∧ (gen = g → OwnRep V id sz off len v)
  | some .gone => True
  | _ => False
def AptOk (V : View) (id gen k j : Nat) (v : Value) : Prop :=
  v.oneCell' = true ∧ match V.H[id]? with
  | some (.arr g sz _ _) => gen ≤ g ∧ (gen = g → v = .pointer (some ⟨V.ρ id, k * sz + j, none⟩))
  | some .gone => True
  | _ => False

def AObj.isBox : AObj → Bool
  | .box _ | .gone => true
  | _ => false
def AObj.isMap : AObj → Bool
  | .map _ | .gone => true
  | _ => false
def AObj.isRng : AObj → Bool
  | .rng .. | .gone => true
  | _ => false
def KindOk (f : AObj → Bool) (V : View) (id : Nat) : Prop := ∃ o, V.H[id]? = some o ∧ f o = true

inductive Rep (V : View) : AV → Value → Prop
  | pure (x : AV) (v : Value) (h : PRep V.w V.M x v) : Rep V x v
  | dead (v : Value) : Rep V .dead v
  | ptr (id off : Nat) (h : KindOk AObj.isBox V id) : Rep V (.ptr id off) (.pointer (some ⟨V.ρ id, off, none⟩))
  | apt (id gen k j : Nat) (v : Value) (h : AptOk V id gen k j v) : Rep V (.apt id gen k j) v
  | own (id gen off len : Nat) (v : Value) (h : OwnOk V id gen off len v) : Rep V (.own id gen off len) v
  | mp (id : Nat) (h : KindOk AObj.isMap V id) : Rep V (.mp id) (.map (some (V.ρ id)))
  | yl (id : Nat) (h : KindOk AObj.isRng V id) : Rep V (.yl id) (.func (.yield (V.ρ id)) #[] #[])
  | agg (cs : List AV) (vs : List Value) (hl : vs.length = cs.length)
      (hr : ∀ j, j < cs.length → Rep V (cs.getD j .dead) (vs.getD j undef)) : Rep V (.agg cs) (.agg vs.toArray)
  | tup (cs : List AV) (vs : List Value) (hl : vs.length = cs.length)
      (hr : ∀ j, j < cs.length → Rep V (cs.getD j .dead) (vs.getD j undef)) : Rep V (.tup cs) (.tuple vs.toArray)
  | ifc (t : TypeId) (x : AV) (v : Value) (hr : Rep V x v) : Rep V (.ifc t x) (.iface t v)
  | fn (f : Fn) (as bs : List AV) (us vs : List Value) (hu : us.length = as.length) (hv : vs.length = bs.length)
      (ha : ∀ j, j < as.length → Rep V (as.getD j .dead) (us.getD j undef))
      (hb : ∀ j, j < bs.length → Rep V (bs.getD j .dead) (vs.getD j undef)) : Rep V (.fn f as bs) (.func f us.toArray vs.toArray)

/-- Two lists, place by place. -/
def Reps (V : View) (xs : List AV) (vs : List Value) : Prop := vs.length = xs.length ∧ ∀ j, j < xs.length → Rep V (xs.getD j .dead) (vs.getD j undef)

def ObjRep (V : View) (b : Nat) : AObj → Prop
  | .box cells => ∃ t vs, V.w.heap[b]? = some (.cells (List.toArray vs) t (0, 0)) ∧ Reps V cells vs
  | .arr _ sz _ xs => ∃ t c, V.w.heap[b]? = some (.cells c t (0, 0)) ∧ xs.length * sz ≤ c.size ∧ (∀ x ∈ xs, x.length = sz) ∧
      ∀ k j, k < xs.length → j < sz → ∃ v, c[k * sz + j]? = some v ∧ v.oneCell' = true ∧ Rep V ((xs.getD k []).getD j .dead) v
  | .map _ => False
  | .rng st pending env params assign body => ∃ fn vs D, V.w.heap[b]? = some (.loop { state := st, pending := pending, fn := fn, tmps := List.toArray vs, params := params, assign := assign, body := body, defers := D }) ∧ Reps V env vs
  | .dfd => V.w.heap[b]? = some (.deferred (some []))
  | .gone => True

def AObj.open_ : AObj → Bool
  | .arr _ _ fz _ => !fz
  | .gone => false
  | _ => true

structure HeapRep (G : Nat → Option (List AV)) (V : View) : Prop where
  lt : ∀ id, id < V.H.length → V.ρ id < V.w.heap.size
  obj : ∀ id o, V.H[id]? = some o → ObjRep V (V.ρ id) o
  inj : ∀ i j, i < V.H.length → j < V.H.length → V.ρ i = V.ρ j → i = j
  mutb : ∀ id o, V.H[id]? = some o → o.open_ = true → V.M (V.ρ id)
  glob : ∀ g cs, G g = some cs → PRep V.w V.M (.imm cs) (.pointer (some ⟨g, 0, none⟩))

def ObjStep (V V' : View) (id : Nat) : Prop :=
  match V.H[id]?, V'.H[id]? with
  | some (.arr g sz _ _), some (.arr g' sz' _ _) => g < g' ∨ (g = g' ∧ sz = sz' ∧ V'.ρ id = V.ρ id ∧ ∀ c t fr, V.w.heap[V.ρ id]? = some (.cells c t fr) → ∃ c', V'.w.heap[V.ρ id]? = some (.cells c' t fr) ∧ c'.size = c.size)
  | some (.box _), some (.box _) => V'.ρ id = V.ρ id
  | some (.map _), some (.map _) => V'.ρ id = V.ρ id
  | some (.rng ..), some (.rng ..) => V'.ρ id = V.ρ id
  | some .dfd, some .dfd => V'.ρ id = V.ρ id
  | some (.arr ..), some .gone => True
  | some _, some .gone => V'.ρ id = V.ρ id
  | _, _ => False

structure Step (V V' : View) : Prop where
  os : V'.w.os = V.w.os
  tape : V'.w.tape = V.w.tape
  output : V'.w.output = V.w.output
  size : V.w.heap.size ≤ V'.w.heap.size
  keep : ∀ b, b < V.w.heap.size → (∀ id, id < V.H.length → V.ρ id ≠ b) → V'.w.heap[b]? = V.w.heap[b]? ∧ (V'.M b ↔ V.M b)
  data : ∀ b, b < V.w.heap.size → ¬ V.M b → V'.w.heap[b]? = V.w.heap[b]? ∧ ¬ V'.M b
  hlen : V.H.length ≤ V'.H.length
  fresh : ∀ id, id < V'.H.length → (id < V.H.length ∧ V'.ρ id = V.ρ id) ∨ V.w.heap.size ≤ V'.ρ id
  obj : ∀ id, id < V.H.length → ObjStep V V' id

theorem cell_lt {w : World} {b o : Nat} {v : Value} (h : w.cell? ⟨b, o, none⟩ = some v) : b < w.heap.size := World.block_lt_of_cell? w _ h
theorem cell_of_heap {w w' : World} {b o : Nat} (h : w'.heap[b]? = w.heap[b]?) : w'.cell? ⟨b, o, none⟩ = w.cell? ⟨b, o, none⟩ := by simp [World.cell?, h]

theorem PRep.step {w w' : World} {M M' : Nat → Prop} (hd : ∀ b, b < w.heap.size → ¬ M b → w'.heap[b]? = w.heap[b]? ∧ ¬ M' b) {x : AV} {v : Value}
    (h : PRep w M x v) : PRep w' M' x v := by
  induction h with
  | lit v => exact .lit v
  | imm cs a vs hs hb hc _ ih =>
    by_cases hn : cs = []
    · subst hn
      exact .imm [] a vs hs (fun h => absurd rfl h) (fun j hj => absurd hj (by simp)) (fun j hj => absurd hj (by simp))
    · have hpos : 0 < cs.length := List.length_pos_iff.2 hn
      have hlt : a.block < w.heap.size := cell_lt (hc 0 hpos)
      have := hd a.block hlt (hb hn)
      exact .imm cs a vs hs (fun _ => this.2) (fun j hj => (cell_of_heap this.1).trans (hc j hj)) ih
  | sl sz tight xs A cap b o vs hA hb hcap ht hsz hc ho _ ih =>
    by_cases hn : xs = []
    · subst hn
      exact .sl sz tight [] A cap b o vs hA (fun h => absurd rfl h) hcap ht hsz (fun k j hk => absurd hk (by simp)) (fun k j hk => absurd hk (by simp)) (fun k j hk => absurd hk (by simp))
    · by_cases hz : sz = 0
      · subst hz
        exact .sl 0 tight xs A cap b o vs hA (fun _ h => absurd rfl h) hcap ht hsz (fun k j _ hj => absurd hj (by omega)) (fun k j _ hj => absurd hj (by omega)) (fun k j _ hj => absurd hj (by omega))
      · have hpos : 0 < xs.length := List.length_pos_iff.2 hn
        have hlt : b < w.heap.size := cell_lt (hc 0 0 hpos (by omega))
        have := hd b hlt (hb hn hz)
        exact .sl sz tight xs A cap b o vs hA (fun _ _ => this.2) hcap ht hsz (fun k j hk hj => (cell_of_heap this.1).trans (hc k j hk hj)) ho ih
  | agg cs vs hl _ ih => exact .agg cs vs hl ih
  | tup cs vs hl _ ih => exact .tup cs vs hl ih
  | ifc t x v _ ih => exact .ifc t x v ih
  | fn f as bs us vs hu hv _ _ iha ihb => exact .fn f as bs us vs hu hv iha ihb

theorem PRep.stepV {V V' : View} (hs : Step V V') {x : AV} {v : Value} (h : PRep V.w V.M x v) : PRep V'.w V'.M x v := h.step hs.data

theorem Step.same {V V' : View} (hs : Step V V') {id g sz fz xs} (hlt : id < V.H.length) (h : V'.H[id]? = some (.arr g sz fz xs)) :
    ∃ g0 sz0 fz0 xs0, V.H[id]? = some (.arr g0 sz0 fz0 xs0) ∧ (g0 < g ∨ (g0 = g ∧ sz0 = sz ∧ V'.ρ id = V.ρ id ∧ ∀ c t fr, V.w.heap[V.ρ id]? = some (.cells c t fr) → ∃ c', V'.w.heap[V.ρ id]? = some (.cells c' t fr) ∧ c'.size = c.size)) := by
  have ho := hs.obj id hlt
  unfold ObjStep at ho
  rw [h] at ho
  cases hH : V.H[id]? with
  | none => simp [hH] at ho
  | some o =>
    rw [hH] at ho
    cases o <;> simp only at ho
    exact ⟨_, _, _, _, rfl, ho⟩

theorem OwnOk.step {V V' : View} (hs : Step V V') {id gen off len : Nat} {v : Value} (h : OwnOk V id gen off len v) : OwnOk V' id gen off len v := by
  have hlt : id < V.H.length := by
    unfold OwnOk at h
    rcases Nat.lt_or_ge id V.H.length with hl | hl
    · exact hl
    · rw [List.getElem?_eq_none hl] at h; exact h.2.elim
  have ho := hs.obj id hlt
  unfold OwnOk at h ⊢
  refine ⟨h.1, ?_⟩
  have h := h.2
  unfold ObjStep at ho
  cases hH : V.H[id]? with
  | none => simp [hH] at h
  | some o =>
    rw [hH] at h ho
    cases hH' : V'.H[id]? with
    | none => rw [hH'] at ho; cases o <;> exact ho.elim
    | some o' =>
      rw [hH'] at ho
      cases o <;> cases o' <;> simp only at h ho ⊢ <;> try exact ho.elim
      case arr.arr g sz fz xs g' sz' fz' xs' =>
        obtain ⟨hle, hrep⟩ := h
        rcases ho with hlt' | ⟨rfl, rfl, hρ, hkeep⟩
        · exact ⟨by omega, fun e => absurd e (by omega)⟩
        · refine ⟨hle, fun e => ?_⟩
          obtain ⟨A, cap, c, t, hv, h0, h1, h2, h3, h4⟩ := hrep e
          obtain ⟨c', hc', hsz⟩ := hkeep c t _ h3
          exact ⟨A, cap, c', t, hv, by rw [hρ]; exact h0, h1, h2, by rw [hρ]; exact hc', by rw [hsz]; exact h4⟩

theorem AptOk.step {V V' : View} (hs : Step V V') {id gen k j : Nat} {v : Value} (h : AptOk V id gen k j v) : AptOk V' id gen k j v := by
  have hlt : id < V.H.length := by
    unfold AptOk at h
    rcases Nat.lt_or_ge id V.H.length with hl | hl
    · exact hl
    · rw [List.getElem?_eq_none hl] at h; exact h.2.elim
  have ho := hs.obj id hlt
  unfold AptOk at h ⊢
  refine ⟨h.1, ?_⟩
  have h := h.2
  unfold ObjStep at ho
  cases hH : V.H[id]? with
  | none => simp [hH] at h
  | some o =>
    rw [hH] at h ho
    cases hH' : V'.H[id]? with
    | none => rw [hH'] at ho; cases o <;> exact ho.elim
    | some o' =>
      rw [hH'] at ho
      cases o <;> cases o' <;> simp only at h ho ⊢ <;> try exact ho.elim
      case arr.arr g sz fz xs g' sz' fz' xs' =>
        obtain ⟨hle, hrep⟩ := h
        rcases ho with hlt' | ⟨rfl, rfl, hρ, _⟩
        · exact ⟨by omega, fun e => absurd e (by omega)⟩
        · exact ⟨hle, fun e => by rw [hρ]; exact hrep e⟩

theorem KindOk.lt {f : AObj → Bool} {V : View} {id : Nat} (h : KindOk f V id) : id < V.H.length := by
  obtain ⟨o, ho, _⟩ := h
  exact (List.getElem?_eq_some_iff.1 ho).1

theorem KindOk.step {V V' : View} (hs : Step V V') {f : AObj → Bool} (hg : f .gone = true) (ha : ∀ g sz fz xs, f (.arr g sz fz xs) = false)
    (hbx : f (.box []) = true → ∀ c, f (.box c) = true) (hbn : f (.box []) = false → ∀ c, f (.box c) = false)
    (hmx : ∀ a b, f (.map a) = f (.map b)) (hrx : ∀ s p e q a b s' p' e' q' a' b', f (.rng s p e q a b) = f (.rng s' p' e' q' a' b'))
    {id : Nat} (h : KindOk f V id) : KindOk f V' id ∧ V'.ρ id = V.ρ id := by
  have hlt := h.lt
  obtain ⟨o, hH, hf⟩ := h
  have ho := hs.obj id hlt
  unfold ObjStep at ho
  rw [hH] at ho
  cases hH' : V'.H[id]? with
  | none => rw [hH'] at ho; cases o <;> exact ho.elim
  | some o' =>
    rw [hH'] at ho
    cases o <;> cases o' <;> simp only at ho <;> first
      | exact ho.elim
      | (rw [ha] at hf; cases hf)
      | exact ⟨⟨_, hH', hg⟩, ho⟩
      | exact ⟨⟨_, hH', (hmx _ _).trans hf⟩, ho⟩
      | exact ⟨⟨_, hH', (hrx _ _ _ _ _ _ _ _ _ _ _ _).trans hf⟩, ho⟩
      | (refine ⟨⟨_, hH', ?_⟩, ho⟩
         cases hb0 : f (.box []) with
         | true => exact hbx hb0 _
         | false => rw [hbn hb0] at hf; cases hf)
      | exact ⟨⟨_, hH', hf⟩, ho⟩

theorem boxOk_step {V V' : View} (hs : Step V V') {id : Nat} (h : KindOk AObj.isBox V id) : KindOk AObj.isBox V' id ∧ V'.ρ id = V.ρ id :=
  h.step hs rfl (fun _ _ _ _ => rfl) (fun _ _ => rfl) (fun h => absurd h (by simp [AObj.isBox])) (fun _ _ => rfl) (fun _ _ _ _ _ _ _ _ _ _ _ _ => rfl)
theorem mapOk_step {V V' : View} (hs : Step V V') {id : Nat} (h : KindOk AObj.isMap V id) : KindOk AObj.isMap V' id ∧ V'.ρ id = V.ρ id :=
  h.step hs rfl (fun _ _ _ _ => rfl) (fun h => absurd h (by simp [AObj.isMap])) (fun _ _ => rfl) (fun _ _ => rfl) (fun _ _ _ _ _ _ _ _ _ _ _ _ => rfl)
theorem rngOk_step {V V' : View} (hs : Step V V') {id : Nat} (h : KindOk AObj.isRng V id) : KindOk AObj.isRng V' id ∧ V'.ρ id = V.ρ id :=
  h.step hs rfl (fun _ _ _ _ => rfl) (fun h => absurd h (by simp [AObj.isRng])) (fun _ _ => rfl) (fun _ _ => rfl) (fun _ _ _ _ _ _ _ _ _ _ _ _ => rfl)

theorem Rep.step {V V' : View} (hs : Step V V') {x : AV} {v : Value} (h : Rep V x v) : Rep V' x v := by
  induction h with
  | pure x v h => exact .pure x v (h.stepV hs)
  | dead v => exact .dead v
  | ptr id off h => obtain ⟨h1, h2⟩ := boxOk_step hs h; rw [← h2]; exact .ptr id off h1
  | apt id gen k j v h => exact .apt id gen k j v (h.step hs)
  | own id gen off len v h => exact .own id gen off len v (h.step hs)
  | mp id h => obtain ⟨h1, h2⟩ := mapOk_step hs h; rw [← h2]; exact .mp id h1
  | yl id h => obtain ⟨h1, h2⟩ := rngOk_step hs h; rw [← h2]; exact .yl id h1
  | agg cs vs hl _ ih => exact .agg cs vs hl ih
  | tup cs vs hl _ ih => exact .tup cs vs hl ih
  | ifc t x v _ ih => exact .ifc t x v ih
  | fn f as bs us vs hu hv _ _ iha ihb => exact .fn f as bs us vs hu hv iha ihb

theorem Reps.step {V V' : View} (hs : Step V V') {xs : List AV} {vs : List Value} (h : Reps V xs vs) : Reps V' xs vs := ⟨h.1, fun j hj => (h.2 j hj).step hs⟩

theorem ObjRep.step {V V' : View} (hs : Step V V') {b : Nat} {o : AObj} (hb : V'.w.heap[b]? = V.w.heap[b]?) (h : ObjRep V b o) : ObjRep V' b o := by
  cases o with
  | box cells => obtain ⟨t, vs, h1, h2⟩ := h; exact ⟨t, vs, hb.trans h1, h2.step hs⟩
  | arr g sz fz xs =>
    obtain ⟨t, c, h1, h2, h3, h4⟩ := h
    exact ⟨t, c, hb.trans h1, h2, h3, fun k j hk hj => let ⟨v, hv, h1, hr⟩ := h4 k j hk hj; ⟨v, hv, h1, hr.step hs⟩⟩
  | map es => exact h
  | rng st p env ps as bd => obtain ⟨fn, vs, D, h1, h2⟩ := h; exact ⟨fn, vs, D, hb.trans h1, h2.step hs⟩
  | dfd => exact hb.trans h
  | gone => trivial

theorem ObjStep.refl {V V' : View} {id : Nat} (hlt : id < V.H.length) (hH : V'.H[id]? = V.H[id]?) (hρ : V'.ρ id = V.ρ id) (hw : V'.w.heap[V.ρ id]? = V.w.heap[V.ρ id]?) : ObjStep V V' id := by
  unfold ObjStep
  rw [hH]
  cases ho : V.H[id]? with
  | none => exact absurd (List.getElem?_eq_none_iff.1 ho) (by omega)
  | some o =>
    cases o <;> simp only <;> first | exact hρ | exact .inr ⟨trivial, trivial, hρ, fun c t fr hc => ⟨c, hw.trans hc, rfl⟩⟩

theorem Step.refl (V : View) : Step V V :=
  ⟨rfl, rfl, rfl, Nat.le_refl _, fun _ _ _ => ⟨rfl, Iff.rfl⟩, fun _ _ h => ⟨rfl, h⟩, Nat.le_refl _, fun _ h => .inl ⟨h, rfl⟩, fun _ h => .refl h rfl rfl rfl⟩

theorem ObjStep.trans {V V' V'' : View} {id : Nat} (h : ObjStep V V' id) (h' : ObjStep V' V'' id) : ObjStep V V'' id := by
  unfold ObjStep at *
  cases h1 : V.H[id]? with
  | none => simp [h1] at h
  | some o1 =>
    cases h2 : V'.H[id]? with
    | none => rw [h1, h2] at h; cases o1 <;> exact h.elim
    | some o2 =>
      cases h3 : V''.H[id]? with
      | none => rw [h2, h3] at h'; cases o2 <;> exact h'.elim
      | some o3 =>
        rw [h1, h2] at h
        rw [h2, h3] at h'
        cases o1 <;> cases o2 <;> simp only at h <;> first
          | exact h.elim
          | (cases o3 <;> simp only at h' ⊢ <;> first
              | exact h'.elim
              | exact h'.trans h
              | trivial
              | skip)
        case arr.arr.arr g sz fz xs g2 sz2 fz2 xs2 g3 sz3 fz3 xs3 =>
          rcases h with h | ⟨rfl, rfl, hρ, hk⟩
          · rcases h' with h' | ⟨rfl, _⟩
            · exact .inl (by omega)
            · exact .inl h
          · rcases h' with h' | ⟨rfl, rfl, hρ', hk'⟩
            · exact .inl h'
            · refine .inr ⟨rfl, rfl, hρ'.trans hρ, fun c t fr hc => ?_⟩
              obtain ⟨c', hc', hs'⟩ := hk c t fr hc
              obtain ⟨c2, hc2, hs2⟩ := hk' c' t fr (by rw [hρ]; exact hc')
              exact ⟨c2, by rw [← hρ]; exact hc2, hs2.trans hs'⟩

theorem Step.trans {V V' V'' : View} (h : Step V V') (h' : Step V' V'') : Step V V'' where
  os := h'.os.trans h.os
  tape := h'.tape.trans h.tape
  output := h'.output.trans h.output
  size := Nat.le_trans h.size h'.size
  keep b hb hn := by
    obtain ⟨a1, a2⟩ := h.keep b hb hn
    have := h'.keep b (Nat.lt_of_lt_of_le hb h.size) (fun id hid e => by
      rcases h.fresh id hid with ⟨hl, hρ⟩ | hge
      · exact hn id hl (hρ ▸ e)
      · omega)
    exact ⟨this.1.trans a1, this.2.trans a2⟩
  data b hb hn := by
    obtain ⟨a1, a2⟩ := h.data b hb hn
    obtain ⟨b1, b2⟩ := h'.data b (Nat.lt_of_lt_of_le hb h.size) a2
    exact ⟨b1.trans a1, b2⟩
  hlen := Nat.le_trans h.hlen h'.hlen
  fresh id hid := by
    rcases h'.fresh id hid with ⟨hl, hρ⟩ | hge
    · rcases h.fresh id hl with ⟨hl0, hρ0⟩ | hge
      · exact .inl ⟨hl0, hρ.trans hρ0⟩
      · exact .inr (by rw [hρ]; exact hge)
    · exact .inr (Nat.le_trans h.size hge)
  obj id hid := (h.obj id hid).trans (h'.obj id (Nat.lt_of_lt_of_le hid h.hlen))
end Go.Am
