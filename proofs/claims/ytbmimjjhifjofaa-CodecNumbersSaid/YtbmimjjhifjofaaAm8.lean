/- THE ABSTRACT MACHINE, 8: how a view goes on: a new object, new data, an object that turns. -/
import Derived.Test.YtbmimjjhifjofaaAm7
namespace Go.Am
open Go

def AV.one : AV → Bool
  | .lit v => v.oneCell'
  | .agg _ | .tup _ | .dead => false
  | _ => true
theorem one_sound {V : View} {x : AV} {v : Value} (h : x.one = true) (hr : Rep V x v) : v.oneCell' = true := by
  cases x with
  | lit u => rw [rep_lit hr]; exact h
  | ptr id off => obtain ⟨_, rfl⟩ := rep_ptr hr; rfl
  | apt id g k j => exact (rep_apt hr).1
  | imm cs => obtain ⟨_, _, rfl, _⟩ := imm_inv (rep_imm hr); rfl
  | sl sz t xs => obtain ⟨_, _, rfl, _⟩ := sl_inv (rep_sl hr); rfl
  | own id g o l => exact (rep_own hr).1
  | mp id => obtain ⟨_, rfl⟩ := rep_mp hr; rfl
  | yl id => obtain ⟨_, rfl⟩ := rep_yl hr; rfl
  | fn f a b => obtain ⟨_, _, rfl, _⟩ := rep_fn hr; rfl
  | ifc t x => obtain ⟨_, rfl, _⟩ := rep_ifc hr; rfl
  | agg _ => cases h
  | tup _ => cases h
  | dead => cases h
theorem ones_sound {V : View} {cs : List AV} {vs : List Value} (h : cs.all AV.one = true) (hr : Reps V cs vs) : ∀ v ∈ vs, v.oneCell' = true := by
  intro v hv
  obtain ⟨j, hj, rfl⟩ := List.getElem_of_mem hv
  have hj' : j < cs.length := by rw [← hr.1]; exact hj
  have := hr.2 j hj'
  rw [List.getD_eq_getElem?_getD, List.getElem?_eq_getElem hj', List.getD_eq_getElem?_getD, List.getElem?_eq_getElem hj] at this
  exact one_sound (List.all_eq_true.1 h _ (List.getElem_mem hj')) this

section
variable {G : Nat → Option (List AV)} {V : View}

theorem HeapRep.glob_step {V' : View} (hG : HeapRep G V) (hs : Step V V') : ∀ g cs, G g = some cs → PRep V'.w V'.M (.imm cs) (.pointer (some ⟨g, 0, none⟩)) :=
  fun g cs hg => (hG.glob g cs hg).stepV hs

theorem push_old {h : Array Obj} {o : Obj} {b : Nat} (hb : b < h.size) : (h.push o)[b]? = h[b]? := by rw [Array.getElem?_push, if_neg (by omega)]

/-- A new object. -/
theorem step_new (hG : HeapRep G V) {w' : World} {o : Obj} {obj : AObj} (hh : w'.heap = V.w.heap.push o) (h1 : w'.os = V.w.os) (h2 : w'.tape = V.w.tape) (h3 : w'.output = V.w.output)
    (hob : ∀ V' : View, V'.w = w' → Step V V' → ObjRep V' V.w.heap.size obj) : ∃ V', V'.w = w' ∧ V'.H = V.H ++ [obj] ∧ Step V V' ∧ HeapRep G V' ∧ V'.ρ V.H.length = V.w.heap.size := by
  let V' : View := { w := w', M := fun b => V.M b ∨ b = V.w.heap.size, H := V.H ++ [obj], ρ := fun id => if id = V.H.length then V.w.heap.size else V.ρ id }
  have ρn : V'.ρ V.H.length = V.w.heap.size := if_pos rfl
  have ρo : ∀ id, id < V.H.length → V'.ρ id = V.ρ id := fun id h => if_neg (by omega)
  have hst : Step V V' := {
    os := h1
    tape := h2
    output := h3
    size := by show _ ≤ w'.heap.size; rw [hh]; simp
    keep := fun b hb _ => ⟨by show w'.heap[b]? = _; rw [hh]; exact push_old hb, ⟨fun h => h.resolve_right (by omega), .inl⟩⟩
    data := fun b hb hn => ⟨by show w'.heap[b]? = _; rw [hh]; exact push_old hb, fun h => hn (h.resolve_right (by omega))⟩
    hlen := by show _ ≤ (V.H ++ [obj]).length; simp
    fresh := fun id hid => by
      have hid' : id < V.H.length + 1 := by simpa [V'] using hid
      by_cases e : id = V.H.length
      · subst e; exact .inr (by rw [ρn]; exact Nat.le_refl _)
      · exact .inl ⟨by omega, ρo id (by omega)⟩
    obj := fun id hid => .refl hid (List.getElem?_append_left hid) (ρo id hid) (by show w'.heap[_]? = _; rw [hh]; exact push_old (hG.lt id hid)) }
  refine ⟨V', rfl, rfl, hst, ?_, ρn⟩
  have split : ∀ id, id < V'.H.length → id < V.H.length ∨ id = V.H.length := fun id hid => by
    have hid' : id < V.H.length + 1 := by simpa [V'] using hid
    omega
  exact {
    lt := fun id hid => by
      rcases split id hid with h | rfl
      · rw [ρo id h]; exact Nat.lt_of_lt_of_le (hG.lt id h) hst.size
      · rw [ρn]; show _ < w'.heap.size; rw [hh]; simp
    obj := fun id o' ho => by
      rcases split id (List.getElem?_eq_some_iff.1 ho).1 with h | rfl
      · have ho' : V.H[id]? = some o' := by rw [← List.getElem?_append_left (l₂ := [obj]) h]; exact ho
        rw [ρo id h]
        exact (hG.obj id o' ho').step hst (by show w'.heap[_]? = _; rw [hh]; exact push_old (hG.lt id h))
      · have : V'.H[V.H.length]? = some obj := by show (V.H ++ [obj])[_]? = _; simp
        rw [this] at ho
        cases ho
        rw [ρn]
        exact hob V' rfl hst
    inj := fun i j hi hj e => by
      rcases split i hi with h | rfl <;> rcases split j hj with k | rfl
      · rw [ρo i h, ρo j k] at e; exact hG.inj i j h k e
      · rw [ρo i h, ρn] at e; have := hG.lt i h; omega
      · rw [ρn, ρo j k] at e; have := hG.lt j k; omega
      · rfl
    mutb := fun id o' ho hop => by
      rcases split id (List.getElem?_eq_some_iff.1 ho).1 with h | rfl
      · have ho' : V.H[id]? = some o' := by rw [← List.getElem?_append_left (l₂ := [obj]) h]; exact ho
        exact .inl (by rw [ρo id h]; exact hG.mutb id o' ho' hop)
      · exact .inr ρn
    glob := hG.glob_step hst }

/-- New data: a block that no object holds. -/
theorem step_data (hG : HeapRep G V) {w' : World} {o : Obj} (hh : w'.heap = V.w.heap.push o) (h1 : w'.os = V.w.os) (h2 : w'.tape = V.w.tape) (h3 : w'.output = V.w.output) :
    ∃ V', V'.w = w' ∧ V'.H = V.H ∧ Step V V' ∧ HeapRep G V' ∧ ¬ V'.M V.w.heap.size := by
  let V' : View := { w := w', M := fun b => V.M b ∧ b ≠ V.w.heap.size, H := V.H, ρ := V.ρ }
  have hst : Step V V' := {
    os := h1
    tape := h2
    output := h3
    size := by show _ ≤ w'.heap.size; rw [hh]; simp
    keep := fun b hb _ => ⟨by show w'.heap[b]? = _; rw [hh]; exact push_old hb, ⟨fun h => h.1, fun h => ⟨h, by omega⟩⟩⟩
    data := fun b hb hn => ⟨by show w'.heap[b]? = _; rw [hh]; exact push_old hb, fun h => hn h.1⟩
    hlen := Nat.le_refl _
    fresh := fun id hid => .inl ⟨hid, rfl⟩
    obj := fun id hid => .refl hid rfl rfl (by show w'.heap[_]? = _; rw [hh]; exact push_old (hG.lt id hid)) }
  exact ⟨V', rfl, rfl, hst, {
    lt := fun id hid => Nat.lt_of_lt_of_le (hG.lt id hid) hst.size
    obj := fun id o' ho => (hG.obj id o' ho).step hst (by show w'.heap[_]? = _; rw [hh]; exact push_old (hG.lt id (List.getElem?_eq_some_iff.1 ho).1))
    inj := hG.inj
    mutb := fun id o' ho hop => ⟨hG.mutb id o' ho hop, by have := hG.lt id (List.getElem?_eq_some_iff.1 ho).1; show V.ρ id ≠ _; omega⟩
    glob := hG.glob_step hst }, fun h => h.2 rfl⟩

/-- The world alone turns, not the heap. -/
theorem step_calm (hG : HeapRep G V) {w' : World} (hh : w'.heap = V.w.heap) (h1 : w'.os = V.w.os) (h2 : w'.tape = V.w.tape) (h3 : w'.output = V.w.output) :
    ∃ V', V'.w = w' ∧ V'.H = V.H ∧ V'.ρ = V.ρ ∧ V'.M = V.M ∧ Step V V' ∧ HeapRep G V' := by
  let V' : View := { w := w', M := V.M, H := V.H, ρ := V.ρ }
  have hst : Step V V' := {
    os := h1
    tape := h2
    output := h3
    size := by show _ ≤ w'.heap.size; rw [hh]; exact Nat.le_refl _
    keep := fun b hb _ => ⟨by show w'.heap[b]? = _; rw [hh], Iff.rfl⟩
    data := fun b hb hn => ⟨by show w'.heap[b]? = _; rw [hh], hn⟩
    hlen := Nat.le_refl _
    fresh := fun id hid => .inl ⟨hid, rfl⟩
    obj := fun id hid => .refl hid rfl rfl (by show w'.heap[_]? = _; rw [hh]) }
  exact ⟨V', rfl, rfl, rfl, rfl, hst, {
    lt := fun id hid => by show _ < w'.heap.size; rw [hh]; exact hG.lt id hid
    obj := fun id o' ho => (hG.obj id o' ho).step hst (by show w'.heap[_]? = _; rw [hh])
    inj := hG.inj
    mutb := hG.mutb
    glob := hG.glob_step hst }⟩

/-- An open object's cells turn where they lie. -/
theorem step_set (hG : HeapRep G V) {id : Nat} {obj obj' : AObj} (hid : V.H[id]? = some obj) (hop : obj.open_ = true) {w' : World} {c c' : Array Value} {t : TypeId}
    (hc : V.w.heap[V.ρ id]? = some (.cells c t (0, 0))) (hc' : w'.heap[V.ρ id]? = some (.cells c' t (0, 0))) (hsz : c'.size = c.size)
    (hh : ∀ b, b ≠ V.ρ id → w'.heap[b]? = V.w.heap[b]?) (hs : w'.heap.size = V.w.heap.size) (h1 : w'.os = V.w.os) (h2 : w'.tape = V.w.tape) (h3 : w'.output = V.w.output)
    (hkind : match obj, obj' with | .box _, .box _ => True | .arr g sz _ _, .arr g' sz' fz _ => g' = g ∧ sz' = sz ∧ fz = false | _, _ => False)
    (hob : ∀ V' : View, V'.w = w' → Step V V' → ObjRep V' (V.ρ id) obj') : ∃ V', V'.w = w' ∧ V'.H = V.H.set id obj' ∧ Step V V' ∧ HeapRep G V' := by
  have hlt := (List.getElem?_eq_some_iff.1 hid).1
  let V' : View := { w := w', M := V.M, H := V.H.set id obj', ρ := V.ρ }
  have hM := hG.mutb id obj hid hop
  have Hs : V'.H[id]? = some obj' := by show (V.H.set id obj')[id]? = _; rw [List.getElem?_set_self hlt]
  have Ho : ∀ i, i ≠ id → V'.H[i]? = V.H[i]? := fun i hi => by show (V.H.set id obj')[i]? = _; rw [List.getElem?_set_ne (fun e => hi e.symm)]
  have hl : V'.H.length = V.H.length := by show (V.H.set id obj').length = _; simp
  have ne : ∀ i, i < V.H.length → i ≠ id → V.ρ i ≠ V.ρ id := fun i hi hne e => hne (hG.inj i id hi hlt e)
  have hst : Step V V' := {
    os := h1
    tape := h2
    output := h3
    size := Nat.le_of_eq hs.symm
    keep := fun b _ hn => ⟨hh b fun e => hn id hlt e.symm, Iff.rfl⟩
    data := fun b _ hn => ⟨hh b fun e => hn (e ▸ hM), hn⟩
    hlen := Nat.le_of_eq hl.symm
    fresh := fun i hi => .inl ⟨by rw [hl] at hi; exact hi, rfl⟩
    obj := fun i hi => by
      by_cases e : i = id
      · subst e
        unfold ObjStep
        rw [hid, Hs]
        cases obj <;> cases obj' <;> simp only at hkind ⊢ <;> first
          | exact hkind.elim
          | trivial
          | (obtain ⟨rfl, rfl, _⟩ := hkind
             exact .inr ⟨rfl, rfl, rfl, fun c0 t0 fr hc0 => by
               rw [hc] at hc0
               cases hc0
               exact ⟨c', hc', hsz⟩⟩)
      · exact .refl hi (Ho i e) rfl (hh _ (ne i hi e)) }
  refine ⟨V', rfl, rfl, hst, ?_⟩
  exact {
    lt := fun i hi => by rw [hl] at hi; show V.ρ i < w'.heap.size; rw [hs]; exact hG.lt i hi
    obj := fun i o ho => by
      by_cases e : i = id
      · subst e; rw [Hs] at ho; cases ho; exact hob V' rfl hst
      · rw [Ho i e] at ho
        exact (hG.obj i o ho).step hst (hh _ (ne i (List.getElem?_eq_some_iff.1 ho).1 e))
    inj := fun i j hi hj => by rw [hl] at hi hj; exact hG.inj i j hi hj
    mutb := fun i o ho hop' => by
      by_cases e : i = id
      · subst e; exact hM
      · rw [Ho i e] at ho; exact hG.mutb i o ho hop'
    glob := hG.glob_step hst }

/-- An array is renewed: in a new block, or where it lies, under a new generation. -/
theorem step_renew (hG : HeapRep G V) {id g sz : Nat} {xs xs' : List (List AV)} (hid : V.H[id]? = some (.arr g sz false xs)) {w' : World} {b' : Nat}
    (hb' : b' = V.ρ id ∨ V.w.heap.size ≤ b') (hlt' : b' < w'.heap.size) (hsize : V.w.heap.size ≤ w'.heap.size)
    (hh : ∀ b, b < V.w.heap.size → b ≠ V.ρ id → w'.heap[b]? = V.w.heap[b]?) (h1 : w'.os = V.w.os) (h2 : w'.tape = V.w.tape) (h3 : w'.output = V.w.output)
    (hob : ∀ V' : View, V'.w = w' → Step V V' → ObjRep V' b' (.arr (g + 1) sz false xs')) : ∃ V', V'.w = w' ∧ V'.H = V.H.set id (.arr (g + 1) sz false xs') ∧ Step V V' ∧ HeapRep G V' ∧ V'.ρ id = b' := by
  have hlt := (List.getElem?_eq_some_iff.1 hid).1
  have hM := hG.mutb id _ hid rfl
  let V' : View := { w := w', M := fun b => V.M b ∨ b = b', H := V.H.set id (.arr (g + 1) sz false xs'), ρ := fun i => if i = id then b' else V.ρ i }
  have Hs : V'.H[id]? = some (.arr (g + 1) sz false xs') := by show (V.H.set id _)[id]? = _; rw [List.getElem?_set_self hlt]
  have Ho : ∀ i, i ≠ id → V'.H[i]? = V.H[i]? := fun i hi => by show (V.H.set id _)[i]? = _; rw [List.getElem?_set_ne (fun e => hi e.symm)]
  have hl : V'.H.length = V.H.length := by show (V.H.set id _).length = _; simp
  have ne : ∀ i, i < V.H.length → i ≠ id → V.ρ i ≠ V.ρ id := fun i hi hne e => hne (hG.inj i id hi hlt e)
  have ρs : V'.ρ id = b' := if_pos rfl
  have ρo : ∀ i, i ≠ id → V'.ρ i = V.ρ i := fun i hi => if_neg hi
  have Mo : ∀ b, b < V.w.heap.size → (V'.M b ↔ V.M b) := fun b hb => ⟨fun h => h.elim (fun h => h) fun e => by
    rcases hb' with e' | e'
    · rw [e, e']; exact hM
    · omega, .inl⟩
  have hst : Step V V' := {
    os := h1
    tape := h2
    output := h3
    size := hsize
    keep := fun b hb hn => ⟨hh b hb fun e => hn id hlt e.symm, Mo b hb⟩
    data := fun b hb hn => ⟨hh b hb fun e => hn (e ▸ hM), fun h => hn ((Mo b hb).1 h)⟩
    hlen := Nat.le_of_eq hl.symm
    fresh := fun i hi => by
      rw [hl] at hi
      by_cases e : i = id
      · subst e
        rw [ρs]
        exact hb'.imp (fun h => ⟨hi, h⟩) (fun h => h)
      · exact .inl ⟨hi, ρo i e⟩
    obj := fun i hi => by
      by_cases e : i = id
      · subst e
        unfold ObjStep
        rw [hid, Hs]
        exact .inl (by omega)
      · exact .refl hi (Ho i e) (ρo i e) (hh _ (hG.lt i hi) (ne i hi e)) }
  refine ⟨V', rfl, rfl, hst, ?_, ρs⟩
  exact {
    lt := fun i hi => by
      rw [hl] at hi
      by_cases e : i = id
      · subst e; rw [ρs]; exact hlt'
      · rw [ρo i e]; exact Nat.lt_of_lt_of_le (hG.lt i hi) hsize
    obj := fun i o ho => by
      by_cases e : i = id
      · subst e; rw [Hs] at ho; cases ho; rw [ρs]; exact hob V' rfl hst
      · rw [Ho i e] at ho
        have hi := (List.getElem?_eq_some_iff.1 ho).1
        rw [ρo i e]
        exact (hG.obj i o ho).step hst (hh _ (hG.lt i hi) (ne i hi e))
    inj := fun i j hi hj heq => by
      rw [hl] at hi hj
      by_cases e : i = id <;> by_cases f : j = id
      · rw [e, f]
      · subst e
        rw [ρs, ρo j f] at heq
        rcases hb' with h | h
        · rw [h] at heq; exact absurd heq.symm (ne j hj f)
        · have := hG.lt j hj; omega
      · subst f
        rw [ρs, ρo i e] at heq
        rcases hb' with h | h
        · rw [h] at heq; exact absurd heq (ne i hi e)
        · have := hG.lt i hi; omega
      · rw [ρo i e, ρo j f] at heq; exact hG.inj i j hi hj heq
    mutb := fun i o ho hop => by
      by_cases e : i = id
      · subst e; exact .inr ρs
      · rw [Ho i e] at ho; rw [ρo i e]; exact .inl (hG.mutb i o ho hop)
    glob := hG.glob_step hst }
end
end Go.Am
