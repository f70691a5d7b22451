/- THE ABSTRACT MACHINE, 20: a round of a range over a function. -/
import Derived.Test.YtbmimjjhifjofaaAm19
namespace Go.Am
open Go

def setAll : List AV → List Tmp → List AV → List AV
  | env, t :: ts, x :: xs => setAll (env.set t x) ts xs
  | env, _, _ => env
def jumpOf : AEx → Option (Option Code)
  | .normal => some none
  | .ret => some (some .ret)
  | .exit i => some (some (.exit i))
  | .goto l => some (some (.goto l))
  | .pan _ => none
def runY (P : Program) (G : Nat → Option (List AV)) (r : Option Nat) (id : Nat) (args : List AV) (H : List AObj) (orc : List Orc) : Option (Bool × List AObj × List Prop) :=
  match H[id]? with
  | some (.rng .ready _ env ts x y) => if ts.size = args.length then
      (match runC P G r H.length x { env := setAll env ts.toList args, H := H } orc with
      | some (.normal, s1, orc1, qs1) => match s1.H[id]? with
        | some (.rng .ready p1 env1 ts1 x1 y1) => match runC P G r H.length y { s1 with H := s1.H.set id (.rng .busy p1 env1 ts1 x1 y1) } orc1 with
          | some (ex, s2, _, qs2) => match s2.H[id]?, jumpOf ex with
            | some (.rng _ _ env2 ts2 x2 y2), some j => match cutF H.length (.lit undef) (s2.H.set id (.rng (if j.isNone = true then .ready else .done) j env2 ts2 x2 y2)) with
              | some (H3, qs3) => some (j.isNone, H3, qs1 ++ (qs2 ++ qs3))
              | none => none
            | _, _ => none
          | none => none
        | _ => none
      | _ => none) else none
  | _ => none

section
variable {P : Program} {G : Nat → Option (List AV)}

/-- A loop's record turns. -/
theorem step_rng {V : View} (hG : HeapRep G V) {id : Nat} {st st' : LoopState} {p p' : Option Code} {env : List AV} {ts : Array Tmp} {x y : Code} (hid : V.H[id]? = some (.rng st p env ts x y)) {fn : FuncId} {vs : List Value} {D : Nat}
    (ho : V.w.heap[V.ρ id]? = some (.loop { state := st, pending := p, fn := fn, tmps := List.toArray vs, params := ts, assign := x, body := y, defers := D })) (he : Reps V env vs) :
    ∃ V' : View, V'.w = V.w.putObj (V.ρ id) (.loop { state := st', pending := p', fn := fn, tmps := List.toArray vs, params := ts, assign := x, body := y, defers := D }) ∧ V'.H = V.H.set id (.rng st' p' env ts x y) ∧ V'.ρ = V.ρ ∧ Step V V' ∧ HeapRep G V' := by
  have hlt := (List.getElem?_eq_some_iff.1 hid).1
  let w' := V.w.putObj (V.ρ id) (.loop { state := st', pending := p', fn := fn, tmps := List.toArray vs, params := ts, assign := x, body := y, defers := D })
  let V' : View := { w := w', M := V.M, H := V.H.set id (.rng st' p' env ts x y), ρ := V.ρ }
  have hM := hG.mutb id _ hid rfl
  have Hs : V'.H[id]? = some (.rng st' p' env ts x y) := by show (V.H.set id _)[id]? = _; rw [List.getElem?_set_self hlt]
  have Ho : ∀ i, i ≠ id → V'.H[i]? = V.H[i]? := fun i hi => by show (V.H.set id _)[i]? = _; rw [List.getElem?_set_ne (fun e => hi e.symm)]
  have hl : V'.H.length = V.H.length := by show (V.H.set id _).length = _; simp
  have ne : ∀ i, i < V.H.length → i ≠ id → V.ρ i ≠ V.ρ id := fun i hi hne e => hne (hG.inj i id hi hlt e)
  have hh : ∀ b, b ≠ V.ρ id → w'.heap[b]? = V.w.heap[b]? := fun b hb => World.putObj_heap_other hb
  have hs : w'.heap.size = V.w.heap.size := World.putObj_size
  have hst : Step V V' := {
    os := rfl
    tape := rfl
    output := rfl
    size := Nat.le_of_eq hs.symm
    keep := fun b _ hn => ⟨hh b fun e => hn id hlt e.symm, Iff.rfl⟩
    data := fun b _ hn => ⟨hh b fun e => hn (e ▸ hM), hn⟩
    hlen := Nat.le_of_eq hl.symm
    fresh := fun i hi => .inl ⟨by rw [hl] at hi; exact hi, rfl⟩
    obj := fun i hi => by
      by_cases e : i = id
      · subst e
        unfold ObjStep
        rw [hid, Hs]
      · exact .refl hi (Ho i e) rfl (hh _ (ne i hi e)) }
  refine ⟨V', rfl, rfl, rfl, hst, ?_⟩
  exact {
    lt := fun i hi => by rw [hl] at hi; show V.ρ i < w'.heap.size; rw [hs]; exact hG.lt i hi
    obj := fun i o ho' => by
      by_cases e : i = id
      · subst e; rw [Hs] at ho'; cases ho'
        exact ⟨fn, vs, D, World.putObj_heap_same (hG.lt i hlt), Reps.step hst he⟩
      · rw [Ho i e] at ho'
        exact (hG.obj i o ho').step hst (hh _ (ne i (List.getElem?_eq_some_iff.1 ho').1 e))
    inj := fun i j hi hj => by rw [hl] at hi hj; exact hG.inj i j hi hj
    mutb := fun i o ho' hop' => by
      by_cases e : i = id
      · subst e; exact hM
      · rw [Ho i e] at ho'; exact hG.mutb i o ho' hop'
    glob := hG.glob_step hst }

theorem setAll_ok {V : View} : ∀ {ts : List Tmp} {xs : List AV} {us : List Value} {env : List AV} {vs : List Value}, Reps V env vs → Reps V xs us →
    Reps V (setAll env ts xs) ((ts.zip us).foldl (fun l (t, a) => l.set t a) vs)
  | [], xs, us, env, vs, h, _ => by cases xs <;> exact h
  | t :: ts, [], us, env, vs, h, hx => by
    have : us = [] := List.eq_nil_of_length_eq_zero (by simpa using hx.1)
    subst this
    exact h
  | t :: ts, x :: xs, [], env, vs, h, hx => by have := hx.1; simp at this
  | t :: ts, x :: xs, u :: us, env, vs, h, hx => setAll_ok (ts := ts) (h.set t hx.head) hx.tail
theorem foldl_sets_list : ∀ (l : List (Tmp × Value)) (vs : List Value), (l.foldl (fun (tmps : Array Value) (x : Tmp × Value) => tmps.setIfInBounds x.1 x.2) vs.toArray) = (l.foldl (fun (l : List Value) (x : Tmp × Value) => l.set x.1 x.2) vs).toArray
  | [], vs => rfl
  | (t, a) :: l, vs => by
    simp only [List.foldl_cons]
    have : vs.toArray.setIfInBounds t a = (vs.set t a).toArray := by apply Array.ext'; simp
    rw [this]
    exact foldl_sets_list l _

theorem yieldC_of_run {id : Nat} {args : List AV} {H : List AObj} {b : Bool} {H' : List AObj} {ps : Option Nat → List Prop} (orc : List Orc) (h : ∀ r, runY P G r id args H orc = some (b, H', ps r)) (hps : ∀ r, AllP (ps r)) : YieldC P G id args H b H' := by
  intro V vs hH hG hargs
  have h := h (some (V.ρ id))
  have hps := hps (some (V.ρ id))
  generalize ps (some (V.ρ id)) = qs at h hps
  unfold runY at h
  subst hH
  split at h
  · rename_i p0 env ts x y hid
    split at h
    · rename_i hsz
      split at h
      · rename_i s1 orc1 qs1 hx
        split at h
        · rename_i p1 env1 ts1 x1 y1 hid1
          split at h
          · rename_i ex s2 orc2 qs2 hy
            split at h
            · rename_i st2 p2 env2 ts2 x2 y2 j hid2 hj
              split at h
              · rename_i H3 qs3 hcut
                cases h
                obtain ⟨q1, q23⟩ := allP_append.1 hps
                obtain ⟨q2, q3⟩ := allP_append.1 q23
                obtain ⟨fn, us, D, o1, o2⟩ := hG.obj id _ hid
                have hvs : vs.toArray.size = ts.size := by rw [hsz, ← hargs.1]; simp
                refine ⟨fn, _, x, y, run_yield o1 hvs, fun r => roundIn_of_wpIn trivial ?_⟩
                have henv : EnvOk V (setAll env ts.toList args) { tmps := (ts.zip vs.toArray).foldl (fun tmps (t, a) => tmps.setIfInBounds t a) us.toArray, defers := [] } := by
                  have h1 := setAll_ok (ts := ts.toList) o2 hargs
                  have e : (ts.zip vs.toArray).foldl (fun (tmps : Array Value) (x : Tmp × Value) => tmps.setIfInBounds x.1 x.2) us.toArray = ((ts.toList.zip vs).foldl (fun (l : List Value) (x : Tmp × Value) => l.set x.1 x.2) us).toArray := by
                    rw [← foldl_sets_list, ← Array.foldl_toList]
                    simp
                  show Reps V _ ((ts.zip vs.toArray).foldl (fun (tmps : Array Value) (x : Tmp × Value) => tmps.setIfInBounds x.1 x.2) us.toArray).toList
                  rw [e]
                  exact h1
                have hr1 := runC_sound (r := some (V.ρ id)) x hx q1 V V _ rfl (Step.refl V) hG ⟨henv, rfl, .nil⟩
                refine Go.wpIn_mono hr1 ?_
                refine Ends.after fun V1 a1 s01 g1 k1 => ?_
                have hid1' : V1.H[id]? = some (.rng .ready p1 env1 ts1 x1 y1) := by rw [k1.H]; exact hid1
                have hρ1 : V1.ρ id = V.ρ id := (rngOk_step s01 ⟨_, hid, rfl⟩).2
                obtain ⟨fn1, us1, D1, o11, o12⟩ := g1.obj id _ hid1'
                obtain ⟨V2, a2, b2, c2, d2, e2⟩ := step_rng (st' := .busy) (p' := p1) g1 hid1' o11 o12
                refine ⟨V2.w, by rw [a2, ← hρ1]; exact run_beginRound o11 rfl, ?_⟩
                have hr2 := runC_sound (r := some (V.ρ id)) y hy q2 V V2 a1 rfl (s01.trans d2) e2 ⟨k1.env.step d2, by rw [b2, k1.H], k1.defs.step d2⟩
                refine Go.wpIn_mono hr2 ?_
                intro e a3 w3 hE
                obtain ⟨V3, rfl, l1, l2, l3, l4⟩ := hE
                have hid3 : V3.H[id]? = some (.rng st2 p2 env2 ts2 x2 y2) := by rw [l3.H]; exact hid2
                have hρ3 : V3.ρ id = V.ρ id := (rngOk_step l1 ⟨_, hid, rfl⟩).2
                obtain ⟨fn3, us3, D3, o31, o32⟩ := l2.obj id _ hid3
                obtain ⟨V4, a4, b4, c4, d4, e4⟩ := step_rng (st' := if j.isNone = true then .ready else .done) (p' := j) l2 hid3 o31 o32
                obtain ⟨V5, a5, b5, c5, d5, _⟩ := cutF_sound (V0 := V) (by rw [b4, l3.H]; exact hcut) q3 rfl (l1.trans d4) e4 (Rep.pure _ _ (.lit undef))
                have fin : ∃ v w', (Instr.endRound (V.ρ id) j).run P V3.w = .ok v w' ∧ ∃ V' : View, V'.w = w' ∧ Step V V' ∧ HeapRep G V' ∧ V'.H = H' ∧ Ending.returned v = .returned (.bool j.isNone) :=
                  ⟨_, _, by rw [← hρ3]; exact run_endRound j o31, V5, by rw [a5, a4], b5, c5, d5, rfl⟩
                cases ex <;> cases e <;> first | exact l4.elim | skip
                · cases hj; exact fin
                · obtain rfl := l4
                  cases hj; exact fin
                · obtain rfl := l4
                  cases hj; exact fin
                · cases hj; exact fin
                · cases hj
              · cases h
            · cases h
          · cases h
        · cases h
      · cases h
    · cases h
  · cases h
end
end Go.Am
