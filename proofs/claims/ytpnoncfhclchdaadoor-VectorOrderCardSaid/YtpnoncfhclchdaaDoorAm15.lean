/- THE ABSTRACT MACHINE, 15: regions, in the text's order and in any. -/
import Derived.Test.YtpnoncfhclchdaaDoorAm14
namespace Go.Am
open Go

def runOps (P : Program) (G : Nat → Option (List AV)) (ops : Array Oper) : Nat → List Oper → List AV → List AObj → List Orc → Option (AEx × List AV × List AObj × List Orc × List Prop)
  | _, [], env, H, orc => some (.normal, env, H, orc, [])
  | i, o :: os, env, H, orc => match stepA P G ops (guards ops i) env H o orc with
    | some (_, .ret x, H', orc', ps) => match runOps P G ops (i + 1) os (putA env o.dst x) H' orc' with
      | some (ex, env', H'', orc'', qs) => some (ex, env', H'', orc'', ps ++ qs)
      | none => none
    | some (_, .pan x, H', orc', ps) => some (.pan x, env, H', orc', ps)
    | none => none

theorem getD_set_self' {l : List AV} {t : Nat} {x : AV} (h : t < l.length) : (l.set t x).getD t .dead = x := by simp [List.getD_eq_getElem?_getD, h]
theorem getD_set_ne' {l : List AV} {s t : Nat} {x : AV} (h : s ≠ t) : (l.set s x).getD t .dead = l.getD t .dead := by simp [List.getD_eq_getElem?_getD, h]
theorem putA_length (env : List AV) (d : Option Tmp) (x : AV) : (putA env d x).length = env.length := by cases d <;> simp [putA]

theorem put_def (a : Act) (d : Option Tmp) (v : Value) : (a.put d v).defers = a.defers := by cases d <;> rfl

/-- The temporaries are what env says. -/
def EnvOk (V : View) (env : List AV) (a : Act) : Prop := Reps V env a.tmps.toList
theorem EnvOk.step {V V' : View} (hs : Step V V') {env : List AV} {a : Act} (h : EnvOk V env a) : EnvOk V' env a := Reps.step hs h
theorem EnvOk.put {V : View} {env : List AV} {a : Act} (h : EnvOk V env a) (d : Option Tmp) {x : AV} {v : Value} (hx : Rep V x v) : EnvOk V (putA env d x) (a.put d v) := by
  cases d with
  | none => exact h
  | some d =>
    unfold EnvOk
    have := Reps.set h d hx
    simpa [putA, Act.put] using this
theorem EnvOk.get {V : View} {env : List AV} {a : Act} (h : EnvOk V env a) (t : Nat) : Rep V (env.getD t .dead) (a.tmps.getD t undef) := by
  by_cases ht : t < env.length
  · have := h.2 t ht
    simpa [Array.getD_eq_getD_getElem?, List.getD_eq_getElem?_getD] using this
  · rw [List.getD_eq_getElem?_getD, List.getElem?_eq_none (by omega)]
    exact .dead _

section
variable {P : Program} {G : Nat → Option (List AV)} {r : Option Nat} {ops : Array Oper}

/-- In the text's order. -/
theorem runOps_sound {Q : Exit → Act → World → Prop} : ∀ {os : List Oper} {i : Nat} {env : List AV} {H : List AObj} {orc : List Orc} {ex : AEx} {env' : List AV} {H' : List AObj} {orc' : List Orc} {ps : List Prop},
    runOps P G ops i os env H orc = some (ex, env', H', orc', ps) → AllP ps → ops.toList.drop i = os → ∀ {V : View} {a : Act}, HeapRep G V → V.H = H → EnvOk V env a →
    (ex = .normal → ∀ V' a', Step V V' → HeapRep G V' → V'.H = H' → EnvOk V' env' a' → a'.defers = a.defers → Q .normal a' V'.w) →
    (∀ x, ex = .pan x → ∀ V' a' v, Step V V' → HeapRep G V' → V'.H = H' → EnvOk V' env' a' → a'.defers = a.defers → Rep V' x v → Q (.panic [{ v := v, recovered := false }]) a' V'.w) →
    wpOpsIn (fz r) 0 P ops Q ((List.range ops.size).drop i) a V.w
  | [], i, env, H, orc, ex, env', H', orc', ps, h, hps, hos, V, a, hG, hH, he, n1, n2 => by
    have hle : ops.size ≤ i := by simpa using hos
    rw [List.drop_eq_nil_of_le (by simpa using hle)]
    simp only [runOps, Option.some.injEq, Prod.mk.injEq] at h
    obtain ⟨rfl, rfl, rfl, _, _⟩ := h
    exact n1 rfl V a (Step.refl V) hG hH he rfl
  | o :: os, i, env, H, orc, ex, env', H', orc', ps, h, hps, hos, V, a, hG, hH, he, n1, n2 => by
    have hlt : i < ops.size := by
      rcases Nat.lt_or_ge i ops.size with h | h
      · exact h
      · rw [List.drop_eq_nil_of_le (by simpa using h)] at hos; cases hos
    have hlt' : i < ops.toList.length := by simpa using hlt
    rw [List.drop_eq_getElem_cons hlt'] at hos
    injection hos with ho hos'
    have ho' : ops[i]? = some o := by rw [← ho]; simp [hlt]
    have hr : (List.range ops.size).drop i = i :: (List.range ops.size).drop (i + 1) := by
      rw [List.drop_eq_getElem_cons (by simpa using hlt)]; simp
    rw [hr, wpOpsIn_cons]
    unfold runOps at h
    split at h
    · rename_i k x H1 orc1 qs hst
      split at h
      · rename_i ex1 env1 H2 orc2 rs hrec
        cases h
        obtain ⟨hq, hrs⟩ := allP_append.1 hps
        obtain ⟨h1, h2⟩ := stepA_sound (r := r) (a := a) ho' hst hq hG (fun t _ => he.get t) (.inl hH)
        refine h1 _ Q (fun V' v x' hx hs hG' hH' hrep => ?_) (fun V' v x' hx => by cases hx)
        cases hx
        have hH1 : V'.H = H1 := by
          rw [hH']
          split
          · rename_i hk; rw [hH, h2 (by rw [hk]; simp)]
          · rfl
        have he' := (he.step hs).put o.dst hrep
        exact runOps_sound hrec hrs hos' hG' hH1 he'
          (fun hex V2 a2 s2 g2 hh2 e2 d2 => n1 hex V2 a2 (hs.trans s2) g2 hh2 e2 (d2.trans (put_def _ _ _)))
          (fun y hex V2 a2 v2 s2 g2 hh2 e2 d2 => n2 y hex V2 a2 v2 (hs.trans s2) g2 hh2 e2 (d2.trans (put_def _ _ _)))
      · cases h
    · rename_i k x H1 orc1 qs hst
      cases h
      obtain ⟨h1, h2⟩ := stepA_sound (r := r) (a := a) ho' hst hps hG (fun t _ => he.get t) (.inl hH)
      refine h1 _ Q (fun V' v x' hx => by cases hx) (fun V' v x' hx hs hG' hH' hrep => ?_)
      cases hx
      have hH1 : V'.H = H' := by
        rw [hH']
        split
        · rename_i hk; rw [hH, h2 (by rw [hk]; simp)]
        · rfl
      exact n2 x rfl V' a v hs hG' hH1 (he.step hs) rfl hrep
    · cases h
end

/-! ### In any order -/
/-- One operation's part of a run: its kind, its outcome, the heap behind it. -/
structure Tr where
  at_ : Option Nat
  k : Kind
  x : AV
  H : List AObj
instance : Inhabited Tr := ⟨⟨none, .free, .dead, []⟩⟩

def runTr (P : Program) (G : Nat → Option (List AV)) (ops : Array Oper) : Nat → List Oper → List AV → List AObj → List Orc → Option (List Tr × List Orc × List Prop)
  | _, [], _, _, orc => some ([], orc, [])
  | i, o :: os, env, H, orc => match stepA P G ops (guards ops i) env H o orc with
    | some (k, .ret x, H', orc', ps) => match runTr P G ops (i + 1) os (putA env o.dst x) H' orc' with
      | some (tr, orc'', qs) => some (⟨spot (evA G env) o orc, k, x, H'⟩ :: tr, orc'', ps ++ qs)
      | none => none
    | _ => none

/-- The temporaries and the heap when the operations S below m are done. -/
def envS (ops : Array Oper) (tr : List Tr) (S : Nat → Bool) (env : List AV) : Nat → List AV
  | 0 => env
  | m + 1 => if S m = true then putA (envS ops tr S env m) ((ops[m]?).bind (·.dst)) (tr.getD m default).x else envS ops tr S env m
def heapS (tr : List Tr) (S : Nat → Bool) (H : List AObj) : Nat → List AObj
  | 0 => H
  | m + 1 => if S m = true ∧ (tr.getD m default).k = .eff then (match (tr.getD m default).at_ with
    | some id => (heapS tr S H m).set id ((tr.getD m default).H.getD id .gone)
    | none => (tr.getD m default).H) else heapS tr S H m

def all_ : Nat → Bool := fun _ => true

theorem envS_length (ops : Array Oper) (tr : List Tr) (S : Nat → Bool) (env : List AV) : ∀ m, (envS ops tr S env m).length = env.length
  | 0 => rfl
  | m + 1 => by
    simp only [envS]
    split
    · rw [putA_length, envS_length ops tr S env m]
    · exact envS_length ops tr S env m

theorem putA_getD {env : List AV} {d : Option Tmp} {x : AV} {t : Nat} (h : d ≠ some t) : (putA env d x).getD t .dead = env.getD t .dead := by
  cases d with
  | none => rfl
  | some d => exact getD_set_ne' fun e => h (by rw [e])

/-- A slot holds the same where its writers are in, and later ones out. -/
theorem envS_eq {ops : Array Oper} {tr : List Tr} {S T : Nat → Bool} {env : List AV} {t : Nat} : ∀ {m : Nat}, (∀ j, j < m → (ops[j]?).bind (·.dst) = some t → S j = T j) → (envS ops tr S env m).getD t .dead = (envS ops tr T env m).getD t .dead
  | 0, _ => rfl
  | m + 1, h => by
    have ih := envS_eq (m := m) (S := S) (T := T) (tr := tr) (env := env) (ops := ops) (t := t) fun j hj => h j (by omega)
    simp only [envS]
    by_cases hd : (ops[m]?).bind (·.dst) = some t
    · have := h m (by omega) hd
      rw [this]
      split
      · rw [hd]
        simp only [putA]
        by_cases hl : t < env.length
        · rw [getD_set_self' (by rw [envS_length]; exact hl), getD_set_self' (by rw [envS_length]; exact hl)]
        · have out : ∀ {l : List AV} {x : AV}, l.length = env.length → (l.set t x).getD t .dead = .dead := fun hl' => by
            rw [List.getD_eq_getElem?_getD, List.getElem?_eq_none (by rw [List.length_set]; omega)]; rfl
          rw [out (envS_length _ _ _ _ _), out (envS_length _ _ _ _ _)]
      · exact ih
    · have e1 : ∀ U : Nat → Bool, (if U m = true then putA (envS ops tr U env m) ((ops[m]?).bind (·.dst)) (tr.getD m default).x else envS ops tr U env m).getD t .dead = (envS ops tr U env m).getD t .dead := fun U => by
        split
        · exact putA_getD hd
        · rfl
      rw [e1, e1]
      exact ih
theorem envS_past {ops : Array Oper} {tr : List Tr} {S : Nat → Bool} {env : List AV} {t i : Nat} : ∀ {m : Nat}, i ≤ m → (∀ j, i ≤ j → j < m → (ops[j]?).bind (·.dst) = some t → S j = false) → (envS ops tr S env m).getD t .dead = (envS ops tr S env i).getD t .dead
  | 0, hle, _ => by rw [Nat.le_zero.1 hle]
  | m + 1, hle, h => by
    rcases Nat.lt_or_ge m i with hlt | hge
    · rw [show i = m + 1 by omega]
    · simp only [envS]
      have ih := envS_past (m := m) (S := S) (tr := tr) (env := env) (ops := ops) (t := t) hge fun j h1 h2 => h j h1 (by omega)
      split
      · rename_i hS
        rw [putA_getD fun hd => by rw [h m hge (by omega) hd] at hS; cases hS]
        exact ih
      · exact ih
theorem heapS_past {tr : List Tr} {S : Nat → Bool} {H : List AObj} {i : Nat} : ∀ {m : Nat}, i ≤ m → (∀ j, i ≤ j → j < m → (tr.getD j default).k = .eff → S j = false) → heapS tr S H m = heapS tr S H i
  | 0, hle, _ => by rw [Nat.le_zero.1 hle]
  | m + 1, hle, h => by
    rcases Nat.lt_or_ge m i with hlt | hge
    · rw [show i = m + 1 by omega]
    · simp only [heapS]
      rw [if_neg fun hc => by rw [h m hge (by omega) hc.2] at hc; exact absurd hc.1 (by simp)]
      exact heapS_past hge fun j h1 h2 => h j h1 (by omega)
theorem heapS_eq {tr : List Tr} {S T : Nat → Bool} {H : List AObj} : ∀ {m : Nat}, (∀ j, j < m → (tr.getD j default).k = .eff → S j = T j) → heapS tr S H m = heapS tr T H m
  | 0, _ => rfl
  | m + 1, h => by
    have ih := heapS_eq (m := m) (S := S) (T := T) (H := H) (tr := tr) fun j hj => h j (by omega)
    simp only [heapS]
    by_cases hk : (tr.getD m default).k = .eff
    · rw [h m (by omega) hk, ih]
    · rw [if_neg fun hc => hk hc.2, if_neg fun hc => hk hc.2, ih]

/-- Does an operation touch the object? -/
def touches (t : Tr) (id : Nat) : Prop := t.at_ = none ∨ t.at_ = some id
theorem heapS_len {tr : List Tr} {S T : Nat → Bool} {H : List AObj} : ∀ {m : Nat}, (∀ j, j < m → (tr.getD j default).k = .eff → (tr.getD j default).at_ = none → S j = T j) → (heapS tr S H m).length = (heapS tr T H m).length
  | 0, _ => rfl
  | m + 1, h => by
    have ih := heapS_len (m := m) (S := S) (T := T) (H := H) (tr := tr) fun j hj => h j (by omega)
    simp only [heapS]
    by_cases hk : (tr.getD m default).k = .eff
    · cases ha : (tr.getD m default).at_ with
      | none =>
        rw [h m (by omega) hk ha]
        split
        · rfl
        · exact ih
      | some id =>
        simp only
        split <;> split <;> simp [ih]
    · rw [if_neg fun hc => hk hc.2, if_neg fun hc => hk hc.2, ih]
theorem heapS_at {tr : List Tr} {S T : Nat → Bool} {H : List AObj} {id : Nat} : ∀ {m : Nat}, (∀ j, j < m → (tr.getD j default).k = .eff → touches (tr.getD j default) id → S j = T j) → (heapS tr S H m)[id]? = (heapS tr T H m)[id]?
  | 0, _ => rfl
  | m + 1, h => by
    have ih := heapS_at (m := m) (S := S) (T := T) (H := H) (tr := tr) (id := id) fun j hj => h j (by omega)
    have hl := heapS_len (m := m) (S := S) (T := T) (H := H) (tr := tr) fun j hj hk ha => h j (by omega) hk (.inl ha)
    simp only [heapS]
    by_cases hk : (tr.getD m default).k = .eff
    · cases ha : (tr.getD m default).at_ with
      | none =>
        rw [h m (by omega) hk (.inl ha)]
        split
        · rfl
        · exact ih
      | some id' =>
        simp only
        by_cases hid : id' = id
        · subst hid
          rw [h m (by omega) hk (.inr ha)]
          split
          · rw [List.getElem?_set, List.getElem?_set, if_pos rfl, if_pos rfl, hl]
          · exact ih
        · split <;> split <;> simp [hid, ih]
    · rw [if_neg fun hc => hk hc.2, if_neg fun hc => hk hc.2, ih]
theorem heapS_at_past {tr : List Tr} {S : Nat → Bool} {H : List AObj} {i id : Nat} : ∀ {m : Nat}, i ≤ m → (∀ j, i ≤ j → j < m → (tr.getD j default).k = .eff → touches (tr.getD j default) id → S j = false) → (heapS tr S H m)[id]? = (heapS tr S H i)[id]?
  | 0, hle, _ => by rw [Nat.le_zero.1 hle]
  | m + 1, hle, h => by
    rcases Nat.lt_or_ge m i with hlt | hge
    · rw [show i = m + 1 by omega]
    · have ih := heapS_at_past (m := m) (S := S) (tr := tr) (H := H) (id := id) hge fun j h1 h2 => h j h1 (by omega)
      simp only [heapS]
      split
      · rename_i hc
        cases ha : (tr.getD m default).at_ with
        | none => rw [h m hge (by omega) hc.2 (.inl ha)] at hc; exact absurd hc.1 (by simp)
        | some id' =>
          simp only
          by_cases hid : id' = id
          · subst hid
            rw [h m hge (by omega) hc.2 (.inr ha)] at hc
            exact absurd hc.1 (by simp)
          · rw [List.getElem?_set_ne hid]; exact ih
      · exact ih
/-- One more operation, that touches one object alone. -/
theorem heapS_one {tr : List Tr} {S T : Nat → Bool} {H : List AObj} {i id : Nat} (hk : (tr.getD i default).k = .eff) (ha : (tr.getD i default).at_ = some id) (hS : S i = false) (hT : T i = true) (hne : ∀ j, j ≠ i → T j = S j) :
    ∀ {m : Nat}, i < m → (∀ j, i < j → j < m → (tr.getD j default).k = .eff → touches (tr.getD j default) id → S j = false) → heapS tr T H m = (heapS tr S H m).set id ((tr.getD i default).H.getD id .gone)
  | 0, h, _ => absurd h (by omega)
  | m + 1, hlt, h => by
    by_cases hm : m = i
    · subst hm
      have e : heapS tr T H m = heapS tr S H m := heapS_eq fun j hj _ => hne j (by omega)
      simp only [heapS]
      rw [if_pos ⟨hT, hk⟩, if_neg fun hc => by rw [hS] at hc; exact absurd hc.1 (by simp), ha, e]
    · have ih := heapS_one hk ha hS hT hne (m := m) (H := H) (by omega) fun j h1 h2 => h j h1 (by omega)
      simp only [heapS]
      rw [hne m hm]
      split
      · rename_i hc
        cases hb : (tr.getD m default).at_ with
        | none => rw [h m (by omega) (by omega) hc.2 (.inl hb)] at hc; exact absurd hc.1 (by simp)
        | some id' =>
          simp only
          by_cases hid : id' = id
          · subst hid
            rw [h m (by omega) (by omega) hc.2 (.inr hb)] at hc
            exact absurd hc.1 (by simp)
          · rw [ih, List.set_comm _ _ fun e => hid e.symm]
      · exact ih

/-- What the run says of each operation. -/
def TrOk (P : Program) (G : Nat → Option (List AV)) (ops : Array Oper) (tr : List Tr) (env : List AV) (H : List AObj) (i : Nat) : Prop :=
  ∃ o orc orc' ps, ops[i]? = some o ∧ (tr.getD i default).at_ = spot (evA G (envS ops tr all_ env i)) o orc ∧ stepA P G ops (guards ops i) (envS ops tr all_ env i) (heapS tr all_ H i) o orc = some ((tr.getD i default).k, .ret (tr.getD i default).x, (tr.getD i default).H, orc', ps) ∧ AllP ps

theorem enterA_heap {P : Program} {G : Nat → Option (List AV)} {H : List AObj} {f : FuncId} {xs : List AV} {orc orc' : List Orc} {k : Kind} {out : AOut} {H' : List AObj} {ps : List Prop} (h : enterA P G H f xs orc = some (k, out, H', orc', ps)) (hk : k ≠ .eff) : H' = H := by
  unfold enterA at h
  split at h
  · split at h
    · cases h; rfl
    · cases h
  · split at h
    · split at h
      · cases h; exact absurd rfl hk
      · cases h
    · cases h
  · split at h
    · split at h
      · cases h; rfl
      · cases h
    · cases h
  · cases h
theorem evalOp_heap {P : Program} {G : Nat → Option (List AV)} {H : List AObj} {ev : Operand → AV} {o : Oper} {orc orc' : List Orc} {k : Kind} {out : AOut} {H' : List AObj} {ps : List Prop} (h : evalOp P G H ev o orc = some (k, out, H', orc', ps)) (hk : k ≠ .eff) : H' = H := by
  unfold evalOp at h
  split at h
  · obtain ⟨q, _, hq⟩ := Option.map_eq_some_iff.1 h
    simp only [Prod.mk.injEq] at hq
    exact absurd hq.1.symm hk
  · obtain ⟨q, _, hq⟩ := Option.map_eq_some_iff.1 h
    simp only [Prod.mk.injEq] at hq
    exact absurd hq.1.symm hk
  · split at h
    · cases h
    · split at h
      · cases h; rfl
      · split at h
        · cases h; rfl
        · split at h
          · cases h; rfl
          · split at h
            · cases h; exact absurd rfl hk
            · unfold evalCall at h
              split at h
              · split at h
                · cases h; exact absurd rfl hk
                · split at h
                  · split at h
                    · exact enterA_heap h hk
                    · cases h
                  · cases h
              · cases h
theorem reval_heap {P : Program} {G : Nat → Option (List AV)} {d : Option Tmp} {H : List AObj} {ev : Operand → AV} {o : Oper} {orc orc' : List Orc} {k : Kind} {out : AOut} {H' : List AObj} {ps : List Prop} (h : reval d (evalOp P G H ev o orc) = some (k, out, H', orc', ps)) (hk : k ≠ .eff) : H' = H := by
  unfold reval at h
  split at h
  · rename_i he
    split at h
    · split at h
      · cases h
        exact absurd rfl hk
      · cases h
    · rw [← he] at h
      exact evalOp_heap h hk
  · rename_i he
    split at h
    · cases h
      exact evalOp_heap he hk
    · rw [← he] at h
      exact evalOp_heap h hk
  · rename_i he
    split at h
    · cases h
      exact absurd rfl hk
    · rw [← he] at h
      exact evalOp_heap h hk
  · exact evalOp_heap h hk

theorem stepA_heap {P : Program} {G : Nat → Option (List AV)} {ops : Array Oper} {gs : Bool} {env : List AV} {H : List AObj} {o : Oper} {orc orc' : List Orc} {k : Kind} {out : AOut} {H' : List AObj} {ps : List Prop} (h : stepA P G ops gs env H o orc = some (k, out, H', orc', ps)) (hk : k ≠ .eff) : H' = H := by
  unfold stepA at h
  split at h
  · split at h
    · rename_i hev
      split at h
      · split at h
        · cases h; exact reval_heap hev hk
        · cases h
      · cases h; exact reval_heap hev hk
    · cases h
  · cases h; rfl
  · cases h

theorem getD_set_obj {l : List AObj} {t : Nat} {x : AObj} (h : t < l.length) : (l.set t x).getD t .gone = x := by simp [List.getD_eq_getElem?_getD, h]
theorem runTr_sound {P : Program} {G : Nat → Option (List AV)} {ops : Array Oper} : ∀ {os : List Oper} {i : Nat} {env : List AV} {H : List AObj} {orc orc' : List Orc} {tr : List Tr} {ps : List Prop}, runTr P G ops i os env H orc = some (tr, orc', ps) → AllP ps → ops.toList.drop i = os →
    tr.length = os.length ∧ ∀ (tr0 : List Tr) (env0 : List AV) (H0 : List AObj), tr0.length = i → envS ops (tr0 ++ tr) all_ env0 i = env → heapS (tr0 ++ tr) all_ H0 i = H → ∀ j, i ≤ j → j < ops.size → TrOk P G ops (tr0 ++ tr) env0 H0 j
  | [], i, env, H, orc, orc', tr, ps, h, _, hos => by
    simp only [runTr, Option.some.injEq, Prod.mk.injEq] at h
    obtain ⟨rfl, _, _⟩ := h
    have hle : ops.size ≤ i := by simpa using hos
    exact ⟨rfl, fun _ _ _ _ _ _ j h1 h2 => by omega⟩
  | o :: os, i, env, H, orc, orc', tr, ps, h, hps, hos => by
    have hlt : i < ops.size := by
      rcases Nat.lt_or_ge i ops.size with h | h
      · exact h
      · rw [List.drop_eq_nil_of_le (by simpa using h)] at hos; cases hos
    have hlt' : i < ops.toList.length := by simpa using hlt
    rw [List.drop_eq_getElem_cons hlt'] at hos
    injection hos with ho hos'
    have ho' : ops[i]? = some o := by rw [← ho]; simp [hlt]
    unfold runTr at h
    split at h
    · rename_i k x H1 orc1 qs hst
      split at h
      · rename_i tr1 orc2 rs hrec
        cases h
        obtain ⟨hq, hrs⟩ := allP_append.1 hps
        obtain ⟨l1, l2⟩ := runTr_sound hrec hrs hos'
        refine ⟨by simp [l1], fun tr0 env0 H0 hl0 he hH j h1 h2 => ?_⟩
        have hget : (tr0 ++ ⟨spot (evA G env) o orc, k, x, H1⟩ :: tr1).getD i default = ⟨spot (evA G env) o orc, k, x, H1⟩ := by
          rw [List.getD_eq_getElem?_getD, List.getElem?_append_right (by omega)]
          simp [hl0]
        by_cases hji : j = i
        · subst hji
          exact ⟨o, orc, orc1, qs, ho', by rw [hget, he], by rw [hget, he, hH]; exact hst, hq⟩
        · have := l2 (tr0 ++ [⟨spot (evA G env) o orc, k, x, H1⟩]) env0 H0 (by simp [hl0]) (by
            rw [List.append_assoc, List.singleton_append]
            simp only [envS, all_, if_true]
            rw [hget, ho']
            show putA (envS ops _ all_ env0 i) o.dst x = _
            rw [he]) (by
            rw [List.append_assoc, List.singleton_append]
            simp only [heapS]
            rw [hget, hH]
            by_cases hk : k = .eff
            · rw [if_pos ⟨rfl, hk⟩]
              cases hsp : spot (evA G env) o orc with
              | none => rfl
              | some id =>
                obtain ⟨ob, hob, _⟩ := stepA_local (K := H) hst hsp rfl
                rw [if_pos hk] at hob
                simp only
                rw [hob]
                by_cases hlt : id < H.length
                · rw [getD_set_obj hlt]
                · simp [List.set_eq_of_length_le (Nat.le_of_not_lt hlt)]
            · rw [if_neg fun h => hk h.2]
              exact (stepA_heap hst hk).symm) j (by omega) h2
          rwa [List.append_assoc, List.singleton_append] at this
      · cases h
    · cases h

/-! #### Which come before which -/
def bits (acc : List Nat) (o : Oper) : Nat := o.after.toList.foldl (fun s e => if Region.binds .any e = true then s ||| (2 ^ e.on ||| acc.getD e.on 0) else s) 0
def bitsL : List Oper → List Nat → List Nat
  | [], acc => acc
  | o :: os, acc => bitsL os (acc ++ [bits acc o])
/-- All that binding edges lead back to is in. -/
def Shut (ops : Array Oper) (S : Nat → Bool) : Prop := ∀ j o, ops[j]? = some o → S j = true → ∀ e ∈ o.after, Region.binds .any e = true → S e.on = true

theorem bits_sound {acc : List Nat} {o : Oper} {S : Nat → Bool} (hacc : ∀ j i, S j = true → (acc.getD j 0).testBit i = true → S i = true) (ho : ∀ e ∈ o.after, Region.binds .any e = true → S e.on = true) {i : Nat} (h : (bits acc o).testBit i = true) : S i = true := by
  have key : ∀ (l : List Edge) (s : Nat), (∀ e ∈ l, e ∈ o.after) → (s.testBit i = true → S i = true) → (l.foldl (fun s e => if Region.binds .any e = true then s ||| (2 ^ e.on ||| acc.getD e.on 0) else s) s).testBit i = true → S i = true := by
    intro l
    induction l with
    | nil => exact fun s _ hs h => hs h
    | cons e l ih =>
      intro s hl hs h
      refine ih _ (fun e he => hl e (by simp [he])) (fun h => ?_) h
      simp only [] at h
      split at h
      · rename_i hb
        have he := ho e (hl e (by simp)) hb
        rw [Nat.testBit_or, Nat.testBit_or, Nat.testBit_two_pow] at h
        simp only [Bool.or_eq_true, decide_eq_true_eq] at h
        rcases h with h | h | h
        · exact hs h
        · exact h ▸ he
        · exact hacc _ _ he h
      · exact hs h
  exact key o.after.toList 0 (fun e he => by simpa using he) (fun h => by simp at h) h
theorem bitsL_sound {ops : Array Oper} {S : Nat → Bool} (hS : Shut ops S) : ∀ (os : List Oper) (acc : List Nat), ops.toList.drop acc.length = os → (∀ j i, S j = true → (acc.getD j 0).testBit i = true → S i = true) →
    ∀ j i, S j = true → ((bitsL os acc).getD j 0).testBit i = true → S i = true
  | [], acc, _, h => h
  | o :: os, acc, hos, h => by
    have hlt : acc.length < ops.toList.length := by
      rcases Nat.lt_or_ge acc.length ops.toList.length with h | h
      · exact h
      · rw [List.drop_eq_nil_of_le h] at hos; cases hos
    rw [List.drop_eq_getElem_cons hlt] at hos
    injection hos with ho hos'
    refine bitsL_sound hS os _ (by simpa using hos') fun j i hj hb => ?_
    rcases Nat.lt_trichotomy j acc.length with hlt' | rfl | hgt
    · rw [List.getD_eq_getElem?_getD, List.getElem?_append_left hlt', ← List.getD_eq_getElem?_getD] at hb
      exact h j i hj hb
    · rw [List.getD_eq_getElem?_getD, List.getElem?_append_right (Nat.le_refl _)] at hb
      simp only [Nat.sub_self, List.getElem?_cons_zero, Option.getD_some] at hb
      exact bits_sound h (hS _ o (by rw [← ho]; simp) hj) hb
    · rw [List.getD_eq_getElem?_getD, List.getElem?_eq_none (by simp; omega)] at hb
      simp at hb
theorem bitsL_acc : ∀ (os : List Oper) (acc : List Nat) (j : Nat), j < acc.length → (bitsL os acc).getD j 0 = acc.getD j 0
  | [], _, _, _ => rfl
  | o :: os, acc, j, hj => by
    rw [bitsL, bitsL_acc os _ j (by simp; omega), List.getD_eq_getElem?_getD, List.getElem?_append_left hj, ← List.getD_eq_getElem?_getD]
theorem bitsL_at {ops : Array Oper} : ∀ (os : List Oper) (acc : List Nat), ops.toList.drop acc.length = os → ∀ j o, acc.length ≤ j → ops[j]? = some o → ∃ acc', (bitsL os acc).getD j 0 = bits acc' o ∧ ∀ i, i < acc'.length → acc'.getD i 0 = (bitsL os acc).getD i 0
  | [], acc, hos, j, o, hj, ho => by
    have h1 : ops.size ≤ acc.length := by simpa using hos
    have h2 := (Array.getElem?_eq_some_iff.1 ho).1
    omega
  | o1 :: os, acc, hos, j, o, hj, ho => by
    have hlt : acc.length < ops.toList.length := by
      rcases Nat.lt_or_ge acc.length ops.toList.length with h | h
      · exact h
      · rw [List.drop_eq_nil_of_le h] at hos; cases hos
    rw [List.drop_eq_getElem_cons hlt] at hos
    injection hos with ho1 hos'
    rcases Nat.lt_or_ge acc.length j with hlt' | hge
    · exact bitsL_at os (acc ++ [bits acc o1]) (by simpa using hos') j o (by simp; omega) ho
    · have hje : j = acc.length := by omega
      subst hje
      have : o1 = o := by
        rw [← ho1]
        have : ops[acc.length]? = some (ops.toList[acc.length]) := by simp
        rw [this] at ho
        exact Option.some.inj ho
      subst this
      refine ⟨acc, ?_, fun i hi => ?_⟩
      · rw [bitsL, bitsL_acc os _ _ (by simp), List.getD_eq_getElem?_getD, List.getElem?_append_right (Nat.le_refl _)]
        simp
      · rw [bitsL, bitsL_acc os _ i (by simp; omega), List.getD_eq_getElem?_getD (l := acc ++ _), List.getElem?_append_left hi, ← List.getD_eq_getElem?_getD]

/-- What an operation that is ready, its edges all in, comes behind. -/
theorem before_ready {ops : Array Oper} {S : Nat → Bool} (hS : Shut ops S) {j : Nat} {o : Oper} (ho : ops[j]? = some o) (hall : ∀ e ∈ o.after, Region.binds .any e = true → S e.on = true) {i : Nat} (h : ((bitsL ops.toList []).getD j 0).testBit i = true) : S i = true := by
  obtain ⟨acc', h1, h2⟩ := bitsL_at (ops := ops) ops.toList [] rfl j o (Nat.zero_le _) ho
  rw [h1] at h
  refine bits_sound (acc := acc') (fun k m hk hm => ?_) hall h
  rcases Nat.lt_or_ge k acc'.length with hlt | hge
  · rw [h2 k hlt] at hm
    exact bitsL_sound hS ops.toList [] rfl (fun _ _ _ h => by simp at h) k m hk hm
  · rw [List.getD_eq_getElem?_getD, List.getElem?_eq_none hge] at hm
    simp at hm
theorem before_in {ops : Array Oper} {S : Nat → Bool} (hS : Shut ops S) {i j : Nat} (hj : S j = true) (h : ((bitsL ops.toList []).getD j 0).testBit i = true) : S i = true :=
  bitsL_sound hS ops.toList [] rfl (fun _ _ _ h => by simp at h) j i hj h

/-! #### The check -/
/-- May both touch one object? -/
def over (ti tj : Tr) : Bool := match ti.at_, tj.at_ with
  | some a, some b => a == b
  | _, _ => true
def clash (ops : Array Oper) (ti tj : Tr) (oi oj : Oper) : Bool :=
  (match oi.dst with | some d => (oj.looksAt ops).contains d || oj.dst == some d | none => false) ||
  (match oj.dst with | some d => (oi.looksAt ops).contains d | none => false) ||
  ((ti.k == .eff && !(tj.k == .free)) && over ti tj) || ((tj.k == .eff && !(ti.k == .free)) && over ti tj)
def checkAt (ops : Array Oper) (b : Nat) (tj : Tr) (oj : Oper) : Nat → List Oper → List Tr → Bool
  | i, oi :: os, ti :: tr => (!(clash ops ti tj oi oj) || b.testBit i) && checkAt ops b tj oj (i + 1) os tr
  | _, _, _ => true
def checkAll (ops : Array Oper) (tr : List Tr) (bs : List Nat) : Nat → List Oper → Bool
  | _, [] => true
  | j, o :: os => (o.after.toList.all fun e => !(Region.binds .any e) || Nat.blt e.on j) && checkAt ops (bs.getD j 0) (tr.getD j default) o 0 (ops.toList.take j) (tr.take j) && checkAll ops tr bs (j + 1) os

theorem checkAt_sound {ops : Array Oper} {b : Nat} {tj : Tr} {oj : Oper} : ∀ {os : List Oper} {tr : List Tr} {i0 : Nat}, checkAt ops b tj oj i0 os tr = true → ∀ i oi ti, os[i]? = some oi → tr[i]? = some ti → clash ops ti tj oi oj = true → b.testBit (i0 + i) = true
  | [], _, _, _, i, _, _, h, _, _ => by simp at h
  | _ :: _, [], _, _, i, _, _, _, h, _ => by simp at h
  | o :: os, t :: tr, i0, h, i, oi, ti, ho, ht, hc => by
    simp only [checkAt, Bool.and_eq_true, Bool.or_eq_true, Bool.not_eq_true'] at h
    cases i with
    | zero =>
      simp only [List.getElem?_cons_zero, Option.some.injEq] at ho ht
      subst ho ht
      rcases h.1 with h1 | h1
      · rw [h1] at hc; cases hc
      · exact h1
    | succ i =>
      have := checkAt_sound h.2 i oi ti (by simpa using ho) (by simpa using ht) hc
      rwa [show i0 + (i + 1) = i0 + 1 + i by omega]
theorem checkAll_sound {ops : Array Oper} {tr : List Tr} {bs : List Nat} : ∀ {os : List Oper} {j0 : Nat}, checkAll ops tr bs j0 os = true → ops.toList.drop j0 = os → ∀ j o, j0 ≤ j → ops[j]? = some o →
    (∀ e ∈ o.after, Region.binds .any e = true → e.on < j) ∧ checkAt ops (bs.getD j 0) (tr.getD j default) o 0 (ops.toList.take j) (tr.take j) = true
  | [], j0, _, hos, j, o, hj, ho => by
    have h1 : ops.size ≤ j0 := by simpa using hos
    have h2 := (Array.getElem?_eq_some_iff.1 ho).1
    omega
  | o1 :: os, j0, h, hos, j, o, hj, ho => by
    have hlt : j0 < ops.toList.length := by
      rcases Nat.lt_or_ge j0 ops.toList.length with h | h
      · exact h
      · rw [List.drop_eq_nil_of_le h] at hos; cases hos
    rw [List.drop_eq_getElem_cons hlt] at hos
    injection hos with ho1 hos'
    simp only [checkAll, Bool.and_eq_true] at h
    rcases Nat.lt_or_ge j0 j with hlt' | hge
    · exact checkAll_sound h.2 hos' j o (by omega) ho
    · have hje : j = j0 := by omega
      subst hje
      have : o1 = o := by
        rw [← ho1]
        have : ops[j]? = some (ops.toList[j]) := by simp
        rw [this] at ho
        exact Option.some.inj ho
      subst this
      refine ⟨fun e he hb => ?_, h.1.2⟩
      have := List.all_eq_true.1 h.1.1 e (by simpa using he)
      simpa [hb] using this
end Go.Am
