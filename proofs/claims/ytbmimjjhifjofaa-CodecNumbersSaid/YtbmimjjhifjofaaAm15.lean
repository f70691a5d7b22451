/- THE ABSTRACT MACHINE, 15: regions, in the text's order and in any. -/
import Derived.Test.YtbmimjjhifjofaaAm14
namespace Go.Am
open Go

def runOps (P : Program) (G : Nat → Option (List AV)) (ops : Array Oper) : Nat → List Oper → List AV → List AObj → List Orc → Option (AEx × List AV × List AObj × List Orc × List Prop)
  | _, [], env, H, orc => some (.normal, env, H, orc, [])
  | i, o :: os, env, H, orc => match stepA P G ops (guards ops i) env H o orc with
    | some (_, .ret x, H', orc', ps) => match runOps P G ops (i + 1) os (putA env o.dst x) H' orc' with
      | some (ex, env', H'', orc'', qs) => some (ex, env', H'', orc'', ps ++ qs)
      | none => none
    | some (_, .pan x, H', orc', ps) => some (.pan x, env, H', orc', ps)
    | none => none

theorem getD_set_self' {l : List AV} {t : Nat} {x : AV} (h : t < l.length) : (l.set t x).getD t .dead = x := by simp [List.getD_eq_getElem?_getD, h]
theorem getD_set_ne' {l : List AV} {s t : Nat} {x : AV} (h : s ≠ t) : (l.set s x).getD t .dead = l.getD t .dead := by simp [List.getD_eq_getElem?_getD, h]
theorem putA_length (env : List AV) (d : Option Tmp) (x : AV) : (putA env d x).length = env.length := by cases d <;> simp [putA]

theorem put_def (a : Act) (d : Option Tmp) (v : Value) : (a.put d v).defers = a.defers := by cases d <;> rfl

/-- The temporaries are what env says. -/
def EnvOk (V : View) (env : List AV) (a : Act) : Prop := Reps V env a.tmps.toList
theorem EnvOk.step {V V' : View} (hs : Step V V') {env : List AV} {a : Act} (h : EnvOk V env a) : EnvOk V' env a := Reps.step hs h
theorem EnvOk.put {V : View} {env : List AV} {a : Act} (h : EnvOk V env a) (d : Option Tmp) {x : AV} {v : Value} (hx : Rep V x v) : EnvOk V (putA env d x) (a.put d v) := by
  cases d with
  | none => exact h
  | some d =>
    unfold EnvOk
    have := Reps.set h d hx
    simpa [putA, Act.put] using this
theorem EnvOk.get {V : View} {env : List AV} {a : Act} (h : EnvOk V env a) (t : Nat) : Rep V (env.getD t .dead) (a.tmps.getD t undef) := by
  by_cases ht : t < env.length
  · have := h.2 t ht
    simpa [Array.getD_eq_getD_getElem?, List.getD_eq_getElem?_getD] using this
  · rw [List.getD_eq_getElem?_getD, List.getElem?_eq_none (by omega)]
    exact .dead _

section
variable {P : Program} {G : Nat → Option (List AV)} {r : Option Nat} {ops : Array Oper}

/-- In the text's order. -/
theorem runOps_sound {Q : Exit → Act → World → Prop} : ∀ {os : List Oper} {i : Nat} {env : List AV} {H : List AObj} {orc : List Orc} {ex : AEx} {env' : List AV} {H' : List AObj} {orc' : List Orc} {ps : List Prop},
    runOps P G ops i os env H orc = some (ex, env', H', orc', ps) → AllP ps → ops.toList.drop i = os → ∀ {V : View} {a : Act}, HeapRep G V → V.H = H → EnvOk V env a →
    (ex = .normal → ∀ V' a', Step V V' → HeapRep G V' → V'.H = H' → EnvOk V' env' a' → a'.defers = a.defers → Q .normal a' V'.w) →
    (∀ x, ex = .pan x → ∀ V' a' v, Step V V' → HeapRep G V' → V'.H = H' → EnvOk V' env' a' → a'.defers = a.defers → Rep V' x v → Q (.panic [{ v := v, recovered := false }]) a' V'.w) →
    wpOpsIn (fz r) 0 P ops Q ((List.range ops.size).drop i) a V.w
  | [], i, env, H, orc, ex, env', H', orc', ps, h, hps, hos, V, a, hG, hH, he, n1, n2 => by
    have hle : ops.size ≤ i := by simpa using hos
    rw [List.drop_eq_nil_of_le (by simpa using hle)]
    simp only [runOps, Option.some.injEq, Prod.mk.injEq] at h
    obtain ⟨rfl, rfl, rfl, _, _⟩ := h
    exact n1 rfl V a (Step.refl V) hG hH he rfl
  | o :: os, i, env, H, orc, ex, env', H', orc', ps, h, hps, hos, V, a, hG, hH, he, n1, n2 => by
    have hlt : i < ops.size := by
      rcases Nat.lt_or_ge i ops.size with h | h
      · exact h
      · rw [List.drop_eq_nil_of_le (by simpa using h)] at hos; cases hos
    have hlt' : i < ops.toList.length := by simpa using hlt
    rw [List.drop_eq_getElem_cons hlt'] at hos
    injection hos with ho hos'
    have ho' : ops[i]? = some o := by rw [← ho]; simp [hlt]
    have hr : (List.range ops.size).drop i = i :: (List.range ops.size).drop (i + 1) := by
      rw [List.drop_eq_getElem_cons (by simpa using hlt)]; simp
    rw [hr, wpOpsIn_cons]
    unfold runOps at h
    split at h
    · rename_i k x H1 orc1 qs hst
      split at h
      · rename_i ex1 env1 H2 orc2 rs hrec
        cases h
        obtain ⟨hq, hrs⟩ := allP_append.1 hps
        obtain ⟨h1, h2⟩ := stepA_sound (r := r) (a := a) ho' hst hq hG (fun t _ => he.get t) (.inl hH)
        refine h1 _ Q (fun V' v x' hx hs hG' hH' hrep => ?_) (fun V' v x' hx => by cases hx)
        cases hx
        have hH1 : V'.H = H1 := by
          rw [hH']
          split
          · rename_i hk; rw [hH, h2 (by rw [hk]; simp)]
          · rfl
        have he' := (he.step hs).put o.dst hrep
        exact runOps_sound hrec hrs hos' hG' hH1 he'
          (fun hex V2 a2 s2 g2 hh2 e2 d2 => n1 hex V2 a2 (hs.trans s2) g2 hh2 e2 (d2.trans (put_def _ _ _)))
          (fun y hex V2 a2 v2 s2 g2 hh2 e2 d2 => n2 y hex V2 a2 v2 (hs.trans s2) g2 hh2 e2 (d2.trans (put_def _ _ _)))
      · cases h
    · rename_i k x H1 orc1 qs hst
      cases h
      obtain ⟨h1, h2⟩ := stepA_sound (r := r) (a := a) ho' hst hps hG (fun t _ => he.get t) (.inl hH)
      refine h1 _ Q (fun V' v x' hx => by cases hx) (fun V' v x' hx hs hG' hH' hrep => ?_)
      cases hx
      have hH1 : V'.H = H' := by
        rw [hH']
        split
        · rename_i hk; rw [hH, h2 (by rw [hk]; simp)]
        · rfl
      exact n2 x rfl V' a v hs hG' hH1 (he.step hs) rfl hrep
    · cases h
end

/-! ### In any order -/
/-- One operation's part of a run: the objects that it touches (none: all), whether it asks or turns their number, its kind, its outcome, the heap behind it. -/
structure Tr where
  ids : Option (List Nat)
  len : Bool
  k : Kind
  x : AV
  H : List AObj
instance : Inhabited Tr := ⟨⟨some [], false, .free, .dead, []⟩⟩
def Tr.touch (t : Tr) (id : Nat) : Bool := match t.ids with
  | some l => l.contains id
  | none => true
def Tr.lens (t : Tr) : Bool := t.len || t.ids.isNone

def mkTr (ev : Operand → AV) (o : Oper) (orc : List Orc) (k : Kind) (x : AV) (H H' : List AObj) : Tr := match foot ev o orc with
  | some (ids, len) => ⟨some (ids ++ made len H H'), len, k, x, H'⟩
  | none => ⟨none, true, k, x, H'⟩

/-- The temporaries and the heap when the operations S below m are done. -/
def envS (ops : Array Oper) (tr : List Tr) (S : Nat → Bool) (env : List AV) : Nat → List AV
  | 0 => env
  | m + 1 => if S m = true then putA (envS ops tr S env m) ((ops[m]?).bind (·.dst)) (tr.getD m default).x else envS ops tr S env m
def heapAt (tr : List Tr) (S : Nat → Bool) (H : List AObj) : Nat → Nat → Option AObj
  | 0, id => H[id]?
  | m + 1, id => if S m = true ∧ (tr.getD m default).k = .eff ∧ (tr.getD m default).touch id = true then (tr.getD m default).H[id]? else heapAt tr S H m id
def lenAt (tr : List Tr) (S : Nat → Bool) (H : List AObj) : Nat → Nat
  | 0 => H.length
  | m + 1 => if S m = true ∧ (tr.getD m default).k = .eff ∧ (tr.getD m default).lens = true then (tr.getD m default).H.length else lenAt tr S H m
structure HeapIs (tr : List Tr) (S : Nat → Bool) (H : List AObj) (m : Nat) (K : List AObj) : Prop where
  at_ : ∀ id, K[id]? = heapAt tr S H m id
  len : K.length = lenAt tr S H m
theorem HeapIs.uniq {tr : List Tr} {S : Nat → Bool} {H : List AObj} {m : Nat} {K L : List AObj} (h : HeapIs tr S H m K) (h' : HeapIs tr S H m L) : K = L :=
  List.ext_getElem? fun id => (h.at_ id).trans (h'.at_ id).symm

def all_ : Nat → Bool := fun _ => true

theorem envS_length (ops : Array Oper) (tr : List Tr) (S : Nat → Bool) (env : List AV) : ∀ m, (envS ops tr S env m).length = env.length
  | 0 => rfl
  | m + 1 => by
    simp only [envS]
    split
    · rw [putA_length, envS_length ops tr S env m]
    · exact envS_length ops tr S env m

theorem putA_getD {env : List AV} {d : Option Tmp} {x : AV} {t : Nat} (h : d ≠ some t) : (putA env d x).getD t .dead = env.getD t .dead := by
  cases d with
  | none => rfl
  | some d => exact getD_set_ne' fun e => h (by rw [e])

/-- A slot holds the same where its writers are in, and later ones out. -/
theorem envS_eq {ops : Array Oper} {tr : List Tr} {S T : Nat → Bool} {env : List AV} {t : Nat} : ∀ {m : Nat}, (∀ j, j < m → (ops[j]?).bind (·.dst) = some t → S j = T j) → (envS ops tr S env m).getD t .dead = (envS ops tr T env m).getD t .dead
  | 0, _ => rfl
  | m + 1, h => by
    have ih := envS_eq (m := m) (S := S) (T := T) (tr := tr) (env := env) (ops := ops) (t := t) fun j hj => h j (by omega)
    simp only [envS]
    by_cases hd : (ops[m]?).bind (·.dst) = some t
    · have := h m (by omega) hd
      rw [this]
      split
      · rw [hd]
        simp only [putA]
        by_cases hl : t < env.length
        · rw [getD_set_self' (by rw [envS_length]; exact hl), getD_set_self' (by rw [envS_length]; exact hl)]
        · have out : ∀ {l : List AV} {x : AV}, l.length = env.length → (l.set t x).getD t .dead = .dead := fun hl' => by
            rw [List.getD_eq_getElem?_getD, List.getElem?_eq_none (by rw [List.length_set]; omega)]; rfl
          rw [out (envS_length _ _ _ _ _), out (envS_length _ _ _ _ _)]
      · exact ih
    · have e1 : ∀ U : Nat → Bool, (if U m = true then putA (envS ops tr U env m) ((ops[m]?).bind (·.dst)) (tr.getD m default).x else envS ops tr U env m).getD t .dead = (envS ops tr U env m).getD t .dead := fun U => by
        split
        · exact putA_getD hd
        · rfl
      rw [e1, e1]
      exact ih
theorem envS_past {ops : Array Oper} {tr : List Tr} {S : Nat → Bool} {env : List AV} {t i : Nat} : ∀ {m : Nat}, i ≤ m → (∀ j, i ≤ j → j < m → (ops[j]?).bind (·.dst) = some t → S j = false) → (envS ops tr S env m).getD t .dead = (envS ops tr S env i).getD t .dead
  | 0, hle, _ => by rw [Nat.le_zero.1 hle]
  | m + 1, hle, h => by
    rcases Nat.lt_or_ge m i with hlt | hge
    · rw [show i = m + 1 by omega]
    · simp only [envS]
      have ih := envS_past (m := m) (S := S) (tr := tr) (env := env) (ops := ops) (t := t) hge fun j h1 h2 => h j h1 (by omega)
      split
      · rename_i hS
        rw [putA_getD fun hd => by rw [h m hge (by omega) hd] at hS; cases hS]
        exact ih
      · exact ih
theorem heapAt_eq {tr : List Tr} {S T : Nat → Bool} {H : List AObj} {id : Nat} : ∀ {m : Nat}, (∀ j, j < m → (tr.getD j default).k = .eff → (tr.getD j default).touch id = true → S j = T j) → heapAt tr S H m id = heapAt tr T H m id
  | 0, _ => rfl
  | m + 1, h => by
    have ih := heapAt_eq (m := m) (S := S) (T := T) (H := H) (tr := tr) (id := id) fun j hj => h j (by omega)
    simp only [heapAt]
    by_cases hk : (tr.getD m default).k = .eff ∧ (tr.getD m default).touch id = true
    · rw [h m (by omega) hk.1 hk.2, ih]
    · rw [if_neg fun hc => hk hc.2, if_neg fun hc => hk hc.2, ih]
theorem heapAt_past {tr : List Tr} {S : Nat → Bool} {H : List AObj} {i id : Nat} : ∀ {m : Nat}, i ≤ m → (∀ j, i ≤ j → j < m → (tr.getD j default).k = .eff → (tr.getD j default).touch id = true → S j = false) → heapAt tr S H m id = heapAt tr S H i id
  | 0, hle, _ => by rw [Nat.le_zero.1 hle]
  | m + 1, hle, h => by
    rcases Nat.lt_or_ge m i with hlt | hge
    · rw [show i = m + 1 by omega]
    · simp only [heapAt]
      rw [if_neg fun hc => by rw [h m hge (by omega) hc.2.1 hc.2.2] at hc; exact absurd hc.1 (by simp)]
      exact heapAt_past hge fun j h1 h2 => h j h1 (by omega)
theorem lenAt_eq {tr : List Tr} {S T : Nat → Bool} {H : List AObj} : ∀ {m : Nat}, (∀ j, j < m → (tr.getD j default).k = .eff → (tr.getD j default).lens = true → S j = T j) → lenAt tr S H m = lenAt tr T H m
  | 0, _ => rfl
  | m + 1, h => by
    have ih := lenAt_eq (m := m) (S := S) (T := T) (H := H) (tr := tr) fun j hj => h j (by omega)
    simp only [lenAt]
    by_cases hk : (tr.getD m default).k = .eff ∧ (tr.getD m default).lens = true
    · rw [h m (by omega) hk.1 hk.2, ih]
    · rw [if_neg fun hc => hk hc.2, if_neg fun hc => hk hc.2, ih]
theorem lenAt_past {tr : List Tr} {S : Nat → Bool} {H : List AObj} {i : Nat} : ∀ {m : Nat}, i ≤ m → (∀ j, i ≤ j → j < m → (tr.getD j default).k = .eff → (tr.getD j default).lens = true → S j = false) → lenAt tr S H m = lenAt tr S H i
  | 0, hle, _ => by rw [Nat.le_zero.1 hle]
  | m + 1, hle, h => by
    rcases Nat.lt_or_ge m i with hlt | hge
    · rw [show i = m + 1 by omega]
    · simp only [lenAt]
      rw [if_neg fun hc => by rw [h m hge (by omega) hc.2.1 hc.2.2] at hc; exact absurd hc.1 (by simp)]
      exact lenAt_past hge fun j h1 h2 => h j h1 (by omega)

/-- What the run says of each operation. -/
def TrOk (P : Program) (G : Nat → Option (List AV)) (ops : Array Oper) (tr : List Tr) (env : List AV) (H : List AObj) (i : Nat) : Prop :=
  ∃ o orc orc' ps Hi, ops[i]? = some o ∧ HeapIs tr all_ H i Hi ∧ tr.getD i default = mkTr (evA G (envS ops tr all_ env i)) o orc (tr.getD i default).k (tr.getD i default).x Hi (tr.getD i default).H ∧
    stepA P G ops (guards ops i) (envS ops tr all_ env i) Hi o orc = some ((tr.getD i default).k, .ret (tr.getD i default).x, (tr.getD i default).H, orc', ps) ∧ AllP ps
/-- What it says of the one that panics. -/
def PanOk (P : Program) (G : Nat → Option (List AV)) (ops : Array Oper) (tr : List Tr) (env : List AV) (H : List AObj) (i : Nat) (x : AV) (H1 : List AObj) : Prop :=
  ∃ o orc orc' ps Hi k, ops[i]? = some o ∧ HeapIs tr all_ H i Hi ∧ stepA P G ops (guards ops i) (envS ops tr all_ env i) Hi o orc = some (k, .pan x, H1, orc', ps) ∧ AllP ps ∧ (k ≠ .eff → H1 = Hi)

theorem enterA_heap {P : Program} {G : Nat → Option (List AV)} {H : List AObj} {f : FuncId} {xs : List AV} {orc orc' : List Orc} {k : Kind} {out : AOut} {H' : List AObj} {ps : List Prop} (h : enterA P G H f xs orc = some (k, out, H', orc', ps)) (hk : k ≠ .eff) : H' = H := by
  unfold enterA at h
  split at h
  · split at h
    · cases h; rfl
    · cases h
  · split at h
    · split at h
      · cases h; exact absurd rfl hk
      · cases h
    · cases h
  · split at h
    · split at h
      · cases h; rfl
      · cases h
    · cases h
  · cases h
theorem evalOp_heap {P : Program} {G : Nat → Option (List AV)} {H : List AObj} {ev : Operand → AV} {o : Oper} {orc orc' : List Orc} {k : Kind} {out : AOut} {H' : List AObj} {ps : List Prop} (h : evalOp P G H ev o orc = some (k, out, H', orc', ps)) (hk : k ≠ .eff) : H' = H := by
  unfold evalOp at h
  split at h
  · obtain ⟨q, _, hq⟩ := Option.map_eq_some_iff.1 h
    simp only [Prod.mk.injEq] at hq
    exact absurd hq.1.symm hk
  · obtain ⟨q, _, hq⟩ := Option.map_eq_some_iff.1 h
    simp only [Prod.mk.injEq] at hq
    exact absurd hq.1.symm hk
  · split at h
    · cases h; rfl
    · cases h; rfl
    · cases h
  · split at h
    · cases h
    · split at h
      · cases h; rfl
      · split at h
        · cases h; rfl
        · split at h
          · cases h; rfl
          · split at h
            · cases h; exact absurd rfl hk
            · unfold evalCall at h
              split at h
              · split at h
                · cases h; exact absurd rfl hk
                · split at h
                  · split at h
                    · exact enterA_heap h hk
                    · cases h
                  · cases h
              · cases h
theorem reval_heap {P : Program} {G : Nat → Option (List AV)} {d : Option Tmp} {H : List AObj} {ev : Operand → AV} {o : Oper} {orc orc' : List Orc} {k : Kind} {out : AOut} {H' : List AObj} {ps : List Prop} (h : reval d (evalOp P G H ev o orc) = some (k, out, H', orc', ps)) (hk : k ≠ .eff) : H' = H := by
  unfold reval at h
  split at h
  · rename_i he
    split at h
    · split at h
      · cases h
        exact absurd rfl hk
      · cases h
    · rw [← he] at h
      exact evalOp_heap h hk
  · rename_i he
    split at h
    · cases h
      exact evalOp_heap he hk
    · rw [← he] at h
      exact evalOp_heap h hk
  · rename_i he
    split at h
    · cases h
      exact absurd rfl hk
    · rw [← he] at h
      exact evalOp_heap h hk
  · exact evalOp_heap h hk

theorem stepA_heap {P : Program} {G : Nat → Option (List AV)} {ops : Array Oper} {gs : Bool} {env : List AV} {H : List AObj} {o : Oper} {orc orc' : List Orc} {k : Kind} {out : AOut} {H' : List AObj} {ps : List Prop} (h : stepA P G ops gs env H o orc = some (k, out, H', orc', ps)) (hk : k ≠ .eff) : H' = H := by
  unfold stepA at h
  split at h
  · split at h
    · rename_i hev
      split at h
      · split at h
        · cases h; exact reval_heap hev hk
        · cases h
      · cases h; exact reval_heap hev hk
    · cases h
  · cases h; rfl
  · cases h

theorem getD_set_obj {l : List AObj} {t : Nat} {x : AObj} (h : t < l.length) : (l.set t x).getD t .gone = x := by simp [List.getD_eq_getElem?_getD, h]
/-! #### Which come before which -/
def bits (acc : List Nat) (o : Oper) : Nat := o.after.toList.foldl (fun s e => if Region.binds .any e = true then s ||| (2 ^ e.on ||| acc.getD e.on 0) else s) 0
def bitsL : List Oper → List Nat → List Nat
  | [], acc => acc
  | o :: os, acc => bitsL os (acc ++ [bits acc o])
/-- All that binding edges lead back to is in. -/
def Shut (ops : Array Oper) (S : Nat → Bool) : Prop := ∀ j o, ops[j]? = some o → S j = true → ∀ e ∈ o.after, Region.binds .any e = true → S e.on = true

theorem bits_sound {acc : List Nat} {o : Oper} {S : Nat → Bool} (hacc : ∀ j i, S j = true → (acc.getD j 0).testBit i = true → S i = true) (ho : ∀ e ∈ o.after, Region.binds .any e = true → S e.on = true) {i : Nat} (h : (bits acc o).testBit i = true) : S i = true := by
  have key : ∀ (l : List Edge) (s : Nat), (∀ e ∈ l, e ∈ o.after) → (s.testBit i = true → S i = true) → (l.foldl (fun s e => if Region.binds .any e = true then s ||| (2 ^ e.on ||| acc.getD e.on 0) else s) s).testBit i = true → S i = true := by
    intro l
    induction l with
    | nil => exact fun s _ hs h => hs h
    | cons e l ih =>
      intro s hl hs h
      refine ih _ (fun e he => hl e (by simp [he])) (fun h => ?_) h
      simp only [] at h
      split at h
      · rename_i hb
        have he := ho e (hl e (by simp)) hb
        rw [Nat.testBit_or, Nat.testBit_or, Nat.testBit_two_pow] at h
        simp only [Bool.or_eq_true, decide_eq_true_eq] at h
        rcases h with h | h | h
        · exact hs h
        · exact h ▸ he
        · exact hacc _ _ he h
      · exact hs h
  exact key o.after.toList 0 (fun e he => by simpa using he) (fun h => by simp at h) h
theorem bitsL_sound {ops : Array Oper} {S : Nat → Bool} (hS : Shut ops S) : ∀ (os : List Oper) (acc : List Nat), ops.toList.drop acc.length = os → (∀ j i, S j = true → (acc.getD j 0).testBit i = true → S i = true) →
    ∀ j i, S j = true → ((bitsL os acc).getD j 0).testBit i = true → S i = true
  | [], acc, _, h => h
  | o :: os, acc, hos, h => by
    have hlt : acc.length < ops.toList.length := by
      rcases Nat.lt_or_ge acc.length ops.toList.length with h | h
      · exact h
      · rw [List.drop_eq_nil_of_le h] at hos; cases hos
    rw [List.drop_eq_getElem_cons hlt] at hos
    injection hos with ho hos'
    refine bitsL_sound hS os _ (by simpa using hos') fun j i hj hb => ?_
    rcases Nat.lt_trichotomy j acc.length with hlt' | rfl | hgt
    · rw [List.getD_eq_getElem?_getD, List.getElem?_append_left hlt', ← List.getD_eq_getElem?_getD] at hb
      exact h j i hj hb
    · rw [List.getD_eq_getElem?_getD, List.getElem?_append_right (Nat.le_refl _)] at hb
      simp only [Nat.sub_self, List.getElem?_cons_zero, Option.getD_some] at hb
      exact bits_sound h (hS _ o (by rw [← ho]; simp) hj) hb
    · rw [List.getD_eq_getElem?_getD, List.getElem?_eq_none (by simp; omega)] at hb
      simp at hb
theorem bitsL_acc : ∀ (os : List Oper) (acc : List Nat) (j : Nat), j < acc.length → (bitsL os acc).getD j 0 = acc.getD j 0
  | [], _, _, _ => rfl
  | o :: os, acc, j, hj => by
    rw [bitsL, bitsL_acc os _ j (by simp; omega), List.getD_eq_getElem?_getD, List.getElem?_append_left hj, ← List.getD_eq_getElem?_getD]
theorem bitsL_at {ops : Array Oper} : ∀ (os : List Oper) (acc : List Nat), ops.toList.drop acc.length = os → ∀ j o, acc.length ≤ j → ops[j]? = some o → ∃ acc', (bitsL os acc).getD j 0 = bits acc' o ∧ ∀ i, i < acc'.length → acc'.getD i 0 = (bitsL os acc).getD i 0
  | [], acc, hos, j, o, hj, ho => by
    have h1 : ops.size ≤ acc.length := by simpa using hos
    have h2 := (Array.getElem?_eq_some_iff.1 ho).1
    omega
  | o1 :: os, acc, hos, j, o, hj, ho => by
    have hlt : acc.length < ops.toList.length := by
      rcases Nat.lt_or_ge acc.length ops.toList.length with h | h
      · exact h
      · rw [List.drop_eq_nil_of_le h] at hos; cases hos
    rw [List.drop_eq_getElem_cons hlt] at hos
    injection hos with ho1 hos'
    rcases Nat.lt_or_ge acc.length j with hlt' | hge
    · exact bitsL_at os (acc ++ [bits acc o1]) (by simpa using hos') j o (by simp; omega) ho
    · have hje : j = acc.length := by omega
      subst hje
      have : o1 = o := by
        rw [← ho1]
        have : ops[acc.length]? = some (ops.toList[acc.length]) := by simp
        rw [this] at ho
        exact Option.some.inj ho
      subst this
      refine ⟨acc, ?_, fun i hi => ?_⟩
      · rw [bitsL, bitsL_acc os _ _ (by simp), List.getD_eq_getElem?_getD, List.getElem?_append_right (Nat.le_refl _)]
        simp
      · rw [bitsL, bitsL_acc os _ i (by simp; omega), List.getD_eq_getElem?_getD (l := acc ++ _), List.getElem?_append_left hi, ← List.getD_eq_getElem?_getD]

/-- What an operation that is ready, its edges all in, comes behind. -/
theorem before_ready {ops : Array Oper} {S : Nat → Bool} (hS : Shut ops S) {j : Nat} {o : Oper} (ho : ops[j]? = some o) (hall : ∀ e ∈ o.after, Region.binds .any e = true → S e.on = true) {i : Nat} (h : ((bitsL ops.toList []).getD j 0).testBit i = true) : S i = true := by
  obtain ⟨acc', h1, h2⟩ := bitsL_at (ops := ops) ops.toList [] rfl j o (Nat.zero_le _) ho
  rw [h1] at h
  refine bits_sound (acc := acc') (fun k m hk hm => ?_) hall h
  rcases Nat.lt_or_ge k acc'.length with hlt | hge
  · rw [h2 k hlt] at hm
    exact bitsL_sound hS ops.toList [] rfl (fun _ _ _ h => by simp at h) k m hk hm
  · rw [List.getD_eq_getElem?_getD, List.getElem?_eq_none hge] at hm
    simp at hm
theorem before_in {ops : Array Oper} {S : Nat → Bool} (hS : Shut ops S) {i j : Nat} (hj : S j = true) (h : ((bitsL ops.toList []).getD j 0).testBit i = true) : S i = true :=
  bitsL_sound hS ops.toList [] rfl (fun _ _ _ h => by simp at h) j i hj h

/-! #### The run -/
/-- Does an operation come behind the one that panics? -/
def isBehind (bs : List Nat) (p : Option Nat) (i : Nat) : Bool := match p with
  | some q => (bs.getD i 0).testBit q
  | none => false
/-- The outcome of a run in the text's order: the parts, the temporaries, the heap; the panic, if one is told (p): those behind it are left out. -/
def runTr (P : Program) (G : Nat → Option (List AV)) (ops : Array Oper) (bs : List Nat) (p : Option Nat) : Nat → List Oper → List AV → List AObj → List Orc → Option (List Tr × List AV × List AObj × Option (AV × List AObj) × List Orc × List Prop)
  | _, [], env, H, orc => some ([], env, H, none, orc, [])
  | i, o :: os, env, H, orc =>
    if isBehind bs p i = true then
      (match runTr P G ops bs p (i + 1) os (putA env o.dst .dead) H orc with
      | some (tr, env', H', pn, orc'', qs) => some (⟨some [], false, .free, .dead, H⟩ :: tr, env', H', pn, orc'', qs)
      | none => none)
    else if p = some i then
      (match stepA P G ops (guards ops i) env H o orc with
      | some (_, .pan x, H1, orc', ps) => match runTr P G ops bs p (i + 1) os (putA env o.dst .dead) H orc' with
        | some (tr, env', H', _, orc'', qs) => some (⟨some [], false, .free, .dead, H⟩ :: tr, env', H', some (x, H1), orc'', ps ++ qs)
        | none => none
      | _ => none)
    else match stepA P G ops (guards ops i) env H o orc with
      | some (k, .ret x, H', orc', ps) => match runTr P G ops bs p (i + 1) os (putA env o.dst x) H' orc' with
        | some (tr, env', H'', pn, orc'', qs) => some (mkTr (evA G env) o orc k x H H' :: tr, env', H'', pn, orc'', ps ++ qs)
        | none => none
      | _ => none

theorem mkTr_k (ev : Operand → AV) (o : Oper) (orc : List Orc) (k : Kind) (x : AV) (H H' : List AObj) : (mkTr ev o orc k x H H').k = k ∧ (mkTr ev o orc k x H H').x = x ∧ (mkTr ev o orc k x H H').H = H' := by
  unfold mkTr; split <;> exact ⟨rfl, rfl, rfl⟩

/-- What a step turns is within what it touches. -/
theorem mkTr_touch {P : Program} {G : Nat → Option (List AV)} {ops : Array Oper} {gs : Bool} {env : List AV} {H : List AObj} {o : Oper} {orc orc' : List Orc} {k : Kind} {x : AV} {H' : List AObj} {ps : List Prop} (h : stepA P G ops gs env H o orc = some (k, .ret x, H', orc', ps)) :
    (∀ id, (mkTr (evA G env) o orc k x H H').touch id = false → H'[id]? = H[id]?) ∧ ((mkTr (evA G env) o orc k x H H').lens = false → H'.length = H.length) := by
  unfold mkTr
  cases hf : foot (evA G env) o orc with
  | none => exact ⟨fun id h => by simp [Tr.touch] at h, fun h => by simp [Tr.lens] at h⟩
  | some q =>
    obtain ⟨ids, len⟩ := q
    obtain ⟨K', h1, h2⟩ := stepA_loc (K := H) h hf ⟨fun _ _ => rfl, fun _ => rfl⟩
    refine ⟨fun id hid => (h2.out id ?_).2, fun hl => (h2.l1 ?_).1⟩
    · intro hm
      simp only [Tr.touch] at hid
      rw [List.contains_iff_mem.2 hm] at hid
      cases hid
    · simp only [Tr.lens, Bool.or_eq_false_iff] at hl
      exact hl.1

theorem HeapIs.next {P : Program} {G : Nat → Option (List AV)} {ops : Array Oper} {gs : Bool} {env : List AV} {H H0 : List AObj} {o : Oper} {orc orc' : List Orc} {k : Kind} {x : AV} {H' : List AObj} {ps : List Prop} {tr : List Tr} {i : Nat} (hI : HeapIs tr all_ H0 i H)
    (h : stepA P G ops gs env H o orc = some (k, .ret x, H', orc', ps)) (ht : tr.getD i default = mkTr (evA G env) o orc k x H H') : HeapIs tr all_ H0 (i + 1) H' := by
  obtain ⟨t1, t2⟩ := mkTr_touch h
  obtain ⟨m1, m2, m3⟩ := mkTr_k (evA G env) o orc k x H H'
  constructor
  · intro id
    simp only [heapAt]
    rw [ht, m1, m3]
    by_cases hk : k = .eff
    · cases hto : (mkTr (evA G env) o orc k x H H').touch id with
      | true => rw [if_pos ⟨rfl, hk, rfl⟩]
      | false => rw [if_neg (by simp), t1 id hto]; exact hI.at_ id
    · rw [if_neg fun h => hk h.2.1, stepA_heap h hk]; exact hI.at_ id
  · simp only [lenAt]
    rw [ht, m1, m3]
    by_cases hk : k = .eff
    · cases hto : (mkTr (evA G env) o orc k x H H').lens with
      | true => rw [if_pos ⟨rfl, hk, rfl⟩]
      | false => rw [if_neg (by simp), t2 hto]; exact hI.len
    · rw [if_neg fun h => hk h.2.1, stepA_heap h hk]; exact hI.len
theorem HeapIs.skip {tr : List Tr} {H0 H : List AObj} {i : Nat} (hI : HeapIs tr all_ H0 i H) (hk : (tr.getD i default).k = .free) : HeapIs tr all_ H0 (i + 1) H := by
  constructor
  · intro id
    simp only [heapAt]
    rw [if_neg fun h => by rw [hk] at h; exact absurd h.2.1 (by simp)]
    exact hI.at_ id
  · simp only [lenAt]
    rw [if_neg fun h => by rw [hk] at h; exact absurd h.2.1 (by simp)]
    exact hI.len

theorem runTr_sound {P : Program} {G : Nat → Option (List AV)} {ops : Array Oper} {bs : List Nat} {p : Option Nat} : ∀ {os : List Oper} {i : Nat} {env env' : List AV} {H H' : List AObj} {pn : Option (AV × List AObj)} {orc orc' : List Orc} {tr : List Tr} {ps : List Prop}, runTr P G ops bs p i os env H orc = some (tr, env', H', pn, orc', ps) → AllP ps → ops.toList.drop i = os → i ≤ ops.size →
    tr.length = os.length ∧ ∀ (tr0 : List Tr) (env0 : List AV) (H0 : List AObj), tr0.length = i → envS ops (tr0 ++ tr) all_ env0 i = env → HeapIs (tr0 ++ tr) all_ H0 i H →
      (∀ j, i ≤ j → j < ops.size → isBehind bs p j = false → p ≠ some j → TrOk P G ops (tr0 ++ tr) env0 H0 j) ∧ (∀ j, i ≤ j → j < ops.size → isBehind bs p j = true ∨ p = some j → ((tr0 ++ tr).getD j default).k = .free) ∧
      (∀ q, p = some q → i ≤ q → q < ops.size → isBehind bs p q = false → ∃ x H1, pn = some (x, H1) ∧ PanOk P G ops (tr0 ++ tr) env0 H0 q x H1) ∧
      envS ops (tr0 ++ tr) all_ env0 ops.size = env' ∧ HeapIs (tr0 ++ tr) all_ H0 ops.size H'
  | [], i, env, env', H, H', pn, orc, orc', tr, ps, h, _, hos, hle' => by
    simp only [runTr, Option.some.injEq, Prod.mk.injEq] at h
    obtain ⟨rfl, rfl, rfl, _, _, _⟩ := h
    have hle : ops.size ≤ i := by simpa using hos
    have hi : i = ops.size := by omega
    subst hi
    exact ⟨rfl, fun tr0 env0 H0 hl0 he hH => ⟨fun j h1 h2 => by omega, fun j h1 h2 => by omega, fun q _ h1 h2 => by omega, he, hH⟩⟩
  | o :: os, i, env, env', H, H', pn, orc, orc', tr, ps, h, hps, hos, hle' => by
    have hlt : i < ops.size := by
      rcases Nat.lt_or_ge i ops.size with h | h
      · exact h
      · rw [List.drop_eq_nil_of_le (by simpa using h)] at hos; cases hos
    have hlt' : i < ops.toList.length := by simpa using hlt
    rw [List.drop_eq_getElem_cons hlt'] at hos
    injection hos with ho hos'
    have ho' : ops[i]? = some o := by rw [← ho]; simp [hlt]
    have hget : ∀ (tr0 : List Tr) (t : Tr) (tr1 : List Tr), tr0.length = i → (tr0 ++ t :: tr1).getD i default = t := fun tr0 t tr1 hl0 => by
      rw [List.getD_eq_getElem?_getD, List.getElem?_append_right (by omega)]
      simp [hl0]
    have henv : ∀ (tr0 : List Tr) (t : Tr) (tr1 : List Tr) (env0 : List AV), tr0.length = i → envS ops (tr0 ++ t :: tr1) all_ env0 i = env → envS ops (tr0 ++ t :: tr1) all_ env0 (i + 1) = putA env o.dst t.x := fun tr0 t tr1 env0 hl0 he => by
      simp only [envS, all_, if_true]
      rw [hget tr0 t tr1 hl0, ho']
      show putA (envS ops _ all_ env0 i) o.dst t.x = _
      rw [he]
    unfold runTr at h
    split at h
    · -- behind
      rename_i hb
      split at h <;> first | (cases h; done) | skip
      rename_i tr1 env1 H1 pn1 orc1 qs hrec
      cases h
      obtain ⟨l1, l2⟩ := runTr_sound hrec hps hos' (by omega)
      refine ⟨by simp [l1], fun tr0 env0 H0 hl0 he hH => ?_⟩
      have hg := hget tr0 ⟨some [], false, .free, .dead, H⟩ tr1 hl0
      have := l2 (tr0 ++ [⟨some [], false, .free, .dead, H⟩]) env0 H0 (by simp [hl0]) (by rw [List.append_assoc, List.singleton_append]; exact henv _ _ _ _ hl0 he) (by rw [List.append_assoc, List.singleton_append]; exact hH.skip (by rw [hg]))
      rw [List.append_assoc, List.singleton_append] at this
      obtain ⟨a1, a2, a3, a4, a5⟩ := this
      refine ⟨fun j h1 h2 h3 h4 => ?_, fun j h1 h2 h3 => ?_, fun q h1 h2 h3 h4 => ?_, a4, a5⟩
      · rcases Nat.lt_or_eq_of_le h1 with h1 | rfl
        · exact a1 j h1 h2 h3 h4
        · rw [hb] at h3; cases h3
      · rcases Nat.lt_or_eq_of_le h1 with h1 | rfl
        · exact a2 j h1 h2 h3
        · rw [hg]
      · rcases Nat.lt_or_eq_of_le h2 with h2 | rfl
        · exact a3 q h1 h2 h3 h4
        · rw [hb] at h4; cases h4
    · rename_i hb
      split at h
      · -- the panic
        rename_i hp
        split at h <;> first | (cases h; done) | skip
        rename_i k x H1 orc1 qs hst
        split at h <;> first | (cases h; done) | skip
        rename_i tr1 env1 H2 pn1 orc2 rs hrec
        cases h
        obtain ⟨hq, hrs⟩ := allP_append.1 hps
        obtain ⟨l1, l2⟩ := runTr_sound hrec hrs hos' (by omega)
        refine ⟨by simp [l1], fun tr0 env0 H0 hl0 he hH => ?_⟩
        have hg := hget tr0 ⟨some [], false, .free, .dead, H⟩ tr1 hl0
        have := l2 (tr0 ++ [⟨some [], false, .free, .dead, H⟩]) env0 H0 (by simp [hl0]) (by rw [List.append_assoc, List.singleton_append]; exact henv _ _ _ _ hl0 he) (by rw [List.append_assoc, List.singleton_append]; exact hH.skip (by rw [hg]))
        rw [List.append_assoc, List.singleton_append] at this
        obtain ⟨a1, a2, a3, a4, a5⟩ := this
        refine ⟨fun j h1 h2 h3 h4 => ?_, fun j h1 h2 h3 => ?_, fun q h1 h2 h3 h4 => ?_, a4, a5⟩
        · rcases Nat.lt_or_eq_of_le h1 with h1 | rfl
          · exact a1 j h1 h2 h3 h4
          · exact absurd hp h4
        · rcases Nat.lt_or_eq_of_le h1 with h1 | rfl
          · exact a2 j h1 h2 h3
          · rw [hg]
        · have : q = i := by rw [hp] at h1; exact (Option.some.inj h1).symm
          subst this
          exact ⟨x, H1, rfl, o, orc, orc1, qs, H, k, ho', hH, by rw [he]; exact hst, hq, fun hk => stepA_heap hst hk⟩
      · rename_i hp
        split at h <;> first | (cases h; done) | skip
        rename_i k x H1 orc1 qs hst
        split at h <;> first | (cases h; done) | skip
        rename_i tr1 env1 H2 pn1 orc2 rs hrec
        cases h
        obtain ⟨hq, hrs⟩ := allP_append.1 hps
        obtain ⟨l1, l2⟩ := runTr_sound hrec hrs hos' (by omega)
        refine ⟨by simp [l1], fun tr0 env0 H0 hl0 he hH => ?_⟩
        have hg := hget tr0 (mkTr (evA G env) o orc k x H H1) tr1 hl0
        obtain ⟨m1, m2, m3⟩ := mkTr_k (evA G env) o orc k x H H1
        have := l2 (tr0 ++ [mkTr (evA G env) o orc k x H H1]) env0 H0 (by simp [hl0]) (by rw [List.append_assoc, List.singleton_append]; have := henv tr0 (mkTr (evA G env) o orc k x H H1) tr1 env0 hl0 he; rw [m2] at this; exact this) (by rw [List.append_assoc, List.singleton_append]; exact hH.next hst hg)
        rw [List.append_assoc, List.singleton_append] at this
        obtain ⟨a1, a2, a3, a4, a5⟩ := this
        refine ⟨fun j h1 h2 h3 h4 => ?_, fun j h1 h2 h3 => ?_, fun q h1 h2 h3 h4 => ?_, a4, a5⟩
        · rcases Nat.lt_or_eq_of_le h1 with h1 | rfl
          · exact a1 j h1 h2 h3 h4
          · exact ⟨o, orc, orc1, qs, H, ho', hH, by rw [hg, he, m1, m2, m3], by rw [hg, he, m1, m2, m3]; exact hst, hq⟩
        · rcases Nat.lt_or_eq_of_le h1 with h1 | rfl
          · exact a2 j h1 h2 h3
          · rcases h3 with h3 | h3
            · exact absurd h3 hb
            · exact absurd h3 hp
        · rcases Nat.lt_or_eq_of_le h2 with h2 | rfl
          · exact a3 q h1 h2 h3 h4
          · exact absurd h1 hp

/-! #### The check -/
/-- May both touch one object? -/
def over (ti tj : Tr) : Bool := match ti.ids, tj.ids with
  | some a, some b => a.any (fun id => b.contains id) || (ti.len && tj.len)
  | _, _ => true
theorem over_touch {ti tj : Tr} {id : Nat} (h : ti.touch id = true) (h' : tj.touch id = true) : over ti tj = true := by
  unfold over
  unfold Tr.touch at h h'
  split
  · rename_i a b ha hb
    rw [ha] at h
    rw [hb] at h'
    simp only [Bool.or_eq_true]
    exact .inl (List.any_eq_true.2 ⟨id, List.contains_iff_mem.1 h, h'⟩)
  · rfl
theorem over_len {ti tj : Tr} (h : ti.lens = true) (h' : tj.lens = true) : over ti tj = true := by
  unfold over
  unfold Tr.lens at h h'
  split
  · rename_i a b ha hb
    rw [ha] at h
    rw [hb] at h'
    simp only [Option.isNone_some, Bool.or_false] at h h'
    rw [h, h']
    simp
  · rfl
theorem over_all {ti tj : Tr} (h : ti.ids = none ∨ tj.ids = none) : over ti tj = true := by
  unfold over
  rcases h with h | h
  · rw [h]
  · rw [h]; cases ti.ids <;> rfl
def clash (ops : Array Oper) (ti tj : Tr) (oi oj : Oper) : Bool :=
  (match oi.dst with | some d => (oj.looksAt ops).contains d || oj.dst == some d | none => false) ||
  (match oj.dst with | some d => (oi.looksAt ops).contains d | none => false) ||
  ((ti.k == .eff && !(tj.k == .free)) && over ti tj) || ((tj.k == .eff && !(ti.k == .free)) && over ti tj)
def checkAt (ops : Array Oper) (b : Nat) (tj : Tr) (oj : Oper) : Nat → List Oper → List Tr → Bool
  | i, oi :: os, ti :: tr => (!(clash ops ti tj oi oj) || b.testBit i) && checkAt ops b tj oj (i + 1) os tr
  | _, _, _ => true
def checkAll (ops : Array Oper) (tr : List Tr) (bs : List Nat) : Nat → List Oper → Bool
  | _, [] => true
  | j, o :: os => (o.after.toList.all fun e => !(Region.binds .any e) || Nat.blt e.on j) && checkAt ops (bs.getD j 0) (tr.getD j default) o 0 (ops.toList.take j) (tr.take j) && checkAll ops tr bs (j + 1) os

theorem checkAt_sound {ops : Array Oper} {b : Nat} {tj : Tr} {oj : Oper} : ∀ {os : List Oper} {tr : List Tr} {i0 : Nat}, checkAt ops b tj oj i0 os tr = true → ∀ i oi ti, os[i]? = some oi → tr[i]? = some ti → clash ops ti tj oi oj = true → b.testBit (i0 + i) = true
  | [], _, _, _, i, _, _, h, _, _ => by simp at h
  | _ :: _, [], _, _, i, _, _, _, h, _ => by simp at h
  | o :: os, t :: tr, i0, h, i, oi, ti, ho, ht, hc => by
    simp only [checkAt, Bool.and_eq_true, Bool.or_eq_true, Bool.not_eq_true'] at h
    cases i with
    | zero =>
      simp only [List.getElem?_cons_zero, Option.some.injEq] at ho ht
      subst ho ht
      rcases h.1 with h1 | h1
      · rw [h1] at hc; cases hc
      · exact h1
    | succ i =>
      have := checkAt_sound h.2 i oi ti (by simpa using ho) (by simpa using ht) hc
      rwa [show i0 + (i + 1) = i0 + 1 + i by omega]
theorem checkAll_sound {ops : Array Oper} {tr : List Tr} {bs : List Nat} : ∀ {os : List Oper} {j0 : Nat}, checkAll ops tr bs j0 os = true → ops.toList.drop j0 = os → ∀ j o, j0 ≤ j → ops[j]? = some o →
    (∀ e ∈ o.after, Region.binds .any e = true → e.on < j) ∧ checkAt ops (bs.getD j 0) (tr.getD j default) o 0 (ops.toList.take j) (tr.take j) = true
  | [], j0, _, hos, j, o, hj, ho => by
    have h1 : ops.size ≤ j0 := by simpa using hos
    have h2 := (Array.getElem?_eq_some_iff.1 ho).1
    omega
  | o1 :: os, j0, h, hos, j, o, hj, ho => by
    have hlt : j0 < ops.toList.length := by
      rcases Nat.lt_or_ge j0 ops.toList.length with h | h
      · exact h
      · rw [List.drop_eq_nil_of_le h] at hos; cases hos
    rw [List.drop_eq_getElem_cons hlt] at hos
    injection hos with ho1 hos'
    simp only [checkAll, Bool.and_eq_true] at h
    rcases Nat.lt_or_ge j0 j with hlt' | hge
    · exact checkAll_sound h.2 hos' j o (by omega) ho
    · have hje : j = j0 := by omega
      subst hje
      have : o1 = o := by
        rw [← ho1]
        have : ops[j]? = some (ops.toList[j]) := by simp
        rw [this] at ho
        exact Option.some.inj ho
      subst this
      refine ⟨fun e he hb => ?_, h.1.2⟩
      have := List.all_eq_true.1 h.1.1 e (by simpa using he)
      simpa [hb] using this
end Go.Am
