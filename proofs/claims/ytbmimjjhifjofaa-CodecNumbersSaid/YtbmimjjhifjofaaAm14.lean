/- THE ABSTRACT MACHINE, 14: any operation, guarded or not. -/
import Derived.Test.YtbmimjjhifjofaaAm13
import Derived.OrdersIn
namespace Go.Am
open Go

/-- An operand's value. -/
def evA (G : Nat → Option (List AV)) (env : List AV) : Operand → AV
  | .tmp t => env.getD t .dead
  | .const v => .lit v
  | .global g => match G g with
    | some cs => .imm cs
    | none => .lit (.pointer (some ⟨g, 0, none⟩))
  | .func f => .lit (.func (.func f) #[] #[])

/-- An own slice is data from here on. -/
def evalFrz (H : List AObj) (x : AV) (z : List (List AV)) : Option (AV × List AObj × List Prop) :=
  match x with
  | .own id g off len => match H[id]? with
    | some (.arr g' sz _ ys) => some (.sl sz false z, H.set id (.arr g' sz true ys), [g' = g, (ys.drop off).take len = z, z.length = len, ∀ c ∈ z, c.all AV.pureB = true])
    | _ => none
  | _ => none

def isBuildSlice : Op → Bool
  | .buildSlice .. | .convert .. => true
  | _ => false

def isDefer : Op → Bool
  | .defer _ => true
  | _ => false

def evalOp (P : Program) (G : Nat → Option (List AV)) (H : List AObj) (ev : Operand → AV) (o : Oper) (orc : List Orc) : Option (Kind × AOut × List AObj × List Orc × List Prop) :=
  match o.op, orc with
  | .move x, .frz z :: orc' => (evalFrz H (ev x) z).map fun (y, H', ps) => (.eff, .ret y, H', orc', ps)
  | .assign x, .frz z :: orc' => (evalFrz H (ev x) z).map fun (y, H', ps) => (.eff, .ret y, H', orc', ps)
  | .panic x, _ => match ev x with
    | .ifc t y => some (.free, .pan (.ifc t y), H, orc, [])
    | .lit (.iface t v) => some (.free, .pan (.lit (.iface t v)), H, orc, [])
    | _ => none
  | _, _ => if isDefer o.op = true then none else match evalFree P ev o orc with
    | some (x, orc', ps) => some (.free, .ret x, H, orc', ps)
    | none => match evalRead P H ev o orc with
      | some (x, orc', ps) => some (.read, .ret x, H, orc', ps)
      | none => match (if isBuildSlice o.op = true then evalEff P [] ev o orc else none) with
        | some (x, [], orc', ps) => some (.free, .ret x, H, orc', ps)
        | _ => match evalEff P H ev o orc with
          | some (x, H', orc', ps) => some (.eff, .ret x, H', orc', ps)
          | none => evalCall P G H ev o orc

section
variable {P : Program} {G : Nat → Option (List AV)} {r : Option Nat} {V : View} {a : Act} {o : Oper} {ev : Operand → AV}

theorem frz_sound {x y : AV} {z : List (List AV)} {H' : List AObj} {ps : List Prop} {v : Value} (h : evalFrz V.H x z = some (y, H', ps)) (hps : AllP ps) (hG : HeapRep G V) (hr : Rep V x v) :
    ∃ V' : View, V'.w = V.w ∧ V'.H = H' ∧ Step V V' ∧ HeapRep G V' ∧ Rep V' y v := by
  unfold evalFrz at h
  split at h
  · rename_i id g off len
    split at h
    · rename_i g' sz fz ys hH
      · cases h
        obtain ⟨hg, h1, h2, h3, _⟩ := hps
        subst hg
        have hlt := (List.getElem?_eq_some_iff.1 hH).1
        let V' : View := { w := V.w, M := fun b => V.M b ∧ b ≠ V.ρ id, H := V.H.set id (.arr g' sz true ys), ρ := V.ρ }
        have Hs : V'.H[id]? = some (.arr g' sz true ys) := by show (V.H.set id _)[id]? = _; rw [List.getElem?_set_self hlt]
        have Ho : ∀ i, i ≠ id → V'.H[i]? = V.H[i]? := fun i hi => by show (V.H.set id _)[i]? = _; rw [List.getElem?_set_ne (fun e => hi e.symm)]
        have hl : V'.H.length = V.H.length := by show (V.H.set id _).length = _; simp
        have hst : Step V V' := {
          os := rfl
          tape := rfl
          output := rfl
          size := Nat.le_refl _
          keep := fun b _ hn => ⟨rfl, ⟨fun h => h.1, fun h => ⟨h, fun e => hn id hlt e.symm⟩⟩⟩
          data := fun b _ hn => ⟨rfl, fun h => hn h.1⟩
          hlen := Nat.le_of_eq hl.symm
          fresh := fun i hi => .inl ⟨by rw [hl] at hi; exact hi, rfl⟩
          obj := fun i hi => by
            by_cases e : i = id
            · subst e
              unfold ObjStep
              rw [hH, Hs]
              exact .inr ⟨rfl, rfl, rfl, fun c t fr hc => ⟨c, hc, rfl⟩⟩
            · exact .refl hi (Ho i e) rfl rfl }
        refine ⟨V', rfl, rfl, hst, ?_, .pure _ _ (own_data (V' := V') hG rfl (fun b h => h.1) hH (fun h => h.2 rfl) hr h1 h2 h3)⟩
        exact {
          lt := fun i hi => by rw [hl] at hi; exact hG.lt i hi
          obj := fun i ob ho => by
            by_cases e : i = id
            · subst e
              rw [Hs] at ho
              cases ho
              obtain ⟨t, c, o1, o2, o3, o4⟩ := hG.obj i _ hH
              exact ⟨t, c, o1, o2, o3, fun k j hk hj => let ⟨u, hu, h1, hr⟩ := o4 k j hk hj; ⟨u, hu, h1, hr.step hst⟩⟩
            · rw [Ho i e] at ho
              exact (hG.obj i ob ho).step hst rfl
          inj := fun i j hi hj e => by rw [hl] at hi hj; exact hG.inj i j hi hj e
          mutb := fun i ob ho hop => by
            by_cases e : i = id
            · subst e; rw [Hs] at ho; cases ho; cases hop
            · rw [Ho i e] at ho
              exact ⟨hG.mutb i ob ho hop, fun he => e (hG.inj i id (List.getElem?_eq_some_iff.1 ho).1 hlt he)⟩
          glob := hG.glob_step hst }
    · cases h
  · cases h

/-- The first own slice of some cells is data from here on. -/
def frzCells (H : List AObj) : List AV → List (List AV) → Option (List AV × List AObj × List Prop)
  | [], _ => none
  | x :: xs, z => match evalFrz H x z with
    | some (y, H', ps) => some (y :: xs, H', ps)
    | none => match frzCells H xs z with
      | some (ys, H', ps) => some (x :: ys, H', ps)
      | none => none
def evalFrzA (H : List AObj) (x : AV) (z : List (List AV)) : Option (AV × List AObj × List Prop) := match x with
  | .agg cs => match frzCells H cs z with
    | some (ys, H', ps) => some (.agg ys, H', ps)
    | none => none
  | x => evalFrz H x z
theorem frzCells_sound {z : List (List AV)} : ∀ {xs ys : List AV} {H' : List AObj} {ps : List Prop} {vs : List Value}, frzCells V.H xs z = some (ys, H', ps) → AllP ps → HeapRep G V → Reps V xs vs →
    ∃ V' : View, V'.w = V.w ∧ V'.H = H' ∧ Step V V' ∧ HeapRep G V' ∧ Reps V' ys vs
  | [], _, _, _, _, h, _, _, _ => by cases h
  | x :: xs, ys, H', ps, vs, h, hps, hG, hr => by
    match vs, hr with
    | [], hr => have := hr.1; simp at this
    | v :: vs, hr =>
      unfold frzCells at h
      split at h
      · rename_i y H1 qs hf
        cases h
        obtain ⟨V', k1, k2, k3, k4, k5⟩ := frz_sound hf hps hG hr.head
        exact ⟨V', k1, k2, k3, k4, .cons k5 (hr.tail.step k3)⟩
      · split at h
        · rename_i zs H1 qs hf
          cases h
          obtain ⟨V', k1, k2, k3, k4, k5⟩ := frzCells_sound hf hps hG hr.tail
          exact ⟨V', k1, k2, k3, k4, .cons (hr.head.step k3) k5⟩
        · cases h
theorem frzA_sound {x y : AV} {z : List (List AV)} {H' : List AObj} {ps : List Prop} {v : Value} (h : evalFrzA V.H x z = some (y, H', ps)) (hps : AllP ps) (hG : HeapRep G V) (hr : Rep V x v) :
    ∃ V' : View, V'.w = V.w ∧ V'.H = H' ∧ Step V V' ∧ HeapRep G V' ∧ Rep V' y v := by
  unfold evalFrzA at h
  split at h
  · split at h
    · rename_i cs ys H1 qs hf
      cases h
      obtain ⟨vs, rfl, hrs⟩ := rep_agg hr
      obtain ⟨V', k1, k2, k3, k4, k5⟩ := frzCells_sound hf hps hG hrs
      exact ⟨V', k1, k2, k3, k4, .agg _ _ k5.1 k5.2⟩
    · cases h
  · exact frz_sound h hps hG hr

theorem eff_free {orc orc' : List Orc} {x : AV} {ps : List Prop} (hb : isBuildSlice o.op = true) (h : evalEff P [] ev o orc = some (x, [], orc', ps)) (H : List AObj) : evalEff P H ev o orc = some (x, H, orc', ps) := by
  unfold evalEff at h ⊢
  cases hop : o.op <;> simp only [hop, isBuildSlice] at hb h ⊢ <;> first | (cases hb; done) | skip
  · split at h <;> first | (cases h; done) | skip
    split at h <;> first | (cases h; done) | skip
    split at h <;> first | (cases h; done) | skip
    split at h <;> first | (cases h; done) | skip
    split at h <;> first | (cases h; done) | skip
    split at h <;> first | (cases h; done) | skip
    split at h
    · simp at h
    · split at h
      · simp_all
      · cases h
  · split at h <;> first | (cases h; done) | skip
    split at h <;> first | (cases h; done) | skip
    rename_i he
    cases h
    rw [if_pos he]

theorem op_sound {H : List AObj} {orc orc' : List Orc} {k : Kind} {out : AOut} {H' : List AObj} {ps : List Prop} (h : evalOp P G H ev o orc = some (k, out, H', orc', ps)) (hps : AllP ps) (hG : HeapRep G V)
    (hr : ∀ y ∈ o.op.operands, Rep V (ev y) (a.eval y)) (hH : V.H = H ∨ k = .free) : OpOk P G r V a o out (if k = .free then V.H else H') ∧ (k ≠ .eff → H' = H) := by
  have frz : ∀ (x : Operand) (z : List (List AV)) (orc1 : List Orc), x ∈ o.op.operands → (∀ c, o.op ≠ .defer c) → (execOp a.eval o).run P V.w = .ok (.value (a.eval x)) V.w →
      (evalFrz H (ev x) z).map (fun (y, H', ps) => (Kind.eff, AOut.ret y, H', orc1, ps)) = some (k, out, H', orc', ps) → OpOk P G r V a o out (if k = .free then V.H else H') ∧ (k ≠ .eff → H' = H) := by
    intro x z orc1 hx hd hrun h
    cases hf : evalFrz H (ev x) z with
    | none => simp [hf] at h
    | some q =>
      obtain ⟨y, H1, qs⟩ := q
      simp only [hf, Option.map_some, Option.some.injEq, Prod.mk.injEq] at h
      obtain ⟨rfl, rfl, rfl, rfl, rfl⟩ := h
      rcases hH with rfl | hH
      · obtain ⟨V', k1, k2, k3, k4, k5⟩ := frz_sound hf hps hG (hr x hx)
        rw [if_neg (by simp), ← k2]
        exact ⟨OpOk.of_value hd (by rw [k1]; exact hrun) (.inl rfl) k3 k4 k5, fun h => absurd rfl h⟩
      · cases hH
  unfold evalOp at h
  split at h
  · rename_i x z orc1 hop
    exact frz x z orc1 (by simp [hop, Op.operands]) (fun c hc => by rw [hop] at hc; cases hc) (by rw [execOp, hop]; rfl) h
  · rename_i x z orc1 hop
    exact frz x z orc1 (by simp [hop, Op.operands]) (fun c hc => by rw [hop] at hc; cases hc) (by rw [execOp, hop]; rfl) h
  · rename_i _ _ x hop
    have hrx := hr x (by simp [hop, Op.operands])
    have key : ∀ {t : TypeId} {v : Value} {y : AV}, a.eval x = .iface t v → Rep V y (.iface t v) → OpOk P G r V a o (.pan y) V.H := by
      intro t v y hv hy next Q n1 n2
      refine ⟨fun _ _ => trivial, ?_⟩
      have hrun : (execOp a.eval o).run P V.w = .halt (.panic (.iface t v)) V.w := by
        rw [execOp, hop]
        simp only [hv]
        rfl
      rw [Oper.semAt_eq _ _ _ (fun c hc => by rw [hop] at hc; cases hc), hrun]
      exact n2 V (.iface t v) y rfl (Step.refl V) hG rfl hy
    split at h
    · rename_i t y he
      cases h
      rw [he] at hrx
      obtain ⟨v, hv, hy⟩ := rep_ifc hrx
      exact ⟨by rw [if_pos rfl]; exact key hv (.ifc t y v hy), fun _ => rfl⟩
    · rename_i t v he
      cases h
      rw [he] at hrx
      have hv := rep_lit hrx
      exact ⟨by rw [if_pos rfl]; exact key hv (.pure _ _ (.lit _)), fun _ => rfl⟩
    · cases h
  · split at h
    · cases h
    · rename_i hnd
      have hd : ∀ c, o.op ≠ .defer c := fun c hc => hnd (by rw [hc]; rfl)
      have ident : ∀ {x : AV} {v : Value}, (execOp a.eval o).run P V.w = .ok (.value v) V.w → Rep V x v → OpOk P G r V a o (.ret x) V.H := fun h1 h2 => OpOk.of_value hd h1 (.inl rfl) (Step.refl V) hG h2
      split at h
      · rename_i x orc1 qs hf
        cases h
        obtain ⟨v, h1, h2⟩ := free_sound hf hps hr
        exact ⟨by rw [if_pos rfl]; exact ident h1 h2, fun _ => rfl⟩
      · split at h
        · rename_i x orc1 qs hf
          cases h
          rcases hH with rfl | hH
          · obtain ⟨v, h1, h2⟩ := read_sound hf hps hG hr
            exact ⟨by rw [if_neg (by simp)]; exact ident h1 h2, fun _ => rfl⟩
          · cases hH
        · split at h
          · rename_i x orc1 qs hf
            cases h
            split at hf
            · rename_i hb
              obtain ⟨V', n, v, k1, k2, k3, k4, k5, k6⟩ := eff_sound (eff_free hb hf V.H) hps hG hr
              rw [if_pos rfl, ← k3]
              exact ⟨OpOk.of_value hd k1 k2 k4 k5 k6, fun _ => rfl⟩
            · cases hf
          · split at h
            · rename_i x H1 orc1 qs hf
              cases h
              rcases hH with rfl | hH
              · obtain ⟨V', n, v, k1, k2, k3, k4, k5, k6⟩ := eff_sound hf hps hG hr
                rw [if_neg (by simp), ← k3]
                exact ⟨OpOk.of_value hd k1 k2 k4 k5 k6, fun h => absurd rfl h⟩
              · cases hH
            · exact call_sound h hps hG hr hH
end

/-! ### Under its guard -/
def putA (env : List AV) (d : Option Tmp) (x : AV) : List AV := match d with
  | some d => env.set d x
  | none => env
def wantedA (ops : Array Oper) (env : List AV) (o : Oper) : Option Bool := match o.guard with
  | none => some true
  | some (j, w) => match (ops[j]?).bind (·.dst) with
    | some d => match env.getD d .dead with
      | .lit (.bool b) => some (b == w)
      | .lit (.tuple _) => some false
      | _ => none
    | none => none
/-- Does an operation's outcome guard another? -/
def guards (ops : Array Oper) (i : Nat) : Bool := ops.any fun o => match o.guard with
  | some (j, _) => j == i
  | none => false

/-! ### What is known put in other words -/
def ObjSub : AObj → AObj → Prop
  | .box xs, .box ys => ys.length = xs.length ∧ ∀ j, j < xs.length → Sub (xs.getD j .dead) (ys.getD j .dead)
  | .arr g sz fz xs, .arr g' sz' fz' ys => g' = g ∧ sz' = sz ∧ fz' = fz ∧ ys.length = xs.length ∧ (∀ y ∈ ys, y.length = sz) ∧ ∀ k j, k < xs.length → j < sz → Sub ((xs.getD k []).getD j .dead) ((ys.getD k []).getD j .dead)
  | _, .gone => True
  | _, _ => False
def HSub : List AObj → List AObj → Prop
  | [], [] => True
  | o :: os, p :: ps => (p = o ∨ ObjSub o p) ∧ HSub os ps
  | _, _ => False
theorem HSub.refl : ∀ H : List AObj, HSub H H
  | [] => trivial
  | _ :: os => ⟨.inl rfl, HSub.refl os⟩
theorem HSub.len : ∀ {H K : List AObj}, HSub H K → K.length = H.length
  | [], [], _ => rfl
  | _ :: _, _ :: _, h => by simp [HSub.len h.2]
theorem HSub.get : ∀ {H K : List AObj}, HSub H K → ∀ {i : Nat} {p : AObj}, K[i]? = some p → ∃ o, H[i]? = some o ∧ (p = o ∨ ObjSub o p)
  | [], [], _, i, p, h => by simp at h
  | o :: os, q :: qs, h, 0, p, hp => by simp at hp; subst hp; exact ⟨o, rfl, h.1⟩
  | o :: os, q :: qs, h, i + 1, p, hp => by simp at hp; simpa using HSub.get h.2 hp
theorem hsub_step {G : Nat → Option (List AV)} {V : View} {K : List AObj} (hG : HeapRep G V) (h : HSub V.H K) : ∃ V' : View, V'.w = V.w ∧ V'.H = K ∧ V'.ρ = V.ρ ∧ Step V V' ∧ HeapRep G V' := by
  let V' : View := { w := V.w, M := V.M, H := K, ρ := V.ρ }
  have hl : K.length = V.H.length := h.len
  have hst : Step V V' := {
    os := rfl
    tape := rfl
    output := rfl
    size := Nat.le_refl _
    keep := fun b _ _ => ⟨rfl, Iff.rfl⟩
    data := fun b _ hn => ⟨rfl, hn⟩
    hlen := Nat.le_of_eq hl.symm
    fresh := fun i hi => .inl ⟨by have hi : i < K.length := hi; omega, rfl⟩
    obj := fun i hi => by
      obtain ⟨p, hp⟩ : ∃ p, K[i]? = some p := ⟨_, List.getElem?_eq_getElem (by omega)⟩
      obtain ⟨o, ho, he⟩ := h.get hp
      have hp' : V'.H[i]? = some p := hp
      rcases he with rfl | he
      · exact .refl hi (hp'.trans ho.symm) rfl rfl
      · unfold ObjStep
        rw [ho, hp']
        cases o <;> cases p <;> simp only [ObjSub] at he <;> first
          | exact he.elim
          | trivial
          | rfl
          | exact .inr ⟨he.1.symm, he.2.1.symm, rfl, fun c t fr hc => ⟨c, hc, rfl⟩⟩ }
  refine ⟨V', rfl, rfl, rfl, hst, ?_⟩
  exact {
    lt := fun i hi => hG.lt i (by have hi : i < K.length := hi; omega)
    obj := fun i p hp => by
      obtain ⟨o, ho, he⟩ := h.get hp
      have hr := (hG.obj i o ho).step hst rfl
      rcases he with rfl | he
      · exact hr
      · cases o <;> cases p <;> simp only [ObjSub] at he <;> first | exact he.elim | trivial | skip
        · obtain ⟨t, vs, h1, h2⟩ := hr
          exact ⟨t, vs, h1, h2.1.trans he.1.symm, fun j hj => he.2 j (by omega) V' _ (h2.2 j (by omega))⟩
        · obtain ⟨rfl, rfl, rfl, hlen, hsz, hsub⟩ := he
          obtain ⟨t, c, h1, h2, h3, h4⟩ := hr
          exact ⟨t, c, h1, by rw [hlen]; exact h2, hsz, fun k j hk hj => by
            obtain ⟨v, k1, k2, k3⟩ := h4 k j (by omega) hj
            exact ⟨v, k1, k2, hsub k j (by omega) hj V' _ k3⟩⟩
    inj := fun i j hi hj e => hG.inj i j (by have hi : i < K.length := hi; omega) (by have hj : j < K.length := hj; omega) e
    mutb := fun i p hp hop => by
      obtain ⟨o, ho, he⟩ := h.get hp
      rcases he with rfl | he
      · exact hG.mutb i _ ho hop
      · refine hG.mutb i o ho ?_
        cases o <;> cases p <;> simp only [ObjSub] at he <;> first | exact he.elim | rfl | (cases hop; done) | skip
        · obtain ⟨rfl, rfl, rfl, _⟩ := he
          exact hop
    glob := hG.glob }

/-- An outcome put in other words. -/
def reval (d : Option Tmp) : Option (Kind × AOut × List AObj × List Orc × List Prop) → Option (Kind × AOut × List AObj × List Orc × List Prop)
  | some (.read, .ret x, H', .fz d' z :: orc', ps) => if d' = d then (match evalFrzA H' x z with
    | some (y, K, qs) => some (.eff, .ret y, K, orc', ps ++ qs)
    | none => none) else some (.read, .ret x, H', .fz d' z :: orc', ps)
  | some (k, .ret x, H', .val d' y :: orc', ps) => if d' = d then some (k, .ret y, H', orc', Sub x y :: ps) else some (k, .ret x, H', .val d' y :: orc', ps)
  | some (.eff, .ret x, H', .hp d' y K :: orc', ps) => if d' = d then some (.eff, .ret y, K, orc', Sub x y :: HSub H' K :: ps) else some (.eff, .ret x, H', .hp d' y K :: orc', ps)
  | r => r

def stepA (P : Program) (G : Nat → Option (List AV)) (ops : Array Oper) (gs : Bool) (env : List AV) (H : List AObj) (o : Oper) (orc : List Orc) : Option (Kind × AOut × List AObj × List Orc × List Prop) :=
  match wantedA ops env o with
  | some true => match reval o.dst (evalOp P G H (evA G env) o orc) with
    | some (k, out, H', orc', ps) => if gs = true then (match out, orc' with
        | .ret (.lit (.bool e)), .br b :: orc'' => some (k, .ret (.lit (.bool b)), H', orc'', (e = b) :: ps)
        | _, _ => none) else some (k, out, H', orc', ps)
    | none => none
  | some false => some (.free, .ret (.lit undef), H, orc, [])
  | none => none

section
variable {P : Program} {G : Nat → Option (List AV)} {r : Option Nat} {V : View} {a : Act} {o : Oper} {ops : Array Oper} {env : List AV}

theorem evA_sound (hG : HeapRep G V) {y : Operand} (h : ∀ t, y = .tmp t → Rep V (env.getD t .dead) (a.tmps.getD t undef)) : Rep V (evA G env y) (a.eval y) := by
  cases y with
  | tmp t => exact h t rfl
  | const v => exact .pure _ _ (.lit v)
  | global g =>
    simp only [evA, Act.eval]
    split
    · rename_i cs hg; exact .pure _ _ (hG.glob g cs hg)
    · exact .pure _ _ (.lit _)
  | func f => exact .pure _ _ (.lit _)

theorem wanted_sound {b : Bool} (h : wantedA ops env o = some b) (hr : ∀ t ∈ o.looksAt ops, Rep V (env.getD t .dead) (a.tmps.getD t undef)) : Region.wanted o (yielded ops a.tmps) = b := by
  unfold wantedA at h
  unfold Region.wanted
  cases hg : o.guard with
  | none => simp [hg] at h; simp [h]
  | some q =>
    obtain ⟨j, w⟩ := q
    simp only [hg] at h ⊢
    cases hd : (ops[j]?).bind (·.dst) with
    | none => simp [hd] at h
    | some d =>
      simp only [hd] at h
      split at h
      · rename_i b' he
        cases h
        have := hr d (by simp [Oper.looksAt, hg, hd])
        rw [he] at this
        have hv := rep_lit this
        have hy : yielded ops a.tmps j = some b' := by
          unfold yielded
          rw [hd]
          have hlt : d < a.tmps.size := by
            rcases Nat.lt_or_ge d a.tmps.size with h | h
            · exact h
            · simp [Array.getD, Nat.not_lt.2 h, undef] at hv
          have hv2 : a.tmps[d]? = some (.bool b') := by
            rw [Array.getElem?_eq_getElem hlt]
            simp [Array.getD, hlt] at hv
            rw [hv]
          simp [hv2]
        rw [hy]
        cases b' <;> cases w <;> rfl
      · rename_i us he
        cases h
        have := hr d (by simp [Oper.looksAt, hg, hd])
        rw [he] at this
        have hv := rep_lit this
        have hy : yielded ops a.tmps j = none := by
          unfold yielded
          rw [hd]
          show (match (a.tmps[d]? : Option Value) with | some (.bool b) => some b | _ => none) = none
          cases hq : a.tmps[d]? with
          | none => rfl
          | some u =>
            rw [Array.getD_eq_getD_getElem?, hq] at hv
            simp only [Option.getD_some] at hv
            rw [hv]
        rw [hy]
        rfl
      · cases h

theorem reval_sound {d : Option Tmp} {H : List AObj} {ev : Operand → AV} {orc orc' : List Orc} {k : Kind} {out : AOut} {H' : List AObj} {ps : List Prop} (h : reval d (evalOp P G H ev o orc) = some (k, out, H', orc', ps)) (hps : AllP ps) (hG : HeapRep G V)
    (hr : ∀ y ∈ o.op.operands, Rep V (ev y) (a.eval y)) (hH : V.H = H ∨ k = .free) : OpOk P G r V a o out (if k = .free then V.H else H') ∧ (k ≠ .eff → H' = H) := by
  unfold reval at h
  split at h
  · rename_i x H1 d1 z orc1 qs he
    split at h
    · split at h
      · rename_i y K rs hf
        cases h
        obtain ⟨p1, p2⟩ := allP_append.1 hps
        obtain ⟨h1, h2⟩ := op_sound (r := r) he p1 hG hr (hH.imp id fun h => by cases h)
        refine ⟨fun next Q n1 n2 => ?_, fun h => absurd rfl h⟩
        refine h1 next Q (fun V' v u hu s1 s2 s3 s4 => ?_) fun V' v u hu => by cases hu
        cases hu
        rw [if_neg (by simp)] at s3
        subst s3
        obtain ⟨V2, a1, a2, a3, a4, a5⟩ := frzA_sound hf p2 s2 s4
        rw [← a1]
        exact n1 V2 v y rfl (s1.trans a3) a4 (by rw [if_neg (by simp), a2]) a5
      · cases h
    · rw [← he] at h
      exact op_sound (r := r) h hps hG hr hH
  · rename_i k1 x H1 d1 y orc1 qs he
    split at h
    · cases h
      obtain ⟨h1, h2⟩ := op_sound (r := r) he hps.2 hG hr hH
      refine ⟨fun next Q n1 n2 => ?_, h2⟩
      exact h1 next Q (fun V' v z hz s1 s2 s3 s4 => by cases hz; exact n1 V' v y rfl s1 s2 s3 (hps.1 V' v s4)) fun V' v z hz => by cases hz
    · rw [← he] at h
      exact op_sound (r := r) h hps hG hr hH
  · rename_i x H1 d1 y K orc1 qs he
    split at h
    · cases h
      obtain ⟨h1, h2⟩ := op_sound (r := r) he hps.2.2 hG hr hH
      refine ⟨fun next Q n1 n2 => ?_, fun h => absurd rfl h⟩
      refine h1 next Q (fun V' v z hz s1 s2 s3 s4 => ?_) fun V' v z hz => by cases hz
      cases hz
      rw [if_neg (by simp)] at s3
      subst s3
      obtain ⟨V2, a1, a2, a3, a4, a5⟩ := hsub_step s2 hps.2.1
      rw [← a1]
      exact n1 V2 v y rfl (s1.trans a4) a5 (by rw [if_neg (by simp), a2]) (hps.1 V2 v (s4.step a4))
    · rw [← he] at h
      exact op_sound (r := r) h hps hG hr hH
  · exact op_sound (r := r) h hps hG hr hH

theorem stepA_sound {i : Nat} {gs : Bool} {H : List AObj} {orc orc' : List Orc} {k : Kind} {out : AOut} {H' : List AObj} {ps : List Prop} (ho : ops[i]? = some o) (h : stepA P G ops gs env H o orc = some (k, out, H', orc', ps)) (hps : AllP ps) (hG : HeapRep G V)
    (hr : ∀ t ∈ o.looksAt ops, Rep V (env.getD t .dead) (a.tmps.getD t undef)) (hH : V.H = H ∨ k = .free) :
    (∀ (next : Act → World → Prop) (Q : Exit → Act → World → Prop),
      (∀ V' v x, out = .ret x → Step V V' → HeapRep G V' → V'.H = (if k = .free then V.H else H') → Rep V' x v → next (a.put o.dst v) V'.w) →
      (∀ V' v x, out = .pan x → Step V V' → HeapRep G V' → V'.H = (if k = .free then V.H else H') → Rep V' x v → Q (.panic [{ v := v, recovered := false }]) a V'.w) →
      wpOpIn (fz r) 0 P ops Q i next a V.w) ∧ (k ≠ .eff → H' = H) := by
  unfold stepA at h
  split at h
  · rename_i hw
    have hw' := wanted_sound (V := V) (a := a) hw hr
    have hops : ∀ y ∈ o.op.operands, Rep V (evA G env y) (a.eval y) := fun y hy => evA_sound hG fun t ht => hr t (by
      subst ht
      exact List.mem_append_left _ (List.mem_filterMap.2 ⟨.tmp t, by simpa using hy, rfl⟩))
    split at h
    · rename_i k1 out1 H1 orc1 qs hev
      split at h
      · split at h
        · rename_i e b orc2
          cases h
          obtain ⟨he, hps⟩ := hps
          obtain ⟨h1, h2⟩ := reval_sound (r := r) hev hps hG hops hH
          refine ⟨fun next Q n1 n2 => ?_, h2⟩
          unfold wpOpIn
          rw [ho]
          simp only [hw', if_true]
          refine h1 next Q (fun V' v x hx => ?_) (fun V' v x hx => by cases hx)
          cases hx
          subst he
          exact n1 V' v _ rfl
        · cases h
      · cases h
        obtain ⟨h1, h2⟩ := reval_sound (r := r) hev hps hG hops hH
        refine ⟨fun next Q n1 n2 => ?_, h2⟩
        unfold wpOpIn
        rw [ho]
        simp only [hw', if_true]
        exact h1 next Q n1 n2
    · cases h
  · rename_i hw
    have hw' := wanted_sound (V := V) (a := a) hw hr
    cases h
    refine ⟨fun next Q n1 n2 => ?_, fun _ => rfl⟩
    unfold wpOpIn
    rw [ho]
    simp only [hw', Bool.false_eq_true, if_false]
    exact ⟨fun _ _ => trivial, n1 V undef _ rfl (Step.refl V) hG (by rw [if_pos rfl]) (.pure _ _ (.lit _))⟩
  · cases h

/-! ### What touches few objects alone -/
def calmHead : List Orc → Bool
  | .hp .. :: _ | .fz .. :: _ => false
  | .emp :: .hp .. :: _ | .emp :: .fz .. :: _ => false
  | _ => true
def ownIds : AV → List Nat
  | .own id .. => [id]
  | _ => []
/-- The objects that an operation reads or writes; whether it asks or turns their number. -/
def foot (ev : Operand → AV) (o : Oper) (orc : List Orc) : Option (List Nat × Bool) :=
  match o.op with
  | .load _ x | .store _ x _ => match ev x with
    | .ptr id _ => if calmHead orc = true then some ([id], false) else none
    | _ => none
  | .alloc _ | .box .. => if calmHead orc = true then some ([], true) else none
  | .call c => match c.callee, orc with
    | .builtin .append, orc => match c.args.toList with
      | [a, x] => if calmHead orc = true then some (ownIds (ev a) ++ ownIds (ev x), true) else none
      | _ => none
    | .value g, .call e _ _ :: orc' => if calmHead orc' = true ∧ (funTarget (ev g)).isSome = true then some (e, true) else none
    | _, _ => none
  | _ => none
/-- The numbers of what is made. -/
def made (len : Bool) (H H' : List AObj) : List Nat := if len = true then List.range' H.length (H'.length - H.length) else []
/-- K agrees with H on some objects. -/
structure Agree (H K : List AObj) (ids : List Nat) (len : Bool) : Prop where
  at_ : ∀ id, id ∈ ids → K[id]? = H[id]?
  len : len = true → K.length = H.length
/-- What turns H into H' turns K into K' alike. -/
structure Loc (H H' K K' : List AObj) (ids : List Nat) (len : Bool) : Prop where
  l1 : len = false → H'.length = H.length ∧ K'.length = K.length
  l2 : len = true → K'.length = H'.length
  inn : ∀ id, id ∈ ids ++ made len H H' → K'[id]? = H'[id]?
  out : ∀ id, id ∉ ids ++ made len H H' → K'[id]? = K[id]? ∧ H'[id]? = H[id]?
theorem Loc.refl {H K : List AObj} {ids : List Nat} {len : Bool} (h : Agree H K ids len) : Loc H H K K ids len where
  l1 _ := ⟨rfl, rfl⟩
  l2 := h.len
  inn id hid := h.at_ id (by simpa [made] using hid)
  out _ _ := ⟨rfl, rfl⟩
theorem Loc.set {H K : List AObj} {ids : List Nat} {len : Bool} (h : Agree H K ids len) {id : Nat} (hid : id ∈ ids) (ob : AObj) : Loc H (H.set id ob) K (K.set id ob) ids len where
  l1 _ := ⟨by simp, by simp⟩
  l2 hl := by simp [h.len hl]
  inn i hi := by
    have hi : i ∈ ids := by simpa [made] using hi
    have h1 := h.at_ i hi
    by_cases e : id = i
    · subst e
      rw [List.getElem?_set, List.getElem?_set, if_pos rfl, if_pos rfl]
      have : (id < K.length) ↔ (id < H.length) := by
        constructor
        · intro hk; rcases Nat.lt_or_ge id H.length with h2 | h2
          · exact h2
          · rw [List.getElem?_eq_none h2] at h1; exact absurd (List.getElem?_eq_none_iff.1 h1) (by omega)
        · intro hk; rcases Nat.lt_or_ge id K.length with h2 | h2
          · exact h2
          · rw [List.getElem?_eq_none h2] at h1; exact absurd (List.getElem?_eq_none_iff.1 h1.symm) (by omega)
      simp only [this]
    · rw [List.getElem?_set_ne e, List.getElem?_set_ne e]; exact h1
  out i hi := by
    have hi : i ∉ ids := by simpa [made] using hi
    have e : id ≠ i := fun e => hi (e ▸ hid)
    exact ⟨List.getElem?_set_ne e, List.getElem?_set_ne e⟩
theorem Loc.push {H K : List AObj} {ids : List Nat} (h : Agree H K ids true) (os : List AObj) : Loc H (H ++ os) K (K ++ os) ids true where
  l1 h := by cases h
  l2 _ := by simp [h.len rfl]
  inn i hi := by
    have hl := h.len rfl
    rcases List.mem_append.1 hi with hi | hi
    · by_cases hlt : i < H.length
      · rw [List.getElem?_append_left hlt, List.getElem?_append_left (by omega)]; exact h.at_ i hi
      · rw [List.getElem?_append_right (by omega), List.getElem?_append_right (by omega), hl]
    · simp only [made, if_true, List.mem_range'_1] at hi
      rw [List.getElem?_append_right (by omega), List.getElem?_append_right (by omega), hl]
  out i hi := by
    have hl := h.len rfl
    simp only [made, if_true, List.mem_append, List.mem_range'_1, not_or] at hi
    have h2 := hi.2
    by_cases hlt : i < H.length
    · exact ⟨List.getElem?_append_left (by omega), List.getElem?_append_left hlt⟩
    · have : H.length + os.length ≤ i := by simp at h2; omega
      exact ⟨by rw [List.getElem?_eq_none (by simp; omega), List.getElem?_eq_none (by omega)], by rw [List.getElem?_eq_none (by simp; omega), List.getElem?_eq_none (by omega)]⟩

theorem evalLit_ptr {ev : Operand → AV} {y : Operand} {id off : Nat} (hy : y ∈ o.op.operands) (he : ev y = .ptr id off) : evalLit P ev o = none := by
  unfold evalLit
  split
  · rfl
  · rw [if_neg]
    intro h
    have := List.all_eq_true.1 h y (by simpa using hy)
    rw [he] at this
    cases this

theorem evalOp_load {H : List AObj} {ev : Operand → AV} {orc : List Orc} {t : TypeId} {x : Operand} {id off : Nat} (hop : o.op = .load t x) (he : ev x = .ptr id off) :
    evalOp P G H ev o orc = match H[id]? with
      | some (.box cells) => (loadA P t (cells.drop off)).map fun z => (.read, .ret z, H, orc, [])
      | _ => none := by
  have h1 : evalFree P ev o orc = none := by unfold evalFree; rw [hop]; simp only [he]
  have h2 : evalEff P H ev o orc = none := by unfold evalEff; rw [hop]
  have h3 : evalCall P G H ev o orc = none := by unfold evalCall; rw [hop]
  have h4 : evalRead P H ev o orc = match H[id]? with
      | some (.box cells) => (loadA P t (cells.drop off)).map fun z => (z, orc, [])
      | _ => none := by
    unfold evalRead
    rw [hop]
    simp only [he]
    split <;> simp_all
  unfold evalOp
  rw [hop]
  simp only [isDefer, isBuildSlice, h1, h2, h3, h4, Bool.false_eq_true, if_false]
  cases hH : H[id]? with
  | none => rfl
  | some ob =>
    cases ob <;> simp only <;> try rfl
    cases loadA P t _ <;> rfl

theorem evalOp_store {H : List AObj} {ev : Operand → AV} {orc : List Orc} {t : TypeId} {x y : Operand} {id off : Nat} (hop : o.op = .store t x y) (he : ev x = .ptr id off) :
    evalOp P G H ev o orc = match tSize P t, (ev y).cells, H[id]? with
      | some n, some cs, some (.box cells) => if cs.length = n ∧ off + cs.length ≤ cells.length ∧ cs.all AV.one = true then some (.eff, .ret (.lit undef), H.set id (.box (splice cells off cs)), orc, []) else none
      | _, _, _ => none := by
  have hl : evalLit P ev o = none := evalLit_ptr (y := x) (by rw [hop]; simp [Op.operands]) he
  have h1 : evalFree P ev o orc = none := by unfold evalFree; rw [hop]; simp only [hl, Option.map_none]
  have h2 : evalRead P H ev o orc = none := by unfold evalRead; rw [hop]
  have h3 : evalCall P G H ev o orc = none := by unfold evalCall; rw [hop]
  have h4 : evalEff P H ev o orc = match tSize P t, (ev y).cells, H[id]? with
      | some n, some cs, some (.box cells) => if cs.length = n ∧ off + cs.length ≤ cells.length ∧ cs.all AV.one = true then some (.lit undef, H.set id (.box (splice cells off cs)), orc, []) else none
      | _, _, _ => none := by
    unfold evalEff
    rw [hop]
    simp only [he]
    cases tSize P t with
    | none => rfl
    | some n => cases (ev y).cells with
      | none => rfl
      | some cs =>
        cases hH : H[id]? with
        | none => simp only [hH]
        | some ob => cases ob <;> simp only [hH]
  unfold evalOp
  rw [hop]
  simp only [isDefer, isBuildSlice, h1, h2, h3, h4, Bool.false_eq_true, if_false]
  cases tSize P t with
  | none => rfl
  | some n => cases (ev y).cells with
    | none => rfl
    | some cs => cases H[id]? with
      | none => rfl
      | some ob =>
        cases ob <;> simp only
        rename_i cells
        by_cases hc : cs.length = n ∧ off + cs.length ≤ cells.length ∧ cs.all AV.one = true
        · rw [if_pos hc, if_pos hc]
        · rw [if_neg hc, if_neg hc]

theorem evalOp_eff {H : List AObj} {ev : Operand → AV} {orc : List Orc} (hop : (∃ t, o.op = .alloc t) ∨ (∃ t x, o.op = .box t x) ∨ (∃ c, o.op = .call c ∧ c.callee = .builtin .append)) :
    evalOp P G H ev o orc = match evalFree P ev o orc with
      | some (x, orc', ps) => some (.free, .ret x, H, orc', ps)
      | none => match evalEff P H ev o orc with
        | some (x, H', orc', ps) => some (.eff, .ret x, H', orc', ps)
        | none => none := by
  rcases hop with ⟨t, hop⟩ | ⟨t, x, hop⟩ | ⟨c, hop, hc⟩
  · have h2 : evalRead P H ev o orc = none := by unfold evalRead; rw [hop]
    have h3 : evalCall P G H ev o orc = none := by unfold evalCall; rw [hop]
    unfold evalOp
    rw [hop]
    simp only [isDefer, isBuildSlice, h2, h3, Bool.false_eq_true, if_false]
  · have h2 : evalRead P H ev o orc = none := by unfold evalRead; rw [hop]
    have h3 : evalCall P G H ev o orc = none := by unfold evalCall; rw [hop]
    unfold evalOp
    rw [hop]
    simp only [isDefer, isBuildSlice, h2, h3, Bool.false_eq_true, if_false]
  · obtain ⟨callee, args, ts⟩ := c
    simp only at hc
    subst hc
    have h2 : evalRead P H ev o orc = none := by unfold evalRead; rw [hop]
    have h3 : evalCall P G H ev o orc = none := by unfold evalCall; rw [hop]
    unfold evalOp
    rw [hop]
    simp only [isDefer, isBuildSlice, h2, h3, Bool.false_eq_true, if_false]

theorem evalOp_callv {H : List AObj} {ev : Operand → AV} {orc : List Orc} {c : Call} {g : Operand} (hop : o.op = .call c) (hc : c.callee = .value g) :
    evalOp P G H ev o orc = match evalFree P ev o orc with
      | some (x, orc', ps) => some (.free, .ret x, H, orc', ps)
      | none => evalCall P G H ev o orc := by
  obtain ⟨callee, args, ts⟩ := c
  simp only at hc
  subst hc
  have h2 : evalRead P H ev o orc = none := by unfold evalRead; rw [hop]
  have h3 : evalEff P H ev o orc = none := by unfold evalEff; rw [hop]
  unfold evalOp
  rw [hop]
  simp only [isDefer, isBuildSlice, h2, h3, Bool.false_eq_true, if_false]

theorem srcA_agree {H K : List AObj} {x : AV} {tx : TypeId} {s : Nat} (h : ∀ id ∈ ownIds x, K[id]? = H[id]?) : srcA P K x tx s = srcA P H x tx s := by
  have key : ∀ id g off len, x = .own id g off len → K[id]? = H[id]? := fun id g off len e => h id (by rw [e]; simp [ownIds])
  unfold srcA
  split
  · rfl
  · rfl
  · rw [key _ _ _ _ rfl]
  · rfl
  · rfl
theorem srcObl_agree {H K : List AObj} {x : AV} {n : Nat} (h : ∀ id ∈ ownIds x, K[id]? = H[id]?) : srcObl K x n = srcObl H x n := by
  cases x with
  | own id g off len => simp only [srcObl, h id (by simp [ownIds])]
  | _ => rfl
/-- The words at the head are no heap's. -/
def calm1 : List Orc → Bool
  | .hp .. :: _ | .fz .. :: _ => false
  | _ => true
theorem calm1_of {orc : List Orc} (h : calmHead orc = true) : calm1 orc = true ∧ ∀ t, orc = .emp :: t → calm1 t = true := by
  unfold calmHead at h
  split at h <;> first | (cases h; done) | skip
  rename_i n1 n2 n3 n4
  constructor
  · unfold calm1
    split <;> first | rfl | skip
    · exact absurd rfl (n1 _ _ _ _)
    · exact absurd rfl (n2 _ _ _)
  · intro t ht
    unfold calm1
    split <;> first | rfl | skip
    · exact absurd ht (n3 _ _ _ _)
    · exact absurd ht (n4 _ _ _)

theorem append_loc {H K : List AObj} {ts tx : TypeId} {a x r : AV} {orc orc' : List Orc} {H' : List AObj} {ps : List Prop} (h : appendA P H ts tx a x orc = some (r, H', orc', ps)) (hag : Agree H K (ownIds a ++ ownIds x) true) (hc : calmHead orc = true) :
    ∃ K', appendA P K ts tx a x orc = some (r, K', orc', ps) ∧ Loc H H' K K' (ownIds a ++ ownIds x) true ∧ calm1 orc' = true := by
  have hl := hag.len rfl
  have e1 : ∀ s, srcA P K x tx s = srcA P H x tx s := fun s => srcA_agree fun id hid => hag.at_ id (List.mem_append_right _ hid)
  have e2 : ∀ n, srcObl K x n = srcObl H x n := fun n => srcObl_agree fun id hid => hag.at_ id (List.mem_append_right _ hid)
  obtain ⟨c1, c2⟩ := calm1_of hc
  unfold appendA at h ⊢
  cases hu : P.underlying ts with
  | none => simp [hu] at h
  | some td =>
    simp only [hu] at h ⊢
    cases td <;> simp only at h ⊢ <;> first | (cases h; done) | skip
    rename_i e
    cases hi : P.info? e with
    | none => simp [hi] at h
    | some i =>
      simp only [hi] at h ⊢
      rw [e1]
      cases hz : i.zero with
      | none => simp [hz] at h
      | some z =>
        simp only [hz] at h ⊢
        cases hs : srcA P H x tx i.size with
        | none => simp [hs] at h
        | some ys =>
          simp only [hs] at h ⊢
          by_cases hcnd : 0 < i.bytes ∧ 0 < i.size ∧ z.cells.size = i.size
          · rw [if_pos hcnd] at h ⊢
            rw [e2]
            split at h
            · -- nil
              split at h
              · cases h
                exact ⟨K, rfl, Loc.refl hag, c2 _ rfl⟩
              · rename_i hne
                cases h
                refine ⟨K ++ [.arr 0 i.size false ys], ?_, Loc.push hag _, c1⟩
                rw [hl]
            · -- data
              rename_i sz xs
              split at h
              · rename_i hsz
                rw [if_pos hsz]
                split at h
                · cases h
                  exact ⟨K, rfl, Loc.refl hag, c2 _ rfl⟩
                · rename_i hne
                  cases h
                  refine ⟨K ++ [.arr 0 i.size false (xs ++ ys)], ?_, Loc.push hag _, c1⟩
                  rw [hl]
              · cases h
            · -- own
              rename_i id g len
              have hk : K[id]? = H[id]? := hag.at_ id (by simp [ownIds])
              rw [hk]
              split at h
              · rename_i g' sz xs hH
                split at h
                · rename_i hsz
                  cases h
                  exact ⟨K.set id (.arr (g + 1) sz false (xs ++ ys)), by rw [if_pos hsz], Loc.set hag (by simp [ownIds]) _, c1⟩
                · cases h
              · cases h
            · cases h
          · rw [if_neg hcnd] at h
            cases h

theorem looks_agree {e : List Nat} {H K : List AObj} : ∀ {ids : List Nat}, (∀ id ∈ ids, K[id]? = H[id]?) → looks e K ids = looks e H ids
  | [], _ => rfl
  | id :: ids, h => by
    simp only [looks]
    rw [h id (by simp), looks_agree fun i hi => h i (by simp [hi])]
theorem set_agree {H K : List AObj} {i : Nat} (h : K[i]? = H[i]?) (id : Nat) (ob : AObj) : (K.set id ob)[i]? = (H.set id ob)[i]? := by
  by_cases e : id = i
  · subst e
    have : (id < K.length) ↔ (id < H.length) := by
      constructor
      · intro hk; rcases Nat.lt_or_ge id H.length with h2 | h2
        · exact h2
        · rw [List.getElem?_eq_none h2] at h; exact absurd (List.getElem?_eq_none_iff.1 h) (by omega)
      · intro hk; rcases Nat.lt_or_ge id K.length with h2 | h2
        · exact h2
        · rw [List.getElem?_eq_none h2] at h; exact absurd (List.getElem?_eq_none_iff.1 h.symm) (by omega)
    rw [List.getElem?_set, List.getElem?_set, if_pos rfl, if_pos rfl]
    simp only [this]
  · rw [List.getElem?_set_ne e, List.getElem?_set_ne e]; exact h
theorem putD_len (σ : Nat → Nat) : ∀ (e : List Nat) (os H : List AObj), (putD σ e os H).length = H.length
  | [], _, _ => rfl
  | _ :: _, [], _ => rfl
  | id :: e, o :: os, H => by rw [putD, putD_len σ e os]; simp
theorem putD_other (σ : Nat → Nat) : ∀ (e : List Nat) (os H : List AObj) (id : Nat), id ∉ e → (putD σ e os H)[id]? = H[id]?
  | [], _, _, _, _ => rfl
  | _ :: _, [], _, _, _ => rfl
  | a :: e, o :: os, H, id, h => by
    rw [putD, putD_other σ e os _ id (fun h' => h (by simp [h']))]
    exact List.getElem?_set_ne fun e' => h (by simp [e'])
theorem putD_agree (σ : Nat → Nat) : ∀ (e : List Nat) (os H K : List AObj) (i : Nat), K[i]? = H[i]? → (putD σ e os K)[i]? = (putD σ e os H)[i]?
  | [], _, _, _, _, h => h
  | _ :: _, [], _, _, _, h => h
  | a :: e, o :: os, H, K, i, h => by
    rw [putD, putD]
    exact putD_agree σ e os _ _ i (set_agree h a _)

theorem back_loc {e : List Nat} {H K : List AObj} (h : Agree H K e true) (Hs : List AObj) : Loc H (backD e H Hs) K (backD e K Hs) e true := by
  have hl := h.len rfl
  unfold backD
  rw [hl]
  have hlen : ∀ L : List AObj, (putD (upto e H.length) e Hs L ++ (Hs.drop e.length).map (AObj.renD (upto e H.length))).length = L.length + (Hs.drop e.length).length := fun L => by rw [List.length_append, putD_len, List.length_map]
  refine ⟨fun h => (by cases h), fun _ => by rw [hlen, hlen, hl], fun i hi => ?_, fun i hi => ?_⟩
  · by_cases hlt : i < H.length
    · rw [List.getElem?_append_left (by rw [putD_len]; omega), List.getElem?_append_left (by rw [putD_len]; omega)]
      refine putD_agree _ _ _ _ _ i ?_
      rcases List.mem_append.1 hi with hi | hi
      · exact h.at_ i hi
      · simp only [made, if_true, List.mem_range'_1] at hi; omega
    · rw [List.getElem?_append_right (by rw [putD_len]; omega), List.getElem?_append_right (by rw [putD_len]; omega), putD_len, putD_len, hl]
  · simp only [made, if_true, List.mem_append, List.mem_range'_1, not_or] at hi
    obtain ⟨h1, h2⟩ := hi
    rw [hlen] at h2
    by_cases hlt : i < H.length
    · rw [List.getElem?_append_left (by rw [putD_len]; omega), List.getElem?_append_left (by rw [putD_len]; omega), putD_other _ _ _ _ _ h1, putD_other _ _ _ _ _ h1]
      exact ⟨rfl, rfl⟩
    · have hge : H.length + (Hs.drop e.length).length ≤ i := by omega
      have n1 : ∀ L : List AObj, L.length = H.length → (putD (upto e H.length) e Hs L ++ (Hs.drop e.length).map (AObj.renD (upto e H.length)))[i]? = none := fun L hL => List.getElem?_eq_none (by rw [hlen]; omega)
      rw [n1 K hl, n1 H rfl, List.getElem?_eq_none (by omega), List.getElem?_eq_none (by omega)]
      exact ⟨rfl, rfl⟩

theorem enter_loc {H K : List AObj} {f : FuncId} {xs : List AV} {e : List Nat} {out : AOut} {Hs : List AObj} {orc orc' : List Orc} {k : Kind} {out' : AOut} {H' : List AObj} {ps : List Prop} (h : enterA P G H f xs (.call e out Hs :: orc) = some (k, out', H', orc', ps)) (hag : Agree H K e true) :
    ∃ K', enterA P G K f xs (.call e out Hs :: orc) = some (k, out', K', orc', ps) ∧ Loc H H' K K' e true ∧ orc' = orc := by
  have hl := hag.len rfl
  cases hcs : e with
  | nil =>
    subst hcs
    cases hHs : Hs with
    | nil =>
      subst hHs
      simp only [enterA] at h ⊢
      by_cases hcnd : AV.idsInL [] xs = true ∧ out.idFree = true
      · rw [if_pos hcnd] at h ⊢
        cases h
        exact ⟨K, rfl, Loc.refl hag, rfl⟩
      · rw [if_neg hcnd] at h; cases h
    | cons o os =>
      subst hHs
      simp only [enterA] at h ⊢
      by_cases hcnd : nodupB [] = true ∧ AV.idsInL [] xs = true
      · rw [if_pos hcnd] at h ⊢
        simp only [looks] at h ⊢
        cases h
        exact ⟨backD [] K (o :: os), by rw [hl], back_loc hag _, rfl⟩
      · rw [if_neg hcnd] at h; cases h
  | cons a e' =>
    subst hcs
    simp only [enterA] at h ⊢
    by_cases hcnd : nodupB (a :: e') = true ∧ AV.idsInL (a :: e') xs = true
    · rw [if_pos hcnd] at h ⊢
      rw [looks_agree (e := a :: e') (ids := a :: e') hag.at_]
      cases hlk : looks (a :: e') H (a :: e') with
      | none => simp [hlk] at h
      | some q =>
        obtain ⟨hs, qs⟩ := q
        simp only [hlk] at h ⊢
        cases h
        exact ⟨backD (a :: e') K Hs, by rw [hl], back_loc hag _, rfl⟩
    · rw [if_neg hcnd] at h; cases h

theorem evalOp_loc {H K : List AObj} {ev : Operand → AV} {orc orc' : List Orc} {k : Kind} {out : AOut} {H' : List AObj} {ps : List Prop} {ids : List Nat} {len : Bool} (h : evalOp P G H ev o orc = some (k, out, H', orc', ps)) (hf : foot ev o orc = some (ids, len)) (hag : Agree H K ids len) :
    ∃ K', evalOp P G K ev o orc = some (k, out, K', orc', ps) ∧ Loc H H' K K' ids len ∧ (k = .free ∨ calm1 orc' = true) := by
  have fr : ∀ {x : AV} {orc1 : List Orc} {qs : List Prop}, some (Kind.free, AOut.ret x, H, orc1, qs) = some (k, out, H', orc', ps) → ∃ K', some (Kind.free, AOut.ret x, K, orc1, qs) = some (k, out, K', orc', ps) ∧ Loc H H' K K' ids len ∧ (k = .free ∨ calm1 orc' = true) := fun h => by
    cases h
    exact ⟨K, rfl, Loc.refl hag, .inl rfl⟩
  have eff : (∃ t, o.op = .alloc t) ∨ (∃ t x, o.op = .box t x) ∨ (∃ c, o.op = .call c ∧ c.callee = .builtin .append) → calmHead orc = true → (∀ {x H1 orc1 qs}, evalEff P H ev o orc = some (x, H1, orc1, qs) → ∃ K1, evalEff P K ev o orc = some (x, K1, orc1, qs) ∧ Loc H H1 K K1 ids len ∧ calm1 orc1 = true) →
      ∃ K', evalOp P G K ev o orc = some (k, out, K', orc', ps) ∧ Loc H H' K K' ids len ∧ (k = .free ∨ calm1 orc' = true) := fun hop _ he => by
    rw [evalOp_eff hop] at h ⊢
    cases hfr : evalFree P ev o orc with
    | some q => obtain ⟨x, orc1, qs⟩ := q; simp only [hfr] at h ⊢; exact fr h
    | none =>
      simp only [hfr] at h ⊢
      cases hef : evalEff P H ev o orc with
      | none => simp [hef] at h
      | some q =>
        obtain ⟨x, H1, orc1, qs⟩ := q
        obtain ⟨K1, e1, e2, e3⟩ := he hef
        simp only [hef, Option.some.injEq, Prod.mk.injEq] at h
        obtain ⟨rfl, rfl, rfl, rfl, rfl⟩ := h
        exact ⟨K1, by rw [e1], e2, .inr e3⟩
  unfold foot at hf
  split at hf
  · -- load
    rename_i t x hop
    split at hf <;> first | (cases hf; done) | skip
    rename_i id off he
    split at hf <;> first | (cases hf; done) | skip
    rename_i hc
    cases hf
    rw [evalOp_load hop he] at h ⊢
    rw [hag.at_ id (by simp)]
    cases hH : H[id]? with
    | none => rw [hH] at h; cases h
    | some ob =>
      rw [hH] at h
      cases ob <;> simp only at h ⊢ <;> try (cases h; done)
      rename_i cells
      cases hl : loadA P t (cells.drop off) with
      | none => simp [hl] at h
      | some z =>
        simp only [hl, Option.map_some, Option.some.injEq, Prod.mk.injEq] at h
        obtain ⟨rfl, rfl, rfl, rfl, rfl⟩ := h
        exact ⟨K, rfl, Loc.refl hag, .inr (calm1_of hc).1⟩
  · -- store
    rename_i t x y hop
    split at hf <;> first | (cases hf; done) | skip
    rename_i id off he
    split at hf <;> first | (cases hf; done) | skip
    rename_i hc
    cases hf
    rw [evalOp_store hop he] at h ⊢
    rw [hag.at_ id (by simp)]
    split at h
    · split at h
      · rename_i hcnd
        cases h
        exact ⟨K.set id _, by simp only [if_pos hcnd], Loc.set hag (by simp) _, .inr (calm1_of hc).1⟩
      · cases h
    · cases h
  · -- alloc
    rename_i t hop
    split at hf <;> first | (cases hf; done) | skip
    rename_i hc
    cases hf
    refine eff (.inl ⟨t, hop⟩) hc fun {x H1 orc1 qs} he => ?_
    unfold evalEff at he ⊢
    rw [hop] at he ⊢
    simp only at he ⊢
    cases hi : P.info? t with
    | none => simp [hi] at he
    | some i =>
      simp only [hi] at he ⊢
      cases hz : i.zero with
      | none => simp [hz] at he
      | some z =>
        simp only [hz, Option.some.injEq, Prod.mk.injEq] at he ⊢
        obtain ⟨rfl, rfl, rfl, rfl⟩ := he
        exact ⟨_, ⟨by rw [hag.len rfl], rfl, rfl, rfl⟩, Loc.push hag _, (calm1_of hc).1⟩
  · -- box
    rename_i t x hop
    split at hf <;> first | (cases hf; done) | skip
    rename_i hc
    cases hf
    refine eff (.inr (.inl ⟨t, x, hop⟩)) hc fun {y H1 orc1 qs} he => ?_
    unfold evalEff at he ⊢
    rw [hop] at he ⊢
    simp only at he ⊢
    cases hcs : (ev x).cells with
    | none => simp [hcs] at he
    | some cs =>
      simp only [hcs, Option.some.injEq, Prod.mk.injEq] at he ⊢
      obtain ⟨rfl, rfl, rfl, rfl⟩ := he
      exact ⟨_, ⟨by rw [hag.len rfl], rfl, rfl, rfl⟩, Loc.push hag _, (calm1_of hc).1⟩
  · -- call
    rename_i c hop
    split at hf
    · -- append
      rename_i hcal
      split at hf <;> first | (cases hf; done) | skip
      rename_i a x hargs
      split at hf <;> first | (cases hf; done) | skip
      rename_i hc
      cases hf
      refine eff (.inr (.inr ⟨c, hop, hcal⟩)) hc fun {y H1 orc1 qs} he => ?_
      obtain ⟨callee, args, ts⟩ := c
      simp only at hcal hargs
      subst hcal
      unfold evalEff at he ⊢
      rw [hop] at he ⊢
      simp only [hargs] at he ⊢
      cases hts : ts.toList with
      | nil => simp [hts] at he
      | cons ta tl =>
        cases tl with
        | nil => simp [hts] at he
        | cons tx tl2 =>
          cases tl2 with
          | cons _ _ => simp [hts] at he
          | nil =>
            simp only [hts] at he ⊢
            exact append_loc he hag hc
    · -- a function
      rename_i g e0 cout Hs orc1 hcal
      split at hf <;> first | (cases hf; done) | skip
      rename_i hc
      obtain ⟨hc, hft⟩ := hc
      cases hf
      rw [evalOp_callv hop hcal] at h ⊢
      cases hfr : evalFree P ev o (.call ids cout Hs :: orc1) with
      | some q => obtain ⟨x, orc2, qs⟩ := q; simp only [hfr] at h ⊢; exact fr h
      | none =>
        simp only [hfr] at h ⊢
        obtain ⟨callee, args, ts⟩ := c
        simp only at hcal
        subst hcal
        have ex : ∀ L : List AObj, evalCall P G L ev o (.call ids cout Hs :: orc1) = match funTarget (ev g) with
            | some (f, as, bs) => if funcOk P f = true then enterA P G L f (as ++ args.toList.map ev ++ bs) (.call ids cout Hs :: orc1) else none
            | none => none := fun L => by
          unfold evalCall
          rw [hop]
          simp only
          split
          · rename_i id b H1 orc2 hy _
            rw [hy] at hft
            simp [funTarget] at hft
          · rfl
        rw [ex] at h ⊢
        cases hft2 : funTarget (ev g) with
        | none => simp [hft2] at h
        | some q =>
          obtain ⟨f, as, bs⟩ := q
          simp only [hft2] at h ⊢
          split at h
          · rename_i hok
            rw [if_pos hok]
            obtain ⟨K', k1, k2, k3⟩ := enter_loc h hag
            exact ⟨K', k1, k2, .inr (by rw [k3]; exact (calm1_of hc).1)⟩
          · cases h
    · cases hf
  · cases hf

theorem reval_pass {d : Option Tmp} {k : Kind} {out : AOut} {orc : List Orc} {ps : List Prop} (hc : calm1 orc = true) :
    ∃ out' orc' ps', ∀ Hx, reval d (some (k, out, Hx, orc, ps)) = some (k, out', Hx, orc', ps') := by
  cases out with
  | pan x => exact ⟨.pan x, orc, ps, fun _ => by cases k <;> rfl⟩
  | ret x =>
    cases orc with
    | nil => exact ⟨.ret x, [], ps, fun _ => by cases k <;> rfl⟩
    | cons q t =>
      cases q with
      | val d' y =>
        by_cases hd : d' = d
        · exact ⟨.ret y, t, Sub x y :: ps, fun Hx => by cases k <;> simp only [reval, if_pos hd]⟩
        · exact ⟨.ret x, .val d' y :: t, ps, fun Hx => by cases k <;> simp only [reval, if_neg hd]⟩
      | hp d' y K => cases hc
      | fz d' z => cases hc
      | _ => exact ⟨.ret x, _, ps, fun _ => by cases k <;> rfl⟩
theorem reval_free {d : Option Tmp} {out : AOut} {orc : List Orc} {ps : List Prop} :
    ∃ out' orc' ps', ∀ Hx, reval d (some (.free, out, Hx, orc, ps)) = some (.free, out', Hx, orc', ps') := by
  cases out with
  | pan x => exact ⟨.pan x, orc, ps, fun _ => rfl⟩
  | ret x =>
    cases orc with
    | nil => exact ⟨.ret x, [], ps, fun _ => rfl⟩
    | cons q t =>
      cases q with
      | val d' y =>
        by_cases hd : d' = d
        · exact ⟨.ret y, t, Sub x y :: ps, fun Hx => by simp only [reval, if_pos hd]⟩
        · exact ⟨.ret x, .val d' y :: t, ps, fun Hx => by simp only [reval, if_neg hd]⟩
      | _ => exact ⟨.ret x, _, ps, fun _ => rfl⟩

theorem stepA_loc {gs : Bool} {H K : List AObj} {orc orc' : List Orc} {k : Kind} {out : AOut} {H' : List AObj} {ps : List Prop} {ids : List Nat} {len : Bool} (h : stepA P G ops gs env H o orc = some (k, out, H', orc', ps)) (hf : foot (evA G env) o orc = some (ids, len)) (hag : Agree H K ids len) :
    ∃ K', stepA P G ops gs env K o orc = some (k, out, K', orc', ps) ∧ Loc H H' K K' ids len := by
  have key : ∀ {k out H' orc' ps}, reval o.dst (evalOp P G H (evA G env) o orc) = some (k, out, H', orc', ps) → ∃ K', reval o.dst (evalOp P G K (evA G env) o orc) = some (k, out, K', orc', ps) ∧ Loc H H' K K' ids len := by
    intro k out H' orc' ps hr
    cases he : evalOp P G H (evA G env) o orc with
    | none => rw [he] at hr; simp [reval] at hr
    | some q =>
      obtain ⟨k1, out1, H1, orc1, ps1⟩ := q
      obtain ⟨K1, h1, h2, h3⟩ := evalOp_loc he hf hag
      obtain ⟨o2, orc2, ps2, hp⟩ : ∃ out' orc' ps', ∀ Hx, reval o.dst (some (k1, out1, Hx, orc1, ps1)) = some (k1, out', Hx, orc', ps') := by
        rcases h3 with rfl | h3
        · exact reval_free
        · exact reval_pass h3
      rw [he, hp] at hr
      cases hr
      exact ⟨K1, by rw [h1, hp], h2⟩
  unfold stepA at h ⊢
  split at h
  · split at h
    · rename_i k1 out1 H1 orc1 qs hev
      obtain ⟨K1, h1, h2⟩ := key hev
      rw [h1]
      split at h
      · rename_i hg
        split at h
        · cases h
          exact ⟨K1, by simp only [hg, if_true], h2⟩
        · cases h
      · rename_i hg
        cases h
        exact ⟨K1, by simp only [if_neg hg], h2⟩
    · cases h
  · cases h
    exact ⟨K, rfl, Loc.refl hag⟩
  · cases h
end
end Go.Am
