/- THE ABSTRACT MACHINE, 14: any operation, guarded or not. -/
import Derived.Test.YtpnoncfhclchdaaDoorAm13
import Derived.OrdersIn
namespace Go.Am
open Go

/-- An operand's value. -/
def evA (G : Nat → Option (List AV)) (env : List AV) : Operand → AV
  | .tmp t => env.getD t .dead
  | .const v => .lit v
  | .global g => match G g with
    | some cs => .imm cs
    | none => .lit (.pointer (some ⟨g, 0, none⟩))
  | .func f => .lit (.func (.func f) #[] #[])

/-- An own slice is data from here on. -/
def evalFrz (H : List AObj) (x : AV) (z : List (List AV)) : Option (AV × List AObj × List Prop) :=
  match x with
  | .own id g off len => match H[id]? with
    | some (.arr g' sz _ ys) => some (.sl sz false z, H.set id (.arr g' sz true ys), [g' = g, (ys.drop off).take len = z, z.length = len, ∀ c ∈ z, c.all AV.pureB = true])
    | _ => none
  | _ => none

def isBuildSlice : Op → Bool
  | .buildSlice .. => true
  | _ => false

def isDefer : Op → Bool
  | .defer _ => true
  | _ => false

def evalOp (P : Program) (G : Nat → Option (List AV)) (H : List AObj) (ev : Operand → AV) (o : Oper) (orc : List Orc) : Option (Kind × AOut × List AObj × List Orc × List Prop) :=
  match o.op, orc with
  | .move x, .frz z :: orc' => (evalFrz H (ev x) z).map fun (y, H', ps) => (.eff, .ret y, H', orc', ps)
  | .assign x, .frz z :: orc' => (evalFrz H (ev x) z).map fun (y, H', ps) => (.eff, .ret y, H', orc', ps)
  | _, _ => if isDefer o.op = true then none else match evalFree P ev o orc with
    | some (x, orc', ps) => some (.free, .ret x, H, orc', ps)
    | none => match evalRead P H ev o orc with
      | some (x, orc', ps) => some (.read, .ret x, H, orc', ps)
      | none => match (if isBuildSlice o.op = true then evalEff P [] ev o orc else none) with
        | some (x, [], orc', ps) => some (.free, .ret x, H, orc', ps)
        | _ => match evalEff P H ev o orc with
          | some (x, H', orc', ps) => some (.eff, .ret x, H', orc', ps)
          | none => evalCall P G H ev o orc

section
variable {P : Program} {G : Nat → Option (List AV)} {r : Option Nat} {V : View} {a : Act} {o : Oper} {ev : Operand → AV}

theorem frz_sound {x y : AV} {z : List (List AV)} {H' : List AObj} {ps : List Prop} {v : Value} (h : evalFrz V.H x z = some (y, H', ps)) (hps : AllP ps) (hG : HeapRep G V) (hr : Rep V x v) :
    ∃ V' : View, V'.w = V.w ∧ V'.H = H' ∧ Step V V' ∧ HeapRep G V' ∧ Rep V' y v := by
  unfold evalFrz at h
  split at h
  · rename_i id g off len
    split at h
    · rename_i g' sz fz ys hH
      · cases h
        obtain ⟨hg, h1, h2, h3, _⟩ := hps
        subst hg
        have hlt := (List.getElem?_eq_some_iff.1 hH).1
        let V' : View := { w := V.w, M := fun b => V.M b ∧ b ≠ V.ρ id, H := V.H.set id (.arr g' sz true ys), ρ := V.ρ }
        have Hs : V'.H[id]? = some (.arr g' sz true ys) := by show (V.H.set id _)[id]? = _; rw [List.getElem?_set_self hlt]
        have Ho : ∀ i, i ≠ id → V'.H[i]? = V.H[i]? := fun i hi => by show (V.H.set id _)[i]? = _; rw [List.getElem?_set_ne (fun e => hi e.symm)]
        have hl : V'.H.length = V.H.length := by show (V.H.set id _).length = _; simp
        have hst : Step V V' := {
          os := rfl
          tape := rfl
          output := rfl
          size := Nat.le_refl _
          keep := fun b _ hn => ⟨rfl, ⟨fun h => h.1, fun h => ⟨h, fun e => hn id hlt e.symm⟩⟩⟩
          data := fun b _ hn => ⟨rfl, fun h => hn h.1⟩
          hlen := Nat.le_of_eq hl.symm
          fresh := fun i hi => .inl ⟨by rw [hl] at hi; exact hi, rfl⟩
          obj := fun i hi => by
            by_cases e : i = id
            · subst e
              unfold ObjStep
              rw [hH, Hs]
              exact .inr ⟨rfl, rfl, rfl, fun c t fr hc => ⟨c, hc, rfl⟩⟩
            · exact .refl hi (Ho i e) rfl rfl }
        refine ⟨V', rfl, rfl, hst, ?_, .pure _ _ (own_data (V' := V') hG rfl (fun b h => h.1) hH (fun h => h.2 rfl) hr h1 h2 h3)⟩
        exact {
          lt := fun i hi => by rw [hl] at hi; exact hG.lt i hi
          obj := fun i ob ho => by
            by_cases e : i = id
            · subst e
              rw [Hs] at ho
              cases ho
              obtain ⟨t, c, o1, o2, o3, o4⟩ := hG.obj i _ hH
              exact ⟨t, c, o1, o2, o3, fun k j hk hj => let ⟨u, hu, h1, hr⟩ := o4 k j hk hj; ⟨u, hu, h1, hr.step hst⟩⟩
            · rw [Ho i e] at ho
              exact (hG.obj i ob ho).step hst rfl
          inj := fun i j hi hj e => by rw [hl] at hi hj; exact hG.inj i j hi hj e
          mutb := fun i ob ho hop => by
            by_cases e : i = id
            · subst e; rw [Hs] at ho; cases ho; cases hop
            · rw [Ho i e] at ho
              exact ⟨hG.mutb i ob ho hop, fun he => e (hG.inj i id (List.getElem?_eq_some_iff.1 ho).1 hlt he)⟩
          glob := hG.glob_step hst }
    · cases h
  · cases h

theorem eff_free {orc orc' : List Orc} {x : AV} {ps : List Prop} (hb : isBuildSlice o.op = true) (h : evalEff P [] ev o orc = some (x, [], orc', ps)) (H : List AObj) : evalEff P H ev o orc = some (x, H, orc', ps) := by
  unfold evalEff at h ⊢
  cases hop : o.op <;> simp only [hop, isBuildSlice] at hb h ⊢ <;> first | (cases hb; done) | skip
  split at h <;> first | (cases h; done) | skip
  split at h <;> first | (cases h; done) | skip
  split at h <;> first | (cases h; done) | skip
  split at h <;> first | (cases h; done) | skip
  split at h <;> first | (cases h; done) | skip
  split at h <;> first | (cases h; done) | skip
  split at h
  · simp at h
  · split at h
    · simp_all
    · cases h

theorem op_sound {H : List AObj} {orc orc' : List Orc} {k : Kind} {out : AOut} {H' : List AObj} {ps : List Prop} (h : evalOp P G H ev o orc = some (k, out, H', orc', ps)) (hps : AllP ps) (hG : HeapRep G V)
    (hr : ∀ y ∈ o.op.operands, Rep V (ev y) (a.eval y)) (hH : V.H = H ∨ k = .free) : OpOk P G r V a o out (if k = .free then V.H else H') ∧ (k ≠ .eff → H' = H) := by
  have frz : ∀ (x : Operand) (z : List (List AV)) (orc1 : List Orc), x ∈ o.op.operands → (∀ c, o.op ≠ .defer c) → (execOp a.eval o).run P V.w = .ok (.value (a.eval x)) V.w →
      (evalFrz H (ev x) z).map (fun (y, H', ps) => (Kind.eff, AOut.ret y, H', orc1, ps)) = some (k, out, H', orc', ps) → OpOk P G r V a o out (if k = .free then V.H else H') ∧ (k ≠ .eff → H' = H) := by
    intro x z orc1 hx hd hrun h
    cases hf : evalFrz H (ev x) z with
    | none => simp [hf] at h
    | some q =>
      obtain ⟨y, H1, qs⟩ := q
      simp only [hf, Option.map_some, Option.some.injEq, Prod.mk.injEq] at h
      obtain ⟨rfl, rfl, rfl, rfl, rfl⟩ := h
      rcases hH with rfl | hH
      · obtain ⟨V', k1, k2, k3, k4, k5⟩ := frz_sound hf hps hG (hr x hx)
        rw [if_neg (by simp), ← k2]
        exact ⟨OpOk.of_value hd (by rw [k1]; exact hrun) (.inl rfl) k3 k4 k5, fun h => absurd rfl h⟩
      · cases hH
  unfold evalOp at h
  split at h
  · rename_i x z orc1 hop
    exact frz x z orc1 (by simp [hop, Op.operands]) (fun c hc => by rw [hop] at hc; cases hc) (by rw [execOp, hop]; rfl) h
  · rename_i x z orc1 hop
    exact frz x z orc1 (by simp [hop, Op.operands]) (fun c hc => by rw [hop] at hc; cases hc) (by rw [execOp, hop]; rfl) h
  · split at h
    · cases h
    · rename_i hnd
      have hd : ∀ c, o.op ≠ .defer c := fun c hc => hnd (by rw [hc]; rfl)
      have ident : ∀ {x : AV} {v : Value}, (execOp a.eval o).run P V.w = .ok (.value v) V.w → Rep V x v → OpOk P G r V a o (.ret x) V.H := fun h1 h2 => OpOk.of_value hd h1 (.inl rfl) (Step.refl V) hG h2
      split at h
      · rename_i x orc1 qs hf
        cases h
        obtain ⟨v, h1, h2⟩ := free_sound hf hps hr
        exact ⟨by rw [if_pos rfl]; exact ident h1 h2, fun _ => rfl⟩
      · split at h
        · rename_i x orc1 qs hf
          cases h
          rcases hH with rfl | hH
          · obtain ⟨v, h1, h2⟩ := read_sound hf hps hG hr
            exact ⟨by rw [if_neg (by simp)]; exact ident h1 h2, fun _ => rfl⟩
          · cases hH
        · split at h
          · rename_i x orc1 qs hf
            cases h
            split at hf
            · rename_i hb
              obtain ⟨V', n, v, k1, k2, k3, k4, k5, k6⟩ := eff_sound (eff_free hb hf V.H) hps hG hr
              rw [if_pos rfl, ← k3]
              exact ⟨OpOk.of_value hd k1 k2 k4 k5 k6, fun _ => rfl⟩
            · cases hf
          · split at h
            · rename_i x H1 orc1 qs hf
              cases h
              rcases hH with rfl | hH
              · obtain ⟨V', n, v, k1, k2, k3, k4, k5, k6⟩ := eff_sound hf hps hG hr
                rw [if_neg (by simp), ← k3]
                exact ⟨OpOk.of_value hd k1 k2 k4 k5 k6, fun h => absurd rfl h⟩
              · cases hH
            · exact call_sound h hps hG hr hH
end

/-! ### Under its guard -/
def putA (env : List AV) (d : Option Tmp) (x : AV) : List AV := match d with
  | some d => env.set d x
  | none => env
def wantedA (ops : Array Oper) (env : List AV) (o : Oper) : Option Bool := match o.guard with
  | none => some true
  | some (j, w) => match (ops[j]?).bind (·.dst) with
    | some d => match env.getD d .dead with
      | .lit (.bool b) => some (b == w)
      | .lit (.tuple _) => some false
      | _ => none
    | none => none
/-- Does an operation's outcome guard another? -/
def guards (ops : Array Oper) (i : Nat) : Bool := ops.any fun o => match o.guard with
  | some (j, _) => j == i
  | none => false

/-! ### What is known put in other words -/
def ObjSub : AObj → AObj → Prop
  | .box xs, .box ys => ys.length = xs.length ∧ ∀ j, j < xs.length → Sub (xs.getD j .dead) (ys.getD j .dead)
  | .arr g sz fz xs, .arr g' sz' fz' ys => g' = g ∧ sz' = sz ∧ fz' = fz ∧ ys.length = xs.length ∧ (∀ y ∈ ys, y.length = sz) ∧ ∀ k j, k < xs.length → j < sz → Sub ((xs.getD k []).getD j .dead) ((ys.getD k []).getD j .dead)
  | _, .gone => True
  | _, _ => False
def HSub : List AObj → List AObj → Prop
  | [], [] => True
  | o :: os, p :: ps => (p = o ∨ ObjSub o p) ∧ HSub os ps
  | _, _ => False
theorem HSub.refl : ∀ H : List AObj, HSub H H
  | [] => trivial
  | _ :: os => ⟨.inl rfl, HSub.refl os⟩
theorem HSub.len : ∀ {H K : List AObj}, HSub H K → K.length = H.length
  | [], [], _ => rfl
  | _ :: _, _ :: _, h => by simp [HSub.len h.2]
theorem HSub.get : ∀ {H K : List AObj}, HSub H K → ∀ {i : Nat} {p : AObj}, K[i]? = some p → ∃ o, H[i]? = some o ∧ (p = o ∨ ObjSub o p)
  | [], [], _, i, p, h => by simp at h
  | o :: os, q :: qs, h, 0, p, hp => by simp at hp; subst hp; exact ⟨o, rfl, h.1⟩
  | o :: os, q :: qs, h, i + 1, p, hp => by simp at hp; simpa using HSub.get h.2 hp
theorem hsub_step {G : Nat → Option (List AV)} {V : View} {K : List AObj} (hG : HeapRep G V) (h : HSub V.H K) : ∃ V' : View, V'.w = V.w ∧ V'.H = K ∧ V'.ρ = V.ρ ∧ Step V V' ∧ HeapRep G V' := by
  let V' : View := { w := V.w, M := V.M, H := K, ρ := V.ρ }
  have hl : K.length = V.H.length := h.len
  have hst : Step V V' := {
    os := rfl
    tape := rfl
    output := rfl
    size := Nat.le_refl _
    keep := fun b _ _ => ⟨rfl, Iff.rfl⟩
    data := fun b _ hn => ⟨rfl, hn⟩
    hlen := Nat.le_of_eq hl.symm
    fresh := fun i hi => .inl ⟨by have hi : i < K.length := hi; omega, rfl⟩
    obj := fun i hi => by
      obtain ⟨p, hp⟩ : ∃ p, K[i]? = some p := ⟨_, List.getElem?_eq_getElem (by omega)⟩
      obtain ⟨o, ho, he⟩ := h.get hp
      have hp' : V'.H[i]? = some p := hp
      rcases he with rfl | he
      · exact .refl hi (hp'.trans ho.symm) rfl rfl
      · unfold ObjStep
        rw [ho, hp']
        cases o <;> cases p <;> simp only [ObjSub] at he <;> first
          | exact he.elim
          | trivial
          | rfl
          | exact .inr ⟨he.1.symm, he.2.1.symm, rfl, fun c t fr hc => ⟨c, hc, rfl⟩⟩ }
  refine ⟨V', rfl, rfl, rfl, hst, ?_⟩
  exact {
    lt := fun i hi => hG.lt i (by have hi : i < K.length := hi; omega)
    obj := fun i p hp => by
      obtain ⟨o, ho, he⟩ := h.get hp
      have hr := (hG.obj i o ho).step hst rfl
      rcases he with rfl | he
      · exact hr
      · cases o <;> cases p <;> simp only [ObjSub] at he <;> first | exact he.elim | trivial | skip
        · obtain ⟨t, vs, h1, h2⟩ := hr
          exact ⟨t, vs, h1, h2.1.trans he.1.symm, fun j hj => he.2 j (by omega) V' _ (h2.2 j (by omega))⟩
        · obtain ⟨rfl, rfl, rfl, hlen, hsz, hsub⟩ := he
          obtain ⟨t, c, h1, h2, h3, h4⟩ := hr
          exact ⟨t, c, h1, by rw [hlen]; exact h2, hsz, fun k j hk hj => by
            obtain ⟨v, k1, k2, k3⟩ := h4 k j (by omega) hj
            exact ⟨v, k1, k2, hsub k j (by omega) hj V' _ k3⟩⟩
    inj := fun i j hi hj e => hG.inj i j (by have hi : i < K.length := hi; omega) (by have hj : j < K.length := hj; omega) e
    mutb := fun i p hp hop => by
      obtain ⟨o, ho, he⟩ := h.get hp
      rcases he with rfl | he
      · exact hG.mutb i _ ho hop
      · refine hG.mutb i o ho ?_
        cases o <;> cases p <;> simp only [ObjSub] at he <;> first | exact he.elim | rfl | (cases hop; done) | skip
        · obtain ⟨rfl, rfl, rfl, _⟩ := he
          exact hop
    glob := hG.glob }

/-- An outcome put in other words. -/
def reval (d : Option Tmp) : Option (Kind × AOut × List AObj × List Orc × List Prop) → Option (Kind × AOut × List AObj × List Orc × List Prop)
  | some (.read, .ret x, H', .fz d' z :: orc', ps) => if d' = d then (match evalFrz H' x z with
    | some (y, K, qs) => some (.eff, .ret y, K, orc', ps ++ qs)
    | none => none) else some (.read, .ret x, H', .fz d' z :: orc', ps)
  | some (k, .ret x, H', .val d' y :: orc', ps) => if d' = d then some (k, .ret y, H', orc', Sub x y :: ps) else some (k, .ret x, H', .val d' y :: orc', ps)
  | some (.eff, .ret x, H', .hp d' y K :: orc', ps) => if d' = d then some (.eff, .ret y, K, orc', Sub x y :: HSub H' K :: ps) else some (.eff, .ret x, H', .hp d' y K :: orc', ps)
  | r => r

def stepA (P : Program) (G : Nat → Option (List AV)) (ops : Array Oper) (gs : Bool) (env : List AV) (H : List AObj) (o : Oper) (orc : List Orc) : Option (Kind × AOut × List AObj × List Orc × List Prop) :=
  match wantedA ops env o with
  | some true => match reval o.dst (evalOp P G H (evA G env) o orc) with
    | some (k, out, H', orc', ps) => if gs = true then (match out, orc' with
        | .ret (.lit (.bool e)), .br b :: orc'' => some (k, .ret (.lit (.bool b)), H', orc'', (e = b) :: ps)
        | _, _ => none) else some (k, out, H', orc', ps)
    | none => none
  | some false => some (.free, .ret (.lit undef), H, orc, [])
  | none => none

section
variable {P : Program} {G : Nat → Option (List AV)} {r : Option Nat} {V : View} {a : Act} {o : Oper} {ops : Array Oper} {env : List AV}

theorem evA_sound (hG : HeapRep G V) {y : Operand} (h : ∀ t, y = .tmp t → Rep V (env.getD t .dead) (a.tmps.getD t undef)) : Rep V (evA G env y) (a.eval y) := by
  cases y with
  | tmp t => exact h t rfl
  | const v => exact .pure _ _ (.lit v)
  | global g =>
    simp only [evA, Act.eval]
    split
    · rename_i cs hg; exact .pure _ _ (hG.glob g cs hg)
    · exact .pure _ _ (.lit _)
  | func f => exact .pure _ _ (.lit _)

theorem wanted_sound {b : Bool} (h : wantedA ops env o = some b) (hr : ∀ t ∈ o.looksAt ops, Rep V (env.getD t .dead) (a.tmps.getD t undef)) : Region.wanted o (yielded ops a.tmps) = b := by
  unfold wantedA at h
  unfold Region.wanted
  cases hg : o.guard with
  | none => simp [hg] at h; simp [h]
  | some q =>
    obtain ⟨j, w⟩ := q
    simp only [hg] at h ⊢
    cases hd : (ops[j]?).bind (·.dst) with
    | none => simp [hd] at h
    | some d =>
      simp only [hd] at h
      split at h
      · rename_i b' he
        cases h
        have := hr d (by simp [Oper.looksAt, hg, hd])
        rw [he] at this
        have hv := rep_lit this
        have hy : yielded ops a.tmps j = some b' := by
          unfold yielded
          rw [hd]
          have hlt : d < a.tmps.size := by
            rcases Nat.lt_or_ge d a.tmps.size with h | h
            · exact h
            · simp [Array.getD, Nat.not_lt.2 h, undef] at hv
          have hv2 : a.tmps[d]? = some (.bool b') := by
            rw [Array.getElem?_eq_getElem hlt]
            simp [Array.getD, hlt] at hv
            rw [hv]
          simp [hv2]
        rw [hy]
        cases b' <;> cases w <;> rfl
      · rename_i us he
        cases h
        have := hr d (by simp [Oper.looksAt, hg, hd])
        rw [he] at this
        have hv := rep_lit this
        have hy : yielded ops a.tmps j = none := by
          unfold yielded
          rw [hd]
          show (match (a.tmps[d]? : Option Value) with | some (.bool b) => some b | _ => none) = none
          cases hq : a.tmps[d]? with
          | none => rfl
          | some u =>
            rw [Array.getD_eq_getD_getElem?, hq] at hv
            simp only [Option.getD_some] at hv
            rw [hv]
        rw [hy]
        rfl
      · cases h

theorem reval_sound {d : Option Tmp} {H : List AObj} {ev : Operand → AV} {orc orc' : List Orc} {k : Kind} {out : AOut} {H' : List AObj} {ps : List Prop} (h : reval d (evalOp P G H ev o orc) = some (k, out, H', orc', ps)) (hps : AllP ps) (hG : HeapRep G V)
    (hr : ∀ y ∈ o.op.operands, Rep V (ev y) (a.eval y)) (hH : V.H = H ∨ k = .free) : OpOk P G r V a o out (if k = .free then V.H else H') ∧ (k ≠ .eff → H' = H) := by
  unfold reval at h
  split at h
  · rename_i x H1 d1 z orc1 qs he
    split at h
    · split at h
      · rename_i y K rs hf
        cases h
        obtain ⟨p1, p2⟩ := allP_append.1 hps
        obtain ⟨h1, h2⟩ := op_sound (r := r) he p1 hG hr (hH.imp id fun h => by cases h)
        refine ⟨fun next Q n1 n2 => ?_, fun h => absurd rfl h⟩
        refine h1 next Q (fun V' v u hu s1 s2 s3 s4 => ?_) fun V' v u hu => by cases hu
        cases hu
        rw [if_neg (by simp)] at s3
        subst s3
        obtain ⟨V2, a1, a2, a3, a4, a5⟩ := frz_sound hf p2 s2 s4
        rw [← a1]
        exact n1 V2 v y rfl (s1.trans a3) a4 (by rw [if_neg (by simp), a2]) a5
      · cases h
    · rw [← he] at h
      exact op_sound (r := r) h hps hG hr hH
  · rename_i k1 x H1 d1 y orc1 qs he
    split at h
    · cases h
      obtain ⟨h1, h2⟩ := op_sound (r := r) he hps.2 hG hr hH
      refine ⟨fun next Q n1 n2 => ?_, h2⟩
      exact h1 next Q (fun V' v z hz s1 s2 s3 s4 => by cases hz; exact n1 V' v y rfl s1 s2 s3 (hps.1 V' v s4)) fun V' v z hz => by cases hz
    · rw [← he] at h
      exact op_sound (r := r) h hps hG hr hH
  · rename_i x H1 d1 y K orc1 qs he
    split at h
    · cases h
      obtain ⟨h1, h2⟩ := op_sound (r := r) he hps.2.2 hG hr hH
      refine ⟨fun next Q n1 n2 => ?_, fun h => absurd rfl h⟩
      refine h1 next Q (fun V' v z hz s1 s2 s3 s4 => ?_) fun V' v z hz => by cases hz
      cases hz
      rw [if_neg (by simp)] at s3
      subst s3
      obtain ⟨V2, a1, a2, a3, a4, a5⟩ := hsub_step s2 hps.2.1
      rw [← a1]
      exact n1 V2 v y rfl (s1.trans a4) a5 (by rw [if_neg (by simp), a2]) (hps.1 V2 v (s4.step a4))
    · rw [← he] at h
      exact op_sound (r := r) h hps hG hr hH
  · exact op_sound (r := r) h hps hG hr hH

theorem stepA_sound {i : Nat} {gs : Bool} {H : List AObj} {orc orc' : List Orc} {k : Kind} {out : AOut} {H' : List AObj} {ps : List Prop} (ho : ops[i]? = some o) (h : stepA P G ops gs env H o orc = some (k, out, H', orc', ps)) (hps : AllP ps) (hG : HeapRep G V)
    (hr : ∀ t ∈ o.looksAt ops, Rep V (env.getD t .dead) (a.tmps.getD t undef)) (hH : V.H = H ∨ k = .free) :
    (∀ (next : Act → World → Prop) (Q : Exit → Act → World → Prop),
      (∀ V' v x, out = .ret x → Step V V' → HeapRep G V' → V'.H = (if k = .free then V.H else H') → Rep V' x v → next (a.put o.dst v) V'.w) →
      (∀ V' v x, out = .pan x → Step V V' → HeapRep G V' → V'.H = (if k = .free then V.H else H') → Rep V' x v → Q (.panic [{ v := v, recovered := false }]) a V'.w) →
      wpOpIn (fz r) 0 P ops Q i next a V.w) ∧ (k ≠ .eff → H' = H) := by
  unfold stepA at h
  split at h
  · rename_i hw
    have hw' := wanted_sound (V := V) (a := a) hw hr
    have hops : ∀ y ∈ o.op.operands, Rep V (evA G env y) (a.eval y) := fun y hy => evA_sound hG fun t ht => hr t (by
      subst ht
      exact List.mem_append_left _ (List.mem_filterMap.2 ⟨.tmp t, by simpa using hy, rfl⟩))
    split at h
    · rename_i k1 out1 H1 orc1 qs hev
      split at h
      · split at h
        · rename_i e b orc2
          cases h
          obtain ⟨he, hps⟩ := hps
          obtain ⟨h1, h2⟩ := reval_sound (r := r) hev hps hG hops hH
          refine ⟨fun next Q n1 n2 => ?_, h2⟩
          unfold wpOpIn
          rw [ho]
          simp only [hw', if_true]
          refine h1 next Q (fun V' v x hx => ?_) (fun V' v x hx => by cases hx)
          cases hx
          subst he
          exact n1 V' v _ rfl
        · cases h
      · cases h
        obtain ⟨h1, h2⟩ := reval_sound (r := r) hev hps hG hops hH
        refine ⟨fun next Q n1 n2 => ?_, h2⟩
        unfold wpOpIn
        rw [ho]
        simp only [hw', if_true]
        exact h1 next Q n1 n2
    · cases h
  · rename_i hw
    have hw' := wanted_sound (V := V) (a := a) hw hr
    cases h
    refine ⟨fun next Q n1 n2 => ?_, fun _ => rfl⟩
    unfold wpOpIn
    rw [ho]
    simp only [hw', Bool.false_eq_true, if_false]
    exact ⟨fun _ _ => trivial, n1 V undef _ rfl (Step.refl V) hG (by rw [if_pos rfl]) (.pure _ _ (.lit _))⟩
  · cases h

/-! ### What touches one object alone -/
/-- The one object that an operation reads or writes. -/
def spot (ev : Operand → AV) (o : Oper) (orc : List Orc) : Option Nat :=
  match o.op, orc with
  | _, .hp .. :: _ => none
  | _, .fz .. :: _ => none
  | .load _ x, _ => match ev x with
    | .ptr id _ => some id
    | _ => none
  | .store _ x _, _ => match ev x with
    | .ptr id _ => some id
    | _ => none
  | _, _ => none

theorem evalLit_ptr {ev : Operand → AV} {y : Operand} {id off : Nat} (hy : y ∈ o.op.operands) (he : ev y = .ptr id off) : evalLit P ev o = none := by
  unfold evalLit
  split
  · rfl
  · rw [if_neg]
    intro h
    have := List.all_eq_true.1 h y (by simpa using hy)
    rw [he] at this
    cases this

theorem evalOp_load {H : List AObj} {ev : Operand → AV} {orc : List Orc} {t : TypeId} {x : Operand} {id off : Nat} (hop : o.op = .load t x) (he : ev x = .ptr id off) :
    evalOp P G H ev o orc = match H[id]? with
      | some (.box cells) => (loadA P t (cells.drop off)).map fun z => (.read, .ret z, H, orc, [])
      | _ => none := by
  have h1 : evalFree P ev o orc = none := by unfold evalFree; rw [hop]; simp only [he]
  have h2 : evalEff P H ev o orc = none := by unfold evalEff; rw [hop]
  have h3 : evalCall P G H ev o orc = none := by unfold evalCall; rw [hop]
  have h4 : evalRead P H ev o orc = match H[id]? with
      | some (.box cells) => (loadA P t (cells.drop off)).map fun z => (z, orc, [])
      | _ => none := by
    unfold evalRead
    rw [hop]
    simp only [he]
    split <;> simp_all
  unfold evalOp
  rw [hop]
  simp only [isDefer, isBuildSlice, h1, h2, h3, h4, Bool.false_eq_true, if_false]
  cases hH : H[id]? with
  | none => rfl
  | some ob =>
    cases ob <;> simp only <;> try rfl
    cases loadA P t _ <;> rfl

theorem evalOp_store {H : List AObj} {ev : Operand → AV} {orc : List Orc} {t : TypeId} {x y : Operand} {id off : Nat} (hop : o.op = .store t x y) (he : ev x = .ptr id off) :
    evalOp P G H ev o orc = match tSize P t, (ev y).cells, H[id]? with
      | some n, some cs, some (.box cells) => if cs.length = n ∧ off + cs.length ≤ cells.length ∧ cs.all AV.one = true then some (.eff, .ret (.lit undef), H.set id (.box (splice cells off cs)), orc, []) else none
      | _, _, _ => none := by
  have hl : evalLit P ev o = none := evalLit_ptr (y := x) (by rw [hop]; simp [Op.operands]) he
  have h1 : evalFree P ev o orc = none := by unfold evalFree; rw [hop]; simp only [hl, Option.map_none]
  have h2 : evalRead P H ev o orc = none := by unfold evalRead; rw [hop]
  have h3 : evalCall P G H ev o orc = none := by unfold evalCall; rw [hop]
  have h4 : evalEff P H ev o orc = match tSize P t, (ev y).cells, H[id]? with
      | some n, some cs, some (.box cells) => if cs.length = n ∧ off + cs.length ≤ cells.length ∧ cs.all AV.one = true then some (.lit undef, H.set id (.box (splice cells off cs)), orc, []) else none
      | _, _, _ => none := by
    unfold evalEff
    rw [hop]
    simp only [he]
    cases tSize P t with
    | none => rfl
    | some n => cases (ev y).cells with
      | none => rfl
      | some cs =>
        cases hH : H[id]? with
        | none => simp only [hH]
        | some ob => cases ob <;> simp only [hH]
  unfold evalOp
  rw [hop]
  simp only [isDefer, isBuildSlice, h1, h2, h3, h4, Bool.false_eq_true, if_false]
  cases tSize P t with
  | none => rfl
  | some n => cases (ev y).cells with
    | none => rfl
    | some cs => cases H[id]? with
      | none => rfl
      | some ob =>
        cases ob <;> simp only
        rename_i cells
        by_cases hc : cs.length = n ∧ off + cs.length ≤ cells.length ∧ cs.all AV.one = true
        · rw [if_pos hc, if_pos hc]
        · rw [if_neg hc, if_neg hc]

theorem evalOp_local {H K : List AObj} {ev : Operand → AV} {orc orc' : List Orc} {k : Kind} {out : AOut} {H' : List AObj} {ps : List Prop} {id : Nat} (h : evalOp P G H ev o orc = some (k, out, H', orc', ps)) (hs : spot ev o orc = some id) (hK : K[id]? = H[id]?) :
    orc' = orc ∧ ∃ ob, H' = (if k = .eff then H.set id ob else H) ∧ evalOp P G K ev o orc = some (k, out, (if k = .eff then K.set id ob else K), orc', ps) := by
  unfold spot at hs
  split at hs <;> first | (cases hs; done) | skip
  · rename_i t x hop _ _
    split at hs <;> first | (cases hs; done) | skip
    rename_i id' off he
    cases hs
    rw [evalOp_load hop he] at h ⊢
    rw [hK]
    cases hH : H[id]? with
    | none => rw [hH] at h; cases h
    | some ob =>
      rw [hH] at h
      cases ob <;> simp only at h ⊢ <;> try (cases h; done)
      rename_i cells
      cases hl : loadA P t (cells.drop off) with
      | none => simp [hl] at h
      | some z =>
        simp only [hl, Option.map_some, Option.some.injEq, Prod.mk.injEq] at h
        obtain ⟨rfl, rfl, rfl, rfl, rfl⟩ := h
        exact ⟨rfl, .gone, rfl, rfl⟩
  · rename_i t x y hop _ _
    split at hs <;> first | (cases hs; done) | skip
    rename_i id' off he
    cases hs
    rw [evalOp_store hop he] at h ⊢
    rw [hK]
    split at h
    · split at h
      · rename_i hc
        cases h
        refine ⟨rfl, _, rfl, ?_⟩
        simp only [if_pos hc, if_true]
      · cases h
    · cases h

theorem reval_pass {d : Option Tmp} {k : Kind} {out : AOut} {orc : List Orc} {ps : List Prop} (nhp : ∀ d y K orc2, orc ≠ .hp d y K :: orc2) (nfz : ∀ d z orc2, orc ≠ .fz d z :: orc2) :
    ∃ out' orc' ps', ∀ Hx, reval d (some (k, out, Hx, orc, ps)) = some (k, out', Hx, orc', ps') := by
  cases out with
  | pan x => exact ⟨.pan x, orc, ps, fun _ => by cases k <;> rfl⟩
  | ret x =>
    cases orc with
    | nil => exact ⟨.ret x, [], ps, fun _ => by cases k <;> rfl⟩
    | cons q t =>
      cases q with
      | val d' y =>
        by_cases hd : d' = d
        · exact ⟨.ret y, t, Sub x y :: ps, fun Hx => by cases k <;> simp only [reval, if_pos hd]⟩
        · exact ⟨.ret x, .val d' y :: t, ps, fun Hx => by cases k <;> simp only [reval, if_neg hd]⟩
      | hp d' y K => exact absurd rfl (nhp _ _ _ _)
      | fz d' z => exact absurd rfl (nfz _ _ _)
      | br b => exact ⟨.ret x, _, ps, fun _ => by cases k <;> rfl⟩
      | elem y => exact ⟨.ret x, _, ps, fun _ => by cases k <;> rfl⟩
      | emp => exact ⟨.ret x, _, ps, fun _ => by cases k <;> rfl⟩
      | own => exact ⟨.ret x, _, ps, fun _ => by cases k <;> rfl⟩
      | frz z => exact ⟨.ret x, _, ps, fun _ => by cases k <;> rfl⟩
      | call e o2 hs => exact ⟨.ret x, _, ps, fun _ => by cases k <;> rfl⟩
      | pure zs o2 => exact ⟨.ret x, _, ps, fun _ => by cases k <;> rfl⟩
      | loop a1 a2 a3 a4 a5 => exact ⟨.ret x, _, ps, fun _ => by cases k <;> rfl⟩
      | range a1 a2 a3 a4 a5 a6 => exact ⟨.ret x, _, ps, fun _ => by cases k <;> rfl⟩

theorem stepA_local {gs : Bool} {H K : List AObj} {orc orc' : List Orc} {k : Kind} {out : AOut} {H' : List AObj} {ps : List Prop} {id : Nat} (h : stepA P G ops gs env H o orc = some (k, out, H', orc', ps)) (hs : spot (evA G env) o orc = some id) (hK : K[id]? = H[id]?) :
    ∃ ob, H' = (if k = .eff then H.set id ob else H) ∧ stepA P G ops gs env K o orc = some (k, out, (if k = .eff then K.set id ob else K), orc', ps) := by
  have nhp : ∀ d y K orc2, orc ≠ .hp d y K :: orc2 := fun d y K orc2 e => by rw [e] at hs; simp [spot] at hs
  have nfz : ∀ d z orc2, orc ≠ .fz d z :: orc2 := fun d z orc2 e => by rw [e] at hs; simp [spot] at hs
  have key : ∀ {k out H' orc' ps}, reval o.dst (evalOp P G H (evA G env) o orc) = some (k, out, H', orc', ps) → ∃ ob, H' = (if k = .eff then H.set id ob else H) ∧ reval o.dst (evalOp P G K (evA G env) o orc) = some (k, out, (if k = .eff then K.set id ob else K), orc', ps) := by
    intro k out H' orc' ps hr
    cases he : evalOp P G H (evA G env) o orc with
    | none => rw [he] at hr; simp [reval] at hr
    | some q =>
      obtain ⟨k1, out1, H1, orc1, ps1⟩ := q
      obtain ⟨rfl, ob, h1, h2⟩ := evalOp_local he hs hK
      obtain ⟨o2, orc2, ps2, hp⟩ := reval_pass (d := o.dst) (k := k1) (out := out1) (ps := ps1) nhp nfz
      rw [he, hp] at hr
      cases hr
      exact ⟨ob, h1, by rw [h2, hp]⟩
  unfold stepA at h ⊢
  split at h
  · split at h
    · rename_i k1 out1 H1 orc1 qs hev
      obtain ⟨ob, h1, h2⟩ := key hev
      rw [h2]
      split at h
      · rename_i hg
        split at h
        · cases h
          exact ⟨ob, h1, by simp only [hg, if_true]⟩
        · cases h
      · rename_i hg
        cases h
        exact ⟨ob, h1, by simp only [if_neg hg]⟩
    · cases h
  · cases h
    exact ⟨.gone, rfl, rfl⟩
  · cases h
end
end Go.Am
