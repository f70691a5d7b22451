/- THE ABSTRACT MACHINE, 24: a function that is deferred and recovers. -/
import Derived.Test.YtbmimjjhifjofaaAm23
import Derived.RecoverIn
namespace Go.Am
open Go

/-- How the frame below stands. -/
inductive AMd where
  | ret
  | pan (x : AV)
  | recd
def MdRep (V : View) : AMd → FrameMode → Prop
  | .ret, u => u = .returning
  | .pan x, u => ∃ v, u = .panicking [{ v := v, recovered := false }] ∧ Rep V x v
  | .recd, u => ∃ v, u = .panicking [{ v := v, recovered := true }]
theorem MdRep.step {V V' : View} (hs : Step V V') {m : AMd} {u : FrameMode} (h : MdRep V m u) : MdRep V' m u := by
  cases m with
  | ret => exact h
  | pan x => obtain ⟨v, h1, h2⟩ := h; exact ⟨v, h1, h2.step hs⟩
  | recd => exact h
def AMd.of : AOut → AMd
  | .ret _ => .ret
  | .pan x => .pan x
def AMd.out : AMd → AOut
  | .ret | .recd => .ret .dead
  | .pan x => .pan x

def AMd.free : AMd → Bool
  | .pan x => x.slFree
  | _ => true
theorem MdRep.free {V V' : View} {m : AMd} {u : FrameMode} (h : MdRep V m u) (hf : m.free = true) : MdRep V' m u := by
  cases m with
  | ret => exact h
  | pan x => obtain ⟨v, h1, h2⟩ := h; exact ⟨v, h1, rep_slFree h2 hf⟩
  | recd => exact h

def isRecover : Op → Bool
  | .call { callee := .builtin .recover, args := _, argTypes := _ } => true
  | _ => false
def runOpsS (P : Program) (G : Nat → Option (List AV)) : List Oper → List AV → AMd → List Orc → Option (List AV × AMd × List Orc × List Prop)
  | [], env, m, orc => some (env, m, orc, [])
  | o :: os, env, m, orc => if o.guard.isNone = true then
      (if isRecover o.op = true then (match m with
        | .pan x => runOpsS P G os (putA env o.dst x) .recd orc
        | .ret => runOpsS P G os (putA env o.dst (.lit .nilIface)) .ret orc
        | .recd => runOpsS P G os (putA env o.dst (.lit .nilIface)) .recd orc)
      else match evalFree P (evA G env) o orc with
        | some (x, orc', ps) => match runOpsS P G os (putA env o.dst x) m orc' with
          | some (env', m', orc'', qs) => some (env', m', orc'', ps ++ qs)
          | none => none
        | none => none) else none
def runS (P : Program) (G : Nat → Option (List AV)) (n0 : Nat) : Code → St → AMd → List Orc → Option (AEx × St × AMd × List Orc × List Prop)
  | .seq x y, s, m, orc => match runS P G n0 x s m orc with
    | some (.normal, s1, m1, orc1, ps) => match runS P G n0 y s1 m1 orc1 with
      | some (ex, s2, m2, orc2, qs) => some (ex, s2, m2, orc2, ps ++ qs)
      | none => none
    | some (ex, s1, m1, orc1, ps) => some (ex, s1, m1, orc1, ps)
    | none => none
  | .cond c x y, s, m, orc => match evA G s.env c, orc with
    | .lit (.bool e), .br true :: orc' => match runS P G n0 x s m orc' with
      | some (ex, s1, m1, orc1, ps) => some (ex, s1, m1, orc1, (e = true) :: ps)
      | none => none
    | .lit (.bool e), .br false :: orc' => match runS P G n0 y s m orc' with
      | some (ex, s1, m1, orc1, ps) => some (ex, s1, m1, orc1, (e = false) :: ps)
      | none => none
    | _, _ => none
  | .region id ops d, s, m, orc => if d = false ∧ (ops.toList.any fun o => isRecover o.op) = true then
      (match runOpsS P G ops.toList s.env m orc with
      | some (env, m', orc', ps) => some (.normal, { s with env := env }, m', orc', ps)
      | none => none) else if m.free = true then (match runC P G none n0 (.region id ops d) s orc with
      | some (ex, s', orc', ps) => some (ex, s', m, orc', ps)
      | none => none) else none
  | c, s, m, orc => if m.free = true then (match runC P G none n0 c s orc with
    | some (ex, s', orc', ps) => some (ex, s', m, orc', ps)
    | none => none) else none

section
variable {P : Program} {G : Nat → Option (List AV)} {n0 : Nat}
def EndsS (G : Nat → Option (List AV)) (V0 : View) (c0 : Frame) (cs : List Frame) (ex : AEx) (s' : St) (m' : AMd) (e : Exit) (a' : Act) (fs : List Frame) (w' : World) : Prop :=
  ∃ V' : View, V'.w = w' ∧ Step V0 V' ∧ HeapRep G V' ∧ StOk V' s' a' ∧ ExRep V' ex e ∧ ∃ u', fs = { c0 with mode := u' } :: cs ∧ MdRep V' m' u'

theorem recover_run (ρ : Operand → Value) (o : Oper) (h : isRecover o.op = true) (w : World) : (execOp ρ o).run P w = .ok .recover w := by
  unfold isRecover at h
  split at h
  · rename_i hop
    rw [execOp, hop]
    rfl
  · cases h

theorem runOpsS_sound {V0 : View} {c0 : Frame} {cs : List Frame} {defs : List ADef} {H : List AObj} {ops : Array Oper} : ∀ {os : List Oper} {i : Nat} {env env' : List AV} {m m' : AMd} {orc orc' : List Orc} {ps : List Prop}, runOpsS P G os env m orc = some (env', m', orc', ps) → AllP ps → ops.toList.drop i = os →
    ∀ {V : View} {a : Act} {u : FrameMode}, Step V0 V → HeapRep G V → StOk V { env := env, H := H, defs := defs } a → MdRep V m u →
    wpOpsSIn Fence.wide 0 P ops (EndsS G V0 c0 cs .normal { env := env', H := H, defs := defs } m') ((List.range ops.size).drop i) a ({ c0 with mode := u } :: cs) V.w
  | [], i, env, env', m, m', orc, orc', ps, h, _, hos, V, a, u, hs, hG, hok, hm => by
    simp only [runOpsS, Option.some.injEq, Prod.mk.injEq] at h
    obtain ⟨rfl, rfl, _, _⟩ := h
    have hle : ops.size ≤ i := by simpa using hos
    rw [List.drop_eq_nil_of_le (by simpa using hle)]
    exact ⟨V, rfl, hs, hG, hok, trivial, u, rfl, hm⟩
  | o :: os, i, env, env', m, m', orc, orc', ps, h, hps, hos, V, a, u, hs, hG, hok, hm => by
    have hlt : i < ops.size := by
      rcases Nat.lt_or_ge i ops.size with h | h
      · exact h
      · rw [List.drop_eq_nil_of_le (by simpa using h)] at hos; cases hos
    have hlt' : i < ops.toList.length := by simpa using hlt
    rw [List.drop_eq_getElem_cons hlt'] at hos
    injection hos with ho hos'
    have ho' : ops[i]? = some o := by rw [← ho]; simp [hlt]
    have hr : (List.range ops.size).drop i = i :: (List.range ops.size).drop (i + 1) := by
      rw [List.drop_eq_getElem_cons (by simpa using hlt)]; simp
    rw [hr]
    unfold wpOpsSIn
    rw [ho']
    simp only
    unfold runOpsS at h
    split at h <;> first | (cases h; done) | skip
    rename_i hg
    have hw : Region.wanted o (yielded ops a.tmps) = true := by
      unfold Region.wanted
      cases hgd : o.guard with
      | none => rfl
      | some q => rw [hgd] at hg; cases hg
    refine ⟨fun _ _ => trivial, ?_⟩
    rw [if_pos hw]
    have put : ∀ {x : AV} {v : Value}, Rep V x v → StOk V { env := putA env o.dst x, H := H, defs := defs } (a.put o.dst v) := fun hx => ⟨hok.env.put _ hx, hok.H, by rw [put_def]; exact hok.defs⟩
    split at h
    · rename_i hrec
      rw [recover_run _ o hrec]
      simp only
      cases m with
      | pan x =>
        obtain ⟨v, rfl, hv⟩ := hm
        simp only at h
        show wpOpsSIn _ _ _ _ _ _ _ _ _
        exact runOpsS_sound h hps hos' hs hG (put hv) (u := .panicking [{ v := v, recovered := true }]) ⟨v, rfl⟩
      | ret =>
        rw [show u = .returning from hm]
        simp only at h
        exact runOpsS_sound h hps hos' hs hG (put (.pure _ _ (.lit _))) (u := .returning) rfl
      | recd =>
        obtain ⟨v, rfl⟩ := hm
        simp only at h
        exact runOpsS_sound h hps hos' hs hG (put (.pure _ _ (.lit _))) (u := .panicking [{ v := v, recovered := true }]) ⟨v, rfl⟩
    · split at h <;> first | (cases h; done) | skip
      rename_i x orc1 qs hev
      split at h <;> first | (cases h; done) | skip
      rename_i env1 m1 orc2 rs hrest
      cases h
      obtain ⟨hq, hr2⟩ := allP_append.1 hps
      obtain ⟨v, k1, k2⟩ := free_sound (V := V) (ρ := a.eval) hev hq fun y _ => evA_sound hG fun t _ => hok.env.get t
      rw [k1]
      exact runOpsS_sound hrest hr2 hos' hs hG (put k2) hm

theorem Code.wpSIn_mono {F : Fence} {n : Nat} {c : Code} {Q Q' : Exit → Act → List Frame → World → Prop} {a : Act} {cs : List Frame} {w : World} (h : c.wpSIn F n P Q a cs w) (hq : ∀ e a cs w, Q e a cs w → Q' e a cs w) : c.wpSIn F n P Q' a cs w :=
  fun b k h1 h2 h3 h4 => let ⟨e, a', cs', w', l, q, r⟩ := h b k h1 h2 h3 h4; ⟨e, a', cs', w', l, hq _ _ _ _ q, r⟩

theorem viaC {V0 : View} {c0 : Frame} {cs : List Frame} {c : Code} {s s' : St} {m : AMd} {orc orc' : List Orc} {ex : AEx} {ps : List Prop} (hf : m.free = true) (h : runC P G none n0 c s orc = some (ex, s', orc', ps)) (hps : AllP ps)
    {V : View} {a : Act} {u : FrameMode} (h0 : V0.H.length = n0) (hs : Step V0 V) (hG : HeapRep G V) (hok : StOk V s a) (hm : MdRep V m u) : c.wpSIn Fence.wide 0 P (EndsS G V0 c0 cs ex s' m) a ({ c0 with mode := u } :: cs) V.w := by
  refine wpSIn_of_wpIn rfl (Go.wpIn_mono (runC_sound (r := none) c h hps V0 V a h0 hs hG hok) fun e a' w' hE => ?_)
  obtain ⟨V1, rfl, k1, k2, k3, k4⟩ := hE
  exact ⟨V1, rfl, k1, k2, k3, k4, u, rfl, hm.free hf⟩

theorem runS_sound {V0 : View} {c0 : Frame} {cs : List Frame} (h0 : V0.H.length = n0) : ∀ (c : Code) {s s' : St} {m m' : AMd} {orc orc' : List Orc} {ex : AEx} {ps : List Prop}, runS P G n0 c s m orc = some (ex, s', m', orc', ps) → AllP ps →
    ∀ {V : View} {a : Act} {u : FrameMode}, Step V0 V → HeapRep G V → StOk V s a → MdRep V m u → c.wpSIn Fence.wide 0 P (EndsS G V0 c0 cs ex s' m') a ({ c0 with mode := u } :: cs) V.w := by
  have dflt : ∀ {c : Code} {s s' : St} {m m' : AMd} {orc orc' : List Orc} {ex : AEx} {ps : List Prop}, (if m.free = true then (match runC P G none n0 c s orc with
      | some (ex, s', orc', ps) => some (ex, s', m, orc', ps)
      | none => none) else none) = some (ex, s', m', orc', ps) → AllP ps →
      ∀ {V : View} {a : Act} {u : FrameMode}, Step V0 V → HeapRep G V → StOk V s a → MdRep V m u → c.wpSIn Fence.wide 0 P (EndsS G V0 c0 cs ex s' m') a ({ c0 with mode := u } :: cs) V.w := by
    intro c s s' m m' orc orc' ex ps h hps V a u hs hG hok hm
    split at h <;> first | (cases h; done) | skip
    rename_i hf
    split at h <;> first | (cases h; done) | skip
    rename_i hrun
    cases h
    exact viaC hf hrun hps h0 hs hG hok hm
  intro c
  induction c with
  | seq x y ihx ihy =>
    intro s s' m m' orc orc' ex ps h hps V a u hs hG hok hm
    simp only [runS] at h
    split at h
    · rename_i s1 m1 orc1 qs h1
      split at h
      · rename_i ex2 s2 m2 orc2 rs h2
        cases h
        obtain ⟨hq, hr⟩ := allP_append.1 hps
        refine wpSIn_seq (Code.wpSIn_mono (ihx h1 hq hs hG hok hm) fun e a1 fs w1 hE => ?_)
        obtain ⟨V1, rfl, k1, k2, k3, k4, u1, rfl, k5⟩ := hE
        cases e <;> first | exact k4.elim | skip
        exact ihy h2 hr k1 k2 k3 k5
      · cases h
    · rename_i ex1 s1 m1 orc1 qs hex h1
      cases h
      refine wpSIn_seq (Code.wpSIn_mono (ihx h1 hps hs hG hok hm) fun e a1 fs w1 hE => ?_)
      have hE' := hE
      obtain ⟨V1, rfl, k1, k2, k3, k4, u1, rfl, k5⟩ := hE'
      cases e <;> first | exact hE | (cases ex <;> first | exact k4.elim | exact (hex rfl).elim)
    · cases h
  | cond c x y ihx ihy =>
    intro s s' m m' orc orc' ex ps h hps V a u hs hG hok hm
    simp only [runS] at h
    split at h
    · rename_i e orc1 hc
      split at h
      · rename_i ex1 s1 m1 orc2 qs h1
        cases h
        obtain ⟨he, hq⟩ := hps
        subst he
        have hv := evA_sound (a := a) (env := s.env) (y := c) hG fun t _ => hok.env.get t
        rw [hc] at hv
        exact wpSIn_cond (t := true) (rep_lit hv) (ihx h1 hq hs hG hok hm)
      · cases h
    · rename_i e orc1 hc
      split at h
      · rename_i ex1 s1 m1 orc2 qs h1
        cases h
        obtain ⟨he, hq⟩ := hps
        subst he
        have hv := evA_sound (a := a) (env := s.env) (y := c) hG fun t _ => hok.env.get t
        rw [hc] at hv
        exact wpSIn_cond (t := false) (rep_lit hv) (ihy h1 hq hs hG hok hm)
      · cases h
    · cases h
  | region id ops d =>
    intro s s' m m' orc orc' ex ps h hps V a u hs hG hok hm
    simp only [runS] at h
    split at h
    · rename_i hd
      obtain ⟨rfl, _⟩ := hd
      split at h
      · rename_i env m1 orc1 qs hrun
        cases h
        refine wpSIn_region ?_
        have := runOpsS_sound (P := P) (G := G) (V0 := V0) (c0 := c0) (cs := cs) (defs := s.defs) (H := s.H) (ops := ops) (i := 0) hrun hps rfl hs hG hok hm
        simpa using this
      · cases h
    · exact dflt h hps hs hG hok hm
  | _ =>
    intro s s' m m' orc orc' ex ps h hps V a u hs hG hok hm
    simp only [runS] at h
    exact dflt (orc := orc) h hps hs hG hok hm

/-- A deferred function, run. -/
def runDef (P : Program) (G : Nat → Option (List AV)) (f : FuncId) (args : List AV) (H : List AObj) (m : AOut) (orc : List Orc) : Option (List AObj × AOut × List Prop) :=
  match P.funcs[f]? with
  | some fn => match fn.body with
    | some c => match runS P G H.length c { env := args ++ List.replicate (fn.ntmps - args.length) (.lit undef), H := H } (AMd.of m) orc with
      | some (ex, s, m', _, ps) => match ex, s.defs, resA P s.env s.H fn.results.toList, cutF H.length (.lit undef) s.H with
        | .normal, [], some _, some (H', qs) => if m'.free = true then some (H', m'.out, ps ++ qs) else none
        | .ret, [], some _, some (H', qs) => if m'.free = true then some (H', m'.out, ps ++ qs) else none
        | _, _, _, _ => none
      | none => none
    | none => none
  | none => none

theorem MdRep.of {V : View} {m : AOut} {u : FrameMode} (h : ModeRep V m u) : MdRep V (AMd.of m) u := by cases m <;> exact h
theorem MdRep.out {V : View} {m : AMd} {u : FrameMode} (h : MdRep V m u) : ModeRep V m.out (settle u) := by
  cases m with
  | ret => rw [show u = .returning from h]; rfl
  | pan x => obtain ⟨v, rfl, hv⟩ := h; exact ⟨v, rfl, hv⟩
  | recd => obtain ⟨v, rfl⟩ := h; rfl

theorem defC_of_run {f : FuncId} {args : List AV} {H : List AObj} {m m' : AOut} {H' : List AObj} {ps : List Prop} (orc : List Orc) (h : runDef P G f args H m orc = some (H', m', ps)) (hps : AllP ps) : DefC P G f args H m H' m' := by
  unfold runDef at h
  split at h <;> first | (cases h; done) | skip
  rename_i fn hfn
  split at h <;> first | (cases h; done) | skip
  rename_i c hb
  split at h <;> first | (cases h; done) | skip
  rename_i ex s m1 orc1 qs hrun
  intro V vs u hH hG hargs hm
  subst hH
  refine callsDIn_of_wpSIn hfn hb trivial fun c0 cs hc0 => ?_
  have e0 : c0 = { c0 with mode := u } := by subst hc0; rfl
  have henv : EnvOk V (args ++ List.replicate (fn.ntmps - args.length) (.lit undef)) { tmps := vs.toArray ++ Array.replicate (fn.ntmps - vs.toArray.size) undef, defers := [] } := by
    have : EnvOk V (args ++ List.replicate (fn.ntmps - args.length) (.lit undef)) { tmps := (vs ++ List.replicate (fn.ntmps - args.length) undef).toArray, defers := [] } := by
      refine Reps.append hargs ?_
      have := Reps.lits (V := V) (List.replicate (fn.ntmps - args.length) undef)
      simpa using this
    have e : (vs ++ List.replicate (fn.ntmps - args.length) undef).toArray = vs.toArray ++ Array.replicate (fn.ntmps - vs.toArray.size) undef := by
      apply Array.ext'
      simp [hargs.1]
    rw [e] at this
    exact this
  have key : ∀ {xs : List AV} {H1 : List AObj} {rs : List Prop}, s.defs = [] → resA P s.env s.H fn.results.toList = some xs → cutF V.H.length (.lit undef) s.H = some (H1, rs) → AllP qs → AllP rs → m1.free = true → (ex = .normal ∨ ex = .ret) → H1 = H' → m1.out = m' →
      c.wpSIn Fence.wide 0 P (bodyPostS P fn c0 cs fun e u' w' => (∃ r, e = .returned r) ∧ ∃ V' : View, V'.w = w' ∧ Step V V' ∧ HeapRep G V' ∧ V'.H = H' ∧ ModeRep V' m' (settle u')) { tmps := vs.toArray ++ Array.replicate (fn.ntmps - vs.toArray.size) undef, defers := [] } (c0 :: cs) V.w := by
    intro xs H1 rs hd hres hcut hq hr hfree hex e1 e2
    have := runS_sound (P := P) (G := G) (V0 := V) (c0 := c0) (cs := cs) (n0 := V.H.length) rfl c hrun hq (V := V) (a := { tmps := vs.toArray ++ Array.replicate (fn.ntmps - vs.toArray.size) undef, defers := [] }) (u := u) (Step.refl V) hG ⟨henv, rfl, .nil⟩ (MdRep.of hm)
    rw [← e0] at this
    refine Code.wpSIn_mono this fun e a1 fs w1 hE => ?_
    obtain ⟨V1, rfl, k1, k2, k3, k4, u1, rfl, k5⟩ := hE
    have hdef : a1.defers = [] := by
      have := k3.defs
      rw [hd] at this
      generalize a1.defers = l at this
      cases this
      rfl
    obtain ⟨us, m1', m2⟩ := resA_sound (a := a1) k2 k3.env (by rw [k3.H]; exact hres)
    obtain ⟨V3, n1, n2, n3, n4, _⟩ := cutF_sound (V0 := V) (V := V1) (x := .lit undef) (by rw [k3.H]; exact hcut) hr rfl k1 k2 (.pure _ _ (.lit _))
    have hres' : ∃ v, (results fn a1.tmps).run P V1.w = .ok v V1.w := by
      refine ⟨if h : us.toArray.size = 1 then us.toArray[0] else .tuple us.toArray, ?_⟩
      unfold results
      rw [Array.mapM_eq_mapM_toList]
      simp only [Sem.run_bind, Sem.run_map, Result.andThen, Sem.run_pure]
      generalize hz : Sem.run P (List.mapM _ fn.results.toList) V1.w = z
      have hz2 : z = Result.ok us V1.w := hz.symm.trans m1'
      subst hz2
      rfl
    obtain ⟨v, hv⟩ := hres'
    have fin : (∃ r, Ending.returned v = .returned r) ∧ ∃ V' : View, V'.w = V1.w ∧ Step V V' ∧ HeapRep G V' ∧ V'.H = H' ∧ ModeRep V' m' (settle u1) := ⟨⟨v, rfl⟩, V3, n1, n2, n3, n4.trans e1, e2 ▸ (k5.free hfree).out⟩
    rcases hex with rfl | rfl
    · cases e <;> first | exact k4.elim | skip
      exact ⟨hdef, u1, rfl, v, hv, fin⟩
    · cases e <;> first | exact k4.elim | skip
      exact ⟨hdef, u1, rfl, v, hv, fin⟩
  split at h <;> first | (cases h; done) | skip
  · rename_i _ _ _ _ xs H1 rs hd hres hcut
    split at h <;> first | (cases h; done) | skip
    rename_i hfree
    cases h
    obtain ⟨hq, hr⟩ := allP_append.1 hps
    exact key (by assumption) hres hcut hq hr hfree (.inl rfl) rfl rfl
  · rename_i _ _ _ _ xs H1 rs hd hres hcut
    split at h <;> first | (cases h; done) | skip
    rename_i hfree
    cases h
    obtain ⟨hq, hr⟩ := allP_append.1 hps
    exact key (by assumption) hres hcut hq hr hfree (.inr rfl) rfl rfl
end
end Go.Am
