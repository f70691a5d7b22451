import Derived.Test.YtkckmpmlbmdalaaDoorQ7
import Derived.RecoverIn
import Derived.Deep.Slices
/- THE ABSTRACT MACHINE, 24: a function that is deferred and recovers. -/
namespace Go.Am
set_option maxRecDepth 100000
open Go

/-- How the frame below stands. -/
inductive AMd where
  | ret
  | pan (x : AV)
  | recd
def MdRep (V : View) : AMd → FrameMode → Prop
  | .ret, u => u = .returning
  | .pan x, u => ∃ v, u = .panicking [{ v := v, recovered := false }] ∧ Rep V x v
  | .recd, u => ∃ v, u = .panicking [{ v := v, recovered := true }]
theorem MdRep.step {V V' : View} (hs : Step V V') {m : AMd} {u : FrameMode} (h : MdRep V m u) : MdRep V' m u := by
  cases m with
  | ret => exact h
  | pan x => obtain ⟨v, h1, h2⟩ := h; exact ⟨v, h1, h2.step hs⟩
  | recd => exact h
def AMd.of : AOut → AMd
  | .ret _ => .ret
  | .pan x => .pan x
def AMd.out : AMd → AOut
  | .ret | .recd => .ret .dead
  | .pan x => .pan x

def AMd.free : AMd → Bool
  | .pan x => x.slFree
  | _ => true
theorem MdRep.free {V V' : View} {m : AMd} {u : FrameMode} (h : MdRep V m u) (hf : m.free = true) : MdRep V' m u := by
  cases m with
  | ret => exact h
  | pan x => obtain ⟨v, h1, h2⟩ := h; exact ⟨v, h1, rep_slFree h2 hf⟩
  | recd => exact h

def isRecover : Op → Bool
  | .call { callee := .builtin .recover, args := _, argTypes := _ } => true
  | _ => false
def runOpsS (P : Program) (G : Nat → Option (List AV)) : List Oper → List AV → AMd → List Orc → Option (List AV × AMd × List Orc × List Prop)
  | [], env, m, orc => some (env, m, orc, [])
  | o :: os, env, m, orc => if o.guard.isNone = true then
      (if isRecover o.op = true then (match m with
        | .pan x => runOpsS P G os (putA env o.dst x) .recd orc
        | .ret => runOpsS P G os (putA env o.dst (.lit .nilIface)) .ret orc
        | .recd => runOpsS P G os (putA env o.dst (.lit .nilIface)) .recd orc)
      else match evalFree P (evA G env) o orc with
        | some (x, orc', ps) => match runOpsS P G os (putA env o.dst x) m orc' with
          | some (env', m', orc'', qs) => some (env', m', orc'', ps ++ qs)
          | none => none
        | none => none) else none
def runS (P : Program) (G : Nat → Option (List AV)) (n0 : Nat) : Code → St → AMd → List Orc → Option (AEx × St × AMd × List Orc × List Prop)
  | .seq x y, s, m, orc => match runS P G n0 x s m orc with
    | some (.normal, s1, m1, orc1, ps) => match runS P G n0 y s1 m1 orc1 with
      | some (ex, s2, m2, orc2, qs) => some (ex, s2, m2, orc2, ps ++ qs)
      | none => none
    | some (ex, s1, m1, orc1, ps) => some (ex, s1, m1, orc1, ps)
    | none => none
  | .cond c x y, s, m, orc => match evA G s.env c, orc with
    | .lit (.bool e), .br true :: orc' => match runS P G n0 x s m orc' with
      | some (ex, s1, m1, orc1, ps) => some (ex, s1, m1, orc1, (e = true) :: ps)
      | none => none
    | .lit (.bool e), .br false :: orc' => match runS P G n0 y s m orc' with
      | some (ex, s1, m1, orc1, ps) => some (ex, s1, m1, orc1, (e = false) :: ps)
      | none => none
    | _, _ => none
  | .region id ops d, s, m, orc => if d = false ∧ (ops.toList.any fun o => isRecover o.op) = true then
      (match runOpsS P G ops.toList s.env m orc with
      | some (env, m', orc', ps) => some (.normal, { s with env := env }, m', orc', ps)
      | none => none) else if m.free = true then (match runC P G none n0 (.region id ops d) s orc with
      | some (ex, s', orc', ps) => some (ex, s', m, orc', ps)
      | none => none) else none
  | c, s, m, orc => if m.free = true then (match runC P G none n0 c s orc with
    | some (ex, s', orc', ps) => some (ex, s', m, orc', ps)
    | none => none) else none

section
variable {P : Program} {G : Nat → Option (List AV)} {n0 : Nat}
def EndsS (G : Nat → Option (List AV)) (V0 : View) (c0 : Frame) (cs : List Frame) (ex : AEx) (s' : St) (m' : AMd) (e : Exit) (a' : Act) (fs : List Frame) (w' : World) : Prop :=
  ∃ V' : View, V'.w = w' ∧ Step V0 V' ∧ HeapRep G V' ∧ StOk V' s' a' ∧ ExRep V' ex e ∧ ∃ u', fs = { c0 with mode := u' } :: cs ∧ MdRep V' m' u'

theorem recover_run (ρ : Operand → Value) (o : Oper) (h : isRecover o.op = true) (w : World) : (execOp ρ o).run P w = .ok .recover w := by
  unfold isRecover at h
  split at h
  · rename_i hop
    rw [execOp, hop]
    rfl
  · cases h

theorem runOpsS_sound {V0 : View} {c0 : Frame} {cs : List Frame} {defs : List ADef} {H : List AObj} {ops : Array Oper} : ∀ {os : List Oper} {i : Nat} {env env' : List AV} {m m' : AMd} {orc orc' : List Orc} {ps : List Prop}, runOpsS P G os env m orc = some (env', m', orc', ps) → AllP ps → ops.toList.drop i = os →
    ∀ {V : View} {a : Act} {u : FrameMode}, Step V0 V → HeapRep G V → StOk V { env := env, H := H, defs := defs } a → MdRep V m u →
    wpOpsSIn Fence.wide 0 P ops (EndsS G V0 c0 cs .normal { env := env', H := H, defs := defs } m') ((List.range ops.size).drop i) a ({ c0 with mode := u } :: cs) V.w
  | [], i, env, env', m, m', orc, orc', ps, h, _, hos, V, a, u, hs, hG, hok, hm => by
    simp only [runOpsS, Option.some.injEq, Prod.mk.injEq] at h
    obtain ⟨rfl, rfl, _, _⟩ := h
    have hle : ops.size ≤ i := by simpa using hos
    rw [List.drop_eq_nil_of_le (by simpa using hle)]
    exact ⟨V, rfl, hs, hG, hok, trivial, u, rfl, hm⟩
  | o :: os, i, env, env', m, m', orc, orc', ps, h, hps, hos, V, a, u, hs, hG, hok, hm => by
    have hlt : i < ops.size := by
      rcases Nat.lt_or_ge i ops.size with h | h
      · exact h
      · rw [List.drop_eq_nil_of_le (by simpa using h)] at hos; cases hos
    have hlt' : i < ops.toList.length := by simpa using hlt
    rw [List.drop_eq_getElem_cons hlt'] at hos
    injection hos with ho hos'
    have ho' : ops[i]? = some o := by rw [← ho]; simp [hlt]
    have hr : (List.range ops.size).drop i = i :: (List.range ops.size).drop (i + 1) := by
      rw [List.drop_eq_getElem_cons (by simpa using hlt)]; simp
    rw [hr]
    unfold wpOpsSIn
    rw [ho']
    simp only
    unfold runOpsS at h
    split at h <;> first | (cases h; done) | skip
    rename_i hg
    have hw : Region.wanted o (yielded ops a.tmps) = true := by
      unfold Region.wanted
      cases hgd : o.guard with
      | none => rfl
      | some q => rw [hgd] at hg; cases hg
    refine ⟨fun _ _ => trivial, ?_⟩
    rw [if_pos hw]
    have put : ∀ {x : AV} {v : Value}, Rep V x v → StOk V { env := putA env o.dst x, H := H, defs := defs } (a.put o.dst v) := fun hx => ⟨hok.env.put _ hx, hok.H, by rw [put_def]; exact hok.defs⟩
    split at h
    · rename_i hrec
      rw [recover_run _ o hrec]
      simp only
      cases m with
      | pan x =>
        obtain ⟨v, rfl, hv⟩ := hm
        simp only at h
        show wpOpsSIn _ _ _ _ _ _ _ _ _
        exact runOpsS_sound h hps hos' hs hG (put hv) (u := .panicking [{ v := v, recovered := true }]) ⟨v, rfl⟩
      | ret =>
        rw [show u = .returning from hm]
        simp only at h
        exact runOpsS_sound h hps hos' hs hG (put (.pure _ _ (.lit _))) (u := .returning) rfl
      | recd =>
        obtain ⟨v, rfl⟩ := hm
        simp only at h
        exact runOpsS_sound h hps hos' hs hG (put (.pure _ _ (.lit _))) (u := .panicking [{ v := v, recovered := true }]) ⟨v, rfl⟩
    · split at h <;> first | (cases h; done) | skip
      rename_i x orc1 qs hev
      split at h <;> first | (cases h; done) | skip
      rename_i env1 m1 orc2 rs hrest
      cases h
      obtain ⟨hq, hr2⟩ := allP_append.1 hps
      obtain ⟨v, k1, k2⟩ := free_sound (V := V) (ρ := a.eval) hev hq fun y _ => evA_sound hG fun t _ => hok.env.get t
      rw [k1]
      exact runOpsS_sound hrest hr2 hos' hs hG (put k2) hm

theorem Code.wpSIn_mono {F : Fence} {n : Nat} {c : Code} {Q Q' : Exit → Act → List Frame → World → Prop} {a : Act} {cs : List Frame} {w : World} (h : c.wpSIn F n P Q a cs w) (hq : ∀ e a cs w, Q e a cs w → Q' e a cs w) : c.wpSIn F n P Q' a cs w :=
  fun b k h1 h2 h3 h4 => let ⟨e, a', cs', w', l, q, r⟩ := h b k h1 h2 h3 h4; ⟨e, a', cs', w', l, hq _ _ _ _ q, r⟩

theorem viaC {V0 : View} {c0 : Frame} {cs : List Frame} {c : Code} {s s' : St} {m : AMd} {orc orc' : List Orc} {ex : AEx} {ps : List Prop} (hf : m.free = true) (h : runC P G none n0 c s orc = some (ex, s', orc', ps)) (hps : AllP ps)
    {V : View} {a : Act} {u : FrameMode} (h0 : V0.H.length = n0) (hs : Step V0 V) (hG : HeapRep G V) (hok : StOk V s a) (hm : MdRep V m u) : c.wpSIn Fence.wide 0 P (EndsS G V0 c0 cs ex s' m) a ({ c0 with mode := u } :: cs) V.w := by
  refine wpSIn_of_wpIn rfl (Go.wpIn_mono (runC_sound (r := none) c h hps V0 V a h0 hs hG hok) fun e a' w' hE => ?_)
  obtain ⟨V1, rfl, k1, k2, k3, k4⟩ := hE
  exact ⟨V1, rfl, k1, k2, k3, k4, u, rfl, hm.free hf⟩

theorem runS_sound {V0 : View} {c0 : Frame} {cs : List Frame} (h0 : V0.H.length = n0) : ∀ (c : Code) {s s' : St} {m m' : AMd} {orc orc' : List Orc} {ex : AEx} {ps : List Prop}, runS P G n0 c s m orc = some (ex, s', m', orc', ps) → AllP ps →
    ∀ {V : View} {a : Act} {u : FrameMode}, Step V0 V → HeapRep G V → StOk V s a → MdRep V m u → c.wpSIn Fence.wide 0 P (EndsS G V0 c0 cs ex s' m') a ({ c0 with mode := u } :: cs) V.w := by
  have dflt : ∀ {c : Code} {s s' : St} {m m' : AMd} {orc orc' : List Orc} {ex : AEx} {ps : List Prop}, (if m.free = true then (match runC P G none n0 c s orc with
      | some (ex, s', orc', ps) => some (ex, s', m, orc', ps)
      | none => none) else none) = some (ex, s', m', orc', ps) → AllP ps →
      ∀ {V : View} {a : Act} {u : FrameMode}, Step V0 V → HeapRep G V → StOk V s a → MdRep V m u → c.wpSIn Fence.wide 0 P (EndsS G V0 c0 cs ex s' m') a ({ c0 with mode := u } :: cs) V.w := by
    intro c s s' m m' orc orc' ex ps h hps V a u hs hG hok hm
    split at h <;> first | (cases h; done) | skip
    rename_i hf
    split at h <;> first | (cases h; done) | skip
    rename_i hrun
    cases h
    exact viaC hf hrun hps h0 hs hG hok hm
  intro c
  induction c with
  | seq x y ihx ihy =>
    intro s s' m m' orc orc' ex ps h hps V a u hs hG hok hm
    simp only [runS] at h
    split at h
    · rename_i s1 m1 orc1 qs h1
      split at h
      · rename_i ex2 s2 m2 orc2 rs h2
        cases h
        obtain ⟨hq, hr⟩ := allP_append.1 hps
        refine wpSIn_seq (Code.wpSIn_mono (ihx h1 hq hs hG hok hm) fun e a1 fs w1 hE => ?_)
        obtain ⟨V1, rfl, k1, k2, k3, k4, u1, rfl, k5⟩ := hE
        cases e <;> first | exact k4.elim | skip
        exact ihy h2 hr k1 k2 k3 k5
      · cases h
    · rename_i ex1 s1 m1 orc1 qs hex h1
      cases h
      refine wpSIn_seq (Code.wpSIn_mono (ihx h1 hps hs hG hok hm) fun e a1 fs w1 hE => ?_)
      have hE' := hE
      obtain ⟨V1, rfl, k1, k2, k3, k4, u1, rfl, k5⟩ := hE'
      cases e <;> first | exact hE | (cases ex <;> first | exact k4.elim | exact (hex rfl).elim)
    · cases h
  | cond c x y ihx ihy =>
    intro s s' m m' orc orc' ex ps h hps V a u hs hG hok hm
    simp only [runS] at h
    split at h
    · rename_i e orc1 hc
      split at h
      · rename_i ex1 s1 m1 orc2 qs h1
        cases h
        obtain ⟨he, hq⟩ := hps
        subst he
        have hv := evA_sound (a := a) (env := s.env) (y := c) hG fun t _ => hok.env.get t
        rw [hc] at hv
        exact wpSIn_cond (t := true) (rep_lit hv) (ihx h1 hq hs hG hok hm)
      · cases h
    · rename_i e orc1 hc
      split at h
      · rename_i ex1 s1 m1 orc2 qs h1
        cases h
        obtain ⟨he, hq⟩ := hps
        subst he
        have hv := evA_sound (a := a) (env := s.env) (y := c) hG fun t _ => hok.env.get t
        rw [hc] at hv
        exact wpSIn_cond (t := false) (rep_lit hv) (ihy h1 hq hs hG hok hm)
      · cases h
    · cases h
  | region id ops d =>
    intro s s' m m' orc orc' ex ps h hps V a u hs hG hok hm
    simp only [runS] at h
    split at h
    · rename_i hd
      obtain ⟨rfl, _⟩ := hd
      split at h
      · rename_i env m1 orc1 qs hrun
        cases h
        refine wpSIn_region ?_
        have := runOpsS_sound (P := P) (G := G) (V0 := V0) (c0 := c0) (cs := cs) (defs := s.defs) (H := s.H) (ops := ops) (i := 0) hrun hps rfl hs hG hok hm
        simpa using this
      · cases h
    · exact dflt h hps hs hG hok hm
  | _ =>
    intro s s' m m' orc orc' ex ps h hps V a u hs hG hok hm
    simp only [runS] at h
    exact dflt (orc := orc) h hps hs hG hok hm

/-- A deferred function, run. -/
def runDef (P : Program) (G : Nat → Option (List AV)) (f : FuncId) (args : List AV) (H : List AObj) (m : AOut) (orc : List Orc) : Option (List AObj × AOut × List Prop) :=
  match P.funcs[f]? with
  | some fn => match fn.body with
    | some c => match runS P G H.length c { env := args ++ List.replicate (fn.ntmps - args.length) (.lit undef), H := H } (AMd.of m) orc with
      | some (ex, s, m', _, ps) => match ex, s.defs, resA P s.env s.H fn.results.toList, cutF H.length (.lit undef) s.H with
        | .normal, [], some _, some (H', qs) => if m'.free = true then some (H', m'.out, ps ++ qs) else none
        | .ret, [], some _, some (H', qs) => if m'.free = true then some (H', m'.out, ps ++ qs) else none
        | _, _, _, _ => none
      | none => none
    | none => none
  | none => none

theorem MdRep.of {V : View} {m : AOut} {u : FrameMode} (h : ModeRep V m u) : MdRep V (AMd.of m) u := by cases m <;> exact h
theorem MdRep.out {V : View} {m : AMd} {u : FrameMode} (h : MdRep V m u) : ModeRep V m.out (settle u) := by
  cases m with
  | ret => rw [show u = .returning from h]; rfl
  | pan x => obtain ⟨v, rfl, hv⟩ := h; exact ⟨v, rfl, hv⟩
  | recd => obtain ⟨v, rfl⟩ := h; rfl

theorem defC_of_run {f : FuncId} {args : List AV} {H : List AObj} {m m' : AOut} {H' : List AObj} {ps : List Prop} (orc : List Orc) (h : runDef P G f args H m orc = some (H', m', ps)) (hps : AllP ps) : DefC P G f args H m H' m' := by
  unfold runDef at h
  split at h <;> first | (cases h; done) | skip
  rename_i fn hfn
  split at h <;> first | (cases h; done) | skip
  rename_i c hb
  split at h <;> first | (cases h; done) | skip
  rename_i ex s m1 orc1 qs hrun
  intro V vs u hH hG hargs hm
  subst hH
  refine callsDIn_of_wpSIn hfn hb trivial fun c0 cs hc0 => ?_
  have e0 : c0 = { c0 with mode := u } := by subst hc0; rfl
  have henv : EnvOk V (args ++ List.replicate (fn.ntmps - args.length) (.lit undef)) { tmps := vs.toArray ++ Array.replicate (fn.ntmps - vs.toArray.size) undef, defers := [] } := by
    have : EnvOk V (args ++ List.replicate (fn.ntmps - args.length) (.lit undef)) { tmps := (vs ++ List.replicate (fn.ntmps - args.length) undef).toArray, defers := [] } := by
      refine Reps.append hargs ?_
      have := Reps.lits (V := V) (List.replicate (fn.ntmps - args.length) undef)
      simpa using this
    have e : (vs ++ List.replicate (fn.ntmps - args.length) undef).toArray = vs.toArray ++ Array.replicate (fn.ntmps - vs.toArray.size) undef := by
      apply Array.ext'
      simp [hargs.1]
    rw [e] at this
    exact this
  have key : ∀ {xs : List AV} {H1 : List AObj} {rs : List Prop}, s.defs = [] → resA P s.env s.H fn.results.toList = some xs → cutF V.H.length (.lit undef) s.H = some (H1, rs) → AllP qs → AllP rs → m1.free = true → (ex = .normal ∨ ex = .ret) → H1 = H' → m1.out = m' →
      c.wpSIn Fence.wide 0 P (bodyPostS P fn c0 cs fun e u' w' => (∃ r, e = .returned r) ∧ ∃ V' : View, V'.w = w' ∧ Step V V' ∧ HeapRep G V' ∧ V'.H = H' ∧ ModeRep V' m' (settle u')) { tmps := vs.toArray ++ Array.replicate (fn.ntmps - vs.toArray.size) undef, defers := [] } (c0 :: cs) V.w := by
    intro xs H1 rs hd hres hcut hq hr hfree hex e1 e2
    have := runS_sound (P := P) (G := G) (V0 := V) (c0 := c0) (cs := cs) (n0 := V.H.length) rfl c hrun hq (V := V) (a := { tmps := vs.toArray ++ Array.replicate (fn.ntmps - vs.toArray.size) undef, defers := [] }) (u := u) (Step.refl V) hG ⟨henv, rfl, .nil⟩ (MdRep.of hm)
    rw [← e0] at this
    refine Code.wpSIn_mono this fun e a1 fs w1 hE => ?_
    obtain ⟨V1, rfl, k1, k2, k3, k4, u1, rfl, k5⟩ := hE
    have hdef : a1.defers = [] := by
      have := k3.defs
      rw [hd] at this
      generalize a1.defers = l at this
      cases this
      rfl
    obtain ⟨us, m1', m2⟩ := resA_sound (a := a1) k2 k3.env (by rw [k3.H]; exact hres)
    obtain ⟨V3, n1, n2, n3, n4, _⟩ := cutF_sound (V0 := V) (V := V1) (x := .lit undef) (by rw [k3.H]; exact hcut) hr rfl k1 k2 (.pure _ _ (.lit _))
    have hres' : ∃ v, (results fn a1.tmps).run P V1.w = .ok v V1.w := by
      refine ⟨if h : us.toArray.size = 1 then us.toArray[0] else .tuple us.toArray, ?_⟩
      unfold results
      rw [Array.mapM_eq_mapM_toList]
      simp only [Sem.run_bind, Sem.run_map, Result.andThen, Sem.run_pure]
      generalize hz : Sem.run P (List.mapM _ fn.results.toList) V1.w = z
      have hz2 : z = Result.ok us V1.w := hz.symm.trans m1'
      subst hz2
      rfl
    obtain ⟨v, hv⟩ := hres'
    have fin : (∃ r, Ending.returned v = .returned r) ∧ ∃ V' : View, V'.w = V1.w ∧ Step V V' ∧ HeapRep G V' ∧ V'.H = H' ∧ ModeRep V' m' (settle u1) := ⟨⟨v, rfl⟩, V3, n1, n2, n3, n4.trans e1, e2 ▸ (k5.free hfree).out⟩
    rcases hex with rfl | rfl
    · cases e <;> first | exact k4.elim | skip
      exact ⟨hdef, u1, rfl, v, hv, fin⟩
    · cases e <;> first | exact k4.elim | skip
      exact ⟨hdef, u1, rfl, v, hv, fin⟩
  split at h <;> first | (cases h; done) | skip
  · rename_i _ _ _ _ xs H1 rs hd hres hcut
    split at h <;> first | (cases h; done) | skip
    rename_i hfree
    cases h
    obtain ⟨hq, hr⟩ := allP_append.1 hps
    exact key (by assumption) hres hcut hq hr hfree (.inl rfl) rfl rfl
  · rename_i _ _ _ _ xs H1 rs hd hres hcut
    split at h <;> first | (cases h; done) | skip
    rename_i hfree
    cases h
    obtain ⟨hq, hr⟩ := allP_append.1 hps
    exact key (by assumption) hres hcut hq hr hfree (.inr rfl) rfl rfl
end
end Go.Am

/- THE ABSTRACT MACHINE, 25: arguments as data where the type is recursive: readings of bounded fuel. -/
namespace Go.Am
set_option maxRecDepth 100000
open Go Go.ChangeShapes Go.WideShapes Go.RowKit

structure CodN (P : Program) (t : TypeId) (α : Type) (N : Nat) where
  enc : α → List AV
  good : α → Prop
  size : ∀ a, (enc a).length = P.cellsOf t
  rd : ∀ {H : Type} {e : TypeId × Value → H} {W : World} {base : Nat} {sp : Nat → Bool} {held : Bool} {n : Nat} {cs : List Value} {x : DataW H × List MemPlace}, n ≤ N → DataW.trod e P W base sp held n t cs = some x →
    ∃ a, good a ∧ cs.length = (enc a).length ∧ ∀ j, j < cs.length → PRep W (fun _ => False) ((enc a).getD j .dead) (cs.getD j undef) ∧ (cs.getD j undef).oneCell' = true

def CodN.int {P : Program} {t : TypeId} {N : Nat} (ht : P.underlying t = some (.int .i64)) (hc : P.cellsOf t = 1) : CodN P t Int N where
  enc n := [Am.int n]
  good n := -9223372036854775808 ≤ n ∧ n < 9223372036854775808
  size _ := hc.symm
  rd _ h := by
    obtain ⟨n, rfl, _, hw⟩ := DataW.trod_int ht h
    refine ⟨n, wf_i64 hw, rfl, fun j hj => ?_⟩
    match j, hj with
    | 0, _ => exact ⟨.lit _, rfl⟩
def CodN.bool {P : Program} {t : TypeId} {N : Nat} (ht : P.underlying t = some .bool) (hc : P.cellsOf t = 1) : CodN P t Bool N where
  enc b := [Am.bool b]
  good _ := True
  size _ := hc.symm
  rd _ h := by
    obtain ⟨b, rfl, _⟩ := DataW.trod_bool ht h
    refine ⟨b, trivial, rfl, fun j hj => ?_⟩
    match j, hj with
    | 0, _ => exact ⟨.lit _, rfl⟩
def CodN.str {P : Program} {t : TypeId} {N : Nat} (ht : P.underlying t = some .string) (hc : P.cellsOf t = 1) : CodN P t ByteArray N where
  enc s := [Am.str s]
  good s := s.size ≤ maxLen
  size _ := hc.symm
  rd _ h := by
    obtain ⟨s, rfl, _, hs⟩ := DataW.trod_string ht h
    refine ⟨s, hs, rfl, fun j hj => ?_⟩
    match j, hj with
    | 0, _ => exact ⟨.lit _, rfl⟩

/-- The fields of a struct, from a place on. -/
structure FCodN (P : Program) (o : Nat) (fs : List Field) (α : Type) (N : Nat) where
  enc : α → List AV
  good : α → Prop
  rd : ∀ {H : Type} {e : TypeId × Value → H} {W : World} {base : Nat} {sp : Nat → Bool} {held : Bool} {n : Nat} {cs : List Value}, n ≤ N → cs.length = o + (fs.map fun f => P.cellsOf f.type).sum →
    (∀ (i : Nat) (f : Field), fs[i]? = some f → ∃ y, DataW.trod e P W base sp held n f.type ((cs.drop f.offset).take (P.cellsOf f.type)) = some y) →
    ∃ a, good a ∧ cs.length = o + (enc a).length ∧ ∀ j, j < (enc a).length → PRep W (fun _ => False) ((enc a).getD j .dead) (cs.getD (o + j) undef) ∧ (cs.getD (o + j) undef).oneCell' = true
def FCodN.nil {P : Program} {o N : Nat} : FCodN P o [] Unit N where
  enc _ := []
  good _ := True
  rd _ h _ := ⟨(), trivial, by simpa using h, fun j hj => absurd hj (by simp)⟩
def FCodN.cons {P : Program} {o N : Nat} {f : Field} {fs : List Field} {α β : Type} (c : CodN P f.type α N) (ho : f.offset = o) (r : FCodN P (o + P.cellsOf f.type) fs β N) : FCodN P o (f :: fs) (α × β) N where
  enc a := c.enc a.1 ++ r.enc a.2
  good a := c.good a.1 ∧ r.good a.2
  rd {H e W base sp held n cs} hn hlen h := by
    obtain ⟨y, hy⟩ := h 0 f rfl
    obtain ⟨a, g1, l1, p1⟩ := c.rd hn hy
    obtain ⟨b, g2, l2, p2⟩ := r.rd (cs := cs) hn (by rw [hlen]; simp; omega) fun i f' hf => h (i + 1) f' hf
    have hsz := c.size a
    simp only [List.map_cons, List.sum_cons] at hlen
    refine ⟨(a, b), ⟨g1, g2⟩, ?_, fun j hj => ?_⟩
    · show cs.length = o + (c.enc a ++ r.enc b).length
      rw [List.length_append]; omega
    have hj : j < (c.enc a).length + (r.enc b).length := by
      have : j < (c.enc a ++ r.enc b).length := hj
      rwa [List.length_append] at this
    have hl1 : ((cs.drop f.offset).take (P.cellsOf f.type)).length = P.cellsOf f.type := by rw [l1, hsz]
    by_cases hlt : j < (c.enc a).length
    · have := p1 j (by rw [hl1, ← hsz]; exact hlt)
      have e1 : ((cs.drop f.offset).take (P.cellsOf f.type)).getD j undef = cs.getD (o + j) undef := by
        rw [hsz] at hlt
        simp [List.getD_eq_getElem?_getD, hlt, ho]
      have e2 : (c.enc a ++ r.enc b).getD j .dead = (c.enc a).getD j .dead := by simp [List.getD_eq_getElem?_getD, List.getElem?_append_left hlt]
      rw [e1] at this
      rw [e2]; exact this
    · have := p2 (j - (c.enc a).length) (by omega)
      have e1 : o + P.cellsOf f.type + (j - (c.enc a).length) = o + j := by rw [← hsz]; omega
      have e2 : (c.enc a ++ r.enc b).getD j .dead = (r.enc b).getD (j - (c.enc a).length) .dead := by simp [List.getD_eq_getElem?_getD, List.getElem?_append_right (show (c.enc a).length ≤ j by omega)]
      rw [e1] at this
      rw [e2]; exact this
def CodN.struct {P : Program} {t : TypeId} {N : Nat} {fs : Array Field} {α β : Type} (ht : P.underlying t = some (.struct fs)) (hc : P.cellsOf t = (fs.toList.map fun f => P.cellsOf f.type).sum) (c : FCodN P 0 fs.toList α N) (g : α → β) (enc : β → List AV) (hg : ∀ a, enc (g a) = c.enc a)
    (hsz : ∀ b, (enc b).length = P.cellsOf t) : CodN P t β (N + 1) where
  enc := enc
  good b := ∃ a, g a = b ∧ c.good a
  size := hsz
  rd {H e W base sp held n cs x} hn h := by
    obtain ⟨xs, m, hm, _, hl, hxl, hf⟩ := DataW.trod_struct ht h
    obtain ⟨a, g1, l1, p1⟩ := c.rd (e := e) (W := W) (base := base) (sp := sp) (held := held) (n := m) (cs := cs) (by omega) (by rw [hl, hc]; omega) fun i f hfi => by
      have hfi' : fs[i]? = some f := by simpa using hfi
      have hlt : i < xs.length := by rw [hxl]; exact (Array.getElem?_eq_some_iff.1 hfi').1
      exact ⟨xs[i], by rw [hf i f hfi', List.getElem?_eq_getElem hlt]⟩
    refine ⟨g a, ⟨a, rfl, g1⟩, by rw [hg]; omega, fun j hj => ?_⟩
    rw [hg]
    have := p1 j (by omega)
    rwa [Nat.zero_add] at this

/-- A slice of them. -/
def CodN.slice {P : Program} {t e : TypeId} {N : Nat} {α : Type} (ht : P.underlying t = some (.slice e)) (hc : P.cellsOf t = 1) (hpos : 0 < P.cellsOf e) (c : CodN P e α N) : CodN P t (List α) (N + 1) where
  enc l := [.sl (P.cellsOf e) false (l.map c.enc)]
  good l := l.length ≤ maxLen ∧ ∀ a ∈ l, c.good a
  size _ := hc.symm
  rd {H en W base sp held n cs x} hn h := by
    have nl : ∀ (A : Option Addr) (cap : Nat), PRep W (fun _ => False) (.sl (P.cellsOf e) false []) (.slice A 0 cap) := fun A cap =>
      .sl _ false [] A cap 0 0 (fun _ _ => undef) (fun h => absurd rfl h) (fun h => absurd rfl h) (Nat.zero_le _) (fun h => by cases h) (by simp) (fun k j hk => absurd hk (by simp)) (fun k j hk => absurd hk (by simp)) (fun k j hk => absurd hk (by simp))
    rcases DataW.trod_slice ht h with ⟨rfl, _⟩ | ⟨a, len, cap, elems, rest, n', hnn, rfl, rfl, _, hl, hmx, hlen0, hel, _, _⟩
    · exact ⟨[], ⟨Nat.zero_le _, by simp⟩, rfl, fun j hj => by match j, hj with | 0, _ => exact ⟨nl none 0, rfl⟩⟩
    · have each : ∀ i, i < len → ∃ q : α × List Value, W.cells? base (a.add (i * P.cellsOf e)) (P.cellsOf e) = some q.2 ∧ c.good q.1 ∧ q.2.length = (c.enc q.1).length ∧ ∀ j, j < q.2.length → PRep W (fun _ => False) ((c.enc q.1).getD j .dead) (q.2.getD j undef) ∧ (q.2.getD j undef).oneCell' = true := fun i hi => by
        have key := hel i hi
        rw [List.getElem?_eq_getElem (by omega)] at key
        obtain ⟨cs', h1, h2⟩ := Option.bind_eq_some_iff.1 key
        obtain ⟨y, g1, l1, p1⟩ := c.rd (by omega) h2
        exact ⟨(y, cs'), h1, g1, l1, p1⟩
      by_cases h0 : len = 0
      · subst h0
        exact ⟨[], ⟨Nat.zero_le _, by simp⟩, rfl, fun j hj => by match j, hj with | 0, _ => exact ⟨nl (some a) cap, rfl⟩⟩
      · have hsp : a.spot = none := by
          obtain ⟨q, h1, _⟩ := each 0 (by omega)
          obtain ⟨_, hl', hcell⟩ := World.cells?_some h1
          have := hcell 0 hpos
          rw [List.getElem?_eq_getElem (by omega)] at this
          simp only [Nat.zero_mul, Addr.add, if_true] at this
          cases hs : a.spot with
          | none => rfl
          | some s =>
            exfalso
            unfold World.cell? at this
            rw [hs] at this
            split at this <;> simp at this
        obtain ⟨b, o, rfl⟩ : ∃ b o, a = ⟨b, o, none⟩ := ⟨a.block, a.off, by cases a; simp only at hsp; subst hsp; rfl⟩
        have inh : Nonempty (α × List Value) := let ⟨q, _⟩ := each 0 (by omega); ⟨q⟩
        have ex : ∀ i, ∃ q : α × List Value, i < len → W.cells? base ((⟨b, o, none⟩ : Addr).add (i * P.cellsOf e)) (P.cellsOf e) = some q.2 ∧ c.good q.1 ∧ q.2.length = (c.enc q.1).length ∧ ∀ j, j < q.2.length → PRep W (fun _ => False) ((c.enc q.1).getD j .dead) (q.2.getD j undef) ∧ (q.2.getD j undef).oneCell' = true := fun i => by
          by_cases hi : i < len
          · obtain ⟨q, hq⟩ := each i hi; exact ⟨q, fun _ => hq⟩
          · exact ⟨Classical.choice inh, fun h => absurd h hi⟩
        obtain ⟨q, hq⟩ := Classical.axiomOfChoice ex
        have getq : ∀ k, k < len → (((List.range len).map fun i => (q i).1).map c.enc).getD k [] = c.enc (q k).1 := fun k hk => by simp [List.getD_eq_getElem?_getD, hk]
        have hlen : (((List.range len).map fun i => (q i).1).map c.enc).length = len := by simp
        refine ⟨(List.range len).map fun i => (q i).1, ⟨by simp; omega, fun x hx => ?_⟩, rfl, fun j hj => ?_⟩
        · obtain ⟨i, hi, rfl⟩ := List.mem_map.1 hx
          exact (hq i (List.mem_range.1 hi)).2.1
        · match j, hj with
          | 0, _ =>
            refine ⟨?_, rfl⟩
            show PRep W (fun _ => False) (.sl (P.cellsOf e) false _) (.slice (some ⟨b, o, none⟩) len cap)
            have key := PRep.sl (w := W) (M := fun _ => False) (P.cellsOf e) false (((List.range len).map fun i => (q i).1).map c.enc) (some ⟨b, o, none⟩) cap b o (fun k j => (q k).2.getD j undef)
            rw [hlen] at key
            refine key (fun _ => rfl) (fun _ _ h => h) hl (fun h => by cases h) (fun x hx => by obtain ⟨y, _, rfl⟩ := List.mem_map.1 hx; exact c.size y) (fun k j hk hj => ?_) (fun k j hk hj => ?_) (fun k j hk hj => ?_)
            · obtain ⟨h1, _⟩ := hq k hk
              obtain ⟨_, hl', hcell⟩ := World.cells?_some h1
              have := hcell j hj
              rw [add_plain, add_plain, List.getElem?_eq_getElem (by omega)] at this
              rw [this]
              simp [List.getD_eq_getElem?_getD, List.getElem?_eq_getElem (show j < (q k).2.length by omega)]
            · obtain ⟨_, _, h3, h4⟩ := hq k hk
              exact (h4 j (by rw [h3, c.size]; exact hj)).2
            · obtain ⟨_, _, h3, h4⟩ := hq k hk
              rw [getq k hk]
              exact (h4 j (by rw [h3, c.size]; exact hj)).1

theorem CodN.arg {P : Program} {t : TypeId} {α : Type} (c : ∀ N, CodN P t α N) {enc : α → List AV} (hc : ∀ N, (c N).enc = enc) {good : α → Prop} (hg : ∀ N a, (c N).good a → good a) {H : Type} {e : TypeId × Value → H} {W : World} {base : Nat} {sp : Nat → Bool} {held : Bool} {v : Value} {d : DataW H} {ps : List MemPlace} (h : DataW.Trod e P W base sp held t v d ps) :
    ∃ a, good a ∧ Reps (view0 W) (enc a) v.cells.toList := by
  obtain ⟨n, hn⟩ := h
  obtain ⟨a, h1, h2, h3⟩ := (c n).rd (Nat.le_refl _) hn
  rw [hc] at h2 h3
  exact ⟨a, hg n a h1, h2, fun j hj => .pure _ _ (h3 j (by omega)).1⟩
end Go.Am

/- THE ABSTRACT MACHINE, 26: a run's oracles, each with the proof of what it owes. -/
namespace Go.Am
set_option maxRecDepth 100000
open Go

structure Itm where
  o : List Orc
  p : List Prop
  h : AllP p
def orcsOf : List Itm → List Orc
  | [] => []
  | i :: l => i.o ++ orcsOf l
def propsOf : List Itm → List Prop
  | [] => []
  | i :: l => i.p ++ propsOf l
theorem propsAll : ∀ l : List Itm, AllP (propsOf l)
  | [] => trivial
  | i :: l => allP_append.2 ⟨i.h, propsAll l⟩

/-- An oracle alone; a proof alone. -/
def ko (o : Orc) : Itm := ⟨[o], [], trivial⟩
def kp {p : Prop} (h : p) : Itm := ⟨[], [p], ⟨h, trivial⟩⟩
/-- A call by its contract; a test; an outcome in other words; a loop by its contract. -/
def kc {P : Program} {G : Nat → Option (List AV)} {f : FuncId} {args : List AV} {Hs : List AObj} {out : AOut} {Hs' : List AObj} (e : List Nat) (h : CallC P G f args Hs out Hs') : Itm := ⟨[.call e out Hs'], [CallC P G f args Hs out Hs'], ⟨h, trivial⟩⟩
def kt {b : Bool} (h : b = true) : Itm := ⟨[.br true], [b = true], ⟨h, trivial⟩⟩
def kf {b : Bool} (h : b = false) : Itm := ⟨[.br false], [b = false], ⟨h, trivial⟩⟩
def kv {x y : AV} (d : Nat) (h : Sub x y) : Itm := ⟨[.val (some d) y], [Sub x y], ⟨h, trivial⟩⟩
def kl {P : Program} {G : Nat → Option (List AV)} {r : Option Nat} {n0 : Nat} {c : Code} {s : St} {ex : AEx} {s' : St} (dead : List Nat) (n : Nat) (h : RunL P G r n0 c s ex s') : Itm := ⟨[.loop dead n ex s'.env s'.H], [RunL P G r n0 c s ex s'], ⟨h, trivial⟩⟩

section
variable {P : Program} {G : Nat → Option (List AV)}
theorem callC_of {f : FuncId} {args : List AV} {H : List AObj} {out : AOut} {H' : List AObj} (l : List Itm) (h : runF P G f args H (orcsOf l) = some (out, H', propsOf l)) : CallC P G f args H out H' := callC_of_run _ h (propsAll l)
theorem callC_out {f : FuncId} {args : List AV} {H : List AObj} {x y : AV} {H' : List AObj} (hs : Sub x y) (l : List Itm) (h : runF P G f args H (orcsOf l) = some (.ret x, H', propsOf l)) : CallC P G f args H (.ret y) H' := CallC.out (callC_of l h) hs
theorem loop_next {r : Option Nat} {n0 : Nat} {c : Code} {s s2 s' : St} {ex : AEx} (l : List Itm) (dead : List Nat) (n : Nat) (hn : RunL P G r n0 c s2 ex s') (h : loopStep P G r n0 c s (orcsOf l) dead n = some (s2, propsOf l)) : RunL P G r n0 c s ex s' := RunL.next _ _ _ h (propsAll l) hn
theorem loop_exit {r : Option Nat} {n0 : Nat} {c : Code} {s s' : St} {ex : AEx} (l : List Itm) (dead : List Nat) (n : Nat) (h : loopExit P G r n0 c s (orcsOf l) dead n = some (ex, s', propsOf l)) : RunL P G r n0 c s ex s' := RunL.exit _ _ _ h (propsAll l)
theorem yieldC_of {id : Nat} {args : List AV} {H : List AObj} {b : Bool} {H' : List AObj} (l : Option Nat → List Itm) (h : ∀ r, runY P G r id args H (orcsOf (l none)) = some (b, H', propsOf (l r))) : YieldC P G id args H b H' := yieldC_of_run _ h fun r => propsAll (l r)
end
end Go.Am
