import Derived.Test.YtefamlckjpbcoaaG6
import Derived.RangeFuncLeaves
import Derived.RangeFuncRecord
set_option maxRecDepth 100000
set_option linter.unusedSimpArgs false
set_option linter.unusedVariables false
/- THE ABSTRACT MACHINE, 19: loops; functions. -/
namespace Go.Am
open Go

def loopStep (P : Program) (G : Nat → Option (List AV)) (r : Option Nat) (n0 : Nat) (c : Code) (s : St) (orc : List Orc) (dead : List Nat) (n : Nat) : Option (St × List Prop) :=
  match runC P G r n0 c s orc with
  | some (.normal, s1, _, ps) => match weakA n0 dead n s1 with
    | some (s2, qs) => some (s2, ps ++ qs)
    | none => none
  | _ => none
def loopExit (P : Program) (G : Nat → Option (List AV)) (r : Option Nat) (n0 : Nat) (c : Code) (s : St) (orc : List Orc) (dead : List Nat) (n : Nat) : Option (AEx × St × List Prop) :=
  match runC P G r n0 c s orc with
  | some (.normal, _, _, _) => none
  | some (.pan x, s1, _, ps) => if x.slFree = true then (match weakA n0 dead n s1 with
    | some (s2, qs) => some (.pan x, s2, ps ++ qs)
    | none => none) else none
  | some (ex, s1, _, ps) => match weakA n0 dead n s1 with
    | some (s2, qs) => some (ex, s2, ps ++ qs)
    | none => none
  | none => none

section
variable {P : Program} {G : Nat → Option (List AV)} {r : Option Nat} {n0 : Nat} {c : Code}
theorem RunL.next {s s2 s' : St} {ex : AEx} {ps : List Prop} (orc : List Orc) (dead : List Nat) (n : Nat) (h : loopStep P G r n0 c s orc dead n = some (s2, ps)) (hps : AllP ps) (hn : RunL P G r n0 c s2 ex s') : RunL P G r n0 c s ex s' := by
  intro V0 V a h0 hs hG hok
  unfold loopStep at h
  split at h
  · rename_i s1 orc1 qs h1
    split at h
    · rename_i s3 rs h2
      cases h
      obtain ⟨hq, hr⟩ := allP_append.1 hps
      refine LoopIn.next (Go.wpIn_mono (runC_sound c h1 hq V0 V a h0 hs hG hok) ?_)
      refine Ends.after fun V1 a1 k1 k2 k3 => ?_
      obtain ⟨V2, l1, l2, l3, l4⟩ := weak_sound h2 hr h0 k1 k2 k3
      rw [← l1]
      exact hn V0 V2 a1 h0 l2 l3 l4
    · cases h
  · cases h
theorem RunL.exit {s s' : St} {ex : AEx} {ps : List Prop} (orc : List Orc) (dead : List Nat) (n : Nat) (h : loopExit P G r n0 c s orc dead n = some (ex, s', ps)) (hps : AllP ps) : RunL P G r n0 c s ex s' := by
  intro V0 V a h0 hs hG hok
  unfold loopExit at h
  split at h
  · cases h
  · rename_i x s1 orc1 qs h1
    split at h
    · rename_i hsl
      split at h
      · rename_i s3 rs h2
        cases h
        obtain ⟨hq, hr⟩ := allP_append.1 hps
        refine LoopIn.next (Go.wpIn_mono (runC_sound c h1 hq V0 V a h0 hs hG hok) ?_)
        intro e a1 w1 hE
        obtain ⟨V1, rfl, k1, k2, k3, k4⟩ := hE
        obtain ⟨V2, l1, l2, l3, l4⟩ := weak_sound h2 hr h0 k1 k2 k3
        cases e <;> first | exact k4.elim | skip
        obtain ⟨v, rfl, hv⟩ := k4
        exact ⟨V2, l1, l2, l3, l4, v, rfl, rep_slFree hv hsl⟩
      · cases h
    · cases h
  · rename_i ex1 s1 orc1 qs hn1 hn2 h1
    split at h
    · rename_i s3 rs h2
      cases h
      obtain ⟨hq, hr⟩ := allP_append.1 hps
      refine LoopIn.next (Go.wpIn_mono (runC_sound c h1 hq V0 V a h0 hs hG hok) ?_)
      intro e a1 w1 hE
      obtain ⟨V1, rfl, k1, k2, k3, k4⟩ := hE
      obtain ⟨V2, l1, l2, l3, l4⟩ := weak_sound h2 hr h0 k1 k2 k3
      have hE : Ends G V0 ex s' e a1 V1.w := ⟨V2, l1, l2, l3, l4, by
        cases ex <;> cases e <;> first | exact k4 | exact (hn2 _ rfl).elim⟩
      cases e <;> first | exact hE | (cases ex <;> first | exact k4.elim | exact (hn1 rfl).elim)
    · cases h
  · cases h
end

/-! ### Functions -/
def ModeRep (V : View) : AOut → FrameMode → Prop
  | .ret _, u => u = .returning
  | .pan x, u => ∃ v, u = .panicking [{ v := v, recovered := false }] ∧ Rep V x v
theorem ModeRep.step {V V' : View} (hs : Step V V') {m : AOut} {u : FrameMode} (h : ModeRep V m u) : ModeRep V' m u := by
  cases m with
  | ret x => exact h
  | pan x => obtain ⟨v, h1, h2⟩ := h; exact ⟨v, h1, h2.step hs⟩
theorem ModeRep.run {V : View} {m : AOut} {u : FrameMode} (h : ModeRep V m u) : u ≠ .run := by
  cases m with
  | ret x => rw [show u = .returning from h]; simp
  | pan x => obtain ⟨v, h1, _⟩ := h; rw [h1]; simp
def DefC (P : Program) (G : Nat → Option (List AV)) (f : FuncId) (args : List AV) (H : List AObj) (m : AOut) (H' : List AObj) (m' : AOut) : Prop :=
  ∀ (V : View) (vs : List Value) (u : FrameMode), V.H = H → HeapRep G V → Reps V args vs → ModeRep V m u → CallsDIn Fence.wide 0 P f vs.toArray u V.w fun e u' w' =>
    (∃ r, e = .returned r) ∧ ∃ V' : View, V'.w = w' ∧ Step V V' ∧ HeapRep G V' ∧ V'.H = H' ∧ ModeRep V' m' (settle u')
def leaveA (P : Program) (G : Nat → Option (List AV)) : List ADef → AOut → List AObj → List Orc → Option (AOut × List AObj × List Prop)
  | [], m, H, _ => some (m, H, [])
  | .mark id :: ds, m, H, orc => match H[id]? with
    | some .dfd => leaveA P G ds m (H.set id .gone) orc
    | _ => none
  | .call f xs :: ds, m, H, .dcall m' H' :: orc => if funcOk P f = true then (match leaveA P G ds m' H' orc with
    | some (m2, H2, ps) => some (m2, H2, DefC P G f xs H m H' m' :: ps)
    | none => none) else none
  | .call .. :: _, _, _, _ => none
def res1 (P : Program) (env : List AV) (H : List AObj) : ResultVar → Option AV
  | .tmp t => some (env.getD t .dead)
  | .cell a t => match env.getD a .dead with
    | .ptr id off => match H[id]? with
      | some (.box cells) => loadA P t (cells.drop off)
      | _ => none
    | _ => none
def resA (P : Program) (env : List AV) (H : List AObj) : List ResultVar → Option (List AV)
  | [] => some []
  | x :: xs => match res1 P env H x, resA P env H xs with
    | some y, some ys => some (y :: ys)
    | _, _ => none
def outA : List AV → AV
  | [x] => x
  | xs => .tup xs
def cutF (n : Nat) (out : AV) (H : List AObj) : Option (List AObj × List Prop) :=
  if n < H.length ∧ out.idsLt n = true then (match cutsOk n (H.take n) with
    | some qs => some (H.take n, qs)
    | none => some (H, [])) else some (H, [])
def AEx.out : AEx → Option AV
  | .pan x => some x
  | _ => none
def AEx.mode : AEx → Option AOut
  | .normal | .ret => some (.ret .dead)
  | .pan x => some (.pan x)
  | _ => none
def finF (P : Program) (G : Nat → Option (List AV)) (n : Nat) (fn : Func) (ex : AEx) (s : St) (orc : List Orc) : Option (AOut × List AObj × List Prop) :=
  match ex.mode with
  | some m => match leaveA P G s.defs m s.H orc with
    | some (.ret _, H2, ps) => match resA P s.env H2 fn.results.toList with
      | some xs => match cutF n (outA xs) H2 with
        | some (H3, qs) => some (.ret (outA xs), H3, ps ++ qs)
        | none => none
      | none => none
    | some (.pan x, H2, ps) => match cutF n x H2 with
      | some (H3, qs) => some (.pan x, H3, ps ++ qs)
      | none => none
    | none => none
  | none => none
def runF (P : Program) (G : Nat → Option (List AV)) (f : FuncId) (args : List AV) (H : List AObj) (orc : List Orc) : Option (AOut × List AObj × List Prop) :=
  match P.funcs[f]? with
  | some fn => match fn.body with
    | some c => match runC P G none H.length c { env := args ++ List.replicate (fn.ntmps - args.length) (.lit undef), H := H } orc with
      | some (ex, s, orc', ps) => match finF P G H.length fn ex s orc' with
        | some (out, H', qs) => some (out, H', ps ++ qs)
        | none => none
      | none => none
    | none => none
  | none => none

section
variable {P : Program} {G : Nat → Option (List AV)}

theorem leave_sound {fn : Func} {tmps : Array Value} {R : Ending → World → Prop} : ∀ {ds : List ADef} {l : List Deferred} {m m2 : AOut} {u : FrameMode} {H2 : List AObj} {orc : List Orc} {ps : List Prop} {V : View}, leaveA P G ds m V.H orc = some (m2, H2, ps) → AllP ps → HeapRep G V → DefsRep V ds l → ModeRep V m u →
    (∀ V2 u2, Step V V2 → HeapRep G V2 → V2.H = H2 → ModeRep V2 m2 u2 → LeavesIn Fence.wide 0 P fn tmps R [] u2 V2.w) → LeavesInM Fence.wide 0 P fn tmps R l u V.w
  | [], l, m, m2, u, H2, orc, ps, V, h, _, hG, hd, hm, hn => by
    cases hd
    simp only [leaveA, Option.some.injEq, Prod.mk.injEq] at h
    obtain ⟨rfl, h, _⟩ := h
    exact hn V u (Step.refl V) hG h hm
  | .mark id :: ds, l, m, m2, u, H2, orc, ps, V, h, hps, hG, hd, hm, hn => by
    cases hd with
    | cons h1 hs =>
      rename_i d l'
      simp only [leaveA] at h
      split at h
      · rename_i hH
        obtain ⟨_, rfl⟩ := h1
        have ho := hG.obj id _ hH
        obtain ⟨V1, k1, k2, k3, k4, k5⟩ := step_gone hG (w' := V.w.putObj (V.ρ id) (.deferred none)) hH rfl (fun b hb => by simp [World.putObj, show V.ρ id ≠ b from fun e => hb e.symm]) (by simp [World.putObj]) rfl rfl rfl
        refine ⟨hm.run, .inl ⟨V.ρ id, V1.w, rfl, by rw [k1]; exact run_takeDeferred ho, ?_⟩⟩
        exact leave_sound (by rw [k2]; exact h) hps k5 (hs.step k4) (hm.step k4) fun V2 u2 s2 g2 h2 m2 => hn V2 u2 (k4.trans s2) g2 h2 m2
      · cases h
  | .call f xs :: ds, l, m, m2, u, H2, orc, ps, V, h, hps, hG, hd, hm, hn => by
    cases orc with
    | nil => cases h
    | cons q orc =>
      cases q <;> first | (cases h; done) | skip
      rename_i m' H'
      cases hd with
      | cons h1 hs =>
        rename_i d l'
        simp only [leaveA] at h
        split at h
        · rename_i hok
          split at h
          · rename_i m3 H3 qs hrec
            cases h
            obtain ⟨hdc, hqs⟩ := hps
            obtain ⟨cs, ht, hr⟩ := h1
            obtain ⟨target, dargs⟩ := d
            simp only at ht
            subst ht
            refine ⟨hm.run, .inr ⟨fun h => (by cases h), .func f, cs, f, (dargs.toList ++ cs.toList).toArray, rfl, ?_, fun _ _ => trivial, ?_⟩⟩
            · unfold funcOk at hok
              split at hok
              · rename_i fn' hfn
                simp only [Bool.and_eq_true, Bool.not_eq_true', beq_eq_false_iff_ne, ne_eq] at hok
                obtain ⟨c, hb⟩ := Option.isSome_iff_exists.1 hok.1
                simp [invoke, callFunc, hfn, hok.2, hb]
              · cases hok
            · refine (hdc V _ u rfl hG hr hm).mono fun e u' w' he => ?_
              obtain ⟨⟨r, rfl⟩, V1, rfl, k1, k2, k3, k4⟩ := he
              exact leave_sound (by rw [k3]; exact hrec) hqs k2 (hs.step k1) k4 fun V2 u2 s2 g2 h2 m2 => hn V2 u2 (k1.trans s2) g2 h2 m2
          · cases h
        · cases h

theorem res1_sound {V : View} {a : Act} {env : List AV} (hG : HeapRep G V) (he : EnvOk V env a) {x : ResultVar} {y : AV} (h : res1 P env V.H x = some y) :
    ∃ v, (match x with | .tmp t => pure (a.tmps.getD t undef) | .cell b t => do loadVar t (← asAddr (a.tmps.getD b undef)) : Sem Value).run P V.w = .ok v V.w ∧ Rep V y v := by
  cases x with
  | tmp t =>
    simp only [res1, Option.some.injEq] at h
    subst h
    exact ⟨_, rfl, he.get t⟩
  | cell b t =>
    simp only [res1] at h
    split at h
    · rename_i id off hp
      split at h
      · rename_i cells hH
        have hr := he.get b
        rw [hp] at hr
        obtain ⟨_, hv⟩ := rep_ptr hr
        have hc := (box_cells hG hH).drop off
        rw [Nat.zero_add] at hc
        obtain ⟨v, h1, h2⟩ := loadA_sound h hc
        exact ⟨v, by simp [hv, asAddr, h1], h2⟩
      · cases h
    · cases h
theorem resA_sound {V : View} {a : Act} {env : List AV} (hG : HeapRep G V) (he : EnvOk V env a) : ∀ {xs : List ResultVar} {ys : List AV}, resA P env V.H xs = some ys →
    ∃ vs : List Value, (xs.mapM fun x => (match x with | .tmp t => pure (a.tmps.getD t undef) | .cell b t => do loadVar t (← asAddr (a.tmps.getD b undef)) : Sem Value)).run P V.w = .ok vs V.w ∧ Reps V ys vs
  | [], ys, h => by
    simp only [resA, Option.some.injEq] at h
    subst h
    exact ⟨[], rfl, .nil⟩
  | x :: xs, ys, h => by
    unfold resA at h
    split at h
    · rename_i y zs h1 h2
      cases h
      obtain ⟨v, k1, k2⟩ := res1_sound hG he h1
      obtain ⟨vs, l1, l2⟩ := resA_sound hG he h2
      refine ⟨v :: vs, ?_, .cons k2 l2⟩
      rw [List.mapM_cons]
      simp only [Sem.run_bind, k1, Result.andThen, l1, Sem.run_pure]
    · cases h
theorem outA_rep {V : View} {ys : List AV} {vs : List Value} (h : Reps V ys vs) : Rep V (outA ys) (if h : vs.toArray.size = 1 then vs.toArray[0] else .tuple vs.toArray) := by
  match ys, vs, h with
  | [], [], h => exact .tup [] [] rfl fun j hj => absurd hj (by simp)
  | [y], [v], h => exact h.head
  | y :: z :: ys, u :: v :: vs, h => exact .tup _ _ h.1 h.2
  | [], _ :: _, h => have := h.1; simp at this
  | _ :: _, [], h => have := h.1; simp at this
  | [_], _ :: _ :: _, h => have := h.1; simp at this
  | _ :: _ :: _, [_], h => have := h.1; simp at this

theorem cutF_sound {V0 V : View} {n : Nat} {x : AV} {H3 : List AObj} {qs : List Prop} (h : cutF n x V.H = some (H3, qs)) (hq : AllP qs) (h0 : V0.H.length = n) (hs : Step V0 V) (hG : HeapRep G V) {v : Value} (hr : Rep V x v) :
    ∃ V3 : View, V3.w = V.w ∧ Step V0 V3 ∧ HeapRep G V3 ∧ V3.H = H3 ∧ Rep V3 x v := by
  unfold cutF at h
  split at h
  · rename_i hc
    obtain ⟨h1, h2⟩ := hc
    split at h
    · rename_i ps hcut
      cases h
      exact ⟨V.cut n, rfl, cut_step (Nat.le_of_lt h1) (Nat.le_of_eq h0) hs, cut_heap (Nat.le_of_lt h1) hG (cuts_sound hcut hq), rfl, cut_rep (Nat.le_of_lt h1) h2 hr⟩
    · cases h
      exact ⟨V, rfl, hs, hG, rfl, hr⟩
  · cases h
    exact ⟨V, rfl, hs, hG, rfl, hr⟩

theorem callC_of_run {f : FuncId} {args : List AV} {H : List AObj} {out : AOut} {H' : List AObj} {ps : List Prop} (orc : List Orc) (h : runF P G f args H orc = some (out, H', ps)) (hps : AllP ps) : CallC P G f args H out H' := by
  unfold runF at h
  split at h
  · rename_i fn hfn
    split at h
    · rename_i c hb
      split at h
      · rename_i ex s orc1 qs hrun
        split at h
        · rename_i out1 H1 rs hfin
          cases h
          obtain ⟨hq, hr⟩ := allP_append.1 hps
          intro V vs hH hG hargs
          subst hH
          refine callsIn_of_wp_marks hfn hb trivial (Go.wpIn_mono (runC_sound (r := none) c hrun hq V V { tmps := vs.toArray ++ Array.replicate (fn.ntmps - vs.toArray.size) undef, defers := [] } rfl (Step.refl V) hG ⟨?_, rfl, .nil⟩) ?_)
          · have : EnvOk V (args ++ List.replicate (fn.ntmps - args.length) (.lit undef)) { tmps := (vs ++ List.replicate (fn.ntmps - args.length) undef).toArray, defers := [] } := by
              refine Reps.append hargs ?_
              have := Reps.lits (V := V) (List.replicate (fn.ntmps - args.length) undef)
              simpa using this
            have e : (vs ++ List.replicate (fn.ntmps - args.length) undef).toArray = vs.toArray ++ Array.replicate (fn.ntmps - vs.toArray.size) undef := by
              apply Array.ext'
              simp [hargs.1]
            rw [e] at this
            exact this
          · intro e a' w' hE
            obtain ⟨V1, rfl, k1, k2, k3, k4⟩ := hE
            obtain ⟨m, hm, hmr⟩ : ∃ m u, ex.mode = some m ∧ ModeRep V1 m u ∧ (LeavesInM Fence.wide 0 P fn a'.tmps (Goes G V H' out) a'.defers u V1.w → bodyPostM Fence.wide 0 P fn (Goes G V H' out) e a' V1.w) := by
              cases ex <;> cases e <;> first | exact k4.elim | skip
              · exact ⟨_, .returning, rfl, rfl, id⟩
              · simp [finF, AEx.mode] at hfin
              · simp [finF, AEx.mode] at hfin
              · exact ⟨_, .returning, rfl, rfl, id⟩
              · obtain ⟨v, rfl, hv⟩ := k4
                exact ⟨_, _, rfl, ⟨v, rfl, hv⟩, id⟩
            obtain ⟨hmode, hmr, hgo⟩ := hmr
            refine hgo ?_
            unfold finF at hfin
            rw [hmode] at hfin
            simp only at hfin
            split at hfin
            · rename_i y H2 qs2 hlv
              split at hfin
              · rename_i xs hres
                split at hfin
                · rename_i H3 qs3 hcut
                  cases hfin
                  obtain ⟨hr1, hr2⟩ := allP_append.1 hr
                  refine leave_sound (by rw [k3.H]; exact hlv) hr1 k2 k3.defs hmr fun V2 u2 s2 g2 h2 m2 => ?_
                  rw [show u2 = .returning from m2]
                  obtain ⟨us, m1, m2⟩ := resA_sound (a := a') g2 (k3.env.step s2) (by rw [h2]; exact hres)
                  obtain ⟨V3, n1, n2, n3, n4, n5⟩ := cutF_sound (V0 := V) (by rw [h2]; exact hcut) hr2 rfl (k1.trans s2) g2 (outA_rep m2)
                  refine ⟨_, ?_, V3, n1, n2, n3, n4, n5⟩
                  unfold results
                  rw [Array.mapM_eq_mapM_toList]
                  simp only [Sem.run_bind, Sem.run_map, Result.andThen, Sem.run_pure]
                  generalize hz : Sem.run P (List.mapM _ fn.results.toList) V2.w = z
                  have hz2 : z = Result.ok us V2.w := hz.symm.trans m1
                  subst hz2
                  rfl
                · cases hfin
              · cases hfin
            · rename_i x H2 qs2 hlv
              split at hfin
              · rename_i H3 qs3 hcut
                cases hfin
                obtain ⟨hr1, hr2⟩ := allP_append.1 hr
                refine leave_sound (by rw [k3.H]; exact hlv) hr1 k2 k3.defs hmr fun V2 u2 s2 g2 h2 m2 => ?_
                obtain ⟨v, rfl, hv⟩ := m2
                obtain ⟨V3, n1, n2, n3, n4, n5⟩ := cutF_sound (V0 := V) (by rw [h2]; exact hcut) hr2 rfl (k1.trans s2) g2 hv
                exact ⟨V3, n1, n2, n3, n4, v, rfl, n5⟩
              · cases hfin
            · cases hfin
        · cases h
      · cases h
    · cases h
  · cases h
end
end Go.Am

/- THE ABSTRACT MACHINE, 20: a round of a range over a function. -/
namespace Go.Am
open Go

section
variable {P : Program} {G : Nat → Option (List AV)}

end
end Go.Am

/- THE ABSTRACT MACHINE, 21: names for a function's loops; what stands for what; contracts loosened. -/
namespace Go.Am
open Go

def loopsOf : Code → List Code
  | .seq a b => loopsOf a ++ loopsOf b
  | .cond _ a b => loopsOf a ++ loopsOf b
  | .block _ c => loopsOf c
  | .loop c => c :: loopsOf c
  | .rangeFunc _ _ x y => loopsOf x ++ loopsOf y
  | .scope c => loopsOf c
  | _ => []
def bodyOf (P : Program) (f : FuncId) : Code := match P.funcs[f]? with
  | some fn => fn.body.getD .skip
  | none => .skip
def loopAt (P : Program) (f : FuncId) (i : Nat) : Code := (loopsOf (bodyOf P f)).getD i .skip
def regsOf : Code → List Code
  | .seq a b => regsOf a ++ regsOf b
  | .cond _ a b => regsOf a ++ regsOf b
  | .block _ c => regsOf c
  | .loop c => regsOf c
  | .rangeFunc _ _ x y => regsOf x ++ regsOf y
  | .scope c => regsOf c
  | .region i ops true => [.region i ops true]
  | _ => []
def regAt (P : Program) (f : FuncId) (i : Nat) : Code := (regsOf (bodyOf P f)).getD i .skip
def slotAt : List (Nat × AV) → Nat → AV
  | [], _ => .dead
  | (j, x) :: l, i => if j = i then x else slotAt l i
def slots (n : Nat) (l : List (Nat × AV)) : List AV := (List.range n).map (slotAt l)
def others (n : Nat) (live : List Nat) : List Nat := (List.range n).filter fun i => !live.contains i

theorem Sub.nil (sz : Nat) : Sub (.lit (.slice none 0 0)) (.sl sz false []) := fun V v h => by
  rw [rep_lit h]
  exact .pure _ _ (.sl sz false [] none 0 0 0 (fun _ _ => undef) (fun h => absurd rfl h) (fun h => absurd rfl h) (Nat.le_refl _) (fun h => by cases h) (by simp) (fun k j hk => absurd hk (by simp)) (fun k j hk => absurd hk (by simp)) (fun k j hk => absurd hk (by simp)))
theorem Sub.loose (sz : Nat) (t : Bool) (xs : List (List AV)) : Sub (.sl sz t xs) (.sl sz false xs) := fun V v h => by
  cases rep_sl h with
  | sl _ _ _ A cap b o vs hA hb hcap ht hsz hc ho hr => exact .pure _ _ (.sl sz false xs A cap b o vs hA hb hcap (fun h => by cases h) hsz hc ho hr)
theorem Sub.tup {xs ys : List AV} (hl : ys.length = xs.length) (h : ∀ j, j < xs.length → Sub (xs.getD j .dead) (ys.getD j .dead)) : Sub (.tup xs) (.tup ys) := fun V v hr => by
  obtain ⟨vs, rfl, h1, h2⟩ := rep_tup hr
  exact .tup ys vs (h1.trans hl.symm) fun j hj => h j (by omega) V _ (h2 j (by omega))
theorem Sub.tup2 {a b c d : AV} (h : Sub a c) (k : Sub b d) : Sub (.tup [a, b]) (.tup [c, d]) := .tup rfl fun j hj => by
  match j, hj with
  | 0, _ => exact h
  | 1, _ => exact k

section
variable {P : Program} {G : Nat → Option (List AV)}
theorem CallC.out {f : FuncId} {args : List AV} {H H' : List AObj} {x y : AV} (h : CallC P G f args H (.ret x) H') (hs : Sub x y) : CallC P G f args H (.ret y) H' := fun V vs hH hG hr =>
  (h V vs hH hG hr).mono fun e w' he => by
    obtain ⟨V', k1, k2, k3, k4, k5⟩ := he
    refine ⟨V', k1, k2, k3, k4, ?_⟩
    cases e with
    | returned v => exact hs V' v k5
    | panicked _ => exact k5.elim
    | outgrown => exact k5.elim
theorem CallC.args {f : FuncId} {xs ys : List AV} {H H' : List AObj} {out : AOut} (h : CallC P G f ys H out H') (hl : ys.length = xs.length) (hs : ∀ j, j < xs.length → Sub (xs.getD j .dead) (ys.getD j .dead)) : CallC P G f xs H out H' := fun V vs hH hG hr =>
  h V vs hH hG ⟨hr.1.trans hl.symm, fun j hj => hs j (by omega) V _ (hr.2 j (by omega))⟩

def SubS (s t : St) : Prop := t.H = s.H ∧ t.defs = s.defs ∧ t.env.length = s.env.length ∧ ∀ j, j < s.env.length → Sub (s.env.getD j .dead) (t.env.getD j .dead)
theorem SubS.ok {s t : St} (h : SubS s t) {V : View} {a : Act} (k : StOk V s a) : StOk V t a :=
  ⟨⟨k.env.1.trans h.2.2.1.symm, fun j hj => h.2.2.2 j (by have := h.2.2.1; omega) V _ (k.env.2 j (by have := h.2.2.1; omega))⟩, k.H.trans h.1.symm, by rw [h.2.1]; exact k.defs⟩
theorem LoopIn.mono {F : Fence} {n : Nat} {c : Code} {Q Q' : Exit → Act → World → Prop} {a : Act} {w : World} (h : LoopIn F n P c Q a w) (hq : ∀ e a w, Q e a w → Q' e a w) : LoopIn F n P c Q' a w := fun b k cs hro hb hr =>
  let ⟨e, a', w', q, r⟩ := h b k cs hro hb hr; ⟨e, a', w', hq _ _ _ q, r⟩
theorem RunL.post {r : Option Nat} {n0 : Nat} {c : Code} {s s' t : St} {ex : AEx} (h : RunL P G r n0 c s ex s') (hs : SubS s' t) : RunL P G r n0 c s ex t := fun V0 V a h0 hst hG hok =>
  LoopIn.mono (h V0 V a h0 hst hG hok) fun _ _ _ ⟨V', k1, k2, k3, k4, k5⟩ => ⟨V', k1, k2, k3, hs.ok k4, k5⟩
end
end Go.Am

/- THE ABSTRACT MACHINE, 22: small laws that the printed walks use. -/
namespace Go.Am
open Go

abbrev int (n : Int) : AV := .lit (.int .i64 n)
abbrev bool (b : Bool) : AV := .lit (.bool b)
abbrev str (s : ByteArray) : AV := .lit (.string s)
theorem allm_nil {α : Type} {p : α → Prop} : ∀ x ∈ ([] : List α), p x := fun _ h => by cases h
theorem allm_cons {α : Type} {p : α → Prop} {a : α} {l : List α} (h : p a) (hl : ∀ x ∈ l, p x) : ∀ x ∈ a :: l, p x := fun x hx => by
  rcases List.mem_cons.1 hx with rfl | hx
  · exact h
  · exact hl x hx
theorem allm_append {α : Type} {p : α → Prop} {a b : List α} (ha : ∀ x ∈ a, p x) (hb : ∀ x ∈ b, p x) : ∀ x ∈ a ++ b, p x := fun x hx => by
  rcases List.mem_append.1 hx with hx | hx
  · exact ha x hx
  · exact hb x hx
abbrev nilS : AV := .lit (.slice none 0 0)
theorem el_get {α : Type} {f : α → List AV} {v : List α} {k : Nat} {x : α} (h : v[k]? = some x) : (v.map f)[k]? = some (f x) := by rw [List.getElem?_map, h]; rfl
theorem el_nat {α : Type} {f : α → List AV} {v : List α} {k : Nat} {x : α} (h : v[k]? = some x) : 0 ≤ (k : Int) ∧ (v.map f)[(k : Int).toNat]? = some (f x) := ⟨by omega, el_get h⟩
theorem wrap_ok {n : Int} (h0 : -9223372036854775808 ≤ n) (h1 : n < 9223372036854775808) : IntKind.wrap IntKind.i64 n = n := by rw [IntKind.wrap_i64]; omega
theorem Sub.of_wrap {n m : Int} (h0 : -9223372036854775808 ≤ n) (h1 : n < 9223372036854775808) (h2 : n = m) : Sub (.lit (.int .i64 (IntKind.wrap .i64 n))) (.lit (.int .i64 m)) := .of_eq (by rw [wrap_ok h0 h1, h2])
theorem Sub.int_eq {k : IntKind} {a b : Int} (h : a = b) : Sub (.lit (.int k a)) (.lit (.int k b)) := .of_eq (by rw [h])
theorem Sub.bool_eq {a b : Bool} (h : a = b) : Sub (.lit (.bool a)) (.lit (.bool b)) := .of_eq (by rw [h])
theorem Sub.nil_eq {sz : Nat} {ys : List (List AV)} (h : [] = ys) : Sub (.lit (.slice none 0 0)) (.sl sz false ys) := h ▸ .nil sz

def SubL : List AV → List AV → Prop
  | [], [] => True
  | x :: xs, y :: ys => Sub x y ∧ SubL xs ys
  | _, _ => False
theorem SubL.len : ∀ {xs ys : List AV}, SubL xs ys → ys.length = xs.length
  | [], [], _ => rfl
  | _ :: _, _ :: _, h => by simp [SubL.len h.2]
theorem SubL.get : ∀ {xs ys : List AV}, SubL xs ys → ∀ j, j < xs.length → Sub (xs.getD j .dead) (ys.getD j .dead)
  | x :: xs, y :: ys, h, 0, _ => by simpa using h.1
  | x :: xs, y :: ys, h, j + 1, hj => by simpa using SubL.get h.2 j (by simpa using hj)
  | [], [], _, _, hj => absurd hj (by simp)
theorem Sub.tups {xs ys : List AV} (h : SubL xs ys) : Sub (.tup xs) (.tup ys) := .tup h.len h.get
def SubP : List (Nat × AV) → List (Nat × AV) → Prop
  | [], [] => True
  | (i, x) :: xs, (j, y) :: ys => i = j ∧ Sub x y ∧ SubP xs ys
  | _, _ => False
theorem SubP.at : ∀ {xs ys : List (Nat × AV)}, SubP xs ys → ∀ i, Sub (slotAt xs i) (slotAt ys i)
  | [], [], _, i => .refl _
  | (a, x) :: xs, (b, y) :: ys, h, i => by
    obtain ⟨rfl, h1, h2⟩ := h
    unfold slotAt
    split
    · exact h1
    · exact SubP.at h2 i
theorem SubS.slots {n : Nat} {l l' : List (Nat × AV)} {H : List AObj} {defs : List ADef} (h : SubP l l') : SubS { env := slots n l, H := H, defs := defs } { env := slots n l', H := H, defs := defs } :=
  ⟨rfl, rfl, by simp [Am.slots], fun j hj => by
    have hj : j < n := by simpa [Am.slots] using hj
    simpa [Am.slots, List.getD_eq_getElem?_getD, hj] using h.at j⟩
section
variable {P : Program} {G : Nat → Option (List AV)}
theorem CallC.args' {f : FuncId} {xs ys : List AV} {H H' : List AObj} {out : AOut} (h : CallC P G f ys H out H') (hs : SubL xs ys) : CallC P G f xs H out H' := h.args hs.len hs.get
theorem CallC.heap {f : FuncId} {xs : List AV} {H H1 H2 : List AObj} {out : AOut} (h : CallC P G f xs H out H1) (e : H1 = H2) : CallC P G f xs H out H2 := e ▸ h
theorem SubS.of_eq {s t : St} (h : s = t) : SubS s t := h ▸ ⟨rfl, rfl, rfl, fun _ _ => .refl _⟩
theorem ExRep.step {V V' : View} (hs : Step V V') {ex : AEx} {e : Exit} (h : ExRep V ex e) : ExRep V' ex e := by
  cases ex <;> cases e <;> first | exact h | skip
  obtain ⟨v, h1, h2⟩ := h
  exact ⟨v, h1, h2.step hs⟩
theorem RunL.postH {r : Option Nat} {n0 : Nat} {c : Code} {s s' : St} {K : List AObj} {ex : AEx} (h : RunL P G r n0 c s ex s') (hs : HSub s'.H K) : RunL P G r n0 c s ex { env := s'.env, H := K, defs := s'.defs } :=
  fun V0 V a h0 k1 k2 k3 => LoopIn.mono (h V0 V a h0 k1 k2 k3) fun _ _ _ hE => by
    obtain ⟨V1, rfl, l1, l2, l3, l4⟩ := hE
    obtain ⟨V2, a1, a2, a3, a4, a5⟩ := hsub_step l2 (l3.H ▸ hs)
    exact ⟨V2, a1, l1.trans a4, a5, ⟨l3.env.step a4, a2, l3.defs.step a4⟩, l4.step a4⟩
theorem YieldC.args' {id : Nat} {xs ys : List AV} {H H' : List AObj} {b : Bool} (h : YieldC P G id ys H b H') (hs : SubL xs ys) : YieldC P G id xs H b H' := fun V vs hH hG hr => h V vs hH hG ⟨hr.1.trans hs.len.symm, fun j hj => hs.get j (by rw [hs.len] at hj; exact hj) V _ (hr.2 j (by rw [hs.len] at hj; exact hj))⟩
theorem YieldC.to {id : Nat} {xs : List AV} {H H1 H2 : List AObj} {b b' : Bool} (h : YieldC P G id xs H b H1) (e1 : b = b') (e2 : H1 = H2) : YieldC P G id xs H b' H2 := e1 ▸ e2 ▸ h
theorem RunL.to {r : Option Nat} {n0 : Nat} {c : Code} {s s' t : St} {ex ex' : AEx} (h : RunL P G r n0 c s ex s') (e : ex = ex') (hs : SubS s' t) : RunL P G r n0 c s ex' t := e ▸ h.post hs
end
end Go.Am
