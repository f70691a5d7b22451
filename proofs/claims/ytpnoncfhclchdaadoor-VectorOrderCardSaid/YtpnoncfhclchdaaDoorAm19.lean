/- THE ABSTRACT MACHINE, 19: loops; functions. -/
import Derived.Test.YtpnoncfhclchdaaDoorAm18
import Derived.RangeFuncLeaves
import Derived.RangeFuncRecord
namespace Go.Am
open Go

def loopStep (P : Program) (G : Nat → Option (List AV)) (r : Option Nat) (n0 : Nat) (c : Code) (s : St) (orc : List Orc) (dead : List Nat) (n : Nat) : Option (St × List Prop) :=
  match runC P G r n0 c s orc with
  | some (.normal, s1, _, ps) => match weakA n0 dead n s1 with
    | some (s2, qs) => some (s2, ps ++ qs)
    | none => none
  | _ => none
def loopExit (P : Program) (G : Nat → Option (List AV)) (r : Option Nat) (n0 : Nat) (c : Code) (s : St) (orc : List Orc) (dead : List Nat) (n : Nat) : Option (AEx × St × List Prop) :=
  match runC P G r n0 c s orc with
  | some (.normal, _, _, _) | some (.pan _, _, _, _) => none
  | some (ex, s1, _, ps) => match weakA n0 dead n s1 with
    | some (s2, qs) => some (ex, s2, ps ++ qs)
    | none => none
  | none => none

section
variable {P : Program} {G : Nat → Option (List AV)} {r : Option Nat} {n0 : Nat} {c : Code}
theorem RunL.next {s s2 s' : St} {ex : AEx} {ps : List Prop} (orc : List Orc) (dead : List Nat) (n : Nat) (h : loopStep P G r n0 c s orc dead n = some (s2, ps)) (hps : AllP ps) (hn : RunL P G r n0 c s2 ex s') : RunL P G r n0 c s ex s' := by
  intro V0 V a h0 hs hG hok
  unfold loopStep at h
  split at h
  · rename_i s1 orc1 qs h1
    split at h
    · rename_i s3 rs h2
      cases h
      obtain ⟨hq, hr⟩ := allP_append.1 hps
      refine LoopIn.next (Go.wpIn_mono (runC_sound c h1 hq V0 V a h0 hs hG hok) ?_)
      refine Ends.after fun V1 a1 k1 k2 k3 => ?_
      obtain ⟨V2, l1, l2, l3, l4⟩ := weak_sound h2 hr h0 k1 k2 k3
      rw [← l1]
      exact hn V0 V2 a1 h0 l2 l3 l4
    · cases h
  · cases h
theorem RunL.exit {s s' : St} {ex : AEx} {ps : List Prop} (orc : List Orc) (dead : List Nat) (n : Nat) (h : loopExit P G r n0 c s orc dead n = some (ex, s', ps)) (hps : AllP ps) : RunL P G r n0 c s ex s' := by
  intro V0 V a h0 hs hG hok
  unfold loopExit at h
  split at h
  · cases h
  · cases h
  · rename_i ex1 s1 orc1 qs hn1 hn2 h1
    split at h
    · rename_i s3 rs h2
      cases h
      obtain ⟨hq, hr⟩ := allP_append.1 hps
      refine LoopIn.next (Go.wpIn_mono (runC_sound c h1 hq V0 V a h0 hs hG hok) ?_)
      intro e a1 w1 hE
      obtain ⟨V1, rfl, k1, k2, k3, k4⟩ := hE
      obtain ⟨V2, l1, l2, l3, l4⟩ := weak_sound h2 hr h0 k1 k2 k3
      have hE : Ends G V0 ex s' e a1 V1.w := ⟨V2, l1, l2, l3, l4, by
        cases ex <;> cases e <;> first | exact k4 | exact (hn2 _ rfl).elim⟩
      cases e <;> first | exact hE | (cases ex <;> first | exact k4.elim | exact (hn1 rfl).elim)
    · cases h
  · cases h
end

/-! ### Functions -/
def closeMarks : List ADef → List AObj → Option (List AObj)
  | [], H => some H
  | .mark id :: ds, H => match H[id]? with
    | some .dfd => closeMarks ds (H.set id .gone)
    | _ => none
  | .call .. :: _, _ => none
def res1 (P : Program) (env : List AV) (H : List AObj) : ResultVar → Option AV
  | .tmp t => some (env.getD t .dead)
  | .cell a t => match env.getD a .dead with
    | .ptr id off => match H[id]? with
      | some (.box cells) => loadA P t (cells.drop off)
      | _ => none
    | _ => none
def resA (P : Program) (env : List AV) (H : List AObj) : List ResultVar → Option (List AV)
  | [] => some []
  | x :: xs => match res1 P env H x, resA P env H xs with
    | some y, some ys => some (y :: ys)
    | _, _ => none
def outA : List AV → AV
  | [x] => x
  | xs => .tup xs
def cutF (n : Nat) (out : AV) (H : List AObj) : Option (List AObj × List Prop) :=
  if n < H.length ∧ out.idsLt n = true then (match cutsOk n (H.take n) with
    | some qs => some (H.take n, qs)
    | none => some (H, [])) else some (H, [])
def AEx.out : AEx → Option AV
  | .pan x => some x
  | _ => none
def finF (P : Program) (n : Nat) (fn : Func) : AEx → St → Option (AOut × List AObj × List Prop)
  | .normal, s | .ret, s => match closeMarks s.defs s.H with
    | some H2 => match resA P s.env H2 fn.results.toList with
      | some xs => match cutF n (outA xs) H2 with
        | some (H3, qs) => some (.ret (outA xs), H3, qs)
        | none => none
      | none => none
    | none => none
  | .pan x, s => match closeMarks s.defs s.H with
    | some H2 => match cutF n x H2 with
      | some (H3, qs) => some (.pan x, H3, qs)
      | none => none
    | none => none
  | _, _ => none
/-- A function, run. -/
def runF (P : Program) (G : Nat → Option (List AV)) (f : FuncId) (args : List AV) (H : List AObj) (orc : List Orc) : Option (AOut × List AObj × List Prop) :=
  match P.funcs[f]? with
  | some fn => match fn.body with
    | some c => match runC P G none H.length c { env := args ++ List.replicate (fn.ntmps - args.length) (.lit undef), H := H } orc with
      | some (ex, s, _, ps) => match finF P H.length fn ex s with
        | some (out, H', qs) => some (out, H', ps ++ qs)
        | none => none
      | none => none
    | none => none
  | none => none

section
variable {P : Program} {G : Nat → Option (List AV)}

theorem leave_marks {fn : Func} {tmps : Array Value} {R : Ending → World → Prop} {u : FrameMode} (hu : u ≠ .run) : ∀ {ds : List ADef} {l : List Deferred} {H2 : List AObj} {V : View}, closeMarks ds V.H = some H2 → HeapRep G V → DefsRep V ds l →
    (∀ V2, Step V V2 → HeapRep G V2 → V2.H = H2 → LeavesIn Fence.wide 0 P fn tmps R [] u V2.w) → LeavesInM Fence.wide 0 P fn tmps R l u V.w
  | [], l, H2, V, h, hG, hd, hn => by
    cases hd
    simp only [closeMarks, Option.some.injEq] at h
    exact hn V (Step.refl V) hG h
  | .mark id :: ds, l, H2, V, h, hG, hd, hn => by
    cases hd with
    | cons h1 hs =>
      rename_i d l'
      simp only [closeMarks] at h
      split at h
      · rename_i hH
        obtain ⟨_, rfl⟩ := h1
        have ho := hG.obj id _ hH
        obtain ⟨V1, k1, k2, k3, k4, k5⟩ := step_gone hG (w' := V.w.putObj (V.ρ id) (.deferred none)) hH rfl (fun b hb => by simp [World.putObj, show V.ρ id ≠ b from fun e => hb e.symm]) (by simp [World.putObj]) rfl rfl rfl
        refine ⟨hu, .inl ⟨V.ρ id, V1.w, rfl, by rw [k1]; exact run_takeDeferred ho, ?_⟩⟩
        exact leave_marks hu (by rw [k2]; exact h) k5 (hs.step k4) fun V2 s2 g2 h2 => hn V2 (k4.trans s2) g2 h2
      · cases h
  | .call .. :: _, _, _, _, h, _, _, _ => by cases h

theorem res1_sound {V : View} {a : Act} {env : List AV} (hG : HeapRep G V) (he : EnvOk V env a) {x : ResultVar} {y : AV} (h : res1 P env V.H x = some y) :
    ∃ v, (match x with | .tmp t => pure (a.tmps.getD t undef) | .cell b t => do loadVar t (← asAddr (a.tmps.getD b undef)) : Sem Value).run P V.w = .ok v V.w ∧ Rep V y v := by
  cases x with
  | tmp t =>
    simp only [res1, Option.some.injEq] at h
    subst h
    exact ⟨_, rfl, he.get t⟩
  | cell b t =>
    simp only [res1] at h
    split at h
    · rename_i id off hp
      split at h
      · rename_i cells hH
        have hr := he.get b
        rw [hp] at hr
        obtain ⟨_, hv⟩ := rep_ptr hr
        have hc := (box_cells hG hH).drop off
        rw [Nat.zero_add] at hc
        obtain ⟨v, h1, h2⟩ := loadA_sound h hc
        exact ⟨v, by simp [hv, asAddr, h1], h2⟩
      · cases h
    · cases h
theorem resA_sound {V : View} {a : Act} {env : List AV} (hG : HeapRep G V) (he : EnvOk V env a) : ∀ {xs : List ResultVar} {ys : List AV}, resA P env V.H xs = some ys →
    ∃ vs : List Value, (xs.mapM fun x => (match x with | .tmp t => pure (a.tmps.getD t undef) | .cell b t => do loadVar t (← asAddr (a.tmps.getD b undef)) : Sem Value)).run P V.w = .ok vs V.w ∧ Reps V ys vs
  | [], ys, h => by
    simp only [resA, Option.some.injEq] at h
    subst h
    exact ⟨[], rfl, .nil⟩
  | x :: xs, ys, h => by
    unfold resA at h
    split at h
    · rename_i y zs h1 h2
      cases h
      obtain ⟨v, k1, k2⟩ := res1_sound hG he h1
      obtain ⟨vs, l1, l2⟩ := resA_sound hG he h2
      refine ⟨v :: vs, ?_, .cons k2 l2⟩
      rw [List.mapM_cons]
      simp only [Sem.run_bind, k1, Result.andThen, l1, Sem.run_pure]
    · cases h
theorem outA_rep {V : View} {ys : List AV} {vs : List Value} (h : Reps V ys vs) : Rep V (outA ys) (if h : vs.toArray.size = 1 then vs.toArray[0] else .tuple vs.toArray) := by
  match ys, vs, h with
  | [], [], h => exact .tup [] [] rfl fun j hj => absurd hj (by simp)
  | [y], [v], h => exact h.head
  | y :: z :: ys, u :: v :: vs, h => exact .tup _ _ h.1 h.2
  | [], _ :: _, h => have := h.1; simp at this
  | _ :: _, [], h => have := h.1; simp at this
  | [_], _ :: _ :: _, h => have := h.1; simp at this
  | _ :: _ :: _, [_], h => have := h.1; simp at this

theorem cutF_sound {V0 V : View} {n : Nat} {x : AV} {H3 : List AObj} {qs : List Prop} (h : cutF n x V.H = some (H3, qs)) (hq : AllP qs) (h0 : V0.H.length = n) (hs : Step V0 V) (hG : HeapRep G V) {v : Value} (hr : Rep V x v) :
    ∃ V3 : View, V3.w = V.w ∧ Step V0 V3 ∧ HeapRep G V3 ∧ V3.H = H3 ∧ Rep V3 x v := by
  unfold cutF at h
  split at h
  · rename_i hc
    obtain ⟨h1, h2⟩ := hc
    split at h
    · rename_i ps hcut
      cases h
      exact ⟨V.cut n, rfl, cut_step (Nat.le_of_lt h1) (Nat.le_of_eq h0) hs, cut_heap (Nat.le_of_lt h1) hG (cuts_sound hcut hq), rfl, cut_rep (Nat.le_of_lt h1) h2 hr⟩
    · cases h
      exact ⟨V, rfl, hs, hG, rfl, hr⟩
  · cases h
    exact ⟨V, rfl, hs, hG, rfl, hr⟩

theorem callC_of_run {f : FuncId} {args : List AV} {H : List AObj} {out : AOut} {H' : List AObj} {ps : List Prop} (orc : List Orc) (h : runF P G f args H orc = some (out, H', ps)) (hps : AllP ps) : CallC P G f args H out H' := by
  unfold runF at h
  split at h
  · rename_i fn hfn
    split at h
    · rename_i c hb
      split at h
      · rename_i ex s orc1 qs hrun
        split at h
        · rename_i out1 H1 rs hfin
          cases h
          obtain ⟨hq, hr⟩ := allP_append.1 hps
          intro V vs hH hG hargs
          subst hH
          refine callsIn_of_wp_marks hfn hb trivial (Go.wpIn_mono (runC_sound (r := none) c hrun hq V V { tmps := vs.toArray ++ Array.replicate (fn.ntmps - vs.toArray.size) undef, defers := [] } rfl (Step.refl V) hG ⟨?_, rfl, .nil⟩) ?_)
          · have : EnvOk V (args ++ List.replicate (fn.ntmps - args.length) (.lit undef)) { tmps := (vs ++ List.replicate (fn.ntmps - args.length) undef).toArray, defers := [] } := by
              refine Reps.append hargs ?_
              have := Reps.lits (V := V) (List.replicate (fn.ntmps - args.length) undef)
              simpa using this
            have e : (vs ++ List.replicate (fn.ntmps - args.length) undef).toArray = vs.toArray ++ Array.replicate (fn.ntmps - vs.toArray.size) undef := by
              apply Array.ext'
              simp [hargs.1]
            rw [e] at this
            exact this
          · intro e a' w' hE
            obtain ⟨V1, rfl, k1, k2, k3, k4⟩ := hE
            have okRet : ∀ {H2 : List AObj} {xs : List AV}, closeMarks s.defs s.H = some H2 → resA P s.env H2 fn.results.toList = some xs → cutF V.H.length (outA xs) H2 = some (H', rs) →
                LeavesInM Fence.wide 0 P fn a'.tmps (Goes G V H' (.ret (outA xs))) a'.defers .returning V1.w := by
              intro H2 xs hc hres hcut
              refine leave_marks (by simp) (by rw [k3.H]; exact hc) k2 k3.defs fun V2 s2 g2 h2 => ?_
              obtain ⟨us, m1, m2⟩ := resA_sound (a := a') g2 (k3.env.step s2) (by rw [h2]; exact hres)
              obtain ⟨V3, n1, n2, n3, n4, n5⟩ := cutF_sound (V0 := V) (by rw [h2]; exact hcut) hr rfl (k1.trans s2) g2 (outA_rep m2)
              refine ⟨_, ?_, V3, n1, n2, n3, n4, n5⟩
              unfold results
              rw [Array.mapM_eq_mapM_toList]
              simp only [Sem.run_bind, Sem.run_map, Result.andThen, Sem.run_pure]
              generalize hz : Sem.run P (List.mapM _ fn.results.toList) V2.w = z
              have hz2 : z = Result.ok us V2.w := hz.symm.trans m1
              subst hz2
              rfl
            cases ex with
            | normal =>
              simp only [finF] at hfin
              split at hfin
              · rename_i H2 hc
                split at hfin
                · rename_i xs hres
                  split at hfin
                  · rename_i H3 qs3 hcut
                    cases hfin
                    cases e <;> first | exact k4.elim | exact okRet hc hres hcut
                  · cases hfin
                · cases hfin
              · cases hfin
            | ret =>
              simp only [finF] at hfin
              split at hfin
              · rename_i H2 hc
                split at hfin
                · rename_i xs hres
                  split at hfin
                  · rename_i H3 qs3 hcut
                    cases hfin
                    cases e <;> first | exact k4.elim | exact okRet hc hres hcut
                  · cases hfin
                · cases hfin
              · cases hfin
            | pan x =>
              simp only [finF] at hfin
              split at hfin
              · rename_i H2 hc
                split at hfin
                · rename_i H3 qs3 hcut
                  cases hfin
                  cases e <;> first | exact k4.elim | skip
                  rename_i chain
                  obtain ⟨v, rfl, hv⟩ := k4
                  refine leave_marks (by simp) (by rw [k3.H]; exact hc) k2 k3.defs fun V2 s2 g2 h2 => ?_
                  obtain ⟨V3, n1, n2, n3, n4, n5⟩ := cutF_sound (V0 := V) (by rw [h2]; exact hcut) hr rfl (k1.trans s2) g2 (hv.step s2)
                  exact ⟨V3, n1, n2, n3, n4, v, rfl, n5⟩
                · cases hfin
              · cases hfin
            | exit i => simp [finF] at hfin
            | goto l => simp [finF] at hfin
        · cases h
      · cases h
    · cases h
  · cases h
end
end Go.Am
