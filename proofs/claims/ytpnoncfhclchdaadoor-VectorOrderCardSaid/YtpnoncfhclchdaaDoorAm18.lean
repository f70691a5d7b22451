/- THE ABSTRACT MACHINE, 18: the run of code. -/
import Derived.Test.YtpnoncfhclchdaaDoorAm17
import Derived.RangeFuncRecord
namespace Go.Am
open Go

/-- What a range over a function does next, by its record. -/
def rangeEx (st : LoopState) (pend : Option Code) : Option AEx :=
  if st = .busy then none else match pend with
  | none => some .normal
  | some .ret => some .ret
  | some (.exit i) => some (.exit i)
  | some (.goto l) => some (.goto l)
  | _ => none
def rangeA (P : Program) (G : Nat → Option (List AV)) (r : Option Nat) (g : Operand) (ts : Array Tmp) (x y : Code) (s : St) (orc : List Orc) : Option (AEx × St × List Orc × List Prop) :=
  match r, orc with
  | none, .range dead _ _ _ _ _ :: orc1 => match funTarget (evA G s.env g) with
    | some (f, as, bs) => if funcOk P f = true then
        (match enterA P G (s.H ++ [.dfd] ++ [.rng .ready none (deaden s.env dead) ts x y]) f (as ++ [.yl (s.H.length + 1)] ++ bs) orc1 with
        | some (_, .ret _, H2, orc2, qs) => match H2[s.H.length + 1]? with
          | some (.rng st pend _ _ _ _) => match rangeEx st pend with
            | some ex => some (ex, { env := s.env, H := H2.set (s.H.length + 1) .gone, defs := .mark s.H.length :: s.defs }, orc2, qs)
            | none => none
          | _ => none
        | _ => none) else none
    | none => none
  | _, _ => none

def runC (P : Program) (G : Nat → Option (List AV)) (r : Option Nat) (n0 : Nat) : Code → St → List Orc → Option (AEx × St × List Orc × List Prop)
  | .skip, s, orc => some (.normal, s, orc, [])
  | .label _, s, orc => some (.normal, s, orc, [])
  | .exit id, s, orc => some (.exit id, s, orc, [])
  | .goto l, s, orc => some (.goto l, s, orc, [])
  | .ret, s, orc => some (.ret, s, orc, [])
  | .region _ ops false, s, orc => match runOps P G ops 0 ops.toList s.env s.H orc with
    | some (ex, env, H, orc', ps) => some (ex, { s with env := env, H := H }, orc', ps)
    | none => none
  | .region _ ops true, s, orc => match runTr P G ops 0 ops.toList s.env s.H orc with
    | some (tr, orc', ps) => if P.follows .mixedOrders = true ∧ checkAll ops tr (bitsL ops.toList []) 0 ops.toList = true then
        some (.normal, { s with env := envS ops tr all_ s.env ops.size, H := heapS tr all_ s.H ops.size }, orc', ps) else none
    | none => none
  | .seq x y, s, orc => match runC P G r n0 x s orc with
    | some (.normal, s1, orc1, ps) => match runC P G r n0 y s1 orc1 with
      | some (ex, s2, orc2, qs) => some (ex, s2, orc2, ps ++ qs)
      | none => none
    | some (ex, s1, orc1, ps) => some (ex, s1, orc1, ps)
    | none => none
  | .cond c x y, s, orc => match evA G s.env c, orc with
    | .lit (.bool e), .br true :: orc' => match runC P G r n0 x s orc' with
      | some (ex, s1, orc1, ps) => some (ex, s1, orc1, (e = true) :: ps)
      | none => none
    | .lit (.bool e), .br false :: orc' => match runC P G r n0 y s orc' with
      | some (ex, s1, orc1, ps) => some (ex, s1, orc1, (e = false) :: ps)
      | none => none
    | _, _ => none
  | .block id c, s, orc => match runC P G r n0 c s orc with
    | some (.exit j, s1, orc1, ps) => some (if j = id then .normal else .exit j, s1, orc1, ps)
    | some (ex, s1, orc1, ps) => some (ex, s1, orc1, ps)
    | none => none
  | .loop c, s, orc => match orc with
    | .loop dead n ex env H :: orc' => match weakA n0 dead n s with
      | some (s2, ps) => some (ex, { env := env, H := H, defs := s2.defs }, orc', RunL P G r n0 c s2 ex { env := env, H := H, defs := s2.defs } :: ps)
      | none => none
    | _ => none
  | .rangeFunc g ts x y, s, orc => rangeA P G r g ts x y s orc
  | .scope _, _, _ => none
  | .refuse _, _, _ => none

section
variable {P : Program} {G : Nat → Option (List AV)} {r : Option Nat} {n0 : Nat}

/-- An own object is let go, whatever its block is now. -/
theorem step_gone {V : View} (hG : HeapRep G V) {id : Nat} {o : AObj} {w' : World} (hid : V.H[id]? = some o) (hop : o.open_ = true) (hh : ∀ b, b ≠ V.ρ id → w'.heap[b]? = V.w.heap[b]?) (hs : w'.heap.size = V.w.heap.size) (h1 : w'.os = V.w.os) (h2 : w'.tape = V.w.tape) (h3 : w'.output = V.w.output) :
    ∃ V' : View, V'.w = w' ∧ V'.H = V.H.set id .gone ∧ V'.ρ = V.ρ ∧ Step V V' ∧ HeapRep G V' := by
  have hlt := (List.getElem?_eq_some_iff.1 hid).1
  let V' : View := { w := w', M := V.M, H := V.H.set id .gone, ρ := V.ρ }
  have hM := hG.mutb id _ hid hop
  have Hs : V'.H[id]? = some .gone := by show (V.H.set id _)[id]? = _; rw [List.getElem?_set_self hlt]
  have Ho : ∀ i, i ≠ id → V'.H[i]? = V.H[i]? := fun i hi => by show (V.H.set id _)[i]? = _; rw [List.getElem?_set_ne (fun e => hi e.symm)]
  have hl : V'.H.length = V.H.length := by show (V.H.set id _).length = _; simp
  have ne : ∀ i, i < V.H.length → i ≠ id → V.ρ i ≠ V.ρ id := fun i hi hne e => hne (hG.inj i id hi hlt e)
  have hst : Step V V' := {
    os := h1
    tape := h2
    output := h3
    size := Nat.le_of_eq hs.symm
    keep := fun b _ hn => ⟨hh b fun e => hn id hlt e.symm, Iff.rfl⟩
    data := fun b _ hn => ⟨hh b fun e => hn (e ▸ hM), hn⟩
    hlen := Nat.le_of_eq hl.symm
    fresh := fun i hi => .inl ⟨by rw [hl] at hi; exact hi, rfl⟩
    obj := fun i hi => by
      by_cases e : i = id
      · subst e
        unfold ObjStep
        rw [hid, Hs]
        cases o <;> first | rfl | trivial
      · exact .refl hi (Ho i e) rfl (hh _ (ne i hi e)) }
  refine ⟨V', rfl, rfl, rfl, hst, ?_⟩
  exact {
    lt := fun i hi => by rw [hl] at hi; show V.ρ i < w'.heap.size; rw [hs]; exact hG.lt i hi
    obj := fun i o ho => by
      by_cases e : i = id
      · subst e; rw [Hs] at ho; cases ho; trivial
      · rw [Ho i e] at ho
        exact (hG.obj i o ho).step hst (hh _ (ne i (List.getElem?_eq_some_iff.1 ho).1 e))
    inj := fun i j hi hj => by rw [hl] at hi hj; exact hG.inj i j hi hj
    mutb := fun i o ho hop' => by
      by_cases e : i = id
      · subst e; rw [Hs] at ho; cases ho; cases hop'
      · rw [Ho i e] at ho; exact hG.mutb i o ho hop'
    glob := hG.glob_step hst }

theorem range_sound {g : Operand} {ts : Array Tmp} {x y : Code} {s s' : St} {orc orc' : List Orc} {ex : AEx} {ps : List Prop} (h : rangeA P G r g ts x y s orc = some (ex, s', orc', ps)) (hps : AllP ps) : RunC P G r n0 (.rangeFunc g ts x y) s ex s' := by
  intro V0 V a h0 hs hG hok
  unfold rangeA at h
  split at h
  · rename_i dead _ _ _ _ _ orc1
    split at h
    · rename_i f as bs ht
      split at h
      · rename_i hok'
        split at h
        · rename_i k xr H2 orc2 qs hen
          split at h
          · rename_i st pend env3 ts3 x3 y3 hH2
            split at h
            · rename_i ex1 hex
              cases h
              refine wpIn_rangeFunc fun fnid _ => ?_
              have hg := evA_sound (a := a) (env := s.env) (y := g) hG fun t _ => hok.env.get t
              obtain ⟨V1, a1, a2, a3, a4, a5⟩ := step_new hG (w' := V.w.alloc (.deferred (some []))) (obj := .dfd) rfl rfl rfl rfl fun V' hw _ => by
                show V'.w.heap[V.w.heap.size]? = _
                rw [hw]; exact heap_push rfl
              have hsz1 : V1.w.heap.size = V.w.heap.size + 1 := by rw [a1]; simp
              obtain ⟨V2, b1, b2, b3, b4, b5⟩ := step_new a4 (w' := V1.w.alloc (.loop { state := .ready, pending := none, fn := fnid, tmps := a.tmps, params := ts, assign := x, body := y, defers := V.w.heap.size })) (obj := .rng .ready none (deaden s.env dead) ts x y) rfl rfl rfl rfl fun V' hw hs' => by
                refine ⟨fnid, a.tmps.toList, V.w.heap.size, by rw [hw]; exact heap_push rfl, ?_⟩
                exact EnvOk.step hs' (deaden_ok (hok.env.step a3))
              have hl1 : V1.H.length = s.H.length + 1 := by rw [a2, hok.H]; simp
              rw [hl1, hsz1] at b5
              have hH1 : V2.H = s.H ++ [.dfd] ++ [.rng .ready none (deaden s.env dead) ts x y] := by rw [b2, a2, hok.H]
              have hrng : V2.H[s.H.length + 1]? = some (.rng .ready none (deaden s.env dead) ts x y) := by rw [hH1]; simp
              have s02 : Step V V2 := a3.trans b3
              obtain ⟨us, vs, hu, r1, r2⟩ := funTarget_sound ht hg
              have hyl : Rep V2 (.yl (s.H.length + 1)) (.func (.yield (V.w.heap.size + 1)) #[] #[]) := by
                rw [← b5]
                exact .yl _ ⟨_, hrng, rfl⟩
              have hx : Reps V2 (as ++ [.yl (s.H.length + 1)] ++ bs) (us ++ [.func (.yield (V.w.heap.size + 1)) #[] #[]] ++ vs) := ((r1.step s02).append (.cons hyl .nil)).append (r2.step s02)
              obtain ⟨hc, hk⟩ := enter_sound hen hps b4 hx (.inl hH1)
              have hw2 : V2.w = (V.w.alloc (.deferred (some []))).alloc (.loop { state := .ready, pending := none, fn := fnid, tmps := a.tmps, params := ts, assign := x, body := y, defers := V.w.heap.size }) := by rw [b1, a1]
              refine ⟨V.w.heap.size + 1, [{ target := .collected V.w.heap.size, args := #[] }], V2.w, { target := .fn (.func f) vs.toArray, args := us.toArray ++ #[Value.func (.yield (V.w.heap.size + 1)) #[] #[]] }, V2.w, f, (us ++ [Value.func (.yield (V.w.heap.size + 1)) #[] #[]] ++ vs).toArray, V2.w, ?_, ?_, fun _ _ => trivial, ?_, fun h => (by cases h), ?_⟩
              · rw [hw2]; exact run_enterLoop_outer fnid a.tmps ts x y
              · have hm : Array.map a.eval #[Operand.const (Value.func (.yield (V.w.heap.size + 1)) #[] #[])] = #[Value.func (.yield (V.w.heap.size + 1)) #[] #[]] := by
                  apply Array.ext'
                  simp only [Array.toList_map, List.map_cons, List.map_nil, Act.eval]
                simp only [resolve, Deferred.ofValue, hu, hm]
                rfl
              · unfold funcOk at hok'
                split at hok'
                · rename_i fn hfn
                  simp only [Bool.and_eq_true, Bool.not_eq_true', beq_eq_false_iff_ne, ne_eq] at hok'
                  obtain ⟨c, hb⟩ := Option.isSome_iff_exists.1 hok'.1
                  simp [invoke, callFunc, hfn, hok'.2, hb]
                · cases hok'
              · refine hc.mono fun e w' he => ?_
                have hH2' : (if k = .free then V2.H else H2) = H2 := by
                  split
                  · rename_i hf; rw [hH1, hk (by rw [hf]; simp)]
                  · rfl
                rw [hH2'] at he
                obtain ⟨V3, rfl, c2, c3, c4, c5⟩ := he
                cases e with
                | returned v =>
                  have hr3 : V3.H[s.H.length + 1]? = some (.rng st pend env3 ts3 x3 y3) := by rw [c4]; exact hH2
                  have hρ : V3.ρ (s.H.length + 1) = V.w.heap.size + 1 := by
                    have := c2.obj (s.H.length + 1) (by rw [hH1]; simp)
                    unfold ObjStep at this
                    rw [hrng, hr3] at this
                    rw [this, b5]
                  obtain ⟨fn3, vs3, D3, o1, o2⟩ := c3.obj _ _ hr3
                  rw [hρ] at o1
                  have hnb : st ≠ .busy := by
                    unfold rangeEx at hex
                    split at hex
                    · cases hex
                    · assumption
                  obtain ⟨V4, d1, d2, d3, d4, d5⟩ := step_gone c3 (w' := V3.w.putObj (V.w.heap.size + 1) (.loop { state := .exhausted, pending := pend, fn := fn3, tmps := List.toArray vs3, params := ts3, assign := x3, body := y3, defers := D3 })) hr3 rfl
                    (fun b hb => World.putObj_heap_other (by rw [hρ] at hb; exact hb)) World.putObj_size rfl rfl rfl
                  have hend := run_endLoop (P := P) o1 hnb
                  refine ⟨pend, V4.w, by rw [d1]; exact hend, ?_⟩
                  have okS : StOk V4 { env := s.env, H := H2.set (s.H.length + 1) .gone, defs := .mark s.H.length :: s.defs } { a with defers := [{ target := .collected V.w.heap.size, args := #[] }] ++ a.defers } := by
                    have s04 : Step V V4 := s02.trans (c2.trans d4)
                    refine ⟨hok.env.step s04, by rw [d2, c4], .cons ?_ (hok.defs.step s04)⟩
                    have hd : KindOk AObj.isDfd V2 s.H.length := ⟨.dfd, by rw [hH1]; simp, rfl⟩
                    obtain ⟨k1, k2⟩ := dfdOk_step (c2.trans d4) hd
                    refine ⟨k1, ?_⟩
                    have hρ1 : V2.ρ s.H.length = V.w.heap.size := by
                      have hd1 : KindOk AObj.isDfd V1 s.H.length := ⟨.dfd, by rw [a2, hok.H]; simp, rfl⟩
                      rw [(dfdOk_step b3 hd1).2, ← hok.H, a5]
                    rw [k2, hρ1]
                  have hst4 : Step V0 V4 := hs.trans (s02.trans (c2.trans d4))
                  unfold rangeEx at hex
                  rw [if_neg hnb] at hex
                  split at hex
                  · cases hex
                    exact ⟨V4, rfl, hst4, d5, okS, trivial⟩
                  · cases hex
                    exact Go.wpIn_ret ⟨V4, rfl, hst4, d5, okS, trivial⟩
                  · cases hex
                    exact Go.wpIn_exit ⟨V4, rfl, hst4, d5, okS, rfl⟩
                  · cases hex
                    exact Go.wpIn_goto ⟨V4, rfl, hst4, d5, okS, rfl⟩
                  · cases hex
                | panicked ch => exact c5.elim
                | outgrown => exact c5.elim
            · cases h
          · cases h
        · cases h
      · cases h
    · cases h
  · cases h

theorem Ends.after {V0 : View} {s1 : St} {Q : Exit → Act → World → Prop} {K : Act → World → Prop} (hn : ∀ V1 a1, Step V0 V1 → HeapRep G V1 → StOk V1 s1 a1 → K a1 V1.w) : ∀ e a w, Ends G V0 .normal s1 e a w → Exit.then K Q e a w := by
  intro e a w h
  obtain ⟨V1, rfl, h1, h2, h3, h4⟩ := h
  cases e <;> first | exact h4.elim | exact hn V1 a h1 h2 h3

theorem runC_sound : ∀ (c : Code) {s s' : St} {orc orc' : List Orc} {ex : AEx} {ps : List Prop}, runC P G r n0 c s orc = some (ex, s', orc', ps) → AllP ps → RunC P G r n0 c s ex s'
  | .skip, s, s', orc, orc', ex, ps, h, hps, V0, V, a, h0, hs, hG, hok => by
    cases h
    exact Go.wpIn_skip ⟨V, rfl, hs, hG, hok, trivial⟩
  | .label l, s, s', orc, orc', ex, ps, h, hps, V0, V, a, h0, hs, hG, hok => by
    cases h
    exact Go.wpIn_label ⟨V, rfl, hs, hG, hok, trivial⟩
  | .exit id, s, s', orc, orc', ex, ps, h, hps, V0, V, a, h0, hs, hG, hok => by
    cases h
    exact Go.wpIn_exit ⟨V, rfl, hs, hG, hok, rfl⟩
  | .goto l, s, s', orc, orc', ex, ps, h, hps, V0, V, a, h0, hs, hG, hok => by
    cases h
    exact Go.wpIn_goto ⟨V, rfl, hs, hG, hok, rfl⟩
  | .ret, s, s', orc, orc', ex, ps, h, hps, V0, V, a, h0, hs, hG, hok => by
    cases h
    exact Go.wpIn_ret ⟨V, rfl, hs, hG, hok, trivial⟩
  | .region id ops false, s, s', orc, orc', ex, ps, h, hps, V0, V, a, h0, hs, hG, hok => by
    simp only [runC] at h
    split at h
    · rename_i ex1 env H orc1 qs hrun
      cases h
      refine wpIn_region ?_
      have := runOps_sound (r := r) (Q := Ends G V0 ex { s with env := env, H := H }) hrun hps rfl hG hok.H hok.env
        (fun hex V' a' s' g' h' e' d' => ⟨V', rfl, hs.trans s', g', ⟨e', h', d' ▸ hok.defs.step s'⟩, by subst hex; trivial⟩)
        (fun x hex V' a' v s' g' h' e' d' hv => ⟨V', rfl, hs.trans s', g', ⟨e', h', d' ▸ hok.defs.step s'⟩, by subst hex; exact ⟨v, rfl, hv⟩⟩)
      simpa using this
    · cases h
  | .region id ops true, s, s', orc, orc', ex, ps, h, hps, V0, V, a, h0, hs, hG, hok => by
    simp only [runC] at h
    split at h
    · rename_i tr orc1 qs hrun
      split at h
      · rename_i hc
        obtain ⟨hm, hc⟩ := hc
        cases h
        obtain ⟨hl, htr⟩ := runTr_sound hrun hps rfl
        have htr := htr [] s.env s.H rfl rfl rfl
        simp only [List.nil_append] at htr
        refine wpIn_region_any hm ?_
        obtain ⟨Vd, d1, d2, d3, d4, d5, d6⟩ := step_calm (V := V) hG (w' := { V.w with drawn := V.w.drawn + 1 }) rfl rfl rfl rfl
        rw [← d1]
        have hS : ∀ i, inS (Array.replicate ops.size false) i = false := fun i => by
          unfold inS
          simp only [Array.getD_eq_getD_getElem?, Array.getElem?_replicate]
          split <;> rfl
        have e0 : envS ops tr (inS (Array.replicate ops.size false)) s.env ops.size = s.env := List.ext_getElem? fun t => by
          have h1 : ∀ m, envS ops tr (inS (Array.replicate ops.size false)) s.env m = s.env := fun m => by
            induction m with
            | zero => rfl
            | succ m ih => simp only [envS]; rw [if_neg (by rw [hS]; simp), ih]
          rw [h1]
        have h1 : ∀ m, heapS tr (inS (Array.replicate ops.size false)) s.H m = s.H := fun m => by
          induction m with
          | zero => rfl
          | succ m ih => simp only [heapS]; rw [if_neg (by rw [hS]; simp), ih]
        refine any_sound (P := P) (G := G) (r := r) (env := s.env) (H := s.H) (a0 := a) (by simpa using hl) (fun j hj => htr j (Nat.zero_le _) hj) hc ops.size
          ⟨by simp, fun j o _ hj => (by rw [hS] at hj; cases hj), d6, by rw [d2, h1]; exact hok.H, by rw [e0]; exact hok.env.step d5, rfl⟩ (by simp) fun V' a' s' g' h' e' d' => ?_
        exact ⟨V', rfl, hs.trans (d5.trans s'), g', ⟨e', h', d' ▸ hok.defs.step (d5.trans s')⟩, trivial⟩
      · cases h
    · cases h
  | .seq x y, s, s', orc, orc', ex, ps, h, hps, V0, V, a, h0, hs, hG, hok => by
    simp only [runC] at h
    split at h
    · rename_i s1 orc1 qs h1
      split at h
      · rename_i ex2 s2 orc2 rs h2
        cases h
        obtain ⟨hq, hr⟩ := allP_append.1 hps
        refine Go.wpIn_seq (Go.wpIn_mono (runC_sound x h1 hq V0 V a h0 hs hG hok) ?_)
        exact Ends.after fun V1 a1 s1 g1 k1 => runC_sound y h2 hr V0 V1 a1 h0 s1 g1 k1
      · cases h
    · rename_i ex1 s1 orc1 qs hex h1
      cases h
      refine Go.wpIn_seq (Go.wpIn_mono (runC_sound x h1 hps V0 V a h0 hs hG hok) ?_)
      intro e a1 w1 hE
      have hE' := hE
      obtain ⟨V1, rfl, k1, k2, k3, k4⟩ := hE'
      cases e <;> first | exact hE | (cases ex <;> first | exact k4.elim | exact (hex rfl).elim)
    · cases h
  | .cond c x y, s, s', orc, orc', ex, ps, h, hps, V0, V, a, h0, hs, hG, hok => by
    simp only [runC] at h
    split at h
    · rename_i e orc1 hc
      split at h
      · rename_i ex1 s1 orc2 qs h1
        cases h
        obtain ⟨he, hq⟩ := hps
        subst he
        have hv := evA_sound (a := a) (env := s.env) (y := c) hG fun t _ => hok.env.get t
        rw [hc] at hv
        exact Go.wpIn_cond_true (rep_lit hv) (runC_sound x h1 hq V0 V a h0 hs hG hok)
      · cases h
    · rename_i e orc1 hc
      split at h
      · rename_i ex1 s1 orc2 qs h1
        cases h
        obtain ⟨he, hq⟩ := hps
        subst he
        have hv := evA_sound (a := a) (env := s.env) (y := c) hG fun t _ => hok.env.get t
        rw [hc] at hv
        exact Go.wpIn_cond_false (rep_lit hv) (runC_sound y h1 hq V0 V a h0 hs hG hok)
      · cases h
    · cases h
  | .block id c, s, s', orc, orc', ex, ps, h, hps, V0, V, a, h0, hs, hG, hok => by
    simp only [runC] at h
    split at h
    · rename_i j s1 orc1 qs h1
      cases h
      refine Go.wpIn_block (Go.wpIn_mono (runC_sound c h1 hps V0 V a h0 hs hG hok) ?_)
      intro e a1 w1 hE
      obtain ⟨V1, rfl, k1, k2, k3, k4⟩ := hE
      cases e <;> first | exact k4.elim | skip
      rename_i j'
      have hj : j' = j := k4
      subst hj
      simp only [Exit.inBlock]
      split
      · exact ⟨V1, rfl, k1, k2, k3, trivial⟩
      · exact ⟨V1, rfl, k1, k2, k3, rfl⟩
    · rename_i ex1 s1 orc1 qs hex h1
      cases h
      refine Go.wpIn_block (Go.wpIn_mono (runC_sound c h1 hps V0 V a h0 hs hG hok) ?_)
      intro e a1 w1 hE
      have hE' := hE
      obtain ⟨V1, rfl, k1, k2, k3, k4⟩ := hE'
      cases e <;> first | exact hE | (cases ex <;> first | exact k4.elim | exact (hex _ rfl).elim)
    · cases h
  | .loop c, s, s', orc, orc', ex, ps, h, hps, V0, V, a, h0, hs, hG, hok => by
    simp only [runC] at h
    split at h
    · rename_i dead n ex1 env H orc1
      split at h
      · rename_i s2 qs hw
        cases h
        obtain ⟨V2, k1, k2, k3, k4⟩ := weak_sound hw hps.2 h0 hs hG hok
        rw [← k1]
        exact (hps.1 V0 V2 a h0 k2 k3 k4).wpIn
      · cases h
    · cases h
  | .rangeFunc g ts x y, s, s', orc, orc', ex, ps, h, hps, V0, V, a, h0, hs, hG, hok => range_sound h hps V0 V a h0 hs hG hok
  | .scope _, _, _, _, _, _, _, h, _, _, _, _, _, _, _, _ => by cases h
  | .refuse _, _, _, _, _, _, _, h, _, _, _, _, _, _, _, _ => by cases h
end
end Go.Am
