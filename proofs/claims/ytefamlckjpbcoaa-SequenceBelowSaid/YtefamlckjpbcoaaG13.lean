import Derived.Test.YtefamlckjpbcoaaG12
import Derived.Shelf.SlSortCmp.WholeK
import Derived.Ground.SlsfProg
set_option maxRecDepth 100000
set_option linter.unusedSimpArgs false
set_option linter.unusedVariables false
/- SEQUENCE, 11: slices.SortFunc at cells, by the library's contract. -/
namespace Go.Proofs
open Go.Shelf Go.RowKit Go.Lib Go.Sort
def Try.sortCe_ren : Go.Shelf.Ren := ⟨fun | 6 => 40 | 15 => 47 | 14 => 46 | 28 => 58 | 29 => 59 | 20 => 50 | 21 => 51 | 22 => 52 | 23 => 53 | 24 => 54 | 25 => 55 | 26 => 56 | 27 => 57 | 46 => 60 | 47 => 61 | 48 => 62 | 49 => 63 | 50 => 64 | 57 => 65 | n => n, fun | 22 => 22 | 24 => 33 | 25 => 71 | 3 => 3 | 39 => 74 | 0 => 0 | 53 => 84 | 55 => 86 | 4 => 4 | 46 => 78 | 45 => 77 | 50 => 38 | 5 => 5 | 9 => 9 | 66 => 87 | 70 => 91 | 76 => 93 | 77 => 94 | n => n, fun | n => n⟩
theorem Try.sortCe : Go.Proofs.SlLaysF0.n6 Try.prog Try.sortCe_ren where
  mixed := by kernel_rfl
  f6 := ⟨"slices.SortFunc[[]chartroom/api.Cell,chartroom/api.Cell]", by decide, Try.func40.trans (congrArg some (by kernel_rfl))⟩
  f14 := ⟨"slices.pdqsortCmpFunc[chartroom/api.Cell]", by decide, Try.func46.trans (congrArg some (by kernel_rfl))⟩
  f15 := Try.func47.trans (congrArg some (by kernel_rfl))
  f20 := ⟨"slices.insertionSortCmpFunc[chartroom/api.Cell]", by decide, Try.func50.trans (congrArg some (by kernel_rfl))⟩
  f21 := ⟨"slices.heapSortCmpFunc[chartroom/api.Cell]", by decide, Try.func51.trans (congrArg some (by kernel_rfl))⟩
  f22 := ⟨"slices.breakPatternsCmpFunc[chartroom/api.Cell]", by decide, Try.func52.trans (congrArg some (by kernel_rfl))⟩
  f23 := ⟨"slices.choosePivotCmpFunc[chartroom/api.Cell]", by decide, Try.func53.trans (congrArg some (by kernel_rfl))⟩
  f24 := ⟨"slices.reverseRangeCmpFunc[chartroom/api.Cell]", by decide, Try.func54.trans (congrArg some (by kernel_rfl))⟩
  f25 := ⟨"slices.partialInsertionSortCmpFunc[chartroom/api.Cell]", by decide, Try.func55.trans (congrArg some (by kernel_rfl))⟩
  f26 := ⟨"slices.partitionEqualCmpFunc[chartroom/api.Cell]", by decide, Try.func56.trans (congrArg some (by kernel_rfl))⟩
  f27 := ⟨"slices.partitionCmpFunc[chartroom/api.Cell]", by decide, Try.func57.trans (congrArg some (by kernel_rfl))⟩
  f28 := Try.func58.trans (congrArg some (by kernel_rfl))
  f29 := Try.func59.trans (congrArg some (by kernel_rfl))
  f46 := ⟨"slices.siftDownCmpFunc[chartroom/api.Cell]", by decide, Try.func60.trans (congrArg some (by kernel_rfl))⟩
  f47 := Try.func61.trans (congrArg some (by kernel_rfl))
  f48 := Try.func62.trans (congrArg some (by kernel_rfl))
  f49 := ⟨"slices.medianAdjacentCmpFunc[chartroom/api.Cell]", by decide, Try.func63.trans (congrArg some (by kernel_rfl))⟩
  f50 := ⟨"slices.medianCmpFunc[chartroom/api.Cell]", by decide, Try.func64.trans (congrArg some (by kernel_rfl))⟩
  f57 := ⟨"slices.order2CmpFunc[chartroom/api.Cell]", by decide, Try.func65.trans (congrArg some (by kernel_rfl))⟩
  t0 := Try.underlying0
  a0 := Try.isAgg0
  z0 := Try.sizeOf0
  v0 := Try.zeroValue0
  t3 := Try.underlying3
  a3 := Try.isAgg3
  z3 := Try.sizeOf3
  v3 := Try.zeroValue3
  t4 := Try.underlying4
  a4 := Try.isAgg4
  z4 := Try.sizeOf4
  v4 := Try.zeroValue4
  t5 := Try.underlying5
  a5 := Try.isAgg5
  z5 := Try.sizeOf5
  v5 := Try.zeroValue5
  t9 := Try.underlying9
  a9 := Try.isAgg9
  z9 := Try.sizeOf9
  v9 := Try.zeroValue9
  t22 := Try.underlying22
  a22 := Try.isAgg22
  z22 := Try.sizeOf22
  v22 := Try.zeroValue22
  t25 := Try.underlying71
  a25 := Try.isAgg71
  z25 := Try.sizeOf71
  v25 := Try.zeroValue71
  t39 := Try.underlying74
  a39 := Try.isAgg74
  z39 := Try.sizeOf74
  v39 := Try.zeroValue74
  t45 := Try.underlying77
  a45 := Try.isAgg77
  z45 := Try.sizeOf77
  v45 := Try.zeroValue77
  t46 := Try.underlying78
  a46 := Try.isAgg78
  z46 := Try.sizeOf78
  v46 := Try.zeroValue78
  t50 := Try.underlying38
  a50 := Try.isAgg38
  z50 := Try.sizeOf38
  v50 := Try.zeroValue38
  t53 := Try.underlying84
  a53 := Try.isAgg84
  z53 := Try.sizeOf84
  v53 := Try.zeroValue84
  t55 := Try.underlying86
  a55 := Try.isAgg86
  z55 := Try.sizeOf86
  v55 := Try.zeroValue86
  t66 := Try.underlying87
  a66 := Try.isAgg87
  z66 := Try.sizeOf87
  v66 := Try.zeroValue87
  t70 := Try.underlying91
  a70 := Try.isAgg91
  z70 := Try.sizeOf91
  v70 := Try.zeroValue91
  t76 := Try.underlying93
  a76 := Try.isAgg93
  z76 := Try.sizeOf93
  v76 := Try.zeroValue93
  t77 := Try.underlying94
  a77 := Try.isAgg94
  z77 := Try.sizeOf94
  v77 := Try.zeroValue94
end Go.Proofs

/- THE ABSTRACT MACHINE, 29: pieces of code, put together with what the machine cannot say: the end of a piece is a view, and what follows is any proof. -/
namespace Go.Am
open Go
section
variable {P : Program} {G : Nat → Option (List AV)}

def Code.hd : Code → Code
  | .seq x _ => x
  | c => c
def Code.tl : Code → Code
  | .seq _ y => y
  | c => c
def Code.inB : Code → Code
  | .block _ c => c
  | c => c
def PieceC (P : Program) (G : Nat → Option (List AV)) (r : Option Nat) (n0 : Nat) (c : Code) (s s2 : St) : Prop :=
  ∀ (V0 V : View) (a : Act) (K : Act → World → Prop) (Q : Exit → Act → World → Prop), V0.H.length = n0 → Step V0 V → HeapRep G V → StOk V s a →
    (∀ V2 a2, Step V0 V2 → HeapRep G V2 → StOk V2 s2 a2 → K a2 V2.w) → c.wpIn (fz r) 0 P (Exit.then K Q) a V.w
theorem piece_of_run {r : Option Nat} {n0 : Nat} {c : Code} {s s2 : St} {ps : List Prop} (orc : List Orc) (dead : List Nat) (n : Nat) (h : loopStep P G r n0 c s orc dead n = some (s2, ps)) (hps : AllP ps) : PieceC P G r n0 c s s2 := by
  intro V0 V a K Q h0 hs hG hok next
  unfold loopStep at h
  split at h
  · rename_i s1 orc1 qs h1
    split at h
    · rename_i s3 rs h2
      cases h
      obtain ⟨hq, hr⟩ := allP_append.1 hps
      refine Go.wpIn_mono (runC_sound c h1 hq V0 V a h0 hs hG hok) ?_
      refine Ends.after fun V1 a1 k1 k2 k3 => ?_
      obtain ⟨V2, l1, l2, l3, l4⟩ := weak_sound h2 hr h0 k1 k2 k3
      rw [← l1]
      exact next V2 a1 l2 l3 l4
    · cases h
  · cases h
theorem piece_of {r : Option Nat} {n0 : Nat} {c : Code} {s s2 : St} (l : List Itm) (dead : List Nat) (n : Nat) (h : loopStep P G r n0 c s (orcsOf l) dead n = some (s2, propsOf l)) : PieceC P G r n0 c s s2 := piece_of_run _ dead n h (propsAll l)
theorem PieceC.seq {r : Option Nat} {n0 : Nat} {x y : Code} {s s2 : St} (h : PieceC P G r n0 x s s2) {V0 V : View} {a : Act} {Q : Exit → Act → World → Prop} (h0 : V0.H.length = n0) (hs : Step V0 V) (hG : HeapRep G V) (hok : StOk V s a)
    (next : ∀ V2 a2, Step V0 V2 → HeapRep G V2 → StOk V2 s2 a2 → y.wpIn (fz r) 0 P Q a2 V2.w) : (Code.seq x y).wpIn (fz r) 0 P Q a V.w := Go.wpIn_seq (h V0 V a (fun a w => y.wpIn (fz r) 0 P Q a w) Q h0 hs hG hok next)
theorem PieceC.round {r : Option Nat} {n0 : Nat} {c : Code} {s s2 : St} (h : PieceC P G r n0 c s s2) {V0 V : View} {a : Act} {Q : Exit → Act → World → Prop} (h0 : V0.H.length = n0) (hs : Step V0 V) (hG : HeapRep G V) (hok : StOk V s a)
    (next : ∀ V2 a2, Step V0 V2 → HeapRep G V2 → StOk V2 s2 a2 → LoopIn (fz r) 0 P c Q a2 V2.w) : LoopIn (fz r) 0 P c Q a V.w := LoopIn.next (h V0 V a (LoopIn (fz r) 0 P c Q) Q h0 hs hG hok next)

/-! A run of operations up to some place, and what follows there -/
theorem runD_pre {ops : Array Oper} {Q : Exit → Act → World → Prop} : ∀ {os1 os2 : List Oper} {r : Option Nat} {i : Nat} {env : List AV} {H : List AObj} {ds : List ADef} {orc : List Orc} {env' : List AV} {H' : List AObj} {ds' : List ADef} {orc' : List Orc} {ps : List Prop},
    runD P G r ops i os1 env H ds orc = some (.normal, env', H', ds', orc', ps) → AllP ps → ops.toList.drop i = os1 ++ os2 → ∀ {V : View} {a : Act}, HeapRep G V → V.H = H → EnvOk V env a → DefsRep V ds a.defers →
    (∀ V' a', Step V V' → HeapRep G V' → V'.H = H' → EnvOk V' env' a' → DefsRep V' ds' a'.defers → wpOpsIn (fz r) 0 P ops Q ((List.range ops.size).drop (i + os1.length)) a' V'.w) →
    wpOpsIn (fz r) 0 P ops Q ((List.range ops.size).drop i) a V.w
  | [], os2, r, i, env, H, ds, orc, env', H', ds', orc', ps, h, hps, hos, V, a, hG, hH, he, hd, n1 => by
    simp only [runD, Option.some.injEq, Prod.mk.injEq] at h
    obtain ⟨_, rfl, rfl, rfl, _, _⟩ := h
    exact n1 V a (Step.refl V) hG hH he hd
  | o :: os, os2, r, i, env, H, ds, orc, env', H', ds', orc', ps, h, hps, hos, V, a, hG, hH, he, hd, n1 => by
    have hlt : i < ops.size := by
      rcases Nat.lt_or_ge i ops.size with h | h
      · exact h
      · rw [List.drop_eq_nil_of_le (by simpa using h)] at hos; cases hos
    have hlt' : i < ops.toList.length := by simpa using hlt
    rw [List.drop_eq_getElem_cons hlt', List.cons_append] at hos
    injection hos with ho hos'
    have ho' : ops[i]? = some o := by rw [← ho]; simp [hlt]
    have hr : (List.range ops.size).drop i = i :: (List.range ops.size).drop (i + 1) := by
      rw [List.drop_eq_getElem_cons (by simpa using hlt)]; simp
    rw [hr, wpOpsIn_cons]
    have e1 : i + (o :: os).length = (i + 1) + os.length := by rw [List.length_cons]; omega
    rw [e1] at n1
    have key := fun {k : Kind} {out : AOut} {H1 : List AObj} {orc1 : List Orc} {qs : List Prop} (hst : stepA P G ops (guards ops i) env H o orc = some (k, out, H1, orc1, qs)) (hq : AllP qs) => stepA_sound (r := r) (a := a) ho' hst hq hG (fun t _ => he.get t) (.inl hH)
    unfold runD at h
    split at h
    · rename_i c hop hgd hdst
      split at h
      · rename_i d hdf
        obtain ⟨dd, k1, k2⟩ := deferA_sound (P := P) hG he hdf o.type
        unfold wpOpIn
        rw [ho']
        have hw : Region.wanted o (yielded ops a.tmps) = true := by unfold Region.wanted; rw [hgd]
        simp only [hw, if_true]
        refine ⟨fun _ _ => trivial, ?_⟩
        have hrun : (execOp a.eval o).run P V.w = .ok (.defer dd) V.w := by
          rw [execOp, hop]
          simp only [Sem.run_bind, k1, Result.andThen, Sem.run_pure]
        show o.uponIn _ _ P a _ Q ((Oper.semAt none a.eval o).run P V.w)
        rw [Oper.semAt_none, hrun, Oper.uponIn_defer, hdst]
        exact runD_pre h hps hos' (a := { a with defers := dd :: a.defers }) hG hH he (.cons k2 hd) n1
      · cases h
    · split at h
      · rename_i k x H1 orc1 qs hst
        split at h
        · rename_i ex1 env1 H2 ds1 orc2 rs hrec
          cases h
          obtain ⟨hq, hrs⟩ := allP_append.1 hps
          obtain ⟨h1, h2⟩ := key hst hq
          refine h1 _ Q (fun V' v x' hx hs hG' hH' hrep => ?_) (fun V' v x' hx => by cases hx)
          cases hx
          have hH1 : V'.H = H1 := by
            rw [hH']
            split
            · rename_i hk; rw [hH, h2 (by rw [hk]; simp)]
            · rfl
          have he' := (he.step hs).put o.dst hrep
          exact runD_pre hrec hrs hos' hG' hH1 he' (by rw [put_def]; exact hd.step hs)
            (fun V2 a2 s2 g2 hh2 e2 d2 => n1 V2 a2 (hs.trans s2) g2 hh2 e2 d2)
        · cases h
      · rename_i k x H1 orc1 qs hst
        cases h
      · cases h
theorem callV_wp {ops : Array Oper} {r : Option Nat} {Q : Exit → Act → World → Prop} {i : Nat} {rest : List Nat} {o : Oper} {g : Operand} {args : Array Operand} {ts : Array TypeId} {f : FuncId} {fn : Func} {us vs : Array Value} {a : Act} {w : World} {R : Ending → World → Prop}
    (ho : ops[i]? = some o) (hgd : o.guard = none) (hop : o.op = .call { callee := .value g, args := args, argTypes := ts }) (hfn : P.funcs[f]? = some fn) (hok : funcOk P f = true) (hg : a.eval g = .func (.func f) us vs)
    (hc : CallsIn Fence.wide 0 P f (us ++ args.map a.eval ++ vs) w R) (next : ∀ e w', R e w' → ∃ v, e = .returned v ∧ wpOpsIn (fz r) 0 P ops Q rest (a.put o.dst v) w') : wpOpsIn (fz r) 0 P ops Q (i :: rest) a w := by
  rw [wpOpsIn_cons]
  unfold wpOpIn
  rw [ho]
  have hw : Region.wanted o (yielded ops a.tmps) = true := by unfold Region.wanted; rw [hgd]
  simp only [hw, if_true]
  refine ⟨fun _ _ => trivial, ?_⟩
  have hrun : (execOp a.eval o).run P w = .ok (.enter f (us ++ args.map a.eval ++ vs)) w := by
    unfold funcOk at hok
    rw [hfn] at hok
    simp only [Bool.and_eq_true, Bool.not_eq_true', beq_eq_false_iff_ne, ne_eq] at hok
    obtain ⟨c, hb⟩ := Option.isSome_iff_exists.1 hok.1
    rw [execOp, hop]
    simp [resolve, Deferred.ofValue, hg, invoke, callFunc, hfn, hok.2, hb]
  rw [Oper.semAt_eq _ _ _ (fun c hc => by rw [hop] at hc; cases hc), hrun]
  refine ⟨fun h => (by cases h), (callsIn_fz r hc).mono fun e w' he => ?_⟩
  obtain ⟨v, rfl, h⟩ := next e w' he
  exact h
theorem callsIn_body {f : FuncId} {fn : Func} {c : Code} {vs : Array Value} {w : World} {R : Ending → World → Prop} (hfn : P.funcs[f]? = some fn) (hb : fn.body = some c)
    (h : c.wpIn Fence.wide 0 P (fun e a w => (e = .normal ∨ e = .ret) ∧ a.defers = [] ∧ ∃ v, (results fn a.tmps).run P w = .ok v w ∧ R (.returned v) w) { tmps := vs ++ Array.replicate (fn.ntmps - vs.size) undef, defers := [] } w) : CallsIn Fence.wide 0 P f vs w R := by
  refine callsIn_of_wp_marks hfn hb trivial (Go.wpIn_mono h ?_)
  intro e a w' hE
  obtain ⟨he, hd, hr⟩ := hE
  rcases he with rfl | rfl
  · show LeavesInM Fence.wide 0 P fn a.tmps R a.defers .returning w'
    rw [hd]; exact hr
  · show LeavesInM Fence.wide 0 P fn a.tmps R a.defers .returning w'
    rw [hd]; exact hr
theorem ends_goes {V : View} {fn : Func} {ex : AEx} {s : St} {orc1 : List Orc} {out : AOut} {H' : List AObj} {ps : List Prop} (hfin : finF P G V.H.length fn ex s orc1 = some (out, H', ps)) (hr : AllP ps) : ∀ e a' w', Ends G V ex s e a' w' → bodyPostM Fence.wide 0 P fn (Goes G V H' out) e a' w' := by
  intro e a' w' hE
  obtain ⟨V1, rfl, k1, k2, k3, k4⟩ := hE
  obtain ⟨m, hm, hmr⟩ : ∃ m u, ex.mode = some m ∧ ModeRep V1 m u ∧ (LeavesInM Fence.wide 0 P fn a'.tmps (Goes G V H' out) a'.defers u V1.w → bodyPostM Fence.wide 0 P fn (Goes G V H' out) e a' V1.w) := by
    cases ex <;> cases e <;> first | exact k4.elim | skip
    · exact ⟨_, .returning, rfl, rfl, id⟩
    · simp [finF, AEx.mode] at hfin
    · simp [finF, AEx.mode] at hfin
    · exact ⟨_, .returning, rfl, rfl, id⟩
    · obtain ⟨v, rfl, hv⟩ := k4
      exact ⟨_, _, rfl, ⟨v, rfl, hv⟩, id⟩
  obtain ⟨hmode, hmr, hgo⟩ := hmr
  refine hgo ?_
  unfold finF at hfin
  rw [hmode] at hfin
  simp only at hfin
  split at hfin
  · rename_i y H2 qs2 hlv
    split at hfin
    · rename_i xs hres
      split at hfin
      · rename_i H3 qs3 hcut
        cases hfin
        obtain ⟨hr1, hr2⟩ := allP_append.1 hr
        refine leave_sound (by rw [k3.H]; exact hlv) hr1 k2 k3.defs hmr fun V2 u2 s2 g2 h2 m2 => ?_
        rw [show u2 = .returning from m2]
        obtain ⟨us, m1, m2⟩ := resA_sound (a := a') g2 (k3.env.step s2) (by rw [h2]; exact hres)
        obtain ⟨V3, n1, n2, n3, n4, n5⟩ := cutF_sound (V0 := V) (by rw [h2]; exact hcut) hr2 rfl (k1.trans s2) g2 (outA_rep m2)
        refine ⟨_, ?_, V3, n1, n2, n3, n4, n5⟩
        unfold results
        rw [Array.mapM_eq_mapM_toList]
        simp only [Sem.run_bind, Sem.run_map, Result.andThen, Sem.run_pure]
        generalize hz : Sem.run P (List.mapM _ fn.results.toList) V2.w = z
        have hz2 : z = Result.ok us V2.w := hz.symm.trans m1
        subst hz2
        rfl
      · cases hfin
    · cases hfin
  · rename_i x H2 qs2 hlv
    split at hfin
    · rename_i H3 qs3 hcut
      cases hfin
      obtain ⟨hr1, hr2⟩ := allP_append.1 hr
      refine leave_sound (by rw [k3.H]; exact hlv) hr1 k2 k3.defs hmr fun V2 u2 s2 g2 h2 m2 => ?_
      obtain ⟨v, rfl, hv⟩ := m2
      obtain ⟨V3, n1, n2, n3, n4, n5⟩ := cutF_sound (V0 := V) (by rw [h2]; exact hcut) hr2 rfl (k1.trans s2) g2 hv
      exact ⟨V3, n1, n2, n3, n4, v, rfl, n5⟩
    · cases hfin
  · cases hfin

end
end Go.Am
