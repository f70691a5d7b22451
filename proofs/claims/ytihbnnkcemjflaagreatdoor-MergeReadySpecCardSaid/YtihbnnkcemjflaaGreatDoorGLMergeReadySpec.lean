import Derived.Test.YtihbnnkcemjflaaGreatDoorG21
set_option maxRecDepth 100000
set_option linter.unusedSimpArgs false
set_option linter.unusedVariables false
/-
  For every input, the law MergeReadySpec of chapter 19 (merge) returns true and leaves its arguments aZ they were. Conditions: the package variables (document.effects, ops.kinds, vector.greater) hold what the program's own text lays; nothing else.
-/
namespace Go.Proofs.YtihbnnkcemjflaaGreatDoor
open Go Go.Am Go.ChangeShapes Go.WideShapes Go.RowKit Go.Seat Go.Mg

theorem own : ownKnob Tryz.prog.godebug = Option.none := by kernel_rfl
theorem laidOut : laidOutB Tryz.prog = true := by kernel_rfl
theorem rowed : mapsRowed Tryz.prog = true := by kernel_rfl
theorem full : ((List.range Tryz.prog.types.size).all fun t => match Tryz.prog.underlying t with | some (.slice e) => decide (0 < Tryz.prog.cellsOf e) | _ => true) = true := by kernel_rfl

/-- What the walk gives, for every argument and every world that holds the table. -/
theorem mergeReadySpec_contract (H : Type) (enc : TypeId × Value → H) (W : World) (base : Nat) (args : Array Value) (ds gs : List (DataW H)) (before : List MemPlace)
    (hval : ∀ (j : Nat) t v, Tryz.f4.params[j]? = some t → args[j]? = some v → Value.okWide Tryz.prog W .any base t v)
    (hW : DataW.Whole enc Tryz.prog Tryz.f4.params.toList Rows.mergeReadySpecSpec.vars false W args.toList ds gs before) (hL : laidMetH Tryz.prog Rows.mergeReadySpecRow.laid W) :
    Calls Tryz.prog 4 args W fun e W' => ∃ v, e = .returned v ∧ Rows.mergeReadySpecSpec.post enc Tryz.prog Tryz.f4 false true false false W args v W' := by
  have hW' := hW
  obtain ⟨p, q, hA0, hV, rfl, hfz, hnd⟩ := hW
  have hA : DataW.TrodAll enc Tryz.prog W 0 (fun _ => true) true Tryz.f4.params.toList args.toList ds p := hA0
  rw [Tryz.params4] at hA hval
  obtain ⟨v0, vs0, d0, ds0, p0, q0, hargs, rfl, rfl, h0, r0⟩ := trodAll_cons hA
  obtain ⟨rfl, rfl, rfl⟩ := trodAll_nil r0
  obtain rfl : args = #[v0] := by cases args; simp_all
  obtain ⟨a0, k0, g0⟩ := reads_ops (hval 0 22 v0 rfl rfl) h0
  refine (law_calls (Mg.readySpec_h k0.2 k0.1) (globs rfl hL) (.cons g0 .nil)).mono fun e W' ⟨he, hk⟩ => ?_
  subst he
  exact ⟨_, rfl, law_post (ds := [d0]) laidOut rowed (slices_full_of _ full) rfl rfl (fun t ht => by rw [Tryz.params4] at ht; have : (#[22] : Array TypeId).toList.all (fun t => decide (t < Tryz.prog.types.size)) = true := (by kernel_rfl); exact of_decide_eq_true (List.all_eq_true.1 this t ht)) rfl Tryz.underlying4 hW' hk⟩

theorem mergeReadySpec_reads (os : Os) {H : Type} (enc : TypeId × Value → H) : ∃ places, DataW.whole enc Tryz.prog ((World.doorLaid Tryz.prog 600 os).forCall (fun _ _ => 0) ⟨#[], #[.slice Option.none 0 0], []⟩).memory Tryz.f4.params.toList Rows.mergeReadySpecSpec.vars false (#[.slice Option.none 0 0] : Array Value).toList 8 = some ([.nil], [], places) :=
  ⟨[], by kernel_rfl⟩

set_option maxRecDepth 100000 in
theorem mergeReadySpec_lifted (os : Os) (started : os.Started) (H : Type) (enc : TypeId × Value → H) (F : Stop.Interp) :
    ReturnsInHanded {} Tryz.checked os 4 .any ((OpenSpec.ofChange Rows.mergeReadySpecSpec).preRow enc Tryz.prog Tryz.f4 Rows.mergeReadySpecRow.domain false Rows.mergeReadySpecRow.laid) (((OpenSpec.ofChange Rows.mergeReadySpecSpec).at F).post enc Tryz.prog Tryz.f4 false true false false) := by
  obtain ⟨places, hx⟩ := mergeReadySpec_reads os enc
  refine returnsInHanded_of_row (C := Tryz.checked) (s := OpenSpec.ofChange Rows.mergeReadySpecSpec) own started (by kernel_rfl) Tryz.func4
    (witness_row_at (enc := enc) (C := Tryz.checked) false (World.doorLaid Tryz.prog 600 os) #[.slice Option.none 0 0] rfl (by kernel_rfl) (by kernel_rfl) (by kernel_rfl)
      (OpenSpec.preRow_of_cond 8 hx (by kernel_rfl) (fun k hk => by cases hk) (by kernel_rfl) (door_met os _))) ?_
  intro W base args ds gs before hval hW _ _ _ hL _ _
  exact mergeReadySpec_contract H enc W base args ds gs before hval hW hL

theorem mergeReadySpec_said : Rows.MergeReadySpecSaid :=
  OpenClaim.holds_of_cond 4 Tryz.f4 rfl rfl rfl rfl rfl rfl rfl ⟨rfl, rfl, rfl, rfl, rfl⟩ rfl rfl rfl rfl rfl (by kernel_rfl) Tryz.func4 (by kernel_rfl)
    (of_decide_eq_true (by kernel_rfl)) (by unfold Func.isWrapper; first | (rw [if_pos (by decide +kernel)]; kernel_rfl) | (rw [if_neg (by decide +kernel)]; exact ⟨rfl, rfl⟩))
    (fun os started H enc _ F => by rw [OpenClaim.pre_eq_preRow]; exact mergeReadySpec_lifted os started H enc F)

theorem mergeReadySpec_plain (f : FuncId) (fn : Func) (hf : Tryz.pinned.checked.prog.funcNamed "chartroom/chartroomlaw19.MergeReadySpec" = some f) (hfn : Tryz.pinned.checked.prog.funcs[f]? = some fn) :
    false = Tryz.pinned.checked.prog.looks [] ∧ ∀ (j : Nat) t, fn.params[j]? = some t → Tryz.pinned.checked.prog.wantsStandIn t = false := by
  obtain rfl : f = 4 := Option.some.inj ((show Tryz.prog.funcNamed "chartroom/chartroomlaw19.MergeReadySpec" = some 4 by kernel_rfl).symm.trans hf) |>.symm
  obtain rfl : fn = Tryz.f4 := (Option.some.inj (Tryz.func4.symm.trans hfn)).symm
  refine ⟨by kernel_rfl, fun j t ht => ?_⟩
  rw [Tryz.params4] at ht
  have hall : (#[22] : Array TypeId).toList.all (fun t => !Tryz.prog.wantsStandIn t) = true := by kernel_rfl
  have := List.all_eq_true.1 hall t (by simpa using Array.mem_of_getElem? ht)
  exact (Bool.not_eq_true' _).mp this

theorem mergeReadySpec_card : Rows.MergeReadySpecCardSaid :=
  Claim7.holds_tied_plain_at .later [] _ _ _ _ mergeReadySpec_said (fun _ h => by cases h) (by kernel_rfl) (fun _ h => by cases h) mergeReadySpec_row_tie rfl ⟨rfl, rfl⟩ (by kernel_rfl) rfl mergeReadySpec_plain (by kernel_rfl)
end Go.Proofs.YtihbnnkcemjflaaGreatDoor
