import Derived.Test.YtefamlckjpbcoaaG20
import Derived.Test.YtefamlckjpbcoaaRows
import Derived.ProofKit
import Derived.OpenShut
import Derived.LaidMore
import Derived.Deep.DeepHandedRow
set_option maxRecDepth 100000
set_option linter.unusedSimpArgs false
set_option linter.unusedVariables false
/-
  For every input, the law SequenceBelow of chapter 13 (sequence) returns true and leaves its arguments as they were. No conditions.
-/
namespace Go.Proofs.Ytefamlckjpbcoaa
open Go Go.Am Go.ChangeShapes Go.WideShapes Go.RowKit Go.Sq

theorem own : ownKnob Try.prog.godebug = none := by kernel_rfl
theorem laidOut : laidOutB Try.prog = true := by kernel_rfl
theorem rowed : mapsRowed Try.prog = true := by kernel_rfl
theorem full : ((List.range Try.prog.types.size).all fun t => match Try.prog.underlying t with | some (.slice e) => decide (0 < Try.prog.cellsOf e) | _ => true) = true := by kernel_rfl
theorem globs {W : World} : ∀ g cs, Seat.G g = some cs → PRep W (fun _ => False) (.imm cs) (.pointer (some ⟨g, 0, none⟩)) := fun _ _ h => by cases h


/-- What the walk gives, for every argument and every world. -/
theorem sequenceBelow_contract (H : Type) (enc : TypeId × Value → H) (W : World) (base : Nat) (args : Array Value) (ds gs : List (DataW H)) (before : List MemPlace)
    (hval : ∀ (j : Nat) t v, Try.f7.params[j]? = some t → args[j]? = some v → Value.okWide Try.prog W .any base t v)
    (hW : DataW.Whole enc Try.prog Try.f7.params.toList Rows.sequenceBelowSpec.vars false W args.toList ds gs before) :
    Calls Try.prog 7 args W fun e W' => ∃ v, e = .returned v ∧ Rows.sequenceBelowSpec.post enc Try.prog Try.f7 false true false false W args v W' := by
  have hW' := hW
  obtain ⟨p, q, hA0, hV, rfl, hfz, hnd⟩ := hW
  have hA : DataW.TrodAll enc Try.prog W 0 (fun _ => true) true Try.f7.params.toList args.toList ds p := hA0
  rw [Try.params7] at hA hval
  obtain ⟨v0, vs0, d0, ds0, p0, q0, hargs, rfl, rfl, h0, r0⟩ := trodAll_cons hA
  obtain ⟨rfl, rfl, rfl⟩ := trodAll_nil r0
  obtain rfl : args = #[v0] := by cases args; simp_all
  obtain ⟨a0, k0, g0⟩ := reads_cells (hval 0 22 v0 rfl rfl) h0
  refine (law_calls (below_h a0 k0) globs (.cons g0 .nil)).mono fun e W' ⟨he, hk⟩ => ?_
  subst he
  exact ⟨_, rfl, law_post (ds := [d0]) laidOut rowed (slices_full_of _ full) rfl rfl (fun t ht => by rw [Try.params7] at ht; have : (#[22] : Array TypeId).toList.all (fun t => decide (t < Try.prog.types.size)) = true := (by kernel_rfl); exact of_decide_eq_true (List.all_eq_true.1 this t ht)) rfl Try.underlying4 hW' hk⟩

theorem sequenceBelow_reads (os : Os) {H : Type} (enc : TypeId × Value → H) : ∃ places, DataW.whole enc Try.prog ((World.doorLaid Try.prog 600 os).forCall (fun _ _ => 0) ⟨#[], #[.slice none 0 0], []⟩).memory Try.f7.params.toList Rows.sequenceBelowSpec.vars false (#[.slice none 0 0] : Array Value).toList 8 = some ([.nil], [], places) :=
  ⟨[], by kernel_rfl⟩

set_option maxRecDepth 100000 in
theorem sequenceBelow_lifted (os : Os) (started : os.Started) (H : Type) (enc : TypeId × Value → H) (F : Stop.Interp) :
    ReturnsInHanded {} Try.checked os 7 .any ((OpenSpec.ofChange Rows.sequenceBelowSpec).preRow enc Try.prog Try.f7 Rows.sequenceBelowRow.domain false Rows.sequenceBelowRow.laid) (((OpenSpec.ofChange Rows.sequenceBelowSpec).at F).post enc Try.prog Try.f7 false true false false) := by
  obtain ⟨places, hx⟩ := sequenceBelow_reads os enc
  refine returnsInHanded_of_row (C := Try.checked) (s := OpenSpec.ofChange Rows.sequenceBelowSpec) own started (by kernel_rfl) Try.func7
    (witness_row_at (enc := enc) (C := Try.checked) false (World.doorLaid Try.prog 600 os) #[.slice none 0 0] rfl (by kernel_rfl) (by kernel_rfl) (by kernel_rfl)
      (OpenSpec.preRow_of_cond 8 hx (by kernel_rfl) (fun k hk => by cases hk) (by kernel_rfl) (laidMetH_nil _ _))) ?_
  intro W base args ds gs before hval hW _ _ _ _ _ _
  exact sequenceBelow_contract H enc W base args ds gs before hval hW

theorem sequenceBelow_holds : Rows.SequenceBelowSaid :=
  OpenClaim.holds_of_cond 7 Try.f7 rfl rfl rfl rfl rfl rfl rfl ⟨rfl, rfl, rfl, rfl, rfl⟩ rfl rfl rfl rfl rfl (by kernel_rfl) Try.func7 (by kernel_rfl)
    (of_decide_eq_true (by kernel_rfl)) (by unfold Func.isWrapper; first | (rw [if_pos (by decide +kernel)]; kernel_rfl) | (rw [if_neg (by decide +kernel)]; exact ⟨rfl, rfl⟩))
    (fun os started H enc _ F => by rw [OpenClaim.pre_eq_preRow]; exact sequenceBelow_lifted os started H enc F)
end Go.Proofs.Ytefamlckjpbcoaa
