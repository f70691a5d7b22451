import Derived.Test.YtflocgjejaoeiaaG15
import Derived.Test.YtflocgjejaoeiaaRows
import Derived.ProofKit
import Derived.OpenShut
import Derived.LaidMore
import Derived.Deep.DeepHandedRow
/-
  For every input, the law BindsValuesSpec of chapter 14 (binds) returns true and leaves its arguments as they were. No conditions.
-/
namespace Go.Proofs.Ytflocgjejaoeiaa
set_option maxRecDepth 100000
open Go Go.Am Go.ChangeShapes Go.WideShapes Go.RowKit Go.Bd

theorem own : ownKnob Try.prog.godebug = none := by kernel_rfl
theorem laidOut : laidOutB Try.prog = true := by kernel_rfl
theorem rowed : mapsRowed Try.prog = true := by kernel_rfl
theorem full : ((List.range Try.prog.types.size).all fun t => match Try.prog.underlying t with | some (.slice e) => decide (0 < Try.prog.cellsOf e) | _ => true) = true := by kernel_rfl
theorem globs {W : World} : ∀ g cs, Seat.G g = some cs → PRep W (fun _ => False) (.imm cs) (.pointer (some ⟨g, 0, none⟩)) := fun _ _ h => by cases h


/-- What the walk gives, for every argument and every world. -/
theorem bindsValuesSpec_contract (H : Type) (enc : TypeId × Value → H) (W : World) (base : Nat) (args : Array Value) (ds gs : List (DataW H)) (before : List MemPlace)
    (hval : ∀ (j : Nat) t v, Try.f5.params[j]? = some t → args[j]? = some v → Value.okWide Try.prog W .any base t v)
    (hW : DataW.Whole enc Try.prog Try.f5.params.toList Rows.bindsValuesSpecSpec.vars false W args.toList ds gs before) :
    Calls Try.prog 5 args W fun e W' => ∃ v, e = .returned v ∧ Rows.bindsValuesSpecSpec.post enc Try.prog Try.f5 false true false false W args v W' := by
  have hW' := hW
  obtain ⟨p, q, hA0, hV, rfl, hfz, hnd⟩ := hW
  have hA : DataW.TrodAll enc Try.prog W 0 (fun _ => true) true Try.f5.params.toList args.toList ds p := hA0
  rw [Try.params5] at hA hval
  obtain ⟨v0, vs0, d0, ds0, p0, q0, hargs, rfl, rfl, h0, r0⟩ := trodAll_cons hA
  obtain ⟨v1, vs1, d1, ds1, p1, q1, rfl, rfl, rfl, h1, r1⟩ := trodAll_cons r0
  obtain ⟨rfl, rfl, rfl⟩ := trodAll_nil r1
  obtain rfl : args = #[v0, v1] := by cases args; simp_all
  obtain ⟨a0, k0, g0⟩ := reads_binds (hval 0 22 v0 rfl rfl) h0
  obtain ⟨a1, k1, g1⟩ := reads_str (hval 1 9 v1 rfl rfl) h1
  refine (law_calls (values_h a0 a1 k0 k1) globs (.cons g0 (.cons g1 .nil))).mono fun e W' ⟨he, hk⟩ => ?_
  subst he
  exact ⟨_, rfl, law_post (ds := [d0, d1]) laidOut rowed (slices_full_of _ full) rfl rfl (fun t ht => by rw [Try.params5] at ht; have : (#[22, 9] : Array TypeId).toList.all (fun t => decide (t < Try.prog.types.size)) = true := (by kernel_rfl); exact of_decide_eq_true (List.all_eq_true.1 this t ht)) rfl Try.underlying4 hW' hk⟩

theorem bindsValuesSpec_reads (os : Os) {H : Type} (enc : TypeId × Value → H) : ∃ places, DataW.whole enc Try.prog ((World.doorLaid Try.prog 600 os).forCall (fun _ _ => 0) ⟨#[], #[.slice none 0 0, .string .empty], []⟩).memory Try.f5.params.toList Rows.bindsValuesSpecSpec.vars false (#[.slice none 0 0, .string .empty] : Array Value).toList 8 = some ([.nil, .lit (.string [])], [], places) :=
  ⟨[], by kernel_rfl⟩

set_option maxRecDepth 100000 in
theorem bindsValuesSpec_lifted (os : Os) (started : os.Started) (H : Type) (enc : TypeId × Value → H) (F : Stop.Interp) :
    ReturnsInHanded {} Try.checked os 5 .any ((OpenSpec.ofChange Rows.bindsValuesSpecSpec).preRow enc Try.prog Try.f5 Rows.bindsValuesSpecRow.domain false Rows.bindsValuesSpecRow.laid) (((OpenSpec.ofChange Rows.bindsValuesSpecSpec).at F).post enc Try.prog Try.f5 false true false false) := by
  obtain ⟨places, hx⟩ := bindsValuesSpec_reads os enc
  refine returnsInHanded_of_row (C := Try.checked) (s := OpenSpec.ofChange Rows.bindsValuesSpecSpec) own started (by kernel_rfl) Try.func5
    (witness_row_at (enc := enc) (C := Try.checked) false (World.doorLaid Try.prog 600 os) #[.slice none 0 0, .string .empty] rfl (by kernel_rfl) (by kernel_rfl) (by kernel_rfl)
      (OpenSpec.preRow_of_cond 8 hx (by kernel_rfl) (fun k hk => by cases hk) (by kernel_rfl) (laidMetH_nil _ _))) ?_
  intro W base args ds gs before hval hW _ _ _ _ _ _
  exact bindsValuesSpec_contract H enc W base args ds gs before hval hW

theorem bindsValuesSpec_holds : Rows.BindsValuesSpecSaid :=
  OpenClaim.holds_of_cond 5 Try.f5 rfl rfl rfl rfl rfl rfl rfl ⟨rfl, rfl, rfl, rfl, rfl⟩ rfl rfl rfl rfl rfl (by kernel_rfl) Try.func5 (by kernel_rfl)
    (of_decide_eq_true (by kernel_rfl)) (by unfold Func.isWrapper; first | (rw [if_pos (by decide +kernel)]; kernel_rfl) | (rw [if_neg (by decide +kernel)]; exact ⟨rfl, rfl⟩))
    (fun os started H enc _ F => by rw [OpenClaim.pre_eq_preRow]; exact bindsValuesSpec_lifted os started H enc F)
end Go.Proofs.Ytflocgjejaoeiaa
