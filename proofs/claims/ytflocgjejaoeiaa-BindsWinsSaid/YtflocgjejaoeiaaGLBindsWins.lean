import Derived.Test.YtflocgjejaoeiaaG15
import Derived.Test.YtflocgjejaoeiaaRows
import Derived.ProofKit
import Derived.OpenShut
import Derived.LaidMore
import Derived.Deep.DeepHandedRow
/-
  For every input, the law BindsWins of chapter 14 (binds) returns true and leaves its arguments as they were. No conditions.
-/
namespace Go.Proofs.Ytflocgjejaoeiaa
set_option maxRecDepth 100000
open Go Go.Am Go.ChangeShapes Go.WideShapes Go.RowKit Go.Bd

theorem own : ownKnob Try.prog.godebug = none := by kernel_rfl
theorem laidOut : laidOutB Try.prog = true := by kernel_rfl
theorem rowed : mapsRowed Try.prog = true := by kernel_rfl
theorem full : ((List.range Try.prog.types.size).all fun t => match Try.prog.underlying t with | some (.slice e) => decide (0 < Try.prog.cellsOf e) | _ => true) = true := by kernel_rfl
theorem globs {W : World} : ∀ g cs, Seat.G g = some cs → PRep W (fun _ => False) (.imm cs) (.pointer (some ⟨g, 0, none⟩)) := fun _ _ h => by cases h


/-- What the walk gives, for every argument and every world. -/
theorem bindsWins_contract (H : Type) (enc : TypeId × Value → H) (W : World) (base : Nat) (args : Array Value) (ds gs : List (DataW H)) (before : List MemPlace)
    (hval : ∀ (j : Nat) t v, Try.f7.params[j]? = some t → args[j]? = some v → Value.okWide Try.prog W .any base t v)
    (hW : DataW.Whole enc Try.prog Try.f7.params.toList Rows.bindsWinsSpec.vars false W args.toList ds gs before) :
    Calls Try.prog 7 args W fun e W' => ∃ v, e = .returned v ∧ Rows.bindsWinsSpec.post enc Try.prog Try.f7 false true false false W args v W' := by
  have hW' := hW
  obtain ⟨p, q, hA0, hV, rfl, hfz, hnd⟩ := hW
  have hA : DataW.TrodAll enc Try.prog W 0 (fun _ => true) true Try.f7.params.toList args.toList ds p := hA0
  rw [Try.params7] at hA hval
  obtain ⟨v0, vs0, d0, ds0, p0, q0, hargs, rfl, rfl, h0, r0⟩ := trodAll_cons hA
  obtain ⟨v1, vs1, d1, ds1, p1, q1, rfl, rfl, rfl, h1, r1⟩ := trodAll_cons r0
  obtain ⟨v2, vs2, d2, ds2, p2, q2, rfl, rfl, rfl, h2, r2⟩ := trodAll_cons r1
  obtain ⟨v3, vs3, d3, ds3, p3, q3, rfl, rfl, rfl, h3, r3⟩ := trodAll_cons r2
  obtain ⟨v4, vs4, d4, ds4, p4, q4, rfl, rfl, rfl, h4, r4⟩ := trodAll_cons r3
  obtain ⟨rfl, rfl, rfl⟩ := trodAll_nil r4
  obtain rfl : args = #[v0, v1, v2, v3, v4] := by cases args; simp_all
  obtain ⟨a0, k0, g0⟩ := reads_binds (hval 0 22 v0 rfl rfl) h0
  obtain ⟨a1, k1, g1⟩ := reads_bind (hval 1 27 v1 rfl rfl) h1
  obtain ⟨a2, k2, g2⟩ := reads_dots (hval 2 23 v2 rfl rfl) h2
  obtain ⟨a3, k3, g3⟩ := reads_dots (hval 3 23 v3 rfl rfl) h3
  obtain ⟨a4, k4, g4⟩ := reads_str (hval 4 9 v4 rfl rfl) h4
  refine (law_calls (wins_h a0 a1 a2 a3 a4 k0 k1 k2 k3 k4) globs (.cons g0 (.cons g1 (.cons g2 (.cons g3 (.cons g4 .nil)))))).mono fun e W' ⟨he, hk⟩ => ?_
  subst he
  exact ⟨_, rfl, law_post (ds := [d0, d1, d2, d3, d4]) laidOut rowed (slices_full_of _ full) rfl rfl (fun t ht => by rw [Try.params7] at ht; have : (#[22, 27, 23, 23, 9] : Array TypeId).toList.all (fun t => decide (t < Try.prog.types.size)) = true := (by kernel_rfl); exact of_decide_eq_true (List.all_eq_true.1 this t ht)) rfl Try.underlying4 hW' hk⟩

theorem bindsWins_reads (os : Os) {H : Type} (enc : TypeId × Value → H) : ∃ places, DataW.whole enc Try.prog ((World.doorLaid Try.prog 600 os).forCall (fun _ _ => 0) ⟨#[], #[.slice none 0 0, .agg #[.string .empty, .int .i64 0, .int .i64 0, .int .i64 0, .string .empty], .slice none 0 0, .slice none 0 0, .string .empty], []⟩).memory Try.f7.params.toList Rows.bindsWinsSpec.vars false (#[.slice none 0 0, .agg #[.string .empty, .int .i64 0, .int .i64 0, .int .i64 0, .string .empty], .slice none 0 0, .slice none 0 0, .string .empty] : Array Value).toList 8 = some ([.nil, .agg [.lit (.string []), .agg [.lit (.int .i64 0), .lit (.int .i64 0)], .lit (.int .i64 0), .lit (.string [])], .nil, .nil, .lit (.string [])], [], places) :=
  ⟨[], by kernel_rfl⟩

set_option maxRecDepth 100000 in
theorem bindsWins_lifted (os : Os) (started : os.Started) (H : Type) (enc : TypeId × Value → H) (F : Stop.Interp) :
    ReturnsInHanded {} Try.checked os 7 .any ((OpenSpec.ofChange Rows.bindsWinsSpec).preRow enc Try.prog Try.f7 Rows.bindsWinsRow.domain false Rows.bindsWinsRow.laid) (((OpenSpec.ofChange Rows.bindsWinsSpec).at F).post enc Try.prog Try.f7 false true false false) := by
  obtain ⟨places, hx⟩ := bindsWins_reads os enc
  refine returnsInHanded_of_row (C := Try.checked) (s := OpenSpec.ofChange Rows.bindsWinsSpec) own started (by kernel_rfl) Try.func7
    (witness_row_at (enc := enc) (C := Try.checked) false (World.doorLaid Try.prog 600 os) #[.slice none 0 0, .agg #[.string .empty, .int .i64 0, .int .i64 0, .int .i64 0, .string .empty], .slice none 0 0, .slice none 0 0, .string .empty] rfl (by kernel_rfl) (by kernel_rfl) (by kernel_rfl)
      (OpenSpec.preRow_of_cond 8 hx (by kernel_rfl) (fun k hk => by cases hk) (by kernel_rfl) (laidMetH_nil _ _))) ?_
  intro W base args ds gs before hval hW _ _ _ _ _ _
  exact bindsWins_contract H enc W base args ds gs before hval hW

theorem bindsWins_holds : Rows.BindsWinsSaid :=
  OpenClaim.holds_of_cond 7 Try.f7 rfl rfl rfl rfl rfl rfl rfl ⟨rfl, rfl, rfl, rfl, rfl⟩ rfl rfl rfl rfl rfl (by kernel_rfl) Try.func7 (by kernel_rfl)
    (of_decide_eq_true (by kernel_rfl)) (by unfold Func.isWrapper; first | (rw [if_pos (by decide +kernel)]; kernel_rfl) | (rw [if_neg (by decide +kernel)]; exact ⟨rfl, rfl⟩))
    (fun os started H enc _ F => by rw [OpenClaim.pre_eq_preRow]; exact bindsWins_lifted os started H enc F)
end Go.Proofs.Ytflocgjejaoeiaa
