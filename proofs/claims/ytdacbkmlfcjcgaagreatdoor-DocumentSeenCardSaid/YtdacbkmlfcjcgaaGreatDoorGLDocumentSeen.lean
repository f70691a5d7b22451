import Derived.Test.YtdacbkmlfcjcgaaGreatDoorG8
set_option maxRecDepth 100000
set_option linter.unusedSimpArgs false
set_option linter.unusedVariables false
/-
  For every input, the law DocumentSeen of chapter 18 (document) returns true and leaves its arguments aZ they were. Conditions: the package variables (document.effects, ops.kinds, vector.greater, math/bits.deBruijn32tab) hold what the program's own text lays; nothing else.
-/
namespace Go.Proofs.YtdacbkmlfcjcgaaGreatDoor
open Go Go.Am Go.ChangeShapes Go.WideShapes Go.RowKit Go.eY Go.Dc

theorem rH : Rows.DocumentSeenSaid :=
  OpenClaim.holds_of_cond 7 Tryz.f7 rfl rfl rfl rfl rfl rfl rfl ⟨rfl, rfl, rfl, rfl, rfl⟩ rfl rfl rfl rfl rfl (by kernel_rfl) Tryz.func7 lu
    (of_decide_eq_true (by kernel_rfl)) (by unfold Func.isWrapper; first | (rw [if_pos (by decide +kernel)]; kernel_rfl) | (rw [if_neg (by decide +kernel)]; exact ⟨rfl, rfl⟩))
    (fun os started H aQ _ F => by rw [OpenClaim.pre_eq_preRow]; exact mE os started H aQ F)

theorem mX (f : FuncId) (fn : Func) (hf : Tryz.pinned.checked.prog.funcNamed "chartroom/chartroomlaw18.DocumentSeen" = some f) (wN : Tryz.pinned.checked.prog.funcs[f]? = some fn) :
    true = Tryz.pinned.checked.prog.looks [] ∧ ∀ (j : Nat) t, fn.params[j]? = some t → Tryz.pinned.checked.prog.wantsStandIn t = false := by
  obtain rfl : f = 7 := Option.some.inj ((show Tryz.prog.funcNamed "chartroom/chartroomlaw18.DocumentSeen" = some 7 by kernel_rfl).symm.trans hf) |>.symm
  obtain rfl : fn = Tryz.f7 := (Option.some.inj (Tryz.func7.symm.trans wN)).symm
  refine ⟨by kernel_rfl, fun j t ht => ?_⟩
  rw [Tryz.params7] at ht
  have jH : (#[25, 33] : Array TypeId).toList.all (fun t => !Tryz.prog.wantsStandIn t) = true := by kernel_rfl
  have := List.all_eq_true.1 jH t (by simpa using Array.mem_of_getElem? ht)
  exact (Bool.not_eq_true' _).mp this

theorem documentSeen_card : Rows.DocumentSeenCardSaid :=
  Claim7.holds_tied_plain_at .later [] _ _ _ _ rH (fun _ h => by cases h) (by kernel_rfl) (fun _ h => by cases h) documentSeen_row_tie rfl ⟨rfl, rfl⟩ (by kernel_rfl) rfl mX (by kernel_rfl)
end Go.Proofs.YtdacbkmlfcjcgaaGreatDoor
