/- Closing: what the program looks at. -/
import Derived.Test.YtdacbkmlfcjcgaaGreatDoorZ9
set_option maxRecDepth 100000
set_option linter.unusedSimpArgs false
set_option linter.unusedVariables false
namespace Go.Proofs.YtdacbkmlfcjcgaaGreatDoor
open Go Go.Am Go.ChangeShapes Go.WideShapes Go.RowKit Go.eY Go.Dc

theorem axi (f : FuncId) (fn : Func) (hf : Tryz.pinned.checked.prog.funcNamed "chartroom/chartroomlaw18.DocumentCheckSpec" = some f) (wN : Tryz.pinned.checked.prog.funcs[f]? = some fn) :
    true = Tryz.pinned.checked.prog.looks [] ∧ ∀ (j : Nat) t, fn.params[j]? = some t → Tryz.pinned.checked.prog.wantsStandIn t = false := by
  obtain rfl : f = 4 := Option.some.inj ((show Tryz.prog.funcNamed "chartroom/chartroomlaw18.DocumentCheckSpec" = some 4 by kernel_rfl).symm.trans hf) |>.symm
  obtain rfl : fn = Tryz.f4 := (Option.some.inj (Tryz.func4.symm.trans wN)).symm
  refine ⟨by kernel_rfl, fun j t ht => ?_⟩
  rw [Tryz.params4] at ht
  have jH : (#[25, 25] : Array TypeId).toList.all (fun t => !Tryz.prog.wantsStandIn t) = true := by kernel_rfl
  have := List.all_eq_true.1 jH t (by simpa using Array.mem_of_getElem? ht)
  exact (Bool.not_eq_true' _).mp this
end Go.Proofs.YtdacbkmlfcjcgaaGreatDoor
