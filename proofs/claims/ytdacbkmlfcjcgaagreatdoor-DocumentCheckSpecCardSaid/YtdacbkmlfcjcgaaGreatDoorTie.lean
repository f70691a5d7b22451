/-
  DERIVED. GIVEN WITH THE SEED: THE PROGRAM's TIES (one call each: nine closed facts by the kernel) AND EACH ROW's TIE, after the 31st guide's Derived/Test/Toyas{Tie, Card}.lean. No idea stands in it: it is a product of the set-up. Laid BY PROGRAM, IN A SANDBOX (cutbox-door.mjs). By AI agents, Wed Nov 11 2026. No macro, syntax, notation, axiom, sorry.
-/
import Derived.Test.YtdacbkmlfcjcgaaGreatDoorRows
import Derived.LaidByTextLater
import Derived.SevenTiedAt
import Derived.LaidSub
import Derived.LaidOnce
namespace Go.Proofs.YtdacbkmlfcjcgaaGreatDoor
open Go
set_option maxRecDepth 100000
theorem seatTie1 : Tryz.prog.laidByTextLater [("math/bits.deBruijn32tab", Rows.laid_math_bits_deBruijn32tab), ("chartroom/vector.greater", Rows.laid_chartroom_vector_greater), ("chartroom/ops.kinds", Rows.laid_chartroom_ops_kinds), ("chartroom/document.effects", Rows.laid_chartroom_document_effects)] [.data, .funcs, .funcs, .funcs] true :=
  Program.laidByTextLater_by_one 125 8 33 (by kernel_rfl) (by kernel_rfl) (by kernel_rfl) (by kernel_rfl) (by kernel_rfl) (by kernel_rfl) (fun _ _ => by kernel_rfl)
theorem noOwnUnsafe : Tryz.pinned.checked.prog.headLifts.contains "ownunsafe" = false := by kernel_rfl
theorem tie : Tryz.prog.laidByTextLater [("math/bits.deBruijn32tab", Rows.laid_math_bits_deBruijn32tab), ("chartroom/vector.greater", Rows.laid_chartroom_vector_greater), ("chartroom/ops.kinds", Rows.laid_chartroom_ops_kinds), ("chartroom/document.effects", Rows.laid_chartroom_document_effects)] [.data, .funcs, .funcs, .funcs] true :=
  Program.laidByTextLater.sub seatTie1 ["math/bits.deBruijn32tab", "chartroom/vector.greater", "chartroom/ops.kinds", "chartroom/document.effects"] (by kernel_rfl) (by kernel_rfl)
theorem documentApplySpec_row_tie : Rows.documentApplySpecRow.laidByTextAt .later Tryz.pinned [.data, .funcs, .funcs, .funcs] true :=
  OpenClaim.laidByTextAt_later rfl rfl tie noOwnUnsafe
theorem documentCheckSpec_row_tie : Rows.documentCheckSpecRow.laidByTextAt .later Tryz.pinned [.data, .funcs, .funcs, .funcs] true :=
  OpenClaim.laidByTextAt_later rfl rfl tie noOwnUnsafe
theorem documentCodeSpec_row_tie : Rows.documentCodeSpecRow.laidByTextAt .later Tryz.pinned [.data, .funcs, .funcs, .funcs] true :=
  OpenClaim.laidByTextAt_later rfl rfl tie noOwnUnsafe
theorem documentCommutes_row_tie : Rows.documentCommutesRow.laidByTextAt .later Tryz.pinned [.data, .funcs, .funcs, .funcs] true :=
  OpenClaim.laidByTextAt_later rfl rfl tie noOwnUnsafe
theorem documentSeen_row_tie : Rows.documentSeenRow.laidByTextAt .later Tryz.pinned [.data, .funcs, .funcs, .funcs] true :=
  OpenClaim.laidByTextAt_later rfl rfl tie noOwnUnsafe
theorem documentBack_row_tie : Rows.documentBackRow.laidByTextAt .later Tryz.pinned [.data, .funcs, .funcs, .funcs] true :=
  OpenClaim.laidByTextAt_later rfl rfl tie noOwnUnsafe
theorem documentEffects_row_tie : Rows.documentEffectsRow.laidByTextAt .later Tryz.pinned [.data, .funcs, .funcs, .funcs] true :=
  OpenClaim.laidByTextAt_later rfl rfl tie noOwnUnsafe
theorem documentApplySpecUpto_row_tie : Rows.documentApplySpecUptoRow.laidByTextAt .later Tryz.pinned [.data, .funcs, .funcs, .funcs] true :=
  OpenClaim.laidByTextAt_later rfl rfl tie noOwnUnsafe
theorem documentCheckSpecUpto_row_tie : Rows.documentCheckSpecUptoRow.laidByTextAt .later Tryz.pinned [.data, .funcs, .funcs, .funcs] true :=
  OpenClaim.laidByTextAt_later rfl rfl tie noOwnUnsafe
theorem documentCodeSpecUpto_row_tie : Rows.documentCodeSpecUptoRow.laidByTextAt .later Tryz.pinned [.data, .funcs, .funcs, .funcs] true :=
  OpenClaim.laidByTextAt_later rfl rfl tie noOwnUnsafe
theorem documentCommutesUpto_row_tie : Rows.documentCommutesUptoRow.laidByTextAt .later Tryz.pinned [.data, .funcs, .funcs, .funcs] true :=
  OpenClaim.laidByTextAt_later rfl rfl tie noOwnUnsafe
theorem documentSeenUpto_row_tie : Rows.documentSeenUptoRow.laidByTextAt .later Tryz.pinned [.data, .funcs, .funcs, .funcs] true :=
  OpenClaim.laidByTextAt_later rfl rfl tie noOwnUnsafe
theorem documentBackUpto_row_tie : Rows.documentBackUptoRow.laidByTextAt .later Tryz.pinned [.data, .funcs, .funcs, .funcs] true :=
  OpenClaim.laidByTextAt_later rfl rfl tie noOwnUnsafe
theorem documentEffectsUpto_row_tie : Rows.documentEffectsUptoRow.laidByTextAt .later Tryz.pinned [.data, .funcs, .funcs, .funcs] true :=
  OpenClaim.laidByTextAt_later rfl rfl tie noOwnUnsafe
end Go.Proofs.YtdacbkmlfcjcgaaGreatDoor
