import Derived.Test.YtdacbkmlfcjcgaaGreatDoorZLDocumentCheckSpecA
import Derived.Test.YtdacbkmlfcjcgaaGreatDoorZLDocumentCheckSpecB
import Derived.Test.YtdacbkmlfcjcgaaGreatDoorZLDocumentCheckSpecC
import Derived.Test.YtdacbkmlfcjcgaaGreatDoorZLDocumentCheckSpecD
set_option maxRecDepth 100000
set_option linter.unusedSimpArgs false
set_option linter.unusedVariables false
/-
  For every input, the law DocumentCheckSpec of chapter 18 (document) returns true and leaves its arguments aZ they were. Conditions: the package variables (document.effects, ops.kinds, vector.greater, math/bits.deBruijn32tab) hold what the program's own text lays; nothing else.
-/
namespace Go.Proofs.YtdacbkmlfcjcgaaGreatDoor
open Go Go.Am Go.ChangeShapes Go.WideShapes Go.RowKit Go.eY Go.Dc

theorem documentCheckSpec_card : Rows.DocumentCheckSpecCardSaid :=
  Claim7.holds_tied_plain_at .later [] _ _ _ _ axn (fun _ h => by cases h) (by kernel_rfl) (fun _ h => by cases h) documentCheckSpec_row_tie rfl ⟨rfl, rfl⟩ cardM rfl axi cardG
end Go.Proofs.YtdacbkmlfcjcgaaGreatDoor
