import Derived.Test.YtdacbkmlfcjcgaaGreatDoorZLDocumentBackA
import Derived.Test.YtdacbkmlfcjcgaaGreatDoorZLDocumentBackB
import Derived.Test.YtdacbkmlfcjcgaaGreatDoorZLDocumentBackC
import Derived.Test.YtdacbkmlfcjcgaaGreatDoorZLDocumentBackD
set_option maxRecDepth 100000
set_option linter.unusedSimpArgs false
set_option linter.unusedVariables false
/-
  For every input, the law DocumentBack of chapter 18 (document) returns true and leaves its arguments aZ they were. Conditions: the package variables (document.effects, ops.kinds, vector.greater, math/bits.deBruijn32tab) hold what the program's own text lays; nothing else.
-/
namespace Go.Proofs.YtdacbkmlfcjcgaaGreatDoor
open Go Go.Am Go.ChangeShapes Go.WideShapes Go.RowKit Go.eY Go.Dc

theorem documentBack_card : Rows.DocumentBackCardSaid :=
  Claim7.holds_tied_plain_at .later [] _ _ _ _ axo (fun _ h => by cases h) (by kernel_rfl) (fun _ h => by cases h) documentBack_row_tie rfl ⟨rfl, rfl⟩ cardM rfl axl cardG
end Go.Proofs.YtdacbkmlfcjcgaaGreatDoor
