import Derived.Test.YtdacbkmlfcjcgaaGreatDoorGLDocumentSeenA
import Derived.Test.YtdacbkmlfcjcgaaGreatDoorGLDocumentSeenB
import Derived.Test.YtdacbkmlfcjcgaaGreatDoorGLDocumentSeenC
import Derived.Test.YtdacbkmlfcjcgaaGreatDoorGLDocumentSeenD
set_option maxRecDepth 100000
set_option linter.unusedSimpArgs false
set_option linter.unusedVariables false
/-
  For every input, the law DocumentSeen of chapter 18 (document) returns true and leaves its arguments aZ they were. Conditions: the package variables (document.effects, ops.kinds, vector.greater, math/bits.deBruijn32tab) hold what the program's own text lays; nothing else.
-/
namespace Go.Proofs.YtdacbkmlfcjcgaaGreatDoor
open Go Go.Am Go.ChangeShapes Go.WideShapes Go.RowKit Go.eY Go.Dc

theorem documentSeen_card : Rows.DocumentSeenCardSaid :=
  Claim7.holds_tied_plain_at .later [] _ _ _ _ rH (fun _ h => by cases h) (by kernel_rfl) (fun _ h => by cases h) documentSeen_row_tie rfl ⟨rfl, rfl⟩ cardM rfl mX cardG
end Go.Proofs.YtdacbkmlfcjcgaaGreatDoor
