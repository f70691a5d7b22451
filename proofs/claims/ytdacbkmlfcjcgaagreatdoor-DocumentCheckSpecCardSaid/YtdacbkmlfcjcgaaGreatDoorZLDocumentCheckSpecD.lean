/- Closing: no go statement. -/
import Derived.KernelRfl
import Derived.Test.YtdacbkmlfcjcgaaGreatDoorCards
set_option maxRecDepth 100000
namespace Go.Proofs.YtdacbkmlfcjcgaaGreatDoor
open Go

theorem cardG : false = Rows.documentCheckSpecRow.goesBy Tryz.pinned.checked.prog := by kernel_rfl
end Go.Proofs.YtdacbkmlfcjcgaaGreatDoor
