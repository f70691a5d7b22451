/- Closing: the main function. -/
import Derived.KernelRfl
import Derived.Test.YtdacbkmlfcjcgaaGreatDoorCards
set_option maxRecDepth 100000
namespace Go.Proofs.YtdacbkmlfcjcgaaGreatDoor
open Go

theorem cardM : Tryz.pinned.checked.prog.mainIs = some (true, ("971b91eeaff0ace97e5250ba8450903fab2114d8980ca6e3aa6346a037cc8068" : String).toList) := by kernel_rfl
end Go.Proofs.YtdacbkmlfcjcgaaGreatDoor
