import Derived.Test.YtihbnnkcemjflaaGreatDoorG8
import Derived.RecoverIn
import Derived.Deep.Slices
set_option maxRecDepth 100000
set_option linter.unusedSimpArgs false
set_option linter.unusedVariables false

namespace Go.Am
open Go
section
variable {P:Program} {G:Nat→Option (List AV)} {n0:Nat}
end
end Go.Am


namespace Go.Am
open Go Go.ChangeShapes Go.WideShapes Go.RowKit
end Go.Am
