import Derived.Test.YteaclamkacmhmaaDoorG9
import Derived.Test.YteaclamkacmhmaaDoorProg
set_option maxRecDepth 100000
set_option linter.unusedSimpArgs false
set_option linter.unusedVariables false

namespace Go.Seat
open Go Go.Am Go.Proofs
noncomputable abbrev P:Program:=Tryd.prog
def G (_:Nat):Option (List AV):=none
def fnV (f:Nat):AV:=.lit (.func (.func f) #[] #[])
end Go.Seat
