import Derived.Test.YtefamlckjpbcoaaG9
import Derived.Test.YtefamlckjpbcoaaProg
set_option maxRecDepth 100000
set_option linter.unusedSimpArgs false
set_option linter.unusedVariables false
/- The seat: its program; no package variables. -/
namespace Go.Seat
open Go Go.Am Go.Proofs

noncomputable abbrev P : Program := Try.prog
def G (_ : Nat) : Option (List AV) := none
def fnV (f : Nat) : AV := .lit (.func (.func f) #[] #[])
end Go.Seat
