import Derived.Test.YtihbnnkcemjflaaGreatDoorG10
import Derived.Test.YtihbnnkcemjflaaGreatDoorProg
set_option maxRecDepth 100000
set_option linter.unusedSimpArgs false
set_option linter.unusedVariables false

namespace Go.Seat
open Go Go.Am Go.Proofs
noncomputable abbrev P:Program:=Tryz.prog
def fnV (f:Nat):AV:=.lit (.func (.func f) #[] #[])
def kindsE:List (Value × AV) :=
 [(.int .i64 1,.agg [int 1,fnV 297]),(.int .i64 2,.agg [int 1,fnV 299]),(.int .i64 3,.agg [int 2,fnV 301]),(.int .i64 4,.agg [int 2,fnV 302]),
  (.int .i64 5,.agg [int 3,fnV 303]),(.int .i64 6,.agg [int 4,fnV 304]),(.int .i64 7,.agg [int 4,fnV 305]),(.int .i64 8,.agg [int 4,fnV 306])]
def effE:List (Value × AV) :=
 [(.int .i64 1,.agg [fnV 251]),(.int .i64 2,.agg [fnV 254]),(.int .i64 3,.agg [fnV 256]),(.int .i64 4,.agg [fnV 260]),
  (.int .i64 5,.agg [fnV 262]),(.int .i64 6,.agg [fnV 265]),(.int .i64 7,.agg [fnV 268]),(.int .i64 8,.agg [fnV 270])]
def G (g:Nat):Option (List AV):=if g=2 then some [fnV 307] else if g=1 then some [.md false kindsE] else if g=0 then some [.md false effE] else none
abbrev Rq (n f k:Nat) (s:St) (ex:AEx) (s':St):Prop:=RunL P G none n (loopAt P f k) s ex s'
abbrev Cq (f:Nat) (a:List AV) (x:AV):Prop:=CallC P G f a [] (.ret x) []
end Go.Seat
