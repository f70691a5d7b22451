/-
  No cell of these rows narrows 'for every input' (looked for: loops, veiled, ifaces, maps, wideKeys, modest, calm, conditions, laid).
  DERIVED. THE GIVEN ROWS OF THIS SEAT. 8 by the template 'for every input the law returns true; each argument reads behind the call as it read before'; 0 by the template 'total and deterministic' (their statements: YtefamlckjpbcoaaTotals.lean).
  GIVEN WITH THE SEED: the statements are not yours to turn. If you find one false, say at which input.
  Laid BY PROGRAM, IN A SANDBOX (cutbox-rows.mjs): the forced cells as the released guide's own fill.sh prints them over the translation be7b16ed471d5bda… (all of the seat's roots in one cut). By AI agents, Wed Nov 11 2026. No macro, syntax, notation, axiom, sorry.
-/
import Derived.Test.YtefamlckjpbcoaaChecked
import GoSem.Claim
import GoSem.ClaimJoined
import GoSem.ClaimMapViews
import Derived.JoinedTies
import Derived.KernelRfl
namespace Go.Proofs.Ytefamlckjpbcoaa
/- THE CELL 'sum', in the pinned program and in every row, IS THE sha256 OF THE DUMP (.gsa) THAT YtefamlckjpbcoaaProg.lean LOADS. Nothing in Lean hashes anything: it is a label: what it is worth is what the hold of that sum in a sandbox is worth. -/
noncomputable def Try.pinned : Pinned := { name := "ytefamlckjpbcoaa", sum := "be7b16ed471d5bda3b9ea80096ff5d6d7d988c2574e19421cb59840036c5f034", checked := Try.checked }
namespace Rows
def none {H : Type} : Left H := { results := [], args := [] }

/-- 'chartroomlaw13.SequenceOrderSpec': WHATEVER THE INPUT: true; the input reads as it did. -/
def sequenceOrderSpecSpec : ChangeSpec := { name := "sequenceOrderSpec", fn := fun _ => fun
  | [d] => { results := [.lit (.bool true)], args := [d] }
  | _ => none }
def sequenceOrderSpecRow : OpenClaim := { program := "ytefamlckjpbcoaa", sum := "be7b16ed471d5bda3b9ea80096ff5d6d7d988c2574e19421cb59840036c5f034", func := "chartroom/chartroomlaw13.SequenceOrderSpec", spec := "sequenceOrderSpec", unfollowed := true, recurses := true, plainKeys := false, apart := false }
def SequenceOrderSpecSaid : Prop := sequenceOrderSpecRow.holds Try.pinned (OpenSpec.ofChange sequenceOrderSpecSpec)

/-- ITS FALSE NEIGHBOUR: 'it returns false'. Refute it at one input. -/
def sequenceOrderSpecWrong : ChangeSpec := { name := "sequenceOrderSpec", fn := fun _ => fun
  | [d] => { results := [.lit (.bool false)], args := [d] }
  | _ => none }
def SequenceOrderSpecWrongFalsely : Prop := sequenceOrderSpecRow.holds Try.pinned (OpenSpec.ofChange sequenceOrderSpecWrong)

/-- 'chartroomlaw13.SequenceInsertSpec': WHATEVER THE INPUT: true; the input reads as it did. -/
def sequenceInsertSpecSpec : ChangeSpec := { name := "sequenceInsertSpec", fn := fun _ => fun
  | [d1, d2, d3] => { results := [.lit (.bool true)], args := [d1, d2, d3] }
  | _ => none }
def sequenceInsertSpecRow : OpenClaim := { program := "ytefamlckjpbcoaa", sum := "be7b16ed471d5bda3b9ea80096ff5d6d7d988c2574e19421cb59840036c5f034", func := "chartroom/chartroomlaw13.SequenceInsertSpec", spec := "sequenceInsertSpec", unfollowed := true, recurses := true, plainKeys := false, apart := false }
def SequenceInsertSpecSaid : Prop := sequenceInsertSpecRow.holds Try.pinned (OpenSpec.ofChange sequenceInsertSpecSpec)

/-- ITS FALSE NEIGHBOUR: 'it returns false'. Refute it at one input. -/
def sequenceInsertSpecWrong : ChangeSpec := { name := "sequenceInsertSpec", fn := fun _ => fun
  | [d1, d2, d3] => { results := [.lit (.bool false)], args := [d1, d2, d3] }
  | _ => none }
def SequenceInsertSpecWrongFalsely : Prop := sequenceInsertSpecRow.holds Try.pinned (OpenSpec.ofChange sequenceInsertSpecWrong)

/-- 'chartroomlaw13.SequenceFindSpec': WHATEVER THE INPUT: true; the input reads as it did. -/
def sequenceFindSpecSpec : ChangeSpec := { name := "sequenceFindSpec", fn := fun _ => fun
  | [d1, d2] => { results := [.lit (.bool true)], args := [d1, d2] }
  | _ => none }
def sequenceFindSpecRow : OpenClaim := { program := "ytefamlckjpbcoaa", sum := "be7b16ed471d5bda3b9ea80096ff5d6d7d988c2574e19421cb59840036c5f034", func := "chartroom/chartroomlaw13.SequenceFindSpec", spec := "sequenceFindSpec", unfollowed := true, recurses := true, plainKeys := false, apart := false }
def SequenceFindSpecSaid : Prop := sequenceFindSpecRow.holds Try.pinned (OpenSpec.ofChange sequenceFindSpecSpec)

/-- ITS FALSE NEIGHBOUR: 'it returns false'. Refute it at one input. -/
def sequenceFindSpecWrong : ChangeSpec := { name := "sequenceFindSpec", fn := fun _ => fun
  | [d1, d2] => { results := [.lit (.bool false)], args := [d1, d2] }
  | _ => none }
def SequenceFindSpecWrongFalsely : Prop := sequenceFindSpecRow.holds Try.pinned (OpenSpec.ofChange sequenceFindSpecWrong)

/-- 'chartroomlaw13.SequenceConverges': WHATEVER THE INPUT: true; the input reads as it did. -/
def sequenceConvergesSpec : ChangeSpec := { name := "sequenceConverges", fn := fun _ => fun
  | [d1, d2] => { results := [.lit (.bool true)], args := [d1, d2] }
  | _ => none }
def sequenceConvergesRow : OpenClaim := { program := "ytefamlckjpbcoaa", sum := "be7b16ed471d5bda3b9ea80096ff5d6d7d988c2574e19421cb59840036c5f034", func := "chartroom/chartroomlaw13.SequenceConverges", spec := "sequenceConverges", unfollowed := true, recurses := true, plainKeys := false, apart := false }
def SequenceConvergesSaid : Prop := sequenceConvergesRow.holds Try.pinned (OpenSpec.ofChange sequenceConvergesSpec)

/-- ITS FALSE NEIGHBOUR: 'it returns false'. Refute it at one input. -/
def sequenceConvergesWrong : ChangeSpec := { name := "sequenceConverges", fn := fun _ => fun
  | [d1, d2] => { results := [.lit (.bool false)], args := [d1, d2] }
  | _ => none }
def SequenceConvergesWrongFalsely : Prop := sequenceConvergesRow.holds Try.pinned (OpenSpec.ofChange sequenceConvergesWrong)

/-- 'chartroomlaw13.SequenceBelow': WHATEVER THE INPUT: true; the input reads as it did. -/
def sequenceBelowSpec : ChangeSpec := { name := "sequenceBelow", fn := fun _ => fun
  | [d] => { results := [.lit (.bool true)], args := [d] }
  | _ => none }
def sequenceBelowRow : OpenClaim := { program := "ytefamlckjpbcoaa", sum := "be7b16ed471d5bda3b9ea80096ff5d6d7d988c2574e19421cb59840036c5f034", func := "chartroom/chartroomlaw13.SequenceBelow", spec := "sequenceBelow", unfollowed := true, recurses := true, plainKeys := false, apart := false }
def SequenceBelowSaid : Prop := sequenceBelowRow.holds Try.pinned (OpenSpec.ofChange sequenceBelowSpec)

/-- ITS FALSE NEIGHBOUR: 'it returns false'. Refute it at one input. -/
def sequenceBelowWrong : ChangeSpec := { name := "sequenceBelow", fn := fun _ => fun
  | [d] => { results := [.lit (.bool false)], args := [d] }
  | _ => none }
def SequenceBelowWrongFalsely : Prop := sequenceBelowRow.holds Try.pinned (OpenSpec.ofChange sequenceBelowWrong)

/-- 'chartroomlaw13.SequenceKeeps': WHATEVER THE INPUT: true; the input reads as it did. -/
def sequenceKeepsSpec : ChangeSpec := { name := "sequenceKeeps", fn := fun _ => fun
  | [d1, d2] => { results := [.lit (.bool true)], args := [d1, d2] }
  | _ => none }
def sequenceKeepsRow : OpenClaim := { program := "ytefamlckjpbcoaa", sum := "be7b16ed471d5bda3b9ea80096ff5d6d7d988c2574e19421cb59840036c5f034", func := "chartroom/chartroomlaw13.SequenceKeeps", spec := "sequenceKeeps", unfollowed := true, recurses := true, plainKeys := false, apart := false }
def SequenceKeepsSaid : Prop := sequenceKeepsRow.holds Try.pinned (OpenSpec.ofChange sequenceKeepsSpec)

/-- ITS FALSE NEIGHBOUR: 'it returns false'. Refute it at one input. -/
def sequenceKeepsWrong : ChangeSpec := { name := "sequenceKeeps", fn := fun _ => fun
  | [d1, d2] => { results := [.lit (.bool false)], args := [d1, d2] }
  | _ => none }
def SequenceKeepsWrongFalsely : Prop := sequenceKeepsRow.holds Try.pinned (OpenSpec.ofChange sequenceKeepsWrong)

/-- 'chartroomlaw13.SequenceErases': WHATEVER THE INPUT: true; the input reads as it did. -/
def sequenceErasesSpec : ChangeSpec := { name := "sequenceErases", fn := fun _ => fun
  | [d1, d2, d3, d4] => { results := [.lit (.bool true)], args := [d1, d2, d3, d4] }
  | _ => none }
def sequenceErasesRow : OpenClaim := { program := "ytefamlckjpbcoaa", sum := "be7b16ed471d5bda3b9ea80096ff5d6d7d988c2574e19421cb59840036c5f034", func := "chartroom/chartroomlaw13.SequenceErases", spec := "sequenceErases", unfollowed := true, recurses := true, plainKeys := false, apart := false }
def SequenceErasesSaid : Prop := sequenceErasesRow.holds Try.pinned (OpenSpec.ofChange sequenceErasesSpec)

/-- ITS FALSE NEIGHBOUR: 'it returns false'. Refute it at one input. -/
def sequenceErasesWrong : ChangeSpec := { name := "sequenceErases", fn := fun _ => fun
  | [d1, d2, d3, d4] => { results := [.lit (.bool false)], args := [d1, d2, d3, d4] }
  | _ => none }
def SequenceErasesWrongFalsely : Prop := sequenceErasesRow.holds Try.pinned (OpenSpec.ofChange sequenceErasesWrong)

/-- 'chartroomlaw13.SequenceAnyOrder': WHATEVER THE INPUT: true; the input reads as it did. -/
def sequenceAnyOrderSpec : ChangeSpec := { name := "sequenceAnyOrder", fn := fun _ => fun
  | [d1, d2] => { results := [.lit (.bool true)], args := [d1, d2] }
  | _ => none }
def sequenceAnyOrderRow : OpenClaim := { program := "ytefamlckjpbcoaa", sum := "be7b16ed471d5bda3b9ea80096ff5d6d7d988c2574e19421cb59840036c5f034", func := "chartroom/chartroomlaw13.SequenceAnyOrder", spec := "sequenceAnyOrder", unfollowed := true, recurses := true, plainKeys := false, apart := false }
def SequenceAnyOrderSaid : Prop := sequenceAnyOrderRow.holds Try.pinned (OpenSpec.ofChange sequenceAnyOrderSpec)

/-- ITS FALSE NEIGHBOUR: 'it returns false'. Refute it at one input. -/
def sequenceAnyOrderWrong : ChangeSpec := { name := "sequenceAnyOrder", fn := fun _ => fun
  | [d1, d2] => { results := [.lit (.bool false)], args := [d1, d2] }
  | _ => none }
def SequenceAnyOrderWrongFalsely : Prop := sequenceAnyOrderRow.holds Try.pinned (OpenSpec.ofChange sequenceAnyOrderWrong)

/- THE SECOND FORM. 'bulk': how many values and letters a reading holds, each counted each time it is reached (what is shared counts as often as it is met; a slice's spare places count too). A statement '..UptoSaid' is the law's where the arguments, and the package variables that the reading takes, are together of bulk at most 1048576: NARROWER than '..Said'. Prove '..Said' where nothing that the law and all that it calls make is longer than what came in: it says more and counts as full. Else prove '..UptoSaid'. A law counts once. -/
mutual
def uptoBulk {H : Type} : DataW H → Nat
  | .lit (.string bytes) => bytes.length + 1
  | .lit _ => 1
  | .nil => 1
  | .ptr d => uptoBulk d + 1
  | .slice elems spare => uptoBulkAll elems + uptoBulkAll spare + 1
  | .agg parts => uptoBulkAll parts + 1
  | .iface _ d => uptoBulk d + 1
  | .map entries => uptoBulkEntries entries + 1
  | .held _ => 1
def uptoBulkAll {H : Type} : List (DataW H) → Nat
  | [] => 0
  | d :: r => uptoBulk d + uptoBulkAll r
def uptoBulkEntries {H : Type} : List (Lit × DataW H) → Nat
  | [] => 0
  | x :: r => uptoBulkEntry x + uptoBulkEntries r
def uptoBulkEntry {H : Type} : Lit × DataW H → Nat
  | (.string bytes, d) => bytes.length + uptoBulk d + 1
  | (_, d) => uptoBulk d + 1
 end
def uptoSmall : (H : Type) → List (DataW H) → Bool := fun _ ds => decide (uptoBulkAll ds ≤ 1048576)
def OpenSpec.upto (s : _root_.Go.ChangeSpec) : _root_.Go.OpenSpec := { _root_.Go.OpenSpec.ofChange s with cond := some uptoSmall }

/-- 'chartroomlaw13.SequenceOrderSpec', WHERE WHAT IT READS IS OF BULK AT MOST 1048576: true; the input reads as it did. -/
def sequenceOrderSpecUptoRow : OpenClaim := { program := "ytefamlckjpbcoaa", sum := "be7b16ed471d5bda3b9ea80096ff5d6d7d988c2574e19421cb59840036c5f034", func := "chartroom/chartroomlaw13.SequenceOrderSpec", spec := "sequenceOrderSpec", unfollowed := true, recurses := true, plainKeys := false, apart := false, narrowed := true }
def SequenceOrderSpecUptoSaid : Prop := sequenceOrderSpecUptoRow.holds Try.pinned (OpenSpec.upto sequenceOrderSpecSpec)

/-- 'chartroomlaw13.SequenceInsertSpec', WHERE WHAT IT READS IS OF BULK AT MOST 1048576: true; the input reads as it did. -/
def sequenceInsertSpecUptoRow : OpenClaim := { program := "ytefamlckjpbcoaa", sum := "be7b16ed471d5bda3b9ea80096ff5d6d7d988c2574e19421cb59840036c5f034", func := "chartroom/chartroomlaw13.SequenceInsertSpec", spec := "sequenceInsertSpec", unfollowed := true, recurses := true, plainKeys := false, apart := false, narrowed := true }
def SequenceInsertSpecUptoSaid : Prop := sequenceInsertSpecUptoRow.holds Try.pinned (OpenSpec.upto sequenceInsertSpecSpec)

/-- 'chartroomlaw13.SequenceFindSpec', WHERE WHAT IT READS IS OF BULK AT MOST 1048576: true; the input reads as it did. -/
def sequenceFindSpecUptoRow : OpenClaim := { program := "ytefamlckjpbcoaa", sum := "be7b16ed471d5bda3b9ea80096ff5d6d7d988c2574e19421cb59840036c5f034", func := "chartroom/chartroomlaw13.SequenceFindSpec", spec := "sequenceFindSpec", unfollowed := true, recurses := true, plainKeys := false, apart := false, narrowed := true }
def SequenceFindSpecUptoSaid : Prop := sequenceFindSpecUptoRow.holds Try.pinned (OpenSpec.upto sequenceFindSpecSpec)

/-- 'chartroomlaw13.SequenceConverges', WHERE WHAT IT READS IS OF BULK AT MOST 1048576: true; the input reads as it did. -/
def sequenceConvergesUptoRow : OpenClaim := { program := "ytefamlckjpbcoaa", sum := "be7b16ed471d5bda3b9ea80096ff5d6d7d988c2574e19421cb59840036c5f034", func := "chartroom/chartroomlaw13.SequenceConverges", spec := "sequenceConverges", unfollowed := true, recurses := true, plainKeys := false, apart := false, narrowed := true }
def SequenceConvergesUptoSaid : Prop := sequenceConvergesUptoRow.holds Try.pinned (OpenSpec.upto sequenceConvergesSpec)

/-- 'chartroomlaw13.SequenceBelow', WHERE WHAT IT READS IS OF BULK AT MOST 1048576: true; the input reads as it did. -/
def sequenceBelowUptoRow : OpenClaim := { program := "ytefamlckjpbcoaa", sum := "be7b16ed471d5bda3b9ea80096ff5d6d7d988c2574e19421cb59840036c5f034", func := "chartroom/chartroomlaw13.SequenceBelow", spec := "sequenceBelow", unfollowed := true, recurses := true, plainKeys := false, apart := false, narrowed := true }
def SequenceBelowUptoSaid : Prop := sequenceBelowUptoRow.holds Try.pinned (OpenSpec.upto sequenceBelowSpec)

/-- 'chartroomlaw13.SequenceKeeps', WHERE WHAT IT READS IS OF BULK AT MOST 1048576: true; the input reads as it did. -/
def sequenceKeepsUptoRow : OpenClaim := { program := "ytefamlckjpbcoaa", sum := "be7b16ed471d5bda3b9ea80096ff5d6d7d988c2574e19421cb59840036c5f034", func := "chartroom/chartroomlaw13.SequenceKeeps", spec := "sequenceKeeps", unfollowed := true, recurses := true, plainKeys := false, apart := false, narrowed := true }
def SequenceKeepsUptoSaid : Prop := sequenceKeepsUptoRow.holds Try.pinned (OpenSpec.upto sequenceKeepsSpec)

/-- 'chartroomlaw13.SequenceErases', WHERE WHAT IT READS IS OF BULK AT MOST 1048576: true; the input reads as it did. -/
def sequenceErasesUptoRow : OpenClaim := { program := "ytefamlckjpbcoaa", sum := "be7b16ed471d5bda3b9ea80096ff5d6d7d988c2574e19421cb59840036c5f034", func := "chartroom/chartroomlaw13.SequenceErases", spec := "sequenceErases", unfollowed := true, recurses := true, plainKeys := false, apart := false, narrowed := true }
def SequenceErasesUptoSaid : Prop := sequenceErasesUptoRow.holds Try.pinned (OpenSpec.upto sequenceErasesSpec)

/-- 'chartroomlaw13.SequenceAnyOrder', WHERE WHAT IT READS IS OF BULK AT MOST 1048576: true; the input reads as it did. -/
def sequenceAnyOrderUptoRow : OpenClaim := { program := "ytefamlckjpbcoaa", sum := "be7b16ed471d5bda3b9ea80096ff5d6d7d988c2574e19421cb59840036c5f034", func := "chartroom/chartroomlaw13.SequenceAnyOrder", spec := "sequenceAnyOrder", unfollowed := true, recurses := true, plainKeys := false, apart := false, narrowed := true }
def SequenceAnyOrderUptoSaid : Prop := sequenceAnyOrderUptoRow.holds Try.pinned (OpenSpec.upto sequenceAnyOrderSpec)

end Rows
end Go.Proofs.Ytefamlckjpbcoaa
