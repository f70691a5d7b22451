/-
  NARROWER THAN 'FOR EVERY INPUT', by the rows' own cells (each row's printed sentence says how): BindsKnown: laid.
  DERIVED. THE GIVEN ROWS OF THIS SEAT. 1 by the template 'for every input the law returns true; each argument reads behind the call as it read before'; 0 by the template 'total and deterministic' (their statements: YtflocgjejaoeiaaDoorTotals.lean).
  GIVEN WITH THE SEED: the statements are not yours to turn. If you find one false, say at which input.
  Laid BY PROGRAM, IN A SANDBOX (cutbox-rows.mjs): the forced cells as the released guide's own fill.sh prints them over the translation 16e9062cec8b50a7… (all of the seat's roots in one cut). By AI agents, Wed Nov 11 2026. No macro, syntax, notation, axiom, sorry.
-/
import Derived.Test.YtflocgjejaoeiaaDoorChecked
import GoSem.Claim
import GoSem.ClaimJoined
import GoSem.ClaimMapViews
import Derived.JoinedTies
import Derived.KernelRfl
namespace Go.Proofs.YtflocgjejaoeiaaDoor
/- THE CELL 'sum', in the pinned program and in every row, IS THE sha256 OF THE DUMP (.gsa) THAT YtflocgjejaoeiaaDoorProg.lean LOADS. Nothing in Lean hashes anything: it is a label: what it is worth is what the hold of that sum in a sandbox is worth. -/
noncomputable def Tryd.pinned : Pinned := { name := "ytflocgjejaoeiaadoor", sum := "16e9062cec8b50a703a68f63639af3b5def0437804b3e25915c915554a2dc6ff", checked := Tryd.checked }
namespace Rows
def none {H : Type} : Left H := { results := [], args := [] }

/- WHAT THE LISTED PACKAGE-LEVEL VARIABLES READ AS WHEN THE CALL BEGINS. Each datum BY PROGRAM (the guide's laid-datum.mjs) off the statement by which the dump's own 'gosem.cut.vars' lays the variable. In a bare row this is a premise. The card (YtflocgjejaoeiaaDoorCards.lean) ties it to the program's text. -/
def laid_chartroom_vector_greater {H : Type} : DataW H := .iface "func table" (.agg [.iface "func" (.lit (.string [99, 104, 97, 114, 116, 114, 111, 111, 109, 47, 118, 101, 99, 116, 111, 114, 46, 103, 114, 101, 97, 116, 101, 114, 36, 49]))])

/-- 'chartroomlaw14.BindsKnown': WHATEVER THE INPUT: true; the input reads as it did. -/
def bindsKnownSpec : ChangeSpec := { name := "bindsKnown", fn := fun _ => fun
  | [d1, d2] => { results := [.lit (.bool true)], args := [d1, d2] }
  | _ => none }
def bindsKnownRow : OpenClaim := { program := "ytflocgjejaoeiaadoor", sum := "16e9062cec8b50a703a68f63639af3b5def0437804b3e25915c915554a2dc6ff", func := "chartroom/chartroomlaw14.BindsKnown", spec := "bindsKnown", inPlace := ["slices.overlaps[chartroom/api.Bind]"], unfollowed := true, recurses := true, named := ["chartroom/vector.greater"], plainKeys := false, apart := false, laid := [("chartroom/vector.greater", laid_chartroom_vector_greater)] }
def BindsKnownSaid : Prop := bindsKnownRow.holds Tryd.pinned (OpenSpec.ofChange bindsKnownSpec)

/-- ITS FALSE NEIGHBOUR: 'it returns false'. Refute it at one input. -/
def bindsKnownWrong : ChangeSpec := { name := "bindsKnown", fn := fun _ => fun
  | [d1, d2] => { results := [.lit (.bool false)], args := [d1, d2] }
  | _ => none }
def BindsKnownWrongFalsely : Prop := bindsKnownRow.holds Tryd.pinned (OpenSpec.ofChange bindsKnownWrong)

/- THE SECOND FORM. 'bulk': how many values and letters a reading holds, each counted each time it is reached (what is shared counts as often as it is met; a slice's spare places count too). A statement '..UptoSaid' is the law's where the arguments, and the package variables that the reading takes, are together of bulk at most 1048576: NARROWER than '..Said'. Prove '..Said' where nothing that the law and all that it calls make is longer than what came in: it says more and counts as full. Else prove '..UptoSaid'. A law counts once. -/
mutual
def uptoBulk {H : Type} : DataW H → Nat
  | .lit (.string bytes) => bytes.length + 1
  | .lit _ => 1
  | .nil => 1
  | .ptr d => uptoBulk d + 1
  | .slice elems spare => uptoBulkAll elems + uptoBulkAll spare + 1
  | .agg parts => uptoBulkAll parts + 1
  | .iface _ d => uptoBulk d + 1
  | .map entries => uptoBulkEntries entries + 1
  | .held _ => 1
def uptoBulkAll {H : Type} : List (DataW H) → Nat
  | [] => 0
  | d :: r => uptoBulk d + uptoBulkAll r
def uptoBulkEntries {H : Type} : List (Lit × DataW H) → Nat
  | [] => 0
  | x :: r => uptoBulkEntry x + uptoBulkEntries r
def uptoBulkEntry {H : Type} : Lit × DataW H → Nat
  | (.string bytes, d) => bytes.length + uptoBulk d + 1
  | (_, d) => uptoBulk d + 1
 end
def uptoSmall : (H : Type) → List (DataW H) → Bool := fun _ ds => decide (uptoBulkAll ds ≤ 1048576)
def OpenSpec.upto (s : _root_.Go.ChangeSpec) : _root_.Go.OpenSpec := { _root_.Go.OpenSpec.ofChange s with cond := some uptoSmall }

/-- 'chartroomlaw14.BindsKnown', WHERE WHAT IT READS IS OF BULK AT MOST 1048576: true; the input reads as it did. -/
def bindsKnownUptoRow : OpenClaim := { program := "ytflocgjejaoeiaadoor", sum := "16e9062cec8b50a703a68f63639af3b5def0437804b3e25915c915554a2dc6ff", func := "chartroom/chartroomlaw14.BindsKnown", spec := "bindsKnown", inPlace := ["slices.overlaps[chartroom/api.Bind]"], unfollowed := true, recurses := true, named := ["chartroom/vector.greater"], plainKeys := false, apart := false, laid := [("chartroom/vector.greater", laid_chartroom_vector_greater)], narrowed := true }
def BindsKnownUptoSaid : Prop := bindsKnownUptoRow.holds Tryd.pinned (OpenSpec.upto bindsKnownSpec)

end Rows
end Go.Proofs.YtflocgjejaoeiaaDoor
