/-
  NARROWER THAN 'FOR EVERY INPUT', by the rows' own cells (each row's printed sentence says how): MergeUnionSpec: laid · MergeReadySpec: laid · MergeUptoSpec: laid · MergeConverges: laid · MergeAnyOrder: laid · MergeApplies: laid · MergeWaits: laid · MergeMore: laid.
  DERIVED. THE GIVEN ROWS OF THIS SEAT. 8 by the template 'for every input the law returns true; each argument reads behind the call as it read before'; 0 by the template 'total and deterministic' (their statements: YtihbnnkcemjflaaGreatDoorTotals.lean).
  GIVEN WITH THE SEED: the statements are not yours to turn. If you find one false, say at which input.
  Laid BY PROGRAM, IN A SANDBOX (cutbox-rows.mjs): the forced cells as the released guide's own fill.sh prints them over the translation 3c2bf6e8d8bdb3f2… (all of the seat's roots in one cut). By AI agents, Wed Nov 11 2026. No macro, syntax, notation, axiom, sorry.
-/
import Derived.Test.YtihbnnkcemjflaaGreatDoorChecked
import GoSem.Claim
import GoSem.ClaimJoined
import GoSem.ClaimMapViews
import Derived.JoinedTies
import Derived.KernelRfl
namespace Go.Proofs.YtihbnnkcemjflaaGreatDoor
/- THE CELL 'sum', in the pinned program and in every row, IS THE sha256 OF THE DUMP (.gsa) THAT YtihbnnkcemjflaaGreatDoorProg.lean LOADS. Nothing in Lean hashes anything: it is a label: what it is worth is what the hold of that sum in a sandbox is worth. -/
noncomputable def Tryz.pinned : Pinned := { name := "ytihbnnkcemjflaagreatdoor", sum := "3c2bf6e8d8bdb3f29ccda6c1d2a9e30e4ba8c6b35d341642a18633464a80717d", checked := Tryz.checked }
namespace Rows
def none {H : Type} : Left H := { results := [], args := [] }

/- WHAT THE LISTED PACKAGE-LEVEL VARIABLES READ AS WHEN THE CALL BEGINS. Each datum BY PROGRAM (the guide's laid-datum.mjs) off the statement by which the dump's own 'gosem.cut.vars' lays the variable. In a bare row this is a premise. The card (YtihbnnkcemjflaaGreatDoorCards.lean) ties it to the program's text. -/
def laid_chartroom_vector_greater {H : Type} : DataW H := .iface "func table" (.agg [.iface "func" (.lit (.string [99, 104, 97, 114, 116, 114, 111, 111, 109, 47, 118, 101, 99, 116, 111, 114, 46, 103, 114, 101, 97, 116, 101, 114, 36, 49]))])
def laid_chartroom_ops_kinds {H : Type} : DataW H := .iface "func table" (.map [(.int .i64 1, .agg [.lit (.int .i64 1), .iface "func" (.lit (.string [99, 104, 97, 114, 116, 114, 111, 111, 109, 47, 111, 112, 115, 46, 107, 105, 110, 100, 115, 36, 49]))]), (.int .i64 2, .agg [.lit (.int .i64 1), .iface "func" (.lit (.string [99, 104, 97, 114, 116, 114, 111, 111, 109, 47, 111, 112, 115, 46, 107, 105, 110, 100, 115, 36, 50]))]), (.int .i64 3, .agg [.lit (.int .i64 2), .iface "func" (.lit (.string [99, 104, 97, 114, 116, 114, 111, 111, 109, 47, 111, 112, 115, 46, 107, 105, 110, 100, 115, 36, 51]))]), (.int .i64 4, .agg [.lit (.int .i64 2), .iface "func" (.lit (.string [99, 104, 97, 114, 116, 114, 111, 111, 109, 47, 111, 112, 115, 46, 107, 105, 110, 100, 115, 36, 52]))]), (.int .i64 5, .agg [.lit (.int .i64 3), .iface "func" (.lit (.string [99, 104, 97, 114, 116, 114, 111, 111, 109, 47, 111, 112, 115, 46, 107, 105, 110, 100, 115, 36, 53]))]), (.int .i64 6, .agg [.lit (.int .i64 4), .iface "func" (.lit (.string [99, 104, 97, 114, 116, 114, 111, 111, 109, 47, 111, 112, 115, 46, 107, 105, 110, 100, 115, 36, 54]))]), (.int .i64 7, .agg [.lit (.int .i64 4), .iface "func" (.lit (.string [99, 104, 97, 114, 116, 114, 111, 111, 109, 47, 111, 112, 115, 46, 107, 105, 110, 100, 115, 36, 55]))]), (.int .i64 8, .agg [.lit (.int .i64 4), .iface "func" (.lit (.string [99, 104, 97, 114, 116, 114, 111, 111, 109, 47, 111, 112, 115, 46, 107, 105, 110, 100, 115, 36, 56]))])])
def laid_chartroom_document_effects {H : Type} : DataW H := .iface "func table" (.map [(.int .i64 1, .agg [.iface "func" (.lit (.string [99, 104, 97, 114, 116, 114, 111, 111, 109, 47, 100, 111, 99, 117, 109, 101, 110, 116, 46, 101, 102, 102, 101, 99, 116, 115, 36, 49]))]), (.int .i64 2, .agg [.iface "func" (.lit (.string [99, 104, 97, 114, 116, 114, 111, 111, 109, 47, 100, 111, 99, 117, 109, 101, 110, 116, 46, 101, 102, 102, 101, 99, 116, 115, 36, 50]))]), (.int .i64 3, .agg [.iface "func" (.lit (.string [99, 104, 97, 114, 116, 114, 111, 111, 109, 47, 100, 111, 99, 117, 109, 101, 110, 116, 46, 101, 102, 102, 101, 99, 116, 115, 36, 51]))]), (.int .i64 4, .agg [.iface "func" (.lit (.string [99, 104, 97, 114, 116, 114, 111, 111, 109, 47, 100, 111, 99, 117, 109, 101, 110, 116, 46, 101, 102, 102, 101, 99, 116, 115, 36, 52]))]), (.int .i64 5, .agg [.iface "func" (.lit (.string [99, 104, 97, 114, 116, 114, 111, 111, 109, 47, 100, 111, 99, 117, 109, 101, 110, 116, 46, 101, 102, 102, 101, 99, 116, 115, 36, 53]))]), (.int .i64 6, .agg [.iface "func" (.lit (.string [99, 104, 97, 114, 116, 114, 111, 111, 109, 47, 100, 111, 99, 117, 109, 101, 110, 116, 46, 101, 102, 102, 101, 99, 116, 115, 36, 54]))]), (.int .i64 7, .agg [.iface "func" (.lit (.string [99, 104, 97, 114, 116, 114, 111, 111, 109, 47, 100, 111, 99, 117, 109, 101, 110, 116, 46, 101, 102, 102, 101, 99, 116, 115, 36, 55]))]), (.int .i64 8, .agg [.iface "func" (.lit (.string [99, 104, 97, 114, 116, 114, 111, 111, 109, 47, 100, 111, 99, 117, 109, 101, 110, 116, 46, 101, 102, 102, 101, 99, 116, 115, 36, 56]))])])

/-- 'chartroomlaw19.MergeUnionSpec': WHATEVER THE INPUT: true; the input reads as it did. -/
def mergeUnionSpecSpec : ChangeSpec := { name := "mergeUnionSpec", fn := fun _ => fun
  | [d1, d2] => { results := [.lit (.bool true)], args := [d1, d2] }
  | _ => none }
def mergeUnionSpecRow : OpenClaim := { program := "ytihbnnkcemjflaagreatdoor", sum := "3c2bf6e8d8bdb3f29ccda6c1d2a9e30e4ba8c6b35d341642a18633464a80717d", func := "chartroom/chartroomlaw19.MergeUnionSpec", spec := "mergeUnionSpec", inPlace := ["internal/bytealg.Compare", "slices.overlaps[chartroom/api.Field]"], unfollowed := true, recurses := true, named := ["chartroom/ops.kinds", "chartroom/vector.greater", "chartroom/document.effects"], plainKeys := false, apart := false, laid := [("chartroom/vector.greater", laid_chartroom_vector_greater), ("chartroom/ops.kinds", laid_chartroom_ops_kinds), ("chartroom/document.effects", laid_chartroom_document_effects)] }
def MergeUnionSpecSaid : Prop := mergeUnionSpecRow.holds Tryz.pinned (OpenSpec.ofChange mergeUnionSpecSpec)

/-- ITS FALSE NEIGHBOUR: 'it returns false'. Refute it at one input. -/
def mergeUnionSpecWrong : ChangeSpec := { name := "mergeUnionSpec", fn := fun _ => fun
  | [d1, d2] => { results := [.lit (.bool false)], args := [d1, d2] }
  | _ => none }
def MergeUnionSpecWrongFalsely : Prop := mergeUnionSpecRow.holds Tryz.pinned (OpenSpec.ofChange mergeUnionSpecWrong)

/-- 'chartroomlaw19.MergeReadySpec': WHATEVER THE INPUT: true; the input reads as it did. -/
def mergeReadySpecSpec : ChangeSpec := { name := "mergeReadySpec", fn := fun _ => fun
  | [d] => { results := [.lit (.bool true)], args := [d] }
  | _ => none }
def mergeReadySpecRow : OpenClaim := { program := "ytihbnnkcemjflaagreatdoor", sum := "3c2bf6e8d8bdb3f29ccda6c1d2a9e30e4ba8c6b35d341642a18633464a80717d", func := "chartroom/chartroomlaw19.MergeReadySpec", spec := "mergeReadySpec", inPlace := ["internal/bytealg.Compare", "slices.overlaps[chartroom/api.Field]"], unfollowed := true, recurses := true, named := ["chartroom/ops.kinds", "chartroom/vector.greater", "chartroom/document.effects"], plainKeys := false, apart := false, laid := [("chartroom/vector.greater", laid_chartroom_vector_greater), ("chartroom/ops.kinds", laid_chartroom_ops_kinds), ("chartroom/document.effects", laid_chartroom_document_effects)] }
def MergeReadySpecSaid : Prop := mergeReadySpecRow.holds Tryz.pinned (OpenSpec.ofChange mergeReadySpecSpec)

/-- ITS FALSE NEIGHBOUR: 'it returns false'. Refute it at one input. -/
def mergeReadySpecWrong : ChangeSpec := { name := "mergeReadySpec", fn := fun _ => fun
  | [d] => { results := [.lit (.bool false)], args := [d] }
  | _ => none }
def MergeReadySpecWrongFalsely : Prop := mergeReadySpecRow.holds Tryz.pinned (OpenSpec.ofChange mergeReadySpecWrong)

/-- 'chartroomlaw19.MergeUptoSpec': WHATEVER THE INPUT: true; the input reads as it did. -/
def mergeUptoSpecSpec : ChangeSpec := { name := "mergeUptoSpec", fn := fun _ => fun
  | [d1, d2] => { results := [.lit (.bool true)], args := [d1, d2] }
  | _ => none }
def mergeUptoSpecRow : OpenClaim := { program := "ytihbnnkcemjflaagreatdoor", sum := "3c2bf6e8d8bdb3f29ccda6c1d2a9e30e4ba8c6b35d341642a18633464a80717d", func := "chartroom/chartroomlaw19.MergeUptoSpec", spec := "mergeUptoSpec", inPlace := ["internal/bytealg.Compare", "slices.overlaps[chartroom/api.Field]"], unfollowed := true, recurses := true, named := ["chartroom/ops.kinds", "chartroom/vector.greater", "chartroom/document.effects"], plainKeys := false, apart := false, laid := [("chartroom/vector.greater", laid_chartroom_vector_greater), ("chartroom/ops.kinds", laid_chartroom_ops_kinds), ("chartroom/document.effects", laid_chartroom_document_effects)] }
def MergeUptoSpecSaid : Prop := mergeUptoSpecRow.holds Tryz.pinned (OpenSpec.ofChange mergeUptoSpecSpec)

/-- ITS FALSE NEIGHBOUR: 'it returns false'. Refute it at one input. -/
def mergeUptoSpecWrong : ChangeSpec := { name := "mergeUptoSpec", fn := fun _ => fun
  | [d1, d2] => { results := [.lit (.bool false)], args := [d1, d2] }
  | _ => none }
def MergeUptoSpecWrongFalsely : Prop := mergeUptoSpecRow.holds Tryz.pinned (OpenSpec.ofChange mergeUptoSpecWrong)

/-- 'chartroomlaw19.MergeConverges': WHATEVER THE INPUT: true; the input reads as it did. -/
def mergeConvergesSpec : ChangeSpec := { name := "mergeConverges", fn := fun _ => fun
  | [d1, d2, d3] => { results := [.lit (.bool true)], args := [d1, d2, d3] }
  | _ => none }
def mergeConvergesRow : OpenClaim := { program := "ytihbnnkcemjflaagreatdoor", sum := "3c2bf6e8d8bdb3f29ccda6c1d2a9e30e4ba8c6b35d341642a18633464a80717d", func := "chartroom/chartroomlaw19.MergeConverges", spec := "mergeConverges", inPlace := ["internal/bytealg.Compare", "slices.overlaps[chartroom/api.Field]"], unfollowed := true, recurses := true, named := ["chartroom/ops.kinds", "chartroom/vector.greater", "chartroom/document.effects"], plainKeys := false, apart := false, laid := [("chartroom/vector.greater", laid_chartroom_vector_greater), ("chartroom/ops.kinds", laid_chartroom_ops_kinds), ("chartroom/document.effects", laid_chartroom_document_effects)] }
def MergeConvergesSaid : Prop := mergeConvergesRow.holds Tryz.pinned (OpenSpec.ofChange mergeConvergesSpec)

/-- ITS FALSE NEIGHBOUR: 'it returns false'. Refute it at one input. -/
def mergeConvergesWrong : ChangeSpec := { name := "mergeConverges", fn := fun _ => fun
  | [d1, d2, d3] => { results := [.lit (.bool false)], args := [d1, d2, d3] }
  | _ => none }
def MergeConvergesWrongFalsely : Prop := mergeConvergesRow.holds Tryz.pinned (OpenSpec.ofChange mergeConvergesWrong)

/-- 'chartroomlaw19.MergeAnyOrder': WHATEVER THE INPUT: true; the input reads as it did. -/
def mergeAnyOrderSpec : ChangeSpec := { name := "mergeAnyOrder", fn := fun _ => fun
  | [d1, d2] => { results := [.lit (.bool true)], args := [d1, d2] }
  | _ => none }
def mergeAnyOrderRow : OpenClaim := { program := "ytihbnnkcemjflaagreatdoor", sum := "3c2bf6e8d8bdb3f29ccda6c1d2a9e30e4ba8c6b35d341642a18633464a80717d", func := "chartroom/chartroomlaw19.MergeAnyOrder", spec := "mergeAnyOrder", inPlace := ["internal/bytealg.Compare", "slices.overlaps[chartroom/api.Field]"], unfollowed := true, recurses := true, named := ["chartroom/ops.kinds", "chartroom/vector.greater", "chartroom/document.effects"], plainKeys := false, apart := false, laid := [("chartroom/vector.greater", laid_chartroom_vector_greater), ("chartroom/ops.kinds", laid_chartroom_ops_kinds), ("chartroom/document.effects", laid_chartroom_document_effects)] }
def MergeAnyOrderSaid : Prop := mergeAnyOrderRow.holds Tryz.pinned (OpenSpec.ofChange mergeAnyOrderSpec)

/-- ITS FALSE NEIGHBOUR: 'it returns false'. Refute it at one input. -/
def mergeAnyOrderWrong : ChangeSpec := { name := "mergeAnyOrder", fn := fun _ => fun
  | [d1, d2] => { results := [.lit (.bool false)], args := [d1, d2] }
  | _ => none }
def MergeAnyOrderWrongFalsely : Prop := mergeAnyOrderRow.holds Tryz.pinned (OpenSpec.ofChange mergeAnyOrderWrong)

/-- 'chartroomlaw19.MergeApplies': WHATEVER THE INPUT: true; the input reads as it did. -/
def mergeAppliesSpec : ChangeSpec := { name := "mergeApplies", fn := fun _ => fun
  | [d] => { results := [.lit (.bool true)], args := [d] }
  | _ => none }
def mergeAppliesRow : OpenClaim := { program := "ytihbnnkcemjflaagreatdoor", sum := "3c2bf6e8d8bdb3f29ccda6c1d2a9e30e4ba8c6b35d341642a18633464a80717d", func := "chartroom/chartroomlaw19.MergeApplies", spec := "mergeApplies", inPlace := ["internal/bytealg.Compare", "slices.overlaps[chartroom/api.Field]"], unfollowed := true, recurses := true, named := ["chartroom/ops.kinds", "chartroom/vector.greater", "chartroom/document.effects"], plainKeys := false, apart := false, laid := [("chartroom/vector.greater", laid_chartroom_vector_greater), ("chartroom/ops.kinds", laid_chartroom_ops_kinds), ("chartroom/document.effects", laid_chartroom_document_effects)] }
def MergeAppliesSaid : Prop := mergeAppliesRow.holds Tryz.pinned (OpenSpec.ofChange mergeAppliesSpec)

/-- ITS FALSE NEIGHBOUR: 'it returns false'. Refute it at one input. -/
def mergeAppliesWrong : ChangeSpec := { name := "mergeApplies", fn := fun _ => fun
  | [d] => { results := [.lit (.bool false)], args := [d] }
  | _ => none }
def MergeAppliesWrongFalsely : Prop := mergeAppliesRow.holds Tryz.pinned (OpenSpec.ofChange mergeAppliesWrong)

/-- 'chartroomlaw19.MergeWaits': WHATEVER THE INPUT: true; the input reads as it did. -/
def mergeWaitsSpec : ChangeSpec := { name := "mergeWaits", fn := fun _ => fun
  | [d] => { results := [.lit (.bool true)], args := [d] }
  | _ => none }
def mergeWaitsRow : OpenClaim := { program := "ytihbnnkcemjflaagreatdoor", sum := "3c2bf6e8d8bdb3f29ccda6c1d2a9e30e4ba8c6b35d341642a18633464a80717d", func := "chartroom/chartroomlaw19.MergeWaits", spec := "mergeWaits", inPlace := ["internal/bytealg.Compare", "slices.overlaps[chartroom/api.Field]"], unfollowed := true, recurses := true, named := ["chartroom/ops.kinds", "chartroom/vector.greater", "chartroom/document.effects"], plainKeys := false, apart := false, laid := [("chartroom/vector.greater", laid_chartroom_vector_greater), ("chartroom/ops.kinds", laid_chartroom_ops_kinds), ("chartroom/document.effects", laid_chartroom_document_effects)] }
def MergeWaitsSaid : Prop := mergeWaitsRow.holds Tryz.pinned (OpenSpec.ofChange mergeWaitsSpec)

/-- ITS FALSE NEIGHBOUR: 'it returns false'. Refute it at one input. -/
def mergeWaitsWrong : ChangeSpec := { name := "mergeWaits", fn := fun _ => fun
  | [d] => { results := [.lit (.bool false)], args := [d] }
  | _ => none }
def MergeWaitsWrongFalsely : Prop := mergeWaitsRow.holds Tryz.pinned (OpenSpec.ofChange mergeWaitsWrong)

/-- 'chartroomlaw19.MergeMore': WHATEVER THE INPUT: true; the input reads as it did. -/
def mergeMoreSpec : ChangeSpec := { name := "mergeMore", fn := fun _ => fun
  | [d1, d2] => { results := [.lit (.bool true)], args := [d1, d2] }
  | _ => none }
def mergeMoreRow : OpenClaim := { program := "ytihbnnkcemjflaagreatdoor", sum := "3c2bf6e8d8bdb3f29ccda6c1d2a9e30e4ba8c6b35d341642a18633464a80717d", func := "chartroom/chartroomlaw19.MergeMore", spec := "mergeMore", inPlace := ["internal/bytealg.Compare", "slices.overlaps[chartroom/api.Field]"], unfollowed := true, recurses := true, named := ["chartroom/ops.kinds", "chartroom/vector.greater", "chartroom/document.effects"], plainKeys := false, apart := false, laid := [("chartroom/vector.greater", laid_chartroom_vector_greater), ("chartroom/ops.kinds", laid_chartroom_ops_kinds), ("chartroom/document.effects", laid_chartroom_document_effects)] }
def MergeMoreSaid : Prop := mergeMoreRow.holds Tryz.pinned (OpenSpec.ofChange mergeMoreSpec)

/-- ITS FALSE NEIGHBOUR: 'it returns false'. Refute it at one input. -/
def mergeMoreWrong : ChangeSpec := { name := "mergeMore", fn := fun _ => fun
  | [d1, d2] => { results := [.lit (.bool false)], args := [d1, d2] }
  | _ => none }
def MergeMoreWrongFalsely : Prop := mergeMoreRow.holds Tryz.pinned (OpenSpec.ofChange mergeMoreWrong)

/- THE SECOND FORM. 'bulk': how many values and letters a reading holds, each counted each time it is reached (what is shared counts as often as it is met; a slice's spare places count too). A statement '..UptoSaid' is the law's where the arguments, and the package variables that the reading takes, are together of bulk at most 1048576: NARROWER than '..Said'. Prove '..Said' where nothing that the law and all that it calls make is longer than what came in: it says more and counts as full. Else prove '..UptoSaid'. A law counts once. -/
mutual
def uptoBulk {H : Type} : DataW H → Nat
  | .lit (.string bytes) => bytes.length + 1
  | .lit _ => 1
  | .nil => 1
  | .ptr d => uptoBulk d + 1
  | .slice elems spare => uptoBulkAll elems + uptoBulkAll spare + 1
  | .agg parts => uptoBulkAll parts + 1
  | .iface _ d => uptoBulk d + 1
  | .map entries => uptoBulkEntries entries + 1
  | .held _ => 1
def uptoBulkAll {H : Type} : List (DataW H) → Nat
  | [] => 0
  | d :: r => uptoBulk d + uptoBulkAll r
def uptoBulkEntries {H : Type} : List (Lit × DataW H) → Nat
  | [] => 0
  | x :: r => uptoBulkEntry x + uptoBulkEntries r
def uptoBulkEntry {H : Type} : Lit × DataW H → Nat
  | (.string bytes, d) => bytes.length + uptoBulk d + 1
  | (_, d) => uptoBulk d + 1
 end
def uptoSmall : (H : Type) → List (DataW H) → Bool := fun _ ds => decide (uptoBulkAll ds ≤ 1048576)
def OpenSpec.upto (s : _root_.Go.ChangeSpec) : _root_.Go.OpenSpec := { _root_.Go.OpenSpec.ofChange s with cond := some uptoSmall }

/-- 'chartroomlaw19.MergeUnionSpec', WHERE WHAT IT READS IS OF BULK AT MOST 1048576: true; the input reads as it did. -/
def mergeUnionSpecUptoRow : OpenClaim := { program := "ytihbnnkcemjflaagreatdoor", sum := "3c2bf6e8d8bdb3f29ccda6c1d2a9e30e4ba8c6b35d341642a18633464a80717d", func := "chartroom/chartroomlaw19.MergeUnionSpec", spec := "mergeUnionSpec", inPlace := ["internal/bytealg.Compare", "slices.overlaps[chartroom/api.Field]"], unfollowed := true, recurses := true, named := ["chartroom/ops.kinds", "chartroom/vector.greater", "chartroom/document.effects"], plainKeys := false, apart := false, laid := [("chartroom/vector.greater", laid_chartroom_vector_greater), ("chartroom/ops.kinds", laid_chartroom_ops_kinds), ("chartroom/document.effects", laid_chartroom_document_effects)], narrowed := true }
def MergeUnionSpecUptoSaid : Prop := mergeUnionSpecUptoRow.holds Tryz.pinned (OpenSpec.upto mergeUnionSpecSpec)

/-- 'chartroomlaw19.MergeReadySpec', WHERE WHAT IT READS IS OF BULK AT MOST 1048576: true; the input reads as it did. -/
def mergeReadySpecUptoRow : OpenClaim := { program := "ytihbnnkcemjflaagreatdoor", sum := "3c2bf6e8d8bdb3f29ccda6c1d2a9e30e4ba8c6b35d341642a18633464a80717d", func := "chartroom/chartroomlaw19.MergeReadySpec", spec := "mergeReadySpec", inPlace := ["internal/bytealg.Compare", "slices.overlaps[chartroom/api.Field]"], unfollowed := true, recurses := true, named := ["chartroom/ops.kinds", "chartroom/vector.greater", "chartroom/document.effects"], plainKeys := false, apart := false, laid := [("chartroom/vector.greater", laid_chartroom_vector_greater), ("chartroom/ops.kinds", laid_chartroom_ops_kinds), ("chartroom/document.effects", laid_chartroom_document_effects)], narrowed := true }
def MergeReadySpecUptoSaid : Prop := mergeReadySpecUptoRow.holds Tryz.pinned (OpenSpec.upto mergeReadySpecSpec)

/-- 'chartroomlaw19.MergeUptoSpec', WHERE WHAT IT READS IS OF BULK AT MOST 1048576: true; the input reads as it did. -/
def mergeUptoSpecUptoRow : OpenClaim := { program := "ytihbnnkcemjflaagreatdoor", sum := "3c2bf6e8d8bdb3f29ccda6c1d2a9e30e4ba8c6b35d341642a18633464a80717d", func := "chartroom/chartroomlaw19.MergeUptoSpec", spec := "mergeUptoSpec", inPlace := ["internal/bytealg.Compare", "slices.overlaps[chartroom/api.Field]"], unfollowed := true, recurses := true, named := ["chartroom/ops.kinds", "chartroom/vector.greater", "chartroom/document.effects"], plainKeys := false, apart := false, laid := [("chartroom/vector.greater", laid_chartroom_vector_greater), ("chartroom/ops.kinds", laid_chartroom_ops_kinds), ("chartroom/document.effects", laid_chartroom_document_effects)], narrowed := true }
def MergeUptoSpecUptoSaid : Prop := mergeUptoSpecUptoRow.holds Tryz.pinned (OpenSpec.upto mergeUptoSpecSpec)

/-- 'chartroomlaw19.MergeConverges', WHERE WHAT IT READS IS OF BULK AT MOST 1048576: true; the input reads as it did. -/
def mergeConvergesUptoRow : OpenClaim := { program := "ytihbnnkcemjflaagreatdoor", sum := "3c2bf6e8d8bdb3f29ccda6c1d2a9e30e4ba8c6b35d341642a18633464a80717d", func := "chartroom/chartroomlaw19.MergeConverges", spec := "mergeConverges", inPlace := ["internal/bytealg.Compare", "slices.overlaps[chartroom/api.Field]"], unfollowed := true, recurses := true, named := ["chartroom/ops.kinds", "chartroom/vector.greater", "chartroom/document.effects"], plainKeys := false, apart := false, laid := [("chartroom/vector.greater", laid_chartroom_vector_greater), ("chartroom/ops.kinds", laid_chartroom_ops_kinds), ("chartroom/document.effects", laid_chartroom_document_effects)], narrowed := true }
def MergeConvergesUptoSaid : Prop := mergeConvergesUptoRow.holds Tryz.pinned (OpenSpec.upto mergeConvergesSpec)

/-- 'chartroomlaw19.MergeAnyOrder', WHERE WHAT IT READS IS OF BULK AT MOST 1048576: true; the input reads as it did. -/
def mergeAnyOrderUptoRow : OpenClaim := { program := "ytihbnnkcemjflaagreatdoor", sum := "3c2bf6e8d8bdb3f29ccda6c1d2a9e30e4ba8c6b35d341642a18633464a80717d", func := "chartroom/chartroomlaw19.MergeAnyOrder", spec := "mergeAnyOrder", inPlace := ["internal/bytealg.Compare", "slices.overlaps[chartroom/api.Field]"], unfollowed := true, recurses := true, named := ["chartroom/ops.kinds", "chartroom/vector.greater", "chartroom/document.effects"], plainKeys := false, apart := false, laid := [("chartroom/vector.greater", laid_chartroom_vector_greater), ("chartroom/ops.kinds", laid_chartroom_ops_kinds), ("chartroom/document.effects", laid_chartroom_document_effects)], narrowed := true }
def MergeAnyOrderUptoSaid : Prop := mergeAnyOrderUptoRow.holds Tryz.pinned (OpenSpec.upto mergeAnyOrderSpec)

/-- 'chartroomlaw19.MergeApplies', WHERE WHAT IT READS IS OF BULK AT MOST 1048576: true; the input reads as it did. -/
def mergeAppliesUptoRow : OpenClaim := { program := "ytihbnnkcemjflaagreatdoor", sum := "3c2bf6e8d8bdb3f29ccda6c1d2a9e30e4ba8c6b35d341642a18633464a80717d", func := "chartroom/chartroomlaw19.MergeApplies", spec := "mergeApplies", inPlace := ["internal/bytealg.Compare", "slices.overlaps[chartroom/api.Field]"], unfollowed := true, recurses := true, named := ["chartroom/ops.kinds", "chartroom/vector.greater", "chartroom/document.effects"], plainKeys := false, apart := false, laid := [("chartroom/vector.greater", laid_chartroom_vector_greater), ("chartroom/ops.kinds", laid_chartroom_ops_kinds), ("chartroom/document.effects", laid_chartroom_document_effects)], narrowed := true }
def MergeAppliesUptoSaid : Prop := mergeAppliesUptoRow.holds Tryz.pinned (OpenSpec.upto mergeAppliesSpec)

/-- 'chartroomlaw19.MergeWaits', WHERE WHAT IT READS IS OF BULK AT MOST 1048576: true; the input reads as it did. -/
def mergeWaitsUptoRow : OpenClaim := { program := "ytihbnnkcemjflaagreatdoor", sum := "3c2bf6e8d8bdb3f29ccda6c1d2a9e30e4ba8c6b35d341642a18633464a80717d", func := "chartroom/chartroomlaw19.MergeWaits", spec := "mergeWaits", inPlace := ["internal/bytealg.Compare", "slices.overlaps[chartroom/api.Field]"], unfollowed := true, recurses := true, named := ["chartroom/ops.kinds", "chartroom/vector.greater", "chartroom/document.effects"], plainKeys := false, apart := false, laid := [("chartroom/vector.greater", laid_chartroom_vector_greater), ("chartroom/ops.kinds", laid_chartroom_ops_kinds), ("chartroom/document.effects", laid_chartroom_document_effects)], narrowed := true }
def MergeWaitsUptoSaid : Prop := mergeWaitsUptoRow.holds Tryz.pinned (OpenSpec.upto mergeWaitsSpec)

/-- 'chartroomlaw19.MergeMore', WHERE WHAT IT READS IS OF BULK AT MOST 1048576: true; the input reads as it did. -/
def mergeMoreUptoRow : OpenClaim := { program := "ytihbnnkcemjflaagreatdoor", sum := "3c2bf6e8d8bdb3f29ccda6c1d2a9e30e4ba8c6b35d341642a18633464a80717d", func := "chartroom/chartroomlaw19.MergeMore", spec := "mergeMore", inPlace := ["internal/bytealg.Compare", "slices.overlaps[chartroom/api.Field]"], unfollowed := true, recurses := true, named := ["chartroom/ops.kinds", "chartroom/vector.greater", "chartroom/document.effects"], plainKeys := false, apart := false, laid := [("chartroom/vector.greater", laid_chartroom_vector_greater), ("chartroom/ops.kinds", laid_chartroom_ops_kinds), ("chartroom/document.effects", laid_chartroom_document_effects)], narrowed := true }
def MergeMoreUptoSaid : Prop := mergeMoreUptoRow.holds Tryz.pinned (OpenSpec.upto mergeMoreSpec)

end Rows
end Go.Proofs.YtihbnnkcemjflaaGreatDoor
