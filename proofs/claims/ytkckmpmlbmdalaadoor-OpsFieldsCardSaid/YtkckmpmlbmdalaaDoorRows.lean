/-
  NARROWER THAN 'FOR EVERY INPUT', by the rows' own cells (each row's printed sentence says how): OpsCheckSpec: laid · OpsEncodeSpec: laid · OpsBack: laid · OpsContents: laid · OpsOrder: laid · OpsKnows: laid · OpsFields: laid.
  DERIVED. THE GIVEN ROWS OF THIS SEAT. 7 by the template 'for every input the law returns true; each argument reads behind the call as it read before'; 0 by the template 'total and deterministic' (their statements: YtkckmpmlbmdalaaDoorTotals.lean).
  GIVEN WITH THE SEED: the statements are not yours to turn. If you find one false, say at which input.
  Laid BY PROGRAM, IN A SANDBOX (cutbox-rows.mjs): the forced cells as the released guide's own fill.sh prints them over the translation fc75e154f62f3fac… (all of the seat's roots in one cut). By AI agents, Wed Nov 11 2026. No macro, syntax, notation, axiom, sorry.
-/
import Derived.Test.YtkckmpmlbmdalaaDoorChecked
import GoSem.Claim
import GoSem.ClaimJoined
import GoSem.ClaimMapViews
import Derived.JoinedTies
import Derived.KernelRfl
namespace Go.Proofs.YtkckmpmlbmdalaaDoor
/- THE CELL 'sum', in the pinned program and in every row, IS THE sha256 OF THE DUMP (.gsa) THAT YtkckmpmlbmdalaaDoorProg.lean LOADS. Nothing in Lean hashes anything: it is a label: what it is worth is what the hold of that sum in a sandbox is worth. -/
noncomputable def Tryd.pinned : Pinned := { name := "ytkckmpmlbmdalaadoor", sum := "fc75e154f62f3fac0e37b4d5e62f002fb2e3f81646ac8ef38cd54f0a49b9b4b1", checked := Tryd.checked }
namespace Rows
def none {H : Type} : Left H := { results := [], args := [] }

/- WHAT THE LISTED PACKAGE-LEVEL VARIABLES READ AS WHEN THE CALL BEGINS. Each datum BY PROGRAM (the guide's laid-datum.mjs) off the statement by which the dump's own 'gosem.cut.vars' lays the variable. In a bare row this is a premise. The card (YtkckmpmlbmdalaaDoorCards.lean) ties it to the program's text. -/
def laid_chartroom_vector_greater {H : Type} : DataW H := .iface "func table" (.agg [.iface "func" (.lit (.string [99, 104, 97, 114, 116, 114, 111, 111, 109, 47, 118, 101, 99, 116, 111, 114, 46, 103, 114, 101, 97, 116, 101, 114, 36, 49]))])
def laid_chartroom_ops_kinds {H : Type} : DataW H := .iface "func table" (.map [(.int .i64 1, .agg [.lit (.int .i64 1), .iface "func" (.lit (.string [99, 104, 97, 114, 116, 114, 111, 111, 109, 47, 111, 112, 115, 46, 107, 105, 110, 100, 115, 36, 49]))]), (.int .i64 2, .agg [.lit (.int .i64 1), .iface "func" (.lit (.string [99, 104, 97, 114, 116, 114, 111, 111, 109, 47, 111, 112, 115, 46, 107, 105, 110, 100, 115, 36, 50]))]), (.int .i64 3, .agg [.lit (.int .i64 2), .iface "func" (.lit (.string [99, 104, 97, 114, 116, 114, 111, 111, 109, 47, 111, 112, 115, 46, 107, 105, 110, 100, 115, 36, 51]))]), (.int .i64 4, .agg [.lit (.int .i64 2), .iface "func" (.lit (.string [99, 104, 97, 114, 116, 114, 111, 111, 109, 47, 111, 112, 115, 46, 107, 105, 110, 100, 115, 36, 52]))]), (.int .i64 5, .agg [.lit (.int .i64 3), .iface "func" (.lit (.string [99, 104, 97, 114, 116, 114, 111, 111, 109, 47, 111, 112, 115, 46, 107, 105, 110, 100, 115, 36, 53]))]), (.int .i64 6, .agg [.lit (.int .i64 4), .iface "func" (.lit (.string [99, 104, 97, 114, 116, 114, 111, 111, 109, 47, 111, 112, 115, 46, 107, 105, 110, 100, 115, 36, 54]))]), (.int .i64 7, .agg [.lit (.int .i64 4), .iface "func" (.lit (.string [99, 104, 97, 114, 116, 114, 111, 111, 109, 47, 111, 112, 115, 46, 107, 105, 110, 100, 115, 36, 55]))]), (.int .i64 8, .agg [.lit (.int .i64 4), .iface "func" (.lit (.string [99, 104, 97, 114, 116, 114, 111, 111, 109, 47, 111, 112, 115, 46, 107, 105, 110, 100, 115, 36, 56]))])])

/-- 'chartroomlaw17.OpsCheckSpec': WHATEVER THE INPUT: true; the input reads as it did. -/
def opsCheckSpecSpec : ChangeSpec := { name := "opsCheckSpec", fn := fun _ => fun
  | [d1, d2] => { results := [.lit (.bool true)], args := [d1, d2] }
  | _ => none }
def opsCheckSpecRow : OpenClaim := { program := "ytkckmpmlbmdalaadoor", sum := "fc75e154f62f3fac0e37b4d5e62f002fb2e3f81646ac8ef38cd54f0a49b9b4b1", func := "chartroom/chartroomlaw17.OpsCheckSpec", spec := "opsCheckSpec", inPlace := ["internal/bytealg.Compare"], unfollowed := true, recurses := true, named := ["chartroom/ops.kinds", "chartroom/vector.greater"], apart := false, laid := [("chartroom/vector.greater", laid_chartroom_vector_greater), ("chartroom/ops.kinds", laid_chartroom_ops_kinds)] }
def OpsCheckSpecSaid : Prop := opsCheckSpecRow.holds Tryd.pinned (OpenSpec.ofChange opsCheckSpecSpec)

/-- ITS FALSE NEIGHBOUR: 'it returns false'. Refute it at one input. -/
def opsCheckSpecWrong : ChangeSpec := { name := "opsCheckSpec", fn := fun _ => fun
  | [d1, d2] => { results := [.lit (.bool false)], args := [d1, d2] }
  | _ => none }
def OpsCheckSpecWrongFalsely : Prop := opsCheckSpecRow.holds Tryd.pinned (OpenSpec.ofChange opsCheckSpecWrong)

/-- 'chartroomlaw17.OpsEncodeSpec': WHATEVER THE INPUT: true; the input reads as it did. -/
def opsEncodeSpecSpec : ChangeSpec := { name := "opsEncodeSpec", fn := fun _ => fun
  | [d1, d2] => { results := [.lit (.bool true)], args := [d1, d2] }
  | _ => none }
def opsEncodeSpecRow : OpenClaim := { program := "ytkckmpmlbmdalaadoor", sum := "fc75e154f62f3fac0e37b4d5e62f002fb2e3f81646ac8ef38cd54f0a49b9b4b1", func := "chartroom/chartroomlaw17.OpsEncodeSpec", spec := "opsEncodeSpec", inPlace := ["internal/bytealg.Compare"], unfollowed := true, recurses := true, named := ["chartroom/ops.kinds", "chartroom/vector.greater"], apart := false, laid := [("chartroom/vector.greater", laid_chartroom_vector_greater), ("chartroom/ops.kinds", laid_chartroom_ops_kinds)] }
def OpsEncodeSpecSaid : Prop := opsEncodeSpecRow.holds Tryd.pinned (OpenSpec.ofChange opsEncodeSpecSpec)

/-- ITS FALSE NEIGHBOUR: 'it returns false'. Refute it at one input. -/
def opsEncodeSpecWrong : ChangeSpec := { name := "opsEncodeSpec", fn := fun _ => fun
  | [d1, d2] => { results := [.lit (.bool false)], args := [d1, d2] }
  | _ => none }
def OpsEncodeSpecWrongFalsely : Prop := opsEncodeSpecRow.holds Tryd.pinned (OpenSpec.ofChange opsEncodeSpecWrong)

/-- 'chartroomlaw17.OpsBack': WHATEVER THE INPUT: true; the input reads as it did. -/
def opsBackSpec : ChangeSpec := { name := "opsBack", fn := fun _ => fun
  | [d1, d2] => { results := [.lit (.bool true)], args := [d1, d2] }
  | _ => none }
def opsBackRow : OpenClaim := { program := "ytkckmpmlbmdalaadoor", sum := "fc75e154f62f3fac0e37b4d5e62f002fb2e3f81646ac8ef38cd54f0a49b9b4b1", func := "chartroom/chartroomlaw17.OpsBack", spec := "opsBack", inPlace := ["internal/bytealg.Compare"], unfollowed := true, recurses := true, named := ["chartroom/ops.kinds", "chartroom/vector.greater"], apart := false, laid := [("chartroom/vector.greater", laid_chartroom_vector_greater), ("chartroom/ops.kinds", laid_chartroom_ops_kinds)] }
def OpsBackSaid : Prop := opsBackRow.holds Tryd.pinned (OpenSpec.ofChange opsBackSpec)

/-- ITS FALSE NEIGHBOUR: 'it returns false'. Refute it at one input. -/
def opsBackWrong : ChangeSpec := { name := "opsBack", fn := fun _ => fun
  | [d1, d2] => { results := [.lit (.bool false)], args := [d1, d2] }
  | _ => none }
def OpsBackWrongFalsely : Prop := opsBackRow.holds Tryd.pinned (OpenSpec.ofChange opsBackWrong)

/-- 'chartroomlaw17.OpsContents': WHATEVER THE INPUT: true; the input reads as it did. -/
def opsContentsSpec : ChangeSpec := { name := "opsContents", fn := fun _ => fun
  | [d] => { results := [.lit (.bool true)], args := [d] }
  | _ => none }
def opsContentsRow : OpenClaim := { program := "ytkckmpmlbmdalaadoor", sum := "fc75e154f62f3fac0e37b4d5e62f002fb2e3f81646ac8ef38cd54f0a49b9b4b1", func := "chartroom/chartroomlaw17.OpsContents", spec := "opsContents", inPlace := ["internal/bytealg.Compare"], unfollowed := true, recurses := true, named := ["chartroom/ops.kinds", "chartroom/vector.greater"], apart := false, laid := [("chartroom/vector.greater", laid_chartroom_vector_greater), ("chartroom/ops.kinds", laid_chartroom_ops_kinds)] }
def OpsContentsSaid : Prop := opsContentsRow.holds Tryd.pinned (OpenSpec.ofChange opsContentsSpec)

/-- ITS FALSE NEIGHBOUR: 'it returns false'. Refute it at one input. -/
def opsContentsWrong : ChangeSpec := { name := "opsContents", fn := fun _ => fun
  | [d] => { results := [.lit (.bool false)], args := [d] }
  | _ => none }
def OpsContentsWrongFalsely : Prop := opsContentsRow.holds Tryd.pinned (OpenSpec.ofChange opsContentsWrong)

/-- 'chartroomlaw17.OpsOrder': WHATEVER THE INPUT: true; the input reads as it did. -/
def opsOrderSpec : ChangeSpec := { name := "opsOrder", fn := fun _ => fun
  | [d1, d2, d3] => { results := [.lit (.bool true)], args := [d1, d2, d3] }
  | _ => none }
def opsOrderRow : OpenClaim := { program := "ytkckmpmlbmdalaadoor", sum := "fc75e154f62f3fac0e37b4d5e62f002fb2e3f81646ac8ef38cd54f0a49b9b4b1", func := "chartroom/chartroomlaw17.OpsOrder", spec := "opsOrder", inPlace := ["internal/bytealg.Compare"], unfollowed := true, recurses := true, named := ["chartroom/ops.kinds", "chartroom/vector.greater"], apart := false, laid := [("chartroom/vector.greater", laid_chartroom_vector_greater), ("chartroom/ops.kinds", laid_chartroom_ops_kinds)] }
def OpsOrderSaid : Prop := opsOrderRow.holds Tryd.pinned (OpenSpec.ofChange opsOrderSpec)

/-- ITS FALSE NEIGHBOUR: 'it returns false'. Refute it at one input. -/
def opsOrderWrong : ChangeSpec := { name := "opsOrder", fn := fun _ => fun
  | [d1, d2, d3] => { results := [.lit (.bool false)], args := [d1, d2, d3] }
  | _ => none }
def OpsOrderWrongFalsely : Prop := opsOrderRow.holds Tryd.pinned (OpenSpec.ofChange opsOrderWrong)

/-- 'chartroomlaw17.OpsKnows': WHATEVER THE INPUT: true; the input reads as it did. -/
def opsKnowsSpec : ChangeSpec := { name := "opsKnows", fn := fun _ => fun
  | [d1, d2] => { results := [.lit (.bool true)], args := [d1, d2] }
  | _ => none }
def opsKnowsRow : OpenClaim := { program := "ytkckmpmlbmdalaadoor", sum := "fc75e154f62f3fac0e37b4d5e62f002fb2e3f81646ac8ef38cd54f0a49b9b4b1", func := "chartroom/chartroomlaw17.OpsKnows", spec := "opsKnows", inPlace := ["internal/bytealg.Compare"], unfollowed := true, recurses := true, named := ["chartroom/ops.kinds", "chartroom/vector.greater"], apart := false, laid := [("chartroom/vector.greater", laid_chartroom_vector_greater), ("chartroom/ops.kinds", laid_chartroom_ops_kinds)] }
def OpsKnowsSaid : Prop := opsKnowsRow.holds Tryd.pinned (OpenSpec.ofChange opsKnowsSpec)

/-- ITS FALSE NEIGHBOUR: 'it returns false'. Refute it at one input. -/
def opsKnowsWrong : ChangeSpec := { name := "opsKnows", fn := fun _ => fun
  | [d1, d2] => { results := [.lit (.bool false)], args := [d1, d2] }
  | _ => none }
def OpsKnowsWrongFalsely : Prop := opsKnowsRow.holds Tryd.pinned (OpenSpec.ofChange opsKnowsWrong)

/-- 'chartroomlaw17.OpsFields': WHATEVER THE INPUT: true; the input reads as it did. -/
def opsFieldsSpec : ChangeSpec := { name := "opsFields", fn := fun _ => fun
  | [d1, d2] => { results := [.lit (.bool true)], args := [d1, d2] }
  | _ => none }
def opsFieldsRow : OpenClaim := { program := "ytkckmpmlbmdalaadoor", sum := "fc75e154f62f3fac0e37b4d5e62f002fb2e3f81646ac8ef38cd54f0a49b9b4b1", func := "chartroom/chartroomlaw17.OpsFields", spec := "opsFields", inPlace := ["internal/bytealg.Compare"], unfollowed := true, recurses := true, named := ["chartroom/ops.kinds", "chartroom/vector.greater"], apart := false, laid := [("chartroom/vector.greater", laid_chartroom_vector_greater), ("chartroom/ops.kinds", laid_chartroom_ops_kinds)] }
def OpsFieldsSaid : Prop := opsFieldsRow.holds Tryd.pinned (OpenSpec.ofChange opsFieldsSpec)

/-- ITS FALSE NEIGHBOUR: 'it returns false'. Refute it at one input. -/
def opsFieldsWrong : ChangeSpec := { name := "opsFields", fn := fun _ => fun
  | [d1, d2] => { results := [.lit (.bool false)], args := [d1, d2] }
  | _ => none }
def OpsFieldsWrongFalsely : Prop := opsFieldsRow.holds Tryd.pinned (OpenSpec.ofChange opsFieldsWrong)

/- THE SECOND FORM. 'bulk': how many values and letters a reading holds, each counted each time it is reached (what is shared counts as often as it is met; a slice's spare places count too). A statement '..UptoSaid' is the law's where the arguments, and the package variables that the reading takes, are together of bulk at most 1048576: NARROWER than '..Said'. Prove '..Said' where nothing that the law and all that it calls make is longer than what came in: it says more and counts as full. Else prove '..UptoSaid'. A law counts once. -/
mutual
def uptoBulk {H : Type} : DataW H → Nat
  | .lit (.string bytes) => bytes.length + 1
  | .lit _ => 1
  | .nil => 1
  | .ptr d => uptoBulk d + 1
  | .slice elems spare => uptoBulkAll elems + uptoBulkAll spare + 1
  | .agg parts => uptoBulkAll parts + 1
  | .iface _ d => uptoBulk d + 1
  | .map entries => uptoBulkEntries entries + 1
  | .held _ => 1
def uptoBulkAll {H : Type} : List (DataW H) → Nat
  | [] => 0
  | d :: r => uptoBulk d + uptoBulkAll r
def uptoBulkEntries {H : Type} : List (Lit × DataW H) → Nat
  | [] => 0
  | x :: r => uptoBulkEntry x + uptoBulkEntries r
def uptoBulkEntry {H : Type} : Lit × DataW H → Nat
  | (.string bytes, d) => bytes.length + uptoBulk d + 1
  | (_, d) => uptoBulk d + 1
 end
def uptoSmall : (H : Type) → List (DataW H) → Bool := fun _ ds => decide (uptoBulkAll ds ≤ 1048576)
def OpenSpec.upto (s : _root_.Go.ChangeSpec) : _root_.Go.OpenSpec := { _root_.Go.OpenSpec.ofChange s with cond := some uptoSmall }

/-- 'chartroomlaw17.OpsCheckSpec', WHERE WHAT IT READS IS OF BULK AT MOST 1048576: true; the input reads as it did. -/
def opsCheckSpecUptoRow : OpenClaim := { program := "ytkckmpmlbmdalaadoor", sum := "fc75e154f62f3fac0e37b4d5e62f002fb2e3f81646ac8ef38cd54f0a49b9b4b1", func := "chartroom/chartroomlaw17.OpsCheckSpec", spec := "opsCheckSpec", inPlace := ["internal/bytealg.Compare"], unfollowed := true, recurses := true, named := ["chartroom/ops.kinds", "chartroom/vector.greater"], apart := false, laid := [("chartroom/vector.greater", laid_chartroom_vector_greater), ("chartroom/ops.kinds", laid_chartroom_ops_kinds)], narrowed := true }
def OpsCheckSpecUptoSaid : Prop := opsCheckSpecUptoRow.holds Tryd.pinned (OpenSpec.upto opsCheckSpecSpec)

/-- 'chartroomlaw17.OpsEncodeSpec', WHERE WHAT IT READS IS OF BULK AT MOST 1048576: true; the input reads as it did. -/
def opsEncodeSpecUptoRow : OpenClaim := { program := "ytkckmpmlbmdalaadoor", sum := "fc75e154f62f3fac0e37b4d5e62f002fb2e3f81646ac8ef38cd54f0a49b9b4b1", func := "chartroom/chartroomlaw17.OpsEncodeSpec", spec := "opsEncodeSpec", inPlace := ["internal/bytealg.Compare"], unfollowed := true, recurses := true, named := ["chartroom/ops.kinds", "chartroom/vector.greater"], apart := false, laid := [("chartroom/vector.greater", laid_chartroom_vector_greater), ("chartroom/ops.kinds", laid_chartroom_ops_kinds)], narrowed := true }
def OpsEncodeSpecUptoSaid : Prop := opsEncodeSpecUptoRow.holds Tryd.pinned (OpenSpec.upto opsEncodeSpecSpec)

/-- 'chartroomlaw17.OpsBack', WHERE WHAT IT READS IS OF BULK AT MOST 1048576: true; the input reads as it did. -/
def opsBackUptoRow : OpenClaim := { program := "ytkckmpmlbmdalaadoor", sum := "fc75e154f62f3fac0e37b4d5e62f002fb2e3f81646ac8ef38cd54f0a49b9b4b1", func := "chartroom/chartroomlaw17.OpsBack", spec := "opsBack", inPlace := ["internal/bytealg.Compare"], unfollowed := true, recurses := true, named := ["chartroom/ops.kinds", "chartroom/vector.greater"], apart := false, laid := [("chartroom/vector.greater", laid_chartroom_vector_greater), ("chartroom/ops.kinds", laid_chartroom_ops_kinds)], narrowed := true }
def OpsBackUptoSaid : Prop := opsBackUptoRow.holds Tryd.pinned (OpenSpec.upto opsBackSpec)

/-- 'chartroomlaw17.OpsContents', WHERE WHAT IT READS IS OF BULK AT MOST 1048576: true; the input reads as it did. -/
def opsContentsUptoRow : OpenClaim := { program := "ytkckmpmlbmdalaadoor", sum := "fc75e154f62f3fac0e37b4d5e62f002fb2e3f81646ac8ef38cd54f0a49b9b4b1", func := "chartroom/chartroomlaw17.OpsContents", spec := "opsContents", inPlace := ["internal/bytealg.Compare"], unfollowed := true, recurses := true, named := ["chartroom/ops.kinds", "chartroom/vector.greater"], apart := false, laid := [("chartroom/vector.greater", laid_chartroom_vector_greater), ("chartroom/ops.kinds", laid_chartroom_ops_kinds)], narrowed := true }
def OpsContentsUptoSaid : Prop := opsContentsUptoRow.holds Tryd.pinned (OpenSpec.upto opsContentsSpec)

/-- 'chartroomlaw17.OpsOrder', WHERE WHAT IT READS IS OF BULK AT MOST 1048576: true; the input reads as it did. -/
def opsOrderUptoRow : OpenClaim := { program := "ytkckmpmlbmdalaadoor", sum := "fc75e154f62f3fac0e37b4d5e62f002fb2e3f81646ac8ef38cd54f0a49b9b4b1", func := "chartroom/chartroomlaw17.OpsOrder", spec := "opsOrder", inPlace := ["internal/bytealg.Compare"], unfollowed := true, recurses := true, named := ["chartroom/ops.kinds", "chartroom/vector.greater"], apart := false, laid := [("chartroom/vector.greater", laid_chartroom_vector_greater), ("chartroom/ops.kinds", laid_chartroom_ops_kinds)], narrowed := true }
def OpsOrderUptoSaid : Prop := opsOrderUptoRow.holds Tryd.pinned (OpenSpec.upto opsOrderSpec)

/-- 'chartroomlaw17.OpsKnows', WHERE WHAT IT READS IS OF BULK AT MOST 1048576: true; the input reads as it did. -/
def opsKnowsUptoRow : OpenClaim := { program := "ytkckmpmlbmdalaadoor", sum := "fc75e154f62f3fac0e37b4d5e62f002fb2e3f81646ac8ef38cd54f0a49b9b4b1", func := "chartroom/chartroomlaw17.OpsKnows", spec := "opsKnows", inPlace := ["internal/bytealg.Compare"], unfollowed := true, recurses := true, named := ["chartroom/ops.kinds", "chartroom/vector.greater"], apart := false, laid := [("chartroom/vector.greater", laid_chartroom_vector_greater), ("chartroom/ops.kinds", laid_chartroom_ops_kinds)], narrowed := true }
def OpsKnowsUptoSaid : Prop := opsKnowsUptoRow.holds Tryd.pinned (OpenSpec.upto opsKnowsSpec)

/-- 'chartroomlaw17.OpsFields', WHERE WHAT IT READS IS OF BULK AT MOST 1048576: true; the input reads as it did. -/
def opsFieldsUptoRow : OpenClaim := { program := "ytkckmpmlbmdalaadoor", sum := "fc75e154f62f3fac0e37b4d5e62f002fb2e3f81646ac8ef38cd54f0a49b9b4b1", func := "chartroom/chartroomlaw17.OpsFields", spec := "opsFields", inPlace := ["internal/bytealg.Compare"], unfollowed := true, recurses := true, named := ["chartroom/ops.kinds", "chartroom/vector.greater"], apart := false, laid := [("chartroom/vector.greater", laid_chartroom_vector_greater), ("chartroom/ops.kinds", laid_chartroom_ops_kinds)], narrowed := true }
def OpsFieldsUptoSaid : Prop := opsFieldsUptoRow.holds Tryd.pinned (OpenSpec.upto opsFieldsSpec)

end Rows
end Go.Proofs.YtkckmpmlbmdalaaDoor
