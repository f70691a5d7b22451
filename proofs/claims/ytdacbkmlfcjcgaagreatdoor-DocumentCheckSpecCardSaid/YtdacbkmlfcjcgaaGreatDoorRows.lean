/-
  NARROWER THAN 'FOR EVERY INPUT', by the rows' own cells (each row's printed sentence says how): DocumentApplySpec: laid · DocumentCheckSpec: laid · DocumentCodeSpec: laid · DocumentCommutes: laid · DocumentSeen: laid · DocumentBack: laid · DocumentEffects: laid.
  DERIVED. THE GIVEN ROWS OF THIS SEAT. 7 by the template 'for every input the law returns true; each argument reads behind the call as it read before'; 0 by the template 'total and deterministic' (their statements: YtdacbkmlfcjcgaaGreatDoorTotals.lean).
  GIVEN WITH THE SEED: the statements are not yours to turn. If you find one false, say at which input.
  Laid BY PROGRAM, IN A SANDBOX (cutbox-rows.mjs): the forced cells as the released guide's own fill.sh prints them over the translation 14797a26747e9755… (all of the seat's roots in one cut). By AI agents, Wed Nov 11 2026. No macro, syntax, notation, axiom, sorry.
-/
import Derived.Test.YtdacbkmlfcjcgaaGreatDoorChecked
import GoSem.Claim
import GoSem.ClaimJoined
import GoSem.ClaimMapViews
import Derived.JoinedTies
import Derived.KernelRfl
namespace Go.Proofs.YtdacbkmlfcjcgaaGreatDoor
/- THE CELL 'sum', in the pinned program and in every row, IS THE sha256 OF THE DUMP (.gsa) THAT YtdacbkmlfcjcgaaGreatDoorProg.lean LOADS. Nothing in Lean hashes anything: it is a label: what it is worth is what the hold of that sum in a sandbox is worth. -/
noncomputable def Tryz.pinned : Pinned := { name := "ytdacbkmlfcjcgaagreatdoor", sum := "14797a26747e97552f3b06a9be48c25cb37b3e714a0c0b61cfccf67adb94e668", checked := Tryz.checked }
namespace Rows
def none {H : Type} : Left H := { results := [], args := [] }

/- WHAT THE LISTED PACKAGE-LEVEL VARIABLES READ AS WHEN THE CALL BEGINS. Each datum BY PROGRAM (the guide's laid-datum.mjs) off the statement by which the dump's own 'gosem.cut.vars' lays the variable. In a bare row this is a premise. The card (YtdacbkmlfcjcgaaGreatDoorCards.lean) ties it to the program's text. -/
def laid_math_bits_deBruijn32tab {H : Type} : DataW H := .agg [.lit (.int .u8 0), .lit (.int .u8 1), .lit (.int .u8 28), .lit (.int .u8 2), .lit (.int .u8 29), .lit (.int .u8 14), .lit (.int .u8 24), .lit (.int .u8 3), .lit (.int .u8 30), .lit (.int .u8 22), .lit (.int .u8 20), .lit (.int .u8 15), .lit (.int .u8 25), .lit (.int .u8 17), .lit (.int .u8 4), .lit (.int .u8 8), .lit (.int .u8 31), .lit (.int .u8 27), .lit (.int .u8 13), .lit (.int .u8 23), .lit (.int .u8 21), .lit (.int .u8 19), .lit (.int .u8 16), .lit (.int .u8 7), .lit (.int .u8 26), .lit (.int .u8 12), .lit (.int .u8 18), .lit (.int .u8 6), .lit (.int .u8 11), .lit (.int .u8 5), .lit (.int .u8 10), .lit (.int .u8 9)]
def laid_chartroom_vector_greater {H : Type} : DataW H := .iface "func table" (.agg [.iface "func" (.lit (.string [99, 104, 97, 114, 116, 114, 111, 111, 109, 47, 118, 101, 99, 116, 111, 114, 46, 103, 114, 101, 97, 116, 101, 114, 36, 49]))])
def laid_chartroom_ops_kinds {H : Type} : DataW H := .iface "func table" (.map [(.int .i64 1, .agg [.lit (.int .i64 1), .iface "func" (.lit (.string [99, 104, 97, 114, 116, 114, 111, 111, 109, 47, 111, 112, 115, 46, 107, 105, 110, 100, 115, 36, 49]))]), (.int .i64 2, .agg [.lit (.int .i64 1), .iface "func" (.lit (.string [99, 104, 97, 114, 116, 114, 111, 111, 109, 47, 111, 112, 115, 46, 107, 105, 110, 100, 115, 36, 50]))]), (.int .i64 3, .agg [.lit (.int .i64 2), .iface "func" (.lit (.string [99, 104, 97, 114, 116, 114, 111, 111, 109, 47, 111, 112, 115, 46, 107, 105, 110, 100, 115, 36, 51]))]), (.int .i64 4, .agg [.lit (.int .i64 2), .iface "func" (.lit (.string [99, 104, 97, 114, 116, 114, 111, 111, 109, 47, 111, 112, 115, 46, 107, 105, 110, 100, 115, 36, 52]))]), (.int .i64 5, .agg [.lit (.int .i64 3), .iface "func" (.lit (.string [99, 104, 97, 114, 116, 114, 111, 111, 109, 47, 111, 112, 115, 46, 107, 105, 110, 100, 115, 36, 53]))]), (.int .i64 6, .agg [.lit (.int .i64 4), .iface "func" (.lit (.string [99, 104, 97, 114, 116, 114, 111, 111, 109, 47, 111, 112, 115, 46, 107, 105, 110, 100, 115, 36, 54]))]), (.int .i64 7, .agg [.lit (.int .i64 4), .iface "func" (.lit (.string [99, 104, 97, 114, 116, 114, 111, 111, 109, 47, 111, 112, 115, 46, 107, 105, 110, 100, 115, 36, 55]))]), (.int .i64 8, .agg [.lit (.int .i64 4), .iface "func" (.lit (.string [99, 104, 97, 114, 116, 114, 111, 111, 109, 47, 111, 112, 115, 46, 107, 105, 110, 100, 115, 36, 56]))])])
def laid_chartroom_document_effects {H : Type} : DataW H := .iface "func table" (.map [(.int .i64 1, .agg [.iface "func" (.lit (.string [99, 104, 97, 114, 116, 114, 111, 111, 109, 47, 100, 111, 99, 117, 109, 101, 110, 116, 46, 101, 102, 102, 101, 99, 116, 115, 36, 49]))]), (.int .i64 2, .agg [.iface "func" (.lit (.string [99, 104, 97, 114, 116, 114, 111, 111, 109, 47, 100, 111, 99, 117, 109, 101, 110, 116, 46, 101, 102, 102, 101, 99, 116, 115, 36, 50]))]), (.int .i64 3, .agg [.iface "func" (.lit (.string [99, 104, 97, 114, 116, 114, 111, 111, 109, 47, 100, 111, 99, 117, 109, 101, 110, 116, 46, 101, 102, 102, 101, 99, 116, 115, 36, 51]))]), (.int .i64 4, .agg [.iface "func" (.lit (.string [99, 104, 97, 114, 116, 114, 111, 111, 109, 47, 100, 111, 99, 117, 109, 101, 110, 116, 46, 101, 102, 102, 101, 99, 116, 115, 36, 52]))]), (.int .i64 5, .agg [.iface "func" (.lit (.string [99, 104, 97, 114, 116, 114, 111, 111, 109, 47, 100, 111, 99, 117, 109, 101, 110, 116, 46, 101, 102, 102, 101, 99, 116, 115, 36, 53]))]), (.int .i64 6, .agg [.iface "func" (.lit (.string [99, 104, 97, 114, 116, 114, 111, 111, 109, 47, 100, 111, 99, 117, 109, 101, 110, 116, 46, 101, 102, 102, 101, 99, 116, 115, 36, 54]))]), (.int .i64 7, .agg [.iface "func" (.lit (.string [99, 104, 97, 114, 116, 114, 111, 111, 109, 47, 100, 111, 99, 117, 109, 101, 110, 116, 46, 101, 102, 102, 101, 99, 116, 115, 36, 55]))]), (.int .i64 8, .agg [.iface "func" (.lit (.string [99, 104, 97, 114, 116, 114, 111, 111, 109, 47, 100, 111, 99, 117, 109, 101, 110, 116, 46, 101, 102, 102, 101, 99, 116, 115, 36, 56]))])])

/-- 'chartroomlaw18.DocumentApplySpec': WHATEVER THE INPUT: true; the input reads as it did. -/
def documentApplySpecSpec : ChangeSpec := { name := "documentApplySpec", fn := fun _ => fun
  | [d1, d2] => { results := [.lit (.bool true)], args := [d1, d2] }
  | _ => none }
def documentApplySpecRow : OpenClaim := { program := "ytdacbkmlfcjcgaagreatdoor", sum := "14797a26747e97552f3b06a9be48c25cb37b3e714a0c0b61cfccf67adb94e668", func := "chartroom/chartroomlaw18.DocumentApplySpec", spec := "documentApplySpec", inPlace := ["slices.overlaps[chartroom/api.Field]"], unfollowed := true, recurses := true, named := ["chartroom/document.effects", "chartroom/ops.kinds", "chartroom/vector.greater", "math/bits.deBruijn32tab"], plainKeys := false, apart := false, laid := [("math/bits.deBruijn32tab", laid_math_bits_deBruijn32tab), ("chartroom/vector.greater", laid_chartroom_vector_greater), ("chartroom/ops.kinds", laid_chartroom_ops_kinds), ("chartroom/document.effects", laid_chartroom_document_effects)] }
def DocumentApplySpecSaid : Prop := documentApplySpecRow.holds Tryz.pinned (OpenSpec.ofChange documentApplySpecSpec)

/-- ITS FALSE NEIGHBOUR: 'it returns false'. Refute it at one input. -/
def documentApplySpecWrong : ChangeSpec := { name := "documentApplySpec", fn := fun _ => fun
  | [d1, d2] => { results := [.lit (.bool false)], args := [d1, d2] }
  | _ => none }
def DocumentApplySpecWrongFalsely : Prop := documentApplySpecRow.holds Tryz.pinned (OpenSpec.ofChange documentApplySpecWrong)

/-- 'chartroomlaw18.DocumentCheckSpec': WHATEVER THE INPUT: true; the input reads as it did. -/
def documentCheckSpecSpec : ChangeSpec := { name := "documentCheckSpec", fn := fun _ => fun
  | [d1, d2] => { results := [.lit (.bool true)], args := [d1, d2] }
  | _ => none }
def documentCheckSpecRow : OpenClaim := { program := "ytdacbkmlfcjcgaagreatdoor", sum := "14797a26747e97552f3b06a9be48c25cb37b3e714a0c0b61cfccf67adb94e668", func := "chartroom/chartroomlaw18.DocumentCheckSpec", spec := "documentCheckSpec", inPlace := ["slices.overlaps[chartroom/api.Field]"], unfollowed := true, recurses := true, named := ["chartroom/document.effects", "chartroom/ops.kinds", "chartroom/vector.greater", "math/bits.deBruijn32tab"], plainKeys := false, apart := false, laid := [("math/bits.deBruijn32tab", laid_math_bits_deBruijn32tab), ("chartroom/vector.greater", laid_chartroom_vector_greater), ("chartroom/ops.kinds", laid_chartroom_ops_kinds), ("chartroom/document.effects", laid_chartroom_document_effects)] }
def DocumentCheckSpecSaid : Prop := documentCheckSpecRow.holds Tryz.pinned (OpenSpec.ofChange documentCheckSpecSpec)

/-- ITS FALSE NEIGHBOUR: 'it returns false'. Refute it at one input. -/
def documentCheckSpecWrong : ChangeSpec := { name := "documentCheckSpec", fn := fun _ => fun
  | [d1, d2] => { results := [.lit (.bool false)], args := [d1, d2] }
  | _ => none }
def DocumentCheckSpecWrongFalsely : Prop := documentCheckSpecRow.holds Tryz.pinned (OpenSpec.ofChange documentCheckSpecWrong)

/-- 'chartroomlaw18.DocumentCodeSpec': WHATEVER THE INPUT: true; the input reads as it did. -/
def documentCodeSpecSpec : ChangeSpec := { name := "documentCodeSpec", fn := fun _ => fun
  | [d1, d2] => { results := [.lit (.bool true)], args := [d1, d2] }
  | _ => none }
def documentCodeSpecRow : OpenClaim := { program := "ytdacbkmlfcjcgaagreatdoor", sum := "14797a26747e97552f3b06a9be48c25cb37b3e714a0c0b61cfccf67adb94e668", func := "chartroom/chartroomlaw18.DocumentCodeSpec", spec := "documentCodeSpec", inPlace := ["slices.overlaps[chartroom/api.Field]"], unfollowed := true, recurses := true, named := ["chartroom/document.effects", "chartroom/ops.kinds", "chartroom/vector.greater", "math/bits.deBruijn32tab"], plainKeys := false, apart := false, laid := [("math/bits.deBruijn32tab", laid_math_bits_deBruijn32tab), ("chartroom/vector.greater", laid_chartroom_vector_greater), ("chartroom/ops.kinds", laid_chartroom_ops_kinds), ("chartroom/document.effects", laid_chartroom_document_effects)] }
def DocumentCodeSpecSaid : Prop := documentCodeSpecRow.holds Tryz.pinned (OpenSpec.ofChange documentCodeSpecSpec)

/-- ITS FALSE NEIGHBOUR: 'it returns false'. Refute it at one input. -/
def documentCodeSpecWrong : ChangeSpec := { name := "documentCodeSpec", fn := fun _ => fun
  | [d1, d2] => { results := [.lit (.bool false)], args := [d1, d2] }
  | _ => none }
def DocumentCodeSpecWrongFalsely : Prop := documentCodeSpecRow.holds Tryz.pinned (OpenSpec.ofChange documentCodeSpecWrong)

/-- 'chartroomlaw18.DocumentCommutes': WHATEVER THE INPUT: true; the input reads as it did. -/
def documentCommutesSpec : ChangeSpec := { name := "documentCommutes", fn := fun _ => fun
  | [d1, d2, d3] => { results := [.lit (.bool true)], args := [d1, d2, d3] }
  | _ => none }
def documentCommutesRow : OpenClaim := { program := "ytdacbkmlfcjcgaagreatdoor", sum := "14797a26747e97552f3b06a9be48c25cb37b3e714a0c0b61cfccf67adb94e668", func := "chartroom/chartroomlaw18.DocumentCommutes", spec := "documentCommutes", inPlace := ["slices.overlaps[chartroom/api.Field]"], unfollowed := true, recurses := true, named := ["chartroom/document.effects", "chartroom/ops.kinds", "chartroom/vector.greater", "math/bits.deBruijn32tab"], plainKeys := false, apart := false, laid := [("math/bits.deBruijn32tab", laid_math_bits_deBruijn32tab), ("chartroom/vector.greater", laid_chartroom_vector_greater), ("chartroom/ops.kinds", laid_chartroom_ops_kinds), ("chartroom/document.effects", laid_chartroom_document_effects)] }
def DocumentCommutesSaid : Prop := documentCommutesRow.holds Tryz.pinned (OpenSpec.ofChange documentCommutesSpec)

/-- ITS FALSE NEIGHBOUR: 'it returns false'. Refute it at one input. -/
def documentCommutesWrong : ChangeSpec := { name := "documentCommutes", fn := fun _ => fun
  | [d1, d2, d3] => { results := [.lit (.bool false)], args := [d1, d2, d3] }
  | _ => none }
def DocumentCommutesWrongFalsely : Prop := documentCommutesRow.holds Tryz.pinned (OpenSpec.ofChange documentCommutesWrong)

/-- 'chartroomlaw18.DocumentSeen': WHATEVER THE INPUT: true; the input reads as it did. -/
def documentSeenSpec : ChangeSpec := { name := "documentSeen", fn := fun _ => fun
  | [d1, d2] => { results := [.lit (.bool true)], args := [d1, d2] }
  | _ => none }
def documentSeenRow : OpenClaim := { program := "ytdacbkmlfcjcgaagreatdoor", sum := "14797a26747e97552f3b06a9be48c25cb37b3e714a0c0b61cfccf67adb94e668", func := "chartroom/chartroomlaw18.DocumentSeen", spec := "documentSeen", inPlace := ["slices.overlaps[chartroom/api.Field]"], unfollowed := true, recurses := true, named := ["chartroom/document.effects", "chartroom/ops.kinds", "chartroom/vector.greater", "math/bits.deBruijn32tab"], plainKeys := false, apart := false, laid := [("math/bits.deBruijn32tab", laid_math_bits_deBruijn32tab), ("chartroom/vector.greater", laid_chartroom_vector_greater), ("chartroom/ops.kinds", laid_chartroom_ops_kinds), ("chartroom/document.effects", laid_chartroom_document_effects)] }
def DocumentSeenSaid : Prop := documentSeenRow.holds Tryz.pinned (OpenSpec.ofChange documentSeenSpec)

/-- ITS FALSE NEIGHBOUR: 'it returns false'. Refute it at one input. -/
def documentSeenWrong : ChangeSpec := { name := "documentSeen", fn := fun _ => fun
  | [d1, d2] => { results := [.lit (.bool false)], args := [d1, d2] }
  | _ => none }
def DocumentSeenWrongFalsely : Prop := documentSeenRow.holds Tryz.pinned (OpenSpec.ofChange documentSeenWrong)

/-- 'chartroomlaw18.DocumentBack': WHATEVER THE INPUT: true; the input reads as it did. -/
def documentBackSpec : ChangeSpec := { name := "documentBack", fn := fun _ => fun
  | [d1, d2, d3] => { results := [.lit (.bool true)], args := [d1, d2, d3] }
  | _ => none }
def documentBackRow : OpenClaim := { program := "ytdacbkmlfcjcgaagreatdoor", sum := "14797a26747e97552f3b06a9be48c25cb37b3e714a0c0b61cfccf67adb94e668", func := "chartroom/chartroomlaw18.DocumentBack", spec := "documentBack", inPlace := ["slices.overlaps[chartroom/api.Field]"], unfollowed := true, recurses := true, named := ["chartroom/document.effects", "chartroom/ops.kinds", "chartroom/vector.greater", "math/bits.deBruijn32tab"], plainKeys := false, apart := false, laid := [("math/bits.deBruijn32tab", laid_math_bits_deBruijn32tab), ("chartroom/vector.greater", laid_chartroom_vector_greater), ("chartroom/ops.kinds", laid_chartroom_ops_kinds), ("chartroom/document.effects", laid_chartroom_document_effects)] }
def DocumentBackSaid : Prop := documentBackRow.holds Tryz.pinned (OpenSpec.ofChange documentBackSpec)

/-- ITS FALSE NEIGHBOUR: 'it returns false'. Refute it at one input. -/
def documentBackWrong : ChangeSpec := { name := "documentBack", fn := fun _ => fun
  | [d1, d2, d3] => { results := [.lit (.bool false)], args := [d1, d2, d3] }
  | _ => none }
def DocumentBackWrongFalsely : Prop := documentBackRow.holds Tryz.pinned (OpenSpec.ofChange documentBackWrong)

/-- 'chartroomlaw18.DocumentEffects': WHATEVER THE INPUT: true; the input reads as it did. -/
def documentEffectsSpec : ChangeSpec := { name := "documentEffects", fn := fun _ => fun
  | [d1, d2] => { results := [.lit (.bool true)], args := [d1, d2] }
  | _ => none }
def documentEffectsRow : OpenClaim := { program := "ytdacbkmlfcjcgaagreatdoor", sum := "14797a26747e97552f3b06a9be48c25cb37b3e714a0c0b61cfccf67adb94e668", func := "chartroom/chartroomlaw18.DocumentEffects", spec := "documentEffects", inPlace := ["slices.overlaps[chartroom/api.Field]", "internal/abi.NoEscape"], unfollowed := true, recurses := true, named := ["chartroom/document.effects", "chartroom/ops.kinds", "chartroom/vector.greater", "math/bits.deBruijn32tab"], plainKeys := false, apart := false, laid := [("math/bits.deBruijn32tab", laid_math_bits_deBruijn32tab), ("chartroom/vector.greater", laid_chartroom_vector_greater), ("chartroom/ops.kinds", laid_chartroom_ops_kinds), ("chartroom/document.effects", laid_chartroom_document_effects)] }
def DocumentEffectsSaid : Prop := documentEffectsRow.holds Tryz.pinned (OpenSpec.ofChange documentEffectsSpec)

/-- ITS FALSE NEIGHBOUR: 'it returns false'. Refute it at one input. -/
def documentEffectsWrong : ChangeSpec := { name := "documentEffects", fn := fun _ => fun
  | [d1, d2] => { results := [.lit (.bool false)], args := [d1, d2] }
  | _ => none }
def DocumentEffectsWrongFalsely : Prop := documentEffectsRow.holds Tryz.pinned (OpenSpec.ofChange documentEffectsWrong)

/- THE SECOND FORM. 'bulk': how many values and letters a reading holds, each counted each time it is reached (what is shared counts as often as it is met; a slice's spare places count too). A statement '..UptoSaid' is the law's where the arguments, and the package variables that the reading takes, are together of bulk at most 1048576: NARROWER than '..Said'. Prove '..Said' where nothing that the law and all that it calls make is longer than what came in: it says more and counts as full. Else prove '..UptoSaid'. A law counts once. -/
mutual
def uptoBulk {H : Type} : DataW H → Nat
  | .lit (.string bytes) => bytes.length + 1
  | .lit _ => 1
  | .nil => 1
  | .ptr d => uptoBulk d + 1
  | .slice elems spare => uptoBulkAll elems + uptoBulkAll spare + 1
  | .agg parts => uptoBulkAll parts + 1
  | .iface _ d => uptoBulk d + 1
  | .map entries => uptoBulkEntries entries + 1
  | .held _ => 1
def uptoBulkAll {H : Type} : List (DataW H) → Nat
  | [] => 0
  | d :: r => uptoBulk d + uptoBulkAll r
def uptoBulkEntries {H : Type} : List (Lit × DataW H) → Nat
  | [] => 0
  | x :: r => uptoBulkEntry x + uptoBulkEntries r
def uptoBulkEntry {H : Type} : Lit × DataW H → Nat
  | (.string bytes, d) => bytes.length + uptoBulk d + 1
  | (_, d) => uptoBulk d + 1
 end
def uptoSmall : (H : Type) → List (DataW H) → Bool := fun _ ds => decide (uptoBulkAll ds ≤ 1048576)
def OpenSpec.upto (s : _root_.Go.ChangeSpec) : _root_.Go.OpenSpec := { _root_.Go.OpenSpec.ofChange s with cond := some uptoSmall }

/-- 'chartroomlaw18.DocumentApplySpec', WHERE WHAT IT READS IS OF BULK AT MOST 1048576: true; the input reads as it did. -/
def documentApplySpecUptoRow : OpenClaim := { program := "ytdacbkmlfcjcgaagreatdoor", sum := "14797a26747e97552f3b06a9be48c25cb37b3e714a0c0b61cfccf67adb94e668", func := "chartroom/chartroomlaw18.DocumentApplySpec", spec := "documentApplySpec", inPlace := ["slices.overlaps[chartroom/api.Field]"], unfollowed := true, recurses := true, named := ["chartroom/document.effects", "chartroom/ops.kinds", "chartroom/vector.greater", "math/bits.deBruijn32tab"], plainKeys := false, apart := false, laid := [("math/bits.deBruijn32tab", laid_math_bits_deBruijn32tab), ("chartroom/vector.greater", laid_chartroom_vector_greater), ("chartroom/ops.kinds", laid_chartroom_ops_kinds), ("chartroom/document.effects", laid_chartroom_document_effects)], narrowed := true }
def DocumentApplySpecUptoSaid : Prop := documentApplySpecUptoRow.holds Tryz.pinned (OpenSpec.upto documentApplySpecSpec)

/-- 'chartroomlaw18.DocumentCheckSpec', WHERE WHAT IT READS IS OF BULK AT MOST 1048576: true; the input reads as it did. -/
def documentCheckSpecUptoRow : OpenClaim := { program := "ytdacbkmlfcjcgaagreatdoor", sum := "14797a26747e97552f3b06a9be48c25cb37b3e714a0c0b61cfccf67adb94e668", func := "chartroom/chartroomlaw18.DocumentCheckSpec", spec := "documentCheckSpec", inPlace := ["slices.overlaps[chartroom/api.Field]"], unfollowed := true, recurses := true, named := ["chartroom/document.effects", "chartroom/ops.kinds", "chartroom/vector.greater", "math/bits.deBruijn32tab"], plainKeys := false, apart := false, laid := [("math/bits.deBruijn32tab", laid_math_bits_deBruijn32tab), ("chartroom/vector.greater", laid_chartroom_vector_greater), ("chartroom/ops.kinds", laid_chartroom_ops_kinds), ("chartroom/document.effects", laid_chartroom_document_effects)], narrowed := true }
def DocumentCheckSpecUptoSaid : Prop := documentCheckSpecUptoRow.holds Tryz.pinned (OpenSpec.upto documentCheckSpecSpec)

/-- 'chartroomlaw18.DocumentCodeSpec', WHERE WHAT IT READS IS OF BULK AT MOST 1048576: true; the input reads as it did. -/
def documentCodeSpecUptoRow : OpenClaim := { program := "ytdacbkmlfcjcgaagreatdoor", sum := "14797a26747e97552f3b06a9be48c25cb37b3e714a0c0b61cfccf67adb94e668", func := "chartroom/chartroomlaw18.DocumentCodeSpec", spec := "documentCodeSpec", inPlace := ["slices.overlaps[chartroom/api.Field]"], unfollowed := true, recurses := true, named := ["chartroom/document.effects", "chartroom/ops.kinds", "chartroom/vector.greater", "math/bits.deBruijn32tab"], plainKeys := false, apart := false, laid := [("math/bits.deBruijn32tab", laid_math_bits_deBruijn32tab), ("chartroom/vector.greater", laid_chartroom_vector_greater), ("chartroom/ops.kinds", laid_chartroom_ops_kinds), ("chartroom/document.effects", laid_chartroom_document_effects)], narrowed := true }
def DocumentCodeSpecUptoSaid : Prop := documentCodeSpecUptoRow.holds Tryz.pinned (OpenSpec.upto documentCodeSpecSpec)

/-- 'chartroomlaw18.DocumentCommutes', WHERE WHAT IT READS IS OF BULK AT MOST 1048576: true; the input reads as it did. -/
def documentCommutesUptoRow : OpenClaim := { program := "ytdacbkmlfcjcgaagreatdoor", sum := "14797a26747e97552f3b06a9be48c25cb37b3e714a0c0b61cfccf67adb94e668", func := "chartroom/chartroomlaw18.DocumentCommutes", spec := "documentCommutes", inPlace := ["slices.overlaps[chartroom/api.Field]"], unfollowed := true, recurses := true, named := ["chartroom/document.effects", "chartroom/ops.kinds", "chartroom/vector.greater", "math/bits.deBruijn32tab"], plainKeys := false, apart := false, laid := [("math/bits.deBruijn32tab", laid_math_bits_deBruijn32tab), ("chartroom/vector.greater", laid_chartroom_vector_greater), ("chartroom/ops.kinds", laid_chartroom_ops_kinds), ("chartroom/document.effects", laid_chartroom_document_effects)], narrowed := true }
def DocumentCommutesUptoSaid : Prop := documentCommutesUptoRow.holds Tryz.pinned (OpenSpec.upto documentCommutesSpec)

/-- 'chartroomlaw18.DocumentSeen', WHERE WHAT IT READS IS OF BULK AT MOST 1048576: true; the input reads as it did. -/
def documentSeenUptoRow : OpenClaim := { program := "ytdacbkmlfcjcgaagreatdoor", sum := "14797a26747e97552f3b06a9be48c25cb37b3e714a0c0b61cfccf67adb94e668", func := "chartroom/chartroomlaw18.DocumentSeen", spec := "documentSeen", inPlace := ["slices.overlaps[chartroom/api.Field]"], unfollowed := true, recurses := true, named := ["chartroom/document.effects", "chartroom/ops.kinds", "chartroom/vector.greater", "math/bits.deBruijn32tab"], plainKeys := false, apart := false, laid := [("math/bits.deBruijn32tab", laid_math_bits_deBruijn32tab), ("chartroom/vector.greater", laid_chartroom_vector_greater), ("chartroom/ops.kinds", laid_chartroom_ops_kinds), ("chartroom/document.effects", laid_chartroom_document_effects)], narrowed := true }
def DocumentSeenUptoSaid : Prop := documentSeenUptoRow.holds Tryz.pinned (OpenSpec.upto documentSeenSpec)

/-- 'chartroomlaw18.DocumentBack', WHERE WHAT IT READS IS OF BULK AT MOST 1048576: true; the input reads as it did. -/
def documentBackUptoRow : OpenClaim := { program := "ytdacbkmlfcjcgaagreatdoor", sum := "14797a26747e97552f3b06a9be48c25cb37b3e714a0c0b61cfccf67adb94e668", func := "chartroom/chartroomlaw18.DocumentBack", spec := "documentBack", inPlace := ["slices.overlaps[chartroom/api.Field]"], unfollowed := true, recurses := true, named := ["chartroom/document.effects", "chartroom/ops.kinds", "chartroom/vector.greater", "math/bits.deBruijn32tab"], plainKeys := false, apart := false, laid := [("math/bits.deBruijn32tab", laid_math_bits_deBruijn32tab), ("chartroom/vector.greater", laid_chartroom_vector_greater), ("chartroom/ops.kinds", laid_chartroom_ops_kinds), ("chartroom/document.effects", laid_chartroom_document_effects)], narrowed := true }
def DocumentBackUptoSaid : Prop := documentBackUptoRow.holds Tryz.pinned (OpenSpec.upto documentBackSpec)

/-- 'chartroomlaw18.DocumentEffects', WHERE WHAT IT READS IS OF BULK AT MOST 1048576: true; the input reads as it did. -/
def documentEffectsUptoRow : OpenClaim := { program := "ytdacbkmlfcjcgaagreatdoor", sum := "14797a26747e97552f3b06a9be48c25cb37b3e714a0c0b61cfccf67adb94e668", func := "chartroom/chartroomlaw18.DocumentEffects", spec := "documentEffects", inPlace := ["slices.overlaps[chartroom/api.Field]", "internal/abi.NoEscape"], unfollowed := true, recurses := true, named := ["chartroom/document.effects", "chartroom/ops.kinds", "chartroom/vector.greater", "math/bits.deBruijn32tab"], plainKeys := false, apart := false, laid := [("math/bits.deBruijn32tab", laid_math_bits_deBruijn32tab), ("chartroom/vector.greater", laid_chartroom_vector_greater), ("chartroom/ops.kinds", laid_chartroom_ops_kinds), ("chartroom/document.effects", laid_chartroom_document_effects)], narrowed := true }
def DocumentEffectsUptoSaid : Prop := documentEffectsUptoRow.holds Tryz.pinned (OpenSpec.upto documentEffectsSpec)

end Rows
end Go.Proofs.YtdacbkmlfcjcgaaGreatDoor
