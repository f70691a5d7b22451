/-
  NARROWER THAN 'FOR EVERY INPUT', by the rows' own cells (each row's printed sentence says how): TextSpec: laid · TextEditsSpec: laid · TextCommutes: laid · TextTyped: laid · TextCuts: laid · TextMarks: laid · TextRuns: laid · TextKeeps: laid.
  DERIVED. THE GIVEN ROWS OF THIS SEAT. 8 by the template 'for every input the law returns true; each argument reads behind the call as it read before'; 0 by the template 'total and deterministic' (their statements: YteaclamkacmhmaaDoorTotals.lean).
  GIVEN WITH THE SEED: the statements are not yours to turn. If you find one false, say at which input.
  Laid BY PROGRAM, IN A SANDBOX (cutbox-rows.mjs): the forced cells as the released guide's own fill.sh prints them over the translation e530e078f7669f1b… (all of the seat's roots in one cut). By AI agents, Wed Nov 11 2026. No macro, syntax, notation, axiom, sorry.
-/
import Derived.Test.YteaclamkacmhmaaDoorChecked
import GoSem.Claim
import GoSem.ClaimJoined
import GoSem.ClaimMapViews
import Derived.JoinedTies
import Derived.KernelRfl
namespace Go.Proofs.YteaclamkacmhmaaDoor
/- THE CELL 'sum', in the pinned program and in every row, IS THE sha256 OF THE DUMP (.gsa) THAT YteaclamkacmhmaaDoorProg.lean LOADS. Nothing in Lean hashes anything: it is a label: what it is worth is what the hold of that sum in a sandbox is worth. -/
noncomputable def Tryd.pinned : Pinned := { name := "yteaclamkacmhmaadoor", sum := "e530e078f7669f1b988ff8bd12bbfd2c6f158a5b4f76557e84f5ffe6963afea6", checked := Tryd.checked }
namespace Rows
def none {H : Type} : Left H := { results := [], args := [] }

/- WHAT THE LISTED PACKAGE-LEVEL VARIABLES READ AS WHEN THE CALL BEGINS. Each datum BY PROGRAM (the guide's laid-datum.mjs) off the statement by which the dump's own 'gosem.cut.vars' lays the variable. In a bare row this is a premise. The card (YteaclamkacmhmaaDoorCards.lean) ties it to the program's text. -/
def laid_math_bits_deBruijn32tab {H : Type} : DataW H := .agg [.lit (.int .u8 0), .lit (.int .u8 1), .lit (.int .u8 28), .lit (.int .u8 2), .lit (.int .u8 29), .lit (.int .u8 14), .lit (.int .u8 24), .lit (.int .u8 3), .lit (.int .u8 30), .lit (.int .u8 22), .lit (.int .u8 20), .lit (.int .u8 15), .lit (.int .u8 25), .lit (.int .u8 17), .lit (.int .u8 4), .lit (.int .u8 8), .lit (.int .u8 31), .lit (.int .u8 27), .lit (.int .u8 13), .lit (.int .u8 23), .lit (.int .u8 21), .lit (.int .u8 19), .lit (.int .u8 16), .lit (.int .u8 7), .lit (.int .u8 26), .lit (.int .u8 12), .lit (.int .u8 18), .lit (.int .u8 6), .lit (.int .u8 11), .lit (.int .u8 5), .lit (.int .u8 10), .lit (.int .u8 9)]

/-- 'chartroomlaw16.TextSpec': WHATEVER THE INPUT: true; the input reads as it did. -/
def textSpecSpec : ChangeSpec := { name := "textSpec", fn := fun _ => fun
  | [d1, d2] => { results := [.lit (.bool true)], args := [d1, d2] }
  | _ => none }
def textSpecRow : OpenClaim := { program := "yteaclamkacmhmaadoor", sum := "e530e078f7669f1b988ff8bd12bbfd2c6f158a5b4f76557e84f5ffe6963afea6", func := "chartroom/chartroomlaw16.TextSpec", spec := "textSpec", inPlace := ["slices.overlaps[chartroom/api.Mark]", "internal/abi.NoEscape"], unfollowed := true, recurses := true, named := ["math/bits.deBruijn32tab"], plainKeys := false, apart := false, laid := [("math/bits.deBruijn32tab", laid_math_bits_deBruijn32tab)] }
def TextSpecSaid : Prop := textSpecRow.holds Tryd.pinned (OpenSpec.ofChange textSpecSpec)

/-- ITS FALSE NEIGHBOUR: 'it returns false'. Refute it at one input. -/
def textSpecWrong : ChangeSpec := { name := "textSpec", fn := fun _ => fun
  | [d1, d2] => { results := [.lit (.bool false)], args := [d1, d2] }
  | _ => none }
def TextSpecWrongFalsely : Prop := textSpecRow.holds Tryd.pinned (OpenSpec.ofChange textSpecWrong)

/-- 'chartroomlaw16.TextEditsSpec': WHATEVER THE INPUT: true; the input reads as it did. -/
def textEditsSpecSpec : ChangeSpec := { name := "textEditsSpec", fn := fun _ => fun
  | [d1, d2] => { results := [.lit (.bool true)], args := [d1, d2] }
  | _ => none }
def textEditsSpecRow : OpenClaim := { program := "yteaclamkacmhmaadoor", sum := "e530e078f7669f1b988ff8bd12bbfd2c6f158a5b4f76557e84f5ffe6963afea6", func := "chartroom/chartroomlaw16.TextEditsSpec", spec := "textEditsSpec", inPlace := ["slices.overlaps[chartroom/api.Mark]", "internal/abi.NoEscape"], unfollowed := true, recurses := true, named := ["math/bits.deBruijn32tab"], plainKeys := false, apart := false, laid := [("math/bits.deBruijn32tab", laid_math_bits_deBruijn32tab)] }
def TextEditsSpecSaid : Prop := textEditsSpecRow.holds Tryd.pinned (OpenSpec.ofChange textEditsSpecSpec)

/-- ITS FALSE NEIGHBOUR: 'it returns false'. Refute it at one input. -/
def textEditsSpecWrong : ChangeSpec := { name := "textEditsSpec", fn := fun _ => fun
  | [d1, d2] => { results := [.lit (.bool false)], args := [d1, d2] }
  | _ => none }
def TextEditsSpecWrongFalsely : Prop := textEditsSpecRow.holds Tryd.pinned (OpenSpec.ofChange textEditsSpecWrong)

/-- 'chartroomlaw16.TextCommutes': WHATEVER THE INPUT: true; the input reads as it did. -/
def textCommutesSpec : ChangeSpec := { name := "textCommutes", fn := fun _ => fun
  | [d1, d2, d3] => { results := [.lit (.bool true)], args := [d1, d2, d3] }
  | _ => none }
def textCommutesRow : OpenClaim := { program := "yteaclamkacmhmaadoor", sum := "e530e078f7669f1b988ff8bd12bbfd2c6f158a5b4f76557e84f5ffe6963afea6", func := "chartroom/chartroomlaw16.TextCommutes", spec := "textCommutes", inPlace := ["slices.overlaps[chartroom/api.Mark]", "internal/abi.NoEscape"], unfollowed := true, recurses := true, named := ["math/bits.deBruijn32tab"], plainKeys := false, apart := false, laid := [("math/bits.deBruijn32tab", laid_math_bits_deBruijn32tab)] }
def TextCommutesSaid : Prop := textCommutesRow.holds Tryd.pinned (OpenSpec.ofChange textCommutesSpec)

/-- ITS FALSE NEIGHBOUR: 'it returns false'. Refute it at one input. -/
def textCommutesWrong : ChangeSpec := { name := "textCommutes", fn := fun _ => fun
  | [d1, d2, d3] => { results := [.lit (.bool false)], args := [d1, d2, d3] }
  | _ => none }
def TextCommutesWrongFalsely : Prop := textCommutesRow.holds Tryd.pinned (OpenSpec.ofChange textCommutesWrong)

/-- 'chartroomlaw16.TextTyped': WHATEVER THE INPUT: true; the input reads as it did. -/
def textTypedSpec : ChangeSpec := { name := "textTyped", fn := fun _ => fun
  | [d1, d2, d3, d4, d5] => { results := [.lit (.bool true)], args := [d1, d2, d3, d4, d5] }
  | _ => none }
def textTypedRow : OpenClaim := { program := "yteaclamkacmhmaadoor", sum := "e530e078f7669f1b988ff8bd12bbfd2c6f158a5b4f76557e84f5ffe6963afea6", func := "chartroom/chartroomlaw16.TextTyped", spec := "textTyped", inPlace := ["slices.overlaps[chartroom/api.Mark]", "internal/abi.NoEscape"], unfollowed := true, recurses := true, named := ["math/bits.deBruijn32tab"], plainKeys := false, apart := false, laid := [("math/bits.deBruijn32tab", laid_math_bits_deBruijn32tab)] }
def TextTypedSaid : Prop := textTypedRow.holds Tryd.pinned (OpenSpec.ofChange textTypedSpec)

/-- ITS FALSE NEIGHBOUR: 'it returns false'. Refute it at one input. -/
def textTypedWrong : ChangeSpec := { name := "textTyped", fn := fun _ => fun
  | [d1, d2, d3, d4, d5] => { results := [.lit (.bool false)], args := [d1, d2, d3, d4, d5] }
  | _ => none }
def TextTypedWrongFalsely : Prop := textTypedRow.holds Tryd.pinned (OpenSpec.ofChange textTypedWrong)

/-- 'chartroomlaw16.TextCuts': WHATEVER THE INPUT: true; the input reads as it did. -/
def textCutsSpec : ChangeSpec := { name := "textCuts", fn := fun _ => fun
  | [d1, d2, d3] => { results := [.lit (.bool true)], args := [d1, d2, d3] }
  | _ => none }
def textCutsRow : OpenClaim := { program := "yteaclamkacmhmaadoor", sum := "e530e078f7669f1b988ff8bd12bbfd2c6f158a5b4f76557e84f5ffe6963afea6", func := "chartroom/chartroomlaw16.TextCuts", spec := "textCuts", inPlace := ["slices.overlaps[chartroom/api.Mark]", "internal/abi.NoEscape"], unfollowed := true, recurses := true, named := ["math/bits.deBruijn32tab"], plainKeys := false, apart := false, laid := [("math/bits.deBruijn32tab", laid_math_bits_deBruijn32tab)] }
def TextCutsSaid : Prop := textCutsRow.holds Tryd.pinned (OpenSpec.ofChange textCutsSpec)

/-- ITS FALSE NEIGHBOUR: 'it returns false'. Refute it at one input. -/
def textCutsWrong : ChangeSpec := { name := "textCuts", fn := fun _ => fun
  | [d1, d2, d3] => { results := [.lit (.bool false)], args := [d1, d2, d3] }
  | _ => none }
def TextCutsWrongFalsely : Prop := textCutsRow.holds Tryd.pinned (OpenSpec.ofChange textCutsWrong)

/-- 'chartroomlaw16.TextMarks': WHATEVER THE INPUT: true; the input reads as it did. -/
def textMarksSpec : ChangeSpec := { name := "textMarks", fn := fun _ => fun
  | [d1, d2] => { results := [.lit (.bool true)], args := [d1, d2] }
  | _ => none }
def textMarksRow : OpenClaim := { program := "yteaclamkacmhmaadoor", sum := "e530e078f7669f1b988ff8bd12bbfd2c6f158a5b4f76557e84f5ffe6963afea6", func := "chartroom/chartroomlaw16.TextMarks", spec := "textMarks", inPlace := ["slices.overlaps[chartroom/api.Mark]", "internal/abi.NoEscape"], unfollowed := true, recurses := true, named := ["math/bits.deBruijn32tab"], plainKeys := false, apart := false, laid := [("math/bits.deBruijn32tab", laid_math_bits_deBruijn32tab)] }
def TextMarksSaid : Prop := textMarksRow.holds Tryd.pinned (OpenSpec.ofChange textMarksSpec)

/-- ITS FALSE NEIGHBOUR: 'it returns false'. Refute it at one input. -/
def textMarksWrong : ChangeSpec := { name := "textMarks", fn := fun _ => fun
  | [d1, d2] => { results := [.lit (.bool false)], args := [d1, d2] }
  | _ => none }
def TextMarksWrongFalsely : Prop := textMarksRow.holds Tryd.pinned (OpenSpec.ofChange textMarksWrong)

/-- 'chartroomlaw16.TextRuns': WHATEVER THE INPUT: true; the input reads as it did. -/
def textRunsSpec : ChangeSpec := { name := "textRuns", fn := fun _ => fun
  | [d] => { results := [.lit (.bool true)], args := [d] }
  | _ => none }
def textRunsRow : OpenClaim := { program := "yteaclamkacmhmaadoor", sum := "e530e078f7669f1b988ff8bd12bbfd2c6f158a5b4f76557e84f5ffe6963afea6", func := "chartroom/chartroomlaw16.TextRuns", spec := "textRuns", inPlace := ["slices.overlaps[chartroom/api.Mark]", "internal/abi.NoEscape"], unfollowed := true, recurses := true, named := ["math/bits.deBruijn32tab"], plainKeys := false, apart := false, laid := [("math/bits.deBruijn32tab", laid_math_bits_deBruijn32tab)] }
def TextRunsSaid : Prop := textRunsRow.holds Tryd.pinned (OpenSpec.ofChange textRunsSpec)

/-- ITS FALSE NEIGHBOUR: 'it returns false'. Refute it at one input. -/
def textRunsWrong : ChangeSpec := { name := "textRuns", fn := fun _ => fun
  | [d] => { results := [.lit (.bool false)], args := [d] }
  | _ => none }
def TextRunsWrongFalsely : Prop := textRunsRow.holds Tryd.pinned (OpenSpec.ofChange textRunsWrong)

/-- 'chartroomlaw16.TextKeeps': WHATEVER THE INPUT: true; the input reads as it did. -/
def textKeepsSpec : ChangeSpec := { name := "textKeeps", fn := fun _ => fun
  | [d1, d2] => { results := [.lit (.bool true)], args := [d1, d2] }
  | _ => none }
def textKeepsRow : OpenClaim := { program := "yteaclamkacmhmaadoor", sum := "e530e078f7669f1b988ff8bd12bbfd2c6f158a5b4f76557e84f5ffe6963afea6", func := "chartroom/chartroomlaw16.TextKeeps", spec := "textKeeps", inPlace := ["slices.overlaps[chartroom/api.Mark]", "internal/abi.NoEscape"], unfollowed := true, recurses := true, named := ["math/bits.deBruijn32tab"], plainKeys := false, apart := false, laid := [("math/bits.deBruijn32tab", laid_math_bits_deBruijn32tab)] }
def TextKeepsSaid : Prop := textKeepsRow.holds Tryd.pinned (OpenSpec.ofChange textKeepsSpec)

/-- ITS FALSE NEIGHBOUR: 'it returns false'. Refute it at one input. -/
def textKeepsWrong : ChangeSpec := { name := "textKeeps", fn := fun _ => fun
  | [d1, d2] => { results := [.lit (.bool false)], args := [d1, d2] }
  | _ => none }
def TextKeepsWrongFalsely : Prop := textKeepsRow.holds Tryd.pinned (OpenSpec.ofChange textKeepsWrong)

/- THE SECOND FORM. 'bulk': how many values and letters a reading holds, each counted each time it is reached (what is shared counts as often as it is met; a slice's spare places count too). A statement '..UptoSaid' is the law's where the arguments, and the package variables that the reading takes, are together of bulk at most 1048576: NARROWER than '..Said'. Prove '..Said' where nothing that the law and all that it calls make is longer than what came in: it says more and counts as full. Else prove '..UptoSaid'. A law counts once. -/
mutual
def uptoBulk {H : Type} : DataW H → Nat
  | .lit (.string bytes) => bytes.length + 1
  | .lit _ => 1
  | .nil => 1
  | .ptr d => uptoBulk d + 1
  | .slice elems spare => uptoBulkAll elems + uptoBulkAll spare + 1
  | .agg parts => uptoBulkAll parts + 1
  | .iface _ d => uptoBulk d + 1
  | .map entries => uptoBulkEntries entries + 1
  | .held _ => 1
def uptoBulkAll {H : Type} : List (DataW H) → Nat
  | [] => 0
  | d :: r => uptoBulk d + uptoBulkAll r
def uptoBulkEntries {H : Type} : List (Lit × DataW H) → Nat
  | [] => 0
  | x :: r => uptoBulkEntry x + uptoBulkEntries r
def uptoBulkEntry {H : Type} : Lit × DataW H → Nat
  | (.string bytes, d) => bytes.length + uptoBulk d + 1
  | (_, d) => uptoBulk d + 1
 end
def uptoSmall : (H : Type) → List (DataW H) → Bool := fun _ ds => decide (uptoBulkAll ds ≤ 1048576)
def OpenSpec.upto (s : _root_.Go.ChangeSpec) : _root_.Go.OpenSpec := { _root_.Go.OpenSpec.ofChange s with cond := some uptoSmall }

/-- 'chartroomlaw16.TextSpec', WHERE WHAT IT READS IS OF BULK AT MOST 1048576: true; the input reads as it did. -/
def textSpecUptoRow : OpenClaim := { program := "yteaclamkacmhmaadoor", sum := "e530e078f7669f1b988ff8bd12bbfd2c6f158a5b4f76557e84f5ffe6963afea6", func := "chartroom/chartroomlaw16.TextSpec", spec := "textSpec", inPlace := ["slices.overlaps[chartroom/api.Mark]", "internal/abi.NoEscape"], unfollowed := true, recurses := true, named := ["math/bits.deBruijn32tab"], plainKeys := false, apart := false, laid := [("math/bits.deBruijn32tab", laid_math_bits_deBruijn32tab)], narrowed := true }
def TextSpecUptoSaid : Prop := textSpecUptoRow.holds Tryd.pinned (OpenSpec.upto textSpecSpec)

/-- 'chartroomlaw16.TextEditsSpec', WHERE WHAT IT READS IS OF BULK AT MOST 1048576: true; the input reads as it did. -/
def textEditsSpecUptoRow : OpenClaim := { program := "yteaclamkacmhmaadoor", sum := "e530e078f7669f1b988ff8bd12bbfd2c6f158a5b4f76557e84f5ffe6963afea6", func := "chartroom/chartroomlaw16.TextEditsSpec", spec := "textEditsSpec", inPlace := ["slices.overlaps[chartroom/api.Mark]", "internal/abi.NoEscape"], unfollowed := true, recurses := true, named := ["math/bits.deBruijn32tab"], plainKeys := false, apart := false, laid := [("math/bits.deBruijn32tab", laid_math_bits_deBruijn32tab)], narrowed := true }
def TextEditsSpecUptoSaid : Prop := textEditsSpecUptoRow.holds Tryd.pinned (OpenSpec.upto textEditsSpecSpec)

/-- 'chartroomlaw16.TextCommutes', WHERE WHAT IT READS IS OF BULK AT MOST 1048576: true; the input reads as it did. -/
def textCommutesUptoRow : OpenClaim := { program := "yteaclamkacmhmaadoor", sum := "e530e078f7669f1b988ff8bd12bbfd2c6f158a5b4f76557e84f5ffe6963afea6", func := "chartroom/chartroomlaw16.TextCommutes", spec := "textCommutes", inPlace := ["slices.overlaps[chartroom/api.Mark]", "internal/abi.NoEscape"], unfollowed := true, recurses := true, named := ["math/bits.deBruijn32tab"], plainKeys := false, apart := false, laid := [("math/bits.deBruijn32tab", laid_math_bits_deBruijn32tab)], narrowed := true }
def TextCommutesUptoSaid : Prop := textCommutesUptoRow.holds Tryd.pinned (OpenSpec.upto textCommutesSpec)

/-- 'chartroomlaw16.TextTyped', WHERE WHAT IT READS IS OF BULK AT MOST 1048576: true; the input reads as it did. -/
def textTypedUptoRow : OpenClaim := { program := "yteaclamkacmhmaadoor", sum := "e530e078f7669f1b988ff8bd12bbfd2c6f158a5b4f76557e84f5ffe6963afea6", func := "chartroom/chartroomlaw16.TextTyped", spec := "textTyped", inPlace := ["slices.overlaps[chartroom/api.Mark]", "internal/abi.NoEscape"], unfollowed := true, recurses := true, named := ["math/bits.deBruijn32tab"], plainKeys := false, apart := false, laid := [("math/bits.deBruijn32tab", laid_math_bits_deBruijn32tab)], narrowed := true }
def TextTypedUptoSaid : Prop := textTypedUptoRow.holds Tryd.pinned (OpenSpec.upto textTypedSpec)

/-- 'chartroomlaw16.TextCuts', WHERE WHAT IT READS IS OF BULK AT MOST 1048576: true; the input reads as it did. -/
def textCutsUptoRow : OpenClaim := { program := "yteaclamkacmhmaadoor", sum := "e530e078f7669f1b988ff8bd12bbfd2c6f158a5b4f76557e84f5ffe6963afea6", func := "chartroom/chartroomlaw16.TextCuts", spec := "textCuts", inPlace := ["slices.overlaps[chartroom/api.Mark]", "internal/abi.NoEscape"], unfollowed := true, recurses := true, named := ["math/bits.deBruijn32tab"], plainKeys := false, apart := false, laid := [("math/bits.deBruijn32tab", laid_math_bits_deBruijn32tab)], narrowed := true }
def TextCutsUptoSaid : Prop := textCutsUptoRow.holds Tryd.pinned (OpenSpec.upto textCutsSpec)

/-- 'chartroomlaw16.TextMarks', WHERE WHAT IT READS IS OF BULK AT MOST 1048576: true; the input reads as it did. -/
def textMarksUptoRow : OpenClaim := { program := "yteaclamkacmhmaadoor", sum := "e530e078f7669f1b988ff8bd12bbfd2c6f158a5b4f76557e84f5ffe6963afea6", func := "chartroom/chartroomlaw16.TextMarks", spec := "textMarks", inPlace := ["slices.overlaps[chartroom/api.Mark]", "internal/abi.NoEscape"], unfollowed := true, recurses := true, named := ["math/bits.deBruijn32tab"], plainKeys := false, apart := false, laid := [("math/bits.deBruijn32tab", laid_math_bits_deBruijn32tab)], narrowed := true }
def TextMarksUptoSaid : Prop := textMarksUptoRow.holds Tryd.pinned (OpenSpec.upto textMarksSpec)

/-- 'chartroomlaw16.TextRuns', WHERE WHAT IT READS IS OF BULK AT MOST 1048576: true; the input reads as it did. -/
def textRunsUptoRow : OpenClaim := { program := "yteaclamkacmhmaadoor", sum := "e530e078f7669f1b988ff8bd12bbfd2c6f158a5b4f76557e84f5ffe6963afea6", func := "chartroom/chartroomlaw16.TextRuns", spec := "textRuns", inPlace := ["slices.overlaps[chartroom/api.Mark]", "internal/abi.NoEscape"], unfollowed := true, recurses := true, named := ["math/bits.deBruijn32tab"], plainKeys := false, apart := false, laid := [("math/bits.deBruijn32tab", laid_math_bits_deBruijn32tab)], narrowed := true }
def TextRunsUptoSaid : Prop := textRunsUptoRow.holds Tryd.pinned (OpenSpec.upto textRunsSpec)

/-- 'chartroomlaw16.TextKeeps', WHERE WHAT IT READS IS OF BULK AT MOST 1048576: true; the input reads as it did. -/
def textKeepsUptoRow : OpenClaim := { program := "yteaclamkacmhmaadoor", sum := "e530e078f7669f1b988ff8bd12bbfd2c6f158a5b4f76557e84f5ffe6963afea6", func := "chartroom/chartroomlaw16.TextKeeps", spec := "textKeeps", inPlace := ["slices.overlaps[chartroom/api.Mark]", "internal/abi.NoEscape"], unfollowed := true, recurses := true, named := ["math/bits.deBruijn32tab"], plainKeys := false, apart := false, laid := [("math/bits.deBruijn32tab", laid_math_bits_deBruijn32tab)], narrowed := true }
def TextKeepsUptoSaid : Prop := textKeepsUptoRow.holds Tryd.pinned (OpenSpec.upto textKeepsSpec)

end Rows
end Go.Proofs.YteaclamkacmhmaaDoor
