/-
  DERIVED. GIVEN WITH THE SEED: THE CARDS: each row of YteaclamkacmhmaaDoorRows.lean that lists a variable, with what it lists TIED to the program's text (the seventh form; the later family's looks); each row that meets fmt, with fmt's text TOLD by the authors' own Lean function (tested against real Go, not proved from fmt's source: count such statements apart). THE CARD IS WHAT COUNTS. Prove the row's statement (the work); the ties are given (YteaclamkacmhmaaDoorTie.lean); close each card by the builder's one call (the guide's Derived/Test/ToyasCard.lean, 'card_holds'). Laid BY PROGRAM, IN A SANDBOX (cutbox-door.mjs). By AI agents, Wed Nov 11 2026. No macro, syntax, notation, axiom, sorry.
-/
import Derived.Test.YteaclamkacmhmaaDoorRows
import GoSem.ClaimSeven
namespace Go.Proofs.YteaclamkacmhmaaDoor
namespace Rows

/-- THE TIED CARD OF 'chartroomlaw16.TextSpec'. -/
def textSpecCard : Claim7 := { stood := { row := textSpecRow, standIns := [], harness := (true, "40e61eeed5bb2a3a07e895cb3311f4316fb23ab6f7256550dac3c23db12029a2"), looks := false }, kinds := [], alts := [], laidByText := true, laidKinds := [.data], laidTests := true, laidLooks := .later }
def TextSpecCardSaid : Prop := Claim7.holds Tryd.pinned (.plain (OpenSpec.ofChange textSpecSpec)) textSpecCard

/-- THE TIED CARD OF 'chartroomlaw16.TextEditsSpec'. -/
def textEditsSpecCard : Claim7 := { stood := { row := textEditsSpecRow, standIns := [], harness := (true, "40e61eeed5bb2a3a07e895cb3311f4316fb23ab6f7256550dac3c23db12029a2"), looks := false }, kinds := [], alts := [], laidByText := true, laidKinds := [.data], laidTests := true, laidLooks := .later }
def TextEditsSpecCardSaid : Prop := Claim7.holds Tryd.pinned (.plain (OpenSpec.ofChange textEditsSpecSpec)) textEditsSpecCard

/-- THE TIED CARD OF 'chartroomlaw16.TextCommutes'. -/
def textCommutesCard : Claim7 := { stood := { row := textCommutesRow, standIns := [], harness := (true, "40e61eeed5bb2a3a07e895cb3311f4316fb23ab6f7256550dac3c23db12029a2"), looks := false }, kinds := [], alts := [], laidByText := true, laidKinds := [.data], laidTests := true, laidLooks := .later }
def TextCommutesCardSaid : Prop := Claim7.holds Tryd.pinned (.plain (OpenSpec.ofChange textCommutesSpec)) textCommutesCard

/-- THE TIED CARD OF 'chartroomlaw16.TextTyped'. -/
def textTypedCard : Claim7 := { stood := { row := textTypedRow, standIns := [], harness := (true, "40e61eeed5bb2a3a07e895cb3311f4316fb23ab6f7256550dac3c23db12029a2"), looks := false }, kinds := [], alts := [], laidByText := true, laidKinds := [.data], laidTests := true, laidLooks := .later }
def TextTypedCardSaid : Prop := Claim7.holds Tryd.pinned (.plain (OpenSpec.ofChange textTypedSpec)) textTypedCard

/-- THE TIED CARD OF 'chartroomlaw16.TextCuts'. -/
def textCutsCard : Claim7 := { stood := { row := textCutsRow, standIns := [], harness := (true, "40e61eeed5bb2a3a07e895cb3311f4316fb23ab6f7256550dac3c23db12029a2"), looks := false }, kinds := [], alts := [], laidByText := true, laidKinds := [.data], laidTests := true, laidLooks := .later }
def TextCutsCardSaid : Prop := Claim7.holds Tryd.pinned (.plain (OpenSpec.ofChange textCutsSpec)) textCutsCard

/-- THE TIED CARD OF 'chartroomlaw16.TextMarks'. -/
def textMarksCard : Claim7 := { stood := { row := textMarksRow, standIns := [], harness := (true, "40e61eeed5bb2a3a07e895cb3311f4316fb23ab6f7256550dac3c23db12029a2"), looks := false }, kinds := [], alts := [], laidByText := true, laidKinds := [.data], laidTests := true, laidLooks := .later }
def TextMarksCardSaid : Prop := Claim7.holds Tryd.pinned (.plain (OpenSpec.ofChange textMarksSpec)) textMarksCard

/-- THE TIED CARD OF 'chartroomlaw16.TextRuns'. -/
def textRunsCard : Claim7 := { stood := { row := textRunsRow, standIns := [], harness := (true, "40e61eeed5bb2a3a07e895cb3311f4316fb23ab6f7256550dac3c23db12029a2"), looks := false }, kinds := [], alts := [], laidByText := true, laidKinds := [.data], laidTests := true, laidLooks := .later }
def TextRunsCardSaid : Prop := Claim7.holds Tryd.pinned (.plain (OpenSpec.ofChange textRunsSpec)) textRunsCard

/-- THE TIED CARD OF 'chartroomlaw16.TextKeeps'. -/
def textKeepsCard : Claim7 := { stood := { row := textKeepsRow, standIns := [], harness := (true, "40e61eeed5bb2a3a07e895cb3311f4316fb23ab6f7256550dac3c23db12029a2"), looks := false }, kinds := [], alts := [], laidByText := true, laidKinds := [.data], laidTests := true, laidLooks := .later }
def TextKeepsCardSaid : Prop := Claim7.holds Tryd.pinned (.plain (OpenSpec.ofChange textKeepsSpec)) textKeepsCard

/-- THE SECOND FORM's CARD OF 'chartroomlaw16.TextSpec'. -/
def textSpecUptoCard : Claim7 := { stood := { row := textSpecUptoRow, standIns := [], harness := (true, "40e61eeed5bb2a3a07e895cb3311f4316fb23ab6f7256550dac3c23db12029a2"), looks := false }, kinds := [], alts := [], laidByText := true, laidKinds := [.data], laidTests := true, laidLooks := .later }
def TextSpecUptoCardSaid : Prop := Claim7.holds Tryd.pinned (.plain (OpenSpec.upto textSpecSpec)) textSpecUptoCard

/-- THE SECOND FORM's CARD OF 'chartroomlaw16.TextEditsSpec'. -/
def textEditsSpecUptoCard : Claim7 := { stood := { row := textEditsSpecUptoRow, standIns := [], harness := (true, "40e61eeed5bb2a3a07e895cb3311f4316fb23ab6f7256550dac3c23db12029a2"), looks := false }, kinds := [], alts := [], laidByText := true, laidKinds := [.data], laidTests := true, laidLooks := .later }
def TextEditsSpecUptoCardSaid : Prop := Claim7.holds Tryd.pinned (.plain (OpenSpec.upto textEditsSpecSpec)) textEditsSpecUptoCard

/-- THE SECOND FORM's CARD OF 'chartroomlaw16.TextCommutes'. -/
def textCommutesUptoCard : Claim7 := { stood := { row := textCommutesUptoRow, standIns := [], harness := (true, "40e61eeed5bb2a3a07e895cb3311f4316fb23ab6f7256550dac3c23db12029a2"), looks := false }, kinds := [], alts := [], laidByText := true, laidKinds := [.data], laidTests := true, laidLooks := .later }
def TextCommutesUptoCardSaid : Prop := Claim7.holds Tryd.pinned (.plain (OpenSpec.upto textCommutesSpec)) textCommutesUptoCard

/-- THE SECOND FORM's CARD OF 'chartroomlaw16.TextTyped'. -/
def textTypedUptoCard : Claim7 := { stood := { row := textTypedUptoRow, standIns := [], harness := (true, "40e61eeed5bb2a3a07e895cb3311f4316fb23ab6f7256550dac3c23db12029a2"), looks := false }, kinds := [], alts := [], laidByText := true, laidKinds := [.data], laidTests := true, laidLooks := .later }
def TextTypedUptoCardSaid : Prop := Claim7.holds Tryd.pinned (.plain (OpenSpec.upto textTypedSpec)) textTypedUptoCard

/-- THE SECOND FORM's CARD OF 'chartroomlaw16.TextCuts'. -/
def textCutsUptoCard : Claim7 := { stood := { row := textCutsUptoRow, standIns := [], harness := (true, "40e61eeed5bb2a3a07e895cb3311f4316fb23ab6f7256550dac3c23db12029a2"), looks := false }, kinds := [], alts := [], laidByText := true, laidKinds := [.data], laidTests := true, laidLooks := .later }
def TextCutsUptoCardSaid : Prop := Claim7.holds Tryd.pinned (.plain (OpenSpec.upto textCutsSpec)) textCutsUptoCard

/-- THE SECOND FORM's CARD OF 'chartroomlaw16.TextMarks'. -/
def textMarksUptoCard : Claim7 := { stood := { row := textMarksUptoRow, standIns := [], harness := (true, "40e61eeed5bb2a3a07e895cb3311f4316fb23ab6f7256550dac3c23db12029a2"), looks := false }, kinds := [], alts := [], laidByText := true, laidKinds := [.data], laidTests := true, laidLooks := .later }
def TextMarksUptoCardSaid : Prop := Claim7.holds Tryd.pinned (.plain (OpenSpec.upto textMarksSpec)) textMarksUptoCard

/-- THE SECOND FORM's CARD OF 'chartroomlaw16.TextRuns'. -/
def textRunsUptoCard : Claim7 := { stood := { row := textRunsUptoRow, standIns := [], harness := (true, "40e61eeed5bb2a3a07e895cb3311f4316fb23ab6f7256550dac3c23db12029a2"), looks := false }, kinds := [], alts := [], laidByText := true, laidKinds := [.data], laidTests := true, laidLooks := .later }
def TextRunsUptoCardSaid : Prop := Claim7.holds Tryd.pinned (.plain (OpenSpec.upto textRunsSpec)) textRunsUptoCard

/-- THE SECOND FORM's CARD OF 'chartroomlaw16.TextKeeps'. -/
def textKeepsUptoCard : Claim7 := { stood := { row := textKeepsUptoRow, standIns := [], harness := (true, "40e61eeed5bb2a3a07e895cb3311f4316fb23ab6f7256550dac3c23db12029a2"), looks := false }, kinds := [], alts := [], laidByText := true, laidKinds := [.data], laidTests := true, laidLooks := .later }
def TextKeepsUptoCardSaid : Prop := Claim7.holds Tryd.pinned (.plain (OpenSpec.upto textKeepsSpec)) textKeepsUptoCard
end Rows
end Go.Proofs.YteaclamkacmhmaaDoor
