/-
  DERIVED. GIVEN WITH THE SEED: THE CARDS: each row of YtkckmpmlbmdalaaDoorRows.lean that lists a variable, with what it lists TIED to the program's text (the seventh form; the later family's looks); each row that meets fmt, with fmt's text TOLD by the authors' own Lean function (tested against real Go, not proved from fmt's source: count such statements apart). THE CARD IS WHAT COUNTS. Prove the row's statement (the work); the ties are given (YtkckmpmlbmdalaaDoorTie.lean); close each card by the builder's one call (the guide's Derived/Test/ToyasCard.lean, 'card_holds'). Laid BY PROGRAM, IN A SANDBOX (cutbox-door.mjs). By AI agents, Wed Nov 11 2026. No macro, syntax, notation, axiom, sorry.
-/
import Derived.Test.YtkckmpmlbmdalaaDoorRows
import GoSem.ClaimSeven
namespace Go.Proofs.YtkckmpmlbmdalaaDoor
namespace Rows

/-- THE TIED CARD OF 'chartroomlaw17.OpsCheckSpec'. -/
def opsCheckSpecCard : Claim7 := { stood := { row := opsCheckSpecRow, standIns := [], harness := (true, "7bad15d520827b57baf843f9c7217af6ee307559c686db4a441a9305fcdfcde5"), looks := true }, kinds := [], alts := [], laidByText := true, laidKinds := [.funcs, .funcs], laidTests := true, laidLooks := .later }
def OpsCheckSpecCardSaid : Prop := Claim7.holds Tryd.pinned (.plain (OpenSpec.ofChange opsCheckSpecSpec)) opsCheckSpecCard

/-- THE TIED CARD OF 'chartroomlaw17.OpsEncodeSpec'. -/
def opsEncodeSpecCard : Claim7 := { stood := { row := opsEncodeSpecRow, standIns := [], harness := (true, "7bad15d520827b57baf843f9c7217af6ee307559c686db4a441a9305fcdfcde5"), looks := true }, kinds := [], alts := [], laidByText := true, laidKinds := [.funcs, .funcs], laidTests := true, laidLooks := .later }
def OpsEncodeSpecCardSaid : Prop := Claim7.holds Tryd.pinned (.plain (OpenSpec.ofChange opsEncodeSpecSpec)) opsEncodeSpecCard

/-- THE TIED CARD OF 'chartroomlaw17.OpsBack'. -/
def opsBackCard : Claim7 := { stood := { row := opsBackRow, standIns := [], harness := (true, "7bad15d520827b57baf843f9c7217af6ee307559c686db4a441a9305fcdfcde5"), looks := true }, kinds := [], alts := [], laidByText := true, laidKinds := [.funcs, .funcs], laidTests := true, laidLooks := .later }
def OpsBackCardSaid : Prop := Claim7.holds Tryd.pinned (.plain (OpenSpec.ofChange opsBackSpec)) opsBackCard

/-- THE TIED CARD OF 'chartroomlaw17.OpsContents'. -/
def opsContentsCard : Claim7 := { stood := { row := opsContentsRow, standIns := [], harness := (true, "7bad15d520827b57baf843f9c7217af6ee307559c686db4a441a9305fcdfcde5"), looks := true }, kinds := [], alts := [], laidByText := true, laidKinds := [.funcs, .funcs], laidTests := true, laidLooks := .later }
def OpsContentsCardSaid : Prop := Claim7.holds Tryd.pinned (.plain (OpenSpec.ofChange opsContentsSpec)) opsContentsCard

/-- THE TIED CARD OF 'chartroomlaw17.OpsOrder'. -/
def opsOrderCard : Claim7 := { stood := { row := opsOrderRow, standIns := [], harness := (true, "7bad15d520827b57baf843f9c7217af6ee307559c686db4a441a9305fcdfcde5"), looks := true }, kinds := [], alts := [], laidByText := true, laidKinds := [.funcs, .funcs], laidTests := true, laidLooks := .later }
def OpsOrderCardSaid : Prop := Claim7.holds Tryd.pinned (.plain (OpenSpec.ofChange opsOrderSpec)) opsOrderCard

/-- THE TIED CARD OF 'chartroomlaw17.OpsKnows'. -/
def opsKnowsCard : Claim7 := { stood := { row := opsKnowsRow, standIns := [], harness := (true, "7bad15d520827b57baf843f9c7217af6ee307559c686db4a441a9305fcdfcde5"), looks := true }, kinds := [], alts := [], laidByText := true, laidKinds := [.funcs, .funcs], laidTests := true, laidLooks := .later }
def OpsKnowsCardSaid : Prop := Claim7.holds Tryd.pinned (.plain (OpenSpec.ofChange opsKnowsSpec)) opsKnowsCard

/-- THE TIED CARD OF 'chartroomlaw17.OpsFields'. -/
def opsFieldsCard : Claim7 := { stood := { row := opsFieldsRow, standIns := [], harness := (true, "7bad15d520827b57baf843f9c7217af6ee307559c686db4a441a9305fcdfcde5"), looks := true }, kinds := [], alts := [], laidByText := true, laidKinds := [.funcs, .funcs], laidTests := true, laidLooks := .later }
def OpsFieldsCardSaid : Prop := Claim7.holds Tryd.pinned (.plain (OpenSpec.ofChange opsFieldsSpec)) opsFieldsCard

/-- THE SECOND FORM's CARD OF 'chartroomlaw17.OpsCheckSpec'. -/
def opsCheckSpecUptoCard : Claim7 := { stood := { row := opsCheckSpecUptoRow, standIns := [], harness := (true, "7bad15d520827b57baf843f9c7217af6ee307559c686db4a441a9305fcdfcde5"), looks := true }, kinds := [], alts := [], laidByText := true, laidKinds := [.funcs, .funcs], laidTests := true, laidLooks := .later }
def OpsCheckSpecUptoCardSaid : Prop := Claim7.holds Tryd.pinned (.plain (OpenSpec.upto opsCheckSpecSpec)) opsCheckSpecUptoCard

/-- THE SECOND FORM's CARD OF 'chartroomlaw17.OpsEncodeSpec'. -/
def opsEncodeSpecUptoCard : Claim7 := { stood := { row := opsEncodeSpecUptoRow, standIns := [], harness := (true, "7bad15d520827b57baf843f9c7217af6ee307559c686db4a441a9305fcdfcde5"), looks := true }, kinds := [], alts := [], laidByText := true, laidKinds := [.funcs, .funcs], laidTests := true, laidLooks := .later }
def OpsEncodeSpecUptoCardSaid : Prop := Claim7.holds Tryd.pinned (.plain (OpenSpec.upto opsEncodeSpecSpec)) opsEncodeSpecUptoCard

/-- THE SECOND FORM's CARD OF 'chartroomlaw17.OpsBack'. -/
def opsBackUptoCard : Claim7 := { stood := { row := opsBackUptoRow, standIns := [], harness := (true, "7bad15d520827b57baf843f9c7217af6ee307559c686db4a441a9305fcdfcde5"), looks := true }, kinds := [], alts := [], laidByText := true, laidKinds := [.funcs, .funcs], laidTests := true, laidLooks := .later }
def OpsBackUptoCardSaid : Prop := Claim7.holds Tryd.pinned (.plain (OpenSpec.upto opsBackSpec)) opsBackUptoCard

/-- THE SECOND FORM's CARD OF 'chartroomlaw17.OpsContents'. -/
def opsContentsUptoCard : Claim7 := { stood := { row := opsContentsUptoRow, standIns := [], harness := (true, "7bad15d520827b57baf843f9c7217af6ee307559c686db4a441a9305fcdfcde5"), looks := true }, kinds := [], alts := [], laidByText := true, laidKinds := [.funcs, .funcs], laidTests := true, laidLooks := .later }
def OpsContentsUptoCardSaid : Prop := Claim7.holds Tryd.pinned (.plain (OpenSpec.upto opsContentsSpec)) opsContentsUptoCard

/-- THE SECOND FORM's CARD OF 'chartroomlaw17.OpsOrder'. -/
def opsOrderUptoCard : Claim7 := { stood := { row := opsOrderUptoRow, standIns := [], harness := (true, "7bad15d520827b57baf843f9c7217af6ee307559c686db4a441a9305fcdfcde5"), looks := true }, kinds := [], alts := [], laidByText := true, laidKinds := [.funcs, .funcs], laidTests := true, laidLooks := .later }
def OpsOrderUptoCardSaid : Prop := Claim7.holds Tryd.pinned (.plain (OpenSpec.upto opsOrderSpec)) opsOrderUptoCard

/-- THE SECOND FORM's CARD OF 'chartroomlaw17.OpsKnows'. -/
def opsKnowsUptoCard : Claim7 := { stood := { row := opsKnowsUptoRow, standIns := [], harness := (true, "7bad15d520827b57baf843f9c7217af6ee307559c686db4a441a9305fcdfcde5"), looks := true }, kinds := [], alts := [], laidByText := true, laidKinds := [.funcs, .funcs], laidTests := true, laidLooks := .later }
def OpsKnowsUptoCardSaid : Prop := Claim7.holds Tryd.pinned (.plain (OpenSpec.upto opsKnowsSpec)) opsKnowsUptoCard

/-- THE SECOND FORM's CARD OF 'chartroomlaw17.OpsFields'. -/
def opsFieldsUptoCard : Claim7 := { stood := { row := opsFieldsUptoRow, standIns := [], harness := (true, "7bad15d520827b57baf843f9c7217af6ee307559c686db4a441a9305fcdfcde5"), looks := true }, kinds := [], alts := [], laidByText := true, laidKinds := [.funcs, .funcs], laidTests := true, laidLooks := .later }
def OpsFieldsUptoCardSaid : Prop := Claim7.holds Tryd.pinned (.plain (OpenSpec.upto opsFieldsSpec)) opsFieldsUptoCard
end Rows
end Go.Proofs.YtkckmpmlbmdalaaDoor
