/-
  DERIVED. GIVEN WITH THE SEED: THE CARDS: each row of YtdacbkmlfcjcgaaGreatDoorRows.lean that lists a variable, with what it lists TIED to the program's text (the seventh form; the later family's looks); each row that meets fmt, with fmt's text TOLD by the authors' own Lean function (tested against real Go, not proved from fmt's source: count such statements apart). THE CARD IS WHAT COUNTS. Prove the row's statement (the work); the ties are given (YtdacbkmlfcjcgaaGreatDoorTie.lean); close each card by the builder's one call (the guide's Derived/Test/ToyasCard.lean, 'card_holds'). Laid BY PROGRAM, IN A SANDBOX (cutbox-door.mjs). By AI agents, Wed Nov 11 2026. No macro, syntax, notation, axiom, sorry.
-/
import Derived.Test.YtdacbkmlfcjcgaaGreatDoorRows
import GoSem.ClaimSeven
namespace Go.Proofs.YtdacbkmlfcjcgaaGreatDoor
namespace Rows

/-- THE TIED CARD OF 'chartroomlaw18.DocumentApplySpec'. -/
def documentApplySpecCard : Claim7 := { stood := { row := documentApplySpecRow, standIns := [], harness := (true, "971b91eeaff0ace97e5250ba8450903fab2114d8980ca6e3aa6346a037cc8068"), looks := true }, kinds := [], alts := [], laidByText := true, laidKinds := [.data, .funcs, .funcs, .funcs], laidTests := true, laidLooks := .later }
def DocumentApplySpecCardSaid : Prop := Claim7.holds Tryz.pinned (.plain (OpenSpec.ofChange documentApplySpecSpec)) documentApplySpecCard

/-- THE TIED CARD OF 'chartroomlaw18.DocumentCheckSpec'. -/
def documentCheckSpecCard : Claim7 := { stood := { row := documentCheckSpecRow, standIns := [], harness := (true, "971b91eeaff0ace97e5250ba8450903fab2114d8980ca6e3aa6346a037cc8068"), looks := true }, kinds := [], alts := [], laidByText := true, laidKinds := [.data, .funcs, .funcs, .funcs], laidTests := true, laidLooks := .later }
def DocumentCheckSpecCardSaid : Prop := Claim7.holds Tryz.pinned (.plain (OpenSpec.ofChange documentCheckSpecSpec)) documentCheckSpecCard

/-- THE TIED CARD OF 'chartroomlaw18.DocumentCodeSpec'. -/
def documentCodeSpecCard : Claim7 := { stood := { row := documentCodeSpecRow, standIns := [], harness := (true, "971b91eeaff0ace97e5250ba8450903fab2114d8980ca6e3aa6346a037cc8068"), looks := true }, kinds := [], alts := [], laidByText := true, laidKinds := [.data, .funcs, .funcs, .funcs], laidTests := true, laidLooks := .later }
def DocumentCodeSpecCardSaid : Prop := Claim7.holds Tryz.pinned (.plain (OpenSpec.ofChange documentCodeSpecSpec)) documentCodeSpecCard

/-- THE TIED CARD OF 'chartroomlaw18.DocumentCommutes'. -/
def documentCommutesCard : Claim7 := { stood := { row := documentCommutesRow, standIns := [], harness := (true, "971b91eeaff0ace97e5250ba8450903fab2114d8980ca6e3aa6346a037cc8068"), looks := true }, kinds := [], alts := [], laidByText := true, laidKinds := [.data, .funcs, .funcs, .funcs], laidTests := true, laidLooks := .later }
def DocumentCommutesCardSaid : Prop := Claim7.holds Tryz.pinned (.plain (OpenSpec.ofChange documentCommutesSpec)) documentCommutesCard

/-- THE TIED CARD OF 'chartroomlaw18.DocumentSeen'. -/
def documentSeenCard : Claim7 := { stood := { row := documentSeenRow, standIns := [], harness := (true, "971b91eeaff0ace97e5250ba8450903fab2114d8980ca6e3aa6346a037cc8068"), looks := true }, kinds := [], alts := [], laidByText := true, laidKinds := [.data, .funcs, .funcs, .funcs], laidTests := true, laidLooks := .later }
def DocumentSeenCardSaid : Prop := Claim7.holds Tryz.pinned (.plain (OpenSpec.ofChange documentSeenSpec)) documentSeenCard

/-- THE TIED CARD OF 'chartroomlaw18.DocumentBack'. -/
def documentBackCard : Claim7 := { stood := { row := documentBackRow, standIns := [], harness := (true, "971b91eeaff0ace97e5250ba8450903fab2114d8980ca6e3aa6346a037cc8068"), looks := true }, kinds := [], alts := [], laidByText := true, laidKinds := [.data, .funcs, .funcs, .funcs], laidTests := true, laidLooks := .later }
def DocumentBackCardSaid : Prop := Claim7.holds Tryz.pinned (.plain (OpenSpec.ofChange documentBackSpec)) documentBackCard

/-- THE TIED CARD OF 'chartroomlaw18.DocumentEffects'. -/
def documentEffectsCard : Claim7 := { stood := { row := documentEffectsRow, standIns := [], harness := (true, "971b91eeaff0ace97e5250ba8450903fab2114d8980ca6e3aa6346a037cc8068"), looks := true }, kinds := [], alts := [], laidByText := true, laidKinds := [.data, .funcs, .funcs, .funcs], laidTests := true, laidLooks := .later }
def DocumentEffectsCardSaid : Prop := Claim7.holds Tryz.pinned (.plain (OpenSpec.ofChange documentEffectsSpec)) documentEffectsCard

/-- THE SECOND FORM's CARD OF 'chartroomlaw18.DocumentApplySpec'. -/
def documentApplySpecUptoCard : Claim7 := { stood := { row := documentApplySpecUptoRow, standIns := [], harness := (true, "971b91eeaff0ace97e5250ba8450903fab2114d8980ca6e3aa6346a037cc8068"), looks := true }, kinds := [], alts := [], laidByText := true, laidKinds := [.data, .funcs, .funcs, .funcs], laidTests := true, laidLooks := .later }
def DocumentApplySpecUptoCardSaid : Prop := Claim7.holds Tryz.pinned (.plain (OpenSpec.upto documentApplySpecSpec)) documentApplySpecUptoCard

/-- THE SECOND FORM's CARD OF 'chartroomlaw18.DocumentCheckSpec'. -/
def documentCheckSpecUptoCard : Claim7 := { stood := { row := documentCheckSpecUptoRow, standIns := [], harness := (true, "971b91eeaff0ace97e5250ba8450903fab2114d8980ca6e3aa6346a037cc8068"), looks := true }, kinds := [], alts := [], laidByText := true, laidKinds := [.data, .funcs, .funcs, .funcs], laidTests := true, laidLooks := .later }
def DocumentCheckSpecUptoCardSaid : Prop := Claim7.holds Tryz.pinned (.plain (OpenSpec.upto documentCheckSpecSpec)) documentCheckSpecUptoCard

/-- THE SECOND FORM's CARD OF 'chartroomlaw18.DocumentCodeSpec'. -/
def documentCodeSpecUptoCard : Claim7 := { stood := { row := documentCodeSpecUptoRow, standIns := [], harness := (true, "971b91eeaff0ace97e5250ba8450903fab2114d8980ca6e3aa6346a037cc8068"), looks := true }, kinds := [], alts := [], laidByText := true, laidKinds := [.data, .funcs, .funcs, .funcs], laidTests := true, laidLooks := .later }
def DocumentCodeSpecUptoCardSaid : Prop := Claim7.holds Tryz.pinned (.plain (OpenSpec.upto documentCodeSpecSpec)) documentCodeSpecUptoCard

/-- THE SECOND FORM's CARD OF 'chartroomlaw18.DocumentCommutes'. -/
def documentCommutesUptoCard : Claim7 := { stood := { row := documentCommutesUptoRow, standIns := [], harness := (true, "971b91eeaff0ace97e5250ba8450903fab2114d8980ca6e3aa6346a037cc8068"), looks := true }, kinds := [], alts := [], laidByText := true, laidKinds := [.data, .funcs, .funcs, .funcs], laidTests := true, laidLooks := .later }
def DocumentCommutesUptoCardSaid : Prop := Claim7.holds Tryz.pinned (.plain (OpenSpec.upto documentCommutesSpec)) documentCommutesUptoCard

/-- THE SECOND FORM's CARD OF 'chartroomlaw18.DocumentSeen'. -/
def documentSeenUptoCard : Claim7 := { stood := { row := documentSeenUptoRow, standIns := [], harness := (true, "971b91eeaff0ace97e5250ba8450903fab2114d8980ca6e3aa6346a037cc8068"), looks := true }, kinds := [], alts := [], laidByText := true, laidKinds := [.data, .funcs, .funcs, .funcs], laidTests := true, laidLooks := .later }
def DocumentSeenUptoCardSaid : Prop := Claim7.holds Tryz.pinned (.plain (OpenSpec.upto documentSeenSpec)) documentSeenUptoCard

/-- THE SECOND FORM's CARD OF 'chartroomlaw18.DocumentBack'. -/
def documentBackUptoCard : Claim7 := { stood := { row := documentBackUptoRow, standIns := [], harness := (true, "971b91eeaff0ace97e5250ba8450903fab2114d8980ca6e3aa6346a037cc8068"), looks := true }, kinds := [], alts := [], laidByText := true, laidKinds := [.data, .funcs, .funcs, .funcs], laidTests := true, laidLooks := .later }
def DocumentBackUptoCardSaid : Prop := Claim7.holds Tryz.pinned (.plain (OpenSpec.upto documentBackSpec)) documentBackUptoCard

/-- THE SECOND FORM's CARD OF 'chartroomlaw18.DocumentEffects'. -/
def documentEffectsUptoCard : Claim7 := { stood := { row := documentEffectsUptoRow, standIns := [], harness := (true, "971b91eeaff0ace97e5250ba8450903fab2114d8980ca6e3aa6346a037cc8068"), looks := true }, kinds := [], alts := [], laidByText := true, laidKinds := [.data, .funcs, .funcs, .funcs], laidTests := true, laidLooks := .later }
def DocumentEffectsUptoCardSaid : Prop := Claim7.holds Tryz.pinned (.plain (OpenSpec.upto documentEffectsSpec)) documentEffectsUptoCard
end Rows
end Go.Proofs.YtdacbkmlfcjcgaaGreatDoor
