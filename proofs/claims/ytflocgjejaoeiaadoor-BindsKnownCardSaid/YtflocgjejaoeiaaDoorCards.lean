/-
  DERIVED. GIVEN WITH THE SEED: THE CARDS: each row of YtflocgjejaoeiaaDoorRows.lean that lists a variable, with what it lists TIED to the program's text (the seventh form; the later family's looks); each row that meets fmt, with fmt's text TOLD by the authors' own Lean function (tested against real Go, not proved from fmt's source: count such statements apart). THE CARD IS WHAT COUNTS. Prove the row's statement (the work); the ties are given (YtflocgjejaoeiaaDoorTie.lean); close each card by the builder's one call (the guide's Derived/Test/ToyasCard.lean, 'card_holds'). Laid BY PROGRAM, IN A SANDBOX (cutbox-door.mjs). By AI agents, Wed Nov 11 2026. No macro, syntax, notation, axiom, sorry.
-/
import Derived.Test.YtflocgjejaoeiaaDoorRows
import GoSem.ClaimSeven
namespace Go.Proofs.YtflocgjejaoeiaaDoor
namespace Rows

/-- THE TIED CARD OF 'chartroomlaw14.BindsKnown'. -/
def bindsKnownCard : Claim7 := { stood := { row := bindsKnownRow, standIns := [], harness := (true, "7ed7a70d3f31dc385774d0d53c13d22c64faa8d1fbb1ea934c3a5593d1ceb5f6"), looks := false }, kinds := [], alts := [], laidByText := true, laidKinds := [.funcs], laidTests := true, laidLooks := .later }
def BindsKnownCardSaid : Prop := Claim7.holds Tryd.pinned (.plain (OpenSpec.ofChange bindsKnownSpec)) bindsKnownCard

/-- THE SECOND FORM's CARD OF 'chartroomlaw14.BindsKnown'. -/
def bindsKnownUptoCard : Claim7 := { stood := { row := bindsKnownUptoRow, standIns := [], harness := (true, "7ed7a70d3f31dc385774d0d53c13d22c64faa8d1fbb1ea934c3a5593d1ceb5f6"), looks := false }, kinds := [], alts := [], laidByText := true, laidKinds := [.funcs], laidTests := true, laidLooks := .later }
def BindsKnownUptoCardSaid : Prop := Claim7.holds Tryd.pinned (.plain (OpenSpec.upto bindsKnownSpec)) bindsKnownUptoCard
end Rows
end Go.Proofs.YtflocgjejaoeiaaDoor
