/-
  DERIVED. GIVEN WITH THE SEED: THE CARDS: each row of YtihbnnkcemjflaaGreatDoorRows.lean that lists a variable, with what it lists TIED to the program's text (the seventh form; the later family's looks); each row that meets fmt, with fmt's text TOLD by the authors' own Lean function (tested against real Go, not proved from fmt's source: count such statements apart). THE CARD IS WHAT COUNTS. Prove the row's statement (the work); the ties are given (YtihbnnkcemjflaaGreatDoorTie.lean); close each card by the builder's one call (the guide's Derived/Test/ToyasCard.lean, 'card_holds'). Laid BY PROGRAM, IN A SANDBOX (cutbox-door.mjs). By AI agents, Wed Nov 11 2026. No macro, syntax, notation, axiom, sorry.
-/
import Derived.Test.YtihbnnkcemjflaaGreatDoorRows
import GoSem.ClaimSeven
namespace Go.Proofs.YtihbnnkcemjflaaGreatDoor
namespace Rows

/-- THE TIED CARD OF 'chartroomlaw19.MergeUnionSpec'. -/
def mergeUnionSpecCard : Claim7 := { stood := { row := mergeUnionSpecRow, standIns := [], harness := (true, "716cc97e7264c8ee71d688805ce94880feb3d5ab2a8395e39a451f84d73fb396"), looks := false }, kinds := [], alts := [], laidByText := true, laidKinds := [.funcs, .funcs, .funcs], laidTests := true, laidLooks := .later }
def MergeUnionSpecCardSaid : Prop := Claim7.holds Tryz.pinned (.plain (OpenSpec.ofChange mergeUnionSpecSpec)) mergeUnionSpecCard

/-- THE TIED CARD OF 'chartroomlaw19.MergeReadySpec'. -/
def mergeReadySpecCard : Claim7 := { stood := { row := mergeReadySpecRow, standIns := [], harness := (true, "716cc97e7264c8ee71d688805ce94880feb3d5ab2a8395e39a451f84d73fb396"), looks := false }, kinds := [], alts := [], laidByText := true, laidKinds := [.funcs, .funcs, .funcs], laidTests := true, laidLooks := .later }
def MergeReadySpecCardSaid : Prop := Claim7.holds Tryz.pinned (.plain (OpenSpec.ofChange mergeReadySpecSpec)) mergeReadySpecCard

/-- THE TIED CARD OF 'chartroomlaw19.MergeUptoSpec'. -/
def mergeUptoSpecCard : Claim7 := { stood := { row := mergeUptoSpecRow, standIns := [], harness := (true, "716cc97e7264c8ee71d688805ce94880feb3d5ab2a8395e39a451f84d73fb396"), looks := false }, kinds := [], alts := [], laidByText := true, laidKinds := [.funcs, .funcs, .funcs], laidTests := true, laidLooks := .later }
def MergeUptoSpecCardSaid : Prop := Claim7.holds Tryz.pinned (.plain (OpenSpec.ofChange mergeUptoSpecSpec)) mergeUptoSpecCard

/-- THE TIED CARD OF 'chartroomlaw19.MergeConverges'. -/
def mergeConvergesCard : Claim7 := { stood := { row := mergeConvergesRow, standIns := [], harness := (true, "716cc97e7264c8ee71d688805ce94880feb3d5ab2a8395e39a451f84d73fb396"), looks := false }, kinds := [], alts := [], laidByText := true, laidKinds := [.funcs, .funcs, .funcs], laidTests := true, laidLooks := .later }
def MergeConvergesCardSaid : Prop := Claim7.holds Tryz.pinned (.plain (OpenSpec.ofChange mergeConvergesSpec)) mergeConvergesCard

/-- THE TIED CARD OF 'chartroomlaw19.MergeAnyOrder'. -/
def mergeAnyOrderCard : Claim7 := { stood := { row := mergeAnyOrderRow, standIns := [], harness := (true, "716cc97e7264c8ee71d688805ce94880feb3d5ab2a8395e39a451f84d73fb396"), looks := false }, kinds := [], alts := [], laidByText := true, laidKinds := [.funcs, .funcs, .funcs], laidTests := true, laidLooks := .later }
def MergeAnyOrderCardSaid : Prop := Claim7.holds Tryz.pinned (.plain (OpenSpec.ofChange mergeAnyOrderSpec)) mergeAnyOrderCard

/-- THE TIED CARD OF 'chartroomlaw19.MergeApplies'. -/
def mergeAppliesCard : Claim7 := { stood := { row := mergeAppliesRow, standIns := [], harness := (true, "716cc97e7264c8ee71d688805ce94880feb3d5ab2a8395e39a451f84d73fb396"), looks := false }, kinds := [], alts := [], laidByText := true, laidKinds := [.funcs, .funcs, .funcs], laidTests := true, laidLooks := .later }
def MergeAppliesCardSaid : Prop := Claim7.holds Tryz.pinned (.plain (OpenSpec.ofChange mergeAppliesSpec)) mergeAppliesCard

/-- THE TIED CARD OF 'chartroomlaw19.MergeWaits'. -/
def mergeWaitsCard : Claim7 := { stood := { row := mergeWaitsRow, standIns := [], harness := (true, "716cc97e7264c8ee71d688805ce94880feb3d5ab2a8395e39a451f84d73fb396"), looks := false }, kinds := [], alts := [], laidByText := true, laidKinds := [.funcs, .funcs, .funcs], laidTests := true, laidLooks := .later }
def MergeWaitsCardSaid : Prop := Claim7.holds Tryz.pinned (.plain (OpenSpec.ofChange mergeWaitsSpec)) mergeWaitsCard

/-- THE TIED CARD OF 'chartroomlaw19.MergeMore'. -/
def mergeMoreCard : Claim7 := { stood := { row := mergeMoreRow, standIns := [], harness := (true, "716cc97e7264c8ee71d688805ce94880feb3d5ab2a8395e39a451f84d73fb396"), looks := false }, kinds := [], alts := [], laidByText := true, laidKinds := [.funcs, .funcs, .funcs], laidTests := true, laidLooks := .later }
def MergeMoreCardSaid : Prop := Claim7.holds Tryz.pinned (.plain (OpenSpec.ofChange mergeMoreSpec)) mergeMoreCard

/-- THE SECOND FORM's CARD OF 'chartroomlaw19.MergeUnionSpec'. -/
def mergeUnionSpecUptoCard : Claim7 := { stood := { row := mergeUnionSpecUptoRow, standIns := [], harness := (true, "716cc97e7264c8ee71d688805ce94880feb3d5ab2a8395e39a451f84d73fb396"), looks := false }, kinds := [], alts := [], laidByText := true, laidKinds := [.funcs, .funcs, .funcs], laidTests := true, laidLooks := .later }
def MergeUnionSpecUptoCardSaid : Prop := Claim7.holds Tryz.pinned (.plain (OpenSpec.upto mergeUnionSpecSpec)) mergeUnionSpecUptoCard

/-- THE SECOND FORM's CARD OF 'chartroomlaw19.MergeReadySpec'. -/
def mergeReadySpecUptoCard : Claim7 := { stood := { row := mergeReadySpecUptoRow, standIns := [], harness := (true, "716cc97e7264c8ee71d688805ce94880feb3d5ab2a8395e39a451f84d73fb396"), looks := false }, kinds := [], alts := [], laidByText := true, laidKinds := [.funcs, .funcs, .funcs], laidTests := true, laidLooks := .later }
def MergeReadySpecUptoCardSaid : Prop := Claim7.holds Tryz.pinned (.plain (OpenSpec.upto mergeReadySpecSpec)) mergeReadySpecUptoCard

/-- THE SECOND FORM's CARD OF 'chartroomlaw19.MergeUptoSpec'. -/
def mergeUptoSpecUptoCard : Claim7 := { stood := { row := mergeUptoSpecUptoRow, standIns := [], harness := (true, "716cc97e7264c8ee71d688805ce94880feb3d5ab2a8395e39a451f84d73fb396"), looks := false }, kinds := [], alts := [], laidByText := true, laidKinds := [.funcs, .funcs, .funcs], laidTests := true, laidLooks := .later }
def MergeUptoSpecUptoCardSaid : Prop := Claim7.holds Tryz.pinned (.plain (OpenSpec.upto mergeUptoSpecSpec)) mergeUptoSpecUptoCard

/-- THE SECOND FORM's CARD OF 'chartroomlaw19.MergeConverges'. -/
def mergeConvergesUptoCard : Claim7 := { stood := { row := mergeConvergesUptoRow, standIns := [], harness := (true, "716cc97e7264c8ee71d688805ce94880feb3d5ab2a8395e39a451f84d73fb396"), looks := false }, kinds := [], alts := [], laidByText := true, laidKinds := [.funcs, .funcs, .funcs], laidTests := true, laidLooks := .later }
def MergeConvergesUptoCardSaid : Prop := Claim7.holds Tryz.pinned (.plain (OpenSpec.upto mergeConvergesSpec)) mergeConvergesUptoCard

/-- THE SECOND FORM's CARD OF 'chartroomlaw19.MergeAnyOrder'. -/
def mergeAnyOrderUptoCard : Claim7 := { stood := { row := mergeAnyOrderUptoRow, standIns := [], harness := (true, "716cc97e7264c8ee71d688805ce94880feb3d5ab2a8395e39a451f84d73fb396"), looks := false }, kinds := [], alts := [], laidByText := true, laidKinds := [.funcs, .funcs, .funcs], laidTests := true, laidLooks := .later }
def MergeAnyOrderUptoCardSaid : Prop := Claim7.holds Tryz.pinned (.plain (OpenSpec.upto mergeAnyOrderSpec)) mergeAnyOrderUptoCard

/-- THE SECOND FORM's CARD OF 'chartroomlaw19.MergeApplies'. -/
def mergeAppliesUptoCard : Claim7 := { stood := { row := mergeAppliesUptoRow, standIns := [], harness := (true, "716cc97e7264c8ee71d688805ce94880feb3d5ab2a8395e39a451f84d73fb396"), looks := false }, kinds := [], alts := [], laidByText := true, laidKinds := [.funcs, .funcs, .funcs], laidTests := true, laidLooks := .later }
def MergeAppliesUptoCardSaid : Prop := Claim7.holds Tryz.pinned (.plain (OpenSpec.upto mergeAppliesSpec)) mergeAppliesUptoCard

/-- THE SECOND FORM's CARD OF 'chartroomlaw19.MergeWaits'. -/
def mergeWaitsUptoCard : Claim7 := { stood := { row := mergeWaitsUptoRow, standIns := [], harness := (true, "716cc97e7264c8ee71d688805ce94880feb3d5ab2a8395e39a451f84d73fb396"), looks := false }, kinds := [], alts := [], laidByText := true, laidKinds := [.funcs, .funcs, .funcs], laidTests := true, laidLooks := .later }
def MergeWaitsUptoCardSaid : Prop := Claim7.holds Tryz.pinned (.plain (OpenSpec.upto mergeWaitsSpec)) mergeWaitsUptoCard

/-- THE SECOND FORM's CARD OF 'chartroomlaw19.MergeMore'. -/
def mergeMoreUptoCard : Claim7 := { stood := { row := mergeMoreUptoRow, standIns := [], harness := (true, "716cc97e7264c8ee71d688805ce94880feb3d5ab2a8395e39a451f84d73fb396"), looks := false }, kinds := [], alts := [], laidByText := true, laidKinds := [.funcs, .funcs, .funcs], laidTests := true, laidLooks := .later }
def MergeMoreUptoCardSaid : Prop := Claim7.holds Tryz.pinned (.plain (OpenSpec.upto mergeMoreSpec)) mergeMoreUptoCard
end Rows
end Go.Proofs.YtihbnnkcemjflaaGreatDoor
