/-
  DERIVED. GIVEN WITH THE SEED: THE CARDS: each row of YtpnoncfhclchdaaDoorRows.lean that lists a variable, with what it lists TIED to the program's text (the seventh form; the later family's looks); each row that meets fmt, with fmt's text TOLD by the authors' own Lean function (tested against real Go, not proved from fmt's source: count such statements apart). THE CARD IS WHAT COUNTS. Prove the row's statement (the work); the ties are given (YtpnoncfhclchdaaDoorTie.lean); close each card by the builder's one call (the guide's Derived/Test/ToyasCard.lean, 'card_holds'). Laid BY PROGRAM, IN A SANDBOX (cutbox-door.mjs). By AI agents, Wed Nov 11 2026. No macro, syntax, notation, axiom, sorry.
-/
import Derived.Test.YtpnoncfhclchdaaDoorRows
import GoSem.ClaimSeven
namespace Go.Proofs.YtpnoncfhclchdaaDoor
namespace Rows

/-- THE TIED CARD OF 'chartroomlaw12.VectorSpec'. -/
def vectorSpecCard : Claim7 := { stood := { row := vectorSpecRow, standIns := [], harness := (true, "228c9ba589c92e68c96a3e592226058903ca3e60227dcf5f96691b5399f6b46c"), looks := false }, kinds := [], alts := [], laidByText := true, laidKinds := [.funcs, .funcs], laidTests := true, laidLooks := .later }
def VectorSpecCardSaid : Prop := Claim7.holds Tryd.pinned (.plain (OpenSpec.ofChange vectorSpecSpec)) vectorSpecCard

/-- THE TIED CARD OF 'chartroomlaw12.VectorJoinsSpec'. -/
def vectorJoinsSpecCard : Claim7 := { stood := { row := vectorJoinsSpecRow, standIns := [], harness := (true, "228c9ba589c92e68c96a3e592226058903ca3e60227dcf5f96691b5399f6b46c"), looks := false }, kinds := [], alts := [], laidByText := true, laidKinds := [.funcs, .funcs], laidTests := true, laidLooks := .later }
def VectorJoinsSpecCardSaid : Prop := Claim7.holds Tryd.pinned (.plain (OpenSpec.ofChange vectorJoinsSpecSpec)) vectorJoinsSpecCard

/-- THE TIED CARD OF 'chartroomlaw12.VectorCovers'. -/
def vectorCoversCard : Claim7 := { stood := { row := vectorCoversRow, standIns := [], harness := (true, "228c9ba589c92e68c96a3e592226058903ca3e60227dcf5f96691b5399f6b46c"), looks := false }, kinds := [], alts := [], laidByText := true, laidKinds := [.funcs, .funcs], laidTests := true, laidLooks := .later }
def VectorCoversCardSaid : Prop := Claim7.holds Tryd.pinned (.plain (OpenSpec.ofChange vectorCoversSpec)) vectorCoversCard

/-- THE TIED CARD OF 'chartroomlaw12.VectorLattice'. -/
def vectorLatticeCard : Claim7 := { stood := { row := vectorLatticeRow, standIns := [], harness := (true, "228c9ba589c92e68c96a3e592226058903ca3e60227dcf5f96691b5399f6b46c"), looks := false }, kinds := [], alts := [], laidByText := true, laidKinds := [.funcs, .funcs], laidTests := true, laidLooks := .later }
def VectorLatticeCardSaid : Prop := Claim7.holds Tryd.pinned (.plain (OpenSpec.ofChange vectorLatticeSpec)) vectorLatticeCard

/-- THE TIED CARD OF 'chartroomlaw12.VectorOrder'. -/
def vectorOrderCard : Claim7 := { stood := { row := vectorOrderRow, standIns := [], harness := (true, "228c9ba589c92e68c96a3e592226058903ca3e60227dcf5f96691b5399f6b46c"), looks := false }, kinds := [], alts := [], laidByText := true, laidKinds := [.funcs, .funcs], laidTests := true, laidLooks := .later }
def VectorOrderCardSaid : Prop := Claim7.holds Tryd.pinned (.plain (OpenSpec.ofChange vectorOrderSpec)) vectorOrderCard

/-- THE TIED CARD OF 'chartroomlaw12.VectorLeast'. -/
def vectorLeastCard : Claim7 := { stood := { row := vectorLeastRow, standIns := [], harness := (true, "228c9ba589c92e68c96a3e592226058903ca3e60227dcf5f96691b5399f6b46c"), looks := false }, kinds := [], alts := [], laidByText := true, laidKinds := [.funcs, .funcs], laidTests := true, laidLooks := .later }
def VectorLeastCardSaid : Prop := Claim7.holds Tryd.pinned (.plain (OpenSpec.ofChange vectorLeastSpec)) vectorLeastCard

/-- THE TIED CARD OF 'chartroomlaw12.VectorAdds'. -/
def vectorAddsCard : Claim7 := { stood := { row := vectorAddsRow, standIns := [], harness := (true, "228c9ba589c92e68c96a3e592226058903ca3e60227dcf5f96691b5399f6b46c"), looks := false }, kinds := [], alts := [], laidByText := true, laidKinds := [.funcs, .funcs], laidTests := true, laidLooks := .later }
def VectorAddsCardSaid : Prop := Claim7.holds Tryd.pinned (.plain (OpenSpec.ofChange vectorAddsSpec)) vectorAddsCard

/-- THE SECOND FORM's CARD OF 'chartroomlaw12.VectorSpec'. -/
def vectorSpecUptoCard : Claim7 := { stood := { row := vectorSpecUptoRow, standIns := [], harness := (true, "228c9ba589c92e68c96a3e592226058903ca3e60227dcf5f96691b5399f6b46c"), looks := false }, kinds := [], alts := [], laidByText := true, laidKinds := [.funcs, .funcs], laidTests := true, laidLooks := .later }
def VectorSpecUptoCardSaid : Prop := Claim7.holds Tryd.pinned (.plain (OpenSpec.upto vectorSpecSpec)) vectorSpecUptoCard

/-- THE SECOND FORM's CARD OF 'chartroomlaw12.VectorJoinsSpec'. -/
def vectorJoinsSpecUptoCard : Claim7 := { stood := { row := vectorJoinsSpecUptoRow, standIns := [], harness := (true, "228c9ba589c92e68c96a3e592226058903ca3e60227dcf5f96691b5399f6b46c"), looks := false }, kinds := [], alts := [], laidByText := true, laidKinds := [.funcs, .funcs], laidTests := true, laidLooks := .later }
def VectorJoinsSpecUptoCardSaid : Prop := Claim7.holds Tryd.pinned (.plain (OpenSpec.upto vectorJoinsSpecSpec)) vectorJoinsSpecUptoCard

/-- THE SECOND FORM's CARD OF 'chartroomlaw12.VectorCovers'. -/
def vectorCoversUptoCard : Claim7 := { stood := { row := vectorCoversUptoRow, standIns := [], harness := (true, "228c9ba589c92e68c96a3e592226058903ca3e60227dcf5f96691b5399f6b46c"), looks := false }, kinds := [], alts := [], laidByText := true, laidKinds := [.funcs, .funcs], laidTests := true, laidLooks := .later }
def VectorCoversUptoCardSaid : Prop := Claim7.holds Tryd.pinned (.plain (OpenSpec.upto vectorCoversSpec)) vectorCoversUptoCard

/-- THE SECOND FORM's CARD OF 'chartroomlaw12.VectorLattice'. -/
def vectorLatticeUptoCard : Claim7 := { stood := { row := vectorLatticeUptoRow, standIns := [], harness := (true, "228c9ba589c92e68c96a3e592226058903ca3e60227dcf5f96691b5399f6b46c"), looks := false }, kinds := [], alts := [], laidByText := true, laidKinds := [.funcs, .funcs], laidTests := true, laidLooks := .later }
def VectorLatticeUptoCardSaid : Prop := Claim7.holds Tryd.pinned (.plain (OpenSpec.upto vectorLatticeSpec)) vectorLatticeUptoCard

/-- THE SECOND FORM's CARD OF 'chartroomlaw12.VectorOrder'. -/
def vectorOrderUptoCard : Claim7 := { stood := { row := vectorOrderUptoRow, standIns := [], harness := (true, "228c9ba589c92e68c96a3e592226058903ca3e60227dcf5f96691b5399f6b46c"), looks := false }, kinds := [], alts := [], laidByText := true, laidKinds := [.funcs, .funcs], laidTests := true, laidLooks := .later }
def VectorOrderUptoCardSaid : Prop := Claim7.holds Tryd.pinned (.plain (OpenSpec.upto vectorOrderSpec)) vectorOrderUptoCard

/-- THE SECOND FORM's CARD OF 'chartroomlaw12.VectorLeast'. -/
def vectorLeastUptoCard : Claim7 := { stood := { row := vectorLeastUptoRow, standIns := [], harness := (true, "228c9ba589c92e68c96a3e592226058903ca3e60227dcf5f96691b5399f6b46c"), looks := false }, kinds := [], alts := [], laidByText := true, laidKinds := [.funcs, .funcs], laidTests := true, laidLooks := .later }
def VectorLeastUptoCardSaid : Prop := Claim7.holds Tryd.pinned (.plain (OpenSpec.upto vectorLeastSpec)) vectorLeastUptoCard

/-- THE SECOND FORM's CARD OF 'chartroomlaw12.VectorAdds'. -/
def vectorAddsUptoCard : Claim7 := { stood := { row := vectorAddsUptoRow, standIns := [], harness := (true, "228c9ba589c92e68c96a3e592226058903ca3e60227dcf5f96691b5399f6b46c"), looks := false }, kinds := [], alts := [], laidByText := true, laidKinds := [.funcs, .funcs], laidTests := true, laidLooks := .later }
def VectorAddsUptoCardSaid : Prop := Claim7.holds Tryd.pinned (.plain (OpenSpec.upto vectorAddsSpec)) vectorAddsUptoCard
end Rows
end Go.Proofs.YtpnoncfhclchdaaDoor
