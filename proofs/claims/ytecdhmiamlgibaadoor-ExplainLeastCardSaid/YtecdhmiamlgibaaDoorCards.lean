/-
  DERIVED. GIVEN WITH THE SEED: THE CARDS: each row of YtecdhmiamlgibaaDoorRows.lean that lists a variable, with what it lists TIED to the program's text (the seventh form; the later family's looks); each row that meets fmt, with fmt's text TOLD by the authors' own Lean function (tested against real Go, not proved from fmt's source: count such statements apart). THE CARD IS WHAT COUNTS. Prove the row's statement (the work); the ties are given (YtecdhmiamlgibaaDoorTie.lean); close each card by the builder's one call (the guide's Derived/Test/ToyasCard.lean, 'card_holds'). Laid BY PROGRAM, IN A SANDBOX (cutbox-door.mjs). By AI agents, Wed Nov 11 2026. No macro, syntax, notation, axiom, sorry.
-/
import Derived.Test.YtecdhmiamlgibaaDoorRows
import GoSem.ClaimSeven
namespace Go.Proofs.YtecdhmiamlgibaaDoor
namespace Rows

/-- THE TIED CARD OF 'censuslaw39.ExplainReasons'. -/
def explainReasonsCard : Claim7 := { stood := { row := explainReasonsRow, standIns := [], harness := (true, "9a62e587f170fdd3d59ec13d213101a25f4f686fe7a03d330236dc759fd5cc78"), looks := false }, kinds := [], alts := [], laidByText := true, laidKinds := [.data], laidTests := true, laidLooks := .later }
def ExplainReasonsCardSaid : Prop := Claim7.holds Tryd.pinned (.plain (OpenSpec.ofChange explainReasonsSpec)) explainReasonsCard

/-- THE TIED CARD OF 'censuslaw39.ExplainMore'. -/
def explainMoreCard : Claim7 := { stood := { row := explainMoreRow, standIns := [], harness := (true, "9a62e587f170fdd3d59ec13d213101a25f4f686fe7a03d330236dc759fd5cc78"), looks := false }, kinds := [], alts := [], laidByText := true, laidKinds := [.data], laidTests := true, laidLooks := .later }
def ExplainMoreCardSaid : Prop := Claim7.holds Tryd.pinned (.plain (OpenSpec.ofChange explainMoreSpec)) explainMoreCard

/-- THE TIED CARD OF 'censuslaw39.ExplainCovers'. -/
def explainCoversCard : Claim7 := { stood := { row := explainCoversRow, standIns := [], harness := (true, "9a62e587f170fdd3d59ec13d213101a25f4f686fe7a03d330236dc759fd5cc78"), looks := false }, kinds := [], alts := [], laidByText := true, laidKinds := [.data], laidTests := true, laidLooks := .later }
def ExplainCoversCardSaid : Prop := Claim7.holds Tryd.pinned (.plain (OpenSpec.ofChange explainCoversSpec)) explainCoversCard

/-- THE TIED CARD OF 'censuslaw39.ExplainNecessary'. -/
def explainNecessaryCard : Claim7 := { stood := { row := explainNecessaryRow, standIns := [], harness := (true, "9a62e587f170fdd3d59ec13d213101a25f4f686fe7a03d330236dc759fd5cc78"), looks := false }, kinds := [], alts := [], laidByText := true, laidKinds := [.data], laidTests := true, laidLooks := .later }
def ExplainNecessaryCardSaid : Prop := Claim7.holds Tryd.pinned (.plain (OpenSpec.ofChange explainNecessarySpec)) explainNecessaryCard

/-- THE TIED CARD OF 'censuslaw39.ExplainEnough'. -/
def explainEnoughCard : Claim7 := { stood := { row := explainEnoughRow, standIns := [], harness := (true, "9a62e587f170fdd3d59ec13d213101a25f4f686fe7a03d330236dc759fd5cc78"), looks := false }, kinds := [], alts := [], laidByText := true, laidKinds := [.data], laidTests := true, laidLooks := .later }
def ExplainEnoughCardSaid : Prop := Claim7.holds Tryd.pinned (.plain (OpenSpec.ofChange explainEnoughSpec)) explainEnoughCard

/-- THE TIED CARD OF 'censuslaw39.ExplainBias'. -/
def explainBiasCard : Claim7 := { stood := { row := explainBiasRow, standIns := [], harness := (true, "9a62e587f170fdd3d59ec13d213101a25f4f686fe7a03d330236dc759fd5cc78"), looks := false }, kinds := [], alts := [], laidByText := true, laidKinds := [.data], laidTests := true, laidLooks := .later }
def ExplainBiasCardSaid : Prop := Claim7.holds Tryd.pinned (.plain (OpenSpec.ofChange explainBiasSpec)) explainBiasCard

/-- THE TIED CARD OF 'censuslaw39.ExplainLong'. -/
def explainLongCard : Claim7 := { stood := { row := explainLongRow, standIns := [], harness := (true, "9a62e587f170fdd3d59ec13d213101a25f4f686fe7a03d330236dc759fd5cc78"), looks := false }, kinds := [], alts := [], laidByText := true, laidKinds := [.data], laidTests := true, laidLooks := .later }
def ExplainLongCardSaid : Prop := Claim7.holds Tryd.pinned (.plain (OpenSpec.ofChange explainLongSpec)) explainLongCard

/-- THE TIED CARD OF 'censuslaw39.ExplainKnown'. -/
def explainKnownCard : Claim7 := { stood := { row := explainKnownRow, standIns := [], harness := (true, "9a62e587f170fdd3d59ec13d213101a25f4f686fe7a03d330236dc759fd5cc78"), looks := false }, kinds := [], alts := [], laidByText := true, laidKinds := [.data], laidTests := true, laidLooks := .later }
def ExplainKnownCardSaid : Prop := Claim7.holds Tryd.pinned (.plain (OpenSpec.ofChange explainKnownSpec)) explainKnownCard

/-- THE TIED CARD OF 'censuslaw39.ExplainLeast'. -/
def explainLeastCard : Claim7 := { stood := { row := explainLeastRow, standIns := [], harness := (true, "9a62e587f170fdd3d59ec13d213101a25f4f686fe7a03d330236dc759fd5cc78"), looks := false }, kinds := [], alts := [], laidByText := true, laidKinds := [.data], laidTests := true, laidLooks := .later }
def ExplainLeastCardSaid : Prop := Claim7.holds Tryd.pinned (.plain (OpenSpec.ofChange explainLeastSpec)) explainLeastCard

/-- THE SECOND FORM's CARD OF 'censuslaw39.ExplainReasons'. -/
def explainReasonsUptoCard : Claim7 := { stood := { row := explainReasonsUptoRow, standIns := [], harness := (true, "9a62e587f170fdd3d59ec13d213101a25f4f686fe7a03d330236dc759fd5cc78"), looks := false }, kinds := [], alts := [], laidByText := true, laidKinds := [.data], laidTests := true, laidLooks := .later }
def ExplainReasonsUptoCardSaid : Prop := Claim7.holds Tryd.pinned (.plain (OpenSpec.upto explainReasonsSpec)) explainReasonsUptoCard

/-- THE SECOND FORM's CARD OF 'censuslaw39.ExplainMore'. -/
def explainMoreUptoCard : Claim7 := { stood := { row := explainMoreUptoRow, standIns := [], harness := (true, "9a62e587f170fdd3d59ec13d213101a25f4f686fe7a03d330236dc759fd5cc78"), looks := false }, kinds := [], alts := [], laidByText := true, laidKinds := [.data], laidTests := true, laidLooks := .later }
def ExplainMoreUptoCardSaid : Prop := Claim7.holds Tryd.pinned (.plain (OpenSpec.upto explainMoreSpec)) explainMoreUptoCard

/-- THE SECOND FORM's CARD OF 'censuslaw39.ExplainCovers'. -/
def explainCoversUptoCard : Claim7 := { stood := { row := explainCoversUptoRow, standIns := [], harness := (true, "9a62e587f170fdd3d59ec13d213101a25f4f686fe7a03d330236dc759fd5cc78"), looks := false }, kinds := [], alts := [], laidByText := true, laidKinds := [.data], laidTests := true, laidLooks := .later }
def ExplainCoversUptoCardSaid : Prop := Claim7.holds Tryd.pinned (.plain (OpenSpec.upto explainCoversSpec)) explainCoversUptoCard

/-- THE SECOND FORM's CARD OF 'censuslaw39.ExplainNecessary'. -/
def explainNecessaryUptoCard : Claim7 := { stood := { row := explainNecessaryUptoRow, standIns := [], harness := (true, "9a62e587f170fdd3d59ec13d213101a25f4f686fe7a03d330236dc759fd5cc78"), looks := false }, kinds := [], alts := [], laidByText := true, laidKinds := [.data], laidTests := true, laidLooks := .later }
def ExplainNecessaryUptoCardSaid : Prop := Claim7.holds Tryd.pinned (.plain (OpenSpec.upto explainNecessarySpec)) explainNecessaryUptoCard

/-- THE SECOND FORM's CARD OF 'censuslaw39.ExplainEnough'. -/
def explainEnoughUptoCard : Claim7 := { stood := { row := explainEnoughUptoRow, standIns := [], harness := (true, "9a62e587f170fdd3d59ec13d213101a25f4f686fe7a03d330236dc759fd5cc78"), looks := false }, kinds := [], alts := [], laidByText := true, laidKinds := [.data], laidTests := true, laidLooks := .later }
def ExplainEnoughUptoCardSaid : Prop := Claim7.holds Tryd.pinned (.plain (OpenSpec.upto explainEnoughSpec)) explainEnoughUptoCard

/-- THE SECOND FORM's CARD OF 'censuslaw39.ExplainBias'. -/
def explainBiasUptoCard : Claim7 := { stood := { row := explainBiasUptoRow, standIns := [], harness := (true, "9a62e587f170fdd3d59ec13d213101a25f4f686fe7a03d330236dc759fd5cc78"), looks := false }, kinds := [], alts := [], laidByText := true, laidKinds := [.data], laidTests := true, laidLooks := .later }
def ExplainBiasUptoCardSaid : Prop := Claim7.holds Tryd.pinned (.plain (OpenSpec.upto explainBiasSpec)) explainBiasUptoCard

/-- THE SECOND FORM's CARD OF 'censuslaw39.ExplainLong'. -/
def explainLongUptoCard : Claim7 := { stood := { row := explainLongUptoRow, standIns := [], harness := (true, "9a62e587f170fdd3d59ec13d213101a25f4f686fe7a03d330236dc759fd5cc78"), looks := false }, kinds := [], alts := [], laidByText := true, laidKinds := [.data], laidTests := true, laidLooks := .later }
def ExplainLongUptoCardSaid : Prop := Claim7.holds Tryd.pinned (.plain (OpenSpec.upto explainLongSpec)) explainLongUptoCard

/-- THE SECOND FORM's CARD OF 'censuslaw39.ExplainKnown'. -/
def explainKnownUptoCard : Claim7 := { stood := { row := explainKnownUptoRow, standIns := [], harness := (true, "9a62e587f170fdd3d59ec13d213101a25f4f686fe7a03d330236dc759fd5cc78"), looks := false }, kinds := [], alts := [], laidByText := true, laidKinds := [.data], laidTests := true, laidLooks := .later }
def ExplainKnownUptoCardSaid : Prop := Claim7.holds Tryd.pinned (.plain (OpenSpec.upto explainKnownSpec)) explainKnownUptoCard

/-- THE SECOND FORM's CARD OF 'censuslaw39.ExplainLeast'. -/
def explainLeastUptoCard : Claim7 := { stood := { row := explainLeastUptoRow, standIns := [], harness := (true, "9a62e587f170fdd3d59ec13d213101a25f4f686fe7a03d330236dc759fd5cc78"), looks := false }, kinds := [], alts := [], laidByText := true, laidKinds := [.data], laidTests := true, laidLooks := .later }
def ExplainLeastUptoCardSaid : Prop := Claim7.holds Tryd.pinned (.plain (OpenSpec.upto explainLeastSpec)) explainLeastUptoCard
end Rows
end Go.Proofs.YtecdhmiamlgibaaDoor
