/-
  DERIVED. GIVEN WITH THE SEED: THE CARDS: each row of YtllkogdgmmcfgaaDoorRows.lean that lists a variable, with what it lists TIED to the program's text (the seventh form; the later family's looks); each row that meets fmt, with fmt's text TOLD by the authors' own Lean function (tested against real Go, not proved from fmt's source: count such statements apart). THE CARD IS WHAT COUNTS. Prove the row's statement (the work); the ties are given (YtllkogdgmmcfgaaDoorTie.lean); close each card by the builder's one call (the guide's Derived/Test/ToyasCard.lean, 'card_holds'). Laid BY PROGRAM, IN A SANDBOX (cutbox-door.mjs). By AI agents, Wed Nov 11 2026. No macro, syntax, notation, axiom, sorry.
-/
import Derived.Test.YtllkogdgmmcfgaaDoorRows
import GoSem.ClaimSeven
namespace Go.Proofs.YtllkogdgmmcfgaaDoor
namespace Rows

/-- THE TIED CARD OF 'censuslaw23.VerifyKnown'. -/
def verifyKnownCard : Claim7 := { stood := { row := verifyKnownRow, standIns := [], harness := (true, "bc46148787ae4f8d0ae96342c5d0fbd7f9553754f03b25a156dfea2fe552972e"), looks := false }, kinds := [], alts := [], laidByText := true, laidKinds := [.data], laidTests := true, laidLooks := .later }
def VerifyKnownCardSaid : Prop := Claim7.holds Tryd.pinned (.plain (OpenSpec.ofChange verifyKnownSpec)) verifyKnownCard

/-- THE SECOND FORM's CARD OF 'censuslaw23.VerifyKnown'. -/
def verifyKnownUptoCard : Claim7 := { stood := { row := verifyKnownUptoRow, standIns := [], harness := (true, "bc46148787ae4f8d0ae96342c5d0fbd7f9553754f03b25a156dfea2fe552972e"), looks := false }, kinds := [], alts := [], laidByText := true, laidKinds := [.data], laidTests := true, laidLooks := .later }
def VerifyKnownUptoCardSaid : Prop := Claim7.holds Tryd.pinned (.plain (OpenSpec.upto verifyKnownSpec)) verifyKnownUptoCard
end Rows
end Go.Proofs.YtllkogdgmmcfgaaDoor
