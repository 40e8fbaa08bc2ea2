/-
  DERIVED. GIVEN WITH THE SEED: THE CARDS: each row of YtllkogdgmmcfgaaGreatDoorRows.lean that lists a variable, with what it lists TIED to the program's text (the seventh form; the later family's looks); each row that meets fmt, with fmt's text TOLD by the authors' own Lean function (tested against real Go, not proved from fmt's source: count such statements apart). THE CARD IS WHAT COUNTS. Prove the row's statement (the work); the ties are given (YtllkogdgmmcfgaaGreatDoorTie.lean); close each card by the builder's one call (the guide's Derived/Test/ToyasCard.lean, 'card_holds'). Laid BY PROGRAM, IN A SANDBOX (cutbox-door.mjs). By AI agents, Wed Nov 11 2026. No macro, syntax, notation, axiom, sorry.
-/
import Derived.Test.YtllkogdgmmcfgaaGreatDoorRows
import GoSem.ClaimSeven
namespace Go.Proofs.YtllkogdgmmcfgaaGreatDoor
namespace Rows

/-- THE TIED CARD OF 'censuslaw23.VerifyEmpty'. -/
def verifyEmptyCard : Claim7 := { stood := { row := verifyEmptyRow, standIns := [], harness := (true, "85dd344a5013c777ada09432bc1829957aaa19d77b019b9eca14fa70f91b06bf"), looks := false }, kinds := [], alts := [], laidByText := true, laidKinds := [.data], laidTests := true, laidLooks := .later }
def VerifyEmptyCardSaid : Prop := Claim7.holds Tryz.pinned (.plain (OpenSpec.ofChange verifyEmptySpec)) verifyEmptyCard

/-- THE TIED CARD OF 'censuslaw23.VerifyChecks'. -/
def verifyChecksCard : Claim7 := { stood := { row := verifyChecksRow, standIns := [], harness := (true, "85dd344a5013c777ada09432bc1829957aaa19d77b019b9eca14fa70f91b06bf"), looks := false }, kinds := [], alts := [], laidByText := true, laidKinds := [.data], laidTests := true, laidLooks := .later }
def VerifyChecksCardSaid : Prop := Claim7.holds Tryz.pinned (.plain (OpenSpec.ofChange verifyChecksSpec)) verifyChecksCard

/-- THE TIED CARD OF 'censuslaw23.VerifySound'. -/
def verifySoundCard : Claim7 := { stood := { row := verifySoundRow, standIns := [], harness := (true, "85dd344a5013c777ada09432bc1829957aaa19d77b019b9eca14fa70f91b06bf"), looks := false }, kinds := [], alts := [], laidByText := true, laidKinds := [.data], laidTests := true, laidLooks := .later }
def VerifySoundCardSaid : Prop := Claim7.holds Tryz.pinned (.plain (OpenSpec.ofChange verifySoundSpec)) verifySoundCard

/-- THE TIED CARD OF 'censuslaw23.VerifyShape'. -/
def verifyShapeCard : Claim7 := { stood := { row := verifyShapeRow, standIns := [], harness := (true, "85dd344a5013c777ada09432bc1829957aaa19d77b019b9eca14fa70f91b06bf"), looks := false }, kinds := [], alts := [], laidByText := true, laidKinds := [.data], laidTests := true, laidLooks := .later }
def VerifyShapeCardSaid : Prop := Claim7.holds Tryz.pinned (.plain (OpenSpec.ofChange verifyShapeSpec)) verifyShapeCard

/-- THE TIED CARD OF 'censuslaw23.VerifyLocal'. -/
def verifyLocalCard : Claim7 := { stood := { row := verifyLocalRow, standIns := [], harness := (true, "85dd344a5013c777ada09432bc1829957aaa19d77b019b9eca14fa70f91b06bf"), looks := false }, kinds := [], alts := [], laidByText := true, laidKinds := [.data], laidTests := true, laidLooks := .later }
def VerifyLocalCardSaid : Prop := Claim7.holds Tryz.pinned (.plain (OpenSpec.ofChange verifyLocalSpec)) verifyLocalCard

/-- THE TIED CARD OF 'censuslaw23.VerifyOne'. -/
def verifyOneCard : Claim7 := { stood := { row := verifyOneRow, standIns := [], harness := (true, "85dd344a5013c777ada09432bc1829957aaa19d77b019b9eca14fa70f91b06bf"), looks := false }, kinds := [], alts := [], laidByText := true, laidKinds := [.data], laidTests := true, laidLooks := .later }
def VerifyOneCardSaid : Prop := Claim7.holds Tryz.pinned (.plain (OpenSpec.ofChange verifyOneSpec)) verifyOneCard

/-- THE SECOND FORM's CARD OF 'censuslaw23.VerifyEmpty'. -/
def verifyEmptyUptoCard : Claim7 := { stood := { row := verifyEmptyUptoRow, standIns := [], harness := (true, "85dd344a5013c777ada09432bc1829957aaa19d77b019b9eca14fa70f91b06bf"), looks := false }, kinds := [], alts := [], laidByText := true, laidKinds := [.data], laidTests := true, laidLooks := .later }
def VerifyEmptyUptoCardSaid : Prop := Claim7.holds Tryz.pinned (.plain (OpenSpec.upto verifyEmptySpec)) verifyEmptyUptoCard

/-- THE SECOND FORM's CARD OF 'censuslaw23.VerifyChecks'. -/
def verifyChecksUptoCard : Claim7 := { stood := { row := verifyChecksUptoRow, standIns := [], harness := (true, "85dd344a5013c777ada09432bc1829957aaa19d77b019b9eca14fa70f91b06bf"), looks := false }, kinds := [], alts := [], laidByText := true, laidKinds := [.data], laidTests := true, laidLooks := .later }
def VerifyChecksUptoCardSaid : Prop := Claim7.holds Tryz.pinned (.plain (OpenSpec.upto verifyChecksSpec)) verifyChecksUptoCard

/-- THE SECOND FORM's CARD OF 'censuslaw23.VerifySound'. -/
def verifySoundUptoCard : Claim7 := { stood := { row := verifySoundUptoRow, standIns := [], harness := (true, "85dd344a5013c777ada09432bc1829957aaa19d77b019b9eca14fa70f91b06bf"), looks := false }, kinds := [], alts := [], laidByText := true, laidKinds := [.data], laidTests := true, laidLooks := .later }
def VerifySoundUptoCardSaid : Prop := Claim7.holds Tryz.pinned (.plain (OpenSpec.upto verifySoundSpec)) verifySoundUptoCard

/-- THE SECOND FORM's CARD OF 'censuslaw23.VerifyShape'. -/
def verifyShapeUptoCard : Claim7 := { stood := { row := verifyShapeUptoRow, standIns := [], harness := (true, "85dd344a5013c777ada09432bc1829957aaa19d77b019b9eca14fa70f91b06bf"), looks := false }, kinds := [], alts := [], laidByText := true, laidKinds := [.data], laidTests := true, laidLooks := .later }
def VerifyShapeUptoCardSaid : Prop := Claim7.holds Tryz.pinned (.plain (OpenSpec.upto verifyShapeSpec)) verifyShapeUptoCard

/-- THE SECOND FORM's CARD OF 'censuslaw23.VerifyLocal'. -/
def verifyLocalUptoCard : Claim7 := { stood := { row := verifyLocalUptoRow, standIns := [], harness := (true, "85dd344a5013c777ada09432bc1829957aaa19d77b019b9eca14fa70f91b06bf"), looks := false }, kinds := [], alts := [], laidByText := true, laidKinds := [.data], laidTests := true, laidLooks := .later }
def VerifyLocalUptoCardSaid : Prop := Claim7.holds Tryz.pinned (.plain (OpenSpec.upto verifyLocalSpec)) verifyLocalUptoCard

/-- THE SECOND FORM's CARD OF 'censuslaw23.VerifyOne'. -/
def verifyOneUptoCard : Claim7 := { stood := { row := verifyOneUptoRow, standIns := [], harness := (true, "85dd344a5013c777ada09432bc1829957aaa19d77b019b9eca14fa70f91b06bf"), looks := false }, kinds := [], alts := [], laidByText := true, laidKinds := [.data], laidTests := true, laidLooks := .later }
def VerifyOneUptoCardSaid : Prop := Claim7.holds Tryz.pinned (.plain (OpenSpec.upto verifyOneSpec)) verifyOneUptoCard
end Rows
end Go.Proofs.YtllkogdgmmcfgaaGreatDoor
