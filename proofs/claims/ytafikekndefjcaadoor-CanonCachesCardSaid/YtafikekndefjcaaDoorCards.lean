/-
  DERIVED. GIVEN WITH THE SEED: THE CARDS: each row of YtafikekndefjcaaDoorRows.lean that lists a variable, with what it lists TIED to the program's text (the seventh form; the later family's looks); each row that meets fmt, with fmt's text TOLD by the authors' own Lean function (tested against real Go, not proved from fmt's source: count such statements apart). THE CARD IS WHAT COUNTS. Prove the row's statement (the work); the ties are given (YtafikekndefjcaaDoorTie.lean); close each card by the builder's one call (the guide's Derived/Test/ToyasCard.lean, 'card_holds'). Laid BY PROGRAM, IN A SANDBOX (cutbox-door.mjs). By AI agents, Wed Nov 11 2026. No macro, syntax, notation, axiom, sorry.
-/
import Derived.Test.YtafikekndefjcaaDoorRows
import GoSem.ClaimSeven
namespace Go.Proofs.YtafikekndefjcaaDoor
namespace Rows

/-- THE TIED CARD OF 'censuslaw17.CanonSmalls'. -/
def canonSmallsCard : Claim7 := { stood := { row := canonSmallsRow, standIns := [], harness := (true, "4d1f3afbfb00eb3d1ae8acf5d1105a64058a010d00e8062ea210879dc57e6717"), looks := false }, kinds := [], alts := [], laidByText := true, laidKinds := [.data], laidTests := true, laidLooks := .later }
def CanonSmallsCardSaid : Prop := Claim7.holds Tryd.pinned (.plain (OpenSpec.ofChange canonSmallsSpec)) canonSmallsCard

/-- THE TIED CARD OF 'censuslaw17.CanonSame'. -/
def canonSameCard : Claim7 := { stood := { row := canonSameRow, standIns := [], harness := (true, "4d1f3afbfb00eb3d1ae8acf5d1105a64058a010d00e8062ea210879dc57e6717"), looks := false }, kinds := [], alts := [], laidByText := true, laidKinds := [.data], laidTests := true, laidLooks := .later }
def CanonSameCardSaid : Prop := Claim7.holds Tryd.pinned (.plain (OpenSpec.ofChange canonSameSpec)) canonSameCard

/-- THE TIED CARD OF 'censuslaw17.CanonMoved'. -/
def canonMovedCard : Claim7 := { stood := { row := canonMovedRow, standIns := [], harness := (true, "4d1f3afbfb00eb3d1ae8acf5d1105a64058a010d00e8062ea210879dc57e6717"), looks := false }, kinds := [], alts := [], laidByText := true, laidKinds := [.data], laidTests := true, laidLooks := .later }
def CanonMovedCardSaid : Prop := Claim7.holds Tryd.pinned (.plain (OpenSpec.ofChange canonMovedSpec)) canonMovedCard

/-- THE TIED CARD OF 'censuslaw17.CanonCounts'. -/
def canonCountsCard : Claim7 := { stood := { row := canonCountsRow, standIns := [], harness := (true, "4d1f3afbfb00eb3d1ae8acf5d1105a64058a010d00e8062ea210879dc57e6717"), looks := false }, kinds := [], alts := [], laidByText := true, laidKinds := [.data], laidTests := true, laidLooks := .later }
def CanonCountsCardSaid : Prop := Claim7.holds Tryd.pinned (.plain (OpenSpec.ofChange canonCountsSpec)) canonCountsCard

/-- THE TIED CARD OF 'censuslaw17.CanonCaches'. -/
def canonCachesCard : Claim7 := { stood := { row := canonCachesRow, standIns := [], harness := (true, "4d1f3afbfb00eb3d1ae8acf5d1105a64058a010d00e8062ea210879dc57e6717"), looks := false }, kinds := [], alts := [], laidByText := true, laidKinds := [.data], laidTests := true, laidLooks := .later }
def CanonCachesCardSaid : Prop := Claim7.holds Tryd.pinned (.plain (OpenSpec.ofChange canonCachesSpec)) canonCachesCard

/-- THE TIED CARD OF 'censuslaw17.CanonKept'. -/
def canonKeptCard : Claim7 := { stood := { row := canonKeptRow, standIns := [], harness := (true, "4d1f3afbfb00eb3d1ae8acf5d1105a64058a010d00e8062ea210879dc57e6717"), looks := false }, kinds := [], alts := [], laidByText := true, laidKinds := [.data], laidTests := true, laidLooks := .later }
def CanonKeptCardSaid : Prop := Claim7.holds Tryd.pinned (.plain (OpenSpec.ofChange canonKeptSpec)) canonKeptCard

/-- THE TIED CARD OF 'censuslaw17.CanonAgain'. -/
def canonAgainCard : Claim7 := { stood := { row := canonAgainRow, standIns := [], harness := (true, "4d1f3afbfb00eb3d1ae8acf5d1105a64058a010d00e8062ea210879dc57e6717"), looks := false }, kinds := [], alts := [], laidByText := true, laidKinds := [.data], laidTests := true, laidLooks := .later }
def CanonAgainCardSaid : Prop := Claim7.holds Tryd.pinned (.plain (OpenSpec.ofChange canonAgainSpec)) canonAgainCard

/-- THE TIED CARD OF 'censuslaw17.CanonNil'. -/
def canonNilCard : Claim7 := { stood := { row := canonNilRow, standIns := [], harness := (true, "4d1f3afbfb00eb3d1ae8acf5d1105a64058a010d00e8062ea210879dc57e6717"), looks := false }, kinds := [], alts := [], laidByText := true, laidKinds := [.data], laidTests := true, laidLooks := .later }
def CanonNilCardSaid : Prop := Claim7.holds Tryd.pinned (.plain (OpenSpec.ofChange canonNilSpec)) canonNilCard

/-- THE TIED CARD OF 'censuslaw17.CanonKnown'. -/
def canonKnownCard : Claim7 := { stood := { row := canonKnownRow, standIns := [], harness := (true, "4d1f3afbfb00eb3d1ae8acf5d1105a64058a010d00e8062ea210879dc57e6717"), looks := false }, kinds := [], alts := [], laidByText := true, laidKinds := [.data], laidTests := true, laidLooks := .later }
def CanonKnownCardSaid : Prop := Claim7.holds Tryd.pinned (.plain (OpenSpec.ofChange canonKnownSpec)) canonKnownCard

/-- THE SECOND FORM's CARD OF 'censuslaw17.CanonSmalls'. -/
def canonSmallsUptoCard : Claim7 := { stood := { row := canonSmallsUptoRow, standIns := [], harness := (true, "4d1f3afbfb00eb3d1ae8acf5d1105a64058a010d00e8062ea210879dc57e6717"), looks := false }, kinds := [], alts := [], laidByText := true, laidKinds := [.data], laidTests := true, laidLooks := .later }
def CanonSmallsUptoCardSaid : Prop := Claim7.holds Tryd.pinned (.plain (OpenSpec.upto canonSmallsSpec)) canonSmallsUptoCard

/-- THE SECOND FORM's CARD OF 'censuslaw17.CanonSame'. -/
def canonSameUptoCard : Claim7 := { stood := { row := canonSameUptoRow, standIns := [], harness := (true, "4d1f3afbfb00eb3d1ae8acf5d1105a64058a010d00e8062ea210879dc57e6717"), looks := false }, kinds := [], alts := [], laidByText := true, laidKinds := [.data], laidTests := true, laidLooks := .later }
def CanonSameUptoCardSaid : Prop := Claim7.holds Tryd.pinned (.plain (OpenSpec.upto canonSameSpec)) canonSameUptoCard

/-- THE SECOND FORM's CARD OF 'censuslaw17.CanonMoved'. -/
def canonMovedUptoCard : Claim7 := { stood := { row := canonMovedUptoRow, standIns := [], harness := (true, "4d1f3afbfb00eb3d1ae8acf5d1105a64058a010d00e8062ea210879dc57e6717"), looks := false }, kinds := [], alts := [], laidByText := true, laidKinds := [.data], laidTests := true, laidLooks := .later }
def CanonMovedUptoCardSaid : Prop := Claim7.holds Tryd.pinned (.plain (OpenSpec.upto canonMovedSpec)) canonMovedUptoCard

/-- THE SECOND FORM's CARD OF 'censuslaw17.CanonCounts'. -/
def canonCountsUptoCard : Claim7 := { stood := { row := canonCountsUptoRow, standIns := [], harness := (true, "4d1f3afbfb00eb3d1ae8acf5d1105a64058a010d00e8062ea210879dc57e6717"), looks := false }, kinds := [], alts := [], laidByText := true, laidKinds := [.data], laidTests := true, laidLooks := .later }
def CanonCountsUptoCardSaid : Prop := Claim7.holds Tryd.pinned (.plain (OpenSpec.upto canonCountsSpec)) canonCountsUptoCard

/-- THE SECOND FORM's CARD OF 'censuslaw17.CanonCaches'. -/
def canonCachesUptoCard : Claim7 := { stood := { row := canonCachesUptoRow, standIns := [], harness := (true, "4d1f3afbfb00eb3d1ae8acf5d1105a64058a010d00e8062ea210879dc57e6717"), looks := false }, kinds := [], alts := [], laidByText := true, laidKinds := [.data], laidTests := true, laidLooks := .later }
def CanonCachesUptoCardSaid : Prop := Claim7.holds Tryd.pinned (.plain (OpenSpec.upto canonCachesSpec)) canonCachesUptoCard

/-- THE SECOND FORM's CARD OF 'censuslaw17.CanonKept'. -/
def canonKeptUptoCard : Claim7 := { stood := { row := canonKeptUptoRow, standIns := [], harness := (true, "4d1f3afbfb00eb3d1ae8acf5d1105a64058a010d00e8062ea210879dc57e6717"), looks := false }, kinds := [], alts := [], laidByText := true, laidKinds := [.data], laidTests := true, laidLooks := .later }
def CanonKeptUptoCardSaid : Prop := Claim7.holds Tryd.pinned (.plain (OpenSpec.upto canonKeptSpec)) canonKeptUptoCard

/-- THE SECOND FORM's CARD OF 'censuslaw17.CanonAgain'. -/
def canonAgainUptoCard : Claim7 := { stood := { row := canonAgainUptoRow, standIns := [], harness := (true, "4d1f3afbfb00eb3d1ae8acf5d1105a64058a010d00e8062ea210879dc57e6717"), looks := false }, kinds := [], alts := [], laidByText := true, laidKinds := [.data], laidTests := true, laidLooks := .later }
def CanonAgainUptoCardSaid : Prop := Claim7.holds Tryd.pinned (.plain (OpenSpec.upto canonAgainSpec)) canonAgainUptoCard

/-- THE SECOND FORM's CARD OF 'censuslaw17.CanonNil'. -/
def canonNilUptoCard : Claim7 := { stood := { row := canonNilUptoRow, standIns := [], harness := (true, "4d1f3afbfb00eb3d1ae8acf5d1105a64058a010d00e8062ea210879dc57e6717"), looks := false }, kinds := [], alts := [], laidByText := true, laidKinds := [.data], laidTests := true, laidLooks := .later }
def CanonNilUptoCardSaid : Prop := Claim7.holds Tryd.pinned (.plain (OpenSpec.upto canonNilSpec)) canonNilUptoCard

/-- THE SECOND FORM's CARD OF 'censuslaw17.CanonKnown'. -/
def canonKnownUptoCard : Claim7 := { stood := { row := canonKnownUptoRow, standIns := [], harness := (true, "4d1f3afbfb00eb3d1ae8acf5d1105a64058a010d00e8062ea210879dc57e6717"), looks := false }, kinds := [], alts := [], laidByText := true, laidKinds := [.data], laidTests := true, laidLooks := .later }
def CanonKnownUptoCardSaid : Prop := Claim7.holds Tryd.pinned (.plain (OpenSpec.upto canonKnownSpec)) canonKnownUptoCard
end Rows
end Go.Proofs.YtafikekndefjcaaDoor
