/-
  NARROWER THAN 'FOR EVERY INPUT', by the rows' own cells (each row's printed sentence says how): CanonSmalls: laid · CanonSame: laid · CanonMoved: laid · CanonCounts: laid · CanonCaches: laid · CanonKept: laid · CanonAgain: laid · CanonNil: laid · CanonKnown: laid.
  DERIVED. THE GIVEN ROWS OF THIS SEAT. 9 by the template 'for every input the law returns true; each argument reads behind the call as it read before'; 0 by the template 'total and deterministic' (their statements: YtafikekndefjcaaDoorTotals.lean).
  GIVEN WITH THE SEED: the statements are not yours to turn. If you find one false, say at which input.
  Laid BY PROGRAM, IN A SANDBOX (cutbox-rows.mjs): the forced cells as the released guide's own fill.sh prints them over the translation a7b6d90d673ae81f… (all of the seat's roots in one cut). By AI agents, Wed Nov 11 2026. No macro, syntax, notation, axiom, sorry.
-/
import Derived.Test.YtafikekndefjcaaDoorChecked
import GoSem.Claim
import GoSem.ClaimJoined
import GoSem.ClaimMapViews
import Derived.JoinedTies
import Derived.KernelRfl
namespace Go.Proofs.YtafikekndefjcaaDoor
/- THE CELL 'sum', in the pinned program and in every row, IS THE sha256 OF THE DUMP (.gsa) THAT YtafikekndefjcaaDoorProg.lean LOADS. Nothing in Lean hashes anything: it is a label: what it is worth is what the hold of that sum in a sandbox is worth. -/
noncomputable def Tryd.pinned : Pinned := { name := "ytafikekndefjcaadoor", sum := "a7b6d90d673ae81f71da830027915c2ff0affd138e22bfcf99f20746bb386557", checked := Tryd.checked }
namespace Rows
def none {H : Type} : Left H := { results := [], args := [] }

/- WHAT THE LISTED PACKAGE-LEVEL VARIABLES READ AS WHEN THE CALL BEGINS. Each datum BY PROGRAM (the guide's laid-datum.mjs) off the statement by which the dump's own 'gosem.cut.vars' lays the variable. In a bare row this is a premise. The card (YtafikekndefjcaaDoorCards.lean) ties it to the program's text. -/
def laid_math_bits_deBruijn64tab {H : Type} : DataW H := .agg [.lit (.int .u8 0), .lit (.int .u8 1), .lit (.int .u8 56), .lit (.int .u8 2), .lit (.int .u8 57), .lit (.int .u8 49), .lit (.int .u8 28), .lit (.int .u8 3), .lit (.int .u8 61), .lit (.int .u8 58), .lit (.int .u8 42), .lit (.int .u8 50), .lit (.int .u8 38), .lit (.int .u8 29), .lit (.int .u8 17), .lit (.int .u8 4), .lit (.int .u8 62), .lit (.int .u8 47), .lit (.int .u8 59), .lit (.int .u8 36), .lit (.int .u8 45), .lit (.int .u8 43), .lit (.int .u8 51), .lit (.int .u8 22), .lit (.int .u8 53), .lit (.int .u8 39), .lit (.int .u8 33), .lit (.int .u8 30), .lit (.int .u8 24), .lit (.int .u8 18), .lit (.int .u8 12), .lit (.int .u8 5), .lit (.int .u8 63), .lit (.int .u8 55), .lit (.int .u8 48), .lit (.int .u8 27), .lit (.int .u8 60), .lit (.int .u8 41), .lit (.int .u8 37), .lit (.int .u8 16), .lit (.int .u8 46), .lit (.int .u8 35), .lit (.int .u8 44), .lit (.int .u8 21), .lit (.int .u8 52), .lit (.int .u8 32), .lit (.int .u8 23), .lit (.int .u8 11), .lit (.int .u8 54), .lit (.int .u8 26), .lit (.int .u8 40), .lit (.int .u8 15), .lit (.int .u8 34), .lit (.int .u8 20), .lit (.int .u8 31), .lit (.int .u8 10), .lit (.int .u8 25), .lit (.int .u8 14), .lit (.int .u8 19), .lit (.int .u8 9), .lit (.int .u8 13), .lit (.int .u8 8), .lit (.int .u8 7), .lit (.int .u8 6)]

/-- 'censuslaw17.CanonSmalls': WHATEVER THE INPUT: true; the input reads as it did. -/
def canonSmallsSpec : ChangeSpec := { name := "canonSmalls", fn := fun _ => fun
  | [d] => { results := [.lit (.bool true)], args := [d] }
  | _ => none }
def canonSmallsRow : OpenClaim := { program := "ytafikekndefjcaadoor", sum := "a7b6d90d673ae81f71da830027915c2ff0affd138e22bfcf99f20746bb386557", func := "census/censuslaw17.CanonSmalls", spec := "canonSmalls", unfollowed := true, recurses := true, named := ["math/bits.deBruijn64tab"], apart := false, laid := [("math/bits.deBruijn64tab", laid_math_bits_deBruijn64tab)] }
def CanonSmallsSaid : Prop := canonSmallsRow.holds Tryd.pinned (OpenSpec.ofChange canonSmallsSpec)

/-- ITS FALSE NEIGHBOUR: 'it returns false'. Refute it at one input. -/
def canonSmallsWrong : ChangeSpec := { name := "canonSmalls", fn := fun _ => fun
  | [d] => { results := [.lit (.bool false)], args := [d] }
  | _ => none }
def CanonSmallsWrongFalsely : Prop := canonSmallsRow.holds Tryd.pinned (OpenSpec.ofChange canonSmallsWrong)

/-- 'censuslaw17.CanonSame': WHATEVER THE INPUT: true; the input reads as it did. -/
def canonSameSpec : ChangeSpec := { name := "canonSame", fn := fun _ => fun
  | [d1, d2, d3, d4] => { results := [.lit (.bool true)], args := [d1, d2, d3, d4] }
  | _ => none }
def canonSameRow : OpenClaim := { program := "ytafikekndefjcaadoor", sum := "a7b6d90d673ae81f71da830027915c2ff0affd138e22bfcf99f20746bb386557", func := "census/censuslaw17.CanonSame", spec := "canonSame", unfollowed := true, recurses := true, named := ["math/bits.deBruijn64tab"], apart := false, laid := [("math/bits.deBruijn64tab", laid_math_bits_deBruijn64tab)] }
def CanonSameSaid : Prop := canonSameRow.holds Tryd.pinned (OpenSpec.ofChange canonSameSpec)

/-- ITS FALSE NEIGHBOUR: 'it returns false'. Refute it at one input. -/
def canonSameWrong : ChangeSpec := { name := "canonSame", fn := fun _ => fun
  | [d1, d2, d3, d4] => { results := [.lit (.bool false)], args := [d1, d2, d3, d4] }
  | _ => none }
def CanonSameWrongFalsely : Prop := canonSameRow.holds Tryd.pinned (OpenSpec.ofChange canonSameWrong)

/-- 'censuslaw17.CanonMoved': WHATEVER THE INPUT: true; the input reads as it did. -/
def canonMovedSpec : ChangeSpec := { name := "canonMoved", fn := fun _ => fun
  | [d1, d2, d3, d4] => { results := [.lit (.bool true)], args := [d1, d2, d3, d4] }
  | _ => none }
def canonMovedRow : OpenClaim := { program := "ytafikekndefjcaadoor", sum := "a7b6d90d673ae81f71da830027915c2ff0affd138e22bfcf99f20746bb386557", func := "census/censuslaw17.CanonMoved", spec := "canonMoved", unfollowed := true, recurses := true, named := ["math/bits.deBruijn64tab"], apart := false, laid := [("math/bits.deBruijn64tab", laid_math_bits_deBruijn64tab)] }
def CanonMovedSaid : Prop := canonMovedRow.holds Tryd.pinned (OpenSpec.ofChange canonMovedSpec)

/-- ITS FALSE NEIGHBOUR: 'it returns false'. Refute it at one input. -/
def canonMovedWrong : ChangeSpec := { name := "canonMoved", fn := fun _ => fun
  | [d1, d2, d3, d4] => { results := [.lit (.bool false)], args := [d1, d2, d3, d4] }
  | _ => none }
def CanonMovedWrongFalsely : Prop := canonMovedRow.holds Tryd.pinned (OpenSpec.ofChange canonMovedWrong)

/-- 'censuslaw17.CanonCounts': WHATEVER THE INPUT: true; the input reads as it did. -/
def canonCountsSpec : ChangeSpec := { name := "canonCounts", fn := fun _ => fun
  | [d1, d2] => { results := [.lit (.bool true)], args := [d1, d2] }
  | _ => none }
def canonCountsRow : OpenClaim := { program := "ytafikekndefjcaadoor", sum := "a7b6d90d673ae81f71da830027915c2ff0affd138e22bfcf99f20746bb386557", func := "census/censuslaw17.CanonCounts", spec := "canonCounts", unfollowed := true, recurses := true, named := ["math/bits.deBruijn64tab"], apart := false, laid := [("math/bits.deBruijn64tab", laid_math_bits_deBruijn64tab)] }
def CanonCountsSaid : Prop := canonCountsRow.holds Tryd.pinned (OpenSpec.ofChange canonCountsSpec)

/-- ITS FALSE NEIGHBOUR: 'it returns false'. Refute it at one input. -/
def canonCountsWrong : ChangeSpec := { name := "canonCounts", fn := fun _ => fun
  | [d1, d2] => { results := [.lit (.bool false)], args := [d1, d2] }
  | _ => none }
def CanonCountsWrongFalsely : Prop := canonCountsRow.holds Tryd.pinned (OpenSpec.ofChange canonCountsWrong)

/-- 'censuslaw17.CanonCaches': WHATEVER THE INPUT: true; the input reads as it did. -/
def canonCachesSpec : ChangeSpec := { name := "canonCaches", fn := fun _ => fun
  | [d1, d2] => { results := [.lit (.bool true)], args := [d1, d2] }
  | _ => none }
def canonCachesRow : OpenClaim := { program := "ytafikekndefjcaadoor", sum := "a7b6d90d673ae81f71da830027915c2ff0affd138e22bfcf99f20746bb386557", func := "census/censuslaw17.CanonCaches", spec := "canonCaches", unfollowed := true, recurses := true, named := ["math/bits.deBruijn64tab"], apart := false, laid := [("math/bits.deBruijn64tab", laid_math_bits_deBruijn64tab)] }
def CanonCachesSaid : Prop := canonCachesRow.holds Tryd.pinned (OpenSpec.ofChange canonCachesSpec)

/-- ITS FALSE NEIGHBOUR: 'it returns false'. Refute it at one input. -/
def canonCachesWrong : ChangeSpec := { name := "canonCaches", fn := fun _ => fun
  | [d1, d2] => { results := [.lit (.bool false)], args := [d1, d2] }
  | _ => none }
def CanonCachesWrongFalsely : Prop := canonCachesRow.holds Tryd.pinned (OpenSpec.ofChange canonCachesWrong)

/-- 'censuslaw17.CanonKept': WHATEVER THE INPUT: true; the input reads as it did. -/
def canonKeptSpec : ChangeSpec := { name := "canonKept", fn := fun _ => fun
  | [d1, d2] => { results := [.lit (.bool true)], args := [d1, d2] }
  | _ => none }
def canonKeptRow : OpenClaim := { program := "ytafikekndefjcaadoor", sum := "a7b6d90d673ae81f71da830027915c2ff0affd138e22bfcf99f20746bb386557", func := "census/censuslaw17.CanonKept", spec := "canonKept", unfollowed := true, recurses := true, named := ["math/bits.deBruijn64tab"], apart := false, laid := [("math/bits.deBruijn64tab", laid_math_bits_deBruijn64tab)] }
def CanonKeptSaid : Prop := canonKeptRow.holds Tryd.pinned (OpenSpec.ofChange canonKeptSpec)

/-- ITS FALSE NEIGHBOUR: 'it returns false'. Refute it at one input. -/
def canonKeptWrong : ChangeSpec := { name := "canonKept", fn := fun _ => fun
  | [d1, d2] => { results := [.lit (.bool false)], args := [d1, d2] }
  | _ => none }
def CanonKeptWrongFalsely : Prop := canonKeptRow.holds Tryd.pinned (OpenSpec.ofChange canonKeptWrong)

/-- 'censuslaw17.CanonAgain': WHATEVER THE INPUT: true; the input reads as it did. -/
def canonAgainSpec : ChangeSpec := { name := "canonAgain", fn := fun _ => fun
  | [d1, d2] => { results := [.lit (.bool true)], args := [d1, d2] }
  | _ => none }
def canonAgainRow : OpenClaim := { program := "ytafikekndefjcaadoor", sum := "a7b6d90d673ae81f71da830027915c2ff0affd138e22bfcf99f20746bb386557", func := "census/censuslaw17.CanonAgain", spec := "canonAgain", unfollowed := true, recurses := true, named := ["math/bits.deBruijn64tab"], apart := false, laid := [("math/bits.deBruijn64tab", laid_math_bits_deBruijn64tab)] }
def CanonAgainSaid : Prop := canonAgainRow.holds Tryd.pinned (OpenSpec.ofChange canonAgainSpec)

/-- ITS FALSE NEIGHBOUR: 'it returns false'. Refute it at one input. -/
def canonAgainWrong : ChangeSpec := { name := "canonAgain", fn := fun _ => fun
  | [d1, d2] => { results := [.lit (.bool false)], args := [d1, d2] }
  | _ => none }
def CanonAgainWrongFalsely : Prop := canonAgainRow.holds Tryd.pinned (OpenSpec.ofChange canonAgainWrong)

/-- 'censuslaw17.CanonNil': WHATEVER THE INPUT: true; the input reads as it did. -/
def canonNilSpec : ChangeSpec := { name := "canonNil", fn := fun _ => fun
  | [d1, d2, d3] => { results := [.lit (.bool true)], args := [d1, d2, d3] }
  | _ => none }
def canonNilRow : OpenClaim := { program := "ytafikekndefjcaadoor", sum := "a7b6d90d673ae81f71da830027915c2ff0affd138e22bfcf99f20746bb386557", func := "census/censuslaw17.CanonNil", spec := "canonNil", unfollowed := true, recurses := true, named := ["math/bits.deBruijn64tab"], apart := false, laid := [("math/bits.deBruijn64tab", laid_math_bits_deBruijn64tab)] }
def CanonNilSaid : Prop := canonNilRow.holds Tryd.pinned (OpenSpec.ofChange canonNilSpec)

/-- ITS FALSE NEIGHBOUR: 'it returns false'. Refute it at one input. -/
def canonNilWrong : ChangeSpec := { name := "canonNil", fn := fun _ => fun
  | [d1, d2, d3] => { results := [.lit (.bool false)], args := [d1, d2, d3] }
  | _ => none }
def CanonNilWrongFalsely : Prop := canonNilRow.holds Tryd.pinned (OpenSpec.ofChange canonNilWrong)

/-- 'censuslaw17.CanonKnown': WHATEVER THE INPUT: true; the input reads as it did. -/
def canonKnownSpec : ChangeSpec := { name := "canonKnown", fn := fun _ => fun
  | [] => { results := [.lit (.bool true)], args := [] }
  | _ => none }
def canonKnownRow : OpenClaim := { program := "ytafikekndefjcaadoor", sum := "a7b6d90d673ae81f71da830027915c2ff0affd138e22bfcf99f20746bb386557", func := "census/censuslaw17.CanonKnown", spec := "canonKnown", unfollowed := true, recurses := true, named := ["math/bits.deBruijn64tab"], apart := false, laid := [("math/bits.deBruijn64tab", laid_math_bits_deBruijn64tab)] }
def CanonKnownSaid : Prop := canonKnownRow.holds Tryd.pinned (OpenSpec.ofChange canonKnownSpec)

/-- ITS FALSE NEIGHBOUR: 'it returns false'. Refute it at one input. -/
def canonKnownWrong : ChangeSpec := { name := "canonKnown", fn := fun _ => fun
  | [] => { results := [.lit (.bool false)], args := [] }
  | _ => none }
def CanonKnownWrongFalsely : Prop := canonKnownRow.holds Tryd.pinned (OpenSpec.ofChange canonKnownWrong)

/- THE SECOND FORM. 'bulk': how many values and letters a reading holds, each counted each time it is reached (what is shared counts as often as it is met; a slice's spare places count too). A statement '..UptoSaid' is the law's where the arguments, and the package variables that the reading takes, are together of bulk at most 1048576: NARROWER than '..Said'. Prove '..Said' where nothing that the law and all that it calls make is longer than what came in: it says more and counts as full. Else prove '..UptoSaid'. A law counts once. -/
mutual
def uptoBulk {H : Type} : DataW H → Nat
  | .lit (.string bytes) => bytes.length + 1
  | .lit _ => 1
  | .nil => 1
  | .ptr d => uptoBulk d + 1
  | .slice elems spare => uptoBulkAll elems + uptoBulkAll spare + 1
  | .agg parts => uptoBulkAll parts + 1
  | .iface _ d => uptoBulk d + 1
  | .map entries => uptoBulkEntries entries + 1
  | .held _ => 1
def uptoBulkAll {H : Type} : List (DataW H) → Nat
  | [] => 0
  | d :: r => uptoBulk d + uptoBulkAll r
def uptoBulkEntries {H : Type} : List (Lit × DataW H) → Nat
  | [] => 0
  | x :: r => uptoBulkEntry x + uptoBulkEntries r
def uptoBulkEntry {H : Type} : Lit × DataW H → Nat
  | (.string bytes, d) => bytes.length + uptoBulk d + 1
  | (_, d) => uptoBulk d + 1
 end
def uptoSmall : (H : Type) → List (DataW H) → Bool := fun _ ds => decide (uptoBulkAll ds ≤ 1048576)
def OpenSpec.upto (s : _root_.Go.ChangeSpec) : _root_.Go.OpenSpec := { _root_.Go.OpenSpec.ofChange s with cond := some uptoSmall }

/-- 'censuslaw17.CanonSmalls', WHERE WHAT IT READS IS OF BULK AT MOST 1048576: true; the input reads as it did. -/
def canonSmallsUptoRow : OpenClaim := { program := "ytafikekndefjcaadoor", sum := "a7b6d90d673ae81f71da830027915c2ff0affd138e22bfcf99f20746bb386557", func := "census/censuslaw17.CanonSmalls", spec := "canonSmalls", unfollowed := true, recurses := true, named := ["math/bits.deBruijn64tab"], apart := false, laid := [("math/bits.deBruijn64tab", laid_math_bits_deBruijn64tab)], narrowed := true }
def CanonSmallsUptoSaid : Prop := canonSmallsUptoRow.holds Tryd.pinned (OpenSpec.upto canonSmallsSpec)

/-- 'censuslaw17.CanonSame', WHERE WHAT IT READS IS OF BULK AT MOST 1048576: true; the input reads as it did. -/
def canonSameUptoRow : OpenClaim := { program := "ytafikekndefjcaadoor", sum := "a7b6d90d673ae81f71da830027915c2ff0affd138e22bfcf99f20746bb386557", func := "census/censuslaw17.CanonSame", spec := "canonSame", unfollowed := true, recurses := true, named := ["math/bits.deBruijn64tab"], apart := false, laid := [("math/bits.deBruijn64tab", laid_math_bits_deBruijn64tab)], narrowed := true }
def CanonSameUptoSaid : Prop := canonSameUptoRow.holds Tryd.pinned (OpenSpec.upto canonSameSpec)

/-- 'censuslaw17.CanonMoved', WHERE WHAT IT READS IS OF BULK AT MOST 1048576: true; the input reads as it did. -/
def canonMovedUptoRow : OpenClaim := { program := "ytafikekndefjcaadoor", sum := "a7b6d90d673ae81f71da830027915c2ff0affd138e22bfcf99f20746bb386557", func := "census/censuslaw17.CanonMoved", spec := "canonMoved", unfollowed := true, recurses := true, named := ["math/bits.deBruijn64tab"], apart := false, laid := [("math/bits.deBruijn64tab", laid_math_bits_deBruijn64tab)], narrowed := true }
def CanonMovedUptoSaid : Prop := canonMovedUptoRow.holds Tryd.pinned (OpenSpec.upto canonMovedSpec)

/-- 'censuslaw17.CanonCounts', WHERE WHAT IT READS IS OF BULK AT MOST 1048576: true; the input reads as it did. -/
def canonCountsUptoRow : OpenClaim := { program := "ytafikekndefjcaadoor", sum := "a7b6d90d673ae81f71da830027915c2ff0affd138e22bfcf99f20746bb386557", func := "census/censuslaw17.CanonCounts", spec := "canonCounts", unfollowed := true, recurses := true, named := ["math/bits.deBruijn64tab"], apart := false, laid := [("math/bits.deBruijn64tab", laid_math_bits_deBruijn64tab)], narrowed := true }
def CanonCountsUptoSaid : Prop := canonCountsUptoRow.holds Tryd.pinned (OpenSpec.upto canonCountsSpec)

/-- 'censuslaw17.CanonCaches', WHERE WHAT IT READS IS OF BULK AT MOST 1048576: true; the input reads as it did. -/
def canonCachesUptoRow : OpenClaim := { program := "ytafikekndefjcaadoor", sum := "a7b6d90d673ae81f71da830027915c2ff0affd138e22bfcf99f20746bb386557", func := "census/censuslaw17.CanonCaches", spec := "canonCaches", unfollowed := true, recurses := true, named := ["math/bits.deBruijn64tab"], apart := false, laid := [("math/bits.deBruijn64tab", laid_math_bits_deBruijn64tab)], narrowed := true }
def CanonCachesUptoSaid : Prop := canonCachesUptoRow.holds Tryd.pinned (OpenSpec.upto canonCachesSpec)

/-- 'censuslaw17.CanonKept', WHERE WHAT IT READS IS OF BULK AT MOST 1048576: true; the input reads as it did. -/
def canonKeptUptoRow : OpenClaim := { program := "ytafikekndefjcaadoor", sum := "a7b6d90d673ae81f71da830027915c2ff0affd138e22bfcf99f20746bb386557", func := "census/censuslaw17.CanonKept", spec := "canonKept", unfollowed := true, recurses := true, named := ["math/bits.deBruijn64tab"], apart := false, laid := [("math/bits.deBruijn64tab", laid_math_bits_deBruijn64tab)], narrowed := true }
def CanonKeptUptoSaid : Prop := canonKeptUptoRow.holds Tryd.pinned (OpenSpec.upto canonKeptSpec)

/-- 'censuslaw17.CanonAgain', WHERE WHAT IT READS IS OF BULK AT MOST 1048576: true; the input reads as it did. -/
def canonAgainUptoRow : OpenClaim := { program := "ytafikekndefjcaadoor", sum := "a7b6d90d673ae81f71da830027915c2ff0affd138e22bfcf99f20746bb386557", func := "census/censuslaw17.CanonAgain", spec := "canonAgain", unfollowed := true, recurses := true, named := ["math/bits.deBruijn64tab"], apart := false, laid := [("math/bits.deBruijn64tab", laid_math_bits_deBruijn64tab)], narrowed := true }
def CanonAgainUptoSaid : Prop := canonAgainUptoRow.holds Tryd.pinned (OpenSpec.upto canonAgainSpec)

/-- 'censuslaw17.CanonNil', WHERE WHAT IT READS IS OF BULK AT MOST 1048576: true; the input reads as it did. -/
def canonNilUptoRow : OpenClaim := { program := "ytafikekndefjcaadoor", sum := "a7b6d90d673ae81f71da830027915c2ff0affd138e22bfcf99f20746bb386557", func := "census/censuslaw17.CanonNil", spec := "canonNil", unfollowed := true, recurses := true, named := ["math/bits.deBruijn64tab"], apart := false, laid := [("math/bits.deBruijn64tab", laid_math_bits_deBruijn64tab)], narrowed := true }
def CanonNilUptoSaid : Prop := canonNilUptoRow.holds Tryd.pinned (OpenSpec.upto canonNilSpec)

/-- 'censuslaw17.CanonKnown', WHERE WHAT IT READS IS OF BULK AT MOST 1048576: true; the input reads as it did. -/
def canonKnownUptoRow : OpenClaim := { program := "ytafikekndefjcaadoor", sum := "a7b6d90d673ae81f71da830027915c2ff0affd138e22bfcf99f20746bb386557", func := "census/censuslaw17.CanonKnown", spec := "canonKnown", unfollowed := true, recurses := true, named := ["math/bits.deBruijn64tab"], apart := false, laid := [("math/bits.deBruijn64tab", laid_math_bits_deBruijn64tab)], narrowed := true }
def CanonKnownUptoSaid : Prop := canonKnownUptoRow.holds Tryd.pinned (OpenSpec.upto canonKnownSpec)

end Rows
end Go.Proofs.YtafikekndefjcaaDoor
