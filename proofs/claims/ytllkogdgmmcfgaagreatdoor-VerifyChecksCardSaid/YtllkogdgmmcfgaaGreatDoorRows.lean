/-
  NARROWER THAN 'FOR EVERY INPUT', by the rows' own cells (each row's printed sentence says how): VerifyEmpty: laid · VerifyChecks: laid · VerifySound: laid · VerifyShape: laid · VerifyLocal: laid · VerifyOne: laid.
  DERIVED. THE GIVEN ROWS OF THIS SEAT. 6 by the template 'for every input the law returns true; each argument reads behind the call as it read before'; 0 by the template 'total and deterministic' (their statements: YtllkogdgmmcfgaaGreatDoorTotals.lean).
  GIVEN WITH THE SEED: the statements are not yours to turn. If you find one false, say at which input.
  Laid BY PROGRAM, IN A SANDBOX (cutbox-rows.mjs): the forced cells as the released guide's own fill.sh prints them over the translation f7e07a73c6576c3b… (all of the seat's roots in one cut). By AI agents, Wed Nov 11 2026. No macro, syntax, notation, axiom, sorry.
-/
import Derived.Test.YtllkogdgmmcfgaaGreatDoorChecked
import GoSem.Claim
import GoSem.ClaimJoined
import GoSem.ClaimMapViews
import Derived.JoinedTies
import Derived.KernelRfl
namespace Go.Proofs.YtllkogdgmmcfgaaGreatDoor
/- THE CELL 'sum', in the pinned program and in every row, IS THE sha256 OF THE DUMP (.gsa) THAT YtllkogdgmmcfgaaGreatDoorProg.lean LOADS. Nothing in Lean hashes anything: it is a label: what it is worth is what the hold of that sum in a sandbox is worth. -/
noncomputable def Tryz.pinned : Pinned := { name := "ytllkogdgmmcfgaagreatdoor", sum := "f7e07a73c6576c3b8aa7f345b0f3bf93040a155c071667128c02417198b621dc", checked := Tryz.checked }
namespace Rows
def none {H : Type} : Left H := { results := [], args := [] }

/- WHAT THE LISTED PACKAGE-LEVEL VARIABLES READ AS WHEN THE CALL BEGINS. Each datum BY PROGRAM (the guide's laid-datum.mjs) off the statement by which the dump's own 'gosem.cut.vars' lays the variable. In a bare row this is a premise. The card (YtllkogdgmmcfgaaGreatDoorCards.lean) ties it to the program's text. -/
def laid_math_bits_deBruijn64tab {H : Type} : DataW H := .agg [.lit (.int .u8 0), .lit (.int .u8 1), .lit (.int .u8 56), .lit (.int .u8 2), .lit (.int .u8 57), .lit (.int .u8 49), .lit (.int .u8 28), .lit (.int .u8 3), .lit (.int .u8 61), .lit (.int .u8 58), .lit (.int .u8 42), .lit (.int .u8 50), .lit (.int .u8 38), .lit (.int .u8 29), .lit (.int .u8 17), .lit (.int .u8 4), .lit (.int .u8 62), .lit (.int .u8 47), .lit (.int .u8 59), .lit (.int .u8 36), .lit (.int .u8 45), .lit (.int .u8 43), .lit (.int .u8 51), .lit (.int .u8 22), .lit (.int .u8 53), .lit (.int .u8 39), .lit (.int .u8 33), .lit (.int .u8 30), .lit (.int .u8 24), .lit (.int .u8 18), .lit (.int .u8 12), .lit (.int .u8 5), .lit (.int .u8 63), .lit (.int .u8 55), .lit (.int .u8 48), .lit (.int .u8 27), .lit (.int .u8 60), .lit (.int .u8 41), .lit (.int .u8 37), .lit (.int .u8 16), .lit (.int .u8 46), .lit (.int .u8 35), .lit (.int .u8 44), .lit (.int .u8 21), .lit (.int .u8 52), .lit (.int .u8 32), .lit (.int .u8 23), .lit (.int .u8 11), .lit (.int .u8 54), .lit (.int .u8 26), .lit (.int .u8 40), .lit (.int .u8 15), .lit (.int .u8 34), .lit (.int .u8 20), .lit (.int .u8 31), .lit (.int .u8 10), .lit (.int .u8 25), .lit (.int .u8 14), .lit (.int .u8 19), .lit (.int .u8 9), .lit (.int .u8 13), .lit (.int .u8 8), .lit (.int .u8 7), .lit (.int .u8 6)]

/-- 'censuslaw23.VerifyEmpty': WHATEVER THE INPUT: true; the input reads as it did. -/
def verifyEmptySpec : ChangeSpec := { name := "verifyEmpty", fn := fun _ => fun
  | [d1, d2] => { results := [.lit (.bool true)], args := [d1, d2] }
  | _ => none }
def verifyEmptyRow : OpenClaim := { program := "ytllkogdgmmcfgaagreatdoor", sum := "f7e07a73c6576c3b8aa7f345b0f3bf93040a155c071667128c02417198b621dc", func := "census/censuslaw23.VerifyEmpty", spec := "verifyEmpty", unfollowed := true, recurses := true, named := ["math/bits.deBruijn64tab"], apart := false, laid := [("math/bits.deBruijn64tab", laid_math_bits_deBruijn64tab)] }
def VerifyEmptySaid : Prop := verifyEmptyRow.holds Tryz.pinned (OpenSpec.ofChange verifyEmptySpec)

/-- ITS FALSE NEIGHBOUR: 'it returns false'. Refute it at one input. -/
def verifyEmptyWrong : ChangeSpec := { name := "verifyEmpty", fn := fun _ => fun
  | [d1, d2] => { results := [.lit (.bool false)], args := [d1, d2] }
  | _ => none }
def VerifyEmptyWrongFalsely : Prop := verifyEmptyRow.holds Tryz.pinned (OpenSpec.ofChange verifyEmptyWrong)

/-- 'censuslaw23.VerifyChecks': WHATEVER THE INPUT: true; the input reads as it did. -/
def verifyChecksSpec : ChangeSpec := { name := "verifyChecks", fn := fun _ => fun
  | [d1, d2, d3] => { results := [.lit (.bool true)], args := [d1, d2, d3] }
  | _ => none }
def verifyChecksRow : OpenClaim := { program := "ytllkogdgmmcfgaagreatdoor", sum := "f7e07a73c6576c3b8aa7f345b0f3bf93040a155c071667128c02417198b621dc", func := "census/censuslaw23.VerifyChecks", spec := "verifyChecks", unfollowed := true, recurses := true, named := ["math/bits.deBruijn64tab"], apart := false, laid := [("math/bits.deBruijn64tab", laid_math_bits_deBruijn64tab)] }
def VerifyChecksSaid : Prop := verifyChecksRow.holds Tryz.pinned (OpenSpec.ofChange verifyChecksSpec)

/-- ITS FALSE NEIGHBOUR: 'it returns false'. Refute it at one input. -/
def verifyChecksWrong : ChangeSpec := { name := "verifyChecks", fn := fun _ => fun
  | [d1, d2, d3] => { results := [.lit (.bool false)], args := [d1, d2, d3] }
  | _ => none }
def VerifyChecksWrongFalsely : Prop := verifyChecksRow.holds Tryz.pinned (OpenSpec.ofChange verifyChecksWrong)

/-- 'censuslaw23.VerifySound': WHATEVER THE INPUT: true; the input reads as it did. -/
def verifySoundSpec : ChangeSpec := { name := "verifySound", fn := fun _ => fun
  | [d1, d2, d3] => { results := [.lit (.bool true)], args := [d1, d2, d3] }
  | _ => none }
def verifySoundRow : OpenClaim := { program := "ytllkogdgmmcfgaagreatdoor", sum := "f7e07a73c6576c3b8aa7f345b0f3bf93040a155c071667128c02417198b621dc", func := "census/censuslaw23.VerifySound", spec := "verifySound", unfollowed := true, recurses := true, named := ["math/bits.deBruijn64tab"], apart := false, laid := [("math/bits.deBruijn64tab", laid_math_bits_deBruijn64tab)] }
def VerifySoundSaid : Prop := verifySoundRow.holds Tryz.pinned (OpenSpec.ofChange verifySoundSpec)

/-- ITS FALSE NEIGHBOUR: 'it returns false'. Refute it at one input. -/
def verifySoundWrong : ChangeSpec := { name := "verifySound", fn := fun _ => fun
  | [d1, d2, d3] => { results := [.lit (.bool false)], args := [d1, d2, d3] }
  | _ => none }
def VerifySoundWrongFalsely : Prop := verifySoundRow.holds Tryz.pinned (OpenSpec.ofChange verifySoundWrong)

/-- 'censuslaw23.VerifyShape': WHATEVER THE INPUT: true; the input reads as it did. -/
def verifyShapeSpec : ChangeSpec := { name := "verifyShape", fn := fun _ => fun
  | [d1, d2, d3] => { results := [.lit (.bool true)], args := [d1, d2, d3] }
  | _ => none }
def verifyShapeRow : OpenClaim := { program := "ytllkogdgmmcfgaagreatdoor", sum := "f7e07a73c6576c3b8aa7f345b0f3bf93040a155c071667128c02417198b621dc", func := "census/censuslaw23.VerifyShape", spec := "verifyShape", unfollowed := true, recurses := true, named := ["math/bits.deBruijn64tab"], apart := false, laid := [("math/bits.deBruijn64tab", laid_math_bits_deBruijn64tab)] }
def VerifyShapeSaid : Prop := verifyShapeRow.holds Tryz.pinned (OpenSpec.ofChange verifyShapeSpec)

/-- ITS FALSE NEIGHBOUR: 'it returns false'. Refute it at one input. -/
def verifyShapeWrong : ChangeSpec := { name := "verifyShape", fn := fun _ => fun
  | [d1, d2, d3] => { results := [.lit (.bool false)], args := [d1, d2, d3] }
  | _ => none }
def VerifyShapeWrongFalsely : Prop := verifyShapeRow.holds Tryz.pinned (OpenSpec.ofChange verifyShapeWrong)

/-- 'censuslaw23.VerifyLocal': WHATEVER THE INPUT: true; the input reads as it did. -/
def verifyLocalSpec : ChangeSpec := { name := "verifyLocal", fn := fun _ => fun
  | [d1, d2, d3, d4] => { results := [.lit (.bool true)], args := [d1, d2, d3, d4] }
  | _ => none }
def verifyLocalRow : OpenClaim := { program := "ytllkogdgmmcfgaagreatdoor", sum := "f7e07a73c6576c3b8aa7f345b0f3bf93040a155c071667128c02417198b621dc", func := "census/censuslaw23.VerifyLocal", spec := "verifyLocal", unfollowed := true, recurses := true, named := ["math/bits.deBruijn64tab"], apart := false, laid := [("math/bits.deBruijn64tab", laid_math_bits_deBruijn64tab)] }
def VerifyLocalSaid : Prop := verifyLocalRow.holds Tryz.pinned (OpenSpec.ofChange verifyLocalSpec)

/-- ITS FALSE NEIGHBOUR: 'it returns false'. Refute it at one input. -/
def verifyLocalWrong : ChangeSpec := { name := "verifyLocal", fn := fun _ => fun
  | [d1, d2, d3, d4] => { results := [.lit (.bool false)], args := [d1, d2, d3, d4] }
  | _ => none }
def VerifyLocalWrongFalsely : Prop := verifyLocalRow.holds Tryz.pinned (OpenSpec.ofChange verifyLocalWrong)

/-- 'censuslaw23.VerifyOne': WHATEVER THE INPUT: true; the input reads as it did. -/
def verifyOneSpec : ChangeSpec := { name := "verifyOne", fn := fun _ => fun
  | [d1, d2, d3, d4] => { results := [.lit (.bool true)], args := [d1, d2, d3, d4] }
  | _ => none }
def verifyOneRow : OpenClaim := { program := "ytllkogdgmmcfgaagreatdoor", sum := "f7e07a73c6576c3b8aa7f345b0f3bf93040a155c071667128c02417198b621dc", func := "census/censuslaw23.VerifyOne", spec := "verifyOne", unfollowed := true, recurses := true, named := ["math/bits.deBruijn64tab"], apart := false, laid := [("math/bits.deBruijn64tab", laid_math_bits_deBruijn64tab)] }
def VerifyOneSaid : Prop := verifyOneRow.holds Tryz.pinned (OpenSpec.ofChange verifyOneSpec)

/-- ITS FALSE NEIGHBOUR: 'it returns false'. Refute it at one input. -/
def verifyOneWrong : ChangeSpec := { name := "verifyOne", fn := fun _ => fun
  | [d1, d2, d3, d4] => { results := [.lit (.bool false)], args := [d1, d2, d3, d4] }
  | _ => none }
def VerifyOneWrongFalsely : Prop := verifyOneRow.holds Tryz.pinned (OpenSpec.ofChange verifyOneWrong)

/- THE SECOND FORM. 'bulk': how many values and letters a reading holds, each counted each time it is reached (what is shared counts as often as it is met; a slice's spare places count too). A statement '..UptoSaid' is the law's where the arguments, and the package variables that the reading takes, are together of bulk at most 1048576: NARROWER than '..Said'. Prove '..Said' where nothing that the law and all that it calls make is longer than what came in: it says more and counts as full. Else prove '..UptoSaid'. A law counts once. -/
mutual
def uptoBulk {H : Type} : DataW H → Nat
  | .lit (.string bytes) => bytes.length + 1
  | .lit _ => 1
  | .nil => 1
  | .ptr d => uptoBulk d + 1
  | .slice elems spare => uptoBulkAll elems + uptoBulkAll spare + 1
  | .agg parts => uptoBulkAll parts + 1
  | .iface _ d => uptoBulk d + 1
  | .map entries => uptoBulkEntries entries + 1
  | .held _ => 1
def uptoBulkAll {H : Type} : List (DataW H) → Nat
  | [] => 0
  | d :: r => uptoBulk d + uptoBulkAll r
def uptoBulkEntries {H : Type} : List (Lit × DataW H) → Nat
  | [] => 0
  | x :: r => uptoBulkEntry x + uptoBulkEntries r
def uptoBulkEntry {H : Type} : Lit × DataW H → Nat
  | (.string bytes, d) => bytes.length + uptoBulk d + 1
  | (_, d) => uptoBulk d + 1
 end
def uptoSmall : (H : Type) → List (DataW H) → Bool := fun _ ds => decide (uptoBulkAll ds ≤ 1048576)
def OpenSpec.upto (s : _root_.Go.ChangeSpec) : _root_.Go.OpenSpec := { _root_.Go.OpenSpec.ofChange s with cond := some uptoSmall }

/-- 'censuslaw23.VerifyEmpty', WHERE WHAT IT READS IS OF BULK AT MOST 1048576: true; the input reads as it did. -/
def verifyEmptyUptoRow : OpenClaim := { program := "ytllkogdgmmcfgaagreatdoor", sum := "f7e07a73c6576c3b8aa7f345b0f3bf93040a155c071667128c02417198b621dc", func := "census/censuslaw23.VerifyEmpty", spec := "verifyEmpty", unfollowed := true, recurses := true, named := ["math/bits.deBruijn64tab"], apart := false, laid := [("math/bits.deBruijn64tab", laid_math_bits_deBruijn64tab)], narrowed := true }
def VerifyEmptyUptoSaid : Prop := verifyEmptyUptoRow.holds Tryz.pinned (OpenSpec.upto verifyEmptySpec)

/-- 'censuslaw23.VerifyChecks', WHERE WHAT IT READS IS OF BULK AT MOST 1048576: true; the input reads as it did. -/
def verifyChecksUptoRow : OpenClaim := { program := "ytllkogdgmmcfgaagreatdoor", sum := "f7e07a73c6576c3b8aa7f345b0f3bf93040a155c071667128c02417198b621dc", func := "census/censuslaw23.VerifyChecks", spec := "verifyChecks", unfollowed := true, recurses := true, named := ["math/bits.deBruijn64tab"], apart := false, laid := [("math/bits.deBruijn64tab", laid_math_bits_deBruijn64tab)], narrowed := true }
def VerifyChecksUptoSaid : Prop := verifyChecksUptoRow.holds Tryz.pinned (OpenSpec.upto verifyChecksSpec)

/-- 'censuslaw23.VerifySound', WHERE WHAT IT READS IS OF BULK AT MOST 1048576: true; the input reads as it did. -/
def verifySoundUptoRow : OpenClaim := { program := "ytllkogdgmmcfgaagreatdoor", sum := "f7e07a73c6576c3b8aa7f345b0f3bf93040a155c071667128c02417198b621dc", func := "census/censuslaw23.VerifySound", spec := "verifySound", unfollowed := true, recurses := true, named := ["math/bits.deBruijn64tab"], apart := false, laid := [("math/bits.deBruijn64tab", laid_math_bits_deBruijn64tab)], narrowed := true }
def VerifySoundUptoSaid : Prop := verifySoundUptoRow.holds Tryz.pinned (OpenSpec.upto verifySoundSpec)

/-- 'censuslaw23.VerifyShape', WHERE WHAT IT READS IS OF BULK AT MOST 1048576: true; the input reads as it did. -/
def verifyShapeUptoRow : OpenClaim := { program := "ytllkogdgmmcfgaagreatdoor", sum := "f7e07a73c6576c3b8aa7f345b0f3bf93040a155c071667128c02417198b621dc", func := "census/censuslaw23.VerifyShape", spec := "verifyShape", unfollowed := true, recurses := true, named := ["math/bits.deBruijn64tab"], apart := false, laid := [("math/bits.deBruijn64tab", laid_math_bits_deBruijn64tab)], narrowed := true }
def VerifyShapeUptoSaid : Prop := verifyShapeUptoRow.holds Tryz.pinned (OpenSpec.upto verifyShapeSpec)

/-- 'censuslaw23.VerifyLocal', WHERE WHAT IT READS IS OF BULK AT MOST 1048576: true; the input reads as it did. -/
def verifyLocalUptoRow : OpenClaim := { program := "ytllkogdgmmcfgaagreatdoor", sum := "f7e07a73c6576c3b8aa7f345b0f3bf93040a155c071667128c02417198b621dc", func := "census/censuslaw23.VerifyLocal", spec := "verifyLocal", unfollowed := true, recurses := true, named := ["math/bits.deBruijn64tab"], apart := false, laid := [("math/bits.deBruijn64tab", laid_math_bits_deBruijn64tab)], narrowed := true }
def VerifyLocalUptoSaid : Prop := verifyLocalUptoRow.holds Tryz.pinned (OpenSpec.upto verifyLocalSpec)

/-- 'censuslaw23.VerifyOne', WHERE WHAT IT READS IS OF BULK AT MOST 1048576: true; the input reads as it did. -/
def verifyOneUptoRow : OpenClaim := { program := "ytllkogdgmmcfgaagreatdoor", sum := "f7e07a73c6576c3b8aa7f345b0f3bf93040a155c071667128c02417198b621dc", func := "census/censuslaw23.VerifyOne", spec := "verifyOne", unfollowed := true, recurses := true, named := ["math/bits.deBruijn64tab"], apart := false, laid := [("math/bits.deBruijn64tab", laid_math_bits_deBruijn64tab)], narrowed := true }
def VerifyOneUptoSaid : Prop := verifyOneUptoRow.holds Tryz.pinned (OpenSpec.upto verifyOneSpec)

end Rows
end Go.Proofs.YtllkogdgmmcfgaaGreatDoor
