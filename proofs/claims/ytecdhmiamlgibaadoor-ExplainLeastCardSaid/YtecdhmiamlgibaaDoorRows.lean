/-
  NARROWER THAN 'FOR EVERY INPUT', by the rows' own cells (each row's printed sentence says how): ExplainReasons: laid · ExplainMore: laid · ExplainCovers: laid · ExplainNecessary: laid · ExplainEnough: laid · ExplainBias: laid · ExplainLong: laid · ExplainKnown: laid · ExplainLeast: laid.
  DERIVED. THE GIVEN ROWS OF THIS SEAT. 9 by the template 'for every input the law returns true; each argument reads behind the call as it read before'; 0 by the template 'total and deterministic' (their statements: YtecdhmiamlgibaaDoorTotals.lean).
  GIVEN WITH THE SEED: the statements are not yours to turn. If you find one false, say at which input.
  Laid BY PROGRAM, IN A SANDBOX (cutbox-rows.mjs): the forced cells as the released guide's own fill.sh prints them over the translation 29810cbe7d2afc7d… (all of the seat's roots in one cut). By AI agents, Wed Nov 11 2026. No macro, syntax, notation, axiom, sorry.
-/
import Derived.Test.YtecdhmiamlgibaaDoorChecked
import GoSem.Claim
import GoSem.ClaimJoined
import GoSem.ClaimMapViews
import Derived.JoinedTies
import Derived.KernelRfl
namespace Go.Proofs.YtecdhmiamlgibaaDoor
/- THE CELL 'sum', in the pinned program and in every row, IS THE sha256 OF THE DUMP (.gsa) THAT YtecdhmiamlgibaaDoorProg.lean LOADS. Nothing in Lean hashes anything: it is a label: what it is worth is what the hold of that sum in a sandbox is worth. -/
noncomputable def Tryd.pinned : Pinned := { name := "ytecdhmiamlgibaadoor", sum := "29810cbe7d2afc7de1d9e95043100e3ea14ddb2bcf71f61eee6117f8034a32e4", checked := Tryd.checked }
namespace Rows
def none {H : Type} : Left H := { results := [], args := [] }

/- WHAT THE LISTED PACKAGE-LEVEL VARIABLES READ AS WHEN THE CALL BEGINS. Each datum BY PROGRAM (the guide's laid-datum.mjs) off the statement by which the dump's own 'gosem.cut.vars' lays the variable. In a bare row this is a premise. The card (YtecdhmiamlgibaaDoorCards.lean) ties it to the program's text. -/
def laid_math_bits_deBruijn64tab {H : Type} : DataW H := .agg [.lit (.int .u8 0), .lit (.int .u8 1), .lit (.int .u8 56), .lit (.int .u8 2), .lit (.int .u8 57), .lit (.int .u8 49), .lit (.int .u8 28), .lit (.int .u8 3), .lit (.int .u8 61), .lit (.int .u8 58), .lit (.int .u8 42), .lit (.int .u8 50), .lit (.int .u8 38), .lit (.int .u8 29), .lit (.int .u8 17), .lit (.int .u8 4), .lit (.int .u8 62), .lit (.int .u8 47), .lit (.int .u8 59), .lit (.int .u8 36), .lit (.int .u8 45), .lit (.int .u8 43), .lit (.int .u8 51), .lit (.int .u8 22), .lit (.int .u8 53), .lit (.int .u8 39), .lit (.int .u8 33), .lit (.int .u8 30), .lit (.int .u8 24), .lit (.int .u8 18), .lit (.int .u8 12), .lit (.int .u8 5), .lit (.int .u8 63), .lit (.int .u8 55), .lit (.int .u8 48), .lit (.int .u8 27), .lit (.int .u8 60), .lit (.int .u8 41), .lit (.int .u8 37), .lit (.int .u8 16), .lit (.int .u8 46), .lit (.int .u8 35), .lit (.int .u8 44), .lit (.int .u8 21), .lit (.int .u8 52), .lit (.int .u8 32), .lit (.int .u8 23), .lit (.int .u8 11), .lit (.int .u8 54), .lit (.int .u8 26), .lit (.int .u8 40), .lit (.int .u8 15), .lit (.int .u8 34), .lit (.int .u8 20), .lit (.int .u8 31), .lit (.int .u8 10), .lit (.int .u8 25), .lit (.int .u8 14), .lit (.int .u8 19), .lit (.int .u8 9), .lit (.int .u8 13), .lit (.int .u8 8), .lit (.int .u8 7), .lit (.int .u8 6)]

/-- 'censuslaw39.ExplainReasons': WHATEVER THE INPUT: true; the input reads as it did. -/
def explainReasonsSpec : ChangeSpec := { name := "explainReasons", fn := fun _ => fun
  | [d1, d2] => { results := [.lit (.bool true)], args := [d1, d2] }
  | _ => none }
def explainReasonsRow : OpenClaim := { program := "ytecdhmiamlgibaadoor", sum := "29810cbe7d2afc7de1d9e95043100e3ea14ddb2bcf71f61eee6117f8034a32e4", func := "census/censuslaw39.ExplainReasons", spec := "explainReasons", unfollowed := true, recurses := true, named := ["math/bits.deBruijn64tab"], apart := false, laid := [("math/bits.deBruijn64tab", laid_math_bits_deBruijn64tab)] }
def ExplainReasonsSaid : Prop := explainReasonsRow.holds Tryd.pinned (OpenSpec.ofChange explainReasonsSpec)

/-- ITS FALSE NEIGHBOUR: 'it returns false'. Refute it at one input. -/
def explainReasonsWrong : ChangeSpec := { name := "explainReasons", fn := fun _ => fun
  | [d1, d2] => { results := [.lit (.bool false)], args := [d1, d2] }
  | _ => none }
def ExplainReasonsWrongFalsely : Prop := explainReasonsRow.holds Tryd.pinned (OpenSpec.ofChange explainReasonsWrong)

/-- 'censuslaw39.ExplainMore': WHATEVER THE INPUT: true; the input reads as it did. -/
def explainMoreSpec : ChangeSpec := { name := "explainMore", fn := fun _ => fun
  | [d1, d2, d3, d4] => { results := [.lit (.bool true)], args := [d1, d2, d3, d4] }
  | _ => none }
def explainMoreRow : OpenClaim := { program := "ytecdhmiamlgibaadoor", sum := "29810cbe7d2afc7de1d9e95043100e3ea14ddb2bcf71f61eee6117f8034a32e4", func := "census/censuslaw39.ExplainMore", spec := "explainMore", unfollowed := true, recurses := true, named := ["math/bits.deBruijn64tab"], apart := false, laid := [("math/bits.deBruijn64tab", laid_math_bits_deBruijn64tab)] }
def ExplainMoreSaid : Prop := explainMoreRow.holds Tryd.pinned (OpenSpec.ofChange explainMoreSpec)

/-- ITS FALSE NEIGHBOUR: 'it returns false'. Refute it at one input. -/
def explainMoreWrong : ChangeSpec := { name := "explainMore", fn := fun _ => fun
  | [d1, d2, d3, d4] => { results := [.lit (.bool false)], args := [d1, d2, d3, d4] }
  | _ => none }
def ExplainMoreWrongFalsely : Prop := explainMoreRow.holds Tryd.pinned (OpenSpec.ofChange explainMoreWrong)

/-- 'censuslaw39.ExplainCovers': WHATEVER THE INPUT: true; the input reads as it did. -/
def explainCoversSpec : ChangeSpec := { name := "explainCovers", fn := fun _ => fun
  | [d1, d2, d3] => { results := [.lit (.bool true)], args := [d1, d2, d3] }
  | _ => none }
def explainCoversRow : OpenClaim := { program := "ytecdhmiamlgibaadoor", sum := "29810cbe7d2afc7de1d9e95043100e3ea14ddb2bcf71f61eee6117f8034a32e4", func := "census/censuslaw39.ExplainCovers", spec := "explainCovers", unfollowed := true, recurses := true, named := ["math/bits.deBruijn64tab"], apart := false, laid := [("math/bits.deBruijn64tab", laid_math_bits_deBruijn64tab)] }
def ExplainCoversSaid : Prop := explainCoversRow.holds Tryd.pinned (OpenSpec.ofChange explainCoversSpec)

/-- ITS FALSE NEIGHBOUR: 'it returns false'. Refute it at one input. -/
def explainCoversWrong : ChangeSpec := { name := "explainCovers", fn := fun _ => fun
  | [d1, d2, d3] => { results := [.lit (.bool false)], args := [d1, d2, d3] }
  | _ => none }
def ExplainCoversWrongFalsely : Prop := explainCoversRow.holds Tryd.pinned (OpenSpec.ofChange explainCoversWrong)

/-- 'censuslaw39.ExplainNecessary': WHATEVER THE INPUT: true; the input reads as it did. -/
def explainNecessarySpec : ChangeSpec := { name := "explainNecessary", fn := fun _ => fun
  | [d1, d2] => { results := [.lit (.bool true)], args := [d1, d2] }
  | _ => none }
def explainNecessaryRow : OpenClaim := { program := "ytecdhmiamlgibaadoor", sum := "29810cbe7d2afc7de1d9e95043100e3ea14ddb2bcf71f61eee6117f8034a32e4", func := "census/censuslaw39.ExplainNecessary", spec := "explainNecessary", unfollowed := true, recurses := true, named := ["math/bits.deBruijn64tab"], apart := false, laid := [("math/bits.deBruijn64tab", laid_math_bits_deBruijn64tab)] }
def ExplainNecessarySaid : Prop := explainNecessaryRow.holds Tryd.pinned (OpenSpec.ofChange explainNecessarySpec)

/-- ITS FALSE NEIGHBOUR: 'it returns false'. Refute it at one input. -/
def explainNecessaryWrong : ChangeSpec := { name := "explainNecessary", fn := fun _ => fun
  | [d1, d2] => { results := [.lit (.bool false)], args := [d1, d2] }
  | _ => none }
def ExplainNecessaryWrongFalsely : Prop := explainNecessaryRow.holds Tryd.pinned (OpenSpec.ofChange explainNecessaryWrong)

/-- 'censuslaw39.ExplainEnough': WHATEVER THE INPUT: true; the input reads as it did. -/
def explainEnoughSpec : ChangeSpec := { name := "explainEnough", fn := fun _ => fun
  | [d1, d2, d3] => { results := [.lit (.bool true)], args := [d1, d2, d3] }
  | _ => none }
def explainEnoughRow : OpenClaim := { program := "ytecdhmiamlgibaadoor", sum := "29810cbe7d2afc7de1d9e95043100e3ea14ddb2bcf71f61eee6117f8034a32e4", func := "census/censuslaw39.ExplainEnough", spec := "explainEnough", unfollowed := true, recurses := true, named := ["math/bits.deBruijn64tab"], apart := false, laid := [("math/bits.deBruijn64tab", laid_math_bits_deBruijn64tab)] }
def ExplainEnoughSaid : Prop := explainEnoughRow.holds Tryd.pinned (OpenSpec.ofChange explainEnoughSpec)

/-- ITS FALSE NEIGHBOUR: 'it returns false'. Refute it at one input. -/
def explainEnoughWrong : ChangeSpec := { name := "explainEnough", fn := fun _ => fun
  | [d1, d2, d3] => { results := [.lit (.bool false)], args := [d1, d2, d3] }
  | _ => none }
def ExplainEnoughWrongFalsely : Prop := explainEnoughRow.holds Tryd.pinned (OpenSpec.ofChange explainEnoughWrong)

/-- 'censuslaw39.ExplainBias': WHATEVER THE INPUT: true; the input reads as it did. -/
def explainBiasSpec : ChangeSpec := { name := "explainBias", fn := fun _ => fun
  | [d1, d2, d3] => { results := [.lit (.bool true)], args := [d1, d2, d3] }
  | _ => none }
def explainBiasRow : OpenClaim := { program := "ytecdhmiamlgibaadoor", sum := "29810cbe7d2afc7de1d9e95043100e3ea14ddb2bcf71f61eee6117f8034a32e4", func := "census/censuslaw39.ExplainBias", spec := "explainBias", unfollowed := true, recurses := true, named := ["math/bits.deBruijn64tab"], apart := false, laid := [("math/bits.deBruijn64tab", laid_math_bits_deBruijn64tab)] }
def ExplainBiasSaid : Prop := explainBiasRow.holds Tryd.pinned (OpenSpec.ofChange explainBiasSpec)

/-- ITS FALSE NEIGHBOUR: 'it returns false'. Refute it at one input. -/
def explainBiasWrong : ChangeSpec := { name := "explainBias", fn := fun _ => fun
  | [d1, d2, d3] => { results := [.lit (.bool false)], args := [d1, d2, d3] }
  | _ => none }
def ExplainBiasWrongFalsely : Prop := explainBiasRow.holds Tryd.pinned (OpenSpec.ofChange explainBiasWrong)

/-- 'censuslaw39.ExplainLong': WHATEVER THE INPUT: true; the input reads as it did. -/
def explainLongSpec : ChangeSpec := { name := "explainLong", fn := fun _ => fun
  | [d1, d2] => { results := [.lit (.bool true)], args := [d1, d2] }
  | _ => none }
def explainLongRow : OpenClaim := { program := "ytecdhmiamlgibaadoor", sum := "29810cbe7d2afc7de1d9e95043100e3ea14ddb2bcf71f61eee6117f8034a32e4", func := "census/censuslaw39.ExplainLong", spec := "explainLong", unfollowed := true, recurses := true, named := ["math/bits.deBruijn64tab"], apart := false, laid := [("math/bits.deBruijn64tab", laid_math_bits_deBruijn64tab)] }
def ExplainLongSaid : Prop := explainLongRow.holds Tryd.pinned (OpenSpec.ofChange explainLongSpec)

/-- ITS FALSE NEIGHBOUR: 'it returns false'. Refute it at one input. -/
def explainLongWrong : ChangeSpec := { name := "explainLong", fn := fun _ => fun
  | [d1, d2] => { results := [.lit (.bool false)], args := [d1, d2] }
  | _ => none }
def ExplainLongWrongFalsely : Prop := explainLongRow.holds Tryd.pinned (OpenSpec.ofChange explainLongWrong)

/-- 'censuslaw39.ExplainKnown': WHATEVER THE INPUT: true; the input reads as it did. -/
def explainKnownSpec : ChangeSpec := { name := "explainKnown", fn := fun _ => fun
  | [] => { results := [.lit (.bool true)], args := [] }
  | _ => none }
def explainKnownRow : OpenClaim := { program := "ytecdhmiamlgibaadoor", sum := "29810cbe7d2afc7de1d9e95043100e3ea14ddb2bcf71f61eee6117f8034a32e4", func := "census/censuslaw39.ExplainKnown", spec := "explainKnown", unfollowed := true, recurses := true, named := ["math/bits.deBruijn64tab"], apart := false, laid := [("math/bits.deBruijn64tab", laid_math_bits_deBruijn64tab)] }
def ExplainKnownSaid : Prop := explainKnownRow.holds Tryd.pinned (OpenSpec.ofChange explainKnownSpec)

/-- ITS FALSE NEIGHBOUR: 'it returns false'. Refute it at one input. -/
def explainKnownWrong : ChangeSpec := { name := "explainKnown", fn := fun _ => fun
  | [] => { results := [.lit (.bool false)], args := [] }
  | _ => none }
def ExplainKnownWrongFalsely : Prop := explainKnownRow.holds Tryd.pinned (OpenSpec.ofChange explainKnownWrong)

/-- 'censuslaw39.ExplainLeast': WHATEVER THE INPUT: true; the input reads as it did. -/
def explainLeastSpec : ChangeSpec := { name := "explainLeast", fn := fun _ => fun
  | [d1, d2, d3] => { results := [.lit (.bool true)], args := [d1, d2, d3] }
  | _ => none }
def explainLeastRow : OpenClaim := { program := "ytecdhmiamlgibaadoor", sum := "29810cbe7d2afc7de1d9e95043100e3ea14ddb2bcf71f61eee6117f8034a32e4", func := "census/censuslaw39.ExplainLeast", spec := "explainLeast", unfollowed := true, recurses := true, named := ["math/bits.deBruijn64tab"], apart := false, laid := [("math/bits.deBruijn64tab", laid_math_bits_deBruijn64tab)] }
def ExplainLeastSaid : Prop := explainLeastRow.holds Tryd.pinned (OpenSpec.ofChange explainLeastSpec)

/-- ITS FALSE NEIGHBOUR: 'it returns false'. Refute it at one input. -/
def explainLeastWrong : ChangeSpec := { name := "explainLeast", fn := fun _ => fun
  | [d1, d2, d3] => { results := [.lit (.bool false)], args := [d1, d2, d3] }
  | _ => none }
def ExplainLeastWrongFalsely : Prop := explainLeastRow.holds Tryd.pinned (OpenSpec.ofChange explainLeastWrong)

/- THE SECOND FORM. 'bulk': how many values and letters a reading holds, each counted each time it is reached (what is shared counts as often as it is met; a slice's spare places count too). A statement '..UptoSaid' is the law's where the arguments, and the package variables that the reading takes, are together of bulk at most 1048576: NARROWER than '..Said'. Prove '..Said' where nothing that the law and all that it calls make is longer than what came in: it says more and counts as full. Else prove '..UptoSaid'. A law counts once. -/
mutual
def uptoBulk {H : Type} : DataW H → Nat
  | .lit (.string bytes) => bytes.length + 1
  | .lit _ => 1
  | .nil => 1
  | .ptr d => uptoBulk d + 1
  | .slice elems spare => uptoBulkAll elems + uptoBulkAll spare + 1
  | .agg parts => uptoBulkAll parts + 1
  | .iface _ d => uptoBulk d + 1
  | .map entries => uptoBulkEntries entries + 1
  | .held _ => 1
def uptoBulkAll {H : Type} : List (DataW H) → Nat
  | [] => 0
  | d :: r => uptoBulk d + uptoBulkAll r
def uptoBulkEntries {H : Type} : List (Lit × DataW H) → Nat
  | [] => 0
  | x :: r => uptoBulkEntry x + uptoBulkEntries r
def uptoBulkEntry {H : Type} : Lit × DataW H → Nat
  | (.string bytes, d) => bytes.length + uptoBulk d + 1
  | (_, d) => uptoBulk d + 1
 end
def uptoSmall : (H : Type) → List (DataW H) → Bool := fun _ ds => decide (uptoBulkAll ds ≤ 1048576)
def OpenSpec.upto (s : _root_.Go.ChangeSpec) : _root_.Go.OpenSpec := { _root_.Go.OpenSpec.ofChange s with cond := some uptoSmall }

/-- 'censuslaw39.ExplainReasons', WHERE WHAT IT READS IS OF BULK AT MOST 1048576: true; the input reads as it did. -/
def explainReasonsUptoRow : OpenClaim := { program := "ytecdhmiamlgibaadoor", sum := "29810cbe7d2afc7de1d9e95043100e3ea14ddb2bcf71f61eee6117f8034a32e4", func := "census/censuslaw39.ExplainReasons", spec := "explainReasons", unfollowed := true, recurses := true, named := ["math/bits.deBruijn64tab"], apart := false, laid := [("math/bits.deBruijn64tab", laid_math_bits_deBruijn64tab)], narrowed := true }
def ExplainReasonsUptoSaid : Prop := explainReasonsUptoRow.holds Tryd.pinned (OpenSpec.upto explainReasonsSpec)

/-- 'censuslaw39.ExplainMore', WHERE WHAT IT READS IS OF BULK AT MOST 1048576: true; the input reads as it did. -/
def explainMoreUptoRow : OpenClaim := { program := "ytecdhmiamlgibaadoor", sum := "29810cbe7d2afc7de1d9e95043100e3ea14ddb2bcf71f61eee6117f8034a32e4", func := "census/censuslaw39.ExplainMore", spec := "explainMore", unfollowed := true, recurses := true, named := ["math/bits.deBruijn64tab"], apart := false, laid := [("math/bits.deBruijn64tab", laid_math_bits_deBruijn64tab)], narrowed := true }
def ExplainMoreUptoSaid : Prop := explainMoreUptoRow.holds Tryd.pinned (OpenSpec.upto explainMoreSpec)

/-- 'censuslaw39.ExplainCovers', WHERE WHAT IT READS IS OF BULK AT MOST 1048576: true; the input reads as it did. -/
def explainCoversUptoRow : OpenClaim := { program := "ytecdhmiamlgibaadoor", sum := "29810cbe7d2afc7de1d9e95043100e3ea14ddb2bcf71f61eee6117f8034a32e4", func := "census/censuslaw39.ExplainCovers", spec := "explainCovers", unfollowed := true, recurses := true, named := ["math/bits.deBruijn64tab"], apart := false, laid := [("math/bits.deBruijn64tab", laid_math_bits_deBruijn64tab)], narrowed := true }
def ExplainCoversUptoSaid : Prop := explainCoversUptoRow.holds Tryd.pinned (OpenSpec.upto explainCoversSpec)

/-- 'censuslaw39.ExplainNecessary', WHERE WHAT IT READS IS OF BULK AT MOST 1048576: true; the input reads as it did. -/
def explainNecessaryUptoRow : OpenClaim := { program := "ytecdhmiamlgibaadoor", sum := "29810cbe7d2afc7de1d9e95043100e3ea14ddb2bcf71f61eee6117f8034a32e4", func := "census/censuslaw39.ExplainNecessary", spec := "explainNecessary", unfollowed := true, recurses := true, named := ["math/bits.deBruijn64tab"], apart := false, laid := [("math/bits.deBruijn64tab", laid_math_bits_deBruijn64tab)], narrowed := true }
def ExplainNecessaryUptoSaid : Prop := explainNecessaryUptoRow.holds Tryd.pinned (OpenSpec.upto explainNecessarySpec)

/-- 'censuslaw39.ExplainEnough', WHERE WHAT IT READS IS OF BULK AT MOST 1048576: true; the input reads as it did. -/
def explainEnoughUptoRow : OpenClaim := { program := "ytecdhmiamlgibaadoor", sum := "29810cbe7d2afc7de1d9e95043100e3ea14ddb2bcf71f61eee6117f8034a32e4", func := "census/censuslaw39.ExplainEnough", spec := "explainEnough", unfollowed := true, recurses := true, named := ["math/bits.deBruijn64tab"], apart := false, laid := [("math/bits.deBruijn64tab", laid_math_bits_deBruijn64tab)], narrowed := true }
def ExplainEnoughUptoSaid : Prop := explainEnoughUptoRow.holds Tryd.pinned (OpenSpec.upto explainEnoughSpec)

/-- 'censuslaw39.ExplainBias', WHERE WHAT IT READS IS OF BULK AT MOST 1048576: true; the input reads as it did. -/
def explainBiasUptoRow : OpenClaim := { program := "ytecdhmiamlgibaadoor", sum := "29810cbe7d2afc7de1d9e95043100e3ea14ddb2bcf71f61eee6117f8034a32e4", func := "census/censuslaw39.ExplainBias", spec := "explainBias", unfollowed := true, recurses := true, named := ["math/bits.deBruijn64tab"], apart := false, laid := [("math/bits.deBruijn64tab", laid_math_bits_deBruijn64tab)], narrowed := true }
def ExplainBiasUptoSaid : Prop := explainBiasUptoRow.holds Tryd.pinned (OpenSpec.upto explainBiasSpec)

/-- 'censuslaw39.ExplainLong', WHERE WHAT IT READS IS OF BULK AT MOST 1048576: true; the input reads as it did. -/
def explainLongUptoRow : OpenClaim := { program := "ytecdhmiamlgibaadoor", sum := "29810cbe7d2afc7de1d9e95043100e3ea14ddb2bcf71f61eee6117f8034a32e4", func := "census/censuslaw39.ExplainLong", spec := "explainLong", unfollowed := true, recurses := true, named := ["math/bits.deBruijn64tab"], apart := false, laid := [("math/bits.deBruijn64tab", laid_math_bits_deBruijn64tab)], narrowed := true }
def ExplainLongUptoSaid : Prop := explainLongUptoRow.holds Tryd.pinned (OpenSpec.upto explainLongSpec)

/-- 'censuslaw39.ExplainKnown', WHERE WHAT IT READS IS OF BULK AT MOST 1048576: true; the input reads as it did. -/
def explainKnownUptoRow : OpenClaim := { program := "ytecdhmiamlgibaadoor", sum := "29810cbe7d2afc7de1d9e95043100e3ea14ddb2bcf71f61eee6117f8034a32e4", func := "census/censuslaw39.ExplainKnown", spec := "explainKnown", unfollowed := true, recurses := true, named := ["math/bits.deBruijn64tab"], apart := false, laid := [("math/bits.deBruijn64tab", laid_math_bits_deBruijn64tab)], narrowed := true }
def ExplainKnownUptoSaid : Prop := explainKnownUptoRow.holds Tryd.pinned (OpenSpec.upto explainKnownSpec)

/-- 'censuslaw39.ExplainLeast', WHERE WHAT IT READS IS OF BULK AT MOST 1048576: true; the input reads as it did. -/
def explainLeastUptoRow : OpenClaim := { program := "ytecdhmiamlgibaadoor", sum := "29810cbe7d2afc7de1d9e95043100e3ea14ddb2bcf71f61eee6117f8034a32e4", func := "census/censuslaw39.ExplainLeast", spec := "explainLeast", unfollowed := true, recurses := true, named := ["math/bits.deBruijn64tab"], apart := false, laid := [("math/bits.deBruijn64tab", laid_math_bits_deBruijn64tab)], narrowed := true }
def ExplainLeastUptoSaid : Prop := explainLeastUptoRow.holds Tryd.pinned (OpenSpec.upto explainLeastSpec)

end Rows
end Go.Proofs.YtecdhmiamlgibaaDoor
