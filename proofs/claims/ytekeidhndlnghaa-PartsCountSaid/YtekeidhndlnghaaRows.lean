/-
  No cell of these rows narrows 'for every input' (looked for: loops, veiled, ifaces, maps, wideKeys, modest, calm, conditions, laid).
  DERIVED. THE GIVEN ROWS OF THIS SEAT. 7 by the template 'for every input the law returns true; each argument reads behind the call as it read before'; 0 by the template 'total and deterministic' (their statements: YtekeidhndlnghaaTotals.lean).
  GIVEN WITH THE SEED: the statements are not yours to turn. If you find one false, say at which input.
  Laid BY PROGRAM, IN A SANDBOX (cutbox-rows.mjs): the forced cells as the released guide's own fill.sh prints them over the translation 8177caab4878cceb… (all of the seat's roots in one cut). By AI agents, Wed Nov 11 2026. No macro, syntax, notation, axiom, sorry.
-/
import Derived.Test.YtekeidhndlnghaaChecked
import GoSem.Claim
import GoSem.ClaimJoined
import GoSem.ClaimMapViews
import Derived.JoinedTies
import Derived.KernelRfl
namespace Go.Proofs.Ytekeidhndlnghaa
/- THE CELL 'sum', in the pinned program and in every row, IS THE sha256 OF THE DUMP (.gsa) THAT YtekeidhndlnghaaProg.lean LOADS. Nothing in Lean hashes anything: it is a label: what it is worth is what the hold of that sum in a sandbox is worth. -/
noncomputable def Try.pinned : Pinned := { name := "ytekeidhndlnghaa", sum := "8177caab4878ccebfcfaf2d97a4320bd4f83ec21054726ed9375e4863cc6d969", checked := Try.checked }
namespace Rows
def none {H : Type} : Left H := { results := [], args := [] }

/-- 'censuslaw16.PartsSplit': WHATEVER THE INPUT: true; the input reads as it did. -/
def partsSplitSpec : ChangeSpec := { name := "partsSplit", fn := fun _ => fun
  | [d1, d2] => { results := [.lit (.bool true)], args := [d1, d2] }
  | _ => none }
def partsSplitRow : OpenClaim := { program := "ytekeidhndlnghaa", sum := "8177caab4878ccebfcfaf2d97a4320bd4f83ec21054726ed9375e4863cc6d969", func := "census/censuslaw16.PartsSplit", spec := "partsSplit", unfollowed := true, recurses := true, apart := false }
def PartsSplitSaid : Prop := partsSplitRow.holds Try.pinned (OpenSpec.ofChange partsSplitSpec)

/-- ITS FALSE NEIGHBOUR: 'it returns false'. Refute it at one input. -/
def partsSplitWrong : ChangeSpec := { name := "partsSplit", fn := fun _ => fun
  | [d1, d2] => { results := [.lit (.bool false)], args := [d1, d2] }
  | _ => none }
def PartsSplitWrongFalsely : Prop := partsSplitRow.holds Try.pinned (OpenSpec.ofChange partsSplitWrong)

/-- 'censuslaw16.PartsAlone': WHATEVER THE INPUT: true; the input reads as it did. -/
def partsAloneSpec : ChangeSpec := { name := "partsAlone", fn := fun _ => fun
  | [d1, d2, d3, d4] => { results := [.lit (.bool true)], args := [d1, d2, d3, d4] }
  | _ => none }
def partsAloneRow : OpenClaim := { program := "ytekeidhndlnghaa", sum := "8177caab4878ccebfcfaf2d97a4320bd4f83ec21054726ed9375e4863cc6d969", func := "census/censuslaw16.PartsAlone", spec := "partsAlone", unfollowed := true, recurses := true, apart := false }
def PartsAloneSaid : Prop := partsAloneRow.holds Try.pinned (OpenSpec.ofChange partsAloneSpec)

/-- ITS FALSE NEIGHBOUR: 'it returns false'. Refute it at one input. -/
def partsAloneWrong : ChangeSpec := { name := "partsAlone", fn := fun _ => fun
  | [d1, d2, d3, d4] => { results := [.lit (.bool false)], args := [d1, d2, d3, d4] }
  | _ => none }
def PartsAloneWrongFalsely : Prop := partsAloneRow.holds Try.pinned (OpenSpec.ofChange partsAloneWrong)

/-- 'censuslaw16.PartsDivide': WHATEVER THE INPUT: true; the input reads as it did. -/
def partsDivideSpec : ChangeSpec := { name := "partsDivide", fn := fun _ => fun
  | [d1, d2] => { results := [.lit (.bool true)], args := [d1, d2] }
  | _ => none }
def partsDivideRow : OpenClaim := { program := "ytekeidhndlnghaa", sum := "8177caab4878ccebfcfaf2d97a4320bd4f83ec21054726ed9375e4863cc6d969", func := "census/censuslaw16.PartsDivide", spec := "partsDivide", unfollowed := true, recurses := true, apart := false }
def PartsDivideSaid : Prop := partsDivideRow.holds Try.pinned (OpenSpec.ofChange partsDivideSpec)

/-- ITS FALSE NEIGHBOUR: 'it returns false'. Refute it at one input. -/
def partsDivideWrong : ChangeSpec := { name := "partsDivide", fn := fun _ => fun
  | [d1, d2] => { results := [.lit (.bool false)], args := [d1, d2] }
  | _ => none }
def PartsDivideWrongFalsely : Prop := partsDivideRow.holds Try.pinned (OpenSpec.ofChange partsDivideWrong)

/-- 'censuslaw16.PartsCount': WHATEVER THE INPUT: true; the input reads as it did. -/
def partsCountSpec : ChangeSpec := { name := "partsCount", fn := fun _ => fun
  | [d1, d2] => { results := [.lit (.bool true)], args := [d1, d2] }
  | _ => none }
def partsCountRow : OpenClaim := { program := "ytekeidhndlnghaa", sum := "8177caab4878ccebfcfaf2d97a4320bd4f83ec21054726ed9375e4863cc6d969", func := "census/censuslaw16.PartsCount", spec := "partsCount", unfollowed := true, recurses := true, apart := false }
def PartsCountSaid : Prop := partsCountRow.holds Try.pinned (OpenSpec.ofChange partsCountSpec)

/-- ITS FALSE NEIGHBOUR: 'it returns false'. Refute it at one input. -/
def partsCountWrong : ChangeSpec := { name := "partsCount", fn := fun _ => fun
  | [d1, d2] => { results := [.lit (.bool false)], args := [d1, d2] }
  | _ => none }
def PartsCountWrongFalsely : Prop := partsCountRow.holds Try.pinned (OpenSpec.ofChange partsCountWrong)

/-- 'censuslaw16.PartsWhole': WHATEVER THE INPUT: true; the input reads as it did. -/
def partsWholeSpec : ChangeSpec := { name := "partsWhole", fn := fun _ => fun
  | [d1, d2] => { results := [.lit (.bool true)], args := [d1, d2] }
  | _ => none }
def partsWholeRow : OpenClaim := { program := "ytekeidhndlnghaa", sum := "8177caab4878ccebfcfaf2d97a4320bd4f83ec21054726ed9375e4863cc6d969", func := "census/censuslaw16.PartsWhole", spec := "partsWhole", unfollowed := true, recurses := true, apart := false }
def PartsWholeSaid : Prop := partsWholeRow.holds Try.pinned (OpenSpec.ofChange partsWholeSpec)

/-- ITS FALSE NEIGHBOUR: 'it returns false'. Refute it at one input. -/
def partsWholeWrong : ChangeSpec := { name := "partsWhole", fn := fun _ => fun
  | [d1, d2] => { results := [.lit (.bool false)], args := [d1, d2] }
  | _ => none }
def PartsWholeWrongFalsely : Prop := partsWholeRow.holds Try.pinned (OpenSpec.ofChange partsWholeWrong)

/-- 'censuslaw16.PartsTerms': WHATEVER THE INPUT: true; the input reads as it did. -/
def partsTermsSpec : ChangeSpec := { name := "partsTerms", fn := fun _ => fun
  | [d1, d2, d3] => { results := [.lit (.bool true)], args := [d1, d2, d3] }
  | _ => none }
def partsTermsRow : OpenClaim := { program := "ytekeidhndlnghaa", sum := "8177caab4878ccebfcfaf2d97a4320bd4f83ec21054726ed9375e4863cc6d969", func := "census/censuslaw16.PartsTerms", spec := "partsTerms", unfollowed := true, recurses := true, apart := false }
def PartsTermsSaid : Prop := partsTermsRow.holds Try.pinned (OpenSpec.ofChange partsTermsSpec)

/-- ITS FALSE NEIGHBOUR: 'it returns false'. Refute it at one input. -/
def partsTermsWrong : ChangeSpec := { name := "partsTerms", fn := fun _ => fun
  | [d1, d2, d3] => { results := [.lit (.bool false)], args := [d1, d2, d3] }
  | _ => none }
def PartsTermsWrongFalsely : Prop := partsTermsRow.holds Try.pinned (OpenSpec.ofChange partsTermsWrong)

/-- 'censuslaw16.PartsKnown': WHATEVER THE INPUT: true; the input reads as it did. -/
def partsKnownSpec : ChangeSpec := { name := "partsKnown", fn := fun _ => fun
  | [] => { results := [.lit (.bool true)], args := [] }
  | _ => none }
def partsKnownRow : OpenClaim := { program := "ytekeidhndlnghaa", sum := "8177caab4878ccebfcfaf2d97a4320bd4f83ec21054726ed9375e4863cc6d969", func := "census/censuslaw16.PartsKnown", spec := "partsKnown", unfollowed := true, recurses := true, apart := false }
def PartsKnownSaid : Prop := partsKnownRow.holds Try.pinned (OpenSpec.ofChange partsKnownSpec)

/-- ITS FALSE NEIGHBOUR: 'it returns false'. Refute it at one input. -/
def partsKnownWrong : ChangeSpec := { name := "partsKnown", fn := fun _ => fun
  | [] => { results := [.lit (.bool false)], args := [] }
  | _ => none }
def PartsKnownWrongFalsely : Prop := partsKnownRow.holds Try.pinned (OpenSpec.ofChange partsKnownWrong)

/- THE SECOND FORM. 'bulk': how many values and letters a reading holds, each counted each time it is reached (what is shared counts as often as it is met; a slice's spare places count too). A statement '..UptoSaid' is the law's where the arguments, and the package variables that the reading takes, are together of bulk at most 1048576: NARROWER than '..Said'. Prove '..Said' where nothing that the law and all that it calls make is longer than what came in: it says more and counts as full. Else prove '..UptoSaid'. A law counts once. -/
mutual
def uptoBulk {H : Type} : DataW H → Nat
  | .lit (.string bytes) => bytes.length + 1
  | .lit _ => 1
  | .nil => 1
  | .ptr d => uptoBulk d + 1
  | .slice elems spare => uptoBulkAll elems + uptoBulkAll spare + 1
  | .agg parts => uptoBulkAll parts + 1
  | .iface _ d => uptoBulk d + 1
  | .map entries => uptoBulkEntries entries + 1
  | .held _ => 1
def uptoBulkAll {H : Type} : List (DataW H) → Nat
  | [] => 0
  | d :: r => uptoBulk d + uptoBulkAll r
def uptoBulkEntries {H : Type} : List (Lit × DataW H) → Nat
  | [] => 0
  | x :: r => uptoBulkEntry x + uptoBulkEntries r
def uptoBulkEntry {H : Type} : Lit × DataW H → Nat
  | (.string bytes, d) => bytes.length + uptoBulk d + 1
  | (_, d) => uptoBulk d + 1
 end
def uptoSmall : (H : Type) → List (DataW H) → Bool := fun _ ds => decide (uptoBulkAll ds ≤ 1048576)
def OpenSpec.upto (s : _root_.Go.ChangeSpec) : _root_.Go.OpenSpec := { _root_.Go.OpenSpec.ofChange s with cond := some uptoSmall }

/-- 'censuslaw16.PartsSplit', WHERE WHAT IT READS IS OF BULK AT MOST 1048576: true; the input reads as it did. -/
def partsSplitUptoRow : OpenClaim := { program := "ytekeidhndlnghaa", sum := "8177caab4878ccebfcfaf2d97a4320bd4f83ec21054726ed9375e4863cc6d969", func := "census/censuslaw16.PartsSplit", spec := "partsSplit", unfollowed := true, recurses := true, apart := false, narrowed := true }
def PartsSplitUptoSaid : Prop := partsSplitUptoRow.holds Try.pinned (OpenSpec.upto partsSplitSpec)

/-- 'censuslaw16.PartsAlone', WHERE WHAT IT READS IS OF BULK AT MOST 1048576: true; the input reads as it did. -/
def partsAloneUptoRow : OpenClaim := { program := "ytekeidhndlnghaa", sum := "8177caab4878ccebfcfaf2d97a4320bd4f83ec21054726ed9375e4863cc6d969", func := "census/censuslaw16.PartsAlone", spec := "partsAlone", unfollowed := true, recurses := true, apart := false, narrowed := true }
def PartsAloneUptoSaid : Prop := partsAloneUptoRow.holds Try.pinned (OpenSpec.upto partsAloneSpec)

/-- 'censuslaw16.PartsDivide', WHERE WHAT IT READS IS OF BULK AT MOST 1048576: true; the input reads as it did. -/
def partsDivideUptoRow : OpenClaim := { program := "ytekeidhndlnghaa", sum := "8177caab4878ccebfcfaf2d97a4320bd4f83ec21054726ed9375e4863cc6d969", func := "census/censuslaw16.PartsDivide", spec := "partsDivide", unfollowed := true, recurses := true, apart := false, narrowed := true }
def PartsDivideUptoSaid : Prop := partsDivideUptoRow.holds Try.pinned (OpenSpec.upto partsDivideSpec)

/-- 'censuslaw16.PartsCount', WHERE WHAT IT READS IS OF BULK AT MOST 1048576: true; the input reads as it did. -/
def partsCountUptoRow : OpenClaim := { program := "ytekeidhndlnghaa", sum := "8177caab4878ccebfcfaf2d97a4320bd4f83ec21054726ed9375e4863cc6d969", func := "census/censuslaw16.PartsCount", spec := "partsCount", unfollowed := true, recurses := true, apart := false, narrowed := true }
def PartsCountUptoSaid : Prop := partsCountUptoRow.holds Try.pinned (OpenSpec.upto partsCountSpec)

/-- 'censuslaw16.PartsWhole', WHERE WHAT IT READS IS OF BULK AT MOST 1048576: true; the input reads as it did. -/
def partsWholeUptoRow : OpenClaim := { program := "ytekeidhndlnghaa", sum := "8177caab4878ccebfcfaf2d97a4320bd4f83ec21054726ed9375e4863cc6d969", func := "census/censuslaw16.PartsWhole", spec := "partsWhole", unfollowed := true, recurses := true, apart := false, narrowed := true }
def PartsWholeUptoSaid : Prop := partsWholeUptoRow.holds Try.pinned (OpenSpec.upto partsWholeSpec)

/-- 'censuslaw16.PartsTerms', WHERE WHAT IT READS IS OF BULK AT MOST 1048576: true; the input reads as it did. -/
def partsTermsUptoRow : OpenClaim := { program := "ytekeidhndlnghaa", sum := "8177caab4878ccebfcfaf2d97a4320bd4f83ec21054726ed9375e4863cc6d969", func := "census/censuslaw16.PartsTerms", spec := "partsTerms", unfollowed := true, recurses := true, apart := false, narrowed := true }
def PartsTermsUptoSaid : Prop := partsTermsUptoRow.holds Try.pinned (OpenSpec.upto partsTermsSpec)

/-- 'censuslaw16.PartsKnown', WHERE WHAT IT READS IS OF BULK AT MOST 1048576: true; the input reads as it did. -/
def partsKnownUptoRow : OpenClaim := { program := "ytekeidhndlnghaa", sum := "8177caab4878ccebfcfaf2d97a4320bd4f83ec21054726ed9375e4863cc6d969", func := "census/censuslaw16.PartsKnown", spec := "partsKnown", unfollowed := true, recurses := true, apart := false, narrowed := true }
def PartsKnownUptoSaid : Prop := partsKnownUptoRow.holds Try.pinned (OpenSpec.upto partsKnownSpec)

end Rows
end Go.Proofs.Ytekeidhndlnghaa
