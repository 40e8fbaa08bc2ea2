/-
  No cell of these rows narrows 'for every input' (looked for: loops, veiled, ifaces, maps, wideKeys, modest, calm, conditions, laid).
  DERIVED. THE GIVEN ROWS OF THIS SEAT. 10 by the template 'for every input the law returns true; each argument reads behind the call as it read before'; 0 by the template 'total and deterministic' (their statements: YthdjgcjpolpgdaaTotals.lean).
  GIVEN WITH THE SEED: the statements are not yours to turn. If you find one false, say at which input.
  Laid BY PROGRAM, IN A SANDBOX (cutbox-rows.mjs): the forced cells as the released guide's own fill.sh prints them over the translation e57210de965e1566… (all of the seat's roots in one cut). By AI agents, Wed Nov 11 2026. No macro, syntax, notation, axiom, sorry.
-/
import Derived.Test.YthdjgcjpolpgdaaChecked
import GoSem.Claim
import GoSem.ClaimJoined
import GoSem.ClaimMapViews
import Derived.JoinedTies
import Derived.KernelRfl
namespace Go.Proofs.Ythdjgcjpolpgdaa
/- THE CELL 'sum', in the pinned program and in every row, IS THE sha256 OF THE DUMP (.gsa) THAT YthdjgcjpolpgdaaProg.lean LOADS. Nothing in Lean hashes anything: it is a label: what it is worth is what the hold of that sum in a sandbox is worth. -/
noncomputable def Try.pinned : Pinned := { name := "ythdjgcjpolpgdaa", sum := "e57210de965e1566c72aeea287ca234ce28efc0184070969e33ce0bc783d2d07", checked := Try.checked }
namespace Rows
def none {H : Type} : Left H := { results := [], args := [] }

/-- 'censuslaw22.TraceResiduals': WHATEVER THE INPUT: true; the input reads as it did. -/
def traceResidualsSpec : ChangeSpec := { name := "traceResiduals", fn := fun _ => fun
  | [d1, d2] => { results := [.lit (.bool true)], args := [d1, d2] }
  | _ => none }
def traceResidualsRow : OpenClaim := { program := "ythdjgcjpolpgdaa", sum := "e57210de965e1566c72aeea287ca234ce28efc0184070969e33ce0bc783d2d07", func := "census/censuslaw22.TraceResiduals", spec := "traceResiduals", unfollowed := true, recurses := true, apart := false }
def TraceResidualsSaid : Prop := traceResidualsRow.holds Try.pinned (OpenSpec.ofChange traceResidualsSpec)

/-- ITS FALSE NEIGHBOUR: 'it returns false'. Refute it at one input. -/
def traceResidualsWrong : ChangeSpec := { name := "traceResiduals", fn := fun _ => fun
  | [d1, d2] => { results := [.lit (.bool false)], args := [d1, d2] }
  | _ => none }
def TraceResidualsWrongFalsely : Prop := traceResidualsRow.holds Try.pinned (OpenSpec.ofChange traceResidualsWrong)

/-- 'censuslaw22.TraceWrites': WHATEVER THE INPUT: true; the input reads as it did. -/
def traceWritesSpec : ChangeSpec := { name := "traceWrites", fn := fun _ => fun
  | [d] => { results := [.lit (.bool true)], args := [d] }
  | _ => none }
def traceWritesRow : OpenClaim := { program := "ythdjgcjpolpgdaa", sum := "e57210de965e1566c72aeea287ca234ce28efc0184070969e33ce0bc783d2d07", func := "census/censuslaw22.TraceWrites", spec := "traceWrites", unfollowed := true, recurses := true, apart := false }
def TraceWritesSaid : Prop := traceWritesRow.holds Try.pinned (OpenSpec.ofChange traceWritesSpec)

/-- ITS FALSE NEIGHBOUR: 'it returns false'. Refute it at one input. -/
def traceWritesWrong : ChangeSpec := { name := "traceWrites", fn := fun _ => fun
  | [d] => { results := [.lit (.bool false)], args := [d] }
  | _ => none }
def TraceWritesWrongFalsely : Prop := traceWritesRow.holds Try.pinned (OpenSpec.ofChange traceWritesWrong)

/-- 'censuslaw22.TraceWhole': WHATEVER THE INPUT: true; the input reads as it did. -/
def traceWholeSpec : ChangeSpec := { name := "traceWhole", fn := fun _ => fun
  | [d] => { results := [.lit (.bool true)], args := [d] }
  | _ => none }
def traceWholeRow : OpenClaim := { program := "ythdjgcjpolpgdaa", sum := "e57210de965e1566c72aeea287ca234ce28efc0184070969e33ce0bc783d2d07", func := "census/censuslaw22.TraceWhole", spec := "traceWhole", unfollowed := true, recurses := true, apart := false }
def TraceWholeSaid : Prop := traceWholeRow.holds Try.pinned (OpenSpec.ofChange traceWholeSpec)

/-- ITS FALSE NEIGHBOUR: 'it returns false'. Refute it at one input. -/
def traceWholeWrong : ChangeSpec := { name := "traceWhole", fn := fun _ => fun
  | [d] => { results := [.lit (.bool false)], args := [d] }
  | _ => none }
def TraceWholeWrongFalsely : Prop := traceWholeRow.holds Try.pinned (OpenSpec.ofChange traceWholeWrong)

/-- 'censuslaw22.TraceLeaves': WHATEVER THE INPUT: true; the input reads as it did. -/
def traceLeavesSpec : ChangeSpec := { name := "traceLeaves", fn := fun _ => fun
  | [d1, d2] => { results := [.lit (.bool true)], args := [d1, d2] }
  | _ => none }
def traceLeavesRow : OpenClaim := { program := "ythdjgcjpolpgdaa", sum := "e57210de965e1566c72aeea287ca234ce28efc0184070969e33ce0bc783d2d07", func := "census/censuslaw22.TraceLeaves", spec := "traceLeaves", unfollowed := true, recurses := true, apart := false }
def TraceLeavesSaid : Prop := traceLeavesRow.holds Try.pinned (OpenSpec.ofChange traceLeavesSpec)

/-- ITS FALSE NEIGHBOUR: 'it returns false'. Refute it at one input. -/
def traceLeavesWrong : ChangeSpec := { name := "traceLeaves", fn := fun _ => fun
  | [d1, d2] => { results := [.lit (.bool false)], args := [d1, d2] }
  | _ => none }
def TraceLeavesWrongFalsely : Prop := traceLeavesRow.holds Try.pinned (OpenSpec.ofChange traceLeavesWrong)

/-- 'censuslaw22.TraceMore': WHATEVER THE INPUT: true; the input reads as it did. -/
def traceMoreSpec : ChangeSpec := { name := "traceMore", fn := fun _ => fun
  | [d1, d2, d3] => { results := [.lit (.bool true)], args := [d1, d2, d3] }
  | _ => none }
def traceMoreRow : OpenClaim := { program := "ythdjgcjpolpgdaa", sum := "e57210de965e1566c72aeea287ca234ce28efc0184070969e33ce0bc783d2d07", func := "census/censuslaw22.TraceMore", spec := "traceMore", unfollowed := true, recurses := true, apart := false }
def TraceMoreSaid : Prop := traceMoreRow.holds Try.pinned (OpenSpec.ofChange traceMoreSpec)

/-- ITS FALSE NEIGHBOUR: 'it returns false'. Refute it at one input. -/
def traceMoreWrong : ChangeSpec := { name := "traceMore", fn := fun _ => fun
  | [d1, d2, d3] => { results := [.lit (.bool false)], args := [d1, d2, d3] }
  | _ => none }
def TraceMoreWrongFalsely : Prop := traceMoreRow.holds Try.pinned (OpenSpec.ofChange traceMoreWrong)

/-- 'censuslaw22.TraceSays': WHATEVER THE INPUT: true; the input reads as it did. -/
def traceSaysSpec : ChangeSpec := { name := "traceSays", fn := fun _ => fun
  | [d1, d2, d3] => { results := [.lit (.bool true)], args := [d1, d2, d3] }
  | _ => none }
def traceSaysRow : OpenClaim := { program := "ythdjgcjpolpgdaa", sum := "e57210de965e1566c72aeea287ca234ce28efc0184070969e33ce0bc783d2d07", func := "census/censuslaw22.TraceSays", spec := "traceSays", unfollowed := true, recurses := true, apart := false }
def TraceSaysSaid : Prop := traceSaysRow.holds Try.pinned (OpenSpec.ofChange traceSaysSpec)

/-- ITS FALSE NEIGHBOUR: 'it returns false'. Refute it at one input. -/
def traceSaysWrong : ChangeSpec := { name := "traceSays", fn := fun _ => fun
  | [d1, d2, d3] => { results := [.lit (.bool false)], args := [d1, d2, d3] }
  | _ => none }
def TraceSaysWrongFalsely : Prop := traceSaysRow.holds Try.pinned (OpenSpec.ofChange traceSaysWrong)

/-- 'censuslaw22.TraceReads': WHATEVER THE INPUT: true; the input reads as it did. -/
def traceReadsSpec : ChangeSpec := { name := "traceReads", fn := fun _ => fun
  | [d] => { results := [.lit (.bool true)], args := [d] }
  | _ => none }
def traceReadsRow : OpenClaim := { program := "ythdjgcjpolpgdaa", sum := "e57210de965e1566c72aeea287ca234ce28efc0184070969e33ce0bc783d2d07", func := "census/censuslaw22.TraceReads", spec := "traceReads", unfollowed := true, recurses := true, apart := false }
def TraceReadsSaid : Prop := traceReadsRow.holds Try.pinned (OpenSpec.ofChange traceReadsSpec)

/-- ITS FALSE NEIGHBOUR: 'it returns false'. Refute it at one input. -/
def traceReadsWrong : ChangeSpec := { name := "traceReads", fn := fun _ => fun
  | [d] => { results := [.lit (.bool false)], args := [d] }
  | _ => none }
def TraceReadsWrongFalsely : Prop := traceReadsRow.holds Try.pinned (OpenSpec.ofChange traceReadsWrong)

/-- 'censuslaw22.TraceBack': WHATEVER THE INPUT: true; the input reads as it did. -/
def traceBackSpec : ChangeSpec := { name := "traceBack", fn := fun _ => fun
  | [d1, d2] => { results := [.lit (.bool true)], args := [d1, d2] }
  | _ => none }
def traceBackRow : OpenClaim := { program := "ythdjgcjpolpgdaa", sum := "e57210de965e1566c72aeea287ca234ce28efc0184070969e33ce0bc783d2d07", func := "census/censuslaw22.TraceBack", spec := "traceBack", unfollowed := true, recurses := true, apart := false }
def TraceBackSaid : Prop := traceBackRow.holds Try.pinned (OpenSpec.ofChange traceBackSpec)

/-- ITS FALSE NEIGHBOUR: 'it returns false'. Refute it at one input. -/
def traceBackWrong : ChangeSpec := { name := "traceBack", fn := fun _ => fun
  | [d1, d2] => { results := [.lit (.bool false)], args := [d1, d2] }
  | _ => none }
def TraceBackWrongFalsely : Prop := traceBackRow.holds Try.pinned (OpenSpec.ofChange traceBackWrong)

/-- 'censuslaw22.TraceLong': WHATEVER THE INPUT: true; the input reads as it did. -/
def traceLongSpec : ChangeSpec := { name := "traceLong", fn := fun _ => fun
  | [] => { results := [.lit (.bool true)], args := [] }
  | _ => none }
def traceLongRow : OpenClaim := { program := "ythdjgcjpolpgdaa", sum := "e57210de965e1566c72aeea287ca234ce28efc0184070969e33ce0bc783d2d07", func := "census/censuslaw22.TraceLong", spec := "traceLong", unfollowed := true, recurses := true, apart := false }
def TraceLongSaid : Prop := traceLongRow.holds Try.pinned (OpenSpec.ofChange traceLongSpec)

/-- ITS FALSE NEIGHBOUR: 'it returns false'. Refute it at one input. -/
def traceLongWrong : ChangeSpec := { name := "traceLong", fn := fun _ => fun
  | [] => { results := [.lit (.bool false)], args := [] }
  | _ => none }
def TraceLongWrongFalsely : Prop := traceLongRow.holds Try.pinned (OpenSpec.ofChange traceLongWrong)

/-- 'censuslaw22.TraceKnown': WHATEVER THE INPUT: true; the input reads as it did. -/
def traceKnownSpec : ChangeSpec := { name := "traceKnown", fn := fun _ => fun
  | [] => { results := [.lit (.bool true)], args := [] }
  | _ => none }
def traceKnownRow : OpenClaim := { program := "ythdjgcjpolpgdaa", sum := "e57210de965e1566c72aeea287ca234ce28efc0184070969e33ce0bc783d2d07", func := "census/censuslaw22.TraceKnown", spec := "traceKnown", unfollowed := true, recurses := true, apart := false }
def TraceKnownSaid : Prop := traceKnownRow.holds Try.pinned (OpenSpec.ofChange traceKnownSpec)

/-- ITS FALSE NEIGHBOUR: 'it returns false'. Refute it at one input. -/
def traceKnownWrong : ChangeSpec := { name := "traceKnown", fn := fun _ => fun
  | [] => { results := [.lit (.bool false)], args := [] }
  | _ => none }
def TraceKnownWrongFalsely : Prop := traceKnownRow.holds Try.pinned (OpenSpec.ofChange traceKnownWrong)

/- THE SECOND FORM. 'bulk': how many values and letters a reading holds, each counted each time it is reached (what is shared counts as often as it is met; a slice's spare places count too). A statement '..UptoSaid' is the law's where the arguments, and the package variables that the reading takes, are together of bulk at most 1048576: NARROWER than '..Said'. Prove '..Said' where nothing that the law and all that it calls make is longer than what came in: it says more and counts as full. Else prove '..UptoSaid'. A law counts once. -/
mutual
def uptoBulk {H : Type} : DataW H → Nat
  | .lit (.string bytes) => bytes.length + 1
  | .lit _ => 1
  | .nil => 1
  | .ptr d => uptoBulk d + 1
  | .slice elems spare => uptoBulkAll elems + uptoBulkAll spare + 1
  | .agg parts => uptoBulkAll parts + 1
  | .iface _ d => uptoBulk d + 1
  | .map entries => uptoBulkEntries entries + 1
  | .held _ => 1
def uptoBulkAll {H : Type} : List (DataW H) → Nat
  | [] => 0
  | d :: r => uptoBulk d + uptoBulkAll r
def uptoBulkEntries {H : Type} : List (Lit × DataW H) → Nat
  | [] => 0
  | x :: r => uptoBulkEntry x + uptoBulkEntries r
def uptoBulkEntry {H : Type} : Lit × DataW H → Nat
  | (.string bytes, d) => bytes.length + uptoBulk d + 1
  | (_, d) => uptoBulk d + 1
 end
def uptoSmall : (H : Type) → List (DataW H) → Bool := fun _ ds => decide (uptoBulkAll ds ≤ 1048576)
def OpenSpec.upto (s : _root_.Go.ChangeSpec) : _root_.Go.OpenSpec := { _root_.Go.OpenSpec.ofChange s with cond := some uptoSmall }

/-- 'censuslaw22.TraceResiduals', WHERE WHAT IT READS IS OF BULK AT MOST 1048576: true; the input reads as it did. -/
def traceResidualsUptoRow : OpenClaim := { program := "ythdjgcjpolpgdaa", sum := "e57210de965e1566c72aeea287ca234ce28efc0184070969e33ce0bc783d2d07", func := "census/censuslaw22.TraceResiduals", spec := "traceResiduals", unfollowed := true, recurses := true, apart := false, narrowed := true }
def TraceResidualsUptoSaid : Prop := traceResidualsUptoRow.holds Try.pinned (OpenSpec.upto traceResidualsSpec)

/-- 'censuslaw22.TraceWrites', WHERE WHAT IT READS IS OF BULK AT MOST 1048576: true; the input reads as it did. -/
def traceWritesUptoRow : OpenClaim := { program := "ythdjgcjpolpgdaa", sum := "e57210de965e1566c72aeea287ca234ce28efc0184070969e33ce0bc783d2d07", func := "census/censuslaw22.TraceWrites", spec := "traceWrites", unfollowed := true, recurses := true, apart := false, narrowed := true }
def TraceWritesUptoSaid : Prop := traceWritesUptoRow.holds Try.pinned (OpenSpec.upto traceWritesSpec)

/-- 'censuslaw22.TraceWhole', WHERE WHAT IT READS IS OF BULK AT MOST 1048576: true; the input reads as it did. -/
def traceWholeUptoRow : OpenClaim := { program := "ythdjgcjpolpgdaa", sum := "e57210de965e1566c72aeea287ca234ce28efc0184070969e33ce0bc783d2d07", func := "census/censuslaw22.TraceWhole", spec := "traceWhole", unfollowed := true, recurses := true, apart := false, narrowed := true }
def TraceWholeUptoSaid : Prop := traceWholeUptoRow.holds Try.pinned (OpenSpec.upto traceWholeSpec)

/-- 'censuslaw22.TraceLeaves', WHERE WHAT IT READS IS OF BULK AT MOST 1048576: true; the input reads as it did. -/
def traceLeavesUptoRow : OpenClaim := { program := "ythdjgcjpolpgdaa", sum := "e57210de965e1566c72aeea287ca234ce28efc0184070969e33ce0bc783d2d07", func := "census/censuslaw22.TraceLeaves", spec := "traceLeaves", unfollowed := true, recurses := true, apart := false, narrowed := true }
def TraceLeavesUptoSaid : Prop := traceLeavesUptoRow.holds Try.pinned (OpenSpec.upto traceLeavesSpec)

/-- 'censuslaw22.TraceMore', WHERE WHAT IT READS IS OF BULK AT MOST 1048576: true; the input reads as it did. -/
def traceMoreUptoRow : OpenClaim := { program := "ythdjgcjpolpgdaa", sum := "e57210de965e1566c72aeea287ca234ce28efc0184070969e33ce0bc783d2d07", func := "census/censuslaw22.TraceMore", spec := "traceMore", unfollowed := true, recurses := true, apart := false, narrowed := true }
def TraceMoreUptoSaid : Prop := traceMoreUptoRow.holds Try.pinned (OpenSpec.upto traceMoreSpec)

/-- 'censuslaw22.TraceSays', WHERE WHAT IT READS IS OF BULK AT MOST 1048576: true; the input reads as it did. -/
def traceSaysUptoRow : OpenClaim := { program := "ythdjgcjpolpgdaa", sum := "e57210de965e1566c72aeea287ca234ce28efc0184070969e33ce0bc783d2d07", func := "census/censuslaw22.TraceSays", spec := "traceSays", unfollowed := true, recurses := true, apart := false, narrowed := true }
def TraceSaysUptoSaid : Prop := traceSaysUptoRow.holds Try.pinned (OpenSpec.upto traceSaysSpec)

/-- 'censuslaw22.TraceReads', WHERE WHAT IT READS IS OF BULK AT MOST 1048576: true; the input reads as it did. -/
def traceReadsUptoRow : OpenClaim := { program := "ythdjgcjpolpgdaa", sum := "e57210de965e1566c72aeea287ca234ce28efc0184070969e33ce0bc783d2d07", func := "census/censuslaw22.TraceReads", spec := "traceReads", unfollowed := true, recurses := true, apart := false, narrowed := true }
def TraceReadsUptoSaid : Prop := traceReadsUptoRow.holds Try.pinned (OpenSpec.upto traceReadsSpec)

/-- 'censuslaw22.TraceBack', WHERE WHAT IT READS IS OF BULK AT MOST 1048576: true; the input reads as it did. -/
def traceBackUptoRow : OpenClaim := { program := "ythdjgcjpolpgdaa", sum := "e57210de965e1566c72aeea287ca234ce28efc0184070969e33ce0bc783d2d07", func := "census/censuslaw22.TraceBack", spec := "traceBack", unfollowed := true, recurses := true, apart := false, narrowed := true }
def TraceBackUptoSaid : Prop := traceBackUptoRow.holds Try.pinned (OpenSpec.upto traceBackSpec)

/-- 'censuslaw22.TraceLong', WHERE WHAT IT READS IS OF BULK AT MOST 1048576: true; the input reads as it did. -/
def traceLongUptoRow : OpenClaim := { program := "ythdjgcjpolpgdaa", sum := "e57210de965e1566c72aeea287ca234ce28efc0184070969e33ce0bc783d2d07", func := "census/censuslaw22.TraceLong", spec := "traceLong", unfollowed := true, recurses := true, apart := false, narrowed := true }
def TraceLongUptoSaid : Prop := traceLongUptoRow.holds Try.pinned (OpenSpec.upto traceLongSpec)

/-- 'censuslaw22.TraceKnown', WHERE WHAT IT READS IS OF BULK AT MOST 1048576: true; the input reads as it did. -/
def traceKnownUptoRow : OpenClaim := { program := "ythdjgcjpolpgdaa", sum := "e57210de965e1566c72aeea287ca234ce28efc0184070969e33ce0bc783d2d07", func := "census/censuslaw22.TraceKnown", spec := "traceKnown", unfollowed := true, recurses := true, apart := false, narrowed := true }
def TraceKnownUptoSaid : Prop := traceKnownUptoRow.holds Try.pinned (OpenSpec.upto traceKnownSpec)

end Rows
end Go.Proofs.Ythdjgcjpolpgdaa
