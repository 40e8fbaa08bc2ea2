/- Calls of explain with exact arguments of the chapter's net; no condition. -/
import Derived.Test.YtecdhmiamlgibaaDoorEk39a
namespace Go.Proofs.YtecdhmiamlgibaaDoor
set_option linter.unusedVariables false
set_option linter.unusedSimpArgs false
set_option linter.unusedSectionVars false
open Go.RowKit
set_option maxRecDepth 100000
def r14 : Row := ⟨33, [nA, .agg [.v (.int .u64 2), .v (.int .u64 0)]], .tup [.agg [.v (.int .u64 5), .v (.int .u64 0)], .v (.bool true), .v (.int .i64 0)]⟩
theorem r14_ok : RowOk Tryd.prog r14 := row_run prog_mixedC TT_ok (tabR_ok lB_ok) (T := funR lB) (n := 3000) (by kernel_rfl) (by kernel_rfl)
def r15 : Row := ⟨33, [nA, .agg [.v (.int .u64 8), .v (.int .u64 0)]], .tup [.agg [.v (.int .u64 0), .v (.int .u64 0)], .v (.bool false), .v (.int .i64 0)]⟩
theorem r15_ok : RowOk Tryd.prog r15 := row_run prog_mixedC TT_ok (tabR_ok lB_ok) (T := funR lB) (n := 3000) (by kernel_rfl) (by kernel_rfl)
end Go.Proofs.YtecdhmiamlgibaaDoor
