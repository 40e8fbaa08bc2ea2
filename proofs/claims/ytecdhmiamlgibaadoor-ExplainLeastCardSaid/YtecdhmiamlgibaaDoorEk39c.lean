/- Calls of explain with exact arguments of the chapter's net; no condition. -/
import Derived.Test.YtecdhmiamlgibaaDoorEk39a
namespace Go.Proofs.YtecdhmiamlgibaaDoor
set_option linter.unusedVariables false
set_option linter.unusedSimpArgs false
set_option linter.unusedSectionVars false
open Go.RowKit
set_option maxRecDepth 100000
def r8 : Row := ⟨16, [nA, .agg [.v (.int .u64 7), .v (.int .u64 0)]], .tup [.sl 1 [[.v (.int .i64 1)], [.v (.int .i64 2)]], .v (.int .i64 0)]⟩
theorem r8_ok : RowOk Tryd.prog r8 := row_run prog_mixedC TT_ok (tabR_ok lB_ok) (T := funR lB) (n := 3000) (by kernel_rfl) (by kernel_rfl)
def r9 : Row := ⟨16, [nA, .agg [.v (.int .u64 3), .v (.int .u64 0)]], .tup [.sl 1 [[.v (.int .i64 1)]], .v (.int .i64 0)]⟩
theorem r9_ok : RowOk Tryd.prog r9 := row_run prog_mixedC TT_ok (tabR_ok lB_ok) (T := funR lB) (n := 3000) (by kernel_rfl) (by kernel_rfl)
def r10 : Row := ⟨16, [nA, .agg [.v (.int .u64 4), .v (.int .u64 0)]], .tup [.v (.slice none 0 0), .v (.int .i64 0)]⟩
theorem r10_ok : RowOk Tryd.prog r10 := row_run prog_mixedC TT_ok (tabR_ok lB_ok) (T := funR lB) (n := 3000) (by kernel_rfl) (by kernel_rfl)
end Go.Proofs.YtecdhmiamlgibaaDoor
