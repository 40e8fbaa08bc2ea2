/- Calls of explain with exact arguments of the chapter's net; no condition. -/
import Derived.Test.YtecdhmiamlgibaaDoorEk39a
namespace Go.Proofs.YtecdhmiamlgibaaDoor
set_option linter.unusedVariables false
set_option linter.unusedSimpArgs false
set_option linter.unusedSectionVars false
open Go.RowKit
set_option maxRecDepth 100000
def r5 : Row := ⟨14, [nA, .agg [.v (.int .u64 7), .v (.int .u64 0)]], .tup [.sl 1 [[.sl 1 [[.v (.int .i64 1)], [.v (.int .i64 2)]]]], .v (.int .i64 0)]⟩
theorem r5_ok : RowOk Tryd.prog r5 := row_run prog_mixedC TT_ok (tabR_ok lB_ok) (T := funR lB) (n := 3000) (by kernel_rfl) (by kernel_rfl)
def r6 : Row := ⟨14, [nA, .agg [.v (.int .u64 4), .v (.int .u64 0)]], .tup [.sl 1 [[.sl 1 [[.v (.int .i64 (-1))]]], [.sl 1 [[.v (.int .i64 (-2))], [.v (.int .i64 3)]]]], .v (.int .i64 0)]⟩
theorem r6_ok : RowOk Tryd.prog r6 := row_run prog_mixedC TT_ok (tabR_ok lB_ok) (T := funR lB) (n := 3000) (by kernel_rfl) (by kernel_rfl)
def r7 : Row := ⟨14, [nA, .agg [.v (.int .u64 3), .v (.int .u64 0)]], .tup [.sl 1 [[.sl 1 [[.v (.int .i64 1)], [.v (.int .i64 2)]]], [.sl 1 [[.v (.int .i64 1)], [.v (.int .i64 (-3))]]]], .v (.int .i64 0)]⟩
theorem r7_ok : RowOk Tryd.prog r7 := row_run prog_mixedC TT_ok (tabR_ok lB_ok) (T := funR lB) (n := 3000) (by kernel_rfl) (by kernel_rfl)
end Go.Proofs.YtecdhmiamlgibaaDoor
