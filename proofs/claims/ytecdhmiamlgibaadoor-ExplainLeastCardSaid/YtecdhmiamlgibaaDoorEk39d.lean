/- Calls of explain with exact arguments of the chapter's net; no condition. -/
import Derived.Test.YtecdhmiamlgibaaDoorEk39a
namespace Go.Proofs.YtecdhmiamlgibaaDoor
set_option linter.unusedVariables false
set_option linter.unusedSimpArgs false
set_option linter.unusedSectionVars false
open Go.RowKit
set_option maxRecDepth 100000
def r11 : Row := ⟨20, [nA, .agg [.v (.int .u64 7), .v (.int .u64 0)], .agg [.v (.int .u64 2), .v (.int .u64 0)]], .tup [.v (.bool true), .v (.int .i64 0)]⟩
theorem r11_ok : RowOk Tryd.prog r11 := row_run prog_mixedC TT_ok (tabR_ok lB_ok) (T := funR lB) (n := 3000) (by kernel_rfl) (by kernel_rfl)
def r12 : Row := ⟨20, [nA, .agg [.v (.int .u64 3), .v (.int .u64 0)], .agg [.v (.int .u64 2), .v (.int .u64 0)]], .tup [.v (.bool false), .v (.int .i64 0)]⟩
theorem r12_ok : RowOk Tryd.prog r12 := row_run prog_mixedC TT_ok (tabR_ok lB_ok) (T := funR lB) (n := 3000) (by kernel_rfl) (by kernel_rfl)
def r13 : Row := ⟨20, [nA, .agg [.v (.int .u64 4), .v (.int .u64 0)], .agg [.v (.int .u64 2), .v (.int .u64 0)]], .tup [.v (.bool false), .v (.int .i64 0)]⟩
theorem r13_ok : RowOk Tryd.prog r13 := row_run prog_mixedC TT_ok (tabR_ok lB_ok) (T := funR lB) (n := 3000) (by kernel_rfl) (by kernel_rfl)
end Go.Proofs.YtecdhmiamlgibaaDoor
