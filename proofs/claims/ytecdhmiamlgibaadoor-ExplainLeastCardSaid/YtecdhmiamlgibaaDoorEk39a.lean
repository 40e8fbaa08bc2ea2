/- Calls with exact arguments of the chapter's net: what the checks of the net return; no condition. -/
import Derived.Test.YtecdhmiamlgibaaDoorBt
import Derived.Test.YtecdhmiamlgibaaDoorTi
namespace Go.Proofs.YtecdhmiamlgibaaDoor
set_option linter.unusedVariables false
set_option linter.unusedSimpArgs false
set_option linter.unusedSectionVars false
open Go.RowKit
set_option maxRecDepth 100000
theorem prog_mixedC : Tryd.prog.follows .mixedOrders = true := by kernel_rfl
def nA : AV := .agg [.v (.int .i64 4), .sl 3 [[.v (.int .i64 2), .v (.int .i64 1), .v (.slice none 0 0)], [.v (.int .i64 2), .v (.int .i64 2), .v (.slice none 0 0)], [.v (.int .i64 2), .v (.int .i64 (-3)), .v (.slice none 0 0)], [.v (.int .i64 4), .v (.int .i64 0), .sl 1 [[.v (.int .i64 1)], [.v (.int .i64 2)]]], [.v (.int .i64 3), .v (.int .i64 0), .sl 1 [[.v (.int .i64 0)], [.v (.int .i64 3)]]]]]
def r0 : Row := ⟨37, [], nA⟩
theorem r0_ok : RowOk Tryd.prog r0 := row_run prog_mixedC TT_ok (noPT_ok _) (T := noT) (n := 3000) (by kernel_rfl) (by kernel_rfl)
def r1 : Row := ⟨55, [nA], .v (.int .i64 0)⟩
theorem r1_ok : RowOk Tryd.prog r1 := row_run prog_mixedC TT_ok (noPT_ok _) (T := noT) (n := 3000) (by kernel_rfl) (by kernel_rfl)
def r2 : Row := ⟨91, [nA], .sl 2 [[.v (.int .u64 1), .v (.int .u64 0)], [.v (.int .u64 2), .v (.int .u64 0)], [.v (.int .u64 4), .v (.int .u64 0)], [.v (.int .u64 6), .v (.int .u64 0)], [.v (.int .u64 7), .v (.int .u64 0)]]⟩
theorem r2_ok : RowOk Tryd.prog r2 := row_run prog_mixedC TT_ok (noPT_ok _) (T := noT) (n := 3000) (by kernel_rfl) (by kernel_rfl)
def r3 : Row := ⟨92, [.agg [.v (.int .u64 7), .v (.int .u64 0)]], .sl 1 [[.v (.int .i64 1)], [.v (.int .i64 2)], [.v (.int .i64 3)]]⟩
theorem r3_ok : RowOk Tryd.prog r3 := row_run prog_mixedC TT_ok (noPT_ok _) (T := noT) (n := 3000) (by kernel_rfl) (by kernel_rfl)
def r4 : Row := ⟨29, [.v (.int .i64 4)], .agg [.v (.int .u64 15), .v (.int .u64 0)]⟩
theorem r4_ok : RowOk Tryd.prog r4 := row_run prog_mixedC TT_ok (noPT_ok _) (T := noT) (n := 3000) (by kernel_rfl) (by kernel_rfl)
def lB : List Row := [r0, r1, r2, r3, r4]
theorem lB_ok : ∀ r ∈ lB, RowOk Tryd.prog r := List.forall_mem_cons.2 ⟨r0_ok, List.forall_mem_cons.2 ⟨r1_ok, List.forall_mem_cons.2 ⟨r2_ok, List.forall_mem_cons.2 ⟨r3_ok, List.forall_mem_cons.2 ⟨r4_ok, (by intro p hp; cases hp)⟩⟩⟩⟩⟩
end Go.Proofs.YtecdhmiamlgibaaDoor
