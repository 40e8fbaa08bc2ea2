/- The examples of the chapter hold: the text of censuslaw05.works is run on the abstract machine; no condition. -/
import Derived.Test.YtkollnaojpppcaaAmB
import Derived.Test.YtkollnaojpppcaaTi
namespace Go.Proofs.Ytkollnaojpppcaa
set_option linter.unusedVariables false
set_option linter.unusedSimpArgs false
set_option linter.unusedSectionVars false
open Go.RowKit
theorem prog_mixed05 : Try.prog.follows .mixedOrders = true := by kernel_rfl
theorem works_run : resI Try.prog TT noPT noT 3000 16 [] = some (.v (.bool true)) := by kernel_rfl
theorem works_p : FnPure Try.prog 16 [] (.v (.bool true)) := fn_run prog_mixed05 TT_ok (noPT_ok _) works_run
end Go.Proofs.Ytkollnaojpppcaa
