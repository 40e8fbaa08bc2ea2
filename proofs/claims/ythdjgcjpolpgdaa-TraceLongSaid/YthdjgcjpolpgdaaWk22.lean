/- The examples of the chapter hold: the text of censuslaw22.works is run on the abstract machine; no condition. -/
import Derived.Test.YthdjgcjpolpgdaaAmB
import Derived.Test.YthdjgcjpolpgdaaThG
namespace Go.Proofs.Ythdjgcjpolpgdaa
set_option linter.unusedVariables false
set_option linter.unusedSimpArgs false
set_option linter.unusedSectionVars false
open Go.RowKit
theorem prog_mixedW : Try.prog.follows .mixedOrders = true := by kernel_rfl
def T15 : FuncId → Bool := fun f => (lk l15 f).isSome && ![86, 57, 69, 27, 99].contains f
theorem works_run : resI Try.prog TT PT15 T15 3000 15 [] = some (.v (.bool true)) := by kernel_rfl
theorem works_p : FnPure Try.prog 15 [] (.v (.bool true)) := fn_run prog_mixedW TT_ok PT15_ok works_run
end Go.Proofs.Ythdjgcjpolpgdaa
