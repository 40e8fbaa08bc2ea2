/- The examples of the chapter hold: the text of censuslaw17.works is run on the abstract machine; no condition. -/
import Derived.Test.YtafikekndefjcaaDoorCe
namespace Go.Proofs.YtafikekndefjcaaDoor
set_option linter.unusedVariables false
set_option linter.unusedSimpArgs false
set_option linter.unusedSectionVars false
open Go.RowKit
theorem works_run : resI Tryd.prog TT PTc Tc 3000 13 [] = some (.v (.bool true)) := by kernel_rfl
theorem works_p : FnPure Tryd.prog 13 [] (.v (.bool true)) := fn_run prog_mixedC TT_ok PTc_ok works_run
end Go.Proofs.YtafikekndefjcaaDoor
