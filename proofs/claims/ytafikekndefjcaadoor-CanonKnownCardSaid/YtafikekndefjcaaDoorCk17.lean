/- The law CanonKnown returns true, by the abstract machine; no condition. -/
import Derived.Test.YtafikekndefjcaaDoorCe
namespace Go.Proofs.YtafikekndefjcaaDoor
set_option linter.unusedVariables false
set_option linter.unusedSimpArgs false
set_option linter.unusedSectionVars false
open Go.RowKit
theorem canonKnown_run : resI Tryd.prog TT PTc Tc 3000 11 [] = some (.v (.bool true)) := by kernel_rfl
theorem canonKnown_p : FnPure Tryd.prog 11 [] (.v (.bool true)) := fn_run prog_mixedC TT_ok PTc_ok canonKnown_run
end Go.Proofs.YtafikekndefjcaaDoor
