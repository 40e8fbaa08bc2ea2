/- The examples of the chapter hold, and the law PartsKnown returns true; no condition. -/
import Derived.Test.YtekeidhndlnghaaEk16a
namespace Go.Proofs.Ytekeidhndlnghaa
set_option linter.unusedVariables false
set_option linter.unusedSimpArgs false
set_option linter.unusedSectionVars false
open Go.RowKit
set_option maxRecDepth 100000
def rW : Row := ⟨11, [], .v (.bool true)⟩
theorem rW_ok : RowOk Try.prog rW := row_run prog_mixedC TT_ok (tabR_ok lS_ok) (T := funR lS) (n := 3000) (by kernel_rfl) (by kernel_rfl)
theorem works_p : FnPure Try.prog 11 [] (.v (.bool true)) := rW_ok.2
theorem lSW_ok : ∀ r ∈ rW :: lS, RowOk Try.prog r := List.forall_mem_cons.2 ⟨rW_ok, lS_ok⟩
theorem known_run : resI Try.prog TT (tabR (rW :: lS)) (funR (rW :: lS)) 3000 9 [] = some (.v (.bool true)) := by kernel_rfl
theorem partsKnown_p : FnPure Try.prog 9 [] (.v (.bool true)) := fn_run prog_mixedC TT_ok (tabR_ok lSW_ok) known_run
end Go.Proofs.Ytekeidhndlnghaa
