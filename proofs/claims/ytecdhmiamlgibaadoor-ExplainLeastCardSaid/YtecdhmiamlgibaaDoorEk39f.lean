/- The examples of the chapter hold, and the law ExplainKnown returns true: their text is run on the abstract machine; no condition. -/
import Derived.Test.YtecdhmiamlgibaaDoorEk39b
import Derived.Test.YtecdhmiamlgibaaDoorEk39c
import Derived.Test.YtecdhmiamlgibaaDoorEk39d
import Derived.Test.YtecdhmiamlgibaaDoorEk39e
namespace Go.Proofs.YtecdhmiamlgibaaDoor
set_option linter.unusedVariables false
set_option linter.unusedSimpArgs false
set_option linter.unusedSectionVars false
open Go.RowKit
set_option maxRecDepth 100000
def lK : List Row := [r0, r1, r2, r3, r4, r5, r6, r7, r8, r9, r10, r11, r12, r13, r14, r15]
theorem lK_ok : ∀ r ∈ lK, RowOk Tryd.prog r := List.forall_mem_cons.2 ⟨r0_ok, List.forall_mem_cons.2 ⟨r1_ok, List.forall_mem_cons.2 ⟨r2_ok, List.forall_mem_cons.2 ⟨r3_ok, List.forall_mem_cons.2 ⟨r4_ok, List.forall_mem_cons.2 ⟨r5_ok, List.forall_mem_cons.2 ⟨r6_ok, List.forall_mem_cons.2 ⟨r7_ok, List.forall_mem_cons.2 ⟨r8_ok, List.forall_mem_cons.2 ⟨r9_ok, List.forall_mem_cons.2 ⟨r10_ok, List.forall_mem_cons.2 ⟨r11_ok, List.forall_mem_cons.2 ⟨r12_ok, List.forall_mem_cons.2 ⟨r13_ok, List.forall_mem_cons.2 ⟨r14_ok, List.forall_mem_cons.2 ⟨r15_ok, (by intro p hp; cases hp)⟩⟩⟩⟩⟩⟩⟩⟩⟩⟩⟩⟩⟩⟩⟩⟩
def rW : Row := ⟨13, [], .v (.bool true)⟩
theorem rW_ok : RowOk Tryd.prog rW := row_run prog_mixedC TT_ok (tabR_ok lK_ok) (T := funR lK) (n := 3000) (by kernel_rfl) (by kernel_rfl)
theorem works_p : FnPure Tryd.prog 13 [] (.v (.bool true)) := rW_ok.2
theorem lKW_ok : ∀ r ∈ rW :: lK, RowOk Tryd.prog r := List.forall_mem_cons.2 ⟨rW_ok, lK_ok⟩
theorem known_run : resI Tryd.prog TT (tabR (rW :: lK)) (funR (rW :: lK)) 3000 10 [] = some (.v (.bool true)) := by kernel_rfl
theorem explainKnown_p : FnPure Tryd.prog 10 [] (.v (.bool true)) := fn_run prog_mixedC TT_ok (tabR_ok lKW_ok) known_run
end Go.Proofs.YtecdhmiamlgibaaDoor
