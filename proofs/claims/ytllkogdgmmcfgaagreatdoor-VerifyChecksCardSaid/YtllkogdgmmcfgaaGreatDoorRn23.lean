/- The table with input and Needed; no condition. -/
import Derived.Test.YtllkogdgmmcfgaaGreatDoorRm23
import Derived.Test.YtllkogdgmmcfgaaGreatDoorNd23
namespace Go.Proofs.YtllkogdgmmcfgaaGreatDoor
set_option linter.unusedVariables false
set_option linter.unusedSimpArgs false
set_option linter.unusedSectionVars false
open Go.RowKit
def l246 : List (FuncId × (List AV → Option (AV × Bool))) :=
 (31, g_r23Inp) :: (19, g_r23Ned) :: l245
theorem l246_ok : ∀ p ∈ l246, EntOk Tryz.prog p.1 p.2 := ent_cons e_r23Inp (ent_cons e_r23Ned (l245_ok))
def PT246 : PTab := tab l246
theorem PT246_ok : PTok Tryz.prog PT246 := tab_ok l246_ok
@[simp] theorem PT246_r23Inp : PT246 31 = g_r23Inp := rfl
@[simp] theorem PT246_r23Ned : PT246 19 = g_r23Ned := rfl
@[simp] theorem PT246_old (f : FuncId) (h : decide (f ≠ 31 ∧ f ≠ 19) = true) : PT246 f = PT245 f := (fun h => Eq.trans (tab_old h.1) (tab_old h.2)) (of_decide_eq_true h)
end Go.Proofs.YtllkogdgmmcfgaaGreatDoor
