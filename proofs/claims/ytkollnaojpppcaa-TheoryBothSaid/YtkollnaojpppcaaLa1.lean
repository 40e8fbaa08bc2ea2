/- The table with censuslaw05.works, by the abstract machine; no condition. -/
import Derived.Test.YtkollnaojpppcaaJn
import Derived.Test.YtkollnaojpppcaaCvG
import Derived.Test.YtkollnaojpppcaaWk05
namespace Go.Proofs.Ytkollnaojpppcaa
set_option linter.unusedVariables false
set_option linter.unusedSimpArgs false
set_option linter.unusedSectionVars false
open Go.RowKit
set_option maxRecDepth 100000

@[simp] def g_works : List AV → Option (AV × Bool)
  | [] => if (true) = true then some (.v (.bool true), false) else none
  | _ => none
theorem e_works : EntOk Try.prog 16 g_works := ent_pure (by kernel_rfl) fun args r fr h => by
  unfold g_works at h
  split at h
  · split at h
    · rename_i hc
      cases h
      exact ⟨FnPure.cov (works_p) .nil, rfl⟩
    · cases h
  · cases h

def l50 : List (FuncId × (List AV → Option (AV × Bool))) :=
  (16, g_works) :: l21
theorem l50_ok : ∀ p ∈ l50, EntOk Try.prog p.1 p.2 := ent_cons e_works (l21_ok)
def PT50 : PTab := tab l50
theorem PT50_ok : PTok Try.prog PT50 := tab_ok l50_ok
@[simp] theorem PT50_litVar : PT50 41 = g_litVar := rfl
@[simp] theorem PT50_litValid : PT50 36 = g_litValid := rfl
@[simp] theorem PT50_check : PT50 17 = g_check := rfl
@[simp] theorem PT50_with : PT50 56 = g_with := rfl
@[simp] theorem PT50_all : PT50 48 = g_all := rfl
@[simp] theorem PT50_rValid : PT50 37 = g_rValid := rfl
@[simp] theorem PT50_rHas : PT50 60 = g_rHas := rfl
@[simp] theorem PT50_rHolds : PT50 51 = g_rHolds := rfl
@[simp] theorem PT50_rAssign : PT50 50 = g_rAssign := rfl
@[simp] theorem PT50_rCheck : PT50 18 = g_rCheck := rfl
@[simp] theorem PT50_rEval : PT50 25 = g_rEval := rfl
@[simp] theorem PT50_litvalid : PT50 61 = g_litvalid := rfl
@[simp] theorem PT50_opposite : PT50 63 = g_opposite := rfl
@[simp] theorem PT50_clone : PT50 58 = g_clone := rfl
@[simp] theorem PT50_order : PT50 62 = g_order := rfl
@[simp] theorem PT50_term : PT50 52 = g_term := rfl
@[simp] theorem PT50_clause : PT50 38 = g_clause := rfl
@[simp] theorem PT50_equal : PT50 43 = g_equal := rfl
@[simp] theorem PT50_distinct : PT50 42 = g_distinct := rfl
@[simp] theorem PT50_normal : PT50 20 = g_normal := rfl
@[simp] theorem PT50_rContains : PT50 55 = g_rContains := rfl
@[simp] theorem PT50_rSameInts : PT50 46 = g_rSameInts := rfl
@[simp] theorem PT50_rAbs : PT50 59 = g_rAbs := rfl
@[simp] theorem PT50_rBefore : PT50 66 = g_rBefore := rfl
@[simp] theorem PT50_rSorted : PT50 44 = g_rSorted := rfl
@[simp] theorem PT50_rPut : PT50 45 = g_rPut := rfl
@[simp] theorem PT50_rNormal : PT50 21 = g_rNormal := rfl
@[simp] theorem PT50_place : PT50 73 = g_place := rfl
@[simp] theorem PT50_vHas : PT50 91 = g_vHas := rfl
@[simp] theorem PT50_vMinus : PT50 67 = g_vMinus := rfl
@[simp] theorem PT50_vSub : PT50 47 = g_vSub := rfl
@[simp] theorem PT50_litHolds : PT50 70 = g_litHolds := rfl
@[simp] theorem PT50_litAny : PT50 49 = g_litAny := rfl
@[simp] theorem PT50_thEval : PT50 24 = g_thEval := rfl
@[simp] theorem PT50_rSame : PT50 22 = g_rSame := rfl
@[simp] theorem PT50_rTerm : PT50 54 = g_rTerm := rfl
@[simp] theorem PT50_thVars : PT50 31 = g_thVars := rfl
@[simp] theorem PT50_rVars : PT50 34 = g_rVars := rfl
@[simp] theorem PT50_given : PT50 26 = g_given := rfl
@[simp] theorem PT50_light : PT50 15 = g_light := rfl
@[simp] theorem PT50_few : PT50 28 = g_few := rfl
@[simp] theorem PT50_same : PT50 29 = g_same := rfl
@[simp] theorem PT50_asg : PT50 30 = g_asg := rfl
@[simp] theorem PT50_join : PT50 32 = g_join := rfl
@[simp] theorem PT50_rJoin : PT50 33 = g_rJoin := rfl
@[simp] theorem PT50_works : PT50 16 = g_works := rfl
end Go.Proofs.Ytkollnaojpppcaa
