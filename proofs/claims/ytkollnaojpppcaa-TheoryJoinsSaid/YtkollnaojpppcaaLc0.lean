/- The table of the laws that overwrite what was returned; no condition. -/
import Derived.Test.YtkollnaojpppcaaLt
import Derived.Test.YtkollnaojpppcaaWk05
import Derived.Test.YtkollnaojpppcaaCvG
import Derived.Test.YtkollnaojpppcaaSpo
import Derived.Test.YtkollnaojpppcaaCp
import Derived.Test.YtkollnaojpppcaaRows
namespace Go.Proofs.Ytkollnaojpppcaa
set_option linter.unusedVariables false
set_option linter.unusedSimpArgs false
set_option linter.unusedSectionVars false
open Go.ChangeShapes Go.WideShapes Go.ChangeAt Go.RowKit
set_option maxRecDepth 100000
@[simp] def g_works : List AV → Option (AV × Bool)
  | [] => if (true) = true then some (.v (.bool true), false) else none
  | _ => none
theorem e_works : EntOk Try.prog 16 g_works := ent_pure (by kernel_rfl) fun args r fr h => by
  unfold g_works at h
  split at h
  · split at h
    · rename_i hc
      cases h
      exact ⟨FnPure.cov (works_p) .nil, rfl⟩
    · cases h
  · cases h

@[simp] def g_copy : List AV → Option (AV × Bool)
  | [.agg [.v (.int .i64 N), a0]] => (match toRows a0 with | some L => if (okI N && okRows L) = true then some (aTh N L, false) else none | none => none)
  | _ => none
theorem e_copy : EntOk Try.prog 19 g_copy := ent_pure (by kernel_rfl) fun args r fr h => by
  unfold g_copy at h
  split at h
  · rename_i N a0
    split at h
    · rename_i L t0
      split at h
      · rename_i hc
        simp only [Bool.and_eq_true] at hc
        obtain ⟨m0, o0⟩ := hc
        cases h
        exact ⟨FnPure.cov (copy_p N L m0 o0) (.cons (cov_th _ (cov_rows t0)) .nil), rfl⟩
      · cases h
    · cases h
  · cases h

theorem spoil_nil : FnPure Try.prog 23 [.agg [.v (.int .i64 0), .v (.slice none 0 0)]] (.tup []) := fn_run prog_mixed TT_ok (noPT_ok _) (T := noT) (n := 100) (by kernel_rfl)
@[simp] def g_spoil : List AV → Option (AV × Bool)
  | [.agg [.v (.int .i64 0), .v (.slice none 0 0)]] => some (.tup [], false)
  | _ => none
theorem e_spoil : EntOk Try.prog 23 g_spoil := ent_pure (by kernel_rfl) fun args r fr h => by
  unfold g_spoil at h
  split at h
  · cases h; exact ⟨spoil_nil, rfl⟩
  · cases h
def l60 : List (FuncId × (List AV → Option (AV × Bool))) :=
  (16, g_works) :: (19, g_copy) :: (23, g_spoil) :: l16
theorem l60_ok : ∀ p ∈ l60, EntOk Try.prog p.1 p.2 := ent_cons e_works (ent_cons e_copy (ent_cons e_spoil (l16_ok)))
def PT60 : PTab := tab l60
theorem PT60_ok : PTok Try.prog PT60 := tab_ok l60_ok
@[simp] theorem PT60_litVar : PT60 41 = g_litVar := rfl
@[simp] theorem PT60_litValid : PT60 36 = g_litValid := rfl
@[simp] theorem PT60_check : PT60 17 = g_check := rfl
@[simp] theorem PT60_with : PT60 56 = g_with := rfl
@[simp] theorem PT60_all : PT60 48 = g_all := rfl
@[simp] theorem PT60_rValid : PT60 37 = g_rValid := rfl
@[simp] theorem PT60_rHas : PT60 60 = g_rHas := rfl
@[simp] theorem PT60_rHolds : PT60 51 = g_rHolds := rfl
@[simp] theorem PT60_rAssign : PT60 50 = g_rAssign := rfl
@[simp] theorem PT60_rCheck : PT60 18 = g_rCheck := rfl
@[simp] theorem PT60_rEval : PT60 25 = g_rEval := rfl
@[simp] theorem PT60_litvalid : PT60 61 = g_litvalid := rfl
@[simp] theorem PT60_opposite : PT60 63 = g_opposite := rfl
@[simp] theorem PT60_clone : PT60 58 = g_clone := rfl
@[simp] theorem PT60_order : PT60 62 = g_order := rfl
@[simp] theorem PT60_term : PT60 52 = g_term := rfl
@[simp] theorem PT60_clause : PT60 38 = g_clause := rfl
@[simp] theorem PT60_equal : PT60 43 = g_equal := rfl
@[simp] theorem PT60_distinct : PT60 42 = g_distinct := rfl
@[simp] theorem PT60_normal : PT60 20 = g_normal := rfl
@[simp] theorem PT60_rContains : PT60 55 = g_rContains := rfl
@[simp] theorem PT60_rSameInts : PT60 46 = g_rSameInts := rfl
@[simp] theorem PT60_rAbs : PT60 59 = g_rAbs := rfl
@[simp] theorem PT60_rBefore : PT60 66 = g_rBefore := rfl
@[simp] theorem PT60_rSorted : PT60 44 = g_rSorted := rfl
@[simp] theorem PT60_rPut : PT60 45 = g_rPut := rfl
@[simp] theorem PT60_rNormal : PT60 21 = g_rNormal := rfl
@[simp] theorem PT60_place : PT60 73 = g_place := rfl
@[simp] theorem PT60_vHas : PT60 91 = g_vHas := rfl
@[simp] theorem PT60_vMinus : PT60 67 = g_vMinus := rfl
@[simp] theorem PT60_vSub : PT60 47 = g_vSub := rfl
@[simp] theorem PT60_litHolds : PT60 70 = g_litHolds := rfl
@[simp] theorem PT60_litAny : PT60 49 = g_litAny := rfl
@[simp] theorem PT60_thEval : PT60 24 = g_thEval := rfl
@[simp] theorem PT60_rSame : PT60 22 = g_rSame := rfl
@[simp] theorem PT60_rTerm : PT60 54 = g_rTerm := rfl
@[simp] theorem PT60_thVars : PT60 31 = g_thVars := rfl
@[simp] theorem PT60_rVars : PT60 34 = g_rVars := rfl
@[simp] theorem PT60_light : PT60 15 = g_light := rfl
@[simp] theorem PT60_works : PT60 16 = g_works := rfl
@[simp] theorem PT60_copy : PT60 19 = g_copy := rfl
@[simp] theorem PT60_spoil : PT60 23 = g_spoil := rfl
@[simp] theorem toRows_nilv : toRows (.v (.slice none 0 0)) = some [] := rfl
end Go.Proofs.Ytkollnaojpppcaa
