/- Which tables are made; no condition. -/
import Derived.Test.YtecdhmiamlgibaaDoorCg39
namespace Go.Proofs.YtecdhmiamlgibaaDoor
set_option linter.unusedVariables false
set_option linter.unusedSimpArgs false
set_option linter.unusedSectionVars false
open Go.RowKit
set_option maxRecDepth 100000
@[simp] def g_vList : List AV → Option (AV × Bool)
  | [a0] => (match toSet a0 with | some s => if (true) = true then some (aInts (listS s), false) else none | none => none)
  | _ => none
theorem e_vList : EntOk Tryd.prog 92 g_vList := ent_pure (by kernel_rfl) fun args r fr h => by
  unfold g_vList at h
  split at h
  · rename_i a0
    split at h
    · rename_i s t0
      split at h
      · rename_i hc
        cases h
        exact ⟨FnPure.cov (vList_p s) (.cons (toSet_inv t0 ▸ Cov.refl _) .nil), rfl⟩
      · cases h
    · cases h
  · cases h

def l148 : List (FuncId × (List AV → Option (AV × Bool))) :=
  (92, g_vList) :: l147
theorem l148_ok : ∀ p ∈ l148, EntOk Tryd.prog p.1 p.2 := ent_cons e_vList (l147_ok)
def PT148 : PTab := tab l148
theorem PT148_ok : PTok Tryd.prog PT148 := tab_ok l148_ok
@[simp] theorem PT148_litVar : PT148 85 = g_litVar := rfl
@[simp] theorem PT148_litValid : PT148 110 = g_litValid := rfl
@[simp] theorem PT148_with : PT148 26 = g_with := rfl
@[simp] theorem PT148_without : PT148 25 = g_without := rfl
@[simp] theorem PT148_all : PT148 29 = g_all := rfl
@[simp] theorem PT148_place : PT148 54 = g_place := rfl
@[simp] theorem PT148_vHas : PT148 36 = g_vHas := rfl
@[simp] theorem PT148_vMinus : PT148 31 = g_vMinus := rfl
@[simp] theorem PT148_vCut : PT148 22 = g_vCut := rfl
@[simp] theorem PT148_vUnion : PT148 21 = g_vUnion := rfl
@[simp] theorem PT148_vSub : PT148 72 = g_vSub := rfl
@[simp] theorem PT148_litHolds : PT148 56 = g_litHolds := rfl
@[simp] theorem PT148_nFormed : PT148 84 = g_nFormed := rfl
@[simp] theorem PT148_nCheck : PT148 55 = g_nCheck := rfl
@[simp] theorem PT148_r4Var : PT148 97 = g_r4Var := rfl
@[simp] theorem PT148_r4Valid : PT148 96 = g_r4Valid := rfl
@[simp] theorem PT148_rFormed : PT148 69 = g_rFormed := rfl
@[simp] theorem PT148_rValid20 : PT148 40 = g_rValid20 := rfl
@[simp] theorem PT148_r3Has : PT148 83 = g_r3Has := rfl
@[simp] theorem PT148_r3List : PT148 70 = g_r3List := rfl
@[simp] theorem PT148_r3Len : PT148 41 = g_r3Len := rfl
@[simp] theorem PT148_light39 : PT148 39 = g_light39 := rfl
@[simp] theorem PT148_r20Vars : PT148 71 = g_r20Vars := rfl
@[simp] theorem PT148_r39Mat : PT148 42 = g_r39Mat := rfl
@[simp] theorem PT148_few39 : PT148 12 = g_few39 := rfl
@[simp] theorem PT148_vOf : PT148 23 = g_vOf := rfl
@[simp] theorem PT148_nVars : PT148 91 = g_nVars := rfl
@[simp] theorem PT148_tIndex : PT148 53 = g_tIndex := rfl
@[simp] theorem PT148_tTerm : PT148 45 = g_tTerm := rfl
@[simp] theorem PT148_tChg : PT148 44 = g_tChg := rfl
@[simp] theorem PT148_vList : PT148 92 = g_vList := rfl
end Go.Proofs.YtecdhmiamlgibaaDoor
