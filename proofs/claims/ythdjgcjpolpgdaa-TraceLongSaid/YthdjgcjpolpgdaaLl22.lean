/- TraceLong: the limits; it has no arguments; no condition. -/
import Derived.Test.YthdjgcjpolpgdaaSgG
import Derived.Test.YthdjgcjpolpgdaaAm28
import Derived.Test.YthdjgcjpolpgdaaRows
namespace Go.Proofs.Ythdjgcjpolpgdaa
set_option linter.unusedVariables false
set_option linter.unusedSimpArgs false
set_option linter.unusedSectionVars false
open Go.RowKit Go.WideShapes Go.ChangeShapes Go.ChangeAt
set_option maxRecDepth 100000
theorem encode_fA (l : List Cl) (hl : okCl l = true) : FnFresh Try.prog 25 [aCls l] (encA l) := by
  have hp := encode_p l hl
  unfold encA at hp ⊢
  split
  · rename_i h; rw [if_pos h] at hp; exact scalar_fresh hp rfl
  · rename_i h; rw [if_neg h] at hp
    split
    · rename_i h2; rw [if_pos h2] at hp; exact scalar_fresh hp rfl
    · rename_i h2; rw [if_neg h2] at hp
      split
      · rename_i h3; rw [if_pos h3] at hp; exact scalar_fresh hp rfl
      · have hf : l.all clG = true := by simpa using h2
        refine obj_fresh2 (fun S => glob0 _) (encode_obj l hl hf (by omega) (by omega)) rfl rfl (fun k ob hk => ?_) (fun _ => true) (fun _ => true) ?_ ?_ ⟨by simp [AV.ids, idsL, aB, idsLL, ids_bO], rfl⟩
        · simp only [lk] at hk
          split at hk
          · cases hk
            refine ⟨by simp [bO], fun r hr c hc => ?_⟩
            obtain ⟨x, _, rfl⟩ := List.mem_map.1 hr
            simp at hc; subst hc; rfl
          · cases hk
        · simp [AS.frz, frzV, frzO, frzC, List.filter, AS.shut2, AS.shut1, lk, bO, ids_bO, aB, AV.ids]
        · simp [AS.frz, frzV, frzO, frzC, List.filter, AS.shut2, AS.shut1, lk, bO, ids_bO, aB, AV.ids]
theorem encode_f (l : List Cl) (hl : okCl l = true) : FnFresh Try.prog 25 [aCls l] (encF l) := encA_eq l ▸ encode_fA l hl
theorem decode_pA (b : List Int) (hb : okB b = true) (hk : decide (b.length ≤ 9223372036854775807) = true) : FnPure Try.prog 38 [aB b] (decA b) := decode_p b hb (of_decide_eq_true hk)
@[simp] def g_trEncL : List AV → Option (AV × Bool)
  | [a0] => (match toCls a0 with | some l => if (okCl l) = true then some (encF l, true) else none | none => none)
  | _ => none
theorem e_trEncL : EntOk Try.prog 25 g_trEncL := ent_fresh (by kernel_rfl) fun args r fr h => by
  unfold g_trEncL at h
  split at h
  · rename_i a0
    split at h
    · rename_i l t0
      split at h
      · rename_i hc
        have o0 := hc
        cases h
        exact FnFresh.cov (encode_f l o0) (.cons (cov_cls t0) .nil)
      · cases h
    · cases h
  · cases h

@[simp] def g_trDecL : List AV → Option (AV × Bool)
  | [a0] => (match toB a0 with | some b => if (okB b && decide (b.length ≤ 9223372036854775807)) = true then some (decA b, false) else none | none => none)
  | _ => none
theorem e_trDecL : EntOk Try.prog 38 g_trDecL := ent_pure (by kernel_rfl) fun args r fr h => by
  unfold g_trDecL at h
  split at h
  · rename_i a0
    split at h
    · rename_i b t0
      split at h
      · rename_i hc
        simp only [Bool.and_eq_true] at hc
        obtain ⟨o0, hk⟩ := hc
        cases h
        exact ⟨FnPure.cov (decode_pA b o0 hk) (.cons (cov_B t0) .nil), rfl⟩
      · cases h
    · cases h
  · cases h

def l116 : List (FuncId × (List AV → Option (AV × Bool))) :=
  (25, g_trEncL) :: (38, g_trDecL) :: l113
theorem l116_ok : ∀ p ∈ l116, EntOk Try.prog p.1 p.2 := ent_cons e_trEncL (ent_cons e_trDecL (l113_ok))
def PT116 : PTab := tab l116
theorem PT116_ok : PTok Try.prog PT116 := tab_ok l116_ok
@[simp] theorem PT116_litVar : PT116 32 = g_litVar := rfl
@[simp] theorem PT116_litValid : PT116 77 = g_litValid := rfl
@[simp] theorem PT116_contains : PT116 50 = g_contains := rfl
@[simp] theorem PT116_check : PT116 46 = g_check := rfl
@[simp] theorem PT116_with : PT116 33 = g_with := rfl
@[simp] theorem PT116_without : PT116 31 = g_without := rfl
@[simp] theorem PT116_all : PT116 30 = g_all := rfl
@[simp] theorem PT116_rValid : PT116 71 = g_rValid := rfl
@[simp] theorem PT116_rCheck : PT116 42 = g_rCheck := rfl
@[simp] theorem PT116_litvalid : PT116 85 = g_litvalid := rfl
@[simp] theorem PT116_opposite : PT116 87 = g_opposite := rfl
@[simp] theorem PT116_clone : PT116 99 = g_clone := rfl
@[simp] theorem PT116_order : PT116 86 = g_order := rfl
@[simp] theorem PT116_term : PT116 69 = g_term := rfl
@[simp] theorem PT116_clause : PT116 57 = g_clause := rfl
@[simp] theorem PT116_equal : PT116 61 = g_equal := rfl
@[simp] theorem PT116_distinct : PT116 60 = g_distinct := rfl
@[simp] theorem PT116_normal : PT116 27 = g_normal := rfl
@[simp] theorem PT116_rContains : PT116 74 = g_rContains := rfl
@[simp] theorem PT116_rSameInts : PT116 52 = g_rSameInts := rfl
@[simp] theorem PT116_rAbs : PT116 114 = g_rAbs := rfl
@[simp] theorem PT116_rBefore : PT116 97 = g_rBefore := rfl
@[simp] theorem PT116_rSorted : PT116 75 = g_rSorted := rfl
@[simp] theorem PT116_rPut : PT116 76 = g_rPut := rfl
@[simp] theorem PT116_rNormal : PT116 45 = g_rNormal := rfl
@[simp] theorem PT116_place : PT116 62 = g_place := rfl
@[simp] theorem PT116_vHas : PT116 34 = g_vHas := rfl
@[simp] theorem PT116_vMinus : PT116 90 = g_vMinus := rfl
@[simp] theorem PT116_vCut : PT116 29 = g_vCut := rfl
@[simp] theorem PT116_vSub : PT116 65 = g_vSub := rfl
@[simp] theorem PT116_litHolds : PT116 64 = g_litHolds := rfl
@[simp] theorem PT116_litAny : PT116 36 = g_litAny := rfl
@[simp] theorem PT116_thEval : PT116 37 = g_thEval := rfl
@[simp] theorem PT116_rSame : PT116 22 = g_rSame := rfl
@[simp] theorem PT116_rTerm : PT116 73 = g_rTerm := rfl
@[simp] theorem PT116_thVars : PT116 35 = g_thVars := rfl
@[simp] theorem PT116_light : PT116 13 = g_light := rfl
@[simp] theorem PT116_trWorks : PT116 15 = g_trWorks := rfl
@[simp] theorem PT116_trEncL : PT116 25 = g_trEncL := rfl
@[simp] theorem PT116_trDecL : PT116 38 = g_trDecL := rfl
end Go.Proofs.Ythdjgcjpolpgdaa
