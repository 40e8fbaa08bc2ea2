/- Claims as arguments; the table of the laws of chapter 22; no condition. -/
import Derived.Test.YthdjgcjpolpgdaaTr4
import Derived.Test.YthdjgcjpolpgdaaCvG
import Derived.Test.YthdjgcjpolpgdaaWk22
namespace Go.Proofs.Ythdjgcjpolpgdaa
set_option linter.unusedVariables false
set_option linter.unusedSimpArgs false
set_option linter.unusedSectionVars false
open Go.RowKit
set_option maxRecDepth 100000
section
variable {H : Type} {enc : TypeId × Value → H} {W : World}
theorem opens_cl : Opens enc Try.prog W 27 (fun r => ∃ ts cs, r = [aInts ts, aInts cs] ∧ okIL ts = true ∧ okIL cs = true) :=
  (opens_st2 (t0 := 25) (t1 := 25) (c0 := 1) (c1 := 1) Try.underlying27 rfl rfl rfl rfl (by kernel_rfl) (by kernel_rfl) (by kernel_rfl) opens_ints opens_ints).mono fun r h => by
    obtain ⟨_, _, rfl, ⟨N, rfl, hN⟩, L, rfl, hL⟩ := h
    exact ⟨N, L, rfl, hN, hL⟩
theorem arg_cl {base : Nat} {sp : Nat → Bool} {held : Bool} {v : Value} {d : DataW H} {p : List MemPlace} (hval : Value.okWide Try.prog W .any base 27 v) (h : DataW.Trod enc Try.prog W 0 sp held 27 v d p) :
    ∃ ts cs, Rv (G0 (allS W)) (aCl ts cs) v ∧ okIL ts = true ∧ okIL cs = true := by
  obtain ⟨row, h1, N, L, rfl, h2, h3⟩ := arg_agg (.inl ⟨_, Try.underlying27⟩) hval h opens_cl
  exact ⟨N, L, h1, h2, h3⟩
end
theorem lightC_ok {ts cs : List Int} (h1 : okIL ts = true) (h2 : okIL cs = true) (h : lightC ts cs = true) : okInts ts = true ∧ okInts cs = true ∧ ts.length ≤ 200 ∧ cs.length ≤ 300 := by
  simp only [lightC, Bool.and_eq_true, decide_eq_true_eq] at h
  exact ⟨okInts_il h1 (by omega), okInts_il h2 (by omega), h.1, h.2⟩
@[simp] def g_trWorks : List AV → Option (AV × Bool)
  | [] => if (true) = true then some (.v (.bool true), false) else none
  | _ => none
theorem e_trWorks : EntOk Try.prog 15 g_trWorks := ent_pure (by kernel_rfl) fun args r fr h => by
  unfold g_trWorks at h
  split at h
  · split at h
    · rename_i hc
      cases h
      exact ⟨FnPure.cov (works_p) .nil, rfl⟩
    · cases h
  · cases h

def l49 : List (FuncId × (List AV → Option (AV × Bool))) :=
  (15, g_trWorks) :: l27
theorem l49_ok : ∀ p ∈ l49, EntOk Try.prog p.1 p.2 := ent_cons e_trWorks (l27_ok)
def PT49 : PTab := tab l49
theorem PT49_ok : PTok Try.prog PT49 := tab_ok l49_ok
@[simp] theorem PT49_litVar : PT49 32 = g_litVar := rfl
@[simp] theorem PT49_litValid : PT49 77 = g_litValid := rfl
@[simp] theorem PT49_contains : PT49 50 = g_contains := rfl
@[simp] theorem PT49_check : PT49 46 = g_check := rfl
@[simp] theorem PT49_with : PT49 33 = g_with := rfl
@[simp] theorem PT49_without : PT49 31 = g_without := rfl
@[simp] theorem PT49_all : PT49 30 = g_all := rfl
@[simp] theorem PT49_rValid : PT49 71 = g_rValid := rfl
@[simp] theorem PT49_rCheck : PT49 42 = g_rCheck := rfl
@[simp] theorem PT49_litvalid : PT49 85 = g_litvalid := rfl
@[simp] theorem PT49_opposite : PT49 87 = g_opposite := rfl
@[simp] theorem PT49_clone : PT49 99 = g_clone := rfl
@[simp] theorem PT49_order : PT49 86 = g_order := rfl
@[simp] theorem PT49_term : PT49 69 = g_term := rfl
@[simp] theorem PT49_clause : PT49 57 = g_clause := rfl
@[simp] theorem PT49_equal : PT49 61 = g_equal := rfl
@[simp] theorem PT49_distinct : PT49 60 = g_distinct := rfl
@[simp] theorem PT49_normal : PT49 27 = g_normal := rfl
@[simp] theorem PT49_rContains : PT49 74 = g_rContains := rfl
@[simp] theorem PT49_rSameInts : PT49 52 = g_rSameInts := rfl
@[simp] theorem PT49_rAbs : PT49 114 = g_rAbs := rfl
@[simp] theorem PT49_rBefore : PT49 97 = g_rBefore := rfl
@[simp] theorem PT49_rSorted : PT49 75 = g_rSorted := rfl
@[simp] theorem PT49_rPut : PT49 76 = g_rPut := rfl
@[simp] theorem PT49_rNormal : PT49 45 = g_rNormal := rfl
@[simp] theorem PT49_place : PT49 62 = g_place := rfl
@[simp] theorem PT49_vHas : PT49 34 = g_vHas := rfl
@[simp] theorem PT49_vMinus : PT49 90 = g_vMinus := rfl
@[simp] theorem PT49_vCut : PT49 29 = g_vCut := rfl
@[simp] theorem PT49_vSub : PT49 65 = g_vSub := rfl
@[simp] theorem PT49_litHolds : PT49 64 = g_litHolds := rfl
@[simp] theorem PT49_litAny : PT49 36 = g_litAny := rfl
@[simp] theorem PT49_thEval : PT49 37 = g_thEval := rfl
@[simp] theorem PT49_rSame : PT49 22 = g_rSame := rfl
@[simp] theorem PT49_rTerm : PT49 73 = g_rTerm := rfl
@[simp] theorem PT49_thVars : PT49 35 = g_thVars := rfl
@[simp] theorem PT49_given : PT49 41 = g_given := rfl
@[simp] theorem PT49_light : PT49 13 = g_light := rfl
@[simp] theorem PT49_trLight : PT49 14 = g_trLight := rfl
@[simp] theorem PT49_trGood : PT49 47 = g_trGood := rfl
@[simp] theorem PT49_trLeft : PT49 20 = g_trLeft := rfl
@[simp] theorem PT49_trRes : PT49 18 = g_trRes := rfl
@[simp] theorem PT49_trIn : PT49 28 = g_trIn := rfl
@[simp] theorem PT49_trWorks : PT49 15 = g_trWorks := rfl
end Go.Proofs.Ythdjgcjpolpgdaa
