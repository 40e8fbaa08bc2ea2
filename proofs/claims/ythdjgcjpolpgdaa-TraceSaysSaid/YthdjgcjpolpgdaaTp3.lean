/- Plain laws for TraceMore: a list that is found in another one, from the front; no program. -/
import Derived.Test.YthdjgcjpolpgdaaTp2
namespace Go.Proofs.Ythdjgcjpolpgdaa
set_option linter.unusedVariables false
set_option linter.unusedSimpArgs false
set_option linter.unusedSectionVars false
open Go.RowKit
set_option maxRecDepth 100000
/-- One more of a is found. -/
def grS (a : List Int) (k : Nat) (i : Int) : Nat := if k < a.length ∧ a.getD k 0 = i then k + 1 else k
/-- So many of a are found in b, from the front. -/
def grK (a b : List Int) : Nat := b.foldl (grS a) 0
theorem grS_le {a : List Int} {k : Nat} (h : k ≤ a.length) (i : Int) : grS a k i ≤ a.length := by unfold grS; split <;> omega
theorem grK_le (a : List Int) : ∀ (b : List Int) (k : Nat), k ≤ a.length → b.foldl (grS a) k ≤ a.length
  | [], _, h => h
  | i :: b, k, h => by rw [List.foldl_cons]; exact grK_le a b _ (grS_le h i)
theorem grK_succ (a : List Int) {b : List Int} {k : Nat} (h : k < b.length) : grK a (b.take (k + 1)) = grS a (grK a (b.take k)) (b.getD k 0) := by
  unfold grK
  rw [List.take_succ_eq_append_getElem h, List.foldl_append]
  simp [List.getD, h]
theorem grK_sub {a : List Int} : ∀ {b : List Int} {k : Nat}, k ≤ a.length → (a.drop k).Sublist b → b.foldl (grS a) k = a.length
  | [], k, hk, h => by
    have := List.eq_nil_of_sublist_nil h
    rw [List.drop_eq_nil_iff] at this
    simp only [List.foldl_nil]; omega
  | i :: b, k, hk, h => by
    rw [List.foldl_cons]
    unfold grS
    split
    · rename_i hh
      refine grK_sub (by omega) ?_
      have e : a.getD k 0 = a[k] := by simp [List.getD, hh.1]
      rw [List.drop_eq_getElem_cons hh.1, ← e, hh.2] at h
      exact List.cons_sublist_cons.1 h
    · rename_i hh
      refine grK_sub hk ?_
      rcases List.sublist_cons_iff.1 h with h | ⟨r, h1, h2⟩
      · exact h
      · by_cases hlt : k < a.length
        · exfalso
          have e : a.getD k 0 = a[k] := by simp [List.getD, hlt]
          rw [List.drop_eq_getElem_cons hlt] at h1
          exact hh ⟨hlt, by rw [e]; exact (List.cons.inj h1).1⟩
        · rw [List.drop_eq_nil_of_le (by omega)]; exact List.nil_sublist _
theorem in_sub {a b : List Int} (h : a.Sublist b) : decide (grK a b = a.length) = true := by
  rw [decide_eq_true_eq]
  exact grK_sub (Nat.zero_le _) (by simpa using h)
theorem kept_more (L : List (List Int)) (ts cs : List Int) (l : Int) : (keptL L (ts ++ [l]) cs).Sublist (keptL L ts cs) := by
  have : keptL L (ts ++ [l]) cs = (keptL L ts cs).filter (keptF L (ts ++ [l])) := by
    unfold keptL
    rw [List.filter_filter]
    refine List.filter_congr fun i _ => ?_
    cases h : keptF L (ts ++ [l]) i
    · rfl
    · rw [Bool.true_and, eq_comm]
      unfold keptF at h ⊢
      rw [Bool.not_eq_true', List.any_eq_false] at h ⊢
      intro x hx he
      rw [decide_eq_true_eq] at he
      exact h x hx (by rw [decide_eq_true_eq]; exact List.mem_append_left _ he)
  rw [this]; exact List.filter_sublist
theorem kept_less (L : List (List Int)) (ts cs : List Int) (n : Nat) : (keptL L ts (cs.take n)).Sublist (keptL L ts cs) := (List.take_sublist n cs).filter _
end Go.Proofs.Ythdjgcjpolpgdaa
