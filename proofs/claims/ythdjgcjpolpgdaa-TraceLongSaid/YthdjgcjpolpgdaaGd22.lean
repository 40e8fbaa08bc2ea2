/- Plain facts of claims that are well formed; no program. -/
import Derived.Test.YthdjgcjpolpgdaaTq22
namespace Go.Proofs.Ythdjgcjpolpgdaa
set_option linter.unusedVariables false
set_option linter.unusedSimpArgs false
set_option linter.unusedSectionVars false
open Go.RowKit
set_option maxRecDepth 100000
theorem litOk_of {l N : Int} (h1 : N ≤ 128) (h : (1 ≤ l ∧ l ≤ N) ∨ (l ≤ -1 ∧ -N ≤ l)) : litOk l N = true := by
  unfold litOk litVar
  simp only [Bool.and_eq_true, decide_eq_true_eq]
  split
  · omega
  · split <;> omega
theorem good_parts {N m : Int} {ts cs : List Int} (h : goodB N m ts cs = true) : (∀ j, j < ts.length → tmOk N ts j = true) ∧ ∀ j, j < cs.length → ixAsc cs m j = true := by
  simp only [goodB, Bool.and_eq_true, List.all_eq_true] at h
  exact ⟨fun j hj => h.1 j (List.mem_range.2 hj), fun j hj => h.2 j (List.mem_range.2 hj)⟩
theorem good_ix {N m : Int} {ts cs : List Int} (h : goodB N m ts cs = true) : ∀ k, k < cs.length → (k : Int) ≤ cs.getD k 0 ∧ cs.getD k 0 < m := by
  obtain ⟨_, h2⟩ := good_parts h
  intro k
  induction k with
  | zero =>
    intro hk
    have := h2 0 hk
    simp only [ixAsc, lastK, if_true, Bool.and_eq_true, decide_eq_true_eq] at this
    omega
  | succ k ih =>
    intro hk
    have h3 := ih (by omega)
    have := h2 (k + 1) hk
    rw [ixAsc, lastK_succ, Bool.and_eq_true, decide_eq_true_eq, decide_eq_true_eq] at this
    omega
theorem row_has {N : Int} (hN : N ≤ 128) {ts : List Int} {j : Nat} (hj : j ≤ ts.length) (h : ∀ i, i < j → litOk (ts.getD i 0) N = true) : ∀ i, i < j → sHas (varsRow 0#128 ts j) (litVar (ts.getD i 0)) = true := by
  induction j with
  | zero => intro i hi; omega
  | succ j ih =>
    intro i hi
    rw [varsRow_succ 0#128 (by omega), sHas_with]
    by_cases e : i < j
    · rw [ih (by omega) (fun i hi => h i (by omega)) i e, Bool.true_or]
    · obtain rfl : i = j := by omega
      have := litVar_abs (h i (by omega))
      have h2 : decide (litVar (ts.getD i 0) = litVar (ts.getD i 0) ∧ 1 ≤ litVar (ts.getD i 0) ∧ litVar (ts.getD i 0) ≤ 128) = true := by
        rw [decide_eq_true_eq]; exact ⟨rfl, by omega, by omega⟩
      rw [h2, Bool.or_true]
theorem good_lits {N m : Int} {ts cs : List Int} (h : goodB N m ts cs = true) : ∀ l ∈ ts, litOk l N = true := by
  intro l hl
  obtain ⟨i, hi, rfl⟩ := List.getElem_of_mem hl
  have := (good_parts h).1 i hi
  rw [tmOk, Bool.and_eq_true] at this
  have e : ts.getD i 0 = ts[i] := by simp [List.getD, hi]
  rw [← e]; exact this.1
theorem good_var {N m : Int} (hN : N ≤ 128) {ts cs : List Int} (h : goodB N m ts cs = true) {i j : Nat} (hij : i < j) (hj : j < ts.length) : litVar (ts.getD i 0) ≠ litVar (ts.getD j 0) := by
  intro e
  have h1 := (good_parts h).1
  have h2 := h1 j hj
  have h3 := row_has hN (ts := ts) (j := j) (by omega) (fun k hk => by have := h1 k (by omega); rw [tmOk, Bool.and_eq_true] at this; exact this.1) i hij
  rw [tmOk, ← e, h3, Bool.and_eq_true] at h2
  cases h2.2
theorem good_mem {N m : Int} {ts cs : List Int} (h : goodB N m ts cs = true) : ∀ i ∈ cs, 0 ≤ i ∧ i < m := by
  intro i hi
  obtain ⟨k, hk, rfl⟩ := List.getElem_of_mem hi
  have := good_ix h k hk
  have e : cs.getD k 0 = cs[k] := by simp [List.getD, hk]
  rw [e] at this
  omega
theorem good_len {N m : Int} {ts cs : List Int} (h : goodB N m ts cs = true) (hm : m ≤ 4096) : cs.length ≤ 4096 := by
  by_cases h0 : cs.length = 0
  · omega
  · have := good_ix h (cs.length - 1) (by omega)
    omega
end Go.Proofs.Ythdjgcjpolpgdaa
