/- Plain laws of claims: terms of claims are terms; residuals; no program. -/
import Derived.Test.YthdjgcjpolpgdaaTr2
import Derived.Test.YthdjgcjpolpgdaaPl4
namespace Go.Proofs.Ythdjgcjpolpgdaa
set_option linter.unusedVariables false
set_option linter.unusedSimpArgs false
set_option linter.unusedSectionVars false
open Go.RowKit
set_option maxRecDepth 100000
theorem row_has {N : Int} (hN : N ≤ 128) {ts : List Int} {j : Nat} (hj : j ≤ ts.length) (h : ∀ i, i < j → litOk (ts.getD i 0) N = true) : ∀ i, i < j → sHas (varsRow 0#128 ts j) (litVar (ts.getD i 0)) = true := by
  induction j with
  | zero => intro i hi; omega
  | succ j ih =>
    intro i hi
    rw [varsRow_succ 0#128 (by omega), sHas_with]
    by_cases e : i < j
    · rw [ih (by omega) (fun i hi => h i (by omega)) i e, Bool.true_or]
    · obtain rfl : i = j := by omega
      have := litVar_abs (h i (by omega))
      have h2 : decide (litVar (ts.getD i 0) = litVar (ts.getD i 0) ∧ 1 ≤ litVar (ts.getD i 0) ∧ litVar (ts.getD i 0) ≤ 128) = true := by
        rw [decide_eq_true_eq]; exact ⟨rfl, by omega, by omega⟩
      rw [h2, Bool.or_true]
theorem good_lits {N m : Int} {ts cs : List Int} (h : goodB N m ts cs = true) : ∀ l ∈ ts, litOk l N = true := by
  intro l hl
  obtain ⟨i, hi, rfl⟩ := List.getElem_of_mem hl
  have := (good_parts h).1 i hi
  rw [tmOk, Bool.and_eq_true] at this
  have e : ts.getD i 0 = ts[i] := by simp [List.getD, hi]
  rw [← e]; exact this.1
theorem good_var {N m : Int} (hN : N ≤ 128) {ts cs : List Int} (h : goodB N m ts cs = true) {i j : Nat} (hij : i < j) (hj : j < ts.length) : litVar (ts.getD i 0) ≠ litVar (ts.getD j 0) := by
  intro e
  have h1 := (good_parts h).1
  have h2 := h1 j hj
  have h3 := row_has hN (ts := ts) (j := j) (by omega) (fun k hk => by have := h1 k (by omega); rw [tmOk, Bool.and_eq_true] at this; exact this.1) i hij
  rw [tmOk, ← e, h3, Bool.and_eq_true] at h2
  cases h2.2
theorem litVar_opp {l N : Int} (h : litOk l N = true) : litVar (-l) = litVar l ∧ -l ≠ l := by
  have := litVar_range l
  simp only [litOk, Bool.and_eq_true, decide_eq_true_eq] at h
  have h1 := h.1
  unfold litVar at h1 ⊢
  split at h1
  · rename_i h2
    rw [if_neg (by omega), if_pos (by omega), if_pos h2]
    exact ⟨by omega, by omega⟩
  · split at h1
    · rename_i h2 h3
      rw [if_pos (by omega), if_neg h2, if_pos h3]
      exact ⟨rfl, by omega⟩
    · omega
theorem good_opp {N m : Int} (hN : N ≤ 128) {ts cs : List Int} (h : goodB N m ts cs = true) : ∀ l ∈ ts, -l ∉ ts := by
  intro l hl hn
  have hl' := good_lits h l hl
  obtain ⟨e1, e2⟩ := litVar_opp hl'
  obtain ⟨i, hi, rfl⟩ := List.getElem_of_mem hl
  obtain ⟨j, hj, e⟩ := List.getElem_of_mem hn
  have ei : ts.getD i 0 = ts[i] := by simp [List.getD, hi]
  have ej : ts.getD j 0 = ts[j] := by simp [List.getD, hj]
  rcases Nat.lt_trichotomy i j with hij | rfl | hij
  · exact good_var hN h hij hj (by rw [ei, ej, e, e1])
  · exact e2 e.symm
  · exact good_var hN h hij hi (by rw [ei, ej, e, e1])
theorem good_term {N m : Int} (hN : N ≤ 128) {ts cs : List Int} (h : goodB N m ts cs = true) : termR N ts = true := by
  unfold termR
  refine List.all_eq_true.2 fun l hl => ?_
  rw [good_lits h l hl, Bool.true_and, Bool.not_eq_true', decide_eq_false_iff_not]
  exact good_opp hN h l hl
def rowsOf (L : List (List Int)) (is : List Int) : List (List Int) := is.map fun i => L.getD i.toNat []
theorem rowsOf_len (L : List (List Int)) (is : List Int) : (rowsOf L is).length = is.length := List.length_map _
theorem rowsOf_succ (L : List (List Int)) {is : List Int} {k : Nat} (h : k < is.length) : rowsOf L (is.take (k + 1)) = rowsOf L (is.take k) ++ [L.getD (is.getD k 0).toNat []] := by
  unfold rowsOf
  rw [List.take_succ_eq_append_getElem h, List.map_append]
  simp [List.getD, h]
theorem good_mem {N m : Int} {ts cs : List Int} (h : goodB N m ts cs = true) : ∀ i ∈ cs, 0 ≤ i ∧ i < m := by
  intro i hi
  obtain ⟨k, hk, rfl⟩ := List.getElem_of_mem hi
  have := good_ix h k hk
  have e : cs.getD k 0 = cs[k] := by simp [List.getD, hk]
  rw [e] at this
  omega
theorem rowsOf_check {N : Int} {L : List (List Int)} {is : List Int} (hz : checkT N L = 0) (hn : is.length ≤ 4096) (h : ∀ i ∈ is, 0 ≤ i ∧ i < L.length) : checkT N (rowsOf L is) = 0 := by
  obtain ⟨h0, h1, _, h3⟩ := checkT_ok hz
  refine checkT_of h0 h1 (by rw [rowsOf_len]; exact hn) fun c hc => ?_
  unfold rowsOf at hc
  obtain ⟨i, hi, rfl⟩ := List.mem_map.1 hc
  have := h i hi
  exact h3 _ (getD_memL (by omega))
theorem good_len {N m : Int} {ts cs : List Int} (h : goodB N m ts cs = true) (hm : m ≤ 4096) : cs.length ≤ 4096 := by
  by_cases h0 : cs.length = 0
  · omega
  · have := good_ix h (cs.length - 1) (by omega)
    omega
theorem good_tlen {N m : Int} (hN : N ≤ 128) {ts cs : List Int} (h : goodB N m ts cs = true) : True := trivial
def rsdL (L : List (List Int)) (ts cs : List Int) : List (List Int) := normL (givenT ts (rowsOf L (keptL L ts cs)))
def resA (N : Int) (L : List (List Int)) (ts cs : List Int) : AV := if checkT N L = 0 ∧ goodB N L.length ts cs = true then .tup [aTh N (rsdL L ts cs), .v (.int .i64 0)] else .tup [.agg [.v (.int .i64 0), .v (.slice none 0 0)], .v (.int .i64 1)]
theorem kept_mem {L : List (List Int)} {ts cs : List Int} {i : Int} (h : i ∈ keptL L ts cs) : i ∈ cs := (List.mem_filter.1 h).1
theorem left_check {N : Int} {L : List (List Int)} {ts cs : List Int} (hz : checkT N L = 0) (hg : goodB N L.length ts cs = true) : checkT N (rowsOf L (keptL L ts cs)) = 0 := by
  obtain ⟨_, _, h2, _⟩ := checkT_ok hz
  have h1 := good_len hg (by omega)
  have h3 := keptL_len L ts cs
  exact rowsOf_check hz (by omega) fun i hi => good_mem hg i (kept_mem hi)
theorem res_check {N : Int} {L : List (List Int)} {ts cs : List Int} (hz : checkT N L = 0) (hg : goodB N L.length ts cs = true) : checkT N (rsdL L ts cs) = 0 := normL_check (givenT_check (left_check hz hg) ts)
end Go.Proofs.Ythdjgcjpolpgdaa
