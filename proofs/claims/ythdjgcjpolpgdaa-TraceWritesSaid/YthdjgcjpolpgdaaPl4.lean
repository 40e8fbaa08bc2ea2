/- Plain laws: normal forms see clauses as sets of literals; what is left where a term is true; no program. -/
import Derived.Test.YthdjgcjpolpgdaaPl3
namespace Go.Proofs.Ythdjgcjpolpgdaa
set_option linter.unusedVariables false
set_option linter.unusedSimpArgs false
set_option linter.unusedSectionVars false
open Go.RowKit
set_option maxRecDepth 100000
theorem sortK_congr {c d : List Int} (h : ∀ y, y ∈ c ↔ y ∈ d) (k : Nat) : sortK c k = sortK d k := by
  unfold sortK
  congr 1
  funext i
  simp only [h]
theorem normL_congr {N : Int} {L M : List (List Int)} (hL : checkT N L = 0) (hM : checkT N M = 0) (h1 : ∀ c ∈ L, ∃ d ∈ M, ∀ y, y ∈ c ↔ y ∈ d) (h2 : ∀ d ∈ M, ∃ c ∈ L, ∀ y, y ∈ d ↔ y ∈ c) : normL L = normL M := by
  refine strict_unique clLt_asymm (normL_strict hL) (normL_strict hM) fun z => ?_
  rw [normL_mem hL, normL_mem hM]
  constructor
  · rintro ⟨c, hc, h3, rfl⟩
    obtain ⟨d, hd, hy⟩ := h1 c hc
    exact ⟨d, hd, by rw [← altK_congr hy]; exact h3, sortK_congr hy _⟩
  · rintro ⟨d, hd, h3, rfl⟩
    obtain ⟨c, hc, hy⟩ := h2 d hd
    exact ⟨c, hc, by rw [← altK_congr hy]; exact h3, sortK_congr hy _⟩
theorem litHolds_opp {s : BitVec 128} {l : Int} (h : litHolds s l = true) : litHolds s (-l) = false := by
  unfold litHolds at *
  simp only [Bool.and_eq_true, decide_eq_true_eq, beq_iff_eq] at h
  obtain ⟨h1, h2⟩ := h
  have hr : (1 ≤ l ∧ l ≤ 128) ∨ (-128 ≤ l ∧ l ≤ -1) := by
    rcases Classical.em (1 ≤ l ∧ l ≤ 128) with h | h
    · exact .inl h
    · rcases Classical.em (-128 ≤ l ∧ l ≤ -1) with k | k
      · exact .inr k
      · rw [litVar_no (by omega)] at h1; omega
  rcases hr with ⟨a, b⟩ | ⟨a, b⟩
  · rw [litVar_pos a b] at h2
    rw [litVar_neg (by omega) (by omega), Int.neg_neg, h2, decide_eq_true (by omega : 0 < l), decide_eq_false (by omega : ¬ 0 < -l)]; simp
  · rw [litVar_neg a b] at h2
    rw [litVar_pos (by omega) (by omega), h2, decide_eq_false (by omega : ¬ 0 < l), decide_eq_true (by omega : 0 < -l)]; simp
theorem givenT_eval {N : Int} {L : List (List Int)} (hz : checkT N L = 0) {ts : List Int} {s : BitVec 128} (h : ∀ l ∈ ts, litHolds s l = true) : evalT N (givenT ts L) s = evalT N L s := by
  unfold evalT
  rw [givenT_check hz, hz]
  congr 1
  rw [Bool.eq_iff_iff, List.all_eq_true, List.all_eq_true]
  constructor
  · intro k c hc
    cases ho : openC ts c
    · unfold openC at ho
      rw [Bool.not_eq_false', List.any_eq_true] at ho
      obtain ⟨l, hl, hl2⟩ := ho
      exact List.any_eq_true.2 ⟨l, hl, h l (of_decide_eq_true hl2)⟩
    · have := k _ (givenT_mem.2 ⟨c, hc, ho, rfl⟩)
      obtain ⟨l, hl, hl2⟩ := List.any_eq_true.1 this
      exact List.any_eq_true.2 ⟨l, (List.mem_filter.1 hl).1, hl2⟩
  · intro k z hzz
    obtain ⟨c, hc, ho, rfl⟩ := givenT_mem.1 hzz
    obtain ⟨l, hl, hl2⟩ := List.any_eq_true.1 (k c hc)
    refine List.any_eq_true.2 ⟨l, List.mem_filter.2 ⟨hl, ?_⟩, hl2⟩
    rw [Bool.not_eq_true']
    refine decide_eq_false fun hn => ?_
    have := litHolds_opp (h _ hn)
    rw [Int.neg_neg, hl2] at this
    cases this
end Go.Proofs.Ythdjgcjpolpgdaa
