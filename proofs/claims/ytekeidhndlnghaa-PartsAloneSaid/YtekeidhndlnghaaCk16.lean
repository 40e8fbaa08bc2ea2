/- parts.checked says what the document's valid says; the order of a term does not matter; plain lemmas; no condition. -/
import Derived.Test.YtekeidhndlnghaaPo16
import Derived.Test.YtekeidhndlnghaaRa16
namespace Go.Proofs.Ytekeidhndlnghaa
set_option linter.unusedVariables false
set_option linter.unusedSimpArgs false
set_option linter.unusedSectionVars false
open Go.RowKit
theorem altK_iff6 {ts : List Int} {k : Nat} : altK ts k = true ↔ ∃ i : Nat, i < k ∧ ((i : Int) + 1) ∈ ts ∧ -((i : Int) + 1) ∈ ts := by
  unfold altK
  simp only [List.any_eq_true, List.mem_range, Bool.and_eq_true, decide_eq_true_eq]
theorem opp_alt {c : List Int} {N : Int} (hN : 0 ≤ N ∧ N ≤ 128) (h : ∀ y ∈ c, litOk y N = true) : opposed c = altK c N.toNat := by
  have key : opposed c = true ↔ altK c N.toNat = true := by
    rw [altK_iff6]
    unfold opposed
    simp only [List.any_eq_true, Bool.and_eq_true, decide_eq_true_eq]
    constructor
    · rintro ⟨y, hy, _, hn⟩
      have hr := litOk_range (h y hy)
      by_cases h0 : 0 < y
      · exact ⟨(y - 1).toNat, by omega, by rw [show (((y - 1).toNat : Nat) : Int) + 1 = y by omega]; exact hy, by rw [show (((y - 1).toNat : Nat) : Int) + 1 = y by omega]; exact hn⟩
      · exact ⟨(-y - 1).toNat, by omega, by rw [show (((-y - 1).toNat : Nat) : Int) + 1 = -y by omega]; exact hn, by rw [show -((((-y - 1).toNat : Nat) : Int) + 1) = y by omega]; exact hy⟩
    · rintro ⟨i, _, h1, h2⟩
      exact ⟨_, h1, by have := (litVar_abs (h _ h1)).2.1; omega, h2⟩
  cases h1 : opposed c <;> cases h2 : altK c N.toNat <;> simp_all
theorem chkL_valid (N : Int) (L : List (List Int)) (ts : List Int) : chkL N L ts = if validT N L ts = true then some (orderL ts) else none := by
  unfold chkL validT
  by_cases hz : checkT N L = 0
  · obtain ⟨n0, n1, _, _⟩ := checkT_ok hz
    rw [if_pos hz]
    unfold termL
    cases hv : ts.all fun y => litOk y N
    · simp
    · rw [adjOpp_altK ⟨n0, n1⟩ (List.all_eq_true.1 hv), opp_alt ⟨n0, n1⟩ (List.all_eq_true.1 hv)]
      simp [hz]
  · rw [if_neg hz]
    simp [hz]
theorem leftL_order (c ts : List Int) : leftL c (orderL ts) = leftL c ts := by
  unfold leftL
  simp [mem_orderL]
theorem restL_order (c ts : List Int) : restL c (orderL ts) = restL c ts := by
  unfold restL
  simp [mem_orderL]
theorem alnB_order (L : List (List Int)) (ts cs : List Int) : alnB L (orderL ts) cs = alnB L ts cs := by
  unfold alnB
  simp [leftL_order]
theorem alnL_order (L : List (List Int)) (ts cs : List Int) : alnL L (orderL ts) cs = alnL L ts cs := by
  unfold alnL
  simp [restL_order]
end Go.Proofs.Ytekeidhndlnghaa
