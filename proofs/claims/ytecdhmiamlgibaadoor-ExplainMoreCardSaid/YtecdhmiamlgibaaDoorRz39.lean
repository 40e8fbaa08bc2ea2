/- Reasons as sets of places (plain); no condition. -/
import Derived.Test.YtecdhmiamlgibaaDoorIx39
namespace Go.Proofs.YtecdhmiamlgibaaDoor
set_option linter.unusedVariables false
set_option linter.unusedSimpArgs false
set_option linter.unusedSectionVars false
open Go.RowKit
set_option maxRecDepth 100000
def cmpl (n P : Nat) : Nat := (2 ^ n - 1) ^^^ P
theorem cmpl_bit (n P p : Nat) : (cmpl n P).testBit p = (decide (p < n) ^^ P.testBit p) := by
  unfold cmpl; rw [Nat.testBit_xor, Nat.testBit_two_pow_sub_one]
theorem cmpl_lt {n P : Nat} (h : P < 2 ^ n) : cmpl n P < 2 ^ n := Nat.xor_lt_two_pow (by have := Nat.two_pow_pos n; omega) h
theorem bit_hi {n P p : Nat} (h : P < 2 ^ n) (hp : P.testBit p = true) : p < n := by
  by_cases e : p < n
  · exact e
  · have := Nat.testBit_lt_two_pow (Nat.lt_of_lt_of_le h (Nat.pow_le_pow_right (by omega) (Nat.le_of_not_lt e)) : P < 2 ^ p)
    rw [this] at hp; cases hp
theorem or_lt {n x k : Nat} (h : x < 2 ^ n) (hk : k < n) : x ||| 2 ^ k < 2 ^ n := Nat.or_lt_two_pow h (Nat.pow_lt_pow_right (by omega) hk)
def leastB (f : Nat → Bool) (n at0 P : Nat) : Bool := !chgB f n at0 (cmpl n P) && (List.range n).all fun k => !P.testBit k || chgB f n at0 (cmpl n P ||| 2 ^ k)
theorem least_no {f : Nat → Bool} {n at0 P : Nat} (h : leastB f n at0 P = true) : chgB f n at0 (cmpl n P) = false := by
  unfold leastB at h
  rw [Bool.and_eq_true, Bool.not_eq_true'] at h
  exact h.1
theorem least_bit {f : Nat → Bool} {n at0 P k : Nat} (hP : P < 2 ^ n) (h : leastB f n at0 P = true) (hk : P.testBit k = true) : chgB f n at0 (cmpl n P ||| 2 ^ k) = true := by
  unfold leastB at h
  rw [Bool.and_eq_true] at h
  have := List.all_eq_true.1 h.2 k (List.mem_range.2 (bit_hi hP hk))
  rw [hk] at this
  simpa using this
theorem cmpl_or {n P k : Nat} (hP : P < 2 ^ n) (hk : P.testBit k = true) : cmpl n P ||| 2 ^ k = cmpl n (P ^^^ 2 ^ k) := by
  apply Nat.eq_of_testBit_eq
  intro p
  rw [Nat.testBit_or, cmpl_bit, cmpl_bit, Nat.testBit_xor, Nat.testBit_two_pow]
  by_cases e : k = p
  · subst e
    rw [hk, decide_eq_true (bit_hi hP hk), decide_eq_true rfl]; rfl
  · rw [decide_eq_false e, Bool.or_false, Bool.xor_false]
theorem xor_lt_self {P k : Nat} (hk : P.testBit k = true) : P ^^^ 2 ^ k < P := by
  have e : P ^^^ 2 ^ k = P &&& (P ^^^ 2 ^ k) := by
    apply Nat.eq_of_testBit_eq
    intro p
    rw [Nat.testBit_and, Nat.testBit_xor, Nat.testBit_two_pow]
    by_cases e : k = p
    · subst e; rw [hk, decide_eq_true rfl]; rfl
    · rw [decide_eq_false e, Bool.xor_false, Bool.and_self]
  have h1 : P ^^^ 2 ^ k ≤ P := by rw [e]; exact Nat.and_le_left
  have h2 : P ^^^ 2 ^ k ≠ P := fun h => by
    have := congrArg (fun x => x.testBit k) h
    simp only [Nat.testBit_xor, Nat.testBit_two_pow, decide_true, hk] at this
    cases this
  omega
theorem least_ex {f : Nat → Bool} {n at0 : Nat} : ∀ P, P < 2 ^ n → chgB f n at0 (cmpl n P) = false → ∃ Q, Q < 2 ^ n ∧ leastB f n at0 Q = true ∧ ∀ p, Q.testBit p = true → P.testBit p = true := by
  intro P
  induction P using Nat.strongRecOn with
  | _ P ih =>
    intro hP hc
    by_cases h : leastB f n at0 P = true
    · exact ⟨P, hP, h, fun _ h => h⟩
    · have : ∃ k, k < n ∧ P.testBit k = true ∧ chgB f n at0 (cmpl n P ||| 2 ^ k) = false := by
        unfold leastB at h
        rw [hc, Bool.not_false, Bool.true_and, Bool.not_eq_true, List.all_eq_false] at h
        obtain ⟨k, hk, h2⟩ := h
        rw [Bool.or_eq_true, not_or] at h2
        exact ⟨k, List.mem_range.1 hk, by simpa using h2.1, by simpa using h2.2⟩
      obtain ⟨k, hk, hb, hc2⟩ := this
      rw [cmpl_or hP hb] at hc2
      have hlt := xor_lt_self hb
      obtain ⟨Q, h1, h2, h3⟩ := ih _ hlt (by omega) hc2
      refine ⟨Q, h1, h2, fun p hp => ?_⟩
      have := h3 p hp
      rw [Nat.testBit_xor, Nat.testBit_two_pow] at this
      by_cases e : k = p
      · rw [← e]; exact hb
      · rwa [decide_eq_false e, Bool.xor_false] at this
theorem least_anti {f : Nat → Bool} {n at0 P Q : Nat} (hP : P < 2 ^ n) (hQ : Q < 2 ^ n) (h1 : leastB f n at0 P = true) (h2 : leastB f n at0 Q = true) (h : ∀ p, P.testBit p = true → Q.testBit p = true) : P = Q := by
  apply Nat.eq_of_testBit_eq
  intro k
  cases hq : Q.testBit k with
  | false =>
    cases hp : P.testBit k with
    | false => rfl
    | true => rw [h k hp] at hq; cases hq
  | true =>
    cases hp : P.testBit k with
    | true => rfl
    | false =>
      have hk := bit_hi hQ hq
      have := chg_mono (or_lt (cmpl_lt hQ) hk) (cmpl_lt hP) (fun p hp2 => ?_) (least_bit hQ h2 hq)
      · rw [least_no h1] at this; cases this
      · rw [Nat.testBit_or, cmpl_bit, Nat.testBit_two_pow] at hp2
        rw [cmpl_bit]
        by_cases e : k = p
        · subst e
          rw [hp, decide_eq_true hk]; rfl
        · rw [decide_eq_false e, Bool.or_false] at hp2
          by_cases hpn : p < n
          · rw [decide_eq_true hpn] at hp2 ⊢
            cases hpp : P.testBit p with
            | false => rfl
            | true => rw [h p hpp] at hp2; cases hp2
          · rw [decide_eq_false hpn] at hp2
            have : Q.testBit p = true := by simpa using hp2
            exact absurd (bit_hi hQ this) hpn
theorem need_in {f : Nat → Bool} {n at0 P k : Nat} (hP : P < 2 ^ n) (h : leastB f n at0 P = true) (hk : k < n) (hn : f (at0 ^^^ 2 ^ k) ≠ f at0) : P.testBit k = true := by
  cases hp : P.testBit k with
  | true => rfl
  | false =>
    have := (chg_iff (f := f) (at0 := at0) (cmpl_lt hP)).2 ⟨2 ^ k, fun p h2 => ?_, hn⟩
    · rw [least_no h] at this; cases this
    · rw [Nat.testBit_two_pow, decide_eq_true_eq] at h2
      subst h2
      rw [cmpl_bit, hp, decide_eq_true hk]; rfl
theorem free_iff {f : Nat → Bool} {n at0 m : Nat} (hm : m < 2 ^ n) : (∃ P, P < 2 ^ n ∧ leastB f n at0 P = true ∧ ∀ p, P.testBit p = true → m.testBit p = false) ↔ chgB f n at0 m = false := by
  constructor
  · rintro ⟨P, hP, h1, h2⟩
    cases hc : chgB f n at0 m with
    | false => rfl
    | true =>
      have := chg_mono hm (cmpl_lt hP) (fun p hp => ?_) hc
      · rw [least_no h1] at this; cases this
      · rw [cmpl_bit, decide_eq_true (bit_hi hm hp)]
        cases hpp : P.testBit p with
        | false => rfl
        | true => rw [h2 p hpp] at hp; cases hp
  · intro hc
    have e : cmpl n (cmpl n m) = m := by
      unfold cmpl; rw [← Nat.xor_assoc, Nat.xor_self, Nat.zero_xor]
    obtain ⟨Q, h1, h2, h3⟩ := least_ex (f := f) (at0 := at0) (cmpl n m) (cmpl_lt hm) (by rw [e]; exact hc)
    refine ⟨Q, h1, h2, fun p hp => ?_⟩
    have := h3 p hp
    rw [cmpl_bit, decide_eq_true (bit_hi h1 hp)] at this
    simpa using this
def reasonsP (f : Nat → Bool) (n at0 : Nat) : List Nat := (List.range (2 ^ n)).filter (leastB f n at0)
def termL : List Int → Nat → Nat → List Int
  | [], _, _ => []
  | v :: r, at0, P => if P % 2 = 1 then (if at0 % 2 = 1 then v else -v) :: termL r (at0 / 2) (P / 2) else termL r (at0 / 2) (P / 2)
theorem reasonsP_mem {f : Nat → Bool} {n at0 P : Nat} : P ∈ reasonsP f n at0 ↔ P < 2 ^ n ∧ leastB f n at0 P = true := by
  unfold reasonsP; rw [List.mem_filter, List.mem_range]
theorem reasonsP_nodup (f : Nat → Bool) (n at0 : Nat) : (reasonsP f n at0).Nodup := List.Pairwise.filter _ List.nodup_range
end Go.Proofs.YtecdhmiamlgibaaDoor
