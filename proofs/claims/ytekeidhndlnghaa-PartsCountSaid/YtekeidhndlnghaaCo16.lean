/- Counting models over components, in plain words; no condition. -/
import Derived.Test.YtekeidhndlnghaaWh16
namespace Go.Proofs.Ytekeidhndlnghaa
set_option linter.unusedVariables false
set_option linter.unusedSimpArgs false
set_option linter.unusedSectionVars false
open Go.RowKit
/-! ### Counting over assignments -/
def upB (f : Nat → Bool) (n : Nat) : Nat → Bool := fun i => if i = n then true else f i
def CC : Nat → (Nat → Bool) → ((Nat → Bool) → Bool) → Nat
  | 0, _, P => if P (fun _ => false) = true then 1 else 0
  | n + 1, A, P => CC n A P + if A n = true then CC n A (fun f => P (upB f n)) else 0
theorem CC_congr : ∀ (n : Nat) {A B : Nat → Bool} {P Q : (Nat → Bool) → Bool}, (∀ i, i < n → A i = B i) → (∀ f, (∀ i, n ≤ i → f i = false) → P f = Q f) → CC n A P = CC n B Q
  | 0, A, B, P, Q, _, h => by unfold CC; rw [h _ fun _ _ => rfl]
  | n + 1, A, B, P, Q, hA, h => by
    unfold CC
    rw [CC_congr n (fun i hi => hA i (by omega)) (fun f hf => h f fun i hi => hf i (by omega)), hA n (by omega),
      CC_congr n (P := fun f => P (upB f n)) (Q := fun f => Q (upB f n)) (fun i hi => hA i (by omega)) fun f hf => h _ fun i hi => by unfold upB; rw [if_neg (by omega)]; exact hf i (by omega)]
def resB (f A : Nat → Bool) : Nat → Bool := fun i => f i && A i
theorem resB_up_in {f A : Nat → Bool} {n : Nat} (h : A n = true) : resB (upB f n) A = upB (resB f A) n := by
  funext i; unfold resB upB
  by_cases e : i = n
  · subst e; simp [h]
  · simp [e]
theorem resB_up_out {f A : Nat → Bool} {n : Nat} (h : A n = false) : resB (upB f n) A = resB f A := by
  funext i; unfold resB upB
  by_cases e : i = n
  · subst e; simp [h]
  · simp [e]
theorem CC_mul : ∀ (n : Nat) {A B : Nat → Bool} (P Q : (Nat → Bool) → Bool), (∀ i, i < n → ¬ (A i = true ∧ B i = true)) → CC n (fun i => A i || B i) (fun f => P (resB f A) && Q (resB f B)) = CC n A P * CC n B Q
  | 0, A, B, P, Q, _ => by
    unfold CC
    have e : ∀ X : Nat → Bool, resB (fun _ => false) X = fun _ => false := fun X => by funext i; simp [resB]
    show (if (P (resB (fun _ => false) A) && Q (resB (fun _ => false) B)) = true then 1 else 0) = _
    simp only [e]
    cases P (fun _ => false) <;> cases Q (fun _ => false) <;> rfl
  | n + 1, A, B, P, Q, h => by
    have ih := fun P Q => CC_mul n (A := A) (B := B) P Q fun i hi => h i (by omega)
    have hn := h n (by omega)
    show CC n (fun i => A i || B i) (fun f => P (resB f A) && Q (resB f B)) + (if (A n || B n) = true then CC n (fun i => A i || B i) (fun f => P (resB (upB f n) A) && Q (resB (upB f n) B)) else 0) = (CC n A P + if A n = true then CC n A (fun f => P (upB f n)) else 0) * (CC n B Q + if B n = true then CC n B (fun f => Q (upB f n)) else 0)
    rw [ih]
    cases hA : A n
    · cases hB : B n
      · simp
      · simp only [resB_up_out hA, resB_up_in hB, Bool.false_or, if_true, Bool.false_eq_true, if_false, Nat.add_zero]
        rw [ih P fun f => Q (upB f n), Nat.mul_add]
    · cases hB : B n
      · simp only [resB_up_out hB, resB_up_in hA, Bool.or_false, if_true, Bool.false_eq_true, if_false, Nat.add_zero]
        rw [ih (fun f => P (upB f n)) Q, Nat.add_mul]
      · exact absurd ⟨hA, hB⟩ hn
def pwB : Nat → (Nat → Bool) → Nat
  | 0, _ => 1
  | n + 1, F => pwB n F * if F n = true then 2 else 1
theorem CC_pow : ∀ (n : Nat) (F : Nat → Bool), CC n F (fun _ => true) = pwB n F
  | 0, _ => rfl
  | n + 1, F => by
    show CC n F (fun _ => true) + (if F n = true then CC n F (fun _ => true) else 0) = pwB n F * if F n = true then 2 else 1
    rw [CC_pow n F]
    split <;> omega
theorem CC_no : ∀ (n : Nat) (A : Nat → Bool) (P : (Nat → Bool) → Bool), (∀ f, (∀ i, n ≤ i → f i = false) → P f = false) → CC n A P = 0
  | 0, A, P, h => by unfold CC; rw [h _ fun _ _ => rfl]; rfl
  | n + 1, A, P, h => by
    unfold CC
    rw [CC_no n A P fun f hf => h f fun i hi => hf i (by omega), CC_no n A _ fun f hf => h _ fun i hi => by unfold upB; rw [if_neg (by omega)]; exact hf i (by omega)]
    split <;> rfl
def agrB (n : Nat) (A g f : Nat → Bool) : Bool := (List.range n).all fun i => !A i || (f i == g i)
theorem agrB_succ (n : Nat) (A g f : Nat → Bool) : agrB (n + 1) A g f = (agrB n A g f && (!A n || (f n == g n))) := by
  unfold agrB; rw [List.range_succ, List.all_append]; simp
theorem agrB_up (n : Nat) (A g f : Nat → Bool) : agrB n A g (upB f n) = agrB n A g f := by
  unfold agrB
  apply Bool.eq_iff_iff.2
  rw [List.all_eq_true, List.all_eq_true]
  have : ∀ i ∈ List.range n, upB f n i = f i := fun i hi => by unfold upB; rw [if_neg (by have := List.mem_range.1 hi; omega)]
  exact ⟨fun h i hi => by have := h i hi; rwa [this_eq hi] at this, fun h i hi => by rw [this i hi]; exact h i hi⟩
where this_eq {n : Nat} {f : Nat → Bool} {i : Nat} (hi : i ∈ List.range n) : upB f n i = f i := by unfold upB; rw [if_neg (by have := List.mem_range.1 hi; omega)]
theorem CC_one : ∀ (n : Nat) (A g : Nat → Bool), CC n A (fun f => agrB n A g f) = 1
  | 0, A, g => rfl
  | n + 1, A, g => by
    show CC n A (fun f => agrB (n + 1) A g f) + (if A n = true then CC n A (fun f => agrB (n + 1) A g (upB f n)) else 0) = 1
    have ih := CC_one n A g
    cases hA : A n
    · rw [if_neg (by simp)]
      rw [CC_congr n (B := A) (Q := fun f => agrB n A g f) (fun _ _ => rfl) fun f _ => by rw [agrB_succ, hA]; simp]
      exact ih
    · rw [if_pos rfl]
      have z1 : g n = false → CC n A (fun f => agrB (n + 1) A g f) = 1 := fun hg => by
        refine (CC_congr n (fun _ _ => rfl) fun f hf => ?_).trans ih
        rw [agrB_succ, hA, hg, hf n (Nat.le_refl _)]; simp
      have z2 : g n = false → CC n A (fun f => agrB (n + 1) A g (upB f n)) = 0 := fun hg => CC_no n A _ fun f _ => by rw [agrB_succ, hA, hg]; simp [upB]
      have z3 : g n = true → CC n A (fun f => agrB (n + 1) A g f) = 0 := fun hg => CC_no n A _ fun f hf => by rw [agrB_succ, hA, hg, hf n (Nat.le_refl _)]; simp
      have z4 : g n = true → CC n A (fun f => agrB (n + 1) A g (upB f n)) = 1 := fun hg => by
        refine (CC_congr n (fun _ _ => rfl) fun f _ => ?_).trans ih
        rw [agrB_succ, agrB_up, hA, hg]; simp [upB]
      cases hg : g n
      · rw [z1 hg, z2 hg]
      · rw [z3 hg, z4 hg]
/-! ### Counting over numbers -/
def cnt (P : Nat → Bool) (m : Nat) : Nat := ((List.range m).filter P).length
theorem cnt_add (P : Nat → Bool) (a b : Nat) : cnt P (a + b) = cnt P a + cnt (fun i => P (a + i)) b := by
  unfold cnt
  rw [List.range_add, List.filter_append, List.length_append, List.filter_map, List.length_map]
  rfl
theorem cnt_succ (P : Nat → Bool) (m : Nat) : cnt P (m + 1) = cnt P m + if P m = true then 1 else 0 := by
  rw [cnt_add]
  congr 1
  unfold cnt
  simp only [List.range_one, List.filter_cons, List.filter_nil, Nat.add_zero]
  split <;> simp
theorem cnt_congr {P Q : Nat → Bool} {m : Nat} (h : ∀ i, i < m → P i = Q i) : cnt P m = cnt Q m := by
  unfold cnt
  rw [List.filter_congr fun i hi => h i (List.mem_range.1 hi)]
theorem cnt_le (P : Nat → Bool) (m : Nat) : cnt P m ≤ m := by
  unfold cnt
  exact Nat.le_trans (List.length_filter_le _ _) (by simp)
theorem cnt_no (P : Nat → Bool) (m : Nat) (h : ∀ i, i < m → P i = false) : cnt P m = 0 := by
  rw [cnt_congr (Q := fun _ => false) h]
  unfold cnt
  simp
def subK (n : Nat) (A : Nat → Bool) (k : Nat) : Bool := (List.range n).all fun i => !k.testBit i || A i
theorem subK_succ (n : Nat) (A : Nat → Bool) (k : Nat) : subK (n + 1) A k = (subK n A k && (!k.testBit n || A n)) := by
  unfold subK; rw [List.range_succ, List.all_append]; simp
theorem bits_up {n k : Nat} (hk : k < 2 ^ n) : (fun i => (2 ^ n + k).testBit i) = upB (fun i => k.testBit i) n := by
  funext i
  unfold upB
  by_cases e : i = n
  · subst e; rw [if_pos rfl, Nat.testBit_two_pow_add_eq, Nat.testBit_lt_two_pow hk]; rfl
  · rw [if_neg e]
    by_cases h : i < n
    · exact Nat.testBit_two_pow_add_gt h k
    · have h1 : n + 1 ≤ i := by omega
      have h2 : 2 ^ (n + 1) ≤ 2 ^ i := Nat.pow_le_pow_right (by omega) h1
      rw [Nat.pow_succ] at h2
      show _ = k.testBit i
      rw [Nat.testBit_lt_two_pow (by omega), Nat.testBit_lt_two_pow (by omega)]
theorem CC_cnt : ∀ (n : Nat) (A : Nat → Bool) (P : (Nat → Bool) → Bool), cnt (fun k => subK n A k && P (fun i => k.testBit i)) (2 ^ n) = CC n A P
  | 0, A, P => by
    show cnt _ 1 = _
    have h0 : (fun i => (0 : Nat).testBit i) = fun _ => false := by funext i; simp
    unfold cnt CC
    simp only [List.range_one, List.filter_cons, List.filter_nil, h0]
    have : subK 0 A 0 = true := rfl
    rw [this, Bool.true_and]
    split <;> simp [*]
  | n + 1, A, P => by
    have e : 2 ^ (n + 1) = 2 ^ n + 2 ^ n := by rw [Nat.pow_succ]; omega
    rw [e, cnt_add]
    show _ = CC n A P + if A n = true then CC n A (fun f => P (upB f n)) else 0
    congr 1
    · rw [← CC_cnt n A P]
      exact cnt_congr fun k hk => by rw [subK_succ, Nat.testBit_lt_two_pow hk]; simp
    · have hsub : ∀ k, k < 2 ^ n → subK (n + 1) A (2 ^ n + k) = (subK n A k && A n) := fun k hk => by
        rw [subK_succ, Nat.testBit_two_pow_add_eq, Nat.testBit_lt_two_pow hk]
        congr 1
        · unfold subK
          apply Bool.eq_iff_iff.2
          rw [List.all_eq_true, List.all_eq_true]
          constructor
          · intro h i hi; have := h i hi; rwa [Nat.testBit_two_pow_add_gt (List.mem_range.1 hi)] at this
          · intro h i hi; rw [Nat.testBit_two_pow_add_gt (List.mem_range.1 hi)]; exact h i hi
      cases hA : A n
      · rw [if_neg (by simp)]
        exact cnt_no _ _ fun k hk => by rw [hsub k hk, hA]; simp
      · rw [if_pos rfl, ← CC_cnt n A fun f => P (upB f n)]
        exact cnt_congr fun k hk => by rw [hsub k hk, hA, bits_up hk]; simp
end Go.Proofs.Ytekeidhndlnghaa
