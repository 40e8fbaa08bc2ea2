/- Plain laws for TheoryBoth: a conjunction is true where both parts are; no program. -/
import Derived.Test.YtkollnaojpppcaaPl5
import Derived.Test.YtkollnaojpppcaaAs
namespace Go.Proofs.Ytkollnaojpppcaa
set_option linter.unusedVariables false
set_option linter.unusedSimpArgs false
set_option linter.unusedSectionVars false
open Go.RowKit
set_option maxRecDepth 100000
/-- The greater of two numbers. -/
def jN (a b : Int) : Int := if a < b then b else a
theorem jN_ge (a b : Int) : a ≤ jN a b ∧ b ≤ jN a b ∧ (jN a b = a ∨ jN a b = b) := by
  unfold jN; split <;> omega
theorem asg_bit {k n : Nat} (hk : k < 1024) (hn : n ≤ 10) (i : Nat) : (asg (k : Int) (n : Int)).getLsbD i = (decide (i < n) && k.testBit i) := by
  unfold asg
  have e : ((k : Int) % 2 ^ (n : Int).toNat) = ((k % 2 ^ n : Nat) : Int) := by norm_cast
  rw [e, BitVec.ofInt_natCast, BitVec.getLsbD_ofNat, Nat.testBit_mod_two_pow]
  by_cases h : i < n
  · rw [show decide (i < 128) = true by simp; omega]; simp
  · simp [h]
theorem asg_upto {k n : Nat} (hk : k < 1024) (hn : n ≤ 10) : sUpto (asg (k : Int) (n : Int)) n = true := by
  unfold sUpto
  rw [decide_eq_true_eq]
  intro i _ h2
  rw [asg_bit hk hn, show decide (i < n) = false by simp; omega, Bool.false_and]
theorem asg_holds {k a n : Nat} (hk : k < 1024) (hn : n ≤ 10) (ha : a ≤ n) {l : Int} (hl : litOk l a = true) : litHolds (asg (k : Int) (n : Int)) l = litHolds (asg (k : Int) (a : Int)) l := by
  simp only [litOk, Bool.and_eq_true, decide_eq_true_eq] at hl
  unfold litHolds sHas
  rw [asg_bit hk hn, asg_bit hk (by omega), show decide ((litVar l - 1).toNat < n) = true by simp; omega, show decide ((litVar l - 1).toNat < a) = true by simp; omega]
theorem all_any_congr {T : List (List Int)} {f g : Int → Bool} (h : ∀ c ∈ T, ∀ l ∈ c, f l = g l) : (T.all fun c => c.any f) = T.all fun c => c.any g := by
  rw [Bool.eq_iff_iff, List.all_eq_true, List.all_eq_true]
  constructor
  · intro k c hc
    obtain ⟨l, hl, he⟩ := List.any_eq_true.1 (k c hc)
    exact List.any_eq_true.2 ⟨l, hl, by rw [← h c hc l hl]; exact he⟩
  · intro k c hc
    obtain ⟨l, hl, he⟩ := List.any_eq_true.1 (k c hc)
    exact List.any_eq_true.2 ⟨l, hl, by rw [h c hc l hl]; exact he⟩
theorem litOk_le {l a n : Int} (h : litOk l a = true) (ha : a ≤ n) : litOk l n = true := by
  simp only [litOk, Bool.and_eq_true, decide_eq_true_eq] at h ⊢
  omega
theorem join_check {a b : Int} {T U : List (List Int)} (hz : checkT a T = 0) (hu : checkT b U = 0) (hs : T.length + U.length ≤ 4096) : checkT (jN a b) (T ++ U) = 0 := by
  obtain ⟨h0, h1, _, h3⟩ := checkT_ok hz
  obtain ⟨k0, k1, _, k3⟩ := checkT_ok hu
  obtain ⟨j0, j1, j2⟩ := jN_ge a b
  refine checkT_of (by omega) (by rcases j2 with h | h <;> omega) (by simp; omega) fun d hd => ?_
  rcases List.mem_append.1 hd with hd | hd
  · exact ⟨(h3 d hd).1, fun l hl => litOk_le ((h3 d hd).2 l hl) j0⟩
  · exact ⟨(k3 d hd).1, fun l hl => litOk_le ((k3 d hd).2 l hl) j1⟩
theorem evalT_join {a b : Int} (ha : a ≤ 10) (hb : b ≤ 10) {T U : List (List Int)} (hz : checkT a T = 0) (hu : checkT b U = 0) (hs : T.length + U.length ≤ 4096) {k : Nat} (hk : k < 1024) :
    evalT (jN a b) (T ++ U) (asg k (jN a b)) = (evalT a T (asg k a) && evalT b U (asg k b)) := by
  have hj := join_check hz hu hs
  obtain ⟨h0, _, _, h3⟩ := checkT_ok hz
  obtain ⟨k0, _, _, k3⟩ := checkT_ok hu
  obtain ⟨j0, j1, j2⟩ := jN_ge a b
  generalize jN a b = n at *
  obtain ⟨a, rfl⟩ := Int.eq_ofNat_of_zero_le h0
  obtain ⟨b, rfl⟩ := Int.eq_ofNat_of_zero_le k0
  obtain ⟨n, rfl⟩ := Int.eq_ofNat_of_zero_le (show 0 ≤ n by omega)
  have hn : n ≤ 10 := by omega
  unfold evalT
  rw [hj, hz, hu, asg_upto hk hn, asg_upto hk (show a ≤ 10 by omega), asg_upto hk (show b ≤ 10 by omega), List.all_append,
    all_any_congr (T := T) (f := litHolds (asg k n)) (g := litHolds (asg k a)) fun c hc l hl => asg_holds hk hn (by omega) ((h3 c hc).2 l hl),
    all_any_congr (T := U) (f := litHolds (asg k n)) (g := litHolds (asg k b)) fun c hc l hl => asg_holds hk hn (by omega) ((k3 c hc).2 l hl)]
  simp
end Go.Proofs.Ytkollnaojpppcaa
