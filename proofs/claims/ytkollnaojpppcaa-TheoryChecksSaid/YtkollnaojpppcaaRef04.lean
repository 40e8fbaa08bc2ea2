/- Contracts of censusref04; no condition. -/
import Derived.Test.YtkollnaojpppcaaVars2
import Derived.BigQuiet
import Derived.Deep.QuietTactic
namespace Go.Proofs.Ytkollnaojpppcaa
open Go.RowKit

theorem take_succ_getD {α : Type} (xs : List α) (k : Nat) (h : k < xs.length) (d : α) : xs.take (k + 1) = xs.take k ++ [xs.getD k d] := by
  rw [List.take_succ_eq_append_getElem h]; simp [List.getD, h]

theorem getD_mem {α : Type} (xs : List α) (k : Nat) (h : k < xs.length) (d : α) : xs.getD k d ∈ xs := by
  simp [List.getD, h]

theorem Ints.open {F : Foot} {w : World} {v : Value} {xs : List Int} (h : Ints F w v xs) :
    ∃ a n c, v = .slice a n c ∧ n = xs.length ∧ n ≤ c ∧ n ≤ LenMax ∧ ∀ k, k < n → ∃ b o, a = some ⟨b, o, none⟩ ∧ w.cell? ⟨b, o + k, none⟩ = some (.int .i64 (xs.getD k 0)) ∧ I64 (xs.getD k 0) := by
  obtain ⟨a, n, c, h1, h2, h3, h4, _, h5⟩ := h
  simp only [List.cons.injEq, and_true] at h1
  refine ⟨a, n, c, h1, h2, h3, by unfold LenMax; simp only [eInt] at h4; omega, fun k hk => ?_⟩
  obtain ⟨b, o, raw, g1, g2, g3, g4⟩ := h5 k (by omega)
  obtain ⟨g5, g6⟩ := g4
  subst g5
  have := (g3 0 (by simp)).cell
  refine ⟨b, o, g1, ?_, ?_⟩
  · simpa [eInt, List.getD, show k < xs.length by omega] using this
  · simpa [List.getD, show k < xs.length by omega] using g6

theorem Ints.at {F : Foot} {w : World} {a : Option Addr} {n c : Nat} {xs : List Int} (h : Ints F w (.slice a n c) xs) (k : Nat) (hk : k < n) :
    ∃ b o, a = some ⟨b, o, none⟩ ∧ w.cell? ⟨b, o + k, none⟩ = some (.int .i64 (xs.getD k 0)) ∧ I64 (xs.getD k 0) := by
  obtain ⟨a', n', c', he, _, _, _, h5⟩ := h.open
  cases he
  exact h5 k hk

/-- The variable of a literal, or 0. -/
def litVar (l : Int) : Int := if 1 ≤ l ∧ l ≤ 128 then l else if -128 ≤ l ∧ l ≤ -1 then -l else 0
/-- It is a literal of n variables. -/
def litOk (l n : Int) : Bool := decide (0 < litVar l) && decide (litVar l ≤ n)
theorem litVar_range (l : Int) : 0 ≤ litVar l ∧ litVar l ≤ 128 := by unfold litVar; split <;> (try split) <;> omega
theorem litVar_pos {l : Int} (h : 1 ≤ l) (h2 : l ≤ 128) : litVar l = l := by unfold litVar; rw [if_pos ⟨h, h2⟩]
theorem litVar_neg {l : Int} (h : -128 ≤ l) (h2 : l ≤ -1) : litVar l = -l := by unfold litVar; rw [if_neg (by omega), if_pos ⟨h, h2⟩]
theorem litVar_no {l : Int} (h : l < -128 ∨ l = 0 ∨ 128 < l) : litVar l = 0 := by unfold litVar; rw [if_neg (by omega), if_neg (by omega)]





theorem I64.neg {y : Int} (h : 0 < litVar y) : I64 (-y) := by
  unfold litVar at h; unfold I64
  split at h
  · omega
  · split at h <;> omega


end Go.Proofs.Ytkollnaojpppcaa
