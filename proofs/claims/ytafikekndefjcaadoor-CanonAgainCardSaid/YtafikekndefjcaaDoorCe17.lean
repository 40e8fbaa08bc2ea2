/- Keys that are put again, where all entries take the same (plain); no condition. -/
import Derived.Test.YtafikekndefjcaaDoorCb17
namespace Go.Proofs.YtafikekndefjcaaDoor
set_option linter.unusedVariables false
set_option linter.unusedSimpArgs false
set_option linter.unusedSectionVars false
open Go.RowKit
set_option maxRecDepth 100000
section
variable {α : Type} [DecidableEq α]
omit [DecidableEq α] in
theorem use_same {s : Nat} : ∀ {l : List (List α × Int)}, (∀ e ∈ l, entZ e = s) → useZ l = s * l.length
  | [], _ => by simp [useZ]
  | e :: r, h => by rw [use_cons, h e List.mem_cons_self, use_same fun x hx => h x (List.mem_cons_of_mem _ hx), List.length_cons, Nat.mul_succ]; omega
omit [DecidableEq α] in
theorem drop_same {s m : Nat} (hs : 0 < s) : ∀ {l : List (List α × Int)}, (∀ e ∈ l, entZ e = s) → dropZ m l = l.drop (l.length - m / s)
  | [], _ => by simp [dropZ]
  | e :: r, h => by
    have hu := use_same h
    have hle : s * (e :: r).length ≤ m ↔ (e :: r).length ≤ m / s := by
      rw [Nat.le_div_iff_mul_le hs, Nat.mul_comm]
    by_cases hm : useZ (e :: r) > m
    · have h1 : ¬ (e :: r).length ≤ m / s := fun hc => by have := hle.2 hc; omega
      rw [dropZ, if_pos hm, drop_same hs fun x hx => h x (List.mem_cons_of_mem _ hx)]
      have e2 : (e :: r).length - m / s = (r.length - m / s) + 1 := by rw [List.length_cons] at h1 ⊢; omega
      rw [e2, List.drop_succ_cons]
    · rw [drop_all (by omega), show (e :: r).length - m / s = 0 by have := hle.1 (by omega); omega, List.drop_zero]
theorem filt_len {k : List α} : ∀ {l : List (List α × Int)}, l.Pairwise (fun a b => a.1 ≠ b.1) → l.length ≤ (l.filter fun x => decide (x.1 ≠ k)).length + 1
  | [], _ => by simp
  | e :: r, h => by
    obtain ⟨h1, h2⟩ := List.pairwise_cons.1 h
    rw [List.filter_cons]
    by_cases he : e.1 = k
    · have hh : ∀ x ∈ r, decide (x.1 ≠ k) = true := fun x hx => decide_eq_true fun hx2 => h1 x hx (he.trans hx2.symm)
      rw [if_neg (by simpa using he), List.filter_eq_self.2 hh]
      simp
    · rw [if_pos (decide_eq_true he)]
      have := filt_len (k := k) h2
      simp only [List.length_cons]
      omega
omit [DecidableEq α] in
theorem last_app {A B : List (List α × Int)} {g : Nat} (h : g ≤ B.length) : (A ++ B).drop ((A ++ B).length - g) = B.drop (B.length - g) := by
  have e : (A ++ B).length - g = A.length + (B.length - g) := by rw [List.length_append]; omega
  rw [e, ← List.drop_drop, List.drop_left]
def lastZ (es : List (List α × Int)) : List (List α × Int) := es.foldl (fun D e => (D.filter fun x => decide (x.1 ≠ e.1)) ++ [e]) []
theorem put_again {s most : Nat} (hs : 0 < s) (hm : s ≤ most) {D : List (List α × Int)} (hD : ∀ e ∈ D, entZ e = s) (hk : D.Pairwise (fun a b => a.1 ≠ b.1)) {e : List α × Int} (he : entZ e = s) : putZ most (dropZ most D) e = dropZ most ((D.filter fun x => decide (x.1 ≠ e.1)) ++ [e]) := by
  unfold putZ
  rw [if_neg (by omega), drop_snoc (by omega), he]
  congr 1
  have hY : ∀ x ∈ dropZ most D, entZ x = s := fun x hx => hD x ((drop_sfx most D).subset hx)
  have hYf : ∀ x ∈ (dropZ most D).filter fun x => decide (x.1 ≠ e.1), entZ x = s := fun x hx => hY x (List.mem_filter.1 hx).1
  have hDf : ∀ x ∈ D.filter fun x => decide (x.1 ≠ e.1), entZ x = s := fun x hx => hD x (List.mem_filter.1 hx).1
  rw [drop_same hs hYf, drop_same hs hDf]
  obtain ⟨X, hX⟩ := drop_sfx most D
  have hdiv : (most - s) / s = most / s - 1 := by
    have h1 : (most - s) / s + 1 = most / s := by rw [← Nat.add_div_right _ hs, Nat.sub_add_cancel hm]
    exact Nat.eq_sub_of_add_eq h1
  have hlen : (dropZ most D).length = min D.length (most / s) := by
    rw [drop_same hs hD, List.length_drop]
    generalize most / s = q
    omega
  by_cases hc : D.length ≤ most / s
  · have : dropZ most D = D := by rw [drop_same hs hD, show D.length - most / s = 0 by omega, List.drop_zero]
    rw [this]
  · have hp : (dropZ most D).Pairwise (fun a b => a.1 ≠ b.1) := hk.sublist (drop_sfx most D).sublist
    have hf := filt_len (k := e.1) hp
    have e2 : D.filter (fun x => decide (x.1 ≠ e.1)) = (X.filter fun x => decide (x.1 ≠ e.1)) ++ (dropZ most D).filter fun x => decide (x.1 ≠ e.1) := by
      rw [← List.filter_append, hX]
    have hg : (most - s) / s ≤ ((dropZ most D).filter fun x => decide (x.1 ≠ e.1)).length := by
      rw [hdiv]
      generalize most / s = q at hlen hc ⊢
      omega
    rw [e2, last_app hg]
end
end Go.Proofs.YtafikekndefjcaaDoor
