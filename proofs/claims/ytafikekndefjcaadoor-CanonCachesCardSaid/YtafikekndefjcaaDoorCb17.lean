/- How long an entry is kept (plain); no condition. -/
import Derived.Test.YtafikekndefjcaaDoorCa17
namespace Go.Proofs.YtafikekndefjcaaDoor
set_option linter.unusedVariables false
set_option linter.unusedSimpArgs false
set_option linter.unusedSectionVars false
open Go.RowKit
set_option maxRecDepth 100000
section
variable {α : Type} [DecidableEq α]
omit [DecidableEq α] in
theorem drop_keep {m : Nat} {B : List (List α × Int)} (h : useZ B ≤ m) : ∀ A : List (List α × Int), ∃ C, dropZ m (A ++ B) = C ++ B ∧ C <:+ A
  | [] => ⟨[], drop_all h, List.suffix_refl _⟩
  | x :: A => by
    obtain ⟨C, h1, h2⟩ := drop_keep h A
    by_cases hm : useZ (x :: A ++ B) > m
    · exact ⟨C, by rw [List.cons_append, dropZ, if_pos (by rw [← List.cons_append]; exact hm), h1], h2.trans (List.suffix_cons x A)⟩
    · exact ⟨x :: A, by rw [drop_all (Nat.le_of_not_lt hm)], List.suffix_refl _⟩
omit [DecidableEq α] in
theorem drop_lose {m : Nat} {B : List (List α × Int)} (h : useZ B > m) : ∀ A : List (List α × Int), dropZ m (A ++ B) = dropZ m B
  | [] => rfl
  | x :: A => by
    have hu : useZ (x :: (A ++ B)) > m := by rw [use_cons, use_append]; omega
    rw [List.cons_append, dropZ, if_pos hu, drop_lose h A]
theorem get_none {l : List (List α × Int)} {k : List α} (h : ∀ x ∈ l, x.1 ≠ k) : getZ l k = none := by
  unfold getZ
  rw [List.find?_eq_none.2 fun x hx => by simpa using h x hx]; rfl
theorem get_mid {C A : List (List α × Int)} {e : List α × Int} (h : ∀ x ∈ C, x.1 ≠ e.1) : getZ (C ++ e :: A) e.1 = some e.2 := by
  unfold getZ
  rw [List.find?_append, List.find?_eq_none.2 fun x hx => by simpa using h x hx]
  simp
theorem kept {m : Nat} {A1 A2 : List (List α × Int)} {e : List α × Int} (h : (A1 ++ e :: A2).Pairwise (fun a b => a.1 ≠ b.1)) : getZ (dropZ m (A1 ++ e :: A2)) e.1 = if useZ (e :: A2) ≤ m then some e.2 else none := by
  obtain ⟨p1, p2, p3⟩ := List.pairwise_append.1 h
  obtain ⟨p4, p5⟩ := List.pairwise_cons.1 p2
  by_cases hu : useZ (e :: A2) ≤ m
  · rw [if_pos hu]
    obtain ⟨C, h1, h2⟩ := drop_keep hu A1
    rw [h1]
    exact get_mid fun x hx => p3 x (h2.subset hx) e List.mem_cons_self
  · rw [if_neg hu, drop_lose (by omega), dropZ, if_pos (by omega)]
    exact get_none fun x hx => (p4 x ((drop_sfx m A2).subset hx)).symm
theorem kept_no {m : Nat} {A : List (List α × Int)} {k : List α} (h : ∀ x ∈ A, x.1 ≠ k) : getZ (dropZ m A) k = none := get_none fun x hx => h x ((drop_sfx m A).subset hx)
theorem drop_len (m : Nat) : ∀ A : List (List α × Int), (dropZ m A).length = ((List.range A.length).filter fun i => decide (useZ (A.drop i) ≤ m)).length
  | [] => rfl
  | x :: A => by
    rw [List.length_cons, List.range_succ_eq_map, List.filter_cons, List.filter_map, List.drop_zero]
    have e : (fun i => decide (useZ ((x :: A).drop i) ≤ m)) ∘ Nat.succ = fun i => decide (useZ (A.drop i) ≤ m) := by
      funext i; rfl
    rw [e]
    by_cases hm : useZ (x :: A) ≤ m
    · rw [if_pos (decide_eq_true hm), drop_all hm, List.length_cons, List.length_cons, List.length_map, ← drop_len m A, drop_all (by rw [use_cons] at hm; omega)]
    · rw [if_neg (by simpa using hm), dropZ, if_pos (by omega), List.length_map, ← drop_len m A]
end
end Go.Proofs.YtafikekndefjcaaDoor
