/- What a cache holds: the entries, the oldest one first (plain); no condition. -/
import Derived.Test.YtafikekndefjcaaDoorOld
namespace Go.Proofs.YtafikekndefjcaaDoor
set_option linter.unusedVariables false
set_option linter.unusedSimpArgs false
set_option linter.unusedSectionVars false
open Go.RowKit
set_option maxRecDepth 100000
section
variable {α : Type} [DecidableEq α]
def entZ (e : List α × Int) : Nat := e.1.length + 16
def useZ (l : List (List α × Int)) : Nat := (l.map entZ).sum
def dropZ (m : Nat) : List (List α × Int) → List (List α × Int)
  | [] => []
  | e :: r => if useZ (e :: r) > m then dropZ m r else e :: r
def putZ (most : Nat) (l : List (List α × Int)) (e : List α × Int) : List (List α × Int) :=
  if entZ e > most then l else dropZ (most - entZ e) (l.filter fun x => decide (x.1 ≠ e.1)) ++ [e]
def getZ (l : List (List α × Int)) (k : List α) : Option Int := (l.find? fun x => decide (x.1 = k)).map (·.2)
omit [DecidableEq α] in
theorem use_append (a b : List (List α × Int)) : useZ (a ++ b) = useZ a + useZ b := by unfold useZ; rw [List.map_append, List.sum_append]
omit [DecidableEq α] in
theorem use_cons (e : List α × Int) (r : List (List α × Int)) : useZ (e :: r) = entZ e + useZ r := by unfold useZ; rw [List.map_cons, List.sum_cons]
omit [DecidableEq α] in
theorem drop_use (m : Nat) : ∀ l : List (List α × Int), useZ (dropZ m l) ≤ m
  | [] => by unfold dropZ useZ; simp
  | e :: r => by
    unfold dropZ
    split
    · exact drop_use m r
    · omega
omit [DecidableEq α] in
theorem drop_sfx (m : Nat) : ∀ l : List (List α × Int), dropZ m l <:+ l
  | [] => List.suffix_refl _
  | e :: r => by
    unfold dropZ
    split
    · exact (drop_sfx m r).trans (List.suffix_cons e r)
    · exact List.suffix_refl _
omit [DecidableEq α] in
theorem drop_all {m : Nat} {l : List (List α × Int)} (h : useZ l ≤ m) : dropZ m l = l := by
  cases l with
  | nil => rfl
  | cons e r => unfold dropZ; rw [if_neg (by omega)]
omit [DecidableEq α] in
theorem drop_drop {m s : Nat} (h : s ≤ m) : ∀ l : List (List α × Int), dropZ s (dropZ m l) = dropZ s l
  | [] => rfl
  | e :: r => by
    by_cases hm : useZ (e :: r) > m
    · have e1 : dropZ m (e :: r) = dropZ m r := by rw [dropZ, if_pos hm]
      have e2 : dropZ s (e :: r) = dropZ s r := by rw [dropZ, if_pos (by omega)]
      rw [e1, e2, drop_drop h r]
    · rw [drop_all (Nat.le_of_not_lt hm)]
omit [DecidableEq α] in
theorem drop_snoc {m : Nat} {e : List α × Int} (h : entZ e ≤ m) : ∀ l : List (List α × Int), dropZ m (l ++ [e]) = dropZ (m - entZ e) l ++ [e]
  | [] => by
    show dropZ m [e] = [e]
    refine drop_all ?_
    rw [use_cons]
    have : useZ ([] : List (List α × Int)) = 0 := rfl
    omega
  | x :: r => by
    have hu : useZ (x :: r ++ [e]) = useZ (x :: r) + entZ e := by
      rw [use_append, use_cons e]
      have : useZ ([] : List (List α × Int)) = 0 := rfl
      omega
    by_cases hm : useZ (x :: r) > m - entZ e
    · have e1 : dropZ m (x :: r ++ [e]) = dropZ m (r ++ [e]) := by
        rw [List.cons_append, dropZ, if_pos (by rw [← List.cons_append, hu]; omega)]
      have e2 : dropZ (m - entZ e) (x :: r) = dropZ (m - entZ e) r := by rw [dropZ, if_pos hm]
      rw [e1, e2, drop_snoc h r]
    · rw [drop_all (by rw [hu]; omega), drop_all (by omega)]
theorem puts_drop {most : Nat} : ∀ (es l : List (List α × Int)), (l ++ es).Pairwise (fun a b => a.1 ≠ b.1) → es.foldl (putZ most) (dropZ most l) = dropZ most (l ++ es.filter fun e => decide (entZ e ≤ most))
  | [], l, _ => by simp
  | e :: es, l, h => by
    rw [List.foldl_cons, List.filter_cons]
    obtain ⟨p1, p2, p3⟩ := List.pairwise_append.1 h
    obtain ⟨p4, p5⟩ := List.pairwise_cons.1 p2
    by_cases hs : entZ e ≤ most
    · have hne : ∀ x ∈ dropZ most l, decide (x.1 ≠ e.1) = true := fun x hx => decide_eq_true (p3 x ((drop_sfx most l).subset hx) e List.mem_cons_self)
      have hp : putZ most (dropZ most l) e = dropZ most (l ++ [e]) := by
        unfold putZ
        rw [if_neg (by omega), List.filter_eq_self.2 hne, drop_drop (by omega), drop_snoc hs]
      rw [hp, if_pos (decide_eq_true hs), puts_drop es (l ++ [e]) (by rw [List.append_assoc]; exact h), List.append_assoc]
      rfl
    · have hp : putZ most (dropZ most l) e = dropZ most l := by unfold putZ; rw [if_pos (by omega)]
      rw [hp, if_neg (by simpa using hs), puts_drop es l (List.pairwise_append.2 ⟨p1, p5, fun a ha b hb => p3 a ha b (List.mem_cons_of_mem _ hb)⟩)]
end
end Go.Proofs.YtafikekndefjcaaDoor
