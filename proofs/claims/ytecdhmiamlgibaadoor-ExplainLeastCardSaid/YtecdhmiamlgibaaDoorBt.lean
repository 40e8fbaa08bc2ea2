/- Tables of calls with exact arguments, for closed runs; plain lemmas; no condition. -/
import Derived.Test.YtecdhmiamlgibaaDoorAm20
namespace Go.Proofs.YtecdhmiamlgibaaDoor
set_option linter.unusedVariables false
set_option linter.unusedSimpArgs false
set_option linter.unusedSectionVars false
open Go.RowKit
def beqV : Value → Value → Bool
 | .int k a, .int k' b => decide (k = k') && decide (a = b)
 | .bool a, .bool b => a == b
 | .slice none a b, .slice none c d => Nat.beq a c && Nat.beq b d
 | .pointer none, .pointer none => true
 | _, _ => false
theorem beqV_eq {a b : Value} (h : beqV a b = true) : a = b := by
 unfold beqV at h
 split at h
 ·simp only [Bool.and_eq_true, decide_eq_true_eq] at h
  obtain ⟨rfl, rfl⟩ := h; rfl
 ·simp only [beq_iff_eq] at h; rw [h]
 ·simp only [Bool.and_eq_true] at h
  rw [Nat.eq_of_beq_eq_true h.1, Nat.eq_of_beq_eq_true h.2]
 ·rfl
 ·cases h
mutual
def beqA : AV → AV → Bool
 | .v x, .v y => beqV x y
 | .agg cs, .agg ds => beqL cs ds
 | .sl n xs, .sl m ys => Nat.beq n m && beqLL xs ys
 | _, _ => false
def beqL : List AV → List AV → Bool
 | [], [] => true
 | a :: l, b :: m => beqA a b && beqL l m
 | _, _ => false
def beqLL : List (List AV) → List (List AV) → Bool
 | [], [] => true
 | a :: l, b :: m => beqL a b && beqLL l m
 | _, _ => false
end
mutual
theorem beqA_eq : ∀ {a b : AV}, beqA a b = true → a = b
 | .v x, b, h => by cases b <;> simp only [beqA, Bool.false_eq_true] at h; rw [beqV_eq h]
 | .agg cs, b, h => by cases b <;> simp only [beqA, Bool.false_eq_true] at h; rw [beqL_eq h]
 | .sl n xs, b, h => by
  cases b <;> simp only [beqA, Bool.false_eq_true] at h
  simp only [Bool.and_eq_true] at h
  rw [Nat.eq_of_beq_eq_true h.1, beqLL_eq h.2]
 | .any, b, h => by cases b <;> simp only [beqA, Bool.false_eq_true] at h
 | .tup _, b, h => by cases b <;> simp only [beqA, Bool.false_eq_true] at h
 | .pt _, b, h => by cases b <;> simp only [beqA, Bool.false_eq_true] at h
 | .ref _ _ _, b, h => by cases b <;> simp only [beqA, Bool.false_eq_true] at h
 | .ptr _ _ _, b, h => by cases b <;> simp only [beqA, Bool.false_eq_true] at h
 | .clo _ _, b, h => by cases b <;> simp only [beqA, Bool.false_eq_true] at h
 | .bnd _ _, b, h => by cases b <;> simp only [beqA, Bool.false_eq_true] at h
 | .yld _, b, h => by cases b <;> simp only [beqA, Bool.false_eq_true] at h
 | .mp _, b, h => by cases b <;> simp only [beqA, Bool.false_eq_true] at h
theorem beqL_eq : ∀ {a b : List AV}, beqL a b = true → a = b
 | [], [], _ => rfl
 | [], _ :: _, h => by simp [beqL] at h
 | _ :: _, [], h => by simp [beqL] at h
 | x :: l, y :: m, h => by
  simp only [beqL, Bool.and_eq_true] at h
  rw [beqA_eq h.1, beqL_eq h.2]
theorem beqLL_eq : ∀ {a b : List (List AV)}, beqLL a b = true → a = b
 | [], [], _ => rfl
 | [], _ :: _, h => by simp [beqLL] at h
 | _ :: _, [], h => by simp [beqLL] at h
 | x :: l, y :: m, h => by
  simp only [beqLL, Bool.and_eq_true] at h
  rw [beqL_eq h.1, beqLL_eq h.2]
end
structure Row where
 f : FuncId
 args : List AV
 res : AV
def findR (f : FuncId) (args : List AV) : List Row → Option (AV × Bool)
 | [] => none
 | r :: l => if (Nat.beq r.f f && beqL r.args args) = true then some (r.res, false) else findR f args l
def tabR (l : List Row) : PTab := fun f args => findR f args l
def RowOk (P : Program) (r : Row) : Prop := fnB P r.f = true ∧ FnPure P r.f r.args r.res
theorem tabR_ok {P : Program} : ∀ {l : List Row}, (∀ r ∈ l, RowOk P r) → PTok P (tabR l)
 | [], _ => fun f args r fr h => by cases h
 | a :: l, hl => fun f args r fr h => by
  simp only [tabR, findR] at h
  split at h
  ·rename_i hc
   simp only [Bool.and_eq_true] at hc
   obtain ⟨h1, h2⟩ := hc
   obtain rfl := Nat.eq_of_beq_eq_true h1
   obtain rfl := beqL_eq h2
   cases h
   obtain ⟨g1, g2⟩ := hl a List.mem_cons_self
   exact ⟨g1, g2, fun e => by cases e⟩
  ·exact tabR_ok (l := l) (fun r hr => hl r (List.mem_cons_of_mem _ hr)) f args r fr h
def funR (l : List Row) : FuncId → Bool := fun f => l.any fun r => Nat.beq r.f f
theorem row_run {P : Program} {TT : TTab} {PT : PTab} {T : FuncId → Bool} (hP : P.follows .mixedOrders = true) (hTT : TTok P TT) (hPT : PTok P PT) {n : Nat} {r : Row} (hf : fnB P r.f = true) (h : resI P TT PT T n r.f r.args = some r.res) : RowOk P r := ⟨hf, fn_run hP hTT hPT h⟩
end Go.Proofs.YtecdhmiamlgibaaDoor
