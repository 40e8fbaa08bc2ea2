/- The literals of reasons (plain); no condition. -/
import Derived.Test.YtecdhmiamlgibaaDoorSx39
import Derived.Test.YtecdhmiamlgibaaDoorBiG
namespace Go.Proofs.YtecdhmiamlgibaaDoor
set_option linter.unusedVariables false
set_option linter.unusedSimpArgs false
set_option linter.unusedSectionVars false
open Go.RowKit
set_option maxRecDepth 100000
def sgn (vs : List Int) (x i : Nat) : Int := if x.testBit i = true then vs.getD i 0 else -vs.getD i 0
theorem term_mem : ∀ {vs : List Int} {x P : Nat} {l : Int}, l ∈ termL vs x P ↔ ∃ i, i < vs.length ∧ P.testBit i = true ∧ l = sgn vs x i
 | [], x, P, l => by simp [termL]
 | v :: r, x, P, l => by
  have ih := term_mem (vs := r) (x := x / 2) (P := P / 2) (l := l)
  have hshift : (∃ i, i < (v :: r).length ∧ P.testBit i = true ∧ l = sgn (v :: r) x i) ↔ (P % 2 = 1 ∧ l = if x % 2 = 1 then v else -v) ∨ ∃ i, i < r.length ∧ (P / 2).testBit i = true ∧ l = sgn r (x / 2) i := by
   constructor
   ·rintro ⟨i, h1, h2, h3⟩
    cases i with
    | zero =>
     left
     rw [Nat.testBit_zero, decide_eq_true_eq] at h2
     refine ⟨h2, ?_⟩
     rw [h3]; unfold sgn; simp [Nat.testBit_zero]
    | succ i =>
     right
     rw [Nat.testBit_succ] at h2
     refine ⟨i, by simpa using h1, h2, ?_⟩
     rw [h3]; unfold sgn; rw [Nat.testBit_succ]; simp
   ·rintro (⟨h1, h2⟩ | ⟨i, h1, h2, h3⟩)
    ·refine ⟨0, by simp, by rw [Nat.testBit_zero, h1]; rfl, ?_⟩
     rw [h2]; unfold sgn; simp [Nat.testBit_zero]
    ·refine ⟨i + 1, by simpa using h1, by rw [Nat.testBit_succ]; exact h2, ?_⟩
     rw [h3]; unfold sgn; rw [Nat.testBit_succ]; simp
  rw [hshift, ← ih, termL]
  split
  ·rename_i h; rw [List.mem_cons]; simp [h]
  ·rename_i h; simp [h]
theorem sgn_abs {vs : List Int} (h : okVs vs) {x i : Nat} (hi : i < vs.length) : absZ (sgn vs x i) = vs.getD i 0 := by
 have := h.2 _ (gmemI hi)
 unfold sgn absZ
 split <;> omega
theorem sgn_inj {vs : List Int} (h : okVs vs) {x i j : Nat} (hi : i < vs.length) (hj : j < vs.length) (e : absZ (sgn vs x i) = absZ (sgn vs x j)) : i = j := by
 rw [sgn_abs h hi, sgn_abs h hj] at e
 exact nodup_get h.1 hi hj e
theorem term_lits {vs : List Int} (h : okVs vs) (x P : Nat) : LitsX (termL vs x P) := fun l hl => by
 obtain ⟨i, hi, _, rfl⟩ := term_mem.1 hl
 have := h.2 _ (gmemI hi)
 unfold litX sgn
 rw [Bool.and_eq_true, decide_eq_true_eq, decide_eq_true_eq]
 split <;> omega
theorem term_ok {vs : List Int} (h : okVs vs) (hl : vs.length ≤ 16) (x P : Nat) : okInts (termL vs x P) = true := by
 unfold okInts
 rw [Bool.and_eq_true, decide_eq_true_eq, List.all_eq_true]
 refine ⟨fun l hm => ?_, by have := termL_len vs x P; omega⟩
 have := litX_b (term_lits h x P l hm)
 exact okI_iff.2 ⟨by omega, by omega⟩
theorem lexA_zero : ∀ {c d : List Int}, c.length = d.length → lexA c d = 0 → c.map absZ = d.map absZ
 | [], [], _, _ => rfl
 | [], _ :: _, h, _ => by cases h
 | _ :: _, [], h, _ => by cases h
 | x :: r, y :: s, hl, h => by
  rw [lexA] at h
  by_cases e : absZ x - absZ y = 0
  ·rw [if_pos e] at h
   rw [List.map_cons, List.map_cons, lexA_zero (by simpa using hl) h, show absZ x = absZ y by omega]
  ·rw [if_neg e] at h; omega
theorem map_absZ {vs : List Int} (h : okVs vs) (x P Q : Nat) : ∀ {c d : List Int}, (∀ l ∈ c, l ∈ termL vs x P) → (∀ l ∈ d, l ∈ termL vs x Q) → c.map absZ = d.map absZ → c = d
 | [], [], _, _, _ => rfl
 | [], _ :: _, _, _, e => by simp at e
 | _ :: _, [], _, _, e => by simp at e
 | l :: r, m :: s, hc, hd, e => by
  simp only [List.map_cons, List.cons.injEq] at e
  obtain ⟨i, hi, _, h1⟩ := term_mem.1 (hc l (by simp))
  obtain ⟨j, hj, _, h2⟩ := term_mem.1 (hd m (by simp))
  rw [h1, h2] at e
  have := sgn_inj h hi hj e.1
  subst this
  rw [h1, h2, map_absZ h x P Q (fun l hl => hc l (by simp [hl])) (fun l hl => hd l (by simp [hl])) e.2]
theorem term_anti {vs : List Int} (h : okVs vs) {x P Q : Nat} (e : cmpX (termL vs x P) (termL vs x Q) = 0) : termL vs x P = termL vs x Q := by
 unfold cmpX at e
 by_cases hl : (termL vs x P).length = (termL vs x Q).length
 ·rw [if_pos hl] at e
  exact map_absZ h x P Q (fun l hl => hl) (fun l hl => hl) (lexA_zero hl e)
 ·rw [if_neg hl] at e; omega
def reaL (f : Nat → Bool) (vs : List Int) (x P : Nat) : List (List Int) := ((List.range P).filter (leastB f vs.length x)).map (termL vs x)
theorem reaL_succ (f : Nat → Bool) (vs : List Int) (x P : Nat) : reaL f vs x (P + 1) = if leastB f vs.length x P = true then reaL f vs x P ++ [termL vs x P] else reaL f vs x P := by
 unfold reaL
 rw [List.range_succ, List.filter_append, List.map_append]
 split
 ·rename_i h; simp [h]
 ·rename_i h; simp [h]
theorem reaL_len (f : Nat → Bool) (vs : List Int) (x P : Nat) : (reaL f vs x P).length ≤ P := by
 unfold reaL
 rw [List.length_map]
 exact Nat.le_trans (List.length_filter_le _ _) (by simp)
theorem reaL_mem {f : Nat → Bool} {vs : List Int} {x P : Nat} {c : List Int} : c ∈ reaL f vs x P ↔ ∃ Q, Q < P ∧ leastB f vs.length x Q = true ∧ c = termL vs x Q := by
 unfold reaL
 rw [List.mem_map]
 constructor
 ·rintro ⟨Q, h, rfl⟩
  obtain ⟨h1, h2⟩ := List.mem_filter.1 h
  exact ⟨Q, List.mem_range.1 h1, h2, rfl⟩
 ·rintro ⟨Q, h1, h2, rfl⟩
  exact ⟨Q, List.mem_filter.2 ⟨List.mem_range.2 h1, h2⟩, rfl⟩
theorem reaL_rows {vs : List Int} (h : okVs vs) (hl : vs.length ≤ 16) (f : Nat → Bool) (x P : Nat) (hP : P ≤ 65536) : okRows (reaL f vs x P) = true := by
 unfold okRows
 rw [Bool.and_eq_true, decide_eq_true_eq, List.all_eq_true]
 refine ⟨fun c hc => ?_, by have := reaL_len f vs x P; omega⟩
 obtain ⟨Q, _, _, rfl⟩ := reaL_mem.1 hc
 exact term_ok h hl x Q
theorem andn_cmpl {n P : Nat} (hn : n ≤ 16) (hP : P < 2 ^ n) : (2 ^ n - 1) % 2 ^ IntKind.i64.bits &&& 2 ^ IntKind.i64.bits - 1 - P % 2 ^ IntKind.i64.bits = cmpl n P := by
 have hp : 2 ^ n ≤ 2 ^ 16 := Nat.pow_le_pow_right (by omega) hn
 rw [bits_i64, Nat.mod_eq_of_lt (by omega), Nat.mod_eq_of_lt (by omega)]
 apply Nat.eq_of_testBit_eq
 intro i
 rw [Nat.testBit_and, cmpl_bit, show 2 ^ 64 - 1 - P = 2 ^ 64 - (P + 1) by omega, Nat.testBit_two_pow_sub_one, Nat.testBit_two_pow_sub_succ (x := P) (n := 64) (by omega)]
 by_cases hi : i < n
 ·rw [decide_eq_true hi, decide_eq_true (by omega)]; simp
 ·have : P.testBit i = false := by
   cases h : P.testBit i with
   | false => rfl
   | true => exact absurd (bit_hi hP h) hi
  rw [decide_eq_false hi, this]; rfl
theorem and_pow (P k : Nat) : P &&& 2 ^ k = if P.testBit k = true then 2 ^ k else 0 := by
 apply Nat.eq_of_testBit_eq
 intro i
 rw [Nat.testBit_and, Nat.testBit_two_pow]
 by_cases e : k = i
 ·subst e
  cases P.testBit k <;> simp
 ·rw [decide_eq_false e, Bool.and_false]
  split
  ·rw [Nat.testBit_two_pow, decide_eq_false e]
  ·simp
end Go.Proofs.YtecdhmiamlgibaaDoor
