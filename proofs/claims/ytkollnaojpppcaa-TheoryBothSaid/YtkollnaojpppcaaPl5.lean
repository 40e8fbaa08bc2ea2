/- Plain laws for TheoryOrder: a list that is turned element by element; clauses gathered in another order; no program. -/
import Derived.Test.YtkollnaojpppcaaPl4
namespace Go.Proofs.Ytkollnaojpppcaa
set_option linter.unusedVariables false
set_option linter.unusedSimpArgs false
set_option linter.unusedSectionVars false
open Go.RowKit
set_option maxRecDepth 100000
/-- The first j elements are written at the end, the last first. -/
def revK (c : List Int) (j : Nat) : List Int := (List.range c.length).map fun p => if c.length - 1 - p < j then c.getD (c.length - 1 - p) 0 else c.getD p 0
theorem revK_len (c : List Int) (j : Nat) : (revK c j).length = c.length := by simp [revK]
theorem revK_get (c : List Int) (j : Nat) {i : Nat} (h : i < (revK c j).length) : (revK c j)[i] = if c.length - 1 - i < j then c.getD (c.length - 1 - i) 0 else c.getD i 0 := by
  simp only [revK, List.getElem_map, List.getElem_range]
theorem revK_zero (c : List Int) : revK c 0 = c := by
  refine List.ext_getElem (by simp [revK]) fun i h1 h2 => ?_
  simp [revK, List.getD, h2]
theorem revK_succ {c : List Int} {j : Nat} (hj : j < c.length) : (revK c j).set (c.length - 1 - j) (c.getD j 0) = revK c (j + 1) := by
  refine List.ext_getElem (by simp [revK]) fun i h1 h2 => ?_
  have hi : i < c.length := by simpa [revK] using h2
  rw [List.getElem_set, revK_get, revK_get]
  by_cases e : c.length - 1 - j = i
  · rw [if_pos e, if_pos (by omega), show c.length - 1 - i = j by omega]
  · rw [if_neg e]
    by_cases h : c.length - 1 - i < j
    · rw [if_pos h, if_pos (by omega)]
    · rw [if_neg h, if_neg (by omega)]
theorem revK_mem (c : List Int) (y : Int) : y ∈ revK c c.length ↔ y ∈ c := by
  unfold revK
  rw [List.mem_map]
  constructor
  · rintro ⟨p, hp, rfl⟩
    rw [List.mem_range] at hp
    rw [if_pos (by omega)]
    exact getD_memI (by omega)
  · intro h
    obtain ⟨i, hi, rfl⟩ := List.getElem_of_mem h
    refine ⟨c.length - 1 - i, List.mem_range.2 (by omega), ?_⟩
    rw [if_pos (by omega), show c.length - 1 - (c.length - 1 - i) = i by omega]
    simp [List.getD, hi]
/-- Clauses of T, turned and with one literal more, and as they are: the first k of them, from a place on. -/
structure OrP (T : List (List Int)) (turn k : Nat) (U : List (List Int)) : Prop where
  hk : k ≤ T.length
  len : U.length = 2 * k
  sub : ∀ d ∈ U, d.length ≤ 101 ∧ ∃ c ∈ T, ∀ y, y ∈ d ↔ y ∈ c
  all : ∀ j, j < k → T.getD ((j + turn) % T.length) [] ∈ U
theorem OrP.zero (T : List (List Int)) (turn : Nat) : OrP T turn 0 [] := ⟨Nat.zero_le _, rfl, fun d h => (List.not_mem_nil h).elim, fun j h => by omega⟩
theorem OrP.next {T : List (List Int)} {turn k : Nat} {U : List (List Int)} (h : OrP T turn k U) (hk : k < T.length) (hT : ∀ c ∈ T, c.length ≤ 100) {d : List Int} (hd : d.length ≤ 101) (hy : ∀ y, y ∈ d ↔ y ∈ T.getD ((k + turn) % T.length) []) : OrP T turn (k + 1) (U ++ [d, T.getD ((k + turn) % T.length) []]) := by
  have hm : T.getD ((k + turn) % T.length) [] ∈ T := getD_memL (Nat.mod_lt _ (by omega))
  refine ⟨by omega, by have := h.len; simp; omega, fun e he => ?_, fun j hj => ?_⟩
  · rcases List.mem_append.1 he with he | he
    · exact h.sub e he
    · rcases List.mem_cons.1 he with rfl | he
      · exact ⟨hd, _, hm, hy⟩
      · rw [List.mem_singleton] at he
        subst he
        exact ⟨by have := hT _ hm; omega, _, hm, fun y => Iff.rfl⟩
  · by_cases e : j < k
    · exact List.mem_append_left _ (h.all j e)
    · obtain rfl : j = k := by omega
      exact List.mem_append_right _ (by simp)
theorem turn_all {m turn i : Nat} (hi : i < m) : ∃ j, j < m ∧ (j + turn) % m = i := by
  refine ⟨(i + (m - turn % m)) % m, Nat.mod_lt _ (by omega), ?_⟩
  have h1 := Nat.mod_lt turn (by omega : 0 < m)
  rw [Nat.mod_add_mod]
  have h2 := Nat.div_add_mod turn m
  have e : i + (m - turn % m) + turn = i + m * (turn / m + 1) := by rw [Nat.mul_add]; omega
  rw [e, Nat.add_mul_mod_self_left, Nat.mod_eq_of_lt hi]
theorem OrP.norm {N : Int} {T U : List (List Int)} {turn : Nat} (h : OrP T turn T.length U) (hz : checkT N T = 0) (h60 : T.length ≤ 60) : checkT N U = 0 ∧ normL U = normL T := by
  obtain ⟨h0, h1, _, h3⟩ := checkT_ok hz
  have hu : checkT N U = 0 := by
    refine checkT_of h0 h1 (by have := h.len; omega) fun d hd => ?_
    obtain ⟨hl, c, hc, hy⟩ := h.sub d hd
    exact ⟨by omega, fun l hl => (h3 c hc).2 l ((hy l).1 hl)⟩
  refine ⟨hu, normL_congr hu hz (fun d hd => (h.sub d hd).2) fun c hc => ?_⟩
  obtain ⟨i, hi, rfl⟩ := List.getElem_of_mem hc
  obtain ⟨j, hj, hji⟩ := turn_all (turn := turn) hi
  refine ⟨_, h.all j hj, fun y => ?_⟩
  rw [hji]
  simp [List.getD, hi]
end Go.Proofs.Ytkollnaojpppcaa
