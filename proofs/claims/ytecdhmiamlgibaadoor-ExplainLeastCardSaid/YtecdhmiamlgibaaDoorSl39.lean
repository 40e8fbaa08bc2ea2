/- No biased assignment comes before the least one (plain); no condition. -/
import Derived.Test.YtecdhmiamlgibaaDoorSj39
namespace Go.Proofs.YtecdhmiamlgibaaDoor
set_option linter.unusedVariables false
set_option linter.unusedSimpArgs false
set_option linter.unusedSectionVars false
open Go.RowKit
set_option maxRecDepth 100000
theorem less_cut {vs : List Int} (h : okVs vs) {a : BitVec 128} {x : Nat} (hl : lessS a (setX vs x) = true) : lessS (setX vs (idxN vs a)) (setX vs x) = true := by
 unfold lessS at hl
 split at hl
 ·rename_i i hf
  rw [List.find?_range_eq_some] at hf
  obtain ⟨h1, h2, h3⟩ := hf
  have hin := setX_in h hl
  rw [less_at (i := i) (List.mem_range.1 h2) ?_ fun j hj => ?_]
  ·exact hl
  ·rw [setX_idx h, decide_eq_true hin, Bool.true_and]
   simpa using h1
  ·have h4 := h3 j hj
   rw [setX_idx h]
   by_cases hm : ((j : Int) + 1) ∈ vs
   ·rw [decide_eq_true hm, Bool.true_and]
    simpa using h4
   ·rw [decide_eq_false hm, Bool.false_and]
    cases e : sHas (setX vs x) ((j : Int) + 1) with
    | false => rfl
    | true => exact absurd (setX_in h e) hm
 ·cases hl
theorem bias_least {ns : List Nd} {p a : BitVec 128} (h64 : (matL ns).length ≤ 64) {i : Nat} (hf : fstI (tabF ns) (matL ns).length (idxN (matL ns) p) = some i) (hc : chgB (tabF ns) (matL ns).length (idxN (matL ns) a) (idxN (matL ns) p) = true) : lessS a (setX (matL ns) (revN (matL ns).length i)) = false := by
 have hvs : okVs (matL ns) := listS_vs (matS ns)
 have hs : (matL ns).Pairwise (· < ·) := listS_lt (matS ns)
 unfold fstI at hf
 rw [List.find?_range_eq_some] at hf
 obtain ⟨h1, h2, h3⟩ := hf
 have hi := List.mem_range.1 h2
 have hk := idxN_lt (matL ns) a
 cases e : lessS a (setX (matL ns) (revN (matL ns).length i)) with
 | false => rfl
 | true =>
  have hl := less_cut hvs e
  rw [less_rev hs hvs (rv := revN (matL ns).length) (fun x hx j => revN_bit h64 hx j) hk (revN_lt h64 hi), revN_rev h64 hi, decide_eq_true_eq] at hl
  have h4 := h3 _ hl
  rw [revN_rev h64 hk, hc] at h4
  cases h4
theorem bias_some {ns : List Nd} {p a : BitVec 128} (h64 : (matL ns).length ≤ 64) (hf : fstI (tabF ns) (matL ns).length (idxN (matL ns) p) = none) : chgB (tabF ns) (matL ns).length (idxN (matL ns) a) (idxN (matL ns) p) = false := by
 have hk := idxN_lt (matL ns) a
 unfold fstI at hf
 rw [List.find?_eq_none] at hf
 have h1 := hf (revN (matL ns).length (idxN (matL ns) a)) (List.mem_range.2 (revN_lt h64 hk))
 rw [revN_rev h64 hk] at h1
 simpa using h1
end Go.Proofs.YtecdhmiamlgibaaDoor
