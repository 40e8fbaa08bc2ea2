/- The reasons as explain.Reasons returns them are the reference's (plain); no condition. -/
import Derived.Test.YtecdhmiamlgibaaDoorSuG
import Derived.Test.YtecdhmiamlgibaaDoorNe39
namespace Go.Proofs.YtecdhmiamlgibaaDoor
set_option linter.unusedVariables false
set_option linter.unusedSimpArgs false
set_option linter.unusedSectionVars false
open Go.RowKit
set_option maxRecDepth 100000
theorem lex_cmp : ∀ {a b : List Int}, a.length = b.length → lexR a b = decide (lexA a b < 0)
 | [], [], _ => rfl
 | [], _ :: _, h => by simp at h
 | _ :: _, [], h => by simp at h
 | x :: a, y :: b, h => by
  have ih := lex_cmp (a := a) (b := b) (by simpa using h)
  have hx : absR x = absZ x := rfl
  have hy : absR y = absZ y := rfl
  unfold lexR lexA
  rw [hx, hy]
  by_cases e : absZ x = absZ y
  ·rw [if_pos e, if_pos (by omega), ih]
  ·rw [if_neg e, if_neg (by omega), decide_eq_decide]
   omega
theorem bef_cmp (a b : List Int) : befR a b = decide (cmpX a b < 0) := by
 unfold befR cmpX
 by_cases e : a.length = b.length
 ·rw [if_pos e, if_pos e]; exact lex_cmp e
 ·rw [if_neg e, if_neg e, decide_eq_decide]
  omega
theorem sortX_srt (L : List (List Int)) : SrtR (sortX L) := (sortX_sorted L).imp fun {a b} h => by
 rw [bef_cmp]
 unfold leX at h
 simpa using h
theorem least_congr {f g : Nat → Bool} {n at0 P : Nat} (h : ∀ i, i < 2 ^ n → f i = g i) (ha : at0 < 2 ^ n) (hP : P < 2 ^ n) : leastB f n at0 P = leastB g n at0 P := by
 unfold leastB
 rw [chg_congr h ha (cmpl_lt hP)]
 congr 1
 rw [Bool.eq_iff_iff, List.all_eq_true, List.all_eq_true]
 constructor
 ·intro hh k hk
  rw [← chg_congr h ha (or_lt (cmpl_lt hP) (List.mem_range.1 hk))]; exact hh k hk
 ·intro hh k hk
  rw [chg_congr h ha (or_lt (cmpl_lt hP) (List.mem_range.1 hk))]; exact hh k hk
theorem rea_eq {N : Int} {ns : List Nd} (h : validN N ns = true) (a : BitVec 128) : sortX (reaL (tabF ns) (matL ns) (idxN (matL ns) a) (2 ^ (matL ns).length)) = refR ns a := by
 have hf : ∀ i, i < 2 ^ (listS (matS ns)).length → tabF ns i = resF ns (listS (matS ns)) i := fun i hi => on_res hi
 have e : reaL (tabF ns) (matL ns) (idxN (matL ns) a) (2 ^ (matL ns).length) = (reasonsP (resF ns (listS (matS ns))) (listS (matS ns)).length (idxN (listS (matS ns)) a)).map (termL (listS (matS ns)) (idxN (listS (matS ns)) a)) := by
  unfold reaL reasonsP
  show ((List.range (2 ^ (listS (matS ns)).length)).filter (leastB (tabF ns) (listS (matS ns)).length (idxN (listS (matS ns)) a))).map _ = _
  rw [List.filter_congr fun P hP => least_congr hf (idxN_lt _ a) (List.mem_range.1 hP)]
  rfl
 rw [e]
 exact reasons_uniq h a (sortX_perm _) (sortX_srt _)
theorem bia_eq {N : Int} {ns : List Nd} (h : validN N ns = true) (a p : BitVec 128) : (!suffB ns a (matS ns &&& ~~~ p)) = chgB (tabF ns) (matL ns).length (idxN (matL ns) a) (idxN (matL ns) p) := by
 rw [biased_eq h, Bool.not_not]
 exact (chg_congr (fun i hi => on_res hi) (idxN_lt _ a) (idxN_lt _ p)).symm
theorem nee_eq {N : Int} {ns : List Nd} (h : validN N ns = true) (a : BitVec 128) : termL (matL ns) (idxN (matL ns) a) (neeN (tabF ns) (idxN (matL ns) a) (matL ns).length) = refN ns a := by
 refine (refN_eq h a fun p => ?_).symm
 rw [neeN_bit]
 by_cases hp : p < (matL ns).length
 ·have hp2 : p < (listS (matS ns)).length := hp
  rw [decide_eq_true hp, decide_eq_true hp2]
  have hlt : idxN (listS (matS ns)) a ^^^ 2 ^ p < 2 ^ (listS (matS ns)).length := Nat.xor_lt_two_pow (idxN_lt _ a) (Nat.pow_lt_pow_right (by omega) hp2)
  have e1 : tabF ns (idxN (matL ns) a ^^^ 2 ^ p) = resF ns (listS (matS ns)) (idxN (listS (matS ns)) a ^^^ 2 ^ p) := on_res hlt
  have e2 : tabF ns (idxN (matL ns) a) = resF ns (listS (matS ns)) (idxN (listS (matS ns)) a) := on_res (idxN_lt _ a)
  rw [e1, e2]
 ·have hp2 : ¬ p < (listS (matS ns)).length := hp
  rw [decide_eq_false hp, decide_eq_false hp2]; rfl
end Go.Proofs.YtecdhmiamlgibaaDoor
