/- The least biased assignment, as the reference finds it (plain); no condition. -/
import Derived.Test.YtecdhmiamlgibaaDoorSi39
import Derived.Test.YtecdhmiamlgibaaDoorBqG
namespace Go.Proofs.YtecdhmiamlgibaaDoor
set_option linter.unusedVariables false
set_option linter.unusedSimpArgs false
set_option linter.unusedSectionVars false
open Go.RowKit
set_option maxRecDepth 100000
theorem listS_lt (s : BitVec 128) : (listS s).Pairwise (· < ·) := by
 rw [listS_rng]
 refine List.Pairwise.filter _ (List.pairwise_map.2 ?_)
 exact List.pairwise_lt_range.imp fun h => by omega
def refBs (ns : List Nd) (p : BitVec 128) : Option (BitVec 128) := (subsL (listS (matS ns))).foldl (fun o x => if (!suffB ns x (matS ns &&& ~~~ p) && (match o with | none => true | some b => lessS x b)) = true then some x else o) none
theorem fold_best {vs : List Int} (hs : vs.Pairwise (· < ·)) (h : okVs vs) {rv : Nat → Nat} (hr : ∀ x, x < 2 ^ vs.length → ∀ j, (rv x).testBit j = (decide (j < vs.length) && x.testBit (vs.length - 1 - j))) {c : Nat → Bool} {g : BitVec 128 → Bool} (hg : ∀ k, k < 2 ^ vs.length → g (setX vs k) = c k) : ∀ M, M ≤ 2 ^ vs.length → ((List.range M).map (setX vs)).foldl (fun o x => if (g x && (match o with | none => true | some b => lessS x b)) = true then some x else o) none = (bestN c rv M).map (setX vs)
 | 0, _ => rfl
 | M + 1, hM => by
  rw [List.range_succ, List.map_append, List.foldl_append, fold_best hs h hr hg M (by omega), best_succ]
  simp only [List.map_cons, List.map_nil, List.foldl_cons, List.foldl_nil]
  rw [hg M (by omega)]
  rcases best_ok c rv M with ⟨h1, _⟩ | ⟨b, h1, h2, _, _⟩
  ·rw [h1]
   simp only [Option.map_none]
   split <;> rfl
  ·rw [h1]
   simp only [Option.map_some]
   rw [less_rev hs h hr (by omega) (by omega)]
   split <;> rfl
theorem refBs_eq {N : Int} {ns : List Nd} (h : validN N ns = true) (p : BitVec 128) (h64 : (matL ns).length ≤ 64) : refBs ns p = (fstI (tabF ns) (matL ns).length (idxN (matL ns) p)).map fun i => setX (matL ns) (revN (matL ns).length i) := by
 have hvs := listS_vs (matS ns)
 have h64b : (listS (matS ns)).length ≤ 64 := h64
 have hb := best_first (c := fun k => chgB (tabF ns) (matL ns).length k (idxN (matL ns) p)) (rv := revN (listS (matS ns)).length) (n := (listS (matS ns)).length) (fun x hx => revN_lt h64b hx) (fun x hx => revN_rev h64b hx)
 unfold refBs
 rw [subs_eq, fold_best (listS_lt _) hvs (rv := revN (listS (matS ns)).length) (fun x hx j => revN_bit h64b hx j) (c := fun k => chgB (tabF ns) (matL ns).length k (idxN (matL ns) p)) (fun k hk => by
  rw [bia_eq h]
  show chgB (tabF ns) (matL ns).length (idxN (listS (matS ns)) (setX (listS (matS ns)) k)) (idxN (matL ns) p) = _
  rw [idx_set hvs hk]) _ (Nat.le_refl _), hb, Option.map_map]
 rfl
end Go.Proofs.YtecdhmiamlgibaaDoor
