/- Plain laws for TraceSays: where the literals of a claim hold, its residual is true exactly if its clauses are; no program. -/
import Derived.Test.YthdjgcjpolpgdaaTp2
namespace Go.Proofs.Ythdjgcjpolpgdaa
set_option linter.unusedVariables false
set_option linter.unusedSimpArgs false
set_option linter.unusedSectionVars false
open Go.RowKit
set_option maxRecDepth 100000
theorem vars_row {u : Int} : ∀ (c : List Int) (S : BitVec 128), (∀ l ∈ c, litVar l ≠ u) → sHas (c.foldl (fun s l => sWith s (litVar l)) S) u = sHas S u
  | [], _, _ => rfl
  | l :: c, S, h => by
    rw [List.foldl_cons, vars_row c _ fun x hx => h x (List.mem_cons_of_mem _ hx), sHas_with, decide_eq_false (fun k => h l (List.mem_cons_self ..) k.1.symm), Bool.or_false]
theorem vars_rows {u : Int} : ∀ (L : List (List Int)) (S : BitVec 128), (∀ c ∈ L, ∀ l ∈ c, litVar l ≠ u) → sHas (L.foldl (fun s c => varsRow s c c.length) S) u = sHas S u
  | [], _, _ => rfl
  | c :: L, S, h => by
    rw [List.foldl_cons, vars_rows L _ fun x hx => h x (List.mem_cons_of_mem _ hx)]
    unfold varsRow
    rw [List.take_length, vars_row c S (h c (List.mem_cons_self ..))]
theorem vars_not {N : Int} {L : List (List Int)} (hz : checkT N L = 0) {u : Int} (h : ∀ c ∈ L, ∀ l ∈ c, litVar l ≠ u) : sHas (varsOf N L) u = false := by
  unfold varsOf varsT varsK
  rw [if_pos hz, List.take_length, vars_rows (u := u) _ _ h]
  unfold sHas; simp
theorem given_lit {N : Int} {L : List (List Int)} {ts d : List Int} (hd : d ∈ givenT ts L) {l x : Int} (hl : l ∈ d) (hlo : litOk l N = true) (hx : x ∈ ts) : litVar l ≠ litVar x := by
  intro he
  have hlo := litOk_range hlo
  obtain ⟨c, hc, ho, rfl⟩ := givenT_mem.1 hd
  obtain ⟨hl1, hl2⟩ := List.mem_filter.1 hl
  have n1 : l ∉ ts := by
    unfold openC at ho
    rw [Bool.not_eq_true', List.any_eq_false] at ho
    intro h; exact ho l hl1 (decide_eq_true h)
  have n2 : -l ∉ ts := by simpa using hl2
  have hlv : litVar l = l ∨ litVar l = -l := by
    rcases Int.lt_or_lt_of_ne hlo.2.2.1 with h | h
    · exact .inr (litVar_neg (by omega) (by omega))
    · exact .inl (litVar_pos (by omega) (by omega))
  have hpos : litVar l ≠ 0 := by rcases hlv with h | h <;> omega
  have hxv : litVar x = x ∨ litVar x = -x := by
    rcases Classical.em (1 ≤ x ∧ x ≤ 128) with h | h
    · exact .inl (litVar_pos h.1 h.2)
    · rcases Classical.em (-128 ≤ x ∧ x ≤ -1) with k | k
      · exact .inr (litVar_neg k.1 k.2)
      · exact absurd (he.trans (litVar_no (l := x) (by omega))) hpos
  have : x = l ∨ x = -l := by omega
  rcases this with rfl | rfl
  · exact n1 hx
  · exact n2 hx
theorem res_vars {N : Int} {L : List (List Int)} {ts cs : List Int} (hz : checkT N L = 0) (hg : goodB N L.length ts cs = true) {x : Int} (hx : x ∈ ts) : sHas (varsOf N (resT L ts cs)) (litVar x) = false := by
  refine vars_not (res_check hz hg) fun c hc l hl => ?_
  have hY := givenT_check (left_check hz hg) ts
  obtain ⟨h0, _, _, h3⟩ := checkT_ok hY
  unfold resT at hc
  obtain ⟨d, hd, _, rfl⟩ := (normL_mem hY c).1 hc
  have hld := (mem_sortK_ok h0 (h3 d hd).2 l).1 hl
  exact given_lit hd hld ((h3 d hd).2 l hld) hx
/-- A literal is made true. -/
def setS (s : BitVec 128) (l : Int) : BitVec 128 := if 0 < l then sWith (sWithout s (litVar l)) l else sWithout s (litVar l)
/-- The first k literals are made true. -/
def setA (s : BitVec 128) (ts : List Int) (k : Nat) : BitVec 128 := (ts.take k).foldl setS s
theorem setA_zero (s : BitVec 128) (ts : List Int) : setA s ts 0 = s := rfl
theorem setA_succ (s : BitVec 128) {ts : List Int} {k : Nat} (h : k < ts.length) : setA s ts (k + 1) = setS (setA s ts k) (ts.getD k 0) := by
  unfold setA
  rw [List.take_succ_eq_append_getElem h, List.foldl_append]
  simp [List.getD, h]
theorem setS_other {s : BitVec 128} {l u N : Int} (hl : litOk l N = true) (hN : N ≤ 128) (hu : u ≠ litVar l) : sHas (setS s l) u = sHas s u := by
  obtain ⟨h1, h2, h3, h4, h5⟩ := litVar_abs hl
  unfold setS
  split
  · rename_i h0
    have : litVar l = l := by rcases h1 with h | h <;> omega
    have e1 : decide (u = l ∧ 1 ≤ l ∧ l ≤ 128) = false := decide_eq_false (fun k => hu (by rw [this]; exact k.1))
    have e2 : decide (u = litVar l) = false := decide_eq_false hu
    rw [sHas_with, sHas_without, e1, e2]
    simp
  · rw [sHas_without, decide_eq_false hu]; simp
theorem setS_own {s : BitVec 128} {l N : Int} (hl : litOk l N = true) (hN : N ≤ 128) : litHolds (setS s l) l = true := by
  obtain ⟨h1, h2, h3, h4, h5⟩ := litVar_abs hl
  unfold litHolds
  rw [decide_eq_true (by omega : 0 < litVar l), Bool.true_and]
  unfold setS
  by_cases h0 : 0 < l
  · have : litVar l = l := by rcases h1 with h | h <;> omega
    rw [if_pos h0, sHas_with, this, decide_eq_true (⟨rfl, by omega, by omega⟩ : l = l ∧ 1 ≤ l ∧ l ≤ 128), Bool.or_true, decide_eq_true h0]; rfl
  · rw [if_neg h0, sHas_without, decide_eq_true rfl, decide_eq_false h0]; simp
theorem setA_holds {N m : Int} (hN : N ≤ 128) {ts cs : List Int} (h : goodB N m ts cs = true) (s : BitVec 128) : ∀ k, k ≤ ts.length → ∀ i, i < k → litHolds (setA s ts k) (ts.getD i 0) = true
  | 0, _, i, hi => by omega
  | k + 1, hk, i, hi => by
    have hl := good_lits h _ (getD_memI (xs := ts) (k := k) (by omega))
    rw [setA_succ s (by omega)]
    by_cases e : i < k
    · have := setA_holds hN h s k (by omega) i e
      unfold litHolds at this ⊢
      rw [setS_other hl hN (good_var hN h e (by omega))]
      exact this
    · obtain rfl : i = k := by omega
      exact setS_own hl hN
theorem setA_upto {N m : Int} (h0 : 0 ≤ N) (hN : N ≤ 128) {ts cs : List Int} (h : goodB N m ts cs = true) {s : BitVec 128} (hs : sUpto s N = true) : ∀ k, k ≤ ts.length → sUpto (setA s ts k) N = true
  | 0, _ => hs
  | k + 1, hk => by
    have hl := good_lits h _ (getD_memI (xs := ts) (k := k) (by omega))
    obtain ⟨_, _, h3, _, _⟩ := litVar_abs hl
    have ih := (sUpto_iff _ N h0).1 (setA_upto h0 hN h hs k (by omega))
    rw [setA_succ s (by omega)]
    refine (sUpto_iff _ N h0).2 fun v hv => ?_
    rw [setS_other hl hN (by omega)]
    exact ih v hv
theorem cut_upto {N : Int} (h0 : 0 ≤ N) (s : BitVec 128) : sUpto (s &&& sAll N) N = true := by
  refine (sUpto_iff _ N h0).2 fun v hv => ?_
  have h1 := sHas_all N v
  rw [decide_eq_false (by omega)] at h1
  unfold sHas at h1 ⊢
  rw [BitVec.getLsbD_and]
  cases h2 : decide (1 ≤ v) <;> cases h3 : decide (v ≤ 128) <;> simp_all
theorem says_eval {N : Int} {L : List (List Int)} {ts cs : List Int} {A : BitVec 128} (hz : checkT N L = 0) (hg : goodB N L.length ts cs = true) (hA : sUpto A N = true) (hh : ∀ l ∈ ts, litHolds A l = true) :
    evalT N (resT L ts cs) A = cs.all fun i => (L.getD i.toNat []).any (litHolds A) := by
  have hc := left_check hz hg
  unfold resT
  rw [normL_eval (givenT_check hc ts), givenT_eval hc hh]
  unfold evalT
  rw [decide_eq_true hc, hA, Bool.true_and, Bool.true_and]
  rw [Bool.eq_iff_iff, List.all_eq_true, List.all_eq_true]
  constructor
  · intro h i hi
    by_cases hk : keptF L ts i = true
    · exact h _ (List.mem_map.2 ⟨i, List.mem_filter.2 ⟨hi, hk⟩, rfl⟩)
    · unfold keptF at hk
      rw [Bool.not_eq_true', Bool.not_eq_false, List.any_eq_true] at hk
      obtain ⟨l, hl, hlt⟩ := hk
      exact List.any_eq_true.2 ⟨l, hl, hh l (of_decide_eq_true hlt)⟩
  · intro h c hcm
    unfold rowsOf at hcm
    obtain ⟨i, hi, rfl⟩ := List.mem_map.1 hcm
    exact h i (kept_mem hi)
/-- The first k clauses are true. -/
def allK (L : List (List Int)) (A : BitVec 128) (cs : List Int) (k : Nat) : Bool := (cs.take k).all fun i => (L.getD i.toNat []).any (litHolds A)
theorem allK_succ (L : List (List Int)) (A : BitVec 128) {cs : List Int} {k : Nat} (h : k < cs.length) : allK L A cs (k + 1) = (allK L A cs k && (L.getD (cs.getD k 0).toNat []).any (litHolds A)) := by
  unfold allK
  rw [List.take_succ_eq_append_getElem h, List.all_append]
  simp [List.getD, h]
end Go.Proofs.Ythdjgcjpolpgdaa
