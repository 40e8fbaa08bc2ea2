/- Plain laws for CanonCounts: the bits at the places of names, and how many numbers have each; no program. -/
import Derived.Test.YtafikekndefjcaaDoorSp
namespace Go.Proofs.YtafikekndefjcaaDoor
set_option linter.unusedVariables false
set_option linter.unusedSimpArgs false
set_option linter.unusedSectionVars false
open Go.RowKit
set_option maxRecDepth 100000
def projK (names : List Int) (k : Nat) : Nat → Nat
  | 0 => 0
  | j + 1 => projK names k j + (if k.testBit ((names.getD j 0).toNat - 1) then 2 ^ j else 0)
theorem projK_lt (names : List Int) (k : Nat) : ∀ j, projK names k j < 2 ^ j
  | 0 => by simp [projK]
  | j + 1 => by
    have := projK_lt names k j
    rw [projK, Nat.pow_succ]
    split <;> omega
theorem projK_bit (names : List Int) (k : Nat) : ∀ j i, (projK names k j).testBit i = (decide (i < j) && k.testBit ((names.getD i 0).toNat - 1))
  | 0, i => by simp [projK]
  | j + 1, i => by
    have hlt := projK_lt names k j
    have ih := projK_bit names k j
    rw [projK]
    split
    · rename_i hb
      rw [Nat.add_comm]
      by_cases e : i = j
      · subst e
        rw [Nat.testBit_two_pow_add_eq, ih, hb]
        simp
      · by_cases hij : i < j
        · rw [Nat.testBit_two_pow_add_gt hij, ih, decide_eq_true hij, decide_eq_true (by omega : i < j + 1)]
        · rw [Nat.testBit_lt_two_pow, decide_eq_false (by omega : ¬ i < j + 1), Bool.false_and]
          have : 2 ^ (j + 1) ≤ 2 ^ i := Nat.pow_le_pow_right (by omega) (by omega)
          rw [Nat.pow_succ] at this
          omega
    · rename_i hb
      rw [Nat.add_zero, ih]
      by_cases e : i = j
      · subst e
        rw [Bool.eq_false_iff.2 hb, Bool.and_false, Bool.and_false]
      · by_cases hij : i < j
        · rw [decide_eq_true hij, decide_eq_true (by omega : i < j + 1)]
        · rw [decide_eq_false hij, decide_eq_false (by omega : ¬ i < j + 1)]
theorem projK_congr {names names' : List Int} {k k' : Nat} : ∀ j, (∀ i, i < j → k.testBit ((names.getD i 0).toNat - 1) = k'.testBit ((names'.getD i 0).toNat - 1)) → projK names k j = projK names' k' j
  | 0, _ => rfl
  | j + 1, h => by
    rw [projK, projK, projK_congr j fun i hi => h i (by omega), h j (by omega)]
def cnt (P : Nat → Bool) (m : Nat) : Nat := ((List.range m).filter P).length
theorem cnt_add (P : Nat → Bool) (a b : Nat) : cnt P (a + b) = cnt P a + cnt (fun i => P (a + i)) b := by
  unfold cnt
  rw [List.range_add, List.filter_append, List.length_append, List.filter_map, List.length_map]
  rfl
theorem cnt_succ (P : Nat → Bool) (m : Nat) : cnt P (m + 1) = cnt P m + if P m then 1 else 0 := by
  rw [cnt_add]
  congr 1
  unfold cnt
  simp only [List.range_one, List.filter_cons, List.filter_nil, Nat.add_zero]
  split <;> simp
theorem cnt_congr {P Q : Nat → Bool} {m : Nat} (h : ∀ i, i < m → P i = Q i) : cnt P m = cnt Q m := by
  unfold cnt
  rw [List.filter_congr fun i hi => h i (List.mem_range.1 hi)]
theorem cnt_le (P : Nat → Bool) (m : Nat) : cnt P m ≤ m := by
  unfold cnt
  exact Nat.le_trans (List.length_filter_le _ _) (by simp)
theorem two_succ (N : Nat) : 2 ^ (N + 1) = 2 ^ N + 2 ^ N := by rw [Nat.pow_succ]; omega
theorem cnt_proj : ∀ (N : Nat) (names : List Int) (P : Nat → Bool), names.Pairwise (· < ·) → (∀ v ∈ names, 1 ≤ v ∧ v ≤ (N : Int)) → cnt (fun k => P (projK names k names.length)) (2 ^ N) = 2 ^ (N - names.length) * cnt P (2 ^ names.length)
  | 0, names, P, hs, hr => by
    cases names with
    | nil => simp [projK]; exact cnt_congr fun i hi => by rw [show i = 0 by omega]
    | cons x l => have := hr x List.mem_cons_self; omega
  | N + 1, names, P, hs, hr => by
    by_cases hlast : ∃ ns, names = ns ++ [((N : Int) + 1)]
    · obtain ⟨ns, rfl⟩ := hlast
      have hs2 : ns.Pairwise (· < ·) := (List.pairwise_append.1 hs).1
      have hr2 : ∀ v ∈ ns, 1 ≤ v ∧ v ≤ (N : Int) := fun v hv => by
        have h1 := hr v (List.mem_append_left _ hv)
        have h2 := (List.pairwise_append.1 hs).2.2 v hv ((N : Int) + 1) (by simp)
        omega
      have hlen : (ns ++ [((N : Int) + 1)]).length = ns.length + 1 := by simp
      have hget : ∀ i, i < ns.length → (ns ++ [((N : Int) + 1)]).getD i 0 = ns.getD i 0 := fun i hi => by simp [List.getD, List.getElem?_append_left hi]
      have hgl : (ns ++ [((N : Int) + 1)]).getD ns.length 0 = (N : Int) + 1 := by simp [List.getD]
      have hbit : ∀ i, i < ns.length → (ns.getD i 0).toNat - 1 < N := fun i hi => by have := hr2 _ (getD_memI hi); omega
      have hnl : ns.length ≤ N := by have := sorted_len hs2 hr2 (by omega); omega
      have hTop : ((N : Int) + 1).toNat - 1 = N := by omega
      have e1 : cnt (fun k => P (projK (ns ++ [((N : Int) + 1)]) k (ns.length + 1))) (2 ^ N) = cnt (fun k => P (projK ns k ns.length)) (2 ^ N) := cnt_congr fun k hk => by
        show P (projK _ k (ns.length + 1)) = _
        rw [projK, hgl, hTop, Nat.testBit_lt_two_pow hk, projK_congr (names' := ns) (k' := k) ns.length fun i hi => by rw [hget i hi]]
        simp
      have e2 : cnt (fun k => P (projK (ns ++ [((N : Int) + 1)]) (2 ^ N + k) (ns.length + 1))) (2 ^ N) = cnt (fun k => (fun s => P (2 ^ ns.length + s)) (projK ns k ns.length)) (2 ^ N) := cnt_congr fun k hk => by
        show P (projK _ (2 ^ N + k) (ns.length + 1)) = P _
        rw [projK, hgl, hTop, Nat.testBit_two_pow_add_eq, Nat.testBit_lt_two_pow hk, projK_congr (names' := ns) (k' := k) ns.length fun i hi => by rw [hget i hi, Nat.testBit_two_pow_add_gt (hbit i hi)]]
        simp [Nat.add_comm]
      rw [hlen, two_succ N, cnt_add, e1, e2, cnt_proj N ns P hs2 hr2, cnt_proj N ns (fun s => P (2 ^ ns.length + s)) hs2 hr2, two_succ ns.length, cnt_add, Nat.mul_add]
      rw [show N + 1 - (ns.length + 1) = N - ns.length by omega]
    · have hr2 : ∀ v ∈ names, 1 ≤ v ∧ v ≤ (N : Int) := fun v hv => by
        have h1 := hr v hv
        refine ⟨h1.1, ?_⟩
        apply Decidable.byContradiction
        intro hh
        have hv' : v = (N : Int) + 1 := by omega
        subst hv'
        obtain ⟨a, b, e⟩ := List.append_of_mem hv
        subst e
        cases b with
        | nil => exact hlast ⟨a, rfl⟩
        | cons y b =>
          have := (List.pairwise_cons.1 (List.pairwise_append.1 hs).2.1).1 y List.mem_cons_self
          have h2 := hr y (by simp)
          omega
      have hbit : ∀ i, i < names.length → (names.getD i 0).toNat - 1 < N := fun i hi => by have := hr2 _ (getD_memI hi); omega
      have hnl : names.length ≤ N := by have := sorted_len hs hr2 (by omega); omega
      have e2 : cnt (fun k => P (projK names (2 ^ N + k) names.length)) (2 ^ N) = cnt (fun k => P (projK names k names.length)) (2 ^ N) := cnt_congr fun k hk => by
        show P _ = P _
        rw [projK_congr (names' := names) (k' := k) names.length fun i hi => by rw [Nat.testBit_two_pow_add_gt (hbit i hi)]]
      rw [two_succ N, cnt_add, e2, cnt_proj N names P hs hr2, show N + 1 - names.length = (N - names.length) + 1 by omega, two_succ, Nat.add_mul]
/-! ### Values of sets -/
def nSet (k : Nat) : BitVec 128 := BitVec.ofNat 128 k
theorem sHas_nSet {k : Nat} (hk : k < 2 ^ 64) {v : Int} (h1 : 1 ≤ v) (h2 : v ≤ 128) : sHas (nSet k) v = k.testBit (v.toNat - 1) := by
  unfold sHas nSet
  rw [decide_eq_true h1, decide_eq_true h2, Bool.true_and, Bool.true_and, BitVec.getLsbD_ofNat, decide_eq_true (by omega : (v - 1).toNat < 128), Bool.true_and]
  congr 1; omega
theorem small_eval {N : Int} {T : List (List Int)} (hz : checkT N T = 0) (hN : N ≤ 8) {k : Nat} (hk : k < 2 ^ N.toNat) (hu : sUpto (nSet k) N = true) (hu2 : sUpto (nSet (projK (smallN (normL T)) k (smallN (normL T)).length)) ((smallN (normL T)).length : Int) = true) :
    evalT ((smallN (normL T)).length : Int) (smallL (normL T)) (nSet (projK (smallN (normL T)) k (smallN (normL T)).length)) = evalT N T (nSet k) := by
  rw [← normL_eval hz]
  have hz2 := normL_check hz
  generalize normL T = M at *
  have hz3 := small_check hz2
  obtain ⟨h0, _, _, h3⟩ := checkT_ok hz2
  have hR := ren_small (varsT M)
  have hNm := names_listS (varsT M)
  have hnl := names_len hNm
  unfold evalT
  rw [hz2, hz3, hu, hu2]
  simp only [decide_true, Bool.true_and]
  have hk64 : k < 2 ^ 64 := Nat.lt_of_lt_of_le hk (Nat.pow_le_pow_right (by omega) (by omega))
  have hr : ∀ v ∈ smallN M, 1 ≤ v ∧ v ≤ N := fun v hv => by
    obtain ⟨h1, c, hc, l, hl, rfl⟩ := (sHas_varsT M v).1 ((listS_mem _ _).1 hv)
    have := litVar_abs ((h3 c hc).2 l hl)
    omega
  have hlen : (smallN M).length ≤ 8 := by have := sorted_len (listS_sorted (varsT M)) hr (by omega); unfold smallN; omega
  have hp64 : projK (smallN M) k (smallN M).length < 2 ^ 64 := Nat.lt_of_lt_of_le (projK_lt _ _ _) (Nat.pow_le_pow_right (by omega) (by omega))
  have key : ∀ c ∈ M, ∀ l ∈ c, litHolds (nSet (projK (smallN M) k (smallN M).length)) (renl (numOf (smallN M)) l) = litHolds (nSet k) l := by
    intro c hc l hl
    have hg := good_vars hz2 hc l hl
    obtain ⟨g1, g2, g3, g4⟩ := hR.lit hg
    have ha := hR.abs hg
    have hlv := litVar_abs ((h3 c hc).2 l hl)
    obtain ⟨i, hi, e⟩ := mem_getD ((listS_mem _ _).2 hg)
    have hnum := numOf_get hNm hi
    rw [e] at hnum
    unfold litHolds
    rw [show litVar (renl (numOf (smallN M)) l) = (i : Int) + 1 from g1.trans hnum]
    have hi' : i < (smallN M).length := hi
    rw [sHas_nSet hp64 (by omega) (by omega), sHas_nSet hk64 hlv.2.1 (by omega), show ((i : Int) + 1).toNat - 1 = i by omega, projK_bit, decide_eq_true hi', Bool.true_and]
    unfold smallN
    rw [e, decide_eq_true (by omega : 0 < (i : Int) + 1), decide_eq_true (by omega : 0 < litVar l)]
    congr 2
    rw [decide_eq_decide]
    unfold smallN at *
    omega
  rw [Bool.eq_iff_iff, List.all_eq_true, List.all_eq_true]
  have key2 : ∀ c ∈ M, ((smallR (smallN M) c).any (litHolds (nSet (projK (smallN M) k (smallN M).length)))) = c.any (litHolds (nSet k)) := fun c hc => by
    rw [Bool.eq_iff_iff, List.any_eq_true, List.any_eq_true]
    constructor
    · rintro ⟨x, hx, h⟩
      obtain ⟨l, hl, rfl⟩ := List.mem_map.1 hx
      exact ⟨l, hl, by rw [← key c hc l hl]; exact h⟩
    · rintro ⟨l, hl, h⟩
      exact ⟨_, List.mem_map.2 ⟨l, hl, rfl⟩, by rw [key c hc l hl]; exact h⟩
  constructor
  · intro h c hc
    rw [← key2 c hc]
    exact h _ (List.mem_map.2 ⟨c, hc, rfl⟩)
  · intro h z hzz
    obtain ⟨c, hc, rfl⟩ := List.mem_map.1 hzz
    rw [key2 c hc]
    exact h c hc
end Go.Proofs.YtafikekndefjcaaDoor
