/- Plain laws of normal forms; no program. -/
import Derived.Test.YthdjgcjpolpgdaaLt
namespace Go.Proofs.Ythdjgcjpolpgdaa
set_option linter.unusedVariables false
set_option linter.unusedSimpArgs false
set_option linter.unusedSectionVars false
open Go.RowKit
set_option maxRecDepth 100000

theorem checkRows_of {N : Int} : ∀ {L : List (List Int)}, (∀ c ∈ L, c.length ≤ 128 ∧ ∀ l ∈ c, litOk l N = true) → checkRows N L = 0
  | [], _ => rfl
  | c :: r, h => by
    have h1 := h c (List.mem_cons_self ..)
    have : checkRow N c = 0 := by
      unfold checkRow
      rw [if_neg (by omega), if_pos (List.all_eq_true.2 h1.2)]
    rw [checkRows, if_pos this]
    exact checkRows_of fun d hd => h d (List.mem_cons_of_mem _ hd)
theorem checkT_of {N : Int} {L : List (List Int)} (h0 : 0 ≤ N) (h1 : N ≤ 128) (h2 : L.length ≤ 4096) (h3 : ∀ c ∈ L, c.length ≤ 128 ∧ ∀ l ∈ c, litOk l N = true) : checkT N L = 0 := by
  unfold checkT
  rw [if_neg (by omega), if_neg (by omega), checkRows_of h3]
theorem litOk_of {l N : Int} (h1 : N ≤ 128) (h : (1 ≤ l ∧ l ≤ N) ∨ (l ≤ -1 ∧ -N ≤ l)) : litOk l N = true := by
  unfold litOk litVar
  simp only [Bool.and_eq_true, decide_eq_true_eq]
  split
  · omega
  · split <;> omega
theorem okRows_check {N : Int} {L : List (List Int)} (h : checkT N L = 0) : okRows L = true := by
  obtain ⟨h0, h1, h2, h3⟩ := checkT_ok h
  simp only [okRows, Bool.and_eq_true, List.all_eq_true, decide_eq_true_eq]
  refine ⟨fun c hc => ?_, by omega⟩
  simp only [okInts, Bool.and_eq_true, List.all_eq_true, decide_eq_true_eq]
  have := h3 c hc
  refine ⟨fun l hl => ?_, by omega⟩
  have := litOk_range (this.2 l hl)
  exact okI_iff.2 ⟨by omega, by omega⟩

theorem altK_len {c : List Int} : ∀ {k : Nat}, altK c k = false → (sortK c k).length ≤ k
  | 0, _ => by simp [sortK]
  | k + 1, h => by
    rw [altK_succ, Bool.or_eq_false_iff] at h
    have ih := altK_len h.1
    rw [sortK_succ, List.length_append, List.length_append]
    by_cases h1 : ((k : Int) + 1) ∈ c
    · by_cases h2 : -((k : Int) + 1) ∈ c
      · rw [decide_eq_true h1, decide_eq_true h2] at h; cases h.2
      · rw [if_neg h2, if_pos h1]; simp; omega
    · rw [if_neg h1]
      by_cases h2 : -((k : Int) + 1) ∈ c
      · rw [if_pos h2]; simp; omega
      · rw [if_neg h2]; simp; omega
theorem normL_mem {N : Int} {L : List (List Int)} (hz : checkT N L = 0) (z : List Int) : z ∈ normL L ↔ ∃ c ∈ L, altK c N.toNat = false ∧ z = sortK c N.toNat := by
  obtain ⟨h0, h1, _, _⟩ := checkT_ok hz
  rw [normL_rNorm hz, (rNormK_strict N L (by omega) L.length (Nat.le_refl _)).2, List.take_length]
theorem normL_strict {N : Int} {L : List (List Int)} (hz : checkT N L = 0) : (normL L).Pairwise clLt := by
  obtain ⟨h0, h1, _, _⟩ := checkT_ok hz
  rw [normL_rNorm hz]
  exact (rNormK_strict N L (by omega) L.length (Nat.le_refl _)).1
theorem normL_len (L : List (List Int)) : (normL L).length ≤ L.length := by
  have h1 := openL_len L
  have h2 := (sortRows_perm (openL L)).length_eq
  have h3 : (distL (sortRows (openL L))).length ≤ (sortRows (openL L)).length := by
    unfold distL distK
    exact Nat.le_trans (List.length_filterMap_le _ _) (by simp)
  unfold normL
  omega
theorem normL_check {N : Int} {L : List (List Int)} (hz : checkT N L = 0) : checkT N (normL L) = 0 := by
  obtain ⟨h0, h1, h2, h3⟩ := checkT_ok hz
  have := normL_len L
  refine checkT_of h0 h1 (by omega) fun z hzz => ?_
  obtain ⟨c, hc, h4, rfl⟩ := (normL_mem hz z).1 hzz
  have := altK_len h4
  refine ⟨by omega, fun l hl => ?_⟩
  have := (mem_sortK.1 hl).2
  exact litOk_of h1 (by omega)
theorem mem_sortK_ok {N : Int} {c : List Int} (h0 : 0 ≤ N) (h : ∀ l ∈ c, litOk l N = true) (y : Int) : y ∈ sortK c N.toNat ↔ y ∈ c := by
  rw [mem_sortK]
  refine ⟨fun k => k.1, fun k => ⟨k, ?_⟩⟩
  have := litOk_range (h y k)
  omega
theorem sortK_idem {N : Int} {c : List Int} (h0 : 0 ≤ N) (h1 : N ≤ 128) (h : ∀ l ∈ c, litOk l N = true) : sortK (sortK c N.toNat) N.toNat = sortK c N.toNat := by
  refine strict_unique litLt_asymm (sortK_strict _ _ (by omega)) (sortK_strict _ _ (by omega)) fun z => ?_
  have hm := mem_sortK_ok h0 h
  rw [mem_sortK_ok h0 (fun l hl => h l ((hm l).1 hl)), hm]
theorem altK_congr {c d : List Int} (h : ∀ y, y ∈ c ↔ y ∈ d) (k : Nat) : altK c k = altK d k := by
  unfold altK
  congr 1
  funext i
  simp only [h]
theorem normL_idem {N : Int} {L : List (List Int)} (hz : checkT N L = 0) : normL (normL L) = normL L := by
  obtain ⟨h0, h1, h2, h3⟩ := checkT_ok hz
  have hz2 := normL_check hz
  refine strict_unique clLt_asymm (normL_strict hz2) (normL_strict hz) fun z => ?_
  rw [normL_mem hz2]
  constructor
  · rintro ⟨d, hd, h4, rfl⟩
    have hd2 := hd
    obtain ⟨c, hc, h5, rfl⟩ := (normL_mem hz d).1 hd
    rw [sortK_idem h0 h1 (h3 c hc).2]
    exact hd2
  · intro hzz
    obtain ⟨c, hc, h5, rfl⟩ := (normL_mem hz z).1 hzz
    exact ⟨_, hzz, by rw [altK_congr (mem_sortK_ok h0 (h3 c hc).2)]; exact h5, (sortK_idem h0 h1 (h3 c hc).2).symm⟩
theorem litHolds_neg {s : BitVec 128} {v : Int} (h1 : 1 ≤ v) (h2 : v ≤ 128) : (litHolds s v || litHolds s (-v)) = true := by
  unfold litHolds
  rw [litVar_pos h1 h2, litVar_neg (by omega) (by omega), Int.neg_neg, decide_eq_true (by omega : 0 < v), decide_eq_false (by omega : ¬ 0 < -v)]
  cases sHas s v <;> rfl
theorem any_congr_mem {c d : List Int} {p : Int → Bool} (h : ∀ y, y ∈ c ↔ y ∈ d) : c.any p = d.any p := by
  rw [Bool.eq_iff_iff, List.any_eq_true, List.any_eq_true]
  constructor
  · rintro ⟨x, hx, hp⟩; exact ⟨x, (h x).1 hx, hp⟩
  · rintro ⟨x, hx, hp⟩; exact ⟨x, (h x).2 hx, hp⟩
theorem normL_eval {N : Int} {L : List (List Int)} (hz : checkT N L = 0) (s : BitVec 128) : evalT N (normL L) s = evalT N L s := by
  obtain ⟨h0, h1, h2, h3⟩ := checkT_ok hz
  unfold evalT
  rw [normL_check hz, hz]
  congr 1
  rw [Bool.eq_iff_iff, List.all_eq_true, List.all_eq_true]
  constructor
  · intro h c hc
    have hok := (h3 c hc).2
    cases ha : altK c N.toNat
    · have := h _ ((normL_mem hz _).2 ⟨c, hc, ha, rfl⟩)
      rw [any_congr_mem (mem_sortK_ok h0 hok)] at this
      exact this
    · unfold altK at ha
      obtain ⟨i, hi, hi2⟩ := List.any_eq_true.1 ha
      simp only [List.mem_range] at hi
      simp only [Bool.and_eq_true, decide_eq_true_eq] at hi2
      have := litHolds_neg (s := s) (v := (i : Int) + 1) (by omega) (by omega)
      rw [Bool.or_eq_true] at this
      rw [List.any_eq_true]
      rcases this with h | h
      · exact ⟨_, hi2.1, h⟩
      · exact ⟨_, hi2.2, h⟩
  · intro h z hzz
    obtain ⟨c, hc, h5, rfl⟩ := (normL_mem hz z).1 hzz
    rw [any_congr_mem (mem_sortK_ok h0 (h3 c hc).2)]
    exact h c hc

end Go.Proofs.Ythdjgcjpolpgdaa
