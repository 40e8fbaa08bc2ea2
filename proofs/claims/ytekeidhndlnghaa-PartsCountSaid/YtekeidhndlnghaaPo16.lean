/- Literals in order: what an ordered list with opposite neighbours says (from XPl0, XPl1); plain lemmas; no condition. -/
import Derived.Test.YtekeidhndlnghaaOld
import Derived.Lib.SlicesCompact
namespace Go.Proofs.Ytekeidhndlnghaa
set_option linter.unusedVariables false
set_option linter.unusedSimpArgs false
set_option linter.unusedSectionVars false
open Go.RowKit

theorem strict_unique {α : Type} {lt : α → α → Prop} (asymm : ∀ a b, lt a b → ¬ lt b a) : ∀ {xs ys : List α}, xs.Pairwise lt → ys.Pairwise lt → (∀ z, z ∈ xs ↔ z ∈ ys) → xs = ys
  | [], [], _, _, _ => rfl
  | [], y :: ys, _, _, h => by have := (h y).2 (by simp); cases this
  | x :: xs, [], _, _, h => by have := (h x).1 (by simp); cases this
  | x :: xs, y :: ys, hx, hy, h => by
    rw [List.pairwise_cons] at hx hy
    have irr : ∀ a, ¬ lt a a := fun a ha => asymm a a ha ha
    have hxy : x = y := by
      rcases List.mem_cons.1 ((h x).1 (by simp)) with e | e
      · exact e
      · rcases List.mem_cons.1 ((h y).2 (by simp)) with e2 | e2
        · exact e2.symm
        · exact absurd (hx.1 y e2) (asymm _ _ (hy.1 x e))
    subst hxy
    rw [strict_unique asymm hx.2 hy.2 fun z => ?_]
    constructor
    · intro hz
      rcases List.mem_cons.1 ((h z).1 (List.mem_cons_of_mem _ hz)) with e | e
      · subst e; exact absurd (hx.1 z hz) (irr z)
      · exact e
    · intro hz
      rcases List.mem_cons.1 ((h z).2 (List.mem_cons_of_mem _ hz)) with e | e
      · subst e; exact absurd (hy.1 z hz) (irr z)
      · exact e

def oncesK {α : Type} [DecidableEq α] (d : α) (zs : List α) (k : Nat) : List α := (List.range k).filterMap fun i => if i = 0 ∨ zs.getD (i - 1) d ≠ zs.getD i d then some (zs.getD i d) else none
theorem oncesK_succ {α : Type} [DecidableEq α] (d : α) (zs : List α) (k : Nat) : oncesK d zs (k + 1) = oncesK d zs k ++ if k = 0 ∨ zs.getD (k - 1) d ≠ zs.getD k d then [zs.getD k d] else [] := by
  unfold oncesK
  rw [List.range_succ, List.filterMap_append]
  congr 1
  by_cases h : k = 0 ∨ zs.getD (k - 1) d ≠ zs.getD k d
  · rw [List.filterMap_cons, if_pos h, if_pos h]; rfl
  · rw [List.filterMap_cons, if_neg h, if_neg h]; rfl
theorem oncesK_strict {α : Type} [DecidableEq α] (d : α) {lt le : α → α → Prop} (hle : ∀ a b, le a b → a = b ∨ lt a b) (hlt : ∀ a b c, lt a b → le b c → lt a c) {zs : List α} (hz : zs.Pairwise le) : ∀ k, k ≤ zs.length →
    (oncesK d zs k).Pairwise lt ∧ (∀ z, z ∈ oncesK d zs k ↔ z ∈ zs.take k) ∧ ∀ z ∈ oncesK d zs k, 0 < k → z = zs.getD (k - 1) d ∨ lt z (zs.getD (k - 1) d)
  | 0, _ => by simp [oncesK]
  | k + 1, hk => by
    obtain ⟨h1, h2, h3⟩ := oncesK_strict d hle hlt hz k (by omega)
    have hget : zs.getD k d = zs[k] := by simp [List.getD, show k < zs.length by omega]
    have hmem : ∀ z, z ∈ zs.take (k + 1) ↔ z ∈ zs.take k ∨ z = zs.getD k d := fun z => by
      rw [List.take_succ_eq_append_getElem (by omega), List.mem_append, hget]; simp
    rw [oncesK_succ]
    by_cases hd : k = 0 ∨ zs.getD (k - 1) d ≠ zs.getD k d
    · rw [if_pos hd]
      have hall : ∀ z ∈ oncesK d zs k, lt z (zs.getD k d) := fun z hz' => by
        rcases Nat.eq_zero_or_pos k with h0 | h0
        · subst h0; simp [oncesK] at hz'
        · have hne : zs.getD (k - 1) d ≠ zs.getD k d := hd.resolve_left (by omega)
          have hg1 : zs.getD (k - 1) d = zs[k - 1] := by simp [List.getD, show k - 1 < zs.length by omega]
          have hstep : lt (zs.getD (k - 1) d) (zs.getD k d) := by
            have := (List.pairwise_iff_getElem.1 hz) (k - 1) k (by omega) (by omega) (by omega)
            rw [hg1, hget] at hne ⊢
            exact (hle _ _ this).resolve_left hne
          rcases h3 z hz' h0 with e | e
          · rw [e]; exact hstep
          · refine hlt _ _ _ e ?_
            have := (List.pairwise_iff_getElem.1 hz) (k - 1) k (by omega) (by omega) (by omega)
            rw [hg1, hget]; exact this
      refine ⟨?_, fun z => ?_, fun z hz' _ => ?_⟩
      · rw [List.pairwise_append]
        refine ⟨h1, by simp, fun a ha b hb => ?_⟩
        rw [List.mem_singleton] at hb; subst hb; exact hall a ha
      · rw [List.mem_append, List.mem_singleton, hmem, h2]
      · rw [List.mem_append, List.mem_singleton] at hz'
        rcases hz' with hz' | hz'
        · exact .inr (hall z hz')
        · exact .inl hz'
    · rw [if_neg hd, List.append_nil]
      have h0 : 0 < k := by omega
      have he : zs.getD (k - 1) d = zs.getD k d := Decidable.not_not.1 fun h => hd (.inr h)
      refine ⟨h1, fun z => ?_, fun z hz' _ => ?_⟩
      · rw [hmem, h2]
        constructor
        · exact .inl
        · rintro (h | h)
          · exact h
          · rw [h, ← he]
            have hg1 : zs.getD (k - 1) d = zs[k - 1] := by simp [List.getD, show k - 1 < zs.length by omega]
            rw [hg1]
            exact List.mem_take_iff_getElem.2 ⟨k - 1, by omega, rfl⟩
      · have := h3 z hz' h0
        rw [he] at this; exact this
theorem compactUpTo_onces (zs : List Int) : ∀ k, k ≤ zs.length → Lib.compactUpTo zs.toArray k = oncesK 0 zs k
  | 0, _ => rfl
  | k + 1, hk => by
    rw [Lib.compactUpTo_succ, compactUpTo_onces zs k (by omega), oncesK_succ]
    congr 1
    have e1 : zs.toArray[k]! = zs.getD k 0 := by simp [List.getD, show k < zs.length by omega]
    have e2 : zs.toArray[k - 1]! = zs.getD (k - 1) 0 := by simp [List.getD, show k - 1 < zs.length by omega]
    unfold Lib.keeps
    rw [e1, e2]
    by_cases h : k = 0 ∨ zs.getD (k - 1) 0 ≠ zs.getD k 0
    · rw [if_pos h, if_pos]
      rcases h with h | h
      · simp [h]
      · simp only [decide_eq_true_eq]; exact .inr (Ne.symm h)
    · rw [if_neg h, if_neg]
      simp only [decide_eq_true_eq]
      rintro (h2 | h2)
      · exact h (.inl h2)
      · exact h (.inr (Ne.symm h2))
theorem compact_onces (zs : List Int) : Lib.compact zs = oncesK 0 zs zs.length := compactUpTo_onces zs _ (Nat.le_refl _)

def sortK (c : List Int) (k : Nat) : List Int := (List.range k).flatMap fun (i : Nat) => (if -((i : Int) + 1) ∈ c then [-((i : Int) + 1)] else []) ++ (if (i : Int) + 1 ∈ c then [(i : Int) + 1] else [])
def altK (c : List Int) (k : Nat) : Bool := (List.range k).any fun (i : Nat) => decide ((i : Int) + 1 ∈ c) && decide (-((i : Int) + 1) ∈ c)
theorem sortK_succ (c : List Int) (k : Nat) : sortK c (k + 1) = sortK c k ++ ((if -((k : Int) + 1) ∈ c then [-((k : Int) + 1)] else []) ++ (if (k : Int) + 1 ∈ c then [(k : Int) + 1] else [])) := by
  unfold sortK; rw [List.range_succ, List.flatMap_append]; simp
theorem altK_succ (c : List Int) (k : Nat) : altK c (k + 1) = (altK c k || (decide ((k : Int) + 1 ∈ c) && decide (-((k : Int) + 1) ∈ c))) := by
  unfold altK; rw [List.range_succ, List.any_append]; simp

/-! ### Literals in order -/
def litLt (x y : Int) : Prop := litVar x < litVar y ∨ (litVar x = litVar y ∧ x < y)
theorem litLt_asymm (a b : Int) (h : litLt a b) : ¬ litLt b a := by unfold litLt at *; omega
theorem litVar_abs {x n : Int} (h : litOk x n = true) : (litVar x = x ∨ litVar x = -x) ∧ 1 ≤ litVar x ∧ litVar x ≤ n ∧ (litVar x = x → 1 ≤ x) ∧ (litVar x = -x → x ≤ -1) := by
  have h2 := litOk_range h
  unfold litOk at h
  simp only [Bool.and_eq_true, decide_eq_true_eq] at h
  unfold litVar at *
  split
  · rw [if_pos (by assumption)] at h; omega
  · rename_i h3
    rw [if_neg h3] at h
    split
    · rw [if_pos (by assumption)] at h; omega
    · rw [if_neg (by assumption)] at h; omega
theorem litVar_small {k : Nat} (hk : k < 128) : litVar ((k : Int) + 1) = (k : Int) + 1 ∧ litVar (-((k : Int) + 1)) = (k : Int) + 1 :=
  ⟨litVar_pos (by omega) (by omega), by rw [litVar_neg (by omega) (by omega)]; omega⟩
theorem mem_sortK {c : List Int} {y : Int} : ∀ {k : Nat}, y ∈ sortK c k ↔ y ∈ c ∧ ((1 ≤ y ∧ y ≤ k) ∨ (y ≤ -1 ∧ -(k : Int) ≤ y))
  | 0 => by simp [sortK]; omega
  | k + 1 => by
    rw [sortK_succ, List.mem_append, List.mem_append, mem_sortK (k := k)]
    have e1 : (y ∈ (if -((k : Int) + 1) ∈ c then [-((k : Int) + 1)] else [])) ↔ (y ∈ c ∧ y = -((k : Int) + 1)) := by
      split
      · rename_i h; rw [List.mem_singleton]; constructor
        · rintro rfl; exact ⟨h, rfl⟩
        · exact fun h => h.2
      · rename_i h; constructor
        · intro h2; cases h2
        · rintro ⟨h1, rfl⟩; exact absurd h1 h
    have e2 : (y ∈ (if (k : Int) + 1 ∈ c then [(k : Int) + 1] else [])) ↔ (y ∈ c ∧ y = (k : Int) + 1) := by
      split
      · rename_i h; rw [List.mem_singleton]; constructor
        · rintro rfl; exact ⟨h, rfl⟩
        · exact fun h => h.2
      · rename_i h; constructor
        · intro h2; cases h2
        · rintro ⟨h1, rfl⟩; exact absurd h1 h
    rw [e1, e2]
    constructor
    · rintro (⟨h1, h2⟩ | ⟨h1, h2⟩ | ⟨h1, h2⟩)
      · exact ⟨h1, by omega⟩
      · exact ⟨h1, by omega⟩
      · exact ⟨h1, by omega⟩
    · rintro ⟨h1, h2⟩
      by_cases h3 : y = -((k : Int) + 1)
      · exact .inr (.inl ⟨h1, h3⟩)
      · by_cases h4 : y = (k : Int) + 1
        · exact .inr (.inr ⟨h1, h4⟩)
        · exact .inl ⟨h1, by omega⟩
theorem sortK_var {c : List Int} {k : Nat} (hk : k ≤ 128) {y : Int} (h : y ∈ sortK c k) : 1 ≤ litVar y ∧ litVar y ≤ k := by
  obtain ⟨_, h2⟩ := mem_sortK.1 h
  rcases h2 with h2 | h2
  · rw [litVar_pos (by omega) (by omega)]; omega
  · rw [litVar_neg (by omega) (by omega)]; omega
theorem sortK_strict (c : List Int) : ∀ k, k ≤ 128 → (sortK c k).Pairwise litLt
  | 0, _ => by simp [sortK]
  | k + 1, hk => by
    obtain ⟨v1, v2⟩ := litVar_small (k := k) (by omega)
    rw [sortK_succ, List.pairwise_append]
    refine ⟨sortK_strict c k (by omega), ?_, fun a ha b hb => ?_⟩
    · rw [List.pairwise_append]
      refine ⟨by split <;> simp, by split <;> simp, fun a ha b hb => ?_⟩
      split at ha
      · split at hb
        · rw [List.mem_singleton] at ha hb
          subst ha hb
          unfold litLt; omega
        · cases hb
      · cases ha
    · have h1 := sortK_var (by omega) ha
      have hb' : b = -((k : Int) + 1) ∨ b = (k : Int) + 1 := by
        rcases List.mem_append.1 hb with hb | hb
        · split at hb
          · exact .inl (by simpa using hb)
          · cases hb
        · split at hb
          · exact .inr (by simpa using hb)
          · cases hb
      unfold litLt
      rcases hb' with rfl | rfl <;> omega
theorem sortLits_pairwise (c : List Int) : (sortLits c).Pairwise fun a b => litLe a b = true := by
  unfold sortLits
  refine List.pairwise_mergeSort (fun a b c h1 h2 => ?_) (fun a b => ?_) c
  · simp only [litLe, Bool.not_eq_true', decide_eq_false_iff_not] at *
    rw [cmpLit_lt] at *
    omega
  · simp only [litLe, Bool.or_eq_true, Bool.not_eq_true', decide_eq_false_iff_not]
    rw [cmpLit_lt, cmpLit_lt]
    omega
theorem orderL_strict {c : List Int} (h : ∀ y ∈ c, 1 ≤ litVar y) : (orderL c).Pairwise litLt := by
  unfold orderL
  rw [compact_onces]
  have h1 := sortLits_pairwise c
  refine (oncesK_strict (lt := litLt) 0 (fun a b hab => ?_) (fun a b d h2 h3 => ?_) h1 _ (Nat.le_refl _)).1
  · simp only [litLe, Bool.not_eq_true', decide_eq_false_iff_not] at hab
    rw [cmpLit_lt] at hab
    unfold litLt
    omega
  · simp only [litLe, Bool.not_eq_true', decide_eq_false_iff_not] at h3
    rw [cmpLit_lt] at h3
    unfold litLt at *
    omega
theorem orderL_sortK {c : List Int} {N : Int} (hN : 0 ≤ N ∧ N ≤ 128) (h : ∀ y ∈ c, litOk y N = true) : orderL c = sortK c N.toNat := by
  refine strict_unique litLt_asymm (orderL_strict fun y hy => (litVar_abs (h y hy)).2.1) (sortK_strict c N.toNat (by omega)) fun z => ?_
  rw [mem_orderL, mem_sortK]
  constructor
  · intro hz
    have := litVar_abs (h z hz)
    exact ⟨hz, by omega⟩
  · exact fun h => h.1
theorem adjOpp_snoc (x : Int) : ∀ (l : List Int), adjOpp (l ++ [x]) = (adjOpp l || match l.getLast? with
    | some y => decide (x = -y)
    | none => false)
  | [] => by simp [adjOpp]
  | [y] => by simp [adjOpp]
  | y :: z :: r => by
    have ih := adjOpp_snoc x (z :: r)
    simp only [List.cons_append] at ih ⊢
    simp only [adjOpp, ih]
    rw [List.getLast?_cons_cons]
    cases decide (z = -y) <;> simp
theorem adjOpp_sortK (c : List Int) : ∀ k, k ≤ 128 → adjOpp (sortK c k) = altK c k
  | 0, _ => by simp [sortK, altK, adjOpp]
  | k + 1, hk => by
    have ih := adjOpp_sortK c k (by omega)
    have hlast : ∀ y, (sortK c k).getLast? = some y → 1 ≤ litVar y ∧ litVar y ≤ k := fun y hy => sortK_var (by omega) (List.mem_of_getLast? hy)
    obtain ⟨v1, v2⟩ := litVar_small (k := k) (by omega)
    have hneg : ∀ y, (sortK c k).getLast? = some y → -((k : Int) + 1) ≠ -y ∧ (k : Int) + 1 ≠ -y := fun y hy => by
      have := hlast y hy
      constructor
      · intro e
        have : y = (k : Int) + 1 := by omega
        subst this; omega
      · intro e
        have : y = -((k : Int) + 1) := by omega
        subst this; omega
    rw [sortK_succ, altK_succ, ← ih]
    by_cases h1 : -((k : Int) + 1) ∈ c
    · by_cases h2 : (k : Int) + 1 ∈ c
      · rw [if_pos h1, if_pos h2, ← List.append_assoc, adjOpp_snoc]
        simp [h1, h2]
      · rw [if_pos h1, if_neg h2, List.append_nil, adjOpp_snoc]
        cases hl : (sortK c k).getLast? with
        | none => simp [h2]
        | some y => simp [h2, (hneg y hl).1]
    · by_cases h2 : (k : Int) + 1 ∈ c
      · rw [if_neg h1, if_pos h2, List.nil_append, adjOpp_snoc]
        cases hl : (sortK c k).getLast? with
        | none => simp [h1]
        | some y => simp [h1, (hneg y hl).2]
      · rw [if_neg h1, if_neg h2]; simp [h1, h2]
theorem adjOpp_altK {c : List Int} {N : Int} (hN : 0 ≤ N ∧ N ≤ 128) (h : ∀ y ∈ c, litOk y N = true) : adjOpp (orderL c) = altK c N.toNat := by
  rw [orderL_sortK hN h, adjOpp_sortK c N.toNat (by omega)]


end Go.Proofs.Ytekeidhndlnghaa
