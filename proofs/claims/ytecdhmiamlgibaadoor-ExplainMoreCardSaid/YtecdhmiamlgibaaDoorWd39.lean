/- The table of a net, 64 results at once: each bit is one result (plain); no condition. -/
import Derived.Test.YtecdhmiamlgibaaDoorNt39
namespace Go.Proofs.YtecdhmiamlgibaaDoor
set_option linter.unusedVariables false
set_option linter.unusedSimpArgs false
set_option linter.unusedSectionVars false
open Go.RowKit
set_option maxRecDepth 100000
def maskW (p : Nat) : BitVec 64 := [0xAAAAAAAAAAAAAAAA#64, 0xCCCCCCCCCCCCCCCC#64, 0xF0F0F0F0F0F0F0F0#64, 0xFF00FF00FF00FF00#64, 0xFFFF0000FFFF0000#64, 0xFFFFFFFF00000000#64].getD p 0#64
def wordP (p frm : Nat) : BitVec 64 := if p < 6 then maskW p else if frm.testBit p then BitVec.allOnes 64 else 0#64
theorem mask_bit : ∀ p, p < 6 → ∀ k, k < 64 → (maskW p).getLsbD k = k.testBit p := by decide +kernel
theorem testBit_lo {frm k p : Nat} (hf : frm % 64 = 0) (hk : k < 64) : (frm + k).testBit p = if p < 6 then k.testBit p else frm.testBit p := by
  obtain ⟨q, rfl⟩ : ∃ q, frm = 2 ^ 6 * q := ⟨frm / 64, by omega⟩
  rw [Nat.testBit_two_pow_mul_add _ (by omega)]
  split
  · rfl
  · rw [Nat.testBit_two_pow_mul, decide_eq_true (by omega), Bool.true_and]
theorem wordP_bit {p frm k : Nat} (hf : frm % 64 = 0) (hk : k < 64) : (wordP p frm).getLsbD k = (frm + k).testBit p := by
  rw [testBit_lo hf hk]
  unfold wordP
  split
  · rename_i hp; exact mask_bit p hp k hk
  · split
    · rename_i h; rw [h, BitVec.getLsbD_allOnes, decide_eq_true hk]
    · rename_i h; rw [Bool.not_eq_true] at h; rw [h, BitVec.getLsbD_zero]
def posV : List Int → Int → Option Nat
  | [], _ => none
  | v :: r, u => if v = u then some 0 else (posV r u).map (· + 1)
def ofW (vs : List Int) (frm : Nat) (v : Int) : BitVec 64 := match posV vs v with
  | some p => wordP p frm
  | none => 0#64
def setX : List Int → Nat → BitVec 128
  | [], _ => 0#128
  | v :: r, x => if x % 2 = 1 then sBit v ||| setX r (x / 2) else setX r (x / 2)
def okVs (vs : List Int) : Prop := vs.Nodup ∧ ∀ v ∈ vs, 1 ≤ v ∧ v ≤ 128
theorem posV_none : ∀ {vs : List Int} {u : Int}, u ∉ vs → posV vs u = none
  | [], _, _ => rfl
  | v :: r, u, h => by
    simp only [List.mem_cons, not_or] at h
    unfold posV
    rw [if_neg (fun e => h.1 e.symm), posV_none h.2]; rfl
theorem setX_has : ∀ {vs : List Int}, okVs vs → ∀ (x : Nat) (u : Int), sHas (setX vs x) u = match posV vs u with
    | some p => x.testBit p
    | none => false
  | [], _, x, u => by simp [setX, posV, sHas]
  | v :: r, h, x, u => by
    have hr : okVs r := ⟨(List.nodup_cons.1 h.1).2, fun w hw => h.2 w (by simp [hw])⟩
    have hv := h.2 v (by simp)
    have ih := setX_has hr (x / 2) u
    unfold setX posV
    by_cases hvu : v = u
    · subst hvu
      rw [if_pos rfl]
      have hn : sHas (setX r (x / 2)) v = false := by rw [ih, posV_none (List.nodup_cons.1 h.1).1]
      split
      · rename_i h1
        rw [sHas_or, sHas_bit, hn]
        simp [Nat.testBit_zero, h1, hv]
      · rename_i h1
        rw [hn]
        simp [Nat.testBit_zero, h1]
    · rw [if_neg hvu]
      have e : (match (posV r u).map (· + 1) with | some p => x.testBit p | none => false) = (match posV r u with | some p => (x / 2).testBit p | none => false) := by
        cases posV r u with
        | none => rfl
        | some p => simp [Nat.testBit_succ]
      rw [e, ← ih]
      split
      · rw [sHas_or, sHas_bit, decide_eq_false (fun e => hvu e.1.symm), Bool.false_or]
      · rfl
def nodeI (of : Int → BitVec 64) (x : Nd) : BitVec 64 :=
  if x.1 = 1 ∨ x.1 = 3 then BitVec.allOnes 64 else if x.1 = 2 then (if x.2.1 < 0 then ~~~ of (-x.2.1) else of x.2.1) else 0#64
def nodeW (of : Int → BitVec 64) (x : Nd) (w : List (BitVec 64)) : BitVec 64 :=
  x.2.2.foldl (fun u k => if x.1 = 3 then u &&& w.getD k.toNat 0#64 else u ||| w.getD k.toNat 0#64) (nodeI of x)
def wordsL (of : Int → BitVec 64) (ns : List Nd) : List (BitVec 64) := scanN (nodeW of) ns
def wordR (vs : List Int) (ns : List Nd) (frm : Nat) : BitVec 64 := (wordsL (ofW vs frm) ns).getD (ns.length - 1) 0#64
theorem fold_and (w : List (BitVec 64)) (j : Nat) : ∀ (xs : List Int) (u : BitVec 64), (xs.foldl (fun u k => u &&& w.getD k.toNat 0#64) u).getLsbD j = (u.getLsbD j && xs.all fun k => (w.getD k.toNat 0#64).getLsbD j)
  | [], u => by simp
  | k :: r, u => by rw [List.foldl_cons, fold_and w j r, BitVec.getLsbD_and, List.all_cons, Bool.and_assoc]
theorem fold_or (w : List (BitVec 64)) (j : Nat) : ∀ (xs : List Int) (u : BitVec 64), (xs.foldl (fun u k => u ||| w.getD k.toNat 0#64) u).getLsbD j = (u.getLsbD j || xs.any fun k => (w.getD k.toNat 0#64).getLsbD j)
  | [], u => by simp
  | k :: r, u => by rw [List.foldl_cons, fold_or w j r, BitVec.getLsbD_or, List.any_cons, Bool.or_assoc]
theorem litOk_abs {l n : Int} (h : litOk l n = true) : litVar l = (if l < 0 then -l else l) ∧ litVar l ≠ 0 := by
  unfold litOk litVar at h
  unfold litVar
  rw [Bool.and_eq_true, decide_eq_true_eq, decide_eq_true_eq] at h
  split at h
  · rw [if_pos (by assumption), if_neg (by omega)]; omega
  · split at h
    · rw [if_neg (by assumption), if_pos (by assumption), if_pos (by omega)]; omega
    · omega
theorem word_bits {N : Int} {ns : List Nd} (h : validN N ns = true) {vs : List Int} (hvs : okVs vs) {frm j : Nat} (hf : frm % 64 = 0) (hj : j < 64) : ∀ i, i < ns.length → ((wordsL (ofW vs frm) ns).getD i 0#64).getLsbD j = (valsL (setX vs (frm + j)) ns).getD i false := by
  refine scanN_rel (nodeW (ofW vs frm)) (nodeV (setX vs (frm + j))) ns 0#64 false (fun _ u b => u.getLsbD j = b) fun i hi ih => ?_
  have hfm := valid_form h hi
  generalize ns.getD i nd0 = x at hfm ⊢
  generalize scanN (nodeW (ofW vs frm)) (ns.take i) = w at ih ⊢
  generalize scanN (nodeV (setX vs (frm + j))) (ns.take i) = is at ih ⊢
  have hin : ∀ k ∈ x.2.2, (w.getD k.toNat 0#64).getLsbD j = is.getD k.toNat false := fun k hk => ih k.toNat (by have := form_in hfm hk; omega)
  have hlit : litOk x.2.1 N = true → (if x.2.1 < 0 then ~~~ ofW vs frm (-x.2.1) else ofW vs frm x.2.1).getLsbD j = litV (setX vs (frm + j)) x.2.1 := fun hok => by
    obtain ⟨e1, e2⟩ := litOk_abs hok
    have hof : ∀ u, (ofW vs frm u).getLsbD j = sHas (setX vs (frm + j)) u := fun u => by
      rw [setX_has hvs]
      unfold ofW
      cases posV vs u with
      | none => exact BitVec.getLsbD_zero
      | some p => exact wordP_bit hf hj
    unfold litV
    rw [if_neg e2]
    by_cases hl : x.2.1 < 0
    · rw [if_pos hl] at e1 ⊢
      rw [BitVec.getLsbD_not, decide_eq_true hj, Bool.true_and, hof, e1, decide_eq_false (show ¬ 0 < x.2.1 by omega)]
      cases sHas (setX vs (frm + j)) (-x.2.1) <;> rfl
    · rw [if_neg hl] at e1 ⊢
      rw [hof, e1, decide_eq_true (show 0 < x.2.1 by omega)]
      cases sHas (setX vs (frm + j)) x.2.1 <;> rfl
  unfold formB at hfm
  rw [Bool.and_eq_true] at hfm
  obtain ⟨_, hk⟩ := hfm
  unfold nodeW nodeI nodeV
  by_cases k3 : x.1 = 3
  · simp only [k3, if_true, or_true, show ¬ (3 : Int) = 1 by decide, show ¬ (3 : Int) = 2 by decide, if_false]
    rw [fold_and, BitVec.getLsbD_allOnes, decide_eq_true hj, Bool.true_and]
    exact all_congr hin
  · simp only [k3, if_false, or_false]
    rw [fold_or]
    by_cases k0 : x.1 = 0 ∨ x.1 = 1
    · rw [if_pos k0, Bool.and_eq_true, decide_eq_true_eq, decide_eq_true_eq] at hk
      rw [List.length_eq_zero_iff.1 hk.2]
      rcases k0 with k0 | k0
      · simp [k0]
      · simp only [k0, if_true, List.any_nil, Bool.or_false]
        rw [BitVec.getLsbD_allOnes, decide_eq_true hj]
    · rw [if_neg k0] at hk
      by_cases k2 : x.1 = 2
      · rw [if_pos k2, Bool.and_eq_true, decide_eq_true_eq] at hk
        rw [List.length_eq_zero_iff.1 hk.2]
        simp only [k2, show ¬ (2 : Int) = 1 by decide, if_false, if_true, List.any_nil, Bool.or_false]
        exact hlit hk.1
      · rw [if_neg k2] at hk
        have k4 : x.1 = 4 := by
          split at hk
          · omega
          · cases hk
        simp only [k4, show ¬ (4 : Int) = 1 by decide, show ¬ (4 : Int) = 2 by decide, if_false, if_true, BitVec.getLsbD_zero, Bool.false_or]
        exact any_congr hin
theorem wordR_bit {N : Int} {ns : List Nd} (h : validN N ns = true) {vs : List Int} (hvs : okVs vs) {frm j : Nat} (hf : frm % 64 = 0) (hj : j < 64) : (wordR vs ns frm).getLsbD j = evalR ns (setX vs (frm + j)) :=
  word_bits h hvs hf hj _ (by have := valid_len h; omega)
end Go.Proofs.YtecdhmiamlgibaaDoor
