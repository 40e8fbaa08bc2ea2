/- Indices of assignments, and whether changes at some places change the result (plain); no condition. -/
import Derived.Test.YtecdhmiamlgibaaDoorWd39
namespace Go.Proofs.YtecdhmiamlgibaaDoor
set_option linter.unusedVariables false
set_option linter.unusedSimpArgs false
set_option linter.unusedSectionVars false
open Go.RowKit
set_option maxRecDepth 100000
def onL (vs : List Int) (ns : List Nd) : List Bool := (List.range (2 ^ vs.length)).map fun x => evalR ns (setX vs x)
def idxN : List Int → BitVec 128 → Nat
  | [], _ => 0
  | v :: r, a => (if sHas a v then 1 else 0) + 2 * idxN r a
theorem idxN_lt : ∀ (vs : List Int) (a : BitVec 128), idxN vs a < 2 ^ vs.length
  | [], _ => by simp [idxN]
  | v :: r, a => by
    have := idxN_lt r a
    unfold idxN
    rw [List.length_cons, Nat.pow_succ]
    split <;> omega
theorem idxN_bit : ∀ {vs : List Int} {a : BitVec 128} {v : Int} {p : Nat}, posV vs v = some p → (idxN vs a).testBit p = sHas a v
  | [], a, v, p, h => by cases h
  | u :: r, a, v, p, h => by
    unfold posV at h
    unfold idxN
    split at h
    · rename_i e
      cases h; subst e
      rw [Nat.testBit_zero]
      cases sHas a u <;> simp <;> omega
    · cases hp : posV r v with
      | none => rw [hp] at h; cases h
      | some q =>
        rw [hp] at h
        cases h
        rw [Nat.testBit_succ, ← idxN_bit hp]
        congr 1
        split <;> omega
theorem posV_some : ∀ {vs : List Int} {v : Int}, v ∈ vs → ∃ p, posV vs v = some p ∧ p < vs.length ∧ vs.getD p 0 = v
  | [], v, h => by cases h
  | u :: r, v, h => by
    unfold posV
    by_cases e : u = v
    · exact ⟨0, by rw [if_pos e], by simp, by simp [e]⟩
    · rw [if_neg e]
      obtain ⟨p, h1, h2, h3⟩ := posV_some (vs := r) (v := v) ((List.mem_cons.1 h).resolve_left fun h => e h.symm)
      exact ⟨p + 1, by rw [h1]; rfl, by simp; omega, by simpa using h3⟩
theorem posV_get : ∀ {vs : List Int}, vs.Nodup → ∀ {p : Nat}, p < vs.length → posV vs (vs.getD p 0) = some p
  | [], _, p, h => by cases h
  | u :: r, hn, 0, h => by unfold posV; rw [if_pos (by simp)]
  | u :: r, hn, p + 1, h => by
    have h2 : p < r.length := by simpa using h
    have e : (u :: r).getD (p + 1) 0 = r.getD p 0 := by simp
    unfold posV
    rw [e, if_neg, posV_get (List.nodup_cons.1 hn).2 h2]; rfl
    intro hu
    apply (List.nodup_cons.1 hn).1
    rw [hu]; simp [List.getD, h2]
theorem setX_idx {vs : List Int} (h : okVs vs) (a : BitVec 128) (u : Int) : sHas (setX vs (idxN vs a)) u = (decide (u ∈ vs) && sHas a u) := by
  rw [setX_has h]
  by_cases hu : u ∈ vs
  · obtain ⟨p, h1, _⟩ := posV_some hu
    rw [h1]
    show (idxN vs a).testBit p = _
    rw [idxN_bit h1, decide_eq_true hu, Bool.true_and]
  · rw [posV_none hu, decide_eq_false hu]; rfl
theorem eval_on {N : Int} {ns : List Nd} (h : validN N ns = true) {vs : List Int} (hvs : okVs vs) (hm : ∀ v, sHas (matS ns) v = true → v ∈ vs) (a : BitVec 128) : evalR ns a = evalR ns (setX vs (idxN vs a)) :=
  eval_dep h fun v hv => by rw [setX_idx hvs, decide_eq_true (hm v hv), Bool.true_and]
def upK (f : Nat → Bool) (at0 : Nat) : Nat → Nat → Bool
  | 0, x => f (at0 ^^^ x) != f at0
  | k + 1, x => upK f at0 k x || (x.testBit k && upK f at0 k (x ^^^ 2 ^ k))
theorem upK_iff (f : Nat → Bool) (at0 : Nat) : ∀ k x, upK f at0 k x = true ↔ ∃ d, (∀ p, d.testBit p = true → x.testBit p = true) ∧ (∀ p, k ≤ p → d.testBit p = x.testBit p) ∧ f (at0 ^^^ d) ≠ f at0
  | 0, x => by
    unfold upK
    rw [bne_iff_ne]
    constructor
    · intro h; exact ⟨x, fun _ h => h, fun _ _ => rfl, h⟩
    · rintro ⟨d, _, h2, h3⟩
      have : d = x := Nat.eq_of_testBit_eq fun p => h2 p (Nat.zero_le _)
      rwa [← this]
  | k + 1, x => by
    unfold upK
    rw [Bool.or_eq_true, Bool.and_eq_true, upK_iff f at0 k x, upK_iff f at0 k (x ^^^ 2 ^ k)]
    constructor
    · rintro (⟨d, h1, h2, h3⟩ | ⟨hk, d, h1, h2, h3⟩)
      · exact ⟨d, h1, fun p hp => h2 p (by omega), h3⟩
      · refine ⟨d, fun p hp => ?_, fun p hp => ?_, h3⟩
        · have := h1 p hp
          rw [Nat.testBit_xor, Nat.testBit_two_pow] at this
          by_cases e : k = p
          · rw [← e]; exact hk
          · rwa [decide_eq_false e, Bool.xor_false] at this
        · rw [h2 p (by omega), Nat.testBit_xor, Nat.testBit_two_pow, decide_eq_false (by omega), Bool.xor_false]
    · rintro ⟨d, h1, h2, h3⟩
      by_cases e : d.testBit k = x.testBit k
      · refine .inl ⟨d, h1, fun p hp => ?_, h3⟩
        by_cases e2 : p = k
        · rw [e2]; exact e
        · exact h2 p (by omega)
      · have hd : d.testBit k = false := by
          cases hh : d.testBit k with
          | false => rfl
          | true => exact absurd (hh.trans (h1 k hh).symm) e
        have hx : x.testBit k = true := by
          cases hh : x.testBit k with
          | true => rfl
          | false => exact absurd (hd.trans hh.symm) e
        refine .inr ⟨hx, d, fun p hp => ?_, fun p hp => ?_, h3⟩
        · rw [Nat.testBit_xor, Nat.testBit_two_pow]
          by_cases e2 : k = p
          · subst e2; rw [hd] at hp; cases hp
          · rw [decide_eq_false e2, Bool.xor_false]; exact h1 p hp
        · rw [Nat.testBit_xor, Nat.testBit_two_pow]
          by_cases e2 : k = p
          · subst e2; rw [hd, hx]; simp
          · rw [decide_eq_false e2, Bool.xor_false]; exact h2 p (by omega)
def chgB (f : Nat → Bool) (n at0 m : Nat) : Bool := upK f at0 n m
theorem chg_iff {f : Nat → Bool} {n at0 m : Nat} (hm : m < 2 ^ n) : chgB f n at0 m = true ↔ ∃ d, (∀ p, d.testBit p = true → m.testBit p = true) ∧ f (at0 ^^^ d) ≠ f at0 := by
  unfold chgB
  rw [upK_iff]
  constructor
  · rintro ⟨d, h1, _, h3⟩; exact ⟨d, h1, h3⟩
  · rintro ⟨d, h1, h3⟩
    refine ⟨d, h1, fun p hp => ?_, h3⟩
    have hx : m.testBit p = false := Nat.testBit_lt_two_pow (Nat.lt_of_lt_of_le hm (Nat.pow_le_pow_right (by omega) hp))
    cases hh : d.testBit p with
    | false => exact hx.symm
    | true => exact absurd (h1 p hh) (by simp [hx])
theorem chg_mono {f : Nat → Bool} {n at0 m m' : Nat} (hm : m < 2 ^ n) (hm' : m' < 2 ^ n) (h : ∀ p, m.testBit p = true → m'.testBit p = true) (hc : chgB f n at0 m = true) : chgB f n at0 m' = true := by
  rw [chg_iff hm] at hc
  rw [chg_iff hm']
  obtain ⟨d, h1, h2⟩ := hc
  exact ⟨d, fun p hp => h p (h1 p hp), h2⟩
theorem chg_zero (f : Nat → Bool) (n at0 : Nat) : chgB f n at0 0 = false := by
  cases h : chgB f n at0 0 with
  | false => rfl
  | true =>
    rw [chg_iff (Nat.two_pow_pos n)] at h
    obtain ⟨d, h1, h2⟩ := h
    have : d = 0 := Nat.eq_of_testBit_eq fun p => by
      cases hh : d.testBit p with
      | false => simp
      | true => have := h1 p hh; simp at this
    subst this
    simp at h2
end Go.Proofs.YtecdhmiamlgibaaDoor
