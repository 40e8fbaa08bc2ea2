/- What reasons, necessary literals and bias have to do with each other (plain); no condition. -/
import Derived.Test.YtecdhmiamlgibaaDoorPs39
namespace Go.Proofs.YtecdhmiamlgibaaDoor
set_option linter.unusedVariables false
set_option linter.unusedSimpArgs false
set_option linter.unusedSectionVars false
open Go.RowKit
set_option maxRecDepth 100000
theorem ofL_hasG (u : Int) : ∀ (xs : List Int) (s : BitVec 128), sHas (xs.foldl sWith s) u = (sHas s u || decide (u ∈ xs ∧ 1 ≤ u ∧ u ≤ 128))
  | [], s => by simp
  | x :: r, s => by
    rw [List.foldl_cons, ofL_hasG u r, sHas_with, Bool.or_assoc]
    congr 1
    rw [Bool.eq_iff_iff]
    simp only [Bool.or_eq_true, decide_eq_true_eq, List.mem_cons]
    constructor
    · rintro (⟨rfl, h⟩ | ⟨h1, h2⟩)
      · exact ⟨.inl rfl, h⟩
      · exact ⟨.inr h1, h2⟩
    · rintro ⟨rfl | h1, h2⟩
      · exact .inl ⟨rfl, h2⟩
      · exact .inr ⟨h1, h2⟩
theorem ofL_has (xs : List Int) (u : Int) : sHas (ofL xs) u = decide (u ∈ xs ∧ 1 ≤ u ∧ u ≤ 128) := by
  unfold ofL; rw [ofL_hasG, sHas_zero, Bool.false_or]
theorem idx_bit {vs : List Int} (h : okVs vs) (a : BitVec 128) {i : Nat} (hi : i < vs.length) : (idxN vs a).testBit i = sHas a (vs.getD i 0) := idxN_bit (posV_get h.1 hi)
theorem abs_mem {vs : List Int} (h : okVs vs) {x P : Nat} {u : Int} : u ∈ absL (termL vs x P) ↔ ∃ i, i < vs.length ∧ P.testBit i = true ∧ u = vs.getD i 0 := by
  unfold absL
  rw [List.mem_map]
  constructor
  · rintro ⟨l, hl, rfl⟩
    obtain ⟨i, h1, h2, rfl⟩ := term_mem.1 hl
    exact ⟨i, h1, h2, sgn_abs h h1⟩
  · rintro ⟨i, h1, h2, rfl⟩
    exact ⟨sgn vs x i, term_mem.2 ⟨i, h1, h2, rfl⟩, sgn_abs h h1⟩
theorem term_has {vs : List Int} (h : okVs vs) {x P : Nat} {u : Int} : sHas (ofL (absL (termL vs x P))) u = true ↔ ∃ i, i < vs.length ∧ P.testBit i = true ∧ u = vs.getD i 0 := by
  rw [ofL_has, decide_eq_true_eq, abs_mem h]
  constructor
  · exact fun h => h.1
  · rintro ⟨i, h1, h2, rfl⟩
    exact ⟨⟨i, h1, h2, rfl⟩, h.2 _ (gmemI h1)⟩
def freeB (p : BitVec 128) (r : List Int) : Bool := decide (ofL (absL r) &&& p = 0#128)
theorem free_term {vs : List Int} (h : okVs vs) {x P : Nat} (hP : P < 2 ^ vs.length) (p : BitVec 128) : freeB p (termL vs x P) = true ↔ ∀ i, P.testBit i = true → (idxN vs p).testBit i = false := by
  unfold freeB
  rw [decide_eq_true_eq]
  constructor
  · intro he i hi
    have hin := bit_hi hP hi
    rw [idx_bit h p hin]
    cases hh : sHas p (vs.getD i 0) with
    | false => rfl
    | true =>
      have h2 : sHas (ofL (absL (termL vs x P)) &&& p) (vs.getD i 0) = true := by
        rw [sHas_and, hh, (term_has h).2 ⟨i, hin, hi, rfl⟩]; rfl
      rw [he, sHas_zero] at h2; cases h2
  · intro hi
    refine sets_ext fun u _ _ => ?_
    rw [sHas_and, sHas_zero]
    cases h1 : sHas (ofL (absL (termL vs x P))) u with
    | false => rfl
    | true =>
      obtain ⟨i, h2, h3, rfl⟩ := (term_has h).1 h1
      have := hi i h3
      rw [idx_bit h p h2] at this
      rw [this]; rfl
def reaX (ns : List Nd) (a : BitVec 128) : List (List Int) := sortX (reaL (tabF ns) (matL ns) (idxN (matL ns) a) (2 ^ (matL ns).length))
theorem reaX_mem {ns : List Nd} {a : BitVec 128} {r : List Int} : r ∈ reaX ns a ↔ ∃ P, P < 2 ^ (matL ns).length ∧ leastB (tabF ns) (matL ns).length (idxN (matL ns) a) P = true ∧ r = termL (matL ns) (idxN (matL ns) a) P := by
  unfold reaX
  rw [(sortX_perm _).mem_iff, reaL_mem]
theorem reaX_rows {ns : List Nd} (a : BitVec 128) (h16 : (matL ns).length ≤ 16) : okRows (reaX ns a) = true := by
  obtain ⟨hvs, _⟩ := okV_vs (matL_ok h16)
  have h := reaL_rows hvs h16 (tabF ns) (idxN (matL ns) a) (2 ^ (matL ns).length) (Nat.pow_le_pow_right (n := 2) (by omega) h16)
  rw [okRows, Bool.and_eq_true, List.all_eq_true, decide_eq_true_eq] at h ⊢
  exact ⟨fun c hc => h.1 c ((sortX_perm _).mem_iff.1 hc), by rw [show (reaX ns a).length = _ from (sortX_perm _).length_eq]; exact h.2⟩
theorem reaX_lits {ns : List Nd} (a : BitVec 128) (h16 : (matL ns).length ≤ 16) : ∀ c ∈ reaX ns a, LitsX c := fun c hc => by
  obtain ⟨hvs, _⟩ := okV_vs (matL_ok h16)
  obtain ⟨P, _, _, rfl⟩ := reaX_mem.1 hc
  exact term_lits hvs _ P
theorem reaX_free {ns : List Nd} (a p : BitVec 128) (h16 : (matL ns).length ≤ 16) : (reaX ns a).any (freeB p) = !biasB ns a p := by
  obtain ⟨hvs, _⟩ := okV_vs (matL_ok h16)
  have h := free_iff (f := tabF ns) (at0 := idxN (matL ns) a) (idxN_lt (matL ns) p)
  have e : (reaX ns a).any (freeB p) = true ↔ biasB ns a p = false := by
    unfold biasB
    rw [List.any_eq_true, ← h]
    constructor
    · rintro ⟨r, hr, hf⟩
      obtain ⟨P, h1, h2, rfl⟩ := reaX_mem.1 hr
      exact ⟨P, h1, h2, (free_term hvs h1 p).1 hf⟩
    · rintro ⟨P, h1, h2, h3⟩
      exact ⟨_, reaX_mem.2 ⟨P, h1, h2, rfl⟩, (free_term hvs h1 p).2 h3⟩
  cases hb : biasB ns a p with
  | false => rw [e.2 hb]; rfl
  | true =>
    cases hx : (reaX ns a).any (freeB p) with
    | false => rfl
    | true => rw [e.1 hx] at hb; cases hb
theorem reaA_bad {N : Int} {ns : List Nd} {a : BitVec 128} (h : (validN N ns && subB a N) = false) : reaA N ns a = .tup [.v (.slice none 0 0), .v (.int .i64 1)] := by unfold reaA; rw [if_pos h]
theorem reaA_long {N : Int} {ns : List Nd} {a : BitVec 128} (h : (validN N ns && subB a N) = true) (h16 : 16 < (matL ns).length) : reaA N ns a = .tup [.v (.slice none 0 0), .v (.int .i64 2)] := by unfold reaA; rw [if_neg (by rw [h]; decide), if_pos h16]
theorem reaA_ok {N : Int} {ns : List Nd} {a : BitVec 128} (h : (validN N ns && subB a N) = true) (h16 : (matL ns).length ≤ 16) : reaA N ns a = .tup [aRows (reaX ns a), .v (.int .i64 0)] := by unfold reaA reaX; rw [if_neg (by rw [h]; decide), if_neg (by omega)]
theorem biasR_bad {N : Int} {ns : List Nd} {a : BitVec 128} (p : BitVec 128) (h : (validN N ns && subB a N) = false) : biasR N ns a p = .tup [.v (.bool false), .v (.int .i64 1)] := by unfold biasR; rw [if_pos h]
theorem biasR_long {N : Int} {ns : List Nd} {a : BitVec 128} (p : BitVec 128) (h : (validN N ns && subB a N) = true) (h16 : 16 < (matL ns).length) : biasR N ns a p = .tup [.v (.bool false), .v (.int .i64 2)] := by unfold biasR; rw [if_neg (by rw [h]; decide), if_pos h16]
theorem biasR_ok {N : Int} {ns : List Nd} {a : BitVec 128} (p : BitVec 128) (h : (validN N ns && subB a N) = true) (h16 : (matL ns).length ≤ 16) : biasR N ns a p = .tup [.v (.bool (biasB ns a p)), .v (.int .i64 0)] := by unfold biasR; rw [if_neg (by rw [h]; decide), if_neg (by omega)]
end Go.Proofs.YtecdhmiamlgibaaDoor
