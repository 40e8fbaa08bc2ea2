/- Sets of variables as 128 bits: plain lemmas; no condition. -/
import Derived.Test.YtkollnaojpppcaaRep
namespace Go.Proofs.Ytkollnaojpppcaa
open Go.RowKit

/-- The two words of a set. -/
def lo (s : BitVec 128) : BitVec 64 := s.extractLsb' 0 64
def hi (s : BitVec 128) : BitVec 64 := s.extractLsb' 64 64
/-- A word as a value. -/
abbrev WV (x : BitVec 64) : Value := .int .u64 (x.toNat : Int)
/-- A set as a value. -/
abbrev SV (s : BitVec 128) : Value := .agg #[WV (lo s), WV (hi s)]
/-- The variable v is in s. -/
def sHas (s : BitVec 128) (v : Int) : Bool := decide (1 ≤ v) && decide (v ≤ 128) && s.getLsbD (v - 1).toNat
def sBit (v : Int) : BitVec 128 := if 1 ≤ v ∧ v ≤ 128 then BitVec.twoPow 128 (v - 1).toNat else 0#128
def sWith (s : BitVec 128) (v : Int) : BitVec 128 := s ||| sBit v
def sWithout (s : BitVec 128) (v : Int) : BitVec 128 := s &&& ~~~ sBit v
def sAll (n : Int) : BitVec 128 := BitVec.ofNat 128 (2 ^ (min n 128).toNat - 1)

theorem lo_bit (s : BitVec 128) (k : Nat) : (lo s).getLsbD k = (decide (k < 64) && s.getLsbD k) := by simp [lo]
theorem hi_bit (s : BitVec 128) (k : Nat) : (hi s).getLsbD k = (decide (k < 64) && s.getLsbD (64 + k)) := by simp [hi]

theorem words_ext {s t : BitVec 128} (h1 : lo s = lo t) (h2 : hi s = hi t) : s = t := by
  apply BitVec.eq_of_getLsbD_eq
  intro k hk
  by_cases h : k < 64
  · have := congrArg (fun x => x.getLsbD k) h1
    simp only [lo_bit] at this
    simpa only [h, decide_true, Bool.true_and] using this
  · have := congrArg (fun x => x.getLsbD (k - 64)) h2
    simp only [hi_bit] at this
    simpa only [show k - 64 < 64 by omega, show 64 + (k - 64) = k by omega, decide_true, Bool.true_and] using this

theorem WV_inj {x y : BitVec 64} (h : WV x = WV y) : x = y := by
  simp only [WV, Value.int.injEq, true_and] at h
  exact BitVec.eq_of_toNat_eq (by omega)

theorem SV_inj {s t : BitVec 128} (h : SV s = SV t) : s = t := by
  simp only [SV, Value.agg.injEq, Array.mk.injEq, List.cons.injEq, and_true] at h
  exact words_ext (WV_inj h.1) (WV_inj h.2)

theorem sHas_mem {s : BitVec 128} {v : Int} (h : sHas s v = true) : 1 ≤ v ∧ v ≤ 128 := by
  simp [sHas] at h; omega

theorem sets_ext {s t : BitVec 128} (h : ∀ v : Int, 1 ≤ v → v ≤ 128 → sHas s v = sHas t v) : s = t := by
  apply BitVec.eq_of_getLsbD_eq
  intro k hk
  have := h (k + 1) (by omega) (by omega)
  simpa [sHas, show ((k : Int) + 1 ≤ 128) by omega, show (1 : Int) ≤ (k : Int) + 1 by omega] using this

theorem sHas_bit (v u : Int) : sHas (sBit v) u = decide (u = v ∧ 1 ≤ v ∧ v ≤ 128) := by
  unfold sHas sBit
  by_cases h : 1 ≤ v ∧ v ≤ 128
  · rw [if_pos h]
    by_cases h1 : 1 ≤ u
    · by_cases h2 : u ≤ 128
      · by_cases h3 : u = v
        · subst h3; simp [h1, h2]; omega
        · simp [h1, h2, h3]; omega
      · simp [h2]; omega
    · simp [h1]; omega
  · rw [if_neg h]; simp; omega

theorem sHas_or (s t : BitVec 128) (v : Int) : sHas (s ||| t) v = (sHas s v || sHas t v) := by
  simp only [sHas, BitVec.getLsbD_or]
  cases decide (1 ≤ v) <;> cases decide (v ≤ 128) <;> simp
theorem sHas_and (s t : BitVec 128) (v : Int) : sHas (s &&& t) v = (sHas s v && sHas t v) := by
  simp only [sHas, BitVec.getLsbD_and]
  cases decide (1 ≤ v) <;> cases decide (v ≤ 128) <;> simp
theorem sHas_not (s : BitVec 128) (v : Int) (h1 : 1 ≤ v) (h2 : v ≤ 128) : sHas (~~~ s) v = !(sHas s v) := by
  simp [sHas, h1, h2]; omega
theorem sHas_zero (v : Int) : sHas 0#128 v = false := by simp [sHas]
theorem sHas_with (s : BitVec 128) (v u : Int) : sHas (sWith s v) u = (sHas s u || decide (u = v ∧ 1 ≤ v ∧ v ≤ 128)) := by
  rw [sWith, sHas_or, sHas_bit]
theorem sHas_without (s : BitVec 128) (v u : Int) : sHas (sWithout s v) u = (sHas s u && !decide (u = v)) := by
  rw [sWithout, sHas_and]
  by_cases h : 1 ≤ u ∧ u ≤ 128
  · rw [sHas_not _ _ h.1 h.2, sHas_bit]
    by_cases e : u = v
    · subst e; simp [h]
    · simp [e]
  · have : sHas s u = false := by
      cases hh : sHas s u
      · rfl
      · exact absurd (sHas_mem hh) h
    simp [this]
theorem sHas_all (n u : Int) : sHas (sAll n) u = decide (1 ≤ u ∧ u ≤ n ∧ u ≤ 128) := by
  unfold sHas sAll
  by_cases h1 : 1 ≤ u
  · by_cases h2 : u ≤ 128
    · simp only [h1, h2, decide_true, Bool.true_and, BitVec.getLsbD_ofNat, Nat.testBit_two_pow_sub_one, true_and, and_true]
      rw [Bool.eq_iff_iff]
      by_cases h3 : n ≤ 128
      · rw [Int.min_eq_left h3]; simp only [Bool.and_eq_true, decide_eq_true_eq]; omega
      · rw [Int.min_eq_right (by omega)]; simp only [Bool.and_eq_true, decide_eq_true_eq]; omega
    · simp [h2]
  · simp [h1]

/-! ### The bits as the machine computes them -/
theorem bvInt (x : BitVec 64) : BitVec.ofInt IntKind.u64.bits (x.toNat : Int) = x := by
  show BitVec.ofInt 64 (x.toNat : Int) = x
  rw [BitVec.ofInt_natCast]; simp
theorem wrap_nat (x : BitVec 64) : IntKind.u64.wrap (x.toNat : Int) = (x.toNat : Int) := by
  rw [IntKind.wrap_u64]
  have := x.isLt
  omega
theorem back_of {op : BinOp} {x y z : BitVec 64} (h : bits op .u64 (x.toNat : Int) (y.toNat : Int) = IntKind.u64.wrap (z.toNat : Int)) : bits op .u64 (x.toNat : Int) (y.toNat : Int) = (z.toNat : Int) := h.trans (wrap_nat z)
theorem bits_or (x y : BitVec 64) : bits .or .u64 (x.toNat : Int) (y.toNat : Int) = ((x ||| y).toNat : Int) := by
  rw [u64_or_nat _ _ x.isLt y.isLt]; simp
theorem bits_and (x y : BitVec 64) : bits .and .u64 (x.toNat : Int) (y.toNat : Int) = ((x &&& y).toNat : Int) := by
  rw [u64_and_nat _ _ x.isLt y.isLt]; simp
theorem bits_andNot (x y : BitVec 64) : bits .andNot .u64 (x.toNat : Int) (y.toNat : Int) = ((x &&& ~~~ y).toNat : Int) := by
  rw [u64_andNot_nat _ _ x.isLt y.isLt]; simp

theorem shift_one (k : Nat) (h : k < 64) : IntKind.u64.wrap (2 ^ k) = ((BitVec.twoPow 64 k).toNat : Int) := by
  have h1 : (2 : Int) ^ k = ((2 ^ k : Nat) : Int) := by norm_cast
  rw [IntKind.wrap_u64, BitVec.toNat_twoPow, h1, show (2 : Nat) ^ 64 = 18446744073709551616 from by decide]
  omega

theorem word_odd (x : BitVec 64) (k : Nat) : (((x.toNat : Int) / 2 ^ k).tmod 2 == 1) = x.getLsbD k := by
  have e : ((x.toNat : Int) / 2 ^ k) = ((x.toNat / 2 ^ k : Nat) : Int) := by norm_cast
  rw [e]
  generalize hq : x.toNat / 2 ^ k = q
  rw [Int.tmod_eq_emod_of_nonneg (by omega)]
  rw [BitVec.getLsbD, Nat.testBit_eq_decide_div_mod_eq, hq, Bool.eq_iff_iff]
  simp only [beq_iff_eq, decide_eq_true_eq]; omega

theorem and_twoPow (x : BitVec 64) (k : Nat) (h : k < 64) : (((x &&& BitVec.twoPow 64 k).toNat : Int) == 0) = !(x.getLsbD k) := by
  rw [BitVec.and_twoPow]
  by_cases e : x.getLsbD k = true
  · rw [if_pos e, e]
    have h1 : (BitVec.twoPow 64 k).toNat ≠ 0 := by
      rw [BitVec.toNat_twoPow, Nat.mod_eq_of_lt (Nat.pow_lt_pow_right (by omega) h)]
      exact Nat.ne_of_gt (Nat.two_pow_pos k)
    simp only [Bool.not_true, beq_eq_false_iff_ne, ne_eq]; omega
  · rw [if_neg e]; simp only [Bool.not_eq_true] at e; rw [e]; rfl

theorem lo_with (s : BitVec 128) (v : Int) (h1 : 1 ≤ v) (h2 : v ≤ 64) : lo (sWith s v) = lo s ||| BitVec.twoPow 64 (v - 1).toNat ∧ hi (sWith s v) = hi s := by
  unfold sWith sBit
  rw [if_pos ⟨by omega, by omega⟩]
  constructor
  · apply BitVec.eq_of_getLsbD_eq; intro k hk
    simp only [lo_bit, BitVec.getLsbD_or, BitVec.getLsbD_twoPow, hk, decide_true, Bool.true_and]
    have e : (decide ((v - 1).toNat < 128) && decide ((v - 1).toNat = k)) = (decide ((v - 1).toNat < 64) && decide ((v - 1).toNat = k)) := by
      rw [Bool.eq_iff_iff]; simp only [Bool.and_eq_true, decide_eq_true_eq, Bool.false_eq_true, iff_false]; omega
    rw [e]
  · apply BitVec.eq_of_getLsbD_eq; intro k hk
    simp only [hi_bit, BitVec.getLsbD_or, BitVec.getLsbD_twoPow, hk, decide_true, Bool.true_and]
    have e : (decide ((v - 1).toNat < 128) && decide ((v - 1).toNat = 64 + k)) = false := by
      rw [Bool.eq_iff_iff]; simp only [Bool.and_eq_true, decide_eq_true_eq, Bool.false_eq_true, iff_false]; omega
    rw [e]; simp; try omega
theorem hi_with (s : BitVec 128) (v : Int) (h1 : 65 ≤ v) (h2 : v ≤ 128) : lo (sWith s v) = lo s ∧ hi (sWith s v) = hi s ||| BitVec.twoPow 64 (v - 65).toNat := by
  unfold sWith sBit
  rw [if_pos ⟨by omega, by omega⟩]
  constructor
  · apply BitVec.eq_of_getLsbD_eq; intro k hk
    simp only [lo_bit, BitVec.getLsbD_or, BitVec.getLsbD_twoPow, hk, decide_true, Bool.true_and]
    have e : (decide ((v - 1).toNat < 128) && decide ((v - 1).toNat = k)) = false := by
      rw [Bool.eq_iff_iff]; simp only [Bool.and_eq_true, decide_eq_true_eq, Bool.false_eq_true, iff_false]; omega
    rw [e]; simp; try omega
  · apply BitVec.eq_of_getLsbD_eq; intro k hk
    simp only [hi_bit, BitVec.getLsbD_or, BitVec.getLsbD_twoPow, hk, decide_true, Bool.true_and]
    have e : (decide ((v - 1).toNat < 128) && decide ((v - 1).toNat = 64 + k)) = (decide ((v - 65).toNat < 64) && decide ((v - 65).toNat = k)) := by
      rw [Bool.eq_iff_iff]; simp only [Bool.and_eq_true, decide_eq_true_eq, Bool.false_eq_true, iff_false]; omega
    rw [e]
theorem lo_without (s : BitVec 128) (v : Int) (h1 : 1 ≤ v) (h2 : v ≤ 64) : lo (sWithout s v) = lo s &&& ~~~ BitVec.twoPow 64 (v - 1).toNat ∧ hi (sWithout s v) = hi s := by
  unfold sWithout sBit
  rw [if_pos ⟨by omega, by omega⟩]
  constructor
  · apply BitVec.eq_of_getLsbD_eq; intro k hk
    simp only [lo_bit, BitVec.getLsbD_and, BitVec.getLsbD_not, BitVec.getLsbD_twoPow, hk, decide_true, Bool.true_and]
    have e : (decide ((v - 1).toNat < 128) && decide ((v - 1).toNat = k)) = (decide ((v - 1).toNat < 64) && decide ((v - 1).toNat = k)) := by
      rw [Bool.eq_iff_iff]; simp only [Bool.and_eq_true, decide_eq_true_eq, Bool.false_eq_true, iff_false]; omega
    rw [e]; simp [show k < 128 by omega]
  · apply BitVec.eq_of_getLsbD_eq; intro k hk
    simp only [hi_bit, BitVec.getLsbD_and, BitVec.getLsbD_not, BitVec.getLsbD_twoPow, hk, decide_true, Bool.true_and]
    have e : (decide ((v - 1).toNat < 128) && decide ((v - 1).toNat = 64 + k)) = false := by
      rw [Bool.eq_iff_iff]; simp only [Bool.and_eq_true, decide_eq_true_eq, Bool.false_eq_true, iff_false]; omega
    rw [e]; simp; try omega
theorem hi_without (s : BitVec 128) (v : Int) (h1 : 65 ≤ v) (h2 : v ≤ 128) : lo (sWithout s v) = lo s ∧ hi (sWithout s v) = hi s &&& ~~~ BitVec.twoPow 64 (v - 65).toNat := by
  unfold sWithout sBit
  rw [if_pos ⟨by omega, by omega⟩]
  constructor
  · apply BitVec.eq_of_getLsbD_eq; intro k hk
    simp only [lo_bit, BitVec.getLsbD_and, BitVec.getLsbD_not, BitVec.getLsbD_twoPow, hk, decide_true, Bool.true_and]
    have e : (decide ((v - 1).toNat < 128) && decide ((v - 1).toNat = k)) = false := by
      rw [Bool.eq_iff_iff]; simp only [Bool.and_eq_true, decide_eq_true_eq, Bool.false_eq_true, iff_false]; omega
    rw [e]; simp; try omega
  · apply BitVec.eq_of_getLsbD_eq; intro k hk
    simp only [hi_bit, BitVec.getLsbD_and, BitVec.getLsbD_not, BitVec.getLsbD_twoPow, hk, decide_true, Bool.true_and]
    have e : (decide ((v - 1).toNat < 128) && decide ((v - 1).toNat = 64 + k)) = (decide ((v - 65).toNat < 64) && decide ((v - 65).toNat = k)) := by
      rw [Bool.eq_iff_iff]; simp only [Bool.and_eq_true, decide_eq_true_eq, Bool.false_eq_true, iff_false]; omega
    rw [e]; simp [show 64 + k < 128 by omega]
theorem sWith_none (s : BitVec 128) (v : Int) (h : v < 1 ∨ 128 < v) : sWith s v = s := by
  unfold sWith sBit; rw [if_neg (by omega)]; simp
theorem sWithout_none (s : BitVec 128) (v : Int) (h : v < 1 ∨ 128 < v) : sWithout s v = s := by
  unfold sWithout sBit; rw [if_neg (by omega), BitVec.not_zero, BitVec.and_allOnes]
theorem sHas_lo (s : BitVec 128) (v : Int) (h1 : 1 ≤ v) (h2 : v ≤ 64) : sHas s v = (lo s).getLsbD (v - 1).toNat := by
  simp [sHas, lo_bit, h1, show v ≤ 128 by omega]; omega
theorem sHas_hi (s : BitVec 128) (v : Int) (h1 : 65 ≤ v) (h2 : v ≤ 128) : sHas s v = (hi s).getLsbD (v - 65).toNat := by
  simp [sHas, hi_bit, show 1 ≤ v by omega, h2, show 64 + (v - 65).toNat = (v - 1).toNat by omega]; omega
theorem sHas_out (s : BitVec 128) (v : Int) (h : v < 1 ∨ 128 < v) : sHas s v = false := by
  cases hh : sHas s v
  · rfl
  · have := sHas_mem hh; omega
end Go.Proofs.Ytkollnaojpppcaa
