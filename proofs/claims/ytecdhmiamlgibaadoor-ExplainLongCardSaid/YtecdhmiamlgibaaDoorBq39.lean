/- Bias in plain words; no condition. -/
import Derived.Test.YtecdhmiamlgibaaDoorRf39
import Derived.Test.YtecdhmiamlgibaaDoorPv39
namespace Go.Proofs.YtecdhmiamlgibaaDoor
set_option linter.unusedVariables false
set_option linter.unusedSimpArgs false
set_option linter.unusedSectionVars false
open Go.RowKit
set_option maxRecDepth 100000
def clrN (x m : Nat) : Nat := x ^^^ (x &&& m)
theorem clrN_bit (x m i : Nat) : (clrN x m).testBit i = (x.testBit i && !m.testBit i) := by
  unfold clrN
  rw [Nat.testBit_xor, Nat.testBit_and]
  cases x.testBit i <;> cases m.testBit i <;> rfl
theorem clrN_lt {n x m : Nat} (h : x < 2 ^ n) : clrN x m < 2 ^ n := by
  unfold clrN
  exact Nat.xor_lt_two_pow h (Nat.lt_of_le_of_lt Nat.and_le_left h)
theorem clrN_i64 {x m : Nat} (hx : x < 2 ^ 64) (hm : m < 2 ^ 64) : x % 2 ^ IntKind.i64.bits &&& 2 ^ IntKind.i64.bits - 1 - m % 2 ^ IntKind.i64.bits = clrN x m := by
  rw [bits_i64, Nat.mod_eq_of_lt hx, Nat.mod_eq_of_lt hm]
  apply Nat.eq_of_testBit_eq
  intro i
  rw [Nat.testBit_and, clrN_bit, show 2 ^ 64 - 1 - m = 2 ^ 64 - (m + 1) by omega, Nat.testBit_two_pow_sub_succ hm]
  by_cases hi : i < 64
  · rw [decide_eq_true hi, Bool.true_and]
  · rw [Nat.testBit_lt_two_pow (Nat.lt_of_lt_of_le hx (Nat.pow_le_pow_right (by omega) (Nat.le_of_not_lt hi)))]; rfl
def seenB (f : Nat → Bool) (m : Nat) (r : Bool) (k y : Nat) : Bool := (List.range k).any fun z => decide (clrN z m = y) && (f z == r)
theorem seenB_succ (f : Nat → Bool) (m : Nat) (r : Bool) (k y : Nat) : seenB f m r (k + 1) y = (seenB f m r k y || (decide (clrN k m = y) && (f k == r))) := by
  unfold seenB
  rw [List.range_succ, List.any_append]
  simp
theorem seenB_iff {f : Nat → Bool} {m : Nat} {r : Bool} {k y : Nat} : seenB f m r k y = true ↔ ∃ z, z < k ∧ clrN z m = y ∧ f z = r := by
  unfold seenB
  rw [List.any_eq_true]
  constructor
  · rintro ⟨z, h1, h2⟩
    rw [Bool.and_eq_true, decide_eq_true_eq, beq_iff_eq] at h2
    exact ⟨z, List.mem_range.1 h1, h2⟩
  · rintro ⟨z, h1, h2, h3⟩
    exact ⟨z, List.mem_range.2 h1, by rw [Bool.and_eq_true, decide_eq_true_eq, beq_iff_eq]; exact ⟨h2, h3⟩⟩
theorem both_chg {f : Nat → Bool} {n x m : Nat} (hx : x < 2 ^ n) (hm : m < 2 ^ n) : (seenB f m false (2 ^ n) (clrN x m) && seenB f m true (2 ^ n) (clrN x m)) = chgB f n x m := by
  rw [Bool.eq_iff_iff, Bool.and_eq_true, seenB_iff, seenB_iff, chg_iff hm]
  constructor
  · rintro ⟨⟨z0, h1, h2, h3⟩, z1, g1, g2, g3⟩
    have key : ∀ z, clrN z m = clrN x m → f z ≠ f x → ∃ d, (∀ p, d.testBit p = true → m.testBit p = true) ∧ f (x ^^^ d) ≠ f x := fun z hz hne => by
      refine ⟨x ^^^ z, fun p hp => ?_, by rw [← Nat.xor_assoc, Nat.xor_self, Nat.zero_xor]; exact hne⟩
      have h := congrArg (fun w => w.testBit p) hz
      simp only [clrN_bit] at h
      rw [Nat.testBit_xor] at hp
      cases hm : m.testBit p with
      | true => rfl
      | false =>
        rw [hm] at h
        simp only [Bool.not_false, Bool.and_true] at h
        rw [h] at hp; simp at hp
    cases hf : f x with
    | true => have h := key z0 h2 (by rw [h3, hf]; decide); rw [hf] at h; exact h
    | false => have h := key z1 g2 (by rw [g3, hf]; decide); rw [hf] at h; exact h
  · rintro ⟨d, hd, hne⟩
    have hdl : d < 2 ^ n := Nat.lt_of_le_of_lt (Nat.le_of_testBit hd) hm
    have hxd : x ^^^ d < 2 ^ n := Nat.xor_lt_two_pow hx hdl
    have hc : clrN (x ^^^ d) m = clrN x m := by
      apply Nat.eq_of_testBit_eq
      intro p
      rw [clrN_bit, clrN_bit, Nat.testBit_xor]
      cases hp : d.testBit p with
      | false => simp
      | true => rw [hd p hp]; simp
    cases hf : f x with
    | true =>
      rw [hf] at hne
      exact ⟨⟨_, hxd, hc, by simpa using hne⟩, x, hx, rfl, hf⟩
    | false =>
      rw [hf] at hne
      exact ⟨⟨x, hx, rfl, hf⟩, _, hxd, hc, by simpa using hne⟩
def revN (n i : Nat) : Nat := (revI (i : Int)).toNat / 2 ^ (64 - n)
theorem revI_bit {i : Nat} (hi : i < 2 ^ 64) {j : Nat} (hj : j < 64) : (revI (i : Int)).toNat.testBit j = i.testBit (63 - j) := by
  unfold revI
  rw [Int.toNat_natCast]
  have h := revW_bit (ofZ (i : Int)) hj
  rw [BitVec.getLsbD, BitVec.getLsbD] at h
  rw [h]
  congr 1
  unfold ofZ
  rw [BitVec.toNat_ofInt]; omega
theorem revI_lt (z : Int) : (revI z).toNat < 2 ^ 64 := by unfold revI; rw [Int.toNat_natCast]; exact (revW _).isLt
theorem revN_bit {n i : Nat} (hn : n ≤ 64) (hi : i < 2 ^ n) (j : Nat) : (revN n i).testBit j = (decide (j < n) && i.testBit (n - 1 - j)) := by
  have hi2 : i < 2 ^ 64 := Nat.lt_of_lt_of_le hi (Nat.pow_le_pow_right (by omega) hn)
  unfold revN
  rw [← Nat.shiftRight_eq_div_pow, Nat.testBit_shiftRight]
  by_cases hj : j < n
  · rw [decide_eq_true hj, Bool.true_and, revI_bit hi2 (by omega)]
    congr 1; omega
  · rw [decide_eq_false hj, Bool.false_and]
    exact Nat.testBit_lt_two_pow (Nat.lt_of_lt_of_le (revI_lt _) (Nat.pow_le_pow_right (by omega) (by omega)))
theorem revN_lt {n i : Nat} (hn : n ≤ 64) (hi : i < 2 ^ n) : revN n i < 2 ^ n := by
  apply Nat.lt_pow_two_of_testBit
  intro j hj
  rw [revN_bit hn hi, decide_eq_false (by omega)]; rfl
theorem revN_rev {n i : Nat} (hn : n ≤ 64) (hi : i < 2 ^ n) : revN n (revN n i) = i := by
  apply Nat.eq_of_testBit_eq
  intro j
  rw [revN_bit hn (revN_lt hn hi), revN_bit hn hi]
  by_cases hj : j < n
  · rw [decide_eq_true hj, decide_eq_true (by omega), Bool.true_and, Bool.true_and]
    congr 1; omega
  · rw [decide_eq_false hj]
    exact (Nat.testBit_lt_two_pow (Nat.lt_of_lt_of_le hi (Nat.pow_le_pow_right (by omega) (by omega)))).symm
def fstI (f : Nat → Bool) (n m : Nat) : Option Nat := (List.range (2 ^ n)).find? fun i => chgB f n (revN n i) m
def bsA (N : Int) (ns : List Nd) (p : BitVec 128) : AV :=
  if validN N ns = false then .tup [aSet 0#128, .v (.bool false), .v (.int .i64 1)]
  else if 16 < (matL ns).length then .tup [aSet 0#128, .v (.bool false), .v (.int .i64 2)]
  else match fstI (tabF ns) (matL ns).length (idxN (matL ns) p) with
    | some i => .tup [aSet (setX (matL ns) (revN (matL ns).length i)), .v (.bool true), .v (.int .i64 0)]
    | none => .tup [aSet 0#128, .v (.bool false), .v (.int .i64 0)]
def posL (l : List Int) : List Int := l.filter fun x => !decide (x < 0)
theorem pos_set {vs : List Int} (h : okVs vs) {x : Nat} : ofL (posL (termL vs x (2 ^ vs.length - 1))) = setX vs x := by
  refine sets_ext fun u h1 h2 => ?_
  rw [ofL_has, setX_has h, Bool.eq_iff_iff, decide_eq_true_eq]
  unfold posL
  rw [List.mem_filter]
  have hall : ∀ i, i < vs.length → (2 ^ vs.length - 1).testBit i = true := fun i hi => by rw [Nat.testBit_two_pow_sub_one, decide_eq_true hi]
  constructor
  · rintro ⟨⟨hm, hp⟩, _⟩
    obtain ⟨i, hi, _, rfl⟩ := term_mem.1 hm
    have hv := h.2 _ (gmemI hi)
    unfold sgn at hp ⊢
    cases hb : x.testBit i with
    | true => rw [if_pos rfl, posV_get h.1 hi]; exact hb
    | false =>
      rw [hb, if_neg (by decide), Bool.not_eq_true', decide_eq_false_iff_not] at hp
      omega
  · intro hx
    cases hp : posV vs u with
    | none => rw [hp] at hx; cases hx
    | some i =>
      rw [hp] at hx
      have hu : u ∈ vs := by
        by_cases hu : u ∈ vs
        · exact hu
        · rw [posV_none hu] at hp; cases hp
      obtain ⟨j, g1, g2, g3⟩ := posV_some hu
      rw [hp] at g1
      cases g1
      refine ⟨⟨term_mem.2 ⟨i, g2, hall i g2, ?_⟩, by simp; omega⟩, h1, h2⟩
      unfold sgn
      rw [if_pos hx, g3]
end Go.Proofs.YtecdhmiamlgibaaDoor
