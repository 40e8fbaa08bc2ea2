/- The lowest bit of a word; math/bits.TrailingZeros64; no condition. -/
import Derived.Test.YtecdhmiamlgibaaDoorCvG
import Derived.Test.YtecdhmiamlgibaaDoorWl
import Derived.Test.YtecdhmiamlgibaaDoorAm20
namespace Go.Proofs.YtecdhmiamlgibaaDoor
set_option linter.unusedVariables false
set_option linter.unusedSimpArgs false
set_option linter.unusedSectionVars false
open Go.RowKit
open Wlk
attribute [-simp] List.getD_eq_getElem?_getD
set_option maxRecDepth 100000
theorem low_ex : ∀ x : Nat, 0 < x → ∃ k m, x = 2 ^ k * (2 * m + 1) := by
 intro x
 induction x using Nat.strongRecOn with
 | _ x ih =>
  intro hx
  by_cases h : x % 2 = 1
  ·exact ⟨0, x / 2, by omega⟩
  ·obtain ⟨k, m, hk⟩ := ih (x / 2) (by omega) (by omega)
   refine ⟨k + 1, m, ?_⟩
   rw [Nat.pow_succ, Nat.mul_right_comm, ← hk]; omega
theorem low_lt {x k m n : Nat} (h : x = 2 ^ k * (2 * m + 1)) (hx : x < 2 ^ n) : k < n := by
 have h1 : 2 ^ k * 1 ≤ 2 ^ k * (2 * m + 1) := Nat.mul_le_mul_left _ (by omega)
 exact (Nat.pow_lt_pow_iff_right (a := 2) (by omega)).1 (by omega)
theorem odd_bit (m j : Nat) : (2 * m + 1).testBit j = (decide (j = 0) || (2 * m).testBit j) := by
 cases j with
 | zero => simp [Nat.testBit_zero]
 | succ j => simp [Nat.testBit_succ, show (2 * m + 1) / 2 = m by omega]
theorem even_bit (m : Nat) : (2 * m).testBit 0 = false := by simp [Nat.testBit_zero]
theorem low_neg {x k m : Nat} (h : x = 2 ^ k * (2 * m + 1)) (hx : x < 2 ^ 64) : x &&& (2 ^ 64 - x) = 2 ^ k := by
 have hk := low_lt h hx
 have e : 2 ^ 64 = 2 ^ k * 2 ^ (64 - k) := by rw [← Nat.pow_add]; congr 1; omega
 have hm : 2 * m < 2 ^ (64 - k) := by
  have : 2 ^ k * (2 * m + 1) < 2 ^ k * 2 ^ (64 - k) := by rw [← e, ← h]; exact hx
  have := Nat.lt_of_mul_lt_mul_left this
  omega
 have e2 : 2 ^ 64 - x = 2 ^ k * (2 ^ (64 - k) - (2 * m + 1)) := by rw [Nat.mul_sub, ← e, ← h]
 apply Nat.eq_of_testBit_eq
 intro i
 rw [Nat.testBit_and, e2, h, Nat.testBit_two_pow_mul, Nat.testBit_two_pow_mul, Nat.testBit_two_pow]
 by_cases hi : k ≤ i
 ·obtain ⟨j, rfl⟩ : ∃ j, i = k + j := ⟨i - k, by omega⟩
  rw [show k + j - k = j by omega, Nat.testBit_two_pow_sub_succ hm, odd_bit]
  by_cases hj : j = 0
  ·subst hj
   simp [even_bit]; omega
  ·simp [hj]; exact fun h _ => h
 ·simp [hi]; omega
theorem low_clear {x k m : Nat} (h : x = 2 ^ k * (2 * m + 1)) : x &&& (x - 1) = 2 ^ k * (2 * m) := by
 have hp := Nat.two_pow_pos k
 have e2 : x - 1 = 2 ^ k * (2 * m) + (2 ^ k - 1) := by rw [h, Nat.mul_add]; omega
 apply Nat.eq_of_testBit_eq
 intro i
 rw [Nat.testBit_and, e2, h, Nat.testBit_two_pow_mul, Nat.testBit_two_pow_mul, Nat.testBit_two_pow_mul_add _ (by omega)]
 by_cases hi : k ≤ i
 ·rw [if_neg (by omega), odd_bit]
  by_cases hj : i - k = 0
  ·simp [hj, even_bit]
  ·simp [hi, hj]
 ·simp [hi]
def bitsW (x : Nat) : List Nat := (List.range 64).filter fun i => x.testBit i
theorem bitsW_zero : bitsW 0 = [] := by simp [bitsW]
theorem bitsW_low {x k m : Nat} (h : x = 2 ^ k * (2 * m + 1)) (hx : x < 2 ^ 64) : bitsW x = k :: bitsW (2 ^ k * (2 * m)) := by
 have hk := low_lt h hx
 have hb : ∀ i, x.testBit i = (decide (i = k) || (2 ^ k * (2 * m)).testBit i) := fun i => by
  rw [h, Nat.testBit_two_pow_mul, Nat.testBit_two_pow_mul, odd_bit]
  by_cases hi : k ≤ i
  ·by_cases e : i = k
   ·subst e; simp
   ·simp [hi, e, show i - k ≠ 0 by omega]
  ·simp [hi]; omega
 have hlow : ∀ i, i ≤ k → (2 ^ k * (2 * m)).testBit i = false := fun i hi => by
  rw [Nat.testBit_two_pow_mul]
  by_cases e : i = k
  ·subst e; simp [even_bit]
  ·simp [show ¬ k ≤ i by omega]
 have e : List.range 64 = List.range k ++ k :: List.range' (k + 1) (63 - k) := by
  rw [List.range_eq_range', List.range_eq_range', show 64 = k + (1 + (63 - k)) by omega, ← List.range'_append_1, Nat.zero_add]
  rw [show k :: List.range' (k + 1) (63 - k) = List.range' k (1 + (63 - k)) by rw [Nat.add_comm 1, List.range'_succ]]
 unfold bitsW
 rw [e, List.filter_append, List.filter_append, List.filter_cons, List.filter_cons]
 have f1 : (List.range k).filter (fun i => x.testBit i) = [] := List.filter_eq_nil_iff.2 fun i hi => by
  have := List.mem_range.1 hi
  rw [hb, hlow i (by omega)]; simp; omega
 have f2 : (List.range k).filter (fun i => (2 ^ k * (2 * m)).testBit i) = [] := List.filter_eq_nil_iff.2 fun i hi => by
  have := List.mem_range.1 hi
  rw [hlow i (by omega)]; simp
 have f3 : (List.range' (k + 1) (63 - k)).filter (fun i => x.testBit i) = (List.range' (k + 1) (63 - k)).filter (fun i => (2 ^ k * (2 * m)).testBit i) := List.filter_congr fun i hi => by
  have := List.mem_range'_1.1 hi
  rw [hb, decide_eq_false (by omega)]; simp
 rw [f1, f2, f3, hb k, hlow k (Nat.le_refl _)]
 simp
theorem tz_table : (List.range 64).all (fun k => decide ((2 ^ k * 285870213051353865) % 18446744073709551616 / 288230376151711744 < 64) && (tabZ.getD ((2 ^ k * 285870213051353865) % 18446744073709551616 / 288230376151711744) 0 == (k : Int))) = true := by decide
theorem u64_wr (y : Int) : IntKind.u64.wrap y = y % 18446744073709551616 := rfl
theorem tz_f8 {x P : Nat} (hx : x < 18446744073709551616) (hx0 : x ≠ 0) (hP : P < 18446744073709551616) (hlow : x &&& (18446744073709551616 - x) = P) : IntKind.u64.wrap (((x % 2 ^ IntKind.u64.bits &&& (IntKind.u64.wrap (-(x : Int)) % 2 ^ IntKind.u64.bits).toNat : Nat)) : Int) = (P : Int) := by
 have hb : (2 : Nat) ^ IntKind.u64.bits = 18446744073709551616 := rfl
 have hb2 : (2 : Int) ^ IntKind.u64.bits = 18446744073709551616 := rfl
 have e1 : IntKind.u64.wrap (-(x : Int)) = ((18446744073709551616 - x : Nat) : Int) := by rw [u64_wr]; omega
 have e2 : ((18446744073709551616 - x : Nat) : Int) % 18446744073709551616 = ((18446744073709551616 - x : Nat) : Int) := by omega
 rw [e1, hb2, e2, hb, Nat.mod_eq_of_lt hx, Int.toNat_natCast, hlow, u64_wr]
 omega
theorem tz_f9 (P : Nat) : IntKind.u64.wrap ((P : Int) * 285870213051353865) = ((P * 285870213051353865 % 18446744073709551616 : Nat) : Int) := by rw [u64_wr]; omega
theorem tz_f10 (M : Nat) : (M : Int).fdiv (2 ^ (min 58 IntKind.u64.bits)) = ((M / 288230376151711744 : Nat) : Int) := by
 have hsh : (2 : Int) ^ (min 58 IntKind.u64.bits) = 288230376151711744 := by decide
 rw [hsh, Int.fdiv_eq_ediv_of_nonneg _ (by omega)]; omega
theorem tz_at (k : Nat) (hk : k < 64) : (2 ^ k * 285870213051353865) % 18446744073709551616 / 288230376151711744 < 64 ∧ tabZ.getD ((2 ^ k * 285870213051353865) % 18446744073709551616 / 288230376151711744) 0 = (k : Int) := by
 have ht := List.all_eq_true.1 tz_table k (List.mem_range.2 hk)
 rw [Bool.and_eq_true, decide_eq_true_eq, beq_iff_eq] at ht
 exact ht
theorem two64 : (2 : Nat) ^ 64 = 18446744073709551616 := by decide
theorem tz_facts {x k m : Nat} (h : x = 2 ^ k * (2 * m + 1)) (hx : x < 18446744073709551616) : ∃ P M I : Nat, IntKind.u64.wrap (((x % 2 ^ IntKind.u64.bits &&& (IntKind.u64.wrap (-(x : Int)) % 2 ^ IntKind.u64.bits).toNat : Nat)) : Int) = (P : Int) ∧ IntKind.u64.wrap ((P : Int) * 285870213051353865) = (M : Int) ∧ (M : Int).fdiv (2 ^ (min 58 IntKind.u64.bits)) = (I : Int) ∧ I < 64 ∧ tabZ.getD I 0 = (k : Int) ∧ k < 64 ∧ x ≠ 0 := by
 rw [← two64] at hx
 have hk := low_lt h hx
 have hx0 : x ≠ 0 := by
  have := Nat.two_pow_pos k
  rw [h]; exact Nat.mul_ne_zero (by omega) (by omega)
 have hlow := low_neg h hx
 have hpk := Nat.pow_lt_pow_right (a := 2) (by omega) hk
 rw [two64] at hx hlow hpk
 obtain ⟨ht1, ht2⟩ := tz_at k hk
 exact ⟨2 ^ k, _, _, tz_f8 hx hx0 hpk hlow, tz_f9 (2 ^ k), tz_f10 _, ht1, ht2, hk, hx0⟩
theorem tz_drop {I : Nat} {k : Nat} (hI : I < 64) (ht : tabZ.getD I 0 = (k : Int)) : (List.drop I (List.map (AV.v ∘ fun x => Value.int IntKind.u8 x) tabZ)) = .v (.int .u8 (k : Int)) :: List.drop (I + 1) (List.map (AV.v ∘ fun x => Value.int IntKind.u8 x) tabZ) := by
 have hl : tabZ.length = 64 := by decide
 have hI3 : I < tabZ.length := by omega
 rw [List.drop_eq_getElem_cons (by rw [List.length_map]; exact hI3)]
 congr 1
 rw [List.getElem_map, ← ht]
 simp only [Function.comp, List.getD, List.getElem?_eq_getElem hI3, Option.getD_some]
theorem PTn_ok : PTok Tryd.prog noPT := noPT_ok _
theorem tz_p (x k m : Nat) (h : x = 2 ^ k * (2 * m + 1)) (hx : x < 18446744073709551616) : FnPure Tryd.prog 116 [.v (.int .u64 (x : Int))] (.v (.int .i64 (k : Int))) := by
 obtain ⟨P, M, I, f8, f9, f10, hI, ht, hk, hx0⟩ := tz_facts h hx
 have hd := tz_drop hI ht
 have hne2 : ((x : Int) == 0) = false := by simpa using hx0
 have hI2 : (I : Int) < 64 := by omega
 have hc8 : IntKind.i64.wrap (k : Int) = k := i64n k (by omega)
 clear h hx hx0 ht hk
 refine fn_sp TT_ok Tryd.func116 (c := _) rfl (by simp [Tryd.ntmps116]) (fun B hI0 hro => ?_)
 rw [Tryd.ntmps116]
 simp only [enumA]
 refine amStr (h := ?_)
 refine amReg PTn_ok (h := ?_)
 refine amStr (h := ?_)
 refine amReg PTn_ok (h := ?_)
 refine amStr (h := ?_)
 refine s_regionL ?_
 ((iterate 10 (((with_reducible refine spl_step TT_ok PTn_ok (id := 0) (σ' := ?_) ?_ ?_); rotate_left; (focus (simp [*]; rfl))))))
 refine spl_nil ?_
 refine amStr (h := ?_)
 (refine amRt Tryd.results116 (h := ?_); try simp [*])
end Go.Proofs.YtecdhmiamlgibaaDoor
