/- bits.Reverse64; no condition. -/
import Derived.Test.YtecdhmiamlgibaaDoorPsG
import Derived.Test.YtecdhmiamlgibaaDoorWl
/- Re39: bits.Reverse64; no condition. -/
namespace Go.Proofs.YtecdhmiamlgibaaDoor
set_option linter.unusedVariables false
set_option linter.unusedSimpArgs false
set_option linter.unusedSectionVars false
open Go.RowKit
open Wlk
attribute [-simp] List.getD_eq_getElem?_getD
set_option maxRecDepth 100000
theorem bits_u64' : IntKind.u64.bits = 64 := rfl
theorem wrap_u {z : Int} {y : BitVec 64} (h : z % 18446744073709551616 = (y.toNat : Int)) : IntKind.u64.wrap z = (y.toNat : Int) := by rw [IntKind.wrap_u64]; exact h
def uAnd (y : BitVec 64) (m : Nat) : BitVec 64 := y &&& BitVec.ofNat 64 m
def uShr (y : BitVec 64) (k : Nat) : BitVec 64 := y >>> k
def uShl (y : BitVec 64) (k : Nat) : BitVec 64 := y <<< k
theorem and64 (y : BitVec 64) (m : Nat) : IntKind.u64.wrap ((y.toNat % 2 ^ IntKind.u64.bits &&& m % 2 ^ IntKind.u64.bits : Nat) : Int) = ((uAnd y m).toNat : Int) := by
 apply wrap_u
 unfold uAnd
 rw [bits_u64', BitVec.toNat_and, BitVec.toNat_ofNat, Nat.mod_eq_of_lt y.isLt]
 have : y.toNat &&& m % 2 ^ 64 ≤ y.toNat := Nat.and_le_left
 have := y.isLt
 omega
theorem shr64 (y : BitVec 64) (k : Nat) : ((y.toNat : Int)).fdiv (2 ^ min k IntKind.u64.bits) = ((uShr y k).toNat : Int) := by
 unfold uShr
 rw [Int.fdiv_eq_ediv_of_nonneg _ (by exact Int.le_of_lt (Int.pow_pos (by decide))), BitVec.toNat_ushiftRight, Nat.shiftRight_eq_div_pow, bits_u64']
 have e : ((2 : Int) ^ min k 64) = ((2 ^ min k 64 : Nat) : Int) := by simp
 rw [e, ← Int.natCast_ediv]
 by_cases h : k ≤ 64
 ·rw [Nat.min_eq_left h]
 ·have h1 : 2 ^ 64 ≤ 2 ^ k := Nat.pow_le_pow_right (by omega) (by omega)
  rw [Nat.min_eq_right (by omega), Nat.div_eq_of_lt y.isLt, Nat.div_eq_of_lt (by have := y.isLt; omega)]
theorem shl64 (y : BitVec 64) (k : Nat) : IntKind.u64.wrap ((y.toNat : Int) * 2 ^ min k IntKind.u64.bits) = ((uShl y k).toNat : Int) := by
 apply wrap_u
 unfold uShl
 rw [BitVec.toNat_shiftLeft, Nat.shiftLeft_eq, bits_u64']
 have e : ((2 : Int) ^ min k 64) = ((2 ^ min k 64 : Nat) : Int) := by simp
 rw [e, ← Int.natCast_mul]
 by_cases h : k ≤ 64
 ·rw [Nat.min_eq_left h]; omega
 ·have h1 : 2 ^ k = 2 ^ 64 * 2 ^ (k - 64) := by rw [← Nat.pow_add]; congr 1; omega
  rw [Nat.min_eq_right (by omega), h1, ← Nat.mul_assoc, Nat.mul_right_comm, Nat.mul_mod_left]
  omega
def swapW (s m : Nat) (x : BitVec 64) : BitVec 64 := wOr (uAnd (uShr x s) m) (uShl (uAnd x m) s)
theorem swapW_bit {k m : Nat} {x : BitVec 64} (hk : k < 6) (hm : ∀ j, j < 64 → m.testBit j = !(j.testBit k)) {j : Nat} (hj : j < 64) : (swapW (2 ^ k) m x).getLsbD j = x.getLsbD (j ^^^ 2 ^ k) := by
 have hx : j ^^^ 2 ^ k < 2 ^ 6 := Nat.xor_lt_two_pow hj (Nat.pow_lt_pow_right (by omega) hk)
 unfold swapW wOr uAnd uShr uShl
 rw [BitVec.getLsbD_or, BitVec.getLsbD_and, BitVec.getLsbD_ushiftRight, BitVec.getLsbD_shiftLeft, BitVec.getLsbD_and, BitVec.getLsbD_ofNat, BitVec.getLsbD_ofNat, decide_eq_true hj, Bool.true_and, hm j hj]
 cases hb : j.testBit k with
 | false =>
  have e : j ^^^ 2 ^ k = 2 ^ k + j := by
   have h1 : (j ^^^ 2 ^ k) ^^^ 2 ^ k = j := by rw [Nat.xor_assoc, Nat.xor_self, Nat.xor_zero]
   have : ∀ k, k < 6 → ∀ j, j < 64 → j.testBit k = false → j ^^^ 2 ^ k = 2 ^ k + j := by decide +kernel
   exact this k hk j hj hb
  rw [e]
  by_cases hlt : j < 2 ^ k
  ·simp [hlt]
  ·have h2 : (j - 2 ^ k).testBit k = true := by
    have : ∀ k, k < 6 → ∀ j, j < 64 → j.testBit k = false → 2 ^ k ≤ j → (j - 2 ^ k).testBit k = true := by decide +kernel
    exact this k hk j hj hb (by omega)
   have h3 := hm (j - 2 ^ k) (by have := hj; exact Nat.lt_of_le_of_lt (Nat.sub_le _ _) hj)
   rw [h3, h2]
   simp
 | true =>
  have e : j ^^^ 2 ^ k = j - 2 ^ k := by
   have : ∀ k, k < 6 → ∀ j, j < 64 → j.testBit k = true → j ^^^ 2 ^ k = j - 2 ^ k := by decide +kernel
   exact this k hk j hj hb
  have hge : 2 ^ k ≤ j := by
   have : ∀ k, k < 6 → ∀ j, j < 64 → j.testBit k = true → 2 ^ k ≤ j := by decide +kernel
   exact this k hk j hj hb
  have hlt : j - 2 ^ k < 64 := Nat.lt_of_le_of_lt (Nat.sub_le _ _) hj
  have h2 : (j - 2 ^ k).testBit k = false := by
   have : ∀ k, k < 6 → ∀ j, j < 64 → j.testBit k = true → (j - 2 ^ k).testBit k = false := by decide +kernel
   exact this k hk j hj hb
  rw [e, hm (j - 2 ^ k) hlt, h2]
  simp [Nat.not_lt.2 hge, hlt]
def revB (x : BitVec 64) : BitVec 64 := wOr (uShr (swapW 16 281470681808895 (swapW 8 71777214294589695 x)) 32) (uShl (swapW 16 281470681808895 (swapW 8 71777214294589695 x)) 32)
def revW (x : BitVec 64) : BitVec 64 := revB (swapW 4 1085102592571150095 (swapW 2 3689348814741910323 (swapW 1 6148914691236517205 x)))
theorem revW_bit (x : BitVec 64) {j : Nat} (hj : j < 64) : (revW x).getLsbD j = x.getLsbD (63 - j) := by
 have hlast : ∀ y : BitVec 64, (y >>> 32 ||| y <<< 32).getLsbD j = y.getLsbD (j ^^^ 32) := fun y => by
  rw [BitVec.getLsbD_or, BitVec.getLsbD_ushiftRight, BitVec.getLsbD_shiftLeft, decide_eq_true hj, Bool.true_and]
  have e1 : ∀ j, j < 32 → j ^^^ 32 = 32 + j := by decide +kernel
  have e2 : ∀ j, j < 64 → 32 ≤ j → j ^^^ 32 = j - 32 := by decide +kernel
  by_cases h : j < 32
  ·rw [e1 j h, decide_eq_true h]; simp
  ·rw [e2 j hj (by omega), decide_eq_false h, BitVec.getLsbD_of_ge _ _ (by omega : 64 ≤ 32 + j)]; simp
 unfold revW revB
 rw [show ∀ y, wOr (uShr y 32) (uShl y 32) = (y >>> 32 ||| y <<< 32) from fun _ => rfl, hlast]
 have hx : ∀ j k, j < 64 → k < 6 → j ^^^ 2 ^ k < 64 := fun j k hj hk => Nat.xor_lt_two_pow (n := 6) hj (Nat.pow_lt_pow_right (by omega) hk)
 have h5 := hx j 5 hj (by omega)
 have h4 := hx _ 4 h5 (by omega)
 have h3 := hx _ 3 h4 (by omega)
 have h2 := hx _ 2 h3 (by omega)
 have h1 := hx _ 1 h2 (by omega)
 rw [show (32 : Nat) = 2 ^ 5 from rfl, swapW_bit (k := 4) (by omega) (by decide +kernel) h5, swapW_bit (k := 3) (by omega) (by decide +kernel) h4, swapW_bit (k := 2) (by omega) (by decide +kernel) h3, swapW_bit (k := 1) (by omega) (by decide +kernel) h2, swapW_bit (k := 0) (by omega) (by decide +kernel) h1]
 congr 1
 have : ∀ j, j < 64 → ((((((j ^^^ 2 ^ 5) ^^^ 2 ^ 4) ^^^ 2 ^ 3) ^^^ 2 ^ 2) ^^^ 2 ^ 1) ^^^ 2 ^ 0) = 63 - j := by decide +kernel
 exact this j hj
attribute [local simp] and64 shr64 shl64
theorem revB_p (x : BitVec 64) : FnPure Tryd.prog 94 [.v (.int .u64 (x.toNat : Int))] (.v (.int .u64 ((revB x).toNat : Int))) := by
 unfold revB swapW
 refine fn_sp TT_ok Tryd.func94 (c := _) rfl (by simp [Tryd.ntmps94]) (fun B hI0 hro => ?_)
 rw [Tryd.ntmps94]
 simp only [enumA]
 refine amGo PT156_ok (h := ?_)
 (refine amRt Tryd.results94 (h := ?_); try simp [*])
def u64B (z : Int) : Bool := Nat.beq z.toNat z.toNat && (decide (0 ≤ z) && decide (z < 18446744073709551616))
def ofZ (z : Int) : BitVec 64 := BitVec.ofInt 64 z
theorem u64B_iff {z : Int} : u64B z = true ↔ 0 ≤ z ∧ z < 18446744073709551616 := by unfold u64B; rw [Nat.beq_refl, Bool.true_and, Bool.and_eq_true, decide_eq_true_eq, decide_eq_true_eq]
theorem int_bv {z : Int} (h : u64B z = true) : ((ofZ z).toNat : Int) = z := by
 obtain ⟨h1, h2⟩ := u64B_iff.1 h
 unfold ofZ
 rw [BitVec.toNat_ofInt]; omega
theorem bv_int (x : BitVec 64) : ofZ (x.toNat : Int) = x := by unfold ofZ; simp
theorem bv_rng (x : BitVec 64) : u64B (x.toNat : Int) = true := u64B_iff.2 ⟨by omega, by have := x.isLt; omega⟩
def revZ (z : Int) : Int := ((revB (ofZ z)).toNat : Int)
theorem revZ_eq (x : BitVec 64) : revZ (x.toNat : Int) = ((revB x).toNat : Int) := by unfold revZ; rw [bv_int]
@[simp] def g_revB : List AV → Option (AV × Bool)
 | [.v (.int .u64 z)] => if u64B z = true then some (.v (.int .u64 (revZ z)), false) else none
 | _ => none
theorem e_revB : EntOk Tryd.prog 94 g_revB := ent_pure (by kernel_rfl) fun args r fr h => by
 unfold g_revB at h
 split at h
 ·split at h
  ·rename_i x hc
   cases h
   refine ⟨?_, rfl⟩
   have := revB_p (ofZ x)
   rwa [int_bv hc] at this
  ·cases h
 ·cases h
def l157 : List (FuncId × (List AV → Option (AV × Bool))) :=
 (94, g_revB) :: l156
theorem l157_ok : ∀ p ∈ l157, EntOk Tryd.prog p.1 p.2 := ent_cons e_revB (l156_ok)
def PT157 : PTab := tab l157
theorem PT157_ok : PTok Tryd.prog PT157 := tab_ok l157_ok
@[simp] theorem PT157_revB : PT157 94 = g_revB := rfl
@[simp] theorem PT157_old (f : FuncId) (h : decide (f ≠ 94) = true) : PT157 f = PT156 f := tab_old (of_decide_eq_true h)
end Go.Proofs.YtecdhmiamlgibaaDoor
/- Rf39: bits.Reverse64, whole; no condition. -/
namespace Go.Proofs.YtecdhmiamlgibaaDoor
set_option linter.unusedVariables false
set_option linter.unusedSimpArgs false
set_option linter.unusedSectionVars false
open Go.RowKit
open Wlk
attribute [-simp] List.getD_eq_getElem?_getD
set_option maxRecDepth 100000
theorem fold_swap (s m : Nat) (x : BitVec 64) : wOr (uAnd (uShr x s) m) (uShl (uAnd x m) s) = swapW s m x := rfl
attribute [local simp] and64 shr64 shl64 fold_swap
@[elab_as_elim] theorem gen_u64 {p : Int → Prop} (n : Int) (hr : u64B n = true) (h : ∀ m, u64B m = true → p m) : p n := h n hr
theorem rev_p (x : BitVec 64) : FnPure Tryd.prog 63 [.v (.int .u64 (x.toNat : Int))] (.v (.int .u64 ((revW x).toNat : Int))) := by
 unfold revW
 obtain ⟨y, hy⟩ : ∃ y, swapW 4 1085102592571150095 (swapW 2 3689348814741910323 (swapW 1 6148914691236517205 x)) = y := ⟨_, rfl⟩
 rw [hy]
 have hr := bv_rng y
 have hb := revZ_eq y
 refine fn_sp TT_ok Tryd.func63 (c := _) rfl (by simp [Tryd.ntmps63]) (fun B hI0 hro => ?_)
 rw [Tryd.ntmps63]
 simp only [enumA]
 refine amStr (h := ?_)
 refine amReg PT157_ok (h := ?_)
 refine amStr (h := ?_)
 refine amReg PT157_ok (h := ?_)
 refine amStr (h := ?_)
 refine amReg PT157_ok (h := ?_)
 refine amStr (h := ?_)
 refine amReg PT157_ok (h := ?_)
 refine amStr (h := ?_)
 refine s_weak (τ := ⟨26, [(0, .v (.int .u64 (y.toNat : Int)))], [], []⟩) ?_ ?_
 ·(refine weak_id rfl ?_ ?_ <;> ((try simp only [List.mem_cons, List.not_mem_nil, or_false, forall_eq_or_imp, forall_eq]); (try simp (disch := omega) [i64w, *])))
 rw [← hb]
 clear hy hb
 refine gen_u64 (y.toNat : Int) hr (fun n hr => ?_)
 refine amGo PT157_ok (h := ?_)
 (refine amRt Tryd.results63 (h := ?_); try simp [*])
def revI (z : Int) : Int := ((revW (ofZ z)).toNat : Int)
theorem revI_eq (x : BitVec 64) : revI (x.toNat : Int) = ((revW x).toNat : Int) := by unfold revI; rw [bv_int]
@[simp] def g_rev : List AV → Option (AV × Bool)
 | [.v (.int .u64 z)] => if u64B z = true then some (.v (.int .u64 (revI z)), false) else none
 | _ => none
theorem e_rev : EntOk Tryd.prog 63 g_rev := ent_pure (by kernel_rfl) fun args r fr h => by
 unfold g_rev at h
 split at h
 ·split at h
  ·rename_i x hc
   cases h
   refine ⟨?_, rfl⟩
   have := rev_p (ofZ x)
   rwa [int_bv hc] at this
  ·cases h
 ·cases h
def l158 : List (FuncId × (List AV → Option (AV × Bool))) :=
 (63, g_rev) :: l157
theorem l158_ok : ∀ p ∈ l158, EntOk Tryd.prog p.1 p.2 := ent_cons e_rev (l157_ok)
def PT158 : PTab := tab l158
theorem PT158_ok : PTok Tryd.prog PT158 := tab_ok l158_ok
@[simp] theorem PT158_rev : PT158 63 = g_rev := rfl
@[simp] theorem PT158_old (f : FuncId) (h : decide (f ≠ 63) = true) : PT158 f = PT157 f := tab_old (of_decide_eq_true h)
end Go.Proofs.YtecdhmiamlgibaaDoor
/- Bq39: Bias in plain words; no condition. -/
namespace Go.Proofs.YtecdhmiamlgibaaDoor
set_option linter.unusedVariables false
set_option linter.unusedSimpArgs false
set_option linter.unusedSectionVars false
open Go.RowKit
set_option maxRecDepth 100000
def clrN (x m : Nat) : Nat := x ^^^ (x &&& m)
theorem clrN_bit (x m i : Nat) : (clrN x m).testBit i = (x.testBit i && !m.testBit i) := by
 unfold clrN
 rw [Nat.testBit_xor, Nat.testBit_and]
 cases x.testBit i <;> cases m.testBit i <;> rfl
theorem clrN_lt {n x m : Nat} (h : x < 2 ^ n) : clrN x m < 2 ^ n := by
 unfold clrN
 exact Nat.xor_lt_two_pow h (Nat.lt_of_le_of_lt Nat.and_le_left h)
theorem clrN_i64 {x m : Nat} (hx : x < 2 ^ 64) (hm : m < 2 ^ 64) : x % 2 ^ IntKind.i64.bits &&& 2 ^ IntKind.i64.bits - 1 - m % 2 ^ IntKind.i64.bits = clrN x m := by
 rw [bits_i64, Nat.mod_eq_of_lt hx, Nat.mod_eq_of_lt hm]
 apply Nat.eq_of_testBit_eq
 intro i
 rw [Nat.testBit_and, clrN_bit, show 2 ^ 64 - 1 - m = 2 ^ 64 - (m + 1) by omega, Nat.testBit_two_pow_sub_succ hm]
 by_cases hi : i < 64
 ·rw [decide_eq_true hi, Bool.true_and]
 ·rw [Nat.testBit_lt_two_pow (Nat.lt_of_lt_of_le hx (Nat.pow_le_pow_right (by omega) (Nat.le_of_not_lt hi)))]; rfl
def seenB (f : Nat → Bool) (m : Nat) (r : Bool) (k y : Nat) : Bool := (List.range k).any fun z => decide (clrN z m = y) && (f z == r)
theorem seenB_succ (f : Nat → Bool) (m : Nat) (r : Bool) (k y : Nat) : seenB f m r (k + 1) y = (seenB f m r k y || (decide (clrN k m = y) && (f k == r))) := by
 unfold seenB
 rw [List.range_succ, List.any_append]
 simp
theorem seenB_iff {f : Nat → Bool} {m : Nat} {r : Bool} {k y : Nat} : seenB f m r k y = true ↔ ∃ z, z < k ∧ clrN z m = y ∧ f z = r := by
 unfold seenB
 rw [List.any_eq_true]
 constructor
 ·rintro ⟨z, h1, h2⟩
  rw [Bool.and_eq_true, decide_eq_true_eq, beq_iff_eq] at h2
  exact ⟨z, List.mem_range.1 h1, h2⟩
 ·rintro ⟨z, h1, h2, h3⟩
  exact ⟨z, List.mem_range.2 h1, by rw [Bool.and_eq_true, decide_eq_true_eq, beq_iff_eq]; exact ⟨h2, h3⟩⟩
theorem both_chg {f : Nat → Bool} {n x m : Nat} (hx : x < 2 ^ n) (hm : m < 2 ^ n) : (seenB f m false (2 ^ n) (clrN x m) && seenB f m true (2 ^ n) (clrN x m)) = chgB f n x m := by
 rw [Bool.eq_iff_iff, Bool.and_eq_true, seenB_iff, seenB_iff, chg_iff hm]
 constructor
 ·rintro ⟨⟨z0, h1, h2, h3⟩, z1, g1, g2, g3⟩
  have key : ∀ z, clrN z m = clrN x m → f z ≠ f x → ∃ d, (∀ p, d.testBit p = true → m.testBit p = true) ∧ f (x ^^^ d) ≠ f x := fun z hz hne => by
   refine ⟨x ^^^ z, fun p hp => ?_, by rw [← Nat.xor_assoc, Nat.xor_self, Nat.zero_xor]; exact hne⟩
   have h := congrArg (fun w => w.testBit p) hz
   simp only [clrN_bit] at h
   rw [Nat.testBit_xor] at hp
   cases hm : m.testBit p with
   | true => rfl
   | false =>
    rw [hm] at h
    simp only [Bool.not_false, Bool.and_true] at h
    rw [h] at hp; simp at hp
  cases hf : f x with
  | true => have h := key z0 h2 (by rw [h3, hf]; decide); rw [hf] at h; exact h
  | false => have h := key z1 g2 (by rw [g3, hf]; decide); rw [hf] at h; exact h
 ·rintro ⟨d, hd, hne⟩
  have hdl : d < 2 ^ n := Nat.lt_of_le_of_lt (Nat.le_of_testBit hd) hm
  have hxd : x ^^^ d < 2 ^ n := Nat.xor_lt_two_pow hx hdl
  have hc : clrN (x ^^^ d) m = clrN x m := by
   apply Nat.eq_of_testBit_eq
   intro p
   rw [clrN_bit, clrN_bit, Nat.testBit_xor]
   cases hp : d.testBit p with
   | false => simp
   | true => rw [hd p hp]; simp
  cases hf : f x with
  | true =>
   rw [hf] at hne
   exact ⟨⟨_, hxd, hc, by simpa using hne⟩, x, hx, rfl, hf⟩
  | false =>
   rw [hf] at hne
   exact ⟨⟨x, hx, rfl, hf⟩, _, hxd, hc, by simpa using hne⟩
def revN (n i : Nat) : Nat := (revI (i : Int)).toNat / 2 ^ (64 - n)
theorem revI_bit {i : Nat} (hi : i < 2 ^ 64) {j : Nat} (hj : j < 64) : (revI (i : Int)).toNat.testBit j = i.testBit (63 - j) := by
 unfold revI
 rw [Int.toNat_natCast]
 have h := revW_bit (ofZ (i : Int)) hj
 rw [BitVec.getLsbD, BitVec.getLsbD] at h
 rw [h]
 congr 1
 unfold ofZ
 rw [BitVec.toNat_ofInt]; omega
theorem revI_lt (z : Int) : (revI z).toNat < 2 ^ 64 := by unfold revI; rw [Int.toNat_natCast]; exact (revW _).isLt
theorem revN_bit {n i : Nat} (hn : n ≤ 64) (hi : i < 2 ^ n) (j : Nat) : (revN n i).testBit j = (decide (j < n) && i.testBit (n - 1 - j)) := by
 have hi2 : i < 2 ^ 64 := Nat.lt_of_lt_of_le hi (Nat.pow_le_pow_right (by omega) hn)
 unfold revN
 rw [← Nat.shiftRight_eq_div_pow, Nat.testBit_shiftRight]
 by_cases hj : j < n
 ·rw [decide_eq_true hj, Bool.true_and, revI_bit hi2 (by omega)]
  congr 1; omega
 ·rw [decide_eq_false hj, Bool.false_and]
  exact Nat.testBit_lt_two_pow (Nat.lt_of_lt_of_le (revI_lt _) (Nat.pow_le_pow_right (by omega) (by omega)))
theorem revN_lt {n i : Nat} (hn : n ≤ 64) (hi : i < 2 ^ n) : revN n i < 2 ^ n := by
 apply Nat.lt_pow_two_of_testBit
 intro j hj
 rw [revN_bit hn hi, decide_eq_false (by omega)]; rfl
theorem revN_rev {n i : Nat} (hn : n ≤ 64) (hi : i < 2 ^ n) : revN n (revN n i) = i := by
 apply Nat.eq_of_testBit_eq
 intro j
 rw [revN_bit hn (revN_lt hn hi), revN_bit hn hi]
 by_cases hj : j < n
 ·rw [decide_eq_true hj, decide_eq_true (by omega), Bool.true_and, Bool.true_and]
  congr 1; omega
 ·rw [decide_eq_false hj]
  exact (Nat.testBit_lt_two_pow (Nat.lt_of_lt_of_le hi (Nat.pow_le_pow_right (by omega) (by omega)))).symm
def fstI (f : Nat → Bool) (n m : Nat) : Option Nat := (List.range (2 ^ n)).find? fun i => chgB f n (revN n i) m
def bsA (N : Int) (ns : List Nd) (p : BitVec 128) : AV :=
 if validN N ns = false then .tup [aSet 0#128, .v (.bool false), .v (.int .i64 1)]
 else if 16 < (matL ns).length then .tup [aSet 0#128, .v (.bool false), .v (.int .i64 2)]
 else match fstI (tabF ns) (matL ns).length (idxN (matL ns) p) with
  | some i => .tup [aSet (setX (matL ns) (revN (matL ns).length i)), .v (.bool true), .v (.int .i64 0)]
  | none => .tup [aSet 0#128, .v (.bool false), .v (.int .i64 0)]
def posL (l : List Int) : List Int := l.filter fun x => !decide (x < 0)
theorem pos_set {vs : List Int} (h : okVs vs) {x : Nat} : ofL (posL (termL vs x (2 ^ vs.length - 1))) = setX vs x := by
 refine sets_ext fun u h1 h2 => ?_
 rw [ofL_has, setX_has h, Bool.eq_iff_iff, decide_eq_true_eq]
 unfold posL
 rw [List.mem_filter]
 have hall : ∀ i, i < vs.length → (2 ^ vs.length - 1).testBit i = true := fun i hi => by rw [Nat.testBit_two_pow_sub_one, decide_eq_true hi]
 constructor
 ·rintro ⟨⟨hm, hp⟩, _⟩
  obtain ⟨i, hi, _, rfl⟩ := term_mem.1 hm
  have hv := h.2 _ (gmemI hi)
  unfold sgn at hp ⊢
  cases hb : x.testBit i with
  | true => rw [if_pos rfl, posV_get h.1 hi]; exact hb
  | false =>
   rw [hb, if_neg (by decide), Bool.not_eq_true', decide_eq_false_iff_not] at hp
   omega
 ·intro hx
  cases hp : posV vs u with
  | none => rw [hp] at hx; cases hx
  | some i =>
   rw [hp] at hx
   have hu : u ∈ vs := by
    by_cases hu : u ∈ vs
    ·exact hu
    ·rw [posV_none hu] at hp; cases hp
   obtain ⟨j, g1, g2, g3⟩ := posV_some hu
   rw [hp] at g1
   cases g1
   refine ⟨⟨term_mem.2 ⟨i, g2, hall i g2, ?_⟩, by simp; omega⟩, h1, h2⟩
   unfold sgn
   rw [if_pos hx, g3]
end Go.Proofs.YtecdhmiamlgibaaDoor
/- To39: term, what it returns as an object; no condition. -/
namespace Go.Proofs.YtecdhmiamlgibaaDoor
set_option linter.unusedVariables false
set_option linter.unusedSimpArgs false
set_option linter.unusedSectionVars false
open Go.RowKit
open Wlk
attribute [-simp] List.getD_eq_getElem?_getD
set_option maxRecDepth 100000
theorem term_obj (N : Int) (vs : List Int) (on : List Bool) (x P : Nat) (h : okV vs = true) (hx : x ≤ 65535) (hP : P ≤ 65535) : FnObj Tryd.prog 45 [aTab N vs on, .v (.int .i64 (x : Int)), .v (.int .i64 (P : Int))] (.ref 0 0 (termL vs x P).length) [(0, ⟨3, 1, (termL vs x P).map fun x => [.v (.int .i64 x)]⟩)] [0] := by
 obtain ⟨hvs, hl⟩ := okV_vs h
 unfold aTab
 refine fn_obj TT_ok Tryd.func45 (c := _) rfl (by simp [Tryd.ntmps45]) ⟨fun k hk => by simpa [AV.ids, idsL] using hk, fun k ob hk => ?_⟩ (fun B hI0 hro => ?_)
 ·simp only [lk] at hk
  split at hk
  ·rename_i e
   cases hk
   exact ⟨by simp [← e], fun q hq => by rw [show idsLL ((termL vs x P).map fun x => [AV.v (.int .i64 x)]) = [] from ids_ints _] at hq; cases hq⟩
  ·cases hk
 rw [Tryd.ntmps45]
 simp only [enumA]
 refine amStr (h := ?_)
 refine amReg PT158_ok (h := ?_)
 refine amStr (h := ?_)
 refine amReg PT158_ok (h := ?_)
 refine amStr (h := ?_)
 refine amReg PT158_ok (h := ?_)
 refine amStr (h := ?_)
 refine s_nil 7 50 3 1 (by simp [lk]) (by simp) ?_
 simp only [st]
 refine s_loop (J := fun i : {k : Nat // k ≤ vs.length} => ⟨45, [(1, .v (.int .i64 (x : Int))), (2, .v (.int .i64 (P : Int))), (7, .ref 50 0 (termL (vs.take i.1) x P).length), (13, aInts vs), (14, .v (.int .i64 (vs.length : Int))), (15, .v (.int .i64 (i.1 : Int)))], [(50, ⟨3, 1, (termL (vs.take i.1) x P).map fun x => [.v (.int .i64 x)]⟩)], [50]⟩) (μ := fun i => vs.length - i.1) ⟨0, Nat.zero_le _⟩ ?_ (fun ⟨k, hk⟩ => ?_)
 ·have h0 : termL [] x P = [] := rfl
  (refine weak_id rfl ?_ ?_ <;> ((try simp only [List.mem_cons, List.not_mem_nil, or_false, forall_eq_or_imp, forall_eq]); (try simp (disch := omega) [i64w, *])))
 refine amStr (h := ?_)
 refine amReg PT158_ok (h := ?_)
 refine amStr (h := ?_)
 (focus ((with_reducible refine sp_cond (b := ?_) ?_ (fun hc => ?_) (fun hc => ?_)); rotate_left; (focus (first | rfl | (simp [lk, AS.ev]; rfl))); all_goals (try simp at hc)))
 ·have hkk := hc
  clear hc
  have hv := okV_at h hkk
  have ho : okI (vs.getD k 0) = true := okI_iff.2 ⟨by omega, by omega⟩
  have hs := termL_take x P hkk
  have hlen := termL_len (vs.take k) x P
  rw [List.length_take, Nat.min_eq_left hk] at hlen
  have hwk : IntKind.u64.wrap (k : Int) = (k : Int) := u64w (by omega) (by omega)
  have hk0 : ¬ ((k : Int) < 0) := by omega
  have hmin : min k IntKind.i64.bits = k := by rw [bits_i64]; omega
  have f1 := fdiv_pow P k
  have f2 := fdiv_pow x k
  simp only [bit_div, decide_eq_true_eq] at hs
  have q1 : P / 2 ^ k ≤ P := Nat.div_le_self _ _
  have q2 : x / 2 ^ k ≤ x := Nat.div_le_self _ _
  obtain ⟨Q, hQ⟩ : ∃ Q, P / 2 ^ k = Q := ⟨_, rfl⟩
  obtain ⟨Y, hY⟩ : ∃ Y, x / 2 ^ k = Y := ⟨_, rfl⟩
  rw [hQ] at f1 hs q1
  rw [hY] at f2 hs q2
  have g1 := bit_and Q (by omega)
  have g2 := bit_and Y (by omega)
  obtain ⟨T, hT⟩ : ∃ T, termL (vs.take k) x P = T := ⟨_, rfl⟩
  rw [hT] at hs hlen
  rw [hT]
  clear hQ hY hT
  have hcap : (T.length + 1) * 8 ≤ 140737488355328 := by omega
  have hwn : IntKind.i64.wrap (-vs.getD k 0) = -vs.getD k 0 := i64w (by omega) (by omega)
  rcases (by omega : Q % 2 = 0 ∨ Q % 2 = 1) with hq | hq
  ·rw [if_neg (by omega)] at hs
   refine amGo PT158_ok (h := ?_)
   refine k_lp (⟨k + 1, by omega⟩ : {k : Nat // k ≤ vs.length}) (by first | omega | (dsimp only; omega)) ?_
   (refine weak_id rfl ?_ ?_ <;> ((try simp only [List.mem_cons, List.not_mem_nil, or_false, forall_eq_or_imp, forall_eq]); (try simp (disch := omega) [i64w, *])))
  ·rw [if_pos hq] at hs
   rcases (by omega : Y % 2 = 0 ∨ Y % 2 = 1) with hy | hy
   ·rw [if_neg (by omega)] at hs
    refine amGo PT158_ok (h := ?_)
    refine k_lp (⟨k + 1, by omega⟩ : {k : Nat // k ≤ vs.length}) (by first | omega | (dsimp only; omega)) ?_
    (refine weak_of (fun q => if q = 50 then 55 else q) ⟨rfl, ?_, ?_, ?_⟩ <;> ((try simp only [List.mem_cons, List.not_mem_nil, or_false, forall_eq_or_imp, forall_eq]); (try simp (disch := omega) [lk, AV.ids, idsL, idsLL, AV.ren, renL, renLL, i64w, *])))
   ·rw [if_pos hy] at hs
    refine amGo PT158_ok (h := ?_)
    refine k_lp (⟨k + 1, by omega⟩ : {k : Nat // k ≤ vs.length}) (by first | omega | (dsimp only; omega)) ?_
    (refine weak_of (fun q => if q = 50 then 54 else q) ⟨rfl, ?_, ?_, ?_⟩ <;> ((try simp only [List.mem_cons, List.not_mem_nil, or_false, forall_eq_or_imp, forall_eq]); (try simp (disch := omega) [lk, AV.ids, idsL, idsLL, AV.ren, renL, renLL, i64w, *])))
 ·obtain rfl : k = vs.length := by omega
  have e : vs.take vs.length = vs := List.take_length
  rw [e]
  refine amGo PT158_ok (h := ?_)
  refine post_obj (av := .ref 50 0 (termL vs x P).length) (.inr rfl) (by rw [Tryd.results45]) ?_ (fun _ => 50) rfl (fun k ob hk => ?_) (fun k ob k' ob' hk hk' _ => ?_)
  ·simp [retA, retL, ret1, lk]
  ·simp only [lk] at hk
   split at hk
   ·cases hk
    simp [lk]
   ·cases hk
  ·simp only [lk] at hk hk'
   split at hk
   ·split at hk'
    ·omega
    ·cases hk'
   ·cases hk
theorem negB_p (x : Int) (h : okI x = true) : FnPure Tryd.prog 65 [.v (.int .i64 x)] (.v (.bool (decide (x < 0)))) := by
 refine fn_sp TT_ok Tryd.func65 (c := _) rfl (by simp [Tryd.ntmps65]) (fun B hI0 hro => ?_)
 rw [Tryd.ntmps65]
 simp only [enumA]
 refine amGo PT158_ok (h := ?_)
 (refine amRt Tryd.results65 (h := ?_); try simp [*])
@[simp] def g_negB : List AV → Option (AV × Bool)
 | [.v (.int .i64 x)] => if (okI x) = true then some (.v (.bool (decide (x < 0))), false) else none
 | _ => none
theorem e_negB : EntOk Tryd.prog 65 g_negB := ent_pure (by kernel_rfl) fun args r fr h => by
 unfold g_negB at h
 split at h
 ·rename_i x
  split at h
  ·rename_i hc
   have o0 := hc
   cases h
   exact ⟨FnPure.cov (negB_p x o0) (.cons (Cov.refl _) .nil), rfl⟩
  ·cases h
 ·cases h

def l159 : List (FuncId × (List AV → Option (AV × Bool))) :=
 (65, g_negB) :: l158
theorem l159_ok : ∀ p ∈ l159, EntOk Tryd.prog p.1 p.2 := ent_cons e_negB (l158_ok)
def PT159 : PTab := tab l159
theorem PT159_ok : PTok Tryd.prog PT159 := tab_ok l159_ok
@[simp] theorem PT159_negB : PT159 65 = g_negB := rfl
@[simp] theorem PT159_old (f : FuncId) (h : decide (f ≠ 65) = true) : PT159 f = PT158 f := tab_old (of_decide_eq_true h)
end Go.Proofs.YtecdhmiamlgibaaDoor
