/- bits.Reverse64; no condition. -/
import Derived.Test.YtecdhmiamlgibaaDoorSa39
import Derived.Test.YtecdhmiamlgibaaDoorWa
namespace Go.Proofs.YtecdhmiamlgibaaDoor
set_option linter.unusedVariables false
set_option linter.unusedSimpArgs false
set_option linter.unusedSectionVars false
open Go.RowKit
attribute [local simp] List.getD_cons_zero List.getD_cons_succ List.getD_nil undef gvars runL runE effA stepA dstOk wantA core lk st dl AS.ev AS.evs AS.put AS.upd updO updI nxt cPick cAlloc cBox cBuild cBuildS cLoad cStore cNil plainOf cBin cNilS isNilS nilA cUn cConvX cConvB cConv bytesOf rowB cMake cSlice slA idxA cFA cF cIA cIX cIS cI cExt cLen cApp cMM cFun cCall lenA lenM isNilM nilM cNilM cMakeM hintB cMapK cLook foundR lookR cUpd putM cDel delM findA isKeyB Instr.sameNow AS.entry AS.bound AS.callee sc1 sc2 ixOk ldA AV.flat AV.cell AV.cells Value.oneCell' fillA spl chunk zeros AS.parts AS.rows AS.shut AS.shut1 AS.shut2 AS.shutL AS.shutM AV.ids idsL idsLL eqAll bndA AV.scalar AV.scalar1 AV.isV Ef.app Ef.pk ptOf pntO wrO wr
attribute [-simp] List.getD_eq_getElem?_getD
set_option maxRecDepth 100000
theorem bits_u64' : IntKind.u64.bits = 64 := rfl
theorem wrap_u {z : Int} {y : BitVec 64} (h : z % 18446744073709551616 = (y.toNat : Int)) : IntKind.u64.wrap z = (y.toNat : Int) := by rw [IntKind.wrap_u64]; exact h
def uAnd (y : BitVec 64) (m : Nat) : BitVec 64 := y &&& BitVec.ofNat 64 m
def uShr (y : BitVec 64) (k : Nat) : BitVec 64 := y >>> k
def uShl (y : BitVec 64) (k : Nat) : BitVec 64 := y <<< k
theorem and64 (y : BitVec 64) (m : Nat) : IntKind.u64.wrap ((y.toNat % 2 ^ IntKind.u64.bits &&& m % 2 ^ IntKind.u64.bits : Nat) : Int) = ((uAnd y m).toNat : Int) := by
  apply wrap_u
  unfold uAnd
  rw [bits_u64', BitVec.toNat_and, BitVec.toNat_ofNat, Nat.mod_eq_of_lt y.isLt]
  have : y.toNat &&& m % 2 ^ 64 ≤ y.toNat := Nat.and_le_left
  have := y.isLt
  omega
theorem shr64 (y : BitVec 64) (k : Nat) : ((y.toNat : Int)).fdiv (2 ^ min k IntKind.u64.bits) = ((uShr y k).toNat : Int) := by
  unfold uShr
  rw [Int.fdiv_eq_ediv_of_nonneg _ (by exact Int.le_of_lt (Int.pow_pos (by decide))), BitVec.toNat_ushiftRight, Nat.shiftRight_eq_div_pow, bits_u64']
  have e : ((2 : Int) ^ min k 64) = ((2 ^ min k 64 : Nat) : Int) := by simp
  rw [e, ← Int.natCast_ediv]
  by_cases h : k ≤ 64
  · rw [Nat.min_eq_left h]
  · have h1 : 2 ^ 64 ≤ 2 ^ k := Nat.pow_le_pow_right (by omega) (by omega)
    rw [Nat.min_eq_right (by omega), Nat.div_eq_of_lt y.isLt, Nat.div_eq_of_lt (by have := y.isLt; omega)]
theorem shl64 (y : BitVec 64) (k : Nat) : IntKind.u64.wrap ((y.toNat : Int) * 2 ^ min k IntKind.u64.bits) = ((uShl y k).toNat : Int) := by
  apply wrap_u
  unfold uShl
  rw [BitVec.toNat_shiftLeft, Nat.shiftLeft_eq, bits_u64']
  have e : ((2 : Int) ^ min k 64) = ((2 ^ min k 64 : Nat) : Int) := by simp
  rw [e, ← Int.natCast_mul]
  by_cases h : k ≤ 64
  · rw [Nat.min_eq_left h]; omega
  · have h1 : 2 ^ k = 2 ^ 64 * 2 ^ (k - 64) := by rw [← Nat.pow_add]; congr 1; omega
    rw [Nat.min_eq_right (by omega), h1, ← Nat.mul_assoc, Nat.mul_right_comm, Nat.mul_mod_left]
    omega
def swapW (s m : Nat) (x : BitVec 64) : BitVec 64 := wOr (uAnd (uShr x s) m) (uShl (uAnd x m) s)
theorem swapW_bit {k m : Nat} {x : BitVec 64} (hk : k < 6) (hm : ∀ j, j < 64 → m.testBit j = !(j.testBit k)) {j : Nat} (hj : j < 64) : (swapW (2 ^ k) m x).getLsbD j = x.getLsbD (j ^^^ 2 ^ k) := by
  have hx : j ^^^ 2 ^ k < 2 ^ 6 := Nat.xor_lt_two_pow hj (Nat.pow_lt_pow_right (by omega) hk)
  unfold swapW wOr uAnd uShr uShl
  rw [BitVec.getLsbD_or, BitVec.getLsbD_and, BitVec.getLsbD_ushiftRight, BitVec.getLsbD_shiftLeft, BitVec.getLsbD_and, BitVec.getLsbD_ofNat, BitVec.getLsbD_ofNat, decide_eq_true hj, Bool.true_and, hm j hj]
  cases hb : j.testBit k with
  | false =>
    have e : j ^^^ 2 ^ k = 2 ^ k + j := by
      have h1 : (j ^^^ 2 ^ k) ^^^ 2 ^ k = j := by rw [Nat.xor_assoc, Nat.xor_self, Nat.xor_zero]
      have : ∀ k, k < 6 → ∀ j, j < 64 → j.testBit k = false → j ^^^ 2 ^ k = 2 ^ k + j := by decide +kernel
      exact this k hk j hj hb
    rw [e]
    by_cases hlt : j < 2 ^ k
    · simp [hlt]
    · have h2 : (j - 2 ^ k).testBit k = true := by
        have : ∀ k, k < 6 → ∀ j, j < 64 → j.testBit k = false → 2 ^ k ≤ j → (j - 2 ^ k).testBit k = true := by decide +kernel
        exact this k hk j hj hb (by omega)
      have h3 := hm (j - 2 ^ k) (by have := hj; exact Nat.lt_of_le_of_lt (Nat.sub_le _ _) hj)
      rw [h3, h2]
      simp
  | true =>
    have e : j ^^^ 2 ^ k = j - 2 ^ k := by
      have : ∀ k, k < 6 → ∀ j, j < 64 → j.testBit k = true → j ^^^ 2 ^ k = j - 2 ^ k := by decide +kernel
      exact this k hk j hj hb
    have hge : 2 ^ k ≤ j := by
      have : ∀ k, k < 6 → ∀ j, j < 64 → j.testBit k = true → 2 ^ k ≤ j := by decide +kernel
      exact this k hk j hj hb
    have hlt : j - 2 ^ k < 64 := Nat.lt_of_le_of_lt (Nat.sub_le _ _) hj
    have h2 : (j - 2 ^ k).testBit k = false := by
      have : ∀ k, k < 6 → ∀ j, j < 64 → j.testBit k = true → (j - 2 ^ k).testBit k = false := by decide +kernel
      exact this k hk j hj hb
    rw [e, hm (j - 2 ^ k) hlt, h2]
    simp [Nat.not_lt.2 hge, hlt]
def revB (x : BitVec 64) : BitVec 64 := wOr (uShr (swapW 16 281470681808895 (swapW 8 71777214294589695 x)) 32) (uShl (swapW 16 281470681808895 (swapW 8 71777214294589695 x)) 32)
def revW (x : BitVec 64) : BitVec 64 := revB (swapW 4 1085102592571150095 (swapW 2 3689348814741910323 (swapW 1 6148914691236517205 x)))
theorem revW_bit (x : BitVec 64) {j : Nat} (hj : j < 64) : (revW x).getLsbD j = x.getLsbD (63 - j) := by
  have hlast : ∀ y : BitVec 64, (y >>> 32 ||| y <<< 32).getLsbD j = y.getLsbD (j ^^^ 32) := fun y => by
    rw [BitVec.getLsbD_or, BitVec.getLsbD_ushiftRight, BitVec.getLsbD_shiftLeft, decide_eq_true hj, Bool.true_and]
    have e1 : ∀ j, j < 32 → j ^^^ 32 = 32 + j := by decide +kernel
    have e2 : ∀ j, j < 64 → 32 ≤ j → j ^^^ 32 = j - 32 := by decide +kernel
    by_cases h : j < 32
    · rw [e1 j h, decide_eq_true h]; simp
    · rw [e2 j hj (by omega), decide_eq_false h, BitVec.getLsbD_of_ge _ _ (by omega : 64 ≤ 32 + j)]; simp
  unfold revW revB
  rw [show ∀ y, wOr (uShr y 32) (uShl y 32) = (y >>> 32 ||| y <<< 32) from fun _ => rfl, hlast]
  have hx : ∀ j k, j < 64 → k < 6 → j ^^^ 2 ^ k < 64 := fun j k hj hk => Nat.xor_lt_two_pow (n := 6) hj (Nat.pow_lt_pow_right (by omega) hk)
  have h5 := hx j 5 hj (by omega)
  have h4 := hx _ 4 h5 (by omega)
  have h3 := hx _ 3 h4 (by omega)
  have h2 := hx _ 2 h3 (by omega)
  have h1 := hx _ 1 h2 (by omega)
  rw [show (32 : Nat) = 2 ^ 5 from rfl, swapW_bit (k := 4) (by omega) (by decide +kernel) h5, swapW_bit (k := 3) (by omega) (by decide +kernel) h4, swapW_bit (k := 2) (by omega) (by decide +kernel) h3, swapW_bit (k := 1) (by omega) (by decide +kernel) h2, swapW_bit (k := 0) (by omega) (by decide +kernel) h1]
  congr 1
  have : ∀ j, j < 64 → ((((((j ^^^ 2 ^ 5) ^^^ 2 ^ 4) ^^^ 2 ^ 3) ^^^ 2 ^ 2) ^^^ 2 ^ 1) ^^^ 2 ^ 0) = 63 - j := by decide +kernel
  exact this j hj
attribute [local simp] and64 shr64 shl64
theorem revB_p (x : BitVec 64) : FnPure Tryd.prog 94 [.v (.int .u64 (x.toNat : Int))] (.v (.int .u64 ((revB x).toNat : Int))) := by
  unfold revB swapW
  refine fn_sp TT_ok Tryd.func94 (c := _) rfl (by simp [Tryd.ntmps94]) (fun B hI0 hro => ?_)
  rw [Tryd.ntmps94]
  simp only [enumA]
  refine amGo PT156_ok (h := ?_)
  ((refine post_ret (av := ?_) (by first | exact .inl rfl | exact .inr rfl) (show (Tryd.f94).results.toList = _ from by rw [Tryd.results94]) ?_ ?_); rotate_left; (focus (simp [retA, retL, ret1, lk, st, ldA, AV.cell]; rfl)); (try simp [*]))
def u64B (z : Int) : Bool := Nat.beq z.toNat z.toNat && (decide (0 ≤ z) && decide (z < 18446744073709551616))
def ofZ (z : Int) : BitVec 64 := BitVec.ofInt 64 z
theorem u64B_iff {z : Int} : u64B z = true ↔ 0 ≤ z ∧ z < 18446744073709551616 := by unfold u64B; rw [Nat.beq_refl, Bool.true_and, Bool.and_eq_true, decide_eq_true_eq, decide_eq_true_eq]
theorem int_bv {z : Int} (h : u64B z = true) : ((ofZ z).toNat : Int) = z := by
  obtain ⟨h1, h2⟩ := u64B_iff.1 h
  unfold ofZ
  rw [BitVec.toNat_ofInt]; omega
theorem bv_int (x : BitVec 64) : ofZ (x.toNat : Int) = x := by unfold ofZ; simp
theorem bv_rng (x : BitVec 64) : u64B (x.toNat : Int) = true := u64B_iff.2 ⟨by omega, by have := x.isLt; omega⟩
def revZ (z : Int) : Int := ((revB (ofZ z)).toNat : Int)
theorem revZ_eq (x : BitVec 64) : revZ (x.toNat : Int) = ((revB x).toNat : Int) := by unfold revZ; rw [bv_int]
@[simp] def g_revB : List AV → Option (AV × Bool)
  | [.v (.int .u64 z)] => if u64B z = true then some (.v (.int .u64 (revZ z)), false) else none
  | _ => none
theorem e_revB : EntOk Tryd.prog 94 g_revB := ent_pure (by kernel_rfl) fun args r fr h => by
  unfold g_revB at h
  split at h
  · split at h
    · rename_i x hc
      cases h
      refine ⟨?_, rfl⟩
      have := revB_p (ofZ x)
      rwa [int_bv hc] at this
    · cases h
  · cases h
def l157 : List (FuncId × (List AV → Option (AV × Bool))) :=
  (94, g_revB) :: l156
theorem l157_ok : ∀ p ∈ l157, EntOk Tryd.prog p.1 p.2 := ent_cons e_revB (l156_ok)
def PT157 : PTab := tab l157
theorem PT157_ok : PTok Tryd.prog PT157 := tab_ok l157_ok
@[simp] theorem PT157_litVar : PT157 85 = g_litVar := rfl
@[simp] theorem PT157_litValid : PT157 110 = g_litValid := rfl
@[simp] theorem PT157_with : PT157 26 = g_with := rfl
@[simp] theorem PT157_without : PT157 25 = g_without := rfl
@[simp] theorem PT157_all : PT157 29 = g_all := rfl
@[simp] theorem PT157_place : PT157 54 = g_place := rfl
@[simp] theorem PT157_vHas : PT157 36 = g_vHas := rfl
@[simp] theorem PT157_vMinus : PT157 31 = g_vMinus := rfl
@[simp] theorem PT157_vCut : PT157 22 = g_vCut := rfl
@[simp] theorem PT157_vUnion : PT157 21 = g_vUnion := rfl
@[simp] theorem PT157_vSub : PT157 72 = g_vSub := rfl
@[simp] theorem PT157_litHolds : PT157 56 = g_litHolds := rfl
@[simp] theorem PT157_nFormed : PT157 84 = g_nFormed := rfl
@[simp] theorem PT157_nCheck : PT157 55 = g_nCheck := rfl
@[simp] theorem PT157_r4Var : PT157 97 = g_r4Var := rfl
@[simp] theorem PT157_r4Valid : PT157 96 = g_r4Valid := rfl
@[simp] theorem PT157_rFormed : PT157 69 = g_rFormed := rfl
@[simp] theorem PT157_rValid20 : PT157 40 = g_rValid20 := rfl
@[simp] theorem PT157_r3Has : PT157 83 = g_r3Has := rfl
@[simp] theorem PT157_r3List : PT157 70 = g_r3List := rfl
@[simp] theorem PT157_r3Len : PT157 41 = g_r3Len := rfl
@[simp] theorem PT157_light39 : PT157 39 = g_light39 := rfl
@[simp] theorem PT157_r20Vars : PT157 71 = g_r20Vars := rfl
@[simp] theorem PT157_r39Mat : PT157 42 = g_r39Mat := rfl
@[simp] theorem PT157_few39 : PT157 12 = g_few39 := rfl
@[simp] theorem PT157_vOf : PT157 23 = g_vOf := rfl
@[simp] theorem PT157_nVars : PT157 91 = g_nVars := rfl
@[simp] theorem PT157_tIndex : PT157 53 = g_tIndex := rfl
@[simp] theorem PT157_tTerm : PT157 45 = g_tTerm := rfl
@[simp] theorem PT157_tChg : PT157 44 = g_tChg := rfl
@[simp] theorem PT157_vList : PT157 92 = g_vList := rfl
@[simp] theorem PT157_tTabled : PT157 62 = g_tTabled := rfl
@[simp] theorem PT157_tOpen : PT157 43 = g_tOpen := rfl
@[simp] theorem PT157_tBiased : PT157 20 = g_tBiased := rfl
@[simp] theorem PT157_works39 : PT157 13 = g_works39 := rfl
@[simp] theorem PT157_tReasons : PT157 14 = g_tReasons := rfl
@[simp] theorem PT157_tNecess : PT157 16 = g_tNecess := rfl
@[simp] theorem PT157_nEval : PT157 27 = g_nEval := rfl
@[simp] theorem PT157_tPositive : PT157 24 = g_tPositive := rfl
@[simp] theorem PT157_tWithin : PT157 28 = g_tWithin := rfl
@[simp] theorem PT157_tHolds : PT157 30 = g_tHolds := rfl
@[simp] theorem PT157_r3Same : PT157 19 = g_r3Same := rfl
@[simp] theorem PT157_revB : PT157 94 = g_revB := rfl
end Go.Proofs.YtecdhmiamlgibaaDoor
