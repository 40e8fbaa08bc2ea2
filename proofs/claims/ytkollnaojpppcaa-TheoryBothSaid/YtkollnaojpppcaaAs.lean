/- Contract of censuslaw05.assignment, by the abstract machine; no condition. -/
import Derived.Test.YtkollnaojpppcaaSm
namespace Go.Proofs.Ytkollnaojpppcaa
set_option linter.unusedVariables false
set_option linter.unusedSimpArgs false
set_option linter.unusedSectionVars false
open Go.RowKit
attribute [local simp] List.getD_cons_zero List.getD_cons_succ List.getD_nil undef gvars runL runE effA stepA dstOk wantA core lk st dl AS.ev AS.evs AS.put AS.upd updO updI nxt cPick cAlloc cBox cBuild cBuildS cLoad cStore cNil plainOf cBin cNilS isNilS nilA cUn cConvX cConvB cConv bytesOf rowB cMake cSlice slA idxA cFA cF cIA cIX cIS cI cExt cLen cApp cMM cFun cCall lenA lenM isNilM nilM cNilM cMakeM hintB cMapK cLook foundR lookR cUpd putM cDel delM findA isKeyB Instr.sameNow AS.entry AS.bound AS.callee sc1 sc2 ixOk ldA AV.flat AV.cell AV.cells Value.oneCell' fillA spl chunk zeros AS.parts AS.rows AS.shut AS.shut1 AS.shut2 AS.shutL AS.shutM AV.ids idsL idsLL eqAll bndA AV.scalar AV.scalar1 AV.isV Ef.app Ef.pk ptOf pntO wrO wr
attribute [-simp] List.getD_eq_getElem?_getD
set_option maxRecDepth 100000
theorem asg_num (k n : Int) (h0 : 0 ≤ k) (h1 : k < 1024) (h2 : 0 ≤ n) (h3 : n ≤ 10) : IntKind.u64.wrap
        ↑((k % 2 ^ IntKind.u64.bits).toNat &&&
            (IntKind.u64.wrap (IntKind.u64.wrap (2 ^ min n.toNat IntKind.u64.bits) - 1) % 2 ^ IntKind.u64.bits).toNat) = k % 2 ^ n.toNat := by
  obtain ⟨k, rfl⟩ := Int.eq_ofNat_of_zero_le h0
  obtain ⟨n, rfl⟩ := Int.eq_ofNat_of_zero_le h2
  have hn : n ≤ 10 := by omega
  have e1 : IntKind.u64.bits = 64 := rfl
  have e2 : ((k : Int) % 2 ^ 64).toNat = k := by omega
  have e3 : min (n : Int).toNat 64 = n := by simp; omega
  have e4 : (2 : Int) ^ n ≤ 1024 := by
    have : (2 : Nat) ^ n ≤ 2 ^ 10 := Nat.pow_le_pow_right (by omega) hn
    exact_mod_cast this
  have e5 : 0 < (2 : Int) ^ n := by
    have : 0 < (2 : Nat) ^ n := Nat.two_pow_pos n
    exact_mod_cast this
  rw [e1, e2, e3, u64w (x := (2 : Int) ^ n) (by omega) (by omega), u64w (x := (2 : Int) ^ n - 1) (by omega) (by omega)]
  have e6 : (((2 : Int) ^ n - 1) % 2 ^ 64).toNat = 2 ^ n - 1 := by
    rw [Int.emod_eq_of_lt (by omega) (by omega)]
    have : ((2 : Nat) ^ n : Int) = (2 : Int) ^ n := by norm_cast
    omega
  rw [e6, Nat.and_two_pow_sub_one_eq_mod]
  have e7 : k % 2 ^ n ≤ k := Nat.mod_le _ _
  rw [u64w (by omega) (by omega)]
  simp
theorem asg_set (x : Int) (h0 : 0 ≤ x) (h1 : x < 1024) : x = ↑(lo (BitVec.ofInt 128 x)).toNat ∧ 0 = (↑(hi (BitVec.ofInt 128 x)).toNat : Int) := by
  obtain ⟨x, rfl⟩ := Int.eq_ofNat_of_zero_le h0
  have e : (BitVec.ofInt 128 (x : Int)).toNat = x := by rw [BitVec.toNat_ofInt]; omega
  unfold lo hi
  rw [BitVec.extractLsb'_toNat, BitVec.extractLsb'_toNat, e]
  rw [Nat.shiftRight_eq_div_pow, Nat.shiftRight_eq_div_pow]
  omega
theorem asg_p (k n : Int) (h0 : 0 ≤ k) (h1 : k < 1024) (h2 : 0 ≤ n) (h3 : n ≤ 10) : FnPure Try.prog 30 [.v (.int .i64 k), .v (.int .i64 n)] (aSet (BitVec.ofInt 128 (k % 2 ^ n.toNat))) := by
  have hku : IntKind.u64.wrap k = k := u64w (by omega) (by omega)
  have hnu : IntKind.u64.wrap n = n := u64w (by omega) (by omega)
  have hn0 : ¬ n < 0 := by omega
  unfold aSet
  refine fn_sp TT_ok Try.func30 (c := _) rfl (by simp [Try.ntmps30]) (fun B hI0 hro => ?_)
  rw [Try.ntmps30]
  simp only [enumA]
  repeat (first | with_reducible first | refine s_seq ?_ | refine k_seq ?_ | refine k_seq_ret ?_ | refine k_seq_exit ?_ | refine k_blk ?_ | refine k_blk_ret ?_ | refine k_blk_exit ?_ | refine k_lp_ret ?_ | refine k_lp_exit ?_ | refine ki_lp_ret ?_ | refine ki_lp_exit ?_ | refine s_block ?_ | refine sp_skip ?_ | refine sp_ret ?_ | refine sp_exit ?_ | ((with_reducible refine k_blk_out ?_ ?_); (focus decide)) | ((with_reducible refine s_cond_t ?_ ?_); (focus (simp [*]; done))) | ((with_reducible refine s_cond_f ?_ ?_); (focus (simp [*]; done))) | (focus ((with_reducible refine s_region2 (q := ?_) (σ' := ?_) TT_ok PT18_ok ?_ ?_ ?_); rotate_left 2; (focus (first | (simp; exact Eq.refl _) | exact Eq.refl _)); (focus ((repeat (((with_reducible refine runL_cons (σ1 := ?_) ?_ ?_); rotate_left; (focus (simp [*]; rfl))))); (exact runL_nil))))) | (focus ((with_reducible refine s_draw2 (q := ?_) (es := ?_) (σ' := ?_) prog_mixed TT_ok PT18_ok ?_ ?_ ?_ ?_); rotate_left 3; (focus (first | (simp; exact Eq.refl _) | exact Eq.refl _)); (focus ((repeat (((with_reducible refine runE_cons (e := ?_) (σ1 := ?_) (es := ?_) ?_ ?_ ?_); rotate_left 3; (focus (simp [*]; exact Eq.refl _)); (focus (simp; exact Eq.refl _))))); (exact runE_nil))); (focus (first | kernel_rfl | decide)))))
  ((refine post_ret (av := ?_) (by first | exact .inl rfl | exact .inr rfl) (show (Try.f30).results.toList = _ from by rw [Try.results30]) ?_ ?_); rotate_left; (focus (simp [retA, retL, ret1, lk, st, ldA, AV.cell]; rfl)); (try simp [*]))
  rw [asg_num k n h0 h1 h2 h3]
  have hp : 0 < (2 : Int) ^ n.toNat := by
    have : 0 < (2 : Nat) ^ n.toNat := Nat.two_pow_pos _
    exact_mod_cast this
  have := Int.emod_nonneg k (by omega : (2 : Int) ^ n.toNat ≠ 0)
  have : k % 2 ^ n.toNat ≤ k := by
    obtain ⟨k, rfl⟩ := Int.eq_ofNat_of_zero_le h0
    have : k % 2 ^ n.toNat ≤ k := Nat.mod_le _ _
    exact_mod_cast this
  exact asg_set _ (by omega) (by omega)
/-- The set with the number k, below 2 ^ n. -/
def asg (k n : Int) : BitVec 128 := BitVec.ofInt 128 (k % 2 ^ n.toNat)
def asgOk (k n : Int) : Bool := decide (0 ≤ k) && (decide (k < 1024) && (decide (0 ≤ n) && decide (n ≤ 10)))
theorem asgOk_iff {k n : Int} : asgOk k n = true ↔ 0 ≤ k ∧ k < 1024 ∧ 0 ≤ n ∧ n ≤ 10 := by simp [asgOk]
@[simp] def g_asg : List AV → Option (AV × Bool)
  | [.v (.int .i64 k), .v (.int .i64 n)] => if (okI k && okI n && asgOk k n) = true then some (aSet (asg k n), false) else none
  | _ => none
theorem e_asg : EntOk Try.prog 30 g_asg := ent_pure (by kernel_rfl) fun args r fr h => by
  unfold g_asg at h
  split at h
  · rename_i k n
    split at h
    · rename_i hc
      simp only [Bool.and_eq_true] at hc
      obtain ⟨⟨o0, o1⟩, hk⟩ := hc
      cases h
      exact ⟨FnPure.cov (asg_p k n (asgOk_iff.1 hk).1 (asgOk_iff.1 hk).2.1 (asgOk_iff.1 hk).2.2.1 (asgOk_iff.1 hk).2.2.2) (.cons (Cov.refl _) (.cons (Cov.refl _) .nil)), rfl⟩
    · cases h
  · cases h

def l19 : List (FuncId × (List AV → Option (AV × Bool))) :=
  (29, g_same) :: (30, g_asg) :: l18
theorem l19_ok : ∀ p ∈ l19, EntOk Try.prog p.1 p.2 := ent_cons e_same (ent_cons e_asg (l18_ok))
def PT19 : PTab := tab l19
theorem PT19_ok : PTok Try.prog PT19 := tab_ok l19_ok
@[simp] theorem PT19_litVar : PT19 41 = g_litVar := rfl
@[simp] theorem PT19_litValid : PT19 36 = g_litValid := rfl
@[simp] theorem PT19_check : PT19 17 = g_check := rfl
@[simp] theorem PT19_with : PT19 56 = g_with := rfl
@[simp] theorem PT19_all : PT19 48 = g_all := rfl
@[simp] theorem PT19_rValid : PT19 37 = g_rValid := rfl
@[simp] theorem PT19_rHas : PT19 60 = g_rHas := rfl
@[simp] theorem PT19_rHolds : PT19 51 = g_rHolds := rfl
@[simp] theorem PT19_rAssign : PT19 50 = g_rAssign := rfl
@[simp] theorem PT19_rCheck : PT19 18 = g_rCheck := rfl
@[simp] theorem PT19_rEval : PT19 25 = g_rEval := rfl
@[simp] theorem PT19_litvalid : PT19 61 = g_litvalid := rfl
@[simp] theorem PT19_opposite : PT19 63 = g_opposite := rfl
@[simp] theorem PT19_clone : PT19 58 = g_clone := rfl
@[simp] theorem PT19_order : PT19 62 = g_order := rfl
@[simp] theorem PT19_term : PT19 52 = g_term := rfl
@[simp] theorem PT19_clause : PT19 38 = g_clause := rfl
@[simp] theorem PT19_equal : PT19 43 = g_equal := rfl
@[simp] theorem PT19_distinct : PT19 42 = g_distinct := rfl
@[simp] theorem PT19_normal : PT19 20 = g_normal := rfl
@[simp] theorem PT19_rContains : PT19 55 = g_rContains := rfl
@[simp] theorem PT19_rSameInts : PT19 46 = g_rSameInts := rfl
@[simp] theorem PT19_rAbs : PT19 59 = g_rAbs := rfl
@[simp] theorem PT19_rBefore : PT19 66 = g_rBefore := rfl
@[simp] theorem PT19_rSorted : PT19 44 = g_rSorted := rfl
@[simp] theorem PT19_rPut : PT19 45 = g_rPut := rfl
@[simp] theorem PT19_rNormal : PT19 21 = g_rNormal := rfl
@[simp] theorem PT19_place : PT19 73 = g_place := rfl
@[simp] theorem PT19_vHas : PT19 91 = g_vHas := rfl
@[simp] theorem PT19_vMinus : PT19 67 = g_vMinus := rfl
@[simp] theorem PT19_vSub : PT19 47 = g_vSub := rfl
@[simp] theorem PT19_litHolds : PT19 70 = g_litHolds := rfl
@[simp] theorem PT19_litAny : PT19 49 = g_litAny := rfl
@[simp] theorem PT19_thEval : PT19 24 = g_thEval := rfl
@[simp] theorem PT19_rSame : PT19 22 = g_rSame := rfl
@[simp] theorem PT19_rTerm : PT19 54 = g_rTerm := rfl
@[simp] theorem PT19_thVars : PT19 31 = g_thVars := rfl
@[simp] theorem PT19_rVars : PT19 34 = g_rVars := rfl
@[simp] theorem PT19_given : PT19 26 = g_given := rfl
@[simp] theorem PT19_light : PT19 15 = g_light := rfl
@[simp] theorem PT19_few : PT19 28 = g_few := rfl
@[simp] theorem PT19_same : PT19 29 = g_same := rfl
@[simp] theorem PT19_asg : PT19 30 = g_asg := rfl
end Go.Proofs.Ytkollnaojpppcaa
