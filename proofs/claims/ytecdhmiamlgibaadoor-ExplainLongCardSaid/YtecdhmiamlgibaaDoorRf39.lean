/- bits.Reverse64, whole; no condition. -/
import Derived.Test.YtecdhmiamlgibaaDoorRe39
import Derived.Test.YtecdhmiamlgibaaDoorWa
namespace Go.Proofs.YtecdhmiamlgibaaDoor
set_option linter.unusedVariables false
set_option linter.unusedSimpArgs false
set_option linter.unusedSectionVars false
open Go.RowKit
attribute [local simp] List.getD_cons_zero List.getD_cons_succ List.getD_nil undef gvars runL runE effA stepA dstOk wantA core lk st dl AS.ev AS.evs AS.put AS.upd updO updI nxt cPick cAlloc cBox cBuild cBuildS cLoad cStore cNil plainOf cBin cNilS isNilS nilA cUn cConvX cConvB cConv bytesOf rowB cMake cSlice slA idxA cFA cF cIA cIX cIS cI cExt cLen cApp cMM cFun cCall lenA lenM isNilM nilM cNilM cMakeM hintB cMapK cLook foundR lookR cUpd putM cDel delM findA isKeyB Instr.sameNow AS.entry AS.bound AS.callee sc1 sc2 ixOk ldA AV.flat AV.cell AV.cells Value.oneCell' fillA spl chunk zeros AS.parts AS.rows AS.shut AS.shut1 AS.shut2 AS.shutL AS.shutM AV.ids idsL idsLL eqAll bndA AV.scalar AV.scalar1 AV.isV Ef.app Ef.pk ptOf pntO wrO wr
attribute [-simp] List.getD_eq_getElem?_getD
set_option maxRecDepth 100000
theorem fold_swap (s m : Nat) (x : BitVec 64) : wOr (uAnd (uShr x s) m) (uShl (uAnd x m) s) = swapW s m x := rfl
attribute [local simp] and64 shr64 shl64 fold_swap
@[elab_as_elim] theorem gen_u64 {p : Int → Prop} (n : Int) (hr : u64B n = true) (h : ∀ m, u64B m = true → p m) : p n := h n hr
theorem rev_p (x : BitVec 64) : FnPure Tryd.prog 63 [.v (.int .u64 (x.toNat : Int))] (.v (.int .u64 ((revW x).toNat : Int))) := by
  unfold revW
  obtain ⟨y, hy⟩ : ∃ y, swapW 4 1085102592571150095 (swapW 2 3689348814741910323 (swapW 1 6148914691236517205 x)) = y := ⟨_, rfl⟩
  rw [hy]
  have hr := bv_rng y
  have hb := revZ_eq y
  refine fn_sp TT_ok Tryd.func63 (c := _) rfl (by simp [Tryd.ntmps63]) (fun B hI0 hro => ?_)
  rw [Tryd.ntmps63]
  simp only [enumA]
  refine amStr (h := ?_)
  refine amReg PT157_ok (h := ?_)
  refine amStr (h := ?_)
  refine amReg PT157_ok (h := ?_)
  refine amStr (h := ?_)
  refine amReg PT157_ok (h := ?_)
  refine amStr (h := ?_)
  refine amReg PT157_ok (h := ?_)
  refine amStr (h := ?_)
  refine s_weak (τ := ⟨26, [(0, .v (.int .u64 (y.toNat : Int)))], [], []⟩) ?_ ?_
  · (refine weak_id rfl ?_ ?_ <;> ((try simp only [List.mem_cons, List.not_mem_nil, or_false, forall_eq_or_imp, forall_eq]); (try simp (disch := omega) [i64w, *])))
  rw [← hb]
  clear hy hb
  refine gen_u64 (y.toNat : Int) hr (fun n hr => ?_)
  refine amGo PT157_ok (h := ?_)
  ((refine post_ret (av := ?_) (by first | exact .inl rfl | exact .inr rfl) (show (Tryd.f63).results.toList = _ from by rw [Tryd.results63]) ?_ ?_); rotate_left; (focus (simp [retA, retL, ret1, lk, st, ldA, AV.cell]; rfl)); (try simp [*]))
def revI (z : Int) : Int := ((revW (ofZ z)).toNat : Int)
theorem revI_eq (x : BitVec 64) : revI (x.toNat : Int) = ((revW x).toNat : Int) := by unfold revI; rw [bv_int]
@[simp] def g_rev : List AV → Option (AV × Bool)
  | [.v (.int .u64 z)] => if u64B z = true then some (.v (.int .u64 (revI z)), false) else none
  | _ => none
theorem e_rev : EntOk Tryd.prog 63 g_rev := ent_pure (by kernel_rfl) fun args r fr h => by
  unfold g_rev at h
  split at h
  · split at h
    · rename_i x hc
      cases h
      refine ⟨?_, rfl⟩
      have := rev_p (ofZ x)
      rwa [int_bv hc] at this
    · cases h
  · cases h
def l158 : List (FuncId × (List AV → Option (AV × Bool))) :=
  (63, g_rev) :: l157
theorem l158_ok : ∀ p ∈ l158, EntOk Tryd.prog p.1 p.2 := ent_cons e_rev (l157_ok)
def PT158 : PTab := tab l158
theorem PT158_ok : PTok Tryd.prog PT158 := tab_ok l158_ok
@[simp] theorem PT158_litVar : PT158 85 = g_litVar := rfl
@[simp] theorem PT158_litValid : PT158 110 = g_litValid := rfl
@[simp] theorem PT158_with : PT158 26 = g_with := rfl
@[simp] theorem PT158_without : PT158 25 = g_without := rfl
@[simp] theorem PT158_all : PT158 29 = g_all := rfl
@[simp] theorem PT158_place : PT158 54 = g_place := rfl
@[simp] theorem PT158_vHas : PT158 36 = g_vHas := rfl
@[simp] theorem PT158_vMinus : PT158 31 = g_vMinus := rfl
@[simp] theorem PT158_vCut : PT158 22 = g_vCut := rfl
@[simp] theorem PT158_vUnion : PT158 21 = g_vUnion := rfl
@[simp] theorem PT158_vSub : PT158 72 = g_vSub := rfl
@[simp] theorem PT158_litHolds : PT158 56 = g_litHolds := rfl
@[simp] theorem PT158_nFormed : PT158 84 = g_nFormed := rfl
@[simp] theorem PT158_nCheck : PT158 55 = g_nCheck := rfl
@[simp] theorem PT158_r4Var : PT158 97 = g_r4Var := rfl
@[simp] theorem PT158_r4Valid : PT158 96 = g_r4Valid := rfl
@[simp] theorem PT158_rFormed : PT158 69 = g_rFormed := rfl
@[simp] theorem PT158_rValid20 : PT158 40 = g_rValid20 := rfl
@[simp] theorem PT158_r3Has : PT158 83 = g_r3Has := rfl
@[simp] theorem PT158_r3List : PT158 70 = g_r3List := rfl
@[simp] theorem PT158_r3Len : PT158 41 = g_r3Len := rfl
@[simp] theorem PT158_light39 : PT158 39 = g_light39 := rfl
@[simp] theorem PT158_r20Vars : PT158 71 = g_r20Vars := rfl
@[simp] theorem PT158_r39Mat : PT158 42 = g_r39Mat := rfl
@[simp] theorem PT158_few39 : PT158 12 = g_few39 := rfl
@[simp] theorem PT158_vOf : PT158 23 = g_vOf := rfl
@[simp] theorem PT158_nVars : PT158 91 = g_nVars := rfl
@[simp] theorem PT158_tIndex : PT158 53 = g_tIndex := rfl
@[simp] theorem PT158_tTerm : PT158 45 = g_tTerm := rfl
@[simp] theorem PT158_tChg : PT158 44 = g_tChg := rfl
@[simp] theorem PT158_vList : PT158 92 = g_vList := rfl
@[simp] theorem PT158_tTabled : PT158 62 = g_tTabled := rfl
@[simp] theorem PT158_tOpen : PT158 43 = g_tOpen := rfl
@[simp] theorem PT158_tBiased : PT158 20 = g_tBiased := rfl
@[simp] theorem PT158_works39 : PT158 13 = g_works39 := rfl
@[simp] theorem PT158_tReasons : PT158 14 = g_tReasons := rfl
@[simp] theorem PT158_tNecess : PT158 16 = g_tNecess := rfl
@[simp] theorem PT158_nEval : PT158 27 = g_nEval := rfl
@[simp] theorem PT158_tPositive : PT158 24 = g_tPositive := rfl
@[simp] theorem PT158_tWithin : PT158 28 = g_tWithin := rfl
@[simp] theorem PT158_tHolds : PT158 30 = g_tHolds := rfl
@[simp] theorem PT158_r3Same : PT158 19 = g_r3Same := rfl
@[simp] theorem PT158_revB : PT158 94 = g_revB := rfl
@[simp] theorem PT158_rev : PT158 63 = g_rev := rfl
end Go.Proofs.YtecdhmiamlgibaaDoor
