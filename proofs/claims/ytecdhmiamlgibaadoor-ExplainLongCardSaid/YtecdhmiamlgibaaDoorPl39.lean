/- The parity nets are what the law's function makes; no condition. -/
import Derived.Test.YtecdhmiamlgibaaDoorPn39
import Derived.Test.YtecdhmiamlgibaaDoorWa
import Derived.Test.YtecdhmiamlgibaaDoorBs39
namespace Go.Proofs.YtecdhmiamlgibaaDoor
set_option linter.unusedVariables false
set_option linter.unusedSimpArgs false
set_option linter.unusedSectionVars false
open Go.RowKit
attribute [local simp] List.getD_cons_zero List.getD_cons_succ List.getD_nil undef gvars runL runE effA stepA dstOk wantA core lk st dl AS.ev AS.evs AS.put AS.upd updO updI nxt cPick cAlloc cBox cBuild cBuildS cLoad cStore cNil plainOf cBin cNilS isNilS nilA cUn cConvX cConvB cConv bytesOf rowB cMake cSlice slA idxA cFA cF cIA cIX cIS cI cExt cLen cApp cMM cFun cCall lenA lenM isNilM nilM cNilM cMakeM hintB cMapK cLook foundR lookR cUpd putM cDel delM findA isKeyB Instr.sameNow AS.entry AS.bound AS.callee sc1 sc2 ixOk ldA AV.flat AV.cell AV.cells Value.oneCell' fillA spl chunk zeros AS.parts AS.rows AS.shut AS.shut1 AS.shut2 AS.shutL AS.shutM AV.ids idsL idsLL eqAll bndA AV.scalar AV.scalar1 AV.isV Ef.app Ef.pk ptOf pntO wrO wr
attribute [-simp] List.getD_eq_getElem?_getD
set_option maxRecDepth 100000
theorem lit_p (l : Int) (h : okI l = true) : FnPure Tryd.prog 67 [.v (.int .i64 l)] (.agg [.v (.int .i64 2), .v (.int .i64 l), aInts []]) := by
  refine fn_sp TT_ok Tryd.func67 (c := _) rfl (by simp [Tryd.ntmps67]) (fun B hI0 hro => ?_)
  rw [Tryd.ntmps67]
  simp only [enumA]
  refine amStr (h := ?_)
  refine amReg PT160_ok (h := ?_)
  refine amStr (h := ?_)
  refine amReg PT160_ok (h := ?_)
  refine s_cell 0 0 2 1 rfl rfl ?_
  (refine s_eq (τ := ?_) ?_ ?_; rotate_left; (focus ((try simp only [AS.frz, List.map_cons, List.map_nil]); (try simp [frzV, frzO, frzC, List.filter]); rfl)))
  refine amStr (h := ?_)
  ((refine post_ret (av := ?_) (by first | exact .inl rfl | exact .inr rfl) (show (Tryd.f67).results.toList = _ from by rw [Tryd.results67]) ?_ ?_); rotate_left; (focus (simp [retA, retL, ret1, lk, st, ldA, AV.cell]; rfl)); (try simp [*]))
  rfl
@[simp] def g_lit39 : List AV → Option (AV × Bool)
  | [.v (.int .i64 l)] => if (okI l) = true then some (.agg [.v (.int .i64 2), .v (.int .i64 l), aInts []], false) else none
  | _ => none
theorem e_lit39 : EntOk Tryd.prog 67 g_lit39 := ent_pure (by kernel_rfl) fun args r fr h => by
  unfold g_lit39 at h
  split at h
  · rename_i l
    split at h
    · rename_i hc
      have o0 := hc
      cases h
      exact ⟨FnPure.cov (lit_p l o0) (.cons (Cov.refl _) .nil), rfl⟩
    · cases h
  · cases h

def l161 : List (FuncId × (List AV → Option (AV × Bool))) :=
  (67, g_lit39) :: l160
theorem l161_ok : ∀ p ∈ l161, EntOk Tryd.prog p.1 p.2 := ent_cons e_lit39 (l160_ok)
def PT161 : PTab := tab l161
theorem PT161_ok : PTok Tryd.prog PT161 := tab_ok l161_ok
@[simp] theorem PT161_litVar : PT161 85 = g_litVar := rfl
@[simp] theorem PT161_litValid : PT161 110 = g_litValid := rfl
@[simp] theorem PT161_with : PT161 26 = g_with := rfl
@[simp] theorem PT161_without : PT161 25 = g_without := rfl
@[simp] theorem PT161_all : PT161 29 = g_all := rfl
@[simp] theorem PT161_place : PT161 54 = g_place := rfl
@[simp] theorem PT161_vHas : PT161 36 = g_vHas := rfl
@[simp] theorem PT161_vMinus : PT161 31 = g_vMinus := rfl
@[simp] theorem PT161_vCut : PT161 22 = g_vCut := rfl
@[simp] theorem PT161_vUnion : PT161 21 = g_vUnion := rfl
@[simp] theorem PT161_vSub : PT161 72 = g_vSub := rfl
@[simp] theorem PT161_litHolds : PT161 56 = g_litHolds := rfl
@[simp] theorem PT161_nFormed : PT161 84 = g_nFormed := rfl
@[simp] theorem PT161_nCheck : PT161 55 = g_nCheck := rfl
@[simp] theorem PT161_r4Var : PT161 97 = g_r4Var := rfl
@[simp] theorem PT161_r4Valid : PT161 96 = g_r4Valid := rfl
@[simp] theorem PT161_rFormed : PT161 69 = g_rFormed := rfl
@[simp] theorem PT161_rValid20 : PT161 40 = g_rValid20 := rfl
@[simp] theorem PT161_r3Has : PT161 83 = g_r3Has := rfl
@[simp] theorem PT161_r3List : PT161 70 = g_r3List := rfl
@[simp] theorem PT161_r3Len : PT161 41 = g_r3Len := rfl
@[simp] theorem PT161_light39 : PT161 39 = g_light39 := rfl
@[simp] theorem PT161_r20Vars : PT161 71 = g_r20Vars := rfl
@[simp] theorem PT161_r39Mat : PT161 42 = g_r39Mat := rfl
@[simp] theorem PT161_few39 : PT161 12 = g_few39 := rfl
@[simp] theorem PT161_vOf : PT161 23 = g_vOf := rfl
@[simp] theorem PT161_nVars : PT161 91 = g_nVars := rfl
@[simp] theorem PT161_tIndex : PT161 53 = g_tIndex := rfl
@[simp] theorem PT161_tTerm : PT161 45 = g_tTerm := rfl
@[simp] theorem PT161_tChg : PT161 44 = g_tChg := rfl
@[simp] theorem PT161_vList : PT161 92 = g_vList := rfl
@[simp] theorem PT161_tTabled : PT161 62 = g_tTabled := rfl
@[simp] theorem PT161_tOpen : PT161 43 = g_tOpen := rfl
@[simp] theorem PT161_tBiased : PT161 20 = g_tBiased := rfl
@[simp] theorem PT161_works39 : PT161 13 = g_works39 := rfl
@[simp] theorem PT161_tReasons : PT161 14 = g_tReasons := rfl
@[simp] theorem PT161_tNecess : PT161 16 = g_tNecess := rfl
@[simp] theorem PT161_nEval : PT161 27 = g_nEval := rfl
@[simp] theorem PT161_tPositive : PT161 24 = g_tPositive := rfl
@[simp] theorem PT161_tWithin : PT161 28 = g_tWithin := rfl
@[simp] theorem PT161_tHolds : PT161 30 = g_tHolds := rfl
@[simp] theorem PT161_r3Same : PT161 19 = g_r3Same := rfl
@[simp] theorem PT161_revB : PT161 94 = g_revB := rfl
@[simp] theorem PT161_rev : PT161 63 = g_rev := rfl
@[simp] theorem PT161_negB : PT161 65 = g_negB := rfl
@[simp] theorem PT161_tBias : PT161 33 = g_tBias := rfl
@[simp] theorem PT161_lit39 : PT161 67 = g_lit39 := rfl
end Go.Proofs.YtecdhmiamlgibaaDoor
