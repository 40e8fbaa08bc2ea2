/- The reference's Valid of a literal; no condition. -/
import Derived.Test.YtecdhmiamlgibaaDoorRv39
import Derived.Test.YtecdhmiamlgibaaDoorWa
namespace Go.Proofs.YtecdhmiamlgibaaDoor
set_option linter.unusedVariables false
set_option linter.unusedSimpArgs false
set_option linter.unusedSectionVars false
open Go.RowKit
attribute [local simp] List.getD_cons_zero List.getD_cons_succ List.getD_nil undef gvars runL runE effA stepA dstOk wantA core lk st dl AS.ev AS.evs AS.put AS.upd updO updI nxt cPick cAlloc cBox cBuild cBuildS cLoad cStore cNil plainOf cBin cNilS isNilS nilA cUn cConvX cConvB cConv bytesOf rowB cMake cSlice slA idxA cFA cF cIA cIX cIS cI cExt cLen cApp cMM cFun cCall lenA lenM isNilM nilM cNilM cMakeM hintB cMapK cLook foundR lookR cUpd putM cDel delM findA isKeyB Instr.sameNow AS.entry AS.bound AS.callee sc1 sc2 ixOk ldA AV.flat AV.cell AV.cells Value.oneCell' fillA spl chunk zeros AS.parts AS.rows AS.shut AS.shut1 AS.shut2 AS.shutL AS.shutM AV.ids idsL idsLL eqAll bndA AV.scalar AV.scalar1 AV.isV Ef.app Ef.pk ptOf pntO wrO wr
attribute [-simp] List.getD_eq_getElem?_getD
set_option maxRecDepth 100000
theorem r4Valid_p (l n : Int) (h : okI l = true) (hn : okI n = true) : FnPure Tryd.prog 96 [.v (.int .i64 l), .v (.int .i64 n)] (.v (.bool (litOk l n))) := by
  obtain ⟨v1, v2⟩ := litVar_range l
  unfold litOk
  by_cases h1 : 0 < litVar l
  · rw [decide_eq_true h1, Bool.true_and]
    refine fn_sp TT_ok Tryd.func96 (c := _) rfl (by simp [Tryd.ntmps96]) (fun B hI0 hro => ?_)
    rw [Tryd.ntmps96]
    simp only [enumA]
    refine amGo PT132_ok (h := ?_)
    ((refine post_ret (av := ?_) (by first | exact .inl rfl | exact .inr rfl) (show (Tryd.f96).results.toList = _ from by rw [Tryd.results96]) ?_ ?_); rotate_left; (focus (simp [retA, retL, ret1, lk, st, ldA, AV.cell]; rfl)); (try simp [*]))
  · rw [decide_eq_false h1, Bool.false_and]
    refine fn_sp TT_ok Tryd.func96 (c := _) rfl (by simp [Tryd.ntmps96]) (fun B hI0 hro => ?_)
    rw [Tryd.ntmps96]
    simp only [enumA]
    refine amGo PT132_ok (h := ?_)
    ((refine post_ret (av := ?_) (by first | exact .inl rfl | exact .inr rfl) (show (Tryd.f96).results.toList = _ from by rw [Tryd.results96]) ?_ ?_); rotate_left; (focus (simp [retA, retL, ret1, lk, st, ldA, AV.cell]; rfl)); (try simp [*]))
@[simp] def g_r4Valid : List AV → Option (AV × Bool)
  | [.v (.int .i64 l), .v (.int .i64 n)] => if (okI l && okI n) = true then some (.v (.bool (litOk l n)), false) else none
  | _ => none
theorem e_r4Valid : EntOk Tryd.prog 96 g_r4Valid := ent_pure (by kernel_rfl) fun args r fr h => by
  unfold g_r4Valid at h
  split at h
  · rename_i l n
    split at h
    · rename_i hc
      simp only [Bool.and_eq_true] at hc
      obtain ⟨o0, o1⟩ := hc
      cases h
      exact ⟨FnPure.cov (r4Valid_p l n o0 o1) (.cons (Cov.refl _) (.cons (Cov.refl _) .nil)), rfl⟩
    · cases h
  · cases h

def l133 : List (FuncId × (List AV → Option (AV × Bool))) :=
  (96, g_r4Valid) :: l132
theorem l133_ok : ∀ p ∈ l133, EntOk Tryd.prog p.1 p.2 := ent_cons e_r4Valid (l132_ok)
def PT133 : PTab := tab l133
theorem PT133_ok : PTok Tryd.prog PT133 := tab_ok l133_ok
@[simp] theorem PT133_litVar : PT133 85 = g_litVar := rfl
@[simp] theorem PT133_litValid : PT133 110 = g_litValid := rfl
@[simp] theorem PT133_with : PT133 26 = g_with := rfl
@[simp] theorem PT133_without : PT133 25 = g_without := rfl
@[simp] theorem PT133_all : PT133 29 = g_all := rfl
@[simp] theorem PT133_place : PT133 54 = g_place := rfl
@[simp] theorem PT133_vHas : PT133 36 = g_vHas := rfl
@[simp] theorem PT133_vMinus : PT133 31 = g_vMinus := rfl
@[simp] theorem PT133_vCut : PT133 22 = g_vCut := rfl
@[simp] theorem PT133_vUnion : PT133 21 = g_vUnion := rfl
@[simp] theorem PT133_vSub : PT133 72 = g_vSub := rfl
@[simp] theorem PT133_litHolds : PT133 56 = g_litHolds := rfl
@[simp] theorem PT133_nFormed : PT133 84 = g_nFormed := rfl
@[simp] theorem PT133_nCheck : PT133 55 = g_nCheck := rfl
@[simp] theorem PT133_r4Var : PT133 97 = g_r4Var := rfl
@[simp] theorem PT133_r4Valid : PT133 96 = g_r4Valid := rfl
end Go.Proofs.YtecdhmiamlgibaaDoor
