/- The reference's Var, Valid and Formed; no condition. -/
import Derived.Test.YtecdhmiamlgibaaDoorCh39
import Derived.Test.YtecdhmiamlgibaaDoorWa
namespace Go.Proofs.YtecdhmiamlgibaaDoor
set_option linter.unusedVariables false
set_option linter.unusedSimpArgs false
set_option linter.unusedSectionVars false
open Go.RowKit
attribute [local simp] List.getD_cons_zero List.getD_cons_succ List.getD_nil undef gvars runL runE effA stepA dstOk wantA core lk st dl AS.ev AS.evs AS.put AS.upd updO updI nxt cPick cAlloc cBox cBuild cBuildS cLoad cStore cNil plainOf cBin cNilS isNilS nilA cUn cConvX cConvB cConv bytesOf rowB cMake cSlice slA idxA cFA cF cIA cIX cIS cI cExt cLen cApp cMM cFun cCall lenA lenM isNilM nilM cNilM cMakeM hintB cMapK cLook foundR lookR cUpd putM cDel delM findA isKeyB Instr.sameNow AS.entry AS.bound AS.callee sc1 sc2 ixOk ldA AV.flat AV.cell AV.cells Value.oneCell' fillA spl chunk zeros AS.parts AS.rows AS.shut AS.shut1 AS.shut2 AS.shutL AS.shutM AV.ids idsL idsLL eqAll bndA AV.scalar AV.scalar1 AV.isV Ef.app Ef.pk ptOf pntO wrO wr
attribute [-simp] List.getD_eq_getElem?_getD
set_option maxRecDepth 100000
theorem rVar_p (l : Int) (h : okI l = true) : FnPure Tryd.prog 97 [.v (.int .i64 l)] (.v (.int .i64 (litVar l))) := by
  have hI := okI_iff.1 h
  by_cases h1 : 1 ≤ l
  · by_cases h2 : l ≤ 128
    · rw [litVar_pos h1 h2]
      refine fn_sp TT_ok Tryd.func97 (c := _) rfl (by simp [Tryd.ntmps97]) (fun B hI0 hro => ?_)
      rw [Tryd.ntmps97]
      simp only [enumA]
      refine amGo PT131_ok (h := ?_)
      ((refine post_ret (av := ?_) (by first | exact .inl rfl | exact .inr rfl) (show (Tryd.f97).results.toList = _ from by rw [Tryd.results97]) ?_ ?_); rotate_left; (focus (simp [retA, retL, ret1, lk, st, ldA, AV.cell]; rfl)); (try simp [*]))
    · rw [litVar_no (by omega)]
      have h3 : ¬ l ≤ -1 := by omega
      have h4 : -128 ≤ l := by omega
      refine fn_sp TT_ok Tryd.func97 (c := _) rfl (by simp [Tryd.ntmps97]) (fun B hI0 hro => ?_)
      rw [Tryd.ntmps97]
      simp only [enumA]
      refine amGo PT131_ok (h := ?_)
      ((refine post_ret (av := ?_) (by first | exact .inl rfl | exact .inr rfl) (show (Tryd.f97).results.toList = _ from by rw [Tryd.results97]) ?_ ?_); rotate_left; (focus (simp [retA, retL, ret1, lk, st, ldA, AV.cell]; rfl)); (try simp [*]))
  · by_cases h2 : -128 ≤ l
    · by_cases h3 : l ≤ -1
      · rw [litVar_neg h2 h3]
        have hw : IntKind.i64.wrap (-l) = -l := i64w (by omega) (by omega)
        refine fn_sp TT_ok Tryd.func97 (c := _) rfl (by simp [Tryd.ntmps97]) (fun B hI0 hro => ?_)
        rw [Tryd.ntmps97]
        simp only [enumA]
        refine amGo PT131_ok (h := ?_)
        ((refine post_ret (av := ?_) (by first | exact .inl rfl | exact .inr rfl) (show (Tryd.f97).results.toList = _ from by rw [Tryd.results97]) ?_ ?_); rotate_left; (focus (simp [retA, retL, ret1, lk, st, ldA, AV.cell]; rfl)); (try simp [*]))
      · rw [litVar_no (by omega)]
        refine fn_sp TT_ok Tryd.func97 (c := _) rfl (by simp [Tryd.ntmps97]) (fun B hI0 hro => ?_)
        rw [Tryd.ntmps97]
        simp only [enumA]
        refine amGo PT131_ok (h := ?_)
        ((refine post_ret (av := ?_) (by first | exact .inl rfl | exact .inr rfl) (show (Tryd.f97).results.toList = _ from by rw [Tryd.results97]) ?_ ?_); rotate_left; (focus (simp [retA, retL, ret1, lk, st, ldA, AV.cell]; rfl)); (try simp [*]))
    · rw [litVar_no (by omega)]
      refine fn_sp TT_ok Tryd.func97 (c := _) rfl (by simp [Tryd.ntmps97]) (fun B hI0 hro => ?_)
      rw [Tryd.ntmps97]
      simp only [enumA]
      refine amGo PT131_ok (h := ?_)
      ((refine post_ret (av := ?_) (by first | exact .inl rfl | exact .inr rfl) (show (Tryd.f97).results.toList = _ from by rw [Tryd.results97]) ?_ ?_); rotate_left; (focus (simp [retA, retL, ret1, lk, st, ldA, AV.cell]; rfl)); (try simp [*]))
@[simp] def g_r4Var : List AV → Option (AV × Bool)
  | [.v (.int .i64 l)] => if (okI l) = true then some (.v (.int .i64 (litVar l)), false) else none
  | _ => none
theorem e_r4Var : EntOk Tryd.prog 97 g_r4Var := ent_pure (by kernel_rfl) fun args r fr h => by
  unfold g_r4Var at h
  split at h
  · rename_i l
    split at h
    · rename_i hc
      have o0 := hc
      cases h
      exact ⟨FnPure.cov (rVar_p l o0) (.cons (Cov.refl _) .nil), rfl⟩
    · cases h
  · cases h

def l132 : List (FuncId × (List AV → Option (AV × Bool))) :=
  (97, g_r4Var) :: l131
theorem l132_ok : ∀ p ∈ l132, EntOk Tryd.prog p.1 p.2 := ent_cons e_r4Var (l131_ok)
def PT132 : PTab := tab l132
theorem PT132_ok : PTok Tryd.prog PT132 := tab_ok l132_ok
@[simp] theorem PT132_litVar : PT132 85 = g_litVar := rfl
@[simp] theorem PT132_litValid : PT132 110 = g_litValid := rfl
@[simp] theorem PT132_with : PT132 26 = g_with := rfl
@[simp] theorem PT132_without : PT132 25 = g_without := rfl
@[simp] theorem PT132_all : PT132 29 = g_all := rfl
@[simp] theorem PT132_place : PT132 54 = g_place := rfl
@[simp] theorem PT132_vHas : PT132 36 = g_vHas := rfl
@[simp] theorem PT132_vMinus : PT132 31 = g_vMinus := rfl
@[simp] theorem PT132_vCut : PT132 22 = g_vCut := rfl
@[simp] theorem PT132_vUnion : PT132 21 = g_vUnion := rfl
@[simp] theorem PT132_vSub : PT132 72 = g_vSub := rfl
@[simp] theorem PT132_litHolds : PT132 56 = g_litHolds := rfl
@[simp] theorem PT132_nFormed : PT132 84 = g_nFormed := rfl
@[simp] theorem PT132_nCheck : PT132 55 = g_nCheck := rfl
@[simp] theorem PT132_r4Var : PT132 97 = g_r4Var := rfl
end Go.Proofs.YtecdhmiamlgibaaDoor
