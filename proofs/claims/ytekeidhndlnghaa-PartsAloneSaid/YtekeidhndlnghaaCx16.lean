/- Where the theory is not valid: rows of any length; no condition. -/
import Derived.Test.YtekeidhndlnghaaCw16
import Derived.Test.YtekeidhndlnghaaWa
import Derived.Test.YtekeidhndlnghaaFw16
import Derived.Test.YtekeidhndlnghaaAe16
import Derived.Test.YtekeidhndlnghaaSh16
namespace Go.Proofs.Ytekeidhndlnghaa
set_option linter.unusedVariables false
set_option linter.unusedSimpArgs false
set_option linter.unusedSectionVars false
open Go.RowKit
attribute [local simp] List.getD_cons_zero List.getD_cons_succ List.getD_nil undef gvars runL runE effA stepA dstOk wantA core lk st dl AS.ev AS.evs AS.put AS.upd updO updI nxt cPick cAlloc cBox cBuild cBuildS cLoad cStore cNil plainOf cBin cNilS isNilS nilA cUn cConvX cConvB cConv bytesOf rowB cMake cSlice slA idxA cFA cF cIA cIX cIS cI cExt cLen cApp cMM cFun cCall lenA lenM isNilM nilM cNilM cMakeM hintB cMapK cLook foundR lookR cUpd putM cDel delM findA isKeyB Instr.sameNow AS.entry AS.bound AS.callee sc1 sc2 ixOk ldA AV.flat AV.cell AV.cells Value.oneCell' fillA spl chunk zeros AS.parts AS.rows AS.shut AS.shut1 AS.shut2 AS.shutL AS.shutM AV.ids idsL idsLL eqAll bndA AV.scalar AV.scalar1 AV.isV Ef.app Ef.pk ptOf pntO wrO wr
attribute [-simp] List.getD_eq_getElem?_getD
set_option maxRecDepth 100000
@[simp] def g_checkW : List AV → Option (AV × Bool)
  | [.agg [.v (.int .i64 N), a0]] => (match toRows a0 with | some L => if (okLens L) = true then some (.v (.int .i64 (checkT N L)), false) else none | none => none)
  | _ => none
theorem e_checkW : EntOk Try.prog 47 g_checkW := ent_pure (by kernel_rfl) fun args r fr h => by
  unfold g_checkW at h
  split at h
  · rename_i N a0
    split at h
    · rename_i L t0
      split at h
      · rename_i hc
        have o0 := hc
        cases h
        exact ⟨FnPure.cov (check_w N L o0) (.cons (cov_th _ (cov_rows t0)) .nil), rfl⟩
      · cases h
    · cases h
  · cases h

@[simp] def g_rCheckW : List AV → Option (AV × Bool)
  | [.agg [.v (.int .i64 N), a0]] => (match toRows a0 with | some L => if (okLens L) = true then some (.v (.int .i64 (checkT N L)), false) else none | none => none)
  | _ => none
theorem e_rCheckW : EntOk Try.prog 43 g_rCheckW := ent_pure (by kernel_rfl) fun args r fr h => by
  unfold g_rCheckW at h
  split at h
  · rename_i N a0
    split at h
    · rename_i L t0
      split at h
      · rename_i hc
        have o0 := hc
        cases h
        exact ⟨FnPure.cov (rCheck_w N L o0) (.cons (cov_th _ (cov_rows t0)) .nil), rfl⟩
      · cases h
    · cases h
  · cases h

def l89 : List (FuncId × (List AV → Option (AV × Bool))) :=
  (47, g_checkW) :: (43, g_rCheckW) :: l1
theorem l89_ok : ∀ p ∈ l89, EntOk Try.prog p.1 p.2 := ent_cons e_checkW (ent_cons e_rCheckW (l1_ok))
def PT89 : PTab := tab l89
theorem PT89_ok : PTok Try.prog PT89 := tab_ok l89_ok
@[simp] theorem PT89_checkW : PT89 47 = g_checkW := rfl
@[simp] theorem PT89_rCheckW : PT89 43 = g_rCheckW := rfl
theorem checked_e (N : Int) (L : List (List Int)) (ts : List Int) (hL : okLens L = true) (hz : ¬ checkT N L = 0) : FnPure Try.prog 27 [aTh N L, aInts ts] (.tup [.v (.slice none 0 0), .v (.int .i64 1)]) := by
  unfold aTh
  refine fn_sp TT_ok Try.func27 (c := _) rfl (by simp [Try.ntmps27]) (fun B hI0 hro => ?_)
  rw [Try.ntmps27]
  simp only [enumA]
  refine amGo PT89_ok (h := ?_)
  ((refine post_ret (av := ?_) (by first | exact .inl rfl | exact .inr rfl) (show (Try.f27).results.toList = _ from by rw [Try.results27]) ?_ ?_); rotate_left; (focus (simp [retA, retL, ret1, lk, st, ldA, AV.cell]; rfl)); (try simp [*]))
theorem valid_e (N : Int) (L : List (List Int)) (ts : List Int) (hL : okLens L = true) (hz : ¬ checkT N L = 0) : FnPure Try.prog 34 [aTh N L, aInts ts] (.v (.bool false)) := by
  have hzb : (checkT N L == 0) = false := by simpa using hz
  unfold aTh
  refine fn_sp TT_ok Try.func34 (c := _) rfl (by simp [Try.ntmps34]) (fun B hI0 hro => ?_)
  rw [Try.ntmps34]
  simp only [enumA]
  refine amGo PT89_ok (h := ?_)
  ((refine post_ret (av := ?_) (by first | exact .inl rfl | exact .inr rfl) (show (Try.f34).results.toList = _ from by rw [Try.results34]) ?_ ?_); rotate_left; (focus (simp [retA, retL, ret1, lk, st, ldA, AV.cell]; rfl)); (try simp [*]))
end Go.Proofs.Ytekeidhndlnghaa
