/- lit.Clause as a function that returns a slice of its own; no condition. -/
import Derived.Test.YtafikekndefjcaaDoorOb2
import Derived.Test.YtafikekndefjcaaDoorWa
namespace Go.Proofs.YtafikekndefjcaaDoor
set_option linter.unusedVariables false
set_option linter.unusedSimpArgs false
set_option linter.unusedSectionVars false
open Go.RowKit
attribute [local simp] List.getD_cons_zero List.getD_cons_succ List.getD_nil undef gvars runL runE effA stepA dstOk wantA core lk st dl AS.ev AS.evs AS.put AS.upd updO updI nxt cPick cAlloc cBox cBuild cBuildS cLoad cStore cNil plainOf cBin cNilS isNilS nilA cUn cConvX cConvB cConv bytesOf rowB cMake cSlice slA idxA cFA cF cIA cIX cIS cI cExt cLen cApp cMM cFun cCall lenA lenM isNilM nilM cNilM cMakeM hintB cMapK cLook foundR lookR cUpd putM cDel delM findA isKeyB Instr.sameNow AS.entry AS.bound AS.callee sc1 sc2 ixOk ldA AV.flat AV.cell AV.cells Value.oneCell' fillA spl chunk zeros AS.parts AS.rows AS.shut AS.shut1 AS.shut2 AS.shutL AS.shutM AV.ids idsL idsLL eqAll bndA AV.scalar AV.scalar1 AV.isV Ef.app Ef.pk ptOf pntO wrO wr
attribute [-simp] List.getD_eq_getElem?_getD
set_option maxRecDepth 100000
section clause
attribute [local simp] AV.ren renL obI shO_cons
theorem clause_obj (c : List Int) (n : Int) (hc : okInts c = true) (hn : okI n = true) (hv : (c.all fun y => litOk y n) = true) : FnObj Tryd.prog 48 [aInts c, .v (.int .i64 n)] (.tup [.ref 0 0 (orderL c).length, .v (.bool (adjOpp (orderL c))), .v (.int .i64 0)]) [(0, obI (orderL c))] [0] := by
  have hL : okL c = true := by
    rw [okL_iff]; intro y hy; have := litOk_range (List.all_eq_true.1 hv y hy); omega
  have hO := okInts_order hc hL
  have hO2 := okL_order hL
  have hlen := okInts_len hO
  refine fn_obj TT_ok Tryd.func48 (c := _) rfl (by simp [Tryd.ntmps48]) ⟨fun k hk => by simpa [AV.ids, idsL] using hk, (within1 (orderL c)).2⟩ (fun B hI0 hro => ?_)
  rw [Tryd.ntmps48]
  simp only [enumA]
  refine amStr (h := ?_)
  refine amReg PT1_ok (h := ?_)
  refine amStr (h := ?_)
  refine amReg PT1_ok (h := ?_)
  refine amStr (h := ?_)
  refine s_regionL ?_
  ((iterate 1 (((with_reducible refine spl_step TT_ok PT1_ok (id := 0) (σ' := ?_) ?_ ?_); rotate_left; (focus (simp [*]; rfl))))))
  refine spl_obj (order_obj c hc hL) 0 (by simp) rfl rfl (enters_ok (avs := [aInts c]) (cs := []) rfl (by kernel_rfl) rfl rfl) (by simp [idsL]) (fun c h => by cases h) ?_
  (refine spl_eq (τ := ?_) ?_ ?_; rotate_left; (focus ((try simp only [AS.frz, List.map_cons, List.map_nil]); (try simp [frzV, frzO, frzC, List.filter]); rfl)))
  ((iterate 1 (((with_reducible refine spl_step TT_ok PT1_ok (id := 0) (σ' := ?_) ?_ ?_); rotate_left; (focus (simp [*]; rfl))))))
  refine spl_nil ?_
  refine k_seq ?_
  refine amGo PT1_ok (h := ?_)
  refine post_obj (.inr rfl) (by rw [Tryd.results48]) (av := .tup [.ref 0 0 (orderL c).length, .v (.bool (adjOpp (orderL c))), .v (.int .i64 0)]) ?_ (fun k => k) (by rw [AV.ren_id]) ?_ ?_
  · simp [retA, retL, ret1, lk]
  · intro k ob hk
    simp only [lk] at hk ⊢
    split at hk
    · rename_i e; cases hk; subst e; simp [lk, obI]
    · cases hk
  · intro k ob k' ob' _ _ e; exact e
end clause
end Go.Proofs.YtafikekndefjcaaDoor
