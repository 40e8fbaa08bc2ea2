/- New of both caches, where the size is out of range; the reference's New; no condition. -/
import Derived.Test.YtafikekndefjcaaDoorRp17
import Derived.Test.YtafikekndefjcaaDoorWa
namespace Go.Proofs.YtafikekndefjcaaDoor
set_option linter.unusedVariables false
set_option linter.unusedSimpArgs false
set_option linter.unusedSectionVars false
open Go.RowKit
attribute [local simp] List.getD_cons_zero List.getD_cons_succ List.getD_nil undef gvars runL runE effA stepA dstOk wantA core lk st dl AS.ev AS.evs AS.put AS.upd updO updI nxt cPick cAlloc cBox cBuild cBuildS cLoad cStore cNil plainOf cBin cNilS isNilS nilA cUn cConvX cConvB cConv bytesOf rowB cMake cSlice slA idxA cFA cF cIA cIX cIS cI cExt cLen cApp cMM cFun cCall lenA lenM isNilM nilM cNilM cMakeM hintB cMapK cLook foundR lookR cUpd putM cDel delM findA isKeyB Instr.sameNow AS.entry AS.bound AS.callee sc1 sc2 ixOk ldA AV.flat AV.cell AV.cells Value.oneCell' fillA spl chunk zeros AS.parts AS.rows AS.shut AS.shut1 AS.shut2 AS.shutL AS.shutM AV.ids idsL idsLL eqAll bndA AV.scalar AV.scalar1 AV.isV Ef.app Ef.pk ptOf pntO wrO wr
attribute [-simp] List.getD_eq_getElem?_getD
set_option maxRecDepth 100000
attribute [local simp] lk_st lk_dl
theorem new_no {O : List (Nat × AObj)} {I : List Nat} {most : Int} (h : most < 0 ∨ 1073741824 < most) :
    ProcB Tryd.prog TT Go.Proofs.Tryd.f25 [.v (.int .i64 most)] O I (fun av O' I' => av = .tup [.v (.pointer none), .v (.int .i64 1)] ∧ O' = O ∧ I' = I) := by
  refine ⟨_, rfl, fun B hI0 hro => ?_⟩
  rw [Tryd.ntmps25, Tryd.results25]
  simp only [enumA]
  by_cases h1 : most < 0
  · refine amStr (h := ?_)
    refine amReg PTv_ok (h := ?_)
    refine amStr (h := ?_)
    refine amReg PTv_ok (h := ?_)
    refine amStr (h := ?_)
    refine amReg PTv_ok (h := ?_)
    refine amStr (h := ?_)
    exact ⟨.inr rfl, _, rfl, rfl, rfl, rfl⟩
  · have h2 : 1073741824 < most := by omega
    refine amStr (h := ?_)
    refine amReg PTv_ok (h := ?_)
    refine amStr (h := ?_)
    refine amReg PTv_ok (h := ?_)
    refine amStr (h := ?_)
    refine amReg PTv_ok (h := ?_)
    refine amStr (h := ?_)
    exact ⟨.inr rfl, _, rfl, rfl, rfl, rfl⟩
theorem rnew_no {O : List (Nat × AObj)} {I : List Nat} {most : Int} {x : Nat} (hx : x ∉ I) (h : most < 0 ∨ 1073741824 < most) :
    ProcB Tryd.prog TT Go.Proofs.Tryd.f26 [.v (.int .i64 most)] O I (fun av O' I' => av = .tup [.agg [.v (.int .i64 0), .v (.slice none 0 0)], .v (.int .i64 1)] ∧ I' = x :: I ∧ ∀ q, q ≠ x → lk O' q = lk O q) := by
  refine ⟨_, rfl, fun B hI0 hro => ?_⟩
  rw [Tryd.ntmps26, Tryd.results26]
  simp only [enumA]
  by_cases h1 : most < 0
  · refine amStr (h := ?_)
    refine s_regionL ?_
    (((with_reducible refine spl_step TT_ok PTv_ok (id := x) (σ' := ?_) ?_ ?_); rotate_left; (focus (simp [*]; rfl))))
    ((iterate 1 (((with_reducible refine spl_step TT_ok PTv_ok (id := 0) (σ' := ?_) ?_ ?_); rotate_left; (focus (simp [*]; rfl))))))
    refine spl_nil ?_
    refine amStr (h := ?_)
    refine amReg PTv_ok (h := ?_)
    refine amStr (h := ?_)
    refine amReg PTv_ok (h := ?_)
    refine amStr (h := ?_)
    refine ⟨.inr rfl, _, ?_, rfl, rfl, fun q hq => ?_⟩
    · simp [retA, retL, ret1, ldA, AV.cell]
    · simp [Ne.symm hq]
  · have h2 : 1073741824 < most := by omega
    refine amStr (h := ?_)
    refine s_regionL ?_
    (((with_reducible refine spl_step TT_ok PTv_ok (id := x) (σ' := ?_) ?_ ?_); rotate_left; (focus (simp [*]; rfl))))
    ((iterate 1 (((with_reducible refine spl_step TT_ok PTv_ok (id := 0) (σ' := ?_) ?_ ?_); rotate_left; (focus (simp [*]; rfl))))))
    refine spl_nil ?_
    refine amStr (h := ?_)
    refine amReg PTv_ok (h := ?_)
    refine amStr (h := ?_)
    refine amReg PTv_ok (h := ?_)
    refine amStr (h := ?_)
    refine ⟨.inr rfl, _, ?_, rfl, rfl, fun q hq => ?_⟩
    · simp [retA, retL, ret1, ldA, AV.cell]
    · simp [Ne.symm hq]
theorem rnew_yes {O : List (Nat × AObj)} {I : List Nat} {most : Int} {x : Nat} (hx : x ∉ I) (h0 : 0 ≤ most) (h1 : most ≤ 1073741824) :
    ProcB Tryd.prog TT Go.Proofs.Tryd.f26 [.v (.int .i64 most)] O I (fun av O' I' => av = .tup [.agg [.v (.int .i64 most), .v (.slice none 0 0)], .v (.int .i64 0)] ∧ I' = x :: I ∧ ∀ q, q ≠ x → lk O' q = lk O q) := by
  have h2 : ¬ most < 0 := by omega
  have h3 : ¬ 1073741824 < most := by omega
  refine ⟨_, rfl, fun B hI0 hro => ?_⟩
  rw [Tryd.ntmps26, Tryd.results26]
  simp only [enumA]
  refine amStr (h := ?_)
  refine s_regionL ?_
  (((with_reducible refine spl_step TT_ok PTv_ok (id := x) (σ' := ?_) ?_ ?_); rotate_left; (focus (simp [*]; rfl))))
  ((iterate 1 (((with_reducible refine spl_step TT_ok PTv_ok (id := 0) (σ' := ?_) ?_ ?_); rotate_left; (focus (simp [*]; rfl))))))
  refine spl_nil ?_
  refine amStr (h := ?_)
  refine amReg PTv_ok (h := ?_)
  refine amStr (h := ?_)
  refine amReg PTv_ok (h := ?_)
  refine amStr (h := ?_)
  refine ⟨.inr rfl, _, ?_, rfl, rfl, fun q hq => ?_⟩
  · simp [retA, retL, ret1, ldA, AV.cell]
  · simp [Ne.symm hq]
end Go.Proofs.YtafikekndefjcaaDoor
