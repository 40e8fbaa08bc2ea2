/- The reference's used, on what its caller holds; no condition. -/
import Derived.Test.YtafikekndefjcaaDoorRg17
import Derived.Test.YtafikekndefjcaaDoorWa
import Derived.Test.YtafikekndefjcaaDoorAm34
namespace Go.Proofs.YtafikekndefjcaaDoor
set_option linter.unusedVariables false
set_option linter.unusedSimpArgs false
set_option linter.unusedSectionVars false
open Go.RowKit
attribute [local simp] List.getD_cons_zero List.getD_cons_succ List.getD_nil undef gvars runL runE effA stepA dstOk wantA core lk st dl AS.ev AS.evs AS.put AS.upd updO updI nxt cPick cAlloc cBox cBuild cBuildS cLoad cStore cNil plainOf cBin cNilS isNilS nilA cUn cConvX cConvB cConv bytesOf rowB cMake cSlice slA idxA cFA cF cIA cIX cIS cI cExt cLen cApp cMM cFun cCall lenA lenM isNilM nilM cNilM cMakeM hintB cMapK cLook foundR lookR cUpd putM cDel delM findA isKeyB Instr.sameNow AS.entry AS.bound AS.callee sc1 sc2 ixOk ldA AV.flat AV.cell AV.cells Value.oneCell' fillA spl chunk zeros AS.parts AS.rows AS.shut AS.shut1 AS.shut2 AS.shutL AS.shutM AV.ids idsL idsLL eqAll bndA AV.scalar AV.scalar1 AV.isV Ef.app Ef.pk ptOf pntO wrO wr
attribute [-simp] List.getD_eq_getElem?_getD
set_option maxRecDepth 100000
attribute [local simp] lk_st
set_option maxHeartbeats 4000000 in
theorem used_proc {O : List (Nat × AObj)} {I : List Nat} {r j : Nat} {R : List (List AV)} {es : List (List Int × Int)} (hr : lk O r = some ⟨96, 2, R⟩) (hR : R.drop j = es.map rE) (hj : j ≤ R.length) (hu : useZ es ≤ 4294967296) (hl : es.length ≤ 4294967296) :
    ProcB Tryd.prog TT Go.Proofs.Tryd.f47 [.ref r j es.length] O I (fun av O' I' => av = .v (.int .i64 (useZ es : Int)) ∧ O' = O ∧ I' = I) := by
  have hRl : R.length = j + es.length := by
    have := congrArg List.length hR
    simp at this
    omega
  refine ⟨_, rfl, fun B hI0 hro => ?_⟩
  rw [Tryd.ntmps47, Tryd.results47]
  simp only [enumA]
  refine amStr (h := ?_)
  refine amReg PTv_ok (h := ?_)
  refine amStr (h := ?_)
  refine amReg PTv_ok (h := ?_)
  refine amStr (h := ?_)
  refine amReg PTv_ok (h := ?_)
  refine amStr (h := ?_)
  refine s_loopS (J := fun y : {k : Nat // k ≤ es.length} => ⟨21, [(0, .ref r j es.length), (2, .v (.int .i64 0)), (3, .v (.int .i64 (useZ (es.take y.1) : Int))), (4, .v (.int .i64 (y.1 : Int)))], O, I⟩) (μ := fun y => es.length - y.1) ⟨0, Nat.zero_le _⟩ ?_ (fun ⟨k, hk⟩ => ?_)
  · exact SubS.of rfl (by simp [useZ]) rfl rfl
  dsimp only
  refine amStr (h := ?_)
  refine amReg PTv_ok (h := ?_)
  refine amStr (h := ?_)
  (focus ((with_reducible refine sp_cond (b := ?_) ?_ (fun hc => ?_) (fun hc => ?_)); rotate_left; (focus (first | rfl | (simp [lk, AS.ev]; rfl))); all_goals (try simp at hc)))
  · have hkk : k < es.length := by omega
    clear hc
    have hg : R.getD (j + k) [] = [.v (.string (strOfNums es[k].1)), .v (.int .i64 es[k].2)] := by
      have h1 := rE_get hkk
      rw [← hR] at h1
      rw [← h1]
      simp only [List.getD_eq_getElem?_getD, List.getElem?_drop]
    have hs := use_take hkk
    have hle := use_take_le (es := es) (k := k + 1)
    have hsz := str_size es[k].1
    obtain ⟨U, hU⟩ : ∃ U, useZ (es.take k) = U := ⟨_, rfl⟩
    obtain ⟨q, hq⟩ : ∃ q, es[k].1.length = q := ⟨_, rfl⟩
    rw [hU] at hs
    rw [hq] at hs hsz
    rw [hU]
    obtain ⟨e, he⟩ : ∃ e, strOfNums es[k].1 = e := ⟨_, rfl⟩
    rw [he] at hsz hg
    have hw1 : IntKind.i64.wrap ((U : Int) + (q : Int)) = (U : Int) + (q : Int) := i64w (by omega) (by omega)
    have hw2 : IntKind.i64.wrap ((U : Int) + (q : Int) + 16) = (U : Int) + (q : Int) + 16 := i64w (by omega) (by omega)
    have hwk : IntKind.i64.wrap ((k : Int) + 1) = (k : Int) + 1 := i64w (by omega) (by omega)
    have hjk : j + k < R.length := by omega
    have HS := Lib.hid hs
    clear hs hU hq he
    refine amStr (h := ?_)
    refine amReg PTv_ok (h := ?_)
    refine amStr (h := ?_)
    refine amReg PTv_ok (h := ?_)
    refine amStr (h := ?_)
    refine ks_lp (⟨k + 1, hkk⟩ : {k : Nat // k ≤ es.length}) (by dsimp only; omega) ?_
    refine SubS.of rfl ?_ rfl rfl
    dsimp only
    rw [HS.out]
    simp [Int.add_assoc]
  · obtain rfl : k = es.length := by omega
    clear hc
    rw [List.take_length]
    refine amStr (h := ?_)
    refine ks_exit ?_
    refine amStr (h := ?_)
    refine amReg PTv_ok (h := ?_)
    refine amStr (h := ?_)
    exact ⟨.inr rfl, _, rfl, rfl, rfl, rfl⟩
end Go.Proofs.YtafikekndefjcaaDoor
