/- The reference's cache: sizes, New, Get; no condition. -/
import Derived.Test.YtafikekndefjcaaDoorKi17
import Derived.Test.YtafikekndefjcaaDoorWa
namespace Go.Proofs.YtafikekndefjcaaDoor
set_option linter.unusedVariables false
set_option linter.unusedSimpArgs false
set_option linter.unusedSectionVars false
open Go.RowKit
attribute [local simp] List.getD_cons_zero List.getD_cons_succ List.getD_nil undef gvars runL runE effA stepA dstOk wantA core lk st dl AS.ev AS.evs AS.put AS.upd updO updI nxt cPick cAlloc cBox cBuild cBuildS cLoad cStore cNil plainOf cBin cNilS isNilS nilA cUn cConvX cConvB cConv bytesOf rowB cMake cSlice slA idxA cFA cF cIA cIX cIS cI cExt cLen cApp cMM cFun cCall lenA lenM isNilM nilM cNilM cMakeM hintB cMapK cLook foundR lookR cUpd putM cDel delM findA isKeyB Instr.sameNow AS.entry AS.bound AS.callee sc1 sc2 ixOk ldA AV.flat AV.cell AV.cells Value.oneCell' fillA spl chunk zeros AS.parts AS.rows AS.shut AS.shut1 AS.shut2 AS.shutL AS.shutM AV.ids idsL idsLL eqAll bndA AV.scalar AV.scalar1 AV.isV Ef.app Ef.pk ptOf pntO wrO wr
attribute [-simp] List.getD_eq_getElem?_getD
set_option maxRecDepth 100000
attribute [local simp] lk_st
def rE (e : List Int × Int) : List AV := [.v (.string (strOfNums e.1)), .v (.int .i64 e.2)]
theorem rE_get {es : List (List Int × Int)} {k : Nat} (h : k < es.length) : (es.map rE).getD k [] = [.v (.string (strOfNums es[k].1)), .v (.int .i64 es[k].2)] := by
  simp [List.getD, h, rE]
theorem use_take {es : List (List Int × Int)} {k : Nat} (h : k < es.length) : useZ (es.take (k + 1)) = useZ (es.take k) + (es[k].1.length + 16) := by
  rw [List.take_succ_eq_append_getElem h, use_append]
  unfold useZ entZ
  simp
theorem use_take_le {es : List (List Int × Int)} {k : Nat} : useZ (es.take k) ≤ useZ es := by
  have := use_append (es.take k) (es.drop k)
  rw [List.take_append_drop] at this
  omega
set_option maxHeartbeats 2000000 in
theorem used_p (es : List (List Int × Int)) (hu : useZ es ≤ 4294967296) (hl : es.length ≤ 4294967296) : FnPure Tryd.prog 47 [.sl 2 (es.map rE)] (.v (.int .i64 (useZ es : Int))) := by
  refine fn_sp TT_ok Tryd.func47 (c := _) rfl (by simp [Tryd.ntmps47]) (fun B hI0 hro => ?_)
  rw [Tryd.ntmps47]
  simp only [enumA]
  refine amStr (h := ?_)
  refine amReg PTv_ok (h := ?_)
  refine amStr (h := ?_)
  refine amReg PTv_ok (h := ?_)
  refine amStr (h := ?_)
  refine amReg PTv_ok (h := ?_)
  refine amStr (h := ?_)
  refine s_loopS (J := fun y : {k : Nat // k ≤ es.length} => ⟨21, [(0, .sl 2 (es.map rE)), (2, .v (.int .i64 0)), (3, .v (.int .i64 (useZ (es.take y.1) : Int))), (4, .v (.int .i64 (y.1 : Int)))], [], []⟩) (μ := fun y => es.length - y.1) ⟨0, Nat.zero_le _⟩ ?_ (fun ⟨k, hk⟩ => ?_)
  · exact SubS.of rfl (by simp [useZ]) rfl rfl
  dsimp only
  refine amStr (h := ?_)
  refine amReg PTv_ok (h := ?_)
  refine amStr (h := ?_)
  (focus ((with_reducible refine sp_cond (b := ?_) ?_ (fun hc => ?_) (fun hc => ?_)); rotate_left; (focus (first | rfl | (simp [lk, AS.ev]; rfl))); all_goals (try simp at hc)))
  · have hkk : k < es.length := by omega
    clear hc
    have hg := rE_get hkk
    have hs := use_take hkk
    have hle := use_take_le (es := es) (k := k + 1)
    have hsz := str_size es[k].1
    obtain ⟨U, hU⟩ : ∃ U, useZ (es.take k) = U := ⟨_, rfl⟩
    obtain ⟨q, hq⟩ : ∃ q, es[k].1.length = q := ⟨_, rfl⟩
    rw [hU] at hs
    rw [hq] at hs hsz
    rw [hU]
    obtain ⟨e, he⟩ : ∃ e, strOfNums es[k].1 = e := ⟨_, rfl⟩
    rw [he] at hsz hg
    have hw1 : IntKind.i64.wrap ((U : Int) + (q : Int)) = (U : Int) + (q : Int) := i64w (by omega) (by omega)
    have hw2 : IntKind.i64.wrap ((U : Int) + (q : Int) + 16) = (U : Int) + (q : Int) + 16 := i64w (by omega) (by omega)
    have hwk : IntKind.i64.wrap ((k : Int) + 1) = (k : Int) + 1 := i64w (by omega) (by omega)
    have HS := Lib.hid hs
    clear hs hU hq he
    refine amStr (h := ?_)
    refine amReg PTv_ok (h := ?_)
    refine amStr (h := ?_)
    refine amReg PTv_ok (h := ?_)
    refine amStr (h := ?_)
    refine ks_lp (⟨k + 1, hkk⟩ : {k : Nat // k ≤ es.length}) (by dsimp only; omega) ?_
    refine SubS.of rfl ?_ rfl rfl
    dsimp only
    rw [HS.out]
    simp [Int.add_assoc]
  · obtain rfl : k = es.length := by omega
    clear hc
    rw [List.take_length]
    refine amStr (h := ?_)
    refine ks_exit ?_
    refine amStr (h := ?_)
    refine amReg PTv_ok (h := ?_)
    refine amStr (h := ?_)
    ((refine post_ret (av := ?_) (by first | exact .inl rfl | exact .inr rfl) (show (Tryd.f47).results.toList = _ from by rw [Tryd.results47]) ?_ ?_); rotate_left; (focus (simp [retA, retL, ret1, lk, st, ldA, AV.cell]; rfl)); (try simp [*]))
theorem refNew_p (most : Int) (h0 : -9223372036854775808 ≤ most) (h1 : most ≤ 9223372036854775807) : FnPure Tryd.prog 26 [.v (.int .i64 most)] (if 0 ≤ most ∧ most ≤ 1073741824 then .tup [.agg [.v (.int .i64 most), .v (.slice none 0 0)], .v (.int .i64 0)] else .tup [.agg [.v (.int .i64 0), .v (.slice none 0 0)], .v (.int .i64 1)]) := by
  by_cases h2 : most < 0
  · rw [if_neg (by omega)]
    refine fn_sp TT_ok Tryd.func26 (c := _) rfl (by simp [Tryd.ntmps26]) (fun B hI0 hro => ?_)
    rw [Tryd.ntmps26]
    simp only [enumA]
    refine amGo PTv_ok (h := ?_)
    ((refine post_ret (av := ?_) (by first | exact .inl rfl | exact .inr rfl) (show (Tryd.f26).results.toList = _ from by rw [Tryd.results26]) ?_ ?_); rotate_left; (focus (simp [retA, retL, ret1, lk, st, ldA, AV.cell]; rfl)); (try simp [*]))
  · by_cases h3 : 1073741824 < most
    · rw [if_neg (by omega)]
      refine fn_sp TT_ok Tryd.func26 (c := _) rfl (by simp [Tryd.ntmps26]) (fun B hI0 hro => ?_)
      rw [Tryd.ntmps26]
      simp only [enumA]
      refine amGo PTv_ok (h := ?_)
      ((refine post_ret (av := ?_) (by first | exact .inl rfl | exact .inr rfl) (show (Tryd.f26).results.toList = _ from by rw [Tryd.results26]) ?_ ?_); rotate_left; (focus (simp [retA, retL, ret1, lk, st, ldA, AV.cell]; rfl)); (try simp [*]))
    · rw [if_pos (by omega)]
      refine fn_sp TT_ok Tryd.func26 (c := _) rfl (by simp [Tryd.ntmps26]) (fun B hI0 hro => ?_)
      rw [Tryd.ntmps26]
      simp only [enumA]
      refine amGo PTv_ok (h := ?_)
      ((refine post_ret (av := ?_) (by first | exact .inl rfl | exact .inr rfl) (show (Tryd.f26).results.toList = _ from by rw [Tryd.results26]) ?_ ?_); rotate_left; (focus (simp [retA, retL, ret1, lk, st, ldA, AV.cell]; rfl)); (try simp [*]))
end Go.Proofs.YtafikekndefjcaaDoor
