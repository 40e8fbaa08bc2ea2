/- censuslaw16.few on any lists that the machine has; no condition. -/
import Derived.Test.YtekeidhndlnghaaPt16
import Derived.Test.YtekeidhndlnghaaWa
namespace Go.Proofs.Ytekeidhndlnghaa
set_option linter.unusedVariables false
set_option linter.unusedSimpArgs false
set_option linter.unusedSectionVars false
open Go.RowKit
attribute [local simp] List.getD_cons_zero List.getD_cons_succ List.getD_nil undef gvars runL runE effA stepA dstOk wantA core lk st dl AS.ev AS.evs AS.put AS.upd updO updI nxt cPick cAlloc cBox cBuild cBuildS cLoad cStore cNil plainOf cBin cNilS isNilS nilA cUn cConvX cConvB cConv bytesOf rowB cMake cSlice slA idxA cFA cF cIA cIX cIS cI cExt cLen cApp cMM cFun cCall lenA lenM isNilM nilM cNilM cMakeM hintB cMapK cLook foundR lookR cUpd putM cDel delM findA isKeyB Instr.sameNow AS.entry AS.bound AS.callee sc1 sc2 ixOk ldA AV.flat AV.cell AV.cells Value.oneCell' fillA spl chunk zeros AS.parts AS.rows AS.shut AS.shut1 AS.shut2 AS.shutL AS.shutM AV.ids idsL idsLL eqAll bndA AV.scalar AV.scalar1 AV.isV Ef.app Ef.pk ptOf pntO wrO wr
attribute [-simp] List.getD_eq_getElem?_getD
set_option maxRecDepth 100000
def sumW (L : List (List Int)) : Int := L.foldl (fun k c => IntKind.i64.wrap (k + (c.length : Int))) 0
theorem sumW_succ {L : List (List Int)} {k : Nat} (hk : k < L.length) : sumW (L.take (k + 1)) = IntKind.i64.wrap (sumW (L.take k) + ((L.getD k []).length : Int)) := by
  have e : L.getD k [] = L[k] := by simp [List.getD, hk]
  unfold sumW
  rw [List.take_succ_eq_append_getElem hk, List.foldl_append, e]; rfl
def fewW (L : List (List Int)) (ts : List Int) : Bool := decide (L.length ≤ 100) && decide (sumW L ≤ 600) && decide (ts.length ≤ 100)
set_option maxHeartbeats 1000000 in
theorem few_w (N : Int) (L : List (List Int)) (ts : List Int) (hL : okLens L = true) (ht : okIL ts = true) : FnPure Try.prog 10 [aTh N L, aInts ts] (.v (.bool (fewW L ts))) := by
  have hm := okLens_len hL
  have htl := okIL_len ht
  unfold aTh
  refine fn_sp TT_ok Try.func10 (c := _) rfl (by simp [Try.ntmps10]) (fun B hI0 hro => ?_)
  rw [Try.ntmps10]
  simp only [enumA]
  refine amGo PT1_ok (h := ?_)
  refine s_loop (J := fun i : {k : Nat // k ≤ L.length} => ⟨35, [(1, aInts ts), (2, .ptr 0 0 0), (4, .v (.bool false)), (5, .v (.int .i64 (sumW (L.take i.1)))), (6, .v (.int .i64 (i.1 : Int)))], [(0, ⟨24, 2, [[.v (.int .i64 N), aRows L]]⟩)], [0]⟩) (μ := fun i => L.length - i.1) ⟨0, Nat.zero_le _⟩ ?_ (fun ⟨k, hk⟩ => ?_)
  · have h0 : sumW [] = 0 := rfl
    (refine weak_id rfl ?_ ?_ <;> ((try simp only [List.mem_cons, List.not_mem_nil, or_false, forall_eq_or_imp, forall_eq]); (try simp (disch := omega) [i64w, *])))
  refine amStr (h := ?_)
  refine amReg PT1_ok (h := ?_)
  refine amStr (h := ?_)
  (focus ((with_reducible refine sp_cond (b := ?_) ?_ (fun hc => ?_) (fun hc => ?_)); rotate_left; (focus (first | rfl | (simp [lk, AS.ev]; rfl))); all_goals (try simp at hc)))
  · have hkk := hc
    clear hc
    have hci := okIL_len (okLens_at hL k)
    have hss := sumW_succ hkk
    have hwk : IntKind.i64.wrap ((k : Int) + 1) = (k : Int) + 1 := i64s k (by omega)
    obtain ⟨s, hs⟩ : ∃ s, sumW (L.take k) = s := ⟨_, rfl⟩
    rw [hs] at hss
    rw [hs]
    obtain ⟨s2, hs2⟩ : ∃ s2, IntKind.i64.wrap (s + ((L.getD k []).length : Int)) = s2 := ⟨_, rfl⟩
    rw [hs2] at hss
    refine amGo PT1_ok (h := ?_)
    refine k_lp (⟨k + 1, by omega⟩ : {k : Nat // k ≤ L.length}) (by dsimp only; omega) ?_
    (refine weak_id rfl ?_ ?_ <;> ((try simp only [List.mem_cons, List.not_mem_nil, or_false, forall_eq_or_imp, forall_eq]); (try simp (disch := omega) [i64w, *])))
  · obtain rfl : k = L.length := by omega
    clear hc
    rw [List.take_length]
    unfold fewW
    obtain ⟨s, hs⟩ : ∃ s, sumW L = s := ⟨_, rfl⟩
    rw [hs]
    by_cases h1 : L.length ≤ 100
    · have h1i : (L.length : Int) ≤ 100 := by omega
      by_cases h2 : s ≤ 600
      · refine amGo PT1_ok (h := ?_)
        ((refine post_ret (av := ?_) (by first | exact .inl rfl | exact .inr rfl) (show (Try.f10).results.toList = _ from by rw [Try.results10]) ?_ ?_); rotate_left; (focus (simp [retA, retL, ret1, lk, st, ldA, AV.cell]; rfl)); (try simp [*]))
        all_goals omega
      · refine amGo PT1_ok (h := ?_)
        ((refine post_ret (av := ?_) (by first | exact .inl rfl | exact .inr rfl) (show (Try.f10).results.toList = _ from by rw [Try.results10]) ?_ ?_); rotate_left; (focus (simp [retA, retL, ret1, lk, st, ldA, AV.cell]; rfl)); (try simp [*]))
    · have h1i : ¬ ((L.length : Int) ≤ 100) := by omega
      refine amGo PT1_ok (h := ?_)
      ((refine post_ret (av := ?_) (by first | exact .inl rfl | exact .inr rfl) (show (Try.f10).results.toList = _ from by rw [Try.results10]) ?_ ?_); rotate_left; (focus (simp [retA, retL, ret1, lk, st, ldA, AV.cell]; rfl)); (try simp [*]))
end Go.Proofs.Ytekeidhndlnghaa
