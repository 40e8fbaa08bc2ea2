/- Where the theory is not valid: parts.Alone and the document's, parts.Split and the document's; no condition. -/
import Derived.Test.YtekeidhndlnghaaCx16
import Derived.Test.YtekeidhndlnghaaWa
namespace Go.Proofs.Ytekeidhndlnghaa
set_option linter.unusedVariables false
set_option linter.unusedSimpArgs false
set_option linter.unusedSectionVars false
open Go.RowKit
attribute [local simp] List.getD_cons_zero List.getD_cons_succ List.getD_nil undef gvars runL runE effA stepA dstOk wantA core lk st dl AS.ev AS.evs AS.put AS.upd updO updI nxt cPick cAlloc cBox cBuild cBuildS cLoad cStore cNil plainOf cBin cNilS isNilS nilA cUn cConvX cConvB cConv bytesOf rowB cMake cSlice slA idxA cFA cF cIA cIX cIS cI cExt cLen cApp cMM cFun cCall lenA lenM isNilM nilM cNilM cMakeM hintB cMapK cLook foundR lookR cUpd putM cDel delM findA isKeyB Instr.sameNow AS.entry AS.bound AS.callee sc1 sc2 ixOk ldA AV.flat AV.cell AV.cells Value.oneCell' fillA spl chunk zeros AS.parts AS.rows AS.shut AS.shut1 AS.shut2 AS.shutL AS.shutM AV.ids idsL idsLL eqAll bndA AV.scalar AV.scalar1 AV.isV Ef.app Ef.pk ptOf pntO wrO wr
attribute [-simp] List.getD_eq_getElem?_getD
set_option maxRecDepth 100000
@[simp] def g_pChkE : List AV → Option (AV × Bool)
  | [.agg [.v (.int .i64 N), a0], a1] => (match toRows a0 with | some L => (match toInts a1 with | some ts => if (okLens L && okIL ts && decide (¬ checkT N L = 0)) = true then some (.tup [.v (.slice none 0 0), .v (.int .i64 1)], false) else none | none => none) | none => none)
  | _ => none
theorem e_pChkE : EntOk Try.prog 27 g_pChkE := ent_pure (by kernel_rfl) fun args r fr h => by
  unfold g_pChkE at h
  split at h
  · rename_i N a0 a1
    split at h
    · rename_i L t0
      split at h
      · rename_i ts t1
        split at h
        · rename_i hc
          simp only [Bool.and_eq_true] at hc
          obtain ⟨⟨o0, o1⟩, hk⟩ := hc
          cases h
          exact ⟨FnPure.cov (checked_e N L ts o0 (of_decide_eq_true hk)) (.cons (cov_th _ (cov_rows t0)) (.cons (cov_ints t1) .nil)), rfl⟩
        · cases h
      · cases h
    · cases h
  · cases h

@[simp] def g_r6ValidE : List AV → Option (AV × Bool)
  | [.agg [.v (.int .i64 N), a0], a1] => (match toRows a0 with | some L => (match toInts a1 with | some ts => if (okLens L && okIL ts && decide (¬ checkT N L = 0)) = true then some (.v (.bool false), false) else none | none => none) | none => none)
  | _ => none
theorem e_r6ValidE : EntOk Try.prog 34 g_r6ValidE := ent_pure (by kernel_rfl) fun args r fr h => by
  unfold g_r6ValidE at h
  split at h
  · rename_i N a0 a1
    split at h
    · rename_i L t0
      split at h
      · rename_i ts t1
        split at h
        · rename_i hc
          simp only [Bool.and_eq_true] at hc
          obtain ⟨⟨o0, o1⟩, hk⟩ := hc
          cases h
          exact ⟨FnPure.cov (valid_e N L ts o0 (of_decide_eq_true hk)) (.cons (cov_th _ (cov_rows t0)) (.cons (cov_ints t1) .nil)), rfl⟩
        · cases h
      · cases h
    · cases h
  · cases h

def l90 : List (FuncId × (List AV → Option (AV × Bool))) :=
  (27, g_pChkE) :: (34, g_r6ValidE) :: l1
theorem l90_ok : ∀ p ∈ l90, EntOk Try.prog p.1 p.2 := ent_cons e_pChkE (ent_cons e_r6ValidE (l1_ok))
def PT90 : PTab := tab l90
theorem PT90_ok : PTok Try.prog PT90 := tab_ok l90_ok
@[simp] theorem PT90_pChkE : PT90 27 = g_pChkE := rfl
@[simp] theorem PT90_r6ValidE : PT90 34 = g_r6ValidE := rfl
theorem alone_e (N : Int) (L : List (List Int)) (ts cs : List Int) (s : BitVec 128) (hL : okLens L = true) (ht : okIL ts = true) (hz : ¬ checkT N L = 0) : FnPure Try.prog 17 [aTh N L, aInts ts, aPart s cs] alnE := by
  unfold aTh aPart alnE
  refine fn_sp TT_ok Try.func17 (c := _) rfl (by simp [Try.ntmps17]) (fun B hI0 hro => ?_)
  rw [Try.ntmps17]
  simp only [enumA]
  refine amGo PT90_ok (h := ?_)
  ((refine post_ret (av := ?_) (by first | exact .inl rfl | exact .inr rfl) (show (Try.f17).results.toList = _ from by rw [Try.results17]) ?_ ?_); rotate_left; (focus (simp [retA, retL, ret1, lk, st, ldA, AV.cell]; rfl)); (try simp [*]))
theorem rAlone_e (N : Int) (L : List (List Int)) (ts cs : List Int) (hL : okLens L = true) (ht : okIL ts = true) (hz : ¬ checkT N L = 0) : FnPure Try.prog 18 [aTh N L, aInts ts, aInts cs] alnE := by
  unfold aTh alnE
  refine fn_sp TT_ok Try.func18 (c := _) rfl (by simp [Try.ntmps18]) (fun B hI0 hro => ?_)
  rw [Try.ntmps18]
  simp only [enumA]
  refine amGo PT90_ok (h := ?_)
  ((refine post_ret (av := ?_) (by first | exact .inl rfl | exact .inr rfl) (show (Try.f18).results.toList = _ from by rw [Try.results18]) ?_ ?_); rotate_left; (focus (simp [retA, retL, ret1, lk, st, ldA, AV.cell]; rfl)); (try simp [*]))
def splE : AV := .tup [.v (.slice none 0 0), .agg [.v (.int .u64 0), .v (.int .u64 0)], .v (.int .i64 1)]
theorem split_e (N : Int) (L : List (List Int)) (ts : List Int) (hL : okLens L = true) (ht : okIL ts = true) (hz : ¬ checkT N L = 0) : FnPure Try.prog 12 [aTh N L, aInts ts] splE := by
  unfold aTh splE
  refine fn_sp TT_ok Try.func12 (c := _) rfl (by simp [Try.ntmps12]) (fun B hI0 hro => ?_)
  rw [Try.ntmps12]
  simp only [enumA]
  refine amGo PT90_ok (h := ?_)
  ((refine post_ret (av := ?_) (by first | exact .inl rfl | exact .inr rfl) (show (Try.f12).results.toList = _ from by rw [Try.results12]) ?_ ?_); rotate_left; (focus (simp [retA, retL, ret1, lk, st, ldA, AV.cell]; rfl)); (try simp [*]))
theorem rSplit_e (N : Int) (L : List (List Int)) (ts : List Int) (hL : okLens L = true) (ht : okIL ts = true) (hz : ¬ checkT N L = 0) : FnPure Try.prog 13 [aTh N L, aInts ts] splE := by
  unfold aTh splE
  refine fn_sp TT_ok Try.func13 (c := _) rfl (by simp [Try.ntmps13]) (fun B hI0 hro => ?_)
  rw [Try.ntmps13]
  simp only [enumA]
  refine amGo PT90_ok (h := ?_)
  ((refine post_ret (av := ?_) (by first | exact .inl rfl | exact .inr rfl) (show (Try.f13).results.toList = _ from by rw [Try.results13]) ?_ ?_); rotate_left; (focus (simp [retA, retL, ret1, lk, st, ldA, AV.cell]; rfl)); (try simp [*]))
end Go.Proofs.Ytekeidhndlnghaa
