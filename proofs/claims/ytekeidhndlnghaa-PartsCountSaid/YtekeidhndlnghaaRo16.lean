/- parts.rest as a function that returns a list of its own; no condition. -/
import Derived.Test.YtekeidhndlnghaaPt16
import Derived.Test.YtekeidhndlnghaaWa
import Derived.Test.YtekeidhndlnghaaOb2
namespace Go.Proofs.Ytekeidhndlnghaa
set_option linter.unusedVariables false
set_option linter.unusedSimpArgs false
set_option linter.unusedSectionVars false
open Go.RowKit
attribute [local simp] List.getD_cons_zero List.getD_cons_succ List.getD_nil undef gvars runL runE effA stepA dstOk wantA core lk st dl AS.ev AS.evs AS.put AS.upd updO updI nxt cPick cAlloc cBox cBuild cBuildS cLoad cStore cNil plainOf cBin cNilS isNilS nilA cUn cConvX cConvB cConv bytesOf rowB cMake cSlice slA idxA cFA cF cIA cIX cIS cI cExt cLen cApp cMM cFun cCall lenA lenM isNilM nilM cNilM cMakeM hintB cMapK cLook foundR lookR cUpd putM cDel delM findA isKeyB Instr.sameNow AS.entry AS.bound AS.callee sc1 sc2 ixOk ldA AV.flat AV.cell AV.cells Value.oneCell' fillA spl chunk zeros AS.parts AS.rows AS.shut AS.shut1 AS.shut2 AS.shutL AS.shutM AV.ids idsL idsLL eqAll bndA AV.scalar AV.scalar1 AV.isV Ef.app Ef.pk ptOf pntO wrO wr
attribute [-simp] List.getD_eq_getElem?_getD
set_option maxRecDepth 100000
theorem within_R (xs : List Int) : Within (.tup [.ref 0 0 xs.length, .v (.bool true)]) [(0, obI xs)] [0] :=
  ⟨fun k hk => by simpa [AV.ids, idsL] using hk, (within1 xs).2⟩
set_option maxHeartbeats 1000000 in
theorem rest_obj (c ts : List Int) (hc : okInts c = true) (ht : okInts ts = true) (hl : okL c = true) (hlf : leftL c ts = true) : FnObj Try.prog 32 [aInts c, aInts ts] (.tup [.ref 0 0 (restL c ts).length, .v (.bool true)]) [(0, obI (restL c ts))] [0] := by
  have hcl := okInts_len hc
  refine fn_obj TT_ok Try.func32 (c := _) rfl (by simp [Try.ntmps32]) (within_R _) (fun B hI0 hro => ?_)
  rw [Try.ntmps32]
  simp only [enumA]
  refine amGo PT1_ok (h := ?_)
  refine s_nil 6 40 3 1 (by simp [lk]) (by simp) ?_
  simp only [st]
  refine s_loop (J := fun i : {k : Nat // k ≤ c.length} => ⟨29, [(1, aInts ts), (6, .ref 40 0 (restL (c.take i.1) ts).length), (9, aInts c), (10, .v (.int .i64 (c.length : Int))), (11, .v (.int .i64 (i.1 : Int)))], [(40, ⟨3, 1, (restL (c.take i.1) ts).map fun x => [.v (.int .i64 x)]⟩)], [40]⟩) (μ := fun i => c.length - i.1) ⟨0, Nat.zero_le _⟩ ?_ (fun ⟨k, hk⟩ => ?_)
  · have h0 : restL [] ts = [] := rfl
    (refine weak_id rfl ?_ ?_ <;> ((try simp only [List.mem_cons, List.not_mem_nil, or_false, forall_eq_or_imp, forall_eq]); (try simp (disch := omega) [i64w, *])))
    all_goals rfl
  have hrl := restL_len (c.take k) ts
  rw [List.length_take] at hrl
  refine amGo PT1_ok (h := ?_)
  (focus ((with_reducible refine sp_cond (b := ?_) ?_ (fun hc => ?_) (fun hc => ?_)); rotate_left; (focus (first | rfl | (simp [lk, AS.ev]; rfl))); all_goals (try simp at hc)))
  · have hkk := hc
    clear hc
    have hcap : ((restL (c.take k) ts).length + 1) * 8 ≤ 140737488355328 := by omega
    have hts := restL_take (ts := ts) hkk
    have hr := okL_iff.1 hl _ (getD_memI hkk)
    have hmem := getD_memI hkk
    obtain ⟨x, hx⟩ : ∃ x, c.getD k 0 = x := ⟨_, rfl⟩
    rw [hx] at hts hr hmem
    have hok : okI x = true := okI_iff.2 ⟨by omega, by omega⟩
    have hokn : okI (-x) = true := okI_iff.2 ⟨by omega, by omega⟩
    have hw : IntKind.i64.wrap (-x) = -x := i64w (by omega) (by omega)
    have hxt : x ∉ ts := by
      have := List.all_eq_true.1 hlf x hmem
      simpa using this
    by_cases hnt : -x ∈ ts
    · rw [if_pos hnt] at hts
      refine amGo PT1_ok (h := ?_)
      refine k_lp (⟨k + 1, by omega⟩ : {k : Nat // k ≤ c.length}) (by dsimp only; omega) ?_
      (refine weak_id rfl ?_ ?_ <;> ((try simp only [List.mem_cons, List.not_mem_nil, or_false, forall_eq_or_imp, forall_eq]); (try simp (disch := omega) [i64w, *])))
    · rw [if_neg hnt] at hts
      refine amGo PT1_ok (h := ?_)
      refine k_lp (⟨k + 1, by omega⟩ : {k : Nat // k ≤ c.length}) (by dsimp only; omega) ?_
      (refine weak_of (fun q => if q = 40 then 44 else q) ⟨rfl, ?_, ?_, ?_⟩ <;> ((try simp only [List.mem_cons, List.not_mem_nil, or_false, forall_eq_or_imp, forall_eq]); (try simp (disch := omega) [lk, AV.ids, idsL, idsLL, AV.ren, renL, renLL, i64w, *])))
  · obtain rfl : c.length = k := by omega
    clear hc
    rw [List.take_length]
    refine amGo PT1_ok (h := ?_)
    refine post_obj (av := .tup [.ref 40 0 (restL c ts).length, .v (.bool true)]) (.inr rfl) (by rw [Try.results32]) ?_ (fun _ => 40) rfl (fun k ob hk => ?_) (fun k ob k' ob' hk hk' _ => ?_)
    · simp [retA, retL, ret1, lk, ldA, AV.cell]
    · simp only [lk] at hk
      split at hk <;> cases hk
      simp [lk, obI]
    · simp only [lk] at hk hk'
      split at hk <;> split at hk' <;> first | (cases hk; done) | (cases hk'; done) | omega
end Go.Proofs.Ytekeidhndlnghaa
