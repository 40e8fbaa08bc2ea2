/- censuslaw05.Copy, by the abstract machine; no condition. -/
import Derived.Test.YtafikekndefjcaaDoorOb2
import Derived.Test.YtafikekndefjcaaDoorWa
import Derived.Test.YtafikekndefjcaaDoorJf
namespace Go.Proofs.YtafikekndefjcaaDoor
set_option linter.unusedVariables false
set_option linter.unusedSimpArgs false
set_option linter.unusedSectionVars false
open Go.RowKit
attribute [local simp] List.getD_cons_zero List.getD_cons_succ List.getD_nil undef gvars runL runE effA stepA dstOk wantA core lk st dl AS.ev AS.evs AS.put AS.upd updO updI nxt cPick cAlloc cBox cBuild cBuildS cLoad cStore cNil plainOf cBin cNilS isNilS nilA cUn cConvX cConvB cConv bytesOf rowB cMake cSlice slA idxA cFA cF cIA cIX cIS cI cExt cLen cApp cMM cFun cCall lenA lenM isNilM nilM cNilM cMakeM hintB cMapK cLook foundR lookR cUpd putM cDel delM findA isKeyB Instr.sameNow AS.entry AS.bound AS.callee sc1 sc2 ixOk ldA AV.flat AV.cell AV.cells Value.oneCell' fillA spl chunk zeros AS.parts AS.rows AS.shut AS.shut1 AS.shut2 AS.shutL AS.shutM AV.ids idsL idsLL eqAll bndA AV.scalar AV.scalar1 AV.isV Ef.app Ef.pk ptOf pntO wrO wr
attribute [-simp] List.getD_eq_getElem?_getD
set_option maxRecDepth 100000
def cpK (L : List (List Int)) (k : Nat) : List (List AV) := (L.take k).map fun xs => [aInts xs]
theorem cpK_succ {L : List (List Int)} {k : Nat} (hk : k < L.length) : cpK L (k + 1) = cpK L k ++ [[aInts (L.getD k [])]] := by
  have : L.getD k [] = L[k] := by simp [List.getD, hk]
  unfold cpK
  rw [this, List.take_succ_eq_append_getElem hk, List.map_append]; rfl
theorem cpK_len {L : List (List Int)} {k : Nat} (hk : k ≤ L.length) : (cpK L k).length = k := by simp [cpK]; omega
theorem cpK_ids (L : List (List Int)) (k : Nat) : idsLL (cpK L k) = [] := ids_rows _
theorem cpK_all (L : List (List Int)) : cpK L L.length = L.map fun xs => [aInts xs] := by unfold cpK; rw [List.take_length]
@[simp ↓ high] theorem d_frz_cp (σ : AS) (D : Nat → Bool) (L : List (List Int)) (k : Nat) : (cpK L k).map (fun r => r.map (frzC σ D)) = cpK L k := by
  unfold cpK
  rw [List.map_map]
  refine List.map_congr_left fun xs _ => ?_
  show [frzC σ D (aInts xs)] = [aInts xs]
  rw [d_frzC_ints]
@[simp ↓ high] theorem d_ren_cp (ρ : Nat → Nat) (L : List (List Int)) (k : Nat) : renLL ρ (cpK L k) = cpK L k := renLL_pure ρ _ (cpK_ids L k)
attribute [local simp] renLL_append
theorem cp_zero (L : List (List Int)) : cpK L 0 = [] := rfl
theorem copy_p (N : Int) (L : List (List Int)) (hN : okI N = true) (h : okRows L = true) : FnPure Tryd.prog 14 [aTh N L] (aTh N L) := by
  have hm := okRows_len h
  unfold aTh
  refine fn_sp TT_ok Tryd.func14 (c := _) rfl (by simp [Tryd.ntmps14]) (fun B hI0 hro => ?_)
  rw [Tryd.ntmps14]
  simp only [enumA]
  refine amGo PT3_ok (h := ?_)
  refine s_cnil 5 0 1 6 28 1 rfl rfl (by simp) ?_ (by decide)
  (refine s_eq (τ := ?_) ?_ ?_; rotate_left; (focus ((try simp only [AS.frz, List.map_cons, List.map_nil]); (try simp [frzV, frzO, frzC, List.filter]); rfl)))
  refine s_loop (J := fun i : {k : Nat // k ≤ L.length} => ⟨26, [(1, .ptr 0 0 0), (2, .ptr 1 0 0), (3, .ptr 5 0 0), (10, aRows L), (11, .v (.int .i64 (L.length : Int))), (12, .v (.int .i64 (i.1 : Int)))], [(6, ⟨28, 1, cpK L i.1⟩), (0, ⟨24, 2, [[.v (.int .i64 N), aRows L]]⟩), (1, ⟨24, 2, [[.v (.int .i64 0), .v (.slice none 0 0)]]⟩), (5, ⟨24, 2, [[.v (.int .i64 N), .ref 6 0 i.1]]⟩)], [6, 5, 1, 0]⟩) (μ := fun i => L.length - i.1) ⟨0, Nat.zero_le _⟩ ?_ (fun ⟨k, hk⟩ => ?_)
  · have hz := cp_zero L
    have hci := cpK_ids L 0
    (refine weak_id rfl ?_ ?_ <;> ((try simp only [List.mem_cons, List.not_mem_nil, or_false, forall_eq_or_imp, forall_eq]); (try simp (disch := omega) [i64w, *])))
  refine amGo PT3_ok (h := ?_)
  (focus ((with_reducible refine sp_cond (b := ?_) ?_ (fun hc => ?_) (fun hc => ?_)); rotate_left; (focus (first | rfl | (simp [lk, AS.ev]; rfl))); all_goals (try simp at hc)))
  · have hcap : (k + 1) * 24 ≤ 140737488355328 := by omega
    have ho := okRows_at h k
    have hol := okInts_len ho
    have hcap2 : (L.getD k []).length * 8 ≤ 140737488355328 := by omega
    have hs := cpK_succ hc
    have hcl := cpK_len hk
    have hci := cpK_ids L k
    refine amStr (h := ?_)
    refine amReg PT3_ok (h := ?_)
    refine amStr (h := ?_)
    refine amDrw PT3_ok (h := ?_)
    refine amStr (h := ?_)
    refine s_frz (fun q => q == 11) ?_
    (refine s_eq (τ := ?_) ?_ ?_; rotate_left; (focus ((try simp only [AS.frz, List.map_cons, List.map_nil]); (try simp [frzV, frzO, frzC, List.filter]); rfl)))
    refine amStr (h := ?_)
    refine amReg PT3_ok (h := ?_)
    refine k_lp (⟨k + 1, by omega⟩ : {k : Nat // k ≤ L.length}) (by dsimp only; omega) ?_
    (refine weak_of (fun q => if q = 6 then 13 else q) ⟨rfl, ?_, ?_, ?_⟩ <;> ((try simp only [List.mem_cons, List.not_mem_nil, or_false, forall_eq_or_imp, forall_eq]); (try simp (disch := omega) [lk, AV.ids, idsL, idsLL, AV.ren, renL, renLL, i64w, *])))
  · obtain rfl : k = L.length := by omega
    have hcl := cpK_len hk
    have hci := cpK_ids L L.length
    have hca := cpK_all L
    refine amGo PT3_ok (h := ?_)
    ((refine post_ret (av := ?_) (by first | exact .inl rfl | exact .inr rfl) (show (Tryd.f14).results.toList = _ from by rw [Tryd.results14]) ?_ ?_); rotate_left; (focus (simp [retA, retL, ret1, lk, st, ldA, AV.cell]; rfl)); (try simp [*]))
end Go.Proofs.YtafikekndefjcaaDoor
