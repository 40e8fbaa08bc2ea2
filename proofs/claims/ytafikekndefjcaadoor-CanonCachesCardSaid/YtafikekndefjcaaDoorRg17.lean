/- The reference's cache in memory; Get; no condition. -/
import Derived.Test.YtafikekndefjcaaDoorRn17
import Derived.Test.YtafikekndefjcaaDoorWa
namespace Go.Proofs.YtafikekndefjcaaDoor
set_option linter.unusedVariables false
set_option linter.unusedSimpArgs false
set_option linter.unusedSectionVars false
open Go.RowKit
attribute [local simp] List.getD_cons_zero List.getD_cons_succ List.getD_nil undef gvars runL runE effA stepA dstOk wantA core lk st dl AS.ev AS.evs AS.put AS.upd updO updI nxt cPick cAlloc cBox cBuild cBuildS cLoad cStore cNil plainOf cBin cNilS isNilS nilA cUn cConvX cConvB cConv bytesOf rowB cMake cSlice slA idxA cFA cF cIA cIX cIS cI cExt cLen cApp cMM cFun cCall lenA lenM isNilM nilM cNilM cMakeM hintB cMapK cLook foundR lookR cUpd putM cDel delM findA isKeyB Instr.sameNow AS.entry AS.bound AS.callee sc1 sc2 ixOk ldA AV.flat AV.cell AV.cells Value.oneCell' fillA spl chunk zeros AS.parts AS.rows AS.shut AS.shut1 AS.shut2 AS.shutL AS.shutM AV.ids idsL idsLL eqAll bndA AV.scalar AV.scalar1 AV.isV Ef.app Ef.pk ptOf pntO wrO wr
attribute [-simp] List.getD_eq_getElem?_getD
set_option maxRecDepth 100000
attribute [local simp] lk_st
def rcO (L : AV) (most : Int) : AObj := ⟨53, 2, [[.v (.int .i64 most), L]]⟩
def elO (es : List (List Int × Int)) : AObj := ⟨96, 2, es.map rE⟩
structure RefAt (O : List (Nat × AObj)) (I : List Nat) (rc : Nat) (L : AV) (most : Int) (es : List (List Int × Int)) : Prop where
  hc : lk O rc = some (rcO L most)
  hl : (es = [] ∧ L = .v (.slice none 0 0)) ∨ ∃ r, L = .ref r 0 es.length ∧ lk O r = some (elO es) ∧ r ≠ rc ∧ r ∈ I
  ic : rc ∈ I
  ok : ∀ e ∈ es, okB e.1 = true
set_option maxHeartbeats 4000000 in
theorem rget_proc {O : List (Nat × AObj)} {I : List Nat} {rc : Nat} {L : AV} {most : Int} {es : List (List Int × Int)} {ks : List Int} (h : RefAt O I rc L most es) (hkb : okB ks = true) (hlen : es.length ≤ 4294967296) :
    ProcB Tryd.prog TT Go.Proofs.Tryd.f30 [.ptr rc 0 0, .v (.string (strOfNums ks))] O I (fun av O' I' => av = gotZ (getZ es ks) ∧ O' = O ∧ I' = I) := by
  have hc := h.hc
  unfold rcO at hc
  rcases h.hl with ⟨rfl, rfl⟩ | ⟨r, rfl, hr, _, _⟩
  · refine ⟨_, rfl, fun B hI0 hro => ?_⟩
    rw [Tryd.ntmps30, Tryd.results30]
    simp only [enumA]
    refine amStr (h := ?_)
    refine amReg PTv_ok (h := ?_)
    refine amStr (h := ?_)
    refine amReg PTv_ok (h := ?_)
    refine amStr (h := ?_)
    refine s_loopS (J := fun _ : Unit => ⟨34, [(0, .ptr rc 0 0), (6, .v (.int .i64 0))], O, I⟩) (μ := fun _ => 0) () (SubS.of rfl (by simp) rfl rfl) (fun _ => ?_)
    refine amStr (h := ?_)
    refine amReg PTv_ok (h := ?_)
    refine amStr (h := ?_)
    refine ks_exit ?_
    refine amStr (h := ?_)
    refine amReg PTv_ok (h := ?_)
    refine amStr (h := ?_)
    refine ⟨.inr rfl, _, rfl, rfl, rfl, rfl⟩
  · have hok := h.ok
    clear h
    unfold elO at hr
    refine ⟨_, rfl, fun B hI0 hro => ?_⟩
    rw [Tryd.ntmps30, Tryd.results30]
    simp only [enumA]
    refine amStr (h := ?_)
    refine amReg PTv_ok (h := ?_)
    refine amStr (h := ?_)
    refine amReg PTv_ok (h := ?_)
    refine amStr (h := ?_)
    refine s_loopS (J := fun y : {k : Nat // k ≤ es.length ∧ getZ (es.drop k) ks = getZ es ks} => ⟨34, [(0, .ptr rc 0 0), (1, .v (.string (strOfNums ks))), (6, .v (.int .i64 (y.1 : Int)))], O, I⟩) (μ := fun y => es.length - y.1) ⟨0, Nat.zero_le _, rfl⟩ (SubS.of rfl (by simp) rfl rfl) (fun ⟨k, hk, hgk⟩ => ?_)
    dsimp only
    refine amStr (h := ?_)
    refine amReg PTv_ok (h := ?_)
    refine amStr (h := ?_)
    (focus ((with_reducible refine sp_cond (b := ?_) ?_ (fun hc => ?_) (fun hc => ?_)); rotate_left; (focus (first | rfl | (simp [lk, AS.ev]; rfl))); all_goals (try simp at hc)))
    · rename_i hck
      have hkk : k < es.length := by omega
      clear hck
      have hg := rE_get hkk
      have hoke := hok es[k] (List.getElem_mem hkk)
      have hcut : es.drop k = es[k] :: es.drop (k + 1) := List.drop_eq_getElem_cons hkk
      have hwk : IntKind.i64.wrap ((k : Int) + 1) = (k : Int) + 1 := i64w (by omega) (by omega)
      by_cases he : es[k].1 = ks
      · have hget : getZ es ks = some es[k].2 := by
          rw [← hgk, hcut]; unfold getZ; rw [List.find?_cons_of_pos (by simpa using he)]; rfl
        have hes : strOfNums es[k].1 = strOfNums ks := by rw [he]
        obtain ⟨q, hq⟩ : ∃ q, es[k].2 = q := ⟨_, rfl⟩
        rw [hes, hq] at hg
        rw [hq] at hget
        have HG := Lib.hid hget
        clear hget hq hes hcut he
        refine amStr (h := ?_)
        refine amReg PTv_ok (h := ?_)
        refine amStr (h := ?_)
        refine amReg PTv_ok (h := ?_)
        refine amStr (h := ?_)
        refine ks_ret ?_
        refine amStr (h := ?_)
        refine ⟨.inr rfl, _, rfl, ?_, rfl, rfl⟩
        rw [HG.out]
        simp [gotZ]
      · have hne : ¬ strOfNums es[k].1 = strOfNums ks := fun h => he (strOf_inj hoke hkb h)
        have hgk2 : getZ (es.drop (k + 1)) ks = getZ es ks := by
          rw [← hgk, hcut]; unfold getZ; rw [List.find?_cons_of_neg (by simpa using he)]
        obtain ⟨q, hq⟩ : ∃ q, strOfNums es[k].1 = q := ⟨_, rfl⟩
        rw [hq] at hg hne
        have hne2 : (q.data == (strOfNums ks).data) = false := beq_eq_false_iff_ne.2 fun h => hne (congrArg ByteArray.mk h)
        clear hcut he hoke hq
        refine amStr (h := ?_)
        refine amReg PTv_ok (h := ?_)
        refine amStr (h := ?_)
        refine amReg PTv_ok (h := ?_)
        refine amStr (h := ?_)
        refine ks_lp (⟨k + 1, hkk, hgk2⟩ : {k : Nat // k ≤ es.length ∧ getZ (es.drop k) ks = getZ es ks}) (by dsimp only; omega) ?_
        refine SubS.of rfl ?_ rfl rfl
        simp
    · rename_i hck
      obtain rfl : k = es.length := by omega
      clear hck
      have hget : getZ es ks = none := by rw [← hgk, List.drop_length]; rfl
      refine amStr (h := ?_)
      refine ks_exit ?_
      refine amStr (h := ?_)
      refine amReg PTv_ok (h := ?_)
      refine amStr (h := ?_)
      refine ⟨.inr rfl, _, rfl, ?_, rfl, rfl⟩
      rw [hget]
      simp [gotZ]
end Go.Proofs.YtafikekndefjcaaDoor
