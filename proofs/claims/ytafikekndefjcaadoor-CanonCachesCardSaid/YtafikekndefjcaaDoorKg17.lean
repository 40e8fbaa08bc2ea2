/- Get, Len, New; no condition. -/
import Derived.Test.YtafikekndefjcaaDoorKp17
import Derived.Test.YtafikekndefjcaaDoorWa
namespace Go.Proofs.YtafikekndefjcaaDoor
set_option linter.unusedVariables false
set_option linter.unusedSimpArgs false
set_option linter.unusedSectionVars false
open Go.RowKit
attribute [local simp] List.getD_cons_zero List.getD_cons_succ List.getD_nil undef gvars runL runE effA stepA dstOk wantA core lk st dl AS.ev AS.evs AS.put AS.upd updO updI nxt cPick cAlloc cBox cBuild cBuildS cLoad cStore cNil plainOf cBin cNilS isNilS nilA cUn cConvX cConvB cConv bytesOf rowB cMake cSlice slA idxA cFA cF cIA cIX cIS cI cExt cLen cApp cMM cFun cCall lenA lenM isNilM nilM cNilM cMakeM hintB cMapK cLook foundR lookR cUpd putM cDel delM findA isKeyB Instr.sameNow AS.entry AS.bound AS.callee sc1 sc2 ixOk ldA AV.flat AV.cell AV.cells Value.oneCell' fillA spl chunk zeros AS.parts AS.rows AS.shut AS.shut1 AS.shut2 AS.shutL AS.shutM AV.ids idsL idsLL eqAll bndA AV.scalar AV.scalar1 AV.isV Ef.app Ef.pk ptOf pntO wrO wr
attribute [-simp] List.getD_eq_getElem?_getD
set_option maxRecDepth 100000
attribute [local simp] lk_st
def gotZ : Option Int → AV
  | some v => .tup [.v (.int .i64 v), .v (.bool true)]
  | none => .tup [.v (.int .i64 0), .v (.bool false)]
theorem get_at_no {es : List (List Int × Int)} {k : List Int} (h : atZ es k = none) : getZ es k = none := by
  unfold atZ at h
  rw [List.findIdx?_eq_none_iff] at h
  unfold getZ
  rw [List.find?_eq_none.2 fun x hx => by have := h x hx; simpa using fun e => (of_decide_eq_false this) e.symm]
  rfl
theorem get_at : ∀ {es : List (List Int × Int)} {k : List Int} {j : Nat}, atZ es k = some j → getZ es k = some (es.getD j ([], 0)).2
  | [], _, _, h => by cases h
  | e :: es, k, j, h => by
    unfold atZ at h
    rw [List.findIdx?_cons] at h
    unfold getZ
    rw [List.find?_cons]
    by_cases he : k = e.1
    · rw [decide_eq_true he] at h
      simp at h
      subst h
      rw [decide_eq_true he.symm]; rfl
    · rw [decide_eq_false he] at h
      rw [decide_eq_false fun hh => he hh.symm]
      cases hj : es.findIdx? fun e => decide (k = e.1) with
      | none => rw [hj] at h; simp at h
      | some i =>
        rw [hj] at h
        simp at h
        subst h
        exact get_at (k := k) (j := i) hj
set_option maxHeartbeats 2000000 in
theorem get_proc {O : List (Nat × AObj)} {I : List Nat} {c m kk : Nat} {nm : Nat → Nat} {most : Int} {es : List (List Int × Int)} {ks : List Int} (h : CacheAt O I c m nm most es) (hkk : lk O kk = some (u8O ks)) (hkb : okB ks = true) :
    ProcB Tryd.prog TT Go.Proofs.Tryd.f29 [.ptr c 0 0, .ref kk 0 ks.length] O I (fun av O' I' => av = gotZ (getZ es ks) ∧ O' = O ∧ I' = I) := by
  have hc := h.hc
  have hm := h.hm
  have hfd := find_es hkb es nm 0 h.ok
  unfold csO at hc
  unfold mpO at hm
  unfold u8O at hkk
  have hbo := bytesOf_map ks
  obtain ⟨M, hM⟩ : ∃ M, mpR nm es = M := ⟨_, rfl⟩
  rw [hM] at hm hfd
  cases hat : atZ es ks with
  | none =>
    rw [hat] at hfd
    have hfd2 : findA .string (.string (strOfNums ks)) M 0 = some none := hfd
    have hg : gotZ (getZ es ks) = .tup [.v (.int .i64 0), .v (.bool false)] := by rw [get_at_no hat]; rfl
    rw [hg]
    clear hfd hat hM h hg
    refine ⟨_, rfl, fun B hI0 hro => ?_⟩
    rw [Tryd.ntmps29, Tryd.results29]
    simp only [enumA]
    refine amStr (h := ?_)
    refine amReg PTc_ok (h := ?_)
    refine amStr (h := ?_)
    refine amReg PTc_ok (h := ?_)
    refine amStr (h := ?_)
    refine amDrw PTc_ok (h := ?_)
    refine amStr (h := ?_)
    refine amReg PTc_ok (h := ?_)
    refine amStr (h := ?_)
    refine amReg PTc_ok (h := ?_)
    refine amStr (h := ?_)
    refine ⟨.inr rfl, _, rfl, rfl, ?_, ?_⟩ <;> simp [*]
  | some j =>
    rw [hat] at hfd
    have hfd2 : findA .string (.string (strOfNums ks)) M 0 = some (some j) := hfd
    obtain ⟨hj, _⟩ := atZ_some h.keys hat
    have hg : gotZ (getZ es ks) = .tup [.v (.int .i64 (es.getD j ([], 0)).2), .v (.bool true)] := by rw [get_at hat]; rfl
    rw [hg]
    have hrow : M.getD j [] = [AV.v (.string (strOfNums (es.getD j ([], 0)).1)), .ptr (nm (j + 1)) 0 0] := by rw [← hM]; exact mpR_get hj
    have hlk := h.ring.lk (j + 1) (by omega)
    have hen : enZ es (j + 1) = es.getD j ([], 0) := by unfold enZ; rw [if_neg (by omega), Nat.add_sub_cancel]
    rw [hen] at hlk
    unfold lnkO at hlk
    generalize es.getD j ([], 0) = e at hrow hlk
    generalize AV.v (.string (strOfNums e.1)) = key at hrow hlk
    generalize nm (prv es.length (j + 1)) = p1 at hlk
    generalize nm (nxl es.length (j + 1)) = p2 at hlk
    generalize nm (j + 1) = p at hrow hlk
    clear hfd hat hM h hg hen hj
    refine ⟨_, rfl, fun B hI0 hro => ?_⟩
    rw [Tryd.ntmps29, Tryd.results29]
    simp only [enumA]
    refine amStr (h := ?_)
    refine amReg PTc_ok (h := ?_)
    refine amStr (h := ?_)
    refine amReg PTc_ok (h := ?_)
    refine amStr (h := ?_)
    refine amDrw PTc_ok (h := ?_)
    refine amStr (h := ?_)
    refine amReg PTc_ok (h := ?_)
    refine amStr (h := ?_)
    refine amReg PTc_ok (h := ?_)
    refine amStr (h := ?_)
    refine ⟨.inr rfl, _, rfl, ?_, ?_, ?_⟩ <;> simp [*]
set_option maxHeartbeats 2000000 in
theorem get_procB {O : List (Nat × AObj)} {I : List Nat} {c m : Nat} {nm : Nat → Nat} {most : Int} {es : List (List Int × Int)} {ks : List Int} (h : CacheAt O I c m nm most es) (hkb : okB ks = true) :
    ProcB Tryd.prog TT Go.Proofs.Tryd.f29 [.ptr c 0 0, aB ks] O I (fun av O' I' => av = gotZ (getZ es ks) ∧ O' = O ∧ I' = I) := by
  have hc := h.hc
  have hm := h.hm
  have hfd := find_es hkb es nm 0 h.ok
  unfold csO at hc
  unfold mpO at hm
  unfold aB
  have hbo := bytesOf_map ks
  obtain ⟨M, hM⟩ : ∃ M, mpR nm es = M := ⟨_, rfl⟩
  rw [hM] at hm hfd
  cases hat : atZ es ks with
  | none =>
    rw [hat] at hfd
    have hfd2 : findA .string (.string (strOfNums ks)) M 0 = some none := hfd
    have hg : gotZ (getZ es ks) = .tup [.v (.int .i64 0), .v (.bool false)] := by rw [get_at_no hat]; rfl
    rw [hg]
    clear hfd hat hM h hg
    refine ⟨_, rfl, fun B hI0 hro => ?_⟩
    rw [Tryd.ntmps29, Tryd.results29]
    simp only [enumA]
    refine amStr (h := ?_)
    refine amReg PTc_ok (h := ?_)
    refine amStr (h := ?_)
    refine amReg PTc_ok (h := ?_)
    refine amStr (h := ?_)
    refine amDrw PTc_ok (h := ?_)
    refine amStr (h := ?_)
    refine amReg PTc_ok (h := ?_)
    refine amStr (h := ?_)
    refine amReg PTc_ok (h := ?_)
    refine amStr (h := ?_)
    refine ⟨.inr rfl, _, rfl, rfl, ?_, ?_⟩ <;> simp [*]
  | some j =>
    rw [hat] at hfd
    have hfd2 : findA .string (.string (strOfNums ks)) M 0 = some (some j) := hfd
    obtain ⟨hj, _⟩ := atZ_some h.keys hat
    have hg : gotZ (getZ es ks) = .tup [.v (.int .i64 (es.getD j ([], 0)).2), .v (.bool true)] := by rw [get_at hat]; rfl
    rw [hg]
    have hrow : M.getD j [] = [AV.v (.string (strOfNums (es.getD j ([], 0)).1)), .ptr (nm (j + 1)) 0 0] := by rw [← hM]; exact mpR_get hj
    have hlk := h.ring.lk (j + 1) (by omega)
    have hen : enZ es (j + 1) = es.getD j ([], 0) := by unfold enZ; rw [if_neg (by omega), Nat.add_sub_cancel]
    rw [hen] at hlk
    unfold lnkO at hlk
    generalize es.getD j ([], 0) = e at hrow hlk
    generalize AV.v (.string (strOfNums e.1)) = key at hrow hlk
    generalize nm (prv es.length (j + 1)) = p1 at hlk
    generalize nm (nxl es.length (j + 1)) = p2 at hlk
    generalize nm (j + 1) = p at hrow hlk
    clear hfd hat hM h hg hen hj
    refine ⟨_, rfl, fun B hI0 hro => ?_⟩
    rw [Tryd.ntmps29, Tryd.results29]
    simp only [enumA]
    refine amStr (h := ?_)
    refine amReg PTc_ok (h := ?_)
    refine amStr (h := ?_)
    refine amReg PTc_ok (h := ?_)
    refine amStr (h := ?_)
    refine amDrw PTc_ok (h := ?_)
    refine amStr (h := ?_)
    refine amReg PTc_ok (h := ?_)
    refine amStr (h := ?_)
    refine amReg PTc_ok (h := ?_)
    refine amStr (h := ?_)
    refine ⟨.inr rfl, _, rfl, ?_, ?_, ?_⟩ <;> simp [*]
theorem len_proc {O : List (Nat × AObj)} {I : List Nat} {c m : Nat} {nm : Nat → Nat} {most : Int} {es : List (List Int × Int)} (h : CacheAt O I c m nm most es) :
    ProcB Tryd.prog TT Go.Proofs.Tryd.f31 [.ptr c 0 0] O I (fun av O' I' => av = .v (.int .i64 (es.length : Int)) ∧ O' = O ∧ I' = I) := by
  have hc := h.hc
  have hm := h.hm
  have hl := mpR_len nm es
  unfold csO at hc
  unfold mpO at hm
  generalize mpR nm es = M at hm hl
  clear h
  refine ⟨_, rfl, fun B hI0 hro => ?_⟩
  rw [Tryd.ntmps31, Tryd.results31]
  simp only [enumA]
  refine amStr (h := ?_)
  refine amReg PTc_ok (h := ?_)
  refine amStr (h := ?_)
  refine amReg PTc_ok (h := ?_)
  refine amStr (h := ?_)
  refine amReg PTc_ok (h := ?_)
  refine amStr (h := ?_)
  refine ⟨.inr rfl, _, rfl, ?_, ?_, ?_⟩ <;> simp [*]
theorem str_nil : strOfNums [] = ByteArray.empty := rfl
set_option maxHeartbeats 2000000 in
theorem new_proc {O : List (Nat × AObj)} {I : List Nat} {c m s : Nat} {most : Int} (h0 : 0 ≤ most) (h1 : most ≤ 1073741824) (hm : m ∉ I) (hs : s ∉ I) (hc : c ∉ I) (nms : m ≠ s) (nmc : m ≠ c) (nsc : s ≠ c) :
    ProcB Tryd.prog TT Go.Proofs.Tryd.f25 [.v (.int .i64 most)] O I (fun av O' I' => av = .tup [.ptr c 0 0, .v (.int .i64 0)] ∧ I' = c :: s :: m :: I ∧ CacheAt O' (c :: s :: m :: I) c m (fun _ => s) most [] ∧ ∀ k, k ≠ c → k ≠ s → k ≠ m → lk O' k = lk O k) := by
  have h2 : ¬ most < 0 := by omega
  have h3 : ¬ 1073741824 < most := by omega
  have nms2 := nms.symm
  have nmc2 := nmc.symm
  have nsc2 := nsc.symm
  refine ⟨_, rfl, fun B hI0 hro => ?_⟩
  rw [Tryd.ntmps25, Tryd.results25]
  simp only [enumA]
  refine amStr (h := ?_)
  refine amReg PTc_ok (h := ?_)
  refine amStr (h := ?_)
  refine amReg PTc_ok (h := ?_)
  refine amStr (h := ?_)
  refine s_regionL ?_
  ((iterate 1 (((with_reducible refine spl_step TT_ok PTc_ok (id := 0) (σ' := ?_) ?_ ?_); rotate_left; (focus (simp [*]; rfl))))))
  (((with_reducible refine spl_step TT_ok PTc_ok (id := m) (σ' := ?_) ?_ ?_); rotate_left; (focus (simp [*]; rfl))))
  ((iterate 1 (((with_reducible refine spl_step TT_ok PTc_ok (id := 0) (σ' := ?_) ?_ ?_); rotate_left; (focus (simp [*]; rfl))))))
  (((with_reducible refine spl_step TT_ok PTc_ok (id := s) (σ' := ?_) ?_ ?_); rotate_left; (focus (simp [*]; rfl))))
  ((iterate 1 (((with_reducible refine spl_step TT_ok PTc_ok (id := 0) (σ' := ?_) ?_ ?_); rotate_left; (focus (simp [*]; rfl))))))
  (((with_reducible refine spl_step TT_ok PTc_ok (id := c) (σ' := ?_) ?_ ?_); rotate_left; (focus (simp [*]; rfl))))
  ((iterate 1 (((with_reducible refine spl_step TT_ok PTc_ok (id := 0) (σ' := ?_) ?_ ?_); rotate_left; (focus (simp [*]; rfl))))))
  refine spl_nil ?_
  refine amStr (h := ?_)
  refine amDrw PTc_ok (h := ?_)
  refine amStr (h := ?_)
  have hz : Value.string ByteArray.empty = .string (strOfNums []) := rfl
  refine s_subS (τ := ⟨38, [(4, .ptr c 0 0)], st (st (st O m ⟨70, 0, []⟩) s (lnkO s s ([], 0))) c (csO m s most 0), c :: s :: m :: I⟩) ?_ ?_
  · refine SubS.ofL rfl (by simp) (fun k => ?_) ?_
    · unfold lnkO csO
      by_cases e1 : c = k
      · subst e1; simp [*]
      · by_cases e2 : s = k
        · subst e2; simp [*]; rfl
        · by_cases e3 : m = k
          · subst e3; simp [*]
          · simp [*]
    · simp [*]
  refine amReg PTc_ok (h := ?_)
  refine amStr (h := ?_)
  refine ⟨.inr rfl, _, rfl, rfl, rfl, ⟨?_, ?_, ⟨fun j hj => ?_, fun i j hi hj _ => ?_⟩, nmc.symm, fun j hj => ⟨nsc, nms.symm⟩, by simp, by simp, fun j hj => by simp, List.Pairwise.nil, fun e he => (by cases he), ?_, h0, h1⟩, fun k k1 k2 k3 => ?_⟩
  · rw [lk_st, if_pos rfl]; rfl
  · rw [lk_st, if_neg nmc.symm, lk_st, if_neg nms.symm, lk_st, if_pos rfl]; rfl
  · obtain rfl : j = 0 := by simpa using hj
    rw [lk_st, if_neg nsc.symm, lk_st, if_pos rfl]; rfl
  · simp at hi hj
    omega
  · have : useZ ([] : List (List Int × Int)) = 0 := rfl
    omega
  · rw [lk_st, if_neg (Ne.symm k1), lk_st, if_neg (Ne.symm k2), lk_st, if_neg (Ne.symm k3)]
end Go.Proofs.YtafikekndefjcaaDoor
