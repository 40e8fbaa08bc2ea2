/- parts.Split and the document's Split return the same; no condition. -/
import Derived.Test.YtekeidhndlnghaaRs16
import Derived.Test.YtekeidhndlnghaaWa
import Derived.Test.YtekeidhndlnghaaPs16
import Derived.Test.YtekeidhndlnghaaApG
import Derived.Test.YtekeidhndlnghaaFw16
import Derived.Test.YtekeidhndlnghaaOb6
/- Sx16: parts.Split and the document's Split return the same; no condition. -/
namespace Go.Proofs.Ytekeidhndlnghaa
set_option linter.unusedVariables false
set_option linter.unusedSimpArgs false
set_option linter.unusedSectionVars false
open Go.RowKit
attribute [local simp] List.getD_cons_zero List.getD_cons_succ List.getD_nil undef gvars runL runE effA stepA dstOk wantA core lk st dl AS.ev AS.evs AS.put AS.upd updO updI nxt cPick cAlloc cBox cBuild cBuildS cLoad cStore cNil plainOf cBin cNilS isNilS nilA cUn cConvX cConvB cConv bytesOf rowB cMake cSlice slA idxA cFA cF cIA cIX cIS cI cExt cLen cApp cMM cFun cCall lenA lenM isNilM nilM cNilM cMakeM hintB cMapK cLook foundR lookR cUpd putM cDel delM findA isKeyB Instr.sameNow AS.entry AS.bound AS.callee sc1 sc2 ixOk ldA AV.flat AV.cell AV.cells Value.oneCell' fillA spl chunk zeros AS.parts AS.rows AS.shut AS.shut1 AS.shut2 AS.shutL AS.shutM AV.ids idsL idsLL eqAll bndA AV.scalar AV.scalar1 AV.isV Ef.app Ef.pk ptOf pntO wrO wr
attribute [-simp] List.getD_eq_getElem?_getD
set_option maxRecDepth 100000
theorem FnPure.weak {P : Program} {f : FuncId} {args : List AV} {r r' : AV} (hw : ∀ G v, Rv G r v → Rv G r' v) (h : FnPure P f args r) : FnPure P f args r' := fun S w vs hS hn hv => (h S w vs hS hn hv).mono fun e w' hl => by
  obtain ⟨v, S', h1, h2, h3, h4, h5, h6⟩ := hl
  exact ⟨v, S', h1, h2, h3, h4, h5, hw _ _ h6⟩
theorem rv_nilN {G : Gh} (sz : Nat) : Rv G (.sl sz []) (.slice none 0 0) :=
  .sl sz [] none 0 0 (fun _ _ => undef) rfl (Nat.le_refl _) (Nat.zero_le _) (fun _ => rfl) (fun i h => by cases h) (fun h => by cases h) (fun i j h => by cases h) (fun i j h => by cases h)
theorem tup3_nil {G : Gh} {sz : Nat} {a b : AV} {v : Value} (h : Rv G (.tup [.v (.slice none 0 0), a, b]) v) : Rv G (.tup [.sl sz [], a, b]) v := by
  cases h with
  | tup _ us hl hh =>
    refine .tup _ us hl fun i hi => ?_
    match i, hi with
    | 0, _ =>
      have h0 := hh 0 (by simp)
      have h1 : Rv G (.v (.slice none 0 0)) (us.getD 0 undef) := h0
      rw [h1.v_eq]
      exact rv_nilN sz
    | 1, _ => exact hh 1 (by simp)
    | 2, _ => exact hh 2 (by simp)
def splA (l : List PrtL) (f : BitVec 128) (e : Int) : AV := .tup [aParts l, aSet f, .v (.int .i64 e)]
theorem splE_weak {G : Gh} {v : Value} (h : Rv G splE v) : Rv G (splA [] 0#128 1) v := tup3_nil h
theorem split_bad (N : Int) (L : List (List Int)) (ts : List Int) (hN : okI N = true) (hL : okRows L = true) (ht : okInts ts = true) (hck : chkL N L ts = none) : FnPure Try.prog 12 [aTh N L, aInts ts] splE := by
  have hca : chkA N L ts = .tup [.v (.slice none 0 0), .v (.int .i64 1)] := by unfold chkA; rw [hck]
  unfold aTh splE
  refine fn_sp TT_ok Try.func12 (c := _) rfl (by simp [Try.ntmps12]) (fun B hI0 hro => ?_)
  rw [Try.ntmps12]
  simp only [enumA]
  refine amGo PT86_ok (h := ?_)
  ((refine post_ret (av := ?_) (by first | exact .inl rfl | exact .inr rfl) (show (Try.f12).results.toList = _ from by rw [Try.results12]) ?_ ?_); rotate_left; (focus (simp [retA, retL, ret1, lk, st, ldA, AV.cell]; rfl)); (try simp [*]))
/-! The order of the term. -/
theorem litVars_order (ts : List Int) : litVars (orderL ts) = litVars ts := by
  apply sets_ext
  intro v _ _
  apply Bool.eq_iff_iff.2
  rw [litVars_has, litVars_has]
  simp [mem_orderL]
theorem growRound_order (ts : List Int) : ∀ (L : List (List Int)) (s : BitVec 128), growRound L (orderL ts) s = growRound L ts s
  | [], _ => rfl
  | c :: L, s => by
    show growRound L (orderL ts) (growStep (orderL ts) s c) = growRound L ts (growStep ts s c)
    have e : growStep (orderL ts) s c = growStep ts s c := by unfold growStep; rw [leftL_order, restL_order]
    rw [e, growRound_order ts L]
theorem growIter_order (L : List (List Int)) (ts : List Int) (s : BitVec 128) : ∀ k, growIter L (orderL ts) s k = growIter L ts s k
  | 0 => rfl
  | k + 1 => by
    show growRound L (orderL ts) (growIter L (orderL ts) s k) = growRound L ts (growIter L ts s k)
    rw [growIter_order L ts s k, growRound_order]
theorem refPart_order (L : List (List Int)) (ts : List Int) (i : Nat) : refPart L (orderL ts) i = refPart L ts i := by
  unfold refPart growSet growIdx
  simp only [growIter_order, leftL_order, restL_order]
theorem refParts_order (L : List (List Int)) (ts : List Int) : ∀ k, refParts L (orderL ts) k = refParts L ts k
  | 0 => by unfold refParts; simp [litVars_order]
  | k + 1 => by
    rw [refParts_succ, refParts_succ, refParts_order L ts k]
    unfold refStep refHead
    simp only [leftL_order, refPart_order]
def splL (N : Int) (L : List (List Int)) (ts : List Int) : List PrtL := if validT N L ts = true then (refParts L ts L.length).1 else []
def splF (N : Int) (L : List (List Int)) (ts : List Int) : BitVec 128 := if validT N L ts = true then freeTo (refParts L ts L.length).2 N.toNat else 0#128
def splEr (N : Int) (L : List (List Int)) (ts : List Int) : Int := if validT N L ts = true then 0 else 1
theorem valid_good {N : Int} {L : List (List Int)} {ts : List Int} (hv : validT N L ts = true) : GoodL N L ∧ 0 ≤ N ∧ L.length ≤ 4096 := by
  obtain ⟨n0, n1, l4, hl3⟩ := checkT_ok (valid_check hv)
  exact ⟨⟨n1, fun c hc => (hl3 c hc).2⟩, n0, l4⟩
theorem splL_eq {N : Int} {L : List (List Int)} {ts : List Int} (hv : validT N L ts = true) : splL N L ts = splitP N L (orderL ts) ∧ splF N L ts = splitF N L (orderL ts) := by
  obtain ⟨hg, h0, _⟩ := valid_good hv
  unfold splL splF
  rw [if_pos hv, if_pos hv, split_parts hg, split_free hg h0, refParts_order]
  exact ⟨rfl, rfl⟩
theorem okParts_spl (N : Int) (L : List (List Int)) (ts : List Int) : okParts (splL N L ts) = true := by
  by_cases hv : validT N L ts = true
  · obtain ⟨hg, h0, l4⟩ := valid_good hv
    obtain ⟨n0, n1, _, _⟩ := checkT_ok (valid_check hv)
    rw [(splL_eq hv).1, splitP_eq]
    simp only [okParts, Bool.and_eq_true, List.all_eq_true, decide_eq_true_eq]
    have hout : (outK L (orderL ts) L.length).length ≤ L.length := by
      unfold outK; rw [List.length_map]
      exact Nat.le_trans (List.length_filter_le _ _) (by simp)
    have hfin : (finK N L (orderL ts) L.length (N + 1).toNat).length ≤ (N + 1).toNat := by
      unfold finK
      exact Nat.le_trans (List.length_filterMap_le _ _) (by simp)
    refine ⟨fun p hp => ?_, by rw [List.length_append]; omega⟩
    rcases List.mem_append.1 hp with hp | hp
    · unfold outK at hp
      obtain ⟨i, hi, rfl⟩ := List.mem_map.1 hp
      have := List.mem_range.1 (List.mem_filter.1 hi).1
      have h1 : okI (i : Int) = true := okI_iff.2 ⟨by omega, by omega⟩
      simp [okInts, h1]
    · unfold finK at hp
      obtain ⟨v, _, e⟩ := List.mem_filterMap.1 hp
      split at e
      · cases e
        show okInts ((clsN N L (orderL ts) v).map fun i : Nat => (i : Int)) = true
        simp only [okInts, Bool.and_eq_true, List.all_eq_true, decide_eq_true_eq]
        refine ⟨fun x hx => ?_, ?_⟩
        · obtain ⟨i, hi, rfl⟩ := List.mem_map.1 hx
          have := ((mem_clsN N L (orderL ts)).1 hi).1
          exact okI_iff.2 ⟨by omega, by omega⟩
        · rw [List.length_map]
          unfold clsN firsts
          have h1 := List.length_filter_le (fun i => decide (keyN N L (orderL ts) i = v)) ((List.range L.length).filter (isF L (orderL ts)))
          have h2 := List.length_filter_le (isF L (orderL ts)) (List.range L.length)
          rw [List.length_range] at h2
          omega
      · cases e
  · unfold splL; rw [if_neg hv]; rfl
theorem okL_valid {N : Int} {L : List (List Int)} {ts : List Int} (hv : validT N L ts = true) : okL (orderL ts) = true := okL_iff.2 fun y hy => by
  have h1 := mem_orderL.1 hy
  unfold validT at hv
  simp only [Bool.and_eq_true, List.all_eq_true] at hv
  have hn := (checkT_ok (of_decide_eq_true hv.1.1)).2.1
  have := litOk_range (hv.1.2 y h1)
  omega
theorem split_p (N : Int) (L : List (List Int)) (ts : List Int) (hN : okI N = true) (hL : okLens L = true) (ht : okInts ts = true) : FnPure Try.prog 12 [aTh N L, aInts ts] (splA (splL N L ts) (splF N L ts) (splEr N L ts)) := by
  by_cases hv : validT N L ts = true
  · obtain ⟨_, _, h1, h2⟩ := checkT_ok (valid_check hv)
    have hLr : okRows L = true := okRows_lens hL (by omega) fun c hc => by have := (h2 c hc).1; omega
    obtain ⟨e1, e2⟩ := splL_eq hv
    have e3 : splEr N L ts = 0 := if_pos hv
    rw [e1, e2, e3]
    exact split_walk N L ts (orderL ts) hN hLr ht (okInts_order ht) (okL_valid hv) (by rw [chkL_valid, if_pos hv]) (valid_check hv)
  · have e1 : splL N L ts = [] := if_neg hv
    have e2 : splF N L ts = 0#128 := if_neg hv
    have e3 : splEr N L ts = 1 := if_neg hv
    rw [e1, e2, e3]
    refine FnPure.weak (fun G v => splE_weak) ?_
    by_cases hz : checkT N L = 0
    · obtain ⟨_, _, h1, h2⟩ := checkT_ok hz
      have hLr : okRows L = true := okRows_lens hL (by omega) fun c hc => by have := (h2 c hc).1; omega
      exact split_bad N L ts hN hLr ht (by rw [chkL_valid, if_neg hv])
    · exact split_e N L ts hL (okIL_ints ht) hz
theorem rSplit_p (N : Int) (L : List (List Int)) (ts : List Int) (hN : okI N = true) (hL : okLens L = true) (ht : okInts ts = true) : FnPure Try.prog 13 [aTh N L, aInts ts] (splA (splL N L ts) (splF N L ts) (splEr N L ts)) := by
  by_cases hv : validT N L ts = true
  · obtain ⟨_, _, h1, h2⟩ := checkT_ok (valid_check hv)
    have hLr : okRows L = true := okRows_lens hL (by omega) fun c hc => by have := (h2 c hc).1; omega
    have e1 : splL N L ts = (refParts L ts L.length).1 := if_pos hv
    have e2 : splF N L ts = freeTo (refParts L ts L.length).2 N.toNat := if_pos hv
    have e3 : splEr N L ts = 0 := if_pos hv
    rw [e1, e2, e3]
    exact rSplit_ok N L ts hN hLr ht hv
  · have e1 : splL N L ts = [] := if_neg hv
    have e2 : splF N L ts = 0#128 := if_neg hv
    have e3 : splEr N L ts = 1 := if_neg hv
    rw [e1, e2, e3]
    refine FnPure.weak (fun G v => splE_weak) ?_
    by_cases hz : checkT N L = 0
    · obtain ⟨_, _, h1, h2⟩ := checkT_ok hz
      have hLr : okRows L = true := okRows_lens hL (by omega) fun c hc => by have := (h2 c hc).1; omega
      exact rSplit_bad N L ts hN hLr ht (by simpa using hv)
    · exact rSplit_e N L ts hL (okIL_ints ht) hz
end Go.Proofs.Ytekeidhndlnghaa
/- Sy16: The table of the laws on components; no condition. -/
namespace Go.Proofs.Ytekeidhndlnghaa
set_option linter.unusedVariables false
set_option linter.unusedSimpArgs false
set_option linter.unusedSectionVars false
open Go.RowKit
set_option maxRecDepth 100000
@[simp] def g_few16 : List AV → Option (AV × Bool)
  | [.agg [.v (.int .i64 N), a0], a1] => (match toRows a0 with | some L => (match toInts a1 with | some ts => if (okLens L && okIL ts) = true then some (.v (.bool (fewW L ts)), false) else none | none => none) | none => none)
  | _ => none
theorem e_few16 : EntOk Try.prog 10 g_few16 := ent_pure (by kernel_rfl) fun args r fr h => by
  unfold g_few16 at h
  split at h
  · rename_i N a0 a1
    split at h
    · rename_i L t0
      split at h
      · rename_i ts t1
        split at h
        · rename_i hc
          simp only [Bool.and_eq_true] at hc
          obtain ⟨o0, o1⟩ := hc
          cases h
          exact ⟨FnPure.cov (few_w N L ts o0 o1) (.cons (cov_th _ (cov_rows t0)) (.cons (cov_ints t1) .nil)), rfl⟩
        · cases h
      · cases h
    · cases h
  · cases h

@[simp] def g_pSplit6 : List AV → Option (AV × Bool)
  | [.agg [.v (.int .i64 N), a0], a1] => (match toRows a0 with | some L => (match toInts a1 with | some ts => if (okLens L && okInts ts && okI N) = true then some (.tup [aParts (splL N L ts), aSet (splF N L ts), .v (.int .i64 (splEr N L ts))], false) else none | none => none) | none => none)
  | _ => none
theorem e_pSplit6 : EntOk Try.prog 12 g_pSplit6 := ent_pure (by kernel_rfl) fun args r fr h => by
  unfold g_pSplit6 at h
  split at h
  · rename_i N a0 a1
    split at h
    · rename_i L t0
      split at h
      · rename_i ts t1
        split at h
        · rename_i hc
          simp only [Bool.and_eq_true] at hc
          obtain ⟨⟨o0, o1⟩, hk⟩ := hc
          cases h
          exact ⟨FnPure.cov (split_p N L ts hk o0 o1) (.cons (cov_th _ (cov_rows t0)) (.cons (cov_ints t1) .nil)), rfl⟩
        · cases h
      · cases h
    · cases h
  · cases h

@[simp] def g_rSplit6 : List AV → Option (AV × Bool)
  | [.agg [.v (.int .i64 N), a0], a1] => (match toRows a0 with | some L => (match toInts a1 with | some ts => if (okLens L && okInts ts && okI N) = true then some (.tup [aParts (splL N L ts), aSet (splF N L ts), .v (.int .i64 (splEr N L ts))], false) else none | none => none) | none => none)
  | _ => none
theorem e_rSplit6 : EntOk Try.prog 13 g_rSplit6 := ent_pure (by kernel_rfl) fun args r fr h => by
  unfold g_rSplit6 at h
  split at h
  · rename_i N a0 a1
    split at h
    · rename_i L t0
      split at h
      · rename_i ts t1
        split at h
        · rename_i hc
          simp only [Bool.and_eq_true] at hc
          obtain ⟨⟨o0, o1⟩, hk⟩ := hc
          cases h
          exact ⟨FnPure.cov (rSplit_p N L ts hk o0 o1) (.cons (cov_th _ (cov_rows t0)) (.cons (cov_ints t1) .nil)), rfl⟩
        · cases h
      · cases h
    · cases h
  · cases h

def l95 : List (FuncId × (List AV → Option (AV × Bool))) :=
  (10, g_few16) :: (11, g_works6) :: (16, g_r4Same) :: (12, g_pSplit6) :: (13, g_rSplit6) :: l1
theorem l95_ok : ∀ p ∈ l95, EntOk Try.prog p.1 p.2 := ent_cons e_few16 (ent_cons e_works6 (ent_cons e_r4Same (ent_cons e_pSplit6 (ent_cons e_rSplit6 (l1_ok)))))
def PT95 : PTab := tab l95
theorem PT95_ok : PTok Try.prog PT95 := tab_ok l95_ok
@[simp] theorem PT95_few16 : PT95 10 = g_few16 := rfl
@[simp] theorem PT95_works6 : PT95 11 = g_works6 := rfl
@[simp] theorem PT95_r4Same : PT95 16 = g_r4Same := rfl
@[simp] theorem PT95_pSplit6 : PT95 12 = g_pSplit6 := rfl
@[simp] theorem PT95_rSplit6 : PT95 13 = g_rSplit6 := rfl
theorem fewW_len {L : List (List Int)} {ts : List Int} (h : fewW L ts = true) : ts.length ≤ 100 ∧ L.length ≤ 100 := by
  unfold fewW at h
  simp only [Bool.and_eq_true, decide_eq_true_eq] at h
  exact ⟨h.2, h.1.1⟩
end Go.Proofs.Ytekeidhndlnghaa
