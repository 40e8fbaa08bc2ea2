/- Contracts of censuslaw22.copied and censusref22.SameClaims on one claim; no condition. -/
import Derived.Test.YthdjgcjpolpgdaaFm22
import Derived.Test.YthdjgcjpolpgdaaWa
import Derived.Test.YthdjgcjpolpgdaaAm24
namespace Go.Proofs.Ythdjgcjpolpgdaa
set_option linter.unusedVariables false
set_option linter.unusedSimpArgs false
set_option linter.unusedSectionVars false
open Go.RowKit
attribute [local simp] List.getD_cons_zero List.getD_cons_succ List.getD_nil undef gvars runL runE effA stepA dstOk wantA core lk st dl AS.ev AS.evs AS.put AS.upd updO updI nxt cPick cAlloc cBox cBuild cBuildS cLoad cStore cNil plainOf cBin cNilS isNilS nilA cUn cConvX cConvB cConv bytesOf rowB cMake cSlice slA idxA cFA cF cIA cIX cIS cI cExt cLen cApp cMM cFun cCall lenA lenM isNilM nilM cNilM cMakeM hintB cMapK cLook foundR lookR cUpd putM cDel delM findA isKeyB Instr.sameNow AS.entry AS.bound AS.callee sc1 sc2 ixOk ldA AV.flat AV.cell AV.cells Value.oneCell' fillA spl chunk zeros AS.parts AS.rows AS.shut AS.shut1 AS.shut2 AS.shutL AS.shutM AV.ids idsL idsLL eqAll bndA AV.scalar AV.scalar1 AV.isV Ef.app Ef.pk ptOf pntO wrO wr
attribute [-simp] List.getD_eq_getElem?_getD
set_option maxRecDepth 100000
theorem cov_k1 {a b : AV} {ts cs : List Int} (h1 : toInts a = some ts) (h2 : toInts b = some cs) : Cov (.sl 2 [[a, b]]) (.sl 2 [[aInts ts, aInts cs]]) := by
  intro S v hv
  cases hv with
  | sl _ _ b n c us hn hc hm h0 hz ha h3 h4 =>
    refine .sl 2 _ b n c us hn hc hm h0 (fun i hi => ?_) ha h3 (fun i j hi hj => ?_)
    · obtain rfl : i = 0 := by simp at hi; omega
      rfl
    · obtain rfl : i = 0 := by simp at hi; omega
      match j, hj with
      | 0, hj => exact cov_ints h1 S _ (h4 0 0 (by simp) hj)
      | 1, hj => exact cov_ints h2 S _ (h4 0 1 (by simp) hj)
def objC (ts cs : List Int) : List (Nat × AObj) := [(0, ⟨27, 2, [[.ref 1 0 ts.length, .ref 2 0 cs.length]]⟩), (1, obI ts), (2, obI cs)]
theorem objC_key {ts cs : List Int} {k : Nat} {ob : AObj} (h : lk (objC ts cs) k = some ob) : (k = 0 ∧ ob = ⟨27, 2, [[.ref 1 0 ts.length, .ref 2 0 cs.length]]⟩) ∨ (k = 1 ∧ ob = obI ts) ∨ (k = 2 ∧ ob = obI cs) := by
  unfold objC at h
  simp only [lk] at h
  split at h
  · cases h; exact .inl ⟨by omega, rfl⟩
  · split at h
    · cases h; exact .inr (.inl ⟨by omega, rfl⟩)
    · split at h
      · cases h; exact .inr (.inr ⟨by omega, rfl⟩)
      · cases h
theorem within_C (ts cs : List Int) : Within (.ref 0 0 1) (objC ts cs) [0, 1, 2] := by
  refine ⟨fun k hk => by simp [AV.ids] at hk; simp [hk], fun k ob hk => ?_⟩
  rcases objC_key hk with ⟨rfl, rfl⟩ | ⟨rfl, rfl⟩ | ⟨rfl, rfl⟩
  · exact ⟨by simp, fun q hq => by simp [idsLL, idsL, AV.ids] at hq; rcases hq with rfl | rfl <;> simp⟩
  · refine ⟨by simp, fun q hq => ?_⟩
    rw [show idsLL (obI ts).xs = [] from ids_ints _] at hq; cases hq
  · refine ⟨by simp, fun q hq => ?_⟩
    rw [show idsLL (obI cs).xs = [] from ids_ints _] at hq; cases hq
theorem copied1_obj (ts cs : List Int) (ht : okInts ts = true) (hc : okInts cs = true) : FnObj Try.prog 17 [.sl 2 [[aInts ts, aInts cs]]] (.ref 0 0 1) (objC ts cs) [0, 1, 2] := by
  have lt := okInts_len ht
  have lc := okInts_len hc
  have c1 : ts.length * 8 ≤ 140737488355328 := by omega
  have c2 : cs.length * 8 ≤ 140737488355328 := by omega
  refine fn_obj TT_ok Try.func17 (c := _) rfl (by simp [Try.ntmps17]) (within_C _ _) (fun B hI0 hro => ?_)
  rw [Try.ntmps17]
  simp only [enumA]
  refine amGo PT71_ok (h := ?_)
  refine s_nil 3 40 27 2 (by simp [lk]) (by simp) ?_
  simp only [st]
  refine s_loop (J := fun i : {k : Nat // k ≤ 1} => if i.1 = 0 then ⟨26, [(3, .ref 40 0 0), (6, .sl 2 [[aInts ts, aInts cs]]), (7, .v (.int .i64 1)), (8, .v (.int .i64 0))], [(40, ⟨27, 2, []⟩)], [40]⟩ else ⟨26, [(3, .ref 55 0 1), (6, .sl 2 [[aInts ts, aInts cs]]), (7, .v (.int .i64 1)), (8, .v (.int .i64 1))], [(55, ⟨27, 2, [[.ref 48 0 ts.length, .ref 52 0 cs.length]]⟩), (48, obI ts), (52, obI cs)], [55, 48, 52]⟩) (μ := fun i => 1 - i.1) ⟨0, by omega⟩ ?_ (fun ⟨k, hk⟩ => ?_)
  · rw [if_pos rfl]
    (refine weak_id rfl ?_ ?_ <;> ((try simp only [List.mem_cons, List.not_mem_nil, or_false, forall_eq_or_imp, forall_eq]); (try simp (disch := omega) [i64w, *])))
  rcases (by omega : k = 0 ∨ k = 1) with rfl | rfl
  · simp only [if_true]
    refine amStr (h := ?_)
    refine amReg PT71_ok (h := ?_)
    refine amStr (h := ?_)
    refine amReg PT71_ok (h := ?_)
    refine amStr (h := ?_)
    refine amDrw PT71_ok (h := ?_)
    refine amStr (h := ?_)
    refine amReg PT71_ok (h := ?_)
    refine k_lp (⟨1, by omega⟩ : {k : Nat // k ≤ 1}) (by first | (dsimp only; omega) | omega) ?_
    simp only [if_neg Nat.one_ne_zero]
    unfold obI
    (refine weak_id rfl ?_ ?_ <;> ((try simp only [List.mem_cons, List.not_mem_nil, or_false, forall_eq_or_imp, forall_eq]); (try simp (disch := omega) [i64w, *])))
  · simp only [if_neg Nat.one_ne_zero]
    refine amGo PT71_ok (h := ?_)
    refine post_obj (av := .ref 55 0 1) (.inr rfl) (by rw [Try.results17]) ?_ (fun k => if k = 0 then 55 else if k = 1 then 48 else 52) rfl (fun k ob hk => ?_) (fun k ob k' ob' hk hk' e => ?_)
    · simp [retA, retL, ret1, lk, ldA, AV.cell]
    · rcases objC_key hk with ⟨rfl, rfl⟩ | ⟨rfl, rfl⟩ | ⟨rfl, rfl⟩ <;> simp [lk, obI, renLL, renL, AV.ren]
    · rcases objC_key hk with ⟨rfl, rfl⟩ | ⟨rfl, rfl⟩ | ⟨rfl, rfl⟩ <;> rcases objC_key hk' with ⟨rfl, rfl⟩ | ⟨rfl, rfl⟩ | ⟨rfl, rfl⟩ <;> first | rfl | (simp at e; done)
theorem copied1_f (ts cs : List Int) (ht : okInts ts = true) (hc : okInts cs = true) : FnFresh Try.prog 17 [.sl 2 [[aInts ts, aInts cs]]] (.sl 2 [[aInts ts, aInts cs]]) := by
  refine obj_fresh (fun S => glob0 _) (copied1_obj ts cs ht hc) rfl (fun k ob hk => ?_) (fun k => k == 1 || k == 2) (fun k => k == 0) ?_ (by simp [AV.ids, idsLL, idsL])
  · rcases objC_key hk with ⟨rfl, rfl⟩ | ⟨rfl, rfl⟩ | ⟨rfl, rfl⟩
    · exact ⟨by simp, fun r hr c hc => by simp at hr; subst hr; simp at hc; rcases hc with rfl | rfl <;> rfl⟩
    · refine ⟨by simp [obI], fun r hr c hc => ?_⟩
      obtain ⟨x, _, rfl⟩ := List.mem_map.1 hr
      simp at hc; subst hc; rfl
    · refine ⟨by simp [obI], fun r hr c hc => ?_⟩
      obtain ⟨x, _, rfl⟩ := List.mem_map.1 hr
      simp at hc; subst hc; rfl
  · unfold objC
    simp [AS.frz, frzV, frzO, frzC, List.filter, AS.shut2, AS.shut1, lk, obI, idsLL, idsL, AV.ids]
theorem sameClaims1_p (ts cs us ds : List Int) (ht : okInts ts = true) (hc : okInts cs = true) (h : decide (ts = us) = true ∧ decide (cs = ds) = true) : FnPure Try.prog 24 [.sl 2 [[aInts ts, aInts cs]], .sl 2 [[aInts us, aInts ds]]] (.v (.bool true)) := by
  obtain rfl := of_decide_eq_true h.1
  obtain rfl := of_decide_eq_true h.2
  clear h
  refine fn_sp TT_ok Try.func24 (c := _) rfl (by simp [Try.ntmps24]) (fun B hI0 hro => ?_)
  rw [Try.ntmps24]
  simp only [enumA]
  refine amGo PT71_ok (h := ?_)
  refine s_loop (J := fun i : {k : Nat // k ≤ 1} => ⟨43, [(0, .sl 2 [[aInts ts, aInts cs]]), (1, .sl 2 [[aInts ts, aInts cs]]), (5, .v (.int .i64 (i.1 : Int)))], [], []⟩) (μ := fun i => 1 - i.1) ⟨0, by omega⟩ ?_ (fun ⟨k, hk⟩ => ?_)
  · (refine weak_id rfl ?_ ?_ <;> ((try simp only [List.mem_cons, List.not_mem_nil, or_false, forall_eq_or_imp, forall_eq]); (try simp (disch := omega) [i64w, *])))
  rcases (by omega : k = 0 ∨ k = 1) with rfl | rfl
  · refine amGo PT71_ok (h := ?_)
    refine k_lp (⟨1, by omega⟩ : {k : Nat // k ≤ 1}) (by first | (dsimp only; omega) | omega) ?_
    (refine weak_id rfl ?_ ?_ <;> ((try simp only [List.mem_cons, List.not_mem_nil, or_false, forall_eq_or_imp, forall_eq]); (try simp (disch := omega) [i64w, *])))
  · refine amGo PT71_ok (h := ?_)
    ((refine post_ret (av := ?_) (by first | exact .inl rfl | exact .inr rfl) (show (Try.f24).results.toList = _ from by rw [Try.results24]) ?_ ?_); rotate_left; (focus (simp [retA, retL, ret1, lk, st, ldA, AV.cell]; rfl)); (try simp [*]))
@[simp] def g_copied : List AV → Option (AV × Bool)
  | [.sl 2 [[a0, b0]]] => (match toInts a0 with | some ts => (match toInts b0 with | some cs => if (okInts ts && okInts cs) = true then some (.sl 2 [[aInts ts, aInts cs]], true) else none | none => none) | none => none)
  | _ => none
theorem e_copied : EntOk Try.prog 17 g_copied := ent_fresh (by kernel_rfl) fun args r fr h => by
  unfold g_copied at h
  split at h
  · rename_i a0 b0
    split at h
    · rename_i ts t0
      split at h
      · rename_i cs s0
        split at h
        · rename_i hc
          simp only [Bool.and_eq_true] at hc
          obtain ⟨o0, p0⟩ := hc
          cases h
          exact FnFresh.cov (copied1_f ts cs o0 p0) (.cons (cov_k1 t0 s0) .nil)
        · cases h
      · cases h
    · cases h
  · cases h

@[simp] def g_sameClaims : List AV → Option (AV × Bool)
  | [.sl 2 [[a0, b0]], .sl 2 [[a1, b1]]] => (match toInts a0 with | some ts => (match toInts b0 with | some cs => (match toInts a1 with | some us => (match toInts b1 with | some ds => if (okInts ts && okInts cs && okInts us && okInts ds && (decide (ts = us) && decide (cs = ds))) = true then some (.v (.bool true), false) else none | none => none) | none => none) | none => none) | none => none)
  | _ => none
theorem e_sameClaims : EntOk Try.prog 24 g_sameClaims := ent_pure (by kernel_rfl) fun args r fr h => by
  unfold g_sameClaims at h
  split at h
  · rename_i a0 b0 a1 b1
    split at h
    · rename_i ts t0
      split at h
      · rename_i cs s0
        split at h
        · rename_i us t1
          split at h
          · rename_i ds s1
            split at h
            · rename_i hc
              simp only [Bool.and_eq_true] at hc
              obtain ⟨⟨⟨⟨o0, p0⟩, o1⟩, p1⟩, hk⟩ := hc
              cases h
              exact ⟨FnPure.cov (sameClaims1_p ts cs us ds o0 p0 hk) (.cons (cov_k1 t0 s0) (.cons (cov_k1 t1 s1) .nil)), rfl⟩
            · cases h
          · cases h
        · cases h
      · cases h
    · cases h
  · cases h

end Go.Proofs.Ythdjgcjpolpgdaa
