/- Contract of censusref05.Given, by the abstract machine; no condition. -/
import Derived.Test.YthdjgcjpolpgdaaGi0
import Derived.Test.YthdjgcjpolpgdaaWa
namespace Go.Proofs.Ythdjgcjpolpgdaa
set_option linter.unusedVariables false
set_option linter.unusedSimpArgs false
set_option linter.unusedSectionVars false
open Go.RowKit
attribute [local simp] List.getD_cons_zero List.getD_cons_succ List.getD_nil undef gvars runL runE effA stepA dstOk wantA core lk st dl AS.ev AS.evs AS.put AS.upd updO updI nxt cPick cAlloc cBox cBuild cBuildS cLoad cStore cNil plainOf cBin cNilS isNilS nilA cUn cConvX cConvB cConv bytesOf rowB cMake cSlice slA idxA cFA cF cIA cIX cIS cI cExt cLen cApp cMM cFun cCall lenA lenM isNilM nilM cNilM cMakeM hintB cMapK cLook foundR lookR cUpd putM cDel delM findA isKeyB Instr.sameNow AS.entry AS.bound AS.callee sc1 sc2 ixOk ldA AV.flat AV.cell AV.cells Value.oneCell' fillA spl chunk zeros AS.parts AS.rows AS.shut AS.shut1 AS.shut2 AS.shutL AS.shutM AV.ids idsL idsLL eqAll bndA AV.scalar AV.scalar1 AV.isV Ef.app Ef.pk ptOf pntO wrO wr
attribute [-simp] List.getD_eq_getElem?_getD
set_option maxRecDepth 100000

def anyK (ts c : List Int) (j : Nat) : Bool := (c.take j).any fun l => decide (l ∈ ts)
theorem anyK_succ {ts c : List Int} {j : Nat} (hj : j < c.length) : anyK ts c (j + 1) = (anyK ts c j || decide (c.getD j 0 ∈ ts)) := by
  have : c.getD j 0 = c[j] := by simp [List.getD, hj]
  unfold anyK
  rw [List.take_succ_eq_append_getElem hj, List.any_append, this]
  simp
set_option maxHeartbeats 4000000 in
theorem rGiven_ok (N : Int) (L : List (List Int)) (ts : List Int) (hN : okI N = true) (h : okRows L = true) (ht : okInts ts = true) (hz : checkT N L = 0) (hr : termR N ts = true) : FnPure Try.prog 44 [aTh N L, aInts ts] (.tup [aTh N (givenT ts L), .v (.int .i64 0)]) := by
  have hck := checkT_ok hz
  have hm := okRows_len h
  have hmt := okInts_len ht
  unfold aTh
  refine fn_sp TT_ok Try.func44 (c := _) rfl (by simp [Try.ntmps44]) (fun B hI0 hro => ?_)
  rw [Try.ntmps44]
  simp only [enumA]
  refine amGo PT15_ok (h := ?_)
  refine s_cnil 5 0 1 6 25 1 rfl rfl (by simp) ?_ (by decide)
  (refine s_eq (τ := ?_) ?_ ?_; rotate_left; (focus ((try simp only [AS.frz, List.map_cons, List.map_nil]); (try simp [frzV, frzO, frzC, List.filter]); rfl)))
  refine s_loop (J := fun i : {k : Nat // k ≤ L.length} => ⟨89, [(1, aInts ts), (2, .ptr 0 0 0), (4, .ptr 1 0 0), (7, .ptr 5 0 0), (8, .v (.int .i64 (i.1 : Int)))], [(6, ⟨25, 1, (givenK ts L i.1).map fun xs => [aInts xs]⟩), (0, ⟨24, 2, [[.v (.int .i64 N), aRows L]]⟩), (1, ⟨24, 2, [[.v (.int .i64 0), .v (.slice none 0 0)]]⟩), (5, ⟨24, 2, [[.v (.int .i64 N), .ref 6 0 (givenK ts L i.1).length]]⟩)], [6, 5, 1, 0]⟩) (μ := fun i => L.length - i.1) ⟨0, Nat.zero_le _⟩ ?_ (fun ⟨k, hk⟩ => ?_)
  · have hk0 : givenK ts L 0 = [] := rfl
    (refine weak_id rfl ?_ ?_ <;> ((try simp only [List.mem_cons, List.not_mem_nil, or_false, forall_eq_or_imp, forall_eq]); (try simp (disch := omega) [i64w, *])))
  have hlen := givenK_len ts L k
  have hcap : ((givenK ts L k).length + 1) * 24 ≤ 140737488355328 := by omega
  refine amGo PT15_ok (h := ?_)
  (focus ((with_reducible refine sp_cond (b := ?_) ?_ (fun hc => ?_) (fun hc => ?_)); rotate_left; (focus (first | rfl | (simp [lk, AS.ev]; rfl))); all_goals (try simp at hc)))
  · have hkk := hc
    clear hc
    have hci := okRows_at h k
    have hcl := okInts_len hci
    have hmem := getD_memL hkk
    have hks := givenK_succ (ts := ts) hkk
    obtain ⟨hl128, hlit⟩ := hck.2.2.2 _ hmem
    refine amGo PT15_ok (h := ?_)
    refine s_nil 9 7 3 1 (by simp [lk]) (by simp) ?_
    simp only [st]
    refine s_loop (J := fun i : {j : Nat // j ≤ (L.getD k []).length} => ⟨89, [(1, aInts ts), (2, .ptr 0 0 0), (4, .ptr 1 0 0), (7, .ptr 5 0 0), (8, .v (.int .i64 (k : Int))), (9, .ref 7 0 (restC ts ((L.getD k []).take i.1)).length), (10, .v (.bool (anyK ts (L.getD k []) i.1))), (11, .v (.int .i64 (i.1 : Int)))], (7, ⟨3, 1, (restC ts ((L.getD k []).take i.1)).map fun x => [.v (.int .i64 x)]⟩) :: [(6, ⟨25, 1, (givenK ts L k).map fun xs => [aInts xs]⟩), (0, ⟨24, 2, [[.v (.int .i64 N), aRows L]]⟩), (1, ⟨24, 2, [[.v (.int .i64 0), .v (.slice none 0 0)]]⟩), (5, ⟨24, 2, [[.v (.int .i64 N), .ref 6 0 (givenK ts L k).length]]⟩)], [7, 6, 5, 1, 0]⟩) (μ := fun i => (L.getD k []).length - i.1) ⟨0, Nat.zero_le _⟩ ?_ (fun ⟨j, hj⟩ => ?_)
    · have hk1 : restC ts [] = [] := rfl
      have hk2 : anyK ts (L.getD k []) 0 = false := rfl
      (refine weak_id rfl ?_ ?_ <;> ((try simp only [List.mem_cons, List.not_mem_nil, or_false, forall_eq_or_imp, forall_eq]); (try simp (disch := omega) [i64w, *])))
    refine amGo PT15_ok (h := ?_)
    (focus ((with_reducible refine sp_cond (b := ?_) ?_ (fun hc => ?_) (fun hc => ?_)); rotate_left; (focus (first | rfl | (simp [lk, AS.ev]; rfl))); all_goals (try simp at hc)))
    · have hjj := hc
      clear hc
      have hrs := restC_succ (ts := ts) hjj
      have has := anyK_succ (ts := ts) hjj
      obtain ⟨r1, r2, r3, r4, r5⟩ := litOk_range (hlit _ (getD_memI hjj))
      have hrl : (restC ts ((L.getD k []).take j)).length ≤ 128 := by have := restC_len ts ((L.getD k []).take j); rw [List.length_take] at this; omega
      have hcap2 : ((restC ts ((L.getD k []).take j)).length + 1) * 8 ≤ 140737488355328 := by omega
      have hx1 : okI ((L.getD k []).getD j 0) = true := okI_iff.2 (okInts_at hci j)
      have hx2 : okI (-((L.getD k []).getD j 0)) = true := okI_iff.2 ⟨by omega, by omega⟩
      have hw : IntKind.i64.wrap (-((L.getD k []).getD j 0)) = -((L.getD k []).getD j 0) := i64w (by omega) (by omega)
      generalize hx : (L.getD k []).getD j 0 = x at hrs has r1 r2 r3 r4 r5 hx1 hx2 hw
      cases ha : anyK ts (L.getD k []) j <;> cases hb : decide (x ∈ ts) <;> cases hd : decide (-x ∈ ts)
      all_goals
        rw [ha, hb] at has
        first
          | rw [if_neg (of_decide_eq_false hd)] at hrs
          | rw [if_pos (of_decide_eq_true hd)] at hrs
        refine amGo PT15_ok (h := ?_)
        refine k_lp (⟨j + 1, by omega⟩ : {j : Nat // j ≤ (L.getD k []).length}) (by dsimp only; omega) ?_
        first
          | ((refine weak_of (fun k => if k = 7 then 18 else k) ⟨rfl, ?_, ?_, ?_⟩ <;> ((try simp only [List.mem_cons, List.not_mem_nil, or_false, forall_eq_or_imp, forall_eq]); (try simp (disch := omega) [lk, AV.ids, idsL, idsLL, AV.ren, renL, renLL, i64w, *])))
             done)
          | ((refine weak_id rfl ?_ ?_ <;> ((try simp only [List.mem_cons, List.not_mem_nil, or_false, forall_eq_or_imp, forall_eq]); (try simp (disch := omega) [i64w, *])))
             done)
    · obtain rfl : j = (L.getD k []).length := by omega
      have hfull : restC ts ((L.getD k []).take (L.getD k []).length) = restC ts (L.getD k []) := by rw [List.take_length]
      have hany : anyK ts (L.getD k []) (L.getD k []).length = !openC ts (L.getD k []) := by unfold anyK openC; rw [List.take_length, Bool.not_not]
      refine s_frz (fun k => k == 7) ?_
      (refine s_eq (τ := ?_) ?_ ?_; rotate_left; (focus ((try simp only [AS.frz, List.map_cons, List.map_nil]); (try simp [frzV, frzO, frzC, List.filter]); rfl)))
      cases ho : openC ts (L.getD k [])
      · rw [ho] at hany
        rw [if_neg (by rw [ho]; simp)] at hks
        refine amGo PT15_ok (h := ?_)
        refine k_lp (⟨k + 1, by omega⟩ : {k : Nat // k ≤ L.length}) (by dsimp only; omega) ?_
        (refine weak_id rfl ?_ ?_ <;> ((try simp only [List.mem_cons, List.not_mem_nil, or_false, forall_eq_or_imp, forall_eq]); (try simp (disch := omega) [i64w, *])))
      · rw [ho] at hany
        rw [if_pos ho] at hks
        refine amGo PT15_ok (h := ?_)
        refine k_lp (⟨k + 1, by omega⟩ : {k : Nat // k ≤ L.length}) (by dsimp only; omega) ?_
        (refine weak_of (fun k => if k = 6 then 12 else k) ⟨rfl, ?_, ?_, ?_⟩ <;> ((try simp only [List.mem_cons, List.not_mem_nil, or_false, forall_eq_or_imp, forall_eq]); (try simp (disch := omega) [lk, AV.ids, idsL, idsLL, AV.ren, renL, renLL, i64w, *])))
  · obtain rfl : k = L.length := by omega
    have hfin : givenK ts L L.length = givenT ts L := by unfold givenK givenT; rw [List.take_length]
    refine amGo PT15_ok (h := ?_)
    ((refine post_ret (av := ?_) (by first | exact .inl rfl | exact .inr rfl) (show (Try.f44).results.toList = _ from by rw [Try.results44]) ?_ ?_); rotate_left; (focus (simp [retA, retL, ret1, lk, st, ldA, AV.cell]; rfl)); (try simp [*]))
theorem rGiven_p (N : Int) (L : List (List Int)) (ts : List Int) (hN : okI N = true) (h : okRows L = true) (ht : okInts ts = true) : FnPure Try.prog 44 [aTh N L, aInts ts] (givenA N L ts) := by
  unfold givenA
  by_cases hz : checkT N L = 0
  · rw [if_pos hz]
    have hck := checkT_ok hz
    cases hr : termR N ts
    · rw [if_neg (by simp)]
      unfold aTh
      refine fn_sp TT_ok Try.func44 (c := _) rfl (by simp [Try.ntmps44]) (fun B hI0 hro => ?_)
      rw [Try.ntmps44]
      simp only [enumA]
      refine amGo PT15_ok (h := ?_)
      ((refine post_ret (av := ?_) (by first | exact .inl rfl | exact .inr rfl) (show (Try.f44).results.toList = _ from by rw [Try.results44]) ?_ ?_); rotate_left; (focus (simp [retA, retL, ret1, lk, st, ldA, AV.cell]; rfl)); (try simp [*]))
    · rw [if_pos rfl]
      exact rGiven_ok N L ts hN h ht hz hr
  · rw [if_neg hz]
    have hne : (checkT N L != 0) = true := by simpa using hz
    unfold aTh
    refine fn_sp TT_ok Try.func44 (c := _) rfl (by simp [Try.ntmps44]) (fun B hI0 hro => ?_)
    rw [Try.ntmps44]
    simp only [enumA]
    refine amGo PT15_ok (h := ?_)
    ((refine post_ret (av := ?_) (by first | exact .inl rfl | exact .inr rfl) (show (Try.f44).results.toList = _ from by rw [Try.results44]) ?_ ?_); rotate_left; (focus (simp [retA, retL, ret1, lk, st, ldA, AV.cell]; rfl)); (try simp [*]))
@[simp] def g_rGiven : List AV → Option (AV × Bool)
  | [.agg [.v (.int .i64 N), a0], a1] => (match toRows a0 with | some L => (match toInts a1 with | some ts => if (okI N && okRows L && okInts ts) = true then some (givenA N L ts, false) else none | none => none) | none => none)
  | _ => none
theorem e_rGiven : EntOk Try.prog 44 g_rGiven := ent_pure (by kernel_rfl) fun args r fr h => by
  unfold g_rGiven at h
  split at h
  · rename_i N a0 a1
    split at h
    · rename_i L t0
      split at h
      · rename_i ts t1
        split at h
        · rename_i hc
          simp only [Bool.and_eq_true] at hc
          obtain ⟨⟨m0, o0⟩, o1⟩ := hc
          cases h
          exact ⟨FnPure.cov (rGiven_p N L ts m0 o0 o1) (.cons (cov_th _ (cov_rows t0)) (.cons (cov_ints t1) .nil)), rfl⟩
        · cases h
      · cases h
    · cases h
  · cases h

end Go.Proofs.Ythdjgcjpolpgdaa
