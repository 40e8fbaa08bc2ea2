/- parts.Alone where it returns an error; no condition. -/
import Derived.Test.YtekeidhndlnghaaAl16
import Derived.Test.YtekeidhndlnghaaWa
namespace Go.Proofs.Ytekeidhndlnghaa
set_option linter.unusedVariables false
set_option linter.unusedSimpArgs false
set_option linter.unusedSectionVars false
open Go.RowKit
attribute [local simp] List.getD_cons_zero List.getD_cons_succ List.getD_nil undef gvars runL runE effA stepA dstOk wantA core lk st dl AS.ev AS.evs AS.put AS.upd updO updI nxt cPick cAlloc cBox cBuild cBuildS cLoad cStore cNil plainOf cBin cNilS isNilS nilA cUn cConvX cConvB cConv bytesOf rowB cMake cSlice slA idxA cFA cF cIA cIX cIS cI cExt cLen cApp cMM cFun cCall lenA lenM isNilM nilM cNilM cMakeM hintB cMapK cLook foundR lookR cUpd putM cDel delM findA isKeyB Instr.sameNow AS.entry AS.bound AS.callee sc1 sc2 ixOk ldA AV.flat AV.cell AV.cells Value.oneCell' fillA spl chunk zeros AS.parts AS.rows AS.shut AS.shut1 AS.shut2 AS.shutL AS.shutM AV.ids idsL idsLL eqAll bndA AV.scalar AV.scalar1 AV.isV Ef.app Ef.pk ptOf pntO wrO wr
attribute [-simp] List.getD_eq_getElem?_getD
set_option maxRecDepth 100000
def alnE : AV := .tup [.agg [.v (.int .i64 0), .v (.slice none 0 0)], .v (.int .i64 1)]
def alnG (L : List (List Int)) (ts : List Int) (i : Int) : Bool := decide (0 ≤ i) && decide (i < L.length) && leftL (L.getD i.toNat []) ts
theorem alone_err1 (N : Int) (L : List (List Int)) (ts cs : List Int) (s : BitVec 128) (hN : okI N = true) (hL : okRows L = true) (ht : okInts ts = true) (hcs : okInts cs = true) (hck : chkL N L ts = none) : FnPure Try.prog 17 [aTh N L, aInts ts, aPart s cs] alnE := by
  have hca : chkA N L ts = .tup [.v (.slice none 0 0), .v (.int .i64 1)] := by unfold chkA; rw [hck]
  unfold aTh aPart alnE
  refine fn_sp TT_ok Try.func17 (c := _) rfl (by simp [Try.ntmps17]) (fun B hI0 hro => ?_)
  rw [Try.ntmps17]
  simp only [enumA]
  refine amGo PT86_ok (h := ?_)
  ((refine post_ret (av := ?_) (by first | exact .inl rfl | exact .inr rfl) (show (Try.f17).results.toList = _ from by rw [Try.results17]) ?_ ?_); rotate_left; (focus (simp [retA, retL, ret1, lk, st, ldA, AV.cell]; rfl)); (try simp [*]))
set_option maxHeartbeats 4000000 in
theorem alone_err2 (N : Int) (L : List (List Int)) (ts xs cs : List Int) (s : BitVec 128) (hN : okI N = true) (hL : okRows L = true) (ht : okInts ts = true) (hx : okInts xs = true) (hcs : okInts cs = true) (hc4 : cs.length ≤ 4096) (hck : chkL N L ts = some xs) (hz : checkT N L = 0) (hg : alnB L xs cs = false) : FnPure Try.prog 17 [aTh N L, aInts ts, aPart s cs] alnE := by
  have hca : chkA N L ts = .tup [aInts xs, .v (.int .i64 0)] := by unfold chkA; rw [hck]
  have hxn := okInts_len hx
  have hcn := okInts_len hcs
  obtain ⟨n0, n1, l4, hl3⟩ := checkT_ok hz
  unfold aTh aPart alnE
  refine fn_sp TT_ok Try.func17 (c := _) rfl (by simp [Try.ntmps17]) (fun B hI0 hro => ?_)
  rw [Try.ntmps17]
  simp only [enumA]
  refine amGo PT86_ok (h := ?_)
  refine s_cnil 6 0 1 40 25 1 rfl rfl (by simp) ?_ (by decide)
  (refine s_eq (τ := ?_) ?_ ?_; rotate_left; (focus ((try simp only [AS.frz, List.map_cons, List.map_nil]); (try simp [frzV, frzO, frzC, List.filter]); rfl)))
  refine s_loop (J := fun i : {k : Nat // k ≤ cs.length ∧ ∀ j, j < k → alnG L xs (cs.getD j 0) = true} => ⟨65, [(1, aInts xs), (3, .ptr 0 0 0), (6, .ptr 2 0 0), (7, .v (.int .i64 0)), (9, .ptr 6 0 0), (28, aInts cs), (29, .v (.int .i64 (cs.length : Int))), (30, .v (.int .i64 (i.1 : Int)))], [(40, ⟨25, 1, (alnL L xs (cs.take i.1)).map fun r => [aInts r]⟩), (0, ⟨24, 2, [[.v (.int .i64 N), aRows L]]⟩), (2, ⟨24, 2, [[.v (.int .i64 0), .v (.slice none 0 0)]]⟩), (6, ⟨24, 2, [[.v (.int .i64 N), .ref 40 0 i.1]]⟩)], [40, 6, 2, 0]⟩) (μ := fun i => cs.length - i.1) ⟨0, Nat.zero_le _, fun j hj => by omega⟩ ?_ (fun ⟨k, hk, hgk⟩ => ?_)
  · have hk0 : alnL L xs [] = [] := rfl
    (refine weak_id rfl ?_ ?_ <;> ((try simp only [List.mem_cons, List.not_mem_nil, or_false, forall_eq_or_imp, forall_eq]); (try simp (disch := omega) [i64w, *])))
  have hkl : (alnL L xs (cs.take k)).length = k := by rw [alnL_len, List.length_take]; omega
  have c1 : (k + 1) * 24 ≤ 140737488355328 := by omega
  have hwk : IntKind.i64.wrap ((k : Int) + 1) = (k : Int) + 1 := i64s k (by omega)
  refine amStr (h := ?_)
  refine amReg PT86_ok (h := ?_)
  refine amStr (h := ?_)
  (focus ((with_reducible refine sp_cond (b := ?_) ?_ (fun hc => ?_) (fun hc => ?_)); rotate_left; (focus (first | rfl | (simp [lk, AS.ev]; rfl))); all_goals (try simp at hc)))
  · have hkk := hc
    clear hc
    have hts := alnL_succ L xs (cs := cs) (k := k) hkk
    have hstep : alnG L xs (cs.getD k 0) = true → ∀ j, j < k + 1 → alnG L xs (cs.getD j 0) = true := fun h j hj => by
      by_cases e : j = k
      · subst e; exact h
      · exact hgk j (by omega)
    have hxi := okInts_mem hcs _ (getD_memI hkk)
    obtain ⟨x, hxe⟩ : ∃ x, cs.getD k 0 = x := ⟨_, rfl⟩
    rw [hxe] at hts hstep hxi
    by_cases hnx : x < 0
    · refine amGo PT86_ok (h := ?_)
      ((refine post_ret (av := ?_) (by first | exact .inl rfl | exact .inr rfl) (show (Try.f17).results.toList = _ from by rw [Try.results17]) ?_ ?_); rotate_left; (focus (simp [retA, retL, ret1, lk, st, ldA, AV.cell]; rfl)); (try simp [*]))
    by_cases hnl : (L.length : Int) ≤ x
    · refine amGo PT86_ok (h := ?_)
      ((refine post_ret (av := ?_) (by first | exact .inl rfl | exact .inr rfl) (show (Try.f17).results.toList = _ from by rw [Try.results17]) ?_ ?_); rotate_left; (focus (simp [retA, retL, ret1, lk, st, ldA, AV.cell]; rfl)); (try simp [*]))
    have hci := okRows_at hL x.toNat
    have hlc := hl3 _ (getD_memL (k := x.toNat) (by omega))
    have hokc : okL (L.getD x.toNat []) = true := okL_iff.2 fun y hy => by have := litOk_range (hlc.2 y hy); omega
    have x0 : 0 ≤ x := by omega
    have x1 : x < L.length := by omega
    have hmx : max x 0 = x := by omega
    have hx2 : x.toNat < L.length := by omega
    have hgG : alnG L xs x = leftL (L.getD x.toNat []) xs := by
      unfold alnG
      rw [show decide (0 ≤ x) = true from by simp; omega, show decide (x < L.length) = true from by simp; omega]; rfl
    rw [hgG] at hstep
    obtain ⟨c, hcc⟩ : ∃ c, L.getD x.toNat [] = c := ⟨_, rfl⟩
    rw [hcc] at hts hci hokc hstep
    clear hlc hgG
    cases hlf : leftL c xs
    · have hrA : restA c xs = .tup [.v (.slice none 0 0), .v (.bool false)] := by unfold restA; rw [hlf]; rfl
      clear hstep
      refine amGo PT86_ok (h := ?_)
      ((refine post_ret (av := ?_) (by first | exact .inl rfl | exact .inr rfl) (show (Try.f17).results.toList = _ from by rw [Try.results17]) ?_ ?_); rotate_left; (focus (simp [retA, retL, ret1, lk, st, ldA, AV.cell]; rfl)); (try simp [*]))
    · have hrA : restA c xs = .tup [aInts (restL c xs), .v (.bool true)] := by unfold restA; rw [if_pos hlf]
      have hst := hstep hlf
      clear hstep
      refine amGo PT86_ok (h := ?_)
      refine k_lp (⟨k + 1, by omega, hst⟩ : {k : Nat // k ≤ cs.length ∧ ∀ j, j < k → alnG L xs (cs.getD j 0) = true}) (by show cs.length - (k + 1) < cs.length - k; omega) ?_
      (refine weak_of (fun q => if q = 40 then 45 else q) ⟨rfl, ?_, ?_, ?_⟩ <;> ((try simp only [List.mem_cons, List.not_mem_nil, or_false, forall_eq_or_imp, forall_eq]); (try simp (disch := omega) [lk, AV.ids, idsL, idsLL, AV.ren, renL, renLL, i64w, *])))
  · obtain rfl : k = cs.length := by omega
    exfalso
    have : alnB L xs cs = true := by
      refine List.all_eq_true.2 fun i hi => ?_
      obtain ⟨j, hj, rfl⟩ := List.getElem_of_mem hi
      have := hgk j hj
      have e : cs.getD j 0 = cs[j] := by simp [List.getD, hj]
      rw [e] at this
      exact this
    rw [this] at hg; cases hg
end Go.Proofs.Ytekeidhndlnghaa
