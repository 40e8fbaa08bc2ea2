/- Contract of trace.Residual, by the abstract machine; no condition. -/
import Derived.Test.YthdjgcjpolpgdaaTp1
import Derived.Test.YthdjgcjpolpgdaaWa
import Derived.Test.YthdjgcjpolpgdaaNil
namespace Go.Proofs.Ythdjgcjpolpgdaa
set_option linter.unusedVariables false
set_option linter.unusedSimpArgs false
set_option linter.unusedSectionVars false
open Go.RowKit
attribute [local simp] List.getD_cons_zero List.getD_cons_succ List.getD_nil undef gvars runL runE effA stepA dstOk wantA core lk st dl AS.ev AS.evs AS.put AS.upd updO updI nxt cPick cAlloc cBox cBuild cBuildS cLoad cStore cNil plainOf cBin cNilS isNilS nilA cUn cConvX cConvB cConv bytesOf rowB cMake cSlice slA idxA cFA cF cIA cIX cIS cI cExt cLen cApp cMM cFun cCall lenA lenM isNilM nilM cNilM cMakeM hintB cMapK cLook foundR lookR cUpd putM cDel delM findA isKeyB Instr.sameNow AS.entry AS.bound AS.callee sc1 sc2 ixOk ldA AV.flat AV.cell AV.cells Value.oneCell' fillA spl chunk zeros AS.parts AS.rows AS.shut AS.shut1 AS.shut2 AS.shutL AS.shutM AV.ids idsL idsLL eqAll bndA AV.scalar AV.scalar1 AV.isV Ef.app Ef.pk ptOf pntO wrO wr
attribute [-simp] List.getD_eq_getElem?_getD
set_option maxRecDepth 100000
set_option maxHeartbeats 4000000 in
theorem residual_p (N : Int) (L : List (List Int)) (ts cs : List Int) (hN : okI N = true) (hL : okRows L = true) (ht : okInts ts = true) (hc : okInts cs = true) : FnPure Try.prog 18 [aTh N L, aCl ts cs] (resA N L ts cs) := by
  have lt := okInts_len ht
  have lc := okInts_len hc
  have ti1 := toInts_ints ts
  have ti2 := toInts_ints cs
  unfold aTh
  by_cases hz : checkT N L = 0 ∧ goodB N L.length ts cs = true
  · have hA : resA N L ts cs = .tup [.agg [.v (.int .i64 N), aRows (rsdL L ts cs)], .v (.int .i64 0)] := by unfold resA; rw [if_pos hz]; rfl
    have hB : keptA N L ts cs = .tup [aInts (keptL L ts cs), .v (.int .i64 0)] := by unfold keptA; rw [if_pos hz]
    obtain ⟨hz, hg⟩ := hz
    have hck := left_check hz hg
    have hgm := fun i hi => good_mem hg i (kept_mem (L := L) (ts := ts) (i := i) hi)
    have hll := keptL_len L ts cs
    have h128 := (checkT_ok hz).2.1
    have hl4 : (keptL L ts cs).length ≤ 4096 := by have := good_len hg (by have := (checkT_ok hz).2.2.1; omega); omega
    have htm := good_term h128 hg
    have hgA : givenA N (rowsOf L (keptL L ts cs)) ts = .tup [.agg [.v (.int .i64 N), aRows (givenT ts (rowsOf L (keptL L ts cs)))], .v (.int .i64 0)] := by unfold givenA; rw [if_pos hck, if_pos htm]; rfl
    have hgc := givenT_check hck ts
    have hnA : normA N (givenT ts (rowsOf L (keptL L ts cs))) = .tup [.agg [.v (.int .i64 N), aRows (rsdL L ts cs)], .v (.int .i64 0)] := by unfold normA; rw [if_pos hgc]; rfl
    have hgr := okRows_check hgc
    have hrr := okRows_check hck
    clear hck hgc htm h128 hg
    generalize givenT ts (rowsOf L (keptL L ts cs)) = Y at hgA hnA hgr
    generalize rsdL L ts cs = Z at hA hnA
    unfold aCl
    obtain ⟨ls, hls⟩ : ∃ ls, keptL L ts cs = ls := ⟨_, rfl⟩
    rw [hls] at hB hgA hgm hll hrr hl4
    clear hls
    refine fn_sp TT_ok Try.func18 (c := _) rfl (by simp [Try.ntmps18]) (fun B hI0 hro => ?_)
    rw [Try.ntmps18]
    simp only [enumA]
    refine amGo PT25_ok (h := ?_)
    refine s_cnil 6 0 1 40 25 1 rfl rfl (by simp) ?_ (by decide)
    (refine s_eq (τ := ?_) ?_ ?_; rotate_left; (focus ((try simp only [AS.frz, List.map_cons, List.map_nil]); (try simp [frzV, frzO, frzC, List.filter]); rfl)))
    refine s_loop (J := fun i : {k : Nat // k ≤ ls.length} => ⟨56, [(2, .ptr 0 0 0), (3, .ptr 1 0 0), (4, .ptr 2 0 0), (5, .v (.int .i64 0)), (8, .ptr 6 0 0), (24, aInts ls), (25, .v (.int .i64 (ls.length : Int))), (26, .v (.int .i64 (i.1 : Int)))], [(40, ⟨25, 1, (rowsOf L (ls.take i.1)).map fun xs => [aInts xs]⟩), (0, ⟨24, 2, [[.v (.int .i64 N), aRows L]]⟩), (1, ⟨27, 2, [[aInts ts, aInts cs]]⟩), (2, ⟨24, 2, [[.v (.int .i64 0), .v (.slice none 0 0)]]⟩), (6, ⟨24, 2, [[.v (.int .i64 N), .ref 40 0 i.1]]⟩)], [40, 6, 2, 1, 0]⟩) (μ := fun i => ls.length - i.1) ⟨0, Nat.zero_le _⟩ ?_ (fun ⟨k, hk⟩ => ?_)
    · have hk0 : rowsOf L [] = [] := rfl
      (refine weak_id rfl ?_ ?_ <;> ((try simp only [List.mem_cons, List.not_mem_nil, or_false, forall_eq_or_imp, forall_eq]); (try simp (disch := omega) [i64w, *])))
    have hkl : (rowsOf L (ls.take k)).length = k := by rw [rowsOf_len, List.length_take]; omega
    have c1 : (k + 1) * 24 ≤ 140737488355328 := by omega
    refine amGo PT25_ok (h := ?_)
    (focus ((with_reducible refine sp_cond (b := ?_) ?_ (fun hc => ?_) (fun hc => ?_)); rotate_left; (focus (first | rfl | (simp [lk, AS.ev]; rfl))); all_goals (try simp at hc)))
    · have hkk := hc
      clear hc
      have hts := rowsOf_succ L hkk
      have hx := hgm _ (getD_memI hkk)
      obtain ⟨x, hxe⟩ : ∃ x, ls.getD k 0 = x := ⟨_, rfl⟩
      rw [hxe] at hx hts
      have x0 : 0 ≤ x := hx.1
      have x1 : x < L.length := hx.2
      have hmx : max x 0 = x := by omega
      have hx2 : x.toNat < L.length := by omega
      clear hgm
      refine amGo PT25_ok (h := ?_)
      refine k_lp (⟨k + 1, by omega⟩ : {k : Nat // k ≤ ls.length}) (by dsimp only; omega) ?_
      (refine weak_of (fun k => if k = 40 then 49 else k) ⟨rfl, ?_, ?_, ?_⟩ <;> ((try simp only [List.mem_cons, List.not_mem_nil, or_false, forall_eq_or_imp, forall_eq]); (try simp (disch := omega) [lk, AV.ids, idsL, idsLL, AV.ren, renL, renLL, i64w, *])))
    · obtain rfl : k = ls.length := by omega
      rw [List.take_length] at hkl ⊢
      clear hc c1
      refine amStr (h := ?_)
      refine s_weak ⟨56, [(2, .ptr 0 0 0), (3, .ptr 1 0 0), (4, .ptr 2 0 0), (5, .v (.int .i64 0)), (8, .ptr 6 0 0)], [(40, ⟨25, 1, (rowsOf L ls).map fun xs => [aInts xs]⟩), (0, ⟨24, 2, [[.v (.int .i64 N), aRows L]]⟩), (1, ⟨27, 2, [[aInts ts, aInts cs]]⟩), (2, ⟨24, 2, [[.v (.int .i64 0), .v (.slice none 0 0)]]⟩), (6, ⟨24, 2, [[.v (.int .i64 N), .ref 40 0 (rowsOf L ls).length]]⟩)], [40, 6, 2, 1, 0]⟩ ?_ ?_
      · (refine weak_id rfl ?_ ?_ <;> ((try simp only [List.mem_cons, List.not_mem_nil, or_false, forall_eq_or_imp, forall_eq]); (try simp (disch := omega) [i64w, *])))
      clear hkl
      generalize rowsOf L ls = R at hgA hrr ⊢
      refine s_frz (fun k => k == 40) ?_
      (refine s_eq (τ := ?_) ?_ ?_; rotate_left; (focus ((try simp only [AS.frz, List.map_cons, List.map_nil]); (try simp [frzV, frzO, frzC, List.filter]); rfl)))
      refine amGo PT25_ok (h := ?_)
      ((refine post_ret (av := ?_) (by first | exact .inl rfl | exact .inr rfl) (show (Try.f18).results.toList = _ from by rw [Try.results18]) ?_ ?_); rotate_left; (focus (simp [retA, retL, ret1, lk, st, ldA, AV.cell]; rfl)); (try simp [*]))
  · have hA : resA N L ts cs = .tup [.agg [.v (.int .i64 0), .v (.slice none 0 0)], .v (.int .i64 1)] := by unfold resA; rw [if_neg hz]
    have hB : keptA N L ts cs = .tup [.v (.slice none 0 0), .v (.int .i64 1)] := by unfold keptA; rw [if_neg hz]
    unfold aCl
    refine fn_sp TT_ok Try.func18 (c := _) rfl (by simp [Try.ntmps18]) (fun B hI0 hro => ?_)
    rw [Try.ntmps18]
    simp only [enumA]
    refine amGo PT25_ok (h := ?_)
    ((refine post_ret (av := ?_) (by first | exact .inl rfl | exact .inr rfl) (show (Try.f18).results.toList = _ from by rw [Try.results18]) ?_ ?_); rotate_left; (focus (simp [retA, retL, ret1, lk, st, ldA, AV.cell]; rfl)); (try simp [*]))
@[simp] def g_trRes : List AV → Option (AV × Bool)
  | [.agg [.v (.int .i64 N), a0], .agg [a1, b1]] => (match toRows a0 with | some L => (match toInts a1 with | some ts => (match toInts b1 with | some cs => if (okI N && okRows L && okInts ts && okInts cs) = true then some (resA N L ts cs, false) else none | none => none) | none => none) | none => none)
  | _ => none
theorem e_trRes : EntOk Try.prog 18 g_trRes := ent_pure (by kernel_rfl) fun args r fr h => by
  unfold g_trRes at h
  split at h
  · rename_i N a0 a1 b1
    split at h
    · rename_i L t0
      split at h
      · rename_i ts t1
        split at h
        · rename_i cs s1
          split at h
          · rename_i hc
            simp only [Bool.and_eq_true] at hc
            obtain ⟨⟨⟨m0, o0⟩, o1⟩, p1⟩ := hc
            cases h
            exact ⟨FnPure.cov (residual_p N L ts cs m0 o0 o1 p1) (.cons (cov_th _ (cov_rows t0)) (.cons (cov_cl t1 s1) .nil)), rfl⟩
          · cases h
        · cases h
      · cases h
    · cases h
  · cases h

def l26 : List (FuncId × (List AV → Option (AV × Bool))) :=
  (18, g_trRes) :: l25
theorem l26_ok : ∀ p ∈ l26, EntOk Try.prog p.1 p.2 := ent_cons e_trRes (l25_ok)
def PT26 : PTab := tab l26
theorem PT26_ok : PTok Try.prog PT26 := tab_ok l26_ok
@[simp] theorem PT26_litVar : PT26 32 = g_litVar := rfl
@[simp] theorem PT26_litValid : PT26 77 = g_litValid := rfl
@[simp] theorem PT26_contains : PT26 50 = g_contains := rfl
@[simp] theorem PT26_check : PT26 46 = g_check := rfl
@[simp] theorem PT26_with : PT26 33 = g_with := rfl
@[simp] theorem PT26_without : PT26 31 = g_without := rfl
@[simp] theorem PT26_all : PT26 30 = g_all := rfl
@[simp] theorem PT26_rValid : PT26 71 = g_rValid := rfl
@[simp] theorem PT26_rCheck : PT26 42 = g_rCheck := rfl
@[simp] theorem PT26_litvalid : PT26 85 = g_litvalid := rfl
@[simp] theorem PT26_opposite : PT26 87 = g_opposite := rfl
@[simp] theorem PT26_clone : PT26 99 = g_clone := rfl
@[simp] theorem PT26_order : PT26 86 = g_order := rfl
@[simp] theorem PT26_term : PT26 69 = g_term := rfl
@[simp] theorem PT26_clause : PT26 57 = g_clause := rfl
@[simp] theorem PT26_equal : PT26 61 = g_equal := rfl
@[simp] theorem PT26_distinct : PT26 60 = g_distinct := rfl
@[simp] theorem PT26_normal : PT26 27 = g_normal := rfl
@[simp] theorem PT26_rContains : PT26 74 = g_rContains := rfl
@[simp] theorem PT26_rSameInts : PT26 52 = g_rSameInts := rfl
@[simp] theorem PT26_rAbs : PT26 114 = g_rAbs := rfl
@[simp] theorem PT26_rBefore : PT26 97 = g_rBefore := rfl
@[simp] theorem PT26_rSorted : PT26 75 = g_rSorted := rfl
@[simp] theorem PT26_rPut : PT26 76 = g_rPut := rfl
@[simp] theorem PT26_rNormal : PT26 45 = g_rNormal := rfl
@[simp] theorem PT26_place : PT26 62 = g_place := rfl
@[simp] theorem PT26_vHas : PT26 34 = g_vHas := rfl
@[simp] theorem PT26_vMinus : PT26 90 = g_vMinus := rfl
@[simp] theorem PT26_vCut : PT26 29 = g_vCut := rfl
@[simp] theorem PT26_vSub : PT26 65 = g_vSub := rfl
@[simp] theorem PT26_litHolds : PT26 64 = g_litHolds := rfl
@[simp] theorem PT26_litAny : PT26 36 = g_litAny := rfl
@[simp] theorem PT26_thEval : PT26 37 = g_thEval := rfl
@[simp] theorem PT26_rSame : PT26 22 = g_rSame := rfl
@[simp] theorem PT26_rTerm : PT26 73 = g_rTerm := rfl
@[simp] theorem PT26_thVars : PT26 35 = g_thVars := rfl
@[simp] theorem PT26_light : PT26 13 = g_light := rfl
@[simp] theorem PT26_given : PT26 41 = g_given := rfl
@[simp] theorem PT26_trLight : PT26 14 = g_trLight := rfl
@[simp] theorem PT26_trGood : PT26 47 = g_trGood := rfl
@[simp] theorem PT26_trLeft : PT26 20 = g_trLeft := rfl
@[simp] theorem PT26_trRes : PT26 18 = g_trRes := rfl
end Go.Proofs.Ythdjgcjpolpgdaa
