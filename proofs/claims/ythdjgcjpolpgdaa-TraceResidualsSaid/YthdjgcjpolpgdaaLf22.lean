/- Contracts of censusref22.Left and Residual; no condition. -/
import Derived.Test.YthdjgcjpolpgdaaFm22
import Derived.Test.YthdjgcjpolpgdaaWa
import Derived.Test.YthdjgcjpolpgdaaGi2
namespace Go.Proofs.Ythdjgcjpolpgdaa
set_option linter.unusedVariables false
set_option linter.unusedSimpArgs false
set_option linter.unusedSectionVars false
open Go.RowKit
attribute [local simp] List.getD_cons_zero List.getD_cons_succ List.getD_nil undef gvars runL runE effA stepA dstOk wantA core lk st dl AS.ev AS.evs AS.put AS.upd updO updI nxt cPick cAlloc cBox cBuild cBuildS cLoad cStore cNil plainOf cBin cNilS isNilS nilA cUn cConvX cConvB cConv bytesOf rowB cMake cSlice slA idxA cFA cF cIA cIX cIS cI cExt cLen cApp cMM cFun cCall lenA lenM isNilM nilM cNilM cMakeM hintB cMapK cLook foundR lookR cUpd putM cDel delM findA isKeyB Instr.sameNow AS.entry AS.bound AS.callee sc1 sc2 ixOk ldA AV.flat AV.cell AV.cells Value.oneCell' fillA spl chunk zeros AS.parts AS.rows AS.shut AS.shut1 AS.shut2 AS.shutL AS.shutM AV.ids idsL idsLL eqAll bndA AV.scalar AV.scalar1 AV.isV Ef.app Ef.pk ptOf pntO wrO wr
attribute [-simp] List.getD_eq_getElem?_getD
def l72 : List (FuncId × (List AV → Option (AV × Bool))) :=
  (44, g_rGiven) :: l71
theorem l72_ok : ∀ p ∈ l72, EntOk Try.prog p.1 p.2 := ent_cons e_rGiven (l71_ok)
def PT72 : PTab := tab l72
theorem PT72_ok : PTok Try.prog PT72 := tab_ok l72_ok
@[simp] theorem PT72_litVar : PT72 32 = g_litVar := rfl
@[simp] theorem PT72_litValid : PT72 77 = g_litValid := rfl
@[simp] theorem PT72_contains : PT72 50 = g_contains := rfl
@[simp] theorem PT72_check : PT72 46 = g_check := rfl
@[simp] theorem PT72_with : PT72 33 = g_with := rfl
@[simp] theorem PT72_without : PT72 31 = g_without := rfl
@[simp] theorem PT72_all : PT72 30 = g_all := rfl
@[simp] theorem PT72_rValid : PT72 71 = g_rValid := rfl
@[simp] theorem PT72_rCheck : PT72 42 = g_rCheck := rfl
@[simp] theorem PT72_litvalid : PT72 85 = g_litvalid := rfl
@[simp] theorem PT72_opposite : PT72 87 = g_opposite := rfl
@[simp] theorem PT72_clone : PT72 99 = g_clone := rfl
@[simp] theorem PT72_order : PT72 86 = g_order := rfl
@[simp] theorem PT72_term : PT72 69 = g_term := rfl
@[simp] theorem PT72_clause : PT72 57 = g_clause := rfl
@[simp] theorem PT72_equal : PT72 61 = g_equal := rfl
@[simp] theorem PT72_distinct : PT72 60 = g_distinct := rfl
@[simp] theorem PT72_normal : PT72 27 = g_normal := rfl
@[simp] theorem PT72_rContains : PT72 74 = g_rContains := rfl
@[simp] theorem PT72_rSameInts : PT72 52 = g_rSameInts := rfl
@[simp] theorem PT72_rAbs : PT72 114 = g_rAbs := rfl
@[simp] theorem PT72_rBefore : PT72 97 = g_rBefore := rfl
@[simp] theorem PT72_rSorted : PT72 75 = g_rSorted := rfl
@[simp] theorem PT72_rPut : PT72 76 = g_rPut := rfl
@[simp] theorem PT72_rNormal : PT72 45 = g_rNormal := rfl
@[simp] theorem PT72_place : PT72 62 = g_place := rfl
@[simp] theorem PT72_vHas : PT72 34 = g_vHas := rfl
@[simp] theorem PT72_vMinus : PT72 90 = g_vMinus := rfl
@[simp] theorem PT72_vCut : PT72 29 = g_vCut := rfl
@[simp] theorem PT72_vSub : PT72 65 = g_vSub := rfl
@[simp] theorem PT72_litHolds : PT72 64 = g_litHolds := rfl
@[simp] theorem PT72_litAny : PT72 36 = g_litAny := rfl
@[simp] theorem PT72_thEval : PT72 37 = g_thEval := rfl
@[simp] theorem PT72_rSame : PT72 22 = g_rSame := rfl
@[simp] theorem PT72_rTerm : PT72 73 = g_rTerm := rfl
@[simp] theorem PT72_thVars : PT72 35 = g_thVars := rfl
@[simp] theorem PT72_light : PT72 13 = g_light := rfl
@[simp] theorem PT72_given : PT72 41 = g_given := rfl
@[simp] theorem PT72_trLight : PT72 14 = g_trLight := rfl
@[simp] theorem PT72_trGood : PT72 47 = g_trGood := rfl
@[simp] theorem PT72_trLeft : PT72 20 = g_trLeft := rfl
@[simp] theorem PT72_trRes : PT72 18 = g_trRes := rfl
@[simp] theorem PT72_r2In : PT72 51 = g_r2In := rfl
@[simp] theorem PT72_r2Same : PT72 23 = g_r2Same := rfl
@[simp] theorem PT72_r2Var : PT72 72 = g_r2Var := rfl
@[simp] theorem PT72_r2Formed : PT72 43 = g_r2Formed := rfl
@[simp] theorem PT72_rGiven : PT72 44 = g_rGiven := rfl
set_option maxRecDepth 100000
theorem givenT_kept (L : List (List Int)) (ts cs : List Int) : givenT ts (rowsOf L (keptL L ts cs)) = givenT ts (rowsOf L cs) := by
  unfold givenT rowsOf keptL
  congr 1
  rw [List.filter_map, List.filter_map, List.filter_filter]
  congr 1
  refine List.filter_congr fun i _ => ?_
  exact Bool.and_self _
set_option maxHeartbeats 2000000 in
theorem r2Left_p (N : Int) (L : List (List Int)) (ts cs : List Int) (hN : okI N = true) (hL : okRows L = true) (ht : okInts ts = true) (hc : okInts cs = true) : FnPure Try.prog 21 [aTh N L, aCl ts cs] (keptA N L ts cs) := by
  have lt := okInts_len ht
  have lc := okInts_len hc
  have ll := okRows_len hL
  have hm : okI (L.length : Int) = true := okI_iff.2 ⟨by omega, by omega⟩
  unfold aTh
  by_cases hz : checkT N L = 0
  · have hck := checkT_ok hz
    have n0 := hck.1
    have n1 := hck.2.1
    cases hg : goodB N L.length ts cs
    · have hA : keptA N L ts cs = .tup [.v (.slice none 0 0), .v (.int .i64 1)] := by unfold keptA; rw [if_neg (by rw [hg]; simp)]
      unfold aCl
      refine fn_sp TT_ok Try.func21 (c := _) rfl (by simp [Try.ntmps21]) (fun B hI0 hro => ?_)
      rw [Try.ntmps21]
      simp only [enumA]
      refine amGo PT72_ok (h := ?_)
      ((refine post_ret (av := ?_) (by first | exact .inl rfl | exact .inr rfl) (show (Try.f21).results.toList = _ from by rw [Try.results21]) ?_ ?_); rotate_left; (focus (simp [retA, retL, ret1, lk, st, ldA, AV.cell]; rfl)); (try simp [*]))
    · have hA : keptA N L ts cs = .tup [aInts (keptL L ts cs), .v (.int .i64 0)] := by unfold keptA; rw [if_pos ⟨hz, hg⟩]
      have hix := good_ix hg
      have lc2 : cs.length ≤ 4096 := by
        have h1 := (checkT_ok hz).2.2.1
        by_cases h0 : cs.length = 0
        · omega
        · have := hix (cs.length - 1) (by omega); omega
      clear hck
      unfold aCl
      refine fn_sp TT_ok Try.func21 (c := _) rfl (by simp [Try.ntmps21]) (fun B hI0 hro => ?_)
      rw [Try.ntmps21]
      simp only [enumA]
      refine amGo PT72_ok (h := ?_)
      refine s_nil 6 40 3 1 (by simp [lk]) (by simp) ?_
      simp only [st]
      refine s_loop (J := fun i : {k : Nat // k ≤ cs.length} => ⟨67, [(2, .ptr 0 0 0), (3, .ptr 1 0 0), (6, .ref 40 0 (keptL L ts (cs.take i.1)).length), (7, .v (.int .i64 (i.1 : Int)))], [(40, ⟨3, 1, (keptL L ts (cs.take i.1)).map fun x => [.v (.int .i64 x)]⟩), (0, ⟨24, 2, [[.v (.int .i64 N), aRows L]]⟩), (1, ⟨27, 2, [[aInts ts, aInts cs]]⟩)], [40, 1, 0]⟩) (μ := fun i => cs.length - i.1) ⟨0, Nat.zero_le _⟩ ?_ (fun ⟨k, hk⟩ => ?_)
      · have hk0 : keptL L ts [] = [] := rfl
        (refine weak_id rfl ?_ ?_ <;> ((try simp only [List.mem_cons, List.not_mem_nil, or_false, forall_eq_or_imp, forall_eq]); (try simp (disch := omega) [i64w, *])))
      have hlen := keptL_len L ts (cs.take k)
      rw [List.length_take] at hlen
      have hcap : ((keptL L ts (cs.take k)).length + 1) * 8 ≤ 140737488355328 := by omega
      refine amGo PT72_ok (h := ?_)
      (focus ((with_reducible refine sp_cond (b := ?_) ?_ (fun hc => ?_) (fun hc => ?_)); rotate_left; (focus (first | rfl | (simp [lk, AS.ev]; rfl))); all_goals (try simp at hc)))
      · have hkk := hc
        clear hc
        obtain ⟨i0, i1⟩ := hix k hkk
        have hs := keptL_succ L ts hkk
        unfold keptF at hs
        obtain ⟨x, hx⟩ : ∃ x, cs.getD k 0 = x := ⟨_, rfl⟩
        rw [hx] at i0 i1 hs
        have x0 : 0 ≤ x := by omega
        have hmx : max x 0 = x := by omega
        have hx2 : x.toNat < L.length := by omega
        have hci := okRows_at hL x.toNat
        have hcl := okInts_len hci
        obtain ⟨c, hcc⟩ : ∃ c, L.getD x.toNat [] = c := ⟨_, rfl⟩
        rw [hcc] at hci hcl hs
        refine amGo PT72_ok (h := ?_)
        refine s_loop (J := fun i : {j : Nat // j ≤ c.length} => ⟨67, [(2, .ptr 0 0 0), (3, .ptr 1 0 0), (6, .ref 40 0 (keptL L ts (cs.take k)).length), (7, .v (.int .i64 (k : Int))), (8, aInts c), (9, .v (.bool (anyK ts c i.1))), (10, .v (.int .i64 (i.1 : Int)))], [(40, ⟨3, 1, (keptL L ts (cs.take k)).map fun x => [.v (.int .i64 x)]⟩), (0, ⟨24, 2, [[.v (.int .i64 N), aRows L]]⟩), (1, ⟨27, 2, [[aInts ts, aInts cs]]⟩)], [40, 1, 0]⟩) (μ := fun i => c.length - i.1) ⟨0, Nat.zero_le _⟩ ?_ (fun ⟨j, hj⟩ => ?_)
        · have hk0 : anyK ts c 0 = false := rfl
          (refine weak_id rfl ?_ ?_ <;> ((try simp only [List.mem_cons, List.not_mem_nil, or_false, forall_eq_or_imp, forall_eq]); (try simp (disch := omega) [i64w, *])))
        refine amGo PT72_ok (h := ?_)
        (focus ((with_reducible refine sp_cond (b := ?_) ?_ (fun hc => ?_) (fun hc => ?_)); rotate_left; (focus (first | rfl | (simp [lk, AS.ev]; rfl))); all_goals (try simp at hc)))
        · have hjj := hc
          clear hc
          have has := anyK_succ (ts := ts) hjj
          have hx1 := okI_iff.2 (okInts_at hci j)
          cases ha : anyK ts c j <;> cases hb : decide (c.getD j 0 ∈ ts)
          all_goals
            rw [ha, hb] at has
            refine amGo PT72_ok (h := ?_)
            refine k_lp (⟨j + 1, by omega⟩ : {j : Nat // j ≤ c.length}) (by dsimp only; omega) ?_
            (refine weak_id rfl ?_ ?_ <;> ((try simp only [List.mem_cons, List.not_mem_nil, or_false, forall_eq_or_imp, forall_eq]); (try simp (disch := omega) [i64w, *])))
        · obtain rfl : j = c.length := by omega
          clear hc
          have hany : anyK ts c c.length = c.any fun l => decide (l ∈ ts) := by unfold anyK; rw [List.take_length]
          cases hq : c.any fun l => decide (l ∈ ts)
          · rw [hq] at hs hany
            simp only [Bool.not_false, if_true] at hs
            refine amGo PT72_ok (h := ?_)
            refine k_lp (⟨k + 1, by omega⟩ : {k : Nat // k ≤ cs.length}) (by dsimp only; omega) ?_
            (refine weak_of (fun k => if k = 40 then 48 else k) ⟨rfl, ?_, ?_, ?_⟩ <;> ((try simp only [List.mem_cons, List.not_mem_nil, or_false, forall_eq_or_imp, forall_eq]); (try simp (disch := omega) [lk, AV.ids, idsL, idsLL, AV.ren, renL, renLL, i64w, *])))
          · rw [hq] at hs hany
            simp only [Bool.not_true, Bool.false_eq_true, if_false] at hs
            refine amGo PT72_ok (h := ?_)
            refine k_lp (⟨k + 1, by omega⟩ : {k : Nat // k ≤ cs.length}) (by dsimp only; omega) ?_
            (refine weak_id rfl ?_ ?_ <;> ((try simp only [List.mem_cons, List.not_mem_nil, or_false, forall_eq_or_imp, forall_eq]); (try simp (disch := omega) [i64w, *])))
      · obtain rfl : k = cs.length := by omega
        rw [List.take_length]
        refine amGo PT72_ok (h := ?_)
        ((refine post_ret (av := ?_) (by first | exact .inl rfl | exact .inr rfl) (show (Try.f21).results.toList = _ from by rw [Try.results21]) ?_ ?_); rotate_left; (focus (simp [retA, retL, ret1, lk, st, ldA, AV.cell]; rfl)); (try simp [*]))
  · have hA : keptA N L ts cs = .tup [.v (.slice none 0 0), .v (.int .i64 1)] := by unfold keptA; rw [if_neg (fun h => hz h.1)]
    have hne : (checkT N L != 0) = true := by simpa using hz
    unfold aCl
    refine fn_sp TT_ok Try.func21 (c := _) rfl (by simp [Try.ntmps21]) (fun B hI0 hro => ?_)
    rw [Try.ntmps21]
    simp only [enumA]
    refine amGo PT72_ok (h := ?_)
    ((refine post_ret (av := ?_) (by first | exact .inl rfl | exact .inr rfl) (show (Try.f21).results.toList = _ from by rw [Try.results21]) ?_ ?_); rotate_left; (focus (simp [retA, retL, ret1, lk, st, ldA, AV.cell]; rfl)); (try simp [*]))
set_option maxHeartbeats 4000000 in
theorem r2Residual_p (N : Int) (L : List (List Int)) (ts cs : List Int) (hN : okI N = true) (hL : okRows L = true) (ht : okInts ts = true) (hc : okInts cs = true) : FnPure Try.prog 19 [aTh N L, aCl ts cs] (resA N L ts cs) := by
  have lt := okInts_len ht
  have lc := okInts_len hc
  have ll := okRows_len hL
  have hm : okI (L.length : Int) = true := okI_iff.2 ⟨by omega, by omega⟩
  have ti1 := toInts_ints ts
  have ti2 := toInts_ints cs
  unfold aTh
  by_cases hz : checkT N L = 0
  · have n0 := (checkT_ok hz).1
    have n1 := (checkT_ok hz).2.1
    cases hg : goodB N L.length ts cs
    · have hA : resA N L ts cs = .tup [.agg [.v (.int .i64 0), .v (.slice none 0 0)], .v (.int .i64 1)] := by unfold resA; rw [if_neg (by rw [hg]; simp)]
      unfold aCl
      refine fn_sp TT_ok Try.func19 (c := _) rfl (by simp [Try.ntmps19]) (fun B hI0 hro => ?_)
      rw [Try.ntmps19]
      simp only [enumA]
      refine amGo PT72_ok (h := ?_)
      ((refine post_ret (av := ?_) (by first | exact .inl rfl | exact .inr rfl) (show (Try.f19).results.toList = _ from by rw [Try.results19]) ?_ ?_); rotate_left; (focus (simp [retA, retL, ret1, lk, st, ldA, AV.cell]; rfl)); (try simp [*]))
    · have hA : resA N L ts cs = .tup [.agg [.v (.int .i64 N), aRows (rsdL L ts cs)], .v (.int .i64 0)] := by unfold resA; rw [if_pos ⟨hz, hg⟩]; rfl
      have hl4 : cs.length ≤ 4096 := by have := good_len hg (by have := (checkT_ok hz).2.2.1; omega); omega
      have hgm := fun i hi => good_mem hg i hi
      have hck := rowsOf_check hz hl4 hgm
      have h128 := (checkT_ok hz).2.1
      have htm := good_term h128 hg
      have hgA : givenA N (rowsOf L cs) ts = .tup [.agg [.v (.int .i64 N), aRows (givenT ts (rowsOf L cs))], .v (.int .i64 0)] := by unfold givenA; rw [if_pos hck, if_pos htm]; rfl
      have hgc := givenT_check hck ts
      unfold rsdL at hA
      rw [givenT_kept] at hA
      have hnA : rNormA N (givenT ts (rowsOf L cs)) = .tup [.agg [.v (.int .i64 N), aRows (normL (givenT ts (rowsOf L cs)))], .v (.int .i64 0)] := by rw [← normA_rNorm]; unfold normA; rw [if_pos hgc]; rfl
      have hgr := okRows_check hgc
      have hrr := okRows_check hck
      clear hck hgc htm h128
      generalize givenT ts (rowsOf L cs) = Y at hgA hnA hgr hA
      generalize normL Y = Z at hA hnA
      unfold aCl
      refine fn_sp TT_ok Try.func19 (c := _) rfl (by simp [Try.ntmps19]) (fun B hI0 hro => ?_)
      rw [Try.ntmps19]
      simp only [enumA]
      refine amGo PT72_ok (h := ?_)
      refine s_cnil 6 0 1 40 25 1 rfl rfl (by simp) ?_ (by decide)
      (refine s_eq (τ := ?_) ?_ ?_; rotate_left; (focus ((try simp only [AS.frz, List.map_cons, List.map_nil]); (try simp [frzV, frzO, frzC, List.filter]); rfl)))
      refine s_loop (J := fun i : {k : Nat // k ≤ cs.length} => ⟨59, [(2, .ptr 0 0 0), (3, .ptr 1 0 0), (4, .ptr 2 0 0), (6, .ptr 6 0 0), (7, .v (.int .i64 (i.1 : Int)))], [(40, ⟨25, 1, (rowsOf L (cs.take i.1)).map fun xs => [aInts xs]⟩), (0, ⟨24, 2, [[.v (.int .i64 N), aRows L]]⟩), (1, ⟨27, 2, [[aInts ts, aInts cs]]⟩), (2, ⟨24, 2, [[.v (.int .i64 0), .v (.slice none 0 0)]]⟩), (6, ⟨24, 2, [[.v (.int .i64 N), .ref 40 0 i.1]]⟩)], [40, 6, 2, 1, 0]⟩) (μ := fun i => cs.length - i.1) ⟨0, Nat.zero_le _⟩ ?_ (fun ⟨k, hk⟩ => ?_)
      · have hk0 : rowsOf L [] = [] := rfl
        (refine weak_id rfl ?_ ?_ <;> ((try simp only [List.mem_cons, List.not_mem_nil, or_false, forall_eq_or_imp, forall_eq]); (try simp (disch := omega) [i64w, *])))
      have hkl : (rowsOf L (cs.take k)).length = k := by rw [rowsOf_len, List.length_take]; omega
      have c1 : (k + 1) * 24 ≤ 140737488355328 := by omega
      refine amGo PT72_ok (h := ?_)
      (focus ((with_reducible refine sp_cond (b := ?_) ?_ (fun hc => ?_) (fun hc => ?_)); rotate_left; (focus (first | rfl | (simp [lk, AS.ev]; rfl))); all_goals (try simp at hc)))
      · have hkk := hc
        clear hc
        have hts := rowsOf_succ L hkk
        have hx := hgm _ (getD_memI hkk)
        obtain ⟨x, hxe⟩ : ∃ x, cs.getD k 0 = x := ⟨_, rfl⟩
        rw [hxe] at hx hts
        have x0 : 0 ≤ x := hx.1
        have x1 : x < L.length := hx.2
        have hmx : max x 0 = x := by omega
        have hx2 : x.toNat < L.length := by omega
        clear hgm
        refine amGo PT72_ok (h := ?_)
        refine k_lp (⟨k + 1, by omega⟩ : {k : Nat // k ≤ cs.length}) (by dsimp only; omega) ?_
        (refine weak_of (fun k => if k = 40 then 53 else k) ⟨rfl, ?_, ?_, ?_⟩ <;> ((try simp only [List.mem_cons, List.not_mem_nil, or_false, forall_eq_or_imp, forall_eq]); (try simp (disch := omega) [lk, AV.ids, idsL, idsLL, AV.ren, renL, renLL, i64w, *])))
      · obtain rfl : k = cs.length := by omega
        rw [List.take_length] at hkl ⊢
        clear hc c1
        refine amStr (h := ?_)
        refine s_weak ⟨59, [(2, .ptr 0 0 0), (3, .ptr 1 0 0), (4, .ptr 2 0 0), (6, .ptr 6 0 0)], [(40, ⟨25, 1, (rowsOf L cs).map fun xs => [aInts xs]⟩), (0, ⟨24, 2, [[.v (.int .i64 N), aRows L]]⟩), (1, ⟨27, 2, [[aInts ts, aInts cs]]⟩), (2, ⟨24, 2, [[.v (.int .i64 0), .v (.slice none 0 0)]]⟩), (6, ⟨24, 2, [[.v (.int .i64 N), .ref 40 0 (rowsOf L cs).length]]⟩)], [40, 6, 2, 1, 0]⟩ ?_ ?_
        · (refine weak_id rfl ?_ ?_ <;> ((try simp only [List.mem_cons, List.not_mem_nil, or_false, forall_eq_or_imp, forall_eq]); (try simp (disch := omega) [i64w, *])))
        clear hkl
        generalize rowsOf L cs = R at hgA hrr ⊢
        refine s_frz (fun k => k == 40) ?_
        (refine s_eq (τ := ?_) ?_ ?_; rotate_left; (focus ((try simp only [AS.frz, List.map_cons, List.map_nil]); (try simp [frzV, frzO, frzC, List.filter]); rfl)))
        refine amGo PT72_ok (h := ?_)
        ((refine post_ret (av := ?_) (by first | exact .inl rfl | exact .inr rfl) (show (Try.f19).results.toList = _ from by rw [Try.results19]) ?_ ?_); rotate_left; (focus (simp [retA, retL, ret1, lk, st, ldA, AV.cell]; rfl)); (try simp [*]))
  · have hA : resA N L ts cs = .tup [.agg [.v (.int .i64 0), .v (.slice none 0 0)], .v (.int .i64 1)] := by unfold resA; rw [if_neg (fun h => hz h.1)]
    have hne : (checkT N L != 0) = true := by simpa using hz
    unfold aCl
    refine fn_sp TT_ok Try.func19 (c := _) rfl (by simp [Try.ntmps19]) (fun B hI0 hro => ?_)
    rw [Try.ntmps19]
    simp only [enumA]
    refine amGo PT72_ok (h := ?_)
    ((refine post_ret (av := ?_) (by first | exact .inl rfl | exact .inr rfl) (show (Try.f19).results.toList = _ from by rw [Try.results19]) ?_ ?_); rotate_left; (focus (simp [retA, retL, ret1, lk, st, ldA, AV.cell]; rfl)); (try simp [*]))
@[simp] def g_r2Left : List AV → Option (AV × Bool)
  | [.agg [.v (.int .i64 N), a0], .agg [a1, b1]] => (match toRows a0 with | some L => (match toInts a1 with | some ts => (match toInts b1 with | some cs => if (okI N && okRows L && okInts ts && okInts cs) = true then some (keptA N L ts cs, false) else none | none => none) | none => none) | none => none)
  | _ => none
theorem e_r2Left : EntOk Try.prog 21 g_r2Left := ent_pure (by kernel_rfl) fun args r fr h => by
  unfold g_r2Left at h
  split at h
  · rename_i N a0 a1 b1
    split at h
    · rename_i L t0
      split at h
      · rename_i ts t1
        split at h
        · rename_i cs s1
          split at h
          · rename_i hc
            simp only [Bool.and_eq_true] at hc
            obtain ⟨⟨⟨m0, o0⟩, o1⟩, p1⟩ := hc
            cases h
            exact ⟨FnPure.cov (r2Left_p N L ts cs m0 o0 o1 p1) (.cons (cov_th _ (cov_rows t0)) (.cons (cov_cl t1 s1) .nil)), rfl⟩
          · cases h
        · cases h
      · cases h
    · cases h
  · cases h

@[simp] def g_r2Res : List AV → Option (AV × Bool)
  | [.agg [.v (.int .i64 N), a0], .agg [a1, b1]] => (match toRows a0 with | some L => (match toInts a1 with | some ts => (match toInts b1 with | some cs => if (okI N && okRows L && okInts ts && okInts cs) = true then some (resA N L ts cs, false) else none | none => none) | none => none) | none => none)
  | _ => none
theorem e_r2Res : EntOk Try.prog 19 g_r2Res := ent_pure (by kernel_rfl) fun args r fr h => by
  unfold g_r2Res at h
  split at h
  · rename_i N a0 a1 b1
    split at h
    · rename_i L t0
      split at h
      · rename_i ts t1
        split at h
        · rename_i cs s1
          split at h
          · rename_i hc
            simp only [Bool.and_eq_true] at hc
            obtain ⟨⟨⟨m0, o0⟩, o1⟩, p1⟩ := hc
            cases h
            exact ⟨FnPure.cov (r2Residual_p N L ts cs m0 o0 o1 p1) (.cons (cov_th _ (cov_rows t0)) (.cons (cov_cl t1 s1) .nil)), rfl⟩
          · cases h
        · cases h
      · cases h
    · cases h
  · cases h

end Go.Proofs.Ythdjgcjpolpgdaa
