/- Contracts of lit.Clause, slices.Equal, theory.distinct, by the abstract machine; no condition. -/
import Derived.Test.YtkollnaojpppcaaNrm
namespace Go.Proofs.Ytkollnaojpppcaa
open Go.RowKit

set_option maxRecDepth 100000
theorem okL_order {c : List Int} (h : okL c = true) : okL (orderL c) = true := okL_iff.2 fun y hy => okL_iff.1 h y (mem_orderL.1 hy)
theorem okInts_order {c : List Int} (h : okInts c = true) (hL : okL c = true) : okInts (orderL c) = true := by
  have h1 := okInts_len h
  have h2 := orderL_len c
  simp only [okInts, Bool.and_eq_true, List.all_eq_true, decide_eq_true_eq]
  exact ⟨fun y hy => okInts_mem h y (mem_orderL.1 hy), by omega⟩
/-- A clause in order, and whether it is always true; nothing at a wrong literal. -/
def clauseA (c : List Int) (n : Int) : AV := if (c.all fun y => litOk y n) then .tup [aInts (orderL c), .v (.bool (adjOpp (orderL c))), .v (.int .i64 0)] else .tup [.v (.slice none 0 0), .v (.bool false), .v (.int .i64 1)]
theorem clause_p (c : List Int) (n : Int) (hc : okInts c = true) (hn : okI n = true) : FnPure Try.prog 38 [aInts c, .v (.int .i64 n)] (clauseA c n) := by
  cases hv : (c.all fun y => litOk y n)
  · refine fn_sp TT_ok Try.func38 (c := _) rfl (by simp [Try.ntmps38]) (fun B hI0 hro => ?_)
    rw [Try.ntmps38]
    simp only [enumA]
    repeat (first
        | with_reducible refine s_seq ?_
        | with_reducible refine k_seq ?_
        | with_reducible refine k_seq_ret ?_
        | with_reducible refine k_seq_exit ?_
        | with_reducible refine k_blk ?_
        | with_reducible refine k_blk_ret ?_
        | with_reducible refine k_blk_exit ?_
        | ((with_reducible refine k_blk_out ?_ ?_); (focus decide))
        | with_reducible refine k_lp_ret ?_
        | with_reducible refine k_lp_exit ?_
        | with_reducible refine s_block ?_
        | with_reducible refine sp_skip ?_
        | with_reducible refine sp_ret ?_
        | with_reducible refine sp_exit ?_
        | ((with_reducible refine s_cond_t ?_ ?_); (focus (simp [-List.getD_eq_getElem?_getD, List.getD_cons_zero, List.getD_cons_succ, List.getD_nil, lk, AS.ev, *]; done)))
        | ((with_reducible refine s_cond_f ?_ ?_); (focus (simp [-List.getD_eq_getElem?_getD, List.getD_cons_zero, List.getD_cons_succ, List.getD_nil, lk, AS.ev, *]; done)))
        | (focus ((with_reducible refine s_region2 (q := ?_) (σ' := ?_) TT_ok PT1_ok ?_ ?_ ?_); rotate_left 2; (focus (first | (simp [nxt]; exact Eq.refl _) | exact Eq.refl _)); (focus ((repeat (((with_reducible refine runL_cons (σ1 := ?_) ?_ ?_); rotate_left; (focus (simp [-List.getD_eq_getElem?_getD, List.getD_cons_zero, List.getD_cons_succ, List.getD_nil, undef, runL, runE, effA, stepA, dstOk, wantA, core, lk, st, dl, AS.ev, AS.evs, AS.put, AS.upd, updO, updI, nxt, cPick, cAlloc, cBox, cBuild, cBuildS, cLoad, cStore, cNil, plainOf, cBin, cNilS, isNilS, nilA, cUn, cConv, cMake, cSlice, slA, idxA, cFA, cF, cIA, cIX, cIS, cI, cExt, cLen, cApp, cMM, cFun, cCall, lenA, AS.callee, sc1, sc2, ixOk, ldA, AV.flat, AV.cell, AV.cells, Value.oneCell', fillA, spl, chunk, zeros, AS.parts, AS.rows, AS.shut, AS.shut1, AS.shut2, AS.shutL, AS.shutM, AV.ids, idsL, idsLL, eqAll, bndA, AV.scalar, AV.scalar1, AV.isV, Ef.app, fpA, light, Ef.pk, ptOf, pntO, wrO, wr, *]; rfl))))); (exact runL_nil)))))
        | (focus ((with_reducible refine s_draw2 (q := ?_) (es := ?_) (σ' := ?_) prog_mixed TT_ok PT1_ok ?_ ?_ ?_ ?_); rotate_left 3; (focus (first | (simp [nxt]; exact Eq.refl _) | exact Eq.refl _)); (focus ((repeat (((with_reducible refine runE_cons (e := ?_) (σ1 := ?_) (es := ?_) ?_ ?_ ?_); rotate_left 3; (focus (simp [-List.getD_eq_getElem?_getD, List.getD_cons_zero, List.getD_cons_succ, List.getD_nil, undef, runL, runE, effA, stepA, dstOk, wantA, core, lk, st, dl, AS.ev, AS.evs, AS.put, AS.upd, updO, updI, nxt, cPick, cAlloc, cBox, cBuild, cBuildS, cLoad, cStore, cNil, plainOf, cBin, cNilS, isNilS, nilA, cUn, cConv, cMake, cSlice, slA, idxA, cFA, cF, cIA, cIX, cIS, cI, cExt, cLen, cApp, cMM, cFun, cCall, lenA, AS.callee, sc1, sc2, ixOk, ldA, AV.flat, AV.cell, AV.cells, Value.oneCell', fillA, spl, chunk, zeros, AS.parts, AS.rows, AS.shut, AS.shut1, AS.shut2, AS.shutL, AS.shutM, AV.ids, idsL, idsLL, eqAll, bndA, AV.scalar, AV.scalar1, AV.isV, Ef.app, fpA, light, Ef.pk, ptOf, pntO, wrO, wr, *]; exact Eq.refl _)); (focus (simp [-List.getD_eq_getElem?_getD, List.getD_cons_zero, List.getD_cons_succ, Ef.app, Ef.pk, pntO, wrO, wr, lk, AS.upd, updO, updI, AS.put, st, dl]; exact Eq.refl _))))); (exact runE_nil))); (focus (first | kernel_rfl | decide)))))
    ((refine post_ret (av := ?_) (by first | exact .inl rfl | exact .inr rfl) (show (Try.f38).results.toList = _ from by rw [Try.results38]) ?_ ?_); rotate_left; (focus (simp [-List.getD_eq_getElem?_getD, List.getD_cons_zero, List.getD_cons_succ, retA, retL, ret1, lk, st, ldA, AV.cell]; rfl)); (try simp [-List.getD_eq_getElem?_getD, List.getD_cons_zero, List.getD_cons_succ, List.getD_nil, undef, runL, runE, effA, stepA, dstOk, wantA, core, lk, st, dl, AS.ev, AS.evs, AS.put, AS.upd, updO, updI, nxt, cPick, cAlloc, cBox, cBuild, cBuildS, cLoad, cStore, cNil, plainOf, cBin, cNilS, isNilS, nilA, cUn, cConv, cMake, cSlice, slA, idxA, cFA, cF, cIA, cIX, cIS, cI, cExt, cLen, cApp, cMM, cFun, cCall, lenA, AS.callee, sc1, sc2, ixOk, ldA, AV.flat, AV.cell, AV.cells, Value.oneCell', fillA, spl, chunk, zeros, AS.parts, AS.rows, AS.shut, AS.shut1, AS.shut2, AS.shutL, AS.shutM, AV.ids, idsL, idsLL, eqAll, bndA, AV.scalar, AV.scalar1, AV.isV, Ef.app, fpA, light, Ef.pk, ptOf, pntO, wrO, wr, *]))
    simp [clauseA, hv]
  · have hL : okL c = true := by
      rw [okL_iff]; intro y hy; have := litOk_range (List.all_eq_true.1 hv y hy); omega
    have hO := okInts_order hc hL
    have hO2 := okL_order hL
    refine fn_sp TT_ok Try.func38 (c := _) rfl (by simp [Try.ntmps38]) (fun B hI0 hro => ?_)
    rw [Try.ntmps38]
    simp only [enumA]
    repeat (first
        | with_reducible refine s_seq ?_
        | with_reducible refine k_seq ?_
        | with_reducible refine k_seq_ret ?_
        | with_reducible refine k_seq_exit ?_
        | with_reducible refine k_blk ?_
        | with_reducible refine k_blk_ret ?_
        | with_reducible refine k_blk_exit ?_
        | ((with_reducible refine k_blk_out ?_ ?_); (focus decide))
        | with_reducible refine k_lp_ret ?_
        | with_reducible refine k_lp_exit ?_
        | with_reducible refine s_block ?_
        | with_reducible refine sp_skip ?_
        | with_reducible refine sp_ret ?_
        | with_reducible refine sp_exit ?_
        | ((with_reducible refine s_cond_t ?_ ?_); (focus (simp [-List.getD_eq_getElem?_getD, List.getD_cons_zero, List.getD_cons_succ, List.getD_nil, lk, AS.ev, *]; done)))
        | ((with_reducible refine s_cond_f ?_ ?_); (focus (simp [-List.getD_eq_getElem?_getD, List.getD_cons_zero, List.getD_cons_succ, List.getD_nil, lk, AS.ev, *]; done)))
        | (focus ((with_reducible refine s_region2 (q := ?_) (σ' := ?_) TT_ok PT1_ok ?_ ?_ ?_); rotate_left 2; (focus (first | (simp [nxt]; exact Eq.refl _) | exact Eq.refl _)); (focus ((repeat (((with_reducible refine runL_cons (σ1 := ?_) ?_ ?_); rotate_left; (focus (simp [-List.getD_eq_getElem?_getD, List.getD_cons_zero, List.getD_cons_succ, List.getD_nil, undef, runL, runE, effA, stepA, dstOk, wantA, core, lk, st, dl, AS.ev, AS.evs, AS.put, AS.upd, updO, updI, nxt, cPick, cAlloc, cBox, cBuild, cBuildS, cLoad, cStore, cNil, plainOf, cBin, cNilS, isNilS, nilA, cUn, cConv, cMake, cSlice, slA, idxA, cFA, cF, cIA, cIX, cIS, cI, cExt, cLen, cApp, cMM, cFun, cCall, lenA, AS.callee, sc1, sc2, ixOk, ldA, AV.flat, AV.cell, AV.cells, Value.oneCell', fillA, spl, chunk, zeros, AS.parts, AS.rows, AS.shut, AS.shut1, AS.shut2, AS.shutL, AS.shutM, AV.ids, idsL, idsLL, eqAll, bndA, AV.scalar, AV.scalar1, AV.isV, Ef.app, fpA, light, Ef.pk, ptOf, pntO, wrO, wr, *]; rfl))))); (exact runL_nil)))))
        | (focus ((with_reducible refine s_draw2 (q := ?_) (es := ?_) (σ' := ?_) prog_mixed TT_ok PT1_ok ?_ ?_ ?_ ?_); rotate_left 3; (focus (first | (simp [nxt]; exact Eq.refl _) | exact Eq.refl _)); (focus ((repeat (((with_reducible refine runE_cons (e := ?_) (σ1 := ?_) (es := ?_) ?_ ?_ ?_); rotate_left 3; (focus (simp [-List.getD_eq_getElem?_getD, List.getD_cons_zero, List.getD_cons_succ, List.getD_nil, undef, runL, runE, effA, stepA, dstOk, wantA, core, lk, st, dl, AS.ev, AS.evs, AS.put, AS.upd, updO, updI, nxt, cPick, cAlloc, cBox, cBuild, cBuildS, cLoad, cStore, cNil, plainOf, cBin, cNilS, isNilS, nilA, cUn, cConv, cMake, cSlice, slA, idxA, cFA, cF, cIA, cIX, cIS, cI, cExt, cLen, cApp, cMM, cFun, cCall, lenA, AS.callee, sc1, sc2, ixOk, ldA, AV.flat, AV.cell, AV.cells, Value.oneCell', fillA, spl, chunk, zeros, AS.parts, AS.rows, AS.shut, AS.shut1, AS.shut2, AS.shutL, AS.shutM, AV.ids, idsL, idsLL, eqAll, bndA, AV.scalar, AV.scalar1, AV.isV, Ef.app, fpA, light, Ef.pk, ptOf, pntO, wrO, wr, *]; exact Eq.refl _)); (focus (simp [-List.getD_eq_getElem?_getD, List.getD_cons_zero, List.getD_cons_succ, Ef.app, Ef.pk, pntO, wrO, wr, lk, AS.upd, updO, updI, AS.put, st, dl]; exact Eq.refl _))))); (exact runE_nil))); (focus (first | kernel_rfl | decide)))))
    ((refine post_ret (av := ?_) (by first | exact .inl rfl | exact .inr rfl) (show (Try.f38).results.toList = _ from by rw [Try.results38]) ?_ ?_); rotate_left; (focus (simp [-List.getD_eq_getElem?_getD, List.getD_cons_zero, List.getD_cons_succ, retA, retL, ret1, lk, st, ldA, AV.cell]; rfl)); (try simp [-List.getD_eq_getElem?_getD, List.getD_cons_zero, List.getD_cons_succ, List.getD_nil, undef, runL, runE, effA, stepA, dstOk, wantA, core, lk, st, dl, AS.ev, AS.evs, AS.put, AS.upd, updO, updI, nxt, cPick, cAlloc, cBox, cBuild, cBuildS, cLoad, cStore, cNil, plainOf, cBin, cNilS, isNilS, nilA, cUn, cConv, cMake, cSlice, slA, idxA, cFA, cF, cIA, cIX, cIS, cI, cExt, cLen, cApp, cMM, cFun, cCall, lenA, AS.callee, sc1, sc2, ixOk, ldA, AV.flat, AV.cell, AV.cells, Value.oneCell', fillA, spl, chunk, zeros, AS.parts, AS.rows, AS.shut, AS.shut1, AS.shut2, AS.shutL, AS.shutM, AV.ids, idsL, idsLL, eqAll, bndA, AV.scalar, AV.scalar1, AV.isV, Ef.app, fpA, light, Ef.pk, ptOf, pntO, wrO, wr, *]))
    simp [clauseA, hv]

/-! ### slices.Equal -/
/-- A list, read at a place. -/
@[simp] theorem ints_get {xs : List Int} {k : Nat} (h : k < xs.length) : (xs.map fun x => [AV.v (.int .i64 x)]).getD k [] = [.v (.int .i64 (xs.getD k 0))] := by simp [List.getD, h]
theorem equal_p (xs ys : List Int) (hx : okInts xs = true) (hy : okInts ys = true) : FnPure Try.prog 43 [aInts xs, aInts ys] (.v (.bool (decide (xs = ys)))) := by
  by_cases hl : xs.length = ys.length
  · have hm := okInts_len hx
    refine fn_sp TT_ok Try.func43 (c := _) rfl (by simp [Try.ntmps43]) (fun B hI0 hro => ?_)
    rw [Try.ntmps43]
    simp only [enumA]
    repeat (first
        | with_reducible refine s_seq ?_
        | with_reducible refine k_seq ?_
        | with_reducible refine k_seq_ret ?_
        | with_reducible refine k_seq_exit ?_
        | with_reducible refine k_blk ?_
        | with_reducible refine k_blk_ret ?_
        | with_reducible refine k_blk_exit ?_
        | ((with_reducible refine k_blk_out ?_ ?_); (focus decide))
        | with_reducible refine k_lp_ret ?_
        | with_reducible refine k_lp_exit ?_
        | with_reducible refine s_block ?_
        | with_reducible refine sp_skip ?_
        | with_reducible refine sp_ret ?_
        | with_reducible refine sp_exit ?_
        | ((with_reducible refine s_cond_t ?_ ?_); (focus (simp [-List.getD_eq_getElem?_getD, List.getD_cons_zero, List.getD_cons_succ, List.getD_nil, lk, AS.ev, *]; done)))
        | ((with_reducible refine s_cond_f ?_ ?_); (focus (simp [-List.getD_eq_getElem?_getD, List.getD_cons_zero, List.getD_cons_succ, List.getD_nil, lk, AS.ev, *]; done)))
        | (focus ((with_reducible refine s_region2 (q := ?_) (σ' := ?_) TT_ok PT1_ok ?_ ?_ ?_); rotate_left 2; (focus (first | (simp [nxt]; exact Eq.refl _) | exact Eq.refl _)); (focus ((repeat (((with_reducible refine runL_cons (σ1 := ?_) ?_ ?_); rotate_left; (focus (simp [-List.getD_eq_getElem?_getD, List.getD_cons_zero, List.getD_cons_succ, List.getD_nil, undef, runL, runE, effA, stepA, dstOk, wantA, core, lk, st, dl, AS.ev, AS.evs, AS.put, AS.upd, updO, updI, nxt, cPick, cAlloc, cBox, cBuild, cBuildS, cLoad, cStore, cNil, plainOf, cBin, cNilS, isNilS, nilA, cUn, cConv, cMake, cSlice, slA, idxA, cFA, cF, cIA, cIX, cIS, cI, cExt, cLen, cApp, cMM, cFun, cCall, lenA, AS.callee, sc1, sc2, ixOk, ldA, AV.flat, AV.cell, AV.cells, Value.oneCell', fillA, spl, chunk, zeros, AS.parts, AS.rows, AS.shut, AS.shut1, AS.shut2, AS.shutL, AS.shutM, AV.ids, idsL, idsLL, eqAll, bndA, AV.scalar, AV.scalar1, AV.isV, Ef.app, fpA, light, Ef.pk, ptOf, pntO, wrO, wr, *]; rfl))))); (exact runL_nil)))))
        | (focus ((with_reducible refine s_draw2 (q := ?_) (es := ?_) (σ' := ?_) prog_mixed TT_ok PT1_ok ?_ ?_ ?_ ?_); rotate_left 3; (focus (first | (simp [nxt]; exact Eq.refl _) | exact Eq.refl _)); (focus ((repeat (((with_reducible refine runE_cons (e := ?_) (σ1 := ?_) (es := ?_) ?_ ?_ ?_); rotate_left 3; (focus (simp [-List.getD_eq_getElem?_getD, List.getD_cons_zero, List.getD_cons_succ, List.getD_nil, undef, runL, runE, effA, stepA, dstOk, wantA, core, lk, st, dl, AS.ev, AS.evs, AS.put, AS.upd, updO, updI, nxt, cPick, cAlloc, cBox, cBuild, cBuildS, cLoad, cStore, cNil, plainOf, cBin, cNilS, isNilS, nilA, cUn, cConv, cMake, cSlice, slA, idxA, cFA, cF, cIA, cIX, cIS, cI, cExt, cLen, cApp, cMM, cFun, cCall, lenA, AS.callee, sc1, sc2, ixOk, ldA, AV.flat, AV.cell, AV.cells, Value.oneCell', fillA, spl, chunk, zeros, AS.parts, AS.rows, AS.shut, AS.shut1, AS.shut2, AS.shutL, AS.shutM, AV.ids, idsL, idsLL, eqAll, bndA, AV.scalar, AV.scalar1, AV.isV, Ef.app, fpA, light, Ef.pk, ptOf, pntO, wrO, wr, *]; exact Eq.refl _)); (focus (simp [-List.getD_eq_getElem?_getD, List.getD_cons_zero, List.getD_cons_succ, Ef.app, Ef.pk, pntO, wrO, wr, lk, AS.upd, updO, updI, AS.put, st, dl]; exact Eq.refl _))))); (exact runE_nil))); (focus (first | kernel_rfl | decide)))))
    refine s_loop (J := fun i : {k : Nat // k ≤ xs.length ∧ ∀ j, j < k → xs.getD j 0 = ys.getD j 0} => ⟨26, [(0, aInts xs), (1, aInts ys), (4, .v (.bool false)), (12, .v (.int .i64 (xs.length : Int))), (13, .v (.int .i64 (i.1 : Int)))], [], []⟩) (μ := fun i => xs.length - i.1) ⟨0, Nat.zero_le _, fun j hj => by omega⟩ ?_ (fun ⟨k, hk, he⟩ => ?_)
    · (refine weak_id rfl ?_ ?_ <;> ((try simp only [List.mem_cons, List.not_mem_nil, or_false, forall_eq_or_imp, forall_eq]); (try simp (disch := omega) [-List.getD_eq_getElem?_getD, List.getD_cons_zero, List.getD_cons_succ, List.getD_nil, lk, AV.ids, idsL, idsLL, i64w, *])))
    repeat (first
        | with_reducible refine s_seq ?_
        | with_reducible refine k_seq ?_
        | with_reducible refine k_seq_ret ?_
        | with_reducible refine k_seq_exit ?_
        | with_reducible refine k_blk ?_
        | with_reducible refine k_blk_ret ?_
        | with_reducible refine k_blk_exit ?_
        | ((with_reducible refine k_blk_out ?_ ?_); (focus decide))
        | with_reducible refine k_lp_ret ?_
        | with_reducible refine k_lp_exit ?_
        | with_reducible refine s_block ?_
        | with_reducible refine sp_skip ?_
        | with_reducible refine sp_ret ?_
        | with_reducible refine sp_exit ?_
        | ((with_reducible refine s_cond_t ?_ ?_); (focus (simp [-List.getD_eq_getElem?_getD, List.getD_cons_zero, List.getD_cons_succ, List.getD_nil, lk, AS.ev, *]; done)))
        | ((with_reducible refine s_cond_f ?_ ?_); (focus (simp [-List.getD_eq_getElem?_getD, List.getD_cons_zero, List.getD_cons_succ, List.getD_nil, lk, AS.ev, *]; done)))
        | (focus ((with_reducible refine s_region2 (q := ?_) (σ' := ?_) TT_ok PT1_ok ?_ ?_ ?_); rotate_left 2; (focus (first | (simp [nxt]; exact Eq.refl _) | exact Eq.refl _)); (focus ((repeat (((with_reducible refine runL_cons (σ1 := ?_) ?_ ?_); rotate_left; (focus (simp [-List.getD_eq_getElem?_getD, List.getD_cons_zero, List.getD_cons_succ, List.getD_nil, undef, runL, runE, effA, stepA, dstOk, wantA, core, lk, st, dl, AS.ev, AS.evs, AS.put, AS.upd, updO, updI, nxt, cPick, cAlloc, cBox, cBuild, cBuildS, cLoad, cStore, cNil, plainOf, cBin, cNilS, isNilS, nilA, cUn, cConv, cMake, cSlice, slA, idxA, cFA, cF, cIA, cIX, cIS, cI, cExt, cLen, cApp, cMM, cFun, cCall, lenA, AS.callee, sc1, sc2, ixOk, ldA, AV.flat, AV.cell, AV.cells, Value.oneCell', fillA, spl, chunk, zeros, AS.parts, AS.rows, AS.shut, AS.shut1, AS.shut2, AS.shutL, AS.shutM, AV.ids, idsL, idsLL, eqAll, bndA, AV.scalar, AV.scalar1, AV.isV, Ef.app, fpA, light, Ef.pk, ptOf, pntO, wrO, wr, *]; rfl))))); (exact runL_nil)))))
        | (focus ((with_reducible refine s_draw2 (q := ?_) (es := ?_) (σ' := ?_) prog_mixed TT_ok PT1_ok ?_ ?_ ?_ ?_); rotate_left 3; (focus (first | (simp [nxt]; exact Eq.refl _) | exact Eq.refl _)); (focus ((repeat (((with_reducible refine runE_cons (e := ?_) (σ1 := ?_) (es := ?_) ?_ ?_ ?_); rotate_left 3; (focus (simp [-List.getD_eq_getElem?_getD, List.getD_cons_zero, List.getD_cons_succ, List.getD_nil, undef, runL, runE, effA, stepA, dstOk, wantA, core, lk, st, dl, AS.ev, AS.evs, AS.put, AS.upd, updO, updI, nxt, cPick, cAlloc, cBox, cBuild, cBuildS, cLoad, cStore, cNil, plainOf, cBin, cNilS, isNilS, nilA, cUn, cConv, cMake, cSlice, slA, idxA, cFA, cF, cIA, cIX, cIS, cI, cExt, cLen, cApp, cMM, cFun, cCall, lenA, AS.callee, sc1, sc2, ixOk, ldA, AV.flat, AV.cell, AV.cells, Value.oneCell', fillA, spl, chunk, zeros, AS.parts, AS.rows, AS.shut, AS.shut1, AS.shut2, AS.shutL, AS.shutM, AV.ids, idsL, idsLL, eqAll, bndA, AV.scalar, AV.scalar1, AV.isV, Ef.app, fpA, light, Ef.pk, ptOf, pntO, wrO, wr, *]; exact Eq.refl _)); (focus (simp [-List.getD_eq_getElem?_getD, List.getD_cons_zero, List.getD_cons_succ, Ef.app, Ef.pk, pntO, wrO, wr, lk, AS.upd, updO, updI, AS.put, st, dl]; exact Eq.refl _))))); (exact runE_nil))); (focus (first | kernel_rfl | decide)))))
    (focus ((with_reducible refine sp_cond (b := ?_) ?_ (fun hc => ?_) (fun hc => ?_)); rotate_left; (focus (first | rfl | (simp [lk, AS.ev]; rfl))); all_goals (try simp [-List.getD_eq_getElem?_getD] at hc)))
    · have hk2 : k < ys.length := by omega
      repeat (first
          | with_reducible refine s_seq ?_
          | with_reducible refine k_seq ?_
          | with_reducible refine k_seq_ret ?_
          | with_reducible refine k_seq_exit ?_
          | with_reducible refine k_blk ?_
          | with_reducible refine k_blk_ret ?_
          | with_reducible refine k_blk_exit ?_
          | ((with_reducible refine k_blk_out ?_ ?_); (focus decide))
          | with_reducible refine k_lp_ret ?_
          | with_reducible refine k_lp_exit ?_
          | with_reducible refine s_block ?_
          | with_reducible refine sp_skip ?_
          | with_reducible refine sp_ret ?_
          | with_reducible refine sp_exit ?_
          | ((with_reducible refine s_cond_t ?_ ?_); (focus (simp [-List.getD_eq_getElem?_getD, List.getD_cons_zero, List.getD_cons_succ, List.getD_nil, lk, AS.ev, *]; done)))
          | ((with_reducible refine s_cond_f ?_ ?_); (focus (simp [-List.getD_eq_getElem?_getD, List.getD_cons_zero, List.getD_cons_succ, List.getD_nil, lk, AS.ev, *]; done)))
          | (focus ((with_reducible refine s_region2 (q := ?_) (σ' := ?_) TT_ok PT1_ok ?_ ?_ ?_); rotate_left 2; (focus (first | (simp [nxt]; exact Eq.refl _) | exact Eq.refl _)); (focus ((repeat (((with_reducible refine runL_cons (σ1 := ?_) ?_ ?_); rotate_left; (focus (simp [-List.getD_eq_getElem?_getD, List.getD_cons_zero, List.getD_cons_succ, List.getD_nil, undef, runL, runE, effA, stepA, dstOk, wantA, core, lk, st, dl, AS.ev, AS.evs, AS.put, AS.upd, updO, updI, nxt, cPick, cAlloc, cBox, cBuild, cBuildS, cLoad, cStore, cNil, plainOf, cBin, cNilS, isNilS, nilA, cUn, cConv, cMake, cSlice, slA, idxA, cFA, cF, cIA, cIX, cIS, cI, cExt, cLen, cApp, cMM, cFun, cCall, lenA, AS.callee, sc1, sc2, ixOk, ldA, AV.flat, AV.cell, AV.cells, Value.oneCell', fillA, spl, chunk, zeros, AS.parts, AS.rows, AS.shut, AS.shut1, AS.shut2, AS.shutL, AS.shutM, AV.ids, idsL, idsLL, eqAll, bndA, AV.scalar, AV.scalar1, AV.isV, Ef.app, fpA, light, Ef.pk, ptOf, pntO, wrO, wr, *]; rfl))))); (exact runL_nil)))))
          | (focus ((with_reducible refine s_draw2 (q := ?_) (es := ?_) (σ' := ?_) prog_mixed TT_ok PT1_ok ?_ ?_ ?_ ?_); rotate_left 3; (focus (first | (simp [nxt]; exact Eq.refl _) | exact Eq.refl _)); (focus ((repeat (((with_reducible refine runE_cons (e := ?_) (σ1 := ?_) (es := ?_) ?_ ?_ ?_); rotate_left 3; (focus (simp [-List.getD_eq_getElem?_getD, List.getD_cons_zero, List.getD_cons_succ, List.getD_nil, undef, runL, runE, effA, stepA, dstOk, wantA, core, lk, st, dl, AS.ev, AS.evs, AS.put, AS.upd, updO, updI, nxt, cPick, cAlloc, cBox, cBuild, cBuildS, cLoad, cStore, cNil, plainOf, cBin, cNilS, isNilS, nilA, cUn, cConv, cMake, cSlice, slA, idxA, cFA, cF, cIA, cIX, cIS, cI, cExt, cLen, cApp, cMM, cFun, cCall, lenA, AS.callee, sc1, sc2, ixOk, ldA, AV.flat, AV.cell, AV.cells, Value.oneCell', fillA, spl, chunk, zeros, AS.parts, AS.rows, AS.shut, AS.shut1, AS.shut2, AS.shutL, AS.shutM, AV.ids, idsL, idsLL, eqAll, bndA, AV.scalar, AV.scalar1, AV.isV, Ef.app, fpA, light, Ef.pk, ptOf, pntO, wrO, wr, *]; exact Eq.refl _)); (focus (simp [-List.getD_eq_getElem?_getD, List.getD_cons_zero, List.getD_cons_succ, Ef.app, Ef.pk, pntO, wrO, wr, lk, AS.upd, updO, updI, AS.put, st, dl]; exact Eq.refl _))))); (exact runE_nil))); (focus (first | kernel_rfl | decide)))))
      (focus ((with_reducible refine sp_cond (b := ?_) ?_ (fun hc => ?_) (fun hc => ?_)); rotate_left; (focus (first | rfl | (simp [lk, AS.ev]; rfl))); all_goals (try simp [-List.getD_eq_getElem?_getD] at hc)))
      · repeat (first
            | with_reducible refine s_seq ?_
            | with_reducible refine k_seq ?_
            | with_reducible refine k_seq_ret ?_
            | with_reducible refine k_seq_exit ?_
            | with_reducible refine k_blk ?_
            | with_reducible refine k_blk_ret ?_
            | with_reducible refine k_blk_exit ?_
            | ((with_reducible refine k_blk_out ?_ ?_); (focus decide))
            | with_reducible refine k_lp_ret ?_
            | with_reducible refine k_lp_exit ?_
            | with_reducible refine s_block ?_
            | with_reducible refine sp_skip ?_
            | with_reducible refine sp_ret ?_
            | with_reducible refine sp_exit ?_
            | ((with_reducible refine s_cond_t ?_ ?_); (focus (simp [-List.getD_eq_getElem?_getD, List.getD_cons_zero, List.getD_cons_succ, List.getD_nil, lk, AS.ev, *]; done)))
            | ((with_reducible refine s_cond_f ?_ ?_); (focus (simp [-List.getD_eq_getElem?_getD, List.getD_cons_zero, List.getD_cons_succ, List.getD_nil, lk, AS.ev, *]; done)))
            | (focus ((with_reducible refine s_region2 (q := ?_) (σ' := ?_) TT_ok PT1_ok ?_ ?_ ?_); rotate_left 2; (focus (first | (simp [nxt]; exact Eq.refl _) | exact Eq.refl _)); (focus ((repeat (((with_reducible refine runL_cons (σ1 := ?_) ?_ ?_); rotate_left; (focus (simp [-List.getD_eq_getElem?_getD, List.getD_cons_zero, List.getD_cons_succ, List.getD_nil, undef, runL, runE, effA, stepA, dstOk, wantA, core, lk, st, dl, AS.ev, AS.evs, AS.put, AS.upd, updO, updI, nxt, cPick, cAlloc, cBox, cBuild, cBuildS, cLoad, cStore, cNil, plainOf, cBin, cNilS, isNilS, nilA, cUn, cConv, cMake, cSlice, slA, idxA, cFA, cF, cIA, cIX, cIS, cI, cExt, cLen, cApp, cMM, cFun, cCall, lenA, AS.callee, sc1, sc2, ixOk, ldA, AV.flat, AV.cell, AV.cells, Value.oneCell', fillA, spl, chunk, zeros, AS.parts, AS.rows, AS.shut, AS.shut1, AS.shut2, AS.shutL, AS.shutM, AV.ids, idsL, idsLL, eqAll, bndA, AV.scalar, AV.scalar1, AV.isV, Ef.app, fpA, light, Ef.pk, ptOf, pntO, wrO, wr, *]; rfl))))); (exact runL_nil)))))
            | (focus ((with_reducible refine s_draw2 (q := ?_) (es := ?_) (σ' := ?_) prog_mixed TT_ok PT1_ok ?_ ?_ ?_ ?_); rotate_left 3; (focus (first | (simp [nxt]; exact Eq.refl _) | exact Eq.refl _)); (focus ((repeat (((with_reducible refine runE_cons (e := ?_) (σ1 := ?_) (es := ?_) ?_ ?_ ?_); rotate_left 3; (focus (simp [-List.getD_eq_getElem?_getD, List.getD_cons_zero, List.getD_cons_succ, List.getD_nil, undef, runL, runE, effA, stepA, dstOk, wantA, core, lk, st, dl, AS.ev, AS.evs, AS.put, AS.upd, updO, updI, nxt, cPick, cAlloc, cBox, cBuild, cBuildS, cLoad, cStore, cNil, plainOf, cBin, cNilS, isNilS, nilA, cUn, cConv, cMake, cSlice, slA, idxA, cFA, cF, cIA, cIX, cIS, cI, cExt, cLen, cApp, cMM, cFun, cCall, lenA, AS.callee, sc1, sc2, ixOk, ldA, AV.flat, AV.cell, AV.cells, Value.oneCell', fillA, spl, chunk, zeros, AS.parts, AS.rows, AS.shut, AS.shut1, AS.shut2, AS.shutL, AS.shutM, AV.ids, idsL, idsLL, eqAll, bndA, AV.scalar, AV.scalar1, AV.isV, Ef.app, fpA, light, Ef.pk, ptOf, pntO, wrO, wr, *]; exact Eq.refl _)); (focus (simp [-List.getD_eq_getElem?_getD, List.getD_cons_zero, List.getD_cons_succ, Ef.app, Ef.pk, pntO, wrO, wr, lk, AS.upd, updO, updI, AS.put, st, dl]; exact Eq.refl _))))); (exact runE_nil))); (focus (first | kernel_rfl | decide)))))
        ((refine post_ret (av := ?_) (by first | exact .inl rfl | exact .inr rfl) (show (Try.f43).results.toList = _ from by rw [Try.results43]) ?_ ?_); rotate_left; (focus (simp [-List.getD_eq_getElem?_getD, List.getD_cons_zero, List.getD_cons_succ, retA, retL, ret1, lk, st, ldA, AV.cell]; rfl)); (try simp [-List.getD_eq_getElem?_getD, List.getD_cons_zero, List.getD_cons_succ, List.getD_nil, undef, runL, runE, effA, stepA, dstOk, wantA, core, lk, st, dl, AS.ev, AS.evs, AS.put, AS.upd, updO, updI, nxt, cPick, cAlloc, cBox, cBuild, cBuildS, cLoad, cStore, cNil, plainOf, cBin, cNilS, isNilS, nilA, cUn, cConv, cMake, cSlice, slA, idxA, cFA, cF, cIA, cIX, cIS, cI, cExt, cLen, cApp, cMM, cFun, cCall, lenA, AS.callee, sc1, sc2, ixOk, ldA, AV.flat, AV.cell, AV.cells, Value.oneCell', fillA, spl, chunk, zeros, AS.parts, AS.rows, AS.shut, AS.shut1, AS.shut2, AS.shutL, AS.shutM, AV.ids, idsL, idsLL, eqAll, bndA, AV.scalar, AV.scalar1, AV.isV, Ef.app, fpA, light, Ef.pk, ptOf, pntO, wrO, wr, *]))
        rintro rfl; exact hc rfl
      · repeat (first
            | with_reducible refine s_seq ?_
            | with_reducible refine k_seq ?_
            | with_reducible refine k_seq_ret ?_
            | with_reducible refine k_seq_exit ?_
            | with_reducible refine k_blk ?_
            | with_reducible refine k_blk_ret ?_
            | with_reducible refine k_blk_exit ?_
            | ((with_reducible refine k_blk_out ?_ ?_); (focus decide))
            | with_reducible refine k_lp_ret ?_
            | with_reducible refine k_lp_exit ?_
            | with_reducible refine s_block ?_
            | with_reducible refine sp_skip ?_
            | with_reducible refine sp_ret ?_
            | with_reducible refine sp_exit ?_
            | ((with_reducible refine s_cond_t ?_ ?_); (focus (simp [-List.getD_eq_getElem?_getD, List.getD_cons_zero, List.getD_cons_succ, List.getD_nil, lk, AS.ev, *]; done)))
            | ((with_reducible refine s_cond_f ?_ ?_); (focus (simp [-List.getD_eq_getElem?_getD, List.getD_cons_zero, List.getD_cons_succ, List.getD_nil, lk, AS.ev, *]; done)))
            | (focus ((with_reducible refine s_region2 (q := ?_) (σ' := ?_) TT_ok PT1_ok ?_ ?_ ?_); rotate_left 2; (focus (first | (simp [nxt]; exact Eq.refl _) | exact Eq.refl _)); (focus ((repeat (((with_reducible refine runL_cons (σ1 := ?_) ?_ ?_); rotate_left; (focus (simp [-List.getD_eq_getElem?_getD, List.getD_cons_zero, List.getD_cons_succ, List.getD_nil, undef, runL, runE, effA, stepA, dstOk, wantA, core, lk, st, dl, AS.ev, AS.evs, AS.put, AS.upd, updO, updI, nxt, cPick, cAlloc, cBox, cBuild, cBuildS, cLoad, cStore, cNil, plainOf, cBin, cNilS, isNilS, nilA, cUn, cConv, cMake, cSlice, slA, idxA, cFA, cF, cIA, cIX, cIS, cI, cExt, cLen, cApp, cMM, cFun, cCall, lenA, AS.callee, sc1, sc2, ixOk, ldA, AV.flat, AV.cell, AV.cells, Value.oneCell', fillA, spl, chunk, zeros, AS.parts, AS.rows, AS.shut, AS.shut1, AS.shut2, AS.shutL, AS.shutM, AV.ids, idsL, idsLL, eqAll, bndA, AV.scalar, AV.scalar1, AV.isV, Ef.app, fpA, light, Ef.pk, ptOf, pntO, wrO, wr, *]; rfl))))); (exact runL_nil)))))
            | (focus ((with_reducible refine s_draw2 (q := ?_) (es := ?_) (σ' := ?_) prog_mixed TT_ok PT1_ok ?_ ?_ ?_ ?_); rotate_left 3; (focus (first | (simp [nxt]; exact Eq.refl _) | exact Eq.refl _)); (focus ((repeat (((with_reducible refine runE_cons (e := ?_) (σ1 := ?_) (es := ?_) ?_ ?_ ?_); rotate_left 3; (focus (simp [-List.getD_eq_getElem?_getD, List.getD_cons_zero, List.getD_cons_succ, List.getD_nil, undef, runL, runE, effA, stepA, dstOk, wantA, core, lk, st, dl, AS.ev, AS.evs, AS.put, AS.upd, updO, updI, nxt, cPick, cAlloc, cBox, cBuild, cBuildS, cLoad, cStore, cNil, plainOf, cBin, cNilS, isNilS, nilA, cUn, cConv, cMake, cSlice, slA, idxA, cFA, cF, cIA, cIX, cIS, cI, cExt, cLen, cApp, cMM, cFun, cCall, lenA, AS.callee, sc1, sc2, ixOk, ldA, AV.flat, AV.cell, AV.cells, Value.oneCell', fillA, spl, chunk, zeros, AS.parts, AS.rows, AS.shut, AS.shut1, AS.shut2, AS.shutL, AS.shutM, AV.ids, idsL, idsLL, eqAll, bndA, AV.scalar, AV.scalar1, AV.isV, Ef.app, fpA, light, Ef.pk, ptOf, pntO, wrO, wr, *]; exact Eq.refl _)); (focus (simp [-List.getD_eq_getElem?_getD, List.getD_cons_zero, List.getD_cons_succ, Ef.app, Ef.pk, pntO, wrO, wr, lk, AS.upd, updO, updI, AS.put, st, dl]; exact Eq.refl _))))); (exact runE_nil))); (focus (first | kernel_rfl | decide)))))
        refine k_lp ⟨k + 1, by omega, ?_⟩ ?_ ?_
        · intro j hj
          by_cases e : j < k
          · exact he j e
          · obtain rfl : j = k := by omega
            exact Decidable.not_not.1 (by simpa using hc)
        · simp; omega
        · (refine weak_id rfl ?_ ?_ <;> ((try simp only [List.mem_cons, List.not_mem_nil, or_false, forall_eq_or_imp, forall_eq]); (try simp (disch := omega) [-List.getD_eq_getElem?_getD, List.getD_cons_zero, List.getD_cons_succ, List.getD_nil, lk, AV.ids, idsL, idsLL, i64w, *])))
    · repeat (first
          | with_reducible refine s_seq ?_
          | with_reducible refine k_seq ?_
          | with_reducible refine k_seq_ret ?_
          | with_reducible refine k_seq_exit ?_
          | with_reducible refine k_blk ?_
          | with_reducible refine k_blk_ret ?_
          | with_reducible refine k_blk_exit ?_
          | ((with_reducible refine k_blk_out ?_ ?_); (focus decide))
          | with_reducible refine k_lp_ret ?_
          | with_reducible refine k_lp_exit ?_
          | with_reducible refine s_block ?_
          | with_reducible refine sp_skip ?_
          | with_reducible refine sp_ret ?_
          | with_reducible refine sp_exit ?_
          | ((with_reducible refine s_cond_t ?_ ?_); (focus (simp [-List.getD_eq_getElem?_getD, List.getD_cons_zero, List.getD_cons_succ, List.getD_nil, lk, AS.ev, *]; done)))
          | ((with_reducible refine s_cond_f ?_ ?_); (focus (simp [-List.getD_eq_getElem?_getD, List.getD_cons_zero, List.getD_cons_succ, List.getD_nil, lk, AS.ev, *]; done)))
          | (focus ((with_reducible refine s_region2 (q := ?_) (σ' := ?_) TT_ok PT1_ok ?_ ?_ ?_); rotate_left 2; (focus (first | (simp [nxt]; exact Eq.refl _) | exact Eq.refl _)); (focus ((repeat (((with_reducible refine runL_cons (σ1 := ?_) ?_ ?_); rotate_left; (focus (simp [-List.getD_eq_getElem?_getD, List.getD_cons_zero, List.getD_cons_succ, List.getD_nil, undef, runL, runE, effA, stepA, dstOk, wantA, core, lk, st, dl, AS.ev, AS.evs, AS.put, AS.upd, updO, updI, nxt, cPick, cAlloc, cBox, cBuild, cBuildS, cLoad, cStore, cNil, plainOf, cBin, cNilS, isNilS, nilA, cUn, cConv, cMake, cSlice, slA, idxA, cFA, cF, cIA, cIX, cIS, cI, cExt, cLen, cApp, cMM, cFun, cCall, lenA, AS.callee, sc1, sc2, ixOk, ldA, AV.flat, AV.cell, AV.cells, Value.oneCell', fillA, spl, chunk, zeros, AS.parts, AS.rows, AS.shut, AS.shut1, AS.shut2, AS.shutL, AS.shutM, AV.ids, idsL, idsLL, eqAll, bndA, AV.scalar, AV.scalar1, AV.isV, Ef.app, fpA, light, Ef.pk, ptOf, pntO, wrO, wr, *]; rfl))))); (exact runL_nil)))))
          | (focus ((with_reducible refine s_draw2 (q := ?_) (es := ?_) (σ' := ?_) prog_mixed TT_ok PT1_ok ?_ ?_ ?_ ?_); rotate_left 3; (focus (first | (simp [nxt]; exact Eq.refl _) | exact Eq.refl _)); (focus ((repeat (((with_reducible refine runE_cons (e := ?_) (σ1 := ?_) (es := ?_) ?_ ?_ ?_); rotate_left 3; (focus (simp [-List.getD_eq_getElem?_getD, List.getD_cons_zero, List.getD_cons_succ, List.getD_nil, undef, runL, runE, effA, stepA, dstOk, wantA, core, lk, st, dl, AS.ev, AS.evs, AS.put, AS.upd, updO, updI, nxt, cPick, cAlloc, cBox, cBuild, cBuildS, cLoad, cStore, cNil, plainOf, cBin, cNilS, isNilS, nilA, cUn, cConv, cMake, cSlice, slA, idxA, cFA, cF, cIA, cIX, cIS, cI, cExt, cLen, cApp, cMM, cFun, cCall, lenA, AS.callee, sc1, sc2, ixOk, ldA, AV.flat, AV.cell, AV.cells, Value.oneCell', fillA, spl, chunk, zeros, AS.parts, AS.rows, AS.shut, AS.shut1, AS.shut2, AS.shutL, AS.shutM, AV.ids, idsL, idsLL, eqAll, bndA, AV.scalar, AV.scalar1, AV.isV, Ef.app, fpA, light, Ef.pk, ptOf, pntO, wrO, wr, *]; exact Eq.refl _)); (focus (simp [-List.getD_eq_getElem?_getD, List.getD_cons_zero, List.getD_cons_succ, Ef.app, Ef.pk, pntO, wrO, wr, lk, AS.upd, updO, updI, AS.put, st, dl]; exact Eq.refl _))))); (exact runE_nil))); (focus (first | kernel_rfl | decide)))))
      ((refine post_ret (av := ?_) (by first | exact .inl rfl | exact .inr rfl) (show (Try.f43).results.toList = _ from by rw [Try.results43]) ?_ ?_); rotate_left; (focus (simp [-List.getD_eq_getElem?_getD, List.getD_cons_zero, List.getD_cons_succ, retA, retL, ret1, lk, st, ldA, AV.cell]; rfl)); (try simp [-List.getD_eq_getElem?_getD, List.getD_cons_zero, List.getD_cons_succ, List.getD_nil, undef, runL, runE, effA, stepA, dstOk, wantA, core, lk, st, dl, AS.ev, AS.evs, AS.put, AS.upd, updO, updI, nxt, cPick, cAlloc, cBox, cBuild, cBuildS, cLoad, cStore, cNil, plainOf, cBin, cNilS, isNilS, nilA, cUn, cConv, cMake, cSlice, slA, idxA, cFA, cF, cIA, cIX, cIS, cI, cExt, cLen, cApp, cMM, cFun, cCall, lenA, AS.callee, sc1, sc2, ixOk, ldA, AV.flat, AV.cell, AV.cells, Value.oneCell', fillA, spl, chunk, zeros, AS.parts, AS.rows, AS.shut, AS.shut1, AS.shut2, AS.shutL, AS.shutM, AV.ids, idsL, idsLL, eqAll, bndA, AV.scalar, AV.scalar1, AV.isV, Ef.app, fpA, light, Ef.pk, ptOf, pntO, wrO, wr, *]))
      apply List.ext_getElem hl
      intro j h1 h2
      have := he j (by omega)
      simpa [List.getD, h1, h2] using this
  · have hl2 : ((xs.length : Int) != (ys.length : Int)) = true := by simp; omega
    have hne : xs ≠ ys := fun e => hl (by rw [e])
    refine fn_sp TT_ok Try.func43 (c := _) rfl (by simp [Try.ntmps43]) (fun B hI0 hro => ?_)
    rw [Try.ntmps43]
    simp only [enumA]
    repeat (first
        | with_reducible refine s_seq ?_
        | with_reducible refine k_seq ?_
        | with_reducible refine k_seq_ret ?_
        | with_reducible refine k_seq_exit ?_
        | with_reducible refine k_blk ?_
        | with_reducible refine k_blk_ret ?_
        | with_reducible refine k_blk_exit ?_
        | ((with_reducible refine k_blk_out ?_ ?_); (focus decide))
        | with_reducible refine k_lp_ret ?_
        | with_reducible refine k_lp_exit ?_
        | with_reducible refine s_block ?_
        | with_reducible refine sp_skip ?_
        | with_reducible refine sp_ret ?_
        | with_reducible refine sp_exit ?_
        | ((with_reducible refine s_cond_t ?_ ?_); (focus (simp [-List.getD_eq_getElem?_getD, List.getD_cons_zero, List.getD_cons_succ, List.getD_nil, lk, AS.ev, *]; done)))
        | ((with_reducible refine s_cond_f ?_ ?_); (focus (simp [-List.getD_eq_getElem?_getD, List.getD_cons_zero, List.getD_cons_succ, List.getD_nil, lk, AS.ev, *]; done)))
        | (focus ((with_reducible refine s_region2 (q := ?_) (σ' := ?_) TT_ok PT1_ok ?_ ?_ ?_); rotate_left 2; (focus (first | (simp [nxt]; exact Eq.refl _) | exact Eq.refl _)); (focus ((repeat (((with_reducible refine runL_cons (σ1 := ?_) ?_ ?_); rotate_left; (focus (simp [-List.getD_eq_getElem?_getD, List.getD_cons_zero, List.getD_cons_succ, List.getD_nil, undef, runL, runE, effA, stepA, dstOk, wantA, core, lk, st, dl, AS.ev, AS.evs, AS.put, AS.upd, updO, updI, nxt, cPick, cAlloc, cBox, cBuild, cBuildS, cLoad, cStore, cNil, plainOf, cBin, cNilS, isNilS, nilA, cUn, cConv, cMake, cSlice, slA, idxA, cFA, cF, cIA, cIX, cIS, cI, cExt, cLen, cApp, cMM, cFun, cCall, lenA, AS.callee, sc1, sc2, ixOk, ldA, AV.flat, AV.cell, AV.cells, Value.oneCell', fillA, spl, chunk, zeros, AS.parts, AS.rows, AS.shut, AS.shut1, AS.shut2, AS.shutL, AS.shutM, AV.ids, idsL, idsLL, eqAll, bndA, AV.scalar, AV.scalar1, AV.isV, Ef.app, fpA, light, Ef.pk, ptOf, pntO, wrO, wr, *]; rfl))))); (exact runL_nil)))))
        | (focus ((with_reducible refine s_draw2 (q := ?_) (es := ?_) (σ' := ?_) prog_mixed TT_ok PT1_ok ?_ ?_ ?_ ?_); rotate_left 3; (focus (first | (simp [nxt]; exact Eq.refl _) | exact Eq.refl _)); (focus ((repeat (((with_reducible refine runE_cons (e := ?_) (σ1 := ?_) (es := ?_) ?_ ?_ ?_); rotate_left 3; (focus (simp [-List.getD_eq_getElem?_getD, List.getD_cons_zero, List.getD_cons_succ, List.getD_nil, undef, runL, runE, effA, stepA, dstOk, wantA, core, lk, st, dl, AS.ev, AS.evs, AS.put, AS.upd, updO, updI, nxt, cPick, cAlloc, cBox, cBuild, cBuildS, cLoad, cStore, cNil, plainOf, cBin, cNilS, isNilS, nilA, cUn, cConv, cMake, cSlice, slA, idxA, cFA, cF, cIA, cIX, cIS, cI, cExt, cLen, cApp, cMM, cFun, cCall, lenA, AS.callee, sc1, sc2, ixOk, ldA, AV.flat, AV.cell, AV.cells, Value.oneCell', fillA, spl, chunk, zeros, AS.parts, AS.rows, AS.shut, AS.shut1, AS.shut2, AS.shutL, AS.shutM, AV.ids, idsL, idsLL, eqAll, bndA, AV.scalar, AV.scalar1, AV.isV, Ef.app, fpA, light, Ef.pk, ptOf, pntO, wrO, wr, *]; exact Eq.refl _)); (focus (simp [-List.getD_eq_getElem?_getD, List.getD_cons_zero, List.getD_cons_succ, Ef.app, Ef.pk, pntO, wrO, wr, lk, AS.upd, updO, updI, AS.put, st, dl]; exact Eq.refl _))))); (exact runE_nil))); (focus (first | kernel_rfl | decide)))))
    ((refine post_ret (av := ?_) (by first | exact .inl rfl | exact .inr rfl) (show (Try.f43).results.toList = _ from by rw [Try.results43]) ?_ ?_); rotate_left; (focus (simp [-List.getD_eq_getElem?_getD, List.getD_cons_zero, List.getD_cons_succ, retA, retL, ret1, lk, st, ldA, AV.cell]; rfl)); (try simp [-List.getD_eq_getElem?_getD, List.getD_cons_zero, List.getD_cons_succ, List.getD_nil, undef, runL, runE, effA, stepA, dstOk, wantA, core, lk, st, dl, AS.ev, AS.evs, AS.put, AS.upd, updO, updI, nxt, cPick, cAlloc, cBox, cBuild, cBuildS, cLoad, cStore, cNil, plainOf, cBin, cNilS, isNilS, nilA, cUn, cConv, cMake, cSlice, slA, idxA, cFA, cF, cIA, cIX, cIS, cI, cExt, cLen, cApp, cMM, cFun, cCall, lenA, AS.callee, sc1, sc2, ixOk, ldA, AV.flat, AV.cell, AV.cells, Value.oneCell', fillA, spl, chunk, zeros, AS.parts, AS.rows, AS.shut, AS.shut1, AS.shut2, AS.shutL, AS.shutM, AV.ids, idsL, idsLL, eqAll, bndA, AV.scalar, AV.scalar1, AV.isV, Ef.app, fpA, light, Ef.pk, ptOf, pntO, wrO, wr, *]))
@[simp] def g_clause : List AV → Option (AV × Bool)
  | [a0, .v (.int .i64 n)] => (match toInts a0 with | some c => if (okInts c && okI n) = true then some (clauseA c n, false) else none | none => none)
  | _ => none
theorem e_clause : EntOk Try.prog 38 g_clause := ent_pure (by kernel_rfl) fun args r fr h => by
  unfold g_clause at h
  split at h
  · rename_i a0 n
    split at h
    · rename_i c t0
      split at h
      · rename_i hc
        simp only [Bool.and_eq_true] at hc
        obtain ⟨o0, o1⟩ := hc
        cases h
        exact ⟨FnPure.cov (clause_p c n o0 o1) (.cons (cov_ints t0) (.cons (Cov.refl _) .nil)), rfl⟩
      · cases h
    · cases h
  · cases h

@[simp] def g_equal : List AV → Option (AV × Bool)
  | [a0, a1] => (match toInts a0 with | some xs => (match toInts a1 with | some ys => if (okInts xs && okInts ys) = true then some (.v (.bool (decide (xs = ys))), false) else none | none => none) | none => none)
  | _ => none
theorem e_equal : EntOk Try.prog 43 g_equal := ent_pure (by kernel_rfl) fun args r fr h => by
  unfold g_equal at h
  split at h
  · rename_i a0 a1
    split at h
    · rename_i xs t0
      split at h
      · rename_i ys t1
        split at h
        · rename_i hc
          simp only [Bool.and_eq_true] at hc
          obtain ⟨o0, o1⟩ := hc
          cases h
          exact ⟨FnPure.cov (equal_p xs ys o0 o1) (.cons (cov_ints t0) (.cons (cov_ints t1) .nil)), rfl⟩
        · cases h
      · cases h
    · cases h
  · cases h

def l2 : List (FuncId × (List AV → Option (AV × Bool))) :=
  (38, g_clause) :: (43, g_equal) :: l1
theorem l2_ok : ∀ p ∈ l2, EntOk Try.prog p.1 p.2 := ent_cons e_clause (ent_cons e_equal (l1_ok))
def PT2 : PTab := tab l2
theorem PT2_ok : PTok Try.prog PT2 := tab_ok l2_ok
@[simp] theorem PT2_litVar : PT2 41 = g_litVar := rfl
@[simp] theorem PT2_litValid : PT2 36 = g_litValid := rfl
@[simp] theorem PT2_check : PT2 17 = g_check := rfl
@[simp] theorem PT2_with : PT2 56 = g_with := rfl
@[simp] theorem PT2_all : PT2 48 = g_all := rfl
@[simp] theorem PT2_rValid : PT2 37 = g_rValid := rfl
@[simp] theorem PT2_rHas : PT2 60 = g_rHas := rfl
@[simp] theorem PT2_rHolds : PT2 51 = g_rHolds := rfl
@[simp] theorem PT2_rAssign : PT2 50 = g_rAssign := rfl
@[simp] theorem PT2_rCheck : PT2 18 = g_rCheck := rfl
@[simp] theorem PT2_rEval : PT2 25 = g_rEval := rfl
@[simp] theorem PT2_litvalid : PT2 61 = g_litvalid := rfl
@[simp] theorem PT2_opposite : PT2 63 = g_opposite := rfl
@[simp] theorem PT2_clone : PT2 58 = g_clone := rfl
@[simp] theorem PT2_order : PT2 62 = g_order := rfl
@[simp] theorem PT2_term : PT2 52 = g_term := rfl
@[simp] theorem PT2_clause : PT2 38 = g_clause := rfl
@[simp] theorem PT2_equal : PT2 43 = g_equal := rfl
end Go.Proofs.Ytkollnaojpppcaa
