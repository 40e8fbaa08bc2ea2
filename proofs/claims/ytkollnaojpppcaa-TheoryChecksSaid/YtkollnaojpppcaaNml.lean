/- Contract of theory.Normal, by the abstract machine; no condition. -/
import Derived.Test.YtkollnaojpppcaaSrt
namespace Go.Proofs.Ytkollnaojpppcaa
open Go.RowKit
set_option maxRecDepth 100000

/-- The clauses that are not always true, each in order. -/
def openL (L : List (List Int)) : List (List Int) := (L.filter fun c => !adjOpp (orderL c)).map orderL
theorem openL_len (L : List (List Int)) : (openL L).length ≤ L.length := by
  unfold openL
  rw [List.length_map]
  exact List.length_filter_le _ _
theorem openL_take (L : List (List Int)) {k : Nat} (hk : k < L.length) : openL (L.take (k + 1)) = openL (L.take k) ++ if adjOpp (orderL (L.getD k [])) = true then [] else [orderL (L.getD k [])] := by
  have : L.getD k [] = L[k] := by simp [hk]
  unfold openL
  rw [List.take_succ_eq_append_getElem hk, List.filter_append, List.map_append, this]
  congr 1
  cases h : adjOpp (orderL L[k]) <;> simp [h]
theorem okRows_sort {L : List (List Int)} (h : okRows L = true) : okRows (sortRows L) = true := by
  have h1 := (sortRows_perm L).length_eq
  have h2 := okRows_len h
  simp only [okRows, Bool.and_eq_true, List.all_eq_true, decide_eq_true_eq]
  exact ⟨fun c hc => okRows_mem h c ((sortRows_perm L).mem_iff.1 hc), by omega⟩
def normL (L : List (List Int)) : List (List Int) := distL (sortRows (openL L))
def aTh (N : Int) (L : List (List Int)) : AV := .agg [.v (.int .i64 N), aRows L]
def normA (N : Int) (L : List (List Int)) : AV := if checkT N L = 0 then .tup [aTh N (normL L), .v (.int .i64 0)] else .tup [.agg [.v (.int .i64 0), .v (.slice none 0 0)], .v (.int .i64 (checkT N L))]
theorem normal_p (N : Int) (L : List (List Int)) (hN : okI N = true) (h : okRows L = true) : FnPure Try.prog 20 [aTh N L] (normA N L) := by
  have hm := okRows_len h
  by_cases hz : checkT N L = 0
  · have hck := checkT_ok hz
    unfold aTh
    refine fn_sp TT_ok Try.func20 (c := _) rfl (by simp [Try.ntmps20]) (fun B hI0 hro => ?_)
    rw [Try.ntmps20]
    simp only [enumA]
    repeat (first
        | with_reducible refine s_seq ?_
        | with_reducible refine k_seq ?_
        | with_reducible refine k_seq_ret ?_
        | with_reducible refine k_seq_exit ?_
        | with_reducible refine k_blk ?_
        | with_reducible refine k_blk_ret ?_
        | with_reducible refine k_blk_exit ?_
        | ((with_reducible refine k_blk_out ?_ ?_); (focus decide))
        | with_reducible refine k_lp_ret ?_
        | with_reducible refine k_lp_exit ?_
        | with_reducible refine s_block ?_
        | with_reducible refine sp_skip ?_
        | with_reducible refine sp_ret ?_
        | with_reducible refine sp_exit ?_
        | ((with_reducible refine s_cond_t ?_ ?_); (focus (simp [-List.getD_eq_getElem?_getD, List.getD_cons_zero, List.getD_cons_succ, List.getD_nil, lk, AS.ev, *]; done)))
        | ((with_reducible refine s_cond_f ?_ ?_); (focus (simp [-List.getD_eq_getElem?_getD, List.getD_cons_zero, List.getD_cons_succ, List.getD_nil, lk, AS.ev, *]; done)))
        | (focus ((with_reducible refine s_region2 (q := ?_) (σ' := ?_) TT_ok PT3_ok ?_ ?_ ?_); rotate_left 2; (focus (first | (simp [nxt]; exact Eq.refl _) | exact Eq.refl _)); (focus ((repeat (((with_reducible refine runL_cons (σ1 := ?_) ?_ ?_); rotate_left; (focus (simp [-List.getD_eq_getElem?_getD, List.getD_cons_zero, List.getD_cons_succ, List.getD_nil, undef, runL, runE, effA, stepA, dstOk, wantA, core, lk, st, dl, AS.ev, AS.evs, AS.put, AS.upd, updO, updI, nxt, cPick, cAlloc, cBox, cBuild, cBuildS, cLoad, cStore, cNil, plainOf, cBin, cNilS, isNilS, nilA, cUn, cConv, cMake, cSlice, slA, idxA, cFA, cF, cIA, cIX, cIS, cI, cExt, cLen, cApp, cMM, cFun, cCall, lenA, AS.callee, sc1, sc2, ixOk, ldA, AV.flat, AV.cell, AV.cells, Value.oneCell', fillA, spl, chunk, zeros, AS.parts, AS.rows, AS.shut, AS.shut1, AS.shut2, AS.shutL, AS.shutM, AV.ids, idsL, idsLL, eqAll, bndA, AV.scalar, AV.scalar1, AV.isV, Ef.app, fpA, light, Ef.pk, ptOf, pntO, wrO, wr, *]; rfl))))); (exact runL_nil)))))
        | (focus ((with_reducible refine s_draw2 (q := ?_) (es := ?_) (σ' := ?_) prog_mixed TT_ok PT3_ok ?_ ?_ ?_ ?_); rotate_left 3; (focus (first | (simp [nxt]; exact Eq.refl _) | exact Eq.refl _)); (focus ((repeat (((with_reducible refine runE_cons (e := ?_) (σ1 := ?_) (es := ?_) ?_ ?_ ?_); rotate_left 3; (focus (simp [-List.getD_eq_getElem?_getD, List.getD_cons_zero, List.getD_cons_succ, List.getD_nil, undef, runL, runE, effA, stepA, dstOk, wantA, core, lk, st, dl, AS.ev, AS.evs, AS.put, AS.upd, updO, updI, nxt, cPick, cAlloc, cBox, cBuild, cBuildS, cLoad, cStore, cNil, plainOf, cBin, cNilS, isNilS, nilA, cUn, cConv, cMake, cSlice, slA, idxA, cFA, cF, cIA, cIX, cIS, cI, cExt, cLen, cApp, cMM, cFun, cCall, lenA, AS.callee, sc1, sc2, ixOk, ldA, AV.flat, AV.cell, AV.cells, Value.oneCell', fillA, spl, chunk, zeros, AS.parts, AS.rows, AS.shut, AS.shut1, AS.shut2, AS.shutL, AS.shutM, AV.ids, idsL, idsLL, eqAll, bndA, AV.scalar, AV.scalar1, AV.isV, Ef.app, fpA, light, Ef.pk, ptOf, pntO, wrO, wr, *]; exact Eq.refl _)); (focus (simp [-List.getD_eq_getElem?_getD, List.getD_cons_zero, List.getD_cons_succ, Ef.app, Ef.pk, pntO, wrO, wr, lk, AS.upd, updO, updI, AS.put, st, dl]; exact Eq.refl _))))); (exact runE_nil))); (focus (first | kernel_rfl | decide)))))
    refine s_nil 5 2 38 1 (by simp [lk]) (by simp) ?_
    simp only [st]
    refine s_loop (J := fun i : {k : Nat // k ≤ L.length} => ⟨46, [(1, .ptr 0 0 0), (2, .ptr 1 0 0), (3, .v (.int .i64 0)), (5, .ref 2 0 (openL (L.take i.1)).length), (18, aRows L), (19, .v (.int .i64 (L.length : Int))), (20, .v (.int .i64 (i.1 : Int)))], [(0, ⟨24, 2, [[.v (.int .i64 N), aRows L]]⟩), (1, ⟨24, 2, [[.v (.int .i64 0), .v (.slice none 0 0)]]⟩), (2, ⟨38, 1, (openL (L.take i.1)).map fun xs => [aInts xs]⟩)], [2, 1, 0]⟩) (μ := fun i => L.length - i.1) ⟨0, Nat.zero_le _⟩ ?_ (fun ⟨k, hk⟩ => ?_)
    · (refine weak_id rfl ?_ ?_ <;> ((try simp only [List.mem_cons, List.not_mem_nil, or_false, forall_eq_or_imp, forall_eq]); (try simp (disch := omega) [-List.getD_eq_getElem?_getD, List.getD_cons_zero, List.getD_cons_succ, List.getD_nil, lk, AV.ids, idsL, idsLL, i64w, *])))
      all_goals rfl
    repeat (first
        | with_reducible refine s_seq ?_
        | with_reducible refine k_seq ?_
        | with_reducible refine k_seq_ret ?_
        | with_reducible refine k_seq_exit ?_
        | with_reducible refine k_blk ?_
        | with_reducible refine k_blk_ret ?_
        | with_reducible refine k_blk_exit ?_
        | ((with_reducible refine k_blk_out ?_ ?_); (focus decide))
        | with_reducible refine k_lp_ret ?_
        | with_reducible refine k_lp_exit ?_
        | with_reducible refine s_block ?_
        | with_reducible refine sp_skip ?_
        | with_reducible refine sp_ret ?_
        | with_reducible refine sp_exit ?_
        | ((with_reducible refine s_cond_t ?_ ?_); (focus (simp [-List.getD_eq_getElem?_getD, List.getD_cons_zero, List.getD_cons_succ, List.getD_nil, lk, AS.ev, *]; done)))
        | ((with_reducible refine s_cond_f ?_ ?_); (focus (simp [-List.getD_eq_getElem?_getD, List.getD_cons_zero, List.getD_cons_succ, List.getD_nil, lk, AS.ev, *]; done)))
        | (focus ((with_reducible refine s_region2 (q := ?_) (σ' := ?_) TT_ok PT3_ok ?_ ?_ ?_); rotate_left 2; (focus (first | (simp [nxt]; exact Eq.refl _) | exact Eq.refl _)); (focus ((repeat (((with_reducible refine runL_cons (σ1 := ?_) ?_ ?_); rotate_left; (focus (simp [-List.getD_eq_getElem?_getD, List.getD_cons_zero, List.getD_cons_succ, List.getD_nil, undef, runL, runE, effA, stepA, dstOk, wantA, core, lk, st, dl, AS.ev, AS.evs, AS.put, AS.upd, updO, updI, nxt, cPick, cAlloc, cBox, cBuild, cBuildS, cLoad, cStore, cNil, plainOf, cBin, cNilS, isNilS, nilA, cUn, cConv, cMake, cSlice, slA, idxA, cFA, cF, cIA, cIX, cIS, cI, cExt, cLen, cApp, cMM, cFun, cCall, lenA, AS.callee, sc1, sc2, ixOk, ldA, AV.flat, AV.cell, AV.cells, Value.oneCell', fillA, spl, chunk, zeros, AS.parts, AS.rows, AS.shut, AS.shut1, AS.shut2, AS.shutL, AS.shutM, AV.ids, idsL, idsLL, eqAll, bndA, AV.scalar, AV.scalar1, AV.isV, Ef.app, fpA, light, Ef.pk, ptOf, pntO, wrO, wr, *]; rfl))))); (exact runL_nil)))))
        | (focus ((with_reducible refine s_draw2 (q := ?_) (es := ?_) (σ' := ?_) prog_mixed TT_ok PT3_ok ?_ ?_ ?_ ?_); rotate_left 3; (focus (first | (simp [nxt]; exact Eq.refl _) | exact Eq.refl _)); (focus ((repeat (((with_reducible refine runE_cons (e := ?_) (σ1 := ?_) (es := ?_) ?_ ?_ ?_); rotate_left 3; (focus (simp [-List.getD_eq_getElem?_getD, List.getD_cons_zero, List.getD_cons_succ, List.getD_nil, undef, runL, runE, effA, stepA, dstOk, wantA, core, lk, st, dl, AS.ev, AS.evs, AS.put, AS.upd, updO, updI, nxt, cPick, cAlloc, cBox, cBuild, cBuildS, cLoad, cStore, cNil, plainOf, cBin, cNilS, isNilS, nilA, cUn, cConv, cMake, cSlice, slA, idxA, cFA, cF, cIA, cIX, cIS, cI, cExt, cLen, cApp, cMM, cFun, cCall, lenA, AS.callee, sc1, sc2, ixOk, ldA, AV.flat, AV.cell, AV.cells, Value.oneCell', fillA, spl, chunk, zeros, AS.parts, AS.rows, AS.shut, AS.shut1, AS.shut2, AS.shutL, AS.shutM, AV.ids, idsL, idsLL, eqAll, bndA, AV.scalar, AV.scalar1, AV.isV, Ef.app, fpA, light, Ef.pk, ptOf, pntO, wrO, wr, *]; exact Eq.refl _)); (focus (simp [-List.getD_eq_getElem?_getD, List.getD_cons_zero, List.getD_cons_succ, Ef.app, Ef.pk, pntO, wrO, wr, lk, AS.upd, updO, updI, AS.put, st, dl]; exact Eq.refl _))))); (exact runE_nil))); (focus (first | kernel_rfl | decide)))))
    (focus ((with_reducible refine sp_cond (b := ?_) ?_ (fun hc => ?_) (fun hc => ?_)); rotate_left; (focus (first | rfl | (simp [lk, AS.ev]; rfl))); all_goals (try simp [-List.getD_eq_getElem?_getD] at hc)))
    · have hd := openL_len (L.take k)
      have htk : (L.take k).length ≤ k := by rw [List.length_take]; omega
      have hcap : ((openL (L.take k)).length + 1) * 24 ≤ 140737488355328 := by omega
      have hmem : L.getD k [] ∈ L := by
        have : L.getD k [] = L[k] := by simp [List.getD, hc]
        rw [this]; exact List.getElem_mem _
      have ho := okRows_at h k
      have hv : ((L.getD k []).all fun y => litOk y N) = true := List.all_eq_true.2 (hck.2.2.2 _ hmem).2
      have hA : clauseA (L.getD k []) N = .tup [aInts (orderL (L.getD k [])), .v (.bool (adjOpp (orderL (L.getD k [])))), .v (.int .i64 0)] := by unfold clauseA; rw [if_pos hv]
      have hs := openL_take L hc
      repeat (first
          | with_reducible refine s_seq ?_
          | with_reducible refine k_seq ?_
          | with_reducible refine k_seq_ret ?_
          | with_reducible refine k_seq_exit ?_
          | with_reducible refine k_blk ?_
          | with_reducible refine k_blk_ret ?_
          | with_reducible refine k_blk_exit ?_
          | ((with_reducible refine k_blk_out ?_ ?_); (focus decide))
          | with_reducible refine k_lp_ret ?_
          | with_reducible refine k_lp_exit ?_
          | with_reducible refine s_block ?_
          | with_reducible refine sp_skip ?_
          | with_reducible refine sp_ret ?_
          | with_reducible refine sp_exit ?_
          | ((with_reducible refine s_cond_t ?_ ?_); (focus (simp [-List.getD_eq_getElem?_getD, List.getD_cons_zero, List.getD_cons_succ, List.getD_nil, lk, AS.ev, *]; done)))
          | ((with_reducible refine s_cond_f ?_ ?_); (focus (simp [-List.getD_eq_getElem?_getD, List.getD_cons_zero, List.getD_cons_succ, List.getD_nil, lk, AS.ev, *]; done)))
          | (focus ((with_reducible refine s_region2 (q := ?_) (σ' := ?_) TT_ok PT3_ok ?_ ?_ ?_); rotate_left 2; (focus (first | (simp [nxt]; exact Eq.refl _) | exact Eq.refl _)); (focus ((repeat (((with_reducible refine runL_cons (σ1 := ?_) ?_ ?_); rotate_left; (focus (simp [-List.getD_eq_getElem?_getD, List.getD_cons_zero, List.getD_cons_succ, List.getD_nil, undef, runL, runE, effA, stepA, dstOk, wantA, core, lk, st, dl, AS.ev, AS.evs, AS.put, AS.upd, updO, updI, nxt, cPick, cAlloc, cBox, cBuild, cBuildS, cLoad, cStore, cNil, plainOf, cBin, cNilS, isNilS, nilA, cUn, cConv, cMake, cSlice, slA, idxA, cFA, cF, cIA, cIX, cIS, cI, cExt, cLen, cApp, cMM, cFun, cCall, lenA, AS.callee, sc1, sc2, ixOk, ldA, AV.flat, AV.cell, AV.cells, Value.oneCell', fillA, spl, chunk, zeros, AS.parts, AS.rows, AS.shut, AS.shut1, AS.shut2, AS.shutL, AS.shutM, AV.ids, idsL, idsLL, eqAll, bndA, AV.scalar, AV.scalar1, AV.isV, Ef.app, fpA, light, Ef.pk, ptOf, pntO, wrO, wr, *]; rfl))))); (exact runL_nil)))))
          | (focus ((with_reducible refine s_draw2 (q := ?_) (es := ?_) (σ' := ?_) prog_mixed TT_ok PT3_ok ?_ ?_ ?_ ?_); rotate_left 3; (focus (first | (simp [nxt]; exact Eq.refl _) | exact Eq.refl _)); (focus ((repeat (((with_reducible refine runE_cons (e := ?_) (σ1 := ?_) (es := ?_) ?_ ?_ ?_); rotate_left 3; (focus (simp [-List.getD_eq_getElem?_getD, List.getD_cons_zero, List.getD_cons_succ, List.getD_nil, undef, runL, runE, effA, stepA, dstOk, wantA, core, lk, st, dl, AS.ev, AS.evs, AS.put, AS.upd, updO, updI, nxt, cPick, cAlloc, cBox, cBuild, cBuildS, cLoad, cStore, cNil, plainOf, cBin, cNilS, isNilS, nilA, cUn, cConv, cMake, cSlice, slA, idxA, cFA, cF, cIA, cIX, cIS, cI, cExt, cLen, cApp, cMM, cFun, cCall, lenA, AS.callee, sc1, sc2, ixOk, ldA, AV.flat, AV.cell, AV.cells, Value.oneCell', fillA, spl, chunk, zeros, AS.parts, AS.rows, AS.shut, AS.shut1, AS.shut2, AS.shutL, AS.shutM, AV.ids, idsL, idsLL, eqAll, bndA, AV.scalar, AV.scalar1, AV.isV, Ef.app, fpA, light, Ef.pk, ptOf, pntO, wrO, wr, *]; exact Eq.refl _)); (focus (simp [-List.getD_eq_getElem?_getD, List.getD_cons_zero, List.getD_cons_succ, Ef.app, Ef.pk, pntO, wrO, wr, lk, AS.upd, updO, updI, AS.put, st, dl]; exact Eq.refl _))))); (exact runE_nil))); (focus (first | kernel_rfl | decide)))))
      (focus ((with_reducible refine sp_cond (b := ?_) ?_ (fun hc => ?_) (fun hc => ?_)); rotate_left; (focus (first | rfl | (simp [lk, AS.ev]; rfl))); all_goals (try simp [-List.getD_eq_getElem?_getD] at hc)))
      · simp only [hc, if_true, Bool.false_eq_true, if_false, List.append_nil] at hs
        repeat (first
            | with_reducible refine s_seq ?_
            | with_reducible refine k_seq ?_
            | with_reducible refine k_seq_ret ?_
            | with_reducible refine k_seq_exit ?_
            | with_reducible refine k_blk ?_
            | with_reducible refine k_blk_ret ?_
            | with_reducible refine k_blk_exit ?_
            | ((with_reducible refine k_blk_out ?_ ?_); (focus decide))
            | with_reducible refine k_lp_ret ?_
            | with_reducible refine k_lp_exit ?_
            | with_reducible refine s_block ?_
            | with_reducible refine sp_skip ?_
            | with_reducible refine sp_ret ?_
            | with_reducible refine sp_exit ?_
            | ((with_reducible refine s_cond_t ?_ ?_); (focus (simp [-List.getD_eq_getElem?_getD, List.getD_cons_zero, List.getD_cons_succ, List.getD_nil, lk, AS.ev, *]; done)))
            | ((with_reducible refine s_cond_f ?_ ?_); (focus (simp [-List.getD_eq_getElem?_getD, List.getD_cons_zero, List.getD_cons_succ, List.getD_nil, lk, AS.ev, *]; done)))
            | (focus ((with_reducible refine s_region2 (q := ?_) (σ' := ?_) TT_ok PT3_ok ?_ ?_ ?_); rotate_left 2; (focus (first | (simp [nxt]; exact Eq.refl _) | exact Eq.refl _)); (focus ((repeat (((with_reducible refine runL_cons (σ1 := ?_) ?_ ?_); rotate_left; (focus (simp [-List.getD_eq_getElem?_getD, List.getD_cons_zero, List.getD_cons_succ, List.getD_nil, undef, runL, runE, effA, stepA, dstOk, wantA, core, lk, st, dl, AS.ev, AS.evs, AS.put, AS.upd, updO, updI, nxt, cPick, cAlloc, cBox, cBuild, cBuildS, cLoad, cStore, cNil, plainOf, cBin, cNilS, isNilS, nilA, cUn, cConv, cMake, cSlice, slA, idxA, cFA, cF, cIA, cIX, cIS, cI, cExt, cLen, cApp, cMM, cFun, cCall, lenA, AS.callee, sc1, sc2, ixOk, ldA, AV.flat, AV.cell, AV.cells, Value.oneCell', fillA, spl, chunk, zeros, AS.parts, AS.rows, AS.shut, AS.shut1, AS.shut2, AS.shutL, AS.shutM, AV.ids, idsL, idsLL, eqAll, bndA, AV.scalar, AV.scalar1, AV.isV, Ef.app, fpA, light, Ef.pk, ptOf, pntO, wrO, wr, *]; rfl))))); (exact runL_nil)))))
            | (focus ((with_reducible refine s_draw2 (q := ?_) (es := ?_) (σ' := ?_) prog_mixed TT_ok PT3_ok ?_ ?_ ?_ ?_); rotate_left 3; (focus (first | (simp [nxt]; exact Eq.refl _) | exact Eq.refl _)); (focus ((repeat (((with_reducible refine runE_cons (e := ?_) (σ1 := ?_) (es := ?_) ?_ ?_ ?_); rotate_left 3; (focus (simp [-List.getD_eq_getElem?_getD, List.getD_cons_zero, List.getD_cons_succ, List.getD_nil, undef, runL, runE, effA, stepA, dstOk, wantA, core, lk, st, dl, AS.ev, AS.evs, AS.put, AS.upd, updO, updI, nxt, cPick, cAlloc, cBox, cBuild, cBuildS, cLoad, cStore, cNil, plainOf, cBin, cNilS, isNilS, nilA, cUn, cConv, cMake, cSlice, slA, idxA, cFA, cF, cIA, cIX, cIS, cI, cExt, cLen, cApp, cMM, cFun, cCall, lenA, AS.callee, sc1, sc2, ixOk, ldA, AV.flat, AV.cell, AV.cells, Value.oneCell', fillA, spl, chunk, zeros, AS.parts, AS.rows, AS.shut, AS.shut1, AS.shut2, AS.shutL, AS.shutM, AV.ids, idsL, idsLL, eqAll, bndA, AV.scalar, AV.scalar1, AV.isV, Ef.app, fpA, light, Ef.pk, ptOf, pntO, wrO, wr, *]; exact Eq.refl _)); (focus (simp [-List.getD_eq_getElem?_getD, List.getD_cons_zero, List.getD_cons_succ, Ef.app, Ef.pk, pntO, wrO, wr, lk, AS.upd, updO, updI, AS.put, st, dl]; exact Eq.refl _))))); (exact runE_nil))); (focus (first | kernel_rfl | decide)))))
        refine k_lp (⟨k + 1, by omega⟩ : {k : Nat // k ≤ L.length}) (by dsimp only; omega) ?_
        (refine weak_of (fun q => if q = 2 then 6 else q) ⟨rfl, ?_, ?_, ?_⟩ <;> ((try simp only [List.mem_cons, List.not_mem_nil, or_false, forall_eq_or_imp, forall_eq]); (try simp (disch := omega) [-List.getD_eq_getElem?_getD, List.getD_cons_zero, List.getD_cons_succ, List.getD_nil, lk, AV.ids, idsL, idsLL, AV.ren, renL, renLL, i64w, *])))
      · simp only [hc, if_true, Bool.false_eq_true, if_false, List.append_nil] at hs
        repeat (first
            | with_reducible refine s_seq ?_
            | with_reducible refine k_seq ?_
            | with_reducible refine k_seq_ret ?_
            | with_reducible refine k_seq_exit ?_
            | with_reducible refine k_blk ?_
            | with_reducible refine k_blk_ret ?_
            | with_reducible refine k_blk_exit ?_
            | ((with_reducible refine k_blk_out ?_ ?_); (focus decide))
            | with_reducible refine k_lp_ret ?_
            | with_reducible refine k_lp_exit ?_
            | with_reducible refine s_block ?_
            | with_reducible refine sp_skip ?_
            | with_reducible refine sp_ret ?_
            | with_reducible refine sp_exit ?_
            | ((with_reducible refine s_cond_t ?_ ?_); (focus (simp [-List.getD_eq_getElem?_getD, List.getD_cons_zero, List.getD_cons_succ, List.getD_nil, lk, AS.ev, *]; done)))
            | ((with_reducible refine s_cond_f ?_ ?_); (focus (simp [-List.getD_eq_getElem?_getD, List.getD_cons_zero, List.getD_cons_succ, List.getD_nil, lk, AS.ev, *]; done)))
            | (focus ((with_reducible refine s_region2 (q := ?_) (σ' := ?_) TT_ok PT3_ok ?_ ?_ ?_); rotate_left 2; (focus (first | (simp [nxt]; exact Eq.refl _) | exact Eq.refl _)); (focus ((repeat (((with_reducible refine runL_cons (σ1 := ?_) ?_ ?_); rotate_left; (focus (simp [-List.getD_eq_getElem?_getD, List.getD_cons_zero, List.getD_cons_succ, List.getD_nil, undef, runL, runE, effA, stepA, dstOk, wantA, core, lk, st, dl, AS.ev, AS.evs, AS.put, AS.upd, updO, updI, nxt, cPick, cAlloc, cBox, cBuild, cBuildS, cLoad, cStore, cNil, plainOf, cBin, cNilS, isNilS, nilA, cUn, cConv, cMake, cSlice, slA, idxA, cFA, cF, cIA, cIX, cIS, cI, cExt, cLen, cApp, cMM, cFun, cCall, lenA, AS.callee, sc1, sc2, ixOk, ldA, AV.flat, AV.cell, AV.cells, Value.oneCell', fillA, spl, chunk, zeros, AS.parts, AS.rows, AS.shut, AS.shut1, AS.shut2, AS.shutL, AS.shutM, AV.ids, idsL, idsLL, eqAll, bndA, AV.scalar, AV.scalar1, AV.isV, Ef.app, fpA, light, Ef.pk, ptOf, pntO, wrO, wr, *]; rfl))))); (exact runL_nil)))))
            | (focus ((with_reducible refine s_draw2 (q := ?_) (es := ?_) (σ' := ?_) prog_mixed TT_ok PT3_ok ?_ ?_ ?_ ?_); rotate_left 3; (focus (first | (simp [nxt]; exact Eq.refl _) | exact Eq.refl _)); (focus ((repeat (((with_reducible refine runE_cons (e := ?_) (σ1 := ?_) (es := ?_) ?_ ?_ ?_); rotate_left 3; (focus (simp [-List.getD_eq_getElem?_getD, List.getD_cons_zero, List.getD_cons_succ, List.getD_nil, undef, runL, runE, effA, stepA, dstOk, wantA, core, lk, st, dl, AS.ev, AS.evs, AS.put, AS.upd, updO, updI, nxt, cPick, cAlloc, cBox, cBuild, cBuildS, cLoad, cStore, cNil, plainOf, cBin, cNilS, isNilS, nilA, cUn, cConv, cMake, cSlice, slA, idxA, cFA, cF, cIA, cIX, cIS, cI, cExt, cLen, cApp, cMM, cFun, cCall, lenA, AS.callee, sc1, sc2, ixOk, ldA, AV.flat, AV.cell, AV.cells, Value.oneCell', fillA, spl, chunk, zeros, AS.parts, AS.rows, AS.shut, AS.shut1, AS.shut2, AS.shutL, AS.shutM, AV.ids, idsL, idsLL, eqAll, bndA, AV.scalar, AV.scalar1, AV.isV, Ef.app, fpA, light, Ef.pk, ptOf, pntO, wrO, wr, *]; exact Eq.refl _)); (focus (simp [-List.getD_eq_getElem?_getD, List.getD_cons_zero, List.getD_cons_succ, Ef.app, Ef.pk, pntO, wrO, wr, lk, AS.upd, updO, updI, AS.put, st, dl]; exact Eq.refl _))))); (exact runE_nil))); (focus (first | kernel_rfl | decide)))))
        refine k_lp (⟨k + 1, by omega⟩ : {k : Nat // k ≤ L.length}) (by dsimp only; omega) ?_
        (refine weak_id rfl ?_ ?_ <;> ((try simp only [List.mem_cons, List.not_mem_nil, or_false, forall_eq_or_imp, forall_eq]); (try simp (disch := omega) [-List.getD_eq_getElem?_getD, List.getD_cons_zero, List.getD_cons_succ, List.getD_nil, lk, AV.ids, idsL, idsLL, i64w, *])))
    · obtain rfl : k = L.length := by omega
      rw [List.take_length]
      have hlits : ∀ c ∈ openL L, Lits c := fun c hcc => by
        unfold openL at hcc
        obtain ⟨d, hd, rfl⟩ := List.mem_map.1 hcc
        intro x hx
        have := litOk_range ((hck.2.2.2 d (List.mem_filter.1 hd).1).2 x (mem_orderL.1 hx))
        unfold isLit
        have h2 := (hck.2.2.2 d (List.mem_filter.1 hd).1).2 x (mem_orderL.1 hx)
        unfold litOk at h2
        simp only [Bool.and_eq_true, decide_eq_true_eq] at h2 ⊢
        have h3 := litVar_range x
        omega
      have hok : okRows (openL L) = true := by
        have := openL_len L
        simp only [okRows, Bool.and_eq_true, List.all_eq_true, decide_eq_true_eq]
        refine ⟨fun c hcc => ?_, by omega⟩
        unfold openL at hcc
        obtain ⟨d, hd, rfl⟩ := List.mem_map.1 hcc
        have hd1 := (List.mem_filter.1 hd).1
        exact okInts_order (okRows_mem h d hd1) (okL_iff.2 fun y hy => by have := litOk_range ((hck.2.2.2 d hd1).2 y hy); omega)
      repeat (first
          | with_reducible refine s_seq ?_
          | with_reducible refine k_seq ?_
          | with_reducible refine k_seq_ret ?_
          | with_reducible refine k_seq_exit ?_
          | with_reducible refine k_blk ?_
          | with_reducible refine k_blk_ret ?_
          | with_reducible refine k_blk_exit ?_
          | ((with_reducible refine k_blk_out ?_ ?_); (focus decide))
          | with_reducible refine k_lp_ret ?_
          | with_reducible refine k_lp_exit ?_
          | with_reducible refine s_block ?_
          | with_reducible refine sp_skip ?_
          | with_reducible refine sp_ret ?_
          | with_reducible refine sp_exit ?_
          | ((with_reducible refine s_cond_t ?_ ?_); (focus (simp [-List.getD_eq_getElem?_getD, List.getD_cons_zero, List.getD_cons_succ, List.getD_nil, lk, AS.ev, *]; done)))
          | ((with_reducible refine s_cond_f ?_ ?_); (focus (simp [-List.getD_eq_getElem?_getD, List.getD_cons_zero, List.getD_cons_succ, List.getD_nil, lk, AS.ev, *]; done)))
          | (focus ((with_reducible refine s_region2 (q := ?_) (σ' := ?_) TT_ok PT3_ok ?_ ?_ ?_); rotate_left 2; (focus (first | (simp [nxt]; exact Eq.refl _) | exact Eq.refl _)); (focus ((repeat (((with_reducible refine runL_cons (σ1 := ?_) ?_ ?_); rotate_left; (focus (simp [-List.getD_eq_getElem?_getD, List.getD_cons_zero, List.getD_cons_succ, List.getD_nil, undef, runL, runE, effA, stepA, dstOk, wantA, core, lk, st, dl, AS.ev, AS.evs, AS.put, AS.upd, updO, updI, nxt, cPick, cAlloc, cBox, cBuild, cBuildS, cLoad, cStore, cNil, plainOf, cBin, cNilS, isNilS, nilA, cUn, cConv, cMake, cSlice, slA, idxA, cFA, cF, cIA, cIX, cIS, cI, cExt, cLen, cApp, cMM, cFun, cCall, lenA, AS.callee, sc1, sc2, ixOk, ldA, AV.flat, AV.cell, AV.cells, Value.oneCell', fillA, spl, chunk, zeros, AS.parts, AS.rows, AS.shut, AS.shut1, AS.shut2, AS.shutL, AS.shutM, AV.ids, idsL, idsLL, eqAll, bndA, AV.scalar, AV.scalar1, AV.isV, Ef.app, fpA, light, Ef.pk, ptOf, pntO, wrO, wr, *]; rfl))))); (exact runL_nil)))))
          | (focus ((with_reducible refine s_draw2 (q := ?_) (es := ?_) (σ' := ?_) prog_mixed TT_ok PT3_ok ?_ ?_ ?_ ?_); rotate_left 3; (focus (first | (simp [nxt]; exact Eq.refl _) | exact Eq.refl _)); (focus ((repeat (((with_reducible refine runE_cons (e := ?_) (σ1 := ?_) (es := ?_) ?_ ?_ ?_); rotate_left 3; (focus (simp [-List.getD_eq_getElem?_getD, List.getD_cons_zero, List.getD_cons_succ, List.getD_nil, undef, runL, runE, effA, stepA, dstOk, wantA, core, lk, st, dl, AS.ev, AS.evs, AS.put, AS.upd, updO, updI, nxt, cPick, cAlloc, cBox, cBuild, cBuildS, cLoad, cStore, cNil, plainOf, cBin, cNilS, isNilS, nilA, cUn, cConv, cMake, cSlice, slA, idxA, cFA, cF, cIA, cIX, cIS, cI, cExt, cLen, cApp, cMM, cFun, cCall, lenA, AS.callee, sc1, sc2, ixOk, ldA, AV.flat, AV.cell, AV.cells, Value.oneCell', fillA, spl, chunk, zeros, AS.parts, AS.rows, AS.shut, AS.shut1, AS.shut2, AS.shutL, AS.shutM, AV.ids, idsL, idsLL, eqAll, bndA, AV.scalar, AV.scalar1, AV.isV, Ef.app, fpA, light, Ef.pk, ptOf, pntO, wrO, wr, *]; exact Eq.refl _)); (focus (simp [-List.getD_eq_getElem?_getD, List.getD_cons_zero, List.getD_cons_succ, Ef.app, Ef.pk, pntO, wrO, wr, lk, AS.upd, updO, updI, AS.put, st, dl]; exact Eq.refl _))))); (exact runE_nil))); (focus (first | kernel_rfl | decide)))))
      refine s_regionL ?_
      refine spl_step TT_ok PT3_ok (id := 0) (σ' := ?_) ?_ ?_
      rotate_left
      · simp [undef, runL, runE, effA, stepA, dstOk, wantA, core, lk, st, dl, AS.ev, AS.evs, AS.put, AS.upd, updO, updI, nxt, cPick, cAlloc, cBox, cBuild, cBuildS, cLoad, cStore, cNil, plainOf, cBin, cNilS, isNilS, nilA, cUn, cConv, cMake, cSlice, slA, idxA, cFA, cF, cIA, cIX, cIS, cI, cExt, cLen, cApp, cMM, cFun, cCall, lenA, AS.callee, sc1, sc2, ixOk, ldA, AV.flat, AV.cell, AV.cells, Value.oneCell', fillA, spl, chunk, zeros, AS.parts, AS.rows, AS.shut, AS.shut1, AS.shut2, AS.shutL, AS.shutM, AV.ids, idsL, idsLL, eqAll, bndA, AV.scalar, AV.scalar1, AV.isV, Ef.app, fpA, light, Ef.pk, ptOf, pntO, wrO, wr]
        rfl
      refine spl_op (s := (.v (.tuple #[]), [(2, some ⟨38, 1, (sortRows (openL L)).map fun c => [aInts c]⟩)])) rfl rfl (ok_sortRows rfl rfl rfl hok hlits) ?_
      refine spl_nil ?_
      refine k_seq ?_
      rw [show (openL L).length = (sortRows (openL L)).length from (sortRows_perm _).length_eq.symm]
      have hok2 := okRows_sort hok
      (refine s_eq (τ := ?_) ?_ ?_; rotate_left; (focus ((try simp only [AS.frz, List.map_cons, List.map_nil]); (try simp [-List.getD_eq_getElem?_getD, List.getD_cons_zero, List.getD_cons_succ, List.getD_nil, undef, runL, runE, effA, stepA, dstOk, wantA, core, lk, st, dl, AS.ev, AS.evs, AS.put, AS.upd, updO, updI, nxt, cPick, cAlloc, cBox, cBuild, cBuildS, cLoad, cStore, cNil, plainOf, cBin, cNilS, isNilS, nilA, cUn, cConv, cMake, cSlice, slA, idxA, cFA, cF, cIA, cIX, cIS, cI, cExt, cLen, cApp, cMM, cFun, cCall, lenA, AS.callee, sc1, sc2, ixOk, ldA, AV.flat, AV.cell, AV.cells, Value.oneCell', fillA, spl, chunk, zeros, AS.parts, AS.rows, AS.shut, AS.shut1, AS.shut2, AS.shutL, AS.shutM, AV.ids, idsL, idsLL, eqAll, bndA, AV.scalar, AV.scalar1, AV.isV, Ef.app, fpA, light, Ef.pk, ptOf, pntO, wrO, wr, frzV, frzO, frzC, List.filter]); rfl)))
      refine s_frz (fun q => q == 2) ?_
      (refine s_eq (τ := ?_) ?_ ?_; rotate_left; (focus ((try simp only [AS.frz, List.map_cons, List.map_nil]); (try simp [-List.getD_eq_getElem?_getD, List.getD_cons_zero, List.getD_cons_succ, List.getD_nil, undef, runL, runE, effA, stepA, dstOk, wantA, core, lk, st, dl, AS.ev, AS.evs, AS.put, AS.upd, updO, updI, nxt, cPick, cAlloc, cBox, cBuild, cBuildS, cLoad, cStore, cNil, plainOf, cBin, cNilS, isNilS, nilA, cUn, cConv, cMake, cSlice, slA, idxA, cFA, cF, cIA, cIX, cIS, cI, cExt, cLen, cApp, cMM, cFun, cCall, lenA, AS.callee, sc1, sc2, ixOk, ldA, AV.flat, AV.cell, AV.cells, Value.oneCell', fillA, spl, chunk, zeros, AS.parts, AS.rows, AS.shut, AS.shut1, AS.shut2, AS.shutL, AS.shutM, AV.ids, idsL, idsLL, eqAll, bndA, AV.scalar, AV.scalar1, AV.isV, Ef.app, fpA, light, Ef.pk, ptOf, pntO, wrO, wr, frzV, frzO, frzC, List.filter]); rfl)))
      repeat (first
          | with_reducible refine s_seq ?_
          | with_reducible refine k_seq ?_
          | with_reducible refine k_seq_ret ?_
          | with_reducible refine k_seq_exit ?_
          | with_reducible refine k_blk ?_
          | with_reducible refine k_blk_ret ?_
          | with_reducible refine k_blk_exit ?_
          | ((with_reducible refine k_blk_out ?_ ?_); (focus decide))
          | with_reducible refine k_lp_ret ?_
          | with_reducible refine k_lp_exit ?_
          | with_reducible refine s_block ?_
          | with_reducible refine sp_skip ?_
          | with_reducible refine sp_ret ?_
          | with_reducible refine sp_exit ?_
          | ((with_reducible refine s_cond_t ?_ ?_); (focus (simp [-List.getD_eq_getElem?_getD, List.getD_cons_zero, List.getD_cons_succ, List.getD_nil, lk, AS.ev, *]; done)))
          | ((with_reducible refine s_cond_f ?_ ?_); (focus (simp [-List.getD_eq_getElem?_getD, List.getD_cons_zero, List.getD_cons_succ, List.getD_nil, lk, AS.ev, *]; done)))
          | (focus ((with_reducible refine s_region2 (q := ?_) (σ' := ?_) TT_ok PT3_ok ?_ ?_ ?_); rotate_left 2; (focus (first | (simp [nxt]; exact Eq.refl _) | exact Eq.refl _)); (focus ((repeat (((with_reducible refine runL_cons (σ1 := ?_) ?_ ?_); rotate_left; (focus (simp [-List.getD_eq_getElem?_getD, List.getD_cons_zero, List.getD_cons_succ, List.getD_nil, undef, runL, runE, effA, stepA, dstOk, wantA, core, lk, st, dl, AS.ev, AS.evs, AS.put, AS.upd, updO, updI, nxt, cPick, cAlloc, cBox, cBuild, cBuildS, cLoad, cStore, cNil, plainOf, cBin, cNilS, isNilS, nilA, cUn, cConv, cMake, cSlice, slA, idxA, cFA, cF, cIA, cIX, cIS, cI, cExt, cLen, cApp, cMM, cFun, cCall, lenA, AS.callee, sc1, sc2, ixOk, ldA, AV.flat, AV.cell, AV.cells, Value.oneCell', fillA, spl, chunk, zeros, AS.parts, AS.rows, AS.shut, AS.shut1, AS.shut2, AS.shutL, AS.shutM, AV.ids, idsL, idsLL, eqAll, bndA, AV.scalar, AV.scalar1, AV.isV, Ef.app, fpA, light, Ef.pk, ptOf, pntO, wrO, wr, *]; rfl))))); (exact runL_nil)))))
          | (focus ((with_reducible refine s_draw2 (q := ?_) (es := ?_) (σ' := ?_) prog_mixed TT_ok PT3_ok ?_ ?_ ?_ ?_); rotate_left 3; (focus (first | (simp [nxt]; exact Eq.refl _) | exact Eq.refl _)); (focus ((repeat (((with_reducible refine runE_cons (e := ?_) (σ1 := ?_) (es := ?_) ?_ ?_ ?_); rotate_left 3; (focus (simp [-List.getD_eq_getElem?_getD, List.getD_cons_zero, List.getD_cons_succ, List.getD_nil, undef, runL, runE, effA, stepA, dstOk, wantA, core, lk, st, dl, AS.ev, AS.evs, AS.put, AS.upd, updO, updI, nxt, cPick, cAlloc, cBox, cBuild, cBuildS, cLoad, cStore, cNil, plainOf, cBin, cNilS, isNilS, nilA, cUn, cConv, cMake, cSlice, slA, idxA, cFA, cF, cIA, cIX, cIS, cI, cExt, cLen, cApp, cMM, cFun, cCall, lenA, AS.callee, sc1, sc2, ixOk, ldA, AV.flat, AV.cell, AV.cells, Value.oneCell', fillA, spl, chunk, zeros, AS.parts, AS.rows, AS.shut, AS.shut1, AS.shut2, AS.shutL, AS.shutM, AV.ids, idsL, idsLL, eqAll, bndA, AV.scalar, AV.scalar1, AV.isV, Ef.app, fpA, light, Ef.pk, ptOf, pntO, wrO, wr, *]; exact Eq.refl _)); (focus (simp [-List.getD_eq_getElem?_getD, List.getD_cons_zero, List.getD_cons_succ, Ef.app, Ef.pk, pntO, wrO, wr, lk, AS.upd, updO, updI, AS.put, st, dl]; exact Eq.refl _))))); (exact runE_nil))); (focus (first | kernel_rfl | decide)))))
      ((refine post_ret (av := ?_) (by first | exact .inl rfl | exact .inr rfl) (show (Try.f20).results.toList = _ from by rw [Try.results20]) ?_ ?_); rotate_left; (focus (simp [-List.getD_eq_getElem?_getD, List.getD_cons_zero, List.getD_cons_succ, retA, retL, ret1, lk, st, ldA, AV.cell]; rfl)); (try simp [-List.getD_eq_getElem?_getD, List.getD_cons_zero, List.getD_cons_succ, List.getD_nil, undef, runL, runE, effA, stepA, dstOk, wantA, core, lk, st, dl, AS.ev, AS.evs, AS.put, AS.upd, updO, updI, nxt, cPick, cAlloc, cBox, cBuild, cBuildS, cLoad, cStore, cNil, plainOf, cBin, cNilS, isNilS, nilA, cUn, cConv, cMake, cSlice, slA, idxA, cFA, cF, cIA, cIX, cIS, cI, cExt, cLen, cApp, cMM, cFun, cCall, lenA, AS.callee, sc1, sc2, ixOk, ldA, AV.flat, AV.cell, AV.cells, Value.oneCell', fillA, spl, chunk, zeros, AS.parts, AS.rows, AS.shut, AS.shut1, AS.shut2, AS.shutL, AS.shutM, AV.ids, idsL, idsLL, eqAll, bndA, AV.scalar, AV.scalar1, AV.isV, Ef.app, fpA, light, Ef.pk, ptOf, pntO, wrO, wr, *]))
      unfold normA
      rw [if_pos hz]
      rfl
  · unfold aTh
    refine fn_sp TT_ok Try.func20 (c := _) rfl (by simp [Try.ntmps20]) (fun B hI0 hro => ?_)
    rw [Try.ntmps20]
    simp only [enumA]
    repeat (first
        | with_reducible refine s_seq ?_
        | with_reducible refine k_seq ?_
        | with_reducible refine k_seq_ret ?_
        | with_reducible refine k_seq_exit ?_
        | with_reducible refine k_blk ?_
        | with_reducible refine k_blk_ret ?_
        | with_reducible refine k_blk_exit ?_
        | ((with_reducible refine k_blk_out ?_ ?_); (focus decide))
        | with_reducible refine k_lp_ret ?_
        | with_reducible refine k_lp_exit ?_
        | with_reducible refine s_block ?_
        | with_reducible refine sp_skip ?_
        | with_reducible refine sp_ret ?_
        | with_reducible refine sp_exit ?_
        | ((with_reducible refine s_cond_t ?_ ?_); (focus (simp [-List.getD_eq_getElem?_getD, List.getD_cons_zero, List.getD_cons_succ, List.getD_nil, lk, AS.ev, *]; done)))
        | ((with_reducible refine s_cond_f ?_ ?_); (focus (simp [-List.getD_eq_getElem?_getD, List.getD_cons_zero, List.getD_cons_succ, List.getD_nil, lk, AS.ev, *]; done)))
        | (focus ((with_reducible refine s_region2 (q := ?_) (σ' := ?_) TT_ok PT3_ok ?_ ?_ ?_); rotate_left 2; (focus (first | (simp [nxt]; exact Eq.refl _) | exact Eq.refl _)); (focus ((repeat (((with_reducible refine runL_cons (σ1 := ?_) ?_ ?_); rotate_left; (focus (simp [-List.getD_eq_getElem?_getD, List.getD_cons_zero, List.getD_cons_succ, List.getD_nil, undef, runL, runE, effA, stepA, dstOk, wantA, core, lk, st, dl, AS.ev, AS.evs, AS.put, AS.upd, updO, updI, nxt, cPick, cAlloc, cBox, cBuild, cBuildS, cLoad, cStore, cNil, plainOf, cBin, cNilS, isNilS, nilA, cUn, cConv, cMake, cSlice, slA, idxA, cFA, cF, cIA, cIX, cIS, cI, cExt, cLen, cApp, cMM, cFun, cCall, lenA, AS.callee, sc1, sc2, ixOk, ldA, AV.flat, AV.cell, AV.cells, Value.oneCell', fillA, spl, chunk, zeros, AS.parts, AS.rows, AS.shut, AS.shut1, AS.shut2, AS.shutL, AS.shutM, AV.ids, idsL, idsLL, eqAll, bndA, AV.scalar, AV.scalar1, AV.isV, Ef.app, fpA, light, Ef.pk, ptOf, pntO, wrO, wr, *]; rfl))))); (exact runL_nil)))))
        | (focus ((with_reducible refine s_draw2 (q := ?_) (es := ?_) (σ' := ?_) prog_mixed TT_ok PT3_ok ?_ ?_ ?_ ?_); rotate_left 3; (focus (first | (simp [nxt]; exact Eq.refl _) | exact Eq.refl _)); (focus ((repeat (((with_reducible refine runE_cons (e := ?_) (σ1 := ?_) (es := ?_) ?_ ?_ ?_); rotate_left 3; (focus (simp [-List.getD_eq_getElem?_getD, List.getD_cons_zero, List.getD_cons_succ, List.getD_nil, undef, runL, runE, effA, stepA, dstOk, wantA, core, lk, st, dl, AS.ev, AS.evs, AS.put, AS.upd, updO, updI, nxt, cPick, cAlloc, cBox, cBuild, cBuildS, cLoad, cStore, cNil, plainOf, cBin, cNilS, isNilS, nilA, cUn, cConv, cMake, cSlice, slA, idxA, cFA, cF, cIA, cIX, cIS, cI, cExt, cLen, cApp, cMM, cFun, cCall, lenA, AS.callee, sc1, sc2, ixOk, ldA, AV.flat, AV.cell, AV.cells, Value.oneCell', fillA, spl, chunk, zeros, AS.parts, AS.rows, AS.shut, AS.shut1, AS.shut2, AS.shutL, AS.shutM, AV.ids, idsL, idsLL, eqAll, bndA, AV.scalar, AV.scalar1, AV.isV, Ef.app, fpA, light, Ef.pk, ptOf, pntO, wrO, wr, *]; exact Eq.refl _)); (focus (simp [-List.getD_eq_getElem?_getD, List.getD_cons_zero, List.getD_cons_succ, Ef.app, Ef.pk, pntO, wrO, wr, lk, AS.upd, updO, updI, AS.put, st, dl]; exact Eq.refl _))))); (exact runE_nil))); (focus (first | kernel_rfl | decide)))))
    ((refine post_ret (av := ?_) (by first | exact .inl rfl | exact .inr rfl) (show (Try.f20).results.toList = _ from by rw [Try.results20]) ?_ ?_); rotate_left; (focus (simp [-List.getD_eq_getElem?_getD, List.getD_cons_zero, List.getD_cons_succ, retA, retL, ret1, lk, st, ldA, AV.cell]; rfl)); (try simp [-List.getD_eq_getElem?_getD, List.getD_cons_zero, List.getD_cons_succ, List.getD_nil, undef, runL, runE, effA, stepA, dstOk, wantA, core, lk, st, dl, AS.ev, AS.evs, AS.put, AS.upd, updO, updI, nxt, cPick, cAlloc, cBox, cBuild, cBuildS, cLoad, cStore, cNil, plainOf, cBin, cNilS, isNilS, nilA, cUn, cConv, cMake, cSlice, slA, idxA, cFA, cF, cIA, cIX, cIS, cI, cExt, cLen, cApp, cMM, cFun, cCall, lenA, AS.callee, sc1, sc2, ixOk, ldA, AV.flat, AV.cell, AV.cells, Value.oneCell', fillA, spl, chunk, zeros, AS.parts, AS.rows, AS.shut, AS.shut1, AS.shut2, AS.shutL, AS.shutM, AV.ids, idsL, idsLL, eqAll, bndA, AV.scalar, AV.scalar1, AV.isV, Ef.app, fpA, light, Ef.pk, ptOf, pntO, wrO, wr, *]))
    unfold normA
    rw [if_neg hz]
@[simp] def g_normal : List AV → Option (AV × Bool)
  | [.agg [.v (.int .i64 N), a0]] => (match toRows a0 with | some L => if (okI N && okRows L) = true then some (normA N L, false) else none | none => none)
  | _ => none
theorem e_normal : EntOk Try.prog 20 g_normal := ent_pure (by kernel_rfl) fun args r fr h => by
  unfold g_normal at h
  split at h
  · rename_i N a0
    split at h
    · rename_i L t0
      split at h
      · rename_i hc
        simp only [Bool.and_eq_true] at hc
        obtain ⟨m0, o0⟩ := hc
        cases h
        exact ⟨FnPure.cov (normal_p N L m0 o0) (.cons (cov_th _ (cov_rows t0)) .nil), rfl⟩
      · cases h
    · cases h
  · cases h

def l4 : List (FuncId × (List AV → Option (AV × Bool))) :=
  (20, g_normal) :: l3
theorem l4_ok : ∀ p ∈ l4, EntOk Try.prog p.1 p.2 := ent_cons e_normal (l3_ok)
def PT4 : PTab := tab l4
theorem PT4_ok : PTok Try.prog PT4 := tab_ok l4_ok
@[simp] theorem PT4_litVar : PT4 41 = g_litVar := rfl
@[simp] theorem PT4_litValid : PT4 36 = g_litValid := rfl
@[simp] theorem PT4_check : PT4 17 = g_check := rfl
@[simp] theorem PT4_with : PT4 56 = g_with := rfl
@[simp] theorem PT4_all : PT4 48 = g_all := rfl
@[simp] theorem PT4_rValid : PT4 37 = g_rValid := rfl
@[simp] theorem PT4_rHas : PT4 60 = g_rHas := rfl
@[simp] theorem PT4_rHolds : PT4 51 = g_rHolds := rfl
@[simp] theorem PT4_rAssign : PT4 50 = g_rAssign := rfl
@[simp] theorem PT4_rCheck : PT4 18 = g_rCheck := rfl
@[simp] theorem PT4_rEval : PT4 25 = g_rEval := rfl
@[simp] theorem PT4_litvalid : PT4 61 = g_litvalid := rfl
@[simp] theorem PT4_opposite : PT4 63 = g_opposite := rfl
@[simp] theorem PT4_clone : PT4 58 = g_clone := rfl
@[simp] theorem PT4_order : PT4 62 = g_order := rfl
@[simp] theorem PT4_term : PT4 52 = g_term := rfl
@[simp] theorem PT4_clause : PT4 38 = g_clause := rfl
@[simp] theorem PT4_equal : PT4 43 = g_equal := rfl
@[simp] theorem PT4_distinct : PT4 42 = g_distinct := rfl
@[simp] theorem PT4_normal : PT4 20 = g_normal := rfl
end Go.Proofs.Ytkollnaojpppcaa
