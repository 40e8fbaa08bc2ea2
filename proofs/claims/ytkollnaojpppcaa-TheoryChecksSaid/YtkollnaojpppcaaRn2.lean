/- Contracts of censusref05.Before, sorted, put, Normal, by the abstract machine; no condition. -/
import Derived.Test.YtkollnaojpppcaaRn1
namespace Go.Proofs.Ytkollnaojpppcaa
open Go.RowKit
set_option maxRecDepth 100000

theorem isLit_absI {x : Int} (h : isLit x = true) : absI x = litVar x := by
  obtain ⟨h1, h2, h3, h4⟩ := isLit_abs h
  rw [h1]; unfold absI; split <;> omega
theorem lits_at {c : List Int} (h : Lits c) {k : Nat} (hk : k < c.length) : isLit (c.getD k 0) = true := by
  have : c.getD k 0 = c[k] := by simp [List.getD, hk]
  rw [this]; exact h _ (List.getElem_mem _)
theorem isLit_okS {x : Int} (h : isLit x = true) : okS x = true := by
  obtain ⟨h1, h2, h3, h4⟩ := isLit_abs h
  simp [okS, h3, h4]
theorem lits_ok {c : List Int} (h : Lits c) (hl : c.length ≤ 17592186044416) : okInts c = true := by
  simp only [okInts, Bool.and_eq_true, List.all_eq_true, decide_eq_true_eq]
  refine ⟨fun x hx => ?_, hl⟩
  obtain ⟨h1, h2, h3, h4⟩ := isLit_abs (h x hx)
  exact okI_iff.2 ⟨by omega, by omega⟩
set_option maxHeartbeats 1000000 in
theorem rBefore_p (c d : List Int) (hc : Lits c) (hd : Lits d) (hcl : c.length ≤ 17592186044416) (hdl : d.length ≤ 17592186044416) : FnPure Try.prog 66 [aInts c, aInts d] (.v (.bool (decide (cmpC c d < 0)))) := by
  by_cases hl : c.length = d.length
  · have hC : cmpC c d = cmpG c d := by unfold cmpC; rw [if_pos hl]
    rw [hC]
    refine fn_sp TT_ok Try.func66 (c := _) rfl (by simp [Try.ntmps66]) (fun B hI0 hro => ?_)
    rw [Try.ntmps66]
    simp only [enumA]
    repeat (first
        | with_reducible refine s_seq ?_
        | with_reducible refine k_seq ?_
        | with_reducible refine k_seq_ret ?_
        | with_reducible refine k_seq_exit ?_
        | with_reducible refine k_blk ?_
        | with_reducible refine k_blk_ret ?_
        | with_reducible refine k_blk_exit ?_
        | ((with_reducible refine k_blk_out ?_ ?_); (focus decide))
        | with_reducible refine k_lp_ret ?_
        | with_reducible refine k_lp_exit ?_
        | with_reducible refine s_block ?_
        | with_reducible refine sp_skip ?_
        | with_reducible refine sp_ret ?_
        | with_reducible refine sp_exit ?_
        | ((with_reducible refine s_cond_t ?_ ?_); (focus (simp [-List.getD_eq_getElem?_getD, List.getD_cons_zero, List.getD_cons_succ, List.getD_nil, lk, AS.ev, *]; done)))
        | ((with_reducible refine s_cond_f ?_ ?_); (focus (simp [-List.getD_eq_getElem?_getD, List.getD_cons_zero, List.getD_cons_succ, List.getD_nil, lk, AS.ev, *]; done)))
        | (focus ((with_reducible refine s_region2 (q := ?_) (σ' := ?_) TT_ok PT5_ok ?_ ?_ ?_); rotate_left 2; (focus (first | (simp [nxt]; exact Eq.refl _) | exact Eq.refl _)); (focus ((repeat (((with_reducible refine runL_cons (σ1 := ?_) ?_ ?_); rotate_left; (focus (simp [-List.getD_eq_getElem?_getD, List.getD_cons_zero, List.getD_cons_succ, List.getD_nil, undef, runL, runE, effA, stepA, dstOk, wantA, core, lk, st, dl, AS.ev, AS.evs, AS.put, AS.upd, updO, updI, nxt, cPick, cAlloc, cBox, cBuild, cBuildS, cLoad, cStore, cNil, plainOf, cBin, cNilS, isNilS, nilA, cUn, cConv, cMake, cSlice, slA, idxA, cFA, cF, cIA, cIX, cIS, cI, cExt, cLen, cApp, cMM, cFun, cCall, lenA, AS.callee, sc1, sc2, ixOk, ldA, AV.flat, AV.cell, AV.cells, Value.oneCell', fillA, spl, chunk, zeros, AS.parts, AS.rows, AS.shut, AS.shut1, AS.shut2, AS.shutL, AS.shutM, AV.ids, idsL, idsLL, eqAll, bndA, AV.scalar, AV.scalar1, AV.isV, Ef.app, fpA, light, Ef.pk, ptOf, pntO, wrO, wr, *]; rfl))))); (exact runL_nil)))))
        | (focus ((with_reducible refine s_draw2 (q := ?_) (es := ?_) (σ' := ?_) prog_mixed TT_ok PT5_ok ?_ ?_ ?_ ?_); rotate_left 3; (focus (first | (simp [nxt]; exact Eq.refl _) | exact Eq.refl _)); (focus ((repeat (((with_reducible refine runE_cons (e := ?_) (σ1 := ?_) (es := ?_) ?_ ?_ ?_); rotate_left 3; (focus (simp [-List.getD_eq_getElem?_getD, List.getD_cons_zero, List.getD_cons_succ, List.getD_nil, undef, runL, runE, effA, stepA, dstOk, wantA, core, lk, st, dl, AS.ev, AS.evs, AS.put, AS.upd, updO, updI, nxt, cPick, cAlloc, cBox, cBuild, cBuildS, cLoad, cStore, cNil, plainOf, cBin, cNilS, isNilS, nilA, cUn, cConv, cMake, cSlice, slA, idxA, cFA, cF, cIA, cIX, cIS, cI, cExt, cLen, cApp, cMM, cFun, cCall, lenA, AS.callee, sc1, sc2, ixOk, ldA, AV.flat, AV.cell, AV.cells, Value.oneCell', fillA, spl, chunk, zeros, AS.parts, AS.rows, AS.shut, AS.shut1, AS.shut2, AS.shutL, AS.shutM, AV.ids, idsL, idsLL, eqAll, bndA, AV.scalar, AV.scalar1, AV.isV, Ef.app, fpA, light, Ef.pk, ptOf, pntO, wrO, wr, *]; exact Eq.refl _)); (focus (simp [-List.getD_eq_getElem?_getD, List.getD_cons_zero, List.getD_cons_succ, Ef.app, Ef.pk, pntO, wrO, wr, lk, AS.upd, updO, updI, AS.put, st, dl]; exact Eq.refl _))))); (exact runE_nil))); (focus (first | kernel_rfl | decide)))))
    refine s_loop (J := fun i : {k : Nat // k ≤ c.length ∧ Hid (∀ j, j < k → c.getD j 0 = d.getD j 0)} => ⟨62, [(0, aInts c), (1, aInts d), (5, .v (.int .i64 (i.1 : Int)))], [], []⟩) (μ := fun i => c.length - i.1) ⟨0, Nat.zero_le _, (fun j hj => by omega : ∀ j, j < 0 → c.getD j 0 = d.getD j 0)⟩ ?_ (fun ⟨k, hk, he⟩ => ?_)
    · (refine weak_id rfl ?_ ?_ <;> ((try simp only [List.mem_cons, List.not_mem_nil, or_false, forall_eq_or_imp, forall_eq]); (try simp (disch := omega) [-List.getD_eq_getElem?_getD, List.getD_cons_zero, List.getD_cons_succ, List.getD_nil, lk, AV.ids, idsL, idsLL, i64w, *])))
    repeat (first
        | with_reducible refine s_seq ?_
        | with_reducible refine k_seq ?_
        | with_reducible refine k_seq_ret ?_
        | with_reducible refine k_seq_exit ?_
        | with_reducible refine k_blk ?_
        | with_reducible refine k_blk_ret ?_
        | with_reducible refine k_blk_exit ?_
        | ((with_reducible refine k_blk_out ?_ ?_); (focus decide))
        | with_reducible refine k_lp_ret ?_
        | with_reducible refine k_lp_exit ?_
        | with_reducible refine s_block ?_
        | with_reducible refine sp_skip ?_
        | with_reducible refine sp_ret ?_
        | with_reducible refine sp_exit ?_
        | ((with_reducible refine s_cond_t ?_ ?_); (focus (simp [-List.getD_eq_getElem?_getD, List.getD_cons_zero, List.getD_cons_succ, List.getD_nil, lk, AS.ev, *]; done)))
        | ((with_reducible refine s_cond_f ?_ ?_); (focus (simp [-List.getD_eq_getElem?_getD, List.getD_cons_zero, List.getD_cons_succ, List.getD_nil, lk, AS.ev, *]; done)))
        | (focus ((with_reducible refine s_region2 (q := ?_) (σ' := ?_) TT_ok PT5_ok ?_ ?_ ?_); rotate_left 2; (focus (first | (simp [nxt]; exact Eq.refl _) | exact Eq.refl _)); (focus ((repeat (((with_reducible refine runL_cons (σ1 := ?_) ?_ ?_); rotate_left; (focus (simp [-List.getD_eq_getElem?_getD, List.getD_cons_zero, List.getD_cons_succ, List.getD_nil, undef, runL, runE, effA, stepA, dstOk, wantA, core, lk, st, dl, AS.ev, AS.evs, AS.put, AS.upd, updO, updI, nxt, cPick, cAlloc, cBox, cBuild, cBuildS, cLoad, cStore, cNil, plainOf, cBin, cNilS, isNilS, nilA, cUn, cConv, cMake, cSlice, slA, idxA, cFA, cF, cIA, cIX, cIS, cI, cExt, cLen, cApp, cMM, cFun, cCall, lenA, AS.callee, sc1, sc2, ixOk, ldA, AV.flat, AV.cell, AV.cells, Value.oneCell', fillA, spl, chunk, zeros, AS.parts, AS.rows, AS.shut, AS.shut1, AS.shut2, AS.shutL, AS.shutM, AV.ids, idsL, idsLL, eqAll, bndA, AV.scalar, AV.scalar1, AV.isV, Ef.app, fpA, light, Ef.pk, ptOf, pntO, wrO, wr, *]; rfl))))); (exact runL_nil)))))
        | (focus ((with_reducible refine s_draw2 (q := ?_) (es := ?_) (σ' := ?_) prog_mixed TT_ok PT5_ok ?_ ?_ ?_ ?_); rotate_left 3; (focus (first | (simp [nxt]; exact Eq.refl _) | exact Eq.refl _)); (focus ((repeat (((with_reducible refine runE_cons (e := ?_) (σ1 := ?_) (es := ?_) ?_ ?_ ?_); rotate_left 3; (focus (simp [-List.getD_eq_getElem?_getD, List.getD_cons_zero, List.getD_cons_succ, List.getD_nil, undef, runL, runE, effA, stepA, dstOk, wantA, core, lk, st, dl, AS.ev, AS.evs, AS.put, AS.upd, updO, updI, nxt, cPick, cAlloc, cBox, cBuild, cBuildS, cLoad, cStore, cNil, plainOf, cBin, cNilS, isNilS, nilA, cUn, cConv, cMake, cSlice, slA, idxA, cFA, cF, cIA, cIX, cIS, cI, cExt, cLen, cApp, cMM, cFun, cCall, lenA, AS.callee, sc1, sc2, ixOk, ldA, AV.flat, AV.cell, AV.cells, Value.oneCell', fillA, spl, chunk, zeros, AS.parts, AS.rows, AS.shut, AS.shut1, AS.shut2, AS.shutL, AS.shutM, AV.ids, idsL, idsLL, eqAll, bndA, AV.scalar, AV.scalar1, AV.isV, Ef.app, fpA, light, Ef.pk, ptOf, pntO, wrO, wr, *]; exact Eq.refl _)); (focus (simp [-List.getD_eq_getElem?_getD, List.getD_cons_zero, List.getD_cons_succ, Ef.app, Ef.pk, pntO, wrO, wr, lk, AS.upd, updO, updI, AS.put, st, dl]; exact Eq.refl _))))); (exact runE_nil))); (focus (first | kernel_rfl | decide)))))
    (focus ((with_reducible refine sp_cond (b := ?_) ?_ (fun hc => ?_) (fun hc => ?_)); rotate_left; (focus (first | rfl | (simp [lk, AS.ev]; rfl))); all_goals (try simp [-List.getD_eq_getElem?_getD] at hc)))
    · rename_i hkl
      have hk1 : k < c.length := by omega
      have hk2 : k < d.length := by omega
      repeat (first
          | with_reducible refine s_seq ?_
          | with_reducible refine k_seq ?_
          | with_reducible refine k_seq_ret ?_
          | with_reducible refine k_seq_exit ?_
          | with_reducible refine k_blk ?_
          | with_reducible refine k_blk_ret ?_
          | with_reducible refine k_blk_exit ?_
          | ((with_reducible refine k_blk_out ?_ ?_); (focus decide))
          | with_reducible refine k_lp_ret ?_
          | with_reducible refine k_lp_exit ?_
          | with_reducible refine s_block ?_
          | with_reducible refine sp_skip ?_
          | with_reducible refine sp_ret ?_
          | with_reducible refine sp_exit ?_
          | ((with_reducible refine s_cond_t ?_ ?_); (focus (simp [-List.getD_eq_getElem?_getD, List.getD_cons_zero, List.getD_cons_succ, List.getD_nil, lk, AS.ev, *]; done)))
          | ((with_reducible refine s_cond_f ?_ ?_); (focus (simp [-List.getD_eq_getElem?_getD, List.getD_cons_zero, List.getD_cons_succ, List.getD_nil, lk, AS.ev, *]; done)))
          | (focus ((with_reducible refine s_region2 (q := ?_) (σ' := ?_) TT_ok PT5_ok ?_ ?_ ?_); rotate_left 2; (focus (first | (simp [nxt]; exact Eq.refl _) | exact Eq.refl _)); (focus ((repeat (((with_reducible refine runL_cons (σ1 := ?_) ?_ ?_); rotate_left; (focus (simp [-List.getD_eq_getElem?_getD, List.getD_cons_zero, List.getD_cons_succ, List.getD_nil, undef, runL, runE, effA, stepA, dstOk, wantA, core, lk, st, dl, AS.ev, AS.evs, AS.put, AS.upd, updO, updI, nxt, cPick, cAlloc, cBox, cBuild, cBuildS, cLoad, cStore, cNil, plainOf, cBin, cNilS, isNilS, nilA, cUn, cConv, cMake, cSlice, slA, idxA, cFA, cF, cIA, cIX, cIS, cI, cExt, cLen, cApp, cMM, cFun, cCall, lenA, AS.callee, sc1, sc2, ixOk, ldA, AV.flat, AV.cell, AV.cells, Value.oneCell', fillA, spl, chunk, zeros, AS.parts, AS.rows, AS.shut, AS.shut1, AS.shut2, AS.shutL, AS.shutM, AV.ids, idsL, idsLL, eqAll, bndA, AV.scalar, AV.scalar1, AV.isV, Ef.app, fpA, light, Ef.pk, ptOf, pntO, wrO, wr, *]; rfl))))); (exact runL_nil)))))
          | (focus ((with_reducible refine s_draw2 (q := ?_) (es := ?_) (σ' := ?_) prog_mixed TT_ok PT5_ok ?_ ?_ ?_ ?_); rotate_left 3; (focus (first | (simp [nxt]; exact Eq.refl _) | exact Eq.refl _)); (focus ((repeat (((with_reducible refine runE_cons (e := ?_) (σ1 := ?_) (es := ?_) ?_ ?_ ?_); rotate_left 3; (focus (simp [-List.getD_eq_getElem?_getD, List.getD_cons_zero, List.getD_cons_succ, List.getD_nil, undef, runL, runE, effA, stepA, dstOk, wantA, core, lk, st, dl, AS.ev, AS.evs, AS.put, AS.upd, updO, updI, nxt, cPick, cAlloc, cBox, cBuild, cBuildS, cLoad, cStore, cNil, plainOf, cBin, cNilS, isNilS, nilA, cUn, cConv, cMake, cSlice, slA, idxA, cFA, cF, cIA, cIX, cIS, cI, cExt, cLen, cApp, cMM, cFun, cCall, lenA, AS.callee, sc1, sc2, ixOk, ldA, AV.flat, AV.cell, AV.cells, Value.oneCell', fillA, spl, chunk, zeros, AS.parts, AS.rows, AS.shut, AS.shut1, AS.shut2, AS.shutL, AS.shutM, AV.ids, idsL, idsLL, eqAll, bndA, AV.scalar, AV.scalar1, AV.isV, Ef.app, fpA, light, Ef.pk, ptOf, pntO, wrO, wr, *]; exact Eq.refl _)); (focus (simp [-List.getD_eq_getElem?_getD, List.getD_cons_zero, List.getD_cons_succ, Ef.app, Ef.pk, pntO, wrO, wr, lk, AS.upd, updO, updI, AS.put, st, dl]; exact Eq.refl _))))); (exact runE_nil))); (focus (first | kernel_rfl | decide)))))
      (focus ((with_reducible refine sp_cond (b := ?_) ?_ (fun hc => ?_) (fun hc => ?_)); rotate_left; (focus (first | rfl | (simp [lk, AS.ev]; rfl))); all_goals (try simp [-List.getD_eq_getElem?_getD] at hc)))
      · have hat := cmpG_at c d k hk1 hk2 he.out hc
        have l1 := lits_at (by assumption : Lits c) hk1
        have l2 := lits_at (by assumption : Lits d) hk2
        have s1 := isLit_okS l1
        have s2 := isLit_okS l2
        have i1 : okI (c.getD k 0) = true := okI_iff.2 ⟨by have := isLit_abs l1; omega, by have := isLit_abs l1; omega⟩
        have i2 : okI (d.getD k 0) = true := okI_iff.2 ⟨by have := isLit_abs l2; omega, by have := isLit_abs l2; omega⟩
        have a1 := isLit_absI l1
        have a2 := isLit_absI l2
        have v1 := (isLit_abs l1).1
        have v2 := (isLit_abs l2).1
        have HR : Hid (cmpG c d = if litVar (c.getD k 0) = litVar (d.getD k 0) then c.getD k 0 else litVar (c.getD k 0) - litVar (d.getD k 0)) := hat
        clear hat v1 v2 l1 l2
        generalize litVar (c.getD k 0) = vx at *
        generalize litVar (d.getD k 0) = vy at *
        by_cases b1 : vx < vy
        · repeat (first
              | with_reducible refine s_seq ?_
              | with_reducible refine k_seq ?_
              | with_reducible refine k_seq_ret ?_
              | with_reducible refine k_seq_exit ?_
              | with_reducible refine k_blk ?_
              | with_reducible refine k_blk_ret ?_
              | with_reducible refine k_blk_exit ?_
              | ((with_reducible refine k_blk_out ?_ ?_); (focus decide))
              | with_reducible refine k_lp_ret ?_
              | with_reducible refine k_lp_exit ?_
              | with_reducible refine s_block ?_
              | with_reducible refine sp_skip ?_
              | with_reducible refine sp_ret ?_
              | with_reducible refine sp_exit ?_
              | ((with_reducible refine s_cond_t ?_ ?_); (focus (simp [-List.getD_eq_getElem?_getD, List.getD_cons_zero, List.getD_cons_succ, List.getD_nil, lk, AS.ev, *]; done)))
              | ((with_reducible refine s_cond_f ?_ ?_); (focus (simp [-List.getD_eq_getElem?_getD, List.getD_cons_zero, List.getD_cons_succ, List.getD_nil, lk, AS.ev, *]; done)))
              | (focus ((with_reducible refine s_region2 (q := ?_) (σ' := ?_) TT_ok PT5_ok ?_ ?_ ?_); rotate_left 2; (focus (first | (simp [nxt]; exact Eq.refl _) | exact Eq.refl _)); (focus ((repeat (((with_reducible refine runL_cons (σ1 := ?_) ?_ ?_); rotate_left; (focus (simp [-List.getD_eq_getElem?_getD, List.getD_cons_zero, List.getD_cons_succ, List.getD_nil, undef, runL, runE, effA, stepA, dstOk, wantA, core, lk, st, dl, AS.ev, AS.evs, AS.put, AS.upd, updO, updI, nxt, cPick, cAlloc, cBox, cBuild, cBuildS, cLoad, cStore, cNil, plainOf, cBin, cNilS, isNilS, nilA, cUn, cConv, cMake, cSlice, slA, idxA, cFA, cF, cIA, cIX, cIS, cI, cExt, cLen, cApp, cMM, cFun, cCall, lenA, AS.callee, sc1, sc2, ixOk, ldA, AV.flat, AV.cell, AV.cells, Value.oneCell', fillA, spl, chunk, zeros, AS.parts, AS.rows, AS.shut, AS.shut1, AS.shut2, AS.shutL, AS.shutM, AV.ids, idsL, idsLL, eqAll, bndA, AV.scalar, AV.scalar1, AV.isV, Ef.app, fpA, light, Ef.pk, ptOf, pntO, wrO, wr, *]; rfl))))); (exact runL_nil)))))
              | (focus ((with_reducible refine s_draw2 (q := ?_) (es := ?_) (σ' := ?_) prog_mixed TT_ok PT5_ok ?_ ?_ ?_ ?_); rotate_left 3; (focus (first | (simp [nxt]; exact Eq.refl _) | exact Eq.refl _)); (focus ((repeat (((with_reducible refine runE_cons (e := ?_) (σ1 := ?_) (es := ?_) ?_ ?_ ?_); rotate_left 3; (focus (simp [-List.getD_eq_getElem?_getD, List.getD_cons_zero, List.getD_cons_succ, List.getD_nil, undef, runL, runE, effA, stepA, dstOk, wantA, core, lk, st, dl, AS.ev, AS.evs, AS.put, AS.upd, updO, updI, nxt, cPick, cAlloc, cBox, cBuild, cBuildS, cLoad, cStore, cNil, plainOf, cBin, cNilS, isNilS, nilA, cUn, cConv, cMake, cSlice, slA, idxA, cFA, cF, cIA, cIX, cIS, cI, cExt, cLen, cApp, cMM, cFun, cCall, lenA, AS.callee, sc1, sc2, ixOk, ldA, AV.flat, AV.cell, AV.cells, Value.oneCell', fillA, spl, chunk, zeros, AS.parts, AS.rows, AS.shut, AS.shut1, AS.shut2, AS.shutL, AS.shutM, AV.ids, idsL, idsLL, eqAll, bndA, AV.scalar, AV.scalar1, AV.isV, Ef.app, fpA, light, Ef.pk, ptOf, pntO, wrO, wr, *]; exact Eq.refl _)); (focus (simp [-List.getD_eq_getElem?_getD, List.getD_cons_zero, List.getD_cons_succ, Ef.app, Ef.pk, pntO, wrO, wr, lk, AS.upd, updO, updI, AS.put, st, dl]; exact Eq.refl _))))); (exact runE_nil))); (focus (first | kernel_rfl | decide)))))
          ((refine post_ret (av := ?_) (by first | exact .inl rfl | exact .inr rfl) (show (Try.f66).results.toList = _ from by rw [Try.results66]) ?_ ?_); rotate_left; (focus (simp [-List.getD_eq_getElem?_getD, List.getD_cons_zero, List.getD_cons_succ, retA, retL, ret1, lk, st, ldA, AV.cell]; rfl)); (try simp [-List.getD_eq_getElem?_getD, List.getD_cons_zero, List.getD_cons_succ, List.getD_nil, undef, runL, runE, effA, stepA, dstOk, wantA, core, lk, st, dl, AS.ev, AS.evs, AS.put, AS.upd, updO, updI, nxt, cPick, cAlloc, cBox, cBuild, cBuildS, cLoad, cStore, cNil, plainOf, cBin, cNilS, isNilS, nilA, cUn, cConv, cMake, cSlice, slA, idxA, cFA, cF, cIA, cIX, cIS, cI, cExt, cLen, cApp, cMM, cFun, cCall, lenA, AS.callee, sc1, sc2, ixOk, ldA, AV.flat, AV.cell, AV.cells, Value.oneCell', fillA, spl, chunk, zeros, AS.parts, AS.rows, AS.shut, AS.shut1, AS.shut2, AS.shutL, AS.shutM, AV.ids, idsL, idsLL, eqAll, bndA, AV.scalar, AV.scalar1, AV.isV, Ef.app, fpA, light, Ef.pk, ptOf, pntO, wrO, wr, *]))
          have := HR.out
          rw [if_neg (by omega)] at this
          omega
        · by_cases b2 : vx = vy
          · repeat (first
                | with_reducible refine s_seq ?_
                | with_reducible refine k_seq ?_
                | with_reducible refine k_seq_ret ?_
                | with_reducible refine k_seq_exit ?_
                | with_reducible refine k_blk ?_
                | with_reducible refine k_blk_ret ?_
                | with_reducible refine k_blk_exit ?_
                | ((with_reducible refine k_blk_out ?_ ?_); (focus decide))
                | with_reducible refine k_lp_ret ?_
                | with_reducible refine k_lp_exit ?_
                | with_reducible refine s_block ?_
                | with_reducible refine sp_skip ?_
                | with_reducible refine sp_ret ?_
                | with_reducible refine sp_exit ?_
                | ((with_reducible refine s_cond_t ?_ ?_); (focus (simp [-List.getD_eq_getElem?_getD, List.getD_cons_zero, List.getD_cons_succ, List.getD_nil, lk, AS.ev, *]; done)))
                | ((with_reducible refine s_cond_f ?_ ?_); (focus (simp [-List.getD_eq_getElem?_getD, List.getD_cons_zero, List.getD_cons_succ, List.getD_nil, lk, AS.ev, *]; done)))
                | (focus ((with_reducible refine s_region2 (q := ?_) (σ' := ?_) TT_ok PT5_ok ?_ ?_ ?_); rotate_left 2; (focus (first | (simp [nxt]; exact Eq.refl _) | exact Eq.refl _)); (focus ((repeat (((with_reducible refine runL_cons (σ1 := ?_) ?_ ?_); rotate_left; (focus (simp [-List.getD_eq_getElem?_getD, List.getD_cons_zero, List.getD_cons_succ, List.getD_nil, undef, runL, runE, effA, stepA, dstOk, wantA, core, lk, st, dl, AS.ev, AS.evs, AS.put, AS.upd, updO, updI, nxt, cPick, cAlloc, cBox, cBuild, cBuildS, cLoad, cStore, cNil, plainOf, cBin, cNilS, isNilS, nilA, cUn, cConv, cMake, cSlice, slA, idxA, cFA, cF, cIA, cIX, cIS, cI, cExt, cLen, cApp, cMM, cFun, cCall, lenA, AS.callee, sc1, sc2, ixOk, ldA, AV.flat, AV.cell, AV.cells, Value.oneCell', fillA, spl, chunk, zeros, AS.parts, AS.rows, AS.shut, AS.shut1, AS.shut2, AS.shutL, AS.shutM, AV.ids, idsL, idsLL, eqAll, bndA, AV.scalar, AV.scalar1, AV.isV, Ef.app, fpA, light, Ef.pk, ptOf, pntO, wrO, wr, *]; rfl))))); (exact runL_nil)))))
                | (focus ((with_reducible refine s_draw2 (q := ?_) (es := ?_) (σ' := ?_) prog_mixed TT_ok PT5_ok ?_ ?_ ?_ ?_); rotate_left 3; (focus (first | (simp [nxt]; exact Eq.refl _) | exact Eq.refl _)); (focus ((repeat (((with_reducible refine runE_cons (e := ?_) (σ1 := ?_) (es := ?_) ?_ ?_ ?_); rotate_left 3; (focus (simp [-List.getD_eq_getElem?_getD, List.getD_cons_zero, List.getD_cons_succ, List.getD_nil, undef, runL, runE, effA, stepA, dstOk, wantA, core, lk, st, dl, AS.ev, AS.evs, AS.put, AS.upd, updO, updI, nxt, cPick, cAlloc, cBox, cBuild, cBuildS, cLoad, cStore, cNil, plainOf, cBin, cNilS, isNilS, nilA, cUn, cConv, cMake, cSlice, slA, idxA, cFA, cF, cIA, cIX, cIS, cI, cExt, cLen, cApp, cMM, cFun, cCall, lenA, AS.callee, sc1, sc2, ixOk, ldA, AV.flat, AV.cell, AV.cells, Value.oneCell', fillA, spl, chunk, zeros, AS.parts, AS.rows, AS.shut, AS.shut1, AS.shut2, AS.shutL, AS.shutM, AV.ids, idsL, idsLL, eqAll, bndA, AV.scalar, AV.scalar1, AV.isV, Ef.app, fpA, light, Ef.pk, ptOf, pntO, wrO, wr, *]; exact Eq.refl _)); (focus (simp [-List.getD_eq_getElem?_getD, List.getD_cons_zero, List.getD_cons_succ, Ef.app, Ef.pk, pntO, wrO, wr, lk, AS.upd, updO, updI, AS.put, st, dl]; exact Eq.refl _))))); (exact runE_nil))); (focus (first | kernel_rfl | decide)))))
            ((refine post_ret (av := ?_) (by first | exact .inl rfl | exact .inr rfl) (show (Try.f66).results.toList = _ from by rw [Try.results66]) ?_ ?_); rotate_left; (focus (simp [-List.getD_eq_getElem?_getD, List.getD_cons_zero, List.getD_cons_succ, retA, retL, ret1, lk, st, ldA, AV.cell]; rfl)); (try simp [-List.getD_eq_getElem?_getD, List.getD_cons_zero, List.getD_cons_succ, List.getD_nil, undef, runL, runE, effA, stepA, dstOk, wantA, core, lk, st, dl, AS.ev, AS.evs, AS.put, AS.upd, updO, updI, nxt, cPick, cAlloc, cBox, cBuild, cBuildS, cLoad, cStore, cNil, plainOf, cBin, cNilS, isNilS, nilA, cUn, cConv, cMake, cSlice, slA, idxA, cFA, cF, cIA, cIX, cIS, cI, cExt, cLen, cApp, cMM, cFun, cCall, lenA, AS.callee, sc1, sc2, ixOk, ldA, AV.flat, AV.cell, AV.cells, Value.oneCell', fillA, spl, chunk, zeros, AS.parts, AS.rows, AS.shut, AS.shut1, AS.shut2, AS.shutL, AS.shutM, AV.ids, idsL, idsLL, eqAll, bndA, AV.scalar, AV.scalar1, AV.isV, Ef.app, fpA, light, Ef.pk, ptOf, pntO, wrO, wr, *]))
            have := HR.out
            rw [if_pos b2] at this
            omega
          · have b3 : (vx == vy) = false := by simp [b2]
            repeat (first
                | with_reducible refine s_seq ?_
                | with_reducible refine k_seq ?_
                | with_reducible refine k_seq_ret ?_
                | with_reducible refine k_seq_exit ?_
                | with_reducible refine k_blk ?_
                | with_reducible refine k_blk_ret ?_
                | with_reducible refine k_blk_exit ?_
                | ((with_reducible refine k_blk_out ?_ ?_); (focus decide))
                | with_reducible refine k_lp_ret ?_
                | with_reducible refine k_lp_exit ?_
                | with_reducible refine s_block ?_
                | with_reducible refine sp_skip ?_
                | with_reducible refine sp_ret ?_
                | with_reducible refine sp_exit ?_
                | ((with_reducible refine s_cond_t ?_ ?_); (focus (simp [-List.getD_eq_getElem?_getD, List.getD_cons_zero, List.getD_cons_succ, List.getD_nil, lk, AS.ev, *]; done)))
                | ((with_reducible refine s_cond_f ?_ ?_); (focus (simp [-List.getD_eq_getElem?_getD, List.getD_cons_zero, List.getD_cons_succ, List.getD_nil, lk, AS.ev, *]; done)))
                | (focus ((with_reducible refine s_region2 (q := ?_) (σ' := ?_) TT_ok PT5_ok ?_ ?_ ?_); rotate_left 2; (focus (first | (simp [nxt]; exact Eq.refl _) | exact Eq.refl _)); (focus ((repeat (((with_reducible refine runL_cons (σ1 := ?_) ?_ ?_); rotate_left; (focus (simp [-List.getD_eq_getElem?_getD, List.getD_cons_zero, List.getD_cons_succ, List.getD_nil, undef, runL, runE, effA, stepA, dstOk, wantA, core, lk, st, dl, AS.ev, AS.evs, AS.put, AS.upd, updO, updI, nxt, cPick, cAlloc, cBox, cBuild, cBuildS, cLoad, cStore, cNil, plainOf, cBin, cNilS, isNilS, nilA, cUn, cConv, cMake, cSlice, slA, idxA, cFA, cF, cIA, cIX, cIS, cI, cExt, cLen, cApp, cMM, cFun, cCall, lenA, AS.callee, sc1, sc2, ixOk, ldA, AV.flat, AV.cell, AV.cells, Value.oneCell', fillA, spl, chunk, zeros, AS.parts, AS.rows, AS.shut, AS.shut1, AS.shut2, AS.shutL, AS.shutM, AV.ids, idsL, idsLL, eqAll, bndA, AV.scalar, AV.scalar1, AV.isV, Ef.app, fpA, light, Ef.pk, ptOf, pntO, wrO, wr, *]; rfl))))); (exact runL_nil)))))
                | (focus ((with_reducible refine s_draw2 (q := ?_) (es := ?_) (σ' := ?_) prog_mixed TT_ok PT5_ok ?_ ?_ ?_ ?_); rotate_left 3; (focus (first | (simp [nxt]; exact Eq.refl _) | exact Eq.refl _)); (focus ((repeat (((with_reducible refine runE_cons (e := ?_) (σ1 := ?_) (es := ?_) ?_ ?_ ?_); rotate_left 3; (focus (simp [-List.getD_eq_getElem?_getD, List.getD_cons_zero, List.getD_cons_succ, List.getD_nil, undef, runL, runE, effA, stepA, dstOk, wantA, core, lk, st, dl, AS.ev, AS.evs, AS.put, AS.upd, updO, updI, nxt, cPick, cAlloc, cBox, cBuild, cBuildS, cLoad, cStore, cNil, plainOf, cBin, cNilS, isNilS, nilA, cUn, cConv, cMake, cSlice, slA, idxA, cFA, cF, cIA, cIX, cIS, cI, cExt, cLen, cApp, cMM, cFun, cCall, lenA, AS.callee, sc1, sc2, ixOk, ldA, AV.flat, AV.cell, AV.cells, Value.oneCell', fillA, spl, chunk, zeros, AS.parts, AS.rows, AS.shut, AS.shut1, AS.shut2, AS.shutL, AS.shutM, AV.ids, idsL, idsLL, eqAll, bndA, AV.scalar, AV.scalar1, AV.isV, Ef.app, fpA, light, Ef.pk, ptOf, pntO, wrO, wr, *]; exact Eq.refl _)); (focus (simp [-List.getD_eq_getElem?_getD, List.getD_cons_zero, List.getD_cons_succ, Ef.app, Ef.pk, pntO, wrO, wr, lk, AS.upd, updO, updI, AS.put, st, dl]; exact Eq.refl _))))); (exact runE_nil))); (focus (first | kernel_rfl | decide)))))
            ((refine post_ret (av := ?_) (by first | exact .inl rfl | exact .inr rfl) (show (Try.f66).results.toList = _ from by rw [Try.results66]) ?_ ?_); rotate_left; (focus (simp [-List.getD_eq_getElem?_getD, List.getD_cons_zero, List.getD_cons_succ, retA, retL, ret1, lk, st, ldA, AV.cell]; rfl)); (try simp [-List.getD_eq_getElem?_getD, List.getD_cons_zero, List.getD_cons_succ, List.getD_nil, undef, runL, runE, effA, stepA, dstOk, wantA, core, lk, st, dl, AS.ev, AS.evs, AS.put, AS.upd, updO, updI, nxt, cPick, cAlloc, cBox, cBuild, cBuildS, cLoad, cStore, cNil, plainOf, cBin, cNilS, isNilS, nilA, cUn, cConv, cMake, cSlice, slA, idxA, cFA, cF, cIA, cIX, cIS, cI, cExt, cLen, cApp, cMM, cFun, cCall, lenA, AS.callee, sc1, sc2, ixOk, ldA, AV.flat, AV.cell, AV.cells, Value.oneCell', fillA, spl, chunk, zeros, AS.parts, AS.rows, AS.shut, AS.shut1, AS.shut2, AS.shutL, AS.shutM, AV.ids, idsL, idsLL, eqAll, bndA, AV.scalar, AV.scalar1, AV.isV, Ef.app, fpA, light, Ef.pk, ptOf, pntO, wrO, wr, *]))
            have := HR.out
            rw [if_neg b2] at this
            omega
      · repeat (first
            | with_reducible refine s_seq ?_
            | with_reducible refine k_seq ?_
            | with_reducible refine k_seq_ret ?_
            | with_reducible refine k_seq_exit ?_
            | with_reducible refine k_blk ?_
            | with_reducible refine k_blk_ret ?_
            | with_reducible refine k_blk_exit ?_
            | ((with_reducible refine k_blk_out ?_ ?_); (focus decide))
            | with_reducible refine k_lp_ret ?_
            | with_reducible refine k_lp_exit ?_
            | with_reducible refine s_block ?_
            | with_reducible refine sp_skip ?_
            | with_reducible refine sp_ret ?_
            | with_reducible refine sp_exit ?_
            | ((with_reducible refine s_cond_t ?_ ?_); (focus (simp [-List.getD_eq_getElem?_getD, List.getD_cons_zero, List.getD_cons_succ, List.getD_nil, lk, AS.ev, *]; done)))
            | ((with_reducible refine s_cond_f ?_ ?_); (focus (simp [-List.getD_eq_getElem?_getD, List.getD_cons_zero, List.getD_cons_succ, List.getD_nil, lk, AS.ev, *]; done)))
            | (focus ((with_reducible refine s_region2 (q := ?_) (σ' := ?_) TT_ok PT5_ok ?_ ?_ ?_); rotate_left 2; (focus (first | (simp [nxt]; exact Eq.refl _) | exact Eq.refl _)); (focus ((repeat (((with_reducible refine runL_cons (σ1 := ?_) ?_ ?_); rotate_left; (focus (simp [-List.getD_eq_getElem?_getD, List.getD_cons_zero, List.getD_cons_succ, List.getD_nil, undef, runL, runE, effA, stepA, dstOk, wantA, core, lk, st, dl, AS.ev, AS.evs, AS.put, AS.upd, updO, updI, nxt, cPick, cAlloc, cBox, cBuild, cBuildS, cLoad, cStore, cNil, plainOf, cBin, cNilS, isNilS, nilA, cUn, cConv, cMake, cSlice, slA, idxA, cFA, cF, cIA, cIX, cIS, cI, cExt, cLen, cApp, cMM, cFun, cCall, lenA, AS.callee, sc1, sc2, ixOk, ldA, AV.flat, AV.cell, AV.cells, Value.oneCell', fillA, spl, chunk, zeros, AS.parts, AS.rows, AS.shut, AS.shut1, AS.shut2, AS.shutL, AS.shutM, AV.ids, idsL, idsLL, eqAll, bndA, AV.scalar, AV.scalar1, AV.isV, Ef.app, fpA, light, Ef.pk, ptOf, pntO, wrO, wr, *]; rfl))))); (exact runL_nil)))))
            | (focus ((with_reducible refine s_draw2 (q := ?_) (es := ?_) (σ' := ?_) prog_mixed TT_ok PT5_ok ?_ ?_ ?_ ?_); rotate_left 3; (focus (first | (simp [nxt]; exact Eq.refl _) | exact Eq.refl _)); (focus ((repeat (((with_reducible refine runE_cons (e := ?_) (σ1 := ?_) (es := ?_) ?_ ?_ ?_); rotate_left 3; (focus (simp [-List.getD_eq_getElem?_getD, List.getD_cons_zero, List.getD_cons_succ, List.getD_nil, undef, runL, runE, effA, stepA, dstOk, wantA, core, lk, st, dl, AS.ev, AS.evs, AS.put, AS.upd, updO, updI, nxt, cPick, cAlloc, cBox, cBuild, cBuildS, cLoad, cStore, cNil, plainOf, cBin, cNilS, isNilS, nilA, cUn, cConv, cMake, cSlice, slA, idxA, cFA, cF, cIA, cIX, cIS, cI, cExt, cLen, cApp, cMM, cFun, cCall, lenA, AS.callee, sc1, sc2, ixOk, ldA, AV.flat, AV.cell, AV.cells, Value.oneCell', fillA, spl, chunk, zeros, AS.parts, AS.rows, AS.shut, AS.shut1, AS.shut2, AS.shutL, AS.shutM, AV.ids, idsL, idsLL, eqAll, bndA, AV.scalar, AV.scalar1, AV.isV, Ef.app, fpA, light, Ef.pk, ptOf, pntO, wrO, wr, *]; exact Eq.refl _)); (focus (simp [-List.getD_eq_getElem?_getD, List.getD_cons_zero, List.getD_cons_succ, Ef.app, Ef.pk, pntO, wrO, wr, lk, AS.upd, updO, updI, AS.put, st, dl]; exact Eq.refl _))))); (exact runE_nil))); (focus (first | kernel_rfl | decide)))))
        refine k_lp (⟨k + 1, by omega, (fun j hj => ?_ : ∀ j, j < k + 1 → c.getD j 0 = d.getD j 0)⟩ : {k : Nat // k ≤ c.length ∧ Hid (∀ j, j < k → c.getD j 0 = d.getD j 0)}) (by dsimp only; omega) ?_
        · by_cases e : j < k
          · exact he.out j e
          · obtain rfl : j = k := by omega
            exact Decidable.not_not.1 (by simpa using hc)
        · (refine weak_id rfl ?_ ?_ <;> ((try simp only [List.mem_cons, List.not_mem_nil, or_false, forall_eq_or_imp, forall_eq]); (try simp (disch := omega) [-List.getD_eq_getElem?_getD, List.getD_cons_zero, List.getD_cons_succ, List.getD_nil, lk, AV.ids, idsL, idsLL, i64w, *])))
    · have hcd : c = d := by
        apply List.ext_getElem hl
        intro j h1 h2
        have := he.out j (by omega)
        simpa [List.getD, h1, h2] using this
      subst hcd
      rw [cmpG_self]
      repeat (first
          | with_reducible refine s_seq ?_
          | with_reducible refine k_seq ?_
          | with_reducible refine k_seq_ret ?_
          | with_reducible refine k_seq_exit ?_
          | with_reducible refine k_blk ?_
          | with_reducible refine k_blk_ret ?_
          | with_reducible refine k_blk_exit ?_
          | ((with_reducible refine k_blk_out ?_ ?_); (focus decide))
          | with_reducible refine k_lp_ret ?_
          | with_reducible refine k_lp_exit ?_
          | with_reducible refine s_block ?_
          | with_reducible refine sp_skip ?_
          | with_reducible refine sp_ret ?_
          | with_reducible refine sp_exit ?_
          | ((with_reducible refine s_cond_t ?_ ?_); (focus (simp [-List.getD_eq_getElem?_getD, List.getD_cons_zero, List.getD_cons_succ, List.getD_nil, lk, AS.ev, *]; done)))
          | ((with_reducible refine s_cond_f ?_ ?_); (focus (simp [-List.getD_eq_getElem?_getD, List.getD_cons_zero, List.getD_cons_succ, List.getD_nil, lk, AS.ev, *]; done)))
          | (focus ((with_reducible refine s_region2 (q := ?_) (σ' := ?_) TT_ok PT5_ok ?_ ?_ ?_); rotate_left 2; (focus (first | (simp [nxt]; exact Eq.refl _) | exact Eq.refl _)); (focus ((repeat (((with_reducible refine runL_cons (σ1 := ?_) ?_ ?_); rotate_left; (focus (simp [-List.getD_eq_getElem?_getD, List.getD_cons_zero, List.getD_cons_succ, List.getD_nil, undef, runL, runE, effA, stepA, dstOk, wantA, core, lk, st, dl, AS.ev, AS.evs, AS.put, AS.upd, updO, updI, nxt, cPick, cAlloc, cBox, cBuild, cBuildS, cLoad, cStore, cNil, plainOf, cBin, cNilS, isNilS, nilA, cUn, cConv, cMake, cSlice, slA, idxA, cFA, cF, cIA, cIX, cIS, cI, cExt, cLen, cApp, cMM, cFun, cCall, lenA, AS.callee, sc1, sc2, ixOk, ldA, AV.flat, AV.cell, AV.cells, Value.oneCell', fillA, spl, chunk, zeros, AS.parts, AS.rows, AS.shut, AS.shut1, AS.shut2, AS.shutL, AS.shutM, AV.ids, idsL, idsLL, eqAll, bndA, AV.scalar, AV.scalar1, AV.isV, Ef.app, fpA, light, Ef.pk, ptOf, pntO, wrO, wr, *]; rfl))))); (exact runL_nil)))))
          | (focus ((with_reducible refine s_draw2 (q := ?_) (es := ?_) (σ' := ?_) prog_mixed TT_ok PT5_ok ?_ ?_ ?_ ?_); rotate_left 3; (focus (first | (simp [nxt]; exact Eq.refl _) | exact Eq.refl _)); (focus ((repeat (((with_reducible refine runE_cons (e := ?_) (σ1 := ?_) (es := ?_) ?_ ?_ ?_); rotate_left 3; (focus (simp [-List.getD_eq_getElem?_getD, List.getD_cons_zero, List.getD_cons_succ, List.getD_nil, undef, runL, runE, effA, stepA, dstOk, wantA, core, lk, st, dl, AS.ev, AS.evs, AS.put, AS.upd, updO, updI, nxt, cPick, cAlloc, cBox, cBuild, cBuildS, cLoad, cStore, cNil, plainOf, cBin, cNilS, isNilS, nilA, cUn, cConv, cMake, cSlice, slA, idxA, cFA, cF, cIA, cIX, cIS, cI, cExt, cLen, cApp, cMM, cFun, cCall, lenA, AS.callee, sc1, sc2, ixOk, ldA, AV.flat, AV.cell, AV.cells, Value.oneCell', fillA, spl, chunk, zeros, AS.parts, AS.rows, AS.shut, AS.shut1, AS.shut2, AS.shutL, AS.shutM, AV.ids, idsL, idsLL, eqAll, bndA, AV.scalar, AV.scalar1, AV.isV, Ef.app, fpA, light, Ef.pk, ptOf, pntO, wrO, wr, *]; exact Eq.refl _)); (focus (simp [-List.getD_eq_getElem?_getD, List.getD_cons_zero, List.getD_cons_succ, Ef.app, Ef.pk, pntO, wrO, wr, lk, AS.upd, updO, updI, AS.put, st, dl]; exact Eq.refl _))))); (exact runE_nil))); (focus (first | kernel_rfl | decide)))))
      ((refine post_ret (av := ?_) (by first | exact .inl rfl | exact .inr rfl) (show (Try.f66).results.toList = _ from by rw [Try.results66]) ?_ ?_); rotate_left; (focus (simp [-List.getD_eq_getElem?_getD, List.getD_cons_zero, List.getD_cons_succ, retA, retL, ret1, lk, st, ldA, AV.cell]; rfl)); (try simp [-List.getD_eq_getElem?_getD, List.getD_cons_zero, List.getD_cons_succ, List.getD_nil, undef, runL, runE, effA, stepA, dstOk, wantA, core, lk, st, dl, AS.ev, AS.evs, AS.put, AS.upd, updO, updI, nxt, cPick, cAlloc, cBox, cBuild, cBuildS, cLoad, cStore, cNil, plainOf, cBin, cNilS, isNilS, nilA, cUn, cConv, cMake, cSlice, slA, idxA, cFA, cF, cIA, cIX, cIS, cI, cExt, cLen, cApp, cMM, cFun, cCall, lenA, AS.callee, sc1, sc2, ixOk, ldA, AV.flat, AV.cell, AV.cells, Value.oneCell', fillA, spl, chunk, zeros, AS.parts, AS.rows, AS.shut, AS.shut1, AS.shut2, AS.shutL, AS.shutM, AV.ids, idsL, idsLL, eqAll, bndA, AV.scalar, AV.scalar1, AV.isV, Ef.app, fpA, light, Ef.pk, ptOf, pntO, wrO, wr, *]))
  · have hC : cmpC c d = (c.length : Int) - d.length := by unfold cmpC; rw [if_neg hl]
    rw [hC]
    have hl2 : ((c.length : Int) != (d.length : Int)) = true := by simp; omega
    refine fn_sp TT_ok Try.func66 (c := _) rfl (by simp [Try.ntmps66]) (fun B hI0 hro => ?_)
    rw [Try.ntmps66]
    simp only [enumA]
    repeat (first
        | with_reducible refine s_seq ?_
        | with_reducible refine k_seq ?_
        | with_reducible refine k_seq_ret ?_
        | with_reducible refine k_seq_exit ?_
        | with_reducible refine k_blk ?_
        | with_reducible refine k_blk_ret ?_
        | with_reducible refine k_blk_exit ?_
        | ((with_reducible refine k_blk_out ?_ ?_); (focus decide))
        | with_reducible refine k_lp_ret ?_
        | with_reducible refine k_lp_exit ?_
        | with_reducible refine s_block ?_
        | with_reducible refine sp_skip ?_
        | with_reducible refine sp_ret ?_
        | with_reducible refine sp_exit ?_
        | ((with_reducible refine s_cond_t ?_ ?_); (focus (simp [-List.getD_eq_getElem?_getD, List.getD_cons_zero, List.getD_cons_succ, List.getD_nil, lk, AS.ev, *]; done)))
        | ((with_reducible refine s_cond_f ?_ ?_); (focus (simp [-List.getD_eq_getElem?_getD, List.getD_cons_zero, List.getD_cons_succ, List.getD_nil, lk, AS.ev, *]; done)))
        | (focus ((with_reducible refine s_region2 (q := ?_) (σ' := ?_) TT_ok PT5_ok ?_ ?_ ?_); rotate_left 2; (focus (first | (simp [nxt]; exact Eq.refl _) | exact Eq.refl _)); (focus ((repeat (((with_reducible refine runL_cons (σ1 := ?_) ?_ ?_); rotate_left; (focus (simp [-List.getD_eq_getElem?_getD, List.getD_cons_zero, List.getD_cons_succ, List.getD_nil, undef, runL, runE, effA, stepA, dstOk, wantA, core, lk, st, dl, AS.ev, AS.evs, AS.put, AS.upd, updO, updI, nxt, cPick, cAlloc, cBox, cBuild, cBuildS, cLoad, cStore, cNil, plainOf, cBin, cNilS, isNilS, nilA, cUn, cConv, cMake, cSlice, slA, idxA, cFA, cF, cIA, cIX, cIS, cI, cExt, cLen, cApp, cMM, cFun, cCall, lenA, AS.callee, sc1, sc2, ixOk, ldA, AV.flat, AV.cell, AV.cells, Value.oneCell', fillA, spl, chunk, zeros, AS.parts, AS.rows, AS.shut, AS.shut1, AS.shut2, AS.shutL, AS.shutM, AV.ids, idsL, idsLL, eqAll, bndA, AV.scalar, AV.scalar1, AV.isV, Ef.app, fpA, light, Ef.pk, ptOf, pntO, wrO, wr, *]; rfl))))); (exact runL_nil)))))
        | (focus ((with_reducible refine s_draw2 (q := ?_) (es := ?_) (σ' := ?_) prog_mixed TT_ok PT5_ok ?_ ?_ ?_ ?_); rotate_left 3; (focus (first | (simp [nxt]; exact Eq.refl _) | exact Eq.refl _)); (focus ((repeat (((with_reducible refine runE_cons (e := ?_) (σ1 := ?_) (es := ?_) ?_ ?_ ?_); rotate_left 3; (focus (simp [-List.getD_eq_getElem?_getD, List.getD_cons_zero, List.getD_cons_succ, List.getD_nil, undef, runL, runE, effA, stepA, dstOk, wantA, core, lk, st, dl, AS.ev, AS.evs, AS.put, AS.upd, updO, updI, nxt, cPick, cAlloc, cBox, cBuild, cBuildS, cLoad, cStore, cNil, plainOf, cBin, cNilS, isNilS, nilA, cUn, cConv, cMake, cSlice, slA, idxA, cFA, cF, cIA, cIX, cIS, cI, cExt, cLen, cApp, cMM, cFun, cCall, lenA, AS.callee, sc1, sc2, ixOk, ldA, AV.flat, AV.cell, AV.cells, Value.oneCell', fillA, spl, chunk, zeros, AS.parts, AS.rows, AS.shut, AS.shut1, AS.shut2, AS.shutL, AS.shutM, AV.ids, idsL, idsLL, eqAll, bndA, AV.scalar, AV.scalar1, AV.isV, Ef.app, fpA, light, Ef.pk, ptOf, pntO, wrO, wr, *]; exact Eq.refl _)); (focus (simp [-List.getD_eq_getElem?_getD, List.getD_cons_zero, List.getD_cons_succ, Ef.app, Ef.pk, pntO, wrO, wr, lk, AS.upd, updO, updI, AS.put, st, dl]; exact Eq.refl _))))); (exact runE_nil))); (focus (first | kernel_rfl | decide)))))
    ((refine post_ret (av := ?_) (by first | exact .inl rfl | exact .inr rfl) (show (Try.f66).results.toList = _ from by rw [Try.results66]) ?_ ?_); rotate_left; (focus (simp [-List.getD_eq_getElem?_getD, List.getD_cons_zero, List.getD_cons_succ, retA, retL, ret1, lk, st, ldA, AV.cell]; rfl)); (try simp [-List.getD_eq_getElem?_getD, List.getD_cons_zero, List.getD_cons_succ, List.getD_nil, undef, runL, runE, effA, stepA, dstOk, wantA, core, lk, st, dl, AS.ev, AS.evs, AS.put, AS.upd, updO, updI, nxt, cPick, cAlloc, cBox, cBuild, cBuildS, cLoad, cStore, cNil, plainOf, cBin, cNilS, isNilS, nilA, cUn, cConv, cMake, cSlice, slA, idxA, cFA, cF, cIA, cIX, cIS, cI, cExt, cLen, cApp, cMM, cFun, cCall, lenA, AS.callee, sc1, sc2, ixOk, ldA, AV.flat, AV.cell, AV.cells, Value.oneCell', fillA, spl, chunk, zeros, AS.parts, AS.rows, AS.shut, AS.shut1, AS.shut2, AS.shutL, AS.shutM, AV.ids, idsL, idsLL, eqAll, bndA, AV.scalar, AV.scalar1, AV.isV, Ef.app, fpA, light, Ef.pk, ptOf, pntO, wrO, wr, *]))
    omega
def litsB (c : List Int) : Bool := c.all isLit
theorem litsB_iff {c : List Int} : litsB c = true ↔ Lits c := by simp [litsB, Lits]
@[simp] def g_rBefore : List AV → Option (AV × Bool)
  | [a0, a1] => (match toInts a0 with | some c => (match toInts a1 with | some d => if (okInts c && okInts d && (litsB c && litsB d)) = true then some (.v (.bool (decide (cmpC c d < 0))), false) else none | none => none) | none => none)
  | _ => none
theorem e_rBefore : EntOk Try.prog 66 g_rBefore := ent_pure (by kernel_rfl) fun args r fr h => by
  unfold g_rBefore at h
  split at h
  · rename_i a0 a1
    split at h
    · rename_i c t0
      split at h
      · rename_i d t1
        split at h
        · rename_i hc
          simp only [Bool.and_eq_true] at hc
          obtain ⟨⟨o0, o1⟩, hk⟩ := hc
          cases h
          exact ⟨FnPure.cov (rBefore_p c d (litsB_iff.1 hk.1) (litsB_iff.1 hk.2) (okInts_len o0) (okInts_len o1)) (.cons (cov_ints t0) (.cons (cov_ints t1) .nil)), rfl⟩
        · cases h
      · cases h
    · cases h
  · cases h

def l6 : List (FuncId × (List AV → Option (AV × Bool))) :=
  (66, g_rBefore) :: l5
theorem l6_ok : ∀ p ∈ l6, EntOk Try.prog p.1 p.2 := ent_cons e_rBefore (l5_ok)
def PT6 : PTab := tab l6
theorem PT6_ok : PTok Try.prog PT6 := tab_ok l6_ok
@[simp] theorem PT6_litVar : PT6 41 = g_litVar := rfl
@[simp] theorem PT6_litValid : PT6 36 = g_litValid := rfl
@[simp] theorem PT6_check : PT6 17 = g_check := rfl
@[simp] theorem PT6_with : PT6 56 = g_with := rfl
@[simp] theorem PT6_all : PT6 48 = g_all := rfl
@[simp] theorem PT6_rValid : PT6 37 = g_rValid := rfl
@[simp] theorem PT6_rHas : PT6 60 = g_rHas := rfl
@[simp] theorem PT6_rHolds : PT6 51 = g_rHolds := rfl
@[simp] theorem PT6_rAssign : PT6 50 = g_rAssign := rfl
@[simp] theorem PT6_rCheck : PT6 18 = g_rCheck := rfl
@[simp] theorem PT6_rEval : PT6 25 = g_rEval := rfl
@[simp] theorem PT6_litvalid : PT6 61 = g_litvalid := rfl
@[simp] theorem PT6_opposite : PT6 63 = g_opposite := rfl
@[simp] theorem PT6_clone : PT6 58 = g_clone := rfl
@[simp] theorem PT6_order : PT6 62 = g_order := rfl
@[simp] theorem PT6_term : PT6 52 = g_term := rfl
@[simp] theorem PT6_clause : PT6 38 = g_clause := rfl
@[simp] theorem PT6_equal : PT6 43 = g_equal := rfl
@[simp] theorem PT6_distinct : PT6 42 = g_distinct := rfl
@[simp] theorem PT6_normal : PT6 20 = g_normal := rfl
@[simp] theorem PT6_rContains : PT6 55 = g_rContains := rfl
@[simp] theorem PT6_rSameInts : PT6 46 = g_rSameInts := rfl
@[simp] theorem PT6_rAbs : PT6 59 = g_rAbs := rfl
@[simp] theorem PT6_rBefore : PT6 66 = g_rBefore := rfl
end Go.Proofs.Ytkollnaojpppcaa
