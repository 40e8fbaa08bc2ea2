/- Contracts of censusref05.sorted, put, by the abstract machine; no condition. -/
import Derived.Test.YtkollnaojpppcaaRn2
namespace Go.Proofs.Ytkollnaojpppcaa
open Go.RowKit
set_option maxRecDepth 100000

/-- The literals over the first k variables, in order; whether two are opposite. -/
def sortK (c : List Int) (k : Nat) : List Int := (List.range k).flatMap fun (i : Nat) => (if -((i : Int) + 1) ∈ c then [-((i : Int) + 1)] else []) ++ (if (i : Int) + 1 ∈ c then [(i : Int) + 1] else [])
def altK (c : List Int) (k : Nat) : Bool := (List.range k).any fun (i : Nat) => decide ((i : Int) + 1 ∈ c) && decide (-((i : Int) + 1) ∈ c)
theorem sortK_succ (c : List Int) (k : Nat) : sortK c (k + 1) = sortK c k ++ ((if -((k : Int) + 1) ∈ c then [-((k : Int) + 1)] else []) ++ (if (k : Int) + 1 ∈ c then [(k : Int) + 1] else [])) := by
  unfold sortK; rw [List.range_succ, List.flatMap_append]; simp
theorem altK_succ (c : List Int) (k : Nat) : altK c (k + 1) = (altK c k || (decide ((k : Int) + 1 ∈ c) && decide (-((k : Int) + 1) ∈ c))) := by
  unfold altK; rw [List.range_succ, List.any_append]; simp
theorem sortK_len (c : List Int) (k : Nat) : (sortK c k).length ≤ 2 * k := by
  induction k with
  | zero => simp [sortK]
  | succ k ih =>
    rw [sortK_succ]
    simp only [List.length_append]
    split <;> split <;> simp <;> omega
set_option maxHeartbeats 2000000 in
theorem rSorted_p (c : List Int) (m : Nat) (hc : okInts c = true) (hm : m ≤ 128) : FnPure Try.prog 44 [aInts c, .v (.int .i64 (m : Int))] (.tup [aInts (sortK c m), .v (.bool (altK c m))]) := by
  refine fn_sp TT_ok Try.func44 (c := _) rfl (by simp [Try.ntmps44]) (fun B hI0 hro => ?_)
  rw [Try.ntmps44]
  simp only [enumA]
  repeat (first
      | with_reducible refine s_seq ?_
      | with_reducible refine k_seq ?_
      | with_reducible refine k_seq_ret ?_
      | with_reducible refine k_seq_exit ?_
      | with_reducible refine k_blk ?_
      | with_reducible refine k_blk_ret ?_
      | with_reducible refine k_blk_exit ?_
      | ((with_reducible refine k_blk_out ?_ ?_); (focus decide))
      | with_reducible refine k_lp_ret ?_
      | with_reducible refine k_lp_exit ?_
      | with_reducible refine s_block ?_
      | with_reducible refine sp_skip ?_
      | with_reducible refine sp_ret ?_
      | with_reducible refine sp_exit ?_
      | ((with_reducible refine s_cond_t ?_ ?_); (focus (simp [-List.getD_eq_getElem?_getD, List.getD_cons_zero, List.getD_cons_succ, List.getD_nil, lk, AS.ev, *]; done)))
      | ((with_reducible refine s_cond_f ?_ ?_); (focus (simp [-List.getD_eq_getElem?_getD, List.getD_cons_zero, List.getD_cons_succ, List.getD_nil, lk, AS.ev, *]; done)))
      | (focus ((with_reducible refine s_region2 (q := ?_) (σ' := ?_) TT_ok PT6_ok ?_ ?_ ?_); rotate_left 2; (focus (first | (simp [nxt]; exact Eq.refl _) | exact Eq.refl _)); (focus ((repeat (((with_reducible refine runL_cons (σ1 := ?_) ?_ ?_); rotate_left; (focus (simp [-List.getD_eq_getElem?_getD, List.getD_cons_zero, List.getD_cons_succ, List.getD_nil, undef, runL, runE, effA, stepA, dstOk, wantA, core, lk, st, dl, AS.ev, AS.evs, AS.put, AS.upd, updO, updI, nxt, cPick, cAlloc, cBox, cBuild, cBuildS, cLoad, cStore, cNil, plainOf, cBin, cNilS, isNilS, nilA, cUn, cConv, cMake, cSlice, slA, idxA, cFA, cF, cIA, cIX, cIS, cI, cExt, cLen, cApp, cMM, cFun, cCall, lenA, AS.callee, sc1, sc2, ixOk, ldA, AV.flat, AV.cell, AV.cells, Value.oneCell', fillA, spl, chunk, zeros, AS.parts, AS.rows, AS.shut, AS.shut1, AS.shut2, AS.shutL, AS.shutM, AV.ids, idsL, idsLL, eqAll, bndA, AV.scalar, AV.scalar1, AV.isV, Ef.app, fpA, light, Ef.pk, ptOf, pntO, wrO, wr, *]; rfl))))); (exact runL_nil)))))
      | (focus ((with_reducible refine s_draw2 (q := ?_) (es := ?_) (σ' := ?_) prog_mixed TT_ok PT6_ok ?_ ?_ ?_ ?_); rotate_left 3; (focus (first | (simp [nxt]; exact Eq.refl _) | exact Eq.refl _)); (focus ((repeat (((with_reducible refine runE_cons (e := ?_) (σ1 := ?_) (es := ?_) ?_ ?_ ?_); rotate_left 3; (focus (simp [-List.getD_eq_getElem?_getD, List.getD_cons_zero, List.getD_cons_succ, List.getD_nil, undef, runL, runE, effA, stepA, dstOk, wantA, core, lk, st, dl, AS.ev, AS.evs, AS.put, AS.upd, updO, updI, nxt, cPick, cAlloc, cBox, cBuild, cBuildS, cLoad, cStore, cNil, plainOf, cBin, cNilS, isNilS, nilA, cUn, cConv, cMake, cSlice, slA, idxA, cFA, cF, cIA, cIX, cIS, cI, cExt, cLen, cApp, cMM, cFun, cCall, lenA, AS.callee, sc1, sc2, ixOk, ldA, AV.flat, AV.cell, AV.cells, Value.oneCell', fillA, spl, chunk, zeros, AS.parts, AS.rows, AS.shut, AS.shut1, AS.shut2, AS.shutL, AS.shutM, AV.ids, idsL, idsLL, eqAll, bndA, AV.scalar, AV.scalar1, AV.isV, Ef.app, fpA, light, Ef.pk, ptOf, pntO, wrO, wr, *]; exact Eq.refl _)); (focus (simp [-List.getD_eq_getElem?_getD, List.getD_cons_zero, List.getD_cons_succ, Ef.app, Ef.pk, pntO, wrO, wr, lk, AS.upd, updO, updI, AS.put, st, dl]; exact Eq.refl _))))); (exact runE_nil))); (focus (first | kernel_rfl | decide)))))
  refine s_nil 6 0 3 1 (by simp [lk]) (by simp) ?_
  simp only [st]
  refine s_loop (J := fun i : {k : Nat // k ≤ m} => ⟨39, [(0, aInts c), (1, .v (.int .i64 (m : Int))), (6, .ref 0 0 (sortK c i.1).length), (7, .v (.bool (altK c i.1))), (8, .v (.int .i64 ((i.1 : Int) + 1)))], [(0, ⟨3, 1, (sortK c i.1).map fun x => [.v (.int .i64 x)]⟩)], [0]⟩) (μ := fun i => m - i.1) ⟨0, Nat.zero_le _⟩ ?_ (fun ⟨k, hk⟩ => ?_)
  · (refine weak_id rfl ?_ ?_ <;> ((try simp only [List.mem_cons, List.not_mem_nil, or_false, forall_eq_or_imp, forall_eq]); (try simp (disch := omega) [-List.getD_eq_getElem?_getD, List.getD_cons_zero, List.getD_cons_succ, List.getD_nil, lk, AV.ids, idsL, idsLL, i64w, *])))
    all_goals simp [sortK, altK]
  have hs := sortK_succ c k
  have ha := altK_succ c k
  have hl := sortK_len c k
  have hcap : ((sortK c k).length + 1) * 8 ≤ 140737488355328 := by omega
  have hcap2 : ((sortK c k).length + 1 + 1) * 8 ≤ 140737488355328 := by omega
  have hw : IntKind.i64.wrap (-((k : Int) + 1)) = -((k : Int) + 1) := i64w (by omega) (by omega)
  have hw2 : IntKind.i64.wrap ((k : Int) + 1 + 1) = (k : Int) + 1 + 1 := i64w (by omega) (by omega)
  have ho1 : okI (-((k : Int) + 1)) = true := okI_iff.2 ⟨by omega, by omega⟩
  have ho2 : okI ((k : Int) + 1) = true := okI_iff.2 ⟨by omega, by omega⟩
  have hv : ∃ v, (k : Int) + 1 = v := ⟨_, rfl⟩
  obtain ⟨v, hv⟩ := hv
  have hkm : (k : Int) + 1 ≤ m ↔ k < m := by omega
  rw [hv] at hs ha hw hw2 ho1 ho2 hkm
  have hj : ((k + 1 : Nat) : Int) + 1 = v + 1 := by omega
  dsimp only
  rw [hv]
  clear hv
  by_cases hkm2 : v ≤ (m : Int)
  · have hlt := hkm.1 hkm2
    clear hkm
    by_cases h1 : -v ∈ c
    · by_cases h2 : v ∈ c
      · rw [if_pos h1, if_pos h2] at hs
        cases h3 : altK c k
        all_goals
          rw [h3] at ha
          repeat (first
              | with_reducible refine s_seq ?_
              | with_reducible refine k_seq ?_
              | with_reducible refine k_seq_ret ?_
              | with_reducible refine k_seq_exit ?_
              | with_reducible refine k_blk ?_
              | with_reducible refine k_blk_ret ?_
              | with_reducible refine k_blk_exit ?_
              | ((with_reducible refine k_blk_out ?_ ?_); (focus decide))
              | with_reducible refine k_lp_ret ?_
              | with_reducible refine k_lp_exit ?_
              | with_reducible refine s_block ?_
              | with_reducible refine sp_skip ?_
              | with_reducible refine sp_ret ?_
              | with_reducible refine sp_exit ?_
              | ((with_reducible refine s_cond_t ?_ ?_); (focus (simp [-List.getD_eq_getElem?_getD, List.getD_cons_zero, List.getD_cons_succ, List.getD_nil, lk, AS.ev, *]; done)))
              | ((with_reducible refine s_cond_f ?_ ?_); (focus (simp [-List.getD_eq_getElem?_getD, List.getD_cons_zero, List.getD_cons_succ, List.getD_nil, lk, AS.ev, *]; done)))
              | (focus ((with_reducible refine s_region2 (q := ?_) (σ' := ?_) TT_ok PT6_ok ?_ ?_ ?_); rotate_left 2; (focus (first | (simp [nxt]; exact Eq.refl _) | exact Eq.refl _)); (focus ((repeat (((with_reducible refine runL_cons (σ1 := ?_) ?_ ?_); rotate_left; (focus (simp [-List.getD_eq_getElem?_getD, List.getD_cons_zero, List.getD_cons_succ, List.getD_nil, undef, runL, runE, effA, stepA, dstOk, wantA, core, lk, st, dl, AS.ev, AS.evs, AS.put, AS.upd, updO, updI, nxt, cPick, cAlloc, cBox, cBuild, cBuildS, cLoad, cStore, cNil, plainOf, cBin, cNilS, isNilS, nilA, cUn, cConv, cMake, cSlice, slA, idxA, cFA, cF, cIA, cIX, cIS, cI, cExt, cLen, cApp, cMM, cFun, cCall, lenA, AS.callee, sc1, sc2, ixOk, ldA, AV.flat, AV.cell, AV.cells, Value.oneCell', fillA, spl, chunk, zeros, AS.parts, AS.rows, AS.shut, AS.shut1, AS.shut2, AS.shutL, AS.shutM, AV.ids, idsL, idsLL, eqAll, bndA, AV.scalar, AV.scalar1, AV.isV, Ef.app, fpA, light, Ef.pk, ptOf, pntO, wrO, wr, *]; rfl))))); (exact runL_nil)))))
              | (focus ((with_reducible refine s_draw2 (q := ?_) (es := ?_) (σ' := ?_) prog_mixed TT_ok PT6_ok ?_ ?_ ?_ ?_); rotate_left 3; (focus (first | (simp [nxt]; exact Eq.refl _) | exact Eq.refl _)); (focus ((repeat (((with_reducible refine runE_cons (e := ?_) (σ1 := ?_) (es := ?_) ?_ ?_ ?_); rotate_left 3; (focus (simp [-List.getD_eq_getElem?_getD, List.getD_cons_zero, List.getD_cons_succ, List.getD_nil, undef, runL, runE, effA, stepA, dstOk, wantA, core, lk, st, dl, AS.ev, AS.evs, AS.put, AS.upd, updO, updI, nxt, cPick, cAlloc, cBox, cBuild, cBuildS, cLoad, cStore, cNil, plainOf, cBin, cNilS, isNilS, nilA, cUn, cConv, cMake, cSlice, slA, idxA, cFA, cF, cIA, cIX, cIS, cI, cExt, cLen, cApp, cMM, cFun, cCall, lenA, AS.callee, sc1, sc2, ixOk, ldA, AV.flat, AV.cell, AV.cells, Value.oneCell', fillA, spl, chunk, zeros, AS.parts, AS.rows, AS.shut, AS.shut1, AS.shut2, AS.shutL, AS.shutM, AV.ids, idsL, idsLL, eqAll, bndA, AV.scalar, AV.scalar1, AV.isV, Ef.app, fpA, light, Ef.pk, ptOf, pntO, wrO, wr, *]; exact Eq.refl _)); (focus (simp [-List.getD_eq_getElem?_getD, List.getD_cons_zero, List.getD_cons_succ, Ef.app, Ef.pk, pntO, wrO, wr, lk, AS.upd, updO, updI, AS.put, st, dl]; exact Eq.refl _))))); (exact runE_nil))); (focus (first | kernel_rfl | decide)))))
          refine k_lp (⟨k + 1, by omega⟩ : {k : Nat // k ≤ m}) (by dsimp only; omega) ?_
          (refine weak_of (fun _ => 9) ⟨rfl, ?_, ?_, ?_⟩ <;> ((try simp only [List.mem_cons, List.not_mem_nil, or_false, forall_eq_or_imp, forall_eq]); (try simp (disch := omega) [-List.getD_eq_getElem?_getD, List.getD_cons_zero, List.getD_cons_succ, List.getD_nil, lk, AV.ids, idsL, idsLL, AV.ren, renL, renLL, i64w, *])))
          all_goals omega
      · rw [if_pos h1, if_neg h2] at hs
        repeat (first
            | with_reducible refine s_seq ?_
            | with_reducible refine k_seq ?_
            | with_reducible refine k_seq_ret ?_
            | with_reducible refine k_seq_exit ?_
            | with_reducible refine k_blk ?_
            | with_reducible refine k_blk_ret ?_
            | with_reducible refine k_blk_exit ?_
            | ((with_reducible refine k_blk_out ?_ ?_); (focus decide))
            | with_reducible refine k_lp_ret ?_
            | with_reducible refine k_lp_exit ?_
            | with_reducible refine s_block ?_
            | with_reducible refine sp_skip ?_
            | with_reducible refine sp_ret ?_
            | with_reducible refine sp_exit ?_
            | ((with_reducible refine s_cond_t ?_ ?_); (focus (simp [-List.getD_eq_getElem?_getD, List.getD_cons_zero, List.getD_cons_succ, List.getD_nil, lk, AS.ev, *]; done)))
            | ((with_reducible refine s_cond_f ?_ ?_); (focus (simp [-List.getD_eq_getElem?_getD, List.getD_cons_zero, List.getD_cons_succ, List.getD_nil, lk, AS.ev, *]; done)))
            | (focus ((with_reducible refine s_region2 (q := ?_) (σ' := ?_) TT_ok PT6_ok ?_ ?_ ?_); rotate_left 2; (focus (first | (simp [nxt]; exact Eq.refl _) | exact Eq.refl _)); (focus ((repeat (((with_reducible refine runL_cons (σ1 := ?_) ?_ ?_); rotate_left; (focus (simp [-List.getD_eq_getElem?_getD, List.getD_cons_zero, List.getD_cons_succ, List.getD_nil, undef, runL, runE, effA, stepA, dstOk, wantA, core, lk, st, dl, AS.ev, AS.evs, AS.put, AS.upd, updO, updI, nxt, cPick, cAlloc, cBox, cBuild, cBuildS, cLoad, cStore, cNil, plainOf, cBin, cNilS, isNilS, nilA, cUn, cConv, cMake, cSlice, slA, idxA, cFA, cF, cIA, cIX, cIS, cI, cExt, cLen, cApp, cMM, cFun, cCall, lenA, AS.callee, sc1, sc2, ixOk, ldA, AV.flat, AV.cell, AV.cells, Value.oneCell', fillA, spl, chunk, zeros, AS.parts, AS.rows, AS.shut, AS.shut1, AS.shut2, AS.shutL, AS.shutM, AV.ids, idsL, idsLL, eqAll, bndA, AV.scalar, AV.scalar1, AV.isV, Ef.app, fpA, light, Ef.pk, ptOf, pntO, wrO, wr, *]; rfl))))); (exact runL_nil)))))
            | (focus ((with_reducible refine s_draw2 (q := ?_) (es := ?_) (σ' := ?_) prog_mixed TT_ok PT6_ok ?_ ?_ ?_ ?_); rotate_left 3; (focus (first | (simp [nxt]; exact Eq.refl _) | exact Eq.refl _)); (focus ((repeat (((with_reducible refine runE_cons (e := ?_) (σ1 := ?_) (es := ?_) ?_ ?_ ?_); rotate_left 3; (focus (simp [-List.getD_eq_getElem?_getD, List.getD_cons_zero, List.getD_cons_succ, List.getD_nil, undef, runL, runE, effA, stepA, dstOk, wantA, core, lk, st, dl, AS.ev, AS.evs, AS.put, AS.upd, updO, updI, nxt, cPick, cAlloc, cBox, cBuild, cBuildS, cLoad, cStore, cNil, plainOf, cBin, cNilS, isNilS, nilA, cUn, cConv, cMake, cSlice, slA, idxA, cFA, cF, cIA, cIX, cIS, cI, cExt, cLen, cApp, cMM, cFun, cCall, lenA, AS.callee, sc1, sc2, ixOk, ldA, AV.flat, AV.cell, AV.cells, Value.oneCell', fillA, spl, chunk, zeros, AS.parts, AS.rows, AS.shut, AS.shut1, AS.shut2, AS.shutL, AS.shutM, AV.ids, idsL, idsLL, eqAll, bndA, AV.scalar, AV.scalar1, AV.isV, Ef.app, fpA, light, Ef.pk, ptOf, pntO, wrO, wr, *]; exact Eq.refl _)); (focus (simp [-List.getD_eq_getElem?_getD, List.getD_cons_zero, List.getD_cons_succ, Ef.app, Ef.pk, pntO, wrO, wr, lk, AS.upd, updO, updI, AS.put, st, dl]; exact Eq.refl _))))); (exact runE_nil))); (focus (first | kernel_rfl | decide)))))
        refine k_lp (⟨k + 1, by omega⟩ : {k : Nat // k ≤ m}) (by dsimp only; omega) ?_
        (refine weak_of (fun _ => 5) ⟨rfl, ?_, ?_, ?_⟩ <;> ((try simp only [List.mem_cons, List.not_mem_nil, or_false, forall_eq_or_imp, forall_eq]); (try simp (disch := omega) [-List.getD_eq_getElem?_getD, List.getD_cons_zero, List.getD_cons_succ, List.getD_nil, lk, AV.ids, idsL, idsLL, AV.ren, renL, renLL, i64w, *])))
        all_goals omega
    · by_cases h2 : v ∈ c
      · rw [if_neg h1, if_pos h2] at hs
        cases h3 : altK c k
        all_goals
          rw [h3] at ha
          repeat (first
              | with_reducible refine s_seq ?_
              | with_reducible refine k_seq ?_
              | with_reducible refine k_seq_ret ?_
              | with_reducible refine k_seq_exit ?_
              | with_reducible refine k_blk ?_
              | with_reducible refine k_blk_ret ?_
              | with_reducible refine k_blk_exit ?_
              | ((with_reducible refine k_blk_out ?_ ?_); (focus decide))
              | with_reducible refine k_lp_ret ?_
              | with_reducible refine k_lp_exit ?_
              | with_reducible refine s_block ?_
              | with_reducible refine sp_skip ?_
              | with_reducible refine sp_ret ?_
              | with_reducible refine sp_exit ?_
              | ((with_reducible refine s_cond_t ?_ ?_); (focus (simp [-List.getD_eq_getElem?_getD, List.getD_cons_zero, List.getD_cons_succ, List.getD_nil, lk, AS.ev, *]; done)))
              | ((with_reducible refine s_cond_f ?_ ?_); (focus (simp [-List.getD_eq_getElem?_getD, List.getD_cons_zero, List.getD_cons_succ, List.getD_nil, lk, AS.ev, *]; done)))
              | (focus ((with_reducible refine s_region2 (q := ?_) (σ' := ?_) TT_ok PT6_ok ?_ ?_ ?_); rotate_left 2; (focus (first | (simp [nxt]; exact Eq.refl _) | exact Eq.refl _)); (focus ((repeat (((with_reducible refine runL_cons (σ1 := ?_) ?_ ?_); rotate_left; (focus (simp [-List.getD_eq_getElem?_getD, List.getD_cons_zero, List.getD_cons_succ, List.getD_nil, undef, runL, runE, effA, stepA, dstOk, wantA, core, lk, st, dl, AS.ev, AS.evs, AS.put, AS.upd, updO, updI, nxt, cPick, cAlloc, cBox, cBuild, cBuildS, cLoad, cStore, cNil, plainOf, cBin, cNilS, isNilS, nilA, cUn, cConv, cMake, cSlice, slA, idxA, cFA, cF, cIA, cIX, cIS, cI, cExt, cLen, cApp, cMM, cFun, cCall, lenA, AS.callee, sc1, sc2, ixOk, ldA, AV.flat, AV.cell, AV.cells, Value.oneCell', fillA, spl, chunk, zeros, AS.parts, AS.rows, AS.shut, AS.shut1, AS.shut2, AS.shutL, AS.shutM, AV.ids, idsL, idsLL, eqAll, bndA, AV.scalar, AV.scalar1, AV.isV, Ef.app, fpA, light, Ef.pk, ptOf, pntO, wrO, wr, *]; rfl))))); (exact runL_nil)))))
              | (focus ((with_reducible refine s_draw2 (q := ?_) (es := ?_) (σ' := ?_) prog_mixed TT_ok PT6_ok ?_ ?_ ?_ ?_); rotate_left 3; (focus (first | (simp [nxt]; exact Eq.refl _) | exact Eq.refl _)); (focus ((repeat (((with_reducible refine runE_cons (e := ?_) (σ1 := ?_) (es := ?_) ?_ ?_ ?_); rotate_left 3; (focus (simp [-List.getD_eq_getElem?_getD, List.getD_cons_zero, List.getD_cons_succ, List.getD_nil, undef, runL, runE, effA, stepA, dstOk, wantA, core, lk, st, dl, AS.ev, AS.evs, AS.put, AS.upd, updO, updI, nxt, cPick, cAlloc, cBox, cBuild, cBuildS, cLoad, cStore, cNil, plainOf, cBin, cNilS, isNilS, nilA, cUn, cConv, cMake, cSlice, slA, idxA, cFA, cF, cIA, cIX, cIS, cI, cExt, cLen, cApp, cMM, cFun, cCall, lenA, AS.callee, sc1, sc2, ixOk, ldA, AV.flat, AV.cell, AV.cells, Value.oneCell', fillA, spl, chunk, zeros, AS.parts, AS.rows, AS.shut, AS.shut1, AS.shut2, AS.shutL, AS.shutM, AV.ids, idsL, idsLL, eqAll, bndA, AV.scalar, AV.scalar1, AV.isV, Ef.app, fpA, light, Ef.pk, ptOf, pntO, wrO, wr, *]; exact Eq.refl _)); (focus (simp [-List.getD_eq_getElem?_getD, List.getD_cons_zero, List.getD_cons_succ, Ef.app, Ef.pk, pntO, wrO, wr, lk, AS.upd, updO, updI, AS.put, st, dl]; exact Eq.refl _))))); (exact runE_nil))); (focus (first | kernel_rfl | decide)))))
          refine k_lp (⟨k + 1, by omega⟩ : {k : Nat // k ≤ m}) (by dsimp only; omega) ?_
          (refine weak_of (fun _ => 4) ⟨rfl, ?_, ?_, ?_⟩ <;> ((try simp only [List.mem_cons, List.not_mem_nil, or_false, forall_eq_or_imp, forall_eq]); (try simp (disch := omega) [-List.getD_eq_getElem?_getD, List.getD_cons_zero, List.getD_cons_succ, List.getD_nil, lk, AV.ids, idsL, idsLL, AV.ren, renL, renLL, i64w, *])))
          all_goals omega
      · rw [if_neg h1, if_neg h2] at hs
        repeat (first
            | with_reducible refine s_seq ?_
            | with_reducible refine k_seq ?_
            | with_reducible refine k_seq_ret ?_
            | with_reducible refine k_seq_exit ?_
            | with_reducible refine k_blk ?_
            | with_reducible refine k_blk_ret ?_
            | with_reducible refine k_blk_exit ?_
            | ((with_reducible refine k_blk_out ?_ ?_); (focus decide))
            | with_reducible refine k_lp_ret ?_
            | with_reducible refine k_lp_exit ?_
            | with_reducible refine s_block ?_
            | with_reducible refine sp_skip ?_
            | with_reducible refine sp_ret ?_
            | with_reducible refine sp_exit ?_
            | ((with_reducible refine s_cond_t ?_ ?_); (focus (simp [-List.getD_eq_getElem?_getD, List.getD_cons_zero, List.getD_cons_succ, List.getD_nil, lk, AS.ev, *]; done)))
            | ((with_reducible refine s_cond_f ?_ ?_); (focus (simp [-List.getD_eq_getElem?_getD, List.getD_cons_zero, List.getD_cons_succ, List.getD_nil, lk, AS.ev, *]; done)))
            | (focus ((with_reducible refine s_region2 (q := ?_) (σ' := ?_) TT_ok PT6_ok ?_ ?_ ?_); rotate_left 2; (focus (first | (simp [nxt]; exact Eq.refl _) | exact Eq.refl _)); (focus ((repeat (((with_reducible refine runL_cons (σ1 := ?_) ?_ ?_); rotate_left; (focus (simp [-List.getD_eq_getElem?_getD, List.getD_cons_zero, List.getD_cons_succ, List.getD_nil, undef, runL, runE, effA, stepA, dstOk, wantA, core, lk, st, dl, AS.ev, AS.evs, AS.put, AS.upd, updO, updI, nxt, cPick, cAlloc, cBox, cBuild, cBuildS, cLoad, cStore, cNil, plainOf, cBin, cNilS, isNilS, nilA, cUn, cConv, cMake, cSlice, slA, idxA, cFA, cF, cIA, cIX, cIS, cI, cExt, cLen, cApp, cMM, cFun, cCall, lenA, AS.callee, sc1, sc2, ixOk, ldA, AV.flat, AV.cell, AV.cells, Value.oneCell', fillA, spl, chunk, zeros, AS.parts, AS.rows, AS.shut, AS.shut1, AS.shut2, AS.shutL, AS.shutM, AV.ids, idsL, idsLL, eqAll, bndA, AV.scalar, AV.scalar1, AV.isV, Ef.app, fpA, light, Ef.pk, ptOf, pntO, wrO, wr, *]; rfl))))); (exact runL_nil)))))
            | (focus ((with_reducible refine s_draw2 (q := ?_) (es := ?_) (σ' := ?_) prog_mixed TT_ok PT6_ok ?_ ?_ ?_ ?_); rotate_left 3; (focus (first | (simp [nxt]; exact Eq.refl _) | exact Eq.refl _)); (focus ((repeat (((with_reducible refine runE_cons (e := ?_) (σ1 := ?_) (es := ?_) ?_ ?_ ?_); rotate_left 3; (focus (simp [-List.getD_eq_getElem?_getD, List.getD_cons_zero, List.getD_cons_succ, List.getD_nil, undef, runL, runE, effA, stepA, dstOk, wantA, core, lk, st, dl, AS.ev, AS.evs, AS.put, AS.upd, updO, updI, nxt, cPick, cAlloc, cBox, cBuild, cBuildS, cLoad, cStore, cNil, plainOf, cBin, cNilS, isNilS, nilA, cUn, cConv, cMake, cSlice, slA, idxA, cFA, cF, cIA, cIX, cIS, cI, cExt, cLen, cApp, cMM, cFun, cCall, lenA, AS.callee, sc1, sc2, ixOk, ldA, AV.flat, AV.cell, AV.cells, Value.oneCell', fillA, spl, chunk, zeros, AS.parts, AS.rows, AS.shut, AS.shut1, AS.shut2, AS.shutL, AS.shutM, AV.ids, idsL, idsLL, eqAll, bndA, AV.scalar, AV.scalar1, AV.isV, Ef.app, fpA, light, Ef.pk, ptOf, pntO, wrO, wr, *]; exact Eq.refl _)); (focus (simp [-List.getD_eq_getElem?_getD, List.getD_cons_zero, List.getD_cons_succ, Ef.app, Ef.pk, pntO, wrO, wr, lk, AS.upd, updO, updI, AS.put, st, dl]; exact Eq.refl _))))); (exact runE_nil))); (focus (first | kernel_rfl | decide)))))
        refine k_lp (⟨k + 1, by omega⟩ : {k : Nat // k ≤ m}) (by dsimp only; omega) ?_
        (refine weak_id rfl ?_ ?_ <;> ((try simp only [List.mem_cons, List.not_mem_nil, or_false, forall_eq_or_imp, forall_eq]); (try simp (disch := omega) [-List.getD_eq_getElem?_getD, List.getD_cons_zero, List.getD_cons_succ, List.getD_nil, lk, AV.ids, idsL, idsLL, i64w, *])))
        all_goals omega
  · obtain rfl : k = m := by omega
    repeat (first
        | with_reducible refine s_seq ?_
        | with_reducible refine k_seq ?_
        | with_reducible refine k_seq_ret ?_
        | with_reducible refine k_seq_exit ?_
        | with_reducible refine k_blk ?_
        | with_reducible refine k_blk_ret ?_
        | with_reducible refine k_blk_exit ?_
        | ((with_reducible refine k_blk_out ?_ ?_); (focus decide))
        | with_reducible refine k_lp_ret ?_
        | with_reducible refine k_lp_exit ?_
        | with_reducible refine s_block ?_
        | with_reducible refine sp_skip ?_
        | with_reducible refine sp_ret ?_
        | with_reducible refine sp_exit ?_
        | ((with_reducible refine s_cond_t ?_ ?_); (focus (simp [-List.getD_eq_getElem?_getD, List.getD_cons_zero, List.getD_cons_succ, List.getD_nil, lk, AS.ev, *]; done)))
        | ((with_reducible refine s_cond_f ?_ ?_); (focus (simp [-List.getD_eq_getElem?_getD, List.getD_cons_zero, List.getD_cons_succ, List.getD_nil, lk, AS.ev, *]; done)))
        | (focus ((with_reducible refine s_region2 (q := ?_) (σ' := ?_) TT_ok PT6_ok ?_ ?_ ?_); rotate_left 2; (focus (first | (simp [nxt]; exact Eq.refl _) | exact Eq.refl _)); (focus ((repeat (((with_reducible refine runL_cons (σ1 := ?_) ?_ ?_); rotate_left; (focus (simp [-List.getD_eq_getElem?_getD, List.getD_cons_zero, List.getD_cons_succ, List.getD_nil, undef, runL, runE, effA, stepA, dstOk, wantA, core, lk, st, dl, AS.ev, AS.evs, AS.put, AS.upd, updO, updI, nxt, cPick, cAlloc, cBox, cBuild, cBuildS, cLoad, cStore, cNil, plainOf, cBin, cNilS, isNilS, nilA, cUn, cConv, cMake, cSlice, slA, idxA, cFA, cF, cIA, cIX, cIS, cI, cExt, cLen, cApp, cMM, cFun, cCall, lenA, AS.callee, sc1, sc2, ixOk, ldA, AV.flat, AV.cell, AV.cells, Value.oneCell', fillA, spl, chunk, zeros, AS.parts, AS.rows, AS.shut, AS.shut1, AS.shut2, AS.shutL, AS.shutM, AV.ids, idsL, idsLL, eqAll, bndA, AV.scalar, AV.scalar1, AV.isV, Ef.app, fpA, light, Ef.pk, ptOf, pntO, wrO, wr, *]; rfl))))); (exact runL_nil)))))
        | (focus ((with_reducible refine s_draw2 (q := ?_) (es := ?_) (σ' := ?_) prog_mixed TT_ok PT6_ok ?_ ?_ ?_ ?_); rotate_left 3; (focus (first | (simp [nxt]; exact Eq.refl _) | exact Eq.refl _)); (focus ((repeat (((with_reducible refine runE_cons (e := ?_) (σ1 := ?_) (es := ?_) ?_ ?_ ?_); rotate_left 3; (focus (simp [-List.getD_eq_getElem?_getD, List.getD_cons_zero, List.getD_cons_succ, List.getD_nil, undef, runL, runE, effA, stepA, dstOk, wantA, core, lk, st, dl, AS.ev, AS.evs, AS.put, AS.upd, updO, updI, nxt, cPick, cAlloc, cBox, cBuild, cBuildS, cLoad, cStore, cNil, plainOf, cBin, cNilS, isNilS, nilA, cUn, cConv, cMake, cSlice, slA, idxA, cFA, cF, cIA, cIX, cIS, cI, cExt, cLen, cApp, cMM, cFun, cCall, lenA, AS.callee, sc1, sc2, ixOk, ldA, AV.flat, AV.cell, AV.cells, Value.oneCell', fillA, spl, chunk, zeros, AS.parts, AS.rows, AS.shut, AS.shut1, AS.shut2, AS.shutL, AS.shutM, AV.ids, idsL, idsLL, eqAll, bndA, AV.scalar, AV.scalar1, AV.isV, Ef.app, fpA, light, Ef.pk, ptOf, pntO, wrO, wr, *]; exact Eq.refl _)); (focus (simp [-List.getD_eq_getElem?_getD, List.getD_cons_zero, List.getD_cons_succ, Ef.app, Ef.pk, pntO, wrO, wr, lk, AS.upd, updO, updI, AS.put, st, dl]; exact Eq.refl _))))); (exact runE_nil))); (focus (first | kernel_rfl | decide)))))
    ((refine post_ret (av := ?_) (by first | exact .inl rfl | exact .inr rfl) (show (Try.f44).results.toList = _ from by rw [Try.results44]) ?_ ?_); rotate_left; (focus (simp [-List.getD_eq_getElem?_getD, List.getD_cons_zero, List.getD_cons_succ, retA, retL, ret1, lk, st, ldA, AV.cell]; rfl)); (try simp [-List.getD_eq_getElem?_getD, List.getD_cons_zero, List.getD_cons_succ, List.getD_nil, undef, runL, runE, effA, stepA, dstOk, wantA, core, lk, st, dl, AS.ev, AS.evs, AS.put, AS.upd, updO, updI, nxt, cPick, cAlloc, cBox, cBuild, cBuildS, cLoad, cStore, cNil, plainOf, cBin, cNilS, isNilS, nilA, cUn, cConv, cMake, cSlice, slA, idxA, cFA, cF, cIA, cIX, cIS, cI, cExt, cLen, cApp, cMM, cFun, cCall, lenA, AS.callee, sc1, sc2, ixOk, ldA, AV.flat, AV.cell, AV.cells, Value.oneCell', fillA, spl, chunk, zeros, AS.parts, AS.rows, AS.shut, AS.shut1, AS.shut2, AS.shutL, AS.shutM, AV.ids, idsL, idsLL, eqAll, bndA, AV.scalar, AV.scalar1, AV.isV, Ef.app, fpA, light, Ef.pk, ptOf, pntO, wrO, wr, *]))
/-- A clause among others. -/
def putStep (c : List Int) (p : List (List Int) × Bool) (d : List Int) : List (List Int) × Bool :=
  if p.2 = false ∧ ¬ cmpC d c < 0 then (if cmpC c d < 0 then p.1 ++ [c] ++ [d] else p.1 ++ [d], true) else (p.1 ++ [d], p.2)
def putK (L : List (List Int)) (c : List Int) (k : Nat) : List (List Int) × Bool := (L.take k).foldl (putStep c) ([], false)
def putL (L : List (List Int)) (c : List Int) : List (List Int) := if (putK L c L.length).2 then (putK L c L.length).1 else (putK L c L.length).1 ++ [c]
theorem putK_succ (L : List (List Int)) (c : List Int) {k : Nat} (hk : k < L.length) : putK L c (k + 1) = putStep c (putK L c k) (L.getD k []) := by
  have : L.getD k [] = L[k] := by simp [List.getD, hk]
  unfold putK
  rw [List.take_succ_eq_append_getElem hk, List.foldl_append, this]
  rfl
theorem putStep_len (c : List Int) (p : List (List Int) × Bool) (d : List Int) : (putStep c p d).1.length ≤ p.1.length + 2 := by
  unfold putStep
  split
  · simp only
    split <;> simp
  · simp
theorem putK_len (L : List (List Int)) (c : List Int) : ∀ k, k ≤ L.length → (putK L c k).1.length ≤ 2 * k
  | 0, _ => by simp [putK]
  | k + 1, h => by
    rw [putK_succ L c (by omega)]
    have h1 := putStep_len c (putK L c k) (L.getD k [])
    have h2 := putK_len L c k (by omega)
    omega
theorem take_snoc_map (o : List (List Int)) (c : List Int) : List.take (o.length + 1) (List.map (fun xs => [aInts xs]) o ++ [[aInts c]]) = (o ++ [c]).map fun xs => [aInts xs] := by
  rw [List.map_append]
  exact List.take_of_length_le (by simp)
theorem caps24 {n : Nat} (h : n ≤ 2 * 4096) : (n + 1) * 24 ≤ 140737488355328 ∧ (n + 1 + 1) * 24 ≤ 140737488355328 := by omega
set_option maxHeartbeats 2000000 in
theorem rPut_p (L : List (List Int)) (c : List Int) (hL : okRows L = true) (hc : okInts c = true) (hl : ∀ d ∈ L, Lits d) (hcl : litsB c = true) (hm : L.length ≤ 4096) : FnPure Try.prog 45 [aRows L, aInts c] (aRows (putL L c)) := by
  refine fn_sp TT_ok Try.func45 (c := _) rfl (by simp [Try.ntmps45]) (fun B hI0 hro => ?_)
  rw [Try.ntmps45]
  simp only [enumA]
  repeat (first
      | with_reducible refine s_seq ?_
      | with_reducible refine k_seq ?_
      | with_reducible refine k_seq_ret ?_
      | with_reducible refine k_seq_exit ?_
      | with_reducible refine k_blk ?_
      | with_reducible refine k_blk_ret ?_
      | with_reducible refine k_blk_exit ?_
      | ((with_reducible refine k_blk_out ?_ ?_); (focus decide))
      | with_reducible refine k_lp_ret ?_
      | with_reducible refine k_lp_exit ?_
      | with_reducible refine s_block ?_
      | with_reducible refine sp_skip ?_
      | with_reducible refine sp_ret ?_
      | with_reducible refine sp_exit ?_
      | ((with_reducible refine s_cond_t ?_ ?_); (focus (simp [-List.getD_eq_getElem?_getD, List.getD_cons_zero, List.getD_cons_succ, List.getD_nil, lk, AS.ev, *]; done)))
      | ((with_reducible refine s_cond_f ?_ ?_); (focus (simp [-List.getD_eq_getElem?_getD, List.getD_cons_zero, List.getD_cons_succ, List.getD_nil, lk, AS.ev, *]; done)))
      | (focus ((with_reducible refine s_region2 (q := ?_) (σ' := ?_) TT_ok PT6_ok ?_ ?_ ?_); rotate_left 2; (focus (first | (simp [nxt]; exact Eq.refl _) | exact Eq.refl _)); (focus ((repeat (((with_reducible refine runL_cons (σ1 := ?_) ?_ ?_); rotate_left; (focus (simp [-List.getD_eq_getElem?_getD, List.getD_cons_zero, List.getD_cons_succ, List.getD_nil, undef, runL, runE, effA, stepA, dstOk, wantA, core, lk, st, dl, AS.ev, AS.evs, AS.put, AS.upd, updO, updI, nxt, cPick, cAlloc, cBox, cBuild, cBuildS, cLoad, cStore, cNil, plainOf, cBin, cNilS, isNilS, nilA, cUn, cConv, cMake, cSlice, slA, idxA, cFA, cF, cIA, cIX, cIS, cI, cExt, cLen, cApp, cMM, cFun, cCall, lenA, AS.callee, sc1, sc2, ixOk, ldA, AV.flat, AV.cell, AV.cells, Value.oneCell', fillA, spl, chunk, zeros, AS.parts, AS.rows, AS.shut, AS.shut1, AS.shut2, AS.shutL, AS.shutM, AV.ids, idsL, idsLL, eqAll, bndA, AV.scalar, AV.scalar1, AV.isV, Ef.app, fpA, light, Ef.pk, ptOf, pntO, wrO, wr, *]; rfl))))); (exact runL_nil)))))
      | (focus ((with_reducible refine s_draw2 (q := ?_) (es := ?_) (σ' := ?_) prog_mixed TT_ok PT6_ok ?_ ?_ ?_ ?_); rotate_left 3; (focus (first | (simp [nxt]; exact Eq.refl _) | exact Eq.refl _)); (focus ((repeat (((with_reducible refine runE_cons (e := ?_) (σ1 := ?_) (es := ?_) ?_ ?_ ?_); rotate_left 3; (focus (simp [-List.getD_eq_getElem?_getD, List.getD_cons_zero, List.getD_cons_succ, List.getD_nil, undef, runL, runE, effA, stepA, dstOk, wantA, core, lk, st, dl, AS.ev, AS.evs, AS.put, AS.upd, updO, updI, nxt, cPick, cAlloc, cBox, cBuild, cBuildS, cLoad, cStore, cNil, plainOf, cBin, cNilS, isNilS, nilA, cUn, cConv, cMake, cSlice, slA, idxA, cFA, cF, cIA, cIX, cIS, cI, cExt, cLen, cApp, cMM, cFun, cCall, lenA, AS.callee, sc1, sc2, ixOk, ldA, AV.flat, AV.cell, AV.cells, Value.oneCell', fillA, spl, chunk, zeros, AS.parts, AS.rows, AS.shut, AS.shut1, AS.shut2, AS.shutL, AS.shutM, AV.ids, idsL, idsLL, eqAll, bndA, AV.scalar, AV.scalar1, AV.isV, Ef.app, fpA, light, Ef.pk, ptOf, pntO, wrO, wr, *]; exact Eq.refl _)); (focus (simp [-List.getD_eq_getElem?_getD, List.getD_cons_zero, List.getD_cons_succ, Ef.app, Ef.pk, pntO, wrO, wr, lk, AS.upd, updO, updI, AS.put, st, dl]; exact Eq.refl _))))); (exact runE_nil))); (focus (first | kernel_rfl | decide)))))
  refine s_nil 5 0 38 1 (by simp [lk]) (by simp) ?_
  simp only [st]
  refine s_loop (J := fun i : {k : Nat // k ≤ L.length} => ⟨49, [(0, aRows L), (1, aInts c), (5, .ref 0 0 (putK L c i.1).1.length), (6, .v (.bool (putK L c i.1).2)), (7, .v (.int .i64 (i.1 : Int)))], [(0, ⟨38, 1, (putK L c i.1).1.map fun xs => [aInts xs]⟩)], [0]⟩) (μ := fun i => L.length - i.1) ⟨0, Nat.zero_le _⟩ ?_ (fun ⟨k, hk⟩ => ?_)
  · (refine weak_id rfl ?_ ?_ <;> ((try simp only [List.mem_cons, List.not_mem_nil, or_false, forall_eq_or_imp, forall_eq]); (try simp (disch := omega) [-List.getD_eq_getElem?_getD, List.getD_cons_zero, List.getD_cons_succ, List.getD_nil, lk, AV.ids, idsL, idsLL, i64w, *])))
    all_goals simp [putK]
  have hlen := putK_len L c k hk
  obtain ⟨hcap, hcap2⟩ := caps24 (Nat.le_trans hlen (Nat.mul_le_mul_left 2 (Nat.le_trans hk hm)))
  clear hlen
  by_cases hlt : k < L.length
  · have hs := putK_succ L c hlt
    have ho := okRows_at hL k
    have hd : litsB (L.getD k []) = true := by
      rw [litsB_iff]
      have : L.getD k [] = L[k] := by simp [List.getD, hlt]
      rw [this]; exact hl _ (List.getElem_mem _)
    unfold putStep at hs
    clear hl
    have hcap3 : ((putK L c k).1.length + 1 + 1) * 24 ≤ 140737488355328 := hcap2
    cases h3 : (putK L c k).2
    · by_cases h1 : cmpC (L.getD k []) c < 0
      · rw [if_neg (fun h => h.2 h1), h3] at hs
        repeat (first
            | with_reducible refine s_seq ?_
            | with_reducible refine k_seq ?_
            | with_reducible refine k_seq_ret ?_
            | with_reducible refine k_seq_exit ?_
            | with_reducible refine k_blk ?_
            | with_reducible refine k_blk_ret ?_
            | with_reducible refine k_blk_exit ?_
            | ((with_reducible refine k_blk_out ?_ ?_); (focus decide))
            | with_reducible refine k_lp_ret ?_
            | with_reducible refine k_lp_exit ?_
            | with_reducible refine s_block ?_
            | with_reducible refine sp_skip ?_
            | with_reducible refine sp_ret ?_
            | with_reducible refine sp_exit ?_
            | ((with_reducible refine s_cond_t ?_ ?_); (focus (simp [-List.getD_eq_getElem?_getD, List.getD_cons_zero, List.getD_cons_succ, List.getD_nil, lk, AS.ev, *]; done)))
            | ((with_reducible refine s_cond_f ?_ ?_); (focus (simp [-List.getD_eq_getElem?_getD, List.getD_cons_zero, List.getD_cons_succ, List.getD_nil, lk, AS.ev, *]; done)))
            | (focus ((with_reducible refine s_region2 (q := ?_) (σ' := ?_) TT_ok PT6_ok ?_ ?_ ?_); rotate_left 2; (focus (first | (simp [nxt]; exact Eq.refl _) | exact Eq.refl _)); (focus ((repeat (((with_reducible refine runL_cons (σ1 := ?_) ?_ ?_); rotate_left; (focus (simp [-List.getD_eq_getElem?_getD, List.getD_cons_zero, List.getD_cons_succ, List.getD_nil, undef, runL, runE, effA, stepA, dstOk, wantA, core, lk, st, dl, AS.ev, AS.evs, AS.put, AS.upd, updO, updI, nxt, cPick, cAlloc, cBox, cBuild, cBuildS, cLoad, cStore, cNil, plainOf, cBin, cNilS, isNilS, nilA, cUn, cConv, cMake, cSlice, slA, idxA, cFA, cF, cIA, cIX, cIS, cI, cExt, cLen, cApp, cMM, cFun, cCall, lenA, AS.callee, sc1, sc2, ixOk, ldA, AV.flat, AV.cell, AV.cells, Value.oneCell', fillA, spl, chunk, zeros, AS.parts, AS.rows, AS.shut, AS.shut1, AS.shut2, AS.shutL, AS.shutM, AV.ids, idsL, idsLL, eqAll, bndA, AV.scalar, AV.scalar1, AV.isV, Ef.app, fpA, light, Ef.pk, ptOf, pntO, wrO, wr, *]; rfl))))); (exact runL_nil)))))
            | (focus ((with_reducible refine s_draw2 (q := ?_) (es := ?_) (σ' := ?_) prog_mixed TT_ok PT6_ok ?_ ?_ ?_ ?_); rotate_left 3; (focus (first | (simp [nxt]; exact Eq.refl _) | exact Eq.refl _)); (focus ((repeat (((with_reducible refine runE_cons (e := ?_) (σ1 := ?_) (es := ?_) ?_ ?_ ?_); rotate_left 3; (focus (simp [-List.getD_eq_getElem?_getD, List.getD_cons_zero, List.getD_cons_succ, List.getD_nil, undef, runL, runE, effA, stepA, dstOk, wantA, core, lk, st, dl, AS.ev, AS.evs, AS.put, AS.upd, updO, updI, nxt, cPick, cAlloc, cBox, cBuild, cBuildS, cLoad, cStore, cNil, plainOf, cBin, cNilS, isNilS, nilA, cUn, cConv, cMake, cSlice, slA, idxA, cFA, cF, cIA, cIX, cIS, cI, cExt, cLen, cApp, cMM, cFun, cCall, lenA, AS.callee, sc1, sc2, ixOk, ldA, AV.flat, AV.cell, AV.cells, Value.oneCell', fillA, spl, chunk, zeros, AS.parts, AS.rows, AS.shut, AS.shut1, AS.shut2, AS.shutL, AS.shutM, AV.ids, idsL, idsLL, eqAll, bndA, AV.scalar, AV.scalar1, AV.isV, Ef.app, fpA, light, Ef.pk, ptOf, pntO, wrO, wr, *]; exact Eq.refl _)); (focus (simp [-List.getD_eq_getElem?_getD, List.getD_cons_zero, List.getD_cons_succ, Ef.app, Ef.pk, pntO, wrO, wr, lk, AS.upd, updO, updI, AS.put, st, dl]; exact Eq.refl _))))); (exact runE_nil))); (focus (first | kernel_rfl | decide)))))
        refine k_lp (⟨k + 1, hlt⟩ : {k : Nat // k ≤ L.length}) (Nat.sub_lt_sub_left hlt (Nat.lt_succ_self k)) ?_
        (refine weak_of (fun _ => 7) ⟨rfl, ?_, ?_, ?_⟩ <;> ((try simp only [List.mem_cons, List.not_mem_nil, or_false, forall_eq_or_imp, forall_eq]); (try simp (disch := omega) [-List.getD_eq_getElem?_getD, List.getD_cons_zero, List.getD_cons_succ, List.getD_nil, lk, AV.ids, idsL, idsLL, AV.ren, renL, renLL, i64w, *])))
      · rw [if_pos ⟨h3, h1⟩] at hs
        by_cases h2 : cmpC c (L.getD k []) < 0
        · rw [if_pos h2] at hs
          repeat (first
              | with_reducible refine s_seq ?_
              | with_reducible refine k_seq ?_
              | with_reducible refine k_seq_ret ?_
              | with_reducible refine k_seq_exit ?_
              | with_reducible refine k_blk ?_
              | with_reducible refine k_blk_ret ?_
              | with_reducible refine k_blk_exit ?_
              | ((with_reducible refine k_blk_out ?_ ?_); (focus decide))
              | with_reducible refine k_lp_ret ?_
              | with_reducible refine k_lp_exit ?_
              | with_reducible refine s_block ?_
              | with_reducible refine sp_skip ?_
              | with_reducible refine sp_ret ?_
              | with_reducible refine sp_exit ?_
              | ((with_reducible refine s_cond_t ?_ ?_); (focus (simp [-List.getD_eq_getElem?_getD, List.getD_cons_zero, List.getD_cons_succ, List.getD_nil, lk, AS.ev, *]; done)))
              | ((with_reducible refine s_cond_f ?_ ?_); (focus (simp [-List.getD_eq_getElem?_getD, List.getD_cons_zero, List.getD_cons_succ, List.getD_nil, lk, AS.ev, *]; done)))
              | (focus ((with_reducible refine s_region2 (q := ?_) (σ' := ?_) TT_ok PT6_ok ?_ ?_ ?_); rotate_left 2; (focus (first | (simp [nxt]; exact Eq.refl _) | exact Eq.refl _)); (focus ((repeat (((with_reducible refine runL_cons (σ1 := ?_) ?_ ?_); rotate_left; (focus (simp [-List.getD_eq_getElem?_getD, List.getD_cons_zero, List.getD_cons_succ, List.getD_nil, undef, runL, runE, effA, stepA, dstOk, wantA, core, lk, st, dl, AS.ev, AS.evs, AS.put, AS.upd, updO, updI, nxt, cPick, cAlloc, cBox, cBuild, cBuildS, cLoad, cStore, cNil, plainOf, cBin, cNilS, isNilS, nilA, cUn, cConv, cMake, cSlice, slA, idxA, cFA, cF, cIA, cIX, cIS, cI, cExt, cLen, cApp, cMM, cFun, cCall, lenA, AS.callee, sc1, sc2, ixOk, ldA, AV.flat, AV.cell, AV.cells, Value.oneCell', fillA, spl, chunk, zeros, AS.parts, AS.rows, AS.shut, AS.shut1, AS.shut2, AS.shutL, AS.shutM, AV.ids, idsL, idsLL, eqAll, bndA, AV.scalar, AV.scalar1, AV.isV, Ef.app, fpA, light, Ef.pk, ptOf, pntO, wrO, wr, *]; rfl))))); (exact runL_nil)))))
              | (focus ((with_reducible refine s_draw2 (q := ?_) (es := ?_) (σ' := ?_) prog_mixed TT_ok PT6_ok ?_ ?_ ?_ ?_); rotate_left 3; (focus (first | (simp [nxt]; exact Eq.refl _) | exact Eq.refl _)); (focus ((repeat (((with_reducible refine runE_cons (e := ?_) (σ1 := ?_) (es := ?_) ?_ ?_ ?_); rotate_left 3; (focus (simp [-List.getD_eq_getElem?_getD, List.getD_cons_zero, List.getD_cons_succ, List.getD_nil, undef, runL, runE, effA, stepA, dstOk, wantA, core, lk, st, dl, AS.ev, AS.evs, AS.put, AS.upd, updO, updI, nxt, cPick, cAlloc, cBox, cBuild, cBuildS, cLoad, cStore, cNil, plainOf, cBin, cNilS, isNilS, nilA, cUn, cConv, cMake, cSlice, slA, idxA, cFA, cF, cIA, cIX, cIS, cI, cExt, cLen, cApp, cMM, cFun, cCall, lenA, AS.callee, sc1, sc2, ixOk, ldA, AV.flat, AV.cell, AV.cells, Value.oneCell', fillA, spl, chunk, zeros, AS.parts, AS.rows, AS.shut, AS.shut1, AS.shut2, AS.shutL, AS.shutM, AV.ids, idsL, idsLL, eqAll, bndA, AV.scalar, AV.scalar1, AV.isV, Ef.app, fpA, light, Ef.pk, ptOf, pntO, wrO, wr, *]; exact Eq.refl _)); (focus (simp [-List.getD_eq_getElem?_getD, List.getD_cons_zero, List.getD_cons_succ, Ef.app, Ef.pk, pntO, wrO, wr, lk, AS.upd, updO, updI, AS.put, st, dl]; exact Eq.refl _))))); (exact runE_nil))); (focus (first | kernel_rfl | decide)))))
          refine k_lp (⟨k + 1, hlt⟩ : {k : Nat // k ≤ L.length}) (Nat.sub_lt_sub_left hlt (Nat.lt_succ_self k)) ?_
          (refine weak_of (fun _ => 11) ⟨rfl, ?_, ?_, ?_⟩ <;> ((try simp only [List.mem_cons, List.not_mem_nil, or_false, forall_eq_or_imp, forall_eq]); (try simp (disch := omega) [-List.getD_eq_getElem?_getD, List.getD_cons_zero, List.getD_cons_succ, List.getD_nil, lk, AV.ids, idsL, idsLL, AV.ren, renL, renLL, i64w, *])))
        · rw [if_neg h2] at hs
          repeat (first
              | with_reducible refine s_seq ?_
              | with_reducible refine k_seq ?_
              | with_reducible refine k_seq_ret ?_
              | with_reducible refine k_seq_exit ?_
              | with_reducible refine k_blk ?_
              | with_reducible refine k_blk_ret ?_
              | with_reducible refine k_blk_exit ?_
              | ((with_reducible refine k_blk_out ?_ ?_); (focus decide))
              | with_reducible refine k_lp_ret ?_
              | with_reducible refine k_lp_exit ?_
              | with_reducible refine s_block ?_
              | with_reducible refine sp_skip ?_
              | with_reducible refine sp_ret ?_
              | with_reducible refine sp_exit ?_
              | ((with_reducible refine s_cond_t ?_ ?_); (focus (simp [-List.getD_eq_getElem?_getD, List.getD_cons_zero, List.getD_cons_succ, List.getD_nil, lk, AS.ev, *]; done)))
              | ((with_reducible refine s_cond_f ?_ ?_); (focus (simp [-List.getD_eq_getElem?_getD, List.getD_cons_zero, List.getD_cons_succ, List.getD_nil, lk, AS.ev, *]; done)))
              | (focus ((with_reducible refine s_region2 (q := ?_) (σ' := ?_) TT_ok PT6_ok ?_ ?_ ?_); rotate_left 2; (focus (first | (simp [nxt]; exact Eq.refl _) | exact Eq.refl _)); (focus ((repeat (((with_reducible refine runL_cons (σ1 := ?_) ?_ ?_); rotate_left; (focus (simp [-List.getD_eq_getElem?_getD, List.getD_cons_zero, List.getD_cons_succ, List.getD_nil, undef, runL, runE, effA, stepA, dstOk, wantA, core, lk, st, dl, AS.ev, AS.evs, AS.put, AS.upd, updO, updI, nxt, cPick, cAlloc, cBox, cBuild, cBuildS, cLoad, cStore, cNil, plainOf, cBin, cNilS, isNilS, nilA, cUn, cConv, cMake, cSlice, slA, idxA, cFA, cF, cIA, cIX, cIS, cI, cExt, cLen, cApp, cMM, cFun, cCall, lenA, AS.callee, sc1, sc2, ixOk, ldA, AV.flat, AV.cell, AV.cells, Value.oneCell', fillA, spl, chunk, zeros, AS.parts, AS.rows, AS.shut, AS.shut1, AS.shut2, AS.shutL, AS.shutM, AV.ids, idsL, idsLL, eqAll, bndA, AV.scalar, AV.scalar1, AV.isV, Ef.app, fpA, light, Ef.pk, ptOf, pntO, wrO, wr, *]; rfl))))); (exact runL_nil)))))
              | (focus ((with_reducible refine s_draw2 (q := ?_) (es := ?_) (σ' := ?_) prog_mixed TT_ok PT6_ok ?_ ?_ ?_ ?_); rotate_left 3; (focus (first | (simp [nxt]; exact Eq.refl _) | exact Eq.refl _)); (focus ((repeat (((with_reducible refine runE_cons (e := ?_) (σ1 := ?_) (es := ?_) ?_ ?_ ?_); rotate_left 3; (focus (simp [-List.getD_eq_getElem?_getD, List.getD_cons_zero, List.getD_cons_succ, List.getD_nil, undef, runL, runE, effA, stepA, dstOk, wantA, core, lk, st, dl, AS.ev, AS.evs, AS.put, AS.upd, updO, updI, nxt, cPick, cAlloc, cBox, cBuild, cBuildS, cLoad, cStore, cNil, plainOf, cBin, cNilS, isNilS, nilA, cUn, cConv, cMake, cSlice, slA, idxA, cFA, cF, cIA, cIX, cIS, cI, cExt, cLen, cApp, cMM, cFun, cCall, lenA, AS.callee, sc1, sc2, ixOk, ldA, AV.flat, AV.cell, AV.cells, Value.oneCell', fillA, spl, chunk, zeros, AS.parts, AS.rows, AS.shut, AS.shut1, AS.shut2, AS.shutL, AS.shutM, AV.ids, idsL, idsLL, eqAll, bndA, AV.scalar, AV.scalar1, AV.isV, Ef.app, fpA, light, Ef.pk, ptOf, pntO, wrO, wr, *]; exact Eq.refl _)); (focus (simp [-List.getD_eq_getElem?_getD, List.getD_cons_zero, List.getD_cons_succ, Ef.app, Ef.pk, pntO, wrO, wr, lk, AS.upd, updO, updI, AS.put, st, dl]; exact Eq.refl _))))); (exact runE_nil))); (focus (first | kernel_rfl | decide)))))
          refine k_lp (⟨k + 1, hlt⟩ : {k : Nat // k ≤ L.length}) (Nat.sub_lt_sub_left hlt (Nat.lt_succ_self k)) ?_
          (refine weak_of (fun _ => 7) ⟨rfl, ?_, ?_, ?_⟩ <;> ((try simp only [List.mem_cons, List.not_mem_nil, or_false, forall_eq_or_imp, forall_eq]); (try simp (disch := omega) [-List.getD_eq_getElem?_getD, List.getD_cons_zero, List.getD_cons_succ, List.getD_nil, lk, AV.ids, idsL, idsLL, AV.ren, renL, renLL, i64w, *])))
    · rw [if_neg (fun h => by rw [h3] at h; cases h.1), h3] at hs
      repeat (first
          | with_reducible refine s_seq ?_
          | with_reducible refine k_seq ?_
          | with_reducible refine k_seq_ret ?_
          | with_reducible refine k_seq_exit ?_
          | with_reducible refine k_blk ?_
          | with_reducible refine k_blk_ret ?_
          | with_reducible refine k_blk_exit ?_
          | ((with_reducible refine k_blk_out ?_ ?_); (focus decide))
          | with_reducible refine k_lp_ret ?_
          | with_reducible refine k_lp_exit ?_
          | with_reducible refine s_block ?_
          | with_reducible refine sp_skip ?_
          | with_reducible refine sp_ret ?_
          | with_reducible refine sp_exit ?_
          | ((with_reducible refine s_cond_t ?_ ?_); (focus (simp [-List.getD_eq_getElem?_getD, List.getD_cons_zero, List.getD_cons_succ, List.getD_nil, lk, AS.ev, *]; done)))
          | ((with_reducible refine s_cond_f ?_ ?_); (focus (simp [-List.getD_eq_getElem?_getD, List.getD_cons_zero, List.getD_cons_succ, List.getD_nil, lk, AS.ev, *]; done)))
          | (focus ((with_reducible refine s_region2 (q := ?_) (σ' := ?_) TT_ok PT6_ok ?_ ?_ ?_); rotate_left 2; (focus (first | (simp [nxt]; exact Eq.refl _) | exact Eq.refl _)); (focus ((repeat (((with_reducible refine runL_cons (σ1 := ?_) ?_ ?_); rotate_left; (focus (simp [-List.getD_eq_getElem?_getD, List.getD_cons_zero, List.getD_cons_succ, List.getD_nil, undef, runL, runE, effA, stepA, dstOk, wantA, core, lk, st, dl, AS.ev, AS.evs, AS.put, AS.upd, updO, updI, nxt, cPick, cAlloc, cBox, cBuild, cBuildS, cLoad, cStore, cNil, plainOf, cBin, cNilS, isNilS, nilA, cUn, cConv, cMake, cSlice, slA, idxA, cFA, cF, cIA, cIX, cIS, cI, cExt, cLen, cApp, cMM, cFun, cCall, lenA, AS.callee, sc1, sc2, ixOk, ldA, AV.flat, AV.cell, AV.cells, Value.oneCell', fillA, spl, chunk, zeros, AS.parts, AS.rows, AS.shut, AS.shut1, AS.shut2, AS.shutL, AS.shutM, AV.ids, idsL, idsLL, eqAll, bndA, AV.scalar, AV.scalar1, AV.isV, Ef.app, fpA, light, Ef.pk, ptOf, pntO, wrO, wr, *]; rfl))))); (exact runL_nil)))))
          | (focus ((with_reducible refine s_draw2 (q := ?_) (es := ?_) (σ' := ?_) prog_mixed TT_ok PT6_ok ?_ ?_ ?_ ?_); rotate_left 3; (focus (first | (simp [nxt]; exact Eq.refl _) | exact Eq.refl _)); (focus ((repeat (((with_reducible refine runE_cons (e := ?_) (σ1 := ?_) (es := ?_) ?_ ?_ ?_); rotate_left 3; (focus (simp [-List.getD_eq_getElem?_getD, List.getD_cons_zero, List.getD_cons_succ, List.getD_nil, undef, runL, runE, effA, stepA, dstOk, wantA, core, lk, st, dl, AS.ev, AS.evs, AS.put, AS.upd, updO, updI, nxt, cPick, cAlloc, cBox, cBuild, cBuildS, cLoad, cStore, cNil, plainOf, cBin, cNilS, isNilS, nilA, cUn, cConv, cMake, cSlice, slA, idxA, cFA, cF, cIA, cIX, cIS, cI, cExt, cLen, cApp, cMM, cFun, cCall, lenA, AS.callee, sc1, sc2, ixOk, ldA, AV.flat, AV.cell, AV.cells, Value.oneCell', fillA, spl, chunk, zeros, AS.parts, AS.rows, AS.shut, AS.shut1, AS.shut2, AS.shutL, AS.shutM, AV.ids, idsL, idsLL, eqAll, bndA, AV.scalar, AV.scalar1, AV.isV, Ef.app, fpA, light, Ef.pk, ptOf, pntO, wrO, wr, *]; exact Eq.refl _)); (focus (simp [-List.getD_eq_getElem?_getD, List.getD_cons_zero, List.getD_cons_succ, Ef.app, Ef.pk, pntO, wrO, wr, lk, AS.upd, updO, updI, AS.put, st, dl]; exact Eq.refl _))))); (exact runE_nil))); (focus (first | kernel_rfl | decide)))))
      refine k_lp (⟨k + 1, hlt⟩ : {k : Nat // k ≤ L.length}) (Nat.sub_lt_sub_left hlt (Nat.lt_succ_self k)) ?_
      (refine weak_of (fun _ => 7) ⟨rfl, ?_, ?_, ?_⟩ <;> ((try simp only [List.mem_cons, List.not_mem_nil, or_false, forall_eq_or_imp, forall_eq]); (try simp (disch := omega) [-List.getD_eq_getElem?_getD, List.getD_cons_zero, List.getD_cons_succ, List.getD_nil, lk, AV.ids, idsL, idsLL, AV.ren, renL, renLL, i64w, *])))
  · have hkl : k = L.length := Nat.le_antisymm hk (Nat.le_of_not_lt hlt)
    subst hkl
    have hlt2 : ¬ ((L.length : Int) < L.length) := Int.lt_irrefl _
    cases h3 : (putK L c L.length).2
    · have hp : putL L c = (putK L c L.length).1 ++ [c] := by unfold putL; rw [h3]; rfl
      repeat (first
          | with_reducible refine s_seq ?_
          | with_reducible refine k_seq ?_
          | with_reducible refine k_seq_ret ?_
          | with_reducible refine k_seq_exit ?_
          | with_reducible refine k_blk ?_
          | with_reducible refine k_blk_ret ?_
          | with_reducible refine k_blk_exit ?_
          | ((with_reducible refine k_blk_out ?_ ?_); (focus decide))
          | with_reducible refine k_lp_ret ?_
          | with_reducible refine k_lp_exit ?_
          | with_reducible refine s_block ?_
          | with_reducible refine sp_skip ?_
          | with_reducible refine sp_ret ?_
          | with_reducible refine sp_exit ?_
          | ((with_reducible refine s_cond_t ?_ ?_); (focus (simp [-List.getD_eq_getElem?_getD, List.getD_cons_zero, List.getD_cons_succ, List.getD_nil, lk, AS.ev, *]; done)))
          | ((with_reducible refine s_cond_f ?_ ?_); (focus (simp [-List.getD_eq_getElem?_getD, List.getD_cons_zero, List.getD_cons_succ, List.getD_nil, lk, AS.ev, *]; done)))
          | (focus ((with_reducible refine s_region2 (q := ?_) (σ' := ?_) TT_ok PT6_ok ?_ ?_ ?_); rotate_left 2; (focus (first | (simp [nxt]; exact Eq.refl _) | exact Eq.refl _)); (focus ((repeat (((with_reducible refine runL_cons (σ1 := ?_) ?_ ?_); rotate_left; (focus (simp [-List.getD_eq_getElem?_getD, List.getD_cons_zero, List.getD_cons_succ, List.getD_nil, undef, runL, runE, effA, stepA, dstOk, wantA, core, lk, st, dl, AS.ev, AS.evs, AS.put, AS.upd, updO, updI, nxt, cPick, cAlloc, cBox, cBuild, cBuildS, cLoad, cStore, cNil, plainOf, cBin, cNilS, isNilS, nilA, cUn, cConv, cMake, cSlice, slA, idxA, cFA, cF, cIA, cIX, cIS, cI, cExt, cLen, cApp, cMM, cFun, cCall, lenA, AS.callee, sc1, sc2, ixOk, ldA, AV.flat, AV.cell, AV.cells, Value.oneCell', fillA, spl, chunk, zeros, AS.parts, AS.rows, AS.shut, AS.shut1, AS.shut2, AS.shutL, AS.shutM, AV.ids, idsL, idsLL, eqAll, bndA, AV.scalar, AV.scalar1, AV.isV, Ef.app, fpA, light, Ef.pk, ptOf, pntO, wrO, wr, *]; rfl))))); (exact runL_nil)))))
          | (focus ((with_reducible refine s_draw2 (q := ?_) (es := ?_) (σ' := ?_) prog_mixed TT_ok PT6_ok ?_ ?_ ?_ ?_); rotate_left 3; (focus (first | (simp [nxt]; exact Eq.refl _) | exact Eq.refl _)); (focus ((repeat (((with_reducible refine runE_cons (e := ?_) (σ1 := ?_) (es := ?_) ?_ ?_ ?_); rotate_left 3; (focus (simp [-List.getD_eq_getElem?_getD, List.getD_cons_zero, List.getD_cons_succ, List.getD_nil, undef, runL, runE, effA, stepA, dstOk, wantA, core, lk, st, dl, AS.ev, AS.evs, AS.put, AS.upd, updO, updI, nxt, cPick, cAlloc, cBox, cBuild, cBuildS, cLoad, cStore, cNil, plainOf, cBin, cNilS, isNilS, nilA, cUn, cConv, cMake, cSlice, slA, idxA, cFA, cF, cIA, cIX, cIS, cI, cExt, cLen, cApp, cMM, cFun, cCall, lenA, AS.callee, sc1, sc2, ixOk, ldA, AV.flat, AV.cell, AV.cells, Value.oneCell', fillA, spl, chunk, zeros, AS.parts, AS.rows, AS.shut, AS.shut1, AS.shut2, AS.shutL, AS.shutM, AV.ids, idsL, idsLL, eqAll, bndA, AV.scalar, AV.scalar1, AV.isV, Ef.app, fpA, light, Ef.pk, ptOf, pntO, wrO, wr, *]; exact Eq.refl _)); (focus (simp [-List.getD_eq_getElem?_getD, List.getD_cons_zero, List.getD_cons_succ, Ef.app, Ef.pk, pntO, wrO, wr, lk, AS.upd, updO, updI, AS.put, st, dl]; exact Eq.refl _))))); (exact runE_nil))); (focus (first | kernel_rfl | decide)))))
      ((refine post_ret (av := ?_) (by first | exact .inl rfl | exact .inr rfl) (show (Try.f45).results.toList = _ from by rw [Try.results45]) ?_ ?_); rotate_left; (focus (simp [-List.getD_eq_getElem?_getD, List.getD_cons_zero, List.getD_cons_succ, retA, retL, ret1, lk, st, ldA, AV.cell]; rfl)); (try simp [-List.getD_eq_getElem?_getD, List.getD_cons_zero, List.getD_cons_succ, List.getD_nil, undef, runL, runE, effA, stepA, dstOk, wantA, core, lk, st, dl, AS.ev, AS.evs, AS.put, AS.upd, updO, updI, nxt, cPick, cAlloc, cBox, cBuild, cBuildS, cLoad, cStore, cNil, plainOf, cBin, cNilS, isNilS, nilA, cUn, cConv, cMake, cSlice, slA, idxA, cFA, cF, cIA, cIX, cIS, cI, cExt, cLen, cApp, cMM, cFun, cCall, lenA, AS.callee, sc1, sc2, ixOk, ldA, AV.flat, AV.cell, AV.cells, Value.oneCell', fillA, spl, chunk, zeros, AS.parts, AS.rows, AS.shut, AS.shut1, AS.shut2, AS.shutL, AS.shutM, AV.ids, idsL, idsLL, eqAll, bndA, AV.scalar, AV.scalar1, AV.isV, Ef.app, fpA, light, Ef.pk, ptOf, pntO, wrO, wr, *]))
      rw [take_snoc_map]
      exact ⟨idsLL_rows _, rfl⟩
    · have hp : putL L c = (putK L c L.length).1 := by unfold putL; rw [h3]; rfl
      repeat (first
          | with_reducible refine s_seq ?_
          | with_reducible refine k_seq ?_
          | with_reducible refine k_seq_ret ?_
          | with_reducible refine k_seq_exit ?_
          | with_reducible refine k_blk ?_
          | with_reducible refine k_blk_ret ?_
          | with_reducible refine k_blk_exit ?_
          | ((with_reducible refine k_blk_out ?_ ?_); (focus decide))
          | with_reducible refine k_lp_ret ?_
          | with_reducible refine k_lp_exit ?_
          | with_reducible refine s_block ?_
          | with_reducible refine sp_skip ?_
          | with_reducible refine sp_ret ?_
          | with_reducible refine sp_exit ?_
          | ((with_reducible refine s_cond_t ?_ ?_); (focus (simp [-List.getD_eq_getElem?_getD, List.getD_cons_zero, List.getD_cons_succ, List.getD_nil, lk, AS.ev, *]; done)))
          | ((with_reducible refine s_cond_f ?_ ?_); (focus (simp [-List.getD_eq_getElem?_getD, List.getD_cons_zero, List.getD_cons_succ, List.getD_nil, lk, AS.ev, *]; done)))
          | (focus ((with_reducible refine s_region2 (q := ?_) (σ' := ?_) TT_ok PT6_ok ?_ ?_ ?_); rotate_left 2; (focus (first | (simp [nxt]; exact Eq.refl _) | exact Eq.refl _)); (focus ((repeat (((with_reducible refine runL_cons (σ1 := ?_) ?_ ?_); rotate_left; (focus (simp [-List.getD_eq_getElem?_getD, List.getD_cons_zero, List.getD_cons_succ, List.getD_nil, undef, runL, runE, effA, stepA, dstOk, wantA, core, lk, st, dl, AS.ev, AS.evs, AS.put, AS.upd, updO, updI, nxt, cPick, cAlloc, cBox, cBuild, cBuildS, cLoad, cStore, cNil, plainOf, cBin, cNilS, isNilS, nilA, cUn, cConv, cMake, cSlice, slA, idxA, cFA, cF, cIA, cIX, cIS, cI, cExt, cLen, cApp, cMM, cFun, cCall, lenA, AS.callee, sc1, sc2, ixOk, ldA, AV.flat, AV.cell, AV.cells, Value.oneCell', fillA, spl, chunk, zeros, AS.parts, AS.rows, AS.shut, AS.shut1, AS.shut2, AS.shutL, AS.shutM, AV.ids, idsL, idsLL, eqAll, bndA, AV.scalar, AV.scalar1, AV.isV, Ef.app, fpA, light, Ef.pk, ptOf, pntO, wrO, wr, *]; rfl))))); (exact runL_nil)))))
          | (focus ((with_reducible refine s_draw2 (q := ?_) (es := ?_) (σ' := ?_) prog_mixed TT_ok PT6_ok ?_ ?_ ?_ ?_); rotate_left 3; (focus (first | (simp [nxt]; exact Eq.refl _) | exact Eq.refl _)); (focus ((repeat (((with_reducible refine runE_cons (e := ?_) (σ1 := ?_) (es := ?_) ?_ ?_ ?_); rotate_left 3; (focus (simp [-List.getD_eq_getElem?_getD, List.getD_cons_zero, List.getD_cons_succ, List.getD_nil, undef, runL, runE, effA, stepA, dstOk, wantA, core, lk, st, dl, AS.ev, AS.evs, AS.put, AS.upd, updO, updI, nxt, cPick, cAlloc, cBox, cBuild, cBuildS, cLoad, cStore, cNil, plainOf, cBin, cNilS, isNilS, nilA, cUn, cConv, cMake, cSlice, slA, idxA, cFA, cF, cIA, cIX, cIS, cI, cExt, cLen, cApp, cMM, cFun, cCall, lenA, AS.callee, sc1, sc2, ixOk, ldA, AV.flat, AV.cell, AV.cells, Value.oneCell', fillA, spl, chunk, zeros, AS.parts, AS.rows, AS.shut, AS.shut1, AS.shut2, AS.shutL, AS.shutM, AV.ids, idsL, idsLL, eqAll, bndA, AV.scalar, AV.scalar1, AV.isV, Ef.app, fpA, light, Ef.pk, ptOf, pntO, wrO, wr, *]; exact Eq.refl _)); (focus (simp [-List.getD_eq_getElem?_getD, List.getD_cons_zero, List.getD_cons_succ, Ef.app, Ef.pk, pntO, wrO, wr, lk, AS.upd, updO, updI, AS.put, st, dl]; exact Eq.refl _))))); (exact runE_nil))); (focus (first | kernel_rfl | decide)))))
      ((refine post_ret (av := ?_) (by first | exact .inl rfl | exact .inr rfl) (show (Try.f45).results.toList = _ from by rw [Try.results45]) ?_ ?_); rotate_left; (focus (simp [-List.getD_eq_getElem?_getD, List.getD_cons_zero, List.getD_cons_succ, retA, retL, ret1, lk, st, ldA, AV.cell]; rfl)); (try simp [-List.getD_eq_getElem?_getD, List.getD_cons_zero, List.getD_cons_succ, List.getD_nil, undef, runL, runE, effA, stepA, dstOk, wantA, core, lk, st, dl, AS.ev, AS.evs, AS.put, AS.upd, updO, updI, nxt, cPick, cAlloc, cBox, cBuild, cBuildS, cLoad, cStore, cNil, plainOf, cBin, cNilS, isNilS, nilA, cUn, cConv, cMake, cSlice, slA, idxA, cFA, cF, cIA, cIX, cIS, cI, cExt, cLen, cApp, cMM, cFun, cCall, lenA, AS.callee, sc1, sc2, ixOk, ldA, AV.flat, AV.cell, AV.cells, Value.oneCell', fillA, spl, chunk, zeros, AS.parts, AS.rows, AS.shut, AS.shut1, AS.shut2, AS.shutL, AS.shutM, AV.ids, idsL, idsLL, eqAll, bndA, AV.scalar, AV.scalar1, AV.isV, Ef.app, fpA, light, Ef.pk, ptOf, pntO, wrO, wr, *]))
@[simp] def g_rSorted : List AV → Option (AV × Bool)
  | [a0, .v (.int .i64 n)] => (match toInts a0 with | some c => if (okInts c && okI n && (decide ((n.toNat : Int) = n) && decide (n.toNat ≤ 128))) = true then some (.tup [aInts (sortK c n.toNat), .v (.bool (altK c n.toNat))], false) else none | none => none)
  | _ => none
theorem e_rSorted : EntOk Try.prog 44 g_rSorted := ent_pure (by kernel_rfl) fun args r fr h => by
  unfold g_rSorted at h
  split at h
  · rename_i a0 n
    split at h
    · rename_i c t0
      split at h
      · rename_i hc
        simp only [Bool.and_eq_true] at hc
        obtain ⟨⟨o0, o1⟩, hk⟩ := hc
        cases h
        exact ⟨FnPure.cov ((by have h := rSorted_p c n.toNat o0 (of_decide_eq_true hk.2); rw [of_decide_eq_true hk.1] at h; exact h)) (.cons (cov_ints t0) (.cons (Cov.refl _) .nil)), rfl⟩
      · cases h
    · cases h
  · cases h

@[simp] def g_rPut : List AV → Option (AV × Bool)
  | [a0, a1] => (match toRows a0 with | some L => (match toInts a1 with | some c => if (okRows L && okInts c && (L.all litsB && litsB c && decide (L.length ≤ 4096))) = true then some (aRows (putL L c), false) else none | none => none) | none => none)
  | _ => none
theorem e_rPut : EntOk Try.prog 45 g_rPut := ent_pure (by kernel_rfl) fun args r fr h => by
  unfold g_rPut at h
  split at h
  · rename_i a0 a1
    split at h
    · rename_i L t0
      split at h
      · rename_i c t1
        split at h
        · rename_i hc
          simp only [Bool.and_eq_true] at hc
          obtain ⟨⟨o0, o1⟩, hk⟩ := hc
          cases h
          exact ⟨FnPure.cov (rPut_p L c o0 o1 (fun d hd => litsB_iff.1 (List.all_eq_true.1 hk.1.1 d hd)) hk.1.2 (of_decide_eq_true hk.2)) (.cons (cov_rows t0) (.cons (cov_ints t1) .nil)), rfl⟩
        · cases h
      · cases h
    · cases h
  · cases h

def l7 : List (FuncId × (List AV → Option (AV × Bool))) :=
  (44, g_rSorted) :: (45, g_rPut) :: l6
theorem l7_ok : ∀ p ∈ l7, EntOk Try.prog p.1 p.2 := ent_cons e_rSorted (ent_cons e_rPut (l6_ok))
def PT7 : PTab := tab l7
theorem PT7_ok : PTok Try.prog PT7 := tab_ok l7_ok
@[simp] theorem PT7_litVar : PT7 41 = g_litVar := rfl
@[simp] theorem PT7_litValid : PT7 36 = g_litValid := rfl
@[simp] theorem PT7_check : PT7 17 = g_check := rfl
@[simp] theorem PT7_with : PT7 56 = g_with := rfl
@[simp] theorem PT7_all : PT7 48 = g_all := rfl
@[simp] theorem PT7_rValid : PT7 37 = g_rValid := rfl
@[simp] theorem PT7_rHas : PT7 60 = g_rHas := rfl
@[simp] theorem PT7_rHolds : PT7 51 = g_rHolds := rfl
@[simp] theorem PT7_rAssign : PT7 50 = g_rAssign := rfl
@[simp] theorem PT7_rCheck : PT7 18 = g_rCheck := rfl
@[simp] theorem PT7_rEval : PT7 25 = g_rEval := rfl
@[simp] theorem PT7_litvalid : PT7 61 = g_litvalid := rfl
@[simp] theorem PT7_opposite : PT7 63 = g_opposite := rfl
@[simp] theorem PT7_clone : PT7 58 = g_clone := rfl
@[simp] theorem PT7_order : PT7 62 = g_order := rfl
@[simp] theorem PT7_term : PT7 52 = g_term := rfl
@[simp] theorem PT7_clause : PT7 38 = g_clause := rfl
@[simp] theorem PT7_equal : PT7 43 = g_equal := rfl
@[simp] theorem PT7_distinct : PT7 42 = g_distinct := rfl
@[simp] theorem PT7_normal : PT7 20 = g_normal := rfl
@[simp] theorem PT7_rContains : PT7 55 = g_rContains := rfl
@[simp] theorem PT7_rSameInts : PT7 46 = g_rSameInts := rfl
@[simp] theorem PT7_rAbs : PT7 59 = g_rAbs := rfl
@[simp] theorem PT7_rBefore : PT7 66 = g_rBefore := rfl
@[simp] theorem PT7_rSorted : PT7 44 = g_rSorted := rfl
@[simp] theorem PT7_rPut : PT7 45 = g_rPut := rfl
end Go.Proofs.Ytkollnaojpppcaa
