/- The law TheoryChecks, by the abstract machine; no condition. -/
import Derived.Test.YtkollnaojpppcaaLa1
import Derived.Test.YtkollnaojpppcaaRows
namespace Go.Proofs.Ytkollnaojpppcaa
set_option linter.unusedVariables false
set_option linter.unusedSimpArgs false
set_option linter.unusedSectionVars false
open Go.ChangeShapes Go.WideShapes Go.ChangeAt Go.RowKit
attribute [local simp] undef runL runE effA stepA dstOk wantA core lk st dl AS.ev AS.evs AS.put AS.upd updO updI nxt cPick cAlloc cBox cBuild cBuildS cLoad cStore cNil plainOf cBin cNilS isNilS nilA cUn cConvX cConvB cConv bytesOf rowB cMake cSlice slA idxA cFA cF cIA cIX cIS cI cExt cLen cApp cMM cFun cCall lenA lenM isNilM nilM cNilM cMakeM hintB cMapK cLook foundR lookR cUpd putM cDel delM findA isKeyB Instr.sameNow AS.entry AS.bound AS.callee sc1 sc2 ixOk ldA AV.flat AV.cell AV.cells Value.oneCell' fillA spl chunk zeros AS.parts AS.rows AS.shut AS.shut1 AS.shut2 AS.shutL AS.shutM AV.ids idsL idsLL eqAll bndA AV.scalar AV.scalar1 AV.isV Ef.app fpA light Ef.pk ptOf pntO wrO wr
set_option maxRecDepth 100000
theorem theoryChecks_p (N : Int) (L : List (List Int)) (hN : okI N = true) (hL : okLens L = true) : FnPure Try.prog 3 [aTh N L] (.v (.bool true)) := by
  unfold aTh
  by_cases hl : lightB L = true
  · have hr := light_rows hL hl
    refine fn_sp TT_ok Try.func3 (c := _) rfl (by simp [Try.ntmps3]) (fun B hI0 hro => ?_)
    rw [Try.ntmps3]
    simp only [enumA]
    repeat (first
        | with_reducible refine s_seq ?_
        | with_reducible refine k_seq ?_
        | with_reducible refine k_seq_ret ?_
        | with_reducible refine k_seq_exit ?_
        | with_reducible refine k_blk ?_
        | with_reducible refine k_blk_ret ?_
        | with_reducible refine k_blk_exit ?_
        | ((with_reducible refine k_blk_out ?_ ?_); (focus decide))
        | with_reducible refine k_lp_ret ?_
        | with_reducible refine k_lp_exit ?_
        | with_reducible refine ki_lp_ret ?_
        | with_reducible refine ki_lp_exit ?_
        | with_reducible refine s_block ?_
        | with_reducible refine sp_skip ?_
        | with_reducible refine sp_ret ?_
        | with_reducible refine sp_exit ?_
        | ((with_reducible refine s_cond_t ?_ ?_); (focus (simp [-List.getD_eq_getElem?_getD, List.getD_cons_zero, List.getD_cons_succ, List.getD_nil, lk, AS.ev, *]; done)))
        | ((with_reducible refine s_cond_f ?_ ?_); (focus (simp [-List.getD_eq_getElem?_getD, List.getD_cons_zero, List.getD_cons_succ, List.getD_nil, lk, AS.ev, *]; done)))
        | (focus ((with_reducible refine s_region2 (q := ?_) (σ' := ?_) TT_ok PT50_ok ?_ ?_ ?_); rotate_left 2; (focus (first | (simp [nxt]; exact Eq.refl _) | exact Eq.refl _)); (focus ((repeat (((with_reducible refine runL_cons (σ1 := ?_) ?_ ?_); rotate_left; (focus (simp [-List.getD_eq_getElem?_getD, List.getD_cons_zero, List.getD_cons_succ, List.getD_nil, *]; rfl))))); (exact runL_nil)))))
        | (focus ((with_reducible refine s_draw2 (q := ?_) (es := ?_) (σ' := ?_) prog_mixed TT_ok PT50_ok ?_ ?_ ?_ ?_); rotate_left 3; (focus (first | (simp [nxt]; exact Eq.refl _) | exact Eq.refl _)); (focus ((repeat (((with_reducible refine runE_cons (e := ?_) (σ1 := ?_) (es := ?_) ?_ ?_ ?_); rotate_left 3; (focus (simp [-List.getD_eq_getElem?_getD, List.getD_cons_zero, List.getD_cons_succ, List.getD_nil, *]; exact Eq.refl _)); (focus (simp [-List.getD_eq_getElem?_getD, List.getD_cons_zero, List.getD_cons_succ, Ef.app, Ef.pk, pntO, wrO, wr, lk, AS.upd, updO, updI, AS.put, st, dl]; exact Eq.refl _))))); (exact runE_nil))); (focus (first | kernel_rfl | decide)))))
    ((refine post_ret (av := ?_) (by first | exact .inl rfl | exact .inr rfl) (show (Try.f3).results.toList = _ from by rw [Try.results3]) ?_ ?_); rotate_left; (focus (simp [-List.getD_eq_getElem?_getD, List.getD_cons_zero, List.getD_cons_succ, retA, retL, ret1, lk, st, ldA, AV.cell]; rfl)); (try simp [-List.getD_eq_getElem?_getD, List.getD_cons_zero, List.getD_cons_succ, List.getD_nil, *]))
  · refine fn_sp TT_ok Try.func3 (c := _) rfl (by simp [Try.ntmps3]) (fun B hI0 hro => ?_)
    rw [Try.ntmps3]
    simp only [enumA]
    repeat (first
        | with_reducible refine s_seq ?_
        | with_reducible refine k_seq ?_
        | with_reducible refine k_seq_ret ?_
        | with_reducible refine k_seq_exit ?_
        | with_reducible refine k_blk ?_
        | with_reducible refine k_blk_ret ?_
        | with_reducible refine k_blk_exit ?_
        | ((with_reducible refine k_blk_out ?_ ?_); (focus decide))
        | with_reducible refine k_lp_ret ?_
        | with_reducible refine k_lp_exit ?_
        | with_reducible refine ki_lp_ret ?_
        | with_reducible refine ki_lp_exit ?_
        | with_reducible refine s_block ?_
        | with_reducible refine sp_skip ?_
        | with_reducible refine sp_ret ?_
        | with_reducible refine sp_exit ?_
        | ((with_reducible refine s_cond_t ?_ ?_); (focus (simp [-List.getD_eq_getElem?_getD, List.getD_cons_zero, List.getD_cons_succ, List.getD_nil, lk, AS.ev, *]; done)))
        | ((with_reducible refine s_cond_f ?_ ?_); (focus (simp [-List.getD_eq_getElem?_getD, List.getD_cons_zero, List.getD_cons_succ, List.getD_nil, lk, AS.ev, *]; done)))
        | (focus ((with_reducible refine s_region2 (q := ?_) (σ' := ?_) TT_ok PT50_ok ?_ ?_ ?_); rotate_left 2; (focus (first | (simp [nxt]; exact Eq.refl _) | exact Eq.refl _)); (focus ((repeat (((with_reducible refine runL_cons (σ1 := ?_) ?_ ?_); rotate_left; (focus (simp [-List.getD_eq_getElem?_getD, List.getD_cons_zero, List.getD_cons_succ, List.getD_nil, *]; rfl))))); (exact runL_nil)))))
        | (focus ((with_reducible refine s_draw2 (q := ?_) (es := ?_) (σ' := ?_) prog_mixed TT_ok PT50_ok ?_ ?_ ?_ ?_); rotate_left 3; (focus (first | (simp [nxt]; exact Eq.refl _) | exact Eq.refl _)); (focus ((repeat (((with_reducible refine runE_cons (e := ?_) (σ1 := ?_) (es := ?_) ?_ ?_ ?_); rotate_left 3; (focus (simp [-List.getD_eq_getElem?_getD, List.getD_cons_zero, List.getD_cons_succ, List.getD_nil, *]; exact Eq.refl _)); (focus (simp [-List.getD_eq_getElem?_getD, List.getD_cons_zero, List.getD_cons_succ, Ef.app, Ef.pk, pntO, wrO, wr, lk, AS.upd, updO, updI, AS.put, st, dl]; exact Eq.refl _))))); (exact runE_nil))); (focus (first | kernel_rfl | decide)))))
    ((refine post_ret (av := ?_) (by first | exact .inl rfl | exact .inr rfl) (show (Try.f3).results.toList = _ from by rw [Try.results3]) ?_ ?_); rotate_left; (focus (simp [-List.getD_eq_getElem?_getD, List.getD_cons_zero, List.getD_cons_succ, retA, retL, ret1, lk, st, ldA, AV.cell]; rfl)); (try simp [-List.getD_eq_getElem?_getD, List.getD_cons_zero, List.getD_cons_succ, List.getD_nil, *]))
namespace theoryChecks
set_option maxRecDepth 100000 in
theorem lifted (os : Os) (started : os.Started) (H : Type) (enc : TypeId × Value → H) :
    ReturnsInHanded {} Try.checked os 3 .any (Rows.theoryChecksSpec.pre6 enc Try.prog Go.Proofs.Try.f3 Rows.theoryChecksRow.domain false) (Rows.theoryChecksSpec.post enc Try.prog Go.Proofs.Try.f3 false true false false) := by
  refine returnsInHanded_of_change (C := Try.checked) (by kernel_rfl) started (by kernel_rfl) Try.func3
    (ChangeSpec.witness6 (enc := enc) (C := Try.checked) false ⟨#[], #[.agg #[.int .i64 0, .slice none 0 0]], []⟩ 8 (by kernel_rfl) (by kernel_rfl) (by kernel_rfl) (by kernel_rfl)) ?_
  intro W base args ds gs before hval0 hW hcnd _
  have hval : ∀ (j : Nat) t v, (Go.Proofs.Try.f3).params[j]? = some t → args[j]? = some v → Value.okWide Try.prog W .any base t v := hval0
  have hW2 := hW
  obtain ⟨p, q, hA0, hV, _, _, _⟩ := hW
  have hA : DataW.TrodAll enc Try.prog W 0 (fun _ => true) true (Go.Proofs.Try.f3).params.toList args.toList ds p := hA0
  rw [Try.params3] at hA hval
  clear hA0 hval0 hcnd
  obtain ⟨rfl, _⟩ := trodVars_none hV
  obtain ⟨v0, vs0, d0, ds0, p0, q0, hargs, rfl, _, h0, r0⟩ := trodAll_cons hA
  obtain ⟨rfl, rfl, _⟩ := trodAll_nil r0
  obtain rfl : args = #[v0] := by cases args; simp_all
  obtain ⟨N, L, ra0, oN0, oL0⟩ := arg_th (hval 0 _ v0 rfl rfl) h0
  refine law_of_pure (avs := [.agg [.v (.int .i64 N), aRows L]]) (by kernel_rfl) hW2 rfl (rec_ok (by kernel_rfl)) (tb := 4) rfl Try.underlying4 rfl rfl rfl rfl (fun i hi => ?_) (theoryChecks_p N L oN0 oL0)
  match i, hi with
  | 0, _ => exact ra0
theorem proved : Rows.TheoryChecksSaid :=
  OpenClaim.holds_of_wide 3 Go.Proofs.Try.f3 rfl rfl rfl rfl rfl rfl rfl ⟨rfl, rfl, rfl, rfl, rfl⟩ rfl rfl rfl rfl rfl (by kernel_rfl) Try.func3 (by kernel_rfl)
    (of_decide_eq_true (by kernel_rfl)) (by unfold Func.isWrapper; first | (rw [if_pos (by decide +kernel)]; kernel_rfl) | (rw [if_neg (by decide +kernel)]; exact ⟨rfl, rfl⟩))
    (fun os started H enc _ => lifted os started H enc)
end theoryChecks
end Go.Proofs.Ytkollnaojpppcaa
