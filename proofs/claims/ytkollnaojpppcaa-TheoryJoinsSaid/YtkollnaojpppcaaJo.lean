/- theory.Join as a function that returns rows of its own; no condition. -/
import Derived.Test.YtkollnaojpppcaaJn0
import Derived.Test.YtkollnaojpppcaaObP
import Derived.Test.YtkollnaojpppcaaAm22
namespace Go.Proofs.Ytkollnaojpppcaa
set_option linter.unusedVariables false
set_option linter.unusedSimpArgs false
set_option linter.unusedSectionVars false
open Go.RowKit
attribute [local simp] List.getD_cons_zero List.getD_cons_succ List.getD_nil undef gvars runL runE effA stepA dstOk wantA core lk st dl AS.ev AS.evs AS.put AS.upd updO updI nxt cPick cAlloc cBox cBuild cBuildS cLoad cStore cNil plainOf cBin cNilS isNilS nilA cUn cConvX cConvB cConv bytesOf rowB cMake cSlice slA idxA cFA cF cIA cIX cIS cI cExt cLen cApp cMM cFun cCall lenA lenM isNilM nilM cNilM cMakeM hintB cMapK cLook foundR lookR cUpd putM cDel delM findA isKeyB Instr.sameNow AS.entry AS.bound AS.callee sc1 sc2 ixOk ldA AV.flat AV.cell AV.cells Value.oneCell' fillA spl chunk zeros AS.parts AS.rows AS.shut AS.shut1 AS.shut2 AS.shutL AS.shutM AV.ids idsL idsLL eqAll bndA AV.scalar AV.scalar1 AV.isV Ef.app Ef.pk ptOf pntO wrO wr
attribute [-simp] List.getD_eq_getElem?_getD
set_option maxRecDepth 100000
attribute [local simp] AV.ren renL obI shO_cons lk_st lk_dl renLL_append range2 range4
set_option maxHeartbeats 4000000 in
theorem join_obj (N : Int) (L : List (List Int)) (M : Int) (K : List (List Int)) (hN : okI N = true) (hM : okI M = true) (hL : okRows L = true) (hK : okRows K = true) (z1 : checkT N L = 0) (z2 : checkT M K = 0) (h3 : ¬ 4096 < L.length + K.length) :
    FnObj Try.prog 32 [aTh N L, aTh M K] (resT (if N < M then M else N) (L ++ K)) (objT (L ++ K)) (idsT (L ++ K)) := by
  have l1 := okRows_len hL
  have l2 := okRows_len hK
  have ws : IntKind.i64.wrap ((L.length : Int) + K.length) = (L.length : Int) + K.length := i64w (by omega) (by omega)
  have hlt : ¬ (4096 : Int) < (L.length : Int) + K.length := by omega
  have hcc := concat_p L K (by omega)
  unfold aTh
  refine fn_obj TT_ok Try.func32 (c := _) rfl (by simp [Try.ntmps32]) (within_T _ fun k hk => by simpa [resT, AV.ids, idsL] using hk) (fun B hI0 hro => ?_)
  rw [Try.ntmps32]
  simp only [enumA]
  repeat (first | with_reducible first | refine s_seq ?_ | refine k_seq ?_ | refine k_seq_ret ?_ | refine k_seq_exit ?_ | refine k_blk ?_ | refine k_blk_ret ?_ | refine k_blk_exit ?_ | refine k_lp_ret ?_ | refine k_lp_exit ?_ | refine ki_lp_ret ?_ | refine ki_lp_exit ?_ | refine s_block ?_ | refine sp_skip ?_ | refine sp_ret ?_ | refine sp_exit ?_ | ((with_reducible refine k_blk_out ?_ ?_); (focus decide)) | ((with_reducible refine s_cond_t ?_ ?_); (focus (simp [*]; done))) | ((with_reducible refine s_cond_f ?_ ?_); (focus (simp [*]; done))) | (focus ((with_reducible refine s_region2 (q := ?_) (σ' := ?_) TT_ok PT15_ok ?_ ?_ ?_); rotate_left 2; (focus (first | (simp; exact Eq.refl _) | exact Eq.refl _)); (focus ((repeat (((with_reducible refine runL_cons (σ1 := ?_) ?_ ?_); rotate_left; (focus (simp [*]; rfl))))); (exact runL_nil))))) | (focus ((with_reducible refine s_draw2 (q := ?_) (es := ?_) (σ' := ?_) prog_mixed TT_ok PT15_ok ?_ ?_ ?_ ?_); rotate_left 3; (focus (first | (simp; exact Eq.refl _) | exact Eq.refl _)); (focus ((repeat (((with_reducible refine runE_cons (e := ?_) (σ1 := ?_) (es := ?_) ?_ ?_ ?_); rotate_left 3; (focus (simp [*]; exact Eq.refl _)); (focus (simp; exact Eq.refl _))))); (exact runE_nil))); (focus (first | kernel_rfl | decide)))))
  refine s_loop (J := fun i : {k : Nat // k ≤ 2} => ⟨62, [(2, .ptr 0 0 0), (3, .ptr 1 0 0), (4, .ptr 2 0 0), (5, .v (.int .i64 0)), (14, .ref 5 0 2), (15, .v (.int .i64 2)), (16, .v (.int .i64 (i.1 : Int)))], [(0, ⟨24, 2, [[.v (.int .i64 N), aRows L]]⟩), (1, ⟨24, 2, [[.v (.int .i64 M), aRows K]]⟩), (2, ⟨24, 2, [[.v (.int .i64 0), .v (.slice none 0 0)]]⟩), (5, ⟨24, 2, [[.v (.int .i64 N), aRows L], [.v (.int .i64 M), aRows K]]⟩)], [5, 2, 1, 0]⟩) (μ := fun i => 2 - i.1) ⟨0, by omega⟩ ?_ (fun ⟨k, hk⟩ => ?_)
  · (refine weak_id rfl ?_ ?_ <;> ((try simp only [List.mem_cons, List.not_mem_nil, or_false, forall_eq_or_imp, forall_eq]); (try simp (disch := omega) [i64w, *])))
  repeat (first | with_reducible first | refine s_seq ?_ | refine k_seq ?_ | refine k_seq_ret ?_ | refine k_seq_exit ?_ | refine k_blk ?_ | refine k_blk_ret ?_ | refine k_blk_exit ?_ | refine k_lp_ret ?_ | refine k_lp_exit ?_ | refine ki_lp_ret ?_ | refine ki_lp_exit ?_ | refine s_block ?_ | refine sp_skip ?_ | refine sp_ret ?_ | refine sp_exit ?_ | ((with_reducible refine k_blk_out ?_ ?_); (focus decide)) | ((with_reducible refine s_cond_t ?_ ?_); (focus (simp [*]; done))) | ((with_reducible refine s_cond_f ?_ ?_); (focus (simp [*]; done))) | (focus ((with_reducible refine s_region2 (q := ?_) (σ' := ?_) TT_ok PT15_ok ?_ ?_ ?_); rotate_left 2; (focus (first | (simp; exact Eq.refl _) | exact Eq.refl _)); (focus ((repeat (((with_reducible refine runL_cons (σ1 := ?_) ?_ ?_); rotate_left; (focus (simp [*]; rfl))))); (exact runL_nil))))) | (focus ((with_reducible refine s_draw2 (q := ?_) (es := ?_) (σ' := ?_) prog_mixed TT_ok PT15_ok ?_ ?_ ?_ ?_); rotate_left 3; (focus (first | (simp; exact Eq.refl _) | exact Eq.refl _)); (focus ((repeat (((with_reducible refine runE_cons (e := ?_) (σ1 := ?_) (es := ?_) ?_ ?_ ?_); rotate_left 3; (focus (simp [*]; exact Eq.refl _)); (focus (simp; exact Eq.refl _))))); (exact runE_nil))); (focus (first | kernel_rfl | decide)))))
  (focus ((with_reducible refine sp_cond (b := ?_) ?_ (fun hc => ?_) (fun hc => ?_)); rotate_left; (focus (first | rfl | (simp [lk, AS.ev]; rfl))); all_goals (try simp at hc)))
  · rcases (by omega : k = 0 ∨ k = 1) with rfl | rfl
    · repeat (first | with_reducible first | refine s_seq ?_ | refine k_seq ?_ | refine k_seq_ret ?_ | refine k_seq_exit ?_ | refine k_blk ?_ | refine k_blk_ret ?_ | refine k_blk_exit ?_ | refine k_lp_ret ?_ | refine k_lp_exit ?_ | refine ki_lp_ret ?_ | refine ki_lp_exit ?_ | refine s_block ?_ | refine sp_skip ?_ | refine sp_ret ?_ | refine sp_exit ?_ | ((with_reducible refine k_blk_out ?_ ?_); (focus decide)) | ((with_reducible refine s_cond_t ?_ ?_); (focus (simp [*]; done))) | ((with_reducible refine s_cond_f ?_ ?_); (focus (simp [*]; done))) | (focus ((with_reducible refine s_region2 (q := ?_) (σ' := ?_) TT_ok PT15_ok ?_ ?_ ?_); rotate_left 2; (focus (first | (simp; exact Eq.refl _) | exact Eq.refl _)); (focus ((repeat (((with_reducible refine runL_cons (σ1 := ?_) ?_ ?_); rotate_left; (focus (simp [*]; rfl))))); (exact runL_nil))))) | (focus ((with_reducible refine s_draw2 (q := ?_) (es := ?_) (σ' := ?_) prog_mixed TT_ok PT15_ok ?_ ?_ ?_ ?_); rotate_left 3; (focus (first | (simp; exact Eq.refl _) | exact Eq.refl _)); (focus ((repeat (((with_reducible refine runE_cons (e := ?_) (σ1 := ?_) (es := ?_) ?_ ?_ ?_); rotate_left 3; (focus (simp [*]; exact Eq.refl _)); (focus (simp; exact Eq.refl _))))); (exact runE_nil))); (focus (first | kernel_rfl | decide)))))
      refine k_lp (⟨1, by omega⟩ : {k : Nat // k ≤ 2}) (by dsimp only; omega) ?_
      (refine weak_id rfl ?_ ?_ <;> ((try simp only [List.mem_cons, List.not_mem_nil, or_false, forall_eq_or_imp, forall_eq]); (try simp (disch := omega) [i64w, *])))
    · repeat (first | with_reducible first | refine s_seq ?_ | refine k_seq ?_ | refine k_seq_ret ?_ | refine k_seq_exit ?_ | refine k_blk ?_ | refine k_blk_ret ?_ | refine k_blk_exit ?_ | refine k_lp_ret ?_ | refine k_lp_exit ?_ | refine ki_lp_ret ?_ | refine ki_lp_exit ?_ | refine s_block ?_ | refine sp_skip ?_ | refine sp_ret ?_ | refine sp_exit ?_ | ((with_reducible refine k_blk_out ?_ ?_); (focus decide)) | ((with_reducible refine s_cond_t ?_ ?_); (focus (simp [*]; done))) | ((with_reducible refine s_cond_f ?_ ?_); (focus (simp [*]; done))) | (focus ((with_reducible refine s_region2 (q := ?_) (σ' := ?_) TT_ok PT15_ok ?_ ?_ ?_); rotate_left 2; (focus (first | (simp; exact Eq.refl _) | exact Eq.refl _)); (focus ((repeat (((with_reducible refine runL_cons (σ1 := ?_) ?_ ?_); rotate_left; (focus (simp [*]; rfl))))); (exact runL_nil))))) | (focus ((with_reducible refine s_draw2 (q := ?_) (es := ?_) (σ' := ?_) prog_mixed TT_ok PT15_ok ?_ ?_ ?_ ?_); rotate_left 3; (focus (first | (simp; exact Eq.refl _) | exact Eq.refl _)); (focus ((repeat (((with_reducible refine runE_cons (e := ?_) (σ1 := ?_) (es := ?_) ?_ ?_ ?_); rotate_left 3; (focus (simp [*]; exact Eq.refl _)); (focus (simp; exact Eq.refl _))))); (exact runE_nil))); (focus (first | kernel_rfl | decide)))))
      refine k_lp (⟨2, by omega⟩ : {k : Nat // k ≤ 2}) (by dsimp only; omega) ?_
      (refine weak_id rfl ?_ ?_ <;> ((try simp only [List.mem_cons, List.not_mem_nil, or_false, forall_eq_or_imp, forall_eq]); (try simp (disch := omega) [i64w, *])))
  · clear hc
    repeat (first | with_reducible first | refine s_seq ?_ | refine k_seq ?_ | refine k_seq_ret ?_ | refine k_seq_exit ?_ | refine k_blk ?_ | refine k_blk_ret ?_ | refine k_blk_exit ?_ | refine k_lp_ret ?_ | refine k_lp_exit ?_ | refine ki_lp_ret ?_ | refine ki_lp_exit ?_ | refine s_block ?_ | refine sp_skip ?_ | refine sp_ret ?_ | refine sp_exit ?_ | ((with_reducible refine k_blk_out ?_ ?_); (focus decide)) | ((with_reducible refine s_cond_t ?_ ?_); (focus (simp [*]; done))) | ((with_reducible refine s_cond_f ?_ ?_); (focus (simp [*]; done))) | (focus ((with_reducible refine s_region2 (q := ?_) (σ' := ?_) TT_ok PT15_ok ?_ ?_ ?_); rotate_left 2; (focus (first | (simp; exact Eq.refl _) | exact Eq.refl _)); (focus ((repeat (((with_reducible refine runL_cons (σ1 := ?_) ?_ ?_); rotate_left; (focus (simp [*]; rfl))))); (exact runL_nil))))) | (focus ((with_reducible refine s_draw2 (q := ?_) (es := ?_) (σ' := ?_) prog_mixed TT_ok PT15_ok ?_ ?_ ?_ ?_); rotate_left 3; (focus (first | (simp; exact Eq.refl _) | exact Eq.refl _)); (focus ((repeat (((with_reducible refine runE_cons (e := ?_) (σ1 := ?_) (es := ?_) ?_ ?_ ?_); rotate_left 3; (focus (simp [*]; exact Eq.refl _)); (focus (simp; exact Eq.refl _))))); (exact runE_nil))); (focus (first | kernel_rfl | decide)))))
    refine s_regionL ?_
    ((iterate 4 (((with_reducible refine spl_step TT_ok PT15_ok (id := 0) (σ' := ?_) ?_ ?_); rotate_left; (focus (simp [*]; rfl))))))
    (((with_reducible refine spl_step TT_ok PT15_ok (id := 17) (σ' := ?_) ?_ ?_); rotate_left; (focus (simp [*]; rfl))))
    refine spl_frz (fun k => k == 17 || k == 5) ?_
    (refine spl_eq (τ := ?_) ?_ ?_; rotate_left; (focus ((try simp only [AS.frz, List.map_cons, List.map_nil]); (try simp [frzV, frzO, frzC, List.filter]); rfl)))
    refine spl_op rfl rfl (ok_call (f := 57) (avs := [.sl 1 [[aRows L], [aRows K]]]) (enters_ok (avs := [.sl 1 [[aRows L], [aRows K]]]) (cs := []) rfl (by kernel_rfl) rfl rfl) (by simp [idsL, AV.ids, idsLL]) hcc) ?_
    have hlen : (L ++ K).length = L.length + K.length := List.length_append
    have hXr : okRows (L ++ K) = true := by
      simp only [okRows, Bool.and_eq_true, decide_eq_true_eq, List.all_append] at hL hK ⊢
      exact ⟨⟨hL.1, hK.1⟩, by omega⟩
    have hXl : (L ++ K).length ≤ 4096 := by omega
    clear hlen hcc
    generalize L ++ K = X at *
    ((iterate 2 (((with_reducible refine spl_step TT_ok PT15_ok (id := 0) (σ' := ?_) ?_ ?_); rotate_left; (focus (simp [*]; rfl))))))
    refine spl_nil ?_
    refine k_seq ?_
    refine s_cnil 12 0 1 40 38 1 rfl rfl (by simp [AS.put, AS.upd, updI]) ?_ (by decide)
    (refine s_eq (τ := ?_) ?_ ?_; rotate_left; (focus ((try simp only [AS.frz, List.map_cons, List.map_nil]); (try simp [frzV, frzO, frzC, List.filter]); rfl)))
    repeat (first | with_reducible first | refine s_seq ?_ | refine k_seq ?_ | refine k_seq_ret ?_ | refine k_seq_exit ?_ | refine k_blk ?_ | refine k_blk_ret ?_ | refine k_blk_exit ?_ | refine k_lp_ret ?_ | refine k_lp_exit ?_ | refine ki_lp_ret ?_ | refine ki_lp_exit ?_ | refine s_block ?_ | refine sp_skip ?_ | refine sp_ret ?_ | refine sp_exit ?_ | ((with_reducible refine k_blk_out ?_ ?_); (focus decide)) | ((with_reducible refine s_cond_t ?_ ?_); (focus (simp [*]; done))) | ((with_reducible refine s_cond_f ?_ ?_); (focus (simp [*]; done))))
    refine s_loop (J := fun i : {k : Nat // k ≤ X.length} => ⟨62, [(4, .ptr 2 0 0), (5, .v (.int .i64 0)), (9, .ptr 12 0 0), (47, aRows X), (48, .v (.int .i64 (X.length : Int))), (49, .v (.int .i64 (i.1 : Int)))], [(40, ⟨38, 1, refsI 1000 (tkL X i.1)⟩), (2, ⟨24, 2, [[.v (.int .i64 0), .v (.slice none 0 0)]]⟩), (12, ⟨24, 2, [[.v (.int .i64 (if N < M then M else N)), .ref 40 0 i.1]]⟩)] ++ fam 1000 (tkL X i.1), [40, 12, 2] ++ List.range' 1000 (tkL X i.1).length⟩) (μ := fun i => X.length - i.1) ⟨0, Nat.zero_le _⟩ ?_ (fun ⟨k, hk⟩ => ?_)
    · have hk0 := tkL_zero X
      have hr0 : refsI 1000 [] = [] := rfl
      (refine weak_fam (fun k => k) rfl ?_ ?_ ?_ ?_ ?_ ?_ <;> ((try simp only [List.mem_cons, List.not_mem_nil, or_false, forall_eq_or_imp, forall_eq]); (try simp (disch := omega) [lk, AV.ids, idsL, idsLL, AV.ren, renL, renLL, i64w, *])))
    have hkl := tkL_len hk
    have c1 : (k + 1) * 24 ≤ 140737488355328 := by omega
    have hril := refsI_len 1000 (tkL X k)
    repeat (first | with_reducible first | refine s_seq ?_ | refine k_seq ?_ | refine k_seq_ret ?_ | refine k_seq_exit ?_ | refine k_blk ?_ | refine k_blk_ret ?_ | refine k_blk_exit ?_ | refine k_lp_ret ?_ | refine k_lp_exit ?_ | refine ki_lp_ret ?_ | refine ki_lp_exit ?_ | refine s_block ?_ | refine sp_skip ?_ | refine sp_ret ?_ | refine sp_exit ?_ | ((with_reducible refine k_blk_out ?_ ?_); (focus decide)) | ((with_reducible refine s_cond_t ?_ ?_); (focus (simp [*]; done))) | ((with_reducible refine s_cond_f ?_ ?_); (focus (simp [*]; done))))
    (focus ((with_reducible refine s_region2 (q := ?_) (σ' := ?_) TT_ok PT15_ok ?_ ?_ ?_); rotate_left 2; (focus (first | (simp; exact Eq.refl _) | exact Eq.refl _)); (focus ((repeat (((with_reducible refine runL_cons (σ1 := ?_) ?_ ?_); rotate_left; (focus (simp [*]; rfl))))); (exact runL_nil)))))
    repeat (first | with_reducible first | refine s_seq ?_ | refine k_seq ?_ | refine k_seq_ret ?_ | refine k_seq_exit ?_ | refine k_blk ?_ | refine k_blk_ret ?_ | refine k_blk_exit ?_ | refine k_lp_ret ?_ | refine k_lp_exit ?_ | refine ki_lp_ret ?_ | refine ki_lp_exit ?_ | refine s_block ?_ | refine sp_skip ?_ | refine sp_ret ?_ | refine sp_exit ?_ | ((with_reducible refine k_blk_out ?_ ?_); (focus decide)) | ((with_reducible refine s_cond_t ?_ ?_); (focus (simp [*]; done))) | ((with_reducible refine s_cond_f ?_ ?_); (focus (simp [*]; done))))
    (focus ((with_reducible refine sp_cond (b := ?_) ?_ (fun hc => ?_) (fun hc => ?_)); rotate_left; (focus (first | rfl | (simp [lk, AS.ev]; rfl))); all_goals (try simp at hc)))
    · have hts := tkL_succ (X := X) (k := k) (by omega)
      have hci := okRows_at hXr k
      repeat (first | with_reducible first | refine s_seq ?_ | refine k_seq ?_ | refine k_seq_ret ?_ | refine k_seq_exit ?_ | refine k_blk ?_ | refine k_blk_ret ?_ | refine k_blk_exit ?_ | refine k_lp_ret ?_ | refine k_lp_exit ?_ | refine ki_lp_ret ?_ | refine ki_lp_exit ?_ | refine s_block ?_ | refine sp_skip ?_ | refine sp_ret ?_ | refine sp_exit ?_ | ((with_reducible refine k_blk_out ?_ ?_); (focus decide)) | ((with_reducible refine s_cond_t ?_ ?_); (focus (simp [*]; done))) | ((with_reducible refine s_cond_f ?_ ?_); (focus (simp [*]; done))))
      (focus ((with_reducible refine s_region2 (q := ?_) (σ' := ?_) TT_ok PT15_ok ?_ ?_ ?_); rotate_left 2; (focus (first | (simp; exact Eq.refl _) | exact Eq.refl _)); (focus ((repeat (((with_reducible refine runL_cons (σ1 := ?_) ?_ ?_); rotate_left; (focus (simp [*]; rfl))))); (exact runL_nil)))))
      repeat (first | with_reducible first | refine s_seq ?_ | refine k_seq ?_ | refine k_seq_ret ?_ | refine k_seq_exit ?_ | refine k_blk ?_ | refine k_blk_ret ?_ | refine k_blk_exit ?_ | refine k_lp_ret ?_ | refine k_lp_exit ?_ | refine ki_lp_ret ?_ | refine ki_lp_exit ?_ | refine s_block ?_ | refine sp_skip ?_ | refine sp_ret ?_ | refine sp_exit ?_ | ((with_reducible refine k_blk_out ?_ ?_); (focus decide)) | ((with_reducible refine s_cond_t ?_ ?_); (focus (simp [*]; done))) | ((with_reducible refine s_cond_f ?_ ?_); (focus (simp [*]; done))))
      refine s_drawX (es := ?es) (σ' := ?s1) (σ0 := ?s0) (o0 := ?o0) (e0 := ⟨some 56, .ref 44 0 (X.getD k []).length, [(44, some (obI (X.getD k [])))], [55], [44], none⟩) (q := 41) prog_mixed TT_ok PT15_ok ?he0 ?hrun ?hok ?kk
      case hrun =>
        (((with_reducible refine runX_cons (e := ?_) (σ1 := ?_) (es := ?_) ?_ ?_ ?_ ?_); rotate_left 4; (focus (simp [*]; exact Eq.refl _)); (focus (simp; exact Eq.refl _))))
        (((with_reducible refine runX_cons (e := ?_) (σ1 := ?_) (es := ?_) ?_ ?_ ?_ ?_); rotate_left 4; (focus (simp [*]; exact Eq.refl _)); (focus (simp; exact Eq.refl _))))
        (((with_reducible refine runX_cons (e := ?_) (σ1 := ?_) (es := ?_) ?_ ?_ ?_ ?_); rotate_left 4; (focus (simp [*]; exact Eq.refl _)); (focus (simp; exact Eq.refl _))))
        refine runX_call (es := ?_) (σ1 := ?_) ?_ ?_
        rotate_left 2
        · simp; exact Eq.refl _
        (((with_reducible refine runX_cons (e := ?_) (σ1 := ?_) (es := ?_) ?_ ?_ ?_ ?_); rotate_left 4; (focus (simp [*]; exact Eq.refl _)); (focus (simp; exact Eq.refl _))))
        (((with_reducible refine runX_cons (e := ?_) (σ1 := ?_) (es := ?_) ?_ ?_ ?_ ?_); rotate_left 4; (focus (simp [*]; exact Eq.refl _)); (focus (simp; exact Eq.refl _))))
        (((with_reducible refine runX_cons (e := ?_) (σ1 := ?_) (es := ?_) ?_ ?_ ?_ ?_); rotate_left 4; (focus (simp [*]; exact Eq.refl _)); (focus (simp; exact Eq.refl _))))
        (((with_reducible refine runX_cons (e := ?_) (σ1 := ?_) (es := ?_) ?_ ?_ ?_ ?_); rotate_left 4; (focus (simp [*]; exact Eq.refl _)); (focus (simp; exact Eq.refl _))))
        exact runX_nil
        all_goals decide
      case he0 =>
        intro D
        refine eff_obj (avs := [aInts (X.getD k [])]) (f := 58) rfl rfl rfl rfl rfl (by kernel_rfl) (by simp [idsL]) (clone_obj _ hci) (by simp [obI]) (by simp)
      case hok => kernel_rfl
      case kk =>
        repeat (first | with_reducible first | refine s_seq ?_ | refine k_seq ?_ | refine k_seq_ret ?_ | refine k_seq_exit ?_ | refine k_blk ?_ | refine k_blk_ret ?_ | refine k_blk_exit ?_ | refine k_lp_ret ?_ | refine k_lp_exit ?_ | refine ki_lp_ret ?_ | refine ki_lp_exit ?_ | refine s_block ?_ | refine sp_skip ?_ | refine sp_ret ?_ | refine sp_exit ?_ | ((with_reducible refine k_blk_out ?_ ?_); (focus decide)) | ((with_reducible refine s_cond_t ?_ ?_); (focus (simp [*]; done))) | ((with_reducible refine s_cond_f ?_ ?_); (focus (simp [*]; done))))
        (focus ((with_reducible refine s_region2 (q := ?_) (σ' := ?_) TT_ok PT15_ok ?_ ?_ ?_); rotate_left 2; (focus (first | (simp; exact Eq.refl _) | exact Eq.refl _)); (focus ((repeat (((with_reducible refine runL_cons (σ1 := ?_) ?_ ?_); rotate_left; (focus (simp [*]; rfl))))); (exact runL_nil)))))
        refine k_lp (⟨k + 1, by omega⟩ : {k : Nat // k ≤ X.length}) (by dsimp only; omega) ?_
        dsimp only
        rw [hts]
        have hnl : ∀ j : Nat, ¬ (1000 + j < 1000) := fun j => by omega
        have hsn := refsI_snoc 1000 (tkL X k) (X.getD k [])
        rw [hkl] at hsn
        have hre := ren_refsI (fun q => if q < 1000 then (if q = 40 then 46 else q) else if q = 1000 + k then 44 else q) 1000 1000 (tkL X k) _ rfl (fun j hj => by rw [if_neg (by omega), if_neg (by omega)]) (fun _ _ => rfl)
        (refine weak_fam (fun q => if q < 1000 then (if q = 40 then 46 else q) else if q = 1000 + k then 44 else q) rfl ?_ ?_ ?_ ?_ ?_ ?_ <;> ((try simp only [List.mem_cons, List.not_mem_nil, or_false, forall_eq_or_imp, forall_eq]); (try simp (disch := omega) [lk, AV.ids, idsL, idsLL, AV.ren, renL, renLL, i64w, *])))
        · intro q hq
          rcases hq with hq | rfl
          · have := ids_refsI _ _ hq
            exact .inr ⟨by omega, by omega⟩
          · exact .inr ⟨by omega, by omega⟩
        · intro i hi
          by_cases e : i = k
          · subst e
            simp [List.getD, hkl]
          · simp only [if_neg e]
            repeat rw [if_neg (by omega)]
            rw [lk_fam_add (by omega)]
            simp [List.getD, List.getElem?_append_left (show i < (tkL X k).length by omega), obI]
        · intro j hj i hi e
          split at e <;> split at e <;> omega
        · repeat' apply And.intro
          all_goals (intro j hj; split <;> omega)
    · obtain rfl : k = X.length := by omega
      rw [tkL_all]
      repeat (first | with_reducible first | refine s_seq ?_ | refine k_seq ?_ | refine k_seq_ret ?_ | refine k_seq_exit ?_ | refine k_blk ?_ | refine k_blk_ret ?_ | refine k_blk_exit ?_ | refine k_lp_ret ?_ | refine k_lp_exit ?_ | refine ki_lp_ret ?_ | refine ki_lp_exit ?_ | refine s_block ?_ | refine sp_skip ?_ | refine sp_ret ?_ | refine sp_exit ?_ | ((with_reducible refine k_blk_out ?_ ?_); (focus decide)) | ((with_reducible refine s_cond_t ?_ ?_); (focus (simp [*]; done))) | ((with_reducible refine s_cond_f ?_ ?_); (focus (simp [*]; done))))
      (focus ((with_reducible refine s_region2 (q := ?_) (σ' := ?_) TT_ok PT15_ok ?_ ?_ ?_); rotate_left 2; (focus (first | (simp; exact Eq.refl _) | exact Eq.refl _)); (focus ((repeat (((with_reducible refine runL_cons (σ1 := ?_) ?_ ?_); rotate_left; (focus (simp [*]; rfl))))); (exact runL_nil)))))
      repeat (first | with_reducible first | refine s_seq ?_ | refine k_seq ?_ | refine k_seq_ret ?_ | refine k_seq_exit ?_ | refine k_blk ?_ | refine k_blk_ret ?_ | refine k_blk_exit ?_ | refine k_lp_ret ?_ | refine k_lp_exit ?_ | refine ki_lp_ret ?_ | refine ki_lp_exit ?_ | refine s_block ?_ | refine sp_skip ?_ | refine sp_ret ?_ | refine sp_exit ?_ | ((with_reducible refine k_blk_out ?_ ?_); (focus decide)) | ((with_reducible refine s_cond_t ?_ ?_); (focus (simp [*]; done))) | ((with_reducible refine s_cond_f ?_ ?_); (focus (simp [*]; done))))
      refine post_T (o := 40) (b := 1000) (.inr rfl) (by rw [Try.results32]) ?_ rfl (fun j hj => ?_) (by omega)
      · simp [retA, retL, ret1, lk, ldA, AV.cell]
      · simp only [lk]
        repeat rw [if_neg (by omega)]
        exact lk_fam_add hj
end Go.Proofs.Ytkollnaojpppcaa
