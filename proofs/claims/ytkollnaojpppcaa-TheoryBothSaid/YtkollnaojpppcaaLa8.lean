/- The law TheoryBoth, by the abstract machine; no condition. -/
import Derived.Test.YtkollnaojpppcaaJn
import Derived.Test.YtkollnaojpppcaaLa1
import Derived.Test.YtkollnaojpppcaaPl6
import Derived.Test.YtkollnaojpppcaaRows
namespace Go.Proofs.Ytkollnaojpppcaa
set_option linter.unusedVariables false
set_option linter.unusedSimpArgs false
set_option linter.unusedSectionVars false
open Go.ChangeShapes Go.WideShapes Go.ChangeAt Go.RowKit
attribute [local simp] List.getD_cons_zero List.getD_cons_succ List.getD_nil undef gvars runL runE effA stepA dstOk wantA core lk st dl AS.ev AS.evs AS.put AS.upd updO updI nxt cPick cAlloc cBox cBuild cBuildS cLoad cStore cNil plainOf cBin cNilS isNilS nilA cUn cConvX cConvB cConv bytesOf rowB cMake cSlice slA idxA cFA cF cIA cIX cIS cI cExt cLen cApp cMM cFun cCall lenA lenM isNilM nilM cNilM cMakeM hintB cMapK cLook foundR lookR cUpd putM cDel delM findA isKeyB Instr.sameNow AS.entry AS.bound AS.callee sc1 sc2 ixOk ldA AV.flat AV.cell AV.cells Value.oneCell' fillA spl chunk zeros AS.parts AS.rows AS.shut AS.shut1 AS.shut2 AS.shutL AS.shutM AV.ids idsL idsLL eqAll bndA AV.scalar AV.scalar1 AV.isV Ef.app Ef.pk ptOf pntO wrO wr
attribute [-simp] List.getD_eq_getElem?_getD
set_option maxRecDepth 100000
theorem lightB_len8 {L : List (List Int)} (h : lightB L = true) : L.length ≤ 60 := by
  simp only [lightB, Bool.and_eq_true, decide_eq_true_eq] at h; exact h.2
theorem shl_ok8 {q : Int} (q0 : 0 ≤ q) (q1 : q ≤ 8) : ∃ M : Nat, IntKind.i64.wrap (2 ^ min q.toNat IntKind.i64.bits) = (M : Int) ∧ 1 ≤ M ∧ M ≤ 256 := by
  obtain ⟨n, rfl⟩ := Int.eq_ofNat_of_zero_le q0
  have hn : n ≤ 8 := by omega
  have e1 : IntKind.i64.bits = 64 := rfl
  have e3 : min (n : Int).toNat 64 = n := by simp; omega
  have e4 : (2 : Nat) ^ n ≤ 2 ^ 8 := Nat.pow_le_pow_right (by omega) hn
  have e5 : 0 < (2 : Nat) ^ n := Nat.two_pow_pos n
  have e6 : ((2 ^ n : Nat) : Int) = (2 : Int) ^ n := by norm_cast
  refine ⟨2 ^ n, ?_, by omega, by omega⟩
  rw [e1, e3, e6]
  exact i64w (by omega) (by omega)
set_option maxHeartbeats 8000000 in
theorem theoryBoth_p (N : Int) (L : List (List Int)) (M : Int) (K : List (List Int)) (n m : Int) (hN : okI N = true) (hM : okI M = true) (hL : okLens L = true) (hK : okLens K = true) (n0 : 0 ≤ n) (n1 : n ≤ 255) (m0 : 0 ≤ m) (m1 : m ≤ 255) :
    FnPure Try.prog 13 [aTh N L, aTh M K, .v (.int .u8 n), .v (.int .u8 m)] (.v (.bool true)) := by
  unfold aTh
  by_cases hl : lightB L = true
  · by_cases hl2 : lightB K = true
    · have hr := light_rows hL hl
      have hr2 := light_rows hK hl2
      have hl60 := lightB_len8 hl
      have hk60 := lightB_len8 hl2
      have hmod : n.tmod 8 = n % 8 := Int.tmod_eq_emod_of_nonneg n0
      have hmod2 : m.tmod 8 = m % 8 := Int.tmod_eq_emod_of_nonneg m0
      have q0 : 0 ≤ n % 8 := by omega
      have q1 : n % 8 ≤ 7 := by omega
      have r0 : 0 ≤ m % 8 := by omega
      have r1 : m % 8 ≤ 7 := by omega
      generalize n % 8 = q at hmod q0 q1
      generalize m % 8 = r at hmod2 r0 r1
      have hw1 : IntKind.u8.wrap q = q := by rw [show IntKind.u8.wrap q = q % 256 from rfl]; omega
      have hw2 : IntKind.i64.wrap q = q := i64w (by omega) (by omega)
      have hw4 : IntKind.u8.wrap r = r := by rw [show IntKind.u8.wrap r = r % 256 from rfl]; omega
      have hw5 : IntKind.i64.wrap r = r := i64w (by omega) (by omega)
      have hq : okI q = true := okI_iff.2 ⟨by omega, by omega⟩
      have hr' : okI r = true := okI_iff.2 ⟨by omega, by omega⟩
      have hfk : fewOk q L = true := fewOk_iff.2 ⟨hl60, q0, by omega⟩
      have hfk2 : fewOk r K = true := fewOk_iff.2 ⟨hk60, r0, by omega⟩
      have hz := fewT_check (n := q) (L := L) q0 (by omega) (by omega)
      have hz2 := fewT_check (n := r) (L := K) r0 (by omega) (by omega)
      have hTl : (fewT q L).length = L.length := by unfold fewT; simp
      have hUl : (fewT r K).length = K.length := by unfold fewT; simp
      obtain ⟨T, hT⟩ : ∃ T, fewT q L = T := ⟨_, rfl⟩
      obtain ⟨U, hU⟩ : ∃ U, fewT r K = U := ⟨_, rfl⟩
      rw [hT] at hz hTl
      rw [hU] at hz2 hUl
      have hsum : T.length + U.length ≤ 4096 := by omega
      have hfe : aTh q T = .agg [.v (.int .i64 q), aRows T] := rfl
      have hfe2 : aTh r U = .agg [.v (.int .i64 r), aRows U] := rfl
      have hTr := okRows_check hz
      have hUr := okRows_check hz2
      have hJ := joinA_ok hz hz2 (show ¬ 4096 < T.length + U.length by omega)
      have hjc := join_check hz hz2 hsum
      obtain ⟨j0, j1, j2⟩ := jN_ge q r
      have hev : ∀ k : Nat, k < 1024 → evalT (jN q r) (T ++ U) (asg k (jN q r)) = (evalT q T (asg k q) && evalT r U (asg k r)) := fun k hk => evalT_join (by omega) (by omega) hz hz2 hsum hk
      clear hTl hUl hsum hz hz2 hl60 hk60
      unfold jN at hev hjc j0 j1 j2
      generalize T ++ U = X at hev hjc hJ
      obtain ⟨jn, hjn⟩ : ∃ jn, (if q < r then r else q) = jn := ⟨_, rfl⟩
      rw [hjn] at hev hjc j0 j1 j2 hJ
      have g0 : 0 ≤ jn := by omega
      have g1 : jn ≤ 7 := by omega
      clear j0 j1 j2
      have hXr := okRows_check hjc
      clear hjc
      have hji : okI jn = true := okI_iff.2 ⟨by omega, by omega⟩
      have hw3 : IntKind.u64.wrap jn = jn := u64w (by omega) (by omega)
      have hneg : ¬ jn < 0 := by omega
      obtain ⟨W, hM, hM1, hM2⟩ := shl_ok8 (q := jn) g0 (by omega)
      refine fn_sp TT_ok Try.func13 (c := _) rfl (by simp [Try.ntmps13]) (fun B hI0 hro => ?_)
      rw [Try.ntmps13]
      simp only [enumA]
      repeat (first | with_reducible first | refine s_seq ?_ | refine k_seq ?_ | refine k_seq_ret ?_ | refine k_seq_exit ?_ | refine k_blk ?_ | refine k_blk_ret ?_ | refine k_blk_exit ?_ | refine k_lp_ret ?_ | refine k_lp_exit ?_ | refine ki_lp_ret ?_ | refine ki_lp_exit ?_ | refine s_block ?_ | refine sp_skip ?_ | refine sp_ret ?_ | refine sp_exit ?_ | ((with_reducible refine k_blk_out ?_ ?_); (focus decide)) | ((with_reducible refine s_cond_t ?_ ?_); (focus (simp [*]; done))) | ((with_reducible refine s_cond_f ?_ ?_); (focus (simp [*]; done))) | (focus ((with_reducible refine s_region2 (q := ?_) (σ' := ?_) TT_ok PT50_ok ?_ ?_ ?_); rotate_left 2; (focus (first | (simp; exact Eq.refl _) | exact Eq.refl _)); (focus ((repeat (((with_reducible refine runL_cons (σ1 := ?_) ?_ ?_); rotate_left; (focus (simp [*]; rfl))))); (exact runL_nil))))) | (focus ((with_reducible refine s_draw2 (q := ?_) (es := ?_) (σ' := ?_) prog_mixed TT_ok PT50_ok ?_ ?_ ?_ ?_); rotate_left 3; (focus (first | (simp; exact Eq.refl _) | exact Eq.refl _)); (focus ((repeat (((with_reducible refine runE_cons (e := ?_) (σ1 := ?_) (es := ?_) ?_ ?_ ?_); rotate_left 3; (focus (simp [*]; exact Eq.refl _)); (focus (simp; exact Eq.refl _))))); (exact runE_nil))); (focus (first | kernel_rfl | decide)))))
      refine s_loop (J := fun i : {k : Nat // k ≤ W} => ⟨79, [(4, .ptr 0 0 0), (5, .ptr 1 0 0), (9, .ptr 8 0 0), (11, .v (.int .i64 (i.1 : Int)))], [(0, ⟨24, 2, [[.v (.int .i64 q), aRows T]]⟩), (1, ⟨24, 2, [[.v (.int .i64 r), aRows U]]⟩), (8, ⟨24, 2, [[.v (.int .i64 jn), aRows X]]⟩)], [8, 1, 0]⟩) (μ := fun i => W - i.1) ⟨0, Nat.zero_le _⟩ ?_ (fun ⟨k, hk⟩ => ?_)
      · (refine weak_id rfl ?_ ?_ <;> ((try simp only [List.mem_cons, List.not_mem_nil, or_false, forall_eq_or_imp, forall_eq]); (try simp (disch := omega) [i64w, *])))
      repeat (first | with_reducible first | refine s_seq ?_ | refine k_seq ?_ | refine k_seq_ret ?_ | refine k_seq_exit ?_ | refine k_blk ?_ | refine k_blk_ret ?_ | refine k_blk_exit ?_ | refine k_lp_ret ?_ | refine k_lp_exit ?_ | refine ki_lp_ret ?_ | refine ki_lp_exit ?_ | refine s_block ?_ | refine sp_skip ?_ | refine sp_ret ?_ | refine sp_exit ?_ | ((with_reducible refine k_blk_out ?_ ?_); (focus decide)) | ((with_reducible refine s_cond_t ?_ ?_); (focus (simp [*]; done))) | ((with_reducible refine s_cond_f ?_ ?_); (focus (simp [*]; done))) | (focus ((with_reducible refine s_region2 (q := ?_) (σ' := ?_) TT_ok PT50_ok ?_ ?_ ?_); rotate_left 2; (focus (first | (simp; exact Eq.refl _) | exact Eq.refl _)); (focus ((repeat (((with_reducible refine runL_cons (σ1 := ?_) ?_ ?_); rotate_left; (focus (simp [*]; rfl))))); (exact runL_nil))))) | (focus ((with_reducible refine s_draw2 (q := ?_) (es := ?_) (σ' := ?_) prog_mixed TT_ok PT50_ok ?_ ?_ ?_ ?_); rotate_left 3; (focus (first | (simp; exact Eq.refl _) | exact Eq.refl _)); (focus ((repeat (((with_reducible refine runE_cons (e := ?_) (σ1 := ?_) (es := ?_) ?_ ?_ ?_); rotate_left 3; (focus (simp [*]; exact Eq.refl _)); (focus (simp; exact Eq.refl _))))); (exact runE_nil))); (focus (first | kernel_rfl | decide)))))
      (focus ((with_reducible refine sp_cond (b := ?_) ?_ (fun hc => ?_) (fun hc => ?_)); rotate_left; (focus (first | rfl | (simp [lk, AS.ev]; rfl))); all_goals (try simp at hc)))
      · have hkk := hc
        clear hc
        have a1 : asgOk k q = true := asgOk_iff.2 ⟨by omega, by omega, by omega, by omega⟩
        have a2 : asgOk k r = true := asgOk_iff.2 ⟨by omega, by omega, by omega, by omega⟩
        have a3 : asgOk k jn = true := asgOk_iff.2 ⟨by omega, by omega, by omega, by omega⟩
        have hki : okI (k : Int) = true := okI_iff.2 ⟨by omega, by omega⟩
        have hek := hev k (by omega)
        clear hev
        cases hA : evalT q T (asg k q)
        · rw [hA, Bool.false_and] at hek
          repeat (first | with_reducible first | refine s_seq ?_ | refine k_seq ?_ | refine k_seq_ret ?_ | refine k_seq_exit ?_ | refine k_blk ?_ | refine k_blk_ret ?_ | refine k_blk_exit ?_ | refine k_lp_ret ?_ | refine k_lp_exit ?_ | refine ki_lp_ret ?_ | refine ki_lp_exit ?_ | refine s_block ?_ | refine sp_skip ?_ | refine sp_ret ?_ | refine sp_exit ?_ | ((with_reducible refine k_blk_out ?_ ?_); (focus decide)) | ((with_reducible refine s_cond_t ?_ ?_); (focus (simp [*]; done))) | ((with_reducible refine s_cond_f ?_ ?_); (focus (simp [*]; done))) | (focus ((with_reducible refine s_region2 (q := ?_) (σ' := ?_) TT_ok PT50_ok ?_ ?_ ?_); rotate_left 2; (focus (first | (simp; exact Eq.refl _) | exact Eq.refl _)); (focus ((repeat (((with_reducible refine runL_cons (σ1 := ?_) ?_ ?_); rotate_left; (focus (simp [*]; rfl))))); (exact runL_nil))))) | (focus ((with_reducible refine s_draw2 (q := ?_) (es := ?_) (σ' := ?_) prog_mixed TT_ok PT50_ok ?_ ?_ ?_ ?_); rotate_left 3; (focus (first | (simp; exact Eq.refl _) | exact Eq.refl _)); (focus ((repeat (((with_reducible refine runE_cons (e := ?_) (σ1 := ?_) (es := ?_) ?_ ?_ ?_); rotate_left 3; (focus (simp [*]; exact Eq.refl _)); (focus (simp; exact Eq.refl _))))); (exact runE_nil))); (focus (first | kernel_rfl | decide)))))
          refine k_lp (⟨k + 1, by omega⟩ : {k : Nat // k ≤ W}) (by dsimp only; omega) ?_
          (refine weak_id rfl ?_ ?_ <;> ((try simp only [List.mem_cons, List.not_mem_nil, or_false, forall_eq_or_imp, forall_eq]); (try simp (disch := omega) [i64w, *])))
        · cases hB : evalT r U (asg k r)
          · rw [hA, hB, Bool.and_false] at hek
            repeat (first | with_reducible first | refine s_seq ?_ | refine k_seq ?_ | refine k_seq_ret ?_ | refine k_seq_exit ?_ | refine k_blk ?_ | refine k_blk_ret ?_ | refine k_blk_exit ?_ | refine k_lp_ret ?_ | refine k_lp_exit ?_ | refine ki_lp_ret ?_ | refine ki_lp_exit ?_ | refine s_block ?_ | refine sp_skip ?_ | refine sp_ret ?_ | refine sp_exit ?_ | ((with_reducible refine k_blk_out ?_ ?_); (focus decide)) | ((with_reducible refine s_cond_t ?_ ?_); (focus (simp [*]; done))) | ((with_reducible refine s_cond_f ?_ ?_); (focus (simp [*]; done))) | (focus ((with_reducible refine s_region2 (q := ?_) (σ' := ?_) TT_ok PT50_ok ?_ ?_ ?_); rotate_left 2; (focus (first | (simp; exact Eq.refl _) | exact Eq.refl _)); (focus ((repeat (((with_reducible refine runL_cons (σ1 := ?_) ?_ ?_); rotate_left; (focus (simp [*]; rfl))))); (exact runL_nil))))) | (focus ((with_reducible refine s_draw2 (q := ?_) (es := ?_) (σ' := ?_) prog_mixed TT_ok PT50_ok ?_ ?_ ?_ ?_); rotate_left 3; (focus (first | (simp; exact Eq.refl _) | exact Eq.refl _)); (focus ((repeat (((with_reducible refine runE_cons (e := ?_) (σ1 := ?_) (es := ?_) ?_ ?_ ?_); rotate_left 3; (focus (simp [*]; exact Eq.refl _)); (focus (simp; exact Eq.refl _))))); (exact runE_nil))); (focus (first | kernel_rfl | decide)))))
            refine k_lp (⟨k + 1, by omega⟩ : {k : Nat // k ≤ W}) (by dsimp only; omega) ?_
            (refine weak_id rfl ?_ ?_ <;> ((try simp only [List.mem_cons, List.not_mem_nil, or_false, forall_eq_or_imp, forall_eq]); (try simp (disch := omega) [i64w, *])))
          · rw [hA, hB, Bool.and_true] at hek
            repeat (first | with_reducible first | refine s_seq ?_ | refine k_seq ?_ | refine k_seq_ret ?_ | refine k_seq_exit ?_ | refine k_blk ?_ | refine k_blk_ret ?_ | refine k_blk_exit ?_ | refine k_lp_ret ?_ | refine k_lp_exit ?_ | refine ki_lp_ret ?_ | refine ki_lp_exit ?_ | refine s_block ?_ | refine sp_skip ?_ | refine sp_ret ?_ | refine sp_exit ?_ | ((with_reducible refine k_blk_out ?_ ?_); (focus decide)) | ((with_reducible refine s_cond_t ?_ ?_); (focus (simp [*]; done))) | ((with_reducible refine s_cond_f ?_ ?_); (focus (simp [*]; done))) | (focus ((with_reducible refine s_region2 (q := ?_) (σ' := ?_) TT_ok PT50_ok ?_ ?_ ?_); rotate_left 2; (focus (first | (simp; exact Eq.refl _) | exact Eq.refl _)); (focus ((repeat (((with_reducible refine runL_cons (σ1 := ?_) ?_ ?_); rotate_left; (focus (simp [*]; rfl))))); (exact runL_nil))))) | (focus ((with_reducible refine s_draw2 (q := ?_) (es := ?_) (σ' := ?_) prog_mixed TT_ok PT50_ok ?_ ?_ ?_ ?_); rotate_left 3; (focus (first | (simp; exact Eq.refl _) | exact Eq.refl _)); (focus ((repeat (((with_reducible refine runE_cons (e := ?_) (σ1 := ?_) (es := ?_) ?_ ?_ ?_); rotate_left 3; (focus (simp [*]; exact Eq.refl _)); (focus (simp; exact Eq.refl _))))); (exact runE_nil))); (focus (first | kernel_rfl | decide)))))
            refine k_lp (⟨k + 1, by omega⟩ : {k : Nat // k ≤ W}) (by dsimp only; omega) ?_
            (refine weak_id rfl ?_ ?_ <;> ((try simp only [List.mem_cons, List.not_mem_nil, or_false, forall_eq_or_imp, forall_eq]); (try simp (disch := omega) [i64w, *])))
      · clear hev
        repeat (first | with_reducible first | refine s_seq ?_ | refine k_seq ?_ | refine k_seq_ret ?_ | refine k_seq_exit ?_ | refine k_blk ?_ | refine k_blk_ret ?_ | refine k_blk_exit ?_ | refine k_lp_ret ?_ | refine k_lp_exit ?_ | refine ki_lp_ret ?_ | refine ki_lp_exit ?_ | refine s_block ?_ | refine sp_skip ?_ | refine sp_ret ?_ | refine sp_exit ?_ | ((with_reducible refine k_blk_out ?_ ?_); (focus decide)) | ((with_reducible refine s_cond_t ?_ ?_); (focus (simp [*]; done))) | ((with_reducible refine s_cond_f ?_ ?_); (focus (simp [*]; done))) | (focus ((with_reducible refine s_region2 (q := ?_) (σ' := ?_) TT_ok PT50_ok ?_ ?_ ?_); rotate_left 2; (focus (first | (simp; exact Eq.refl _) | exact Eq.refl _)); (focus ((repeat (((with_reducible refine runL_cons (σ1 := ?_) ?_ ?_); rotate_left; (focus (simp [*]; rfl))))); (exact runL_nil))))) | (focus ((with_reducible refine s_draw2 (q := ?_) (es := ?_) (σ' := ?_) prog_mixed TT_ok PT50_ok ?_ ?_ ?_ ?_); rotate_left 3; (focus (first | (simp; exact Eq.refl _) | exact Eq.refl _)); (focus ((repeat (((with_reducible refine runE_cons (e := ?_) (σ1 := ?_) (es := ?_) ?_ ?_ ?_); rotate_left 3; (focus (simp [*]; exact Eq.refl _)); (focus (simp; exact Eq.refl _))))); (exact runE_nil))); (focus (first | kernel_rfl | decide)))))
        ((refine post_ret (av := ?_) (by first | exact .inl rfl | exact .inr rfl) (show (Try.f13).results.toList = _ from by rw [Try.results13]) ?_ ?_); rotate_left; (focus (simp [retA, retL, ret1, lk, st, ldA, AV.cell]; rfl)); (try simp [*]))
    · refine fn_sp TT_ok Try.func13 (c := _) rfl (by simp [Try.ntmps13]) (fun B hI0 hro => ?_)
      rw [Try.ntmps13]
      simp only [enumA]
      repeat (first | with_reducible first | refine s_seq ?_ | refine k_seq ?_ | refine k_seq_ret ?_ | refine k_seq_exit ?_ | refine k_blk ?_ | refine k_blk_ret ?_ | refine k_blk_exit ?_ | refine k_lp_ret ?_ | refine k_lp_exit ?_ | refine ki_lp_ret ?_ | refine ki_lp_exit ?_ | refine s_block ?_ | refine sp_skip ?_ | refine sp_ret ?_ | refine sp_exit ?_ | ((with_reducible refine k_blk_out ?_ ?_); (focus decide)) | ((with_reducible refine s_cond_t ?_ ?_); (focus (simp [*]; done))) | ((with_reducible refine s_cond_f ?_ ?_); (focus (simp [*]; done))) | (focus ((with_reducible refine s_region2 (q := ?_) (σ' := ?_) TT_ok PT50_ok ?_ ?_ ?_); rotate_left 2; (focus (first | (simp; exact Eq.refl _) | exact Eq.refl _)); (focus ((repeat (((with_reducible refine runL_cons (σ1 := ?_) ?_ ?_); rotate_left; (focus (simp [*]; rfl))))); (exact runL_nil))))) | (focus ((with_reducible refine s_draw2 (q := ?_) (es := ?_) (σ' := ?_) prog_mixed TT_ok PT50_ok ?_ ?_ ?_ ?_); rotate_left 3; (focus (first | (simp; exact Eq.refl _) | exact Eq.refl _)); (focus ((repeat (((with_reducible refine runE_cons (e := ?_) (σ1 := ?_) (es := ?_) ?_ ?_ ?_); rotate_left 3; (focus (simp [*]; exact Eq.refl _)); (focus (simp; exact Eq.refl _))))); (exact runE_nil))); (focus (first | kernel_rfl | decide)))))
      ((refine post_ret (av := ?_) (by first | exact .inl rfl | exact .inr rfl) (show (Try.f13).results.toList = _ from by rw [Try.results13]) ?_ ?_); rotate_left; (focus (simp [retA, retL, ret1, lk, st, ldA, AV.cell]; rfl)); (try simp [*]))
  · refine fn_sp TT_ok Try.func13 (c := _) rfl (by simp [Try.ntmps13]) (fun B hI0 hro => ?_)
    rw [Try.ntmps13]
    simp only [enumA]
    repeat (first | with_reducible first | refine s_seq ?_ | refine k_seq ?_ | refine k_seq_ret ?_ | refine k_seq_exit ?_ | refine k_blk ?_ | refine k_blk_ret ?_ | refine k_blk_exit ?_ | refine k_lp_ret ?_ | refine k_lp_exit ?_ | refine ki_lp_ret ?_ | refine ki_lp_exit ?_ | refine s_block ?_ | refine sp_skip ?_ | refine sp_ret ?_ | refine sp_exit ?_ | ((with_reducible refine k_blk_out ?_ ?_); (focus decide)) | ((with_reducible refine s_cond_t ?_ ?_); (focus (simp [*]; done))) | ((with_reducible refine s_cond_f ?_ ?_); (focus (simp [*]; done))) | (focus ((with_reducible refine s_region2 (q := ?_) (σ' := ?_) TT_ok PT50_ok ?_ ?_ ?_); rotate_left 2; (focus (first | (simp; exact Eq.refl _) | exact Eq.refl _)); (focus ((repeat (((with_reducible refine runL_cons (σ1 := ?_) ?_ ?_); rotate_left; (focus (simp [*]; rfl))))); (exact runL_nil))))) | (focus ((with_reducible refine s_draw2 (q := ?_) (es := ?_) (σ' := ?_) prog_mixed TT_ok PT50_ok ?_ ?_ ?_ ?_); rotate_left 3; (focus (first | (simp; exact Eq.refl _) | exact Eq.refl _)); (focus ((repeat (((with_reducible refine runE_cons (e := ?_) (σ1 := ?_) (es := ?_) ?_ ?_ ?_); rotate_left 3; (focus (simp [*]; exact Eq.refl _)); (focus (simp; exact Eq.refl _))))); (exact runE_nil))); (focus (first | kernel_rfl | decide)))))
    ((refine post_ret (av := ?_) (by first | exact .inl rfl | exact .inr rfl) (show (Try.f13).results.toList = _ from by rw [Try.results13]) ?_ ?_); rotate_left; (focus (simp [retA, retL, ret1, lk, st, ldA, AV.cell]; rfl)); (try simp [*]))
namespace theoryBoth
set_option maxRecDepth 100000 in
theorem lifted (os : Os) (started : os.Started) (H : Type) (enc : TypeId × Value → H) :
    ReturnsInHanded {} Try.checked os 13 .any (Rows.theoryBothSpec.pre6 enc Try.prog Go.Proofs.Try.f13 Rows.theoryBothRow.domain false) (Rows.theoryBothSpec.post enc Try.prog Go.Proofs.Try.f13 false true false false) := by
  refine returnsInHanded_of_change (C := Try.checked) (by kernel_rfl) started (by kernel_rfl) Try.func13
    (ChangeSpec.witness6 (enc := enc) (C := Try.checked) false ⟨#[], #[.agg #[.int .i64 0, .slice none 0 0], .agg #[.int .i64 0, .slice none 0 0], .int .u8 0, .int .u8 0], []⟩ 8 (by kernel_rfl) (by kernel_rfl) (by kernel_rfl) (by kernel_rfl)) ?_
  intro W base args ds gs before hval0 hW hcnd _
  have hval : ∀ (j : Nat) t v, (Go.Proofs.Try.f13).params[j]? = some t → args[j]? = some v → Value.okWide Try.prog W .any base t v := hval0
  have hW2 := hW
  obtain ⟨p, q, hA0, hV, _, _, _⟩ := hW
  have hA : DataW.TrodAll enc Try.prog W 0 (fun _ => true) true (Go.Proofs.Try.f13).params.toList args.toList ds p := hA0
  rw [Try.params13] at hA hval
  clear hA0 hval0 hcnd
  obtain ⟨rfl, _⟩ := trodVars_none hV
  obtain ⟨v0, vs0, d0, ds0, p0, q0, hargs, rfl, _, h0, r0⟩ := trodAll_cons hA
  obtain ⟨v1, vs1, d1, ds1, p1, q1, rfl, rfl, _, h1, r1⟩ := trodAll_cons r0
  obtain ⟨v2, vs2, d2, ds2, p2, q2, rfl, rfl, _, h2, r2⟩ := trodAll_cons r1
  obtain ⟨v3, vs3, d3, ds3, p3, q3, rfl, rfl, _, h3, r3⟩ := trodAll_cons r2
  obtain ⟨rfl, rfl, _⟩ := trodAll_nil r3
  obtain rfl : args = #[v0, v1, v2, v3] := by cases args; simp_all
  obtain ⟨N, L, ra0, oN0, oL0⟩ := arg_th (hval 0 _ v0 rfl rfl) h0
  obtain ⟨M, K, ra1, oN1, oL1⟩ := arg_th (hval 1 _ v1 rfl rfl) h1
  obtain ⟨n, ra2, l2, u2⟩ := arg_u8 (hval 2 _ v2 rfl rfl) h2
  obtain ⟨m, ra3, l3, u3⟩ := arg_u8 (hval 3 _ v3 rfl rfl) h3
  refine law_of_pure (glob0 _) (avs := [.agg [.v (.int .i64 N), aRows L], .agg [.v (.int .i64 M), aRows K], .v (.int .u8 n), .v (.int .u8 m)]) (by kernel_rfl) hW2 rfl (rec_ok (by kernel_rfl)) (tb := 4) rfl Try.underlying4 rfl rfl rfl rfl (fun i hi => ?_) (theoryBoth_p N L M K n m oN0 oN1 oL0 oL1 l2 u2 l3 u3)
  match i, hi with
  | 0, _ => exact ra0
  | 1, _ => exact ra1
  | 2, _ => exact ra2
  | 3, _ => exact ra3
theorem proved : Rows.TheoryBothSaid :=
  OpenClaim.holds_of_wide 13 Go.Proofs.Try.f13 rfl rfl rfl rfl rfl rfl rfl ⟨rfl, rfl, rfl, rfl, rfl⟩ rfl rfl rfl rfl rfl (by kernel_rfl) Try.func13 (by kernel_rfl)
    (of_decide_eq_true (by kernel_rfl)) (by unfold Func.isWrapper; first | (rw [if_pos (by decide +kernel)]; kernel_rfl) | (rw [if_neg (by decide +kernel)]; exact ⟨rfl, rfl⟩))
    (fun os started H enc _ => lifted os started H enc)
end theoryBoth
end Go.Proofs.Ytkollnaojpppcaa
