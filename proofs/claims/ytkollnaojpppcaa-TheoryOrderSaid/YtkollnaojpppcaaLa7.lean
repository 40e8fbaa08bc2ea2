/- The law TheoryOrder, by the abstract machine; no condition. -/
import Derived.Test.YtkollnaojpppcaaLa1
import Derived.Test.YtkollnaojpppcaaPl5
import Derived.Test.YtkollnaojpppcaaRows
namespace Go.Proofs.Ytkollnaojpppcaa
set_option linter.unusedVariables false
set_option linter.unusedSimpArgs false
set_option linter.unusedSectionVars false
open Go.ChangeShapes Go.WideShapes Go.ChangeAt Go.RowKit
attribute [local simp] List.getD_cons_zero List.getD_cons_succ List.getD_nil undef gvars runL runE effA stepA dstOk wantA core lk st dl AS.ev AS.evs AS.put AS.upd updO updI nxt cPick cAlloc cBox cBuild cBuildS cLoad cStore cNil plainOf cBin cNilS isNilS nilA cUn cConvX cConvB cConv bytesOf rowB cMake cSlice slA idxA cFA cF cIA cIX cIS cI cExt cLen cApp cMM cFun cCall lenA lenM isNilM nilM cNilM cMakeM hintB cMapK cLook foundR lookR cUpd putM cDel delM findA isKeyB Instr.sameNow AS.entry AS.bound AS.callee sc1 sc2 ixOk ldA AV.flat AV.cell AV.cells Value.oneCell' fillA spl chunk zeros AS.parts AS.rows AS.shut AS.shut1 AS.shut2 AS.shutL AS.shutM AV.ids idsL idsLL eqAll bndA AV.scalar AV.scalar1 AV.isV Ef.app Ef.pk ptOf pntO wrO wr
attribute [-simp] List.getD_eq_getElem?_getD
set_option maxRecDepth 100000
set_option maxHeartbeats 4000000 in
theorem theoryOrder_p (N : Int) (L : List (List Int)) (n : Int) (tu : Int) (hN : okI N = true) (hL : okLens L = true) (n0 : 0 ≤ n) (n1 : n ≤ 255) (u0 : 0 ≤ tu) (u1 : tu ≤ 255) : FnPure Try.prog 8 [aTh N L, .v (.int .u8 n), .v (.int .u8 tu)] (.v (.bool true)) := by
  unfold aTh
  by_cases hl : lightB L = true
  · have hr := light_rows hL hl
    refine fn_sp TT_ok Try.func8 (c := _) rfl (by simp [Try.ntmps8]) (fun B hI0 hro => ?_)
    rw [Try.ntmps8]
    simp only [enumA]
    repeat (first | with_reducible first | refine s_seq ?_ | refine k_seq ?_ | refine k_seq_ret ?_ | refine k_seq_exit ?_ | refine k_blk ?_ | refine k_blk_ret ?_ | refine k_blk_exit ?_ | refine k_lp_ret ?_ | refine k_lp_exit ?_ | refine ki_lp_ret ?_ | refine ki_lp_exit ?_ | refine s_block ?_ | refine sp_skip ?_ | refine sp_ret ?_ | refine sp_exit ?_ | ((with_reducible refine k_blk_out ?_ ?_); (focus decide)) | ((with_reducible refine s_cond_t ?_ ?_); (focus (simp [*]; done))) | ((with_reducible refine s_cond_f ?_ ?_); (focus (simp [*]; done))) | (focus ((with_reducible refine s_region2 (q := ?_) (σ' := ?_) TT_ok PT50_ok ?_ ?_ ?_); rotate_left 2; (focus (first | (simp; exact Eq.refl _) | exact Eq.refl _)); (focus ((repeat (((with_reducible refine runL_cons (σ1 := ?_) ?_ ?_); rotate_left; (focus (simp [*]; rfl))))); (exact runL_nil))))) | (focus ((with_reducible refine s_draw2 (q := ?_) (es := ?_) (σ' := ?_) prog_mixed TT_ok PT50_ok ?_ ?_ ?_ ?_); rotate_left 3; (focus (first | (simp; exact Eq.refl _) | exact Eq.refl _)); (focus ((repeat (((with_reducible refine runE_cons (e := ?_) (σ1 := ?_) (es := ?_) ?_ ?_ ?_); rotate_left 3; (focus (simp [*]; exact Eq.refl _)); (focus (simp; exact Eq.refl _))))); (exact runE_nil))); (focus (first | kernel_rfl | decide)))))
    (focus ((with_reducible refine sp_cond (b := ?_) ?_ (fun hc => ?_) (fun hc => ?_)); rotate_left; (focus (first | rfl | (simp [lk, AS.ev]; rfl))); all_goals (try simp at hc)))
    · repeat (first | with_reducible first | refine s_seq ?_ | refine k_seq ?_ | refine k_seq_ret ?_ | refine k_seq_exit ?_ | refine k_blk ?_ | refine k_blk_ret ?_ | refine k_blk_exit ?_ | refine k_lp_ret ?_ | refine k_lp_exit ?_ | refine ki_lp_ret ?_ | refine ki_lp_exit ?_ | refine s_block ?_ | refine sp_skip ?_ | refine sp_ret ?_ | refine sp_exit ?_ | ((with_reducible refine k_blk_out ?_ ?_); (focus decide)) | ((with_reducible refine s_cond_t ?_ ?_); (focus (simp [*]; done))) | ((with_reducible refine s_cond_f ?_ ?_); (focus (simp [*]; done))) | (focus ((with_reducible refine s_region2 (q := ?_) (σ' := ?_) TT_ok PT50_ok ?_ ?_ ?_); rotate_left 2; (focus (first | (simp; exact Eq.refl _) | exact Eq.refl _)); (focus ((repeat (((with_reducible refine runL_cons (σ1 := ?_) ?_ ?_); rotate_left; (focus (simp [*]; rfl))))); (exact runL_nil))))) | (focus ((with_reducible refine s_draw2 (q := ?_) (es := ?_) (σ' := ?_) prog_mixed TT_ok PT50_ok ?_ ?_ ?_ ?_); rotate_left 3; (focus (first | (simp; exact Eq.refl _) | exact Eq.refl _)); (focus ((repeat (((with_reducible refine runE_cons (e := ?_) (σ1 := ?_) (es := ?_) ?_ ?_ ?_); rotate_left 3; (focus (simp [*]; exact Eq.refl _)); (focus (simp; exact Eq.refl _))))); (exact runE_nil))); (focus (first | kernel_rfl | decide)))))
      ((refine post_ret (av := ?_) (by first | exact .inl rfl | exact .inr rfl) (show (Try.f8).results.toList = _ from by rw [Try.results8]) ?_ ?_); rotate_left; (focus (simp [retA, retL, ret1, lk, st, ldA, AV.cell]; rfl)); (try simp [*]))
    · have hl30 : ¬ 30 < L.length := by omega
      clear hc
      have hmod : n.tmod 21 = n % 21 := Int.tmod_eq_emod_of_nonneg n0
      have q0 : 0 ≤ n % 21 := by omega
      have q1 : n % 21 ≤ 20 := by omega
      generalize n % 21 = q at hmod q0 q1
      have hw1 : IntKind.u8.wrap q = q := by rw [show IntKind.u8.wrap q = q % 256 from rfl]; omega
      have hw2 : IntKind.i64.wrap q = q := i64w (by omega) (by omega)
      have hq : okI q = true := okI_iff.2 ⟨by omega, by omega⟩
      have hfk : fewOk q L = true := fewOk_iff.2 ⟨by omega, q0, by omega⟩
      have hz := fewT_check (n := q) (L := L) q0 (by omega) (by omega)
      have hT100 : ∀ c ∈ fewT q L, c.length ≤ 100 := fun c hc => by
        unfold fewT at hc
        obtain ⟨d, _, rfl⟩ := List.mem_map.1 hc
        exact (fewC_ok (by omega) d).1
      have hTl : (fewT q L).length = L.length := by unfold fewT; simp
      obtain ⟨T, hT⟩ : ∃ T, fewT q L = T := ⟨_, rfl⟩
      rw [hT] at hz hT100 hTl
      have hfe : aTh q T = .agg [.v (.int .i64 q), aRows T] := rfl
      have hTr := okRows_check hz
      have h30 : T.length ≤ 30 := by omega
      clear hTl
      repeat (first | with_reducible first | refine s_seq ?_ | refine k_seq ?_ | refine k_seq_ret ?_ | refine k_seq_exit ?_ | refine k_blk ?_ | refine k_blk_ret ?_ | refine k_blk_exit ?_ | refine k_lp_ret ?_ | refine k_lp_exit ?_ | refine ki_lp_ret ?_ | refine ki_lp_exit ?_ | refine s_block ?_ | refine sp_skip ?_ | refine sp_ret ?_ | refine sp_exit ?_ | ((with_reducible refine k_blk_out ?_ ?_); (focus decide)) | ((with_reducible refine s_cond_t ?_ ?_); (focus (simp [*]; done))) | ((with_reducible refine s_cond_f ?_ ?_); (focus (simp [*]; done))) | (focus ((with_reducible refine s_region2 (q := ?_) (σ' := ?_) TT_ok PT50_ok ?_ ?_ ?_); rotate_left 2; (focus (first | (simp; exact Eq.refl _) | exact Eq.refl _)); (focus ((repeat (((with_reducible refine runL_cons (σ1 := ?_) ?_ ?_); rotate_left; (focus (simp [*]; rfl))))); (exact runL_nil))))) | (focus ((with_reducible refine s_draw2 (q := ?_) (es := ?_) (σ' := ?_) prog_mixed TT_ok PT50_ok ?_ ?_ ?_ ?_); rotate_left 3; (focus (first | (simp; exact Eq.refl _) | exact Eq.refl _)); (focus ((repeat (((with_reducible refine runE_cons (e := ?_) (σ1 := ?_) (es := ?_) ?_ ?_ ?_); rotate_left 3; (focus (simp [*]; exact Eq.refl _)); (focus (simp; exact Eq.refl _))))); (exact runE_nil))); (focus (first | kernel_rfl | decide)))))
      refine s_cnil 4 0 1 40 38 1 rfl rfl (by simp) ?_ (by decide)
      (refine s_eq (τ := ?_) ?_ ?_; rotate_left; (focus ((try simp only [AS.frz, List.map_cons, List.map_nil]); (try simp [frzV, frzO, frzC, List.filter]); rfl)))
      obtain ⟨u, rfl⟩ := Int.eq_ofNat_of_zero_le u0
      refine s_loop (J := fun i : {x : Nat × List (List Int) // OrP T u x.1 x.2} => ⟨135, [(2, .v (.int .u8 (u : Int))), (3, .ptr 0 0 0), (7, .ptr 4 0 0), (36, .v (.int .i64 (T.length : Int))), (37, .v (.int .i64 (i.1.1 : Int)))], [(40, ⟨38, 1, i.1.2.map fun xs => [aInts xs]⟩), (0, ⟨24, 2, [[.v (.int .i64 q), aRows T]]⟩), (4, ⟨24, 2, [[.v (.int .i64 q), .ref 40 0 i.1.2.length]]⟩)], [40, 4, 0]⟩) (μ := fun i => T.length - i.1.1) ⟨(0, []), OrP.zero T u⟩ ?_ (fun ⟨(k, U), hP⟩ => ?_)
      · (refine weak_id rfl ?_ ?_ <;> ((try simp only [List.mem_cons, List.not_mem_nil, or_false, forall_eq_or_imp, forall_eq]); (try simp (disch := omega) [i64w, *])))
      have e1 := hP.hk
      have e2 := hP.len
      dsimp only at hP e1 e2 ⊢
      replace e2 : U.length ≤ 60 := by omega
      have c1 : (U.length + 2) * 24 ≤ 140737488355328 := by omega
      repeat (first | with_reducible first | refine s_seq ?_ | refine k_seq ?_ | refine k_seq_ret ?_ | refine k_seq_exit ?_ | refine k_blk ?_ | refine k_blk_ret ?_ | refine k_blk_exit ?_ | refine k_lp_ret ?_ | refine k_lp_exit ?_ | refine ki_lp_ret ?_ | refine ki_lp_exit ?_ | refine s_block ?_ | refine sp_skip ?_ | refine sp_ret ?_ | refine sp_exit ?_ | ((with_reducible refine k_blk_out ?_ ?_); (focus decide)) | ((with_reducible refine s_cond_t ?_ ?_); (focus (simp [*]; done))) | ((with_reducible refine s_cond_f ?_ ?_); (focus (simp [*]; done))) | (focus ((with_reducible refine s_region2 (q := ?_) (σ' := ?_) TT_ok PT50_ok ?_ ?_ ?_); rotate_left 2; (focus (first | (simp; exact Eq.refl _) | exact Eq.refl _)); (focus ((repeat (((with_reducible refine runL_cons (σ1 := ?_) ?_ ?_); rotate_left; (focus (simp [*]; rfl))))); (exact runL_nil))))) | (focus ((with_reducible refine s_draw2 (q := ?_) (es := ?_) (σ' := ?_) prog_mixed TT_ok PT50_ok ?_ ?_ ?_ ?_); rotate_left 3; (focus (first | (simp; exact Eq.refl _) | exact Eq.refl _)); (focus ((repeat (((with_reducible refine runE_cons (e := ?_) (σ1 := ?_) (es := ?_) ?_ ?_ ?_); rotate_left 3; (focus (simp [*]; exact Eq.refl _)); (focus (simp; exact Eq.refl _))))); (exact runE_nil))); (focus (first | kernel_rfl | decide)))))
      (focus ((with_reducible refine sp_cond (b := ?_) ?_ (fun hc => ?_) (fun hc => ?_)); rotate_left; (focus (first | rfl | (simp [lk, AS.ev]; rfl))); all_goals (try simp at hc)))
      · have hkk := hc
        clear hc
        have f1 : IntKind.i64.wrap (u : Int) = u := i64w (by omega) (by omega)
        have f2 : IntKind.i64.wrap ((k : Int) + u) = (k : Int) + u := i64w (by omega) (by omega)
        have f3 : ((k : Int) + u).tmod T.length = (((k + u) % T.length : Nat) : Int) := by
          rw [Int.tmod_eq_emod_of_nonneg (by omega)]; norm_cast
        have f4 : (k + u) % T.length < T.length := Nat.mod_lt _ (by omega)
        obtain ⟨m, hm⟩ : ∃ m, (k + u) % T.length = m := ⟨_, rfl⟩
        rw [hm] at f3 f4
        have f5 : IntKind.i64.wrap (m : Int) = m := i64w (by omega) (by omega)
        have f6 : T.length ≠ 0 := by omega
        have hci := okRows_at hTr m
        have hcl := hT100 _ (getD_memL f4)
        have c2 : (T.getD m []).length * 8 ≤ 140737488355328 := by omega
        repeat (first | with_reducible first | refine s_seq ?_ | refine k_seq ?_ | refine k_seq_ret ?_ | refine k_seq_exit ?_ | refine k_blk ?_ | refine k_blk_ret ?_ | refine k_blk_exit ?_ | refine k_lp_ret ?_ | refine k_lp_exit ?_ | refine ki_lp_ret ?_ | refine ki_lp_exit ?_ | refine s_block ?_ | refine sp_skip ?_ | refine sp_ret ?_ | refine sp_exit ?_ | ((with_reducible refine k_blk_out ?_ ?_); (focus decide)) | ((with_reducible refine s_cond_t ?_ ?_); (focus (simp [*]; done))) | ((with_reducible refine s_cond_f ?_ ?_); (focus (simp [*]; done))) | (focus ((with_reducible refine s_region2 (q := ?_) (σ' := ?_) TT_ok PT50_ok ?_ ?_ ?_); rotate_left 2; (focus (first | (simp; exact Eq.refl _) | exact Eq.refl _)); (focus ((repeat (((with_reducible refine runL_cons (σ1 := ?_) ?_ ?_); rotate_left; (focus (simp [*]; rfl))))); (exact runL_nil))))) | (focus ((with_reducible refine s_draw2 (q := ?_) (es := ?_) (σ' := ?_) prog_mixed TT_ok PT50_ok ?_ ?_ ?_ ?_); rotate_left 3; (focus (first | (simp; exact Eq.refl _) | exact Eq.refl _)); (focus ((repeat (((with_reducible refine runE_cons (e := ?_) (σ1 := ?_) (es := ?_) ?_ ?_ ?_); rotate_left 3; (focus (simp [*]; exact Eq.refl _)); (focus (simp; exact Eq.refl _))))); (exact runE_nil))); (focus (first | kernel_rfl | decide)))))
        refine s_loop (J := fun i : {j : Nat // j ≤ (T.getD m []).length} => ⟨135, [(2, .v (.int .u8 (u : Int))), (3, .ptr 0 0 0), (7, .ptr 4 0 0), (9, aInts (T.getD m [])), (10, .ref 43 0 (revK (T.getD m []) i.1).length), (36, .v (.int .i64 (T.length : Int))), (37, .v (.int .i64 (k : Int))), (56, .v (.int .i64 ((T.getD m []).length : Int))), (57, .v (.int .i64 (i.1 : Int)))], [(43, ⟨3, 1, (revK (T.getD m []) i.1).map fun x => [.v (.int .i64 x)]⟩), (40, ⟨38, 1, U.map fun xs => [aInts xs]⟩), (0, ⟨24, 2, [[.v (.int .i64 q), aRows T]]⟩), (4, ⟨24, 2, [[.v (.int .i64 q), .ref 40 0 U.length]]⟩)], [43, 40, 4, 0]⟩) (μ := fun i => (T.getD m []).length - i.1) ⟨0, Nat.zero_le _⟩ ?_ (fun ⟨j, hj⟩ => ?_)
        · have hr0 := revK_zero (T.getD m [])
          (refine weak_id rfl ?_ ?_ <;> ((try simp only [List.mem_cons, List.not_mem_nil, or_false, forall_eq_or_imp, forall_eq]); (try simp (disch := omega) [i64w, *])))
        have hrl := revK_len (T.getD m []) j
        repeat (first | with_reducible first | refine s_seq ?_ | refine k_seq ?_ | refine k_seq_ret ?_ | refine k_seq_exit ?_ | refine k_blk ?_ | refine k_blk_ret ?_ | refine k_blk_exit ?_ | refine k_lp_ret ?_ | refine k_lp_exit ?_ | refine ki_lp_ret ?_ | refine ki_lp_exit ?_ | refine s_block ?_ | refine sp_skip ?_ | refine sp_ret ?_ | refine sp_exit ?_ | ((with_reducible refine k_blk_out ?_ ?_); (focus decide)) | ((with_reducible refine s_cond_t ?_ ?_); (focus (simp [*]; done))) | ((with_reducible refine s_cond_f ?_ ?_); (focus (simp [*]; done))) | (focus ((with_reducible refine s_region2 (q := ?_) (σ' := ?_) TT_ok PT50_ok ?_ ?_ ?_); rotate_left 2; (focus (first | (simp; exact Eq.refl _) | exact Eq.refl _)); (focus ((repeat (((with_reducible refine runL_cons (σ1 := ?_) ?_ ?_); rotate_left; (focus (simp [*]; rfl))))); (exact runL_nil))))) | (focus ((with_reducible refine s_draw2 (q := ?_) (es := ?_) (σ' := ?_) prog_mixed TT_ok PT50_ok ?_ ?_ ?_ ?_); rotate_left 3; (focus (first | (simp; exact Eq.refl _) | exact Eq.refl _)); (focus ((repeat (((with_reducible refine runE_cons (e := ?_) (σ1 := ?_) (es := ?_) ?_ ?_ ?_); rotate_left 3; (focus (simp [*]; exact Eq.refl _)); (focus (simp; exact Eq.refl _))))); (exact runE_nil))); (focus (first | kernel_rfl | decide)))))
        (focus ((with_reducible refine sp_cond (b := ?_) ?_ (fun hc => ?_) (fun hc => ?_)); rotate_left; (focus (first | rfl | (simp [lk, AS.ev]; rfl))); all_goals (try simp at hc)))
        · have hjj := hc
          clear hc
          have hs := revK_succ hjj
          obtain ⟨p, hp⟩ : ∃ p, (T.getD m []).length - 1 - j = p := ⟨_, rfl⟩
          rw [hp] at hs
          have g1 : IntKind.i64.wrap (((T.getD m []).length : Int) - 1) = ((T.getD m []).length : Int) - 1 := i64w (by omega) (by omega)
          have g2 : ((T.getD m []).length : Int) - 1 - j = p := by omega
          have g3 : IntKind.i64.wrap (p : Int) = p := i64w (by omega) (by omega)
          have g4 : p < (T.getD m []).length := by omega
          repeat (first | with_reducible first | refine s_seq ?_ | refine k_seq ?_ | refine k_seq_ret ?_ | refine k_seq_exit ?_ | refine k_blk ?_ | refine k_blk_ret ?_ | refine k_blk_exit ?_ | refine k_lp_ret ?_ | refine k_lp_exit ?_ | refine ki_lp_ret ?_ | refine ki_lp_exit ?_ | refine s_block ?_ | refine sp_skip ?_ | refine sp_ret ?_ | refine sp_exit ?_ | ((with_reducible refine k_blk_out ?_ ?_); (focus decide)) | ((with_reducible refine s_cond_t ?_ ?_); (focus (simp [*]; done))) | ((with_reducible refine s_cond_f ?_ ?_); (focus (simp [*]; done))) | (focus ((with_reducible refine s_region2 (q := ?_) (σ' := ?_) TT_ok PT50_ok ?_ ?_ ?_); rotate_left 2; (focus (first | (simp; exact Eq.refl _) | exact Eq.refl _)); (focus ((repeat (((with_reducible refine runL_cons (σ1 := ?_) ?_ ?_); rotate_left; (focus (simp [*]; rfl))))); (exact runL_nil))))) | (focus ((with_reducible refine s_draw2 (q := ?_) (es := ?_) (σ' := ?_) prog_mixed TT_ok PT50_ok ?_ ?_ ?_ ?_); rotate_left 3; (focus (first | (simp; exact Eq.refl _) | exact Eq.refl _)); (focus ((repeat (((with_reducible refine runE_cons (e := ?_) (σ1 := ?_) (es := ?_) ?_ ?_ ?_); rotate_left 3; (focus (simp [*]; exact Eq.refl _)); (focus (simp; exact Eq.refl _))))); (exact runE_nil))); (focus (first | kernel_rfl | decide)))))
          refine k_lp (⟨j + 1, by omega⟩ : {j : Nat // j ≤ (T.getD m []).length}) (by (try dsimp only); omega) ?_
          (refine weak_id rfl ?_ ?_ <;> ((try simp only [List.mem_cons, List.not_mem_nil, or_false, forall_eq_or_imp, forall_eq]); (try simp (disch := omega) [i64w, *])))
          · exact (revK_len _ _).symm
          · rw [← hs, List.map_set]
        · obtain rfl : j = (T.getD m []).length := by omega
          clear hc
          have hmem := revK_mem (T.getD m [])
          repeat (first
            | with_reducible refine s_seq ?_
            | with_reducible refine k_seq ?_
            | with_reducible refine k_seq_ret ?_
            | with_reducible refine k_seq_exit ?_
            | with_reducible refine k_blk ?_
            | with_reducible refine k_blk_ret ?_
            | with_reducible refine k_blk_exit ?_
            | ((with_reducible refine k_blk_out ?_ ?_); (focus decide))
            | with_reducible refine k_lp_ret ?_
            | with_reducible refine k_lp_exit ?_
            | with_reducible refine ki_lp_ret ?_
            | with_reducible refine ki_lp_exit ?_
            | with_reducible refine s_block ?_
            | with_reducible refine sp_skip ?_
            | with_reducible refine sp_ret ?_
            | with_reducible refine sp_exit ?_
            | ((with_reducible refine s_cond_t ?_ ?_); (focus (simp [*]; done)))
            | ((with_reducible refine s_cond_f ?_ ?_); (focus (simp [*]; done))))
          obtain ⟨D, hD⟩ : ∃ D, revK (T.getD m []) (T.getD m []).length = D := ⟨_, rfl⟩
          rw [hD] at hmem hrl
          rw [hD, ← hrl]
          rw [← hrl] at hcl c2
          clear hD
          have hnx0 : OrP T u (k + 1) (U ++ [D, T.getD m []]) := by
            have := OrP.next hP hkk hT100 (d := D) (by omega) (by rw [hm]; exact hmem)
            rwa [hm] at this
          clear hrl
          by_cases h0 : D.length = 0
          · obtain rfl : D = [] := List.eq_nil_of_length_eq_zero h0
            refine s_frz (fun k => k == 43) ?_
            (refine s_eq (τ := ?_) ?_ ?_; rotate_left; (focus ((try simp only [AS.frz, List.map_cons, List.map_nil]); (try simp [frzV, frzO, frzC, List.filter]); rfl)))
            repeat (first | with_reducible first | refine s_seq ?_ | refine k_seq ?_ | refine k_seq_ret ?_ | refine k_seq_exit ?_ | refine k_blk ?_ | refine k_blk_ret ?_ | refine k_blk_exit ?_ | refine k_lp_ret ?_ | refine k_lp_exit ?_ | refine ki_lp_ret ?_ | refine ki_lp_exit ?_ | refine s_block ?_ | refine sp_skip ?_ | refine sp_ret ?_ | refine sp_exit ?_ | ((with_reducible refine k_blk_out ?_ ?_); (focus decide)) | ((with_reducible refine s_cond_t ?_ ?_); (focus (simp [*]; done))) | ((with_reducible refine s_cond_f ?_ ?_); (focus (simp [*]; done))) | (focus ((with_reducible refine s_region2 (q := ?_) (σ' := ?_) TT_ok PT50_ok ?_ ?_ ?_); rotate_left 2; (focus (first | (simp; exact Eq.refl _) | exact Eq.refl _)); (focus ((repeat (((with_reducible refine runL_cons (σ1 := ?_) ?_ ?_); rotate_left; (focus (simp [*]; rfl))))); (exact runL_nil))))) | (focus ((with_reducible refine s_draw2 (q := ?_) (es := ?_) (σ' := ?_) prog_mixed TT_ok PT50_ok ?_ ?_ ?_ ?_); rotate_left 3; (focus (first | (simp; exact Eq.refl _) | exact Eq.refl _)); (focus ((repeat (((with_reducible refine runE_cons (e := ?_) (σ1 := ?_) (es := ?_) ?_ ?_ ?_); rotate_left 3; (focus (simp [*]; exact Eq.refl _)); (focus (simp; exact Eq.refl _))))); (exact runE_nil))); (focus (first | kernel_rfl | decide)))))
            refine k_lp (⟨(k + 1, U ++ [[], T.getD m []]), hnx0⟩ : {x : Nat × List (List Int) // OrP T u x.1 x.2}) (by (try dsimp only); omega) ?_
            (refine weak_of (fun k => if k = 40 then 49 else k) ⟨rfl, ?_, ?_, ?_⟩ <;> ((try simp only [List.mem_cons, List.not_mem_nil, or_false, forall_eq_or_imp, forall_eq]); (try simp (disch := omega) [lk, AV.ids, idsL, idsLL, AV.ren, renL, renLL, i64w, *])))
            all_goals rfl
          · have hp1 : 0 < D.length := by omega
            have hp2 : (0 : Int) < (D.length : Int) := by omega
            by_cases h100 : D.length < 100
            · have hp3 : (D.length : Int) < 100 := by omega
              have c4 : (D.length + 1) * 8 ≤ 140737488355328 := by omega
              obtain ⟨v, hv⟩ : ∃ v, u % D.length = v := ⟨_, rfl⟩
              have g2 : (u : Int).tmod (D.length : Int) = (v : Int) := by
                rw [Int.tmod_eq_emod_of_nonneg (by omega), ← hv]; norm_cast
              have g3 : v < D.length := by rw [← hv]; exact Nat.mod_lt _ hp1
              have hxm : D.getD v 0 ∈ T.getD m [] := (hmem _).1 (getD_memI g3)
              obtain ⟨x, hx⟩ : ∃ x, D.getD v 0 = x := ⟨_, rfl⟩
              rw [hx] at hxm
              have hnx : OrP T u (k + 1) (U ++ [D ++ [x], T.getD m []]) := by
                have := OrP.next hP hkk hT100 (d := D ++ [x]) (by simp; omega) (by
                  rw [hm]; intro y; rw [List.mem_append, List.mem_singleton, hmem y]
                  exact ⟨fun h => h.elim id fun e => e ▸ hxm, fun h => .inl h⟩)
                rwa [hm] at this
              clear hv hmem hnx0 hxm
              (focus ((with_reducible refine s_region2 (q := ?_) (σ' := ?_) TT_ok PT50_ok ?_ ?_ ?_); rotate_left 2; (focus (first | (simp; exact Eq.refl _) | exact Eq.refl _)); (focus ((repeat (((with_reducible refine runL_cons (σ1 := ?_) ?_ ?_); rotate_left; (focus (simp [*]; rfl))))); (exact runL_nil)))))
              repeat (first
                | with_reducible refine s_seq ?_
                | with_reducible refine k_seq ?_
                | with_reducible refine k_seq_ret ?_
                | with_reducible refine k_seq_exit ?_
                | with_reducible refine k_blk ?_
                | with_reducible refine k_blk_ret ?_
                | with_reducible refine k_blk_exit ?_
                | ((with_reducible refine k_blk_out ?_ ?_); (focus decide))
                | with_reducible refine k_lp_ret ?_
                | with_reducible refine k_lp_exit ?_
                | with_reducible refine ki_lp_ret ?_
                | with_reducible refine ki_lp_exit ?_
                | with_reducible refine s_block ?_
                | with_reducible refine sp_skip ?_
                | with_reducible refine sp_ret ?_
                | with_reducible refine sp_exit ?_
                | ((with_reducible refine s_cond_t ?_ ?_); (focus (simp [*]; done)))
                | ((with_reducible refine s_cond_f ?_ ?_); (focus (simp [*]; done))))
              (focus ((with_reducible refine s_region2 (q := ?_) (σ' := ?_) TT_ok PT50_ok ?_ ?_ ?_); rotate_left 2; (focus (first | (simp; exact Eq.refl _) | exact Eq.refl _)); (focus ((repeat (((with_reducible refine runL_cons (σ1 := ?_) ?_ ?_); rotate_left; (focus (simp [*]; rfl))))); (exact runL_nil)))))
              repeat (first
                | with_reducible refine s_seq ?_
                | with_reducible refine k_seq ?_
                | with_reducible refine k_seq_ret ?_
                | with_reducible refine k_seq_exit ?_
                | with_reducible refine k_blk ?_
                | with_reducible refine k_blk_ret ?_
                | with_reducible refine k_blk_exit ?_
                | ((with_reducible refine k_blk_out ?_ ?_); (focus decide))
                | with_reducible refine k_lp_ret ?_
                | with_reducible refine k_lp_exit ?_
                | with_reducible refine ki_lp_ret ?_
                | with_reducible refine ki_lp_exit ?_
                | with_reducible refine s_block ?_
                | with_reducible refine sp_skip ?_
                | with_reducible refine sp_ret ?_
                | with_reducible refine sp_exit ?_
                | ((with_reducible refine s_cond_t ?_ ?_); (focus (simp [*]; done)))
                | ((with_reducible refine s_cond_f ?_ ?_); (focus (simp [*]; done))))
              have hfold : (D.map fun x => [AV.v (.int .i64 x)]) ++ [[.v (.int .i64 x)]] = (D ++ [x]).map fun x => [AV.v (.int .i64 x)] := by simp
              have hfl : D.length + 1 = (D ++ [x]).length := by simp
              rw [hfold, hfl]
              clear hfold hfl
              generalize D ++ [x] = E at hnx ⊢
              refine s_frz (fun k => k == 54 || k == 53) ?_
              (refine s_eq (τ := ?_) ?_ ?_; rotate_left; (focus ((try simp only [AS.frz, List.map_cons, List.map_nil]); (try simp [frzV, frzO, frzC, List.filter]); rfl)))
              repeat (first | with_reducible first | refine s_seq ?_ | refine k_seq ?_ | refine k_seq_ret ?_ | refine k_seq_exit ?_ | refine k_blk ?_ | refine k_blk_ret ?_ | refine k_blk_exit ?_ | refine k_lp_ret ?_ | refine k_lp_exit ?_ | refine ki_lp_ret ?_ | refine ki_lp_exit ?_ | refine s_block ?_ | refine sp_skip ?_ | refine sp_ret ?_ | refine sp_exit ?_ | ((with_reducible refine k_blk_out ?_ ?_); (focus decide)) | ((with_reducible refine s_cond_t ?_ ?_); (focus (simp [*]; done))) | ((with_reducible refine s_cond_f ?_ ?_); (focus (simp [*]; done))) | (focus ((with_reducible refine s_region2 (q := ?_) (σ' := ?_) TT_ok PT50_ok ?_ ?_ ?_); rotate_left 2; (focus (first | (simp; exact Eq.refl _) | exact Eq.refl _)); (focus ((repeat (((with_reducible refine runL_cons (σ1 := ?_) ?_ ?_); rotate_left; (focus (simp [*]; rfl))))); (exact runL_nil))))) | (focus ((with_reducible refine s_draw2 (q := ?_) (es := ?_) (σ' := ?_) prog_mixed TT_ok PT50_ok ?_ ?_ ?_ ?_); rotate_left 3; (focus (first | (simp; exact Eq.refl _) | exact Eq.refl _)); (focus ((repeat (((with_reducible refine runE_cons (e := ?_) (σ1 := ?_) (es := ?_) ?_ ?_ ?_); rotate_left 3; (focus (simp [*]; exact Eq.refl _)); (focus (simp; exact Eq.refl _))))); (exact runE_nil))); (focus (first | kernel_rfl | decide)))))
              refine k_lp (⟨(k + 1, U ++ [E, T.getD m []]), hnx⟩ : {x : Nat × List (List Int) // OrP T u x.1 x.2}) (by (try dsimp only); omega) ?_
              (refine weak_of (fun k => if k = 40 then 60 else k) ⟨rfl, ?_, ?_, ?_⟩ <;> ((try simp only [List.mem_cons, List.not_mem_nil, or_false, forall_eq_or_imp, forall_eq]); (try simp (disch := omega) [lk, AV.ids, idsL, idsLL, AV.ren, renL, renLL, i64w, *])))
              all_goals rfl
            · have hp3 : ¬ (D.length : Int) < 100 := by omega
              refine s_frz (fun k => k == 43) ?_
              (refine s_eq (τ := ?_) ?_ ?_; rotate_left; (focus ((try simp only [AS.frz, List.map_cons, List.map_nil]); (try simp [frzV, frzO, frzC, List.filter]); rfl)))
              repeat (first | with_reducible first | refine s_seq ?_ | refine k_seq ?_ | refine k_seq_ret ?_ | refine k_seq_exit ?_ | refine k_blk ?_ | refine k_blk_ret ?_ | refine k_blk_exit ?_ | refine k_lp_ret ?_ | refine k_lp_exit ?_ | refine ki_lp_ret ?_ | refine ki_lp_exit ?_ | refine s_block ?_ | refine sp_skip ?_ | refine sp_ret ?_ | refine sp_exit ?_ | ((with_reducible refine k_blk_out ?_ ?_); (focus decide)) | ((with_reducible refine s_cond_t ?_ ?_); (focus (simp [*]; done))) | ((with_reducible refine s_cond_f ?_ ?_); (focus (simp [*]; done))) | (focus ((with_reducible refine s_region2 (q := ?_) (σ' := ?_) TT_ok PT50_ok ?_ ?_ ?_); rotate_left 2; (focus (first | (simp; exact Eq.refl _) | exact Eq.refl _)); (focus ((repeat (((with_reducible refine runL_cons (σ1 := ?_) ?_ ?_); rotate_left; (focus (simp [*]; rfl))))); (exact runL_nil))))) | (focus ((with_reducible refine s_draw2 (q := ?_) (es := ?_) (σ' := ?_) prog_mixed TT_ok PT50_ok ?_ ?_ ?_ ?_); rotate_left 3; (focus (first | (simp; exact Eq.refl _) | exact Eq.refl _)); (focus ((repeat (((with_reducible refine runE_cons (e := ?_) (σ1 := ?_) (es := ?_) ?_ ?_ ?_); rotate_left 3; (focus (simp [*]; exact Eq.refl _)); (focus (simp; exact Eq.refl _))))); (exact runE_nil))); (focus (first | kernel_rfl | decide)))))
              refine k_lp (⟨(k + 1, U ++ [D, T.getD m []]), hnx0⟩ : {x : Nat × List (List Int) // OrP T u x.1 x.2}) (by (try dsimp only); omega) ?_
              (refine weak_of (fun k => if k = 40 then 49 else k) ⟨rfl, ?_, ?_, ?_⟩ <;> ((try simp only [List.mem_cons, List.not_mem_nil, or_false, forall_eq_or_imp, forall_eq]); (try simp (disch := omega) [lk, AV.ids, idsL, idsLL, AV.ren, renL, renLL, i64w, *])))
              all_goals rfl
      · obtain rfl : k = T.length := by omega
        clear hc
        obtain ⟨hzU, hnU⟩ := hP.norm hz (by omega)
        have hUr := okRows_check hzU
        have hVz := normL_check hz
        have hVr := okRows_check hVz
        have hna : normA q T = .tup [.agg [.v (.int .i64 q), aRows (normL T)], .v (.int .i64 0)] := by unfold normA; rw [if_pos hz]; rfl
        have hnb : normA q U = .tup [.agg [.v (.int .i64 q), aRows (normL T)], .v (.int .i64 0)] := by unfold normA; rw [if_pos hzU, hnU]; rfl
        have hsm : smB q (normL T) q (normL T) = true := by simp [smB]
        refine s_frz (fun k => k == 40) ?_
        (refine s_eq (τ := ?_) ?_ ?_; rotate_left; (focus ((try simp only [AS.frz, List.map_cons, List.map_nil]); (try simp [frzV, frzO, frzC, List.filter]); rfl)))
        repeat (first | with_reducible first | refine s_seq ?_ | refine k_seq ?_ | refine k_seq_ret ?_ | refine k_seq_exit ?_ | refine k_blk ?_ | refine k_blk_ret ?_ | refine k_blk_exit ?_ | refine k_lp_ret ?_ | refine k_lp_exit ?_ | refine ki_lp_ret ?_ | refine ki_lp_exit ?_ | refine s_block ?_ | refine sp_skip ?_ | refine sp_ret ?_ | refine sp_exit ?_ | ((with_reducible refine k_blk_out ?_ ?_); (focus decide)) | ((with_reducible refine s_cond_t ?_ ?_); (focus (simp [*]; done))) | ((with_reducible refine s_cond_f ?_ ?_); (focus (simp [*]; done))) | (focus ((with_reducible refine s_region2 (q := ?_) (σ' := ?_) TT_ok PT50_ok ?_ ?_ ?_); rotate_left 2; (focus (first | (simp; exact Eq.refl _) | exact Eq.refl _)); (focus ((repeat (((with_reducible refine runL_cons (σ1 := ?_) ?_ ?_); rotate_left; (focus (simp [*]; rfl))))); (exact runL_nil))))) | (focus ((with_reducible refine s_draw2 (q := ?_) (es := ?_) (σ' := ?_) prog_mixed TT_ok PT50_ok ?_ ?_ ?_ ?_); rotate_left 3; (focus (first | (simp; exact Eq.refl _) | exact Eq.refl _)); (focus ((repeat (((with_reducible refine runE_cons (e := ?_) (σ1 := ?_) (es := ?_) ?_ ?_ ?_); rotate_left 3; (focus (simp [*]; exact Eq.refl _)); (focus (simp; exact Eq.refl _))))); (exact runE_nil))); (focus (first | kernel_rfl | decide)))))
        ((refine post_ret (av := ?_) (by first | exact .inl rfl | exact .inr rfl) (show (Try.f8).results.toList = _ from by rw [Try.results8]) ?_ ?_); rotate_left; (focus (simp [retA, retL, ret1, lk, st, ldA, AV.cell]; rfl)); (try simp [*]))
  · refine fn_sp TT_ok Try.func8 (c := _) rfl (by simp [Try.ntmps8]) (fun B hI0 hro => ?_)
    rw [Try.ntmps8]
    simp only [enumA]
    repeat (first | with_reducible first | refine s_seq ?_ | refine k_seq ?_ | refine k_seq_ret ?_ | refine k_seq_exit ?_ | refine k_blk ?_ | refine k_blk_ret ?_ | refine k_blk_exit ?_ | refine k_lp_ret ?_ | refine k_lp_exit ?_ | refine ki_lp_ret ?_ | refine ki_lp_exit ?_ | refine s_block ?_ | refine sp_skip ?_ | refine sp_ret ?_ | refine sp_exit ?_ | ((with_reducible refine k_blk_out ?_ ?_); (focus decide)) | ((with_reducible refine s_cond_t ?_ ?_); (focus (simp [*]; done))) | ((with_reducible refine s_cond_f ?_ ?_); (focus (simp [*]; done))) | (focus ((with_reducible refine s_region2 (q := ?_) (σ' := ?_) TT_ok PT50_ok ?_ ?_ ?_); rotate_left 2; (focus (first | (simp; exact Eq.refl _) | exact Eq.refl _)); (focus ((repeat (((with_reducible refine runL_cons (σ1 := ?_) ?_ ?_); rotate_left; (focus (simp [*]; rfl))))); (exact runL_nil))))) | (focus ((with_reducible refine s_draw2 (q := ?_) (es := ?_) (σ' := ?_) prog_mixed TT_ok PT50_ok ?_ ?_ ?_ ?_); rotate_left 3; (focus (first | (simp; exact Eq.refl _) | exact Eq.refl _)); (focus ((repeat (((with_reducible refine runE_cons (e := ?_) (σ1 := ?_) (es := ?_) ?_ ?_ ?_); rotate_left 3; (focus (simp [*]; exact Eq.refl _)); (focus (simp; exact Eq.refl _))))); (exact runE_nil))); (focus (first | kernel_rfl | decide)))))
    ((refine post_ret (av := ?_) (by first | exact .inl rfl | exact .inr rfl) (show (Try.f8).results.toList = _ from by rw [Try.results8]) ?_ ?_); rotate_left; (focus (simp [retA, retL, ret1, lk, st, ldA, AV.cell]; rfl)); (try simp [*]))
namespace theoryOrder
set_option maxRecDepth 100000 in
theorem lifted (os : Os) (started : os.Started) (H : Type) (enc : TypeId × Value → H) :
    ReturnsInHanded {} Try.checked os 8 .any (Rows.theoryOrderSpec.pre6 enc Try.prog Go.Proofs.Try.f8 Rows.theoryOrderRow.domain false) (Rows.theoryOrderSpec.post enc Try.prog Go.Proofs.Try.f8 false true false false) := by
  refine returnsInHanded_of_change (C := Try.checked) (by kernel_rfl) started (by kernel_rfl) Try.func8
    (ChangeSpec.witness6 (enc := enc) (C := Try.checked) false ⟨#[], #[.agg #[.int .i64 0, .slice none 0 0], .int .u8 0, .int .u8 0], []⟩ 8 (by kernel_rfl) (by kernel_rfl) (by kernel_rfl) (by kernel_rfl)) ?_
  intro W base args ds gs before hval0 hW hcnd _
  have hval : ∀ (j : Nat) t v, (Go.Proofs.Try.f8).params[j]? = some t → args[j]? = some v → Value.okWide Try.prog W .any base t v := hval0
  have hW2 := hW
  obtain ⟨p, q, hA0, hV, _, _, _⟩ := hW
  have hA : DataW.TrodAll enc Try.prog W 0 (fun _ => true) true (Go.Proofs.Try.f8).params.toList args.toList ds p := hA0
  rw [Try.params8] at hA hval
  clear hA0 hval0 hcnd
  obtain ⟨rfl, _⟩ := trodVars_none hV
  obtain ⟨v0, vs0, d0, ds0, p0, q0, hargs, rfl, _, h0, r0⟩ := trodAll_cons hA
  obtain ⟨v1, vs1, d1, ds1, p1, q1, rfl, rfl, _, h1, r1⟩ := trodAll_cons r0
  obtain ⟨v2, vs2, d2, ds2, p2, q2, rfl, rfl, _, h2, r2⟩ := trodAll_cons r1
  obtain ⟨rfl, rfl, _⟩ := trodAll_nil r2
  obtain rfl : args = #[v0, v1, v2] := by cases args; simp_all
  obtain ⟨N, L, ra0, oN0, oL0⟩ := arg_th (hval 0 _ v0 rfl rfl) h0
  obtain ⟨n, ra1, l1, u1⟩ := arg_u8 (hval 1 _ v1 rfl rfl) h1
  obtain ⟨tu, ra2, l2, u2⟩ := arg_u8 (hval 2 _ v2 rfl rfl) h2
  refine law_of_pure (glob0 _) (avs := [.agg [.v (.int .i64 N), aRows L], .v (.int .u8 n), .v (.int .u8 tu)]) (by kernel_rfl) hW2 rfl (rec_ok (by kernel_rfl)) (tb := 4) rfl Try.underlying4 rfl rfl rfl rfl (fun i hi => ?_) (theoryOrder_p N L n tu oN0 oL0 l1 u1 l2 u2)
  match i, hi with
  | 0, _ => exact ra0
  | 1, _ => exact ra1
  | 2, _ => exact ra2
theorem proved : Rows.TheoryOrderSaid :=
  OpenClaim.holds_of_wide 8 Go.Proofs.Try.f8 rfl rfl rfl rfl rfl rfl rfl ⟨rfl, rfl, rfl, rfl, rfl⟩ rfl rfl rfl rfl rfl (by kernel_rfl) Try.func8 (by kernel_rfl)
    (of_decide_eq_true (by kernel_rfl)) (by unfold Func.isWrapper; first | (rw [if_pos (by decide +kernel)]; kernel_rfl) | (rw [if_neg (by decide +kernel)]; exact ⟨rfl, rfl⟩))
    (fun os started H enc _ => lifted os started H enc)
end theoryOrder
end Go.Proofs.Ytkollnaojpppcaa
