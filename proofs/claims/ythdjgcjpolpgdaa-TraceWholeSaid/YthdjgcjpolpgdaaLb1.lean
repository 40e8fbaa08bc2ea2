/- The law TraceWhole, by the abstract machine; no condition. -/
import Derived.Test.YthdjgcjpolpgdaaLi22
import Derived.Test.YthdjgcjpolpgdaaTp2
import Derived.Test.YthdjgcjpolpgdaaRows
namespace Go.Proofs.Ythdjgcjpolpgdaa
set_option linter.unusedVariables false
set_option linter.unusedSimpArgs false
set_option linter.unusedSectionVars false
open Go.ChangeShapes Go.WideShapes Go.ChangeAt Go.RowKit
attribute [local simp] List.getD_cons_zero List.getD_cons_succ List.getD_nil undef gvars runL runE effA stepA dstOk wantA core lk st dl AS.ev AS.evs AS.put AS.upd updO updI nxt cPick cAlloc cBox cBuild cBuildS cLoad cStore cNil plainOf cBin cNilS isNilS nilA cUn cConvX cConvB cConv bytesOf rowB cMake cSlice slA idxA cFA cF cIA cIX cIS cI cExt cLen cApp cMM cFun cCall lenA lenM isNilM nilM cNilM cMakeM hintB cMapK cLook foundR lookR cUpd putM cDel delM findA isKeyB Instr.sameNow AS.entry AS.bound AS.callee sc1 sc2 ixOk ldA AV.flat AV.cell AV.cells Value.oneCell' fillA spl chunk zeros AS.parts AS.rows AS.shut AS.shut1 AS.shut2 AS.shutL AS.shutM AV.ids idsL idsLL eqAll bndA AV.scalar AV.scalar1 AV.isV Ef.app Ef.pk ptOf pntO wrO wr
attribute [-simp] List.getD_eq_getElem?_getD
set_option maxRecDepth 100000
set_option maxHeartbeats 4000000 in
theorem traceWhole_p (N : Int) (L : List (List Int)) (hN : okI N = true) (hL : okLens L = true) : FnPure Try.prog 5 [aTh N L] (.v (.bool true)) := by
  unfold aTh
  by_cases hl : lightB L = true
  · have hr := light_rows hL hl
    have h60 : L.length ≤ 60 := by simp only [lightB, Bool.and_eq_true, decide_eq_true_eq] at hl; exact hl.2
    refine fn_sp TT_ok Try.func5 (c := _) rfl (by simp [Try.ntmps5]) (fun B hI0 hro => ?_)
    rw [Try.ntmps5]
    simp only [enumA]
    repeat (first | with_reducible first | refine s_seq ?_ | refine k_seq ?_ | refine k_seq_ret ?_ | refine k_seq_exit ?_ | refine k_blk ?_ | refine k_blk_ret ?_ | refine k_blk_exit ?_ | refine k_lp_ret ?_ | refine k_lp_exit ?_ | refine ki_lp_ret ?_ | refine ki_lp_exit ?_ | refine s_block ?_ | refine sp_skip ?_ | refine sp_ret ?_ | refine sp_exit ?_ | ((with_reducible refine k_blk_out ?_ ?_); (focus decide)) | ((with_reducible refine s_cond_t ?_ ?_); (focus (simp [*]; done))) | ((with_reducible refine s_cond_f ?_ ?_); (focus (simp [*]; done))) | (focus ((with_reducible refine s_region2 (q := ?_) (σ' := ?_) TT_ok PT49_ok ?_ ?_ ?_); rotate_left 2; (focus (first | (simp; exact Eq.refl _) | exact Eq.refl _)); (focus ((repeat (((with_reducible refine runL_cons (σ1 := ?_) ?_ ?_); rotate_left; (focus (simp [*]; rfl))))); (exact runL_nil))))) | (focus ((with_reducible refine s_draw2 (q := ?_) (es := ?_) (σ' := ?_) prog_mixed TT_ok PT49_ok ?_ ?_ ?_ ?_); rotate_left 3; (focus (first | (simp; exact Eq.refl _) | exact Eq.refl _)); (focus ((repeat (((with_reducible refine runE_cons (e := ?_) (σ1 := ?_) (es := ?_) ?_ ?_ ?_); rotate_left 3; (focus (simp [*]; exact Eq.refl _)); (focus (simp; exact Eq.refl _))))); (exact runE_nil))); (focus (first | kernel_rfl | decide)))))
    refine s_cnil 1 0 1 40 3 1 rfl rfl (by simp) ?_ (by decide)
    (refine s_eq (τ := ?_) ?_ ?_; rotate_left; (focus ((try simp only [AS.frz, List.map_cons, List.map_nil]); (try simp [frzV, frzO, frzC, List.filter]); rfl)))
    refine s_loop (J := fun i : {k : Nat // k ≤ L.length} => ⟨54, [(1, .ptr 0 0 0), (2, .v (.bool false)), (3, .ptr 1 0 0), (14, aRows L), (15, .v (.int .i64 (L.length : Int))), (16, .v (.int .i64 (i.1 : Int)))], [(40, ⟨3, 1, (iota i.1).map fun x => [.v (.int .i64 x)]⟩), (0, ⟨24, 2, [[.v (.int .i64 N), aRows L]]⟩), (1, ⟨27, 2, [[.v (.slice none 0 0), .ref 40 0 i.1]]⟩)], [40, 1, 0]⟩) (μ := fun i => L.length - i.1) ⟨0, Nat.zero_le _⟩ ?_ (fun ⟨k, hk⟩ => ?_)
    · have hk0 := iota_zero
      (refine weak_id rfl ?_ ?_ <;> ((try simp only [List.mem_cons, List.not_mem_nil, or_false, forall_eq_or_imp, forall_eq]); (try simp (disch := omega) [i64w, *])))
    have hkl := iota_len k
    have e1 : (k + 1) * 8 ≤ 140737488355328 := by omega
    repeat (first | with_reducible first | refine s_seq ?_ | refine k_seq ?_ | refine k_seq_ret ?_ | refine k_seq_exit ?_ | refine k_blk ?_ | refine k_blk_ret ?_ | refine k_blk_exit ?_ | refine k_lp_ret ?_ | refine k_lp_exit ?_ | refine ki_lp_ret ?_ | refine ki_lp_exit ?_ | refine s_block ?_ | refine sp_skip ?_ | refine sp_ret ?_ | refine sp_exit ?_ | ((with_reducible refine k_blk_out ?_ ?_); (focus decide)) | ((with_reducible refine s_cond_t ?_ ?_); (focus (simp [*]; done))) | ((with_reducible refine s_cond_f ?_ ?_); (focus (simp [*]; done))) | (focus ((with_reducible refine s_region2 (q := ?_) (σ' := ?_) TT_ok PT49_ok ?_ ?_ ?_); rotate_left 2; (focus (first | (simp; exact Eq.refl _) | exact Eq.refl _)); (focus ((repeat (((with_reducible refine runL_cons (σ1 := ?_) ?_ ?_); rotate_left; (focus (simp [*]; rfl))))); (exact runL_nil))))) | (focus ((with_reducible refine s_draw2 (q := ?_) (es := ?_) (σ' := ?_) prog_mixed TT_ok PT49_ok ?_ ?_ ?_ ?_); rotate_left 3; (focus (first | (simp; exact Eq.refl _) | exact Eq.refl _)); (focus ((repeat (((with_reducible refine runE_cons (e := ?_) (σ1 := ?_) (es := ?_) ?_ ?_ ?_); rotate_left 3; (focus (simp [*]; exact Eq.refl _)); (focus (simp; exact Eq.refl _))))); (exact runE_nil))); (focus (first | kernel_rfl | decide)))))
    (focus ((with_reducible refine sp_cond (b := ?_) ?_ (fun hc => ?_) (fun hc => ?_)); rotate_left; (focus (first | rfl | (simp [lk, AS.ev]; rfl))); all_goals (try simp at hc)))
    · have hkk := hc
      clear hc
      have hts := iota_succ k
      repeat (first | with_reducible first | refine s_seq ?_ | refine k_seq ?_ | refine k_seq_ret ?_ | refine k_seq_exit ?_ | refine k_blk ?_ | refine k_blk_ret ?_ | refine k_blk_exit ?_ | refine k_lp_ret ?_ | refine k_lp_exit ?_ | refine ki_lp_ret ?_ | refine ki_lp_exit ?_ | refine s_block ?_ | refine sp_skip ?_ | refine sp_ret ?_ | refine sp_exit ?_ | ((with_reducible refine k_blk_out ?_ ?_); (focus decide)) | ((with_reducible refine s_cond_t ?_ ?_); (focus (simp [*]; done))) | ((with_reducible refine s_cond_f ?_ ?_); (focus (simp [*]; done))) | (focus ((with_reducible refine s_region2 (q := ?_) (σ' := ?_) TT_ok PT49_ok ?_ ?_ ?_); rotate_left 2; (focus (first | (simp; exact Eq.refl _) | exact Eq.refl _)); (focus ((repeat (((with_reducible refine runL_cons (σ1 := ?_) ?_ ?_); rotate_left; (focus (simp [*]; rfl))))); (exact runL_nil))))) | (focus ((with_reducible refine s_draw2 (q := ?_) (es := ?_) (σ' := ?_) prog_mixed TT_ok PT49_ok ?_ ?_ ?_ ?_); rotate_left 3; (focus (first | (simp; exact Eq.refl _) | exact Eq.refl _)); (focus ((repeat (((with_reducible refine runE_cons (e := ?_) (σ1 := ?_) (es := ?_) ?_ ?_ ?_); rotate_left 3; (focus (simp [*]; exact Eq.refl _)); (focus (simp; exact Eq.refl _))))); (exact runE_nil))); (focus (first | kernel_rfl | decide)))))
      refine k_lp (⟨k + 1, by omega⟩ : {k : Nat // k ≤ L.length}) (by dsimp only; omega) ?_
      (refine weak_of (fun k => if k = 40 then 45 else k) ⟨rfl, ?_, ?_, ?_⟩ <;> ((try simp only [List.mem_cons, List.not_mem_nil, or_false, forall_eq_or_imp, forall_eq]); (try simp (disch := omega) [lk, AV.ids, idsL, idsLL, AV.ren, renL, renLL, i64w, *])))
    · obtain rfl : k = L.length := by omega
      clear hc
      repeat (first
        | with_reducible refine s_seq ?_
        | with_reducible refine k_seq ?_
        | with_reducible refine k_seq_ret ?_
        | with_reducible refine k_seq_exit ?_
        | with_reducible refine k_blk ?_
        | with_reducible refine k_blk_ret ?_
        | with_reducible refine k_blk_exit ?_
        | ((with_reducible refine k_blk_out ?_ ?_); (focus decide))
        | with_reducible refine k_lp_ret ?_
        | with_reducible refine k_lp_exit ?_
        | with_reducible refine ki_lp_ret ?_
        | with_reducible refine ki_lp_exit ?_
        | with_reducible refine s_block ?_
        | with_reducible refine sp_skip ?_
        | with_reducible refine sp_ret ?_
        | with_reducible refine sp_exit ?_
        | ((with_reducible refine s_cond_t ?_ ?_); (focus (simp [*]; done)))
        | ((with_reducible refine s_cond_f ?_ ?_); (focus (simp [*]; done))))
      refine s_weak ⟨54, [(1, .ptr 0 0 0), (2, .v (.bool false)), (3, .ptr 1 0 0)], [(40, ⟨3, 1, (iota L.length).map fun x => [.v (.int .i64 x)]⟩), (0, ⟨24, 2, [[.v (.int .i64 N), aRows L]]⟩), (1, ⟨27, 2, [[.v (.slice none 0 0), .ref 40 0 (iota L.length).length]]⟩)], [40, 1, 0]⟩ ?_ ?_
      · (refine weak_id rfl ?_ ?_ <;> ((try simp only [List.mem_cons, List.not_mem_nil, or_false, forall_eq_or_imp, forall_eq]); (try simp (disch := omega) [i64w, *])))
      clear hkl e1
      have hio := iota_ok (k := L.length) (by omega)
      have hR := whole_resA N L
      generalize iota L.length = cs at hio hR ⊢
      refine s_frz (fun k => k == 40) ?_
      (refine s_eq (τ := ?_) ?_ ?_; rotate_left; (focus ((try simp only [AS.frz, List.map_cons, List.map_nil]); (try simp [frzV, frzO, frzC, List.filter]); rfl)))
      have hr0 : toInts (.v (.slice none 0 0)) = some [] := rfl
      have hr1 := toInts_ints cs
      by_cases hz : checkT N L = 0
      · rw [if_pos hz] at hR
        have hnA : normA N L = .tup [.agg [.v (.int .i64 N), aRows (normL L)], .v (.int .i64 0)] := by unfold normA; rw [if_pos hz]; rfl
        have hnr := okRows_check (normL_check hz)
        have hs : thSame N (normL L) N (normL L) = true := by simp [thSame]
        clear hz
        generalize normL L = X at hR hnA hnr hs
        repeat (first | with_reducible first | refine s_seq ?_ | refine k_seq ?_ | refine k_seq_ret ?_ | refine k_seq_exit ?_ | refine k_blk ?_ | refine k_blk_ret ?_ | refine k_blk_exit ?_ | refine k_lp_ret ?_ | refine k_lp_exit ?_ | refine ki_lp_ret ?_ | refine ki_lp_exit ?_ | refine s_block ?_ | refine sp_skip ?_ | refine sp_ret ?_ | refine sp_exit ?_ | ((with_reducible refine k_blk_out ?_ ?_); (focus decide)) | ((with_reducible refine s_cond_t ?_ ?_); (focus (simp [*]; done))) | ((with_reducible refine s_cond_f ?_ ?_); (focus (simp [*]; done))) | (focus ((with_reducible refine s_region2 (q := ?_) (σ' := ?_) TT_ok PT49_ok ?_ ?_ ?_); rotate_left 2; (focus (first | (simp; exact Eq.refl _) | exact Eq.refl _)); (focus ((repeat (((with_reducible refine runL_cons (σ1 := ?_) ?_ ?_); rotate_left; (focus (simp [*]; rfl))))); (exact runL_nil))))) | (focus ((with_reducible refine s_draw2 (q := ?_) (es := ?_) (σ' := ?_) prog_mixed TT_ok PT49_ok ?_ ?_ ?_ ?_); rotate_left 3; (focus (first | (simp; exact Eq.refl _) | exact Eq.refl _)); (focus ((repeat (((with_reducible refine runE_cons (e := ?_) (σ1 := ?_) (es := ?_) ?_ ?_ ?_); rotate_left 3; (focus (simp [*]; exact Eq.refl _)); (focus (simp; exact Eq.refl _))))); (exact runE_nil))); (focus (first | kernel_rfl | decide)))))
        ((refine post_ret (av := ?_) (by first | exact .inl rfl | exact .inr rfl) (show (Try.f5).results.toList = _ from by rw [Try.results5]) ?_ ?_); rotate_left; (focus (simp [retA, retL, ret1, lk, st, ldA, AV.cell]; rfl)); (try simp [*]))
      · rw [if_neg hz] at hR
        have hnA : normA N L = .tup [.agg [.v (.int .i64 0), .v (.slice none 0 0)], .v (.int .i64 (checkT N L))] := by unfold normA; rw [if_neg hz]
        have hne : (checkT N L != 0) = true := by simpa using hz
        repeat (first | with_reducible first | refine s_seq ?_ | refine k_seq ?_ | refine k_seq_ret ?_ | refine k_seq_exit ?_ | refine k_blk ?_ | refine k_blk_ret ?_ | refine k_blk_exit ?_ | refine k_lp_ret ?_ | refine k_lp_exit ?_ | refine ki_lp_ret ?_ | refine ki_lp_exit ?_ | refine s_block ?_ | refine sp_skip ?_ | refine sp_ret ?_ | refine sp_exit ?_ | ((with_reducible refine k_blk_out ?_ ?_); (focus decide)) | ((with_reducible refine s_cond_t ?_ ?_); (focus (simp [*]; done))) | ((with_reducible refine s_cond_f ?_ ?_); (focus (simp [*]; done))) | (focus ((with_reducible refine s_region2 (q := ?_) (σ' := ?_) TT_ok PT49_ok ?_ ?_ ?_); rotate_left 2; (focus (first | (simp; exact Eq.refl _) | exact Eq.refl _)); (focus ((repeat (((with_reducible refine runL_cons (σ1 := ?_) ?_ ?_); rotate_left; (focus (simp [*]; rfl))))); (exact runL_nil))))) | (focus ((with_reducible refine s_draw2 (q := ?_) (es := ?_) (σ' := ?_) prog_mixed TT_ok PT49_ok ?_ ?_ ?_ ?_); rotate_left 3; (focus (first | (simp; exact Eq.refl _) | exact Eq.refl _)); (focus ((repeat (((with_reducible refine runE_cons (e := ?_) (σ1 := ?_) (es := ?_) ?_ ?_ ?_); rotate_left 3; (focus (simp [*]; exact Eq.refl _)); (focus (simp; exact Eq.refl _))))); (exact runE_nil))); (focus (first | kernel_rfl | decide)))))
        ((refine post_ret (av := ?_) (by first | exact .inl rfl | exact .inr rfl) (show (Try.f5).results.toList = _ from by rw [Try.results5]) ?_ ?_); rotate_left; (focus (simp [retA, retL, ret1, lk, st, ldA, AV.cell]; rfl)); (try simp [*]))
  · refine fn_sp TT_ok Try.func5 (c := _) rfl (by simp [Try.ntmps5]) (fun B hI0 hro => ?_)
    rw [Try.ntmps5]
    simp only [enumA]
    repeat (first | with_reducible first | refine s_seq ?_ | refine k_seq ?_ | refine k_seq_ret ?_ | refine k_seq_exit ?_ | refine k_blk ?_ | refine k_blk_ret ?_ | refine k_blk_exit ?_ | refine k_lp_ret ?_ | refine k_lp_exit ?_ | refine ki_lp_ret ?_ | refine ki_lp_exit ?_ | refine s_block ?_ | refine sp_skip ?_ | refine sp_ret ?_ | refine sp_exit ?_ | ((with_reducible refine k_blk_out ?_ ?_); (focus decide)) | ((with_reducible refine s_cond_t ?_ ?_); (focus (simp [*]; done))) | ((with_reducible refine s_cond_f ?_ ?_); (focus (simp [*]; done))) | (focus ((with_reducible refine s_region2 (q := ?_) (σ' := ?_) TT_ok PT49_ok ?_ ?_ ?_); rotate_left 2; (focus (first | (simp; exact Eq.refl _) | exact Eq.refl _)); (focus ((repeat (((with_reducible refine runL_cons (σ1 := ?_) ?_ ?_); rotate_left; (focus (simp [*]; rfl))))); (exact runL_nil))))) | (focus ((with_reducible refine s_draw2 (q := ?_) (es := ?_) (σ' := ?_) prog_mixed TT_ok PT49_ok ?_ ?_ ?_ ?_); rotate_left 3; (focus (first | (simp; exact Eq.refl _) | exact Eq.refl _)); (focus ((repeat (((with_reducible refine runE_cons (e := ?_) (σ1 := ?_) (es := ?_) ?_ ?_ ?_); rotate_left 3; (focus (simp [*]; exact Eq.refl _)); (focus (simp; exact Eq.refl _))))); (exact runE_nil))); (focus (first | kernel_rfl | decide)))))
    ((refine post_ret (av := ?_) (by first | exact .inl rfl | exact .inr rfl) (show (Try.f5).results.toList = _ from by rw [Try.results5]) ?_ ?_); rotate_left; (focus (simp [retA, retL, ret1, lk, st, ldA, AV.cell]; rfl)); (try simp [*]))
namespace traceWhole
set_option maxRecDepth 100000 in
theorem lifted (os : Os) (started : os.Started) (H : Type) (enc : TypeId × Value → H) :
    ReturnsInHanded {} Try.checked os 5 .any (Rows.traceWholeSpec.pre6 enc Try.prog Go.Proofs.Try.f5 Rows.traceWholeRow.domain false) (Rows.traceWholeSpec.post enc Try.prog Go.Proofs.Try.f5 false true false false) := by
  refine returnsInHanded_of_change (C := Try.checked) (by kernel_rfl) started (by kernel_rfl) Try.func5
    (ChangeSpec.witness6 (enc := enc) (C := Try.checked) false ⟨#[], #[.agg #[.int .i64 0, .slice none 0 0]], []⟩ 8 (by kernel_rfl) (by kernel_rfl) (by kernel_rfl) (by kernel_rfl)) ?_
  intro W base args ds gs before hval0 hW hcnd _
  have hval : ∀ (j : Nat) t v, (Go.Proofs.Try.f5).params[j]? = some t → args[j]? = some v → Value.okWide Try.prog W .any base t v := hval0
  have hW2 := hW
  obtain ⟨p, q, hA0, hV, _, _, _⟩ := hW
  have hA : DataW.TrodAll enc Try.prog W 0 (fun _ => true) true (Go.Proofs.Try.f5).params.toList args.toList ds p := hA0
  rw [Try.params5] at hA hval
  clear hA0 hval0 hcnd
  obtain ⟨rfl, _⟩ := trodVars_none hV
  obtain ⟨v0, vs0, d0, ds0, p0, q0, hargs, rfl, _, h0, r0⟩ := trodAll_cons hA
  obtain ⟨rfl, rfl, _⟩ := trodAll_nil r0
  obtain rfl : args = #[v0] := by cases args; simp_all
  obtain ⟨N, L, ra0, oN0, oL0⟩ := arg_th (hval 0 _ v0 rfl rfl) h0
  refine law_of_pure (glob0 _) (avs := [.agg [.v (.int .i64 N), aRows L]]) (by kernel_rfl) hW2 rfl (rec_ok (by kernel_rfl)) (tb := 4) rfl Try.underlying4 rfl rfl rfl rfl (fun i hi => ?_) (traceWhole_p N L oN0 oL0)
  match i, hi with
  | 0, _ => exact ra0
theorem proved : Rows.TraceWholeSaid :=
  OpenClaim.holds_of_wide 5 Go.Proofs.Try.f5 rfl rfl rfl rfl rfl rfl rfl ⟨rfl, rfl, rfl, rfl, rfl⟩ rfl rfl rfl rfl rfl (by kernel_rfl) Try.func5 (by kernel_rfl)
    (of_decide_eq_true (by kernel_rfl)) (by unfold Func.isWrapper; first | (rw [if_pos (by decide +kernel)]; kernel_rfl) | (rw [if_neg (by decide +kernel)]; exact ⟨rfl, rfl⟩))
    (fun os started H enc _ => lifted os started H enc)
end traceWhole
end Go.Proofs.Ythdjgcjpolpgdaa
