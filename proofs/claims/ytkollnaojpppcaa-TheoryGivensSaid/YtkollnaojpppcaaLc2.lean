/- The law TheoryGivens, by the abstract machine; no condition. -/
import Derived.Test.YtkollnaojpppcaaLc0
import Derived.Test.YtkollnaojpppcaaGo
import Derived.Test.YtkollnaojpppcaaGi2
import Derived.Test.YtkollnaojpppcaaGe
namespace Go.Proofs.Ytkollnaojpppcaa
set_option linter.unusedVariables false
set_option linter.unusedSimpArgs false
set_option linter.unusedSectionVars false
open Go.ChangeShapes Go.WideShapes Go.ChangeAt Go.RowKit
attribute [local simp] List.getD_cons_zero List.getD_cons_succ List.getD_nil undef gvars runL runE effA stepA dstOk wantA core lk st dl AS.ev AS.evs AS.put AS.upd updO updI nxt cPick cAlloc cBox cBuild cBuildS cLoad cStore cNil plainOf cBin cNilS isNilS nilA cUn cConvX cConvB cConv bytesOf rowB cMake cSlice slA idxA cFA cF cIA cIX cIS cI cExt cLen cApp cMM cFun cCall lenA lenM isNilM nilM cNilM cMakeM hintB cMapK cLook foundR lookR cUpd putM cDel delM findA isKeyB Instr.sameNow AS.entry AS.bound AS.callee sc1 sc2 ixOk ldA AV.flat AV.cell AV.cells Value.oneCell' fillA spl chunk zeros AS.parts AS.rows AS.shut AS.shut1 AS.shut2 AS.shutL AS.shutM AV.ids idsL idsLL eqAll bndA AV.scalar AV.scalar1 AV.isV Ef.app Ef.pk ptOf pntO wrO wr
attribute [-simp] List.getD_eq_getElem?_getD
set_option maxRecDepth 100000
def l61 : List (FuncId × (List AV → Option (AV × Bool))) :=
  (26, g_givenE) :: (27, g_rGiven) :: l60
theorem l61_ok : ∀ p ∈ l61, EntOk Try.prog p.1 p.2 := ent_cons e_givenE (ent_cons e_rGiven (l60_ok))
def PT61 : PTab := tab l61
theorem PT61_ok : PTok Try.prog PT61 := tab_ok l61_ok
@[simp] theorem PT61_litVar : PT61 41 = g_litVar := rfl
@[simp] theorem PT61_litValid : PT61 36 = g_litValid := rfl
@[simp] theorem PT61_check : PT61 17 = g_check := rfl
@[simp] theorem PT61_with : PT61 56 = g_with := rfl
@[simp] theorem PT61_all : PT61 48 = g_all := rfl
@[simp] theorem PT61_rValid : PT61 37 = g_rValid := rfl
@[simp] theorem PT61_rHas : PT61 60 = g_rHas := rfl
@[simp] theorem PT61_rHolds : PT61 51 = g_rHolds := rfl
@[simp] theorem PT61_rAssign : PT61 50 = g_rAssign := rfl
@[simp] theorem PT61_rCheck : PT61 18 = g_rCheck := rfl
@[simp] theorem PT61_rEval : PT61 25 = g_rEval := rfl
@[simp] theorem PT61_litvalid : PT61 61 = g_litvalid := rfl
@[simp] theorem PT61_opposite : PT61 63 = g_opposite := rfl
@[simp] theorem PT61_clone : PT61 58 = g_clone := rfl
@[simp] theorem PT61_order : PT61 62 = g_order := rfl
@[simp] theorem PT61_term : PT61 52 = g_term := rfl
@[simp] theorem PT61_clause : PT61 38 = g_clause := rfl
@[simp] theorem PT61_equal : PT61 43 = g_equal := rfl
@[simp] theorem PT61_distinct : PT61 42 = g_distinct := rfl
@[simp] theorem PT61_normal : PT61 20 = g_normal := rfl
@[simp] theorem PT61_rContains : PT61 55 = g_rContains := rfl
@[simp] theorem PT61_rSameInts : PT61 46 = g_rSameInts := rfl
@[simp] theorem PT61_rAbs : PT61 59 = g_rAbs := rfl
@[simp] theorem PT61_rBefore : PT61 66 = g_rBefore := rfl
@[simp] theorem PT61_rSorted : PT61 44 = g_rSorted := rfl
@[simp] theorem PT61_rPut : PT61 45 = g_rPut := rfl
@[simp] theorem PT61_rNormal : PT61 21 = g_rNormal := rfl
@[simp] theorem PT61_place : PT61 73 = g_place := rfl
@[simp] theorem PT61_vHas : PT61 91 = g_vHas := rfl
@[simp] theorem PT61_vMinus : PT61 67 = g_vMinus := rfl
@[simp] theorem PT61_vSub : PT61 47 = g_vSub := rfl
@[simp] theorem PT61_litHolds : PT61 70 = g_litHolds := rfl
@[simp] theorem PT61_litAny : PT61 49 = g_litAny := rfl
@[simp] theorem PT61_thEval : PT61 24 = g_thEval := rfl
@[simp] theorem PT61_rSame : PT61 22 = g_rSame := rfl
@[simp] theorem PT61_rTerm : PT61 54 = g_rTerm := rfl
@[simp] theorem PT61_thVars : PT61 31 = g_thVars := rfl
@[simp] theorem PT61_rVars : PT61 34 = g_rVars := rfl
@[simp] theorem PT61_light : PT61 15 = g_light := rfl
@[simp] theorem PT61_works : PT61 16 = g_works := rfl
@[simp] theorem PT61_copy : PT61 19 = g_copy := rfl
@[simp] theorem PT61_spoil : PT61 23 = g_spoil := rfl
@[simp] theorem PT61_givenE : PT61 26 = g_givenE := rfl
@[simp] theorem PT61_rGiven : PT61 27 = g_rGiven := rfl
attribute [local simp] AV.ren renL obI shO_cons lk_st lk_dl renLL_append
theorem givenT_ok {ts : List Int} {L : List (List Int)} (h : okRows L = true) : okRows (givenT ts L) = true := by
  have hl := okRows_len h
  have h2 : (givenT ts L).length ≤ L.length := by unfold givenT; rw [List.length_map]; exact List.length_filter_le _ _
  simp only [okRows, Bool.and_eq_true, List.all_eq_true, decide_eq_true_eq]
  refine ⟨fun d hd => ?_, by omega⟩
  unfold givenT at hd
  obtain ⟨c, hc, rfl⟩ := List.mem_map.1 hd
  have hc2 := okRows_mem h c (List.mem_filter.1 hc).1
  have h3 := okInts_len hc2
  have h4 := restC_len ts c
  simp only [okInts, Bool.and_eq_true, List.all_eq_true, decide_eq_true_eq]
  exact ⟨fun x hx => okInts_mem hc2 x (List.mem_filter.1 hx).1, by omega⟩
set_option maxHeartbeats 1000000 in
theorem givens_ok (N : Int) (L : List (List Int)) (ts : List Int) (hN : okI N = true) (hr : okRows L = true) (hl : lightB L = true) (ht : okInts ts = true) (ht2 : ts.length ≤ 140) (hz : checkT N L = 0) (htr : termR N ts = true) : FnPure Try.prog 6 [aTh N L, aInts ts] (.v (.bool true)) := by
  have hL := okLens_rows hr
  have hnb : givenA N L ts = .tup [.agg [.v (.int .i64 N), aRows (givenT ts L)], .v (.int .i64 0)] := by unfold givenA; rw [if_pos hz, if_pos htr]; rfl
  have hUr : okRows (givenT ts L) = true := givenT_ok hr
  have hUm := okRows_len hUr
  have hob := given_obj N L ts hN hr ht hz htr
  have hlt : ¬ (140 : Int) < (ts.length : Int) := by omega
  unfold resT objT idsT at hob
  have hsm : thSame N L N L = true := by simp [thSame]
  generalize givenT ts L = U at hnb hUr hUm hob
  have hsmU : thSame N U N U = true := by simp [thSame]
  unfold aTh at *
  have hfe : aTh N L = .agg [.v (.int .i64 N), aRows L] := rfl
  refine fn_sp TT_ok Try.func6 (c := _) rfl (by simp [Try.ntmps6]) (fun B hI0 hro => ?_)
  rw [Try.ntmps6]
  simp only [enumA]
  repeat (first | with_reducible first | refine s_seq ?_ | refine k_seq ?_ | refine k_seq_ret ?_ | refine k_seq_exit ?_ | refine k_blk ?_ | refine k_blk_ret ?_ | refine k_blk_exit ?_ | refine k_lp_ret ?_ | refine k_lp_exit ?_ | refine ki_lp_ret ?_ | refine ki_lp_exit ?_ | refine s_block ?_ | refine sp_skip ?_ | refine sp_ret ?_ | refine sp_exit ?_ | ((with_reducible refine k_blk_out ?_ ?_); (focus decide)) | ((with_reducible refine s_cond_t ?_ ?_); (focus (simp [*]; done))) | ((with_reducible refine s_cond_f ?_ ?_); (focus (simp [*]; done))))
  (focus ((with_reducible refine s_region2 (q := ?_) (σ' := ?_) TT_ok PT61_ok ?_ ?_ ?_); rotate_left 2; (focus (first | (simp; exact Eq.refl _) | exact Eq.refl _)); (focus ((repeat (((with_reducible refine runL_cons (σ1 := ?_) ?_ ?_); rotate_left; (focus (simp [*]; rfl))))); (exact runL_nil)))))
  repeat (first | with_reducible first | refine s_seq ?_ | refine k_seq ?_ | refine k_seq_ret ?_ | refine k_seq_exit ?_ | refine k_blk ?_ | refine k_blk_ret ?_ | refine k_blk_exit ?_ | refine k_lp_ret ?_ | refine k_lp_exit ?_ | refine ki_lp_ret ?_ | refine ki_lp_exit ?_ | refine s_block ?_ | refine sp_skip ?_ | refine sp_ret ?_ | refine sp_exit ?_ | ((with_reducible refine k_blk_out ?_ ?_); (focus decide)) | ((with_reducible refine s_cond_t ?_ ?_); (focus (simp [*]; done))) | ((with_reducible refine s_cond_f ?_ ?_); (focus (simp [*]; done))))
  (focus ((with_reducible refine s_region2 (q := ?_) (σ' := ?_) TT_ok PT61_ok ?_ ?_ ?_); rotate_left 2; (focus (first | (simp; exact Eq.refl _) | exact Eq.refl _)); (focus ((repeat (((with_reducible refine runL_cons (σ1 := ?_) ?_ ?_); rotate_left; (focus (simp [*]; rfl))))); (exact runL_nil)))))
  repeat (first | with_reducible first | refine s_seq ?_ | refine k_seq ?_ | refine k_seq_ret ?_ | refine k_seq_exit ?_ | refine k_blk ?_ | refine k_blk_ret ?_ | refine k_blk_exit ?_ | refine k_lp_ret ?_ | refine k_lp_exit ?_ | refine ki_lp_ret ?_ | refine ki_lp_exit ?_ | refine s_block ?_ | refine sp_skip ?_ | refine sp_ret ?_ | refine sp_exit ?_ | ((with_reducible refine k_blk_out ?_ ?_); (focus decide)) | ((with_reducible refine s_cond_t ?_ ?_); (focus (simp [*]; done))) | ((with_reducible refine s_cond_f ?_ ?_); (focus (simp [*]; done))))
  (focus ((with_reducible refine s_region2 (q := ?_) (σ' := ?_) TT_ok PT61_ok ?_ ?_ ?_); rotate_left 2; (focus (first | (simp; exact Eq.refl _) | exact Eq.refl _)); (focus ((repeat (((with_reducible refine runL_cons (σ1 := ?_) ?_ ?_); rotate_left; (focus (simp [*]; rfl))))); (exact runL_nil)))))
  repeat (first | with_reducible first | refine s_seq ?_ | refine k_seq ?_ | refine k_seq_ret ?_ | refine k_seq_exit ?_ | refine k_blk ?_ | refine k_blk_ret ?_ | refine k_blk_exit ?_ | refine k_lp_ret ?_ | refine k_lp_exit ?_ | refine ki_lp_ret ?_ | refine ki_lp_exit ?_ | refine s_block ?_ | refine sp_skip ?_ | refine sp_ret ?_ | refine sp_exit ?_ | ((with_reducible refine k_blk_out ?_ ?_); (focus decide)) | ((with_reducible refine s_cond_t ?_ ?_); (focus (simp [*]; done))) | ((with_reducible refine s_cond_f ?_ ?_); (focus (simp [*]; done))))
  refine s_regionL ?_
  ((iterate 2 (((with_reducible refine spl_step TT_ok PT61_ok (id := 0) (σ' := ?_) ?_ ?_); rotate_left; (focus (simp [*]; rfl))))))
  refine spl_obj hob 1000 (by simp) rfl rfl (enters_ok (avs := [.agg [.v (.int .i64 N), aRows L], aInts ts]) (cs := []) rfl (by kernel_rfl) rfl rfl) (by simp [idsL, AV.ids]) (fun c h => by cases h) ?_
  simp only [shO_cons, shO_famI, ren_refsI_add, List.map_cons, List.cons_append]
  refine spl_famE (by simp) ?_
  (refine spl_eq (τ := ?_) ?_ ?_; rotate_left; (focus ((try simp only [AS.frz, List.map_cons, List.map_nil]); (try simp [frzV, frzO, frzC, List.filter]); rfl)))
  ((iterate 3 (((with_reducible refine spl_step TT_ok PT61_ok (id := 0) (σ' := ?_) ?_ ?_); rotate_left; (focus (simp [*]; rfl))))))
  (((with_reducible refine spl_step TT_ok PT61_ok (id := 2) (σ' := ?_) ?_ ?_); rotate_left; (focus (simp [*]; rfl))))
  ((iterate 2 (((with_reducible refine spl_step TT_ok PT61_ok (id := 0) (σ' := ?_) ?_ ?_); rotate_left; (focus (simp [*]; rfl))))))
  refine spl_nil ?_
  repeat (first | with_reducible first | refine s_seq ?_ | refine k_seq ?_ | refine k_seq_ret ?_ | refine k_seq_exit ?_ | refine k_blk ?_ | refine k_blk_ret ?_ | refine k_blk_exit ?_ | refine k_lp_ret ?_ | refine k_lp_exit ?_ | refine ki_lp_ret ?_ | refine ki_lp_exit ?_ | refine s_block ?_ | refine sp_skip ?_ | refine sp_ret ?_ | refine sp_exit ?_ | ((with_reducible refine k_blk_out ?_ ?_); (focus decide)) | ((with_reducible refine s_cond_t ?_ ?_); (focus (simp [*]; done))) | ((with_reducible refine s_cond_f ?_ ?_); (focus (simp [*]; done))))
  refine s_regionL ?_
  ((iterate 6 (((with_reducible refine spl_step TT_ok PT61_ok (id := 0) (σ' := ?_) ?_ ?_); rotate_left; (focus (simp [*]; rfl))))))
  (((with_reducible refine spl_step TT_ok PT61_ok (id := 4) (σ' := ?_) ?_ ?_); rotate_left; (focus (simp [*]; rfl))))
  ((iterate 2 (((with_reducible refine spl_step TT_ok PT61_ok (id := 0) (σ' := ?_) ?_ ?_); rotate_left; (focus (simp [*]; rfl))))))
  refine spl_nil ?_
  repeat (first | with_reducible first | refine s_seq ?_ | refine k_seq ?_ | refine k_seq_ret ?_ | refine k_seq_exit ?_ | refine k_blk ?_ | refine k_blk_ret ?_ | refine k_blk_exit ?_ | refine k_lp_ret ?_ | refine k_lp_exit ?_ | refine ki_lp_ret ?_ | refine ki_lp_exit ?_ | refine s_block ?_ | refine sp_skip ?_ | refine sp_ret ?_ | refine sp_exit ?_ | ((with_reducible refine k_blk_out ?_ ?_); (focus decide)) | ((with_reducible refine s_cond_t ?_ ?_); (focus (simp [*]; done))) | ((with_reducible refine s_cond_f ?_ ?_); (focus (simp [*]; done))))
  refine s_regionL ?_
  ((iterate 6 (((with_reducible refine spl_step TT_ok PT61_ok (id := 0) (σ' := ?_) ?_ ?_); rotate_left; (focus (simp [*]; rfl))))))
  have hfam : ∀ j, j < U.length → lk (fam 1001 U) (1001 + j) = some (obI (U.getD j [])) := fun j hj => lk_fam_add hj
  refine spl_op (s := (.v (.bool true), [])) rfl rfl (ok_call_all (f := 22) (bvs := [aTh N U, aTh N U]) (enters_ok (avs := [.agg [.v (.int .i64 N), .ref 1000 0 U.length], .agg [.v (.int .i64 N), aRows U]]) (cs := []) rfl (by kernel_rfl) rfl rfl) rfl (fun B G w a hr i v hi hv => ?_) (hsmU ▸ rSame_p N U N U hUr hUr) rfl) ?_
  · match i, hi with
    | 0, _ =>
      refine read_th hr (k := 1000) (b := 1001) (t := 38) rfl (fun j hj => ?_) hv
      simp only [lk, lk_st]
      repeat rw [if_neg (by omega)]
      exact lk_fam_add hj
    | 1, _ => exact Rv.pure (G := G) (G' := G0 _) (fun b p u h => hr.heap.st b p u h) hv (by simp [aTh, AV.ids, idsL])
  ((iterate 2 (((with_reducible refine spl_step TT_ok PT61_ok (id := 0) (σ' := ?_) ?_ ?_); rotate_left; (focus (simp [*]; rfl))))))
  refine spl_nil ?_
  repeat (first | with_reducible first | refine s_seq ?_ | refine k_seq ?_ | refine k_seq_ret ?_ | refine k_seq_exit ?_ | refine k_blk ?_ | refine k_blk_ret ?_ | refine k_blk_exit ?_ | refine k_lp_ret ?_ | refine k_lp_exit ?_ | refine ki_lp_ret ?_ | refine ki_lp_exit ?_ | refine s_block ?_ | refine sp_skip ?_ | refine sp_ret ?_ | refine sp_exit ?_ | ((with_reducible refine k_blk_out ?_ ?_); (focus decide)) | ((with_reducible refine s_cond_t ?_ ?_); (focus (simp [*]; done))) | ((with_reducible refine s_cond_f ?_ ?_); (focus (simp [*]; done))))
  refine s_regionL ?_
  ((iterate 1 (((with_reducible refine spl_step TT_ok PT61_ok (id := 0) (σ' := ?_) ?_ ?_); rotate_left; (focus (simp [*]; rfl))))))
  have hmem : ∀ k, k ∈ [1000] ++ List.range' 1001 U.length ↔ k = 1000 ∨ (1001 ≤ k ∧ k < 1001 + U.length) := fun k => by
    rw [List.mem_append, List.mem_singleton, List.mem_range'_1]
  refine spl_lend TT_ok (avs := [.agg [.v (.int .i64 N), .ref 1000 0 U.length]]) (L := [.agg [.v (.int .i64 N), .ref 1000 0 U.length]]) (f := 23) rfl rfl rfl rfl rfl (by kernel_rfl) Try.func23 (c := _) rfl (by simp [Try.ntmps23]) ([(1000, ⟨38, 1, refsI 1001 U⟩)] ++ fam 1001 U) ([1000] ++ List.range' 1001 U.length) (fun k => ?_) (fun k hk => (hmem k).2 (.inl (by simpa [idsL, AV.ids] using hk))) (fun k hk ob hob q hq => ?_) (av := .tup []) rfl [] ([1000] ++ List.range' 1001 U.length) (fun k hk => .inl hk) (fun B' hI' hro' => ?_) ?_
  · rw [lk_append]
    by_cases e : k = 1000
    · subst e; rw [if_pos ((hmem _).2 (.inl rfl))]; simp [lk]
    · by_cases hk : 1001 ≤ k ∧ k < 1001 + U.length
      · rw [if_pos ((hmem k).2 (.inr hk))]
        simp only [lk, lk_st]
        repeat rw [if_neg (by omega)]
      · rw [if_neg (fun hh => by rcases (hmem k).1 hh with hh | hh; exact e hh; exact hk hh), lk_famI, if_neg hk]
        simp [lk, Ne.symm e]
  · rcases (hmem k).1 hk with rfl | hk
    · simp only [lk, if_true, Option.some.injEq] at hob
      subst hob
      exact (hmem q).2 (.inr (ids_refsI 1001 U hq))
    · obtain ⟨j, rfl⟩ : ∃ j, k = 1001 + j := ⟨k - 1001, by omega⟩
      simp only [lk, lk_st] at hob
      repeat rw [if_neg (by omega)] at hob
      rw [lk_fam_add (by omega)] at hob
      cases hob
      rw [show idsLL (obI (U.getD j [])).xs = [] from ids_ints _] at hq; cases hq
  · rw [Try.ntmps23]
    exact spoil_sp N U (by omega) (fun j => by have := okInts_len (okRows_at hUr j); omega) B' hI' hro' _ rfl
  refine spl_nil ?_
  refine k_seq ?_
  refine s_weak ⟨50, [(2, .ptr 0 0 0), (4, .v (.bool false)), (5, .ptr 3 0 0)], [(0, ⟨24, 2, [[.v (.int .i64 N), aRows L]]⟩), (3, ⟨24, 2, [[.v (.int .i64 N), aRows L]]⟩)], [3, 0]⟩ (weak_id rfl (by simp [lk, AS.put, AS.upd, AV.ids]) (fun p hp => ?_)) ?_ hI0
  · simp only [List.mem_cons, List.not_mem_nil, or_false] at hp
    rcases hp with rfl | rfl
    · refine ⟨(lk_updMap (fun k => lk [] k) 0 _ _).trans ?_, by simp, by simp [idsLL, idsL]⟩
      rw [if_neg (fun h => by have := (hmem 0).1 h; omega)]
      simp [lk]
    · refine ⟨(lk_updMap (fun k => lk [] k) 3 _ _).trans ?_, by simp, by simp [idsLL, idsL]⟩
      rw [if_neg (fun h => by have := (hmem 3).1 h; omega)]
      simp [lk]
  repeat (first | with_reducible first | refine s_seq ?_ | refine k_seq ?_ | refine k_seq_ret ?_ | refine k_seq_exit ?_ | refine k_blk ?_ | refine k_blk_ret ?_ | refine k_blk_exit ?_ | refine k_lp_ret ?_ | refine k_lp_exit ?_ | refine ki_lp_ret ?_ | refine ki_lp_exit ?_ | refine s_block ?_ | refine sp_skip ?_ | refine sp_ret ?_ | refine sp_exit ?_ | ((with_reducible refine k_blk_out ?_ ?_); (focus decide)) | ((with_reducible refine s_cond_t ?_ ?_); (focus (simp [*]; done))) | ((with_reducible refine s_cond_f ?_ ?_); (focus (simp [*]; done))) | (focus ((with_reducible refine s_region2 (q := ?_) (σ' := ?_) TT_ok PT61_ok ?_ ?_ ?_); rotate_left 2; (focus (first | (simp; exact Eq.refl _) | exact Eq.refl _)); (focus ((repeat (((with_reducible refine runL_cons (σ1 := ?_) ?_ ?_); rotate_left; (focus (simp [*]; rfl))))); (exact runL_nil))))) | (focus ((with_reducible refine s_draw2 (q := ?_) (es := ?_) (σ' := ?_) prog_mixed TT_ok PT61_ok ?_ ?_ ?_ ?_); rotate_left 3; (focus (first | (simp; exact Eq.refl _) | exact Eq.refl _)); (focus ((repeat (((with_reducible refine runE_cons (e := ?_) (σ1 := ?_) (es := ?_) ?_ ?_ ?_); rotate_left 3; (focus (simp [*]; exact Eq.refl _)); (focus (simp; exact Eq.refl _))))); (exact runE_nil))); (focus (first | kernel_rfl | decide)))))
  ((refine post_ret (av := ?_) (by first | exact .inl rfl | exact .inr rfl) (show (Try.f6).results.toList = _ from by rw [Try.results6]) ?_ ?_); rotate_left; (focus (simp [retA, retL, ret1, lk, st, ldA, AV.cell]; rfl)); (try simp [*]))
theorem givens_err (N : Int) (L : List (List Int)) (ts : List Int) (hN : okI N = true) (hr : okRows L = true) (hl : lightB L = true) (ht : okInts ts = true) (ht2 : ts.length ≤ 140) (hc : (!(decide (checkT N L = 0) && termR N ts)) = true) : FnPure Try.prog 6 [aTh N L, aInts ts] (.v (.bool true)) := by
  have hL := okLens_rows hr
  obtain ⟨e, he⟩ : ∃ e, givenA N L ts = .tup [.agg [.v (.int .i64 0), .v (.slice none 0 0)], .v (.int .i64 e)] := by
    unfold givenA
    by_cases hz : checkT N L = 0
    · rw [if_pos hz]
      cases hr : termR N ts
      · exact ⟨1, by rw [if_neg (by simp)]⟩
      · rw [hz, hr] at hc; cases hc
    · exact ⟨_, by rw [if_neg hz]⟩
  have hsm : thSame N L N L = true := by simp [thSame]
  have hsm0 : thSame 0 [] 0 [] = true := by simp [thSame]
  have hi0 : okI 0 = true := rfl
  have hlt : ¬ (140 : Int) < (ts.length : Int) := by omega
  have hc1 : checkT N L = 0 → termR N ts = false := fun h => by rw [h] at hc; simpa using hc
  unfold aTh
  have hfe : aTh N L = .agg [.v (.int .i64 N), aRows L] := rfl
  refine fn_sp TT_ok Try.func6 (c := _) rfl (by simp [Try.ntmps6]) (fun B hI0 hro => ?_)
  rw [Try.ntmps6]
  simp only [enumA]
  repeat (first | with_reducible first | refine s_seq ?_ | refine k_seq ?_ | refine k_seq_ret ?_ | refine k_seq_exit ?_ | refine k_blk ?_ | refine k_blk_ret ?_ | refine k_blk_exit ?_ | refine k_lp_ret ?_ | refine k_lp_exit ?_ | refine ki_lp_ret ?_ | refine ki_lp_exit ?_ | refine s_block ?_ | refine sp_skip ?_ | refine sp_ret ?_ | refine sp_exit ?_ | ((with_reducible refine k_blk_out ?_ ?_); (focus decide)) | ((with_reducible refine s_cond_t ?_ ?_); (focus (simp [*]; done))) | ((with_reducible refine s_cond_f ?_ ?_); (focus (simp [*]; done))) | (focus ((with_reducible refine s_region2 (q := ?_) (σ' := ?_) TT_ok PT61_ok ?_ ?_ ?_); rotate_left 2; (focus (first | (simp; exact Eq.refl _) | exact Eq.refl _)); (focus ((repeat (((with_reducible refine runL_cons (σ1 := ?_) ?_ ?_); rotate_left; (focus (simp [*]; rfl))))); (exact runL_nil))))) | (focus ((with_reducible refine s_draw2 (q := ?_) (es := ?_) (σ' := ?_) prog_mixed TT_ok PT61_ok ?_ ?_ ?_ ?_); rotate_left 3; (focus (first | (simp; exact Eq.refl _) | exact Eq.refl _)); (focus ((repeat (((with_reducible refine runE_cons (e := ?_) (σ1 := ?_) (es := ?_) ?_ ?_ ?_); rotate_left 3; (focus (simp [*]; exact Eq.refl _)); (focus (simp; exact Eq.refl _))))); (exact runE_nil))); (focus (first | kernel_rfl | decide)))))
  ((refine post_ret (av := ?_) (by first | exact .inl rfl | exact .inr rfl) (show (Try.f6).results.toList = _ from by rw [Try.results6]) ?_ ?_); rotate_left; (focus (simp [retA, retL, ret1, lk, st, ldA, AV.cell]; rfl)); (try simp [*]))
theorem theoryGivens_p (N : Int) (L : List (List Int)) (ts : List Int) (hN : okI N = true) (hL : okLens L = true) (ht : okIL ts = true) : FnPure Try.prog 6 [aTh N L, aInts ts] (.v (.bool true)) := by
  by_cases hl : lightB L = true
  · have hr := light_rows hL hl
    by_cases h2 : ts.length ≤ 140
    · have ht' := okInts_il ht (by omega)
      cases hc : decide (checkT N L = 0) && termR N ts
      · exact givens_err N L ts hN hr hl ht' h2 (by rw [hc]; rfl)
      · rw [Bool.and_eq_true, decide_eq_true_eq] at hc
        exact givens_ok N L ts hN hr hl ht' h2 hc.1 hc.2
    · have hlt : (140 : Int) < (ts.length : Int) := by omega
      unfold aTh
      refine fn_sp TT_ok Try.func6 (c := _) rfl (by simp [Try.ntmps6]) (fun B hI0 hro => ?_)
      rw [Try.ntmps6]
      simp only [enumA]
      repeat (first | with_reducible first | refine s_seq ?_ | refine k_seq ?_ | refine k_seq_ret ?_ | refine k_seq_exit ?_ | refine k_blk ?_ | refine k_blk_ret ?_ | refine k_blk_exit ?_ | refine k_lp_ret ?_ | refine k_lp_exit ?_ | refine ki_lp_ret ?_ | refine ki_lp_exit ?_ | refine s_block ?_ | refine sp_skip ?_ | refine sp_ret ?_ | refine sp_exit ?_ | ((with_reducible refine k_blk_out ?_ ?_); (focus decide)) | ((with_reducible refine s_cond_t ?_ ?_); (focus (simp [*]; done))) | ((with_reducible refine s_cond_f ?_ ?_); (focus (simp [*]; done))) | (focus ((with_reducible refine s_region2 (q := ?_) (σ' := ?_) TT_ok PT61_ok ?_ ?_ ?_); rotate_left 2; (focus (first | (simp; exact Eq.refl _) | exact Eq.refl _)); (focus ((repeat (((with_reducible refine runL_cons (σ1 := ?_) ?_ ?_); rotate_left; (focus (simp [*]; rfl))))); (exact runL_nil))))) | (focus ((with_reducible refine s_draw2 (q := ?_) (es := ?_) (σ' := ?_) prog_mixed TT_ok PT61_ok ?_ ?_ ?_ ?_); rotate_left 3; (focus (first | (simp; exact Eq.refl _) | exact Eq.refl _)); (focus ((repeat (((with_reducible refine runE_cons (e := ?_) (σ1 := ?_) (es := ?_) ?_ ?_ ?_); rotate_left 3; (focus (simp [*]; exact Eq.refl _)); (focus (simp; exact Eq.refl _))))); (exact runE_nil))); (focus (first | kernel_rfl | decide)))))
      ((refine post_ret (av := ?_) (by first | exact .inl rfl | exact .inr rfl) (show (Try.f6).results.toList = _ from by rw [Try.results6]) ?_ ?_); rotate_left; (focus (simp [retA, retL, ret1, lk, st, ldA, AV.cell]; rfl)); (try simp [*]))
  · unfold aTh
    refine fn_sp TT_ok Try.func6 (c := _) rfl (by simp [Try.ntmps6]) (fun B hI0 hro => ?_)
    rw [Try.ntmps6]
    simp only [enumA]
    repeat (first | with_reducible first | refine s_seq ?_ | refine k_seq ?_ | refine k_seq_ret ?_ | refine k_seq_exit ?_ | refine k_blk ?_ | refine k_blk_ret ?_ | refine k_blk_exit ?_ | refine k_lp_ret ?_ | refine k_lp_exit ?_ | refine ki_lp_ret ?_ | refine ki_lp_exit ?_ | refine s_block ?_ | refine sp_skip ?_ | refine sp_ret ?_ | refine sp_exit ?_ | ((with_reducible refine k_blk_out ?_ ?_); (focus decide)) | ((with_reducible refine s_cond_t ?_ ?_); (focus (simp [*]; done))) | ((with_reducible refine s_cond_f ?_ ?_); (focus (simp [*]; done))) | (focus ((with_reducible refine s_region2 (q := ?_) (σ' := ?_) TT_ok PT61_ok ?_ ?_ ?_); rotate_left 2; (focus (first | (simp; exact Eq.refl _) | exact Eq.refl _)); (focus ((repeat (((with_reducible refine runL_cons (σ1 := ?_) ?_ ?_); rotate_left; (focus (simp [*]; rfl))))); (exact runL_nil))))) | (focus ((with_reducible refine s_draw2 (q := ?_) (es := ?_) (σ' := ?_) prog_mixed TT_ok PT61_ok ?_ ?_ ?_ ?_); rotate_left 3; (focus (first | (simp; exact Eq.refl _) | exact Eq.refl _)); (focus ((repeat (((with_reducible refine runE_cons (e := ?_) (σ1 := ?_) (es := ?_) ?_ ?_ ?_); rotate_left 3; (focus (simp [*]; exact Eq.refl _)); (focus (simp; exact Eq.refl _))))); (exact runE_nil))); (focus (first | kernel_rfl | decide)))))
    ((refine post_ret (av := ?_) (by first | exact .inl rfl | exact .inr rfl) (show (Try.f6).results.toList = _ from by rw [Try.results6]) ?_ ?_); rotate_left; (focus (simp [retA, retL, ret1, lk, st, ldA, AV.cell]; rfl)); (try simp [*]))
namespace theoryGivens
set_option maxRecDepth 100000 in
theorem lifted (os : Os) (started : os.Started) (H : Type) (enc : TypeId × Value → H) :
    ReturnsInHanded {} Try.checked os 6 .any (Rows.theoryGivensSpec.pre6 enc Try.prog Go.Proofs.Try.f6 Rows.theoryGivensRow.domain false) (Rows.theoryGivensSpec.post enc Try.prog Go.Proofs.Try.f6 false true false false) := by
  refine returnsInHanded_of_change (C := Try.checked) (by kernel_rfl) started (by kernel_rfl) Try.func6
    (ChangeSpec.witness6 (enc := enc) (C := Try.checked) false ⟨#[], #[.agg #[.int .i64 0, .slice none 0 0], .slice none 0 0], []⟩ 8 (by kernel_rfl) (by kernel_rfl) (by kernel_rfl) (by kernel_rfl)) ?_
  intro W base args ds gs before hval0 hW hcnd _
  have hval : ∀ (j : Nat) t v, (Go.Proofs.Try.f6).params[j]? = some t → args[j]? = some v → Value.okWide Try.prog W .any base t v := hval0
  have hW2 := hW
  obtain ⟨p, q, hA0, hV, _, _, _⟩ := hW
  have hA : DataW.TrodAll enc Try.prog W 0 (fun _ => true) true (Go.Proofs.Try.f6).params.toList args.toList ds p := hA0
  rw [Try.params6] at hA hval
  clear hA0 hval0 hcnd
  obtain ⟨rfl, _⟩ := trodVars_none hV
  obtain ⟨v0, vs0, d0, ds0, p0, q0, hargs, rfl, _, h0, r0⟩ := trodAll_cons hA
  obtain ⟨v1, vs1, d1, ds1, p1, q1, rfl, rfl, _, h1, r1⟩ := trodAll_cons r0
  obtain ⟨rfl, rfl, _⟩ := trodAll_nil r1
  obtain rfl : args = #[v0, v1] := by cases args; simp_all
  obtain ⟨N, L, ra0, oN0, oL0⟩ := arg_th (hval 0 _ v0 rfl rfl) h0
  obtain ⟨ts, ra1, o1⟩ := arg_ints (hval 1 _ v1 rfl rfl) h1
  refine law_of_pure (glob0 _) (avs := [.agg [.v (.int .i64 N), aRows L], aInts ts]) (by kernel_rfl) hW2 rfl (rec_ok (by kernel_rfl)) (tb := 4) rfl Try.underlying4 rfl rfl rfl rfl (fun i hi => ?_) (theoryGivens_p N L ts oN0 oL0 o1)
  match i, hi with
  | 0, _ => exact ra0
  | 1, _ => exact ra1
theorem proved : Rows.TheoryGivensSaid :=
  OpenClaim.holds_of_wide 6 Go.Proofs.Try.f6 rfl rfl rfl rfl rfl rfl rfl ⟨rfl, rfl, rfl, rfl, rfl⟩ rfl rfl rfl rfl rfl (by kernel_rfl) Try.func6 (by kernel_rfl)
    (of_decide_eq_true (by kernel_rfl)) (by unfold Func.isWrapper; first | (rw [if_pos (by decide +kernel)]; kernel_rfl) | (rw [if_neg (by decide +kernel)]; exact ⟨rfl, rfl⟩))
    (fun os started H enc _ => lifted os started H enc)
end theoryGivens
end Go.Proofs.Ytkollnaojpppcaa
