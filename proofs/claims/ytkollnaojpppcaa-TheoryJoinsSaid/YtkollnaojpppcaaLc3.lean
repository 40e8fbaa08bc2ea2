/- The law TheoryJoins, by the abstract machine; no condition. -/
import Derived.Test.YtkollnaojpppcaaLc0
import Derived.Test.YtkollnaojpppcaaJo
namespace Go.Proofs.Ytkollnaojpppcaa
set_option linter.unusedVariables false
set_option linter.unusedSimpArgs false
set_option linter.unusedSectionVars false
open Go.ChangeShapes Go.WideShapes Go.ChangeAt Go.RowKit
attribute [local simp] List.getD_cons_zero List.getD_cons_succ List.getD_nil undef gvars runL runE effA stepA dstOk wantA core lk st dl AS.ev AS.evs AS.put AS.upd updO updI nxt cPick cAlloc cBox cBuild cBuildS cLoad cStore cNil plainOf cBin cNilS isNilS nilA cUn cConvX cConvB cConv bytesOf rowB cMake cSlice slA idxA cFA cF cIA cIX cIS cI cExt cLen cApp cMM cFun cCall lenA lenM isNilM nilM cNilM cMakeM hintB cMapK cLook foundR lookR cUpd putM cDel delM findA isKeyB Instr.sameNow AS.entry AS.bound AS.callee sc1 sc2 ixOk ldA AV.flat AV.cell AV.cells Value.oneCell' fillA spl chunk zeros AS.parts AS.rows AS.shut AS.shut1 AS.shut2 AS.shutL AS.shutM AV.ids idsL idsLL eqAll bndA AV.scalar AV.scalar1 AV.isV Ef.app Ef.pk ptOf pntO wrO wr
attribute [-simp] List.getD_eq_getElem?_getD
set_option maxRecDepth 100000
@[simp] def g_joinE : List AV → Option (AV × Bool)
  | [.agg [.v (.int .i64 N), a0], .agg [.v (.int .i64 M), a1]] => (match toRows a0 with | some L => (match toRows a1 with | some K => if (okI N && okRows L && okI M && okRows K && !(decide (joinE N L M K = 0))) = true then some (joinA N L M K, false) else none | none => none) | none => none)
  | _ => none
theorem e_joinE : EntOk Try.prog 32 g_joinE := ent_pure (by kernel_rfl) fun args r fr h => by
  unfold g_joinE at h
  split at h
  · rename_i N a0 M a1
    split at h
    · rename_i L t0
      split at h
      · rename_i K t1
        split at h
        · rename_i hc
          simp only [Bool.and_eq_true] at hc
          obtain ⟨⟨⟨⟨m0, o0⟩, m1⟩, o1⟩, hk⟩ := hc
          cases h
          exact ⟨FnPure.cov (join_p N L M K m0 m1 o0 o1) (.cons (cov_th _ (cov_rows t0)) (.cons (cov_th _ (cov_rows t1)) .nil)), rfl⟩
        · cases h
      · cases h
    · cases h
  · cases h

def l62 : List (FuncId × (List AV → Option (AV × Bool))) :=
  (32, g_joinE) :: (33, g_rJoin) :: l60
theorem l62_ok : ∀ p ∈ l62, EntOk Try.prog p.1 p.2 := ent_cons e_joinE (ent_cons e_rJoin (l60_ok))
def PT62 : PTab := tab l62
theorem PT62_ok : PTok Try.prog PT62 := tab_ok l62_ok
@[simp] theorem PT62_litVar : PT62 41 = g_litVar := rfl
@[simp] theorem PT62_litValid : PT62 36 = g_litValid := rfl
@[simp] theorem PT62_check : PT62 17 = g_check := rfl
@[simp] theorem PT62_with : PT62 56 = g_with := rfl
@[simp] theorem PT62_all : PT62 48 = g_all := rfl
@[simp] theorem PT62_rValid : PT62 37 = g_rValid := rfl
@[simp] theorem PT62_rHas : PT62 60 = g_rHas := rfl
@[simp] theorem PT62_rHolds : PT62 51 = g_rHolds := rfl
@[simp] theorem PT62_rAssign : PT62 50 = g_rAssign := rfl
@[simp] theorem PT62_rCheck : PT62 18 = g_rCheck := rfl
@[simp] theorem PT62_rEval : PT62 25 = g_rEval := rfl
@[simp] theorem PT62_litvalid : PT62 61 = g_litvalid := rfl
@[simp] theorem PT62_opposite : PT62 63 = g_opposite := rfl
@[simp] theorem PT62_clone : PT62 58 = g_clone := rfl
@[simp] theorem PT62_order : PT62 62 = g_order := rfl
@[simp] theorem PT62_term : PT62 52 = g_term := rfl
@[simp] theorem PT62_clause : PT62 38 = g_clause := rfl
@[simp] theorem PT62_equal : PT62 43 = g_equal := rfl
@[simp] theorem PT62_distinct : PT62 42 = g_distinct := rfl
@[simp] theorem PT62_normal : PT62 20 = g_normal := rfl
@[simp] theorem PT62_rContains : PT62 55 = g_rContains := rfl
@[simp] theorem PT62_rSameInts : PT62 46 = g_rSameInts := rfl
@[simp] theorem PT62_rAbs : PT62 59 = g_rAbs := rfl
@[simp] theorem PT62_rBefore : PT62 66 = g_rBefore := rfl
@[simp] theorem PT62_rSorted : PT62 44 = g_rSorted := rfl
@[simp] theorem PT62_rPut : PT62 45 = g_rPut := rfl
@[simp] theorem PT62_rNormal : PT62 21 = g_rNormal := rfl
@[simp] theorem PT62_place : PT62 73 = g_place := rfl
@[simp] theorem PT62_vHas : PT62 91 = g_vHas := rfl
@[simp] theorem PT62_vMinus : PT62 67 = g_vMinus := rfl
@[simp] theorem PT62_vSub : PT62 47 = g_vSub := rfl
@[simp] theorem PT62_litHolds : PT62 70 = g_litHolds := rfl
@[simp] theorem PT62_litAny : PT62 49 = g_litAny := rfl
@[simp] theorem PT62_thEval : PT62 24 = g_thEval := rfl
@[simp] theorem PT62_rSame : PT62 22 = g_rSame := rfl
@[simp] theorem PT62_rTerm : PT62 54 = g_rTerm := rfl
@[simp] theorem PT62_thVars : PT62 31 = g_thVars := rfl
@[simp] theorem PT62_rVars : PT62 34 = g_rVars := rfl
@[simp] theorem PT62_light : PT62 15 = g_light := rfl
@[simp] theorem PT62_works : PT62 16 = g_works := rfl
@[simp] theorem PT62_copy : PT62 19 = g_copy := rfl
@[simp] theorem PT62_spoil : PT62 23 = g_spoil := rfl
@[simp] theorem PT62_joinE : PT62 32 = g_joinE := rfl
@[simp] theorem PT62_rJoin : PT62 33 = g_rJoin := rfl
attribute [local simp] AV.ren renL obI shO_cons lk_st lk_dl renLL_append
set_option maxHeartbeats 2000000 in
theorem joins_ok (N : Int) (L : List (List Int)) (M : Int) (K : List (List Int)) (hN : okI N = true) (hM : okI M = true) (hr : okRows L = true) (hr2 : okRows K = true) (hl : lightB L = true) (hl2 : lightB K = true) (z1 : checkT N L = 0) (z2 : checkT M K = 0) (h3 : ¬ 4096 < L.length + K.length) : FnPure Try.prog 11 [aTh N L, aTh M K] (.v (.bool true)) := by
  have hL := okLens_rows hr
  have hL2 := okLens_rows hr2
  have hnb := joinA_ok z1 z2 h3
  have hUr : okRows (L ++ K) = true := by
    have g1 := okRows_len hr
    have g2 := okRows_len hr2
    have hlen : (L ++ K).length = L.length + K.length := List.length_append
    simp only [okRows, Bool.and_eq_true, decide_eq_true_eq, List.all_append] at hr hr2 ⊢
    exact ⟨⟨hr.1, hr2.1⟩, by omega⟩
  have hUm := okRows_len hUr
  have hob := join_obj N L M K hN hM hr hr2 z1 z2 h3
  unfold resT objT idsT at hob
  have hsm : thSame N L N L = true := by simp [thSame]
  have hsm2 : thSame M K M K = true := by simp [thSame]
  clear h3
  generalize L ++ K = U at hnb hUr hUm hob
  generalize (if N < M then M else N) = P at hnb hob
  have hsmU : thSame P U P U = true := by simp [thSame]
  unfold aTh at *
  have hfe : aTh N L = .agg [.v (.int .i64 N), aRows L] := rfl
  have hfe2 : aTh M K = .agg [.v (.int .i64 M), aRows K] := rfl
  refine fn_sp TT_ok Try.func11 (c := _) rfl (by simp [Try.ntmps11]) (fun B hI0 hro => ?_)
  rw [Try.ntmps11]
  simp only [enumA]
  repeat (first | with_reducible first | refine s_seq ?_ | refine k_seq ?_ | refine k_seq_ret ?_ | refine k_seq_exit ?_ | refine k_blk ?_ | refine k_blk_ret ?_ | refine k_blk_exit ?_ | refine k_lp_ret ?_ | refine k_lp_exit ?_ | refine ki_lp_ret ?_ | refine ki_lp_exit ?_ | refine s_block ?_ | refine sp_skip ?_ | refine sp_ret ?_ | refine sp_exit ?_ | ((with_reducible refine k_blk_out ?_ ?_); (focus decide)) | ((with_reducible refine s_cond_t ?_ ?_); (focus (simp [*]; done))) | ((with_reducible refine s_cond_f ?_ ?_); (focus (simp [*]; done))))
  (focus ((with_reducible refine s_region2 (q := ?_) (σ' := ?_) TT_ok PT62_ok ?_ ?_ ?_); rotate_left 2; (focus (first | (simp; exact Eq.refl _) | exact Eq.refl _)); (focus ((repeat (((with_reducible refine runL_cons (σ1 := ?_) ?_ ?_); rotate_left; (focus (simp [*]; rfl))))); (exact runL_nil)))))
  repeat (first | with_reducible first | refine s_seq ?_ | refine k_seq ?_ | refine k_seq_ret ?_ | refine k_seq_exit ?_ | refine k_blk ?_ | refine k_blk_ret ?_ | refine k_blk_exit ?_ | refine k_lp_ret ?_ | refine k_lp_exit ?_ | refine ki_lp_ret ?_ | refine ki_lp_exit ?_ | refine s_block ?_ | refine sp_skip ?_ | refine sp_ret ?_ | refine sp_exit ?_ | ((with_reducible refine k_blk_out ?_ ?_); (focus decide)) | ((with_reducible refine s_cond_t ?_ ?_); (focus (simp [*]; done))) | ((with_reducible refine s_cond_f ?_ ?_); (focus (simp [*]; done))))
  (focus ((with_reducible refine s_region2 (q := ?_) (σ' := ?_) TT_ok PT62_ok ?_ ?_ ?_); rotate_left 2; (focus (first | (simp; exact Eq.refl _) | exact Eq.refl _)); (focus ((repeat (((with_reducible refine runL_cons (σ1 := ?_) ?_ ?_); rotate_left; (focus (simp [*]; rfl))))); (exact runL_nil)))))
  repeat (first | with_reducible first | refine s_seq ?_ | refine k_seq ?_ | refine k_seq_ret ?_ | refine k_seq_exit ?_ | refine k_blk ?_ | refine k_blk_ret ?_ | refine k_blk_exit ?_ | refine k_lp_ret ?_ | refine k_lp_exit ?_ | refine ki_lp_ret ?_ | refine ki_lp_exit ?_ | refine s_block ?_ | refine sp_skip ?_ | refine sp_ret ?_ | refine sp_exit ?_ | ((with_reducible refine k_blk_out ?_ ?_); (focus decide)) | ((with_reducible refine s_cond_t ?_ ?_); (focus (simp [*]; done))) | ((with_reducible refine s_cond_f ?_ ?_); (focus (simp [*]; done))))
  (focus ((with_reducible refine s_draw2 (q := ?_) (es := ?_) (σ' := ?_) prog_mixed TT_ok PT62_ok ?_ ?_ ?_ ?_); rotate_left 3; (focus (first | (simp; exact Eq.refl _) | exact Eq.refl _)); (focus ((repeat (((with_reducible refine runE_cons (e := ?_) (σ1 := ?_) (es := ?_) ?_ ?_ ?_); rotate_left 3; (focus (simp [*]; exact Eq.refl _)); (focus (simp; exact Eq.refl _))))); (exact runE_nil))); (focus (simp [fpA, fpF, isFn, fpo, topIds, lightS, light, Op.operands, Call.operands]; try kernel_rfl))))
  repeat (first | with_reducible first | refine s_seq ?_ | refine k_seq ?_ | refine k_seq_ret ?_ | refine k_seq_exit ?_ | refine k_blk ?_ | refine k_blk_ret ?_ | refine k_blk_exit ?_ | refine k_lp_ret ?_ | refine k_lp_exit ?_ | refine ki_lp_ret ?_ | refine ki_lp_exit ?_ | refine s_block ?_ | refine sp_skip ?_ | refine sp_ret ?_ | refine sp_exit ?_ | ((with_reducible refine k_blk_out ?_ ?_); (focus decide)) | ((with_reducible refine s_cond_t ?_ ?_); (focus (simp [*]; done))) | ((with_reducible refine s_cond_f ?_ ?_); (focus (simp [*]; done))))
  refine s_regionL ?_
  ((iterate 2 (((with_reducible refine spl_step TT_ok PT62_ok (id := 0) (σ' := ?_) ?_ ?_); rotate_left; (focus (simp [*]; rfl))))))
  refine spl_obj hob 1000 (by simp) rfl rfl (enters_ok (avs := [.agg [.v (.int .i64 N), aRows L], .agg [.v (.int .i64 M), aRows K]]) (cs := []) rfl (by kernel_rfl) rfl rfl) (by simp [idsL, AV.ids]) (fun c h => by cases h) ?_
  simp only [shO_cons, shO_famI, ren_refsI_add, List.map_cons, List.cons_append]
  refine spl_famE (by simp) ?_
  (refine spl_eq (τ := ?_) ?_ ?_; rotate_left; (focus ((try simp only [AS.frz, List.map_cons, List.map_nil]); (try simp [frzV, frzO, frzC, List.filter]); rfl)))
  ((iterate 3 (((with_reducible refine spl_step TT_ok PT62_ok (id := 0) (σ' := ?_) ?_ ?_); rotate_left; (focus (simp [*]; rfl))))))
  (((with_reducible refine spl_step TT_ok PT62_ok (id := 2) (σ' := ?_) ?_ ?_); rotate_left; (focus (simp [*]; rfl))))
  ((iterate 2 (((with_reducible refine spl_step TT_ok PT62_ok (id := 0) (σ' := ?_) ?_ ?_); rotate_left; (focus (simp [*]; rfl))))))
  refine spl_nil ?_
  repeat (first | with_reducible first | refine s_seq ?_ | refine k_seq ?_ | refine k_seq_ret ?_ | refine k_seq_exit ?_ | refine k_blk ?_ | refine k_blk_ret ?_ | refine k_blk_exit ?_ | refine k_lp_ret ?_ | refine k_lp_exit ?_ | refine ki_lp_ret ?_ | refine ki_lp_exit ?_ | refine s_block ?_ | refine sp_skip ?_ | refine sp_ret ?_ | refine sp_exit ?_ | ((with_reducible refine k_blk_out ?_ ?_); (focus decide)) | ((with_reducible refine s_cond_t ?_ ?_); (focus (simp [*]; done))) | ((with_reducible refine s_cond_f ?_ ?_); (focus (simp [*]; done))))
  refine s_regionL ?_
  ((iterate 6 (((with_reducible refine spl_step TT_ok PT62_ok (id := 0) (σ' := ?_) ?_ ?_); rotate_left; (focus (simp [*]; rfl))))))
  (((with_reducible refine spl_step TT_ok PT62_ok (id := 3) (σ' := ?_) ?_ ?_); rotate_left; (focus (simp [*]; rfl))))
  ((iterate 2 (((with_reducible refine spl_step TT_ok PT62_ok (id := 0) (σ' := ?_) ?_ ?_); rotate_left; (focus (simp [*]; rfl))))))
  refine spl_nil ?_
  repeat (first | with_reducible first | refine s_seq ?_ | refine k_seq ?_ | refine k_seq_ret ?_ | refine k_seq_exit ?_ | refine k_blk ?_ | refine k_blk_ret ?_ | refine k_blk_exit ?_ | refine k_lp_ret ?_ | refine k_lp_exit ?_ | refine ki_lp_ret ?_ | refine ki_lp_exit ?_ | refine s_block ?_ | refine sp_skip ?_ | refine sp_ret ?_ | refine sp_exit ?_ | ((with_reducible refine k_blk_out ?_ ?_); (focus decide)) | ((with_reducible refine s_cond_t ?_ ?_); (focus (simp [*]; done))) | ((with_reducible refine s_cond_f ?_ ?_); (focus (simp [*]; done))))
  refine s_drawX (es := ?es) (σ' := ?s1) (σ0 := ?s0) (o0 := ?o0) (e0 := ⟨some 42, .v (.bool true), [], [40, 41, 39], [1000] ++ List.range' 1001 U.length, none⟩) (q := 10) prog_mixed TT_ok PT62_ok ?he0 ?hrun ?hok ?kk
  case hrun =>
    (((with_reducible refine runX_cons (e := ?_) (σ1 := ?_) (es := ?_) ?_ ?_ ?_ ?_); rotate_left 4; (focus (simp [*]; exact Eq.refl _)); (focus (simp; exact Eq.refl _))))
    (((with_reducible refine runX_cons (e := ?_) (σ1 := ?_) (es := ?_) ?_ ?_ ?_ ?_); rotate_left 4; (focus (simp [*]; exact Eq.refl _)); (focus (simp; exact Eq.refl _))))
    (((with_reducible refine runX_cons (e := ?_) (σ1 := ?_) (es := ?_) ?_ ?_ ?_ ?_); rotate_left 4; (focus (simp [*]; exact Eq.refl _)); (focus (simp; exact Eq.refl _))))
    (((with_reducible refine runX_cons (e := ?_) (σ1 := ?_) (es := ?_) ?_ ?_ ?_ ?_); rotate_left 4; (focus (simp [*]; exact Eq.refl _)); (focus (simp; exact Eq.refl _))))
    (((with_reducible refine runX_cons (e := ?_) (σ1 := ?_) (es := ?_) ?_ ?_ ?_ ?_); rotate_left 4; (focus (simp [*]; exact Eq.refl _)); (focus (simp; exact Eq.refl _))))
    (((with_reducible refine runX_cons (e := ?_) (σ1 := ?_) (es := ?_) ?_ ?_ ?_ ?_); rotate_left 4; (focus (simp [*]; exact Eq.refl _)); (focus (simp; exact Eq.refl _))))
    refine runX_call (es := ?_) (σ1 := ?_) ?_ ?_
    rotate_left 2
    · simp; exact Eq.refl _
    (((with_reducible refine runX_cons (e := ?_) (σ1 := ?_) (es := ?_) ?_ ?_ ?_ ?_); rotate_left 4; (focus (simp [*]; exact Eq.refl _)); (focus (simp; exact Eq.refl _))))
    (((with_reducible refine runX_cons (e := ?_) (σ1 := ?_) (es := ?_) ?_ ?_ ?_ ?_); rotate_left 4; (focus (simp [*]; exact Eq.refl _)); (focus (simp; exact Eq.refl _))))
    (((with_reducible refine runX_cons (e := ?_) (σ1 := ?_) (es := ?_) ?_ ?_ ?_ ?_); rotate_left 4; (focus (simp [*]; exact Eq.refl _)); (focus (simp; exact Eq.refl _))))
    (((with_reducible refine runX_cons (e := ?_) (σ1 := ?_) (es := ?_) ?_ ?_ ?_ ?_); rotate_left 4; (focus (simp [*]; exact Eq.refl _)); (focus (simp; exact Eq.refl _))))
    (((with_reducible refine runX_cons (e := ?_) (σ1 := ?_) (es := ?_) ?_ ?_ ?_ ?_); rotate_left 4; (focus (simp [*]; exact Eq.refl _)); (focus (simp; exact Eq.refl _))))
    (((with_reducible refine runX_cons (e := ?_) (σ1 := ?_) (es := ?_) ?_ ?_ ?_ ?_); rotate_left 4; (focus (simp [*]; exact Eq.refl _)); (focus (simp; exact Eq.refl _))))
    (((with_reducible refine runX_cons (e := ?_) (σ1 := ?_) (es := ?_) ?_ ?_ ?_ ?_); rotate_left 4; (focus (simp [*]; exact Eq.refl _)); (focus (simp; exact Eq.refl _))))
    (((with_reducible refine runX_cons (e := ?_) (σ1 := ?_) (es := ?_) ?_ ?_ ?_ ?_); rotate_left 4; (focus (simp [*]; exact Eq.refl _)); (focus (simp; exact Eq.refl _))))
    (((with_reducible refine runX_cons (e := ?_) (σ1 := ?_) (es := ?_) ?_ ?_ ?_ ?_); rotate_left 4; (focus (simp [*]; exact Eq.refl _)); (focus (simp; exact Eq.refl _))))
    exact runX_nil
    all_goals decide
  case he0 =>
    intro D
    refine eff_read (f := 22) (avs := [.agg [.v (.int .i64 P), .ref 1000 0 U.length], .agg [.v (.int .i64 P), aRows U]]) (bvs := [aTh P U, aTh P U]) rfl rfl rfl rfl rfl (by kernel_rfl) rfl (fun τ hτ B G w a hr i v hi hv => ?_) (hsmU ▸ rSame_p P U P U hUr hUr) rfl
    match i, hi with
    | 0, _ =>
      refine read_th hr (k := 1000) (b := 1001) (t := 38) ((hτ 1000 (by simp)).trans rfl) (fun j hj => ?_) hv
      rw [hτ (1001 + j) (by simp; omega)]
      simp only [lk, lk_st]
      repeat rw [if_neg (by omega)]
      exact lk_fam_add hj
    | 1, _ => exact Rv.pure (G := G) (G' := G0 _) (fun b p u h => hr.heap.st b p u h) hv (by simp [aTh, AV.ids, idsL])
  case hok => kernel_rfl
  case kk =>
  repeat (first | with_reducible first | refine s_seq ?_ | refine k_seq ?_ | refine k_seq_ret ?_ | refine k_seq_exit ?_ | refine k_blk ?_ | refine k_blk_ret ?_ | refine k_blk_exit ?_ | refine k_lp_ret ?_ | refine k_lp_exit ?_ | refine ki_lp_ret ?_ | refine ki_lp_exit ?_ | refine s_block ?_ | refine sp_skip ?_ | refine sp_ret ?_ | refine sp_exit ?_ | ((with_reducible refine k_blk_out ?_ ?_); (focus decide)) | ((with_reducible refine s_cond_t ?_ ?_); (focus (simp [*]; done))) | ((with_reducible refine s_cond_f ?_ ?_); (focus (simp [*]; done))))
  refine s_regionL ?_
  ((iterate 1 (((with_reducible refine spl_step TT_ok PT62_ok (id := 0) (σ' := ?_) ?_ ?_); rotate_left; (focus (simp [*]; rfl))))))
  have hmem : ∀ k, k ∈ [1000] ++ List.range' 1001 U.length ↔ k = 1000 ∨ (1001 ≤ k ∧ k < 1001 + U.length) := fun k => by
    rw [List.mem_append, List.mem_singleton, List.mem_range'_1]
  refine spl_lend TT_ok (avs := [.agg [.v (.int .i64 P), .ref 1000 0 U.length]]) (L := [.agg [.v (.int .i64 P), .ref 1000 0 U.length]]) (f := 23) rfl rfl rfl rfl rfl (by kernel_rfl) Try.func23 (c := _) rfl (by simp [Try.ntmps23]) ([(1000, ⟨38, 1, refsI 1001 U⟩)] ++ fam 1001 U) ([1000] ++ List.range' 1001 U.length) (fun k => ?_) (fun k hk => (hmem k).2 (.inl (by simpa [idsL, AV.ids] using hk))) (fun k hk ob hob q hq => ?_) (av := .tup []) rfl [] ([1000] ++ List.range' 1001 U.length) (fun k hk => .inl hk) (fun B' hI' hro' => ?_) ?_
  · rw [lk_append]
    by_cases e : k = 1000
    · subst e; rw [if_pos ((hmem _).2 (.inl rfl))]; simp [lk]
    · by_cases hk : 1001 ≤ k ∧ k < 1001 + U.length
      · rw [if_pos ((hmem k).2 (.inr hk))]
        simp only [lk, lk_st]
        repeat rw [if_neg (by omega)]
      · rw [if_neg (fun hh => by rcases (hmem k).1 hh with hh | hh; exact e hh; exact hk hh), lk_famI, if_neg hk]
        simp [lk, Ne.symm e]
  · rcases (hmem k).1 hk with rfl | hk
    · simp only [lk, if_true, Option.some.injEq] at hob
      subst hob
      exact (hmem q).2 (.inr (ids_refsI 1001 U hq))
    · obtain ⟨j, rfl⟩ : ∃ j, k = 1001 + j := ⟨k - 1001, by omega⟩
      simp only [lk, lk_st] at hob
      repeat rw [if_neg (by omega)] at hob
      rw [lk_fam_add (by omega)] at hob
      cases hob
      rw [show idsLL (obI (U.getD j [])).xs = [] from ids_ints _] at hq; cases hq
  · rw [Try.ntmps23]
    exact spoil_sp P U (by omega) (fun j => by have := okInts_len (okRows_at hUr j); omega) B' hI' hro' _ rfl
  refine spl_nil ?_
  refine k_seq ?_
  refine s_weak ⟨65, [(2, .ptr 0 0 0), (3, .ptr 1 0 0), (4, .v (.bool false)), (5, .ptr 6 0 0), (6, .ptr 7 0 0)], [(0, ⟨24, 2, [[.v (.int .i64 N), aRows L]]⟩), (1, ⟨24, 2, [[.v (.int .i64 M), aRows K]]⟩), (6, ⟨24, 2, [[.v (.int .i64 N), aRows L]]⟩), (7, ⟨24, 2, [[.v (.int .i64 M), aRows K]]⟩)], [7, 6, 1, 0]⟩ (weak_id rfl (by simp [lk, AS.put, AS.upd, AV.ids]) (fun p hp => ?_)) ?_ hI0
  · simp only [List.mem_cons, List.not_mem_nil, or_false] at hp
    rcases hp with rfl | rfl | rfl | rfl
    · refine ⟨(lk_updMap (fun k => lk [] k) 0 _ _).trans ?_, by simp, by simp [idsLL, idsL]⟩
      rw [if_neg (fun h => by have := (hmem 0).1 h; omega)]
      simp [lk]
    · refine ⟨(lk_updMap (fun k => lk [] k) 1 _ _).trans ?_, by simp, by simp [idsLL, idsL]⟩
      rw [if_neg (fun h => by have := (hmem 1).1 h; omega)]
      simp [lk]
    · refine ⟨(lk_updMap (fun k => lk [] k) 6 _ _).trans ?_, by simp, by simp [idsLL, idsL]⟩
      rw [if_neg (fun h => by have := (hmem 6).1 h; omega)]
      simp [lk]
    · refine ⟨(lk_updMap (fun k => lk [] k) 7 _ _).trans ?_, by simp, by simp [idsLL, idsL]⟩
      rw [if_neg (fun h => by have := (hmem 7).1 h; omega)]
      simp [lk]
  repeat (first | with_reducible first | refine s_seq ?_ | refine k_seq ?_ | refine k_seq_ret ?_ | refine k_seq_exit ?_ | refine k_blk ?_ | refine k_blk_ret ?_ | refine k_blk_exit ?_ | refine k_lp_ret ?_ | refine k_lp_exit ?_ | refine ki_lp_ret ?_ | refine ki_lp_exit ?_ | refine s_block ?_ | refine sp_skip ?_ | refine sp_ret ?_ | refine sp_exit ?_ | ((with_reducible refine k_blk_out ?_ ?_); (focus decide)) | ((with_reducible refine s_cond_t ?_ ?_); (focus (simp [*]; done))) | ((with_reducible refine s_cond_f ?_ ?_); (focus (simp [*]; done))) | (focus ((with_reducible refine s_region2 (q := ?_) (σ' := ?_) TT_ok PT62_ok ?_ ?_ ?_); rotate_left 2; (focus (first | (simp; exact Eq.refl _) | exact Eq.refl _)); (focus ((repeat (((with_reducible refine runL_cons (σ1 := ?_) ?_ ?_); rotate_left; (focus (simp [*]; rfl))))); (exact runL_nil))))) | (focus ((with_reducible refine s_draw2 (q := ?_) (es := ?_) (σ' := ?_) prog_mixed TT_ok PT62_ok ?_ ?_ ?_ ?_); rotate_left 3; (focus (first | (simp; exact Eq.refl _) | exact Eq.refl _)); (focus ((repeat (((with_reducible refine runE_cons (e := ?_) (σ1 := ?_) (es := ?_) ?_ ?_ ?_); rotate_left 3; (focus (simp [*]; exact Eq.refl _)); (focus (simp; exact Eq.refl _))))); (exact runE_nil))); (focus (first | kernel_rfl | decide)))))
  ((refine post_ret (av := ?_) (by first | exact .inl rfl | exact .inr rfl) (show (Try.f11).results.toList = _ from by rw [Try.results11]) ?_ ?_); rotate_left; (focus (simp [retA, retL, ret1, lk, st, ldA, AV.cell]; rfl)); (try simp [*]))
set_option maxHeartbeats 2000000 in
theorem joins_err (N : Int) (L : List (List Int)) (M : Int) (K : List (List Int)) (hN : okI N = true) (hM : okI M = true) (hr : okRows L = true) (hr2 : okRows K = true) (hl : lightB L = true) (hl2 : lightB K = true) (hc : joinE N L M K ≠ 0) : FnPure Try.prog 11 [aTh N L, aTh M K] (.v (.bool true)) := by
  have hL := okLens_rows hr
  have hL2 := okLens_rows hr2
  have hJ := joinA_no (rfl : joinE N L M K = joinE N L M K) hc
  have hsm : thSame N L N L = true := by simp [thSame]
  have hsm2 : thSame M K M K = true := by simp [thSame]
  have hsm0 : thSame 0 [] 0 [] = true := by simp [thSame]
  have hi0 : okI 0 = true := rfl
  unfold aTh
  have hfe : aTh N L = .agg [.v (.int .i64 N), aRows L] := rfl
  have hfe2 : aTh M K = .agg [.v (.int .i64 M), aRows K] := rfl
  have hjd : decide (joinE N L M K = 0) = false := by simp [hc]
  refine fn_sp TT_ok Try.func11 (c := _) rfl (by simp [Try.ntmps11]) (fun B hI0 hro => ?_)
  rw [Try.ntmps11]
  simp only [enumA]
  repeat (first | with_reducible first | refine s_seq ?_ | refine k_seq ?_ | refine k_seq_ret ?_ | refine k_seq_exit ?_ | refine k_blk ?_ | refine k_blk_ret ?_ | refine k_blk_exit ?_ | refine k_lp_ret ?_ | refine k_lp_exit ?_ | refine ki_lp_ret ?_ | refine ki_lp_exit ?_ | refine s_block ?_ | refine sp_skip ?_ | refine sp_ret ?_ | refine sp_exit ?_ | ((with_reducible refine k_blk_out ?_ ?_); (focus decide)) | ((with_reducible refine s_cond_t ?_ ?_); (focus (simp [*]; done))) | ((with_reducible refine s_cond_f ?_ ?_); (focus (simp [*]; done))))
  (focus ((with_reducible refine s_region2 (q := ?_) (σ' := ?_) TT_ok PT62_ok ?_ ?_ ?_); rotate_left 2; (focus (first | (simp; exact Eq.refl _) | exact Eq.refl _)); (focus ((repeat (((with_reducible refine runL_cons (σ1 := ?_) ?_ ?_); rotate_left; (focus (simp [*]; rfl))))); (exact runL_nil)))))
  repeat (first | with_reducible first | refine s_seq ?_ | refine k_seq ?_ | refine k_seq_ret ?_ | refine k_seq_exit ?_ | refine k_blk ?_ | refine k_blk_ret ?_ | refine k_blk_exit ?_ | refine k_lp_ret ?_ | refine k_lp_exit ?_ | refine ki_lp_ret ?_ | refine ki_lp_exit ?_ | refine s_block ?_ | refine sp_skip ?_ | refine sp_ret ?_ | refine sp_exit ?_ | ((with_reducible refine k_blk_out ?_ ?_); (focus decide)) | ((with_reducible refine s_cond_t ?_ ?_); (focus (simp [*]; done))) | ((with_reducible refine s_cond_f ?_ ?_); (focus (simp [*]; done))))
  (focus ((with_reducible refine s_region2 (q := ?_) (σ' := ?_) TT_ok PT62_ok ?_ ?_ ?_); rotate_left 2; (focus (first | (simp; exact Eq.refl _) | exact Eq.refl _)); (focus ((repeat (((with_reducible refine runL_cons (σ1 := ?_) ?_ ?_); rotate_left; (focus (simp [*]; rfl))))); (exact runL_nil)))))
  repeat (first | with_reducible first | refine s_seq ?_ | refine k_seq ?_ | refine k_seq_ret ?_ | refine k_seq_exit ?_ | refine k_blk ?_ | refine k_blk_ret ?_ | refine k_blk_exit ?_ | refine k_lp_ret ?_ | refine k_lp_exit ?_ | refine ki_lp_ret ?_ | refine ki_lp_exit ?_ | refine s_block ?_ | refine sp_skip ?_ | refine sp_ret ?_ | refine sp_exit ?_ | ((with_reducible refine k_blk_out ?_ ?_); (focus decide)) | ((with_reducible refine s_cond_t ?_ ?_); (focus (simp [*]; done))) | ((with_reducible refine s_cond_f ?_ ?_); (focus (simp [*]; done))))
  (focus ((with_reducible refine s_draw2 (q := ?_) (es := ?_) (σ' := ?_) prog_mixed TT_ok PT62_ok ?_ ?_ ?_ ?_); rotate_left 3; (focus (first | (simp; exact Eq.refl _) | exact Eq.refl _)); (focus ((repeat (((with_reducible refine runE_cons (e := ?_) (σ1 := ?_) (es := ?_) ?_ ?_ ?_); rotate_left 3; (focus (simp [*]; exact Eq.refl _)); (focus (simp; exact Eq.refl _))))); (exact runE_nil))); (focus (simp [fpA, fpF, isFn, fpo, topIds, lightS, light, Op.operands, Call.operands]; try kernel_rfl))))
  repeat (first | with_reducible first | refine s_seq ?_ | refine k_seq ?_ | refine k_seq_ret ?_ | refine k_seq_exit ?_ | refine k_blk ?_ | refine k_blk_ret ?_ | refine k_blk_exit ?_ | refine k_lp_ret ?_ | refine k_lp_exit ?_ | refine ki_lp_ret ?_ | refine ki_lp_exit ?_ | refine s_block ?_ | refine sp_skip ?_ | refine sp_ret ?_ | refine sp_exit ?_ | ((with_reducible refine k_blk_out ?_ ?_); (focus decide)) | ((with_reducible refine s_cond_t ?_ ?_); (focus (simp [*]; done))) | ((with_reducible refine s_cond_f ?_ ?_); (focus (simp [*]; done))))
  (focus ((with_reducible refine s_region2 (q := ?_) (σ' := ?_) TT_ok PT62_ok ?_ ?_ ?_); rotate_left 2; (focus (first | (simp; exact Eq.refl _) | exact Eq.refl _)); (focus ((repeat (((with_reducible refine runL_cons (σ1 := ?_) ?_ ?_); rotate_left; (focus (simp [*]; rfl))))); (exact runL_nil)))))
  repeat (first | with_reducible first | refine s_seq ?_ | refine k_seq ?_ | refine k_seq_ret ?_ | refine k_seq_exit ?_ | refine k_blk ?_ | refine k_blk_ret ?_ | refine k_blk_exit ?_ | refine k_lp_ret ?_ | refine k_lp_exit ?_ | refine ki_lp_ret ?_ | refine ki_lp_exit ?_ | refine s_block ?_ | refine sp_skip ?_ | refine sp_ret ?_ | refine sp_exit ?_ | ((with_reducible refine k_blk_out ?_ ?_); (focus decide)) | ((with_reducible refine s_cond_t ?_ ?_); (focus (simp [*]; done))) | ((with_reducible refine s_cond_f ?_ ?_); (focus (simp [*]; done))))
  (focus ((with_reducible refine s_region2 (q := ?_) (σ' := ?_) TT_ok PT62_ok ?_ ?_ ?_); rotate_left 2; (focus (first | (simp; exact Eq.refl _) | exact Eq.refl _)); (focus ((repeat (((with_reducible refine runL_cons (σ1 := ?_) ?_ ?_); rotate_left; (focus (simp [*]; rfl))))); (exact runL_nil)))))
  repeat (first | with_reducible first | refine s_seq ?_ | refine k_seq ?_ | refine k_seq_ret ?_ | refine k_seq_exit ?_ | refine k_blk ?_ | refine k_blk_ret ?_ | refine k_blk_exit ?_ | refine k_lp_ret ?_ | refine k_lp_exit ?_ | refine ki_lp_ret ?_ | refine ki_lp_exit ?_ | refine s_block ?_ | refine sp_skip ?_ | refine sp_ret ?_ | refine sp_exit ?_ | ((with_reducible refine k_blk_out ?_ ?_); (focus decide)) | ((with_reducible refine s_cond_t ?_ ?_); (focus (simp [*]; done))) | ((with_reducible refine s_cond_f ?_ ?_); (focus (simp [*]; done))))
  (focus ((with_reducible refine s_draw2 (q := ?_) (es := ?_) (σ' := ?_) prog_mixed TT_ok PT62_ok ?_ ?_ ?_ ?_); rotate_left 3; (focus (first | (simp; exact Eq.refl _) | exact Eq.refl _)); (focus ((repeat (((with_reducible refine runE_cons (e := ?_) (σ1 := ?_) (es := ?_) ?_ ?_ ?_); rotate_left 3; (focus (simp [*]; exact Eq.refl _)); (focus (simp; exact Eq.refl _))))); (exact runE_nil))); (focus (first | kernel_rfl | decide))))
  repeat (first | with_reducible first | refine s_seq ?_ | refine k_seq ?_ | refine k_seq_ret ?_ | refine k_seq_exit ?_ | refine k_blk ?_ | refine k_blk_ret ?_ | refine k_blk_exit ?_ | refine k_lp_ret ?_ | refine k_lp_exit ?_ | refine ki_lp_ret ?_ | refine ki_lp_exit ?_ | refine s_block ?_ | refine sp_skip ?_ | refine sp_ret ?_ | refine sp_exit ?_ | ((with_reducible refine k_blk_out ?_ ?_); (focus decide)) | ((with_reducible refine s_cond_t ?_ ?_); (focus (simp [*]; done))) | ((with_reducible refine s_cond_f ?_ ?_); (focus (simp [*]; done))) | (focus ((with_reducible refine s_region2 (q := ?_) (σ' := ?_) TT_ok PT62_ok ?_ ?_ ?_); rotate_left 2; (focus (first | (simp; exact Eq.refl _) | exact Eq.refl _)); (focus ((repeat (((with_reducible refine runL_cons (σ1 := ?_) ?_ ?_); rotate_left; (focus (simp [*]; rfl))))); (exact runL_nil))))) | (focus ((with_reducible refine s_draw2 (q := ?_) (es := ?_) (σ' := ?_) prog_mixed TT_ok PT62_ok ?_ ?_ ?_ ?_); rotate_left 3; (focus (first | (simp; exact Eq.refl _) | exact Eq.refl _)); (focus ((repeat (((with_reducible refine runE_cons (e := ?_) (σ1 := ?_) (es := ?_) ?_ ?_ ?_); rotate_left 3; (focus (simp [*]; exact Eq.refl _)); (focus (simp; exact Eq.refl _))))); (exact runE_nil))); (focus (first | kernel_rfl | decide)))))
  ((refine post_ret (av := ?_) (by first | exact .inl rfl | exact .inr rfl) (show (Try.f11).results.toList = _ from by rw [Try.results11]) ?_ ?_); rotate_left; (focus (simp [retA, retL, ret1, lk, st, ldA, AV.cell]; rfl)); (try simp [*]))
theorem theoryJoins_p (N : Int) (L : List (List Int)) (M : Int) (K : List (List Int)) (hN : okI N = true) (hM : okI M = true) (hL : okLens L = true) (hK : okLens K = true) : FnPure Try.prog 11 [aTh N L, aTh M K] (.v (.bool true)) := by
  by_cases hl : lightB L = true
  · have hr := light_rows hL hl
    by_cases hl2 : lightB K = true
    · have hr2 := light_rows hK hl2
      by_cases hc : joinE N L M K = 0
      · unfold joinE at hc
        by_cases z1 : checkT N L = 0
        · rw [if_neg (by omega)] at hc
          by_cases z2 : checkT M K = 0
          · rw [if_neg (by omega)] at hc
            by_cases h3 : 4096 < L.length + K.length
            · rw [if_pos h3] at hc; cases hc
            · exact joins_ok N L M K hN hM hr hr2 hl hl2 z1 z2 h3
          · rw [if_pos z2] at hc; exact absurd hc z2
        · rw [if_pos z1] at hc; exact absurd hc z1
      · exact joins_err N L M K hN hM hr hr2 hl hl2 hc
    · unfold aTh
      refine fn_sp TT_ok Try.func11 (c := _) rfl (by simp [Try.ntmps11]) (fun B hI0 hro => ?_)
      rw [Try.ntmps11]
      simp only [enumA]
      repeat (first | with_reducible first | refine s_seq ?_ | refine k_seq ?_ | refine k_seq_ret ?_ | refine k_seq_exit ?_ | refine k_blk ?_ | refine k_blk_ret ?_ | refine k_blk_exit ?_ | refine k_lp_ret ?_ | refine k_lp_exit ?_ | refine ki_lp_ret ?_ | refine ki_lp_exit ?_ | refine s_block ?_ | refine sp_skip ?_ | refine sp_ret ?_ | refine sp_exit ?_ | ((with_reducible refine k_blk_out ?_ ?_); (focus decide)) | ((with_reducible refine s_cond_t ?_ ?_); (focus (simp [*]; done))) | ((with_reducible refine s_cond_f ?_ ?_); (focus (simp [*]; done))) | (focus ((with_reducible refine s_region2 (q := ?_) (σ' := ?_) TT_ok PT62_ok ?_ ?_ ?_); rotate_left 2; (focus (first | (simp; exact Eq.refl _) | exact Eq.refl _)); (focus ((repeat (((with_reducible refine runL_cons (σ1 := ?_) ?_ ?_); rotate_left; (focus (simp [*]; rfl))))); (exact runL_nil))))) | (focus ((with_reducible refine s_draw2 (q := ?_) (es := ?_) (σ' := ?_) prog_mixed TT_ok PT62_ok ?_ ?_ ?_ ?_); rotate_left 3; (focus (first | (simp; exact Eq.refl _) | exact Eq.refl _)); (focus ((repeat (((with_reducible refine runE_cons (e := ?_) (σ1 := ?_) (es := ?_) ?_ ?_ ?_); rotate_left 3; (focus (simp [*]; exact Eq.refl _)); (focus (simp; exact Eq.refl _))))); (exact runE_nil))); (focus (first | kernel_rfl | decide)))))
      ((refine post_ret (av := ?_) (by first | exact .inl rfl | exact .inr rfl) (show (Try.f11).results.toList = _ from by rw [Try.results11]) ?_ ?_); rotate_left; (focus (simp [retA, retL, ret1, lk, st, ldA, AV.cell]; rfl)); (try simp [*]))
  · unfold aTh
    refine fn_sp TT_ok Try.func11 (c := _) rfl (by simp [Try.ntmps11]) (fun B hI0 hro => ?_)
    rw [Try.ntmps11]
    simp only [enumA]
    repeat (first | with_reducible first | refine s_seq ?_ | refine k_seq ?_ | refine k_seq_ret ?_ | refine k_seq_exit ?_ | refine k_blk ?_ | refine k_blk_ret ?_ | refine k_blk_exit ?_ | refine k_lp_ret ?_ | refine k_lp_exit ?_ | refine ki_lp_ret ?_ | refine ki_lp_exit ?_ | refine s_block ?_ | refine sp_skip ?_ | refine sp_ret ?_ | refine sp_exit ?_ | ((with_reducible refine k_blk_out ?_ ?_); (focus decide)) | ((with_reducible refine s_cond_t ?_ ?_); (focus (simp [*]; done))) | ((with_reducible refine s_cond_f ?_ ?_); (focus (simp [*]; done))) | (focus ((with_reducible refine s_region2 (q := ?_) (σ' := ?_) TT_ok PT62_ok ?_ ?_ ?_); rotate_left 2; (focus (first | (simp; exact Eq.refl _) | exact Eq.refl _)); (focus ((repeat (((with_reducible refine runL_cons (σ1 := ?_) ?_ ?_); rotate_left; (focus (simp [*]; rfl))))); (exact runL_nil))))) | (focus ((with_reducible refine s_draw2 (q := ?_) (es := ?_) (σ' := ?_) prog_mixed TT_ok PT62_ok ?_ ?_ ?_ ?_); rotate_left 3; (focus (first | (simp; exact Eq.refl _) | exact Eq.refl _)); (focus ((repeat (((with_reducible refine runE_cons (e := ?_) (σ1 := ?_) (es := ?_) ?_ ?_ ?_); rotate_left 3; (focus (simp [*]; exact Eq.refl _)); (focus (simp; exact Eq.refl _))))); (exact runE_nil))); (focus (first | kernel_rfl | decide)))))
    ((refine post_ret (av := ?_) (by first | exact .inl rfl | exact .inr rfl) (show (Try.f11).results.toList = _ from by rw [Try.results11]) ?_ ?_); rotate_left; (focus (simp [retA, retL, ret1, lk, st, ldA, AV.cell]; rfl)); (try simp [*]))
namespace theoryJoins
set_option maxRecDepth 100000 in
theorem lifted (os : Os) (started : os.Started) (H : Type) (enc : TypeId × Value → H) :
    ReturnsInHanded {} Try.checked os 11 .any (Rows.theoryJoinsSpec.pre6 enc Try.prog Go.Proofs.Try.f11 Rows.theoryJoinsRow.domain false) (Rows.theoryJoinsSpec.post enc Try.prog Go.Proofs.Try.f11 false true false false) := by
  refine returnsInHanded_of_change (C := Try.checked) (by kernel_rfl) started (by kernel_rfl) Try.func11
    (ChangeSpec.witness6 (enc := enc) (C := Try.checked) false ⟨#[], #[.agg #[.int .i64 0, .slice none 0 0], .agg #[.int .i64 0, .slice none 0 0]], []⟩ 8 (by kernel_rfl) (by kernel_rfl) (by kernel_rfl) (by kernel_rfl)) ?_
  intro W base args ds gs before hval0 hW hcnd _
  have hval : ∀ (j : Nat) t v, (Go.Proofs.Try.f11).params[j]? = some t → args[j]? = some v → Value.okWide Try.prog W .any base t v := hval0
  have hW2 := hW
  obtain ⟨p, q, hA0, hV, _, _, _⟩ := hW
  have hA : DataW.TrodAll enc Try.prog W 0 (fun _ => true) true (Go.Proofs.Try.f11).params.toList args.toList ds p := hA0
  rw [Try.params11] at hA hval
  clear hA0 hval0 hcnd
  obtain ⟨rfl, _⟩ := trodVars_none hV
  obtain ⟨v0, vs0, d0, ds0, p0, q0, hargs, rfl, _, h0, r0⟩ := trodAll_cons hA
  obtain ⟨v1, vs1, d1, ds1, p1, q1, rfl, rfl, _, h1, r1⟩ := trodAll_cons r0
  obtain ⟨rfl, rfl, _⟩ := trodAll_nil r1
  obtain rfl : args = #[v0, v1] := by cases args; simp_all
  obtain ⟨N, L, ra0, oN0, oL0⟩ := arg_th (hval 0 _ v0 rfl rfl) h0
  obtain ⟨M, K, ra1, oN1, oL1⟩ := arg_th (hval 1 _ v1 rfl rfl) h1
  refine law_of_pure (glob0 _) (avs := [.agg [.v (.int .i64 N), aRows L], .agg [.v (.int .i64 M), aRows K]]) (by kernel_rfl) hW2 rfl (rec_ok (by kernel_rfl)) (tb := 4) rfl Try.underlying4 rfl rfl rfl rfl (fun i hi => ?_) (theoryJoins_p N L M K oN0 oN1 oL0 oL1)
  match i, hi with
  | 0, _ => exact ra0
  | 1, _ => exact ra1
theorem proved : Rows.TheoryJoinsSaid :=
  OpenClaim.holds_of_wide 11 Go.Proofs.Try.f11 rfl rfl rfl rfl rfl rfl rfl ⟨rfl, rfl, rfl, rfl, rfl⟩ rfl rfl rfl rfl rfl (by kernel_rfl) Try.func11 (by kernel_rfl)
    (of_decide_eq_true (by kernel_rfl)) (by unfold Func.isWrapper; first | (rw [if_pos (by decide +kernel)]; kernel_rfl) | (rw [if_neg (by decide +kernel)]; exact ⟨rfl, rfl⟩))
    (fun os started H enc _ => lifted os started H enc)
end theoryJoins
end Go.Proofs.Ytkollnaojpppcaa
