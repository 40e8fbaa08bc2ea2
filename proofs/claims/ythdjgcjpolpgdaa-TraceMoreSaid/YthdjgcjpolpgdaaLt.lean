/- Contract of censuslaw05.Light, by the abstract machine; no condition. -/
import Derived.Test.YthdjgcjpolpgdaaGi1
import Derived.Test.YthdjgcjpolpgdaaCvG
namespace Go.Proofs.Ythdjgcjpolpgdaa
set_option linter.unusedVariables false
set_option linter.unusedSimpArgs false
set_option linter.unusedSectionVars false
open Go.RowKit
attribute [local simp] List.getD_cons_zero List.getD_cons_succ List.getD_nil undef gvars runL runE effA stepA dstOk wantA core lk st dl AS.ev AS.evs AS.put AS.upd updO updI nxt cPick cAlloc cBox cBuild cBuildS cLoad cStore cNil plainOf cBin cNilS isNilS nilA cUn cConvX cConvB cConv bytesOf rowB cMake cSlice slA idxA cFA cF cIA cIX cIS cI cExt cLen cApp cMM cFun cCall lenA lenM isNilM nilM cNilM cMakeM hintB cMapK cLook foundR lookR cUpd putM cDel delM findA isKeyB Instr.sameNow AS.entry AS.bound AS.callee sc1 sc2 ixOk ldA AV.flat AV.cell AV.cells Value.oneCell' fillA spl chunk zeros AS.parts AS.rows AS.shut AS.shut1 AS.shut2 AS.shutL AS.shutM AV.ids idsL idsLL eqAll bndA AV.scalar AV.scalar1 AV.isV Ef.app Ef.pk ptOf pntO wrO wr
attribute [-simp] List.getD_eq_getElem?_getD
set_option maxRecDepth 100000

/-- A theory is looked at. -/
def lightB (L : List (List Int)) : Bool := L.all (fun c => decide (c.length ≤ 140)) && decide (L.length ≤ 60)
theorem light_rows {L : List (List Int)} (h : okLens L = true) (hl : lightB L = true) : okRows L = true := by
  simp only [lightB, Bool.and_eq_true, List.all_eq_true, decide_eq_true_eq] at hl
  exact okRows_lens h (by omega) fun c hc => by have := hl.1 c hc; omega
theorem light_p (N : Int) (L : List (List Int)) (hL : okLens L = true) : FnPure Try.prog 13 [aTh N L] (.v (.bool (lightB L))) := by
  have hm := okLens_len hL
  unfold aTh
  refine fn_sp TT_ok Try.func13 (c := _) rfl (by simp [Try.ntmps13]) (fun B hI0 hro => ?_)
  rw [Try.ntmps13]
  simp only [enumA]
  repeat (first | with_reducible first | refine s_seq ?_ | refine k_seq ?_ | refine k_seq_ret ?_ | refine k_seq_exit ?_ | refine k_blk ?_ | refine k_blk_ret ?_ | refine k_blk_exit ?_ | refine k_lp_ret ?_ | refine k_lp_exit ?_ | refine ki_lp_ret ?_ | refine ki_lp_exit ?_ | refine s_block ?_ | refine sp_skip ?_ | refine sp_ret ?_ | refine sp_exit ?_ | ((with_reducible refine k_blk_out ?_ ?_); (focus decide)) | ((with_reducible refine s_cond_t ?_ ?_); (focus (simp [*]; done))) | ((with_reducible refine s_cond_f ?_ ?_); (focus (simp [*]; done))) | (focus ((with_reducible refine s_region2 (q := ?_) (σ' := ?_) TT_ok PT16_ok ?_ ?_ ?_); rotate_left 2; (focus (first | (simp; exact Eq.refl _) | exact Eq.refl _)); (focus ((repeat (((with_reducible refine runL_cons (σ1 := ?_) ?_ ?_); rotate_left; (focus (simp [*]; rfl))))); (exact runL_nil))))) | (focus ((with_reducible refine s_draw2 (q := ?_) (es := ?_) (σ' := ?_) prog_mixed TT_ok PT16_ok ?_ ?_ ?_ ?_); rotate_left 3; (focus (first | (simp; exact Eq.refl _) | exact Eq.refl _)); (focus ((repeat (((with_reducible refine runE_cons (e := ?_) (σ1 := ?_) (es := ?_) ?_ ?_ ?_); rotate_left 3; (focus (simp [*]; exact Eq.refl _)); (focus (simp; exact Eq.refl _))))); (exact runE_nil))); (focus (first | kernel_rfl | decide)))))
  refine s_loop (J := fun i : {k : Nat // k ≤ L.length ∧ ∀ j, j < k → (L.getD j []).length ≤ 140} => ⟨20, [(1, .ptr 0 0 0), (6, aRows L), (7, .v (.int .i64 (L.length : Int))), (8, .v (.int .i64 (i.1 : Int)))], [(0, ⟨24, 2, [[.v (.int .i64 N), aRows L]]⟩)], [0]⟩) (μ := fun i => L.length - i.1) ⟨0, Nat.zero_le _, fun j hj => by omega⟩ ?_ (fun ⟨k, hk, he⟩ => ?_)
  · (refine weak_id rfl ?_ ?_ <;> ((try simp only [List.mem_cons, List.not_mem_nil, or_false, forall_eq_or_imp, forall_eq]); (try simp (disch := omega) [i64w, *])))
    all_goals rfl
  repeat (first | with_reducible first | refine s_seq ?_ | refine k_seq ?_ | refine k_seq_ret ?_ | refine k_seq_exit ?_ | refine k_blk ?_ | refine k_blk_ret ?_ | refine k_blk_exit ?_ | refine k_lp_ret ?_ | refine k_lp_exit ?_ | refine ki_lp_ret ?_ | refine ki_lp_exit ?_ | refine s_block ?_ | refine sp_skip ?_ | refine sp_ret ?_ | refine sp_exit ?_ | ((with_reducible refine k_blk_out ?_ ?_); (focus decide)) | ((with_reducible refine s_cond_t ?_ ?_); (focus (simp [*]; done))) | ((with_reducible refine s_cond_f ?_ ?_); (focus (simp [*]; done))) | (focus ((with_reducible refine s_region2 (q := ?_) (σ' := ?_) TT_ok PT16_ok ?_ ?_ ?_); rotate_left 2; (focus (first | (simp; exact Eq.refl _) | exact Eq.refl _)); (focus ((repeat (((with_reducible refine runL_cons (σ1 := ?_) ?_ ?_); rotate_left; (focus (simp [*]; rfl))))); (exact runL_nil))))) | (focus ((with_reducible refine s_draw2 (q := ?_) (es := ?_) (σ' := ?_) prog_mixed TT_ok PT16_ok ?_ ?_ ?_ ?_); rotate_left 3; (focus (first | (simp; exact Eq.refl _) | exact Eq.refl _)); (focus ((repeat (((with_reducible refine runE_cons (e := ?_) (σ1 := ?_) (es := ?_) ?_ ?_ ?_); rotate_left 3; (focus (simp [*]; exact Eq.refl _)); (focus (simp; exact Eq.refl _))))); (exact runE_nil))); (focus (first | kernel_rfl | decide)))))
  (focus ((with_reducible refine sp_cond (b := ?_) ?_ (fun hc => ?_) (fun hc => ?_)); rotate_left; (focus (first | rfl | (simp [lk, AS.ev]; rfl))); all_goals (try simp at hc)))
  · have hci := okIL_len (okLens_at hL k)
    repeat (first | with_reducible first | refine s_seq ?_ | refine k_seq ?_ | refine k_seq_ret ?_ | refine k_seq_exit ?_ | refine k_blk ?_ | refine k_blk_ret ?_ | refine k_blk_exit ?_ | refine k_lp_ret ?_ | refine k_lp_exit ?_ | refine ki_lp_ret ?_ | refine ki_lp_exit ?_ | refine s_block ?_ | refine sp_skip ?_ | refine sp_ret ?_ | refine sp_exit ?_ | ((with_reducible refine k_blk_out ?_ ?_); (focus decide)) | ((with_reducible refine s_cond_t ?_ ?_); (focus (simp [*]; done))) | ((with_reducible refine s_cond_f ?_ ?_); (focus (simp [*]; done))) | (focus ((with_reducible refine s_region2 (q := ?_) (σ' := ?_) TT_ok PT16_ok ?_ ?_ ?_); rotate_left 2; (focus (first | (simp; exact Eq.refl _) | exact Eq.refl _)); (focus ((repeat (((with_reducible refine runL_cons (σ1 := ?_) ?_ ?_); rotate_left; (focus (simp [*]; rfl))))); (exact runL_nil))))) | (focus ((with_reducible refine s_draw2 (q := ?_) (es := ?_) (σ' := ?_) prog_mixed TT_ok PT16_ok ?_ ?_ ?_ ?_); rotate_left 3; (focus (first | (simp; exact Eq.refl _) | exact Eq.refl _)); (focus ((repeat (((with_reducible refine runE_cons (e := ?_) (σ1 := ?_) (es := ?_) ?_ ?_ ?_); rotate_left 3; (focus (simp [*]; exact Eq.refl _)); (focus (simp; exact Eq.refl _))))); (exact runE_nil))); (focus (first | kernel_rfl | decide)))))
    have hcc := hc
    clear hc
    (focus ((with_reducible refine sp_cond (b := ?_) ?_ (fun hc => ?_) (fun hc => ?_)); rotate_left; (focus (first | rfl | (simp [lk, AS.ev]; rfl))); all_goals (try simp at hc)))
    · repeat (first | with_reducible first | refine s_seq ?_ | refine k_seq ?_ | refine k_seq_ret ?_ | refine k_seq_exit ?_ | refine k_blk ?_ | refine k_blk_ret ?_ | refine k_blk_exit ?_ | refine k_lp_ret ?_ | refine k_lp_exit ?_ | refine ki_lp_ret ?_ | refine ki_lp_exit ?_ | refine s_block ?_ | refine sp_skip ?_ | refine sp_ret ?_ | refine sp_exit ?_ | ((with_reducible refine k_blk_out ?_ ?_); (focus decide)) | ((with_reducible refine s_cond_t ?_ ?_); (focus (simp [*]; done))) | ((with_reducible refine s_cond_f ?_ ?_); (focus (simp [*]; done))) | (focus ((with_reducible refine s_region2 (q := ?_) (σ' := ?_) TT_ok PT16_ok ?_ ?_ ?_); rotate_left 2; (focus (first | (simp; exact Eq.refl _) | exact Eq.refl _)); (focus ((repeat (((with_reducible refine runL_cons (σ1 := ?_) ?_ ?_); rotate_left; (focus (simp [*]; rfl))))); (exact runL_nil))))) | (focus ((with_reducible refine s_draw2 (q := ?_) (es := ?_) (σ' := ?_) prog_mixed TT_ok PT16_ok ?_ ?_ ?_ ?_); rotate_left 3; (focus (first | (simp; exact Eq.refl _) | exact Eq.refl _)); (focus ((repeat (((with_reducible refine runE_cons (e := ?_) (σ1 := ?_) (es := ?_) ?_ ?_ ?_); rotate_left 3; (focus (simp [*]; exact Eq.refl _)); (focus (simp; exact Eq.refl _))))); (exact runE_nil))); (focus (first | kernel_rfl | decide)))))
      ((refine post_ret (av := ?_) (by first | exact .inl rfl | exact .inr rfl) (show (Try.f13).results.toList = _ from by rw [Try.results13]) ?_ ?_); rotate_left; (focus (simp [retA, retL, ret1, lk, st, ldA, AV.cell]; rfl)); (try simp [*]))
      have hmem : L.getD k [] ∈ L := by
        have : L.getD k [] = L[k] := by simp [List.getD, hcc]
        rw [this]; exact List.getElem_mem _
      unfold lightB
      have : L.all (fun c => decide (c.length ≤ 140)) = false := List.all_eq_false.2 ⟨_, hmem, by simp; omega⟩
      rw [this, Bool.false_and]
    · repeat (first | with_reducible first | refine s_seq ?_ | refine k_seq ?_ | refine k_seq_ret ?_ | refine k_seq_exit ?_ | refine k_blk ?_ | refine k_blk_ret ?_ | refine k_blk_exit ?_ | refine k_lp_ret ?_ | refine k_lp_exit ?_ | refine ki_lp_ret ?_ | refine ki_lp_exit ?_ | refine s_block ?_ | refine sp_skip ?_ | refine sp_ret ?_ | refine sp_exit ?_ | ((with_reducible refine k_blk_out ?_ ?_); (focus decide)) | ((with_reducible refine s_cond_t ?_ ?_); (focus (simp [*]; done))) | ((with_reducible refine s_cond_f ?_ ?_); (focus (simp [*]; done))) | (focus ((with_reducible refine s_region2 (q := ?_) (σ' := ?_) TT_ok PT16_ok ?_ ?_ ?_); rotate_left 2; (focus (first | (simp; exact Eq.refl _) | exact Eq.refl _)); (focus ((repeat (((with_reducible refine runL_cons (σ1 := ?_) ?_ ?_); rotate_left; (focus (simp [*]; rfl))))); (exact runL_nil))))) | (focus ((with_reducible refine s_draw2 (q := ?_) (es := ?_) (σ' := ?_) prog_mixed TT_ok PT16_ok ?_ ?_ ?_ ?_); rotate_left 3; (focus (first | (simp; exact Eq.refl _) | exact Eq.refl _)); (focus ((repeat (((with_reducible refine runE_cons (e := ?_) (σ1 := ?_) (es := ?_) ?_ ?_ ?_); rotate_left 3; (focus (simp [*]; exact Eq.refl _)); (focus (simp; exact Eq.refl _))))); (exact runE_nil))); (focus (first | kernel_rfl | decide)))))
      refine k_lp (⟨k + 1, by omega, fun j hj => ?_⟩ : {k : Nat // k ≤ L.length ∧ ∀ j, j < k → (L.getD j []).length ≤ 140}) (by dsimp only; omega) ?_
      · by_cases e : j < k
        · exact he j e
        · obtain rfl : j = k := by omega
          omega
      · (refine weak_id rfl ?_ ?_ <;> ((try simp only [List.mem_cons, List.not_mem_nil, or_false, forall_eq_or_imp, forall_eq]); (try simp (disch := omega) [i64w, *])))
  · have hall : L.all (fun c => decide (c.length ≤ 140)) = true := List.all_eq_true.2 fun c hcm => by
      obtain ⟨j, hj, rfl⟩ := List.getElem_of_mem hcm
      have := he j (by omega)
      have e : L.getD j [] = L[j] := by simp [List.getD, hj]
      rw [e] at this
      simpa using this
    repeat (first | with_reducible first | refine s_seq ?_ | refine k_seq ?_ | refine k_seq_ret ?_ | refine k_seq_exit ?_ | refine k_blk ?_ | refine k_blk_ret ?_ | refine k_blk_exit ?_ | refine k_lp_ret ?_ | refine k_lp_exit ?_ | refine ki_lp_ret ?_ | refine ki_lp_exit ?_ | refine s_block ?_ | refine sp_skip ?_ | refine sp_ret ?_ | refine sp_exit ?_ | ((with_reducible refine k_blk_out ?_ ?_); (focus decide)) | ((with_reducible refine s_cond_t ?_ ?_); (focus (simp [*]; done))) | ((with_reducible refine s_cond_f ?_ ?_); (focus (simp [*]; done))) | (focus ((with_reducible refine s_region2 (q := ?_) (σ' := ?_) TT_ok PT16_ok ?_ ?_ ?_); rotate_left 2; (focus (first | (simp; exact Eq.refl _) | exact Eq.refl _)); (focus ((repeat (((with_reducible refine runL_cons (σ1 := ?_) ?_ ?_); rotate_left; (focus (simp [*]; rfl))))); (exact runL_nil))))) | (focus ((with_reducible refine s_draw2 (q := ?_) (es := ?_) (σ' := ?_) prog_mixed TT_ok PT16_ok ?_ ?_ ?_ ?_); rotate_left 3; (focus (first | (simp; exact Eq.refl _) | exact Eq.refl _)); (focus ((repeat (((with_reducible refine runE_cons (e := ?_) (σ1 := ?_) (es := ?_) ?_ ?_ ?_); rotate_left 3; (focus (simp [*]; exact Eq.refl _)); (focus (simp; exact Eq.refl _))))); (exact runE_nil))); (focus (first | kernel_rfl | decide)))))
    ((refine post_ret (av := ?_) (by first | exact .inl rfl | exact .inr rfl) (show (Try.f13).results.toList = _ from by rw [Try.results13]) ?_ ?_); rotate_left; (focus (simp [retA, retL, ret1, lk, st, ldA, AV.cell]; rfl)); (try simp [*]))
    unfold lightB
    rw [hall, Bool.true_and]
    simp only [decide_eq_decide]
    omega
@[simp] def g_light : List AV → Option (AV × Bool)
  | [.agg [.v (.int .i64 N), a0]] => (match toRows a0 with | some L => if (okLens L) = true then some (.v (.bool (lightB L)), false) else none | none => none)
  | _ => none
theorem e_light : EntOk Try.prog 13 g_light := ent_pure (by kernel_rfl) fun args r fr h => by
  unfold g_light at h
  split at h
  · rename_i N a0
    split at h
    · rename_i L t0
      split at h
      · rename_i hc
        have o0 := hc
        cases h
        exact ⟨FnPure.cov (light_p N L o0) (.cons (cov_th _ (cov_rows t0)) .nil), rfl⟩
      · cases h
    · cases h
  · cases h

def l17 : List (FuncId × (List AV → Option (AV × Bool))) :=
  (13, g_light) :: l16
theorem l17_ok : ∀ p ∈ l17, EntOk Try.prog p.1 p.2 := ent_cons e_light (l16_ok)
def PT17 : PTab := tab l17
theorem PT17_ok : PTok Try.prog PT17 := tab_ok l17_ok
@[simp] theorem PT17_litVar : PT17 32 = g_litVar := rfl
@[simp] theorem PT17_litValid : PT17 77 = g_litValid := rfl
@[simp] theorem PT17_contains : PT17 50 = g_contains := rfl
@[simp] theorem PT17_check : PT17 46 = g_check := rfl
@[simp] theorem PT17_with : PT17 33 = g_with := rfl
@[simp] theorem PT17_without : PT17 31 = g_without := rfl
@[simp] theorem PT17_all : PT17 30 = g_all := rfl
@[simp] theorem PT17_rValid : PT17 71 = g_rValid := rfl
@[simp] theorem PT17_rCheck : PT17 42 = g_rCheck := rfl
@[simp] theorem PT17_litvalid : PT17 85 = g_litvalid := rfl
@[simp] theorem PT17_opposite : PT17 87 = g_opposite := rfl
@[simp] theorem PT17_clone : PT17 99 = g_clone := rfl
@[simp] theorem PT17_order : PT17 86 = g_order := rfl
@[simp] theorem PT17_term : PT17 69 = g_term := rfl
@[simp] theorem PT17_clause : PT17 57 = g_clause := rfl
@[simp] theorem PT17_equal : PT17 61 = g_equal := rfl
@[simp] theorem PT17_distinct : PT17 60 = g_distinct := rfl
@[simp] theorem PT17_normal : PT17 27 = g_normal := rfl
@[simp] theorem PT17_rContains : PT17 74 = g_rContains := rfl
@[simp] theorem PT17_rSameInts : PT17 52 = g_rSameInts := rfl
@[simp] theorem PT17_rAbs : PT17 114 = g_rAbs := rfl
@[simp] theorem PT17_rBefore : PT17 97 = g_rBefore := rfl
@[simp] theorem PT17_rSorted : PT17 75 = g_rSorted := rfl
@[simp] theorem PT17_rPut : PT17 76 = g_rPut := rfl
@[simp] theorem PT17_rNormal : PT17 45 = g_rNormal := rfl
@[simp] theorem PT17_place : PT17 62 = g_place := rfl
@[simp] theorem PT17_vHas : PT17 34 = g_vHas := rfl
@[simp] theorem PT17_vMinus : PT17 90 = g_vMinus := rfl
@[simp] theorem PT17_vCut : PT17 29 = g_vCut := rfl
@[simp] theorem PT17_vSub : PT17 65 = g_vSub := rfl
@[simp] theorem PT17_litHolds : PT17 64 = g_litHolds := rfl
@[simp] theorem PT17_litAny : PT17 36 = g_litAny := rfl
@[simp] theorem PT17_thEval : PT17 37 = g_thEval := rfl
@[simp] theorem PT17_rSame : PT17 22 = g_rSame := rfl
@[simp] theorem PT17_rTerm : PT17 73 = g_rTerm := rfl
@[simp] theorem PT17_thVars : PT17 35 = g_thVars := rfl
@[simp] theorem PT17_given : PT17 41 = g_given := rfl
@[simp] theorem PT17_light : PT17 13 = g_light := rfl
end Go.Proofs.Ythdjgcjpolpgdaa
