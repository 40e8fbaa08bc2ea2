/- Contract of TraceMore's function, by the abstract machine; no condition. -/
import Derived.Test.YthdjgcjpolpgdaaTr3
import Derived.Test.YthdjgcjpolpgdaaTp3
namespace Go.Proofs.Ythdjgcjpolpgdaa
set_option linter.unusedVariables false
set_option linter.unusedSimpArgs false
set_option linter.unusedSectionVars false
open Go.RowKit
attribute [local simp] List.getD_cons_zero List.getD_cons_succ List.getD_nil undef gvars runL runE effA stepA dstOk wantA core lk st dl AS.ev AS.evs AS.put AS.upd updO updI nxt cPick cAlloc cBox cBuild cBuildS cLoad cStore cNil plainOf cBin cNilS isNilS nilA cUn cConvX cConvB cConv bytesOf rowB cMake cSlice slA idxA cFA cF cIA cIX cIS cI cExt cLen cApp cMM cFun cCall lenA lenM isNilM nilM cNilM cMakeM hintB cMapK cLook foundR lookR cUpd putM cDel delM findA isKeyB Instr.sameNow AS.entry AS.bound AS.callee sc1 sc2 ixOk ldA AV.flat AV.cell AV.cells Value.oneCell' fillA spl chunk zeros AS.parts AS.rows AS.shut AS.shut1 AS.shut2 AS.shutL AS.shutM AV.ids idsL idsLL eqAll bndA AV.scalar AV.scalar1 AV.isV Ef.app Ef.pk ptOf pntO wrO wr
attribute [-simp] List.getD_eq_getElem?_getD
set_option maxRecDepth 100000
theorem trIn_p (a b : List Int) (ha : okInts a = true) (hb : okInts b = true) : FnPure Try.prog 28 [aInts a, aInts b] (.v (.bool (decide (grK a b = a.length)))) := by
  have la := okInts_len ha
  have lb := okInts_len hb
  refine fn_sp TT_ok Try.func28 (c := _) rfl (by simp [Try.ntmps28]) (fun B hI0 hro => ?_)
  rw [Try.ntmps28]
  simp only [enumA]
  repeat (first | with_reducible first | refine s_seq ?_ | refine k_seq ?_ | refine k_seq_ret ?_ | refine k_seq_exit ?_ | refine k_blk ?_ | refine k_blk_ret ?_ | refine k_blk_exit ?_ | refine k_lp_ret ?_ | refine k_lp_exit ?_ | refine ki_lp_ret ?_ | refine ki_lp_exit ?_ | refine s_block ?_ | refine sp_skip ?_ | refine sp_ret ?_ | refine sp_exit ?_ | ((with_reducible refine k_blk_out ?_ ?_); (focus decide)) | ((with_reducible refine s_cond_t ?_ ?_); (focus (simp [*]; done))) | ((with_reducible refine s_cond_f ?_ ?_); (focus (simp [*]; done))) | (focus ((with_reducible refine s_region2 (q := ?_) (σ' := ?_) TT_ok PT26_ok ?_ ?_ ?_); rotate_left 2; (focus (first | (simp; exact Eq.refl _) | exact Eq.refl _)); (focus ((repeat (((with_reducible refine runL_cons (σ1 := ?_) ?_ ?_); rotate_left; (focus (simp [*]; rfl))))); (exact runL_nil))))) | (focus ((with_reducible refine s_draw2 (q := ?_) (es := ?_) (σ' := ?_) prog_mixed TT_ok PT26_ok ?_ ?_ ?_ ?_); rotate_left 3; (focus (first | (simp; exact Eq.refl _) | exact Eq.refl _)); (focus ((repeat (((with_reducible refine runE_cons (e := ?_) (σ1 := ?_) (es := ?_) ?_ ?_ ?_); rotate_left 3; (focus (simp [*]; exact Eq.refl _)); (focus (simp; exact Eq.refl _))))); (exact runE_nil))); (focus (first | kernel_rfl | decide)))))
  refine s_loop (J := fun i : {k : Nat // k ≤ b.length} => ⟨33, [(0, aInts a), (5, .v (.int .i64 (grK a (b.take i.1) : Nat))), (8, aInts b), (9, .v (.int .i64 (b.length : Int))), (10, .v (.int .i64 (i.1 : Int)))], [], []⟩) (μ := fun i => b.length - i.1) ⟨0, Nat.zero_le _⟩ ?_ (fun ⟨k, hk⟩ => ?_)
  · have hk0 : grK a [] = 0 := rfl
    (refine weak_id rfl ?_ ?_ <;> ((try simp only [List.mem_cons, List.not_mem_nil, or_false, forall_eq_or_imp, forall_eq]); (try simp (disch := omega) [i64w, *])))
  have hg := grK_le a (b.take k) 0 (Nat.zero_le _)
  have hg2 : grK a (b.take k) = (b.take k).foldl (grS a) 0 := rfl
  rw [← hg2] at hg
  clear hg2
  repeat (first | with_reducible first | refine s_seq ?_ | refine k_seq ?_ | refine k_seq_ret ?_ | refine k_seq_exit ?_ | refine k_blk ?_ | refine k_blk_ret ?_ | refine k_blk_exit ?_ | refine k_lp_ret ?_ | refine k_lp_exit ?_ | refine ki_lp_ret ?_ | refine ki_lp_exit ?_ | refine s_block ?_ | refine sp_skip ?_ | refine sp_ret ?_ | refine sp_exit ?_ | ((with_reducible refine k_blk_out ?_ ?_); (focus decide)) | ((with_reducible refine s_cond_t ?_ ?_); (focus (simp [*]; done))) | ((with_reducible refine s_cond_f ?_ ?_); (focus (simp [*]; done))) | (focus ((with_reducible refine s_region2 (q := ?_) (σ' := ?_) TT_ok PT26_ok ?_ ?_ ?_); rotate_left 2; (focus (first | (simp; exact Eq.refl _) | exact Eq.refl _)); (focus ((repeat (((with_reducible refine runL_cons (σ1 := ?_) ?_ ?_); rotate_left; (focus (simp [*]; rfl))))); (exact runL_nil))))) | (focus ((with_reducible refine s_draw2 (q := ?_) (es := ?_) (σ' := ?_) prog_mixed TT_ok PT26_ok ?_ ?_ ?_ ?_); rotate_left 3; (focus (first | (simp; exact Eq.refl _) | exact Eq.refl _)); (focus ((repeat (((with_reducible refine runE_cons (e := ?_) (σ1 := ?_) (es := ?_) ?_ ?_ ?_); rotate_left 3; (focus (simp [*]; exact Eq.refl _)); (focus (simp; exact Eq.refl _))))); (exact runE_nil))); (focus (first | kernel_rfl | decide)))))
  (focus ((with_reducible refine sp_cond (b := ?_) ?_ (fun hc => ?_) (fun hc => ?_)); rotate_left; (focus (first | rfl | (simp [lk, AS.ev]; rfl))); all_goals (try simp at hc)))
  · have hkk := hc
    clear hc
    have hs := grK_succ a hkk
    obtain ⟨g, hge⟩ : ∃ g, grK a (b.take k) = g := ⟨_, rfl⟩
    rw [hge] at hs hg
    have w1 : IntKind.i64.wrap ((g : Int) + 1) = (g : Int) + 1 := i64w (by omega) (by omega)
    unfold grS at hs
    by_cases h1 : g < a.length
    · by_cases h2 : a.getD g 0 = b.getD k 0
      · rw [if_pos ⟨h1, h2⟩] at hs
        have h3 : (a.getD g 0 == b.getD k 0) = true := by rw [beq_iff_eq]; exact h2
        repeat (first | with_reducible first | refine s_seq ?_ | refine k_seq ?_ | refine k_seq_ret ?_ | refine k_seq_exit ?_ | refine k_blk ?_ | refine k_blk_ret ?_ | refine k_blk_exit ?_ | refine k_lp_ret ?_ | refine k_lp_exit ?_ | refine ki_lp_ret ?_ | refine ki_lp_exit ?_ | refine s_block ?_ | refine sp_skip ?_ | refine sp_ret ?_ | refine sp_exit ?_ | ((with_reducible refine k_blk_out ?_ ?_); (focus decide)) | ((with_reducible refine s_cond_t ?_ ?_); (focus (simp [*]; done))) | ((with_reducible refine s_cond_f ?_ ?_); (focus (simp [*]; done))) | (focus ((with_reducible refine s_region2 (q := ?_) (σ' := ?_) TT_ok PT26_ok ?_ ?_ ?_); rotate_left 2; (focus (first | (simp; exact Eq.refl _) | exact Eq.refl _)); (focus ((repeat (((with_reducible refine runL_cons (σ1 := ?_) ?_ ?_); rotate_left; (focus (simp [*]; rfl))))); (exact runL_nil))))) | (focus ((with_reducible refine s_draw2 (q := ?_) (es := ?_) (σ' := ?_) prog_mixed TT_ok PT26_ok ?_ ?_ ?_ ?_); rotate_left 3; (focus (first | (simp; exact Eq.refl _) | exact Eq.refl _)); (focus ((repeat (((with_reducible refine runE_cons (e := ?_) (σ1 := ?_) (es := ?_) ?_ ?_ ?_); rotate_left 3; (focus (simp [*]; exact Eq.refl _)); (focus (simp; exact Eq.refl _))))); (exact runE_nil))); (focus (first | kernel_rfl | decide)))))
        refine k_lp (⟨k + 1, by omega⟩ : {k : Nat // k ≤ b.length}) (by (try dsimp only); omega) ?_
        (refine weak_id rfl ?_ ?_ <;> ((try simp only [List.mem_cons, List.not_mem_nil, or_false, forall_eq_or_imp, forall_eq]); (try simp (disch := omega) [i64w, *])))
      · rw [if_neg (fun h => h2 h.2)] at hs
        have h3 : (a.getD g 0 == b.getD k 0) = false := by rw [beq_eq_false_iff_ne]; exact h2
        repeat (first | with_reducible first | refine s_seq ?_ | refine k_seq ?_ | refine k_seq_ret ?_ | refine k_seq_exit ?_ | refine k_blk ?_ | refine k_blk_ret ?_ | refine k_blk_exit ?_ | refine k_lp_ret ?_ | refine k_lp_exit ?_ | refine ki_lp_ret ?_ | refine ki_lp_exit ?_ | refine s_block ?_ | refine sp_skip ?_ | refine sp_ret ?_ | refine sp_exit ?_ | ((with_reducible refine k_blk_out ?_ ?_); (focus decide)) | ((with_reducible refine s_cond_t ?_ ?_); (focus (simp [*]; done))) | ((with_reducible refine s_cond_f ?_ ?_); (focus (simp [*]; done))) | (focus ((with_reducible refine s_region2 (q := ?_) (σ' := ?_) TT_ok PT26_ok ?_ ?_ ?_); rotate_left 2; (focus (first | (simp; exact Eq.refl _) | exact Eq.refl _)); (focus ((repeat (((with_reducible refine runL_cons (σ1 := ?_) ?_ ?_); rotate_left; (focus (simp [*]; rfl))))); (exact runL_nil))))) | (focus ((with_reducible refine s_draw2 (q := ?_) (es := ?_) (σ' := ?_) prog_mixed TT_ok PT26_ok ?_ ?_ ?_ ?_); rotate_left 3; (focus (first | (simp; exact Eq.refl _) | exact Eq.refl _)); (focus ((repeat (((with_reducible refine runE_cons (e := ?_) (σ1 := ?_) (es := ?_) ?_ ?_ ?_); rotate_left 3; (focus (simp [*]; exact Eq.refl _)); (focus (simp; exact Eq.refl _))))); (exact runE_nil))); (focus (first | kernel_rfl | decide)))))
        refine k_lp (⟨k + 1, by omega⟩ : {k : Nat // k ≤ b.length}) (by (try dsimp only); omega) ?_
        (refine weak_id rfl ?_ ?_ <;> ((try simp only [List.mem_cons, List.not_mem_nil, or_false, forall_eq_or_imp, forall_eq]); (try simp (disch := omega) [i64w, *])))
    · rw [if_neg (fun h => h1 h.1)] at hs
      repeat (first | with_reducible first | refine s_seq ?_ | refine k_seq ?_ | refine k_seq_ret ?_ | refine k_seq_exit ?_ | refine k_blk ?_ | refine k_blk_ret ?_ | refine k_blk_exit ?_ | refine k_lp_ret ?_ | refine k_lp_exit ?_ | refine ki_lp_ret ?_ | refine ki_lp_exit ?_ | refine s_block ?_ | refine sp_skip ?_ | refine sp_ret ?_ | refine sp_exit ?_ | ((with_reducible refine k_blk_out ?_ ?_); (focus decide)) | ((with_reducible refine s_cond_t ?_ ?_); (focus (simp [*]; done))) | ((with_reducible refine s_cond_f ?_ ?_); (focus (simp [*]; done))) | (focus ((with_reducible refine s_region2 (q := ?_) (σ' := ?_) TT_ok PT26_ok ?_ ?_ ?_); rotate_left 2; (focus (first | (simp; exact Eq.refl _) | exact Eq.refl _)); (focus ((repeat (((with_reducible refine runL_cons (σ1 := ?_) ?_ ?_); rotate_left; (focus (simp [*]; rfl))))); (exact runL_nil))))) | (focus ((with_reducible refine s_draw2 (q := ?_) (es := ?_) (σ' := ?_) prog_mixed TT_ok PT26_ok ?_ ?_ ?_ ?_); rotate_left 3; (focus (first | (simp; exact Eq.refl _) | exact Eq.refl _)); (focus ((repeat (((with_reducible refine runE_cons (e := ?_) (σ1 := ?_) (es := ?_) ?_ ?_ ?_); rotate_left 3; (focus (simp [*]; exact Eq.refl _)); (focus (simp; exact Eq.refl _))))); (exact runE_nil))); (focus (first | kernel_rfl | decide)))))
      refine k_lp (⟨k + 1, by omega⟩ : {k : Nat // k ≤ b.length}) (by (try dsimp only); omega) ?_
      (refine weak_id rfl ?_ ?_ <;> ((try simp only [List.mem_cons, List.not_mem_nil, or_false, forall_eq_or_imp, forall_eq]); (try simp (disch := omega) [i64w, *])))
  · obtain rfl : k = b.length := by omega
    rw [List.take_length] at hg ⊢
    clear hc
    repeat (first | with_reducible first | refine s_seq ?_ | refine k_seq ?_ | refine k_seq_ret ?_ | refine k_seq_exit ?_ | refine k_blk ?_ | refine k_blk_ret ?_ | refine k_blk_exit ?_ | refine k_lp_ret ?_ | refine k_lp_exit ?_ | refine ki_lp_ret ?_ | refine ki_lp_exit ?_ | refine s_block ?_ | refine sp_skip ?_ | refine sp_ret ?_ | refine sp_exit ?_ | ((with_reducible refine k_blk_out ?_ ?_); (focus decide)) | ((with_reducible refine s_cond_t ?_ ?_); (focus (simp [*]; done))) | ((with_reducible refine s_cond_f ?_ ?_); (focus (simp [*]; done))) | (focus ((with_reducible refine s_region2 (q := ?_) (σ' := ?_) TT_ok PT26_ok ?_ ?_ ?_); rotate_left 2; (focus (first | (simp; exact Eq.refl _) | exact Eq.refl _)); (focus ((repeat (((with_reducible refine runL_cons (σ1 := ?_) ?_ ?_); rotate_left; (focus (simp [*]; rfl))))); (exact runL_nil))))) | (focus ((with_reducible refine s_draw2 (q := ?_) (es := ?_) (σ' := ?_) prog_mixed TT_ok PT26_ok ?_ ?_ ?_ ?_); rotate_left 3; (focus (first | (simp; exact Eq.refl _) | exact Eq.refl _)); (focus ((repeat (((with_reducible refine runE_cons (e := ?_) (σ1 := ?_) (es := ?_) ?_ ?_ ?_); rotate_left 3; (focus (simp [*]; exact Eq.refl _)); (focus (simp; exact Eq.refl _))))); (exact runE_nil))); (focus (first | kernel_rfl | decide)))))
    ((refine post_ret (av := ?_) (by first | exact .inl rfl | exact .inr rfl) (show (Try.f28).results.toList = _ from by rw [Try.results28]) ?_ ?_); rotate_left; (focus (simp [retA, retL, ret1, lk, st, ldA, AV.cell]; rfl)); (try simp [*]))
    rw [Bool.eq_iff_iff, beq_iff_eq, decide_eq_true_eq]; omega
@[simp] def g_trIn : List AV → Option (AV × Bool)
  | [a0, a1] => (match toInts a0 with | some a => (match toInts a1 with | some b => if (okInts a && okInts b) = true then some (.v (.bool (decide (grK a b = a.length))), false) else none | none => none) | none => none)
  | _ => none
theorem e_trIn : EntOk Try.prog 28 g_trIn := ent_pure (by kernel_rfl) fun args r fr h => by
  unfold g_trIn at h
  split at h
  · rename_i a0 a1
    split at h
    · rename_i a t0
      split at h
      · rename_i b t1
        split at h
        · rename_i hc
          simp only [Bool.and_eq_true] at hc
          obtain ⟨o0, o1⟩ := hc
          cases h
          exact ⟨FnPure.cov (trIn_p a b o0 o1) (.cons (cov_ints t0) (.cons (cov_ints t1) .nil)), rfl⟩
        · cases h
      · cases h
    · cases h
  · cases h

def l27 : List (FuncId × (List AV → Option (AV × Bool))) :=
  (28, g_trIn) :: l26
theorem l27_ok : ∀ p ∈ l27, EntOk Try.prog p.1 p.2 := ent_cons e_trIn (l26_ok)
def PT27 : PTab := tab l27
theorem PT27_ok : PTok Try.prog PT27 := tab_ok l27_ok
@[simp] theorem PT27_litVar : PT27 32 = g_litVar := rfl
@[simp] theorem PT27_litValid : PT27 77 = g_litValid := rfl
@[simp] theorem PT27_contains : PT27 50 = g_contains := rfl
@[simp] theorem PT27_check : PT27 46 = g_check := rfl
@[simp] theorem PT27_with : PT27 33 = g_with := rfl
@[simp] theorem PT27_without : PT27 31 = g_without := rfl
@[simp] theorem PT27_all : PT27 30 = g_all := rfl
@[simp] theorem PT27_rValid : PT27 71 = g_rValid := rfl
@[simp] theorem PT27_rCheck : PT27 42 = g_rCheck := rfl
@[simp] theorem PT27_litvalid : PT27 85 = g_litvalid := rfl
@[simp] theorem PT27_opposite : PT27 87 = g_opposite := rfl
@[simp] theorem PT27_clone : PT27 99 = g_clone := rfl
@[simp] theorem PT27_order : PT27 86 = g_order := rfl
@[simp] theorem PT27_term : PT27 69 = g_term := rfl
@[simp] theorem PT27_clause : PT27 57 = g_clause := rfl
@[simp] theorem PT27_equal : PT27 61 = g_equal := rfl
@[simp] theorem PT27_distinct : PT27 60 = g_distinct := rfl
@[simp] theorem PT27_normal : PT27 27 = g_normal := rfl
@[simp] theorem PT27_rContains : PT27 74 = g_rContains := rfl
@[simp] theorem PT27_rSameInts : PT27 52 = g_rSameInts := rfl
@[simp] theorem PT27_rAbs : PT27 114 = g_rAbs := rfl
@[simp] theorem PT27_rBefore : PT27 97 = g_rBefore := rfl
@[simp] theorem PT27_rSorted : PT27 75 = g_rSorted := rfl
@[simp] theorem PT27_rPut : PT27 76 = g_rPut := rfl
@[simp] theorem PT27_rNormal : PT27 45 = g_rNormal := rfl
@[simp] theorem PT27_place : PT27 62 = g_place := rfl
@[simp] theorem PT27_vHas : PT27 34 = g_vHas := rfl
@[simp] theorem PT27_vMinus : PT27 90 = g_vMinus := rfl
@[simp] theorem PT27_vCut : PT27 29 = g_vCut := rfl
@[simp] theorem PT27_vSub : PT27 65 = g_vSub := rfl
@[simp] theorem PT27_litHolds : PT27 64 = g_litHolds := rfl
@[simp] theorem PT27_litAny : PT27 36 = g_litAny := rfl
@[simp] theorem PT27_thEval : PT27 37 = g_thEval := rfl
@[simp] theorem PT27_rSame : PT27 22 = g_rSame := rfl
@[simp] theorem PT27_rTerm : PT27 73 = g_rTerm := rfl
@[simp] theorem PT27_thVars : PT27 35 = g_thVars := rfl
@[simp] theorem PT27_given : PT27 41 = g_given := rfl
@[simp] theorem PT27_light : PT27 13 = g_light := rfl
@[simp] theorem PT27_trLight : PT27 14 = g_trLight := rfl
@[simp] theorem PT27_trGood : PT27 47 = g_trGood := rfl
@[simp] theorem PT27_trLeft : PT27 20 = g_trLeft := rfl
@[simp] theorem PT27_trRes : PT27 18 = g_trRes := rfl
@[simp] theorem PT27_trIn : PT27 28 = g_trIn := rfl
end Go.Proofs.Ythdjgcjpolpgdaa
