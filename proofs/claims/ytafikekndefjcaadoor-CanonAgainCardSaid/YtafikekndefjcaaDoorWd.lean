/- Scripts of walks under fixed marks, kept once as default arguments; no condition. -/
import Derived.Test.YtafikekndefjcaaDoorWa
import Derived.Test.YtafikekndefjcaaDoorAm33
namespace Go.Proofs.YtafikekndefjcaaDoor
set_option linter.unusedVariables false
set_option linter.unusedSimpArgs false
set_option linter.unusedSectionVars false
open Go.RowKit
theorem adStr {G H : Prop} (t : Hold H → G := by intro hq; (repeat (first | with_reducible first | refine d_seq ?_ | refine kd_seq ?_ | refine kd_seq_ret ?_ | refine kd_seq_exit ?_ | refine k_blk ?_ | refine k_blk_ret ?_ | refine k_blk_exit ?_ | refine km_ret ?_ | refine ks_ret ?_ | refine d_block ?_ | refine d_skip ?_ | refine d_ret ?_ | refine d_exit ?_ | ((with_reducible refine k_blk_out ?_ ?_); (focus decide)) | ((with_reducible refine d_cond_t ?_ ?_); (focus (simp [*]; done))) | ((with_reducible refine d_cond_f ?_ ?_); (focus (simp [*]; done))))); exact hq.out) (h : H) : G := t ⟨h⟩
theorem adReg {PT : PTab} (hp : PTok Tryd.prog PT) {G H : Prop} (t : PTok Tryd.prog PT → Hold H → G := by intro hp hq; ((focus ((with_reducible refine d_region2 (q := ?_) (σ' := ?_) TT_ok hp ?_ ?_ ?_); rotate_left 2; (focus (first | (simp; exact Eq.refl _) | exact Eq.refl _)); (focus ((repeat (((with_reducible refine runL_cons (σ1 := ?_) ?_ ?_); rotate_left; (focus (simp [*]; rfl))))); (exact runL_nil)))))); exact hq.out) (h : H) : G := t hp ⟨h⟩
end Go.Proofs.YtafikekndefjcaaDoor
