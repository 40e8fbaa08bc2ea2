/- parts.Alone as a row of the table; no condition. -/
import Derived.Test.YtekeidhndlnghaaSyG
import Derived.Test.YtekeidhndlnghaaApG
namespace Go.Proofs.Ytekeidhndlnghaa
set_option linter.unusedVariables false
set_option linter.unusedSimpArgs false
set_option linter.unusedSectionVars false
open Go.RowKit
set_option maxRecDepth 100000
theorem cov_part {a b c : AV} {s : BitVec 128} {cs : List Int} (h1 : toSet (.agg [b, c]) = some s) (h2 : toInts a = some cs) : Cov (.agg [b, c, a]) (aPart s cs) := by
  intro S v hv
  obtain ⟨arr, rfl, hl, h3, h4⟩ := hv.agg_inv
  refine Rv.agg' hl h3 fun i hi => ?_
  have e := toSet_inv h1
  unfold aSet at e
  simp only [AV.agg.injEq, List.cons.injEq, and_true] at e
  match i, hi with
  | 0, _ =>
    have := h4 0 (by simp)
    simp only [List.getD_cons_zero, e.1] at this
    exact this
  | 1, _ =>
    have := h4 1 (by simp)
    simp only [List.getD_cons_succ, List.getD_cons_zero, e.2] at this
    exact this
  | 2, _ => exact cov_ints h2 S _ (h4 2 (by simp))
@[simp] def g_pAlone6 : List AV → Option (AV × Bool)
  | [.agg [.v (.int .i64 N), a0], a1, .agg [b2, c2, a2]] => (match toRows a0 with | some L => (match toInts a1 with | some ts => (match toSet (.agg [b2, c2]) with | some s => (match toInts a2 with | some cs => if (okI N && okRows L && okInts ts && okInts cs && decide (cs.length ≤ 4096)) = true then some (rAloneA N L ts cs, false) else none | none => none) | none => none) | none => none) | none => none)
  | _ => none
theorem e_pAlone6 : EntOk Try.prog 17 g_pAlone6 := ent_pure (by kernel_rfl) fun args r fr h => by
  unfold g_pAlone6 at h
  split at h
  · rename_i N a0 a1 b2 c2 a2
    split at h
    · rename_i L t0
      split at h
      · rename_i ts t1
        split at h
        · rename_i s s2
          split at h
          · rename_i cs t2
            split at h
            · rename_i hc
              simp only [Bool.and_eq_true] at hc
              obtain ⟨⟨⟨⟨m0, o0⟩, o1⟩, o2⟩, hk⟩ := hc
              cases h
              exact ⟨FnPure.cov (alone_p N L ts cs s m0 o0 o1 o2 (of_decide_eq_true hk)) (.cons (cov_th _ (cov_rows t0)) (.cons (cov_ints t1) (.cons (cov_part s2 t2) .nil))), rfl⟩
            · cases h
          · cases h
        · cases h
      · cases h
    · cases h
  · cases h

end Go.Proofs.Ytekeidhndlnghaa
