/- parts.Alone reads as the document's Alone; no condition. -/
import Derived.Test.YtekeidhndlnghaaCk16
import Derived.Test.YtekeidhndlnghaaOb7
namespace Go.Proofs.Ytekeidhndlnghaa
set_option linter.unusedVariables false
set_option linter.unusedSimpArgs false
set_option linter.unusedSectionVars false
open Go.RowKit
set_option maxRecDepth 100000
theorem Rv.tupM {G G' : Gh} {cs ds : List AV} {v : Value} (h : Rv G (.tup cs) v) (hl : ds.length = cs.length) (hd : ∀ i u, i < cs.length → Rv G (cs.getD i .any) u → Rv G' (ds.getD i .any) u) : Rv G' (.tup ds) v := by
  cases h with
  | tup _ us h1 h2 => exact .tup ds us (by omega) fun i hi => hd i _ (by omega) (h2 i (by omega))
theorem okInts_order {c : List Int} (h : okInts c = true) : okInts (orderL c) = true := by
  have h1 := okInts_len h
  have h2 := orderL_len c
  simp only [okInts, Bool.and_eq_true, List.all_eq_true, decide_eq_true_eq]
  exact ⟨fun y hy => okInts_mem h y (mem_orderL.1 hy), by omega⟩
theorem valid_check {N : Int} {L : List (List Int)} {ts : List Int} (h : validT N L ts = true) : checkT N L = 0 := by
  unfold validT at h
  simp only [Bool.and_eq_true, decide_eq_true_eq] at h
  exact h.1.1
theorem alone_objV (N : Int) (L : List (List Int)) (ts cs : List Int) (s : BitVec 128) (hN : okI N = true) (hL : okRows L = true) (ht : okInts ts = true) (hcs : okInts cs = true) (hc4 : cs.length ≤ 4096) (hv : validT N L ts = true) (hg : alnB L ts cs = true) :
    FnObj Try.prog 17 [aTh N L, aInts ts, aPart s cs] (resT N (alnL L ts cs)) (objT (alnL L ts cs)) (idsT (alnL L ts cs)) := by
  have h := alone_obj N L ts (orderL ts) cs s hN hL ht (okInts_order ht) hcs hc4 (by rw [chkL_valid, if_pos hv]) (valid_check hv) (by rw [alnB_order]; exact hg)
  rw [alnL_order] at h
  exact h
theorem alone_p (N : Int) (L : List (List Int)) (ts cs : List Int) (s : BitVec 128) (hN : okI N = true) (hL : okRows L = true) (ht : okInts ts = true) (hcs : okInts cs = true) (hc4 : cs.length ≤ 4096) : FnPure Try.prog 17 [aTh N L, aInts ts, aPart s cs] (rAloneA N L ts cs) := by
  cases hv : validT N L ts
  · have hr : rAloneA N L ts cs = alnE := by unfold rAloneA; rw [hv]; simp
    rw [hr]
    exact alone_err1 N L ts cs s hN hL ht hcs (by rw [chkL_valid, hv]; simp)
  · cases hg : alnB L ts cs
    · have hr : rAloneA N L ts cs = alnE := by unfold rAloneA; rw [hg]; simp
      rw [hr]
      exact alone_err2 N L ts (orderL ts) cs s hN hL ht (okInts_order ht) hcs hc4 (by rw [chkL_valid, if_pos hv]) (valid_check hv) (by rw [alnB_order]; exact hg)
    · have hr : rAloneA N L ts cs = .tup [aTh N (alnL L ts cs), .v (.int .i64 0)] := by unfold rAloneA; rw [if_pos ⟨hv, hg⟩]
      rw [hr]
      refine obj_pure (alone_objV N L ts cs s hN hL ht hcs hc4 hv hg) fun B G n w a v T hr hT hv => ?_
      refine hv.tupM rfl fun i u hi hu => ?_
      match i, hi with
      | 0, _ => exact readT_th hr hT (k := 0) (b := 1) rfl (fun j hj => by simp only [objT, lk]; rw [if_neg (by omega)]; exact lk_fam_add hj) hu
      | 1, _ => exact hu.isV rfl
end Go.Proofs.Ytekeidhndlnghaa
