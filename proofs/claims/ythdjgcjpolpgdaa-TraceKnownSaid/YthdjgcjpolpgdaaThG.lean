/- Contract of theory.Eval, by the abstract machine; no condition. -/
import Derived.Test.YthdjgcjpolpgdaaVsG
/- Th1: Contract of theory.Eval, by the abstract machine; no condition. -/
namespace Go.Proofs.Ythdjgcjpolpgdaa
set_option linter.unusedVariables false
set_option linter.unusedSimpArgs false
set_option linter.unusedSectionVars false
open Go.RowKit
attribute [local simp] undef runL runE effA stepA dstOk wantA core lk st dl AS.ev AS.evs AS.put AS.upd updO updI nxt cPick cAlloc cBox cBuild cBuildS cLoad cStore cNil plainOf cBin cNilS isNilS nilA cUn cConvX cConvB cConv bytesOf rowB cMake cSlice slA idxA cFA cF cIA cIX cIS cI cExt cLen cApp cMM cFun cCall lenA lenM isNilM nilM cNilM cMakeM hintB cMapK cLook foundR lookR cUpd putM cDel delM findA isKeyB Instr.sameNow AS.entry AS.bound AS.callee sc1 sc2 ixOk ldA AV.flat AV.cell AV.cells Value.oneCell' fillA spl chunk zeros AS.parts AS.rows AS.shut AS.shut1 AS.shut2 AS.shutL AS.shutM AV.ids idsL idsLL eqAll bndA AV.scalar AV.scalar1 AV.isV Ef.app fpA light Ef.pk ptOf pntO wrO wr
set_option maxRecDepth 100000

theorem sSub_iff (s t : BitVec 128) : sSub s t = true ↔ ∀ v : Int, sHas s v = true → sHas t v = true := by
  unfold sSub
  rw [beq_iff_eq]
  constructor
  · intro h v hv
    obtain ⟨h1, h2⟩ := sHas_mem hv
    have : sHas (s &&& ~~~ t) v = false := by rw [h]; exact sHas_zero v
    rw [sHas_and, sHas_not t v h1 h2, hv] at this
    simpa using this
  · intro h
    refine sets_ext fun v h1 h2 => ?_
    rw [sHas_and, sHas_not t v h1 h2, sHas_zero]
    cases hv : sHas s v
    · rfl
    · rw [h v hv]; rfl
theorem sub_upto (s : BitVec 128) {n : Int} (h0 : 0 ≤ n) : sSub s (sAll n) = sUpto s n := by
  rw [Bool.eq_iff_iff, sSub_iff, sUpto_iff s n h0]
  constructor
  · intro h v hv
    cases hs : sHas s v
    · rfl
    · have := h v hs
      rw [sHas_all] at this
      simp at this; omega
  · intro h v hv
    obtain ⟨h1, h2⟩ := sHas_mem hv
    rw [sHas_all]
    simp only [decide_eq_true_eq]
    refine ⟨h1, ?_, h2⟩
    rcases Int.lt_or_le n v with h3 | h3
    · rw [h v h3] at hv; cases hv
    · exact h3
theorem getD_memL {L : List (List Int)} {k : Nat} (hk : k < L.length) : L.getD k [] ∈ L := by
  have : L.getD k [] = L[k] := by simp [List.getD, hk]
  rw [this]; exact List.getElem_mem _
theorem thEval_p (N : Int) (L : List (List Int)) (s : BitVec 128) (hN : okI N = true) (h : okRows L = true) : FnPure Try.prog 37 [aTh N L, aSet s] (.v (.bool (evalT N L s))) := by
  have hm := okRows_len h
  unfold aTh aSet WV
  by_cases hz : checkT N L = 0
  · have hck := checkT_ok hz
    have hsub := sub_upto s hck.1
    unfold evalT
    rw [hz]
    cases hu : sUpto s N
    · rw [hu] at hsub
      refine fn_sp TT_ok Try.func37 (c := _) rfl (by simp [Try.ntmps37]) (fun B hI0 hro => ?_)
      rw [Try.ntmps37]
      simp only [enumA]
      repeat (first
          | with_reducible refine s_seq ?_
          | with_reducible refine k_seq ?_
          | with_reducible refine k_seq_ret ?_
          | with_reducible refine k_seq_exit ?_
          | with_reducible refine k_blk ?_
          | with_reducible refine k_blk_ret ?_
          | with_reducible refine k_blk_exit ?_
          | ((with_reducible refine k_blk_out ?_ ?_); (focus decide))
          | with_reducible refine k_lp_ret ?_
          | with_reducible refine k_lp_exit ?_
          | with_reducible refine ki_lp_ret ?_
          | with_reducible refine ki_lp_exit ?_
          | with_reducible refine s_block ?_
          | with_reducible refine sp_skip ?_
          | with_reducible refine sp_ret ?_
          | with_reducible refine sp_exit ?_
          | ((with_reducible refine s_cond_t ?_ ?_); (focus (simp [-List.getD_eq_getElem?_getD, List.getD_cons_zero, List.getD_cons_succ, List.getD_nil, lk, AS.ev, *]; done)))
          | ((with_reducible refine s_cond_f ?_ ?_); (focus (simp [-List.getD_eq_getElem?_getD, List.getD_cons_zero, List.getD_cons_succ, List.getD_nil, lk, AS.ev, *]; done)))
          | (focus ((with_reducible refine s_region2 (q := ?_) (σ' := ?_) TT_ok PT12_ok ?_ ?_ ?_); rotate_left 2; (focus (first | (simp [nxt]; exact Eq.refl _) | exact Eq.refl _)); (focus ((repeat (((with_reducible refine runL_cons (σ1 := ?_) ?_ ?_); rotate_left; (focus (simp [-List.getD_eq_getElem?_getD, List.getD_cons_zero, List.getD_cons_succ, List.getD_nil, *]; rfl))))); (exact runL_nil)))))
          | (focus ((with_reducible refine s_draw2 (q := ?_) (es := ?_) (σ' := ?_) prog_mixed TT_ok PT12_ok ?_ ?_ ?_ ?_); rotate_left 3; (focus (first | (simp [nxt]; exact Eq.refl _) | exact Eq.refl _)); (focus ((repeat (((with_reducible refine runE_cons (e := ?_) (σ1 := ?_) (es := ?_) ?_ ?_ ?_); rotate_left 3; (focus (simp [-List.getD_eq_getElem?_getD, List.getD_cons_zero, List.getD_cons_succ, List.getD_nil, *]; exact Eq.refl _)); (focus (simp [-List.getD_eq_getElem?_getD, List.getD_cons_zero, List.getD_cons_succ, Ef.app, Ef.pk, pntO, wrO, wr, lk, AS.upd, updO, updI, AS.put, st, dl]; exact Eq.refl _))))); (exact runE_nil))); (focus (first | kernel_rfl | decide)))))
      ((refine post_ret (av := ?_) (by first | exact .inl rfl | exact .inr rfl) (show (Try.f37).results.toList = _ from by rw [Try.results37]) ?_ ?_); rotate_left; (focus (simp [-List.getD_eq_getElem?_getD, List.getD_cons_zero, List.getD_cons_succ, retA, retL, ret1, lk, st, ldA, AV.cell]; rfl)); (try simp [-List.getD_eq_getElem?_getD, List.getD_cons_zero, List.getD_cons_succ, List.getD_nil, *]))
    · rw [hu] at hsub
      refine fn_sp TT_ok Try.func37 (c := _) rfl (by simp [Try.ntmps37]) (fun B hI0 hro => ?_)
      rw [Try.ntmps37]
      simp only [enumA]
      repeat (first
          | with_reducible refine s_seq ?_
          | with_reducible refine k_seq ?_
          | with_reducible refine k_seq_ret ?_
          | with_reducible refine k_seq_exit ?_
          | with_reducible refine k_blk ?_
          | with_reducible refine k_blk_ret ?_
          | with_reducible refine k_blk_exit ?_
          | ((with_reducible refine k_blk_out ?_ ?_); (focus decide))
          | with_reducible refine k_lp_ret ?_
          | with_reducible refine k_lp_exit ?_
          | with_reducible refine ki_lp_ret ?_
          | with_reducible refine ki_lp_exit ?_
          | with_reducible refine s_block ?_
          | with_reducible refine sp_skip ?_
          | with_reducible refine sp_ret ?_
          | with_reducible refine sp_exit ?_
          | ((with_reducible refine s_cond_t ?_ ?_); (focus (simp [-List.getD_eq_getElem?_getD, List.getD_cons_zero, List.getD_cons_succ, List.getD_nil, lk, AS.ev, *]; done)))
          | ((with_reducible refine s_cond_f ?_ ?_); (focus (simp [-List.getD_eq_getElem?_getD, List.getD_cons_zero, List.getD_cons_succ, List.getD_nil, lk, AS.ev, *]; done)))
          | (focus ((with_reducible refine s_region2 (q := ?_) (σ' := ?_) TT_ok PT12_ok ?_ ?_ ?_); rotate_left 2; (focus (first | (simp [nxt]; exact Eq.refl _) | exact Eq.refl _)); (focus ((repeat (((with_reducible refine runL_cons (σ1 := ?_) ?_ ?_); rotate_left; (focus (simp [-List.getD_eq_getElem?_getD, List.getD_cons_zero, List.getD_cons_succ, List.getD_nil, *]; rfl))))); (exact runL_nil)))))
          | (focus ((with_reducible refine s_draw2 (q := ?_) (es := ?_) (σ' := ?_) prog_mixed TT_ok PT12_ok ?_ ?_ ?_ ?_); rotate_left 3; (focus (first | (simp [nxt]; exact Eq.refl _) | exact Eq.refl _)); (focus ((repeat (((with_reducible refine runE_cons (e := ?_) (σ1 := ?_) (es := ?_) ?_ ?_ ?_); rotate_left 3; (focus (simp [-List.getD_eq_getElem?_getD, List.getD_cons_zero, List.getD_cons_succ, List.getD_nil, *]; exact Eq.refl _)); (focus (simp [-List.getD_eq_getElem?_getD, List.getD_cons_zero, List.getD_cons_succ, Ef.app, Ef.pk, pntO, wrO, wr, lk, AS.upd, updO, updI, AS.put, st, dl]; exact Eq.refl _))))); (exact runE_nil))); (focus (first | kernel_rfl | decide)))))
      refine s_loop (J := fun i : {k : Nat // k ≤ L.length ∧ ∀ j, j < k → (L.getD j []).any (litHolds s) = true} => ⟨30, [(3, .ptr 1 0 0), (19, aRows L), (20, .v (.int .i64 (L.length : Int))), (21, .v (.int .i64 (i.1 : Int)))], [(1, ⟨51, 2, [[.v (.int .u64 ((lo s).toNat : Int)), .v (.int .u64 ((hi s).toNat : Int))]]⟩)], [0, 1]⟩) (μ := fun i => L.length - i.1) ⟨0, Nat.zero_le _, fun j hj => by omega⟩ ?_ (fun ⟨k, hk, he⟩ => ?_)
      · (refine weak_id rfl ?_ ?_ <;> ((try simp only [List.mem_cons, List.not_mem_nil, or_false, forall_eq_or_imp, forall_eq]); (try simp (disch := omega) [-List.getD_eq_getElem?_getD, List.getD_cons_zero, List.getD_cons_succ, List.getD_nil, lk, AV.ids, idsL, idsLL, i64w, *])))
      repeat (first
          | with_reducible refine s_seq ?_
          | with_reducible refine k_seq ?_
          | with_reducible refine k_seq_ret ?_
          | with_reducible refine k_seq_exit ?_
          | with_reducible refine k_blk ?_
          | with_reducible refine k_blk_ret ?_
          | with_reducible refine k_blk_exit ?_
          | ((with_reducible refine k_blk_out ?_ ?_); (focus decide))
          | with_reducible refine k_lp_ret ?_
          | with_reducible refine k_lp_exit ?_
          | with_reducible refine ki_lp_ret ?_
          | with_reducible refine ki_lp_exit ?_
          | with_reducible refine s_block ?_
          | with_reducible refine sp_skip ?_
          | with_reducible refine sp_ret ?_
          | with_reducible refine sp_exit ?_
          | ((with_reducible refine s_cond_t ?_ ?_); (focus (simp [-List.getD_eq_getElem?_getD, List.getD_cons_zero, List.getD_cons_succ, List.getD_nil, lk, AS.ev, *]; done)))
          | ((with_reducible refine s_cond_f ?_ ?_); (focus (simp [-List.getD_eq_getElem?_getD, List.getD_cons_zero, List.getD_cons_succ, List.getD_nil, lk, AS.ev, *]; done)))
          | (focus ((with_reducible refine s_region2 (q := ?_) (σ' := ?_) TT_ok PT12_ok ?_ ?_ ?_); rotate_left 2; (focus (first | (simp [nxt]; exact Eq.refl _) | exact Eq.refl _)); (focus ((repeat (((with_reducible refine runL_cons (σ1 := ?_) ?_ ?_); rotate_left; (focus (simp [-List.getD_eq_getElem?_getD, List.getD_cons_zero, List.getD_cons_succ, List.getD_nil, *]; rfl))))); (exact runL_nil)))))
          | (focus ((with_reducible refine s_draw2 (q := ?_) (es := ?_) (σ' := ?_) prog_mixed TT_ok PT12_ok ?_ ?_ ?_ ?_); rotate_left 3; (focus (first | (simp [nxt]; exact Eq.refl _) | exact Eq.refl _)); (focus ((repeat (((with_reducible refine runE_cons (e := ?_) (σ1 := ?_) (es := ?_) ?_ ?_ ?_); rotate_left 3; (focus (simp [-List.getD_eq_getElem?_getD, List.getD_cons_zero, List.getD_cons_succ, List.getD_nil, *]; exact Eq.refl _)); (focus (simp [-List.getD_eq_getElem?_getD, List.getD_cons_zero, List.getD_cons_succ, Ef.app, Ef.pk, pntO, wrO, wr, lk, AS.upd, updO, updI, AS.put, st, dl]; exact Eq.refl _))))); (exact runE_nil))); (focus (first | kernel_rfl | decide)))))
      (focus ((with_reducible refine sp_cond (b := ?_) ?_ (fun hc => ?_) (fun hc => ?_)); rotate_left; (focus (first | rfl | (simp [lk, AS.ev]; rfl))); all_goals (try simp [-List.getD_eq_getElem?_getD] at hc)))
      · have ho := okRows_at h k
        have hcc := hc
        clear hc
        cases hq : (L.getD k []).any (litHolds s)
        · repeat (first
              | with_reducible refine s_seq ?_
              | with_reducible refine k_seq ?_
              | with_reducible refine k_seq_ret ?_
              | with_reducible refine k_seq_exit ?_
              | with_reducible refine k_blk ?_
              | with_reducible refine k_blk_ret ?_
              | with_reducible refine k_blk_exit ?_
              | ((with_reducible refine k_blk_out ?_ ?_); (focus decide))
              | with_reducible refine k_lp_ret ?_
              | with_reducible refine k_lp_exit ?_
              | with_reducible refine ki_lp_ret ?_
              | with_reducible refine ki_lp_exit ?_
              | with_reducible refine s_block ?_
              | with_reducible refine sp_skip ?_
              | with_reducible refine sp_ret ?_
              | with_reducible refine sp_exit ?_
              | ((with_reducible refine s_cond_t ?_ ?_); (focus (simp [-List.getD_eq_getElem?_getD, List.getD_cons_zero, List.getD_cons_succ, List.getD_nil, lk, AS.ev, *]; done)))
              | ((with_reducible refine s_cond_f ?_ ?_); (focus (simp [-List.getD_eq_getElem?_getD, List.getD_cons_zero, List.getD_cons_succ, List.getD_nil, lk, AS.ev, *]; done)))
              | (focus ((with_reducible refine s_region2 (q := ?_) (σ' := ?_) TT_ok PT12_ok ?_ ?_ ?_); rotate_left 2; (focus (first | (simp [nxt]; exact Eq.refl _) | exact Eq.refl _)); (focus ((repeat (((with_reducible refine runL_cons (σ1 := ?_) ?_ ?_); rotate_left; (focus (simp [-List.getD_eq_getElem?_getD, List.getD_cons_zero, List.getD_cons_succ, List.getD_nil, *]; rfl))))); (exact runL_nil)))))
              | (focus ((with_reducible refine s_draw2 (q := ?_) (es := ?_) (σ' := ?_) prog_mixed TT_ok PT12_ok ?_ ?_ ?_ ?_); rotate_left 3; (focus (first | (simp [nxt]; exact Eq.refl _) | exact Eq.refl _)); (focus ((repeat (((with_reducible refine runE_cons (e := ?_) (σ1 := ?_) (es := ?_) ?_ ?_ ?_); rotate_left 3; (focus (simp [-List.getD_eq_getElem?_getD, List.getD_cons_zero, List.getD_cons_succ, List.getD_nil, *]; exact Eq.refl _)); (focus (simp [-List.getD_eq_getElem?_getD, List.getD_cons_zero, List.getD_cons_succ, Ef.app, Ef.pk, pntO, wrO, wr, lk, AS.upd, updO, updI, AS.put, st, dl]; exact Eq.refl _))))); (exact runE_nil))); (focus (first | kernel_rfl | decide)))))
          ((refine post_ret (av := ?_) (by first | exact .inl rfl | exact .inr rfl) (show (Try.f37).results.toList = _ from by rw [Try.results37]) ?_ ?_); rotate_left; (focus (simp [-List.getD_eq_getElem?_getD, List.getD_cons_zero, List.getD_cons_succ, retA, retL, ret1, lk, st, ldA, AV.cell]; rfl)); (try simp [-List.getD_eq_getElem?_getD, List.getD_cons_zero, List.getD_cons_succ, List.getD_nil, *]))
          exact ⟨_, getD_memL hcc, fun x hx => by simpa using List.any_eq_false.1 hq x hx⟩
        · repeat (first
              | with_reducible refine s_seq ?_
              | with_reducible refine k_seq ?_
              | with_reducible refine k_seq_ret ?_
              | with_reducible refine k_seq_exit ?_
              | with_reducible refine k_blk ?_
              | with_reducible refine k_blk_ret ?_
              | with_reducible refine k_blk_exit ?_
              | ((with_reducible refine k_blk_out ?_ ?_); (focus decide))
              | with_reducible refine k_lp_ret ?_
              | with_reducible refine k_lp_exit ?_
              | with_reducible refine ki_lp_ret ?_
              | with_reducible refine ki_lp_exit ?_
              | with_reducible refine s_block ?_
              | with_reducible refine sp_skip ?_
              | with_reducible refine sp_ret ?_
              | with_reducible refine sp_exit ?_
              | ((with_reducible refine s_cond_t ?_ ?_); (focus (simp [-List.getD_eq_getElem?_getD, List.getD_cons_zero, List.getD_cons_succ, List.getD_nil, lk, AS.ev, *]; done)))
              | ((with_reducible refine s_cond_f ?_ ?_); (focus (simp [-List.getD_eq_getElem?_getD, List.getD_cons_zero, List.getD_cons_succ, List.getD_nil, lk, AS.ev, *]; done)))
              | (focus ((with_reducible refine s_region2 (q := ?_) (σ' := ?_) TT_ok PT12_ok ?_ ?_ ?_); rotate_left 2; (focus (first | (simp [nxt]; exact Eq.refl _) | exact Eq.refl _)); (focus ((repeat (((with_reducible refine runL_cons (σ1 := ?_) ?_ ?_); rotate_left; (focus (simp [-List.getD_eq_getElem?_getD, List.getD_cons_zero, List.getD_cons_succ, List.getD_nil, *]; rfl))))); (exact runL_nil)))))
              | (focus ((with_reducible refine s_draw2 (q := ?_) (es := ?_) (σ' := ?_) prog_mixed TT_ok PT12_ok ?_ ?_ ?_ ?_); rotate_left 3; (focus (first | (simp [nxt]; exact Eq.refl _) | exact Eq.refl _)); (focus ((repeat (((with_reducible refine runE_cons (e := ?_) (σ1 := ?_) (es := ?_) ?_ ?_ ?_); rotate_left 3; (focus (simp [-List.getD_eq_getElem?_getD, List.getD_cons_zero, List.getD_cons_succ, List.getD_nil, *]; exact Eq.refl _)); (focus (simp [-List.getD_eq_getElem?_getD, List.getD_cons_zero, List.getD_cons_succ, Ef.app, Ef.pk, pntO, wrO, wr, lk, AS.upd, updO, updI, AS.put, st, dl]; exact Eq.refl _))))); (exact runE_nil))); (focus (first | kernel_rfl | decide)))))
          refine k_lp (⟨k + 1, by omega, fun j hj => ?_⟩ : {k : Nat // k ≤ L.length ∧ ∀ j, j < k → (L.getD j []).any (litHolds s) = true}) (by dsimp only; omega) ?_
          · by_cases e : j < k
            · exact he j e
            · obtain rfl : j = k := by omega
              exact hq
          · (refine weak_id rfl ?_ ?_ <;> ((try simp only [List.mem_cons, List.not_mem_nil, or_false, forall_eq_or_imp, forall_eq]); (try simp (disch := omega) [-List.getD_eq_getElem?_getD, List.getD_cons_zero, List.getD_cons_succ, List.getD_nil, lk, AV.ids, idsL, idsLL, i64w, *])))
      · have hall : L.all (fun c => c.any (litHolds s)) = true := List.all_eq_true.2 fun c hcm => by
          obtain ⟨j, hj, rfl⟩ := List.getElem_of_mem hcm
          have := he j (by omega)
          simpa [List.getD, hj] using this
        repeat (first
            | with_reducible refine s_seq ?_
            | with_reducible refine k_seq ?_
            | with_reducible refine k_seq_ret ?_
            | with_reducible refine k_seq_exit ?_
            | with_reducible refine k_blk ?_
            | with_reducible refine k_blk_ret ?_
            | with_reducible refine k_blk_exit ?_
            | ((with_reducible refine k_blk_out ?_ ?_); (focus decide))
            | with_reducible refine k_lp_ret ?_
            | with_reducible refine k_lp_exit ?_
            | with_reducible refine ki_lp_ret ?_
            | with_reducible refine ki_lp_exit ?_
            | with_reducible refine s_block ?_
            | with_reducible refine sp_skip ?_
            | with_reducible refine sp_ret ?_
            | with_reducible refine sp_exit ?_
            | ((with_reducible refine s_cond_t ?_ ?_); (focus (simp [-List.getD_eq_getElem?_getD, List.getD_cons_zero, List.getD_cons_succ, List.getD_nil, lk, AS.ev, *]; done)))
            | ((with_reducible refine s_cond_f ?_ ?_); (focus (simp [-List.getD_eq_getElem?_getD, List.getD_cons_zero, List.getD_cons_succ, List.getD_nil, lk, AS.ev, *]; done)))
            | (focus ((with_reducible refine s_region2 (q := ?_) (σ' := ?_) TT_ok PT12_ok ?_ ?_ ?_); rotate_left 2; (focus (first | (simp [nxt]; exact Eq.refl _) | exact Eq.refl _)); (focus ((repeat (((with_reducible refine runL_cons (σ1 := ?_) ?_ ?_); rotate_left; (focus (simp [-List.getD_eq_getElem?_getD, List.getD_cons_zero, List.getD_cons_succ, List.getD_nil, *]; rfl))))); (exact runL_nil)))))
            | (focus ((with_reducible refine s_draw2 (q := ?_) (es := ?_) (σ' := ?_) prog_mixed TT_ok PT12_ok ?_ ?_ ?_ ?_); rotate_left 3; (focus (first | (simp [nxt]; exact Eq.refl _) | exact Eq.refl _)); (focus ((repeat (((with_reducible refine runE_cons (e := ?_) (σ1 := ?_) (es := ?_) ?_ ?_ ?_); rotate_left 3; (focus (simp [-List.getD_eq_getElem?_getD, List.getD_cons_zero, List.getD_cons_succ, List.getD_nil, *]; exact Eq.refl _)); (focus (simp [-List.getD_eq_getElem?_getD, List.getD_cons_zero, List.getD_cons_succ, Ef.app, Ef.pk, pntO, wrO, wr, lk, AS.upd, updO, updI, AS.put, st, dl]; exact Eq.refl _))))); (exact runE_nil))); (focus (first | kernel_rfl | decide)))))
        ((refine post_ret (av := ?_) (by first | exact .inl rfl | exact .inr rfl) (show (Try.f37).results.toList = _ from by rw [Try.results37]) ?_ ?_); rotate_left; (focus (simp [-List.getD_eq_getElem?_getD, List.getD_cons_zero, List.getD_cons_succ, retA, retL, ret1, lk, st, ldA, AV.cell]; rfl)); (try simp [-List.getD_eq_getElem?_getD, List.getD_cons_zero, List.getD_cons_succ, List.getD_nil, *]))
  · have e : evalT N L s = false := by unfold evalT; rw [show decide (checkT N L = 0) = false by simpa using hz]; rfl
    have hne : (checkT N L != 0) = true := by simpa using hz
    rw [e]
    refine fn_sp TT_ok Try.func37 (c := _) rfl (by simp [Try.ntmps37]) (fun B hI0 hro => ?_)
    rw [Try.ntmps37]
    simp only [enumA]
    repeat (first
        | with_reducible refine s_seq ?_
        | with_reducible refine k_seq ?_
        | with_reducible refine k_seq_ret ?_
        | with_reducible refine k_seq_exit ?_
        | with_reducible refine k_blk ?_
        | with_reducible refine k_blk_ret ?_
        | with_reducible refine k_blk_exit ?_
        | ((with_reducible refine k_blk_out ?_ ?_); (focus decide))
        | with_reducible refine k_lp_ret ?_
        | with_reducible refine k_lp_exit ?_
        | with_reducible refine ki_lp_ret ?_
        | with_reducible refine ki_lp_exit ?_
        | with_reducible refine s_block ?_
        | with_reducible refine sp_skip ?_
        | with_reducible refine sp_ret ?_
        | with_reducible refine sp_exit ?_
        | ((with_reducible refine s_cond_t ?_ ?_); (focus (simp [-List.getD_eq_getElem?_getD, List.getD_cons_zero, List.getD_cons_succ, List.getD_nil, lk, AS.ev, *]; done)))
        | ((with_reducible refine s_cond_f ?_ ?_); (focus (simp [-List.getD_eq_getElem?_getD, List.getD_cons_zero, List.getD_cons_succ, List.getD_nil, lk, AS.ev, *]; done)))
        | (focus ((with_reducible refine s_region2 (q := ?_) (σ' := ?_) TT_ok PT12_ok ?_ ?_ ?_); rotate_left 2; (focus (first | (simp [nxt]; exact Eq.refl _) | exact Eq.refl _)); (focus ((repeat (((with_reducible refine runL_cons (σ1 := ?_) ?_ ?_); rotate_left; (focus (simp [-List.getD_eq_getElem?_getD, List.getD_cons_zero, List.getD_cons_succ, List.getD_nil, *]; rfl))))); (exact runL_nil)))))
        | (focus ((with_reducible refine s_draw2 (q := ?_) (es := ?_) (σ' := ?_) prog_mixed TT_ok PT12_ok ?_ ?_ ?_ ?_); rotate_left 3; (focus (first | (simp [nxt]; exact Eq.refl _) | exact Eq.refl _)); (focus ((repeat (((with_reducible refine runE_cons (e := ?_) (σ1 := ?_) (es := ?_) ?_ ?_ ?_); rotate_left 3; (focus (simp [-List.getD_eq_getElem?_getD, List.getD_cons_zero, List.getD_cons_succ, List.getD_nil, *]; exact Eq.refl _)); (focus (simp [-List.getD_eq_getElem?_getD, List.getD_cons_zero, List.getD_cons_succ, Ef.app, Ef.pk, pntO, wrO, wr, lk, AS.upd, updO, updI, AS.put, st, dl]; exact Eq.refl _))))); (exact runE_nil))); (focus (first | kernel_rfl | decide)))))
    ((refine post_ret (av := ?_) (by first | exact .inl rfl | exact .inr rfl) (show (Try.f37).results.toList = _ from by rw [Try.results37]) ?_ ?_); rotate_left; (focus (simp [-List.getD_eq_getElem?_getD, List.getD_cons_zero, List.getD_cons_succ, retA, retL, ret1, lk, st, ldA, AV.cell]; rfl)); (try simp [-List.getD_eq_getElem?_getD, List.getD_cons_zero, List.getD_cons_succ, List.getD_nil, *]))
@[simp] def g_thEval : List AV → Option (AV × Bool)
  | [.agg [.v (.int .i64 N), a0], a1] => (match toRows a0 with | some L => (match toSet a1 with | some s => if (okI N && okRows L) = true then some (.v (.bool (evalT N L s)), false) else none | none => none) | none => none)
  | _ => none
theorem e_thEval : EntOk Try.prog 37 g_thEval := ent_pure (by kernel_rfl) fun args r fr h => by
  unfold g_thEval at h
  split at h
  · rename_i N a0 a1
    split at h
    · rename_i L t0
      split at h
      · rename_i s t1
        split at h
        · rename_i hc
          simp only [Bool.and_eq_true] at hc
          obtain ⟨m0, o0⟩ := hc
          cases h
          exact ⟨FnPure.cov (thEval_p N L s m0 o0) (.cons (cov_th _ (cov_rows t0)) (.cons (toSet_inv t1 ▸ Cov.refl _) .nil)), rfl⟩
        · cases h
      · cases h
    · cases h
  · cases h

def l13 : List (FuncId × (List AV → Option (AV × Bool))) :=
  (37, g_thEval) :: l12
theorem l13_ok : ∀ p ∈ l13, EntOk Try.prog p.1 p.2 := ent_cons e_thEval (l12_ok)
def PT13 : PTab := tab l13
theorem PT13_ok : PTok Try.prog PT13 := tab_ok l13_ok
@[simp] theorem PT13_litVar : PT13 32 = g_litVar := rfl
@[simp] theorem PT13_litValid : PT13 77 = g_litValid := rfl
@[simp] theorem PT13_contains : PT13 50 = g_contains := rfl
@[simp] theorem PT13_check : PT13 46 = g_check := rfl
@[simp] theorem PT13_with : PT13 33 = g_with := rfl
@[simp] theorem PT13_without : PT13 31 = g_without := rfl
@[simp] theorem PT13_all : PT13 30 = g_all := rfl
@[simp] theorem PT13_rValid : PT13 71 = g_rValid := rfl
@[simp] theorem PT13_rCheck : PT13 42 = g_rCheck := rfl
@[simp] theorem PT13_litvalid : PT13 85 = g_litvalid := rfl
@[simp] theorem PT13_opposite : PT13 87 = g_opposite := rfl
@[simp] theorem PT13_clone : PT13 99 = g_clone := rfl
@[simp] theorem PT13_order : PT13 86 = g_order := rfl
@[simp] theorem PT13_term : PT13 69 = g_term := rfl
@[simp] theorem PT13_clause : PT13 57 = g_clause := rfl
@[simp] theorem PT13_equal : PT13 61 = g_equal := rfl
@[simp] theorem PT13_distinct : PT13 60 = g_distinct := rfl
@[simp] theorem PT13_normal : PT13 27 = g_normal := rfl
@[simp] theorem PT13_rContains : PT13 74 = g_rContains := rfl
@[simp] theorem PT13_rSameInts : PT13 52 = g_rSameInts := rfl
@[simp] theorem PT13_rAbs : PT13 114 = g_rAbs := rfl
@[simp] theorem PT13_rBefore : PT13 97 = g_rBefore := rfl
@[simp] theorem PT13_rSorted : PT13 75 = g_rSorted := rfl
@[simp] theorem PT13_rPut : PT13 76 = g_rPut := rfl
@[simp] theorem PT13_rNormal : PT13 45 = g_rNormal := rfl
@[simp] theorem PT13_place : PT13 62 = g_place := rfl
@[simp] theorem PT13_vHas : PT13 34 = g_vHas := rfl
@[simp] theorem PT13_vMinus : PT13 90 = g_vMinus := rfl
@[simp] theorem PT13_vCut : PT13 29 = g_vCut := rfl
@[simp] theorem PT13_vSub : PT13 65 = g_vSub := rfl
@[simp] theorem PT13_litHolds : PT13 64 = g_litHolds := rfl
@[simp] theorem PT13_litAny : PT13 36 = g_litAny := rfl
@[simp] theorem PT13_thEval : PT13 37 = g_thEval := rfl
end Go.Proofs.Ythdjgcjpolpgdaa
/- Th2: Contracts of censusref05.Same and Term, by the abstract machine; no condition. -/
namespace Go.Proofs.Ythdjgcjpolpgdaa
set_option linter.unusedVariables false
set_option linter.unusedSimpArgs false
set_option linter.unusedSectionVars false
open Go.RowKit
attribute [local simp] undef runL runE effA stepA dstOk wantA core lk st dl AS.ev AS.evs AS.put AS.upd updO updI nxt cPick cAlloc cBox cBuild cBuildS cLoad cStore cNil plainOf cBin cNilS isNilS nilA cUn cConvX cConvB cConv bytesOf rowB cMake cSlice slA idxA cFA cF cIA cIX cIS cI cExt cLen cApp cMM cFun cCall lenA lenM isNilM nilM cNilM cMakeM hintB cMapK cLook foundR lookR cUpd putM cDel delM findA isKeyB Instr.sameNow AS.entry AS.bound AS.callee sc1 sc2 ixOk ldA AV.flat AV.cell AV.cells Value.oneCell' fillA spl chunk zeros AS.parts AS.rows AS.shut AS.shut1 AS.shut2 AS.shutL AS.shutM AV.ids idsL idsLL eqAll bndA AV.scalar AV.scalar1 AV.isV Ef.app fpA light Ef.pk ptOf pntO wrO wr
set_option maxRecDepth 100000

theorem rows_eq_of {L M : List (List Int)} (hl : L.length = M.length) (h : ∀ j, j < L.length → L.getD j [] = M.getD j []) : L = M := by
  refine List.ext_getElem hl fun j h1 h2 => ?_
  have := h j h1
  simpa [List.getD, h1, h2] using this
/-- Two theories are equal. -/
def thSame (N : Int) (L : List (List Int)) (M : Int) (K : List (List Int)) : Bool := decide (N = M) && decide (L = K)
theorem rSame_p (N : Int) (L : List (List Int)) (M : Int) (K : List (List Int)) (hL : okRows L = true) (hK : okRows K = true) : FnPure Try.prog 22 [aTh N L, aTh M K] (.v (.bool (thSame N L M K))) := by
  have hm := okRows_len hL
  unfold aTh thSame
  by_cases hN : N = M
  · subst hN
    by_cases hl : L.length = K.length
    · refine fn_sp TT_ok Try.func22 (c := _) rfl (by simp [Try.ntmps22]) (fun B hI0 hro => ?_)
      rw [Try.ntmps22]
      simp only [enumA]
      repeat (first
          | with_reducible refine s_seq ?_
          | with_reducible refine k_seq ?_
          | with_reducible refine k_seq_ret ?_
          | with_reducible refine k_seq_exit ?_
          | with_reducible refine k_blk ?_
          | with_reducible refine k_blk_ret ?_
          | with_reducible refine k_blk_exit ?_
          | ((with_reducible refine k_blk_out ?_ ?_); (focus decide))
          | with_reducible refine k_lp_ret ?_
          | with_reducible refine k_lp_exit ?_
          | with_reducible refine ki_lp_ret ?_
          | with_reducible refine ki_lp_exit ?_
          | with_reducible refine s_block ?_
          | with_reducible refine sp_skip ?_
          | with_reducible refine sp_ret ?_
          | with_reducible refine sp_exit ?_
          | ((with_reducible refine s_cond_t ?_ ?_); (focus (simp [-List.getD_eq_getElem?_getD, List.getD_cons_zero, List.getD_cons_succ, List.getD_nil, lk, AS.ev, *]; done)))
          | ((with_reducible refine s_cond_f ?_ ?_); (focus (simp [-List.getD_eq_getElem?_getD, List.getD_cons_zero, List.getD_cons_succ, List.getD_nil, lk, AS.ev, *]; done)))
          | (focus ((with_reducible refine s_region2 (q := ?_) (σ' := ?_) TT_ok PT13_ok ?_ ?_ ?_); rotate_left 2; (focus (first | (simp [nxt]; exact Eq.refl _) | exact Eq.refl _)); (focus ((repeat (((with_reducible refine runL_cons (σ1 := ?_) ?_ ?_); rotate_left; (focus (simp [-List.getD_eq_getElem?_getD, List.getD_cons_zero, List.getD_cons_succ, List.getD_nil, *]; rfl))))); (exact runL_nil)))))
          | (focus ((with_reducible refine s_draw2 (q := ?_) (es := ?_) (σ' := ?_) prog_mixed TT_ok PT13_ok ?_ ?_ ?_ ?_); rotate_left 3; (focus (first | (simp [nxt]; exact Eq.refl _) | exact Eq.refl _)); (focus ((repeat (((with_reducible refine runE_cons (e := ?_) (σ1 := ?_) (es := ?_) ?_ ?_ ?_); rotate_left 3; (focus (simp [-List.getD_eq_getElem?_getD, List.getD_cons_zero, List.getD_cons_succ, List.getD_nil, *]; exact Eq.refl _)); (focus (simp [-List.getD_eq_getElem?_getD, List.getD_cons_zero, List.getD_cons_succ, Ef.app, Ef.pk, pntO, wrO, wr, lk, AS.upd, updO, updI, AS.put, st, dl]; exact Eq.refl _))))); (exact runE_nil))); (focus (first | kernel_rfl | decide)))))
      refine s_loop (J := fun i : {k : Nat // k ≤ L.length ∧ ∀ j, j < k → L.getD j [] = K.getD j []} => ⟨39, [(2, .ptr 0 0 0), (3, .ptr 1 0 0), (5, .v (.int .i64 (i.1 : Int)))], [(0, ⟨24, 2, [[.v (.int .i64 N), aRows L]]⟩), (1, ⟨24, 2, [[.v (.int .i64 N), aRows K]]⟩)], [0, 1]⟩) (μ := fun i => L.length - i.1) ⟨0, Nat.zero_le _, fun j hj => by omega⟩ ?_ (fun ⟨k, hk, he⟩ => ?_)
      · (refine weak_id rfl ?_ ?_ <;> ((try simp only [List.mem_cons, List.not_mem_nil, or_false, forall_eq_or_imp, forall_eq]); (try simp (disch := omega) [-List.getD_eq_getElem?_getD, List.getD_cons_zero, List.getD_cons_succ, List.getD_nil, lk, AV.ids, idsL, idsLL, i64w, *])))
        all_goals rfl
      repeat (first
          | with_reducible refine s_seq ?_
          | with_reducible refine k_seq ?_
          | with_reducible refine k_seq_ret ?_
          | with_reducible refine k_seq_exit ?_
          | with_reducible refine k_blk ?_
          | with_reducible refine k_blk_ret ?_
          | with_reducible refine k_blk_exit ?_
          | ((with_reducible refine k_blk_out ?_ ?_); (focus decide))
          | with_reducible refine k_lp_ret ?_
          | with_reducible refine k_lp_exit ?_
          | with_reducible refine ki_lp_ret ?_
          | with_reducible refine ki_lp_exit ?_
          | with_reducible refine s_block ?_
          | with_reducible refine sp_skip ?_
          | with_reducible refine sp_ret ?_
          | with_reducible refine sp_exit ?_
          | ((with_reducible refine s_cond_t ?_ ?_); (focus (simp [-List.getD_eq_getElem?_getD, List.getD_cons_zero, List.getD_cons_succ, List.getD_nil, lk, AS.ev, *]; done)))
          | ((with_reducible refine s_cond_f ?_ ?_); (focus (simp [-List.getD_eq_getElem?_getD, List.getD_cons_zero, List.getD_cons_succ, List.getD_nil, lk, AS.ev, *]; done)))
          | (focus ((with_reducible refine s_region2 (q := ?_) (σ' := ?_) TT_ok PT13_ok ?_ ?_ ?_); rotate_left 2; (focus (first | (simp [nxt]; exact Eq.refl _) | exact Eq.refl _)); (focus ((repeat (((with_reducible refine runL_cons (σ1 := ?_) ?_ ?_); rotate_left; (focus (simp [-List.getD_eq_getElem?_getD, List.getD_cons_zero, List.getD_cons_succ, List.getD_nil, *]; rfl))))); (exact runL_nil)))))
          | (focus ((with_reducible refine s_draw2 (q := ?_) (es := ?_) (σ' := ?_) prog_mixed TT_ok PT13_ok ?_ ?_ ?_ ?_); rotate_left 3; (focus (first | (simp [nxt]; exact Eq.refl _) | exact Eq.refl _)); (focus ((repeat (((with_reducible refine runE_cons (e := ?_) (σ1 := ?_) (es := ?_) ?_ ?_ ?_); rotate_left 3; (focus (simp [-List.getD_eq_getElem?_getD, List.getD_cons_zero, List.getD_cons_succ, List.getD_nil, *]; exact Eq.refl _)); (focus (simp [-List.getD_eq_getElem?_getD, List.getD_cons_zero, List.getD_cons_succ, Ef.app, Ef.pk, pntO, wrO, wr, lk, AS.upd, updO, updI, AS.put, st, dl]; exact Eq.refl _))))); (exact runE_nil))); (focus (first | kernel_rfl | decide)))))
      (focus ((with_reducible refine sp_cond (b := ?_) ?_ (fun hc => ?_) (fun hc => ?_)); rotate_left; (focus (first | rfl | (simp [lk, AS.ev]; rfl))); all_goals (try simp [-List.getD_eq_getElem?_getD] at hc)))
      · have ho1 := okRows_at hL k
        have ho2 := okRows_at hK k
        have hk2 : k < K.length := by omega
        by_cases hq : L.getD k [] = K.getD k []
        · repeat (first
              | with_reducible refine s_seq ?_
              | with_reducible refine k_seq ?_
              | with_reducible refine k_seq_ret ?_
              | with_reducible refine k_seq_exit ?_
              | with_reducible refine k_blk ?_
              | with_reducible refine k_blk_ret ?_
              | with_reducible refine k_blk_exit ?_
              | ((with_reducible refine k_blk_out ?_ ?_); (focus decide))
              | with_reducible refine k_lp_ret ?_
              | with_reducible refine k_lp_exit ?_
              | with_reducible refine ki_lp_ret ?_
              | with_reducible refine ki_lp_exit ?_
              | with_reducible refine s_block ?_
              | with_reducible refine sp_skip ?_
              | with_reducible refine sp_ret ?_
              | with_reducible refine sp_exit ?_
              | ((with_reducible refine s_cond_t ?_ ?_); (focus (simp [-List.getD_eq_getElem?_getD, List.getD_cons_zero, List.getD_cons_succ, List.getD_nil, lk, AS.ev, *]; done)))
              | ((with_reducible refine s_cond_f ?_ ?_); (focus (simp [-List.getD_eq_getElem?_getD, List.getD_cons_zero, List.getD_cons_succ, List.getD_nil, lk, AS.ev, *]; done)))
              | (focus ((with_reducible refine s_region2 (q := ?_) (σ' := ?_) TT_ok PT13_ok ?_ ?_ ?_); rotate_left 2; (focus (first | (simp [nxt]; exact Eq.refl _) | exact Eq.refl _)); (focus ((repeat (((with_reducible refine runL_cons (σ1 := ?_) ?_ ?_); rotate_left; (focus (simp [-List.getD_eq_getElem?_getD, List.getD_cons_zero, List.getD_cons_succ, List.getD_nil, *]; rfl))))); (exact runL_nil)))))
              | (focus ((with_reducible refine s_draw2 (q := ?_) (es := ?_) (σ' := ?_) prog_mixed TT_ok PT13_ok ?_ ?_ ?_ ?_); rotate_left 3; (focus (first | (simp [nxt]; exact Eq.refl _) | exact Eq.refl _)); (focus ((repeat (((with_reducible refine runE_cons (e := ?_) (σ1 := ?_) (es := ?_) ?_ ?_ ?_); rotate_left 3; (focus (simp [-List.getD_eq_getElem?_getD, List.getD_cons_zero, List.getD_cons_succ, List.getD_nil, *]; exact Eq.refl _)); (focus (simp [-List.getD_eq_getElem?_getD, List.getD_cons_zero, List.getD_cons_succ, Ef.app, Ef.pk, pntO, wrO, wr, lk, AS.upd, updO, updI, AS.put, st, dl]; exact Eq.refl _))))); (exact runE_nil))); (focus (first | kernel_rfl | decide)))))
          refine k_lp (⟨k + 1, by omega, fun j hj => ?_⟩ : {k : Nat // k ≤ L.length ∧ ∀ j, j < k → L.getD j [] = K.getD j []}) (by dsimp only; omega) ?_
          · by_cases e : j < k
            · exact he j e
            · obtain rfl : j = k := by omega
              exact hq
          · (refine weak_id rfl ?_ ?_ <;> ((try simp only [List.mem_cons, List.not_mem_nil, or_false, forall_eq_or_imp, forall_eq]); (try simp (disch := omega) [-List.getD_eq_getElem?_getD, List.getD_cons_zero, List.getD_cons_succ, List.getD_nil, lk, AV.ids, idsL, idsLL, i64w, *])))
        · have hne : L ≠ K := fun e => hq (by rw [e])
          repeat (first
              | with_reducible refine s_seq ?_
              | with_reducible refine k_seq ?_
              | with_reducible refine k_seq_ret ?_
              | with_reducible refine k_seq_exit ?_
              | with_reducible refine k_blk ?_
              | with_reducible refine k_blk_ret ?_
              | with_reducible refine k_blk_exit ?_
              | ((with_reducible refine k_blk_out ?_ ?_); (focus decide))
              | with_reducible refine k_lp_ret ?_
              | with_reducible refine k_lp_exit ?_
              | with_reducible refine ki_lp_ret ?_
              | with_reducible refine ki_lp_exit ?_
              | with_reducible refine s_block ?_
              | with_reducible refine sp_skip ?_
              | with_reducible refine sp_ret ?_
              | with_reducible refine sp_exit ?_
              | ((with_reducible refine s_cond_t ?_ ?_); (focus (simp [-List.getD_eq_getElem?_getD, List.getD_cons_zero, List.getD_cons_succ, List.getD_nil, lk, AS.ev, *]; done)))
              | ((with_reducible refine s_cond_f ?_ ?_); (focus (simp [-List.getD_eq_getElem?_getD, List.getD_cons_zero, List.getD_cons_succ, List.getD_nil, lk, AS.ev, *]; done)))
              | (focus ((with_reducible refine s_region2 (q := ?_) (σ' := ?_) TT_ok PT13_ok ?_ ?_ ?_); rotate_left 2; (focus (first | (simp [nxt]; exact Eq.refl _) | exact Eq.refl _)); (focus ((repeat (((with_reducible refine runL_cons (σ1 := ?_) ?_ ?_); rotate_left; (focus (simp [-List.getD_eq_getElem?_getD, List.getD_cons_zero, List.getD_cons_succ, List.getD_nil, *]; rfl))))); (exact runL_nil)))))
              | (focus ((with_reducible refine s_draw2 (q := ?_) (es := ?_) (σ' := ?_) prog_mixed TT_ok PT13_ok ?_ ?_ ?_ ?_); rotate_left 3; (focus (first | (simp [nxt]; exact Eq.refl _) | exact Eq.refl _)); (focus ((repeat (((with_reducible refine runE_cons (e := ?_) (σ1 := ?_) (es := ?_) ?_ ?_ ?_); rotate_left 3; (focus (simp [-List.getD_eq_getElem?_getD, List.getD_cons_zero, List.getD_cons_succ, List.getD_nil, *]; exact Eq.refl _)); (focus (simp [-List.getD_eq_getElem?_getD, List.getD_cons_zero, List.getD_cons_succ, Ef.app, Ef.pk, pntO, wrO, wr, lk, AS.upd, updO, updI, AS.put, st, dl]; exact Eq.refl _))))); (exact runE_nil))); (focus (first | kernel_rfl | decide)))))
          ((refine post_ret (av := ?_) (by first | exact .inl rfl | exact .inr rfl) (show (Try.f22).results.toList = _ from by rw [Try.results22]) ?_ ?_); rotate_left; (focus (simp [-List.getD_eq_getElem?_getD, List.getD_cons_zero, List.getD_cons_succ, retA, retL, ret1, lk, st, ldA, AV.cell]; rfl)); (try simp [-List.getD_eq_getElem?_getD, List.getD_cons_zero, List.getD_cons_succ, List.getD_nil, *]))
      · have heq : L = K := rows_eq_of hl fun j hj => he j (by omega)
        repeat (first
            | with_reducible refine s_seq ?_
            | with_reducible refine k_seq ?_
            | with_reducible refine k_seq_ret ?_
            | with_reducible refine k_seq_exit ?_
            | with_reducible refine k_blk ?_
            | with_reducible refine k_blk_ret ?_
            | with_reducible refine k_blk_exit ?_
            | ((with_reducible refine k_blk_out ?_ ?_); (focus decide))
            | with_reducible refine k_lp_ret ?_
            | with_reducible refine k_lp_exit ?_
            | with_reducible refine ki_lp_ret ?_
            | with_reducible refine ki_lp_exit ?_
            | with_reducible refine s_block ?_
            | with_reducible refine sp_skip ?_
            | with_reducible refine sp_ret ?_
            | with_reducible refine sp_exit ?_
            | ((with_reducible refine s_cond_t ?_ ?_); (focus (simp [-List.getD_eq_getElem?_getD, List.getD_cons_zero, List.getD_cons_succ, List.getD_nil, lk, AS.ev, *]; done)))
            | ((with_reducible refine s_cond_f ?_ ?_); (focus (simp [-List.getD_eq_getElem?_getD, List.getD_cons_zero, List.getD_cons_succ, List.getD_nil, lk, AS.ev, *]; done)))
            | (focus ((with_reducible refine s_region2 (q := ?_) (σ' := ?_) TT_ok PT13_ok ?_ ?_ ?_); rotate_left 2; (focus (first | (simp [nxt]; exact Eq.refl _) | exact Eq.refl _)); (focus ((repeat (((with_reducible refine runL_cons (σ1 := ?_) ?_ ?_); rotate_left; (focus (simp [-List.getD_eq_getElem?_getD, List.getD_cons_zero, List.getD_cons_succ, List.getD_nil, *]; rfl))))); (exact runL_nil)))))
            | (focus ((with_reducible refine s_draw2 (q := ?_) (es := ?_) (σ' := ?_) prog_mixed TT_ok PT13_ok ?_ ?_ ?_ ?_); rotate_left 3; (focus (first | (simp [nxt]; exact Eq.refl _) | exact Eq.refl _)); (focus ((repeat (((with_reducible refine runE_cons (e := ?_) (σ1 := ?_) (es := ?_) ?_ ?_ ?_); rotate_left 3; (focus (simp [-List.getD_eq_getElem?_getD, List.getD_cons_zero, List.getD_cons_succ, List.getD_nil, *]; exact Eq.refl _)); (focus (simp [-List.getD_eq_getElem?_getD, List.getD_cons_zero, List.getD_cons_succ, Ef.app, Ef.pk, pntO, wrO, wr, lk, AS.upd, updO, updI, AS.put, st, dl]; exact Eq.refl _))))); (exact runE_nil))); (focus (first | kernel_rfl | decide)))))
        ((refine post_ret (av := ?_) (by first | exact .inl rfl | exact .inr rfl) (show (Try.f22).results.toList = _ from by rw [Try.results22]) ?_ ?_); rotate_left; (focus (simp [-List.getD_eq_getElem?_getD, List.getD_cons_zero, List.getD_cons_succ, retA, retL, ret1, lk, st, ldA, AV.cell]; rfl)); (try simp [-List.getD_eq_getElem?_getD, List.getD_cons_zero, List.getD_cons_succ, List.getD_nil, *]))
    · have hne : L ≠ K := fun e => hl (by rw [e])
      have hb : ((L.length : Int) != (K.length : Int)) = true := by rw [bne_iff_ne]; omega
      refine fn_sp TT_ok Try.func22 (c := _) rfl (by simp [Try.ntmps22]) (fun B hI0 hro => ?_)
      rw [Try.ntmps22]
      simp only [enumA]
      repeat (first
          | with_reducible refine s_seq ?_
          | with_reducible refine k_seq ?_
          | with_reducible refine k_seq_ret ?_
          | with_reducible refine k_seq_exit ?_
          | with_reducible refine k_blk ?_
          | with_reducible refine k_blk_ret ?_
          | with_reducible refine k_blk_exit ?_
          | ((with_reducible refine k_blk_out ?_ ?_); (focus decide))
          | with_reducible refine k_lp_ret ?_
          | with_reducible refine k_lp_exit ?_
          | with_reducible refine ki_lp_ret ?_
          | with_reducible refine ki_lp_exit ?_
          | with_reducible refine s_block ?_
          | with_reducible refine sp_skip ?_
          | with_reducible refine sp_ret ?_
          | with_reducible refine sp_exit ?_
          | ((with_reducible refine s_cond_t ?_ ?_); (focus (simp [-List.getD_eq_getElem?_getD, List.getD_cons_zero, List.getD_cons_succ, List.getD_nil, lk, AS.ev, *]; done)))
          | ((with_reducible refine s_cond_f ?_ ?_); (focus (simp [-List.getD_eq_getElem?_getD, List.getD_cons_zero, List.getD_cons_succ, List.getD_nil, lk, AS.ev, *]; done)))
          | (focus ((with_reducible refine s_region2 (q := ?_) (σ' := ?_) TT_ok PT13_ok ?_ ?_ ?_); rotate_left 2; (focus (first | (simp [nxt]; exact Eq.refl _) | exact Eq.refl _)); (focus ((repeat (((with_reducible refine runL_cons (σ1 := ?_) ?_ ?_); rotate_left; (focus (simp [-List.getD_eq_getElem?_getD, List.getD_cons_zero, List.getD_cons_succ, List.getD_nil, *]; rfl))))); (exact runL_nil)))))
          | (focus ((with_reducible refine s_draw2 (q := ?_) (es := ?_) (σ' := ?_) prog_mixed TT_ok PT13_ok ?_ ?_ ?_ ?_); rotate_left 3; (focus (first | (simp [nxt]; exact Eq.refl _) | exact Eq.refl _)); (focus ((repeat (((with_reducible refine runE_cons (e := ?_) (σ1 := ?_) (es := ?_) ?_ ?_ ?_); rotate_left 3; (focus (simp [-List.getD_eq_getElem?_getD, List.getD_cons_zero, List.getD_cons_succ, List.getD_nil, *]; exact Eq.refl _)); (focus (simp [-List.getD_eq_getElem?_getD, List.getD_cons_zero, List.getD_cons_succ, Ef.app, Ef.pk, pntO, wrO, wr, lk, AS.upd, updO, updI, AS.put, st, dl]; exact Eq.refl _))))); (exact runE_nil))); (focus (first | kernel_rfl | decide)))))
      ((refine post_ret (av := ?_) (by first | exact .inl rfl | exact .inr rfl) (show (Try.f22).results.toList = _ from by rw [Try.results22]) ?_ ?_); rotate_left; (focus (simp [-List.getD_eq_getElem?_getD, List.getD_cons_zero, List.getD_cons_succ, retA, retL, ret1, lk, st, ldA, AV.cell]; rfl)); (try simp [-List.getD_eq_getElem?_getD, List.getD_cons_zero, List.getD_cons_succ, List.getD_nil, *]))
  · have hb : (N != M) = true := by simpa using hN
    refine fn_sp TT_ok Try.func22 (c := _) rfl (by simp [Try.ntmps22]) (fun B hI0 hro => ?_)
    rw [Try.ntmps22]
    simp only [enumA]
    repeat (first
        | with_reducible refine s_seq ?_
        | with_reducible refine k_seq ?_
        | with_reducible refine k_seq_ret ?_
        | with_reducible refine k_seq_exit ?_
        | with_reducible refine k_blk ?_
        | with_reducible refine k_blk_ret ?_
        | with_reducible refine k_blk_exit ?_
        | ((with_reducible refine k_blk_out ?_ ?_); (focus decide))
        | with_reducible refine k_lp_ret ?_
        | with_reducible refine k_lp_exit ?_
        | with_reducible refine ki_lp_ret ?_
        | with_reducible refine ki_lp_exit ?_
        | with_reducible refine s_block ?_
        | with_reducible refine sp_skip ?_
        | with_reducible refine sp_ret ?_
        | with_reducible refine sp_exit ?_
        | ((with_reducible refine s_cond_t ?_ ?_); (focus (simp [-List.getD_eq_getElem?_getD, List.getD_cons_zero, List.getD_cons_succ, List.getD_nil, lk, AS.ev, *]; done)))
        | ((with_reducible refine s_cond_f ?_ ?_); (focus (simp [-List.getD_eq_getElem?_getD, List.getD_cons_zero, List.getD_cons_succ, List.getD_nil, lk, AS.ev, *]; done)))
        | (focus ((with_reducible refine s_region2 (q := ?_) (σ' := ?_) TT_ok PT13_ok ?_ ?_ ?_); rotate_left 2; (focus (first | (simp [nxt]; exact Eq.refl _) | exact Eq.refl _)); (focus ((repeat (((with_reducible refine runL_cons (σ1 := ?_) ?_ ?_); rotate_left; (focus (simp [-List.getD_eq_getElem?_getD, List.getD_cons_zero, List.getD_cons_succ, List.getD_nil, *]; rfl))))); (exact runL_nil)))))
        | (focus ((with_reducible refine s_draw2 (q := ?_) (es := ?_) (σ' := ?_) prog_mixed TT_ok PT13_ok ?_ ?_ ?_ ?_); rotate_left 3; (focus (first | (simp [nxt]; exact Eq.refl _) | exact Eq.refl _)); (focus ((repeat (((with_reducible refine runE_cons (e := ?_) (σ1 := ?_) (es := ?_) ?_ ?_ ?_); rotate_left 3; (focus (simp [-List.getD_eq_getElem?_getD, List.getD_cons_zero, List.getD_cons_succ, List.getD_nil, *]; exact Eq.refl _)); (focus (simp [-List.getD_eq_getElem?_getD, List.getD_cons_zero, List.getD_cons_succ, Ef.app, Ef.pk, pntO, wrO, wr, lk, AS.upd, updO, updI, AS.put, st, dl]; exact Eq.refl _))))); (exact runE_nil))); (focus (first | kernel_rfl | decide)))))
    ((refine post_ret (av := ?_) (by first | exact .inl rfl | exact .inr rfl) (show (Try.f22).results.toList = _ from by rw [Try.results22]) ?_ ?_); rotate_left; (focus (simp [-List.getD_eq_getElem?_getD, List.getD_cons_zero, List.getD_cons_succ, retA, retL, ret1, lk, st, ldA, AV.cell]; rfl)); (try simp [-List.getD_eq_getElem?_getD, List.getD_cons_zero, List.getD_cons_succ, List.getD_nil, *]))
@[simp] def g_rSame : List AV → Option (AV × Bool)
  | [.agg [.v (.int .i64 N), a0], .agg [.v (.int .i64 M), a1]] => (match toRows a0 with | some L => (match toRows a1 with | some K => if (okI N && okRows L && okI M && okRows K) = true then some (.v (.bool (thSame N L M K)), false) else none | none => none) | none => none)
  | _ => none
theorem e_rSame : EntOk Try.prog 22 g_rSame := ent_pure (by kernel_rfl) fun args r fr h => by
  unfold g_rSame at h
  split at h
  · rename_i N a0 M a1
    split at h
    · rename_i L t0
      split at h
      · rename_i K t1
        split at h
        · rename_i hc
          simp only [Bool.and_eq_true] at hc
          obtain ⟨⟨⟨m0, o0⟩, m1⟩, o1⟩ := hc
          cases h
          exact ⟨FnPure.cov (rSame_p N L M K o0 o1) (.cons (cov_th _ (cov_rows t0)) (.cons (cov_th _ (cov_rows t1)) .nil)), rfl⟩
        · cases h
      · cases h
    · cases h
  · cases h

/-- Literals that do not contradict each other. -/
def termR (N : Int) (xs : List Int) : Bool := xs.all fun x => litOk x N && !decide (-x ∈ xs)
theorem termR_at {N : Int} {xs : List Int} (h : ∀ j, j < xs.length → (litOk (xs.getD j 0) N && !decide (-(xs.getD j 0) ∈ xs)) = true) : termR N xs = true := by
  unfold termR
  rw [List.all_eq_true]
  intro x hx
  obtain ⟨j, hj, rfl⟩ := List.getElem_of_mem hx
  have := h j hj
  simpa [List.getD, hj] using this
theorem termR_no {N : Int} {xs : List Int} {k : Nat} (hk : k < xs.length) (h : (litOk (xs.getD k 0) N && !decide (-(xs.getD k 0) ∈ xs)) = false) : termR N xs = false := by
  unfold termR
  rw [List.all_eq_false]
  refine ⟨xs[k], List.getElem_mem hk, ?_⟩
  have e : xs.getD k 0 = xs[k] := by simp [List.getD, hk]
  rw [e] at h
  simp only [h]; simp
theorem rTerm_p (N : Int) (xs : List Int) (hx : okInts xs = true) (hN : okI N = true) (h0 : 0 ≤ N) (h1 : N ≤ 128) : FnPure Try.prog 73 [aInts xs, .v (.int .i64 N)] (.v (.bool (termR N xs))) := by
  have hm := okInts_len hx
  refine fn_sp TT_ok Try.func73 (c := _) rfl (by simp [Try.ntmps73]) (fun B hI0 hro => ?_)
  rw [Try.ntmps73]
  simp only [enumA]
  repeat (first
      | with_reducible refine s_seq ?_
      | with_reducible refine k_seq ?_
      | with_reducible refine k_seq_ret ?_
      | with_reducible refine k_seq_exit ?_
      | with_reducible refine k_blk ?_
      | with_reducible refine k_blk_ret ?_
      | with_reducible refine k_blk_exit ?_
      | ((with_reducible refine k_blk_out ?_ ?_); (focus decide))
      | with_reducible refine k_lp_ret ?_
      | with_reducible refine k_lp_exit ?_
      | with_reducible refine ki_lp_ret ?_
      | with_reducible refine ki_lp_exit ?_
      | with_reducible refine s_block ?_
      | with_reducible refine sp_skip ?_
      | with_reducible refine sp_ret ?_
      | with_reducible refine sp_exit ?_
      | ((with_reducible refine s_cond_t ?_ ?_); (focus (simp [-List.getD_eq_getElem?_getD, List.getD_cons_zero, List.getD_cons_succ, List.getD_nil, lk, AS.ev, *]; done)))
      | ((with_reducible refine s_cond_f ?_ ?_); (focus (simp [-List.getD_eq_getElem?_getD, List.getD_cons_zero, List.getD_cons_succ, List.getD_nil, lk, AS.ev, *]; done)))
      | (focus ((with_reducible refine s_region2 (q := ?_) (σ' := ?_) TT_ok PT13_ok ?_ ?_ ?_); rotate_left 2; (focus (first | (simp [nxt]; exact Eq.refl _) | exact Eq.refl _)); (focus ((repeat (((with_reducible refine runL_cons (σ1 := ?_) ?_ ?_); rotate_left; (focus (simp [-List.getD_eq_getElem?_getD, List.getD_cons_zero, List.getD_cons_succ, List.getD_nil, *]; rfl))))); (exact runL_nil)))))
      | (focus ((with_reducible refine s_draw2 (q := ?_) (es := ?_) (σ' := ?_) prog_mixed TT_ok PT13_ok ?_ ?_ ?_ ?_); rotate_left 3; (focus (first | (simp [nxt]; exact Eq.refl _) | exact Eq.refl _)); (focus ((repeat (((with_reducible refine runE_cons (e := ?_) (σ1 := ?_) (es := ?_) ?_ ?_ ?_); rotate_left 3; (focus (simp [-List.getD_eq_getElem?_getD, List.getD_cons_zero, List.getD_cons_succ, List.getD_nil, *]; exact Eq.refl _)); (focus (simp [-List.getD_eq_getElem?_getD, List.getD_cons_zero, List.getD_cons_succ, Ef.app, Ef.pk, pntO, wrO, wr, lk, AS.upd, updO, updI, AS.put, st, dl]; exact Eq.refl _))))); (exact runE_nil))); (focus (first | kernel_rfl | decide)))))
  refine s_loop (J := fun i : {k : Nat // k ≤ xs.length ∧ ∀ j, j < k → (litOk (xs.getD j 0) N && !decide (-(xs.getD j 0) ∈ xs)) = true} => ⟨28, [(0, aInts xs), (1, .v (.int .i64 N)), (5, .v (.int .i64 (i.1 : Int)))], [], []⟩) (μ := fun i => xs.length - i.1) ⟨0, Nat.zero_le _, fun j hj => by omega⟩ ?_ (fun ⟨k, hk, he⟩ => ?_)
  · (refine weak_id rfl ?_ ?_ <;> ((try simp only [List.mem_cons, List.not_mem_nil, or_false, forall_eq_or_imp, forall_eq]); (try simp (disch := omega) [-List.getD_eq_getElem?_getD, List.getD_cons_zero, List.getD_cons_succ, List.getD_nil, lk, AV.ids, idsL, idsLL, i64w, *])))
  repeat (first
      | with_reducible refine s_seq ?_
      | with_reducible refine k_seq ?_
      | with_reducible refine k_seq_ret ?_
      | with_reducible refine k_seq_exit ?_
      | with_reducible refine k_blk ?_
      | with_reducible refine k_blk_ret ?_
      | with_reducible refine k_blk_exit ?_
      | ((with_reducible refine k_blk_out ?_ ?_); (focus decide))
      | with_reducible refine k_lp_ret ?_
      | with_reducible refine k_lp_exit ?_
      | with_reducible refine ki_lp_ret ?_
      | with_reducible refine ki_lp_exit ?_
      | with_reducible refine s_block ?_
      | with_reducible refine sp_skip ?_
      | with_reducible refine sp_ret ?_
      | with_reducible refine sp_exit ?_
      | ((with_reducible refine s_cond_t ?_ ?_); (focus (simp [-List.getD_eq_getElem?_getD, List.getD_cons_zero, List.getD_cons_succ, List.getD_nil, lk, AS.ev, *]; done)))
      | ((with_reducible refine s_cond_f ?_ ?_); (focus (simp [-List.getD_eq_getElem?_getD, List.getD_cons_zero, List.getD_cons_succ, List.getD_nil, lk, AS.ev, *]; done)))
      | (focus ((with_reducible refine s_region2 (q := ?_) (σ' := ?_) TT_ok PT13_ok ?_ ?_ ?_); rotate_left 2; (focus (first | (simp [nxt]; exact Eq.refl _) | exact Eq.refl _)); (focus ((repeat (((with_reducible refine runL_cons (σ1 := ?_) ?_ ?_); rotate_left; (focus (simp [-List.getD_eq_getElem?_getD, List.getD_cons_zero, List.getD_cons_succ, List.getD_nil, *]; rfl))))); (exact runL_nil)))))
      | (focus ((with_reducible refine s_draw2 (q := ?_) (es := ?_) (σ' := ?_) prog_mixed TT_ok PT13_ok ?_ ?_ ?_ ?_); rotate_left 3; (focus (first | (simp [nxt]; exact Eq.refl _) | exact Eq.refl _)); (focus ((repeat (((with_reducible refine runE_cons (e := ?_) (σ1 := ?_) (es := ?_) ?_ ?_ ?_); rotate_left 3; (focus (simp [-List.getD_eq_getElem?_getD, List.getD_cons_zero, List.getD_cons_succ, List.getD_nil, *]; exact Eq.refl _)); (focus (simp [-List.getD_eq_getElem?_getD, List.getD_cons_zero, List.getD_cons_succ, Ef.app, Ef.pk, pntO, wrO, wr, lk, AS.upd, updO, updI, AS.put, st, dl]; exact Eq.refl _))))); (exact runE_nil))); (focus (first | kernel_rfl | decide)))))
  (focus ((with_reducible refine sp_cond (b := ?_) ?_ (fun hc => ?_) (fun hc => ?_)); rotate_left; (focus (first | rfl | (simp [lk, AS.ev]; rfl))); all_goals (try simp [-List.getD_eq_getElem?_getD] at hc)))
  · have hcc := hc
    clear hc
    obtain ⟨b1, b2⟩ := okInts_at hx k
    have ho : okI (xs.getD k 0) = true := okI_iff.2 ⟨b1, b2⟩
    cases hv : litOk (xs.getD k 0) N
    · have hno := termR_no (N := N) hcc (by rw [hv]; rfl)
      repeat (first
          | with_reducible refine s_seq ?_
          | with_reducible refine k_seq ?_
          | with_reducible refine k_seq_ret ?_
          | with_reducible refine k_seq_exit ?_
          | with_reducible refine k_blk ?_
          | with_reducible refine k_blk_ret ?_
          | with_reducible refine k_blk_exit ?_
          | ((with_reducible refine k_blk_out ?_ ?_); (focus decide))
          | with_reducible refine k_lp_ret ?_
          | with_reducible refine k_lp_exit ?_
          | with_reducible refine ki_lp_ret ?_
          | with_reducible refine ki_lp_exit ?_
          | with_reducible refine s_block ?_
          | with_reducible refine sp_skip ?_
          | with_reducible refine sp_ret ?_
          | with_reducible refine sp_exit ?_
          | ((with_reducible refine s_cond_t ?_ ?_); (focus (simp [-List.getD_eq_getElem?_getD, List.getD_cons_zero, List.getD_cons_succ, List.getD_nil, lk, AS.ev, *]; done)))
          | ((with_reducible refine s_cond_f ?_ ?_); (focus (simp [-List.getD_eq_getElem?_getD, List.getD_cons_zero, List.getD_cons_succ, List.getD_nil, lk, AS.ev, *]; done)))
          | (focus ((with_reducible refine s_region2 (q := ?_) (σ' := ?_) TT_ok PT13_ok ?_ ?_ ?_); rotate_left 2; (focus (first | (simp [nxt]; exact Eq.refl _) | exact Eq.refl _)); (focus ((repeat (((with_reducible refine runL_cons (σ1 := ?_) ?_ ?_); rotate_left; (focus (simp [-List.getD_eq_getElem?_getD, List.getD_cons_zero, List.getD_cons_succ, List.getD_nil, *]; rfl))))); (exact runL_nil)))))
          | (focus ((with_reducible refine s_draw2 (q := ?_) (es := ?_) (σ' := ?_) prog_mixed TT_ok PT13_ok ?_ ?_ ?_ ?_); rotate_left 3; (focus (first | (simp [nxt]; exact Eq.refl _) | exact Eq.refl _)); (focus ((repeat (((with_reducible refine runE_cons (e := ?_) (σ1 := ?_) (es := ?_) ?_ ?_ ?_); rotate_left 3; (focus (simp [-List.getD_eq_getElem?_getD, List.getD_cons_zero, List.getD_cons_succ, List.getD_nil, *]; exact Eq.refl _)); (focus (simp [-List.getD_eq_getElem?_getD, List.getD_cons_zero, List.getD_cons_succ, Ef.app, Ef.pk, pntO, wrO, wr, lk, AS.upd, updO, updI, AS.put, st, dl]; exact Eq.refl _))))); (exact runE_nil))); (focus (first | kernel_rfl | decide)))))
      ((refine post_ret (av := ?_) (by first | exact .inl rfl | exact .inr rfl) (show (Try.f73).results.toList = _ from by rw [Try.results73]) ?_ ?_); rotate_left; (focus (simp [-List.getD_eq_getElem?_getD, List.getD_cons_zero, List.getD_cons_succ, retA, retL, ret1, lk, st, ldA, AV.cell]; rfl)); (try simp [-List.getD_eq_getElem?_getD, List.getD_cons_zero, List.getD_cons_succ, List.getD_nil, *]))
    · obtain ⟨r1, r2, r3, r4, r5⟩ := litOk_range hv
      have hw : IntKind.i64.wrap (-(xs.getD k 0)) = -(xs.getD k 0) := i64w (by omega) (by omega)
      have ho2 : okI (-(xs.getD k 0)) = true := okI_iff.2 ⟨by omega, by omega⟩
      cases hv2 : decide (-(xs.getD k 0) ∈ xs)
      · repeat (first
            | with_reducible refine s_seq ?_
            | with_reducible refine k_seq ?_
            | with_reducible refine k_seq_ret ?_
            | with_reducible refine k_seq_exit ?_
            | with_reducible refine k_blk ?_
            | with_reducible refine k_blk_ret ?_
            | with_reducible refine k_blk_exit ?_
            | ((with_reducible refine k_blk_out ?_ ?_); (focus decide))
            | with_reducible refine k_lp_ret ?_
            | with_reducible refine k_lp_exit ?_
            | with_reducible refine ki_lp_ret ?_
            | with_reducible refine ki_lp_exit ?_
            | with_reducible refine s_block ?_
            | with_reducible refine sp_skip ?_
            | with_reducible refine sp_ret ?_
            | with_reducible refine sp_exit ?_
            | ((with_reducible refine s_cond_t ?_ ?_); (focus (simp [-List.getD_eq_getElem?_getD, List.getD_cons_zero, List.getD_cons_succ, List.getD_nil, lk, AS.ev, *]; done)))
            | ((with_reducible refine s_cond_f ?_ ?_); (focus (simp [-List.getD_eq_getElem?_getD, List.getD_cons_zero, List.getD_cons_succ, List.getD_nil, lk, AS.ev, *]; done)))
            | (focus ((with_reducible refine s_region2 (q := ?_) (σ' := ?_) TT_ok PT13_ok ?_ ?_ ?_); rotate_left 2; (focus (first | (simp [nxt]; exact Eq.refl _) | exact Eq.refl _)); (focus ((repeat (((with_reducible refine runL_cons (σ1 := ?_) ?_ ?_); rotate_left; (focus (simp [-List.getD_eq_getElem?_getD, List.getD_cons_zero, List.getD_cons_succ, List.getD_nil, *]; rfl))))); (exact runL_nil)))))
            | (focus ((with_reducible refine s_draw2 (q := ?_) (es := ?_) (σ' := ?_) prog_mixed TT_ok PT13_ok ?_ ?_ ?_ ?_); rotate_left 3; (focus (first | (simp [nxt]; exact Eq.refl _) | exact Eq.refl _)); (focus ((repeat (((with_reducible refine runE_cons (e := ?_) (σ1 := ?_) (es := ?_) ?_ ?_ ?_); rotate_left 3; (focus (simp [-List.getD_eq_getElem?_getD, List.getD_cons_zero, List.getD_cons_succ, List.getD_nil, *]; exact Eq.refl _)); (focus (simp [-List.getD_eq_getElem?_getD, List.getD_cons_zero, List.getD_cons_succ, Ef.app, Ef.pk, pntO, wrO, wr, lk, AS.upd, updO, updI, AS.put, st, dl]; exact Eq.refl _))))); (exact runE_nil))); (focus (first | kernel_rfl | decide)))))
        refine k_lp (⟨k + 1, by omega, fun j hj => ?_⟩ : {k : Nat // k ≤ xs.length ∧ ∀ j, j < k → (litOk (xs.getD j 0) N && !decide (-(xs.getD j 0) ∈ xs)) = true}) (by dsimp only; omega) ?_
        · by_cases e : j < k
          · exact he j e
          · obtain rfl : j = k := by omega
            rw [hv, hv2]; rfl
        · (refine weak_id rfl ?_ ?_ <;> ((try simp only [List.mem_cons, List.not_mem_nil, or_false, forall_eq_or_imp, forall_eq]); (try simp (disch := omega) [-List.getD_eq_getElem?_getD, List.getD_cons_zero, List.getD_cons_succ, List.getD_nil, lk, AV.ids, idsL, idsLL, i64w, *])))
      · have hno := termR_no (N := N) hcc (by rw [hv, hv2]; rfl)
        repeat (first
            | with_reducible refine s_seq ?_
            | with_reducible refine k_seq ?_
            | with_reducible refine k_seq_ret ?_
            | with_reducible refine k_seq_exit ?_
            | with_reducible refine k_blk ?_
            | with_reducible refine k_blk_ret ?_
            | with_reducible refine k_blk_exit ?_
            | ((with_reducible refine k_blk_out ?_ ?_); (focus decide))
            | with_reducible refine k_lp_ret ?_
            | with_reducible refine k_lp_exit ?_
            | with_reducible refine ki_lp_ret ?_
            | with_reducible refine ki_lp_exit ?_
            | with_reducible refine s_block ?_
            | with_reducible refine sp_skip ?_
            | with_reducible refine sp_ret ?_
            | with_reducible refine sp_exit ?_
            | ((with_reducible refine s_cond_t ?_ ?_); (focus (simp [-List.getD_eq_getElem?_getD, List.getD_cons_zero, List.getD_cons_succ, List.getD_nil, lk, AS.ev, *]; done)))
            | ((with_reducible refine s_cond_f ?_ ?_); (focus (simp [-List.getD_eq_getElem?_getD, List.getD_cons_zero, List.getD_cons_succ, List.getD_nil, lk, AS.ev, *]; done)))
            | (focus ((with_reducible refine s_region2 (q := ?_) (σ' := ?_) TT_ok PT13_ok ?_ ?_ ?_); rotate_left 2; (focus (first | (simp [nxt]; exact Eq.refl _) | exact Eq.refl _)); (focus ((repeat (((with_reducible refine runL_cons (σ1 := ?_) ?_ ?_); rotate_left; (focus (simp [-List.getD_eq_getElem?_getD, List.getD_cons_zero, List.getD_cons_succ, List.getD_nil, *]; rfl))))); (exact runL_nil)))))
            | (focus ((with_reducible refine s_draw2 (q := ?_) (es := ?_) (σ' := ?_) prog_mixed TT_ok PT13_ok ?_ ?_ ?_ ?_); rotate_left 3; (focus (first | (simp [nxt]; exact Eq.refl _) | exact Eq.refl _)); (focus ((repeat (((with_reducible refine runE_cons (e := ?_) (σ1 := ?_) (es := ?_) ?_ ?_ ?_); rotate_left 3; (focus (simp [-List.getD_eq_getElem?_getD, List.getD_cons_zero, List.getD_cons_succ, List.getD_nil, *]; exact Eq.refl _)); (focus (simp [-List.getD_eq_getElem?_getD, List.getD_cons_zero, List.getD_cons_succ, Ef.app, Ef.pk, pntO, wrO, wr, lk, AS.upd, updO, updI, AS.put, st, dl]; exact Eq.refl _))))); (exact runE_nil))); (focus (first | kernel_rfl | decide)))))
        ((refine post_ret (av := ?_) (by first | exact .inl rfl | exact .inr rfl) (show (Try.f73).results.toList = _ from by rw [Try.results73]) ?_ ?_); rotate_left; (focus (simp [-List.getD_eq_getElem?_getD, List.getD_cons_zero, List.getD_cons_succ, retA, retL, ret1, lk, st, ldA, AV.cell]; rfl)); (try simp [-List.getD_eq_getElem?_getD, List.getD_cons_zero, List.getD_cons_succ, List.getD_nil, *]))
  · have hall := termR_at (N := N) (xs := xs) fun j hj => he j (by omega)
    repeat (first
        | with_reducible refine s_seq ?_
        | with_reducible refine k_seq ?_
        | with_reducible refine k_seq_ret ?_
        | with_reducible refine k_seq_exit ?_
        | with_reducible refine k_blk ?_
        | with_reducible refine k_blk_ret ?_
        | with_reducible refine k_blk_exit ?_
        | ((with_reducible refine k_blk_out ?_ ?_); (focus decide))
        | with_reducible refine k_lp_ret ?_
        | with_reducible refine k_lp_exit ?_
        | with_reducible refine ki_lp_ret ?_
        | with_reducible refine ki_lp_exit ?_
        | with_reducible refine s_block ?_
        | with_reducible refine sp_skip ?_
        | with_reducible refine sp_ret ?_
        | with_reducible refine sp_exit ?_
        | ((with_reducible refine s_cond_t ?_ ?_); (focus (simp [-List.getD_eq_getElem?_getD, List.getD_cons_zero, List.getD_cons_succ, List.getD_nil, lk, AS.ev, *]; done)))
        | ((with_reducible refine s_cond_f ?_ ?_); (focus (simp [-List.getD_eq_getElem?_getD, List.getD_cons_zero, List.getD_cons_succ, List.getD_nil, lk, AS.ev, *]; done)))
        | (focus ((with_reducible refine s_region2 (q := ?_) (σ' := ?_) TT_ok PT13_ok ?_ ?_ ?_); rotate_left 2; (focus (first | (simp [nxt]; exact Eq.refl _) | exact Eq.refl _)); (focus ((repeat (((with_reducible refine runL_cons (σ1 := ?_) ?_ ?_); rotate_left; (focus (simp [-List.getD_eq_getElem?_getD, List.getD_cons_zero, List.getD_cons_succ, List.getD_nil, *]; rfl))))); (exact runL_nil)))))
        | (focus ((with_reducible refine s_draw2 (q := ?_) (es := ?_) (σ' := ?_) prog_mixed TT_ok PT13_ok ?_ ?_ ?_ ?_); rotate_left 3; (focus (first | (simp [nxt]; exact Eq.refl _) | exact Eq.refl _)); (focus ((repeat (((with_reducible refine runE_cons (e := ?_) (σ1 := ?_) (es := ?_) ?_ ?_ ?_); rotate_left 3; (focus (simp [-List.getD_eq_getElem?_getD, List.getD_cons_zero, List.getD_cons_succ, List.getD_nil, *]; exact Eq.refl _)); (focus (simp [-List.getD_eq_getElem?_getD, List.getD_cons_zero, List.getD_cons_succ, Ef.app, Ef.pk, pntO, wrO, wr, lk, AS.upd, updO, updI, AS.put, st, dl]; exact Eq.refl _))))); (exact runE_nil))); (focus (first | kernel_rfl | decide)))))
    ((refine post_ret (av := ?_) (by first | exact .inl rfl | exact .inr rfl) (show (Try.f73).results.toList = _ from by rw [Try.results73]) ?_ ?_); rotate_left; (focus (simp [-List.getD_eq_getElem?_getD, List.getD_cons_zero, List.getD_cons_succ, retA, retL, ret1, lk, st, ldA, AV.cell]; rfl)); (try simp [-List.getD_eq_getElem?_getD, List.getD_cons_zero, List.getD_cons_succ, List.getD_nil, *]))
@[simp] def g_rTerm : List AV → Option (AV × Bool)
  | [a0, .v (.int .i64 N)] => (match toInts a0 with | some xs => if (okInts xs && okI N && (decide (0 ≤ N) && decide (N ≤ 128))) = true then some (.v (.bool (termR N xs)), false) else none | none => none)
  | _ => none
theorem e_rTerm : EntOk Try.prog 73 g_rTerm := ent_pure (by kernel_rfl) fun args r fr h => by
  unfold g_rTerm at h
  split at h
  · rename_i a0 N
    split at h
    · rename_i xs t0
      split at h
      · rename_i hc
        simp only [Bool.and_eq_true] at hc
        obtain ⟨⟨o0, o1⟩, hk⟩ := hc
        cases h
        exact ⟨FnPure.cov (rTerm_p N xs o0 o1 (of_decide_eq_true hk.1) (of_decide_eq_true hk.2)) (.cons (cov_ints t0) (.cons (Cov.refl _) .nil)), rfl⟩
      · cases h
    · cases h
  · cases h

def l14 : List (FuncId × (List AV → Option (AV × Bool))) :=
  (22, g_rSame) :: (73, g_rTerm) :: l13
theorem l14_ok : ∀ p ∈ l14, EntOk Try.prog p.1 p.2 := ent_cons e_rSame (ent_cons e_rTerm (l13_ok))
def PT14 : PTab := tab l14
theorem PT14_ok : PTok Try.prog PT14 := tab_ok l14_ok
@[simp] theorem PT14_litVar : PT14 32 = g_litVar := rfl
@[simp] theorem PT14_litValid : PT14 77 = g_litValid := rfl
@[simp] theorem PT14_contains : PT14 50 = g_contains := rfl
@[simp] theorem PT14_check : PT14 46 = g_check := rfl
@[simp] theorem PT14_with : PT14 33 = g_with := rfl
@[simp] theorem PT14_without : PT14 31 = g_without := rfl
@[simp] theorem PT14_all : PT14 30 = g_all := rfl
@[simp] theorem PT14_rValid : PT14 71 = g_rValid := rfl
@[simp] theorem PT14_rCheck : PT14 42 = g_rCheck := rfl
@[simp] theorem PT14_litvalid : PT14 85 = g_litvalid := rfl
@[simp] theorem PT14_opposite : PT14 87 = g_opposite := rfl
@[simp] theorem PT14_clone : PT14 99 = g_clone := rfl
@[simp] theorem PT14_order : PT14 86 = g_order := rfl
@[simp] theorem PT14_term : PT14 69 = g_term := rfl
@[simp] theorem PT14_clause : PT14 57 = g_clause := rfl
@[simp] theorem PT14_equal : PT14 61 = g_equal := rfl
@[simp] theorem PT14_distinct : PT14 60 = g_distinct := rfl
@[simp] theorem PT14_normal : PT14 27 = g_normal := rfl
@[simp] theorem PT14_rContains : PT14 74 = g_rContains := rfl
@[simp] theorem PT14_rSameInts : PT14 52 = g_rSameInts := rfl
@[simp] theorem PT14_rAbs : PT14 114 = g_rAbs := rfl
@[simp] theorem PT14_rBefore : PT14 97 = g_rBefore := rfl
@[simp] theorem PT14_rSorted : PT14 75 = g_rSorted := rfl
@[simp] theorem PT14_rPut : PT14 76 = g_rPut := rfl
@[simp] theorem PT14_rNormal : PT14 45 = g_rNormal := rfl
@[simp] theorem PT14_place : PT14 62 = g_place := rfl
@[simp] theorem PT14_vHas : PT14 34 = g_vHas := rfl
@[simp] theorem PT14_vMinus : PT14 90 = g_vMinus := rfl
@[simp] theorem PT14_vCut : PT14 29 = g_vCut := rfl
@[simp] theorem PT14_vSub : PT14 65 = g_vSub := rfl
@[simp] theorem PT14_litHolds : PT14 64 = g_litHolds := rfl
@[simp] theorem PT14_litAny : PT14 36 = g_litAny := rfl
@[simp] theorem PT14_thEval : PT14 37 = g_thEval := rfl
@[simp] theorem PT14_rSame : PT14 22 = g_rSame := rfl
@[simp] theorem PT14_rTerm : PT14 73 = g_rTerm := rfl
end Go.Proofs.Ythdjgcjpolpgdaa
/- Th3: Contracts of theory.Vars and censusref05.Vars, by the abstract machine; no condition. -/
namespace Go.Proofs.Ythdjgcjpolpgdaa
set_option linter.unusedVariables false
set_option linter.unusedSimpArgs false
set_option linter.unusedSectionVars false
open Go.RowKit
attribute [local simp] undef runL runE effA stepA dstOk wantA core lk st dl AS.ev AS.evs AS.put AS.upd updO updI nxt cPick cAlloc cBox cBuild cBuildS cLoad cStore cNil plainOf cBin cNilS isNilS nilA cUn cConvX cConvB cConv bytesOf rowB cMake cSlice slA idxA cFA cF cIA cIX cIS cI cExt cLen cApp cMM cFun cCall lenA lenM isNilM nilM cNilM cMakeM hintB cMapK cLook foundR lookR cUpd putM cDel delM findA isKeyB Instr.sameNow AS.entry AS.bound AS.callee sc1 sc2 ixOk ldA AV.flat AV.cell AV.cells Value.oneCell' fillA spl chunk zeros AS.parts AS.rows AS.shut AS.shut1 AS.shut2 AS.shutL AS.shutM AV.ids idsL idsLL eqAll bndA AV.scalar AV.scalar1 AV.isV Ef.app fpA light Ef.pk ptOf pntO wrO wr
set_option maxRecDepth 100000

@[simp ↓ high] theorem d_flat_set (s : BitVec 128) : (aSet s).flat = true := rfl
@[simp ↓ high] theorem d_cells_set (s : BitVec 128) : (aSet s).cells = [.v (.int .u64 ((lo s).toNat : Int)), .v (.int .u64 ((hi s).toNat : Int))] := rfl
/-- The variables of a list, of rows. -/
def varsRow (S : BitVec 128) (c : List Int) (j : Nat) : BitVec 128 := (c.take j).foldl (fun s l => sWith s (litVar l)) S
def varsK (L : List (List Int)) (k : Nat) : BitVec 128 := (L.take k).foldl (fun s c => varsRow s c c.length) 0#128
def varsT (L : List (List Int)) : BitVec 128 := varsK L L.length
def varsOf (N : Int) (L : List (List Int)) : BitVec 128 := if checkT N L = 0 then varsT L else 0#128
theorem varsRow_succ (S : BitVec 128) {c : List Int} {j : Nat} (h : j < c.length) : varsRow S c (j + 1) = sWith (varsRow S c j) (litVar (c.getD j 0)) := by
  have : c.getD j 0 = c[j] := by simp [List.getD, h]
  unfold varsRow
  rw [List.take_succ_eq_append_getElem h, List.foldl_append, this]
  rfl
theorem varsK_succ {L : List (List Int)} {k : Nat} (h : k < L.length) : varsK L (k + 1) = varsRow (varsK L k) (L.getD k []) (L.getD k []).length := by
  have : L.getD k [] = L[k] := by simp [List.getD, h]
  unfold varsK
  rw [List.take_succ_eq_append_getElem h, List.foldl_append, this]
  rfl
theorem words0 : lo 0#128 = 0#64 ∧ hi 0#128 = 0#64 := ⟨by decide, by decide⟩
theorem word_add {x : BitVec 64} {k : Nat} (hk : k < 64) (h : x.getLsbD k = false) : IntKind.u64.wrap ((x.toNat : Int) + ((BitVec.twoPow 64 k).toNat : Int)) = ((x ||| BitVec.twoPow 64 k).toNat : Int) := by
  have h0 : x &&& BitVec.twoPow 64 k = 0#64 := by
    rw [BitVec.and_twoPow, h]; rfl
  rw [← BitVec.add_eq_or_of_and_eq_zero x _ h0, IntKind.wrap_u64, BitVec.toNat_add]
  omega
theorem sWith_same {S : BitVec 128} {v : Int} (h : sHas S v = true) : sWith S v = S := by
  refine sets_ext fun u h1 h2 => ?_
  rw [sHas_with]
  by_cases e : u = v
  · subst e; rw [h]; rfl
  · simp [e]
theorem getD_memI {xs : List Int} {k : Nat} (hk : k < xs.length) : xs.getD k 0 ∈ xs := by
  have : xs.getD k 0 = xs[k] := by simp [List.getD, hk]
  rw [this]; exact List.getElem_mem _
theorem thVars_p (N : Int) (L : List (List Int)) (hN : okI N = true) (h : okRows L = true) : FnPure Try.prog 35 [aTh N L] (aSet (varsOf N L)) := by
  have hm := okRows_len h
  obtain ⟨z1, z2⟩ := words0
  unfold aTh varsOf
  by_cases hz : checkT N L = 0
  · rw [if_pos hz]
    have hck := checkT_ok hz
    refine fn_sp TT_ok Try.func35 (c := _) rfl (by simp [Try.ntmps35]) (fun B hI0 hro => ?_)
    rw [Try.ntmps35]
    simp only [enumA]
    repeat (first
        | with_reducible refine s_seq ?_
        | with_reducible refine k_seq ?_
        | with_reducible refine k_seq_ret ?_
        | with_reducible refine k_seq_exit ?_
        | with_reducible refine k_blk ?_
        | with_reducible refine k_blk_ret ?_
        | with_reducible refine k_blk_exit ?_
        | ((with_reducible refine k_blk_out ?_ ?_); (focus decide))
        | with_reducible refine k_lp_ret ?_
        | with_reducible refine k_lp_exit ?_
        | with_reducible refine ki_lp_ret ?_
        | with_reducible refine ki_lp_exit ?_
        | with_reducible refine s_block ?_
        | with_reducible refine sp_skip ?_
        | with_reducible refine sp_ret ?_
        | with_reducible refine sp_exit ?_
        | ((with_reducible refine s_cond_t ?_ ?_); (focus (simp [-List.getD_eq_getElem?_getD, List.getD_cons_zero, List.getD_cons_succ, List.getD_nil, lk, AS.ev, *]; done)))
        | ((with_reducible refine s_cond_f ?_ ?_); (focus (simp [-List.getD_eq_getElem?_getD, List.getD_cons_zero, List.getD_cons_succ, List.getD_nil, lk, AS.ev, *]; done)))
        | (focus ((with_reducible refine s_region2 (q := ?_) (σ' := ?_) TT_ok PT14_ok ?_ ?_ ?_); rotate_left 2; (focus (first | (simp [nxt]; exact Eq.refl _) | exact Eq.refl _)); (focus ((repeat (((with_reducible refine runL_cons (σ1 := ?_) ?_ ?_); rotate_left; (focus (simp [-List.getD_eq_getElem?_getD, List.getD_cons_zero, List.getD_cons_succ, List.getD_nil, *]; rfl))))); (exact runL_nil)))))
        | (focus ((with_reducible refine s_draw2 (q := ?_) (es := ?_) (σ' := ?_) prog_mixed TT_ok PT14_ok ?_ ?_ ?_ ?_); rotate_left 3; (focus (first | (simp [nxt]; exact Eq.refl _) | exact Eq.refl _)); (focus ((repeat (((with_reducible refine runE_cons (e := ?_) (σ1 := ?_) (es := ?_) ?_ ?_ ?_); rotate_left 3; (focus (simp [-List.getD_eq_getElem?_getD, List.getD_cons_zero, List.getD_cons_succ, List.getD_nil, *]; exact Eq.refl _)); (focus (simp [-List.getD_eq_getElem?_getD, List.getD_cons_zero, List.getD_cons_succ, Ef.app, Ef.pk, pntO, wrO, wr, lk, AS.upd, updO, updI, AS.put, st, dl]; exact Eq.refl _))))); (exact runE_nil))); (focus (first | kernel_rfl | decide)))))
    refine s_loop (J := fun i : {k : Nat // k ≤ L.length} => ⟨32, [(2, .ptr 1 0 0), (3, .ptr 2 0 0), (13, aRows L), (14, .v (.int .i64 (L.length : Int))), (15, .v (.int .i64 (i.1 : Int)))], [(1, ⟨51, 2, [[.v (.int .u64 0), .v (.int .u64 0)]]⟩), (2, ⟨51, 2, [[.v (.int .u64 ((lo (varsK L i.1)).toNat : Int)), .v (.int .u64 ((hi (varsK L i.1)).toNat : Int))]]⟩)], [2, 1]⟩) (μ := fun i => L.length - i.1) ⟨0, Nat.zero_le _⟩ ?_ (fun ⟨k, hk⟩ => ?_)
    · have hk0 : varsK L 0 = 0#128 := rfl
      (refine weak_id rfl ?_ ?_ <;> ((try simp only [List.mem_cons, List.not_mem_nil, or_false, forall_eq_or_imp, forall_eq]); (try simp (disch := omega) [-List.getD_eq_getElem?_getD, List.getD_cons_zero, List.getD_cons_succ, List.getD_nil, lk, AV.ids, idsL, idsLL, i64w, *])))
    repeat (first
        | with_reducible refine s_seq ?_
        | with_reducible refine k_seq ?_
        | with_reducible refine k_seq_ret ?_
        | with_reducible refine k_seq_exit ?_
        | with_reducible refine k_blk ?_
        | with_reducible refine k_blk_ret ?_
        | with_reducible refine k_blk_exit ?_
        | ((with_reducible refine k_blk_out ?_ ?_); (focus decide))
        | with_reducible refine k_lp_ret ?_
        | with_reducible refine k_lp_exit ?_
        | with_reducible refine ki_lp_ret ?_
        | with_reducible refine ki_lp_exit ?_
        | with_reducible refine s_block ?_
        | with_reducible refine sp_skip ?_
        | with_reducible refine sp_ret ?_
        | with_reducible refine sp_exit ?_
        | ((with_reducible refine s_cond_t ?_ ?_); (focus (simp [-List.getD_eq_getElem?_getD, List.getD_cons_zero, List.getD_cons_succ, List.getD_nil, lk, AS.ev, *]; done)))
        | ((with_reducible refine s_cond_f ?_ ?_); (focus (simp [-List.getD_eq_getElem?_getD, List.getD_cons_zero, List.getD_cons_succ, List.getD_nil, lk, AS.ev, *]; done)))
        | (focus ((with_reducible refine s_region2 (q := ?_) (σ' := ?_) TT_ok PT14_ok ?_ ?_ ?_); rotate_left 2; (focus (first | (simp [nxt]; exact Eq.refl _) | exact Eq.refl _)); (focus ((repeat (((with_reducible refine runL_cons (σ1 := ?_) ?_ ?_); rotate_left; (focus (simp [-List.getD_eq_getElem?_getD, List.getD_cons_zero, List.getD_cons_succ, List.getD_nil, *]; rfl))))); (exact runL_nil)))))
        | (focus ((with_reducible refine s_draw2 (q := ?_) (es := ?_) (σ' := ?_) prog_mixed TT_ok PT14_ok ?_ ?_ ?_ ?_); rotate_left 3; (focus (first | (simp [nxt]; exact Eq.refl _) | exact Eq.refl _)); (focus ((repeat (((with_reducible refine runE_cons (e := ?_) (σ1 := ?_) (es := ?_) ?_ ?_ ?_); rotate_left 3; (focus (simp [-List.getD_eq_getElem?_getD, List.getD_cons_zero, List.getD_cons_succ, List.getD_nil, *]; exact Eq.refl _)); (focus (simp [-List.getD_eq_getElem?_getD, List.getD_cons_zero, List.getD_cons_succ, Ef.app, Ef.pk, pntO, wrO, wr, lk, AS.upd, updO, updI, AS.put, st, dl]; exact Eq.refl _))))); (exact runE_nil))); (focus (first | kernel_rfl | decide)))))
    (focus ((with_reducible refine sp_cond (b := ?_) ?_ (fun hc => ?_) (fun hc => ?_)); rotate_left; (focus (first | rfl | (simp [lk, AS.ev]; rfl))); all_goals (try simp [-List.getD_eq_getElem?_getD] at hc)))
    · have hcc := hc
      clear hc
      have hci := okRows_at h k
      have hcl := okInts_len hci
      repeat (first
          | with_reducible refine s_seq ?_
          | with_reducible refine k_seq ?_
          | with_reducible refine k_seq_ret ?_
          | with_reducible refine k_seq_exit ?_
          | with_reducible refine k_blk ?_
          | with_reducible refine k_blk_ret ?_
          | with_reducible refine k_blk_exit ?_
          | ((with_reducible refine k_blk_out ?_ ?_); (focus decide))
          | with_reducible refine k_lp_ret ?_
          | with_reducible refine k_lp_exit ?_
          | with_reducible refine ki_lp_ret ?_
          | with_reducible refine ki_lp_exit ?_
          | with_reducible refine s_block ?_
          | with_reducible refine sp_skip ?_
          | with_reducible refine sp_ret ?_
          | with_reducible refine sp_exit ?_
          | ((with_reducible refine s_cond_t ?_ ?_); (focus (simp [-List.getD_eq_getElem?_getD, List.getD_cons_zero, List.getD_cons_succ, List.getD_nil, lk, AS.ev, *]; done)))
          | ((with_reducible refine s_cond_f ?_ ?_); (focus (simp [-List.getD_eq_getElem?_getD, List.getD_cons_zero, List.getD_cons_succ, List.getD_nil, lk, AS.ev, *]; done)))
          | (focus ((with_reducible refine s_region2 (q := ?_) (σ' := ?_) TT_ok PT14_ok ?_ ?_ ?_); rotate_left 2; (focus (first | (simp [nxt]; exact Eq.refl _) | exact Eq.refl _)); (focus ((repeat (((with_reducible refine runL_cons (σ1 := ?_) ?_ ?_); rotate_left; (focus (simp [-List.getD_eq_getElem?_getD, List.getD_cons_zero, List.getD_cons_succ, List.getD_nil, *]; rfl))))); (exact runL_nil)))))
          | (focus ((with_reducible refine s_draw2 (q := ?_) (es := ?_) (σ' := ?_) prog_mixed TT_ok PT14_ok ?_ ?_ ?_ ?_); rotate_left 3; (focus (first | (simp [nxt]; exact Eq.refl _) | exact Eq.refl _)); (focus ((repeat (((with_reducible refine runE_cons (e := ?_) (σ1 := ?_) (es := ?_) ?_ ?_ ?_); rotate_left 3; (focus (simp [-List.getD_eq_getElem?_getD, List.getD_cons_zero, List.getD_cons_succ, List.getD_nil, *]; exact Eq.refl _)); (focus (simp [-List.getD_eq_getElem?_getD, List.getD_cons_zero, List.getD_cons_succ, Ef.app, Ef.pk, pntO, wrO, wr, lk, AS.upd, updO, updI, AS.put, st, dl]; exact Eq.refl _))))); (exact runE_nil))); (focus (first | kernel_rfl | decide)))))
      refine s_loop (J := fun i : {j : Nat // j ≤ (L.getD k []).length} => ⟨32, [(2, .ptr 1 0 0), (3, .ptr 2 0 0), (13, aRows L), (14, .v (.int .i64 (L.length : Int))), (15, .v (.int .i64 (k : Int))), (19, aInts (L.getD k [])), (20, .v (.int .i64 ((L.getD k []).length : Int))), (21, .v (.int .i64 (i.1 : Int)))], [(1, ⟨51, 2, [[.v (.int .u64 0), .v (.int .u64 0)]]⟩), (2, ⟨51, 2, [[.v (.int .u64 ((lo (varsRow (varsK L k) (L.getD k []) i.1)).toNat : Int)), .v (.int .u64 ((hi (varsRow (varsK L k) (L.getD k []) i.1)).toNat : Int))]]⟩)], [2, 1]⟩) (μ := fun i => (L.getD k []).length - i.1) ⟨0, Nat.zero_le _⟩ ?_ (fun ⟨j, hj⟩ => ?_)
      · have hk1 : varsRow (varsK L k) (L.getD k []) 0 = varsK L k := rfl
        (refine weak_id rfl ?_ ?_ <;> ((try simp only [List.mem_cons, List.not_mem_nil, or_false, forall_eq_or_imp, forall_eq]); (try simp (disch := omega) [-List.getD_eq_getElem?_getD, List.getD_cons_zero, List.getD_cons_succ, List.getD_nil, lk, AV.ids, idsL, idsLL, i64w, *])))
      have hcl2 := hcl
      repeat (first
          | with_reducible refine s_seq ?_
          | with_reducible refine k_seq ?_
          | with_reducible refine k_seq_ret ?_
          | with_reducible refine k_seq_exit ?_
          | with_reducible refine k_blk ?_
          | with_reducible refine k_blk_ret ?_
          | with_reducible refine k_blk_exit ?_
          | ((with_reducible refine k_blk_out ?_ ?_); (focus decide))
          | with_reducible refine k_lp_ret ?_
          | with_reducible refine k_lp_exit ?_
          | with_reducible refine ki_lp_ret ?_
          | with_reducible refine ki_lp_exit ?_
          | with_reducible refine s_block ?_
          | with_reducible refine sp_skip ?_
          | with_reducible refine sp_ret ?_
          | with_reducible refine sp_exit ?_
          | ((with_reducible refine s_cond_t ?_ ?_); (focus (simp [-List.getD_eq_getElem?_getD, List.getD_cons_zero, List.getD_cons_succ, List.getD_nil, lk, AS.ev, *]; done)))
          | ((with_reducible refine s_cond_f ?_ ?_); (focus (simp [-List.getD_eq_getElem?_getD, List.getD_cons_zero, List.getD_cons_succ, List.getD_nil, lk, AS.ev, *]; done)))
          | (focus ((with_reducible refine s_region2 (q := ?_) (σ' := ?_) TT_ok PT14_ok ?_ ?_ ?_); rotate_left 2; (focus (first | (simp [nxt]; exact Eq.refl _) | exact Eq.refl _)); (focus ((repeat (((with_reducible refine runL_cons (σ1 := ?_) ?_ ?_); rotate_left; (focus (simp [-List.getD_eq_getElem?_getD, List.getD_cons_zero, List.getD_cons_succ, List.getD_nil, *]; rfl))))); (exact runL_nil)))))
          | (focus ((with_reducible refine s_draw2 (q := ?_) (es := ?_) (σ' := ?_) prog_mixed TT_ok PT14_ok ?_ ?_ ?_ ?_); rotate_left 3; (focus (first | (simp [nxt]; exact Eq.refl _) | exact Eq.refl _)); (focus ((repeat (((with_reducible refine runE_cons (e := ?_) (σ1 := ?_) (es := ?_) ?_ ?_ ?_); rotate_left 3; (focus (simp [-List.getD_eq_getElem?_getD, List.getD_cons_zero, List.getD_cons_succ, List.getD_nil, *]; exact Eq.refl _)); (focus (simp [-List.getD_eq_getElem?_getD, List.getD_cons_zero, List.getD_cons_succ, Ef.app, Ef.pk, pntO, wrO, wr, lk, AS.upd, updO, updI, AS.put, st, dl]; exact Eq.refl _))))); (exact runE_nil))); (focus (first | kernel_rfl | decide)))))
      (focus ((with_reducible refine sp_cond (b := ?_) ?_ (fun hc => ?_) (fun hc => ?_)); rotate_left; (focus (first | rfl | (simp [lk, AS.ev]; rfl))); all_goals (try simp [-List.getD_eq_getElem?_getD] at hc)))
      · have hjj := hc
        clear hc
        have hs := varsRow_succ (varsK L k) hjj
        have hli := okI_iff.2 (okInts_at hci j)
        obtain ⟨v1, v2⟩ := litVar_range ((L.getD k []).getD j 0)
        have hvi : okI (litVar ((L.getD k []).getD j 0)) = true := okI_iff.2 ⟨by omega, by omega⟩
        repeat (first
            | with_reducible refine s_seq ?_
            | with_reducible refine k_seq ?_
            | with_reducible refine k_seq_ret ?_
            | with_reducible refine k_seq_exit ?_
            | with_reducible refine k_blk ?_
            | with_reducible refine k_blk_ret ?_
            | with_reducible refine k_blk_exit ?_
            | ((with_reducible refine k_blk_out ?_ ?_); (focus decide))
            | with_reducible refine k_lp_ret ?_
            | with_reducible refine k_lp_exit ?_
            | with_reducible refine ki_lp_ret ?_
            | with_reducible refine ki_lp_exit ?_
            | with_reducible refine s_block ?_
            | with_reducible refine sp_skip ?_
            | with_reducible refine sp_ret ?_
            | with_reducible refine sp_exit ?_
            | ((with_reducible refine s_cond_t ?_ ?_); (focus (simp [-List.getD_eq_getElem?_getD, List.getD_cons_zero, List.getD_cons_succ, List.getD_nil, lk, AS.ev, *]; done)))
            | ((with_reducible refine s_cond_f ?_ ?_); (focus (simp [-List.getD_eq_getElem?_getD, List.getD_cons_zero, List.getD_cons_succ, List.getD_nil, lk, AS.ev, *]; done)))
            | (focus ((with_reducible refine s_region2 (q := ?_) (σ' := ?_) TT_ok PT14_ok ?_ ?_ ?_); rotate_left 2; (focus (first | (simp [nxt]; exact Eq.refl _) | exact Eq.refl _)); (focus ((repeat (((with_reducible refine runL_cons (σ1 := ?_) ?_ ?_); rotate_left; (focus (simp [-List.getD_eq_getElem?_getD, List.getD_cons_zero, List.getD_cons_succ, List.getD_nil, *]; rfl))))); (exact runL_nil)))))
            | (focus ((with_reducible refine s_draw2 (q := ?_) (es := ?_) (σ' := ?_) prog_mixed TT_ok PT14_ok ?_ ?_ ?_ ?_); rotate_left 3; (focus (first | (simp [nxt]; exact Eq.refl _) | exact Eq.refl _)); (focus ((repeat (((with_reducible refine runE_cons (e := ?_) (σ1 := ?_) (es := ?_) ?_ ?_ ?_); rotate_left 3; (focus (simp [-List.getD_eq_getElem?_getD, List.getD_cons_zero, List.getD_cons_succ, List.getD_nil, *]; exact Eq.refl _)); (focus (simp [-List.getD_eq_getElem?_getD, List.getD_cons_zero, List.getD_cons_succ, Ef.app, Ef.pk, pntO, wrO, wr, lk, AS.upd, updO, updI, AS.put, st, dl]; exact Eq.refl _))))); (exact runE_nil))); (focus (first | kernel_rfl | decide)))))
        refine k_lp (⟨j + 1, by omega⟩ : {j : Nat // j ≤ (L.getD k []).length}) (by (try dsimp only); omega) ?_
        (refine weak_id rfl ?_ ?_ <;> ((try simp only [List.mem_cons, List.not_mem_nil, or_false, forall_eq_or_imp, forall_eq]); (try simp (disch := omega) [-List.getD_eq_getElem?_getD, List.getD_cons_zero, List.getD_cons_succ, List.getD_nil, lk, AV.ids, idsL, idsLL, i64w, *])))
      · obtain rfl : j = (L.getD k []).length := by omega
        have hs := varsK_succ hcc
        repeat (first
            | with_reducible refine s_seq ?_
            | with_reducible refine k_seq ?_
            | with_reducible refine k_seq_ret ?_
            | with_reducible refine k_seq_exit ?_
            | with_reducible refine k_blk ?_
            | with_reducible refine k_blk_ret ?_
            | with_reducible refine k_blk_exit ?_
            | ((with_reducible refine k_blk_out ?_ ?_); (focus decide))
            | with_reducible refine k_lp_ret ?_
            | with_reducible refine k_lp_exit ?_
            | with_reducible refine ki_lp_ret ?_
            | with_reducible refine ki_lp_exit ?_
            | with_reducible refine s_block ?_
            | with_reducible refine sp_skip ?_
            | with_reducible refine sp_ret ?_
            | with_reducible refine sp_exit ?_
            | ((with_reducible refine s_cond_t ?_ ?_); (focus (simp [-List.getD_eq_getElem?_getD, List.getD_cons_zero, List.getD_cons_succ, List.getD_nil, lk, AS.ev, *]; done)))
            | ((with_reducible refine s_cond_f ?_ ?_); (focus (simp [-List.getD_eq_getElem?_getD, List.getD_cons_zero, List.getD_cons_succ, List.getD_nil, lk, AS.ev, *]; done)))
            | (focus ((with_reducible refine s_region2 (q := ?_) (σ' := ?_) TT_ok PT14_ok ?_ ?_ ?_); rotate_left 2; (focus (first | (simp [nxt]; exact Eq.refl _) | exact Eq.refl _)); (focus ((repeat (((with_reducible refine runL_cons (σ1 := ?_) ?_ ?_); rotate_left; (focus (simp [-List.getD_eq_getElem?_getD, List.getD_cons_zero, List.getD_cons_succ, List.getD_nil, *]; rfl))))); (exact runL_nil)))))
            | (focus ((with_reducible refine s_draw2 (q := ?_) (es := ?_) (σ' := ?_) prog_mixed TT_ok PT14_ok ?_ ?_ ?_ ?_); rotate_left 3; (focus (first | (simp [nxt]; exact Eq.refl _) | exact Eq.refl _)); (focus ((repeat (((with_reducible refine runE_cons (e := ?_) (σ1 := ?_) (es := ?_) ?_ ?_ ?_); rotate_left 3; (focus (simp [-List.getD_eq_getElem?_getD, List.getD_cons_zero, List.getD_cons_succ, List.getD_nil, *]; exact Eq.refl _)); (focus (simp [-List.getD_eq_getElem?_getD, List.getD_cons_zero, List.getD_cons_succ, Ef.app, Ef.pk, pntO, wrO, wr, lk, AS.upd, updO, updI, AS.put, st, dl]; exact Eq.refl _))))); (exact runE_nil))); (focus (first | kernel_rfl | decide)))))
        refine k_lp (⟨k + 1, by omega⟩ : {k : Nat // k ≤ L.length}) (by (try dsimp only); omega) ?_
        (refine weak_id rfl ?_ ?_ <;> ((try simp only [List.mem_cons, List.not_mem_nil, or_false, forall_eq_or_imp, forall_eq]); (try simp (disch := omega) [-List.getD_eq_getElem?_getD, List.getD_cons_zero, List.getD_cons_succ, List.getD_nil, lk, AV.ids, idsL, idsLL, i64w, *])))
    · obtain rfl : k = L.length := by omega
      repeat (first
          | with_reducible refine s_seq ?_
          | with_reducible refine k_seq ?_
          | with_reducible refine k_seq_ret ?_
          | with_reducible refine k_seq_exit ?_
          | with_reducible refine k_blk ?_
          | with_reducible refine k_blk_ret ?_
          | with_reducible refine k_blk_exit ?_
          | ((with_reducible refine k_blk_out ?_ ?_); (focus decide))
          | with_reducible refine k_lp_ret ?_
          | with_reducible refine k_lp_exit ?_
          | with_reducible refine ki_lp_ret ?_
          | with_reducible refine ki_lp_exit ?_
          | with_reducible refine s_block ?_
          | with_reducible refine sp_skip ?_
          | with_reducible refine sp_ret ?_
          | with_reducible refine sp_exit ?_
          | ((with_reducible refine s_cond_t ?_ ?_); (focus (simp [-List.getD_eq_getElem?_getD, List.getD_cons_zero, List.getD_cons_succ, List.getD_nil, lk, AS.ev, *]; done)))
          | ((with_reducible refine s_cond_f ?_ ?_); (focus (simp [-List.getD_eq_getElem?_getD, List.getD_cons_zero, List.getD_cons_succ, List.getD_nil, lk, AS.ev, *]; done)))
          | (focus ((with_reducible refine s_region2 (q := ?_) (σ' := ?_) TT_ok PT14_ok ?_ ?_ ?_); rotate_left 2; (focus (first | (simp [nxt]; exact Eq.refl _) | exact Eq.refl _)); (focus ((repeat (((with_reducible refine runL_cons (σ1 := ?_) ?_ ?_); rotate_left; (focus (simp [-List.getD_eq_getElem?_getD, List.getD_cons_zero, List.getD_cons_succ, List.getD_nil, *]; rfl))))); (exact runL_nil)))))
          | (focus ((with_reducible refine s_draw2 (q := ?_) (es := ?_) (σ' := ?_) prog_mixed TT_ok PT14_ok ?_ ?_ ?_ ?_); rotate_left 3; (focus (first | (simp [nxt]; exact Eq.refl _) | exact Eq.refl _)); (focus ((repeat (((with_reducible refine runE_cons (e := ?_) (σ1 := ?_) (es := ?_) ?_ ?_ ?_); rotate_left 3; (focus (simp [-List.getD_eq_getElem?_getD, List.getD_cons_zero, List.getD_cons_succ, List.getD_nil, *]; exact Eq.refl _)); (focus (simp [-List.getD_eq_getElem?_getD, List.getD_cons_zero, List.getD_cons_succ, Ef.app, Ef.pk, pntO, wrO, wr, lk, AS.upd, updO, updI, AS.put, st, dl]; exact Eq.refl _))))); (exact runE_nil))); (focus (first | kernel_rfl | decide)))))
      ((refine post_ret (av := ?_) (by first | exact .inl rfl | exact .inr rfl) (show (Try.f35).results.toList = _ from by rw [Try.results35]) ?_ ?_); rotate_left; (focus (simp [-List.getD_eq_getElem?_getD, List.getD_cons_zero, List.getD_cons_succ, retA, retL, ret1, lk, st, ldA, AV.cell]; rfl)); (try simp [-List.getD_eq_getElem?_getD, List.getD_cons_zero, List.getD_cons_succ, List.getD_nil, *]))
      rfl
  · rw [if_neg hz]
    have hne : (checkT N L != 0) = true := by simpa using hz
    refine fn_sp TT_ok Try.func35 (c := _) rfl (by simp [Try.ntmps35]) (fun B hI0 hro => ?_)
    rw [Try.ntmps35]
    simp only [enumA]
    repeat (first
        | with_reducible refine s_seq ?_
        | with_reducible refine k_seq ?_
        | with_reducible refine k_seq_ret ?_
        | with_reducible refine k_seq_exit ?_
        | with_reducible refine k_blk ?_
        | with_reducible refine k_blk_ret ?_
        | with_reducible refine k_blk_exit ?_
        | ((with_reducible refine k_blk_out ?_ ?_); (focus decide))
        | with_reducible refine k_lp_ret ?_
        | with_reducible refine k_lp_exit ?_
        | with_reducible refine ki_lp_ret ?_
        | with_reducible refine ki_lp_exit ?_
        | with_reducible refine s_block ?_
        | with_reducible refine sp_skip ?_
        | with_reducible refine sp_ret ?_
        | with_reducible refine sp_exit ?_
        | ((with_reducible refine s_cond_t ?_ ?_); (focus (simp [-List.getD_eq_getElem?_getD, List.getD_cons_zero, List.getD_cons_succ, List.getD_nil, lk, AS.ev, *]; done)))
        | ((with_reducible refine s_cond_f ?_ ?_); (focus (simp [-List.getD_eq_getElem?_getD, List.getD_cons_zero, List.getD_cons_succ, List.getD_nil, lk, AS.ev, *]; done)))
        | (focus ((with_reducible refine s_region2 (q := ?_) (σ' := ?_) TT_ok PT14_ok ?_ ?_ ?_); rotate_left 2; (focus (first | (simp [nxt]; exact Eq.refl _) | exact Eq.refl _)); (focus ((repeat (((with_reducible refine runL_cons (σ1 := ?_) ?_ ?_); rotate_left; (focus (simp [-List.getD_eq_getElem?_getD, List.getD_cons_zero, List.getD_cons_succ, List.getD_nil, *]; rfl))))); (exact runL_nil)))))
        | (focus ((with_reducible refine s_draw2 (q := ?_) (es := ?_) (σ' := ?_) prog_mixed TT_ok PT14_ok ?_ ?_ ?_ ?_); rotate_left 3; (focus (first | (simp [nxt]; exact Eq.refl _) | exact Eq.refl _)); (focus ((repeat (((with_reducible refine runE_cons (e := ?_) (σ1 := ?_) (es := ?_) ?_ ?_ ?_); rotate_left 3; (focus (simp [-List.getD_eq_getElem?_getD, List.getD_cons_zero, List.getD_cons_succ, List.getD_nil, *]; exact Eq.refl _)); (focus (simp [-List.getD_eq_getElem?_getD, List.getD_cons_zero, List.getD_cons_succ, Ef.app, Ef.pk, pntO, wrO, wr, lk, AS.upd, updO, updI, AS.put, st, dl]; exact Eq.refl _))))); (exact runE_nil))); (focus (first | kernel_rfl | decide)))))
    ((refine post_ret (av := ?_) (by first | exact .inl rfl | exact .inr rfl) (show (Try.f35).results.toList = _ from by rw [Try.results35]) ?_ ?_); rotate_left; (focus (simp [-List.getD_eq_getElem?_getD, List.getD_cons_zero, List.getD_cons_succ, retA, retL, ret1, lk, st, ldA, AV.cell]; rfl)); (try simp [-List.getD_eq_getElem?_getD, List.getD_cons_zero, List.getD_cons_succ, List.getD_nil, *]))
    unfold aSet WV
    rw [z1, z2]; rfl
@[simp] def g_thVars : List AV → Option (AV × Bool)
  | [.agg [.v (.int .i64 N), a0]] => (match toRows a0 with | some L => if (okI N && okRows L) = true then some (aSet (varsOf N L), false) else none | none => none)
  | _ => none
theorem e_thVars : EntOk Try.prog 35 g_thVars := ent_pure (by kernel_rfl) fun args r fr h => by
  unfold g_thVars at h
  split at h
  · rename_i N a0
    split at h
    · rename_i L t0
      split at h
      · rename_i hc
        simp only [Bool.and_eq_true] at hc
        obtain ⟨m0, o0⟩ := hc
        cases h
        exact ⟨FnPure.cov (thVars_p N L m0 o0) (.cons (cov_th _ (cov_rows t0)) .nil), rfl⟩
      · cases h
    · cases h
  · cases h

def l15 : List (FuncId × (List AV → Option (AV × Bool))) :=
  (35, g_thVars) :: l14
theorem l15_ok : ∀ p ∈ l15, EntOk Try.prog p.1 p.2 := ent_cons e_thVars (l14_ok)
def PT15 : PTab := tab l15
theorem PT15_ok : PTok Try.prog PT15 := tab_ok l15_ok
@[simp] theorem PT15_litVar : PT15 32 = g_litVar := rfl
@[simp] theorem PT15_litValid : PT15 77 = g_litValid := rfl
@[simp] theorem PT15_contains : PT15 50 = g_contains := rfl
@[simp] theorem PT15_check : PT15 46 = g_check := rfl
@[simp] theorem PT15_with : PT15 33 = g_with := rfl
@[simp] theorem PT15_without : PT15 31 = g_without := rfl
@[simp] theorem PT15_all : PT15 30 = g_all := rfl
@[simp] theorem PT15_rValid : PT15 71 = g_rValid := rfl
@[simp] theorem PT15_rCheck : PT15 42 = g_rCheck := rfl
@[simp] theorem PT15_litvalid : PT15 85 = g_litvalid := rfl
@[simp] theorem PT15_opposite : PT15 87 = g_opposite := rfl
@[simp] theorem PT15_clone : PT15 99 = g_clone := rfl
@[simp] theorem PT15_order : PT15 86 = g_order := rfl
@[simp] theorem PT15_term : PT15 69 = g_term := rfl
@[simp] theorem PT15_clause : PT15 57 = g_clause := rfl
@[simp] theorem PT15_equal : PT15 61 = g_equal := rfl
@[simp] theorem PT15_distinct : PT15 60 = g_distinct := rfl
@[simp] theorem PT15_normal : PT15 27 = g_normal := rfl
@[simp] theorem PT15_rContains : PT15 74 = g_rContains := rfl
@[simp] theorem PT15_rSameInts : PT15 52 = g_rSameInts := rfl
@[simp] theorem PT15_rAbs : PT15 114 = g_rAbs := rfl
@[simp] theorem PT15_rBefore : PT15 97 = g_rBefore := rfl
@[simp] theorem PT15_rSorted : PT15 75 = g_rSorted := rfl
@[simp] theorem PT15_rPut : PT15 76 = g_rPut := rfl
@[simp] theorem PT15_rNormal : PT15 45 = g_rNormal := rfl
@[simp] theorem PT15_place : PT15 62 = g_place := rfl
@[simp] theorem PT15_vHas : PT15 34 = g_vHas := rfl
@[simp] theorem PT15_vMinus : PT15 90 = g_vMinus := rfl
@[simp] theorem PT15_vCut : PT15 29 = g_vCut := rfl
@[simp] theorem PT15_vSub : PT15 65 = g_vSub := rfl
@[simp] theorem PT15_litHolds : PT15 64 = g_litHolds := rfl
@[simp] theorem PT15_litAny : PT15 36 = g_litAny := rfl
@[simp] theorem PT15_thEval : PT15 37 = g_thEval := rfl
@[simp] theorem PT15_rSame : PT15 22 = g_rSame := rfl
@[simp] theorem PT15_rTerm : PT15 73 = g_rTerm := rfl
@[simp] theorem PT15_thVars : PT15 35 = g_thVars := rfl
end Go.Proofs.Ythdjgcjpolpgdaa
