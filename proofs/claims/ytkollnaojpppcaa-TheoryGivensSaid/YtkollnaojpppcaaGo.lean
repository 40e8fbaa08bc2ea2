/- theory.Given as a function that returns rows of its own; no condition. -/
import Derived.Test.YtkollnaojpppcaaGi0
import Derived.Test.YtkollnaojpppcaaObP
namespace Go.Proofs.Ytkollnaojpppcaa
set_option linter.unusedVariables false
set_option linter.unusedSimpArgs false
set_option linter.unusedSectionVars false
open Go.RowKit
attribute [local simp] List.getD_cons_zero List.getD_cons_succ List.getD_nil undef gvars runL runE effA stepA dstOk wantA core lk st dl AS.ev AS.evs AS.put AS.upd updO updI nxt cPick cAlloc cBox cBuild cBuildS cLoad cStore cNil plainOf cBin cNilS isNilS nilA cUn cConvX cConvB cConv bytesOf rowB cMake cSlice slA idxA cFA cF cIA cIX cIS cI cExt cLen cApp cMM cFun cCall lenA lenM isNilM nilM cNilM cMakeM hintB cMapK cLook foundR lookR cUpd putM cDel delM findA isKeyB Instr.sameNow AS.entry AS.bound AS.callee sc1 sc2 ixOk ldA AV.flat AV.cell AV.cells Value.oneCell' fillA spl chunk zeros AS.parts AS.rows AS.shut AS.shut1 AS.shut2 AS.shutL AS.shutM AV.ids idsL idsLL eqAll bndA AV.scalar AV.scalar1 AV.isV Ef.app Ef.pk ptOf pntO wrO wr
set_option maxRecDepth 100000
attribute [local simp] AV.ren renL obI shO_cons lk_st lk_dl renLL_append
theorem known_fam {E : List (Nat × AObj)} {I : List Nat} {b : Nat} {M : List (List Int)} (h : ∀ p ∈ E, p.1 ∈ I ∧ ∀ q ∈ idsLL p.2.xs, q ∈ I ∨ (b ≤ q ∧ q < b + M.length)) : Known (E ++ fam b M) (I ++ List.range' b M.length) := fun k ob hk => by
  rw [lk_append] at hk
  cases he : lk E k with
  | some x =>
    rw [he] at hk; cases hk
    obtain ⟨h1, h2⟩ := h _ (mem_lk he)
    exact ⟨List.mem_append_left _ h1, fun q hq => (h2 q hq).elim (fun h => List.mem_append_left _ h) (fun h => List.mem_append_right _ (List.mem_range'_1.2 h))⟩
  | none =>
    rw [he] at hk
    simp only [lk_famI] at hk
    split at hk
    · rename_i hc; cases hk
      refine ⟨List.mem_append_right _ (List.mem_range'_1.2 hc), fun q hq => ?_⟩
      rw [show idsLL ((M.getD (k - b) []).map fun x => [AV.v (.int .i64 x)]) = [] from ids_ints _] at hq; cases hq
    · cases hk
def gvE (N : Int) (L : List (List Int)) (ts : List Int) (K : List (List Int)) : List (Nat × AObj) := [(10, ⟨38, 1, refsI 1000 K⟩), (0, ⟨24, 2, [[.v (.int .i64 N), aRows L]]⟩), (1, ⟨24, 2, [[.v (.int .i64 0), .v (.slice none 0 0)]]⟩), (2, ⟨69, 257, [isK ts ts.length]⟩), (6, ⟨24, 2, [[.v (.int .i64 N), .ref 10 0 K.length]]⟩), (7, ⟨24, 2, [[.v (.int .i64 N), aRows L]]⟩), (8, ⟨73, 1, [[.ptr 2 0 0]]⟩)]
theorem gvE_known (N : Int) (L : List (List Int)) (ts : List Int) (K : List (List Int)) : Known (gvE N L ts K ++ fam 1000 K) ([10, 9, 8, 7, 6, 2, 1, 0] ++ List.range' 1000 K.length) := known_fam fun p hp => by
  unfold gvE at hp
  simp only [List.mem_cons, List.not_mem_nil, or_false] at hp
  rcases hp with rfl | rfl | rfl | rfl | rfl | rfl | rfl
  · exact ⟨by simp, fun q hq => .inr (ids_refsI 1000 K hq)⟩
  all_goals exact ⟨by simp, fun q hq => .inl (by simp [idsLL, idsL, AV.ids] at hq ⊢ <;> simp [hq])⟩
set_option maxHeartbeats 4000000 in
theorem given_obj (N : Int) (L : List (List Int)) (ts : List Int) (hN : okI N = true) (h : okRows L = true) (ht : okInts ts = true) (hz : checkT N L = 0) (hr : termR N ts = true) : FnObj Try.prog 26 [aTh N L, aInts ts] (resT N (givenT ts L)) (objT (givenT ts L)) (idsT (givenT ts L)) := by
  have hck := checkT_ok hz
  have hm := okRows_len h
  have hmt := okInts_len ht
  have htm := term_some (ts := ts) ⟨hck.1, hck.2.1⟩
  rw [hr] at htm
  unfold aTh
  refine fn_obj TT_ok Try.func26 (c := _) rfl (by simp [Try.ntmps26]) (within_T _ fun k hk => by simpa [resT, AV.ids, idsL] using hk) (fun B hI0 hro => ?_)
  rw [Try.ntmps26]
  simp only [enumA]
  repeat (first | with_reducible first | refine s_seq ?_ | refine k_seq ?_ | refine k_seq_ret ?_ | refine k_seq_exit ?_ | refine k_blk ?_ | refine k_blk_ret ?_ | refine k_blk_exit ?_ | refine k_lp_ret ?_ | refine k_lp_exit ?_ | refine ki_lp_ret ?_ | refine ki_lp_exit ?_ | refine s_block ?_ | refine sp_skip ?_ | refine sp_ret ?_ | refine sp_exit ?_ | ((with_reducible refine k_blk_out ?_ ?_); (focus decide)) | ((with_reducible refine s_cond_t ?_ ?_); (focus (simp [-List.getD_eq_getElem?_getD, *]; done))) | ((with_reducible refine s_cond_f ?_ ?_); (focus (simp [-List.getD_eq_getElem?_getD, *]; done))) | (focus ((with_reducible refine s_region2 (q := ?_) (σ' := ?_) TT_ok PT15_ok ?_ ?_ ?_); rotate_left 2; (focus (first | (simp; exact Eq.refl _) | exact Eq.refl _)); (focus ((repeat (((with_reducible refine runL_cons (σ1 := ?_) ?_ ?_); rotate_left; (focus (simp [-List.getD_eq_getElem?_getD, *]; rfl))))); (exact runL_nil))))) | (focus ((with_reducible refine s_draw2 (q := ?_) (es := ?_) (σ' := ?_) prog_mixed TT_ok PT15_ok ?_ ?_ ?_ ?_); rotate_left 3; (focus (first | (simp; exact Eq.refl _) | exact Eq.refl _)); (focus ((repeat (((with_reducible refine runE_cons (e := ?_) (σ1 := ?_) (es := ?_) ?_ ?_ ?_); rotate_left 3; (focus (simp [-List.getD_eq_getElem?_getD, *]; exact Eq.refl _)); (focus (simp [-List.getD_eq_getElem?_getD]; exact Eq.refl _))))); (exact runE_nil))); (focus (first | kernel_rfl | decide)))))
  refine s_loop (J := fun i : {k : Nat // k ≤ ts.length} => ⟨72, [(2, .ptr 0 0 0), (4, .ptr 1 0 0), (9, .ptr 2 0 0), (33, aInts ts), (34, .v (.int .i64 (ts.length : Int))), (35, .v (.int .i64 (i.1 : Int)))], [(0, ⟨24, 2, [[.v (.int .i64 N), aRows L]]⟩), (1, ⟨24, 2, [[.v (.int .i64 0), .v (.slice none 0 0)]]⟩), (2, ⟨69, 257, [isK ts i.1]⟩)], [2, 1, 0]⟩) (μ := fun i => ts.length - i.1) ⟨0, Nat.zero_le _⟩ ?_ (fun ⟨k, hk⟩ => ?_)
  · (refine weak_id rfl ?_ ?_ <;> ((try simp only [List.mem_cons, List.not_mem_nil, or_false, forall_eq_or_imp, forall_eq]); (try simp (disch := omega) [-List.getD_eq_getElem?_getD, i64w, *])))
    kernel_rfl
  repeat (first | with_reducible first | refine s_seq ?_ | refine k_seq ?_ | refine k_seq_ret ?_ | refine k_seq_exit ?_ | refine k_blk ?_ | refine k_blk_ret ?_ | refine k_blk_exit ?_ | refine k_lp_ret ?_ | refine k_lp_exit ?_ | refine ki_lp_ret ?_ | refine ki_lp_exit ?_ | refine s_block ?_ | refine sp_skip ?_ | refine sp_ret ?_ | refine sp_exit ?_ | ((with_reducible refine k_blk_out ?_ ?_); (focus decide)) | ((with_reducible refine s_cond_t ?_ ?_); (focus (simp [-List.getD_eq_getElem?_getD, *]; done))) | ((with_reducible refine s_cond_f ?_ ?_); (focus (simp [-List.getD_eq_getElem?_getD, *]; done))) | (focus ((with_reducible refine s_region2 (q := ?_) (σ' := ?_) TT_ok PT15_ok ?_ ?_ ?_); rotate_left 2; (focus (first | (simp; exact Eq.refl _) | exact Eq.refl _)); (focus ((repeat (((with_reducible refine runL_cons (σ1 := ?_) ?_ ?_); rotate_left; (focus (simp [-List.getD_eq_getElem?_getD, *]; rfl))))); (exact runL_nil))))) | (focus ((with_reducible refine s_draw2 (q := ?_) (es := ?_) (σ' := ?_) prog_mixed TT_ok PT15_ok ?_ ?_ ?_ ?_); rotate_left 3; (focus (first | (simp; exact Eq.refl _) | exact Eq.refl _)); (focus ((repeat (((with_reducible refine runE_cons (e := ?_) (σ1 := ?_) (es := ?_) ?_ ?_ ?_); rotate_left 3; (focus (simp [-List.getD_eq_getElem?_getD, *]; exact Eq.refl _)); (focus (simp [-List.getD_eq_getElem?_getD]; exact Eq.refl _))))); (exact runE_nil))); (focus (first | kernel_rfl | decide)))))
  (focus ((with_reducible refine sp_cond (b := ?_) ?_ (fun hc => ?_) (fun hc => ?_)); rotate_left; (focus (first | rfl | (simp [lk, AS.ev]; rfl))); all_goals (try simp [-List.getD_eq_getElem?_getD] at hc)))
  · have hkk := hc
    clear hc
    obtain ⟨r1, r2, r3, r4, r5⟩ := litOk_range (show litOk (ts.getD k 0) N = true from (Bool.and_eq_true_iff.1 (List.all_eq_true.1 hr _ (getD_memI hkk))).1)
    have hw : IntKind.i64.wrap (128 + ts.getD k 0) = 128 + ts.getD k 0 := i64w (by omega) (by omega)
    have hi0 : 0 ≤ 128 + ts.getD k 0 := by omega
    have hi1 : 128 + ts.getD k 0 < 257 := by omega
    have hmx : max (128 + ts.getD k 0) 0 = 128 + ts.getD k 0 := by omega
    have hi2 : (128 + ts.getD k 0).toNat < 257 := by omega
    have hi3 : 128 + ts.getD k 0 ≤ 256 := by omega
    repeat (first | with_reducible first | refine s_seq ?_ | refine k_seq ?_ | refine k_seq_ret ?_ | refine k_seq_exit ?_ | refine k_blk ?_ | refine k_blk_ret ?_ | refine k_blk_exit ?_ | refine k_lp_ret ?_ | refine k_lp_exit ?_ | refine ki_lp_ret ?_ | refine ki_lp_exit ?_ | refine s_block ?_ | refine sp_skip ?_ | refine sp_ret ?_ | refine sp_exit ?_ | ((with_reducible refine k_blk_out ?_ ?_); (focus decide)) | ((with_reducible refine s_cond_t ?_ ?_); (focus (simp [-List.getD_eq_getElem?_getD, *]; done))) | ((with_reducible refine s_cond_f ?_ ?_); (focus (simp [-List.getD_eq_getElem?_getD, *]; done))) | (focus ((with_reducible refine s_region2 (q := ?_) (σ' := ?_) TT_ok PT15_ok ?_ ?_ ?_); rotate_left 2; (focus (first | (simp; exact Eq.refl _) | exact Eq.refl _)); (focus ((repeat (((with_reducible refine runL_cons (σ1 := ?_) ?_ ?_); rotate_left; (focus (simp [-List.getD_eq_getElem?_getD, *]; rfl))))); (exact runL_nil))))) | (focus ((with_reducible refine s_draw2 (q := ?_) (es := ?_) (σ' := ?_) prog_mixed TT_ok PT15_ok ?_ ?_ ?_ ?_); rotate_left 3; (focus (first | (simp; exact Eq.refl _) | exact Eq.refl _)); (focus ((repeat (((with_reducible refine runE_cons (e := ?_) (σ1 := ?_) (es := ?_) ?_ ?_ ?_); rotate_left 3; (focus (simp [-List.getD_eq_getElem?_getD, *]; exact Eq.refl _)); (focus (simp [-List.getD_eq_getElem?_getD]; exact Eq.refl _))))); (exact runE_nil))); (focus (first | kernel_rfl | decide)))))
    refine k_lp (⟨k + 1, by omega⟩ : {k : Nat // k ≤ ts.length}) (by dsimp only; omega) ?_
    (refine weak_id rfl ?_ ?_ <;> ((try simp only [List.mem_cons, List.not_mem_nil, or_false, forall_eq_or_imp, forall_eq]); (try simp (disch := omega) [-List.getD_eq_getElem?_getD, i64w, *])))
    have hs := d_is_spl (j := (128 + ts.getD k 0).toNat) hkk (by omega) hi2
    simp only [spl, List.append_assoc, List.singleton_append, List.length_cons, List.length_nil, Nat.zero_add] at hs
    exact hs
  · obtain rfl : k = ts.length := by omega
    repeat (first | with_reducible first | refine s_seq ?_ | refine k_seq ?_ | refine k_seq_ret ?_ | refine k_seq_exit ?_ | refine k_blk ?_ | refine k_blk_ret ?_ | refine k_blk_exit ?_ | refine k_lp_ret ?_ | refine k_lp_exit ?_ | refine ki_lp_ret ?_ | refine ki_lp_exit ?_ | refine s_block ?_ | refine sp_skip ?_ | refine sp_ret ?_ | refine sp_exit ?_ | ((with_reducible refine k_blk_out ?_ ?_); (focus decide)) | ((with_reducible refine s_cond_t ?_ ?_); (focus (simp [-List.getD_eq_getElem?_getD, *]; done))) | ((with_reducible refine s_cond_f ?_ ?_); (focus (simp [-List.getD_eq_getElem?_getD, *]; done))) | (focus ((with_reducible refine s_region2 (q := ?_) (σ' := ?_) TT_ok PT15_ok ?_ ?_ ?_); rotate_left 2; (focus (first | (simp; exact Eq.refl _) | exact Eq.refl _)); (focus ((repeat (((with_reducible refine runL_cons (σ1 := ?_) ?_ ?_); rotate_left; (focus (simp [-List.getD_eq_getElem?_getD, *]; rfl))))); (exact runL_nil))))) | (focus ((with_reducible refine s_draw2 (q := ?_) (es := ?_) (σ' := ?_) prog_mixed TT_ok PT15_ok ?_ ?_ ?_ ?_); rotate_left 3; (focus (first | (simp; exact Eq.refl _) | exact Eq.refl _)); (focus ((repeat (((with_reducible refine runE_cons (e := ?_) (σ1 := ?_) (es := ?_) ?_ ?_ ?_); rotate_left 3; (focus (simp [-List.getD_eq_getElem?_getD, *]; exact Eq.refl _)); (focus (simp [-List.getD_eq_getElem?_getD]; exact Eq.refl _))))); (exact runE_nil))); (focus (first | kernel_rfl | decide)))))
    refine s_regionL ?_
    ((iterate 1 (((with_reducible refine spl_step TT_ok PT15_ok (id := 0) (σ' := ?_) ?_ ?_); rotate_left; (focus (simp [-List.getD_eq_getElem?_getD, *]; rfl))))))
    refine spl_call TT_ok rfl rfl rfl (by kernel_rfl) Try.func53 rfl (avs := [.agg [.v (.int .i64 N), aRows L], .ptr 2 0 0]) (cs := []) rfl rfl (by simp [Try.ntmps53]) fun B' hI' hro' => ?_
    rw [Try.ntmps53, Try.results53]
    simp only [enumA, List.append_nil]
    repeat (first | with_reducible first | refine s_seq ?_ | refine k_seq ?_ | refine k_seq_ret ?_ | refine k_seq_exit ?_ | refine k_blk ?_ | refine k_blk_ret ?_ | refine k_blk_exit ?_ | refine k_lp_ret ?_ | refine k_lp_exit ?_ | refine ki_lp_ret ?_ | refine ki_lp_exit ?_ | refine s_block ?_ | refine sp_skip ?_ | refine sp_ret ?_ | refine sp_exit ?_ | ((with_reducible refine k_blk_out ?_ ?_); (focus decide)) | ((with_reducible refine s_cond_t ?_ ?_); (focus (simp [-List.getD_eq_getElem?_getD, *]; done))) | ((with_reducible refine s_cond_f ?_ ?_); (focus (simp [-List.getD_eq_getElem?_getD, *]; done))) | (focus ((with_reducible refine s_region2 (q := ?_) (σ' := ?_) TT_ok PT15_ok ?_ ?_ ?_); rotate_left 2; (focus (first | (simp; exact Eq.refl _) | exact Eq.refl _)); (focus ((repeat (((with_reducible refine runL_cons (σ1 := ?_) ?_ ?_); rotate_left; (focus (simp [-List.getD_eq_getElem?_getD, *]; rfl))))); (exact runL_nil))))) | (focus ((with_reducible refine s_draw2 (q := ?_) (es := ?_) (σ' := ?_) prog_mixed TT_ok PT15_ok ?_ ?_ ?_ ?_); rotate_left 3; (focus (first | (simp; exact Eq.refl _) | exact Eq.refl _)); (focus ((repeat (((with_reducible refine runE_cons (e := ?_) (σ1 := ?_) (es := ?_) ?_ ?_ ?_); rotate_left 3; (focus (simp [-List.getD_eq_getElem?_getD, *]; exact Eq.refl _)); (focus (simp [-List.getD_eq_getElem?_getD]; exact Eq.refl _))))); (exact runE_nil))); (focus (first | kernel_rfl | decide)))))
    refine ⟨.inr rfl, .clo 71 [.ptr 7 0 0, .ptr 8 0 0], ?_, ?_⟩
    · simp [retA, retL, ret1, lk]
    refine spl_nil ?_
    refine k_seq ?_
    refine s_block ?_
    (refine s_eq (τ := ?_) ?_ ?_; rotate_left; (focus ((try simp only [AS.frz, List.map_cons, List.map_nil]); (try simp [-List.getD_eq_getElem?_getD, frzV, frzO, frzC, List.filter]); rfl)))
    refine s_range TT_ok 9 (by simp) hro (f := 71) (cs := [.ptr 7 0 0, .ptr 8 0 0]) rfl (by kernel_rfl) Try.func71 rfl (by simp [Try.ntmps71]) (by simp) fun B1 hI1 hro1 hY => ?_
    rw [Try.ntmps71, Try.results71]
    simp only [enumA]
    refine s_cnil 6 0 1 10 38 1 rfl rfl (by simp) ?_ (by decide)
    (refine s_eq (τ := ?_) ?_ ?_; rotate_left; (focus ((try simp only [AS.frz, List.map_cons, List.map_nil]); (try simp [-List.getD_eq_getElem?_getD, frzV, frzO, frzC, List.filter]); rfl)))
    repeat (first | with_reducible first | refine s_seq ?_ | refine k_seq ?_ | refine k_seq_ret ?_ | refine k_seq_exit ?_ | refine k_blk ?_ | refine k_blk_ret ?_ | refine k_blk_exit ?_ | refine k_lp_ret ?_ | refine k_lp_exit ?_ | refine ki_lp_ret ?_ | refine ki_lp_exit ?_ | refine s_block ?_ | refine sp_skip ?_ | refine sp_ret ?_ | refine sp_exit ?_ | ((with_reducible refine k_blk_out ?_ ?_); (focus decide)) | ((with_reducible refine s_cond_t ?_ ?_); (focus (simp [-List.getD_eq_getElem?_getD, *]; done))) | ((with_reducible refine s_cond_f ?_ ?_); (focus (simp [-List.getD_eq_getElem?_getD, *]; done))) | (focus ((with_reducible refine s_region2 (q := ?_) (σ' := ?_) TT_ok PT15_ok ?_ ?_ ?_); rotate_left 2; (focus (first | (simp; exact Eq.refl _) | exact Eq.refl _)); (focus ((repeat (((with_reducible refine runL_cons (σ1 := ?_) ?_ ?_); rotate_left; (focus (simp [-List.getD_eq_getElem?_getD, *]; rfl))))); (exact runL_nil))))) | (focus ((with_reducible refine s_draw2 (q := ?_) (es := ?_) (σ' := ?_) prog_mixed TT_ok PT15_ok ?_ ?_ ?_ ?_); rotate_left 3; (focus (first | (simp; exact Eq.refl _) | exact Eq.refl _)); (focus ((repeat (((with_reducible refine runE_cons (e := ?_) (σ1 := ?_) (es := ?_) ?_ ?_ ?_); rotate_left 3; (focus (simp [-List.getD_eq_getElem?_getD, *]; exact Eq.refl _)); (focus (simp [-List.getD_eq_getElem?_getD]; exact Eq.refl _))))); (exact runE_nil))); (focus (first | kernel_rfl | decide)))))
    refine s_loopI hI1 (J := fun i : {k : Nat // k ≤ L.length} => ⟨21, [(0, .yld 9), (1, .ptr 7 0 0), (2, .ptr 8 0 0), (7, aRows L), (8, .v (.int .i64 (L.length : Int))), (9, .v (.int .i64 (i.1 : Int)))], gvE N L ts (givenK ts L i.1) ++ fam 1000 (givenK ts L i.1), [10, 9, 8, 7, 6, 2, 1, 0] ++ List.range' 1000 (givenK ts L i.1).length⟩) (μ := fun i => L.length - i.1) ⟨0, Nat.zero_le _⟩ ?_ (fun ⟨k, hk⟩ => ?_)
    · have hk0 : givenK ts L 0 = [] := rfl
      have hr0 : refsI 1000 [] = [] := rfl
      unfold gvE
      (refine weakI_fam (fun k => k) ?_ rfl ?_ ?_ ?_ ?_ ?_ ?_ <;> ((try simp only [List.mem_cons, List.not_mem_nil, or_false, forall_eq_or_imp, forall_eq]); (try simp (disch := omega) [-List.getD_eq_getElem?_getD, lk, AV.ids, idsL, idsLL, AV.ren, renL, renLL, i64w, *])))
    have hlen := givenK_len ts L k
    have hcap : ((givenK ts L k).length + 1) * 24 ≤ 140737488355328 := by omega
    have hkn := gvE_known N L ts (givenK ts L k)
    repeat (first | with_reducible first | refine s_seq ?_ | refine k_seq ?_ | refine k_seq_ret ?_ | refine k_seq_exit ?_ | refine k_blk ?_ | refine k_blk_ret ?_ | refine k_blk_exit ?_ | refine k_lp_ret ?_ | refine k_lp_exit ?_ | refine ki_lp_ret ?_ | refine ki_lp_exit ?_ | refine s_block ?_ | refine sp_skip ?_ | refine sp_ret ?_ | refine sp_exit ?_ | ((with_reducible refine k_blk_out ?_ ?_); (focus decide)) | ((with_reducible refine s_cond_t ?_ ?_); (focus (simp [-List.getD_eq_getElem?_getD, *]; done))) | ((with_reducible refine s_cond_f ?_ ?_); (focus (simp [-List.getD_eq_getElem?_getD, *]; done))))
    (focus ((with_reducible refine s_region2 (q := ?_) (σ' := ?_) TT_ok PT15_ok ?_ ?_ ?_); rotate_left 2; (focus (first | (simp; exact Eq.refl _) | exact Eq.refl _)); (focus ((repeat (((with_reducible refine runL_cons (σ1 := ?_) ?_ ?_); rotate_left; (focus (simp [-List.getD_eq_getElem?_getD, *]; rfl))))); (exact runL_nil)))))
    repeat (first | with_reducible first | refine s_seq ?_ | refine k_seq ?_ | refine k_seq_ret ?_ | refine k_seq_exit ?_ | refine k_blk ?_ | refine k_blk_ret ?_ | refine k_blk_exit ?_ | refine k_lp_ret ?_ | refine k_lp_exit ?_ | refine ki_lp_ret ?_ | refine ki_lp_exit ?_ | refine s_block ?_ | refine sp_skip ?_ | refine sp_ret ?_ | refine sp_exit ?_ | ((with_reducible refine k_blk_out ?_ ?_); (focus decide)) | ((with_reducible refine s_cond_t ?_ ?_); (focus (simp [-List.getD_eq_getElem?_getD, *]; done))) | ((with_reducible refine s_cond_f ?_ ?_); (focus (simp [-List.getD_eq_getElem?_getD, *]; done))))
    (focus ((with_reducible refine sp_cond (b := ?_) ?_ (fun hc => ?_) (fun hc => ?_)); rotate_left; (focus (first | rfl | (simp [lk, AS.ev]; rfl))); all_goals (try simp [-List.getD_eq_getElem?_getD] at hc)))
    · have hkk := hc
      clear hc
      have hci := okRows_at h k
      have hcl := okInts_len hci
      have hmem := getD_memL hkk
      generalize hcc : L.getD k [] = c at hci hcl hmem
      obtain ⟨hl128, hlit⟩ := hck.2.2.2 c hmem
      have hks := givenK_succ (ts := ts) hkk
      rw [hcc] at hks
      generalize hKK : givenK ts L k = K at hks hlen hcap hkn
      repeat (first | with_reducible first | refine s_seq ?_ | refine k_seq ?_ | refine k_seq_ret ?_ | refine k_seq_exit ?_ | refine k_blk ?_ | refine k_blk_ret ?_ | refine k_blk_exit ?_ | refine k_lp_ret ?_ | refine k_lp_exit ?_ | refine ki_lp_ret ?_ | refine ki_lp_exit ?_ | refine s_block ?_ | refine sp_skip ?_ | refine sp_ret ?_ | refine sp_exit ?_ | ((with_reducible refine k_blk_out ?_ ?_); (focus decide)) | ((with_reducible refine s_cond_t ?_ ?_); (focus (simp [-List.getD_eq_getElem?_getD, *]; done))) | ((with_reducible refine s_cond_f ?_ ?_); (focus (simp [-List.getD_eq_getElem?_getD, *]; done))))
      (focus ((with_reducible refine s_region2 (q := ?_) (σ' := ?_) TT_ok PT15_ok ?_ ?_ ?_); rotate_left 2; (focus (first | (simp; exact Eq.refl _) | exact Eq.refl _)); (focus ((repeat (((with_reducible refine runL_cons (σ1 := ?_) ?_ ?_); rotate_left; (focus (simp [-List.getD_eq_getElem?_getD, *]; rfl))))); (exact runL_nil)))))
      repeat (first | with_reducible first | refine s_seq ?_ | refine k_seq ?_ | refine k_seq_ret ?_ | refine k_seq_exit ?_ | refine k_blk ?_ | refine k_blk_ret ?_ | refine k_blk_exit ?_ | refine k_lp_ret ?_ | refine k_lp_exit ?_ | refine ki_lp_ret ?_ | refine ki_lp_exit ?_ | refine s_block ?_ | refine sp_skip ?_ | refine sp_ret ?_ | refine sp_exit ?_ | ((with_reducible refine k_blk_out ?_ ?_); (focus decide)) | ((with_reducible refine s_cond_t ?_ ?_); (focus (simp [-List.getD_eq_getElem?_getD, *]; done))) | ((with_reducible refine s_cond_f ?_ ?_); (focus (simp [-List.getD_eq_getElem?_getD, *]; done))))
      refine s_regionL ?_
      ((iterate 2 (((with_reducible refine spl_step TT_ok PT15_ok (id := 0) (σ' := ?_) ?_ ?_); rotate_left; (focus (simp [-List.getD_eq_getElem?_getD, *]; rfl))))))
      have hlk := open11_looks N L ts c (gvE N L ts K ++ fam 1000 K) ([10, 9, 8, 7, 6, 2, 1, 0] ++ List.range' 1000 K.length) (fun y hy => ⟨(litOk_range (hlit y hy)).1, (litOk_range (hlit y hy)).2.1⟩) rfl rfl
      refine spl_call TT_ok rfl rfl rfl (by kernel_rfl) Try.func68 rfl (avs := [aInts c, .clo 72 [.ptr 8 0 0]]) (cs := []) rfl rfl (by simp [Try.ntmps68]) fun B2 hI2 hro2 => ?_
      refine sp_mono (cntFI_sp hkn (by omega) (by simp [AV.ids, idsL]) hlk rfl hI2) fun e τ hq => ?_
      obtain ⟨h1, h2, h3, h4⟩ := hq
      refine ⟨h1, _, h2, ?_⟩
      rw [h3, h4]
      refine spl_nil ?_
      cases hq : c.any fun l => decide (l ∈ ts)
      · have ho : openC ts c = true := by unfold openC; rw [hq]; rfl
        rw [if_pos ho] at hks
        repeat (first | with_reducible first | refine s_seq ?_ | refine k_seq ?_ | refine k_seq_ret ?_ | refine k_seq_exit ?_ | refine k_blk ?_ | refine k_blk_ret ?_ | refine k_blk_exit ?_ | refine k_lp_ret ?_ | refine k_lp_exit ?_ | refine ki_lp_ret ?_ | refine ki_lp_exit ?_ | refine s_block ?_ | refine sp_skip ?_ | refine sp_ret ?_ | refine sp_exit ?_ | ((with_reducible refine k_blk_out ?_ ?_); (focus decide)) | ((with_reducible refine s_cond_t ?_ ?_); (focus (simp [-List.getD_eq_getElem?_getD, *]; done))) | ((with_reducible refine s_cond_f ?_ ?_); (focus (simp [-List.getD_eq_getElem?_getD, *]; done))))
        refine s_regionL ?_
        ((iterate 2 (((with_reducible refine spl_step TT_ok PT15_ok (id := 0) (σ' := ?_) ?_ ?_); rotate_left; (focus (simp [-List.getD_eq_getElem?_getD, *]; rfl))))))
        refine hY _ _ _ _ _ _ _ _ [aInts c] rfl rfl rfl rfl rfl rfl fun B3 hI3 hro3 => ?_
        simp only [setps, st]
        repeat (first | with_reducible first | refine s_seq ?_ | refine k_seq ?_ | refine k_seq_ret ?_ | refine k_seq_exit ?_ | refine k_blk ?_ | refine k_blk_ret ?_ | refine k_blk_exit ?_ | refine k_lp_ret ?_ | refine k_lp_exit ?_ | refine ki_lp_ret ?_ | refine ki_lp_exit ?_ | refine s_block ?_ | refine sp_skip ?_ | refine sp_ret ?_ | refine sp_exit ?_ | ((with_reducible refine k_blk_out ?_ ?_); (focus decide)) | ((with_reducible refine s_cond_t ?_ ?_); (focus (simp [-List.getD_eq_getElem?_getD, *]; done))) | ((with_reducible refine s_cond_f ?_ ?_); (focus (simp [-List.getD_eq_getElem?_getD, *]; done))))
        (focus ((with_reducible refine s_region2 (q := ?_) (σ' := ?_) TT_ok PT15_ok ?_ ?_ ?_); rotate_left 2; (focus (first | (simp; exact Eq.refl _) | exact Eq.refl _)); (focus ((repeat (((with_reducible refine runL_cons (σ1 := ?_) ?_ ?_); rotate_left; (focus (simp [-List.getD_eq_getElem?_getD, *]; rfl))))); (exact runL_nil)))))
        refine ⟨rfl, fun B4 hI4 hro4 => ?_⟩
        repeat (first | with_reducible first | refine s_seq ?_ | refine k_seq ?_ | refine k_seq_ret ?_ | refine k_seq_exit ?_ | refine k_blk ?_ | refine k_blk_ret ?_ | refine k_blk_exit ?_ | refine k_lp_ret ?_ | refine k_lp_exit ?_ | refine ki_lp_ret ?_ | refine ki_lp_exit ?_ | refine s_block ?_ | refine sp_skip ?_ | refine sp_ret ?_ | refine sp_exit ?_ | ((with_reducible refine k_blk_out ?_ ?_); (focus decide)) | ((with_reducible refine s_cond_t ?_ ?_); (focus (simp [-List.getD_eq_getElem?_getD, *]; done))) | ((with_reducible refine s_cond_f ?_ ?_); (focus (simp [-List.getD_eq_getElem?_getD, *]; done))))
        (focus ((with_reducible refine s_region2 (q := ?_) (σ' := ?_) TT_ok PT15_ok ?_ ?_ ?_); rotate_left 2; (focus (first | (simp; exact Eq.refl _) | exact Eq.refl _)); (focus ((repeat (((with_reducible refine runL_cons (σ1 := ?_) ?_ ?_); rotate_left; (focus (simp [-List.getD_eq_getElem?_getD, *]; rfl))))); (exact runL_nil)))))
        repeat (first | with_reducible first | refine s_seq ?_ | refine k_seq ?_ | refine k_seq_ret ?_ | refine k_seq_exit ?_ | refine k_blk ?_ | refine k_blk_ret ?_ | refine k_blk_exit ?_ | refine k_lp_ret ?_ | refine k_lp_exit ?_ | refine ki_lp_ret ?_ | refine ki_lp_exit ?_ | refine s_block ?_ | refine sp_skip ?_ | refine sp_ret ?_ | refine sp_exit ?_ | ((with_reducible refine k_blk_out ?_ ?_); (focus decide)) | ((with_reducible refine s_cond_t ?_ ?_); (focus (simp [-List.getD_eq_getElem?_getD, *]; done))) | ((with_reducible refine s_cond_f ?_ ?_); (focus (simp [-List.getD_eq_getElem?_getD, *]; done))))
        (focus ((with_reducible refine s_region2 (q := ?_) (σ' := ?_) TT_ok PT15_ok ?_ ?_ ?_); rotate_left 2; (focus (first | (simp; exact Eq.refl _) | exact Eq.refl _)); (focus ((repeat (((with_reducible refine runL_cons (σ1 := ?_) ?_ ?_); rotate_left; (focus (simp [-List.getD_eq_getElem?_getD, *]; rfl))))); (exact runL_nil)))))
        repeat (first | with_reducible first | refine s_seq ?_ | refine k_seq ?_ | refine k_seq_ret ?_ | refine k_seq_exit ?_ | refine k_blk ?_ | refine k_blk_ret ?_ | refine k_blk_exit ?_ | refine k_lp_ret ?_ | refine k_lp_exit ?_ | refine ki_lp_ret ?_ | refine ki_lp_exit ?_ | refine s_block ?_ | refine sp_skip ?_ | refine sp_ret ?_ | refine sp_exit ?_ | ((with_reducible refine k_blk_out ?_ ?_); (focus decide)) | ((with_reducible refine s_cond_t ?_ ?_); (focus (simp [-List.getD_eq_getElem?_getD, *]; done))) | ((with_reducible refine s_cond_f ?_ ?_); (focus (simp [-List.getD_eq_getElem?_getD, *]; done))))
        refine s_nil 14 11 3 1 (by simp [lk]) (by simp) ?_
        simp only [st]
        refine s_loopI hI4 (J := fun i : {j : Nat // j ≤ c.length} => ⟨72, [(9, .ptr 2 0 0), (12, .ptr 6 0 0), (14, .ref 11 0 (restC ts (c.take i.1)).length), (49, aInts c), (50, .v (.int .i64 (c.length : Int))), (51, .v (.int .i64 (i.1 : Int)))], ((11, ⟨3, 1, (restC ts (c.take i.1)).map fun x => [.v (.int .i64 x)]⟩) :: gvE N L ts K) ++ fam 1000 K, [11, 10, 9, 8, 7, 6, 2, 1, 0] ++ List.range' 1000 K.length⟩) (μ := fun i => c.length - i.1) ⟨0, Nat.zero_le _⟩ ?_ (fun ⟨j, hj⟩ => ?_)
        · have hk1 : restC ts [] = [] := rfl
          have hre := ren_refsI (fun k => k) 1000 1000 K K rfl (fun _ _ => rfl) (fun _ _ => rfl)
          unfold gvE
          (refine weakI_fam (fun k => k) ?_ rfl ?_ ?_ ?_ ?_ ?_ ?_ <;> ((try simp only [List.mem_cons, List.not_mem_nil, or_false, forall_eq_or_imp, forall_eq]); (try simp (disch := omega) [-List.getD_eq_getElem?_getD, lk, AV.ids, idsL, idsLL, AV.ren, renL, renLL, i64w, *])))
          · intro a h1 h2; exact .inr ⟨h1, h2⟩
          · exact fun q hq => .inr (ids_refsI _ _ hq)
          · intro j hj
            repeat rw [if_neg (by omega)]
            rw [lk_fam_add hj]; rfl
          · repeat' apply And.intro
            all_goals (intro j hj; omega)
        repeat (first | with_reducible first | refine s_seq ?_ | refine k_seq ?_ | refine k_seq_ret ?_ | refine k_seq_exit ?_ | refine k_blk ?_ | refine k_blk_ret ?_ | refine k_blk_exit ?_ | refine k_lp_ret ?_ | refine k_lp_exit ?_ | refine ki_lp_ret ?_ | refine ki_lp_exit ?_ | refine s_block ?_ | refine sp_skip ?_ | refine sp_ret ?_ | refine sp_exit ?_ | ((with_reducible refine k_blk_out ?_ ?_); (focus decide)) | ((with_reducible refine s_cond_t ?_ ?_); (focus (simp [-List.getD_eq_getElem?_getD, *]; done))) | ((with_reducible refine s_cond_f ?_ ?_); (focus (simp [-List.getD_eq_getElem?_getD, *]; done))))
        (focus ((with_reducible refine s_region2 (q := ?_) (σ' := ?_) TT_ok PT15_ok ?_ ?_ ?_); rotate_left 2; (focus (first | (simp; exact Eq.refl _) | exact Eq.refl _)); (focus ((repeat (((with_reducible refine runL_cons (σ1 := ?_) ?_ ?_); rotate_left; (focus (simp [-List.getD_eq_getElem?_getD, *]; rfl))))); (exact runL_nil)))))
        repeat (first | with_reducible first | refine s_seq ?_ | refine k_seq ?_ | refine k_seq_ret ?_ | refine k_seq_exit ?_ | refine k_blk ?_ | refine k_blk_ret ?_ | refine k_blk_exit ?_ | refine k_lp_ret ?_ | refine k_lp_exit ?_ | refine ki_lp_ret ?_ | refine ki_lp_exit ?_ | refine s_block ?_ | refine sp_skip ?_ | refine sp_ret ?_ | refine sp_exit ?_ | ((with_reducible refine k_blk_out ?_ ?_); (focus decide)) | ((with_reducible refine s_cond_t ?_ ?_); (focus (simp [-List.getD_eq_getElem?_getD, *]; done))) | ((with_reducible refine s_cond_f ?_ ?_); (focus (simp [-List.getD_eq_getElem?_getD, *]; done))))
        (focus ((with_reducible refine sp_cond (b := ?_) ?_ (fun hc => ?_) (fun hc => ?_)); rotate_left; (focus (first | rfl | (simp [lk, AS.ev]; rfl))); all_goals (try simp [-List.getD_eq_getElem?_getD] at hc)))
        · have hjj := hc
          clear hc
          have hrs := restC_succ (ts := ts) hjj
          obtain ⟨r1, r2, r3, r4, r5⟩ := litOk_range (hlit _ (getD_memI hjj))
          have hrl : (restC ts (c.take j)).length ≤ 128 := by have := restC_len ts (c.take j); rw [List.length_take] at this; omega
          have hcap2 : ((restC ts (c.take j)).length + 1) * 8 ≤ 140737488355328 := by omega
          generalize hx : c.getD j 0 = x at hrs r1 r2 r3 r4 r5
          have hw : IntKind.i64.wrap (128 - x) = 128 - x := i64w (by omega) (by omega)
          have hi0 : 0 ≤ 128 - x := by omega
          have hi1 : 128 - x < 257 := by omega
          have hi3 : 128 - x ≤ 256 := by omega
          have hld := is_getD ts ts.length (j := (128 - x).toNat) (by omega)
          rw [List.take_length, show (((128 - x).toNat : Nat) : Int) - 128 = -x by omega] at hld
          have hld1 : (List.drop (128 - x).toNat (isK ts ts.length)).getD 0 .any = .v (.bool (decide (-x ∈ ts))) := by rw [← hld]; simp
          have hg2 : lk (gvE N L ts K) 2 = some ⟨69, 257, [isK ts ts.length]⟩ := rfl
          unfold gvE
          cases hb : decide (-x ∈ ts)
          · rw [if_neg (of_decide_eq_false hb)] at hrs
            rw [hb] at hld hld1
            repeat (first | with_reducible first | refine s_seq ?_ | refine k_seq ?_ | refine k_seq_ret ?_ | refine k_seq_exit ?_ | refine k_blk ?_ | refine k_blk_ret ?_ | refine k_blk_exit ?_ | refine k_lp_ret ?_ | refine k_lp_exit ?_ | refine ki_lp_ret ?_ | refine ki_lp_exit ?_ | refine s_block ?_ | refine sp_skip ?_ | refine sp_ret ?_ | refine sp_exit ?_ | ((with_reducible refine k_blk_out ?_ ?_); (focus decide)) | ((with_reducible refine s_cond_t ?_ ?_); (focus (simp [-List.getD_eq_getElem?_getD, *]; done))) | ((with_reducible refine s_cond_f ?_ ?_); (focus (simp [-List.getD_eq_getElem?_getD, *]; done))))
            (focus ((with_reducible refine s_region2 (q := ?_) (σ' := ?_) TT_ok PT15_ok ?_ ?_ ?_); rotate_left 2; (focus (first | (simp; exact Eq.refl _) | exact Eq.refl _)); (focus ((repeat (((with_reducible refine runL_cons (σ1 := ?_) ?_ ?_); rotate_left; (focus (simp [-List.getD_eq_getElem?_getD, *]; rfl))))); (exact runL_nil)))))
            repeat (first | with_reducible first | refine s_seq ?_ | refine k_seq ?_ | refine k_seq_ret ?_ | refine k_seq_exit ?_ | refine k_blk ?_ | refine k_blk_ret ?_ | refine k_blk_exit ?_ | refine k_lp_ret ?_ | refine k_lp_exit ?_ | refine ki_lp_ret ?_ | refine ki_lp_exit ?_ | refine s_block ?_ | refine sp_skip ?_ | refine sp_ret ?_ | refine sp_exit ?_ | ((with_reducible refine k_blk_out ?_ ?_); (focus decide)) | ((with_reducible refine s_cond_t ?_ ?_); (focus (simp [-List.getD_eq_getElem?_getD, *]; done))) | ((with_reducible refine s_cond_f ?_ ?_); (focus (simp [-List.getD_eq_getElem?_getD, *]; done))))
            (focus ((with_reducible refine s_region2 (q := ?_) (σ' := ?_) TT_ok PT15_ok ?_ ?_ ?_); rotate_left 2; (focus (first | (simp; exact Eq.refl _) | exact Eq.refl _)); (focus ((repeat (((with_reducible refine runL_cons (σ1 := ?_) ?_ ?_); rotate_left; (focus (simp [-List.getD_eq_getElem?_getD, *]; rfl))))); (exact runL_nil)))))
            repeat (first | with_reducible first | refine s_seq ?_ | refine k_seq ?_ | refine k_seq_ret ?_ | refine k_seq_exit ?_ | refine k_blk ?_ | refine k_blk_ret ?_ | refine k_blk_exit ?_ | refine k_lp_ret ?_ | refine k_lp_exit ?_ | refine ki_lp_ret ?_ | refine ki_lp_exit ?_ | refine s_block ?_ | refine sp_skip ?_ | refine sp_ret ?_ | refine sp_exit ?_ | ((with_reducible refine k_blk_out ?_ ?_); (focus decide)) | ((with_reducible refine s_cond_t ?_ ?_); (focus (simp [-List.getD_eq_getElem?_getD, *]; done))) | ((with_reducible refine s_cond_f ?_ ?_); (focus (simp [-List.getD_eq_getElem?_getD, *]; done))))
            refine s_regionL ?_
            ((iterate 2 (((with_reducible refine spl_step TT_ok PT15_ok (id := 0) (σ' := ?_) ?_ ?_); rotate_left; (focus (simp [-List.getD_eq_getElem?_getD, *]; rfl))))))
            (((with_reducible refine spl_step TT_ok PT15_ok (id := 12) (σ' := ?_) ?_ ?_); rotate_left; (focus (simp [-List.getD_eq_getElem?_getD, *]; rfl))))
            (((with_reducible refine spl_step TT_ok PT15_ok (id := 13) (σ' := ?_) ?_ ?_); rotate_left; (focus (simp [-List.getD_eq_getElem?_getD, *]; rfl))))
            ((iterate 1 (((with_reducible refine spl_step TT_ok PT15_ok (id := 0) (σ' := ?_) ?_ ?_); rotate_left; (focus (simp [-List.getD_eq_getElem?_getD, *]; rfl))))))
            refine spl_nil ?_
            repeat (first | with_reducible first | refine s_seq ?_ | refine k_seq ?_ | refine k_seq_ret ?_ | refine k_seq_exit ?_ | refine k_blk ?_ | refine k_blk_ret ?_ | refine k_blk_exit ?_ | refine k_lp_ret ?_ | refine k_lp_exit ?_ | refine ki_lp_ret ?_ | refine ki_lp_exit ?_ | refine s_block ?_ | refine sp_skip ?_ | refine sp_ret ?_ | refine sp_exit ?_ | ((with_reducible refine k_blk_out ?_ ?_); (focus decide)) | ((with_reducible refine s_cond_t ?_ ?_); (focus (simp [-List.getD_eq_getElem?_getD, *]; done))) | ((with_reducible refine s_cond_f ?_ ?_); (focus (simp [-List.getD_eq_getElem?_getD, *]; done))))
            (focus ((with_reducible refine s_region2 (q := ?_) (σ' := ?_) TT_ok PT15_ok ?_ ?_ ?_); rotate_left 2; (focus (first | (simp; exact Eq.refl _) | exact Eq.refl _)); (focus ((repeat (((with_reducible refine runL_cons (σ1 := ?_) ?_ ?_); rotate_left; (focus (simp [-List.getD_eq_getElem?_getD, *]; rfl))))); (exact runL_nil)))))
            repeat (first | with_reducible first | refine s_seq ?_ | refine k_seq ?_ | refine k_seq_ret ?_ | refine k_seq_exit ?_ | refine k_blk ?_ | refine k_blk_ret ?_ | refine k_blk_exit ?_ | refine k_lp_ret ?_ | refine k_lp_exit ?_ | refine ki_lp_ret ?_ | refine ki_lp_exit ?_ | refine s_block ?_ | refine sp_skip ?_ | refine sp_ret ?_ | refine sp_exit ?_ | ((with_reducible refine k_blk_out ?_ ?_); (focus decide)) | ((with_reducible refine s_cond_t ?_ ?_); (focus (simp [-List.getD_eq_getElem?_getD, *]; done))) | ((with_reducible refine s_cond_f ?_ ?_); (focus (simp [-List.getD_eq_getElem?_getD, *]; done))))
            refine ki_lp (⟨j + 1, by omega⟩ : {j : Nat // j ≤ c.length}) (by dsimp only; omega) ?_
            dsimp only
            rw [hrs]
            have hnl : ∀ j : Nat, ¬ (1000 + j < 1000) := fun j => by omega
            have hre := ren_refsI (fun q => if q < 1000 then (if q = 11 then 13 else q) else q) 1000 1000 K K rfl (fun j _ => if_neg (by omega)) (fun _ _ => rfl)
            (refine weakI_fam (fun q => if q < 1000 then (if q = 11 then 13 else q) else q) ?_ rfl ?_ ?_ ?_ ?_ ?_ ?_ <;> ((try simp only [List.mem_cons, List.not_mem_nil, or_false, forall_eq_or_imp, forall_eq]); (try simp (disch := omega) [-List.getD_eq_getElem?_getD, lk, AV.ids, idsL, idsLL, AV.ren, renL, renLL, i64w, *])))
            · intro a h1 h2; exact ⟨fun h => by omega, .inr ⟨h1, h2⟩⟩
            · exact fun q hq => .inr (ids_refsI _ _ hq)
            · intro i hi
              rw [if_neg (hnl i)]
              simp only [lk, lk_st, lk_dl]
              repeat rw [if_neg (by omega)]
              exact lk_fam_add hi
            · repeat' apply And.intro
              all_goals (intro j hj; omega)
          · rw [if_pos (of_decide_eq_true hb)] at hrs
            rw [hb] at hld hld1
            repeat (first | with_reducible first | refine s_seq ?_ | refine k_seq ?_ | refine k_seq_ret ?_ | refine k_seq_exit ?_ | refine k_blk ?_ | refine k_blk_ret ?_ | refine k_blk_exit ?_ | refine k_lp_ret ?_ | refine k_lp_exit ?_ | refine ki_lp_ret ?_ | refine ki_lp_exit ?_ | refine s_block ?_ | refine sp_skip ?_ | refine sp_ret ?_ | refine sp_exit ?_ | ((with_reducible refine k_blk_out ?_ ?_); (focus decide)) | ((with_reducible refine s_cond_t ?_ ?_); (focus (simp [-List.getD_eq_getElem?_getD, *]; done))) | ((with_reducible refine s_cond_f ?_ ?_); (focus (simp [-List.getD_eq_getElem?_getD, *]; done))))
            (focus ((with_reducible refine s_region2 (q := ?_) (σ' := ?_) TT_ok PT15_ok ?_ ?_ ?_); rotate_left 2; (focus (first | (simp; exact Eq.refl _) | exact Eq.refl _)); (focus ((repeat (((with_reducible refine runL_cons (σ1 := ?_) ?_ ?_); rotate_left; (focus (simp [-List.getD_eq_getElem?_getD, *]; rfl))))); (exact runL_nil)))))
            repeat (first | with_reducible first | refine s_seq ?_ | refine k_seq ?_ | refine k_seq_ret ?_ | refine k_seq_exit ?_ | refine k_blk ?_ | refine k_blk_ret ?_ | refine k_blk_exit ?_ | refine k_lp_ret ?_ | refine k_lp_exit ?_ | refine ki_lp_ret ?_ | refine ki_lp_exit ?_ | refine s_block ?_ | refine sp_skip ?_ | refine sp_ret ?_ | refine sp_exit ?_ | ((with_reducible refine k_blk_out ?_ ?_); (focus decide)) | ((with_reducible refine s_cond_t ?_ ?_); (focus (simp [-List.getD_eq_getElem?_getD, *]; done))) | ((with_reducible refine s_cond_f ?_ ?_); (focus (simp [-List.getD_eq_getElem?_getD, *]; done))))
            (focus ((with_reducible refine s_region2 (q := ?_) (σ' := ?_) TT_ok PT15_ok ?_ ?_ ?_); rotate_left 2; (focus (first | (simp; exact Eq.refl _) | exact Eq.refl _)); (focus ((repeat (((with_reducible refine runL_cons (σ1 := ?_) ?_ ?_); rotate_left; (focus (simp [-List.getD_eq_getElem?_getD, *]; rfl))))); (exact runL_nil)))))
            repeat (first | with_reducible first | refine s_seq ?_ | refine k_seq ?_ | refine k_seq_ret ?_ | refine k_seq_exit ?_ | refine k_blk ?_ | refine k_blk_ret ?_ | refine k_blk_exit ?_ | refine k_lp_ret ?_ | refine k_lp_exit ?_ | refine ki_lp_ret ?_ | refine ki_lp_exit ?_ | refine s_block ?_ | refine sp_skip ?_ | refine sp_ret ?_ | refine sp_exit ?_ | ((with_reducible refine k_blk_out ?_ ?_); (focus decide)) | ((with_reducible refine s_cond_t ?_ ?_); (focus (simp [-List.getD_eq_getElem?_getD, *]; done))) | ((with_reducible refine s_cond_f ?_ ?_); (focus (simp [-List.getD_eq_getElem?_getD, *]; done))))
            (focus ((with_reducible refine s_region2 (q := ?_) (σ' := ?_) TT_ok PT15_ok ?_ ?_ ?_); rotate_left 2; (focus (first | (simp; exact Eq.refl _) | exact Eq.refl _)); (focus ((repeat (((with_reducible refine runL_cons (σ1 := ?_) ?_ ?_); rotate_left; (focus (simp [-List.getD_eq_getElem?_getD, *]; rfl))))); (exact runL_nil)))))
            repeat (first | with_reducible first | refine s_seq ?_ | refine k_seq ?_ | refine k_seq_ret ?_ | refine k_seq_exit ?_ | refine k_blk ?_ | refine k_blk_ret ?_ | refine k_blk_exit ?_ | refine k_lp_ret ?_ | refine k_lp_exit ?_ | refine ki_lp_ret ?_ | refine ki_lp_exit ?_ | refine s_block ?_ | refine sp_skip ?_ | refine sp_ret ?_ | refine sp_exit ?_ | ((with_reducible refine k_blk_out ?_ ?_); (focus decide)) | ((with_reducible refine s_cond_t ?_ ?_); (focus (simp [-List.getD_eq_getElem?_getD, *]; done))) | ((with_reducible refine s_cond_f ?_ ?_); (focus (simp [-List.getD_eq_getElem?_getD, *]; done))))
            refine ki_lp (⟨j + 1, by omega⟩ : {j : Nat // j ≤ c.length}) (by dsimp only; omega) ?_
            dsimp only
            rw [hrs]
            have hre := ren_refsI (fun k => k) 1000 1000 K K rfl (fun _ _ => rfl) (fun _ _ => rfl)
            (refine weakI_fam (fun k => k) ?_ rfl ?_ ?_ ?_ ?_ ?_ ?_ <;> ((try simp only [List.mem_cons, List.not_mem_nil, or_false, forall_eq_or_imp, forall_eq]); (try simp (disch := omega) [-List.getD_eq_getElem?_getD, lk, AV.ids, idsL, idsLL, AV.ren, renL, renLL, i64w, *])))
            · intro a h1 h2; exact .inr ⟨h1, h2⟩
            · exact fun q hq => .inr (ids_refsI _ _ hq)
            · intro j hj
              repeat rw [if_neg (by omega)]
              rw [lk_fam_add hj]; rfl
            · repeat' apply And.intro
              all_goals (intro j hj; omega)
        · obtain rfl : j = c.length := by omega
          have hfull : restC ts (c.take c.length) = restC ts c := by rw [List.take_length]
          have hril := refsI_len 1000 K
          unfold gvE
          repeat (first | with_reducible first | refine s_seq ?_ | refine k_seq ?_ | refine k_seq_ret ?_ | refine k_seq_exit ?_ | refine k_blk ?_ | refine k_blk_ret ?_ | refine k_blk_exit ?_ | refine k_lp_ret ?_ | refine k_lp_exit ?_ | refine ki_lp_ret ?_ | refine ki_lp_exit ?_ | refine s_block ?_ | refine sp_skip ?_ | refine sp_ret ?_ | refine sp_exit ?_ | ((with_reducible refine k_blk_out ?_ ?_); (focus decide)) | ((with_reducible refine s_cond_t ?_ ?_); (focus (simp [-List.getD_eq_getElem?_getD, *]; done))) | ((with_reducible refine s_cond_f ?_ ?_); (focus (simp [-List.getD_eq_getElem?_getD, *]; done))))
          refine s_regionL ?_
          ((iterate 3 (((with_reducible refine spl_step TT_ok PT15_ok (id := 0) (σ' := ?_) ?_ ?_); rotate_left; (focus (simp [-List.getD_eq_getElem?_getD, *]; rfl))))))
          (((with_reducible refine spl_step TT_ok PT15_ok (id := 12) (σ' := ?_) ?_ ?_); rotate_left; (focus (simp [-List.getD_eq_getElem?_getD, *]; rfl))))
          (((with_reducible refine spl_step TT_ok PT15_ok (id := 13) (σ' := ?_) ?_ ?_); rotate_left; (focus (simp [-List.getD_eq_getElem?_getD, *]; rfl))))
          ((iterate 2 (((with_reducible refine spl_step TT_ok PT15_ok (id := 0) (σ' := ?_) ?_ ?_); rotate_left; (focus (simp [-List.getD_eq_getElem?_getD, *]; rfl))))))
          refine spl_nil ?_
          repeat (first | with_reducible first | refine s_seq ?_ | refine k_seq ?_ | refine k_seq_ret ?_ | refine k_seq_exit ?_ | refine k_blk ?_ | refine k_blk_ret ?_ | refine k_blk_exit ?_ | refine k_lp_ret ?_ | refine k_lp_exit ?_ | refine ki_lp_ret ?_ | refine ki_lp_exit ?_ | refine s_block ?_ | refine sp_skip ?_ | refine sp_ret ?_ | refine sp_exit ?_ | ((with_reducible refine k_blk_out ?_ ?_); (focus decide)) | ((with_reducible refine s_cond_t ?_ ?_); (focus (simp [-List.getD_eq_getElem?_getD, *]; done))) | ((with_reducible refine s_cond_f ?_ ?_); (focus (simp [-List.getD_eq_getElem?_getD, *]; done))))
          refine ⟨rfl, ?_⟩
          ((iterate 1 (((with_reducible refine spl_step TT_ok PT15_ok (id := 0) (σ' := ?_) ?_ ?_); rotate_left; (focus (simp [-List.getD_eq_getElem?_getD, *]; rfl))))))
          refine spl_nil ?_
          repeat (first | with_reducible first | refine s_seq ?_ | refine k_seq ?_ | refine k_seq_ret ?_ | refine k_seq_exit ?_ | refine k_blk ?_ | refine k_blk_ret ?_ | refine k_blk_exit ?_ | refine k_lp_ret ?_ | refine k_lp_exit ?_ | refine ki_lp_ret ?_ | refine ki_lp_exit ?_ | refine s_block ?_ | refine sp_skip ?_ | refine sp_ret ?_ | refine sp_exit ?_ | ((with_reducible refine k_blk_out ?_ ?_); (focus decide)) | ((with_reducible refine s_cond_t ?_ ?_); (focus (simp [-List.getD_eq_getElem?_getD, *]; done))) | ((with_reducible refine s_cond_f ?_ ?_); (focus (simp [-List.getD_eq_getElem?_getD, *]; done))))
          (focus ((with_reducible refine s_region2 (q := ?_) (σ' := ?_) TT_ok PT15_ok ?_ ?_ ?_); rotate_left 2; (focus (first | (simp; exact Eq.refl _) | exact Eq.refl _)); (focus ((repeat (((with_reducible refine runL_cons (σ1 := ?_) ?_ ?_); rotate_left; (focus (simp [-List.getD_eq_getElem?_getD, *]; rfl))))); (exact runL_nil)))))
          repeat (first | with_reducible first | refine s_seq ?_ | refine k_seq ?_ | refine k_seq_ret ?_ | refine k_seq_exit ?_ | refine k_blk ?_ | refine k_blk_ret ?_ | refine k_blk_exit ?_ | refine k_lp_ret ?_ | refine k_lp_exit ?_ | refine ki_lp_ret ?_ | refine ki_lp_exit ?_ | refine s_block ?_ | refine sp_skip ?_ | refine sp_ret ?_ | refine sp_exit ?_ | ((with_reducible refine k_blk_out ?_ ?_); (focus decide)) | ((with_reducible refine s_cond_t ?_ ?_); (focus (simp [-List.getD_eq_getElem?_getD, *]; done))) | ((with_reducible refine s_cond_f ?_ ?_); (focus (simp [-List.getD_eq_getElem?_getD, *]; done))))
          refine ki_lp (⟨k + 1, by omega⟩ : {k : Nat // k ≤ L.length}) (by dsimp only; omega) ?_
          dsimp only
          rw [hks]
          have hnl : ∀ j : Nat, ¬ (1000 + j < 1000) := fun j => by omega
          have hsn := refsI_snoc 1000 K (restC ts c)
          have hre := ren_refsI (fun q => if q < 1000 then (if q = 10 then 13 else q) else if q = 1000 + K.length then 11 else q) 1000 1000 K K rfl (fun j hj => by rw [if_neg (by omega), if_neg (by omega)]) (fun _ _ => rfl)
          (refine weakI_fam (fun q => if q < 1000 then (if q = 10 then 13 else q) else if q = 1000 + K.length then 11 else q) ?_ rfl ?_ ?_ ?_ ?_ ?_ ?_ <;> ((try simp only [List.mem_cons, List.not_mem_nil, or_false, forall_eq_or_imp, forall_eq]); (try simp (disch := omega) [-List.getD_eq_getElem?_getD, lk, AV.ids, idsL, idsLL, AV.ren, renL, renLL, i64w, *])))
          · intro q hq
            rcases hq with hq | rfl
            · have := ids_refsI _ _ hq
              exact .inr ⟨by omega, by omega⟩
            · exact .inr ⟨by omega, by omega⟩
          · intro i hi
            rw [List.length_append, List.length_singleton] at hi
            rw [if_neg (hnl i)]
            by_cases e : i = K.length
            · subst e
              rw [if_pos rfl]
              simp [lk, List.getD, obI]
            · rw [if_neg (by omega)]
              simp only [lk, lk_st, lk_dl]
              repeat rw [if_neg (by omega)]
              rw [lk_fam_add (by omega)]
              simp [List.getD, List.getElem?_append_left (show i < K.length by omega)]
          · intro j hj i hi e
            split at e <;> split at e <;> omega
          · repeat' apply And.intro
            all_goals (intro j hj; split <;> omega)
      · have ho : ¬ openC ts c = true := by unfold openC; rw [hq]; simp
        rw [if_neg ho] at hks
        repeat (first | with_reducible first | refine s_seq ?_ | refine k_seq ?_ | refine k_seq_ret ?_ | refine k_seq_exit ?_ | refine k_blk ?_ | refine k_blk_ret ?_ | refine k_blk_exit ?_ | refine k_lp_ret ?_ | refine k_lp_exit ?_ | refine ki_lp_ret ?_ | refine ki_lp_exit ?_ | refine s_block ?_ | refine sp_skip ?_ | refine sp_ret ?_ | refine sp_exit ?_ | ((with_reducible refine k_blk_out ?_ ?_); (focus decide)) | ((with_reducible refine s_cond_t ?_ ?_); (focus (simp [-List.getD_eq_getElem?_getD, *]; done))) | ((with_reducible refine s_cond_f ?_ ?_); (focus (simp [-List.getD_eq_getElem?_getD, *]; done))))
        (focus ((with_reducible refine s_region2 (q := ?_) (σ' := ?_) TT_ok PT15_ok ?_ ?_ ?_); rotate_left 2; (focus (first | (simp; exact Eq.refl _) | exact Eq.refl _)); (focus ((repeat (((with_reducible refine runL_cons (σ1 := ?_) ?_ ?_); rotate_left; (focus (simp [-List.getD_eq_getElem?_getD, *]; rfl))))); (exact runL_nil)))))
        repeat (first | with_reducible first | refine s_seq ?_ | refine k_seq ?_ | refine k_seq_ret ?_ | refine k_seq_exit ?_ | refine k_blk ?_ | refine k_blk_ret ?_ | refine k_blk_exit ?_ | refine k_lp_ret ?_ | refine k_lp_exit ?_ | refine ki_lp_ret ?_ | refine ki_lp_exit ?_ | refine s_block ?_ | refine sp_skip ?_ | refine sp_ret ?_ | refine sp_exit ?_ | ((with_reducible refine k_blk_out ?_ ?_); (focus decide)) | ((with_reducible refine s_cond_t ?_ ?_); (focus (simp [-List.getD_eq_getElem?_getD, *]; done))) | ((with_reducible refine s_cond_f ?_ ?_); (focus (simp [-List.getD_eq_getElem?_getD, *]; done))))
        refine ki_lp (⟨k + 1, by omega⟩ : {k : Nat // k ≤ L.length}) (by dsimp only; omega) ?_
        dsimp only
        rw [hks]
        have hre := ren_refsI (fun k => k) 1000 1000 K K rfl (fun _ _ => rfl) (fun _ _ => rfl)
        unfold gvE
        (refine weakI_fam (fun k => k) ?_ rfl ?_ ?_ ?_ ?_ ?_ ?_ <;> ((try simp only [List.mem_cons, List.not_mem_nil, or_false, forall_eq_or_imp, forall_eq]); (try simp (disch := omega) [-List.getD_eq_getElem?_getD, lk, AV.ids, idsL, idsLL, AV.ren, renL, renLL, i64w, *])))
        · exact fun q hq => .inr (ids_refsI _ _ hq)
        · intro j hj
          repeat rw [if_neg (by omega)]
          rw [lk_fam_add hj]; rfl
        · repeat' apply And.intro
          all_goals (intro j hj; omega)
    · obtain rfl : k = L.length := by omega
      have hfin : givenK ts L L.length = givenT ts L := by unfold givenK givenT; rw [List.take_length]
      rw [hfin]
      unfold gvE
      repeat (first | with_reducible first | refine s_seq ?_ | refine k_seq ?_ | refine k_seq_ret ?_ | refine k_seq_exit ?_ | refine k_blk ?_ | refine k_blk_ret ?_ | refine k_blk_exit ?_ | refine k_lp_ret ?_ | refine k_lp_exit ?_ | refine ki_lp_ret ?_ | refine ki_lp_exit ?_ | refine s_block ?_ | refine sp_skip ?_ | refine sp_ret ?_ | refine sp_exit ?_ | ((with_reducible refine k_blk_out ?_ ?_); (focus decide)) | ((with_reducible refine s_cond_t ?_ ?_); (focus (simp [-List.getD_eq_getElem?_getD, *]; done))) | ((with_reducible refine s_cond_f ?_ ?_); (focus (simp [-List.getD_eq_getElem?_getD, *]; done))))
      refine ⟨.inl rfl, .tup [], rfl, ?_⟩
      repeat (first | with_reducible first | refine s_seq ?_ | refine k_seq ?_ | refine k_seq_ret ?_ | refine k_seq_exit ?_ | refine k_blk ?_ | refine k_blk_ret ?_ | refine k_blk_exit ?_ | refine k_lp_ret ?_ | refine k_lp_exit ?_ | refine ki_lp_ret ?_ | refine ki_lp_exit ?_ | refine s_block ?_ | refine sp_skip ?_ | refine sp_ret ?_ | refine sp_exit ?_ | ((with_reducible refine k_blk_out ?_ ?_); (focus decide)) | ((with_reducible refine s_cond_t ?_ ?_); (focus (simp [-List.getD_eq_getElem?_getD, *]; done))) | ((with_reducible refine s_cond_f ?_ ?_); (focus (simp [-List.getD_eq_getElem?_getD, *]; done))))
      (focus ((with_reducible refine s_region2 (q := ?_) (σ' := ?_) TT_ok PT15_ok ?_ ?_ ?_); rotate_left 2; (focus (first | (simp; exact Eq.refl _) | exact Eq.refl _)); (focus ((repeat (((with_reducible refine runL_cons (σ1 := ?_) ?_ ?_); rotate_left; (focus (simp [-List.getD_eq_getElem?_getD, *]; rfl))))); (exact runL_nil)))))
      repeat (first | with_reducible first | refine s_seq ?_ | refine k_seq ?_ | refine k_seq_ret ?_ | refine k_seq_exit ?_ | refine k_blk ?_ | refine k_blk_ret ?_ | refine k_blk_exit ?_ | refine k_lp_ret ?_ | refine k_lp_exit ?_ | refine ki_lp_ret ?_ | refine ki_lp_exit ?_ | refine s_block ?_ | refine sp_skip ?_ | refine sp_ret ?_ | refine sp_exit ?_ | ((with_reducible refine k_blk_out ?_ ?_); (focus decide)) | ((with_reducible refine s_cond_t ?_ ?_); (focus (simp [-List.getD_eq_getElem?_getD, *]; done))) | ((with_reducible refine s_cond_f ?_ ?_); (focus (simp [-List.getD_eq_getElem?_getD, *]; done))))
      refine post_T (o := 10) (b := 1000) (.inr rfl) (by rw [Try.results26]) ?_ rfl (fun j hj => ?_) (by omega)
      · simp [retA, retL, ret1, lk, ldA, AV.cell]
      · simp only [lk]
        repeat rw [if_neg (by omega)]
        exact lk_fam_add hj
end Go.Proofs.Ytkollnaojpppcaa
