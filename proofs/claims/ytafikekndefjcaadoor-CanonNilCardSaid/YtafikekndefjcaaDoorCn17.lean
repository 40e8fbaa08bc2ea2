/- Contract of CanonNil, by the abstract machine; no condition. -/
import Derived.Test.YtafikekndefjcaaDoorWk17
namespace Go.Proofs.YtafikekndefjcaaDoor
set_option linter.unusedVariables false
set_option linter.unusedSimpArgs false
set_option linter.unusedSectionVars false
open Go.RowKit
attribute [local simp] List.getD_cons_zero List.getD_cons_succ List.getD_nil undef gvars runL runE effA stepA dstOk wantA core lk st dl AS.ev AS.evs AS.put AS.upd updO updI nxt cPick cAlloc cBox cBuild cBuildS cLoad cStore cNil plainOf cBin cNilS isNilS nilA cUn cConvX cConvB cConv bytesOf rowB cMake cSlice slA idxA cFA cF cIA cIX cIS cI cExt cLen cApp cMM cFun cCall lenA lenM isNilM nilM cNilM cMakeM hintB cMapK cLook foundR lookR cUpd putM cDel delM findA isKeyB Instr.sameNow AS.entry AS.bound AS.callee sc1 sc2 ixOk ldA AV.flat AV.cell AV.cells Value.oneCell' fillA spl chunk zeros AS.parts AS.rows AS.shut AS.shut1 AS.shut2 AS.shutL AS.shutM AV.ids idsL idsLL eqAll bndA AV.scalar AV.scalar1 AV.isV Ef.app Ef.pk ptOf pntO wrO wr
attribute [-simp] List.getD_eq_getElem?_getD
set_option maxRecDepth 100000
theorem weak_drop {σ : AS} {N : Nat} {l : List (Nat × AV)} (hn : σ.n = N) (hs : ∀ p ∈ l, lk σ.slots p.1 = some p.2) (hi : ∀ p ∈ l, p.2.ids = []) : Weak σ ⟨N, l, [], []⟩ :=
  weak_id hn.symm (fun p hp => ⟨hs p hp, fun k hk => by rw [hi p hp] at hk; cases hk⟩) (fun p hp => by cases hp)
/-- A part of the text that is run by the kernel; what is kept of its state. -/
theorem s_run {P : Program} {TT : TTab} {PT : PTab} {T : FuncId → Bool} {B : Base} {c d : Code} {σ : AS} {Q : Exit → AS → Prop} (hP : P.follows .mixedOrders = true) (hTT : TTok P TT) (hPT : PTok P PT) (n N : Nat) (l : List (Nat × AV)) (hi : ∀ p ∈ l, p.2.ids = [])
    (h : (runI P TT PT T n false none c σ).map (fun r => (r.1, r.2.n, l.map fun p => lk r.2.slots p.1)) = some (.normal, N, l.map fun p => some p.2)) (hI : B.I0 = []) (hro : B.ro = none) (k : SP P B d ⟨N, l, [], []⟩ Q) : SP P B (.seq c d) σ Q := by
  cases hr : runI P TT PT T n false none c σ with
  | none => rw [hr] at h; cases h
  | some r =>
    rw [hr] at h
    obtain ⟨e, τ⟩ := r
    simp only [Option.map_some, Option.some.injEq, Prod.mk.injEq] at h
    obtain ⟨rfl, h2, h3⟩ := h
    refine sp_seq (sp_mono (runI_ok hP hTT hPT n false none c σ _ hr B (fun _ => hro) (fun e he => by cases he)) fun e' τ' h => ?_)
    obtain ⟨rfl, rfl⟩ := h
    refine s_weak _ (weak_drop h2 (fun p hp => ?_) hi) k hI
    have := List.map_inj_left.1 h3 p hp
    exact this
/-- The same, with objects that are kept under their names. -/
theorem s_runO {P : Program} {TT : TTab} {PT : PTab} {T : FuncId → Bool} {B : Base} {c d : Code} {σ : AS} {Q : Exit → AS → Prop} (hP : P.follows .mixedOrders = true) (hTT : TTok P TT) (hPT : PTok P PT) (n N : Nat) (l : List (Nat × AV)) (O : List (Nat × AObj)) (I : List Nat)
    (hi : (l.all fun p => p.2.ids.all fun k => I.contains k) = true) (ho : (O.all fun p => I.contains p.1 && (idsLL p.2.xs).all fun k => I.contains k) = true)
    (h : (runI P TT PT T n false none c σ).map (fun r => (r.1, r.2.n, (l.map fun p => lk r.2.slots p.1), O.map fun p => lk r.2.objs p.1)) = some (.normal, N, (l.map fun p => some p.2), O.map fun p => some p.2)) (hI : B.I0 = []) (hro : B.ro = none) (k : SP P B d ⟨N, l, O, I⟩ Q) : SP P B c σ (Kseq P B d Q) := by
  cases hr : runI P TT PT T n false none c σ with
  | none => rw [hr] at h; cases h
  | some r =>
    rw [hr] at h
    obtain ⟨e, τ⟩ := r
    simp only [Option.map_some, Option.some.injEq, Prod.mk.injEq] at h
    obtain ⟨rfl, h2, h3, h4⟩ := h
    refine sp_mono (runI_ok hP hTT hPT n false none c σ _ hr B (fun _ => hro) (fun e he => by cases he)) fun e' τ' h => ?_
    obtain ⟨rfl, rfl⟩ := h
    refine k_seq (s_weak _ (weak_id h2.symm (fun p hp => ⟨List.map_inj_left.1 h3 p hp, fun k hk => ?_⟩) (fun p hp => ⟨List.map_inj_left.1 h4 p hp, ?_, fun k hk => ?_⟩)) k hI)
    · have := List.all_eq_true.1 (List.all_eq_true.1 hi p hp) k hk
      simpa using this
    · have := List.all_eq_true.1 ho p hp
      simp only [Bool.and_eq_true] at this
      simpa using this.1
    · have := List.all_eq_true.1 ho p hp
      simp only [Bool.and_eq_true] at this
      have := List.all_eq_true.1 this.2 k hk
      simpa using this
/-- The table of the law. -/
def PTw : PTab := fun f args => if f = 13 then (match args with
  | [] => some (.v (.bool true), false)
  | _ => none) else none
theorem PTw_ok : PTok Tryd.prog PTw := fun f args r fr h => by
  unfold PTw at h
  split at h
  · rename_i hf
    subst hf
    split at h
    · cases h
      exact ⟨by kernel_rfl, works_p, fun h => by cases h⟩
    · cases h
  · cases h
@[simp] theorem PTw_works : PTw 13 [] = some (.v (.bool true), false) := rfl
@[simp] theorem PTw_new (l : List AV) : PTw 25 l = none := rfl
@[simp] theorem PTw_len (l : List AV) : PTw 31 l = none := rfl
theorem canonNil_p (m : Int) : FnPure Tryd.prog 10 [.any, .any, .v (.int .i64 m)] (.v (.bool true)) := by
  refine fn_sp TT_ok Tryd.func10 (c := _) rfl (by simp [Tryd.ntmps10]) (fun B hI0 hro => ?_)
  rw [Tryd.ntmps10]
  simp only [enumA]
  refine s_run (T := Tc) prog_mixedC TT_ok PTc_ok 3000 80 [(0, .any), (1, .any), (2, .v (.int .i64 m)), (6, .v (.bool false))] (by simp [AV.ids]) (by kernel_rfl) hI0 hro ?_
  refine s_run (T := Tc) prog_mixedC TT_ok PTc_ok 3000 80 [(0, .any), (1, .any), (2, .v (.int .i64 m)), (6, .v (.bool false)), (7, .v (.pointer none))] (by simp [AV.ids]) (by kernel_rfl) hI0 hro ?_
  refine s_run (T := Tc) prog_mixedC TT_ok PTc_ok 3000 80 [(2, .v (.int .i64 m)), (6, .v (.bool false))] (by simp [AV.ids]) (by kernel_rfl) hI0 hro ?_
  by_cases h0 : m < 0
  · refine s_seq ?_
    refine s_regionL ?_
    ((iterate 1 (((with_reducible refine spl_step TT_ok PTw_ok (id := 0) (σ' := ?_) ?_ ?_); rotate_left; (focus (simp [*]; rfl))))))
    refine spl_call TT_ok rfl rfl rfl (by kernel_rfl) Tryd.func25 rfl (avs := [.v (.int .i64 m)]) (cs := []) rfl rfl (by simp [Tryd.ntmps25]) fun B' hI' hro' => ?_
    rw [Tryd.ntmps25, Tryd.results25]
    simp only [enumA, List.append_nil]
    repeat (first | with_reducible first | refine s_seq ?_ | refine k_seq ?_ | refine k_seq_ret ?_ | refine k_seq_exit ?_ | refine k_blk ?_ | refine k_blk_ret ?_ | refine k_blk_exit ?_ | refine k_lp_ret ?_ | refine k_lp_exit ?_ | refine ki_lp_ret ?_ | refine ki_lp_exit ?_ | refine s_block ?_ | refine sp_skip ?_ | refine sp_ret ?_ | refine sp_exit ?_ | ((with_reducible refine k_blk_out ?_ ?_); (focus decide)) | ((with_reducible refine s_cond_t ?_ ?_); (focus (simp [*]; done))) | ((with_reducible refine s_cond_f ?_ ?_); (focus (simp [*]; done))) | (focus ((with_reducible refine s_region2 (q := ?_) (σ' := ?_) TT_ok PTw_ok ?_ ?_ ?_); rotate_left 2; (focus (first | (simp; exact Eq.refl _) | exact Eq.refl _)); (focus ((repeat (((with_reducible refine runL_cons (σ1 := ?_) ?_ ?_); rotate_left; (focus (simp [*]; rfl))))); (exact runL_nil))))) | (focus ((with_reducible refine s_draw2 (q := ?_) (es := ?_) (σ' := ?_) prog_mixed TT_ok PTw_ok ?_ ?_ ?_ ?_); rotate_left 3; (focus (first | (simp; exact Eq.refl _) | exact Eq.refl _)); (focus ((repeat (((with_reducible refine runE_cons (e := ?_) (σ1 := ?_) (es := ?_) ?_ ?_ ?_); rotate_left 3; (focus (simp [*]; exact Eq.refl _)); (focus (simp; exact Eq.refl _))))); (exact runE_nil))); (focus (first | kernel_rfl | decide)))))
    refine ⟨.inr rfl, .tup [.v (.pointer none), .v (.int .i64 1)], ?_, ?_⟩
    · simp [retA, retL, ret1, lk]
    ((iterate 5 (((with_reducible refine spl_step TT_ok PTw_ok (id := 0) (σ' := ?_) ?_ ?_); rotate_left; (focus (simp [*]; rfl))))))
    refine spl_nil ?_
    refine k_seq ?_
    repeat (first | with_reducible first | refine s_seq ?_ | refine k_seq ?_ | refine k_seq_ret ?_ | refine k_seq_exit ?_ | refine k_blk ?_ | refine k_blk_ret ?_ | refine k_blk_exit ?_ | refine k_lp_ret ?_ | refine k_lp_exit ?_ | refine ki_lp_ret ?_ | refine ki_lp_exit ?_ | refine s_block ?_ | refine sp_skip ?_ | refine sp_ret ?_ | refine sp_exit ?_ | ((with_reducible refine k_blk_out ?_ ?_); (focus decide)) | ((with_reducible refine s_cond_t ?_ ?_); (focus (simp [*]; done))) | ((with_reducible refine s_cond_f ?_ ?_); (focus (simp [*]; done))) | (focus ((with_reducible refine s_region2 (q := ?_) (σ' := ?_) TT_ok PTw_ok ?_ ?_ ?_); rotate_left 2; (focus (first | (simp; exact Eq.refl _) | exact Eq.refl _)); (focus ((repeat (((with_reducible refine runL_cons (σ1 := ?_) ?_ ?_); rotate_left; (focus (simp [*]; rfl))))); (exact runL_nil))))) | (focus ((with_reducible refine s_draw2 (q := ?_) (es := ?_) (σ' := ?_) prog_mixed TT_ok PTw_ok ?_ ?_ ?_ ?_); rotate_left 3; (focus (first | (simp; exact Eq.refl _) | exact Eq.refl _)); (focus ((repeat (((with_reducible refine runE_cons (e := ?_) (σ1 := ?_) (es := ?_) ?_ ?_ ?_); rotate_left 3; (focus (simp [*]; exact Eq.refl _)); (focus (simp; exact Eq.refl _))))); (exact runE_nil))); (focus (first | kernel_rfl | decide)))))
    ((refine post_ret (av := ?_) (by first | exact .inl rfl | exact .inr rfl) (show (Tryd.f10).results.toList = _ from by rw [Tryd.results10]) ?_ ?_); rotate_left; (focus (simp [retA, retL, ret1, lk, st, ldA, AV.cell]; rfl)); (try simp [*]))
  · by_cases h1 : 1073741824 < m
    · refine s_seq ?_
      refine s_regionL ?_
      ((iterate 1 (((with_reducible refine spl_step TT_ok PTw_ok (id := 0) (σ' := ?_) ?_ ?_); rotate_left; (focus (simp [*]; rfl))))))
      refine spl_call TT_ok rfl rfl rfl (by kernel_rfl) Tryd.func25 rfl (avs := [.v (.int .i64 m)]) (cs := []) rfl rfl (by simp [Tryd.ntmps25]) fun B' hI' hro' => ?_
      rw [Tryd.ntmps25, Tryd.results25]
      simp only [enumA, List.append_nil]
      repeat (first | with_reducible first | refine s_seq ?_ | refine k_seq ?_ | refine k_seq_ret ?_ | refine k_seq_exit ?_ | refine k_blk ?_ | refine k_blk_ret ?_ | refine k_blk_exit ?_ | refine k_lp_ret ?_ | refine k_lp_exit ?_ | refine ki_lp_ret ?_ | refine ki_lp_exit ?_ | refine s_block ?_ | refine sp_skip ?_ | refine sp_ret ?_ | refine sp_exit ?_ | ((with_reducible refine k_blk_out ?_ ?_); (focus decide)) | ((with_reducible refine s_cond_t ?_ ?_); (focus (simp [*]; done))) | ((with_reducible refine s_cond_f ?_ ?_); (focus (simp [*]; done))) | (focus ((with_reducible refine s_region2 (q := ?_) (σ' := ?_) TT_ok PTw_ok ?_ ?_ ?_); rotate_left 2; (focus (first | (simp; exact Eq.refl _) | exact Eq.refl _)); (focus ((repeat (((with_reducible refine runL_cons (σ1 := ?_) ?_ ?_); rotate_left; (focus (simp [*]; rfl))))); (exact runL_nil))))) | (focus ((with_reducible refine s_draw2 (q := ?_) (es := ?_) (σ' := ?_) prog_mixed TT_ok PTw_ok ?_ ?_ ?_ ?_); rotate_left 3; (focus (first | (simp; exact Eq.refl _) | exact Eq.refl _)); (focus ((repeat (((with_reducible refine runE_cons (e := ?_) (σ1 := ?_) (es := ?_) ?_ ?_ ?_); rotate_left 3; (focus (simp [*]; exact Eq.refl _)); (focus (simp; exact Eq.refl _))))); (exact runE_nil))); (focus (first | kernel_rfl | decide)))))
      refine ⟨.inr rfl, .tup [.v (.pointer none), .v (.int .i64 1)], ?_, ?_⟩
      · simp [retA, retL, ret1, lk]
      ((iterate 5 (((with_reducible refine spl_step TT_ok PTw_ok (id := 0) (σ' := ?_) ?_ ?_); rotate_left; (focus (simp [*]; rfl))))))
      refine spl_nil ?_
      refine k_seq ?_
      repeat (first | with_reducible first | refine s_seq ?_ | refine k_seq ?_ | refine k_seq_ret ?_ | refine k_seq_exit ?_ | refine k_blk ?_ | refine k_blk_ret ?_ | refine k_blk_exit ?_ | refine k_lp_ret ?_ | refine k_lp_exit ?_ | refine ki_lp_ret ?_ | refine ki_lp_exit ?_ | refine s_block ?_ | refine sp_skip ?_ | refine sp_ret ?_ | refine sp_exit ?_ | ((with_reducible refine k_blk_out ?_ ?_); (focus decide)) | ((with_reducible refine s_cond_t ?_ ?_); (focus (simp [*]; done))) | ((with_reducible refine s_cond_f ?_ ?_); (focus (simp [*]; done))) | (focus ((with_reducible refine s_region2 (q := ?_) (σ' := ?_) TT_ok PTw_ok ?_ ?_ ?_); rotate_left 2; (focus (first | (simp; exact Eq.refl _) | exact Eq.refl _)); (focus ((repeat (((with_reducible refine runL_cons (σ1 := ?_) ?_ ?_); rotate_left; (focus (simp [*]; rfl))))); (exact runL_nil))))) | (focus ((with_reducible refine s_draw2 (q := ?_) (es := ?_) (σ' := ?_) prog_mixed TT_ok PTw_ok ?_ ?_ ?_ ?_); rotate_left 3; (focus (first | (simp; exact Eq.refl _) | exact Eq.refl _)); (focus ((repeat (((with_reducible refine runE_cons (e := ?_) (σ1 := ?_) (es := ?_) ?_ ?_ ?_); rotate_left 3; (focus (simp [*]; exact Eq.refl _)); (focus (simp; exact Eq.refl _))))); (exact runE_nil))); (focus (first | kernel_rfl | decide)))))
      ((refine post_ret (av := ?_) (by first | exact .inl rfl | exact .inr rfl) (show (Tryd.f10).results.toList = _ from by rw [Tryd.results10]) ?_ ?_); rotate_left; (focus (simp [retA, retL, ret1, lk, st, ldA, AV.cell]; rfl)); (try simp [*]))
    · refine s_seq ?_
      refine s_regionL ?_
      ((iterate 1 (((with_reducible refine spl_step TT_ok PTw_ok (id := 0) (σ' := ?_) ?_ ?_); rotate_left; (focus (simp [*]; rfl))))))
      refine spl_call TT_ok rfl rfl rfl (by kernel_rfl) Tryd.func25 rfl (avs := [.v (.int .i64 m)]) (cs := []) rfl rfl (by simp [Tryd.ntmps25]) fun B' hI' hro' => ?_
      rw [Tryd.ntmps25, Tryd.results25]
      simp only [enumA, List.append_nil]
      repeat (first | with_reducible first | refine s_seq ?_ | refine k_seq ?_ | refine k_seq_ret ?_ | refine k_seq_exit ?_ | refine k_blk ?_ | refine k_blk_ret ?_ | refine k_blk_exit ?_ | refine k_lp_ret ?_ | refine k_lp_exit ?_ | refine ki_lp_ret ?_ | refine ki_lp_exit ?_ | refine s_block ?_ | refine sp_skip ?_ | refine sp_ret ?_ | refine sp_exit ?_ | ((with_reducible refine k_blk_out ?_ ?_); (focus decide)) | ((with_reducible refine s_cond_t ?_ ?_); (focus (simp [*]; done))) | ((with_reducible refine s_cond_f ?_ ?_); (focus (simp [*]; done))) | (focus ((with_reducible refine s_region2 (q := ?_) (σ' := ?_) TT_ok PTw_ok ?_ ?_ ?_); rotate_left 2; (focus (first | (simp; exact Eq.refl _) | exact Eq.refl _)); (focus ((repeat (((with_reducible refine runL_cons (σ1 := ?_) ?_ ?_); rotate_left; (focus (simp [*]; rfl))))); (exact runL_nil))))) | (focus ((with_reducible refine s_draw2 (q := ?_) (es := ?_) (σ' := ?_) prog_mixed TT_ok PTw_ok ?_ ?_ ?_ ?_); rotate_left 3; (focus (first | (simp; exact Eq.refl _) | exact Eq.refl _)); (focus ((repeat (((with_reducible refine runE_cons (e := ?_) (σ1 := ?_) (es := ?_) ?_ ?_ ?_); rotate_left 3; (focus (simp [*]; exact Eq.refl _)); (focus (simp; exact Eq.refl _))))); (exact runE_nil))); (focus (first | kernel_rfl | decide)))))
      refine s_runO (T := Tc) prog_mixedC TT_ok PTc_ok 3000 38 [(2, .v (.pointer none)), (3, .v (.int .i64 0)), (4, .ptr 5 0 0)] [(1, ⟨70, 0, []⟩), (3, ⟨91, 4, [[.ptr 3 0 0, .ptr 3 0 0, .v (.string ⟨⟨[]⟩⟩), .v (.int .i64 0)]]⟩), (5, ⟨73, 4, [[.v (.int .i64 m), .v (.int .i64 0), .mp 1, .ptr 3 0 0]]⟩)] [5, 3, 1] (by kernel_rfl) (by kernel_rfl) (by kernel_rfl) hI' hro' ?_
      repeat (first | with_reducible first | refine s_seq ?_ | refine k_seq ?_ | refine k_seq_ret ?_ | refine k_seq_exit ?_ | refine k_blk ?_ | refine k_blk_ret ?_ | refine k_blk_exit ?_ | refine k_lp_ret ?_ | refine k_lp_exit ?_ | refine ki_lp_ret ?_ | refine ki_lp_exit ?_ | refine s_block ?_ | refine sp_skip ?_ | refine sp_ret ?_ | refine sp_exit ?_ | ((with_reducible refine k_blk_out ?_ ?_); (focus decide)) | ((with_reducible refine s_cond_t ?_ ?_); (focus (simp [*]; done))) | ((with_reducible refine s_cond_f ?_ ?_); (focus (simp [*]; done))) | (focus ((with_reducible refine s_region2 (q := ?_) (σ' := ?_) TT_ok PTw_ok ?_ ?_ ?_); rotate_left 2; (focus (first | (simp; exact Eq.refl _) | exact Eq.refl _)); (focus ((repeat (((with_reducible refine runL_cons (σ1 := ?_) ?_ ?_); rotate_left; (focus (simp [*]; rfl))))); (exact runL_nil))))) | (focus ((with_reducible refine s_draw2 (q := ?_) (es := ?_) (σ' := ?_) prog_mixed TT_ok PTw_ok ?_ ?_ ?_ ?_); rotate_left 3; (focus (first | (simp; exact Eq.refl _) | exact Eq.refl _)); (focus ((repeat (((with_reducible refine runE_cons (e := ?_) (σ1 := ?_) (es := ?_) ?_ ?_ ?_); rotate_left 3; (focus (simp [*]; exact Eq.refl _)); (focus (simp; exact Eq.refl _))))); (exact runE_nil))); (focus (first | kernel_rfl | decide)))))
      refine ⟨.inr rfl, .tup [.ptr 5 0 0, .v (.int .i64 0)], ?_, ?_⟩
      · simp [retA, retL, ret1, lk]
      ((iterate 5 (((with_reducible refine spl_step TT_ok PTw_ok (id := 0) (σ' := ?_) ?_ ?_); rotate_left; (focus (simp [*]; rfl))))))
      refine spl_nil ?_
      refine k_seq ?_
      repeat (first | with_reducible first | refine s_seq ?_ | refine k_seq ?_ | refine k_seq_ret ?_ | refine k_seq_exit ?_ | refine k_blk ?_ | refine k_blk_ret ?_ | refine k_blk_exit ?_ | refine k_lp_ret ?_ | refine k_lp_exit ?_ | refine ki_lp_ret ?_ | refine ki_lp_exit ?_ | refine s_block ?_ | refine sp_skip ?_ | refine sp_ret ?_ | refine sp_exit ?_ | ((with_reducible refine k_blk_out ?_ ?_); (focus decide)) | ((with_reducible refine s_cond_t ?_ ?_); (focus (simp [*]; done))) | ((with_reducible refine s_cond_f ?_ ?_); (focus (simp [*]; done))) | (focus ((with_reducible refine s_region2 (q := ?_) (σ' := ?_) TT_ok PTw_ok ?_ ?_ ?_); rotate_left 2; (focus (first | (simp; exact Eq.refl _) | exact Eq.refl _)); (focus ((repeat (((with_reducible refine runL_cons (σ1 := ?_) ?_ ?_); rotate_left; (focus (simp [*]; rfl))))); (exact runL_nil))))) | (focus ((with_reducible refine s_draw2 (q := ?_) (es := ?_) (σ' := ?_) prog_mixed TT_ok PTw_ok ?_ ?_ ?_ ?_); rotate_left 3; (focus (first | (simp; exact Eq.refl _) | exact Eq.refl _)); (focus ((repeat (((with_reducible refine runE_cons (e := ?_) (σ1 := ?_) (es := ?_) ?_ ?_ ?_); rotate_left 3; (focus (simp [*]; exact Eq.refl _)); (focus (simp; exact Eq.refl _))))); (exact runE_nil))); (focus (first | kernel_rfl | decide)))))
      refine s_regionL ?_
      ((iterate 8 (((with_reducible refine spl_step TT_ok PTw_ok (id := 0) (σ' := ?_) ?_ ?_); rotate_left; (focus (simp [*]; rfl))))))
      refine spl_call TT_ok rfl rfl rfl (by kernel_rfl) Tryd.func31 rfl (avs := [.ptr 5 0 0]) (cs := []) rfl rfl (by simp [Tryd.ntmps31]) fun B2 hI2 hro2 => ?_
      rw [Tryd.ntmps31, Tryd.results31]
      simp only [enumA, List.append_nil]
      repeat (first | with_reducible first | refine s_seq ?_ | refine k_seq ?_ | refine k_seq_ret ?_ | refine k_seq_exit ?_ | refine k_blk ?_ | refine k_blk_ret ?_ | refine k_blk_exit ?_ | refine k_lp_ret ?_ | refine k_lp_exit ?_ | refine ki_lp_ret ?_ | refine ki_lp_exit ?_ | refine s_block ?_ | refine sp_skip ?_ | refine sp_ret ?_ | refine sp_exit ?_ | ((with_reducible refine k_blk_out ?_ ?_); (focus decide)) | ((with_reducible refine s_cond_t ?_ ?_); (focus (simp [*]; done))) | ((with_reducible refine s_cond_f ?_ ?_); (focus (simp [*]; done))) | (focus ((with_reducible refine s_region2 (q := ?_) (σ' := ?_) TT_ok PTw_ok ?_ ?_ ?_); rotate_left 2; (focus (first | (simp; exact Eq.refl _) | exact Eq.refl _)); (focus ((repeat (((with_reducible refine runL_cons (σ1 := ?_) ?_ ?_); rotate_left; (focus (simp [*]; rfl))))); (exact runL_nil))))) | (focus ((with_reducible refine s_draw2 (q := ?_) (es := ?_) (σ' := ?_) prog_mixed TT_ok PTw_ok ?_ ?_ ?_ ?_); rotate_left 3; (focus (first | (simp; exact Eq.refl _) | exact Eq.refl _)); (focus ((repeat (((with_reducible refine runE_cons (e := ?_) (σ1 := ?_) (es := ?_) ?_ ?_ ?_); rotate_left 3; (focus (simp [*]; exact Eq.refl _)); (focus (simp; exact Eq.refl _))))); (exact runE_nil))); (focus (first | kernel_rfl | decide)))))
      refine ⟨.inr rfl, .v (.int .i64 0), ?_, ?_⟩
      · simp [retA, retL, ret1, lk]
      ((iterate 6 (((with_reducible refine spl_step TT_ok PTw_ok (id := 0) (σ' := ?_) ?_ ?_); rotate_left; (focus (simp [*]; rfl))))))
      refine spl_nil ?_
      refine k_seq ?_
      repeat (first | with_reducible first | refine s_seq ?_ | refine k_seq ?_ | refine k_seq_ret ?_ | refine k_seq_exit ?_ | refine k_blk ?_ | refine k_blk_ret ?_ | refine k_blk_exit ?_ | refine k_lp_ret ?_ | refine k_lp_exit ?_ | refine ki_lp_ret ?_ | refine ki_lp_exit ?_ | refine s_block ?_ | refine sp_skip ?_ | refine sp_ret ?_ | refine sp_exit ?_ | ((with_reducible refine k_blk_out ?_ ?_); (focus decide)) | ((with_reducible refine s_cond_t ?_ ?_); (focus (simp [*]; done))) | ((with_reducible refine s_cond_f ?_ ?_); (focus (simp [*]; done))) | (focus ((with_reducible refine s_region2 (q := ?_) (σ' := ?_) TT_ok PTw_ok ?_ ?_ ?_); rotate_left 2; (focus (first | (simp; exact Eq.refl _) | exact Eq.refl _)); (focus ((repeat (((with_reducible refine runL_cons (σ1 := ?_) ?_ ?_); rotate_left; (focus (simp [*]; rfl))))); (exact runL_nil))))) | (focus ((with_reducible refine s_draw2 (q := ?_) (es := ?_) (σ' := ?_) prog_mixed TT_ok PTw_ok ?_ ?_ ?_ ?_); rotate_left 3; (focus (first | (simp; exact Eq.refl _) | exact Eq.refl _)); (focus ((repeat (((with_reducible refine runE_cons (e := ?_) (σ1 := ?_) (es := ?_) ?_ ?_ ?_); rotate_left 3; (focus (simp [*]; exact Eq.refl _)); (focus (simp; exact Eq.refl _))))); (exact runE_nil))); (focus (first | kernel_rfl | decide)))))
      ((refine post_ret (av := ?_) (by first | exact .inl rfl | exact .inr rfl) (show (Tryd.f10).results.toList = _ from by rw [Tryd.results10]) ?_ ?_); rotate_left; (focus (simp [retA, retL, ret1, lk, st, ldA, AV.cell]; rfl)); (try simp [*]))
end Go.Proofs.YtafikekndefjcaaDoor
