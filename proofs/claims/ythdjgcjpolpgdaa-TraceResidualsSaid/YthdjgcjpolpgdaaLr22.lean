/- The law TraceResiduals, by the abstract machine; no condition. -/
import Derived.Test.YthdjgcjpolpgdaaLh22
import Derived.Test.YthdjgcjpolpgdaaWa
import Derived.Test.YthdjgcjpolpgdaaRows
namespace Go.Proofs.Ythdjgcjpolpgdaa
set_option linter.unusedVariables false
set_option linter.unusedSimpArgs false
set_option linter.unusedSectionVars false
open Go.ChangeShapes Go.WideShapes Go.ChangeAt Go.RowKit
attribute [local simp] List.getD_cons_zero List.getD_cons_succ List.getD_nil undef gvars runL runE effA stepA dstOk wantA core lk st dl AS.ev AS.evs AS.put AS.upd updO updI nxt cPick cAlloc cBox cBuild cBuildS cLoad cStore cNil plainOf cBin cNilS isNilS nilA cUn cConvX cConvB cConv bytesOf rowB cMake cSlice slA idxA cFA cF cIA cIX cIS cI cExt cLen cApp cMM cFun cCall lenA lenM isNilM nilM cNilM cMakeM hintB cMapK cLook foundR lookR cUpd putM cDel delM findA isKeyB Instr.sameNow AS.entry AS.bound AS.callee sc1 sc2 ixOk ldA AV.flat AV.cell AV.cells Value.oneCell' fillA spl chunk zeros AS.parts AS.rows AS.shut AS.shut1 AS.shut2 AS.shutL AS.shutM AV.ids idsL idsLL eqAll bndA AV.scalar AV.scalar1 AV.isV Ef.app Ef.pk ptOf pntO wrO wr
attribute [-simp] List.getD_eq_getElem?_getD
set_option maxRecDepth 100000
attribute [local simp] AV.ren renL obI shO_cons lk_st lk_dl renLL_append updI_mem List.map_map Function.comp_def
def SameLen (D M : List (List Int)) : Prop := M.length = D.length ∧ ∀ j, (M.getD j []).length = (D.getD j []).length
theorem SameLen.set {D M : List (List Int)} (h : SameLen D M) {i : Nat} {c : List Int} (hc : c.length = (M.getD i []).length) : SameLen D (M.set i c) := by
  refine ⟨by simp [h.1], fun j => ?_⟩
  rw [← h.2 j]
  by_cases hj : i < M.length
  · by_cases e : i = j
    · subst e; simp [List.getD, hj]; rw [hc]; simp [List.getD, hj]
    · simp [List.getD, List.getElem?_set, e]
  · rw [List.set_eq_of_length_le (by omega)]
set_option maxHeartbeats 4000000 in
theorem residuals_ok (N : Int) (L : List (List Int)) (ts cs : List Int) (hN : okI N = true) (hr : okRows L = true) (hl : lightB L = true) (ht : okInts ts = true) (hc : okInts cs = true) (hlc : lightC ts cs = true) (hz : checkT N L = 0) (hg : goodB N L.length ts cs = true) : FnPure Try.prog 3 [aTh N L, aCl ts cs] (.v (.bool true)) := by
  have hL := okLens_rows hr
  have hT := okIL_ints ht
  have hC := okIL_ints hc
  have hkp : keptA N L ts cs = .tup [aInts (keptL L ts cs), .v (.int .i64 0)] := by unfold keptA; rw [if_pos ⟨hz, hg⟩]
  have hrs : resA N L ts cs = .tup [.agg [.v (.int .i64 N), aRows (rsdL L ts cs)], .v (.int .i64 0)] := by unfold resA; rw [if_pos ⟨hz, hg⟩]; rfl
  have hZr : okRows (rsdL L ts cs) = true := okRows_check (res_check hz hg)
  have hKr : okInts (keptL L ts cs) = true := by
    unfold keptL
    have h3 := okInts_len hc
    have h4 : (cs.filter (keptF L ts)).length ≤ cs.length := List.length_filter_le _ _
    simp only [okInts, Bool.and_eq_true, List.all_eq_true, decide_eq_true_eq]
    exact ⟨fun x hx => okInts_mem hc x (List.mem_filter.1 hx).1, by omega⟩
  have hob := residual_obj N L ts cs hN hr ht hc hz hg
  have hlo := left_obj N L ts cs hN hr ht hc hz hg
  generalize rsdL L ts cs = Z at hrs hZr hob
  generalize keptL L ts cs = K at hkp hKr hlo
  have hZl := okRows_len hZr
  have hKl := okInts_len hKr
  obtain ⟨NM, F, hnm⟩ := nmT_ex Z
  have hlow : ∀ k, k < 1000 → k ∉ NM := fun k hk => hnm.low hk
  have hsm : thSame N L N L = true := by simp [thSame]
  have hsmZ : thSame N Z N Z = true := by simp [thSame]
  unfold aTh aCl at *
  have hfe : aTh N L = .agg [.v (.int .i64 N), aRows L] := rfl
  have hfc : aCl ts cs = .agg [aInts ts, aInts cs] := rfl
  refine fn_sp TT_ok Try.func3 (c := _) rfl (by simp [Try.ntmps3]) (fun B hI0 hro => ?_)
  rw [Try.ntmps3]
  simp only [enumA]
  refine amStr (h := ?_)
  refine amReg PT75_ok (h := ?_)
  refine amStr (h := ?_)
  refine amReg PT75_ok (h := ?_)
  refine amStr (h := ?_)
  (focus ((with_reducible refine s_draw2 (q := ?_) (es := ?_) (σ' := ?_) prog_mixed TT_ok PT75_ok ?_ ?_ ?_ ?_); rotate_left 3; (focus (first | (simp; exact Eq.refl _) | exact Eq.refl _)); (focus ((repeat (((with_reducible refine runE_cons (e := ?_) (σ1 := ?_) (es := ?_) ?_ ?_ ?_); rotate_left 3; (focus (simp [*]; exact Eq.refl _)); (focus (simp; exact Eq.refl _))))); (exact runE_nil))); (focus (simp [fpA, fpF, isFn, fpo, topIds, lightS, light, Op.operands, Call.operands]; try kernel_rfl))))
  refine amStr (h := ?_)
  refine s_drawX (es := ?es) (σ' := ?s1) (σ0 := ?s0) (o0 := ?o0) (e0 := ⟨some 38, .tup [.agg [.v (.int .i64 N), .ref 1000 0 Z.length], .v (.int .i64 0)], NM.map fun k => (k, F k), [34, 37], NM, none⟩) (q := 20) prog_mixed TT_ok PT75_ok ?he0 ?hrun ?hok ?kk
  case hrun =>
    (((with_reducible refine runX_cons (e := ?_) (σ1 := ?_) (es := ?_) ?_ ?_ ?_ ?_); rotate_left 4; (focus (simp [*]; exact Eq.refl _)); (focus (simp; exact Eq.refl _))))
    (((with_reducible refine runX_cons (e := ?_) (σ1 := ?_) (es := ?_) ?_ ?_ ?_ ?_); rotate_left 4; (focus (simp [*]; exact Eq.refl _)); (focus (simp; exact Eq.refl _))))
    (((with_reducible refine runX_cons (e := ?_) (σ1 := ?_) (es := ?_) ?_ ?_ ?_ ?_); rotate_left 4; (focus (simp [*]; exact Eq.refl _)); (focus (simp; exact Eq.refl _))))
    (((with_reducible refine runX_cons (e := ?_) (σ1 := ?_) (es := ?_) ?_ ?_ ?_ ?_); rotate_left 4; (focus (simp [*]; exact Eq.refl _)); (focus (simp; exact Eq.refl _))))
    refine runX_call (es := ?_) (σ1 := ?_) ?_ ?_
    rotate_left 2
    · simp; exact Eq.refl _
    (((with_reducible refine runX_cons (e := ?_) (σ1 := ?_) (es := ?_) ?_ ?_ ?_ ?_); rotate_left 4; (focus (simp [*]; exact Eq.refl _)); (focus (simp; exact Eq.refl _))))
    (((with_reducible refine runX_cons (e := ?_) (σ1 := ?_) (es := ?_) ?_ ?_ ?_ ?_); rotate_left 4; (focus (simp [*]; exact Eq.refl _)); (focus (simp; exact Eq.refl _))))
    (((with_reducible refine runX_cons (e := ?_) (σ1 := ?_) (es := ?_) ?_ ?_ ?_ ?_); rotate_left 4; (focus (simp [*]; exact Eq.refl _)); (focus (simp; exact Eq.refl _))))
    (((with_reducible refine runX_cons (e := ?_) (σ1 := ?_) (es := ?_) ?_ ?_ ?_ ?_); rotate_left 4; (focus (simp [*]; exact Eq.refl _)); (focus (simp; exact Eq.refl _))))
    (((with_reducible refine runX_cons (e := ?_) (σ1 := ?_) (es := ?_) ?_ ?_ ?_ ?_); rotate_left 4; (focus (simp [*]; exact Eq.refl _)); (focus (simp; exact Eq.refl _))))
    (((with_reducible refine runX_cons (e := ?_) (σ1 := ?_) (es := ?_) ?_ ?_ ?_ ?_); rotate_left 4; (focus (simp [*]; exact Eq.refl _)); (focus (simp; exact Eq.refl _))))
    exact runX_nil
    all_goals decide
  case he0 =>
    intro D
    refine eff_objs (f := 18) (avs := [.agg [.v (.int .i64 N), aRows L], .agg [aInts ts, aInts cs]]) (res := resT N Z) rfl rfl rfl rfl rfl (by kernel_rfl) (by simp [idsL, AV.ids]) hob 1000 hnm.ids hnm.fk hnm.no (fun i hi => ?_)
    simp
  case hok =>
    refine ordOk_skip [(4, 8)] (by kernel_rfl) (fun p hp => ?_)
    obtain rfl : p = (4, 8) := by simpa using hp
    simp only [List.getD_cons_zero, List.getD_cons_succ]
    have h28 : ∀ k ∈ NM, ¬ k = 28 := fun k hk e => hlow 28 (by omega) (e ▸ hk)
    simp [free, Ef.keys, dis, looksO, fpA, lightS, light, fpF, isFn, Op.operands]
    exact ⟨⟨h28, hlow 28 (by omega)⟩, .inl h28⟩
  case kk =>
  refine amStr (h := ?_)
  have hu0 : ∀ (X : List (Nat × AObj)) (k : Nat), k < 1000 → lk (updO X (NM.map fun k => (k, F k))) k = lk X k := fun X k hk => by rw [lk_updMap, if_neg (hlow k hk)]
  have hu1 : ∀ X : List (Nat × AObj), lk (updO X (NM.map fun k => (k, F k))) 1000 = some ⟨25, 1, refsI 1001 Z⟩ := fun X => by rw [lk_updMap, if_pos ((hnm.mem _).2 (.inl rfl)), hnm.f0]
  have hu2 : ∀ (X : List (Nat × AObj)) (j : Nat), j < Z.length → lk (updO X (NM.map fun k => (k, F k))) (1001 + j) = some (obI (Z.getD j [])) := fun X j hj => by rw [lk_updMap, if_pos ((hnm.mem _).2 (.inr (by omega))), hnm.fj j hj]
  have hri : ∀ q, q ∈ idsLL (refsI 1001 Z) → 1001 ≤ q ∧ q < 1001 + Z.length := fun q hq => ids_refsI 1001 Z hq
  have hre : renLL (fun q => q) (refsI 1001 Z) = refsI 1001 Z := renLL_id _
  refine s_weak ⟨119, [(2, .ptr 0 0 0), (3, .ptr 1 0 0), (4, .v (.bool false)), (5, .ptr 7 0 0), (6, .sl 2 [[aInts ts, aInts cs]]), (7, .ptr 28 0 0), (8, .v (.int .i64 0))], [(0, ⟨24, 2, [[.v (.int .i64 N), aRows L]]⟩), (1, ⟨27, 2, [[aInts ts, aInts cs]]⟩), (7, ⟨24, 2, [[.v (.int .i64 N), aRows L]]⟩), (28, ⟨24, 2, [[.v (.int .i64 N), .ref 1000 0 Z.length]]⟩), (1000, ⟨25, 1, refsI 1001 Z⟩)] ++ fam 1001 Z, [1000, 28, 7, 1, 0] ++ List.range' 1001 Z.length⟩ ?ww ?_
  case ww =>
    (refine weak_fam (fun q => q) rfl ?_ ?_ ?_ ?_ ?_ ?_ <;> ((try simp only [List.mem_cons, List.not_mem_nil, or_false, forall_eq_or_imp, forall_eq]); (try simp (disch := omega) [lk, AV.ids, idsL, idsLL, AV.ren, renL, renLL, i64w, *])))
    · exact fun q hq => .inr (hri q hq)
    · intro j hj
      rw [if_neg (by omega), if_neg (by omega), hu2 _ j hj]
      rfl
    · repeat' apply And.intro
      all_goals (intro j hj; omega)
  clear hu0 hu1 hu2
  refine s_regionL ?_
  ((iterate 6 (((with_reducible refine spl_step TT_ok PT75_ok (id := 0) (σ' := ?_) ?_ ?_); rotate_left; (focus (simp [*]; rfl))))))
  (((with_reducible refine spl_step TT_ok PT75_ok (id := 9) (σ' := ?_) ?_ ?_); rotate_left; (focus (simp [*]; rfl))))
  ((iterate 2 (((with_reducible refine spl_step TT_ok PT75_ok (id := 0) (σ' := ?_) ?_ ?_); rotate_left; (focus (simp [*]; rfl))))))
  refine spl_nil ?_
  refine amStr (h := ?_)
  refine s_drawX (es := ?es2) (σ' := ?s12) (σ0 := ?s02) (o0 := ?o02) (e0 := ⟨some 52, .tup [.ref 500 0 K.length, .v (.int .i64 0)], [(500, some (obI K))], [48, 51], [500], none⟩) (q := 50) prog_mixed TT_ok PT75_ok ?he02 ?hrun2 ?hok2 ?kk2
  case hrun2 =>
    (((with_reducible refine runX_cons (e := ?_) (σ1 := ?_) (es := ?_) ?_ ?_ ?_ ?_); rotate_left 4; (focus (simp [*]; exact Eq.refl _)); (focus (simp; exact Eq.refl _))))
    (((with_reducible refine runX_cons (e := ?_) (σ1 := ?_) (es := ?_) ?_ ?_ ?_ ?_); rotate_left 4; (focus (simp [*]; exact Eq.refl _)); (focus (simp; exact Eq.refl _))))
    (((with_reducible refine runX_cons (e := ?_) (σ1 := ?_) (es := ?_) ?_ ?_ ?_ ?_); rotate_left 4; (focus (simp [*]; exact Eq.refl _)); (focus (simp; exact Eq.refl _))))
    (((with_reducible refine runX_cons (e := ?_) (σ1 := ?_) (es := ?_) ?_ ?_ ?_ ?_); rotate_left 4; (focus (simp [*]; exact Eq.refl _)); (focus (simp; exact Eq.refl _))))
    refine runX_call (es := ?_) (σ1 := ?_) ?_ ?_
    rotate_left 2
    · simp; exact Eq.refl _
    (((with_reducible refine runX_cons (e := ?_) (σ1 := ?_) (es := ?_) ?_ ?_ ?_ ?_); rotate_left 4; (focus (simp [*]; exact Eq.refl _)); (focus (simp; exact Eq.refl _))))
    (((with_reducible refine runX_cons (e := ?_) (σ1 := ?_) (es := ?_) ?_ ?_ ?_ ?_); rotate_left 4; (focus (simp [*]; exact Eq.refl _)); (focus (simp; exact Eq.refl _))))
    (((with_reducible refine runX_cons (e := ?_) (σ1 := ?_) (es := ?_) ?_ ?_ ?_ ?_); rotate_left 4; (focus (simp [*]; exact Eq.refl _)); (focus (simp; exact Eq.refl _))))
    (((with_reducible refine runX_cons (e := ?_) (σ1 := ?_) (es := ?_) ?_ ?_ ?_ ?_); rotate_left 4; (focus (simp [*]; exact Eq.refl _)); (focus (simp; exact Eq.refl _))))
    (((with_reducible refine runX_cons (e := ?_) (σ1 := ?_) (es := ?_) ?_ ?_ ?_ ?_); rotate_left 4; (focus (simp [*]; exact Eq.refl _)); (focus (simp; exact Eq.refl _))))
    exact runX_nil
    all_goals decide
  case he02 =>
    intro D
    have hsh : shO 500 [(0, obI K)] = [(500, obI K)] := by simp [shO, renLL_pure _ _ (show idsLL (obI K).xs = [] from ids_ints _)]
    refine eff_objs (f := 20) (avs := [.agg [.v (.int .i64 N), aRows L], .agg [aInts ts, aInts cs]]) (res := .tup [.ref 0 0 K.length, .v (.int .i64 0)]) (NM := [500]) (F := fun _ => some (obI K)) rfl rfl rfl rfl rfl (by kernel_rfl) (by simp [idsL, AV.ids]) hlo 500 (fun k => by simp) (fun k hk => ?_) (fun k hk => ?_) (fun i hi => ?_)
    · obtain rfl : k = 500 := by simpa using hk
      rw [hsh]; simp [lk]
    · rw [hsh]; simp at hk; simp [lk, Ne.symm hk]
    · obtain rfl : i = 0 := by simpa using hi
      simp
  case hok2 => kernel_rfl
  case kk2 =>
  refine amStr (h := ?_)
  refine s_weak ⟨119, [(2, .ptr 0 0 0), (3, .ptr 1 0 0), (4, .v (.bool false)), (5, .ptr 7 0 0), (6, .sl 2 [[aInts ts, aInts cs]]), (7, .ptr 28 0 0), (8, .v (.int .i64 0)), (9, .ptr 9 0 0), (10, .v (.int .i64 0)), (11, .ref 500 0 K.length), (12, .v (.int .i64 0))], [(0, ⟨24, 2, [[.v (.int .i64 N), aRows L]]⟩), (1, ⟨27, 2, [[aInts ts, aInts cs]]⟩), (7, ⟨24, 2, [[.v (.int .i64 N), aRows L]]⟩), (28, ⟨24, 2, [[.v (.int .i64 N), .ref 1000 0 Z.length]]⟩), (9, ⟨24, 2, [[.v (.int .i64 N), aRows Z]]⟩), (500, ⟨3, 1, K.map fun x => [.v (.int .i64 x)]⟩), (1000, ⟨25, 1, refsI 1001 Z⟩)] ++ fam 1001 Z, [1000, 500, 28, 9, 7, 1, 0] ++ List.range' 1001 Z.length⟩ ?ww2 ?_
  case ww2 =>
    have hfj : ∀ j, j < Z.length → lk (fam 1001 Z) (1001 + j) = some (obI (Z.getD j [])) := fun j hj => lk_fam_add hj
    (refine weak_fam (fun q => q) rfl ?_ ?_ ?_ ?_ ?_ ?_ <;> ((try simp only [List.mem_cons, List.not_mem_nil, or_false, forall_eq_or_imp, forall_eq]); (try simp (disch := omega) [lk, AV.ids, idsL, idsLL, AV.ren, renL, renLL, i64w, *])))
    · exact fun q hq => .inr (hri q hq)
    · intro j hj
      repeat rw [if_neg (by omega)]
      rw [hfj j hj]
      rfl
    · repeat' apply And.intro
      all_goals (intro j hj; omega)
  refine s_regionL ?_
  ((iterate 8 (((with_reducible refine spl_step TT_ok PT75_ok (id := 0) (σ' := ?_) ?_ ?_); rotate_left; (focus (simp [*]; rfl))))))
  refine spl_nil ?_
  refine amStr (h := ?_)
  refine s_regionL ?_
  ((iterate 11 (((with_reducible refine spl_step TT_ok PT75_ok (id := 0) (σ' := ?_) ?_ ?_); rotate_left; (focus (simp [*]; rfl))))))
  refine spl_op (s := (.v (.bool true), [])) rfl rfl (ok_call_all (f := 22) (bvs := [aTh N Z, aTh N Z]) (enters_ok (avs := [.agg [.v (.int .i64 N), .ref 1000 0 Z.length], .agg [.v (.int .i64 N), aRows Z]]) (cs := []) rfl (by kernel_rfl) rfl rfl) rfl (fun B G w a hr i v hi hv => ?_) (hsmZ ▸ rSame_p N Z N Z hZr hZr) rfl) ?_
  · match i, hi with
    | 0, _ =>
      refine read_th hr (k := 1000) (b := 1001) (t := 25) rfl (fun j hj => ?_) hv
      simp only [lk, lk_st]
      repeat rw [if_neg (by omega)]
      exact lk_fam_add hj
    | 1, _ => exact Rv.pure (G := G) (G' := G0 _) (fun b p u h => hr.heap.st b p u h) hv (by simp [aTh, AV.ids, idsL])
  ((iterate 8 (((with_reducible refine spl_step TT_ok PT75_ok (id := 0) (σ' := ?_) ?_ ?_); rotate_left; (focus (simp [*]; rfl))))))
  refine spl_nil ?_
  refine amStr (h := ?_)
  have hZi : ∀ j, (Z.getD j []).length ≤ 17592186044416 := fun j => okInts_len (okRows_at hZr j)
  -- the same names
  have same : ∀ (σ : AS) (slots : List (Nat × AV)) (i : Nat) (M : List (List Int)) (X : List Int), σ.n = 119 → SameLen Z M → (∀ p ∈ slots, lk σ.slots p.1 = some p.2 ∧ ∀ k ∈ p.2.ids, k ∈ [1001 + i, 1000, 500, 7, 1, 0]) → lk σ.objs 0 = some ⟨24, 2, [[.v (.int .i64 N), aRows L]]⟩ → lk σ.objs 1 = some ⟨27, 2, [[aInts ts, aInts cs]]⟩ → lk σ.objs 7 = some ⟨24, 2, [[.v (.int .i64 N), aRows L]]⟩ → lk σ.objs 500 = some ⟨3, 1, X.map fun x => [.v (.int .i64 x)]⟩ → lk σ.objs 1000 = some ⟨25, 1, refsI 1001 Z⟩ → (∀ j, j < Z.length → lk σ.objs (1001 + j) = some (obI (M.getD j []))) →
      Weak σ ⟨119, slots, [(0, ⟨24, 2, [[.v (.int .i64 N), aRows L]]⟩), (1, ⟨27, 2, [[aInts ts, aInts cs]]⟩), (7, ⟨24, 2, [[.v (.int .i64 N), aRows L]]⟩), (500, ⟨3, 1, X.map fun x => [.v (.int .i64 x)]⟩), (1000, ⟨25, 1, refsI 1001 Z⟩)] ++ fam 1001 M, [1001 + i, 1000, 500, 7, 1, 0] ++ List.range' 1001 M.length⟩ := by
    intro σ slots i M X hn hM hs h0 h1 h7 h5 h10 h3
    refine weak_fam (fun q => q) hn.symm (fun p hp => ?_) (fun p hp => ?_) (fun j hj => ?_) (fun p _ q _ e => e) (fun j _ i _ e => by omega) (fun p hp j _ => ?_)
    · obtain ⟨g1, g2⟩ := hs p hp
      exact ⟨by rw [AV.ren_id]; exact g1, g2⟩
    · simp only [List.mem_cons, List.not_mem_nil, or_false] at hp
      rcases hp with rfl | rfl | rfl | rfl | rfl
      · exact ⟨by omega, by rw [h0]; simp [renLL], by simp, fun q hq => by simp [idsLL, idsL, AV.ids] at hq⟩
      · exact ⟨by omega, by rw [h1]; simp [renLL], by simp, fun q hq => by simp [idsLL, idsL, AV.ids] at hq⟩
      · exact ⟨by omega, by rw [h7]; simp [renLL], by simp, fun q hq => by simp [idsLL, idsL, AV.ids] at hq⟩
      · refine ⟨by omega, ?_, by simp, fun q hq => ?_⟩
        · rw [h5]; dsimp only; rw [renLL_pure _ _ (show idsLL (X.map fun x => [AV.v (.int .i64 x)]) = [] from ids_ints X)]
        · rw [show idsLL (X.map fun x => [AV.v (.int .i64 x)]) = [] from ids_ints X] at hq; cases hq
      · refine ⟨by omega, ?_, by simp, fun q hq => .inr ?_⟩
        · rw [h10]; dsimp only; rw [hre]
        · rw [hM.1]; exact hri q hq
    · rw [h3 j (by rw [← hM.1]; exact hj)]
    · simp only [List.mem_cons, List.not_mem_nil, or_false] at hp
      rcases hp with rfl | rfl | rfl | rfl | rfl <;> dsimp only <;> omega
  refine amStr (h := ?_)
  refine s_regionL ?_
  ((iterate 4 (((with_reducible refine spl_step TT_ok PT75_ok (id := 0) (σ' := ?_) ?_ ?_); rotate_left; (focus (simp [*]; rfl))))))
  refine spl_nil ?_
  refine amStr (h := ?_)
  refine s_loop (J := fun i : {p : Nat × List (List Int) // p.1 ≤ Z.length ∧ SameLen Z p.2} => ⟨119, [(2, .ptr 0 0 0), (3, .ptr 1 0 0), (4, .v (.bool false)), (5, .ptr 7 0 0), (6, .sl 2 [[aInts ts, aInts cs]]), (11, .ref 500 0 K.length), (82, .ref 1000 0 Z.length), (83, .v (.int .i64 (Z.length : Int))), (84, .v (.int .i64 (i.1.1 : Int)))], [(0, ⟨24, 2, [[.v (.int .i64 N), aRows L]]⟩), (1, ⟨27, 2, [[aInts ts, aInts cs]]⟩), (7, ⟨24, 2, [[.v (.int .i64 N), aRows L]]⟩), (500, ⟨3, 1, K.map fun x => [.v (.int .i64 x)]⟩), (1000, ⟨25, 1, refsI 1001 Z⟩)] ++ fam 1001 i.1.2, [1001 + i.1.1, 1000, 500, 7, 1, 0] ++ List.range' 1001 i.1.2.length⟩) (μ := fun i => Z.length - i.1.1) ⟨(0, Z), by omega, rfl, fun _ => rfl⟩ ?_ (fun ⟨⟨i, M⟩, hi, hM⟩ => ?_)
  · dsimp only
    refine same _ _ 0 Z K rfl ⟨rfl, fun _ => rfl⟩ (by simp [lk, AV.ids]) (by simp [lk]) (by simp [lk]) (by simp [lk]) (by simp [lk]) (by simp [lk]) (fun j hj => ?_)
    simp only [lk, List.cons_append, List.nil_append]
    repeat rw [if_neg (by omega)]
    exact lk_fam_add hj
  dsimp only at hi hM
  refine amStr (h := ?_)
  refine s_regionL ?_
  ((iterate 1 (((with_reducible refine spl_step TT_ok PT75_ok (id := 0) (σ' := ?_) ?_ ?_); rotate_left; (focus (simp [*]; rfl))))))
  refine spl_nil ?_
  refine amStr (h := ?_)
  (focus ((with_reducible refine sp_cond (b := ?_) ?_ (fun hc => ?_) (fun hc => ?_)); rotate_left; (focus (first | rfl | (simp [lk, AS.ev]; rfl))); all_goals (try simp at hc)))
  · have hii := hc
    clear hc
    have hrg := refsI_get (b := 1001) hii
    have hrl := refsI_len 1001 Z
    have hil := hZi i
    refine amStr (h := ?_)
    refine s_regionL ?_
    ((iterate 3 (((with_reducible refine spl_step TT_ok PT75_ok (id := 0) (σ' := ?_) ?_ ?_); rotate_left; (focus (simp [*]; rfl))))))
    refine spl_nil ?_
    refine amStr (h := ?_)
    refine s_regionL ?_
    ((iterate 3 (((with_reducible refine spl_step TT_ok PT75_ok (id := 0) (σ' := ?_) ?_ ?_); rotate_left; (focus (simp [*]; rfl))))))
    refine spl_nil ?_
    refine amStr (h := ?_)
    refine s_loop (J := fun q : {p : Nat × List (List Int) // p.1 ≤ (Z.getD i []).length ∧ SameLen Z p.2} => ⟨119, [(2, .ptr 0 0 0), (3, .ptr 1 0 0), (4, .v (.bool false)), (5, .ptr 7 0 0), (6, .sl 2 [[aInts ts, aInts cs]]), (11, .ref 500 0 K.length), (82, .ref 1000 0 Z.length), (83, .v (.int .i64 (Z.length : Int))), (84, .v (.int .i64 (i : Int))), (16, .ref (1001 + i) 0 (Z.getD i []).length), (89, .v (.int .i64 ((Z.getD i []).length : Int))), (90, .v (.int .i64 (q.1.1 : Int)))], [(0, ⟨24, 2, [[.v (.int .i64 N), aRows L]]⟩), (1, ⟨27, 2, [[aInts ts, aInts cs]]⟩), (7, ⟨24, 2, [[.v (.int .i64 N), aRows L]]⟩), (500, ⟨3, 1, K.map fun x => [.v (.int .i64 x)]⟩), (1000, ⟨25, 1, refsI 1001 Z⟩)] ++ fam 1001 q.1.2, [1001 + i, 1000, 500, 7, 1, 0] ++ List.range' 1001 q.1.2.length⟩) (μ := fun q => (Z.getD i []).length - q.1.1) ⟨(0, M), by omega, hM⟩ ?_ (fun ⟨⟨k, M⟩, hk, hM⟩ => ?_)
    · refine same _ _ i M K rfl hM (by simp [lk, AV.ids]) (by simp [lk]) (by simp [lk]) (by simp [lk]) (by simp [lk]) (by simp [lk]) (fun j hj => ?_)
      simp only [lk, List.cons_append, List.nil_append]
      repeat rw [if_neg (by omega)]
      exact lk_fam_add (by rw [hM.1]; exact hj)
    dsimp only at hk hM
    refine amStr (h := ?_)
    refine s_regionL ?_
    ((iterate 1 (((with_reducible refine spl_step TT_ok PT75_ok (id := 0) (σ' := ?_) ?_ ?_); rotate_left; (focus (simp [*]; rfl))))))
    refine spl_nil ?_
    refine amStr (h := ?_)
    (focus ((with_reducible refine sp_cond (b := ?_) ?_ (fun hc => ?_) (fun hc => ?_)); rotate_left; (focus (first | rfl | (simp [lk, AS.ev]; rfl))); all_goals (try simp at hc)))
    · have hkk := hc
      clear hc
      have hki : k < (M.getD i []).length := by rw [hM.2]; exact hkk
      have hiM : i < M.length := by rw [hM.1]; exact hii
      have hf := lk_fam_add (b := 1001) hiM
      unfold obI at hf
      have hn0 : ¬ 0 = 1001 + i := by omega
      have hn1 : ¬ 1 = 1001 + i := by omega
      have hn7 : ¬ 7 = 1001 + i := by omega
      have hn5 : ¬ 500 = 1001 + i := by omega
      have hn10 : ¬ 1000 = 1001 + i := by omega
      refine amStr (h := ?_)
      refine s_regionL ?_
      ((iterate 2 (((with_reducible refine spl_step TT_ok PT75_ok (id := 0) (σ' := ?_) ?_ ?_); rotate_left; (focus (simp [*]; rfl))))))
      refine spl_nil ?_
      refine amStr (h := ?_)
      refine s_regionL ?_
      ((iterate 4 (((with_reducible refine spl_step TT_ok PT75_ok (id := 0) (σ' := ?_) ?_ ?_); rotate_left; (focus (simp [*]; rfl))))))
      refine spl_nil ?_
      refine amStr (h := ?_)
      refine s_regionL ?_
      ((iterate 2 (((with_reducible refine spl_step TT_ok PT75_ok (id := 0) (σ' := ?_) ?_ ?_); rotate_left; (focus (simp [*]; rfl))))))
      refine spl_nil ?_
      refine amStr (h := ?_)
      refine k_lp (⟨(k + 1, M.set i ((M.getD i []).set k 0)), by dsimp only; omega, hM.set (by simp)⟩ : {p : Nat × List (List Int) // p.1 ≤ (Z.getD i []).length ∧ SameLen Z p.2}) (by dsimp only; omega) ?_
      have hw : IntKind.i64.wrap ((k : Int) + 1) = (k : Int) + 1 := i64s k (by omega)
      refine same _ _ i _ K rfl (hM.set (by simp)) (by simp [lk, AV.ids, hw]) (by simp [lk, hn0]) (by simp [lk, hn1]) (by simp [lk, hn7]) (by simp [lk, hn5]) (by simp [lk, hn10]) (fun j hj => ?_)
      simp only [lk, List.cons_append, List.nil_append, lk_st]
      rw [if_neg (by omega), if_neg (by omega), if_neg (by omega), if_neg (by omega), if_neg (by omega)]
      by_cases e : j = i
      · subst e
        rw [if_pos rfl]
        simp [List.getD, hiM, obI, List.map_set]
      · rw [if_neg (by omega), lk_fam_add (by rw [hM.1]; exact hj)]
        simp [List.getD, List.getElem?_set, Ne.symm e]
    · clear hc
      refine amStr (h := ?_)
      refine s_regionL ?_
      ((iterate 2 (((with_reducible refine spl_step TT_ok PT75_ok (id := 0) (σ' := ?_) ?_ ?_); rotate_left; (focus (simp [*]; rfl))))))
      refine spl_nil ?_
      refine amStr (h := ?_)
      refine k_lp (⟨(i + 1, M), by dsimp only; omega, hM⟩ : {p : Nat × List (List Int) // p.1 ≤ Z.length ∧ SameLen Z p.2}) (by dsimp only; omega) ?_
      have hw : IntKind.i64.wrap ((i : Int) + 1) = (i : Int) + 1 := i64s i (by omega)
      refine same _ _ (i + 1) M K rfl hM (by simp [lk, AV.ids, hw]) (by simp [lk]) (by simp [lk]) (by simp [lk]) (by simp [lk]) (by simp [lk]) (fun j hj => ?_)
      simp only [lk, List.cons_append, List.nil_append]
      repeat rw [if_neg (by omega)]
      exact lk_fam_add (by rw [hM.1]; exact hj)
  · clear hc
    refine amStr (h := ?_)
    refine s_regionL ?_
    ((iterate 3 (((with_reducible refine spl_step TT_ok PT75_ok (id := 0) (σ' := ?_) ?_ ?_); rotate_left; (focus (simp [*]; rfl))))))
    refine spl_nil ?_
    refine amStr (h := ?_)
    refine s_loop (J := fun q : {p : Nat × List Int // p.1 ≤ K.length ∧ p.2.length = K.length} => ⟨119, [(2, .ptr 0 0 0), (3, .ptr 1 0 0), (4, .v (.bool false)), (5, .ptr 7 0 0), (6, .sl 2 [[aInts ts, aInts cs]]), (11, .ref 500 0 K.length), (99, .v (.int .i64 (K.length : Int))), (100, .v (.int .i64 (q.1.1 : Int)))], [(0, ⟨24, 2, [[.v (.int .i64 N), aRows L]]⟩), (1, ⟨27, 2, [[aInts ts, aInts cs]]⟩), (7, ⟨24, 2, [[.v (.int .i64 N), aRows L]]⟩), (500, ⟨3, 1, q.1.2.map fun x => [.v (.int .i64 x)]⟩), (1000, ⟨25, 1, refsI 1001 Z⟩)] ++ fam 1001 M, [1001 + i, 1000, 500, 7, 1, 0] ++ List.range' 1001 M.length⟩) (μ := fun q => K.length - q.1.1) ⟨(0, K), by omega, rfl⟩ ?_ (fun ⟨⟨k, X⟩, hk, hX⟩ => ?_)
    · refine same _ _ i M K rfl hM (by simp [lk, AV.ids]) (by simp [lk]) (by simp [lk]) (by simp [lk]) (by simp [lk]) (by simp [lk]) (fun j hj => ?_)
      simp only [lk, List.cons_append, List.nil_append]
      repeat rw [if_neg (by omega)]
      exact lk_fam_add (by rw [hM.1]; exact hj)
    dsimp only at hk hX
    refine amStr (h := ?_)
    refine s_regionL ?_
    ((iterate 1 (((with_reducible refine spl_step TT_ok PT75_ok (id := 0) (σ' := ?_) ?_ ?_); rotate_left; (focus (simp [*]; rfl))))))
    refine spl_nil ?_
    refine amStr (h := ?_)
    (focus ((with_reducible refine sp_cond (b := ?_) ?_ (fun hc => ?_) (fun hc => ?_)); rotate_left; (focus (first | rfl | (simp [lk, AS.ev]; rfl))); all_goals (try simp at hc)))
    · have hkk := hc
      clear hc
      have hkX : k < X.length := by omega
      refine amStr (h := ?_)
      refine s_regionL ?_
      ((iterate 2 (((with_reducible refine spl_step TT_ok PT75_ok (id := 0) (σ' := ?_) ?_ ?_); rotate_left; (focus (simp [*]; rfl))))))
      refine spl_nil ?_
      refine amStr (h := ?_)
      refine s_regionL ?_
      ((iterate 4 (((with_reducible refine spl_step TT_ok PT75_ok (id := 0) (σ' := ?_) ?_ ?_); rotate_left; (focus (simp [*]; rfl))))))
      refine spl_nil ?_
      refine amStr (h := ?_)
      refine s_regionL ?_
      ((iterate 2 (((with_reducible refine spl_step TT_ok PT75_ok (id := 0) (σ' := ?_) ?_ ?_); rotate_left; (focus (simp [*]; rfl))))))
      refine spl_nil ?_
      refine amStr (h := ?_)
      refine k_lp (⟨(k + 1, X.set k (-1)), by dsimp only; omega, by simp [hX]⟩ : {p : Nat × List Int // p.1 ≤ K.length ∧ p.2.length = K.length}) (by dsimp only; omega) ?_
      have hw : IntKind.i64.wrap ((k : Int) + 1) = (k : Int) + 1 := i64s k (by omega)
      refine same _ _ i M _ rfl hM (by simp [lk, AV.ids, hw]) (by simp [lk]) (by simp [lk]) (by simp [lk]) (by simp [lk, List.map_set]) (by simp [lk]) (fun j hj => ?_)
      simp only [lk, List.cons_append, List.nil_append]
      repeat rw [if_neg (by omega)]
      exact lk_fam_add (by rw [hM.1]; exact hj)
    · clear hc
      refine amStr (h := ?_)
      refine s_weak ⟨119, [(2, .ptr 0 0 0), (3, .ptr 1 0 0), (4, .v (.bool false)), (5, .ptr 7 0 0), (6, .sl 2 [[aInts ts, aInts cs]])], [(0, ⟨24, 2, [[.v (.int .i64 N), aRows L]]⟩), (1, ⟨27, 2, [[aInts ts, aInts cs]]⟩), (7, ⟨24, 2, [[.v (.int .i64 N), aRows L]]⟩)], [7, 1, 0]⟩ ?_ ?_
      · (refine weak_id rfl ?_ ?_ <;> ((try simp only [List.mem_cons, List.not_mem_nil, or_false, forall_eq_or_imp, forall_eq]); (try simp (disch := omega) [i64w, *])))
      refine amGo PT75_ok (h := ?_)
      ((refine post_ret (av := ?_) (by first | exact .inl rfl | exact .inr rfl) (show (Try.f3).results.toList = _ from by rw [Try.results3]) ?_ ?_); rotate_left; (focus (simp [retA, retL, ret1, lk, st, ldA, AV.cell]; rfl)); (try simp [*]))
set_option maxHeartbeats 2000000 in
theorem residuals_err (N : Int) (L : List (List Int)) (ts cs : List Int) (hN : okI N = true) (hr : okRows L = true) (hl : lightB L = true) (ht : okInts ts = true) (hc : okInts cs = true) (hlc : lightC ts cs = true) (hz : ¬ (checkT N L = 0 ∧ goodB N L.length ts cs = true)) : FnPure Try.prog 3 [aTh N L, aCl ts cs] (.v (.bool true)) := by
  have hL := okLens_rows hr
  have hT := okIL_ints ht
  have hC := okIL_ints hc
  have hkp : keptA N L ts cs = .tup [.v (.slice none 0 0), .v (.int .i64 1)] := by unfold keptA; rw [if_neg hz]
  have hrs : resA N L ts cs = .tup [.agg [.v (.int .i64 0), .v (.slice none 0 0)], .v (.int .i64 1)] := by unfold resA; rw [if_neg hz]
  have hsm : thSame N L N L = true := by simp [thSame]
  have hsm0 : thSame 0 [] 0 [] = true := by simp [thSame]
  have hi0 : okI 0 = true := rfl
  have hn0 : toInts (.v (.slice none 0 0)) = some [] := rfl
  clear hz
  unfold aTh aCl
  have hfe : aTh N L = .agg [.v (.int .i64 N), aRows L] := rfl
  have hfc : aCl ts cs = .agg [aInts ts, aInts cs] := rfl
  refine fn_sp TT_ok Try.func3 (c := _) rfl (by simp [Try.ntmps3]) (fun B hI0 hro => ?_)
  rw [Try.ntmps3]
  simp only [enumA]
  refine amStr (h := ?_)
  refine amReg PT75_ok (h := ?_)
  refine amStr (h := ?_)
  refine amReg PT75_ok (h := ?_)
  refine amStr (h := ?_)
  (focus ((with_reducible refine s_draw2 (q := ?_) (es := ?_) (σ' := ?_) prog_mixed TT_ok PT75_ok ?_ ?_ ?_ ?_); rotate_left 3; (focus (first | (simp; exact Eq.refl _) | exact Eq.refl _)); (focus ((repeat (((with_reducible refine runE_cons (e := ?_) (σ1 := ?_) (es := ?_) ?_ ?_ ?_); rotate_left 3; (focus (simp [*]; exact Eq.refl _)); (focus (simp; exact Eq.refl _))))); (exact runE_nil))); (focus (simp [fpA, fpF, isFn, fpo, topIds, lightS, light, Op.operands, Call.operands]; try kernel_rfl))))
  refine amStr (h := ?_)
  (focus ((with_reducible refine s_draw2 (q := ?_) (es := ?_) (σ' := ?_) prog_mixed TT_ok PT75_ok ?_ ?_ ?_ ?_); rotate_left 3; (focus (first | (simp; exact Eq.refl _) | exact Eq.refl _)); (focus ((repeat (((with_reducible refine runE_cons (e := ?_) (σ1 := ?_) (es := ?_) ?_ ?_ ?_); rotate_left 3; (focus (simp [*]; exact Eq.refl _)); (focus (simp; exact Eq.refl _))))); (exact runE_nil))); (focus (simp [fpA, fpF, isFn, fpo, topIds, lightS, light, Op.operands, Call.operands]; try kernel_rfl))))
  refine amStr (h := ?_)
  refine amReg PT75_ok (h := ?_)
  refine amStr (h := ?_)
  (focus ((with_reducible refine s_draw2 (q := ?_) (es := ?_) (σ' := ?_) prog_mixed TT_ok PT75_ok ?_ ?_ ?_ ?_); rotate_left 3; (focus (first | (simp; exact Eq.refl _) | exact Eq.refl _)); (focus ((repeat (((with_reducible refine runE_cons (e := ?_) (σ1 := ?_) (es := ?_) ?_ ?_ ?_); rotate_left 3; (focus (simp [*]; exact Eq.refl _)); (focus (simp; exact Eq.refl _))))); (exact runE_nil))); (focus (simp [fpA, fpF, isFn, fpo, topIds, lightS, light, Op.operands, Call.operands]; try kernel_rfl))))
  refine amGo PT75_ok (h := ?_)
  refine s_loop (J := fun _ : Unit => ⟨119, [(2, .ptr 0 0 0), (3, .ptr 1 0 0), (4, .v (.bool false)), (5, .ptr 7 0 0), (6, .sl 2 [[aInts ts, aInts cs]]), (11, .v (.slice none 0 0)), (83, .v (.int .i64 0)), (84, .v (.int .i64 0))], [(0, ⟨24, 2, [[.v (.int .i64 N), aRows L]]⟩), (1, ⟨27, 2, [[aInts ts, aInts cs]]⟩), (7, ⟨24, 2, [[.v (.int .i64 N), aRows L]]⟩)], [7, 1, 0]⟩) (μ := fun _ => 0) () ?_ (fun _ => ?_)
  · (refine weak_id rfl ?_ ?_ <;> ((try simp only [List.mem_cons, List.not_mem_nil, or_false, forall_eq_or_imp, forall_eq]); (try simp (disch := omega) [i64w, *])))
  refine amGo PT75_ok (h := ?_)
  refine s_loop (J := fun _ : Unit => ⟨119, [(2, .ptr 0 0 0), (3, .ptr 1 0 0), (4, .v (.bool false)), (5, .ptr 7 0 0), (6, .sl 2 [[aInts ts, aInts cs]]), (99, .v (.int .i64 0)), (100, .v (.int .i64 0))], [(0, ⟨24, 2, [[.v (.int .i64 N), aRows L]]⟩), (1, ⟨27, 2, [[aInts ts, aInts cs]]⟩), (7, ⟨24, 2, [[.v (.int .i64 N), aRows L]]⟩)], [7, 1, 0]⟩) (μ := fun _ => 0) () ?_ (fun _ => ?_)
  · (refine weak_id rfl ?_ ?_ <;> ((try simp only [List.mem_cons, List.not_mem_nil, or_false, forall_eq_or_imp, forall_eq]); (try simp (disch := omega) [i64w, *])))
  refine amGo PT75_ok (h := ?_)
  ((refine post_ret (av := ?_) (by first | exact .inl rfl | exact .inr rfl) (show (Try.f3).results.toList = _ from by rw [Try.results3]) ?_ ?_); rotate_left; (focus (simp [retA, retL, ret1, lk, st, ldA, AV.cell]; rfl)); (try simp [*]))
theorem traceResiduals_p (N : Int) (L : List (List Int)) (ts cs : List Int) (hN : okI N = true) (hL : okLens L = true) (hT : okIL ts = true) (hC : okIL cs = true) : FnPure Try.prog 3 [aTh N L, aCl ts cs] (.v (.bool true)) := by
  by_cases hl : lightB L = true
  · have hr := light_rows hL hl
    by_cases hlc : lightC ts cs = true
    · obtain ⟨ht, hc, _, _⟩ := lightC_ok hT hC hlc
      by_cases hz : checkT N L = 0 ∧ goodB N L.length ts cs = true
      · exact residuals_ok N L ts cs hN hr hl ht hc hlc hz.1 hz.2
      · exact residuals_err N L ts cs hN hr hl ht hc hlc hz
    · unfold aTh aCl
      refine fn_sp TT_ok Try.func3 (c := _) rfl (by simp [Try.ntmps3]) (fun B hI0 hro => ?_)
      rw [Try.ntmps3]
      simp only [enumA]
      refine amGo PT75_ok (h := ?_)
      ((refine post_ret (av := ?_) (by first | exact .inl rfl | exact .inr rfl) (show (Try.f3).results.toList = _ from by rw [Try.results3]) ?_ ?_); rotate_left; (focus (simp [retA, retL, ret1, lk, st, ldA, AV.cell]; rfl)); (try simp [*]))
  · unfold aTh aCl
    refine fn_sp TT_ok Try.func3 (c := _) rfl (by simp [Try.ntmps3]) (fun B hI0 hro => ?_)
    rw [Try.ntmps3]
    simp only [enumA]
    refine amGo PT75_ok (h := ?_)
    ((refine post_ret (av := ?_) (by first | exact .inl rfl | exact .inr rfl) (show (Try.f3).results.toList = _ from by rw [Try.results3]) ?_ ?_); rotate_left; (focus (simp [retA, retL, ret1, lk, st, ldA, AV.cell]; rfl)); (try simp [*]))
namespace traceResiduals
set_option maxRecDepth 100000 in
theorem lifted (os : Os) (started : os.Started) (H : Type) (enc : TypeId × Value → H) :
    ReturnsInHanded {} Try.checked os 3 .any (Rows.traceResidualsSpec.pre6 enc Try.prog Go.Proofs.Try.f3 Rows.traceResidualsRow.domain false) (Rows.traceResidualsSpec.post enc Try.prog Go.Proofs.Try.f3 false true false false) := by
  refine returnsInHanded_of_change (C := Try.checked) (by kernel_rfl) started (by kernel_rfl) Try.func3
    (ChangeSpec.witness6 (enc := enc) (C := Try.checked) false ⟨#[], #[.agg #[.int .i64 0, .slice none 0 0], .agg #[.slice none 0 0, .slice none 0 0]], []⟩ 8 (by kernel_rfl) (by kernel_rfl) (by kernel_rfl) (by kernel_rfl)) ?_
  intro W base args ds gs before hval0 hW hcnd _
  have hval : ∀ (j : Nat) t v, (Go.Proofs.Try.f3).params[j]? = some t → args[j]? = some v → Value.okWide Try.prog W .any base t v := hval0
  have hW2 := hW
  obtain ⟨p, q, hA0, hV, _, _, _⟩ := hW
  have hA : DataW.TrodAll enc Try.prog W 0 (fun _ => true) true (Go.Proofs.Try.f3).params.toList args.toList ds p := hA0
  rw [Try.params3] at hA hval
  clear hA0 hval0 hcnd
  obtain ⟨rfl, _⟩ := trodVars_none hV
  obtain ⟨v0, vs0, d0, ds0, p0, q0, hargs, rfl, _, h0, r0⟩ := trodAll_cons hA
  obtain ⟨v1, vs1, d1, ds1, p1, q1, rfl, rfl, _, h1, r1⟩ := trodAll_cons r0
  obtain ⟨rfl, rfl, _⟩ := trodAll_nil r1
  obtain rfl : args = #[v0, v1] := by cases args; simp_all
  obtain ⟨N, L, ra0, oN0, oL0⟩ := arg_th (hval 0 _ v0 rfl rfl) h0
  obtain ⟨ts, cs, ra1, oN1, oL1⟩ := arg_cl (hval 1 _ v1 rfl rfl) h1
  refine law_of_pure (glob0 _) (avs := [.agg [.v (.int .i64 N), aRows L], aCl ts cs]) (by kernel_rfl) hW2 rfl (rec_ok (by kernel_rfl)) (tb := 4) rfl Try.underlying4 rfl rfl rfl rfl (fun i hi => ?_) (traceResiduals_p N L ts cs oN0 oL0 oN1 oL1)
  match i, hi with
  | 0, _ => exact ra0
  | 1, _ => exact ra1
theorem proved : Rows.TraceResidualsSaid :=
  OpenClaim.holds_of_wide 3 Go.Proofs.Try.f3 rfl rfl rfl rfl rfl rfl rfl ⟨rfl, rfl, rfl, rfl, rfl⟩ rfl rfl rfl rfl rfl (by kernel_rfl) Try.func3 (by kernel_rfl)
    (of_decide_eq_true (by kernel_rfl)) (by unfold Func.isWrapper; first | (rw [if_pos (by decide +kernel)]; kernel_rfl) | (rw [if_neg (by decide +kernel)]; exact ⟨rfl, rfl⟩))
    (fun os started H enc _ => lifted os started H enc)
end traceResiduals
end Go.Proofs.Ythdjgcjpolpgdaa
