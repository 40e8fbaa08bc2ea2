/- The law CanonSmalls, by the abstract machine; no condition. -/
import Derived.Test.YtafikekndefjcaaDoorSh17
import Derived.Test.YtafikekndefjcaaDoorWa
import Derived.Test.YtafikekndefjcaaDoorRows
import Derived.Test.YtafikekndefjcaaDoorLd
namespace Go.Proofs.YtafikekndefjcaaDoor
set_option linter.unusedVariables false
set_option linter.unusedSimpArgs false
set_option linter.unusedSectionVars false
open Go.ChangeShapes Go.WideShapes Go.ChangeAt Go.RowKit
attribute [local simp] List.getD_cons_zero List.getD_cons_succ List.getD_nil undef gvars runL runE effA stepA dstOk wantA core lk st dl AS.ev AS.evs AS.put AS.upd updO updI nxt cPick cAlloc cBox cBuild cBuildS cLoad cStore cNil plainOf cBin cNilS isNilS nilA cUn cConvX cConvB cConv bytesOf rowB cMake cSlice slA idxA cFA cF cIA cIX cIS cI cExt cLen cApp cMM cFun cCall lenA lenM isNilM nilM cNilM cMakeM hintB cMapK cLook foundR lookR cUpd putM cDel delM findA isKeyB Instr.sameNow AS.entry AS.bound AS.callee sc1 sc2 ixOk ldA AV.flat AV.cell AV.cells Value.oneCell' fillA spl chunk zeros AS.parts AS.rows AS.shut AS.shut1 AS.shut2 AS.shutL AS.shutM AV.ids idsL idsLL eqAll bndA AV.scalar AV.scalar1 AV.isV Ef.app Ef.pk ptOf pntO wrO wr
attribute [-simp] List.getD_eq_getElem?_getD
set_option maxRecDepth 100000
attribute [local simp] AV.ren renL obI shO_cons lk_st lk_dl renLL_append updI_mem
def SameLen (D M : List (List Int)) : Prop := M.length = D.length ∧ ∀ j, (M.getD j []).length = (D.getD j []).length
theorem SameLen.set {D M : List (List Int)} (h : SameLen D M) {i : Nat} {c : List Int} (hc : c.length = (M.getD i []).length) : SameLen D (M.set i c) := by
  refine ⟨by simp [h.1], fun j => ?_⟩
  rw [← h.2 j]
  by_cases hj : i < M.length
  · by_cases e : i = j
    · subst e; simp [List.getD, hj]; rw [hc]; simp [List.getD, hj]
    · simp [List.getD, List.getElem?_set, e]
  · rw [List.set_eq_of_length_le (by omega)]
set_option maxHeartbeats 4000000 in
theorem smalls_ok (N : Int) (L : List (List Int)) (hN : okI N = true) (hr : okRows L = true) (hl : lightB L = true) (hz : checkT N L = 0) : FnPure Tryd.prog 3 [aTh N L] (.v (.bool true)) := by
  have hL := okLens_rows hr
  have hsA : smallA N L = .tup [.agg [.v (.int .i64 ((smallN (normL L)).length : Int)), aRows (smallL (normL L))], aInts (smallN (normL L)), .v (.int .i64 0)] := by unfold smallA; rw [if_pos hz]; rfl
  have hkA : keyA N L = .tup [aB (keyL (smallL (normL L))), .v (.int .i64 0)] := by unfold keyA; rw [if_pos hz]
  have hck := small_check (normL_check hz)
  have hKb0 := okB_check hck
  have hob := small_obj N L hN hr hz
  have hnmn := names_listS (varsT (normL L))
  have hokn : okInts (smallN (normL L)) = true := by
    have := names_len hnmn
    simp only [okInts, Bool.and_eq_true, List.all_eq_true, decide_eq_true_eq]
    exact ⟨fun x hx => by have := hnmn.r x hx; exact okI_iff.2 ⟨by omega, by omega⟩, by unfold smallN; omega⟩
  have hZr := okRows_check hck
  clear hnmn hz
  generalize smallN (normL L) = names at hsA hck hob hokn
  generalize smallL (normL L) = Z at hsA hkA hck hKb0 hob hZr
  clear hck
  have hZl := okRows_len hZr
  have hsm : thSame N L N L = true := by simp [thSame]
  obtain ⟨n, hn⟩ : ∃ n : Int, (names.length : Int) = n := ⟨_, rfl⟩
  rw [hn] at hsA
  have hsmZ : thSame n Z n Z = true := by simp [thSame]
  unfold resS objT idsT at hob
  rw [hn] at hob
  unfold aTh at *
  have hfe : aTh N L = .agg [.v (.int .i64 N), aRows L] := rfl
  refine fn_sp TT_ok Tryd.func3 (c := _) rfl (by simp [Tryd.ntmps3]) (fun B hI0 hro => ?_)
  rw [Tryd.ntmps3]
  simp only [enumA]
  refine amStr (h := ?_)
  refine amReg PT83_ok (h := ?_)
  refine amStr (h := ?_)
  refine amReg PT83_ok (h := ?_)
  refine amStr (h := ?_)
  refine amReg PT83_ok (h := ?_)
  refine amStr (h := ?_)
  refine s_regionL ?_
  ((iterate 1 (((with_reducible refine spl_step TT_ok PT83_ok (id := 0) (σ' := ?_) ?_ ?_); rotate_left; (focus (simp [*]; rfl))))))
  refine spl_obj hob 1000 (by simp) rfl rfl (enters_ok (avs := [.agg [.v (.int .i64 N), aRows L]]) (cs := []) rfl (by kernel_rfl) rfl rfl) (by simp [idsL, AV.ids]) (fun c h => by cases h) ?_
  simp only [shO_cons, shO_famI, ren_refsI_add, List.map_cons, List.cons_append]
  refine spl_famE (by simp) ?_
  (refine spl_eq (τ := ?_) ?_ ?_; rotate_left; (focus ((try simp only [AS.frz, List.map_cons, List.map_nil]); (try simp [frzV, frzO, frzC, List.filter]); rfl)))
  ((iterate 4 (((with_reducible refine spl_step TT_ok PT83_ok (id := 0) (σ' := ?_) ?_ ?_); rotate_left; (focus (simp [*]; rfl))))))
  (((with_reducible refine spl_step TT_ok PT83_ok (id := 4) (σ' := ?_) ?_ ?_); rotate_left; (focus (simp [*]; rfl))))
  ((iterate 3 (((with_reducible refine spl_step TT_ok PT83_ok (id := 0) (σ' := ?_) ?_ ?_); rotate_left; (focus (simp [*]; rfl))))))
  refine spl_nil ?_
  refine amStr (h := ?_)
  refine s_weak ⟨97, [(1, .ptr 0 0 0), (2, .v (.bool false)), (3, .ptr 3 0 0), (4, .ptr 4 0 0), (5, aInts names), (6, .v (.int .i64 0))], [(0, ⟨24, 2, [[.v (.int .i64 N), aRows L]]⟩), (3, ⟨24, 2, [[.v (.int .i64 N), aRows L]]⟩), (4, ⟨24, 2, [[.v (.int .i64 n), .ref 1000 0 Z.length]]⟩), (1000, ⟨28, 1, refsI 1001 Z⟩)] ++ fam 1001 Z, [1000, 4, 3, 0] ++ List.range' 1001 Z.length⟩ ?ww ?_
  case ww =>
    (refine weak_fam (fun q => q) rfl ?_ ?_ ?_ ?_ ?_ ?_ <;> ((try simp only [List.mem_cons, List.not_mem_nil, or_false, forall_eq_or_imp, forall_eq]); (try simp (disch := omega) [lk, AV.ids, idsL, idsLL, AV.ren, renL, renLL, i64w, *])))
    · exact ⟨(renLL_id _).symm, fun q hq => .inr (ids_refsI 1001 Z hq)⟩
    · intro j hj
      repeat rw [if_neg (by omega)]
      exact lk_fam_add hj
    · repeat' apply And.intro
      all_goals (intro j hj; omega)
  refine s_regionL ?_
  ((iterate 6 (((with_reducible refine spl_step TT_ok PT83_ok (id := 0) (σ' := ?_) ?_ ?_); rotate_left; (focus (simp [*]; rfl))))))
  (((with_reducible refine spl_step TT_ok PT83_ok (id := 7) (σ' := ?_) ?_ ?_); rotate_left; (focus (simp [*]; rfl))))
  ((iterate 3 (((with_reducible refine spl_step TT_ok PT83_ok (id := 0) (σ' := ?_) ?_ ?_); rotate_left; (focus (simp [*]; rfl))))))
  refine spl_nil ?_
  refine amStr (h := ?_)
  refine s_regionL ?_
  ((iterate 6 (((with_reducible refine spl_step TT_ok PT83_ok (id := 0) (σ' := ?_) ?_ ?_); rotate_left; (focus (simp [*]; rfl))))))
  refine spl_op (s := (.v (.bool true), [])) rfl rfl (ok_call_all (f := 17) (bvs := [aTh n Z, aTh n Z]) (enters_ok (avs := [.agg [.v (.int .i64 n), .ref 1000 0 Z.length], .agg [.v (.int .i64 n), aRows Z]]) (cs := []) rfl (by kernel_rfl) rfl rfl) rfl (fun B G w a hr i v hi hv => ?_) (hsmZ ▸ rSame_p n Z n Z hZr hZr) rfl) ?_
  · match i, hi with
    | 0, _ =>
      refine read_th hr (k := 1000) (b := 1001) (t := 28) rfl (fun j hj => ?_) hv
      simp only [lk, lk_st]
      repeat rw [if_neg (by omega)]
      exact lk_fam_add hj
    | 1, _ => exact Rv.pure (G := G) (G' := G0 _) (fun b p u h => hr.heap.st b p u h) hv (by simp [aTh, AV.ids, idsL])
  ((iterate 8 (((with_reducible refine spl_step TT_ok PT83_ok (id := 0) (σ' := ?_) ?_ ?_); rotate_left; (focus (simp [*]; rfl))))))
  refine spl_nil ?_
  refine amStr (h := ?_)
  have hZi : ∀ j, (Z.getD j []).length ≤ 17592186044416 := fun j => okInts_len (okRows_at hZr j)
  have same : ∀ (σ : AS) (slots : List (Nat × AV)) (i : Nat) (M : List (List Int)), σ.n = 97 → SameLen Z M → (∀ p ∈ slots, lk σ.slots p.1 = some p.2 ∧ ∀ k ∈ p.2.ids, k ∈ [1001 + i, 1000, 4, 3, 0]) → lk σ.objs 0 = some ⟨24, 2, [[.v (.int .i64 N), aRows L]]⟩ → lk σ.objs 3 = some ⟨24, 2, [[.v (.int .i64 N), aRows L]]⟩ → lk σ.objs 4 = some ⟨24, 2, [[.v (.int .i64 n), .ref 1000 0 Z.length]]⟩ → lk σ.objs 1000 = some ⟨28, 1, refsI 1001 Z⟩ → (∀ j, j < Z.length → lk σ.objs (1001 + j) = some (obI (M.getD j []))) →
      Weak σ ⟨97, slots, [(0, ⟨24, 2, [[.v (.int .i64 N), aRows L]]⟩), (3, ⟨24, 2, [[.v (.int .i64 N), aRows L]]⟩), (4, ⟨24, 2, [[.v (.int .i64 n), .ref 1000 0 Z.length]]⟩), (1000, ⟨28, 1, refsI 1001 Z⟩)] ++ fam 1001 M, [1001 + i, 1000, 4, 3, 0] ++ List.range' 1001 M.length⟩ := by
    intro σ slots i M hn hM hs h0 h3 h4 h10 hf
    refine weak_fam (fun q => q) hn.symm (fun p hp => ?_) (fun p hp => ?_) (fun j hj => ?_) (fun p _ q _ e => e) (fun j _ i _ e => by omega) (fun p hp j _ => ?_)
    · obtain ⟨g1, g2⟩ := hs p hp
      exact ⟨by rw [AV.ren_id]; exact g1, g2⟩
    · simp only [List.mem_cons, List.not_mem_nil, or_false] at hp
      rcases hp with rfl | rfl | rfl | rfl
      · exact ⟨by omega, by rw [h0]; simp [renLL], by simp, fun q hq => by simp [idsLL, idsL, AV.ids] at hq⟩
      · exact ⟨by omega, by rw [h3]; simp [renLL], by simp, fun q hq => by simp [idsLL, idsL, AV.ids] at hq⟩
      · exact ⟨by omega, by rw [h4]; simp [renLL], by simp, fun q hq => by simp [idsLL, idsL, AV.ids] at hq; subst hq; simp⟩
      · refine ⟨by omega, ?_, by simp, fun q hq => .inr ?_⟩
        · rw [h10]; dsimp only; rw [renLL_id]
        · rw [hM.1]; exact ids_refsI 1001 Z hq
    · rw [hf j (by rw [← hM.1]; exact hj)]
    · simp only [List.mem_cons, List.not_mem_nil, or_false] at hp
      rcases hp with rfl | rfl | rfl | rfl <;> dsimp only <;> omega
  refine s_regionL ?_
  ((iterate 4 (((with_reducible refine spl_step TT_ok PT83_ok (id := 0) (σ' := ?_) ?_ ?_); rotate_left; (focus (simp [*]; rfl))))))
  refine spl_nil ?_
  refine amStr (h := ?_)
  refine s_loop (J := fun i : {p : Nat × List (List Int) // p.1 ≤ Z.length ∧ SameLen Z p.2} => ⟨97, [(1, .ptr 0 0 0), (2, .v (.bool false)), (3, .ptr 3 0 0), (4, .ptr 4 0 0), (49, .v (.int .i64 (Z.length : Int))), (50, .v (.int .i64 (i.1.1 : Int)))], [(0, ⟨24, 2, [[.v (.int .i64 N), aRows L]]⟩), (3, ⟨24, 2, [[.v (.int .i64 N), aRows L]]⟩), (4, ⟨24, 2, [[.v (.int .i64 n), .ref 1000 0 Z.length]]⟩), (1000, ⟨28, 1, refsI 1001 Z⟩)] ++ fam 1001 i.1.2, [1001 + i.1.1, 1000, 4, 3, 0] ++ List.range' 1001 i.1.2.length⟩) (μ := fun i => Z.length - i.1.1) ⟨(0, Z), by omega, rfl, fun _ => rfl⟩ ?_ (fun ⟨⟨i, M⟩, hi, hM⟩ => ?_)
  · dsimp only
    refine same _ _ 0 Z rfl ⟨rfl, fun _ => rfl⟩ (by simp [lk, AV.ids]) (by simp [lk]) (by simp [lk]) (by simp [lk]) (by simp [lk]) (fun j hj => ?_)
    simp only [lk, List.cons_append, List.nil_append, lk_st]
    repeat rw [if_neg (by omega)]
    exact lk_fam_add hj
  dsimp only at hi hM
  refine amStr (h := ?_)
  refine s_regionL ?_
  ((iterate 1 (((with_reducible refine spl_step TT_ok PT83_ok (id := 0) (σ' := ?_) ?_ ?_); rotate_left; (focus (simp [*]; rfl))))))
  refine spl_nil ?_
  refine amStr (h := ?_)
  (focus ((with_reducible refine sp_cond (b := ?_) ?_ (fun hc => ?_) (fun hc => ?_)); rotate_left; (focus (first | rfl | (simp [lk, AS.ev]; rfl))); all_goals (try simp at hc)))
  · have hii := hc
    clear hc
    have hrg := refsI_get (b := 1001) hii
    have hrl := refsI_len 1001 Z
    have hil := hZi i
    refine amStr (h := ?_)
    refine s_regionL ?_
    ((iterate 2 (((with_reducible refine spl_step TT_ok PT83_ok (id := 0) (σ' := ?_) ?_ ?_); rotate_left; (focus (simp [*]; rfl))))))
    refine spl_nil ?_
    refine amStr (h := ?_)
    refine s_regionL ?_
    ((iterate 7 (((with_reducible refine spl_step TT_ok PT83_ok (id := 0) (σ' := ?_) ?_ ?_); rotate_left; (focus (simp [*]; rfl))))))
    refine spl_nil ?_
    refine amStr (h := ?_)
    refine s_loop (J := fun q : {p : Nat × List (List Int) // p.1 ≤ (Z.getD i []).length ∧ SameLen Z p.2} => ⟨97, [(1, .ptr 0 0 0), (2, .v (.bool false)), (3, .ptr 3 0 0), (4, .ptr 4 0 0), (10, .v (.int .i64 (i : Int))), (49, .v (.int .i64 (Z.length : Int))), (50, .v (.int .i64 (i : Int))), (58, .v (.int .i64 ((Z.getD i []).length : Int))), (59, .v (.int .i64 (q.1.1 : Int)))], [(0, ⟨24, 2, [[.v (.int .i64 N), aRows L]]⟩), (3, ⟨24, 2, [[.v (.int .i64 N), aRows L]]⟩), (4, ⟨24, 2, [[.v (.int .i64 n), .ref 1000 0 Z.length]]⟩), (1000, ⟨28, 1, refsI 1001 Z⟩)] ++ fam 1001 q.1.2, [1001 + i, 1000, 4, 3, 0] ++ List.range' 1001 q.1.2.length⟩) (μ := fun q => (Z.getD i []).length - q.1.1) ⟨(0, M), by omega, hM⟩ ?_ (fun ⟨⟨k, M⟩, hk, hM⟩ => ?_)
    · refine same _ _ i M rfl hM (by simp [lk, AV.ids]) (by simp [lk]) (by simp [lk]) (by simp [lk]) (by simp [lk]) (fun j hj => ?_)
      simp only [lk, List.cons_append, List.nil_append]
      repeat rw [if_neg (by omega)]
      exact lk_fam_add (by rw [hM.1]; exact hj)
    dsimp only at hk hM
    refine amStr (h := ?_)
    refine s_regionL ?_
    ((iterate 1 (((with_reducible refine spl_step TT_ok PT83_ok (id := 0) (σ' := ?_) ?_ ?_); rotate_left; (focus (simp [*]; rfl))))))
    refine spl_nil ?_
    refine amStr (h := ?_)
    (focus ((with_reducible refine sp_cond (b := ?_) ?_ (fun hc => ?_) (fun hc => ?_)); rotate_left; (focus (first | rfl | (simp [lk, AS.ev]; rfl))); all_goals (try simp at hc)))
    · have hkk := hc
      clear hc
      have hki : k < (M.getD i []).length := by rw [hM.2]; exact hkk
      have hiM : i < M.length := by rw [hM.1]; exact hii
      have hf := lk_fam_add (b := 1001) hiM
      unfold obI at hf
      have hn0 : ¬ 0 = 1001 + i := by omega
      have hn3 : ¬ 3 = 1001 + i := by omega
      have hn4 : ¬ 4 = 1001 + i := by omega
      have hn10 : ¬ 1000 = 1001 + i := by omega
      refine amStr (h := ?_)
      refine s_regionL ?_
      ((iterate 2 (((with_reducible refine spl_step TT_ok PT83_ok (id := 0) (σ' := ?_) ?_ ?_); rotate_left; (focus (simp [*]; rfl))))))
      refine spl_nil ?_
      refine amStr (h := ?_)
      refine s_regionL ?_
      ((iterate 8 (((with_reducible refine spl_step TT_ok PT83_ok (id := 0) (σ' := ?_) ?_ ?_); rotate_left; (focus (simp [*]; rfl))))))
      refine spl_nil ?_
      refine amStr (h := ?_)
      refine s_regionL ?_
      ((iterate 2 (((with_reducible refine spl_step TT_ok PT83_ok (id := 0) (σ' := ?_) ?_ ?_); rotate_left; (focus (simp [*]; rfl))))))
      refine spl_nil ?_
      refine amStr (h := ?_)
      refine k_lp (⟨(k + 1, M.set i ((M.getD i []).set k 77)), by dsimp only; omega, hM.set (by simp)⟩ : {p : Nat × List (List Int) // p.1 ≤ (Z.getD i []).length ∧ SameLen Z p.2}) (by dsimp only; omega) ?_
      have hw : IntKind.i64.wrap ((k : Int) + 1) = (k : Int) + 1 := i64s k (by omega)
      refine same _ _ i _ rfl (hM.set (by simp)) (by simp [lk, AV.ids, hw]) (by simp [lk, hn0]) (by simp [lk, hn3]) (by simp [lk, hn4]) (by simp [lk, hn10]) (fun j hj => ?_)
      simp only [lk, List.cons_append, List.nil_append, lk_st]
      repeat rw [if_neg (by omega)]
      by_cases e : j = i
      · subst e
        rw [if_pos rfl]
        simp [List.getD, hiM, obI, List.map_set]
      · rw [if_neg (by omega), lk_fam_add (by rw [hM.1]; exact hj)]
        simp [List.getD, List.getElem?_set, Ne.symm e]
    · clear hc
      refine amStr (h := ?_)
      refine s_regionL ?_
      ((iterate 2 (((with_reducible refine spl_step TT_ok PT83_ok (id := 0) (σ' := ?_) ?_ ?_); rotate_left; (focus (simp [*]; rfl))))))
      refine spl_nil ?_
      refine amStr (h := ?_)
      refine k_lp (⟨(i + 1, M), by dsimp only; omega, hM⟩ : {p : Nat × List (List Int) // p.1 ≤ Z.length ∧ SameLen Z p.2}) (by dsimp only; omega) ?_
      have hw : IntKind.i64.wrap ((i : Int) + 1) = (i : Int) + 1 := i64s i (by omega)
      refine same _ _ (i + 1) M rfl hM (by simp [lk, AV.ids, hw]) (by simp [lk]) (by simp [lk]) (by simp [lk]) (by simp [lk]) (fun j hj => ?_)
      simp only [lk, List.cons_append, List.nil_append]
      repeat rw [if_neg (by omega)]
      exact lk_fam_add (by rw [hM.1]; exact hj)
  · clear hc
    refine s_weak ⟨97, [(1, .ptr 0 0 0), (2, .v (.bool false)), (3, .ptr 3 0 0)], [(0, ⟨24, 2, [[.v (.int .i64 N), aRows L]]⟩), (3, ⟨24, 2, [[.v (.int .i64 N), aRows L]]⟩)], [3, 0]⟩ ?_ ?_
    · (refine weak_id rfl ?_ ?_ <;> ((try simp only [List.mem_cons, List.not_mem_nil, or_false, forall_eq_or_imp, forall_eq]); (try simp (disch := omega) [i64w, *])))
    have hKb := hKb0
    refine amGo PT83_ok (h := ?_)
    ((refine post_ret (av := ?_) (by first | exact .inl rfl | exact .inr rfl) (show (Tryd.f3).results.toList = _ from by rw [Tryd.results3]) ?_ ?_); rotate_left; (focus (simp [retA, retL, ret1, lk, st, ldA, AV.cell]; rfl)); (try simp [*]))
set_option maxHeartbeats 2000000 in
theorem smalls_err (N : Int) (L : List (List Int)) (hN : okI N = true) (hr : okRows L = true) (hl : lightB L = true) (hz : ¬ checkT N L = 0) : FnPure Tryd.prog 3 [aTh N L] (.v (.bool true)) := by
  have hL := okLens_rows hr
  have hsA : smallA N L = .tup [.agg [.v (.int .i64 0), .v (.slice none 0 0)], .v (.slice none 0 0), .v (.int .i64 (checkT N L))] := by unfold smallA; rw [if_neg hz]
  have hkA : keyA N L = .tup [.v (.slice none 0 0), .v (.int .i64 (checkT N L))] := by unfold keyA; rw [if_neg hz]
  have hsm : thSame N L N L = true := by simp [thSame]
  have hsm0 : thSame 0 [] 0 [] = true := by simp [thSame]
  have hi0 : okI 0 = true := rfl
  have hb0 : okB [] = true := rfl
  have hn0 : toInts (.v (.slice none 0 0)) = some [] := rfl
  have hn1 : toRows (.v (.slice none 0 0)) = some [] := rfl
  generalize checkT N L = e at hsA hkA
  clear hz
  unfold aTh
  have hfe : aTh N L = .agg [.v (.int .i64 N), aRows L] := rfl
  refine fn_sp TT_ok Tryd.func3 (c := _) rfl (by simp [Tryd.ntmps3]) (fun B hI0 hro => ?_)
  rw [Tryd.ntmps3]
  simp only [enumA]
  refine amGo PT83_ok (h := ?_)
  refine s_loop (J := fun _ : Unit => ⟨97, [(1, .ptr 0 0 0), (2, .v (.bool false)), (3, .ptr 3 0 0), (49, .v (.int .i64 0)), (50, .v (.int .i64 0))], [(0, ⟨24, 2, [[.v (.int .i64 N), aRows L]]⟩), (3, ⟨24, 2, [[.v (.int .i64 N), aRows L]]⟩)], [3, 0]⟩) (μ := fun _ => 0) () ?_ (fun _ => ?_)
  · (refine weak_id rfl ?_ ?_ <;> ((try simp only [List.mem_cons, List.not_mem_nil, or_false, forall_eq_or_imp, forall_eq]); (try simp (disch := omega) [i64w, *])))
  refine amGo PT83_ok (h := ?_)
  ((refine post_ret (av := ?_) (by first | exact .inl rfl | exact .inr rfl) (show (Tryd.f3).results.toList = _ from by rw [Tryd.results3]) ?_ ?_); rotate_left; (focus (simp [retA, retL, ret1, lk, st, ldA, AV.cell]; rfl)); (try simp [*]))
theorem canonSmalls_p (N : Int) (L : List (List Int)) (hN : okI N = true) (hL : okLens L = true) : FnPure Tryd.prog 3 [aTh N L] (.v (.bool true)) := by
  by_cases hl : lightB L = true
  · have hr := light_rows hL hl
    by_cases hz : checkT N L = 0
    · exact smalls_ok N L hN hr hl hz
    · exact smalls_err N L hN hr hl hz
  · unfold aTh
    refine fn_sp TT_ok Tryd.func3 (c := _) rfl (by simp [Tryd.ntmps3]) (fun B hI0 hro => ?_)
    rw [Tryd.ntmps3]
    simp only [enumA]
    refine amGo PT83_ok (h := ?_)
    ((refine post_ret (av := ?_) (by first | exact .inl rfl | exact .inr rfl) (show (Tryd.f3).results.toList = _ from by rw [Tryd.results3]) ?_ ?_); rotate_left; (focus (simp [retA, retL, ret1, lk, st, ldA, AV.cell]; rfl)); (try simp [*]))
namespace canonSmalls
set_option maxRecDepth 100000
theorem contract (H : Type) (enc : TypeId × Value → H) (W : World) (base : Nat) (args : Array Value) (ds gs : List (DataW H)) (before : List MemPlace)
    (hval0 : ∀ (j : Nat) t v, (Go.Proofs.Tryd.f3).params[j]? = some t → args[j]? = some v → Value.okWide Tryd.prog W .any base t v)
    (hW : DataW.Whole enc Tryd.prog (Go.Proofs.Tryd.f3).params.toList Rows.canonSmallsSpec.vars false W args.toList ds gs before) (hL : laidMetH Tryd.prog Rows.canonSmallsRow.laid W) :
    Calls Tryd.prog 3 args W fun e W' => ∃ v, e = .returned v ∧ Rows.canonSmallsSpec.post enc Tryd.prog Go.Proofs.Tryd.f3 false true false false W args v W' := by
  have hval : ∀ (j : Nat) t v, (Go.Proofs.Tryd.f3).params[j]? = some t → args[j]? = some v → Value.okWide Tryd.prog W .any base t v := hval0
  have hW2 := hW
  obtain ⟨p, q, hA0, hV, _, _, _⟩ := hW
  have hA : DataW.TrodAll enc Tryd.prog W 0 (fun _ => true) true (Go.Proofs.Tryd.f3).params.toList args.toList ds p := hA0
  rw [Tryd.params3] at hA hval
  clear hA0 hval0
  obtain ⟨rfl, _⟩ := trodVars_none hV
  obtain ⟨v0, vs0, d0, ds0, p0, q0, hargs, rfl, _, h0, r0⟩ := trodAll_cons hA
  obtain ⟨rfl, rfl, _⟩ := trodAll_nil r0
  obtain rfl : args = #[v0] := by cases args; simp_all
  obtain ⟨N, L, ra0, oN0, oL0⟩ := arg_th (hval 0 _ v0 rfl rfl) h0
  refine law_of_pure (glob_of_laid hL) (avs := [.agg [.v (.int .i64 N), aRows L]]) (by kernel_rfl) hW2 rfl (rec_ok (by kernel_rfl)) (tb := 4) rfl Tryd.underlying4 rfl rfl rfl rfl (fun i hi => ?_) (canonSmalls_p N L oN0 oL0)
  match i, hi with
  | 0, _ => exact ra0
theorem laid_met (os : Os) : laidMet Tryd.prog Rows.canonSmallsRow.laid ((laidWorld os).forCall (fun _ _ => 0) ⟨#[], #[.agg #[.int .i64 0, .slice none 0 0]], []⟩).memory :=
  laidMet_of_run' 8 (by kernel_rfl) (by kernel_rfl)
theorem lifted (os : Os) (started : os.Started) (H : Type) (enc : TypeId × Value → H) (F : Stop.Interp) :
    ReturnsInHanded {} Tryd.checked os 3 .any ((OpenSpec.ofChange Rows.canonSmallsSpec).preRow enc Tryd.prog Go.Proofs.Tryd.f3 Rows.canonSmallsRow.domain false Rows.canonSmallsRow.laid) (((OpenSpec.ofChange Rows.canonSmallsSpec).at F).post enc Tryd.prog Go.Proofs.Tryd.f3 false true false false) := by
  refine returnsInHanded_of_row (C := Tryd.checked) (s := OpenSpec.ofChange Rows.canonSmallsSpec) (by kernel_rfl) started (by kernel_rfl) Tryd.func3
    (witness_row_at (enc := enc) (C := Tryd.checked) false (laidWorld os) #[.agg #[.int .i64 0, .slice none 0 0]] rfl (by kernel_rfl) (by kernel_rfl) (by kernel_rfl)
      (OpenSpec.preRow_of_cond 8 (show DataW.whole enc Tryd.prog ((laidWorld os).forCall (fun _ _ => 0) ⟨#[], #[.agg #[.int .i64 0, .slice none 0 0]], []⟩).memory (Go.Proofs.Tryd.f3).params.toList Rows.canonSmallsSpec.vars false (#[.agg #[.int .i64 0, .slice none 0 0]] : Array Value).toList 8 = some ([.agg [.lit (.int .i64 0), .nil]], [], []) by kernel_rfl) (by kernel_rfl) (fun k hk => by cases hk) (by kernel_rfl) (laid_met os))) ?_
  intro W base args ds gs before hval hW _ _ _ hL _ _
  exact contract H enc W base args ds gs before hval hW hL
theorem said : Rows.CanonSmallsSaid :=
  OpenClaim.holds_of_cond 3 Go.Proofs.Tryd.f3 rfl rfl rfl rfl rfl rfl rfl ⟨rfl, rfl, rfl, rfl, rfl⟩ rfl rfl rfl rfl rfl (by kernel_rfl) Tryd.func3 (by kernel_rfl)
    (of_decide_eq_true (by kernel_rfl)) (by unfold Func.isWrapper; first | (rw [if_pos (by decide +kernel)]; kernel_rfl) | (rw [if_neg (by decide +kernel)]; exact ⟨rfl, rfl⟩))
    (fun os started H enc _ F => by rw [OpenClaim.pre_eq_preRow]; exact lifted os started H enc F)
theorem plain (f : FuncId) (fn : Func) (hf : Tryd.pinned.checked.prog.funcNamed "census/censuslaw17.CanonSmalls" = some f) (hfn : Tryd.pinned.checked.prog.funcs[f]? = some fn) :
    false = Tryd.pinned.checked.prog.looks [] ∧ ∀ (j : Nat) t, fn.params[j]? = some t → Tryd.pinned.checked.prog.wantsStandIn t = false := by
  obtain rfl : f = 3 := Option.some.inj ((show Tryd.prog.funcNamed "census/censuslaw17.CanonSmalls" = some 3 by kernel_rfl).symm.trans hf) |>.symm
  obtain rfl : fn = Go.Proofs.Tryd.f3 := (Option.some.inj (Tryd.func3.symm.trans hfn)).symm
  refine ⟨by kernel_rfl, fun j t ht => ?_⟩
  rw [Tryd.params3] at ht
  have hall : (Tryd.checked.prog.funcs[3]?).all (fun g => g.params.toList.all fun t => !(Tryd.checked.prog.wantsStandIn t)) = true := by kernel_rfl
  rw [show Tryd.checked.prog.funcs[3]? = some Go.Proofs.Tryd.f3 from Tryd.func3] at hall
  have h2 : ∀ t ∈ (Go.Proofs.Tryd.f3).params.toList, (!(Tryd.checked.prog.wantsStandIn t)) = true := List.all_eq_true.1 hall
  have hm : t ∈ (Go.Proofs.Tryd.f3).params.toList := by rw [Tryd.params3]; exact Array.mem_toList_iff.2 (Array.mem_of_getElem? ht)
  have h3 : Tryd.checked.prog.wantsStandIn t = false := by simpa using h2 t hm
  exact h3
theorem proved : Rows.CanonSmallsCardSaid :=
  Claim7.holds_tied_plain_at .later [] _ _ _ _ said (fun _ h => by cases h) (by kernel_rfl) (fun _ h => by cases h) canonSmalls_row_tie rfl ⟨rfl, rfl⟩ (by kernel_rfl) rfl plain (by kernel_rfl)
end canonSmalls
end Go.Proofs.YtafikekndefjcaaDoor
