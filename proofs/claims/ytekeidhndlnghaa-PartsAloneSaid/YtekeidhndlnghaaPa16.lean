/- The law PartsAlone, by the abstract machine; no condition. -/
import Derived.Test.YtekeidhndlnghaaCy16
import Derived.Test.YtekeidhndlnghaaWa
import Derived.Test.YtekeidhndlnghaaRows
namespace Go.Proofs.Ytekeidhndlnghaa
set_option linter.unusedVariables false
set_option linter.unusedSimpArgs false
set_option linter.unusedSectionVars false
open Go.ChangeShapes Go.WideShapes Go.ChangeAt Go.RowKit
attribute [local simp] List.getD_cons_zero List.getD_cons_succ List.getD_nil undef gvars runL runE effA stepA dstOk wantA core lk st dl AS.ev AS.evs AS.put AS.upd updO updI nxt cPick cAlloc cBox cBuild cBuildS cLoad cStore cNil plainOf cBin cNilS isNilS nilA cUn cConvX cConvB cConv bytesOf rowB cMake cSlice slA idxA cFA cF cIA cIX cIS cI cExt cLen cApp cMM cFun cCall lenA lenM isNilM nilM cNilM cMakeM hintB cMapK cLook foundR lookR cUpd putM cDel delM findA isKeyB Instr.sameNow AS.entry AS.bound AS.callee sc1 sc2 ixOk ldA AV.flat AV.cell AV.cells Value.oneCell' fillA spl chunk zeros AS.parts AS.rows AS.shut AS.shut1 AS.shut2 AS.shutL AS.shutM AV.ids idsL idsLL eqAll bndA AV.scalar AV.scalar1 AV.isV Ef.app Ef.pk ptOf pntO wrO wr
attribute [-simp] List.getD_eq_getElem?_getD
set_option maxRecDepth 100000
@[simp] def g_few6w : List AV → Option (AV × Bool)
  | [.agg [.v (.int .i64 N), a0], a1] => (match toRows a0 with | some L => (match toInts a1 with | some ts => if (okLens L && okIL ts) = true then some (.v (.bool (fewW L ts)), false) else none | none => none) | none => none)
  | _ => none
theorem e_few6w : EntOk Try.prog 10 g_few6w := ent_pure (by kernel_rfl) fun args r fr h => by
  unfold g_few6w at h
  split at h
  · rename_i N a0 a1
    split at h
    · rename_i L t0
      split at h
      · rename_i ts t1
        split at h
        · rename_i hc
          simp only [Bool.and_eq_true] at hc
          obtain ⟨o0, o1⟩ := hc
          cases h
          exact ⟨FnPure.cov (few_w N L ts o0 o1) (.cons (cov_th _ (cov_rows t0)) (.cons (cov_ints t1) .nil)), rfl⟩
        · cases h
      · cases h
    · cases h
  · cases h

def l91 : List (FuncId × (List AV → Option (AV × Bool))) :=
  (10, g_few6w) :: (11, g_works6) :: (19, g_r6Same) :: (18, g_r6Alone) :: l1
theorem l91_ok : ∀ p ∈ l91, EntOk Try.prog p.1 p.2 := ent_cons e_few6w (ent_cons e_works6 (ent_cons e_r6Same (ent_cons e_r6Alone (l1_ok))))
def PT91 : PTab := tab l91
theorem PT91_ok : PTok Try.prog PT91 := tab_ok l91_ok
@[simp] theorem PT91_few6w : PT91 10 = g_few6w := rfl
@[simp] theorem PT91_works6 : PT91 11 = g_works6 := rfl
@[simp] theorem PT91_r6Same : PT91 19 = g_r6Same := rfl
@[simp] theorem PT91_r6Alone : PT91 18 = g_r6Alone := rfl
attribute [local simp] AV.ren renL obI shO_cons lk_st lk_dl renLL_append updI_mem
theorem r6Same_p (N : Int) (X : List (List Int)) (hN : okI N = true) (hX : okRows X = true) : FnPure Try.prog 19 [aTh N X, aTh N X] (.v (.bool true)) :=
  (e_r6Same.2 [aTh N X, aTh N X] (.v (.bool true)) true (by simp [aTh, hN, hX])).1
def SameLen (D M : List (List Int)) : Prop := M.length = D.length ∧ ∀ j, (M.getD j []).length = (D.getD j []).length
theorem SameLen.set {D M : List (List Int)} (h : SameLen D M) {i : Nat} {c : List Int} (hc : c.length = (M.getD i []).length) : SameLen D (M.set i c) := by
  refine ⟨by simp [h.1], fun j => ?_⟩
  rw [← h.2 j]
  by_cases hj : i < M.length
  · by_cases e : i = j
    · subst e; simp [List.getD, hj]; rw [hc]; simp [List.getD, hj]
    · simp [List.getD, List.getElem?_set, e]
  · rw [List.set_eq_of_length_le (by omega)]
set_option maxHeartbeats 4000000 in
theorem palone_ok (N : Int) (L : List (List Int)) (ts cs : List Int) (s : BitVec 128) (hN : okI N = true) (hL0 : okRows L = true) (ht : okInts ts = true) (hcs : okInts cs = true) (hc2 : cs.length ≤ 200) (hf : fewW L ts = true) (hv : validT N L ts = true) (hg : alnB L ts cs = true) : FnPure Try.prog 4 [aTh N L, aInts ts, aInts cs, aSet s] (.v (.bool true)) := by
  have hal := alone_p N L ts cs s hN hL0 ht hcs (by omega)
  have hob := alone_objV N L ts cs s hN hL0 ht hcs (by omega) hv hg
  have hrA : rAloneA N L ts cs = .tup [.agg [.v (.int .i64 N), aRows (alnL L ts cs)], .v (.int .i64 0)] := by unfold rAloneA; rw [if_pos ⟨hv, hg⟩]; rfl
  rw [hrA] at hal
  have hXr : okRows (alnL L ts cs) = true := by
    simp only [okRows, Bool.and_eq_true, List.all_eq_true, decide_eq_true_eq]
    refine ⟨fun c hc => ?_, by rw [alnL_len]; omega⟩
    unfold alnL at hc
    obtain ⟨i, _, rfl⟩ := List.mem_map.1 hc
    have hi := okRows_at hL0 i.toNat
    have h1 := okInts_len hi
    simp only [okInts, Bool.and_eq_true, List.all_eq_true, decide_eq_true_eq]
    exact ⟨fun x hx => okInts_mem hi x ((List.mem_filter.1 hx).1), Nat.le_trans (List.length_filter_le _ _) h1⟩
  have hXl : (alnL L ts cs).length ≤ 200 := by rw [alnL_len]; exact hc2
  have hc3 : (cs.length : Int) ≤ 200 := by omega
  have hgt : ¬ (200 < (cs.length : Int)) := by omega
  have hc4 : cs.length ≤ 4096 := by omega
  have hL := okLens_rows hL0
  have htI := okIL_ints ht
  generalize alnL L ts cs = X at *
  have hsmX := r6Same_p N X hN hXr
  unfold resT objT idsT at hob
  unfold aTh aPart at *
  have hse : aSet s = .agg [.v (.int .u64 ((lo s).toNat : Int)), .v (.int .u64 ((hi s).toNat : Int))] := rfl
  clear hg hv
  refine fn_sp TT_ok Try.func4 (c := _) rfl (by simp [Try.ntmps4]) (fun B hI0 hro => ?_)
  rw [Try.ntmps4]
  simp only [enumA]
  refine amStr (h := ?_)
  refine amReg PT91_ok (h := ?_)
  refine amStr (h := ?_)
  refine amReg PT91_ok (h := ?_)
  refine amStr (h := ?_)
  refine s_regionL ?_
  ((iterate 5 (((with_reducible refine spl_step TT_ok PT91_ok (id := 0) (σ' := ?_) ?_ ?_); rotate_left; (focus (simp [*]; rfl))))))
  refine spl_obj hob 1000 (by simp) rfl rfl (enters_ok (avs := [.agg [.v (.int .i64 N), aRows L], aInts ts, .agg [.v (.int .u64 ((lo s).toNat : Int)), .v (.int .u64 ((hi s).toNat : Int)), aInts cs]]) (cs := []) rfl (by kernel_rfl) rfl rfl) (by simp [idsL, AV.ids]) (fun c h => by cases h) ?_
  simp only [shO_cons, shO_famI, ren_refsI_add, List.map_cons, List.cons_append]
  refine spl_famE (by simp) ?_
  (refine spl_eq (τ := ?_) ?_ ?_; rotate_left; (focus ((try simp only [AS.frz, List.map_cons, List.map_nil]); (try simp [frzV, frzO, frzC, List.filter]); rfl)))
  ((iterate 3 (((with_reducible refine spl_step TT_ok PT91_ok (id := 0) (σ' := ?_) ?_ ?_); rotate_left; (focus (simp [*]; rfl))))))
  (((with_reducible refine spl_step TT_ok PT91_ok (id := 9) (σ' := ?_) ?_ ?_); rotate_left; (focus (simp [*]; rfl))))
  ((iterate 2 (((with_reducible refine spl_step TT_ok PT91_ok (id := 0) (σ' := ?_) ?_ ?_); rotate_left; (focus (simp [*]; rfl))))))
  refine spl_nil ?_
  refine amStr (h := ?_)
  refine s_weak ⟨91, [(1, aInts ts), (2, aInts cs), (4, .ptr 0 0 0), (7, .ptr 1 0 0), (8, .v (.bool false)), (9, .ptr 9 0 0), (10, .v (.int .i64 0))], [(0, ⟨24, 2, [[.v (.int .i64 N), aRows L]]⟩), (1, ⟨31, 2, [[.v (.int .u64 ((lo s).toNat : Int)), .v (.int .u64 ((hi s).toNat : Int))]]⟩), (9, ⟨24, 2, [[.v (.int .i64 N), .ref 1000 0 X.length]]⟩), (1000, ⟨25, 1, refsI 1001 X⟩)] ++ fam 1001 X, [1000, 9, 1, 0] ++ List.range' 1001 X.length⟩ ?ww ?_
  case ww =>
    (refine weak_fam (fun q => q) rfl ?_ ?_ ?_ ?_ ?_ ?_ <;> ((try simp only [List.mem_cons, List.not_mem_nil, or_false, forall_eq_or_imp, forall_eq]); (try simp (disch := omega) [lk, AV.ids, idsL, idsLL, AV.ren, renL, renLL, i64w, *])))
    · exact ⟨(renLL_id _).symm, fun q hq => .inr (ids_refsI 1001 X hq)⟩
    · intro j hj
      repeat rw [if_neg (by omega)]
      exact lk_fam_add hj
    · repeat' apply And.intro
      all_goals (intro j hj; omega)
  refine s_regionL ?_
  ((iterate 7 (((with_reducible refine spl_step TT_ok PT91_ok (id := 0) (σ' := ?_) ?_ ?_); rotate_left; (focus (simp [*]; rfl))))))
  (((with_reducible refine spl_step TT_ok PT91_ok (id := 17) (σ' := ?_) ?_ ?_); rotate_left; (focus (simp [*]; rfl))))
  ((iterate 2 (((with_reducible refine spl_step TT_ok PT91_ok (id := 0) (σ' := ?_) ?_ ?_); rotate_left; (focus (simp [*]; rfl))))))
  refine spl_nil ?_
  refine amStr (h := ?_)
  refine s_regionL ?_
  ((iterate 6 (((with_reducible refine spl_step TT_ok PT91_ok (id := 0) (σ' := ?_) ?_ ?_); rotate_left; (focus (simp [*]; rfl))))))
  refine spl_op (s := (.v (.bool true), [])) rfl rfl (ok_call_all (f := 19) (bvs := [aTh N X, aTh N X]) (enters_ok (avs := [.agg [.v (.int .i64 N), .ref 1000 0 X.length], .agg [.v (.int .i64 N), aRows X]]) (cs := []) rfl (by kernel_rfl) rfl rfl) rfl (fun B G w a hr i v hi hv => ?_) hsmX rfl) ?_
  · match i, hi with
    | 0, _ =>
      refine read_th hr (k := 1000) (b := 1001) (t := 25) rfl (fun j hj => ?_) hv
      simp only [lk, lk_st]
      repeat rw [if_neg (by omega)]
      exact lk_fam_add hj
    | 1, _ => exact Rv.pure (G := G) (G' := G0 _) (fun b p u h => hr.heap.st b p u h) hv (by simp [aTh, AV.ids, idsL])
  ((iterate 2 (((with_reducible refine spl_step TT_ok PT91_ok (id := 0) (σ' := ?_) ?_ ?_); rotate_left; (focus (simp [*]; rfl))))))
  refine spl_nil ?_
  refine amStr (h := ?_)
  have hZi : ∀ j, (X.getD j []).length ≤ 17592186044416 := fun j => okInts_len (okRows_at hXr j)
  have same : ∀ (σ : AS) (slots : List (Nat × AV)) (i : Nat) (M : List (List Int)), σ.n = 91 → SameLen X M → (∀ p ∈ slots, lk σ.slots p.1 = some p.2 ∧ ∀ k ∈ p.2.ids, k ∈ [1001 + i, 1000, 17, 9, 1, 0]) → lk σ.objs 0 = some ⟨24, 2, [[.v (.int .i64 N), aRows L]]⟩ → lk σ.objs 1 = some ⟨31, 2, [[.v (.int .u64 ((lo s).toNat : Int)), .v (.int .u64 ((hi s).toNat : Int))]]⟩ → lk σ.objs 9 = some ⟨24, 2, [[.v (.int .i64 N), .ref 1000 0 X.length]]⟩ → lk σ.objs 17 = some ⟨24, 2, [[.v (.int .i64 N), aRows X]]⟩ → lk σ.objs 1000 = some ⟨25, 1, refsI 1001 X⟩ → (∀ j, j < X.length → lk σ.objs (1001 + j) = some (obI (M.getD j []))) →
      Weak σ ⟨91, slots, [(0, ⟨24, 2, [[.v (.int .i64 N), aRows L]]⟩), (1, ⟨31, 2, [[.v (.int .u64 ((lo s).toNat : Int)), .v (.int .u64 ((hi s).toNat : Int))]]⟩), (9, ⟨24, 2, [[.v (.int .i64 N), .ref 1000 0 X.length]]⟩), (17, ⟨24, 2, [[.v (.int .i64 N), aRows X]]⟩), (1000, ⟨25, 1, refsI 1001 X⟩)] ++ fam 1001 M, [1001 + i, 1000, 17, 9, 1, 0] ++ List.range' 1001 M.length⟩ := by
    intro σ slots i M hn hM hs h0 h1 h9 h17 h10 hf
    refine weak_fam (fun q => q) hn.symm (fun p hp => ?_) (fun p hp => ?_) (fun j hj => ?_) (fun p _ q _ e => e) (fun j _ i _ e => by omega) (fun p hp j _ => ?_)
    · obtain ⟨g1, g2⟩ := hs p hp
      exact ⟨by rw [AV.ren_id]; exact g1, g2⟩
    · simp only [List.mem_cons, List.not_mem_nil, or_false] at hp
      rcases hp with rfl | rfl | rfl | rfl | rfl
      · exact ⟨by omega, by rw [h0]; simp [renLL], by simp, fun q hq => by simp [idsLL, idsL, AV.ids] at hq⟩
      · exact ⟨by omega, by rw [h1]; simp [renLL], by simp, fun q hq => by simp [idsLL, idsL, AV.ids] at hq⟩
      · exact ⟨by omega, by rw [h9]; simp [renLL], by simp, fun q hq => by simp [idsLL, idsL, AV.ids] at hq; subst hq; simp⟩
      · exact ⟨by omega, by rw [h17]; simp [renLL], by simp, fun q hq => by simp [idsLL, idsL, AV.ids] at hq⟩
      · refine ⟨by omega, ?_, by simp, fun q hq => .inr ?_⟩
        · rw [h10]; dsimp only; rw [renLL_id]
        · rw [hM.1]; exact ids_refsI 1001 X hq
    · rw [hf j (by rw [← hM.1]; exact hj)]
    · simp only [List.mem_cons, List.not_mem_nil, or_false] at hp
      rcases hp with rfl | rfl | rfl | rfl | rfl <;> dsimp only <;> omega
  refine s_regionL ?_
  ((iterate 1 (((with_reducible refine spl_step TT_ok PT91_ok (id := 0) (σ' := ?_) ?_ ?_); rotate_left; (focus (simp [*]; rfl))))))
  refine spl_nil ?_
  refine amStr (h := ?_)
  refine s_loop (J := fun i : {p : Nat × List (List Int) // p.1 ≤ X.length ∧ SameLen X p.2} => ⟨91, [(1, aInts ts), (2, aInts cs), (4, .ptr 0 0 0), (7, .ptr 1 0 0), (8, .v (.bool false)), (9, .ptr 9 0 0), (11, .ptr 17 0 0), (13, .v (.int .i64 (i.1.1 : Int)))], [(0, ⟨24, 2, [[.v (.int .i64 N), aRows L]]⟩), (1, ⟨31, 2, [[.v (.int .u64 ((lo s).toNat : Int)), .v (.int .u64 ((hi s).toNat : Int))]]⟩), (9, ⟨24, 2, [[.v (.int .i64 N), .ref 1000 0 X.length]]⟩), (17, ⟨24, 2, [[.v (.int .i64 N), aRows X]]⟩), (1000, ⟨25, 1, refsI 1001 X⟩)] ++ fam 1001 i.1.2, [1001 + i.1.1, 1000, 17, 9, 1, 0] ++ List.range' 1001 i.1.2.length⟩) (μ := fun i => X.length - i.1.1) ⟨(0, X), by omega, rfl, fun _ => rfl⟩ ?_ (fun ⟨⟨i, M⟩, hie, hM⟩ => ?_)
  · dsimp only
    refine same _ _ 0 X rfl ⟨rfl, fun _ => rfl⟩ (by simp [lk, AV.ids]) (by simp [lk]) (by simp [lk]) (by simp [lk]) (by simp [lk]) (by simp [lk]) (fun j hj => ?_)
    simp only [lk, List.cons_append, List.nil_append, lk_st]
    repeat rw [if_neg (by omega)]
    exact lk_fam_add hj
  dsimp only at hie hM
  refine amStr (h := ?_)
  refine s_regionL ?_
  ((iterate 5 (((with_reducible refine spl_step TT_ok PT91_ok (id := 0) (σ' := ?_) ?_ ?_); rotate_left; (focus (simp [*]; rfl))))))
  refine spl_nil ?_
  refine amStr (h := ?_)
  (focus ((with_reducible refine sp_cond (b := ?_) ?_ (fun hc => ?_) (fun hc => ?_)); rotate_left; (focus (first | rfl | (simp [lk, AS.ev]; rfl))); all_goals (try simp at hc)))
  · have hii := hc
    clear hc
    have hrg := refsI_get (b := 1001) hii
    have hrl := refsI_len 1001 X
    have hil := hZi i
    refine amStr (h := ?_)
    refine s_regionL ?_
    ((iterate 1 (((with_reducible refine spl_step TT_ok PT91_ok (id := 0) (σ' := ?_) ?_ ?_); rotate_left; (focus (simp [*]; rfl))))))
    refine spl_nil ?_
    refine amStr (h := ?_)
    refine s_loop (J := fun q : {p : Nat × List (List Int) // p.1 ≤ (X.getD i []).length ∧ SameLen X p.2} => ⟨91, [(1, aInts ts), (2, aInts cs), (4, .ptr 0 0 0), (7, .ptr 1 0 0), (8, .v (.bool false)), (9, .ptr 9 0 0), (11, .ptr 17 0 0), (13, .v (.int .i64 (i : Int))), (14, .v (.int .i64 (q.1.1 : Int)))], [(0, ⟨24, 2, [[.v (.int .i64 N), aRows L]]⟩), (1, ⟨31, 2, [[.v (.int .u64 ((lo s).toNat : Int)), .v (.int .u64 ((hi s).toNat : Int))]]⟩), (9, ⟨24, 2, [[.v (.int .i64 N), .ref 1000 0 X.length]]⟩), (17, ⟨24, 2, [[.v (.int .i64 N), aRows X]]⟩), (1000, ⟨25, 1, refsI 1001 X⟩)] ++ fam 1001 q.1.2, [1001 + i, 1000, 17, 9, 1, 0] ++ List.range' 1001 q.1.2.length⟩) (μ := fun q => (X.getD i []).length - q.1.1) ⟨(0, M), by omega, hM⟩ ?_ (fun ⟨⟨k, M⟩, hk, hM⟩ => ?_)
    · refine same _ _ i M rfl hM (by simp [lk, AV.ids]) (by simp [lk]) (by simp [lk]) (by simp [lk]) (by simp [lk]) (by simp [lk]) (fun j hj => ?_)
      simp only [lk, List.cons_append, List.nil_append]
      repeat rw [if_neg (by omega)]
      exact lk_fam_add (by rw [hM.1]; exact hj)
    dsimp only at hk hM
    refine amStr (h := ?_)
    refine s_regionL ?_
    ((iterate 8 (((with_reducible refine spl_step TT_ok PT91_ok (id := 0) (σ' := ?_) ?_ ?_); rotate_left; (focus (simp [*]; rfl))))))
    refine spl_nil ?_
    refine amStr (h := ?_)
    (focus ((with_reducible refine sp_cond (b := ?_) ?_ (fun hc => ?_) (fun hc => ?_)); rotate_left; (focus (first | rfl | (simp [lk, AS.ev]; rfl))); all_goals (try simp at hc)))
    · have hkk := hc
      clear hc
      have hki : k < (M.getD i []).length := by rw [hM.2]; exact hkk
      have hiM : i < M.length := by rw [hM.1]; exact hii
      have hf := lk_fam_add (b := 1001) hiM
      unfold obI at hf
      have hn0 : ¬ 0 = 1001 + i := by omega
      have hn1 : ¬ 1 = 1001 + i := by omega
      have hn9 : ¬ 9 = 1001 + i := by omega
      have hn17 : ¬ 17 = 1001 + i := by omega
      have hn10 : ¬ 1000 = 1001 + i := by omega
      refine amStr (h := ?_)
      refine s_regionL ?_
      ((iterate 8 (((with_reducible refine spl_step TT_ok PT91_ok (id := 0) (σ' := ?_) ?_ ?_); rotate_left; (focus (simp [*]; rfl))))))
      refine spl_nil ?_
      refine amStr (h := ?_)
      refine s_regionL ?_
      ((iterate 3 (((with_reducible refine spl_step TT_ok PT91_ok (id := 0) (σ' := ?_) ?_ ?_); rotate_left; (focus (simp [*]; rfl))))))
      refine spl_nil ?_
      refine amStr (h := ?_)
      refine k_lp (⟨(k + 1, M.set i ((M.getD i []).set k 99)), by dsimp only; omega, hM.set (by simp)⟩ : {p : Nat × List (List Int) // p.1 ≤ (X.getD i []).length ∧ SameLen X p.2}) (by dsimp only; omega) ?_
      have hw : IntKind.i64.wrap ((k : Int) + 1) = (k : Int) + 1 := i64s k (by omega)
      refine same _ _ i _ rfl (hM.set (by simp)) (by simp [lk, AV.ids, hw]) (by simp [lk, hn0]) (by simp [lk, hn1]) (by simp [lk, hn9]) (by simp [lk, hn17]) (by simp [lk, hn10]) (fun j hj => ?_)
      simp only [lk, List.cons_append, List.nil_append, lk_st]
      repeat rw [if_neg (by omega)]
      by_cases e : j = i
      · subst e
        rw [if_pos rfl]
        have hkj : k < M[j].length := by have := hki; simpa [List.getD, hiM] using this
        simp [List.getD, hiM, obI, List.map_set, hkj]
      · rw [if_neg (by omega), lk_fam_add (by rw [hM.1]; exact hj)]
        simp [List.getD, List.getElem?_set, Ne.symm e]
    · clear hc
      refine amStr (h := ?_)
      refine s_regionL ?_
      ((iterate 3 (((with_reducible refine spl_step TT_ok PT91_ok (id := 0) (σ' := ?_) ?_ ?_); rotate_left; (focus (simp [*]; rfl))))))
      refine spl_nil ?_
      refine amStr (h := ?_)
      refine k_lp (⟨(i + 1, M), by dsimp only; omega, hM⟩ : {p : Nat × List (List Int) // p.1 ≤ X.length ∧ SameLen X p.2}) (by dsimp only; omega) ?_
      have hw : IntKind.i64.wrap ((i : Int) + 1) = (i : Int) + 1 := i64s i (by omega)
      refine same _ _ (i + 1) M rfl hM (by simp [lk, AV.ids, hw]) (by simp [lk]) (by simp [lk]) (by simp [lk]) (by simp [lk]) (by simp [lk]) (fun j hj => ?_)
      simp only [lk, List.cons_append, List.nil_append]
      repeat rw [if_neg (by omega)]
      exact lk_fam_add (by rw [hM.1]; exact hj)
  · clear hc
    refine s_weak ⟨91, [(1, aInts ts), (2, aInts cs), (4, .ptr 0 0 0), (7, .ptr 1 0 0), (8, .v (.bool false)), (11, .ptr 17 0 0)], [(0, ⟨24, 2, [[.v (.int .i64 N), aRows L]]⟩), (1, ⟨31, 2, [[.v (.int .u64 ((lo s).toNat : Int)), .v (.int .u64 ((hi s).toNat : Int))]]⟩), (17, ⟨24, 2, [[.v (.int .i64 N), aRows X]]⟩)], [17, 1, 0]⟩ ?_ ?_
    · (refine weak_id rfl ?_ ?_ <;> ((try simp only [List.mem_cons, List.not_mem_nil, or_false, forall_eq_or_imp, forall_eq]); (try simp (disch := omega) [i64w, *])))
    refine amStr (h := ?_)
    refine s_regionL ?_
    ((iterate 5 (((with_reducible refine spl_step TT_ok PT91_ok (id := 0) (σ' := ?_) ?_ ?_); rotate_left; (focus (simp [*]; rfl))))))
    refine spl_op rfl rfl (ok_call (f := 17) (avs := [.agg [.v (.int .i64 N), aRows L], aInts ts, .agg [.v (.int .u64 ((lo s).toNat : Int)), .v (.int .u64 ((hi s).toNat : Int)), aInts cs]]) (enters_ok (avs := [.agg [.v (.int .i64 N), aRows L], aInts ts, .agg [.v (.int .u64 ((lo s).toNat : Int)), .v (.int .u64 ((hi s).toNat : Int)), aInts cs]]) (cs := []) rfl (by kernel_rfl) rfl rfl) (by simp [idsL, AV.ids, idsLL]) hal) ?_
    ((iterate 3 (((with_reducible refine spl_step TT_ok PT91_ok (id := 0) (σ' := ?_) ?_ ?_); rotate_left; (focus (simp [*]; rfl))))))
    (((with_reducible refine spl_step TT_ok PT91_ok (id := 19) (σ' := ?_) ?_ ?_); rotate_left; (focus (simp [*]; rfl))))
    ((iterate 2 (((with_reducible refine spl_step TT_ok PT91_ok (id := 0) (σ' := ?_) ?_ ?_); rotate_left; (focus (simp [*]; rfl))))))
    refine spl_nil ?_
    refine amStr (h := ?_)
    refine amGo PT91_ok (h := ?_)
    ((refine post_ret (av := ?_) (by first | exact .inl rfl | exact .inr rfl) (show (Try.f4).results.toList = _ from by rw [Try.results4]) ?_ ?_); rotate_left; (focus (simp [retA, retL, ret1, lk, st, ldA, AV.cell]; rfl)); (try simp [*]))
set_option maxHeartbeats 4000000 in
theorem palone_err (N : Int) (L : List (List Int)) (ts cs : List Int) (s : BitVec 128) (hL : okLens L = true) (ht : okIL ts = true) (hc2 : cs.length ≤ 200) (hf : fewW L ts = true)
    (hal : FnPure Try.prog 17 [aTh N L, aInts ts, aPart s cs] alnE) (har : FnPure Try.prog 18 [aTh N L, aInts ts, aInts cs] alnE) : FnPure Try.prog 4 [aTh N L, aInts ts, aInts cs, aSet s] (.v (.bool true)) := by
  have hc3 : (cs.length : Int) ≤ 200 := by omega
  have hgt : ¬ (200 < (cs.length : Int)) := by omega
  unfold alnE at hal har
  unfold aTh aPart at *
  have hse : aSet s = .agg [.v (.int .u64 ((lo s).toNat : Int)), .v (.int .u64 ((hi s).toNat : Int))] := rfl
  refine fn_sp TT_ok Try.func4 (c := _) rfl (by simp [Try.ntmps4]) (fun B hI0 hro => ?_)
  rw [Try.ntmps4]
  simp only [enumA]
  refine amStr (h := ?_)
  refine amReg PT91_ok (h := ?_)
  refine amStr (h := ?_)
  refine amReg PT91_ok (h := ?_)
  refine amStr (h := ?_)
  refine s_regionL ?_
  ((iterate 5 (((with_reducible refine spl_step TT_ok PT91_ok (id := 0) (σ' := ?_) ?_ ?_); rotate_left; (focus (simp [*]; rfl))))))
  refine spl_op rfl rfl (ok_call (f := 17) (avs := [.agg [.v (.int .i64 N), aRows L], aInts ts, .agg [.v (.int .u64 ((lo s).toNat : Int)), .v (.int .u64 ((hi s).toNat : Int)), aInts cs]]) (enters_ok (avs := [.agg [.v (.int .i64 N), aRows L], aInts ts, .agg [.v (.int .u64 ((lo s).toNat : Int)), .v (.int .u64 ((hi s).toNat : Int)), aInts cs]]) (cs := []) rfl (by kernel_rfl) rfl rfl) (by simp [idsL, AV.ids, idsLL]) hal) ?_
  ((iterate 3 (((with_reducible refine spl_step TT_ok PT91_ok (id := 0) (σ' := ?_) ?_ ?_); rotate_left; (focus (simp [*]; rfl))))))
  (((with_reducible refine spl_step TT_ok PT91_ok (id := 9) (σ' := ?_) ?_ ?_); rotate_left; (focus (simp [*]; rfl))))
  ((iterate 2 (((with_reducible refine spl_step TT_ok PT91_ok (id := 0) (σ' := ?_) ?_ ?_); rotate_left; (focus (simp [*]; rfl))))))
  refine spl_nil ?_
  refine amStr (h := ?_)
  refine s_regionL ?_
  ((iterate 3 (((with_reducible refine spl_step TT_ok PT91_ok (id := 0) (σ' := ?_) ?_ ?_); rotate_left; (focus (simp [*]; rfl))))))
  refine spl_op rfl rfl (ok_call (f := 18) (avs := [.agg [.v (.int .i64 N), aRows L], aInts ts, aInts cs]) (enters_ok (avs := [.agg [.v (.int .i64 N), aRows L], aInts ts, aInts cs]) (cs := []) rfl (by kernel_rfl) rfl rfl) (by simp [idsL, AV.ids, idsLL]) har) ?_
  ((iterate 3 (((with_reducible refine spl_step TT_ok PT91_ok (id := 0) (σ' := ?_) ?_ ?_); rotate_left; (focus (simp [*]; rfl))))))
  (((with_reducible refine spl_step TT_ok PT91_ok (id := 17) (σ' := ?_) ?_ ?_); rotate_left; (focus (simp [*]; rfl))))
  ((iterate 2 (((with_reducible refine spl_step TT_ok PT91_ok (id := 0) (σ' := ?_) ?_ ?_); rotate_left; (focus (simp [*]; rfl))))))
  refine spl_nil ?_
  refine amStr (h := ?_)
  have hi0 : okI 0 = true := rfl
  have hn1 : toRows (.v (.slice none 0 0)) = some [] := rfl
  refine amGo PT91_ok (h := ?_)
  refine s_loop (J := fun _ : Unit => ⟨91, [(1, aInts ts), (2, aInts cs), (4, .ptr 0 0 0), (7, .ptr 1 0 0), (8, .v (.bool false)), (9, .ptr 9 0 0), (11, .ptr 17 0 0), (13, .v (.int .i64 0))], [(0, ⟨24, 2, [[.v (.int .i64 N), aRows L]]⟩), (1, ⟨31, 2, [[.v (.int .u64 ((lo s).toNat : Int)), .v (.int .u64 ((hi s).toNat : Int))]]⟩), (9, ⟨24, 2, [[.v (.int .i64 0), .v (.slice none 0 0)]]⟩), (17, ⟨24, 2, [[.v (.int .i64 0), .v (.slice none 0 0)]]⟩)], [17, 9, 1, 0]⟩) (μ := fun _ => 0) () ?_ (fun _ => ?_)
  · (refine weak_id rfl ?_ ?_ <;> ((try simp only [List.mem_cons, List.not_mem_nil, or_false, forall_eq_or_imp, forall_eq]); (try simp (disch := omega) [i64w, *])))
  refine amStr (h := ?_)
  refine amReg PT91_ok (h := ?_)
  refine amStr (h := ?_)
  refine s_regionL ?_
  ((iterate 5 (((with_reducible refine spl_step TT_ok PT91_ok (id := 0) (σ' := ?_) ?_ ?_); rotate_left; (focus (simp [*]; rfl))))))
  refine spl_op rfl rfl (ok_call (f := 17) (avs := [.agg [.v (.int .i64 N), aRows L], aInts ts, .agg [.v (.int .u64 ((lo s).toNat : Int)), .v (.int .u64 ((hi s).toNat : Int)), aInts cs]]) (enters_ok (avs := [.agg [.v (.int .i64 N), aRows L], aInts ts, .agg [.v (.int .u64 ((lo s).toNat : Int)), .v (.int .u64 ((hi s).toNat : Int)), aInts cs]]) (cs := []) rfl (by kernel_rfl) rfl rfl) (by simp [idsL, AV.ids, idsLL]) hal) ?_
  ((iterate 3 (((with_reducible refine spl_step TT_ok PT91_ok (id := 0) (σ' := ?_) ?_ ?_); rotate_left; (focus (simp [*]; rfl))))))
  (((with_reducible refine spl_step TT_ok PT91_ok (id := 18) (σ' := ?_) ?_ ?_); rotate_left; (focus (simp [*]; rfl))))
  ((iterate 2 (((with_reducible refine spl_step TT_ok PT91_ok (id := 0) (σ' := ?_) ?_ ?_); rotate_left; (focus (simp [*]; rfl))))))
  refine spl_nil ?_
  refine amStr (h := ?_)
  refine amGo PT91_ok (h := ?_)
  ((refine post_ret (av := ?_) (by first | exact .inl rfl | exact .inr rfl) (show (Try.f4).results.toList = _ from by rw [Try.results4]) ?_ ?_); rotate_left; (focus (simp [retA, retL, ret1, lk, st, ldA, AV.cell]; rfl)); (try simp [*]))
theorem partsAlone_p (N : Int) (L : List (List Int)) (ts cs : List Int) (s : BitVec 128) (hN : okI N = true) (hL : okLens L = true) (ht : okIL ts = true) (hcs : okIL cs = true) : FnPure Try.prog 4 [aTh N L, aInts ts, aInts cs, aSet s] (.v (.bool true)) := by
  cases hf : fewW L ts
  · have hse : aSet s = .agg [.v (.int .u64 ((lo s).toNat : Int)), .v (.int .u64 ((hi s).toNat : Int))] := rfl
    unfold aTh
    refine fn_sp TT_ok Try.func4 (c := _) rfl (by simp [Try.ntmps4]) (fun B hI0 hro => ?_)
    rw [Try.ntmps4]
    simp only [enumA]
    refine amGo PT91_ok (h := ?_)
    ((refine post_ret (av := ?_) (by first | exact .inl rfl | exact .inr rfl) (show (Try.f4).results.toList = _ from by rw [Try.results4]) ?_ ?_); rotate_left; (focus (simp [retA, retL, ret1, lk, st, ldA, AV.cell]; rfl)); (try simp [*]))
  by_cases hc2 : cs.length ≤ 200
  · by_cases hz : checkT N L = 0
    · obtain ⟨_, _, h1, h2⟩ := checkT_ok hz
      have hLr : okRows L = true := okRows_lens hL (by omega) fun c hc => by have := (h2 c hc).1; omega
      have htl : ts.length ≤ 100 := by
        unfold fewW at hf
        simp only [Bool.and_eq_true, decide_eq_true_eq] at hf
        exact hf.2
      have htr := okInts_il ht (by omega)
      have hcr := okInts_il hcs (by omega)
      have h3 := alone_p N L ts cs s hN hLr htr hcr (by omega)
      have h4 := rAlone_q N L ts cs hN hLr htr hcr (by simp; omega)
      by_cases hok : validT N L ts = true ∧ alnB L ts cs = true
      · exact palone_ok N L ts cs s hN hLr htr hcr hc2 hf hok.1 hok.2
      · have hr : rAloneA N L ts cs = alnE := by unfold rAloneA; rw [if_neg hok]
        rw [hr] at h3 h4
        exact palone_err N L ts cs s hL ht hc2 hf h3 h4
    · exact palone_err N L ts cs s hL ht hc2 hf (alone_e N L ts cs s hL ht hz) (rAlone_e N L ts cs hL ht hz)
  · have hse : aSet s = .agg [.v (.int .u64 ((lo s).toNat : Int)), .v (.int .u64 ((hi s).toNat : Int))] := rfl
    have hgt : (200 : Int) < (cs.length : Int) := by omega
    unfold aTh
    refine fn_sp TT_ok Try.func4 (c := _) rfl (by simp [Try.ntmps4]) (fun B hI0 hro => ?_)
    rw [Try.ntmps4]
    simp only [enumA]
    refine amGo PT91_ok (h := ?_)
    ((refine post_ret (av := ?_) (by first | exact .inl rfl | exact .inr rfl) (show (Try.f4).results.toList = _ from by rw [Try.results4]) ?_ ?_); rotate_left; (focus (simp [retA, retL, ret1, lk, st, ldA, AV.cell]; rfl)); (try simp [*]))
namespace partsAlone
set_option maxRecDepth 100000 in
theorem lifted (os : Os) (started : os.Started) (H : Type) (enc : TypeId × Value → H) :
    ReturnsInHanded {} Try.checked os 4 .any (Rows.partsAloneSpec.pre6 enc Try.prog Go.Proofs.Try.f4 Rows.partsAloneRow.domain false) (Rows.partsAloneSpec.post enc Try.prog Go.Proofs.Try.f4 false true false false) := by
  refine returnsInHanded_of_change (C := Try.checked) (by kernel_rfl) started (by kernel_rfl) Try.func4
    (ChangeSpec.witness6 (enc := enc) (C := Try.checked) false ⟨#[], #[.agg #[.int .i64 0, .slice none 0 0], .slice none 0 0, .slice none 0 0, .agg #[.int .u64 0, .int .u64 0]], []⟩ 8 (by kernel_rfl) (by kernel_rfl) (by kernel_rfl) (by kernel_rfl)) ?_
  intro W base args ds gs before hval0 hW hcnd _
  have hval : ∀ (j : Nat) t v, (Go.Proofs.Try.f4).params[j]? = some t → args[j]? = some v → Value.okWide Try.prog W .any base t v := hval0
  have hW2 := hW
  obtain ⟨p, q, hA0, hV, _, _, _⟩ := hW
  have hA : DataW.TrodAll enc Try.prog W 0 (fun _ => true) true (Go.Proofs.Try.f4).params.toList args.toList ds p := hA0
  rw [Try.params4] at hA hval
  clear hA0 hval0 hcnd
  obtain ⟨rfl, _⟩ := trodVars_none hV
  obtain ⟨v0, vs0, d0, ds0, p0, q0, hargs, rfl, _, h0, r0⟩ := trodAll_cons hA
  obtain ⟨v1, vs1, d1, ds1, p1, q1, rfl, rfl, _, h1, r1⟩ := trodAll_cons r0
  obtain ⟨v2, vs2, d2, ds2, p2, q2, rfl, rfl, _, h2, r2⟩ := trodAll_cons r1
  obtain ⟨v3, vs3, d3, ds3, p3, q3, rfl, rfl, _, h3, r3⟩ := trodAll_cons r2
  obtain ⟨rfl, rfl, _⟩ := trodAll_nil r3
  obtain rfl : args = #[v0, v1, v2, v3] := by cases args; simp_all
  obtain ⟨N, L, ra0, oN0, oL0⟩ := arg_th (hval 0 _ v0 rfl rfl) h0
  obtain ⟨ts, ra1, o1⟩ := arg_ints (hval 1 _ v1 rfl rfl) h1
  obtain ⟨cs, ra2, o2⟩ := arg_ints (hval 2 _ v2 rfl rfl) h2
  obtain ⟨s, ra3⟩ := arg_set (hval 3 _ v3 rfl rfl) h3
  refine law_of_pure (glob0 _) (avs := [.agg [.v (.int .i64 N), aRows L], aInts ts, aInts cs, aSet s]) (by kernel_rfl) hW2 rfl (rec_ok (by kernel_rfl)) (tb := 4) rfl Try.underlying4 rfl rfl rfl rfl (fun i hi => ?_) (partsAlone_p N L ts cs s oN0 oL0 o1 o2)
  match i, hi with
  | 0, _ => exact ra0
  | 1, _ => exact ra1
  | 2, _ => exact ra2
  | 3, _ => exact ra3
theorem proved : Rows.PartsAloneSaid :=
  OpenClaim.holds_of_wide 4 Go.Proofs.Try.f4 rfl rfl rfl rfl rfl rfl rfl ⟨rfl, rfl, rfl, rfl, rfl⟩ rfl rfl rfl rfl rfl (by kernel_rfl) Try.func4 (by kernel_rfl)
    (of_decide_eq_true (by kernel_rfl)) (by unfold Func.isWrapper; first | (rw [if_pos (by decide +kernel)]; kernel_rfl) | (rw [if_neg (by decide +kernel)]; exact ⟨rfl, rfl⟩))
    (fun os started H enc _ => lifted os started H enc)
end partsAlone
end Go.Proofs.Ytekeidhndlnghaa
