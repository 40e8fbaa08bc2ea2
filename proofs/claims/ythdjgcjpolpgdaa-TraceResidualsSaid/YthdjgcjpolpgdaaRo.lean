/- trace.Residual as a function that returns rows of its own; no condition. -/
import Derived.Test.YthdjgcjpolpgdaaTr3
import Derived.Test.YthdjgcjpolpgdaaWa
import Derived.Test.YthdjgcjpolpgdaaOb5
import Derived.Test.YthdjgcjpolpgdaaObP
import Derived.Test.YthdjgcjpolpgdaaSpo
namespace Go.Proofs.Ythdjgcjpolpgdaa
set_option linter.unusedVariables false
set_option linter.unusedSimpArgs false
set_option linter.unusedSectionVars false
open Go.RowKit
attribute [local simp] List.getD_cons_zero List.getD_cons_succ List.getD_nil undef gvars runL runE effA stepA dstOk wantA core lk st dl AS.ev AS.evs AS.put AS.upd updO updI nxt cPick cAlloc cBox cBuild cBuildS cLoad cStore cNil plainOf cBin cNilS isNilS nilA cUn cConvX cConvB cConv bytesOf rowB cMake cSlice slA idxA cFA cF cIA cIX cIS cI cExt cLen cApp cMM cFun cCall lenA lenM isNilM nilM cNilM cMakeM hintB cMapK cLook foundR lookR cUpd putM cDel delM findA isKeyB Instr.sameNow AS.entry AS.bound AS.callee sc1 sc2 ixOk ldA AV.flat AV.cell AV.cells Value.oneCell' fillA spl chunk zeros AS.parts AS.rows AS.shut AS.shut1 AS.shut2 AS.shutL AS.shutM AV.ids idsL idsLL eqAll bndA AV.scalar AV.scalar1 AV.isV Ef.app Ef.pk ptOf pntO wrO wr
attribute [-simp] List.getD_eq_getElem?_getD
set_option maxRecDepth 100000
attribute [local simp] AV.ren renL obI shO_cons lk_st lk_dl renLL_append
set_option maxHeartbeats 4000000 in
theorem residual_obj (N : Int) (L : List (List Int)) (ts cs : List Int) (hN : okI N = true) (hL : okRows L = true) (ht : okInts ts = true) (hc : okInts cs = true) (hz : checkT N L = 0) (hg : goodB N L.length ts cs = true) :
    FnObj Try.prog 18 [aTh N L, aCl ts cs] (resT N (rsdL L ts cs)) (objT (rsdL L ts cs)) (idsT (rsdL L ts cs)) := by
  have lt := okInts_len ht
  have lc := okInts_len hc
  have ti1 := toInts_ints ts
  have ti2 := toInts_ints cs
  have hB : keptA N L ts cs = .tup [aInts (keptL L ts cs), .v (.int .i64 0)] := by unfold keptA; rw [if_pos ⟨hz, hg⟩]
  unfold aTh
  have hck := left_check hz hg
  have hgm := fun i hi => good_mem hg i (kept_mem (L := L) (ts := ts) (i := i) hi)
  have hll := keptL_len L ts cs
  have h128 := (checkT_ok hz).2.1
  have hl4 : (keptL L ts cs).length ≤ 4096 := by have := good_len hg (by have := (checkT_ok hz).2.2.1; omega); omega
  have htm := good_term h128 hg
  have hgA : givenA N (rowsOf L (keptL L ts cs)) ts = .tup [.agg [.v (.int .i64 N), aRows (givenT ts (rowsOf L (keptL L ts cs)))], .v (.int .i64 0)] := by unfold givenA; rw [if_pos hck, if_pos htm]; rfl
  have hgc := givenT_check hck ts
  have hgr := okRows_check hgc
  have hno := normal_obj N _ hN hgr hgc
  have hrr := okRows_check hck
  have hZl := okRows_len (okRows_check (res_check hz hg))
  clear hck hgc htm h128 hg
  unfold rsdL at hZl ⊢
  generalize givenT ts (rowsOf L (keptL L ts cs)) = Y at hgA hno hgr hZl ⊢
  generalize normL Y = Z at hno hZl ⊢
  unfold resT objT idsT at hno
  unfold aTh at hno
  unfold aCl
  obtain ⟨ls, hls⟩ : ∃ ls, keptL L ts cs = ls := ⟨_, rfl⟩
  rw [hls] at hB hgA hgm hll hrr hl4
  clear hls
  refine fn_obj TT_ok Try.func18 (c := _) rfl (by simp [Try.ntmps18]) (within_T _ fun k hk => by simpa [resT, AV.ids, idsL] using hk) (fun B hI0 hro => ?_)
  rw [Try.ntmps18]
  simp only [enumA]
  refine amGo PT25_ok (h := ?_)
  refine s_cnil 6 0 1 40 25 1 rfl rfl (by simp) ?_ (by decide)
  (refine s_eq (τ := ?_) ?_ ?_; rotate_left; (focus ((try simp only [AS.frz, List.map_cons, List.map_nil]); (try simp [frzV, frzO, frzC, List.filter]); rfl)))
  refine s_loop (J := fun i : {k : Nat // k ≤ ls.length} => ⟨56, [(2, .ptr 0 0 0), (3, .ptr 1 0 0), (4, .ptr 2 0 0), (5, .v (.int .i64 0)), (8, .ptr 6 0 0), (24, aInts ls), (25, .v (.int .i64 (ls.length : Int))), (26, .v (.int .i64 (i.1 : Int)))], [(40, ⟨25, 1, (rowsOf L (ls.take i.1)).map fun xs => [aInts xs]⟩), (0, ⟨24, 2, [[.v (.int .i64 N), aRows L]]⟩), (1, ⟨27, 2, [[aInts ts, aInts cs]]⟩), (2, ⟨24, 2, [[.v (.int .i64 0), .v (.slice none 0 0)]]⟩), (6, ⟨24, 2, [[.v (.int .i64 N), .ref 40 0 i.1]]⟩)], [40, 6, 2, 1, 0]⟩) (μ := fun i => ls.length - i.1) ⟨0, Nat.zero_le _⟩ ?_ (fun ⟨k, hk⟩ => ?_)
  · have hk0 : rowsOf L [] = [] := rfl
    (refine weak_id rfl ?_ ?_ <;> ((try simp only [List.mem_cons, List.not_mem_nil, or_false, forall_eq_or_imp, forall_eq]); (try simp (disch := omega) [i64w, *])))
  have hkl : (rowsOf L (ls.take k)).length = k := by rw [rowsOf_len, List.length_take]; omega
  have c1 : (k + 1) * 24 ≤ 140737488355328 := by omega
  refine amGo PT25_ok (h := ?_)
  (focus ((with_reducible refine sp_cond (b := ?_) ?_ (fun hc => ?_) (fun hc => ?_)); rotate_left; (focus (first | rfl | (simp [lk, AS.ev]; rfl))); all_goals (try simp at hc)))
  · have hkk := hc
    clear hc
    have hts := rowsOf_succ L hkk
    have hx := hgm _ (getD_memI hkk)
    obtain ⟨x, hxe⟩ : ∃ x, ls.getD k 0 = x := ⟨_, rfl⟩
    rw [hxe] at hx hts
    have x0 : 0 ≤ x := hx.1
    have x1 : x < L.length := hx.2
    have hmx : max x 0 = x := by omega
    have hx2 : x.toNat < L.length := by omega
    clear hgm
    refine amGo PT25_ok (h := ?_)
    refine k_lp (⟨k + 1, by omega⟩ : {k : Nat // k ≤ ls.length}) (by dsimp only; omega) ?_
    (refine weak_of (fun k => if k = 40 then 49 else k) ⟨rfl, ?_, ?_, ?_⟩ <;> ((try simp only [List.mem_cons, List.not_mem_nil, or_false, forall_eq_or_imp, forall_eq]); (try simp (disch := omega) [lk, AV.ids, idsL, idsLL, AV.ren, renL, renLL, i64w, *])))
  · obtain rfl : k = ls.length := by omega
    rw [List.take_length] at hkl ⊢
    clear hc c1
    refine amStr (h := ?_)
    refine s_weak ⟨56, [(2, .ptr 0 0 0), (3, .ptr 1 0 0), (4, .ptr 2 0 0), (5, .v (.int .i64 0)), (8, .ptr 6 0 0)], [(40, ⟨25, 1, (rowsOf L ls).map fun xs => [aInts xs]⟩), (0, ⟨24, 2, [[.v (.int .i64 N), aRows L]]⟩), (1, ⟨27, 2, [[aInts ts, aInts cs]]⟩), (2, ⟨24, 2, [[.v (.int .i64 0), .v (.slice none 0 0)]]⟩), (6, ⟨24, 2, [[.v (.int .i64 N), .ref 40 0 (rowsOf L ls).length]]⟩)], [40, 6, 2, 1, 0]⟩ ?_ ?_
    · (refine weak_id rfl ?_ ?_ <;> ((try simp only [List.mem_cons, List.not_mem_nil, or_false, forall_eq_or_imp, forall_eq]); (try simp (disch := omega) [i64w, *])))
    clear hkl
    generalize rowsOf L ls = R at hgA hrr ⊢
    refine s_frz (fun k => k == 40) ?_
    (refine s_eq (τ := ?_) ?_ ?_; rotate_left; (focus ((try simp only [AS.frz, List.map_cons, List.map_nil]); (try simp [frzV, frzO, frzC, List.filter]); rfl)))
    refine amReg PT25_ok (h := ?_)
    refine amStr (h := ?_)
    refine amReg PT25_ok (h := ?_)
    refine amStr (h := ?_)
    refine s_regionL ?_
    ((iterate 1 (((with_reducible refine spl_step TT_ok PT25_ok (id := 0) (σ' := ?_) ?_ ?_); rotate_left; (focus (simp [*]; rfl))))))
    refine spl_obj hno 1000 (by simp) rfl rfl (enters_ok (avs := [.agg [.v (.int .i64 N), aRows Y]]) (cs := []) rfl (by kernel_rfl) rfl rfl) (by simp [idsL, AV.ids]) (fun c h => by cases h) ?_
    simp only [shO_cons, shO_famI, ren_refsI_add, List.map_cons, List.cons_append]
    refine spl_famE (by simp) ?_
    (refine spl_eq (τ := ?_) ?_ ?_; rotate_left; (focus ((try simp only [AS.frz, List.map_cons, List.map_nil]); (try simp [frzV, frzO, frzC, List.filter]); rfl)))
    ((iterate 4 (((with_reducible refine spl_step TT_ok PT25_ok (id := 0) (σ' := ?_) ?_ ?_); rotate_left; (focus (simp [*]; rfl))))))
    refine spl_nil ?_
    refine amStr (h := ?_)
    refine post_T (o := 1000) (b := 1001) (.inr rfl) (by rw [Try.results18]) ?_ rfl (fun j hj => ?_) (by omega)
    · simp [retA, retL, ret1, lk, ldA, AV.cell]
    · simp only [lk]
      repeat rw [if_neg (by omega)]
      exact lk_fam_add hj
end Go.Proofs.Ythdjgcjpolpgdaa
