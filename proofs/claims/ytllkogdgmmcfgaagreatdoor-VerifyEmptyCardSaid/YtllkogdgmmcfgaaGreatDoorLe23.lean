/- The law VerifyEmpty: the net of a constant; no condition. -/
import Derived.Test.YtllkogdgmmcfgaaGreatDoorWxG
import Derived.Test.YtllkogdgmmcfgaaGreatDoorWa
import Derived.Test.YtllkogdgmmcfgaaGreatDoorLd
import Derived.Test.YtllkogdgmmcfgaaGreatDoorPd23
namespace Go.Proofs.YtllkogdgmmcfgaaGreatDoor
set_option linter.unusedVariables false
set_option linter.unusedSimpArgs false
set_option linter.unusedSectionVars false
open Go.RowKit Go.WideShapes Go.ChangeShapes Go.ChangeAt
attribute [local simp] List.getD_cons_zero List.getD_cons_succ List.getD_nil undef gvars runL runE effA stepA dstOk wantA core lk st dl AS.ev AS.evs AS.put AS.upd updO updI nxt cPick cAlloc cBox cBuild cBuildS cLoad cStore cNil plainOf cBin cNilS isNilS nilA cUn cConvX cConvB cConv bytesOf rowB cMake cSlice slA idxA cFA cF cIA cIX cIS cI cExt cLen cApp cMM cFun cCall lenA lenM isNilM nilM cNilM cMakeM hintB cMapK cLook foundR lookR cUpd putM cDel delM findA isKeyB Instr.sameNow AS.entry AS.bound AS.callee sc1 sc2 ixOk ldA AV.flat AV.cell AV.cells Value.oneCell' fillA spl chunk zeros AS.parts AS.rows AS.shut AS.shut1 AS.shut2 AS.shutL AS.shutM AV.ids idsL idsLL eqAll bndA AV.scalar AV.scalar1 AV.isV Ef.app Ef.pk ptOf pntO wrO wr
attribute [-simp] List.getD_eq_getElem?_getD
set_option maxRecDepth 100000
theorem em0 (L : List (List Int)) : emB L 0 = decide ([] ∈ normL L) := by unfold emB; rw [if_neg (by decide), if_pos rfl]
theorem em1 (L : List (List Int)) : emB L 1 = decide (normL L = []) := by unfold emB; rw [if_pos rfl]
theorem em3 (L : List (List Int)) : emB L 3 = decide (normL L = []) := by unfold emB; rw [if_neg (by decide), if_neg (by decide), if_pos rfl]
theorem em4 (L : List (List Int)) : emB L 4 = false := by unfold emB; rw [if_neg (by decide), if_neg (by decide), if_neg (by decide)]
set_option maxHeartbeats 4000000 in
theorem verifyEmpty_p (N : Int) (L : List (List Int)) (k : Int) (hN : okI N = true) (hL : okRows L = true) (hk : okI k = true) : FnPure Tryz.prog 3 [aTh N L, .v (.int .i64 k)] (.v (.bool true)) := by
 have hm := okRows_len hL
 have h0n : okNZ [] = true := rfl
 have h0c : okLC [] = true := rfl
 have t0n : toNds (.v (.slice none 0 0)) = some [] := rfl
 have t0c : toCls (.v (.slice none 0 0)) = some [] := rfl
 unfold aTh
 cases hf : fewP L [] []
 ·refine fn_sp TT_ok Tryz.func3 (c := _) rfl (by simp [Tryz.ntmps3]) (fun B hI0 hro => ?_)
  rw [Tryz.ntmps3]
  simp only [enumA]
  refine amGo PT207_ok (h := ?_)
  (refine amRt Tryz.results3 (h := ?_); try simp [*])
 have hr := few_r hL h0n h0c hf
 have hl60 := hr.lL
 clear hr
 refine fn_sp TT_ok Tryz.func3 (c := _) rfl (by simp [Tryz.ntmps3]) (fun B hI0 hro => ?_)
 rw [Tryz.ntmps3]
 simp only [enumA]
 refine amGo PT207_ok (h := ?_)
 refine s_nil 5 40 3 1 (by simp [lk]) (by simp) ?_
 simp only [st]
 refine s_loop (J := fun i : {i : Nat // i ≤ L.length} => ⟨95, [(1, .v (.int .i64 k)), (2, .ptr 0 0 0), (4, .v (.bool false)), (5, .ref 40 0 i.1), (6, .v (.int .i64 (i.1 : Int)))], [(40, ⟨3, 1, (iota i.1).map fun x => [.v (.int .i64 x)]⟩), (0, ⟨24, 2, [[.v (.int .i64 N), aRows L]]⟩)], [40, 0]⟩) (μ := fun i => L.length - i.1) ⟨0, Nat.zero_le _⟩ ?_ (fun ⟨i, hi⟩ => ?_)
 ·have hk0 := iota_zero
  (refine weak_id rfl ?_ ?_ <;> ((try simp only [List.mem_cons, List.not_mem_nil, or_false, forall_eq_or_imp, forall_eq]); (try simp (disch := omega) [i64w, *])))
 have hkl := iota_len i
 have e1 : (i + 1) * 8 ≤ 140737488355328 := by omega
 dsimp only
 refine amStr (h := ?_)
 refine amReg PT207_ok (h := ?_)
 refine amStr (h := ?_)
 (focus ((with_reducible refine sp_cond (b := ?_) ?_ (fun hc => ?_) (fun hc => ?_)); rotate_left; (focus (first | rfl | (simp [lk, AS.ev]; rfl))); all_goals (try simp at hc)))
 ·have hkk : i < L.length := by omega
  clear hc
  have hts := iota_succ i
  have hwk : IntKind.i64.wrap ((i : Int) + 1) = (i : Int) + 1 := i64s i (by omega)
  refine amGo PT207_ok (h := ?_)
  refine k_lp (⟨i + 1, by omega⟩ : {i : Nat // i ≤ L.length}) (by dsimp only; omega) ?_
  (refine weak_of (fun k => if k = 40 then 44 else k) ⟨rfl, ?_, ?_, ?_⟩ <;> ((try simp only [List.mem_cons, List.not_mem_nil, or_false, forall_eq_or_imp, forall_eq]); (try simp (disch := omega) [lk, AV.ids, idsL, idsLL, AV.ren, renL, renLL, i64w, *])))
 ·obtain rfl : i = L.length := by omega
  clear hc
  have hio := iota_ok (k := L.length) (by omega)
  have hv := em_ver (N := N) (L := L) k
  unfold emC emN at hv
  obtain ⟨cs, hcs⟩ : ∃ cs, iota L.length = cs := ⟨_, rfl⟩
  rw [hcs] at hkl hio hv
  rw [hcs]
  have hcl := Lib.hid hkl
  clear hcs e1
  refine amStr (h := ?_)
  refine s_weak (τ := ⟨95, [(1, .v (.int .i64 k)), (2, .ptr 0 0 0), (4, .v (.bool false)), (5, .ref 40 0 cs.length)], [(40, ⟨3, 1, cs.map fun x => [.v (.int .i64 x)]⟩), (0, ⟨24, 2, [[.v (.int .i64 N), aRows L]]⟩)], [40, 0]⟩) ?_ ?_
  ·(refine weak_id rfl ?_ ?_ <;> ((try simp only [List.mem_cons, List.not_mem_nil, or_false, forall_eq_or_imp, forall_eq]); (try simp (disch := omega) [i64w, *])))
  clear hkl
  refine s_frz (fun k => k == 40) ?_
  (refine s_eq (τ := ?_) ?_ ?_; rotate_left; (focus ((try simp only [AS.frz, List.map_cons, List.map_nil]); (try simp [frzV, frzO, frzC, List.filter]); rfl)))
  have hns2 : okNs [(k, 0, [])] = true := by simp only [okNs, okNd, List.all_cons, List.all_nil, hk]; rfl
  have hcl2 : okCl [([], cs)] = true := by simp only [okCl, List.all_cons, List.all_nil, hio]; rfl
  have htn : toNds (.sl 3 [[.v (.int .i64 k), .v (.int .i64 0), .v (.slice none 0 0)]]) = some [(k, 0, [])] := rfl
  have htc : toCls (.sl 2 [[.v (.slice none 0 0), aInts cs]]) = some [([], cs)] := by
   have hr0 : toInts (.v (.slice none 0 0)) = some [] := rfl
   have hr1 := toInts_ints cs
   simp only [toCls, clsOf, hr0, hr1]
  obtain ⟨⟨a, e⟩, hr⟩ : ∃ r, verV N L N [(k, 0, [])] [([], cs)] = r := ⟨_, rfl⟩
  rw [hr] at hv
  simp only at hv
  by_cases hz : checkT N L = 0
  ·have hnA : rNormA N L = .tup [.agg [.v (.int .i64 N), aRows (normL L)], .v (.int .i64 0)] := by unfold rNormA; rw [if_pos hz, normL_rNorm hz]; rfl
   have hnr := okRows_check (normL_check hz)
   have hnh := nil_head hz
   by_cases hk4 : k = 0 ∨ k = 1 ∨ k = 3 ∨ k = 4
   ·rw [if_pos ⟨hz, hk4⟩] at hv
    have g0 := em0 L
    have g1 := em1 L
    have g3 := em3 L
    have g4 := em4 L
    generalize normL L = X at hnA hnr hnh g0 g1 g3
    rcases hk4 with rfl | rfl | rfl | rfl
    ·rw [g0, hnh] at hv
     clear g0 g1 g3 g4
     by_cases h1 : 0 < X.length
     ·have h1i : 0 < (X.length : Int) := by omega
      by_cases h2 : (X.getD 0 []).length = 0
      ·have h2i : (((X.getD 0 []).length : Int) == 0) = true := by rw [h2]; rfl
       have he : e = 0 := by rw [hv, decide_eq_true h1, decide_eq_true h2]; rfl
       subst he
       clear hv hnh h2
       refine amGo PT207_ok (h := ?_)
       (refine amRt Tryz.results3 (h := ?_); try simp [*])
      ·have h2i : (((X.getD 0 []).length : Int) == 0) = false := by rw [beq_eq_false_iff_ne]; omega
       have he : e = 230 := by rw [hv, decide_eq_false h2, Bool.and_false]; rfl
       subst he
       clear hv hnh h2
       refine amGo PT207_ok (h := ?_)
       (refine amRt Tryz.results3 (h := ?_); try simp [*])
     ·have h1i : ¬ (0 < (X.length : Int)) := by omega
      have he : e = 230 := by rw [hv, decide_eq_false h1, Bool.false_and]; rfl
      subst he
      clear hv hnh
      refine amGo PT207_ok (h := ?_)
      (refine amRt Tryz.results3 (h := ?_); try simp [*])
    ·rw [g1] at hv
     clear g0 g1 g3 g4
     by_cases h1 : X = []
     ·have h1i : ((X.length : Int) == 0) = true := by rw [h1]; rfl
      have he : e = 0 := by rw [hv, decide_eq_true h1]; rfl
      subst he
      clear hv hnh h1
      refine amGo PT207_ok (h := ?_)
      (refine amRt Tryz.results3 (h := ?_); try simp [*])
     ·have h1i : ((X.length : Int) == 0) = false := by
       have : X.length ≠ 0 := fun h => h1 (List.eq_nil_of_length_eq_zero h)
       rw [beq_eq_false_iff_ne]; omega
      have he : e = 230 := by rw [hv, decide_eq_false h1]; rfl
      subst he
      clear hv hnh h1
      refine amGo PT207_ok (h := ?_)
      (refine amRt Tryz.results3 (h := ?_); try simp [*])
    ·rw [g3] at hv
     clear g0 g1 g3 g4
     by_cases h1 : X = []
     ·have h1i : ((X.length : Int) == 0) = true := by rw [h1]; rfl
      have he : e = 0 := by rw [hv, decide_eq_true h1]; rfl
      subst he
      clear hv hnh h1
      refine amGo PT207_ok (h := ?_)
      (refine amRt Tryz.results3 (h := ?_); try simp [*])
     ·have h1i : ((X.length : Int) == 0) = false := by
       have : X.length ≠ 0 := fun h => h1 (List.eq_nil_of_length_eq_zero h)
       rw [beq_eq_false_iff_ne]; omega
      have he : e = 230 := by rw [hv, decide_eq_false h1]; rfl
      subst he
      clear hv hnh h1
      refine amGo PT207_ok (h := ?_)
      (refine amRt Tryz.results3 (h := ?_); try simp [*])
    ·rw [g4] at hv
     clear g0 g1 g3 g4
     have he : e = 230 := hv
     subst he
     clear hv hnh
     refine amGo PT207_ok (h := ?_)
     (refine amRt Tryz.results3 (h := ?_); try simp [*])
   ·rw [if_neg (fun h => hk4 h.2)] at hv
    subst hv
    generalize normL L = X at hnA hnr hnh
    clear hnh
    rcases (by omega : k < 0 ∨ 4 < k ∨ k = 2) with h | h | h
    ·refine amGo PT207_ok (h := ?_)
     (refine amRt Tryz.results3 (h := ?_); try simp [*])
    ·have h3 : ¬ (k < 0) := by omega
     refine amGo PT207_ok (h := ?_)
     (refine amRt Tryz.results3 (h := ?_); try simp [*])
    ·subst h
     refine amGo PT207_ok (h := ?_)
     (refine amRt Tryz.results3 (h := ?_); try simp [*])
  ·rw [if_neg (fun h => hz h.1)] at hv
   subst hv
   have hnA : rNormA N L = .tup [.agg [.v (.int .i64 0), .v (.slice none 0 0)], .v (.int .i64 (checkT N L))] := by unfold rNormA; rw [if_neg hz]
   have hne : (checkT N L != 0) = true := by simpa using hz
   refine amGo PT207_ok (h := ?_)
   (refine amRt Tryz.results3 (h := ?_); try simp [*])
namespace verifyEmpty
set_option maxRecDepth 100000
theorem contract (H : Type) (enc : TypeId × Value → H) (W : World) (base : Nat) (args : Array Value) (ds gs : List (DataW H)) (before : List MemPlace)
  (hval0 : ∀ (j : Nat) t v, (Go.Proofs.Tryz.f3).params[j]? = some t → args[j]? = some v → Value.okWide Tryz.prog W .any base t v)
  (hW : DataW.Whole enc Tryz.prog (Go.Proofs.Tryz.f3).params.toList Rows.verifyEmptySpec.vars false W args.toList ds gs before) (hL : laidMetH Tryz.prog Rows.verifyEmptyRow.laid W) (hsz0 : (DataW.weightsEach Tryz.prog ((Go.Proofs.Tryz.f3).params.toList ++ []) (ds ++ gs)).all (· ≤ reachBytes) = true) :
  Calls Tryz.prog 3 args W fun e W' => ∃ v, e = .returned v ∧ Rows.verifyEmptySpec.post enc Tryz.prog Go.Proofs.Tryz.f3 false true false false W args v W' := by
 have hval : ∀ (j : Nat) t v, (Go.Proofs.Tryz.f3).params[j]? = some t → args[j]? = some v → Value.okWide Tryz.prog W .any base t v := hval0
 have hsz : (DataW.weightsEach Tryz.prog ((Go.Proofs.Tryz.f3).params.toList ++ []) (ds ++ gs)).all (· ≤ reachBytes) = true := hsz0
 have hW2 := hW
 obtain ⟨p, q, hA0, hV, _, _, _⟩ := hW
 have hA : DataW.TrodAll enc Tryz.prog W 0 (fun _ => true) true (Go.Proofs.Tryz.f3).params.toList args.toList ds p := hA0
 rw [Tryz.params3] at hA hval hsz
 clear hA0 hval0 hsz0
 obtain ⟨rfl, _⟩ := trodVars_none hV
 obtain ⟨v0, vs0, d0, ds0, p0, q0, hargs, rfl, _, h0, r0⟩ := trodAll_cons hA
 obtain ⟨v1, vs1, d1, ds1, p1, q1, rfl, rfl, _, h1, r1⟩ := trodAll_cons r0
 obtain ⟨rfl, rfl, _⟩ := trodAll_nil r1
 obtain rfl : args = #[v0, v1] := by cases args; simp_all
 obtain ⟨N, L, ra0, oN0, oL0⟩ := argZ_th (hval 0 _ v0 rfl rfl) h0 (sized_at hsz (j := 0) rfl rfl)
 obtain ⟨k, ra1, o1⟩ := arg_i64 (hval 1 _ v1 rfl rfl) h1
 refine law_of_pure (glob_of_laid hL) (avs := [.agg [.v (.int .i64 N), aRows L], .v (.int .i64 k)]) (by kernel_rfl) hW2 rfl (rec_ok (by kernel_rfl)) (tb := 4) rfl Tryz.underlying4 rfl rfl rfl rfl (fun i hi => ?_) (verifyEmpty_p N L k oN0 oL0 o1)
 match i, hi with
 | 0, _ => exact ra0
 | 1, _ => exact ra1
theorem laid_met (os : Os) : laidMet Tryz.prog Rows.verifyEmptyRow.laid ((laidWorld os).forCall (fun _ _ => 0) ⟨#[], #[.agg #[.int .i64 0, .slice none 0 0], .int .i64 0], []⟩).memory :=
 laidMet_of_run' 8 (by kernel_rfl) (by kernel_rfl)
theorem lifted (os : Os) (started : os.Started) (H : Type) (enc : TypeId × Value → H) (F : Stop.Interp) :
  ReturnsInHanded {} Tryz.checked os 3 .any ((OpenSpec.ofChange Rows.verifyEmptySpec).preRow enc Tryz.prog Go.Proofs.Tryz.f3 Rows.verifyEmptyRow.domain false Rows.verifyEmptyRow.laid) (((OpenSpec.ofChange Rows.verifyEmptySpec).at F).post enc Tryz.prog Go.Proofs.Tryz.f3 false true false false) := by
 refine returnsInHanded_of_row (C := Tryz.checked) (s := OpenSpec.ofChange Rows.verifyEmptySpec) (by kernel_rfl) started (by kernel_rfl) Tryz.func3
  (witness_row_at (enc := enc) (C := Tryz.checked) false (laidWorld os) #[.agg #[.int .i64 0, .slice none 0 0], .int .i64 0] rfl (by kernel_rfl) (by kernel_rfl) (by kernel_rfl)
   (OpenSpec.preRow_of_cond 8 (show DataW.whole enc Tryz.prog ((laidWorld os).forCall (fun _ _ => 0) ⟨#[], #[.agg #[.int .i64 0, .slice none 0 0], .int .i64 0], []⟩).memory (Go.Proofs.Tryz.f3).params.toList Rows.verifyEmptySpec.vars false (#[.agg #[.int .i64 0, .slice none 0 0], .int .i64 0] : Array Value).toList 8 = some ([.agg [.lit (.int .i64 0), .nil], .lit (.int .i64 0)], [], []) by kernel_rfl) (by kernel_rfl) (fun k hk => by cases hk) (by kernel_rfl) (laid_met os))) ?_
 intro W base args ds gs before hval hW _ _ hsz hL _ _
 exact contract H enc W base args ds gs before hval hW hL hsz
theorem said : Rows.VerifyEmptySaid :=
 OpenClaim.holds_of_cond 3 Go.Proofs.Tryz.f3 rfl rfl rfl rfl rfl rfl rfl ⟨rfl, rfl, rfl, rfl, rfl⟩ rfl rfl rfl rfl rfl (by kernel_rfl) Tryz.func3 (by kernel_rfl)
  (of_decide_eq_true (by kernel_rfl)) (by unfold Func.isWrapper; first | (rw [if_pos (by decide +kernel)]; kernel_rfl) | (rw [if_neg (by decide +kernel)]; exact ⟨rfl, rfl⟩))
  (fun os started H enc _ F => by rw [OpenClaim.pre_eq_preRow]; exact lifted os started H enc F)
theorem plain (f : FuncId) (fn : Func) (hf : Tryz.pinned.checked.prog.funcNamed "census/censuslaw23.VerifyEmpty" = some f) (hfn : Tryz.pinned.checked.prog.funcs[f]? = some fn) :
  false = Tryz.pinned.checked.prog.looks [] ∧ ∀ (j : Nat) t, fn.params[j]? = some t → Tryz.pinned.checked.prog.wantsStandIn t = false := by
 obtain rfl : f = 3 := Option.some.inj ((show Tryz.prog.funcNamed "census/censuslaw23.VerifyEmpty" = some 3 by kernel_rfl).symm.trans hf) |>.symm
 obtain rfl : fn = Go.Proofs.Tryz.f3 := (Option.some.inj (Tryz.func3.symm.trans hfn)).symm
 refine ⟨by kernel_rfl, fun j t ht => ?_⟩
 rw [Tryz.params3] at ht
 have hall : (Tryz.checked.prog.funcs[3]?).all (fun g => g.params.toList.all fun t => !(Tryz.checked.prog.wantsStandIn t)) = true := by kernel_rfl
 rw [show Tryz.checked.prog.funcs[3]? = some Go.Proofs.Tryz.f3 from Tryz.func3] at hall
 have h2 : ∀ t ∈ (Go.Proofs.Tryz.f3).params.toList, (!(Tryz.checked.prog.wantsStandIn t)) = true := List.all_eq_true.1 hall
 have hm : t ∈ (Go.Proofs.Tryz.f3).params.toList := by rw [Tryz.params3]; exact Array.mem_toList_iff.2 (Array.mem_of_getElem? ht)
 have h3 : Tryz.checked.prog.wantsStandIn t = false := by simpa using h2 t hm
 exact h3
theorem proved : Rows.VerifyEmptyCardSaid :=
 Claim7.holds_tied_plain_at .later [] _ _ _ _ said (fun _ h => by cases h) (by kernel_rfl) (fun _ h => by cases h) verifyEmpty_row_tie rfl ⟨rfl, rfl⟩ (by kernel_rfl) rfl plain (by kernel_rfl)
end verifyEmpty
end Go.Proofs.YtllkogdgmmcfgaaGreatDoor
