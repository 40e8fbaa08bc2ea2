/- The law VerifyShape: an accepted net is decomposable, and decides; no condition. -/
import Derived.Test.YtllkogdgmmcfgaaGreatDoorSa23
import Derived.Test.YtllkogdgmmcfgaaGreatDoorWa
import Derived.Test.YtllkogdgmmcfgaaGreatDoorLd
namespace Go.Proofs.YtllkogdgmmcfgaaGreatDoor
set_option linter.unusedVariables false
set_option linter.unusedSimpArgs false
set_option linter.unusedSectionVars false
open Go.RowKit Go.WideShapes Go.ChangeShapes Go.ChangeAt
attribute [local simp] List.getD_cons_zero List.getD_cons_succ List.getD_nil undef gvars runL runE effA stepA dstOk wantA core lk st dl AS.ev AS.evs AS.put AS.upd updO updI nxt cPick cAlloc cBox cBuild cBuildS cLoad cStore cNil plainOf cBin cNilS isNilS nilA cUn cConvX cConvB cConv bytesOf rowB cMake cSlice slA idxA cFA cF cIA cIX cIS cI cExt cLen cApp cMM cFun cCall lenA lenM isNilM nilM cNilM cMakeM hintB cMapK cLook foundR lookR cUpd putM cDel delM findA isKeyB Instr.sameNow AS.entry AS.bound AS.callee sc1 sc2 ixOk ldA AV.flat AV.cell AV.cells Value.oneCell' fillA spl chunk zeros AS.parts AS.rows AS.shut AS.shut1 AS.shut2 AS.shutL AS.shutM AV.ids idsL idsLL eqAll bndA AV.scalar AV.scalar1 AV.isV Ef.app Ef.pk ptOf pntO wrO wr
attribute [-simp] List.getD_eq_getElem?_getD
set_option maxRecDepth 100000
set_option maxHeartbeats 8000000 in
theorem verifyShape_p (N : Int) (L : List (List Int)) (M : Int) (ns : List Nd) (cl : List Cl) (hN : okI N = true) (hL : okRows L = true) (hM : okI M = true) (hns : okNZ ns = true) (hcl : okLC cl = true) : FnPure Tryz.prog 6 [aTh N L, aNet M ns, aCls cl] (.v (.bool true)) := by
 have hm := okRows_len hL
 have hnl := okNZ_len hns
 have hcll := okLC_len hcl
 cases hf : fewP L ns cl
 ·unfold aTh aNet aNds aCls
  refine fn_sp TT_ok Tryz.func6 (c := _) rfl (by simp [Tryz.ntmps6]) (fun B hI0 hro => ?_)
  rw [Tryz.ntmps6]
  simp only [enumA]
  refine amGo PT232_ok (h := ?_)
  (refine amRt Tryz.results6 (h := ?_); try simp [*])
 have hr := few_r hL hns hcl hf
 have hns2 := hr.hns
 have hcl2 := hr.hcl
 clear hr
 have HA := Lib.hid (accV_of (N := N) (L := L) (M := M) (ns := ns) (cl := cl))
 obtain ⟨⟨a, e⟩, hv⟩ : ∃ r, verV N L M ns cl = r := ⟨_, rfl⟩
 rw [hv] at HA
 by_cases he : e = 0
 ·subst he
  have hA := HA.out rfl
  clear HA
  obtain rfl := hA.hNM
  have hvl := hA.hv
  have hd := decAllB_of (N := N) (ns := ns) (fun i hi hk => ver_dec hA hi hk)
  have hp := apaB_of (ns := ns) (fun i hi hk => ver_apart hA hi hk)
  clear hA
  unfold aTh aNet aNds aCls
  refine fn_sp TT_ok Tryz.func6 (c := _) rfl (by simp [Tryz.ntmps6]) (fun B hI0 hro => ?_)
  rw [Tryz.ntmps6]
  simp only [enumA]
  refine amGo PT232_ok (h := ?_)
  (refine amRt Tryz.results6 (h := ?_); try simp [*])
 ·have hne : (e != 0) = true := by simpa using he
  clear HA
  unfold aTh aNet aNds aCls
  refine fn_sp TT_ok Tryz.func6 (c := _) rfl (by simp [Tryz.ntmps6]) (fun B hI0 hro => ?_)
  rw [Tryz.ntmps6]
  simp only [enumA]
  refine amGo PT232_ok (h := ?_)
  (refine amRt Tryz.results6 (h := ?_); try simp [*])
namespace verifyShape
set_option maxRecDepth 100000
theorem contract (H : Type) (enc : TypeId × Value → H) (W : World) (base : Nat) (args : Array Value) (ds gs : List (DataW H)) (before : List MemPlace)
  (hval0 : ∀ (j : Nat) t v, (Go.Proofs.Tryz.f6).params[j]? = some t → args[j]? = some v → Value.okWide Tryz.prog W .any base t v)
  (hW : DataW.Whole enc Tryz.prog (Go.Proofs.Tryz.f6).params.toList Rows.verifyShapeSpec.vars false W args.toList ds gs before) (hL : laidMetH Tryz.prog Rows.verifyShapeRow.laid W) (hsz0 : (DataW.weightsEach Tryz.prog ((Go.Proofs.Tryz.f6).params.toList ++ []) (ds ++ gs)).all (· ≤ reachBytes) = true) :
  Calls Tryz.prog 6 args W fun e W' => ∃ v, e = .returned v ∧ Rows.verifyShapeSpec.post enc Tryz.prog Go.Proofs.Tryz.f6 false true false false W args v W' := by
 have hval : ∀ (j : Nat) t v, (Go.Proofs.Tryz.f6).params[j]? = some t → args[j]? = some v → Value.okWide Tryz.prog W .any base t v := hval0
 have hsz : (DataW.weightsEach Tryz.prog ((Go.Proofs.Tryz.f6).params.toList ++ []) (ds ++ gs)).all (· ≤ reachBytes) = true := hsz0
 have hW2 := hW
 obtain ⟨p, q, hA0, hV, _, _, _⟩ := hW
 have hA : DataW.TrodAll enc Tryz.prog W 0 (fun _ => true) true (Go.Proofs.Tryz.f6).params.toList args.toList ds p := hA0
 rw [Tryz.params6] at hA hval hsz
 clear hA0 hval0 hsz0
 obtain ⟨rfl, _⟩ := trodVars_none hV
 obtain ⟨v0, vs0, d0, ds0, p0, q0, hargs, rfl, _, h0, r0⟩ := trodAll_cons hA
 obtain ⟨v1, vs1, d1, ds1, p1, q1, rfl, rfl, _, h1, r1⟩ := trodAll_cons r0
 obtain ⟨v2, vs2, d2, ds2, p2, q2, rfl, rfl, _, h2, r2⟩ := trodAll_cons r1
 obtain ⟨rfl, rfl, _⟩ := trodAll_nil r2
 obtain rfl : args = #[v0, v1, v2] := by cases args; simp_all
 obtain ⟨N, L, ra0, oN0, oL0⟩ := argZ_th (hval 0 _ v0 rfl rfl) h0 (sized_at hsz (j := 0) rfl rfl)
 obtain ⟨M, ns, ra1, oN1, oL1⟩ := argZ_net (hval 1 _ v1 rfl rfl) h1 (sized_at hsz (j := 1) rfl rfl)
 obtain ⟨cl, ra2, oL2⟩ := argZ_cls (hval 2 _ v2 rfl rfl) h2 (sized_at hsz (j := 2) rfl rfl)
 refine law_of_pure (glob_of_laid hL) (avs := [.agg [.v (.int .i64 N), aRows L], aNet M ns, aCls cl]) (by kernel_rfl) hW2 rfl (rec_ok (by kernel_rfl)) (tb := 4) rfl Tryz.underlying4 rfl rfl rfl rfl (fun i hi => ?_) (verifyShape_p N L M ns cl oN0 oL0 oN1 oL1 oL2)
 match i, hi with
 | 0, _ => exact ra0
 | 1, _ => exact ra1
 | 2, _ => exact ra2
theorem laid_met (os : Os) : laidMet Tryz.prog Rows.verifyShapeRow.laid ((laidWorld os).forCall (fun _ _ => 0) ⟨#[], #[.agg #[.int .i64 0, .slice none 0 0], .agg #[.int .i64 0, .slice none 0 0], .slice none 0 0], []⟩).memory :=
 laidMet_of_run' 8 (by kernel_rfl) (by kernel_rfl)
theorem lifted (os : Os) (started : os.Started) (H : Type) (enc : TypeId × Value → H) (F : Stop.Interp) :
  ReturnsInHanded {} Tryz.checked os 6 .any ((OpenSpec.ofChange Rows.verifyShapeSpec).preRow enc Tryz.prog Go.Proofs.Tryz.f6 Rows.verifyShapeRow.domain false Rows.verifyShapeRow.laid) (((OpenSpec.ofChange Rows.verifyShapeSpec).at F).post enc Tryz.prog Go.Proofs.Tryz.f6 false true false false) := by
 refine returnsInHanded_of_row (C := Tryz.checked) (s := OpenSpec.ofChange Rows.verifyShapeSpec) (by kernel_rfl) started (by kernel_rfl) Tryz.func6
  (witness_row_at (enc := enc) (C := Tryz.checked) false (laidWorld os) #[.agg #[.int .i64 0, .slice none 0 0], .agg #[.int .i64 0, .slice none 0 0], .slice none 0 0] rfl (by kernel_rfl) (by kernel_rfl) (by kernel_rfl)
   (OpenSpec.preRow_of_cond 8 (show DataW.whole enc Tryz.prog ((laidWorld os).forCall (fun _ _ => 0) ⟨#[], #[.agg #[.int .i64 0, .slice none 0 0], .agg #[.int .i64 0, .slice none 0 0], .slice none 0 0], []⟩).memory (Go.Proofs.Tryz.f6).params.toList Rows.verifyShapeSpec.vars false (#[.agg #[.int .i64 0, .slice none 0 0], .agg #[.int .i64 0, .slice none 0 0], .slice none 0 0] : Array Value).toList 8 = some ([.agg [.lit (.int .i64 0), .nil], .agg [.lit (.int .i64 0), .nil], .nil], [], []) by kernel_rfl) (by kernel_rfl) (fun k hk => by cases hk) (by kernel_rfl) (laid_met os))) ?_
 intro W base args ds gs before hval hW _ _ hsz hL _ _
 exact contract H enc W base args ds gs before hval hW hL hsz
theorem said : Rows.VerifyShapeSaid :=
 OpenClaim.holds_of_cond 6 Go.Proofs.Tryz.f6 rfl rfl rfl rfl rfl rfl rfl ⟨rfl, rfl, rfl, rfl, rfl⟩ rfl rfl rfl rfl rfl (by kernel_rfl) Tryz.func6 (by kernel_rfl)
  (of_decide_eq_true (by kernel_rfl)) (by unfold Func.isWrapper; first | (rw [if_pos (by decide +kernel)]; kernel_rfl) | (rw [if_neg (by decide +kernel)]; exact ⟨rfl, rfl⟩))
  (fun os started H enc _ F => by rw [OpenClaim.pre_eq_preRow]; exact lifted os started H enc F)
theorem plain (f : FuncId) (fn : Func) (hf : Tryz.pinned.checked.prog.funcNamed "census/censuslaw23.VerifyShape" = some f) (hfn : Tryz.pinned.checked.prog.funcs[f]? = some fn) :
  false = Tryz.pinned.checked.prog.looks [] ∧ ∀ (j : Nat) t, fn.params[j]? = some t → Tryz.pinned.checked.prog.wantsStandIn t = false := by
 obtain rfl : f = 6 := Option.some.inj ((show Tryz.prog.funcNamed "census/censuslaw23.VerifyShape" = some 6 by kernel_rfl).symm.trans hf) |>.symm
 obtain rfl : fn = Go.Proofs.Tryz.f6 := (Option.some.inj (Tryz.func6.symm.trans hfn)).symm
 refine ⟨by kernel_rfl, fun j t ht => ?_⟩
 rw [Tryz.params6] at ht
 have hall : (Tryz.checked.prog.funcs[6]?).all (fun g => g.params.toList.all fun t => !(Tryz.checked.prog.wantsStandIn t)) = true := by kernel_rfl
 rw [show Tryz.checked.prog.funcs[6]? = some Go.Proofs.Tryz.f6 from Tryz.func6] at hall
 have h2 : ∀ t ∈ (Go.Proofs.Tryz.f6).params.toList, (!(Tryz.checked.prog.wantsStandIn t)) = true := List.all_eq_true.1 hall
 have hm : t ∈ (Go.Proofs.Tryz.f6).params.toList := by rw [Tryz.params6]; exact Array.mem_toList_iff.2 (Array.mem_of_getElem? ht)
 have h3 : Tryz.checked.prog.wantsStandIn t = false := by simpa using h2 t hm
 exact h3
theorem proved : Rows.VerifyShapeCardSaid :=
 Claim7.holds_tied_plain_at .later [] _ _ _ _ said (fun _ h => by cases h) (by kernel_rfl) (fun _ h => by cases h) verifyShape_row_tie rfl ⟨rfl, rfl⟩ (by kernel_rfl) rfl plain (by kernel_rfl)
end verifyShape
end Go.Proofs.YtllkogdgmmcfgaaGreatDoor
