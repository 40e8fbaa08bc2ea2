/- The law VerifyChecks: proofs are accepted, or refused at the node, as the reference says; no condition. -/
import Derived.Test.YtllkogdgmmcfgaaGreatDoorRo23
import Derived.Test.YtllkogdgmmcfgaaGreatDoorWl
import Derived.Test.YtllkogdgmmcfgaaGreatDoorLd
namespace Go.Proofs.YtllkogdgmmcfgaaGreatDoor
set_option linter.unusedVariables false
set_option linter.unusedSimpArgs false
set_option linter.unusedSectionVars false
open Go.RowKit Go.WideShapes Go.ChangeShapes Go.ChangeAt
open Wlk
attribute [-simp] List.getD_eq_getElem?_getD
set_option maxRecDepth 100000
set_option maxHeartbeats 4000000 in
theorem verifyChecks_p (N : Int) (L : List (List Int)) (M : Int) (ns : List Nd) (cl : List Cl) (hN : okI N = true) (hL : okRows L = true) (hM : okI M = true) (hns : okNZ ns = true) (hcl : okLC cl = true) : FnPure Tryz.prog 4 [aTh N L, aNet M ns, aCls cl] (.v (.bool true)) := by
 have hm := okRows_len hL
 have hnl := okNZ_len hns
 have hcll := okLC_len hcl
 unfold aTh aNet aNds aCls
 cases hf : fewP L ns cl
 ·refine fn_sp TT_ok Tryz.func4 (c := _) rfl (by simp [Tryz.ntmps4]) (fun B hI0 hro => ?_)
  rw [Tryz.ntmps4]
  simp only [enumA]
  refine amGo PT247_ok (h := ?_)
  (refine amRt Tryz.results4 (h := ?_); try simp [*])
 have hr := few_r hL hns hcl hf
 have hns2 := hr.hns
 have hcl2 := hr.hcl
 clear hr
 obtain ⟨⟨a, e⟩, hv⟩ : ∃ r, verV N L M ns cl = r := ⟨_, rfl⟩
 refine fn_sp TT_ok Tryz.func4 (c := _) rfl (by simp [Tryz.ntmps4]) (fun B hI0 hro => ?_)
 rw [Tryz.ntmps4]
 simp only [enumA]
 refine amGo PT247_ok (h := ?_)
 (refine amRt Tryz.results4 (h := ?_); try simp [*])
namespace verifyChecks
set_option maxRecDepth 100000
theorem contract (H : Type) (enc : TypeId × Value → H) (W : World) (base : Nat) (args : Array Value) (ds gs : List (DataW H)) (before : List MemPlace)
  (hval0 : ∀ (j : Nat) t v, (Go.Proofs.Tryz.f4).params[j]? = some t → args[j]? = some v → Value.okWide Tryz.prog W .any base t v)
  (hW : DataW.Whole enc Tryz.prog (Go.Proofs.Tryz.f4).params.toList Rows.verifyChecksSpec.vars false W args.toList ds gs before) (hL : laidMetH Tryz.prog Rows.verifyChecksRow.laid W) (hsz0 : (DataW.weightsEach Tryz.prog ((Go.Proofs.Tryz.f4).params.toList ++ []) (ds ++ gs)).all (· ≤ reachBytes) = true) :
  Calls Tryz.prog 4 args W fun e W' => ∃ v, e = .returned v ∧ Rows.verifyChecksSpec.post enc Tryz.prog Go.Proofs.Tryz.f4 false true false false W args v W' := by
 have hval : ∀ (j : Nat) t v, (Go.Proofs.Tryz.f4).params[j]? = some t → args[j]? = some v → Value.okWide Tryz.prog W .any base t v := hval0
 have hsz : (DataW.weightsEach Tryz.prog ((Go.Proofs.Tryz.f4).params.toList ++ []) (ds ++ gs)).all (· ≤ reachBytes) = true := hsz0
 have hW2 := hW
 obtain ⟨p, q, hA0, hV, _, _, _⟩ := hW
 have hA : DataW.TrodAll enc Tryz.prog W 0 (fun _ => true) true (Go.Proofs.Tryz.f4).params.toList args.toList ds p := hA0
 rw [Tryz.params4] at hA hval hsz
 clear hA0 hval0 hsz0
 obtain ⟨rfl, _⟩ := trodVars_none hV
 obtain ⟨v0, vs0, d0, ds0, p0, q0, hargs, rfl, _, h0, r0⟩ := trodAll_cons hA
 obtain ⟨v1, vs1, d1, ds1, p1, q1, rfl, rfl, _, h1, r1⟩ := trodAll_cons r0
 obtain ⟨v2, vs2, d2, ds2, p2, q2, rfl, rfl, _, h2, r2⟩ := trodAll_cons r1
 obtain ⟨rfl, rfl, _⟩ := trodAll_nil r2
 obtain rfl : args = #[v0, v1, v2] := by cases args; simp_all
 obtain ⟨N, L, ra0, oN0, oL0⟩ := argZ_th (hval 0 _ v0 rfl rfl) h0 (sized_at hsz (j := 0) rfl rfl)
 obtain ⟨M, ns, ra1, oN1, oL1⟩ := argZ_net (hval 1 _ v1 rfl rfl) h1 (sized_at hsz (j := 1) rfl rfl)
 obtain ⟨cl, ra2, oL2⟩ := argZ_cls (hval 2 _ v2 rfl rfl) h2 (sized_at hsz (j := 2) rfl rfl)
 refine law_of_pure (glob_of_laid hL) (avs := [.agg [.v (.int .i64 N), aRows L], aNet M ns, aCls cl]) (by kernel_rfl) hW2 rfl (rec_ok (by kernel_rfl)) (tb := 4) rfl Tryz.underlying4 rfl rfl rfl rfl (fun i hi => ?_) (verifyChecks_p N L M ns cl oN0 oL0 oN1 oL1 oL2)
 match i, hi with
 | 0, _ => exact ra0
 | 1, _ => exact ra1
 | 2, _ => exact ra2
theorem laid_met (os : Os) : laidMet Tryz.prog Rows.verifyChecksRow.laid ((laidWorld os).forCall (fun _ _ => 0) ⟨#[], #[.agg #[.int .i64 0, .slice none 0 0], .agg #[.int .i64 0, .slice none 0 0], .slice none 0 0], []⟩).memory :=
 laidMet_of_run' 8 (by kernel_rfl) (by kernel_rfl)
theorem lifted (os : Os) (started : os.Started) (H : Type) (enc : TypeId × Value → H) (F : Stop.Interp) :
  ReturnsInHanded {} Tryz.checked os 4 .any ((OpenSpec.ofChange Rows.verifyChecksSpec).preRow enc Tryz.prog Go.Proofs.Tryz.f4 Rows.verifyChecksRow.domain false Rows.verifyChecksRow.laid) (((OpenSpec.ofChange Rows.verifyChecksSpec).at F).post enc Tryz.prog Go.Proofs.Tryz.f4 false true false false) := by
 refine returnsInHanded_of_row (C := Tryz.checked) (s := OpenSpec.ofChange Rows.verifyChecksSpec) (by kernel_rfl) started (by kernel_rfl) Tryz.func4
  (witness_row_at (enc := enc) (C := Tryz.checked) false (laidWorld os) #[.agg #[.int .i64 0, .slice none 0 0], .agg #[.int .i64 0, .slice none 0 0], .slice none 0 0] rfl (by kernel_rfl) (by kernel_rfl) (by kernel_rfl)
   (OpenSpec.preRow_of_cond 8 (show DataW.whole enc Tryz.prog ((laidWorld os).forCall (fun _ _ => 0) ⟨#[], #[.agg #[.int .i64 0, .slice none 0 0], .agg #[.int .i64 0, .slice none 0 0], .slice none 0 0], []⟩).memory (Go.Proofs.Tryz.f4).params.toList Rows.verifyChecksSpec.vars false (#[.agg #[.int .i64 0, .slice none 0 0], .agg #[.int .i64 0, .slice none 0 0], .slice none 0 0] : Array Value).toList 8 = some ([.agg [.lit (.int .i64 0), .nil], .agg [.lit (.int .i64 0), .nil], .nil], [], []) by kernel_rfl) (by kernel_rfl) (fun k hk => by cases hk) (by kernel_rfl) (laid_met os))) ?_
 intro W base args ds gs before hval hW _ _ hsz hL _ _
 exact contract H enc W base args ds gs before hval hW hL hsz
theorem said : Rows.VerifyChecksSaid :=
 OpenClaim.holds_of_cond 4 Go.Proofs.Tryz.f4 rfl rfl rfl rfl rfl rfl rfl ⟨rfl, rfl, rfl, rfl, rfl⟩ rfl rfl rfl rfl rfl (by kernel_rfl) Tryz.func4 (by kernel_rfl)
  (of_decide_eq_true (by kernel_rfl)) (by unfold Func.isWrapper; first | (rw [if_pos (by decide +kernel)]; kernel_rfl) | (rw [if_neg (by decide +kernel)]; exact ⟨rfl, rfl⟩))
  (fun os started H enc _ F => by rw [OpenClaim.pre_eq_preRow]; exact lifted os started H enc F)
theorem plain (f : FuncId) (fn : Func) (hf : Tryz.pinned.checked.prog.funcNamed "census/censuslaw23.VerifyChecks" = some f) (hfn : Tryz.pinned.checked.prog.funcs[f]? = some fn) :
  false = Tryz.pinned.checked.prog.looks [] ∧ ∀ (j : Nat) t, fn.params[j]? = some t → Tryz.pinned.checked.prog.wantsStandIn t = false := by
 obtain rfl : f = 4 := Option.some.inj ((show Tryz.prog.funcNamed "census/censuslaw23.VerifyChecks" = some 4 by kernel_rfl).symm.trans hf) |>.symm
 obtain rfl : fn = Go.Proofs.Tryz.f4 := (Option.some.inj (Tryz.func4.symm.trans hfn)).symm
 refine ⟨by kernel_rfl, fun j t ht => ?_⟩
 rw [Tryz.params4] at ht
 have hall : (Tryz.checked.prog.funcs[4]?).all (fun g => g.params.toList.all fun t => !(Tryz.checked.prog.wantsStandIn t)) = true := by kernel_rfl
 rw [show Tryz.checked.prog.funcs[4]? = some Go.Proofs.Tryz.f4 from Tryz.func4] at hall
 have h2 : ∀ t ∈ (Go.Proofs.Tryz.f4).params.toList, (!(Tryz.checked.prog.wantsStandIn t)) = true := List.all_eq_true.1 hall
 have hm : t ∈ (Go.Proofs.Tryz.f4).params.toList := by rw [Tryz.params4]; exact Array.mem_toList_iff.2 (Array.mem_of_getElem? ht)
 have h3 : Tryz.checked.prog.wantsStandIn t = false := by simpa using h2 t hm
 exact h3
theorem proved : Rows.VerifyChecksCardSaid :=
 Claim7.holds_tied_plain_at .later [] _ _ _ _ said (fun _ h => by cases h) (by kernel_rfl) (fun _ h => by cases h) verifyChecks_row_tie rfl ⟨rfl, rfl⟩ (by kernel_rfl) rfl plain (by kernel_rfl)
end verifyChecks
end Go.Proofs.YtllkogdgmmcfgaaGreatDoor
