/- ExplainBias: whether a net is biased, and for which assignment, is what the chapter specifies. -/
import Derived.Test.YtecdhmiamlgibaaDoorUdG
import Derived.Test.YtecdhmiamlgibaaDoorWl
import Derived.Test.YtecdhmiamlgibaaDoorLd
namespace Go.Proofs.YtecdhmiamlgibaaDoor
set_option linter.unusedVariables false
set_option linter.unusedSimpArgs false
set_option linter.unusedSectionVars false
open Go.RowKit Go.WideShapes Go.ChangeShapes Go.ChangeAt
open Wlk
attribute [-simp] List.getD_eq_getElem?_getD
set_option maxRecDepth 100000
theorem bia_ref (N : Int) (ns : List Nd) (a p : BitVec 128) : biasR N ns a p = biaRA N ns a p := by
 unfold biasR biaRA
 cases hv : (validN N ns && subB a N)
 ·rw [if_pos rfl, chk_one hv, if_neg (by decide)]
 ·rw [if_neg (by decide)]
  by_cases h16 : 16 < (matL ns).length
  ·rw [if_pos h16, chk_two hv h16, if_neg (by decide)]
  ·rw [if_neg h16, chk_ok hv h16, if_pos rfl, bia_eq (Bool.and_eq_true _ _ ▸ hv).1 a p]
   rfl
theorem sub_zero (N : Int) : sSub 0#128 (sAll N) = true := by
 rw [sSub_iffR]
 intro v hv
 rw [sHas_zero] at hv
 cases hv
theorem bis_ref (N : Int) (ns : List Nd) (p : BitVec 128) : bsA N ns p = refBA N ns p := by
 unfold bsA refBA
 cases hv : validN N ns
 ·have h2 : (validN N ns && sSub 0#128 (sAll N)) = false := by rw [hv]; rfl
  rw [if_pos rfl, chk_one h2, if_neg (by decide)]
 ·have h2 : (validN N ns && sSub 0#128 (sAll N)) = true := by rw [hv, sub_zero]; rfl
  rw [if_neg (by decide)]
  by_cases h16 : 16 < (matL ns).length
  ·rw [if_pos h16, chk_two h2 h16, if_neg (by decide)]
  ·rw [if_neg h16, chk_ok h2 h16, if_pos rfl, refBs_eq hv p (by omega)]
   cases fstI (tabF ns) (matL ns).length (idxN (matL ns) p) <;> rfl
theorem explainBias_p (N : Int) (ns : List Nd) (a p : BitVec 128) (hN : okI N = true) (h0 : okN0 ns = true) : FnPure Tryd.prog 8 [aNet N ns, aSet a, aSet p] (.v (.bool true)) := by
 have hl := okN0_len h0
 have h6 : okI 6 = true := rfl
 cases hf : fewN N ns 6
 ·unfold aNet aNds aSet WV
  refine fn_sp TT_ok Tryd.func8 (c := _) rfl (by simp [Tryd.ntmps8]) (fun B hI0 hro => ?_)
  rw [Tryd.ntmps8]
  simp only [enumA]
  refine amGo PT179_ok (h := ?_)
  (refine amRt Tryd.results8 (h := ?_); try simp [*])
 have hk := okNs_of h0 (by unfold fewN at hf; rw [Bool.and_eq_true] at hf; exact hf.1)
 have e1 := bia_ref N ns a p
 have e2 := bis_ref N ns p
 have f1 : ∃ (x : Bool) (c : Int), biaRA N ns a p = .tup [.v (.bool x), .v (.int .i64 c)] := by
  unfold biaRA
  split
  ·exact ⟨_, _, rfl⟩
  ·exact ⟨_, _, rfl⟩
 have f2 : ∃ (s : BitVec 128) (x : Bool) (c : Int), refBA N ns p = .tup [aSet s, .v (.bool x), .v (.int .i64 c)] := by
  unfold refBA
  split
  ·exact ⟨_, _, _, rfl⟩
  ·exact ⟨_, _, _, rfl⟩
 obtain ⟨x, c, f1⟩ := f1
 obtain ⟨s, y, d, f2⟩ := f2
 rw [f1] at e1
 rw [f2] at e2
 unfold aSet WV at e2 f2
 unfold aNet aNds aSet WV
 refine fn_sp TT_ok Tryd.func8 (c := _) rfl (by simp [Tryd.ntmps8]) (fun B hI0 hro => ?_)
 rw [Tryd.ntmps8]
 simp only [enumA]
 refine amGo PT179_ok (h := ?_)
 (refine amRt Tryd.results8 (h := ?_); try simp [*])
namespace explainBias
set_option maxRecDepth 100000
theorem contract (H : Type) (enc : TypeId × Value → H) (W : World) (base : Nat) (args : Array Value) (ds gs : List (DataW H)) (before : List MemPlace)
  (hval0 : ∀ (j : Nat) t v, (Go.Proofs.Tryd.f8).params[j]? = some t → args[j]? = some v → Value.okWide Tryd.prog W .any base t v)
  (hW : DataW.Whole enc Tryd.prog (Go.Proofs.Tryd.f8).params.toList Rows.explainBiasSpec.vars false W args.toList ds gs before) (hL : laidMetH Tryd.prog Rows.explainBiasRow.laid W) :
  Calls Tryd.prog 8 args W fun e W' => ∃ v, e = .returned v ∧ Rows.explainBiasSpec.post enc Tryd.prog Go.Proofs.Tryd.f8 false true false false W args v W' := by
 have hval : ∀ (j : Nat) t v, (Go.Proofs.Tryd.f8).params[j]? = some t → args[j]? = some v → Value.okWide Tryd.prog W .any base t v := hval0
 have hW2 := hW
 obtain ⟨p, q, hA0, hV, _, _, _⟩ := hW
 have hA : DataW.TrodAll enc Tryd.prog W 0 (fun _ => true) true (Go.Proofs.Tryd.f8).params.toList args.toList ds p := hA0
 rw [Tryd.params8] at hA hval
 clear hA0 hval0
 obtain ⟨rfl, _⟩ := trodVars_none hV
 obtain ⟨v0, vs0, d0, ds0, p0, q0, hargs, rfl, _, h0, r0⟩ := trodAll_cons hA
 obtain ⟨v1, vs1, d1, ds1, p1, q1, rfl, rfl, _, h1, r1⟩ := trodAll_cons r0
 obtain ⟨v2, vs2, d2, ds2, p2, q2, rfl, rfl, _, h2, r2⟩ := trodAll_cons r1
 obtain ⟨rfl, rfl, _⟩ := trodAll_nil r2
 obtain rfl : args = #[v0, v1, v2] := by cases args; simp_all
 obtain ⟨N, ns, ra0, oN0, oL0⟩ := arg_net (hval 0 _ v0 rfl rfl) h0
 obtain ⟨a, ra1⟩ := arg_set (hval 1 _ v1 rfl rfl) h1
 obtain ⟨p, ra2⟩ := arg_set (hval 2 _ v2 rfl rfl) h2
 refine law_of_pure (glob_of_laid hL) (avs := [aNet N ns, aSet a, aSet p]) (by kernel_rfl) hW2 rfl (rec_ok (by kernel_rfl)) (tb := 4) rfl Tryd.underlying4 rfl rfl rfl rfl (fun i hi => ?_) (explainBias_p N ns a p oN0 oL0)
 match i, hi with
 | 0, _ => exact ra0
 | 1, _ => exact ra1
 | 2, _ => exact ra2
theorem laid_met (os : Os) : laidMet Tryd.prog Rows.explainBiasRow.laid ((laidWorld os).forCall (fun _ _ => 0) ⟨#[], #[.agg #[.int .i64 0, .slice none 0 0], .agg #[.int .u64 0, .int .u64 0], .agg #[.int .u64 0, .int .u64 0]], []⟩).memory :=
 laidMet_of_run' 8 (by kernel_rfl) (by kernel_rfl)
theorem lifted (os : Os) (started : os.Started) (H : Type) (enc : TypeId × Value → H) (F : Stop.Interp) :
  ReturnsInHanded {} Tryd.checked os 8 .any ((OpenSpec.ofChange Rows.explainBiasSpec).preRow enc Tryd.prog Go.Proofs.Tryd.f8 Rows.explainBiasRow.domain false Rows.explainBiasRow.laid) (((OpenSpec.ofChange Rows.explainBiasSpec).at F).post enc Tryd.prog Go.Proofs.Tryd.f8 false true false false) := by
 refine returnsInHanded_of_row (C := Tryd.checked) (s := OpenSpec.ofChange Rows.explainBiasSpec) (by kernel_rfl) started (by kernel_rfl) Tryd.func8
  (witness_row_at (enc := enc) (C := Tryd.checked) false (laidWorld os) #[.agg #[.int .i64 0, .slice none 0 0], .agg #[.int .u64 0, .int .u64 0], .agg #[.int .u64 0, .int .u64 0]] rfl (by kernel_rfl) (by kernel_rfl) (by kernel_rfl)
   (OpenSpec.preRow_of_cond 8 (show DataW.whole enc Tryd.prog ((laidWorld os).forCall (fun _ _ => 0) ⟨#[], #[.agg #[.int .i64 0, .slice none 0 0], .agg #[.int .u64 0, .int .u64 0], .agg #[.int .u64 0, .int .u64 0]], []⟩).memory (Go.Proofs.Tryd.f8).params.toList Rows.explainBiasSpec.vars false (#[.agg #[.int .i64 0, .slice none 0 0], .agg #[.int .u64 0, .int .u64 0], .agg #[.int .u64 0, .int .u64 0]] : Array Value).toList 8 = some ([.agg [.lit (.int .i64 0), .nil], .agg [.lit (.int .u64 0), .lit (.int .u64 0)], .agg [.lit (.int .u64 0), .lit (.int .u64 0)]], [], []) by kernel_rfl) (by kernel_rfl) (fun k hk => by cases hk) (by kernel_rfl) (laid_met os))) ?_
 intro W base args ds gs before hval hW _ _ _ hL _ _
 exact contract H enc W base args ds gs before hval hW hL
theorem said : Rows.ExplainBiasSaid :=
 OpenClaim.holds_of_cond 8 Go.Proofs.Tryd.f8 rfl rfl rfl rfl rfl rfl rfl ⟨rfl, rfl, rfl, rfl, rfl⟩ rfl rfl rfl rfl rfl (by kernel_rfl) Tryd.func8 (by kernel_rfl)
  (of_decide_eq_true (by kernel_rfl)) (by unfold Func.isWrapper; first | (rw [if_pos (by decide +kernel)]; kernel_rfl) | (rw [if_neg (by decide +kernel)]; exact ⟨rfl, rfl⟩))
  (fun os started H enc _ F => by rw [OpenClaim.pre_eq_preRow]; exact lifted os started H enc F)
theorem plain (f : FuncId) (fn : Func) (hf : Tryd.pinned.checked.prog.funcNamed "census/censuslaw39.ExplainBias" = some f) (hfn : Tryd.pinned.checked.prog.funcs[f]? = some fn) :
  false = Tryd.pinned.checked.prog.looks [] ∧ ∀ (j : Nat) t, fn.params[j]? = some t → Tryd.pinned.checked.prog.wantsStandIn t = false := by
 obtain rfl : f = 8 := Option.some.inj ((show Tryd.prog.funcNamed "census/censuslaw39.ExplainBias" = some 8 by kernel_rfl).symm.trans hf) |>.symm
 obtain rfl : fn = Go.Proofs.Tryd.f8 := (Option.some.inj (Tryd.func8.symm.trans hfn)).symm
 refine ⟨by kernel_rfl, fun j t ht => ?_⟩
 rw [Tryd.params8] at ht
 have hall : (Tryd.checked.prog.funcs[8]?).all (fun g => g.params.toList.all fun t => !(Tryd.checked.prog.wantsStandIn t)) = true := by kernel_rfl
 rw [show Tryd.checked.prog.funcs[8]? = some Go.Proofs.Tryd.f8 from Tryd.func8] at hall
 have h2 : ∀ t ∈ (Go.Proofs.Tryd.f8).params.toList, (!(Tryd.checked.prog.wantsStandIn t)) = true := List.all_eq_true.1 hall
 have hm : t ∈ (Go.Proofs.Tryd.f8).params.toList := by rw [Tryd.params8]; exact Array.mem_toList_iff.2 (Array.mem_of_getElem? ht)
 have h3 : Tryd.checked.prog.wantsStandIn t = false := by simpa using h2 t hm
 exact h3
theorem proved : Rows.ExplainBiasCardSaid :=
 Claim7.holds_tied_plain_at .later [] _ _ _ _ said (fun _ h => by cases h) (by kernel_rfl) (fun _ h => by cases h) explainBias_row_tie rfl ⟨rfl, rfl⟩ (by kernel_rfl) rfl plain (by kernel_rfl)
end explainBias
end Go.Proofs.YtecdhmiamlgibaaDoor
