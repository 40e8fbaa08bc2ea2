/- ExplainLeast: the assignment of Bias is biased, and none that comes before it is. -/
import Derived.Test.YtecdhmiamlgibaaDoorFj39
import Derived.Test.YtecdhmiamlgibaaDoorWl
import Derived.Test.YtecdhmiamlgibaaDoorSl39
import Derived.Test.YtecdhmiamlgibaaDoorPw39
import Derived.Test.YtecdhmiamlgibaaDoorLd
namespace Go.Proofs.YtecdhmiamlgibaaDoor
set_option linter.unusedVariables false
set_option linter.unusedSimpArgs false
set_option linter.unusedSectionVars false
open Go.RowKit Go.WideShapes Go.ChangeShapes Go.ChangeAt
open Wlk
attribute [-simp] List.getD_eq_getElem?_getD
set_option maxRecDepth 100000
theorem sSub_iffL (s t : BitVec 128) : sSub s t = true ↔ ∀ v : Int, sHas s v = true → sHas t v = true := by
 unfold sSub
 rw [beq_iff_eq]
 constructor
 ·intro h v hv
  have hm := sHas_mem hv
  have h2 : sHas (s &&& ~~~ t) v = false := by rw [h, sHas_zero]
  rw [sHas_and, hv, sHas_not _ _ hm.1 hm.2] at h2
  simpa using h2
 ·intro h
  refine sets_ext fun v h1 h2 => ?_
  rw [sHas_zero, sHas_and, sHas_not _ _ h1 h2]
  cases hs : sHas s v with
  | false => rfl
  | true => rw [h v hs]; rfl
theorem cut_sub (a : BitVec 128) (N : Int) : sSub (a &&& sAll N) (sAll N) = true := (sSub_iffL _ _).2 fun v hv => by
 rw [sHas_and, Bool.and_eq_true] at hv; exact hv.2
theorem setX_sub {N : Int} {ns : List Nd} (hv : validN N ns = true) (x : Nat) : sSub (setX (matL ns) x) (sAll N) = true := (sSub_iffL _ _).2 fun v hh => by
 have h1 := mat_le hv (setX_in (listS_vs _) hh)
 have h2 := sHas_mem hh
 rw [sHas_all, decide_eq_true_eq]
 exact ⟨h2.1, h1, h2.2⟩
theorem bias_ok {N : Int} {ns : List Nd} (hv : validN N ns = true) (h16 : ¬ 16 < (matL ns).length) {a : BitVec 128} (ha : sSub a (sAll N) = true) (p : BitVec 128) : biasR N ns a p = .tup [.v (.bool (biasB ns a p)), .v (.int .i64 0)] := by
 unfold biasR
 have h : (validN N ns && subB a N) = true := by rw [hv]; exact ha
 rw [if_neg (by rw [h]; decide), if_neg h16]
theorem explainLeast_p (N : Int) (ns : List Nd) (p a : BitVec 128) (hN : okI N = true) (h0 : okN0 ns = true) : FnPure Tryd.prog 11 [aNet N ns, aSet p, aSet a] (.v (.bool true)) := by
 have hl := okN0_len h0
 have h10 : okI 10 = true := rfl
 obtain ⟨z1, z2⟩ := words0
 have hz0 : toSet (.agg [.v (.int .u64 0), .v (.int .u64 0)]) = some 0#128 := rfl
 cases hf : fewN N ns 10
 ·unfold aNet aNds aSet WV
  refine fn_sp TT_ok Tryd.func11 (c := _) rfl (by simp [Tryd.ntmps11]) (fun B hI0 hro => ?_)
  rw [Tryd.ntmps11]
  simp only [enumA]
  refine amGo PT164_ok (h := ?_)
  (refine amRt Tryd.results11 (h := ?_); try simp [*])
 have hk := okNs_of h0 (by unfold fewN at hf; rw [Bool.and_eq_true] at hf; exact hf.1)
 cases hv : validN N ns
 ·have e1 : bsA N ns p = .tup [aSet 0#128, .v (.bool false), .v (.int .i64 1)] := by unfold bsA; rw [if_pos hv]
  unfold aSet WV at e1
  rw [z1, z2] at e1
  unfold aNet aNds aSet WV
  refine fn_sp TT_ok Tryd.func11 (c := _) rfl (by simp [Tryd.ntmps11]) (fun B hI0 hro => ?_)
  rw [Tryd.ntmps11]
  simp only [enumA]
  refine amGo PT164_ok (h := ?_)
  (refine amRt Tryd.results11 (h := ?_); try simp [*])
 by_cases h16 : 16 < (matL ns).length
 ·have e1 : bsA N ns p = .tup [aSet 0#128, .v (.bool false), .v (.int .i64 2)] := by unfold bsA; rw [if_neg (by rw [hv]; decide), if_pos h16]
  unfold aSet WV at e1
  rw [z1, z2] at e1
  unfold aNet aNds aSet WV
  refine fn_sp TT_ok Tryd.func11 (c := _) rfl (by simp [Tryd.ntmps11]) (fun B hI0 hro => ?_)
  rw [Tryd.ntmps11]
  simp only [enumA]
  refine amGo PT164_ok (h := ?_)
  (refine amRt Tryd.results11 (h := ?_); try simp [*])
 have h64 : (matL ns).length ≤ 64 := by omega
 have e2 := bias_ok hv h16 (cut_sub a N) p
 cases hfi : fstI (tabF ns) (matL ns).length (idxN (matL ns) p) with
 | none =>
  have e1 : bsA N ns p = .tup [aSet 0#128, .v (.bool false), .v (.int .i64 0)] := by unfold bsA; rw [if_neg (by rw [hv]; decide), if_neg h16, hfi]
  have e3 := bias_ok hv h16 (a := 0#128) ((sSub_iffL _ _).2 fun v hh => by rw [sHas_zero] at hh; cases hh) p
  have b1 : biasB ns (a &&& sAll N) p = false := bias_some h64 hfi
  have b2 : biasB ns 0#128 p = false := bias_some h64 hfi
  rw [b1] at e2
  rw [b2] at e3
  clear b1 b2 hfi
  unfold aSet WV at e1
  rw [z1, z2] at e1
  unfold aNet aNds aSet WV
  refine fn_sp TT_ok Tryd.func11 (c := _) rfl (by simp [Tryd.ntmps11]) (fun B hI0 hro => ?_)
  rw [Tryd.ntmps11]
  simp only [enumA]
  refine amGo PT164_ok (h := ?_)
  (refine amRt Tryd.results11 (h := ?_); try simp [*])
 | some i =>
  obtain ⟨s, hs⟩ : ∃ s, setX (matL ns) (revN (matL ns).length i) = s := ⟨_, rfl⟩
  have e1 : bsA N ns p = .tup [aSet s, .v (.bool true), .v (.int .i64 0)] := by unfold bsA; rw [if_neg (by rw [hv]; decide), if_neg h16, hfi, ← hs]
  have e3 := bias_ok hv h16 (setX_sub hv (revN (matL ns).length i)) p
  have b1 : biasB ns (a &&& sAll N) p = true → lessS (a &&& sAll N) (setX (matL ns) (revN (matL ns).length i)) = false := fun h => bias_least h64 hfi h
  have b2 : biasB ns (setX (matL ns) (revN (matL ns).length i)) p = true := by
   unfold fstI at hfi
   have h1 := List.find?_some hfi
   have h2 := List.mem_range.1 (List.mem_of_find?_eq_some hfi)
   unfold biasB
   rw [idx_set (vs := matL ns) (listS_vs (matS ns)) (revN_lt h64 h2)]
   exact h1
  rw [b2] at e3
  rw [hs] at b1 e3
  clear b2 hfi hs
  unfold aSet WV at e1
  cases hb : biasB ns (a &&& sAll N) p
  ·rw [hb] at e2
   clear b1
   unfold aNet aNds aSet WV
   refine fn_sp TT_ok Tryd.func11 (c := _) rfl (by simp [Tryd.ntmps11]) (fun B hI0 hro => ?_)
   rw [Tryd.ntmps11]
   simp only [enumA]
   refine amGo PT164_ok (h := ?_)
   (refine amRt Tryd.results11 (h := ?_); try simp [*])
  ·have b3 := b1 hb
   rw [hb] at e2
   clear b1 hb
   unfold aNet aNds aSet WV
   refine fn_sp TT_ok Tryd.func11 (c := _) rfl (by simp [Tryd.ntmps11]) (fun B hI0 hro => ?_)
   rw [Tryd.ntmps11]
   simp only [enumA]
   refine amGo PT164_ok (h := ?_)
   (refine amRt Tryd.results11 (h := ?_); try simp [*])
namespace explainLeast
set_option maxRecDepth 100000
theorem contract (H : Type) (enc : TypeId × Value → H) (W : World) (base : Nat) (args : Array Value) (ds gs : List (DataW H)) (before : List MemPlace)
  (hval0 : ∀ (j : Nat) t v, (Go.Proofs.Tryd.f11).params[j]? = some t → args[j]? = some v → Value.okWide Tryd.prog W .any base t v)
  (hW : DataW.Whole enc Tryd.prog (Go.Proofs.Tryd.f11).params.toList Rows.explainLeastSpec.vars false W args.toList ds gs before) (hL : laidMetH Tryd.prog Rows.explainLeastRow.laid W) :
  Calls Tryd.prog 11 args W fun e W' => ∃ v, e = .returned v ∧ Rows.explainLeastSpec.post enc Tryd.prog Go.Proofs.Tryd.f11 false true false false W args v W' := by
 have hval : ∀ (j : Nat) t v, (Go.Proofs.Tryd.f11).params[j]? = some t → args[j]? = some v → Value.okWide Tryd.prog W .any base t v := hval0
 have hW2 := hW
 obtain ⟨p, q, hA0, hV, _, _, _⟩ := hW
 have hA : DataW.TrodAll enc Tryd.prog W 0 (fun _ => true) true (Go.Proofs.Tryd.f11).params.toList args.toList ds p := hA0
 rw [Tryd.params11] at hA hval
 clear hA0 hval0
 obtain ⟨rfl, _⟩ := trodVars_none hV
 obtain ⟨v0, vs0, d0, ds0, p0, q0, hargs, rfl, _, h0, r0⟩ := trodAll_cons hA
 obtain ⟨v1, vs1, d1, ds1, p1, q1, rfl, rfl, _, h1, r1⟩ := trodAll_cons r0
 obtain ⟨v2, vs2, d2, ds2, p2, q2, rfl, rfl, _, h2, r2⟩ := trodAll_cons r1
 obtain ⟨rfl, rfl, _⟩ := trodAll_nil r2
 obtain rfl : args = #[v0, v1, v2] := by cases args; simp_all
 obtain ⟨N, ns, ra0, oN0, oL0⟩ := arg_net (hval 0 _ v0 rfl rfl) h0
 obtain ⟨p, ra1⟩ := arg_set (hval 1 _ v1 rfl rfl) h1
 obtain ⟨a, ra2⟩ := arg_set (hval 2 _ v2 rfl rfl) h2
 refine law_of_pure (glob_of_laid hL) (avs := [aNet N ns, aSet p, aSet a]) (by kernel_rfl) hW2 rfl (rec_ok (by kernel_rfl)) (tb := 4) rfl Tryd.underlying4 rfl rfl rfl rfl (fun i hi => ?_) (explainLeast_p N ns p a oN0 oL0)
 match i, hi with
 | 0, _ => exact ra0
 | 1, _ => exact ra1
 | 2, _ => exact ra2
theorem laid_met (os : Os) : laidMet Tryd.prog Rows.explainLeastRow.laid ((laidWorld os).forCall (fun _ _ => 0) ⟨#[], #[.agg #[.int .i64 0, .slice none 0 0], .agg #[.int .u64 0, .int .u64 0], .agg #[.int .u64 0, .int .u64 0]], []⟩).memory :=
 laidMet_of_run' 8 (by kernel_rfl) (by kernel_rfl)
theorem lifted (os : Os) (started : os.Started) (H : Type) (enc : TypeId × Value → H) (F : Stop.Interp) :
  ReturnsInHanded {} Tryd.checked os 11 .any ((OpenSpec.ofChange Rows.explainLeastSpec).preRow enc Tryd.prog Go.Proofs.Tryd.f11 Rows.explainLeastRow.domain false Rows.explainLeastRow.laid) (((OpenSpec.ofChange Rows.explainLeastSpec).at F).post enc Tryd.prog Go.Proofs.Tryd.f11 false true false false) := by
 refine returnsInHanded_of_row (C := Tryd.checked) (s := OpenSpec.ofChange Rows.explainLeastSpec) (by kernel_rfl) started (by kernel_rfl) Tryd.func11
  (witness_row_at (enc := enc) (C := Tryd.checked) false (laidWorld os) #[.agg #[.int .i64 0, .slice none 0 0], .agg #[.int .u64 0, .int .u64 0], .agg #[.int .u64 0, .int .u64 0]] rfl (by kernel_rfl) (by kernel_rfl) (by kernel_rfl)
   (OpenSpec.preRow_of_cond 8 (show DataW.whole enc Tryd.prog ((laidWorld os).forCall (fun _ _ => 0) ⟨#[], #[.agg #[.int .i64 0, .slice none 0 0], .agg #[.int .u64 0, .int .u64 0], .agg #[.int .u64 0, .int .u64 0]], []⟩).memory (Go.Proofs.Tryd.f11).params.toList Rows.explainLeastSpec.vars false (#[.agg #[.int .i64 0, .slice none 0 0], .agg #[.int .u64 0, .int .u64 0], .agg #[.int .u64 0, .int .u64 0]] : Array Value).toList 8 = some ([.agg [.lit (.int .i64 0), .nil], .agg [.lit (.int .u64 0), .lit (.int .u64 0)], .agg [.lit (.int .u64 0), .lit (.int .u64 0)]], [], []) by kernel_rfl) (by kernel_rfl) (fun k hk => by cases hk) (by kernel_rfl) (laid_met os))) ?_
 intro W base args ds gs before hval hW _ _ _ hL _ _
 exact contract H enc W base args ds gs before hval hW hL
theorem said : Rows.ExplainLeastSaid :=
 OpenClaim.holds_of_cond 11 Go.Proofs.Tryd.f11 rfl rfl rfl rfl rfl rfl rfl ⟨rfl, rfl, rfl, rfl, rfl⟩ rfl rfl rfl rfl rfl (by kernel_rfl) Tryd.func11 (by kernel_rfl)
  (of_decide_eq_true (by kernel_rfl)) (by unfold Func.isWrapper; first | (rw [if_pos (by decide +kernel)]; kernel_rfl) | (rw [if_neg (by decide +kernel)]; exact ⟨rfl, rfl⟩))
  (fun os started H enc _ F => by rw [OpenClaim.pre_eq_preRow]; exact lifted os started H enc F)
theorem plain (f : FuncId) (fn : Func) (hf : Tryd.pinned.checked.prog.funcNamed "census/censuslaw39.ExplainLeast" = some f) (hfn : Tryd.pinned.checked.prog.funcs[f]? = some fn) :
  false = Tryd.pinned.checked.prog.looks [] ∧ ∀ (j : Nat) t, fn.params[j]? = some t → Tryd.pinned.checked.prog.wantsStandIn t = false := by
 obtain rfl : f = 11 := Option.some.inj ((show Tryd.prog.funcNamed "census/censuslaw39.ExplainLeast" = some 11 by kernel_rfl).symm.trans hf) |>.symm
 obtain rfl : fn = Go.Proofs.Tryd.f11 := (Option.some.inj (Tryd.func11.symm.trans hfn)).symm
 refine ⟨by kernel_rfl, fun j t ht => ?_⟩
 rw [Tryd.params11] at ht
 have hall : (Tryd.checked.prog.funcs[11]?).all (fun g => g.params.toList.all fun t => !(Tryd.checked.prog.wantsStandIn t)) = true := by kernel_rfl
 rw [show Tryd.checked.prog.funcs[11]? = some Go.Proofs.Tryd.f11 from Tryd.func11] at hall
 have h2 : ∀ t ∈ (Go.Proofs.Tryd.f11).params.toList, (!(Tryd.checked.prog.wantsStandIn t)) = true := List.all_eq_true.1 hall
 have hm : t ∈ (Go.Proofs.Tryd.f11).params.toList := by rw [Tryd.params11]; exact Array.mem_toList_iff.2 (Array.mem_of_getElem? ht)
 have h3 : Tryd.checked.prog.wantsStandIn t = false := by simpa using h2 t hm
 exact h3
theorem proved : Rows.ExplainLeastCardSaid :=
 Claim7.holds_tied_plain_at .later [] _ _ _ _ said (fun _ h => by cases h) (by kernel_rfl) (fun _ h => by cases h) explainLeast_row_tie rfl ⟨rfl, rfl⟩ (by kernel_rfl) rfl plain (by kernel_rfl)
end explainLeast
end Go.Proofs.YtecdhmiamlgibaaDoor
