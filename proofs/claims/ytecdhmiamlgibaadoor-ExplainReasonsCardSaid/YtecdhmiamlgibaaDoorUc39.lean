/- ExplainReasons: reasons and necessary literals are those of the chapter. -/
import Derived.Test.YtecdhmiamlgibaaDoorQxG
import Derived.Test.YtecdhmiamlgibaaDoorWl
import Derived.Test.YtecdhmiamlgibaaDoorSi39
import Derived.Test.YtecdhmiamlgibaaDoorLd
namespace Go.Proofs.YtecdhmiamlgibaaDoor
set_option linter.unusedVariables false
set_option linter.unusedSimpArgs false
set_option linter.unusedSectionVars false
open Go.RowKit Go.WideShapes Go.ChangeShapes Go.ChangeAt
open Wlk
attribute [-simp] List.getD_eq_getElem?_getD
set_option maxRecDepth 100000
theorem rea_ref (N : Int) (ns : List Nd) (a : BitVec 128) : reaA N ns a = refA N ns a := by
 unfold reaA refA
 cases hv : (validN N ns && subB a N)
 ·rw [if_pos rfl, chk_one hv, if_neg (by decide)]
 ·rw [if_neg (by decide)]
  by_cases h16 : 16 < (matL ns).length
  ·rw [if_pos h16, chk_two hv h16, if_neg (by decide)]
  ·rw [if_neg h16, chk_ok hv h16, if_pos rfl, rea_eq (Bool.and_eq_true _ _ ▸ hv).1 a]
theorem nee_ref (N : Int) (ns : List Nd) (a : BitVec 128) : neeA N ns a = refNA N ns a := by
 unfold neeA refNA
 cases hv : (validN N ns && subB a N)
 ·rw [if_pos rfl, chk_one hv, if_neg (by decide)]
 ·rw [if_neg (by decide)]
  by_cases h16 : 16 < (matL ns).length
  ·rw [if_pos h16, chk_two hv h16, if_neg (by decide)]
  ·rw [if_neg h16, chk_ok hv h16, if_pos rfl, nee_eq (Bool.and_eq_true _ _ ▸ hv).1 a]
theorem refN_ok (ns : List Nd) (a : BitVec 128) : okInts (refN ns a) = true := by
 have h1 := termS_sml a (matS ns)
 have h2 := termS_len a (matS ns)
 have h3 := List.length_filter_le (allIn (refR ns a)) (termS a (matS ns))
 refine sml_ok ?_ (by unfold refN; omega)
 unfold smlB at h1 ⊢
 rw [List.all_eq_true] at h1 ⊢
 intro x hx
 exact h1 x (List.mem_filter.1 hx).1
theorem explainReasons_p (N : Int) (ns : List Nd) (a : BitVec 128) (hN : okI N = true) (h0 : okN0 ns = true) : FnPure Tryd.prog 3 [aNet N ns, aSet a] (.v (.bool true)) := by
 have hl := okN0_len h0
 have h6 : okI 6 = true := rfl
 cases hf : fewN N ns 6
 ·unfold aNet aNds aSet WV
  refine fn_sp TT_ok Tryd.func3 (c := _) rfl (by simp [Tryd.ntmps3]) (fun B hI0 hro => ?_)
  rw [Tryd.ntmps3]
  simp only [enumA]
  refine amGo PT177_ok (h := ?_)
  (refine amRt Tryd.results3 (h := ?_); try simp [*])
 have hk := okNs_of h0 (by unfold fewN at hf; rw [Bool.and_eq_true] at hf; exact hf.1)
 have e1 := rea_ref N ns a
 have e2 := nee_ref N ns a
 by_cases hz : chkN N ns a = 0
 ·obtain ⟨r1, _, _⟩ := refR_ok a (chk_zeroR hz).2
  have r2 := refN_ok ns a
  have f1 : refA N ns a = .tup [aRows (refR ns a), .v (.int .i64 0)] := by unfold refA; rw [if_pos hz]
  have f2 : refNA N ns a = .tup [aInts (refN ns a), .v (.int .i64 0)] := by unfold refNA; rw [if_pos hz]
  rw [f1] at e1
  rw [f2] at e2
  clear hz
  generalize refR ns a = R at e1 f1 r1
  generalize refN ns a = M at e2 f2 r2
  unfold aNet aNds aSet WV
  refine fn_sp TT_ok Tryd.func3 (c := _) rfl (by simp [Tryd.ntmps3]) (fun B hI0 hro => ?_)
  rw [Tryd.ntmps3]
  simp only [enumA]
  refine amGo PT177_ok (h := ?_)
  (refine amRt Tryd.results3 (h := ?_); try simp [*])
 ·have f1 : refA N ns a = .tup [.v (.slice none 0 0), .v (.int .i64 (chkN N ns a))] := by unfold refA; rw [if_neg hz]
  have f2 : refNA N ns a = .tup [.v (.slice none 0 0), .v (.int .i64 (chkN N ns a))] := by unfold refNA; rw [if_neg hz]
  rw [f1] at e1
  rw [f2] at e2
  clear hz
  generalize chkN N ns a = c at e1 e2 f1 f2
  have k1 : okRows [] = true := rfl
  have k2 : okInts [] = true := rfl
  have k3 : toRows (.v (.slice none 0 0)) = some [] := rfl
  have k4 : toInts (.v (.slice none 0 0)) = some [] := rfl
  unfold aNet aNds aSet WV
  refine fn_sp TT_ok Tryd.func3 (c := _) rfl (by simp [Tryd.ntmps3]) (fun B hI0 hro => ?_)
  rw [Tryd.ntmps3]
  simp only [enumA]
  refine amGo PT177_ok (h := ?_)
  (refine amRt Tryd.results3 (h := ?_); try simp [*])
namespace explainReasons
set_option maxRecDepth 100000
theorem contract (H : Type) (enc : TypeId × Value → H) (W : World) (base : Nat) (args : Array Value) (ds gs : List (DataW H)) (before : List MemPlace)
  (hval0 : ∀ (j : Nat) t v, (Go.Proofs.Tryd.f3).params[j]? = some t → args[j]? = some v → Value.okWide Tryd.prog W .any base t v)
  (hW : DataW.Whole enc Tryd.prog (Go.Proofs.Tryd.f3).params.toList Rows.explainReasonsSpec.vars false W args.toList ds gs before) (hL : laidMetH Tryd.prog Rows.explainReasonsRow.laid W) :
  Calls Tryd.prog 3 args W fun e W' => ∃ v, e = .returned v ∧ Rows.explainReasonsSpec.post enc Tryd.prog Go.Proofs.Tryd.f3 false true false false W args v W' := by
 have hval : ∀ (j : Nat) t v, (Go.Proofs.Tryd.f3).params[j]? = some t → args[j]? = some v → Value.okWide Tryd.prog W .any base t v := hval0
 have hW2 := hW
 obtain ⟨p, q, hA0, hV, _, _, _⟩ := hW
 have hA : DataW.TrodAll enc Tryd.prog W 0 (fun _ => true) true (Go.Proofs.Tryd.f3).params.toList args.toList ds p := hA0
 rw [Tryd.params3] at hA hval
 clear hA0 hval0
 obtain ⟨rfl, _⟩ := trodVars_none hV
 obtain ⟨v0, vs0, d0, ds0, p0, q0, hargs, rfl, _, h0, r0⟩ := trodAll_cons hA
 obtain ⟨v1, vs1, d1, ds1, p1, q1, rfl, rfl, _, h1, r1⟩ := trodAll_cons r0
 obtain ⟨rfl, rfl, _⟩ := trodAll_nil r1
 obtain rfl : args = #[v0, v1] := by cases args; simp_all
 obtain ⟨N, ns, ra0, oN0, oL0⟩ := arg_net (hval 0 _ v0 rfl rfl) h0
 obtain ⟨a, ra1⟩ := arg_set (hval 1 _ v1 rfl rfl) h1
 refine law_of_pure (glob_of_laid hL) (avs := [aNet N ns, aSet a]) (by kernel_rfl) hW2 rfl (rec_ok (by kernel_rfl)) (tb := 4) rfl Tryd.underlying4 rfl rfl rfl rfl (fun i hi => ?_) (explainReasons_p N ns a oN0 oL0)
 match i, hi with
 | 0, _ => exact ra0
 | 1, _ => exact ra1
theorem laid_met (os : Os) : laidMet Tryd.prog Rows.explainReasonsRow.laid ((laidWorld os).forCall (fun _ _ => 0) ⟨#[], #[.agg #[.int .i64 0, .slice none 0 0], .agg #[.int .u64 0, .int .u64 0]], []⟩).memory :=
 laidMet_of_run' 8 (by kernel_rfl) (by kernel_rfl)
theorem lifted (os : Os) (started : os.Started) (H : Type) (enc : TypeId × Value → H) (F : Stop.Interp) :
  ReturnsInHanded {} Tryd.checked os 3 .any ((OpenSpec.ofChange Rows.explainReasonsSpec).preRow enc Tryd.prog Go.Proofs.Tryd.f3 Rows.explainReasonsRow.domain false Rows.explainReasonsRow.laid) (((OpenSpec.ofChange Rows.explainReasonsSpec).at F).post enc Tryd.prog Go.Proofs.Tryd.f3 false true false false) := by
 refine returnsInHanded_of_row (C := Tryd.checked) (s := OpenSpec.ofChange Rows.explainReasonsSpec) (by kernel_rfl) started (by kernel_rfl) Tryd.func3
  (witness_row_at (enc := enc) (C := Tryd.checked) false (laidWorld os) #[.agg #[.int .i64 0, .slice none 0 0], .agg #[.int .u64 0, .int .u64 0]] rfl (by kernel_rfl) (by kernel_rfl) (by kernel_rfl)
   (OpenSpec.preRow_of_cond 8 (show DataW.whole enc Tryd.prog ((laidWorld os).forCall (fun _ _ => 0) ⟨#[], #[.agg #[.int .i64 0, .slice none 0 0], .agg #[.int .u64 0, .int .u64 0]], []⟩).memory (Go.Proofs.Tryd.f3).params.toList Rows.explainReasonsSpec.vars false (#[.agg #[.int .i64 0, .slice none 0 0], .agg #[.int .u64 0, .int .u64 0]] : Array Value).toList 8 = some ([.agg [.lit (.int .i64 0), .nil], .agg [.lit (.int .u64 0), .lit (.int .u64 0)]], [], []) by kernel_rfl) (by kernel_rfl) (fun k hk => by cases hk) (by kernel_rfl) (laid_met os))) ?_
 intro W base args ds gs before hval hW _ _ _ hL _ _
 exact contract H enc W base args ds gs before hval hW hL
theorem said : Rows.ExplainReasonsSaid :=
 OpenClaim.holds_of_cond 3 Go.Proofs.Tryd.f3 rfl rfl rfl rfl rfl rfl rfl ⟨rfl, rfl, rfl, rfl, rfl⟩ rfl rfl rfl rfl rfl (by kernel_rfl) Tryd.func3 (by kernel_rfl)
  (of_decide_eq_true (by kernel_rfl)) (by unfold Func.isWrapper; first | (rw [if_pos (by decide +kernel)]; kernel_rfl) | (rw [if_neg (by decide +kernel)]; exact ⟨rfl, rfl⟩))
  (fun os started H enc _ F => by rw [OpenClaim.pre_eq_preRow]; exact lifted os started H enc F)
theorem plain (f : FuncId) (fn : Func) (hf : Tryd.pinned.checked.prog.funcNamed "census/censuslaw39.ExplainReasons" = some f) (hfn : Tryd.pinned.checked.prog.funcs[f]? = some fn) :
  false = Tryd.pinned.checked.prog.looks [] ∧ ∀ (j : Nat) t, fn.params[j]? = some t → Tryd.pinned.checked.prog.wantsStandIn t = false := by
 obtain rfl : f = 3 := Option.some.inj ((show Tryd.prog.funcNamed "census/censuslaw39.ExplainReasons" = some 3 by kernel_rfl).symm.trans hf) |>.symm
 obtain rfl : fn = Go.Proofs.Tryd.f3 := (Option.some.inj (Tryd.func3.symm.trans hfn)).symm
 refine ⟨by kernel_rfl, fun j t ht => ?_⟩
 rw [Tryd.params3] at ht
 have hall : (Tryd.checked.prog.funcs[3]?).all (fun g => g.params.toList.all fun t => !(Tryd.checked.prog.wantsStandIn t)) = true := by kernel_rfl
 rw [show Tryd.checked.prog.funcs[3]? = some Go.Proofs.Tryd.f3 from Tryd.func3] at hall
 have h2 : ∀ t ∈ (Go.Proofs.Tryd.f3).params.toList, (!(Tryd.checked.prog.wantsStandIn t)) = true := List.all_eq_true.1 hall
 have hm : t ∈ (Go.Proofs.Tryd.f3).params.toList := by rw [Tryd.params3]; exact Array.mem_toList_iff.2 (Array.mem_of_getElem? ht)
 have h3 : Tryd.checked.prog.wantsStandIn t = false := by simpa using h2 t hm
 exact h3
theorem proved : Rows.ExplainReasonsCardSaid :=
 Claim7.holds_tied_plain_at .later [] _ _ _ _ said (fun _ h => by cases h) (by kernel_rfl) (fun _ h => by cases h) explainReasons_row_tie rfl ⟨rfl, rfl⟩ (by kernel_rfl) rfl plain (by kernel_rfl)
end explainReasons
end Go.Proofs.YtecdhmiamlgibaaDoor
