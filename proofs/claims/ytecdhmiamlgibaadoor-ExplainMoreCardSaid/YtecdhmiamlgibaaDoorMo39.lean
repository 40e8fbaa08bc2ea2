/- ExplainMore: with more protected variables a net is biased at least as often, without any never. -/
import Derived.Test.YtecdhmiamlgibaaDoorNo39
import Derived.Test.YtecdhmiamlgibaaDoorWa
import Derived.Test.YtecdhmiamlgibaaDoorLd
namespace Go.Proofs.YtecdhmiamlgibaaDoor
set_option linter.unusedVariables false
set_option linter.unusedSimpArgs false
set_option linter.unusedSectionVars false
open Go.RowKit Go.WideShapes Go.ChangeShapes Go.ChangeAt
attribute [local simp] List.getD_cons_zero List.getD_cons_succ List.getD_nil undef gvars runL runE effA stepA dstOk wantA core lk st dl AS.ev AS.evs AS.put AS.upd updO updI nxt cPick cAlloc cBox cBuild cBuildS cLoad cStore cNil plainOf cBin cNilS isNilS nilA cUn cConvX cConvB cConv bytesOf rowB cMake cSlice slA idxA cFA cF cIA cIX cIS cI cExt cLen cApp cMM cFun cCall lenA lenM isNilM nilM cNilM cMakeM hintB cMapK cLook foundR lookR cUpd putM cDel delM findA isKeyB Instr.sameNow AS.entry AS.bound AS.callee sc1 sc2 ixOk ldA AV.flat AV.cell AV.cells Value.oneCell' fillA spl chunk zeros AS.parts AS.rows AS.shut AS.shut1 AS.shut2 AS.shutL AS.shutM AV.ids idsL idsLL eqAll bndA AV.scalar AV.scalar1 AV.isV Ef.app Ef.pk ptOf pntO wrO wr
attribute [-simp] List.getD_eq_getElem?_getD
set_option maxRecDepth 100000
def biasX (N : Int) (ns : List Nd) (a p : BitVec 128) : Bool := validN N ns && subB a N && decide ((matL ns).length ≤ 16) && biasB ns a p
theorem bias_form (N : Int) (ns : List Nd) (a : BitVec 128) : ∃ e : Int, ∀ p, biasR N ns a p = .tup [.v (.bool (biasX N ns a p)), .v (.int .i64 e)] := by
  unfold biasR biasX
  cases (validN N ns && subB a N)
  · exact ⟨1, fun p => by rw [if_pos rfl]; simp⟩
  · by_cases h : 16 < (matL ns).length
    · exact ⟨2, fun p => by rw [if_neg (by decide), if_pos h, decide_eq_false (by omega)]; simp⟩
    · exact ⟨0, fun p => by rw [if_neg (by decide), if_neg h, decide_eq_true (by omega)]; simp⟩
theorem idxN_mono {p q : BitVec 128} (h : ∀ v, sHas p v = true → sHas q v = true) : ∀ (vs : List Int) (i : Nat), (idxN vs p).testBit i = true → (idxN vs q).testBit i = true
  | [], i, hi => by simp [idxN] at hi
  | v :: r, 0, hi => by
    unfold idxN at hi ⊢
    rw [Nat.testBit_zero] at hi ⊢
    have := h v
    cases hp : sHas p v
    · rw [hp] at hi; simp at hi
    · rw [this hp]; simp
  | v :: r, i + 1, hi => by
    unfold idxN at hi ⊢
    rw [Nat.testBit_succ] at hi ⊢
    have e : ∀ b : Bool, ∀ m, ((if b = true then 1 else 0) + 2 * m) / 2 = m := fun b m => by split <;> omega
    rw [e] at hi ⊢
    exact idxN_mono h r i hi
theorem idxN_zero : ∀ vs : List Int, idxN vs 0#128 = 0
  | [] => rfl
  | v :: r => by
    unfold idxN
    rw [idxN_zero r]
    simp [sHas]
theorem biasX_mono {N : Int} {ns : List Nd} {a : BitVec 128} (p q : BitVec 128) (h : biasX N ns a p = true) : biasX N ns a (p ||| q) = true := by
  unfold biasX at h ⊢
  rw [Bool.and_eq_true] at h ⊢
  refine ⟨h.1, chg_mono (idxN_lt _ _) (idxN_lt _ _) (idxN_mono (fun v hv => by rw [sHas_or, hv]; rfl) _) h.2⟩
theorem biasX_zero (N : Int) (ns : List Nd) (a : BitVec 128) : biasX N ns a 0#128 = false := by
  unfold biasX biasB
  rw [idxN_zero, chg_zero, Bool.and_false]
theorem few_light {N : Int} {ns : List Nd} {most : Int} (h : fewN N ns most = true) : lightN ns = true := by
  unfold fewN at h
  rw [Bool.and_eq_true] at h
  exact h.1
theorem explainMore_p (N : Int) (ns : List Nd) (a p q : BitVec 128) (hN : okI N = true) (h0 : okN0 ns = true) : FnPure Tryd.prog 4 [aNet N ns, aSet a, aSet p, aSet q] (.v (.bool true)) := by
  have hl := okN0_len h0
  have h10 : okI 10 = true := rfl
  cases hf : fewN N ns 10
  · unfold aNet aNds aSet WV
    refine fn_sp TT_ok Tryd.func4 (c := _) rfl (by simp [Tryd.ntmps4]) (fun B hI0 hro => ?_)
    rw [Tryd.ntmps4]
    simp only [enumA]
    refine amGo PT152_ok (h := ?_)
    ((refine post_ret (av := ?_) (by first | exact .inl rfl | exact .inr rfl) (show (Tryd.f4).results.toList = _ from by rw [Tryd.results4]) ?_ ?_); rotate_left; (focus (simp [retA, retL, ret1, lk, st, ldA, AV.cell]; rfl)); (try simp [*]))
  have hk := okNs_of h0 (few_light hf)
  obtain ⟨e, he⟩ := bias_form N ns a
  have h1 := he p
  have h2 := he (p ||| q)
  have h3 := he 0#128
  rw [biasX_zero] at h3
  have hm := biasX_mono (N := N) (ns := ns) (a := a) p q
  have hz : toSet (.agg [.v (.int .u64 0), .v (.int .u64 0)]) = some 0#128 := rfl
  obtain ⟨_, _, e1, e2, _⟩ := lo_op p q
  clear he
  unfold aNet aNds aSet WV
  cases hx : biasX N ns a p
  · rw [hx] at h1
    refine fn_sp TT_ok Tryd.func4 (c := _) rfl (by simp [Tryd.ntmps4]) (fun B hI0 hro => ?_)
    rw [Tryd.ntmps4]
    simp only [enumA]
    refine amStr (h := ?_)
    refine amReg PT152_ok (h := ?_)
    refine amStr (h := ?_)
    refine amReg PT152_ok (h := ?_)
    refine amStr (h := ?_)
    refine amReg PT152_ok (h := ?_)
    refine amStr (h := ?_)
    refine amDrw PT152_ok (h := ?_)
    refine amGo PT152_ok (h := ?_)
    ((refine post_ret (av := ?_) (by first | exact .inl rfl | exact .inr rfl) (show (Tryd.f4).results.toList = _ from by rw [Tryd.results4]) ?_ ?_); rotate_left; (focus (simp [retA, retL, ret1, lk, st, ldA, AV.cell]; rfl)); (try simp [*]))
  · rw [hx] at h1
    rw [hm hx] at h2
    clear hm hx
    refine fn_sp TT_ok Tryd.func4 (c := _) rfl (by simp [Tryd.ntmps4]) (fun B hI0 hro => ?_)
    rw [Tryd.ntmps4]
    simp only [enumA]
    refine amStr (h := ?_)
    refine amReg PT152_ok (h := ?_)
    refine amStr (h := ?_)
    refine amReg PT152_ok (h := ?_)
    refine amStr (h := ?_)
    refine amReg PT152_ok (h := ?_)
    refine amStr (h := ?_)
    refine amDrw PT152_ok (h := ?_)
    refine amGo PT152_ok (h := ?_)
    ((refine post_ret (av := ?_) (by first | exact .inl rfl | exact .inr rfl) (show (Tryd.f4).results.toList = _ from by rw [Tryd.results4]) ?_ ?_); rotate_left; (focus (simp [retA, retL, ret1, lk, st, ldA, AV.cell]; rfl)); (try simp [*]))
namespace explainMore
set_option maxRecDepth 100000
theorem contract (H : Type) (enc : TypeId × Value → H) (W : World) (base : Nat) (args : Array Value) (ds gs : List (DataW H)) (before : List MemPlace)
    (hval0 : ∀ (j : Nat) t v, (Go.Proofs.Tryd.f4).params[j]? = some t → args[j]? = some v → Value.okWide Tryd.prog W .any base t v)
    (hW : DataW.Whole enc Tryd.prog (Go.Proofs.Tryd.f4).params.toList Rows.explainMoreSpec.vars false W args.toList ds gs before) (hL : laidMetH Tryd.prog Rows.explainMoreRow.laid W) :
    Calls Tryd.prog 4 args W fun e W' => ∃ v, e = .returned v ∧ Rows.explainMoreSpec.post enc Tryd.prog Go.Proofs.Tryd.f4 false true false false W args v W' := by
  have hval : ∀ (j : Nat) t v, (Go.Proofs.Tryd.f4).params[j]? = some t → args[j]? = some v → Value.okWide Tryd.prog W .any base t v := hval0
  have hW2 := hW
  obtain ⟨p, q, hA0, hV, _, _, _⟩ := hW
  have hA : DataW.TrodAll enc Tryd.prog W 0 (fun _ => true) true (Go.Proofs.Tryd.f4).params.toList args.toList ds p := hA0
  rw [Tryd.params4] at hA hval
  clear hA0 hval0
  obtain ⟨rfl, _⟩ := trodVars_none hV
  obtain ⟨v0, vs0, d0, ds0, p0, q0, hargs, rfl, _, h0, r0⟩ := trodAll_cons hA
  obtain ⟨v1, vs1, d1, ds1, p1, q1, rfl, rfl, _, h1, r1⟩ := trodAll_cons r0
  obtain ⟨v2, vs2, d2, ds2, p2, q2, rfl, rfl, _, h2, r2⟩ := trodAll_cons r1
  obtain ⟨v3, vs3, d3, ds3, p3, q3, rfl, rfl, _, h3, r3⟩ := trodAll_cons r2
  obtain ⟨rfl, rfl, _⟩ := trodAll_nil r3
  obtain rfl : args = #[v0, v1, v2, v3] := by cases args; simp_all
  obtain ⟨N, ns, ra0, oN0, oL0⟩ := arg_net (hval 0 _ v0 rfl rfl) h0
  obtain ⟨a, ra1⟩ := arg_set (hval 1 _ v1 rfl rfl) h1
  obtain ⟨p, ra2⟩ := arg_set (hval 2 _ v2 rfl rfl) h2
  obtain ⟨q, ra3⟩ := arg_set (hval 3 _ v3 rfl rfl) h3
  refine law_of_pure (glob_of_laid hL) (avs := [aNet N ns, aSet a, aSet p, aSet q]) (by kernel_rfl) hW2 rfl (rec_ok (by kernel_rfl)) (tb := 4) rfl Tryd.underlying4 rfl rfl rfl rfl (fun i hi => ?_) (explainMore_p N ns a p q oN0 oL0)
  match i, hi with
  | 0, _ => exact ra0
  | 1, _ => exact ra1
  | 2, _ => exact ra2
  | 3, _ => exact ra3
theorem laid_met (os : Os) : laidMet Tryd.prog Rows.explainMoreRow.laid ((laidWorld os).forCall (fun _ _ => 0) ⟨#[], #[.agg #[.int .i64 0, .slice none 0 0], .agg #[.int .u64 0, .int .u64 0], .agg #[.int .u64 0, .int .u64 0], .agg #[.int .u64 0, .int .u64 0]], []⟩).memory :=
  laidMet_of_run' 8 (by kernel_rfl) (by kernel_rfl)
theorem lifted (os : Os) (started : os.Started) (H : Type) (enc : TypeId × Value → H) (F : Stop.Interp) :
    ReturnsInHanded {} Tryd.checked os 4 .any ((OpenSpec.ofChange Rows.explainMoreSpec).preRow enc Tryd.prog Go.Proofs.Tryd.f4 Rows.explainMoreRow.domain false Rows.explainMoreRow.laid) (((OpenSpec.ofChange Rows.explainMoreSpec).at F).post enc Tryd.prog Go.Proofs.Tryd.f4 false true false false) := by
  refine returnsInHanded_of_row (C := Tryd.checked) (s := OpenSpec.ofChange Rows.explainMoreSpec) (by kernel_rfl) started (by kernel_rfl) Tryd.func4
    (witness_row_at (enc := enc) (C := Tryd.checked) false (laidWorld os) #[.agg #[.int .i64 0, .slice none 0 0], .agg #[.int .u64 0, .int .u64 0], .agg #[.int .u64 0, .int .u64 0], .agg #[.int .u64 0, .int .u64 0]] rfl (by kernel_rfl) (by kernel_rfl) (by kernel_rfl)
      (OpenSpec.preRow_of_cond 8 (show DataW.whole enc Tryd.prog ((laidWorld os).forCall (fun _ _ => 0) ⟨#[], #[.agg #[.int .i64 0, .slice none 0 0], .agg #[.int .u64 0, .int .u64 0], .agg #[.int .u64 0, .int .u64 0], .agg #[.int .u64 0, .int .u64 0]], []⟩).memory (Go.Proofs.Tryd.f4).params.toList Rows.explainMoreSpec.vars false (#[.agg #[.int .i64 0, .slice none 0 0], .agg #[.int .u64 0, .int .u64 0], .agg #[.int .u64 0, .int .u64 0], .agg #[.int .u64 0, .int .u64 0]] : Array Value).toList 8 = some ([.agg [.lit (.int .i64 0), .nil], .agg [.lit (.int .u64 0), .lit (.int .u64 0)], .agg [.lit (.int .u64 0), .lit (.int .u64 0)], .agg [.lit (.int .u64 0), .lit (.int .u64 0)]], [], []) by kernel_rfl) (by kernel_rfl) (fun k hk => by cases hk) (by kernel_rfl) (laid_met os))) ?_
  intro W base args ds gs before hval hW _ _ _ hL _ _
  exact contract H enc W base args ds gs before hval hW hL
theorem said : Rows.ExplainMoreSaid :=
  OpenClaim.holds_of_cond 4 Go.Proofs.Tryd.f4 rfl rfl rfl rfl rfl rfl rfl ⟨rfl, rfl, rfl, rfl, rfl⟩ rfl rfl rfl rfl rfl (by kernel_rfl) Tryd.func4 (by kernel_rfl)
    (of_decide_eq_true (by kernel_rfl)) (by unfold Func.isWrapper; first | (rw [if_pos (by decide +kernel)]; kernel_rfl) | (rw [if_neg (by decide +kernel)]; exact ⟨rfl, rfl⟩))
    (fun os started H enc _ F => by rw [OpenClaim.pre_eq_preRow]; exact lifted os started H enc F)
theorem plain (f : FuncId) (fn : Func) (hf : Tryd.pinned.checked.prog.funcNamed "census/censuslaw39.ExplainMore" = some f) (hfn : Tryd.pinned.checked.prog.funcs[f]? = some fn) :
    false = Tryd.pinned.checked.prog.looks [] ∧ ∀ (j : Nat) t, fn.params[j]? = some t → Tryd.pinned.checked.prog.wantsStandIn t = false := by
  obtain rfl : f = 4 := Option.some.inj ((show Tryd.prog.funcNamed "census/censuslaw39.ExplainMore" = some 4 by kernel_rfl).symm.trans hf) |>.symm
  obtain rfl : fn = Go.Proofs.Tryd.f4 := (Option.some.inj (Tryd.func4.symm.trans hfn)).symm
  refine ⟨by kernel_rfl, fun j t ht => ?_⟩
  rw [Tryd.params4] at ht
  have hall : (Tryd.checked.prog.funcs[4]?).all (fun g => g.params.toList.all fun t => !(Tryd.checked.prog.wantsStandIn t)) = true := by kernel_rfl
  rw [show Tryd.checked.prog.funcs[4]? = some Go.Proofs.Tryd.f4 from Tryd.func4] at hall
  have h2 : ∀ t ∈ (Go.Proofs.Tryd.f4).params.toList, (!(Tryd.checked.prog.wantsStandIn t)) = true := List.all_eq_true.1 hall
  have hm : t ∈ (Go.Proofs.Tryd.f4).params.toList := by rw [Tryd.params4]; exact Array.mem_toList_iff.2 (Array.mem_of_getElem? ht)
  have h3 : Tryd.checked.prog.wantsStandIn t = false := by simpa using h2 t hm
  exact h3
theorem proved : Rows.ExplainMoreCardSaid :=
  Claim7.holds_tied_plain_at .later [] _ _ _ _ said (fun _ h => by cases h) (by kernel_rfl) (fun _ h => by cases h) explainMore_row_tie rfl ⟨rfl, rfl⟩ (by kernel_rfl) rfl plain (by kernel_rfl)
end explainMore
end Go.Proofs.YtecdhmiamlgibaaDoor
