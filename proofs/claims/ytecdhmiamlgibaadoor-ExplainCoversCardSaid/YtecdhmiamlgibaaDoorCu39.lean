/- ExplainCovers: a net is biased exactly if no reason is without protected variables. -/
import Derived.Test.YtecdhmiamlgibaaDoorPv39
import Derived.Test.YtecdhmiamlgibaaDoorWa
import Derived.Test.YtecdhmiamlgibaaDoorLd
namespace Go.Proofs.YtecdhmiamlgibaaDoor
set_option linter.unusedVariables false
set_option linter.unusedSimpArgs false
set_option linter.unusedSectionVars false
open Go.RowKit Go.WideShapes Go.ChangeShapes Go.ChangeAt
attribute [local simp] List.getD_cons_zero List.getD_cons_succ List.getD_nil undef gvars runL runE effA stepA dstOk wantA core lk st dl AS.ev AS.evs AS.put AS.upd updO updI nxt cPick cAlloc cBox cBuild cBuildS cLoad cStore cNil plainOf cBin cNilS isNilS nilA cUn cConvX cConvB cConv bytesOf rowB cMake cSlice slA idxA cFA cF cIA cIX cIS cI cExt cLen cApp cMM cFun cCall lenA lenM isNilM nilM cNilM cMakeM hintB cMapK cLook foundR lookR cUpd putM cDel delM findA isKeyB Instr.sameNow AS.entry AS.bound AS.callee sc1 sc2 ixOk ldA AV.flat AV.cell AV.cells Value.oneCell' fillA spl chunk zeros AS.parts AS.rows AS.shut AS.shut1 AS.shut2 AS.shutL AS.shutM AV.ids idsL idsLL eqAll bndA AV.scalar AV.scalar1 AV.isV Ef.app Ef.pk ptOf pntO wrO wr
attribute [-simp] List.getD_eq_getElem?_getD
set_option maxRecDepth 100000
theorem few_light {N : Int} {ns : List Nd} {most : Int} (h : fewN N ns most = true) : lightN ns = true := by
  unfold fewN at h
  rw [Bool.and_eq_true] at h
  exact h.1
theorem set0 (s : BitVec 128) : (((lo s).toNat : Int) == 0 && ((hi s).toNat : Int) == 0) = decide (s = 0#128) := by
  rw [Bool.eq_iff_iff]
  simp only [Bool.and_eq_true, beq_iff_eq, decide_eq_true_eq]
  constructor
  · rintro ⟨h1, h2⟩
    have z1 : (lo 0#128).toNat = 0 := rfl
    have z2 : (hi 0#128).toNat = 0 := rfl
    exact words_ext (BitVec.eq_of_toNat_eq (by omega)) (BitVec.eq_of_toNat_eq (by omega))
  · rintro rfl; exact ⟨by simp [lo], by simp [hi]⟩
theorem any_take {L : List (List Int)} {q : List Int → Bool} {k : Nat} (hk : k < L.length) : (L.take (k + 1)).any q = ((L.take k).any q || q (L.getD k [])) := by
  rw [List.take_add_one, List.getElem?_eq_getElem hk, List.any_append]
  simp [List.getD, hk]
theorem getD_memR {L : List (List Int)} {k : Nat} (hk : k < L.length) : L.getD k [] ∈ L := by
  rw [List.getD_eq_getElem?_getD, List.getElem?_eq_getElem hk]; exact List.getElem_mem _
theorem absL_ok {xs : List Int} (h : okInts xs = true) (hx : LitsX xs) : okInts (absL xs) = true := by
  have hl := okInts_len h
  unfold okInts
  rw [Bool.and_eq_true, decide_eq_true_eq, List.all_eq_true]
  refine ⟨fun l hm => ?_, by rw [absL_len]; omega⟩
  obtain ⟨y, hy, rfl⟩ := List.mem_map.1 hm
  have := litX_b (hx y hy)
  unfold absZ
  exact okI_iff.2 ⟨by omega, by omega⟩
set_option maxHeartbeats 16000000 in
theorem covers_ok (N : Int) (ns : List Nd) (a p : BitVec 128) (hN : okI N = true) (h0 : okN0 ns = true) (hf : fewN N ns 10 = true) (hv : (validN N ns && subB a N) = true) (h16 : (matL ns).length ≤ 16) : FnPure Tryd.prog 5 [aNet N ns, aSet a, aSet p] (.v (.bool true)) := by
  have hl := okN0_len h0
  have h10 : okI 10 = true := rfl
  have hk := okNs_of h0 (few_light hf)
  have h1 := reaA_ok hv h16
  have h2 := biasR_ok p hv h16
  have hrows := reaX_rows a h16
  have hlits := reaX_lits a h16
  have hfree := reaX_free a p h16
  have HF := Lib.hid hfree
  have HLI := Lib.hid hlits
  clear hfree hlits
  generalize reaX ns a = L at h1 hrows HF HLI
  generalize biasB ns a p = b at h2 HF
  have hz : toSet (.agg [.v (.int .u64 0), .v (.int .u64 0)]) = some 0#128 := rfl
  unfold aNet aNds aSet WV
  refine fn_sp TT_ok Tryd.func5 (c := _) rfl (by simp [Tryd.ntmps5]) (fun B hI0 hro => ?_)
  rw [Tryd.ntmps5]
  simp only [enumA]
  refine amStr (h := ?_)
  refine amReg PT155_ok (h := ?_)
  refine amStr (h := ?_)
  refine amReg PT155_ok (h := ?_)
  refine amStr (h := ?_)
  refine amReg PT155_ok (h := ?_)
  refine amStr (h := ?_)
  refine amReg PT155_ok (h := ?_)
  refine amStr (h := ?_)
  refine amReg PT155_ok (h := ?_)
  refine amStr (h := ?_)
  refine amReg PT155_ok (h := ?_)
  refine amStr (h := ?_)
  refine amReg PT155_ok (h := ?_)
  refine amStr (h := ?_)
  refine amReg PT155_ok (h := ?_)
  refine amStr (h := ?_)
  refine s_loop (J := fun i : {k : Nat // k ≤ L.length} => ⟨64, [(5, .ptr 2 0 0), (9, .v (.bool b)), (11, .v (.bool ((L.take i.1).any (freeB p)))), (41, aRows L), (42, .v (.int .i64 (L.length : Int))), (43, .v (.int .i64 (i.1 : Int)))], [(2, ⟨27, 2, [[.v (.int .u64 ((lo p).toNat : Int)), .v (.int .u64 ((hi p).toNat : Int))]]⟩)], [2]⟩) (μ := fun i => L.length - i.1) ⟨0, Nat.zero_le _⟩ ?_ (fun ⟨k, hk⟩ => ?_)
  · (refine weak_id rfl ?_ ?_ <;> ((try simp only [List.mem_cons, List.not_mem_nil, or_false, forall_eq_or_imp, forall_eq]); (try simp (disch := omega) [i64w, *])))
  refine amStr (h := ?_)
  refine amReg PT155_ok (h := ?_)
  refine amStr (h := ?_)
  (focus ((with_reducible refine sp_cond (b := ?_) ?_ (fun hc => ?_) (fun hc => ?_)); rotate_left; (focus (first | rfl | (simp [lk, AS.ev]; rfl))); all_goals (try simp at hc)))
  · have hkk := hc
    clear hc
    have hs := any_take (q := freeB p) hkk
    have hlx := HLI.out _ (getD_memR hkk)
    have hlb := litsB_iff.2 hlx
    have hoi := okRows_at hrows k
    have hab := absL_ok hoi hlx
    clear hlx
    have hlen := okRows_len hrows
    have hwk : IntKind.i64.wrap ((k : Int) + 1) = (k : Int) + 1 := i64w (by omega) (by omega)
    clear hlen
    obtain ⟨R, hR⟩ : ∃ R, L.getD k [] = R := ⟨_, rfl⟩
    rw [hR] at hs hlb hoi hab
    have hfr := set0 (ofL (absL R) &&& p)
    rw [show decide (ofL (absL R) &&& p = 0#128) = freeB p R from rfl] at hfr
    cases hm : (L.take k).any (freeB p)
    · rw [hm, Bool.false_or] at hs
      refine amStr (h := ?_)
      refine amReg PT155_ok (h := ?_)
      refine amStr (h := ?_)
      refine amDrw PT155_ok (h := ?_)
      refine amStr (h := ?_)
      refine amReg PT155_ok (h := ?_)
      refine k_lp (⟨k + 1, by omega⟩ : {k : Nat // k ≤ L.length}) (by first | omega | (dsimp only; omega)) ?_
      (refine weak_id rfl ?_ ?_ <;> ((try simp only [List.mem_cons, List.not_mem_nil, or_false, forall_eq_or_imp, forall_eq]); (try simp (disch := omega) [i64w, *])))
    · rw [hm, Bool.true_or] at hs
      refine amStr (h := ?_)
      refine amReg PT155_ok (h := ?_)
      refine amStr (h := ?_)
      refine amDrw PT155_ok (h := ?_)
      refine amStr (h := ?_)
      refine amReg PT155_ok (h := ?_)
      refine k_lp (⟨k + 1, by omega⟩ : {k : Nat // k ≤ L.length}) (by first | omega | (dsimp only; omega)) ?_
      (refine weak_id rfl ?_ ?_ <;> ((try simp only [List.mem_cons, List.not_mem_nil, or_false, forall_eq_or_imp, forall_eq]); (try simp (disch := omega) [i64w, *])))
  · obtain rfl : k = L.length := by omega
    have e : L.take L.length = L := List.take_length
    have hf := HF.out
    rw [e, hf]
    cases b
    · refine amGo PT155_ok (h := ?_)
      ((refine post_ret (av := ?_) (by first | exact .inl rfl | exact .inr rfl) (show (Tryd.f5).results.toList = _ from by rw [Tryd.results5]) ?_ ?_); rotate_left; (focus (simp [retA, retL, ret1, lk, st, ldA, AV.cell]; rfl)); (try simp [*]))
    · refine amGo PT155_ok (h := ?_)
      ((refine post_ret (av := ?_) (by first | exact .inl rfl | exact .inr rfl) (show (Tryd.f5).results.toList = _ from by rw [Tryd.results5]) ?_ ?_); rotate_left; (focus (simp [retA, retL, ret1, lk, st, ldA, AV.cell]; rfl)); (try simp [*]))
theorem covers_p (N : Int) (ns : List Nd) (a p : BitVec 128) (hN : okI N = true) (h0 : okN0 ns = true) : FnPure Tryd.prog 5 [aNet N ns, aSet a, aSet p] (.v (.bool true)) := by
  have hl := okN0_len h0
  have h10 : okI 10 = true := rfl
  cases hf : fewN N ns 10
  · unfold aNet aNds aSet WV
    refine fn_sp TT_ok Tryd.func5 (c := _) rfl (by simp [Tryd.ntmps5]) (fun B hI0 hro => ?_)
    rw [Tryd.ntmps5]
    simp only [enumA]
    refine amGo PT155_ok (h := ?_)
    ((refine post_ret (av := ?_) (by first | exact .inl rfl | exact .inr rfl) (show (Tryd.f5).results.toList = _ from by rw [Tryd.results5]) ?_ ?_); rotate_left; (focus (simp [retA, retL, ret1, lk, st, ldA, AV.cell]; rfl)); (try simp [*]))
  have hk := okNs_of h0 (few_light hf)
  cases hv : (validN N ns && subB a N)
  · have h1 := reaA_bad hv
    have h2 := biasR_bad p hv
    unfold aNet aNds aSet WV
    refine fn_sp TT_ok Tryd.func5 (c := _) rfl (by simp [Tryd.ntmps5]) (fun B hI0 hro => ?_)
    rw [Tryd.ntmps5]
    simp only [enumA]
    refine amGo PT155_ok (h := ?_)
    ((refine post_ret (av := ?_) (by first | exact .inl rfl | exact .inr rfl) (show (Tryd.f5).results.toList = _ from by rw [Tryd.results5]) ?_ ?_); rotate_left; (focus (simp [retA, retL, ret1, lk, st, ldA, AV.cell]; rfl)); (try simp [*]))
  by_cases h16 : 16 < (matL ns).length
  · have h1 := reaA_long hv h16
    have h2 := biasR_long p hv h16
    unfold aNet aNds aSet WV
    refine fn_sp TT_ok Tryd.func5 (c := _) rfl (by simp [Tryd.ntmps5]) (fun B hI0 hro => ?_)
    rw [Tryd.ntmps5]
    simp only [enumA]
    refine amGo PT155_ok (h := ?_)
    ((refine post_ret (av := ?_) (by first | exact .inl rfl | exact .inr rfl) (show (Tryd.f5).results.toList = _ from by rw [Tryd.results5]) ?_ ?_); rotate_left; (focus (simp [retA, retL, ret1, lk, st, ldA, AV.cell]; rfl)); (try simp [*]))
  · exact covers_ok N ns a p hN h0 hf hv (by omega)
namespace explainCovers
set_option maxRecDepth 100000
theorem contract (H : Type) (enc : TypeId × Value → H) (W : World) (base : Nat) (args : Array Value) (ds gs : List (DataW H)) (before : List MemPlace)
    (hval0 : ∀ (j : Nat) t v, (Go.Proofs.Tryd.f5).params[j]? = some t → args[j]? = some v → Value.okWide Tryd.prog W .any base t v)
    (hW : DataW.Whole enc Tryd.prog (Go.Proofs.Tryd.f5).params.toList Rows.explainCoversSpec.vars false W args.toList ds gs before) (hL : laidMetH Tryd.prog Rows.explainCoversRow.laid W) :
    Calls Tryd.prog 5 args W fun e W' => ∃ v, e = .returned v ∧ Rows.explainCoversSpec.post enc Tryd.prog Go.Proofs.Tryd.f5 false true false false W args v W' := by
  have hval : ∀ (j : Nat) t v, (Go.Proofs.Tryd.f5).params[j]? = some t → args[j]? = some v → Value.okWide Tryd.prog W .any base t v := hval0
  have hW2 := hW
  obtain ⟨p, q, hA0, hV, _, _, _⟩ := hW
  have hA : DataW.TrodAll enc Tryd.prog W 0 (fun _ => true) true (Go.Proofs.Tryd.f5).params.toList args.toList ds p := hA0
  rw [Tryd.params5] at hA hval
  clear hA0 hval0
  obtain ⟨rfl, _⟩ := trodVars_none hV
  obtain ⟨v0, vs0, d0, ds0, p0, q0, hargs, rfl, _, h0, r0⟩ := trodAll_cons hA
  obtain ⟨v1, vs1, d1, ds1, p1, q1, rfl, rfl, _, h1, r1⟩ := trodAll_cons r0
  obtain ⟨v2, vs2, d2, ds2, p2, q2, rfl, rfl, _, h2, r2⟩ := trodAll_cons r1
  obtain ⟨rfl, rfl, _⟩ := trodAll_nil r2
  obtain rfl : args = #[v0, v1, v2] := by cases args; simp_all
  obtain ⟨N, ns, ra0, oN0, oL0⟩ := arg_net (hval 0 _ v0 rfl rfl) h0
  obtain ⟨a, ra1⟩ := arg_set (hval 1 _ v1 rfl rfl) h1
  obtain ⟨p, ra2⟩ := arg_set (hval 2 _ v2 rfl rfl) h2
  refine law_of_pure (glob_of_laid hL) (avs := [aNet N ns, aSet a, aSet p]) (by kernel_rfl) hW2 rfl (rec_ok (by kernel_rfl)) (tb := 4) rfl Tryd.underlying4 rfl rfl rfl rfl (fun i hi => ?_) (covers_p N ns a p oN0 oL0)
  match i, hi with
  | 0, _ => exact ra0
  | 1, _ => exact ra1
  | 2, _ => exact ra2
theorem laid_met (os : Os) : laidMet Tryd.prog Rows.explainCoversRow.laid ((laidWorld os).forCall (fun _ _ => 0) ⟨#[], #[.agg #[.int .i64 0, .slice none 0 0], .agg #[.int .u64 0, .int .u64 0], .agg #[.int .u64 0, .int .u64 0]], []⟩).memory :=
  laidMet_of_run' 8 (by kernel_rfl) (by kernel_rfl)
theorem lifted (os : Os) (started : os.Started) (H : Type) (enc : TypeId × Value → H) (F : Stop.Interp) :
    ReturnsInHanded {} Tryd.checked os 5 .any ((OpenSpec.ofChange Rows.explainCoversSpec).preRow enc Tryd.prog Go.Proofs.Tryd.f5 Rows.explainCoversRow.domain false Rows.explainCoversRow.laid) (((OpenSpec.ofChange Rows.explainCoversSpec).at F).post enc Tryd.prog Go.Proofs.Tryd.f5 false true false false) := by
  refine returnsInHanded_of_row (C := Tryd.checked) (s := OpenSpec.ofChange Rows.explainCoversSpec) (by kernel_rfl) started (by kernel_rfl) Tryd.func5
    (witness_row_at (enc := enc) (C := Tryd.checked) false (laidWorld os) #[.agg #[.int .i64 0, .slice none 0 0], .agg #[.int .u64 0, .int .u64 0], .agg #[.int .u64 0, .int .u64 0]] rfl (by kernel_rfl) (by kernel_rfl) (by kernel_rfl)
      (OpenSpec.preRow_of_cond 8 (show DataW.whole enc Tryd.prog ((laidWorld os).forCall (fun _ _ => 0) ⟨#[], #[.agg #[.int .i64 0, .slice none 0 0], .agg #[.int .u64 0, .int .u64 0], .agg #[.int .u64 0, .int .u64 0]], []⟩).memory (Go.Proofs.Tryd.f5).params.toList Rows.explainCoversSpec.vars false (#[.agg #[.int .i64 0, .slice none 0 0], .agg #[.int .u64 0, .int .u64 0], .agg #[.int .u64 0, .int .u64 0]] : Array Value).toList 8 = some ([.agg [.lit (.int .i64 0), .nil], .agg [.lit (.int .u64 0), .lit (.int .u64 0)], .agg [.lit (.int .u64 0), .lit (.int .u64 0)]], [], []) by kernel_rfl) (by kernel_rfl) (fun k hk => by cases hk) (by kernel_rfl) (laid_met os))) ?_
  intro W base args ds gs before hval hW _ _ _ hL _ _
  exact contract H enc W base args ds gs before hval hW hL
theorem said : Rows.ExplainCoversSaid :=
  OpenClaim.holds_of_cond 5 Go.Proofs.Tryd.f5 rfl rfl rfl rfl rfl rfl rfl ⟨rfl, rfl, rfl, rfl, rfl⟩ rfl rfl rfl rfl rfl (by kernel_rfl) Tryd.func5 (by kernel_rfl)
    (of_decide_eq_true (by kernel_rfl)) (by unfold Func.isWrapper; first | (rw [if_pos (by decide +kernel)]; kernel_rfl) | (rw [if_neg (by decide +kernel)]; exact ⟨rfl, rfl⟩))
    (fun os started H enc _ F => by rw [OpenClaim.pre_eq_preRow]; exact lifted os started H enc F)
theorem plain (f : FuncId) (fn : Func) (hf : Tryd.pinned.checked.prog.funcNamed "census/censuslaw39.ExplainCovers" = some f) (hfn : Tryd.pinned.checked.prog.funcs[f]? = some fn) :
    false = Tryd.pinned.checked.prog.looks [] ∧ ∀ (j : Nat) t, fn.params[j]? = some t → Tryd.pinned.checked.prog.wantsStandIn t = false := by
  obtain rfl : f = 5 := Option.some.inj ((show Tryd.prog.funcNamed "census/censuslaw39.ExplainCovers" = some 5 by kernel_rfl).symm.trans hf) |>.symm
  obtain rfl : fn = Go.Proofs.Tryd.f5 := (Option.some.inj (Tryd.func5.symm.trans hfn)).symm
  refine ⟨by kernel_rfl, fun j t ht => ?_⟩
  rw [Tryd.params5] at ht
  have hall : (Tryd.checked.prog.funcs[5]?).all (fun g => g.params.toList.all fun t => !(Tryd.checked.prog.wantsStandIn t)) = true := by kernel_rfl
  rw [show Tryd.checked.prog.funcs[5]? = some Go.Proofs.Tryd.f5 from Tryd.func5] at hall
  have h2 : ∀ t ∈ (Go.Proofs.Tryd.f5).params.toList, (!(Tryd.checked.prog.wantsStandIn t)) = true := List.all_eq_true.1 hall
  have hm : t ∈ (Go.Proofs.Tryd.f5).params.toList := by rw [Tryd.params5]; exact Array.mem_toList_iff.2 (Array.mem_of_getElem? ht)
  have h3 : Tryd.checked.prog.wantsStandIn t = false := by simpa using h2 t hm
  exact h3
theorem proved : Rows.ExplainCoversCardSaid :=
  Claim7.holds_tied_plain_at .later [] _ _ _ _ said (fun _ h => by cases h) (by kernel_rfl) (fun _ h => by cases h) explainCovers_row_tie rfl ⟨rfl, rfl⟩ (by kernel_rfl) rfl plain (by kernel_rfl)
end explainCovers
end Go.Proofs.YtecdhmiamlgibaaDoor
