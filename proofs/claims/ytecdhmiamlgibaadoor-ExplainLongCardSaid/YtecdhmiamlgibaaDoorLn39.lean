/- ExplainLong: parities have one reason; 17 variables are too many. -/
import Derived.Test.YtecdhmiamlgibaaDoorPm39
import Derived.Test.YtecdhmiamlgibaaDoorWa
import Derived.Test.YtecdhmiamlgibaaDoorLd
namespace Go.Proofs.YtecdhmiamlgibaaDoor
set_option linter.unusedVariables false
set_option linter.unusedSimpArgs false
set_option linter.unusedSectionVars false
open Go.RowKit Go.WideShapes Go.ChangeShapes Go.ChangeAt
attribute [local simp] List.getD_cons_zero List.getD_cons_succ List.getD_nil undef gvars runL runE effA stepA dstOk wantA core lk st dl AS.ev AS.evs AS.put AS.upd updO updI nxt cPick cAlloc cBox cBuild cBuildS cLoad cStore cNil plainOf cBin cNilS isNilS nilA cUn cConvX cConvB cConv bytesOf rowB cMake cSlice slA idxA cFA cF cIA cIX cIS cI cExt cLen cApp cMM cFun cCall lenA lenM isNilM nilM cNilM cMakeM hintB cMapK cLook foundR lookR cUpd putM cDel delM findA isKeyB Instr.sameNow AS.entry AS.bound AS.callee sc1 sc2 ixOk ldA AV.flat AV.cell AV.cells Value.oneCell' fillA spl chunk zeros AS.parts AS.rows AS.shut AS.shut1 AS.shut2 AS.shutL AS.shutM AV.ids idsL idsLL eqAll bndA AV.scalar AV.scalar1 AV.isV Ef.app Ef.pk ptOf pntO wrO wr
attribute [-simp] List.getD_eq_getElem?_getD
set_option maxRecDepth 100000
theorem sub_all (a : BitVec 128) : subB a 128 = true := by
  have e : sAll 128 = BitVec.allOnes 128 := by decide +kernel
  unfold subB sSub
  rw [e]
  simp
theorem set128 : toSet (.agg [.v (.int .u64 0), .v (.int .u64 9223372036854775808)]) = some (sBit 128) := by decide +kernel
theorem arith20 {x : Int} (h0 : 0 ≤ x) (h1 : x ≤ 255) : ∃ v : Nat, v < 20 ∧ x.tmod 20 = (v : Int) := ⟨(x.tmod 20).toNat, by rw [Int.tmod_eq_emod_of_nonneg h0]; omega, by rw [Int.tmod_eq_emod_of_nonneg h0]; omega⟩
theorem wrap20 {v : Nat} (hv : v < 20) : IntKind.i64.wrap (v : Int) = (v : Int) ∧ IntKind.i64.wrap (1 + (v : Int)) = (v : Int) + 1 ∧ IntKind.u8.wrap (v : Int) = (v : Int) ∧ okI ((v : Int) + 1) = true := ⟨i64w (by omega) (by omega), by rw [Int.add_comm]; exact i64w (by omega) (by omega), by rw [IntKind.wrap_u8]; omega, okI_iff.2 ⟨by omega, by omega⟩⟩
theorem par20_ok {v : Nat} (hv : v < 20) : par20 ((v : Int) + 1) = true := by
  unfold par20
  rw [Bool.and_eq_true]; exact ⟨decide_eq_true (by omega), decide_eq_true (by omega)⟩
theorem parI_eq (v : Nat) : parI ((v : Int) + 1) = parN v := by
  unfold parI; congr 1; omega
theorem fst_no (f : Nat → Bool) (n : Nat) : fstI f n 0 = none := fst_none fun i _ => chg_zero _ _ _
set_option maxHeartbeats 16000000 in
theorem long_p (x : Int) (a : BitVec 128) (h0 : 0 ≤ x) (h1 : x ≤ 255) : FnPure Tryd.prog 9 [.v (.int .u8 x), aSet a] (.v (.bool true)) := by
  obtain ⟨v, hv, hx⟩ := arith20 h0 h1
  obtain ⟨hw1, hw2, hw3, hn3⟩ := wrap20 hv
  have h20 := par20_ok hv
  have hpi := parI_eq v
  have hva := par_valid v hv
  have hok := par_okNs v hv
  have hsa := sub_all a
  have h128 : okI 128 = true := rfl
  have hmat : (matL (parN v)).length = v + 1 := by rw [par_mat hv, firstV_len]
  have hz := set128
  by_cases h16 : 16 < v + 1
  · have hr := reaA_long (N := 128) (ns := parN v) (a := a) (by rw [hva, hsa]; rfl) (by omega)
    have hb : bsA 128 (parN v) (sBit 128) = .tup [aSet 0#128, .v (.bool false), .v (.int .i64 2)] := by
      unfold bsA
      rw [if_neg (by rw [hva]; decide), if_pos (by omega)]
    have hg : 16 < (v : Int) + 1 := by omega
    obtain ⟨ns, hns⟩ : ∃ ns, parN v = ns := ⟨_, rfl⟩
    rw [hns] at hva hok hmat hr hb hpi
    clear hns
    unfold aSet WV
    refine fn_sp TT_ok Tryd.func9 (c := _) rfl (by simp [Tryd.ntmps9]) (fun B hI0 hro => ?_)
    rw [Tryd.ntmps9]
    simp only [enumA]
    refine amStr (h := ?_)
    refine amReg PT162_ok (h := ?_)
    refine amStr (h := ?_)
    refine amReg PT162_ok (h := ?_)
    refine amStr (h := ?_)
    refine s_weak (τ := ⟨110, [(3, .ptr 0 0 0), (5, .v (.int .i64 ((v : Int) + 1)))], [(0, ⟨27, 2, [[.v (.int .u64 ((lo a).toNat : Int)), .v (.int .u64 ((hi a).toNat : Int))]]⟩)], [0]⟩) ?_ ?_
    · (refine weak_id rfl ?_ ?_ <;> ((try simp only [List.mem_cons, List.not_mem_nil, or_false, forall_eq_or_imp, forall_eq]); (try simp (disch := omega) [i64w, *])))
    clear hx hw1 hw2 hw3
    obtain ⟨n, hn⟩ : ∃ n, (v : Int) + 1 = n := ⟨_, rfl⟩
    rw [hn] at hn3 h20 hpi hg ⊢
    refine amDrw PT162_ok (h := ?_)
    refine amStr (h := ?_)
    refine amReg PT162_ok (h := ?_)
    refine amGo PT162_ok (h := ?_)
    ((refine post_ret (av := ?_) (by first | exact .inl rfl | exact .inr rfl) (show (Tryd.f9).results.toList = _ from by rw [Tryd.results9]) ?_ ?_); rotate_left; (focus (simp [retA, retL, ret1, lk, st, ldA, AV.cell]; rfl)); (try simp [*]))
  · have hr := reaA_ok (N := 128) (ns := parN v) (a := a) (by rw [hva, hsa]; rfl) (by omega)
    rw [par_one (by omega) a] at hr
    have hb : bsA 128 (parN v) (sBit 128) = .tup [aSet 0#128, .v (.bool false), .v (.int .i64 0)] := by
      unfold bsA
      rw [if_neg (by rw [hva]; decide), if_neg (by omega), par_out hv, fst_no]
    have hg : ¬ (16 < (v : Int) + 1) := by omega
    have hol := oneL_len a (v + 1)
    have hol2 : ((oneL a (v + 1)).length : Int) = (v : Int) + 1 := by omega
    have hog : ∀ i, i < v + 1 → _ := fun i hi => oneL_get a (n := v + 1) (i := i) hi
    have HG := Lib.hid hog
    clear hog
    generalize oneL a (v + 1) = L at hr hol hol2 HG
    have HOL := Lib.hid hol
    clear hol
    obtain ⟨ns, hns⟩ : ∃ ns, parN v = ns := ⟨_, rfl⟩
    rw [hns] at hva hok hmat hr hb hpi
    clear hns
    unfold aSet WV
    refine fn_sp TT_ok Tryd.func9 (c := _) rfl (by simp [Tryd.ntmps9]) (fun B hI0 hro => ?_)
    rw [Tryd.ntmps9]
    simp only [enumA]
    refine amStr (h := ?_)
    refine amReg PT162_ok (h := ?_)
    refine amStr (h := ?_)
    refine amReg PT162_ok (h := ?_)
    refine amStr (h := ?_)
    refine s_weak (τ := ⟨110, [(3, .ptr 0 0 0), (5, .v (.int .i64 ((v : Int) + 1)))], [(0, ⟨27, 2, [[.v (.int .u64 ((lo a).toNat : Int)), .v (.int .u64 ((hi a).toNat : Int))]]⟩)], [0]⟩) ?_ ?_
    · (refine weak_id rfl ?_ ?_ <;> ((try simp only [List.mem_cons, List.not_mem_nil, or_false, forall_eq_or_imp, forall_eq]); (try simp (disch := omega) [i64w, *])))
    clear hx hw1 hw2 hw3
    obtain ⟨n, hn⟩ : ∃ n, (v : Int) + 1 = n := ⟨_, rfl⟩
    rw [hn] at hn3 h20 hpi hg hol2 ⊢
    refine amDrw PT162_ok (h := ?_)
    refine amStr (h := ?_)
    refine amReg PT162_ok (h := ?_)
    refine amStr (h := ?_)
    refine amReg PT162_ok (h := ?_)
    refine amStr (h := ?_)
    refine amReg PT162_ok (h := ?_)
    refine amStr (h := ?_)
    refine amReg PT162_ok (h := ?_)
    refine amStr (h := ?_)
    refine s_loop (J := fun i : {i : Nat // i ≤ v + 1} => ⟨110, [(3, .ptr 0 0 0), (81, aInts L), (82, .v (.int .i64 n)), (83, .v (.int .i64 (i.1 : Int)))], [(0, ⟨27, 2, [[.v (.int .u64 ((lo a).toNat : Int)), .v (.int .u64 ((hi a).toNat : Int))]]⟩)], [0]⟩) (μ := fun i => v + 1 - i.1) ⟨0, Nat.zero_le _⟩ ?_ (fun ⟨i, hi⟩ => ?_)
    · (refine weak_id rfl ?_ ?_ <;> ((try simp only [List.mem_cons, List.not_mem_nil, or_false, forall_eq_or_imp, forall_eq]); (try simp (disch := omega) [i64w, *])))
      all_goals trace_state
      all_goals sorry
    have HN := Lib.hid hn
    clear hn
    refine amStr (h := ?_)
    refine amReg PT162_ok (h := ?_)
    refine amStr (h := ?_)
    (focus ((with_reducible refine sp_cond (b := ?_) ?_ (fun hc => ?_) (fun hc => ?_)); rotate_left; (focus (first | rfl | (simp [lk, AS.ev]; rfl))); all_goals (try simp at hc)))
    · have hii : i < v + 1 := by have := HN.out; omega
      have hin : (i : Int) < n := by have := HN.out; omega
      clear hc
      have hgi := HG.out i hii
      have hiL : i < L.length := by have := HOL.out; omega
      have w1 : IntKind.i64.wrap ((i : Int) + 1) = (i : Int) + 1 := i64w (by omega) (by omega)
      have w2 : IntKind.i64.wrap (-(i : Int)) = -(i : Int) := i64w (by omega) (by omega)
      have w3 : IntKind.i64.wrap (-(i : Int) - 1) = -((i : Int) + 1) := by rw [show -(i : Int) - 1 = -((i : Int) + 1) by omega]; exact i64w (by omega) (by omega)
      have oi : okI ((i : Int) + 1) = true := okI_iff.2 ⟨by omega, by omega⟩
      have p1 : (0 : Int) < (i : Int) + 1 := by omega
      have p2 : ¬ ((i : Int) + 1 < 0) := by omega
      have p3 : -((i : Int) + 1) ≠ (i : Int) + 1 := by omega
      cases hb2 : sHas a ((i : Int) + 1)
      · rw [if_neg (by rw [hb2]; decide)] at hgi
        refine amStr (h := ?_)
        refine amReg PT162_ok (h := ?_)
        refine amStr (h := ?_)
        refine amReg PT162_ok (h := ?_)
        refine amStr (h := ?_)
        refine amReg PT162_ok (h := ?_)
        refine k_lp (⟨i + 1, hii⟩ : {i : Nat // i ≤ v + 1}) (by first | omega | (dsimp only; omega)) ?_
        (refine weak_id rfl ?_ ?_ <;> ((try simp only [List.mem_cons, List.not_mem_nil, or_false, forall_eq_or_imp, forall_eq]); (try simp (disch := omega) [i64w, *])))
      · rw [if_pos hb2] at hgi
        refine amStr (h := ?_)
        refine amReg PT162_ok (h := ?_)
        refine amStr (h := ?_)
        refine amReg PT162_ok (h := ?_)
        refine amStr (h := ?_)
        refine amReg PT162_ok (h := ?_)
        refine k_lp (⟨i + 1, hii⟩ : {i : Nat // i ≤ v + 1}) (by first | omega | (dsimp only; omega)) ?_
        (refine weak_id rfl ?_ ?_ <;> ((try simp only [List.mem_cons, List.not_mem_nil, or_false, forall_eq_or_imp, forall_eq]); (try simp (disch := omega) [i64w, *])))
    · clear hc
      refine amGo PT162_ok (h := ?_)
      ((refine post_ret (av := ?_) (by first | exact .inl rfl | exact .inr rfl) (show (Tryd.f9).results.toList = _ from by rw [Tryd.results9]) ?_ ?_); rotate_left; (focus (simp [retA, retL, ret1, lk, st, ldA, AV.cell]; rfl)); (try simp [*]))
namespace explainLong
set_option maxRecDepth 100000
theorem contract (H : Type) (enc : TypeId × Value → H) (W : World) (base : Nat) (args : Array Value) (ds gs : List (DataW H)) (before : List MemPlace)
    (hval0 : ∀ (j : Nat) t v, (Go.Proofs.Tryd.f9).params[j]? = some t → args[j]? = some v → Value.okWide Tryd.prog W .any base t v)
    (hW : DataW.Whole enc Tryd.prog (Go.Proofs.Tryd.f9).params.toList Rows.explainLongSpec.vars false W args.toList ds gs before) (hL : laidMetH Tryd.prog Rows.explainLongRow.laid W) :
    Calls Tryd.prog 9 args W fun e W' => ∃ v, e = .returned v ∧ Rows.explainLongSpec.post enc Tryd.prog Go.Proofs.Tryd.f9 false true false false W args v W' := by
  have hval : ∀ (j : Nat) t v, (Go.Proofs.Tryd.f9).params[j]? = some t → args[j]? = some v → Value.okWide Tryd.prog W .any base t v := hval0
  have hW2 := hW
  obtain ⟨p, q, hA0, hV, _, _, _⟩ := hW
  have hA : DataW.TrodAll enc Tryd.prog W 0 (fun _ => true) true (Go.Proofs.Tryd.f9).params.toList args.toList ds p := hA0
  rw [Tryd.params9] at hA hval
  clear hA0 hval0
  obtain ⟨rfl, _⟩ := trodVars_none hV
  obtain ⟨v0, vs0, d0, ds0, p0, q0, hargs, rfl, _, h0, r0⟩ := trodAll_cons hA
  obtain ⟨v1, vs1, d1, ds1, p1, q1, rfl, rfl, _, h1, r1⟩ := trodAll_cons r0
  obtain ⟨rfl, rfl, _⟩ := trodAll_nil r1
  obtain rfl : args = #[v0, v1] := by cases args; simp_all
  obtain ⟨x, ra0, l0, u0⟩ := arg_u8 (hval 0 _ v0 rfl rfl) h0
  obtain ⟨a, ra1⟩ := arg_set (hval 1 _ v1 rfl rfl) h1
  refine law_of_pure (glob_of_laid hL) (avs := [.v (.int .u8 x), aSet a]) (by kernel_rfl) hW2 rfl (rec_ok (by kernel_rfl)) (tb := 4) rfl Tryd.underlying4 rfl rfl rfl rfl (fun i hi => ?_) (long_p x a l0 u0)
  match i, hi with
  | 0, _ => exact ra0
  | 1, _ => exact ra1
theorem laid_met (os : Os) : laidMet Tryd.prog Rows.explainLongRow.laid ((laidWorld os).forCall (fun _ _ => 0) ⟨#[], #[.int .u8 0, .agg #[.int .u64 0, .int .u64 0]], []⟩).memory :=
  laidMet_of_run' 8 (by kernel_rfl) (by kernel_rfl)
theorem lifted (os : Os) (started : os.Started) (H : Type) (enc : TypeId × Value → H) (F : Stop.Interp) :
    ReturnsInHanded {} Tryd.checked os 9 .any ((OpenSpec.ofChange Rows.explainLongSpec).preRow enc Tryd.prog Go.Proofs.Tryd.f9 Rows.explainLongRow.domain false Rows.explainLongRow.laid) (((OpenSpec.ofChange Rows.explainLongSpec).at F).post enc Tryd.prog Go.Proofs.Tryd.f9 false true false false) := by
  refine returnsInHanded_of_row (C := Tryd.checked) (s := OpenSpec.ofChange Rows.explainLongSpec) (by kernel_rfl) started (by kernel_rfl) Tryd.func9
    (witness_row_at (enc := enc) (C := Tryd.checked) false (laidWorld os) #[.int .u8 0, .agg #[.int .u64 0, .int .u64 0]] rfl (by kernel_rfl) (by kernel_rfl) (by kernel_rfl)
      (OpenSpec.preRow_of_cond 8 (show DataW.whole enc Tryd.prog ((laidWorld os).forCall (fun _ _ => 0) ⟨#[], #[.int .u8 0, .agg #[.int .u64 0, .int .u64 0]], []⟩).memory (Go.Proofs.Tryd.f9).params.toList Rows.explainLongSpec.vars false (#[.int .u8 0, .agg #[.int .u64 0, .int .u64 0]] : Array Value).toList 8 = some ([.lit (.int .u8 0), .agg [.lit (.int .u64 0), .lit (.int .u64 0)]], [], []) by kernel_rfl) (by kernel_rfl) (fun k hk => by cases hk) (by kernel_rfl) (laid_met os))) ?_
  intro W base args ds gs before hval hW _ _ _ hL _ _
  exact contract H enc W base args ds gs before hval hW hL
theorem said : Rows.ExplainLongSaid :=
  OpenClaim.holds_of_cond 9 Go.Proofs.Tryd.f9 rfl rfl rfl rfl rfl rfl rfl ⟨rfl, rfl, rfl, rfl, rfl⟩ rfl rfl rfl rfl rfl (by kernel_rfl) Tryd.func9 (by kernel_rfl)
    (of_decide_eq_true (by kernel_rfl)) (by unfold Func.isWrapper; first | (rw [if_pos (by decide +kernel)]; kernel_rfl) | (rw [if_neg (by decide +kernel)]; exact ⟨rfl, rfl⟩))
    (fun os started H enc _ F => by rw [OpenClaim.pre_eq_preRow]; exact lifted os started H enc F)
theorem plain (f : FuncId) (fn : Func) (hf : Tryd.pinned.checked.prog.funcNamed "census/censuslaw39.ExplainLong" = some f) (hfn : Tryd.pinned.checked.prog.funcs[f]? = some fn) :
    false = Tryd.pinned.checked.prog.looks [] ∧ ∀ (j : Nat) t, fn.params[j]? = some t → Tryd.pinned.checked.prog.wantsStandIn t = false := by
  obtain rfl : f = 9 := Option.some.inj ((show Tryd.prog.funcNamed "census/censuslaw39.ExplainLong" = some 9 by kernel_rfl).symm.trans hf) |>.symm
  obtain rfl : fn = Go.Proofs.Tryd.f9 := (Option.some.inj (Tryd.func9.symm.trans hfn)).symm
  refine ⟨by kernel_rfl, fun j t ht => ?_⟩
  rw [Tryd.params9] at ht
  have hall : (Tryd.checked.prog.funcs[9]?).all (fun g => g.params.toList.all fun t => !(Tryd.checked.prog.wantsStandIn t)) = true := by kernel_rfl
  rw [show Tryd.checked.prog.funcs[9]? = some Go.Proofs.Tryd.f9 from Tryd.func9] at hall
  have h2 : ∀ t ∈ (Go.Proofs.Tryd.f9).params.toList, (!(Tryd.checked.prog.wantsStandIn t)) = true := List.all_eq_true.1 hall
  have hm : t ∈ (Go.Proofs.Tryd.f9).params.toList := by rw [Tryd.params9]; exact Array.mem_toList_iff.2 (Array.mem_of_getElem? ht)
  have h3 : Tryd.checked.prog.wantsStandIn t = false := by simpa using h2 t hm
  exact h3
theorem proved : Rows.ExplainLongCardSaid :=
  Claim7.holds_tied_plain_at .later [] _ _ _ _ said (fun _ h => by cases h) (by kernel_rfl) (fun _ h => by cases h) explainLong_row_tie rfl ⟨rfl, rfl⟩ (by kernel_rfl) rfl plain (by kernel_rfl)
end explainLong
end Go.Proofs.YtecdhmiamlgibaaDoor
