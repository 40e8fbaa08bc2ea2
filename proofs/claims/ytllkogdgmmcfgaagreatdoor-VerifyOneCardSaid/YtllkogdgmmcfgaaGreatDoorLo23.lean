/- The law VerifyOne: with another theory that has other models, a net is not accepted; no condition. -/
import Derived.Test.YtllkogdgmmcfgaaGreatDoorVzG
import Derived.Test.YtllkogdgmmcfgaaGreatDoorWa
namespace Go.Proofs.YtllkogdgmmcfgaaGreatDoor
set_option linter.unusedVariables false
set_option linter.unusedSimpArgs false
set_option linter.unusedSectionVars false
open Go.RowKit Go.WideShapes Go.ChangeShapes Go.ChangeAt
attribute [local simp] List.getD_cons_zero List.getD_cons_succ List.getD_nil undef gvars runL runE effA stepA dstOk wantA core lk st dl AS.ev AS.evs AS.put AS.upd updO updI nxt cPick cAlloc cBox cBuild cBuildS cLoad cStore cNil plainOf cBin cNilS isNilS nilA cUn cConvX cConvB cConv bytesOf rowB cMake cSlice slA idxA cFA cF cIA cIX cIS cI cExt cLen cApp cMM cFun cCall lenA lenM isNilM nilM cNilM cMakeM hintB cMapK cLook foundR lookR cUpd putM cDel delM findA isKeyB Instr.sameNow AS.entry AS.bound AS.callee sc1 sc2 ixOk ldA AV.flat AV.cell AV.cells Value.oneCell' fillA spl chunk zeros AS.parts AS.rows AS.shut AS.shut1 AS.shut2 AS.shutL AS.shutM AV.ids idsL idsLL eqAll bndA AV.scalar AV.scalar1 AV.isV Ef.app Ef.pk ptOf pntO wrO wr
attribute [-simp] List.getD_eq_getElem?_getD
set_option maxRecDepth 100000
theorem one_law {N : Int} {L : List (List Int)} {M : Int} {ns : List Nd} {cl : List Cl} {c : List Int} (h : AccV N L M ns cl) (h2 : AccV N (L ++ [c]) M ns cl) {s : BitVec 128} (hs : sUpto s N = true) (he : evalT N L s = true) : c.any (litHolds s) = true := by
 rw [evalT_cl h.hz, hs, Bool.true_and, ← ver_sound h hs, ver_sound h2 hs, clT_append, Bool.and_eq_true] at he
 have := he.2
 unfold clT at this
 simpa using this
set_option maxHeartbeats 4000000 in
theorem verifyOne_p (N : Int) (L : List (List Int)) (M : Int) (ns : List Nd) (cl : List Cl) (c : List Int) (hN : okI N = true) (hL : okRows L = true) (hM : okI M = true) (hns : okNZ ns = true) (hcl : okLC cl = true) (hcI : okInts c = true) : FnPure Tryz.prog 8 [aTh N L, aNet M ns, aCls cl, aInts c] (.v (.bool true)) := by
 have hm := okRows_len hL
 have hnl := okNZ_len hns
 have hcll := okLC_len hcl
 have hcl0 := okInts_len hcI
 unfold aTh aNet aNds aCls
 cases hf : fewP L ns cl
 ·refine fn_sp TT_ok Tryz.func8 (c := _) rfl (by simp [Tryz.ntmps8]) (fun B hI0 hro => ?_)
  rw [Tryz.ntmps8]
  simp only [enumA]
  refine amGo PT213_ok (h := ?_)
  (refine amRt Tryz.results8 (h := ?_); try simp [*])
 have hr := few_r hL hns hcl hf
 have hns2 := hr.hns
 have hcl2 := hr.hcl
 have hl60 := hr.lL
 clear hr
 by_cases h10 : 10 < N
 ·refine fn_sp TT_ok Tryz.func8 (c := _) rfl (by simp [Tryz.ntmps8]) (fun B hI0 hro => ?_)
  rw [Tryz.ntmps8]
  simp only [enumA]
  refine amGo PT213_ok (h := ?_)
  (refine amRt Tryz.results8 (h := ?_); try simp [*])
 by_cases hn0 : N < 0
 ·refine fn_sp TT_ok Tryz.func8 (c := _) rfl (by simp [Tryz.ntmps8]) (fun B hI0 hro => ?_)
  rw [Tryz.ntmps8]
  simp only [enumA]
  refine amGo PT213_ok (h := ?_)
  (refine amRt Tryz.results8 (h := ?_); try simp [*])
 by_cases h20 : 20 < (c.length : Int)
 ·refine fn_sp TT_ok Tryz.func8 (c := _) rfl (by simp [Tryz.ntmps8]) (fun B hI0 hro => ?_)
  rw [Tryz.ntmps8]
  simp only [enumA]
  refine amGo PT213_ok (h := ?_)
  (refine amRt Tryz.results8 (h := ?_); try simp [*])
 obtain ⟨q, rfl⟩ := Int.eq_ofNat_of_zero_le (by omega : 0 ≤ N)
 have hq : q ≤ 10 := by omega
 have hR2 : okRows (L ++ [c]) = true := by
  unfold okRows at hL ⊢
  rw [Bool.and_eq_true, decide_eq_true_eq] at hL ⊢
  refine ⟨?_, by simp; omega⟩
  rw [List.all_append, hL.1]; simp [hcI]
 have hcap : (L.length : Int) * 24 ≤ 140737488355328 := by omega
 have hcap2 : L.length * 24 ≤ 140737488355328 := by omega
 have hcap3 : (L.length + 1) * 24 ≤ 140737488355328 := by omega
 have HA := Lib.hid (accV_of (N := (q : Int)) (L := L) (M := M) (ns := ns) (cl := cl))
 have HB := Lib.hid (accV_of (N := (q : Int)) (L := L ++ [c]) (M := M) (ns := ns) (cl := cl))
 obtain ⟨⟨a, e⟩, hv⟩ : ∃ r, verV q L M ns cl = r := ⟨_, rfl⟩
 obtain ⟨⟨b, d⟩, hv2⟩ : ∃ r, verV q (L ++ [c]) M ns cl = r := ⟨_, rfl⟩
 rw [hv] at HA
 rw [hv2] at HB
 refine fn_sp TT_ok Tryz.func8 (c := _) rfl (by simp [Tryz.ntmps8]) (fun B hI0 hro => ?_)
 rw [Tryz.ntmps8]
 simp only [enumA]
 refine amGo PT213_ok (h := ?_)
 refine s_weak (τ := ⟨89, [(2, aCls cl), (3, aInts c), (4, .ptr 0 0 0), (5, .ptr 1 0 0), (8, .v (.bool false)), (9, .v (.int .i64 a)), (10, .v (.int .i64 e)), (11, .ptr 5 0 0)], [(0, ⟨24, 2, [[.v (.int .i64 (q : Int)), aRows L]]⟩), (1, ⟨28, 2, [[.v (.int .i64 M), aNds ns]]⟩), (5, ⟨24, 2, [[.v (.int .i64 (q : Int)), .v (.slice none 0 0)]]⟩)], [5, 1, 0]⟩) ?_ ?_
 ·(refine weak_id rfl ?_ ?_ <;> ((try simp only [List.mem_cons, List.not_mem_nil, or_false, forall_eq_or_imp, forall_eq]); (try simp (disch := omega) [i64w, *])))
  all_goals rfl
 refine s_cnil 5 0 1 40 30 1 rfl rfl (by simp) ?_ (by decide)
 (refine s_eq (τ := ?_) ?_ ?_; rotate_left; (focus ((try simp only [AS.frz, List.map_cons, List.map_nil]); (try simp [frzV, frzO, frzC, List.filter]); rfl)))
 refine amReg PT213_ok (h := ?_)
 obtain ⟨X, hX⟩ : ∃ X, L ++ [c] = X := ⟨_, rfl⟩
 have hXl : X.length = L.length + 1 := by rw [← hX]; simp
 have hXm : (X.map fun xs => [aInts xs]) = (L.map fun xs => [aInts xs]) ++ [[aInts c]] := by rw [← hX, List.map_append]; rfl
 have HL := Lib.hid (fun (h : AccV (q : Int) L M ns cl) (h2 : AccV (q : Int) (L ++ [c]) M ns cl) => fun k (hk : k < 2 ^ q) => one_law h h2 (sUpto_natZ hk (by omega)))
 rw [hX] at HL HB hv2 hR2
 clear hX
 refine amStr (h := ?_)
 refine s_weak (τ := ⟨89, [(2, aCls cl), (3, aInts c), (4, .ptr 0 0 0), (5, .ptr 1 0 0), (8, .v (.bool false)), (9, .v (.int .i64 a)), (10, .v (.int .i64 e)), (11, .ptr 5 0 0)], [(0, ⟨24, 2, [[.v (.int .i64 (q : Int)), aRows L]]⟩), (1, ⟨28, 2, [[.v (.int .i64 M), aNds ns]]⟩), (5, ⟨24, 2, [[.v (.int .i64 (q : Int)), .ref 48 0 X.length]]⟩), (48, ⟨30, 1, X.map fun xs => [aInts xs]⟩)], [48, 5, 1, 0]⟩) ?_ ?_
 ·(refine weak_id rfl ?_ ?_ <;> ((try simp only [List.mem_cons, List.not_mem_nil, or_false, forall_eq_or_imp, forall_eq]); (try simp (disch := omega) [i64w, *])))
 clear hXl hXm hcap hcap2 hcap3
 refine s_frz (fun q => q == 48) ?_
 (refine s_eq (τ := ?_) ?_ ?_; rotate_left; (focus ((try simp only [AS.frz, List.map_cons, List.map_nil]); (try simp [frzV, frzO, frzC, List.filter]); rfl)))
 refine s_weak (τ := ⟨89, [(2, aCls cl), (3, aInts c), (4, .ptr 0 0 0), (5, .ptr 1 0 0), (8, .v (.bool false)), (9, .v (.int .i64 a)), (10, .v (.int .i64 e)), (11, .ptr 5 0 0)], [(0, ⟨24, 2, [[.v (.int .i64 (q : Int)), aRows L]]⟩), (1, ⟨28, 2, [[.v (.int .i64 M), aNds ns]]⟩), (5, ⟨24, 2, [[.v (.int .i64 (q : Int)), aRows X]]⟩)], [5, 1, 0]⟩) ?_ ?_
 ·(refine weak_id rfl ?_ ?_ <;> ((try simp only [List.mem_cons, List.not_mem_nil, or_false, forall_eq_or_imp, forall_eq]); (try simp (disch := omega) [i64w, *])))
  all_goals first | rfl | (unfold aRows; simp)
 unfold aNds aCls
 by_cases he : e = 0
 ·subst he
  by_cases hd : d = 0
  ·subst hd
   have hS := HL.out (HA.out rfl) (HB.out rfl)
   clear HA HB HL
   have hq0 : ¬ ((q : Int) < 0) := by omega
   have hsh := two_shlZ hq
   have hqu : IntKind.u64.wrap (q : Int) = q := u64w (by omega) (by omega)
   obtain ⟨P, hP⟩ : ∃ P, 2 ^ q = P := ⟨_, rfl⟩
   have hP256 : P ≤ 1024 := by rw [← hP]; exact Nat.pow_le_pow_right (n := 2) (by omega) hq
   rw [hP] at hsh hS
   have HS := Lib.hid hS
   clear hS hP
   refine amGo PT213_ok (h := ?_)
   refine s_loop (J := fun k : {k : Nat // k ≤ P} => ⟨89, [(3, aInts c), (4, .ptr 0 0 0), (8, .v (.bool false)), (14, .v (.int .u64 (k.1 : Int)))], [(0, ⟨24, 2, [[.v (.int .i64 (q : Int)), aRows L]]⟩)], [0]⟩) (μ := fun k => P - k.1) ⟨0, Nat.zero_le _⟩ ?_ (fun ⟨k, hk⟩ => ?_)
   ·(refine weak_id rfl ?_ ?_ <;> ((try simp only [List.mem_cons, List.not_mem_nil, or_false, forall_eq_or_imp, forall_eq]); (try simp (disch := omega) [i64w, *])))
   dsimp only
   refine amStr (h := ?_)
   refine amReg PT213_ok (h := ?_)
   refine amStr (h := ?_)
   (focus ((with_reducible refine sp_cond (b := ?_) ?_ (fun hc => ?_) (fun hc => ?_)); rotate_left; (focus (first | rfl | (simp [lk, AS.ev]; rfl))); all_goals (try simp at hc)))
   ·have hkk : k < P := by omega
    clear hc
    have hts := toSet_natZ (k := k) (by omega)
    have hSk := HS.out k hkk
    have hwk : IntKind.u64.wrap ((k : Int) + 1) = (k : Int) + 1 := u64w (by omega) (by omega)
    obtain ⟨b, hb⟩ : ∃ b, evalT (q : Int) L (nSet k) = b := ⟨_, rfl⟩
    rw [hb] at hSk
    have HSK := Lib.hid hSk
    clear HS hSk
    cases b
    ·refine amStr (h := ?_)
     refine amReg PT213_ok (h := ?_)
     refine amStr (h := ?_)
     refine amReg PT213_ok (h := ?_)
     refine k_lp (⟨k + 1, hkk⟩ : {k : Nat // k ≤ P}) (by first | omega | (dsimp only; omega)) ?_
     (refine weak_id rfl ?_ ?_ <;> ((try simp only [List.mem_cons, List.not_mem_nil, or_false, forall_eq_or_imp, forall_eq]); (try simp (disch := omega) [i64w, *])))
    ·have hSk := HSK.out rfl
     refine amStr (h := ?_)
     refine amReg PT213_ok (h := ?_)
     refine amStr (h := ?_)
     refine amReg PT213_ok (h := ?_)
     refine k_lp (⟨k + 1, hkk⟩ : {k : Nat // k ≤ P}) (by first | omega | (dsimp only; omega)) ?_
     (refine weak_id rfl ?_ ?_ <;> ((try simp only [List.mem_cons, List.not_mem_nil, or_false, forall_eq_or_imp, forall_eq]); (try simp (disch := omega) [i64w, *])))
   ·refine amGo PT213_ok (h := ?_)
    (refine amRt Tryz.results8 (h := ?_); try simp [*])
  ·have hne : (d != 0) = true := by simpa using hd
   clear HA HB HL
   refine amGo PT213_ok (h := ?_)
   (refine amRt Tryz.results8 (h := ?_); try simp [*])
 ·have hne : (e != 0) = true := by simpa using he
  clear HA HB HL
  refine amGo PT213_ok (h := ?_)
  (refine amRt Tryz.results8 (h := ?_); try simp [*])
namespace verifyOne
set_option maxRecDepth 100000
theorem contract (H : Type) (enc : TypeId × Value → H) (W : World) (base : Nat) (args : Array Value) (ds gs : List (DataW H)) (before : List MemPlace)
  (hval0 : ∀ (j : Nat) t v, (Go.Proofs.Tryz.f8).params[j]? = some t → args[j]? = some v → Value.okWide Tryz.prog W .any base t v)
  (hW : DataW.Whole enc Tryz.prog (Go.Proofs.Tryz.f8).params.toList Rows.verifyOneSpec.vars false W args.toList ds gs before) (hL : laidMetH Tryz.prog Rows.verifyOneRow.laid W) (hsz0 : (DataW.weightsEach Tryz.prog ((Go.Proofs.Tryz.f8).params.toList ++ []) (ds ++ gs)).all (· ≤ reachBytes) = true) :
  Calls Tryz.prog 8 args W fun e W' => ∃ v, e = .returned v ∧ Rows.verifyOneSpec.post enc Tryz.prog Go.Proofs.Tryz.f8 false true false false W args v W' := by
 have hval : ∀ (j : Nat) t v, (Go.Proofs.Tryz.f8).params[j]? = some t → args[j]? = some v → Value.okWide Tryz.prog W .any base t v := hval0
 have hsz : (DataW.weightsEach Tryz.prog ((Go.Proofs.Tryz.f8).params.toList ++ []) (ds ++ gs)).all (· ≤ reachBytes) = true := hsz0
 have hW2 := hW
 obtain ⟨p, q, hA0, hV, _, _, _⟩ := hW
 have hA : DataW.TrodAll enc Tryz.prog W 0 (fun _ => true) true (Go.Proofs.Tryz.f8).params.toList args.toList ds p := hA0
 rw [Tryz.params8] at hA hval hsz
 clear hA0 hval0 hsz0
 obtain ⟨rfl, _⟩ := trodVars_none hV
 obtain ⟨v0, vs0, d0, ds0, p0, q0, hargs, rfl, _, h0, r0⟩ := trodAll_cons hA
 obtain ⟨v1, vs1, d1, ds1, p1, q1, rfl, rfl, _, h1, r1⟩ := trodAll_cons r0
 obtain ⟨v2, vs2, d2, ds2, p2, q2, rfl, rfl, _, h2, r2⟩ := trodAll_cons r1
 obtain ⟨v3, vs3, d3, ds3, p3, q3, rfl, rfl, _, h3, r3⟩ := trodAll_cons r2
 obtain ⟨rfl, rfl, _⟩ := trodAll_nil r3
 obtain rfl : args = #[v0, v1, v2, v3] := by cases args; simp_all
 obtain ⟨N, L, ra0, oN0, oL0⟩ := argZ_th (hval 0 _ v0 rfl rfl) h0 (sized_at hsz (j := 0) rfl rfl)
 obtain ⟨M, ns, ra1, oN1, oL1⟩ := argZ_net (hval 1 _ v1 rfl rfl) h1 (sized_at hsz (j := 1) rfl rfl)
 obtain ⟨cl, ra2, oL2⟩ := argZ_cls (hval 2 _ v2 rfl rfl) h2 (sized_at hsz (j := 2) rfl rfl)
 obtain ⟨c, ra3, oL3⟩ := argZ_ints (hval 3 _ v3 rfl rfl) h3 (sized_at hsz (j := 3) rfl rfl)
 refine law_of_pure (glob_of_laid hL) (avs := [.agg [.v (.int .i64 N), aRows L], aNet M ns, aCls cl, aInts c]) (by kernel_rfl) hW2 rfl (rec_ok (by kernel_rfl)) (tb := 4) rfl Tryz.underlying4 rfl rfl rfl rfl (fun i hi => ?_) (verifyOne_p N L M ns cl c oN0 oL0 oN1 oL1 oL2 oL3)
 match i, hi with
 | 0, _ => exact ra0
 | 1, _ => exact ra1
 | 2, _ => exact ra2
 | 3, _ => exact ra3
theorem laid_met (os : Os) : laidMet Tryz.prog Rows.verifyOneRow.laid ((laidWorld os).forCall (fun _ _ => 0) ⟨#[], #[.agg #[.int .i64 0, .slice none 0 0], .agg #[.int .i64 0, .slice none 0 0], .slice none 0 0, .slice none 0 0], []⟩).memory :=
 laidMet_of_run' 8 (by kernel_rfl) (by kernel_rfl)
theorem lifted (os : Os) (started : os.Started) (H : Type) (enc : TypeId × Value → H) (F : Stop.Interp) :
  ReturnsInHanded {} Tryz.checked os 8 .any ((OpenSpec.ofChange Rows.verifyOneSpec).preRow enc Tryz.prog Go.Proofs.Tryz.f8 Rows.verifyOneRow.domain false Rows.verifyOneRow.laid) (((OpenSpec.ofChange Rows.verifyOneSpec).at F).post enc Tryz.prog Go.Proofs.Tryz.f8 false true false false) := by
 refine returnsInHanded_of_row (C := Tryz.checked) (s := OpenSpec.ofChange Rows.verifyOneSpec) (by kernel_rfl) started (by kernel_rfl) Tryz.func8
  (witness_row_at (enc := enc) (C := Tryz.checked) false (laidWorld os) #[.agg #[.int .i64 0, .slice none 0 0], .agg #[.int .i64 0, .slice none 0 0], .slice none 0 0, .slice none 0 0] rfl (by kernel_rfl) (by kernel_rfl) (by kernel_rfl)
   (OpenSpec.preRow_of_cond 8 (show DataW.whole enc Tryz.prog ((laidWorld os).forCall (fun _ _ => 0) ⟨#[], #[.agg #[.int .i64 0, .slice none 0 0], .agg #[.int .i64 0, .slice none 0 0], .slice none 0 0, .slice none 0 0], []⟩).memory (Go.Proofs.Tryz.f8).params.toList Rows.verifyOneSpec.vars false (#[.agg #[.int .i64 0, .slice none 0 0], .agg #[.int .i64 0, .slice none 0 0], .slice none 0 0, .slice none 0 0] : Array Value).toList 8 = some ([.agg [.lit (.int .i64 0), .nil], .agg [.lit (.int .i64 0), .nil], .nil, .nil], [], []) by kernel_rfl) (by kernel_rfl) (fun k hk => by cases hk) (by kernel_rfl) (laid_met os))) ?_
 intro W base args ds gs before hval hW _ _ hsz hL _ _
 exact contract H enc W base args ds gs before hval hW hL hsz
theorem said : Rows.VerifyOneSaid :=
 OpenClaim.holds_of_cond 8 Go.Proofs.Tryz.f8 rfl rfl rfl rfl rfl rfl rfl ⟨rfl, rfl, rfl, rfl, rfl⟩ rfl rfl rfl rfl rfl (by kernel_rfl) Tryz.func8 (by kernel_rfl)
  (of_decide_eq_true (by kernel_rfl)) (by unfold Func.isWrapper; first | (rw [if_pos (by decide +kernel)]; kernel_rfl) | (rw [if_neg (by decide +kernel)]; exact ⟨rfl, rfl⟩))
  (fun os started H enc _ F => by rw [OpenClaim.pre_eq_preRow]; exact lifted os started H enc F)
theorem plain (f : FuncId) (fn : Func) (hf : Tryz.pinned.checked.prog.funcNamed "census/censuslaw23.VerifyOne" = some f) (hfn : Tryz.pinned.checked.prog.funcs[f]? = some fn) :
  false = Tryz.pinned.checked.prog.looks [] ∧ ∀ (j : Nat) t, fn.params[j]? = some t → Tryz.pinned.checked.prog.wantsStandIn t = false := by
 obtain rfl : f = 8 := Option.some.inj ((show Tryz.prog.funcNamed "census/censuslaw23.VerifyOne" = some 8 by kernel_rfl).symm.trans hf) |>.symm
 obtain rfl : fn = Go.Proofs.Tryz.f8 := (Option.some.inj (Tryz.func8.symm.trans hfn)).symm
 refine ⟨by kernel_rfl, fun j t ht => ?_⟩
 rw [Tryz.params8] at ht
 have hall : (Tryz.checked.prog.funcs[8]?).all (fun g => g.params.toList.all fun t => !(Tryz.checked.prog.wantsStandIn t)) = true := by kernel_rfl
 rw [show Tryz.checked.prog.funcs[8]? = some Go.Proofs.Tryz.f8 from Tryz.func8] at hall
 have h2 : ∀ t ∈ (Go.Proofs.Tryz.f8).params.toList, (!(Tryz.checked.prog.wantsStandIn t)) = true := List.all_eq_true.1 hall
 have hm : t ∈ (Go.Proofs.Tryz.f8).params.toList := by rw [Tryz.params8]; exact Array.mem_toList_iff.2 (Array.mem_of_getElem? ht)
 have h3 : Tryz.checked.prog.wantsStandIn t = false := by simpa using h2 t hm
 exact h3
theorem proved : Rows.VerifyOneCardSaid :=
 Claim7.holds_tied_plain_at .later [] _ _ _ _ said (fun _ h => by cases h) (by kernel_rfl) (fun _ h => by cases h) verifyOne_row_tie rfl ⟨rfl, rfl⟩ (by kernel_rfl) rfl plain (by kernel_rfl)
end verifyOne
end Go.Proofs.YtllkogdgmmcfgaaGreatDoor
