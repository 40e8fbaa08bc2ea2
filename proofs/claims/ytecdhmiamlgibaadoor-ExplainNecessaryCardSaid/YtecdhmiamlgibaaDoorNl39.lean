/- ExplainNecessary: a literal is necessary exactly if the net changes its result with it alone. -/
import Derived.Test.YtecdhmiamlgibaaDoorPw39
import Derived.Test.YtecdhmiamlgibaaDoorWa
import Derived.Test.YtecdhmiamlgibaaDoorSa39
import Derived.Test.YtecdhmiamlgibaaDoorLd
namespace Go.Proofs.YtecdhmiamlgibaaDoor
set_option linter.unusedVariables false
set_option linter.unusedSimpArgs false
set_option linter.unusedSectionVars false
open Go.RowKit Go.WideShapes Go.ChangeShapes Go.ChangeAt
attribute [local simp] List.getD_cons_zero List.getD_cons_succ List.getD_nil undef gvars runL runE effA stepA dstOk wantA core lk st dl AS.ev AS.evs AS.put AS.upd updO updI nxt cPick cAlloc cBox cBuild cBuildS cLoad cStore cNil plainOf cBin cNilS isNilS nilA cUn cConvX cConvB cConv bytesOf rowB cMake cSlice slA idxA cFA cF cIA cIX cIS cI cExt cLen cApp cMM cFun cCall lenA lenM isNilM nilM cNilM cMakeM hintB cMapK cLook foundR lookR cUpd putM cDel delM findA isKeyB Instr.sameNow AS.entry AS.bound AS.callee sc1 sc2 ixOk ldA AV.flat AV.cell AV.cells Value.oneCell' fillA spl chunk zeros AS.parts AS.rows AS.shut AS.shut1 AS.shut2 AS.shutL AS.shutM AV.ids idsL idsLL eqAll bndA AV.scalar AV.scalar1 AV.isV Ef.app Ef.pk ptOf pntO wrO wr
attribute [-simp] List.getD_eq_getElem?_getD
set_option maxRecDepth 100000
theorem few_light {N : Int} {ns : List Nd} {most : Int} (h : fewN N ns most = true) : lightN ns = true := by
  unfold fewN at h
  rw [Bool.and_eq_true] at h
  exact h.1
theorem setEq (s t : BitVec 128) : (((lo s).toNat : Int) == ((lo t).toNat : Int) && ((hi s).toNat : Int) == ((hi t).toNat : Int)) = decide (s = t) := by
  rw [Bool.eq_iff_iff]
  simp only [Bool.and_eq_true, beq_iff_eq, decide_eq_true_eq]
  constructor
  · rintro ⟨h1, h2⟩
    exact words_ext (BitVec.eq_of_toNat_eq (by omega)) (BitVec.eq_of_toNat_eq (by omega))
  · rintro rfl; exact ⟨rfl, rfl⟩
theorem getD_memR {L : List (List Int)} {k : Nat} (hk : k < L.length) : L.getD k [] ∈ L := by
  rw [List.getD_eq_getElem?_getD, List.getElem?_eq_getElem hk]; exact List.getElem_mem _
theorem without_ne {a : BitVec 128} {v : Int} (h : sHas a v = true) : sWithout a v ≠ a := fun e => by
  have := congrArg (fun s => sHas s v) e
  simp only [sHas_without, h] at this
  simp at this
theorem without_eq {a : BitVec 128} {v : Int} (h : sHas a v = false) : sWithout a v = a := by
  refine sets_ext fun u _ _ => ?_
  rw [sHas_without]
  by_cases e : u = v
  · rw [e, h]; rfl
  · simp [e]
set_option maxHeartbeats 16000000 in
theorem necl_ok (N : Int) (ns : List Nd) (a : BitVec 128) (hN : okI N = true) (h0 : okN0 ns = true) (hf : fewN N ns 10 = true) (hv : (validN N ns && subB a N) = true) (h16 : (matL ns).length ≤ 16) : FnPure Tryd.prog 6 [aNet N ns, aSet a] (.v (.bool true)) := by
  have hl := okN0_len h0
  have h10 : okI 10 = true := rfl
  have hk := okNs_of h0 (few_light hf)
  have h1 := reaA_ok hv h16
  have h2 := neeA_ok hv h16
  have hrows := reaX_rows a h16
  have hin := fun r (hr : r ∈ reaX ns a) => nee_in (ns := ns) (a := a) h16 hr
  have hvN : validN N ns = true := (Bool.and_eq_true _ _ ▸ hv).1
  have hwant := nee_want (a := a) hvN h16
  have hnok := neeL_ok a h16
  obtain ⟨n0, n1⟩ := valid_N hvN
  have HIN := Lib.hid hin
  have HW := Lib.hid hwant
  clear hin hwant
  generalize reaX ns a = L at h1 hrows HIN
  generalize neeL ns a = M at h2 HIN HW hnok
  unfold aNet aNds aSet WV
  refine fn_sp TT_ok Tryd.func6 (c := _) rfl (by simp [Tryd.ntmps6]) (fun B hI0 hro => ?_)
  rw [Tryd.ntmps6]
  simp only [enumA]
  refine amStr (h := ?_)
  refine amReg PT156_ok (h := ?_)
  refine amStr (h := ?_)
  refine amReg PT156_ok (h := ?_)
  refine amStr (h := ?_)
  refine amReg PT156_ok (h := ?_)
  refine amStr (h := ?_)
  refine amReg PT156_ok (h := ?_)
  refine amStr (h := ?_)
  refine amReg PT156_ok (h := ?_)
  refine amStr (h := ?_)
  refine amReg PT156_ok (h := ?_)
  refine amStr (h := ?_)
  refine amReg PT156_ok (h := ?_)
  refine amStr (h := ?_)
  refine s_nil 9 50 3 1 (by simp [lk]) (by simp) ?_
  simp [st]
  refine s_loop (J := fun i : {k : Nat // (k : Int) ≤ N} => ⟨94, [(2, .ptr 0 0 0), (3, .ptr 1 0 0), (5, aInts M), (7, aRows L), (9, .ref 50 0 (wantL N ns a i.1).length), (10, .v (.int .i64 ((i.1 : Int) + 1)))], [(50, ⟨3, 1, (wantL N ns a i.1).map fun x => [.v (.int .i64 x)]⟩), (0, ⟨24, 2, [[.v (.int .i64 N), .sl 3 (ns.map fun x => [AV.v (.int .i64 x.1), AV.v (.int .i64 x.2.1), aInts x.2.2])]]⟩), (1, ⟨27, 2, [[.v (.int .u64 ((lo a).toNat : Int)), .v (.int .u64 ((hi a).toNat : Int))]]⟩)], [50, 1, 0]⟩) (μ := fun i => (N - (i.1 : Int)).toNat) ⟨0, by simpa using n0⟩ ?_ (fun ⟨k, hkN⟩ => ?_)
  · have h00 : wantL N ns a 0 = [] := rfl
    (refine weak_id rfl ?_ ?_ <;> ((try simp only [List.mem_cons, List.not_mem_nil, or_false, forall_eq_or_imp, forall_eq]); (try simp (disch := omega) [i64w, *])))
  refine amStr (h := ?_)
  refine amReg PT156_ok (h := ?_)
  refine amStr (h := ?_)
  (focus ((with_reducible refine sp_cond (b := ?_) ?_ (fun hc => ?_) (fun hc => ?_)); rotate_left; (focus (first | rfl | (simp [lk, AS.ev]; rfl))); all_goals (try simp at hc)))
  · have hkk : (k : Int) + 1 ≤ N := by omega
    clear hc
    have hs := wantL_succ N ns a k
    have hlen := wantL_len N ns a k
    unfold wantB at hs
    obtain ⟨v, hv2⟩ : ∃ v : Int, (k : Int) + 1 = v := ⟨_, rfl⟩
    rw [hv2] at hs hkk
    have hov : okI v = true := okI_iff.2 ⟨by omega, by omega⟩
    have hwn : IntKind.i64.wrap (-v) = -v := i64w (by omega) (by omega)
    have hwk : IntKind.i64.wrap (v + 1) = v + 1 := i64w (by omega) (by omega)
    have hcap : ((wantL N ns a k).length + 1) * 8 ≤ 140737488355328 := by omega
    obtain ⟨T, hT⟩ : ∃ T, wantL N ns a k = T := ⟨_, rfl⟩
    rw [hT] at hs hlen hcap
    rw [hT]
    rw [hv2]
    clear hT
    cases ha : sHas a v
    · have e1 := without_eq ha
      rw [show litA a v = -v by unfold litA; rw [ha]; rfl, show flipS a v = sWith a v by unfold flipS; rw [ha]; rfl] at hs
      refine amStr (h := ?_)
      refine amReg PT156_ok (h := ?_)
      refine amStr (h := ?_)
      refine amReg PT156_ok (h := ?_)
      refine amStr (h := ?_)
      refine amReg PT156_ok (h := ?_)
      refine amStr (h := ?_)
      refine amReg PT156_ok (h := ?_)
      refine amStr (h := ?_)
      refine amDrw PT156_ok (h := ?_)
      refine amStr (h := ?_)
      (focus ((with_reducible refine sp_cond (b := ?_) ?_ (fun hc => ?_) (fun hc => ?_)); rotate_left; (focus (first | rfl | (simp [lk, AS.ev]; rfl))); all_goals (try simp at hc)))
      · rw [if_pos (by simpa using hc)] at hs
        clear hc
        refine amGo PT156_ok (h := ?_)
        refine k_lp (⟨k + 1, by omega⟩ : {k : Nat // (k : Int) ≤ N}) (by first | omega | (dsimp only; omega)) ?_
        (refine weak_of (fun q => if q = 50 then 58 else q) ⟨rfl, ?_, ?_, ?_⟩ <;> ((try simp only [List.mem_cons, List.not_mem_nil, or_false, forall_eq_or_imp, forall_eq]); (try simp (disch := omega) [lk, AV.ids, idsL, idsLL, AV.ren, renL, renLL, i64w, *])))
      · rw [if_neg (by simpa using hc)] at hs
        clear hc
        refine amGo PT156_ok (h := ?_)
        refine k_lp (⟨k + 1, by omega⟩ : {k : Nat // (k : Int) ≤ N}) (by first | omega | (dsimp only; omega)) ?_
        (refine weak_id rfl ?_ ?_ <;> ((try simp only [List.mem_cons, List.not_mem_nil, or_false, forall_eq_or_imp, forall_eq]); (try simp (disch := omega) [i64w, *])))
    · have e1 : decide (sWithout a v = a) = false := decide_eq_false (without_ne ha)
      have e2 := setEq (sWithout a v) a
      rw [e1] at e2
      clear e1
      rw [show litA a v = v by unfold litA; rw [ha]; rfl, show flipS a v = sWithout a v by unfold flipS; rw [ha]; rfl] at hs
      obtain ⟨b, hb⟩ : ∃ b, sWithout a v = b := ⟨_, rfl⟩
      rw [hb] at hs e2
      refine amStr (h := ?_)
      refine amReg PT156_ok (h := ?_)
      refine amStr (h := ?_)
      refine amReg PT156_ok (h := ?_)
      refine amStr (h := ?_)
      refine amReg PT156_ok (h := ?_)
      refine amStr (h := ?_)
      refine amReg PT156_ok (h := ?_)
      refine amStr (h := ?_)
      refine amDrw PT156_ok (h := ?_)
      refine amStr (h := ?_)
      (focus ((with_reducible refine sp_cond (b := ?_) ?_ (fun hc => ?_) (fun hc => ?_)); rotate_left; (focus (first | rfl | (simp [lk, AS.ev]; rfl))); all_goals (try simp at hc)))
      · rw [if_pos (by simpa using hc)] at hs
        clear hc
        refine amGo PT156_ok (h := ?_)
        refine k_lp (⟨k + 1, by omega⟩ : {k : Nat // (k : Int) ≤ N}) (by first | omega | (dsimp only; omega)) ?_
        (refine weak_of (fun q => if q = 50 then 58 else q) ⟨rfl, ?_, ?_, ?_⟩ <;> ((try simp only [List.mem_cons, List.not_mem_nil, or_false, forall_eq_or_imp, forall_eq]); (try simp (disch := omega) [lk, AV.ids, idsL, idsLL, AV.ren, renL, renLL, i64w, *])))
      · rw [if_neg (by simpa using hc)] at hs
        clear hc
        refine amGo PT156_ok (h := ?_)
        refine k_lp (⟨k + 1, by omega⟩ : {k : Nat // (k : Int) ≤ N}) (by first | omega | (dsimp only; omega)) ?_
        (refine weak_id rfl ?_ ?_ <;> ((try simp only [List.mem_cons, List.not_mem_nil, or_false, forall_eq_or_imp, forall_eq]); (try simp (disch := omega) [i64w, *])))
  · obtain rfl : k = N.toNat := by omega
    clear hc
    rw [← HW.out]
    refine s_weak (τ := ⟨94, [(5, aInts M), (7, aRows L), (9, .ref 50 0 M.length)], [(50, ⟨3, 1, M.map fun x => [.v (.int .i64 x)]⟩)], [50]⟩) ?_ ?_
    · (refine weak_id rfl ?_ ?_ <;> ((try simp only [List.mem_cons, List.not_mem_nil, or_false, forall_eq_or_imp, forall_eq]); (try simp (disch := omega) [i64w, *])))
    (refine s_eq (τ := ?_) ?_ ?_; rotate_left; (focus ((try simp only [AS.frz, List.map_cons, List.map_nil]); (try simp [frzV, frzO, frzC, List.filter]); rfl)))
    refine s_frz (fun q => q == 50) ?_
    (refine s_eq (τ := ?_) ?_ ?_; rotate_left; (focus ((try simp only [AS.frz, List.map_cons, List.map_nil]); (try simp [frzV, frzO, frzC, List.filter]); rfl)))
    refine amStr (h := ?_)
    refine amReg PT156_ok (h := ?_)
    refine amStr (h := ?_)
    refine s_loop (J := fun i : {k : Nat // k ≤ L.length} => ⟨94, [(5, aInts M), (9, aInts M), (77, aRows L), (78, .v (.int .i64 (L.length : Int))), (79, .v (.int .i64 (i.1 : Int)))], [], []⟩) (μ := fun i => L.length - i.1) ⟨0, Nat.zero_le _⟩ ?_ (fun ⟨k, hkL⟩ => ?_)
    · (refine weak_id rfl ?_ ?_ <;> ((try simp only [List.mem_cons, List.not_mem_nil, or_false, forall_eq_or_imp, forall_eq]); (try simp (disch := omega) [i64w, *])))
    refine amStr (h := ?_)
    refine amReg PT156_ok (h := ?_)
    refine amStr (h := ?_)
    (focus ((with_reducible refine sp_cond (b := ?_) ?_ (fun hc => ?_) (fun hc => ?_)); rotate_left; (focus (first | rfl | (simp [lk, AS.ev]; rfl))); all_goals (try simp at hc)))
    · have hkk := hc
      clear hc
      have hi := HIN.out _ (getD_memR hkk)
      have hoi := okRows_at hrows k
      have hlen := okRows_len hrows
      have hwk : IntKind.i64.wrap ((k : Int) + 1) = (k : Int) + 1 := i64w (by omega) (by omega)
      clear hlen
      obtain ⟨R, hR⟩ : ∃ R, L.getD k [] = R := ⟨_, rfl⟩
      rw [hR] at hi hoi
      refine amGo PT156_ok (h := ?_)
      refine k_lp (⟨k + 1, by omega⟩ : {k : Nat // k ≤ L.length}) (by first | omega | (dsimp only; omega)) ?_
      (refine weak_id rfl ?_ ?_ <;> ((try simp only [List.mem_cons, List.not_mem_nil, or_false, forall_eq_or_imp, forall_eq]); (try simp (disch := omega) [i64w, *])))
    · obtain rfl : k = L.length := by omega
      refine amGo PT156_ok (h := ?_)
      ((refine post_ret (av := ?_) (by first | exact .inl rfl | exact .inr rfl) (show (Tryd.f6).results.toList = _ from by rw [Tryd.results6]) ?_ ?_); rotate_left; (focus (simp [retA, retL, ret1, lk, st, ldA, AV.cell]; rfl)); (try simp [*]))
theorem necl_p (N : Int) (ns : List Nd) (a : BitVec 128) (hN : okI N = true) (h0 : okN0 ns = true) : FnPure Tryd.prog 6 [aNet N ns, aSet a] (.v (.bool true)) := by
  have hl := okN0_len h0
  have h10 : okI 10 = true := rfl
  cases hf : fewN N ns 10
  · unfold aNet aNds aSet WV
    refine fn_sp TT_ok Tryd.func6 (c := _) rfl (by simp [Tryd.ntmps6]) (fun B hI0 hro => ?_)
    rw [Tryd.ntmps6]
    simp only [enumA]
    refine amGo PT156_ok (h := ?_)
    ((refine post_ret (av := ?_) (by first | exact .inl rfl | exact .inr rfl) (show (Tryd.f6).results.toList = _ from by rw [Tryd.results6]) ?_ ?_); rotate_left; (focus (simp [retA, retL, ret1, lk, st, ldA, AV.cell]; rfl)); (try simp [*]))
  have hk := okNs_of h0 (few_light hf)
  cases hv : (validN N ns && subB a N)
  · have h1 := reaA_bad hv
    have h2 := neeA_bad hv
    unfold aNet aNds aSet WV
    refine fn_sp TT_ok Tryd.func6 (c := _) rfl (by simp [Tryd.ntmps6]) (fun B hI0 hro => ?_)
    rw [Tryd.ntmps6]
    simp only [enumA]
    refine amGo PT156_ok (h := ?_)
    ((refine post_ret (av := ?_) (by first | exact .inl rfl | exact .inr rfl) (show (Tryd.f6).results.toList = _ from by rw [Tryd.results6]) ?_ ?_); rotate_left; (focus (simp [retA, retL, ret1, lk, st, ldA, AV.cell]; rfl)); (try simp [*]))
  by_cases h16 : 16 < (matL ns).length
  · have h1 := reaA_long hv h16
    have h2 := neeA_long hv h16
    unfold aNet aNds aSet WV
    refine fn_sp TT_ok Tryd.func6 (c := _) rfl (by simp [Tryd.ntmps6]) (fun B hI0 hro => ?_)
    rw [Tryd.ntmps6]
    simp only [enumA]
    refine amGo PT156_ok (h := ?_)
    ((refine post_ret (av := ?_) (by first | exact .inl rfl | exact .inr rfl) (show (Tryd.f6).results.toList = _ from by rw [Tryd.results6]) ?_ ?_); rotate_left; (focus (simp [retA, retL, ret1, lk, st, ldA, AV.cell]; rfl)); (try simp [*]))
  · exact necl_ok N ns a hN h0 hf hv (by omega)
namespace explainNecessary
set_option maxRecDepth 100000
theorem contract (H : Type) (enc : TypeId × Value → H) (W : World) (base : Nat) (args : Array Value) (ds gs : List (DataW H)) (before : List MemPlace)
    (hval0 : ∀ (j : Nat) t v, (Go.Proofs.Tryd.f6).params[j]? = some t → args[j]? = some v → Value.okWide Tryd.prog W .any base t v)
    (hW : DataW.Whole enc Tryd.prog (Go.Proofs.Tryd.f6).params.toList Rows.explainNecessarySpec.vars false W args.toList ds gs before) (hL : laidMetH Tryd.prog Rows.explainNecessaryRow.laid W) :
    Calls Tryd.prog 6 args W fun e W' => ∃ v, e = .returned v ∧ Rows.explainNecessarySpec.post enc Tryd.prog Go.Proofs.Tryd.f6 false true false false W args v W' := by
  have hval : ∀ (j : Nat) t v, (Go.Proofs.Tryd.f6).params[j]? = some t → args[j]? = some v → Value.okWide Tryd.prog W .any base t v := hval0
  have hW2 := hW
  obtain ⟨p, q, hA0, hV, _, _, _⟩ := hW
  have hA : DataW.TrodAll enc Tryd.prog W 0 (fun _ => true) true (Go.Proofs.Tryd.f6).params.toList args.toList ds p := hA0
  rw [Tryd.params6] at hA hval
  clear hA0 hval0
  obtain ⟨rfl, _⟩ := trodVars_none hV
  obtain ⟨v0, vs0, d0, ds0, p0, q0, hargs, rfl, _, h0, r0⟩ := trodAll_cons hA
  obtain ⟨v1, vs1, d1, ds1, p1, q1, rfl, rfl, _, h1, r1⟩ := trodAll_cons r0
  obtain ⟨rfl, rfl, _⟩ := trodAll_nil r1
  obtain rfl : args = #[v0, v1] := by cases args; simp_all
  obtain ⟨N, ns, ra0, oN0, oL0⟩ := arg_net (hval 0 _ v0 rfl rfl) h0
  obtain ⟨a, ra1⟩ := arg_set (hval 1 _ v1 rfl rfl) h1
  refine law_of_pure (glob_of_laid hL) (avs := [aNet N ns, aSet a]) (by kernel_rfl) hW2 rfl (rec_ok (by kernel_rfl)) (tb := 4) rfl Tryd.underlying4 rfl rfl rfl rfl (fun i hi => ?_) (necl_p N ns a oN0 oL0)
  match i, hi with
  | 0, _ => exact ra0
  | 1, _ => exact ra1
theorem laid_met (os : Os) : laidMet Tryd.prog Rows.explainNecessaryRow.laid ((laidWorld os).forCall (fun _ _ => 0) ⟨#[], #[.agg #[.int .i64 0, .slice none 0 0], .agg #[.int .u64 0, .int .u64 0]], []⟩).memory :=
  laidMet_of_run' 8 (by kernel_rfl) (by kernel_rfl)
theorem lifted (os : Os) (started : os.Started) (H : Type) (enc : TypeId × Value → H) (F : Stop.Interp) :
    ReturnsInHanded {} Tryd.checked os 6 .any ((OpenSpec.ofChange Rows.explainNecessarySpec).preRow enc Tryd.prog Go.Proofs.Tryd.f6 Rows.explainNecessaryRow.domain false Rows.explainNecessaryRow.laid) (((OpenSpec.ofChange Rows.explainNecessarySpec).at F).post enc Tryd.prog Go.Proofs.Tryd.f6 false true false false) := by
  refine returnsInHanded_of_row (C := Tryd.checked) (s := OpenSpec.ofChange Rows.explainNecessarySpec) (by kernel_rfl) started (by kernel_rfl) Tryd.func6
    (witness_row_at (enc := enc) (C := Tryd.checked) false (laidWorld os) #[.agg #[.int .i64 0, .slice none 0 0], .agg #[.int .u64 0, .int .u64 0]] rfl (by kernel_rfl) (by kernel_rfl) (by kernel_rfl)
      (OpenSpec.preRow_of_cond 8 (show DataW.whole enc Tryd.prog ((laidWorld os).forCall (fun _ _ => 0) ⟨#[], #[.agg #[.int .i64 0, .slice none 0 0], .agg #[.int .u64 0, .int .u64 0]], []⟩).memory (Go.Proofs.Tryd.f6).params.toList Rows.explainNecessarySpec.vars false (#[.agg #[.int .i64 0, .slice none 0 0], .agg #[.int .u64 0, .int .u64 0]] : Array Value).toList 8 = some ([.agg [.lit (.int .i64 0), .nil], .agg [.lit (.int .u64 0), .lit (.int .u64 0)]], [], []) by kernel_rfl) (by kernel_rfl) (fun k hk => by cases hk) (by kernel_rfl) (laid_met os))) ?_
  intro W base args ds gs before hval hW _ _ _ hL _ _
  exact contract H enc W base args ds gs before hval hW hL
theorem said : Rows.ExplainNecessarySaid :=
  OpenClaim.holds_of_cond 6 Go.Proofs.Tryd.f6 rfl rfl rfl rfl rfl rfl rfl ⟨rfl, rfl, rfl, rfl, rfl⟩ rfl rfl rfl rfl rfl (by kernel_rfl) Tryd.func6 (by kernel_rfl)
    (of_decide_eq_true (by kernel_rfl)) (by unfold Func.isWrapper; first | (rw [if_pos (by decide +kernel)]; kernel_rfl) | (rw [if_neg (by decide +kernel)]; exact ⟨rfl, rfl⟩))
    (fun os started H enc _ F => by rw [OpenClaim.pre_eq_preRow]; exact lifted os started H enc F)
theorem plain (f : FuncId) (fn : Func) (hf : Tryd.pinned.checked.prog.funcNamed "census/censuslaw39.ExplainNecessary" = some f) (hfn : Tryd.pinned.checked.prog.funcs[f]? = some fn) :
    false = Tryd.pinned.checked.prog.looks [] ∧ ∀ (j : Nat) t, fn.params[j]? = some t → Tryd.pinned.checked.prog.wantsStandIn t = false := by
  obtain rfl : f = 6 := Option.some.inj ((show Tryd.prog.funcNamed "census/censuslaw39.ExplainNecessary" = some 6 by kernel_rfl).symm.trans hf) |>.symm
  obtain rfl : fn = Go.Proofs.Tryd.f6 := (Option.some.inj (Tryd.func6.symm.trans hfn)).symm
  refine ⟨by kernel_rfl, fun j t ht => ?_⟩
  rw [Tryd.params6] at ht
  have hall : (Tryd.checked.prog.funcs[6]?).all (fun g => g.params.toList.all fun t => !(Tryd.checked.prog.wantsStandIn t)) = true := by kernel_rfl
  rw [show Tryd.checked.prog.funcs[6]? = some Go.Proofs.Tryd.f6 from Tryd.func6] at hall
  have h2 : ∀ t ∈ (Go.Proofs.Tryd.f6).params.toList, (!(Tryd.checked.prog.wantsStandIn t)) = true := List.all_eq_true.1 hall
  have hm : t ∈ (Go.Proofs.Tryd.f6).params.toList := by rw [Tryd.params6]; exact Array.mem_toList_iff.2 (Array.mem_of_getElem? ht)
  have h3 : Tryd.checked.prog.wantsStandIn t = false := by simpa using h2 t hm
  exact h3
theorem proved : Rows.ExplainNecessaryCardSaid :=
  Claim7.holds_tied_plain_at .later [] _ _ _ _ said (fun _ h => by cases h) (by kernel_rfl) (fun _ h => by cases h) explainNecessary_row_tie rfl ⟨rfl, rfl⟩ (by kernel_rfl) rfl plain (by kernel_rfl)
end explainNecessary
end Go.Proofs.YtecdhmiamlgibaaDoor
