/- The law CanonSame, by the abstract machine; no condition. -/
import Derived.Test.YtafikekndefjcaaDoorSh17
import Derived.Test.YtafikekndefjcaaDoorWa
import Derived.Test.YtafikekndefjcaaDoorFq
import Derived.Test.YtafikekndefjcaaDoorEa17
import Derived.Test.YtafikekndefjcaaDoorCvG
import Derived.Test.YtafikekndefjcaaDoorRows
import Derived.Test.YtafikekndefjcaaDoorLd
namespace Go.Proofs.YtafikekndefjcaaDoor
set_option linter.unusedVariables false
set_option linter.unusedSimpArgs false
set_option linter.unusedSectionVars false
open Go.ChangeShapes Go.WideShapes Go.ChangeAt Go.RowKit
attribute [local simp] List.getD_cons_zero List.getD_cons_succ List.getD_nil undef gvars runL runE effA stepA dstOk wantA core lk st dl AS.ev AS.evs AS.put AS.upd updO updI nxt cPick cAlloc cBox cBuild cBuildS cLoad cStore cNil plainOf cBin cNilS isNilS nilA cUn cConvX cConvB cConv bytesOf rowB cMake cSlice slA idxA cFA cF cIA cIX cIS cI cExt cLen cApp cMM cFun cCall lenA lenM isNilM nilM cNilM cMakeM hintB cMapK cLook foundR lookR cUpd putM cDel delM findA isKeyB Instr.sameNow AS.entry AS.bound AS.callee sc1 sc2 ixOk ldA AV.flat AV.cell AV.cells Value.oneCell' fillA spl chunk zeros AS.parts AS.rows AS.shut AS.shut1 AS.shut2 AS.shutL AS.shutM AV.ids idsL idsLL eqAll bndA AV.scalar AV.scalar1 AV.isV Ef.app Ef.pk ptOf pntO wrO wr
attribute [-simp] List.getD_eq_getElem?_getD
def l84 : List (FuncId × (List AV → Option (AV × Bool))) :=
  (22, g_few) :: (23, g_equal17) :: l83
theorem l84_ok : ∀ p ∈ l84, EntOk Tryd.prog p.1 p.2 := ent_cons e_few (ent_cons e_equal17 (l83_ok))
def PT84 : PTab := tab l84
theorem PT84_ok : PTok Tryd.prog PT84 := tab_ok l84_ok
@[simp] theorem PT84_litVar : PT84 37 = g_litVar := rfl
@[simp] theorem PT84_litValid : PT84 60 = g_litValid := rfl
@[simp] theorem PT84_check : PT84 41 = g_check := rfl
@[simp] theorem PT84_with : PT84 55 = g_with := rfl
@[simp] theorem PT84_all : PT84 43 = g_all := rfl
@[simp] theorem PT84_rValid : PT84 75 = g_rValid := rfl
@[simp] theorem PT84_rHas : PT84 40 = g_rHas := rfl
@[simp] theorem PT84_rCheck : PT84 56 = g_rCheck := rfl
@[simp] theorem PT84_litvalid : PT84 66 = g_litvalid := rfl
@[simp] theorem PT84_opposite : PT84 68 = g_opposite := rfl
@[simp] theorem PT84_clone : PT84 81 = g_clone := rfl
@[simp] theorem PT84_order : PT84 67 = g_order := rfl
@[simp] theorem PT84_clause : PT84 48 = g_clause := rfl
@[simp] theorem PT84_equal : PT84 52 = g_equal := rfl
@[simp] theorem PT84_distinct : PT84 51 = g_distinct := rfl
@[simp] theorem PT84_normal : PT84 34 = g_normal := rfl
@[simp] theorem PT84_rContains : PT84 76 = g_rContains := rfl
@[simp] theorem PT84_rSameInts : PT84 18 = g_rSameInts := rfl
@[simp] theorem PT84_rAbs : PT84 59 = g_rAbs := rfl
@[simp] theorem PT84_rBefore : PT84 77 = g_rBefore := rfl
@[simp] theorem PT84_rSorted : PT84 57 = g_rSorted := rfl
@[simp] theorem PT84_rPut : PT84 58 = g_rPut := rfl
@[simp] theorem PT84_rNormal : PT84 38 = g_rNormal := rfl
@[simp] theorem PT84_place : PT84 74 = g_place := rfl
@[simp] theorem PT84_vHas : PT84 79 = g_vHas := rfl
@[simp] theorem PT84_vMinus : PT84 61 = g_vMinus := rfl
@[simp] theorem PT84_vSub : PT84 42 = g_vSub := rfl
@[simp] theorem PT84_litHolds : PT84 64 = g_litHolds := rfl
@[simp] theorem PT84_litAny : PT84 44 = g_litAny := rfl
@[simp] theorem PT84_thEval : PT84 24 = g_thEval := rfl
@[simp] theorem PT84_rSame : PT84 17 = g_rSame := rfl
@[simp] theorem PT84_thVars : PT84 36 = g_thVars := rfl
@[simp] theorem PT84_rVars : PT84 39 = g_rVars := rfl
@[simp] theorem PT84_light : PT84 12 = g_light := rfl
@[simp] theorem PT84_vList : PT84 35 = g_vList := rfl
@[simp] theorem PT84_cSmall : PT84 15 = g_cSmall := rfl
@[simp] theorem PT84_rSmall : PT84 16 = g_rSmall := rfl
@[simp] theorem PT84_works17 : PT84 13 = g_works17 := rfl
@[simp] theorem PT84_copy : PT84 14 = g_copy := rfl
@[simp] theorem PT84_bEq : PT84 21 = g_bEq := rfl
@[simp] theorem PT84_cKey : PT84 19 = g_cKey := rfl
@[simp] theorem PT84_rKey : PT84 20 = g_rKey := rfl
@[simp] theorem PT84_few : PT84 22 = g_few := rfl
@[simp] theorem PT84_equal17 : PT84 23 = g_equal17 := rfl
set_option maxRecDepth 100000
structure FewK (q : Int) (L : List (List Int)) (U : List (List Int)) (names : List Int) (n : Int) : Prop where
  small : smallA q (fewT q L) = .tup [.agg [.v (.int .i64 n), aRows U], aInts names, .v (.int .i64 0)]
  key : keyA q (fewT q L) = .tup [aB (keyL U), .v (.int .i64 0)]
  len : (names.length : Int) = n
  okR : okRows (fewT q L) = true
  okU : okRows U = true
  okB : okB (keyL U) = true
  okN : okI n = true
  uN : n = ((smallN U).length : Int)
  small2 : ∃ names2 : List Int, smallA n U = .tup [.agg [.v (.int .i64 n), aRows U], aInts names2, .v (.int .i64 0)] ∧ (names2.length : Int) = n
  key2 : keyA n U = .tup [aB (keyL U), .v (.int .i64 0)]
  lits : ∀ c ∈ U, ∀ l ∈ c, litVar l ≠ 0
theorem fewK_of {q : Int} {L : List (List Int)} (h0 : 0 ≤ q) (h1 : q ≤ 20) (hl : lightB L = true) : ∃ U names n, FewK q L U names n := by
  have h60 : L.length ≤ 60 := by
    simp only [lightB, Bool.and_eq_true, decide_eq_true_eq] at hl
    exact hl.2
  have hz := fewT_check (n := q) (L := L) h0 (by omega) (by omega)
  have hz2 := normL_check hz
  have hz3 := small_check hz2
  have hn := small_norm hz
  have hid := small_idem hz2
  have hnm := small_names hz2
  have hlen : (smallN (smallL (normL (fewT q L)))).length = (smallN (normL (fewT q L))).length := by rw [hnm]; simp
  obtain ⟨_, h128, _, h3⟩ := checkT_ok hz3
  refine ⟨smallL (normL (fewT q L)), smallN (normL (fewT q L)), ((smallN (normL (fewT q L))).length : Int), ⟨?_, ?_, rfl, okRows_check hz, okRows_check hz3, okB_check hz3, okI_iff.2 ⟨by omega, by omega⟩, by rw [hlen], ⟨smallN (smallL (normL (fewT q L))), ?_, by rw [hlen]⟩, ?_, fun c hc l hl => ?_⟩⟩
  · unfold smallA; rw [if_pos hz]; rfl
  · unfold keyA; rw [if_pos hz]
  · unfold smallA; rw [if_pos hz3, hn, hid, hlen]; rfl
  · unfold keyA; rw [if_pos hz3, hn, hid]
  · have := litVar_abs ((h3 c hc).2 l hl); omega
theorem fewK_same {q p : Int} {L K U V : List (List Int)} {names mames : List Int} {n m : Int} (h : FewK q L U names n) (k : FewK p K V mames m) : thSame n U m V = decide (keyL U = keyL V) := by
  unfold thSame
  rw [← Bool.decide_and, decide_eq_decide]
  constructor
  · rintro ⟨_, rfl⟩; rfl
  · intro e
    have := keyL_inj h.lits k.lits e
    subst this
    exact ⟨by rw [h.uN, k.uN], rfl⟩
set_option maxHeartbeats 4000000 in
theorem same_ok (N : Int) (L : List (List Int)) (M : Int) (K : List (List Int)) (n m : Int) (hN : okI N = true) (hM : okI M = true) (hL : okRows L = true) (hK : okRows K = true) (hl : lightB L = true) (hk : lightB K = true) (hn0 : 0 ≤ n) (hn1 : n ≤ 255) (hm0 : 0 ≤ m) (hm1 : m ≤ 255) :
    FnPure Tryd.prog 4 [aTh N L, aTh M K, .v (.int .u8 n), .v (.int .u8 m)] (.v (.bool true)) := by
  have hLl := okLens_rows hL
  have hKl := okLens_rows hK
  obtain ⟨q, hq⟩ : ∃ q, n.tmod 7 = q := ⟨_, rfl⟩
  obtain ⟨p, hp⟩ : ∃ p, m.tmod 7 = p := ⟨_, rfl⟩
  have q0 : 0 ≤ q ∧ q < 7 := by rw [← hq, Int.tmod_eq_emod_of_nonneg hn0]; omega
  have p0 : 0 ≤ p ∧ p < 7 := by rw [← hp, Int.tmod_eq_emod_of_nonneg hm0]; omega
  have hqw : IntKind.i64.wrap q = q := i64w (by omega) (by omega)
  have hpw : IntKind.i64.wrap p = p := i64w (by omega) (by omega)
  have hqo : okI q = true := okI_iff.2 ⟨by omega, by omega⟩
  have hpo : okI p = true := okI_iff.2 ⟨by omega, by omega⟩
  have h60 : L.length ≤ 60 := by
    simp only [lightB, Bool.and_eq_true, decide_eq_true_eq] at hl
    exact hl.2
  have k60 : K.length ≤ 60 := by
    simp only [lightB, Bool.and_eq_true, decide_eq_true_eq] at hk
    exact hk.2
  have hfo : fewOk q L = true := fewOk_iff.2 ⟨h60, by omega, by omega⟩
  have kfo : fewOk p K = true := fewOk_iff.2 ⟨k60, by omega, by omega⟩
  obtain ⟨U, names, a, h⟩ := fewK_of (q := q) (L := L) (by omega) (by omega) hl
  obtain ⟨V, mames, b, k⟩ := fewK_of (q := p) (L := K) (by omega) (by omega) hk
  have hsame := fewK_same h k
  have hkk := fewK_same h h
  obtain ⟨hs1, hs2, hs3, hs4, hs5, hs6, hs7, -, ⟨nm2, hs8, hs9⟩, hs10, -⟩ := h
  obtain ⟨ks1, ks2, ks3, ks4, ks5, ks6, ks7, -, -, -, -⟩ := k
  have hself : thSame a U a U = true := by rw [hkk]; simp
  clear hkk q0 p0 h60 k60
  obtain ⟨T, hT⟩ : ∃ T, fewT q L = T := ⟨_, rfl⟩
  obtain ⟨R, hR⟩ : ∃ R, fewT p K = R := ⟨_, rfl⟩
  rw [hT] at hs1 hs2 hs4
  rw [hR] at ks1 ks2 ks4
  obtain ⟨KU, hKU⟩ : ∃ KU, keyL U = KU := ⟨_, rfl⟩
  obtain ⟨KV, hKV⟩ : ∃ KV, keyL V = KV := ⟨_, rfl⟩
  rw [hKU] at hs2 hs6 hs10 hsame
  rw [hKV] at ks2 ks6 hsame
  clear hKU hKV
  unfold aTh
  have hfe : aTh q T = .agg [.v (.int .i64 q), aRows T] := rfl
  have kfe : aTh p R = .agg [.v (.int .i64 p), aRows R] := rfl
  refine fn_sp TT_ok Tryd.func4 (c := _) rfl (by simp [Tryd.ntmps4]) (fun B hI0 hro => ?_)
  rw [Tryd.ntmps4]
  simp only [enumA]
  refine amStr (h := ?_)
  refine amReg PT84_ok (h := ?_)
  refine amStr (h := ?_)
  refine amReg PT84_ok (h := ?_)
  refine amStr (h := ?_)
  (focus ((with_reducible refine s_draw2 (q := ?_) (es := ?_) (σ' := ?_) prog_mixed TT_ok PT84_ok ?_ ?_ ?_ ?_); rotate_left 3; (focus (first | (simp; exact Eq.refl _) | exact Eq.refl _)); (focus ((repeat (((with_reducible refine runE_cons (e := ?_) (σ1 := ?_) (es := ?_) ?_ ?_ ?_); rotate_left 3; (focus (simp [*]; exact Eq.refl _)); (focus (simp; exact Eq.refl _))))); (exact runE_nil))); (focus (simp [fpA, fpF, isFn, fpo, topIds, lightS, light, Op.operands, Call.operands]; try kernel_rfl))))
  refine amGo PT84_ok (h := ?_)
  ((refine post_ret (av := ?_) (by first | exact .inl rfl | exact .inr rfl) (show (Tryd.f4).results.toList = _ from by rw [Tryd.results4]) ?_ ?_); rotate_left; (focus (simp [retA, retL, ret1, lk, st, ldA, AV.cell]; rfl)); (try simp [*]))
theorem canonSame_p (N : Int) (L : List (List Int)) (M : Int) (K : List (List Int)) (n m : Int) (hN : okI N = true) (hL : okLens L = true) (hM : okI M = true) (hK : okLens K = true) (hn0 : 0 ≤ n) (hn1 : n ≤ 255) (hm0 : 0 ≤ m) (hm1 : m ≤ 255) :
    FnPure Tryd.prog 4 [aTh N L, aTh M K, .v (.int .u8 n), .v (.int .u8 m)] (.v (.bool true)) := by
  by_cases hl : lightB L = true
  · by_cases hk : lightB K = true
    · exact same_ok N L M K n m hN hM (light_rows hL hl) (light_rows hK hk) hl hk hn0 hn1 hm0 hm1
    · unfold aTh
      refine fn_sp TT_ok Tryd.func4 (c := _) rfl (by simp [Tryd.ntmps4]) (fun B hI0 hro => ?_)
      rw [Tryd.ntmps4]
      simp only [enumA]
      refine amGo PT84_ok (h := ?_)
      ((refine post_ret (av := ?_) (by first | exact .inl rfl | exact .inr rfl) (show (Tryd.f4).results.toList = _ from by rw [Tryd.results4]) ?_ ?_); rotate_left; (focus (simp [retA, retL, ret1, lk, st, ldA, AV.cell]; rfl)); (try simp [*]))
  · unfold aTh
    refine fn_sp TT_ok Tryd.func4 (c := _) rfl (by simp [Tryd.ntmps4]) (fun B hI0 hro => ?_)
    rw [Tryd.ntmps4]
    simp only [enumA]
    refine amGo PT84_ok (h := ?_)
    ((refine post_ret (av := ?_) (by first | exact .inl rfl | exact .inr rfl) (show (Tryd.f4).results.toList = _ from by rw [Tryd.results4]) ?_ ?_); rotate_left; (focus (simp [retA, retL, ret1, lk, st, ldA, AV.cell]; rfl)); (try simp [*]))
namespace canonSame
set_option maxRecDepth 100000
theorem contract (H : Type) (enc : TypeId × Value → H) (W : World) (base : Nat) (args : Array Value) (ds gs : List (DataW H)) (before : List MemPlace)
    (hval0 : ∀ (j : Nat) t v, (Go.Proofs.Tryd.f4).params[j]? = some t → args[j]? = some v → Value.okWide Tryd.prog W .any base t v)
    (hW : DataW.Whole enc Tryd.prog (Go.Proofs.Tryd.f4).params.toList Rows.canonSameSpec.vars false W args.toList ds gs before) (hL : laidMetH Tryd.prog Rows.canonSameRow.laid W) :
    Calls Tryd.prog 4 args W fun e W' => ∃ v, e = .returned v ∧ Rows.canonSameSpec.post enc Tryd.prog Go.Proofs.Tryd.f4 false true false false W args v W' := by
  have hval : ∀ (j : Nat) t v, (Go.Proofs.Tryd.f4).params[j]? = some t → args[j]? = some v → Value.okWide Tryd.prog W .any base t v := hval0
  have hW2 := hW
  obtain ⟨p, q, hA0, hV, _, _, _⟩ := hW
  have hA : DataW.TrodAll enc Tryd.prog W 0 (fun _ => true) true (Go.Proofs.Tryd.f4).params.toList args.toList ds p := hA0
  rw [Tryd.params4] at hA hval
  clear hA0 hval0
  obtain ⟨rfl, _⟩ := trodVars_none hV
  obtain ⟨v0, vs0, d0, ds0, p0, q0, hargs, rfl, _, h0, r0⟩ := trodAll_cons hA
  obtain ⟨v1, vs1, d1, ds1, p1, q1, rfl, rfl, _, h1, r1⟩ := trodAll_cons r0
  obtain ⟨v2, vs2, d2, ds2, p2, q2, rfl, rfl, _, h2, r2⟩ := trodAll_cons r1
  obtain ⟨v3, vs3, d3, ds3, p3, q3, rfl, rfl, _, h3, r3⟩ := trodAll_cons r2
  obtain ⟨rfl, rfl, _⟩ := trodAll_nil r3
  obtain rfl : args = #[v0, v1, v2, v3] := by cases args; simp_all
  obtain ⟨N, L, ra0, oN0, oL0⟩ := arg_th (hval 0 _ v0 rfl rfl) h0
  obtain ⟨M, K, ra1, oN1, oL1⟩ := arg_th (hval 1 _ v1 rfl rfl) h1
  obtain ⟨n, ra2, l2, u2⟩ := arg_u8 (hval 2 _ v2 rfl rfl) h2
  obtain ⟨m, ra3, l3, u3⟩ := arg_u8 (hval 3 _ v3 rfl rfl) h3
  refine law_of_pure (glob_of_laid hL) (avs := [.agg [.v (.int .i64 N), aRows L], .agg [.v (.int .i64 M), aRows K], .v (.int .u8 n), .v (.int .u8 m)]) (by kernel_rfl) hW2 rfl (rec_ok (by kernel_rfl)) (tb := 4) rfl Tryd.underlying4 rfl rfl rfl rfl (fun i hi => ?_) (canonSame_p N L M K n m oN0 oL0 oN1 oL1 l2 u2 l3 u3)
  match i, hi with
  | 0, _ => exact ra0
  | 1, _ => exact ra1
  | 2, _ => exact ra2
  | 3, _ => exact ra3
theorem laid_met (os : Os) : laidMet Tryd.prog Rows.canonSameRow.laid ((laidWorld os).forCall (fun _ _ => 0) ⟨#[], #[.agg #[.int .i64 0, .slice none 0 0], .agg #[.int .i64 0, .slice none 0 0], .int .u8 0, .int .u8 0], []⟩).memory :=
  laidMet_of_run' 8 (by kernel_rfl) (by kernel_rfl)
theorem lifted (os : Os) (started : os.Started) (H : Type) (enc : TypeId × Value → H) (F : Stop.Interp) :
    ReturnsInHanded {} Tryd.checked os 4 .any ((OpenSpec.ofChange Rows.canonSameSpec).preRow enc Tryd.prog Go.Proofs.Tryd.f4 Rows.canonSameRow.domain false Rows.canonSameRow.laid) (((OpenSpec.ofChange Rows.canonSameSpec).at F).post enc Tryd.prog Go.Proofs.Tryd.f4 false true false false) := by
  refine returnsInHanded_of_row (C := Tryd.checked) (s := OpenSpec.ofChange Rows.canonSameSpec) (by kernel_rfl) started (by kernel_rfl) Tryd.func4
    (witness_row_at (enc := enc) (C := Tryd.checked) false (laidWorld os) #[.agg #[.int .i64 0, .slice none 0 0], .agg #[.int .i64 0, .slice none 0 0], .int .u8 0, .int .u8 0] rfl (by kernel_rfl) (by kernel_rfl) (by kernel_rfl)
      (OpenSpec.preRow_of_cond 8 (show DataW.whole enc Tryd.prog ((laidWorld os).forCall (fun _ _ => 0) ⟨#[], #[.agg #[.int .i64 0, .slice none 0 0], .agg #[.int .i64 0, .slice none 0 0], .int .u8 0, .int .u8 0], []⟩).memory (Go.Proofs.Tryd.f4).params.toList Rows.canonSameSpec.vars false (#[.agg #[.int .i64 0, .slice none 0 0], .agg #[.int .i64 0, .slice none 0 0], .int .u8 0, .int .u8 0] : Array Value).toList 8 = some ([.agg [.lit (.int .i64 0), .nil], .agg [.lit (.int .i64 0), .nil], .lit (.int .u8 0), .lit (.int .u8 0)], [], []) by kernel_rfl) (by kernel_rfl) (fun k hk => by cases hk) (by kernel_rfl) (laid_met os))) ?_
  intro W base args ds gs before hval hW _ _ _ hL _ _
  exact contract H enc W base args ds gs before hval hW hL
theorem said : Rows.CanonSameSaid :=
  OpenClaim.holds_of_cond 4 Go.Proofs.Tryd.f4 rfl rfl rfl rfl rfl rfl rfl ⟨rfl, rfl, rfl, rfl, rfl⟩ rfl rfl rfl rfl rfl (by kernel_rfl) Tryd.func4 (by kernel_rfl)
    (of_decide_eq_true (by kernel_rfl)) (by unfold Func.isWrapper; first | (rw [if_pos (by decide +kernel)]; kernel_rfl) | (rw [if_neg (by decide +kernel)]; exact ⟨rfl, rfl⟩))
    (fun os started H enc _ F => by rw [OpenClaim.pre_eq_preRow]; exact lifted os started H enc F)
theorem plain (f : FuncId) (fn : Func) (hf : Tryd.pinned.checked.prog.funcNamed "census/censuslaw17.CanonSame" = some f) (hfn : Tryd.pinned.checked.prog.funcs[f]? = some fn) :
    false = Tryd.pinned.checked.prog.looks [] ∧ ∀ (j : Nat) t, fn.params[j]? = some t → Tryd.pinned.checked.prog.wantsStandIn t = false := by
  obtain rfl : f = 4 := Option.some.inj ((show Tryd.prog.funcNamed "census/censuslaw17.CanonSame" = some 4 by kernel_rfl).symm.trans hf) |>.symm
  obtain rfl : fn = Go.Proofs.Tryd.f4 := (Option.some.inj (Tryd.func4.symm.trans hfn)).symm
  refine ⟨by kernel_rfl, fun j t ht => ?_⟩
  rw [Tryd.params4] at ht
  have hall : (Tryd.checked.prog.funcs[4]?).all (fun g => g.params.toList.all fun t => !(Tryd.checked.prog.wantsStandIn t)) = true := by kernel_rfl
  rw [show Tryd.checked.prog.funcs[4]? = some Go.Proofs.Tryd.f4 from Tryd.func4] at hall
  have h2 : ∀ t ∈ (Go.Proofs.Tryd.f4).params.toList, (!(Tryd.checked.prog.wantsStandIn t)) = true := List.all_eq_true.1 hall
  have hm : t ∈ (Go.Proofs.Tryd.f4).params.toList := by rw [Tryd.params4]; exact Array.mem_toList_iff.2 (Array.mem_of_getElem? ht)
  have h3 : Tryd.checked.prog.wantsStandIn t = false := by simpa using h2 t hm
  exact h3
theorem proved : Rows.CanonSameCardSaid :=
  Claim7.holds_tied_plain_at .later [] _ _ _ _ said (fun _ h => by cases h) (by kernel_rfl) (fun _ h => by cases h) canonSame_row_tie rfl ⟨rfl, rfl⟩ (by kernel_rfl) rfl plain (by kernel_rfl)
end canonSame
end Go.Proofs.YtafikekndefjcaaDoor
