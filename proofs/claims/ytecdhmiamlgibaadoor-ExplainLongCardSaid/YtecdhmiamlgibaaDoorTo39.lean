/- term, what it returns as an object; no condition. -/
import Derived.Test.YtecdhmiamlgibaaDoorRf39
import Derived.Test.YtecdhmiamlgibaaDoorWa
namespace Go.Proofs.YtecdhmiamlgibaaDoor
set_option linter.unusedVariables false
set_option linter.unusedSimpArgs false
set_option linter.unusedSectionVars false
open Go.RowKit
attribute [local simp] List.getD_cons_zero List.getD_cons_succ List.getD_nil undef gvars runL runE effA stepA dstOk wantA core lk st dl AS.ev AS.evs AS.put AS.upd updO updI nxt cPick cAlloc cBox cBuild cBuildS cLoad cStore cNil plainOf cBin cNilS isNilS nilA cUn cConvX cConvB cConv bytesOf rowB cMake cSlice slA idxA cFA cF cIA cIX cIS cI cExt cLen cApp cMM cFun cCall lenA lenM isNilM nilM cNilM cMakeM hintB cMapK cLook foundR lookR cUpd putM cDel delM findA isKeyB Instr.sameNow AS.entry AS.bound AS.callee sc1 sc2 ixOk ldA AV.flat AV.cell AV.cells Value.oneCell' fillA spl chunk zeros AS.parts AS.rows AS.shut AS.shut1 AS.shut2 AS.shutL AS.shutM AV.ids idsL idsLL eqAll bndA AV.scalar AV.scalar1 AV.isV Ef.app Ef.pk ptOf pntO wrO wr
attribute [-simp] List.getD_eq_getElem?_getD
set_option maxRecDepth 100000
theorem term_obj (N : Int) (vs : List Int) (on : List Bool) (x P : Nat) (h : okV vs = true) (hx : x ≤ 65535) (hP : P ≤ 65535) : FnObj Tryd.prog 45 [aTab N vs on, .v (.int .i64 (x : Int)), .v (.int .i64 (P : Int))] (.ref 0 0 (termL vs x P).length) [(0, ⟨3, 1, (termL vs x P).map fun x => [.v (.int .i64 x)]⟩)] [0] := by
  obtain ⟨hvs, hl⟩ := okV_vs h
  unfold aTab
  refine fn_obj TT_ok Tryd.func45 (c := _) rfl (by simp [Tryd.ntmps45]) ⟨fun k hk => by simpa [AV.ids, idsL] using hk, fun k ob hk => ?_⟩ (fun B hI0 hro => ?_)
  · simp only [lk] at hk
    split at hk
    · rename_i e
      cases hk
      exact ⟨by simp [← e], fun q hq => by rw [show idsLL ((termL vs x P).map fun x => [AV.v (.int .i64 x)]) = [] from ids_ints _] at hq; cases hq⟩
    · cases hk
  rw [Tryd.ntmps45]
  simp only [enumA]
  refine amStr (h := ?_)
  refine amReg PT158_ok (h := ?_)
  refine amStr (h := ?_)
  refine amReg PT158_ok (h := ?_)
  refine amStr (h := ?_)
  refine amReg PT158_ok (h := ?_)
  refine amStr (h := ?_)
  refine s_nil 7 50 3 1 (by simp [lk]) (by simp) ?_
  simp only [st]
  refine s_loop (J := fun i : {k : Nat // k ≤ vs.length} => ⟨45, [(1, .v (.int .i64 (x : Int))), (2, .v (.int .i64 (P : Int))), (7, .ref 50 0 (termL (vs.take i.1) x P).length), (13, aInts vs), (14, .v (.int .i64 (vs.length : Int))), (15, .v (.int .i64 (i.1 : Int)))], [(50, ⟨3, 1, (termL (vs.take i.1) x P).map fun x => [.v (.int .i64 x)]⟩)], [50]⟩) (μ := fun i => vs.length - i.1) ⟨0, Nat.zero_le _⟩ ?_ (fun ⟨k, hk⟩ => ?_)
  · have h0 : termL [] x P = [] := rfl
    (refine weak_id rfl ?_ ?_ <;> ((try simp only [List.mem_cons, List.not_mem_nil, or_false, forall_eq_or_imp, forall_eq]); (try simp (disch := omega) [i64w, *])))
  refine amStr (h := ?_)
  refine amReg PT158_ok (h := ?_)
  refine amStr (h := ?_)
  (focus ((with_reducible refine sp_cond (b := ?_) ?_ (fun hc => ?_) (fun hc => ?_)); rotate_left; (focus (first | rfl | (simp [lk, AS.ev]; rfl))); all_goals (try simp at hc)))
  · have hkk := hc
    clear hc
    have hv := okV_at h hkk
    have ho : okI (vs.getD k 0) = true := okI_iff.2 ⟨by omega, by omega⟩
    have hs := termL_take x P hkk
    have hlen := termL_len (vs.take k) x P
    rw [List.length_take, Nat.min_eq_left hk] at hlen
    have hwk : IntKind.u64.wrap (k : Int) = (k : Int) := u64w (by omega) (by omega)
    have hk0 : ¬ ((k : Int) < 0) := by omega
    have hmin : min k IntKind.i64.bits = k := by rw [bits_i64]; omega
    have f1 := fdiv_pow P k
    have f2 := fdiv_pow x k
    simp only [bit_div, decide_eq_true_eq] at hs
    have q1 : P / 2 ^ k ≤ P := Nat.div_le_self _ _
    have q2 : x / 2 ^ k ≤ x := Nat.div_le_self _ _
    obtain ⟨Q, hQ⟩ : ∃ Q, P / 2 ^ k = Q := ⟨_, rfl⟩
    obtain ⟨Y, hY⟩ : ∃ Y, x / 2 ^ k = Y := ⟨_, rfl⟩
    rw [hQ] at f1 hs q1
    rw [hY] at f2 hs q2
    have g1 := bit_and Q (by omega)
    have g2 := bit_and Y (by omega)
    obtain ⟨T, hT⟩ : ∃ T, termL (vs.take k) x P = T := ⟨_, rfl⟩
    rw [hT] at hs hlen
    rw [hT]
    clear hQ hY hT
    have hcap : (T.length + 1) * 8 ≤ 140737488355328 := by omega
    have hwn : IntKind.i64.wrap (-vs.getD k 0) = -vs.getD k 0 := i64w (by omega) (by omega)
    rcases (by omega : Q % 2 = 0 ∨ Q % 2 = 1) with hq | hq
    · rw [if_neg (by omega)] at hs
      refine amGo PT158_ok (h := ?_)
      refine k_lp (⟨k + 1, by omega⟩ : {k : Nat // k ≤ vs.length}) (by first | omega | (dsimp only; omega)) ?_
      (refine weak_id rfl ?_ ?_ <;> ((try simp only [List.mem_cons, List.not_mem_nil, or_false, forall_eq_or_imp, forall_eq]); (try simp (disch := omega) [i64w, *])))
    · rw [if_pos hq] at hs
      rcases (by omega : Y % 2 = 0 ∨ Y % 2 = 1) with hy | hy
      · rw [if_neg (by omega)] at hs
        refine amGo PT158_ok (h := ?_)
        refine k_lp (⟨k + 1, by omega⟩ : {k : Nat // k ≤ vs.length}) (by first | omega | (dsimp only; omega)) ?_
        (refine weak_of (fun q => if q = 50 then 55 else q) ⟨rfl, ?_, ?_, ?_⟩ <;> ((try simp only [List.mem_cons, List.not_mem_nil, or_false, forall_eq_or_imp, forall_eq]); (try simp (disch := omega) [lk, AV.ids, idsL, idsLL, AV.ren, renL, renLL, i64w, *])))
      · rw [if_pos hy] at hs
        refine amGo PT158_ok (h := ?_)
        refine k_lp (⟨k + 1, by omega⟩ : {k : Nat // k ≤ vs.length}) (by first | omega | (dsimp only; omega)) ?_
        (refine weak_of (fun q => if q = 50 then 54 else q) ⟨rfl, ?_, ?_, ?_⟩ <;> ((try simp only [List.mem_cons, List.not_mem_nil, or_false, forall_eq_or_imp, forall_eq]); (try simp (disch := omega) [lk, AV.ids, idsL, idsLL, AV.ren, renL, renLL, i64w, *])))
  · obtain rfl : k = vs.length := by omega
    have e : vs.take vs.length = vs := List.take_length
    rw [e]
    refine amGo PT158_ok (h := ?_)
    refine post_obj (av := .ref 50 0 (termL vs x P).length) (.inr rfl) (by rw [Tryd.results45]) ?_ (fun _ => 50) rfl (fun k ob hk => ?_) (fun k ob k' ob' hk hk' _ => ?_)
    · simp [retA, retL, ret1, lk]
    · simp only [lk] at hk
      split at hk
      · cases hk
        simp [lk]
      · cases hk
    · simp only [lk] at hk hk'
      split at hk
      · split at hk'
        · omega
        · cases hk'
      · cases hk
theorem negB_p (x : Int) (h : okI x = true) : FnPure Tryd.prog 65 [.v (.int .i64 x)] (.v (.bool (decide (x < 0)))) := by
  refine fn_sp TT_ok Tryd.func65 (c := _) rfl (by simp [Tryd.ntmps65]) (fun B hI0 hro => ?_)
  rw [Tryd.ntmps65]
  simp only [enumA]
  refine amGo PT158_ok (h := ?_)
  ((refine post_ret (av := ?_) (by first | exact .inl rfl | exact .inr rfl) (show (Tryd.f65).results.toList = _ from by rw [Tryd.results65]) ?_ ?_); rotate_left; (focus (simp [retA, retL, ret1, lk, st, ldA, AV.cell]; rfl)); (try simp [*]))
@[simp] def g_negB : List AV → Option (AV × Bool)
  | [.v (.int .i64 x)] => if (okI x) = true then some (.v (.bool (decide (x < 0))), false) else none
  | _ => none
theorem e_negB : EntOk Tryd.prog 65 g_negB := ent_pure (by kernel_rfl) fun args r fr h => by
  unfold g_negB at h
  split at h
  · rename_i x
    split at h
    · rename_i hc
      have o0 := hc
      cases h
      exact ⟨FnPure.cov (negB_p x o0) (.cons (Cov.refl _) .nil), rfl⟩
    · cases h
  · cases h

def l159 : List (FuncId × (List AV → Option (AV × Bool))) :=
  (65, g_negB) :: l158
theorem l159_ok : ∀ p ∈ l159, EntOk Tryd.prog p.1 p.2 := ent_cons e_negB (l158_ok)
def PT159 : PTab := tab l159
theorem PT159_ok : PTok Tryd.prog PT159 := tab_ok l159_ok
@[simp] theorem PT159_litVar : PT159 85 = g_litVar := rfl
@[simp] theorem PT159_litValid : PT159 110 = g_litValid := rfl
@[simp] theorem PT159_with : PT159 26 = g_with := rfl
@[simp] theorem PT159_without : PT159 25 = g_without := rfl
@[simp] theorem PT159_all : PT159 29 = g_all := rfl
@[simp] theorem PT159_place : PT159 54 = g_place := rfl
@[simp] theorem PT159_vHas : PT159 36 = g_vHas := rfl
@[simp] theorem PT159_vMinus : PT159 31 = g_vMinus := rfl
@[simp] theorem PT159_vCut : PT159 22 = g_vCut := rfl
@[simp] theorem PT159_vUnion : PT159 21 = g_vUnion := rfl
@[simp] theorem PT159_vSub : PT159 72 = g_vSub := rfl
@[simp] theorem PT159_litHolds : PT159 56 = g_litHolds := rfl
@[simp] theorem PT159_nFormed : PT159 84 = g_nFormed := rfl
@[simp] theorem PT159_nCheck : PT159 55 = g_nCheck := rfl
@[simp] theorem PT159_r4Var : PT159 97 = g_r4Var := rfl
@[simp] theorem PT159_r4Valid : PT159 96 = g_r4Valid := rfl
@[simp] theorem PT159_rFormed : PT159 69 = g_rFormed := rfl
@[simp] theorem PT159_rValid20 : PT159 40 = g_rValid20 := rfl
@[simp] theorem PT159_r3Has : PT159 83 = g_r3Has := rfl
@[simp] theorem PT159_r3List : PT159 70 = g_r3List := rfl
@[simp] theorem PT159_r3Len : PT159 41 = g_r3Len := rfl
@[simp] theorem PT159_light39 : PT159 39 = g_light39 := rfl
@[simp] theorem PT159_r20Vars : PT159 71 = g_r20Vars := rfl
@[simp] theorem PT159_r39Mat : PT159 42 = g_r39Mat := rfl
@[simp] theorem PT159_few39 : PT159 12 = g_few39 := rfl
@[simp] theorem PT159_vOf : PT159 23 = g_vOf := rfl
@[simp] theorem PT159_nVars : PT159 91 = g_nVars := rfl
@[simp] theorem PT159_tIndex : PT159 53 = g_tIndex := rfl
@[simp] theorem PT159_tTerm : PT159 45 = g_tTerm := rfl
@[simp] theorem PT159_tChg : PT159 44 = g_tChg := rfl
@[simp] theorem PT159_vList : PT159 92 = g_vList := rfl
@[simp] theorem PT159_tTabled : PT159 62 = g_tTabled := rfl
@[simp] theorem PT159_tOpen : PT159 43 = g_tOpen := rfl
@[simp] theorem PT159_tBiased : PT159 20 = g_tBiased := rfl
@[simp] theorem PT159_works39 : PT159 13 = g_works39 := rfl
@[simp] theorem PT159_tReasons : PT159 14 = g_tReasons := rfl
@[simp] theorem PT159_tNecess : PT159 16 = g_tNecess := rfl
@[simp] theorem PT159_nEval : PT159 27 = g_nEval := rfl
@[simp] theorem PT159_tPositive : PT159 24 = g_tPositive := rfl
@[simp] theorem PT159_tWithin : PT159 28 = g_tWithin := rfl
@[simp] theorem PT159_tHolds : PT159 30 = g_tHolds := rfl
@[simp] theorem PT159_r3Same : PT159 19 = g_r3Same := rfl
@[simp] theorem PT159_revB : PT159 94 = g_revB := rfl
@[simp] theorem PT159_rev : PT159 63 = g_rev := rfl
@[simp] theorem PT159_negB : PT159 65 = g_negB := rfl
end Go.Proofs.YtecdhmiamlgibaaDoor
