/- The reference's Same, on literals and on reasons; no condition. -/
import Derived.Test.YtecdhmiamlgibaaDoorPs39
import Derived.Test.YtecdhmiamlgibaaDoorWa
namespace Go.Proofs.YtecdhmiamlgibaaDoor
set_option linter.unusedVariables false
set_option linter.unusedSimpArgs false
set_option linter.unusedSectionVars false
open Go.RowKit
attribute [local simp] List.getD_cons_zero List.getD_cons_succ List.getD_nil undef gvars runL runE effA stepA dstOk wantA core lk st dl AS.ev AS.evs AS.put AS.upd updO updI nxt cPick cAlloc cBox cBuild cBuildS cLoad cStore cNil plainOf cBin cNilS isNilS nilA cUn cConvX cConvB cConv bytesOf rowB cMake cSlice slA idxA cFA cF cIA cIX cIS cI cExt cLen cApp cMM cFun cCall lenA lenM isNilM nilM cNilM cMakeM hintB cMapK cLook foundR lookR cUpd putM cDel delM findA isKeyB Instr.sameNow AS.entry AS.bound AS.callee sc1 sc2 ixOk ldA AV.flat AV.cell AV.cells Value.oneCell' fillA spl chunk zeros AS.parts AS.rows AS.shut AS.shut1 AS.shut2 AS.shutL AS.shutM AV.ids idsL idsLL eqAll bndA AV.scalar AV.scalar1 AV.isV Ef.app Ef.pk ptOf pntO wrO wr
attribute [-simp] List.getD_eq_getElem?_getD
set_option maxRecDepth 100000
theorem ext_getD0 {xs ys : List Int} (hl : xs.length = ys.length) (h : ∀ j, j < xs.length → xs.getD j 0 = ys.getD j 0) : xs = ys := by
  apply List.ext_getElem hl
  intro i h1 h2
  have := h i h1
  rwa [List.getD_eq_getElem?_getD, List.getD_eq_getElem?_getD, List.getElem?_eq_getElem h1, List.getElem?_eq_getElem h2] at this
theorem r3Same_p (xs ys : List Int) (h : okInts xs = true) (h2 : okInts ys = true) : FnPure Tryd.prog 19 [aInts xs, aInts ys] (.v (.bool (decide (xs = ys)))) := by
  have hl := okInts_len h
  have hl2 := okInts_len h2
  by_cases hlen : xs.length = ys.length
  · have hw : (decide (ys.length = ys.length)) = true := decide_eq_true rfl
    refine fn_sp TT_ok Tryd.func19 (c := _) rfl (by simp [Tryd.ntmps19]) (fun B hI0 hro => ?_)
    rw [Tryd.ntmps19]
    simp only [enumA]
    refine amGo PT155_ok (h := ?_)
    refine s_loop (J := fun i : {k : Nat // k ≤ xs.length ∧ Hid (∀ j, j < k → xs.getD j 0 = ys.getD j 0)} => ⟨26, [(0, aInts xs), (1, aInts ys), (5, .v (.int .i64 (i.1 : Int)))], [], []⟩) (μ := fun i => xs.length - i.1) ⟨0, Nat.zero_le _, Lib.hid fun j hj => by omega⟩ ?_ (fun ⟨k, hk, HIN⟩ => ?_)
    · (refine weak_id rfl ?_ ?_ <;> ((try simp only [List.mem_cons, List.not_mem_nil, or_false, forall_eq_or_imp, forall_eq]); (try simp (disch := omega) [i64w, *])))
    refine amStr (h := ?_)
    refine amReg PT155_ok (h := ?_)
    refine amStr (h := ?_)
    (focus ((with_reducible refine sp_cond (b := ?_) ?_ (fun hc => ?_) (fun hc => ?_)); rotate_left; (focus (first | rfl | (simp [lk, AS.ev]; rfl))); all_goals (try simp at hc)))
    · have hkk : k < xs.length := by omega
      clear hc
      have hky : k < ys.length := by omega
      by_cases he : xs.getD k 0 = ys.getD k 0
      · have hpre : ∀ j, j < k + 1 → xs.getD j 0 = ys.getD j 0 := fun j hj => by
          by_cases e : j = k
          · rw [e]; exact he
          · exact HIN.out j (by omega)
        have HP := Lib.hid hpre
        clear hpre
        have hne : (xs.getD k 0 != ys.getD k 0) = false := by rw [he]; simp
        refine amGo PT155_ok (h := ?_)
        refine k_lp (⟨k + 1, by omega, HP⟩ : {k : Nat // k ≤ xs.length ∧ Hid (∀ j, j < k → xs.getD j 0 = ys.getD j 0)}) (by first | omega | (dsimp only; omega)) ?_
        (refine weak_id rfl ?_ ?_ <;> ((try simp only [List.mem_cons, List.not_mem_nil, or_false, forall_eq_or_imp, forall_eq]); (try simp (disch := omega) [i64w, *])))
      · have hne : (xs.getD k 0 != ys.getD k 0) = true := by rw [bne_iff_ne]; exact he
        have hd : decide (xs = ys) = false := decide_eq_false fun e => he (by rw [e])
        clear he
        rw [hd]
        refine amGo PT155_ok (h := ?_)
        ((refine post_ret (av := ?_) (by first | exact .inl rfl | exact .inr rfl) (show (Tryd.f19).results.toList = _ from by rw [Tryd.results19]) ?_ ?_); rotate_left; (focus (simp [retA, retL, ret1, lk, st, ldA, AV.cell]; rfl)); (try simp [*]))
    · have hkk : k = xs.length := by omega
      have hd : decide (xs = ys) = true := decide_eq_true (ext_getD0 hlen fun j hj => HIN.out j (by omega))
      rw [hd]
      refine amGo PT155_ok (h := ?_)
      ((refine post_ret (av := ?_) (by first | exact .inl rfl | exact .inr rfl) (show (Tryd.f19).results.toList = _ from by rw [Tryd.results19]) ?_ ?_); rotate_left; (focus (simp [retA, retL, ret1, lk, st, ldA, AV.cell]; rfl)); (try simp [*]))
  · have hd : decide (xs = ys) = false := decide_eq_false fun e => hlen (by rw [e])
    rw [hd]
    have hne : ((xs.length : Int) != (ys.length : Int)) = true := by rw [bne_iff_ne]; omega
    refine fn_sp TT_ok Tryd.func19 (c := _) rfl (by simp [Tryd.ntmps19]) (fun B hI0 hro => ?_)
    rw [Tryd.ntmps19]
    simp only [enumA]
    refine amGo PT155_ok (h := ?_)
    ((refine post_ret (av := ?_) (by first | exact .inl rfl | exact .inr rfl) (show (Tryd.f19).results.toList = _ from by rw [Tryd.results19]) ?_ ?_); rotate_left; (focus (simp [retA, retL, ret1, lk, st, ldA, AV.cell]; rfl)); (try simp [*]))
@[simp] def g_r3Same : List AV → Option (AV × Bool)
  | [a0, a1] => (match toInts a0 with | some xs => (match toInts a1 with | some ys => if (okInts xs && okInts ys) = true then some (.v (.bool (decide (xs = ys))), false) else none | none => none) | none => none)
  | _ => none
theorem e_r3Same : EntOk Tryd.prog 19 g_r3Same := ent_pure (by kernel_rfl) fun args r fr h => by
  unfold g_r3Same at h
  split at h
  · rename_i a0 a1
    split at h
    · rename_i xs t0
      split at h
      · rename_i ys t1
        split at h
        · rename_i hc
          simp only [Bool.and_eq_true] at hc
          obtain ⟨o0, o1⟩ := hc
          cases h
          exact ⟨FnPure.cov (r3Same_p xs ys o0 o1) (.cons (cov_ints t0) (.cons (cov_ints t1) .nil)), rfl⟩
        · cases h
      · cases h
    · cases h
  · cases h

def l156 : List (FuncId × (List AV → Option (AV × Bool))) :=
  (19, g_r3Same) :: l155
theorem l156_ok : ∀ p ∈ l156, EntOk Tryd.prog p.1 p.2 := ent_cons e_r3Same (l155_ok)
def PT156 : PTab := tab l156
theorem PT156_ok : PTok Tryd.prog PT156 := tab_ok l156_ok
@[simp] theorem PT156_litVar : PT156 85 = g_litVar := rfl
@[simp] theorem PT156_litValid : PT156 110 = g_litValid := rfl
@[simp] theorem PT156_with : PT156 26 = g_with := rfl
@[simp] theorem PT156_without : PT156 25 = g_without := rfl
@[simp] theorem PT156_all : PT156 29 = g_all := rfl
@[simp] theorem PT156_place : PT156 54 = g_place := rfl
@[simp] theorem PT156_vHas : PT156 36 = g_vHas := rfl
@[simp] theorem PT156_vMinus : PT156 31 = g_vMinus := rfl
@[simp] theorem PT156_vCut : PT156 22 = g_vCut := rfl
@[simp] theorem PT156_vUnion : PT156 21 = g_vUnion := rfl
@[simp] theorem PT156_vSub : PT156 72 = g_vSub := rfl
@[simp] theorem PT156_litHolds : PT156 56 = g_litHolds := rfl
@[simp] theorem PT156_nFormed : PT156 84 = g_nFormed := rfl
@[simp] theorem PT156_nCheck : PT156 55 = g_nCheck := rfl
@[simp] theorem PT156_r4Var : PT156 97 = g_r4Var := rfl
@[simp] theorem PT156_r4Valid : PT156 96 = g_r4Valid := rfl
@[simp] theorem PT156_rFormed : PT156 69 = g_rFormed := rfl
@[simp] theorem PT156_rValid20 : PT156 40 = g_rValid20 := rfl
@[simp] theorem PT156_r3Has : PT156 83 = g_r3Has := rfl
@[simp] theorem PT156_r3List : PT156 70 = g_r3List := rfl
@[simp] theorem PT156_r3Len : PT156 41 = g_r3Len := rfl
@[simp] theorem PT156_light39 : PT156 39 = g_light39 := rfl
@[simp] theorem PT156_r20Vars : PT156 71 = g_r20Vars := rfl
@[simp] theorem PT156_r39Mat : PT156 42 = g_r39Mat := rfl
@[simp] theorem PT156_few39 : PT156 12 = g_few39 := rfl
@[simp] theorem PT156_vOf : PT156 23 = g_vOf := rfl
@[simp] theorem PT156_nVars : PT156 91 = g_nVars := rfl
@[simp] theorem PT156_tIndex : PT156 53 = g_tIndex := rfl
@[simp] theorem PT156_tTerm : PT156 45 = g_tTerm := rfl
@[simp] theorem PT156_tChg : PT156 44 = g_tChg := rfl
@[simp] theorem PT156_vList : PT156 92 = g_vList := rfl
@[simp] theorem PT156_tTabled : PT156 62 = g_tTabled := rfl
@[simp] theorem PT156_tOpen : PT156 43 = g_tOpen := rfl
@[simp] theorem PT156_tBiased : PT156 20 = g_tBiased := rfl
@[simp] theorem PT156_works39 : PT156 13 = g_works39 := rfl
@[simp] theorem PT156_tReasons : PT156 14 = g_tReasons := rfl
@[simp] theorem PT156_tNecess : PT156 16 = g_tNecess := rfl
@[simp] theorem PT156_nEval : PT156 27 = g_nEval := rfl
@[simp] theorem PT156_tPositive : PT156 24 = g_tPositive := rfl
@[simp] theorem PT156_tWithin : PT156 28 = g_tWithin := rfl
@[simp] theorem PT156_tHolds : PT156 30 = g_tHolds := rfl
@[simp] theorem PT156_r3Same : PT156 19 = g_r3Same := rfl
end Go.Proofs.YtecdhmiamlgibaaDoor
