/- Contracts of censusref22: in, variable, Same, Formed; no condition. -/
import Derived.Test.YthdjgcjpolpgdaaGd22
import Derived.Test.YthdjgcjpolpgdaaWa
namespace Go.Proofs.Ythdjgcjpolpgdaa
set_option linter.unusedVariables false
set_option linter.unusedSimpArgs false
set_option linter.unusedSectionVars false
open Go.RowKit
attribute [local simp] List.getD_cons_zero List.getD_cons_succ List.getD_nil undef gvars runL runE effA stepA dstOk wantA core lk st dl AS.ev AS.evs AS.put AS.upd updO updI nxt cPick cAlloc cBox cBuild cBuildS cLoad cStore cNil plainOf cBin cNilS isNilS nilA cUn cConvX cConvB cConv bytesOf rowB cMake cSlice slA idxA cFA cF cIA cIX cIS cI cExt cLen cApp cMM cFun cCall lenA lenM isNilM nilM cNilM cMakeM hintB cMapK cLook foundR lookR cUpd putM cDel delM findA isKeyB Instr.sameNow AS.entry AS.bound AS.callee sc1 sc2 ixOk ldA AV.flat AV.cell AV.cells Value.oneCell' fillA spl chunk zeros AS.parts AS.rows AS.shut AS.shut1 AS.shut2 AS.shutL AS.shutM AV.ids idsL idsLL eqAll bndA AV.scalar AV.scalar1 AV.isV Ef.app Ef.pk ptOf pntO wrO wr
attribute [-simp] List.getD_eq_getElem?_getD
set_option maxRecDepth 100000
theorem r2In_p (xs : List Int) (x : Int) (hx : okInts xs = true) : FnPure Try.prog 51 [aInts xs, .v (.int .i64 x)] (.v (.bool (decide (x ∈ xs)))) := by
  have hm := okInts_len hx
  refine fn_sp TT_ok Try.func51 (c := _) rfl (by simp [Try.ntmps51]) (fun B hI0 hro => ?_)
  rw [Try.ntmps51]
  simp only [enumA]
  refine amGo PT120_ok (h := ?_)
  refine s_loop (J := fun i : {k : Nat // k ≤ xs.length ∧ ∀ j, j < k → ¬ xs.getD j 0 = x} => ⟨18, [(0, aInts xs), (1, .v (.int .i64 x)), (5, .v (.int .i64 (i.1 : Int)))], [], []⟩) (μ := fun i => xs.length - i.1) ⟨0, Nat.zero_le _, fun j hj => by omega⟩ ?_ (fun ⟨k, hk, he⟩ => ?_)
  · (refine weak_id rfl ?_ ?_ <;> ((try simp only [List.mem_cons, List.not_mem_nil, or_false, forall_eq_or_imp, forall_eq]); (try simp (disch := omega) [i64w, *])))
  refine amGo PT120_ok (h := ?_)
  (focus ((with_reducible refine sp_cond (b := ?_) ?_ (fun hc => ?_) (fun hc => ?_)); rotate_left; (focus (first | rfl | (simp [lk, AS.ev]; rfl))); all_goals (try simp at hc)))
  · refine amGo PT120_ok (h := ?_)
    (focus ((with_reducible refine sp_cond (b := ?_) ?_ (fun hc => ?_) (fun hc => ?_)); rotate_left; (focus (first | rfl | (simp [lk, AS.ev]; rfl))); all_goals (try simp at hc)))
    · have hin := mem_of_getD (by assumption) hc
      refine amGo PT120_ok (h := ?_)
      ((refine post_ret (av := ?_) (by first | exact .inl rfl | exact .inr rfl) (show (Try.f51).results.toList = _ from by rw [Try.results51]) ?_ ?_); rotate_left; (focus (simp [retA, retL, ret1, lk, st, ldA, AV.cell]; rfl)); (try simp [*]))
    · refine amGo PT120_ok (h := ?_)
      refine k_lp (⟨k + 1, by omega, fun j hj => ?_⟩ : {k : Nat // k ≤ xs.length ∧ ∀ j, j < k → ¬ xs.getD j 0 = x}) (by dsimp only; omega) ?_
      · by_cases e : j < k
        · exact he j e
        · obtain rfl : j = k := by omega
          exact hc
      · (refine weak_id rfl ?_ ?_ <;> ((try simp only [List.mem_cons, List.not_mem_nil, or_false, forall_eq_or_imp, forall_eq]); (try simp (disch := omega) [i64w, *])))
  · have hno := not_mem_of_getD (x := x) (xs := xs) (fun j hj => he j (by omega))
    refine amGo PT120_ok (h := ?_)
    ((refine post_ret (av := ?_) (by first | exact .inl rfl | exact .inr rfl) (show (Try.f51).results.toList = _ from by rw [Try.results51]) ?_ ?_); rotate_left; (focus (simp [retA, retL, ret1, lk, st, ldA, AV.cell]; rfl)); (try simp [*]))

theorem r2Same_p (xs ys : List Int) (hx : okInts xs = true) (hy : okInts ys = true) : FnPure Try.prog 23 [aInts xs, aInts ys] (.v (.bool (decide (xs = ys)))) := by
  by_cases hl : xs.length = ys.length
  · have hm := okInts_len hx
    refine fn_sp TT_ok Try.func23 (c := _) rfl (by simp [Try.ntmps23]) (fun B hI0 hro => ?_)
    rw [Try.ntmps23]
    simp only [enumA]
    refine amGo PT120_ok (h := ?_)
    refine s_loop (J := fun i : {k : Nat // k ≤ xs.length ∧ ∀ j, j < k → xs.getD j 0 = ys.getD j 0} => ⟨26, [(0, aInts xs), (1, aInts ys), (5, .v (.int .i64 (i.1 : Int)))], [], []⟩) (μ := fun i => xs.length - i.1) ⟨0, Nat.zero_le _, fun j hj => by omega⟩ ?_ (fun ⟨k, hk, he⟩ => ?_)
    · (refine weak_id rfl ?_ ?_ <;> ((try simp only [List.mem_cons, List.not_mem_nil, or_false, forall_eq_or_imp, forall_eq]); (try simp (disch := omega) [i64w, *])))
    refine amGo PT120_ok (h := ?_)
    (focus ((with_reducible refine sp_cond (b := ?_) ?_ (fun hc => ?_) (fun hc => ?_)); rotate_left; (focus (first | rfl | (simp [lk, AS.ev]; rfl))); all_goals (try simp at hc)))
    · have hk2 : k < ys.length := by omega
      refine amGo PT120_ok (h := ?_)
      (focus ((with_reducible refine sp_cond (b := ?_) ?_ (fun hc => ?_) (fun hc => ?_)); rotate_left; (focus (first | rfl | (simp [lk, AS.ev]; rfl))); all_goals (try simp at hc)))
      · have hne : xs ≠ ys := fun e => hc (by rw [e])
        refine amGo PT120_ok (h := ?_)
        ((refine post_ret (av := ?_) (by first | exact .inl rfl | exact .inr rfl) (show (Try.f23).results.toList = _ from by rw [Try.results23]) ?_ ?_); rotate_left; (focus (simp [retA, retL, ret1, lk, st, ldA, AV.cell]; rfl)); (try simp [*]))
      · refine amGo PT120_ok (h := ?_)
        refine k_lp (⟨k + 1, by omega, fun j hj => ?_⟩ : {k : Nat // k ≤ xs.length ∧ ∀ j, j < k → xs.getD j 0 = ys.getD j 0}) (by dsimp only; omega) ?_
        · by_cases e : j < k
          · exact he j e
          · obtain rfl : j = k := by omega
            exact Decidable.not_not.1 (by simpa using hc)
        · (refine weak_id rfl ?_ ?_ <;> ((try simp only [List.mem_cons, List.not_mem_nil, or_false, forall_eq_or_imp, forall_eq]); (try simp (disch := omega) [i64w, *])))
    · refine amGo PT120_ok (h := ?_)
      ((refine post_ret (av := ?_) (by first | exact .inl rfl | exact .inr rfl) (show (Try.f23).results.toList = _ from by rw [Try.results23]) ?_ ?_); rotate_left; (focus (simp [retA, retL, ret1, lk, st, ldA, AV.cell]; rfl)); (try simp [*]))
      apply List.ext_getElem hl
      intro j h1 h2
      have := he j (by omega)
      simpa [List.getD, h1, h2] using this
  · have hl2 : ((xs.length : Int) != (ys.length : Int)) = true := by simp; omega
    have hne : xs ≠ ys := fun e => hl (by rw [e])
    refine fn_sp TT_ok Try.func23 (c := _) rfl (by simp [Try.ntmps23]) (fun B hI0 hro => ?_)
    rw [Try.ntmps23]
    simp only [enumA]
    refine amGo PT120_ok (h := ?_)
    ((refine post_ret (av := ?_) (by first | exact .inl rfl | exact .inr rfl) (show (Try.f23).results.toList = _ from by rw [Try.results23]) ?_ ?_); rotate_left; (focus (simp [retA, retL, ret1, lk, st, ldA, AV.cell]; rfl)); (try simp [*]))

theorem r2Var_p (x : Int) (hx : okS x = true) : FnPure Try.prog 72 [.v (.int .i64 x)] (.v (.int .i64 (absI x))) := by
  simp only [okS, Bool.and_eq_true, decide_eq_true_eq] at hx
  by_cases h : x < 0
  · have hw : IntKind.i64.wrap (-x) = -x := i64w (by omega) (by omega)
    refine fn_sp TT_ok Try.func72 (c := _) rfl (by simp [Try.ntmps72]) (fun B hI0 hro => ?_)
    rw [Try.ntmps72]
    simp only [enumA]
    refine amGo PT120_ok (h := ?_)
    ((refine post_ret (av := ?_) (by first | exact .inl rfl | exact .inr rfl) (show (Try.f72).results.toList = _ from by rw [Try.results72]) ?_ ?_); rotate_left; (focus (simp [retA, retL, ret1, lk, st, ldA, AV.cell]; rfl)); (try simp [*]))
    simp [absI, h]
  · refine fn_sp TT_ok Try.func72 (c := _) rfl (by simp [Try.ntmps72]) (fun B hI0 hro => ?_)
    rw [Try.ntmps72]
    simp only [enumA]
    refine amGo PT120_ok (h := ?_)
    ((refine post_ret (av := ?_) (by first | exact .inl rfl | exact .inr rfl) (show (Try.f72).results.toList = _ from by rw [Try.results72]) ?_ ?_); rotate_left; (focus (simp [retA, retL, ret1, lk, st, ldA, AV.cell]; rfl)); (try simp [*]))
    simp [absI, h]
@[simp] def g_r2In : List AV → Option (AV × Bool)
  | [a0, .v (.int .i64 x)] => (match toInts a0 with | some xs => if (okInts xs && okI x) = true then some (.v (.bool (decide (x ∈ xs))), false) else none | none => none)
  | _ => none
theorem e_r2In : EntOk Try.prog 51 g_r2In := ent_pure (by kernel_rfl) fun args r fr h => by
  unfold g_r2In at h
  split at h
  · rename_i a0 x
    split at h
    · rename_i xs t0
      split at h
      · rename_i hc
        simp only [Bool.and_eq_true] at hc
        obtain ⟨o0, o1⟩ := hc
        cases h
        exact ⟨FnPure.cov (r2In_p xs x o0) (.cons (cov_ints t0) (.cons (Cov.refl _) .nil)), rfl⟩
      · cases h
    · cases h
  · cases h

@[simp] def g_r2Same : List AV → Option (AV × Bool)
  | [a0, a1] => (match toInts a0 with | some xs => (match toInts a1 with | some ys => if (okInts xs && okInts ys) = true then some (.v (.bool (decide (xs = ys))), false) else none | none => none) | none => none)
  | _ => none
theorem e_r2Same : EntOk Try.prog 23 g_r2Same := ent_pure (by kernel_rfl) fun args r fr h => by
  unfold g_r2Same at h
  split at h
  · rename_i a0 a1
    split at h
    · rename_i xs t0
      split at h
      · rename_i ys t1
        split at h
        · rename_i hc
          simp only [Bool.and_eq_true] at hc
          obtain ⟨o0, o1⟩ := hc
          cases h
          exact ⟨FnPure.cov (r2Same_p xs ys o0 o1) (.cons (cov_ints t0) (.cons (cov_ints t1) .nil)), rfl⟩
        · cases h
      · cases h
    · cases h
  · cases h

@[simp] def g_r2Var : List AV → Option (AV × Bool)
  | [.v (.int .i64 x)] => if (okI x && okS x) = true then some (.v (.int .i64 (absI x)), false) else none
  | _ => none
theorem e_r2Var : EntOk Try.prog 72 g_r2Var := ent_pure (by kernel_rfl) fun args r fr h => by
  unfold g_r2Var at h
  split at h
  · rename_i x
    split at h
    · rename_i hc
      simp only [Bool.and_eq_true] at hc
      obtain ⟨o0, hk⟩ := hc
      cases h
      exact ⟨FnPure.cov (r2Var_p x hk) (.cons (Cov.refl _) .nil), rfl⟩
    · cases h
  · cases h

def l70 : List (FuncId × (List AV → Option (AV × Bool))) :=
  (51, g_r2In) :: (23, g_r2Same) :: (72, g_r2Var) :: l120
theorem l70_ok : ∀ p ∈ l70, EntOk Try.prog p.1 p.2 := ent_cons e_r2In (ent_cons e_r2Same (ent_cons e_r2Var (l120_ok)))
def PT70 : PTab := tab l70
theorem PT70_ok : PTok Try.prog PT70 := tab_ok l70_ok
@[simp] theorem PT70_litVar : PT70 32 = g_litVar := rfl
@[simp] theorem PT70_litValid : PT70 77 = g_litValid := rfl
@[simp] theorem PT70_contains : PT70 50 = g_contains := rfl
@[simp] theorem PT70_check : PT70 46 = g_check := rfl
@[simp] theorem PT70_with : PT70 33 = g_with := rfl
@[simp] theorem PT70_without : PT70 31 = g_without := rfl
@[simp] theorem PT70_all : PT70 30 = g_all := rfl
@[simp] theorem PT70_rValid : PT70 71 = g_rValid := rfl
@[simp] theorem PT70_rCheck : PT70 42 = g_rCheck := rfl
@[simp] theorem PT70_litvalid : PT70 85 = g_litvalid := rfl
@[simp] theorem PT70_opposite : PT70 87 = g_opposite := rfl
@[simp] theorem PT70_clone : PT70 99 = g_clone := rfl
@[simp] theorem PT70_order : PT70 86 = g_order := rfl
@[simp] theorem PT70_term : PT70 69 = g_term := rfl
@[simp] theorem PT70_clause : PT70 57 = g_clause := rfl
@[simp] theorem PT70_equal : PT70 61 = g_equal := rfl
@[simp] theorem PT70_distinct : PT70 60 = g_distinct := rfl
@[simp] theorem PT70_normal : PT70 27 = g_normal := rfl
@[simp] theorem PT70_rContains : PT70 74 = g_rContains := rfl
@[simp] theorem PT70_rSameInts : PT70 52 = g_rSameInts := rfl
@[simp] theorem PT70_rAbs : PT70 114 = g_rAbs := rfl
@[simp] theorem PT70_rBefore : PT70 97 = g_rBefore := rfl
@[simp] theorem PT70_rSorted : PT70 75 = g_rSorted := rfl
@[simp] theorem PT70_rPut : PT70 76 = g_rPut := rfl
@[simp] theorem PT70_rNormal : PT70 45 = g_rNormal := rfl
@[simp] theorem PT70_place : PT70 62 = g_place := rfl
@[simp] theorem PT70_vHas : PT70 34 = g_vHas := rfl
@[simp] theorem PT70_vMinus : PT70 90 = g_vMinus := rfl
@[simp] theorem PT70_vCut : PT70 29 = g_vCut := rfl
@[simp] theorem PT70_vSub : PT70 65 = g_vSub := rfl
@[simp] theorem PT70_litHolds : PT70 64 = g_litHolds := rfl
@[simp] theorem PT70_litAny : PT70 36 = g_litAny := rfl
@[simp] theorem PT70_thEval : PT70 37 = g_thEval := rfl
@[simp] theorem PT70_rSame : PT70 22 = g_rSame := rfl
@[simp] theorem PT70_rTerm : PT70 73 = g_rTerm := rfl
@[simp] theorem PT70_thVars : PT70 35 = g_thVars := rfl
@[simp] theorem PT70_light : PT70 13 = g_light := rfl
@[simp] theorem PT70_trLight : PT70 14 = g_trLight := rfl
@[simp] theorem PT70_trGood : PT70 47 = g_trGood := rfl
@[simp] theorem PT70_r2In : PT70 51 = g_r2In := rfl
@[simp] theorem PT70_r2Same : PT70 23 = g_r2Same := rfl
@[simp] theorem PT70_r2Var : PT70 72 = g_r2Var := rfl
end Go.Proofs.Ythdjgcjpolpgdaa
