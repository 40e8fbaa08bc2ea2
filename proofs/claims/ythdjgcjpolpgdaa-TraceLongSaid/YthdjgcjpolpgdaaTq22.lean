/- Contracts of censuslaw22.light and trace.good, by the abstract machine; no condition. -/
import Derived.Test.YthdjgcjpolpgdaaLt
import Derived.Test.YthdjgcjpolpgdaaWa
namespace Go.Proofs.Ythdjgcjpolpgdaa
set_option linter.unusedVariables false
set_option linter.unusedSimpArgs false
set_option linter.unusedSectionVars false
open Go.RowKit
attribute [local simp] List.getD_cons_zero List.getD_cons_succ List.getD_nil undef gvars runL runE effA stepA dstOk wantA core lk st dl AS.ev AS.evs AS.put AS.upd updO updI nxt cPick cAlloc cBox cBuild cBuildS cLoad cStore cNil plainOf cBin cNilS isNilS nilA cUn cConvX cConvB cConv bytesOf rowB cMake cSlice slA idxA cFA cF cIA cIX cIS cI cExt cLen cApp cMM cFun cCall lenA lenM isNilM nilM cNilM cMakeM hintB cMapK cLook foundR lookR cUpd putM cDel delM findA isKeyB Instr.sameNow AS.entry AS.bound AS.callee sc1 sc2 ixOk ldA AV.flat AV.cell AV.cells Value.oneCell' fillA spl chunk zeros AS.parts AS.rows AS.shut AS.shut1 AS.shut2 AS.shutL AS.shutM AV.ids idsL idsLL eqAll bndA AV.scalar AV.scalar1 AV.isV Ef.app Ef.pk ptOf pntO wrO wr
attribute [-simp] List.getD_eq_getElem?_getD
set_option maxRecDepth 100000
def aCl (ts cs : List Int) : AV := .agg [aInts ts, aInts cs]
theorem cov_cl {a b : AV} {ts cs : List Int} (h1 : toInts a = some ts) (h2 : toInts b = some cs) : Cov (.agg [a, b]) (aCl ts cs) := by
  intro S v hv
  cases hv with
  | agg _ us hl g1 g2 =>
    refine .agg _ us hl g1 fun i hi => ?_
    match i, hi with
    | 0, hi => exact cov_ints h1 S _ (g2 0 (Nat.succ_pos _))
    | 1, hi => exact cov_ints h2 S _ (g2 1 (Nat.lt_succ_self _))
def tmOk (N : Int) (ts : List Int) (j : Nat) : Bool := litOk (ts.getD j 0) N && !sHas (varsRow 0#128 ts j) (litVar (ts.getD j 0))
def lastK (cs : List Int) (j : Nat) : Int := if j = 0 then -1 else cs.getD (j - 1) 0
theorem lastK_succ (cs : List Int) (j : Nat) : lastK cs (j + 1) = cs.getD j 0 := by unfold lastK; rw [if_neg (by omega)]; rfl
def ixAsc (cs : List Int) (m : Int) (j : Nat) : Bool := decide (lastK cs j < cs.getD j 0) && decide (cs.getD j 0 < m)
def goodB (N m : Int) (ts cs : List Int) : Bool := (List.range ts.length).all (tmOk N ts) && (List.range cs.length).all (ixAsc cs m)
theorem all_range {n : Nat} {f : Nat → Bool} (h : ∀ j, j < n → f j = true) : (List.range n).all f = true := List.all_eq_true.2 fun j hj => h j (List.mem_range.1 hj)
theorem all_range_f {n j : Nat} {f : Nat → Bool} (hj : j < n) (h : f j = false) : (List.range n).all f = false := List.all_eq_false.2 ⟨j, List.mem_range.2 hj, by rw [h]; decide⟩
def lightC (ts cs : List Int) : Bool := decide (ts.length ≤ 200) && decide (cs.length ≤ 300)
theorem light22_p (ts cs : List Int) (h1 : okIL ts = true) (h2 : okIL cs = true) : FnPure Try.prog 14 [aCl ts cs] (.v (.bool (lightC ts cs))) := by
  have m1 := okIL_len h1
  have m2 := okIL_len h2
  unfold aCl lightC
  by_cases h : ts.length ≤ 200
  · have hb : decide ((ts.length : Int) ≤ 200) = true := by simp; omega
    refine fn_sp TT_ok Try.func14 (c := _) rfl (by simp [Try.ntmps14]) (fun B hI0 hro => ?_)
    rw [Try.ntmps14]
    simp only [enumA]
    refine amGo PT16_ok (h := ?_)
    ((refine post_ret (av := ?_) (by first | exact .inl rfl | exact .inr rfl) (show (Try.f14).results.toList = _ from by rw [Try.results14]) ?_ ?_); rotate_left; (focus (simp [retA, retL, ret1, lk, st, ldA, AV.cell]; rfl)); (try simp [*]))
    all_goals omega
  · have hb : decide ((ts.length : Int) ≤ 200) = false := by simp; omega
    refine fn_sp TT_ok Try.func14 (c := _) rfl (by simp [Try.ntmps14]) (fun B hI0 hro => ?_)
    rw [Try.ntmps14]
    simp only [enumA]
    refine amGo PT16_ok (h := ?_)
    ((refine post_ret (av := ?_) (by first | exact .inl rfl | exact .inr rfl) (show (Try.f14).results.toList = _ from by rw [Try.results14]) ?_ ?_); rotate_left; (focus (simp [retA, retL, ret1, lk, st, ldA, AV.cell]; rfl)); (try simp [*]))
theorem good_p (N m : Int) (ts cs : List Int) (hN : okI N = true) (hm : okI m = true) (ht : okInts ts = true) (hc : okInts cs = true) : FnPure Try.prog 47 [aCl ts cs, .v (.int .i64 N), .v (.int .i64 m)] (.v (.bool (goodB N m ts cs))) := by
  have lt := okInts_len ht
  have lc := okInts_len hc
  obtain ⟨z1, z2⟩ := words0
  unfold aCl goodB
  refine fn_sp TT_ok Try.func47 (c := _) rfl (by simp [Try.ntmps47]) (fun B hI0 hro => ?_)
  rw [Try.ntmps47]
  simp only [enumA]
  refine amGo PT16_ok (h := ?_)
  refine s_loop (J := fun i : {k : Nat // k ≤ ts.length ∧ ∀ j, j < k → tmOk N ts j = true} => ⟨52, [(1, .v (.int .i64 N)), (2, .v (.int .i64 m)), (3, .ptr 0 0 0), (7, .ptr 1 0 0), (14, aInts ts), (15, .v (.int .i64 (ts.length : Int))), (16, .v (.int .i64 (i.1 : Int)))], [(0, ⟨27, 2, [[aInts ts, aInts cs]]⟩), (1, ⟨51, 2, [[.v (.int .u64 ((lo (varsRow 0#128 ts i.1)).toNat : Int)), .v (.int .u64 ((hi (varsRow 0#128 ts i.1)).toNat : Int))]]⟩)], [1, 0]⟩) (μ := fun i => ts.length - i.1) ⟨0, Nat.zero_le _, fun j hj => by omega⟩ ?_ (fun ⟨k, hk, he⟩ => ?_)
  · have hk0 : varsRow 0#128 ts 0 = 0#128 := rfl
    (refine weak_id rfl ?_ ?_ <;> ((try simp only [List.mem_cons, List.not_mem_nil, or_false, forall_eq_or_imp, forall_eq]); (try simp (disch := omega) [i64w, *])))
  have hcs := hc
  clear hc
  refine amGo PT16_ok (h := ?_)
  (focus ((with_reducible refine sp_cond (b := ?_) ?_ (fun hc => ?_) (fun hc => ?_)); rotate_left; (focus (first | rfl | (simp [lk, AS.ev]; rfl))); all_goals (try simp at hc)))
  · have hkk := hc
    clear hc
    have hl := okI_iff.2 (okInts_at ht k)
    obtain ⟨v1, v2⟩ := litVar_range (ts.getD k 0)
    have hv := okI_iff.2 (show I64 (litVar (ts.getD k 0)) from ⟨by omega, by omega⟩)
    have hs := varsRow_succ 0#128 hkk
    cases h1 : litOk (ts.getD k 0) N
    · have hf := all_range_f (f := tmOk N ts) hkk (by unfold tmOk; rw [h1]; rfl)
      refine amGo PT16_ok (h := ?_)
      ((refine post_ret (av := ?_) (by first | exact .inl rfl | exact .inr rfl) (show (Try.f47).results.toList = _ from by rw [Try.results47]) ?_ ?_); rotate_left; (focus (simp [retA, retL, ret1, lk, st, ldA, AV.cell]; rfl)); (try simp [*]))
    · cases h2 : sHas (varsRow 0#128 ts k) (litVar (ts.getD k 0))
      · have h3 : tmOk N ts k = true := by unfold tmOk; rw [h1, h2]; rfl
        refine amGo PT16_ok (h := ?_)
        refine k_lp (⟨k + 1, by omega, fun j hj => ?_⟩ : {k : Nat // k ≤ ts.length ∧ ∀ j, j < k → tmOk N ts j = true}) (by dsimp only; omega) ?_
        · by_cases e : j < k
          · exact he j e
          · obtain rfl : j = k := by omega
            exact h3
        · (refine weak_id rfl ?_ ?_ <;> ((try simp only [List.mem_cons, List.not_mem_nil, or_false, forall_eq_or_imp, forall_eq]); (try simp (disch := omega) [i64w, *])))
      · have hf := all_range_f (f := tmOk N ts) hkk (by unfold tmOk; rw [h1, h2]; rfl)
        refine amGo PT16_ok (h := ?_)
        ((refine post_ret (av := ?_) (by first | exact .inl rfl | exact .inr rfl) (show (Try.f47).results.toList = _ from by rw [Try.results47]) ?_ ?_); rotate_left; (focus (simp [retA, retL, ret1, lk, st, ldA, AV.cell]; rfl)); (try simp [*]))
  · obtain rfl : k = ts.length := by omega
    clear hc
    have ha := all_range he
    refine amGo PT16_ok (h := ?_)
    refine s_loop (J := fun i : {k : Nat // k ≤ cs.length ∧ ∀ j, j < k → ixAsc cs m j = true} => ⟨52, [(2, .v (.int .i64 m)), (10, .v (.int .i64 (lastK cs i.1))), (36, aInts cs), (37, .v (.int .i64 (cs.length : Int))), (38, .v (.int .i64 (i.1 : Int)))], [], []⟩) (μ := fun i => cs.length - i.1) ⟨0, Nat.zero_le _, fun j hj => by omega⟩ ?_ (fun ⟨k, hk, hf⟩ => ?_)
    · have hk0 : lastK cs 0 = -1 := rfl
      (refine weak_id rfl ?_ ?_ <;> ((try simp only [List.mem_cons, List.not_mem_nil, or_false, forall_eq_or_imp, forall_eq]); (try simp (disch := omega) [i64w, *])))
    refine amGo PT16_ok (h := ?_)
    (focus ((with_reducible refine sp_cond (b := ?_) ?_ (fun hc => ?_) (fun hc => ?_)); rotate_left; (focus (first | rfl | (simp [lk, AS.ev]; rfl))); all_goals (try simp at hc)))
    · have hkk := hc
      clear hc
      have hs := lastK_succ cs k
      by_cases h1 : lastK cs k < cs.getD k 0
      · have h1' : ¬ cs.getD k 0 ≤ lastK cs k := by omega
        by_cases h2 : cs.getD k 0 < m
        · have h2' : ¬ m ≤ cs.getD k 0 := by omega
          have h3 : ixAsc cs m k = true := by unfold ixAsc; simp only [h1, h2, decide_true, Bool.and_self]
          refine amGo PT16_ok (h := ?_)
          refine k_lp (⟨k + 1, by omega, fun j hj => ?_⟩ : {k : Nat // k ≤ cs.length ∧ ∀ j, j < k → ixAsc cs m j = true}) (by dsimp only; omega) ?_
          · by_cases e : j < k
            · exact hf j e
            · obtain rfl : j = k := by omega
              exact h3
          · (refine weak_id rfl ?_ ?_ <;> ((try simp only [List.mem_cons, List.not_mem_nil, or_false, forall_eq_or_imp, forall_eq]); (try simp (disch := omega) [i64w, *])))
        · have h2' : m ≤ cs.getD k 0 := by omega
          have hff := all_range_f (f := ixAsc cs m) hkk (by unfold ixAsc; simp only [h2, decide_false, Bool.and_false])
          refine amGo PT16_ok (h := ?_)
          ((refine post_ret (av := ?_) (by first | exact .inl rfl | exact .inr rfl) (show (Try.f47).results.toList = _ from by rw [Try.results47]) ?_ ?_); rotate_left; (focus (simp [retA, retL, ret1, lk, st, ldA, AV.cell]; rfl)); (try simp [*]))
      · have h1' : cs.getD k 0 ≤ lastK cs k := by omega
        have hff := all_range_f (f := ixAsc cs m) hkk (by unfold ixAsc; simp only [h1, decide_false, Bool.false_and])
        refine amGo PT16_ok (h := ?_)
        ((refine post_ret (av := ?_) (by first | exact .inl rfl | exact .inr rfl) (show (Try.f47).results.toList = _ from by rw [Try.results47]) ?_ ?_); rotate_left; (focus (simp [retA, retL, ret1, lk, st, ldA, AV.cell]; rfl)); (try simp [*]))
    · obtain rfl : k = cs.length := by omega
      have hb := all_range hf
      refine amGo PT16_ok (h := ?_)
      ((refine post_ret (av := ?_) (by first | exact .inl rfl | exact .inr rfl) (show (Try.f47).results.toList = _ from by rw [Try.results47]) ?_ ?_); rotate_left; (focus (simp [retA, retL, ret1, lk, st, ldA, AV.cell]; rfl)); (try simp [*]))
@[simp] def g_trLight : List AV → Option (AV × Bool)
  | [.agg [a0, b0]] => (match toInts a0 with | some ts => (match toInts b0 with | some cs => if (okIL ts && okIL cs) = true then some (.v (.bool (lightC ts cs)), false) else none | none => none) | none => none)
  | _ => none
theorem e_trLight : EntOk Try.prog 14 g_trLight := ent_pure (by kernel_rfl) fun args r fr h => by
  unfold g_trLight at h
  split at h
  · rename_i a0 b0
    split at h
    · rename_i ts t0
      split at h
      · rename_i cs s0
        split at h
        · rename_i hc
          simp only [Bool.and_eq_true] at hc
          obtain ⟨o0, p0⟩ := hc
          cases h
          exact ⟨FnPure.cov (light22_p ts cs o0 p0) (.cons (cov_cl t0 s0) .nil), rfl⟩
        · cases h
      · cases h
    · cases h
  · cases h

@[simp] def g_trGood : List AV → Option (AV × Bool)
  | [.agg [a0, b0], .v (.int .i64 N), .v (.int .i64 m)] => (match toInts a0 with | some ts => (match toInts b0 with | some cs => if (okInts ts && okInts cs && okI N && okI m) = true then some (.v (.bool (goodB N m ts cs)), false) else none | none => none) | none => none)
  | _ => none
theorem e_trGood : EntOk Try.prog 47 g_trGood := ent_pure (by kernel_rfl) fun args r fr h => by
  unfold g_trGood at h
  split at h
  · rename_i a0 b0 N m
    split at h
    · rename_i ts t0
      split at h
      · rename_i cs s0
        split at h
        · rename_i hc
          simp only [Bool.and_eq_true] at hc
          obtain ⟨⟨⟨o0, p0⟩, o1⟩, o2⟩ := hc
          cases h
          exact ⟨FnPure.cov (good_p N m ts cs o1 o2 o0 p0) (.cons (cov_cl t0 s0) (.cons (Cov.refl _) (.cons (Cov.refl _) .nil))), rfl⟩
        · cases h
      · cases h
    · cases h
  · cases h

def l120 : List (FuncId × (List AV → Option (AV × Bool))) :=
  (14, g_trLight) :: (47, g_trGood) :: l16
theorem l120_ok : ∀ p ∈ l120, EntOk Try.prog p.1 p.2 := ent_cons e_trLight (ent_cons e_trGood (l16_ok))
def PT120 : PTab := tab l120
theorem PT120_ok : PTok Try.prog PT120 := tab_ok l120_ok
@[simp] theorem PT120_litVar : PT120 32 = g_litVar := rfl
@[simp] theorem PT120_litValid : PT120 77 = g_litValid := rfl
@[simp] theorem PT120_contains : PT120 50 = g_contains := rfl
@[simp] theorem PT120_check : PT120 46 = g_check := rfl
@[simp] theorem PT120_with : PT120 33 = g_with := rfl
@[simp] theorem PT120_without : PT120 31 = g_without := rfl
@[simp] theorem PT120_all : PT120 30 = g_all := rfl
@[simp] theorem PT120_rValid : PT120 71 = g_rValid := rfl
@[simp] theorem PT120_rCheck : PT120 42 = g_rCheck := rfl
@[simp] theorem PT120_litvalid : PT120 85 = g_litvalid := rfl
@[simp] theorem PT120_opposite : PT120 87 = g_opposite := rfl
@[simp] theorem PT120_clone : PT120 99 = g_clone := rfl
@[simp] theorem PT120_order : PT120 86 = g_order := rfl
@[simp] theorem PT120_term : PT120 69 = g_term := rfl
@[simp] theorem PT120_clause : PT120 57 = g_clause := rfl
@[simp] theorem PT120_equal : PT120 61 = g_equal := rfl
@[simp] theorem PT120_distinct : PT120 60 = g_distinct := rfl
@[simp] theorem PT120_normal : PT120 27 = g_normal := rfl
@[simp] theorem PT120_rContains : PT120 74 = g_rContains := rfl
@[simp] theorem PT120_rSameInts : PT120 52 = g_rSameInts := rfl
@[simp] theorem PT120_rAbs : PT120 114 = g_rAbs := rfl
@[simp] theorem PT120_rBefore : PT120 97 = g_rBefore := rfl
@[simp] theorem PT120_rSorted : PT120 75 = g_rSorted := rfl
@[simp] theorem PT120_rPut : PT120 76 = g_rPut := rfl
@[simp] theorem PT120_rNormal : PT120 45 = g_rNormal := rfl
@[simp] theorem PT120_place : PT120 62 = g_place := rfl
@[simp] theorem PT120_vHas : PT120 34 = g_vHas := rfl
@[simp] theorem PT120_vMinus : PT120 90 = g_vMinus := rfl
@[simp] theorem PT120_vCut : PT120 29 = g_vCut := rfl
@[simp] theorem PT120_vSub : PT120 65 = g_vSub := rfl
@[simp] theorem PT120_litHolds : PT120 64 = g_litHolds := rfl
@[simp] theorem PT120_litAny : PT120 36 = g_litAny := rfl
@[simp] theorem PT120_thEval : PT120 37 = g_thEval := rfl
@[simp] theorem PT120_rSame : PT120 22 = g_rSame := rfl
@[simp] theorem PT120_rTerm : PT120 73 = g_rTerm := rfl
@[simp] theorem PT120_thVars : PT120 35 = g_thVars := rfl
@[simp] theorem PT120_light : PT120 13 = g_light := rfl
@[simp] theorem PT120_trLight : PT120 14 = g_trLight := rfl
@[simp] theorem PT120_trGood : PT120 47 = g_trGood := rfl
end Go.Proofs.Ythdjgcjpolpgdaa
