/- Contract of censuslaw05.Light, by the abstract machine; no condition. -/
import Derived.Test.YthdjgcjpolpgdaaThG
import Derived.Test.YthdjgcjpolpgdaaWa
import Derived.Test.YthdjgcjpolpgdaaCvG
namespace Go.Proofs.Ythdjgcjpolpgdaa
set_option linter.unusedVariables false
set_option linter.unusedSimpArgs false
set_option linter.unusedSectionVars false
open Go.RowKit
attribute [local simp] List.getD_cons_zero List.getD_cons_succ List.getD_nil undef gvars runL runE effA stepA dstOk wantA core lk st dl AS.ev AS.evs AS.put AS.upd updO updI nxt cPick cAlloc cBox cBuild cBuildS cLoad cStore cNil plainOf cBin cNilS isNilS nilA cUn cConvX cConvB cConv bytesOf rowB cMake cSlice slA idxA cFA cF cIA cIX cIS cI cExt cLen cApp cMM cFun cCall lenA lenM isNilM nilM cNilM cMakeM hintB cMapK cLook foundR lookR cUpd putM cDel delM findA isKeyB Instr.sameNow AS.entry AS.bound AS.callee sc1 sc2 ixOk ldA AV.flat AV.cell AV.cells Value.oneCell' fillA spl chunk zeros AS.parts AS.rows AS.shut AS.shut1 AS.shut2 AS.shutL AS.shutM AV.ids idsL idsLL eqAll bndA AV.scalar AV.scalar1 AV.isV Ef.app Ef.pk ptOf pntO wrO wr
attribute [-simp] List.getD_eq_getElem?_getD
set_option maxRecDepth 100000

def lightB (L : List (List Int)) : Bool := L.all (fun c => decide (c.length ≤ 140)) && decide (L.length ≤ 60)
theorem light_rows {L : List (List Int)} (h : okLens L = true) (hl : lightB L = true) : okRows L = true := by
  simp only [lightB, Bool.and_eq_true, List.all_eq_true, decide_eq_true_eq] at hl
  exact okRows_lens h (by omega) fun c hc => by have := hl.1 c hc; omega
theorem light_p (N : Int) (L : List (List Int)) (hL : okLens L = true) : FnPure Try.prog 13 [aTh N L] (.v (.bool (lightB L))) := by
  have hm := okLens_len hL
  unfold aTh
  refine fn_sp TT_ok Try.func13 (c := _) rfl (by simp [Try.ntmps13]) (fun B hI0 hro => ?_)
  rw [Try.ntmps13]
  simp only [enumA]
  refine amGo PT15_ok (h := ?_)
  refine s_loop (J := fun i : {k : Nat // k ≤ L.length ∧ ∀ j, j < k → (L.getD j []).length ≤ 140} => ⟨20, [(1, .ptr 0 0 0), (6, aRows L), (7, .v (.int .i64 (L.length : Int))), (8, .v (.int .i64 (i.1 : Int)))], [(0, ⟨24, 2, [[.v (.int .i64 N), aRows L]]⟩)], [0]⟩) (μ := fun i => L.length - i.1) ⟨0, Nat.zero_le _, fun j hj => by omega⟩ ?_ (fun ⟨k, hk, he⟩ => ?_)
  · (refine weak_id rfl ?_ ?_ <;> ((try simp only [List.mem_cons, List.not_mem_nil, or_false, forall_eq_or_imp, forall_eq]); (try simp (disch := omega) [i64w, *])))
    all_goals rfl
  refine amGo PT15_ok (h := ?_)
  (focus ((with_reducible refine sp_cond (b := ?_) ?_ (fun hc => ?_) (fun hc => ?_)); rotate_left; (focus (first | rfl | (simp [lk, AS.ev]; rfl))); all_goals (try simp at hc)))
  · have hci := okIL_len (okLens_at hL k)
    refine amGo PT15_ok (h := ?_)
    have hcc := hc
    clear hc
    (focus ((with_reducible refine sp_cond (b := ?_) ?_ (fun hc => ?_) (fun hc => ?_)); rotate_left; (focus (first | rfl | (simp [lk, AS.ev]; rfl))); all_goals (try simp at hc)))
    · refine amGo PT15_ok (h := ?_)
      ((refine post_ret (av := ?_) (by first | exact .inl rfl | exact .inr rfl) (show (Try.f13).results.toList = _ from by rw [Try.results13]) ?_ ?_); rotate_left; (focus (simp [retA, retL, ret1, lk, st, ldA, AV.cell]; rfl)); (try simp [*]))
      have hmem : L.getD k [] ∈ L := by
        have : L.getD k [] = L[k] := by simp [List.getD, hcc]
        rw [this]; exact List.getElem_mem _
      unfold lightB
      have : L.all (fun c => decide (c.length ≤ 140)) = false := List.all_eq_false.2 ⟨_, hmem, by simp; omega⟩
      rw [this, Bool.false_and]
    · refine amGo PT15_ok (h := ?_)
      refine k_lp (⟨k + 1, by omega, fun j hj => ?_⟩ : {k : Nat // k ≤ L.length ∧ ∀ j, j < k → (L.getD j []).length ≤ 140}) (by dsimp only; omega) ?_
      · by_cases e : j < k
        · exact he j e
        · obtain rfl : j = k := by omega
          omega
      · (refine weak_id rfl ?_ ?_ <;> ((try simp only [List.mem_cons, List.not_mem_nil, or_false, forall_eq_or_imp, forall_eq]); (try simp (disch := omega) [i64w, *])))
  · have hall : L.all (fun c => decide (c.length ≤ 140)) = true := List.all_eq_true.2 fun c hcm => by
      obtain ⟨j, hj, rfl⟩ := List.getElem_of_mem hcm
      have := he j (by omega)
      have e : L.getD j [] = L[j] := by simp [List.getD, hj]
      rw [e] at this
      simpa using this
    refine amGo PT15_ok (h := ?_)
    ((refine post_ret (av := ?_) (by first | exact .inl rfl | exact .inr rfl) (show (Try.f13).results.toList = _ from by rw [Try.results13]) ?_ ?_); rotate_left; (focus (simp [retA, retL, ret1, lk, st, ldA, AV.cell]; rfl)); (try simp [*]))
    unfold lightB
    rw [hall, Bool.true_and]
    simp only [decide_eq_decide]
    omega
@[simp] def g_light : List AV → Option (AV × Bool)
  | [.agg [.v (.int .i64 N), a0]] => (match toRows a0 with | some L => if (okLens L) = true then some (.v (.bool (lightB L)), false) else none | none => none)
  | _ => none
theorem e_light : EntOk Try.prog 13 g_light := ent_pure (by kernel_rfl) fun args r fr h => by
  unfold g_light at h
  split at h
  · rename_i N a0
    split at h
    · rename_i L t0
      split at h
      · rename_i hc
        have o0 := hc
        cases h
        exact ⟨FnPure.cov (light_p N L o0) (.cons (cov_th _ (cov_rows t0)) .nil), rfl⟩
      · cases h
    · cases h
  · cases h

def l16 : List (FuncId × (List AV → Option (AV × Bool))) :=
  (13, g_light) :: l15
theorem l16_ok : ∀ p ∈ l16, EntOk Try.prog p.1 p.2 := ent_cons e_light (l15_ok)
def PT16 : PTab := tab l16
theorem PT16_ok : PTok Try.prog PT16 := tab_ok l16_ok
@[simp] theorem PT16_litVar : PT16 32 = g_litVar := rfl
@[simp] theorem PT16_litValid : PT16 77 = g_litValid := rfl
@[simp] theorem PT16_contains : PT16 50 = g_contains := rfl
@[simp] theorem PT16_check : PT16 46 = g_check := rfl
@[simp] theorem PT16_with : PT16 33 = g_with := rfl
@[simp] theorem PT16_without : PT16 31 = g_without := rfl
@[simp] theorem PT16_all : PT16 30 = g_all := rfl
@[simp] theorem PT16_rValid : PT16 71 = g_rValid := rfl
@[simp] theorem PT16_rCheck : PT16 42 = g_rCheck := rfl
@[simp] theorem PT16_litvalid : PT16 85 = g_litvalid := rfl
@[simp] theorem PT16_opposite : PT16 87 = g_opposite := rfl
@[simp] theorem PT16_clone : PT16 99 = g_clone := rfl
@[simp] theorem PT16_order : PT16 86 = g_order := rfl
@[simp] theorem PT16_term : PT16 69 = g_term := rfl
@[simp] theorem PT16_clause : PT16 57 = g_clause := rfl
@[simp] theorem PT16_equal : PT16 61 = g_equal := rfl
@[simp] theorem PT16_distinct : PT16 60 = g_distinct := rfl
@[simp] theorem PT16_normal : PT16 27 = g_normal := rfl
@[simp] theorem PT16_rContains : PT16 74 = g_rContains := rfl
@[simp] theorem PT16_rSameInts : PT16 52 = g_rSameInts := rfl
@[simp] theorem PT16_rAbs : PT16 114 = g_rAbs := rfl
@[simp] theorem PT16_rBefore : PT16 97 = g_rBefore := rfl
@[simp] theorem PT16_rSorted : PT16 75 = g_rSorted := rfl
@[simp] theorem PT16_rPut : PT16 76 = g_rPut := rfl
@[simp] theorem PT16_rNormal : PT16 45 = g_rNormal := rfl
@[simp] theorem PT16_place : PT16 62 = g_place := rfl
@[simp] theorem PT16_vHas : PT16 34 = g_vHas := rfl
@[simp] theorem PT16_vMinus : PT16 90 = g_vMinus := rfl
@[simp] theorem PT16_vCut : PT16 29 = g_vCut := rfl
@[simp] theorem PT16_vSub : PT16 65 = g_vSub := rfl
@[simp] theorem PT16_litHolds : PT16 64 = g_litHolds := rfl
@[simp] theorem PT16_litAny : PT16 36 = g_litAny := rfl
@[simp] theorem PT16_thEval : PT16 37 = g_thEval := rfl
@[simp] theorem PT16_rSame : PT16 22 = g_rSame := rfl
@[simp] theorem PT16_rTerm : PT16 73 = g_rTerm := rfl
@[simp] theorem PT16_thVars : PT16 35 = g_thVars := rfl
@[simp] theorem PT16_light : PT16 13 = g_light := rfl
end Go.Proofs.Ythdjgcjpolpgdaa
