/- The reference's Encode; rows of Encode for the table; no condition. -/
import Derived.Test.YthdjgcjpolpgdaaRd22
import Derived.Test.YthdjgcjpolpgdaaWa
namespace Go.Proofs.Ythdjgcjpolpgdaa
set_option linter.unusedVariables false
set_option linter.unusedSimpArgs false
set_option linter.unusedSectionVars false
open Go.RowKit
attribute [local simp] List.getD_cons_zero List.getD_cons_succ List.getD_nil undef gvars runL runE effA stepA dstOk wantA core lk st dl AS.ev AS.evs AS.put AS.upd updO updI nxt cPick cAlloc cBox cBuild cBuildS cLoad cStore cNil plainOf cBin cNilS isNilS nilA cUn cConvX cConvB cConv bytesOf rowB cMake cSlice slA idxA cFA cF cIA cIX cIS cI cExt cLen cApp cMM cFun cCall lenA lenM isNilM nilM cNilM cMakeM hintB cMapK cLook foundR lookR cUpd putM cDel delM findA isKeyB Instr.sameNow AS.entry AS.bound AS.callee sc1 sc2 ixOk ldA AV.flat AV.cell AV.cells Value.oneCell' fillA spl chunk zeros AS.parts AS.rows AS.shut AS.shut1 AS.shut2 AS.shutL AS.shutM AV.ids idsL idsLL eqAll bndA AV.scalar AV.scalar1 AV.isV Ef.app Ef.pk ptOf pntO wrO wr
attribute [-simp] List.getD_eq_getElem?_getD
set_option maxRecDepth 100000
attribute [local simp] aB
theorem encR_form (l : List Cl) (hl : okCl l = true) (h1 : l.length ≤ 65536) (h2 : l.all clG = false) : FnPure Try.prog 26 [aCls l] (.tup [.v (.slice none 0 0), .v (.int .i64 1)]) := by
  unfold aCls
  have g1 : ¬ ((65536 : Int) < (l.length : Int)) := by omega
  refine fn_sp TT_ok Try.func26 (c := _) rfl (by simp [Try.ntmps26]) (fun B hI0 hro => ?_)
  rw [Try.ntmps26]
  simp only [enumA]
  refine amGo PT111_ok (h := ?_)
  refine s_loop (J := fun i : {k : Nat // k ≤ l.length ∧ (l.take k).all clG = true} => ⟨27, [(0, .sl 2 (l.map fun p => [aInts p.1, aInts p.2])), (4, .v (.int .i64 (i.1 : Int)))], [], []⟩) (μ := fun i => l.length - i.1) ⟨0, Nat.zero_le _, rfl⟩ ?_ (fun ⟨k, hk, he⟩ => ?_)
  · (refine weak_id rfl ?_ ?_ <;> ((try simp only [List.mem_cons, List.not_mem_nil, or_false, forall_eq_or_imp, forall_eq]); (try simp (disch := omega) [i64w, *])))
  refine amGo PT111_ok (h := ?_)
  (focus ((with_reducible refine sp_cond (b := ?_) ?_ (fun hc => ?_) (fun hc => ?_)); rotate_left; (focus (first | rfl | (simp [lk, AS.ev]; rfl))); all_goals (try simp at hc)))
  · have hkk := hc
    clear hc
    obtain ⟨o1, o2⟩ := okCl_at hl (cl_mem hkk)
    obtain ⟨ts, cs, hp⟩ : ∃ ts cs, l.getD k ([], []) = (ts, cs) := ⟨_, _, rfl⟩
    rw [hp] at o1 o2
    dsimp only at o1 o2
    have hg : goodB 128 4096 ts cs = clG (l.getD k ([], [])) := by rw [hp]; rfl
    have wk : IntKind.i64.wrap ((k : Int) + 1) = (k : Int) + 1 := i64s k (by omega)
    cases h3 : clG (l.getD k ([], []))
    · rw [h3] at hg
      refine amGo PT111_ok (h := ?_)
      refine amStr (h := ?_)
      refine amReg PT111_ok (h := ?_)
      refine amStr (h := ?_)
      refine amReg PT111_ok (h := ?_)
      refine amStr (h := ?_)
      ((refine post_ret (av := ?_) (by first | exact .inl rfl | exact .inr rfl) (show (Try.f26).results.toList = _ from by rw [Try.results26]) ?_ ?_); rotate_left; (focus (simp [retA, retL, ret1, lk, st, ldA, AV.cell]; rfl)); (try simp [*]))
    · rw [h3] at hg
      have ha := allR_take hkk he h3
      refine amGo PT111_ok (h := ?_)
      refine amStr (h := ?_)
      refine amReg PT111_ok (h := ?_)
      refine amStr (h := ?_)
      refine amReg PT111_ok (h := ?_)
      refine amStr (h := ?_)
      refine k_lp (⟨k + 1, by omega, ha⟩ : {k : Nat // k ≤ l.length ∧ (l.take k).all clG = true}) (by dsimp only; omega) ?_
      (refine weak_id rfl ?_ ?_ <;> ((try simp only [List.mem_cons, List.not_mem_nil, or_false, forall_eq_or_imp, forall_eq]); (try simp (disch := omega) [i64w, *])))
  · obtain rfl : k = l.length := by omega
    rw [List.take_length, h2] at he
    cases he
theorem encR_long1 (l : List Cl) (hl : l.length < 1000000000) (h1 : 65536 < l.length) : FnPure Try.prog 26 [aCls l] (.tup [.v (.slice none 0 0), .v (.int .i64 2)]) := by
  unfold aCls
  have g1 : ((65536 : Int) < (l.length : Int)) := by omega
  refine fn_sp TT_ok Try.func26 (c := _) rfl (by simp [Try.ntmps26]) (fun B hI0 hro => ?_)
  rw [Try.ntmps26]
  simp only [enumA]
  refine amGo PT111_ok (h := ?_)
  ((refine post_ret (av := ?_) (by first | exact .inl rfl | exact .inr rfl) (show (Try.f26).results.toList = _ from by rw [Try.results26]) ?_ ?_); rotate_left; (focus (simp [retA, retL, ret1, lk, st, ldA, AV.cell]; rfl)); (try simp [*]))
set_option maxHeartbeats 1000000 in
theorem encR_all (l : List Cl) (hl : okCl l = true) (hf : l.all clG = true) (h1 : l.length ≤ 65536) : FnPure Try.prog 26 [aCls l] (if maxB < (fullB l).length then .tup [.v (.slice none 0 0), .v (.int .i64 2)] else .tup [aB (fullB l), .v (.int .i64 0)]) := by
  have hmax : maxB = 16777216 := rfl
  unfold aCls
  have g1 : ¬ ((65536 : Int) < (l.length : Int)) := by omega
  refine fn_sp TT_ok Try.func26 (c := _) rfl (by simp [Try.ntmps26]) (fun B hI0 hro => ?_)
  rw [Try.ntmps26]
  simp only [enumA]
  refine amGo PT111_ok (h := ?_)
  refine s_loop (J := fun i : {k : Nat // k ≤ l.length} => ⟨27, [(0, .sl 2 (l.map fun p => [aInts p.1, aInts p.2])), (4, .v (.int .i64 (i.1 : Int)))], [], []⟩) (μ := fun i => l.length - i.1) ⟨0, Nat.zero_le _⟩ ?_ (fun ⟨k, hk⟩ => ?_)
  · (refine weak_id rfl ?_ ?_ <;> ((try simp only [List.mem_cons, List.not_mem_nil, or_false, forall_eq_or_imp, forall_eq]); (try simp (disch := omega) [i64w, *])))
  refine amGo PT111_ok (h := ?_)
  (focus ((with_reducible refine sp_cond (b := ?_) ?_ (fun hc => ?_) (fun hc => ?_)); rotate_left; (focus (first | rfl | (simp [lk, AS.ev]; rfl))); all_goals (try simp at hc)))
  · have hkk := hc
    clear hc
    obtain ⟨o1, o2⟩ := okCl_at hl (cl_mem hkk)
    obtain ⟨ts, cs, hp⟩ : ∃ ts cs, l.getD k ([], []) = (ts, cs) := ⟨_, _, rfl⟩
    rw [hp] at o1 o2
    dsimp only at o1 o2
    have hg : goodB 128 4096 ts cs = true := by have := List.all_eq_true.1 hf _ (cl_mem hkk); rw [hp] at this; exact this
    have wk : IntKind.i64.wrap ((k : Int) + 1) = (k : Int) + 1 := i64s k (by omega)
    refine amGo PT111_ok (h := ?_)
    refine amStr (h := ?_)
    refine amReg PT111_ok (h := ?_)
    refine amStr (h := ?_)
    refine amReg PT111_ok (h := ?_)
    refine amStr (h := ?_)
    refine k_lp (⟨k + 1, by omega⟩ : {k : Nat // k ≤ l.length}) (by dsimp only; omega) ?_
    (refine weak_id rfl ?_ ?_ <;> ((try simp only [List.mem_cons, List.not_mem_nil, or_false, forall_eq_or_imp, forall_eq]); (try simp (disch := omega) [i64w, *])))
  · obtain rfl : k = l.length := by omega
    clear hc
    have hlen : ((fullB l).map fun x => [AV.v (.int .u8 x)]).length = (fullB l).length := List.length_map _
    refine amStr (h := ?_)
    refine amReg PT111_ok (h := ?_)
    refine amStr (h := ?_)
    by_cases hb : maxB < (fullB l).length
    · rw [if_pos hb]
      have hb2 : (16777216 : Int) < ((fullB l).length : Int) := by omega
      refine amStr (h := ?_)
      refine amReg PT111_ok (h := ?_)
      refine amStr (h := ?_)
      refine amReg PT111_ok (h := ?_)
      refine amStr (h := ?_)
      ((refine post_ret (av := ?_) (by first | exact .inl rfl | exact .inr rfl) (show (Try.f26).results.toList = _ from by rw [Try.results26]) ?_ ?_); rotate_left; (focus (simp [retA, retL, ret1, lk, st, ldA, AV.cell]; rfl)); (try simp [*]))
    · rw [if_neg hb]
      have hb2 : ¬ ((16777216 : Int) < ((fullB l).length : Int)) := by omega
      refine amStr (h := ?_)
      refine amReg PT111_ok (h := ?_)
      refine amStr (h := ?_)
      refine amReg PT111_ok (h := ?_)
      refine amStr (h := ?_)
      ((refine post_ret (av := ?_) (by first | exact .inl rfl | exact .inr rfl) (show (Try.f26).results.toList = _ from by rw [Try.results26]) ?_ ?_); rotate_left; (focus (simp [retA, retL, ret1, lk, st, ldA, AV.cell]; rfl)); (try simp [*]))
theorem encR_p (l : List Cl) (hl : okCl l = true) : FnPure Try.prog 26 [aCls l] (encF l) := by
  unfold encF
  split
  · have h := hl
    unfold okCl at h
    rw [Bool.and_eq_true, decide_eq_true_eq] at h
    exact encR_long1 l (by omega) (by omega)
  · split
    · exact encR_form l hl (by omega) (by assumption)
    · exact encR_all l hl (by simpa using (by assumption : ¬ l.all clG = false)) (by omega)
theorem encode_pF (l : List Cl) (hl : okCl l = true) : FnPure Try.prog 25 [aCls l] (encF l) := encA_eq l ▸ encode_p l hl
@[simp] def g_r2Enc : List AV → Option (AV × Bool)
  | [a0] => (match toCls a0 with | some l => if (okCl l) = true then some (encF l, false) else none | none => none)
  | _ => none
theorem e_r2Enc : EntOk Try.prog 26 g_r2Enc := ent_pure (by kernel_rfl) fun args r fr h => by
  unfold g_r2Enc at h
  split at h
  · rename_i a0
    split at h
    · rename_i l t0
      split at h
      · rename_i hc
        have o0 := hc
        cases h
        exact ⟨FnPure.cov (encR_p l o0) (.cons (cov_cls t0) .nil), rfl⟩
      · cases h
    · cases h
  · cases h

@[simp] def g_trEnc : List AV → Option (AV × Bool)
  | [a0] => (match toCls a0 with | some l => if (okCl l) = true then some (encF l, false) else none | none => none)
  | _ => none
theorem e_trEnc : EntOk Try.prog 25 g_trEnc := ent_pure (by kernel_rfl) fun args r fr h => by
  unfold g_trEnc at h
  split at h
  · rename_i a0
    split at h
    · rename_i l t0
      split at h
      · rename_i hc
        have o0 := hc
        cases h
        exact ⟨FnPure.cov (encode_pF l o0) (.cons (cov_cls t0) .nil), rfl⟩
      · cases h
    · cases h
  · cases h

def l112 : List (FuncId × (List AV → Option (AV × Bool))) :=
  (26, g_r2Enc) :: (25, g_trEnc) :: l111
theorem l112_ok : ∀ p ∈ l112, EntOk Try.prog p.1 p.2 := ent_cons e_r2Enc (ent_cons e_trEnc (l111_ok))
def PT112 : PTab := tab l112
theorem PT112_ok : PTok Try.prog PT112 := tab_ok l112_ok
@[simp] theorem PT112_litVar : PT112 32 = g_litVar := rfl
@[simp] theorem PT112_litValid : PT112 77 = g_litValid := rfl
@[simp] theorem PT112_contains : PT112 50 = g_contains := rfl
@[simp] theorem PT112_check : PT112 46 = g_check := rfl
@[simp] theorem PT112_with : PT112 33 = g_with := rfl
@[simp] theorem PT112_without : PT112 31 = g_without := rfl
@[simp] theorem PT112_all : PT112 30 = g_all := rfl
@[simp] theorem PT112_rValid : PT112 71 = g_rValid := rfl
@[simp] theorem PT112_rCheck : PT112 42 = g_rCheck := rfl
@[simp] theorem PT112_litvalid : PT112 85 = g_litvalid := rfl
@[simp] theorem PT112_opposite : PT112 87 = g_opposite := rfl
@[simp] theorem PT112_clone : PT112 99 = g_clone := rfl
@[simp] theorem PT112_order : PT112 86 = g_order := rfl
@[simp] theorem PT112_term : PT112 69 = g_term := rfl
@[simp] theorem PT112_clause : PT112 57 = g_clause := rfl
@[simp] theorem PT112_equal : PT112 61 = g_equal := rfl
@[simp] theorem PT112_distinct : PT112 60 = g_distinct := rfl
@[simp] theorem PT112_normal : PT112 27 = g_normal := rfl
@[simp] theorem PT112_rContains : PT112 74 = g_rContains := rfl
@[simp] theorem PT112_rSameInts : PT112 52 = g_rSameInts := rfl
@[simp] theorem PT112_rAbs : PT112 114 = g_rAbs := rfl
@[simp] theorem PT112_rBefore : PT112 97 = g_rBefore := rfl
@[simp] theorem PT112_rSorted : PT112 75 = g_rSorted := rfl
@[simp] theorem PT112_rPut : PT112 76 = g_rPut := rfl
@[simp] theorem PT112_rNormal : PT112 45 = g_rNormal := rfl
@[simp] theorem PT112_place : PT112 62 = g_place := rfl
@[simp] theorem PT112_vHas : PT112 34 = g_vHas := rfl
@[simp] theorem PT112_vMinus : PT112 90 = g_vMinus := rfl
@[simp] theorem PT112_vCut : PT112 29 = g_vCut := rfl
@[simp] theorem PT112_vSub : PT112 65 = g_vSub := rfl
@[simp] theorem PT112_litHolds : PT112 64 = g_litHolds := rfl
@[simp] theorem PT112_litAny : PT112 36 = g_litAny := rfl
@[simp] theorem PT112_thEval : PT112 37 = g_thEval := rfl
@[simp] theorem PT112_rSame : PT112 22 = g_rSame := rfl
@[simp] theorem PT112_rTerm : PT112 73 = g_rTerm := rfl
@[simp] theorem PT112_thVars : PT112 35 = g_thVars := rfl
@[simp] theorem PT112_light : PT112 13 = g_light := rfl
@[simp] theorem PT112_r2Bytes : PT112 56 = g_r2Bytes := rfl
@[simp] theorem PT112_r2Num : PT112 84 = g_r2Num := rfl
@[simp] theorem PT112_r2Formed : PT112 43 = g_r2Formed := rfl
@[simp] theorem PT112_r2In : PT112 51 = g_r2In := rfl
@[simp] theorem PT112_r2Same : PT112 23 = g_r2Same := rfl
@[simp] theorem PT112_r2Var : PT112 72 = g_r2Var := rfl
@[simp] theorem PT112_trLight : PT112 14 = g_trLight := rfl
@[simp] theorem PT112_trGood : PT112 47 = g_trGood := rfl
@[simp] theorem PT112_r2Enc : PT112 26 = g_r2Enc := rfl
@[simp] theorem PT112_trEnc : PT112 25 = g_trEnc := rfl
end Go.Proofs.Ythdjgcjpolpgdaa
