/- TraceBack: claims that are written are read as they were; bytes that are accepted are those of the claims that are read. -/
import Derived.Test.YthdjgcjpolpgdaaSgG
import Derived.Test.YthdjgcjpolpgdaaWa
import Derived.Test.YthdjgcjpolpgdaaRows
namespace Go.Proofs.Ythdjgcjpolpgdaa
set_option linter.unusedVariables false
set_option linter.unusedSimpArgs false
set_option linter.unusedSectionVars false
open Go.RowKit Go.WideShapes Go.ChangeShapes Go.ChangeAt
attribute [local simp] List.getD_cons_zero List.getD_cons_succ List.getD_nil undef gvars runL runE effA stepA dstOk wantA core lk st dl AS.ev AS.evs AS.put AS.upd updO updI nxt cPick cAlloc cBox cBuild cBuildS cLoad cStore cNil plainOf cBin cNilS isNilS nilA cUn cConvX cConvB cConv bytesOf rowB cMake cSlice slA idxA cFA cF cIA cIX cIS cI cExt cLen cApp cMM cFun cCall lenA lenM isNilM nilM cNilM cMakeM hintB cMapK cLook foundR lookR cUpd putM cDel delM findA isKeyB Instr.sameNow AS.entry AS.bound AS.callee sc1 sc2 ixOk ldA AV.flat AV.cell AV.cells Value.oneCell' fillA spl chunk zeros AS.parts AS.rows AS.shut AS.shut1 AS.shut2 AS.shutL AS.shutM AV.ids idsL idsLL eqAll bndA AV.scalar AV.scalar1 AV.isV Ef.app Ef.pk ptOf pntO wrO wr
attribute [-simp] List.getD_eq_getElem?_getD
set_option maxRecDepth 100000
theorem decode_pA (b : List Int) (hb : okB b = true) (hk : decide (b.length ≤ 9223372036854775807) = true) : FnPure Try.prog 38 [aB b] (decA b) := decode_p b hb (of_decide_eq_true hk)
@[simp] def g_trDecA : List AV → Option (AV × Bool)
  | [a0] => (match toB a0 with | some b => if (okB b && decide (b.length ≤ 9223372036854775807)) = true then some (decA b, false) else none | none => none)
  | _ => none
theorem e_trDecA : EntOk Try.prog 38 g_trDecA := ent_pure (by kernel_rfl) fun args r fr h => by
  unfold g_trDecA at h
  split at h
  · rename_i a0
    split at h
    · rename_i b t0
      split at h
      · rename_i hc
        simp only [Bool.and_eq_true] at hc
        obtain ⟨o0, hk⟩ := hc
        cases h
        exact ⟨FnPure.cov (decode_pA b o0 hk) (.cons (cov_B t0) .nil), rfl⟩
      · cases h
    · cases h
  · cases h

def l115 : List (FuncId × (List AV → Option (AV × Bool))) :=
  (38, g_trDecA) :: l113
theorem l115_ok : ∀ p ∈ l115, EntOk Try.prog p.1 p.2 := ent_cons e_trDecA (l113_ok)
def PT115 : PTab := tab l115
theorem PT115_ok : PTok Try.prog PT115 := tab_ok l115_ok
@[simp] theorem PT115_litVar : PT115 32 = g_litVar := rfl
@[simp] theorem PT115_litValid : PT115 77 = g_litValid := rfl
@[simp] theorem PT115_contains : PT115 50 = g_contains := rfl
@[simp] theorem PT115_check : PT115 46 = g_check := rfl
@[simp] theorem PT115_with : PT115 33 = g_with := rfl
@[simp] theorem PT115_without : PT115 31 = g_without := rfl
@[simp] theorem PT115_all : PT115 30 = g_all := rfl
@[simp] theorem PT115_rValid : PT115 71 = g_rValid := rfl
@[simp] theorem PT115_rCheck : PT115 42 = g_rCheck := rfl
@[simp] theorem PT115_litvalid : PT115 85 = g_litvalid := rfl
@[simp] theorem PT115_opposite : PT115 87 = g_opposite := rfl
@[simp] theorem PT115_clone : PT115 99 = g_clone := rfl
@[simp] theorem PT115_order : PT115 86 = g_order := rfl
@[simp] theorem PT115_term : PT115 69 = g_term := rfl
@[simp] theorem PT115_clause : PT115 57 = g_clause := rfl
@[simp] theorem PT115_equal : PT115 61 = g_equal := rfl
@[simp] theorem PT115_distinct : PT115 60 = g_distinct := rfl
@[simp] theorem PT115_normal : PT115 27 = g_normal := rfl
@[simp] theorem PT115_rContains : PT115 74 = g_rContains := rfl
@[simp] theorem PT115_rSameInts : PT115 52 = g_rSameInts := rfl
@[simp] theorem PT115_rAbs : PT115 114 = g_rAbs := rfl
@[simp] theorem PT115_rBefore : PT115 97 = g_rBefore := rfl
@[simp] theorem PT115_rSorted : PT115 75 = g_rSorted := rfl
@[simp] theorem PT115_rPut : PT115 76 = g_rPut := rfl
@[simp] theorem PT115_rNormal : PT115 45 = g_rNormal := rfl
@[simp] theorem PT115_place : PT115 62 = g_place := rfl
@[simp] theorem PT115_vHas : PT115 34 = g_vHas := rfl
@[simp] theorem PT115_vMinus : PT115 90 = g_vMinus := rfl
@[simp] theorem PT115_vCut : PT115 29 = g_vCut := rfl
@[simp] theorem PT115_vSub : PT115 65 = g_vSub := rfl
@[simp] theorem PT115_litHolds : PT115 64 = g_litHolds := rfl
@[simp] theorem PT115_litAny : PT115 36 = g_litAny := rfl
@[simp] theorem PT115_thEval : PT115 37 = g_thEval := rfl
@[simp] theorem PT115_rSame : PT115 22 = g_rSame := rfl
@[simp] theorem PT115_rTerm : PT115 73 = g_rTerm := rfl
@[simp] theorem PT115_thVars : PT115 35 = g_thVars := rfl
@[simp] theorem PT115_light : PT115 13 = g_light := rfl
@[simp] theorem PT115_trWorks : PT115 15 = g_trWorks := rfl
@[simp] theorem PT115_copiedL : PT115 17 = g_copiedL := rfl
@[simp] theorem PT115_sameCls : PT115 24 = g_sameCls := rfl
@[simp] theorem PT115_r2Enc : PT115 26 = g_r2Enc := rfl
@[simp] theorem PT115_trEnc : PT115 25 = g_trEnc := rfl
@[simp] theorem PT115_r2Bytes : PT115 56 = g_r2Bytes := rfl
@[simp] theorem PT115_r2Num : PT115 84 = g_r2Num := rfl
@[simp] theorem PT115_r2Formed : PT115 43 = g_r2Formed := rfl
@[simp] theorem PT115_r2In : PT115 51 = g_r2In := rfl
@[simp] theorem PT115_r2Same : PT115 23 = g_r2Same := rfl
@[simp] theorem PT115_r2Var : PT115 72 = g_r2Var := rfl
@[simp] theorem PT115_trLight : PT115 14 = g_trLight := rfl
@[simp] theorem PT115_trGood : PT115 47 = g_trGood := rfl
@[simp] theorem PT115_trDecA : PT115 38 = g_trDecA := rfl
theorem full_few {l : List Cl} (h : l.length ≤ 60) (hf : l.all clG = true) : (fullB l).length ≤ maxB := by
  have h2 := flat_len clB 40000 l (fun c hc => clB_len (List.all_eq_true.1 hf c hc))
  have h3 := numB_len9 (n := l.length) (by omega)
  have hmax : maxB = 16777216 := rfl
  simp only [fullB, List.length_append]
  omega
theorem encF_ok {l : List Cl} (h : l.length ≤ 65536) (hf : l.all clG = true) (hm : (fullB l).length ≤ maxB) : encF l = .tup [aB (fullB l), .v (.int .i64 0)] := by
  unfold encF
  rw [if_neg (by omega), if_neg (by rw [hf]; decide), if_neg (by omega)]
theorem encF_no {l : List Cl} (h : l.length ≤ 65536) (hf : l.all clG = false) : encF l = .tup [.v (.slice none 0 0), .v (.int .i64 1)] := by
  unfold encF
  rw [if_neg (by omega), if_pos hf]
theorem decA_full {l : List Cl} (h : l.length ≤ 65536) (hf : l.all clG = true) (hm : (fullB l).length ≤ maxB) : decA (fullB l) = .tup [aCls l, .v (.int .i64 0)] := by
  unfold decA
  rw [if_neg (by omega), rdC_rt hf h]
  rfl
theorem decA_or {b : List Int} (hb : okB b = true) (hl : b.length ≤ 3000) : decA b = .tup [.v (.slice none 0 0), .v (.int .i64 5)] ∨ ∃ l, decA b = .tup [aCls l, .v (.int .i64 0)] ∧ okCl l = true ∧ encF l = .tup [aB b, .v (.int .i64 0)] := by
  have hok := (rdC_ok b false hb).1
  unfold decA
  have hmax : maxB = 16777216 := rfl
  rw [if_neg (by omega)]
  obtain ⟨⟨l, b2, bd⟩, hR⟩ : ∃ X, rdC b false = X := ⟨_, rfl⟩
  rw [hR] at hok ⊢
  dsimp only at hok ⊢
  by_cases hs : (bd || decide (0 < b2.length)) = true
  · rw [if_pos hs]; exact .inl rfl
  · rw [if_neg hs]
    rw [Bool.or_eq_true, not_or, decide_eq_true_eq] at hs
    have hbd : bd = false := by simpa using hs.1
    have hb2 : b2 = [] := List.eq_nil_of_length_eq_zero (by omega)
    subst hbd
    subst hb2
    obtain ⟨h1, h2, h3⟩ := rdC_inv hb hR
    rw [List.append_nil] at h3
    refine .inr ⟨l, rfl, hok, ?_⟩
    rw [encF_ok h2 h1 (by rw [← h3]; omega), ← h3]
theorem okLC_at {l : List Cl} (h : okLC l = true) {k : Nat} (hk : k < l.length) : okIL (l.getD k ([], [])).1 = true ∧ okIL (l.getD k ([], [])).2 = true := by
  unfold okLC at h
  rw [Bool.and_eq_true] at h
  have := List.all_eq_true.1 h.1 _ (cl_mem hk)
  rwa [Bool.and_eq_true] at this
theorem okCl_of {l : List Cl} (h : okLC l = true) (hn : l.length ≤ 60) (hl : ∀ j, j < l.length → lightC (l.getD j ([], [])).1 (l.getD j ([], [])).2 = true) : okCl l = true := by
  unfold okCl
  rw [Bool.and_eq_true, decide_eq_true_eq]
  refine ⟨by omega, List.all_eq_true.2 fun p hp => ?_⟩
  obtain ⟨j, hj, rfl⟩ := List.getElem_of_mem hp
  have e : l.getD j ([], []) = l[j] := by simp [List.getD, hj]
  obtain ⟨h1, h2⟩ := okLC_at h hj
  have h3 := hl j hj
  rw [e] at h1 h2 h3
  obtain ⟨g1, g2, _, _⟩ := lightC_ok h1 h2 h3
  rw [g1, g2]; rfl
attribute [local simp] bytes_idem aB aCls
set_option maxHeartbeats 4000000 in
theorem traceBack_p (l : List Cl) (b : List Int) (hl : okLC l = true) (hb : okB b = true) (hbl : b.length ≤ 9223372036854775807) : FnPure Try.prog 10 [aCls l, aB b] (.v (.bool true)) := by
  have hlen : l.length ≤ 9223372036854775807 := by
    unfold okLC at hl
    rw [Bool.and_eq_true, decide_eq_true_eq] at hl
    exact hl.2
  have hlm : (b.map fun x => [AV.v (.int .u8 x)]).length = b.length := List.length_map _
  unfold aCls aB
  by_cases h60 : l.length ≤ 60
  · have g1 : ¬ ((60 : Int) < (l.length : Int)) := by omega
    by_cases h3 : b.length ≤ 3000
    · have g2 : ¬ ((3000 : Int) < (b.length : Int)) := by omega
      refine fn_sp TT_ok Try.func10 (c := _) rfl (by simp [Try.ntmps10]) (fun B hI0 hro => ?_)
      rw [Try.ntmps10]
      simp only [enumA]
      refine amStr (h := ?_)
      refine amReg PT115_ok (h := ?_)
      refine amStr (h := ?_)
      refine amReg PT115_ok (h := ?_)
      refine amStr (h := ?_)
      refine amReg PT115_ok (h := ?_)
      refine amStr (h := ?_)
      refine s_loop (J := fun i : {k : Nat // k ≤ l.length ∧ ∀ j, j < k → lightC (l.getD j ([], [])).1 (l.getD j ([], [])).2 = true} => ⟨85, [(0, .sl 2 (l.map fun p => [aInts p.1, aInts p.2])), (1, .sl 1 (b.map fun x => [.v (.int .u8 x)])), (24, .sl 2 (l.map fun p => [aInts p.1, aInts p.2])), (25, .v (.int .i64 (l.length : Int))), (26, .v (.int .i64 (i.1 : Int)))], [], []⟩) (μ := fun i => l.length - i.1) ⟨0, Nat.zero_le _, fun j hj => by omega⟩ ?_ (fun ⟨k, hk, he⟩ => ?_)
      · (refine weak_id rfl ?_ ?_ <;> ((try simp only [List.mem_cons, List.not_mem_nil, or_false, forall_eq_or_imp, forall_eq]); (try simp (disch := omega) [i64w, *])))
      refine amStr (h := ?_)
      refine amReg PT115_ok (h := ?_)
      refine amStr (h := ?_)
      (focus ((with_reducible refine sp_cond (b := ?_) ?_ (fun hc => ?_) (fun hc => ?_)); rotate_left; (focus (first | rfl | (simp [lk, AS.ev]; rfl))); all_goals (try simp at hc)))
      · have hkk := hc
        clear hc
        obtain ⟨o1, o2⟩ := okLC_at hl hkk
        have wk : IntKind.i64.wrap ((k : Int) + 1) = (k : Int) + 1 := i64s k (by omega)
        have hlt : lightC (l.getD k ([], [])).1 (l.getD k ([], [])).2 = true → ∀ j, j < k + 1 → lightC (l.getD j ([], [])).1 (l.getD j ([], [])).2 = true := fun h j hj => by
          by_cases e : j < k
          · exact he j e
          · obtain rfl : j = k := by omega
            exact h
        obtain ⟨ts, cs, hp⟩ : ∃ ts cs, l.getD k ([], []) = (ts, cs) := ⟨_, _, rfl⟩
        rw [hp] at o1 o2 hlt
        dsimp only at o1 o2 hlt
        cases h4 : lightC ts cs
        · clear hlt
          refine amStr (h := ?_)
          refine amReg PT115_ok (h := ?_)
          refine amStr (h := ?_)
          refine amReg PT115_ok (h := ?_)
          refine amStr (h := ?_)
          refine amReg PT115_ok (h := ?_)
          refine amStr (h := ?_)
          ((refine post_ret (av := ?_) (by first | exact .inl rfl | exact .inr rfl) (show (Try.f10).results.toList = _ from by rw [Try.results10]) ?_ ?_); rotate_left; (focus (simp [retA, retL, ret1, lk, st, ldA, AV.cell]; rfl)); (try simp [*]))
        · have he2 := hlt h4
          clear hlt
          refine amStr (h := ?_)
          refine amReg PT115_ok (h := ?_)
          refine amStr (h := ?_)
          refine amReg PT115_ok (h := ?_)
          refine amStr (h := ?_)
          refine amReg PT115_ok (h := ?_)
          refine amStr (h := ?_)
          refine k_lp (⟨k + 1, by omega, he2⟩ : {k : Nat // k ≤ l.length ∧ ∀ j, j < k → lightC (l.getD j ([], [])).1 (l.getD j ([], [])).2 = true}) (by first | (dsimp only; omega) | omega) ?_
          (refine weak_id rfl ?_ ?_ <;> ((try simp only [List.mem_cons, List.not_mem_nil, or_false, forall_eq_or_imp, forall_eq]); (try simp (disch := omega) [i64w, *])))
      · obtain rfl : k = l.length := by omega
        clear hc
        have hok := okCl_of hl h60 he
        have hfb : okB (fullB l) = true := fullB_by l
        have hlf : ((fullB l).map fun x => [AV.v (.int .u8 x)]).length = (fullB l).length := List.length_map _
        clear hlm
        by_cases hf : l.all clG = false
        · have hE := encF_no (l := l) (by omega) hf
          rcases decA_or hb h3 with hD | ⟨m, hD, hm, hE2⟩
          · refine amStr (h := ?_)
            refine amReg PT115_ok (h := ?_)
            refine amStr (h := ?_)
            refine amReg PT115_ok (h := ?_)
            refine amStr (h := ?_)
            refine amReg PT115_ok (h := ?_)
            refine amStr (h := ?_)
            refine amReg PT115_ok (h := ?_)
            refine amStr (h := ?_)
            refine amReg PT115_ok (h := ?_)
            refine amStr (h := ?_)
            ((refine post_ret (av := ?_) (by first | exact .inl rfl | exact .inr rfl) (show (Try.f10).results.toList = _ from by rw [Try.results10]) ?_ ?_); rotate_left; (focus (simp [retA, retL, ret1, lk, st, ldA, AV.cell]; rfl)); (try simp [*]))
          · unfold aCls at hD
            unfold aB at hE2
            refine amStr (h := ?_)
            refine amReg PT115_ok (h := ?_)
            refine amStr (h := ?_)
            refine amReg PT115_ok (h := ?_)
            refine amStr (h := ?_)
            refine amReg PT115_ok (h := ?_)
            refine amStr (h := ?_)
            refine amReg PT115_ok (h := ?_)
            refine amStr (h := ?_)
            refine amReg PT115_ok (h := ?_)
            refine amStr (h := ?_)
            refine amReg PT115_ok (h := ?_)
            refine amStr (h := ?_)
            ((refine post_ret (av := ?_) (by first | exact .inl rfl | exact .inr rfl) (show (Try.f10).results.toList = _ from by rw [Try.results10]) ?_ ?_); rotate_left; (focus (simp [retA, retL, ret1, lk, st, ldA, AV.cell]; rfl)); (try simp [*]))
        · have hf2 : l.all clG = true := by simpa using hf
          have hfm := full_few h60 hf2
          have hE := encF_ok (l := l) (by omega) hf2 hfm
          have hD1 := decA_full (l := l) (by omega) hf2 hfm
          have hfl : (fullB l).length ≤ 9223372036854775807 := by unfold maxB at hfm; omega
          unfold aB at hE
          unfold aCls at hD1
          rcases decA_or hb h3 with hD | ⟨m, hD, hm, hE2⟩
          · refine amStr (h := ?_)
            refine amReg PT115_ok (h := ?_)
            refine amStr (h := ?_)
            refine amReg PT115_ok (h := ?_)
            refine amStr (h := ?_)
            refine amReg PT115_ok (h := ?_)
            refine amStr (h := ?_)
            refine amReg PT115_ok (h := ?_)
            refine amStr (h := ?_)
            refine amReg PT115_ok (h := ?_)
            refine amStr (h := ?_)
            refine amReg PT115_ok (h := ?_)
            refine amStr (h := ?_)
            refine amReg PT115_ok (h := ?_)
            refine amStr (h := ?_)
            ((refine post_ret (av := ?_) (by first | exact .inl rfl | exact .inr rfl) (show (Try.f10).results.toList = _ from by rw [Try.results10]) ?_ ?_); rotate_left; (focus (simp [retA, retL, ret1, lk, st, ldA, AV.cell]; rfl)); (try simp [*]))
          · unfold aCls at hD
            unfold aB at hE2
            refine amStr (h := ?_)
            refine amReg PT115_ok (h := ?_)
            refine amStr (h := ?_)
            refine amReg PT115_ok (h := ?_)
            refine amStr (h := ?_)
            refine amReg PT115_ok (h := ?_)
            refine amStr (h := ?_)
            refine amReg PT115_ok (h := ?_)
            refine amStr (h := ?_)
            refine amReg PT115_ok (h := ?_)
            refine amStr (h := ?_)
            refine amReg PT115_ok (h := ?_)
            refine amStr (h := ?_)
            refine amReg PT115_ok (h := ?_)
            refine amStr (h := ?_)
            refine amReg PT115_ok (h := ?_)
            refine amStr (h := ?_)
            ((refine post_ret (av := ?_) (by first | exact .inl rfl | exact .inr rfl) (show (Try.f10).results.toList = _ from by rw [Try.results10]) ?_ ?_); rotate_left; (focus (simp [retA, retL, ret1, lk, st, ldA, AV.cell]; rfl)); (try simp [*]))
    · have g2 : (3000 : Int) < (b.length : Int) := by omega
      refine fn_sp TT_ok Try.func10 (c := _) rfl (by simp [Try.ntmps10]) (fun B hI0 hro => ?_)
      rw [Try.ntmps10]
      simp only [enumA]
      refine amStr (h := ?_)
      refine amReg PT115_ok (h := ?_)
      refine amStr (h := ?_)
      refine amReg PT115_ok (h := ?_)
      refine amStr (h := ?_)
      refine amReg PT115_ok (h := ?_)
      refine amStr (h := ?_)
      ((refine post_ret (av := ?_) (by first | exact .inl rfl | exact .inr rfl) (show (Try.f10).results.toList = _ from by rw [Try.results10]) ?_ ?_); rotate_left; (focus (simp [retA, retL, ret1, lk, st, ldA, AV.cell]; rfl)); (try simp [*]))
  · have g1 : (60 : Int) < (l.length : Int) := by omega
    refine fn_sp TT_ok Try.func10 (c := _) rfl (by simp [Try.ntmps10]) (fun B hI0 hro => ?_)
    rw [Try.ntmps10]
    simp only [enumA]
    refine amStr (h := ?_)
    refine amReg PT115_ok (h := ?_)
    refine amStr (h := ?_)
    refine amReg PT115_ok (h := ?_)
    refine amStr (h := ?_)
    refine amReg PT115_ok (h := ?_)
    refine amStr (h := ?_)
    ((refine post_ret (av := ?_) (by first | exact .inl rfl | exact .inr rfl) (show (Try.f10).results.toList = _ from by rw [Try.results10]) ?_ ?_); rotate_left; (focus (simp [retA, retL, ret1, lk, st, ldA, AV.cell]; rfl)); (try simp [*]))
namespace traceBack
set_option maxRecDepth 100000 in
theorem lifted (os : Os) (started : os.Started) (H : Type) (enc : TypeId × Value → H) :
    ReturnsInHanded {} Try.checked os 10 .any (Rows.traceBackSpec.pre6 enc Try.prog Go.Proofs.Try.f10 Rows.traceBackRow.domain false) (Rows.traceBackSpec.post enc Try.prog Go.Proofs.Try.f10 false true false false) := by
  refine returnsInHanded_of_change (C := Try.checked) (by kernel_rfl) started (by kernel_rfl) Try.func10
    (ChangeSpec.witness6 (enc := enc) (C := Try.checked) false ⟨#[], #[.slice none 0 0, .slice none 0 0], []⟩ 8 (by kernel_rfl) (by kernel_rfl) (by kernel_rfl) (by kernel_rfl)) ?_
  intro W base args ds gs before hval0 hW hcnd _
  have hval : ∀ (j : Nat) t v, (Go.Proofs.Try.f10).params[j]? = some t → args[j]? = some v → Value.okWide Try.prog W .any base t v := hval0
  have hW2 := hW
  obtain ⟨p, q, hA0, hV, _, _, _⟩ := hW
  have hA : DataW.TrodAll enc Try.prog W 0 (fun _ => true) true (Go.Proofs.Try.f10).params.toList args.toList ds p := hA0
  rw [Try.params10] at hA hval
  clear hA0 hval0 hcnd
  obtain ⟨rfl, _⟩ := trodVars_none hV
  obtain ⟨v0, vs0, d0, ds0, p0, q0, hargs, rfl, _, h0, r0⟩ := trodAll_cons hA
  obtain ⟨v1, vs1, d1, ds1, p1, q1, rfl, rfl, _, h1, r1⟩ := trodAll_cons r0
  obtain ⟨rfl, rfl, _⟩ := trodAll_nil r1
  obtain rfl : args = #[v0, v1] := by cases args; simp_all
  obtain ⟨l, ra0, oL0⟩ := arg_cls (hval 0 _ v0 rfl rfl) h0
  obtain ⟨b, ra1, oB1, oL1⟩ := arg_bytes (hval 1 _ v1 rfl rfl) h1
  refine law_of_pure (glob0 _) (avs := [aCls l, aB b]) (by kernel_rfl) hW2 rfl (rec_ok (by kernel_rfl)) (tb := 4) rfl Try.underlying4 rfl rfl rfl rfl (fun i hi => ?_) (traceBack_p l b oL0 oB1 oL1)
  match i, hi with
  | 0, _ => exact ra0
  | 1, _ => exact ra1
theorem proved : Rows.TraceBackSaid :=
  OpenClaim.holds_of_wide 10 Go.Proofs.Try.f10 rfl rfl rfl rfl rfl rfl rfl ⟨rfl, rfl, rfl, rfl, rfl⟩ rfl rfl rfl rfl rfl (by kernel_rfl) Try.func10 (by kernel_rfl)
    (of_decide_eq_true (by kernel_rfl)) (by unfold Func.isWrapper; first | (rw [if_pos (by decide +kernel)]; kernel_rfl) | (rw [if_neg (by decide +kernel)]; exact ⟨rfl, rfl⟩))
    (fun os started H enc _ => lifted os started H enc)
end traceBack
end Go.Proofs.Ythdjgcjpolpgdaa
