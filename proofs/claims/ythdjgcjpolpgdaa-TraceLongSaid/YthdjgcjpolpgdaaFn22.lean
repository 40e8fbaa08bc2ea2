/- Contract of censusref22.Formed; no condition. -/
import Derived.Test.YthdjgcjpolpgdaaFb22
import Derived.Test.YthdjgcjpolpgdaaWa
namespace Go.Proofs.Ythdjgcjpolpgdaa
set_option linter.unusedVariables false
set_option linter.unusedSimpArgs false
set_option linter.unusedSectionVars false
open Go.RowKit
attribute [local simp] List.getD_cons_zero List.getD_cons_succ List.getD_nil undef gvars runL runE effA stepA dstOk wantA core lk st dl AS.ev AS.evs AS.put AS.upd updO updI nxt cPick cAlloc cBox cBuild cBuildS cLoad cStore cNil plainOf cBin cNilS isNilS nilA cUn cConvX cConvB cConv bytesOf rowB cMake cSlice slA idxA cFA cF cIA cIX cIS cI cExt cLen cApp cMM cFun cCall lenA lenM isNilM nilM cNilM cMakeM hintB cMapK cLook foundR lookR cUpd putM cDel delM findA isKeyB Instr.sameNow AS.entry AS.bound AS.callee sc1 sc2 ixOk ldA AV.flat AV.cell AV.cells Value.oneCell' fillA spl chunk zeros AS.parts AS.rows AS.shut AS.shut1 AS.shut2 AS.shutL AS.shutM AV.ids idsL idsLL eqAll bndA AV.scalar AV.scalar1 AV.isV Ef.app Ef.pk ptOf pntO wrO wr
attribute [-simp] List.getD_eq_getElem?_getD
set_option maxRecDepth 100000
theorem absI_lit {x N : Int} (h : litOk x N = true) : absI x = litVar x := by
  obtain ⟨h1, h2, h3, h4, h5⟩ := litVar_abs h
  unfold absI
  rcases h1 with h1 | h1
  · rw [if_neg (by have := h4 h1; omega), h1]
  · rw [if_pos (by have := h5 h1; omega), h1]
theorem okS_lit {x N : Int} (h : litOk x N = true) : okS x = true := by
  obtain ⟨h1, h2, _⟩ := litOk_range h
  simp only [okS, Bool.and_eq_true, decide_eq_true_eq]; exact ⟨h1, h2⟩
theorem row_hasnt {ts : List Int} {u : Int} {j : Nat} (hj : j ≤ ts.length) (h : ∀ i, i < j → litVar (ts.getD i 0) ≠ u) : sHas (varsRow 0#128 ts j) u = false := by
  induction j with
  | zero => unfold varsRow sHas; simp
  | succ j ih =>
    rw [varsRow_succ 0#128 (by omega), sHas_with, ih (by omega) (fun i hi => h i (by omega)), decide_eq_false (fun e => h j (by omega) e.1.symm)]
    rfl
theorem litOk_no {l N : Int} (hN : N ≤ 128) (h : litOk l N = false) : l = 0 ∨ N < l ∨ l < -N := by
  by_cases h0 : l = 0
  · exact .inl h0
  · by_cases h1 : N < l
    · exact .inr (.inl h1)
    · by_cases h2 : l < -N
      · exact .inr (.inr h2)
      · rw [litOk_of hN (by omega)] at h; cases h
theorem ix_nonneg {cs : List Int} {m : Int} : ∀ {k : Nat}, (∀ j, j < k → ixAsc cs m j = true) → -1 ≤ lastK cs k
  | 0, _ => by simp [lastK]
  | k + 1, h => by
    have h1 := ix_nonneg (k := k) fun j hj => h j (by omega)
    have h2 := h k (by omega)
    rw [ixAsc, Bool.and_eq_true, decide_eq_true_eq] at h2
    rw [lastK_succ]; omega
set_option maxHeartbeats 2000000 in
theorem formed_p (N m : Int) (ts cs : List Int) (hN : okI N = true) (hm : okI m = true) (ht : okInts ts = true) (hc : okInts cs = true) (hn : decide (0 ≤ N) = true ∧ decide (N ≤ 128) = true) : FnPure Try.prog 43 [aCl ts cs, .v (.int .i64 N), .v (.int .i64 m)] (.v (.bool (goodB N m ts cs))) := by
  have lt := okInts_len ht
  have lc := okInts_len hc
  rw [decide_eq_true_eq, decide_eq_true_eq] at hn
  obtain ⟨n0, n1⟩ := hn
  have hwn : IntKind.i64.wrap (-N) = -N := i64w (by omega) (by omega)
  unfold aCl goodB
  refine fn_sp TT_ok Try.func43 (c := _) rfl (by simp [Try.ntmps43]) (fun B hI0 hro => ?_)
  rw [Try.ntmps43]
  simp only [enumA]
  refine amGo PT70_ok (h := ?_)
  refine s_loop (J := fun i : {k : Nat // k ≤ ts.length ∧ ∀ j, j < k → tmOk N ts j = true} => ⟨90, [(1, .v (.int .i64 N)), (2, .v (.int .i64 m)), (3, .ptr 0 0 0), (7, .v (.int .i64 (i.1 : Int)))], [(0, ⟨27, 2, [[aInts ts, aInts cs]]⟩)], [0]⟩) (μ := fun i => ts.length - i.1) ⟨0, Nat.zero_le _, fun j hj => by omega⟩ ?_ (fun ⟨k, hk, he⟩ => ?_)
  · (refine weak_id rfl ?_ ?_ <;> ((try simp only [List.mem_cons, List.not_mem_nil, or_false, forall_eq_or_imp, forall_eq]); (try simp (disch := omega) [i64w, *])))
  have hcs := hc
  clear hc
  refine amGo PT70_ok (h := ?_)
  (focus ((with_reducible refine sp_cond (b := ?_) ?_ (fun hc => ?_) (fun hc => ?_)); rotate_left; (focus (first | rfl | (simp [lk, AS.ev]; rfl))); all_goals (try simp at hc)))
  · have hkk := hc
    clear hc
    have hl := okI_iff.2 (okInts_at ht k)
    cases h1 : litOk (ts.getD k 0) N
    · have hf := all_range_f (f := tmOk N ts) hkk (by unfold tmOk; rw [h1]; rfl)
      by_cases g1 : ts.getD k 0 = 0
      · refine amGo PT70_ok (h := ?_)
        ((refine post_ret (av := ?_) (by first | exact .inl rfl | exact .inr rfl) (show (Try.f43).results.toList = _ from by rw [Try.results43]) ?_ ?_); rotate_left; (focus (simp [retA, retL, ret1, lk, st, ldA, AV.cell]; rfl)); (try simp [*]))
      · have gb : (ts.getD k 0 == 0) = false := by simp only [beq_eq_false_iff_ne]; exact g1
        by_cases g2 : N < ts.getD k 0
        · refine amGo PT70_ok (h := ?_)
          ((refine post_ret (av := ?_) (by first | exact .inl rfl | exact .inr rfl) (show (Try.f43).results.toList = _ from by rw [Try.results43]) ?_ ?_); rotate_left; (focus (simp [retA, retL, ret1, lk, st, ldA, AV.cell]; rfl)); (try simp [*]))
        · have g3 : ts.getD k 0 < -N := by rcases litOk_no n1 h1 with h | h | h; exact absurd h g1; exact absurd h g2; exact h
          refine amGo PT70_ok (h := ?_)
          ((refine post_ret (av := ?_) (by first | exact .inl rfl | exact .inr rfl) (show (Try.f43).results.toList = _ from by rw [Try.results43]) ?_ ?_); rotate_left; (focus (simp [retA, retL, ret1, lk, st, ldA, AV.cell]; rfl)); (try simp [*]))
    · have hlo := h1
      obtain ⟨r1, r2, g1, r4, r5⟩ := litOk_range h1
      have gb : (ts.getD k 0 == 0) = false := by simp only [beq_eq_false_iff_ne]; exact g1
      have g2 : ¬ N < ts.getD k 0 := by omega
      have g3 : ¬ ts.getD k 0 < -N := by omega
      have hax := absI_lit h1
      have hos := okS_lit h1
      have hbe : ∀ j, j < k → litOk (ts.getD j 0) N = true := fun j hj => by have := he j hj; rw [tmOk, Bool.and_eq_true] at this; exact this.1
      refine amGo PT70_ok (h := ?_)
      refine s_loop (J := fun i : {j : Nat // j ≤ k ∧ ∀ i, i < j → litVar (ts.getD i 0) ≠ litVar (ts.getD k 0)} => ⟨90, [(1, .v (.int .i64 N)), (2, .v (.int .i64 m)), (3, .ptr 0 0 0), (7, .v (.int .i64 (k : Int))), (8, .v (.int .i64 (ts.getD k 0))), (9, .v (.int .i64 (i.1 : Int)))], [(0, ⟨27, 2, [[aInts ts, aInts cs]]⟩)], [0]⟩) (μ := fun i => k - i.1) ⟨0, Nat.zero_le _, fun j hj => by omega⟩ ?_ (fun ⟨j, hj, hd⟩ => ?_)
      · (refine weak_id rfl ?_ ?_ <;> ((try simp only [List.mem_cons, List.not_mem_nil, or_false, forall_eq_or_imp, forall_eq]); (try simp (disch := omega) [i64w, *])))
      refine amGo PT70_ok (h := ?_)
      (focus ((with_reducible refine sp_cond (b := ?_) ?_ (fun hc => ?_) (fun hc => ?_)); rotate_left; (focus (first | rfl | (simp [lk, AS.ev]; rfl))); all_goals (try simp at hc)))
      · have hjk := hc
        have hjl : j < ts.length := by omega
        have hlj := okI_iff.2 (okInts_at ht j)
        have hol := hbe j hjk
        have hoj := okS_lit hol
        have haj := absI_lit hol
        clear hc hol
        have hhas := row_has n1 hk hbe j hjk
        clear hbe
        by_cases e : litVar (ts.getD j 0) = litVar (ts.getD k 0)
        · have hf := all_range_f (f := tmOk N ts) hkk (by unfold tmOk; rw [← e, hhas, Bool.not_true, Bool.and_false])
          have eb : (litVar (ts.getD j 0) == litVar (ts.getD k 0)) = true := by simp only [beq_iff_eq]; exact e
          clear hhas e
          refine amGo PT70_ok (h := ?_)
          ((refine post_ret (av := ?_) (by first | exact .inl rfl | exact .inr rfl) (show (Try.f43).results.toList = _ from by rw [Try.results43]) ?_ ?_); rotate_left; (focus (simp [retA, retL, ret1, lk, st, ldA, AV.cell]; rfl)); (try simp [*]))
        · clear hhas
          have eb : (litVar (ts.getD j 0) == litVar (ts.getD k 0)) = false := by simp only [beq_eq_false_iff_ne]; exact e
          refine amGo PT70_ok (h := ?_)
          refine k_lp (⟨j + 1, by omega, fun i hi => ?_⟩ : {j : Nat // j ≤ k ∧ ∀ i, i < j → litVar (ts.getD i 0) ≠ litVar (ts.getD k 0)}) (by first | (dsimp only; omega) | omega) ?_
          · by_cases e2 : i < j
            · exact hd i e2
            · obtain rfl : i = j := by omega
              exact e
          · (refine weak_id rfl ?_ ?_ <;> ((try simp only [List.mem_cons, List.not_mem_nil, or_false, forall_eq_or_imp, forall_eq]); (try simp (disch := omega) [i64w, *])))
      · obtain rfl : j = k := by omega
        clear hc
        have h3 : tmOk N ts j = true := by unfold tmOk; rw [h1, row_hasnt hk hd]; rfl
        refine amGo PT70_ok (h := ?_)
        refine k_lp (⟨j + 1, by omega, fun i hi => ?_⟩ : {k : Nat // k ≤ ts.length ∧ ∀ j, j < k → tmOk N ts j = true}) (by first | (dsimp only; omega) | omega) ?_
        · by_cases e : i < j
          · exact he i e
          · obtain rfl : i = j := by omega
            exact h3
        · (refine weak_id rfl ?_ ?_ <;> ((try simp only [List.mem_cons, List.not_mem_nil, or_false, forall_eq_or_imp, forall_eq]); (try simp (disch := omega) [i64w, *])))
  · obtain rfl : k = ts.length := by omega
    clear hc
    have ha := all_range he
    refine amGo PT70_ok (h := ?_)
    refine s_loop (J := fun i : {k : Nat // k ≤ cs.length ∧ ∀ j, j < k → ixAsc cs m j = true} => ⟨90, [(2, .v (.int .i64 m)), (3, .ptr 0 0 0), (10, .v (.int .i64 (i.1 : Int)))], [(0, ⟨27, 2, [[aInts ts, aInts cs]]⟩)], [0]⟩) (μ := fun i => cs.length - i.1) ⟨0, Nat.zero_le _, fun j hj => by omega⟩ ?_ (fun ⟨k, hk, hf⟩ => ?_)
    · (refine weak_id rfl ?_ ?_ <;> ((try simp only [List.mem_cons, List.not_mem_nil, or_false, forall_eq_or_imp, forall_eq]); (try simp (disch := omega) [i64w, *])))
    refine amGo PT70_ok (h := ?_)
    (focus ((with_reducible refine sp_cond (b := ?_) ?_ (fun hc => ?_) (fun hc => ?_)); rotate_left; (focus (first | rfl | (simp [lk, AS.ev]; rfl))); all_goals (try simp at hc)))
    · have hkk := hc
      clear hc
      have hnn := ix_nonneg hf
      by_cases q1 : cs.getD k 0 < 0
      · have hff := all_range_f (f := ixAsc cs m) hkk (by unfold ixAsc; rw [decide_eq_false (show ¬ lastK cs k < cs.getD k 0 by omega)]; rfl)
        refine amGo PT70_ok (h := ?_)
        ((refine post_ret (av := ?_) (by first | exact .inl rfl | exact .inr rfl) (show (Try.f43).results.toList = _ from by rw [Try.results43]) ?_ ?_); rotate_left; (focus (simp [retA, retL, ret1, lk, st, ldA, AV.cell]; rfl)); (try simp [*]))
      · by_cases q2 : m ≤ cs.getD k 0
        · have hff := all_range_f (f := ixAsc cs m) hkk (by unfold ixAsc; rw [decide_eq_false (show ¬ cs.getD k 0 < m by omega), Bool.and_false])
          refine amGo PT70_ok (h := ?_)
          ((refine post_ret (av := ?_) (by first | exact .inl rfl | exact .inr rfl) (show (Try.f43).results.toList = _ from by rw [Try.results43]) ?_ ?_); rotate_left; (focus (simp [retA, retL, ret1, lk, st, ldA, AV.cell]; rfl)); (try simp [*]))
        · rcases Nat.eq_zero_or_pos k with rfl | hp2
          ·
            have h3 : ixAsc cs m 0 = true := by unfold ixAsc; rw [decide_eq_true (show lastK cs 0 < cs.getD 0 0 by simp only [lastK, if_true]; omega), decide_eq_true (show cs.getD 0 0 < m by omega)]; rfl
            refine amGo PT70_ok (h := ?_)
            refine k_lp (⟨0 + 1, by omega, fun j hj => ?_⟩ : {k : Nat // k ≤ cs.length ∧ ∀ j, j < k → ixAsc cs m j = true}) (by first | (dsimp only; omega) | omega) ?_
            · obtain rfl : j = 0 := by omega
              exact h3
            · (refine weak_id rfl ?_ ?_ <;> ((try simp only [List.mem_cons, List.not_mem_nil, or_false, forall_eq_or_imp, forall_eq]); (try simp (disch := omega) [i64w, *])))
          · have hlk : lastK cs k = cs.getD (k - 1) 0 := by unfold lastK; rw [if_neg (by omega)]
            obtain ⟨i, hi⟩ : ∃ i, k - 1 = i := ⟨_, rfl⟩
            rw [hi] at hlk
            have hs1 : (k : Int) - 1 = (i : Int) := by omega
            have hw1 : IntKind.i64.wrap (i : Int) = i := i64n i (by omega)
            have hk2 : i < cs.length := by omega
            have hp1 : (0 : Int) < (k : Int) := by omega
            have hi2 : ∀ j, j < k + 1 → ¬ j < k → j = k := fun j h1 h2 => by omega
            clear hi
            by_cases q3 : cs.getD k 0 ≤ cs.getD i 0
            · have hff := all_range_f (f := ixAsc cs m) hkk (by unfold ixAsc; rw [hlk, decide_eq_false (show ¬ cs.getD i 0 < cs.getD k 0 by omega)]; rfl)
              refine amGo PT70_ok (h := ?_)
              ((refine post_ret (av := ?_) (by first | exact .inl rfl | exact .inr rfl) (show (Try.f43).results.toList = _ from by rw [Try.results43]) ?_ ?_); rotate_left; (focus (simp [retA, retL, ret1, lk, st, ldA, AV.cell]; rfl)); (try simp [*]))
            · have h3 : ixAsc cs m k = true := by unfold ixAsc; rw [hlk, decide_eq_true (show cs.getD i 0 < cs.getD k 0 by omega), decide_eq_true (show cs.getD k 0 < m by omega)]; rfl
              refine amGo PT70_ok (h := ?_)
              refine k_lp (⟨k + 1, by omega, fun j hj => ?_⟩ : {k : Nat // k ≤ cs.length ∧ ∀ j, j < k → ixAsc cs m j = true}) (by first | (dsimp only; omega) | omega) ?_
              · by_cases e : j < k
                · exact hf j e
                · obtain rfl := hi2 j hj e
                  exact h3
              · (refine weak_id rfl ?_ ?_ <;> ((try simp only [List.mem_cons, List.not_mem_nil, or_false, forall_eq_or_imp, forall_eq]); (try simp (disch := omega) [i64w, *])))
    · obtain rfl : k = cs.length := by omega
      have hb := all_range hf
      refine amGo PT70_ok (h := ?_)
      ((refine post_ret (av := ?_) (by first | exact .inl rfl | exact .inr rfl) (show (Try.f43).results.toList = _ from by rw [Try.results43]) ?_ ?_); rotate_left; (focus (simp [retA, retL, ret1, lk, st, ldA, AV.cell]; rfl)); (try simp [*]))
@[simp] def g_r2Formed : List AV → Option (AV × Bool)
  | [.agg [a0, b0], .v (.int .i64 N), .v (.int .i64 m)] => (match toInts a0 with | some ts => (match toInts b0 with | some cs => if (okInts ts && okInts cs && okI N && okI m && (decide (0 ≤ N) && decide (N ≤ 128))) = true then some (.v (.bool (goodB N m ts cs)), false) else none | none => none) | none => none)
  | _ => none
theorem e_r2Formed : EntOk Try.prog 43 g_r2Formed := ent_pure (by kernel_rfl) fun args r fr h => by
  unfold g_r2Formed at h
  split at h
  · rename_i a0 b0 N m
    split at h
    · rename_i ts t0
      split at h
      · rename_i cs s0
        split at h
        · rename_i hc
          simp only [Bool.and_eq_true] at hc
          obtain ⟨⟨⟨⟨o0, p0⟩, o1⟩, o2⟩, hk⟩ := hc
          cases h
          exact ⟨FnPure.cov (formed_p N m ts cs o1 o2 o0 p0 hk) (.cons (cov_cl t0 s0) (.cons (Cov.refl _) (.cons (Cov.refl _) .nil))), rfl⟩
        · cases h
      · cases h
    · cases h
  · cases h

def l71 : List (FuncId × (List AV → Option (AV × Bool))) :=
  (43, g_r2Formed) :: l70
theorem l71_ok : ∀ p ∈ l71, EntOk Try.prog p.1 p.2 := ent_cons e_r2Formed (l70_ok)
def PT71 : PTab := tab l71
theorem PT71_ok : PTok Try.prog PT71 := tab_ok l71_ok
@[simp] theorem PT71_litVar : PT71 32 = g_litVar := rfl
@[simp] theorem PT71_litValid : PT71 77 = g_litValid := rfl
@[simp] theorem PT71_contains : PT71 50 = g_contains := rfl
@[simp] theorem PT71_check : PT71 46 = g_check := rfl
@[simp] theorem PT71_with : PT71 33 = g_with := rfl
@[simp] theorem PT71_without : PT71 31 = g_without := rfl
@[simp] theorem PT71_all : PT71 30 = g_all := rfl
@[simp] theorem PT71_rValid : PT71 71 = g_rValid := rfl
@[simp] theorem PT71_rCheck : PT71 42 = g_rCheck := rfl
@[simp] theorem PT71_litvalid : PT71 85 = g_litvalid := rfl
@[simp] theorem PT71_opposite : PT71 87 = g_opposite := rfl
@[simp] theorem PT71_clone : PT71 99 = g_clone := rfl
@[simp] theorem PT71_order : PT71 86 = g_order := rfl
@[simp] theorem PT71_term : PT71 69 = g_term := rfl
@[simp] theorem PT71_clause : PT71 57 = g_clause := rfl
@[simp] theorem PT71_equal : PT71 61 = g_equal := rfl
@[simp] theorem PT71_distinct : PT71 60 = g_distinct := rfl
@[simp] theorem PT71_normal : PT71 27 = g_normal := rfl
@[simp] theorem PT71_rContains : PT71 74 = g_rContains := rfl
@[simp] theorem PT71_rSameInts : PT71 52 = g_rSameInts := rfl
@[simp] theorem PT71_rAbs : PT71 114 = g_rAbs := rfl
@[simp] theorem PT71_rBefore : PT71 97 = g_rBefore := rfl
@[simp] theorem PT71_rSorted : PT71 75 = g_rSorted := rfl
@[simp] theorem PT71_rPut : PT71 76 = g_rPut := rfl
@[simp] theorem PT71_rNormal : PT71 45 = g_rNormal := rfl
@[simp] theorem PT71_place : PT71 62 = g_place := rfl
@[simp] theorem PT71_vHas : PT71 34 = g_vHas := rfl
@[simp] theorem PT71_vMinus : PT71 90 = g_vMinus := rfl
@[simp] theorem PT71_vCut : PT71 29 = g_vCut := rfl
@[simp] theorem PT71_vSub : PT71 65 = g_vSub := rfl
@[simp] theorem PT71_litHolds : PT71 64 = g_litHolds := rfl
@[simp] theorem PT71_litAny : PT71 36 = g_litAny := rfl
@[simp] theorem PT71_thEval : PT71 37 = g_thEval := rfl
@[simp] theorem PT71_rSame : PT71 22 = g_rSame := rfl
@[simp] theorem PT71_rTerm : PT71 73 = g_rTerm := rfl
@[simp] theorem PT71_thVars : PT71 35 = g_thVars := rfl
@[simp] theorem PT71_light : PT71 13 = g_light := rfl
@[simp] theorem PT71_r2In : PT71 51 = g_r2In := rfl
@[simp] theorem PT71_r2Same : PT71 23 = g_r2Same := rfl
@[simp] theorem PT71_r2Var : PT71 72 = g_r2Var := rfl
@[simp] theorem PT71_trLight : PT71 14 = g_trLight := rfl
@[simp] theorem PT71_trGood : PT71 47 = g_trGood := rfl
@[simp] theorem PT71_r2Formed : PT71 43 = g_r2Formed := rfl
end Go.Proofs.Ythdjgcjpolpgdaa
