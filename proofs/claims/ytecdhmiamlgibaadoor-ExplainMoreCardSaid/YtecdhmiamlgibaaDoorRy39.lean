/- The reference's Formed; no condition. -/
import Derived.Test.YtecdhmiamlgibaaDoorRw39
import Derived.Test.YtecdhmiamlgibaaDoorWa
namespace Go.Proofs.YtecdhmiamlgibaaDoor
set_option linter.unusedVariables false
set_option linter.unusedSimpArgs false
set_option linter.unusedSectionVars false
open Go.RowKit
attribute [local simp] List.getD_cons_zero List.getD_cons_succ List.getD_nil undef gvars runL runE effA stepA dstOk wantA core lk st dl AS.ev AS.evs AS.put AS.upd updO updI nxt cPick cAlloc cBox cBuild cBuildS cLoad cStore cNil plainOf cBin cNilS isNilS nilA cUn cConvX cConvB cConv bytesOf rowB cMake cSlice slA idxA cFA cF cIA cIX cIS cI cExt cLen cApp cMM cFun cCall lenA lenM isNilM nilM cNilM cMakeM hintB cMapK cLook foundR lookR cUpd putM cDel delM findA isKeyB Instr.sameNow AS.entry AS.bound AS.callee sc1 sc2 ixOk ldA AV.flat AV.cell AV.cells Value.oneCell' fillA spl chunk zeros AS.parts AS.rows AS.shut AS.shut1 AS.shut2 AS.shutL AS.shutM AV.ids idsL idsLL eqAll bndA AV.scalar AV.scalar1 AV.isV Ef.app Ef.pk ptOf pntO wrO wr
attribute [-simp] List.getD_eq_getElem?_getD
set_option maxRecDepth 100000
theorem all_bad {xs : List Int} {i : Int} {j : Nat} (hj : j < xs.length) (h : badIn i (xs.getD j 0) = true) : (xs.all fun k => decide (0 ≤ k) && decide (k < i)) = false := by
  have h2 := badIn_any xs i
  have : xs.any (badIn i) = true := List.any_eq_true.2 ⟨xs.getD j 0, by simp [List.getD, hj], h⟩
  rw [this] at h2
  simpa using h2.symm
theorem all_good {xs : List Int} {i : Int} (h : ∀ j, j < xs.length → badIn i (xs.getD j 0) = false) : (xs.all fun k => decide (0 ≤ k) && decide (k < i)) = true := by
  have h2 := badIn_any xs i
  have : xs.any (badIn i) = false := by
    rw [List.any_eq_false]
    intro x hx
    obtain ⟨j, hj, rfl⟩ := List.mem_iff_getElem.1 hx
    have := h j hj
    simp only [List.getD, List.getElem?_eq_getElem hj, Option.getD_some] at this
    rw [this]; decide
  rw [this] at h2
  simpa using h2.symm
theorem rFormed_p (k l n i : Int) (xs : List Int) (hk : okI k = true) (hl : okI l = true) (hx : okInts xs = true) (hn : okI n = true) (hi : okI i = true) : FnPure Tryd.prog 69 [.agg [.v (.int .i64 k), .v (.int .i64 l), aInts xs], .v (.int .i64 n), .v (.int .i64 i)] (.v (.bool (formB (k, l, xs) n i))) := by
  have hm := okInts_len hx
  unfold formB
  refine fn_sp TT_ok Tryd.func69 (c := _) rfl (by simp [Tryd.ntmps69]) (fun B hI0 hro => ?_)
  rw [Tryd.ntmps69]
  simp only [enumA]
  refine amGo PT133_ok (h := ?_)
  refine s_loop (J := fun j : {j : Nat // j ≤ xs.length ∧ ∀ m, m < j → badIn i (xs.getD m 0) = false} => ⟨62, [(1, .v (.int .i64 n)), (2, .v (.int .i64 i)), (3, .ptr 0 0 0), (7, .v (.int .i64 (j.1 : Int)))], [(0, ⟨57, 3, [[.v (.int .i64 k), .v (.int .i64 l), aInts xs]]⟩)], [0]⟩) (μ := fun j => xs.length - j.1) ⟨0, Nat.zero_le _, fun m hm => by omega⟩ ?_ (fun ⟨j, hj, he⟩ => ?_)
  · (refine weak_id rfl ?_ ?_ <;> ((try simp only [List.mem_cons, List.not_mem_nil, or_false, forall_eq_or_imp, forall_eq]); (try simp (disch := omega) [i64w, *])))
  refine amGo PT133_ok (h := ?_)
  (focus ((with_reducible refine sp_cond (b := ?_) ?_ (fun hc => ?_) (fun hc => ?_)); rotate_left; (focus (first | rfl | (simp [lk, AS.ev]; rfl))); all_goals (try simp at hc)))
  · have hkk := hc
    clear hc
    have ho := okI_iff.2 (okInts_at hx j)
    by_cases h1 : xs.getD j 0 < 0
    · rw [all_bad hkk (by unfold badIn; rw [decide_eq_true h1]; rfl), Bool.false_and]
      refine amGo PT133_ok (h := ?_)
      ((refine post_ret (av := ?_) (by first | exact .inl rfl | exact .inr rfl) (show (Tryd.f69).results.toList = _ from by rw [Tryd.results69]) ?_ ?_); rotate_left; (focus (simp [retA, retL, ret1, lk, st, ldA, AV.cell]; rfl)); (try simp [*]))
    · by_cases h2 : i ≤ xs.getD j 0
      · rw [all_bad hkk (by unfold badIn; rw [decide_eq_true h2, Bool.or_true]), Bool.false_and]
        refine amGo PT133_ok (h := ?_)
        ((refine post_ret (av := ?_) (by first | exact .inl rfl | exact .inr rfl) (show (Tryd.f69).results.toList = _ from by rw [Tryd.results69]) ?_ ?_); rotate_left; (focus (simp [retA, retL, ret1, lk, st, ldA, AV.cell]; rfl)); (try simp [*]))
      · have h3 : badIn i (xs.getD j 0) = false := by unfold badIn; rw [decide_eq_false h1, decide_eq_false h2]; rfl
        refine amGo PT133_ok (h := ?_)
        refine k_lp (⟨j + 1, by omega, fun m hm => ?_⟩ : {j : Nat // j ≤ xs.length ∧ ∀ m, m < j → badIn i (xs.getD m 0) = false}) (by dsimp only; omega) ?_
        · by_cases e : m < j
          · exact he m e
          · obtain rfl : m = j := by omega
            exact h3
        · (refine weak_id rfl ?_ ?_ <;> ((try simp only [List.mem_cons, List.not_mem_nil, or_false, forall_eq_or_imp, forall_eq]); (try simp (disch := omega) [i64w, *])))
  · obtain rfl : j = xs.length := by omega
    rw [all_good he, Bool.true_and]
    clear hc
    by_cases k0 : k = 0
    · subst k0
      by_cases z : l = 0
      · refine amGo PT133_ok (h := ?_)
        ((refine post_ret (av := ?_) (by first | exact .inl rfl | exact .inr rfl) (show (Tryd.f69).results.toList = _ from by rw [Tryd.results69]) ?_ ?_); rotate_left; (focus (simp [retA, retL, ret1, lk, st, ldA, AV.cell]; rfl)); (try simp [*]))
        all_goals (rw [Bool.eq_iff_iff]; simp; try omega)
      · have hz : (l == 0) = false := by simp [z]
        refine amGo PT133_ok (h := ?_)
        ((refine post_ret (av := ?_) (by first | exact .inl rfl | exact .inr rfl) (show (Tryd.f69).results.toList = _ from by rw [Tryd.results69]) ?_ ?_); rotate_left; (focus (simp [retA, retL, ret1, lk, st, ldA, AV.cell]; rfl)); (try simp [*]))
    by_cases k1 : k = 1
    · subst k1
      by_cases z : l = 0
      · refine amGo PT133_ok (h := ?_)
        ((refine post_ret (av := ?_) (by first | exact .inl rfl | exact .inr rfl) (show (Tryd.f69).results.toList = _ from by rw [Tryd.results69]) ?_ ?_); rotate_left; (focus (simp [retA, retL, ret1, lk, st, ldA, AV.cell]; rfl)); (try simp [*]))
        all_goals (rw [Bool.eq_iff_iff]; simp; try omega)
      · have hz : (l == 0) = false := by simp [z]
        refine amGo PT133_ok (h := ?_)
        ((refine post_ret (av := ?_) (by first | exact .inl rfl | exact .inr rfl) (show (Tryd.f69).results.toList = _ from by rw [Tryd.results69]) ?_ ?_); rotate_left; (focus (simp [retA, retL, ret1, lk, st, ldA, AV.cell]; rfl)); (try simp [*]))
    by_cases k2 : k = 2
    · subst k2
      cases z : litOk l n
      · refine amGo PT133_ok (h := ?_)
        ((refine post_ret (av := ?_) (by first | exact .inl rfl | exact .inr rfl) (show (Tryd.f69).results.toList = _ from by rw [Tryd.results69]) ?_ ?_); rotate_left; (focus (simp [retA, retL, ret1, lk, st, ldA, AV.cell]; rfl)); (try simp [*]))
      · refine amGo PT133_ok (h := ?_)
        ((refine post_ret (av := ?_) (by first | exact .inl rfl | exact .inr rfl) (show (Tryd.f69).results.toList = _ from by rw [Tryd.results69]) ?_ ?_); rotate_left; (focus (simp [retA, retL, ret1, lk, st, ldA, AV.cell]; rfl)); (try simp [*]))
        all_goals (rw [Bool.eq_iff_iff]; simp; try omega)
    by_cases k3 : k = 3
    · subst k3
      refine amGo PT133_ok (h := ?_)
      ((refine post_ret (av := ?_) (by first | exact .inl rfl | exact .inr rfl) (show (Tryd.f69).results.toList = _ from by rw [Tryd.results69]) ?_ ?_); rotate_left; (focus (simp [retA, retL, ret1, lk, st, ldA, AV.cell]; rfl)); (try simp [*]))
      all_goals (rw [Bool.eq_iff_iff]; simp)
    by_cases k4 : k = 4
    · subst k4
      refine amGo PT133_ok (h := ?_)
      ((refine post_ret (av := ?_) (by first | exact .inl rfl | exact .inr rfl) (show (Tryd.f69).results.toList = _ from by rw [Tryd.results69]) ?_ ?_); rotate_left; (focus (simp [retA, retL, ret1, lk, st, ldA, AV.cell]; rfl)); (try simp [*]))
      all_goals (rw [Bool.eq_iff_iff]; simp)
    refine amGo PT133_ok (h := ?_)
    ((refine post_ret (av := ?_) (by first | exact .inl rfl | exact .inr rfl) (show (Tryd.f69).results.toList = _ from by rw [Tryd.results69]) ?_ ?_); rotate_left; (focus (simp [retA, retL, ret1, lk, st, ldA, AV.cell]; rfl)); (try simp [*]))
@[simp] def g_rFormed : List AV → Option (AV × Bool)
  | [.agg [.v (.int .i64 k), .v (.int .i64 l), a0], .v (.int .i64 n), .v (.int .i64 i)] => (match toInts a0 with | some xs => if (okI k && okI l && okInts xs && okI n && okI i) = true then some (.v (.bool (formB (k, l, xs) n i)), false) else none | none => none)
  | _ => none
theorem e_rFormed : EntOk Tryd.prog 69 g_rFormed := ent_pure (by kernel_rfl) fun args r fr h => by
  unfold g_rFormed at h
  split at h
  · rename_i k l a0 n i
    split at h
    · rename_i xs t0
      split at h
      · rename_i hc
        simp only [Bool.and_eq_true] at hc
        obtain ⟨⟨⟨⟨m0, l0⟩, o0⟩, o1⟩, o2⟩ := hc
        cases h
        exact ⟨FnPure.cov (rFormed_p k l n i xs m0 l0 o0 o1 o2) (.cons (cov_nd _ _ t0) (.cons (Cov.refl _) (.cons (Cov.refl _) .nil))), rfl⟩
      · cases h
    · cases h
  · cases h

def l134 : List (FuncId × (List AV → Option (AV × Bool))) :=
  (69, g_rFormed) :: l133
theorem l134_ok : ∀ p ∈ l134, EntOk Tryd.prog p.1 p.2 := ent_cons e_rFormed (l133_ok)
def PT134 : PTab := tab l134
theorem PT134_ok : PTok Tryd.prog PT134 := tab_ok l134_ok
@[simp] theorem PT134_litVar : PT134 85 = g_litVar := rfl
@[simp] theorem PT134_litValid : PT134 110 = g_litValid := rfl
@[simp] theorem PT134_with : PT134 26 = g_with := rfl
@[simp] theorem PT134_without : PT134 25 = g_without := rfl
@[simp] theorem PT134_all : PT134 29 = g_all := rfl
@[simp] theorem PT134_place : PT134 54 = g_place := rfl
@[simp] theorem PT134_vHas : PT134 36 = g_vHas := rfl
@[simp] theorem PT134_vMinus : PT134 31 = g_vMinus := rfl
@[simp] theorem PT134_vCut : PT134 22 = g_vCut := rfl
@[simp] theorem PT134_vUnion : PT134 21 = g_vUnion := rfl
@[simp] theorem PT134_vSub : PT134 72 = g_vSub := rfl
@[simp] theorem PT134_litHolds : PT134 56 = g_litHolds := rfl
@[simp] theorem PT134_nFormed : PT134 84 = g_nFormed := rfl
@[simp] theorem PT134_nCheck : PT134 55 = g_nCheck := rfl
@[simp] theorem PT134_r4Var : PT134 97 = g_r4Var := rfl
@[simp] theorem PT134_r4Valid : PT134 96 = g_r4Valid := rfl
@[simp] theorem PT134_rFormed : PT134 69 = g_rFormed := rfl
end Go.Proofs.YtecdhmiamlgibaaDoor
