/- node.Check; no condition. -/
import Derived.Test.YtecdhmiamlgibaaDoorFo39
import Derived.Test.YtecdhmiamlgibaaDoorWa
namespace Go.Proofs.YtecdhmiamlgibaaDoor
set_option linter.unusedVariables false
set_option linter.unusedSimpArgs false
set_option linter.unusedSectionVars false
open Go.RowKit
attribute [local simp] List.getD_cons_zero List.getD_cons_succ List.getD_nil undef gvars runL runE effA stepA dstOk wantA core lk st dl AS.ev AS.evs AS.put AS.upd updO updI nxt cPick cAlloc cBox cBuild cBuildS cLoad cStore cNil plainOf cBin cNilS isNilS nilA cUn cConvX cConvB cConv bytesOf rowB cMake cSlice slA idxA cFA cF cIA cIX cIS cI cExt cLen cApp cMM cFun cCall lenA lenM isNilM nilM cNilM cMakeM hintB cMapK cLook foundR lookR cUpd putM cDel delM findA isKeyB Instr.sameNow AS.entry AS.bound AS.callee sc1 sc2 ixOk ldA AV.flat AV.cell AV.cells Value.oneCell' fillA spl chunk zeros AS.parts AS.rows AS.shut AS.shut1 AS.shut2 AS.shutL AS.shutM AV.ids idsL idsLL eqAll bndA AV.scalar AV.scalar1 AV.isV Ef.app Ef.pk ptOf pntO wrO wr
attribute [-simp] List.getD_eq_getElem?_getD
set_option maxRecDepth 100000
theorem all_rangeN {n : Nat} {f : Nat → Bool} (h : ∀ j, j < n → f j = true) : (List.range n).all f = true := List.all_eq_true.2 fun j hj => h j (List.mem_range.1 hj)
theorem all_rangeF {n j : Nat} {f : Nat → Bool} (hj : j < n) (h : f j = false) : (List.range n).all f = false := List.all_eq_false.2 ⟨j, List.mem_range.2 hj, by rw [h]; decide⟩
def errN (N : Int) (ns : List Nd) : Int := if validN N ns = true then 0 else 1
theorem valid_no {N : Int} {ns : List Nd} (h : N < 0 ∨ 128 < N ∨ ns.length = 0 ∨ 65536 < ns.length) : validN N ns = false := by
  unfold validN
  rcases h with h | h | h | h
  · rw [decide_eq_false (show ¬ 0 ≤ N by omega)]; simp
  · rw [decide_eq_false (show ¬ N ≤ 128 by omega)]; simp
  · rw [decide_eq_false (show ¬ 1 ≤ ns.length by omega)]; simp
  · rw [decide_eq_false (show ¬ ns.length ≤ 65536 by omega)]; simp
theorem valid_not {N : Int} {ns : List Nd} {k : Nat} (hk : k < ns.length) (h : formB (ns.getD k nd0) N k = false) : validN N ns = false := by
  unfold validN
  rw [all_rangeF (f := fun i => formB (ns.getD i nd0) N i) hk h]; simp
theorem valid_yes {N : Int} {ns : List Nd} (h1 : 0 ≤ N) (h2 : N ≤ 128) (h3 : 1 ≤ ns.length) (h4 : ns.length ≤ 65536) (h : ∀ j, j < ns.length → formB (ns.getD j nd0) N j = true) : validN N ns = true := by
  unfold validN
  rw [decide_eq_true h1, decide_eq_true h2, decide_eq_true h3, decide_eq_true h4, all_rangeN (f := fun i => formB (ns.getD i nd0) N i) h]; rfl
theorem check_p (N : Int) (ns : List Nd) (hN : okI N = true) (h : okNs ns = true) : FnPure Tryd.prog 55 [aNet N ns] (.v (.int .i64 (errN N ns))) := by
  have hl := okNs_len h
  unfold aNet aNds errN
  by_cases n0 : N < 0
  · rw [valid_no (.inl n0)]
    refine fn_sp TT_ok Tryd.func55 (c := _) rfl (by simp [Tryd.ntmps55]) (fun B hI0 hro => ?_)
    rw [Tryd.ntmps55]
    simp only [enumA]
    refine amGo PT130_ok (h := ?_)
    ((refine post_ret (av := ?_) (by first | exact .inl rfl | exact .inr rfl) (show (Tryd.f55).results.toList = _ from by rw [Tryd.results55]) ?_ ?_); rotate_left; (focus (simp [retA, retL, ret1, lk, st, ldA, AV.cell]; rfl)); (try simp [*]))
  by_cases n1 : 128 < N
  · rw [valid_no (.inr (.inl n1))]
    refine fn_sp TT_ok Tryd.func55 (c := _) rfl (by simp [Tryd.ntmps55]) (fun B hI0 hro => ?_)
    rw [Tryd.ntmps55]
    simp only [enumA]
    refine amGo PT130_ok (h := ?_)
    ((refine post_ret (av := ?_) (by first | exact .inl rfl | exact .inr rfl) (show (Tryd.f55).results.toList = _ from by rw [Tryd.results55]) ?_ ?_); rotate_left; (focus (simp [retA, retL, ret1, lk, st, ldA, AV.cell]; rfl)); (try simp [*]))
  by_cases l0 : ns.length = 0
  · rw [valid_no (.inr (.inr (.inl l0)))]
    have l1 : (ns.length : Int) < 1 := by omega
    refine fn_sp TT_ok Tryd.func55 (c := _) rfl (by simp [Tryd.ntmps55]) (fun B hI0 hro => ?_)
    rw [Tryd.ntmps55]
    simp only [enumA]
    refine amGo PT130_ok (h := ?_)
    ((refine post_ret (av := ?_) (by first | exact .inl rfl | exact .inr rfl) (show (Tryd.f55).results.toList = _ from by rw [Tryd.results55]) ?_ ?_); rotate_left; (focus (simp [retA, retL, ret1, lk, st, ldA, AV.cell]; rfl)); (try simp [*]))
  have l1 : ¬ (ns.length : Int) < 1 := by omega
  have l2 : ¬ (65536 : Int) < (ns.length : Int) := by omega
  refine fn_sp TT_ok Tryd.func55 (c := _) rfl (by simp [Tryd.ntmps55]) (fun B hI0 hro => ?_)
  rw [Tryd.ntmps55]
  simp only [enumA]
  refine amGo PT130_ok (h := ?_)
  refine s_loop (J := fun i : {k : Nat // k ≤ ns.length ∧ ∀ j, j < k → formB (ns.getD j nd0) N j = true} => ⟨40, [(1, .ptr 0 0 0), (26, .sl 3 (ns.map fun x => [AV.v (.int .i64 x.1), .v (.int .i64 x.2.1), aInts x.2.2])), (27, .v (.int .i64 (ns.length : Int))), (28, .v (.int .i64 (i.1 : Int)))], [(0, ⟨24, 2, [[.v (.int .i64 N), .sl 3 (ns.map fun x => [AV.v (.int .i64 x.1), .v (.int .i64 x.2.1), aInts x.2.2])]]⟩)], [0]⟩) (μ := fun i => ns.length - i.1) ⟨0, Nat.zero_le _, fun j hj => by omega⟩ ?_ (fun ⟨k, hk, he⟩ => ?_)
  · (refine weak_id rfl ?_ ?_ <;> ((try simp only [List.mem_cons, List.not_mem_nil, or_false, forall_eq_or_imp, forall_eq]); (try simp (disch := omega) [i64w, *])))
  refine amGo PT130_ok (h := ?_)
  (focus ((with_reducible refine sp_cond (b := ?_) ?_ (fun hc => ?_) (fun hc => ?_)); rotate_left; (focus (first | rfl | (simp [lk, AS.ev]; rfl))); all_goals (try simp at hc)))
  · have hkk := hc
    clear hc
    obtain ⟨o1, o2, o3, _⟩ := okNs_at h hkk
    have o4 : okI (k : Int) = true := okI_iff.2 ⟨by omega, by omega⟩
    cases h1 : formB (ns.getD k nd0) N k
    · have hv := valid_not hkk h1
      refine amGo PT130_ok (h := ?_)
      ((refine post_ret (av := ?_) (by first | exact .inl rfl | exact .inr rfl) (show (Tryd.f55).results.toList = _ from by rw [Tryd.results55]) ?_ ?_); rotate_left; (focus (simp [retA, retL, ret1, lk, st, ldA, AV.cell]; rfl)); (try simp [*]))
    · refine amGo PT130_ok (h := ?_)
      refine k_lp (⟨k + 1, by omega, fun j hj => ?_⟩ : {k : Nat // k ≤ ns.length ∧ ∀ j, j < k → formB (ns.getD j nd0) N j = true}) (by dsimp only; omega) ?_
      · by_cases e : j < k
        · exact he j e
        · obtain rfl : j = k := by omega
          exact h1
      · (refine weak_id rfl ?_ ?_ <;> ((try simp only [List.mem_cons, List.not_mem_nil, or_false, forall_eq_or_imp, forall_eq]); (try simp (disch := omega) [i64w, *])))
  · obtain rfl : k = ns.length := by omega
    have hv := valid_yes (by omega) (by omega) (by omega) (by omega) he
    refine amGo PT130_ok (h := ?_)
    ((refine post_ret (av := ?_) (by first | exact .inl rfl | exact .inr rfl) (show (Tryd.f55).results.toList = _ from by rw [Tryd.results55]) ?_ ?_); rotate_left; (focus (simp [retA, retL, ret1, lk, st, ldA, AV.cell]; rfl)); (try simp [*]))
@[simp] def g_nCheck : List AV → Option (AV × Bool)
  | [.agg [.v (.int .i64 N), a0]] => (match toNds a0 with | some ns => if (okI N && okNs ns) = true then some (.v (.int .i64 (errN N ns)), false) else none | none => none)
  | _ => none
theorem e_nCheck : EntOk Tryd.prog 55 g_nCheck := ent_pure (by kernel_rfl) fun args r fr h => by
  unfold g_nCheck at h
  split at h
  · rename_i N a0
    split at h
    · rename_i ns t0
      split at h
      · rename_i hc
        simp only [Bool.and_eq_true] at hc
        obtain ⟨m0, o0⟩ := hc
        cases h
        exact ⟨FnPure.cov (check_p N ns m0 o0) (.cons (cov_th _ (cov_nds t0)) .nil), rfl⟩
      · cases h
    · cases h
  · cases h

def l131 : List (FuncId × (List AV → Option (AV × Bool))) :=
  (55, g_nCheck) :: l130
theorem l131_ok : ∀ p ∈ l131, EntOk Tryd.prog p.1 p.2 := ent_cons e_nCheck (l130_ok)
def PT131 : PTab := tab l131
theorem PT131_ok : PTok Tryd.prog PT131 := tab_ok l131_ok
@[simp] theorem PT131_litVar : PT131 85 = g_litVar := rfl
@[simp] theorem PT131_litValid : PT131 110 = g_litValid := rfl
@[simp] theorem PT131_with : PT131 26 = g_with := rfl
@[simp] theorem PT131_without : PT131 25 = g_without := rfl
@[simp] theorem PT131_all : PT131 29 = g_all := rfl
@[simp] theorem PT131_place : PT131 54 = g_place := rfl
@[simp] theorem PT131_vHas : PT131 36 = g_vHas := rfl
@[simp] theorem PT131_vMinus : PT131 31 = g_vMinus := rfl
@[simp] theorem PT131_vCut : PT131 22 = g_vCut := rfl
@[simp] theorem PT131_vUnion : PT131 21 = g_vUnion := rfl
@[simp] theorem PT131_vSub : PT131 72 = g_vSub := rfl
@[simp] theorem PT131_litHolds : PT131 56 = g_litHolds := rfl
@[simp] theorem PT131_nFormed : PT131 84 = g_nFormed := rfl
@[simp] theorem PT131_nCheck : PT131 55 = g_nCheck := rfl
end Go.Proofs.YtecdhmiamlgibaaDoor
